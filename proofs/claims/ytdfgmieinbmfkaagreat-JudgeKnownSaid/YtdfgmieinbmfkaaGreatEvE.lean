/-
  Hashes and ciphers that the kernel reckons are those of the program.
-/
import Derived.Test.YtdfgmieinbmfkaaGreatEvA
import Derived.Test.YtdfgmieinbmfkaaGreatSealM
import Derived.Laws.BitsAllLaws
import Derived.KernelRfl
namespace Go.Ev
open Go Go.Proofs.YtdfgmieinbmfkaaGreat
set_option maxRecDepth 100000
theorem cmod (a : Nat) : ((a % 4294967296 : Nat) : Int) = (a : Int) % 4294967296 := Int.natCast_emod a 4294967296
def W32 (x : Nat) : Prop := x < 4294967296
theorem xor32 {a b : Nat} (ha : W32 a) (hb : W32 b) : W32 (a ^^^ b) := Nat.xor_lt_two_pow (n := 32) ha hb
theorem or32 {a b : Nat} (ha : W32 a) (hb : W32 b) : W32 (a ||| b) := Nat.or_lt_two_pow (n := 32) ha hb
theorem and32 {a b : Nat} (ha : W32 a) : W32 (a &&& b) := Nat.lt_of_le_of_lt Nat.and_le_left ha
theorem mod32 (a : Nat) : W32 (a % 4294967296) := Nat.mod_lt _ (by decide)
theorem div32 {a : Nat} (b : Nat) (ha : W32 a) : W32 (a / b) := Nat.lt_of_le_of_lt (Nat.div_le_self a b) ha
theorem rt_eq (x p q : Nat) : rt x p q = (x * p % 4294967296) ||| (x / q) := rfl
theorem rt32 {x : Nat} (p q : Nat) (hx : W32 x) : W32 (rt x p q) := or32 (mod32 _) (div32 _ hx)
theorem rotl_c {x : Nat} (hx : W32 x) {r p q : Nat} (hp : p = 2 ^ r) (hq : q = 2 ^ (32 - r)) : rotl (x : Int) r = ((rt x p q : Nat) : Int) := by
  unfold rotl
  have e1 : (x : Int) * 2 ^ r % 4294967296 = ((x * p % 4294967296 : Nat) : Int) := by subst hp; rw [cmod, Int.natCast_mul, Int.natCast_pow]; rfl
  have e2 : (x : Int) / 2 ^ (32 - r) = ((x / q : Nat) : Int) := by subst hq; rw [Int.natCast_ediv, Int.natCast_pow]; rfl
  rw [e1, e2, u32_or_nat _ _ (mod32 _) (div32 _ hx), rt_eq]
theorem sg0_32 {x : Nat} (hx : W32 x) : W32 (sg0N x) := xor32 (xor32 (rt32 _ _ hx) (rt32 _ _ hx)) (div32 _ hx)
theorem sg1_32 {x : Nat} (hx : W32 x) : W32 (sg1N x) := xor32 (xor32 (rt32 _ _ hx) (rt32 _ _ hx)) (div32 _ hx)
theorem sg0_c {x : Nat} (hx : W32 x) : sg0 (x : Int) = ((sg0N x : Nat) : Int) := by
  unfold sg0
  rw [rotl_c hx (p := 33554432) (q := 128) (by decide) (by decide), rotl_c hx (p := 16384) (q := 262144) (by decide) (by decide),
    u32_xor_nat _ _ (rt32 _ _ hx) (rt32 _ _ hx), show (x : Int) / 8 = ((x / 8 : Nat) : Int) from (Int.natCast_ediv x 8).symm, u32_xor_nat _ _ (xor32 (rt32 _ _ hx) (rt32 _ _ hx)) (div32 _ hx)]
  rfl
theorem sg1_c {x : Nat} (hx : W32 x) : sg1 (x : Int) = ((sg1N x : Nat) : Int) := by
  unfold sg1
  rw [rotl_c hx (p := 32768) (q := 131072) (by decide) (by decide), rotl_c hx (p := 8192) (q := 524288) (by decide) (by decide),
    u32_xor_nat _ _ (rt32 _ _ hx) (rt32 _ _ hx), show (x : Int) / 1024 = ((x / 1024 : Nat) : Int) from (Int.natCast_ediv x 1024).symm, u32_xor_nat _ _ (xor32 (rt32 _ _ hx) (rt32 _ _ hx)) (div32 _ hx)]
  rfl
def cs (l : List Nat) : List Int := l.map fun (x : Nat) => (x : Int)
def Al (l : List Nat) : Prop := ∀ x ∈ l, W32 x
theorem cs_get (l : List Nat) (i : Nat) : (cs l).getD i 0 = ((l.getD i 0 : Nat) : Int) := by
  unfold cs
  rw [List.getD_eq_getElem?_getD, List.getD_eq_getElem?_getD, List.getElem?_map]
  cases l[i]? <;> rfl
theorem Al.get {l : List Nat} (h : Al l) (i : Nat) : W32 (l.getD i 0) := by
  rw [List.getD_eq_getElem?_getD]
  cases hi : l[i]? with
  | none => exact (by decide : (0 : Nat) < 4294967296)
  | some x => exact h x (List.mem_of_getElem? hi)
theorem getR_eq : ∀ (l : List Nat) (i : Nat), getR l i = l.getD i 0 := by
  intro l
  induction l with
  | nil => intro i; rfl
  | cons a l ih => intro i; cases i with
    | zero => rfl
    | succ i => exact ih i
noncomputable def sch1 (l : List Nat) : List Nat := nextN (getR l 15) (getR l 14) (getR l 6) (getR l 1) :: l
noncomputable def schI : Nat → List Nat → List Nat
  | 0, l => l
  | k + 1, l => sch1 (schI k l)
theorem schI_in (k : Nat) : ∀ l, schI k (sch1 l) = sch1 (schI k l) := by
  induction k with
  | zero => intro l; rfl
  | succ k ih => intro l; show sch1 (schI k (sch1 l)) = _; rw [ih]; rfl
theorem schN_eq (k : Nat) : ∀ l, schN k l = schI k l := by
  induction k with
  | zero => intro l; rfl
  | succ k ih =>
    intro l
    show fc (nextN (getR l 15) (getR l 14) (getR l 6) (getR l 1)) (fun w => schN k (w :: l)) = _
    rw [fc_eq, ih]
    exact schI_in k l
theorem schI_len (k : Nat) (l : List Nat) : (schI k l).length = l.length + k := by
  induction k with
  | zero => rfl
  | succ k ih => show (_ :: schI k l).length = _; rw [List.length_cons, ih]; omega
theorem sch1_al {l : List Nat} (h : Al l) : Al (sch1 l) := by
  intro x hx
  rcases List.mem_cons.1 hx with rfl | hx
  · exact mod32 _
  · exact h x hx
theorem schI_al {l : List Nat} (h : Al l) (k : Nat) : Al (schI k l) := by
  induction k with
  | zero => exact h
  | succ k ih => exact sch1_al ih
theorem back_get {l : List Nat} {t : List Int} {i j : Nat} (h : i + j + 1 = l.length) : (cs l.reverse ++ t).getD i 0 = ((l.getD j 0 : Nat) : Int) := by
  have hi : i < (cs l.reverse).length := by simp [cs]; omega
  rw [List.getD_eq_getElem?_getD, List.getElem?_append_left hi]
  unfold cs
  rw [List.getElem?_map, List.getElem?_reverse (by omega), show l.length - 1 - i = j by omega, List.getD_eq_getElem?_getD]
  have hj : j < l.length := by omega
  rw [List.getElem?_eq_getElem hj]; rfl
theorem next_c {l : List Nat} (h : Al l) {j : Nat} (hl : l.length = 16 + j) (t : List Int) : nextW (cs l.reverse ++ t) (16 + j) = ((nextN (getR l 15) (getR l 14) (getR l 6) (getR l 1) : Nat) : Int) := by
  unfold nextW
  rw [back_get (i := 16 + j - 16) (j := 15) (by omega), back_get (i := 16 + j - 15) (j := 14) (by omega), back_get (i := 16 + j - 7) (j := 6) (by omega), back_get (i := 16 + j - 2) (j := 1) (by omega),
    sg0_c (h.get 14), sg1_c (h.get 1), getR_eq, getR_eq, getR_eq, getR_eq]
  unfold nextN
  show _ = (((((l.getD 15 0 + sg0N (l.getD 14 0)) % 4294967296 + l.getD 6 0) % 4294967296 + sg1N (l.getD 1 0)) % 4294967296 : Nat) : Int)
  simp only [cmod, Int.natCast_add]
theorem wOn_c {l : List Nat} (h : Al l) (hl : l.length = 16) : ∀ k, k ≤ 48 → wOn (cs l.reverse ++ List.replicate 48 0) k = cs (schI k l).reverse ++ List.replicate (48 - k) 0 := by
  intro k
  induction k with
  | zero => intro _; rfl
  | succ k ih =>
    intro hk
    have hlen := schI_len k l
    rw [wOn_succ, ih (by omega), next_c (schI_al h k) (j := k) (by omega)]
    have e : List.replicate (48 - k) (0 : Int) = 0 :: List.replicate (48 - (k + 1)) 0 := by rw [show 48 - k = (48 - (k + 1)) + 1 by omega]; rfl
    rw [e, List.set_append_right _ _ (by simp [cs]; omega)]
    have e2 : 16 + k - (cs (schI k l).reverse).length = 0 := by simp [cs]; omega
    rw [e2]
    show cs (schI k l).reverse ++ (_ :: List.replicate (48 - (k + 1)) 0) = cs (sch1 (schI k l)).reverse ++ _
    unfold sch1 cs
    simp
/-! rounds -/
def HL : H8 → List Int
  | .mk a b c d e f g h => cs [a, b, c, d, e, f, g, h]
def HU : H8 → Prop
  | .mk a b c d e f g h => Al [a, b, c, d, e, f, g, h]
theorem al8 {a b c d e f g h : Nat} (k : Al [a, b, c, d, e, f, g, h]) : W32 a ∧ W32 b ∧ W32 c ∧ W32 d ∧ W32 e ∧ W32 f ∧ W32 g ∧ W32 h :=
  ⟨k a (by simp), k b (by simp), k c (by simp), k d (by simp), k e (by simp), k f (by simp), k g (by simp), k h (by simp)⟩
theorem amt6 : amt (-6) = 26 ∧ amt (-11) = 21 ∧ amt (-25) = 7 ∧ amt (-2) = 30 ∧ amt (-13) = 19 ∧ amt (-22) = 10 := by decide
theorem tN_c {e f g h k w : Nat} (he : W32 e) (hf : W32 f) (hg : W32 g) : roundT (e : Int) f g h k w = ((tN e f g h k w : Nat) : Int) := by
  obtain ⟨a1, a2, a3, _, _, _⟩ := amt6
  unfold roundT
  rw [a1, a2, a3, rotl_c he (p := 67108864) (q := 64) (by decide) (by decide), rotl_c he (p := 2097152) (q := 2048) (by decide) (by decide), rotl_c he (p := 128) (q := 33554432) (by decide) (by decide),
    u32_xor_nat _ _ (rt32 _ _ he) (rt32 _ _ he), u32_xor_nat _ _ (xor32 (rt32 _ _ he) (rt32 _ _ he)) (rt32 _ _ he), u32_and_nat _ _ he hf,
    show (4294967295 : Int) = ((4294967295 : Nat) : Int) from rfl, u32_xor_nat _ _ (by decide) he, u32_and_nat _ _ (xor32 (by unfold W32; decide) he) hg, u32_xor_nat _ _ (and32 he) (and32 (xor32 (by unfold W32; decide) he))]
  show _ = ((((h + (((rt e 67108864 64 ^^^ rt e 2097152 2048) ^^^ rt e 128 33554432)) + ((e &&& f) ^^^ ((4294967295 ^^^ e) &&& g)) + k) % 4294967296 + w) % 4294967296 : Nat) : Int)
  simp only [cmod, Int.natCast_add]
theorem uN_c {a b c : Nat} (ha : W32 a) (hb : W32 b) (hc : W32 c) : roundU (a : Int) b c = ((uN a b c : Nat) : Int) := by
  obtain ⟨_, _, _, a1, a2, a3⟩ := amt6
  unfold roundU
  rw [a1, a2, a3, rotl_c ha (p := 1073741824) (q := 4) (by decide) (by decide), rotl_c ha (p := 524288) (q := 8192) (by decide) (by decide), rotl_c ha (p := 1024) (q := 4194304) (by decide) (by decide),
    u32_xor_nat _ _ (rt32 _ _ ha) (rt32 _ _ ha), u32_xor_nat _ _ (xor32 (rt32 _ _ ha) (rt32 _ _ ha)) (rt32 _ _ ha), u32_and_nat _ _ ha hb, u32_and_nat _ _ ha hc, u32_and_nat _ _ hb hc,
    u32_xor_nat _ _ (and32 ha) (and32 ha), u32_xor_nat _ _ (xor32 (and32 ha) (and32 ha)) (and32 hb)]
  show _ = (((((rt a 1073741824 4 ^^^ rt a 524288 8192) ^^^ rt a 1024 4194304) + (((a &&& b) ^^^ (a &&& c)) ^^^ (b &&& c))) % 4294967296 : Nat) : Int)
  simp only [cmod, Int.natCast_add]
def rnd1 (k w : Nat) : H8 → H8
  | .mk a b c d e f g h => .mk ((tN e f g h k w + uN a b c) % 4294967296) a b c ((d + tN e f g h k w) % 4294967296) e f g
theorem rndN_cons (k : Nat) (K : List Nat) (w : Nat) (W : List Nat) (s : H8) : rndN (k :: K) (w :: W) s = rndN K W (rnd1 k w s) := by
  obtain ⟨a, b, c, d, e, f, g, h⟩ := s
  show (fc (tN e f g h k w) fun t => fc (Nat.mod (Nat.add d t) 4294967296) fun e' => fc (Nat.mod (Nat.add t (uN a b c)) 4294967296) fun a' => rndN K W (.mk a' a b c e' e f g)) = _
  rw [fc_eq, fc_eq, fc_eq]; rfl
theorem rnd1_u {s : H8} (h : HU s) (k w : Nat) : HU (rnd1 k w s) := by
  obtain ⟨a, b, c, d, e, f, g, h'⟩ := s
  obtain ⟨h1, h2, h3, h4, h5, h6, h7, h8⟩ := al8 h
  intro x hx
  simp only [List.mem_cons, List.not_mem_nil, or_false] at hx
  rcases hx with rfl | rfl | rfl | rfl | rfl | rfl | rfl | rfl <;> first | assumption | exact mod32 _
theorem rnd1_c {s : H8} (h : HU s) (k w : Nat) : roundB (HL s) k w = HL (rnd1 k w s) := by
  obtain ⟨a, b, c, d, e, f, g, h'⟩ := s
  obtain ⟨h1, h2, h3, h4, h5, h6, h7, h8⟩ := al8 h
  show [(roundT (e : Int) f g h' k w + roundU (a : Int) b c) % 4294967296, (a : Int), b, c, ((d : Int) + roundT (e : Int) f g h' k w) % 4294967296, e, f, g] = _
  rw [tN_c h5 h6 h7, uN_c h1 h2 h3]
  show _ = [(((tN e f g h' k w + uN a b c) % 4294967296 : Nat) : Int), (a : Int), b, c, (((d + tN e f g h' k w) % 4294967296 : Nat) : Int), e, f, g]
  simp only [cmod, Int.natCast_add]
theorem rounds_cons (k : Int) (K : List Int) (w : Int) (W : List Int) (b : List Int) (n : Nat) : rounds (k :: K) (w :: W) b (n + 1) = rounds K W (roundB b k w) n := by
  unfold rounds
  rw [List.range_succ_eq_map, List.foldl_cons, List.foldl_map]
  rfl
theorem rndN_c : ∀ (K W : List Nat) (s : H8), HU s → K.length = W.length → rounds (cs K) (cs W) (HL s) K.length = HL (rndN K W s) ∧ HU (rndN K W s) := by
  intro K
  induction K with
  | nil => intro W s hs _; exact ⟨rfl, hs⟩
  | cons k K ih =>
    intro W s hs hl
    cases W with
    | nil => simp at hl
    | cons w W =>
      rw [rndN_cons]
      obtain ⟨h1, h2⟩ := ih W (rnd1 k w s) (rnd1_u hs k w) (by simpa using hl)
      refine ⟨?_, h2⟩
      show rounds ((k : Int) :: cs K) ((w : Int) :: cs W) (HL s) (K.length + 1) = _
      rw [rounds_cons, rnd1_c hs, h1]
theorem add_c {x y : H8} : addH (HL x) (HL y) 8 = HL (addN x y) ∧ HU (addN x y) := by
  obtain ⟨a, b, c, d, e, f, g, h⟩ := x
  obtain ⟨a', b', c', d', e', f', g', h'⟩ := y
  have hN : addN (.mk a b c d e f g h) (.mk a' b' c' d' e' f' g' h') = .mk (ad a a') (ad b b') (ad c c') (ad d d') (ad e e') (ad f f') (ad g g') (ad h h') := by
    show (fc (ad a a') fun a => fc (ad b b') fun b => fc (ad c c') fun c => fc (ad d d') fun d => fc (ad e e') fun e => fc (ad f f') fun f => fc (ad g g') fun g => fc (ad h h') fun h => H8.mk a b c d e f g h) = _
    simp only [fc_eq]
  rw [hN]
  refine ⟨?_, ?_⟩
  · have : ∀ x y : Nat, ((ad x y : Nat) : Int) = ((x : Int) + y) % 4294967296 := fun x y => by
      show (((x + y) % 4294967296 : Nat) : Int) = _
      simp only [cmod, Int.natCast_add]
    simp only [HL, cs, List.map_cons, List.map_nil, this]
    rfl
  · intro x hx
    simp only [List.mem_cons, List.not_mem_nil, or_false] at hx
    rcases hx with rfl | rfl | rfl | rfl | rfl | rfl | rfl | rfl <;> exact mod32 _
theorem revN_eq : ∀ (l t : List Nat), revN l t = l.reverse ++ t := by
  intro l
  induction l with
  | nil => intro t; rfl
  | cons a l ih => intro t; show revN l (a :: t) = _; rw [ih]; simp
/-! words -/
def tn (l : List UInt8) : List Nat := l.map UInt8.toNat
def wAt (s : List UInt8) (i : Nat) : Nat := beN ((s.drop (4 * i)).take 4)
theorem wAt_32 (s : List UInt8) (i : Nat) : W32 (wAt s i) := by
  have h := beN_lt ((s.drop (4 * i)).take 4)
  exact Nat.lt_of_lt_of_le h (Nat.le_trans (Nat.pow_le_pow_right (by omega) (show 8 * ((s.drop (4 * i)).take 4).length ≤ 32 by simp; omega)) (by decide))
theorem wrdN_eq {α : Type} : ∀ (n : Nat) (s : List UInt8) (acc : List Nat) (k : List Nat → List Nat → α), 4 * n ≤ s.length →
    wrdN n (tn s) acc k = k (((List.range n).map (wAt s)).reverse ++ acc) (tn (s.drop (4 * n))) := by
  intro n
  induction n with
  | zero => intro s acc k _; rfl
  | succ n ih =>
    intro s acc k hn
    match s, hn with
    | a :: b :: c :: d :: r, hn =>
      show fc (Nat.add (Nat.mul (Nat.add (Nat.mul (Nat.add (Nat.mul a.toNat 256) b.toNat) 256) c.toNat) 256) d.toNat) (fun w => wrdN n (tn r) (w :: acc) k) = _
      rw [fc_eq, ih r _ k (by simp at hn; omega), List.range_succ_eq_map, List.map_cons, List.map_map, List.reverse_cons, List.append_assoc]
      have e1 : wAt (a :: b :: c :: d :: r) 0 = Nat.add (Nat.mul (Nat.add (Nat.mul (Nat.add (Nat.mul a.toNat 256) b.toNat) 256) c.toNat) 256) d.toNat := by
        show ((((0 * 256 + a.toNat) * 256 + b.toNat) * 256 + c.toNat) * 256 + d.toNat) = (((a.toNat * 256 + b.toNat) * 256 + c.toNat) * 256 + d.toNat)
        omega
      have e2 : (wAt (a :: b :: c :: d :: r)) ∘ Nat.succ = wAt r := by
        funext i
        show beN (((a :: b :: c :: d :: r).drop (4 * (i + 1))).take 4) = _
        rw [show 4 * (i + 1) = 4 * i + 4 by omega]; rfl
      have e3 : (a :: b :: c :: d :: r).drop (4 * (n + 1)) = r.drop (4 * n) := by
        rw [show 4 * (n + 1) = 4 * n + 4 by omega]; rfl
      rw [e1, e2, e3]; rfl
theorem wIn_c (s : List UInt8) : ∀ k, k ≤ 64 → wIn s k = cs ((List.range k).map (wAt s)) ++ List.replicate (64 - k) 0 := by
  intro k
  induction k with
  | zero => intro _; rfl
  | succ k ih =>
    intro hk
    rw [wIn_succ, ih (by omega)]
    have e : List.replicate (64 - k) (0 : Int) = 0 :: List.replicate (64 - (k + 1)) 0 := by rw [show 64 - k = (64 - (k + 1)) + 1 by omega]; rfl
    rw [e, List.set_append_right _ _ (by simp [cs])]
    have e2 : k - (cs ((List.range k).map (wAt s))).length = 0 := by simp [cs]
    rw [e2, List.range_succ]
    simp [cs, wordAt, wAt]
theorem kN_c : cs kN = hashK := by decide
theorem blk_c {h : H8} (hh : HU h) {s : List UInt8} (_hs : 64 ≤ s.length) : turnL (HL h) (HL h) hashK s = HL (blkN h ((List.range 16).map (wAt s)).reverse) ∧ HU (blkN h ((List.range 16).map (wAt s)).reverse) := by
  have hal : Al ((List.range 16).map (wAt s)).reverse := by
    intro x hx
    rw [List.mem_reverse] at hx
    obtain ⟨i, _, rfl⟩ := List.mem_map.1 hx
    exact wAt_32 s i
  have hl : ((List.range 16).map (wAt s)).reverse.length = 16 := by simp
  have e1 : wOn (wIn s 16) 48 = cs (schN 48 ((List.range 16).map (wAt s)).reverse).reverse := by
    rw [wIn_c s 16 (by omega)]
    have := wOn_c hal hl 48 (by omega)
    rw [List.reverse_reverse] at this
    rw [this, schN_eq]; simp
  have hK : kN.length = (schN 48 ((List.range 16).map (wAt s)).reverse).reverse.length := by
    rw [schN_eq, List.length_reverse, schI_len, hl]; rfl
  obtain ⟨h1, h2⟩ := rndN_c kN (schN 48 ((List.range 16).map (wAt s)).reverse).reverse h hh hK
  unfold turnL blkN
  rw [e1, ← kN_c, show (64 : Nat) = kN.length from rfl, h1, revN_eq, List.append_nil]
  exact add_c
theorem hsh_c : ∀ (n : Nat) (h : H8) (s : List UInt8), HU h → 64 * n ≤ s.length → hashN n (HL h) s = HL (hshN n h (tn s)) ∧ HU (hshN n h (tn s)) := by
  intro n
  induction n with
  | zero => intro h s hh _; exact ⟨rfl, hh⟩
  | succ n ih =>
    intro h s hh hn
    have e : hshN (n + 1) h (tn s) = hshN n (blkN h ((List.range 16).map (wAt s)).reverse) (tn (s.drop 64)) := by
      show wrdN 16 (tn s) [] (fun ws r => hshN n (blkN h ws) r) = _
      rw [wrdN_eq 16 s [] _ (by omega), List.append_nil]
    have hw : ∀ i, i < 16 → wAt (s.take 64) i = wAt s i := fun i hi => by
      unfold wAt
      rw [List.drop_take, List.take_take, Nat.min_eq_left (by omega)]
    have hm : (List.range 16).map (wAt (s.take 64)) = (List.range 16).map (wAt s) := List.map_congr_left fun i hi => hw i (List.mem_range.1 hi)
    obtain ⟨b1, b2⟩ := blk_c hh (s := s.take 64) (by simp; omega)
    rw [hm] at b1 b2
    rw [e]
    show hashN n (turnL (HL h) (HL h) hashK (s.take 64)) (s.drop 64) = _ ∧ _
    rw [b1]
    exact ih _ _ b2 (by simp; omega)
end Go.Ev
namespace Go.Ev
open Go Go.Proofs.YtdfgmieinbmfkaaGreat
set_option maxRecDepth 100000
theorem appN_eq : ∀ (l t : List Nat), appN l t = l ++ t := by
  intro l
  induction l with
  | nil => intro t; rfl
  | cons a l ih => intro t; show a :: appN l t = _; rw [ih]; rfl
theorem repN_eq (a : Nat) : ∀ (n : Nat) (t : List Nat), repN a n t = List.replicate n a ++ t := by
  intro n
  induction n with
  | zero => intro t; rfl
  | succ n ih => intro t; show a :: repN a n t = _; rw [ih]; rfl
theorem frcN_eq {α : Type} : ∀ (l : List Nat) (k : List Nat → α), frcN l k = k l := by
  intro l
  induction l with
  | nil => intro k; rfl
  | cons a l ih => intro k; show fc a (fun a => frcN l fun l => k (a :: l)) = _; rw [fc_eq, ih]
theorem beB_4 (n : Nat) (l : List Nat) : by4 n l = tn (beB n 4) ++ l := by
  show _ = (UInt8.ofNat (n / 2 ^ 24)).toNat :: (UInt8.ofNat (n / 2 ^ 16)).toNat :: (UInt8.ofNat (n / 2 ^ 8)).toNat :: (UInt8.ofNat (n / 2 ^ 0)).toNat :: l
  simp only [UInt8.toNat_ofNat']
  show [n / 16777216 % 256, n / 65536 % 256, n / 256 % 256, n % 256] ++ l = [n / 2 ^ 24 % 2 ^ 8, n / 2 ^ 16 % 2 ^ 8, n / 2 ^ 8 % 2 ^ 8, n / 2 ^ 0 % 2 ^ 8] ++ l
  simp
theorem beB_8 (n : Nat) : by8 n = tn (beB n 8) := by
  unfold by8
  rw [beB_4, beB_4]
  show _ = (UInt8.ofNat (n / 2 ^ 56)).toNat :: (UInt8.ofNat (n / 2 ^ 48)).toNat :: (UInt8.ofNat (n / 2 ^ 40)).toNat :: (UInt8.ofNat (n / 2 ^ 32)).toNat :: tn (beB n 4)
  have e : ∀ k, (n / 4294967296) / 2 ^ k = n / 2 ^ (32 + k) := fun k => by
    rw [Nat.div_div_eq_div_mul, Nat.pow_add]
  show ((UInt8.ofNat ((n / 4294967296) / 2 ^ 24)).toNat :: (UInt8.ofNat ((n / 4294967296) / 2 ^ 16)).toNat :: (UInt8.ofNat ((n / 4294967296) / 2 ^ 8)).toNat :: (UInt8.ofNat ((n / 4294967296) / 2 ^ 0)).toNat :: []) ++ (tn (beB n 4) ++ []) = _
  rw [e, e, e, e, List.append_nil]
  rfl
theorem hashN_split : ∀ (q r : Nat) (h : List Int) (P : List UInt8), hashN (q + r) h P = hashN r (hashN q h P) (P.drop (64 * q)) := by
  intro q
  induction q with
  | zero => intro r h P; rw [Nat.zero_add]; rfl
  | succ q ih =>
    intro r h P
    rw [show q + 1 + r = (q + r) + 1 by omega]
    show hashN (q + r) (turnL h h hashK (P.take 64)) (P.drop 64) = hashN r (hashN q (turnL h h hashK (P.take 64)) (P.drop 64)) _
    rw [ih, List.drop_drop]
    congr 2
    omega
theorem hashN_take : ∀ (q : Nat) (h : List Int) (s t : List UInt8), 64 * q ≤ s.length → hashN q h (s ++ t) = hashN q h s := by
  intro q
  induction q with
  | zero => intro h s t _; rfl
  | succ q ih =>
    intro h s t hq
    show hashN q (turnL h h hashK ((s ++ t).take 64)) ((s ++ t).drop 64) = hashN q (turnL h h hashK (s.take 64)) (s.drop 64)
    rw [List.take_append_of_le_length (by omega), List.drop_append_of_le_length (by omega), ih _ _ _ (by simp; omega)]
theorem h0_c : HL h0N = hash0 ∧ HU h0N := by
  refine ⟨by decide, ?_⟩
  intro x hx
  simp only [List.mem_cons, List.not_mem_nil, or_false] at hx
  rcases hx with rfl | rfl | rfl | rfl | rfl | rfl | rfl | rfl <;> (unfold W32; decide)
theorem outN_c (h : H8) (l : List Nat) : outN h l = tn (outL (HL h)) ++ l := by
  obtain ⟨a, b, c, d, e, f, g, i⟩ := h
  show by4 a (by4 b (by4 c (by4 d (by4 e (by4 f (by4 g (by4 i l))))))) = tn (beB (a : Int).toNat 4 ++ (beB (b : Int).toNat 4 ++ (beB (c : Int).toNat 4 ++ (beB (d : Int).toNat 4 ++ (beB (e : Int).toNat 4 ++ (beB (f : Int).toNat 4 ++ (beB (g : Int).toNat 4 ++ (beB (i : Int).toNat 4 ++ [])))))))) ++ l
  simp only [beB_4, Int.toNat_natCast, tn, List.map_append, List.append_assoc, List.map_nil, List.nil_append]
/-- a hash -/
theorem shaN_c {α : Type} (s : List UInt8) (k : List Nat → α) : shaN (tn s) s.length k = k (tn (shaL s)) := by
  unfold shaN
  rw [frcN_eq]
  congr 1
  rw [outN_c, List.append_nil]
  congr 1
  have hz : (119 - s.length % 64) % 64 = (119 - (s.drop (64 * (s.length / 64))).length % 64) % 64 := by
    rw [List.length_drop]
    have : (s.length - 64 * (s.length / 64)) % 64 = s.length % 64 := by omega
    rw [this]
  have hP : padN (tn s) s.length = tn (s ++ 128 :: (List.replicate ((119 - s.length % 64) % 64) 0 ++ beB (8 * s.length) 8)) := by
    unfold padN
    rw [appN_eq, repN_eq, beB_8]
    show tn s ++ (128 :: (List.replicate ((119 - s.length % 64) % 64) 0 ++ tn (beB (8 * s.length) 8))) = _
    simp [tn]
  have hd : (s ++ 128 :: (List.replicate ((119 - s.length % 64) % 64) 0 ++ beB (8 * s.length) 8)).drop (64 * (s.length / 64)) = padB (s.drop (64 * (s.length / 64))) s.length := by
    unfold padB
    rw [List.drop_append_of_le_length (by omega), hz]
  have hlen : (s ++ 128 :: (List.replicate ((119 - s.length % 64) % 64) 0 ++ beB (8 * s.length) 8)).length = s.length + 9 + (119 - s.length % 64) % 64 := by
    simp only [List.length_append, List.length_cons, List.length_replicate, beB_len]; omega
  have hq : Nat.div (Nat.add s.length 72) 64 = s.length / 64 + (padB (s.drop (64 * (s.length / 64))) s.length).length / 64 := by
    rw [← hd, List.length_drop, hlen]
    show (s.length + 72) / 64 = _
    omega
  rw [hP, hq]
  have hx := hsh_c (s.length / 64 + (padB (s.drop (64 * (s.length / 64))) s.length).length / 64) h0N (s ++ 128 :: (List.replicate ((119 - s.length % 64) % 64) 0 ++ beB (8 * s.length) 8)) h0_c.2 (by
    rw [hlen, ← hd, List.length_drop, hlen]; omega)
  rw [← hx.1, h0_c.1, hashN_split, hd, hashN_take _ _ _ _ (by omega)]
  rfl
theorem mapXor_eq (b : UInt8) : ∀ (l : List UInt8) (t : List Nat), mapXor b.toNat (tn l) t = tn (l.map (· ^^^ b)) ++ t := by
  intro l
  induction l with
  | nil => intro t; rfl
  | cons a l ih =>
    intro t
    show (a.toNat ^^^ b.toNat) :: mapXor b.toNat (tn l) t = _
    rw [ih, ← UInt8.toNat_xor]; rfl
theorem tn_len (l : List UInt8) : (tn l).length = l.length := by simp [tn]
theorem padK_c (b : UInt8) (key : List UInt8) (text : List UInt8) : mapXor b.toNat (tn key) (repN b.toNat (64 - key.length) (tn text)) = tn (padK key b ++ text) := by
  rw [mapXor_eq, repN_eq]
  unfold padK
  simp [tn]
/-- a tag -/
theorem tagN_c {α : Type} (key text : List UInt8) (hk : key.length ≤ 64) (k : List Nat → α) : tagN (tn key) key.length (tn text) text.length k = k (tn (tagL key text)) := by
  unfold tagN
  have e1 := padK_c 54 key text
  have l1 : Nat.add 64 text.length = (padK key 54 ++ text).length := by rw [List.length_append, padK_len hk]; rfl
  have hs : mapXor 54 (tn key) (repN 54 (Nat.sub 64 key.length) (tn text)) = tn (padK key 54 ++ text) := e1
  rw [hs, l1, shaN_c]
  have e2 := padK_c 92 key (shaL (padK key 54 ++ text))
  have l2 : (96 : Nat) = (padK key 92 ++ shaL (padK key 54 ++ text)).length := by rw [List.length_append, padK_len hk, shaL_len]
  have hs2 : mapXor 92 (tn key) (repN 92 (Nat.sub 64 key.length) (tn (shaL (padK key 54 ++ text)))) = tn (padK key 92 ++ shaL (padK key 54 ++ text)) := e2
  rw [hs2]
  have : shaN (tn (padK key 92 ++ shaL (padK key 54 ++ text))) 96 k = k (tn (shaL (padK key 92 ++ shaL (padK key 54 ++ text)))) := by
    rw [l2]; exact shaN_c _ k
  exact this
end Go.Ev
namespace Go.Ev
open Go Go.Proofs.YtdfgmieinbmfkaaGreat
set_option maxRecDepth 100000
theorem tn_get (l : List UInt8) (i : Nat) : getR (tn l) i = (l.getD i 0).toNat := by
  rw [getR_eq, List.getD_eq_getElem?_getD, List.getD_eq_getElem?_getD]
  unfold tn
  rw [List.getElem?_map]
  cases l[i]? <;> rfl
noncomputable def sbAll : Nat → List UInt8 → Bool := @Nat.rec (fun _ => List UInt8 → Bool) (fun _ => true) (fun n ih l => @List.rec UInt8 (fun _ => Bool) false (fun a r _ => @Bool.rec (fun _ => Bool) false (ih r) (Nat.beq a.toNat (sbN (Nat.sub 256 (Nat.succ n))))) l)
theorem sbAll_ok : sbAll 256 boxL = true := by kernel_rfl
theorem sbAll_inv : ∀ (n : Nat) (l : List UInt8), n ≤ 256 → sbAll n l = true → ∀ i, i < n → (l.getD i 0).toNat = sbN (256 - n + i) := by
  intro n
  induction n with
  | zero => intro l _ _ i hi; omega
  | succ n ih =>
    intro l hn h i hi
    cases l with
    | nil => cases h
    | cons a r =>
      have h : @Bool.rec (fun _ => Bool) false (sbAll n r) (Nat.beq a.toNat (sbN (256 - (n + 1)))) = true := h
      cases hb : Nat.beq a.toNat (sbN (256 - (n + 1))) with
      | false => rw [hb] at h; cases h
      | true =>
        rw [hb] at h
        cases i with
        | zero => exact Nat.eq_of_beq_eq_true hb
        | succ i =>
          have := ih r (by omega) h i (by omega)
          rw [show 256 - (n + 1) + (i + 1) = 256 - n + i by omega]
          exact this
theorem sbN_c (b : UInt8) : sbN b.toNat = (boxL.getD b.toNat 0).toNat := by
  have := sbAll_inv 256 boxL (by omega) sbAll_ok b.toNat b.toNat_lt
  rw [this]; congr 1; omega
theorem twN_all : ∀ n : Fin 256, twN n.val = (twU (UInt8.ofNat n.val)).toNat := by decide
theorem twN_c (b : UInt8) : twN b.toNat = (twU b).toNat := by
  have := twN_all ⟨b.toNat, b.toNat_lt⟩
  simpa using this
theorem mapI_eq (f : Nat → Nat) : ∀ (n i : Nat), mapI f n i = (List.range n).map fun j => f (i + j) := by
  intro n
  induction n with
  | zero => intro i; rfl
  | succ n ih =>
    intro i
    show f i :: mapI f n (i + 1) = _
    rw [ih, List.range_succ_eq_map, List.map_cons, List.map_map]
    refine congr (congrArg List.cons rfl) (List.map_congr_left fun j _ => ?_)
    show f (i + 1 + j) = f (i + (j + 1))
    congr 1; omega
theorem map16 {f : Nat → Nat} {h : Nat → UInt8} (e : ∀ i, f i = (h i).toNat) : mapI f 16 0 = tn ((List.range 16).map h) := by
  rw [mapI_eq]
  unfold tn
  rw [List.map_map]
  exact List.map_congr_left fun j _ => by rw [Nat.zero_add]; exact e j
theorem addB_c (w b : List UInt8) (r : Nat) : addB (tn w) (tn b) r = tn (addK w b r) :=
  map16 fun i => by
    show getR (tn b) i ^^^ getR (tn w) (16 * r + i) = _
    rw [tn_get, tn_get, ← UInt8.toNat_xor]
theorem subB_c (b : List UInt8) : subB (tn b) = tn (subK b) :=
  map16 fun i => by
    show sbN (getR (tn b) ((i + 4 * (i % 4)) % 16)) = _
    rw [tn_get, sbN_c]
theorem mixB_c (b : List UInt8) : mixB (tn b) = tn (mixK b) :=
  map16 fun i => by
    show fc (i / 4 * 4) (fun c => fc (getR (tn b) (c + (i + 1) % 4)) fun n1 => (((twN (getR (tn b) (c + (i + 0) % 4)) ^^^ twN n1) ^^^ n1) ^^^ getR (tn b) (c + (i + 2) % 4)) ^^^ getR (tn b) (c + (i + 3) % 4)) = _
    rw [fc_eq, fc_eq, tn_get, tn_get, tn_get, tn_get, twN_c, twN_c, ← UInt8.toNat_xor, ← UInt8.toNat_xor, ← UInt8.toNat_xor, ← UInt8.toNat_xor]
theorem rndB_c (w : List UInt8) : ∀ (r : Nat) (b : List UInt8) (k : List Nat → List Nat), rndB (tn w) r (tn b) k = k (tn (roundK w r b)) := by
  intro r
  induction r with
  | zero => intro b k; show frcN (addB (tn w) (tn b) 0) k = _; rw [frcN_eq, addB_c]; rfl
  | succ r ih =>
    intro b k
    show rndB (tn w) r (tn b) (fun b => frcN (subB b) fun b => @Bool.rec (fun _ => List Nat) (frcN (addB (tn w) b (r + 1)) k) (frcN (mixB b) fun b => frcN (addB (tn w) b (r + 1)) k) (Nat.ble (r + 1 + 1) 14)) = _
    rw [ih, frcN_eq, subB_c]
    show _ = k (tn (addK w (if r + 1 < 14 then mixK (subK (roundK w r b)) else subK (roundK w r b)) (r + 1)))
    by_cases h : r + 1 < 14
    · have : Nat.ble (r + 1 + 1) 14 = true := Nat.ble_eq_true_of_le h
      rw [this, if_pos h]
      show (frcN (mixB (tn (subK (roundK w r b)))) fun b => frcN (addB (tn w) b (r + 1)) k) = _
      rw [frcN_eq, mixB_c, frcN_eq, addB_c]
    · have : Nat.ble (r + 1 + 1) 14 = false := by
        cases hb : Nat.ble (r + 1 + 1) 14 with
        | false => rfl
        | true => exact absurd (Nat.le_of_ble_eq_true hb) h
      rw [this, if_neg h]
      show frcN (addB (tn w) (tn (subK (roundK w r b))) (r + 1)) k = _
      rw [frcN_eq, addB_c]
/-! the schedule -/
theorem rev_get {l : List UInt8} {i j : Nat} (h : i + j + 1 = l.length) : getR (tn l.reverse) i = (l.getD j 0).toNat := by
  rw [tn_get]
  congr 1
  rw [List.getD_eq_getElem?_getD, List.getElem?_reverse (by omega), show l.length - 1 - i = j by omega, List.getD_eq_getElem?_getD]
theorem sch4_eq (l : List Nat) (t0 t1 t2 t3 : Nat) (k : List Nat → List Nat) :
    sch4 l t0 t1 t2 t3 k = k ((getR l 28 ^^^ t3) :: (getR l 29 ^^^ t2) :: (getR l 30 ^^^ t1) :: (getR l 31 ^^^ t0) :: l) := by
  unfold sch4
  simp only [fc_eq]
  rfl
theorem schedAt_1 {key : List UInt8} (n : Nat) (t : List UInt8) (hk : key.length = 32) (ht : wordK (n + 8) (schedAt key n).2 ((schedAt key n).1.drop (4 * (n + 7))) = t) (t0 t1 t2 t3 : UInt8) (h4 : t = [t0, t1, t2, t3]) (k : List Nat → List Nat) :
    sch4 (tn (schedAt key n).1.reverse) t0.toNat t1.toNat t2.toNat t3.toNat k = k (tn (schedAt key (n + 1)).1.reverse) := by
  have hl := schedAt_len hk n
  rw [sch4_eq, rev_get (j := 4 * n + 3) (by omega), rev_get (j := 4 * n + 2) (by omega), rev_get (j := 4 * n + 1) (by omega), rev_get (j := 4 * n + 0) (by omega),
    ← UInt8.toNat_xor, ← UInt8.toNat_xor, ← UInt8.toNat_xor, ← UInt8.toNat_xor]
  congr 1
  show _ = tn ((schedAt key n).1 ++ (List.range 4).map (fun k => (schedAt key n).1.getD (4 * n + k) 0 ^^^ (wordK (n + 8) (schedAt key n).2 ((schedAt key n).1.drop (4 * (n + 7)))).getD k 0)).reverse
  rw [ht, h4, List.reverse_append]
  rfl
theorem last4 {key : List UInt8} (hk : key.length = 32) (n : Nat) : ∃ a b c d, (schedAt key n).1.drop (4 * (n + 7)) = [a, b, c, d] ∧
    getR (tn (schedAt key n).1.reverse) 3 = a.toNat ∧ getR (tn (schedAt key n).1.reverse) 2 = b.toNat ∧ getR (tn (schedAt key n).1.reverse) 1 = c.toNat ∧ getR (tn (schedAt key n).1.reverse) 0 = d.toNat := by
  have hl := schedAt_len hk n
  have h4 : ((schedAt key n).1.drop (4 * (n + 7))).length = 4 := by rw [List.length_drop]; omega
  have hg : ∀ j, (schedAt key n).1.getD (4 * (n + 7) + j) 0 = ((schedAt key n).1.drop (4 * (n + 7))).getD j 0 := fun j => by
    rw [List.getD_eq_getElem?_getD, List.getD_eq_getElem?_getD, List.getElem?_drop]
  match hd : (schedAt key n).1.drop (4 * (n + 7)), h4 with
  | [a, b, c, d], _ =>
    refine ⟨a, b, c, d, rfl, ?_, ?_, ?_, ?_⟩
    · rw [rev_get (j := 4 * (n + 7) + 0) (by omega), hg, hd]; rfl
    · rw [rev_get (j := 4 * (n + 7) + 1) (by omega), hg, hd]; rfl
    · rw [rev_get (j := 4 * (n + 7) + 2) (by omega), hg, hd]; rfl
    · rw [rev_get (j := 4 * (n + 7) + 3) (by omega), hg, hd]; rfl
theorem schS_c {key : List UInt8} (hk : key.length = 32) : ∀ (c n : Nat), schS c (n + 8) (schedAt key n).2.toNat (tn (schedAt key n).1.reverse) = tn (schedAt key (n + c)).1.reverse := by
  intro c
  induction c with
  | zero => intro n; rfl
  | succ c ih =>
    intro n
    obtain ⟨a, b, cc, d, hd, g3, g2, g1, g0⟩ := last4 hk n
    show @Nat.rec (fun _ => List Nat) (fc (twN (schedAt key n).2.toNat) fun p' => sch4 (tn (schedAt key n).1.reverse) (sbN (getR (tn (schedAt key n).1.reverse) 2) ^^^ (schedAt key n).2.toNat) (sbN (getR (tn (schedAt key n).1.reverse) 1)) (sbN (getR (tn (schedAt key n).1.reverse) 0)) (sbN (getR (tn (schedAt key n).1.reverse) 3)) (schS c (n + 8 + 1) p'))
      (fun _ _ => @Nat.rec (fun _ => List Nat) (sch4 (tn (schedAt key n).1.reverse) (sbN (getR (tn (schedAt key n).1.reverse) 3)) (sbN (getR (tn (schedAt key n).1.reverse) 2)) (sbN (getR (tn (schedAt key n).1.reverse) 1)) (sbN (getR (tn (schedAt key n).1.reverse) 0)) (schS c (n + 8 + 1) (schedAt key n).2.toNat))
        (fun _ _ => sch4 (tn (schedAt key n).1.reverse) (getR (tn (schedAt key n).1.reverse) 3) (getR (tn (schedAt key n).1.reverse) 2) (getR (tn (schedAt key n).1.reverse) 1) (getR (tn (schedAt key n).1.reverse) 0) (schS c (n + 8 + 1) (schedAt key n).2.toNat)) ((n + 8) % 4)) ((n + 8) % 8) = _
    have hn : n + (c + 1) = n + 1 + c := by omega
    have hp : (schedAt key (n + 1)).2 = if (n + 8) % 8 = 0 then twU (schedAt key n).2 else (schedAt key n).2 := rfl
    rw [g3, g2, g1, g0, hn, show n + 8 + 1 = n + 1 + 8 by omega]
    cases h8 : (n + 8) % 8 with
    | zero =>
      have h4 : (n + 8) % 4 = 0 := by omega
      show (fc (twN (schedAt key n).2.toNat) fun p' => sch4 (tn (schedAt key n).1.reverse) (sbN b.toNat ^^^ (schedAt key n).2.toNat) (sbN cc.toNat) (sbN d.toNat) (sbN a.toNat) (schS c (n + 1 + 8) p')) = _
      rw [fc_eq, sbN_c, sbN_c, sbN_c, sbN_c, ← UInt8.toNat_xor, schedAt_1 n _ hk rfl (boxL.getD b.toNat 0 ^^^ (schedAt key n).2) (boxL.getD cc.toNat 0) (boxL.getD d.toNat 0) (boxL.getD a.toNat 0) (by rw [hd]; unfold wordK; rw [h8, h4]; rfl), ← ih, hp, if_pos h8, twN_c]
    | succ m =>
      cases h4 : (n + 8) % 4 with
      | zero =>
        show sch4 (tn (schedAt key n).1.reverse) (sbN a.toNat) (sbN b.toNat) (sbN cc.toNat) (sbN d.toNat) (schS c (n + 1 + 8) (schedAt key n).2.toNat) = _
        rw [sbN_c, sbN_c, sbN_c, sbN_c, schedAt_1 n _ hk rfl (boxL.getD a.toNat 0) (boxL.getD b.toNat 0) (boxL.getD cc.toNat 0) (boxL.getD d.toNat 0) (by rw [hd]; unfold wordK; rw [h8, h4]; rfl), ← ih, hp, if_neg (by omega)]
      | succ m' =>
        show sch4 (tn (schedAt key n).1.reverse) a.toNat b.toNat cc.toNat d.toNat (schS c (n + 1 + 8) (schedAt key n).2.toNat) = _
        rw [schedAt_1 n _ hk rfl a b cc d (by rw [hd]; unfold wordK; rw [h8, h4]; rfl), ← ih, hp, if_neg (by omega)]
/-! the stream -/
def strAt (key nonce : List UInt8) (j : Nat) (t : List UInt8) : List UInt8 := t.mapIdx fun i b => b ^^^ streamAt key nonce (16 * j + i)
theorem strAt_cons (key nonce : List UInt8) (j : Nat) (t : List UInt8) : strAt key nonce j t = (t.take 16).mapIdx (fun i b => b ^^^ (blockL key (nonce ++ beB j 4)).getD i 0) ++ strAt key nonce (j + 1) (t.drop 16) := by
  unfold strAt
  refine List.ext_getElem (by simp; omega) fun i h1 h2 => ?_
  simp only [List.length_mapIdx] at h1
  rw [List.getElem_mapIdx]
  by_cases hi : i < 16
  · rw [List.getElem_append_left (by simp; omega), List.getElem_mapIdx, List.getElem_take]
    unfold streamAt
    rw [show (16 * j + i) / 16 = j by omega, show (16 * j + i) % 16 = i by omega]
  · rw [List.getElem_append_right (by simp; omega), List.getElem_mapIdx, List.getElem_drop]
    simp only [List.length_mapIdx, List.length_take]
    have e1 : 16 + (i - min 16 t.length) = i := by omega
    have e2 : 16 * (j + 1) + (i - min 16 t.length) = 16 * j + i := by omega
    rw [e2]
    congr 1
    congr 1
    exact e1.symm
theorem zipB_c (k : List Nat → List Nat) : ∀ (b t : List UInt8), zipB (tn b) (tn t) k = if b.length ≤ t.length then tn ((t.take b.length).mapIdx fun i y => y ^^^ b.getD i 0) ++ k (tn (t.drop b.length)) else tn (t.mapIdx fun i y => y ^^^ b.getD i 0) := by
  intro b
  induction b with
  | nil => intro t; rw [if_pos (by simp)]; rfl
  | cons x b ih =>
    intro t
    cases t with
    | nil => rw [if_neg (by simp)]; rfl
    | cons y t =>
      show (y.toNat ^^^ x.toNat) :: zipB (tn b) (tn t) k = _
      rw [ih, ← UInt8.toNat_xor]
      by_cases h : b.length ≤ t.length
      · rw [if_pos h, if_pos (by simpa using h)]
        simp only [List.length_cons, List.take_succ_cons, List.mapIdx_cons, List.drop_succ_cons]
        rfl
      · rw [if_neg h, if_neg (by simpa using h)]
        simp only [List.mapIdx_cons]
        rfl
theorem strB_c {key nonce : List UInt8} : ∀ (n j : Nat) (t : List UInt8), t.length ≤ 16 * n → strB (tn (schedL key)) (tn nonce) n j (tn t) = tn (strAt key nonce j t) := by
  intro n
  induction n with
  | zero =>
    intro j t ht
    obtain rfl : t = [] := List.length_eq_zero_iff.1 (by omega)
    rfl
  | succ n ih =>
    intro j t ht
    show rndB (tn (schedL key)) 14 (appN (tn nonce) (by4 j [])) (fun b => zipB b (tn t) (strB (tn (schedL key)) (tn nonce) n (j + 1))) = _
    have e : appN (tn nonce) (by4 j []) = tn (nonce ++ beB j 4) := by rw [appN_eq, beB_4, List.append_nil]; unfold tn; rw [List.map_append]
    have hb : (roundK (schedL key) 14 (nonce ++ beB j 4)).length = 16 := roundK_len _ _ _
    rw [e, rndB_c, zipB_c, hb, strAt_cons]
    by_cases h : 16 ≤ t.length
    · rw [if_pos h, ih _ _ (by simp; omega)]
      unfold tn blockL
      rw [List.map_append]
    · rw [if_neg h, List.take_of_length_le (by omega), List.drop_of_length_le (by omega)]
      show _ = tn (_ ++ [])
      rw [List.append_nil]
      rfl
theorem strN_c {α : Type} (key nonce text : List UInt8) (hk : key.length = 32) (k : List Nat → α) : strN (tn key) (tn nonce) (tn text) text.length k = k (tn (streamL key nonce text)) := by
  unfold strN
  rw [frcN_eq]
  congr 1
  have e0 : revN (tn key) [] = tn key.reverse := by rw [revN_eq, List.append_nil]; unfold tn; rw [List.map_reverse]
  have e1 : schS 52 8 1 (tn key.reverse) = tn (schedL key).reverse := schS_c hk 52 0
  rw [e0, e1, revN_eq, List.append_nil, show (tn (schedL key).reverse).reverse = tn (schedL key) by unfold tn; rw [List.map_reverse, List.reverse_reverse],
    strB_c _ _ _ (by show text.length ≤ 16 * ((text.length + 15) / 16); omega)]
  congr 1
  unfold strAt streamL
  congr 1
  funext i b
  rw [Nat.mul_zero, Nat.zero_add]
end Go.Ev
