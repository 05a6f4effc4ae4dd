/-
  The interpreter: its words, and what it does.
-/
import Derived.Test.YtdfgmieinbmfkaaGreatProg
import Derived.Calls
import Derived.Deep.AppendSrc
import Derived.Deep.MidRow
import Derived.Laws.MakeOwn
import Derived.Great.BuildSlice
import Derived.Laws.BytesString
import Derived.Laws.StructEq
import Derived.Deep.Upon
namespace Go.Ev
/-- a number, reckoned -/
noncomputable def fc {α : Type} (n : Nat) (k : Nat → α) : α := @Nat.rec (fun _ => α) (k (nat_lit 0)) (fun m _ => k (Nat.succ m)) n
theorem fc_eq {α : Type} (n : Nat) (k : Nat → α) : fc n k = k n := by cases n <;> rfl
/-! a hash -/
def rt (x p q : Nat) : Nat := Nat.lor (Nat.mod (Nat.mul x p) (nat_lit 4294967296)) (Nat.div x q)
def sg0N (x : Nat) : Nat := Nat.xor (Nat.xor (rt x (nat_lit 33554432) (nat_lit 128)) (rt x (nat_lit 16384) (nat_lit 262144))) (Nat.div x (nat_lit 8))
def sg1N (x : Nat) : Nat := Nat.xor (Nat.xor (rt x (nat_lit 32768) (nat_lit 131072)) (rt x (nat_lit 8192) (nat_lit 524288))) (Nat.div x (nat_lit 1024))
def nextN (a b c d : Nat) : Nat := Nat.mod (Nat.add (Nat.mod (Nat.add (Nat.mod (Nat.add a (sg0N b)) (nat_lit 4294967296)) c) (nat_lit 4294967296)) (sg1N d)) (nat_lit 4294967296)
def tN (e f g h k w : Nat) : Nat :=
  Nat.mod (Nat.add (Nat.mod (Nat.add (Nat.add (Nat.add h (Nat.xor (Nat.xor (rt e (nat_lit 67108864) (nat_lit 64)) (rt e (nat_lit 2097152) (nat_lit 2048))) (rt e (nat_lit 128) (nat_lit 33554432)))) (Nat.xor (Nat.land e f) (Nat.land (Nat.xor (nat_lit 4294967295) e) g))) k) (nat_lit 4294967296)) w) (nat_lit 4294967296)
def uN (a b c : Nat) : Nat :=
  Nat.mod (Nat.add (Nat.xor (Nat.xor (rt a (nat_lit 1073741824) (nat_lit 4)) (rt a (nat_lit 524288) (nat_lit 8192))) (rt a (nat_lit 1024) (nat_lit 4194304))) (Nat.xor (Nat.xor (Nat.land a b) (Nat.land a c)) (Nat.land b c))) (nat_lit 4294967296)
inductive H8 where
  | mk (a b c d e f g h : Nat)
noncomputable def getR (l : List Nat) (i : Nat) : Nat := @List.rec Nat (fun _ => Nat → Nat) (fun _ => nat_lit 0) (fun a _ ih i => @Nat.rec (fun _ => Nat) a (fun j _ => ih j) i) l i
/-- the words that a block is stirred with, the last one first -/
noncomputable def schN : Nat → List Nat → List Nat := @Nat.rec (fun _ => List Nat → List Nat) (fun l => l) (fun _ ih l => fc (nextN (getR l (nat_lit 15)) (getR l (nat_lit 14)) (getR l (nat_lit 6)) (getR l (nat_lit 1))) fun w => ih (w :: l))
noncomputable def rndN : List Nat → List Nat → H8 → H8 :=
  @List.rec Nat (fun _ => List Nat → H8 → H8) (fun _ s => s) (fun k _ ih W s => @List.rec Nat (fun _ => H8) s (fun w W' _ =>
    @H8.rec (fun _ => H8) (fun a b c d e f g h => fc (tN e f g h k w) fun t => fc (Nat.mod (Nat.add d t) (nat_lit 4294967296)) fun e' => fc (Nat.mod (Nat.add t (uN a b c)) (nat_lit 4294967296)) fun a' => ih W' (.mk a' a b c e' e f g)) s) W)
noncomputable def revN : List Nat → List Nat → List Nat := @List.rec Nat (fun _ => List Nat → List Nat) (fun l => l) (fun a _ ih l => ih (a :: l))
noncomputable def kN : List Nat := [nat_lit 1116352408, nat_lit 1899447441, nat_lit 3049323471, nat_lit 3921009573, nat_lit 961987163, nat_lit 1508970993, nat_lit 2453635748, nat_lit 2870763221,
  nat_lit 3624381080, nat_lit 310598401, nat_lit 607225278, nat_lit 1426881987, nat_lit 1925078388, nat_lit 2162078206, nat_lit 2614888103, nat_lit 3248222580,
  nat_lit 3835390401, nat_lit 4022224774, nat_lit 264347078, nat_lit 604807628, nat_lit 770255983, nat_lit 1249150122, nat_lit 1555081692, nat_lit 1996064986,
  nat_lit 2554220882, nat_lit 2821834349, nat_lit 2952996808, nat_lit 3210313671, nat_lit 3336571891, nat_lit 3584528711, nat_lit 113926993, nat_lit 338241895,
  nat_lit 666307205, nat_lit 773529912, nat_lit 1294757372, nat_lit 1396182291, nat_lit 1695183700, nat_lit 1986661051, nat_lit 2177026350, nat_lit 2456956037,
  nat_lit 2730485921, nat_lit 2820302411, nat_lit 3259730800, nat_lit 3345764771, nat_lit 3516065817, nat_lit 3600352804, nat_lit 4094571909, nat_lit 275423344,
  nat_lit 430227734, nat_lit 506948616, nat_lit 659060556, nat_lit 883997877, nat_lit 958139571, nat_lit 1322822218, nat_lit 1537002063, nat_lit 1747873779,
  nat_lit 1955562222, nat_lit 2024104815, nat_lit 2227730452, nat_lit 2361852424, nat_lit 2428436474, nat_lit 2756734187, nat_lit 3204031479, nat_lit 3329325298]
def h0N : H8 := .mk (nat_lit 1779033703) (nat_lit 3144134277) (nat_lit 1013904242) (nat_lit 2773480762) (nat_lit 1359893119) (nat_lit 2600822924) (nat_lit 528734635) (nat_lit 1541459225)
def ad (a b : Nat) : Nat := Nat.mod (Nat.add a b) (nat_lit 4294967296)
noncomputable def addN (x y : H8) : H8 := @H8.rec (fun _ => H8) (fun a b c d e f g h => @H8.rec (fun _ => H8) (fun a' b' c' d' e' f' g' h' =>
  fc (ad a a') fun a => fc (ad b b') fun b => fc (ad c c') fun c => fc (ad d d') fun d => fc (ad e e') fun e => fc (ad f f') fun f => fc (ad g g') fun g => fc (ad h h') fun h => .mk a b c d e f g h) y) x
/-- words of bytes: so many, the last one first, and the bytes behind them -/
noncomputable def wrdN {α : Type} : Nat → List Nat → List Nat → (List Nat → List Nat → α) → α :=
  @Nat.rec (fun _ => List Nat → List Nat → (List Nat → List Nat → α) → α) (fun s acc k => k acc s) (fun _ ih s acc k =>
    @List.rec Nat (fun _ => α) (k acc []) (fun a r _ => @List.rec Nat (fun _ => α) (k acc []) (fun b r _ => @List.rec Nat (fun _ => α) (k acc []) (fun c r _ => @List.rec Nat (fun _ => α) (k acc []) (fun d r _ =>
      fc (Nat.add (Nat.mul (Nat.add (Nat.mul (Nat.add (Nat.mul a (nat_lit 256)) b) (nat_lit 256)) c) (nat_lit 256)) d) fun w => ih r (w :: acc) k) r) r) r) s)
noncomputable def blkN (h : H8) (ws : List Nat) : H8 := addN h (rndN kN (revN (schN (nat_lit 48) ws) []) h)
noncomputable def hshN : Nat → H8 → List Nat → H8 := @Nat.rec (fun _ => H8 → List Nat → H8) (fun h _ => h) (fun _ ih h s => wrdN (nat_lit 16) s [] fun ws r => ih (blkN h ws) r)
end Go.Ev
namespace Go.Ev
noncomputable def appN : List Nat → List Nat → List Nat := @List.rec Nat (fun _ => List Nat → List Nat) (fun l => l) (fun a _ ih l => a :: ih l)
noncomputable def repN (a : Nat) : Nat → List Nat → List Nat := @Nat.rec (fun _ => List Nat → List Nat) (fun l => l) (fun _ ih l => a :: ih l)
noncomputable def lenN : List Nat → Nat := @List.rec Nat (fun _ => Nat) (nat_lit 0) (fun _ _ ih => Nat.succ ih)
/-- a number's lowest bytes, the highest one first -/
def by4 (n : Nat) (l : List Nat) : List Nat := Nat.mod (Nat.div n (nat_lit 16777216)) (nat_lit 256) :: Nat.mod (Nat.div n (nat_lit 65536)) (nat_lit 256) :: Nat.mod (Nat.div n (nat_lit 256)) (nat_lit 256) :: Nat.mod n (nat_lit 256) :: l
def by8 (n : Nat) : List Nat := by4 (Nat.div n (nat_lit 4294967296)) (by4 n [])
noncomputable def padN (s : List Nat) (n : Nat) : List Nat := appN s (nat_lit 128 :: repN (nat_lit 0) (Nat.mod (Nat.sub (nat_lit 119) (Nat.mod n (nat_lit 64))) (nat_lit 64)) (by8 (Nat.mul (nat_lit 8) n)))
noncomputable def frcN {α : Type} : List Nat → (List Nat → α) → α := @List.rec Nat (fun _ => (List Nat → α) → α) (fun k => k []) (fun a _ ih k => fc a fun a => ih fun l => k (a :: l))
noncomputable def outN (h : H8) (l : List Nat) : List Nat := @H8.rec (fun _ => List Nat) (fun a b c d e f g h => by4 a (by4 b (by4 c (by4 d (by4 e (by4 f (by4 g (by4 h l)))))))) h
/-- the hash of so many bytes, with others behind it -/
noncomputable def shaN {α : Type} (s : List Nat) (n : Nat) (k : List Nat → α) : α := frcN (outN (hshN (Nat.div (Nat.add n (nat_lit 72)) (nat_lit 64)) h0N (padN s n)) []) k
noncomputable def mapXor (b : Nat) : List Nat → List Nat → List Nat := @List.rec Nat (fun _ => List Nat → List Nat) (fun l => l) (fun a _ ih l => Nat.xor a b :: ih l)
/-- a key's own hash of a text -/
noncomputable def tagN {α : Type} (key : List Nat) (kn : Nat) (text : List Nat) (tn : Nat) (k : List Nat → α) : α :=
  shaN (mapXor (nat_lit 54) key (repN (nat_lit 54) (Nat.sub (nat_lit 64) kn) text)) (Nat.add (nat_lit 64) tn) fun i =>
  shaN (mapXor (nat_lit 92) key (repN (nat_lit 92) (Nat.sub (nat_lit 64) kn) i)) (nat_lit 96) k
end Go.Ev
namespace Go.Ev
/-! a cipher -/
def sbT : Nat := nat_lit 2869618975290639062594974519597816386035077209210385677284518162336985023502962151465775969507961862820568736543004676439868535775640188584098917533413284844376797297285941524888791401501466624530423689326528054213168201056672989590893583853414110162539122864583953358348775951166211353578440977400428507475679327181038682772945817200201960445064847785221508011893952350688324234443749897213621340677040612747745615276448919507935121141307752692835344166708617454322778699219895865633266409040561742768581056182730443599545881830075941537620590442514083341749674612746994879540562701631131184186066652929592955206755
def sbN (x : Nat) : Nat := Nat.mod (Nat.shiftRight sbT (Nat.mul (nat_lit 8) x)) (nat_lit 256)
def twN (b : Nat) : Nat := Nat.xor (Nat.mod (Nat.mul b (nat_lit 2)) (nat_lit 256)) (Nat.mul (Nat.div b (nat_lit 128)) (nat_lit 27))
noncomputable def sch4 (l : List Nat) (t0 t1 t2 t3 : Nat) (k : List Nat → List Nat) : List Nat :=
  fc (Nat.xor (getR l (nat_lit 31)) t0) fun x0 => fc (Nat.xor (getR l (nat_lit 30)) t1) fun x1 => fc (Nat.xor (getR l (nat_lit 29)) t2) fun x2 => fc (Nat.xor (getR l (nat_lit 28)) t3) fun x3 => k (x3 :: x2 :: x1 :: x0 :: l)
noncomputable def schS : Nat → Nat → Nat → List Nat → List Nat :=
  @Nat.rec (fun _ => Nat → Nat → List Nat → List Nat) (fun _ _ l => l) (fun _ ih i p l =>
    @Nat.rec (fun _ => List Nat) (fc (twN p) fun p' => sch4 l (Nat.xor (sbN (getR l (nat_lit 2))) p) (sbN (getR l (nat_lit 1))) (sbN (getR l (nat_lit 0))) (sbN (getR l (nat_lit 3))) (ih (Nat.succ i) p'))
      (fun _ _ => @Nat.rec (fun _ => List Nat) (sch4 l (sbN (getR l (nat_lit 3))) (sbN (getR l (nat_lit 2))) (sbN (getR l (nat_lit 1))) (sbN (getR l (nat_lit 0))) (ih (Nat.succ i) p))
        (fun _ _ => sch4 l (getR l (nat_lit 3)) (getR l (nat_lit 2)) (getR l (nat_lit 1)) (getR l (nat_lit 0)) (ih (Nat.succ i) p)) (Nat.mod i (nat_lit 4))) (Nat.mod i (nat_lit 8)))
noncomputable def mapI (f : Nat → Nat) : Nat → Nat → List Nat := @Nat.rec (fun _ => Nat → List Nat) (fun _ => []) (fun _ ih i => f i :: ih (Nat.succ i))
noncomputable def addB (w b : List Nat) (r : Nat) : List Nat := mapI (fun i => Nat.xor (getR b i) (getR w (Nat.add (Nat.mul (nat_lit 16) r) i))) (nat_lit 16) (nat_lit 0)
noncomputable def mixB (b : List Nat) : List Nat := mapI (fun i => fc (Nat.mul (Nat.div i (nat_lit 4)) (nat_lit 4)) fun c => fc (getR b (Nat.add c (Nat.mod (Nat.add i (nat_lit 1)) (nat_lit 4)))) fun n1 =>
  Nat.xor (Nat.xor (Nat.xor (Nat.xor (twN (getR b (Nat.add c (Nat.mod (Nat.add i (nat_lit 0)) (nat_lit 4))))) (twN n1)) n1) (getR b (Nat.add c (Nat.mod (Nat.add i (nat_lit 2)) (nat_lit 4))))) (getR b (Nat.add c (Nat.mod (Nat.add i (nat_lit 3)) (nat_lit 4))))) (nat_lit 16) (nat_lit 0)
noncomputable def subB (b : List Nat) : List Nat := mapI (fun i => sbN (getR b (Nat.mod (Nat.add i (Nat.mul (nat_lit 4) (Nat.mod i (nat_lit 4)))) (nat_lit 16)))) (nat_lit 16) (nat_lit 0)
noncomputable def rndB (w : List Nat) : Nat → List Nat → (List Nat → List Nat) → List Nat :=
  @Nat.rec (fun _ => List Nat → (List Nat → List Nat) → List Nat) (fun b k => frcN (addB w b (nat_lit 0)) k) (fun r ih b k => ih b fun b => frcN (subB b) fun b =>
    @Bool.rec (fun _ => List Nat) (frcN (addB w b (Nat.succ r)) k) (frcN (mixB b) fun b => frcN (addB w b (Nat.succ r)) k) (Nat.ble (Nat.succ (Nat.succ r)) (nat_lit 14)))
noncomputable def zipB : List Nat → List Nat → (List Nat → List Nat) → List Nat :=
  @List.rec Nat (fun _ => List Nat → (List Nat → List Nat) → List Nat) (fun t k => k t) (fun x _ ih t k => @List.rec Nat (fun _ => List Nat) [] (fun y t' _ => Nat.xor y x :: ih t' k) t)
noncomputable def strB (w nonce : List Nat) : Nat → Nat → List Nat → List Nat :=
  @Nat.rec (fun _ => Nat → List Nat → List Nat) (fun _ _ => []) (fun _ ih j t => rndB w (nat_lit 14) (appN nonce (by4 j [])) fun b => zipB b t (ih (Nat.succ j)))
noncomputable def strN {α : Type} (key nonce text : List Nat) (n : Nat) (k : List Nat → α) : α :=
  frcN (strB (revN (schS (nat_lit 52) (nat_lit 8) (nat_lit 1) (revN key [])) []) nonce (Nat.div (Nat.add n (nat_lit 15)) (nat_lit 16)) (nat_lit 0) text) k
end Go.Ev
namespace Go.Ev
noncomputable def bytesN : Nat → Nat → List Nat := @Nat.rec (fun _ => Nat → List Nat) (fun _ => []) (fun _ ih n => Nat.mod n (nat_lit 256) :: fc (Nat.div n (nat_lit 256)) ih)
noncomputable def packN : List Nat → Nat := @List.rec Nat (fun _ => Nat) (nat_lit 0) (fun a _ ih => Nat.add a (Nat.mul (nat_lit 256) ih))
noncomputable def rpN (c : Nat) : Nat → Nat := @Nat.rec (fun _ => Nat) (nat_lit 0) (fun _ ih => Nat.add c (Nat.mul (nat_lit 256) ih))
/-! a sum -/
noncomputable def nbT : List Nat := [nat_lit 0, nat_lit 498536548, nat_lit 997073096, nat_lit 651767980, nat_lit 1994146192, nat_lit 1802195444, nat_lit 1303535960, nat_lit 1342533948, nat_lit 3988292384, nat_lit 4027552580, nat_lit 3604390888, nat_lit 3412177804, nat_lit 2607071920, nat_lit 2262029012, nat_lit 2685067896, nat_lit 3183342108]
noncomputable def nibE (x : Nat) : Nat := Nat.xor (Nat.div x (nat_lit 16)) (getR nbT (Nat.land x (nat_lit 15)))
noncomputable def crcE : List Nat → Nat → Nat := @List.rec Nat (fun _ => Nat → Nat) (fun c => c) (fun a _ ih c => fc (nibE (Nat.xor c a)) fun c => fc (nibE c) ih)
noncomputable def sumE (l : List Nat) : Nat := Nat.xor (nat_lit 4294967295) (crcE l (nat_lit 4294967295))
end Go.Ev
namespace Go.Ev
open Go
noncomputable def PP : Program := Go.Proofs.Tryz.prog

inductive V where
  | u
  | b (x : Bool)
  | i (k : IntKind) (n : Int)
  | s (l n : Nat)
  | p (b o : Nat)
  | pn
  | l (b o n c x : Nat)
  | ln
  | m (r : Nat)
  | mn
  | f (fn : Nat) (fs cs : List V)
  | fn
  | g (cs : List V)
  | t (vs : List V)
  | d (ty : Nat) (v : V)
  | x (n : Nat)

inductive PT (α : Type) where
  | e
  | n (v : α) (l r : PT α)

noncomputable def pathF : Nat → Nat → List Bool :=
  @Nat.rec (fun _ => Nat → List Bool) (fun _ => []) (fun _ ih k => @Nat.rec (fun _ => List Bool) [] (fun k' _ => Nat.beq (Nat.mod k' (nat_lit 2)) (nat_lit 0) :: ih (Nat.div k' (nat_lit 2))) k)
noncomputable def path (k : Nat) : List Bool := pathF (Nat.succ k) k
noncomputable def getVN (v : V) (_l _r : PT V) (gl gr : List Bool → V) (p : List Bool) : V :=
  @List.rec Bool (fun _ => V) v (fun b q _ => @Bool.rec (fun _ => V) (gr q) (gl q) b) p
noncomputable def getVP : PT V → List Bool → V := @PT.rec V (fun _ => List Bool → V) (fun _ => .u) getVN
noncomputable def setCV (b : Bool) (_ : List Bool) (ih : PT V → V → PT V) : PT V → V → PT V :=
  @PT.rec V (fun _ => V → PT V) (fun v => @Bool.rec (fun _ => PT V) (.n .u .e (ih .e v)) (.n .u (ih .e v) .e) b) (fun w l r _ _ v => @Bool.rec (fun _ => PT V) (.n w l (ih r v)) (.n w (ih l v) r) b)
noncomputable def set0V : PT V → V → PT V := @PT.rec V (fun _ => V → PT V) (fun v => .n v .e .e) (fun _ l r _ _ v => .n v l r)
noncomputable def setVP : List Bool → PT V → V → PT V := @List.rec Bool (fun _ => PT V → V → PT V) set0V setCV

inductive O where
  | no
  | c (n : Nat) (t : PT V)
  | m (es : List (V × V))

noncomputable def getON (v : O) (_l _r : PT O) (gl gr : List Bool → O) (p : List Bool) : O :=
  @List.rec Bool (fun _ => O) v (fun b q _ => @Bool.rec (fun _ => O) (gr q) (gl q) b) p
noncomputable def getOP : PT O → List Bool → O := @PT.rec O (fun _ => List Bool → O) (fun _ => .no) getON
noncomputable def setCO (b : Bool) (_ : List Bool) (ih : PT O → O → PT O) : PT O → O → PT O :=
  @PT.rec O (fun _ => O → PT O) (fun v => @Bool.rec (fun _ => PT O) (.n .no .e (ih .e v)) (.n .no (ih .e v) .e) b) (fun w l r _ _ v => @Bool.rec (fun _ => PT O) (.n w l (ih r v)) (.n w (ih l v) r) b)
noncomputable def set0O : PT O → O → PT O := @PT.rec O (fun _ => O → PT O) (fun v => .n v .e .e) (fun _ l r _ _ v => .n v l r)
noncomputable def setOP : List Bool → PT O → O → PT O := @List.rec Bool (fun _ => PT O → O → PT O) set0O setCO
structure G where
  h : PT O
  nx : Nat
  on : Bool
  r : Nat
  w : Nat

inductive RO where
  | ok (v : V) (g : G)
  | bad (why : Nat)
  | df (f : V) (aa : List V) (g : G)

inductive Ex where
  | nrm | ext (id : Nat) | ret

abbrev DS := List (V × List V)
inductive R where
  | ok (e : Ex) (t : PT V) (ds : DS) (g : G)
  | bad (why : Nat)

abbrev Cl := Nat → List V → G → RO
noncomputable def getT (t : PT V) (k : Nat) : V := getVP t (path k)
noncomputable def setT (t : PT V) (k : Nat) (v : V) : PT V := setVP (path k) t v
noncomputable def getH (t : PT O) (k : Nat) : O := getOP t (path k)
noncomputable def setH (t : PT O) (k : Nat) (v : O) : PT O := setOP (path k) t v
/-- the temporaries of a region -/
inductive LV where
  | e
  | c (k : Nat) (v : V) (r : LV)
noncomputable def getL : LV → Nat → V := @LV.rec (fun _ => Nat → V) (fun _ => .u) (fun k v _ ih i => @Bool.rec (fun _ => V) (ih i) v (Nat.beq i k))
/-- what is named: which temporaries are of the whole function, a region's own, the function's -/
structure Env where
  gm : Nat
  l : LV
  t : PT V
noncomputable def elRO : RO → (V → G → RO) → RO := @RO.rec (fun _ => (V → G → RO) → RO) (fun v g k => k v g) (fun w _ => .bad w) (fun _ _ _ _ => .bad (nat_lit 160))
noncomputable def elRR : RO → (V → G → R) → (V → List V → G → R) → R := @RO.rec (fun _ => (V → G → R) → (V → List V → G → R) → R) (fun v g k _ => k v g) (fun w _ _ => .bad w) (fun f aa g _ k => k f aa g)
noncomputable def elR : R → (PT V → DS → G → R) → R :=
  @R.rec (fun _ => (PT V → DS → G → R) → R) (fun e t ds g k => @Ex.rec (fun _ => R) (k t ds g) (fun i => .ok (.ext i) t ds g) (.ok .ret t ds g) e) (fun w _ => .bad w)
noncomputable def elO : O → (Nat → PT V → RO) → RO → RO := @O.rec (fun _ => (Nat → PT V → RO) → RO → RO) (fun _ z => z) (fun n t k _ => k n t) (fun _ _ z => z)
noncomputable def elOM : O → (List (V × V) → RO) → RO → RO := @O.rec (fun _ => (List (V × V) → RO) → RO → RO) (fun _ z => z) (fun _ _ _ z => z) (fun es k _ => k es)
noncomputable def cnd (b : Bool) (x y : RO) : RO := @Bool.rec (fun _ => RO) y x b
noncomputable def notB : Bool → Bool := @Bool.rec (fun _ => Bool) true false
noncomputable def beqB (x y : Bool) : Bool := @Bool.rec (fun _ => Bool) (notB y) y x
noncomputable def fcN (n : Nat) (k : Nat → RO) : RO := @Nat.rec (fun _ => RO) (k (nat_lit 0)) (fun m' _ => k (Nat.succ m')) n
noncomputable def fcG (n : Nat) (k : Nat → G) : G := @Nat.rec (fun _ => G) (k (nat_lit 0)) (fun m' _ => k (Nat.succ m')) n
noncomputable def fcR (n : Nat) (k : Nat → R) : R := @Nat.rec (fun _ => R) (k (nat_lit 0)) (fun m' _ => k (Nat.succ m')) n
noncomputable def fcI (n : Int) (k : Int → RO) : RO :=
  @Int.rec (fun _ => RO) (fun m => @Nat.rec (fun _ => RO) (k (Int.ofNat (nat_lit 0))) (fun m' _ => k (Int.ofNat (Nat.succ m'))) m)
    (fun m => @Nat.rec (fun _ => RO) (k (Int.negSucc (nat_lit 0))) (fun m' _ => k (Int.negSucc (Nat.succ m'))) m) n
noncomputable def toN (n : Int) (bad : RO) (k : Nat → RO) : RO := @Int.rec (fun _ => RO) k (fun _ => bad) n
noncomputable def elP : V → (Nat → Nat → RO) → RO → RO :=
  @V.rec (fun _ => (Nat → Nat → RO) → RO → RO) (fun _ => Unit) (fun _ z => z) (fun _ _ z => z) (fun _ _ _ z => z) (fun _ _ _ z => z) (fun a0 a1 k _ => k a0 a1) (fun _ z => z) (fun _ _ _ _ _ _ z => z) (fun _ z => z) (fun _ _ z => z) (fun _ z => z) (fun _ _ _ _ _ _ z => z) (fun _ z => z) (fun _ _ _ z => z) (fun _ _ _ z => z) (fun _ _ _ _ z => z) (fun _ _ z => z) () (fun _ _ _ _ => ())
noncomputable def elI : V → (IntKind → Int → RO) → RO → RO :=
  @V.rec (fun _ => (IntKind → Int → RO) → RO → RO) (fun _ => Unit) (fun _ z => z) (fun _ _ z => z) (fun a0 a1 k _ => k a0 a1) (fun _ _ _ z => z) (fun _ _ _ z => z) (fun _ z => z) (fun _ _ _ _ _ _ z => z) (fun _ z => z) (fun _ _ z => z) (fun _ z => z) (fun _ _ _ _ _ _ z => z) (fun _ z => z) (fun _ _ _ z => z) (fun _ _ _ z => z) (fun _ _ _ _ z => z) (fun _ _ z => z) () (fun _ _ _ _ => ())
noncomputable def elB : V → (Bool → RO) → RO → RO :=
  @V.rec (fun _ => (Bool → RO) → RO → RO) (fun _ => Unit) (fun _ z => z) (fun a0 k _ => k a0) (fun _ _ _ z => z) (fun _ _ _ z => z) (fun _ _ _ z => z) (fun _ z => z) (fun _ _ _ _ _ _ z => z) (fun _ z => z) (fun _ _ z => z) (fun _ z => z) (fun _ _ _ _ _ _ z => z) (fun _ z => z) (fun _ _ _ z => z) (fun _ _ _ z => z) (fun _ _ _ _ z => z) (fun _ _ z => z) () (fun _ _ _ _ => ())
noncomputable def elS : V → (Nat → Nat → RO) → RO → RO :=
  @V.rec (fun _ => (Nat → Nat → RO) → RO → RO) (fun _ => Unit) (fun _ z => z) (fun _ _ z => z) (fun _ _ _ z => z) (fun a0 a1 k _ => k a0 a1) (fun _ _ _ z => z) (fun _ z => z) (fun _ _ _ _ _ _ z => z) (fun _ z => z) (fun _ _ z => z) (fun _ z => z) (fun _ _ _ _ _ _ z => z) (fun _ z => z) (fun _ _ _ z => z) (fun _ _ _ z => z) (fun _ _ _ _ z => z) (fun _ _ z => z) () (fun _ _ _ _ => ())
noncomputable def elG : V → (List V → RO) → RO → RO :=
  @V.rec (fun _ => (List V → RO) → RO → RO) (fun _ => Unit) (fun _ z => z) (fun _ _ z => z) (fun _ _ _ z => z) (fun _ _ _ z => z) (fun _ _ _ z => z) (fun _ z => z) (fun _ _ _ _ _ _ z => z) (fun _ z => z) (fun _ _ z => z) (fun _ z => z) (fun _ _ _ _ _ _ z => z) (fun _ z => z) (fun a0 _ k _ => k a0) (fun _ _ _ z => z) (fun _ _ _ _ z => z) (fun _ _ z => z) () (fun _ _ _ _ => ())
noncomputable def elT : V → (List V → RO) → RO → RO :=
  @V.rec (fun _ => (List V → RO) → RO → RO) (fun _ => Unit) (fun _ z => z) (fun _ _ z => z) (fun _ _ _ z => z) (fun _ _ _ z => z) (fun _ _ _ z => z) (fun _ z => z) (fun _ _ _ _ _ _ z => z) (fun _ z => z) (fun _ _ z => z) (fun _ z => z) (fun _ _ _ _ _ _ z => z) (fun _ z => z) (fun _ _ _ z => z) (fun a0 _ k _ => k a0) (fun _ _ _ _ z => z) (fun _ _ z => z) () (fun _ _ _ _ => ())
noncomputable def elF : V → (Nat → List V → List V → RO) → RO → RO :=
  @V.rec (fun _ => (Nat → List V → List V → RO) → RO → RO) (fun _ => Unit) (fun _ z => z) (fun _ _ z => z) (fun _ _ _ z => z) (fun _ _ _ z => z) (fun _ _ _ z => z) (fun _ z => z) (fun _ _ _ _ _ _ z => z) (fun _ z => z) (fun _ _ z => z) (fun _ z => z) (fun a0 a1 a2 _ _ k _ => k a0 a1 a2) (fun _ z => z) (fun _ _ _ z => z) (fun _ _ _ z => z) (fun _ _ _ _ z => z) (fun _ _ z => z) () (fun _ _ _ _ => ())
noncomputable def elM : V → (Nat → RO) → RO → RO :=
  @V.rec (fun _ => (Nat → RO) → RO → RO) (fun _ => Unit) (fun _ z => z) (fun _ _ z => z) (fun _ _ _ z => z) (fun _ _ _ z => z) (fun _ _ _ z => z) (fun _ z => z) (fun _ _ _ _ _ _ z => z) (fun _ z => z) (fun a0 k _ => k a0) (fun _ z => z) (fun _ _ _ _ _ _ z => z) (fun _ z => z) (fun _ _ _ z => z) (fun _ _ _ z => z) (fun _ _ _ _ z => z) (fun _ _ z => z) () (fun _ _ _ _ => ())
noncomputable def elBR : V → (Bool → R) → R → R :=
  @V.rec (fun _ => (Bool → R) → R → R) (fun _ => Unit) (fun _ z => z) (fun a0 k _ => k a0) (fun _ _ _ z => z) (fun _ _ _ z => z) (fun _ _ _ z => z) (fun _ z => z) (fun _ _ _ _ _ _ z => z) (fun _ z => z) (fun _ _ z => z) (fun _ z => z) (fun _ _ _ _ _ _ z => z) (fun _ z => z) (fun _ _ _ z => z) (fun _ _ _ z => z) (fun _ _ _ _ z => z) (fun _ _ z => z) () (fun _ _ _ _ => ())
/-! bytes of strings -/
noncomputable def packL : List UInt8 → Nat := @List.rec UInt8 (fun _ => Nat) (nat_lit 0) (fun a _ ih => Nat.add a.toNat (Nat.mul (nat_lit 256) ih))
noncomputable def packB (b : ByteArray) : V := .s b.data.toList.length (packL b.data.toList)
noncomputable def cv1 (v : Value) : V :=
  @Value.casesOn (fun _ => V) v (fun b => .b b) (fun k n => .i k n) (fun _ _ => .u) (fun _ _ _ => .u) (fun s => packB s)
    (fun a => @Option.rec _ (fun _ => V) .pn (fun _ => .u) a)
    (fun a n c => @Option.rec _ (fun _ => V) (@Nat.rec (fun _ => V) (@Nat.rec (fun _ => V) .ln (fun _ _ => .u) c) (fun _ _ => .u) n) (fun _ => .u) a)
    (fun a => @Option.rec _ (fun _ => V) .mn (fun _ => .u) a)
    (fun _ => .u) (fun _ _ _ => .u) .fn (fun _ _ => .u) .u (fun _ => .u) (fun _ => .u)
noncomputable def cv1s : List Value → List V := @List.rec Value (fun _ => List V) [] (fun a _ ih => cv1 a :: ih)
noncomputable def cv (v : Value) : V :=
  @Value.casesOn (fun _ => V) v (fun b => .b b) (fun k n => .i k n) (fun _ _ => .u) (fun _ _ _ => .u) (fun s => packB s)
    (fun a => @Option.rec _ (fun _ => V) .pn (fun _ => .u) a)
    (fun a n c => @Option.rec _ (fun _ => V) (@Nat.rec (fun _ => V) (@Nat.rec (fun _ => V) .ln (fun _ _ => .u) c) (fun _ _ => .u) n) (fun _ => .u) a)
    (fun a => @Option.rec _ (fun _ => V) .mn (fun _ => .u) a)
    (fun _ => .u) (fun _ _ _ => .u) .fn (fun _ _ => .u) .u (fun cs => .g (cv1s cs.toList)) (fun cs => .t (cv1s cs.toList))

noncomputable def evT (i : Nat) (n : Env) : V := @Env.rec (fun _ => V) (fun gm l t => @Bool.rec (fun _ => V) (getL l i) (getT t i) (Nat.testBit gm i)) n
noncomputable def ev : Operand → Env → V := @Operand.rec (fun _ => Env → V) evT (fun v _ => cv v) (fun _ _ => .u) (fun f _ => .f f [] [])
noncomputable def evs : List Operand → Env → List V := @List.rec Operand (fun _ => Env → List V) (fun _ => []) (fun a _ ih t => ev a t :: ih t)

/-! types -/
noncomputable def und (t : Nat) : TypeDesc := (PP.underlying t).getD .invalid
noncomputable def siz (t : Nat) : Nat := ((PP.info? t).map (·.size)).getD 0
noncomputable def agg (t : Nat) : Bool := match und t with | .struct _ | .array _ _ => true | _ => false
noncomputable def kn (t : Nat) : Bool := match und t with | .invalid => false | _ => true
noncomputable def zer (t : Nat) : V := cv ((((PP.info? t).bind (·.zero))).getD undef)
noncomputable def cells : V → List V := @V.rec (fun _ => List V) (fun _ => Unit) [.u] (fun x => [.b x]) (fun k n => [.i k n]) (fun l n => [.s l n]) (fun b o => [.p b o]) [.pn] (fun b o n c x => [.l b o n c x]) [.ln] (fun r => [.m r]) [.mn] (fun a b c _ _ => [.f a b c]) [.fn] (fun cs _ => cs) (fun vs _ => [.t vs]) (fun t v _ => [.d t v]) (fun n => [.x n]) () (fun _ _ _ _ => ())
noncomputable def zcs (t : Nat) : List V := cells (zer t)
noncomputable def fieldOf (t i : Nat) : Option Field := match und t with | .struct fs => fs.toList[i]? | _ => none

/-! ints -/
noncomputable def mxk : IntKind → Nat := @IntKind.rec (fun _ => Nat) (nat_lit 127) (nat_lit 32767) (nat_lit 2147483647) (nat_lit 9223372036854775807) (nat_lit 255) (nat_lit 65535) (nat_lit 4294967295) (nat_lit 18446744073709551615)
noncomputable def wrp (k : IntKind) (n : Int) : Int :=
  @Int.rec (fun _ => Int) (fun m => @Bool.rec (fun _ => Int) (k.wrap (Int.ofNat m)) (Int.ofNat m) (Nat.ble m (mxk k))) (fun m => k.wrap (Int.negSucc m)) n
noncomputable def addI (x y : Int) : Int :=
  @Int.rec (fun _ => Int) (fun a => @Int.rec (fun _ => Int) (fun b => .ofNat (Nat.add a b)) (fun b => Int.subNatNat a (Nat.succ b)) y)
    (fun a => @Int.rec (fun _ => Int) (fun b => Int.subNatNat b (Nat.succ a)) (fun b => .negSucc (Nat.succ (Nat.add a b))) y) x
noncomputable def negI (x : Int) : Int := @Int.rec (fun _ => Int) (fun a => @Nat.rec (fun _ => Int) (.ofNat (nat_lit 0)) (fun a' _ => .negSucc a') a) (fun a => .ofNat (Nat.succ a)) x
noncomputable def subI (x y : Int) : Int :=
  @Int.rec (fun _ => Int) (fun a => @Int.rec (fun _ => Int) (fun b => @Bool.rec (fun _ => Int) (negI (.ofNat (Nat.sub b a))) (.ofNat (Nat.sub a b)) (Nat.ble b a)) (fun b => .ofNat (Nat.add a (Nat.succ b))) y)
    (fun a => @Int.rec (fun _ => Int) (fun b => .negSucc (Nat.add a b)) (fun b => addI (.negSucc a) (.ofNat (Nat.succ b))) y) x
noncomputable def eqI (x y : Int) : Bool :=
  @Int.rec (fun _ => Bool) (fun a => @Int.rec (fun _ => Bool) (fun b => Nat.beq a b) (fun _ => false) y) (fun a => @Int.rec (fun _ => Bool) (fun _ => false) (fun b => Nat.beq a b) y) x
noncomputable def leI (x y : Int) : Bool :=
  @Int.rec (fun _ => Bool) (fun a => @Int.rec (fun _ => Bool) (fun b => Nat.ble a b) (fun _ => false) y) (fun a => @Int.rec (fun _ => Bool) (fun _ => true) (fun b => Nat.ble b a) y) x
noncomputable def ltI (x y : Int) : Bool :=
  @Int.rec (fun _ => Bool) (fun a => @Int.rec (fun _ => Bool) (fun b => Nat.ble (Nat.succ a) b) (fun _ => false) y) (fun a => @Int.rec (fun _ => Bool) (fun _ => true) (fun b => Nat.ble (Nat.succ b) a) y) x
noncomputable def ikEq (a b : IntKind) : Bool := Nat.beq (IntKind.ctorIdx a) (IntKind.ctorIdx b)

/-! the log -/
noncomputable def rd (b : Nat) (g : G) : G := @G.rec (fun _ => G) (fun h nx on r w => @Bool.rec (fun _ => G) ⟨h, nx, false, r, w⟩ (fcG (Nat.lor r (Nat.shiftLeft (nat_lit 1) b)) fun r => ⟨h, nx, true, r, w⟩) on) g
/-- a block written -/
noncomputable def wrO (b : Nat) (o : O) (g : G) : G := @G.rec (fun _ => G) (fun h nx on r w => @Bool.rec (fun _ => G) ⟨setH h b o, nx, false, r, w⟩ (fcG (Nat.lor w (Nat.shiftLeft (nat_lit 1) b)) fun w => ⟨setH h b o, nx, true, r, w⟩) on) g

/-! rows of cells -/
noncomputable def ptOf : List V → Nat → PT V → PT V := @List.rec V (fun _ => Nat → PT V → PT V) (fun _ t => t) (fun a _ ih k t => ih (Nat.succ k) (setT t k a))
noncomputable def takeC (t : PT V) : Nat → Nat → List V := @Nat.rec (fun _ => Nat → List V) (fun _ => []) (fun _ ih o => getT t o :: ih (Nat.succ o))
noncomputable def lenL : List V → Nat := @List.rec V (fun _ => Nat) (nat_lit 0) (fun _ _ ih => Nat.succ ih)
noncomputable def newO (o : O) (g : G) (k : Nat → G → RO) : RO := @G.rec (fun _ => RO) (fun h nx on r w => fcN nx fun b => k b ⟨setH h b o, Nat.succ b, on, r, w⟩) g
noncomputable def newC (cs : List V) (g : G) (k : Nat → G → RO) : RO := fcN (lenL cs) fun n => newO (.c n (ptOf cs (nat_lit 0) .e)) g k
noncomputable def loadC (b o n : Nat) (g : G) (k : List V → G → RO) : RO :=
  elO (getH g.h b) (fun sz t => cnd (Nat.ble (Nat.add o n) sz) (k (takeC t n o) (rd b g)) (.bad (nat_lit 2))) (.bad (nat_lit 1))
noncomputable def loadW (b o : Nat) (g : G) (k : V → G → RO) : RO :=
  elO (getH g.h b) (fun sz t => cnd (Nat.ble (Nat.succ o) sz) (k (getT t o) (rd b g)) (.bad (nat_lit 2))) (.bad (nat_lit 1))
/-- a value of one cell, known -/
noncomputable def scal : V → Bool := @V.rec (fun _ => Bool) (fun _ => Unit) false (fun _ => true) (fun _ _ => true) (fun _ _ => true) (fun _ _ => true) true (fun _ _ _ _ _ => true) true (fun _ => true) true (fun _ _ _ _ _ => true) true (fun _ _ => false) (fun _ _ => false) (fun _ _ _ => true) (fun _ => true) () (fun _ _ _ _ => ())
/-- known at its head -/
noncomputable def okT : V → Bool := @V.rec (fun _ => Bool) (fun _ => Unit) false (fun _ => true) (fun _ _ => true) (fun _ _ => true) (fun _ _ => true) true (fun _ _ _ _ _ => true) true (fun _ => true) true (fun _ _ _ _ _ => true) true (fun _ _ => true) (fun _ _ => false) (fun _ _ _ => true) (fun _ => true) () (fun _ _ _ _ => ())
noncomputable def kz (t : Nat) : Bool := match (PP.info? t).bind (·.zero) with | some z => okT (cv z) | none => false
noncomputable def okC : List V → Bool := @List.rec V (fun _ => Bool) true (fun a _ ih => @Bool.rec (fun _ => Bool) false ih (scal a))
noncomputable def storeC (b o : Nat) (cs : List V) (g : G) (k : G → RO) : RO :=
  elO (getH g.h b) (fun sz t => cnd (Nat.ble (Nat.add o (lenL cs)) sz) (cnd (okC cs) (k (wrO b (.c sz (ptOf cs o t)) g)) (.bad (nat_lit 6))) (.bad (nat_lit 5))) (.bad (nat_lit 4))
noncomputable def unitV : V := .t []
noncomputable def appL (a b : List V) : List V := @List.rec V (fun _ => List V) b (fun x _ ih => x :: ih) a
noncomputable def xMove (x : Operand) (_ : Cl) (t : Env) (g : G) : RO := .ok (ev x t) g
noncomputable def xPick (k a b : Operand) (_ : Cl) (t : Env) (g : G) : RO := elB (ev k t) (@Bool.rec (fun _ => RO) (.ok (ev b t) g) (.ok (ev a t) g)) (.bad (nat_lit 10))
noncomputable def okP (b : Nat) (g : G) : RO := .ok (.p b (nat_lit 0)) g
noncomputable def xAlloc (ty : Nat) (_ : Cl) (_ : Env) (g : G) : RO := cnd (kz ty) (newC (zcs ty) g okP) (.bad (nat_lit 8))
noncomputable def xBox (_ : Nat) (x : Operand) (_ : Cl) (t : Env) (g : G) : RO := cnd (okT (ev x t)) (newC (cells (ev x t)) g okP) (.bad (nat_lit 9))

/-- lay a row over another, from a place on -/
noncomputable def ovw : List V → Nat → List V → List V :=
  @List.rec V (fun _ => Nat → List V → List V) (fun _ _ => []) (fun a aa ih o vs =>
    @Nat.rec (fun _ => List V) (@List.rec V (fun _ => List V) (a :: aa) (fun v vs' _ => v :: ih (nat_lit 0) vs') vs) (fun o' _ => a :: ih o' vs) o)
noncomputable def rep (a : List V) : Nat → List V := @Nat.rec (fun _ => List V) [] (fun _ ih => appL a ih)
noncomputable def fillL (pl : Nat → Option (Nat × Nat)) (t : Env) : List (Nat × Operand) → List V → Option (List V)
  | [], cs => some cs
  | (i, x) :: ps, cs => match pl i with
    | some (off, sz) => match Nat.beq (lenL (cells (ev x t))) sz, Nat.ble (Nat.add off sz) (lenL cs), okT (ev x t) with
      | true, true, true => fillL pl t ps (ovw cs off (cells (ev x t)))
      | _, _, _ => none
    | none => none
noncomputable def knF : List Field → Bool := @List.rec Field (fun _ => Bool) true (fun f _ ih => @Bool.rec (fun _ => Bool) false ih (kn f.type))
noncomputable def okGo (cs : Option (List V)) (g : G) : RO := match cs with | some cs => .ok (.g cs) g | none => .bad 11
noncomputable def xBuild (ty : Nat) (ps : Array (Nat × Operand)) (_ : Cl) (t : Env) (g : G) : RO :=
  match und ty with
  | .struct fs => cnd (kz ty) (cnd (knF fs.toList) (okGo (fillL (fun i => (fs.toList[i]?).map fun f => (f.offset, siz f.type)) t ps.toList (zcs ty)) g) (.bad 12)) (.bad 12)
  | .array _ e => cnd (kz ty) (cnd (kn e) (okGo (fillL (fun i => some (Nat.mul i (siz e), siz e)) t ps.toList (zcs ty)) g) (.bad 12)) (.bad 12)
  | _ => .bad 13
noncomputable def bsl (len : Nat) (cs : Option (List V)) (g : G) : RO := match cs with
  | some cs => newC cs g fun b g => .ok (.l b (nat_lit 0) len len (nat_lit 0)) g
  | none => .bad 16
noncomputable def xBuildSlice (ty len : Nat) (ps : Array (Nat × Operand)) (_ : Cl) (t : Env) (g : G) : RO :=
  match und ty with
  | .slice e => cnd (kz e) (cnd (Nat.beq (lenL (zcs e)) (siz e)) (cnd (Nat.ble (Nat.mul len (siz e)) (nat_lit 16777216)) (bsl len (fillL (fun i => some (Nat.mul i (siz e), siz e)) t ps.toList (rep (zcs e) len)) g) (.bad 15)) (.bad 15)) (.bad 15)
  | _ => .bad 17
noncomputable def okG (cs : List V) (g : G) : RO := .ok (.g cs) g
noncomputable def xLoad (ty : Nat) (a : Operand) (_ : Cl) (t : Env) (g : G) : RO :=
  elP (ev a t) (fun b o => cnd (kn ty) (cnd (agg ty) (loadC b o (siz ty) g okG) (loadW b o g .ok)) (.bad (nat_lit 19))) (.bad (nat_lit 20))
noncomputable def okU (g : G) : RO := .ok unitV g
noncomputable def xStore (ty : Nat) (a x : Operand) (_ : Cl) (t : Env) (g : G) : RO :=
  elP (ev a t) (fun b o => cnd (kn ty) (cnd (Nat.beq (lenL (cells (ev x t))) (siz ty)) (storeC b o (cells (ev x t)) g okU) (.bad (nat_lit 22))) (.bad (nat_lit 18))) (.bad (nat_lit 21))
/-- not nil -/
noncomputable def some_ : V → Bool := @V.rec (fun _ => Bool) (fun _ => Unit) false (fun _ => false) (fun _ _ => false) (fun _ _ => false) (fun _ _ => true) false (fun _ _ _ _ _ => false) false (fun _ => false) false (fun _ _ _ _ _ => true) false (fun _ _ => false) (fun _ _ => false) (fun _ _ _ => false) (fun _ => false) () (fun _ _ _ _ => ())
noncomputable def xNil (x : Operand) (_ : Cl) (t : Env) (g : G) : RO := cnd (some_ (ev x t)) (.ok (ev x t) g) (.bad (nat_lit 23))

/-! binary operators -/
noncomputable def okI (k : IntKind) (n : Int) (g : G) : RO := fcI (wrp k n) fun m => .ok (.i k m) g
noncomputable def okB (b : Bool) (g : G) : RO := @Bool.rec (fun _ => RO) (.ok (.b false) g) (.ok (.b true) g) b
noncomputable def same (k k' : IntKind) (r : RO) : RO := cnd (ikEq k k') r (.bad (nat_lit 33))
noncomputable def natII (f : Nat → Nat → Nat) (k : IntKind) (a : Int) (k' : IntKind) (b : Int) (g : G) : RO :=
  same k k' (toN a (.bad (nat_lit 34)) fun x => toN b (.bad (nat_lit 35)) fun y => okI k (.ofNat (f x y)) g)
noncomputable def divII (f : Nat → Nat → Nat) (k : IntKind) (a : Int) (k' : IntKind) (b : Int) (g : G) : RO :=
  same k k' (toN a (.bad (nat_lit 34)) fun x => toN b (.bad (nat_lit 35)) fun y => @Nat.rec (fun _ => RO) (.bad (nat_lit 36)) (fun _ _ => okI k (.ofNat (f x y)) g) y)
noncomputable def okM (k : IntKind) (n : Nat) (g : G) : RO := fcN n fun m => .ok (.i k (.ofNat m)) g
noncomputable def modII (k : IntKind) (a : Int) (k' : IntKind) (b : Int) (g : G) : RO :=
  same k k' (toN a (.bad (nat_lit 34)) fun x => toN b (.bad (nat_lit 35)) fun y => @Nat.rec (fun _ => RO) (.bad (nat_lit 36)) (fun _ _ => okM k (Nat.mod x y) g) y)
noncomputable def binII : BinOp → IntKind → Int → IntKind → Int → G → RO :=
  @BinOp.rec (fun _ => IntKind → Int → IntKind → Int → G → RO)
    (fun k a k' b g => same k k' (okI k (addI a b) g))
    (fun k a k' b g => same k k' (okI k (subI a b) g))
    (fun k a k' b g => same k k' (okI k (Int.mul a b) g))
    (divII Nat.div) modII (natII Nat.land) (natII Nat.lor) (natII Nat.xor)
    (fun k a _ b g => toN a (.bad (nat_lit 46)) fun x => toN b (.bad (nat_lit 47)) fun y => cnd (Nat.ble y k.bits) (okI k (.ofNat (Nat.shiftLeft x y)) g) (.bad (nat_lit 48)))
    (fun k a _ b g => toN a (.bad (nat_lit 46)) fun x => toN b (.bad (nat_lit 47)) fun y => cnd (Nat.ble y k.bits) (okM k (Nat.shiftRight x y) g) (.bad (nat_lit 49)))
    (fun _ _ _ _ _ => .bad (nat_lit 50))
    (fun k a k' b g => same k k' (okB (eqI a b) g))
    (fun k a k' b g => same k k' (okB (notB (eqI a b)) g))
    (fun k a k' b g => same k k' (okB (ltI a b) g))
    (fun k a k' b g => same k k' (okB (leI a b) g))
    (fun k a k' b g => same k k' (okB (ltI b a) g))
    (fun k a k' b g => same k k' (okB (leI b a) g))
noncomputable def eqS (l n l' n' : Nat) : Bool := @Bool.rec (fun _ => Bool) false (Nat.beq n n') (Nat.beq l l')
noncomputable def bad51 (_ _ _ _ : Nat) (_ : G) : RO := .bad (nat_lit 51)
noncomputable def binSS : BinOp → Nat → Nat → Nat → Nat → G → RO :=
  @BinOp.rec (fun _ => Nat → Nat → Nat → Nat → G → RO)
    (fun l n l' n' g => fcN (Nat.add l l') fun a => cnd (Nat.ble a (nat_lit 1048576)) (fcN (Nat.add n (Nat.shiftLeft n' (Nat.mul (nat_lit 8) l))) fun b => .ok (.s a b) g) (.bad (nat_lit 59)))
    bad51 bad51 bad51 bad51 bad51 bad51 bad51 bad51 bad51 bad51
    (fun l n l' n' g => okB (eqS l n l' n') g)
    (fun l n l' n' g => okB (notB (eqS l n l' n')) g)
    bad51 bad51 bad51 bad51
/-- keys of maps, and other plain values -/
noncomputable def keyEq : TypeDesc → V → V → Option Bool
  | .int _, .i k a, .i k' b => match ikEq k k' with | true => some (eqI a b) | false => none
  | .string, .s l n, .s l' n' => some (eqS l n l' n')
  | .bool, .b x, .b y => some (beqB x y)
  | _, _, _ => none
noncomputable def eq1 (ty : Nat) (x y : V) : Option Bool := match und ty, x, y with
  | .pointer _, .pn, .pn => some true
  | .pointer _, .pn, .p _ _ => some false
  | .pointer _, .p _ _, .pn => some false
  | .pointer e, .p b o, .p b' o' => match Nat.beq b b', Nat.beq (siz e) 0 with | true, false => some (Nat.beq o o') | _, _ => none
  | .slice _, .ln, .ln => some true
  | .slice _, .l _ _ _ _ _, .ln => some false
  | .slice _, .ln, .l _ _ _ _ _ => some false
  | .map _ _, .mn, .mn => some true
  | .map _ _, .mn, .m _ => some false
  | .map _ _, .m _, .mn => some false
  | .func _ _ _, .fn, .fn => some true
  | .func _ _ _, .fn, .f _ _ _ => some false
  | .func _ _ _, .f _ _ _, .fn => some false
  | d, x, y => keyEq d x y
/-- the descriptions of the cells of a struct or an array of plain values -/
noncomputable def okFd (f : Field) (i : Nat) : Bool := (Nat.beq f.offset i && Nat.beq (siz f.type) 1) && (notB (agg f.type) && notB (f.name == "_"))
def consF (b : Bool) (d : TypeDesc) (l : Option (List TypeDesc)) : Option (List TypeDesc) := match b, l with
  | true, some l => some (d :: l)
  | _, _ => none
noncomputable def flatF : List Field → Nat → Option (List TypeDesc)
  | [], _ => some []
  | f :: r, i => consF (okFd f i) (und f.type) (flatF r (Nat.succ i))
noncomputable def flatD (ty : Nat) : Option (List TypeDesc) := match PP.eqGuardType PP.depth ty with
  | true => none
  | false => match und ty with
    | .struct fs => match PP.stoodInHeld ty with
      | true => none
      | false => flatF fs.toList 0
    | .array n e => match Nat.beq (siz e) 1, agg e with
      | true, false => some (List.replicate n (und e))
      | _, _ => none
    | _ => none
noncomputable def eqs : List TypeDesc → List V → List V → Option Bool
  | [], [], [] => some true
  | d :: ds, a :: aa, b :: bs => match keyEq d a b with
    | some true => eqs ds aa bs
    | r => r
  | _, _, _ => none
noncomputable def eqV (ty : Nat) (x y : V) : Option Bool := match x, y with
  | .g a, .g b => match flatD ty with
    | some ds => eqs ds a b
    | none => none
  | a, b => eq1 ty a b
noncomputable def binEq (op : BinOp) (ty : Nat) (x y : V) (g : G) : RO := match op, eqV ty x y with
  | .eql, some r => okB r g
  | .neq, some r => okB (notB r) g
  | _, _ => .bad 52
noncomputable def xBin (op : BinOp) (ty : Nat) (x y : Operand) (_ : Nat) (_ : Cl) (t : Env) (g : G) : RO :=
  elI (ev x t) (fun k a => elI (ev y t) (fun k' b => binII op k a k' b g) (.bad (nat_lit 54)))
    (elS (ev x t) (fun l n => elS (ev y t) (fun l' n' => binSS op l n l' n' g) (.bad (nat_lit 55))) (binEq op ty (ev x t) (ev y t) g))
noncomputable def xUn (op : UnOp) (_ : Nat) (x : Operand) (_ : Cl) (t : Env) (g : G) : RO := match op, ev x t with
  | .not, .b q => okB (notB q) g
  | .neg, .i k n => okI k (negI n) g
  | _, _ => .bad 58

/-! conversions -/
noncomputable def bytesV : Nat → Nat → List V := @Nat.rec (fun _ => Nat → List V) (fun _ => []) (fun _ ih n => .i .u8 (.ofNat (Nat.mod n (nat_lit 256))) :: ih (Nat.div n (nat_lit 256)))
noncomputable def packV : List V → Option Nat
  | [] => some 0
  | .i .u8 (.ofNat a) :: r => match packV r, Nat.ble a (nat_lit 255) with
    | some n, true => some (Nat.add a (Nat.mul (nat_lit 256) n))
    | _, _ => none
  | _ => none
noncomputable def okS (l : Nat) (n : Option Nat) (g : G) : RO := match n with | some n => fcN n fun n => .ok (.s l n) g | none => .bad 60
noncomputable def isB (ty : Nat) : Bool := match und ty with
  | .slice e => (match und e with | .int .u8 => true | _ => false)
  | _ => false
/-- a pointer to a type that has cells -/
noncomputable def isPz (ty : Nat) : Bool := match und ty with
  | .pointer e => match kn e, Nat.ble 1 (siz e) with | true, true => true | _, _ => false
  | _ => false
noncomputable def cvBS (b o n : Nat) (g : G) : RO := @Nat.rec (fun _ => RO) (.ok (.s 0 0) g) (fun _ _ => loadC b o n g fun cs g => okS n (packV cs) g) n
noncomputable def cvLL (b o n q z : Nat) (g : G) : RO := elO (getH g.h b) (fun sz t => .ok (.l b o n q z) (wrO b (.c sz t) g)) (.bad (nat_lit 65))
noncomputable def xConv (src dst : Nat) (x : Operand) (_ : Cl) (t : Env) (g : G) : RO :=
  cnd (kn src) (match und dst, ev x t with
  | .int k, .i _ n => okI k n g
  | .string, .s l n => .ok (.s l n) g
  | .slice _, .s l n => cnd (isB dst) (newC (bytesV l n) g fun b g => .ok (.l b (nat_lit 0) l l (nat_lit 2)) g) (.bad 62)
  | .string, .ln => cnd (isB src) (.ok (.s 0 0) g) (.bad 63)
  | .string, .l b o n _ _ => cnd (isB src) (cvBS b o n g) (.bad 64)
  | .slice _, .l b o n q z => cnd (isB dst) (cnd (Nat.beq src dst) (cvLL b o n q z g) (.bad 65)) (.bad 66)
  | .unsafePointer, .p b o => cnd (isPz src) (elO (getH g.h b) (fun sz _ => cnd (Nat.ble (Nat.succ o) sz) (.ok (.p b o) (rd b g)) (.bad (nat_lit 67))) (.bad (nat_lit 67))) (.bad 67)
  | _, _ => .bad 67) (.bad 67)
noncomputable def xIface (ty : Nat) (x : Operand) (_ : Cl) (t : Env) (g : G) : RO := .ok (.d ty (ev x t)) g
noncomputable def xFunc (fn : Fn) (fs cs : Array Operand) (_ : Cl) (t : Env) (g : G) : RO := match fn with
  | .func f => .ok (.f f (evs fs.toList t) (evs cs.toList t)) g
  | _ => .bad 68
noncomputable def xMap (_ : Nat) (r : Option Operand) (_ : Cl) (_ : Env) (g : G) : RO := @Option.rec Operand (fun _ => RO) (newO (.m []) g fun b g => .ok (.m b) g) (fun _ => .bad (nat_lit 69)) r
/-- a type of cells that may be made in rows -/
noncomputable def apZ (e : Nat) : Bool := match PP.info? e with
  | some i => match kz e, Nat.beq (lenL (zcs e)) (siz e), Nat.ble 1 (siz e), Nat.ble i.bytes 65536 with | true, true, true, true => true | _, _, _, _ => false
  | none => false
noncomputable def xMakeSlice (ty : Nat) (l k : Operand) (_ : Cl) (t : Env) (g : G) : RO := match und ty, ev l t, ev k t with
  | .slice e, .i _ (.ofNat n), .i _ (.ofNat q) => cnd (apZ e) (cnd (Nat.ble n q) (cnd (Nat.ble q (nat_lit 1048576)) (newC (rep (zcs e) q) g fun b g => .ok (.l b (nat_lit 0) n q (nat_lit 0)) g) (.bad 70)) (.bad 71)) (.bad 72)
  | _, _, _ => .bad 72
/-- a bound of a slice expression -/
noncomputable def bnd (x : Option Operand) (t : Env) (dft top : Nat) (k : Nat → RO) : RO :=
  @Option.rec Operand (fun _ => RO) (k dft) (fun x => elI (ev x t) (fun _ n => toN n (.bad (nat_lit 74)) fun m => cnd (Nat.ble m top) (fcN m k) (.bad (nat_lit 75))) (.bad (nat_lit 73))) x
noncomputable def orB (x y : Bool) : Bool := @Bool.rec (fun _ => Bool) y true x
noncomputable def cndN (b : Bool) (x y : Nat) : Nat := @Bool.rec (fun _ => Nat) y x b
noncomputable def mkSl (b o sz l h m ex : Nat) (g : G) : RO :=
  fcN (cndN (Nat.beq ex (nat_lit 0)) (cndN (Nat.beq m l) o (Nat.add o (Nat.mul l sz))) (Nat.add o (Nat.mul l sz))) fun o' => fcN (Nat.sub h l) fun n => fcN (Nat.sub m l) fun q => .ok (.l b o' n q ex) g
/-- with a third index: the capacity is known then -/
noncomputable def mkSl3 (b o sz l h m q ex : Nat) (g : G) : RO := cnd (orB (Nat.beq ex 0) (Nat.ble 1 q)) (mkSl b o sz l h m 0 g) (.bad 80)
noncomputable def subS (n a b : Nat) (g : G) : RO :=
  fcN (Nat.sub b a) fun d => fcN (Nat.mod (Nat.shiftRight n (Nat.mul (nat_lit 8) a)) (Nat.pow (nat_lit 2) (Nat.mul (nat_lit 8) d))) fun m => .ok (.s d m) g
noncomputable def xSlice (ty : Nat) (x : Operand) (lo hi mx : Option Operand) (_ : Cl) (t : Env) (g : G) : RO :=
  match und ty, ev x t, mx with
  | .string, .s l n, none => bnd hi t l l fun h => bnd lo t 0 h fun a => subS n a h g
  | .array n e, .p b o, none => cnd (kn e) (bnd hi t n n fun h => bnd lo t 0 h fun l => mkSl b o (siz e) l h n 0 g) (.bad 76)
  | .pointer a, .p b o, none => match und a with
    | .array n e => cnd (kn e) (bnd hi t n n fun h => bnd lo t 0 h fun l => mkSl b o (siz e) l h n 0 g) (.bad 76)
    | _ => .bad 77
  | .slice e, .ln, none => cnd (kn e) (bnd hi t 0 0 fun h => bnd lo t 0 h fun _ => .ok .ln g) (.bad 76)
  | .slice e, .l b o n q ex, none => cnd (kn e) (cnd (orB (Nat.beq ex 0) (Nat.beq ex (Nat.succ (siz e)))) (bnd hi t n q fun h => bnd lo t 0 h fun l => mkSl b o (siz e) l h q ex g) (.bad 79)) (.bad 76)
  | .slice e, .ln, some m => cnd (kn e) (bnd (some m) t 0 0 fun m => match hi with | some _ => bnd hi t 0 m fun h => bnd lo t 0 h fun _ => .ok .ln g | none => .bad 79) (.bad 76)
  | .slice e, .l b o n q ex, some m => cnd (kn e) (bnd (some m) t q q fun m => match hi with | some _ => bnd hi t n m fun h => bnd lo t 0 h fun l => mkSl3 b o (siz e) l h m q ex g | none => .bad 79) (.bad 76)
  | _, _, _ => .bad 78
noncomputable def onFd (x : Option Field) (bad : Nat) (k : Nat → Nat → RO) : RO := @Option.rec Field (fun _ => RO) (.bad bad) (fun f => k f.offset f.type) x
noncomputable def xFieldAddr (s : Nat) (x : Operand) (f : Nat) (_ : Cl) (t : Env) (g : G) : RO :=
  onFd (fieldOf s f) (nat_lit 79) fun off ty => cnd (Nat.beq (siz ty) (nat_lit 0)) (.bad (nat_lit 81)) (elP (ev x t) (fun b o => fcN (Nat.add o off) fun o => .ok (.p b o) g) (.bad (nat_lit 80)))
noncomputable def dropL : Nat → List V → List V := @Nat.rec (fun _ => List V → List V) (fun l => l) (fun _ ih => @List.rec V (fun _ => List V) [] (fun _ t _ => ih t))
noncomputable def takeL : Nat → List V → List V := @Nat.rec (fun _ => List V → List V) (fun _ => []) (fun _ ih => @List.rec V (fun _ => List V) [] (fun a t _ => a :: ih t))
noncomputable def nthL (i : Nat) (l : List V) : V := @List.rec V (fun _ => V) .u (fun a _ _ => a) (dropL i l)
noncomputable def partL (ty : Nat) (cs : List V) (off : Nat) (g : G) : RO :=
  cnd (kn ty) (cnd (Nat.ble (Nat.add off (siz ty)) (lenL cs)) (cnd (agg ty) (.ok (.g (takeL (siz ty) (dropL off cs))) g) (cnd (Nat.ble (Nat.succ off) (lenL cs)) (.ok (nthL off cs) g) (.bad 82))) (.bad 82)) (.bad 82)
noncomputable def xField (s : Nat) (x : Operand) (f : Nat) (_ : Cl) (t : Env) (g : G) : RO :=
  onFd (fieldOf s f) (nat_lit 83) fun off ty => elG (ev x t) (fun cs => partL ty cs off g) (.bad (nat_lit 84))
noncomputable def xIndexAddr (ty : Nat) (x ix : Operand) (_ : Cl) (t : Env) (g : G) : RO :=
  match und ty, ev x t, ev ix t with
  | .array n e, .p b o, .i _ (.ofNat i) => cnd (kn e) (cnd (Nat.ble (Nat.succ i) n) (fcN (Nat.add o (Nat.mul i (siz e))) fun o => .ok (.p b o) g) (.bad 85)) (.bad 85)
  | .slice e, .l b o n _ _, .i _ (.ofNat i) => cnd (kn e) (cnd (Nat.ble (Nat.succ i) n) (fcN (Nat.add o (Nat.mul i (siz e))) fun o => .ok (.p b o) g) (.bad 86)) (.bad 86)
  | _, _, _ => .bad 87
noncomputable def xIndex (ty : Nat) (x ix : Operand) (_ : Cl) (t : Env) (g : G) : RO :=
  match und ty, ev x t, ev ix t with
  | .array n e, .g cs, .i _ (.ofNat i) => cnd (Nat.ble (Nat.succ i) n) (partL e cs (Nat.mul i (siz e)) g) (.bad 88)
  | .string, .s l n, .i _ (.ofNat i) => cnd (Nat.ble (Nat.succ i) l) (fcN (Nat.mod (Nat.shiftRight n (Nat.mul (nat_lit 8) i)) (nat_lit 256)) fun m => .ok (.i .u8 (.ofNat m)) g) (.bad 89)
  | _, _, _ => .bad 90
/-! maps -/
noncomputable def mFind (d : TypeDesc) (k : V) : List (V × V) → Option (Option V)
  | [] => some none
  | (a, v) :: r => match keyEq d k a with
    | some true => some (some v)
    | some false => mFind d k r
    | none => none
noncomputable def mSet (d : TypeDesc) (k v : V) : List (V × V) → List (V × V)
  | [] => [(k, v)]
  | (a, x) :: r => match keyEq d k a with
    | some true => (k, v) :: r
    | _ => (a, x) :: mSet d k v r
noncomputable def mDel (d : TypeDesc) (k : V) : List (V × V) → List (V × V)
  | [] => []
  | (a, x) :: r => match keyEq d k a with
    | some true => r
    | _ => (a, x) :: mDel d k r
noncomputable def onMap (r : Nat) (g : G) (k : List (V × V) → RO) : RO := elOM (getH g.h r) k (.bad (nat_lit 91))
noncomputable def lookR (ok : Bool) (v : V) (q : Bool) (g : G) : RO := cnd ok (.ok (.t [v, .b q]) g) (.ok v g)
noncomputable def xLookup (ty : Nat) (x k : Operand) (ok : Bool) (_ : Cl) (t : Env) (g : G) : RO :=
  match und ty, ev x t with
  | .map kt e, .mn => match keyEq (und kt) (ev k t) (ev k t) with | some _ => cnd (kz e) (lookR ok (zer e) false g) (.bad 94) | none => .bad 94
  | .map kt e, .m r => onMap r g fun es => match keyEq (und kt) (ev k t) (ev k t) with
   | none => .bad 94
   | some _ => cnd (kz e) (match mFind (und kt) (ev k t) es with
    | some (some v) => lookR ok v true (rd r g)
    | some none => lookR ok (zer e) false (rd r g)
    | none => .bad 92) (.bad 94)
  | _, _ => .bad 93
noncomputable def xMapSet (ty : Nat) (x k v : Operand) (_ : Cl) (t : Env) (g : G) : RO :=
  match und ty, ev x t with
  | .map kt _, .m r => onMap r g fun es => match keyEq (und kt) (ev k t) (ev k t), mFind (und kt) (ev k t) es with
    | some _, some _ => .ok unitV (wrO r (.m (mSet (und kt) (ev k t) (ev v t) es)) g)
    | _, _ => .bad 94
  | _, _ => .bad 95
noncomputable def xAssert (x : Operand) (_ _ : Nat) (ok : Bool) (_ : Cl) (t : Env) (g : G) : RO := match ev x t with
  | .d _ v => lookR ok v true g
  | _ => .bad 96
noncomputable def xExtract (x : Operand) (i : Nat) (_ : Cl) (t : Env) (g : G) : RO := elT (ev x t) (fun vs => cnd (Nat.ble (Nat.succ i) (lenL vs)) (.ok (nthL i vs) g) (.bad (nat_lit 98))) (.bad (nat_lit 97))

/-! builtins -/
noncomputable def okN (n : Nat) (g : G) : RO := .ok (.i .i64 (.ofNat n)) g
noncomputable def xLen (tys : List Nat) (vs : List V) (g : G) : RO :=
  match tys with
  | [] => .bad 101
  | ty :: _ => match und ty, vs with
    | .string, [.s l _] => okN l g
    | .array n _, [_] => okN n g
    | .pointer a, [_] => match und a with | .array n _ => okN n g | _ => .bad 100
    | .slice _, [.l _ _ n _ _] => okN n g
    | .slice _, [.ln] => okN 0 g
    | .map _ _, [.mn] => okN 0 g
    | .map _ _, [.m r] => onMap r g fun es => okN es.length (rd r g)
    | _, _ => .bad 101
noncomputable def firstC (sz n : Nat) (x : V) (g : G) (k : List V → G → RO) : RO := match x with
  | .l b o _ _ _ => @Nat.rec (fun _ => RO) (k [] g) (fun _ _ => loadC b o (Nat.mul n sz) g k) (Nat.mul n sz)
  | .ln => k [] g
  | .s _ m => k (bytesV n m) g
  | _ => .bad 102
noncomputable def lenV (x : V) : Option Nat := match x with | .l _ _ n _ _ => some n | .ln => some 0 | .s l _ => some l | _ => none
noncomputable def okL (z n b : Nat) (g : G) : RO := .ok (.l b (nat_lit 0) n n (Nat.succ z)) g
/-- what is appended or copied: how many, which cells -/
noncomputable def srcC (sz : Nat) (x : V) (g : G) (k : Nat → List V → G → RO) : RO := match x with
  | .l b o n _ _ => @Nat.rec (fun _ => RO) (k n [] g) (fun _ _ => loadC b o (Nat.mul n sz) g (k n)) (Nat.mul n sz)
  | .ln => k 0 [] g
  | .s l m => k l (bytesV l m) g
  | _ => .bad 102
noncomputable def srcOk (ty sz : Nat) (x : V) : Bool := match und ty, x with
  | .slice _, .l _ _ _ _ _ => true
  | .slice _, .ln => true
  | .string, .s _ _ => Nat.beq sz 1
  | _, _ => false
/-- a type of cells that may be appended -/
noncomputable def apE (e : Nat) : Bool := apZ e
/-- a row that may have room behind it gets cells more -/
noncomputable def grow0 (b sz need zs : Nat) (t : PT V) (cs : List V) (g : G) : RO := newO (.c (Nat.add sz cs.length) (ptOf cs sz t)) (wrO b .no (rd b g)) (okL zs need)
noncomputable def growN (b need zs : Nat) (old cs : List V) (g : G) : RO := newC (appL old cs) (wrO b .no g) (okL zs need)
noncomputable def grow (zs b o sl need : Nat) (cs : List V) (g : G) : RO :=
  elO (getH g.h b) (fun sz t => cnd (Nat.beq (Nat.add o (Nat.mul sl zs)) sz)
    (@Nat.rec (fun _ => RO) (grow0 b sz need zs t cs g) (fun _ _ => loadC b o (Nat.mul sl zs) g fun old g => growN b need zs old cs g) o) (.bad (nat_lit 105))) (.bad (nat_lit 106))
noncomputable def appTo (zs : Nat) (s : V) (n : Nat) (cs : List V) (g : G) : RO := match s with
  | .ln => @Nat.rec (fun _ => RO) (.ok .ln g) (fun _ _ => cnd (Nat.ble n (nat_lit 1048576)) (newC cs g (okL zs n)) (.bad 127)) n
  | .l b o sl q ex => fcN (Nat.add sl n) fun need => cnd (Nat.ble need (nat_lit 1048576))
      (@Bool.rec (fun _ => RO)
        (@Bool.rec (fun _ => RO) (cnd (Nat.beq ex (Nat.succ zs)) (grow zs b o sl need cs g) (.bad 125))
          (@Nat.rec (fun _ => RO) (newC cs g (okL zs need)) (fun _ _ => loadC b o (Nat.mul sl zs) g fun old g => newC (appL old cs) g (okL zs need)) (Nat.mul sl zs)) (Nat.beq ex (nat_lit 0)))
        (@Nat.rec (fun _ => RO) (.ok (.l b o sl q ex) g) (fun _ _ => storeC b (Nat.add o (Nat.mul sl zs)) cs g (.ok (.l b o need q ex))) n) (Nat.ble need q)) (.bad 126)
  | _ => .bad 107
noncomputable def xAppend (tys : List Nat) (vs : List V) (g : G) : RO :=
  match tys, vs with
  | [ty, ty2], [s, x] => match und ty with
    | .slice e => cnd (apE e) (cnd (srcOk ty2 (siz e) x) (srcC (siz e) x g fun n cs g => cnd (okC cs) (appTo (siz e) s n cs g) (.bad 128)) (.bad 104)) (.bad 103)
    | _ => .bad 108
  | _, _ => .bad 109
noncomputable def xCopy (tys : List Nat) (vs : List V) (g : G) : RO :=
  match tys, vs with
  | ty :: _, [d, x] => match und ty, lenV d, lenV x with
    | .slice e, some n, some m => cnd (apE e) (fcN (cndN (Nat.ble m n) m n) fun k => firstC (siz e) k x g fun cs g => match d with
      | .l b o _ _ _ => @Nat.rec (fun _ => RO) (okN k g) (fun _ _ => storeC b o cs g (okN k)) k
      | .ln => okN k g
      | _ => .bad 110) (.bad 110)
    | _, _, _ => .bad 110
  | _, _ => .bad 111
noncomputable def xDelete (tys : List Nat) (vs : List V) (g : G) : RO :=
  match tys with
  | [] => .bad 113
  | ty :: _ => match und ty, vs with
    | .map kt _, [.m r, k] => onMap r g fun es => match keyEq (und kt) k k, mFind (und kt) k es with
      | some _, some _ => .ok unitV (wrO r (.m (mDel (und kt) k es)) g)
      | _, _ => .bad 112
    | _, _ => .bad 113
noncomputable def xMinMax (mx : Bool) (vs : List V) (g : G) : RO := match vs with
  | [.i k a, .i _ b] => cnd (beqB mx (ltI b a)) (.ok (.i k a) g) (.ok (.i k b) g)
  | _ => .bad 114
noncomputable def xClear (tys : List Nat) (vs : List V) (g : G) : RO := match tys, vs with
  | [ty], [x] => match und ty, x with
    | .slice e, .l b o n _ _ => cnd (apE e) (@Nat.rec (fun _ => RO) (.ok unitV g) (fun _ _ => storeC b o (rep (zcs e) n) g okU) n) (.bad 115)
    | .slice _, .ln => .ok unitV g
    | _, _ => .bad 115
  | _, _ => .bad 116
noncomputable def xCap (tys : List Nat) (vs : List V) (g : G) : RO :=
  match tys with
  | [] => .bad 119
  | ty :: _ => match und ty, vs with
    | .slice _, [.ln] => okN 0 g
    | .slice _, [.l _ _ _ q 0] => okN q g
    | _, _ => .bad 119
noncomputable def xBuiltin : Builtin → List Nat → List V → G → RO
  | .len => xLen
  | .append => xAppend
  | .copy => xCopy
  | .delete => xDelete
  | .max => fun _ => xMinMax true
  | .min => fun _ => xMinMax false
  | .clear => xClear
  | .cap => xCap
  | _ => fun _ _ _ => .bad 120
noncomputable def xCall (k : Call) (call : Cl) (t : Env) (g : G) : RO :=
  @Callee.rec (fun _ => RO) (fun f => elF (ev f t) (fun fn fs cs => call fn (appL fs (appL (evs k.args.toList t) cs)) g) (.bad (nat_lit 121))) (fun _ _ => .bad (nat_lit 122))
    (fun b => xBuiltin b k.argTypes.toList (evs k.args.toList t) g) k.callee
noncomputable def xDefer (k : Call) (_ : Cl) (t : Env) (g : G) : RO :=
  @Callee.rec (fun _ => RO) (fun f => elF (ev f t) (fun fn fs cs => .df (.f fn fs cs) (evs k.args.toList t) g) (.bad (nat_lit 123))) (fun _ _ => .bad (nat_lit 123)) (fun _ => .bad (nat_lit 124)) k.callee
noncomputable def pRepeat : Cl → List V → G → RO
  | _, [.s (.succ .zero) n, .i k (.ofNat m)], g => cnd (ikEq k .i64) (cnd (Nat.ble n (nat_lit 255)) (cnd (Nat.ble m (nat_lit 5000)) (fcN (rpN n m) fun n' => .ok (.s m n') g) (.bad (nat_lit 200))) (.bad (nat_lit 200))) (.bad (nat_lit 200))
  | _, _, _ => .bad 200
noncomputable def u8s : List Nat → List V := @List.rec Nat (fun _ => List V) [] (fun a _ ih => .i .u8 (.ofNat a) :: ih)
noncomputable def u8of : List V → Option (List Nat)
  | [] => some []
  | .i .u8 (.ofNat a) :: r => match u8of r, Nat.ble a (nat_lit 255) with
    | some l, true => some (a :: l)
    | _, _ => none
  | _ => none
noncomputable def okU8 (g : G) (l : List Nat) : RO := .ok (.g (u8s l)) g
noncomputable def pSha : Cl → List V → G → RO
  | _, [.s l n], g => cnd (Nat.ble l (nat_lit 900000)) (shaN (bytesN l n) l (okU8 g)) (.bad (nat_lit 230))
  | _, _, _ => .bad 230
/-- texts that are unlike, of one hash? -/
noncomputable def eqLN : List Nat → List Nat → Bool := @List.rec Nat (fun _ => List Nat → Bool) (fun m => @List.rec Nat (fun _ => Bool) true (fun _ _ _ => false) m) (fun a _ ih m => @List.rec Nat (fun _ => Bool) false (fun b m' _ => @Bool.rec (fun _ => Bool) false (ih m') (Nat.beq a b)) m)
noncomputable def noC (H : List Nat) (l n : Nat) : List (List Nat × Nat × Nat) → Bool := @List.rec _ (fun _ => Bool) true (fun p _ ih => @Bool.rec (fun _ => Bool) ih (@Bool.rec (fun _ => Bool) false ih (eqS l n p.2.1 p.2.2)) (eqLN H p.1))
noncomputable def colE : List V → List (List Nat × Nat × Nat) → G → RO
  | [], _, g => .ok (.b false) g
  | .s l n :: r, seen, g => cnd (Nat.ble l (nat_lit 900000)) (shaN (bytesN l n) l fun H => cnd (noC H l n seen) (colE r ((H, l, n) :: seen) g) (.bad (nat_lit 270))) (.bad (nat_lit 270))
  | _, _, _ => .bad 271
noncomputable def pCol : Cl → List V → G → RO
  | _, [.ln], g => .ok (.b false) g
  | _, [.l b o n _ _], g => @Nat.rec (fun _ => RO) (.ok (.b false) g) (fun _ _ => cnd (Nat.ble n (nat_lit 1000000)) (loadC b o n g fun cs g => colE cs [] g) (.bad (nat_lit 272))) n
  | _, _, _ => .bad 273
noncomputable def pTag : Cl → List V → G → RO
  | _, [.s k m, .s l n], g => cnd (Nat.ble k (nat_lit 64)) (cnd (Nat.ble l (nat_lit 900000)) (tagN (bytesN k m) k (bytesN l n) l (okU8 g)) (.bad (nat_lit 231))) (.bad (nat_lit 231))
  | _, _, _ => .bad 231
noncomputable def pKey : Cl → List V → G → RO
  | _, [.g cs, .s l n], g => match u8of cs with
    | some key => cnd (Nat.beq (lenN key) (nat_lit 32)) (cnd (Nat.ble l (nat_lit 900000)) (tagN key (nat_lit 32) (bytesN l n) l (okU8 g)) (.bad (nat_lit 232))) (.bad (nat_lit 232))
    | none => .bad 232
  | _, _, _ => .bad 232
noncomputable def okStr (n : Nat) (g : G) (l : List Nat) : RO := fcN (packN l) fun p => .ok (.s n p) g
noncomputable def pStr : Cl → List V → G → RO
  | _, [.g cs, .g ns, .s l n], g => match u8of cs, u8of ns with
    | some key, some nonce => cnd (Nat.beq (lenN key) (nat_lit 32)) (cnd (Nat.beq (lenN nonce) (nat_lit 12)) (cnd (Nat.ble l (nat_lit 100000)) (strN key nonce (bytesN l n) l (okStr l g)) (.bad (nat_lit 233))) (.bad (nat_lit 233))) (.bad (nat_lit 233))
    | _, _ => .bad 233
  | _, _, _ => .bad 233
noncomputable def pSm : Cl → List V → G → RO
  | _, [.s l n], g => cnd (Nat.ble l (nat_lit 900000)) (fcN (sumE (bytesN l n)) fun c => .ok (.i .u32 (.ofNat c)) g) (.bad (nat_lit 234))
  | _, _, _ => .bad 234
noncomputable def cntS : Nat → Nat → Nat → Nat := @Nat.rec (fun _ => Nat → Nat → Nat) (fun _ _ => 0) (fun _ ih n c => Nat.add (@Bool.rec (fun _ => Nat) 0 1 (Nat.beq (Nat.mod n 256) c)) (ih (Nat.div n 256) c))
noncomputable def idxS : Nat → Nat → Nat → Nat → Int := @Nat.rec (fun _ => Nat → Nat → Nat → Int) (fun _ _ _ => -1) (fun _ ih n c i => @Bool.rec (fun _ => Int) (ih (Nat.div n 256) c (Nat.succ i)) (.ofNat i) (Nat.beq (Nat.mod n 256) c))
noncomputable def isU8 (k : IntKind) (r : RO) : RO := cnd (ikEq k .u8) r (.bad (nat_lit 220))
noncomputable def pCount : Cl → List V → G → RO
  | _, [.s l n, .i k (.ofNat c)], g => isU8 k (cnd (Nat.ble c (nat_lit 255)) (fcN (cntS l n c) fun k => okN k g) (.bad (nat_lit 201)))
  | _, _, _ => .bad 201
noncomputable def pIdx : Cl → List V → G → RO
  | _, [.s l n, .i k (.ofNat c)], g => isU8 k (cnd (Nat.ble c (nat_lit 255)) (fcI (idxS l n c 0) fun k => .ok (.i .i64 k) g) (.bad (nat_lit 202)))
  | _, _, _ => .bad 202
noncomputable def pLd (k : IntKind) : Cl → List V → G → RO
  | _, [.p b o], g => loadW b o g fun v g => elI v (fun k' n => cnd (ikEq k k') (.ok (.i k n) g) (.bad (nat_lit 203))) (.bad (nat_lit 203))
  | _, _, _ => .bad 203
noncomputable def pSt : Cl → List V → G → RO
  | _, [.p b o, .i k y], g => storeC b o [.i k y] g okU
  | _, _, _ => .bad 204
noncomputable def pAdd (k : IntKind) : Cl → List V → G → RO
  | _, [.p b o, .i k1 d], g => cnd (ikEq k k1) (loadW b o g fun v g => elI v (fun k2 n => cnd (ikEq k k2) (fcI (wrp k (addI n d)) fun n => storeC b o [.i k n] g (.ok (.i k n))) (.bad (nat_lit 205))) (.bad (nat_lit 205))) (.bad (nat_lit 205))
  | _, _, _ => .bad 206
noncomputable def pCas (k : IntKind) : Cl → List V → G → RO
  | _, [.p b o, .i k1 x, .i k2 y], g => cnd (ikEq k k1) (cnd (ikEq k k2) (loadW b o g fun v g => elI v (fun k3 n => cnd (ikEq k k3) (cnd (eqI n x) (storeC b o [.i k y] g (.ok (.b true))) (.ok (.b false) g)) (.bad (nat_lit 207))) (.bad (nat_lit 207))) (.bad (nat_lit 207))) (.bad (nat_lit 207))
  | _, _, _ => .bad 208
noncomputable def pU0 : Cl → List V → G → RO
  | _, [], g => okU g
  | _, _, _ => .bad 209
noncomputable def pU1 : Cl → List V → G → RO
  | _, [.p _ _], g => okU g
  | _, _, _ => .bad 209
noncomputable def ltS : Nat → Nat → Nat → Nat → Bool := @Nat.rec (fun _ => Nat → Nat → Nat → Bool) (fun _ l' _ => @Nat.rec (fun _ => Bool) false (fun _ _ => true) l') (fun _ ih n l' n' => @Nat.rec (fun _ => Bool) false (fun l'' _ =>
  @Bool.rec (fun _ => Bool) (@Bool.rec (fun _ => Bool) false (fc (Nat.div n (nat_lit 256)) fun n => fc (Nat.div n' (nat_lit 256)) fun n' => ih n l'' n') (Nat.beq (Nat.mod n (nat_lit 256)) (Nat.mod n' (nat_lit 256)))) true (Nat.ble (Nat.succ (Nat.mod n (nat_lit 256))) (Nat.mod n' (nat_lit 256)))) l')
noncomputable def insS (l n : Nat) : List (Nat × Nat) → List (Nat × Nat) := @List.rec (Nat × Nat) (fun _ => List (Nat × Nat)) [(l, n)] (fun a r ih => @Bool.rec (fun _ => List (Nat × Nat)) (a :: ih) ((l, n) :: a :: r) (ltS l n a.1 a.2))
/-- the keys of a map of texts, sorted -/
noncomputable def keyS : List (V × V) → Option (List (Nat × Nat))
  | [] => some []
  | (.s l n, _) :: r => match keyS r, Nat.ble l (nat_lit 1000) with
    | some ks, true => some (insS l n ks)
    | _, _ => none
  | _ => none
noncomputable def riseS : List (Nat × Nat) → Bool := @List.rec (Nat × Nat) (fun _ => Bool) true (fun a r ih => @List.rec (Nat × Nat) (fun _ => Bool) true (fun b _ _ => @Bool.rec (fun _ => Bool) false ih (ltS a.1 a.2 b.1 b.2)) r)
noncomputable def lenKs : List (Nat × Nat) → Nat := @List.rec (Nat × Nat) (fun _ => Nat) (nat_lit 0) (fun _ _ ih => Nat.succ ih)
noncomputable def strsV : List (Nat × Nat) → List V := @List.rec (Nat × Nat) (fun _ => List V) [] (fun a _ ih => .s a.1 a.2 :: ih)
noncomputable def pPaths : Cl → List V → G → RO
  | _, [.p b o], g => loadW b o g fun v g => match v with
    | .m r => onMap r g fun es => match keyS es with
      | some [] => .ok .ln (rd r g)
      | some (k :: ks) => cnd (riseS (k :: ks)) (cnd (Nat.ble (lenKs (k :: ks)) (nat_lit 5000)) (newC (strsV (k :: ks)) (rd r g) (okL (nat_lit 1) (lenKs (k :: ks)))) (.bad (nat_lit 240))) (.bad (nat_lit 240))
      | none => .bad 240
    | _ => .bad 241
  | _, _, _ => .bad 243
noncomputable def insI (i : Nat) : List Nat → List Nat := @List.rec Nat (fun _ => List Nat) [i] (fun a r ih => @Bool.rec (fun _ => List Nat) (a :: ih) (i :: a :: r) (Nat.ble (Nat.succ i) a))
/-- the keys of a map of numbers, sorted -/
noncomputable def keyI : List (V × V) → Option (List Nat)
  | [] => some []
  | (.i .i64 (.ofNat i), _) :: r => match keyI r, Nat.ble i (nat_lit 1000000) with
    | some ks, true => some (insI i ks)
    | _, _ => none
  | _ => none
noncomputable def riseI : List Nat → Bool := @List.rec Nat (fun _ => Bool) true (fun a r ih => @List.rec Nat (fun _ => Bool) true (fun b _ _ => @Bool.rec (fun _ => Bool) false ih (Nat.ble (Nat.succ a) b)) r)
noncomputable def intsV : List Nat → List V := @List.rec Nat (fun _ => List V) [] (fun a _ ih => .i .i64 (.ofNat a) :: ih)
noncomputable def pSortI : Cl → List V → G → RO
  | _, [.f fn [] [.p b o]], g => cnd (Nat.beq fn (nat_lit 444)) (loadW b o g fun v g => match v with
    | .m r => onMap r g fun es => match keyI es with
      | some [] => .ok .ln (rd r g)
      | some (k :: ks) => cnd (riseI (k :: ks)) (cnd (Nat.ble (lenN (k :: ks)) (nat_lit 5000)) (newC (intsV (k :: ks)) (rd r g) (okL (nat_lit 1) (lenN (k :: ks)))) (.bad (nat_lit 280))) (.bad (nat_lit 280))
      | none => .bad 280
    | _ => .bad 281) (.bad (nat_lit 282))
  | _, _, _ => .bad 283
noncomputable def pClone : Cl → List V → G → RO
  | _, [.mn], g => .ok .mn g
  | _, [.m r], g => onMap r g fun es => newO (.m es) (rd r g) fun b g => .ok (.m b) g
  | _, _, _ => .bad 244
noncomputable def noN (k : Nat) : List Nat → Bool := @List.rec Nat (fun _ => Bool) true (fun a _ ih => @Bool.rec (fun _ => Bool) ih false (Nat.beq a k))
/-- what waits, laid: the keys seen so far are no keys again -/
noncomputable def sync1 (lb lo ll : Nat) : List (V × V) → List Nat → G → (G → RO) → RO
  | [], _, g, k => k g
  | (.i .i64 (.ofNat i), .l b2 o2 (.succ n) _ _) :: r, seen, g, k =>
    cnd (Nat.ble (Nat.succ i) ll) (cnd (noN i seen) (cnd (notB (Nat.beq b2 lb)) (cnd (Nat.ble n (nat_lit 999999)) (loadW b2 (Nat.add o2 n) g fun v g => elS v (fun l m => storeC lb (Nat.add lo i) [.s l m] g fun g => sync1 lb lo ll r (i :: seen) g k) (.bad (nat_lit 250))) (.bad (nat_lit 251))) (.bad (nat_lit 252))) (.bad (nat_lit 253))) (.bad (nat_lit 254))
  | _, _, _, _ => .bad 254
noncomputable def pSyC (b o : Nat) (g : G) : RO := loadC b o (nat_lit 4) g fun cs g => match cs with
    | [.l lb lo (.succ ll) _ _, .m r, .i .i64 _, .b false] => cnd (notB (Nat.beq b lb)) (cnd (Nat.ble (Nat.succ ll) (nat_lit 1000000)) (onMap r g fun es => elO (getH g.h lb) (fun sz t => cnd (Nat.ble (Nat.add lo (Nat.succ ll)) sz)
      (sync1 lb lo (Nat.succ ll) es [] (wrO lb (.c sz t) (rd r g)) fun g => .ok (.i .i64 (.ofNat (nat_lit 0))) (wrO r (.m []) g)) (.bad (nat_lit 256))) (.bad (nat_lit 257))) (.bad (nat_lit 258))) (.bad (nat_lit 255))
    | _ => .bad 213
noncomputable def pSync : Cl → List V → G → RO
  | _, [.p b o], g => loadC b o (nat_lit 4) g fun cs g => match cs with
    | [_, .m _, .i .i64 (.negSucc _), .b false] => pSyC b o g
    | [_, .m _, .i .i64 (.ofNat (.succ m)), .b false] => cnd (Nat.ble m (nat_lit 999999)) (storeC b (Nat.add o (nat_lit 2)) [.i .i64 (.ofNat m)] g (pSyC b o)) (.bad (nat_lit 212))
    | _ => .bad 211
  | _, _, _ => .bad 214
/-- a sector read -/
noncomputable def okRd (v : V) (g : G) : RO := elS v (fun l n => .ok (.t [.s l n, .i .i64 (.ofNat (nat_lit 0))]) g) (.bad (nat_lit 260))
noncomputable def pRead : Cl → List V → G → RO
  | _, [.p b o, .i .i64 (.ofNat i)], g => loadC b o (nat_lit 4) g fun cs g => match cs with
    | [.l lb lo ll _ _, .m r, _, .b false] => cnd (Nat.ble (Nat.succ i) ll) (cnd (Nat.ble ll (nat_lit 1000000)) (onMap r g fun es => match mFind (.int .i64) (.i .i64 (.ofNat i)) es with
      | some none => loadW lb (Nat.add lo i) (rd r g) okRd
      | some (some (.l b2 o2 (.succ n) _ _)) => cnd (Nat.ble n (nat_lit 999999)) (loadW b2 (Nat.add o2 n) (rd r g) okRd) (.bad (nat_lit 261))
      | _ => .bad 262) (.bad (nat_lit 263))) (.bad (nat_lit 264))
    | _ => .bad 265
  | _, _, _ => .bad 266
noncomputable def lookE (M l n : Nat) (k : Nat → Nat → Nat → RO) : RO :=
  @Bool.rec (fun _ => RO) (k (nat_lit 0) (nat_lit 0) (nat_lit 2)) (@Bool.rec (fun _ => RO) (fcN (Nat.mod n M) fun m => @Bool.rec (fun _ => RO) (k (nat_lit 0) (nat_lit 0) (nat_lit 2)) (k (nat_lit 60) m (nat_lit 1)) (Nat.beq (Nat.div n M) (sumE (bytesN (nat_lit 60) m))))
    (k (nat_lit 0) (nat_lit 0) (nat_lit 0)) (Nat.beq n (nat_lit 0))) (Nat.beq l (nat_lit 64))
noncomputable def pLook : Cl → List V → G → RO
  | _, [.s l n], g => cnd (Nat.ble l (nat_lit 900000)) (lookE (Nat.pow (nat_lit 2) (nat_lit 480)) l n fun a b c => .ok (.t [.s a b, .i .i64 (.ofNat c)]) g) (.bad (nat_lit 267))
  | _, _, _ => .bad 267
noncomputable def primL : List (Nat × (Cl → List V → G → RO)) := [(485, pCount), (502, pIdx), (107, pRepeat), (387, pLd .u64), (503, pLd .u32), (391, pAdd .u64), (562, pAdd .i32), (537, pSt), (557, pCas .i32), (556, pU0), (558, pU0), (559, pU1), (561, pU1), (176, pTag), (291, pKey), (293, pStr), (418, pSm), (312, pSync), (94, pPaths), (297, pClone), (338, pRead), (339, pLook), (148, pSha), (58, pCol), (363, pSortI)]
noncomputable def primsOf (f : Nat) : Option (Cl → List V → G → RO) := @List.rec (Nat × (Cl → List V → G → RO)) (fun _ => Option (Cl → List V → G → RO)) none (fun p _ ih => @Bool.rec (fun _ => Option (Cl → List V → G → RO)) ih (some p.2) (Nat.beq p.1 f)) primL
noncomputable def gmT : List Nat := [0, 0, 0, 43557472193875908239184854121278713231303, 144118482311413627, 2361183241443493195259, 8623521783, 526413, 40140115104391984571647, 4362086391, 2147540955, 140754668232125, 1, 16893, 36028797287473095, 4295508467, 35201585585863, 19, 45, 137455748979, 549789404943, 528627, 1139, 19, 1139, 4197453, 45, 21, 755, 5, 8594133491, 8796101420019, 67, 4503599627371597, 460861, 35184405778375, 93, 141, 2388927671887309439483, 21, 21, 137438954573, 4197887, 37013960518543325, 1, 51, 16445, 45, 19, 19, 19, 2097531, 940835571, 1073742333, 21, 21, 21, 127, 8589950461, 34359740541, 1, 3998451, 1, 11972621413363206514268160329866123738774162133610227, 3162365, 2361183241434828901371, 16403, 45, 21, 141, 21, 21, 9223381863741124495, 4298113277, 4575, 5, 612489695354946557, 77, 55, 33556271, 16806963, 8520563, 21, 55, 16778237, 567, 45, 650305067402110023132137419513851, 27, 67125171, 2606289634069239650040180334660603, 15729661, 83, 1966771, 21, 1081463, 17531, 59, 3, 67703, 539827, 1965, 18155135998426207, 5, 268436557, 525389, 7, 10404955393597153145976807980556275, 295742380607728599027, 1, 1, 19, 285, 93, 536937021, 1125899906847227, 68225143, 9, 2148011479, 562967267704923, 504373101, 21, 77, 21, 1, 70370908441587, 8251, 123, 123, 31, 31, 31, 31, 31, 27, 31, 262267, 27, 27, 131099, 131099, 27, 16403, 5, 21, 2053, 5, 21, 13, 151152622068075063189501, 32797, 65587, 19, 1, 16495, 9460873866803789463407, 21, 34959, 7, 134217735, 275, 3, 3, 17330303, 21, 159, 5, 8389363, 1048765, 35201551960563, 2125, 65549, 7, 511, 479, 223, 51, 525, 131567, 4194333, 66483, 15, 21, 15, 262381, 19, 1103942914003, 43, 8205, 281539401222335, 35193473762675, 77380734081790154427726943, 1130297953890247, 77522368216565093035545587, 83, 11, 537399539, 11, 19, 1099511891451, 17593275548159, 8519927, 19, 985309, 473960189, 13, 61613, 8634555, 5, 5, 2099, 13, 7, 141735022599, 15, 2148532475, 17, 115, 140806208834141, 268436557, 1011, 2097283, 51, 5, 5, 21, 269485949, 1126451273306099, 170141183480353653131228667515630526451, 75631723041342634330077, 72058143793876935, 21, 77, 5, 2231239, 19, 37217755704500206461, 65563, 4899917494090733271, 36063981391052987, 4194317, 605643501428032267093807, 549759221787, 36893488152250943445, 65619, 21, 21, 549789401597, 8407, 11, 23, 23, 32831, 524743, 23, 131131, 32823, 32823, 71565623, 5, 8215, 995, 2097395, 16499, 16499, 140741784307187, 67, 21, 1, 1073741907, 7881849105809789, 100729981, 34359739123, 12259964326927110866866816782021680781514132908851331039, 16806963, 274877907123, 1055531162730835, 17592186051645, 4398046518333, 51, 243, 34360002551, 13, 5, 35, 11, 5, 167772403, 4167, 36030996181221437, 21, 23, 2247, 3848291753951, 787699, 115, 5, 21, 131087, 122925, 18518801667755352007, 10385861369182222361407809847820047, 5, 5, 131199, 19, 5, 5, 21, 118543, 71307719, 245871, 10519677, 21, 66483, 19, 140741909679999, 17592186048413, 2097359, 1208926972536133857099335, 51, 31, 134217927, 5, 51, 7, 31, 17389, 604275, 5, 5, 8363, 4845148019868505862047731, 1189238532032027428535, 115, 16371, 524353, 19, 33622259, 4381, 73787064324488036339, 74061696972089459197, 45, 70369683709693, 8391, 2207617384701, 21, 1199040634200304651773, 199, 4620764144918863869, 16403, 4311744893, 8285, 33275, 34360788767, 536872391, 2097533, 2621501, 564049473962995, 315, 1139, 65735, 4123, 13, 7, 5, 1, 1, 5, 140304157183766680147553751194318087575294344953663, 2247, 1907, 115, 19, 16806963, 16661, 453937509692141817848831, 2247, 34359841019, 4339, 19, 0, 8229, 77, 19, 33554559, 274996396531, 0, 259, 7, 51, 0, 77, 19, 4109, 1991, 31, 5, 31, 115, 383123885930096062271794698053396311827682563515776783, 21, 295147905181504570311, 2097207, 4123302822771, 5, 19, 8363, 5, 183, 10384593871817177683247510831234831, 5, 114931, 31, 0, 0, 16810611, 499, 1853, 524349, 281474976751603, 4221, 127, 5, 5, 5, 5, 5, 5, 31, 5, 5, 5, 115, 263027, 503316659, 467, 4194423, 67110767, 17594334445821, 5, 8307, 5, 5, 8363, 499, 51, 31, 5, 983, 255, 702342826256273603086707106465568295829491, 19, 1991, 11, 499, 16806963, 5, 32771, 2247, 31, 13, 2147618759, 23, 19, 0, 3, 269427, 3, 5, 266163, 183, 42535296023574879666274036850519702559, 1073746119, 1074268103, 8804682991559, 20829169751433159, 8391, 83087207854311395603287443752634311, 19, 19023213622105999119, 22458641409078797123448399039441150152463, 277, 1991, 85, 0, 19, 4895, 499, 207, 79, 28839, 6375, 19, 31, 183, 10384593871817177683247510831234831, 51, 47, 0, 5, 151115727469970589747187, 0, 0, 1, 1, 3, 16806963, 19, 3, 17179886351, 8592039695, 35218731966223, 1333065575601045263, 33551, 21268317252094917911888073248812900111, 1217485249602318769183, 22997644815212700899627017342834150232570911, 4503668346913551, 5, 5, 71, 1055, 5, 42535296023574879666274036850519702559, 1073746119, 1074268103, 8804682991559, 20829169751433159, 8391, 83087207854311395603287443752634311, 19, 19023213622105999119, 22458641409078797123448399039441150152463, 1107300861, 65, 65541, 0, 13, 0, 525, 288231475663604767, 271, 4159, 262927, 17179886351, 8592039695, 35218731966223, 1333065575601045263, 33551, 21268317252094917911888073248812900111, 1217485249602318769183, 22997644815212700899627017342834150232570911, 4503668346913551, 71, 1055, 0, 0, 0, 0, 10675524600590060348282551976143619069, 0, 0, 1075843347, 4197407, 288231475663604767, 271, 4159, 262927, 0, 0, 0, 0, 0, 0, 0, 4197407, 0, 0, 0, 0, 0, 0, 0, 0, 0, 0, 0, 0, 0, 0, 0, 0, 0, 0, 0, 0, 0]
noncomputable def gmOf (f : Nat) : Nat := gmT.getD f 0
noncomputable def bad1 (_ : Cl) (_ : Env) (_ : G) : RO := .bad (nat_lit 130)
noncomputable def disp : Op → Cl → Env → G → RO :=
  @Op.rec (fun _ => Cl → Env → G → RO)
    xMove xMove xPick xAlloc xBox xBuild xBuildSlice xMapSet xLoad xStore (fun _ => bad1) (fun _ => bad1) xNil xBin xUn xConv (fun _ _ => bad1) (fun _ _ => bad1) xFunc xMap (fun _ _ => bad1)
    xMakeSlice xSlice xFieldAddr xField xIndexAddr xIndex xLookup xMapSet (fun _ _ _ => bad1) (fun _ _ _ _ => bad1) (fun _ _ => bad1) (fun _ _ => bad1) (fun _ => bad1) (fun _ _ _ _ => bad1) xExtract xCall (fun _ => bad1) xDefer
    (fun _ => bad1) (fun _ _ => bad1) (fun _ _ _ => bad1) (fun _ _ => bad1)

noncomputable def putE (dst : Option Nat) (v : V) (n : Env) (k : Env → R) : R :=
  @Option.rec Nat (fun _ => R) (k n) (fun d => @Env.rec (fun _ => R) (fun gm l t => @Bool.rec (fun _ => R) (k ⟨gm, .c d v l, t⟩) (@PT.rec V (fun _ => R) (k ⟨gm, l, .e⟩) (fun a b c _ _ => k ⟨gm, l, .n a b c⟩) (setT t d v)) (Nat.testBit gm d)) n) dst
noncomputable def gdst (ops : List Oper) (j : Nat) : Option Nat := (ops[j]?).bind (·.dst)
/-- an operation that was left out -/
noncomputable def sk0 (v : V) (x y : RO) : RO := match v with | .t [] => x | _ => y
noncomputable def xGuard (want : Bool) (k : RO) (g : G) (t : Env) (d : Option Nat) : RO :=
  @Option.rec Nat (fun _ => RO) (.bad (nat_lit 131)) (fun d => elB (evT d t) (fun q => cnd (beqB q want) k (.ok unitV g)) (sk0 (evT d t) (.ok unitV g) (.bad (nat_lit 132)))) d
/-- one operation: its value -/
noncomputable def xOp1 (ops : List Oper) (o : Oper) (call : Cl) (t : Env) (g : G) : RO :=
  @Option.rec (Nat × Bool) (fun _ => RO) (disp o.op call t g) (fun gd => xGuard gd.2 (disp o.op call t g) g t (gdst ops gd.1)) o.guard
noncomputable def isDf : Op → Bool
  | .defer _ => true
  | _ => false
abbrev KR := Cl → Env → DS → G → R
noncomputable def endE (n : Env) (ds : DS) (g : G) : R := @Env.rec (fun _ => R) (fun _ _ t => .ok .nrm t ds g) n
noncomputable def nilR : KR := fun _ t ds g => endE t ds g
noncomputable def consR (ops : List Oper) (o : Oper) (_ : List Oper) (ih : KR) (call : Cl) (t : Env) (ds : DS) (g : G) : R :=
  elRR (xOp1 ops o call t g) (fun v g => putE o.dst v t fun t => ih call t ds g) (fun f aa g => @Bool.rec (fun _ => R) (.bad (nat_lit 157)) (putE o.dst unitV t fun t => ih call t ((f, aa) :: ds) g) (isDf o.op))
noncomputable def regR (ops : List Oper) : List Oper → KR := @List.rec Oper (fun _ => KR) nilR (consR ops)

/-! a region that draws its order -/
structure Lg where
  i : Nat
  r : Nat
  w : Nat
noncomputable def befE (acc : List Nat) (es : List Edge) : Nat :=
  match es with
  | [] => 0
  | e :: r => match Region.binds .any e with
    | true => Nat.lor (Nat.lor (Nat.shiftLeft 1 e.on) (acc.getD (Nat.sub (acc.length) (Nat.succ e.on)) 0)) (befE acc r)
    | false => befE acc r
/-- what is ahead of each (the last one first) -/
noncomputable def bef : List Oper → List Nat → List Nat
  | [], acc => acc
  | o :: r, acc => bef r (befE acc o.after.toList :: acc)
noncomputable def befs (ops : List Oper) : List Nat := (bef ops []).reverse
noncomputable def freeOf (m r w : Nat) : List Lg → Bool :=
  @List.rec Lg (fun _ => Bool) true (fun l _ ih => @Bool.rec (fun _ => Bool) false ih
    (orB (Nat.beq (Nat.lor (Nat.land w (Nat.lor l.r l.w)) (Nat.land r l.w)) (nat_lit 0)) (Nat.testBit m l.i)))
noncomputable def unionR : List Lg → Nat → Nat := @List.rec Lg (fun _ => Nat → Nat) (fun a => a) (fun l _ ih a => ih (Nat.lor a l.r))
noncomputable def unionW : List Lg → Nat → Nat := @List.rec Lg (fun _ => Nat → Nat) (fun a => a) (fun l _ ih a => ih (Nat.lor a l.w))
noncomputable def hdN (l : List Nat) : Nat := @List.rec Nat (fun _ => Nat) (nat_lit 0) (fun a _ _ => a) l
abbrev KD := List Nat → Nat → List Lg → Bool → Nat → Nat → Cl → Env → DS → G → R
noncomputable def drawNil : KD := fun _ _ ls on r w _ t ds g =>
  @G.rec (fun _ => R) (fun h nx _ _ _ => @Bool.rec (fun _ => R) (endE t ds ⟨h, nx, false, r, w⟩) (fcR (unionR ls r) fun r => fcR (unionW ls w) fun w => endE t ds ⟨h, nx, true, r, w⟩) on) g
noncomputable def addLg (i r w : Nat) (ls : List Lg) : List Lg := @Bool.rec (fun _ => List Lg) (⟨i, r, w⟩ :: ls) ls (Nat.beq (Nat.lor r w) (nat_lit 0))
noncomputable def drawCons (ops : List Oper) (o : Oper) (_ : List Oper) (ih : KD)
    (ms : List Nat) (i : Nat) (ls : List Lg) (on : Bool) (r w : Nat) (call : Cl) (t : Env) (ds : DS) (g : G) : R :=
  @G.rec (fun _ => R) (fun h nx _ _ _ =>
    elRR (xOp1 ops o call t ⟨h, nx, true, (nat_lit 0), (nat_lit 0)⟩) (fun v g' => @G.rec (fun _ => R) (fun h' nx' _ r' w' =>
      fcR (Nat.lor w' (Nat.sub (Nat.shiftLeft (nat_lit 1) nx') (Nat.shiftLeft (nat_lit 1) nx))) fun w' =>
        @Bool.rec (fun _ => R) (.bad (nat_lit 140)) (putE o.dst v t fun t => ih ms.tail (Nat.succ i) (addLg i r' w' ls) on r w call t ds ⟨h', nx', true, r', w'⟩) (freeOf (hdN ms) r' w' ls)) g')
      (fun _ _ _ => .bad (nat_lit 141))) g
noncomputable def drawR (ops : List Oper) : List Oper → KD := @List.rec Oper (fun _ => KD) drawNil (drawCons ops)
noncomputable def drawG (ops : List Oper) (call : Cl) (t : Env) (ds : DS) (g : G) : R :=
  @G.rec (fun _ => R) (fun h nx on r w => drawR ops ops (befs ops) (nat_lit 0) [] on r w call t ds ⟨h, nx, true, (nat_lit 0), (nat_lit 0)⟩) g

abbrev K := Cl → Nat → PT V → DS → G → R
noncomputable def cRegion (_ : Nat) (ops : Array Oper) (draw : Bool) : K := fun call gm t ds g =>
  @Bool.rec (fun _ => R) (regR ops.toList ops.toList call ⟨gm, .e, t⟩ ds g) (drawG ops.toList call ⟨gm, .e, t⟩ ds g) draw
noncomputable def cSkip : K := fun _ _ t ds g => .ok .nrm t ds g
noncomputable def cSeq (_ _ : Code) (a b : K) : K := fun call gm t ds g => elR (a call gm t ds g) (b call gm)
noncomputable def cCond (x : Operand) (_ _ : Code) (a b : K) : K := fun call gm t ds g => elBR (ev x ⟨gm, .e, t⟩) (@Bool.rec (fun _ => R) (b call gm t ds g) (a call gm t ds g)) (.bad (nat_lit 141))
noncomputable def outB (id : Nat) : R → R := @R.rec (fun _ => R) (fun e t ds g => @Ex.rec (fun _ => R) (.ok .nrm t ds g) (fun i => @Bool.rec (fun _ => R) (.ok (.ext i) t ds g) (.ok .nrm t ds g) (Nat.beq i id)) (.ok .ret t ds g) e) .bad
noncomputable def cBlock (id : Nat) (_ : Code) (a : K) : K := fun call gm t ds g => outB id (a call gm t ds g)
/-- a loop's rounds, up to 2 ^ n of them -/
noncomputable def cLoopN (a : K) : Nat → K := @Nat.rec (fun _ => K) a (fun _ ih call gm t ds g => elR (ih call gm t ds g) (ih call gm))
noncomputable def badR (_ : PT V) (_ : DS) (_ : G) : R := .bad (nat_lit 142)
noncomputable def cLoop (_ : Code) (a : K) : K := fun call gm t ds g => elR (cLoopN a (nat_lit 24) call gm t ds g) badR
noncomputable def cExit (id : Nat) : K := fun _ _ t ds g => .ok (.ext id) t ds g
noncomputable def cRet : K := fun _ _ t ds g => .ok .ret t ds g
noncomputable def badK (n : Nat) : K := fun _ _ _ _ _ => .bad n
noncomputable def code : Code → K :=
  @Code.rec (fun _ => K) cSkip cRegion cSeq cCond cBlock cLoop (fun _ _ _ _ _ _ => badK 143) cExit (fun _ a => a) (fun _ => cSkip) (fun _ => badK 144) cRet (fun _ => badK 145)

noncomputable def resV (t : Env) : List ResultVar → G → (List V → G → RO) → RO
  | [], g, k => k [] g
  | .tmp x :: r, g, k => resV t r g fun vs g => k (evT x t :: vs) g
  | .cell x ty :: r, g, k => elP (evT x t) (fun b o => cnd (kn ty) (cnd (agg ty) (loadC b o (siz ty) g fun cs g => resV t r g fun vs g => k (.g cs :: vs) g)
      (loadW b o g fun v g => resV t r g fun vs g => k (v :: vs) g)) (.bad 149)) (.bad 150)
noncomputable def oneV (vs : List V) (g : G) : RO := match vs with
  | [v] => .ok v g
  | _ => .ok (.t vs) g
noncomputable def runDs (call : Cl) : DS → G → (G → RO) → RO :=
  @List.rec (V × List V) (fun _ => G → (G → RO) → RO) (fun g k => k g) (fun d _ ih g k => elF d.1 (fun fn fs cs => elRO (@Option.rec _ (fun _ => RO) (call fn (appL fs (appL d.2 cs)) g) (fun _ => .bad (nat_lit 156)) (primsOf fn)) (fun _ g => ih g k)) (.bad (nat_lit 151)))
noncomputable def outF (rs : List ResultVar) (call : Cl) (t : Env) (ds : DS) (g : G) : RO := runDs call ds g fun g => resV t rs g oneV
noncomputable def endR (rs : List ResultVar) (call : Cl) (gm : Nat) : R → RO :=
  @R.rec (fun _ => RO) (fun e t ds g => @Ex.rec (fun _ => RO) (outF rs call ⟨gm, .e, t⟩ ds g) (fun _ => .bad (nat_lit 153)) (outF rs call ⟨gm, .e, t⟩ ds g) e) .bad
noncomputable def bodyE (call : Cl) (gm : Nat) (fn : Func) (aa : List V) (g : G) : RO :=
  @Option.rec Code (fun _ => RO) (.bad (nat_lit 152)) (fun cd => endR fn.results.toList call gm (code cd call gm (ptOf aa (nat_lit 0) .e) [] g)) fn.body
noncomputable def fnAt (f : Nat) : Option Func := PP.funcs.toList[f]?
noncomputable def bodyAt (call : Cl) (f : Nat) (aa : List V) (g : G) : RO := @Option.rec Func (fun _ => RO) (.bad (nat_lit 155)) (fun fn => bodyE call (gmOf f) fn aa g) (fnAt f)
/-- a primitive that does not know an answer leaves it to the body -/
noncomputable def orE : RO → RO → RO := @RO.rec (fun _ => RO → RO) (fun v g _ => .ok v g) (fun _ z => z) (fun _ _ _ _ => .bad (nat_lit 158))
noncomputable def callE : Nat → Nat → List V → G → RO :=
  @Nat.rec (fun _ => Nat → List V → G → RO) (fun _ _ _ => .bad (nat_lit 154)) (fun _ ih f aa g =>
    @Option.rec _ (fun _ => RO) (bodyAt ih f aa g) (fun pr => orE (pr ih aa g) (bodyAt ih f aa g)) (primsOf f))
noncomputable def isOk : RO → Nat
  | .ok _ _ => 0
  | .bad w => w + 1000
  | .df _ _ _ => 5
noncomputable def isTrue : RO → Nat
  | .ok (.b true) _ => 0
  | .ok (.b false) _ => 1
  | .ok _ _ => 2
  | .bad w => w + 1000
  | .df _ _ _ => 5
end Go.Ev
