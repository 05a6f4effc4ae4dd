/-
  Parts of the proof of VaultDown: VaultM, VaultL, VaultN, PathB, IterS, OmapA.
-/
import Derived.Test.YtbhjgfibhegddaaGreatQVaultDown13
import Derived.ChangeOld
import Derived.Deep.RegionHeld3
import Derived.Ground.GgzProg
import Derived.Ground.SlgmProg
import Derived.Ground.SlmcProg
import Derived.OpenShut
import Derived.Outline
import Derived.ProofKit
import Derived.Shelf.SlIter.Nil
import Derived.Shelf.SlIterI.Nil
import Derived.Shelf.SlMaps.Clone
import Derived.Shelf.SortM.Plain
import Derived.Shelf.SortM.SortNone
import Derived.ShutString
import Derived.SliceStrings
import Derived.StringKeys
import Derived.Test.YtbhjgfibhegddaaGreatProg
import Derived.WalkSpells
set_option maxRecDepth 100000
set_option maxHeartbeats 16000000
namespace Go.Proofs.YtbhjgfibhegddaaGreat
section
open Go Go.RowKit
structure MtM where
 name:List UInt8
 ship:Bool
deriving DecidableEq
structure MetaM where
 role:Int
 seen:Int
 grant:Int
 mounts:List MtM
 secret:List UInt8
structure StM where
 m:MetaM
 at_:Int
 epoch:Int
 slot:Nat
 log:Nat
 key:Nat
 boot:Nat
structure BatM where
 index:Int
 epoch:Int
 ops:List OpM
def mtsR:List MtM→List MtM→Bool
 | _,[]=>true
 | a,m::r=>okName m.name && !(a.any fun o=>decide (o.name=m.name)) && mtsR (a++[m]) r
def okMounts (l:List MtM):Bool:=mtsR [] l && decide (1≤l.length∧l.length≤4)
def rightM (m:MetaM):Bool:=(decide (m.mounts=[]) || okMounts m.mounts) && decide (0≤m.role∧m.role≤3∧0≤m.seen∧0≤m.grant∧m.secret.length≤64)
def mtB (m:MtM):List UInt8:=textN m.name++[if m.ship then 1 else 0]
def stB (s:StM) (sealed:List UInt8):List UInt8 :=
 putN 1++(putN s.m.role.toNat++(putN s.m.seen.toNat++(putN s.m.grant.toNat++(putN s.at_.toNat++(putN s.epoch.toNat++(putN s.slot++(putN s.key++(putN s.log++(putN s.boot++(putN s.m.mounts.length++(s.m.mounts.flatMap mtB++textN sealed)))))))))))
def batT (b:BatM):List UInt8:=batB b.index.toNat b.epoch.toNat b.ops
def doL (S:List PairM) (l:List OpM):List PairM:=l.foldl (fun S o=>if o.kind=2 then delP o.path S else insP o.path o.value S) S
def doE (S:List PairM) (l:List OpM):Int:=if batErr 1 1 l≠0 then batErr 1 1 l else if 48<(doL S l).length then 6 else 0
def ofL:List PairM→List PairM→List PairM × Int
 | S,[]=>(S,0)
 | S,p::r=>if okPath p.1=false∨32<p.2.length then ([],1) else if (getP p.1 S).isSome then ([],5) else ofL (insP p.1 p.2 S) r
def ofP (l:List PairM):List PairM × Int:=if 48<l.length then ([],6) else ofL [] l
def slotN (t:List UInt8):Nat:=(t.length+55) / 56
def placeN (slot:Nat):Nat:=340+(slot - 1)*80
def pieceN (t:List UInt8) (i:Nat):List UInt8:=(t.drop (56*i)).take 56
def slotBody (t:List UInt8) (i:Nat):List UInt8:=UInt8.ofNat i::UInt8.ofNat (slotN t)::UInt8.ofNat (pieceN t i).length::0::(pieceN t i++List.replicate (56 - (pieceN t i).length) 0)
def slotSecs (t:List UInt8):List ByteArray:=(List.range (slotN t)).map fun i=>str (closeL (slotBody t i))
def writeSlotD (d:Dk) (slot:Nat) (t:List UInt8):Dk × Int :=
 if 80<slotN t then (d,6) else
 if (writeB d (placeN slot) (slotSecs t) (slotN t)).2≠0 then writeB d (placeN slot) (slotSecs t) (slotN t) else (writeB d (placeN slot) (slotSecs t) (slotN t)).1.sync
structure VtM where
 S:List PairM
 at_:Int
 epoch:Int
 rows:List BatM
 prev:Int
 st:StM
 down:Bool
 kp:Kp
 lg:Lg
 cur:Nat
 n:Nat
def masterL:List UInt8:=[109,97,115,116,101,114]
def sMap:List UInt8:=[109,97,112]
def sLog:List UInt8:=[108,111,103]
def sSecret:List UInt8:=[115,101,99,114,101,116]
def VtM.wrap (v:VtM) (about text:List UInt8):List UInt8:=sealB (ringK masterL v.cur) v.cur v.st.boot v.n about text
def VtM.next (v:VtM):VtM := { v with n:=v.n+1 }
def VtM.told (v:VtM) (e:Int):VtM := { v with down:=v.down || decide (e=14) }
def putV (d:Dk) (v:VtM) (s:StM):Dk × VtM × Int :=
 if (putK d v.kp (stB s (v.wrap sSecret s.m.secret))).2.2≠0 then
  ((putK d v.kp (stB s (v.wrap sSecret s.m.secret))).1,({ v.next with kp:=(putK d v.kp (stB s (v.wrap sSecret s.m.secret))).2.1 } : VtM).told (putK d v.kp (stB s (v.wrap sSecret s.m.secret))).2.2,(putK d v.kp (stB s (v.wrap sSecret s.m.secret))).2.2)
 else ((putK d v.kp (stB s (v.wrap sSecret s.m.secret))).1,{ v.next with kp:=(putK d v.kp (stB s (v.wrap sSecret s.m.secret))).2.1,st:=s },0)
def StM.whole (s:StM) (m:MetaM) (at_ epoch:Int):StM := { s with m:=m,at_:=at_,epoch:=epoch,slot:=1+s.slot % 2,log:=s.log+1 }
def wholeV (d:Dk) (v:VtM) (m:MetaM) (x:List PairM) (at_ epoch:Int):Dk × VtM × Int :=
 let t:=v.wrap sMap (pairsB x)
 let s:=v.st.whole m at_ epoch
 let r1:=writeSlotD d s.slot t
 if r1.2≠0 then (r1.1,v.next.told r1.2,r1.2) else
 let r2:=putV r1.1 v.next s
 if r2.2.2≠0 then r2 else
 match openG r2.1 20 320 s.log with
 | none=>(r2.1,r2.2.1.told 9,9)
 | some g=>(r2.1,{ r2.2.1 with lg:=g,S:=x,at_:=at_,epoch:=epoch,rows:=[],prev:=epoch },0)
def VtM.does (v:VtM) (b:BatM):VtM := { v with S:=doL v.S b.ops,rows:=v.rows++[b],at_:=b.index,epoch:=b.epoch }
def addV (d:Dk) (v:VtM) (b:BatM):Dk × VtM × Int :=
 let t:=v.wrap sLog (batT b)
 let r:=addG d v.lg (str t)
 if r.2.2≠0 then (r.1,({ v.next with lg:=r.2.1 } : VtM).told r.2.2,r.2.2) else (r.1,({ v.next with lg:=r.2.1 } : VtM).does b,0)
def offV (d:Dk) (v:VtM):Bool:=v.down || d.off
def commitV (d:Dk) (v:VtM) (b:BatM):Dk × VtM × Int :=
 if offV d v then (d,{ v with down:=true },14) else
 if batErr b.index b.epoch b.ops≠0 then (d,v,batErr b.index b.epoch b.ops) else
 if b.index≠v.at_+1∨b.epoch<v.epoch then (d,v,1) else
 if doE v.S b.ops≠0 then (d,v,doE v.S b.ops) else
 if 24≤v.rows.length then
  let r:=wholeV d v v.st.m v.S v.at_ v.epoch
  if r.2.2≠0 then r else
  -- the map is the one that was made ahead
  let r2:=addV r.1 r.2.1 b
  (r2.1,if r2.2.2=0 then { r2.2.1 with S:=doL v.S b.ops } else r2.2.1,r2.2.2)
 else addV d v b
def setV (d:Dk) (v:VtM) (m:MetaM):Dk × VtM × Int :=
 if offV d v then (d,{ v with down:=true },14) else if rightM m=false then (d,v,1) else putV d v { v.st with m:=m }
def placeOk (at_ epoch:Int):Bool:=decide (at_=0∧epoch=0) || decide (1≤at_∧at_≤4611686018427387904∧1≤epoch)
def installV (d:Dk) (v:VtM) (m:MetaM) (l:List PairM) (at_ epoch:Int):Dk × VtM × Int :=
 if offV d v then (d,{ v with down:=true },14) else if rightM m=false∨placeOk at_ epoch=false then (d,v,1) else
 if (ofP l).2≠0 then (d,v,(ofP l).2) else wholeV d v m (ofP l).1 at_ epoch
def rotateV (d:Dk) (v:VtM):Dk × VtM × Int :=
 if offV d v then (d,{ v with down:=true },14) else if 1048576≤v.st.key then (d,v,6) else
 let r:=putV d v { v.st with key:=v.st.key+1 }
 if r.2.2≠0 then r else (r.1,{ r.2.1 with cur:=r.2.1.cur+1 },0)
end
section
open Go Go.RowKit
def Sealed (top:Nat) (about text t:List UInt8):Prop :=
 ∃key boot n,key≤top∧key≤1048576∧boot<4294967296∧n<18446744073709551616∧t=sealB (ringK masterL key) key boot n about text
theorem Sealed.mono {a b:Nat} {about text t:List UInt8} (h:Sealed a about text t) (hab:a≤b):Sealed b about text t:=by
 obtain ⟨key,boot,n,h1,h2⟩:=h;exact ⟨key,boot,n,by omega,h2⟩
theorem Sealed.len {a:Nat} {about text t:List UInt8} (h:Sealed a about text t) (ht:text.length≤8192):t.length≤text.length+52∧1≤t.length:=by
 obtain ⟨key,boot,n,h1,h2,h3,h4,rfl⟩:=h;refine ⟨sealB_len h2 h3 h4 ht,?_⟩;unfold sealB;rw [List.length_append,List.length_append];unfold stampL;rw [tagL_len];omega
def replL:List BatM→List PairM × Int × Int→Option (List PairM × Int × Int)
 | [],x=>some x
 | b::r,x=>if batErr b.index b.epoch b.ops=0∧b.index=x.2.1+1∧x.2.2≤b.epoch∧(doL x.1 b.ops).length≤48 then replL r (doL x.1 b.ops,b.index,b.epoch) else none
theorem replL_snoc (l:List BatM) (b:BatM) (x:List PairM × Int × Int):replL (l++[b]) x=(replL l x).bind (replL [b]):=by
 induction l generalizing x with
 | nil=>rfl
 | cons a r ih =>
   rw [List.cons_append];unfold replL;split
   ·exact ih _
   ·rfl
theorem replL_one {b:BatM} {x:List PairM × Int × Int} (h1:batErr b.index b.epoch b.ops=0) (h2:b.index=x.2.1+1) (h3:x.2.2≤b.epoch) (h4:(doL x.1 b.ops).length≤48):replL [b] x=some (doL x.1 b.ops,b.index,b.epoch):=by
 unfold replL;rw [if_pos ⟨h1,h2,h3,h4⟩];rfl
structure PairsOk (S:List PairM):Prop where
 rises:Rises S
 len:S.length≤48
 each:∀p ∈ S,okPath p.1=true∧p.2.length≤32
theorem PairsOk.nil:PairsOk []:=⟨List.Pairwise.nil,by simp,by simp⟩
theorem doL_step {l:List OpM} (hl:∀o ∈ l,opErr o=0) {S:List PairM} (h1:Rises S) (h2:∀p ∈ S,okPath p.1=true∧p.2.length≤32):Rises (doL S l)∧∀p ∈ doL S l,okPath p.1=true∧p.2.length≤32:=by
 induction l generalizing S with
 | nil=>exact ⟨h1,h2⟩
 | cons o r ih =>
   obtain ⟨-,e1,-,e2,-⟩:=opErr_zero (hl o (by simp));have e:doL S (o::r)=doL (if o.kind=2 then delP o.path S else insP o.path o.value S) r:=rfl;rw [e];refine ih (fun q hq=>hl q (by simp [hq])) ?_ ?_
   ·split
    ·exact delP_rises h1
    ·exact insP_rises h1
   ·intro p hp
    split at hp
    ·exact h2 p (List.mem_filter.1 hp).1
    ·rcases (insP_mem h1 p).1 hp with rfl | ⟨a,-⟩
     ·exact ⟨e1,e2⟩
     ·exact h2 p a
theorem doL_ok {S:List PairM} {i e:Int} {l:List OpM} (h:PairsOk S) (hl:batErr i e l=0) (h48:(doL S l).length≤48):PairsOk (doL S l):=by
 obtain ⟨a,b⟩:=doL_step (batErr_zero hl).2.2.2.2 h.rises h.each;exact ⟨a,h48,b⟩
theorem replL_ok {l:List BatM} {x y:List PairM × Int × Int} (hx:PairsOk x.1) (h:replL l x=some y):PairsOk y.1:=by
 induction l generalizing x with
 | nil=>exact Option.some.inj h ▸ hx
 | cons b r ih =>
   unfold replL at h;split at h
   ·rename_i hc
    exact ih (doL_ok hx hc.1 hc.2.2.2) h
   ·simp at h
theorem replL_each {l:List BatM} {x y:List PairM × Int × Int} (h:replL l x=some y):∀b ∈ l,batErr b.index b.epoch b.ops=0:=by
 induction l generalizing x with
 | nil=>simp
 | cons b r ih =>
   unfold replL at h;split at h
   ·rename_i hc
    intro q hq;rcases List.mem_cons.1 hq with rfl | hq
    ·exact hc.1
    ·exact ih h q hq
   ·simp at h
structure PlaceIs (a e:Int):Prop where
 at0:0≤a
 at1:a≤4611686018427387904
 ep0:0≤e
 ep1:e≤9223372036854775807
theorem replL_place {l:List BatM} {x y:List PairM × Int × Int} (hx:PlaceIs x.2.1 x.2.2) (hl:∀b ∈ l,b.epoch≤9223372036854775807) (h:replL l x=some y):PlaceIs y.2.1 y.2.2:=by
 induction l generalizing x with
 | nil=>exact Option.some.inj h ▸ hx
 | cons b r ih =>
   unfold replL at h;split at h
   ·rename_i hc
    obtain ⟨b1,b2,b3,-⟩:=batErr_zero hc.1;exact ih ⟨by show (0:Int)≤b.index;omega,b2,by show (0:Int)≤b.epoch;omega,hl b (by simp)⟩ (fun q hq=>hl q (by simp [hq])) h
   ·simp at h
theorem insP_end {k v:List UInt8} {A:List PairM} (h:∀p ∈ A,p.1<k):insP k v A=A++[(k,v)]:=by
 induction A with
 | nil=>rfl
 | cons q r ih =>
   unfold insP;rw [if_pos (h q (by simp)),ih fun p hp=>h p (by simp [hp])];rfl
theorem ofL_same (B:List PairM):∀A:List PairM,Rises (A++B)→(∀p ∈ B,okPath p.1=true∧p.2.length≤32)→ofL A B=(A++B,0):=by
 induction B with
 | nil=>intro A _ _;simp [ofL]
 | cons p r ih =>
   intro A hr hb;have h1:∀q ∈ A,q.1<p.1:=fun q hq=>(List.pairwise_append.1 hr).2.2 q hq p (by simp)
   obtain ⟨p1,p2⟩:=hb p (by simp);unfold ofL;rw [if_neg (by rw [p1];simp;omega),getP_none fun q hq=>lt_ne (h1 q hq),if_neg (by simp),insP_end h1];have:=ih (A++[(p.1,p.2)]) (by rw [List.append_assoc];exact hr) fun q hq=>hb q (by simp [hq])
   rw [this,List.append_assoc];rfl
theorem ofP_same {S:List PairM} (h:PairsOk S):ofP S=(S,0):=by
 unfold ofP;rw [if_neg (by have:=h.len;omega)];exact ofL_same S [] h.rises h.each
theorem ofL_ok (B:List PairM):∀A:List PairM,Rises A→(∀p ∈ A,okPath p.1=true∧p.2.length≤32)→(ofL A B).2=0→Rises (ofL A B).1∧(∀p ∈ (ofL A B).1,okPath p.1=true∧p.2.length≤32)∧(ofL A B).1.length≤A.length+B.length:=by
 induction B with
 | nil=>intro A h1 h2 _;exact ⟨h1,h2,by simp [ofL]⟩
 | cons p r ih =>
   intro A h1 h2 h;unfold ofL at h ⊢;split at h
   ·simp at h
   ·rename_i hp
    rw [if_neg hp];split at h
    ·simp at h
    ·rename_i hq
     rw [if_neg hq];obtain ⟨a,b,c⟩:=ih (insP p.1 p.2 A) (insP_rises h1) (fun x hx=>by
      rcases (insP_mem h1 x).1 hx with rfl | ⟨y,-⟩
      ·exact ⟨by simpa using fun e=>hp (.inl e),by simp only;omega⟩
      ·exact h2 x y) h
     refine ⟨a,b,?_⟩;have:=insP_len p.1 p.2 A;rw [List.length_cons];omega
theorem ofP_ok {l:List PairM} (h:(ofP l).2=0):PairsOk (ofP l).1:=by
 unfold ofP at h ⊢;split at h
 ·simp at h
 ·rename_i hl
  rw [if_neg hl];obtain ⟨a,b,c⟩:=ofL_ok l [] List.Pairwise.nil (by simp) h;exact ⟨a,by simp at c;omega,b⟩
theorem pairsB_len {S:List PairM} (h:PairsOk S):(pairsB S).length≤3400:=by
 have h1:=pairs_len (l:=S) (a:=33) (b:=32) (by omega) (by omega) fun p hp=>⟨okPath_len (h.each p hp).1,(h.each p hp).2⟩
 have h2:=sizeN_small (n:=S.length) (by have:=h.len;omega);have h3:=h.len;unfold pairsB;rw [List.length_append,putN_len];have:(33+32+4)*S.length≤69*48:=Nat.mul_le_mul_left _ h3;omega
theorem batT_len {b:BatM} (h:batErr b.index b.epoch b.ops=0) (he:b.epoch≤9223372036854775807):(batT b).length≤310:=by
 obtain ⟨h1,h2,h3,h4,h5⟩:=batErr_zero h;exact batB_len (by omega) (by omega) h4 h5
section
variable {d D:Dk} {k:Kp} {g:Lg} {L0 L1:List (Option Pt)} {rs:List (List UInt8 × Nat)} {R:List (Option Lp)}
structure Good (d:Dk):Prop where
 fuse:d.fuse=-1
 off:d.off=false
 waits:d.waits.length=d.lasts.length
 len:d.lasts.length=500
 pend:d.pend=0
theorem KeptG.far (h:KeptG d k L0 L1) (hf:D.fuse=-1) (ho:D.off=false) (hw:D.waits.length=D.lasts.length) (hl:D.lasts.length=d.lasts.length) (hn:∀i,k.from_≤i→i<k.from_+20→D.now i=d.now i):KeptG D k L0 L1:=by
 have h2:=h.room;exact ⟨hf,ho,hw,by rw [hl];exact h2,slot_same h.s0 fun i hi=>hn _ (by omega) (by omega),slot_same h.s1 fun i hi=>hn _ (by omega) (by omega),h.is⟩
theorem LogIs.far (h:LogIs d g rs R) (hf:D.fuse=-1) (ho:D.off=false) (hw:D.waits.length=D.lasts.length) (hl:D.lasts.length=d.lasts.length) (hn:∀i,g.from_≤i→i<g.from_+g.sectors→D.now i=d.now i):LogIs D g rs R:=by
 have h1:=h.len;exact { h with fuse:=hf,off:=ho,waits:=hw,room:=by rw [hl];exact h.room,cells:=⟨fun i hi=>by rw [hn _ (by omega) (by rw [List.length_append,List.length_map] at hi;omega)];exact h.cells.cell i hi,h.cells.ok⟩ }
theorem KeptG.put_ (h:KeptG d k L0 L1) (t:List UInt8) (ht:t.length≤400) (hs:k.seen+1<18446744073709551616) :
 ∃D L0' L1',putK d k t=(D,k.put t,0)∧KeptG D (k.put t) L0' L1'∧D.lasts.length=d.lasts.length∧D.pend=0∧∀i,i<d.lasts.length→(i<k.from_∨k.from_+20≤i)→D.now i=d.now i:=by
 have e64:(2:Nat) ^ (8*8)=18446744073709551616:=by decide
 have hat:=h.at_;have hroom:=h.room;have hall:allOf t.length≤9:=by unfold allOf;omega
 have hok:=cutL_ok t (k.seen+1) (by omega) (by omega) ht;have hcl:=cutL_len t (k.seen+1);have hml:((cutL t (k.seen+1)).map Pt.sec).length=allOf t.length:=by rw [List.length_map,hcl]
 have hsz:∀q ∈ (cutL t (k.seen+1)).map Pt.sec,q.size=64:=by
  intro q hq;obtain ⟨p,hp,rfl⟩:=List.mem_map.1 hq;exact sec_size p (hok p hp)
 obtain ⟨A,hA⟩:=eqx (k.from_+(1 - k.at_)*10);have hAl:A+allOf t.length≤d.lasts.length:=by omega
 obtain ⟨f1,f2,f3,f4⟩:=writeB_free h.fuse h.off h.waits A _ hsz (allOf t.length) (by omega) hAl;have hfs:=writeB_same d A ((cutL t (k.seen+1)).map Pt.sec) h.waits (allOf t.length);have hput:putK d k t=((writeB d A ((cutL t (k.seen+1)).map Pt.sec) (allOf t.length)).1.flush,k.put t,0):=by
  unfold putK;rw [h.broken,if_neg (by simp),if_neg (by omega),if_neg (by omega),hA,writeN_B _ _ _ _ (by omega),if_neg (by rw [f1];simp),Dk.sync_free f2 f3,if_neg (by simp)]
  rfl
 generalize hV:(writeB d A ((cutL t (k.seen+1)).map Pt.sec) (allOf t.length)).1=V at *;have hVl:V.flush.lasts.length=d.lasts.length:=by
  show ((List.range _).map _).length=_;rw [List.length_map,List.length_range,hfs.1]
 have hVw:V.flush.waits.length=d.lasts.length:=by
  show (List.map _ _).length=_;rw [List.length_map,hfs.2.1];exact h.waits
 have hnow:∀i,i<d.lasts.length→V.flush.now i=if A≤i∧i<A+allOf t.length then ((cutL t (k.seen+1)).map Pt.sec).getD (i - A) ByteArray.empty else d.now i:=by
  intro i hi;rw [Dk.flush_now _ _ (by rw [hfs.1];exact hi),f4]
 obtain ⟨k',L0',L1',m1,m2,m3,m4,m5⟩:=h.mix (d2:=V.flush) t ht hs f2 f3 (by rw [hVw,hVl]) hVl (fun i hi=>by
  rw [hA,hnow i hi];by_cases c:A≤i∧i<A+allOf t.length
  ·rw [if_pos c];exact .inr ⟨c.1,c.2,rfl⟩
  ·rw [if_neg c];exact .inl rfl)
 have hk':=m5 (fun i hi=>by rw [hA,hnow _ (by omega),if_pos (by omega),Nat.add_sub_cancel_left]);subst hk';exact ⟨V.flush,L0',L1',hput,m1,hVl,Dk.flush_pend _,fun i hi ho=>by rw [hnow i hi,if_neg (by omega)]⟩
end
theorem slotN_le {t:List UInt8} (h:t.length≤4400):slotN t≤80:=by unfold slotN;omega
theorem pieceN_len (t:List UInt8) (i:Nat):(pieceN t i).length≤56:=by unfold pieceN;rw [List.length_take];omega
theorem slotBody_len (t:List UInt8) (i:Nat):(slotBody t i).length=60:=by
 have:=pieceN_len t i;unfold slotBody;simp only [List.length_cons,List.length_append,List.length_replicate];omega
theorem slotSecs_len (t:List UInt8):(slotSecs t).length=slotN t:=by unfold slotSecs;rw [List.length_map,List.length_range]
theorem slotSecs_get (t:List UInt8) (i:Nat) (h:i<slotN t):(slotSecs t).getD i ByteArray.empty=str (closeL (slotBody t i)):=by
 unfold slotSecs;rw [List.getD_eq_getElem?_getD,List.getElem?_map,List.getElem?_range h];rfl
theorem look_slot (t : List UInt8) (i : Nat) (h1 : 1 ≤ slotN t) (h2:slotN t≤80):lookL (str (closeL (slotBody t i))).data.toList=(slotBody t i,1):=by
 rw [str_list]
 refine lookL_closeL _ (slotBody_len t i) (fun e => ?_) (by have:=sumN_lt (slotBody t i);have e2:(2:Nat) ^ (8*4)=4294967296:=by decide
                                                            omega)
 have h:=congrArg (fun l:List UInt8=>l.getD 1 0) e;have h3:UInt8.ofNat (slotN t)=0:=h;have h4:=congrArg UInt8.toNat h3;simp at h4
 omega
theorem slotSecs_size (t:List UInt8):∀q ∈ slotSecs t,q.size=64:=by
 intro q hq;obtain ⟨i,-,rfl⟩:=List.mem_map.1 hq;rw [str_size,closeL,List.length_append,slotBody_len,leB_len]
def slotHas (d:Dk) (slot:Nat) (t:List UInt8):Prop:=∀i,i<slotN t→d.now (placeN slot+i)=str (closeL (slotBody t i))
theorem writeSlotD_ok {d:Dk} (h:Good d) (slot:Nat) (t:List UInt8) (hs:1≤slot∧slot≤2) (ht:slotN t≤80) :
 ∃D,writeSlotD d slot t=(D,0)∧Good D∧slotHas D slot t∧∀i,i<500→(i<placeN slot∨placeN slot+slotN t≤i)→D.now i=d.now i:=by
 have hl:=h.len;have hp:placeN slot+80≤500:=by unfold placeN;omega
 have hsl:=slotSecs_len t;obtain ⟨f1,f2,f3,f4⟩:=writeB_free h.fuse h.off h.waits (placeN slot) (slotSecs t) (slotSecs_size t) (slotN t) (by omega) (by omega);have hfs:=writeB_same d (placeN slot) (slotSecs t) h.waits (slotN t);have hw:writeSlotD d slot t=((writeB d (placeN slot) (slotSecs t) (slotN t)).1.flush,0):=by
  unfold writeSlotD;rw [if_neg (by omega),if_neg (by rw [f1];simp),Dk.sync_free f2 f3]
 generalize (writeB d (placeN slot) (slotSecs t) (slotN t)).1=V at *;have hVl:V.flush.lasts.length=d.lasts.length:=by
  show ((List.range _).map _).length=_;rw [List.length_map,List.length_range,hfs.1]
 have hVw:V.flush.waits.length=d.lasts.length:=by
  show (List.map _ _).length=_;rw [List.length_map,hfs.2.1];exact h.waits
 have hnow:∀i,i<d.lasts.length→V.flush.now i=if placeN slot≤i∧i<placeN slot+slotN t then (slotSecs t).getD (i - placeN slot) ByteArray.empty else d.now i:=by
  intro i hi;rw [Dk.flush_now _ _ (by rw [hfs.1];exact hi),f4]
 refine ⟨_,hw,⟨f2,f3,by rw [hVw,hVl],by rw [hVl,hl],Dk.flush_pend _⟩,fun i hi=>?_,fun i hi ho=>?_⟩
 ·rw [hnow _ (by omega),if_pos (by omega),Nat.add_sub_cancel_left,slotSecs_get t i hi]
 ·rw [hnow i (by omega),if_neg (by omega)]
def metaM0:MetaM:=⟨0,0,0,[],[]⟩
def stM0:StM:=⟨metaM0,0,0,0,1,0,0⟩
structure VDk (d:Dk) (k:Kp) (g:Lg) (s:StM) (S0:List PairM) (rows:List BatM) (c:Nat):Prop where
 good:Good d
 kept:∃L0 L1,KeptG d k L0 L1
 kfrom:k.from_=0
 kseen:k.seen≤c
 text:(k.gen=0∧s=stM0)∨(0<k.gen∧∃t,Sealed s.key sSecret s.m.secret t∧k.text=stB s t)
 right:rightM s.m=true
 place:PlaceIs s.at_ s.epoch
 slots:s.slot≤2
 log:∃rs R,LogIs d g rs R∧∀p,some p ∈ (rowOf g.epoch 0 rs).map some++R→p.epoch≤s.log
 gplace:g.from_=20∧g.sectors=320∧g.epoch=s.log
 gsalt:g.salt≤c
 gused:g.used≤12*rows.length
 glen:g.l.length=rows.length
 recs:∀i (h:i<g.l.length) (h2:i<rows.length),Sealed s.key sLog (batT rows[i]) (g.l[i]).data.toList
 many:rows.length≤24
 slot:(s.slot=0∧S0=[]∧s.at_=0∧s.epoch=0)∨(1≤s.slot∧∃t,Sealed s.key sMap (pairsB S0) t∧slotHas d s.slot t)
 pairs:PairsOk S0
 sound:∀i,i<160→(lookL (d.now (340+i)).data.toList).2≠2
 logs:s.log≤c+1
 keys:s.key≤c
 boots:s.boot≤c
theorem stB_len {s:StM} {t:List UInt8} (h:rightM s.m=true) (hp:PlaceIs s.at_ s.epoch) (h4:s.slot≤2) (hl:s.log≤1000000) (hk:s.key≤1000000) (hb:s.boot≤1000000) (hi:s.m.seen≤9223372036854775807∧s.m.grant≤9223372036854775807) (ht:t.length≤120):(stB s t).length≤400:=by
 unfold rightM at h;simp only [Bool.and_eq_true,Bool.or_eq_true,decide_eq_true_eq] at h;obtain ⟨hm,h5,h6,h7,h8,h9⟩:=h;obtain ⟨p1,p2,p3,p4⟩:=hp;have hml:s.m.mounts.length≤4∧∀m ∈ s.m.mounts,m.name.length≤8:=by
  rcases hm with e | e
  ·rw [e];simp
  ·unfold okMounts at e
   simp only [Bool.and_eq_true,decide_eq_true_eq] at e;refine ⟨e.2.2,?_⟩;have:∀(l a:List MtM),mtsR a l=true→∀m ∈ l,m.name.length≤8:=by
    intro l;induction l with
    | nil=>simp
    | cons x r ih =>
      intro a ha m hm;unfold mtsR at ha;simp only [Bool.and_eq_true] at ha;rcases List.mem_cons.1 hm with rfl | hm
      ·have:=ha.1.1
       unfold okName at this;simp only [Bool.and_eq_true,decide_eq_true_eq] at this;exact this.1.2
      ·exact ih _ ha.2 m hm
   exact this _ _ e.1
 have hmb:(s.m.mounts.flatMap mtB).length≤11*s.m.mounts.length:=by
  generalize s.m.mounts=l at hml;have h8:=hml.2;clear hml;induction l with
  | nil=>simp
  | cons x r ih =>
    have:=ih fun m hm=>h8 m (by simp [hm])
    have hx:=h8 x (by simp);have hs:=sizeN_small (n:=x.name.length) (by omega);have hx2:(mtB x).length≤11:=by
     unfold mtB;rw [List.length_append,textN_len];simp only [List.length_cons,List.length_nil];omega
    rw [List.flatMap_cons,List.length_append,List.length_cons];omega
 have q1:=size_u64 (n:=1) (by omega);have q2:=size_u64 (n:=s.m.role.toNat) (by omega);have q3:=size_u64 (n:=s.m.seen.toNat) (by omega);have q4:=size_u64 (n:=s.m.grant.toNat) (by omega);have q5:=size_u64 (n:=s.at_.toNat) (by omega);have q6:=size_u64 (n:=s.epoch.toNat) (by omega);have q7:=size_u64 (n:=s.slot) (by omega);have q8:=size_u64 (n:=s.key) (by omega);have q9:=size_u64 (n:=s.log) (by omega);have q10:=size_u64 (n:=s.boot) (by omega);have q11:=size_u64 (n:=s.m.mounts.length) (by omega);have q12:=sizeN_small (n:=t.length) (by omega);unfold stB;simp only [List.length_append,putN_len,textN_len];omega
section
variable {d:Dk} {k:Kp} {g:Lg} {s:StM} {S0:List PairM} {rows:List BatM} {c:Nat}
theorem VDk.log_is (h:VDk d k g s S0 rows c) {D:Dk} {g':Lg} {rs':List (List UInt8 × Nat)} {R':List (Option Lp)} {rows':List BatM} (hl:LogIs D g' rs' R') (hlen:D.lasts.length=d.lasts.length) (hp:D.pend=0)
 (hg:g'.from_=g.from_∧g'.sectors=g.sectors∧g'.epoch=g.epoch) (hs:g'.salt≤c+1) (hep:∀p,some p ∈ (rowOf g'.epoch 0 rs').map some++R'→p.epoch≤s.log) (hu:g'.used≤12*rows'.length) (hgl:g'.l.length=rows'.length)
 (hrec:∀i (_:i<g'.l.length) (_:i<rows'.length),Sealed s.key sLog (batT rows'[i]) (g'.l[i]).data.toList) (hm:rows'.length≤24) (hn:∀i,i<d.lasts.length→(i<20∨340≤i)→D.now i=d.now i):VDk D k g' s S0 rows' (c+1):=by
 obtain ⟨L0,L1,hk⟩:=h.kept;obtain ⟨g1,g2,g3⟩:=h.gplace;have hgd:=h.good;have hlen2:=hgd.len;refine ⟨⟨hl.fuse,hl.off,hl.waits,hlen.trans hlen2,hp⟩,⟨L0,L1,hk.far hl.fuse hl.off hl.waits hlen fun i h1 h2=>hn i (by have:=h.kfrom;omega) (.inl (by have:=h.kfrom;omega))⟩,h.kfrom,by have:=h.kseen;omega,h.text,h.right,h.place,h.slots,⟨_,_,hl,hep⟩,⟨hg.1.trans g1,hg.2.1.trans g2,hg.2.2.trans g3⟩,hs,hu,hgl,hrec,hm,?_,h.pairs,fun i hi=>?_,by have:=h.logs;omega,by have:=h.keys;omega,by have:=h.boots;omega⟩
 ·rcases h.slot with e | ⟨e1,u,e2,e3⟩
  ·exact .inl e
  ·refine .inr ⟨e1,u,e2,fun i hi=>?_⟩
   have hul2:=(e2.len (by have:=pairsB_len h.pairs;omega)).1;have:=pairsB_len h.pairs;have hn2:slotN u≤80:=slotN_le (by omega);have h2:=h.slots;rw [hn _ (by unfold placeN;omega) (.inr (by unfold placeN;omega))];exact e3 i hi
 ·rw [hn _ (by omega) (.inr (by omega))]
  exact h.sound i hi
theorem snoc_recs {g g':Lg} {s:StM} {rows:List BatM} {b:BatM} {t:List UInt8} (hgl:g.l.length=rows.length) (e:g'.l=g.l++[str t]) (hr:∀i (_:i<g.l.length) (_:i<rows.length),Sealed s.key sLog (batT rows[i]) (g.l[i]).data.toList) (ht:Sealed s.key sLog (batT b) t) :
 ∀i (_:i<g'.l.length) (_:i<(rows++[b]).length),Sealed s.key sLog (batT (rows++[b])[i]) (g'.l[i]).data.toList:=by
 intro i h1 h2;by_cases hi:i<rows.length
 ·have e1:g'.l[i]=g.l[i]'(by omega):=by simp only [e];rw [List.getElem_append_left (by omega)]
  rw [e1,List.getElem_append_left hi];exact hr i _ hi
 ·have hi2:i=rows.length:=by rw [List.length_append,List.length_singleton] at h2;omega
  subst hi2;have e1:g'.l[rows.length]=str t:=by simp only [e];rw [List.getElem_append_right (by omega)];simp [hgl]
  rw [e1,str_list,List.getElem_append_right (by omega)];simpa using ht
theorem VDk.add (h:VDk d k g s S0 rows c) (hc:c<100000) (b:BatM) (hb:batErr b.index b.epoch b.ops=0) (he:b.epoch≤9223372036854775807) (hr:rows.length<24) {t:List UInt8} (ht:Sealed s.key sLog (batT b) t) :
 ∃D,addG d g (str t)=(D,g.added (str t),0)∧VDk D k (g.added (str t)) s S0 (rows++[b]) (c+1):=by
 obtain ⟨rs,R,hl,hep⟩:=h.log;obtain ⟨g1,g2,g3⟩:=h.gplace;have hbl:=batT_len hb he;have htl:=(ht.len (by omega)).1;have hul:=hl.used_le;have hu:=h.gused;have hsz:(str t).size=t.length:=str_size t;have hpo:partsOf (str t).size≤12:=by rw [hsz];unfold partsOf;omega
 have hsa:=h.gsalt;obtain ⟨q1,q2,q3,q4,q5⟩:=add_is hl (str t) (by omega) (by omega) (by omega);refine ⟨_,q1,h.log_is q2 q3 q4 ⟨rfl,rfl,rfl⟩ (by show g.salt+1≤c+1;omega) ?_ ?_ ?_ (snoc_recs h.glen rfl h.recs ht) (by rw [List.length_append,List.length_singleton];omega) fun i hi ho=>q5 i hi (by omega)⟩
 ·intro p hp
  have hrow:rowOf g.epoch 0 (rs++[((str t).data.toList,g.salt+1)])=rowOf g.epoch 0 rs++cutG (str t).data.toList g.epoch (g.salt+1) g.last:=by
   rw [rowOf_snoc,← hl.last]
  have hp':some p ∈ (rowOf g.epoch 0 rs++cutG (str t).data.toList g.epoch (g.salt+1) g.last).map some++R.drop (partsOf (str t).size):=by rw [← hrow];exact hp
  rcases List.mem_append.1 hp' with e | e
  ·obtain ⟨q,hq,e⟩:=List.mem_map.1 e
   injection e with e;subst e;rcases List.mem_append.1 hq with e | e
   ·exact hep q (List.mem_append_left _ (List.mem_map.2 ⟨q,e,rfl⟩))
   ·obtain ⟨i,hi,rfl⟩:=List.mem_iff_getElem.1 e
    have:=(cutG_get _ _ _ _ i hi).1;omega
  ·exact hep p (List.mem_append_right _ (List.mem_of_mem_drop e))
 ·show g.used+partsOf (str t).size≤_
  rw [List.length_append,List.length_singleton];omega
 ·show (g.l++[str t]).length=_
  rw [List.length_append,List.length_append,h.glen];rfl
theorem VDk.put_is (h:VDk d k g s S0 rows c) (s':StM) (h1:s'.at_=s.at_) (h2:s'.epoch=s.epoch) (h3:s'.slot=s.slot) (h4:s'.log=s.log) (h5:s.key≤s'.key) (h5b:s'.key≤c+1) (h6:s'.boot≤c+1) (h7:rightM s'.m=true)
 {D:Dk} {k':Kp} {L0' L1':List (Option Pt)} (ht:(k'.gen=0∧s'=stM0)∨(0<k'.gen∧∃t,Sealed s'.key sSecret s'.m.secret t∧k'.text=stB s' t)) (hf:k'.from_=0) (hse:k'.seen≤c+1) (q2:KeptG D k' L0' L1') (q3:D.lasts.length=d.lasts.length) (q4:D.pend=0)
 (q5:∀i,i<d.lasts.length→(i<k.from_∨k.from_+20≤i)→D.now i=d.now i):VDk D k' g s' S0 rows (c+1):=by
 obtain ⟨rs,R,hl,hep⟩:=h.log;obtain ⟨g1,g2,g3⟩:=h.gplace;have hpl:PlaceIs s'.at_ s'.epoch:=by rw [h1,h2];exact h.place
 have hlo:=h.logs;have hkf:=h.kfrom;have hlen:=h.good.len;refine ⟨⟨q2.fuse,q2.off,q2.waits,q3.trans hlen,q4⟩,⟨L0',L1',q2⟩,hf,hse,ht,h7,hpl,by rw [h3];exact h.slots,⟨rs,R,hl.far q2.fuse q2.off q2.waits q3 fun i a b=>q5 i (by omega) (.inr (by omega)),by rw [h4];exact hep⟩,by rw [h4];exact h.gplace,by have:=h.gsalt;omega,h.gused,h.glen,fun i a b=>(h.recs i a b).mono h5,h.many,?_,h.pairs,fun i hi=>?_,by omega,h5b,h6⟩
 ·rw [h3,h1,h2]
  rcases h.slot with e | ⟨e1,u,e2,e3⟩
  ·exact .inl e
  ·refine .inr ⟨e1,u,e2.mono h5,fun i hi=>?_⟩
   have hul2:=(e2.len (by have:=pairsB_len h.pairs;omega)).1;have:=pairsB_len h.pairs;have hn:slotN u≤80:=slotN_le (by omega);have h2:=h.slots;rw [q5 _ (by unfold placeN;omega) (.inr (by unfold placeN;omega))];exact e3 i hi
 ·rw [q5 _ (by omega) (.inr (by omega))]
  exact h.sound i hi
theorem rightM_secret {m:MetaM} (h:rightM m=true):m.secret.length≤64:=by
 unfold rightM at h;simp only [Bool.and_eq_true,decide_eq_true_eq] at h;exact h.2.2.2.2.2
theorem VDk.put_len (h:VDk d k g s S0 rows c) (hc:c<100000) (s':StM) (h1:s'.at_=s.at_) (h2:s'.epoch=s.epoch) (h3:s'.slot=s.slot) (h4:s'.log=s.log) (h5b:s'.key≤c+1) (h6:s'.boot≤c+1) (h7:rightM s'.m=true)
 (h8:s'.m.seen≤9223372036854775807∧s'.m.grant≤9223372036854775807) {t:List UInt8} (ht:Sealed s'.key sSecret s'.m.secret t):(stB s' t).length≤400:=by
 have hpl:PlaceIs s'.at_ s'.epoch:=by rw [h1,h2];exact h.place
 have hsec:=rightM_secret h7;have htl:=(ht.len (by omega)).1;have hlo:=h.logs;exact stB_len (t:=t) h7 hpl (by rw [h3];exact h.slots) (by omega) (by omega) (by omega) h8 (by omega)
theorem VDk.put (h:VDk d k g s S0 rows c) (hc:c<100000) (s':StM) (h1:s'.at_=s.at_) (h2:s'.epoch=s.epoch) (h3:s'.slot=s.slot) (h4:s'.log=s.log) (h5:s.key≤s'.key) (h5b:s'.key≤c+1) (h6:s'.boot≤c+1) (h7:rightM s'.m=true)
 (h8:s'.m.seen≤9223372036854775807∧s'.m.grant≤9223372036854775807) {t:List UInt8} (ht:Sealed s'.key sSecret s'.m.secret t) :
 ∃D,putK d k (stB s' t)=(D,k.put (stB s' t),0)∧VDk D (k.put (stB s' t)) g s' S0 rows (c+1):=by
 obtain ⟨L0,L1,hk⟩:=h.kept;have hse:=h.kseen;obtain ⟨D,L0',L1',q1,q2,q3,q4,q5⟩:=hk.put_ (stB s' t) (h.put_len hc s' h1 h2 h3 h4 h5b h6 h7 h8 ht) (by omega);exact ⟨D,q1,h.put_is s' h1 h2 h3 h4 h5 h5b h6 h7 (.inr ⟨by show 0<k.seen+1;omega,t,ht,rfl⟩) h.kfrom (by show k.seen+1≤c+1;omega) q2 q3 q4 q5⟩
theorem VDk.slot_is (h:VDk d k g s S0 rows c) (t:List UInt8) (h1:1≤slotN t) (h2:slotN t≤80) {D:Dk} (q2:Good D)
 (q4:∀i,i<500→D.now i=d.now i∨(placeN (1+s.slot % 2)≤i∧i<placeN (1+s.slot % 2)+slotN t∧D.now i=(slotSecs t).getD (i - placeN (1+s.slot % 2)) ByteArray.empty)):VDk D k g s S0 rows c:=by
 obtain ⟨L0,L1,hk⟩:=h.kept;obtain ⟨rs,R,hl,hep⟩:=h.log;obtain ⟨g1,g2,g3⟩:=h.gplace;have hkf:=h.kfrom;have hlen:=h.good.len;have hs2:=h.slots;have hpl:placeN (1+s.slot % 2)=340+(s.slot % 2)*80:=by unfold placeN;omega
 have q5:∀i,i<500→(i<placeN (1+s.slot % 2)∨placeN (1+s.slot % 2)+slotN t≤i)→D.now i=d.now i:=fun i hi ho=>by
  rcases q4 i hi with e | e
  ·exact e
  ·omega
 refine ⟨q2,⟨L0,L1,hk.far q2.fuse q2.off q2.waits (by rw [q2.len,hlen]) fun i a b=>q5 i (by omega) (.inl (by omega))⟩,hkf,h.kseen,h.text,h.right,h.place,h.slots,⟨rs,R,hl.far q2.fuse q2.off q2.waits (by rw [q2.len,hlen]) fun i a b=>q5 i (by omega) (.inl (by omega)),hep⟩,h.gplace,h.gsalt,h.gused,h.glen,h.recs,h.many,?_,h.pairs,fun i hi=>?_,h.logs,h.keys,h.boots⟩
 ·rcases h.slot with e | ⟨e1,u,e2,e3⟩
  ·exact .inl e
  ·refine .inr ⟨e1,u,e2,fun i hi=>?_⟩
   have hul2:=(e2.len (by have:=pairsB_len h.pairs;omega)).1;have:=pairsB_len h.pairs;have hn:slotN u≤80:=slotN_le (by omega);rw [q5 _ (by unfold placeN;omega) (by rw [hpl];unfold placeN;omega)];exact e3 i hi
 ·rcases q4 (340+i) (by omega) with e | ⟨a,b,e⟩
  ·rw [e]
   exact h.sound i hi
  ·rw [e,slotSecs_get t _ (by omega),look_slot t _ h1 h2]
   simp
theorem VDk.slotw (h:VDk d k g s S0 rows c) (t:List UInt8) (h1:1≤slotN t) (h2:slotN t≤80) :
 ∃D,writeSlotD d (1+s.slot % 2) t=(D,0)∧VDk D k g s S0 rows c∧slotHas D (1+s.slot % 2) t:=by
 have hs2:=h.slots;obtain ⟨D,q1,q2,q3,q4⟩:=writeSlotD_ok h.good (1+s.slot % 2) t (by omega) h2;refine ⟨D,q1,h.slot_is t h1 h2 q2 fun i hi=>?_,q3⟩;by_cases hi2:i<placeN (1+s.slot % 2)∨placeN (1+s.slot % 2)+slotN t≤i
 ·exact .inl (q4 i hi hi2)
 ·refine .inr ⟨by omega,by omega,?_⟩
  have e:i=placeN (1+s.slot % 2)+(i - placeN (1+s.slot % 2)):=by omega
  rw [slotSecs_get t _ (by omega),← q3 _ (by omega),← e]
theorem VDk.whole_is (h:VDk d k g s S0 rows c) (hc:c<100000) (m:MetaM) (x:List PairM) (a e:Int) (hm:rightM m=true) (hx:PairsOk x) (hp:PlaceIs a e) {u t:List UInt8} (hu:Sealed s.key sMap (pairsB x) u) (hus:slotHas d (1+s.slot % 2) u) (ht:Sealed s.key sSecret m.secret t)
 {D:Dk} {L0' L1':List (Option Pt)} (q2:KeptG D (k.put (stB (s.whole m a e) t)) L0' L1') (q3:D.lasts.length=d.lasts.length) (q4:D.pend=0) (q5:∀i,i<d.lasts.length→(i<k.from_∨k.from_+20≤i)→D.now i=d.now i) :
 ∃g',openG D 20 320 (s.log+1)=some g'∧VDk D (k.put (stB (s.whole m a e) t)) g' (s.whole m a e) x [] (c+1):=by
 obtain ⟨rs,R,hl,hep⟩:=h.log;obtain ⟨g1,g2,g3⟩:=h.gplace;have hse:=h.kseen;have hlo:=h.logs;have hke:=h.keys;have hbo:=h.boots;have hs2:=h.slots;have hgs:=h.gsalt;have hkf:=h.kfrom;have hlen:=h.good.len;have hl2:=hl.far q2.fuse q2.off q2.waits q3 fun i a b=>q5 i (by omega) (.inr (by omega))
 have hl3:=hl2.other (s.log+1) (by omega) (by omega) (firstG_stop fun p hp=>.inl (by have:=hep p (rowL_mem hp);omega));have hop:=hl3.opens;simp only [g1,g2] at hop;have hul2:=(hu.len (by have:=pairsB_len hx;omega)).1;have hxl:=pairsB_len hx;have hn:slotN u≤80:=slotN_le (by omega);refine ⟨_,hop,⟨⟨q2.fuse,q2.off,q2.waits,q3.trans hlen,q4⟩,⟨L0',L1',q2⟩,hkf,by show k.seen+1≤c+1;omega,.inr ⟨by show 0<k.seen+1;omega,t,ht,rfl⟩,hm,hp,by show 1+s.slot % 2≤2;omega,⟨[],_,by rw [g1,g2] at hl3;exact hl3,fun p hp=>by have:=hep p (by simpa [rowOf] using hp);show p.epoch≤s.log+1;omega⟩,⟨rfl,rfl,rfl⟩,by show g.salt≤c+1;omega,by simp,rfl,fun i a b=>absurd b (by simp),by simp,.inr ⟨by show 1≤1+s.slot % 2;omega,u,hu,fun i hi=>?_⟩,hx,fun i hi=>?_,by show s.log+1≤_;omega,by show s.key≤_;omega,by show s.boot≤_;omega⟩⟩
 ·have hpl:placeN (1+s.slot % 2)=340+(s.slot % 2)*80:=by unfold placeN;omega
  show D.now (placeN (1+s.slot % 2)+i)=_;rw [q5 _ (by omega) (.inr (by omega))];exact hus i hi
 ·rw [q5 _ (by omega) (.inr (by omega))]
  exact h.sound i hi
theorem VDk.whole_len (h:VDk d k g s S0 rows c) (hc:c<100000) (m:MetaM) (a e:Int) (hm:rightM m=true) (hm8:m.seen≤9223372036854775807∧m.grant≤9223372036854775807) (hp:PlaceIs a e) {t:List UInt8} (ht:Sealed s.key sSecret m.secret t):(stB (s.whole m a e) t).length≤400:=by
 have hsec:=rightM_secret hm;have htl:=(ht.len (by omega)).1;have hlo:=h.logs;have hke:=h.keys;have hbo:=h.boots;exact stB_len (s:=s.whole m a e) (t:=t) hm hp (by show 1+s.slot % 2≤2;omega) (by show s.log+1≤_;omega) (by show s.key≤_;omega) (by show s.boot≤_;omega) hm8 (by omega)
theorem VDk.whole (h:VDk d k g s S0 rows c) (hc:c<100000) (m:MetaM) (x:List PairM) (a e:Int) (hm:rightM m=true) (hm8:m.seen≤9223372036854775807∧m.grant≤9223372036854775807) (hx:PairsOk x) (hp:PlaceIs a e) {u t:List UInt8} (hu:Sealed s.key sMap (pairsB x) u) (hus:slotHas d (1+s.slot % 2) u) (ht:Sealed s.key sSecret m.secret t) :
 ∃D g',putK d k (stB (s.whole m a e) t)=(D,k.put (stB (s.whole m a e) t),0)∧openG D 20 320 (s.log+1)=some g'∧VDk D (k.put (stB (s.whole m a e) t)) g' (s.whole m a e) x [] (c+1):=by
 obtain ⟨L0,L1,hk⟩:=h.kept;have hse:=h.kseen;obtain ⟨D,L0',L1',q1,q2,q3,q4,q5⟩:=hk.put_ (stB (s.whole m a e) t) (h.whole_len hc m a e hm hm8 hp ht) (by omega);obtain ⟨g',r1,r2⟩:=h.whole_is hc m x a e hm hx hp hu hus ht q2 q3 q4 q5;exact ⟨D,g',q1,r1,r2⟩
end
end
section
open Go Go.RowKit
structure VtG (d:Dk) (V:VtM) (S0:List PairM) (c:Nat):Prop where
 vdk:VDk d V.kp V.lg V.st S0 V.rows c
 rep:replL V.rows (S0,V.st.at_,V.st.epoch)=some (V.S,V.at_,V.epoch)
 prev:V.prev=V.st.epoch
 cur:V.cur=V.st.key
 num:V.n≤c
 up:V.down=false
 eps:∀b ∈ V.rows,b.epoch≤9223372036854775807
 boot:1≤V.st.boot
 gen:0<V.kp.gen
 mn:V.st.m.seen≤9223372036854775807∧V.st.m.grant≤9223372036854775807
section
variable {d:Dk} {V:VtM} {S0:List PairM} {c:Nat}
theorem VDk.mono {d:Dk} {k:Kp} {g:Lg} {s:StM} {S0:List PairM} {rows:List BatM} {c c':Nat} (h:VDk d k g s S0 rows c) (hc:c≤c'):VDk d k g s S0 rows c':=by
 have h1:=h.kseen;have h2:=h.gsalt;have h3:=h.logs;have h4:=h.keys;have h5:=h.boots;exact { h with kseen:=by omega,gsalt:=by omega,logs:=by omega,keys:=by omega,boots:=by omega }
theorem VtG.sealed (h:VtG d V S0 c) (hc:c<100000) (about text:List UInt8):Sealed V.st.key about text (V.wrap about text):=by
 have h1:=h.vdk.keys;have h2:=h.vdk.boots;have h3:=h.num;exact ⟨V.cur,V.st.boot,V.n,by rw [h.cur];exact Nat.le_refl _,by rw [h.cur];omega,by omega,by omega,rfl⟩
theorem VtG.sealed1 (h:VtG d V S0 c) (hc:c<100000) (about text:List UInt8):Sealed V.st.key about text (V.next.wrap about text):=by
 have h1:=h.vdk.keys;have h2:=h.vdk.boots;have h3:=h.num;exact ⟨V.cur,V.st.boot,V.n+1,by rw [h.cur];exact Nat.le_refl _,by rw [h.cur];omega,by omega,by omega,rfl⟩
theorem VtG.pairs (h:VtG d V S0 c):PairsOk V.S:=replL_ok h.vdk.pairs h.rep
theorem VtG.place (h:VtG d V S0 c):PlaceIs V.at_ V.epoch:=replL_place h.vdk.place h.eps h.rep
structure RvM where
 m:MetaM
 S:List PairM
 at_:Int
 epoch:Int
 rows:List BatM
 prev:Int
 key:Nat
def VtM.abs (V:VtM):RvM:=⟨V.st.m,V.S,V.at_,V.epoch,V.rows,V.prev,V.st.key⟩
def RvM.forgot (v:RvM):RvM := { v with rows:=[],prev:=v.epoch }
def commitR (v:RvM) (b:BatM):RvM × Int :=
 if batErr b.index b.epoch b.ops≠0 then (v,batErr b.index b.epoch b.ops) else
 if b.index≠v.at_+1∨b.epoch<v.epoch then (v,1) else
 if doE v.S b.ops≠0 then (v,doE v.S b.ops) else
 ({ (if 24≤v.rows.length then v.forgot else v) with rows:=(if 24≤v.rows.length then v.forgot else v).rows++[b],S:=doL v.S b.ops,at_:=b.index,epoch:=b.epoch },0)
def setR (v:RvM) (m:MetaM):RvM × Int:=if rightM m=false then (v,1) else ({ v with m:=m },0)
def installR (v:RvM) (m:MetaM) (l:List PairM) (at_ epoch:Int):RvM × Int :=
 if rightM m=false∨placeOk at_ epoch=false then (v,1) else if (ofP l).2≠0 then (v,(ofP l).2) else
 ({ v with m:=m,S:=(ofP l).1,at_:=at_,epoch:=epoch,rows:=[],prev:=epoch },0)
def rotateR (v:RvM):RvM × Int:=if 1048576≤v.key then (v,6) else ({ v with key:=v.key+1 },0)
theorem VtG.puts (h:VtG d V S0 c) (hc:c<99000) (m:MetaM) (hm:rightM m=true) (hm8:m.seen≤9223372036854775807∧m.grant≤9223372036854775807) (key:Nat) (h1:V.st.key≤key) (h2:key≤c+1) :
 ∃ D,putV d V { V.st with m:=m,key:=key } = (D,{ V.next with kp:=V.kp.put (stB { V.st with m:=m,key:=key } (V.wrap sSecret m.secret)),st := { V.st with m:=m,key:=key } },0) ∧
  VDk D (V.kp.put (stB { V.st with m:=m,key:=key } (V.wrap sSecret m.secret))) V.lg { V.st with m:=m,key:=key } S0 V.rows (c+1):=by
 obtain ⟨D,q1,q2⟩:=h.vdk.put (by omega) { V.st with m:=m,key:=key } rfl rfl rfl rfl h1 h2 (by have:=h.vdk.boots;show V.st.boot≤_;omega) hm hm8 ((h.sealed (by omega) sSecret m.secret).mono h1);refine ⟨D,?_,q2⟩;unfold putV;rw [show ({ V.st with m:=m,key:=key } : StM).m.secret=m.secret from rfl,q1,if_neg (by simp)]
theorem VtG.set_ (h:VtG d V S0 c) (hc:c<99000) (m:MetaM) (hm8:m.seen≤9223372036854775807∧m.grant≤9223372036854775807) :
 ∃D V',setV d V m=(D,V',(setR V.abs m).2)∧VtG D V' S0 (c+1)∧V'.abs=(setR V.abs m).1∧V'.st.boot=V.st.boot:=by
 unfold setV setR offV;rw [h.up,h.vdk.good.off,if_neg (by simp)];by_cases hr:rightM m=false
 ·rw [if_pos hr,if_pos hr]
  exact ⟨d,V,rfl,{ h with vdk:=h.vdk.mono (by omega),num:=by have:=h.num;omega },rfl,rfl⟩
 ·rw [if_neg hr,if_neg hr]
  obtain ⟨D,q1,q2⟩:=h.puts hc m (by simpa using hr) hm8 V.st.key (Nat.le_refl _) (by have:=h.vdk.keys;omega);refine ⟨D,_,q1,⟨q2,h.rep,h.prev,h.cur,by have:=h.num;show V.n+1≤_;omega,h.up,h.eps,h.boot,by show 0<V.kp.seen+1;omega,hm8⟩,rfl,rfl⟩
theorem VtG.rotate (h:VtG d V S0 c) (hc:c<99000) :
 ∃D V',rotateV d V=(D,V',(rotateR V.abs).2)∧VtG D V' S0 (c+1)∧V'.abs=(rotateR V.abs).1∧V'.st.boot=V.st.boot:=by
 have hk:=h.vdk.keys;unfold rotateV rotateR offV;have hk1:¬1048576≤V.st.key:=by omega
 have hk2:¬1048576≤V.abs.key:=hk1;rw [h.up,h.vdk.good.off,if_neg (by simp),if_neg hk1,if_neg hk2];obtain ⟨D,q1,q2⟩:=h.puts hc V.st.m h.vdk.right h.mn (V.st.key+1) (by omega) (by omega);simp only
 rw [show ({ V.st with key:=V.st.key+1 } : StM) = { V.st with m:=V.st.m,key:=V.st.key+1 } from rfl,q1,if_neg (by simp)];exact ⟨D,_,rfl,⟨q2,h.rep,h.prev,by show V.cur+1=V.st.key+1;rw [h.cur],by have:=h.num;show V.n+1≤_;omega,h.up,h.eps,h.boot,by show 0<V.kp.seen+1;omega,h.mn⟩,rfl,rfl⟩
theorem VtG.whole (h:VtG d V S0 c) (hc:c<99000) (m:MetaM) (hm:rightM m=true) (hm8:m.seen≤9223372036854775807∧m.grant≤9223372036854775807) (x:List PairM) (hx:PairsOk x) (a e:Int) (hp:PlaceIs a e) :
 ∃D V',wholeV d V m x a e=(D,V',0)∧VtG D V' x (c+2)∧V'.abs = { V.abs with m:=m,S:=x,at_:=a,epoch:=e,rows:=[],prev:=e } ∧ V'.st.boot=V.st.boot:=by
 obtain ⟨D1,q1,q2,q3⟩:=h.vdk.slotw (V.wrap sMap (pairsB x)) (by have:=(h.sealed (by omega) sMap (pairsB x)).len (by have:=pairsB_len hx;omega);unfold slotN;omega) (by
  have:=(h.sealed (by omega) sMap (pairsB x)).len (by have:=pairsB_len hx;omega);have:=pairsB_len hx;exact slotN_le (by omega))
 obtain ⟨D,g',r1,r2,r3⟩:=q2.whole (by omega) m x a e hm hm8 hx hp (h.sealed (by omega) sMap (pairsB x)) q3 (h.sealed1 (by omega) sSecret m.secret);have hput:putV D1 V.next (V.st.whole m a e)=(D,{ V.next.next with kp:=V.kp.put (stB (V.st.whole m a e) (V.next.wrap sSecret m.secret)),st:=V.st.whole m a e },0):=by
  unfold putV;rw [show (V.st.whole m a e).m.secret=m.secret from rfl,show V.next.kp=V.kp from rfl,r1,if_neg (by simp)]
 refine ⟨D,{ V.next.next with kp:=V.kp.put (stB (V.st.whole m a e) (V.next.wrap sSecret m.secret)),st:=V.st.whole m a e,lg:=g',S:=x,at_:=a,epoch:=e,rows:=[],prev:=e },?_,⟨r3.mono (by omega),rfl,rfl,h.cur,by have:=h.num;show V.n+1+1≤_;omega,h.up,by simp,h.boot,by show 0<V.kp.seen+1;omega,hm8⟩,rfl,rfl⟩;unfold wholeV;simp only
 rw [show (V.st.whole m a e).slot=1+V.st.slot % 2 from rfl,q1,if_neg (by simp)];simp only
 rw [hput,if_neg (by simp)];simp only
 rw [show (V.st.whole m a e).log=V.st.log+1 from rfl,r2]
theorem VtG.install (h:VtG d V S0 c) (hc:c<99000) (m:MetaM) (hm8:m.seen≤9223372036854775807∧m.grant≤9223372036854775807) (l:List PairM) (a e:Int) (he:e≤9223372036854775807) :
 ∃D V' S0',installV d V m l a e=(D,V',(installR V.abs m l a e).2)∧VtG D V' S0' (c+2)∧V'.abs=(installR V.abs m l a e).1∧V'.st.boot=V.st.boot:=by
 unfold installV installR offV;rw [h.up,h.vdk.good.off,if_neg (by simp)];by_cases h1:rightM m=false∨placeOk a e=false
 ·rw [if_pos h1,if_pos h1]
  exact ⟨d,V,S0,rfl,{ h with vdk:=h.vdk.mono (by omega),num:=by have:=h.num;omega },rfl,rfl⟩
 ·rw [if_neg h1,if_neg h1]
  by_cases h2:(ofP l).2≠0
  ·rw [if_pos h2,if_pos h2]
   exact ⟨d,V,S0,rfl,{ h with vdk:=h.vdk.mono (by omega),num:=by have:=h.num;omega },rfl,rfl⟩
  ·rw [if_neg h2,if_neg h2]
   have hm:rightM m=true:=by
    cases hh:rightM m
    ·exact absurd (.inl hh) h1
    ·rfl
   have hp:PlaceIs a e:=by
    have:placeOk a e=true:=by
     cases hh:placeOk a e
     ·exact absurd (.inr hh) h1
     ·rfl
    unfold placeOk at this;simp only [Bool.or_eq_true,decide_eq_true_eq] at this;constructor<;>omega
   obtain ⟨D,V',q1,q2,q3,q4⟩:=h.whole hc m hm hm8 (ofP l).1 (ofP_ok (by omega)) a e hp;exact ⟨D,V',_,q1,q2,q3,q4⟩
theorem VtG.add (h:VtG d V S0 c) (hc:c<99500) (b:BatM) (he:b.epoch≤9223372036854775807) (hr:V.rows.length<24) (h1:batErr b.index b.epoch b.ops=0) (h2:b.index=V.at_+1) (h3:V.epoch≤b.epoch) (h4:doE V.S b.ops=0) :
 ∃D V',addV d V b=(D,V',0)∧VtG D V' S0 (c+1)∧V'.abs = { V.abs with rows:=V.rows++[b],S:=doL V.S b.ops,at_:=b.index,epoch:=b.epoch } ∧ V'.st.boot=V.st.boot:=by
 have h48:(doL V.S b.ops).length≤48:=by
  unfold doE at h4;split at h4
  ·rename_i hh;exact absurd h4 hh
  ·split at h4
   ·simp at h4
   ·omega
 obtain ⟨D,q1,q2⟩:=h.vdk.add (by omega) b h1 he hr (h.sealed (by omega) sLog (batT b));refine ⟨D,{ V.next with lg:=V.lg.added (str (V.wrap sLog (batT b))),S:=doL V.S b.ops,rows:=V.rows++[b],at_:=b.index,epoch:=b.epoch },?_,⟨q2,?_,h.prev,h.cur,by have:=h.num;show V.n+1≤_;omega,h.up,?_,h.boot,h.gen,h.mn⟩,rfl,rfl⟩
 ·unfold addV
  simp only
  rw [q1,if_neg (by simp)];rfl
 ·show replL (V.rows++[b]) (S0,V.st.at_,V.st.epoch)=some (doL V.S b.ops,b.index,b.epoch)
  rw [replL_snoc,h.rep];exact replL_one h1 h2 h3 h48
 ·intro x hx
  rcases List.mem_append.1 hx with hx | hx
  ·exact h.eps x hx
  ·rw [List.mem_singleton.1 hx];exact he
theorem VtG.commit (h:VtG d V S0 c) (hc:c<99000) (b:BatM) (he:b.epoch≤9223372036854775807) :
 ∃D V' S0',commitV d V b=(D,V',(commitR V.abs b).2)∧VtG D V' S0' (c+3)∧V'.abs=(commitR V.abs b).1∧V'.st.boot=V.st.boot:=by
 have same:VtG d V S0 (c+3) := { h with vdk:=h.vdk.mono (by omega),num:=by have:=h.num;omega };unfold commitV commitR offV;rw [h.up,h.vdk.good.off,if_neg (by simp)];by_cases h1:batErr b.index b.epoch b.ops≠0
 ·rw [if_pos h1,if_pos h1]
  exact ⟨d,V,S0,rfl,same,rfl,rfl⟩
 rw [if_neg h1,if_neg h1];by_cases h2:b.index≠V.at_+1∨b.epoch<V.epoch
 ·rw [if_pos h2,if_pos (show b.index≠V.abs.at_+1∨b.epoch<V.abs.epoch from h2)]
  exact ⟨d,V,S0,rfl,same,rfl,rfl⟩
 rw [if_neg h2,if_neg (show ¬(b.index≠V.abs.at_+1∨b.epoch<V.abs.epoch) from h2)];by_cases h3:doE V.S b.ops≠0
 ·rw [if_pos h3,if_pos (show doE V.abs.S b.ops≠0 from h3)]
  exact ⟨d,V,S0,rfl,same,rfl,rfl⟩
 rw [if_neg h3,if_neg (show ¬doE V.abs.S b.ops≠0 from h3)];have e1:batErr b.index b.epoch b.ops=0:=by omega
 have e2:b.index=V.at_+1:=by omega
 have e3:V.epoch≤b.epoch:=by omega
 have e4:doE V.S b.ops=0:=by omega
 by_cases h4:24≤V.rows.length
 ·rw [if_pos h4,if_pos (show 24≤V.abs.rows.length from h4)]
  obtain ⟨D1,V1,q1,q2,q3,q4⟩:=h.whole hc V.st.m h.vdk.right h.mn V.S h.pairs V.at_ V.epoch h.place;have a1:V1.S=V.S:=congrArg RvM.S q3;have a2:V1.at_=V.at_:=congrArg RvM.at_ q3;have a3:V1.epoch=V.epoch:=congrArg RvM.epoch q3;have a4:V1.rows=[]:=congrArg RvM.rows q3;obtain ⟨D,V',r1,r2,r3,r4⟩:=q2.add (by omega) b he (by rw [a4];decide) e1 (by rw [a2];exact e2) (by rw [a3];exact e3) (by rw [a1];exact e4);have s1:V'.S=doL V.S b.ops:=by rw [← a1];exact congrArg RvM.S r3
  refine ⟨D,V',V.S,?_,r2,?_,r4.trans q4⟩
  ·simp only [q1,r1]
   rw [if_neg (by simp),if_pos trivial];congr 1
   congr 1
   rw [← s1]
  ·rw [r3,q3,a4,a1]
   rfl
 ·rw [if_neg h4,if_neg (show ¬24≤V.abs.rows.length from h4)]
  obtain ⟨D,V',r1,r2,r3,r4⟩:=h.add (by omega) b he (by omega) e1 e2 e3 e4;exact ⟨D,V',S0,r1,{ r2 with vdk:=r2.vdk.mono (by omega),num:=by have:=r2.num;omega },r3,r4⟩
def VtM.again (V:VtM):VtM := { V with st := { V.st with boot:=V.st.boot+1 },n:=0,down:=false }
def openV (d:Dk) (V:VtM):Dk × VtM × Int:=putV d V.again V.again.st
theorem VDk.opens (h:VtG d V S0 c) (hc:c<99000) :
 ∃D V',openV d V=(D,V',0)∧VtG D V' S0 (c+1)∧V'.abs=V.abs∧V'.st.boot=V.st.boot+1:=by
 have h1:=h.vdk.keys;have h2:=h.vdk.boots;have h3:=h.num;obtain ⟨D,q1,q2⟩:=h.vdk.put (by omega) { V.st with boot:=V.st.boot+1 } rfl rfl rfl rfl (Nat.le_refl _) (by show V.st.key≤_;omega) (by show V.st.boot+1≤_;omega) h.vdk.right h.mn
  (show Sealed V.st.key sSecret V.st.m.secret (V.again.wrap sSecret V.st.m.secret) from ⟨V.cur,V.st.boot+1,0,by rw [h.cur];exact Nat.le_refl _,by rw [h.cur];omega,by omega,by omega,rfl⟩)
 refine ⟨D,{ V.again.next with kp:=V.kp.put (stB { V.st with boot:=V.st.boot+1 } (V.again.wrap sSecret V.st.m.secret)),st := { V.st with boot:=V.st.boot+1 } },?_,⟨q2,h.rep,h.prev,h.cur,by show 0+1≤_;omega,rfl,h.eps,by show 1≤V.st.boot+1;omega,by show 0<V.kp.seen+1;omega,h.mn⟩,rfl,rfl⟩;unfold openV putV;rw [show V.again.kp=V.kp from rfl,show V.again.st = { V.st with boot:=V.st.boot+1 } from rfl];rw [show ({ V.st with boot:=V.st.boot+1 } : StM).m.secret=V.st.m.secret from rfl,q1,if_neg (by simp)]
def kp0:Kp:=⟨0,[],0,1,0,false⟩
def lgv0:Lg:=⟨20,320,1,[],0,0,0,false⟩
def V0:VtM:=⟨[],0,0,[],0,stM0,false,kp0,lgv0,0,0⟩
theorem fresh_lens (n:Nat):(Dk.fresh n).waits.length=(Dk.fresh n).lasts.length∧(Dk.fresh n).lasts.length=n:=by simp [Dk.fresh]
theorem VDk.fresh:VDk (Dk.fresh 500) kp0 lgv0 stM0 [] [] 0:=by
 refine ⟨⟨rfl,rfl,(fresh_lens _).1,(fresh_lens _).2,fresh_pend _⟩,⟨_,_,fresh_g 500 0 (by omega)⟩,rfl,Nat.le_refl _,.inl ⟨rfl,rfl⟩,by decide,by constructor<;>decide,by decide,⟨[],_,fresh_log 500 20 320 1 (by omega) (by omega) (by omega) (by omega),fun p hp=>?_⟩,⟨rfl,rfl,rfl⟩,by decide,by decide,rfl,fun i a=>by simp [lgv0] at a,by decide,.inl ⟨rfl,rfl,rfl,rfl⟩,PairsOk.nil,fun i hi=>?_,by decide,by decide,by decide⟩
 ·have hp2:some p ∈ List.replicate 320 (none:Option Lp):=hp
  have:=List.eq_of_mem_replicate hp2;simp at this
 ·rw [fresh_now 500 (340+i) (by omega)]
  decide +kernel
theorem VDk.first :
 ∃D V',openV (Dk.fresh 500) V0=(D,V',0)∧VtG D V' [] 1∧V'.abs=⟨metaM0,[],0,0,[],0,0⟩∧V'.st.boot=1:=by
 obtain ⟨D,q1,q2⟩:=VDk.fresh.put (by omega) { stM0 with boot:=1 } rfl rfl rfl rfl (Nat.le_refl _) (by decide) (by decide) (by decide) (by decide)
  (show Sealed 0 sSecret [] (V0.again.wrap sSecret []) from ⟨0,1,0,by omega,by omega,by omega,by omega,rfl⟩)
 refine ⟨D,{ V0.again.next with kp:=kp0.put (stB { stM0 with boot:=1 } (V0.again.wrap sSecret [])),st := { stM0 with boot:=1 } },?_,⟨q2,rfl,rfl,rfl,by decide,rfl,by simp [VtM.next,VtM.again,V0],by decide,by decide,by decide⟩,rfl,rfl⟩;unfold openV putV;rw [show V0.again.kp=kp0 from rfl,show V0.again.st = { stM0 with boot:=1 } from rfl];rw [show ({ stM0 with boot:=1 } : StM).m.secret=[] from rfl,q1,if_neg (by simp)]
end
end
section
open Go Go.RowKit
def mtRow (m:MtM):List Value:=[.string (str m.name),.bool m.ship]
def MtsAt (w:World) (b off:Nat) (l:List MtM):Prop:=∀i (h:i<l.length),w.rangeAt b (off+i*2) (mtRow l[i])
theorem MtsAt.take {w:World} {b off:Nat} {l:List MtM} (h:MtsAt w b off l) (k:Nat):MtsAt w b off (l.take k):=fun i hi=>by
 rw [List.length_take] at hi;rw [List.getElem_take];exact h i (by omega)
theorem rtwin_c (P N:ByteArray) (S:Bool) (mb:Nat) (w:World) (hc:w.cell? ⟨mb,0,none⟩=some (.string N)) :
 Calls Tryz.prog 141 #[.agg #[.string P,.bool S],.pointer (some ⟨mb,0,none⟩)] w fun e w'=>e=.returned (.bool (P.toList == N.toList))∧Upd (fun _=>False) w w':=by
 have hmb:w.heap.size≠mb:=by
  have:=World.block_lt_of_cell? _ _ hc;simp at this
  omega
 go_enter Tryz.func141,Tryz.ntmps141
 go_upto_region 1 with fail
 generalize hw2:World.alloc _ _=w2;obtain ⟨q,hq⟩:=eqx w.heap.size;rw [hq];have hU:Upd (fun _=>False) w w2:=by rw [← hw2];exact (Upd.refl _ w).alloc _
 have c0:w2.cell? ⟨q,0,none⟩=some (.string P):=by rw [← hw2,← hq];exact (Blk.new w _ _).cell 0
 have c1:w2.cell? ⟨mb,0,none⟩=some (.string N):=by
  rw [World.cell?_of_block (w:=w) (a:=⟨mb,0,none⟩) (hU.block mb (World.block_lt_of_cell? _ _ hc) (fun e=>e))];exact hc
 have HU:=Lib.hid hU;clear hw2 hU hc hq hmb;go_wp2_with fail
 go_ret
 exact ⟨rfl,HU.out⟩
theorem str_same (a b:List UInt8):((str a).toList == (str b).toList)=decide (a=b):=by
 rw [ByteArray.toList_eq,ByteArray.toList_eq,str_list,str_list];by_cases h:a=b<;>simp [h]
theorem idxm_c {A:Option Addr} {cap b off mb:Nat} {l:List MtM} {w:World} {nm:List UInt8} (hA:0<l.length→A=some ⟨b,off,none⟩) (hb:∀w',Upd (fun _=>False) w w'→MtsAt w' b off l) (hl:l.length≤1000000)
 (hc:∀w',Upd (fun _=>False) w w'→w'.cell? ⟨mb,0,none⟩=some (.string (str nm))) :
 Calls Tryz.prog 194 #[.slice A l.length cap,.func (.func 141) #[] #[.pointer (some ⟨mb,0,none⟩)]] w fun e w'=>∃z:Int,e=.returned (.int .i64 z)∧(decide (0≤z)=l.any fun o=>decide (o.name=nm))∧Upd (fun _=>False) w w':=by
 have HB:=Lib.hid hb;have HC:=Lib.hid hc;clear hb hc;go_enter Tryz.func194,Tryz.ntmps194
 go_wp2_with fail
 go_loopw [5,8] (fun _ i wr=>∃k:Nat,k≤l.length∧i=.int .i64 (k:Int)∧Upd (fun _=>False) w wr∧(l.take k).any (fun o=>decide (o.name=nm))=false) (fun _ i _=>l.length - (intOf i).toNat)
 case atStart=>exact ⟨0,by omega,rfl,Upd.refl _ _,rfl⟩
 case round =>
  obtain ⟨k,hk,rfl,hU,hE⟩:=hrel;by_cases hlt:k<l.length
  ·obtain rfl:=hA (by omega)
   have hrow:=HB.out wr hU k hlt;have htk:(l.take (k+1)).any (fun o=>decide (o.name=nm))=decide (l[k].name=nm):=by
    rw [List.take_succ_eq_append_getElem hlt,List.any_append,hE];simp
   have hfull:decide (l[k].name=nm)=true→l.any (fun o=>decide (o.name=nm))=true:=fun h=>List.any_eq_true.2 ⟨l[k],List.getElem_mem hlt,h⟩
   obtain ⟨o,ho⟩:=eqx (l[k]);rw [ho] at hrow htk hfull;rw [← str_same] at htk hfull;obtain ⟨P,hP⟩:=eqx (str o.name);obtain ⟨N,hN⟩:∃P,str nm=P:=⟨_,rfl⟩;have hcell:=HC.out wr hU;rw [hN] at hcell htk hfull;rw [hP] at htk hfull;have hrw:mtRow o=[.string P,.bool o.ship]:=by unfold mtRow;rw [hP]
   rw [hrw] at hrow;have hcl:=rtwin_c P N o.ship mb wr hcell;obtain ⟨B,hBB⟩:=eqx (P.toList == N.toList);rw [hBB] at hcl htk hfull;have HR:=Lib.hid hrow;have HCL:=Lib.hid hcl;have HU:=Lib.hid hU;have HT:=h2k htk hfull;have j1:(k:Int)<(l.length:Int):=by omega
   clear hrow htk hfull hcell hrw hcl hU hE hP hN ho hBB;go_wp2_with (first
    | (refine wpList_load_mid rfl _ _ rfl b (off+k*2) rfl [.string P,.bool o.ship] _ HR.out Tryz.underlying46 rfl (by kernel_rfl) ?_))
   refine HCL.out.mono ?_;rintro e w1 ⟨rfl,hU1⟩;have HU1:=Lib.hid (HU.out.then hU1 (fun _ e=>e.elim));clear hU1;cases B
   ·go_wp2_with fail
    go_roundw
    case rel=>exact ⟨k+1,by omega,by go_num,HU1.out,HT.out.1⟩
    case measure=>simp [intOf]<;>omega
   ·go_wp2_with fail
    go_ret
    exact ⟨_,rfl,by rw [HT.out.2 trivial];simp,HU1.out⟩
  ·obtain rfl:k=l.length:=by omega
   rw [List.take_length] at hE;have HU:=h2k hU hE;clear hU hE;go_wp2_with fail
   go_ret
   exact ⟨-1,rfl,by rw [HU.out.2];rfl,HU.out.1⟩
theorem hasm_c {A:Option Addr} {cap b off mb:Nat} {l:List MtM} {w:World} {nm:List UInt8} (hA:0<l.length→A=some ⟨b,off,none⟩) (hb:∀w',Upd (fun _=>False) w w'→MtsAt w' b off l) (hl:l.length≤1000000)
 (hc:∀w',Upd (fun _=>False) w w'→w'.cell? ⟨mb,0,none⟩=some (.string (str nm))) :
 Calls Tryz.prog 143 #[.slice A l.length cap,.func (.func 141) #[] #[.pointer (some ⟨mb,0,none⟩)]] w fun e w'=>e=.returned (.bool (l.any fun o=>decide (o.name=nm)))∧Upd (fun _=>False) w w':=by
 have H:=Lib.hid (idxm_c (cap:=cap) hA hb hl hc);clear hb hc hA;obtain ⟨n,hn⟩:=eqx l.length;obtain ⟨B,hB⟩:=eqx (l.any fun o=>decide (o.name=nm));rw [hB,hn] at H;rw [hB,hn];clear hB hn hl;go_enter Tryz.func143,Tryz.ntmps143
 go_wp2_with fail
 refine H.out.mono ?_;rintro e w1 ⟨z,rfl,hz,hU⟩;have HU:=h2k hU hz;clear hU hz;go_wp2_with fail
 go_ret
 exact ⟨by rw [← HU.out.2];rfl,HU.out.1⟩
theorem mtsR_snoc (a l:List MtM) (m:MtM):mtsR a (l++[m])=(mtsR a l && (okName m.name && !((a++l).any fun o=>decide (o.name=m.name)))):=by
 induction l generalizing a with
 | nil=>simp [mtsR]
 | cons x r ih =>
   rw [List.cons_append];unfold mtsR;rw [ih];simp [Bool.and_assoc,List.append_assoc]
theorem mtsR_take {l:List MtM} {k:Nat} (hk:k<l.length) (h:mtsR [] (l.take k)=true):mtsR [] (l.take (k+1))=(okName l[k].name && !((l.take k).any fun o=>decide (o.name=l[k].name))):=by
 rw [List.take_succ_eq_append_getElem hk,mtsR_snoc,h];simp
theorem mtsR_false {l:List MtM} {k:Nat} (h:mtsR [] (l.take k)=false):mtsR [] l=false:=by
 have gen:∀(r a:List MtM),mtsR [] a=false→mtsR [] (a++r)=false:=by
  intro r;induction r with
  | nil=>intro a h;simpa using h
  | cons x r ih =>
    intro a h;have:a++x::r=(a++[x])++r:=by simp
    rw [this];refine ih _ ?_;rw [mtsR_snoc,h];rfl
 have:=gen (l.drop k) _ h;rwa [List.take_append_drop] at this
theorem pright_c {A:Option Addr} {cap b off:Nat} {l:List MtM} {w:World} (hA:0<l.length→A=some ⟨b,off,none⟩) (hb:∀w',Upd (fun _=>False) w w'→MtsAt w' b off l) (hl:l.length≤1000000) (hcap:l.length≤cap) (hs:∀m ∈ l,m.name.length≤1000000) :
 Calls Tryz.prog 84 #[.slice A l.length cap] w fun e w'=>e=.returned (.bool (okMounts l))∧Upd (fun _=>False) w w':=by
 obtain ⟨B,hB⟩:=eqx (okMounts l);rw [hB];have HB:=Lib.hid hb;have HS:=h2k hs hB;clear hb hs hB;go_enter Tryz.func84,Tryz.ntmps84
 go_wp2_with fail
 go_loopw [3,4,5,8] (fun _ _ _ i wr=>∃k:Nat,k≤l.length∧i=.int .i64 (k:Int)∧Upd (fun _=>False) w wr∧mtsR [] (l.take k)=true) (fun _ _ _ i _=>l.length - (intOf i).toNat)
 case atStart=>exact ⟨0,by omega,rfl,Upd.refl _ _,rfl⟩
 case round =>
  obtain ⟨k,hk,rfl,hU,hE⟩:=hrel;by_cases hlt:k<l.length
  ·obtain rfl:=hA (by omega)
   have hrow:=HB.out wr hU k hlt;have hnx:=mtsR_take hlt hE;have hbad:mtsR [] (l.take (k+1))=false→B=false:=fun h=>by
    rw [← HS.out.2];unfold okMounts;rw [mtsR_false h];rfl
   have hsz:=HS.out.1 _ (List.getElem_mem hlt);obtain ⟨o,ho⟩:=eqx (l[k]);rw [ho] at hrow hnx hsz;obtain ⟨P,hP⟩:=eqx (str o.name);have hrw:mtRow o=[.string P,.bool o.ship]:=by unfold mtRow;rw [hP]
   rw [hrw] at hrow;have hnm:=fun W=>named_c P (by rw [← hP,str_size];exact hsz) W
   rw [show P.data.toList=o.name by rw [← hP,str_list]] at hnm;obtain ⟨N,hN⟩:=eqx (okName o.name);rw [hN] at hnm hnx;have HR:=Lib.hid hrow;have HNM:=Lib.hid hnm;have HU:=Lib.hid hU;have HX:=h4k hnx hbad hP hE;have j1:(k:Int)<(l.length:Int):=by omega
   clear hrow hnx hbad hsz hrw hnm hU hE hP hN ho;obtain ⟨q,hq⟩:=eqx wr.heap.size;have HQ:=Lib.hid hq;go_upto_region 4 with (first
    | (refine wpList_load_mid rfl _ _ rfl b (off+k*2) rfl [.string P,.bool o.ship] _ HR.out Tryz.underlying46 rfl (by kernel_rfl) ?_))
   generalize hw5:World.alloc _ _=w5;have hB5:Blk w5 q 46 #[.string P,.bool o.ship]:=by rw [← hw5,← HQ.out];exact Blk.new wr _ _
   have hU5:Upd (fun _=>False) w w5:=by rw [← hw5];exact HU.out.alloc _
   have c0:=hB5.cell 0;have HU5:=h2k hU5 hB5;clear hU5 hB5 hw5 hq;have hhas:∀W,Upd (fun _=>False) w5 W→Calls Tryz.prog 143 #[.slice (some ⟨b,off,none⟩) k cap,.func (.func 141) #[] #[.pointer (some ⟨q,0,none⟩)]] W fun e w'=>e=.returned (.bool ((l.take k).any fun x=>decide (x.name=o.name)))∧Upd (fun _=>False) W w':=fun W hW=>by
    have:=hasm_c (A:=some ⟨b,off,none⟩) (cap:=cap) (b:=b) (off:=off) (mb:=q) (l:=l.take k) (w:=W) (nm:=o.name) (fun _=>rfl) (fun w' h=>(HB.out w' ((HU5.out.1.then hW (fun _ e=>e.elim)).then h (fun _ e=>e.elim))).take k) (by rw [List.length_take];omega)
     (fun w' h=>((HU5.out.2.upd hW (fun e=>e)).upd h (fun e=>e)).cell 0 |>.trans (by rw [HX.out.2.2.1];rfl))
    rw [List.length_take,Nat.min_eq_left hk] at this;exact this
   obtain ⟨T,hT⟩:=eqx ((l.take k).any fun x=>decide (x.name=o.name));rw [hT] at hhas;have hnx:=HX.out.1;rw [hT] at hnx;have HNX:=Lib.hid hnx;have HHAS:=Lib.hid hhas;have q1:(0:Int)≤(k:Int):=by omega
   have q2:(k:Int)≤(cap:Int):=by omega
   clear hhas hnx hT;go_wp2_with fail
   refine (HNM.out _).mono ?_;rintro e w6 ⟨rfl,rfl⟩;cases N
   ·obtain rfl:=HX.out.2.1 (by rw [HNX.out];rfl)
    go_wp2_with fail
    go_ret
    exact ⟨rfl,HU5.out.1⟩
   ·go_wp2_with fail
    refine (HHAS.out _ (Upd.refl _ _)).mono ?_;rintro e w7 ⟨rfl,hU7⟩;have HU7:=Lib.hid (HU5.out.1.then hU7 (fun _ e=>e.elim));clear hU7 c0;cases T
    ·go_wp2_with fail
     go_roundw
     case rel=>exact ⟨k+1,by omega,by go_num,HU7.out,by rw [HNX.out];rfl⟩
     case measure=>simp [intOf]<;>omega
    ·obtain rfl:=HX.out.2.1 (by rw [HNX.out];rfl)
     go_wp2_with fail
     go_ret
     exact ⟨rfl,HU7.out⟩
  ·obtain rfl:k=l.length:=by omega
   rw [List.take_length] at hE;have hB2:B=decide (1≤l.length∧l.length≤4):=by rw [← HS.out.2];unfold okMounts;rw [hE];rfl
   have HU:=h2k hU hB2;clear hU hE hB2 hk hlt;by_cases h1:(1:Int)≤(l.length:Int)
   ·by_cases h2:(l.length:Int)≤4
    ·obtain rfl:B=true:=by rw [HU.out.2];simp;omega
     go_wp2_with fail
     go_ret
     exact ⟨rfl,HU.out.1⟩
    ·obtain rfl:B=false:=by rw [HU.out.2];simp;omega
     go_wp2_with fail
     go_ret
     exact ⟨rfl,HU.out.1⟩
   ·obtain rfl:B=false:=by rw [HU.out.2];simp;omega
    go_wp2_with fail
    go_ret
    exact ⟨rfl,HU.out.1⟩
end
end Go.Proofs.YtbhjgfibhegddaaGreat
namespace Go.Proofs
open Go.Shelf
def Tryz.keysB_ren:Go.Shelf.Ren:=⟨fun | 7=>137 | 10=>193 | n=>n,fun | 23=>130 | 26=>9 | 3=>9 | 28=>232 | 0=>0 | 27=>231 | 33=>237 | 4=>4 | n=>n,fun | n=>n⟩
theorem Tryz.keysB:Go.Proofs.SlLaysZ.n7 Tryz.prog Tryz.keysB_ren := {
 mixed:=by kernel_rfl
 f7:=⟨Tryz.f137.name,by decide,Tryz.func137.trans (congrArg some (by kernel_rfl))⟩
 f10:=⟨Tryz.f193.name,by decide,Tryz.func193.trans (congrArg some (by kernel_rfl))⟩
 t0:=Tryz.underlying0
 a0:=Tryz.isAgg0
 z0:=Tryz.sizeOf0
 v0:=Tryz.zeroValue0
 t4:=Tryz.underlying4
 a4:=Tryz.isAgg4
 z4:=Tryz.sizeOf4
 v4:=Tryz.zeroValue4
 t23:=Tryz.underlying130
 a23:=Tryz.isAgg130
 z23:=Tryz.sizeOf130
 v23:=Tryz.zeroValue130
 t26:=Tryz.underlying9
 a26:=Tryz.isAgg9
 z26:=Tryz.sizeOf9
 v26:=Tryz.zeroValue9
 t27:=Tryz.underlying231
 a27:=Tryz.isAgg231
 z27:=Tryz.sizeOf231
 v27:=Tryz.zeroValue231
 t28:=Tryz.underlying232
 a28:=Tryz.isAgg232
 z28:=Tryz.sizeOf232
 v28:=Tryz.zeroValue232
 t33:=Tryz.underlying237
 a33:=Tryz.isAgg237
 z33:=Tryz.sizeOf237
 v33:=Tryz.zeroValue237 }
def Tryz.sortedB_ren:Go.Shelf.Ren:=⟨fun | 6=>136 | 8=>191 | 9=>192 | 11=>226 | 13=>197 | 12=>227 | 23=>237 | 24=>204 | 14=>254 | 15=>255 | 16=>256 | 17=>257 | 18=>258 | 19=>259 | 20=>260 | 21=>261 | 22=>262 | 25=>282 | 26=>264 | 27=>265 | 28=>283 | 29=>284 | 30=>285 | 31=>302 | n=>n,fun | 26=>9 | 28=>232 | 24=>147 | 0=>0 | 3=>3 | 37=>133 | 48=>113 | 50=>112 | 4=>4 | 40=>329 | 39=>328 | 45=>307 | 5=>5 | 9=>9 | 51=>352 | 55=>283 | 57=>373 | 58=>26 | 33=>237 | n=>n,fun | n=>n⟩
theorem Tryz.sortedB:Go.Proofs.SlLaysZ.n6 Tryz.prog Tryz.sortedB_ren := {
 mixed:=by kernel_rfl
 f6:=⟨Tryz.f136.name,by decide,Tryz.func136.trans (congrArg some (by kernel_rfl))⟩
 f8:=⟨Tryz.f191.name,by decide,Tryz.func191.trans (congrArg some (by kernel_rfl))⟩
 f11:=⟨Tryz.f226.name,by decide,Tryz.func226.trans (congrArg some (by kernel_rfl))⟩
 t0:=Tryz.underlying0
 a0:=Tryz.isAgg0
 z0:=Tryz.sizeOf0
 v0:=Tryz.zeroValue0
 t24:=Tryz.underlying147
 a24:=Tryz.isAgg147
 z24:=Tryz.sizeOf147
 v24:=Tryz.zeroValue147
 t26:=Tryz.underlying9
 a26:=Tryz.isAgg9
 z26:=Tryz.sizeOf9
 v26:=Tryz.zeroValue9
 t28:=Tryz.underlying232
 a28:=Tryz.isAgg232
 z28:=Tryz.sizeOf232
 v28:=Tryz.zeroValue232
 i26:=by kernel_rfl }
def Tryz.cloneB_ren:Go.Shelf.Ren:=⟨fun | 5=>82 | 7=>140 | n=>n,fun | 23=>130 | 25=>9 | 3=>9 | 4=>4 | 20=>20 | n=>n,fun | n=>n⟩
theorem Tryz.cloneB:Go.Proofs.SlLaysW.n5 Tryz.prog Tryz.cloneB_ren := {
 mixed:=by kernel_rfl
 f5:=⟨Tryz.f82.name,by decide,Tryz.func82.trans (congrArg some (by kernel_rfl))⟩
 f7:=Tryz.func140.trans (congrArg some (by kernel_rfl))
 t4:=Tryz.underlying4
 a4:=Tryz.isAgg4
 z4:=Tryz.sizeOf4
 v4:=Tryz.zeroValue4
 t20:=Tryz.underlying20
 a20:=Tryz.isAgg20
 z20:=Tryz.sizeOf20
 v20:=Tryz.zeroValue20
 t23:=Tryz.underlying130
 a23:=Tryz.isAgg130
 z23:=Tryz.sizeOf130
 v23:=Tryz.zeroValue130 }
end Go.Proofs
namespace Go.Proofs.YtbhjgfibhegddaaGreat
section
open Go Go.RowKit Go.Maps Go.Sort Go.Shelf Go.WideShapes
abbrev strKey:ByteArray→Value:=fun s=>Value.string s
theorem mapB_owns_s {w:World} {bm:Nat} {m:List (ByteArray × Value)} (hM:MapB strKey w bm m) (hk:∀p ∈ m,p.1.size≤1000) (hs:m.length≤5000) :
 ∃D0:DataW Unit,w.ownsMap Tryz.prog 9 noElem bm m.length D0∧(strKeys D0).Perm (m.map fun p=>p.1.data.toList)∧Maps.size D0=m.length:=by
 obtain ⟨es,clock,hb,hst,hm⟩:=hM;have hlen:es.toList.length=m.length:=by have:=congrArg List.length hm;simpa using this
 have hrd:∀x ∈ es.toList,∃a:ByteArray,x.key=strKey a∧Go.WideElems.rd Tryz.prog 9 noElem x=some (.string a.data.toList,.nil):=by
  intro x hx;obtain ⟨j,hj⟩:=List.getElem?_of_mem hx;obtain ⟨p,hp,h1,h2⟩:=at_place hm j x hj;refine ⟨p.1,h1,?_⟩;have hko:keyOf Tryz.prog 9 x.key=some (.string p.1.data.toList):=by rw [h1];exact Go.WideMaps.keyOf_string_mk Tryz.underlying9 (by have:=hk p (List.mem_of_getElem? hp);unfold maxLen;omega)
  unfold Go.WideElems.rd;rw [hko];rfl
 refine ⟨_,⟨es,clock,hb,⟨by unfold maxLen;simp at hlen;omega,hst,fun x hx=>?_⟩,by simp at hlen;omega,rfl⟩,?_,?_⟩
 ·obtain ⟨a,-,h⟩:=hrd x hx
  exact ⟨_,h⟩
 ·show List.Perm (((es.toList.map (Go.WideElems.rg Tryz.prog 9 noElem)).foldr DataW.insert []).map fun p=>strOf p.1) _
  refine ((sorted_perm _).map _).trans ?_;rw [List.map_map];have e1:es.toList.map ((fun p:Lit × DataW Unit=>strOf p.1) ∘ Go.WideElems.rg Tryz.prog 9 noElem)=es.toList.map ((fun v:Value=>match v with | .string a=>a.data.toList | _=>[]) ∘ fun e:MapEntry=>e.key):=by
   refine List.map_congr_left fun x hx=>?_
   obtain ⟨a,h1,h2⟩:=hrd x hx;simp only [Function.comp,Go.WideElems.rg_of h2,h1,strOf]
  rw [e1,← List.map_map,keys_of hm,List.map_map];have e2:m.map ((fun v:Value=>match v with | .string a=>a.data.toList | _=>[]) ∘ fun p:ByteArray × Value=>strKey p.1)=m.map fun p=>p.1.data.toList:=rfl
  rw [e2]
 ·show ((es.toList.map (Go.WideElems.rg Tryz.prog 9 noElem)).foldr DataW.insert []).length=m.length
  rw [(sorted_perm _).length_eq,List.length_map,hlen]
theorem sortsB (m:Nat):AnyZ.SortsIn Tryz.prog Tryz.sortedB_ren Fence.wide m :=
 ⟨fun blk off cap ss W hH hblk hsz=>callsIn_wide.2 (Tryz.slices_Sort_string blk off cap ss W hH hblk hsz),
  fun p cap W=>callsIn_wide.2 (Tryz.slices_Sort_string_none p cap W)⟩
theorem keys_s (mb:Option Nat) (W:World):Calls Tryz.prog 137 #[.map mb] W fun e w'=>e=.returned (.func (.func 193) #[] #[.pointer (some ⟨W.heap.size,0,none⟩)])∧w'=W.alloc (.cells #[.map mb] 130) :=
 (callsIn_wide (n:=5)).1 (AnyZ.keys_in Tryz.keysB Fence.wide 5 trivial rfl mb W)
theorem rises_sorted {S:List PairM} (h:Rises S):(S.map (·.1)).mergeSort Go.leB=S.map (·.1):=by
 refine List.mergeSort_of_pairwise ?_;refine List.pairwise_map.2 (h.imp fun {a b} hab=>?_);simp only [decide_eq_true_eq];exact List.le_of_lt hab
theorem sorted_s {w:World} {b:Nat} {m:List (ByteArray × Value)} {S:List PairM} (hM:MapB strKey w b m) (hH:HoldsP m S) (hS:Rises S) (hk:∀p ∈ S,p.1.length≤1000) (hs:S.length≤5000) :
 Calls Tryz.prog 136 #[.func (.func 193) #[] #[.pointer (some ⟨w.heap.size,0,none⟩)]] (w.alloc (.cells #[.map (some b)] 130)) fun e w'=>∃v,e=.returned v ∧
  w'.ownsRow (w.heap.size+1) 9 1 v S.length (strs (S.map fun p=>str p.1))∧Upd (fun _=>False) w w':=by
 have hml:m.length=S.length:=by have:=hH.length_eq;simpa using this
 have hmk:∀p ∈ m,p.1.size≤1000:=fun p hp=>by
  obtain ⟨q,hq,rfl⟩:=(hH.mem p).1 hp;show (str q.1).size≤_;rw [str_size];exact hk q hq
 obtain ⟨D0,hown,hperm,hsize⟩:=mapB_owns_s hM hmk (by omega);have hbl:=hown.lt;have hseq:SeqGives Fence.wide 2 Tryz.prog 193 #[.pointer (some ⟨w.heap.size,0,none⟩)] encStr (fun ss=>ss.Perm (strKeys D0)) (Maps.size D0) (w.alloc (.cells #[.map (some b)] 130)) :=
  AnyZ.keys_gives (ρ := Tryz.keysB_ren) { Tryz.keysB with } Fence.wide _ trivial rfl (by omega) w.heap.size b m.length D0 _ (by simp) (by simp) (by
   obtain ⟨es,clock,hb,Ft,hs,hD⟩:=hown;exact ⟨es,clock,(Below.heap_alloc _ _ b hbl).trans hb,Ft,hs,hD⟩)
 have cS:=AnyZ.sorted_in Tryz.sortedB Fence.wide 5 trivial trivial trivial trivial rfl (by omega) (sortsB _) (enters_of Tryz.func192 (by kernel_rfl) rfl) 193 #[.pointer (some ⟨w.heap.size,0,none⟩)] trivial (enters_of Tryz.func193 (by kernel_rfl) rfl) _ _ (by rw [hsize];unfold maxLen;omega) (by rw [hsize];omega) _ hseq;refine ((callsIn_wide (n:=5)).1 cS).mono ?_;rintro e w' ⟨v,ss,rfl,hS2,hrow,-,hb⟩;have hp:ss.Perm (S.map (·.1)):=by
  refine (hS2.trans hperm).trans ?_;have h1:=hH.map (fun p:ByteArray × Value=>p.1.data.toList);rw [List.map_map] at h1;have e3:S.map ((fun p:ByteArray × Value=>p.1.data.toList) ∘ encP)=S.map (·.1):=List.map_congr_left fun p _=>str_list p.1
  rw [e3] at h1;exact h1
 have hl:ss.length=S.length:=by have:=hp.length_eq;simpa using this
 rw [show (fun x y:List UInt8=>decide (x≤y))=Go.leB from rfl,mergeSort_of_perm hp,rises_sorted hS,hl] at hrow;refine ⟨v,rfl,?_,((Upd.refl _ w).alloc _).then (Upd.of_below hb (fun _=>False)) (fun _ e=>e.elim)⟩;have e1:(w.alloc (.cells #[.map (some b)] 130)).heap.size=w.heap.size+1:=by simp
 rw [e1] at hrow;have e2:(S.map (·.1)).map encStr=strs (S.map fun p=>str p.1):=by unfold strs;rw [List.map_map,List.map_map];rfl
 rw [e2] at hrow;exact hrow
theorem mclone_c {w:World} {b:Nat} {m:List (ByteArray × Value)} (hM:MapB strKey w b m) :
 Calls Tryz.prog 82 #[.map (some b)] w fun e w'=>e=.returned (.map (some w.heap.size))∧MapB strKey w' w.heap.size m∧Upd (fun _=>False) w w':=by
 obtain ⟨es,clock,hb,hst,hm⟩:=hM;refine (AnyW.maps_Clone Tryz.cloneB b es clock w hb).mono ?_;rintro e w' ⟨rfl,rfl⟩;exact ⟨rfl,⟨es,clock,(MapKept.heap_alloc w _).1,hst,hm⟩,(Upd.refl _ w).alloc _⟩
end
end Go.Proofs.YtbhjgfibhegddaaGreat
