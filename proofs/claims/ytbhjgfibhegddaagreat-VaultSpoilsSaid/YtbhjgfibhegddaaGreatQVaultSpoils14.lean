/-
  Parts of the proof of VaultSpoils: VaultN, PathB, IterS, OmapA, OmapB, OmapC, OmapD, Ring, Once.
-/
import Derived.Test.YtbhjgfibhegddaaGreatQVaultSpoils13
import Derived.Defers
import Derived.Ground.GgzProg
import Derived.Ground.SlmcProg
import Derived.Laws.LoneSync
import Derived.Laws.Pointers
import Derived.Lib.SlBytesConst
import Derived.RegionCalls
import Derived.RegionTactic
import Derived.Shelf.SlIter.Nil
import Derived.Shelf.SlMaps.Clone
import Derived.StillTailTactics
import Derived.StringKeys
import Derived.Test.YtbhjgfibhegddaaGreatProg
set_option maxRecDepth 100000
set_option maxHeartbeats 16000000
namespace Go.Proofs.YtbhjgfibhegddaaGreat
section
open Go Go.RowKit
structure VtG (d:Dk) (V:VtM) (S0:List PairM) (c:Nat):Prop where
 vdk:VDk d V.kp V.lg V.st S0 V.rows c
 rep:replL V.rows (S0,V.st.at_,V.st.epoch)=some (V.S,V.at_,V.epoch)
 prev:V.prev=V.st.epoch
 cur:V.cur=V.st.key
 num:V.n≤c
 up:V.down=false
 eps:∀b ∈ V.rows,b.epoch≤9223372036854775807
 boot:1≤V.st.boot
 gen:0<V.kp.gen
 mn:V.st.m.seen≤9223372036854775807∧V.st.m.grant≤9223372036854775807
section
variable {d:Dk} {V:VtM} {S0:List PairM} {c:Nat}
theorem VDk.mono {d:Dk} {k:Kp} {g:Lg} {s:StM} {S0:List PairM} {rows:List BatM} {c c':Nat} (h:VDk d k g s S0 rows c) (hc:c≤c'):VDk d k g s S0 rows c':=by
 have h1:=h.kseen;have h2:=h.gsalt;have h3:=h.logs;have h4:=h.keys;have h5:=h.boots;exact { h with kseen:=by omega,gsalt:=by omega,logs:=by omega,keys:=by omega,boots:=by omega }
theorem VtG.sealed (h:VtG d V S0 c) (hc:c<100000) (about text:List UInt8):Sealed V.st.key about text (V.wrap about text):=by
 have h1:=h.vdk.keys;have h2:=h.vdk.boots;have h3:=h.num;exact ⟨V.cur,V.st.boot,V.n,by rw [h.cur];exact Nat.le_refl _,by rw [h.cur];omega,oM,oM,rfl⟩
theorem VtG.sealed1 (h:VtG d V S0 c) (hc:c<100000) (about text:List UInt8):Sealed V.st.key about text (V.next.wrap about text):=by
 have h1:=h.vdk.keys;have h2:=h.vdk.boots;have h3:=h.num;exact ⟨V.cur,V.st.boot,V.n+1,by rw [h.cur];exact Nat.le_refl _,by rw [h.cur];omega,oM,oM,rfl⟩
theorem VtG.pairs (h:VtG d V S0 c):PairsOk V.S:=replL_ok h.vdk.pairs h.rep
theorem VtG.place (h:VtG d V S0 c):PlaceIs V.at_ V.epoch:=replL_place h.vdk.place h.eps h.rep
structure RvM where
 m:MetaM
 S:List PairM
 at_:Int
 epoch:Int
 rows:List BatM
 prev:Int
 key:Nat
def VtM.abs (V:VtM):RvM:=⟨V.st.m,V.S,V.at_,V.epoch,V.rows,V.prev,V.st.key⟩
def RvM.forgot (v:RvM):RvM := { v with rows:=[],prev:=v.epoch }
def commitR (v:RvM) (b:BatM):RvM × Int :=
 if batErr b.index b.epoch b.ops≠0 then (v,batErr b.index b.epoch b.ops) else
 if b.index≠v.at_+1∨b.epoch<v.epoch then (v,1) else
 if doE v.S b.ops≠0 then (v,doE v.S b.ops) else
 ({ (if 24≤v.rows.length then v.forgot else v) with rows:=(if 24≤v.rows.length then v.forgot else v).rows++[b],S:=doL v.S b.ops,at_:=b.index,epoch:=b.epoch },0)
def setR (v:RvM) (m:MetaM):RvM × Int:=if rightM m=false then (v,1) else ({ v with m:=m },0)
def installR (v:RvM) (m:MetaM) (l:List PairM) (at_ epoch:Int):RvM × Int :=
 if rightM m=false∨placeOk at_ epoch=false then (v,1) else if (ofP l).2≠0 then (v,(ofP l).2) else
 ({ v with m:=m,S:=(ofP l).1,at_:=at_,epoch:=epoch,rows:=[],prev:=epoch },0)
def rotateR (v:RvM):RvM × Int:=if 1048576≤v.key then (v,6) else ({ v with key:=v.key+1 },0)
theorem VtG.puts (h:VtG d V S0 c) (hc:c<99000) (m:MetaM) (hm:rightM m=true) (hm8:m.seen≤9223372036854775807∧m.grant≤9223372036854775807) (key:Nat) (h1:V.st.key≤key) (h2:key≤c+1) :
 ∃ D,putV d V { V.st with m:=m,key:=key } = (D,{ V.next with kp:=V.kp.put (stB { V.st with m:=m,key:=key } (V.wrap sSecret m.secret)),st := { V.st with m:=m,key:=key } },0) ∧
  VDk D (V.kp.put (stB { V.st with m:=m,key:=key } (V.wrap sSecret m.secret))) V.lg { V.st with m:=m,key:=key } S0 V.rows (c+1):=by
 obtain ⟨D,q1,q2⟩:=h.vdk.put oM { V.st with m:=m,key:=key } rfl rfl rfl rfl h1 h2 (by have:=h.vdk.boots;show V.st.boot≤_;omega) hm hm8 ((h.sealed oM sSecret m.secret).mono h1);refine ⟨D,?_,q2⟩;unfold putV;rw [show ({ V.st with m:=m,key:=key } : StM).m.secret=m.secret from rfl,q1,if_neg sM]
theorem VtG.set_ (h:VtG d V S0 c) (hc:c<99000) (m:MetaM) (hm8:m.seen≤9223372036854775807∧m.grant≤9223372036854775807) :
 ∃D V',setV d V m=(D,V',(setR V.abs m).2)∧VtG D V' S0 (c+1)∧V'.abs=(setR V.abs m).1∧V'.st.boot=V.st.boot:=by
 unfold setV setR offV;rw [h.up,h.vdk.good.off,if_neg sM];by_cases hr:rightM m=false
 ·rw [if_pos hr,if_pos hr]
  exact ⟨d,V,rfl,{ h with vdk:=h.vdk.mono oM,num:=by have:=h.num;omega },rfl,rfl⟩
 ·rw [if_neg hr,if_neg hr]
  obtain ⟨D,q1,q2⟩:=h.puts hc m (by simpa using hr) hm8 V.st.key (Nat.le_refl _) (oN h.vdk.keys);refine ⟨D,_,q1,⟨q2,h.rep,h.prev,h.cur,by have:=h.num;show V.n+1≤_;omega,h.up,h.eps,h.boot,by show 0<V.kp.seen+1;omega,hm8⟩,rfl,rfl⟩
theorem VtG.rotate (h:VtG d V S0 c) (hc:c<99000) :
 ∃D V',rotateV d V=(D,V',(rotateR V.abs).2)∧VtG D V' S0 (c+1)∧V'.abs=(rotateR V.abs).1∧V'.st.boot=V.st.boot:=by
 have hk:=h.vdk.keys;unfold rotateV rotateR offV;have hk1:¬1048576≤V.st.key:=oM;have hk2:¬1048576≤V.abs.key:=hk1;rw [h.up,h.vdk.good.off,if_neg sM,if_neg hk1,if_neg hk2];obtain ⟨D,q1,q2⟩:=h.puts hc V.st.m h.vdk.right h.mn (V.st.key+1) oM oM;simp only
 rw [show ({ V.st with key:=V.st.key+1 } : StM) = { V.st with m:=V.st.m,key:=V.st.key+1 } from rfl,q1,if_neg sM];exact ⟨D,_,rfl,⟨q2,h.rep,h.prev,by show V.cur+1=V.st.key+1;rw [h.cur],by have:=h.num;show V.n+1≤_;omega,h.up,h.eps,h.boot,by show 0<V.kp.seen+1;omega,h.mn⟩,rfl,rfl⟩
theorem VtG.whole (h:VtG d V S0 c) (hc:c<99000) (m:MetaM) (hm:rightM m=true) (hm8:m.seen≤9223372036854775807∧m.grant≤9223372036854775807) (x:List PairM) (hx:PairsOk x) (a e:Int) (hp:PlaceIs a e) :
 ∃D V',wholeV d V m x a e=(D,V',0)∧VtG D V' x (c+2)∧V'.abs = { V.abs with m:=m,S:=x,at_:=a,epoch:=e,rows:=[],prev:=e } ∧ V'.st.boot=V.st.boot:=by
 obtain ⟨D1,q1,q2,q3⟩:=h.vdk.slotw (V.wrap sMap (pairsB x)) (by have:=(h.sealed oM sMap (pairsB x)).len (oN (pairsB_len hx));unfold slotN;omega) (by
  have:=(h.sealed oM sMap (pairsB x)).len (oN (pairsB_len hx));have:=pairsB_len hx;exact slotN_le oM)
 obtain ⟨D,g',r1,r2,r3⟩:=q2.whole oM m x a e hm hm8 hx hp (h.sealed oM sMap (pairsB x)) q3 (h.sealed1 oM sSecret m.secret);have hput:putV D1 V.next (V.st.whole m a e)=(D,{ V.next.next with kp:=V.kp.put (stB (V.st.whole m a e) (V.next.wrap sSecret m.secret)),st:=V.st.whole m a e },0):=by
  unfold putV;rw [show (V.st.whole m a e).m.secret=m.secret from rfl,show V.next.kp=V.kp from rfl,r1,if_neg sM]
 refine ⟨D,{ V.next.next with kp:=V.kp.put (stB (V.st.whole m a e) (V.next.wrap sSecret m.secret)),st:=V.st.whole m a e,lg:=g',S:=x,at_:=a,epoch:=e,rows:=[],prev:=e },?_,⟨r3.mono oM,rfl,rfl,h.cur,by have:=h.num;show V.n+1+1≤_;omega,h.up,sM,h.boot,by show 0<V.kp.seen+1;omega,hm8⟩,rfl,rfl⟩;unfold wholeV;simp only
 rw [show (V.st.whole m a e).slot=1+V.st.slot % 2 from rfl,q1,if_neg sM];simp only
 rw [hput,if_neg sM];simp only
 rw [show (V.st.whole m a e).log=V.st.log+1 from rfl,r2]
theorem VtG.install (h:VtG d V S0 c) (hc:c<99000) (m:MetaM) (hm8:m.seen≤9223372036854775807∧m.grant≤9223372036854775807) (l:List PairM) (a e:Int) (he:e≤9223372036854775807) :
 ∃D V' S0',installV d V m l a e=(D,V',(installR V.abs m l a e).2)∧VtG D V' S0' (c+2)∧V'.abs=(installR V.abs m l a e).1∧V'.st.boot=V.st.boot:=by
 unfold installV installR offV;rw [h.up,h.vdk.good.off,if_neg sM];by_cases h1:rightM m=false∨placeOk a e=false
 ·rw [if_pos h1,if_pos h1]
  exact ⟨d,V,S0,rfl,{ h with vdk:=h.vdk.mono oM,num:=by have:=h.num;omega },rfl,rfl⟩
 ·rw [if_neg h1,if_neg h1]
  by_cases h2:(ofP l).2≠0
  ·rw [if_pos h2,if_pos h2]
   exact ⟨d,V,S0,rfl,{ h with vdk:=h.vdk.mono oM,num:=by have:=h.num;omega },rfl,rfl⟩
  ·rw [if_neg h2,if_neg h2]
   have hm:rightM m=true:=by
    cases hh:rightM m
    ·exact absurd (.inl hh) h1
    ·rfl
   have hp:PlaceIs a e:=by
    have:placeOk a e=true:=by
     cases hh:placeOk a e
     ·exact absurd (.inr hh) h1
     ·rfl
    unfold placeOk at this;simp only [Bool.or_eq_true,decide_eq_true_eq] at this;constructor<;>omega
   obtain ⟨D,V',q1,q2,q3,q4⟩:=h.whole hc m hm hm8 (ofP l).1 (ofP_ok oM) a e hp;exact ⟨D,V',_,q1,q2,q3,q4⟩
theorem VtG.add (h:VtG d V S0 c) (hc:c<99500) (b:BatM) (he:b.epoch≤9223372036854775807) (hr:V.rows.length<24) (h1:batErr b.index b.epoch b.ops=0) (h2:b.index=V.at_+1) (h3:V.epoch≤b.epoch) (h4:doE V.S b.ops=0) :
 ∃D V',addV d V b=(D,V',0)∧VtG D V' S0 (c+1)∧V'.abs = { V.abs with rows:=V.rows++[b],S:=doL V.S b.ops,at_:=b.index,epoch:=b.epoch } ∧ V'.st.boot=V.st.boot:=by
 have h48:(doL V.S b.ops).length≤48:=by
  unfold doE at h4;split at h4
  ·rename_i hh;exact absurd h4 hh
  ·split at h4
   ·simp at h4
   ·omega
 obtain ⟨D,q1,q2⟩:=h.vdk.add oM b h1 he hr (h.sealed oM sLog (batT b));refine ⟨D,{ V.next with lg:=V.lg.added (str (V.wrap sLog (batT b))),S:=doL V.S b.ops,rows:=V.rows++[b],at_:=b.index,epoch:=b.epoch },?_,⟨q2,?_,h.prev,h.cur,by have:=h.num;show V.n+1≤_;omega,h.up,?_,h.boot,h.gen,h.mn⟩,rfl,rfl⟩
 ·unfold addV
  simp only
  rw [q1,if_neg sM];rfl
 ·show replL (V.rows++[b]) (S0,V.st.at_,V.st.epoch)=some (doL V.S b.ops,b.index,b.epoch)
  rw [replL_snoc,h.rep];exact replL_one h1 h2 h3 h48
 ·intro x hx
  rcases List.mem_append.1 hx with hx | hx
  ·exact h.eps x hx
  ·rw [List.mem_singleton.1 hx];exact he
theorem VtG.commit (h:VtG d V S0 c) (hc:c<99000) (b:BatM) (he:b.epoch≤9223372036854775807) :
 ∃D V' S0',commitV d V b=(D,V',(commitR V.abs b).2)∧VtG D V' S0' (c+3)∧V'.abs=(commitR V.abs b).1∧V'.st.boot=V.st.boot:=by
 have same:VtG d V S0 (c+3) := { h with vdk:=h.vdk.mono oM,num:=by have:=h.num;omega };unfold commitV commitR offV;rw [h.up,h.vdk.good.off,if_neg sM];by_cases h1:batErr b.index b.epoch b.ops≠0
 ·rw [if_pos h1,if_pos h1]
  exact ⟨d,V,S0,rfl,same,rfl,rfl⟩
 rw [if_neg h1,if_neg h1];by_cases h2:b.index≠V.at_+1∨b.epoch<V.epoch
 ·rw [if_pos h2,if_pos (show b.index≠V.abs.at_+1∨b.epoch<V.abs.epoch from h2)]
  exact ⟨d,V,S0,rfl,same,rfl,rfl⟩
 rw [if_neg h2,if_neg (show ¬(b.index≠V.abs.at_+1∨b.epoch<V.abs.epoch) from h2)];by_cases h3:doE V.S b.ops≠0
 ·rw [if_pos h3,if_pos (show doE V.abs.S b.ops≠0 from h3)]
  exact ⟨d,V,S0,rfl,same,rfl,rfl⟩
 rw [if_neg h3,if_neg (show ¬doE V.abs.S b.ops≠0 from h3)];have e1:batErr b.index b.epoch b.ops=0:=oM;have e2:b.index=V.at_+1:=oM;have e3:V.epoch≤b.epoch:=oM;have e4:doE V.S b.ops=0:=oM;by_cases h4:24≤V.rows.length
 ·rw [if_pos h4,if_pos (show 24≤V.abs.rows.length from h4)]
  obtain ⟨D1,V1,q1,q2,q3,q4⟩:=h.whole hc V.st.m h.vdk.right h.mn V.S h.pairs V.at_ V.epoch h.place;have a1:V1.S=V.S:=congrArg RvM.S q3;have a2:V1.at_=V.at_:=congrArg RvM.at_ q3;have a3:V1.epoch=V.epoch:=congrArg RvM.epoch q3;have a4:V1.rows=[]:=congrArg RvM.rows q3;obtain ⟨D,V',r1,r2,r3,r4⟩:=q2.add oM b he (by rw [a4];decide) e1 (by rw [a2];exact e2) (by rw [a3];exact e3) (by rw [a1];exact e4);have s1:V'.S=doL V.S b.ops:=by rw [← a1];exact congrArg RvM.S r3
  refine ⟨D,V',V.S,?_,r2,?_,r4.trans q4⟩
  ·simp only [q1,r1]
   rw [if_neg sM,if_pos trivial];congr 1
   congr 1
   rw [← s1]
  ·rw [r3,q3,a4,a1]
   rfl
 ·rw [if_neg h4,if_neg (show ¬24≤V.abs.rows.length from h4)]
  obtain ⟨D,V',r1,r2,r3,r4⟩:=h.add oM b he oM e1 e2 e3 e4;exact ⟨D,V',S0,r1,{ r2 with vdk:=r2.vdk.mono oM,num:=by have:=r2.num;omega },r3,r4⟩
def VtM.again (V:VtM):VtM := { V with st := { V.st with boot:=V.st.boot+1 },n:=0,down:=false }
def openV (d:Dk) (V:VtM):Dk × VtM × Int:=putV d V.again V.again.st
theorem VDk.opens (h:VtG d V S0 c) (hc:c<99000) :
 ∃D V',openV d V=(D,V',0)∧VtG D V' S0 (c+1)∧V'.abs=V.abs∧V'.st.boot=V.st.boot+1:=by
 have h1:=h.vdk.keys;have h2:=h.vdk.boots;have h3:=h.num;obtain ⟨D,q1,q2⟩:=h.vdk.put oM { V.st with boot:=V.st.boot+1 } rfl rfl rfl rfl (Nat.le_refl _) (by show V.st.key≤_;omega) (by show V.st.boot+1≤_;omega) h.vdk.right h.mn
  (show Sealed V.st.key sSecret V.st.m.secret (V.again.wrap sSecret V.st.m.secret) from ⟨V.cur,V.st.boot+1,0,by rw [h.cur];exact Nat.le_refl _,by rw [h.cur];omega,oM,oM,rfl⟩)
 refine ⟨D,{ V.again.next with kp:=V.kp.put (stB { V.st with boot:=V.st.boot+1 } (V.again.wrap sSecret V.st.m.secret)),st := { V.st with boot:=V.st.boot+1 } },?_,⟨q2,h.rep,h.prev,h.cur,by show 0+1≤_;omega,rfl,h.eps,by show 1≤V.st.boot+1;omega,by show 0<V.kp.seen+1;omega,h.mn⟩,rfl,rfl⟩;unfold openV putV;rw [show V.again.kp=V.kp from rfl,show V.again.st = { V.st with boot:=V.st.boot+1 } from rfl];rw [show ({ V.st with boot:=V.st.boot+1 } : StM).m.secret=V.st.m.secret from rfl,q1,if_neg sM]
theorem VDk.crash {d:Dk} {k:Kp} {g:Lg} {s:StM} {S0:List PairM} {rows:List BatM} {c:Nat} (h:VDk d k g s S0 rows c) (hwf:d.wf) (keep:List Int):VDk (d.crash keep) k g s S0 rows c:=by
 have hg:=h.good;have hl:(d.crash keep).lasts.length=d.lasts.length:=Dk.crash_len' d keep;have hw:(d.crash keep).waits.length=(d.crash keep).lasts.length:=by rw [Dk.crash_waits',hl];exact hg.waits
 have hn:∀i,i<d.lasts.length→(d.crash keep).now i=d.now i:=fun i hi=>by
  rcases Dk.crash_in (d:=d) hg.waits keep (i:=i) hi with e | e
  ·rw [e,Dk.now_last hg.pend]
  ·rw [Dk.at_nil hg.pend] at e
   simp at e
 have hlen:=hg.len;obtain ⟨L0,L1,hk⟩:=h.kept;obtain ⟨rs,R,hlo,hep⟩:=h.log;have hkf:=h.kfrom;obtain ⟨g1,g2,g3⟩:=h.gplace;have hs2:=h.slots;refine { h with good:=⟨rfl,rfl,hw,by rw [hl];exact hlen,Dk.crash_pend hwf keep⟩,kept:=⟨L0,L1,hk.far rfl rfl hw hl fun i a b=>hn i oM⟩,log:=⟨rs,R,hlo.far rfl rfl hw hl fun i a b=>hn i oM,hep⟩,slot:=?_,sound:=fun i hi=>?_ }
 ·rcases h.slot with e | ⟨e1,u,e2,e3⟩
  ·exact .inl e
  ·refine .inr ⟨e1,u,e2,fun i hi=>?_⟩
   have hul2:=(e2.len (oN (pairsB_len h.pairs))).1;have:=pairsB_len h.pairs;have hn2:slotN u≤80:=slotN_le oM;rw [hn _ (by unfold placeN;omega)];exact e3 i hi
 ·rw [hn _ oM]
  exact h.sound i hi
theorem VtG.crash (h:VtG d V S0 c) (hwf:d.wf) (keep:List Int):VtG (d.crash keep) V S0 c := { h with vdk:=h.vdk.crash hwf keep }
def kp0:Kp:=⟨0,[],0,1,0,false⟩
def lgv0:Lg:=⟨20,320,1,[],0,0,0,false⟩
def V0:VtM:=⟨[],0,0,[],0,stM0,false,kp0,lgv0,0,0⟩
theorem fresh_lens (n:Nat):(Dk.fresh n).waits.length=(Dk.fresh n).lasts.length∧(Dk.fresh n).lasts.length=n:=by simp [Dk.fresh]
theorem VDk.fresh:VDk (Dk.fresh 500) kp0 lgv0 stM0 [] [] 0:=by
 refine ⟨⟨rfl,rfl,(fresh_lens _).1,(fresh_lens _).2,fresh_pend _⟩,⟨_,_,fresh_g 500 0 oM⟩,rfl,Nat.le_refl _,.inl ⟨rfl,rfl⟩,dC,by constructor<;>decide,dC,⟨[],_,fresh_log 500 20 320 1 oM oM oM oM,fun p hp=>?_⟩,⟨rfl,rfl,rfl⟩,dC,dC,rfl,fun i a=>by simp [lgv0] at a,dC,.inl ⟨rfl,rfl,rfl,rfl⟩,PairsOk.nil,fun i hi=>?_,dC,dC,dC⟩
 ·have hp2:some p ∈ List.replicate 320 (none:Option Lp):=hp
  have:=List.eq_of_mem_replicate hp2;simp at this
 ·exact .inl (fresh_now 500 (340+i) oM)
theorem VDk.first :
 ∃D V',openV (Dk.fresh 500) V0=(D,V',0)∧VtG D V' [] 1∧V'.abs=⟨metaM0,[],0,0,[],0,0⟩∧V'.st.boot=1:=by
 obtain ⟨D,q1,q2⟩:=VDk.fresh.put oM { stM0 with boot:=1 } rfl rfl rfl rfl (Nat.le_refl _) dC dC dC dC
  (show Sealed 0 sSecret [] (V0.again.wrap sSecret []) from ⟨0,1,0,oM,oM,oM,oM,rfl⟩)
 refine ⟨D,{ V0.again.next with kp:=kp0.put (stB { stM0 with boot:=1 } (V0.again.wrap sSecret [])),st := { stM0 with boot:=1 } },?_,⟨q2,rfl,rfl,rfl,dC,rfl,by simp [VtM.next,VtM.again,V0],dC,dC,dC⟩,rfl,rfl⟩;unfold openV putV;rw [show V0.again.kp=kp0 from rfl,show V0.again.st = { stM0 with boot:=1 } from rfl];rw [show ({ stM0 with boot:=1 } : StM).m.secret=[] from rfl,q1,if_neg sM]
end
def mtRow (m:MtM):List Value:=[.string (str m.name),.bool m.ship]
def MtsAt (w:World) (b off:Nat) (l:List MtM):Prop:=∀i (h:i<l.length),w.rangeAt b (off+i*2) (mtRow l[i])
theorem MtsAt.take {w:World} {b off:Nat} {l:List MtM} (h:MtsAt w b off l) (k:Nat):MtsAt w b off (l.take k):=fun i hi=>by
 rw [List.length_take] at hi;rw [List.getElem_take];exact h i oM
theorem rtwin_c (P N:ByteArray) (S:Bool) (mb:Nat) (w:World) (hc:w.cell? ⟨mb,0,none⟩=some (.string N)) :
 Calls Tryz.prog 141 #[.agg #[.string P,.bool S],.pointer (some ⟨mb,0,none⟩)] w fun e w'=>e=.returned (.bool (P.toList == N.toList))∧Upd (fun _=>False) w w':=by
 have hmb:w.heap.size≠mb:=by
  have:=World.block_lt_of_cell? _ _ hc;simp at this
  omega
 go_enter Tryz.func141,Tryz.ntmps141
 go_upto_region 1 with fail
 generalize hw2:World.alloc _ _=w2;obtain ⟨q,hq⟩:=eqx w.heap.size;rw [hq];have hU:Upd (fun _=>False) w w2:=by rw [← hw2];exact (Upd.refl _ w).alloc _
 have c0:w2.cell? ⟨q,0,none⟩=some (.string P):=by rw [← hw2,← hq];exact (Blk.new w _ _).cell 0
 have c1:w2.cell? ⟨mb,0,none⟩=some (.string N):=by
  rw [World.cell?_of_block (w:=w) (a:=⟨mb,0,none⟩) (hU.block mb (World.block_lt_of_cell? _ _ hc) (fun e=>e))];exact hc
 have HU:=Lib.hid hU;clear hw2 hU hc hq hmb;go_wp2_with fail
 go_ret
 exact ⟨rfl,HU.out⟩
theorem str_same (a b:List UInt8):((str a).toList == (str b).toList)=decide (a=b):=by
 rw [ByteArray.toList_eq,ByteArray.toList_eq,str_list,str_list];by_cases h:a=b<;>simp [h]
theorem idxm_c {A:Option Addr} {cap b off mb:Nat} {l:List MtM} {w:World} {nm:List UInt8} (hA:0<l.length→A=some ⟨b,off,none⟩) (hb:∀w',Upd (fun _=>False) w w'→MtsAt w' b off l) (hl:l.length≤1000000)
 (hc:∀w',Upd (fun _=>False) w w'→w'.cell? ⟨mb,0,none⟩=some (.string (str nm))) :
 Calls Tryz.prog 194 #[.slice A l.length cap,.func (.func 141) #[] #[.pointer (some ⟨mb,0,none⟩)]] w fun e w'=>∃z:Int,e=.returned (.int .i64 z)∧(decide (0≤z)=l.any fun o=>decide (o.name=nm))∧Upd (fun _=>False) w w':=by
 have HB:=Lib.hid hb;have HC:=Lib.hid hc;clear hb hc;go_enter Tryz.func194,Tryz.ntmps194
 go_wp2_with fail
 go_loopw [5,8] (fun _ i wr=>∃k:Nat,k≤l.length∧i=.int .i64 (k:Int)∧Upd (fun _=>False) w wr∧(l.take k).any (fun o=>decide (o.name=nm))=false) (fun _ i _=>l.length - (intOf i).toNat)
 case atStart=>exact ⟨0,oM,rfl,Upd.refl _ _,rfl⟩
 case round =>
  obtain ⟨k,hk,rfl,hU,hE⟩:=hrel;by_cases hlt:k<l.length
  ·obtain rfl:=hA oM
   have hrow:=HB.out wr hU k hlt;have htk:(l.take (k+1)).any (fun o=>decide (o.name=nm))=decide (l[k].name=nm):=by
    rw [List.take_succ_eq_append_getElem hlt,List.any_append,hE];simp
   have hfull:decide (l[k].name=nm)=true→l.any (fun o=>decide (o.name=nm))=true:=fun h=>List.any_eq_true.2 ⟨l[k],List.getElem_mem hlt,h⟩
   obtain ⟨o,ho⟩:=eqx (l[k]);rw [ho] at hrow htk hfull;rw [← str_same] at htk hfull;obtain ⟨P,hP⟩:=eqx (str o.name);obtain ⟨N,hN⟩:∃P,str nm=P:=⟨_,rfl⟩;have hcell:=HC.out wr hU;rw [hN] at hcell htk hfull;rw [hP] at htk hfull;have hrw:mtRow o=[.string P,.bool o.ship]:=by unfold mtRow;rw [hP]
   rw [hrw] at hrow;have hcl:=rtwin_c P N o.ship mb wr hcell;obtain ⟨B,hBB⟩:=eqx (P.toList == N.toList);rw [hBB] at hcl htk hfull;have HR:=Lib.hid hrow;have HCL:=Lib.hid hcl;have HU:=Lib.hid hU;have HT:=h2k htk hfull;have j1:(k:Int)<(l.length:Int):=oM;clear hrow htk hfull hcell hrw hcl hU hE hP hN ho hBB;go_wp2_with (first
    | (refine wpList_load_mid rfl _ _ rfl b (off+k*2) rfl [.string P,.bool o.ship] _ HR.out Tryz.underlying46 rfl kR ?_))
   refine HCL.out.mono ?_;rintro e w1 ⟨rfl,hU1⟩;have HU1:=Lib.hid (HU.out.then hU1 wz0);clear hU1;cases B
   ·go_wp2_with fail
    go_roundw
    case rel=>exact ⟨k+1,oM,by go_num,HU1.out,HT.out.1⟩
    case measure=>simp [intOf]<;>omega
   ·go_wp2_with fail
    go_ret
    exact ⟨_,rfl,by rw [HT.out.2 trivial];simp,HU1.out⟩
  ·obtain rfl:k=l.length:=oM
   rw [List.take_length] at hE;have HU:=h2k hU hE;clear hU hE;go_wp2_with fail
   go_ret
   exact ⟨-1,rfl,by rw [HU.out.2];rfl,HU.out.1⟩
theorem hasm_c {A:Option Addr} {cap b off mb:Nat} {l:List MtM} {w:World} {nm:List UInt8} (hA:0<l.length→A=some ⟨b,off,none⟩) (hb:∀w',Upd (fun _=>False) w w'→MtsAt w' b off l) (hl:l.length≤1000000)
 (hc:∀w',Upd (fun _=>False) w w'→w'.cell? ⟨mb,0,none⟩=some (.string (str nm))) :
 Calls Tryz.prog 143 #[.slice A l.length cap,.func (.func 141) #[] #[.pointer (some ⟨mb,0,none⟩)]] w fun e w'=>e=.returned (.bool (l.any fun o=>decide (o.name=nm)))∧Upd (fun _=>False) w w':=by
 have H:=Lib.hid (idxm_c (cap:=cap) hA hb hl hc);clear hb hc hA;obtain ⟨n,hn⟩:=eqx l.length;obtain ⟨B,hB⟩:=eqx (l.any fun o=>decide (o.name=nm));rw [hB,hn] at H;rw [hB,hn];clear hB hn hl;go_enter Tryz.func143,Tryz.ntmps143
 go_wp2_with fail
 refine H.out.mono ?_;rintro e w1 ⟨z,rfl,hz,hU⟩;have HU:=h2k hU hz;clear hU hz;go_wp2_with fail
 go_ret
 exact ⟨by rw [← HU.out.2];rfl,HU.out.1⟩
theorem mtsR_snoc (a l:List MtM) (m:MtM):mtsR a (l++[m])=(mtsR a l && (okName m.name && !((a++l).any fun o=>decide (o.name=m.name)))):=by
 induction l generalizing a with
 | nil=>simp [mtsR]
 | cons x r ih =>
   rw [List.cons_append];unfold mtsR;rw [ih];simp [Bool.and_assoc,List.append_assoc]
theorem mtsR_take {l:List MtM} {k:Nat} (hk:k<l.length) (h:mtsR [] (l.take k)=true):mtsR [] (l.take (k+1))=(okName l[k].name && !((l.take k).any fun o=>decide (o.name=l[k].name))):=by
 rw [List.take_succ_eq_append_getElem hk,mtsR_snoc,h];simp
theorem mtsR_false {l:List MtM} {k:Nat} (h:mtsR [] (l.take k)=false):mtsR [] l=false:=by
 have gen:∀(r a:List MtM),mtsR [] a=false→mtsR [] (a++r)=false:=by
  intro r;induction r with
  | nil=>intro a h;simpa using h
  | cons x r ih =>
    intro a h;have:a++x::r=(a++[x])++r:=by simp
    rw [this];refine ih _ ?_;rw [mtsR_snoc,h];rfl
 have:=gen (l.drop k) _ h;rwa [List.take_append_drop] at this
theorem pright_c {A:Option Addr} {cap b off:Nat} {l:List MtM} {w:World} (hA:0<l.length→A=some ⟨b,off,none⟩) (hb:∀w',Upd (fun _=>False) w w'→MtsAt w' b off l) (hl:l.length≤1000000) (hcap:l.length≤cap) (hs:∀m ∈ l,m.name.length≤1000000) :
 Calls Tryz.prog 84 #[.slice A l.length cap] w fun e w'=>e=.returned (.bool (okMounts l))∧Upd (fun _=>False) w w':=by
 obtain ⟨B,hB⟩:=eqx (okMounts l);rw [hB];have HB:=Lib.hid hb;have HS:=h2k hs hB;clear hb hs hB;go_enter Tryz.func84,Tryz.ntmps84
 go_wp2_with fail
 go_loopw [3,4,5,8] (fun _ _ _ i wr=>∃k:Nat,k≤l.length∧i=.int .i64 (k:Int)∧Upd (fun _=>False) w wr∧mtsR [] (l.take k)=true) (fun _ _ _ i _=>l.length - (intOf i).toNat)
 case atStart=>exact ⟨0,oM,rfl,Upd.refl _ _,rfl⟩
 case round =>
  obtain ⟨k,hk,rfl,hU,hE⟩:=hrel;by_cases hlt:k<l.length
  ·obtain rfl:=hA oM
   have hrow:=HB.out wr hU k hlt;have hnx:=mtsR_take hlt hE;have hbad:mtsR [] (l.take (k+1))=false→B=false:=fun h=>by
    rw [← HS.out.2];unfold okMounts;rw [mtsR_false h];rfl
   have hsz:=HS.out.1 _ (List.getElem_mem hlt);obtain ⟨o,ho⟩:=eqx (l[k]);rw [ho] at hrow hnx hsz;obtain ⟨P,hP⟩:=eqx (str o.name);have hrw:mtRow o=[.string P,.bool o.ship]:=by unfold mtRow;rw [hP]
   rw [hrw] at hrow;have hnm:=fun W=>named_c P (by rw [← hP,str_size];exact hsz) W
   rw [show P.data.toList=o.name by rw [← hP,str_list]] at hnm;obtain ⟨N,hN⟩:=eqx (okName o.name);rw [hN] at hnm hnx;have HR:=Lib.hid hrow;have HNM:=Lib.hid hnm;have HU:=Lib.hid hU;have HX:=h4k hnx hbad hP hE;have j1:(k:Int)<(l.length:Int):=oM;clear hrow hnx hbad hsz hrw hnm hU hE hP hN ho;obtain ⟨q,hq⟩:=eqx wr.heap.size;have HQ:=Lib.hid hq;go_upto_region 4 with (first
    | (refine wpList_load_mid rfl _ _ rfl b (off+k*2) rfl [.string P,.bool o.ship] _ HR.out Tryz.underlying46 rfl kR ?_))
   generalize hw5:World.alloc _ _=w5;have hB5:Blk w5 q 46 #[.string P,.bool o.ship]:=by rw [← hw5,← HQ.out];exact Blk.new wr _ _
   have hU5:Upd (fun _=>False) w w5:=by rw [← hw5];exact HU.out.alloc _
   have c0:=hB5.cell 0;have HU5:=h2k hU5 hB5;clear hU5 hB5 hw5 hq;have hhas:∀W,Upd (fun _=>False) w5 W→Calls Tryz.prog 143 #[.slice (some ⟨b,off,none⟩) k cap,.func (.func 141) #[] #[.pointer (some ⟨q,0,none⟩)]] W fun e w'=>e=.returned (.bool ((l.take k).any fun x=>decide (x.name=o.name)))∧Upd (fun _=>False) W w':=fun W hW=>by
    have:=hasm_c (A:=some ⟨b,off,none⟩) (cap:=cap) (b:=b) (off:=off) (mb:=q) (l:=l.take k) (w:=W) (nm:=o.name) (fun _=>rfl) (fun w' h=>(HB.out w' ((HU5.out.1.then hW wz0).then h wz0)).take k) (by rw [List.length_take];omega)
     (fun w' h=>((HU5.out.2.upd hW (fun e=>e)).upd h (fun e=>e)).cell 0 |>.trans (by rw [HX.out.2.2.1];rfl))
    rw [List.length_take,Nat.min_eq_left hk] at this;exact this
   obtain ⟨T,hT⟩:=eqx ((l.take k).any fun x=>decide (x.name=o.name));rw [hT] at hhas;have hnx:=HX.out.1;rw [hT] at hnx;have HNX:=Lib.hid hnx;have HHAS:=Lib.hid hhas;have q1:(0:Int)≤(k:Int):=oM;have q2:(k:Int)≤(cap:Int):=oM;clear hhas hnx hT;go_wp2_with fail
   refine (HNM.out _).mono ?_;rintro e w6 ⟨rfl,rfl⟩;cases N
   ·obtain rfl:=HX.out.2.1 (by rw [HNX.out];rfl)
    go_wp2_with fail
    go_ret
    exact ⟨rfl,HU5.out.1⟩
   ·go_wp2_with fail
    refine (HHAS.out _ (Upd.refl _ _)).mono ?_;rintro e w7 ⟨rfl,hU7⟩;have HU7:=Lib.hid (HU5.out.1.then hU7 wz0);clear hU7 c0;cases T
    ·go_wp2_with fail
     go_roundw
     case rel=>exact ⟨k+1,oM,by go_num,HU7.out,by rw [HNX.out];rfl⟩
     case measure=>simp [intOf]<;>omega
    ·obtain rfl:=HX.out.2.1 (by rw [HNX.out];rfl)
     go_wp2_with fail
     go_ret
     exact ⟨rfl,HU7.out⟩
  ·obtain rfl:k=l.length:=oM
   rw [List.take_length] at hE;have hB2:B=decide (1≤l.length∧l.length≤4):=by rw [← HS.out.2];unfold okMounts;rw [hE];rfl
   have HU:=h2k hU hB2;clear hU hE hB2 hk hlt;by_cases h1:(1:Int)≤(l.length:Int)
   ·by_cases h2:(l.length:Int)≤4
    ·obtain rfl:B=true:=by rw [HU.out.2];simp;omega
     go_wp2_with fail
     go_ret
     exact ⟨rfl,HU.out.1⟩
    ·obtain rfl:B=false:=by rw [HU.out.2];simp;omega
     go_wp2_with fail
     go_ret
     exact ⟨rfl,HU.out.1⟩
   ·obtain rfl:B=false:=by rw [HU.out.2];simp;omega
    go_wp2_with fail
    go_ret
    exact ⟨rfl,HU.out.1⟩
end
end Go.Proofs.YtbhjgfibhegddaaGreat
namespace Go.Proofs
open Go.Shelf
def Tryz.keysB_ren:Go.Shelf.Ren:=⟨fun | 7=>137 | 10=>193 | n=>n,fun | 23=>130 | 26=>9 | 3=>9 | 28=>232 | 0=>0 | 27=>231 | 33=>237 | 4=>4 | n=>n,fun | n=>n⟩
theorem Tryz.keysB:Go.Proofs.SlLaysZ.n7 Tryz.prog Tryz.keysB_ren := {
 mixed:=by kernel_rfl
 f7:=⟨Tryz.f137.name,by decide,Tryz.func137.trans (congrArg some (by kernel_rfl))⟩
 f10:=⟨Tryz.f193.name,by decide,Tryz.func193.trans (congrArg some (by kernel_rfl))⟩
 t0:=Tryz.underlying0
 a0:=Tryz.isAgg0
 z0:=Tryz.sizeOf0
 v0:=Tryz.zeroValue0
 t4:=Tryz.underlying4
 a4:=Tryz.isAgg4
 z4:=Tryz.sizeOf4
 v4:=Tryz.zeroValue4
 t23:=Tryz.underlying130
 a23:=Tryz.isAgg130
 z23:=Tryz.sizeOf130
 v23:=Tryz.zeroValue130
 t26:=Tryz.underlying9
 a26:=Tryz.isAgg9
 z26:=Tryz.sizeOf9
 v26:=Tryz.zeroValue9
 t27:=Tryz.underlying231
 a27:=Tryz.isAgg231
 z27:=Tryz.sizeOf231
 v27:=Tryz.zeroValue231
 t28:=Tryz.underlying232
 a28:=Tryz.isAgg232
 z28:=Tryz.sizeOf232
 v28:=Tryz.zeroValue232
 t33:=Tryz.underlying237
 a33:=Tryz.isAgg237
 z33:=Tryz.sizeOf237
 v33:=Tryz.zeroValue237 }
def Tryz.sortedB_ren:Go.Shelf.Ren:=⟨fun | 6=>136 | 8=>191 | 9=>192 | 11=>226 | 13=>197 | 12=>227 | 23=>237 | 24=>204 | 14=>254 | 15=>255 | 16=>256 | 17=>257 | 18=>258 | 19=>259 | 20=>260 | 21=>261 | 22=>262 | 25=>282 | 26=>264 | 27=>265 | 28=>283 | 29=>284 | 30=>285 | 31=>302 | n=>n,fun | 26=>9 | 28=>232 | 24=>147 | 0=>0 | 3=>3 | 37=>133 | 48=>113 | 50=>112 | 4=>4 | 40=>329 | 39=>328 | 45=>307 | 5=>5 | 9=>9 | 51=>352 | 55=>283 | 57=>373 | 58=>26 | 33=>237 | n=>n,fun | n=>n⟩
theorem Tryz.sortedB:Go.Proofs.SlLaysZ.n6 Tryz.prog Tryz.sortedB_ren := {
 mixed:=by kernel_rfl
 f6:=⟨Tryz.f136.name,by decide,Tryz.func136.trans (congrArg some (by kernel_rfl))⟩
 f8:=⟨Tryz.f191.name,by decide,Tryz.func191.trans (congrArg some (by kernel_rfl))⟩
 f11:=⟨Tryz.f226.name,by decide,Tryz.func226.trans (congrArg some (by kernel_rfl))⟩
 t0:=Tryz.underlying0
 a0:=Tryz.isAgg0
 z0:=Tryz.sizeOf0
 v0:=Tryz.zeroValue0
 t24:=Tryz.underlying147
 a24:=Tryz.isAgg147
 z24:=Tryz.sizeOf147
 v24:=Tryz.zeroValue147
 t26:=Tryz.underlying9
 a26:=Tryz.isAgg9
 z26:=Tryz.sizeOf9
 v26:=Tryz.zeroValue9
 t28:=Tryz.underlying232
 a28:=Tryz.isAgg232
 z28:=Tryz.sizeOf232
 v28:=Tryz.zeroValue232
 i26:=by kernel_rfl }
def Tryz.cloneB_ren:Go.Shelf.Ren:=⟨fun | 5=>82 | 7=>140 | n=>n,fun | 23=>130 | 25=>9 | 3=>9 | 4=>4 | 20=>20 | n=>n,fun | n=>n⟩
theorem Tryz.cloneB:Go.Proofs.SlLaysW.n5 Tryz.prog Tryz.cloneB_ren := {
 mixed:=by kernel_rfl
 f5:=⟨Tryz.f82.name,by decide,Tryz.func82.trans (congrArg some (by kernel_rfl))⟩
 f7:=Tryz.func140.trans (congrArg some (by kernel_rfl))
 t4:=Tryz.underlying4
 a4:=Tryz.isAgg4
 z4:=Tryz.sizeOf4
 v4:=Tryz.zeroValue4
 t20:=Tryz.underlying20
 a20:=Tryz.isAgg20
 z20:=Tryz.sizeOf20
 v20:=Tryz.zeroValue20
 t23:=Tryz.underlying130
 a23:=Tryz.isAgg130
 z23:=Tryz.sizeOf130
 v23:=Tryz.zeroValue130 }
end Go.Proofs
namespace Go.Proofs.YtbhjgfibhegddaaGreat
section
open Go Go.RowKit Go.Maps Go.Sort Go.Shelf Go.WideShapes
abbrev strKey:ByteArray→Value:=fun s=>Value.string s
theorem mapB_owns_s {w:World} {bm:Nat} {m:List (ByteArray × Value)} (hM:MapB strKey w bm m) (hk:∀p ∈ m,p.1.size≤1000) (hs:m.length≤5000) :
 ∃D0:DataW Unit,w.ownsMap Tryz.prog 9 noElem bm m.length D0∧(strKeys D0).Perm (m.map fun p=>p.1.data.toList)∧Maps.size D0=m.length:=by
 obtain ⟨es,clock,hb,hst,hm⟩:=hM;have hlen:es.toList.length=m.length:=by have:=congrArg List.length hm;simpa using this
 have hrd:∀x ∈ es.toList,∃a:ByteArray,x.key=strKey a∧Go.WideElems.rd Tryz.prog 9 noElem x=some (.string a.data.toList,.nil):=by
  intro x hx;obtain ⟨j,hj⟩:=List.getElem?_of_mem hx;obtain ⟨p,hp,h1,h2⟩:=at_place hm j x hj;refine ⟨p.1,h1,?_⟩;have hko:keyOf Tryz.prog 9 x.key=some (.string p.1.data.toList):=by rw [h1];exact Go.WideMaps.keyOf_string_mk Tryz.underlying9 (by have:=hk p (List.mem_of_getElem? hp);unfold maxLen;omega)
  unfold Go.WideElems.rd;rw [hko];rfl
 refine ⟨_,⟨es,clock,hb,⟨by unfold maxLen;simp at hlen;omega,hst,fun x hx=>?_⟩,by simp at hlen;omega,rfl⟩,?_,?_⟩
 ·obtain ⟨a,-,h⟩:=hrd x hx
  exact ⟨_,h⟩
 ·show List.Perm (((es.toList.map (Go.WideElems.rg Tryz.prog 9 noElem)).foldr DataW.insert []).map fun p=>strOf p.1) _
  refine ((sorted_perm _).map _).trans ?_;rw [List.map_map];have e1:es.toList.map ((fun p:Lit × DataW Unit=>strOf p.1) ∘ Go.WideElems.rg Tryz.prog 9 noElem)=es.toList.map ((fun v:Value=>match v with | .string a=>a.data.toList | _=>[]) ∘ fun e:MapEntry=>e.key):=by
   refine List.map_congr_left fun x hx=>?_
   obtain ⟨a,h1,h2⟩:=hrd x hx;simp only [Function.comp,Go.WideElems.rg_of h2,h1,strOf]
  rw [e1,← List.map_map,keys_of hm,List.map_map];have e2:m.map ((fun v:Value=>match v with | .string a=>a.data.toList | _=>[]) ∘ fun p:ByteArray × Value=>strKey p.1)=m.map fun p=>p.1.data.toList:=rfl
  rw [e2]
 ·show ((es.toList.map (Go.WideElems.rg Tryz.prog 9 noElem)).foldr DataW.insert []).length=m.length
  rw [(sorted_perm _).length_eq,List.length_map,hlen]
theorem sortsB (m:Nat):AnyZ.SortsIn Tryz.prog Tryz.sortedB_ren Fence.wide m :=
 ⟨fun blk off cap ss W hH hblk hsz=>callsIn_wide.2 (Tryz.slices_Sort_string blk off cap ss W hH hblk hsz),
  fun p cap W=>callsIn_wide.2 (Tryz.slices_Sort_string_none p cap W)⟩
theorem keys_s (mb:Option Nat) (W:World):Calls Tryz.prog 137 #[.map mb] W fun e w'=>e=.returned (.func (.func 193) #[] #[.pointer (some ⟨W.heap.size,0,none⟩)])∧w'=W.alloc (.cells #[.map mb] 130) :=
 (callsIn_wide (n:=5)).1 (AnyZ.keys_in Tryz.keysB Fence.wide 5 trivial rfl mb W)
theorem rises_sorted {S:List PairM} (h:Rises S):(S.map (·.1)).mergeSort Go.leB=S.map (·.1):=by
 refine List.mergeSort_of_pairwise ?_;refine List.pairwise_map.2 (h.imp fun {a b} hab=>?_);simp only [decide_eq_true_eq];exact List.le_of_lt hab
theorem sorted_s {w:World} {b:Nat} {m:List (ByteArray × Value)} {S:List PairM} (hM:MapB strKey w b m) (hH:HoldsP m S) (hS:Rises S) (hk:∀p ∈ S,p.1.length≤1000) (hs:S.length≤5000) :
 Calls Tryz.prog 136 #[.func (.func 193) #[] #[.pointer (some ⟨w.heap.size,0,none⟩)]] (w.alloc (.cells #[.map (some b)] 130)) fun e w'=>∃v,e=.returned v ∧
  w'.ownsRow (w.heap.size+1) 9 1 v S.length (strs (S.map fun p=>str p.1))∧Upd (fun _=>False) w w':=by
 have hml:m.length=S.length:=by have:=hH.length_eq;simpa using this
 have hmk:∀p ∈ m,p.1.size≤1000:=fun p hp=>by
  obtain ⟨q,hq,rfl⟩:=(hH.mem p).1 hp;show (str q.1).size≤_;rw [str_size];exact hk q hq
 obtain ⟨D0,hown,hperm,hsize⟩:=mapB_owns_s hM hmk oM;have hbl:=hown.lt;have hseq:SeqGives Fence.wide 2 Tryz.prog 193 #[.pointer (some ⟨w.heap.size,0,none⟩)] encStr (fun ss=>ss.Perm (strKeys D0)) (Maps.size D0) (w.alloc (.cells #[.map (some b)] 130)) :=
  AnyZ.keys_gives (ρ := Tryz.keysB_ren) { Tryz.keysB with } Fence.wide _ trivial rfl oM w.heap.size b m.length D0 _ sM sM (by
   obtain ⟨es,clock,hb,Ft,hs,hD⟩:=hown;exact ⟨es,clock,(Below.heap_alloc _ _ b hbl).trans hb,Ft,hs,hD⟩)
 have cS:=AnyZ.sorted_in Tryz.sortedB Fence.wide 5 trivial trivial trivial trivial rfl oM (sortsB _) (enters_of Tryz.func192 kR rfl) 193 #[.pointer (some ⟨w.heap.size,0,none⟩)] trivial (enters_of Tryz.func193 kR rfl) _ _ (by rw [hsize];unfold maxLen;omega) (by rw [hsize];omega) _ hseq;refine ((callsIn_wide (n:=5)).1 cS).mono ?_;rintro e w' ⟨v,ss,rfl,hS2,hrow,-,hb⟩;have hp:ss.Perm (S.map (·.1)):=by
  refine (hS2.trans hperm).trans ?_;have h1:=hH.map (fun p:ByteArray × Value=>p.1.data.toList);rw [List.map_map] at h1;have e3:S.map ((fun p:ByteArray × Value=>p.1.data.toList) ∘ encP)=S.map (·.1):=List.map_congr_left fun p _=>str_list p.1
  rw [e3] at h1;exact h1
 have hl:ss.length=S.length:=by have:=hp.length_eq;simpa using this
 rw [show (fun x y:List UInt8=>decide (x≤y))=Go.leB from rfl,mergeSort_of_perm hp,rises_sorted hS,hl] at hrow;refine ⟨v,rfl,?_,((Upd.refl _ w).alloc _).then (Upd.of_below hb (fun _=>False)) wz0⟩;have e1:(w.alloc (.cells #[.map (some b)] 130)).heap.size=w.heap.size+1:=by simp
 rw [e1] at hrow;have e2:(S.map (·.1)).map encStr=strs (S.map fun p=>str p.1):=by unfold strs;rw [List.map_map,List.map_map];rfl
 rw [e2] at hrow;exact hrow
theorem mclone_c {w:World} {b:Nat} {m:List (ByteArray × Value)} (hM:MapB strKey w b m) :
 Calls Tryz.prog 82 #[.map (some b)] w fun e w'=>e=.returned (.map (some w.heap.size))∧MapB strKey w' w.heap.size m∧Upd (fun _=>False) w w':=by
 obtain ⟨es,clock,hb,hst,hm⟩:=hM;refine (AnyW.maps_Clone Tryz.cloneB b es clock w hb).mono ?_;rintro e w' ⟨rfl,rfl⟩;exact ⟨rfl,⟨es,clock,(MapKept.heap_alloc w _).1,hst,hm⟩,(Upd.refl _ w).alloc _⟩
end
section
open Go Go.RowKit
structure MapAt (w:World) (m mb:Nat) (S:List PairM):Prop where
 blk:Blk w m 132 #[.map (some mb)]
 map:∃ents,MapB strKey w mb ents∧HoldsP ents S
 ok:PairsOk S
section
variable {w w':World} {m mb:Nat} {S:List PairM}
theorem MapAt.upd {F:Nat→Prop} (h:MapAt w m mb S) (hu:Upd F w w') (h1:¬F m) (h2:¬F mb):MapAt w' m mb S:=by
 obtain ⟨ents,e1,e2⟩:=h.map;exact ⟨h.blk.upd hu h1,⟨ents,e1.upd hu h2,e2⟩,h.ok⟩
theorem MapAt.still (h:MapAt w m mb S) (hu:Upd (fun _=>False) w w'):MapAt w' m mb S:=h.upd hu (fun e=>e) (fun e=>e)
theorem MapAt.lt (h:MapAt w m mb S):m<w.heap.size∧mb<w.heap.size:=by
 obtain ⟨ents,e1,e2⟩:=h.map;exact ⟨h.blk.lt,e1.lt⟩
theorem MapAt.each (h:MapAt w m mb S):∀p ∈ S,p.1.length≤33∧p.2.length≤32:=fun p hp=>⟨okPath_len (h.ok.each p hp).1,(h.ok.each p hp).2⟩
end
theorem onew_c (w:World):Calls Tryz.prog 64 #[] w fun e w'=>∃m mb,e=.returned (.pointer (some ⟨m,0,none⟩))∧MapAt w' m mb []∧w.heap.size≤m∧w.heap.size≤mb∧Upd (fun _=>False) w w':=by
 have hmm:=@run_makeMap Tryz.prog;go_enter Tryz.func64,Tryz.ntmps64
 go_wp2_with fail
 go_ret
 have hb:=Blk.new (w.alloc (.map #[] 0)) 132 #[.map (some w.heap.size)];rw [World.size_alloc] at hb;exact ⟨_,w.heap.size,rfl,⟨hb,⟨[],(MapB.new w).alloc _,List.Perm.refl _⟩,PairsOk.nil⟩,oM,Nat.le_refl _,((Upd.refl _ w).alloc _).alloc _⟩
theorem otwin_c {w:World} {m mb:Nat} {S:List PairM} (h:MapAt w m mb S):Calls Tryz.prog 55 #[.pointer (some ⟨m,0,none⟩)] w fun e w'=>∃m2 mb2,e=.returned (.pointer (some ⟨m2,0,none⟩))∧MapAt w' m2 mb2 S∧w.heap.size≤m2∧w.heap.size≤mb2∧Upd (fun _=>False) w w':=by
 obtain ⟨ents,e1,e2⟩:=h.map;have hcl:=mclone_c e1;have cm:=h.blk.cells1;have HCL:=Lib.hid hcl;have H:=h2k e2 h.ok;clear h e1 e2 hcl;go_enter Tryz.func55,Tryz.ntmps55
 go_wp2_with fail
 refine HCL.out.mono ?_;rintro e w1 ⟨rfl,hM,hU⟩;have HM:=h2k hM hU;clear hM hU;go_wp2_with fail
 go_ret
 refine ⟨_,w.heap.size,rfl,⟨Blk.new _ _ _,⟨ents,HM.out.1.alloc _,H.out.1⟩,H.out.2⟩,HM.out.2.size,Nat.le_refl _,HM.out.2.alloc _⟩
def getV (S:List PairM) (p:List UInt8):Value:=.tuple #[.string (str ((getP p S).getD [])),.bool (getP p S).isSome]
theorem oget_c {w:World} {m mb:Nat} {S:List PairM} (h:MapAt w m mb S) (p:ByteArray):Calls Tryz.prog 19 #[.pointer (some ⟨m,0,none⟩),.string p] w fun e w'=>e=.returned (getV S p.data.toList)∧w=w':=by
 obtain ⟨ents,e1,e2⟩:=h.map;have hz:(zeroValue 9).run Tryz.prog w=.ok (.string ByteArray.empty) w:=by simp [go_sem];rfl
 have hl:=e1.run_lookup (P:=Tryz.prog) keyStr Tryz.underlying130 Tryz.underlying9 p true hz;have hg:=e2.get_ e1.nodup h.ok.rises p.data.toList;rw [str_eta] at hg;rw [hg] at hl;have hv:(if true=true then Value.tuple #[(Option.map (fun v=>Value.string (str v)) (getP p.data.toList S)).getD (.string ByteArray.empty),.bool (Option.map (fun v=>Value.string (str v)) (getP p.data.toList S)).isSome] else (Option.map (fun v=>Value.string (str v)) (getP p.data.toList S)).getD (.string ByteArray.empty))=.tuple #[.string (str ((getP p.data.toList S).getD [])),.bool (getP p.data.toList S).isSome]:=by
  rw [if_pos rfl];cases getP p.data.toList S<;>rfl
 rw [hv] at hl;unfold getV;obtain ⟨V,hV⟩:=eqx (str ((getP p.data.toList S).getD []));obtain ⟨B,hB⟩:∃V,(getP p.data.toList S).isSome=V:=⟨_,rfl⟩;rw [hV,hB] at hl ⊢;have cm:=h.blk.cells1;clear h e1 e2 hz hg hv hV hB;go_enter Tryz.func19,Tryz.ntmps19
 go_wp2_with fail
 go_ret2
 exact ⟨rfl,rfl⟩
theorem Own.of_row {w:World} {base n size:Nat} {e:TypeId} {v:Value} {xs:List Value} (h:w.ownsRow base e size v n xs):Own w e size v n xs∧∀q,v.ownBlock=some q→base≤q:=by
 refine ⟨⟨h.1,?_⟩,?_⟩
 ·rcases h.2 with ⟨e1,e2⟩ | ⟨g,cap,cur,e1,e2,e3,e4,e5,e6,e7⟩
  ·exact .inl ⟨e1,e2⟩
  ·exact .inr ⟨g,cap,cur,(0,0),e1,e3,.inl rfl,e4,e5,e6,e7⟩
 ·intro q hq
  rcases h.2 with ⟨e1,e2⟩ | ⟨g,cap,cur,e1,e2,e3,e4,e5,e6,e7⟩
  ·rw [e1] at hq;simp [Value.ownBlock] at hq
  ·rw [e1] at hq
   have:g=q:=by simpa [Value.ownBlock] using hq
   omega
theorem opaths_c {w:World} {m mb:Nat} {S:List PairM} (h:MapAt w m mb S):Calls Tryz.prog 77 #[.pointer (some ⟨m,0,none⟩)] w fun e w'=>∃v,e=.returned v∧Own w' 9 1 v S.length (strs (S.map fun p=>str p.1))∧(∀q,v.ownBlock=some q→w.heap.size≤q)∧Upd (fun _=>False) w w':=by
 obtain ⟨ents,e1,e2⟩:=h.map;have hks:=keys_s (some mb) w;have hso:=sorted_s e1 e2 h.ok.rises (fun p hp=>by have:=h.each p hp;omega) (oN h.ok.len);have cm:=h.blk.cells1;have HK:=Lib.hid hks;have HS:=Lib.hid hso;clear h e1 e2 hks hso;go_enter Tryz.func77,Tryz.ntmps77
 go_wp2_with fail
 refine HK.out.mono ?_;rintro e w1 ⟨rfl,rfl⟩;go_wp2_with fail
 refine HS.out.mono ?_;rintro e w2 ⟨v,rfl,hrow,hU⟩;have H2:=h2k hrow hU;clear hrow hU;go_wp2_with fail
 go_ret
 obtain ⟨a,b⟩:=Own.of_row H2.out.1;exact ⟨_,rfl,a,fun q hq=>by have:=b q hq;omega,H2.out.2⟩
def pairRow (p:PairM):List Value:=[.string (str p.1),.string (str p.2)]
def pairsV (l:List PairM):List Value:=l.flatMap pairRow
theorem pairsV_snoc (l:List PairM) (p:PairM):pairsV (l++[p])=pairsV l++pairRow p:=by unfold pairsV;rw [List.flatMap_append];simp
theorem infoPair:(Tryz.prog.info? 55).map (fun i=>(i.zero,i.size,i.bytes))=some (some (.agg #[.string ByteArray.empty,.string ByteArray.empty]),2,32):=kR
theorem oall_c {w:World} {m mb:Nat} {S:List PairM} (h:MapAt w m mb S):Calls Tryz.prog 30 #[.pointer (some ⟨m,0,none⟩)] w fun e w'=>∃v,e=.returned v∧Own w' 55 2 v S.length (pairsV S)∧(∀q,v.ownBlock=some q→w.heap.size≤q)∧Upd (fun _=>False) w w':=by
 have HP:=Lib.hid (opaths_c h);have H:=Lib.hid h;have hS48:=h.ok.len;obtain ⟨ti,hi0,hz0,hz1,hz2⟩:=info_parts infoPair;have HI:=h4k hi0 hz0 hz1 hz2;clear h hi0 hz0 hz1 hz2;go_enter Tryz.func30,Tryz.ntmps30
 go_wp2_with fail
 refine HP.out.mono ?_;rintro e w1 ⟨v,rfl,hO,hv,hU⟩;obtain ⟨A,cap,rfl,-,-⟩:=hO.shape;have H1:=h3k hO hv hU;clear hU hO hv;go_wp2_with fail
 go_loopw [3,5,9] (fun x _ i wr=>∃k:Nat,k≤S.length∧i=.int .i64 (k:Int)∧Own wr 55 2 x k (pairsV (S.take k))∧(∀q,x.ownBlock=some q→w1.heap.size≤q)∧Upd (fun _=>False) w1 wr) (fun _ _ i _=>S.length - (intOf i).toNat)
 case atStart=>exact ⟨0,oM,rfl,Own.nil _ _ _,by simp [Value.ownBlock],Upd.refl _ _⟩
 case round =>
  obtain ⟨k,hk,rfl,hX,hx,hU⟩:=hrel;by_cases hlt:k<S.length
  ·obtain ⟨g,cp,hAe,-,-⟩:=H1.out.1.head oM
   injection hAe with hAe;subst hAe;have hcell:wr.cell? ⟨g,0+k,none⟩=some (.string (str S[k].1)):=by
    have h1:=(H1.out.1.upd hU (fun _ _ e=>e)).cellAt k oM;rw [Nat.zero_add,h1];simp [strs,hlt]
   obtain ⟨ents,e1,e2⟩:=H.out.map;have hUw:=H1.out.2.2.then hU wz0;have hM:=e1.upd hUw (fun e=>e);have hz:(zeroValue 9).run Tryz.prog wr=.ok (.string ByteArray.empty) wr:=by simp [go_sem];rfl
   have hl:=hM.run_lookup (P:=Tryz.prog) keyStr Tryz.underlying130 Tryz.underlying9 (str S[k].1) false hz;rw [e2.get_ e1.nodup H.out.ok.rises,find_key H.out.ok.rises (List.getElem_mem hlt)] at hl;have htk:pairsV (S.take (k+1))=pairsV (S.take k)++pairRow S[k]:=by rw [List.take_succ_eq_append_getElem hlt,pairsV_snoc]
   have cm:=(H.out.blk.upd hUw (fun e=>e)).cells1;obtain ⟨P,hP⟩:=eqx (str S[k].1);obtain ⟨V,hV⟩:∃P,str S[k].2=P:=⟨_,rfl⟩;have hpr:pairRow S[k]=[.string P,.string V]:=by unfold pairRow;rw [hP,hV]
   rw [hP] at hcell hl;rw [hpr] at htk;have hl2:(Instr.lookup 130 (.map (some mb)) (.string P) false).run Tryz.prog wr=.ok (.string V) wr:=by rw [← hV];exact hl
   rw [Nat.zero_add] at hcell;obtain ⟨A2,cap2,rfl,-,-⟩:=hX.shape;have j1:(k:Int)<(S.length:Int):=oM;have HX:=h4k hX hx hU htk;clear hX hx hU htk hM e1 e2 hz hl hpr hUw hP hV;go_wp2_with (first
    | (at_builtin;refine wpList_append_src rfl _ _ _ _ rfl 55 ti _ 2 32 Tryz.underlying56 HI.out.1 HI.out.2.1 HI.out.2.2.1 HI.out.2.2.2 rfl (.slice A2 k cap2) k _ rfl (HX.out.1.alloc _) _ 1 [_,_] rfl (Src.of_news Tryz.underlying56 _ rfl) (by simp [Value.oneCell']) (by unfold maxLen;omega) oM ?_;intro v2 w15 hO15 hU15 hl15 hs15
       have H15:=h4k hO15 hU15 hl15 hs15;clear hO15 hU15 hl15 hs15))
   go_roundw
   case rel =>
    have hw:=HX.out.2.2.1.size;refine ⟨v2,.string P,.int .i64 ((k:Int)+1),⟨k+1,oM,by go_num,?_,fun q hq=>?_,((HX.out.2.2.1.alloc _).then H15.out.2.1 (fun q e=>.inr (HX.out.2.1 q e)))⟩,rfl,rfl,rfl⟩
    ·rw [HX.out.2.2.2];exact H15.out.1
    ·rcases H15.out.2.2.1 with e | e
     ·exact HX.out.2.1 q (by rw [← e];exact hq)
     ·rw [hq] at e
      have:=Option.some.inj e;rw [World.size_alloc] at this;omega
   case measure=>simp [intOf]<;>omega
  ·obtain rfl:k=S.length:=oM
   rw [List.take_length] at hX;have HX:=h3k hX hx hU;clear hX hx hU;go_wp2_with fail
   go_ret
   exact ⟨_,rfl,HX.out.1,fun q hq=>by have:=HX.out.2.1 q hq;have:=H1.out.2.2.size;omega,H1.out.2.2.then HX.out.2.2 wz0⟩
theorem map_len_s {w:World} {b:Nat} {m:List (ByteArray × Value)} (h:MapB strKey w b m):(Builtin.len_ #[130] 3 #[.map (some b)]).run Tryz.prog w=.ok (.int .i64 (m.length:Int)) w:=by
 obtain ⟨es,clock,hb,-,hm⟩:=h;have hl:es.toList.length=m.length:=by have:=congrArg List.length hm;simpa using this
 have hl2:es.size=m.length:=by simpa using hl
 rw [run_len_map w _ _ _ es clock kR hb,hl2];first | rfl | simp [goInt]
structure DoEnd (w w':World) (m:Nat) (S:List PairM) (l:List OpM):Prop where
 no:doE S l≠0→Upd (fun _=>False) w w'
 yes:doE S l=0→∃mb',MapAt w' m mb' (doL S l)∧w.heap.size≤mb'∧Upd (· = m) w w'
theorem doL_take {S:List PairM} {l:List OpM} {k:Nat} (hk:k<l.length):doL S (l.take (k+1))=if l[k].kind=2 then delP l[k].path (doL S (l.take k)) else insP l[k].path l[k].value (doL S (l.take k)):=by
 rw [List.take_succ_eq_append_getElem hk];unfold doL;rw [List.foldl_append];rfl
theorem doL_rises {S:List PairM} (h:Rises S) (l:List OpM):Rises (doL S l):=by
 induction l generalizing S with
 | nil=>exact h
 | cons o r ih =>
   have e:doL S (o::r)=doL (if o.kind=2 then delP o.path S else insP o.path o.value S) r:=rfl;rw [e];refine ih ?_;split
   ·exact delP_rises h
   ·exact insP_rises h
theorem built_b11 (A:Option Addr) (n cap:Nat):Tryz.prog.built 35 [(0,.int .i64 1),(1,.int .i64 1),(2,.slice A n cap)]=some (batRow 1 1 (.slice A n cap)):=kR
theorem odo_c {w:World} {m mb:Nat} {S:List PairM} (h:MapAt w m mb S) {A:Option Addr} {cap b off:Nat} {l:List OpM} (hA:0<l.length→A=some ⟨b,off,none⟩) (hb:∀w',Upd (fun _=>False) w w'→OpsAt w' b off l) (hs:OpsSmall l) (hl:l.length≤1000000) :
 Calls Tryz.prog 36 #[.pointer (some ⟨m,0,none⟩),.slice A l.length cap] w fun e w'=>e=.returned (.int .i64 (doE S l))∧DoEnd w w' m S l:=by
 have hri:=bright_c (cap:=cap) (i:=1) (ep:=1) (w:=w) hA hb hs hl;by_cases hE0:batErr 1 1 l=0
 ·rw [hE0] at hri
  obtain ⟨-,-,-,b4,b5⟩:=batErr_zero hE0;have HE:Hid (doE S l=if 48<(doL S l).length then 6 else 0):=Lib.hid (by unfold doE;rw [if_neg (by simp [hE0])]);have HRI:=Lib.hid hri;have HB:=Lib.hid hb;have HX:=h2k hE0 b5;have H:=Lib.hid h;have l4:(l.length:Int)≤4:=oM;clear hri hb hs hE0 b4 b5 h;go_enter Tryz.func36,Tryz.ntmps36
  go_upto_region 6 with (first
   | (refine wpList_build_is rfl _ _ rfl [(0,.int .i64 1),(1,.int .i64 1),(2,.slice A l.length cap)] _ (by first | rfl | kernel_rfl) (built_b11 _ _ _) ?_)
   | (go_at_call 81
      refine HRI.out.mono ?_;rintro e w1 ⟨rfl,hU1⟩;have H1:=h2k (H.out.still hU1) hU1;clear hU1))
  obtain ⟨ents,e1,e2⟩:=H1.out.1.map;have hcl:=mclone_c e1;have cm:=H1.out.1.blk.cells1;have HCL:=h2k hcl e2;clear hcl e1 e2;obtain ⟨c,hc⟩:=eqx w1.heap.size;have HC:=Lib.hid hc;rw [hc] at HCL;have hmn:∀W:World,(binOp .eql 130 (.map (some c)) (.map none)).run Tryz.prog W=.ok (.bool false) W:=fun W=>by first | rfl | kernel_rfl | simp [binOp,Op.equal,run_underlying Tryz.underlying130]
  clear hc;go_wp2_with fail
  refine HCL.out.1.mono ?_;rintro e w2 ⟨rfl,hM2,hU2⟩;have H2:=h2k hM2 hU2;clear hM2 hU2 cm;have hmn2:=hmn w2;go_wp2_with fail
  go_loopw [8,27] (fun _ u wr=>∃(k:Nat) (es:List (ByteArray × Value)),k≤l.length∧u=.int .i64 (k:Int)∧MapB strKey wr c es∧HoldsP es (doL S (l.take k))∧Upd (· = c) w2 wr) (fun _ u _=>l.length - (intOf u).toNat)
  case atStart=>exact ⟨0,ents,oM,rfl,H2.out.1,HCL.out.2,Upd.refl _ _⟩
  case round =>
   obtain ⟨k,es,hk,rfl,hM,hH,hU⟩:=hrel;by_cases hlt:k<l.length
   ·obtain rfl:=hA oM
    have hcw:w.heap.size≤c:=by rw [← HC.out];exact H1.out.2.size
    have hUw:Upd (fun _=>False) w wr:=(H1.out.2.then H2.out.2 wz0).then hU (fun q e=>.inr (by have e2:q=c:=e;omega));have hrow:=HB.out wr hUw k hlt;have hoe:=HX.out.2 _ (List.getElem_mem hlt);have hst:=doL_take (S:=S) hlt;obtain ⟨o,ho⟩:=eqx (l[k]);rw [ho] at hrow hoe hst;obtain ⟨x1,-,-,-,-⟩:=opErr_zero hoe;obtain ⟨P,hP⟩:=eqx (str o.path);obtain ⟨V,hV⟩:∃P,str o.value=P:=⟨_,rfl⟩;obtain ⟨Kb,hKb⟩:∃K,o.kind=K:=⟨_,rfl⟩;have hrw:opRow o=[.int .u8 (Kb.toNat:Int),.string P,.string V]:=by unfold opRow;rw [hP,hV,hKb]
    rw [hrw] at hrow;rw [hKb] at x1 hst;have HR:=Lib.hid hrow;have HM:=h3k hM hH hU;have HS:=h3k hst hP hV;have HX1:=Lib.hid x1;have j1:(k:Int)<(l.length:Int):=oM;obtain ⟨g,hg⟩:=eqx wr.heap.size;have HG:=Lib.hid hg;clear hrow hM hH hU hst hP hV x1 hoe ho hKb hrw hUw hcw;rcases HX1.out with rfl | rfl
    ·go_upto_region 12 with (first
      | (refine wpList_load_mid rfl _ _ rfl b (off+k*3) rfl [.int .u8 1,.string P,.string V] _ HR.out Tryz.underlying32 rfl kR ?_))
     generalize hw5:World.alloc _ _=w5;have hB5:Blk w5 g 32 #[.int .u8 1,.string P,.string V]:=by rw [← hw5,← HG.out];exact Blk.new wr _ _
     have hM5:MapB strKey w5 c es:=by rw [← hw5];exact HM.out.1.alloc _
     have hU5:Upd (· = c) w2 w5:=by rw [← hw5];exact HM.out.2.2.alloc _
     obtain ⟨c0,c1,c2⟩:=hB5.cells3;have H5:=h2k hM5 hU5;clear hB5 hM5 hU5 hw5 hg;obtain ⟨w6,hrun6,hM6,hU6,hz6⟩:=H5.out.1.run_update (P:=Tryz.prog) keyStr Tryz.underlying130 Tryz.underlying9 P (.string V);have H6:=h2k hM6 (H5.out.2.then hU6 (fun _ e=>.inl e));clear hM6 hU6 hz6;have hHH:=HM.out.2.1.set_ HM.out.1.nodup (doL_rises H.out.ok.rises _) o.path o.value;rw [HS.out.2.1,HS.out.2.2] at hHH;have HHH:=Lib.hid hHH;clear hHH;go_wp2_with (first | (refine wpList_mapUpdate_run rfl _ _ _ _ rfl rfl rfl rfl hrun6 ?_))
     go_roundw
     case rel=>exact ⟨k+1,_,oM,by go_num,H6.out.1,by rw [HS.out.1,if_neg dC];exact HHH.out,H6.out.2⟩
     case measure=>simp [intOf]<;>omega
    ·go_upto_region 12 with (first
      | (refine wpList_load_mid rfl _ _ rfl b (off+k*3) rfl [.int .u8 2,.string P,.string V] _ HR.out Tryz.underlying32 rfl kR ?_))
     generalize hw5:World.alloc _ _=w5;have hB5:Blk w5 g 32 #[.int .u8 2,.string P,.string V]:=by rw [← hw5,← HG.out];exact Blk.new wr _ _
     have hM5:MapB strKey w5 c es:=by rw [← hw5];exact HM.out.1.alloc _
     have hU5:Upd (· = c) w2 w5:=by rw [← hw5];exact HM.out.2.2.alloc _
     obtain ⟨c0,c1,c2⟩:=hB5.cells3;have H5:=h2k hM5 hU5;clear hB5 hM5 hU5 hw5 hg;obtain ⟨w6,hrun6,hM6,hU6,hz6⟩:=H5.out.1.run_delete (P:=Tryz.prog) (ty:=0) keyStr Tryz.underlying130 Tryz.underlying9 P;have H6:=h2k hM6 (H5.out.2.then hU6 (fun _ e=>.inl e));clear hM6 hU6 hz6;have hHH:=HM.out.2.1.del_ o.path;rw [HS.out.2.1] at hHH;have HHH:=Lib.hid hHH;clear hHH;go_wp2_with (first | (refine wpList_delete_run rfl _ _ _ _ rfl rfl rfl hrun6 ?_))
     go_roundw
     case rel=>exact ⟨k+1,_,oM,by go_num,H6.out.1,by rw [HS.out.1,if_pos rfl];exact HHH.out,H6.out.2⟩
     case measure=>simp [intOf]<;>omega
   ·obtain rfl:k=l.length:=oM
    rw [List.take_length] at hH;have HM:=h3k hM hH hU;have hln:=map_len_s hM;have hle:es.length=(doL S l).length:=by have:=hH.length_eq;simpa using this
    rw [hle] at hln;have hok:=doL_ok (i:=1) (e:=1) H.out.ok HX.out.1;clear hM hH hU hlt hk;have HMB:=h2k hok hle;have HU2:Hid (Upd (fun _=>False) w1 wr):=Lib.hid (H2.out.2.then HM.out.2.2 (fun q e=>.inr (by have e2:q=c:=e;have:=HC.out;omega)));have HUw:Hid (Upd (fun _=>False) w wr):=Lib.hid (H1.out.2.then HU2.out wz0);clear hok hle;by_cases h48:(48:Int)<((doL S l).length:Int)
    ·have hE6:doE S l=6:=by rw [HE.out,if_pos oM]
     have HE6:=Lib.hid hE6;clear hE6;go_wp2_with fail
     go_ret
     exact ⟨by rw [HE6.out];rfl,fun _=>HUw.out,fun e=>by rw [HE6.out] at e;exact absurd e dC⟩
    ·have hE6:doE S l=0:=by rw [HE.out,if_neg oM]
     have HE6:=Lib.hid hE6;have hBm:=H1.out.1.blk.upd HU2.out (fun e=>e);have cm:=hBm.cells1;have fm:=hBm.frozen 0;have HBm:=Lib.hid hBm;clear hE6 hBm;go_wp2_with fail
     go_ret
     refine ⟨by rw [HE6.out];rfl,fun e=>absurd HE6.out e,fun _=>⟨c,⟨HBm.out.set_ 0 _,⟨es,HM.out.1.far ?_ _,HM.out.2.1⟩,HMB.out.1 oM⟩,by rw [← HC.out];exact H1.out.2.size,(HUw.out.mono (G:=(· = m)) wz0).setCell (p:=⟨m,0,none⟩) (.inl rfl) _⟩⟩;exact HM.out.1.ne_blk HBm.out
 ·have HRI:=Lib.hid hri
  have HE:Hid (doE S l=batErr 1 1 l):=Lib.hid (by unfold doE;rw [if_pos hE0]);obtain ⟨E,hE⟩:=eqx (batErr 1 1 l);rw [hE] at hE0 HRI HE;rw [HE.out];have k1:(E != 0)=true:=by simpa using hE0
  have HE0:=Lib.hid hE0;clear hri hb hs hE hE0 h;go_enter Tryz.func36,Tryz.ntmps36
  go_wp2_with (first
   | (refine wpList_build_is rfl _ _ rfl [(0,.int .i64 1),(1,.int .i64 1),(2,.slice A l.length cap)] _ (by first | rfl | kernel_rfl) (built_b11 _ _ _) ?_)
   | (go_at_call 81
      refine HRI.out.mono ?_;rintro e w1 ⟨rfl,hU1⟩;have H1:=Lib.hid hU1;clear hU1))
  go_ret
  exact ⟨rfl,fun _=>H1.out,fun e=>absurd (HE.out ▸ e) HE0.out⟩
def PairsAt (w:World) (b off:Nat) (l:List PairM):Prop:=∀i (h:i<l.length),w.rangeAt b (off+i*2) (pairRow l[i])
structure OfEnd (w w':World) (l:List PairM) (e:Ending):Prop where
 no:(ofP l).2≠0→e=.returned (.tuple #[.pointer none,.int .i64 (ofP l).2])
 yes:(ofP l).2=0→∃m mb,e=.returned (.tuple #[.pointer (some ⟨m,0,none⟩),.int .i64 0])∧MapAt w' m mb (ofP l).1∧w.heap.size≤m∧w.heap.size≤mb
 upd:Upd (fun _=>False) w w'
theorem ofL_bad {T r:List PairM} {p:PairM} (h:okPath p.1=false∨32<p.2.length):ofL T (p::r)=([],1):=by unfold ofL;rw [if_pos h]
theorem ofL_there {T r:List PairM} {p:PairM} (h:¬(okPath p.1=false∨32<p.2.length)) (h2:(getP p.1 T).isSome=true):ofL T (p::r)=([],5):=by unfold ofL;rw [if_neg h,if_pos h2]
theorem ofL_next {T r:List PairM} {p:PairM} (h:¬(okPath p.1=false∨32<p.2.length)) (h2:(getP p.1 T).isSome=false):ofL T (p::r)=ofL (insP p.1 p.2 T) r:=by
 conv=>lhs;unfold ofL
 rw [if_neg h,if_neg (by rw [h2];simp)]
theorem zz22 {P:Prop} (h:P:=by
 have HBAD:=Lib.hid (HP.out.2.2.2.2.symm.trans hbad);clear hbad;go_wp2_with fail
 go_ret2
 exact ⟨fun _=>by rw [HR.out.1,HBAD.out];rfl,fun e=>by rw [HR.out.1,HBAD.out] at e;exact absurd e dC,HM.out.2.2.2.2.then H6.out.2 wz0⟩):P:=h
theorem oof_c {w:World} {A:Option Addr} {cap b off:Nat} {l:List PairM} (hA:0<l.length→A=some ⟨b,off,none⟩) (hb:∀w',Upd (fun _=>False) w w'→PairsAt w' b off l) (hs:∀p ∈ l,p.1.length≤1000000∧p.2.length≤1000000) (hl:l.length≤1000000) :
 Calls Tryz.prog 75 #[.slice A l.length cap] w fun e w'=>OfEnd w w' l e:=by
 by_cases h48:(48:Int)<(l.length:Int)
 ·have hR:ofP l=([],6):=by unfold ofP;rw [if_pos oM]
  have HR:=Lib.hid hR;clear hb hs hA hR;go_enter Tryz.func75,Tryz.ntmps75
  go_wp2_with fail
  go_ret2
  exact ⟨fun _=>by rw [HR.out];rfl,fun e=>by rw [HR.out] at e;exact absurd e dC,Upd.refl _ _⟩
 ·have hR:ofP l=ofL [] l:=by unfold ofP;rw [if_neg oM]
  obtain ⟨R,hRR⟩:=eqx (ofL [] l);rw [hRR] at hR;have HR:=h2k hR hRR;have HB:=Lib.hid hb;have HS:=Lib.hid hs;have HNW:=Lib.hid (fun W=>onew_c W);clear hb hs hR hRR;go_enter Tryz.func75,Tryz.ntmps75
  go_wp2_with fail
  refine (HNW.out _).mono ?_;rintro e w1 ⟨m,mb,rfl,hM,hm,hmb,hU1⟩;have H1:=h4k hM hm hmb hU1;clear hM hm hmb hU1;go_wp2_with fail
  go_loopw [6,7,8,9,10,11,18] (fun _ _ _ _ _ _ u wr=>∃(k:Nat) (T:List PairM) (es:List (ByteArray × Value)),k≤l.length∧u=.int .i64 (k:Int)∧ofL T (l.drop k)=R∧Rises T∧MapB strKey wr mb es∧HoldsP es T∧Upd (· = mb) w1 wr) (fun _ _ _ _ _ _ u _=>l.length - (intOf u).toNat)
  case atStart =>
   obtain ⟨ents,e1,e2⟩:=H1.out.1.map;exact ⟨0,[],ents,oM,rfl,HR.out.2,List.Pairwise.nil,e1,e2,Upd.refl _ _⟩
  case round =>
   obtain ⟨k,T,es,hk,rfl,hE,hT,hM,hH,hU⟩:=hrel;have hUw:Upd (fun _=>False) w wr:=H1.out.2.2.2.then hU (fun q e=>.inr (by have e2:q=mb:=e;have:=H1.out.2.2.1;omega));have nbm:mb≠m:=by
    obtain ⟨ents,e1,e2⟩:=H1.out.1.map;exact e1.ne_blk H1.out.1.blk
   by_cases hlt:k<l.length
   ·obtain rfl:=hA oM
    have hrow:=HB.out wr hUw k hlt;have hsm:=HS.out _ (List.getElem_mem hlt);rw [List.drop_eq_getElem_cons hlt] at hE;obtain ⟨p,hp⟩:=eqx (l[k]);rw [hp] at hrow hsm hE;obtain ⟨P,hP⟩:=eqx (str p.1);obtain ⟨V,hV⟩:∃P,str p.2=P:=⟨_,rfl⟩;have hPl:P.data.toList=p.1:=by rw [← hP,str_list]
    have hVs:V.size=p.2.length:=by rw [← hV,str_size]
    have hrw:pairRow p=[.string P,.string V]:=by unfold pairRow;rw [hP,hV]
    rw [hrw] at hrow;have hcut:=fun W=>pcut_c P (by rw [← hP,str_size];exact hsm.1) W
    rw [hPl] at hcut;obtain ⟨ca,hca⟩:∃a,str (cutP p.1).1=a:=⟨_,rfl⟩;obtain ⟨cb,hcb⟩:∃a,str (cutP p.1).2.1=a:=⟨_,rfl⟩;obtain ⟨B,hB⟩:=eqx (okPath p.1);rw [hca,hcb,hB] at hcut;have HCUT:=Lib.hid hcut;have HRW:=Lib.hid hrow;have HM:=h5k hM hH hT hU hUw;have HP:=h5k hP hV hVs hB hE;have HN:=Lib.hid nbm;have j1:(k:Int)<(l.length:Int):=oM;obtain ⟨g,hg⟩:=eqx wr.heap.size;have HG:=Lib.hid hg;clear hrow hsm hE hP hV hPl hVs hrw hcut hca hcb hB hM hH hT hU hUw hp nbm;go_upto_region 7 with (first
     | (refine wpList_load_mid rfl _ _ rfl b (off+k*2) rfl [.string P,.string V] _ HRW.out Tryz.underlying55 rfl kR ?_))
    generalize hw5:World.alloc _ _=w5;have hB5:Blk w5 g 55 #[.string P,.string V]:=by rw [← hw5,← HG.out];exact Blk.new wr _ _
    have hU5:Upd (fun _=>False) wr w5:=by rw [← hw5];exact (Upd.refl _ wr).alloc _
    obtain ⟨c0,c1⟩:=hB5.cells2;have H5:=h2k hB5 hU5;clear hB5 hU5 hw5 hg;go_wp2_with fail
    refine (HCUT.out _).mono ?_;rintro e w6 ⟨rfl,hU6⟩;obtain ⟨c0,c1⟩:=(H5.out.1.upd hU6 (fun e=>e)).cells2;have hU56:=H5.out.2.then hU6 wz0;have H6:=h2k (H5.out.1.upd hU6 (fun e=>e)) hU56;clear hU6 hU56;cases B
    ·have hbad:=ofL_bad (T:=T) (r:=l.drop (k+1)) (p:=p) (.inl HP.out.2.2.2.1)
     exact zz22
    ·by_cases h32:(32:Int)<(V.size:Int)
     ·have hbad:=ofL_bad (T:=T) (r:=l.drop (k+1)) (p:=p) (.inr (oN HP.out.2.2.1))
      exact zz22
     ·have hgood:¬(okPath p.1=false∨32<p.2.length):=by
       have:=HP.out.2.2.1;rw [HP.out.2.2.2.1];simp
       omega
      have HGD:=Lib.hid hgood;have hM6:=HM.out.1.upd H6.out.2 (fun e=>e);have cm:=(H1.out.1.blk.upd (HM.out.2.2.2.1.then H6.out.2 wz0) (fun e=>HN.out e.symm)).cells1;have hz:∀W:World,(zeroValue 9).run Tryz.prog W=.ok (.string ByteArray.empty) W:=fun W=>by simp [go_sem];rfl
      have hlk:∀n,(Instr.lookup 130 (.map (some mb)) (.string P) true).run Tryz.prog (w6.drewN n)=.ok (.tuple #[((getP p.1 T).map fun v=>Value.string (str v)).getD (.string ByteArray.empty),.bool (getP p.1 T).isSome]) (w6.drewN n):=fun n=>by
       have h:=(hM6.upd ((Upd.refl (fun _=>False) w6).drewN n) (fun e=>e)).run_lookup (P:=Tryz.prog) keyStr Tryz.underlying130 Tryz.underlying9 P true (hz _);have hgt:=HM.out.2.1.get_ HM.out.1.nodup HM.out.2.2.1 p.1;rw [HP.out.1] at hgt;rw [hgt,if_pos rfl,Option.isSome_map] at h;exact h
      obtain ⟨GV,hGV⟩:∃G,((getP p.1 T).map fun v=>Value.string (str v)).getD (.string ByteArray.empty)=G:=⟨_,rfl⟩;obtain ⟨GB,hGB⟩:∃G,(getP p.1 T).isSome=G:=⟨_,rfl⟩;rw [hGV,hGB] at hlk;have HGB:=Lib.hid hGB;have HM6:=h2k hM6 hlk;clear hgood hM6 hz hlk hGV hGB;go_upto_region 10 with fail
      have hlk:=HM6.out.2;go_quiet (fail)
      go_upto_region 11 with fail
      have hM7:=HM6.out.1.upd ((Upd.refl (fun _=>False) w6).drewN nq) (fun e=>e);have hU7:=H6.out.2.drewN nq;have hB7:=H6.out.1.drewN nq;generalize hw7:World.drewN w6 nq=w7 at hM7 hU7 hB7 ⊢;have H7:=h3k hM7 hU7 hB7;clear hw7 hlk hM7 hU7 hB7 c0 c1 cm;cases GB
      ·have hnx:=ofL_next (T:=T) (r:=l.drop (k+1)) (p:=p) HGD.out HGB.out
       have hcm:=H1.out.1.blk.upd (HM.out.2.2.2.1.then H7.out.2.1 wz0) (fun e=>HN.out e.symm);have cm:=hcm.cells1;obtain ⟨c0,c1⟩:=H7.out.2.2.cells2;obtain ⟨w8,hrun8,hM8,hU8,hz8⟩:=(H7.out.1.drew).run_update (P:=Tryz.prog) keyStr Tryz.underlying130 Tryz.underlying9 P (.string V);have hH8:=HM.out.2.1.set_ HM.out.1.nodup HM.out.2.2.1 p.1 p.2;rw [HP.out.1,HP.out.2.1] at hH8;have H8:=h4k hM8 hH8 ((HM.out.2.2.2.1.then H7.out.2.1.drew wz0).then hU8 (fun _ e=>.inl e)) hnx;clear hnx hcm hM8 hU8 hz8 hH8;go_upto_region 13 with fail
       go_still_tail 8,kR
       change wpList _ _ _ _ _ w7.drew;go_wp2_with (first | (refine wpList_mapUpdate_run rfl _ _ _ _ rfl rfl rfl rfl hrun8 ?_))
       go_roundw
       case rel=>exact ⟨k+1,insP p.1 p.2 T,_,oM,by go_num,by rw [← H8.out.2.2.2];exact HP.out.2.2.2.2,insP_rises HM.out.2.2.1,H8.out.1,H8.out.2.1,H8.out.2.2.1⟩
       case measure=>simp [intOf]<;>omega
      ·have hth:=ofL_there (T:=T) (r:=l.drop (k+1)) (p:=p) HGD.out HGB.out
       have HTH:=Lib.hid (HP.out.2.2.2.2.symm.trans hth);clear hth;go_wp2_with fail
       go_ret2
       exact ⟨fun _=>by rw [HR.out.1,HTH.out];rfl,fun e=>by rw [HR.out.1,HTH.out] at e;exact absurd e dC,HM.out.2.2.2.2.then H7.out.2.1 wz0⟩
   ·obtain rfl:k=l.length:=oM
    rw [List.drop_of_length_le (Nat.le_refl _)] at hE;have hR2:R=(T,0):=by rw [← hE];rfl
    have HM:=h6k hM hH hU hUw hR2 nbm;clear hM hH hU hUw hE hR2 hlt hk nbm;go_wp2_with fail
    go_ret2
    refine ⟨fun e=>absurd (show (ofP l).2=0 by rw [HR.out.1,HM.out.2.2.2.2.1]) e,fun e=>⟨m,mb,rfl,⟨H1.out.1.blk.upd HM.out.2.2.1 (fun e=>HM.out.2.2.2.2.2 e.symm),⟨es,HM.out.1,?_⟩,ofP_ok e⟩,H1.out.2.1,H1.out.2.2.1⟩,HM.out.2.2.2.1⟩;rw [HR.out.1,HM.out.2.2.2.2.1];exact HM.out.2.1
theorem rkey_c (master:ByteArray) (i:Nat) (hi:i≤1048576) (hm:master.size≤64) (w:World) :
 Calls Tryz.prog 167 #[.string master,.int .i64 (i:Int)] w fun e w'=>e=.returned (.agg (arrB (ringK master.data.toList i)))∧Upd (fun _=>False) w w':=by
 obtain ⟨g,hg⟩:=eqx w.heap.size;have HG:=Lib.hid hg;have ei:IntKind.u64.wrap (i:Int)=(i:Int):=u64_wrap i oM;obtain ⟨B,hB⟩:=eqx (([114,105,110,103]:List UInt8)++beB i 8);have hBl:B.length=12:=by rw [← hB,List.length_append,beB_len];rfl
 obtain ⟨K,hK⟩:=eqx (tagL master.data.toList B);have hKl:K.length=32:=by rw [← hK];exact tagL_len _ _
 have hrk:ringK master.data.toList i=K:=by unfold ringK;rw [hB,hK]
 rw [hrk];have htg:=fun W=>tag_c master (str B) W hm (by rw [str_size];omega)
 rw [str_list,hK] at htg;have HTG:=Lib.hid htg;have HX:=h3k hB hKl hrk;clear hi hm hB hBl hK hKl hrk htg;go_enter Tryz.func167,Tryz.ntmps167
 go_upto_region 1 with (fail)
 generalize hw2:World.alloc _ _=w2;have hr2:Blk w2 g 194 (arrB (List.replicate 32 0)):=by rw [← hw2,← hg];exact Blk.new w _ _
 have hU2:Upd (fun _=>False) w w2:=by rw [← hw2];exact (Upd.refl _ w).alloc _
 have HW2:=h2k hr2 hU2;clear hr2 hU2 hw2 hg;obtain ⟨q,hq⟩:=eqx w2.heap.size;have HQ:=Lib.hid hq;have hcv:=Lib.run_convert_bytes_const (P:=Tryz.prog) w2 89 5 #[.int .u8 114,.int .u8 105,.int .u8 110,.int .u8 103] 4 4 Tryz.underlying89 Tryz.underlying5;rw [hq] at hcv;go_upto_region 2 with (first
  | (go_at_call 215
     generalize hw3:World.alloc _ _=w3;have ho3:Own w3 5 1 (.slice (some ⟨q,0,none⟩) 4 4) 4 (bytesV [114,105,110,103]):=by
      refine ⟨rfl,.inr ⟨q,4,#[.int .u8 114,.int .u8 105,.int .u8 110,.int .u8 103],(4,5),rfl,?_,.inr dC,dC,dC,rfl,rfl⟩⟩;rw [← hw3,← hq];exact heap_alloc_new w2 _
     have hu3:Upd (fun _=>False) w2 w3:=by rw [← hw3];exact (Upd.refl _ w2).alloc _
     refine (putBig_ring _ 4 _ i 8 w3 ho3 dC dC).mono ?_;rintro e w4 ⟨v4,rfl,ho4,hU4,hl4⟩;rw [← bytesV_app,HX.out.1] at ho4;have hu4:Upd (fun _=>False) w2 w4:=hu3.then hU4 (fun b hb=>.inr (by simp [Value.ownBlock] at hb;have:=HQ.out;omega));have HW4:=h3k ho4 (HW2.out.1.upd hu4 (fun e=>e)) (HW2.out.2.then hu4 wz0);clear hw3 ho3 hu3 hU4 hl4 hu4 hcv ho4 hq))
 have hcs:=run_to_string HW4.out.1;go_wp2_with (first
  | (go_at_call 212
     refine (HTG.out _).mono ?_;rintro e w5 ⟨rfl,hU5⟩;have HW5:=h2k (HW4.out.2.1.upd hU5 (fun e=>e)) (HW4.out.2.2.then hU5 wz0);clear hU5 hcs)
  | (refine wpList_store_all rfl 194 _ _ rfl g (arrB K) rfl rfl _ _ HW5.out.1 (by rw [arrB_size,arrB_size,HX.out.2.1];rfl) (arrB_one _) (by rw [arrB_size,HX.out.2.1];kernel_rfl) ?_
     intro w6 hB6 hU6 hz6))
 refine bodyPost_ret (results_cell_row rfl _ _ g _ _ _ _ rfl hB6 Tryz.underlying194 rfl (by rw [arrB_size,HX.out.2.1];kernel_rfl)) rfl ⟨rfl,HW5.out.2.then hU6 (fun b hb=>.inr (by have e2:b=g:=hb;have:=HG.out;omega))⟩
theorem aload_c (b off:Nat) (x:Int) (w:World) (hc:w.cell? ⟨b,off,none⟩=some (.int .u64 x)) :
 Calls Tryz.prog 106 #[.pointer (some ⟨b,off,none⟩)] w fun e w'=>e=.returned (.int .u64 x)∧w'=w:=by
 have hl:=run_call_load (P:=Tryz.prog) Tryz.func161 kR kR kR .u64 kR hc;go_enter Tryz.func106,Tryz.ntmps106
 go_wp2
 go_ret
 exact ⟨rfl,rfl⟩
theorem aadd_c (b off:Nat) (x:Nat) (hx:x<18446744073709551615) (w:World) (hc:w.cell? ⟨b,off,none⟩=some (.int .u64 (x:Int))) (hz:w.frozen? ⟨b,off,none⟩=false) :
 Calls Tryz.prog 110 #[.pointer (some ⟨b,off,none⟩),.int .u64 1] w fun e w'=>e=.returned (.int .u64 ((x+1:Nat):Int))∧w'=w.setCell ⟨b,off,none⟩ (.int .u64 ((x+1:Nat):Int)):=by
 have hw:=u64_wrap (x+1) oM;have hadd:=run_call_add (P:=Tryz.prog) Tryz.func169 kR kR kR .u64 kR (y:=1) (s:=((x+1:Nat):Int)) hc hz (by simp [go_sem];first | exact hw | (push_cast at hw ⊢;exact hw) | (simp at hw;exact hw));clear hw;go_enter Tryz.func110,Tryz.ntmps110
 go_wp2
 go_ret
 exact ⟨rfl,rfl⟩
theorem odisable (w:World):(callFunc 294 #[]).run Tryz.prog w=.ok (.value (.tuple #[])) w:=run_call_mark0 Tryz.func294 kR kR kR .disable kR w
theorem oenable (w:World):(callFunc 296 #[]).run Tryz.prog w=.ok (.value (.tuple #[])) w:=run_call_mark0 Tryz.func296 kR kR kR .enable kR w
theorem oacquire (a:Addr) (w:World):(callFunc 297 #[.pointer (some a)]).run Tryz.prog w=.ok (.value (.tuple #[])) w:=run_call_marked Tryz.func297 kR kR kR .acquire kR a w
theorem orelease (a:Addr) (w:World):(callFunc 299 #[.pointer (some a)]).run Tryz.prog w=.ok (.value (.tuple #[])) w:=run_call_marked Tryz.func299 kR kR kR .releaseMerge kR a w
theorem bload_c (a:Addr) (x:Bool) (w:World) (hc:w.cell? a=some (.int .u32 (if x then 1 else 0))) :
 Calls Tryz.prog 213 #[.pointer (some a)] w fun e w'=>e=.returned (.bool x)∧w'=w:=by
 have hl:=run_call_load (P:=Tryz.prog) Tryz.func250 kR kR kR .u32 kR hc;cases x
 ·go_enter Tryz.func213,Tryz.ntmps213
  go_wp2
  go_ret
  exact ⟨rfl,rfl⟩
 ·go_enter Tryz.func213,Tryz.ntmps213
  go_wp2
  go_ret
  exact ⟨rfl,rfl⟩
theorem bstore_d (a:Addr) (x:Value) (u:FrameMode) (w:World) (hc:w.cell? a=some x) (hz:w.frozen? a=false) :
 CallsD Tryz.prog 253 #[.pointer (some a),.bool true] u w fun e u' w'=>u'=u∧(e=.returned (.tuple #[])∧w'=w.drew.setCell a (.int .u32 1)):=by
 have hc':w.drew.cell? a=some x:=by go_simp
 have hz':w.drew.frozen? a=false:=by go_simp
 have hst:=run_call_store (P:=Tryz.prog) Tryz.func280 kR kR kR kR (k:=.u32) (y:=1) hc' hz';go_enter_d Tryz.func253,Tryz.ntmps253
 go_wp2
 go_region_calls
 all_goals (go_end0;exact ⟨rfl,rfl⟩)
theorem ounlock_d (a:Addr) (u:FrameMode) (w:World) (hc:w.cell? a=some (.int .i32 1)) (hz:w.frozen? a=false) :
 CallsD Tryz.prog 252 #[.pointer (some a)] u w fun e u' w'=>u'=u∧(e=.returned (.tuple #[])∧w'=w.setCell a (.int .i32 0)):=by
 have hd:=odisable;have he:=oenable;have hr:=orelease;have hadd:=run_call_add (P:=Tryz.prog) Tryz.func300 kR kR kR .i32 kR (y:=-1) (s:=0) hc hz (by simp [go_sem];rfl)
 have hcv:=run_convert_to_unsafe (P:=Tryz.prog) (src:=385) (dst:=296) Tryz.underlying385 Tryz.underlying296 kR hc;go_enter_d Tryz.func252,Tryz.ntmps252
 go_wp2
 go_end0
 go_wp2
 go_end0
 exact ⟨rfl,rfl⟩
theorem olock_c (a:Addr) (w:World) (hc:w.cell? a=some (.int .i32 0)) (hz:w.frozen? a=false) :
 Calls Tryz.prog 251 #[.pointer (some a)] w fun e w'=>e=.returned (.tuple #[])∧w'=w.setCell a (.int .i32 1):=by
 have hd:=odisable;have he:=oenable;have ha:=oacquire;have hcas:=run_call_cas_hit (P:=Tryz.prog) Tryz.func295 kR kR kR .i32 kR (y:=1) hc hz;have hc':(w.setCell a (.int .i32 1)).cell? a=some (.int .i32 1):=World.cell?_setCell_same w a _ hc;have hcv:=run_convert_to_unsafe (P:=Tryz.prog) (src:=385) (dst:=296) Tryz.underlying385 Tryz.underlying296 kR hc';go_enter Tryz.func251,Tryz.ntmps251
 go_wp2
 first | go_end0 | (simp only [Exit.inBlock,Exit.then];refine bodyPost_ret (results_none rfl _ _ _) rfl ?_) | refine bodyPost_ret (results_none rfl _ _ _) rfl ?_
 go_wp2
 go_end0
 exact ⟨rfl,rfl⟩
end
end Go.Proofs.YtbhjgfibhegddaaGreat
