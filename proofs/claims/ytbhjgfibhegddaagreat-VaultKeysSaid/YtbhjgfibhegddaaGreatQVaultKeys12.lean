/-
  Parts of the proof of VaultKeys: LogOpen, LawA, LogLaw, Rep, LawB, Keys, Free, LawW, Acts.
-/
import Derived.ChangeAt2
import Derived.Test.YtbhjgfibhegddaaGreatQVaultKeys11
import Derived.ChangeSame
import Derived.Deep.Fields
import Derived.Deep.Slices
import Derived.Outline
import Derived.Shelf.SlIterI.Nil
import Derived.Shelf.SortM.Plain
import Derived.Shelf.SortM.SortNone
set_option maxRecDepth 100000
set_option maxHeartbeats 16000000
namespace Go.Proofs.YtbhjgfibhegddaaGreat
section
open Go Go.RowKit
structure ScanSt where
 l:List Lp
 row:Bool
 salt:Nat
 bad:Bool
def scanStep (st:ScanSt) (s:List UInt8):ScanSt :=
 if st.bad then st else
 if (lookL s).2=2 then { st with bad:=true } else
 if (lookL s).2=1 then
  { l:=if st.row && (readG (lookL s).1).2 then st.l++[(readG (lookL s).1).1] else st.l,row:=st.row && (readG (lookL s).1).2,salt:=max st.salt (readG (lookL s).1).1.salt,bad:=false }
 else { st with row:=false }
def scanAt (d:Dk) (a:Nat) (k:Nat):ScanSt:=((List.range k).map fun i=>(d.now (a+i)).data.toList).foldl scanStep ⟨[],true,0,false⟩
theorem scanAt_succ (d:Dk) (a k:Nat):scanAt d a (k+1)=scanStep (scanAt d a k) (d.now (a+k)).data.toList:=by
 simp [scanAt,List.range_succ]
theorem scanAt_bad (d:Dk) (a k m:Nat) (h:k≤m) (hb:(scanAt d a k).bad=true):scanAt d a m=scanAt d a k:=by
 induction m with
 | zero => obtain rfl:k=0:=by omega
           rfl
 | succ m ih =>
   by_cases hk:k=m+1
   ·rw [hk]
   ·rw [scanAt_succ,ih (by omega),scanStep,if_pos hb]
theorem scanAt_len (d:Dk) (a k:Nat):(scanAt d a k).l.length≤k:=by
 induction k with
 | zero=>simp [scanAt]
 | succ k ih =>
   rw [scanAt_succ,scanStep];split
   ·omega
   ·split
    ·simp only;omega
    ·split
     ·simp only
      split
      ·simp;omega
      ·omega
     ·simp only;omega
theorem leN_lt8 (l:List UInt8):leN (l.take 8)<18446744073709551616:=by
 have h:=leN_lt (l.take 8);have h8:(l.take 8).length≤8:=by rw [List.length_take];omega
 have h2:2 ^ (8*(l.take 8).length)≤2 ^ 64:=Nat.pow_le_pow_right (by decide) (by omega);have h3:(2:Nat) ^ 64=18446744073709551616:=by decide
 omega
theorem readG_ok (b:List UInt8):(readG b).1.text.length≤32∧(readG b).1.all<256∧(readG b).1.salt<18446744073709551616:=by
 have h8:=leN_lt8 (b.drop 8);have h25:=(b.getD 25 0).toNat_lt;unfold readG;split
 ·exact ⟨by simp,h25,h8⟩
 ·refine ⟨?_,h25,h8⟩
  simp only [List.length_take];omega
theorem scanAt_ok (d:Dk) (a k:Nat):(∀q ∈ (scanAt d a k).l,q.text.length≤32∧q.all<256∧q.salt<18446744073709551616)∧(scanAt d a k).salt<18446744073709551616:=by
 induction k with
 | zero=>simp [scanAt]
 | succ k ih =>
   rw [scanAt_succ,scanStep];split
   ·exact ih
   ·split
    ·exact ih
    ·split
     ·have h:=readG_ok (lookL (d.now (a+k)).data.toList).1
      refine ⟨?_,?_⟩
      ·simp only
       split
       ·intro q hq
        rcases List.mem_append.1 hq with hq | hq
        ·exact ih.1 q hq
        ·rw [List.mem_singleton.1 hq];exact h
       ·exact ih.1
      ·simp only
       have:=h.2.2;have:=ih.2;omega
     ·exact ih
def loopG:Nat→Lg→List Lp→Lg
 | 0,g,_=>g
 | n + 1,g,row =>
   if (firstG g.epoch g.last row).2 then
    loopG n { g with l:=g.l++[str (firstG g.epoch g.last row).1],last:=(row.headD ⟨0,0,0,0,0,[]⟩).salt,used:=g.used+partsOf (firstG g.epoch g.last row).1.length } (row.drop (partsOf (firstG g.epoch g.last row).1.length))
   else g
def openG (d:Dk) (f n e:Nat):Option Lg :=
 if (scanAt d f n).bad then none else
 some (loopG ((scanAt d f n).l.length+1) ⟨f,n,e,[],0,0,(scanAt d f n).salt,false⟩ (scanAt d f n).l)
structure ScanLeft (w w':World) (p b f n e:Nat) (v:Value) (st:ScanSt):Prop where
 list:Own w' 204 6 v st.l.length (partsG st.l)
 new:∀q,v.ownBlock=some q→w.heap.size≤q
 log:Blk w' b 199 (Lg.cells p (.slice none 0 0) ⟨f,n,e,[],0,0,st.salt,false⟩)
 upd:Upd (fun _=>False) w w'
 nb:w.heap.size≤b
section
variable {w w1 w2:World} {p b f n e:Nat} {v v2:Value} {st:ScanSt}
theorem ScanLeft.below (h:ScanLeft w w1 p b f n e v st) (hb:Below w1.heap.size w1 w2):ScanLeft w w2 p b f n e v st :=
 ⟨h.list.eqb fun q hq=>hb.block q (h.list.lt hq),h.new,h.log.eqb (hb.block _ h.log.lt),h.upd.then (Upd.of_below hb (fun _=>False)) (fun _ e=>e.elim),h.nb⟩
theorem ScanLeft.drew (h:ScanLeft w w1 p b f n e v st):ScanLeft w w1.drew p b f n e v st:=h.below (Below.refl _ _).drew
theorem ScanLeft.saw (h:ScanLeft w w1 p b f n e v st) (m:Nat):ScanLeft w (w1.setCell ⟨b,7,none⟩ (.int .u64 (m:Int))) p b f n e v { st with salt:=m } := by
 refine ⟨h.list.far (h.list.ne_blk h.log (by decide)) _,h.new,?_,h.upd.setCell (p:=⟨b,7,none⟩) (.inr h.nb) _,h.nb⟩;have:=h.log.set_ 7 (.int .u64 (m:Int));simpa [Lg.cells] using this
theorem ScanLeft.app {pt:Lp} (h:ScanLeft w w1 p b f n e v st) (o:Obj) (hO2:Own w2 204 6 v2 (st.l.length+1) (partsG st.l++Lp.cells pt)) (hU2:Upd (fun q=>v.ownBlock=some q) (w1.alloc o) w2)
 (hl2:v2.ownBlock=v.ownBlock∨v2.ownBlock=some (w1.alloc o).heap.size):ScanLeft w w2 p b f n e v2 { st with l:=st.l++[pt] } := by
 refine ⟨?_,fun q hq=>?_,(h.log.alloc o).upd hU2 (fun e=>h.list.ne_blk h.log (by decide) e),(h.upd.alloc o).then hU2 (fun q e=>.inr (h.new q e)),h.nb⟩
 ·simpa [partsG] using hO2
 ·rcases hl2 with e | e
  ·exact h.new q (by rw [← e];exact hq)
  ·rw [e] at hq
   have h5:=Option.some.inj hq;have:=h.upd.size;simp at h5
   omega
end
structure OpenedG (w w':World) (p:Nat) (o:Option Lg) (v:Value):Prop where
 upd:Upd (fun _=>False) w w'
 bad:o=none→v=.pointer none
 ok:∀g,o=some g→∃b v1,v=.pointer (some ⟨b,0,none⟩)∧Blk w' b 199 (g.cells p v1)∧Own w' 9 1 v1 g.l.length (strs g.l)∧w.heap.size≤b∧∀q,v1.ownBlock=some q→w.heap.size≤q
def openErrG (o:Option Lg):Int:=if o.isSome then 0 else 9
end
section
open Go Go.RowKit
theorem PartsAt.drop {w:World} {A:Option Addr} {n cap:Nat} {l:List Lp} (h:PartsAt w (.slice A n cap) l) (k:Nat) (hk:k≤l.length):PartsAt w (.slice (if cap=k then A else A.map (·.add (k*6))) (n - k) (cap - k)) (l.drop k):=by
 obtain ⟨A',cap',b,off,e,h1,h2,h3,h4⟩:=h.ex;injection e with e1 e2 e3;subst e1 e2 e3;refine ⟨_,cap - k,b,off+k*6,by rw [List.length_drop],by rw [List.length_drop];omega,by omega,fun h0=>?_,fun i hi j hj=>?_⟩
 ·rw [List.length_drop] at h0
  obtain ⟨rfl,hb⟩:=h3 (by omega);rw [if_neg (by omega)];exact ⟨by simp [Addr.add],hb⟩
 ·rw [List.length_drop] at hi
  have h5:=h4 (k+i) (by omega) j hj;rw [List.getElem_drop,← h5,show off+k*6+i*6+j=off+(k+i)*6+j by omega]
theorem part_add (b o k:Nat):Option.map (fun x:Addr=>x.add (k*6)) (some ⟨b,o,none⟩)=some ⟨b,o+k*6,none⟩:=by simp [Addr.add]
structure RecLeft (w0 w':World) (p b:Nat) (pv:Value) (l:List Lp) (v:Value) (row:List Lp) (g:Lg) (v1:Value):Prop where
 list:Own w' 204 6 pv l.length (partsG l)
 parts:∀W,Own W 204 6 pv l.length (partsG l)→PartsAt W v row
 log:Blk w' b 199 (g.cells p v1)
 own:Own w' 9 1 v1 g.l.length (strs g.l)
 new:∀q,v1.ownBlock=some q→w0.heap.size≤q
 old:∀q,pv.ownBlock=some q→q<w0.heap.size
 upd:Upd (· = b) w0 w'
section
variable {w0 w1 w2:World} {p b:Nat} {pv v v1 v2:Value} {l row:List Lp} {g:Lg}
theorem RecLeft.still (h:RecLeft w0 w1 p b pv l v row g v1) (hu:Upd (fun _=>False) w1 w2):RecLeft w0 w2 p b pv l v row g v1 :=
 ⟨h.list.upd hu (fun _ _ e=>e),h.parts,h.log.upd hu (fun e=>e),h.own.upd hu (fun _ _ e=>e),h.new,h.old,h.upd.then hu (fun _ e=>e.elim)⟩
theorem RecLeft.drew (h:RecLeft w0 w1 p b pv l v row g v1):RecLeft w0 w1.drew p b pv l v row g v1:=h.still (Upd.refl _ _).drew
theorem RecLeft.used (h:RecLeft w0 w1 p b pv l v row g v1) (m:Nat):RecLeft w0 (w1.setCell ⟨b,5,none⟩ (.int .i64 (m:Int))) p b pv l v row { g with used:=m } v1:=by
 refine ⟨h.list.far (h.list.ne_blk h.log (by decide)) _,h.parts,?_,h.own.far (h.own.ne_blk h.log (by decide)) _,h.new,h.old,h.upd.setCell (p:=⟨b,5,none⟩) (.inl rfl) _⟩;have:=h.log.set_ 5 (.int .i64 (m:Int));simpa [Lg.cells] using this
theorem RecLeft.app (h:RecLeft w0 w1 p b pv l v row g v1) (s:ByteArray) (m:Nat) (hO2:Own w2 9 1 v2 (g.l.length+1) (strs g.l++[.string s])) (hU2:Upd (fun q=>v1.ownBlock=some q) w1 w2)
 (hl2:∀q,v2.ownBlock=some q→v1.ownBlock=some q∨w1.heap.size≤q) :
 RecLeft w0 ((w2.setCell ⟨b,4,none⟩ v2).setCell ⟨b,6,none⟩ (.int .u64 (m:Int))) p b pv l v row { g with l:=g.l++[s],last:=m } v2:=by
 have hB2:=h.log.upd hU2 (fun e=>h.own.ne_blk h.log (by decide) e);have hL2:=h.list.upd hU2 (fun q hq e=>by have h1:=h.new q e;have h2:=h.old q hq;omega);have hn1:=hO2.ne_blk hB2 (by decide);have hn2:=hL2.ne_blk hB2 (by decide);have hs:=h.upd.size;refine ⟨(hL2.far (p:=⟨b,4,none⟩) hn2 _).far (p:=⟨b,6,none⟩) hn2 _,h.parts,?_,?_,fun q hq=>?_,h.old,?_⟩
 ·have h3:=(hB2.set_ 4 v2).set_ 6 (.int .u64 (m:Int))
  simp only [Lg.cells,List.setIfInBounds_toArray,List.set_cons_zero,List.set_cons_succ] at h3;simp only [Lg.cells];exact h3
 ·have h3:=(hO2.far (p:=⟨b,4,none⟩) hn1 v2).far (p:=⟨b,6,none⟩) hn1 (.int .u64 (m:Int))
  simp only [List.length_append,List.length_cons,List.length_nil,strs,List.map_append,List.map_cons,List.map_nil] at h3 ⊢;exact h3
 ·rcases hl2 q hq with e | e
  ·exact h.new q e
  ·omega
 ·exact ((h.upd.then hU2 (fun q e=>.inr (h.new q e))).setCell (p:=⟨b,4,none⟩) (.inl rfl) _).setCell (p:=⟨b,6,none⟩) (.inl rfl) _
end
theorem RecLeft.drop {w0 w1:World} {p b n cap:Nat} {A:Option Addr} {pv v1:Value} {l row:List Lp} {g:Lg} (h:RecLeft w0 w1 p b pv l (.slice A n cap) row g v1) (k:Nat) (hk:k≤row.length) :
 RecLeft w0 w1 p b pv l (.slice (if cap=k then A else A.map (·.add (k*6))) (n - k) (cap - k)) (row.drop k) g v1 :=
 ⟨h.list,fun W hW=>(h.parts W hW).drop k hk,h.log,h.own,h.new,h.old,h.upd⟩
theorem RecLeft.begin {w0:World} {p b:Nat} {v:Value} {l:List Lp} {g:Lg} (hL:Own w0 204 6 v l.length (partsG l)) (hB:Blk w0 b 199 (g.cells p (.slice none 0 0))) (hg:g.l=[]):RecLeft w0 w0 p b v l v l g (.slice none 0 0) :=
 ⟨hL,fun _ h=>PartsAt.of_own h,hB,by rw [hg];exact Own.nil _ _ _,by simp [Value.ownBlock],fun _ hq=>hL.lt hq,Upd.refl _ _⟩
def lenOf:Value→Nat
 | .slice _ n _=>n
 | _=>0
theorem RecLeft.sees {w0 w1 w2:World} {p b b1 o1 n cap:Nat} {pv v1:Value} {l r:List Lp} {q0:Lp} {g:Lg} (h:RecLeft w0 w1 p b pv l (.slice (some ⟨b1,o1,none⟩) n cap) (q0::r) g v1) (hU:Upd (fun q=>v1.ownBlock=some q) w1 w2) :
 w2.cell? ⟨b,4,none⟩=some v1∧w2.cell? ⟨b1,o1+1,none⟩=some (.int .u64 (q0.salt:Int)):=by
 have hB2:=h.log.upd hU (fun e=>h.own.ne_blk h.log (by decide) e);have hL2:=h.list.upd hU (fun q hq e=>by have h1:=h.new q e;have h2:=h.old q hq;omega);obtain ⟨A,c,b',o',e,-,-,h3,h4⟩:=(h.parts _ hL2).ex;injection e with e1 e2 e3;obtain ⟨hA,-⟩:=h3 (by simp);subst hA;injection e1 with e1;injection e1 with e4 e5;subst e4 e5;refine ⟨hB2.cell 4,?_⟩;have h5:=h4 0 (by simp) 1 (by omega);simpa [Lp.cells] using h5
theorem firstG_parts {epoch last:Nat} {row:List Lp} (h:(firstG epoch last row).2=true):0<row.length∧1≤partsOf (firstG epoch last row).1.length∧partsOf (firstG epoch last row).1.length≤row.length∧(firstG epoch last row).1.length≤1024:=by
 unfold firstG at h ⊢;split at h
 ·simp at h
 ·split at h
  ·simp at h
  ·split at h
   ·simp at h
   ·rename_i p r h1 h2
    simp only [decide_eq_true_eq] at h;rw [if_neg h1,if_neg h2];exact ⟨by simp,by unfold partsOf;omega,h.1,by show (textG _).length≤1024;omega⟩
theorem loopG_fuel (n m:Nat) (g:Lg) (row:List Lp) (hn:row.length<n) (hm:row.length<m):loopG n g row=loopG m g row:=by
 induction n generalizing m g row with
 | zero=>omega
 | succ n ih =>
   cases m with
   | zero=>omega
   | succ m =>
     rw [loopG,loopG];split
     ·rename_i h
      have hp:=firstG_parts h;exact ih m _ _ (by rw [List.length_drop];omega) (by rw [List.length_drop];omega)
     ·rfl
end
section
open Go Go.RowKit
theorem ScanLeft.stored {w w2 w3 w4:World} {p b f n e:Nat} {v:Value} {st:ScanSt} (h2:ScanLeft w w2 p b f n e v st) (h3:ScanLeft w w3 p b f n e v st) (hU:Upd (· = w2.heap.size) w3 w4):ScanLeft w w4 p b f n e v st:=by
 refine ⟨h3.list.upd hU (fun k hk e=>?_),h3.new,h3.log.upd hU (fun e=>?_),h3.upd.then hU (fun q e=>.inr ?_),h3.nb⟩
 ·have:=h2.list.lt hk
  omega
 ·have:=h2.log.lt
  omega
 ·have:=h2.upd.size
  omega
theorem openG_on {w:World} {p:Nat} {d:Dk} {F:List Nat} (hD:DiskAt w p d F) (f n e:Nat) (hn:1≤n) (hf:f+n≤d.lasts.length) (he:1≤e) (he2:e<18446744073709551616) (hoff:d.off=false) :
 Calls Tryz.prog 104 #[.pointer (some ⟨p,0,none⟩),.int .i64 f,.int .i64 n,.int .u64 e] w fun en w'=>∃v,en=.returned (.tuple #[v,.int .i64 (openErrG (openG d f n e))])∧OpenedG w w' p (openG d f n e) v:=by
 have hm:=hD.wf.most;obtain ⟨i0,hi0,hz0,hz1,hz2⟩:=info_parts infoLp;obtain ⟨s0,hs0,hx0,hx1,hx2⟩:=info_parts infoStr;have hne:((d.lasts.length:Int) == 0)=false:=by rw [beq_eq_false_iff_ne];omega
 have hf0:¬(f:Int)<0:=by omega
 have hn0:¬(n:Int)<1:=by omega
 have hn1:¬d.lasts.length<n:=by omega
 have hf1:¬(d.lasts.length:Int) - (n:Int)<(f:Int):=by omega
 have he1:¬(e:Int)<1:=by omega
 have hsw:IntKind.i64.wrap ((d.lasts.length:Int) - (n:Int))=(d.lasts.length:Int) - (n:Int):=IntWalk.i64_in _ (by omega);have HS:=Lib.hid (sectors_c hD);have hF:f≤4096∧n≤4096:=by omega
 have HD:=h6k hD hf hoff hm he he2;clear hD hoff hm he he2 hf;go_enter Tryz.func104,Tryz.ntmps104
 go_wp2_with (go_at_call 61;refine HS.out.mono ?_;rintro e w' ⟨rfl,rfl⟩);have hz0':scanAt d f 0=⟨[],true,0,false⟩:=rfl;have HZ:=Lib.hid hz0';clear hz0' hne hf0 hn0 hn1 hf1 he1 hsw;go_loopw [11,12,58] (fun v r i wr=>∃j:Nat,j≤n∧i=.int .i64 j∧(scanAt d f j).bad=false∧r=.bool (scanAt d f j).row∧ScanLeft w wr p w.heap.size f n e v (scanAt d f j)) (fun _ _ i _=>n - (intOf i).toNat)
 case atStart =>
  refine ⟨0,by omega,rfl,rfl,rfl,?_⟩;rw [HZ.out];exact ⟨Own.nil _ _ _,by simp [Value.ownBlock],Blk.new w _ _,(Upd.refl _ w).alloc _,Nat.le_refl _⟩
 case round =>
  obtain ⟨j,hj,rfl,hbad,rfl,hL⟩:=hrel;by_cases hlt:j<n
  ·have hD2:DiskAt wr p d F:=HD.out.1.upd hL.upd fun q hq e=>e
   have hrd:=Dk.read_there HD.out.2.2.1 (i:=f+j) (by have:=HD.out.2.1;omega);have hread:(d.read ((f:Int)+(j:Int)))=(d.now (f+j),0):=by
    rw [← hrd];congr 1
   have hs3:IntKind.i64.wrap ((f:Int)+(j:Int))=(f:Int)+(j:Int):=IntWalk.i64_in _ (by omega);have hlt':(j:Int)<(n:Int):=by omega
   have HR2:=Lib.hid hread;have hst:=scanAt_succ d f j;have hsz:=HD.out.1.wf.now_size (i:=f+j) (by have:=HD.out.2.1;omega);have hbd:=fun h=>scanAt_bad d f (j+1) n (by omega) h
   have HLk:=Lib.hid (fun W=>Look_c (d.now (f+j)) W (by omega));have HW:=h4k hst hsz hbd hL;have HB:=Lib.hid hbad;have HRe:=Lib.hid (show Calls Tryz.prog 46 #[.pointer (some ⟨p,0,none⟩),.int .i64 ((f:Int)+(j:Int))] wr (fun e w'=>e=.returned (.tuple #[.string (d.now (f+j)),.int .i64 0])∧wr=w') from by
    have h:=read_c hD2 ((f:Int)+(j:Int));rw [hread] at h;exact h)
   clear hL hbad hD2 hrd hread hst hsz hbd HR2;generalize d.now (f+j)=sec at *;rcases lookL_cases sec.data.toList with hc | hc | hc
   ·rw [hc] at HLk
    have hmx:max ((scanAt d f j).salt:Int) 0=((scanAt d f j).salt:Int):=by omega
    have hS:scanAt d f (j+1) = { scanAt d f j with row:=false } := by
     rw [HW.out.1,scanStep,if_neg (by rw [HB.out];simp),if_neg (by rw [hc];decide),if_neg (by rw [hc];decide)]
    have HS2:=h2k hS HB.out;have HLL:=Lib.hid HW.out.2.2.2;clear hS HW HB hc;generalize scanAt d f j=st at *;go_wp2_with (first
     | (go_at_call 46;refine HRe.out.mono ?_;rintro e w' ⟨rfl,rfl⟩)
     | (go_at_call 47
        refine (HLk.out _).mono ?_;rintro e w2 ⟨rfl,hb2⟩;have hB4:=Blk.new w2 204 #[.int .u64 0,.int .u64 0,.int .u64 0,.int .i64 0,.int .i64 0,.string ⟨#[]⟩];have HL4:=h2k ((HLL.out.below hb2).below ((Below.refl _ w2).alloc (Nat.le_refl _) (.cells #[.int .u64 0,.int .u64 0,.int .u64 0,.int .i64 0,.int .i64 0,.string ⟨#[]⟩] 204))) hB4;have hc4:=hB4.cells6;have hk4:=HL4.out.1.log.cells9;have hz4:=HL4.out.1.log.frozen 7;clear hB4))
    all_goals
     go_roundw
     case rel =>
      refine ⟨j+1,by omega,by go_num,?_,?_,?_⟩;all_goals rw [HS2.out.1]
      ·exact HS2.out.2
      ·have h:=HL4.out.1
       exact ⟨h.list,h.new,h.log,h.upd,h.nb⟩
     case measure=>simp [intOf];omega
   ·obtain ⟨hbody,hlen⟩:=lookL_body hc
    have HRd:=Lib.hid (fun W=>read_g (str (lookL sec.data.toList).1) W (by rw [str_size,hbody];simp [hlen]))
    rw [hc] at HLk;have hdt:(str (lookL sec.data.toList).1).data.toList=(lookL sec.data.toList).1:=by simp [str]
    rw [hdt] at HRd;have hS:scanAt d f (j+1) = { l:=if (scanAt d f j).row && (readG (lookL sec.data.toList).1).2 then (scanAt d f j).l++[(readG (lookL sec.data.toList).1).1] else (scanAt d f j).l,row:=(scanAt d f j).row && (readG (lookL sec.data.toList).1).2,salt:=max (scanAt d f j).salt (readG (lookL sec.data.toList).1).1.salt,bad:=false } := by
     rw [HW.out.1,scanStep,if_neg (by rw [HB.out];simp),if_neg (by rw [hc];decide),if_pos hc]
    have HLL:=Lib.hid HW.out.2.2.2;have stl:(scanAt d f j).l.length≤j:=scanAt_len _ _ _;clear hdt hbody hlen hc HW HB;have HSs:=Lib.hid hS;clear hS;generalize scanAt d f j=st at *;generalize readG (lookL sec.data.toList).1=pr at *;obtain ⟨pt,is⟩:=pr;simp only at *
    have hmx:max (st.salt:Int) (pt.salt:Int)=((max st.salt pt.salt:Nat):Int):=by omega
    go_wp2_with (first
     | (go_at_call 46;refine HRe.out.mono ?_;rintro e w' ⟨rfl,rfl⟩)
     | (go_at_call 47
        refine (HLk.out _).mono ?_;rintro e w2 ⟨rfl,hb2⟩;have HL2:=Lib.hid (HLL.out.below hb2);have HL4:=h2k ((HLL.out.below hb2).below ((Below.refl _ w2).alloc (Nat.le_refl _) (.cells #[.int .u64 0,.int .u64 0,.int .u64 0,.int .i64 0,.int .i64 0,.string ⟨#[]⟩] 204))) (Blk.new w2 204 #[.int .u64 0,.int .u64 0,.int .u64 0,.int .i64 0,.int .i64 0,.string ⟨#[]⟩]))
     | (go_at_call 159
        refine (HRd.out _).mono ?_;rintro e w3 ⟨he3,hb3⟩;rw [Lp.val] at he3;subst he3;have HL5:=h2k (HL4.out.1.below hb3) (HL4.out.2.eqb (hb3.block _ HL4.out.2.lt));clear hb3)
     | (refine wpList_store_all rfl 204 _ _ rfl w2.heap.size #[.int .u64 pt.epoch,.int .u64 pt.salt,.int .u64 pt.ahead,.int .i64 pt.number,.int .i64 pt.all,.string (str pt.text)] rfl rfl _ _ HL5.out.2 rfl (by simp [Value.oneCell']) (by kernel_rfl) ?_
        intro w4 hB4 hU4 hs4;have HL6:=h2k (ScanLeft.stored HL2.out HL5.out.1 hU4) hB4;have hc4:=hB4.cells6;have hk4:=HL6.out.1.log.cells9;have hz4:=HL6.out.1.log.frozen 7;clear hB4 hU4 hs4))
    go_region
    all_goals
     try simp only [hmx]
     have HL7:=Lib.hid ((HL6.out.1.saw (max st.salt pt.salt)).drew);have hB5:Blk (w4.setCell ⟨w.heap.size,7,none⟩ (.int .u64 ((max st.salt pt.salt:Nat):Int))).drew w2.heap.size 204 #[.int .u64 pt.epoch,.int .u64 pt.salt,.int .u64 pt.ahead,.int .i64 pt.number,.int .i64 pt.all,.string (str pt.text)] :=
      (HL6.out.2.far (p:=⟨w.heap.size,7,none⟩) (fun e=>HL6.out.2.ne_ HL6.out.1.log (by decide) e) _).drew
     have hc5:=hB5.cells6;have HSs:=HSs.out;clear hc4 hk4 hz4 hB5 hmx;generalize (w4.setCell ⟨w.heap.size,7,none⟩ (.int .u64 ((max st.salt pt.salt:Nat):Int))).drew=w5 at *;cases hr:st.row
     ·simp only [hr,Bool.false_and,Bool.false_eq_true,if_false] at HSs
      have HS:=Lib.hid HSs;clear HSs hc5;go_wp2
      go_roundw
      case rel =>
       refine ⟨j+1,by omega,by go_num,?_,?_,?_⟩;all_goals rw [HS.out]
       have h:=HL7.out;exact ⟨h.list,h.new,h.log,h.upd,h.nb⟩
      case measure=>simp [intOf];omega
     ·cases his:is
      ·simp only [hr,his,Bool.true_and,Bool.false_eq_true,if_false] at HSs
       have HS:=Lib.hid HSs;clear HSs hc5;go_wp2
       go_roundw
       case rel =>
        refine ⟨j+1,by omega,by go_num,?_,?_,?_⟩;all_goals rw [HS.out]
        have h:=HL7.out;exact ⟨h.list,h.new,h.log,h.upd,h.nb⟩
       case measure=>simp [intOf];omega
      ·simp only [hr,his,Bool.true_and,if_true] at HSs
       have HS:=Lib.hid HSs;clear HSs;go_wp2_with (at_builtin;refine wpList_append_src rfl _ _ _ _ rfl 204 i0 _ 6 56 Tryz.underlying201 hi0 hz0 hz1 hz2 rfl u11 st.l.length _ rfl (HL7.out.list.alloc _) _ 1 [_,_,_,_,_,_] rfl (Src.of_news Tryz.underlying201 _ rfl) (by simp [Value.oneCell']) (by have:=stl;unfold maxLen;omega) (by have:=stl;omega) ?_;intro v2 w6 hO2 hU2 hl2 hs2);go_roundw
       case rel =>
        refine ⟨j+1,by omega,by go_num,?_,?_,?_⟩;all_goals rw [HS.out]
        have h:=HL7.out.app _ hO2 hU2 hl2;exact ⟨h.list,h.new,h.log,h.upd,h.nb⟩
       case measure=>simp [intOf];omega
   ·rw [hc] at HLk
    have hS:scanAt d f (j+1) = { scanAt d f j with bad:=true } := by
     rw [HW.out.1,scanStep,if_neg (by rw [HB.out];simp),if_pos hc]
    have h10:=HW.out.2.2.1 (by rw [hS]);rw [hS] at h10;have H10:=Lib.hid h10;have HLL:=Lib.hid HW.out.2.2.2;clear h10 hS HW HB hc;go_wp2_with (first
     | (go_at_call 46;refine HRe.out.mono ?_;rintro e w' ⟨rfl,rfl⟩)
     | (go_at_call 47;refine (HLk.out _).mono ?_;rintro e w2 ⟨rfl,hb2⟩))
    go_ret2
    have ho:openG d f n e=none:=by rw [openG,H10.out];rfl
    rw [ho];exact ⟨_,rfl,⟨(HLL.out.below hb2).upd,fun _=>rfl,fun g h=>by cases h⟩⟩
  ·obtain rfl:j=n:=by omega
   have HL:=h2k hL hbad;clear hL hbad;go_wp2_with fail
   have hok:=(scanAt_ok d f j).1;have hln:=scanAt_len d f j;have hG:openG d f j e=some (loopG ((scanAt d f j).l.length+1) ⟨f,j,e,[],0,0,(scanAt d f j).salt,false⟩ (scanAt d f j).l):=by rw [openG,HL.out.2];rfl
   have HG:=h3k hG hok hln;clear hG hok hln;go_loopw [11] (fun v w'=>∃(row:List Lp) (g:Lg) (v1:Value) (k:Nat),RecLeft wr w' p w.heap.size u11 (scanAt d f j).l v row g v1∧openG d f j e=some (loopG (row.length+1) g row)∧row=(scanAt d f j).l.drop k∧k≤(scanAt d f j).l.length∧g.epoch=e∧g.used=k∧g.l.length≤k) (fun v _=>lenOf v)
   case atStart =>
    exact ⟨(scanAt d f j).l,⟨f,j,e,[],0,0,(scanAt d f j).salt,false⟩,.slice none 0 0,0,RecLeft.begin HL.out.1.list HL.out.1.log rfl,HG.out.1,rfl,by omega,rfl,rfl,by simp⟩
   case round =>
    obtain ⟨row,g,v1,k,hR,hg,hrow,hk,hep,hus,hgl⟩:=hrel;have hrl:row.length≤5000:=by rw [hrow,List.length_drop];have:=HG.out.2.2;omega
    have hmem:∀q ∈ row,q ∈ (scanAt d f j).l:=fun q hq=>by rw [hrow] at hq;exact List.mem_of_mem_drop hq
    have hFi:=first_g hR.log (hR.parts _ hR.list) hrl (fun q hq=>(HG.out.2.1 q (hmem q hq)).1) (fun q hq=>(HG.out.2.1 q (hmem q hq)).2.1);rw [loopG] at hg;cases hf:(firstG g.epoch g.last row).2
    ·rw [hf] at hFi hg
     rw [if_neg (by simp)] at hg;have HFi:=Lib.hid hFi;have HR:=h2k hR hg;clear hFi hR hg hrow hmem hf;go_wp2_with (go_at_call 160;refine HFi.out.mono ?_;rintro e w1 ⟨rfl,hu1⟩);go_ret2
     rw [HR.out.2];have hR1:=HR.out.1.still hu1;have hz:=HL.out.1.upd.size;exact ⟨_,rfl,HL.out.1.upd.then hR1.upd (fun q e=>.inr (by rw [e];exact Nat.le_refl _)),fun h=>(by cases h),fun g2 h=>by cases h;exact ⟨w.heap.size,v1,rfl,hR1.log,hR1.own,Nat.le_refl _,fun q hq=>by have:=hR1.new q hq;omega⟩⟩
    ·obtain ⟨h0,hp1,hp2,ht2⟩:=firstG_parts hf
     rw [hf] at hFi hg;rw [if_pos rfl] at hg;generalize (firstG g.epoch g.last row).1=text at *;obtain ⟨q0,r,rfl⟩:∃q0 r,row=q0::r:=by
      cases row with
      | nil=>simp at h0
      | cons a b=>exact ⟨a,b,rfl⟩
     obtain ⟨A,cap,b1,o1,hv,m1,m2,a1,c1⟩:=(hR.parts _ hR.list).ex;obtain ⟨rfl,-⟩:=a1 (by simp);subst hv;have hgl5:g.l.length≤5000:=by have:=HG.out.2.2;omega
     have hus5:g.used≤5000:=by have:=HG.out.2.2;omega
     have hsw:IntKind.i64.wrap ((g.used:Int)+((partsOf text.length:Nat):Int))=(g.used:Int)+((partsOf text.length:Nat):Int):=IntWalk.i64_in _ (by omega);have HPa:Hid (∀W,Calls Tryz.prog 112 #[.string (str text)] W fun e w'=>e=.returned (.int .i64 ((partsOf text.length:Nat):Int))∧W=w'):=fun W=>by
      have h:=parts_c (str text) W (by rw [str_size];omega);rw [str_size] at h;exact h
     have HFi:=Lib.hid hFi;have HR:=Lib.hid hR;have HGG:=h6k hg hrow hk hep hus hgl;clear hFi hR hg hrow hmem hf a1 c1 hk hep hus hgl;go_wp2_with (first | (go_at_call 160;refine HFi.out.mono ?_;rintro e w1 ⟨rfl,hu1⟩;have HR1:=Lib.hid (HR.out.still hu1);clear hu1) | fail);have hlen0:(0:Int)<((q0::r).length:Int):=by simp only [List.length_cons];omega
     refine wp_region_noPanic ?_;refine wp_region_T (S:=fun w'=>w'.cell? ⟨w.heap.size,4,none⟩=some v1∧w'.cell? ⟨b1,o1+1,none⟩=some (.int .u64 (q0.salt:Int))) (T:=fun i=>Nat.beq 15 i || Nat.beq i 18) (by kernel_rfl) ?_;have HSS:=Lib.hid (fun (w':World) hu=>HR1.out.sees (w2:=w') hu);have hS0:=HSS.out _ (Upd.refl _ w1).drew;refine wpAnyT_takeW (i:=0) (v:=.pointer (some ⟨w.heap.size,0,none⟩)) rfl (by kernel_rfl) (by kernel_rfl) (by kernel_rfl) (by kernel_rfl) (fun _ _ _ h=>h) (takes_yield rfl (Or.inl ⟨by rfl,?_⟩)) (by first | exact Or.inr (by assumption) | exact Or.inl (by kernel_rfl)) ?_
     ·intro w' hSw;go_simp
     simp only [tkS];refine wpAnyT_takeW (i:=1) (v:=.pointer (some ⟨w.heap.size,0,none⟩)) rfl (by kernel_rfl) (by kernel_rfl) (by kernel_rfl) (by kernel_rfl) (fun _ _ _ h=>h) (takes_yield rfl (Or.inl ⟨by rfl,?_⟩)) (by first | exact Or.inr (by assumption) | exact Or.inl (by kernel_rfl)) ?_
     ·intro w' hSw;go_simp
     simp only [tkS];refine wpAnyT_takeW (i:=2) (v:=.pointer (some ⟨w.heap.size,0,none⟩)) rfl (by kernel_rfl) (by kernel_rfl) (by kernel_rfl) (by kernel_rfl) (fun _ _ _ h=>h) (takes_yield rfl (Or.inl ⟨by rfl,?_⟩)) (by first | exact Or.inr (by assumption) | exact Or.inl (by kernel_rfl)) ?_
     ·intro w' hSw;go_simp
     simp only [tkS];refine wpAnyT_takeW (i:=3) (v:=.pointer (some ⟨w.heap.size,0,none⟩)) rfl (by kernel_rfl) (by kernel_rfl) (by kernel_rfl) (by kernel_rfl) (fun _ _ _ h=>h) (takes_yield rfl (Or.inl ⟨by rfl,?_⟩)) (by first | exact Or.inr (by assumption) | exact Or.inl (by kernel_rfl)) ?_
     ·intro w' hSw;go_simp
     simp only [tkS];refine wpAnyT_takeW (i:=4) (v:=.pointer (some ⟨w.heap.size,4,none⟩)) rfl (by kernel_rfl) (by kernel_rfl) (by kernel_rfl) (by kernel_rfl) (fun _ _ _ h=>h) (takes_yield rfl (Or.inl ⟨by rfl,?_⟩)) (by first | exact Or.inr (by assumption) | exact Or.inl (by kernel_rfl)) ?_
     ·intro w' hSw;go_simp
     simp only [tkS];refine wpAnyT_take (i:=5) (v:=v1) rfl (by kernel_rfl) (by kernel_rfl) (by kernel_rfl) (by kernel_rfl) (fun _ _ _ h=>h) (takes_yield rfl (Or.inl ⟨by rfl,?_⟩)) (by assumption) (by kernel_rfl) ?_
     ·intro w' hSw;go_split_ands;go_simp
     simp only [tkS];refine wpAnyT_takeW (i:=6) (v:=.string (str text)) rfl (by kernel_rfl) (by kernel_rfl) (by kernel_rfl) (by kernel_rfl) (fun _ _ _ h=>h) (takes_yield rfl (Or.inl ⟨by rfl,?_⟩)) (by first | exact Or.inr (by assumption) | exact Or.inl (by kernel_rfl)) ?_
     ·intro w' hSw;go_simp
     simp only [tkS];refine wpAnyT_takeW (i:=9) (v:=.slice (some ⟨b1,o1,none⟩) (q0::r).length cap) rfl (by kernel_rfl) (by kernel_rfl) (by kernel_rfl) (by kernel_rfl) (fun _ _ _ h=>h) (takes_yield rfl (Or.inl ⟨by rfl,?_⟩)) (by first | exact Or.inr (by assumption) | exact Or.inl (by kernel_rfl)) ?_
     ·intro w' hSw;go_simp
     simp only [tkS];refine wpAnyT_takeW (i:=10) (v:=.pointer (some ⟨b1,o1,none⟩)) rfl (by kernel_rfl) (by kernel_rfl) (by kernel_rfl) (by kernel_rfl) (fun _ _ _ h=>h) (takes_yield rfl (Or.inl ⟨by rfl,?_⟩)) (by first | exact Or.inr (by assumption) | exact Or.inl (by kernel_rfl)) ?_
     ·intro w' hSw;go_simp
     simp only [tkS];refine wpAnyT_takeW (i:=11) (v:=.pointer (some ⟨b1,o1+1,none⟩)) rfl (by kernel_rfl) (by kernel_rfl) (by kernel_rfl) (by kernel_rfl) (fun _ _ _ h=>h) (takes_yield rfl (Or.inl ⟨by rfl,?_⟩)) (by first | exact Or.inr (by assumption) | exact Or.inl (by kernel_rfl)) ?_
     ·intro w' hSw;go_simp
     simp only [tkS];refine wpAnyT_take (i:=12) (v:=.int .u64 (q0.salt:Int)) rfl (by kernel_rfl) (by kernel_rfl) (by kernel_rfl) (by kernel_rfl) (fun _ _ _ h=>h) (takes_yield rfl (Or.inl ⟨by rfl,?_⟩)) (by assumption) (by kernel_rfl) ?_
     ·intro w' hSw;go_split_ands;go_simp
     simp only [tkS];refine wpAnyT_one (i:=7) (by kernel_rfl) rfl (fun K hK=>?_);go_simp
     refine hK.out _ _ ?_ ?_
     ·exact HSS.out _ ((Upd.refl _ w1).alloc _).drew
     refine wpAnyT_one (i:=8) (by kernel_rfl) rfl (fun K hK=>?_);refine step_append_src (by rfl) _ _ _ _ (by rfl) 9 s0 _ 1 16 Tryz.underlying147 hs0 hx0 hx1 hx2 rfl v1 _ _ (by rfl) ((HR1.out.own.alloc _).drew) _ 1 [.string (str text)] (by rfl) (Src.of_new_drew Tryz.underlying147 (.string (str text))) (by simp [Value.oneCell']) (by unfold maxLen;omega) (by omega) ?_;intro v2 w2 hown2 hU2 hloc2 hs2;obtain ⟨gq,cq,rfl,-,-⟩:=hown2.head (by omega);have hU3:Upd (fun q=>v1.ownBlock=some q) w1 w2:=((Upd.refl _ w1).alloc _).drew.then hU2 (fun _ e=>.inl e);have hl3:∀q,(Value.slice (some ⟨gq,0,none⟩) (g.l.length+1) cq).ownBlock=some q→v1.ownBlock=some q∨w1.heap.size≤q:=fun q hq=>by
      rcases hloc2 with e | e
      ·rw [e] at hq;exact .inl hq
      ·rw [e] at hq
       cases hq
       exact .inr ((((Upd.refl (fun _=>False) w1).alloc _).drew).size)
     have hB3:=HR1.out.log.upd hU3 (fun e=>HR1.out.own.ne_blk HR1.out.log (by decide) e);have hk2:=hB3.cells9;have hf4:=hB3.frozen 4;have hf6:=hB3.frozen 6;have HX:=Lib.hid (HR1.out.app (str text) q0.salt hown2 hU3 hl3);have hS2:=HSS.out _ hU3;clear hown2 hU2 hloc2 hs2 hU3 hl3 hB3;refine hK.out _ _ hS2 ?_;clear hK;refine wpAnyT_takeW (i:=13) (v:=.pointer (some ⟨w.heap.size,0,none⟩)) rfl (by kernel_rfl) (by kernel_rfl) (by kernel_rfl) (by kernel_rfl) (fun _ _ _ h=>h) (takes_yield rfl (Or.inl ⟨by rfl,?_⟩)) (by first | exact Or.inr (by assumption) | exact Or.inl (by kernel_rfl)) ?_
     ·intro w' hSw;go_simp
     simp only [tkS];refine wpAnyT_takeW (i:=14) (v:=.pointer (some ⟨w.heap.size,4,none⟩)) rfl (by kernel_rfl) (by kernel_rfl) (by kernel_rfl) (by kernel_rfl) (fun _ _ _ h=>h) (takes_yield rfl (Or.inl ⟨by rfl,?_⟩)) (by first | exact Or.inr (by assumption) | exact Or.inl (by kernel_rfl)) ?_
     ·intro w' hSw;go_simp
     simp only [tkS];refine wpAnyT_oneT (i:=15) (by kernel_rfl) rfl (by kernel_rfl) (fun K hK=>?_);go_simp
     refine hK.out _ _ ?_;clear hK hS2;refine wpAnyT_takeW (i:=16) (v:=.pointer (some ⟨w.heap.size,0,none⟩)) rfl (by kernel_rfl) (by kernel_rfl) (by kernel_rfl) (by kernel_rfl) (fun _ _ _ h=>h) (takes_yield rfl (Or.inl ⟨by rfl,?_⟩)) (by first | exact Or.inr (by assumption) | exact Or.inl (by kernel_rfl)) ?_
     ·intro w' hSw;go_simp
     simp only [tkS];refine wpAnyT_takeW (i:=17) (v:=.pointer (some ⟨w.heap.size,6,none⟩)) rfl (by kernel_rfl) (by kernel_rfl) (by kernel_rfl) (by kernel_rfl) (fun _ _ _ h=>h) (takes_yield rfl (Or.inl ⟨by rfl,?_⟩)) (by first | exact Or.inr (by assumption) | exact Or.inl (by kernel_rfl)) ?_
     ·intro w' hSw;go_simp
     simp only [tkS];refine wpAnyT_oneT (i:=18) (by kernel_rfl) rfl (by kernel_rfl) (fun K hK=>?_);go_simp
     refine hK.out _ _ ?_;clear hK;refine wpAnyT_done (by kernel_rfl) ?_ _;refine NoPanic.normal ?_;clear hk2 hf4 hf6;generalize ((w2.setCell ⟨w.heap.size,4,none⟩ (.slice (some ⟨gq,0,none⟩) (g.l.length+1) cq)).setCell ⟨w.heap.size,6,none⟩ (.int .u64 (q0.salt:Int)))=w3 at *;clear HSS hS0;go_wp2_with fail
     refine wp_region_noPanic ?_;refine wp_region_T (S:=fun w'=>w'.cell? ⟨w.heap.size,5,none⟩=some (.int .i64 (g.used:Int))) (T:=fun i=>Nat.beq 9 i) (by kernel_rfl) ?_;have hS0:w3.drew.cell? ⟨w.heap.size,5,none⟩=some (.int .i64 (g.used:Int)):=HX.out.log.drew.cell 5;have hf5:=HX.out.log.drew.frozen 5;refine wpAnyT_takeW (i:=0) (v:=.pointer (some ⟨w.heap.size,0,none⟩)) rfl (by kernel_rfl) (by kernel_rfl) (by kernel_rfl) (by kernel_rfl) (fun _ _ _ h=>h) (takes_yield rfl (Or.inl ⟨by rfl,?_⟩)) (by first | exact Or.inr (by assumption) | exact Or.inl (by kernel_rfl)) ?_
     ·intro w' hSw;go_simp
     simp only [tkS];refine wpAnyT_takeW (i:=1) (v:=.pointer (some ⟨w.heap.size,0,none⟩)) rfl (by kernel_rfl) (by kernel_rfl) (by kernel_rfl) (by kernel_rfl) (fun _ _ _ h=>h) (takes_yield rfl (Or.inl ⟨by rfl,?_⟩)) (by first | exact Or.inr (by assumption) | exact Or.inl (by kernel_rfl)) ?_
     ·intro w' hSw;go_simp
     simp only [tkS];refine wpAnyT_takeW (i:=2) (v:=.pointer (some ⟨w.heap.size,5,none⟩)) rfl (by kernel_rfl) (by kernel_rfl) (by kernel_rfl) (by kernel_rfl) (fun _ _ _ h=>h) (takes_yield rfl (Or.inl ⟨by rfl,?_⟩)) (by first | exact Or.inr (by assumption) | exact Or.inl (by kernel_rfl)) ?_
     ·intro w' hSw;go_simp
     simp only [tkS];refine wpAnyT_take (i:=3) (v:=.int .i64 (g.used:Int)) rfl (by kernel_rfl) (by kernel_rfl) (by kernel_rfl) (by kernel_rfl) (fun _ _ _ h=>h) (takes_yield rfl (Or.inl ⟨by rfl,?_⟩)) (by assumption) (by kernel_rfl) ?_
     ·intro w' hSw;go_split_ands;go_simp
     simp only [tkS];refine wpAnyT_takeW (i:=4) (v:=.string (str text)) rfl (by kernel_rfl) (by kernel_rfl) (by kernel_rfl) (by kernel_rfl) (fun _ _ _ h=>h) (takes_yield rfl (Or.inl ⟨by rfl,?_⟩)) (by first | exact Or.inr (by assumption) | exact Or.inl (by kernel_rfl)) ?_
     ·intro w' hSw;go_simp
     simp only [tkS];refine wpAnyT_take (i:=5) (v:=.int .i64 ((partsOf text.length:Nat):Int)) rfl (by kernel_rfl) (by kernel_rfl) (by kernel_rfl) (by kernel_rfl) (fun _ _ _ h=>h) (takes_call rfl 112 #[.string (str text)] (by rfl) (fun w' _=>?_) (fun w' hS=>HPa.out w')) (by assumption) (by kernel_rfl) ?_
     ·go_simp
     simp only [tkS];refine wpAnyT_takeW (i:=6) (v:=.int .i64 ((g.used:Int)+((partsOf text.length:Nat):Int))) rfl (by kernel_rfl) (by kernel_rfl) (by kernel_rfl) (by kernel_rfl) (fun _ _ _ h=>h) (takes_yield rfl (Or.inl ⟨by rfl,?_⟩)) (by first | exact Or.inr (by assumption) | exact Or.inl (by kernel_rfl)) ?_
     ·intro w' hSw;go_simp
     simp only [tkS];refine wpAnyT_takeW (i:=7) (v:=.pointer (some ⟨w.heap.size,0,none⟩)) rfl (by kernel_rfl) (by kernel_rfl) (by kernel_rfl) (by kernel_rfl) (fun _ _ _ h=>h) (takes_yield rfl (Or.inl ⟨by rfl,?_⟩)) (by first | exact Or.inr (by assumption) | exact Or.inl (by kernel_rfl)) ?_
     ·intro w' hSw;go_simp
     simp only [tkS];refine wpAnyT_takeW (i:=8) (v:=.pointer (some ⟨w.heap.size,5,none⟩)) rfl (by kernel_rfl) (by kernel_rfl) (by kernel_rfl) (by kernel_rfl) (fun _ _ _ h=>h) (takes_yield rfl (Or.inl ⟨by rfl,?_⟩)) (by first | exact Or.inr (by assumption) | exact Or.inl (by kernel_rfl)) ?_
     ·intro w' hSw;go_simp
     simp only [tkS];refine wpAnyT_oneT (i:=9) (by kernel_rfl) rfl (by kernel_rfl) (fun K hK=>?_);go_simp
     refine hK.out _ _ ?_;clear hK;refine wpAnyT_done (by kernel_rfl) ?_ _;refine NoPanic.normal ?_;have HY:=Lib.hid ((HX.out.used (g.used+partsOf text.length)).drew.drop (partsOf text.length) hp2);clear hS0 hf5;have hpl:((partsOf text.length:Nat):Int)≤((q0::r).length:Int):=by omega
     have hp0:(0:Int)≤((partsOf text.length:Nat):Int):=by omega
     go_wp2_with (go_at_call 112;refine (HPa.out _).mono ?_;rintro e w4 ⟨rfl,rfl⟩);go_roundw
     case rel =>
      refine ⟨(q0::r).drop (partsOf text.length),{ g with l:=g.l++[str text],last:=q0.salt,used:=g.used+partsOf text.length },.slice (some ⟨gq,0,none⟩) (g.l.length+1) cq,k+partsOf text.length,?_,?_,?_,?_,HGG.out.2.2.2.1,?_,?_⟩
      ·have h:=HY.out
       rw [Int.natCast_add g.used (partsOf text.length)] at h;have ha:Option.map (fun x:Addr=>x.add (partsOf text.length*6)) (some ⟨b1,o1,none⟩)=some ⟨b1,o1+partsOf text.length*6,none⟩:=part_add _ _ _;rw [ha] at h;exact h
      ·rw [HGG.out.1]
       exact congrArg some (loopG_fuel _ _ _ _ (by rw [List.length_drop];simp only [List.length_cons] at hp2 ⊢;omega) (by omega))
      ·rw [HGG.out.2.1,List.drop_drop]
      ·have h:=congrArg List.length HGG.out.2.1
       rw [List.length_drop] at h;have:=HGG.out.2.2.1;omega
      ·show g.used+_=_
       rw [HGG.out.2.2.2.2.1]
      ·simp only [List.length_append,List.length_cons,List.length_nil]
       have:=HGG.out.2.2.2.2.2;omega
     case measure =>
      simp [lenOf]
      omega
end
section
open Go Go.RowKit
theorem lookL_closeL (b:List UInt8) (hb:b.length=60) (hz:b≠List.replicate 60 0) (hs:sumN b<2 ^ (8*4)):lookL (closeL b)=(b,1):=by
 have hl:(leB (sumN b) 4).length=4:=leB_len _ _;have h1:(closeL b).length=64:=by simp [closeL,hb,hl]
 have h2:(closeL b).take 60=b:=by rw [closeL,List.take_append_of_le_length (by omega),List.take_of_length_le (by omega)]
 have h3:(closeL b).drop 60=leB (sumN b) 4:=by rw [closeL,List.drop_append_of_le_length (by omega),List.drop_of_length_le (by omega)];rfl
 have h4:closeL b≠List.replicate 64 0:=by
  intro e;apply hz
  rw [← h2,e];rfl
 rw [lookL,if_neg (by omega),if_neg h4,h2,h3,leN_leB _ _ hs,if_neg (by simp)]
theorem readL_body (p:Pt) (hg:p.gen<2 ^ (8*8)) (hn:p.number<256) (ha:p.all<256) (ht:p.text.length≤48):readL p.body=(p,true):=by
 obtain ⟨g,n,a,t⟩:=p;simp only at hg hn ha ht
 have hl:(leB g 8).length=8:=leB_len _ _;have hb:(⟨g,n,a,t⟩:Pt).body=leB g 8++([UInt8.ofNat n,UInt8.ofNat a,UInt8.ofNat t.length,0]++(t++List.replicate (48 - t.length) 0)):=by simp [Pt.body]
 have h1:(Pt.body ⟨g,n,a,t⟩).take 8=leB g 8:=by rw [hb,List.take_append_of_le_length (by omega),List.take_of_length_le (by omega)]
 have hd:∀i,(Pt.body ⟨g,n,a,t⟩).getD (8+i) 0=([UInt8.ofNat n,UInt8.ofNat a,UInt8.ofNat t.length,0]++(t++List.replicate (48 - t.length) 0)).getD i 0:=by
  intro i;rw [hb,List.getD_eq_getElem?_getD,List.getD_eq_getElem?_getD,List.getElem?_append_right (by omega),hl,Nat.add_sub_cancel_left]
 have h8:(Pt.body ⟨g,n,a,t⟩).getD 8 0=UInt8.ofNat n:=hd 0;have h9:(Pt.body ⟨g,n,a,t⟩).getD 9 0=UInt8.ofNat a:=hd 1;have h10:(Pt.body ⟨g,n,a,t⟩).getD 10 0=UInt8.ofNat t.length:=hd 2;have h11:(Pt.body ⟨g,n,a,t⟩).getD 11 0=0:=hd 3;have hdr:∀i,(Pt.body ⟨g,n,a,t⟩).drop (12+i)=(t++List.replicate (48 - t.length) 0).drop i:=by
  intro i;rw [hb,← List.append_assoc,← List.drop_drop,List.drop_left' (by simp [hl])]
 have hu:∀x,x<256→(UInt8.ofNat x).toNat=x:=fun x hx=>by simp;omega
 rw [readL,h8,h9,h10,h11,h1,hu n hn,hu a ha,hu t.length (by omega),if_neg (by omega),leN_leB _ _ hg];have e0:=hdr 0;rw [Nat.add_zero] at e0;rw [e0,hdr t.length];simp
theorem chunks (t:List UInt8) (n:Nat):((List.range n).flatMap fun i=>(t.drop (48*i)).take 48)=t.take (48*n):=by
 induction n with
 | zero=>simp
 | succ n ih=>rw [List.range_succ,List.flatMap_append,ih];simp [List.take_add,Nat.mul_add]
theorem textL_cut (t:List UInt8) (g:Nat):textL (cutL t g)=t:=by
 have h:=chunks t (allOf t.length);rw [textL,cutL,List.flatMap_map];rw [h,List.take_of_length_le];unfold allOf;omega
theorem holdL_cut (t:List UInt8) (g:Nat) (rest:List Pt) (hg:g≠0) (ht:t.length≤400):holdL (cutL t g++rest)=(t,g):=by
 have hn:0<(cutL t g).length:=by rw [cutL_len];unfold allOf;omega
 have h0:=cutL_get t g 0 hn;obtain ⟨p,l,e⟩:∃p l,cutL t g=p::l:=by
  cases h:cutL t g with
  | nil=>rw [h] at hn;simp at hn
  | cons p l=>exact ⟨p,l,rfl⟩
 have hp:p.gen=g∧p.all=allOf t.length:=by
  have h1:(cutL t g)[0]=p:=by simp [e]
  rw [h1] at h0;exact ⟨h0.1,h0.2.2.1⟩
 have hfg:firstGen (cutL t g++rest)=g:=by rw [e];exact hp.1
 have hfa:firstAll (cutL t g++rest)=allOf t.length:=by rw [e];exact hp.2
 have htk:(cutL t g++rest).take (allOf t.length)=cutL t g:=by rw [List.take_append_of_le_length (by rw [cutL_len];omega),List.take_of_length_le (by rw [cutL_len];omega)]
 rw [holdL,hfg,hfa,htk,textL_cut,htk,if_neg hg,if_neg (by omega),if_pos rfl]
end
section
open Go Go.RowKit
theorem Dk.burn_free {d:Dk} (h:d.fuse=-1):d.burn=(d,true):=by
 unfold Dk.burn;rw [if_neg (by omega),if_neg (by omega)]
theorem Dk.write_free {d:Dk} (h:d.fuse=-1) (ho:d.off=false) {i:Nat} (hi:i<d.lasts.length) {b:ByteArray} (hb:b.size=64):d.write (i:Int) b=(d.push i b,0):=by
 have ht:d.there (i:Int)=true:=by simp [Dk.there];omega
 unfold Dk.write;rw [ho,ht,Dk.burn_free h];simp [hb]
theorem Dk.push_now (d:Dk) (i j:Nat) (b:ByteArray) (hi:i<d.waits.length):(d.push i b).now j=if i=j then b else d.now j:=by
 unfold Dk.now Dk.push Dk.at_ Dk.last;simp only [List.getD_eq_getElem?_getD,List.getElem?_set];by_cases h:i=j
 ·subst h
  simp [hi]
 ·simp [h]
theorem Dk.sync_free {d:Dk} (h:d.fuse=-1) (ho:d.off=false):d.sync=(d.flush,0):=by
 unfold Dk.sync;rw [ho,Dk.burn_free h];simp
theorem Dk.flush_now (d:Dk) (i:Nat) (hi:i<d.lasts.length):d.flush.now i=d.now i:=by
 have hw:(d.waits.map fun _=>([]:List ByteArray)).getD i []=[]:=by
  rw [List.getD_eq_getElem?_getD,List.getElem?_map];cases d.waits[i]?<;>rfl
 show ((d.waits.map fun _=>([]:List ByteArray)).getD i []).getLast?.getD (((List.range d.lasts.length).map d.now).getD i ByteArray.empty)=d.now i;rw [hw,List.getD_eq_getElem?_getD,List.getElem?_map,List.getElem?_range hi];rfl
theorem Dk.flush_pend (d:Dk):d.flush.pend=0:=by
 show ((d.waits.map fun _=>([]:List ByteArray)).map List.length).sum=0;rw [List.map_map];generalize d.waits=l;induction l with
 | nil=>rfl
 | cons x l ih=>simp only [List.map_cons,List.sum_cons,ih];rfl
end
section
open Go Go.RowKit
structure Pt.ok (p:Pt):Prop where
 gen:0<p.gen
 gen':p.gen<2 ^ (8*8)
 number:p.number<256
 all:p.all<256
 text:p.text.length≤48
 all0:0<p.all
theorem body_ne (p:Pt) (h:p.ok):p.body≠List.replicate 60 0:=by
 intro e;have h1:=(readL_body p h.gen' h.number h.all h.text);rw [e] at h1;have h2:(readL (List.replicate 60 0)).1.gen=p.gen:=by rw [h1]
 have h3:(readL (List.replicate 60 0)).1.gen=0:=by decide
 have:=h.gen;omega
theorem look_sec (p : Pt) (h : p.ok) : lookL p.sec.data.toList=(p.body,1):=by
 have e:p.sec.data.toList=closeL p.body:=by simp [Pt.sec,str]
 rw [e]
 exact lookL_closeL _ (p.body_len h.text) (body_ne p h) (by have:=sumN_lt p.body;have e2:(2:Nat) ^ (8*4)=4294967296:=by decide
                                                            omega)
theorem cutL_ok (t:List UInt8) (g:Nat) (hg:0<g) (hg2:g<2 ^ (8*8)) (ht:t.length≤400):∀p ∈ cutL t g,p.ok:=by
 intro p hp;obtain ⟨i,hi,rfl⟩:=List.mem_iff_getElem.1 hp;obtain ⟨c1,c2,c3,c4⟩:=cutL_get t g i hi;have hn:(cutL t g).length≤9:=by rw [cutL_len];unfold allOf;omega
 rw [cutL_len] at hn;exact ⟨by omega,by omega,by rw [cutL_len] at hi;omega,by omega,c4,by rw [c3];unfold allOf;omega⟩
theorem sec_size (p:Pt) (h:p.ok):p.sec.size=64:=by
 rw [Pt.sec,str_size,closeL,List.length_append,p.body_len h.text,leB_len]
end
section
open Go Go.RowKit
theorem holdL_le {l:List Pt} {m:Nat} (h:∀p ∈ l,p.gen≤m):(holdL l).2≤m:=by
 have hf:firstGen l≤m:=by
  cases l with
  | nil=>simp [firstGen]
  | cons p l=>exact h p (by simp)
 unfold holdL;split
 ·exact Nat.zero_le _
 ·split
  ·exact Nat.zero_le _
  ·split
   ·exact hf
   ·exact Nat.zero_le _
end
section
open Go Go.RowKit
def Kp.put (k:Kp) (t:List UInt8):Kp := { k with seen:=k.seen+1,text:=t,gen:=k.seen+1,at_:=1 - k.at_,broken:=false }
end
section
open Go Go.RowKit
structure Lp.ok (p:Lp):Prop where
 epoch0:0<p.epoch
 epoch:p.epoch<2 ^ (8*8)
 salt:p.salt<2 ^ (8*8)
 ahead:p.ahead<2 ^ (8*8)
 number:p.number<256
 all:p.all<256
 text:p.text.length≤32
 all0:0<p.all
theorem readG_body (p:Lp) (h:p.ok):readG p.body=(p,true):=by
 obtain ⟨e,s,a,n,al,t⟩:=p;obtain ⟨h0,he,hs,ha,hn,hal,ht,-⟩:=h;simp only at h0 he hs ha hn hal ht
 have hb:Lp.body ⟨e,s,a,n,al,t⟩=leB e 8++(leB s 8++(leB a 8++([UInt8.ofNat n,UInt8.ofNat al,UInt8.ofNat t.length,0]++(t++List.replicate (32 - t.length) 0)))):=by simp [Lp.body]
 generalize Lp.body ⟨e,s,a,n,al,t⟩=B at *;have d0:B.take 8=leB e 8:=by rw [hb,List.take_left' (leB_len _ _)]
 have d8:B.drop 8=leB s 8++(leB a 8++([UInt8.ofNat n,UInt8.ofNat al,UInt8.ofNat t.length,0]++(t++List.replicate (32 - t.length) 0))):=by rw [hb,List.drop_left' (leB_len _ _)]
 have d16:B.drop 16=leB a 8++([UInt8.ofNat n,UInt8.ofNat al,UInt8.ofNat t.length,0]++(t++List.replicate (32 - t.length) 0)):=by
  rw [show B.drop 16=(B.drop 8).drop 8 by rw [List.drop_drop],d8,List.drop_left' (leB_len _ _)]
 have d24:B.drop 24=[UInt8.ofNat n,UInt8.ofNat al,UInt8.ofNat t.length,0]++(t++List.replicate (32 - t.length) 0):=by
  rw [show B.drop 24=(B.drop 16).drop 8 by rw [List.drop_drop],d16,List.drop_left' (leB_len _ _)]
 have hg:∀i,B.getD (24+i) 0=([UInt8.ofNat n,UInt8.ofNat al,UInt8.ofNat t.length,0]++(t++List.replicate (32 - t.length) 0)).getD i 0:=by
  intro i;rw [List.getD_eq_getElem?_getD,List.getD_eq_getElem?_getD,← d24,List.getElem?_drop]
 have g24:B.getD 24 0=UInt8.ofNat n:=hg 0;have g25:B.getD 25 0=UInt8.ofNat al:=hg 1;have g26:B.getD 26 0=UInt8.ofNat t.length:=hg 2;have g27:B.getD 27 0=0:=hg 3;have hdr:∀i,B.drop (28+i)=(t++List.replicate (32 - t.length) 0).drop i:=by
  intro i;rw [show B.drop (28+i)=((B.drop 24).drop 4).drop i by rw [List.drop_drop,List.drop_drop,← Nat.add_assoc],d24];rfl
 have hu:∀x,x<256→(UInt8.ofNat x).toNat=x:=fun x hx=>by simp;omega
 have e0:=hdr 0;rw [Nat.add_zero] at e0;rw [readG,g24,g25,g26,g27,hu n hn,hu al hal,hu t.length (by omega),if_neg (by omega),d0,d8,d16,List.take_left' (leB_len _ _),List.take_left' (leB_len _ _),leN_leB _ _ he,leN_leB _ _ hs,leN_leB _ _ ha,e0,hdr t.length];simp
theorem bodyG_ne (p:Lp) (h:p.ok):p.body≠List.replicate 60 0:=by
 intro e;have h1:=readG_body p h;rw [e] at h1;have h2:(readG (List.replicate 60 0)).1.epoch=p.epoch:=by rw [h1]
 have h3:(readG (List.replicate 60 0)).1.epoch=0:=by decide
 have:=h.epoch0;omega
theorem look_secG (p : Lp) (h : p.ok) : lookL p.sec.data.toList=(p.body,1):=by
 have e:p.sec.data.toList=closeL p.body:=by simp [Lp.sec,str]
 rw [e]
 exact lookL_closeL _ (p.body_len h.text) (bodyG_ne p h) (by have:=sumN_lt p.body;have e2:(2:Nat) ^ (8*4)=4294967296:=by decide
                                                             omega)
theorem secG_size (p:Lp) (h:p.ok):p.sec.size=64:=by
 rw [Lp.sec,str_size,closeL,List.length_append,p.body_len h.text,leB_len]
theorem partsOf_pos (n:Nat):1≤partsOf n:=by unfold partsOf;omega
theorem cutG_ok (t:List UInt8) (e s a:Nat) (h0:0<e) (he:e<2 ^ (8*8)) (hs:s<2 ^ (8*8)) (ha:a<2 ^ (8*8)) (ht:t.length≤1024):∀p ∈ cutG t e s a,p.ok:=by
 intro p hp;obtain ⟨i,hi,rfl⟩:=List.mem_iff_getElem.1 hp;obtain ⟨c1,c2,c3,c4,c5,c6⟩:=cutG_get t e s a i hi;rw [cutG_len] at hi;have hn:partsOf t.length≤32:=by unfold partsOf;omega
 have hn1:=partsOf_pos t.length;exact ⟨by omega,by omega,by omega,by omega,by omega,by omega,c6,by omega⟩
theorem cutG_cons (t:List UInt8) (e s a:Nat):∃p r,cutG t e s a=p::r∧p.epoch=e∧p.salt=s∧p.ahead=a∧p.all=partsOf t.length:=by
 have hn:0<(cutG t e s a).length:=by rw [cutG_len];exact partsOf_pos _
 obtain ⟨c1,c2,c3,c4,c5,c6⟩:=cutG_get t e s a 0 hn;cases h:cutG t e s a with
 | nil=>rw [h] at hn;simp at hn
 | cons p r =>
   simp only [h,List.getElem_cons_zero] at c1 c2 c3 c5;exact ⟨p,r,rfl,c1,c2,c3,c5⟩
def secO:Option Lp→ByteArray
 | none=>zeros64
 | some p=>p.sec
structure CellsIs (d:Dk) (a:Nat) (L:List (Option Lp)):Prop where
 cell:∀i (h:i<L.length),d.now (a+i)=secO L[i]
 ok:∀p,some p ∈ L→p.ok
def rowL:List (Option Lp)→List Lp
 | some p::r=>p::rowL r
 | _=>[]
def saltL (L:List (Option Lp)):Nat:=L.foldl (fun m o=>max m (o.elim 0 Lp.salt)) 0
theorem rowL_some (A:List (Option Lp)) (p:Lp):rowL (A++[some p])=if A.all Option.isSome then rowL A++[p] else rowL A:=by
 induction A with
 | nil=>rfl
 | cons x A ih =>
   cases x with
   | none=>rfl
   | some q =>
     simp only [List.cons_append,rowL,ih,List.all_cons,Option.isSome_some,Bool.true_and];split<;>rfl
theorem rowL_none (A:List (Option Lp)):rowL (A++[none])=rowL A:=by
 induction A with
 | nil=>rfl
 | cons x A ih =>
   cases x with
   | none=>rfl
   | some q=>simp only [List.cons_append,rowL,ih]
theorem rowL_map (l:List Lp) (R:List (Option Lp)):rowL (l.map some++R)=l++rowL R:=by
 induction l with
 | nil=>rfl
 | cons p l ih=>simp only [List.map_cons,List.cons_append,rowL,ih]
theorem rowL_mem {L:List (Option Lp)} {p:Lp} (h:p ∈ rowL L):some p ∈ L:=by
 induction L with
 | nil=>simp [rowL] at h
 | cons x L ih =>
   cases x with
   | none=>simp [rowL] at h
   | some q =>
     simp only [rowL,List.mem_cons] at h;rcases h with rfl | h
     ·simp
     ·exact List.mem_cons_of_mem _ (ih h)
theorem foldSalt_ge (L:List (Option Lp)) (s:Nat):s≤L.foldl (fun m o=>max m (o.elim 0 Lp.salt)) s:=by
 induction L generalizing s with
 | nil=>exact Nat.le_refl _
 | cons x L ih=>exact Nat.le_trans (Nat.le_max_left _ _) (ih _)
theorem foldSalt_mem {L:List (Option Lp)} {p:Lp} (h:some p ∈ L) (s:Nat):p.salt≤L.foldl (fun m o=>max m (o.elim 0 Lp.salt)) s:=by
 induction L generalizing s with
 | nil=>simp at h
 | cons x L ih =>
   rcases List.mem_cons.1 h with rfl | h
   ·exact Nat.le_trans (Nat.le_max_right _ _) (foldSalt_ge L _)
   ·exact ih h _
theorem foldSalt_le {L:List (Option Lp)} {m:Nat} (h:∀p,some p ∈ L→p.salt≤m) (s:Nat) (hs:s≤m):L.foldl (fun m o=>max m (o.elim 0 Lp.salt)) s≤m:=by
 induction L generalizing s with
 | nil=>exact hs
 | cons x L ih =>
   refine ih (fun p hp=>h p (by simp [hp])) _ ?_;cases x with
   | none=>simpa using hs
   | some q=>exact Nat.max_le.2 ⟨hs,h q (by simp)⟩
theorem saltL_mem {L:List (Option Lp)} {p:Lp} (h:some p ∈ L):p.salt≤saltL L:=foldSalt_mem h 0
theorem saltL_le {L:List (Option Lp)} {m:Nat} (h:∀p,some p ∈ L→p.salt≤m):saltL L≤m:=foldSalt_le h 0 (Nat.zero_le _)
theorem look_zeros:lookL zeros64.data.toList=([],0):=by
 unfold lookL;rw [if_neg (by simp [zeros64,str]),if_pos (by rfl)]
theorem scanAt_is {d:Dk} {a:Nat} {L:List (Option Lp)} (h:CellsIs d a L) (k:Nat) (hk:k≤L.length):scanAt d a k=⟨rowL (L.take k),(L.take k).all Option.isSome,saltL (L.take k),false⟩:=by
 induction k with
 | zero=>rfl
 | succ k ih =>
   have hlt:k<L.length:=by omega
   rw [scanAt_succ,ih (by omega),scanStep,if_neg (by simp),h.cell k hlt,List.take_succ_eq_append_getElem hlt];have hmem:L[k] ∈ L:=List.getElem_mem hlt;cases hx:L[k] with
   | none =>
     rw [show secO none=zeros64 from rfl,look_zeros,if_neg (by decide),if_neg (by decide),rowL_none];simp [saltL]
   | some p =>
     have hok:=h.ok p (hx ▸ hmem);rw [show secO (some p)=p.sec from rfl,look_secG p hok,if_neg (by simp),if_pos rfl,readG_body p hok,rowL_some];simp [saltL]
theorem chunks32 (t:List UInt8) (n:Nat):((List.range n).flatMap fun i=>(t.drop (32*i)).take 32)=t.take (32*n):=by
 induction n with
 | zero=>simp
 | succ n ih=>rw [List.range_succ,List.flatMap_append,ih];simp [List.take_add,Nat.mul_add]
theorem textG_cut (t:List UInt8) (e s a:Nat):textG (cutG t e s a)=t:=by
 have h:=chunks32 t (partsOf t.length);rw [textG,cutG,List.flatMap_map];rw [h,List.take_of_length_le];unfold partsOf;omega
theorem firstG_cut (t:List UInt8) (e s a:Nat) (rest:List Lp) (ht:t.length≤1024):firstG e a (cutG t e s a++rest)=(t,true):=by
 obtain ⟨p,r,hc,c1,c2,c3,c4⟩:=cutG_cons t e s a;have hl:(p::r).length=partsOf t.length:=by rw [← hc,cutG_len]
 have htk:(p::(r++rest)).take (partsOf t.length)=cutG t e s a:=by
  rw [← List.cons_append,← hl,List.take_left' rfl,hc]
 have hl2:partsOf t.length≤(p::(r++rest)).length:=by
  rw [← hl];simp only [List.length_cons,List.length_append];omega
 rw [hc,List.cons_append,firstG,c4,htk,textG_cut,if_neg (by omega),if_neg (by omega),htk,c2,decide_eq_true ⟨hl2,rfl⟩]
theorem firstG_true {e a:Nat} {row:List Lp} (h:(firstG e a row).2=true):∃t s rest,t.length≤1024∧row=cutG t e s a++rest:=by
 unfold firstG at h;split at h
 ·simp at h
 ·split at h
  ·simp at h
  ·split at h
   ·simp at h
   ·rename_i p r h1 h2
    simp only [decide_eq_true_eq] at h;exact ⟨textG ((p::r).take p.all),p.salt,(p::r).drop (partsOf (textG ((p::r).take p.all)).length),by omega,by rw [h.2,List.take_append_drop]⟩
theorem firstG_head {e a:Nat} {p:Lp} {r:List Lp} (h:(firstG e a (p::r)).2=true):p.epoch=e∧p.ahead=a:=by
 obtain ⟨t,s,rest,-,hr⟩:=firstG_true h;obtain ⟨q,r',hc,c1,c2,c3,c4⟩:=cutG_cons t e s a;rw [hc,List.cons_append] at hr;injection hr with h3 h4;rw [h3];exact ⟨c1,c3⟩
theorem firstG_stop {e a:Nat} {l:List Lp} (h:∀p ∈ l,p.epoch≠e∨p.ahead≠a):(firstG e a l).2=false:=by
 cases l with
 | nil=>rfl
 | cons p r =>
   cases hf:(firstG e a (p::r)).2 with
   | false=>rfl
   | true =>
     obtain ⟨h1,h2⟩:=firstG_head hf;rcases h p (by simp) with h3 | h3
     ·exact absurd h1 h3
     ·exact absurd h2 h3
def rowOf (e:Nat):Nat→List (List UInt8 × Nat)→List Lp
 | _,[]=>[]
 | last,q::r=>cutG q.1 e q.2 last++rowOf e q.2 r
def lastOf:Nat→List (List UInt8 × Nat)→Nat
 | last,[]=>last
 | _,q::r=>lastOf q.2 r
theorem rowOf_snoc (e last:Nat) (rs:List (List UInt8 × Nat)) (q:List UInt8 × Nat):rowOf e last (rs++[q])=rowOf e last rs++cutG q.1 e q.2 (lastOf last rs):=by
 induction rs generalizing last with
 | nil=>simp [rowOf,lastOf]
 | cons x rs ih=>simp only [List.cons_append,rowOf,lastOf,ih,List.append_assoc]
theorem lastOf_snoc (last:Nat) (rs:List (List UInt8 × Nat)) (q:List UInt8 × Nat):lastOf last (rs++[q])=q.2:=by
 induction rs generalizing last with
 | nil=>rfl
 | cons x rs ih=>simp only [List.cons_append,lastOf,ih]
theorem rowOf_len (e last:Nat) (rs:List (List UInt8 × Nat)):rs.length≤(rowOf e last rs).length:=by
 induction rs generalizing last with
 | nil=>simp
 | cons x rs ih =>
   have:=ih x.2;have:=partsOf_pos x.1.length;simp only [rowOf,List.length_append,cutG_len,List.length_cons];omega
theorem lastOf_le {e last m:Nat} {rs:List (List UInt8 × Nat)} (h:∀p ∈ rowOf e last rs,p.salt≤m) (hl:last≤m):lastOf last rs≤m:=by
 induction rs generalizing last with
 | nil=>exact hl
 | cons x rs ih =>
   refine ih (fun p hp=>h p (List.mem_append_right _ hp)) ?_;obtain ⟨p,r,hc,c1,c2,c3,c4⟩:=cutG_cons x.1 e x.2 last;have:=h p (List.mem_append_left _ (by rw [hc];simp))
   omega
theorem loopG_row (rs:List (List UInt8 × Nat)) (hs:∀q ∈ rs,q.1.length≤1024) (rest:List Lp) (g:Lg) (n:Nat) (hn:rs.length<n) (hst:(firstG g.epoch (lastOf g.last rs) rest).2=false) :
 loopG n g (rowOf g.epoch g.last rs++rest) = { g with l:=g.l++rs.map (fun q=>str q.1),last:=lastOf g.last rs,used:=g.used+(rowOf g.epoch g.last rs).length } := by
 induction rs generalizing g n with
 | nil =>
   obtain ⟨m,rfl⟩:∃m,n=m+1:=⟨n - 1,by omega⟩;rw [loopG,if_neg]
   ·simp [rowOf,lastOf]
   ·simpa [rowOf,lastOf] using hst
 | cons x rs ih =>
   obtain ⟨m,rfl⟩:∃m,n=m+1:=⟨n - 1,by simp at hn;omega⟩;have hx:=hs x (by simp);have hf:=firstG_cut x.1 g.epoch x.2 g.last (rowOf g.epoch x.2 rs++rest) hx;obtain ⟨p,r,hc,c1,c2,c3,c4⟩:=cutG_cons x.1 g.epoch x.2 g.last;have hhd:((cutG x.1 g.epoch x.2 g.last++(rowOf g.epoch x.2 rs++rest)).headD ⟨0,0,0,0,0,[]⟩).salt=x.2:=by rw [hc];exact c2
   have hdr:(cutG x.1 g.epoch x.2 g.last++(rowOf g.epoch x.2 rs++rest)).drop (partsOf x.1.length)=rowOf g.epoch x.2 rs++rest:=by
    rw [List.drop_left' (cutG_len _ _ _ _)]
   rw [loopG,rowOf,List.append_assoc,hf,if_pos rfl,hhd,hdr];have:=ih (fun q hq=>hs q (by simp [hq])) { g with l:=g.l++[str x.1],last:=x.2,used:=g.used+partsOf x.1.length } m (by simp at hn;omega) hst;rw [this];simp [lastOf,cutG_len,Nat.add_assoc]
structure LogIs (d:Dk) (g:Lg) (rs:List (List UInt8 × Nat)) (R:List (Option Lp)):Prop where
 fuse:d.fuse=-1
 off:d.off=false
 waits:d.waits.length=d.lasts.length
 room:g.from_+g.sectors≤d.lasts.length
 pos:1≤g.sectors
 epoch0:0<g.epoch
 epoch:g.epoch<18446744073709551616
 cells:CellsIs d g.from_ ((rowOf g.epoch 0 rs).map some++R)
 len:(rowOf g.epoch 0 rs).length+R.length=g.sectors
 recs:g.l=rs.map (fun q=>str q.1)
 used:g.used=(rowOf g.epoch 0 rs).length
 last:g.last=lastOf 0 rs
 salt:g.salt=saltL ((rowOf g.epoch 0 rs).map some++R)
 aheads:∀p,some p ∈ (rowOf g.epoch 0 rs).map some++R→p.ahead≤g.salt
 small:∀q ∈ rs,q.1.length≤1024
 broken:g.broken=false
 stop:(firstG g.epoch g.last (rowL R)).2=false
theorem LogIs.opens {d:Dk} {g:Lg} {rs:List (List UInt8 × Nat)} {R:List (Option Lp)} (h:LogIs d g rs R):openG d g.from_ g.sectors g.epoch=some g:=by
 have hl:((rowOf g.epoch 0 rs).map some++R).length=g.sectors:=by rw [List.length_append,List.length_map];exact h.len
 have hs:=scanAt_is h.cells g.sectors (by omega);rw [List.take_of_length_le (by omega),rowL_map,← h.salt] at hs;unfold openG;rw [hs,if_neg (by simp)];have hlo:=loopG_row rs h.small (rowL R) ⟨g.from_,g.sectors,g.epoch,[],0,0,g.salt,false⟩ ((rowOf g.epoch 0 rs++rowL R).length+1) (by have:=rowOf_len g.epoch 0 rs;rw [List.length_append];omega) (by have:=h.stop;rw [h.last] at this;exact this);rw [hlo];congr 1
 obtain ⟨g1,g2,g3,g4,g5,g6,g7,g8⟩:=g;have e1:=h.recs;have e2:=h.used;have e3:=h.last;have e4:=h.broken;simp only at e1 e2 e3 e4 ⊢
 rw [e1,e2,e3,e4];simp
theorem LogIs.last_le {d:Dk} {g:Lg} {rs:List (List UInt8 × Nat)} {R:List (Option Lp)} (h:LogIs d g rs R):g.last≤g.salt:=by
 rw [h.last];exact lastOf_le (e:=g.epoch) (fun p hp=>by rw [h.salt];exact saltL_mem (List.mem_append_left _ (List.mem_map.2 ⟨p,hp,rfl⟩))) (Nat.zero_le _)
theorem LogIs.other {d:Dk} {g:Lg} {rs:List (List UInt8 × Nat)} {R:List (Option Lp)} (h:LogIs d g rs R) (e:Nat) (h0:0<e) (he:e<18446744073709551616) (hst:(firstG e 0 (rowL ((rowOf g.epoch 0 rs).map some++R))).2=false) :
 LogIs d ⟨g.from_,g.sectors,e,[],0,0,g.salt,false⟩ [] ((rowOf g.epoch 0 rs).map some++R) :=
 ⟨h.fuse,h.off,h.waits,h.room,h.pos,h0,he,by simpa [rowOf] using h.cells,by simpa [rowOf] using h.len,rfl,rfl,rfl,by simpa [rowOf] using h.salt,by simpa [rowOf] using h.aheads,by simp,rfl,hst⟩
theorem fresh_log (n f m e:Nat) (h:f+m≤n) (hm:1≤m) (h0:0<e) (he:e<18446744073709551616):LogIs (Dk.fresh n) ⟨f,m,e,[],0,0,0,false⟩ [] (List.replicate m none):=by
 have hno:∀p:Lp,some p ∉ List.replicate m (none:Option Lp):=fun p hp=>by have:=List.eq_of_mem_replicate hp;simp at this
 have hrow:rowL (List.replicate m none)=[]:=by cases m<;>rfl
 refine ⟨rfl,rfl,by simp [Dk.fresh],by simpa [Dk.fresh] using h,hm,h0,he,⟨fun i hi=>?_,fun p hp=>absurd hp (hno p)⟩,by simp [rowOf],rfl,rfl,rfl,?_,fun p hp=>absurd hp (hno p),by simp,rfl,by rw [hrow];rfl⟩
 ·have e:(Dk.fresh n).now (f+i)=zeros64:=by
   have hi':i<m:=by simpa [rowOf] using hi
   unfold Dk.now Dk.at_ Dk.last Dk.fresh;simp only [List.getD_eq_getElem?_getD,List.getElem?_replicate];rw [if_pos (by omega),if_pos (by omega)];rfl
  simp [rowOf,e,secO]
 ·have:saltL (List.replicate m none)≤0:=saltL_le fun p hp=>absurd hp (hno p)
  show 0=saltL (List.replicate m none);omega
theorem writeB_free {d:Dk} (h:d.fuse=-1) (ho:d.off=false) (hw:d.waits.length=d.lasts.length) (a:Nat) (l:List ByteArray) (hs:∀q ∈ l,q.size=64) (j:Nat) (hj:j≤l.length) (ha:a+j≤d.lasts.length) :
 (writeB d a l j).2=0∧(writeB d a l j).1.fuse=-1∧(writeB d a l j).1.off=false ∧
   ∀i,(writeB d a l j).1.now i=if a≤i∧i<a+j then l.getD (i - a) ByteArray.empty else d.now i:=by
 induction j with
 | zero=>exact ⟨rfl,h,ho,fun i=>by rw [if_neg (by omega)];rfl⟩
 | succ j ih =>
   obtain ⟨i1,i2,i3,i4⟩:=ih (by omega) (by omega);obtain ⟨s1,s2,s3⟩:=writeB_same d a l hw j;have hq:(l.getD j ByteArray.empty).size=64:=by
    rw [List.getD_eq_getElem?_getD,List.getElem?_eq_getElem (by omega)];exact hs _ (List.getElem_mem _)
   have hwr:=Dk.write_free i2 i3 (i:=a+j) (by rw [s1];omega) hq;rw [writeB,if_neg (by rw [i1];simp),hwr]
   refine ⟨rfl,i2,i3,fun i=>?_⟩;rw [Dk.push_now _ _ _ _ (by rw [s2,hw];omega),i4];by_cases e:a+j=i
   ·subst e
    rw [if_pos rfl,if_pos (by omega),Nat.add_sub_cancel_left]
   ·rw [if_neg e]
    by_cases e2:a≤i∧i<a+j
    ·rw [if_pos e2,if_pos (by omega)]
    ·rw [if_neg e2,if_neg (by omega)]
def Lg.added (g:Lg) (s:ByteArray):Lg := { g with salt:=g.salt+1,last:=g.salt+1,broken:=false,l:=g.l++[s],used:=g.used+partsOf s.size }
def addD (d:Dk) (g:Lg) (s:ByteArray):Dk:=(wroteG d g s.data.toList).1.flush
theorem added_is {d d2:Dk} {g:Lg} {rs:List (List UInt8 × Nat)} {R:List (Option Lp)} (h:LogIs d g rs R) (s:ByteArray) (hs:s.size≤1024) (hr:partsOf s.size≤R.length) (hsalt:g.salt<18446744073709551615)
 (hf2:d2.fuse=-1) (ho2:d2.off=false) (hw2:d2.waits.length=d2.lasts.length) (hl2:d2.lasts.length=d.lasts.length)
 (hnow:∀i,i<g.sectors→d2.now (g.from_+i)=if g.used≤i∧i<g.used+partsOf s.size then (secsG g s.data.toList).getD (i - g.used) ByteArray.empty else d.now (g.from_+i)) :
 LogIs d2 (g.added s) (rs++[(s.data.toList,g.salt+1)]) (R.drop (partsOf s.size)):=by
 have hlen:=h.len;have hroom:=h.room;have hused:=h.used;have e64:(2:Nat) ^ (8*8)=18446744073709551616:=by decide
 have hl64:s.data.toList.length=s.size:=by simp
 have hep:=h.epoch;have hll:=h.last_le;have hok:=cutG_ok s.data.toList g.epoch (g.salt+1) g.last h.epoch0 (by omega) (by omega) (by omega) (by omega);have hcl:=cutG_len s.data.toList g.epoch (g.salt+1) g.last;rw [hl64] at hcl;have hsl:=secsG_len g s.data.toList;rw [hl64] at hsl;have hrow:rowOf g.epoch 0 (rs++[(s.data.toList,g.salt+1)])=rowOf g.epoch 0 rs++cutG s.data.toList g.epoch (g.salt+1) g.last:=by
  rw [rowOf_snoc,← h.last]
 have hmem:∀p,some p ∈ (rowOf g.epoch 0 rs++cutG s.data.toList g.epoch (g.salt+1) g.last).map some++R.drop (partsOf s.size)→p ∈ cutG s.data.toList g.epoch (g.salt+1) g.last∨some p ∈ (rowOf g.epoch 0 rs).map some++R:=by
  intro p hp;rcases List.mem_append.1 hp with e | e
  ·obtain ⟨q,hq,e⟩:=List.mem_map.1 e
   injection e with e;subst e;rcases List.mem_append.1 hq with e | e
   ·exact .inr (List.mem_append_left _ (List.mem_map.2 ⟨q,e,rfl⟩))
   ·exact .inl e
  ·exact .inr (List.mem_append_right _ (List.mem_of_mem_drop e))
 have hcut:∀p ∈ cutG s.data.toList g.epoch (g.salt+1) g.last,p.salt=g.salt+1∧p.ahead=g.last:=by
  intro p hp;obtain ⟨i,hi,rfl⟩:=List.mem_iff_getElem.1 hp;obtain ⟨c1,c2,c3,c4⟩:=cutG_get _ _ _ _ i hi;exact ⟨c2,c3⟩
 have hsal:g.salt+1=saltL ((rowOf g.epoch 0 rs++cutG s.data.toList g.epoch (g.salt+1) g.last).map some++R.drop (partsOf s.size)):=by
  apply Nat.le_antisymm
  ·obtain ⟨p,r,hc,c1,c2,c3,c4⟩:=cutG_cons s.data.toList g.epoch (g.salt+1) g.last
   have:=saltL_mem (L:=(rowOf g.epoch 0 rs++cutG s.data.toList g.epoch (g.salt+1) g.last).map some++R.drop (partsOf s.size)) (p:=p) (List.mem_append_left _ (List.mem_map.2 ⟨p,List.mem_append_right _ (by rw [hc];simp),rfl⟩))
   omega
  ·refine saltL_le fun p hp=>?_
   rcases hmem p hp with e | e
   ·have:=(hcut p e).1;omega
   ·have:=saltL_mem e
    rw [← h.salt] at this;omega
 have hah:∀p,some p ∈ (rowOf g.epoch 0 rs++cutG s.data.toList g.epoch (g.salt+1) g.last).map some++R.drop (partsOf s.size)→p.ahead≤g.salt+1:=by
  intro p hp;rcases hmem p hp with e | e
  ·have:=(hcut p e).2;omega
  ·have:=h.aheads p e;omega
 have hrl:((rowOf g.epoch 0 rs).map some:List (Option Lp)).length=g.used:=by rw [List.length_map,hused]
 have hepo:(g.added s).epoch=g.epoch:=rfl;have hfr:(g.added s).from_=g.from_:=rfl;refine ⟨hf2,ho2,hw2,by rw [hl2];exact hroom,h.pos,h.epoch0,hep,⟨fun i hi=>?_,fun p hp=>?_⟩,?_,?_,?_,?_,?_,?_,?_,rfl,?_⟩
 ·have hi2:i<g.used+partsOf s.size+(R.length - partsOf s.size):=by
   rw [hepo,hrow,List.length_append,List.length_map,List.length_append,hcl,List.length_drop,← hused] at hi;exact hi
  rw [hfr,hnow i (by omega)];have hL:((rowOf (g.added s).epoch 0 (rs++[(s.data.toList,g.salt+1)])).map some++R.drop (partsOf s.size))=(rowOf g.epoch 0 rs).map some++((cutG s.data.toList g.epoch (g.salt+1) g.last).map some++R.drop (partsOf s.size)):=by
   rw [hepo,hrow,List.map_append,List.append_assoc]
  simp only [hL];by_cases e1:i<g.used
  ·rw [if_neg (by omega),h.cells.cell i (by rw [List.length_append];omega),List.getElem_append_left (by omega),List.getElem_append_left (by omega)]
  ·by_cases e2:i<g.used+partsOf s.size
   ·rw [if_pos (by omega),List.getElem_append_right (by omega)]
    rw [List.getElem_append_left (by simp only [List.length_map];omega),List.getD_eq_getElem?_getD,List.getElem?_eq_getElem (by omega)];simp only [secsG,List.getElem_map,Option.getD_some,secO,hrl]
   ·rw [if_neg (by omega),h.cells.cell i (by rw [List.length_append];omega),List.getElem_append_right (by omega),List.getElem_append_right (by omega)]
    rw [List.getElem_append_right (by simp only [List.length_map];omega)];simp only [List.getElem_drop,List.length_map,hcl,← hused];congr 2
    omega
 ·rw [hepo,hrow] at hp
  rcases hmem p hp with e | e
  ·exact hok p e
  ·exact h.cells.ok p e
 ·show (rowOf g.epoch 0 _).length+_=g.sectors
  rw [hrow,List.length_append,hcl,List.length_drop];omega
 ·show g.l++[s]=_
  rw [List.map_append,h.recs];rfl
 ·show g.used+partsOf s.size=(rowOf g.epoch 0 _).length
  rw [hrow,List.length_append,hcl,hused]
 ·show g.salt+1=_
  rw [lastOf_snoc]
 ·show g.salt+1=saltL ((rowOf g.epoch 0 _).map some++_)
  rw [hrow];exact hsal
 ·intro p hp
  show p.ahead≤g.salt+1;rw [hepo,hrow] at hp;exact hah p hp
 ·intro q hq
  rcases List.mem_append.1 hq with e | e
  ·exact h.small q e
  ·rw [List.mem_singleton.1 e,hl64];exact hs
 ·show (firstG g.epoch (g.salt+1) _).2=false
  refine firstG_stop fun p hp=>.inr ?_
  have:=h.aheads p (List.mem_append_right _ (List.mem_of_mem_drop (rowL_mem hp)));omega
theorem add_is {d:Dk} {g:Lg} {rs:List (List UInt8 × Nat)} {R:List (Option Lp)} (h:LogIs d g rs R) (s:ByteArray) (hs:s.size≤1024) (hr:partsOf s.size≤R.length) (hsalt:g.salt<18446744073709551615) :
 addG d g s=(addD d g s,g.added s,0)∧LogIs (addD d g s) (g.added s) (rs++[(s.data.toList,g.salt+1)]) (R.drop (partsOf s.size))∧(addD d g s).lasts.length=d.lasts.length∧(addD d g s).pend=0 ∧
  ∀i,i<d.lasts.length→(i<g.from_∨g.from_+g.sectors≤i)→(addD d g s).now i=d.now i:=by
 have hlen:=h.len;have hroom:=h.room;have hused:=h.used;have e64:(2:Nat) ^ (8*8)=18446744073709551616:=by decide
 have hl64:s.data.toList.length=s.size:=by simp
 have hep:=h.epoch;have hll:=h.last_le;have hok:=cutG_ok s.data.toList g.epoch (g.salt+1) g.last h.epoch0 (by omega) (by omega) (by omega) (by omega);have hsl:=secsG_len g s.data.toList;rw [hl64] at hsl;have hsz:∀q ∈ secsG g s.data.toList,q.size=64:=by
  intro q hq;obtain ⟨p,hp,rfl⟩:=List.mem_map.1 hq;exact secG_size p (hok p hp)
 obtain ⟨w1,w2,w3,w4⟩:=writeB_free h.fuse h.off h.waits (g.from_+g.used) (secsG g s.data.toList) hsz (partsOf s.size) (by omega) (by omega);obtain ⟨s1,s2,s3⟩:=writeB_same d (g.from_+g.used) (secsG g s.data.toList) h.waits (partsOf s.size);have hwg:wroteG d g s.data.toList=writeB d (g.from_+g.used) (secsG g s.data.toList) (partsOf s.size):=by rw [wroteG,hl64]
 have hD:addD d g s=(writeB d (g.from_+g.used) (secsG g s.data.toList) (partsOf s.size)).1.flush:=by rw [addD,hwg]
 have hlasts:(addD d g s).lasts.length=d.lasts.length:=by
  rw [hD];show ((List.range _).map _).length=_;rw [List.length_map,List.length_range,s1]
 have hwaits:(addD d g s).waits.length=(addD d g s).lasts.length:=by
  rw [hlasts,hD];show (List.map _ _).length=_;rw [List.length_map,s2,h.waits]
 have hnow:∀i,i<d.lasts.length→(addD d g s).now i=if g.from_+g.used≤i∧i<g.from_+g.used+partsOf s.size then (secsG g s.data.toList).getD (i - (g.from_+g.used)) ByteArray.empty else d.now i:=by
  intro i hi;rw [hD,Dk.flush_now _ _ (by rw [s1];exact hi),w4]
 refine ⟨?_,added_is h s hs hr hsalt (by rw [hD];exact w2) (by rw [hD];exact w3) hwaits hlasts (fun i hi=>?_),hlasts,by rw [hD];exact Dk.flush_pend _,fun i hi ho=>?_⟩
 ·unfold addG
  rw [h.broken,if_neg (by simp),if_neg (by omega),if_neg (by omega),hwg,if_neg (by rw [w1];simp),Dk.sync_free w2 w3,if_neg (by simp),hD]
  rfl
 ·rw [hnow _ (by omega),Nat.add_sub_add_left]
  by_cases e:g.used≤i∧i<g.used+partsOf s.size
  ·rw [if_pos (by omega),if_pos e]
  ·rw [if_neg (by omega),if_neg e]
 ·rw [hnow i hi,if_neg (by omega)]
theorem LogIs.used_le {d:Dk} {g:Lg} {rs:List (List UInt8 × Nat)} {R:List (Option Lp)} (h:LogIs d g rs R):g.used+R.length=g.sectors:=by rw [h.used];exact h.len
end
section
open Go Go.RowKit
end
section
open Go Go.RowKit
def repB (c:UInt8) (n:Nat):ByteArray:=⟨(Lib.repeatL (⟨#[c]⟩:ByteArray).data.toList n).toArray⟩
theorem rep_c (c:UInt8) (n:Nat) (w:World) (hn:n≤5000) :
 Calls Tryz.prog 20 #[.string ⟨#[c]⟩,.int .i64 (n:Int)] w fun e w'=>e=.returned (.string (repB c n))∧Upd (fun _=>False) w w':=by
 refine (Tryz.strings_Repeat ⟨#[c]⟩ n w (by omega) (by show 1*n≤_;omega)).mono ?_;rintro e w' ⟨rfl,hb⟩;exact ⟨rfl,Upd.of_below hb _⟩
end
section
open Go Go.RowKit
section
variable {w0 w w':World} {p b:Nat} {d:Dk} {k:Kp}
end
end
section
open Go Go.RowKit
end
section
open Go Go.RowKit
section
variable {w0 w w':World} {p b:Nat} {d:Dk} {k:Kp} {F F':List Nat}
end
theorem holdL_true {l:List Pt} (h:(holdL l).2≠0):∃t g rest,g≠0∧t.length≤400∧l=cutL t g++rest∧holdL l=(t,g):=by
 unfold holdL at h ⊢;split at h
 ·simp at h
 ·split at h
  ·simp at h
  ·split at h
   ·rename_i h1 h2 h3
    refine ⟨textL (l.take (firstAll l)),firstGen l,l.drop (allOf (textL (l.take (firstAll l))).length),h1,by omega,by rw [h3,List.take_append_drop],?_⟩;rw [if_neg h1,if_neg h2,if_pos h3]
   ·simp at h
theorem allOf_pos (n:Nat):1≤allOf n:=by unfold allOf;omega
theorem u8_nat {n:Int} (h:(Lit.int .u8 n).wf=true):∃m:Nat,n=m∧m<256:=by
 simp only [Lit.wf,Bool.and_eq_true,decide_eq_true_eq] at h;have h1:IntKind.u8.min=0:=rfl;have h2:IntKind.u8.max=255:=rfl;exact ⟨n.toNat,by omega,by omega⟩
end
section
open Go Go.RowKit Go.Maps Go.Sort Go.Shelf Go.WideShapes
abbrev noElem:Value→Option (DataW Unit × List MemPlace):=fun _=>some (.nil,[])
end
section
open Go Go.RowKit
end
section
open Go Go.RowKit
namespace Dk
def free (d:Dk):Dk := { d with fuse:=-1,off:=false }
theorem free_off {d:Dk} (h1:d.fuse=-1) (h2:d.off=false):d.free=d:=by
 obtain ⟨a,b,c,e⟩:=d;simp only at h1 h2
 subst h1 h2;rfl
end Dk
end
section
open Go Go.RowKit
theorem look_s (s:ByteArray) (w:World) (hs:s.size≤9223372036854775807) :
 Calls Tryz.prog 47 #[.string s] w fun e w'=>e=.returned (.tuple #[.string (str (lookL s.data.toList).1),.int .i64 (lookL s.data.toList).2])∧Upd (fun _=>False) w w':=by
 refine (Look_c s w hs).mono ?_;rintro e w' ⟨rfl,hb⟩;exact ⟨rfl,Upd.of_below hb _⟩
end
section
open Go Go.RowKit Go.ChangeShapes Go.WideShapes Go.ChangeAt Go.Deep
section
variable {H:Type} {enc:TypeId × Value→H} {P:Program} {w:World} {base:Nat} {spare:Nat→Bool} {held:Bool}
end
def i64ok (n:Int):Prop:=-9223372036854775808≤n∧n≤9223372036854775807
theorem i64ok_of {n:Int} (h:(Lit.int .i64 n).wf=true):i64ok n:=by
 simp only [Lit.wf,Bool.and_eq_true,decide_eq_true_eq] at h;have h1:IntKind.i64.min=-9223372036854775808:=rfl;have h2:IntKind.i64.max=9223372036854775807:=rfl;unfold i64ok;omega
theorem add_plain2 (b off i:Nat):(⟨b,off,none⟩:Addr).add i=⟨b,off+i,none⟩:=by unfold Addr.add;simp
theorem pick_list {β : Type} (Q:Nat → β → Prop) (n:Nat) (h:∀i,i<n→∃r,Q i r):∃l:List β,l.length=n∧∀i (hi:i<l.length),Q i l[i]:=by
 induction n with
 | zero=>exact ⟨[],rfl,fun i hi=>absurd hi (by simp)⟩
 | succ n ih =>
   obtain ⟨l,h1,h2⟩:=ih (fun i hi=>h i (by omega));obtain ⟨r,hr⟩:=h n (by omega);refine ⟨l++[r],by simp [h1],fun i hi=>?_⟩;by_cases hil:i<l.length
   ·rw [List.getElem_append_left hil]
    exact h2 i hil
   ·have:i=n:=by simp at hi;omega
    subst this;rw [List.getElem_append_right (by omega)];simpa [h1] using hr
section
variable {H:Type} {enc:TypeId × Value→H} {w:World} {base:Nat} {spare:Nat→Bool} {held:Bool}
end
end
end Go.Proofs.YtbhjgfibhegddaaGreat
