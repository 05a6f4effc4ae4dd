/-
  Parts of the proof of VaultKeys: VatJ, InA, Ref11, InB, InC, VatK, VatL, VatM.
-/
import Derived.ChangeAt2
import Derived.Test.YtbhjgfibhegddaaGreatQVaultKeys16
import Derived.BigQuiet
import Derived.Outline
set_option maxRecDepth 100000
set_option maxHeartbeats 16000000
namespace Go.Proofs.YtbhjgfibhegddaaGreat
section
open Go Go.RowKit
def Ty (w:World) (t:TypeId) (b:Nat):Prop:=∃cur fr,w.heap[b]? = some (.cells cur t fr)
def Mp (w:World) (b:Nat):Prop:=∃es c,w.heap[b]? = some (.map es c)
theorem Ty.inj {w:World} {t t':TypeId} {b:Nat} (h:Ty w t b) (h':Ty w t' b):t=t':=by
 obtain ⟨a,f,e⟩:=h;obtain ⟨a',f',e'⟩:=h';rw [e] at e';injection e' with e';injection e' with _ e'
theorem Ty.no_map {w:World} {t:TypeId} {b:Nat} (h:Ty w t b) (h':Mp w b):False:=by
 obtain ⟨a,f,e⟩:=h;obtain ⟨a',f',e'⟩:=h';rw [e] at e';injection e' with e';cases e'
theorem Blk.ty {w:World} {t:TypeId} {b:Nat} {cs:Array Value} (h:Blk w b t cs):Ty w t b:=⟨cs,(0,0),h⟩
theorem MapB.mp {α : Type} {inj : α → Value} {w:World} {b:Nat} {m:List (α × Value)} (h:MapB inj w b m):Mp w b:=by
 obtain ⟨es,c,h1,-⟩:=h;exact ⟨es,c,h1⟩
theorem Own.ty {w:World} {e:TypeId} {size n:Nat} {v:Value} {xs:List Value} (h:Own w e size v n xs) {q:Nat} (hq:v.ownBlock=some q):Ty w e q:=by
 rcases h.2 with ⟨rfl,_⟩ | ⟨g,cap,cur,fr,rfl,hg,_⟩
 ·simp [Value.ownBlock] at hq
 ·have:g=q:=by simpa [Value.ownBlock] using hq
  subst this;exact ⟨cur,fr,hg⟩
theorem DiskAt.kind {w:World} {p:Nat} {d:Dk} {F:List Nat} (h:DiskAt w p d F) {q:Nat} (hq:q ∈ F):Ty w 151 q∨Ty w 9 q∨Mp w q:=by
 obtain ⟨bl,cap,bm,m,g1,g2,g3,g4,g5,rfl,g7⟩:=h;simp only [List.mem_cons,List.mem_filterMap] at hq;rcases hq with rfl | rfl | rfl | ⟨x,hx,hk⟩
 ·exact .inl g1.ty
 ·exact .inr (.inl (g2.ty (by simp [Value.ownBlock])))
 ·exact .inr (.inr g3.mp)
 ·obtain ⟨i,_,_,_,h8⟩:=g4.each x hx
  exact .inr (.inl (h8.ty hk))
theorem RgE.kind {F:Nat→Prop} {w0 w:World} {r:Nat} {master:ByteArray} {cur boot n kb:Nat} {ents:List (Int × Nat)} (h:RgE F w0 w r master cur boot n kb ents) {q:Nat} (hq:ringOwn r kb ents q):Ty w 186 q∨Ty w 269 q∨q=kb:=by
 rcases hq with rfl | rfl | ⟨e,he,rfl⟩
 ·exact .inl h.blk.ty
 ·exact .inr (.inr rfl)
 ·exact .inr (.inl (h.slots e he).ty)
def anyT:TypeId:=99999999
def TRow (w:World) (t:TypeId) (k:Nat) (v:Value) (cs:List (List Value)):Prop :=
 ∃A cap,v=.slice A cs.length cap∧cs.length≤cap∧cs.length≤1000000∧(0<cs.length→∃b off cur t' fr,A=some ⟨b,off,none⟩∧w.heap[b]? = some (.cells cur t' fr)∧(t≠anyT→t'=t)∧∀i c,cs[i]? = some c→∀j u,c[j]? = some u→cur[off+i*k+j]? = some u)
theorem TRow.upd_ {w w':World} {t:TypeId} {k:Nat} {v:Value} {cs:List (List Value)} {Z:Nat→Prop} (h:TRow w t k v cs) (hu:Upd Z w w') (hz:∀b,v.ownBlock=some b→(t≠anyT→Ty w t b)→¬Z b):TRow w' t k v cs:=by
 obtain ⟨A,cap,h1,h2,h3,h4⟩:=h;refine ⟨A,cap,h1,h2,h3,fun h0=>?_⟩;obtain ⟨b,off,cur,t',fr,e1,e2,e4,e3⟩:=h4 h0;refine ⟨b,off,cur,t',fr,e1,(hu.block b (Array.getElem?_eq_some_iff.1 e2).1 (hz b (by rw [h1,e1];rfl) (fun hn=>⟨cur,fr,?_⟩))).trans e2,e4,e3⟩
 rw [← e4 hn];exact e2
theorem TRow.upd {w w':World} {t:TypeId} {k:Nat} {v:Value} {cs:List (List Value)} {Z:Nat→Prop} (h:TRow w t k v cs) (hu:Upd Z w w') (hz:∀b,Ty w t b→¬Z b) (ht:t≠anyT:=by decide):TRow w' t k v cs :=
 h.upd_ hu fun b _ hb=>hz b (hb ht)
theorem TRow.still {w w':World} {t:TypeId} {k:Nat} {v:Value} {cs:List (List Value)} (h:TRow w t k v cs) (hu:Upd (fun _=>False) w w'):TRow w' t k v cs:=h.upd_ hu (fun _ _ _ e=>e)
theorem TRow.low {w w':World} {t:TypeId} {k N:Nat} {v:Value} {cs:List (List Value)} {Z:Nat→Prop} (h:TRow w t k v cs) (hN:∀b,v.ownBlock=some b→b<N) (hu:Upd Z w w') (hz:∀q,Z q→N≤q):TRow w' t k v cs :=
 h.upd_ hu fun b hb _ e=>Nat.lt_irrefl b (Nat.lt_of_lt_of_le (hN b hb) (hz b e))
theorem TRow.open_ {w:World} {t:TypeId} {k:Nat} {v:Value} {cs:List (List Value)} (h:TRow w t k v cs):∃A cap b off,v=.slice A cs.length cap∧cs.length≤cap∧cs.length≤1000000∧(0<cs.length→A=some ⟨b,off,none⟩) ∧
 ∀w' Z,Upd Z w w'→(∀b,(t≠anyT→Ty w t b)→¬Z b)→∀i c,cs[i]? = some c→w'.rangeAt b (off+i*k) c:=by
 have hh:=h;obtain ⟨A,cap,h1,h2,h3,h4⟩:=h;by_cases h0:0<cs.length
 ·obtain ⟨b,off,cur,t',fr,e1,e2,e4,e3⟩:=h4 h0
  refine ⟨A,cap,b,off,h1,h2,h3,fun _=>e1,fun w' Z hu hz i c hc j u hj=>?_⟩;have e5:=(hu.block b (Array.getElem?_eq_some_iff.1 e2).1 (hz b (fun hn=>⟨cur,fr,by rw [← e4 hn];exact e2⟩))).trans e2;rw [cell_of_row w' b _ cur t' fr e5];exact e3 i c hc j u hj
 ·refine ⟨A,cap,0,0,h1,h2,h3,fun h=>absurd h h0,fun w' Z hu hz i c hc=>?_⟩
  have:=(List.getElem?_eq_some_iff.1 hc).1;omega
theorem TRow.of_own {w:World} {t:TypeId} {k n:Nat} {v:Value} {cs:List (List Value)} (h:Own w t k v n cs.flatten) (hn:cs.length=n) (hm:n≤1000000) (hk:∀c ∈ cs,c.length=k):TRow w t k v cs:=by
 rcases h.2 with ⟨rfl,h0⟩ | ⟨g,cap,cur,fr,rfl,hg,hfr,hnc,hcm,hcs,htake⟩
 ·subst h0
  exact ⟨none,0,by rw [hn],by omega,by omega,fun h=>by omega⟩
 ·refine ⟨_,cap,by rw [hn],by omega,by omega,fun h0=>⟨g,0,cur,t,fr,rfl,hg,fun _=>rfl,fun i c hc j u hj=>?_⟩⟩
  have hfl:∀(l:List (List Value)),(∀c ∈ l,c.length=k)→∀i c,l[i]? = some c→∀j u,c[j]? = some u→l.flatten[i*k+j]? = some u:=by
   intro l;induction l with
   | nil=>intro _ i c hc;simp at hc
   | cons x r ih =>
     intro hl i c hc j u hj;have hx:=hl x (by simp);rw [List.flatten_cons];cases i with
     | zero =>
       have:x=c:=by simpa using hc
       subst this;have hjl:=(List.getElem?_eq_some_iff.1 hj).1;rw [List.getElem?_append_left (by omega)];simpa using hj
     | succ i =>
       rw [List.getElem?_append_right (by rw [hx,Nat.succ_mul];omega)];have e:(i+1)*k+j - x.length=i*k+j:=by rw [hx,Nat.succ_mul];omega
       rw [e];exact ih (fun c hc=>hl c (by simp [hc])) i c (by simpa using hc) j u hj
  have h1:=hfl cs hk i c hc j u hj;rw [← htake,List.getElem?_take] at h1;split at h1
  ·rw [Nat.zero_add]
   simpa using h1
  ·cases h1
theorem TRow.mts {w:World} {t:TypeId} {v:Value} {l:List MtM} (h:TRow w t 2 v (l.map mtRow)):∃A cap b off,v=.slice A l.length cap∧l.length≤cap∧l.length≤1000000∧(0<l.length→A=some ⟨b,off,none⟩) ∧
 ∀w' Z,Upd Z w w'→(∀b,(t≠anyT→Ty w t b)→¬Z b)→MtsAt w' b off l:=by
 obtain ⟨A,cap,b,off,h1,h2,h3,h4,h5⟩:=h.open_;rw [List.length_map] at h1 h2 h3 h4;refine ⟨A,cap,b,off,h1,h2,h3,h4,fun w' Z hu hz i hi=>?_⟩;exact h5 w' Z hu hz i (mtRow l[i]) (by simp [hi])
theorem TRow.ops {w:World} {t:TypeId} {v:Value} {l:List OpM} (h:TRow w t 3 v (l.map opRow)):∃A cap b off,v=.slice A l.length cap∧l.length≤cap∧l.length≤1000000∧(0<l.length→A=some ⟨b,off,none⟩) ∧
 ∀w' Z,Upd Z w w'→(∀b,(t≠anyT→Ty w t b)→¬Z b)→OpsAt w' b off l:=by
 obtain ⟨A,cap,b,off,h1,h2,h3,h4,h5⟩:=h.open_;rw [List.length_map] at h1 h2 h3 h4;refine ⟨A,cap,b,off,h1,h2,h3,h4,fun w' Z hu hz i hi=>?_⟩;exact h5 w' Z hu hz i (opRow l[i]) (by simp [hi])
structure VtO where
 F:List Nat
 kb:Nat
 lb:Nat
 lv:Value
 rb:Nat
 rk:Nat
 ents:List (Int × Nat)
 m:Nat
 mb:Nat
 rv:Value
 ovs:List Value
 mv:Value
def vtRow (V:VtM) (p:Nat) (o:VtO):Array Value :=
 #[.pointer (some ⟨o.m,0,none⟩),.int .i64 V.at_,.int .i64 V.epoch,o.rv,.int .i64 V.prev,.pointer (some ⟨p,0,none⟩),.pointer (some ⟨o.kb,0,none⟩),.pointer (some ⟨o.lb,0,none⟩),.pointer (some ⟨o.rb,0,none⟩),
  .int .i64 V.st.m.role,.int .i64 V.st.m.seen,.int .i64 V.st.m.grant,o.mv,.string (str V.st.m.secret),.int .i64 V.st.at_,.int .i64 V.st.epoch,.int .i64 (V.st.slot:Int),.int .u64 (V.st.log:Int),.int .i64 (V.st.key:Int),.int .u32 (V.st.boot:Int),.bool V.down]
def rowsV:List BatM→List Value→List Value
 | b::r,o::s=>.int .i64 b.index::.int .i64 b.epoch::o::rowsV r s
 | _,_=>[]
def VtO.mut (o:VtO) (v q:Nat):Prop:=q=v∨q ∈ o.F∨q=o.kb∨q=o.lb∨o.lv.ownBlock=some q∨ringOwn o.rb o.rk o.ents q∨o.rv.ownBlock=some q
structure VtAt (w:World) (p v:Nat) (d:Dk) (V:VtM) (o:VtO):Prop where
 disk:DiskAt w p d o.F
 blk:Blk w v 117 (vtRow V p o)
 kept:Blk w o.kb 209 (V.kp.cells p)
 log:Blk w o.lb 199 (V.lg.cells p o.lv)
 recs:Own w 9 1 o.lv V.lg.l.length (strs V.lg.l)
 sep:∀q,o.lv.ownBlock=some q→q ∉ o.F
 ring:RgE (ringOwn o.rb o.rk o.ents) w w o.rb (str masterL) V.cur V.st.boot V.n o.rk o.ents
 rkF:o.rk ∉ o.F
 map:MapAt w o.m o.mb V.S
 mbF:o.mb ∉ o.F
 mbk:o.mb≠o.rk
 rows:Own w 35 3 o.rv V.rows.length (rowsV V.rows o.ovs)
 ovl:o.ovs.length=V.rows.length
 each:∀(i:Nat) (b:BatM) (ov:Value),V.rows[i]? = some b→o.ovs[i]? = some ov→TRow w 32 3 ov (b.ops.map opRow)
 mts:TRow w 46 2 o.mv (V.st.m.mounts.map mtRow)
structure VtStep (w w':World) (v:Nat) (o o':VtO):Prop where
 upd:Upd (o.mut v) w w'
 sub:∀q,o'.mut v q→o.mut v q∨w.heap.size≤q
 mbs:o'.mb=o.mb∨w.heap.size≤o'.mb:=by first | exact .inl rfl | assumption
theorem VtStep.refl (w:World) (v:Nat) (o:VtO):VtStep w w v o o:=⟨Upd.refl _ _,fun _ h=>.inl h,.inl rfl⟩
theorem VtStep.trans {w w1 w2:World} {v:Nat} {o o1 o2:VtO} (h:VtStep w w1 v o o1) (k:VtStep w1 w2 v o1 o2):VtStep w w2 v o o2 :=
 ⟨h.upd.then k.upd h.sub,fun q hq=>(k.sub q hq).elim (h.sub q) (fun e=>.inr (Nat.le_trans h.upd.size e)),k.mbs.elim (fun e=>h.mbs.imp (e.trans ·) (fun e2=>e ▸ e2)) (fun e=>.inr (Nat.le_trans h.upd.size e))⟩
theorem VtStep.still {w w1 w2:World} {v:Nat} {o o1:VtO} (h:VtStep w w1 v o o1) (hu:Upd (fun _=>False) w1 w2):VtStep w w2 v o o1:=⟨h.upd.then hu (fun _ e=>e.elim),h.sub,h.mbs⟩
theorem VtStep.re {w w':World} {v:Nat} {o o':VtO} (h:VtStep w w' v o o') {m mb:Nat} (hmb:mb=o.mb∨w.heap.size≤mb):VtStep w w' v o { o' with m:=m,mb:=mb } := ⟨h.upd,h.sub,hmb⟩
section
variable {w w':World} {p v:Nat} {d d':Dk} {V:VtM} {o:VtO}
theorem VtAt.kind (h:VtAt w p v d V o) {q:Nat} (hq:o.mut v q):Ty w 117 q∨Ty w 151 q∨Ty w 9 q∨Ty w 209 q∨Ty w 199 q∨Ty w 186 q∨Ty w 269 q∨Ty w 35 q∨Mp w q∧(q ∈ o.F∨q=o.rk):=by
 rcases hq with rfl | hq | rfl | rfl | hq | hq | hq
 ·exact .inl h.blk.ty
 ·rcases h.disk.kind hq with e | e | e
  ·exact .inr (.inl e)
  ·exact .inr (.inr (.inl e))
  ·exact .inr (.inr (.inr (.inr (.inr (.inr (.inr (.inr ⟨e,.inl hq⟩)))))))
 ·exact .inr (.inr (.inr (.inl h.kept.ty)))
 ·exact .inr (.inr (.inr (.inr (.inl h.log.ty))))
 ·exact .inr (.inr (.inl (h.recs.ty hq)))
 ·rcases h.ring.kind hq with e | e | e
  ·exact .inr (.inr (.inr (.inr (.inr (.inl e)))))
  ·exact .inr (.inr (.inr (.inr (.inr (.inr (.inl e))))))
  ·exact .inr (.inr (.inr (.inr (.inr (.inr (.inr (.inr ⟨by rw [e];exact h.ring.map.mp,.inr e⟩)))))))
 ·exact .inr (.inr (.inr (.inr (.inr (.inr (.inr (.inl (h.rows.ty hq))))))))
theorem VtAt.not_mut (h:VtAt w p v d V o) {t:TypeId} {q:Nat} (ht:Ty w t q) (hn:t ∉ [117,151,9,209,199,186,269,35]):¬o.mut v q:=by
 intro hq;simp only [List.mem_cons,List.not_mem_nil,or_false,not_or] at hn;obtain ⟨n1,n2,n3,n4,n5,n6,n7,n8⟩:=hn;rcases h.kind hq with e | e | e | e | e | e | e | e | e
 ·exact n1 (ht.inj e)
 ·exact n2 (ht.inj e)
 ·exact n3 (ht.inj e)
 ·exact n4 (ht.inj e)
 ·exact n5 (ht.inj e)
 ·exact n6 (ht.inj e)
 ·exact n7 (ht.inj e)
 ·exact n8 (ht.inj e)
 ·exact ht.no_map e.1
theorem VtAt.mb_not (h:VtAt w p v d V o):¬o.mut v o.mb:=by
 intro hq;obtain ⟨ents,e1,-⟩:=h.map.map;have hm:=e1.mp;rcases h.kind hq with e | e | e | e | e | e | e | e | e
 ·exact e.no_map hm
 ·exact e.no_map hm
 ·exact e.no_map hm
 ·exact e.no_map hm
 ·exact e.no_map hm
 ·exact e.no_map hm
 ·exact e.no_map hm
 ·exact e.no_map hm
 ·rcases e.2 with e | e
  ·exact h.mbF e
  ·exact h.mbk e
theorem VtAt.keep_map {Z:Nat→Prop} (h:VtAt w p v d V o) (hu:Upd Z w w') (hz:∀q,Z q→o.mut v q):MapAt w' o.m o.mb V.S :=
 h.map.upd hu (fun e=>h.not_mut h.map.blk.ty (by decide) (hz _ e)) (fun e=>h.mb_not (hz _ e))
theorem VtAt.keep_each {Z:Nat→Prop} (h:VtAt w p v d V o) (hu:Upd Z w w') (hz:∀q,Z q→o.mut v q):∀(i:Nat) (b:BatM) (ov:Value),V.rows[i]? = some b→o.ovs[i]? = some ov→TRow w' 32 3 ov (b.ops.map opRow) :=
 fun i b ov h1 h2=>(h.each i b ov h1 h2).upd hu (fun _ ht e=>h.not_mut ht (by decide) (hz _ e))
theorem VtAt.keep_mts {Z:Nat→Prop} (h:VtAt w p v d V o) (hu:Upd Z w w') (hz:∀q,Z q→o.mut v q):TRow w' 46 2 o.mv (V.st.m.mounts.map mtRow) :=
 h.mts.upd hu (fun _ ht e=>h.not_mut ht (by decide) (hz _ e))
theorem RgE.move {F:Nat→Prop} {w0 w w':World} {r:Nat} {master:ByteArray} {cur boot n kb:Nat} {ents:List (Int × Nat)} {Z:Nat→Prop} (h:RgE F w0 w r master cur boot n kb ents) (hu:Upd Z w w') (hz:∀q,ringOwn r kb ents q→¬Z q):RgE (ringOwn r kb ents) w' w' r master cur boot n kb ents:=by
 refine ⟨h.blk.upd hu (hz _ (.inl rfl)),h.map.upd hu (hz _ (.inr (.inl rfl))),fun e he=>(h.slots e he).upd hu (hz _ (.inr (.inr ⟨e,he,rfl⟩))),.inl (.inl rfl),.inl (.inr (.inl rfl)),fun e he=>.inl (.inr (.inr ⟨e,he,rfl⟩)),Upd.refl _ _⟩
theorem VtAt.still (h:VtAt w p v d V o) (hu:Upd (fun _=>False) w w'):VtAt w' p v d V o :=
 ⟨h.disk.upd hu (fun _ _ e=>e),h.blk.upd hu (fun e=>e),h.kept.upd hu (fun e=>e),h.log.upd hu (fun e=>e),h.recs.upd hu (fun _ _ e=>e),h.sep,h.ring.move hu (fun _ _ e=>e),h.rkF,h.map.still hu,h.mbF,h.mbk,h.rows.upd hu (fun _ _ e=>e),h.ovl,fun i b ov h1 h2=>(h.each i b ov h1 h2).still hu,h.mts.still hu⟩
end
end
section
open Go Go.RowKit
def RIn (w:World) (k:Nat) (v:Value) (cs:List (List Value)):Prop :=
 ∃A cap,v=.slice A cs.length cap∧cs.length≤cap∧cs.length≤9223372036854775807∧(0<cs.length→∃b off cur t fr,A=some ⟨b,off,none⟩∧w.heap[b]? = some (.cells cur t fr)∧∀i c,cs[i]? = some c→∀j u,c[j]? = some u→cur[off+i*k+j]? = some u)
section
variable {w w':World} {k:Nat} {v:Value} {cs:List (List Value)}
theorem RIn.still (h:RIn w k v cs) (hu:Upd (fun _=>False) w w'):RIn w' k v cs:=by
 obtain ⟨A,cap,h1,h2,h3,h4⟩:=h;refine ⟨A,cap,h1,h2,h3,fun h0=>?_⟩;obtain ⟨b,off,cur,t,fr,e1,e2,e3⟩:=h4 h0;exact ⟨b,off,cur,t,fr,e1,(hu.block b (Array.getElem?_eq_some_iff.1 e2).1 (fun e=>e)).trans e2,e3⟩
theorem RIn.open_ (h:RIn w k v cs):∃A cap b off,v=.slice A cs.length cap∧cs.length≤cap∧cs.length≤9223372036854775807∧(0<cs.length→A=some ⟨b,off,none⟩) ∧
 ∀i c,cs[i]? = some c→∀j u,c[j]? = some u→w.cell? ⟨b,off+i*k+j,none⟩=some u:=by
 obtain ⟨A,cap,h1,h2,h3,h4⟩:=h;by_cases h0:0<cs.length
 ·obtain ⟨b,off,cur,t,fr,e1,e2,e3⟩:=h4 h0
  refine ⟨A,cap,b,off,h1,h2,h3,fun _=>e1,fun i c hc j u hj=>?_⟩;rw [cell_of_row w b _ cur t fr e2];exact e3 i c hc j u hj
 ·refine ⟨A,cap,0,0,h1,h2,h3,fun h=>absurd h h0,fun i c hc=>?_⟩
  have:=(List.getElem?_eq_some_iff.1 hc).1;omega
theorem RIn.row (h:RIn w k v cs) (hl:cs.length≤1000000):TRow w anyT k v cs:=by
 obtain ⟨A,cap,h1,h2,h3,h4⟩:=h;refine ⟨A,cap,h1,h2,hl,fun h0=>?_⟩;obtain ⟨b,off,cur,t,fr,e1,e2,e3⟩:=h4 h0;exact ⟨b,off,cur,t,fr,e1,e2,fun e=>absurd rfl e,e3⟩
theorem RIn.lt (h:RIn w k v cs) (h0:0<cs.length):∀q,v.ownBlock=some q→q<w.heap.size:=by
 obtain ⟨A,cap,h1,h2,h3,h4⟩:=h;obtain ⟨b,off,cur,t,fr,e1,e2,e3⟩:=h4 h0;intro q hq;rw [h1,e1] at hq;have:b=q:=by simpa [Value.ownBlock] using hq
 subst this;exact (Array.getElem?_eq_some_iff.1 e2).1
end
def i64r (n:Int):Prop:=-9223372036854775808≤n∧n≤9223372036854775807
structure OpsIn (w:World) (v:Value) (l:List OpM):Prop where
 rows:RIn w 3 v (l.map opRow)
 small:∀o ∈ l,o.path.length≤9223372036854775807∧o.value.length≤9223372036854775807
structure PrsIn (w:World) (v:Value) (l:List PairM):Prop where
 rows:RIn w 2 v (l.map pairRow)
 small:∀p ∈ l,p.1.length≤9223372036854775807∧p.2.length≤9223372036854775807
structure MetaIn (w:World) (mv:Value) (m:MetaM):Prop where
 rows:RIn w 2 mv (m.mounts.map mtRow)
 small:∀x ∈ m.mounts,x.name.length≤9223372036854775807
 secret:m.secret.length≤9223372036854775807
 role:i64r m.role
 seen:i64r m.seen
 grant:i64r m.grant
structure BatIn (w:World) (ov:Value) (b:BatM):Prop where
 ops:OpsIn w ov b.ops
 index:i64r b.index
 epoch:i64r b.epoch
def OpsFew (l:List OpM):Prop:=l.length≤100∧∀o ∈ l,o.path.length≤1000∧o.value.length≤1000
def PrsFew (l:List PairM):Prop:=l.length≤200∧∀p ∈ l,p.1.length≤1000∧p.2.length≤1000
def MetaFew (m:MetaM):Prop:=m.mounts.length≤20∧m.secret.length≤500∧∀x ∈ m.mounts,x.name.length≤500
def BoolSays (Q:Prop) (w:World) (e:Ending) (w':World):Prop:=∃b,e=.returned (.bool b)∧Upd (fun _=>False) w w'∧(b=false→Q)
theorem OpsIn.still {w w':World} {v:Value} {l:List OpM} (h:OpsIn w v l) (hu:Upd (fun _=>False) w w'):OpsIn w' v l:=⟨h.rows.still hu,h.small⟩
theorem PrsIn.still {w w':World} {v:Value} {l:List PairM} (h:PrsIn w v l) (hu:Upd (fun _=>False) w w'):PrsIn w' v l:=⟨h.rows.still hu,h.small⟩
theorem MetaIn.still {w w':World} {v:Value} {m:MetaM} (h:MetaIn w v m) (hu:Upd (fun _=>False) w w'):MetaIn w' v m := { h with rows:=h.rows.still hu }
theorem BatIn.still {w w':World} {v:Value} {b:BatM} (h:BatIn w v b) (hu:Upd (fun _=>False) w w'):BatIn w' v b:=⟨h.ops.still hu,h.index,h.epoch⟩
theorem greatops_c {w:World} {v:Value} {l:List OpM} (hA:OpsIn w v l) :
 Calls Tryz.prog 39 #[v] w fun e w'=>BoolSays (OpsFew l) w e w':=by
 obtain ⟨A,cap,bA,off,rfl,hcap,hm,hA0,hcells⟩:=hA.rows.open_;rw [List.length_map] at hm hA0 hcap ⊢;have HC:=Lib.hid hcells;have HK:=Lib.hid hA.small;clear hcells hA;go_enter Tryz.func39,Tryz.ntmps39
 by_cases hn:100<l.length
 ·have hn':(100:Int)<(l.length:Int):=by omega
  go_wp2_with fail
  go_ret
  exact ⟨true,rfl,Upd.refl _ _,by simp⟩
 have hn':¬(100:Int)<(l.length:Int):=by omega
 go_wp2_with fail
 go_loopw [3] (fun i wr=>∃k:Nat,k≤l.length∧i=.int .i64 k∧wr=w∧∀j (h:j<l.length),j<k→l[j].path.length≤1000∧l[j].value.length≤1000) (fun i _=>l.length - (intOf i).toNat)
 case atStart=>exact ⟨0,by omega,rfl,rfl,fun j h hj=>by omega⟩
 case round =>
  obtain ⟨k,hk,rfl,rfl,hall⟩:=hrel;have HALL:=Lib.hid hall;clear hall;by_cases hlt:k<l.length
  ·obtain rfl:=hA0 (by omega)
   obtain ⟨r,hr⟩:=eqx (l[k]);have hrow:(l.map opRow)[k]? = some (opRow r):=by rw [List.getElem?_map,List.getElem?_eq_getElem hlt,hr];rfl
   have hks:=HK.out r (hr ▸ List.getElem_mem hlt);obtain ⟨P,hP⟩:=eqx (str r.path);obtain ⟨Q,hQ⟩:=eqx (str r.value);have hPs:P.size=r.path.length:=by rw [← hP,str_size]
   have hQs:Q.size=r.value.length:=by rw [← hQ,str_size]
   have cP:wr.cell? ⟨bA,off+k*3+1,none⟩=some (.string P):=HC.out k _ hrow 1 (.string P) (by rw [← hP];rfl)
   have cQ:wr.cell? ⟨bA,off+k*3+2,none⟩=some (.string Q):=HC.out k _ hrow 2 (.string Q) (by rw [← hQ];rfl)
   have hwk:IntKind.i64.wrap ((k:Int)+1)=(k:Int)+1:=IntWalk.i64_in _ (by omega);have HP:=h6k hPs hQs hr hks hk hlt;have j1:(k:Int)<(l.length:Int):=by omega
   clear hrow hP hQ hks hr;by_cases g1:(1000:Int)<(P.size:Int)
   ·clear hPs hQs
    go_wp2_with fail
    go_ret
    exact ⟨true,rfl,Upd.refl _ _,by simp⟩
   ·by_cases g2:(1000:Int)<(Q.size:Int)
    ·clear hPs hQs
     go_wp2_with fail
     go_ret
     exact ⟨true,rfl,Upd.refl _ _,by simp⟩
    ·clear hPs hQs
     go_wp2_with fail
     go_roundw
     case rel =>
      refine ⟨k+1,by omega,by simp,trivial,fun j h hj=>?_⟩;by_cases e:j=k
      ·subst e
       rw [HP.out.2.2.1];have h1:=HP.out.1;have h2:=HP.out.2.1;omega
      ·exact HALL.out j h (by omega)
     case measure=>simp [intOf]<;>omega
  ·have j1:¬((k:Int)<(l.length:Int)):=by omega
   go_wp2_with fail
   go_ret
   refine ⟨false,rfl,Upd.refl _ _,fun _=>⟨by omega,fun o ho=>?_⟩⟩;obtain ⟨j,hj,rfl⟩:=List.mem_iff_getElem.1 ho;exact HALL.out j hj (by omega)
theorem greatprs_c {w:World} {v:Value} {l:List PairM} (hA:PrsIn w v l) :
 Calls Tryz.prog 40 #[v] w fun e w'=>BoolSays (PrsFew l) w e w':=by
 obtain ⟨A,cap,bA,off,rfl,hcap,hm,hA0,hcells⟩:=hA.rows.open_;rw [List.length_map] at hm hA0 hcap ⊢;have HC:=Lib.hid hcells;have HK:=Lib.hid hA.small;clear hcells hA;go_enter Tryz.func40,Tryz.ntmps40
 by_cases hn:200<l.length
 ·have hn':(200:Int)<(l.length:Int):=by omega
  go_wp2_with fail
  go_ret
  exact ⟨true,rfl,Upd.refl _ _,by simp⟩
 have hn':¬(200:Int)<(l.length:Int):=by omega
 go_wp2_with fail
 go_loopw [3] (fun i wr=>∃k:Nat,k≤l.length∧i=.int .i64 k∧wr=w∧∀j (h:j<l.length),j<k→l[j].1.length≤1000∧l[j].2.length≤1000) (fun i _=>l.length - (intOf i).toNat)
 case atStart=>exact ⟨0,by omega,rfl,rfl,fun j h hj=>by omega⟩
 case round =>
  obtain ⟨k,hk,rfl,rfl,hall⟩:=hrel;have HALL:=Lib.hid hall;clear hall;by_cases hlt:k<l.length
  ·obtain rfl:=hA0 (by omega)
   obtain ⟨r,hr⟩:=eqx (l[k]);have hrow:(l.map pairRow)[k]? = some (pairRow r):=by rw [List.getElem?_map,List.getElem?_eq_getElem hlt,hr];rfl
   have hks:=HK.out r (hr ▸ List.getElem_mem hlt);obtain ⟨P,hP⟩:=eqx (str r.1);obtain ⟨Q,hQ⟩:=eqx (str r.2);have hPs:P.size=r.1.length:=by rw [← hP,str_size]
   have hQs:Q.size=r.2.length:=by rw [← hQ,str_size]
   have cP:wr.cell? ⟨bA,off+k*2,none⟩=some (.string P):=HC.out k _ hrow 0 (.string P) (by rw [← hP];rfl)
   have cQ:wr.cell? ⟨bA,off+k*2+1,none⟩=some (.string Q):=HC.out k _ hrow 1 (.string Q) (by rw [← hQ];rfl)
   have hwk:IntKind.i64.wrap ((k:Int)+1)=(k:Int)+1:=IntWalk.i64_in _ (by omega);have HP:=h6k hPs hQs hr hks hk hlt;have j1:(k:Int)<(l.length:Int):=by omega
   clear hrow hP hQ hks hr;by_cases g1:(1000:Int)<(P.size:Int)
   ·clear hPs hQs
    go_wp2_with fail
    go_ret
    exact ⟨true,rfl,Upd.refl _ _,by simp⟩
   ·by_cases g2:(1000:Int)<(Q.size:Int)
    ·clear hPs hQs
     go_wp2_with fail
     go_ret
     exact ⟨true,rfl,Upd.refl _ _,by simp⟩
    ·clear hPs hQs
     go_wp2_with fail
     go_roundw
     case rel =>
      refine ⟨k+1,by omega,by simp,trivial,fun j h hj=>?_⟩;by_cases e:j=k
      ·subst e
       rw [HP.out.2.2.1];have h1:=HP.out.1;have h2:=HP.out.2.1;omega
      ·exact HALL.out j h (by omega)
     case measure=>simp [intOf]<;>omega
  ·have j1:¬((k:Int)<(l.length:Int)):=by omega
   go_wp2_with fail
   go_ret
   refine ⟨false,rfl,Upd.refl _ _,fun _=>⟨by omega,fun o ho=>?_⟩⟩;obtain ⟨j,hj,rfl⟩:=List.mem_iff_getElem.1 ho;exact HALL.out j hj (by omega)
theorem greatmeta_c {w:World} {v:Value} {m:MetaM} (hA:MetaIn w v m) :
 Calls Tryz.prog 38 #[.agg (metaRow m v)] w fun e w'=>BoolSays (MetaFew m) w e w':=by
 obtain ⟨l,hl⟩:=eqx m.mounts;obtain ⟨S,hS⟩:=eqx (str m.secret);have hSs:S.size=m.secret.length:=by rw [← hS,str_size]
 have hSm:S.size≤9223372036854775807:=by rw [hSs];exact hA.secret
 have hrows:=hA.rows;have hsm:=hA.small;rw [hl] at hrows hsm;obtain ⟨C,hC⟩:=eqx (metaRow m v);obtain ⟨c,hc⟩:=eqx w.heap.size;rw [hC];have HCC:=h2k hc hC;clear hc hC;go_enter Tryz.func38,Tryz.ntmps38
 go_upto_region 1 with fail
 rw [HCC.out.1];generalize hw1:World.alloc _ _=w1;have hB1:Blk w1 c 50 (metaRow m v):=by rw [HCC.out.2,← hw1,← HCC.out.1];exact Blk.new w _ _
 have hU1:Upd (fun _=>False) w w1:=by rw [← hw1];exact (Upd.refl _ w).alloc _
 obtain ⟨A,cap,bA,off,rfl,hcap,hm,hA0,hcells⟩:=(hrows.still hU1).open_;rw [List.length_map] at hm hA0 hcap;unfold metaRow at hB1;rw [List.length_map,hS] at hB1;have c3:=hB1.cell 3;have c4:=hB1.cell 4;simp only [List.getElem?_toArray,List.getElem?_cons_succ,List.getElem?_cons_zero] at c3 c4;have HC:=Lib.hid hcells;have HK:=Lib.hid hsm;have HM:=h3k hl hSs hU1;clear hcells hsm hrows hA hS hw1 hB1 hSs hl hU1;by_cases hn:20<l.length
 ·have hn':(20:Int)<(l.length:Int):=by omega
  go_wp2_with fail
  go_ret
  exact ⟨true,rfl,HM.out.2.2,by simp⟩
 have hn':¬(20:Int)<(l.length:Int):=by omega
 by_cases hs:(500:Int)<(S.size:Int)
 ·go_wp2_with fail
  go_ret
  exact ⟨true,rfl,HM.out.2.2,by simp⟩
 go_wp2_with fail
 go_loopw [3] (fun i wr=>∃k:Nat,k≤l.length∧i=.int .i64 k∧wr=w1∧∀j (h:j<l.length),j<k→l[j].name.length≤500) (fun i _=>l.length - (intOf i).toNat)
 case atStart=>exact ⟨0,by omega,rfl,rfl,fun j h hj=>by omega⟩
 case round =>
  obtain ⟨k,hk,rfl,rfl,hall⟩:=hrel;have HALL:=Lib.hid hall;clear hall;by_cases hlt:k<l.length
  ·obtain rfl:=hA0 (by omega)
   obtain ⟨r,hr⟩:=eqx (l[k]);have hrow:(l.map mtRow)[k]? = some (mtRow r):=by rw [List.getElem?_map,List.getElem?_eq_getElem hlt,hr];rfl
   have hks:=HK.out r (hr ▸ List.getElem_mem hlt);obtain ⟨P,hP⟩:=eqx (str r.name);have hPs:P.size=r.name.length:=by rw [← hP,str_size]
   have cP:wr.cell? ⟨bA,off+k*2,none⟩=some (.string P):=HC.out k _ hrow 0 (.string P) (by rw [← hP];rfl)
   have hwk:IntKind.i64.wrap ((k:Int)+1)=(k:Int)+1:=IntWalk.i64_in _ (by omega);have HP:=h5k hPs hr hks hk hlt;have j1:(k:Int)<(l.length:Int):=by omega
   clear hrow hP hks hr;by_cases g1:(500:Int)<(P.size:Int)
   ·clear hPs
    go_wp2_with fail
    go_ret
    exact ⟨true,rfl,HM.out.2.2,by simp⟩
   ·clear hPs
    go_wp2_with fail
    go_roundw
    case rel =>
     refine ⟨k+1,by omega,by simp,trivial,fun j h hj=>?_⟩;by_cases e:j=k
     ·subst e
      rw [HP.out.2.1];have h1:=HP.out.1;omega
     ·exact HALL.out j h (by omega)
    case measure=>simp [intOf]<;>omega
  ·have j1:¬((k:Int)<(l.length:Int)):=by omega
   go_wp2_with fail
   go_ret
   refine ⟨false,rfl,HM.out.2.2,fun _=>⟨by rw [HM.out.1];omega,by have:=HM.out.2.1;omega,fun x hx=>?_⟩⟩;rw [HM.out.1] at hx;obtain ⟨j,hj,rfl⟩:=List.mem_iff_getElem.1 hx;exact HALL.out j hj (by omega)
end
section
open Go Go.RowKit
theorem str_of (s:ByteArray):str s.data.toList=s:=by
 obtain ⟨d⟩:=s;simp [str]
end
section
open Go Go.RowKit Go.ChangeShapes Go.WideShapes Go.ChangeAt Go.Deep
theorem len_str (s:ByteArray):s.data.toList.length=s.size:=by simp
section
variable {H:Type} {enc:TypeId × Value→H} {w:World} {base:Nat} {spare:Nat→Bool} {held:Bool}
theorem cell_block {b i:Nat} {u:Value} (h:w.cell? ⟨b,i,none⟩=some u):∃cur t fr,w.heap[b]? = some (.cells cur t fr)∧cur[i]? = some u:=by
 unfold World.cell? at h;simp only at h
 split at h
 ·rename_i cs t fr hb
  exact ⟨cs,t,fr,hb,by simpa using h⟩
 ·simp at h
theorem rin_of {P:Program} {t e:TypeId} {k:Nat} {fuel:Nat} {v:Value} {x:DataW H × List MemPlace} (R:List Value→Prop) (ht:P.underlying t=some (.slice e)) (hk:P.cellsOf e=k) (hk0:0<k)
 (hR:∀n cs y,DataW.trod enc P w base spare held n e cs=some y→R cs) (h:DataW.trod enc P w base spare held fuel t [v]=some x):∃cs,RIn w k v cs∧∀c ∈ cs,R c:=by
 rcases open_slice ht h with ⟨hcs,_⟩ | ⟨a,len,cap,m,n,D,Pl,hcs,_,hl,hm,hmm,_,hi⟩
 ·simp only [List.cons.injEq,and_true] at hcs
  subst hcs;exact ⟨[],⟨none,0,rfl,by simp,by simp,fun h=>by simp at h⟩,by simp⟩
 ·simp only [List.cons.injEq,and_true] at hcs
  subst hcs;have hlm:len≤m:=by rw [hmm];split<;>omega
  have each:∀i,i<len→∃c:List Value,c.length=k∧R c∧∀j,j<k→w.cell? (a.add (i*k+j))=c[j]? := by
   intro i hil;obtain ⟨cs',hc,hy⟩:=hi i (by omega);rw [hk] at hc;obtain ⟨_,hcl,hat⟩:=World.cells?_some hc;refine ⟨cs',hcl,hR _ _ _ hy,fun j hj=>?_⟩;rw [← Go.Deep.add_add];exact hat j hj
  obtain ⟨cs,h1,h2⟩:=pick_list (fun i (c:List Value)=>c.length=k∧R c∧∀j,j<k→w.cell? (a.add (i*k+j))=c[j]?) len each;refine ⟨cs,⟨some a,cap,by rw [h1],by omega,by have:maxLen=9223372036854775807:=rfl;omega,fun h0=>?_⟩,fun c hc=>?_⟩
  ·obtain ⟨b,off,sp⟩:=a
   obtain ⟨l0,-,c0⟩:=h2 0 h0;have hc00:=c0 0 hk0;rw [List.getElem?_eq_getElem (by omega)] at hc00;have hsp:sp=none:=by simpa [Addr.add] using World.cell?_spot hc00
   subst hsp;rw [add_plain2] at hc00;obtain ⟨cur,t',fr,hb,-⟩:=cell_block hc00;refine ⟨b,off,cur,t',fr,rfl,hb,fun i c hc j u hj=>?_⟩;have hil:=(List.getElem?_eq_some_iff.1 hc).1;have hie:=(List.getElem?_eq_some_iff.1 hc).2;obtain ⟨li,-,ci⟩:=h2 i hil;rw [hie] at li ci;have hjl:=(List.getElem?_eq_some_iff.1 hj).1;have:=ci j (by omega);rw [add_plain2,cell_of_row w b _ cur t' fr hb,hj] at this;rw [Nat.add_assoc];exact this
  ·obtain ⟨i,hi,rfl⟩:=List.mem_iff_getElem.1 hc
   exact (h2 i hi).2.1
theorem i64r_of {n:Int} (h:(Lit.int .i64 n).wf=true):i64r n:=i64ok_of h
theorem u8_is {n:Int} (h:(Lit.int .u8 n).wf=true):∃k:UInt8,n=(k.toNat:Int):=by
 simp only [Lit.wf,Bool.and_eq_true,decide_eq_true_eq] at h;have h1:IntKind.u8.min=0:=rfl;have h2:IntKind.u8.max=255:=rfl;refine ⟨UInt8.ofNat n.toNat,?_⟩;rw [UInt8.toNat_ofNat'];omega
theorem fields_of {P:Program} {t:TypeId} {fs:Array Field} {fuel:Nat} {cs:List Value} {x:DataW H × List MemPlace} (ht:P.underlying t=some (.struct fs)) (hone:oneCellFields P fs=true) (hC:P.cellsOf t=fs.size) (h:DataW.trod enc P w base spare held fuel t cs=some x) :
 cs.length=fs.size∧∃n,∀(j:Nat) (f:Field),fs[j]? = some f→∃u y,cs[j]? = some u∧DataW.trod enc P w base spare held n f.type [u]=some y:=by
 obtain ⟨xs,n,_,_,hl,hlen,hf⟩:=DataW.trod_struct ht h;refine ⟨by rw [hl,hC],n,fun j f hj=>?_⟩;have hjl:j<fs.size:=(Array.getElem?_eq_some_iff.1 hj).1;obtain ⟨ho,hk⟩:=hone_of hone j f hj;have h1:=hf j f hj;rw [ho,hk,List.drop_eq_getElem_cons (by omega)] at h1;rw [List.getElem?_eq_getElem (show j<xs.length by omega)] at h1;exact ⟨cs[j]'(by omega),_,List.getElem?_eq_getElem (by omega),h1⟩
theorem op_of {fuel:Nat} {cs:List Value} {x:DataW H × List MemPlace} (h:DataW.trod enc Tryz.prog w base spare held fuel 32 cs=some x):∃o:OpM,cs=opRow o∧o.path.length≤9223372036854775807∧o.value.length≤9223372036854775807:=by
 obtain ⟨hl,n,hf⟩:=fields_of Tryz.underlying32 (by kernel_rfl) (by kernel_rfl) h;obtain ⟨u0,y0,c0,t0⟩:=hf 0 _ rfl;obtain ⟨u1,y1,c1,t1⟩:=hf 1 _ rfl;obtain ⟨u2,y2,c2,t2⟩:=hf 2 _ rfl;obtain ⟨n0,q0,_,w0⟩:=DataW.trod_int Tryz.underlying5 t0;obtain ⟨s1,q1,_,w1⟩:=DataW.trod_string Tryz.underlying9 t1;obtain ⟨s2,q2,_,w2⟩:=DataW.trod_string Tryz.underlying9 t2;simp only [List.cons.injEq,and_true] at q0 q1 q2;subst q0 q1 q2;obtain ⟨k,rfl⟩:=u8_is w0;match cs,hl with
 | [a,b,c],_ =>
   simp only [List.getElem?_cons_zero,List.getElem?_cons_succ,Option.some.injEq] at c0 c1 c2;subst c0 c1 c2;refine ⟨⟨k,s1.data.toList,s2.data.toList⟩,?_,by rw [len_str];exact w1,by rw [len_str];exact w2⟩;unfold opRow;rw [str_of,str_of]
theorem pair_of {fuel:Nat} {cs:List Value} {x:DataW H × List MemPlace} (h:DataW.trod enc Tryz.prog w base spare held fuel 55 cs=some x):∃p:PairM,cs=pairRow p∧p.1.length≤9223372036854775807∧p.2.length≤9223372036854775807:=by
 obtain ⟨hl,n,hf⟩:=fields_of Tryz.underlying55 (by kernel_rfl) (by kernel_rfl) h;obtain ⟨u1,y1,c1,t1⟩:=hf 0 _ rfl;obtain ⟨u2,y2,c2,t2⟩:=hf 1 _ rfl;obtain ⟨s1,q1,_,w1⟩:=DataW.trod_string Tryz.underlying9 t1;obtain ⟨s2,q2,_,w2⟩:=DataW.trod_string Tryz.underlying9 t2;simp only [List.cons.injEq,and_true] at q1 q2;subst q1 q2;match cs,hl with
 | [b,c],_ =>
   simp only [List.getElem?_cons_zero,List.getElem?_cons_succ,Option.some.injEq] at c1 c2;subst c1 c2;refine ⟨(s1.data.toList,s2.data.toList),?_,by rw [len_str];exact w1,by rw [len_str];exact w2⟩;unfold pairRow;rw [str_of,str_of]
theorem mount_of {fuel:Nat} {cs:List Value} {x:DataW H × List MemPlace} (h:DataW.trod enc Tryz.prog w base spare held fuel 46 cs=some x):∃m:MtM,cs=mtRow m∧m.name.length≤9223372036854775807:=by
 obtain ⟨hl,n,hf⟩:=fields_of Tryz.underlying46 (by kernel_rfl) (by kernel_rfl) h;obtain ⟨u1,y1,c1,t1⟩:=hf 0 _ rfl;obtain ⟨u2,y2,c2,t2⟩:=hf 1 _ rfl;obtain ⟨s1,q1,_,w1⟩:=DataW.trod_string Tryz.underlying9 t1;obtain ⟨b2,q2,_⟩:=DataW.trod_bool Tryz.underlying4 t2;simp only [List.cons.injEq,and_true] at q1 q2;subst q1 q2;match cs,hl with
 | [b,c],_ =>
   simp only [List.getElem?_cons_zero,List.getElem?_cons_succ,Option.some.injEq] at c1 c2;subst c1 c2;refine ⟨⟨s1.data.toList,b2⟩,?_,by rw [len_str];exact w1⟩;unfold mtRow;rw [str_of]
theorem pick_rows {β : Type} {row : β → List Value} {Q : β → Prop} {cs:List (List Value)} (h:∀c ∈ cs,∃b,c=row b∧Q b):∃l:List β,cs=l.map row∧∀b ∈ l,Q b:=by
 induction cs with
 | nil=>exact ⟨[],rfl,by simp⟩
 | cons c r ih =>
   obtain ⟨b,hb,hq⟩:=h c (by simp);obtain ⟨l,hl,hql⟩:=ih fun c hc=>h c (by simp [hc])
   refine ⟨b::l,by rw [hb,hl];rfl,fun x hx=>?_⟩
   rcases List.mem_cons.1 hx with rfl | hx
   ·exact hq
   ·exact hql x hx
theorem ops_of {fuel:Nat} {v:Value} {x:DataW H × List MemPlace} (h:DataW.trod enc Tryz.prog w base spare held fuel 33 [v]=some x):∃l,OpsIn w v l:=by
 obtain ⟨cs,h1,h2⟩:=rin_of (k:=3) (fun c=>∃o:OpM,c=opRow o∧o.path.length≤9223372036854775807∧o.value.length≤9223372036854775807) Tryz.underlying33 (by kernel_rfl) (by omega) (fun n cs y hy=>op_of hy) h;obtain ⟨l,rfl,hq⟩:=pick_rows h2;exact ⟨l,h1,hq⟩
theorem prs_of {fuel:Nat} {v:Value} {x:DataW H × List MemPlace} (h:DataW.trod enc Tryz.prog w base spare held fuel 56 [v]=some x):∃l,PrsIn w v l:=by
 obtain ⟨cs,h1,h2⟩:=rin_of (k:=2) (fun c=>∃o:PairM,c=pairRow o∧o.1.length≤9223372036854775807∧o.2.length≤9223372036854775807) Tryz.underlying56 (by kernel_rfl) (by omega) (fun n cs y hy=>pair_of hy) h;obtain ⟨l,rfl,hq⟩:=pick_rows h2;exact ⟨l,h1,hq⟩
theorem mts_of {fuel:Nat} {v:Value} {x:DataW H × List MemPlace} (h:DataW.trod enc Tryz.prog w base spare held fuel 47 [v]=some x):∃l:List MtM,RIn w 2 v (l.map mtRow)∧∀m ∈ l,m.name.length≤9223372036854775807:=by
 obtain ⟨cs,h1,h2⟩:=rin_of (k:=2) (fun c=>∃o:MtM,c=mtRow o∧o.name.length≤9223372036854775807) Tryz.underlying47 (by kernel_rfl) (by omega) (fun n cs y hy=>mount_of hy) h;obtain ⟨l,rfl,hq⟩:=pick_rows h2;exact ⟨l,h1,hq⟩
theorem meta_cells {fuel:Nat} {cs:List Value} {x:DataW H × List MemPlace} (h:DataW.trod enc Tryz.prog w base spare held fuel 50 cs=some x):∃m mv,cs=(metaRow m mv).toList∧MetaIn w mv m:=by
 obtain ⟨hl,n,hf⟩:=fields_of Tryz.underlying50 (by kernel_rfl) (by kernel_rfl) h;obtain ⟨u0,y0,c0,t0⟩:=hf 0 _ rfl;obtain ⟨u1,y1,c1,t1⟩:=hf 1 _ rfl;obtain ⟨u2,y2,c2,t2⟩:=hf 2 _ rfl;obtain ⟨u3,y3,c3,t3⟩:=hf 3 _ rfl;obtain ⟨u4,y4,c4,t4⟩:=hf 4 _ rfl;obtain ⟨n0,q0,_,w0⟩:=DataW.trod_int Tryz.underlying3 t0;obtain ⟨n1,q1,_,w1⟩:=DataW.trod_int Tryz.underlying3 t1;obtain ⟨n2,q2,_,w2⟩:=DataW.trod_int Tryz.underlying3 t2;obtain ⟨l,w3,w3b⟩:=mts_of t3;obtain ⟨s4,q4,_,w4⟩:=DataW.trod_string Tryz.underlying9 t4;simp only [List.cons.injEq,and_true] at q0 q1 q2 q4;subst q0 q1 q2 q4;match cs,hl with
 | [a,b,c,d,e],_ =>
   simp only [List.getElem?_cons_zero,List.getElem?_cons_succ,Option.some.injEq] at c0 c1 c2 c3 c4;subst c0 c1 c2 c3 c4;refine ⟨⟨n0,n1,n2,l,s4.data.toList⟩,d,?_,w3,w3b,by rw [len_str];exact w4,i64r_of w0,i64r_of w1,i64r_of w2⟩;unfold metaRow;simp only
   rw [str_of]
theorem bat_cells {fuel:Nat} {cs:List Value} {x:DataW H × List MemPlace} (h:DataW.trod enc Tryz.prog w base spare held fuel 35 cs=some x):∃(b:BatM) (ov:Value),cs=[.int .i64 b.index,.int .i64 b.epoch,ov]∧BatIn w ov b:=by
 obtain ⟨hl,n,hf⟩:=fields_of Tryz.underlying35 (by kernel_rfl) (by kernel_rfl) h;obtain ⟨u0,y0,c0,t0⟩:=hf 0 _ rfl;obtain ⟨u1,y1,c1,t1⟩:=hf 1 _ rfl;obtain ⟨u2,y2,c2,t2⟩:=hf 2 _ rfl;obtain ⟨n0,q0,_,w0⟩:=DataW.trod_int Tryz.underlying3 t0;obtain ⟨n1,q1,_,w1⟩:=DataW.trod_int Tryz.underlying3 t1;obtain ⟨l,w2⟩:=ops_of t2;simp only [List.cons.injEq,and_true] at q0 q1;subst q0 q1;match cs,hl with
 | [a,b,c],_ =>
   simp only [List.getElem?_cons_zero,List.getElem?_cons_succ,Option.some.injEq] at c0 c1 c2;subst c0 c1 c2;exact ⟨⟨n0,n1,l⟩,c,rfl,w2,i64r_of w0,i64r_of w1⟩
end
end
section
open Go Go.RowKit Go.ChangeShapes Go.WideShapes Go.ChangeAt Go.Deep
structure ActM where
 do_:UInt8
 b:BatM
 ov:Value
 m:MetaM
 mv:Value
 l:List PairM
 lv:Value
 at_:Int
 ep:Int
def ActM.row (a:ActM):List Value:=[.int .u8 (a.do_.toNat:Int),.int .i64 a.b.index,.int .i64 a.b.epoch,a.ov,.int .i64 a.m.role,.int .i64 a.m.seen,.int .i64 a.m.grant,a.mv,.string (str a.m.secret),a.lv,.int .i64 a.at_,.int .i64 a.ep]
structure ActM.In (w:World) (a:ActM):Prop where
 bat:BatIn w a.ov a.b
 met:MetaIn w a.mv a.m
 prs:PrsIn w a.lv a.l
 at_:i64r a.at_
 ep:i64r a.ep
theorem ActM.In.still {w w':World} {a:ActM} (h:a.In w) (hu:Upd (fun _=>False) w w'):a.In w':=⟨h.bat.still hu,h.met.still hu,h.prs.still hu,h.at_,h.ep⟩
structure IsActs17 (w:World) (v:Value) (l:List ActM):Prop where
 rows:RIn w 12 v (l.map ActM.row)
 each:∀a ∈ l,a.In w
section
variable {H:Type} {enc:TypeId × Value→H} {w:World} {base:Nat} {spare:Nat→Bool} {held:Bool}
theorem fld_of {P:Program} {t:TypeId} {fs:Array Field} {fuel:Nat} {cs:List Value} {x:DataW H × List MemPlace} (ht:P.underlying t=some (.struct fs)) (h:DataW.trod enc P w base spare held fuel t cs=some x)
 (j:Nat) (f:Field) (hj:fs[j]? = some f) (k:Nat) (hk:P.cellsOf f.type=k) (ty:TypeId) (hty:f.type=ty) (o:Nat) (ho:f.offset=o):∃n y,DataW.trod enc P w base spare held n ty ((cs.drop o).take k)=some y:=by
 obtain ⟨xs,n,_,_,hl,hlen,hf⟩:=DataW.trod_struct ht h;have h1:=hf j f hj;have hjl:j<xs.length:=by rw [hlen];exact (Array.getElem?_eq_some_iff.1 hj).1
 rw [hk,hty,ho,List.getElem?_eq_getElem hjl] at h1;exact ⟨n,_,h1⟩
theorem act17_of {fuel:Nat} {cs:List Value} {x:DataW H × List MemPlace} (h:DataW.trod enc Tryz.prog w base spare held fuel 65 cs=some x):∃a:ActM,cs=a.row∧a.In w:=by
 have hU:=Tryz.underlying65;obtain ⟨xs,n,_,_,hl,-,-⟩:=DataW.trod_struct hU h;rw [show Tryz.prog.cellsOf 65=12 by kernel_rfl] at hl;obtain ⟨n0,y0,t0⟩:=fld_of hU h 0 _ rfl 1 (by kernel_rfl) 5 rfl 0 rfl;obtain ⟨n1,y1,t1⟩:=fld_of hU h 1 _ rfl 3 (by kernel_rfl) 35 rfl 1 rfl;obtain ⟨n2,y2,t2⟩:=fld_of hU h 2 _ rfl 5 (by kernel_rfl) 50 rfl 4 rfl;obtain ⟨n3,y3,t3⟩:=fld_of hU h 3 _ rfl 1 (by kernel_rfl) 56 rfl 9 rfl;obtain ⟨n4,y4,t4⟩:=fld_of hU h 4 _ rfl 1 (by kernel_rfl) 3 rfl 10 rfl;obtain ⟨n5,y5,t5⟩:=fld_of hU h 5 _ rfl 1 (by kernel_rfl) 3 rfl 11 rfl;match cs,hl with
 | [c0,c1,c2,c3,c4,c5,c6,c7,c8,c9,c10,c11],_ =>
   simp only [List.drop_succ_cons,List.drop_zero,List.take_succ_cons,List.take_zero] at t0 t1 t2 t3 t4 t5;obtain ⟨k0,q0,_,w0⟩:=DataW.trod_int Tryz.underlying5 t0;obtain ⟨b,ov,q1,w1⟩:=bat_cells t1;obtain ⟨m,mv,q2,w2⟩:=meta_cells t2;obtain ⟨l,w3⟩:=prs_of t3;obtain ⟨k4,q4,_,w4⟩:=DataW.trod_int Tryz.underlying3 t4;obtain ⟨k5,q5,_,w5⟩:=DataW.trod_int Tryz.underlying3 t5;unfold metaRow at q2;simp only [List.cons.injEq,and_true] at q0 q1 q2 q4 q5;obtain ⟨k,rfl⟩:=u8_is w0;obtain ⟨rfl,rfl,rfl⟩:=q1;obtain ⟨rfl,rfl,rfl,rfl,rfl⟩:=q2;subst q0 q4 q5;exact ⟨⟨k,b,c3,m,c7,l,c9,k4,k5⟩,rfl,w1,w2,w3,i64r_of w4,i64r_of w5⟩
theorem acts17_of {fuel:Nat} {v:Value} {x:DataW H × List MemPlace} (h:DataW.trod enc Tryz.prog w base spare held fuel 60 [v]=some x):∃l,IsActs17 w v l:=by
 obtain ⟨cs,h1,h2⟩:=rin_of (k:=12) (fun c=>∃a:ActM,c=a.row∧a.In w) Tryz.underlying60 (by kernel_rfl) (by omega) (fun n cs y hy=>act17_of hy) h;obtain ⟨l,rfl,hq⟩:=pick_rows h2;exact ⟨l,h1,hq⟩
end
structure ActM.Few (a:ActM):Prop where
 ops:OpsFew a.b.ops
 prs:PrsFew a.l
 met:MetaFew a.m
theorem RIn.open_still {w:World} {k:Nat} {v:Value} {cs:List (List Value)} (h:RIn w k v cs):∃A cap b off,v=.slice A cs.length cap∧cs.length≤cap∧cs.length≤9223372036854775807∧(0<cs.length→A=some ⟨b,off,none⟩) ∧
 ∀w',Upd (fun _=>False) w w'→∀i c,cs[i]? = some c→w'.rangeAt b (off+i*k) c:=by
 obtain ⟨A,cap,h1,h2,h3,h4⟩:=h;by_cases h0:0<cs.length
 ·obtain ⟨b,off,cur,t,fr,e1,e2,e3⟩:=h4 h0
  refine ⟨A,cap,b,off,h1,h2,h3,fun _=>e1,fun w' hu i c hc j u hj=>?_⟩;have e5:=(hu.block b (Array.getElem?_eq_some_iff.1 e2).1 (fun e=>e)).trans e2;rw [cell_of_row w' b _ cur t fr e5];exact e3 i c hc j u hj
 ·refine ⟨A,cap,0,0,h1,h2,h3,fun h=>absurd h h0,fun w' hu i c hc=>?_⟩
  have:=(List.getElem?_eq_some_iff.1 hc).1;omega
def ActsFew (l:List ActM):Prop:=l.length≤60∧∀a ∈ l,a.Few
theorem great17_c {w:World} {v:Value} {l:List ActM} (hA:IsActs17 w v l) :
 Calls Tryz.prog 27 #[v] w fun e w'=>BoolSays (ActsFew l) w e w':=by
 obtain ⟨A,cap,bA,off,rfl,hcap,hm,hA0,hcells⟩:=hA.rows.open_still;rw [List.length_map] at hm hA0 hcap ⊢;have HR:=Lib.hid hcells;have HE:=Lib.hid hA.each;clear hcells hA;go_enter Tryz.func27,Tryz.ntmps27
 by_cases hn:60<l.length
 ·have hn':(60:Int)<(l.length:Int):=by omega
  go_wp2_with fail
  go_ret
  exact ⟨true,rfl,Upd.refl _ _,by simp⟩
 have hn':¬(60:Int)<(l.length:Int):=by omega
 go_wp2_with fail
 go_loopw [3] (fun i wr=>∃k:Nat,k≤l.length∧i=.int .i64 k∧Upd (fun _=>False) w wr∧∀j (h:j<l.length),j<k→l[j].Few) (fun i _=>l.length - (intOf i).toNat)
 case atStart=>exact ⟨0,by omega,rfl,Upd.refl _ _,fun j h hj=>by omega⟩
 case round =>
  obtain ⟨k,hk,rfl,hu,hall⟩:=hrel;have HALL:=h2k hall hu;clear hall hu;by_cases hlt:k<l.length
  ·obtain rfl:=hA0 (by omega)
   obtain ⟨x,hx⟩:=eqx (l[k]);have hin:∀W,Upd (fun _=>False) w W→x.In W:=fun W hW=>(HE.out x (hx ▸ List.getElem_mem hlt)).still hW
   have hrow:∀W,Upd (fun _=>False) w W→W.rangeAt bA (off+k*12) x.row:=fun W hW=>HR.out W hW k x.row (by rw [List.getElem?_map,List.getElem?_eq_getElem hlt,hx];rfl)
   have cO:wr.cell? ⟨bA,off+k*12+3,none⟩=some x.ov:=hrow wr HALL.out.2 3 _ rfl;have hwk:IntKind.i64.wrap ((k:Int)+1)=(k:Int)+1:=IntWalk.i64_in _ (by omega);have HX:=h5k hin hrow hx hk hlt;have j1:(k:Int)<(l.length:Int):=by omega
   clear hin hrow hx;go_wp2_with fail
   refine (greatops_c (HX.out.1 _ HALL.out.2).bat.ops).mono ?_;rintro e w2 ⟨b1,rfl,hU,hq1⟩;have HU2:=Lib.hid (HALL.out.2.then hU (fun _ e=>e.elim));clear hU cO;cases b1
   rotate_left 1
   ·clear hq1
    go_wp2_with fail
    go_ret
    exact ⟨true,rfl,HU2.out,by simp⟩
   have HF:=Lib.hid (hq1 rfl);clear hq1;have cL:w2.cell? ⟨bA,off+k*12+9,none⟩=some x.lv:=HX.out.2.1 w2 HU2.out 9 _ rfl;go_wp2_with fail
   refine (greatprs_c (HX.out.1 _ HU2.out).prs).mono ?_;rintro e w3 ⟨b2,rfl,hU,hq2⟩;have HU3:=Lib.hid (HU2.out.then hU (fun _ e=>e.elim));clear hU cL;cases b2
   rotate_left 1
   ·clear hq2
    go_wp2_with fail
    go_ret
    exact ⟨true,rfl,HU3.out,by simp⟩
   have HF2:=h2k HF.out (hq2 rfl);clear hq2;obtain ⟨S,hS⟩:=eqx (str x.m.secret);have c4:w3.cell? ⟨bA,off+k*12+4,none⟩=some (.int .i64 x.m.role):=HX.out.2.1 w3 HU3.out 4 _ rfl;have c5:w3.cell? ⟨bA,off+k*12+5,none⟩=some (.int .i64 x.m.seen):=HX.out.2.1 w3 HU3.out 5 _ rfl;have c6:w3.cell? ⟨bA,off+k*12+6,none⟩=some (.int .i64 x.m.grant):=HX.out.2.1 w3 HU3.out 6 _ rfl;have c7:w3.cell? ⟨bA,off+k*12+7,none⟩=some x.mv:=HX.out.2.1 w3 HU3.out 7 _ rfl;have c8:w3.cell? ⟨bA,off+k*12+8,none⟩=some (.string S):=HX.out.2.1 w3 HU3.out 8 _ (by rw [← hS];rfl)
   have HM:Hid (Calls Tryz.prog 38 #[.agg #[.int .i64 x.m.role,.int .i64 x.m.seen,.int .i64 x.m.grant,x.mv,.string S]] w3 fun e w'=>BoolSays (MetaFew x.m) w3 e w'):=by
    have:=greatmeta_c (HX.out.1 _ HU3.out).met;unfold metaRow at this;rw [hS] at this;exact Lib.hid this
   clear hS;go_wp2_with fail
   refine HM.out.mono ?_;rintro e w4 ⟨b3,rfl,hU,hq3⟩;have HU4:=Lib.hid (HU3.out.then hU (fun _ e=>e.elim));clear hU c4 c5 c6 c7 c8;cases b3
   rotate_left 1
   ·clear hq3
    go_wp2_with fail
    go_ret
    exact ⟨true,rfl,HU4.out,by simp⟩
   have HF3:=Lib.hid (hq3 rfl);clear hq3;go_wp2_with fail
   go_roundw
   case rel =>
    refine ⟨k+1,by omega,by simp,HU4.out,fun j h hj=>?_⟩;by_cases e:j=k
    ·subst e
     rw [HX.out.2.2.1];exact ⟨HF2.out.1,HF2.out.2,HF3.out⟩
    ·exact HALL.out.1 j h (by omega)
   case measure=>simp [intOf]<;>omega
  ·have j1:¬((k:Int)<(l.length:Int)):=by omega
   go_wp2_with fail
   go_ret
   refine ⟨false,rfl,HALL.out.2,fun _=>⟨by omega,fun o ho=>?_⟩⟩;obtain ⟨j,hj,rfl⟩:=List.mem_iff_getElem.1 ho;exact HALL.out.1 j hj (by omega)
end
section
open Go Go.RowKit
def VtO.cl (o:VtO) (v:Nat):Nat→Nat→Prop
 | 0,q=>q=v
 | 1,q=>q ∈ o.F
 | 2,q=>q=o.kb
 | 3,q=>q=o.lb
 | 4,q=>o.lv.ownBlock=some q
 | 5,q=>ringOwn o.rb o.rk o.ents q
 | _,q=>o.rv.ownBlock=some q
def clT:Nat→List TypeId
 | 0=>[117]
 | 1=>[151,9]
 | 2=>[209]
 | 3=>[199]
 | 4=>[9]
 | 5=>[186,269]
 | _=>[35]
theorem VtO.mut_cl {o:VtO} {v q:Nat} (h:o.mut v q):∃i,i≤6∧o.cl v i q:=by
 rcases h with h | h | h | h | h | h | h
 ·exact ⟨0,by omega,h⟩
 ·exact ⟨1,by omega,h⟩
 ·exact ⟨2,by omega,h⟩
 ·exact ⟨3,by omega,h⟩
 ·exact ⟨4,by omega,h⟩
 ·exact ⟨5,by omega,h⟩
 ·exact ⟨6,by omega,h⟩
theorem VtO.cl_mut {o:VtO} {v q:Nat} {i:Nat} (h:o.cl v i q):o.mut v q:=by
 match i,h with
 | 0,h=>exact .inl h
 | 1,h=>exact .inr (.inl h)
 | 2,h=>exact .inr (.inr (.inl h))
 | 3,h=>exact .inr (.inr (.inr (.inl h)))
 | 4,h=>exact .inr (.inr (.inr (.inr (.inl h))))
 | 5,h=>exact .inr (.inr (.inr (.inr (.inr (.inl h)))))
 | n+6,h=>exact .inr (.inr (.inr (.inr (.inr (.inr h)))))
theorem clT_all:∀i:Fin 7,∀j:Fin 7,i≠j→(clT i.val).all (fun t => !(clT j.val).contains t)=true∨(i.val=1∧j.val=4)∨(i.val=4∧j.val=1):=by decide
theorem clT_apart (i:Nat) (hi:i<7) (j:Nat) (hj:j<7) (h:i≠j) (t:TypeId) (h1:t ∈ clT i) (h2:t ∈ clT j):(i=1∧j=4)∨(i=4∧j=1):=by
 rcases clT_all ⟨i,hi⟩ ⟨j,hj⟩ (fun e=>h (congrArg Fin.val e)) with e | e
 ·have:=List.all_eq_true.1 e t h1
  simp [h2] at this
 ·exact e
section
variable {w w':World} {p v:Nat} {d d':Dk} {V V':VtM} {o o':VtO}
theorem VtAt.cl_kind (h:VtAt w p v d V o) {i q:Nat} (hi:i≤6) (hq:o.cl v i q):(∃t ∈ clT i,Ty w t q)∨(Mp w q∧(i=1∨i=5∧q=o.rk)):=by
 match i,hi,hq with
 | 0,_,hq=>exact .inl ⟨_,by simp [clT],hq ▸ h.blk.ty⟩
 | 1,_,hq =>
   rcases h.disk.kind hq with e | e | e
   ·exact .inl ⟨_,by simp [clT],e⟩
   ·exact .inl ⟨_,by simp [clT],e⟩
   ·exact .inr ⟨e,.inl rfl⟩
 | 2,_,hq=>exact .inl ⟨_,by simp [clT],hq ▸ h.kept.ty⟩
 | 3,_,hq=>exact .inl ⟨_,by simp [clT],hq ▸ h.log.ty⟩
 | 4,_,hq=>exact .inl ⟨_,by simp [clT],h.recs.ty hq⟩
 | 5,_,hq =>
   rcases h.ring.kind hq with e | e | e
   ·exact .inl ⟨_,by simp [clT],e⟩
   ·exact .inl ⟨_,by simp [clT],e⟩
   ·exact .inr ⟨e ▸ h.ring.map.mp,.inr ⟨rfl,e⟩⟩
 | 6,_,hq=>exact .inl ⟨_,by simp [clT],h.rows.ty hq⟩
theorem VtAt.apart (h:VtAt w p v d V o) {i j q:Nat} (hi:i≤6) (hj:j≤6) (hij:i≠j) (h1:o.cl v i q) (h2:o.cl v j q):False:=by
 rcases h.cl_kind hi h1 with ⟨t,e1,e2⟩ | ⟨e1,e2⟩<;>rcases h.cl_kind hj h2 with ⟨t',f1,f2⟩ | ⟨f1,f2⟩
 ·obtain rfl:=e2.inj f2
  rcases clT_apart i (by omega) j (by omega) hij t e1 f1 with ⟨rfl,rfl⟩ | ⟨rfl,rfl⟩
  ·exact h.sep q h2 h1
  ·exact h.sep q h1 h2
 ·exact e2.no_map f1
 ·exact f2.no_map e1
 ·rcases e2 with rfl | ⟨rfl,e⟩<;>rcases f2 with rfl | ⟨rfl,f⟩
  ·exact hij rfl
  ·subst f;exact h.rkF h1
  ·subst e;exact h.rkF h2
  ·exact hij rfl
theorem VtAt.lt (h:VtAt w p v d V o) {i q:Nat} (hi:i≤6) (hq:o.cl v i q):q<w.heap.size:=by
 rcases h.cl_kind hi hq with ⟨t,-,a,b,e⟩ | ⟨⟨a,b,e⟩,-⟩<;>exact (Array.getElem?_eq_some_iff.1 e).1
theorem VtAt.off (h:VtAt w p v d V o) {Z:Nat→Prop} {i k m j:Nat} (hz:∀q,Z q→o.cl v i q∨o.cl v k q∨o.cl v m q) (hj:j≤6∧i≤6∧k≤6∧m≤6∧i≠j∧k≠j∧m≠j) {q:Nat} (hq:o.cl v j q):¬Z q:=by
 intro e;obtain ⟨a,b,c,f,g1,g2,g3⟩:=hj;rcases hz q e with e | e | e
 ·exact h.apart b a g1 e hq
 ·exact h.apart c a g2 e hq
 ·exact h.apart f a g3 e hq
theorem VtStep.mk_ (hu:Upd (o.mut v) w w') (n:Nat) (hn:n=w.heap.size) (h1:∀q ∈ o'.F,q ∈ o.F∨n≤q) (h2:o'.kb=o.kb∨n≤o'.kb) (h3:o'.lb=o.lb∨n≤o'.lb) (h4:∀q,o'.lv.ownBlock=some q→o.lv.ownBlock=some q∨n≤q)
 (h5:∀q,ringOwn o'.rb o'.rk o'.ents q→ringOwn o.rb o.rk o.ents q∨n≤q) (h6:∀q,o'.rv.ownBlock=some q→o.rv.ownBlock=some q∨n≤q) (h7:o'.mb=o.mb∨n≤o'.mb:=by first | exact .inl rfl | assumption):VtStep w w' v o o':=by
 subst hn;refine ⟨hu,fun q hq=>?_,h7⟩;rcases hq with h | h | h | h | h | h | h
 ·exact .inl (.inl h)
 ·exact (h1 q h).imp (fun e=>.inr (.inl e)) id
 ·exact h2.imp (fun e=>.inr (.inr (.inl (h.trans e)))) (fun e=>h ▸ e)
 ·exact h3.imp (fun e=>.inr (.inr (.inr (.inl (h.trans e))))) (fun e=>h ▸ e)
 ·exact (h4 q h).imp (fun e=>.inr (.inr (.inr (.inr (.inl e))))) id
 ·exact (h5 q h).imp (fun e=>.inr (.inr (.inr (.inr (.inr (.inl e)))))) id
 ·exact (h6 q h).imp (fun e=>.inr (.inr (.inr (.inr (.inr (.inr e)))))) id
theorem VtAt.kept_ {k':Kp} (h:VtAt w p v d V o) (hP:PutLeft w w' p o.kb d' k' o.F):∃F',VtAt w' p v d' { V with kp:=k' } { o with F:=F' } ∧ VtStep w w' v o { o with F:=F' } := by
 obtain ⟨F',hD,hsub⟩:=hP.disk;have hu:=hP.upd;have hz:∀q,(q=o.kb∨q ∈ o.F)→o.cl v 2 q∨o.cl v 1 q∨o.cl v 1 q:=fun q e=>e.elim .inl fun e=>.inr (.inl e)
 have hm:∀q,(q=o.kb∨q ∈ o.F)→o.mut v q:=fun q e=>(hz q e).elim VtO.cl_mut fun e=>e.elim VtO.cl_mut VtO.cl_mut
 have hs:∀ {j q:Nat},j≤6→o.cl v j q→j≠1→q ∉ F':=fun hj hq h1 hf=>by
  rcases hsub _ hf with e | e
  ·exact h.apart (i:=1) (by omega) hj (fun e=>h1 e.symm) e hq
  ·have:=h.lt hj hq;omega
 refine ⟨F',⟨hD,h.blk.upd hu (h.off hz (j:=0) (by decide) rfl),hP.kept,h.log.upd hu (h.off hz (j:=3) (by decide) rfl),h.recs.upd hu (fun q e=>h.off hz (j:=4) (by decide) e),fun q e=>hs (j:=4) (by omega) e (by omega),h.ring.move hu (fun q e=>h.off hz (j:=5) (by decide) e),hs (j:=5) (by omega) (.inr (.inl rfl)) (by omega),h.keep_map hu hm,fun e=>?_,h.mbk,h.rows.upd hu (fun q e=>h.off hz (j:=6) (by decide) e),h.ovl,h.keep_each hu hm,h.keep_mts hu hm⟩,VtStep.mk_ (hu.mono fun q e=>.inl (hm q e)) _ rfl hsub (.inl rfl) (.inl rfl) (fun q e=>.inl e) (fun q e=>.inl e) (fun q e=>.inl e)⟩;rcases hsub _ e with e | e
 ·exact h.mbF e
 ·exact absurd h.map.lt.2 (Nat.not_lt.2 e)
theorem VtAt.log_ {g':Lg} (h:VtAt w p v d V o) (hP:AddLeft w w' p o.lb d' g' o.F o.lv):∃F' lv',VtAt w' p v d' { V with lg:=g' } { o with F:=F',lv:=lv' } ∧ VtStep w w' v o { o with F:=F',lv:=lv' } := by
 obtain ⟨F',lv',hD,hsub,hB,hO,hvs,hsep⟩:=hP.ex;have hu:=hP.upd;have hz:∀q,(q=o.lb∨q ∈ o.F∨o.lv.ownBlock=some q)→o.cl v 3 q∨o.cl v 1 q∨o.cl v 4 q:=fun q e=>e
 have hm:∀q,(q=o.lb∨q ∈ o.F∨o.lv.ownBlock=some q)→o.mut v q:=fun q e=>(hz q e).elim VtO.cl_mut fun e=>e.elim VtO.cl_mut VtO.cl_mut
 have hs:∀ {j q:Nat},j≤6→o.cl v j q→j≠1→q ∉ F':=fun hj hq h1 hf=>by
  rcases hsub _ hf with e | e
  ·exact h.apart (i:=1) (by omega) hj (fun e=>h1 e.symm) e hq
  ·have:=h.lt hj hq;omega
 refine ⟨F',lv',⟨hD,h.blk.upd hu (h.off hz (j:=0) (by decide) rfl),h.kept.upd hu (h.off hz (j:=2) (by decide) rfl),hB,hO,hsep,h.ring.move hu (fun q e=>h.off hz (j:=5) (by decide) e),hs (j:=5) (by omega) (.inr (.inl rfl)) (by omega),h.keep_map hu hm,fun e=>?_,h.mbk,h.rows.upd hu (fun q e=>h.off hz (j:=6) (by decide) e),h.ovl,h.keep_each hu hm,h.keep_mts hu hm⟩,VtStep.mk_ (hu.mono fun q e=>.inl (hm q e)) _ rfl hsub (.inl rfl) (.inl rfl) hvs (fun q e=>.inl e) (fun q e=>.inl e)⟩;rcases hsub _ e with e | e
 ·exact h.mbF e
 ·exact absurd h.map.lt.2 (Nat.not_lt.2 e)
theorem VtAt.disk_ {F':List Nat} (h:VtAt w p v d V o) (hL:Left w w' p d' o.F F'):VtAt w' p v d' V { o with F:=F' } ∧ VtStep w w' v o { o with F:=F' } := by
 have hsub:=hL.sub;have hu:=hL.upd;have hz:∀q,q ∈ o.F→o.cl v 1 q∨o.cl v 1 q∨o.cl v 1 q:=fun q e=>.inl e
 have hm:∀q,q ∈ o.F→o.mut v q:=fun q e=>.inr (.inl e)
 have hs:∀ {j q:Nat},j≤6→o.cl v j q→j≠1→q ∉ F':=fun hj hq h1 hf=>by
  rcases hsub _ hf with e | e
  ·exact h.apart (i:=1) (by omega) hj (fun e=>h1 e.symm) e hq
  ·have:=h.lt hj hq;omega
 refine ⟨⟨hL.disk,h.blk.upd hu (h.off hz (j:=0) (by decide) rfl),h.kept.upd hu (h.off hz (j:=2) (by decide) rfl),h.log.upd hu (h.off hz (j:=3) (by decide) rfl),h.recs.upd hu (fun q e=>h.off hz (j:=4) (by decide) e),fun q e=>hs (j:=4) (by omega) e (by omega),h.ring.move hu (fun q e=>h.off hz (j:=5) (by decide) e),hs (j:=5) (by omega) (.inr (.inl rfl)) (by omega),h.keep_map hu hm,fun e=>?_,h.mbk,h.rows.upd hu (fun q e=>h.off hz (j:=6) (by decide) e),h.ovl,h.keep_each hu hm,h.keep_mts hu hm⟩,VtStep.mk_ (hu.mono fun q e=>.inl (hm q e)) _ rfl hsub (.inl rfl) (.inl rfl) (fun q e=>.inl e) (fun q e=>.inl e) (fun q e=>.inl e)⟩;rcases hsub _ e with e | e
 ·exact h.mbF e
 ·exact absurd h.map.lt.2 (Nat.not_lt.2 e)
theorem VtAt.ring_ {n' cur':Nat} {ents':List (Int × Nat)} (h:VtAt w p v d V o) (hR:RgE (ringOwn o.rb o.rk o.ents) w w' o.rb (str masterL) cur' V.st.boot n' o.rk ents'):VtAt w' p v d { V with n:=n',cur:=cur' } { o with ents:=ents' } ∧ VtStep w w' v o { o with ents:=ents' } := by
 have hu:=hR.upd;have hz:∀q,ringOwn o.rb o.rk o.ents q→o.cl v 5 q∨o.cl v 5 q∨o.cl v 5 q:=fun q e=>.inl e
 have hm:∀q,ringOwn o.rb o.rk o.ents q→o.mut v q:=fun q e=>VtO.cl_mut (i:=5) e
 refine ⟨⟨h.disk.upd hu (fun q e=>h.off hz (j:=1) (by decide) e),h.blk.upd hu (h.off hz (j:=0) (by decide) rfl),h.kept.upd hu (h.off hz (j:=2) (by decide) rfl),h.log.upd hu (h.off hz (j:=3) (by decide) rfl),h.recs.upd hu (fun q e=>h.off hz (j:=4) (by decide) e),h.sep,hR.here,h.rkF,h.keep_map hu hm,h.mbF,h.mbk,h.rows.upd hu (fun q e=>h.off hz (j:=6) (by decide) e),h.ovl,h.keep_each hu hm,h.keep_mts hu hm⟩,VtStep.mk_ (hu.mono fun q e=>.inl (hm q e)) _ rfl (fun q e=>.inl e) (.inl rfl) (.inl rfl) (fun q e=>.inl e) (fun q e=>hR.own_is q e) (fun q e=>.inl e)⟩
theorem VtAt.cells_ (h:VtAt w p v d V o) (hu:Upd (· = v) w w') (hF:o'.F=o.F) (hkb:o'.kb=o.kb) (hrb:o'.rb=o.rb) (hrk:o'.rk=o.rk) (he:o'.ents=o.ents) (hB:Blk w' v 117 (vtRow V' p o')) (hk:V'.kp=V.kp) (hc:V'.cur=V.cur) (hn:V'.n=V.n) (hbt:V'.st.boot=V.st.boot)
 (hl:Blk w' o'.lb 199 (V'.lg.cells p o'.lv)) (hr:Own w' 9 1 o'.lv V'.lg.l.length (strs V'.lg.l)) (hs:∀q,o'.lv.ownBlock=some q→q ∉ o.F)
 (hm:MapAt w' o'.m o'.mb V'.S) (hmF:o'.mb ∉ o.F) (hmk:o'.mb≠o.rk) (hrows:Own w' 35 3 o'.rv V'.rows.length (rowsV V'.rows o'.ovs)) (hov:o'.ovs.length=V'.rows.length)
 (heach:∀(i:Nat) (b:BatM) (ov:Value),V'.rows[i]? = some b→o'.ovs[i]? = some ov→TRow w' 32 3 ov (b.ops.map opRow)) (hmts:TRow w' 46 2 o'.mv (V'.st.m.mounts.map mtRow)):VtAt w' p v d V' o':=by
 have hz:∀q,q=v→o.cl v 0 q∨o.cl v 0 q∨o.cl v 0 q:=fun q e=>.inl e
 refine ⟨hF ▸ h.disk.upd hu (fun q e=>h.off hz (j:=1) (by decide) e),hB,?_,hl,hr,by rw [hF];exact hs,?_,by rw [hF,hrk];exact h.rkF,hm,by rw [hF];exact hmF,by rw [hrk];exact hmk,hrows,hov,heach,hmts⟩
 ·rw [hkb,hk];exact h.kept.upd hu (h.off hz (j:=2) (by decide) rfl)
 ·rw [hrb,hrk,he,hc,hn,hbt];exact h.ring.move hu (fun q e=>h.off hz (j:=5) (by decide) e)
theorem VtAt.not_v (h:VtAt w p v d V o) {j q:Nat} (hj:j≤6∧0≠j) (hq:o.cl v j q):¬q=v:=fun e=>h.apart (i:=0) (by omega) hj.1 hj.2 e hq
theorem upd_cell {w:World} {b n:Nat} {x:Value} : Upd (· = b) w (w.setCell ⟨b,n,none⟩ x):=(Upd.refl (fun q=>q=b) w).setCell (p:=⟨b,n,none⟩) (.inl rfl) _
theorem VtAt.nums_ (h:VtAt w p v d V o) (hu:Upd (· = v) w w') {mv':Value} (hB:Blk w' v 117 (vtRow V' p { o with mv:=mv' })) (hk:V'.kp=V.kp) (hl:V'.lg=V.lg) (hS:V'.S=V.S) (hr:V'.rows=V.rows) (hc:V'.cur=V.cur) (hn:V'.n=V.n) (hbt:V'.st.boot=V.st.boot)
 (hmts:TRow w' 46 2 mv' (V'.st.m.mounts.map mtRow)):VtAt w' p v d V' { o with mv:=mv' } ∧ VtStep w w' v o { o with mv:=mv' } := by
 have hm:∀q,q=v→o.mut v q:=fun q e=>.inl e
 refine ⟨h.cells_ hu rfl rfl rfl rfl rfl hB hk hc hn hbt ?_ ?_ h.sep ?_ h.mbF h.mbk ?_ (by rw [hr];exact h.ovl) ?_ hmts,VtStep.mk_ (hu.mono fun q e=>.inl (hm q e)) _ rfl (fun q e=>.inl e) (.inl rfl) (.inl rfl) (fun q e=>.inl e) (fun q e=>.inl e) (fun q e=>.inl e)⟩
 ·rw [hl];exact h.log.upd hu (h.not_v (j:=3) (by decide) rfl)
 ·rw [hl];exact h.recs.upd hu (fun q e=>h.not_v (j:=4) (by decide) e)
 ·rw [hS];exact h.keep_map hu hm
 ·rw [hr];exact h.rows.upd hu (fun q e=>h.not_v (j:=6) (by decide) e)
 ·rw [hr];exact h.keep_each hu hm
end
end
section
open Go Go.RowKit
theorem Blk.cells21 {w:World} {g:Nat} {t:TypeId} {a b c d e f h i j k l m n o p q r s u v x:Value} (z:Blk w g t #[a,b,c,d,e,f,h,i,j,k,l,m,n,o,p,q,r,s,u,v,x]) :
 w.cell? ⟨g,0,none⟩=some a∧w.cell? ⟨g,1,none⟩=some b∧w.cell? ⟨g,2,none⟩=some c∧w.cell? ⟨g,3,none⟩=some d∧w.cell? ⟨g,4,none⟩=some e∧w.cell? ⟨g,5,none⟩=some f∧w.cell? ⟨g,6,none⟩=some h∧w.cell? ⟨g,7,none⟩=some i∧w.cell? ⟨g,8,none⟩=some j∧w.cell? ⟨g,20,none⟩=some x :=
 ⟨z.cell 0,z.cell 1,z.cell 2,z.cell 3,z.cell 4,z.cell 5,z.cell 6,z.cell 7,z.cell 8,z.cell 20⟩
section
variable {w w':World} {p v:Nat} {d d':Dk} {V V':VtM} {o o':VtO}
theorem VtAt.down_ (h:VtAt w p v d V o):VtAt (w.setCell ⟨v,20,none⟩ (.bool true)) p v d { V with down:=true } o∧VtStep w (w.setCell ⟨v,20,none⟩ (.bool true)) v o o:=by
 have hu:Upd (· = v) w (w.setCell ⟨v,20,none⟩ (.bool true)):=upd_cell;exact h.nums_ (V' := { V with down:=true }) (mv':=o.mv) hu (by
  have:=h.blk.set_ 20 (.bool true);simpa [vtRow] using this) rfl rfl rfl rfl rfl rfl rfl (h.keep_mts hu (fun q e=>.inl e))
theorem told_c (h:VtAt w p v d V o) (x:Int):Calls Tryz.prog 59 #[.pointer (some ⟨v,0,none⟩),.int .i64 x] w fun e w'=>e=.returned (.int .i64 x)∧VtAt w' p v d (V.told x) o∧VtStep w w' v o o:=by
 have hB:=h.blk;unfold vtRow at hB;have hc:=hB.cells21;have hz:=hB.frozen 20;have H:=Lib.hid h;clear h hB;by_cases hx:x=14
 ·subst hx
  go_enter Tryz.func59,Tryz.ntmps59
  go_wp2
  go_ret
  refine ⟨rfl,?_⟩;rw [show V.told 14 = { V with down:=true } by unfold VtM.told;simp]
  exact H.out.down_
 ·have hx':(x == 14)=false:=by simpa using hx
  go_enter Tryz.func59,Tryz.ntmps59
  go_wp2
  go_ret
  refine ⟨rfl,?_⟩;rw [show V.told x=V by unfold VtM.told;simp [hx]]
  exact ⟨H.out,VtStep.refl _ _ _⟩
theorem off_c (h:VtAt w p v d V o):Calls Tryz.prog 53 #[.pointer (some ⟨v,0,none⟩)] w fun e w'=>e=.returned (.int .i64 (if offV d V then 14 else 0))∧VtAt w' p v d (if offV d V then { V with down:=true } else V) o∧VtStep w w' v o o∧(offV d V=false→w=w'):=by
 have hB:=h.blk;unfold vtRow at hB;have hc:=hB.cells21;have hz:=hB.frozen 20;have HD:=Lib.hid (down_c h.disk);have H:=Lib.hid h;clear h hB;cases hd:V.down
 ·rw [hd] at hc
  cases ho:d.off
  ·rw [ho] at HD
   have e:offV d V=false:=by unfold offV;rw [hd,ho];rfl
   rw [e];clear e ho hd;go_enter Tryz.func53,Tryz.ntmps53
   go_wp2_with (go_at_call 33;refine HD.out.mono ?_;rintro e w' ⟨rfl,rfl⟩);go_ret
   exact ⟨rfl,H.out,VtStep.refl _ _ _,rfl⟩
  ·rw [ho] at HD
   have e:offV d V=true:=by unfold offV;rw [hd,ho];rfl
   rw [e];clear e ho hd;go_enter Tryz.func53,Tryz.ntmps53
   go_wp2_with (go_at_call 33;refine HD.out.mono ?_;rintro e w' ⟨rfl,rfl⟩);go_ret
   exact ⟨rfl,H.out.down_.1,H.out.down_.2⟩
 ·rw [hd] at hc
  have e:offV d V=true:=by unfold offV;rw [hd];rfl
  rw [e];clear e hd;go_enter Tryz.func53,Tryz.ntmps53
  go_wp2_with fail
  go_ret
  exact ⟨rfl,H.out.down_.1,H.out.down_.2⟩
end
end
section
open Go Go.RowKit
theorem Put_any {w:World} {p b:Nat} {d:Dk} {F:List Nat} {k:Kp} (hD:DiskAt w p d F) (hK:Blk w b 209 (k.cells p)) (s:ByteArray)
 (hseen:k.seen<18446744073709551616) (hat:k.at_≤1) (hf:k.from_≤4096) (hp:d.pend+20<1000000) :
 Calls Tryz.prog 127 #[.pointer (some ⟨b,0,none⟩),.string s] w fun e w'=>e=.returned (.int .i64 (putK d k s.data.toList).2.2)∧PutLeft w w' p b (putK d k s.data.toList).1 (putK d k s.data.toList).2.1 F:=by
 have hl:s.data.toList.length=s.size:=by simp
 have hno:PutLeft w w p b d k F:=⟨⟨F,hD,fun q e=>.inl e⟩,hK,Upd.refl _ _⟩;by_cases h:k.broken=true∨400<s.size∨k.seen=18446744073709551615
 ·refine (Put_refused hK s h).mono ?_
  rintro e w' ⟨rfl,rfl⟩;unfold putK;rw [hl];by_cases h1:k.broken=true
  ·rw [if_pos h1,if_pos h1];exact ⟨rfl,hno⟩
  ·rw [if_neg h1,if_neg h1]
   by_cases h2:400<s.size
   ·rw [if_pos h2,if_pos h2];exact ⟨rfl,hno⟩
   ·rw [if_neg h2,if_neg h2,if_pos (by rcases h with h | h | h;exact absurd h h1;exact absurd h h2;exact h)];exact ⟨rfl,hno⟩
 ·simp only [not_or] at h
  exact Put_goes hD hK s (by simpa using h.1) (by omega) (by omega) hat hf hp
theorem stRow_one (s:StM) (mv:Value) (h:mv.oneCell'=true):(stRow s mv).all (·.oneCell')=true:=by
 simp only [stRow,List.all_toArray,List.all_cons,List.all_nil,h,Bool.and_true];simp [Value.oneCell']
section
variable {w w':World} {p v:Nat} {d d':Dk} {V V':VtM} {o o':VtO}
theorem put_c (h:VtAt w p v d V o) (s:StM) (hs:StOk s) {mv:Value} (hmv:TRow w 46 2 mv (s.m.mounts.map mtRow)) (hb0:s.boot=V.st.boot) (hcur:V.cur≤1048576) (hn:V.n<4611686018427387904)
 (hseen:V.kp.seen<18446744073709551616) (hat:V.kp.at_≤1) (hf:V.kp.from_≤4096) (hp:d.pend+20<1000000) :
 Calls Tryz.prog 67 #[.pointer (some ⟨v,0,none⟩),.agg (stRow s mv)] w fun e w'=>e=.returned (.int .i64 (putV d V s).2.2)∧∃o',VtAt w' p v (putV d V s).1 (putV d V s).2.1 o'∧VtStep w w' v o o':=by
 obtain ⟨A,cap,mb,mo,hmv1,hmv2,hmv3,hmv4,hmv5⟩:=hmv.mts;have hrb:V.st.boot<4294967296:=by have:=hs.boot;omega
 have hsl:s.m.secret.length≤64:=(rightM_ok hs.right).sec;obtain ⟨X,hX⟩:=eqx (V.wrap sSecret s.m.secret);have hXl:X.length≤116:=by
  rw [← hX];have:=sealB_len (k:=ringK masterL V.cur) (about:=sSecret) hcur hrb (show V.n<18446744073709551616 by omega) (show s.m.secret.length≤8192 by omega);unfold VtM.wrap;omega
 have hput:putV d V s=if (putK d V.kp (stB s X)).2.2≠0 then ((putK d V.kp (stB s X)).1,({ V.next with kp:=(putK d V.kp (stB s X)).2.1 } : VtM).told (putK d V.kp (stB s X)).2.2,(putK d V.kp (stB s X)).2.2) else ((putK d V.kp (stB s X)).1,{ V.next with kp:=(putK d V.kp (stB s X)).2.1,st:=s },0):=by
  unfold putV;rw [hX]
 obtain ⟨c,hc⟩:=eqx w.heap.size;obtain ⟨C,hC⟩:=eqx (stRow s mv);have hC1:C.all (·.oneCell')=true:=by rw [← hC];exact stRow_one s mv (by rw [hmv1];rfl)
 have hC4:C[4]? = some (.string (str s.m.secret)):=by rw [← hC];rfl
 have hCs:C.size=11:=by rw [← hC];rfl
 have HP:=Lib.hid hput;have HC:=h4k hC hC1 hC4 hCs;have HM:=h6k hmv hmv1 hmv2 hmv3 hmv4 hmv5;have HS:=h4k hs hb0 hsl hrb;have HX:=h2k hX hXl;have HN:=h6k hcur hn hseen hat hf hp;have H:=Lib.hid h;have Hc:=Lib.hid hc;rw [hC];clear h hs hmv hb0 hcur hn hseen hat hf hp hmv1 hmv2 hmv3 hmv4 hmv5 hrb hsl hX hXl hput hc hC hC1 hC4 hCs;go_enter Tryz.func67,Tryz.ntmps67
 go_upto_region 1 with fail
 rw [Hc.out];generalize hw1:World.alloc _ _=w1;have hB1:Blk w1 c 115 C:=by rw [← hw1,← Hc.out];exact Blk.new w _ _
 have hU1:Upd (fun _=>False) w w1:=by rw [← hw1];exact (Upd.refl _ w).alloc _
 have hs1:c<w1.heap.size:=hB1.lt;have H1:=h4k hB1 hU1 hs1 (H.out.still hU1);clear hB1 hU1 hs1 hw1;refine wp_region_noPanic ?_;refine wp_region_T (S:=fun w'=>Blk w' c 115 C∧w'.cell? ⟨v,8,none⟩=some (.pointer (some ⟨o.rb,0,none⟩))) (T:=fun _=>false) (by kernel_rfl) ?_;have hS0:Blk w1.drew c 115 C∧w1.drew.cell? ⟨v,8,none⟩=some (.pointer (some ⟨o.rb,0,none⟩)):=⟨H1.out.1.drew,H1.out.2.2.2.blk.cell 8⟩;have HCK:=Lib.hid (fun (w':World) (h:Blk w' c 115 C)=>(h.cell 4).trans HC.out.2.2.1);refine tk8 0 ?_;simp only [tkS];refine tk8 1 ?_;simp only [tkS];refine tk8 2 ?_;simp only [tkS];refine tk8 3 ?_ rfl (by intro w' hSw;have ck:=hSw.2;go_split_ands;first | (go_simp;done) | (go_simp;rfl) | rfl)
 simp only [tkS];refine tk8 4 ?_;simp only [tkS];refine tk8 5 ?_;simp only [tkS];refine tk8 6 ?_ rfl (by intro w' hSw;have ck:=HCK.out _ hSw.1;go_split_ands;first | (go_simp;done) | (go_simp;rfl) | rfl)
 simp only [tkS];refine wpAnyT_one (i:=7) (by kernel_rfl) rfl (fun KK hKK=>?_);go_simp
 have hX2:sealB (ringK (str masterL).data.toList V.cur) V.cur V.st.boot V.n (str sSecret).data.toList (str s.m.secret).data.toList=X:=by rw [← HX.out.1,str_list,str_list,str_list];rfl
 have hwr:=rwrap_c (H1.out.2.2.2.still (Upd.refl (fun _=>False) w1).drew).ring (by rw [str_size];decide) HN.out.1 (by have:=HS.out.2.1;have:=HS.out.2.2.2;omega) HN.out.2.1 (str sSecret) (str s.m.secret) (by decide) (by rw [str_size];have:=HS.out.2.2.1;omega);rw [hX2] at hwr;refine hwr.mono ?_;rintro e w2 ⟨rfl,ents',hR⟩;have hA2:=(H1.out.2.2.2.still (Upd.refl (fun _=>False) w1).drew).ring_ hR;have hB2:Blk w2 c 115 C:=hS0.1.upd hR.upd (fun e=>by have e1:=H.out.lt (i:=5) (by decide) e;have e2:=Hc.out;omega);have hS2:Blk w2 c 115 C∧w2.cell? ⟨v,8,none⟩=some (.pointer (some ⟨o.rb,0,none⟩)):=⟨hB2,hA2.1.blk.cell 8⟩;refine hKK.out _ _ hS2 ?_;have H2:=h2k hA2 hB2;clear hKK hA2 hB2 hX2 hR hwr;refine tk8 8 ?_;simp only [tkS];refine tk8 9 ?_;simp only [tkS];refine tk8 10 ?_;simp only [tkS];refine tk8 11 ?_;simp only [tkS];refine tk8 12 ?_;simp only [tkS];refine wpAnyT_done (by kernel_rfl) ?_ _;refine NoPanic.normal ?_;clear hS0 hS2 HCK;go_upto_region 4 with fail
 obtain ⟨P,hP⟩:=eqx (putK d V.kp (stB s X));have HPP:=Lib.hid hP;clear hP;refine wp_region_noPanic ?_;refine wp_region_T (S:=fun w'=>Blk w' c 115 C∧w'.cell? ⟨v,6,none⟩=some (.pointer (some ⟨o.kb,0,none⟩))) (T:=fun _=>false) (by kernel_rfl) ?_;have hS0:Blk w2.drew c 115 C∧w2.drew.cell? ⟨v,6,none⟩=some (.pointer (some ⟨o.kb,0,none⟩)):=⟨H2.out.2.drew,H2.out.1.1.blk.cell 6⟩;refine tk8 0 ?_;simp only [tkS];refine tk8 1 ?_;simp only [tkS];refine tk8 2 ?_;simp only [tkS];refine tk8 3 ?_ rfl (by intro w' hSw;have ck:=hSw.2;go_split_ands;first | (go_simp;done) | (go_simp;rfl) | rfl)
 simp only [tkS];refine wpAnyT_take8 (i:=4) (v:=.agg C) rfl (by kernel_rfl) (by kernel_rfl) (by kernel_rfl) (by kernel_rfl) (fun _ _ _ h=>h) (takes_load_all rfl (by rfl) _ _ rfl c (by rfl) _ _ _ (fun w' hSw=>hSw.1) Tryz.underlying115 rfl (by rw [HC.out.2.2.2];kernel_rfl)) (by assumption) (by kernel_rfl) ?_
 simp only [tkS];refine tk8 5 ?_;simp only [tkS];refine wpAnyT_one (i:=6) (by kernel_rfl) rfl (fun KK hKK=>?_);go_simp
 have hU2:Upd (o.mut v) w w2.drew:=((H1.out.2.1.mono (fun _ e=>e.elim)).drew.then H2.out.1.2.upd (fun q e=>.inl e)).drew;have htx:=stext_c (w:=w2.drew) (A:=A) (cap:=cap) (b:=mb) (off:=mo) s HS.out.1 HM.out.2.2.2.2.1 (fun w' hu=>HM.out.2.2.2.2.2 w' (o.mut v) (hU2.then hu (fun _ e=>e.elim)) (fun b ht=>H.out.not_mut (ht (by decide)) (by decide))) (str X) (by rw [str_size];have:=HX.out.2;omega);rw [← HM.out.2.1,HC.out.1,str_list] at htx;refine htx.mono ?_;rintro e w3 ⟨rfl,hu3⟩;have hA3:=(H2.out.1.1.still (Upd.refl (fun _=>False) w2).drew).still hu3;have hS3:Blk w3 c 115 C∧w3.cell? ⟨v,6,none⟩=some (.pointer (some ⟨o.kb,0,none⟩)):=⟨hS0.1.upd hu3 (fun e=>e),hA3.blk.cell 6⟩;refine hKK.out _ _ hS3 ?_;have H3:=h3k hA3 hu3 hS3;clear hKK hA3 hu3 htx hU2;refine wpAnyT_one (i:=7) (by kernel_rfl) rfl (fun KK hKK=>?_);go_simp
 have hpa:=Put_any H3.out.1.disk H3.out.1.kept (str (stB s X)) HN.out.2.2.1 HN.out.2.2.2.1 HN.out.2.2.2.2.1 HN.out.2.2.2.2.2;rw [str_list] at hpa;refine hpa.mono ?_;rintro e w4 ⟨rfl,hPL⟩;obtain ⟨F',hA4,hT4⟩:=H3.out.1.kept_ hPL;have hS4:Blk w4 c 115 C∧w4.cell? ⟨v,6,none⟩=some (.pointer (some ⟨o.kb,0,none⟩)):=⟨hS3.1.upd hPL.upd (fun e=>by
  have e2:=Hc.out;rcases e with e | e
  ·have e1:=H.out.lt (i:=2) (q:=c) (by decide) e;omega
  ·have e1:=H.out.lt (i:=1) (q:=c) (by decide) e;omega),hA4.blk.cell 6⟩
 refine hKK.out _ _ hS4 ?_;have H4:=h3k hA4 hT4 hS4.1;clear hKK hA4 hT4 hPL hpa;refine tk8 8 ?_;simp only [tkS];refine wpAnyT_done (by kernel_rfl) ?_ _;refine NoPanic.normal ?_;clear hS0 hS3 hS4;have HT:=Lib.hid (((VtStep.mk (o:=o) (o':=o) (v:=v) (H1.out.2.1.mono (fun _ e=>e.elim)).drew (fun q e=>.inl e)).trans (H2.out.1.2.still (Upd.refl (fun _=>False) w2).drew)).still H3.out.2.1 |>.trans H4.out.2.1);obtain ⟨E,hE⟩:=eqx (putK d V.kp (stB s X)).2.2;rw [hE];by_cases h0:E=0
 ·subst h0
  have HE:=Lib.hid hE;clear hE;have hsz:9+C.size≤(vtRow { V.next with kp:=(putK d V.kp (stB s X)).2.1 } p { o with ents:=ents',F:=F' }).size:=by rw [HC.out.2.2.2];exact Nat.le_of_ble_eq_true rfl
  have hnew:(vtRow { V.next with kp:=(putK d V.kp (stB s X)).2.1 } p { o with ents:=ents',F:=F' }).toList.take 9++C.toList++(vtRow { V.next with kp:=(putK d V.kp (stB s X)).2.1 } p { o with ents:=ents',F:=F' }).toList.drop (9+C.size)=(vtRow { V.next with kp:=(putK d V.kp (stB s X)).2.1,st:=s } p { o with ents:=ents',F:=F',mv:=mv }).toList:=by rw [HC.out.2.2.2,← HC.out.1];rfl
  have hblk:Blk w4 v 117 (vtRow { V.next with kp:=(putK d V.kp (stB s X)).2.1 } p { o with ents:=ents',F:=F' }):=H4.out.1.blk;go_wp2_with (first
   | (refine wpList_load_all rfl _ _ rfl c rfl _ _ _ H4.out.2.2 Tryz.underlying115 rfl (by rw [HC.out.2.2.2];kernel_rfl) ?_)
   | (refine wpList_store_part rfl 115 _ _ rfl v 9 C rfl rfl _ _ (vtRow { V.next with kp:=(putK d V.kp (stB s X)).2.1,st:=s } p { o with ents:=ents',F:=F',mv:=mv }) hblk hsz hnew HC.out.2.1 (by rw [HC.out.2.2.2];kernel_rfl) ?_
      intro w5 hB5 hU5 hs5))
  go_ret
  have hmv5:TRow w5 46 2 mv (s.m.mounts.map mtRow):=HM.out.1.upd (HT.out.upd.then hU5 (fun q e=>.inl (.inl e))) (fun b ht=>H.out.not_mut ht (by decide));have h5:=H4.out.1.nums_ (V' := { V.next with kp:=(putK d V.kp (stB s X)).2.1,st:=s }) hU5 hB5 rfl rfl rfl rfl rfl rfl HS.out.2.1 hmv5;rw [HP.out,if_neg (by rw [HE.out];simp)]
  exact ⟨rfl,_,h5.1,HT.out.trans h5.2⟩
 ·have hE0:(E != 0)=true:=by simpa using h0
  have HE:=h2k hE h0;have HTD:=Lib.hid (told_c H4.out.1 E);clear hE h0;go_wp2_with (first
   | (go_at_call 59;refine HTD.out.mono ?_;rintro e w5 ⟨rfl,h5,k5⟩))
  go_ret
  rw [HP.out,if_pos (by rw [HE.out.1];exact HE.out.2),HE.out.1];exact ⟨rfl,_,h5,HT.out.trans k5⟩
end
end
end Go.Proofs.YtbhjgfibhegddaaGreat
