/-
  Parts of the proof of VaultKnown: VatJ, VatK, VatL, VatM, VatN, VatO, VatP.
-/
import Derived.Test.YtbhjgfibhegddaaGreatQVaultKnown16
set_option maxRecDepth 100000
set_option maxHeartbeats 16000000
namespace Go.Proofs.YtbhjgfibhegddaaGreat
section
open Go Go.RowKit
def Ty (w:World) (t:TypeId) (b:Nat):Prop:=∃cur fr,w.heap[b]? = some (.cells cur t fr)
def Mp (w:World) (b:Nat):Prop:=∃es c,w.heap[b]? = some (.map es c)
theorem Ty.inj {w:World} {t t':TypeId} {b:Nat} (h:Ty w t b) (h':Ty w t' b):t=t':=by
 obtain ⟨a,f,e⟩:=h;obtain ⟨a',f',e'⟩:=h';rw [e] at e';injection e' with e';injection e' with _ e'
theorem Ty.no_map {w:World} {t:TypeId} {b:Nat} (h:Ty w t b) (h':Mp w b):False:=by
 obtain ⟨a,f,e⟩:=h;obtain ⟨a',f',e'⟩:=h';rw [e] at e';injection e' with e';cases e'
theorem Blk.ty {w:World} {t:TypeId} {b:Nat} {cs:Array Value} (h:Blk w b t cs):Ty w t b:=⟨cs,(0,0),h⟩
theorem MapB.mp {α : Type} {inj : α → Value} {w:World} {b:Nat} {m:List (α × Value)} (h:MapB inj w b m):Mp w b:=by
 obtain ⟨es,c,h1,-⟩:=h;exact ⟨es,c,h1⟩
theorem Own.ty {w:World} {e:TypeId} {size n:Nat} {v:Value} {xs:List Value} (h:Own w e size v n xs) {q:Nat} (hq:v.ownBlock=some q):Ty w e q:=by
 rcases h.2 with ⟨rfl,_⟩ | ⟨g,cap,cur,fr,rfl,hg,_⟩
 ·simp [Value.ownBlock] at hq
 ·have:g=q:=by simpa [Value.ownBlock] using hq
  subst this;exact ⟨cur,fr,hg⟩
theorem DiskAt.kind {w:World} {p:Nat} {d:Dk} {F:List Nat} (h:DiskAt w p d F) {q:Nat} (hq:q ∈ F):Ty w 151 q∨Ty w 9 q∨Mp w q:=by
 obtain ⟨bl,cap,bm,m,g1,g2,g3,g4,g5,rfl,g7⟩:=h;simp only [List.mem_cons,List.mem_filterMap] at hq;rcases hq with rfl | rfl | rfl | ⟨x,hx,hk⟩
 ·exact .inl g1.ty
 ·exact .inr (.inl (g2.ty (by simp [Value.ownBlock])))
 ·exact .inr (.inr g3.mp)
 ·obtain ⟨i,_,_,_,h8⟩:=g4.each x hx
  exact .inr (.inl (h8.ty hk))
theorem RgE.kind {F:Nat→Prop} {w0 w:World} {r:Nat} {master:ByteArray} {cur boot n kb:Nat} {ents:List (Int × Nat)} (h:RgE F w0 w r master cur boot n kb ents) {q:Nat} (hq:ringOwn r kb ents q):Ty w 186 q∨Ty w 269 q∨q=kb:=by
 rcases hq with rfl | rfl | ⟨e,he,rfl⟩
 ·exact .inl h.blk.ty
 ·exact .inr (.inr rfl)
 ·exact .inr (.inl (h.slots e he).ty)
def anyT:TypeId:=99999999
def TRow (w:World) (t:TypeId) (k:Nat) (v:Value) (cs:List (List Value)):Prop :=
 ∃A cap,v=.slice A cs.length cap∧cs.length≤cap∧cs.length≤1000000∧(0<cs.length→∃b off cur t' fr,A=some ⟨b,off,none⟩∧w.heap[b]? = some (.cells cur t' fr)∧(t≠anyT→t'=t)∧∀i c,cs[i]? = some c→∀j u,c[j]? = some u→cur[off+i*k+j]? = some u)
theorem TRow.upd_ {w w':World} {t:TypeId} {k:Nat} {v:Value} {cs:List (List Value)} {Z:Nat→Prop} (h:TRow w t k v cs) (hu:Upd Z w w') (hz:∀b,v.ownBlock=some b→(t≠anyT→Ty w t b)→¬Z b):TRow w' t k v cs:=by
 obtain ⟨A,cap,h1,h2,h3,h4⟩:=h;refine ⟨A,cap,h1,h2,h3,fun h0=>?_⟩;obtain ⟨b,off,cur,t',fr,e1,e2,e4,e3⟩:=h4 h0;refine ⟨b,off,cur,t',fr,e1,(hu.block b (Array.getElem?_eq_some_iff.1 e2).1 (hz b (by rw [h1,e1];rfl) (fun hn=>⟨cur,fr,?_⟩))).trans e2,e4,e3⟩
 rw [← e4 hn];exact e2
theorem TRow.upd {w w':World} {t:TypeId} {k:Nat} {v:Value} {cs:List (List Value)} {Z:Nat→Prop} (h:TRow w t k v cs) (hu:Upd Z w w') (hz:∀b,Ty w t b→¬Z b) (ht:t≠anyT:=by decide):TRow w' t k v cs :=
 h.upd_ hu fun b _ hb=>hz b (hb ht)
theorem TRow.still {w w':World} {t:TypeId} {k:Nat} {v:Value} {cs:List (List Value)} (h:TRow w t k v cs) (hu:Upd (fun _=>False) w w'):TRow w' t k v cs:=h.upd_ hu (fun _ _ _ e=>e)
theorem TRow.low {w w':World} {t:TypeId} {k N:Nat} {v:Value} {cs:List (List Value)} {Z:Nat→Prop} (h:TRow w t k v cs) (hN:∀b,v.ownBlock=some b→b<N) (hu:Upd Z w w') (hz:∀q,Z q→N≤q):TRow w' t k v cs :=
 h.upd_ hu fun b hb _ e=>Nat.lt_irrefl b (Nat.lt_of_lt_of_le (hN b hb) (hz b e))
theorem TRow.open_ {w:World} {t:TypeId} {k:Nat} {v:Value} {cs:List (List Value)} (h:TRow w t k v cs):∃A cap b off,v=.slice A cs.length cap∧cs.length≤cap∧cs.length≤1000000∧(0<cs.length→A=some ⟨b,off,none⟩) ∧
 ∀w' Z,Upd Z w w'→(∀b,(t≠anyT→Ty w t b)→¬Z b)→∀i c,cs[i]? = some c→w'.rangeAt b (off+i*k) c:=by
 have hh:=h;obtain ⟨A,cap,h1,h2,h3,h4⟩:=h;by_cases h0:0<cs.length
 ·obtain ⟨b,off,cur,t',fr,e1,e2,e4,e3⟩:=h4 h0
  refine ⟨A,cap,b,off,h1,h2,h3,fun _=>e1,fun w' Z hu hz i c hc j u hj=>?_⟩;have e5:=(hu.block b (Array.getElem?_eq_some_iff.1 e2).1 (hz b (fun hn=>⟨cur,fr,by rw [← e4 hn];exact e2⟩))).trans e2;rw [cell_of_row w' b _ cur t' fr e5];exact e3 i c hc j u hj
 ·refine ⟨A,cap,0,0,h1,h2,h3,fun h=>absurd h h0,fun w' Z hu hz i c hc=>?_⟩
  have:=(List.getElem?_eq_some_iff.1 hc).1;omega
theorem TRow.of_own {w:World} {t:TypeId} {k n:Nat} {v:Value} {cs:List (List Value)} (h:Own w t k v n cs.flatten) (hn:cs.length=n) (hm:n≤1000000) (hk:∀c ∈ cs,c.length=k):TRow w t k v cs:=by
 rcases h.2 with ⟨rfl,h0⟩ | ⟨g,cap,cur,fr,rfl,hg,hfr,hnc,hcm,hcs,htake⟩
 ·subst h0
  exact ⟨none,0,by rw [hn],by omega,by omega,fun h=>by omega⟩
 ·refine ⟨_,cap,by rw [hn],by omega,by omega,fun h0=>⟨g,0,cur,t,fr,rfl,hg,fun _=>rfl,fun i c hc j u hj=>?_⟩⟩
  have hfl:∀(l:List (List Value)),(∀c ∈ l,c.length=k)→∀i c,l[i]? = some c→∀j u,c[j]? = some u→l.flatten[i*k+j]? = some u:=by
   intro l;induction l with
   | nil=>intro _ i c hc;simp at hc
   | cons x r ih =>
     intro hl i c hc j u hj;have hx:=hl x (by simp);rw [List.flatten_cons];cases i with
     | zero =>
       have:x=c:=by simpa using hc
       subst this;have hjl:=(List.getElem?_eq_some_iff.1 hj).1;rw [List.getElem?_append_left (by omega)];simpa using hj
     | succ i =>
       rw [List.getElem?_append_right (by rw [hx,Nat.succ_mul];omega)];have e:(i+1)*k+j - x.length=i*k+j:=by rw [hx,Nat.succ_mul];omega
       rw [e];exact ih (fun c hc=>hl c (by simp [hc])) i c (by simpa using hc) j u hj
  have h1:=hfl cs hk i c hc j u hj;rw [← htake,List.getElem?_take] at h1;split at h1
  ·rw [Nat.zero_add]
   simpa using h1
  ·cases h1
theorem TRow.mts {w:World} {t:TypeId} {v:Value} {l:List MtM} (h:TRow w t 2 v (l.map mtRow)):∃A cap b off,v=.slice A l.length cap∧l.length≤cap∧l.length≤1000000∧(0<l.length→A=some ⟨b,off,none⟩) ∧
 ∀w' Z,Upd Z w w'→(∀b,(t≠anyT→Ty w t b)→¬Z b)→MtsAt w' b off l:=by
 obtain ⟨A,cap,b,off,h1,h2,h3,h4,h5⟩:=h.open_;rw [List.length_map] at h1 h2 h3 h4;refine ⟨A,cap,b,off,h1,h2,h3,h4,fun w' Z hu hz i hi=>?_⟩;exact h5 w' Z hu hz i (mtRow l[i]) (by simp [hi])
theorem TRow.ops {w:World} {t:TypeId} {v:Value} {l:List OpM} (h:TRow w t 3 v (l.map opRow)):∃A cap b off,v=.slice A l.length cap∧l.length≤cap∧l.length≤1000000∧(0<l.length→A=some ⟨b,off,none⟩) ∧
 ∀w' Z,Upd Z w w'→(∀b,(t≠anyT→Ty w t b)→¬Z b)→OpsAt w' b off l:=by
 obtain ⟨A,cap,b,off,h1,h2,h3,h4,h5⟩:=h.open_;rw [List.length_map] at h1 h2 h3 h4;refine ⟨A,cap,b,off,h1,h2,h3,h4,fun w' Z hu hz i hi=>?_⟩;exact h5 w' Z hu hz i (opRow l[i]) (by simp [hi])
structure VtO where
 F:List Nat
 kb:Nat
 lb:Nat
 lv:Value
 rb:Nat
 rk:Nat
 ents:List (Int × Nat)
 m:Nat
 mb:Nat
 rv:Value
 ovs:List Value
 mv:Value
def vtRow (V:VtM) (p:Nat) (o:VtO):Array Value :=
 #[.pointer (some ⟨o.m,0,none⟩),.int .i64 V.at_,.int .i64 V.epoch,o.rv,.int .i64 V.prev,.pointer (some ⟨p,0,none⟩),.pointer (some ⟨o.kb,0,none⟩),.pointer (some ⟨o.lb,0,none⟩),.pointer (some ⟨o.rb,0,none⟩),
  .int .i64 V.st.m.role,.int .i64 V.st.m.seen,.int .i64 V.st.m.grant,o.mv,.string (str V.st.m.secret),.int .i64 V.st.at_,.int .i64 V.st.epoch,.int .i64 (V.st.slot:Int),.int .u64 (V.st.log:Int),.int .i64 (V.st.key:Int),.int .u32 (V.st.boot:Int),.bool V.down]
def rowsV:List BatM→List Value→List Value
 | b::r,o::s=>.int .i64 b.index::.int .i64 b.epoch::o::rowsV r s
 | _,_=>[]
def VtO.mut (o:VtO) (v q:Nat):Prop:=q=v∨q ∈ o.F∨q=o.kb∨q=o.lb∨o.lv.ownBlock=some q∨ringOwn o.rb o.rk o.ents q∨o.rv.ownBlock=some q
structure VtAt (w:World) (p v:Nat) (d:Dk) (V:VtM) (o:VtO):Prop where
 disk:DiskAt w p d o.F
 blk:Blk w v 117 (vtRow V p o)
 kept:Blk w o.kb 209 (V.kp.cells p)
 log:Blk w o.lb 199 (V.lg.cells p o.lv)
 recs:Own w 9 1 o.lv V.lg.l.length (strs V.lg.l)
 sep:∀q,o.lv.ownBlock=some q→q ∉ o.F
 ring:RgE (ringOwn o.rb o.rk o.ents) w w o.rb (str masterL) V.cur V.st.boot V.n o.rk o.ents
 rkF:o.rk ∉ o.F
 map:MapAt w o.m o.mb V.S
 mbF:o.mb ∉ o.F
 mbk:o.mb≠o.rk
 rows:Own w 35 3 o.rv V.rows.length (rowsV V.rows o.ovs)
 ovl:o.ovs.length=V.rows.length
 each:∀(i:Nat) (b:BatM) (ov:Value),V.rows[i]? = some b→o.ovs[i]? = some ov→TRow w 32 3 ov (b.ops.map opRow)
 mts:TRow w 46 2 o.mv (V.st.m.mounts.map mtRow)
structure VtStep (w w':World) (v:Nat) (o o':VtO):Prop where
 upd:Upd (o.mut v) w w'
 sub:∀q,o'.mut v q→o.mut v q∨w.heap.size≤q
 mbs:o'.mb=o.mb∨w.heap.size≤o'.mb:=by first | exact .inl rfl | assumption
theorem VtStep.refl (w:World) (v:Nat) (o:VtO):VtStep w w v o o:=⟨Upd.refl _ _,fun _ h=>.inl h,.inl rfl⟩
theorem VtStep.trans {w w1 w2:World} {v:Nat} {o o1 o2:VtO} (h:VtStep w w1 v o o1) (k:VtStep w1 w2 v o1 o2):VtStep w w2 v o o2 :=
 ⟨h.upd.then k.upd h.sub,fun q hq=>(k.sub q hq).elim (h.sub q) (fun e=>.inr (Nat.le_trans h.upd.size e)),k.mbs.elim (fun e=>h.mbs.imp (e.trans ·) (fun e2=>e ▸ e2)) (fun e=>.inr (Nat.le_trans h.upd.size e))⟩
theorem VtStep.still {w w1 w2:World} {v:Nat} {o o1:VtO} (h:VtStep w w1 v o o1) (hu:Upd (fun _=>False) w1 w2):VtStep w w2 v o o1:=⟨h.upd.then hu (fun _ e=>e.elim),h.sub,h.mbs⟩
theorem VtStep.re {w w':World} {v:Nat} {o o':VtO} (h:VtStep w w' v o o') {m mb:Nat} (hmb:mb=o.mb∨w.heap.size≤mb):VtStep w w' v o { o' with m:=m,mb:=mb } := ⟨h.upd,h.sub,hmb⟩
section
variable {w w':World} {p v:Nat} {d d':Dk} {V:VtM} {o:VtO}
theorem VtAt.kind (h:VtAt w p v d V o) {q:Nat} (hq:o.mut v q):Ty w 117 q∨Ty w 151 q∨Ty w 9 q∨Ty w 209 q∨Ty w 199 q∨Ty w 186 q∨Ty w 269 q∨Ty w 35 q∨Mp w q∧(q ∈ o.F∨q=o.rk):=by
 rcases hq with rfl | hq | rfl | rfl | hq | hq | hq
 ·exact .inl h.blk.ty
 ·rcases h.disk.kind hq with e | e | e
  ·exact .inr (.inl e)
  ·exact .inr (.inr (.inl e))
  ·exact .inr (.inr (.inr (.inr (.inr (.inr (.inr (.inr ⟨e,.inl hq⟩)))))))
 ·exact .inr (.inr (.inr (.inl h.kept.ty)))
 ·exact .inr (.inr (.inr (.inr (.inl h.log.ty))))
 ·exact .inr (.inr (.inl (h.recs.ty hq)))
 ·rcases h.ring.kind hq with e | e | e
  ·exact .inr (.inr (.inr (.inr (.inr (.inl e)))))
  ·exact .inr (.inr (.inr (.inr (.inr (.inr (.inl e))))))
  ·exact .inr (.inr (.inr (.inr (.inr (.inr (.inr (.inr ⟨by rw [e];exact h.ring.map.mp,.inr e⟩)))))))
 ·exact .inr (.inr (.inr (.inr (.inr (.inr (.inr (.inl (h.rows.ty hq))))))))
theorem VtAt.not_mut (h:VtAt w p v d V o) {t:TypeId} {q:Nat} (ht:Ty w t q) (hn:t ∉ [117,151,9,209,199,186,269,35]):¬o.mut v q:=by
 intro hq;simp only [List.mem_cons,List.not_mem_nil,or_false,not_or] at hn;obtain ⟨n1,n2,n3,n4,n5,n6,n7,n8⟩:=hn;rcases h.kind hq with e | e | e | e | e | e | e | e | e
 ·exact n1 (ht.inj e)
 ·exact n2 (ht.inj e)
 ·exact n3 (ht.inj e)
 ·exact n4 (ht.inj e)
 ·exact n5 (ht.inj e)
 ·exact n6 (ht.inj e)
 ·exact n7 (ht.inj e)
 ·exact n8 (ht.inj e)
 ·exact ht.no_map e.1
theorem VtAt.mb_not (h:VtAt w p v d V o):¬o.mut v o.mb:=by
 intro hq;obtain ⟨ents,e1,-⟩:=h.map.map;have hm:=e1.mp;rcases h.kind hq with e | e | e | e | e | e | e | e | e
 ·exact e.no_map hm
 ·exact e.no_map hm
 ·exact e.no_map hm
 ·exact e.no_map hm
 ·exact e.no_map hm
 ·exact e.no_map hm
 ·exact e.no_map hm
 ·exact e.no_map hm
 ·rcases e.2 with e | e
  ·exact h.mbF e
  ·exact h.mbk e
theorem VtAt.keep_map {Z:Nat→Prop} (h:VtAt w p v d V o) (hu:Upd Z w w') (hz:∀q,Z q→o.mut v q):MapAt w' o.m o.mb V.S :=
 h.map.upd hu (fun e=>h.not_mut h.map.blk.ty (by decide) (hz _ e)) (fun e=>h.mb_not (hz _ e))
theorem VtAt.keep_each {Z:Nat→Prop} (h:VtAt w p v d V o) (hu:Upd Z w w') (hz:∀q,Z q→o.mut v q):∀(i:Nat) (b:BatM) (ov:Value),V.rows[i]? = some b→o.ovs[i]? = some ov→TRow w' 32 3 ov (b.ops.map opRow) :=
 fun i b ov h1 h2=>(h.each i b ov h1 h2).upd hu (fun _ ht e=>h.not_mut ht (by decide) (hz _ e))
theorem VtAt.keep_mts {Z:Nat→Prop} (h:VtAt w p v d V o) (hu:Upd Z w w') (hz:∀q,Z q→o.mut v q):TRow w' 46 2 o.mv (V.st.m.mounts.map mtRow) :=
 h.mts.upd hu (fun _ ht e=>h.not_mut ht (by decide) (hz _ e))
theorem RgE.move {F:Nat→Prop} {w0 w w':World} {r:Nat} {master:ByteArray} {cur boot n kb:Nat} {ents:List (Int × Nat)} {Z:Nat→Prop} (h:RgE F w0 w r master cur boot n kb ents) (hu:Upd Z w w') (hz:∀q,ringOwn r kb ents q→¬Z q):RgE (ringOwn r kb ents) w' w' r master cur boot n kb ents:=by
 refine ⟨h.blk.upd hu (hz _ (.inl rfl)),h.map.upd hu (hz _ (.inr (.inl rfl))),fun e he=>(h.slots e he).upd hu (hz _ (.inr (.inr ⟨e,he,rfl⟩))),.inl (.inl rfl),.inl (.inr (.inl rfl)),fun e he=>.inl (.inr (.inr ⟨e,he,rfl⟩)),Upd.refl _ _⟩
theorem VtAt.still (h:VtAt w p v d V o) (hu:Upd (fun _=>False) w w'):VtAt w' p v d V o :=
 ⟨h.disk.upd hu (fun _ _ e=>e),h.blk.upd hu (fun e=>e),h.kept.upd hu (fun e=>e),h.log.upd hu (fun e=>e),h.recs.upd hu (fun _ _ e=>e),h.sep,h.ring.move hu (fun _ _ e=>e),h.rkF,h.map.still hu,h.mbF,h.mbk,h.rows.upd hu (fun _ _ e=>e),h.ovl,fun i b ov h1 h2=>(h.each i b ov h1 h2).still hu,h.mts.still hu⟩
end
end
section
open Go Go.RowKit
def VtO.cl (o:VtO) (v:Nat):Nat→Nat→Prop
 | 0,q=>q=v
 | 1,q=>q ∈ o.F
 | 2,q=>q=o.kb
 | 3,q=>q=o.lb
 | 4,q=>o.lv.ownBlock=some q
 | 5,q=>ringOwn o.rb o.rk o.ents q
 | _,q=>o.rv.ownBlock=some q
def clT:Nat→List TypeId
 | 0=>[117]
 | 1=>[151,9]
 | 2=>[209]
 | 3=>[199]
 | 4=>[9]
 | 5=>[186,269]
 | _=>[35]
theorem VtO.mut_cl {o:VtO} {v q:Nat} (h:o.mut v q):∃i,i≤6∧o.cl v i q:=by
 rcases h with h | h | h | h | h | h | h
 ·exact ⟨0,by omega,h⟩
 ·exact ⟨1,by omega,h⟩
 ·exact ⟨2,by omega,h⟩
 ·exact ⟨3,by omega,h⟩
 ·exact ⟨4,by omega,h⟩
 ·exact ⟨5,by omega,h⟩
 ·exact ⟨6,by omega,h⟩
theorem VtO.cl_mut {o:VtO} {v q:Nat} {i:Nat} (h:o.cl v i q):o.mut v q:=by
 match i,h with
 | 0,h=>exact .inl h
 | 1,h=>exact .inr (.inl h)
 | 2,h=>exact .inr (.inr (.inl h))
 | 3,h=>exact .inr (.inr (.inr (.inl h)))
 | 4,h=>exact .inr (.inr (.inr (.inr (.inl h))))
 | 5,h=>exact .inr (.inr (.inr (.inr (.inr (.inl h)))))
 | n+6,h=>exact .inr (.inr (.inr (.inr (.inr (.inr h)))))
theorem clT_all:∀i:Fin 7,∀j:Fin 7,i≠j→(clT i.val).all (fun t => !(clT j.val).contains t)=true∨(i.val=1∧j.val=4)∨(i.val=4∧j.val=1):=by decide
theorem clT_apart (i:Nat) (hi:i<7) (j:Nat) (hj:j<7) (h:i≠j) (t:TypeId) (h1:t ∈ clT i) (h2:t ∈ clT j):(i=1∧j=4)∨(i=4∧j=1):=by
 rcases clT_all ⟨i,hi⟩ ⟨j,hj⟩ (fun e=>h (congrArg Fin.val e)) with e | e
 ·have:=List.all_eq_true.1 e t h1
  simp [h2] at this
 ·exact e
section
variable {w w':World} {p v:Nat} {d d':Dk} {V V':VtM} {o o':VtO}
theorem VtAt.cl_kind (h:VtAt w p v d V o) {i q:Nat} (hi:i≤6) (hq:o.cl v i q):(∃t ∈ clT i,Ty w t q)∨(Mp w q∧(i=1∨i=5∧q=o.rk)):=by
 match i,hi,hq with
 | 0,_,hq=>exact .inl ⟨_,by simp [clT],hq ▸ h.blk.ty⟩
 | 1,_,hq =>
   rcases h.disk.kind hq with e | e | e
   ·exact .inl ⟨_,by simp [clT],e⟩
   ·exact .inl ⟨_,by simp [clT],e⟩
   ·exact .inr ⟨e,.inl rfl⟩
 | 2,_,hq=>exact .inl ⟨_,by simp [clT],hq ▸ h.kept.ty⟩
 | 3,_,hq=>exact .inl ⟨_,by simp [clT],hq ▸ h.log.ty⟩
 | 4,_,hq=>exact .inl ⟨_,by simp [clT],h.recs.ty hq⟩
 | 5,_,hq =>
   rcases h.ring.kind hq with e | e | e
   ·exact .inl ⟨_,by simp [clT],e⟩
   ·exact .inl ⟨_,by simp [clT],e⟩
   ·exact .inr ⟨e ▸ h.ring.map.mp,.inr ⟨rfl,e⟩⟩
 | 6,_,hq=>exact .inl ⟨_,by simp [clT],h.rows.ty hq⟩
theorem VtAt.apart (h:VtAt w p v d V o) {i j q:Nat} (hi:i≤6) (hj:j≤6) (hij:i≠j) (h1:o.cl v i q) (h2:o.cl v j q):False:=by
 rcases h.cl_kind hi h1 with ⟨t,e1,e2⟩ | ⟨e1,e2⟩<;>rcases h.cl_kind hj h2 with ⟨t',f1,f2⟩ | ⟨f1,f2⟩
 ·obtain rfl:=e2.inj f2
  rcases clT_apart i (by omega) j (by omega) hij t e1 f1 with ⟨rfl,rfl⟩ | ⟨rfl,rfl⟩
  ·exact h.sep q h2 h1
  ·exact h.sep q h1 h2
 ·exact e2.no_map f1
 ·exact f2.no_map e1
 ·rcases e2 with rfl | ⟨rfl,e⟩<;>rcases f2 with rfl | ⟨rfl,f⟩
  ·exact hij rfl
  ·subst f;exact h.rkF h1
  ·subst e;exact h.rkF h2
  ·exact hij rfl
theorem VtAt.lt (h:VtAt w p v d V o) {i q:Nat} (hi:i≤6) (hq:o.cl v i q):q<w.heap.size:=by
 rcases h.cl_kind hi hq with ⟨t,-,a,b,e⟩ | ⟨⟨a,b,e⟩,-⟩<;>exact (Array.getElem?_eq_some_iff.1 e).1
theorem VtAt.off (h:VtAt w p v d V o) {Z:Nat→Prop} {i k m j:Nat} (hz:∀q,Z q→o.cl v i q∨o.cl v k q∨o.cl v m q) (hj:j≤6∧i≤6∧k≤6∧m≤6∧i≠j∧k≠j∧m≠j) {q:Nat} (hq:o.cl v j q):¬Z q:=by
 intro e;obtain ⟨a,b,c,f,g1,g2,g3⟩:=hj;rcases hz q e with e | e | e
 ·exact h.apart b a g1 e hq
 ·exact h.apart c a g2 e hq
 ·exact h.apart f a g3 e hq
theorem VtStep.mk_ (hu:Upd (o.mut v) w w') (n:Nat) (hn:n=w.heap.size) (h1:∀q ∈ o'.F,q ∈ o.F∨n≤q) (h2:o'.kb=o.kb∨n≤o'.kb) (h3:o'.lb=o.lb∨n≤o'.lb) (h4:∀q,o'.lv.ownBlock=some q→o.lv.ownBlock=some q∨n≤q)
 (h5:∀q,ringOwn o'.rb o'.rk o'.ents q→ringOwn o.rb o.rk o.ents q∨n≤q) (h6:∀q,o'.rv.ownBlock=some q→o.rv.ownBlock=some q∨n≤q) (h7:o'.mb=o.mb∨n≤o'.mb:=by first | exact .inl rfl | assumption):VtStep w w' v o o':=by
 subst hn;refine ⟨hu,fun q hq=>?_,h7⟩;rcases hq with h | h | h | h | h | h | h
 ·exact .inl (.inl h)
 ·exact (h1 q h).imp (fun e=>.inr (.inl e)) id
 ·exact h2.imp (fun e=>.inr (.inr (.inl (h.trans e)))) (fun e=>h ▸ e)
 ·exact h3.imp (fun e=>.inr (.inr (.inr (.inl (h.trans e))))) (fun e=>h ▸ e)
 ·exact (h4 q h).imp (fun e=>.inr (.inr (.inr (.inr (.inl e))))) id
 ·exact (h5 q h).imp (fun e=>.inr (.inr (.inr (.inr (.inr (.inl e)))))) id
 ·exact (h6 q h).imp (fun e=>.inr (.inr (.inr (.inr (.inr (.inr e)))))) id
theorem VtAt.kept_ {k':Kp} (h:VtAt w p v d V o) (hP:PutLeft w w' p o.kb d' k' o.F):∃F',VtAt w' p v d' { V with kp:=k' } { o with F:=F' } ∧ VtStep w w' v o { o with F:=F' } := by
 obtain ⟨F',hD,hsub⟩:=hP.disk;have hu:=hP.upd;have hz:∀q,(q=o.kb∨q ∈ o.F)→o.cl v 2 q∨o.cl v 1 q∨o.cl v 1 q:=fun q e=>e.elim .inl fun e=>.inr (.inl e)
 have hm:∀q,(q=o.kb∨q ∈ o.F)→o.mut v q:=fun q e=>(hz q e).elim VtO.cl_mut fun e=>e.elim VtO.cl_mut VtO.cl_mut
 have hs:∀ {j q:Nat},j≤6→o.cl v j q→j≠1→q ∉ F':=fun hj hq h1 hf=>by
  rcases hsub _ hf with e | e
  ·exact h.apart (i:=1) (by omega) hj (fun e=>h1 e.symm) e hq
  ·have:=h.lt hj hq;omega
 refine ⟨F',⟨hD,h.blk.upd hu (h.off hz (j:=0) (by decide) rfl),hP.kept,h.log.upd hu (h.off hz (j:=3) (by decide) rfl),h.recs.upd hu (fun q e=>h.off hz (j:=4) (by decide) e),fun q e=>hs (j:=4) (by omega) e (by omega),h.ring.move hu (fun q e=>h.off hz (j:=5) (by decide) e),hs (j:=5) (by omega) (.inr (.inl rfl)) (by omega),h.keep_map hu hm,fun e=>?_,h.mbk,h.rows.upd hu (fun q e=>h.off hz (j:=6) (by decide) e),h.ovl,h.keep_each hu hm,h.keep_mts hu hm⟩,VtStep.mk_ (hu.mono fun q e=>.inl (hm q e)) _ rfl hsub (.inl rfl) (.inl rfl) (fun q e=>.inl e) (fun q e=>.inl e) (fun q e=>.inl e)⟩;rcases hsub _ e with e | e
 ·exact h.mbF e
 ·exact absurd h.map.lt.2 (Nat.not_lt.2 e)
theorem VtAt.log_ {g':Lg} (h:VtAt w p v d V o) (hP:AddLeft w w' p o.lb d' g' o.F o.lv):∃F' lv',VtAt w' p v d' { V with lg:=g' } { o with F:=F',lv:=lv' } ∧ VtStep w w' v o { o with F:=F',lv:=lv' } := by
 obtain ⟨F',lv',hD,hsub,hB,hO,hvs,hsep⟩:=hP.ex;have hu:=hP.upd;have hz:∀q,(q=o.lb∨q ∈ o.F∨o.lv.ownBlock=some q)→o.cl v 3 q∨o.cl v 1 q∨o.cl v 4 q:=fun q e=>e
 have hm:∀q,(q=o.lb∨q ∈ o.F∨o.lv.ownBlock=some q)→o.mut v q:=fun q e=>(hz q e).elim VtO.cl_mut fun e=>e.elim VtO.cl_mut VtO.cl_mut
 have hs:∀ {j q:Nat},j≤6→o.cl v j q→j≠1→q ∉ F':=fun hj hq h1 hf=>by
  rcases hsub _ hf with e | e
  ·exact h.apart (i:=1) (by omega) hj (fun e=>h1 e.symm) e hq
  ·have:=h.lt hj hq;omega
 refine ⟨F',lv',⟨hD,h.blk.upd hu (h.off hz (j:=0) (by decide) rfl),h.kept.upd hu (h.off hz (j:=2) (by decide) rfl),hB,hO,hsep,h.ring.move hu (fun q e=>h.off hz (j:=5) (by decide) e),hs (j:=5) (by omega) (.inr (.inl rfl)) (by omega),h.keep_map hu hm,fun e=>?_,h.mbk,h.rows.upd hu (fun q e=>h.off hz (j:=6) (by decide) e),h.ovl,h.keep_each hu hm,h.keep_mts hu hm⟩,VtStep.mk_ (hu.mono fun q e=>.inl (hm q e)) _ rfl hsub (.inl rfl) (.inl rfl) hvs (fun q e=>.inl e) (fun q e=>.inl e)⟩;rcases hsub _ e with e | e
 ·exact h.mbF e
 ·exact absurd h.map.lt.2 (Nat.not_lt.2 e)
theorem VtAt.disk_ {F':List Nat} (h:VtAt w p v d V o) (hL:Left w w' p d' o.F F'):VtAt w' p v d' V { o with F:=F' } ∧ VtStep w w' v o { o with F:=F' } := by
 have hsub:=hL.sub;have hu:=hL.upd;have hz:∀q,q ∈ o.F→o.cl v 1 q∨o.cl v 1 q∨o.cl v 1 q:=fun q e=>.inl e
 have hm:∀q,q ∈ o.F→o.mut v q:=fun q e=>.inr (.inl e)
 have hs:∀ {j q:Nat},j≤6→o.cl v j q→j≠1→q ∉ F':=fun hj hq h1 hf=>by
  rcases hsub _ hf with e | e
  ·exact h.apart (i:=1) (by omega) hj (fun e=>h1 e.symm) e hq
  ·have:=h.lt hj hq;omega
 refine ⟨⟨hL.disk,h.blk.upd hu (h.off hz (j:=0) (by decide) rfl),h.kept.upd hu (h.off hz (j:=2) (by decide) rfl),h.log.upd hu (h.off hz (j:=3) (by decide) rfl),h.recs.upd hu (fun q e=>h.off hz (j:=4) (by decide) e),fun q e=>hs (j:=4) (by omega) e (by omega),h.ring.move hu (fun q e=>h.off hz (j:=5) (by decide) e),hs (j:=5) (by omega) (.inr (.inl rfl)) (by omega),h.keep_map hu hm,fun e=>?_,h.mbk,h.rows.upd hu (fun q e=>h.off hz (j:=6) (by decide) e),h.ovl,h.keep_each hu hm,h.keep_mts hu hm⟩,VtStep.mk_ (hu.mono fun q e=>.inl (hm q e)) _ rfl hsub (.inl rfl) (.inl rfl) (fun q e=>.inl e) (fun q e=>.inl e) (fun q e=>.inl e)⟩;rcases hsub _ e with e | e
 ·exact h.mbF e
 ·exact absurd h.map.lt.2 (Nat.not_lt.2 e)
theorem VtAt.ring_ {n' cur':Nat} {ents':List (Int × Nat)} (h:VtAt w p v d V o) (hR:RgE (ringOwn o.rb o.rk o.ents) w w' o.rb (str masterL) cur' V.st.boot n' o.rk ents'):VtAt w' p v d { V with n:=n',cur:=cur' } { o with ents:=ents' } ∧ VtStep w w' v o { o with ents:=ents' } := by
 have hu:=hR.upd;have hz:∀q,ringOwn o.rb o.rk o.ents q→o.cl v 5 q∨o.cl v 5 q∨o.cl v 5 q:=fun q e=>.inl e
 have hm:∀q,ringOwn o.rb o.rk o.ents q→o.mut v q:=fun q e=>VtO.cl_mut (i:=5) e
 refine ⟨⟨h.disk.upd hu (fun q e=>h.off hz (j:=1) (by decide) e),h.blk.upd hu (h.off hz (j:=0) (by decide) rfl),h.kept.upd hu (h.off hz (j:=2) (by decide) rfl),h.log.upd hu (h.off hz (j:=3) (by decide) rfl),h.recs.upd hu (fun q e=>h.off hz (j:=4) (by decide) e),h.sep,hR.here,h.rkF,h.keep_map hu hm,h.mbF,h.mbk,h.rows.upd hu (fun q e=>h.off hz (j:=6) (by decide) e),h.ovl,h.keep_each hu hm,h.keep_mts hu hm⟩,VtStep.mk_ (hu.mono fun q e=>.inl (hm q e)) _ rfl (fun q e=>.inl e) (.inl rfl) (.inl rfl) (fun q e=>.inl e) (fun q e=>hR.own_is q e) (fun q e=>.inl e)⟩
theorem VtAt.cells_ (h:VtAt w p v d V o) (hu:Upd (· = v) w w') (hF:o'.F=o.F) (hkb:o'.kb=o.kb) (hrb:o'.rb=o.rb) (hrk:o'.rk=o.rk) (he:o'.ents=o.ents) (hB:Blk w' v 117 (vtRow V' p o')) (hk:V'.kp=V.kp) (hc:V'.cur=V.cur) (hn:V'.n=V.n) (hbt:V'.st.boot=V.st.boot)
 (hl:Blk w' o'.lb 199 (V'.lg.cells p o'.lv)) (hr:Own w' 9 1 o'.lv V'.lg.l.length (strs V'.lg.l)) (hs:∀q,o'.lv.ownBlock=some q→q ∉ o.F)
 (hm:MapAt w' o'.m o'.mb V'.S) (hmF:o'.mb ∉ o.F) (hmk:o'.mb≠o.rk) (hrows:Own w' 35 3 o'.rv V'.rows.length (rowsV V'.rows o'.ovs)) (hov:o'.ovs.length=V'.rows.length)
 (heach:∀(i:Nat) (b:BatM) (ov:Value),V'.rows[i]? = some b→o'.ovs[i]? = some ov→TRow w' 32 3 ov (b.ops.map opRow)) (hmts:TRow w' 46 2 o'.mv (V'.st.m.mounts.map mtRow)):VtAt w' p v d V' o':=by
 have hz:∀q,q=v→o.cl v 0 q∨o.cl v 0 q∨o.cl v 0 q:=fun q e=>.inl e
 refine ⟨hF ▸ h.disk.upd hu (fun q e=>h.off hz (j:=1) (by decide) e),hB,?_,hl,hr,by rw [hF];exact hs,?_,by rw [hF,hrk];exact h.rkF,hm,by rw [hF];exact hmF,by rw [hrk];exact hmk,hrows,hov,heach,hmts⟩
 ·rw [hkb,hk];exact h.kept.upd hu (h.off hz (j:=2) (by decide) rfl)
 ·rw [hrb,hrk,he,hc,hn,hbt];exact h.ring.move hu (fun q e=>h.off hz (j:=5) (by decide) e)
theorem VtAt.not_v (h:VtAt w p v d V o) {j q:Nat} (hj:j≤6∧0≠j) (hq:o.cl v j q):¬q=v:=fun e=>h.apart (i:=0) (by omega) hj.1 hj.2 e hq
theorem upd_cell {w:World} {b n:Nat} {x:Value} : Upd (· = b) w (w.setCell ⟨b,n,none⟩ x):=(Upd.refl (fun q=>q=b) w).setCell (p:=⟨b,n,none⟩) (.inl rfl) _
theorem VtAt.nums_ (h:VtAt w p v d V o) (hu:Upd (· = v) w w') {mv':Value} (hB:Blk w' v 117 (vtRow V' p { o with mv:=mv' })) (hk:V'.kp=V.kp) (hl:V'.lg=V.lg) (hS:V'.S=V.S) (hr:V'.rows=V.rows) (hc:V'.cur=V.cur) (hn:V'.n=V.n) (hbt:V'.st.boot=V.st.boot)
 (hmts:TRow w' 46 2 mv' (V'.st.m.mounts.map mtRow)):VtAt w' p v d V' { o with mv:=mv' } ∧ VtStep w w' v o { o with mv:=mv' } := by
 have hm:∀q,q=v→o.mut v q:=fun q e=>.inl e
 refine ⟨h.cells_ hu rfl rfl rfl rfl rfl hB hk hc hn hbt ?_ ?_ h.sep ?_ h.mbF h.mbk ?_ (by rw [hr];exact h.ovl) ?_ hmts,VtStep.mk_ (hu.mono fun q e=>.inl (hm q e)) _ rfl (fun q e=>.inl e) (.inl rfl) (.inl rfl) (fun q e=>.inl e) (fun q e=>.inl e) (fun q e=>.inl e)⟩
 ·rw [hl];exact h.log.upd hu (h.not_v (j:=3) (by decide) rfl)
 ·rw [hl];exact h.recs.upd hu (fun q e=>h.not_v (j:=4) (by decide) e)
 ·rw [hS];exact h.keep_map hu hm
 ·rw [hr];exact h.rows.upd hu (fun q e=>h.not_v (j:=6) (by decide) e)
 ·rw [hr];exact h.keep_each hu hm
end
end
section
open Go Go.RowKit
theorem Blk.cells21 {w:World} {g:Nat} {t:TypeId} {a b c d e f h i j k l m n o p q r s u v x:Value} (z:Blk w g t #[a,b,c,d,e,f,h,i,j,k,l,m,n,o,p,q,r,s,u,v,x]) :
 w.cell? ⟨g,0,none⟩=some a∧w.cell? ⟨g,1,none⟩=some b∧w.cell? ⟨g,2,none⟩=some c∧w.cell? ⟨g,3,none⟩=some d∧w.cell? ⟨g,4,none⟩=some e∧w.cell? ⟨g,5,none⟩=some f∧w.cell? ⟨g,6,none⟩=some h∧w.cell? ⟨g,7,none⟩=some i∧w.cell? ⟨g,8,none⟩=some j∧w.cell? ⟨g,20,none⟩=some x :=
 ⟨z.cell 0,z.cell 1,z.cell 2,z.cell 3,z.cell 4,z.cell 5,z.cell 6,z.cell 7,z.cell 8,z.cell 20⟩
section
variable {w w':World} {p v:Nat} {d d':Dk} {V V':VtM} {o o':VtO}
theorem VtAt.down_ (h:VtAt w p v d V o):VtAt (w.setCell ⟨v,20,none⟩ (.bool true)) p v d { V with down:=true } o∧VtStep w (w.setCell ⟨v,20,none⟩ (.bool true)) v o o:=by
 have hu:Upd (· = v) w (w.setCell ⟨v,20,none⟩ (.bool true)):=upd_cell;exact h.nums_ (V' := { V with down:=true }) (mv':=o.mv) hu (by
  have:=h.blk.set_ 20 (.bool true);simpa [vtRow] using this) rfl rfl rfl rfl rfl rfl rfl (h.keep_mts hu (fun q e=>.inl e))
theorem told_c (h:VtAt w p v d V o) (x:Int):Calls Tryz.prog 59 #[.pointer (some ⟨v,0,none⟩),.int .i64 x] w fun e w'=>e=.returned (.int .i64 x)∧VtAt w' p v d (V.told x) o∧VtStep w w' v o o:=by
 have hB:=h.blk;unfold vtRow at hB;have hc:=hB.cells21;have hz:=hB.frozen 20;have H:=Lib.hid h;clear h hB;by_cases hx:x=14
 ·subst hx
  go_enter Tryz.func59,Tryz.ntmps59
  go_wp2
  go_ret
  refine ⟨rfl,?_⟩;rw [show V.told 14 = { V with down:=true } by unfold VtM.told;simp]
  exact H.out.down_
 ·have hx':(x == 14)=false:=by simpa using hx
  go_enter Tryz.func59,Tryz.ntmps59
  go_wp2
  go_ret
  refine ⟨rfl,?_⟩;rw [show V.told x=V by unfold VtM.told;simp [hx]]
  exact ⟨H.out,VtStep.refl _ _ _⟩
theorem off_c (h:VtAt w p v d V o):Calls Tryz.prog 53 #[.pointer (some ⟨v,0,none⟩)] w fun e w'=>e=.returned (.int .i64 (if offV d V then 14 else 0))∧VtAt w' p v d (if offV d V then { V with down:=true } else V) o∧VtStep w w' v o o∧(offV d V=false→w=w'):=by
 have hB:=h.blk;unfold vtRow at hB;have hc:=hB.cells21;have hz:=hB.frozen 20;have HD:=Lib.hid (down_c h.disk);have H:=Lib.hid h;clear h hB;cases hd:V.down
 ·rw [hd] at hc
  cases ho:d.off
  ·rw [ho] at HD
   have e:offV d V=false:=by unfold offV;rw [hd,ho];rfl
   rw [e];clear e ho hd;go_enter Tryz.func53,Tryz.ntmps53
   go_wp2_with (go_at_call 33;refine HD.out.mono ?_;rintro e w' ⟨rfl,rfl⟩);go_ret
   exact ⟨rfl,H.out,VtStep.refl _ _ _,rfl⟩
  ·rw [ho] at HD
   have e:offV d V=true:=by unfold offV;rw [hd,ho];rfl
   rw [e];clear e ho hd;go_enter Tryz.func53,Tryz.ntmps53
   go_wp2_with (go_at_call 33;refine HD.out.mono ?_;rintro e w' ⟨rfl,rfl⟩);go_ret
   exact ⟨rfl,H.out.down_.1,H.out.down_.2⟩
 ·rw [hd] at hc
  have e:offV d V=true:=by unfold offV;rw [hd];rfl
  rw [e];clear e hd;go_enter Tryz.func53,Tryz.ntmps53
  go_wp2_with fail
  go_ret
  exact ⟨rfl,H.out.down_.1,H.out.down_.2⟩
end
end
section
open Go Go.RowKit
theorem Put_any {w:World} {p b:Nat} {d:Dk} {F:List Nat} {k:Kp} (hD:DiskAt w p d F) (hK:Blk w b 209 (k.cells p)) (s:ByteArray)
 (hseen:k.seen<18446744073709551616) (hat:k.at_≤1) (hf:k.from_≤4096) (hp:d.pend+20<1000000) :
 Calls Tryz.prog 127 #[.pointer (some ⟨b,0,none⟩),.string s] w fun e w'=>e=.returned (.int .i64 (putK d k s.data.toList).2.2)∧PutLeft w w' p b (putK d k s.data.toList).1 (putK d k s.data.toList).2.1 F:=by
 have hl:s.data.toList.length=s.size:=by simp
 have hno:PutLeft w w p b d k F:=⟨⟨F,hD,fun q e=>.inl e⟩,hK,Upd.refl _ _⟩;by_cases h:k.broken=true∨400<s.size∨k.seen=18446744073709551615
 ·refine (Put_refused hK s h).mono ?_
  rintro e w' ⟨rfl,rfl⟩;unfold putK;rw [hl];by_cases h1:k.broken=true
  ·rw [if_pos h1,if_pos h1];exact ⟨rfl,hno⟩
  ·rw [if_neg h1,if_neg h1]
   by_cases h2:400<s.size
   ·rw [if_pos h2,if_pos h2];exact ⟨rfl,hno⟩
   ·rw [if_neg h2,if_neg h2,if_pos (by rcases h with h | h | h;exact absurd h h1;exact absurd h h2;exact h)];exact ⟨rfl,hno⟩
 ·simp only [not_or] at h
  exact Put_goes hD hK s (by simpa using h.1) (by omega) (by omega) hat hf hp
theorem stRow_one (s:StM) (mv:Value) (h:mv.oneCell'=true):(stRow s mv).all (·.oneCell')=true:=by
 simp only [stRow,List.all_toArray,List.all_cons,List.all_nil,h,Bool.and_true];simp [Value.oneCell']
section
variable {w w':World} {p v:Nat} {d d':Dk} {V V':VtM} {o o':VtO}
theorem put_c (h:VtAt w p v d V o) (s:StM) (hs:StOk s) {mv:Value} (hmv:TRow w 46 2 mv (s.m.mounts.map mtRow)) (hb0:s.boot=V.st.boot) (hcur:V.cur≤1048576) (hn:V.n<4611686018427387904)
 (hseen:V.kp.seen<18446744073709551616) (hat:V.kp.at_≤1) (hf:V.kp.from_≤4096) (hp:d.pend+20<1000000) :
 Calls Tryz.prog 67 #[.pointer (some ⟨v,0,none⟩),.agg (stRow s mv)] w fun e w'=>e=.returned (.int .i64 (putV d V s).2.2)∧∃o',VtAt w' p v (putV d V s).1 (putV d V s).2.1 o'∧VtStep w w' v o o':=by
 obtain ⟨A,cap,mb,mo,hmv1,hmv2,hmv3,hmv4,hmv5⟩:=hmv.mts;have hrb:V.st.boot<4294967296:=by have:=hs.boot;omega
 have hsl:s.m.secret.length≤64:=(rightM_ok hs.right).sec;obtain ⟨X,hX⟩:=eqx (V.wrap sSecret s.m.secret);have hXl:X.length≤116:=by
  rw [← hX];have:=sealB_len (k:=ringK masterL V.cur) (about:=sSecret) hcur hrb (show V.n<18446744073709551616 by omega) (show s.m.secret.length≤8192 by omega);unfold VtM.wrap;omega
 have hput:putV d V s=if (putK d V.kp (stB s X)).2.2≠0 then ((putK d V.kp (stB s X)).1,({ V.next with kp:=(putK d V.kp (stB s X)).2.1 } : VtM).told (putK d V.kp (stB s X)).2.2,(putK d V.kp (stB s X)).2.2) else ((putK d V.kp (stB s X)).1,{ V.next with kp:=(putK d V.kp (stB s X)).2.1,st:=s },0):=by
  unfold putV;rw [hX]
 obtain ⟨c,hc⟩:=eqx w.heap.size;obtain ⟨C,hC⟩:=eqx (stRow s mv);have hC1:C.all (·.oneCell')=true:=by rw [← hC];exact stRow_one s mv (by rw [hmv1];rfl)
 have hC4:C[4]? = some (.string (str s.m.secret)):=by rw [← hC];rfl
 have hCs:C.size=11:=by rw [← hC];rfl
 have HP:=Lib.hid hput;have HC:=h4k hC hC1 hC4 hCs;have HM:=h6k hmv hmv1 hmv2 hmv3 hmv4 hmv5;have HS:=h4k hs hb0 hsl hrb;have HX:=h2k hX hXl;have HN:=h6k hcur hn hseen hat hf hp;have H:=Lib.hid h;have Hc:=Lib.hid hc;rw [hC];clear h hs hmv hb0 hcur hn hseen hat hf hp hmv1 hmv2 hmv3 hmv4 hmv5 hrb hsl hX hXl hput hc hC hC1 hC4 hCs;go_enter Tryz.func67,Tryz.ntmps67
 go_upto_region 1 with fail
 rw [Hc.out];generalize hw1:World.alloc _ _=w1;have hB1:Blk w1 c 115 C:=by rw [← hw1,← Hc.out];exact Blk.new w _ _
 have hU1:Upd (fun _=>False) w w1:=by rw [← hw1];exact (Upd.refl _ w).alloc _
 have hs1:c<w1.heap.size:=hB1.lt;have H1:=h4k hB1 hU1 hs1 (H.out.still hU1);clear hB1 hU1 hs1 hw1;refine wp_region_noPanic ?_;refine wp_region_T (S:=fun w'=>Blk w' c 115 C∧w'.cell? ⟨v,8,none⟩=some (.pointer (some ⟨o.rb,0,none⟩))) (T:=fun _=>false) (by kernel_rfl) ?_;have hS0:Blk w1.drew c 115 C∧w1.drew.cell? ⟨v,8,none⟩=some (.pointer (some ⟨o.rb,0,none⟩)):=⟨H1.out.1.drew,H1.out.2.2.2.blk.cell 8⟩;have HCK:=Lib.hid (fun (w':World) (h:Blk w' c 115 C)=>(h.cell 4).trans HC.out.2.2.1);refine tk8 0 ?_;simp only [tkS];refine tk8 1 ?_;simp only [tkS];refine tk8 2 ?_;simp only [tkS];refine tk8 3 ?_ rfl (by intro w' hSw;have ck:=hSw.2;go_split_ands;first | (go_simp;done) | (go_simp;rfl) | rfl)
 simp only [tkS];refine tk8 4 ?_;simp only [tkS];refine tk8 5 ?_;simp only [tkS];refine tk8 6 ?_ rfl (by intro w' hSw;have ck:=HCK.out _ hSw.1;go_split_ands;first | (go_simp;done) | (go_simp;rfl) | rfl)
 simp only [tkS];refine wpAnyT_one (i:=7) (by kernel_rfl) rfl (fun KK hKK=>?_);go_simp
 have hX2:sealB (ringK (str masterL).data.toList V.cur) V.cur V.st.boot V.n (str sSecret).data.toList (str s.m.secret).data.toList=X:=by rw [← HX.out.1,str_list,str_list,str_list];rfl
 have hwr:=rwrap_c (H1.out.2.2.2.still (Upd.refl (fun _=>False) w1).drew).ring (by rw [str_size];decide) HN.out.1 (by have:=HS.out.2.1;have:=HS.out.2.2.2;omega) HN.out.2.1 (str sSecret) (str s.m.secret) (by decide) (by rw [str_size];have:=HS.out.2.2.1;omega);rw [hX2] at hwr;refine hwr.mono ?_;rintro e w2 ⟨rfl,ents',hR⟩;have hA2:=(H1.out.2.2.2.still (Upd.refl (fun _=>False) w1).drew).ring_ hR;have hB2:Blk w2 c 115 C:=hS0.1.upd hR.upd (fun e=>by have e1:=H.out.lt (i:=5) (by decide) e;have e2:=Hc.out;omega);have hS2:Blk w2 c 115 C∧w2.cell? ⟨v,8,none⟩=some (.pointer (some ⟨o.rb,0,none⟩)):=⟨hB2,hA2.1.blk.cell 8⟩;refine hKK.out _ _ hS2 ?_;have H2:=h2k hA2 hB2;clear hKK hA2 hB2 hX2 hR hwr;refine tk8 8 ?_;simp only [tkS];refine tk8 9 ?_;simp only [tkS];refine tk8 10 ?_;simp only [tkS];refine tk8 11 ?_;simp only [tkS];refine tk8 12 ?_;simp only [tkS];refine wpAnyT_done (by kernel_rfl) ?_ _;refine NoPanic.normal ?_;clear hS0 hS2 HCK;go_upto_region 4 with fail
 obtain ⟨P,hP⟩:=eqx (putK d V.kp (stB s X));have HPP:=Lib.hid hP;clear hP;refine wp_region_noPanic ?_;refine wp_region_T (S:=fun w'=>Blk w' c 115 C∧w'.cell? ⟨v,6,none⟩=some (.pointer (some ⟨o.kb,0,none⟩))) (T:=fun _=>false) (by kernel_rfl) ?_;have hS0:Blk w2.drew c 115 C∧w2.drew.cell? ⟨v,6,none⟩=some (.pointer (some ⟨o.kb,0,none⟩)):=⟨H2.out.2.drew,H2.out.1.1.blk.cell 6⟩;refine tk8 0 ?_;simp only [tkS];refine tk8 1 ?_;simp only [tkS];refine tk8 2 ?_;simp only [tkS];refine tk8 3 ?_ rfl (by intro w' hSw;have ck:=hSw.2;go_split_ands;first | (go_simp;done) | (go_simp;rfl) | rfl)
 simp only [tkS];refine wpAnyT_take8 (i:=4) (v:=.agg C) rfl (by kernel_rfl) (by kernel_rfl) (by kernel_rfl) (by kernel_rfl) (fun _ _ _ h=>h) (takes_load_all rfl (by rfl) _ _ rfl c (by rfl) _ _ _ (fun w' hSw=>hSw.1) Tryz.underlying115 rfl (by rw [HC.out.2.2.2];kernel_rfl)) (by assumption) (by kernel_rfl) ?_
 simp only [tkS];refine tk8 5 ?_;simp only [tkS];refine wpAnyT_one (i:=6) (by kernel_rfl) rfl (fun KK hKK=>?_);go_simp
 have hU2:Upd (o.mut v) w w2.drew:=((H1.out.2.1.mono (fun _ e=>e.elim)).drew.then H2.out.1.2.upd (fun q e=>.inl e)).drew;have htx:=stext_c (w:=w2.drew) (A:=A) (cap:=cap) (b:=mb) (off:=mo) s HS.out.1 HM.out.2.2.2.2.1 (fun w' hu=>HM.out.2.2.2.2.2 w' (o.mut v) (hU2.then hu (fun _ e=>e.elim)) (fun b ht=>H.out.not_mut (ht (by decide)) (by decide))) (str X) (by rw [str_size];have:=HX.out.2;omega);rw [← HM.out.2.1,HC.out.1,str_list] at htx;refine htx.mono ?_;rintro e w3 ⟨rfl,hu3⟩;have hA3:=(H2.out.1.1.still (Upd.refl (fun _=>False) w2).drew).still hu3;have hS3:Blk w3 c 115 C∧w3.cell? ⟨v,6,none⟩=some (.pointer (some ⟨o.kb,0,none⟩)):=⟨hS0.1.upd hu3 (fun e=>e),hA3.blk.cell 6⟩;refine hKK.out _ _ hS3 ?_;have H3:=h3k hA3 hu3 hS3;clear hKK hA3 hu3 htx hU2;refine wpAnyT_one (i:=7) (by kernel_rfl) rfl (fun KK hKK=>?_);go_simp
 have hpa:=Put_any H3.out.1.disk H3.out.1.kept (str (stB s X)) HN.out.2.2.1 HN.out.2.2.2.1 HN.out.2.2.2.2.1 HN.out.2.2.2.2.2;rw [str_list] at hpa;refine hpa.mono ?_;rintro e w4 ⟨rfl,hPL⟩;obtain ⟨F',hA4,hT4⟩:=H3.out.1.kept_ hPL;have hS4:Blk w4 c 115 C∧w4.cell? ⟨v,6,none⟩=some (.pointer (some ⟨o.kb,0,none⟩)):=⟨hS3.1.upd hPL.upd (fun e=>by
  have e2:=Hc.out;rcases e with e | e
  ·have e1:=H.out.lt (i:=2) (q:=c) (by decide) e;omega
  ·have e1:=H.out.lt (i:=1) (q:=c) (by decide) e;omega),hA4.blk.cell 6⟩
 refine hKK.out _ _ hS4 ?_;have H4:=h3k hA4 hT4 hS4.1;clear hKK hA4 hT4 hPL hpa;refine tk8 8 ?_;simp only [tkS];refine wpAnyT_done (by kernel_rfl) ?_ _;refine NoPanic.normal ?_;clear hS0 hS3 hS4;have HT:=Lib.hid (((VtStep.mk (o:=o) (o':=o) (v:=v) (H1.out.2.1.mono (fun _ e=>e.elim)).drew (fun q e=>.inl e)).trans (H2.out.1.2.still (Upd.refl (fun _=>False) w2).drew)).still H3.out.2.1 |>.trans H4.out.2.1);obtain ⟨E,hE⟩:=eqx (putK d V.kp (stB s X)).2.2;rw [hE];by_cases h0:E=0
 ·subst h0
  have HE:=Lib.hid hE;clear hE;have hsz:9+C.size≤(vtRow { V.next with kp:=(putK d V.kp (stB s X)).2.1 } p { o with ents:=ents',F:=F' }).size:=by rw [HC.out.2.2.2];exact Nat.le_of_ble_eq_true rfl
  have hnew:(vtRow { V.next with kp:=(putK d V.kp (stB s X)).2.1 } p { o with ents:=ents',F:=F' }).toList.take 9++C.toList++(vtRow { V.next with kp:=(putK d V.kp (stB s X)).2.1 } p { o with ents:=ents',F:=F' }).toList.drop (9+C.size)=(vtRow { V.next with kp:=(putK d V.kp (stB s X)).2.1,st:=s } p { o with ents:=ents',F:=F',mv:=mv }).toList:=by rw [HC.out.2.2.2,← HC.out.1];rfl
  have hblk:Blk w4 v 117 (vtRow { V.next with kp:=(putK d V.kp (stB s X)).2.1 } p { o with ents:=ents',F:=F' }):=H4.out.1.blk;go_wp2_with (first
   | (refine wpList_load_all rfl _ _ rfl c rfl _ _ _ H4.out.2.2 Tryz.underlying115 rfl (by rw [HC.out.2.2.2];kernel_rfl) ?_)
   | (refine wpList_store_part rfl 115 _ _ rfl v 9 C rfl rfl _ _ (vtRow { V.next with kp:=(putK d V.kp (stB s X)).2.1,st:=s } p { o with ents:=ents',F:=F',mv:=mv }) hblk hsz hnew HC.out.2.1 (by rw [HC.out.2.2.2];kernel_rfl) ?_
      intro w5 hB5 hU5 hs5))
  go_ret
  have hmv5:TRow w5 46 2 mv (s.m.mounts.map mtRow):=HM.out.1.upd (HT.out.upd.then hU5 (fun q e=>.inl (.inl e))) (fun b ht=>H.out.not_mut ht (by decide));have h5:=H4.out.1.nums_ (V' := { V.next with kp:=(putK d V.kp (stB s X)).2.1,st:=s }) hU5 hB5 rfl rfl rfl rfl rfl rfl HS.out.2.1 hmv5;rw [HP.out,if_neg (by rw [HE.out];simp)]
  exact ⟨rfl,_,h5.1,HT.out.trans h5.2⟩
 ·have hE0:(E != 0)=true:=by simpa using h0
  have HE:=h2k hE h0;have HTD:=Lib.hid (told_c H4.out.1 E);clear hE h0;go_wp2_with (first
   | (go_at_call 59;refine HTD.out.mono ?_;rintro e w5 ⟨rfl,h5,k5⟩))
  go_ret
  rw [HP.out,if_pos (by rw [HE.out.1];exact HE.out.2),HE.out.1];exact ⟨rfl,_,h5,HT.out.trans k5⟩
end
end
section
open Go Go.RowKit
theorem flatten_at {k:Nat} : ∀(l:List (List Value)),(∀c ∈ l,c.length=k)→∀(j:Nat) (u:Value),l.flatten[j]? = some u→∃i c r,l[i]? = some c∧c[r]? = some u∧j=i*k+r:=by
 intro l;induction l with
 | nil=>intro _ j u h;simp at h
 | cons x y ih =>
   intro hl j u h;have hx:=hl x (by simp);rw [List.flatten_cons] at h;by_cases hj:j<x.length
   ·rw [List.getElem?_append_left hj] at h
    exact ⟨0,x,j,rfl,h,by omega⟩
   ·rw [List.getElem?_append_right (by omega)] at h
    obtain ⟨i,c,r,e1,e2,e3⟩:=ih (fun c hc=>hl c (by simp [hc])) _ _ h;exact ⟨i+1,c,r,e1,e2,by rw [Nat.succ_mul];omega⟩
theorem flatten_len {k:Nat} : ∀(l:List (List Value)),(∀c ∈ l,c.length=k)→l.flatten.length=l.length*k:=by
 intro l;induction l with
 | nil=>intro _;simp
 | cons x y ih =>
   intro hl;rw [List.flatten_cons,List.length_append,ih fun c hc=>hl c (by simp [hc]),hl x (by simp),List.length_cons,Nat.succ_mul];omega
theorem TRow.src {w:World} {t xT e:TypeId} {k:Nat} {v:Value} {cs:List (List Value)} (h:TRow w t k v cs) (ht:Tryz.prog.underlying xT=some (.slice e)) (hk:∀c ∈ cs,c.length=k):Src Tryz.prog w xT k v cs.length cs.flatten:=by
 obtain ⟨A,cap,h1,h2,h3,h4⟩:=h;subst h1;cases A with
 | none =>
   have h0:cs=[]:=List.eq_nil_of_length_eq_zero (Nat.eq_zero_of_not_pos fun h=>by obtain ⟨b,off,cur,t',fr,e1,-⟩:=h4 h;cases e1)
   subst h0;exact Src.of_nil ht cap
 | some a =>
   refine Src.of_addr ht a _ _ (flatten_len cs hk) fun j u hj=>?_
   obtain ⟨i,c,r,e1,e2,rfl⟩:=flatten_at cs hk j u hj;obtain ⟨b,off,cur,t',fr,f1,f2,-,f3⟩:=h4 (by have:=(List.getElem?_eq_some_iff.1 e1).1;omega);cases f1
   have:=f3 i c e1 r u e2;rw [show (⟨b,off,none⟩:Addr).add (i*k+r)=⟨b,off+(i*k+r),none⟩ from by simp [Addr.add]];rw [cell_of_row w b _ cur t' fr f2,← Nat.add_assoc];exact this
theorem mtclone_f {w:World} {t:TypeId} {v:Value} {cs:List (List Value)} (h:TRow w t 2 v cs) (hk:∀c ∈ cs,c.length=2∧∀u ∈ c,u.oneCell'=true) (hl:cs.length≤1000) :
 Calls Tryz.prog 135 #[v] w fun e w'=>∃v',e=.returned v'∧TRow w' 46 2 v' cs∧Upd (fun _=>False) w w'∧(∀q,v'.ownBlock=some q→w.heap.size≤q)∧Own w' 46 2 v' cs.length cs.flatten:=by
 obtain ⟨i0,hi0,hz0,hz1,hz2⟩:=info_parts infoMount;have H:=Lib.hid h;have hone:∀u ∈ cs.flatten,u.oneCell'=true:=fun u hu=>by
  obtain ⟨c,hc,hu⟩:=List.mem_flatten.1 hu;exact (hk c hc).2 u hu
 have hfl:=flatten_len cs (fun c hc=>(hk c hc).1);obtain ⟨A,cap,e,h1,h2,h3⟩:=h;subst e;cases A with
 | none =>
   have hnil:=fun W=>slice_some none cs.length cap W 47 _ Tryz.underlying47
   simp only [Option.isNone_none] at hnil;have h0:cs=[]:=List.eq_nil_of_length_eq_zero (Nat.eq_zero_of_not_pos fun h=>by obtain ⟨b,off,cur,t',fr,e1,-⟩:=h3 h;cases e1)
   have H0:=Lib.hid h0;clear h0 h1 h2 h3 hone hfl hk hl;go_enter Tryz.func135,Tryz.ntmps135
   go_wp2_with fail
   go_ret
   have h0:=H0.out;subst h0;exact ⟨_,rfl,⟨none,0,rfl,Nat.le_refl _,by simp,fun h=>by simp at h⟩,Upd.refl _ _,by simp [Value.ownBlock],Own.nil _ _ _⟩
 | some a =>
   have hnil:=fun W=>slice_some (some a) cs.length cap W 47 _ Tryz.underlying47
   simp only [Option.isNone_some] at hnil;have HK:=h4k hone hfl hk hl;clear h1 h2 h3 hone hfl hk hl;go_enter Tryz.func135,Tryz.ntmps135
   have hO0:Own (w.alloc (.cells #[] 46)) 46 2 (.slice (some ⟨w.heap.size,0,none⟩) 0 0) 0 []:=⟨by simp,.inr ⟨w.heap.size,0,#[],(0,0),rfl,heap_alloc_new w _,.inl rfl,Nat.le_refl _,by simp,rfl,rfl⟩⟩;have HO0:=Lib.hid hO0;clear hO0
   go_wp2_with (at_builtin
                refine wpList_append_src rfl _ _ _ _ rfl 46 i0 _ 2 24 Tryz.underlying47 hi0 hz0 hz1 hz2 rfl _ 0 _ rfl HO0.out _ cs.length cs.flatten rfl ((H.out.still ((Upd.refl _ w).alloc _)).src Tryz.underlying47 fun c hc=>(HK.out.2.2.1 c hc).1) HK.out.1 (by have:=HK.out.2.2.2;unfold maxLen;omega) (by have:=HK.out.2.2.2;omega) ?_;intro v' w2 hO2 hU2 hl2 hs2;have H2:=h3k hO2 hU2 hl2;clear hO2 hU2 hl2 hs2)
   go_ret
   obtain ⟨hO2,hU2,hl2⟩:=H2.out;refine ⟨v',rfl,TRow.of_own (n:=cs.length) (by simpa using hO2) rfl (by have:=HK.out.2.2.2;omega) (fun c hc=>(HK.out.2.2.1 c hc).1),((Upd.refl _ w).alloc _).then hU2 (fun b e=>.inr (by have e2:=Option.some.inj (show some w.heap.size=some b from e);omega)),fun q hq=>?_,by simpa using hO2⟩;rcases hl2 with e | e
   ·rw [hq] at e
    have e2:q=w.heap.size:=Option.some.inj e;omega
   ·rw [hq] at e
    have e2:=Option.some.inj e;rw [World.size_alloc] at e2;omega
theorem opclone_f {w:World} {t:TypeId} {v:Value} {cs:List (List Value)} (h:TRow w t 3 v cs) (hk:∀c ∈ cs,c.length=3∧∀u ∈ c,u.oneCell'=true) (hl:cs.length≤1000) :
 Calls Tryz.prog 68 #[v] w fun e w'=>∃v',e=.returned v'∧TRow w' 32 3 v' cs∧Upd (fun _=>False) w w'∧(∀q,v'.ownBlock=some q→w.heap.size≤q)∧Own w' 32 3 v' cs.length cs.flatten:=by
 obtain ⟨i0,hi0,hz0,hz1,hz2⟩:=info_parts infoOp;have H:=Lib.hid h;have hone:∀u ∈ cs.flatten,u.oneCell'=true:=fun u hu=>by
  obtain ⟨c,hc,hu⟩:=List.mem_flatten.1 hu;exact (hk c hc).2 u hu
 have hfl:=flatten_len cs (fun c hc=>(hk c hc).1);obtain ⟨A,cap,e,h1,h2,h3⟩:=h;subst e;cases A with
 | none =>
   have hnil:=fun W=>slice_some none cs.length cap W 33 _ Tryz.underlying33
   simp only [Option.isNone_none] at hnil;have h0:cs=[]:=List.eq_nil_of_length_eq_zero (Nat.eq_zero_of_not_pos fun h=>by obtain ⟨b,off,cur,t',fr,e1,-⟩:=h3 h;cases e1)
   have H0:=Lib.hid h0;clear h0 h1 h2 h3 hone hfl hk hl;go_enter Tryz.func68,Tryz.ntmps68
   go_wp2_with fail
   go_ret
   have h0:=H0.out;subst h0;exact ⟨_,rfl,⟨none,0,rfl,Nat.le_refl _,by simp,fun h=>by simp at h⟩,Upd.refl _ _,by simp [Value.ownBlock],Own.nil _ _ _⟩
 | some a =>
   have hnil:=fun W=>slice_some (some a) cs.length cap W 33 _ Tryz.underlying33
   simp only [Option.isNone_some] at hnil;have HK:=h4k hone hfl hk hl;clear h1 h2 h3 hone hfl hk hl;go_enter Tryz.func68,Tryz.ntmps68
   have hO0:Own (w.alloc (.cells #[] 32)) 32 3 (.slice (some ⟨w.heap.size,0,none⟩) 0 0) 0 []:=⟨by simp,.inr ⟨w.heap.size,0,#[],(0,0),rfl,heap_alloc_new w _,.inl rfl,Nat.le_refl _,by simp,rfl,rfl⟩⟩;have HO0:=Lib.hid hO0;clear hO0
   go_wp2_with (at_builtin
                refine wpList_append_src rfl _ _ _ _ rfl 32 i0 _ 3 40 Tryz.underlying33 hi0 hz0 hz1 hz2 rfl _ 0 _ rfl HO0.out _ cs.length cs.flatten rfl ((H.out.still ((Upd.refl _ w).alloc _)).src Tryz.underlying33 fun c hc=>(HK.out.2.2.1 c hc).1) HK.out.1 (by have:=HK.out.2.2.2;unfold maxLen;omega) (by have:=HK.out.2.2.2;omega) ?_;intro v' w2 hO2 hU2 hl2 hs2;have H2:=h3k hO2 hU2 hl2;clear hO2 hU2 hl2 hs2)
   go_ret
   obtain ⟨hO2,hU2,hl2⟩:=H2.out;refine ⟨v',rfl,TRow.of_own (n:=cs.length) (by simpa using hO2) rfl (by have:=HK.out.2.2.2;omega) (fun c hc=>(HK.out.2.2.1 c hc).1),((Upd.refl _ w).alloc _).then hU2 (fun b e=>.inr (by have e2:=Option.some.inj (show some w.heap.size=some b from e);omega)),fun q hq=>?_,by simpa using hO2⟩;rcases hl2 with e | e
   ·rw [hq] at e
    have e2:q=w.heap.size:=Option.some.inj e;omega
   ·rw [hq] at e
    have e2:=Option.some.inj e;rw [World.size_alloc] at e2;omega
theorem opclone_c {w:World} {t:TypeId} {v:Value} {cs:List (List Value)} (h:TRow w t 3 v cs) (hk:∀c ∈ cs,c.length=3∧∀u ∈ c,u.oneCell'=true) (hl:cs.length≤1000) :
 Calls Tryz.prog 68 #[v] w fun e w'=>∃v',e=.returned v'∧TRow w' 32 3 v' cs∧Upd (fun _=>False) w w':=by
 refine (opclone_f h hk hl).mono ?_;rintro e w' ⟨v',h1,h2,h3,-⟩;exact ⟨v',h1,h2,h3⟩
end
section
open Go Go.RowKit
theorem mtRow_ok (l:List MtM):∀c ∈ l.map mtRow,c.length=2∧∀u ∈ c,u.oneCell'=true:=by
 intro c hc;obtain ⟨m,-,rfl⟩:=List.mem_map.1 hc;exact ⟨rfl,fun u hu=>by simp only [mtRow,List.mem_cons,List.not_mem_nil,or_false] at hu;rcases hu with rfl | rfl<;>rfl⟩
theorem opRow_ok (l:List OpM):∀c ∈ l.map opRow,c.length=3∧∀u ∈ c,u.oneCell'=true:=by
 intro c hc;obtain ⟨m,-,rfl⟩:=List.mem_map.1 hc;exact ⟨rfl,fun u hu=>by simp only [opRow,List.mem_cons,List.not_mem_nil,or_false] at hu;rcases hu with rfl | rfl | rfl<;>rfl⟩
theorem TRow.one {w:World} {t:TypeId} {k:Nat} {v:Value} {cs:List (List Value)} (h:TRow w t k v cs):v.oneCell'=true:=by
 obtain ⟨A,cap,rfl,-⟩:=h;rfl
theorem metaCells_one (a b c:Int) {mv S:Value} (h1:mv.oneCell'=true) (h2:S.oneCell'=true):(#[Value.int .i64 a,.int .i64 b,.int .i64 c,mv,S]).all (·.oneCell')=true:=by
 simp only [List.all_toArray,List.all_cons,List.all_nil,h1,h2,Bool.and_true];rfl
theorem own_f {w:World} (m:MetaM) {ty:TypeId} {mv:Value} (hmv:TRow w ty 2 mv (m.mounts.map mtRow)) (hl:m.mounts.length≤4) :
 Calls Tryz.prog 76 #[.agg (metaRow m mv)] w fun e w'=>∃mv',e=.returned (.agg (metaRow m mv'))∧TRow w' 46 2 mv' (m.mounts.map mtRow)∧Upd (fun _=>False) w w'∧(∀q,mv'.ownBlock=some q→w.heap.size≤q)∧Own w' 46 2 mv' m.mounts.length (m.mounts.map mtRow).flatten:=by
 have h1:=hmv.one;obtain ⟨c,hc⟩:=eqx w.heap.size;have H:=h4k hmv h1 hl hc;clear hmv h1 hl hc;unfold metaRow;obtain ⟨S,hS⟩:=eqx (Value.string (str m.secret));have hS1:S.oneCell'=true:=by rw [← hS];rfl
 rw [hS];clear hS;go_enter Tryz.func76,Tryz.ntmps76
 go_upto_region 1 with fail
 rw [H.out.2.2.2];generalize hw2:World.alloc (World.alloc _ _) _=w2;have hB2:Blk w2 c 50 #[.int .i64 m.role,.int .i64 m.seen,.int .i64 m.grant,mv,S]:=by rw [← hw2,← H.out.2.2.2];exact (Blk.new w _ _).alloc _
 have hZ2:∃z,z.size=5∧Blk w2 (c+1) 50 z:=by
  rw [← hw2,← H.out.2.2.2];have:=Blk.new (w.alloc (.cells #[.int .i64 m.role,.int .i64 m.seen,.int .i64 m.grant,mv,S] 50)) 50 #[.int .i64 0,.int .i64 0,.int .i64 0,.slice none 0 0,.string ByteArray.empty];rw [show (w.alloc (.cells #[.int .i64 m.role,.int .i64 m.seen,.int .i64 m.grant,mv,S] 50)).heap.size=w.heap.size+1 by simp] at this;exact ⟨_,rfl,this⟩
 have hU2:Upd (fun _=>False) w w2:=by rw [← hw2];exact ((Upd.refl _ w).alloc _).alloc _
 clear hw2;obtain ⟨z,hzs,hZ2⟩:=hZ2;have hcl:=mtclone_f (H.out.1.still hU2) (mtRow_ok _) (by rw [List.length_map];have:=H.out.2.2.1;omega);have HCL:=Lib.hid hcl;have c3:=hB2.cell 3;have H2:=h4k hB2 hZ2 hU2 hzs;clear hcl hB2 hZ2 hU2 hzs;go_wp2_with (first
  | (go_at_call 135
     refine HCL.out.mono ?_;rintro e w3 ⟨mv',rfl,hR3,hU3,hf3,ho3⟩;have hone3:=hR3.one;have hB3:=H2.out.1.upd hU3 (fun e=>e);have H3:=h6k hR3 hU3 (H2.out.2.1.upd hU3 (fun e=>e)) hone3 hf3 ho3;clear hR3 hU3 hf3 ho3)
  | (refine wpList_store_one rfl 47 _ _ rfl c 3 mv' rfl rfl _ _ hB3 (by simp) hone3 (by kernel_rfl) ?_
     intro w4 hB4 hU4 hs4;have hZ4:=H3.out.2.2.1.upd hU4 (by omega);have HU4:=Lib.hid hU4;clear hU4)
  | (refine wpList_load_all rfl _ _ rfl c rfl _ _ _ hB4 Tryz.underlying50 rfl (by kernel_rfl) ?_)
  | (refine wpList_store_all rfl 50 _ _ rfl (c+1) _ rfl rfl _ _ hZ4 (by rw [H2.out.2.2.2];rfl) (metaCells_one _ _ _ hone3 hS1) (by kernel_rfl) ?_
     intro w5 hB5 hU5 hs5))
 refine bodyPost_ret (results_cell_row rfl _ _ (c+1) _ _ _ _ rfl hB5 Tryz.underlying50 rfl (by kernel_rfl)) rfl ⟨mv',rfl,(H3.out.1.upd HU4.out (fun b ht e=>?_)).upd hU5 (fun b ht e=>?_),(((H2.out.2.2.1.then H3.out.2.1 (fun _ e=>e.elim)).then HU4.out (fun q e=>.inr ?_)).then hU5 (fun q e=>.inr ?_)),fun q hq=>Nat.le_trans H2.out.2.2.1.size (H3.out.2.2.2.2.1 q hq),?_⟩
 ·have e2:b=c:=e
  subst e2;have:=(H2.out.1.upd H3.out.2.1 (fun e=>e)).ty.inj ht;exact absurd this (by decide)
 ·have e2:b=c+1:=e
  subst e2;have:=(H3.out.2.2.1.upd HU4.out (by omega)).ty.inj ht;exact absurd this (by decide)
 ·have e2:q=c:=e
  have:=H.out.2.2.2;omega
 ·have e2:q=c+1:=e
  have:=H.out.2.2.2;omega
 ·have ho:=H3.out.2.2.2.2.2
  rw [List.length_map] at ho;refine (ho.upd HU4.out (fun b hb e=>?_)).upd hU5 (fun b hb e=>?_)
  ·have e2:b=c:=e
   subst e2;exact absurd ((H2.out.1.upd H3.out.2.1 (fun e=>e)).ty.inj (ho.ty hb)) (by decide)
  ·have e2:b=c+1:=e
   subst e2;exact absurd (H3.out.2.2.1.ty.inj (ho.ty hb)) (by decide)
theorem own_c {w:World} (m:MetaM) {ty:TypeId} {mv:Value} (hmv:TRow w ty 2 mv (m.mounts.map mtRow)) (hl:m.mounts.length≤4) :
 Calls Tryz.prog 76 #[.agg (metaRow m mv)] w fun e w'=>∃mv',e=.returned (.agg (metaRow m mv'))∧TRow w' 46 2 mv' (m.mounts.map mtRow)∧Upd (fun _=>False) w w':=by
 refine (own_f m hmv hl).mono ?_;rintro e w' ⟨v',h1,h2,h3,-⟩;exact ⟨v',h1,h2,h3⟩
theorem part_get {cs:Array Value} {i n:Nat} {vs:List Value} (h:(cs.toList.drop i).take n=vs) (j:Nat) (u:Value) (hj:vs[j]? = some u):cs[i+j]? = some u:=by
 rw [← h,List.getElem?_take] at hj;split at hj
 ·rw [List.getElem?_drop] at hj
  simpa using hj
 ·cases hj
section
variable {w w':World} {p v:Nat} {d d':Dk} {V V':VtM} {o o':VtO}
theorem vmeta_f (h:VtAt w p v d V o) (hl:V.st.m.mounts.length≤4) :
 Calls Tryz.prog 22 #[.pointer (some ⟨v,0,none⟩)] w fun e w'=>∃mv',e=.returned (.agg (metaRow V.st.m mv'))∧TRow w' 46 2 mv' (V.st.m.mounts.map mtRow)∧Upd (fun _=>False) w w'∧(∀q,mv'.ownBlock=some q→w.heap.size≤q)∧Own w' 46 2 mv' V.st.m.mounts.length (V.st.m.mounts.map mtRow).flatten:=by
 obtain ⟨c,hc⟩:=eqx w.heap.size;obtain ⟨C,hC⟩:=eqx (metaRow V.st.m o.mv);have hC2:((vtRow V p o).toList.drop 9).take 5=C.toList:=by rw [← hC];rfl
 have hCs:C.size=5:=by rw [← hC];rfl
 have H:=h6k h hl hc hC hC2 hCs;clear h hl hc hC hC2 hCs;go_enter Tryz.func22,Tryz.ntmps22
 go_upto_region 3 with fail
 rw [H.out.2.2.1];generalize hw2:World.alloc _ _=w2;have hZ2:∃z,z.size=5∧Blk w2 c 50 z:=by
  rw [← hw2,← H.out.2.2.1];exact ⟨_,rfl,Blk.new w _ _⟩
 have hU2:Upd (fun _=>False) w w2:=by rw [← hw2];exact (Upd.refl _ w).alloc _
 clear hw2;obtain ⟨z,hzs,hZ2⟩:=hZ2;have h2:=H.out.1.still hU2;have hown:=own_f V.st.m h2.mts H.out.2.1;rw [H.out.2.2.2.1] at hown;have HO:=Lib.hid hown;have H2:=h4k h2 hZ2 hU2 hzs;clear h2 hown hZ2 hU2 hzs;go_wp2_with (first
  | (refine wpList_load_part rfl _ _ rfl v 9 rfl _ _ C.toList _ H2.out.1.blk (part_get H.out.2.2.2.2.1) Tryz.underlying50 rfl (by rw [Array.length_toList,H.out.2.2.2.2.2];kernel_rfl) ?_)
  | (go_at_call 76
     refine HO.out.mono ?_;rintro e w3 ⟨mv',rfl,hR3,hU3,hf3,ho3⟩;have hone3:=hR3.one;have hZ3:=H2.out.2.1.upd hU3 (fun e=>e);have H3:=h4k hR3 hU3 hf3 ho3;clear hR3 hU3 hf3 ho3)
  | (refine wpList_store_all rfl 50 _ _ rfl c _ rfl rfl _ _ hZ3 (by rw [H2.out.2.2.2];rfl) (metaCells_one _ _ _ hone3 rfl) (by kernel_rfl) ?_
     intro w5 hB5 hU5 hs5))
 refine bodyPost_ret (results_cell_row rfl _ _ c _ _ _ _ rfl hB5 Tryz.underlying50 rfl (by kernel_rfl)) rfl ⟨mv',rfl,H3.out.1.upd hU5 (fun b ht e=>?_),(H2.out.2.2.1.then H3.out.2.1 (fun _ e=>e.elim)).then hU5 (fun q e=>.inr ?_),fun q hq=>Nat.le_trans H2.out.2.2.1.size (H3.out.2.2.1 q hq),H3.out.2.2.2.upd hU5 (fun b hb e=>?_)⟩
 ·have e2:b=c:=e
  subst e2;have:=(H2.out.2.1.upd H3.out.2.1 (fun e=>e)).ty.inj ht;exact absurd this (by decide)
 ·have e2:q=c:=e
  have:=H.out.2.2.1;omega
 ·have e2:b=c:=e
  subst e2;exact absurd ((H2.out.2.1.upd H3.out.2.1 (fun e=>e)).ty.inj (H3.out.2.2.2.ty hb)) (by decide)
theorem vmeta_c (h:VtAt w p v d V o) (hl:V.st.m.mounts.length≤4) :
 Calls Tryz.prog 22 #[.pointer (some ⟨v,0,none⟩)] w fun e w'=>∃mv',e=.returned (.agg (metaRow V.st.m mv'))∧TRow w' 46 2 mv' (V.st.m.mounts.map mtRow)∧Upd (fun _=>False) w w':=by
 refine (vmeta_f h hl).mono ?_;rintro e w' ⟨v',h1,h2,h3,-⟩;exact ⟨v',h1,h2,h3⟩
theorem vwhere_c (h:VtAt w p v d V o):Calls Tryz.prog 12 #[.pointer (some ⟨v,0,none⟩)] w fun e w'=>e=.returned (.tuple #[.int .i64 V.at_,.int .i64 V.epoch])∧Upd (fun _=>False) w w':=by
 have hB:=h.blk;unfold vtRow at hB;have hc:=hB.cells21;clear h hB;go_enter Tryz.func12,Tryz.ntmps12
 go_upto_region 3 with fail
 go_quiet (fail)
 go_wp2_with fail
 go_ret2
 exact ⟨rfl,(Upd.refl _ w).drewN _⟩
theorem vkey_c (h:VtAt w p v d V o):Calls Tryz.prog 14 #[.pointer (some ⟨v,0,none⟩)] w fun e w'=>e=.returned (.int .i64 (V.st.key:Int))∧w=w':=by
 have hc:w.cell? ⟨v,18,none⟩=some (.int .i64 (V.st.key:Int)):=h.blk.cell 18;clear h;go_enter Tryz.func14,Tryz.ntmps14
 go_wp2_with fail
 go_ret
 exact ⟨rfl,rfl⟩
theorem vmap_c (h:VtAt w p v d V o):Calls Tryz.prog 18 #[.pointer (some ⟨v,0,none⟩)] w fun e w'=>∃m2 mb2,e=.returned (.pointer (some ⟨m2,0,none⟩))∧MapAt w' m2 mb2 V.S∧w.heap.size≤m2∧w.heap.size≤mb2∧Upd (fun _=>False) w w':=by
 have hc:w.cell? ⟨v,0,none⟩=some (.pointer (some ⟨o.m,0,none⟩)):=h.blk.cell 0;have HT:=Lib.hid (otwin_c h.map);clear h;go_enter Tryz.func18,Tryz.ntmps18
 go_wp2_with (go_at_call 55;refine HT.out.mono ?_;rintro e w2 ⟨m2,mb2,rfl,hm⟩);go_ret
 exact ⟨m2,mb2,rfl,hm⟩
end
end
section
open Go Go.RowKit
structure PutFit (d:Dk) (V:VtM):Prop where
 cur:V.cur≤1048576
 n:V.n<4611686018427387904
 seen:V.kp.seen<18446744073709551616
 at_:V.kp.at_≤1
 from_:V.kp.from_≤4096
 pend:d.pend+20<1000000
section
variable {w w':World} {p v:Nat} {d d':Dk} {V V':VtM} {o o':VtO}
theorem StOk.with_ {s:StM} (h:StOk s) {m:MetaM} (hr:rightM m=true) (hn:m.seen≤9223372036854775807∧m.grant≤9223372036854775807):StOk { s with m:=m } := ⟨hr,h.place,h.slot,h.log,h.key,h.boot,hn⟩
theorem vset_c (h:VtAt w p v d V o) (hst:StOk V.st) (hf:PutFit d V) (m:MetaM) {ty:TypeId} {mv:Value} (hmv:TRow w ty 2 mv (m.mounts.map mtRow)) (hmn:m.seen≤9223372036854775807∧m.grant≤9223372036854775807) (hml:∀x ∈ m.mounts,x.name.length≤1000000) :
 Calls Tryz.prog 24 #[.pointer (some ⟨v,0,none⟩),.agg (metaRow m mv)] w fun e w'=>e=.returned (.int .i64 (setV d V m).2.2)∧∃o',VtAt w' p v (setV d V m).1 (setV d V m).2.1 o'∧VtStep w w' v o o':=by
 obtain ⟨A,cap,mb,mo,hmv1,hmv2,hmv3,hmv4,hmv5⟩:=hmv.mts;obtain ⟨c,hc⟩:=eqx w.heap.size;obtain ⟨C,hC⟩:=eqx (metaRow m mv);have hCs:C.size=5:=by rw [← hC];rfl
 have hone:=hmv.one;have hC1:C.all (·.oneCell')=true:=by rw [← hC];exact metaCells_one _ _ _ hone rfl
 have H:=h6k h hst hf hmv hmn hml;have HM:=h5k hmv1 hmv2 hmv3 hmv4 hmv5;have HC:=h4k hc hC hCs hC1;rw [hC];clear h hst hf hmv hmn hml hmv1 hmv2 hmv3 hmv4 hmv5 hc hC hCs hone hC1;go_enter Tryz.func24,Tryz.ntmps24
 go_upto_region 1 with fail
 rw [HC.out.1];generalize hw1:World.alloc _ _=w1;have hB1:Blk w1 c 50 C:=by rw [← hw1,← HC.out.1];exact Blk.new w _ _
 have hU1:Upd (fun _=>False) w w1:=by rw [← hw1];exact (Upd.refl _ w).alloc _
 have H1:=h3k hB1 hU1 (H.out.1.still hU1);have HO:=Lib.hid (off_c (H.out.1.still hU1));clear hB1 hU1 hw1;have hset:setV d V m=if offV d V then (d,{ V with down:=true },14) else if rightM m=false then (d,V,1) else putV d V { V.st with m:=m } := rfl
 have HS:=Lib.hid hset;clear hset;have HT1:=Lib.hid (VtStep.mk (o:=o) (o':=o) (v:=v) (H1.out.2.1.mono (fun _ e=>e.elim)) (fun q e=>.inl e));cases hoff:offV d V
 ·rw [hoff] at HS HO
  simp only [Bool.false_eq_true,if_false,forall_const] at HO;go_upto_region 4 with (first
   | (go_at_call 53;refine HO.out.mono ?_;rintro e w2 ⟨rfl,-,-,hw2⟩;subst hw2))
  have hri:=vright_c (w:=w1) (A:=A) (cap:=cap) (b:=mb) (off:=mo) m HM.out.2.2.2.1 (fun w' hu=>HM.out.2.2.2.2 w' (fun _=>False) (H1.out.2.1.then hu (fun _ e=>.inl e)) (fun _ _ e=>e)) HM.out.2.2.1 HM.out.2.1 H.out.2.2.2.2.2;rw [← HM.out.1,HC.out.2.1] at hri;have HR:=Lib.hid hri;clear hri hoff;cases hr:rightM m
  ·rw [hr] at HS HR
   clear hr;go_wp2_with (first
    | (refine wpList_load_all rfl _ _ rfl c rfl _ _ _ H1.out.1 Tryz.underlying50 rfl (by rw [HC.out.2.2.1];kernel_rfl) ?_)
    | (go_at_call 41;refine HR.out.mono ?_;rintro e w3 ⟨rfl,hU3⟩;have H3:=Lib.hid hU3;clear hU3))
   go_ret
   rw [HS.out];exact ⟨rfl,o,H1.out.2.2.still H3.out,HT1.out.still H3.out⟩
  ·rw [hr] at HS HR
   have HRM:=Lib.hid hr;clear hr;go_upto_region 6 with (first
    | (refine wpList_load_all rfl _ _ rfl c rfl _ _ _ H1.out.1 Tryz.underlying50 rfl (by rw [HC.out.2.2.1];kernel_rfl) ?_)
    | (go_at_call 41;refine HR.out.mono ?_;rintro e w3 ⟨rfl,hU3⟩;have H3:=Lib.hid hU3;clear hU3))
   obtain ⟨q,hq⟩:=eqx w3.heap.size;obtain ⟨D,hD⟩:=eqx (stRow V.st o.mv);have hD2:((vtRow V p o).toList.drop 9).take 11=D.toList:=by rw [← hD];rfl
   have hDs:D.size=11:=by rw [← hD];rfl
   have h3:=H1.out.2.2.still H3.out;have hD1:D.toList.toArray.all (·.oneCell')=true:=by rw [← hD];exact stRow_one _ _ h3.mts.one
   have HD:=h5k hD hD2 hDs hD1 hq;have hB3:=H1.out.1.upd H3.out (fun e=>e);have K3:=h3k h3 hB3 (HT1.out.still H3.out);clear hD hD2 hDs hD1 hq h3 hB3;go_upto_region 7 with (first
    | (refine wpList_load_part rfl _ _ rfl v 9 rfl _ _ D.toList _ K3.out.1.blk (part_get HD.out.2.1) Tryz.underlying115 rfl (by rw [Array.length_toList,HD.out.2.2.1];kernel_rfl) ?_)
    | (refine wpList_store_all rfl 115 _ _ rfl w3.heap.size _ rfl rfl _ _ (Blk.new w3 _ _) (by rw [List.size_toArray,Array.length_toList,HD.out.2.2.1];rfl) HD.out.2.2.2.1 (by rw [List.size_toArray,Array.length_toList,HD.out.2.2.1];kernel_rfl) ?_
       intro w4 hB4 hU4 hs4))
   rw [HD.out.2.2.2.2] at hB4 hU4 ⊢;have hU34:Upd (fun _=>False) w3 w4:=((Upd.refl _ w3).alloc _).then hU4 (fun b e=>.inr (by have e2:b=q:=e;have:=HD.out.2.2.2.2;omega));have hmv4:=(((H.out.2.2.2.1.still H1.out.2.1).still H3.out).still hU34);have hown:=own_c m hmv4 (rightM_ok HRM.out).mts;rw [HC.out.2.1] at hown;have HOW:=Lib.hid hown;have H4:=h3k hB4 (K3.out.2.1.upd hU34 (fun e=>e)) hU34;clear hB4 hU4 hs4 hU34 hown hmv4;go_upto_region 8 with (first
    | (refine wpList_load_all rfl _ _ rfl c rfl _ _ _ H4.out.2.1 Tryz.underlying50 rfl (by rw [HC.out.2.2.1];kernel_rfl) ?_)
    | (go_at_call 76
       refine HOW.out.mono ?_;rintro e w5 ⟨mv',rfl,hR5,hU5⟩;have hone5:=hR5.one;have hB5:=H4.out.1.upd hU5 (fun e=>e);have H5:=h2k hR5 hU5;clear hR5 hU5)
    | (refine wpList_store_part rfl 50 _ _ rfl q 0 (metaRow m mv') rfl rfl _ _ (stRow { V.st with m:=m } mv') hB5 (by rw [HD.out.2.2.1];exact Nat.le_of_ble_eq_true rfl) (by rw [← HD.out.1];rfl) (metaCells_one _ _ _ hone5 rfl) (by kernel_rfl) ?_
       intro w6 hB6 hU6 hs6))
   have hU36:Upd (fun _=>False) w3 w6:=(H4.out.2.2.then H5.out.2 (fun _ e=>.inl e)).then hU6 (fun b e=>.inr (by have e2:b=q:=e;have:=HD.out.2.2.2.2;omega));have h6:=K3.out.1.still hU36;have hmv6:TRow w6 46 2 mv' (m.mounts.map mtRow):=H5.out.1.upd hU6 (fun b ht e=>by
    have e2:b=q:=e;subst e2;exact absurd (hB5.ty.inj ht) (by decide))
   have hpf:=H.out.2.2.1;have hput:=put_c h6 { V.st with m:=m } (H.out.2.1.with_ HRM.out H.out.2.2.2.2.1) hmv6 rfl hpf.cur hpf.n hpf.seen hpf.at_ hpf.from_ hpf.pend;have HP:=h2k hput (K3.out.2.2.still hU36);obtain ⟨R,hR⟩:=eqx (stRow { V.st with m:=m } mv');have hRs:R.size=11:=by rw [← hR];rfl
   rw [hR] at hB6 HP;have HB6:=h2k hB6 hRs;clear hput h6 hmv6 hU36 hU6 hB6 hs6 hR hRs hpf hB5;go_wp2_with (first
    | (refine wpList_load_all rfl _ _ rfl q rfl _ _ _ HB6.out.1 Tryz.underlying115 rfl (by rw [HB6.out.2];kernel_rfl) ?_)
    | (go_at_call 67;refine HP.out.1.mono ?_;rintro e w7 ⟨rfl,o7,h7,k7⟩;have H7:=h2k h7 k7;clear h7 k7))
   go_ret
   rw [HS.out];exact ⟨rfl,o7,H7.out.1,HP.out.2.trans H7.out.2⟩
 ·rw [hoff] at HS HO
  simp only [if_true] at HO;go_wp2_with (first
   | (go_at_call 53;refine HO.out.mono ?_;rintro e w2 ⟨rfl,h2,k2,-⟩;have H2:=h2k h2 k2;clear h2 k2))
  go_ret
  rw [HS.out];exact ⟨rfl,o,H2.out.1,HT1.out.trans H2.out.2⟩
end
end
end Go.Proofs.YtbhjgfibhegddaaGreat
