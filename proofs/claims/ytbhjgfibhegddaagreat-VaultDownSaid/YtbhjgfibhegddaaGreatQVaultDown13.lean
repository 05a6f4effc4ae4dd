/-
  Parts of the proof of VaultDown: LogLaw, Rep, LawB, Keys, DiskH, Free, LawW, Acts, Last.
-/
import Derived.Test.YtbhjgfibhegddaaGreatQVaultDown12
import Derived.ChangeAt2
import Derived.ChangeSame
import Derived.Deep.Fields
import Derived.Deep.Slices
import Derived.Shelf.SlIterI.Nil
import Derived.Shelf.SortM.Plain
import Derived.Shelf.SortM.SortNone
set_option maxRecDepth 100000
set_option maxHeartbeats 16000000
namespace Go.Proofs.YtbhjgfibhegddaaGreat
section
open Go Go.RowKit
structure Lp.ok (p:Lp):Prop where
 epoch0:0<p.epoch
 epoch:p.epoch<2 ^ (8*8)
 salt:p.salt<2 ^ (8*8)
 ahead:p.ahead<2 ^ (8*8)
 number:p.number<256
 all:p.all<256
 text:p.text.length≤32
 all0:0<p.all
theorem readG_body (p:Lp) (h:p.ok):readG p.body=(p,true):=by
 obtain ⟨e,s,a,n,al,t⟩:=p;obtain ⟨h0,he,hs,ha,hn,hal,ht,-⟩:=h;simp only at h0 he hs ha hn hal ht
 have hb:Lp.body ⟨e,s,a,n,al,t⟩=leB e 8++(leB s 8++(leB a 8++([UInt8.ofNat n,UInt8.ofNat al,UInt8.ofNat t.length,0]++(t++List.replicate (32 - t.length) 0)))):=by simp [Lp.body]
 generalize Lp.body ⟨e,s,a,n,al,t⟩=B at *;have d0:B.take 8=leB e 8:=by rw [hb,List.take_left' (leB_len _ _)]
 have d8:B.drop 8=leB s 8++(leB a 8++([UInt8.ofNat n,UInt8.ofNat al,UInt8.ofNat t.length,0]++(t++List.replicate (32 - t.length) 0))):=by rw [hb,List.drop_left' (leB_len _ _)]
 have d16:B.drop 16=leB a 8++([UInt8.ofNat n,UInt8.ofNat al,UInt8.ofNat t.length,0]++(t++List.replicate (32 - t.length) 0)):=by
  rw [show B.drop 16=(B.drop 8).drop 8 by rw [List.drop_drop],d8,List.drop_left' (leB_len _ _)]
 have d24:B.drop 24=[UInt8.ofNat n,UInt8.ofNat al,UInt8.ofNat t.length,0]++(t++List.replicate (32 - t.length) 0):=by
  rw [show B.drop 24=(B.drop 16).drop 8 by rw [List.drop_drop],d16,List.drop_left' (leB_len _ _)]
 have hg:∀i,B.getD (24+i) 0=([UInt8.ofNat n,UInt8.ofNat al,UInt8.ofNat t.length,0]++(t++List.replicate (32 - t.length) 0)).getD i 0:=by
  intro i;rw [List.getD_eq_getElem?_getD,List.getD_eq_getElem?_getD,← d24,List.getElem?_drop]
 have g24:B.getD 24 0=UInt8.ofNat n:=hg 0;have g25:B.getD 25 0=UInt8.ofNat al:=hg 1;have g26:B.getD 26 0=UInt8.ofNat t.length:=hg 2;have g27:B.getD 27 0=0:=hg 3;have hdr:∀i,B.drop (28+i)=(t++List.replicate (32 - t.length) 0).drop i:=by
  intro i;rw [show B.drop (28+i)=((B.drop 24).drop 4).drop i by rw [List.drop_drop,List.drop_drop,← Nat.add_assoc],d24];rfl
 have hu:∀x,x<256→(UInt8.ofNat x).toNat=x:=fun x hx=>by simp;omega
 have e0:=hdr 0;rw [Nat.add_zero] at e0;rw [readG,g24,g25,g26,g27,hu n hn,hu al hal,hu t.length (by omega),if_neg (by omega),d0,d8,d16,List.take_left' (leB_len _ _),List.take_left' (leB_len _ _),leN_leB _ _ he,leN_leB _ _ hs,leN_leB _ _ ha,e0,hdr t.length];simp
theorem bodyG_ne (p:Lp) (h:p.ok):p.body≠List.replicate 60 0:=by
 intro e;have h1:=readG_body p h;rw [e] at h1;have h2:(readG (List.replicate 60 0)).1.epoch=p.epoch:=by rw [h1]
 have h3:(readG (List.replicate 60 0)).1.epoch=0:=by decide
 have:=h.epoch0;omega
theorem look_secG (p : Lp) (h : p.ok) : lookL p.sec.data.toList=(p.body,1):=by
 have e:p.sec.data.toList=closeL p.body:=by simp [Lp.sec,str]
 rw [e]
 exact lookL_closeL _ (p.body_len h.text) (bodyG_ne p h) (by have:=sumN_lt p.body;have e2:(2:Nat) ^ (8*4)=4294967296:=by decide
                                                             omega)
theorem secG_size (p:Lp) (h:p.ok):p.sec.size=64:=by
 rw [Lp.sec,str_size,closeL,List.length_append,p.body_len h.text,leB_len]
theorem partsOf_pos (n:Nat):1≤partsOf n:=by unfold partsOf;omega
theorem cutG_ok (t:List UInt8) (e s a:Nat) (h0:0<e) (he:e<2 ^ (8*8)) (hs:s<2 ^ (8*8)) (ha:a<2 ^ (8*8)) (ht:t.length≤1024):∀p ∈ cutG t e s a,p.ok:=by
 intro p hp;obtain ⟨i,hi,rfl⟩:=List.mem_iff_getElem.1 hp;obtain ⟨c1,c2,c3,c4,c5,c6⟩:=cutG_get t e s a i hi;rw [cutG_len] at hi;have hn:partsOf t.length≤32:=by unfold partsOf;omega
 have hn1:=partsOf_pos t.length;exact ⟨by omega,by omega,by omega,by omega,by omega,by omega,c6,by omega⟩
theorem cutG_cons (t:List UInt8) (e s a:Nat):∃p r,cutG t e s a=p::r∧p.epoch=e∧p.salt=s∧p.ahead=a∧p.all=partsOf t.length:=by
 have hn:0<(cutG t e s a).length:=by rw [cutG_len];exact partsOf_pos _
 obtain ⟨c1,c2,c3,c4,c5,c6⟩:=cutG_get t e s a 0 hn;cases h:cutG t e s a with
 | nil=>rw [h] at hn;simp at hn
 | cons p r =>
   simp only [h,List.getElem_cons_zero] at c1 c2 c3 c5;exact ⟨p,r,rfl,c1,c2,c3,c5⟩
def secO:Option Lp→ByteArray
 | none=>zeros64
 | some p=>p.sec
structure CellsIs (d:Dk) (a:Nat) (L:List (Option Lp)):Prop where
 cell:∀i (h:i<L.length),d.now (a+i)=secO L[i]
 ok:∀p,some p ∈ L→p.ok
def rowL:List (Option Lp)→List Lp
 | some p::r=>p::rowL r
 | _=>[]
def saltL (L:List (Option Lp)):Nat:=L.foldl (fun m o=>max m (o.elim 0 Lp.salt)) 0
theorem rowL_some (A:List (Option Lp)) (p:Lp):rowL (A++[some p])=if A.all Option.isSome then rowL A++[p] else rowL A:=by
 induction A with
 | nil=>rfl
 | cons x A ih =>
   cases x with
   | none=>rfl
   | some q =>
     simp only [List.cons_append,rowL,ih,List.all_cons,Option.isSome_some,Bool.true_and];split<;>rfl
theorem rowL_none (A:List (Option Lp)):rowL (A++[none])=rowL A:=by
 induction A with
 | nil=>rfl
 | cons x A ih =>
   cases x with
   | none=>rfl
   | some q=>simp only [List.cons_append,rowL,ih]
theorem rowL_map (l:List Lp) (R:List (Option Lp)):rowL (l.map some++R)=l++rowL R:=by
 induction l with
 | nil=>rfl
 | cons p l ih=>simp only [List.map_cons,List.cons_append,rowL,ih]
theorem rowL_mem {L:List (Option Lp)} {p:Lp} (h:p ∈ rowL L):some p ∈ L:=by
 induction L with
 | nil=>simp [rowL] at h
 | cons x L ih =>
   cases x with
   | none=>simp [rowL] at h
   | some q =>
     simp only [rowL,List.mem_cons] at h;rcases h with rfl | h
     ·simp
     ·exact List.mem_cons_of_mem _ (ih h)
theorem foldSalt_ge (L:List (Option Lp)) (s:Nat):s≤L.foldl (fun m o=>max m (o.elim 0 Lp.salt)) s:=by
 induction L generalizing s with
 | nil=>exact Nat.le_refl _
 | cons x L ih=>exact Nat.le_trans (Nat.le_max_left _ _) (ih _)
theorem foldSalt_mem {L:List (Option Lp)} {p:Lp} (h:some p ∈ L) (s:Nat):p.salt≤L.foldl (fun m o=>max m (o.elim 0 Lp.salt)) s:=by
 induction L generalizing s with
 | nil=>simp at h
 | cons x L ih =>
   rcases List.mem_cons.1 h with rfl | h
   ·exact Nat.le_trans (Nat.le_max_right _ _) (foldSalt_ge L _)
   ·exact ih h _
theorem foldSalt_le {L:List (Option Lp)} {m:Nat} (h:∀p,some p ∈ L→p.salt≤m) (s:Nat) (hs:s≤m):L.foldl (fun m o=>max m (o.elim 0 Lp.salt)) s≤m:=by
 induction L generalizing s with
 | nil=>exact hs
 | cons x L ih =>
   refine ih (fun p hp=>h p (by simp [hp])) _ ?_;cases x with
   | none=>simpa using hs
   | some q=>exact Nat.max_le.2 ⟨hs,h q (by simp)⟩
theorem saltL_mem {L:List (Option Lp)} {p:Lp} (h:some p ∈ L):p.salt≤saltL L:=foldSalt_mem h 0
theorem saltL_le {L:List (Option Lp)} {m:Nat} (h:∀p,some p ∈ L→p.salt≤m):saltL L≤m:=foldSalt_le h 0 (Nat.zero_le _)
theorem look_zeros:lookL zeros64.data.toList=([],0):=by
 unfold lookL;rw [if_neg (by simp [zeros64,str]),if_pos (by rfl)]
theorem scanAt_is {d:Dk} {a:Nat} {L:List (Option Lp)} (h:CellsIs d a L) (k:Nat) (hk:k≤L.length):scanAt d a k=⟨rowL (L.take k),(L.take k).all Option.isSome,saltL (L.take k),false⟩:=by
 induction k with
 | zero=>rfl
 | succ k ih =>
   have hlt:k<L.length:=by omega
   rw [scanAt_succ,ih (by omega),scanStep,if_neg (by simp),h.cell k hlt,List.take_succ_eq_append_getElem hlt];have hmem:L[k] ∈ L:=List.getElem_mem hlt;cases hx:L[k] with
   | none =>
     rw [show secO none=zeros64 from rfl,look_zeros,if_neg (by decide),if_neg (by decide),rowL_none];simp [saltL]
   | some p =>
     have hok:=h.ok p (hx ▸ hmem);rw [show secO (some p)=p.sec from rfl,look_secG p hok,if_neg (by simp),if_pos rfl,readG_body p hok,rowL_some];simp [saltL]
theorem chunks32 (t:List UInt8) (n:Nat):((List.range n).flatMap fun i=>(t.drop (32*i)).take 32)=t.take (32*n):=by
 induction n with
 | zero=>simp
 | succ n ih=>rw [List.range_succ,List.flatMap_append,ih];simp [List.take_add,Nat.mul_add]
theorem textG_cut (t:List UInt8) (e s a:Nat):textG (cutG t e s a)=t:=by
 have h:=chunks32 t (partsOf t.length);rw [textG,cutG,List.flatMap_map];rw [h,List.take_of_length_le];unfold partsOf;omega
theorem firstG_cut (t:List UInt8) (e s a:Nat) (rest:List Lp) (ht:t.length≤1024):firstG e a (cutG t e s a++rest)=(t,true):=by
 obtain ⟨p,r,hc,c1,c2,c3,c4⟩:=cutG_cons t e s a;have hl:(p::r).length=partsOf t.length:=by rw [← hc,cutG_len]
 have htk:(p::(r++rest)).take (partsOf t.length)=cutG t e s a:=by
  rw [← List.cons_append,← hl,List.take_left' rfl,hc]
 have hl2:partsOf t.length≤(p::(r++rest)).length:=by
  rw [← hl];simp only [List.length_cons,List.length_append];omega
 rw [hc,List.cons_append,firstG,c4,htk,textG_cut,if_neg (by omega),if_neg (by omega),htk,c2,decide_eq_true ⟨hl2,rfl⟩]
theorem firstG_true {e a:Nat} {row:List Lp} (h:(firstG e a row).2=true):∃t s rest,t.length≤1024∧row=cutG t e s a++rest:=by
 unfold firstG at h;split at h
 ·simp at h
 ·split at h
  ·simp at h
  ·split at h
   ·simp at h
   ·rename_i p r h1 h2
    simp only [decide_eq_true_eq] at h;exact ⟨textG ((p::r).take p.all),p.salt,(p::r).drop (partsOf (textG ((p::r).take p.all)).length),by omega,by rw [h.2,List.take_append_drop]⟩
theorem firstG_head {e a:Nat} {p:Lp} {r:List Lp} (h:(firstG e a (p::r)).2=true):p.epoch=e∧p.ahead=a:=by
 obtain ⟨t,s,rest,-,hr⟩:=firstG_true h;obtain ⟨q,r',hc,c1,c2,c3,c4⟩:=cutG_cons t e s a;rw [hc,List.cons_append] at hr;injection hr with h3 h4;rw [h3];exact ⟨c1,c3⟩
theorem firstG_stop {e a:Nat} {l:List Lp} (h:∀p ∈ l,p.epoch≠e∨p.ahead≠a):(firstG e a l).2=false:=by
 cases l with
 | nil=>rfl
 | cons p r =>
   cases hf:(firstG e a (p::r)).2 with
   | false=>rfl
   | true =>
     obtain ⟨h1,h2⟩:=firstG_head hf;rcases h p (by simp) with h3 | h3
     ·exact absurd h1 h3
     ·exact absurd h2 h3
def rowOf (e:Nat):Nat→List (List UInt8 × Nat)→List Lp
 | _,[]=>[]
 | last,q::r=>cutG q.1 e q.2 last++rowOf e q.2 r
def lastOf:Nat→List (List UInt8 × Nat)→Nat
 | last,[]=>last
 | _,q::r=>lastOf q.2 r
theorem rowOf_snoc (e last:Nat) (rs:List (List UInt8 × Nat)) (q:List UInt8 × Nat):rowOf e last (rs++[q])=rowOf e last rs++cutG q.1 e q.2 (lastOf last rs):=by
 induction rs generalizing last with
 | nil=>simp [rowOf,lastOf]
 | cons x rs ih=>simp only [List.cons_append,rowOf,lastOf,ih,List.append_assoc]
theorem lastOf_snoc (last:Nat) (rs:List (List UInt8 × Nat)) (q:List UInt8 × Nat):lastOf last (rs++[q])=q.2:=by
 induction rs generalizing last with
 | nil=>rfl
 | cons x rs ih=>simp only [List.cons_append,lastOf,ih]
theorem rowOf_len (e last:Nat) (rs:List (List UInt8 × Nat)):rs.length≤(rowOf e last rs).length:=by
 induction rs generalizing last with
 | nil=>simp
 | cons x rs ih =>
   have:=ih x.2;have:=partsOf_pos x.1.length;simp only [rowOf,List.length_append,cutG_len,List.length_cons];omega
theorem lastOf_le {e last m:Nat} {rs:List (List UInt8 × Nat)} (h:∀p ∈ rowOf e last rs,p.salt≤m) (hl:last≤m):lastOf last rs≤m:=by
 induction rs generalizing last with
 | nil=>exact hl
 | cons x rs ih =>
   refine ih (fun p hp=>h p (List.mem_append_right _ hp)) ?_;obtain ⟨p,r,hc,c1,c2,c3,c4⟩:=cutG_cons x.1 e x.2 last;have:=h p (List.mem_append_left _ (by rw [hc];simp))
   omega
theorem loopG_row (rs:List (List UInt8 × Nat)) (hs:∀q ∈ rs,q.1.length≤1024) (rest:List Lp) (g:Lg) (n:Nat) (hn:rs.length<n) (hst:(firstG g.epoch (lastOf g.last rs) rest).2=false) :
 loopG n g (rowOf g.epoch g.last rs++rest) = { g with l:=g.l++rs.map (fun q=>str q.1),last:=lastOf g.last rs,used:=g.used+(rowOf g.epoch g.last rs).length } := by
 induction rs generalizing g n with
 | nil =>
   obtain ⟨m,rfl⟩:∃m,n=m+1:=⟨n - 1,by omega⟩;rw [loopG,if_neg]
   ·simp [rowOf,lastOf]
   ·simpa [rowOf,lastOf] using hst
 | cons x rs ih =>
   obtain ⟨m,rfl⟩:∃m,n=m+1:=⟨n - 1,by simp at hn;omega⟩;have hx:=hs x (by simp);have hf:=firstG_cut x.1 g.epoch x.2 g.last (rowOf g.epoch x.2 rs++rest) hx;obtain ⟨p,r,hc,c1,c2,c3,c4⟩:=cutG_cons x.1 g.epoch x.2 g.last;have hhd:((cutG x.1 g.epoch x.2 g.last++(rowOf g.epoch x.2 rs++rest)).headD ⟨0,0,0,0,0,[]⟩).salt=x.2:=by rw [hc];exact c2
   have hdr:(cutG x.1 g.epoch x.2 g.last++(rowOf g.epoch x.2 rs++rest)).drop (partsOf x.1.length)=rowOf g.epoch x.2 rs++rest:=by
    rw [List.drop_left' (cutG_len _ _ _ _)]
   rw [loopG,rowOf,List.append_assoc,hf,if_pos rfl,hhd,hdr];have:=ih (fun q hq=>hs q (by simp [hq])) { g with l:=g.l++[str x.1],last:=x.2,used:=g.used+partsOf x.1.length } m (by simp at hn;omega) hst;rw [this];simp [lastOf,cutG_len,Nat.add_assoc]
structure LogIs (d:Dk) (g:Lg) (rs:List (List UInt8 × Nat)) (R:List (Option Lp)):Prop where
 fuse:d.fuse=-1
 off:d.off=false
 waits:d.waits.length=d.lasts.length
 room:g.from_+g.sectors≤d.lasts.length
 pos:1≤g.sectors
 epoch0:0<g.epoch
 epoch:g.epoch<18446744073709551616
 cells:CellsIs d g.from_ ((rowOf g.epoch 0 rs).map some++R)
 len:(rowOf g.epoch 0 rs).length+R.length=g.sectors
 recs:g.l=rs.map (fun q=>str q.1)
 used:g.used=(rowOf g.epoch 0 rs).length
 last:g.last=lastOf 0 rs
 salt:g.salt=saltL ((rowOf g.epoch 0 rs).map some++R)
 aheads:∀p,some p ∈ (rowOf g.epoch 0 rs).map some++R→p.ahead≤g.salt
 small:∀q ∈ rs,q.1.length≤1024
 broken:g.broken=false
 stop:(firstG g.epoch g.last (rowL R)).2=false
theorem LogIs.opens {d:Dk} {g:Lg} {rs:List (List UInt8 × Nat)} {R:List (Option Lp)} (h:LogIs d g rs R):openG d g.from_ g.sectors g.epoch=some g:=by
 have hl:((rowOf g.epoch 0 rs).map some++R).length=g.sectors:=by rw [List.length_append,List.length_map];exact h.len
 have hs:=scanAt_is h.cells g.sectors (by omega);rw [List.take_of_length_le (by omega),rowL_map,← h.salt] at hs;unfold openG;rw [hs,if_neg (by simp)];have hlo:=loopG_row rs h.small (rowL R) ⟨g.from_,g.sectors,g.epoch,[],0,0,g.salt,false⟩ ((rowOf g.epoch 0 rs++rowL R).length+1) (by have:=rowOf_len g.epoch 0 rs;rw [List.length_append];omega) (by have:=h.stop;rw [h.last] at this;exact this);rw [hlo];congr 1
 obtain ⟨g1,g2,g3,g4,g5,g6,g7,g8⟩:=g;have e1:=h.recs;have e2:=h.used;have e3:=h.last;have e4:=h.broken;simp only at e1 e2 e3 e4 ⊢
 rw [e1,e2,e3,e4];simp
theorem LogIs.last_le {d:Dk} {g:Lg} {rs:List (List UInt8 × Nat)} {R:List (Option Lp)} (h:LogIs d g rs R):g.last≤g.salt:=by
 rw [h.last];exact lastOf_le (e:=g.epoch) (fun p hp=>by rw [h.salt];exact saltL_mem (List.mem_append_left _ (List.mem_map.2 ⟨p,hp,rfl⟩))) (Nat.zero_le _)
theorem LogIs.other {d:Dk} {g:Lg} {rs:List (List UInt8 × Nat)} {R:List (Option Lp)} (h:LogIs d g rs R) (e:Nat) (h0:0<e) (he:e<18446744073709551616) (hst:(firstG e 0 (rowL ((rowOf g.epoch 0 rs).map some++R))).2=false) :
 LogIs d ⟨g.from_,g.sectors,e,[],0,0,g.salt,false⟩ [] ((rowOf g.epoch 0 rs).map some++R) :=
 ⟨h.fuse,h.off,h.waits,h.room,h.pos,h0,he,by simpa [rowOf] using h.cells,by simpa [rowOf] using h.len,rfl,rfl,rfl,by simpa [rowOf] using h.salt,by simpa [rowOf] using h.aheads,by simp,rfl,hst⟩
theorem fresh_log (n f m e:Nat) (h:f+m≤n) (hm:1≤m) (h0:0<e) (he:e<18446744073709551616):LogIs (Dk.fresh n) ⟨f,m,e,[],0,0,0,false⟩ [] (List.replicate m none):=by
 have hno:∀p:Lp,some p ∉ List.replicate m (none:Option Lp):=fun p hp=>by have:=List.eq_of_mem_replicate hp;simp at this
 have hrow:rowL (List.replicate m none)=[]:=by cases m<;>rfl
 refine ⟨rfl,rfl,by simp [Dk.fresh],by simpa [Dk.fresh] using h,hm,h0,he,⟨fun i hi=>?_,fun p hp=>absurd hp (hno p)⟩,by simp [rowOf],rfl,rfl,rfl,?_,fun p hp=>absurd hp (hno p),by simp,rfl,by rw [hrow];rfl⟩
 ·have e:(Dk.fresh n).now (f+i)=zeros64:=by
   have hi':i<m:=by simpa [rowOf] using hi
   unfold Dk.now Dk.at_ Dk.last Dk.fresh;simp only [List.getD_eq_getElem?_getD,List.getElem?_replicate];rw [if_pos (by omega),if_pos (by omega)];rfl
  simp [rowOf,e,secO]
 ·have:saltL (List.replicate m none)≤0:=saltL_le fun p hp=>absurd hp (hno p)
  show 0=saltL (List.replicate m none);omega
theorem writeB_free {d:Dk} (h:d.fuse=-1) (ho:d.off=false) (hw:d.waits.length=d.lasts.length) (a:Nat) (l:List ByteArray) (hs:∀q ∈ l,q.size=64) (j:Nat) (hj:j≤l.length) (ha:a+j≤d.lasts.length) :
 (writeB d a l j).2=0∧(writeB d a l j).1.fuse=-1∧(writeB d a l j).1.off=false ∧
   ∀i,(writeB d a l j).1.now i=if a≤i∧i<a+j then l.getD (i - a) ByteArray.empty else d.now i:=by
 induction j with
 | zero=>exact ⟨rfl,h,ho,fun i=>by rw [if_neg (by omega)];rfl⟩
 | succ j ih =>
   obtain ⟨i1,i2,i3,i4⟩:=ih (by omega) (by omega);obtain ⟨s1,s2,s3⟩:=writeB_same d a l hw j;have hq:(l.getD j ByteArray.empty).size=64:=by
    rw [List.getD_eq_getElem?_getD,List.getElem?_eq_getElem (by omega)];exact hs _ (List.getElem_mem _)
   have hwr:=Dk.write_free i2 i3 (i:=a+j) (by rw [s1];omega) hq;rw [writeB,if_neg (by rw [i1];simp),hwr]
   refine ⟨rfl,i2,i3,fun i=>?_⟩;rw [Dk.push_now _ _ _ _ (by rw [s2,hw];omega),i4];by_cases e:a+j=i
   ·subst e
    rw [if_pos rfl,if_pos (by omega),Nat.add_sub_cancel_left]
   ·rw [if_neg e]
    by_cases e2:a≤i∧i<a+j
    ·rw [if_pos e2,if_pos (by omega)]
    ·rw [if_neg e2,if_neg (by omega)]
def Lg.added (g:Lg) (s:ByteArray):Lg := { g with salt:=g.salt+1,last:=g.salt+1,broken:=false,l:=g.l++[s],used:=g.used+partsOf s.size }
def addD (d:Dk) (g:Lg) (s:ByteArray):Dk:=(wroteG d g s.data.toList).1.flush
theorem added_is {d d2:Dk} {g:Lg} {rs:List (List UInt8 × Nat)} {R:List (Option Lp)} (h:LogIs d g rs R) (s:ByteArray) (hs:s.size≤1024) (hr:partsOf s.size≤R.length) (hsalt:g.salt<18446744073709551615)
 (hf2:d2.fuse=-1) (ho2:d2.off=false) (hw2:d2.waits.length=d2.lasts.length) (hl2:d2.lasts.length=d.lasts.length)
 (hnow:∀i,i<g.sectors→d2.now (g.from_+i)=if g.used≤i∧i<g.used+partsOf s.size then (secsG g s.data.toList).getD (i - g.used) ByteArray.empty else d.now (g.from_+i)) :
 LogIs d2 (g.added s) (rs++[(s.data.toList,g.salt+1)]) (R.drop (partsOf s.size)):=by
 have hlen:=h.len;have hroom:=h.room;have hused:=h.used;have e64:(2:Nat) ^ (8*8)=18446744073709551616:=by decide
 have hl64:s.data.toList.length=s.size:=by simp
 have hep:=h.epoch;have hll:=h.last_le;have hok:=cutG_ok s.data.toList g.epoch (g.salt+1) g.last h.epoch0 (by omega) (by omega) (by omega) (by omega);have hcl:=cutG_len s.data.toList g.epoch (g.salt+1) g.last;rw [hl64] at hcl;have hsl:=secsG_len g s.data.toList;rw [hl64] at hsl;have hrow:rowOf g.epoch 0 (rs++[(s.data.toList,g.salt+1)])=rowOf g.epoch 0 rs++cutG s.data.toList g.epoch (g.salt+1) g.last:=by
  rw [rowOf_snoc,← h.last]
 have hmem:∀p,some p ∈ (rowOf g.epoch 0 rs++cutG s.data.toList g.epoch (g.salt+1) g.last).map some++R.drop (partsOf s.size)→p ∈ cutG s.data.toList g.epoch (g.salt+1) g.last∨some p ∈ (rowOf g.epoch 0 rs).map some++R:=by
  intro p hp;rcases List.mem_append.1 hp with e | e
  ·obtain ⟨q,hq,e⟩:=List.mem_map.1 e
   injection e with e;subst e;rcases List.mem_append.1 hq with e | e
   ·exact .inr (List.mem_append_left _ (List.mem_map.2 ⟨q,e,rfl⟩))
   ·exact .inl e
  ·exact .inr (List.mem_append_right _ (List.mem_of_mem_drop e))
 have hcut:∀p ∈ cutG s.data.toList g.epoch (g.salt+1) g.last,p.salt=g.salt+1∧p.ahead=g.last:=by
  intro p hp;obtain ⟨i,hi,rfl⟩:=List.mem_iff_getElem.1 hp;obtain ⟨c1,c2,c3,c4⟩:=cutG_get _ _ _ _ i hi;exact ⟨c2,c3⟩
 have hsal:g.salt+1=saltL ((rowOf g.epoch 0 rs++cutG s.data.toList g.epoch (g.salt+1) g.last).map some++R.drop (partsOf s.size)):=by
  apply Nat.le_antisymm
  ·obtain ⟨p,r,hc,c1,c2,c3,c4⟩:=cutG_cons s.data.toList g.epoch (g.salt+1) g.last
   have:=saltL_mem (L:=(rowOf g.epoch 0 rs++cutG s.data.toList g.epoch (g.salt+1) g.last).map some++R.drop (partsOf s.size)) (p:=p) (List.mem_append_left _ (List.mem_map.2 ⟨p,List.mem_append_right _ (by rw [hc];simp),rfl⟩))
   omega
  ·refine saltL_le fun p hp=>?_
   rcases hmem p hp with e | e
   ·have:=(hcut p e).1;omega
   ·have:=saltL_mem e
    rw [← h.salt] at this;omega
 have hah:∀p,some p ∈ (rowOf g.epoch 0 rs++cutG s.data.toList g.epoch (g.salt+1) g.last).map some++R.drop (partsOf s.size)→p.ahead≤g.salt+1:=by
  intro p hp;rcases hmem p hp with e | e
  ·have:=(hcut p e).2;omega
  ·have:=h.aheads p e;omega
 have hrl:((rowOf g.epoch 0 rs).map some:List (Option Lp)).length=g.used:=by rw [List.length_map,hused]
 have hepo:(g.added s).epoch=g.epoch:=rfl;have hfr:(g.added s).from_=g.from_:=rfl;refine ⟨hf2,ho2,hw2,by rw [hl2];exact hroom,h.pos,h.epoch0,hep,⟨fun i hi=>?_,fun p hp=>?_⟩,?_,?_,?_,?_,?_,?_,?_,rfl,?_⟩
 ·have hi2:i<g.used+partsOf s.size+(R.length - partsOf s.size):=by
   rw [hepo,hrow,List.length_append,List.length_map,List.length_append,hcl,List.length_drop,← hused] at hi;exact hi
  rw [hfr,hnow i (by omega)];have hL:((rowOf (g.added s).epoch 0 (rs++[(s.data.toList,g.salt+1)])).map some++R.drop (partsOf s.size))=(rowOf g.epoch 0 rs).map some++((cutG s.data.toList g.epoch (g.salt+1) g.last).map some++R.drop (partsOf s.size)):=by
   rw [hepo,hrow,List.map_append,List.append_assoc]
  simp only [hL];by_cases e1:i<g.used
  ·rw [if_neg (by omega),h.cells.cell i (by rw [List.length_append];omega),List.getElem_append_left (by omega),List.getElem_append_left (by omega)]
  ·by_cases e2:i<g.used+partsOf s.size
   ·rw [if_pos (by omega),List.getElem_append_right (by omega)]
    rw [List.getElem_append_left (by simp only [List.length_map];omega),List.getD_eq_getElem?_getD,List.getElem?_eq_getElem (by omega)];simp only [secsG,List.getElem_map,Option.getD_some,secO,hrl]
   ·rw [if_neg (by omega),h.cells.cell i (by rw [List.length_append];omega),List.getElem_append_right (by omega),List.getElem_append_right (by omega)]
    rw [List.getElem_append_right (by simp only [List.length_map];omega)];simp only [List.getElem_drop,List.length_map,hcl,← hused];congr 2
    omega
 ·rw [hepo,hrow] at hp
  rcases hmem p hp with e | e
  ·exact hok p e
  ·exact h.cells.ok p e
 ·show (rowOf g.epoch 0 _).length+_=g.sectors
  rw [hrow,List.length_append,hcl,List.length_drop];omega
 ·show g.l++[s]=_
  rw [List.map_append,h.recs];rfl
 ·show g.used+partsOf s.size=(rowOf g.epoch 0 _).length
  rw [hrow,List.length_append,hcl,hused]
 ·show g.salt+1=_
  rw [lastOf_snoc]
 ·show g.salt+1=saltL ((rowOf g.epoch 0 _).map some++_)
  rw [hrow];exact hsal
 ·intro p hp
  show p.ahead≤g.salt+1;rw [hepo,hrow] at hp;exact hah p hp
 ·intro q hq
  rcases List.mem_append.1 hq with e | e
  ·exact h.small q e
  ·rw [List.mem_singleton.1 e,hl64];exact hs
 ·show (firstG g.epoch (g.salt+1) _).2=false
  refine firstG_stop fun p hp=>.inr ?_
  have:=h.aheads p (List.mem_append_right _ (List.mem_of_mem_drop (rowL_mem hp)));omega
theorem add_is {d:Dk} {g:Lg} {rs:List (List UInt8 × Nat)} {R:List (Option Lp)} (h:LogIs d g rs R) (s:ByteArray) (hs:s.size≤1024) (hr:partsOf s.size≤R.length) (hsalt:g.salt<18446744073709551615) :
 addG d g s=(addD d g s,g.added s,0)∧LogIs (addD d g s) (g.added s) (rs++[(s.data.toList,g.salt+1)]) (R.drop (partsOf s.size))∧(addD d g s).lasts.length=d.lasts.length∧(addD d g s).pend=0 ∧
  ∀i,i<d.lasts.length→(i<g.from_∨g.from_+g.sectors≤i)→(addD d g s).now i=d.now i:=by
 have hlen:=h.len;have hroom:=h.room;have hused:=h.used;have e64:(2:Nat) ^ (8*8)=18446744073709551616:=by decide
 have hl64:s.data.toList.length=s.size:=by simp
 have hep:=h.epoch;have hll:=h.last_le;have hok:=cutG_ok s.data.toList g.epoch (g.salt+1) g.last h.epoch0 (by omega) (by omega) (by omega) (by omega);have hsl:=secsG_len g s.data.toList;rw [hl64] at hsl;have hsz:∀q ∈ secsG g s.data.toList,q.size=64:=by
  intro q hq;obtain ⟨p,hp,rfl⟩:=List.mem_map.1 hq;exact secG_size p (hok p hp)
 obtain ⟨w1,w2,w3,w4⟩:=writeB_free h.fuse h.off h.waits (g.from_+g.used) (secsG g s.data.toList) hsz (partsOf s.size) (by omega) (by omega);obtain ⟨s1,s2,s3⟩:=writeB_same d (g.from_+g.used) (secsG g s.data.toList) h.waits (partsOf s.size);have hwg:wroteG d g s.data.toList=writeB d (g.from_+g.used) (secsG g s.data.toList) (partsOf s.size):=by rw [wroteG,hl64]
 have hD:addD d g s=(writeB d (g.from_+g.used) (secsG g s.data.toList) (partsOf s.size)).1.flush:=by rw [addD,hwg]
 have hlasts:(addD d g s).lasts.length=d.lasts.length:=by
  rw [hD];show ((List.range _).map _).length=_;rw [List.length_map,List.length_range,s1]
 have hwaits:(addD d g s).waits.length=(addD d g s).lasts.length:=by
  rw [hlasts,hD];show (List.map _ _).length=_;rw [List.length_map,s2,h.waits]
 have hnow:∀i,i<d.lasts.length→(addD d g s).now i=if g.from_+g.used≤i∧i<g.from_+g.used+partsOf s.size then (secsG g s.data.toList).getD (i - (g.from_+g.used)) ByteArray.empty else d.now i:=by
  intro i hi;rw [hD,Dk.flush_now _ _ (by rw [s1];exact hi),w4]
 refine ⟨?_,added_is h s hs hr hsalt (by rw [hD];exact w2) (by rw [hD];exact w3) hwaits hlasts (fun i hi=>?_),hlasts,by rw [hD];exact Dk.flush_pend _,fun i hi ho=>?_⟩
 ·unfold addG
  rw [h.broken,if_neg (by simp),if_neg (by omega),if_neg (by omega),hwg,if_neg (by rw [w1];simp),Dk.sync_free w2 w3,if_neg (by simp),hD]
  rfl
 ·rw [hnow _ (by omega),Nat.add_sub_add_left]
  by_cases e:g.used≤i∧i<g.used+partsOf s.size
  ·rw [if_pos (by omega),if_pos e]
  ·rw [if_neg (by omega),if_neg e]
 ·rw [hnow i hi,if_neg (by omega)]
theorem LogIs.used_le {d:Dk} {g:Lg} {rs:List (List UInt8 × Nat)} {R:List (Option Lp)} (h:LogIs d g rs R):g.used+R.length=g.sectors:=by rw [h.used];exact h.len
end
section
open Go Go.RowKit
theorem rowL_get {L:List (Option Lp)} {i:Nat} (h:i<(rowL L).length):L[i]? = some (some (rowL L)[i]):=by
 induction L generalizing i with
 | nil=>simp [rowL] at h
 | cons x L ih =>
   cases x with
   | none=>simp [rowL] at h
   | some q =>
     cases i with
     | zero=>simp [rowL]
     | succ i =>
       simp only [rowL,List.length_cons] at h;have:=ih (i:=i) (by omega);simpa [rowL] using this
theorem rowL_prefix {A B:List (Option Lp)} {n:Nat} (h:∀i,i<n→A[i]? = B[i]?) (hn:n≤(rowL A).length):n≤(rowL B).length∧(rowL A).take n=(rowL B).take n:=by
 induction n generalizing A B with
 | zero=>simp
 | succ n ih =>
   cases A with
   | nil=>simp [rowL] at hn
   | cons x A =>
     cases x with
     | none=>simp [rowL] at hn
     | some p =>
       have h0:=h 0 (by omega);cases B with
       | nil=>simp at h0
       | cons y B =>
         simp only [List.getElem?_cons_zero,Option.some.injEq] at h0;subst h0;simp only [rowL,List.length_cons] at hn;have:=ih (A:=A) (B:=B) (fun i hi=>by simpa using h (i+1) (by omega)) (by omega);simp only [rowL,List.length_cons,List.take_succ_cons];exact ⟨by omega,by rw [this.2]⟩
theorem mix_stop {e last salt k:Nat} {R M:List (Option Lp)} {t:List UInt8} (hR:∀p,some p ∈ R→p.salt≤salt) (hk:k=partsOf t.length)
 (hM:∀i,M[i]? = R[i]? ∨ (i<k∧M[i]? = (cutG t e (salt+1) last)[i]?.map some)) (hst:(firstG e last (rowL R)).2=false)
 (hno:¬ ∀i,i<k→M[i]? = (cutG t e (salt+1) last)[i]?.map some):(firstG e last (rowL M)).2=false:=by
 cases hf:(firstG e last (rowL M)).2 with
 | false=>rfl
 | true =>
   exfalso
   obtain ⟨t',s',rest,ht',hrow⟩:=firstG_true hf;have hn':=partsOf_pos t'.length;have hcl:=cutG_len t' e s' last;have hlen:partsOf t'.length≤(rowL M).length:=by rw [hrow,List.length_append,hcl];omega
   have hget:∀(i:Nat) (h:i<partsOf t'.length),M[i]? = some (some ((cutG t' e s' last)[i]'(by rw [hcl];exact h))):=by
    intro i h;rw [rowL_get (by omega)];simp only [hrow];rw [List.getElem_append_left (by rw [hcl];exact h)]
   have hold:∀(i:Nat) (p:Lp),M[i]? = R[i]? → M[i]? = some (some p)→p.salt≤salt:=by
    intro i p h1 h2;rw [h1] at h2;exact hR p (List.mem_of_getElem? h2)
   have hnew:∀(i:Nat) (p:Lp),(i<k∧M[i]? = (cutG t e (salt+1) last)[i]?.map some)→M[i]? = some (some p)→p.salt=salt+1∧p.all=k:=by
    intro i p h1 h2;rw [h1.2,List.getElem?_eq_getElem (by rw [cutG_len];omega)] at h2;simp only [Option.map_some,Option.some.injEq] at h2;obtain ⟨c1,c2,c3,c4,c5,c6⟩:=cutG_get t e (salt+1) last i (by rw [cutG_len];omega);rw [h2] at c2 c5;exact ⟨c2,by omega⟩
   have hcut:∀(i:Nat) (h:i<partsOf t'.length),((cutG t' e s' last)[i]'(by rw [hcl];exact h)).salt=s'∧((cutG t' e s' last)[i]'(by rw [hcl];exact h)).all=partsOf t'.length:=by
    intro i h;obtain ⟨c1,c2,c3,c4,c5,c6⟩:=cutG_get t' e s' last i (by rw [hcl];exact h);exact ⟨c2,c5⟩
   by_cases hs:s'=salt+1
   ·have all_new:∀i:Nat,i<partsOf t'.length→i<k∧M[i]? = (cutG t e (salt+1) last)[i]?.map some:=by
     intro i h;rcases hM i with e1 | e1
     ·have:=hold i _ e1 (hget i h)
      have:=(hcut i h).1;omega
     ·exact e1
    have h0:=hnew 0 _ (all_new 0 (by omega)) (hget 0 (by omega));have h1:=(hcut 0 (by omega)).2;exact hno fun i hi=>(all_new i (by omega)).2
   ·have all_old:∀i:Nat,i<partsOf t'.length→M[i]? = R[i]? := by
     intro i h;rcases hM i with e1 | e1
     ·exact e1
     ·have h1:=(hnew i _ e1 (hget i h)).1
      have h2:=(hcut i h).1;omega
    obtain ⟨p1,p2⟩:=rowL_prefix all_old hlen;have hR2:rowL R=cutG t' e s' last++(rowL R).drop (partsOf t'.length):=by
     have e1:(rowL M).take (partsOf t'.length)=cutG t' e s' last:=by rw [hrow,List.take_left' hcl]
     rw [← e1,p2,List.take_append_drop]
    rw [hR2,firstG_cut _ _ _ _ _ ht'] at hst;simp at hst
theorem mix_is2 {d d2:Dk} {g:Lg} {rs:List (List UInt8 × Nat)} {R:List (Option Lp)} (h:LogIs d g rs R) (s:ByteArray) (hs:s.size≤1024) (hr:partsOf s.size≤R.length) (hsalt:g.salt<18446744073709551615)
 (hf2:d2.fuse=-1) (ho2:d2.off=false) (hw2:d2.waits.length=d2.lasts.length) (hl2:d2.lasts.length=d.lasts.length)
 (hnow:∀i,i<g.sectors→d2.now (g.from_+i)=d.now (g.from_+i)∨(g.used≤i∧i<g.used+partsOf s.size∧d2.now (g.from_+i)=(secsG g s.data.toList).getD (i - g.used) ByteArray.empty)) :
 ∃ g' rs' R',LogIs d2 g' rs' R'∧(g'.from_=g.from_∧g'.sectors=g.sectors∧g'.epoch=g.epoch∧g'.salt≤g.salt+1)∧((g'.l=g.l∧g'.used=g.used)∨(g'.l=g.l++[s]∧g'.used=g.used+partsOf s.size)) ∧
  ∀p,some p ∈ (rowOf g'.epoch 0 rs').map some++R'→some p ∈ (rowOf g.epoch 0 rs).map some++R∨p.epoch=g.epoch:=by
 classical
 have hlen:=h.len;have hused:=h.used;have e64:(2:Nat) ^ (8*8)=18446744073709551616:=by decide
 have hl64:s.data.toList.length=s.size:=by simp
 have hep:=h.epoch;have hll:=h.last_le;have hok:=cutG_ok s.data.toList g.epoch (g.salt+1) g.last h.epoch0 (by omega) (by omega) (by omega) (by omega);have hcl:=cutG_len s.data.toList g.epoch (g.salt+1) g.last;rw [hl64] at hcl;by_cases hall:∀i,i<partsOf s.size→d2.now (g.from_+(g.used+i))=(secsG g s.data.toList).getD i ByteArray.empty
 ·refine ⟨g.added s,_,_,added_is h s hs hr hsalt hf2 ho2 hw2 hl2 (fun i hi=>?_),⟨rfl,rfl,rfl,Nat.le_refl _⟩,.inr ⟨rfl,rfl⟩,fun p hp=>?_⟩
  ·by_cases e:g.used≤i∧i<g.used+partsOf s.size
   ·rw [if_pos e]
    have:=hall (i - g.used) (by omega);rw [show g.used+(i - g.used)=i by omega] at this;exact this
   ·rw [if_neg e]
    rcases hnow i hi with e1 | e1
    ·exact e1
    ·exact absurd ⟨e1.1,e1.2.1⟩ e
  ·have hrow:rowOf g.epoch 0 (rs++[(s.data.toList,g.salt+1)])=rowOf g.epoch 0 rs++cutG s.data.toList g.epoch (g.salt+1) g.last:=by
    rw [rowOf_snoc,← h.last]
   have hp':some p ∈ (rowOf g.epoch 0 rs++cutG s.data.toList g.epoch (g.salt+1) g.last).map some++R.drop (partsOf s.size):=by rw [← hrow];exact hp
   rcases List.mem_append.1 hp' with e | e
   ·obtain ⟨q,hq,e⟩:=List.mem_map.1 e
    injection e with e;subst e;rcases List.mem_append.1 hq with e | e
    ·exact .inl (List.mem_append_left _ (List.mem_map.2 ⟨q,e,rfl⟩))
    ·obtain ⟨i,hi,rfl⟩:=List.mem_iff_getElem.1 e
     exact .inr (cutG_get _ _ _ _ i hi).1
   ·exact .inl (List.mem_append_right _ (List.mem_of_mem_drop e))
 ·have hM:∃M:List (Option Lp),M.length=R.length∧∀i (hi:i<R.length),(M[i]? = some R[i]∧d2.now (g.from_+(g.used+i))=d.now (g.from_+(g.used+i))) ∨
   (i<partsOf s.size∧M[i]? = (cutG s.data.toList g.epoch (g.salt+1) g.last)[i]?.map some∧d2.now (g.from_+(g.used+i))=(secsG g s.data.toList).getD i ByteArray.empty):=by
   refine ⟨(List.range R.length).map fun i=>if d2.now (g.from_+(g.used+i))=d.now (g.from_+(g.used+i)) then R.getD i none else (cutG s.data.toList g.epoch (g.salt+1) g.last)[i]?,by simp,fun i hi=>?_⟩;rw [List.getElem?_map,List.getElem?_range hi,Option.map_some];by_cases e:d2.now (g.from_+(g.used+i))=d.now (g.from_+(g.used+i))
   ·refine .inl ⟨?_,e⟩
    rw [if_pos e,List.getD_eq_getElem?_getD,List.getElem?_eq_getElem hi];rfl
   ·rcases hnow (g.used+i) (by omega) with e1 | e1
    ·exact absurd e1 e
    ·refine .inr ⟨by omega,?_,?_⟩
     ·rw [if_neg e,List.getElem?_eq_getElem (by omega)]
      rfl
     ·rw [e1.2.2,Nat.add_sub_cancel_left]
  obtain ⟨M,hMl,hMi⟩:=hM;have hsec:∀i (hi:i<partsOf s.size),(secsG g s.data.toList).getD i ByteArray.empty=((cutG s.data.toList g.epoch (g.salt+1) g.last)[i]'(by omega)).sec:=by
   intro i hi;have hsl:=secsG_len g s.data.toList;rw [hl64] at hsl;rw [List.getD_eq_getElem?_getD,List.getElem?_eq_getElem (by omega)];simp [secsG]
  have hRs:∀p,some p ∈ (rowOf g.epoch 0 rs).map some++R→p.salt≤g.salt:=fun p hp=>by rw [h.salt];exact saltL_mem hp
  have hcut:∀p ∈ cutG s.data.toList g.epoch (g.salt+1) g.last,p.salt=g.salt+1∧p.ahead=g.last:=by
   intro p hp;obtain ⟨i,hi,rfl⟩:=List.mem_iff_getElem.1 hp;obtain ⟨c1,c2,c3,c4⟩:=cutG_get _ _ _ _ i hi;exact ⟨c2,c3⟩
  have hMm:∀p,some p ∈ M→some p ∈ R∨p ∈ cutG s.data.toList g.epoch (g.salt+1) g.last:=by
   intro p hp;obtain ⟨i,hi,hp⟩:=List.mem_iff_getElem.1 hp;rcases hMi i (by omega) with e | e
   ·rw [List.getElem?_eq_getElem hi,hp] at e
    exact .inl (by rw [Option.some.inj e.1];exact List.getElem_mem _)
   ·have e2:=e.2.1
    rw [List.getElem?_eq_getElem hi,hp,List.getElem?_eq_getElem (by omega)] at e2;simp only [Option.map_some,Option.some.injEq] at e2;exact .inr (by rw [e2];exact List.getElem_mem _)
  have hge:g.salt≤saltL ((rowOf g.epoch 0 rs).map some++M):=by
   rw [h.salt];refine saltL_le fun p hp=>?_
   have hps:=hRs p hp;rcases List.mem_append.1 hp with e | e
   ·exact saltL_mem (List.mem_append_left _ e)
   ·obtain ⟨i,hi,hp'⟩:=List.mem_iff_getElem.1 e
    rcases hMi i hi with e1 | e1
    ·refine saltL_mem (List.mem_append_right _ ?_)
     rw [← hp'];exact List.mem_of_getElem? e1.1
    ·have e2:=e1.2.1
     rw [List.getElem?_eq_getElem (by omega:i<(cutG s.data.toList g.epoch (g.salt+1) g.last).length),Option.map_some] at e2;have h1:=saltL_mem (L:=(rowOf g.epoch 0 rs).map some++M) (List.mem_append_right _ (List.mem_of_getElem? e2));have h2:=(hcut _ (List.getElem_mem (by omega:i<(cutG s.data.toList g.epoch (g.salt+1) g.last).length))).1;omega
  have hMs:saltL ((rowOf g.epoch 0 rs).map some++M)≤g.salt+1:=by
   refine saltL_le fun p hp=>?_
   rcases List.mem_append.1 hp with e | e
   ·have:=hRs p (List.mem_append_left _ e);omega
   ·rcases hMm p e with e | e
    ·have:=hRs p (List.mem_append_right _ e);omega
    ·have:=(hcut p e).1;omega
  have hrl:((rowOf g.epoch 0 rs).map some:List (Option Lp)).length=g.used:=by rw [List.length_map,hused]
  refine ⟨{ g with salt:=saltL ((rowOf g.epoch 0 rs).map some++M) },rs,M,⟨hf2,ho2,hw2,by rw [hl2];exact h.room,h.pos,h.epoch0,h.epoch,⟨fun i hi=>?_,fun p hp=>?_⟩,?_,h.recs,h.used,h.last,rfl,fun p hp=>?_,h.small,h.broken,?_⟩,⟨rfl,rfl,rfl,hMs⟩,.inl ⟨rfl,rfl⟩,fun p hp=>?_⟩
  ·have hi2:i<g.used+R.length:=by
    rw [List.length_append,hrl,hMl] at hi;exact hi
   show d2.now (g.from_+i)=secO ((rowOf g.epoch 0 rs).map some++M)[i];by_cases e1:i<g.used
   ·rcases hnow i (by omega) with e | e
    ·rw [e,h.cells.cell i (by rw [List.length_append];omega),List.getElem_append_left (by omega),List.getElem_append_left (by omega)]
    ·omega
   ·have e3:g.used+(i - g.used)=i:=by omega
    rw [List.getElem_append_right (by omega)];simp only [hrl];rcases hMi (i - g.used) (by omega) with e | e
    ·rw [e3] at e
     rw [e.2,h.cells.cell i (by rw [List.length_append];omega),List.getElem_append_right (by omega)];have e4:=e.1;rw [List.getElem?_eq_getElem (by omega)] at e4;rw [Option.some.inj e4];simp only [hrl]
    ·rw [e3] at e
     have e4:=e.2.1;rw [List.getElem?_eq_getElem (by omega),List.getElem?_eq_getElem (by omega),Option.map_some] at e4;rw [e.2.2,hsec _ e.1,Option.some.inj e4];rfl
  ·rcases List.mem_append.1 hp with e | e
   ·exact h.cells.ok p (List.mem_append_left _ e)
   ·rcases hMm p e with e | e
    ·exact h.cells.ok p (List.mem_append_right _ e)
    ·exact hok p e
  ·show (rowOf g.epoch 0 rs).length+M.length=g.sectors
   omega
  ·show p.ahead≤saltL ((rowOf g.epoch 0 rs).map some++M)
   rcases List.mem_append.1 hp with e | e
   ·have:=h.aheads p (List.mem_append_left _ e);omega
   ·rcases hMm p e with e | e
    ·have:=h.aheads p (List.mem_append_right _ e);omega
    ·have:=(hcut p e).2;omega
  ·show (firstG g.epoch g.last (rowL M)).2=false
   refine mix_stop (salt:=g.salt) (k:=partsOf s.size) (t:=s.data.toList) (fun p hp=>hRs p (List.mem_append_right _ hp)) (by rw [hl64]) (fun i=>?_) h.stop (fun hno=>hall fun i hi=>?_)
   ·by_cases hi:i<R.length
    ·rcases hMi i hi with e | e
     ·exact .inl (by rw [e.1,List.getElem?_eq_getElem hi])
     ·exact .inr ⟨e.1,e.2.1⟩
    ·exact .inl (by rw [List.getElem?_eq_none (by omega),List.getElem?_eq_none (by omega)])
   ·rcases hMi i (by omega) with e | e
    ·have e1:=hno i hi
     rw [e.1,List.getElem?_eq_getElem (by omega),Option.map_some] at e1;rw [e.2,hsec i hi,h.cells.cell (g.used+i) (by rw [List.length_append];omega),List.getElem_append_right (by omega)];simp only [hrl,Nat.add_sub_cancel_left];rw [Option.some.inj e1];rfl
    ·exact e.2.2
  ·rcases List.mem_append.1 hp with e | e
   ·exact .inl (List.mem_append_left _ e)
   ·rcases hMm p e with e | e
    ·exact .inl (List.mem_append_right _ e)
    ·obtain ⟨i,hi,rfl⟩:=List.mem_iff_getElem.1 e
     exact .inr (cutG_get _ _ _ _ i hi).1
end
section
open Go Go.RowKit
def repB (c:UInt8) (n:Nat):ByteArray:=⟨(Lib.repeatL (⟨#[c]⟩:ByteArray).data.toList n).toArray⟩
theorem rep_c (c:UInt8) (n:Nat) (w:World) (hn:n≤5000) :
 Calls Tryz.prog 20 #[.string ⟨#[c]⟩,.int .i64 (n:Int)] w fun e w'=>e=.returned (.string (repB c n))∧Upd (fun _=>False) w w':=by
 refine (Tryz.strings_Repeat ⟨#[c]⟩ n w (by omega) (by show 1*n≤_;omega)).mono ?_;rintro e w' ⟨rfl,hb⟩;exact ⟨rfl,Upd.of_below hb _⟩
end
section
open Go Go.RowKit
section
variable {w0 w w':World} {p b:Nat} {d:Dk} {k:Kp}
end
end
section
open Go Go.RowKit
end
section
open Go Go.RowKit
section
variable {w0 w w':World} {p b:Nat} {d:Dk} {k:Kp} {F F':List Nat}
end
theorem holdL_true {l:List Pt} (h:(holdL l).2≠0):∃t g rest,g≠0∧t.length≤400∧l=cutL t g++rest∧holdL l=(t,g):=by
 unfold holdL at h ⊢;split at h
 ·simp at h
 ·split at h
  ·simp at h
  ·split at h
   ·rename_i h1 h2 h3
    refine ⟨textL (l.take (firstAll l)),firstGen l,l.drop (allOf (textL (l.take (firstAll l))).length),h1,by omega,by rw [h3,List.take_append_drop],?_⟩;rw [if_neg h1,if_neg h2,if_pos h3]
   ·simp at h
theorem allOf_pos (n:Nat):1≤allOf n:=by unfold allOf;omega
end
section
open Go Go.RowKit Go.Maps Go.Sort Go.Shelf Go.WideShapes
abbrev noElem:Value→Option (DataW Unit × List MemPlace):=fun _=>some (.nil,[])
end
section
open Go Go.RowKit
namespace Dk
def busy (d:Dk):List Nat:=(List.range d.lasts.length).filter fun i => !(d.at_ i).isEmpty
def choice (l:List ByteArray) (keep:List Int) (k:Nat):Nat:=if k<keep.length then (keep.getD k 0 % ((l.length:Int)+1)).toNat else 0
def keptAt (d:Dk) (keep:List Int) (k i:Nat):ByteArray:=if 0<choice (d.at_ i) keep k then (d.at_ i).getD (choice (d.at_ i) keep k - 1) ByteArray.empty else d.last i
def part (d:Dk) (keep:List Int) (j:Nat):Dk :=
 { d with lasts:=(List.range d.lasts.length).map fun i=>if i ∈ d.busy.take j then d.keptAt keep (d.busy.idxOf i) i else d.last i,waits:=(List.range d.waits.length).map fun i=>if i ∈ d.busy.take j then [] else d.at_ i }
def crash (d:Dk) (keep:List Int):Dk := { d.part keep d.busy.length with off:=false,fuse:=-1 }
theorem busy_mem {d:Dk} {i:Nat} : i ∈ d.busy↔i<d.lasts.length∧d.at_ i≠[]:=by
 unfold busy;rw [List.mem_filter,List.mem_range];simp
theorem part_at (d:Dk) (keep:List Int) (j i:Nat):(d.part keep j).at_ i=if i ∈ d.busy.take j then [] else d.at_ i:=by
 show ((List.range d.waits.length).map _).getD i []=_;rw [List.getD_eq_getElem?_getD,List.getElem?_map];by_cases hi:i<d.waits.length
 ·rw [List.getElem?_range hi];rfl
 ·rw [List.getElem?_eq_none (by simpa using hi)]
  have:d.at_ i=[]:=by unfold at_;rw [List.getD_eq_getElem?_getD,List.getElem?_eq_none (by omega)];rfl
  rw [this];split<;>rfl
theorem part_len (d:Dk) (keep:List Int) (j:Nat):(d.part keep j).lasts.length=d.lasts.length:=by simp [part]
theorem part_get (d:Dk) (keep:List Int) (j i:Nat) (hi:i<d.lasts.length):(d.part keep j).lasts[i]? = some (if i ∈ d.busy.take j then d.keptAt keep (d.busy.idxOf i) i else d.last i):=by
 show ((List.range d.lasts.length).map _)[i]? = _;rw [List.getElem?_map,List.getElem?_range hi];rfl
theorem crash_now {d:Dk} (hl:d.waits.length=d.lasts.length) (keep:List Int) (i:Nat):(d.crash keep).at_ i=[]:=by
 show (d.part keep d.busy.length).at_ i=[];rw [part_at,List.take_length];split
 ·rfl
 ·rename_i h
  rw [busy_mem] at h;by_cases hi:i<d.lasts.length
  ·apply Classical.byContradiction
   intro hc;exact h ⟨hi,hc⟩
  ·unfold at_
   rw [List.getD_eq_getElem?_getD,List.getElem?_eq_none (by omega)];rfl
theorem crash_pend {d:Dk} (h:d.wf) (keep:List Int):(d.crash keep).pend=0:=by
 unfold pend;have:∀l ∈ (d.crash keep).waits,l=[]:=by
  intro l hl;obtain ⟨i,hi,rfl⟩:=List.mem_iff_getElem.1 hl;have:=crash_now h.len keep i;unfold at_ at this;rw [List.getD_eq_getElem?_getD,List.getElem?_eq_getElem hi] at this;exact this
 generalize (d.crash keep).waits=L at *;induction L with
 | nil=>rfl
 | cons x L ih=>rw [List.map_cons,List.sum_cons,ih (fun l hl=>this l (by simp [hl])),this x (by simp)];rfl
end Dk
end
section
open Go Go.RowKit
theorem Dk.at_nil {d:Dk} (h:d.pend=0) (i:Nat):d.at_ i=[]:=List.eq_nil_of_length_eq_zero (by have:=Dk.at_len (d:=d) i;omega)
theorem Dk.now_last {d:Dk} (h:d.pend=0) (i:Nat):d.now i=d.last i:=by
 unfold Dk.now;rw [Dk.at_nil h];rfl
end
section
open Go Go.RowKit
namespace Dk
theorem choice_lt {l:List ByteArray} {keep:List Int} {k:Nat} (hc:0<choice l keep k):choice l keep k - 1<l.length:=by
 unfold choice at hc ⊢;split at hc
 ·rename_i hk
  rw [if_pos hk];have h1:=Int.emod_lt_of_pos (keep.getD k 0) (show (0:Int)<(l.length:Int)+1 by omega);have h2:=Int.emod_nonneg (keep.getD k 0) (show (l.length:Int)+1≠0 by omega);omega
 ·omega
theorem crash_is {d:Dk} (hl:d.waits.length=d.lasts.length) (keep:List Int) {i:Nat} (hi:i<d.lasts.length) :
 (d.crash keep).now i=if i ∈ d.busy then d.keptAt keep (d.busy.idxOf i) i else d.last i:=by
 unfold now;rw [crash_now hl keep i];show (d.part keep d.busy.length).lasts.getD i ByteArray.empty=_;rw [List.getD_eq_getElem?_getD,part_get d keep d.busy.length i hi,List.take_length];rfl
theorem crash_in {d:Dk} (hl:d.waits.length=d.lasts.length) (keep:List Int) {i:Nat} (hi:i<d.lasts.length):(d.crash keep).now i=d.last i∨(d.crash keep).now i ∈ d.at_ i:=by
 rw [crash_is hl keep hi];split
 ·unfold keptAt
  split
  ·rename_i hc
   have hlt:=choice_lt hc;right
   rw [List.getD_eq_getElem?_getD,List.getElem?_eq_getElem hlt];exact List.getElem_mem hlt
  ·exact .inl rfl
 ·exact .inl rfl
theorem crash_waits' (d:Dk) (keep:List Int):(d.crash keep).waits.length=d.waits.length:=by
 show ((List.range d.waits.length).map _).length=_;rw [List.length_map,List.length_range]
theorem crash_len' (d:Dk) (keep:List Int):(d.crash keep).lasts.length=d.lasts.length:=part_len _ _ _
def free (d:Dk):Dk := { d with fuse:=-1,off:=false }
theorem burn_same (d:Dk):d.burn.1.free=d.free:=by
 unfold burn;split
 ·rfl
 ·split<;>rfl
theorem burn_yes {d:Dk} (h:d.burn.2=true):d.burn.1.off=d.off:=by
 unfold burn at h ⊢;split
 ·rename_i h0
  rw [if_pos h0] at h;simp at h
 ·split<;>rfl
theorem burn_not {d:Dk} (h:d.burn.2=false):d.burn.1.off=true:=by
 unfold burn at h ⊢;split
 ·rfl
 ·rename_i h0
  rw [if_neg h0] at h;split at h<;>simp at h
theorem free_push (d:Dk) (i:Nat) (b:ByteArray):(d.push i b).free=d.free.push i b:=rfl
theorem free_flush (d:Dk):d.flush.free=d.free.flush:=rfl
theorem free_off {d:Dk} (h1:d.fuse=-1) (h2:d.off=false):d.free=d:=by
 obtain ⟨a,b,c,e⟩:=d;simp only at h1 h2
 subst h1 h2;rfl
theorem write_two {d:Dk} (ho:d.off=false) {i:Nat} (hi:i<d.lasts.length) {b:ByteArray} (hb:b.size=64) :
 ((d.write (i:Int) b).2=0∧(d.write (i:Int) b).1.off=false∧(d.write (i:Int) b).1.free=d.free.push i b) ∨
 ((d.write (i:Int) b).2=14∧(d.write (i:Int) b).1.off=true∧(d.write (i:Int) b).1.free=d.free):=by
 unfold write;rw [ho,if_neg (by simp),if_pos (by simp only [there,Bool.and_eq_true,decide_eq_true_eq];omega)];cases h:d.burn.2
 ·right
  rw [if_neg (by simp)];exact ⟨rfl,burn_not h,burn_same d⟩
 ·left
  rw [if_pos rfl];refine ⟨rfl,(burn_yes h).trans ho,?_⟩;show (d.burn.1.push i b).free=_;rw [free_push,burn_same]
theorem sync_two {d:Dk} (ho:d.off=false) :
 (d.sync.2=0∧d.sync.1.off=false∧d.sync.1.free=d.free.flush)∨(d.sync.2=14∧d.sync.1.off=true∧d.sync.1.free=d.free):=by
 unfold sync;rw [ho,if_neg (by simp)];cases h:d.burn.2
 ·right
  rw [if_neg (by simp)];exact ⟨rfl,burn_not h,burn_same d⟩
 ·left
  rw [if_pos rfl];refine ⟨rfl,(burn_yes h).trans ho,?_⟩;show d.burn.1.flush.free=_;rw [free_flush,burn_same]
end Dk
end
section
open Go Go.RowKit
theorem look_s (s:ByteArray) (w:World) (hs:s.size≤9223372036854775807) :
 Calls Tryz.prog 47 #[.string s] w fun e w'=>e=.returned (.tuple #[.string (str (lookL s.data.toList).1),.int .i64 (lookL s.data.toList).2])∧Upd (fun _=>False) w w':=by
 refine (Look_c s w hs).mono ?_;rintro e w' ⟨rfl,hb⟩;exact ⟨rfl,Upd.of_below hb _⟩
end
section
open Go Go.RowKit Go.ChangeShapes Go.WideShapes Go.ChangeAt Go.Deep
section
variable {H:Type} {enc:TypeId × Value→H} {P:Program} {w:World} {base:Nat} {spare:Nat→Bool} {held:Bool}
end
def i64ok (n:Int):Prop:=-9223372036854775808≤n∧n≤9223372036854775807
theorem i64ok_of {n:Int} (h:(Lit.int .i64 n).wf=true):i64ok n:=by
 simp only [Lit.wf,Bool.and_eq_true,decide_eq_true_eq] at h;have h1:IntKind.i64.min=-9223372036854775808:=rfl;have h2:IntKind.i64.max=9223372036854775807:=rfl;unfold i64ok;omega
theorem add_plain2 (b off i:Nat):(⟨b,off,none⟩:Addr).add i=⟨b,off+i,none⟩:=by unfold Addr.add;simp
theorem pick_list {β : Type} (Q:Nat → β → Prop) (n:Nat) (h:∀i,i<n→∃r,Q i r):∃l:List β,l.length=n∧∀i (hi:i<l.length),Q i l[i]:=by
 induction n with
 | zero=>exact ⟨[],rfl,fun i hi=>absurd hi (by simp)⟩
 | succ n ih =>
   obtain ⟨l,h1,h2⟩:=ih (fun i hi=>h i (by omega));obtain ⟨r,hr⟩:=h n (by omega);refine ⟨l++[r],by simp [h1],fun i hi=>?_⟩;by_cases hil:i<l.length
   ·rw [List.getElem_append_left hil]
    exact h2 i hil
   ·have:i=n:=by simp at hi;omega
    subst this;rw [List.getElem_append_right (by omega)];simpa [h1] using hr
section
variable {H:Type} {enc:TypeId × Value→H} {w:World} {base:Nat} {spare:Nat→Bool} {held:Bool}
end
end
section
open Go Go.RowKit
theorem fresh_now (n j:Nat) (hj:j<n):(Dk.fresh n).now j=zeros64:=by
 unfold Dk.now Dk.at_ Dk.last Dk.fresh;simp only [List.getD_eq_getElem?_getD,List.getElem?_replicate];rw [if_pos hj,if_pos hj];rfl
theorem fresh_pend (n:Nat):(Dk.fresh n).pend=0:=by
 unfold Dk.pend Dk.fresh;simp
end
section
open Go Go.RowKit
theorem writeB_two {d:Dk} (ho:d.off=false) (hw:d.waits.length=d.lasts.length) (a:Nat) (l:List ByteArray) (hs:∀q ∈ l,q.size=64) (j:Nat) (hj:j≤l.length) (ha:a+j≤d.lasts.length) :
 ((writeB d a l j).2=0∧(writeB d a l j).1.off=false∧(writeB d a l j).1.free=(writeB d.free a l j).1) ∨
 ((writeB d a l j).2=14∧(writeB d a l j).1.off=true∧∃k,k≤j∧(writeB d a l j).1.free=(writeB d.free a l k).1):=by
 induction j with
 | zero=>exact .inl ⟨rfl,ho,rfl⟩
 | succ j ih =>
   rcases ih (by omega) (by omega) with ⟨i1,i2,i3⟩ | ⟨i1,i2,k,i3,i4⟩
   ·have hq:(l.getD j ByteArray.empty).size=64:=by
     rw [List.getD_eq_getElem?_getD,List.getElem?_eq_getElem (by omega)];exact hs _ (List.getElem_mem _)
    obtain ⟨s1,s2,s3⟩:=writeB_same d a l hw j;obtain ⟨f1,f2,f3,f4⟩:=writeB_free (d:=d.free) rfl rfl hw a l hs j (by omega) (show a+j≤d.lasts.length by omega);have hfree:(writeB d.free a l (j+1)).1=(writeB d.free a l j).1.push (a+j) (l.getD j ByteArray.empty):=by
     obtain ⟨g1,-⟩:=writeB_same d.free a l hw j;rw [writeB,if_neg (by rw [f1];simp),Dk.write_free f2 f3 (i:=a+j) (by rw [g1];show a+j<d.lasts.length;omega) hq]
    rw [writeB,if_neg (by rw [i1];simp)]
    rcases Dk.write_two i2 (i:=a+j) (by rw [s1];omega) hq with ⟨t1,t2,t3⟩ | ⟨t1,t2,t3⟩
    ·exact .inl ⟨t1,t2,by rw [t3,i3,hfree]⟩
    ·exact .inr ⟨t1,t2,j,by omega,by rw [t3,i3]⟩
   ·rw [writeB,if_pos (by rw [i1];simp)]
    exact .inr ⟨i1,i2,k,by omega,i4⟩
theorem writeB_at {d:Dk} (h:d.fuse=-1) (ho:d.off=false) (hw:d.waits.length=d.lasts.length) (h0:d.pend=0) (a:Nat) (l:List ByteArray) (hs:∀q ∈ l,q.size=64) (j:Nat) (hj:j≤l.length) (ha:a+j≤d.lasts.length) (i:Nat) :
 (writeB d a l j).1.at_ i=if a≤i∧i<a+j then [l.getD (i - a) ByteArray.empty] else []:=by
 induction j with
 | zero=>rw [if_neg (by omega)];exact Dk.at_nil h0 i
 | succ j ih =>
   obtain ⟨f1,f2,f3,f4⟩:=writeB_free h ho hw a l hs j (by omega) (by omega);obtain ⟨s1,s2,s3⟩:=writeB_same d a l hw j;have hq:(l.getD j ByteArray.empty).size=64:=by
    rw [List.getD_eq_getElem?_getD,List.getElem?_eq_getElem (by omega)];exact hs _ (List.getElem_mem _)
   have ih':=ih (by omega) (by omega);rw [writeB,if_neg (by rw [f1];simp),Dk.write_free f2 f3 (i:=a+j) (by rw [s1];omega) hq,push_at _ _ (by rw [s2,hw];omega)];by_cases e:i=a+j
   ·subst e
    rw [if_pos rfl,if_pos (by omega),ih',if_neg (by omega),Nat.add_sub_cancel_left];rfl
   ·rw [if_neg e,ih']
    by_cases e2:a≤i∧i<a+j
    ·rw [if_pos e2,if_pos (by omega)]
    ·rw [if_neg e2,if_neg (by omega)]
theorem torn_now {d D:Dk} (hw:d.waits.length=d.lasts.length) (h0:d.pend=0) (a:Nat) (l:List ByteArray) (hs:∀q ∈ l,q.size=64) (k:Nat) (hk:k≤l.length) (ha:a+k≤d.lasts.length) (hD:D.free=(writeB d.free a l k).1) (keep:List Int) (i:Nat) (hi:i<d.lasts.length) :
 (D.crash keep).now i=d.now i∨(a≤i∧i<a+k∧(D.crash keep).now i=l.getD (i - a) ByteArray.empty):=by
 obtain ⟨s1,s2,s3⟩:=writeB_same d.free a l hw k;have hl:D.lasts=d.lasts:=(congrArg Dk.lasts hD).trans s1;have hlw:D.waits.length=d.waits.length:=(congrArg (fun x:Dk=>x.waits.length) hD).trans s2;have hat:D.at_ i=if a≤i∧i<a+k then [l.getD (i - a) ByteArray.empty] else []:=by
  rw [← writeB_at (d:=d.free) rfl rfl hw h0 a l hs k hk ha i,← hD];rfl
 have hlast:D.last i=d.now i:=by rw [Dk.now_last h0 i,Dk.last,Dk.last,hl]
 rcases Dk.crash_in (d:=D) (by rw [hlw,hl,hw]) keep (i:=i) (by rw [hl];exact hi) with e | e
 ·exact .inl (e.trans hlast)
 ·rw [hat] at e
  by_cases c:a≤i∧i<a+k
  ·rw [if_pos c,List.mem_singleton] at e
   exact .inr ⟨c.1,c.2,e⟩
  ·rw [if_neg c] at e
   simp at e
end
section
open Go Go.RowKit
section
variable {d:Dk} {g:Lg} {n ep:Nat} {hv:List ByteArray} {cut:Bool} {torn:ByteArray} {salt:Nat}
end
end
section
open Go Go.RowKit
def secP:Option Pt→ByteArray
 | none=>zeros64
 | some p=>p.sec
structure SlotG (d:Dk) (a:Nat) (L:List (Option Pt)):Prop where
 len:L.length=10
 cell:∀i (h:i<L.length),d.now (a+i)=secP L[i]
 ok:∀p,some p ∈ L→p.ok
def rowP:List (Option Pt)→List Pt
 | some p::r=>p::rowP r
 | _=>[]
def genP (L:List (Option Pt)) (s:Nat):Nat:=L.foldl (fun m o=>max m (o.elim 0 Pt.gen)) s
theorem rowP_some (A:List (Option Pt)) (p:Pt):rowP (A++[some p])=if A.all Option.isSome then rowP A++[p] else rowP A:=by
 induction A with
 | nil=>rfl
 | cons x A ih =>
   cases x with
   | none=>rfl
   | some q =>
     simp only [List.cons_append,rowP,ih,List.all_cons,Option.isSome_some,Bool.true_and];split<;>rfl
theorem rowP_none (A:List (Option Pt)):rowP (A++[none])=rowP A:=by
 induction A with
 | nil=>rfl
 | cons x A ih =>
   cases x with
   | none=>rfl
   | some q=>simp only [List.cons_append,rowP,ih]
theorem rowP_map (l:List Pt) (R:List (Option Pt)):rowP (l.map some++R)=l++rowP R:=by
 induction l with
 | nil=>rfl
 | cons p l ih=>simp only [List.map_cons,List.cons_append,rowP,ih]
theorem rowP_mem {L:List (Option Pt)} {p:Pt} (h:p ∈ rowP L):some p ∈ L:=by
 induction L with
 | nil=>simp [rowP] at h
 | cons x L ih =>
   cases x with
   | none=>simp [rowP] at h
   | some q =>
     simp only [rowP,List.mem_cons] at h;rcases h with rfl | h
     ·simp
     ·exact List.mem_cons_of_mem _ (ih h)
theorem rowP_get {L:List (Option Pt)} {i:Nat} (h:i<(rowP L).length):L[i]? = some (some (rowP L)[i]):=by
 induction L generalizing i with
 | nil=>simp [rowP] at h
 | cons x L ih =>
   cases x with
   | none=>simp [rowP] at h
   | some q =>
     cases i with
     | zero=>simp [rowP]
     | succ i =>
       simp only [rowP,List.length_cons] at h;have:=ih (i:=i) (by omega);simpa [rowP] using this
theorem rowP_prefix {A B:List (Option Pt)} {n:Nat} (h:∀i,i<n→A[i]? = B[i]?) (hn:n≤(rowP A).length):n≤(rowP B).length∧(rowP A).take n=(rowP B).take n:=by
 induction n generalizing A B with
 | zero=>simp
 | succ n ih =>
   cases A with
   | nil=>simp [rowP] at hn
   | cons x A =>
     cases x with
     | none=>simp [rowP] at hn
     | some p =>
       have h0:=h 0 (by omega);cases B with
       | nil=>simp at h0
       | cons y B =>
         simp only [List.getElem?_cons_zero,Option.some.injEq] at h0;subst h0;simp only [rowP,List.length_cons] at hn;have:=ih (A:=A) (B:=B) (fun i hi=>by simpa using h (i+1) (by omega)) (by omega);simp only [rowP,List.length_cons,List.take_succ_cons];exact ⟨by omega,by rw [this.2]⟩
theorem genP_ge (L:List (Option Pt)) (s:Nat):s≤genP L s:=by
 unfold genP;induction L generalizing s with
 | nil=>exact Nat.le_refl _
 | cons x L ih=>exact Nat.le_trans (Nat.le_max_left _ _) (ih _)
theorem genP_mem {L:List (Option Pt)} {p:Pt} (h:some p ∈ L) (s:Nat):p.gen≤genP L s:=by
 unfold genP;induction L generalizing s with
 | nil=>simp at h
 | cons x L ih =>
   rcases List.mem_cons.1 h with rfl | h
   ·exact Nat.le_trans (Nat.le_max_right _ _) (genP_ge L _)
   ·exact ih h _
theorem genP_le {L:List (Option Pt)} {m:Nat} (h:∀p,some p ∈ L→p.gen≤m) (s:Nat) (hs:s≤m):genP L s≤m:=by
 unfold genP;induction L generalizing s with
 | nil=>exact hs
 | cons x L ih =>
   refine ih (fun p hp=>h p (by simp [hp])) _ ?_;cases x with
   | none=>simpa using hs
   | some q=>exact Nat.max_le.2 ⟨hs,h q (by simp)⟩
theorem slotAt_g {d:Dk} {a:Nat} {L:List (Option Pt)} (h:SlotG d a L) (seen k:Nat) (hk:k≤10):slotAt d a seen k=⟨rowP (L.take k),(L.take k).all Option.isSome,genP (L.take k) seen,false⟩:=by
 induction k with
 | zero=>rfl
 | succ k ih =>
   have hlt:k<L.length:=by rw [h.len];omega
   rw [slotAt_succ,ih (by omega),slotStep,if_neg (by simp),h.cell k hlt,List.take_succ_eq_append_getElem hlt];have hmem:L[k] ∈ L:=List.getElem_mem hlt;cases hx:L[k] with
   | none =>
     rw [show secP none=zeros64 from rfl,look_zeros,if_neg (by decide),if_neg (by decide),rowP_none];simp [genP]
   | some p =>
     have hok:=h.ok p (hx ▸ hmem);rw [show secP (some p)=p.sec from rfl,look_sec p hok,if_neg (by simp),if_pos rfl,readL_body p hok.gen' hok.number hok.all hok.text,rowP_some];simp [genP]
def two (f:Nat) (L0 L1:List (Option Pt)):Kp :=
 if (holdL (rowP L0)).2<(holdL (rowP L1)).2 then ⟨f,(holdL (rowP L1)).1,(holdL (rowP L1)).2,1,genP L1 (genP L0 0),false⟩
 else if 0<(holdL (rowP L0)).2 then ⟨f,(holdL (rowP L0)).1,(holdL (rowP L0)).2,0,genP L1 (genP L0 0),false⟩
 else ⟨f,[],0,1,genP L1 (genP L0 0),false⟩
theorem openStep_g {d:Dk} {n:Nat} {k:Kp} {L:List (Option Pt)} (h:SlotG d (k.from_+n*10) L) :
 openStep d n k=some (if k.gen<(holdL (rowP L)).2 then { k with seen:=genP L k.seen,text:=(holdL (rowP L)).1,gen:=(holdL (rowP L)).2,at_:=n } else { k with seen:=genP L k.seen }):=by
 have hs:=slotAt_g h k.seen 10 (by omega);rw [List.take_of_length_le (by rw [h.len];omega)] at hs;rw [openStep,hs,if_neg (by simp)]
theorem open_g {d:Dk} {f:Nat} {L0 L1:List (Option Pt)} (h0:SlotG d f L0) (h1:SlotG d (f+10) L1):openN d f 2=some (two f L0 L1):=by
 have e0:openN d f 1=openStep d 0 ⟨f,[],0,1,0,false⟩:=rfl;rw [openStep_g (L:=L0) (by simpa using h0)] at e0;rw [openN,e0,Option.bind_some];unfold two;by_cases c0:0<(holdL (rowP L0)).2
 ·rw [if_pos c0,openStep_g (L:=L1) (by simpa using h1)]
  by_cases c1:(holdL (rowP L0)).2<(holdL (rowP L1)).2
  ·rw [if_pos c1,if_pos c1]
  ·rw [if_neg c1,if_neg c1,if_pos c0]
 ·rw [if_neg c0,openStep_g (L:=L1) (by simpa using h1)]
  have e:(holdL (rowP L0)).2=0:=by omega
  rw [e];by_cases c1:0<(holdL (rowP L1)).2
  ·rw [if_pos c1,if_pos c1]
  ·rw [if_neg c1,if_neg c1,if_neg (by omega)]
theorem mix_hold {g k:Nat} {R M:List (Option Pt)} {t:List UInt8} (hR:∀p,some p ∈ R→p.gen<g) (hk:k=allOf t.length)
 (hM:∀i,M[i]? = R[i]? ∨ (i<k∧M[i]? = (cutL t g)[i]?.map some)) (hno:¬ ∀i,i<k→M[i]? = (cutL t g)[i]?.map some):(holdL (rowP M)).2≤(holdL (rowP R)).2:=by
 by_cases h0:(holdL (rowP M)).2=0
 ·omega
 ·obtain ⟨t',s',rest,hs0,ht',hrow,hh⟩:=holdL_true h0
  have hn':=allOf_pos t'.length;have hcl:=cutL_len t' s';have hlen:allOf t'.length≤(rowP M).length:=by rw [hrow,List.length_append,hcl];omega
  have hget:∀(i:Nat) (h:i<allOf t'.length),M[i]? = some (some ((cutL t' s')[i]'(by rw [hcl];exact h))):=by
   intro i h;rw [rowP_get (by omega)];simp only [hrow];rw [List.getElem_append_left (by rw [hcl];exact h)]
  have hold:∀(i:Nat) (p:Pt),M[i]? = R[i]? → M[i]? = some (some p)→p.gen<g:=by
   intro i p h1 h2;rw [h1] at h2;exact hR p (List.mem_of_getElem? h2)
  have hnew:∀(i:Nat) (p:Pt),(i<k∧M[i]? = (cutL t g)[i]?.map some)→M[i]? = some (some p)→p.gen=g∧p.all=k:=by
   intro i p h1 h2;rw [h1.2,List.getElem?_eq_getElem (by rw [cutL_len];omega)] at h2;simp only [Option.map_some,Option.some.injEq] at h2;obtain ⟨c1,c2,c3,c4⟩:=cutL_get t g i (by rw [cutL_len];omega);rw [h2] at c1 c3;exact ⟨c1,by omega⟩
  have hcut:∀(i:Nat) (h:i<allOf t'.length),((cutL t' s')[i]'(by rw [hcl];exact h)).gen=s'∧((cutL t' s')[i]'(by rw [hcl];exact h)).all=allOf t'.length:=by
   intro i h;obtain ⟨c1,c2,c3,c4⟩:=cutL_get t' s' i (by rw [hcl];exact h);exact ⟨c1,c3⟩
  by_cases hs:s'=g
  ·exfalso
   have all_new:∀i:Nat,i<allOf t'.length→i<k∧M[i]? = (cutL t g)[i]?.map some:=by
    intro i h;rcases hM i with e1 | e1
    ·have:=hold i _ e1 (hget i h)
     have:=(hcut i h).1;omega
    ·exact e1
   have h0:=hnew 0 _ (all_new 0 (by omega)) (hget 0 (by omega));have h1:=(hcut 0 (by omega)).2;exact hno fun i hi=>(all_new i (by omega)).2
  ·have all_old:∀i:Nat,i<allOf t'.length→M[i]? = R[i]? := by
    intro i h;rcases hM i with e1 | e1
    ·exact e1
    ·have h1:=(hnew i _ e1 (hget i h)).1
     have h2:=(hcut i h).1;omega
   obtain ⟨p1,p2⟩:=rowP_prefix all_old hlen;have hR2:rowP R=cutL t' s'++(rowP R).drop (allOf t'.length):=by
    have e1:(rowP M).take (allOf t'.length)=cutL t' s':=by rw [hrow,List.take_left' hcl]
    rw [← e1,p2,List.take_append_drop]
   rw [hh,hR2,holdL_cut _ _ _ hs0 ht'];exact Nat.le_refl _
theorem slot_mix {d d2:Dk} {a g:Nat} {L:List (Option Pt)} {t:List UInt8} (h:SlotG d a L) (hg:0<g) (hg2:g<18446744073709551616) (ht:t.length≤400)
 (hn:∀i,i<10→d2.now (a+i)=d.now (a+i)∨(i<allOf t.length∧d2.now (a+i)=((cutL t g).map Pt.sec).getD i ByteArray.empty)) :
 ∃ M,SlotG d2 a M∧(∀i,M[i]? = L[i]? ∨ (i<allOf t.length∧M[i]? = (cutL t g)[i]?.map some)) ∧
  ((∀i,i<allOf t.length→d2.now (a+i)=((cutL t g).map Pt.sec).getD i ByteArray.empty)↔(∀i,i<allOf t.length→M[i]? = (cutL t g)[i]?.map some)):=by
 classical
 have e64:(2:Nat) ^ (8*8)=18446744073709551616:=by decide
 have hok:=cutL_ok t g hg (by omega) ht;have hcl:=cutL_len t g;have hall:allOf t.length≤9:=by unfold allOf;omega
 have hsec:∀i (hi:i<allOf t.length),((cutL t g).map Pt.sec).getD i ByteArray.empty=((cutL t g)[i]'(by omega)).sec:=by
  intro i hi;rw [List.getD_eq_getElem?_getD,List.getElem?_map,List.getElem?_eq_getElem (by omega)];rfl
 have hl:=h.len;have hMi:∀i,i<10→((List.range 10).map fun i=>if i<allOf t.length∧d2.now (a+i)=((cutL t g).map Pt.sec).getD i ByteArray.empty then (cutL t g)[i]? else L.getD i none)[i]? =
  some (if i<allOf t.length∧d2.now (a+i)=((cutL t g).map Pt.sec).getD i ByteArray.empty then (cutL t g)[i]? else L.getD i none):=by
  intro i hi;rw [List.getElem?_map,List.getElem?_range hi,Option.map_some]
 refine ⟨(List.range 10).map fun i=>if i<allOf t.length∧d2.now (a+i)=((cutL t g).map Pt.sec).getD i ByteArray.empty then (cutL t g)[i]? else L.getD i none,⟨by simp,fun i hi=>?_,fun p hp=>?_⟩,fun i=>?_,⟨fun hnew i hi=>?_,fun hM i hi=>?_⟩⟩
 ·have hi2:i<10:=by simpa using hi
  rw [List.getElem_map,List.getElem_range];by_cases c:i<allOf t.length∧d2.now (a+i)=((cutL t g).map Pt.sec).getD i ByteArray.empty
  ·rw [if_pos c,List.getElem?_eq_getElem (by omega),c.2,hsec i c.1]
   rfl
  ·rw [if_neg c]
   rcases hn i hi2 with e | e
   ·rw [e,h.cell i (by omega),List.getD_eq_getElem?_getD,List.getElem?_eq_getElem (by omega)]
    rfl
   ·exact absurd e c
 ·obtain ⟨i,hi,e⟩:=List.mem_iff_getElem.1 hp
  have hi2:i<10:=by simpa using hi
  rw [List.getElem_map,List.getElem_range] at e;by_cases c:i<allOf t.length∧d2.now (a+i)=((cutL t g).map Pt.sec).getD i ByteArray.empty
  ·rw [if_pos c] at e
   exact hok p (List.mem_of_getElem? e)
  ·rw [if_neg c,List.getD_eq_getElem?_getD,List.getElem?_eq_getElem (by omega),Option.getD_some] at e
   exact h.ok p (by rw [← e];exact List.getElem_mem _)
 ·by_cases hi:i<10
  ·rw [hMi i hi]
   by_cases c:i<allOf t.length∧d2.now (a+i)=((cutL t g).map Pt.sec).getD i ByteArray.empty
   ·rw [if_pos c]
    refine .inr ⟨c.1,?_⟩;rw [List.getElem?_eq_getElem (by omega)];rfl
   ·rw [if_neg c,List.getD_eq_getElem?_getD,List.getElem?_eq_getElem (by omega)]
    exact .inl rfl
  ·rw [List.getElem?_eq_none (by simpa using hi),List.getElem?_eq_none (by omega)]
   exact .inl rfl
 ·rw [hMi i (by omega),if_pos ⟨hi,hnew i hi⟩,List.getElem?_eq_getElem (by omega)]
  rfl
 ·by_cases c:d2.now (a+i)=((cutL t g).map Pt.sec).getD i ByteArray.empty
  ·exact c
  ·have h1:=hM i hi
   rw [hMi i (by omega),if_neg (fun e=>c e.2),List.getD_eq_getElem?_getD,List.getElem?_eq_getElem (by omega),List.getElem?_eq_getElem (by omega)] at h1;simp only [Option.getD_some,Option.map_some,Option.some.injEq] at h1;rcases hn i (by omega) with e | e
   ·rw [e,h.cell i (by omega),h1,hsec i hi]
    rfl
   ·exact e.2
theorem slot_same {d d2:Dk} {a:Nat} {L:List (Option Pt)} (h:SlotG d a L) (hn:∀i,i<10→d2.now (a+i)=d.now (a+i)):SlotG d2 a L :=
 ⟨h.len,fun i hi=>by rw [hn i (by have:=h.len;omega)];exact h.cell i hi,h.ok⟩
theorem hold_all {g:Nat} {M:List (Option Pt)} {t:List UInt8} (hg:0<g) (ht:t.length≤400) (hM:∀i,i<allOf t.length→M[i]? = (cutL t g)[i]?.map some):holdL (rowP M)=(t,g):=by
 have hcl:=cutL_len t g;have e:M=(cutL t g).map some++M.drop (allOf t.length):=by
  refine List.ext_getElem? fun i=>?_
  by_cases hi:i<allOf t.length
  ·rw [hM i hi,List.getElem?_append_left (by rw [List.length_map];omega),List.getElem?_map]
  ·rw [List.getElem?_append_right (by rw [List.length_map];omega),List.getElem?_drop,List.length_map,hcl]
   congr 1
   omega
 rw [e,rowP_map,holdL_cut t g _ (by omega) ht]
structure KeptG (d:Dk) (k:Kp) (L0 L1:List (Option Pt)):Prop where
 fuse:d.fuse=-1
 off:d.off=false
 waits:d.waits.length=d.lasts.length
 room:k.from_+20≤d.lasts.length
 s0:SlotG d k.from_ L0
 s1:SlotG d (k.from_+10) L1
 is:two k.from_ L0 L1=k
section
variable {d d2:Dk} {k:Kp} {L0 L1:List (Option Pt)}
theorem KeptG.opens (h:KeptG d k L0 L1):openN d k.from_ 2=some k:=by rw [open_g h.s0 h.s1,h.is]
theorem two_facts (f:Nat) (L0 L1:List (Option Pt)):(two f L0 L1).from_=f∧(two f L0 L1).seen=genP L1 (genP L0 0)∧(two f L0 L1).at_≤1∧(two f L0 L1).broken=false:=by
 unfold two;split
 ·exact ⟨rfl,rfl,by simp,rfl⟩
 ·split
  ·exact ⟨rfl,rfl,by simp,rfl⟩
  ·exact ⟨rfl,rfl,by simp,rfl⟩
theorem KeptG.seen (h:KeptG d k L0 L1):k.seen=genP L1 (genP L0 0):=by
 have:=(two_facts k.from_ L0 L1).2.1;rw [h.is] at this;exact this
theorem KeptG.at_ (h:KeptG d k L0 L1):k.at_≤1:=by
 have:=(two_facts k.from_ L0 L1).2.2.1;rw [h.is] at this;exact this
theorem KeptG.broken (h:KeptG d k L0 L1):k.broken=false:=by
 have:=(two_facts k.from_ L0 L1).2.2.2;rw [h.is] at this;exact this
theorem KeptG.gen0 (h:KeptG d k L0 L1):∀p,some p ∈ L0→p.gen≤k.seen:=fun p hp=>by
 rw [h.seen];exact Nat.le_trans (genP_mem hp 0) (genP_ge _ _)
theorem KeptG.gen1 (h:KeptG d k L0 L1):∀p,some p ∈ L1→p.gen≤k.seen:=fun p hp=>by
 rw [h.seen];exact genP_mem hp _
theorem KeptG.mix (h:KeptG d k L0 L1) (t:List UInt8) (ht:t.length≤400) (hs:k.seen+1<18446744073709551616)
 (hf:d2.fuse=-1) (ho:d2.off=false) (hw:d2.waits.length=d2.lasts.length) (hl:d2.lasts.length=d.lasts.length)
 (hn:∀i,i<d.lasts.length→d2.now i=d.now i∨(k.from_+(1 - k.at_)*10≤i∧i<k.from_+(1 - k.at_)*10+allOf t.length∧d2.now i=((cutL t (k.seen+1)).map Pt.sec).getD (i - (k.from_+(1 - k.at_)*10)) ByteArray.empty)) :
 ∃ k' L0' L1',KeptG d2 k' L0' L1'∧k'.from_=k.from_∧k'.seen≤k.seen+1∧(k'=k.put t∨(k'.text=k.text∧k'.gen=k.gen)) ∧
  ((∀i,i<allOf t.length→d2.now (k.from_+(1 - k.at_)*10+i)=((cutL t (k.seen+1)).map Pt.sec).getD i ByteArray.empty)→k'=k.put t):=by
 have hat:=h.at_;have hroom:=h.room;have hall:allOf t.length≤9:=by unfold allOf;omega
 have hall1:=allOf_pos t.length;have hg0:=h.gen0;have hg1:=h.gen1;have hseen:=h.seen;have hh0:(holdL (rowP L0)).2≤k.seen:=holdL_le fun p hp=>hg0 p (rowP_mem hp)
 have hh1:(holdL (rowP L1)).2≤k.seen:=holdL_le fun p hp=>hg1 p (rowP_mem hp)
 have hcl:=cutL_len t (k.seen+1)
 -- the gens of a mixed slot
 have hgm:∀ {L M:List (Option Pt)},(∀p,some p ∈ L→p.gen≤k.seen)→(∀i,M[i]? = L[i]? ∨ (i<allOf t.length∧M[i]? = (cutL t (k.seen+1))[i]?.map some))→∀p,some p ∈ M→p.gen≤k.seen+1:=by
  intro L M hL hM p hp;obtain ⟨i,hi,e⟩:=List.mem_iff_getElem.1 hp;have e2:M[i]? = some (some p):=by rw [List.getElem?_eq_getElem hi,e]
  rcases hM i with e1 | ⟨e0,e1⟩
  ·rw [e1] at e2
   have:=hL p (List.mem_of_getElem? e2);omega
  ·rw [e1,List.getElem?_eq_getElem (by omega)] at e2
   simp only [Option.map_some,Option.some.injEq] at e2;have:=(cutL_get t (k.seen+1) i (by omega)).1;rw [e2] at this;omega
 have hfull:∀ {M:List (Option Pt)},(∀i,i<allOf t.length→M[i]? = (cutL t (k.seen+1))[i]?.map some)→∃p,some p ∈ M∧p.gen=k.seen+1:=by
  intro M hM;have h0:=hM 0 (by omega);rw [List.getElem?_eq_getElem (by omega:0<(cutL t (k.seen+1)).length),Option.map_some] at h0;exact ⟨_,List.mem_of_getElem? h0,(cutL_get t (k.seen+1) 0 (by omega)).1⟩
 have hcase:k.at_=1∨k.at_=0:=by omega
 rcases hcase with e | e
 ·-- slot 0 is written
  have ea:k.from_+(1 - k.at_)*10=k.from_:=by rw [e];rfl
  rw [ea] at hn ⊢;obtain ⟨M,m1,m2,m3⟩:=slot_mix (d2:=d2) h.s0 (g:=k.seen+1) (t:=t) (by omega) hs ht (fun i hi=>by
   rcases hn (k.from_+i) (by omega) with c | ⟨c1,c2,c3⟩
   ·exact .inl c
   ·exact .inr ⟨by omega,by rw [c3];congr 1;omega⟩)
  have s1:SlotG d2 (k.from_+10) L1:=slot_same h.s1 fun i hi=>by
   rcases hn (k.from_+10+i) (by omega) with c | ⟨c1,c2,c3⟩
   ·exact c
   ·omega
  have hgM:=hgm hg0 m2;have hS:genP L1 (genP M 0)≤k.seen+1:=genP_le (fun p hp=>by have:=hg1 p hp;omega) _ (genP_le hgM _ (Nat.zero_le _));have tf:=two_facts k.from_ M L1;have hput:(∀i,i<allOf t.length→M[i]? = (cutL t (k.seen+1))[i]?.map some)→two k.from_ M L1=k.put t:=by
   intro hM;have hh:=hold_all (by omega) ht hM;obtain ⟨p,hp,hpg⟩:=hfull hM;have h1:=genP_mem hp 0;have h2:=genP_ge L1 (genP M 0);have hS2:genP L1 (genP M 0)=k.seen+1:=by omega
   unfold two Kp.put;rw [hh,if_neg (by show ¬k.seen+1<_;omega),if_pos (by show 0<k.seen+1;omega),hS2,e]
  refine ⟨two k.from_ M L1,M,L1,⟨hf,ho,hw,by rw [hl,tf.1];exact hroom,by rw [tf.1];exact m1,by rw [tf.1];exact s1,by rw [tf.1]⟩,tf.1,by rw [tf.2.1];exact hS,?_,fun hx=>hput (m3.1 hx)⟩;by_cases hM:∀i,i<allOf t.length→M[i]? = (cutL t (k.seen+1))[i]?.map some
  ·exact .inl (hput hM)
  ·right
   have hle:=mix_hold (fun p hp=>by have:=hg0 p hp;omega) rfl m2 hM;have his:=h.is;unfold two at his ⊢;by_cases c1:(holdL (rowP L0)).2<(holdL (rowP L1)).2
   ·rw [if_pos c1] at his
    rw [if_pos (by omega)];rw [← his];exact ⟨rfl,rfl⟩
   ·rw [if_neg c1] at his
    by_cases c2:0<(holdL (rowP L0)).2
    ·rw [if_pos c2] at his
     rw [← his] at e;simp at e
    ·rw [if_neg c2] at his
     rw [if_neg (by omega),if_neg (by omega),← his];exact ⟨rfl,rfl⟩
 ·-- slot 1 is written
  have ea:k.from_+(1 - k.at_)*10=k.from_+10:=by rw [e]
  rw [ea] at hn ⊢;obtain ⟨M,m1,m2,m3⟩:=slot_mix (d2:=d2) h.s1 (g:=k.seen+1) (t:=t) (by omega) hs ht (fun i hi=>by
   rcases hn (k.from_+10+i) (by omega) with c | ⟨c1,c2,c3⟩
   ·exact .inl c
   ·exact .inr ⟨by omega,by rw [c3];congr 1;omega⟩)
  have s0:SlotG d2 k.from_ L0:=slot_same h.s0 fun i hi=>by
   rcases hn (k.from_+i) (by omega) with c | ⟨c1,c2,c3⟩
   ·exact c
   ·omega
  have hgM:=hgm hg1 m2;have hS:genP M (genP L0 0)≤k.seen+1:=genP_le hgM _ (genP_le (fun p hp=>by have:=hg0 p hp;omega) _ (Nat.zero_le _));have tf:=two_facts k.from_ L0 M;have hput:(∀i,i<allOf t.length→M[i]? = (cutL t (k.seen+1))[i]?.map some)→two k.from_ L0 M=k.put t:=by
   intro hM;have hh:=hold_all (by omega) ht hM;obtain ⟨p,hp,hpg⟩:=hfull hM;have h1:=genP_mem hp (genP L0 0);have hS2:genP M (genP L0 0)=k.seen+1:=by omega
   unfold two Kp.put;rw [hh,if_pos (by show _<k.seen+1;omega),hS2,e]
  refine ⟨two k.from_ L0 M,L0,M,⟨hf,ho,hw,by rw [hl,tf.1];exact hroom,by rw [tf.1];exact s0,by rw [tf.1];exact m1,by rw [tf.1]⟩,tf.1,by rw [tf.2.1];exact hS,?_,fun hx=>hput (m3.1 hx)⟩;by_cases hM:∀i,i<allOf t.length→M[i]? = (cutL t (k.seen+1))[i]?.map some
  ·exact .inl (hput hM)
  ·right
   have hle:=mix_hold (fun p hp=>by have:=hg1 p hp;omega) rfl m2 hM;have his:=h.is;unfold two at his ⊢;by_cases c1:(holdL (rowP L0)).2<(holdL (rowP L1)).2
   ·rw [if_pos c1] at his
    rw [← his] at e;simp at e
   ·rw [if_neg c1] at his
    by_cases c2:0<(holdL (rowP L0)).2
    ·rw [if_pos c2] at his
     rw [if_neg (by omega),if_pos c2,← his];exact ⟨rfl,rfl⟩
    ·rw [if_neg c2] at his
     rw [← his] at e;simp at e
end
theorem fresh_g (n f:Nat) (h:f+20≤n):KeptG (Dk.fresh n) ⟨f,[],0,1,0,false⟩ (List.replicate 10 none) (List.replicate 10 none):=by
 have hno:∀p:Pt,some p ∉ List.replicate 10 (none:Option Pt):=fun p hp=>by have:=List.eq_of_mem_replicate hp;simp at this
 have hz:∀a,a+10≤n→SlotG (Dk.fresh n) a (List.replicate 10 none):=by
  intro a ha;refine ⟨by simp,fun i hi=>?_,fun p hp=>absurd hp (hno p)⟩;have e:(Dk.fresh n).now (a+i)=zeros64:=by
   have hi':i<10:=by simpa using hi
   unfold Dk.now Dk.at_ Dk.last Dk.fresh;simp only [List.getD_eq_getElem?_getD,List.getElem?_replicate];rw [if_pos (by omega),if_pos (by omega)];rfl
  rw [e,List.getElem_replicate];rfl
 exact ⟨rfl,rfl,by simp [Dk.fresh],by simpa [Dk.fresh] using h,hz f (by omega),hz (f+10) (by omega),rfl⟩
theorem writeN_B (d:Dk) (a:Nat) (l:List Pt) (j:Nat) (hj:j≤l.length):writeN d a l j=writeB d a (l.map Pt.sec) j:=by
 induction j with
 | zero=>rfl
 | succ j ih =>
   rw [writeN,writeB,ih (by omega)];have e:(l.getD j ⟨0,0,0,[]⟩).sec=(l.map Pt.sec).getD j ByteArray.empty:=by
    rw [List.getD_eq_getElem?_getD,List.getD_eq_getElem?_getD,List.getElem?_map,List.getElem?_eq_getElem (by omega)];rfl
   rw [e]
section
variable {d:Dk} {k:Kp} {f:Nat} {last torn:List UInt8} {is cut:Bool} {seen:Nat}
end
end
section
open Go Go.RowKit
section
variable {w0 w w':World} {p b:Nat} {d d':Dk} {g:Lg} {X:Nat→Prop} {n ep salt:Nat} {hv:List ByteArray} {cut:Bool} {torn:ByteArray}
end
section
variable {w0 w w':World} {p b f seen:Nat} {d d':Dk} {k:Kp} {last torn:List UInt8} {is cut:Bool} {L0 L1:List (Option Pt)}
end
end
end Go.Proofs.YtbhjgfibhegddaaGreat
