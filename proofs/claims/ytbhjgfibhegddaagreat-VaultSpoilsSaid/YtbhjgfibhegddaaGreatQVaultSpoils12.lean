/-
  Parts of the proof of VaultSpoils: LogLaw, Rep, LawB, Turn, Iter, Keys, DiskH, DiskI, Free.
-/
import Derived.Test.YtbhjgfibhegddaaGreatQVaultSpoils11
import Derived.Ground.GgzProg
import Derived.Ground.SlgmProg
import Derived.Shelf.SlIterI.Nil
import Derived.Shelf.SortM.Plain
import Derived.Shelf.SortM.SortNone
import Derived.Test.YtbhjgfibhegddaaGreatProg
set_option maxRecDepth 100000
set_option maxHeartbeats 16000000
namespace Go.Proofs.YtbhjgfibhegddaaGreat
section
open Go Go.RowKit
structure Lp.ok (p:Lp):Prop where
 epoch0:0<p.epoch
 epoch:p.epoch<2 ^ (8*8)
 salt:p.salt<2 ^ (8*8)
 ahead:p.ahead<2 ^ (8*8)
 number:p.number<256
 all:p.all<256
 text:p.text.length≤32
 all0:0<p.all
theorem readG_body (p:Lp) (h:p.ok):readG p.body=(p,true):=by
 obtain ⟨e,s,a,n,al,t⟩:=p;obtain ⟨h0,he,hs,ha,hn,hal,ht,-⟩:=h;simp only at h0 he hs ha hn hal ht
 have hb:Lp.body ⟨e,s,a,n,al,t⟩=leB e 8++(leB s 8++(leB a 8++([UInt8.ofNat n,UInt8.ofNat al,UInt8.ofNat t.length,0]++(t++List.replicate (32 - t.length) 0)))):=by simp [Lp.body]
 generalize Lp.body ⟨e,s,a,n,al,t⟩=B at *;have d0:B.take 8=leB e 8:=by rw [hb,List.take_left' (leB_len _ _)]
 have d8:B.drop 8=leB s 8++(leB a 8++([UInt8.ofNat n,UInt8.ofNat al,UInt8.ofNat t.length,0]++(t++List.replicate (32 - t.length) 0))):=by rw [hb,List.drop_left' (leB_len _ _)]
 have d16:B.drop 16=leB a 8++([UInt8.ofNat n,UInt8.ofNat al,UInt8.ofNat t.length,0]++(t++List.replicate (32 - t.length) 0)):=by
  rw [show B.drop 16=(B.drop 8).drop 8 by rw [List.drop_drop],d8,List.drop_left' (leB_len _ _)]
 have d24:B.drop 24=[UInt8.ofNat n,UInt8.ofNat al,UInt8.ofNat t.length,0]++(t++List.replicate (32 - t.length) 0):=by
  rw [show B.drop 24=(B.drop 16).drop 8 by rw [List.drop_drop],d16,List.drop_left' (leB_len _ _)]
 have hg:∀i,B.getD (24+i) 0=([UInt8.ofNat n,UInt8.ofNat al,UInt8.ofNat t.length,0]++(t++List.replicate (32 - t.length) 0)).getD i 0:=by
  intro i;rw [List.getD_eq_getElem?_getD,List.getD_eq_getElem?_getD,← d24,List.getElem?_drop]
 have g24:B.getD 24 0=UInt8.ofNat n:=hg 0;have g25:B.getD 25 0=UInt8.ofNat al:=hg 1;have g26:B.getD 26 0=UInt8.ofNat t.length:=hg 2;have g27:B.getD 27 0=0:=hg 3;have hdr:∀i,B.drop (28+i)=(t++List.replicate (32 - t.length) 0).drop i:=by
  intro i;rw [show B.drop (28+i)=((B.drop 24).drop 4).drop i by rw [List.drop_drop,List.drop_drop,← Nat.add_assoc],d24];rfl
 have hu:∀x,x<256→(UInt8.ofNat x).toNat=x:=fun x hx=>by simp;omega
 have e0:=hdr 0;rw [Nat.add_zero] at e0;rw [readG,g24,g25,g26,g27,hu n hn,hu al hal,hu t.length oM,if_neg oM,d0,d8,d16,List.take_left' (leB_len _ _),List.take_left' (leB_len _ _),leN_leB _ _ he,leN_leB _ _ hs,leN_leB _ _ ha,e0,hdr t.length];simp
theorem bodyG_ne (p:Lp) (h:p.ok):p.body≠List.replicate 60 0:=by
 intro e;have h1:=readG_body p h;rw [e] at h1;have h2:(readG (List.replicate 60 0)).1.epoch=p.epoch:=by rw [h1]
 have h3:(readG (List.replicate 60 0)).1.epoch=0:=dC;have:=h.epoch0;omega
theorem look_secG (p : Lp) (h : p.ok) : lookL p.sec.data.toList=(p.body,1):=by
 have e:p.sec.data.toList=closeL p.body:=by simp [Lp.sec,str]
 rw [e]
 exact lookL_closeL _ (p.body_len h.text) (bodyG_ne p h) (by have:=sumN_lt p.body;have e2:(2:Nat) ^ (8*4)=4294967296:=dC
                                                             omega)
theorem secG_size (p:Lp) (h:p.ok):p.sec.size=64:=by
 rw [Lp.sec,str_size,closeL,List.length_append,p.body_len h.text,leB_len]
theorem partsOf_pos (n:Nat):1≤partsOf n:=by unfold partsOf;omega
theorem cutG_ok (t:List UInt8) (e s a:Nat) (h0:0<e) (he:e<2 ^ (8*8)) (hs:s<2 ^ (8*8)) (ha:a<2 ^ (8*8)) (ht:t.length≤1024):∀p ∈ cutG t e s a,p.ok:=by
 intro p hp;obtain ⟨i,hi,rfl⟩:=List.mem_iff_getElem.1 hp;obtain ⟨c1,c2,c3,c4,c5,c6⟩:=cutG_get t e s a i hi;rw [cutG_len] at hi;have hn:partsOf t.length≤32:=by unfold partsOf;omega
 have hn1:=partsOf_pos t.length;exact ⟨oM,oM,oM,oM,oM,oM,c6,oM⟩
theorem cutG_cons (t:List UInt8) (e s a:Nat):∃p r,cutG t e s a=p::r∧p.epoch=e∧p.salt=s∧p.ahead=a∧p.all=partsOf t.length:=by
 have hn:0<(cutG t e s a).length:=by rw [cutG_len];exact partsOf_pos _
 obtain ⟨c1,c2,c3,c4,c5,c6⟩:=cutG_get t e s a 0 hn;cases h:cutG t e s a with
 | nil=>rw [h] at hn;simp at hn
 | cons p r =>
   simp only [h,List.getElem_cons_zero] at c1 c2 c3 c5;exact ⟨p,r,rfl,c1,c2,c3,c5⟩
def secO:Option Lp→ByteArray
 | none=>zeros64
 | some p=>p.sec
structure CellsIs (d:Dk) (a:Nat) (L:List (Option Lp)):Prop where
 cell:∀i (h:i<L.length),d.now (a+i)=secO L[i]
 ok:∀p,some p ∈ L→p.ok
def rowL:List (Option Lp)→List Lp
 | some p::r=>p::rowL r
 | _=>[]
def saltL (L:List (Option Lp)):Nat:=L.foldl (fun m o=>max m (o.elim 0 Lp.salt)) 0
theorem rowL_some (A:List (Option Lp)) (p:Lp):rowL (A++[some p])=if A.all Option.isSome then rowL A++[p] else rowL A:=by
 induction A with
 | nil=>rfl
 | cons x A ih =>
   cases x with
   | none=>rfl
   | some q =>
     simp only [List.cons_append,rowL,ih,List.all_cons,Option.isSome_some,Bool.true_and];split<;>rfl
theorem rowL_none (A:List (Option Lp)):rowL (A++[none])=rowL A:=by
 induction A with
 | nil=>rfl
 | cons x A ih =>
   cases x with
   | none=>rfl
   | some q=>simp only [List.cons_append,rowL,ih]
theorem rowL_map (l:List Lp) (R:List (Option Lp)):rowL (l.map some++R)=l++rowL R:=by
 induction l with
 | nil=>rfl
 | cons p l ih=>simp only [List.map_cons,List.cons_append,rowL,ih]
theorem rowL_mem {L:List (Option Lp)} {p:Lp} (h:p ∈ rowL L):some p ∈ L:=by
 induction L with
 | nil=>simp [rowL] at h
 | cons x L ih =>
   cases x with
   | none=>simp [rowL] at h
   | some q =>
     simp only [rowL,List.mem_cons] at h;rcases h with rfl | h
     ·simp
     ·exact List.mem_cons_of_mem _ (ih h)
theorem foldSalt_ge (L:List (Option Lp)) (s:Nat):s≤L.foldl (fun m o=>max m (o.elim 0 Lp.salt)) s:=by
 induction L generalizing s with
 | nil=>exact Nat.le_refl _
 | cons x L ih=>exact Nat.le_trans (Nat.le_max_left _ _) (ih _)
theorem foldSalt_mem {L:List (Option Lp)} {p:Lp} (h:some p ∈ L) (s:Nat):p.salt≤L.foldl (fun m o=>max m (o.elim 0 Lp.salt)) s:=by
 induction L generalizing s with
 | nil=>simp at h
 | cons x L ih =>
   rcases List.mem_cons.1 h with rfl | h
   ·exact Nat.le_trans (Nat.le_max_right _ _) (foldSalt_ge L _)
   ·exact ih h _
theorem foldSalt_le {L:List (Option Lp)} {m:Nat} (h:∀p,some p ∈ L→p.salt≤m) (s:Nat) (hs:s≤m):L.foldl (fun m o=>max m (o.elim 0 Lp.salt)) s≤m:=by
 induction L generalizing s with
 | nil=>exact hs
 | cons x L ih =>
   refine ih (fun p hp=>h p (by simp [hp])) _ ?_;cases x with
   | none=>simpa using hs
   | some q=>exact Nat.max_le.2 ⟨hs,h q sM⟩
theorem saltL_mem {L:List (Option Lp)} {p:Lp} (h:some p ∈ L):p.salt≤saltL L:=foldSalt_mem h 0
theorem saltL_le {L:List (Option Lp)} {m:Nat} (h:∀p,some p ∈ L→p.salt≤m):saltL L≤m:=foldSalt_le h 0 (Nat.zero_le _)
theorem look_zeros:lookL zeros64.data.toList=([],0):=by
 unfold lookL;rw [if_neg (by simp [zeros64,str]),if_pos (by rfl)]
theorem scanAt_is {d:Dk} {a:Nat} {L:List (Option Lp)} (h:CellsIs d a L) (k:Nat) (hk:k≤L.length):scanAt d a k=⟨rowL (L.take k),(L.take k).all Option.isSome,saltL (L.take k),false⟩:=by
 induction k with
 | zero=>rfl
 | succ k ih =>
   have hlt:k<L.length:=oM;rw [scanAt_succ,ih oM,scanStep,if_neg sM,h.cell k hlt,List.take_succ_eq_append_getElem hlt];have hmem:L[k] ∈ L:=List.getElem_mem hlt;cases hx:L[k] with
   | none =>
     rw [show secO none=zeros64 from rfl,look_zeros,if_neg dC,if_neg dC,rowL_none];simp [saltL]
   | some p =>
     have hok:=h.ok p (hx ▸ hmem);rw [show secO (some p)=p.sec from rfl,look_secG p hok,if_neg sM,if_pos rfl,readG_body p hok,rowL_some];simp [saltL]
theorem chunks32 (t:List UInt8) (n:Nat):((List.range n).flatMap fun i=>(t.drop (32*i)).take 32)=t.take (32*n):=by
 induction n with
 | zero=>simp
 | succ n ih=>rw [List.range_succ,List.flatMap_append,ih];simp [List.take_add,Nat.mul_add]
theorem textG_cut (t:List UInt8) (e s a:Nat):textG (cutG t e s a)=t:=by
 have h:=chunks32 t (partsOf t.length);rw [textG,cutG,List.flatMap_map];rw [h,List.take_of_length_le];unfold partsOf;omega
theorem firstG_cut (t:List UInt8) (e s a:Nat) (rest:List Lp) (ht:t.length≤1024):firstG e a (cutG t e s a++rest)=(t,true):=by
 obtain ⟨p,r,hc,c1,c2,c3,c4⟩:=cutG_cons t e s a;have hl:(p::r).length=partsOf t.length:=by rw [← hc,cutG_len]
 have htk:(p::(r++rest)).take (partsOf t.length)=cutG t e s a:=by
  rw [← List.cons_append,← hl,List.take_left' rfl,hc]
 have hl2:partsOf t.length≤(p::(r++rest)).length:=by
  rw [← hl];simp only [List.length_cons,List.length_append];omega
 rw [hc,List.cons_append,firstG,c4,htk,textG_cut,if_neg oM,if_neg oM,htk,c2,decide_eq_true ⟨hl2,rfl⟩]
theorem firstG_true {e a:Nat} {row:List Lp} (h:(firstG e a row).2=true):∃t s rest,t.length≤1024∧row=cutG t e s a++rest:=by
 unfold firstG at h;split at h
 ·simp at h
 ·split at h
  ·simp at h
  ·split at h
   ·simp at h
   ·rename_i p r h1 h2
    simp only [decide_eq_true_eq] at h;exact ⟨textG ((p::r).take p.all),p.salt,(p::r).drop (partsOf (textG ((p::r).take p.all)).length),oM,by rw [h.2,List.take_append_drop]⟩
theorem firstG_head {e a:Nat} {p:Lp} {r:List Lp} (h:(firstG e a (p::r)).2=true):p.epoch=e∧p.ahead=a:=by
 obtain ⟨t,s,rest,-,hr⟩:=firstG_true h;obtain ⟨q,r',hc,c1,c2,c3,c4⟩:=cutG_cons t e s a;rw [hc,List.cons_append] at hr;injection hr with h3 h4;rw [h3];exact ⟨c1,c3⟩
theorem firstG_stop {e a:Nat} {l:List Lp} (h:∀p ∈ l,p.epoch≠e∨p.ahead≠a):(firstG e a l).2=false:=by
 cases l with
 | nil=>rfl
 | cons p r =>
   cases hf:(firstG e a (p::r)).2 with
   | false=>rfl
   | true =>
     obtain ⟨h1,h2⟩:=firstG_head hf;rcases h p sM with h3 | h3
     ·exact absurd h1 h3
     ·exact absurd h2 h3
def rowOf (e:Nat):Nat→List (List UInt8 × Nat)→List Lp
 | _,[]=>[]
 | last,q::r=>cutG q.1 e q.2 last++rowOf e q.2 r
def lastOf:Nat→List (List UInt8 × Nat)→Nat
 | last,[]=>last
 | _,q::r=>lastOf q.2 r
theorem rowOf_snoc (e last:Nat) (rs:List (List UInt8 × Nat)) (q:List UInt8 × Nat):rowOf e last (rs++[q])=rowOf e last rs++cutG q.1 e q.2 (lastOf last rs):=by
 induction rs generalizing last with
 | nil=>simp [rowOf,lastOf]
 | cons x rs ih=>simp only [List.cons_append,rowOf,lastOf,ih,List.append_assoc]
theorem lastOf_snoc (last:Nat) (rs:List (List UInt8 × Nat)) (q:List UInt8 × Nat):lastOf last (rs++[q])=q.2:=by
 induction rs generalizing last with
 | nil=>rfl
 | cons x rs ih=>simp only [List.cons_append,lastOf,ih]
theorem rowOf_len (e last:Nat) (rs:List (List UInt8 × Nat)):rs.length≤(rowOf e last rs).length:=by
 induction rs generalizing last with
 | nil=>simp
 | cons x rs ih =>
   have:=ih x.2;have:=partsOf_pos x.1.length;simp only [rowOf,List.length_append,cutG_len,List.length_cons];omega
theorem lastOf_le {e last m:Nat} {rs:List (List UInt8 × Nat)} (h:∀p ∈ rowOf e last rs,p.salt≤m) (hl:last≤m):lastOf last rs≤m:=by
 induction rs generalizing last with
 | nil=>exact hl
 | cons x rs ih =>
   refine ih (fun p hp=>h p (List.mem_append_right _ hp)) ?_;obtain ⟨p,r,hc,c1,c2,c3,c4⟩:=cutG_cons x.1 e x.2 last;have:=h p (List.mem_append_left _ (by rw [hc];simp))
   omega
theorem loopG_row (rs:List (List UInt8 × Nat)) (hs:∀q ∈ rs,q.1.length≤1024) (rest:List Lp) (g:Lg) (n:Nat) (hn:rs.length<n) (hst:(firstG g.epoch (lastOf g.last rs) rest).2=false) :
 loopG n g (rowOf g.epoch g.last rs++rest) = { g with l:=g.l++rs.map (fun q=>str q.1),last:=lastOf g.last rs,used:=g.used+(rowOf g.epoch g.last rs).length } := by
 induction rs generalizing g n with
 | nil =>
   obtain ⟨m,rfl⟩:∃m,n=m+1:=⟨n - 1,oM⟩;rw [loopG,if_neg]
   ·simp [rowOf,lastOf]
   ·simpa [rowOf,lastOf] using hst
 | cons x rs ih =>
   obtain ⟨m,rfl⟩:∃m,n=m+1:=⟨n - 1,by simp at hn;omega⟩;have hx:=hs x sM;have hf:=firstG_cut x.1 g.epoch x.2 g.last (rowOf g.epoch x.2 rs++rest) hx;obtain ⟨p,r,hc,c1,c2,c3,c4⟩:=cutG_cons x.1 g.epoch x.2 g.last;have hhd:((cutG x.1 g.epoch x.2 g.last++(rowOf g.epoch x.2 rs++rest)).headD ⟨0,0,0,0,0,[]⟩).salt=x.2:=by rw [hc];exact c2
   have hdr:(cutG x.1 g.epoch x.2 g.last++(rowOf g.epoch x.2 rs++rest)).drop (partsOf x.1.length)=rowOf g.epoch x.2 rs++rest:=by
    rw [List.drop_left' (cutG_len _ _ _ _)]
   rw [loopG,rowOf,List.append_assoc,hf,if_pos rfl,hhd,hdr];have:=ih (fun q hq=>hs q (by simp [hq])) { g with l:=g.l++[str x.1],last:=x.2,used:=g.used+partsOf x.1.length } m (by simp at hn;omega) hst;rw [this];simp [lastOf,cutG_len,Nat.add_assoc]
structure LogIs (d:Dk) (g:Lg) (rs:List (List UInt8 × Nat)) (R:List (Option Lp)):Prop where
 fuse:d.fuse=-1
 off:d.off=false
 waits:d.waits.length=d.lasts.length
 room:g.from_+g.sectors≤d.lasts.length
 pos:1≤g.sectors
 epoch0:0<g.epoch
 epoch:g.epoch<18446744073709551616
 cells:CellsIs d g.from_ ((rowOf g.epoch 0 rs).map some++R)
 len:(rowOf g.epoch 0 rs).length+R.length=g.sectors
 recs:g.l=rs.map (fun q=>str q.1)
 used:g.used=(rowOf g.epoch 0 rs).length
 last:g.last=lastOf 0 rs
 salt:g.salt=saltL ((rowOf g.epoch 0 rs).map some++R)
 aheads:∀p,some p ∈ (rowOf g.epoch 0 rs).map some++R→p.ahead≤g.salt
 small:∀q ∈ rs,q.1.length≤1024
 broken:g.broken=false
 stop:(firstG g.epoch g.last (rowL R)).2=false
theorem LogIs.opens {d:Dk} {g:Lg} {rs:List (List UInt8 × Nat)} {R:List (Option Lp)} (h:LogIs d g rs R):openG d g.from_ g.sectors g.epoch=some g:=by
 have hl:((rowOf g.epoch 0 rs).map some++R).length=g.sectors:=by rw [List.length_append,List.length_map];exact h.len
 have hs:=scanAt_is h.cells g.sectors oM;rw [List.take_of_length_le oM,rowL_map,← h.salt] at hs;unfold openG;rw [hs,if_neg sM];have hlo:=loopG_row rs h.small (rowL R) ⟨g.from_,g.sectors,g.epoch,[],0,0,g.salt,false⟩ ((rowOf g.epoch 0 rs++rowL R).length+1) (by have:=rowOf_len g.epoch 0 rs;rw [List.length_append];omega) (by have:=h.stop;rw [h.last] at this;exact this);rw [hlo];congr 1
 obtain ⟨g1,g2,g3,g4,g5,g6,g7,g8⟩:=g;have e1:=h.recs;have e2:=h.used;have e3:=h.last;have e4:=h.broken;simp only at e1 e2 e3 e4 ⊢
 rw [e1,e2,e3,e4];simp
theorem LogIs.last_le {d:Dk} {g:Lg} {rs:List (List UInt8 × Nat)} {R:List (Option Lp)} (h:LogIs d g rs R):g.last≤g.salt:=by
 rw [h.last];exact lastOf_le (e:=g.epoch) (fun p hp=>by rw [h.salt];exact saltL_mem (List.mem_append_left _ (List.mem_map.2 ⟨p,hp,rfl⟩))) (Nat.zero_le _)
theorem LogIs.other {d:Dk} {g:Lg} {rs:List (List UInt8 × Nat)} {R:List (Option Lp)} (h:LogIs d g rs R) (e:Nat) (h0:0<e) (he:e<18446744073709551616) (hst:(firstG e 0 (rowL ((rowOf g.epoch 0 rs).map some++R))).2=false) :
 LogIs d ⟨g.from_,g.sectors,e,[],0,0,g.salt,false⟩ [] ((rowOf g.epoch 0 rs).map some++R) :=
 ⟨h.fuse,h.off,h.waits,h.room,h.pos,h0,he,by simpa [rowOf] using h.cells,by simpa [rowOf] using h.len,rfl,rfl,rfl,by simpa [rowOf] using h.salt,by simpa [rowOf] using h.aheads,sM,rfl,hst⟩
theorem fresh_log (n f m e:Nat) (h:f+m≤n) (hm:1≤m) (h0:0<e) (he:e<18446744073709551616):LogIs (Dk.fresh n) ⟨f,m,e,[],0,0,0,false⟩ [] (List.replicate m none):=by
 have hno:∀p:Lp,some p ∉ List.replicate m (none:Option Lp):=fun p hp=>by have:=List.eq_of_mem_replicate hp;simp at this
 have hrow:rowL (List.replicate m none)=[]:=by cases m<;>rfl
 refine ⟨rfl,rfl,by simp [Dk.fresh],by simpa [Dk.fresh] using h,hm,h0,he,⟨fun i hi=>?_,fun p hp=>absurd hp (hno p)⟩,by simp [rowOf],rfl,rfl,rfl,?_,fun p hp=>absurd hp (hno p),sM,rfl,by rw [hrow];rfl⟩
 ·have e:(Dk.fresh n).now (f+i)=zeros64:=by
   have hi':i<m:=by simpa [rowOf] using hi
   unfold Dk.now Dk.at_ Dk.last Dk.fresh;simp only [List.getD_eq_getElem?_getD,List.getElem?_replicate];rw [if_pos oM,if_pos oM];rfl
  simp [rowOf,e,secO]
 ·have:saltL (List.replicate m none)≤0:=saltL_le fun p hp=>absurd hp (hno p)
  show 0=saltL (List.replicate m none);omega
theorem writeB_free {d:Dk} (h:d.fuse=-1) (ho:d.off=false) (hw:d.waits.length=d.lasts.length) (a:Nat) (l:List ByteArray) (hs:∀q ∈ l,q.size=64) (j:Nat) (hj:j≤l.length) (ha:a+j≤d.lasts.length) :
 (writeB d a l j).2=0∧(writeB d a l j).1.fuse=-1∧(writeB d a l j).1.off=false ∧
   ∀i,(writeB d a l j).1.now i=if a≤i∧i<a+j then l.getD (i - a) ByteArray.empty else d.now i:=by
 induction j with
 | zero=>exact ⟨rfl,h,ho,fun i=>by rw [if_neg oM];rfl⟩
 | succ j ih =>
   obtain ⟨i1,i2,i3,i4⟩:=ih oM oM;obtain ⟨s1,s2,s3⟩:=writeB_same d a l hw j;have hq:(l.getD j ByteArray.empty).size=64:=by
    rw [List.getD_eq_getElem?_getD,List.getElem?_eq_getElem oM];exact hs _ (List.getElem_mem _)
   have hwr:=Dk.write_free i2 i3 (i:=a+j) (by rw [s1];omega) hq;rw [writeB,if_neg (by rw [i1];simp),hwr]
   refine ⟨rfl,i2,i3,fun i=>?_⟩;rw [Dk.push_now _ _ _ _ (by rw [s2,hw];omega),i4];by_cases e:a+j=i
   ·subst e
    rw [if_pos rfl,if_pos oM,Nat.add_sub_cancel_left]
   ·rw [if_neg e]
    by_cases e2:a≤i∧i<a+j
    ·rw [if_pos e2,if_pos oM]
    ·rw [if_neg e2,if_neg oM]
def Lg.added (g:Lg) (s:ByteArray):Lg := { g with salt:=g.salt+1,last:=g.salt+1,broken:=false,l:=g.l++[s],used:=g.used+partsOf s.size }
def addD (d:Dk) (g:Lg) (s:ByteArray):Dk:=(wroteG d g s.data.toList).1.flush
theorem added_is {d d2:Dk} {g:Lg} {rs:List (List UInt8 × Nat)} {R:List (Option Lp)} (h:LogIs d g rs R) (s:ByteArray) (hs:s.size≤1024) (hr:partsOf s.size≤R.length) (hsalt:g.salt<18446744073709551615)
 (hf2:d2.fuse=-1) (ho2:d2.off=false) (hw2:d2.waits.length=d2.lasts.length) (hl2:d2.lasts.length=d.lasts.length)
 (hnow:∀i,i<g.sectors→d2.now (g.from_+i)=if g.used≤i∧i<g.used+partsOf s.size then (secsG g s.data.toList).getD (i - g.used) ByteArray.empty else d.now (g.from_+i)) :
 LogIs d2 (g.added s) (rs++[(s.data.toList,g.salt+1)]) (R.drop (partsOf s.size)):=by
 have hlen:=h.len;have hroom:=h.room;have hused:=h.used;have e64:(2:Nat) ^ (8*8)=18446744073709551616:=dC;have hl64:s.data.toList.length=s.size:=by simp
 have hep:=h.epoch;have hll:=h.last_le;have hok:=cutG_ok s.data.toList g.epoch (g.salt+1) g.last h.epoch0 oM oM oM oM;have hcl:=cutG_len s.data.toList g.epoch (g.salt+1) g.last;rw [hl64] at hcl;have hsl:=secsG_len g s.data.toList;rw [hl64] at hsl;have hrow:rowOf g.epoch 0 (rs++[(s.data.toList,g.salt+1)])=rowOf g.epoch 0 rs++cutG s.data.toList g.epoch (g.salt+1) g.last:=by
  rw [rowOf_snoc,← h.last]
 have hmem:∀p,some p ∈ (rowOf g.epoch 0 rs++cutG s.data.toList g.epoch (g.salt+1) g.last).map some++R.drop (partsOf s.size)→p ∈ cutG s.data.toList g.epoch (g.salt+1) g.last∨some p ∈ (rowOf g.epoch 0 rs).map some++R:=by
  intro p hp;rcases List.mem_append.1 hp with e | e
  ·obtain ⟨q,hq,e⟩:=List.mem_map.1 e
   injection e with e;subst e;rcases List.mem_append.1 hq with e | e
   ·exact .inr (List.mem_append_left _ (List.mem_map.2 ⟨q,e,rfl⟩))
   ·exact .inl e
  ·exact .inr (List.mem_append_right _ (List.mem_of_mem_drop e))
 have hcut:∀p ∈ cutG s.data.toList g.epoch (g.salt+1) g.last,p.salt=g.salt+1∧p.ahead=g.last:=by
  intro p hp;obtain ⟨i,hi,rfl⟩:=List.mem_iff_getElem.1 hp;obtain ⟨c1,c2,c3,c4⟩:=cutG_get _ _ _ _ i hi;exact ⟨c2,c3⟩
 have hsal:g.salt+1=saltL ((rowOf g.epoch 0 rs++cutG s.data.toList g.epoch (g.salt+1) g.last).map some++R.drop (partsOf s.size)):=by
  apply Nat.le_antisymm
  ·obtain ⟨p,r,hc,c1,c2,c3,c4⟩:=cutG_cons s.data.toList g.epoch (g.salt+1) g.last
   have:=saltL_mem (L:=(rowOf g.epoch 0 rs++cutG s.data.toList g.epoch (g.salt+1) g.last).map some++R.drop (partsOf s.size)) (p:=p) (List.mem_append_left _ (List.mem_map.2 ⟨p,List.mem_append_right _ (by rw [hc];simp),rfl⟩))
   omega
  ·refine saltL_le fun p hp=>?_
   rcases hmem p hp with e | e
   ·have:=(hcut p e).1;omega
   ·have:=saltL_mem e
    rw [← h.salt] at this;omega
 have hah:∀p,some p ∈ (rowOf g.epoch 0 rs++cutG s.data.toList g.epoch (g.salt+1) g.last).map some++R.drop (partsOf s.size)→p.ahead≤g.salt+1:=by
  intro p hp;rcases hmem p hp with e | e
  ·have:=(hcut p e).2;omega
  ·have:=h.aheads p e;omega
 have hrl:((rowOf g.epoch 0 rs).map some:List (Option Lp)).length=g.used:=by rw [List.length_map,hused]
 have hepo:(g.added s).epoch=g.epoch:=rfl;have hfr:(g.added s).from_=g.from_:=rfl;refine ⟨hf2,ho2,hw2,by rw [hl2];exact hroom,h.pos,h.epoch0,hep,⟨fun i hi=>?_,fun p hp=>?_⟩,?_,?_,?_,?_,?_,?_,?_,rfl,?_⟩
 ·have hi2:i<g.used+partsOf s.size+(R.length - partsOf s.size):=by
   rw [hepo,hrow,List.length_append,List.length_map,List.length_append,hcl,List.length_drop,← hused] at hi;exact hi
  rw [hfr,hnow i oM];have hL:((rowOf (g.added s).epoch 0 (rs++[(s.data.toList,g.salt+1)])).map some++R.drop (partsOf s.size))=(rowOf g.epoch 0 rs).map some++((cutG s.data.toList g.epoch (g.salt+1) g.last).map some++R.drop (partsOf s.size)):=by
   rw [hepo,hrow,List.map_append,List.append_assoc]
  simp only [hL];by_cases e1:i<g.used
  ·rw [if_neg oM,h.cells.cell i (by rw [List.length_append];omega),List.getElem_append_left oM,List.getElem_append_left oM]
  ·by_cases e2:i<g.used+partsOf s.size
   ·rw [if_pos oM,List.getElem_append_right oM]
    rw [List.getElem_append_left (by simp only [List.length_map];omega),List.getD_eq_getElem?_getD,List.getElem?_eq_getElem oM];simp only [secsG,List.getElem_map,Option.getD_some,secO,hrl]
   ·rw [if_neg oM,h.cells.cell i (by rw [List.length_append];omega),List.getElem_append_right oM,List.getElem_append_right oM]
    rw [List.getElem_append_right (by simp only [List.length_map];omega)];simp only [List.getElem_drop,List.length_map,hcl,← hused];congr 2
    omega
 ·rw [hepo,hrow] at hp
  rcases hmem p hp with e | e
  ·exact hok p e
  ·exact h.cells.ok p e
 ·show (rowOf g.epoch 0 _).length+_=g.sectors
  rw [hrow,List.length_append,hcl,List.length_drop];omega
 ·show g.l++[s]=_
  rw [List.map_append,h.recs];rfl
 ·show g.used+partsOf s.size=(rowOf g.epoch 0 _).length
  rw [hrow,List.length_append,hcl,hused]
 ·show g.salt+1=_
  rw [lastOf_snoc]
 ·show g.salt+1=saltL ((rowOf g.epoch 0 _).map some++_)
  rw [hrow];exact hsal
 ·intro p hp
  show p.ahead≤g.salt+1;rw [hepo,hrow] at hp;exact hah p hp
 ·intro q hq
  rcases List.mem_append.1 hq with e | e
  ·exact h.small q e
  ·rw [List.mem_singleton.1 e,hl64];exact hs
 ·show (firstG g.epoch (g.salt+1) _).2=false
  refine firstG_stop fun p hp=>.inr ?_
  have:=h.aheads p (List.mem_append_right _ (List.mem_of_mem_drop (rowL_mem hp)));omega
theorem add_is {d:Dk} {g:Lg} {rs:List (List UInt8 × Nat)} {R:List (Option Lp)} (h:LogIs d g rs R) (s:ByteArray) (hs:s.size≤1024) (hr:partsOf s.size≤R.length) (hsalt:g.salt<18446744073709551615) :
 addG d g s=(addD d g s,g.added s,0)∧LogIs (addD d g s) (g.added s) (rs++[(s.data.toList,g.salt+1)]) (R.drop (partsOf s.size))∧(addD d g s).lasts.length=d.lasts.length∧(addD d g s).pend=0 ∧
  ∀i,i<d.lasts.length→(i<g.from_∨g.from_+g.sectors≤i)→(addD d g s).now i=d.now i:=by
 have hlen:=h.len;have hroom:=h.room;have hused:=h.used;have e64:(2:Nat) ^ (8*8)=18446744073709551616:=dC;have hl64:s.data.toList.length=s.size:=by simp
 have hep:=h.epoch;have hll:=h.last_le;have hok:=cutG_ok s.data.toList g.epoch (g.salt+1) g.last h.epoch0 oM oM oM oM;have hsl:=secsG_len g s.data.toList;rw [hl64] at hsl;have hsz:∀q ∈ secsG g s.data.toList,q.size=64:=by
  intro q hq;obtain ⟨p,hp,rfl⟩:=List.mem_map.1 hq;exact secG_size p (hok p hp)
 obtain ⟨w1,w2,w3,w4⟩:=writeB_free h.fuse h.off h.waits (g.from_+g.used) (secsG g s.data.toList) hsz (partsOf s.size) oM oM;obtain ⟨s1,s2,s3⟩:=writeB_same d (g.from_+g.used) (secsG g s.data.toList) h.waits (partsOf s.size);have hwg:wroteG d g s.data.toList=writeB d (g.from_+g.used) (secsG g s.data.toList) (partsOf s.size):=by rw [wroteG,hl64]
 have hD:addD d g s=(writeB d (g.from_+g.used) (secsG g s.data.toList) (partsOf s.size)).1.flush:=by rw [addD,hwg]
 have hlasts:(addD d g s).lasts.length=d.lasts.length:=by
  rw [hD];show ((List.range _).map _).length=_;rw [List.length_map,List.length_range,s1]
 have hwaits:(addD d g s).waits.length=(addD d g s).lasts.length:=by
  rw [hlasts,hD];show (List.map _ _).length=_;rw [List.length_map,s2,h.waits]
 have hnow:∀i,i<d.lasts.length→(addD d g s).now i=if g.from_+g.used≤i∧i<g.from_+g.used+partsOf s.size then (secsG g s.data.toList).getD (i - (g.from_+g.used)) ByteArray.empty else d.now i:=by
  intro i hi;rw [hD,Dk.flush_now _ _ (by rw [s1];exact hi),w4]
 refine ⟨?_,added_is h s hs hr hsalt (by rw [hD];exact w2) (by rw [hD];exact w3) hwaits hlasts (fun i hi=>?_),hlasts,by rw [hD];exact Dk.flush_pend _,fun i hi ho=>?_⟩
 ·unfold addG
  rw [h.broken,if_neg sM,if_neg oM,if_neg oM,hwg,if_neg (by rw [w1];simp),Dk.sync_free w2 w3,if_neg sM,hD]
  rfl
 ·rw [hnow _ oM,Nat.add_sub_add_left]
  by_cases e:g.used≤i∧i<g.used+partsOf s.size
  ·rw [if_pos oM,if_pos e]
  ·rw [if_neg oM,if_neg e]
 ·rw [hnow i hi,if_neg oM]
theorem LogIs.used_le {d:Dk} {g:Lg} {rs:List (List UInt8 × Nat)} {R:List (Option Lp)} (h:LogIs d g rs R):g.used+R.length=g.sectors:=by rw [h.used];exact h.len
def repB (c:UInt8) (n:Nat):ByteArray:=⟨(Lib.repeatL (⟨#[c]⟩:ByteArray).data.toList n).toArray⟩
theorem rep_c (c:UInt8) (n:Nat) (w:World) (hn:n≤5000) :
 Calls Tryz.prog 20 #[.string ⟨#[c]⟩,.int .i64 (n:Int)] w fun e w'=>e=.returned (.string (repB c n))∧Upd (fun _=>False) w w':=by
 refine (Tryz.strings_Repeat ⟨#[c]⟩ n w oM (by show 1*n≤_;omega)).mono ?_;rintro e w' ⟨rfl,hb⟩;exact ⟨rfl,Upd.of_below hb _⟩
section
variable {w0 w w':World} {p b:Nat} {d:Dk} {k:Kp}
end
section
variable {w0 w w':World} {p b:Nat} {d:Dk} {k:Kp} {F F':List Nat}
end
theorem holdL_true {l:List Pt} (h:(holdL l).2≠0):∃t g rest,g≠0∧t.length≤400∧l=cutL t g++rest∧holdL l=(t,g):=by
 unfold holdL at h ⊢;split at h
 ·simp at h
 ·split at h
  ·simp at h
  ·split at h
   ·rename_i h1 h2 h3
    refine ⟨textL (l.take (firstAll l)),firstGen l,l.drop (allOf (textL (l.take (firstAll l))).length),h1,oM,by rw [h3,List.take_append_drop],?_⟩;rw [if_neg h1,if_neg h2,if_pos h3]
   ·simp at h
theorem allOf_pos (n:Nat):1≤allOf n:=by unfold allOf;omega
theorem mul_xor (n a b:Nat):2 ^ n*(a ^^^ b)=(2 ^ n*a) ^^^ (2 ^ n*b):=by
 have h:=Nat.shiftLeft_xor_distrib (a:=a) (b:=b) (i:=n);simpa [Nat.shiftLeft_eq,Nat.mul_comm] using h
theorem leN_app_xor (a b:List UInt8):leN (a++b)=leN a ^^^ (2 ^ (8*a.length)*leN b):=by
 induction a with
 | nil=>simp [leN]
 | cons y a ih =>
   have e:2 ^ 8*(2 ^ (8*a.length)*leN b)=2 ^ (8*(a.length+1))*leN b:=by
    rw [← Nat.mul_assoc,← Nat.pow_add];congr 2
    omega
   rw [List.cons_append,leN_xor,ih,mul_xor,e,leN_xor,List.length_cons,Nat.xor_assoc]
theorem leN_set (l:List UInt8) (j:Nat) (c:UInt8) (hj:j<l.length):leN (l.set j (l.getD j 0 ^^^ c))=leN l ^^^ (2 ^ (8*j)*c.toNat):=by
 have hg:l.getD j 0=l[j]:=by rw [List.getD_eq_getElem?_getD,List.getElem?_eq_getElem hj];rfl
 have hl:l=l.take j++l[j]::l.drop (j+1):=by
  rw [← List.drop_eq_getElem_cons hj,List.take_append_drop]
 have htl:(l.take j).length=j:=by rw [List.length_take];omega
 have h1:leN l=leN (l.take j) ^^^ (2 ^ (8*j)*(l[j].toNat ^^^ (2 ^ 8*leN (l.drop (j+1))))):=by
  have h:=leN_app_xor (l.take j) (l[j]::l.drop (j+1));rw [← hl,htl,leN_xor] at h;exact h
 have h2:leN (l.set j (l[j] ^^^ c))=leN (l.take j) ^^^ (2 ^ (8*j)*((l[j] ^^^ c).toNat ^^^ (2 ^ 8*leN (l.drop (j+1))))):=by
  rw [List.set_eq_take_append_cons_drop,if_pos hj,leN_app_xor,htl,leN_xor]
 rw [hg,h2,h1,UInt8.toNat_xor];simp only [mul_xor];simp only [Nat.xor_comm,xor_lc]
def turnK (l:List UInt8) (a:Nat) (x:List UInt8):Nat→List UInt8
 | 0=>l
 | k+1=>(turnK l a x k).set (a+k) ((turnK l a x k).getD (a+k) 0 ^^^ x.getD k 0)
theorem turnK_len (l:List UInt8) (a:Nat) (x:List UInt8) (k:Nat):(turnK l a x k).length=l.length:=by
 induction k with
 | zero=>rfl
 | succ k ih=>rw [turnK,List.length_set,ih]
theorem turnK_leN (l:List UInt8) (a:Nat) (x:List UInt8) (k:Nat) (h:a+k≤l.length) (hk:k≤x.length):leN (turnK l a x k)=leN l ^^^ (2 ^ (8*a)*leN (x.take k)):=by
 induction k with
 | zero=>simp [turnK,leN]
 | succ k ih =>
   have htl:(x.take k).length=k:=by rw [List.length_take];omega
   have hg:x.getD k 0=x[k]:=by rw [List.getD_eq_getElem?_getD,List.getElem?_eq_getElem oM];rfl
   have e:2 ^ (8*a)*(2 ^ (8*k)*(x[k]'oM).toNat)=2 ^ (8*(a+k))*(x[k]'oM).toNat:=by
    rw [← Nat.mul_assoc,← Nat.pow_add,Nat.mul_add]
   have h0:leN [x[k]'oM]=(x[k]'oM).toNat:=by simp [leN]
   rw [turnK,leN_set _ _ _ (by rw [turnK_len];omega),ih oM oM,hg,List.take_succ_eq_append_getElem oM,leN_app_xor,htl,h0,mul_xor,e,Nat.xor_assoc]
theorem turn_look (s:List UInt8) (a:Nat) (x:List UInt8) (hs:(lookL s).2=1) (hx:x.length≤4) (ha:a+x.length≤64) (hne:turnK s a x x.length≠s):(lookL (turnK s a x x.length)).2≠1:=by
 intro h;have f1:=look_fits hs;have f2:=look_fits h;have hl:=turnK_leN s a x x.length (by rw [f1.1];exact ha) (Nat.le_refl _);rw [List.take_of_length_le (Nat.le_refl _)] at hl;have hlt:=leN_lt x;have hp:2 ^ (8*x.length)≤2 ^ 32:=Nat.pow_le_pow_right oM oM;have h0:=fits_burst f1 f2 (8*a) (leN x) oM oM hl;apply hne
 rw [h0,Nat.mul_zero,Nat.xor_zero] at hl;have inj:∀(a b:List UInt8),a.length=b.length→leN a=leN b→a=b:=by
  intro a;induction a with
  | nil=>intro b hb _;exact (List.eq_nil_of_length_eq_zero hb.symm).symm
  | cons y a ih =>
    intro b hb he;cases b with
    | nil=>simp at hb
    | cons z b =>
      simp only [leN] at he;have hy:=y.toNat_lt;have hz:=z.toNat_lt;have e1:y=z:=UInt8.toNat_inj.1 oM;rw [e1,ih b (by simpa using hb) oM]
 exact inj _ _ (turnK_len _ _ _ _) hl
theorem turnK_get (l:List UInt8) (a:Nat) (x:List UInt8) (k j:Nat) (h:j<a∨a+k≤j):(turnK l a x k).getD j 0=l.getD j 0:=by
 induction k with
 | zero=>rfl
 | succ k ih =>
   rw [turnK,List.getD_eq_getElem?_getD,List.getElem?_set_ne oM,← List.getD_eq_getElem?_getD,ih oM]
def Dk.spoil (d:Dk) (i at_:Int) (x:ByteArray):Dk × Int :=
 if d.there i && decide (x.size≤4∧0≤at_∧at_≤64 - x.size) then
  ({ d with lasts:=d.lasts.set i.toNat (str (turnK (d.last i.toNat).data.toList at_.toNat x.data.toList x.size)) },0)
 else (d,1)
end
end Go.Proofs.YtbhjgfibhegddaaGreat
namespace Go.Proofs
open Go.Shelf
def Tryz.keysA_ren:Go.Shelf.Ren:=⟨fun | 7=>87 | 10=>147 | n=>n,fun | 23=>149 | 26=>3 | 3=>147 | 28=>157 | 0=>0 | 27=>156 | 33=>159 | 4=>4 | n=>n,fun | n=>n⟩
theorem Tryz.keysA:Go.Proofs.SlLaysZI.n7 Tryz.prog Tryz.keysA_ren := {
 mixed:=by kernel_rfl
 f7:=⟨Tryz.f87.name,by decide,Tryz.func87.trans (congrArg some (by kernel_rfl))⟩
 f10:=⟨Tryz.f147.name,by decide,Tryz.func147.trans (congrArg some (by kernel_rfl))⟩
 t0:=Tryz.underlying0
 a0:=Tryz.isAgg0
 z0:=Tryz.sizeOf0
 v0:=Tryz.zeroValue0
 t4:=Tryz.underlying4
 a4:=Tryz.isAgg4
 z4:=Tryz.sizeOf4
 v4:=Tryz.zeroValue4
 t23:=Tryz.underlying149
 a23:=Tryz.isAgg149
 z23:=Tryz.sizeOf149
 v23:=Tryz.zeroValue149
 t26:=Tryz.underlying3
 a26:=Tryz.isAgg3
 z26:=Tryz.sizeOf3
 v26:=Tryz.zeroValue3
 t27:=Tryz.underlying156
 a27:=Tryz.isAgg156
 z27:=Tryz.sizeOf156
 v27:=Tryz.zeroValue156
 t28:=Tryz.underlying157
 a28:=Tryz.isAgg157
 z28:=Tryz.sizeOf157
 v28:=Tryz.zeroValue157
 t33:=Tryz.underlying159
 a33:=Tryz.isAgg159
 z33:=Tryz.sizeOf159
 v33:=Tryz.zeroValue159 }
def Tryz.sortedA_ren:Go.Shelf.Ren:=⟨fun | 6=>86 | 8=>145 | 9=>146 | 11=>195 | 13=>197 | 12=>196 | 23=>237 | 24=>204 | 14=>228 | 15=>229 | 16=>230 | 17=>231 | 18=>232 | 19=>233 | 20=>234 | 21=>235 | 22=>236 | 25=>263 | 26=>264 | 27=>265 | 28=>266 | 29=>267 | 30=>268 | 31=>286 | n=>n,fun | 26=>3 | 28=>157 | 24=>100 | 0=>0 | 3=>3 | 37=>133 | 48=>113 | 50=>112 | 4=>4 | 40=>329 | 39=>328 | 45=>307 | 5=>5 | 9=>9 | 51=>352 | 55=>283 | 57=>373 | 58=>26 | 33=>159 | n=>n,fun | n=>n⟩
theorem Tryz.sortedA:Go.Proofs.SlLaysZI.n6 Tryz.prog Tryz.sortedA_ren := {
 mixed:=by kernel_rfl
 f6:=⟨Tryz.f86.name,by decide,Tryz.func86.trans (congrArg some (by kernel_rfl))⟩
 f8:=⟨Tryz.f145.name,by decide,Tryz.func145.trans (congrArg some (by kernel_rfl))⟩
 f11:=⟨Tryz.f195.name,by decide,Tryz.func195.trans (congrArg some (by kernel_rfl))⟩
 t0:=Tryz.underlying0
 a0:=Tryz.isAgg0
 z0:=Tryz.sizeOf0
 v0:=Tryz.zeroValue0
 t24:=Tryz.underlying100
 a24:=Tryz.isAgg100
 z24:=Tryz.sizeOf100
 v24:=Tryz.zeroValue100
 t26:=Tryz.underlying3
 a26:=Tryz.isAgg3
 z26:=Tryz.sizeOf3
 v26:=Tryz.zeroValue3
 t28:=Tryz.underlying157
 a28:=Tryz.isAgg157
 z28:=Tryz.sizeOf157
 v28:=Tryz.zeroValue157
 i26:=by kernel_rfl }
def Tryz.sortA_ren:Go.Shelf.Ren:=⟨fun | 5=>146 | 8=>197 | 7=>196 | 19=>237 | 20=>204 | 10=>228 | 11=>229 | 12=>230 | 13=>231 | 14=>232 | 15=>233 | 16=>234 | 17=>235 | 18=>236 | 30=>263 | 31=>264 | 32=>265 | 33=>266 | 34=>267 | 35=>268 | 40=>286 | n=>n,fun | 23=>100 | 25=>3 | 3=>3 | 32=>133 | 22=>100 | 0=>0 | 44=>113 | 46=>112 | 4=>4 | 36=>329 | 35=>328 | 41=>307 | 5=>5 | 9=>9 | 53=>352 | 57=>283 | 63=>373 | 64=>26 | n=>n,fun | n=>n⟩
theorem Tryz.sortA:Go.Proofs.SlLaysM.n5 Tryz.prog Tryz.sortA_ren := {
 mixed:=by kernel_rfl
 f5:=⟨Tryz.f146.name,by decide,Tryz.func146.trans (congrArg some (by kernel_rfl))⟩
 f7:=⟨Tryz.f196.name,by decide,Tryz.func196.trans (congrArg some (by kernel_rfl))⟩
 f8:=Tryz.func197.trans (congrArg some (by kernel_rfl))
 f10:=⟨Tryz.f228.name,by decide,Tryz.func228.trans (congrArg some (by kernel_rfl))⟩
 f11:=⟨Tryz.f229.name,by decide,Tryz.func229.trans (congrArg some (by kernel_rfl))⟩
 f12:=⟨Tryz.f230.name,by decide,Tryz.func230.trans (congrArg some (by kernel_rfl))⟩
 f13:=⟨Tryz.f231.name,by decide,Tryz.func231.trans (congrArg some (by kernel_rfl))⟩
 f14:=⟨Tryz.f232.name,by decide,Tryz.func232.trans (congrArg some (by kernel_rfl))⟩
 f15:=⟨Tryz.f233.name,by decide,Tryz.func233.trans (congrArg some (by kernel_rfl))⟩
 f16:=⟨Tryz.f234.name,by decide,Tryz.func234.trans (congrArg some (by kernel_rfl))⟩
 f17:=⟨Tryz.f235.name,by decide,Tryz.func235.trans (congrArg some (by kernel_rfl))⟩
 f18:=⟨Tryz.f236.name,by decide,Tryz.func236.trans (congrArg some (by kernel_rfl))⟩
 f19:=Tryz.func237.trans (congrArg some (by kernel_rfl))
 f20:=Tryz.func204.trans (congrArg some (by kernel_rfl))
 f30:=⟨Tryz.f263.name,by decide,Tryz.func263.trans (congrArg some (by kernel_rfl))⟩
 f31:=Tryz.func264.trans (congrArg some (by kernel_rfl))
 f32:=Tryz.func265.trans (congrArg some (by kernel_rfl))
 f33:=⟨Tryz.f266.name,by decide,Tryz.func266.trans (congrArg some (by kernel_rfl))⟩
 f34:=⟨Tryz.f267.name,by decide,Tryz.func267.trans (congrArg some (by kernel_rfl))⟩
 f35:=⟨Tryz.f268.name,by decide,Tryz.func268.trans (congrArg some (by kernel_rfl))⟩
 f40:=⟨Tryz.f286.name,by decide,Tryz.func286.trans (congrArg some (by kernel_rfl))⟩
 t0:=Tryz.underlying0
 a0:=Tryz.isAgg0
 z0:=Tryz.sizeOf0
 v0:=Tryz.zeroValue0
 t3:=Tryz.underlying3
 a3:=Tryz.isAgg3
 z3:=Tryz.sizeOf3
 v3:=Tryz.zeroValue3
 t4:=Tryz.underlying4
 a4:=Tryz.isAgg4
 z4:=Tryz.sizeOf4
 v4:=Tryz.zeroValue4
 t5:=Tryz.underlying5
 a5:=Tryz.isAgg5
 z5:=Tryz.sizeOf5
 v5:=Tryz.zeroValue5
 t9:=Tryz.underlying9
 a9:=Tryz.isAgg9
 z9:=Tryz.sizeOf9
 v9:=Tryz.zeroValue9
 t22:=Tryz.underlying100
 a22:=Tryz.isAgg100
 z22:=Tryz.sizeOf100
 v22:=Tryz.zeroValue100
 t23:=Tryz.underlying100
 a23:=Tryz.isAgg100
 z23:=Tryz.sizeOf100
 v23:=Tryz.zeroValue100
 t25:=Tryz.underlying3
 a25:=Tryz.isAgg3
 z25:=Tryz.sizeOf3
 v25:=Tryz.zeroValue3
 t32:=Tryz.underlying133
 a32:=Tryz.isAgg133
 z32:=Tryz.sizeOf133
 v32:=Tryz.zeroValue133
 t35:=Tryz.underlying328
 a35:=Tryz.isAgg328
 z35:=Tryz.sizeOf328
 v35:=Tryz.zeroValue328
 t36:=Tryz.underlying329
 a36:=Tryz.isAgg329
 z36:=Tryz.sizeOf329
 v36:=Tryz.zeroValue329
 t41:=Tryz.underlying307
 a41:=Tryz.isAgg307
 z41:=Tryz.sizeOf307
 v41:=Tryz.zeroValue307
 t44:=Tryz.underlying113
 a44:=Tryz.isAgg113
 z44:=Tryz.sizeOf113
 v44:=Tryz.zeroValue113
 t46:=Tryz.underlying112
 a46:=Tryz.isAgg112
 z46:=Tryz.sizeOf112
 v46:=Tryz.zeroValue112
 t53:=Tryz.underlying352
 a53:=Tryz.isAgg352
 z53:=Tryz.sizeOf352
 v53:=Tryz.zeroValue352
 t57:=Tryz.underlying283
 a57:=Tryz.isAgg283
 z57:=Tryz.sizeOf283
 v57:=Tryz.zeroValue283
 t63:=Tryz.underlying373
 a63:=Tryz.isAgg373
 z63:=Tryz.sizeOf373
 v63:=Tryz.zeroValue373
 t64:=Tryz.underlying26
 a64:=Tryz.isAgg26
 z64:=Tryz.sizeOf26
 v64:=Tryz.zeroValue26 }
end Go.Proofs
namespace Go.Proofs.YtbhjgfibhegddaaGreat
section
open Go Go.RowKit Go.Maps Go.Sort Go.Shelf Go.WideShapes
abbrev noElem:Value→Option (DataW Unit × List MemPlace):=fun _=>some (.nil,[])
theorem mapB_owns {w:World} {bm:Nat} {m:List (Int × Value)} (hM:MapB intKey w bm m) (hk:∀p ∈ m,(Lit.int .i64 p.1).wf=true) (hs:m.length≤5000) :
 ∃D0:DataW Unit,w.ownsMap Tryz.prog 3 noElem bm m.length D0∧(intKeys D0).Perm (m.map (·.1))∧Maps.size D0=m.length:=by
 obtain ⟨es,clock,hb,hst,hm⟩:=hM;have hlen:es.toList.length=m.length:=by have:=congrArg List.length hm;simpa using this
 have hrd:∀x ∈ es.toList,∃a:Int,x.key=intKey a∧Go.WideElems.rd Tryz.prog 3 noElem x=some (.int .i64 a,.nil):=by
  intro x hx;obtain ⟨j,hj⟩:=List.getElem?_of_mem hx;obtain ⟨p,hp,h1,h2⟩:=at_place hm j x hj;refine ⟨p.1,h1,?_⟩;have hko:keyOf Tryz.prog 3 x.key=some (.int .i64 p.1):=by rw [h1];exact keyOf_int_mk Tryz.underlying3 (hk p (List.mem_of_getElem? hp))
  unfold Go.WideElems.rd;rw [hko];rfl
 refine ⟨_,⟨es,clock,hb,⟨by unfold maxLen;simp at hlen;omega,hst,fun x hx=>?_⟩,by simp at hlen;omega,rfl⟩,?_,?_⟩
 ·obtain ⟨a,-,h⟩:=hrd x hx
  exact ⟨_,h⟩
 ·show List.Perm (((es.toList.map (Go.WideElems.rg Tryz.prog 3 noElem)).foldr DataW.insert []).map fun p=>Go.intOf p.1) _
  refine ((sorted_perm _).map _).trans ?_;rw [List.map_map];have e1:es.toList.map ((fun p:Lit × DataW Unit=>Go.intOf p.1) ∘ Go.WideElems.rg Tryz.prog 3 noElem)=es.toList.map ((fun v:Value=>match v with | .int _ a=>a | _=>0) ∘ fun e:MapEntry=>e.key):=by
   refine List.map_congr_left fun x hx=>?_
   obtain ⟨a,h1,h2⟩:=hrd x hx;simp only [Function.comp,Go.WideElems.rg_of h2,h1,Go.intOf]
  rw [e1,← List.map_map,keys_of hm,List.map_map];have e2:m.map ((fun v:Value=>match v with | .int _ a=>a | _=>0) ∘ fun p:Int × Value=>intKey p.1)=m.map (·.1):=rfl;rw [e2]
 ·show ((es.toList.map (Go.WideElems.rg Tryz.prog 3 noElem)).foldr DataW.insert []).length=m.length
  rw [(sorted_perm _).length_eq,List.length_map,hlen]
theorem sortsA (m:Nat):AnyZI.SortsIn Tryz.prog Tryz.sortedA_ren Fence.wide m :=
 ⟨fun blk off cap ss W hH hblk hsz=>callsIn_wide.2 (AnyM.slices_Sort_int Tryz.sortA blk off cap ss W hH hblk hsz),
  fun p cap W=>callsIn_wide.2 (AnyM.slices_Sort_int_none Tryz.sortA p cap W)⟩
theorem keys_c (mb:Option Nat) (W:World):Calls Tryz.prog 87 #[.map mb] W fun e w'=>e=.returned (.func (.func 147) #[] #[.pointer (some ⟨W.heap.size,0,none⟩)])∧w'=W.alloc (.cells #[.map mb] 149) :=
 (callsIn_wide (n:=5)).1 (AnyZI.keys_in Tryz.keysA Fence.wide 5 trivial rfl mb W)
theorem sorted_c {w:World} {b:Nat} {m:List (Int × Value)} (hM:MapB intKey w b m) (hk:∀p ∈ m,(Lit.int .i64 p.1).wf=true) (hs:m.length≤5000) :
 Calls Tryz.prog 86 #[.func (.func 147) #[] #[.pointer (some ⟨w.heap.size,0,none⟩)]] (w.alloc (.cells #[.map (some b)] 149)) fun e w'=>∃v,e=.returned v ∧
  w'.ownsRow (w.heap.size+1) 3 1 v m.length (((m.map (·.1)).mergeSort leI).map encZ)∧Upd (fun _=>False) w w':=by
 obtain ⟨D0,hown,hperm,hsize⟩:=mapB_owns hM hk hs;have hbl:=hown.lt;have hseq:SeqGives Fence.wide 2 Tryz.prog 147 #[.pointer (some ⟨w.heap.size,0,none⟩)] encZ (fun ss=>ss.Perm (intKeys D0)) (Maps.size D0) (w.alloc (.cells #[.map (some b)] 149)) :=
  AnyZI.keys_gives (ρ := Tryz.keysA_ren) { Tryz.keysA with } Fence.wide _ trivial rfl oM w.heap.size b m.length D0 _ sM sM (by
   obtain ⟨es,clock,hb,Ft,hs,hD⟩:=hown;exact ⟨es,clock,(Below.heap_alloc _ _ b hbl).trans hb,Ft,hs,hD⟩)
 have cS:=AnyZI.sorted_in Tryz.sortedA Fence.wide 5 trivial trivial trivial trivial rfl oM (sortsA _) (enters_of Tryz.func146 kR rfl) 147 #[.pointer (some ⟨w.heap.size,0,none⟩)] trivial (enters_of Tryz.func147 kR rfl) _ _ (by rw [hsize];unfold maxLen;omega) (by rw [hsize];omega) _ hseq;refine ((callsIn_wide (n:=5)).1 cS).mono ?_;rintro e w' ⟨v,ss,rfl,hS,hrow,-,hb⟩;have hp:=hS.trans hperm;have hl:ss.length=m.length:=by have:=hp.length_eq;simpa using this
 rw [mergeSort_of_perm_i hp,hl] at hrow;refine ⟨v,rfl,?_,((Upd.refl _ w).alloc _).then (Upd.of_below hb (fun _=>False)) wz0⟩;have e1:(w.alloc (.cells #[.map (some b)] 149)).heap.size=w.heap.size+1:=by simp
 rw [e1] at hrow;exact hrow
end
section
open Go Go.RowKit
namespace Dk
def busy (d:Dk):List Nat:=(List.range d.lasts.length).filter fun i => !(d.at_ i).isEmpty
def choice (l:List ByteArray) (keep:List Int) (k:Nat):Nat:=if k<keep.length then (keep.getD k 0 % ((l.length:Int)+1)).toNat else 0
def keptAt (d:Dk) (keep:List Int) (k i:Nat):ByteArray:=if 0<choice (d.at_ i) keep k then (d.at_ i).getD (choice (d.at_ i) keep k - 1) ByteArray.empty else d.last i
def part (d:Dk) (keep:List Int) (j:Nat):Dk :=
 { d with lasts:=(List.range d.lasts.length).map fun i=>if i ∈ d.busy.take j then d.keptAt keep (d.busy.idxOf i) i else d.last i,waits:=(List.range d.waits.length).map fun i=>if i ∈ d.busy.take j then [] else d.at_ i }
def crash (d:Dk) (keep:List Int):Dk := { d.part keep d.busy.length with off:=false,fuse:=-1 }
theorem busy_nodup (d:Dk):d.busy.Nodup:=List.nodup_range.filter _
theorem busy_mem {d:Dk} {i:Nat} : i ∈ d.busy↔i<d.lasts.length∧d.at_ i≠[]:=by
 unfold busy;rw [List.mem_filter,List.mem_range];simp
theorem part_at (d:Dk) (keep:List Int) (j i:Nat):(d.part keep j).at_ i=if i ∈ d.busy.take j then [] else d.at_ i:=by
 show ((List.range d.waits.length).map _).getD i []=_;rw [List.getD_eq_getElem?_getD,List.getElem?_map];by_cases hi:i<d.waits.length
 ·rw [List.getElem?_range hi];rfl
 ·rw [List.getElem?_eq_none (by simpa using hi)]
  have:d.at_ i=[]:=by unfold at_;rw [List.getD_eq_getElem?_getD,List.getElem?_eq_none (by omega)];rfl
  rw [this];split<;>rfl
theorem part_len (d:Dk) (keep:List Int) (j:Nat):(d.part keep j).lasts.length=d.lasts.length:=by simp [part]
theorem part_get (d:Dk) (keep:List Int) (j i:Nat) (hi:i<d.lasts.length):(d.part keep j).lasts[i]? = some (if i ∈ d.busy.take j then d.keptAt keep (d.busy.idxOf i) i else d.last i):=by
 show ((List.range d.lasts.length).map _)[i]? = _;rw [List.getElem?_map,List.getElem?_range hi];rfl
theorem part_zero (d:Dk) (keep:List Int):d.part keep 0=d:=by
 have h1:((List.range d.lasts.length).map fun i=>if i ∈ d.busy.take 0 then d.keptAt keep (d.busy.idxOf i) i else d.last i)=d.lasts:=by
  apply List.ext_getElem?
  intro i;rw [List.getElem?_map];by_cases hi:i<d.lasts.length
  ·rw [List.getElem?_range hi,List.getElem?_eq_getElem hi]
   simp [last,hi]
  ·rw [List.getElem?_eq_none (by simpa using hi),List.getElem?_eq_none (by omega)]
   rfl
 have h2:((List.range d.waits.length).map fun i=>if i ∈ d.busy.take 0 then [] else d.at_ i)=d.waits:=by
  apply List.ext_getElem?
  intro i;rw [List.getElem?_map];by_cases hi:i<d.waits.length
  ·rw [List.getElem?_range hi,List.getElem?_eq_getElem hi]
   simp [at_,hi]
  ·rw [List.getElem?_eq_none (by simpa using hi),List.getElem?_eq_none (by omega)]
   rfl
 unfold part;rw [h1,h2]
theorem busy_take_succ (d:Dk) (j i:Nat) (hj:j<d.busy.length):i ∈ d.busy.take (j+1)↔i ∈ d.busy.take j∨i=d.busy[j]:=by
 rw [List.take_succ_eq_append_getElem hj,List.mem_append,List.mem_singleton]
theorem busy_idx (d:Dk) (j:Nat) (hj:j<d.busy.length):d.busy.idxOf d.busy[j]=j:=d.busy_nodup.idxOf_getElem j hj
theorem busy_get_notin (d:Dk) (j:Nat) (hj:j<d.busy.length):d.busy[j] ∉ d.busy.take j:=by
 intro h;obtain ⟨k,hk,e⟩:=List.mem_iff_getElem.1 h;rw [List.getElem_take] at e;have hk2:k<j:=by rw [List.length_take] at hk;omega
 have h1:=busy_idx d k (by omega);have h2:=busy_idx d j hj;rw [e,h2] at h1;omega
theorem part_succ (d:Dk) (keep:List Int) (j:Nat) (hj:j<d.busy.length):(d.part keep (j+1)).lasts=(d.part keep j).lasts.set d.busy[j] (d.keptAt keep j d.busy[j]):=by
 apply List.ext_getElem?
 intro i;have hb:=(busy_mem.1 (List.getElem_mem hj)).1;by_cases hi:i<d.lasts.length
 ·rw [part_get _ _ _ _ hi,List.getElem?_set,part_len]
  by_cases e:d.busy[j]=i
  ·subst e
   rw [if_pos rfl,if_pos hi,if_pos ((busy_take_succ d j _ hj).2 (.inr rfl)),busy_idx d j hj]
  ·rw [if_neg e,part_get _ _ _ _ hi]
   have:(i ∈ d.busy.take (j+1))↔(i ∈ d.busy.take j):=by
    rw [busy_take_succ d j i hj];exact ⟨fun h=>h.elim id (fun h=>absurd h.symm e),.inl⟩
   simp only [this]
 ·rw [List.getElem?_eq_none (by rw [part_len];omega),List.getElem?_eq_none (by rw [List.length_set,part_len];omega)]
theorem crash_now {d:Dk} (hl:d.waits.length=d.lasts.length) (keep:List Int) (i:Nat):(d.crash keep).at_ i=[]:=by
 show (d.part keep d.busy.length).at_ i=[];rw [part_at,List.take_length];split
 ·rfl
 ·rename_i h
  rw [busy_mem] at h;by_cases hi:i<d.lasts.length
  ·apply Classical.byContradiction
   intro hc;exact h ⟨hi,hc⟩
  ·unfold at_
   rw [List.getD_eq_getElem?_getD,List.getElem?_eq_none (by omega)];rfl
theorem kept_size {d:Dk} (h:d.wf) (keep:List Int) (k i:Nat) (hi:i<d.lasts.length):(d.keptAt keep k i).size=64:=by
 unfold keptAt;split
 ·rename_i hc
  have hlt:choice (d.at_ i) keep k - 1<(d.at_ i).length:=by
   unfold choice at hc ⊢;split at hc
   ·rename_i hk
    rw [if_pos hk];have h1:=Int.emod_lt_of_pos (keep.getD k 0) (show (0:Int)<((d.at_ i).length:Int)+1 by omega);have h2:=Int.emod_nonneg (keep.getD k 0) (show ((d.at_ i).length:Int)+1≠0 by omega);omega
   ·omega
  rw [List.getD_eq_getElem?_getD,List.getElem?_eq_getElem hlt];have hm:(d.at_ i)[choice (d.at_ i) keep k - 1] ∈ d.at_ i:=List.getElem_mem hlt;have hmem:d.at_ i ∈ d.waits:=by
   unfold at_;rw [List.getD_eq_getElem?_getD,List.getElem?_eq_getElem (by rw [h.len];exact hi)];exact List.getElem_mem _
  exact h.waits _ hmem _ hm
 ·unfold last
  rw [List.getD_eq_getElem?_getD,List.getElem?_eq_getElem hi];exact h.lasts _ (List.getElem_mem _)
theorem crash_pend {d:Dk} (h:d.wf) (keep:List Int):(d.crash keep).pend=0:=by
 unfold pend;have:∀l ∈ (d.crash keep).waits,l=[]:=by
  intro l hl;obtain ⟨i,hi,rfl⟩:=List.mem_iff_getElem.1 hl;have:=crash_now h.len keep i;unfold at_ at this;rw [List.getD_eq_getElem?_getD,List.getElem?_eq_getElem hi] at this;exact this
 generalize (d.crash keep).waits=L at *;induction L with
 | nil=>rfl
 | cons x L ih=>rw [List.map_cons,List.sum_cons,ih (fun l hl=>this l (by simp [hl])),this x (by simp)];rfl
theorem crash_wf {d:Dk} (h:d.wf) (keep:List Int):(d.crash keep).wf:=by
 have hl:(d.crash keep).lasts.length=d.lasts.length:=part_len _ _ _;refine ⟨by rw [hl];simp [crash,part,h.len],by rw [hl];exact h.pos,by rw [hl];exact h.most,?_,?_,by simp [crash],by simp [crash],by rw [crash_pend h];omega⟩
 ·intro b hb
  have hb':b ∈ (d.part keep d.busy.length).lasts:=hb;obtain ⟨i,hi,rfl⟩:=List.mem_iff_getElem.1 hb';rw [part_len] at hi;have:=part_get d keep d.busy.length i hi;rw [List.getElem?_eq_getElem (by rw [part_len];exact hi)] at this;rw [Option.some.inj this];split
  ·exact kept_size h keep _ i hi
  ·unfold last
   rw [List.getD_eq_getElem?_getD,List.getElem?_eq_getElem hi];exact h.lasts _ (List.getElem_mem _)
 ·intro l hl b hb
  obtain ⟨i,hi,rfl⟩:=List.mem_iff_getElem.1 hl;have:=crash_now h.len keep i;unfold at_ at this;rw [List.getD_eq_getElem?_getD,List.getElem?_eq_getElem hi] at this;have e:(d.crash keep).waits[i]=[]:=this;rw [e] at hb;simp at hb
end Dk
def mPart (m:List (Int × Value)) (K:List Nat) (j:Nat):List (Int × Value):=m.filter fun q=>decide (q.1 ∉ (K.take j).map (Nat.cast:Nat→Int))
theorem mPart_zero (m:List (Int × Value)) (K:List Nat):mPart m K 0=m:=by
 unfold mPart;rw [List.filter_eq_self];simp
theorem mPart_succ (m:List (Int × Value)) (K:List Nat) (j:Nat) (hj:j<K.length):delA (mPart m K j) (K[j]:Int)=mPart m K (j+1):=by
 unfold mPart delA;rw [List.filter_filter];refine List.filter_congr fun q _=>?_
 rw [List.take_succ_eq_append_getElem hj];simp only [List.map_append,List.map_cons,List.map_nil,List.mem_append,List.mem_singleton,not_or,Bool.decide_and];rw [Bool.and_comm]
theorem keys_sorted {w:World} {d:Dk} {m:List (Int × Value)} (h4:WaitsAt w m d.waits) (hl:d.waits.length=d.lasts.length) (hn:(m.map (·.1)).Nodup) :
 (m.map (·.1)).mergeSort leI=d.busy.map (Nat.cast:Nat→Int):=by
 have hb:(d.busy.map (Nat.cast:Nat→Int)).Nodup:=by
  rw [List.Nodup,List.pairwise_map];exact List.Pairwise.imp (fun h e=>h (Int.ofNat.inj e)) d.busy_nodup
 have hp:(m.map (·.1)).Perm (d.busy.map (Nat.cast:Nat→Int)):=by
  refine (List.perm_ext_iff_of_nodup hn hb).2 fun x=>?_
  rw [List.mem_map];constructor
  ·rintro ⟨q,hq,rfl⟩
   obtain ⟨i,e,hi,h0,-⟩:=h4.each q hq;exact List.mem_map.2 ⟨i,Dk.busy_mem.2 ⟨by omega,h0⟩,by rw [e]⟩
  ·intro hx
   obtain ⟨i,hi,rfl⟩:=List.mem_map.1 hx;obtain ⟨-,h0⟩:=Dk.busy_mem.1 hi;exact List.mem_map.1 (h4.all i h0)
 have tr:∀a b c:Int,leI a b=true→leI b c=true→leI a c=true:=fun a b c h1 h2=>by simp only [leI,decide_eq_true_eq] at *;omega
 have tot:∀a b:Int,(leI a b || leI b a)=true:=fun a b=>by simp only [leI,Bool.or_eq_true,decide_eq_true_eq];omega
 refine List.Perm.eq_of_pairwise (le:=fun a b=>leI a b=true) (fun a b _ _ h1 h2=>?_) (List.pairwise_mergeSort tr tot _) ?_ ((List.mergeSort_perm _ leI).trans hp)
 ·simp only [leI,decide_eq_true_eq] at h1 h2
  omega
 ·rw [List.pairwise_map]
  have:(List.range d.lasts.length).Pairwise (· < ·):=List.pairwise_lt_range;refine (this.filter _).imp fun h=>?_
  simp only [leI,decide_eq_true_eq];exact Int.ofNat_le.2 (Nat.le_of_lt h)
structure Crashing (w wr:World) (p bl cap bm:Nat) (d:Dk) (keep:List Int) (m:List (Int × Value)) (j:Nat):Prop where
 blk:Blk wr p 151 #[.slice (some ⟨bl,0,none⟩) d.lasts.length cap,.map (some bm),.int .i64 d.fuse,.bool d.off]
 lasts:Own wr 9 1 (.slice (some ⟨bl,0,none⟩) d.lasts.length cap) d.lasts.length (strs (d.part keep j).lasts)
 map:MapB intKey wr bm (mPart m d.busy j)
 waits:WaitsAt wr (mPart m d.busy j) (d.part keep j).waits
 upd:Upd (fun b=>b=bl∨b=bm) w wr
theorem WaitsAt.struck {w w':World} {d:Dk} {keep:List Int} {m:List (Int × Value)} {j:Nat} (hj:j<d.busy.length) (h:WaitsAt w (mPart m d.busy j) (d.part keep j).waits)
 (hb:∀k ∈ (mPart m d.busy j).filterMap (·.2.ownBlock),w'.heap[k]? = w.heap[k]?):WaitsAt w' (mPart m d.busy (j+1)) (d.part keep (j+1)).waits:=by
 have hsub:∀q,q ∈ mPart m d.busy (j+1)→q ∈ mPart m d.busy j∧q.1≠(d.busy[j]:Int):=by
  intro q hq;rw [← mPart_succ m d.busy j hj] at hq;unfold delA at hq;rw [List.mem_filter] at hq;exact ⟨hq.1,by simpa using hq.2⟩
 refine ⟨fun q hq=>?_,fun i hi=>?_⟩
 ·obtain ⟨h1,h2⟩:=hsub q hq
  obtain ⟨i,e,hi,h0,ho⟩:=h.each q h1;have hne:i≠d.busy[j]:=fun e2=>h2 (by rw [e,e2])
  have hat:(d.part keep (j+1)).at_ i=(d.part keep j).at_ i:=by
   rw [Dk.part_at,Dk.part_at];have:(i ∈ d.busy.take (j+1))↔(i ∈ d.busy.take j):=by
    rw [Dk.busy_take_succ d j i hj];exact ⟨fun h=>h.elim id (fun h=>absurd h hne),.inl⟩
   simp only [this]
  refine ⟨i,e,by simpa [Dk.part] using hi,?_,?_⟩
  ·show (d.part keep (j+1)).at_ i≠[]
   rw [hat];exact h0
  ·show Own w' _ 1 q.2 ((d.part keep (j+1)).at_ i).length (strs ((d.part keep (j+1)).at_ i))
   rw [hat];exact ho.eqb fun k hk=>hb k (List.mem_filterMap.2 ⟨q,h1,hk⟩)
 ·have hi':(d.part keep (j+1)).at_ i≠[]:=hi
  have h1:(d.part keep j).at_ i≠[]∧i≠d.busy[j]:=by
   rw [Dk.part_at] at hi';split at hi'
   ·exact absurd rfl hi'
   ·rename_i hn
    rw [Dk.busy_take_succ d j i hj,not_or] at hn;rw [Dk.part_at,if_neg hn.1];exact ⟨hi',hn.2⟩
  obtain ⟨q,hq,e⟩:=List.mem_map.1 (h.all i h1.1);rw [← mPart_succ m d.busy j hj];refine List.mem_map.2 ⟨q,?_,e⟩;unfold delA;rw [List.mem_filter];refine ⟨hq,?_⟩;have:q.1≠(d.busy[j]:Int):=fun e2=>h1.2 (oN (e.symm.trans e2))
  simpa using this
theorem mPart_sub {m:List (Int × Value)} {K:List Nat} {j:Nat} {k:Nat} (h:k ∈ (mPart m K j).filterMap (·.2.ownBlock)):k ∈ m.filterMap (·.2.ownBlock):=by
 obtain ⟨q,hq,e⟩:=List.mem_filterMap.1 h;unfold mPart at hq;exact List.mem_filterMap.2 ⟨q,(List.mem_filter.1 hq).1,e⟩
theorem Crashing.step {w wr w1 w4:World} {p bl cap bm j:Nat} {d:Dk} {keep:List Int} {m:List (Int × Value)} (h:Crashing w wr p bl cap bm d keep m j) (hj:j<d.busy.length) (hnd:(p::bl::bm::m.filterMap (·.2.ownBlock)).Nodup)
 (hL1:Own w1 9 1 (.slice (some ⟨bl,0,none⟩) d.lasts.length cap) d.lasts.length (strs ((d.part keep j).lasts.set d.busy[j] (d.keptAt keep j d.busy[j])))) (hU1:Upd (· = bl) wr w1)
 (hM4:MapB intKey w4 bm (delA (mPart m d.busy j) (d.busy[j]:Int))) (hU4:Upd (· = bm) w1 w4):Crashing w w4 p bl cap bm d keep m (j+1):=by
 simp only [List.nodup_cons,List.mem_cons,not_or] at hnd;obtain ⟨⟨npl,npm,npf⟩,⟨nlm,nlf⟩,nmf,nff⟩:=hnd;have hU:Upd (fun b=>b=bl∨b=bm) wr w4:=hU1.trans hU4 (fun b e=>.inl e) (fun b e=>.inl (.inr e));refine ⟨h.blk.upd hU (fun e=>e.elim npl npm),?_,by rw [← mPart_succ m d.busy j hj];exact hM4,h.waits.struck hj (fun k hk=>?_),h.upd.then hU (fun b e=>.inl e)⟩
 ·rw [Dk.part_succ d keep j hj]
  exact hL1.upd hU4 (fun q hq e=>nlm (by rw [← e];simpa [Value.ownBlock] using hq))
 ·have hk2:=mPart_sub hk
  have hlt:k<wr.heap.size:=by
   obtain ⟨q,hq,e⟩:=List.mem_filterMap.1 hk;obtain ⟨_,_,_,_,ho⟩:=h.waits.each q hq;exact ho.lt e
  exact hU.block k hlt (fun e=>by rcases e with rfl | rfl;exact nlf hk2;exact nmf hk2)
theorem Crashing.done {w wr:World} {p bl cap bm:Nat} {d:Dk} {keep:List Int} {m:List (Int × Value)} (h:Crashing w wr p bl cap bm d keep m d.busy.length) (h4:∀q ∈ m,∃i:Nat,q.1=(i:Int)∧i<d.waits.length∧d.at_ i≠[]) (hwf:d.wf)
 (hnd:(p::bl::bm::m.filterMap (·.2.ownBlock)).Nodup):Left w ((wr.setCell ⟨p,3,none⟩ (.bool false)).setCell ⟨p,2,none⟩ (.int .i64 (-1))) p (d.crash keep) (p::bl::bm::m.filterMap (·.2.ownBlock)) [p,bl,bm]:=by
 have hm0:mPart m d.busy d.busy.length=[]:=by
  unfold mPart;rw [List.filter_eq_nil_iff];intro q hq;obtain ⟨i,e,hi,h0⟩:=h4 q hq;simp only [List.take_length,decide_eq_true_eq,Classical.not_not];exact List.mem_map.2 ⟨i,Dk.busy_mem.2 ⟨by rw [← hwf.len];exact hi,h0⟩,by rw [e]⟩
 have hM:=h.map;rw [hm0] at hM;simp only [List.nodup_cons,List.mem_cons,not_or] at hnd;obtain ⟨⟨npl,npm,npf⟩,⟨nlm,nlf⟩,nmf,nff⟩:=hnd;have hlen:(d.crash keep).lasts.length=d.lasts.length:=Dk.part_len _ _ _;refine ⟨⟨bl,cap,bm,[],?_,?_,?_,⟨fun q hq=>by simp at hq,fun i hi=>?_⟩,Dk.crash_wf hwf keep,rfl,?_⟩,?_,fun k hk=>.inl ?_⟩
 ·rw [hlen]
  have:=(h.blk.set_ 3 (.bool false)).set_ 2 (.int .i64 (-1));simpa [Dk.crash] using this
 ·rw [hlen]
  exact (h.lasts.far (p:=⟨p,3,none⟩) (by simpa [Value.ownBlock] using Ne.symm npl) _).far (p:=⟨p,2,none⟩) (by simpa [Value.ownBlock] using Ne.symm npl) _
 ·exact (hM.far (p:=⟨p,3,none⟩) (Ne.symm npm) _).far (p:=⟨p,2,none⟩) (Ne.symm npm) _
 ·exact absurd (Dk.crash_now hwf.len keep i) hi
 ·simp only [List.nodup_cons,List.mem_cons,List.not_mem_nil,or_false,not_or,not_false_eq_true,List.nodup_nil,and_true]
  exact ⟨⟨npl,npm⟩,nlm⟩
 ·exact ((h.upd.mono (G:=(· ∈ p::bl::bm::m.filterMap (·.2.ownBlock))) (fun b e=>.inl (by rcases e with rfl | rfl<;>simp))).setCell (p:=⟨p,3,none⟩) (.inl sM) _).setCell (p:=⟨p,2,none⟩) (.inl sM) _
 ·simp only [List.mem_cons,List.not_mem_nil,or_false] at hk ⊢
  rcases hk with rfl | rfl | rfl<;>simp
theorem kept_none {d:Dk} {keep:List Int} {j i:Nat} (h:Dk.choice (d.at_ i) keep j=0) (hin:i<d.lasts.length) (hni:i ∉ d.busy.take j):(d.part keep j).lasts.set i (d.keptAt keep j i)=(d.part keep j).lasts:=by
 have hk:d.keptAt keep j i=d.last i:=by unfold Dk.keptAt;rw [if_neg oM]
 rw [hk];apply List.ext_getElem?
 intro x;rw [List.getElem?_set];split
 ·rename_i e
  subst e;rw [Dk.part_get d keep j i hin,if_neg hni,if_pos (by rw [Dk.part_len];exact hin)]
 ·rfl
theorem tmod_twice (z n:Int) (hn:0<n):(z.tmod n+n).tmod n=z % n:=by
 have h1:=Int.lt_tmod_of_pos z hn;have h2:(z.tmod n+n).tmod n=(z.tmod n+n) % n:=Int.tmod_eq_emod_of_nonneg oM;rw [h2,Int.add_emod_right];have h3:=Int.tmod_add_mul_tdiv z n;have h4:z % n=(z.tmod n+n*z.tdiv n) % n:=by rw [h3]
 rw [h4,Int.add_mul_emod_self_left]
structure KeepAt (w:World) (F:List Nat) (v:Value) (keep:List Int):Prop where
 ex:∃A cap b off,v=.slice A keep.length cap∧keep.length≤9223372036854775807∧(0<keep.length→A=some ⟨b,off,none⟩)∧∀w',Upd (· ∈ F) w w'→∀i (_:i<keep.length),w'.cell? ⟨b,off+i,none⟩=some (.int .i64 keep[i])
 ok:∀z ∈ keep,-9223372036854775808≤z∧z≤9223372036854775807
theorem zz12 {P:Prop} (h:P:=by
 clear hM4 hU4 hs4;go_wp2_with (refine wpList_delete_run rfl _ _ _ _ rfl rfl rfl hrun4 ?_;go_frame)
 have hnext:Crashing w2 w4 p bl cap bm d keep m (j+1):=by
  refine HC.out.step hlt HG.out.2.2.2.2.2 (w1:=wr) ?_ (Upd.refl _ _) (by rw [Hi.out.1];exact HX.out.1) HX.out.2;rw [Hi.out.1,kept_none Hch.out hin Hi.out.2.2];exact HC.out.lasts
 go_roundw
 case rel=>exact ⟨j+1,oM,by go_num,hnext⟩
 case measure=>simp [intOf]<;>omega):P:=h
theorem crash_c {w:World} {p:Nat} {d:Dk} {F:List Nat} {v:Value} {keep:List Int} (hD:DiskAt w p d F) (hA:KeepAt w F v keep) :
 Calls Tryz.prog 44 #[.pointer (some ⟨p,0,none⟩),v] w fun e w'=>e=.returned (.tuple #[])∧∃F',Left w w' p (d.crash keep) F F':=by
 have HN:=Lib.hid (none_c hD);have HD:=Lib.hid hD;obtain ⟨bl,cap,bm,m,g1,g2,g3,g4,g5,gF,g7⟩:=hD;subst gF;obtain ⟨kA,kcap,kb,koff,rfl,km,kA0,kcells⟩:=hA.ex;have kok:=hA.ok;have hmost:=g5.most;have hroom:=g5.room;have hbl:d.busy.length≤4096:=by
  have:d.busy.length≤(List.range d.lasts.length).length:=List.length_filter_le _ _;rw [List.length_range] at this;omega
 have hks:=keys_sorted g4 g5.len g3.nodup;have hml:m.length=d.busy.length:=by
  have h1:=congrArg List.length hks;rw [List.length_map,(List.mergeSort_perm _ _).length_eq,List.length_map] at h1;exact h1
 have hwfk:∀q ∈ m,(Lit.int .i64 q.1).wf=true:=by
  intro q hq;obtain ⟨i,e,hi,-,-⟩:=g4.each q hq;rw [e];have:=g5.len;simp only [Lit.wf,Bool.and_eq_true,decide_eq_true_eq];have h1:IntKind.i64.min=-9223372036854775808:=rfl;have h2:IntKind.i64.max=9223372036854775807:=rfl;omega
 have hso:=sorted_c g3 hwfk oM;rw [hks] at hso;have HS:=Lib.hid hso;have hc:=g1.cells4;have HK:=h2k kcells kok;have HG:=h6k g1 g2 g3 g4 g5 g7;have Hml:=Lib.hid hml;clear g1 g2 g3 g4 g5 g7 hso kcells kok hwfk hks hA hml;go_enter Tryz.func44,Tryz.ntmps44
 go_wp2_with fail
 refine HN.out.mono ?_;rintro e w' ⟨rfl,rfl⟩;go_wp2_with fail
 refine (keys_c (some bm) _).mono ?_;rintro e w' ⟨rfl,rfl⟩;go_wp2_with fail
 refine HS.out.mono ?_;rintro e w2 ⟨v,rfl,hrow,hU2⟩;rw [Hml.out] at hrow;obtain ⟨A,rcap,rg,rfl,hA0,hrg,hcells⟩:∃A rcap rg,v=.slice A d.busy.length rcap∧(0<d.busy.length→A=some ⟨rg,0,none⟩)∧(0<d.busy.length→w.heap.size≤rg∧rg<w2.heap.size) ∧
  ∀W:World,W.heap[rg]? = w2.heap[rg]? → ∀j (h:j<d.busy.length),W.cell? ⟨rg,j,none⟩=some (.int .i64 (d.busy[j]:Int)):=by
  rcases hrow.2 with ⟨rfl,h0⟩ | ⟨g,c,cur,rfl,r1,r2,r3,r4,r5,r6⟩
  ·exact ⟨none,0,0,by rw [h0],fun h=>by omega,fun h=>by omega,fun W _ j h=>by omega⟩
  ·refine ⟨_,c,g,rfl,fun _=>rfl,fun _=>⟨oM,(Array.getElem?_eq_some_iff.1 r2).1⟩,fun W hW j h=>?_⟩
   rw [cell_of_row W g j cur _ (0,0) (hW.trans r2)];have h2:(cur.toList.take (d.busy.length*1))[j]? = some (.int .i64 (d.busy[j]:Int)):=by rw [r6];simp [h]
   rw [List.getElem?_take_of_lt oM] at h2;simpa using h2
 have hst:Crashing w2 w2 p bl cap bm d keep m 0:=by
  obtain ⟨g1,g2,g3,g4,g5,g7⟩:=HG.out;refine ⟨g1.upd hU2 (fun e=>e),?_,?_,?_,Upd.refl _ _⟩
  ·rw [Dk.part_zero];exact g2.upd hU2 (fun _ _ e=>e)
  ·rw [mPart_zero];exact g3.upd hU2 (fun e=>e)
  ·rw [mPart_zero,Dk.part_zero]
   exact g4.upd fun k hk=>hU2.block k (HD.out.lt k (by simp only [List.mem_cons];exact .inr (.inr (.inr hk)))) (fun e=>e)
 have H2:=h4k hst hU2 hrg hcells;clear hst hU2 hrg hcells hrow hc HS HN;go_wp2_with fail
 go_loopw [18,4,5,6,7,8] (fun i _ _ _ _ _ wr=>∃j:Nat,j≤d.busy.length∧i=.int .i64 j∧Crashing w2 wr p bl cap bm d keep m j) (fun i _ _ _ _ _ _=>d.busy.length - (intOf i).toNat)
 case atStart=>exact ⟨0,oM,rfl,H2.out.1⟩
 case round =>
  obtain ⟨j,hj,rfl,hC⟩:=hrel;by_cases hlt:j<d.busy.length
  ·obtain rfl:=hA0 oM
   obtain ⟨i,hi⟩:=eqx (d.busy[j]);have hni:=d.busy_get_notin j hlt;have hib:=Dk.busy_mem.1 (List.getElem_mem hlt);rw [hi] at hib hni;have hmF:∀k,k=p∨k=bl∨k=bm→k<w.heap.size:=fun k hk=>HD.out.lt k (by simp only [List.mem_cons];rcases hk with h | h | h;exact .inl h;exact .inr (.inl h);exact .inr (.inr (.inl h)))
   have hrl:=H2.out.2.2.1 oM;have hrc:=H2.out.2.2.2 wr (hC.upd.block rg hrl.2 (fun e=>by rcases e with e | e<;>· have:=hmF rg (by simp [e]);omega)) j hlt;rw [hi] at hrc;obtain ⟨v,-,hrun,hown,-,hmem⟩:=look_at (d:=d.part keep j) hC.map hC.waits i;rw [Dk.part_at,if_neg hni] at hown hmem;have hmem:=hmem hib.2;have hL0:0<(d.at_ i).length:=List.length_pos_iff.2 hib.2;have hL1:=Dk.at_len (d:=d) i;obtain ⟨g,cap',rfl,hnc,hcm⟩:=hown.head hL0;have hcw:=hC.blk.cells4;have HC:=Lib.hid hC;have HO:=Lib.hid hown;have HM:=Lib.hid hmem;have Hi:=h3k hi hib hni;have hin:i<d.lasts.length:=hib.1;clear hC hown hmem hi hib hni hnc hcm;by_cases hk:j<keep.length
   ·have hk':(j:Int)<(keep.length:Int):=oM
    obtain rfl:=kA0 oM;obtain ⟨z,hz⟩:=eqx (keep[j]);have hkc:wr.cell? ⟨kb,koff+j,none⟩=some (.int .i64 z):=by
     rw [← hz];refine HK.out.1 wr ((H2.out.2.1.mono (G:=(· ∈ p::bl::bm::m.filterMap (·.2.ownBlock))) wz0).then HC.out.upd (fun b e=>.inl ?_)) j hk;rcases e with e | e<;>simp [e]
    have hzr:=HK.out.2 z (hz ▸ List.getElem_mem hk);have Hz:=Lib.hid hz;clear hz;have hch:Dk.choice (d.at_ i) keep j=(z % (((d.at_ i).length:Int)+1)).toNat:=by
     unfold Dk.choice;rw [if_pos hk,List.getD_eq_getElem?_getD,List.getElem?_eq_getElem hk,Hz.out];rfl
    have hm1:=Int.emod_lt_of_pos z (show (0:Int)<((d.at_ i).length:Int)+1 by omega);have hm2:=Int.emod_nonneg z (show ((d.at_ i).length:Int)+1≠0 by omega);have htm:=tmod_twice z (((d.at_ i).length:Int)+1) oM;have ht1:=Int.lt_tmod_of_pos z (show (0:Int)<((d.at_ i).length:Int)+1 by omega);have ht2:=Int.tmod_lt_of_pos z (show (0:Int)<((d.at_ i).length:Int)+1 by omega);have hwr:IntKind.i64.wrap (z.tmod (((d.at_ i).length:Int)+1)+(((d.at_ i).length:Int)+1))=z.tmod (((d.at_ i).length:Int)+1)+(((d.at_ i).length:Int)+1):=IntWalk.i64_in _ oM;by_cases hc:0<Dk.choice (d.at_ i) keep j
    ·obtain ⟨c,hcc⟩:=eqx (Dk.choice (d.at_ i) keep j)
     have hcz:z % (((d.at_ i).length:Int)+1)=(c:Int):=oM;rw [hcz] at htm;have hcl:c≤(d.at_ i).length:=oM;have hc0:(0:Int)<(c:Int):=oM;have hwc:IntKind.i64.wrap ((c:Int) - 1)=(c:Int) - 1:=IntWalk.i64_in _ oM;have hnew:wr.cell? ⟨g,c - 1,none⟩=some (.string (d.keptAt keep j i)):=by
      rw [HO.out.cellAt _ oM,strs_get,Dk.keptAt,if_pos hc,hcc,List.getD_eq_getElem?_getD,List.getElem?_eq_getElem oM];rfl
     have hold:wr.cell? ⟨bl,i,none⟩=some (.string (d.last i)):=by
      rw [HC.out.lasts.cellAt _ oM,strs_get,Dk.part_get d keep j i hin,if_neg Hi.out.2.2];rfl
     have hfz:=HC.out.lasts.frozenAt i oM;have Hcc:=h3k hc hcc hch;have hcL:(c:Int) - 1<((d.at_ i).length:Int):=oM;clear hc hcc hch hm1 hm2 ht1 ht2 hcz;generalize (d.at_ i).length=L at hL0 hL1 hrun htm hwr hcl hcL ⊢;go_wp2_with fail
     go_region
     have nlm:bl≠bm:=by
      have:=HG.out.2.2.2.2.2;simp only [List.nodup_cons,List.mem_cons,not_or] at this;exact this.2.1.1
     have npl:p≠bl:=by
      have:=HG.out.2.2.2.2.2;simp only [List.nodup_cons,List.mem_cons,not_or] at this;exact this.1.1
     have hL1:=(HC.out.lasts.stored i (.string (d.keptAt keep j i))).drew;have hc1:=((HC.out.blk.far (p:=⟨bl,i,none⟩) npl (.string (d.keptAt keep j i))).drew).cell 1;have hU1:Upd (· = bl) wr (wr.setCell ⟨bl,i,none⟩ (.string (d.keptAt keep j i))).drew:=((Upd.refl (· = bl) wr).setCell (p:=⟨bl,i,none⟩) (.inl rfl) _).drew;obtain ⟨w4,hrun4,hM4,hU4,hs4⟩:=((HC.out.map.far (p:=⟨bl,i,none⟩) (Ne.symm nlm) (.string (d.keptAt keep j i))).drew).run_delete (P:=Tryz.prog) (ty:=0) keyI Tryz.underlying149 Tryz.underlying3 (i:Int);have HX:=h4k hL1 hU1 hM4 hU4;clear hL1 hU1 hM4 hU4 hs4 hcw nlm npl hold hnew hfz hrun;go_wp2_with (refine wpList_delete_run rfl _ _ _ _ rfl rfl rfl hrun4 ?_;go_frame)
     have hnext:Crashing w2 w4 p bl cap bm d keep m (j+1):=by
      refine HC.out.step hlt HG.out.2.2.2.2.2 (w1:=(wr.setCell ⟨bl,i,none⟩ (.string (d.keptAt keep j i))).drew) ?_ HX.out.2.1 ?_ HX.out.2.2.2
      ·rw [Hi.out.1]
       have:=HX.out.1;simp only [strs,List.map_set] at this ⊢;exact this
      ·rw [Hi.out.1]
       exact HX.out.2.2.1
     go_roundw
     case rel=>exact ⟨j+1,oM,by go_num,hnext⟩
     case measure=>simp [intOf]<;>omega
    ·have hcz:z % (((d.at_ i).length:Int)+1)=0:=oM
     rw [hcz] at htm;have Hcc:=h2k hc hch;clear hc hch hm1 hm2 ht1 ht2 hcz;generalize (d.at_ i).length=L at hL0 hL1 hrun htm hwr ⊢;obtain ⟨w4,hrun4,hM4,hU4,hs4⟩:=HC.out.map.run_delete (P:=Tryz.prog) (ty:=0) keyI Tryz.underlying149 Tryz.underlying3 (i:Int);have HX:=h2k hM4 hU4;have Hch:Hid (Dk.choice (d.at_ i) keep j=0):=by have:=Hcc.out.1;show _=_;omega
     exact zz12
   ·have hk':¬(j:Int)<(keep.length:Int):=oM
    obtain ⟨w4,hrun4,hM4,hU4,hs4⟩:=HC.out.map.run_delete (P:=Tryz.prog) (ty:=0) keyI Tryz.underlying149 Tryz.underlying3 (i:Int);have HX:=h2k hM4 hU4;have Hch:Hid (Dk.choice (d.at_ i) keep j=0):=by show Dk.choice _ _ _=_;unfold Dk.choice;rw [if_neg hk]
    exact zz12
  ·obtain rfl:j=d.busy.length:=oM
   have hcw:=hC.blk.cells4;have hz2:=hC.blk.frozen 2;have hz3:=hC.blk.frozen 3;have HC:=Lib.hid hC;clear hC;go_wp2_with fail
   all_goals
    go_end0
    have hx:=HC.out.done (fun q hq=>by obtain ⟨i,e,hi,h0,-⟩:=HG.out.2.2.2.1.each q hq;exact ⟨i,e,hi,h0⟩) HG.out.2.2.2.2.1 HG.out.2.2.2.2.2;have hl:Left w _ p (d.crash keep) (p::bl::bm::m.filterMap (·.2.ownBlock)) [p,bl,bm]:=⟨hx.disk,(H2.out.2.1.mono (G:=(· ∈ p::bl::bm::m.filterMap (·.2.ownBlock))) wz0).then hx.upd (fun _ e=>.inl e),fun k hk=>(hx.sub k hk).imp id (fun e=>Nat.le_trans H2.out.2.1.size e)⟩;first
    | exact ⟨rfl,_,hl⟩
    | exact ⟨rfl,_,hl.drew⟩
theorem body_get0 (p:Pt):p.sec.data.toList.getD 0 0=UInt8.ofNat p.gen:=by
 simp [Pt.sec,str,closeL,Pt.body,leB,List.range_succ]
theorem body_get9 (p:Pt):p.sec.data.toList.getD 9 0=UInt8.ofNat p.all:=by
 simp [Pt.sec,str,closeL,Pt.body,leB,List.range_succ]
theorem turn_bad (p:Pt) (h:p.ok) (hg:p.gen<256) (a:Nat) (x:List UInt8) (hx:x.length≤4) (ha:a+x.length≤64) (hne:turnK p.sec.data.toList a x x.length≠p.sec.data.toList) :
 (lookL (turnK p.sec.data.toList a x x.length)).2=2:=by
 have h1:=turn_look p.sec.data.toList a x (by rw [look_sec p h]) hx ha hne;have h0:(lookL (turnK p.sec.data.toList a x x.length)).2≠0:=by
  intro e;have hz:turnK p.sec.data.toList a x x.length=List.replicate 64 0:=by
   unfold lookL at e;split at e
   ·simp at e
   ·split at e
    ·assumption
    ·split at e<;>simp at e
  have hz':∀j,(turnK p.sec.data.toList a x x.length).getD j 0=0:=by
   intro j;rw [hz,List.getD_eq_getElem?_getD,List.getElem?_replicate];split<;>rfl
  have g:=h.gen;have g2:=h.all0;have g3:=h.all;have nz:∀n,0<n→n<256→UInt8.ofNat n≠0:=by
   intro n h1 h2 e;have:=congrArg UInt8.toNat e;simp at this
   omega
  by_cases hj:0<a
  ·have:=turnK_get p.sec.data.toList a x x.length 0 (.inl hj)
   rw [hz',body_get0] at this;exact nz _ g hg this.symm
  ·have:=turnK_get p.sec.data.toList a x x.length 9 (.inr (by omega))
   rw [hz',body_get9] at this;exact nz _ g2 g3 this.symm
 have:=lookL_cases (turnK p.sec.data.toList a x x.length);omega
theorem slotAt_bad_of {d:Dk} {a seen:Nat} (j:Nat) (hj:j<10) (hb:(lookL (d.now (a+j)).data.toList).2=2):(slotAt d a seen 10).bad=true:=by
 have h1:(slotAt d a seen (j+1)).bad=true:=by
  rw [slotAt_succ,slotStep];split
  ·assumption
  ·rfl
 rw [slotAt_bad d a seen (j+1) 10 (by omega) h1];exact h1
theorem Dk.at_nil {d:Dk} (h:d.pend=0) (i:Nat):d.at_ i=[]:=List.eq_nil_of_length_eq_zero (by have:=Dk.at_len (d:=d) i;omega)
theorem Dk.now_last {d:Dk} (h:d.pend=0) (i:Nat):d.now i=d.last i:=by
 unfold Dk.now;rw [Dk.at_nil h];rfl
theorem Dk.spoil_ok {d:Dk} {i a:Nat} {x:ByteArray} (hi:i<d.lasts.length) (hx:x.size≤4) (ha:a+x.size≤64) :
 d.spoil (i:Int) (a:Int) x=({ d with lasts:=d.lasts.set i (str (turnK (d.last i).data.toList a x.data.toList x.size)) },0):=by
 have ht:d.there (i:Int)=true:=by simp [Dk.there];omega
 unfold Dk.spoil;rw [ht,if_pos]
 ·rfl
 ·rw [Bool.true_and,decide_eq_true_eq]
  omega
namespace Dk
theorem choice_lt {l:List ByteArray} {keep:List Int} {k:Nat} (hc:0<choice l keep k):choice l keep k - 1<l.length:=by
 unfold choice at hc ⊢;split at hc
 ·rename_i hk
  rw [if_pos hk];have h1:=Int.emod_lt_of_pos (keep.getD k 0) (show (0:Int)<(l.length:Int)+1 by omega);have h2:=Int.emod_nonneg (keep.getD k 0) (show (l.length:Int)+1≠0 by omega);omega
 ·omega
theorem crash_is {d:Dk} (hl:d.waits.length=d.lasts.length) (keep:List Int) {i:Nat} (hi:i<d.lasts.length) :
 (d.crash keep).now i=if i ∈ d.busy then d.keptAt keep (d.busy.idxOf i) i else d.last i:=by
 unfold now;rw [crash_now hl keep i];show (d.part keep d.busy.length).lasts.getD i ByteArray.empty=_;rw [List.getD_eq_getElem?_getD,part_get d keep d.busy.length i hi,List.take_length];rfl
theorem crash_in {d:Dk} (hl:d.waits.length=d.lasts.length) (keep:List Int) {i:Nat} (hi:i<d.lasts.length):(d.crash keep).now i=d.last i∨(d.crash keep).now i ∈ d.at_ i:=by
 rw [crash_is hl keep hi];split
 ·unfold keptAt
  split
  ·rename_i hc
   have hlt:=choice_lt hc;right
   rw [List.getD_eq_getElem?_getD,List.getElem?_eq_getElem hlt];exact List.getElem_mem hlt
  ·exact .inl rfl
 ·exact .inl rfl
theorem crash_waits' (d:Dk) (keep:List Int):(d.crash keep).waits.length=d.waits.length:=by
 show ((List.range d.waits.length).map _).length=_;rw [List.length_map,List.length_range]
theorem crash_len' (d:Dk) (keep:List Int):(d.crash keep).lasts.length=d.lasts.length:=part_len _ _ _
def free (d:Dk):Dk := { d with fuse:=-1,off:=false }
theorem free_off {d:Dk} (h1:d.fuse=-1) (h2:d.off=false):d.free=d:=by
 obtain ⟨a,b,c,e⟩:=d;simp only at h1 h2
 subst h1 h2;rfl
end Dk
end
end Go.Proofs.YtbhjgfibhegddaaGreat
