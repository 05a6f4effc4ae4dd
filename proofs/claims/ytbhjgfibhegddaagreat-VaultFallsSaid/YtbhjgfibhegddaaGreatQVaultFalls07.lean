/-
  Parts of the proof of VaultFalls: DiskA, DiskN.
-/
import Derived.Test.YtbhjgfibhegddaaGreatQVaultFalls06
import Derived.Deep.RegionHeld3
import Derived.Maps.RangeWalk
import Derived.Test.YtbhjgfibhegddaaGreatProg
set_option maxRecDepth 100000
set_option maxHeartbeats 16000000
namespace Go.Proofs.YtbhjgfibhegddaaGreat
open Tryz
section
open Go Go.RowKit
theorem ux {P:Prop} (h:P:=by rw[← e];exact hq):P:=h
theorem JY {P:Prop} (h:P:=by rw[← h];exact hq):P:=h
theorem Oz {P:Prop} (h:P:=by rw[← e];simpa [Value.ownBlock] using hq):P:=h
structure Dk where
 ψ:List ByteArray
 waits:List (List ByteArray)
 bP:Int
 off:Bool
namespace Dk
def at_ (d:Dk) (i:Nat):List ByteArray:=d.waits.getD i []
def last (d:Dk) (i:Nat):ByteArray:=d.ψ.getD i ByteArray.empty
def there (d:Dk) (i:Int):Bool:=decide (0≤i∧i<d.ψ.length)
def now (d:Dk) (i:Nat):ByteArray:=(d.at_ i).getLast?.getD (d.last i)
def read (d:Dk) (i:Int):ByteArray × Int:=if d.off then (ByteArray.empty,14) else if d.there i then (d.now i.toNat,0) else (ByteArray.empty,1)
def dO (d:Dk):Dk × Bool:=if d.bP=0 then ({ d with off:=true },false) else if 0<d.bP then ({ d with bP:=d.bP - 1 },true) else (d,true)
def push (d:Dk) (i:Nat) (b:ByteArray):Dk := { d with waits:=d.waits.set i (d.at_ i++[b]) }
def write (d:Dk) (i:Int) (b:ByteArray):Dk × Int :=
 if d.off then (d,14) else if d.there i && decide (b.size=64) then (if d.dO.2 then (d.dO.1.push i.toNat b,0) else (d.dO.1,14)) else (d,1)
def flush (d:Dk):Dk := { d with ψ:=(List.range d.ψ.length).map d.now,waits:=d.waits.map fun _=>[] }
def sync (d:Dk):Dk × Int:=if d.off then (d,14) else if d.dO.2 then (d.dO.1.flush,0) else (d.dO.1,14)
def pend (d:Dk):Nat:=(d.waits.map List.length).sum
def Jl (d:Dk) (n:Int):Dk := { d with bP:=max n (-1) }
structure wf (d:Dk):Prop where
 len:d.waits.length=d.ψ.length
 pos:1≤d.ψ.length
 most:d.ψ.length≤4096
 ψ:∀b ∈ d.ψ,b.size=64
 waits:∀l ∈ d.waits,∀b ∈ l,b.size=64
 bP:-1≤d.bP
 Te:d.bP≤9223372036854775807
 room:d.pend<1000000
theorem at_len {d:Dk} (i:Nat):(d.at_ i).length≤d.pend:=by
 unfold at_ pend;generalize d.waits=l;induction l generalizing i with
 | nil=>simp
 | cons x l ih =>
   cases i with
   | zero=>simp
   | succ i=>have:=ih i;simp at this ⊢;omega
theorem IZ (d:Dk):d.dO.1.ψ=d.ψ:=by
 unfold dO;split
 ·rfl
 ·split<;>rfl
theorem ML (d:Dk):d.dO.1.waits=d.waits:=by
 unfold dO;split
 ·rfl
 ·split<;>rfl
theorem MS (d:Dk):d.dO.1.pend=d.pend:=by unfold pend;rw[ML]
end Dk
def strs (l:List ByteArray):List Value:=l.map Value.string
theorem aj1 (l:List ByteArray):∀u ∈ strs l,u.oneCell'=true:=by
 intro u hu;obtain⟨_,_,rfl⟩:=List.mem_map.1 hu;rfl
theorem FB (l:List ByteArray) (i:Nat):(strs l)[i]? = (l[i]?).map Value.string:=by simp[strs]
abbrev qX (i:Int):Value:=.int .i64 i
structure sY (w:World) (m:List (Int × Value)) (waits:List (List ByteArray)):Prop where
 each:∀p ∈ m,∃i:Nat,p.1=(i:Int)∧i<waits.length∧waits.getD i []≠[]∧Own w 9 1 p.2 (waits.getD i []).length (strs (waits.getD i []))
 all:∀i:Nat,waits.getD i []≠[]→(i:Int) ∈ m.map (·.1)
def bG (w:World) (p:Nat) (d:Dk) (F:List Nat):Prop :=
 ∃ bl cap bm m,
  η w p 151 #[.slice (some ⟨bl,0,none⟩) d.ψ.length cap,.map (some bm),.int .i64 d.bP,.bool d.off] ∧
  Own w 9 1 (.slice (some ⟨bl,0,none⟩) d.ψ.length cap) d.ψ.length (strs d.ψ) ∧
  cM qX w bm m∧sY w m d.waits∧d.wf∧F=p::bl::bm::m.filterMap (·.2.ownBlock)∧F.Nodup
theorem zI:Br (.int .i64) qX:=amw .i64
section
variable {w w':World} {p:Nat} {d:Dk} {F:List Nat}
theorem sY.ε {m:List (Int × Value)} {waits:List (List ByteArray)} (h:sY w m waits) (hb:∀k ∈ m.filterMap (·.2.ownBlock),w'.heap[k]? = w.heap[k]?):sY w' m waits:=by
 refine⟨fun q hq=>?_,h.all⟩;obtain⟨i,h1,h2,h3,h4⟩:=h.each q hq;exact⟨i,h1,h2,h3,h4.dr fun k hk=>hb k (List.mem_filterMap.2 ⟨q,hq,hk⟩)⟩
theorem bG.dr (h:bG w p d F) (hb:∀k ∈ F,w'.heap[k]? = w.heap[k]?):bG w' p d F:=by
 obtain⟨bl,cap,bm,m,h1,h2,h3,h4,h5,rfl,h7⟩:=h;refine⟨bl,cap,bm,m,h1.dr (hb p sM),h2.dr (fun k hk=>hb k ?_),h3.dr (hb bm sM),h4.ε (fun k hk=>hb k (by simp only[List.mem_cons];exact .inr (.inr (.inr hk)))),h5,rfl,h7⟩;have:k=bl:=by simpa [Value.ownBlock] using hk.symm
 subst this;simp
theorem bG.lt (h:bG w p d F):∀k ∈ F,k<w.heap.size:=by
 obtain⟨bl,cap,bm,m,h1,h2,h3,h4,h5,rfl,h7⟩:=h;intro k hk;simp only[List.mem_cons,List.mem_filterMap] at hk;rcases hk with rfl | rfl | rfl | ⟨q,hq,hk⟩
 ·exact h1.lt
 ·exact h2.lt lV
 ·exact h3.lt
 ·obtain⟨i,_,_,_,h8⟩:=h4.each q hq
  exact h8.lt hk
theorem bG.ε {G:Nat→Prop} (h:bG w p d F) (hu:ζ G w w') (hn:∀k ∈ F,¬G k):bG w' p d F:=h.dr fun k hk=>hu.block k (h.lt k hk) (hn k hk)
theorem bG.drew (h:bG w p d F):bG w.drew p d F:=h.dr fun _ _=>rfl
theorem bG.alloc (h:bG w p d F) (o:Obj):bG (w.alloc o) p d F:=h.dr fun k hk=>Below.heap_alloc w o k (h.lt k hk)
theorem bG.below (h:bG w p d F) (hb:Below w.heap.size w w'):bG w' p d F:=h.dr fun k hk=>hb.block k (h.lt k hk)
theorem bG.blk (h:bG w p d F):∃bl cap bm,η w p 151 #[.slice (some ⟨bl,0,none⟩) d.ψ.length cap,.map (some bm),.int .i64 d.bP,.bool d.off]:=by
 obtain⟨bl,cap,bm,_,h1,_⟩:=h;exact⟨bl,cap,bm,h1⟩
theorem bG.wf (h:bG w p d F):d.wf:=by obtain⟨_,_,_,_,_,_,_,_,h5,_⟩:=h;exact h5
theorem bG.mem (h:bG w p d F):p ∈ F:=by obtain⟨_,_,_,_,_,_,_,_,_,rfl,_⟩:=h;simp
end
structure Left (w w':World) (p:Nat) (d':Dk) (F F':List Nat):Prop where
 bH:bG w' p d' F'
 ε:ζ (· ∈ F) w w'
 sub:∀k ∈ F',k ∈ F∨w.heap.size≤k
theorem Left.refl {w:World} {p:Nat} {d:Dk} {F:List Nat} (h:bG w p d F):Left w w p d F F:=⟨h,ζ.refl _ _,fun _ hk=>.inl hk⟩
theorem Left.trans {w w1 w2:World} {p:Nat} {d1 d2:Dk} {F F1 F2:List Nat} (h:Left w w1 p d1 F F1) (k:Left w1 w2 p d2 F1 F2):Left w w2 p d2 F F2 :=
 ⟨k.bH,h.ε.then k.ε h.sub,fun b hb=>(k.sub b hb).elim (h.sub b) (fun e=>.inr (Nat.le_trans h.ε.size e))⟩
theorem Left.alloc {w w1:World} {p:Nat} {d1:Dk} {F F1:List Nat} (h:Left w w1 p d1 F F1) (o:Obj):Left w (w1.alloc o) p d1 F F1:=⟨h.bH.alloc o,h.ε.alloc o,h.sub⟩
theorem Left.below {w w1 w2:World} {p:Nat} {d1:Dk} {F F1:List Nat} (h:Left w w1 p d1 F F1) (hb:Below w1.heap.size w1 w2):Left w w2 p d1 F F1 :=
 ⟨h.bH.below hb,h.ε.then (ζ.pM hb (fun _=>False)) φ,h.sub⟩
theorem Left.eq {w w1:World} {p:Nat} {d1 d2:Dk} {F F1:List Nat} (h:Left w w1 p d1 F F1) (e:d1=d2):Left w w1 p d2 F F1:=e ▸ h
theorem adH {P:Prop} (h:P:=by
 exact Below.heap_setCell _ _ _ _ (fun e=>by subst e;simp only[List.nodup_cons,List.mem_cons] at g7;exact g7.1 (.inr (.inr hk)))):P:=h
theorem Zz {w:World} {p:Nat} {d:Dk} {F:List Nat} (hD:bG w p d F) (n:Int) (h1:-1≤n) (h2:n≤9223372036854775807) :
 Left w (w.setCell ⟨p,2,none⟩ (.int .i64 n)) p { d with bP:=n } F F:=by
 have hm:=hD.mem;refine⟨?_,(ζ.refl _ _).setCell (.inl hm) _,fun _ hk=>.inl hk⟩;obtain⟨bl,cap,bm,m,g1,g2,g3,g4,g5,rfl,g7⟩:=hD;have hpl:p≠bl:=fun e=>by subst e;simp at g7
 have yH:p≠bm:=fun e=>by subst e;simp at g7
 refine⟨bl,cap,bm,m,g1.bE 2 _,g2.b9 (by simpa [Value.ownBlock] using Ne.symm hpl) _,g3.b9 (Ne.symm yH) _,g4.ε (fun k hk=>?_),⟨g5.1,g5.2,g5.3,g5.4,g5.5,h1,h2,g5.8⟩,rfl,g7⟩;exact adH
theorem aj2 {w:World} {p:Nat} {d:Dk} {F:List Nat} (hD:bG w p d F) (b:Bool) :
 Left w (w.setCell ⟨p,3,none⟩ (.bool b)) p { d with off:=b } F F:=by
 have hm:=hD.mem;refine⟨?_,(ζ.refl _ _).setCell (.inl hm) _,fun _ hk=>.inl hk⟩;obtain⟨bl,cap,bm,m,g1,g2,g3,g4,g5,rfl,g7⟩:=hD;have hpl:p≠bl:=fun e=>by subst e;simp at g7
 have yH:p≠bm:=fun e=>by subst e;simp at g7
 refine⟨bl,cap,bm,m,g1.bE 3 _,g2.b9 (by simpa [Value.ownBlock] using Ne.symm hpl) _,g3.b9 (Ne.symm yH) _,g4.ε (fun k hk=>?_),⟨g5.1,g5.2,g5.3,g5.4,g5.5,g5.6,g5.7,g5.8⟩,rfl,g7⟩;exact adH
theorem Mw {β : Type} {f : β → Option Nat} : ∀ {l:List β},(l.filterMap f).Nodup→∀ {x y : β} {k:Nat},x ∈ l→y ∈ l→f x=some k→f y=some k→x=y
 | [],_,_,_,_,hx,_,_,_=>by cases hx
 | z :: l,h,x,y,k,hx,hy,fx,fy=>by
   have hl:(l.filterMap f).Nodup:=by
    rw[List.filterMap_cons] at h;split at h
    ·exact h
    ·exact(List.nodup_cons.1 h).2
   have out:f z=some k→∀q,q ∈ l→f q=some k→False:=fun fz q hq fq=>by
    rw[List.filterMap_cons,fz] at h;exact(List.nodup_cons.1 h).1 (List.mem_filterMap.2 ⟨q,hq,fq⟩)
   rcases List.mem_cons.1 hx with ex | hx2
   ·rcases List.mem_cons.1 hy with ey | hy2
    ·rw[ex,ey]
    ·exact(out (by rw[← ex];exact fx) y hy2 fy).elim
   ·rcases List.mem_cons.1 hy with ey | hy2
    ·exact(out (by rw[← ey];exact fy) x hx2 fx).elim
    ·exact Mw hl hx2 hy2 fx fy
theorem Jc {α : Type} [DecidableEq α] {m:List (α × Value)} {a : α} {v:Value} {q : α × Value} (h:q ∈ mu m a v):q=(a,v)∨(q ∈ m∧q.1≠a):=by
 unfold mu at h;split at h
 ·obtain⟨r,hr,e⟩:=List.mem_map.1 h
  split at e
  ·exact .inl e.symm
  ·rename_i hne
   subst e;exact .inr ⟨hr,hne⟩
 ·rename_i hna
  rcases List.mem_append.1 h with h | h
  ·exact .inr ⟨h,fun e=>hna (List.mem_map.2 ⟨q,h,e⟩)⟩
  ·exact .inl vW
theorem aj3 {α : Type} [DecidableEq α] {m:List (α × Value)} {a : α} {v:Value} : (a,v) ∈ mu m a v:=by
 unfold mu;split
 ·rename_i h
  obtain⟨r,hr,e⟩:=List.mem_map.1 h;exact List.mem_map.2 ⟨r,hr,by simp[e]⟩
 ·simp
theorem aiC {α : Type} [DecidableEq α] {m:List (α × Value)} {a : α} {v:Value} {x : α} (h:x ∈ m.map (·.1)):x ∈ (mu m a v).map (·.1):=by
 unfold mu;split
 ·obtain⟨r,hr,e⟩:=List.mem_map.1 h
  by_cases Er:r.1=a
  ·exact List.mem_map.2 ⟨(a,v),List.mem_map.2 ⟨r,hr,by simp[Er]⟩,by rw[← e,Er]⟩
  ·exact List.mem_map.2 ⟨r,List.mem_map.2 ⟨r,hr,by simp[Er]⟩,e⟩
 ·simp only[List.map_append,List.mem_append]
  exact .inl h
theorem Yn {β : Type} {f : β → Option Nat} : ∀ {l:List β},l.Nodup→(∀x ∈ l,∀y ∈ l,∀k,f x=some k→f y=some k→x=y)→(l.filterMap f).Nodup
 | [],_,_=>List.nodup_nil
 | z :: l,h,hi=>by
   have ih:=Yn (l:=l) (List.nodup_cons.1 h).2 (fun x hx y hy=>hi x (.tail _ hx) y (.tail _ hy));rw[List.filterMap_cons];split
   ·exact ih
   ·rename_i k hk
    refine List.nodup_cons.2 ⟨fun hmem=>?_,ih⟩;obtain⟨y,hy,fy⟩:=List.mem_filterMap.1 hmem;have:=hi z (.head _) y (.tail _ hy) k hk fy;subst this;exact(List.nodup_cons.1 h).1 hy
theorem Dk.wf.push {d:Dk} (h:d.wf) (k:Nat) (b:ByteArray) (hb:b.size=64) (hp:d.pend+1<1000000):(d.push k b).wf∧(d.push k b).pend≤d.pend+1:=by
 have anr:(d.push k b).pend≤d.pend+1:=by
  unfold Dk.pend Dk.push Dk.at_;simp only
  generalize d.waits=l;induction l generalizing k with
  | nil=>simp
  | cons x l ih =>
    cases k with
    | zero=>simp;omega
    | succ k=>have:=ih k;simp at this ⊢;omega
 refine⟨⟨by simpa [Dk.push] using h.len,h.pos,h.most,h.ψ,?_,h.bP,h.Te,oM⟩,anr⟩;intro l hl x hx;simp only[Dk.push] at hl;rcases List.mem_or_eq_of_mem_set hl with hl | rfl
 ·exact h.waits l hl x hx
 ·rcases List.mem_append.1 hx with hx | hx
  ·unfold Dk.at_ at hx
   rw[List.getD_eq_getElem?_getD] at hx;cases hg:d.waits[k]? with
   | none=>simp[hg] at hx
   | some l=>rw[hg] at hx;exact h.waits l (List.mem_of_getElem? hg) x hx
  ·simp at hx;rw[hx];exact hb
theorem FK {d:Dk} (k:Nat) (b:ByteArray) (hk:k<d.waits.length) (i:Nat):(d.push k b).at_ i=if i=k then d.at_ k++[b] else d.at_ i:=by
 unfold Dk.push Dk.at_;simp only[List.getD_eq_getElem?_getD,List.getElem?_set];by_cases h:k=i
 ·subst h;simp[hk]
 ·simp[h,Ne.symm h]
theorem aiD {w w2 w3:World} {p bl cap bm k:Nat} {d:Dk} {m:List (Int × Value)} {v0 v':Value} {b:ByteArray}
 (g1:η w p 151 #[.slice (some ⟨bl,0,none⟩) d.ψ.length cap,.map (some bm),.int .i64 d.bP,.bool d.off])
 (g2:Own w 9 1 (.slice (some ⟨bl,0,none⟩) d.ψ.length cap) d.ψ.length (strs d.ψ))
 (g3:cM qX w bm m) (g4:sY w m d.waits) (g5:d.wf) (g7:(p::bl::bm::m.filterMap (·.2.ownBlock)).Nodup)
 (hk:k<d.ψ.length) (hb:b.size=64) (hp:d.pend+1<1000000)
 (VC:∀q,v0.ownBlock=some q→((k:Int),v0) ∈ m)
 (hown:Own w2 9 1 v' ((d.at_ k).length+1) (strs (d.at_ k++[b]))) (σ:ζ (fun q=>v0.ownBlock=some q) w w2)
 (Gj:∀q,v'.ownBlock=some q→v0.ownBlock=some q∨w.heap.size≤q)
 (hM:cM qX w3 bm (mu m (k:Int) v')) (χ:ζ (· = bm) w2 w3):∃F',Left w w3 p (d.push k b) (p::bl::bm::m.filterMap (·.2.ownBlock)) F':=by
 have hF:bG w p d (p::bl::bm::m.filterMap (·.2.ownBlock)):=⟨bl,cap,bm,m,g1,g2,g3,g4,g5,rfl,g7⟩;have hlt:=hF.lt;simp only[List.nodup_cons,List.mem_cons,not_or] at g7;obtain⟨⟨yI,Ce,PI⟩,⟨Ai,KX⟩,GW,KY⟩:=g7;have JE:∀q,v0.ownBlock=some q→q ∈ m.filterMap (·.2.ownBlock):=fun q hq=>List.mem_filterMap.2 ⟨_,VC q hq,hq⟩
 -- what w3 still has of the blocks of w
 have keep:∀q,q<w.heap.size→v0.ownBlock≠some q→q≠bm→w3.heap[q]? = w.heap[q]? := fun q h1 h2 h3=>(χ.block q (Nat.lt_of_lt_of_le h1 σ.size) h3).trans (σ.block q h1 h2)
 have jQ:v0.ownBlock≠some p:=fun e=>PI (JE p e)
 have hl0:v0.ownBlock≠some bl:=fun e=>KX (JE bl e)
 have hm0:v0.ownBlock≠some bm:=fun e=>GW (JE bm e)
 have hbm:v'.ownBlock≠some bm:=fun e=>(Gj bm e).elim hm0 (fun h=>oN (hlt bm sM))
 have JB:Own w3 9 1 v' ((d.at_ k).length+1) (strs (d.at_ k++[b])):=hown.ε χ (fun q hq e=>hbm ux);have Aj:k<d.waits.length:=by rw[g5.len];exact hk
 have qH:∀q ∈ (mu m (k:Int) v').filterMap (·.2.ownBlock),q ∈ m.filterMap (·.2.ownBlock)∨w.heap.size≤q:=by
  intro q hq;obtain⟨x,hx,fx⟩:=List.mem_filterMap.1 hq;rcases Jc hx with rfl | ⟨hx,_⟩
  ·exact(Gj q fx).imp (JE q) id
  ·exact .inl (List.mem_filterMap.2 ⟨x,hx,fx⟩)
 have hW:sY w3 (mu m (k:Int) v') (d.push k b).waits:=by
  refine⟨fun q hq=>?_,fun i hi=>?_⟩
  ·rcases Jc hq with rfl | ⟨hq,hne⟩
   ·refine⟨k,rfl,by simpa [Dk.push] using Aj,?_,?_⟩
    ·show (d.push k b).at_ k≠[]
     rw[FK k b Aj];simp
    ·show Own w3 _ 1 v' ((d.push k b).at_ k).length (strs ((d.push k b).at_ k))
     rw[FK k b Aj,if_pos rfl];simpa using JB
   ·obtain⟨i,e,hi,adI,ho⟩:=g4.each q hq
    have hik:i≠k:=fun h=>hne (by rw[e,h])
    refine⟨i,e,by simpa [Dk.push] using hi,?_,?_⟩
    ·show (d.push k b).at_ i≠[]
     rw[FK k b Aj,if_neg hik];exact adI
    ·show Own w3 _ 1 q.2 ((d.push k b).at_ i).length (strs ((d.push k b).at_ i))
     rw[FK k b Aj,if_neg hik];refine ho.dr fun x hx=>keep x (ho.lt hx) (fun h0=>?_) (fun hxm=>GW (List.mem_filterMap.2 ⟨q,hq,by rw[← hxm];exact hx⟩))
     have:=Mw KY hq (VC x h0) hx h0;rw[this] at hne;exact hne rfl
  ·by_cases hik:i=k
   ·subst hik
    exact List.mem_map.2 ⟨_,aj3,rfl⟩
   ·have:d.at_ i≠[]:=by
     have h2:(d.push k b).at_ i≠[]:=hi;rw[FK k b Aj,if_neg hik] at h2;exact h2
    exact aiC (g4.all i this)
 have hnd:((mu m (k:Int) v').filterMap (·.2.ownBlock)).Nodup:=by
  refine Yn (Fm hM.nodup) fun x hx y hy q fx fy=>?_
  have other:∀y,y ∈ m→y.1≠(k:Int)→y.2.ownBlock=some q→v'.ownBlock=some q→False:=fun y hy hne fy fx=>by
   rcases Gj q fx with h | h
   ·have:=Mw KY hy (VC q h) fy h
    rw[this] at hne;exact hne rfl
   ·have:=hlt q (by simp only[List.mem_cons];exact .inr (.inr (.inr (List.mem_filterMap.2 ⟨y,hy,fy⟩))))
    omega
  rcases Jc hx with rfl | ⟨hx,hxn⟩
  ·rcases Jc hy with rfl | ⟨hy,hyn⟩
   ·rfl
   ·exact(other y hy hyn fy fx).elim
  ·rcases Jc hy with rfl | ⟨hy,hyn⟩
   ·exact(other x hx hxn fx fy).elim
   ·exact Mw KY hx hy fx fy
 have lp:=hlt p sM;have ll:=hlt bl sM;have lm:=hlt bm sM;refine⟨p::bl::bm::(mu m (k:Int) v').filterMap (·.2.ownBlock),⟨bl,cap,bm,mu m (k:Int) v',g1.dr (keep p lp jQ Ce),g2.dr (fun q hq=>?_),hM,hW,(g5.push k b hb hp).1,rfl,?_⟩,σ.trans χ ?_ ?_,?_⟩
 ·have:q=bl:=by simpa [Value.ownBlock] using hq.symm
  subst this;exact keep q ll hl0 Ai
 ·simp only[List.nodup_cons,List.mem_cons,not_or]
  exact⟨⟨yI,Ce,fun h=>(qH p h).elim PI (fun h=>by omega)⟩,⟨Ai,fun h=>(qH bl h).elim KX (fun h=>by omega)⟩,fun h=>(qH bm h).elim GW (fun h=>by omega),hnd⟩
 ·intro q hq
  simp only[List.mem_cons];exact .inr (.inr (.inr (JE q hq)))
 ·rintro q rfl
  exact .inl sM
 ·intro q hq
  simp only[List.mem_cons] at hq ⊢;rcases hq with rfl | rfl | rfl | hq
  ·exact .inl (.inl rfl)
  ·exact .inl (.inr (.inl rfl))
  ·exact .inl (.inr (.inr (.inl rfl)))
  ·exact(qH q hq).imp (fun h=>.inr (.inr (.inr h))) id
theorem aiE (w:World) (r:Option Nat):(binOp .eql 149 (.map r) (.map none)).run Tryz.prog w=.ok (.bool r.isNone) w :=
 run_eql_map_nil w _ _ _ r Tryz.underlying149
theorem FU {w:World} {p:Nat} {d:Dk} {F:List Nat} (hD:bG w p d F) :
 Calls Tryz.prog 78 #[.pointer (some ⟨p,0,none⟩)] w fun e w'=>e=.returned (.bool false)∧w=w':=by
 obtain⟨bl,cap,bm,h1⟩:=hD.blk;clear hD;have hc:=h1.iE;have hm:=aiE w (some bm);clear h1;go_enter Tryz.func78,Tryz.ntmps78
 go_wp2
 go_ret
 exact⟨rfl,rfl⟩
theorem adJ {P:Prop} (h:P:=by
 obtain⟨bl,cap,bm,h1⟩:=hD.blk;clear hD;rw[hoff] at h1;have hc:=h1.iE;have Hn:=Lib.hid hn;clear h1 hn;go_enter Tryz.func88,Tryz.ntmps88
 go_wp2_with (go_at_call 78;refine Hn.out.mono ?_;rintro e w' ⟨rfl,rfl⟩);go_ret
 exact⟨rfl,rfl⟩):P:=h
theorem FV {w:World} {p:Nat} {d:Dk} {F:List Nat} (hD:bG w p d F) (hoff:d.off=false) :
 Calls Tryz.prog 88 #[.pointer (some ⟨p,0,none⟩)] w fun e w'=>e=.returned (.int .i64 0)∧w=w':=by
 have hn:=FU hD;exact adJ
theorem Sa {w:World} {p:Nat} {d:Dk} {F:List Nat} (hD:bG w p d F) (hoff:d.off=true) :
 Calls Tryz.prog 88 #[.pointer (some ⟨p,0,none⟩)] w fun e w'=>e=.returned (.int .i64 14)∧w=w':=by
 have hn:=FU hD;exact adJ
theorem Nt {w:World} {p:Nat} {d:Dk} {F:List Nat} (hD:bG w p d F) (i:Int) :
 Calls Tryz.prog 89 #[.pointer (some ⟨p,0,none⟩),.int .i64 i] w fun e w'=>e=.returned (.bool (d.there i))∧w=w':=by
 have Tf:=hD.wf.most;obtain⟨bl,cap,bm,h1⟩:=hD.blk;clear hD;have hc:=h1.iE;clear h1;have HT:Hid (d.there i=decide (0≤i∧i<d.ψ.length)):=rfl;generalize d.there i=r at HT;by_cases h0:0≤i
 ·go_enter Tryz.func89,Tryz.ntmps89
  go_wp2
  go_ret
  exact⟨by rw[HT.out];simp[h0],rfl⟩
 ·go_enter Tryz.func89,Tryz.ntmps89
  go_wp2
  go_ret
  exact⟨by rw[HT.out];simp;omega,rfl⟩
theorem RL {w:World} {p:Nat} {d:Dk} {F:List Nat} (hD:bG w p d F) :
 Calls Tryz.prog 61 #[.pointer (some ⟨p,0,none⟩)] w fun e w'=>e=.returned (.int .i64 d.ψ.length)∧w=w':=by
 have hn:=FU hD;obtain⟨bl,cap,bm,h1⟩:=hD.blk;clear hD;have hc:=h1.iE;have Hn:=Lib.hid hn;clear h1 hn;go_enter Tryz.func61,Tryz.ntmps61
 go_wp2_with (go_at_call 78;refine Hn.out.mono ?_;rintro e w' ⟨rfl,rfl⟩);go_ret
 exact⟨rfl,rfl⟩
theorem NL {w:World} {p:Nat} {d:Dk} {F:List Nat} (hD:bG w p d F) :
 Calls Tryz.prog 33 #[.pointer (some ⟨p,0,none⟩)] w fun e w'=>e=.returned (.bool d.off)∧w=w':=by
 have hn:=FU hD;obtain⟨bl,cap,bm,h1⟩:=hD.blk;clear hD;have hc:=h1.iE;have Hn:=Lib.hid hn;clear h1 hn;go_enter Tryz.func33,Tryz.ntmps33
 go_wp2_with (go_at_call 78;refine Hn.out.mono ?_;rintro e w' ⟨rfl,rfl⟩);go_ret
 exact⟨rfl,rfl⟩
theorem SQ {w:World} {p:Nat} {d:Dk} {F:List Nat} (hD:bG w p d F) (n:Int) (hn2:n≤9223372036854775807) :
 Calls Tryz.prog 28 #[.pointer (some ⟨p,0,none⟩),.int .i64 n] w fun e w'=>e=.returned (.tuple #[])∧Left w w' p (d.Jl n) F F:=by
 have Hn:=Lib.hid (FU hD);have HF:Hid (Left w (w.setCell ⟨p,2,none⟩ (.int .i64 (max n (-1)))) p (d.Jl n) F F):=Zz hD _ oM oM;obtain⟨bl,cap,bm,h1⟩:=hD.blk;clear hD;have hc:=h1.iE;have hfr:=h1.frozen 2;clear h1;go_enter Tryz.func28,Tryz.ntmps28
 go_wp2_with (go_at_call 78;refine Hn.out.mono ?_;rintro e w' ⟨rfl,rfl⟩);all_goals
  go_end0
  first
   | exact⟨rfl,HF.out⟩
   |(have h:=HF.out;rw[Int.max_eq_right oM] at h;exact⟨rfl,h⟩)
   |(have h:=HF.out;rw[Int.max_eq_left aS] at h;exact⟨rfl,h⟩)
theorem adK {P:Prop} (h:P:=by
 generalize d.bP=f at *;have hz:(f == 0)=false:=by simp[h0]
 clear g1 hb hw h0;go_enter Tryz.func170,Tryz.ntmps170
 go_wp2
 go_ret
 exact⟨rfl,HL.out⟩):P:=h
theorem ZA {w:World} {p:Nat} {d:Dk} {F:List Nat} (hD:bG w p d F) (hb:d.dO.2=true) :
 Calls Tryz.prog 170 #[.pointer (some ⟨p,0,none⟩)] w fun e w'=>e=.returned (.int .i64 0)∧Left w w' p d.dO.1 F F:=by
 have hw:=hD.wf;have PJ:=hw.bP;have wg:=hw.Te;by_cases h0:d.bP=0
 ·simp[Dk.dO,h0] at hb
 ·by_cases h1:0<d.bP
  ·have HL:Hid (Left w (w.setCell ⟨p,2,none⟩ (.int .i64 (d.bP - 1))) p d.dO.1 F F) :=
    (Zz hD (d.bP - 1) oM oM).eq (by simp[Dk.dO,h0,h1])
   obtain⟨bl,cap,bm,g1⟩:=hD.blk;clear hD;have hc:=g1.iE;have hfr:=g1.frozen 2;exact adK
  ·have HL:Hid (Left w w p d.dO.1 F F):=(Left.refl hD).eq (by simp[Dk.dO,h0,h1])
   obtain⟨bl,cap,bm,g1⟩:=hD.blk;clear hD;have hc:=g1.iE;exact adK
theorem aaq {w:World} {p:Nat} {d:Dk} {F:List Nat} (hD:bG w p d F) (hb:d.dO.2=false) :
 Calls Tryz.prog 170 #[.pointer (some ⟨p,0,none⟩)] w fun e w'=>e=.returned (.int .i64 14)∧Left w w' p d.dO.1 F F:=by
 have h0:d.bP=0:=by
  unfold Dk.dO at hb;split at hb
  ·assumption
  ·split at hb<;>simp at hb
 have HL:Hid (Left w (w.setCell ⟨p,3,none⟩ (.bool true)) p d.dO.1 F F):=(aj2 hD true).eq (by simp[Dk.dO,h0]);obtain⟨bl,cap,bm,g1⟩:=hD.blk;clear hD;rw[h0] at g1;have hc:=g1.iE;have hfr:=g1.frozen 3;clear g1 hb h0;go_enter Tryz.func170,Tryz.ntmps170
 go_wp2
 go_ret
 exact⟨rfl,HL.out⟩
theorem qn {P:Program} {ops:Array Oper} {o:Oper} {a:Act} {w:World} {K:Act→World→Prop} {Q:Exit→Act→World→Prop} {E:Prop}
 (hg:o.guard=none) (s x:Operand) (t xT:TypeId) (ho:o.op=.call { callee:=.builtin .append,args:=#[s,x],argTypes:=#[t,xT] })
 (e:TypeId) (i:TypeInfo) (z:Value) (size bytes:Nat) (ht:P.underlying t=some (.slice e)) (hi:P.info? e=some i) (hz:i.zero=some z) (hsize:i.size=size) (hby:i.bytes=bytes) (hzs:z.cells.size=size)
 (v:Value) (n:Nat) (xs:List Value) (hs:a.eval s=v) (hown:Own w e size v n xs) (vx:Value) (m:Nat) (news:List Value) (hx:a.eval x=vx) (hsrc:Src P w xT size vx m news) (h1:∀u ∈ news,u.oneCell'=true)
 (h63:n+m≤maxLen) (hbytes:(n+m)*bytes≤140737488355328)
 (h:∀v' w',Own w' e size v' (n+m) (xs++news)→ζ (fun k=>v.ownBlock=some k) w w'→(v'.ownBlock=v.ownBlock∨v'.ownBlock=some w.heap.size)→w'.heap.size≤w.heap.size+1→K (a.put o.dst v') w') :
 if Region.wanted o (yielded ops a.tmps)=true then Oper.wp P o a w K Q else E:=by
 have hw:Region.wanted o (yielded ops a.tmps)=true:=by simp[Region.wanted,hg]
 rw[if_pos hw];obtain⟨v',w',hrun,h2,h3,h4,h5⟩:=Ys (P:=P) t o.type i z bytes ht hi hz hsize hby hzs hown hsrc h1 h63 hbytes;exact Yu s x t xT ho hs hx hrun (h v' w' h2 h3 h4 h5)
theorem Jm:(Tryz.prog.info? 9).map (fun i=>(i.zero,i.size,i.bytes))=some (some (.string ByteArray.empty),1,16):=kR
theorem aj4 (w:World):(zeroValue 147).run Tryz.prog w=.ok (.slice none 0 0) w:=kR
theorem Jn {w:World} {bm:Nat} {m:List (Int × Value)} {d:Dk} (h3:cM qX w bm m) (h4:sY w m d.waits) (i:Nat) :
 ∃v,(oB m (i:Int)).getD (.slice none 0 0)=v∧(Instr.lookup 149 (.map (some bm)) (.int .i64 (i:Int)) false).run Tryz.prog w=.ok v w∧Own w 9 1 v (d.at_ i).length (strs (d.at_ i))∧(d.at_ i=[]→v=.slice none 0 0)∧(d.at_ i≠[]→((i:Int),v) ∈ m):=by
 refine⟨_,rfl,h3.IP zI Tryz.underlying149 Tryz.underlying3 (i:Int) false (aj4 w),?_⟩;by_cases h0:d.at_ i=[]
 ·have hn:oB m (i:Int)=none:=by
   refine Rz fun p hp hpi=>?_
   obtain⟨j,e,_,hj,_⟩:=h4.each p hp;have:j=i:=oM;subst this;exact hj h0
  rw[hn,h0];exact⟨Own.nil _ _ _,fun _=>rfl,fun h=>absurd rfl h⟩
 ·obtain⟨q,hq,hqi⟩:=List.mem_map.1 (h4.all i h0)
  obtain⟨k,hk⟩:=List.getElem?_of_mem hq;have hg:oB m (i:Int)=some q.2:=Ry h3.nodup (j:=k) (by rw[hk,← hqi]);obtain⟨j,e,_,hj,hown⟩:=h4.each q hq;have:j=i:=oM;subst this;rw[hg];refine⟨hown,fun h=>absurd h h0,fun _=>?_⟩;simp only[Option.getD_some];rw[← hqi];exact hq
theorem bG.look {w:World} {p:Nat} {d:Dk} {F:List Nat} (hD:bG w p d F) (i:Nat) (hi:i<d.ψ.length) :
 ∃ bl cap bm v,η w p 151 #[.slice (some ⟨bl,0,none⟩) d.ψ.length cap,.map (some bm),.int .i64 d.bP,.bool d.off]∧(Instr.lookup 149 (.map (some bm)) (.int .i64 (i:Int)) false).run Tryz.prog w=.ok v w ∧
  Own w 9 1 v (d.at_ i).length (strs (d.at_ i))∧w.cell? ⟨bl,i,none⟩=some (.string (d.last i))∧(d.at_ i=[]→v=.slice none 0 0):=by
 obtain⟨bl,cap,bm,m,h1,h2,h3,h4,_⟩:=hD;obtain⟨v,_,hrun,hown,hnil,_⟩:=Jn h3 h4 i;refine⟨bl,cap,bm,v,h1,hrun,hown,?_,hnil⟩;rw[h2.cellAt i oM,FB,Dk.last];simp[hi]
theorem adL {P:Prop} (h:P:=by
 go_enter Tryz.func46,Tryz.ntmps46
 go_wp2_with (first|(go_at_call 88;refine Ho.out.mono ?_;rintro e w' ⟨rfl,rfl⟩)|(go_at_call 89;refine Ht.out.mono ?_;rintro e w' ⟨rfl,rfl⟩));go_ret2
 exact⟨rfl,rfl⟩):P:=h
theorem NM {w:World} {p:Nat} {d:Dk} {F:List Nat} (hD:bG w p d F) (i:Int) :
 Calls Tryz.prog 46 #[.pointer (some ⟨p,0,none⟩),.int .i64 i] w fun e w'=>e=.returned (.tuple #[.string (d.read i).1,.int .i64 (d.read i).2])∧w=w':=by
 have hwf:=hD.wf;cases hoff:d.off with
 | true =>
   have hr:d.read i=(ByteArray.empty,14):=by simp[Dk.read,hoff]
   rw[hr];have Ho:=Lib.hid (Sa hD hoff);clear hoff hr hwf hD;go_enter Tryz.func46,Tryz.ntmps46
   go_wp2_with (go_at_call 88;refine Ho.out.mono ?_;rintro e w' ⟨rfl,rfl⟩);go_ret2
   exact⟨rfl,rfl⟩
 | false =>
   have Ho:=Lib.hid (FV hD hoff);have Ht:=Lib.hid (Nt hD i);cases ht:d.there i with
   | false =>
     have hr:d.read i=(ByteArray.empty,1):=by simp[Dk.read,hoff,ht]
     rw[hr];rw[ht] at Ht;clear hoff hr hwf hD ht;exact adL
   | true =>
     have hi:0≤i∧i<d.ψ.length:=by simpa [Dk.there] using ht
     obtain⟨k,rfl⟩:=Int.eq_ofNat_of_zero_le hi.1;have hk:k<d.ψ.length:=oM;have hr:d.read (k:Int)=(d.now k,0):=by simp[Dk.read,hoff,ht]
     rw[hr];rw[ht] at Ht;have Tf:=hwf.most;have hroom:=hwf.room;have fW:=Dk.at_len (d:=d) k;obtain⟨bl,cap,bm,v,h1,hrun,hown,hcell,hnil⟩:=hD.look k hk;have hc:=h1.iE;clear h1 hoff hr ht hD hwf;by_cases h0:d.at_ k=[]
     ·have nF:Hid (d.now k=d.last k):=by simp[Dk.now,h0,Hid]
      have hv:v=.slice none 0 0:=hnil h0;subst hv;generalize d.last k=x at *;clear h0 hown fW hnil;go_enter Tryz.func46,Tryz.ntmps46
      go_wp2_with (first|(go_at_call 88;refine Ho.out.mono ?_;rintro e w' ⟨rfl,rfl⟩)|(go_at_call 89;refine Ht.out.mono ?_;rintro e w' ⟨rfl,rfl⟩));go_ret2
      exact⟨by rw[nF.out];rfl,rfl⟩
     ·have hlen:0<(d.at_ k).length:=List.length_pos_iff.2 h0
      obtain⟨g,cap',rfl,hnc,hcm⟩:=hown.head hlen;have N0:w.cell? ⟨g,(d.at_ k).length - 1,none⟩=some (.string (d.now k)):=by
       rw[hown.cellAt _ oM,FB,Dk.now,List.getLast?_eq_getElem?];rw[List.getElem?_eq_getElem oM];rfl
      generalize d.now k=x at *;generalize (d.at_ k).length=n at *;clear h0 hown hcell hnil;exact adL
theorem aiF {w:World} {p:Nat} {d:Dk} {F:List Nat} (hD:bG w p d F) (i:Int) (b:ByteArray) (hoff:d.off=true) :
 Calls Tryz.prog 115 #[.pointer (some ⟨p,0,none⟩),.int .i64 i,.string b] w fun e w'=>e=.returned (.int .i64 14)∧w=w':=by
 have Ho:=Lib.hid (Sa hD hoff);clear hoff hD;go_enter Tryz.func115,Tryz.ntmps115
 go_wp2_with (go_at_call 88;refine Ho.out.mono ?_;rintro e w' ⟨rfl,rfl⟩);go_ret
 exact⟨rfl,rfl⟩
theorem adM {P:Prop} (h:P:=by
 clear h ht;go_enter Tryz.func115,Tryz.ntmps115
 go_wp2_with (first|(go_at_call 88;refine Ho.out.mono ?_;rintro e w' ⟨rfl,rfl⟩)|(go_at_call 89;refine Ht.out.mono ?_;rintro e w' ⟨rfl,rfl⟩));go_ret
 exact⟨rfl,rfl⟩):P:=h
theorem aiG {w:World} {p:Nat} {d:Dk} {F:List Nat} (hD:bG w p d F) (i:Int) (b:ByteArray) (hoff:d.off=false) (h:(d.there i && decide (b.size=64))=false) :
 Calls Tryz.prog 115 #[.pointer (some ⟨p,0,none⟩),.int .i64 i,.string b] w fun e w'=>e=.returned (.int .i64 1)∧w=w':=by
 have Ho:=Lib.hid (FV hD hoff);have Ht:=Lib.hid (Nt hD i);clear hoff hD;cases ht:d.there i with
 | false =>
   rw[ht] at Ht;exact adM
 | true =>
   rw[ht] at Ht;have hb:((b.size:Int) != 64)=true:=by rw[bne_iff_ne];simp[ht] at h;omega
   exact adM
theorem aj5 {w:World} {p:Nat} {d:Dk} {F:List Nat} (hD:bG w p d F) (i:Int) (b:ByteArray) (hoff:d.off=false) (ht:d.there i=true) (hb:b.size=64) (hn:d.dO.2=false) :
 Calls Tryz.prog 115 #[.pointer (some ⟨p,0,none⟩),.int .i64 i,.string b] w fun e w'=>e=.returned (.int .i64 14)∧Left w w' p d.dO.1 F F:=by
 have Ho:=Lib.hid (FV hD hoff);have Ht:=Lib.hid (Nt hD i);have Hb:=Lib.hid (aaq hD hn);rw[ht] at Ht;have hb':((b.size:Int) != 64)=false:=by rw[hb];rfl
 clear hoff hD ht hb hn;go_enter Tryz.func115,Tryz.ntmps115
 go_wp2_with (first|(go_at_call 88;refine Ho.out.mono ?_;rintro e w' ⟨rfl,rfl⟩)|(go_at_call 89;refine Ht.out.mono ?_;rintro e w' ⟨rfl,rfl⟩)|(go_at_call 170;refine Hb.out.mono ?_;rintro e w1 ⟨rfl,hL⟩));go_ret
 exact⟨rfl,hL⟩
theorem aiH {w:World} {p:Nat} {d:Dk} {F:List Nat} (hD:bG w p d F) (k:Nat) (b:ByteArray) (hoff:d.off=false) (ht:d.there (k:Int)=true) (hb:b.size=64) (hn:d.dO.2=true) (hp:d.pend+1<1000000) :
 Calls Tryz.prog 115 #[.pointer (some ⟨p,0,none⟩),.int .i64 (k:Int),.string b] w fun e w'=>e=.returned (.int .i64 0)∧∃F',Left w w' p (d.dO.1.push k b) F F':=by
 have Ho:=Lib.hid (FV hD hoff);have Ht:=Lib.hid (Nt hD k);have Hb:=Lib.hid (ZA hD hn);have hk:k<d.dO.1.ψ.length:=by
  rw[Dk.IZ];simp[Dk.there] at ht
  exact ht
 have Ak:d.dO.1.pend+1<1000000:=by rw[Dk.MS];exact hp
 generalize d.dO.1=d1 at *;obtain⟨i0,bx,bU,bK,aY⟩:=info_parts Jm;rw[ht] at Ht;have hb':((b.size:Int) != 64)=false:=by rw[hb];rfl
 have HB:=Lib.hid hb;clear hoff hD ht hn hb hp;go_enter Tryz.func115,Tryz.ntmps115
 go_wp2_with (first|(go_at_call 88;refine Ho.out.mono ?_;rintro e w' ⟨rfl,rfl⟩)|(go_at_call 89;refine Ht.out.mono ?_;rintro e w' ⟨rfl,rfl⟩)|(go_at_call 170;refine Hb.out.mono ?_;rintro e w1 ⟨rfl,hL⟩));clear Ho Ht Hb hb';have HL:=Lib.hid hL;obtain⟨bl,cap,bm,m,g1,g2,g3,g4,g5,gF,g7⟩:=hL.bH;clear hL;subst gF;obtain⟨v0,qv,ans,ant,hnil,hmem⟩:=Jn g3 g4 k;obtain⟨v1,aci,uu,hx1⟩:=Jn (w:=w1.drew) g3.drew (g4.ε (fun _ _=>rfl)) k;obtain⟨v2,acj,anu,hx2⟩:=Jn (w:=(w1.alloc (.cells #[.string b] 9)).drew) (g3.alloc _).drew (g4.ε (fun q hq=>Below.heap_alloc _ _ _ (by
  have:=HL.out.bH.lt q (by simp only[List.mem_cons];exact .inr (.inr (.inr hq)));exact this))) k
 have e1:v1=v0:=aci.symm.trans qv;have e2:v2=v0:=acj.symm.trans qv;subst e1 e2;clear hx1 hx2;have hlen:=Dk.at_len (d:=d1) k;have hcell:w1.cell? ⟨p,1,none⟩=some (.map (some bm)):=g1.cell 1;have ac2:=g1.lt;have N1:∀q,v2.ownBlock=some q→((k:Int),v2) ∈ m:=fun q hq=>hmem (fun h0=>by rw[hnil h0] at hq;simp[Value.ownBlock] at hq)
 have hpv:v2.ownBlock≠some p:=fun e=>by
  have:=List.mem_filterMap (f:=fun q:Int × Value=>q.2.ownBlock).2 ⟨_,N1 p e,e⟩;simp only[List.nodup_cons,List.mem_cons] at g7;exact g7.1 (.inr (.inr this))
 have hbv:v2.ownBlock≠some bm:=fun e=>by
  have:=List.mem_filterMap (f:=fun q:Int × Value=>q.2.ownBlock).2 ⟨_,N1 bm e,e⟩;simp only[List.nodup_cons,List.mem_cons] at g7;exact g7.2.2.1 this
 have hpb:p≠bm:=fun e=>by subst e;simp at g7
 have H7:=cD g1 g2 g4 g5 g7;have Hm:=aq hpv hbv hpb;have HO:=Lib.hid N1;clear qv ans hnil hmem aci acj g1 g2 g4 g5 g7 hpv hbv hpb N1;go_region_held3 (fun w'=>w'.cell? ⟨p,1,none⟩=some (.map (some bm))) (first| assumption | go_keep)
  ((refine qn ak _ _ _ _ ak 9 i0 _ 1 16 Tryz.underlying147 bx bU bK aY rfl v2 _ _ ak ((ant.alloc _).drew) _ 1 [.string b] ak (Src.Q8 Tryz.underlying147 (.string b)) jN ke oM ?_
    intro v' w2 qt σ xU cn;have hc2:w2.cell? ⟨p,1,none⟩=some (.map (some bm)):=(World.cell?_of_block (w:=w1) (a:=⟨p,1,none⟩) ((σ.block p iy Hm.out.1).trans (Below.heap_alloc w1 _ p ac2))).trans hcell;have hM2:cM qX w2 bm m:=(g3.alloc _).drew.ε σ Hm.out.2.1;obtain⟨w3,Ta,PK,χ,fF⟩:=hM2.MH zI Tryz.underlying149 Tryz.underlying3 (k:Int) v';have xV:(Instr.mapUpdate 149 (.map (some bm)) (.int .i64 (k:Int)) v').run Tryz.prog w2=.ok () w3:=Ta;clear Ta;have sH:w3.cell? ⟨p,1,none⟩=some (.map (some bm)):=(World.cell?_of_block (w:=w2) (a:=⟨p,1,none⟩) (χ.block p (World.block_lt_of_cell? w2 _ hc2) Hm.out.2.2)).trans hc2;have HX:=cD qt σ xU PK χ;clear qt σ xU cn hM2 PK χ fF))
 all_goals
  clear hcell uu anu hc2 sH xV;go_wp2
  go_ret
  refine⟨rfl,?_⟩;obtain⟨x1,x2,x3,x4,x5⟩:=HX.out;obtain⟨g1,g2,g4,g5,g7⟩:=H7.out;obtain⟨F',hF'⟩:=aiD g1 g2 g3 g4 g5 g7 hk HB.out Ak HO.out (by simpa [strs] using x1) (((ζ.refl _ w1).alloc _).drew.then x2 (fun _ h=>.inl h))
   (fun q hq=>by
     rcases x3 with h | h
     ·exact .inl JY
     ·rw[h] at hq
      have:=Option.some.inj hq;simp at this
      exact .inr oM) x4 x5
  exact⟨F',HL.out.trans hF'⟩
theorem St {w:World} {p:Nat} {d:Dk} {F:List Nat} (hD:bG w p d F) (i:Int) (b:ByteArray) (hp:d.pend+1<1000000) :
 Calls Tryz.prog 115 #[.pointer (some ⟨p,0,none⟩),.int .i64 i,.string b] w fun e w'=>e=.returned (.int .i64 (d.write i b).2)∧∃F',Left w w' p (d.write i b).1 F F':=by
 cases hoff:d.off with
 | true =>
   refine(aiF hD i b hoff).mono ?_;rintro e w' ⟨rfl,rfl⟩;exact⟨by simp[Dk.write,hoff],F,(Left.refl hD).eq (by simp[Dk.write,hoff])⟩
 | false =>
   cases h:(d.there i && decide (b.size=64)) with
   | false =>
     refine(aiG hD i b hoff h).mono ?_;rintro e w' ⟨rfl,rfl⟩;exact⟨by rw[Dk.write,hoff,h];rfl,F,(Left.refl hD).eq (by rw[Dk.write,hoff,h];rfl)⟩
   | true =>
     have h':=h;simp only[Bool.and_eq_true,decide_eq_true_eq] at h';cases hn:d.dO.2 with
     | false =>
       refine(aj5 hD i b hoff h'.1 h'.2 hn).mono ?_;rintro e w' ⟨rfl,hL⟩;exact⟨by rw[Dk.write,hoff,h,hn];rfl,F,hL.eq (by rw[Dk.write,hoff,h,hn];rfl)⟩
     | true =>
       have hi:0≤i:=by have:=h'.1;simp[Dk.there] at this;exact this.1
       obtain⟨k,rfl⟩:=Int.eq_ofNat_of_zero_le hi;refine(aiH hD k b hoff h'.1 h'.2 hn hp).mono ?_;rintro e w' ⟨rfl,F',hL⟩;exact⟨by rw[Dk.write,hoff,h,hn];rfl,F',hL.eq (by rw[Dk.write,hoff,h,hn];rfl)⟩
def uj (d:Dk) (left:List (Int × Value)):List ByteArray:=(List.range d.ψ.length).map fun (i:Nat)=>if (i:Int) ∈ left.map (·.1) then d.last i else d.now i
theorem MF (d:Dk) (left:List (Int × Value)):(uj d left).length=d.ψ.length:=by simp[uj]
theorem IK (d:Dk) (left:List (Int × Value)) (i:Nat) (hi:i<d.ψ.length):(uj d left)[i]? = some (if (i:Int) ∈ left.map (·.1) then d.last i else d.now i):=by
 rw[uj,List.getElem?_map,List.getElem?_range hi];rfl
theorem ag5 {w:World} {d:Dk} {m:List (Int × Value)} (h:sY w m d.waits):uj d m=d.ψ:=by
 apply List.ext_getElem?
 intro i;by_cases hi:i<d.ψ.length
 ·rw[IK d m i hi]
  have hl:d.last i=d.ψ[i]:=by simp[Dk.last,hi]
  rw[List.getElem?_eq_getElem hi];split
  ·rw[hl]
  ·rename_i hn
   have h0:d.at_ i=[]:=by
    rcases Classical.em (d.at_ i=[]) with h0 | h0
    ·exact h0
    ·exact absurd (h.all i h0) hn
   simp[Dk.now,h0,hl]
 ·rw[List.getElem?_eq_none (by rw[MF];omega),List.getElem?_eq_none oM]
theorem ag6 (d:Dk):uj d []=d.flush.ψ:=by simp[uj,Dk.flush]
theorem agP (d:Dk) {l1 l2:List (Int × Value)} {k:Nat} {v:Value} (hn:((l1++((k:Int),v)::l2).map (·.1)).Nodup) :
 (uj d (l1++((k:Int),v)::l2)).set k (d.now k)=uj d (l1++l2):=by
 apply List.ext_getElem?
 intro i;by_cases hi:i<d.ψ.length
 ·rw[List.getElem?_set,MF]
  by_cases hik:k=i
  ·subst hik
   rw[if_pos rfl,if_pos hi,IK d _ k hi,if_neg];intro hmem;simp only[List.map_append,List.map_cons,List.nodup_append,List.nodup_cons,List.mem_append,List.mem_cons] at hn hmem;rcases hmem with h | h
   ·exact hn.2.2 _ h _ (.inl rfl) rfl
   ·exact hn.2.1.1 h
  ·rw[if_neg hik,IK d _ i hi,IK d _ i hi]
   have:((i:Int) ∈ (l1++((k:Int),v)::l2).map (·.1))↔((i:Int) ∈ (l1++l2).map (·.1)):=by
    simp only[List.map_append,List.map_cons,List.mem_append,List.mem_cons];constructor
    ·rintro (h | h | h)
     ·exact .inl h
     ·omega
     ·exact .inr h
    ·rintro (h | h)
     ·exact .inl h
     ·exact .inr (.inr h)
   simp only[this]
 ·rw[List.getElem?_eq_none (by rw[List.length_set,MF];omega),List.getElem?_eq_none (by rw[MF];omega)]
theorem ahL {α : Type} [DecidableEq α] {l1 l2:List (α × Value)} {k : α} {v:Value} (hn:((l1++(k,v)::l2).map (·.1)).Nodup):oA (l1++(k,v)::l2) k=l1++l2∧oA (l1++l2) k=l1++l2:=by
 simp only[List.map_append,List.map_cons,List.nodup_append,List.nodup_cons,List.mem_cons] at hn;have f1:l1.filter (fun p=>decide (p.1≠k))=l1:=by
  rw[List.filter_eq_self];intro q hq;have:=hn.2.2 q.1 (List.mem_map.2 ⟨q,hq,rfl⟩) k (.inl rfl);simpa using this
 have f2:l2.filter (fun p=>decide (p.1≠k))=l2:=by
  rw[List.filter_eq_self];intro q hq;have:q.1≠k:=fun e=>hn.2.1.1 (List.mem_map.2 ⟨q,hq,e⟩)
  simpa using this
 unfold oA;refine⟨?_,?_⟩
 ·rw[List.filter_append,List.filter_cons,if_neg sM,f1,f2]
 ·rw[List.filter_append,f1,f2]
structure Jo (w wr:World) (p bl cap bm r:Nat) (d:Dk) (m left:List (Int × Value)):Prop where
 blk:η wr p 151 #[.slice (some ⟨bl,0,none⟩) d.ψ.length cap,.map (some bm),.int .i64 d.bP,.bool d.off]
 ψ:Own wr 9 1 (.slice (some ⟨bl,0,none⟩) d.ψ.length cap) d.ψ.length (strs (uj d left))
 GX:lU qX wr r bm left left
 waits:∀q ∈ left,∃i:Nat,q.1=(i:Int)∧i<d.ψ.length∧d.at_ i≠[]∧Own wr 9 1 q.2 (d.at_ i).length (strs (d.at_ i))∧q ∈ m
 ε:ζ (fun b=>b=bl∨b=bm) w wr
 new:w.heap.size≤r
theorem Jo.done {w wr:World} {p bl cap bm r:Nat} {d:Dk} {m:List (Int × Value)} (h:Jo w wr p bl cap bm r d m []) (hwf:d.wf) (hnd:(p::bl::bm::m.filterMap (·.2.ownBlock)).Nodup) :
 Left w wr p d.flush (p::bl::bm::m.filterMap (·.2.ownBlock)) [p,bl,bm]:=by
 have hlen:d.flush.ψ.length=d.ψ.length:=by simp[Dk.flush]
 have hfw:d.flush.wf:=by
  refine⟨by simp[Dk.flush,hwf.len],by rw[hlen];exact hwf.pos,by rw[hlen];exact hwf.most,?_,?_,hwf.bP,hwf.Te,?_⟩
  ·intro b hb
   simp only[Dk.flush,List.mem_map,List.mem_range] at hb;obtain⟨i,hi,rfl⟩:=hb;unfold Dk.now;cases hg:(d.at_ i).getLast? with
   | none =>
     simp only[Option.getD_none];unfold Dk.last;rw[List.getD_eq_getElem?_getD,List.getElem?_eq_getElem hi];exact hwf.ψ _ (List.getElem_mem _)
   | some b =>
     simp only[Option.getD_some];have hb:b ∈ d.at_ i:=List.mem_of_getLast? hg;unfold Dk.at_ at hb;rw[List.getD_eq_getElem?_getD,List.getElem?_eq_getElem (by rw[hwf.len];exact hi)] at hb;exact hwf.waits _ (List.getElem_mem _) b hb
  ·intro l hl b hb
   simp only[Dk.flush,List.mem_map] at hl;obtain⟨_,_,rfl⟩:=hl;simp at hb
  ·have:d.flush.pend=0:=by
    unfold Dk.pend Dk.flush;simp only[List.map_map];generalize d.waits=l;induction l with
    | nil=>rfl
    | cons x l ih=>simpa using ih
   omega
 simp only[List.nodup_cons,List.mem_cons,not_or] at hnd;refine⟨⟨bl,cap,bm,[],?_,?_,h.GX.map,⟨fun _ hq=>by simp at hq,fun i hi=>?_⟩,hfw,rfl,?_⟩,h.ε.mono (fun b hb=>.inl ?_),fun k hk=>.inl ?_⟩
 ·rw[hlen];exact h.blk
 ·rw[hlen,← ag6];exact h.ψ
 ·exfalso
  apply hi
  simp only[Dk.flush,List.getD_eq_getElem?_getD,List.getElem?_map];cases d.waits[i]?<;>rfl
 ·simp only[List.nodup_cons,List.mem_cons,List.not_mem_nil,or_false,not_or,not_false_eq_true,List.nodup_nil,and_true]
  exact⟨⟨hnd.1.1,hnd.1.2.1⟩,hnd.2.1.1⟩
 ·rcases hb with rfl | rfl<;>simp
 ·simp only[List.mem_cons,List.not_mem_nil,or_false] at hk ⊢
  rcases hk with rfl | rfl | rfl<;>simp
theorem aj6 {w:World} {p:Nat} {d:Dk} {F:List Nat} (hD:bG w p d F) (hoff:d.off=false) (hn:d.dO.2=true) :
 Calls Tryz.prog 117 #[.pointer (some ⟨p,0,none⟩)] w fun e w'=>e=.returned (.int .i64 0)∧∃F',Left w w' p d.dO.1.flush F F':=by
 have Ho:=Lib.hid (FV hD hoff);have Hb:=Lib.hid (ZA hD hn);generalize d.dO.1=d1 at *;clear hoff hD hn;go_enter Tryz.func117,Tryz.ntmps117
 go_wp2_with (first
  |(go_at_call 88;refine Ho.out.mono ?_;rintro e w' ⟨rfl,rfl⟩)
  |(go_at_call 170
    refine Hb.out.mono ?_;rintro e w1 ⟨rfl,hL⟩;have HL:=Lib.hid hL;obtain⟨bl,cap,bm,m,g1,g2,g3,g4,g5,gF,g7⟩:=hL.bH;clear hL;have hc:=g1.iE;obtain⟨w2,hr2,iP,σ,cn⟩:=g3.aio (P:=Tryz.prog) Tryz.underlying149;have H4:=p7 g1 g2 g3 g4 g5 gF g7;have HX:=aq iP σ cn;clear g1 g2 g3 g4 g5 gF g7 Ho Hb iP σ cn))
 obtain⟨g1,g2,g3,g4,g5,gF,g7⟩:=H4.out;have hpl:p≠bl:=fun e=>by rw[gF] at g7;subst e;simp at g7
 have yH:p≠bm:=fun e=>by rw[gF] at g7;subst e;simp at g7
 have Cf:bl≠bm:=fun e=>by rw[gF] at g7;subst e;simp at g7
 have KZ:p ∉ m.filterMap (·.2.ownBlock):=by rw[gF] at g7;simp only[List.nodup_cons,List.mem_cons,not_or] at g7;exact g7.1.2.2
 have hfl:bl ∉ m.filterMap (·.2.ownBlock):=by rw[gF] at g7;simp only[List.nodup_cons,List.mem_cons,not_or] at g7;exact g7.2.1.2
 have qH:bm ∉ m.filterMap (·.2.ownBlock):=by rw[gF] at g7;simp only[List.nodup_cons,List.mem_cons,not_or] at g7;exact g7.2.2.1
 have Tf:=g5.most;have hstart:Jo w1 w2 p bl cap bm w1.heap.size d1 m m:=by
  obtain⟨x1,x2,_⟩:=HX.out;refine⟨g1.ε x2 id,?_,x1,fun q hq=>?_,x2.mono φ,Nat.le_refl _⟩
  ·rw[ag5 g4];exact g2.ε x2 (fun _ _ e=>e)
  ·obtain⟨i,e,hi,h0,ho⟩:=g4.each q hq
   exact⟨i,e,by rw[← g5.len];exact hi,h0,ho.ε x2 (fun _ _ e=>e),hq⟩
 clear g1 g2 g3 hc hr2 HX;have HG:=aF g4 g5 gF g7;have HN:=iw hpl yH Cf KZ hfl qH;clear g4 g5 gF g7 hpl yH Cf KZ hfl qH H4;have hroom:d1.pend<1000000:=HG.out.2.1.room;go_loopw [5] (fun _ wr=>∃left,Jo w1 wr p bl cap bm w1.heap.size d1 m left) (fun _ wr=>Sn wr w1.heap.size bm)
 case atStart=>exact⟨m,hstart⟩
 case round =>
  obtain⟨left,hS⟩:=hrel;clear hstart;have HS:=Lib.hid hS;have hmu:=Lib.hid (hS.GX.left_eq);rcases hS.GX.ajI (P:=Tryz.prog) zI.inj 0 with ⟨h0,hrun⟩ | ⟨k,v,l1,l2,w3,hleft,hmem,hrun,iR,yJ,χ,fF⟩
  ·clear hS hmu
   subst h0;go_wp2
   go_ret
   refine⟨rfl,[p,bl,bm],HL.out.trans ?_⟩;have hx:=HS.out.done HG.out.2.1 (HG.out.2.2.1 ▸ HG.out.2.2.2);rw[HG.out.2.2.1];exact hx
  ·obtain⟨i,hki,hi,hne,hown,hqm⟩:=hS.waits (k,v) (by rw[hleft];simp)
   simp only at hki hown
   subst hki;have ack:0<(d1.at_ i).length:=List.length_pos_iff.2 hne;have ao2:=Dk.at_len (d:=d1) i;obtain⟨g,cap',rfl,hnc,hcm⟩:=hown.head ack;have GY:g ∈ m.filterMap (·.2.ownBlock):=List.mem_filterMap.2 ⟨_,hqm,by simp[Value.ownBlock]⟩;have B6:g≠w1.heap.size:=by
    have h1:=(HL.out.bH.lt g (by rw[HG.out.2.2.1];simp only[List.mem_cons];exact .inr (.inr (.inr GY))));omega
   have pq:p≠w1.heap.size:=by
    have h1:=(HL.out.bH.lt p (by rw[HG.out.2.2.1];simp))
    omega
   have hlr:bl≠w1.heap.size:=by
    have h1:=(HL.out.bH.lt bl (by rw[HG.out.2.2.1];simp))
    omega
   have aC:=hS.blk.ε χ pq;have gG:=hS.ψ.ε χ (fun q hq e=>hlr Oz)
   have hV3:=hown.ε χ (fun q hq e=>B6 Oz)
   have hc:=aC.iE;have N0:w3.cell? ⟨g,(d1.at_ i).length - 1,none⟩=some (.string (d1.now i)):=by
    rw[hV3.cellAt _ oM,FB,Dk.now,List.getLast?_eq_getElem?,List.getElem?_eq_getElem oM];rfl
   have hold:w3.cell? ⟨bl,i,none⟩=some (.string (d1.last i)):=by
    rw[gG.cellAt _ oM,FB,IK d1 _ i hi,if_pos]
    ·rfl
    ·rw[hleft];simp
   have hfz:=gG.frozenAt i oM;have HU:=p7 aC gG iR χ pq hlr GY;have JF:=Lib.hid hleft;clear hS hleft hown hqm GY B6 pq hlr aC gG hV3 iR χ hne hmem hnc hcm;go_wp2_with fail
   go_region
   obtain⟨aC,gG,iR,χ,pq,hlr,GY⟩:=HU.out;obtain⟨hpl,yH,Cf,KZ,hfl,qH⟩:=HN.out;have K0:=(iR.b9 (p:=⟨bl,i,none⟩) (Ne.symm hlr) (Ne.symm Cf) (.string (d1.now i))).drew;obtain⟨w4,xV,mT,ay,hs5⟩:=K0.C7 (P:=Tryz.prog) (ty:=0) zI Tryz.underlying149 Tryz.underlying3 (i:Int);have HV:=τ mT ay;have tM:(w3.setCell ⟨bl,i,none⟩ (.string (d1.now i))).cell? ⟨p,1,none⟩=some (.map (some bm)):=(aC.b9 (p:=⟨bl,i,none⟩) hpl _).cell 1;clear hc;clear aC gG iR χ pq hlr GY hpl yH Cf KZ hfl qH K0 mT ay hs5 yJ hrun N0 hold hfz;go_wp2_with (refine My rfl _ _ _ _ rfl rfl rfl xV ?_;go_frame)
   have abG:Jo w1 w4 p bl cap bm w1.heap.size d1 m (l1++l2):=by
    obtain⟨aC,gG,iR,χ,pq,hlr,GY⟩:=HU.out;obtain⟨hpl,yH,Cf,KZ,hfl,qH⟩:=HN.out;obtain⟨mT,ay⟩:=HV.out;have hS:=HS.out;have hnd:=hS.GX.map.nodup;rw[JF.out] at hnd;have hd:=ahL hnd;rw[JF.out,hd.1,hd.2] at mT;have au:ζ (· = bl) w3 (w3.setCell ⟨bl,i,none⟩ (.string (d1.now i))).drew:=((ζ.refl (· = bl) w3).setCell (p:=⟨bl,i,none⟩) (.inl rfl) _).drew;have sw:ζ (fun b=>b=bl∨b=bm) w3 w4:=au.trans ay (fun b h=>.inl h) (fun b h=>.inl (.inr h));have uM:ζ (fun b=>b=bl∨b=bm∨b=w1.heap.size) wr w4:=χ.trans sw (fun b h=>.inr (.inr h)) (fun b h=>.inl (h.elim .inl (fun h=>.inr (.inl h))));refine⟨aC.ε sw (fun h=>h.elim hpl yH),?_,mT,fun q hq=>?_,hS.ε.then uM (fun b h=>?_),Nat.le_refl _⟩
    ·have kH:=(gG.stored i (.string (d1.now i))).drew.ε ay (fun q hq e=>Cf Oz)
     have e1:(strs (uj d1 left)).set i (.string (d1.now i))=strs (uj d1 (l1++l2)):=by
      rw[← agP d1 hnd,JF.out];simp only[strs,List.map_set]
     rw[e1] at kH;exact kH
    ·obtain⟨j,e,hj,h0,ho,hm⟩:=hS.waits q (by
      rw[JF.out];simp only[List.mem_append,List.mem_cons] at hq ⊢;exact hq.elim .inl (fun h=>.inr (.inr h)))
     refine⟨j,e,hj,h0,ho.ε uM (fun x hx e2=>?_),hm⟩;have VD:x ∈ m.filterMap (·.2.ownBlock):=List.mem_filterMap.2 ⟨q,hm,hx⟩;rcases e2 with rfl | rfl | e2
     ·exact hfl VD
     ·exact qH VD
     ·have h1:=(HL.out.bH.lt x (by rw[HG.out.2.2.1];simp only[List.mem_cons];exact .inr (.inr (.inr VD))))
      omega
    ·rcases h with h | h | h
     ·exact .inl (.inl h)
     ·exact .inl (.inr h)
     ·exact .inr oM
   go_roundw
   case rel=>exact⟨_,abG⟩
   case measure =>
    rw[abG.GX.left_eq,HS.out.GX.left_eq,JF.out];simp
theorem aj7 {w:World} {p:Nat} {d:Dk} {F:List Nat} (hD:bG w p d F) (hoff:d.off=true) :
 Calls Tryz.prog 117 #[.pointer (some ⟨p,0,none⟩)] w fun e w'=>e=.returned (.int .i64 14)∧w=w':=by
 have Ho:=Lib.hid (Sa hD hoff);clear hoff hD;go_enter Tryz.func117,Tryz.ntmps117
 go_wp2_with (go_at_call 88;refine Ho.out.mono ?_;rintro e w' ⟨rfl,rfl⟩);go_ret
 exact⟨rfl,rfl⟩
theorem alE {w:World} {p:Nat} {d:Dk} {F:List Nat} (hD:bG w p d F) (hoff:d.off=false) (hn:d.dO.2=false) :
 Calls Tryz.prog 117 #[.pointer (some ⟨p,0,none⟩)] w fun e w'=>e=.returned (.int .i64 14)∧Left w w' p d.dO.1 F F:=by
 have Ho:=Lib.hid (FV hD hoff);have Hb:=Lib.hid (aaq hD hn);clear hoff hD hn;go_enter Tryz.func117,Tryz.ntmps117
 go_wp2_with (first
  |(go_at_call 88;refine Ho.out.mono ?_;rintro e w' ⟨rfl,rfl⟩)
  |(go_at_call 170;refine Hb.out.mono ?_;rintro e w2 ⟨rfl,hL⟩))
 go_ret
 exact⟨rfl,hL⟩
theorem SR {w:World} {p:Nat} {d:Dk} {F:List Nat} (hD:bG w p d F) :
 Calls Tryz.prog 117 #[.pointer (some ⟨p,0,none⟩)] w fun e w'=>e=.returned (.int .i64 d.sync.2)∧∃F',Left w w' p d.sync.1 F F':=by
 cases hoff:d.off with
 | true =>
   refine(aj7 hD hoff).mono ?_;rintro e w' ⟨rfl,rfl⟩;exact⟨by simp[Dk.sync,hoff],F,(Left.refl hD).eq (by simp[Dk.sync,hoff])⟩
 | false =>
   cases hb:d.dO.2 with
   | true =>
     refine(aj6 hD hoff hb).mono ?_;rintro e w' ⟨rfl,F',h⟩;exact⟨by simp[Dk.sync,hoff,hb],F',h.eq (by simp[Dk.sync,hoff,hb])⟩
   | false =>
     refine(alE hD hoff hb).mono ?_;rintro e w' ⟨rfl,h⟩;exact⟨by simp[Dk.sync,hoff,hb],F,h.eq (by simp[Dk.sync,hoff,hb])⟩
def pO:ByteArray:=str (List.replicate 64 0)
theorem agQ:pO.size=64:=by unfold pO;rw[bR];simp
namespace Dk
def fresh (n:Nat):Dk := { ψ:=List.replicate n pO,waits:=List.replicate n [],bP:=-1,off:=false }
theorem aj8 (n:Nat) (h1:1≤n) (h2:n≤4096):(fresh n).wf:=by
 refine⟨by simp[fresh],by simpa [fresh] using h1,by simpa [fresh] using h2,?_,?_,by simp[fresh],by simp[fresh],?_⟩
 ·intro b hb
  have:=List.eq_of_mem_replicate hb;rw[this];exact agQ
 ·intro l hl b hb
  have:=List.eq_of_mem_replicate hl;rw[this] at hb;simp at hb
 ·simp[fresh,pend]
end Dk
theorem agR:(⟨(Lib.repeatL (⟨#[0]⟩:ByteArray).data.toList 64).toArray⟩:ByteArray)=pO:=by decide +kernel
theorem anv (n:Nat) (w:World) (h1:1≤n) (h2:n≤4096) :
 Calls Tryz.prog 25 #[.int .i64 (n:Int)] w fun e w'=>∃p F,e=.returned (.tuple #[.pointer (some ⟨p,0,none⟩),.int .i64 0])∧bG w' p (Dk.fresh n) F∧ζ (fun _=>False) w w'∧(∀k ∈ F,w.heap.size≤k):=by
 have sx:=fun W=>Tryz.strings_Repeat ⟨#[0]⟩ 64 W oM (by show 1*64≤_;omega)
 rw[agR] at sx;have Hr:=Lib.hid sx;have K1:=@run_makeMap Tryz.prog;obtain⟨i0,bx,bU,bK,aY⟩:=info_parts Jm;clear sx;go_enter Tryz.func25,Tryz.ntmps25
 go_wp2_with fail
 refine(Hr.out _).mono ?_;rintro e w1 ⟨rfl,eO⟩;have aP:η w1 (w.heap.size+1) 151 #[.slice none 0 0,.map (some w.heap.size),.int .i64 (-1),.bool false]:=(eO.block (w.heap.size+1) sM).trans (by
  have:=heap_alloc_new (w.alloc (.map #[] 0)) (.cells #[.slice none 0 0,.map (some w.heap.size),.int .i64 (-1),.bool false] 151);simpa using this)
 have hM1:cM qX w1 w.heap.size []:=((cM.new w).alloc _).dr (eO.block w.heap.size iy);have az:ζ (fun _=>False) w w1:=(((ζ.refl _ w).alloc _).alloc _).then (ζ.pM eO (fun _=>False)) (fun _ h=>h.elim);have H1:=aq aP hM1 az;clear aP hM1 az eO K1 Hr;go_wp2_with fail
 go_loopw [17] (fun i wr=>∃(k:Nat) (v:Value),k≤n∧i=.int .i64 k∧η wr (w.heap.size+1) 151 #[v,.map (some w.heap.size),.int .i64 (-1),.bool false]∧Own wr 9 1 v k (strs (List.replicate k pO))∧cM qX wr w.heap.size []∧ζ (fun _=>False) w wr∧(∀q,v.ownBlock=some q→w.heap.size≤q)) (fun i _=>n - (intOf i).toNat)
 case atStart=>exact⟨0,.slice none 0 0,oM,rfl,H1.out.1,Own.nil _ _ _,H1.out.2.1,H1.out.2.2,by simp[Value.ownBlock]⟩
 case round =>
  obtain⟨k,v,hk,rfl,hB,hO,hM,hU,hl⟩:=hrel;clear H1;by_cases hlt:k<n
  ·have hc:=hB.iE
   have hsz:=hU.size;have VE:=hB.lt;have HX:=aF hB hM hU hl;have hvp:=hO.f_ hB dC;have K4:=hO.SK hM;have HV:=τ hvp K4;clear hB hM hU hl hvp K4;go_wp2_with (first
    |(at_builtin
      refine kr rfl _ _ _ _ rfl 9 i0 _ 1 16 Tryz.underlying147 bx bU bK aY rfl v k _ rfl (hO.alloc _) _ 1 [_] rfl (Src.Bi Tryz.underlying147 _) jN ke oM ?_;intro v' w2 bL σ hl2 cn;have aD:=(HX.out.1.alloc (.cells #[.string pO] 9)).ε σ HV.out.1;have H2:=aq bL σ hl2;have hone:=bL.one;clear bL σ hl2 cn hc)
    |(refine gJ rfl 147 _ _ rfl (w.heap.size+1) 0 v' rfl rfl _ _ aD sM hone kR ?_
      intro w3 aC χ fF))
   obtain⟨bL,σ,hl2⟩:=H2.out;obtain⟨hB,hM,hU,hl⟩:=HX.out;have gG:=bL.ε χ (fun q hq e=>bL.f_ aD dC ux);have hM2:=(hM.alloc (.cells #[.string pO] 9)).ε σ HV.out.2;have PK:=hM2.ε χ (fun e=>oN (hM2.f_ aD));have au:ζ (fun _=>False) w w3:=(hU.alloc _).then (ζ.trans (H:=fun q=>v.ownBlock=some q∨q=w.heap.size+1) σ χ (fun q h=>.inl h) (fun q h=>.inl (.inr h))) (fun q h=>.inr (h.elim (fun h=>hl q h) (fun h=>by omega)));go_roundw
   case rel =>
    refine⟨k+1,v',oM,by go_num,aC,?_,PK,au,fun q hq=>?_⟩
    ·rw[List.replicate_succ']
     simpa [strs] using gG
    ·rcases hl2 with h | h
     ·exact hl q JY
     ·rw[h] at hq
      have:=Option.some.inj hq;simp at this
      omega
   case measure=>simp[intOf];omega
  ·obtain rfl:k=n:=oM
   obtain⟨g,cap,rfl,hnc,hcm⟩:=hO.head oM;go_wp2
   go_ret2
   refine⟨w.heap.size+1,[w.heap.size+1,g,w.heap.size],rfl,⟨g,cap,w.heap.size,[],?_,?_,hM,⟨fun q hq=>by simp at hq,fun i hi=>?_⟩,Dk.aj8 k h1 h2,rfl,?_⟩,hU,fun q hq=>?_⟩
   ·simpa [Dk.fresh] using hB
   ·simpa [Dk.fresh] using hO
   ·exfalso
    apply hi
    simp only[Dk.fresh,List.getD_eq_getElem?_getD,List.getElem?_replicate];split<;>rfl
   ·have h1:g≠w.heap.size+1:=fun e=>hO.f_ hB dC (by simp[Value.ownBlock,e])
    have h2:g≠w.heap.size:=fun e=>hO.SK hM (by simp[Value.ownBlock,e])
    simp only[List.nodup_cons,List.mem_cons,List.not_mem_nil,or_false,not_or,not_false_eq_true,List.nodup_nil,and_true];exact⟨⟨Ne.symm h1,oM⟩,h2⟩
   ·have:=hl g lV
    simp only[List.mem_cons,List.not_mem_nil,or_false] at hq;omega
end
end Go.Proofs.YtbhjgfibhegddaaGreat
