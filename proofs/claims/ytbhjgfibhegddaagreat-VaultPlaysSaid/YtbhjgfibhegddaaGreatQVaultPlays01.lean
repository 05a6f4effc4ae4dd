/-
  Parts of the proof of VaultPlays: ZipC, Num, Texts, Heap, Ops, Range, Own.
-/
import Derived.ChangeMaps5
import Derived.KernelRfl
import Derived.Lib.BitFns
import Derived.Lib.ConvBytes
import Derived.Lib.Hide
import Derived.Lib.ItoaNum
import Derived.MapKept
import Derived.Maps.AppendAt
import Derived.Maps.RangeRun
import Derived.Test.YtbhjgfibhegddaaGreatProg
import Derived.WalkKit
import Derived.WalkLawsBesides
import Derived.WalkSpells
set_option maxRecDepth 100000
set_option maxHeartbeats 16000000
namespace Go.Proofs.YtbhjgfibhegddaaGreat
abbrev δ:=@Go.Lib.hid
abbrev σ:=@if_pos
abbrev ν:=@if_neg
abbrev eS:=@List.length_cons
abbrev yU:=@Nat.pow_le_pow_right
abbrev aaL:=@Go.Lib.bitLenAux_bounds
abbrev xu:=@Classical.byContradiction
abbrev TS:=@Nat.add_comm
abbrev oF:=@List.cons_append
abbrev Dh:=@Nat.mul_add
abbrev JO:=@Nat.mul_comm
abbrev TT:=@List.drop_succ_cons
abbrev bJ:=@List.getD_eq_getElem?_getD
abbrev JP:=@List.getElem?_take
abbrev fF:=@List.length_take
abbrev gX:=@List.take_succ_eq_append_getElem
abbrev bD:=@List.getElem?_eq_getElem
abbrev AR:=@Prod.mk.injEq
abbrev sG:=@and_true
abbrev pL:=@List.getElem?_append_left
abbrev aL:=@List.length_append
abbrev JQ:=@List.take_left
abbrev TU:=@List.drop_left
abbrev dQ:=@List.append_assoc
abbrev gY:=@Bool.and_eq_true
abbrev dR:=@decide_eq_true_eq
abbrev gM:=@List.length_drop
abbrev xx:=@List.flatMap_cons
abbrev bQ:=@Nat.le_refl
abbrev iE:=@Nat.le_trans
abbrev nT:=@Nat.lt_of_lt_of_le
abbrev qJ:=@Go.RowKit.Below.heap_alloc
abbrev nU:=@Go.RowKit.Below.heap_setCell
abbrev Fp:=@Nat.lt_or_ge
abbrev xy:=@Array.getElem?_eq_none
abbrev Di:=@Go.cell_of_row
abbrev yV:=@Go.heap_alloc_new
abbrev ng:=@Array.getElem?_eq_some_iff
abbrev aJ:=@congrArg
abbrev rL:=@List.map_map
abbrev bZ:=@List.mem_map
abbrev Nx:=@List.nodup_nil
abbrev jY:=@List.map_cons
abbrev jw:=@List.nodup_cons
abbrev gu:=@List.getElem?_map
abbrev sH:=@List.mem_of_getElem?
abbrev cn:=@List.mem_cons
abbrev AU:=@List.getElem?_of_mem
abbrev aaN:=@List.find?_eq_none
abbrev Dj:=@List.ext_getElem?
abbrev aaM:=@Array.getElem?_modify
abbrev lK:=@if_false
abbrev kT:=@List.getElem?_eq_some_iff
abbrev sI:=@List.filter_eq_self
abbrev TV:=@List.eraseIdx_eq_take_drop_succ
abbrev ua:=@List.drop_eq_getElem_cons
abbrev AW:=@List.take_append_drop
abbrev dw:=@Option.some.inj
abbrev kG:=@List.map_append
abbrev JS:=@List.nodup_append
abbrev Ny:=@List.filter_append
abbrev Dl:=@List.filter_cons
abbrev Dm:=@List.map_take
abbrev Nz:=@List.map_drop
abbrev NA:=@Array.getElem?_eq_getElem
abbrev qK:=@Go.Sem.run_bind
abbrev TW:=@Go.Sem.run_pure
abbrev fN:=@Go.Result.andThen_ok
abbrev JT:=@Go.wpList_plain
abbrev bp:=@List.length_map
abbrev aaO:=@Array.eq_empty_of_size_eq_zero
abbrev yW:=@List.mem_filter
abbrev mC:=@Ne.symm
abbrev TX:=@List.filter_filter
abbrev aaP:=@List.filter_congr
abbrev sJ:=@List.cons.injEq
abbrev aaQ:=@Nat.mul_le_mul_right
abbrev TY:=@Array.toList_setIfInBounds
abbrev aaR:=@Go.run_firstCells_some
abbrev yX:=@List.eq_nil_of_length_eq_zero
abbrev xz:=@List.append_nil
abbrev yY:=@List.length_nil
abbrev rM:=@Nat.add_zero
abbrev TZ:=@Nat.add_mul
abbrev AX:=@List.size_toArray
abbrev T3:=@Array.toList_append
abbrev kU:=@Nat.zero_add
abbrev nW:=@List.nil_append
abbrev pM:=@Array.length_toList
abbrev yZ:=@List.map_nil
structure Τa where
instance:CoeFun Τa (fun _=>Int→Go.Value):=⟨fun _=>.int .i64⟩
def ι:Τa:=⟨⟩
structure Τb where
instance:CoeFun Τb (fun _=>Int→Go.Value):=⟨fun _=>.int .u8⟩
def ϋ:Τb:=⟨⟩
structure Τc where
instance:CoeFun Τc (fun _=>Int→Go.Value):=⟨fun _=>.int .u64⟩
def ω:Τc:=⟨⟩
structure Τi where
instance:CoeFun Τi (fun _=>Go.Value→Go.Ending):=⟨fun _=>.returned⟩
def ώ:Τi:=⟨⟩
section
open Go Go.RowKit
theorem τ {a b:Prop} (xa:a) (xb:b):Hid (a∧b):=δ ⟨xa,xb⟩
theorem aj {a b c:Prop} (xa:a) (xb:b) (xc:c):Hid (a∧b∧c):=δ ⟨xa,xb,xc⟩
theorem aD {a b c d:Prop} (xa:a) (xb:b) (xc:c) (xd:d):Hid (a∧b∧c∧d):=δ ⟨xa,xb,xc,xd⟩
theorem cx {a b c d e:Prop} (xa:a) (xb:b) (xc:c) (xd:d) (xe:e):Hid (a∧b∧c∧d∧e):=δ ⟨xa,xb,xc,xd,xe⟩
theorem gU {a b c d e f:Prop} (xa:a) (xb:b) (xc:c) (xd:d) (xe:e) (xf:f):Hid (a∧b∧c∧d∧e∧f):=δ ⟨xa,xb,xc,xd,xe,xf⟩
theorem o_ {a b c d e f g:Prop} (xa:a) (xb:b) (xc:c) (xd:d) (xe:e) (xf:f) (xg:g):Hid (a∧b∧c∧d∧e∧f∧g):=δ ⟨xa,xb,xc,xd,xe,xf,xg⟩
theorem zO {a b c d e f g h:Prop} (xa:a) (xb:b) (xc:c) (xd:d) (xe:e) (xf:f) (xg:g) (xh:h):Hid (a∧b∧c∧d∧e∧f∧g∧h):=δ ⟨xa,xb,xc,xd,xe,xf,xg,xh⟩
theorem κ {α : Type} (a : α):∃x,a=x:=⟨a,rfl⟩
theorem oM {P:Prop} (h:P:=by omega):P:=h
theorem kR {P:Prop} (h:P:=by kernel_rfl):P:=h
theorem dC {P:Prop} (h:P:=by decide):P:=h
theorem sM {P:Prop} (h:P:=by simp):P:=h
theorem aS {P:Prop} (h:P:=by assumption):P:=h
theorem oN {A P:Prop} (f:A) (h:A→P:=by intro H;omega):P:=h f
theorem oO {A B P:Prop} (f:A) (g:B) (h:A→B→P:=by intro H G;omega):P:=h f g
theorem φ {α : Sort _} {C : α → Prop} (x : α) (e:False):C x:=e.elim
end
section
open Go
def bC (n:Nat):Nat:=if n<128 then 1 else 1+bC (n / 128)
def aN (n:Nat):List UInt8:=if n<128 then [UInt8.ofNat n] else UInt8.ofNat (n % 128+128)::aN (n / 128)
def gA:List UInt8→Nat
 | []=>0
 | b::l=>b.toNat % 128+128*gA l
theorem y_ {n:Nat} (h:n<128):bC n=1:=by rw[bC,σ h]
theorem za {n:Nat} (h:128≤n):bC n=1+bC (n / 128):=by rw[bC,ν oM]
theorem Gg {n:Nat} (h:n<128):aN n=[UInt8.ofNat n]:=by rw[aN,σ h]
theorem DM {n:Nat} (h:128≤n):aN n=UInt8.ofNat (n % 128+128)::aN (n / 128):=by rw[aN,ν oM]
theorem Ks (n:Nat):1≤bC n:=by
 rw[bC];split<;>omega
theorem iF (n:Nat):(aN n).length=bC n:=by
 induction n using Nat.strongRecOn with
 | ind n ih =>
   by_cases h:n<128
   ·rw[Gg h,y_ h];rfl
   ·rw[DM oM,za oM,eS,ih (n / 128) oM];omega
theorem Dz {x:Nat} (h:x<256):(UInt8.ofNat x).toNat=x:=by simp;omega
theorem Vm (n:Nat):gA (aN n)=n:=by
 induction n using Nat.strongRecOn with
 | ind n ih =>
   by_cases h:n<128
   ·rw[Gg h]
    show (UInt8.ofNat n).toNat % 128+128*0=n;rw[Dz oM];omega
   ·rw[DM oM]
    show (UInt8.ofNat (n % 128+128)).toNat % 128+128*gA (aN (n / 128))=n;rw[Dz oM,ih (n / 128) oM];omega
theorem KC (k:Nat):∀n,bC n≤k+1↔n<128 ^ (k+1):=by
 induction k with
 | zero =>
   intro n;by_cases h:n<128
   ·rw[y_ h];simp;omega
   ·rw[za oM]
    have:=Ks (n / 128);simp;omega
 | succ k ih =>
   intro n;by_cases h:n<128
   ·rw[y_ h]
    have:128≤128 ^ (k+1+1):=by
     have:128 ^ 1≤128 ^ (k+1+1):=yU oM oM;omega
    omega
   ·rw[za oM,Nat.pow_succ]
    have h1:=ih (n / 128);rw[Nat.div_lt_iff_lt_mul oM] at h1;omega
theorem dc {n:Nat} (h:n<18446744073709551616):bC n≤10:=(KC 9 n).2 (by
 have:(128:Nat) ^ (9+1)=1180591620717411303424:=dC;omega)
theorem abC (n:Nat) (h:n<18446744073709551616):bC n=max 1 ((Lib.bitLen n+6) / 7):=by
 induction n using Nat.strongRecOn with
 | ind n ih =>
   by_cases h1:n<128
   ·rw[y_ h1]
    by_cases h0:n=0
    ·subst h0;decide
    ·have:=aaL 64 n oM h0
     have h7:Lib.bitLen n≤7:=by
      apply xu
      intro hc;have h2:2 ^ 7≤2 ^ (Lib.bitLen n - 1):=yU oM oM;have h3:2 ^ (Lib.bitLen n - 1)≤n:=this.2.1;omega
     omega
   ·rw[za oM,ih (n / 128) oM oM,Lib.bitLen_shift 7 n oM h]
    have e:n / 2 ^ 7=n / 128:=rfl;rw[e];have hp:1≤Lib.bitLen (n / 128):=(aaL 64 (n / 128) oM oM).1;omega
def dN:List UInt8→Nat→Nat
 | b::l,k+1=>if 128≤b.toNat then 1+dN l k else 0
 | _,_=>0
theorem OW (l:List UInt8) (k:Nat):dN l k≤k∧dN l k≤l.length:=by
 induction l generalizing k with
 | nil=>cases k<;>simp[dN]
 | cons b l ih =>
   cases k with
   | zero=>simp[dN]
   | succ k =>
     have:=ih k;unfold dN;split<;>simp<;>omega
theorem UQ (l:List UInt8) (k i:Nat) (h:i<dN l k):128≤(l.getD i 0).toNat:=by
 induction l generalizing k i with
 | nil=>cases k<;>simp[dN] at h
 | cons b l ih =>
   cases k with
   | zero=>simp[dN] at h
   | succ k =>
     unfold dN at h;split at h
     ·rename_i hb
      cases i with
      | zero=>simpa using hb
      | succ i=>simpa using ih k i oM
     ·omega
theorem N_ (l:List UInt8) (k:Nat) (h:dN l k<k) (h2:dN l k<l.length):(l.getD (dN l k) 0).toNat<128:=by
 induction l generalizing k with
 | nil=>simp at h2
 | cons b l ih =>
   cases k with
   | zero=>omega
   | succ k =>
     by_cases hb:128≤b.toNat
     ·have e:dN (b::l) (k+1)=1+dN l k:=by show (if 128≤b.toNat then _ else _)=_;rw[σ hb]
      rw[e] at h h2 ⊢;have:=ih k oM (by simp at h2;omega);rw[TS];simpa using this
     ·have e:dN (b::l) (k+1)=0:=by show (if 128≤b.toNat then _ else _)=_;rw[ν hb]
      rw[e];simp;omega
theorem V2 (l:List UInt8) (k c:Nat) (hk:c≤k) (hl:c≤l.length) (hg:∀i,i<c→128≤(l.getD i 0).toNat) (he:c=k∨c=l.length∨(l.getD c 0).toNat<128):dN l k=c:=by
 have h1:=OW l k;rcases Nat.lt_trichotomy (dN l k) c with h | h | h
 ·have:=N_ l k oM oM
  have:=hg _ h;omega
 ·exact h
 ·have:=UQ l k c h
  omega
def fZ (s:List UInt8):Nat × Nat × Int :=
 if dN s 10=10 then (0,0,8) else if dN s 10=s.length then (0,0,7) else if dN s 10=9∧1<(s.getD 9 0).toNat then (0,0,8) else
 if bC (gA (s.take (dN s 10+1)))=dN s 10+1 then (gA (s.take (dN s 10+1)),dN s 10+1,0) else (0,0,8)
theorem aeK (a b:List UInt8):gA (a++b)=gA a+128 ^ a.length*gA b:=by
 induction a with
 | nil=>simp[gA]
 | cons x a ih =>
   simp only[oF,gA,ih,eS];rw[Nat.pow_succ,Dh,JO (128 ^ a.length) 128,Nat.mul_assoc];omega
theorem WB (l:List UInt8):gA l<128 ^ l.length:=by
 induction l with
 | nil=>simp[gA]
 | cons x l ih =>
   simp only[gA,eS];rw[Nat.pow_succ];omega
theorem adl (l:List UInt8) (i:Nat):gA (l.drop i)≤gA l:=by
 induction l generalizing i with
 | nil=>simp
 | cons x l ih =>
   cases i with
   | zero=>simp
   | succ i =>
     have:=ih i;simp only[TT,gA];omega
theorem aeL (s:List UInt8) (hs:s≠[]) (hg:∀i,i+1<s.length→128≤(s.getD i 0).toNat) (he:(s.getD (s.length - 1) 0).toNat<128):aN (gA s)=s↔bC (gA s)=s.length:=by
 constructor
 ·intro h
  rw[← iF,h]
 ·induction s with
  | nil=>exact absurd rfl hs
  | cons b l ih =>
    intro hz;have hb:=b.toNat_lt;cases l with
    | nil =>
      have he':b.toNat<128:=by simpa using he
      have:gA [b]=b.toNat:=by simp only[gA];omega
      rw[this,Gg he'];simp
    | cons c l =>
      have ec:=hg 0 sM;simp only[List.getD_cons_zero] at ec;have hge:128≤gA (b::c::l):=by
       apply xu
       intro hc;rw[y_ oM] at hz;simp at hz
      have hd:gA (b::c::l) / 128=gA (c::l):=by
       show (b.toNat % 128+128*gA (c::l)) / 128=_;omega
      have hm:gA (b::c::l) % 128=b.toNat % 128:=by
       show (b.toNat % 128+128*gA (c::l)) % 128=_;omega
      rw[za hge,hd,eS] at hz;rw[DM hge,hd,hm,ih sM (fun i hi=>by
       have:=hg (i+1) (by simp at hi ⊢;omega);simpa using this) (by simpa using he) oM]
      congr 1
      have e:b.toNat % 128+128=b.toNat:=oM;rw[e];simp
theorem adm (n i:Nat) (h:i+1<bC n):128≤((aN n).getD i 0).toNat:=by
 induction n using Nat.strongRecOn generalizing i with
 | ind n ih =>
   by_cases h1:n<128
   ·rw[y_ h1] at h;omega
   ·rw[za oM] at h
    rw[DM oM];cases i with
    | zero =>
      rw[List.getD_cons_zero,Dz oM];omega
    | succ i=>simpa using ih (n / 128) oM i oM
theorem adn (n:Nat):((aN n).getD (bC n - 1) 0).toNat<128:=by
 induction n using Nat.strongRecOn with
 | ind n ih =>
   by_cases h1:n<128
   ·rw[y_ h1,Gg h1]
    show (UInt8.ofNat n).toNat<128;rw[Dz oM];exact h1
   ·have hp:=Ks (n / 128)
    rw[za oM,DM oM];have e:1+bC (n / 128) - 1=(bC (n / 128) - 1)+1:=oM;rw[e,List.getD_cons_succ];exact ih (n / 128) oM
theorem Oa (l:List UInt8) (n i:Nat) (h:i<n):(l.take n).getD i 0=l.getD i 0:=by
 rw[bJ,bJ,JP,σ h]
theorem Ou:(128:Nat) ^ 9=9223372036854775808:=dC
theorem UR {s:List UInt8} (h1:dN s 10≠10) (h2:dN s 10≠s.length) :
 (s.take (dN s 10+1)).length=dN s 10+1∧(∀i,i+1<(s.take (dN s 10+1)).length→128≤((s.take (dN s 10+1)).getD i 0).toNat)∧((s.take (dN s 10+1)).getD ((s.take (dN s 10+1)).length - 1) 0).toNat<128:=by
 have hle:=OW s 10;have hl:(s.take (dN s 10+1)).length=dN s 10+1:=by rw[fF];omega
 refine⟨hl,fun i hi=>?_,?_⟩
 ·rw[hl] at hi
  rw[Oa _ _ _ oM];exact UQ s 10 i oM
 ·rw[hl,Nat.add_sub_cancel,Oa _ _ _ oM]
  exact N_ s 10 oM oM
theorem Pe {s:List UInt8} (h1:dN s 10≠10) (h2:dN s 10≠s.length):gA (s.take (dN s 10+1))<18446744073709551616↔¬(dN s 10=9∧1<(s.getD 9 0).toNat):=by
 obtain⟨hl,hg,he⟩:=UR h1 h2;have hle:=OW s 10;by_cases h9:dN s 10=9
 ·have e:s.take (dN s 10+1)=s.take 9++[s.getD 9 0]:=by
   rw[h9,gX oM,bJ,bD oM];rfl
  have h128:(s.getD 9 0).toNat<128:=by
   have:=N_ s 10 oM oM;rw[h9] at this;exact this
  have hlt:=WB (s.take 9);have hl9:(s.take 9).length=9:=by rw[fF];omega
  rw[e,aeK,hl9,Ou];rw[hl9,Ou] at hlt;have ev:gA [s.getD 9 0]=(s.getD 9 0).toNat:=by simp only[gA];omega
  rw[ev];constructor
  ·rintro h ⟨-,hc⟩
   omega
  ·intro h
   have:(s.getD 9 0).toNat≤1:=by
    apply xu
    intro hc;exact h ⟨h9,oM⟩
   omega
 ·have hlt:=WB (s.take (dN s 10+1))
  rw[hl] at hlt;have hp:128 ^ (dN s 10+1)≤128 ^ 9:=yU oM oM;rw[Ou] at hp;constructor
  ·rintro - ⟨hc,-⟩
   exact h9 hc
  ·intro _
   omega
theorem ahy {s:List UInt8} {n k:Nat} (h:fZ s=(n,k,0)):n<18446744073709551616∧k=bC n∧k≤s.length∧s.take k=aN n:=by
 unfold fZ at h;split at h
 ·simp at h
 rename_i h1
 split at h
 ·simp at h
 rename_i h2
 split at h
 ·simp at h
 rename_i h3
 obtain⟨hl,hg,he⟩:=UR h1 h2;have hv:=(Pe h1 h2).2 h3;split at h
 ·rename_i h4
  simp only[AR,sG] at h;obtain⟨h5,h6⟩:=h;have hp:=(aeL _ (fun e=>by rw[e] at hl;simp at hl) hg he).2 (by rw[h4,hl])
  rw[fF] at hl;rw[h5] at hp h4 hv;rw[h6] at hp h4;exact⟨hv,h4.symm,oM,hp.symm⟩
 ·simp at h
theorem WC (s:List UInt8):((fZ s).2.2=0)∨fZ s=(0,0,7)∨fZ s=(0,0,8):=by
 unfold fZ;split
 ·simp
 split
 ·simp
 split
 ·simp
 split<;>simp
theorem WD (n:Nat) (hn:n<18446744073709551616) (r:List UInt8):fZ (aN n++r)=(n,bC n,0):=by
 have hl:=iF n;have hp:=Ks n;have h10:=dc hn;have rW:∀i,i<bC n→(aN n++r).getD i 0=(aN n).getD i 0:=by
  intro i hi;rw[bJ,bJ,pL oM]
 have hc:dN (aN n++r) 10=bC n - 1:=V2 _ _ _ oM (by rw[aL];omega)
  (fun i hi=>by rw[rW i oM];exact adm n i oM)
  (.inr (.inr (by rw[rW _ oM];exact adn n)))
 have h1:dN (aN n++r) 10≠10:=oM;have h2:dN (aN n++r) 10≠(aN n++r).length:=by rw[aL];omega
 have ht:(aN n++r).take (dN (aN n++r) 10+1)=aN n:=by
  rw[hc,Nat.sub_add_cancel hp,← hl,JQ]
 have hv:=(Pe h1 h2).1 (by rw[ht,Vm];exact hn);unfold fZ;rw[ν h1,ν h2,ν hv,ht,Vm,σ oM,hc,Nat.sub_add_cancel hp]
structure dW where
 rest:List UInt8
 read:Nat
 fail:Int
def iH (s:List UInt8) (m:Nat):Nat × Nat × Int :=
 if (fZ s).2.2=0 then (if (fZ s).1≤m then fZ s else (0,0,8)) else (0,0,(fZ s).2.2)
theorem V3 {s:List UInt8} {m n k:Nat} (h:iH s m=(n,k,0)):n≤m∧fZ s=(n,k,0):=by
 unfold iH at h;split at h
 ·split at h
  ·rename_i h1 h2
   rw[h] at h2;exact⟨h2,h⟩
  ·simp at h
 ·rename_i h1
  simp only[AR] at h;exact absurd h.2.2 h1
theorem Vn (s:List UInt8) (m:Nat):(iH s m).2.2=0∨iH s m=(0,0,7)∨iH s m=(0,0,8):=by
 unfold iH;rcases WC s with h | h | h
 ·rw[σ h]
  split
  ·exact .inl h
  ·exact .inr (.inr rfl)
 ·rw[h];exact .inr (.inl rfl)
 ·rw[h];exact .inr (.inr rfl)
theorem Vo (n m:Nat) (hn:n<18446744073709551616) (hm:n≤m) (r:List UInt8):iH (aN n++r) m=(n,bC n,0):=by
 unfold iH;rw[WD n hn r];simp[hm]
def dW.most (x:dW) (m:Nat):Nat × dW :=
 if x.fail=0 then (if (iH x.rest m).2.2=0 then ((iH x.rest m).1,⟨x.rest.drop (iH x.rest m).2.1,x.read+(iH x.rest m).2.1,0⟩) else (0,⟨x.rest,x.read,(iH x.rest m).2.2⟩)) else (0,x)
theorem DA (n m k:Nat) (hn:n<18446744073709551616) (hm:n≤m) (r:List UInt8):(⟨aN n++r,k,0⟩:dW).most m=(n,⟨r,k+bC n,0⟩):=by
 unfold dW.most;simp only[Vo n m hn hm r,σ];rw[← iF n,TU]
def bF (t:List UInt8):List UInt8:=aN t.length++t
def dW.num (x:dW):Nat × dW :=
 if x.fail=0 then (if (fZ x.rest).2.2=0 then ((fZ x.rest).1,⟨x.rest.drop (fZ x.rest).2.1,x.read+(fZ x.rest).2.1,0⟩) else (0,⟨x.rest,x.read,(fZ x.rest).2.2⟩)) else (0,x)
def Lh (s:List UInt8) (m:Nat):Int:=if (iH s m).2.2≠0 then (iH s m).2.2 else if s.length - (iH s m).2.1<(iH s m).1 then 7 else 0
def dW.text (x:dW) (m:Nat):List UInt8 × dW :=
 if x.fail=0 then (if Lh x.rest m=0 then ((x.rest.drop (iH x.rest m).2.1).take (iH x.rest m).1,⟨x.rest.drop ((iH x.rest m).2.1+(iH x.rest m).1),x.read+((iH x.rest m).2.1+(iH x.rest m).1),0⟩) else ([],⟨x.rest,x.read,Lh x.rest m⟩)) else ([],x)
def dW.byte (x:dW):UInt8 × dW :=
 if x.fail=0 then (if x.rest=[] then (0,⟨x.rest,x.read,7⟩) else (x.rest.getD 0 0,⟨x.rest.drop 1,x.read+1,0⟩)) else (0,x)
theorem V4 (n k:Nat) (hn:n<18446744073709551616) (r:List UInt8):(⟨aN n++r,k,0⟩:dW).num=(n,⟨r,k+bC n,0⟩):=by
 unfold dW.num;simp only[WD n hn r,σ];rw[← iF n,TU]
theorem F9 (t:List UInt8) (m k:Nat) (ht:t.length≤m) (hn:t.length<18446744073709551616) (r:List UInt8):(⟨bF t++r,k,0⟩:dW).text m=(t,⟨r,k+(bF t).length,0⟩):=by
 have h1:iH (bF t++r) m=(t.length,bC t.length,0):=by
  unfold bF;rw[dQ];exact Vo _ _ hn ht _
 have hl:(bF t).length=bC t.length+t.length:=by unfold bF;rw[aL,iF]
 unfold dW.text;simp only
 rw[σ trivial,σ (by unfold Lh;rw[h1];simp only;rw[ν sM,ν (by rw[aL,hl];omega)]),h1];simp only
 rw[← hl,TU];have e:(bF t++r).drop (bC t.length)=t++r:=by
  unfold bF;rw[dQ,← iF,TU]
 rw[e,JQ]
theorem Kt (b:UInt8) (k:Nat) (r:List UInt8):(⟨b::r,k,0⟩:dW).byte=(b,⟨r,k+1,0⟩):=by
 unfold dW.byte;simp
theorem iT (t:List UInt8):(bF t).length=bC t.length+t.length:=by unfold bF;rw[aL,iF]
theorem kY {n:Nat} (h:n<16384):bC n≤2:=(KC 1 n).2 (by simpa using h)
def nx (s:List UInt8):Bool:=decide (1≤s.length∧s.length≤8) && s.all fun c=>decide (97≤c.toNat∧c.toNat≤122)
def sY (s:List UInt8):Bool:=decide (1≤s.length∧s.length≤24) && s.all fun c=>decide (c≠0∧c≠47)
def iJ (p:List UInt8):List UInt8:=p.takeWhile (· != 47)
def mI (p:List UInt8):List UInt8 × List UInt8 × Bool :=
 if (iJ p).length<p.length∧nx (iJ p)=true∧sY (p.drop ((iJ p).length+1))=true then (iJ p,p.drop ((iJ p).length+1),true) else ([],[],false)
def jg (p:List UInt8):Bool:=(mI p).2.2
theorem Dv {p:List UInt8} (h:jg p=true):p.length≤33:=by
 unfold jg mI at h;split at h
 ·rename_i h1
  obtain⟨h1,h2,h3⟩:=h1;unfold nx at h2;unfold sY at h3;simp only[gY,dR,gM] at h2 h3;omega
 ·simp at h
structure cT where
 kind:UInt8
 path:List UInt8
 value:List UInt8
def iK (o:cT):Int:=if o.kind≠1∧o.kind≠2 then 10 else if jg o.path=false then 20 else if 32<o.value.length then 3 else if o.kind=2∧o.value≠[] then 1 else 0
def oQ:List cT→Int
 | []=>0
 | o::r=>if iK o≠0 then iK o else oQ r
def d_ (i e:Int) (l:List cT):Int:=if i<1∨4611686018427387904<i∨e<1 then 1 else if 4<l.length then 3 else oQ l
theorem abT {l:List cT} : oQ l=0↔∀o ∈ l,iK o=0:=by
 induction l with
 | nil=>simp[oQ]
 | cons o r ih =>
   unfold oQ;by_cases h:iK o=0
   ·rw[ν (by simp[h]),ih];simp[h]
   ·rw[σ h];simp[h]
theorem sP {i e:Int} {l:List cT} (h:d_ i e l=0):1≤i∧i≤4611686018427387904∧1≤e∧l.length≤4∧∀o ∈ l,iK o=0:=by
 unfold d_ at h;split at h
 ·simp at h
 ·split at h
  ·simp at h
  ·exact⟨oM,oM,oM,oM,abT.1 h⟩
theorem Be {o:cT} (h:iK o=0):(o.kind=1∨o.kind=2)∧jg o.path=true∧o.path.length≤33∧o.value.length≤32∧(o.kind=2→o.value=[]):=by
 unfold iK at h;split at h
 ·simp at h
 ·split at h
  ·simp at h
  ·split at h
   ·simp at h
   ·split at h
    ·simp at h
    ·rename_i h1 h2 h3 h4
     have hp:jg o.path=true:=by simpa using h2
     refine⟨?_,hp,Dv hp,oM,fun hk=>?_⟩
     ·apply xu
      intro hc;exact h1 ⟨fun e=>hc (.inl e),fun e=>hc (.inr e)⟩
     ·apply xu
      intro hc;exact h4 ⟨hk,hc⟩
def yf (o:cT):List UInt8:=o.kind::(bF o.path++if o.kind=1 then bF o.value else [])
def iX (l:List cT):List UInt8:=l.flatMap yf
def xQ (i e:Nat) (l:List cT):List UInt8:=aN i++(aN e++(aN l.length++iX l))
theorem agx {o:cT} (h:iK o=0):(yf o).length≤70:=by
 obtain⟨-,-,h1,h2,-⟩:=Be h;have a:=kY (n:=o.path.length) oM;have b:=kY (n:=o.value.length) oM;unfold yf;rw[eS,aL,iT];split
 ·rw[iT];omega
 ·simp;omega
theorem OX {l:List cT} (h:∀o ∈ l,iK o=0):(iX l).length≤70*l.length:=by
 induction l with
 | nil=>simp[iX]
 | cons o r ih =>
   have h1:=agx (h o sM);have h2:=ih fun p hp=>h p (by simp[hp])
   have e:iX (o::r)=yf o++iX r:=rfl;rw[e,aL,eS];omega
theorem aeM {i e:Nat} {l:List cT} (hi:i<18446744073709551616) (he:e<18446744073709551616) (hl:l.length≤4) (h:∀o ∈ l,iK o=0):(xQ i e l).length≤310:=by
 have h1:=dc hi;have h2:=dc he;have h3:=kY (n:=l.length) oM;have h4:=OX h;unfold xQ;rw[aL,aL,aL,iF,iF,iF];omega
abbrev ai:=List UInt8 × List UInt8
def kH (p:ai):List UInt8:=bF p.1++bF p.2
def ke (l:List ai):List UInt8:=aN l.length++l.flatMap kH
theorem Ov {l:List ai} {a b:Nat} (ha:a<16384) (hb:b<16384) (h:∀p ∈ l,p.1.length≤a∧p.2.length≤b):(l.flatMap kH).length≤(a+b+4)*l.length:=by
 induction l with
 | nil=>simp
 | cons p r ih =>
   obtain⟨h1,h2⟩:=h p sM;have h3:=ih fun q hq=>h q (by simp[hq])
   have c:=kY (n:=p.1.length) oM;have d:=kY (n:=p.2.length) oM;have e:(kH p).length≤a+b+4:=by
    unfold kH;rw[aL,iT,iT];omega
   rw[xx,aL,eS,Nat.mul_succ];omega
end
section
open Go Go.RowKit Go.MapKept
open Go.ChangeMaps (setBlock)
structure ζ (F:Nat→Prop) (w w':World):Prop where
 os:w'.os=w.os
 tape:w'.tape=w.tape
 output:w'.output=w.output
 size:w.heap.size≤w'.heap.size
 block:∀k,k<w.heap.size→¬F k→w'.heap[k]? = w.heap[k]?
structure Τd where
instance:CoeFun Τd (fun _=>World→World→Prop):=⟨fun _=>ζ (fun _=>False)⟩
def υ:Τd:=⟨⟩
section
variable {F G H:Nat→Prop} {w w1 w2 w':World}
theorem ζ.refl (F:Nat→Prop) (w:World):ζ F w w:=⟨rfl,rfl,rfl,bQ _,fun _ _ _=>rfl⟩
theorem ζ.trans (h:ζ F w w1) (k:ζ G w1 w2) (hF:∀b,F b→H b) (hG:∀b,G b→H b∨w.heap.size≤b):ζ H w w2 :=
 ⟨k.os.trans h.os,k.tape.trans h.tape,k.output.trans h.output,iE h.size k.size,fun b hb hn =>
  (k.block b (nT hb h.size) (fun e=>(hG b e).elim hn (fun e=>by omega))).trans (h.block b hb (fun e=>hn (hF b e)))⟩
theorem ζ.mono (h:ζ F w w1) (hF:∀b,F b→G b∨w.heap.size≤b):ζ G w w1 :=
 ⟨h.os,h.tape,h.output,h.size,fun b hb hn=>h.block b hb (fun e=>(hF b e).elim hn (fun e=>by omega))⟩
theorem ζ.drew (h:ζ F w w1):ζ F w w1.drew:=⟨h.os,h.tape,h.output,h.size,h.block⟩
theorem ζ.drewN (h:ζ F w w1) (n:Nat):ζ F w (w1.drewN n):=⟨h.os,h.tape,h.output,h.size,h.block⟩
theorem ζ.alloc (h:ζ F w w1) (o:Obj):ζ F w (w1.alloc o) :=
 ⟨h.os,h.tape,h.output,iE h.size sM,fun b hb hn=>(qJ w1 o b (nT hb h.size)).trans (h.block b hb hn)⟩
theorem ζ.setCell (h:ζ F w w1) {p:Addr} (hp:F p.block∨w.heap.size≤p.block) (u:Value):ζ F w (w1.setCell p u) :=
 ⟨h.os,h.tape,h.output,by simpa [World.setCell] using h.size,fun b hb hn=>(nU w1 p u b (by
  rintro rfl;rcases hp with hp | hp
  ·exact hn hp
  ·omega)).trans (h.block b hb hn)⟩
theorem ζ.oI (h:Below w.heap.size w w1) (F:Nat→Prop):ζ F w w1:=⟨h.os,h.tape,h.output,h.size,fun b hb _=>h.block b hb⟩
theorem ζ.below (h:ζ F w w1) (hF:∀b,F b→w.heap.size≤b):Below w.heap.size w w1 :=
 ⟨h.os,h.tape,h.output,h.size,fun b hb=>h.block b hb (fun e=>by have:=hF b e;omega)⟩
theorem ζ.then (h:ζ F w w1) (k:ζ G w1 w2) (hG:∀b,G b→F b∨w.heap.size≤b):ζ F w w2:=h.trans k (fun _ e=>e) hG
end
def η (w:World) (g:Nat) (t:TypeId) (cs:Array Value):Prop:=w.heap[g]? = some (.cells cs t (0,0))
section
variable {w w':World} {g:Nat} {t:TypeId} {cs:Array Value}
theorem η.lt (h:η w g t cs):g<w.heap.size:=by
 rcases Fp g w.heap.size with hlt | hge
 ·exact hlt
 ·unfold η at h;rw[xy hge] at h;cases h
theorem η.cell (h:η w g t cs) (i:Nat):w.cell? ⟨g,i,none⟩=cs[i]? := Di w g i cs t (0,0) h
theorem η.frozen (h:η w g t cs) (i:Nat):w.frozen? ⟨g,i,none⟩=false:=by
 unfold η at h;simp[World.frozen?,h]
theorem η.new (w:World) (t:TypeId) (cs:Array Value):η (w.alloc (.cells cs t)) w.heap.size t cs:=yV w _
theorem η.drew (h:η w g t cs):η w.drew g t cs:=h
theorem η.drewN (h:η w g t cs) (n:Nat):η (w.drewN n) g t cs:=h
theorem η.alloc (h:η w g t cs) (o:Obj):η (w.alloc o) g t cs:=(qJ w o g h.lt).trans h
theorem η.bE (h:η w g t cs) (i:Nat) (u:Value):η (w.setCell ⟨g,i,none⟩ u) g t (cs.setIfInBounds i u):=by
 unfold η at h ⊢;simp[World.setCell,Array.getElem?_modify,h]
theorem η.bP (h:η w g t cs) {p:Addr} (hp:g≠p.block) (u:Value):η (w.setCell p u) g t cs:=(nU w p u g hp).trans h
theorem η.ε {F:Nat→Prop} (h:η w g t cs) (hb:ζ F w w') (hg:¬F g):η w' g t cs:=(hb.block g h.lt hg).trans h
theorem η.cU (h:η w g t cs) (hb:w'.heap[g]? = w.heap[g]?):η w' g t cs:=hb.trans h
theorem η.zP {g':Nat} {t':TypeId} {cs':Array Value} (h:η w g t cs) (h':η w g' t' cs') (hne:t≠t'):g≠g':=by
 rintro rfl;unfold η at h h';rw[h] at h';injection h' with h';injection h' with _ ht;exact hne ht
end
structure zq {α : Type} (d:TypeDesc) (inj : α → Value):Prop where
 isKey:∀a,IsKey d (inj a)
 inj:∀a b,inj a=inj b→a=b
theorem ahz (k:IntKind):zq (.int k) (fun i:Int=>Value.int k i):=⟨fun _=>rfl,fun _ _ h=>by injection h⟩
theorem DS:zq .string (fun s:ByteArray=>Value.string s):=⟨fun _=>trivial,fun _ _ h=>by injection h⟩
def cA {α : Type} (inj : α → Value) (w:World) (b:Nat) (m:List (α × Value)):Prop :=
 ∃es clock,w.heap[b]? = some (.map es clock)∧Stamped es clock∧es.toList.map (fun e=>(e.key,e.val))=m.map (fun p=>(inj p.1,p.2))
def lQ {α : Type} [DecidableEq α] (m:List (α × Value)) (a : α) (v:Value):List (α × Value) :=
 if a ∈ m.map (·.1) then m.map (fun p=>if p.1=a then (a,v) else p) else m++[(a,v)]
def nH {α : Type} [DecidableEq α] (m:List (α × Value)) (a : α):List (α × Value):=m.filter (fun p=>p.1≠a)
def nI {α : Type} [DecidableEq α] (m:List (α × Value)) (a : α):Option Value:=(m.find? (fun p=>p.1=a)).map (·.2)
section
variable {α : Type} {inj : α → Value} {d:TypeDesc} {w w':World} {b:Nat} {m:List (α × Value)}
theorem cA.lt (h:cA inj w b m):b<w.heap.size:=by
 obtain⟨es,clock,hb,_⟩:=h;exact(ng.1 hb).1
theorem cA.cU (h:cA inj w b m) (hb:w'.heap[b]? = w.heap[b]?):cA inj w' b m:=by
 obtain⟨es,clock,h1,h2⟩:=h;exact⟨es,clock,hb.trans h1,h2⟩
theorem cA.ε {F:Nat→Prop} (h:cA inj w b m) (hu:ζ F w w') (hn:¬F b):cA inj w' b m:=h.cU (hu.block b h.lt hn)
theorem cA.drew (h:cA inj w b m):cA inj w.drew b m:=h
theorem cA.alloc (h:cA inj w b m) (o:Obj):cA inj (w.alloc o) b m:=h.cU (qJ w o b h.lt)
theorem cA.bP (h:cA inj w b m) {p:Addr} (hp:b≠p.block) (u:Value):cA inj (w.setCell p u) b m:=h.cU (nU w p u b hp)
theorem cA.new (w:World):cA inj (w.alloc (.map #[] 0)) w.heap.size []:=⟨#[],0,yV w _,stamped_empty 0,rfl⟩
theorem cA.fO {g:Nat} {t:TypeId} {cs:Array Value} (h:cA inj w b m) (h':η w g t cs):b≠g:=by
 rintro rfl;obtain⟨es,clock,h1,_⟩:=h;unfold η at h';rw[h1] at h';cases h'
theorem Bq {es:List MapEntry} (h:es.map (fun e=>(e.key,e.val))=m.map (fun p=>(inj p.1,p.2))):es.map (·.key)=m.map (fun p=>inj p.1):=by
 have:=aJ (List.map Prod.fst) h;simp only[rL] at this;exact this
theorem Ku (K:zq d inj) {es:List MapEntry} (h:es.map (fun e=>(e.key,e.val))=m.map (fun p=>(inj p.1,p.2))):∀x ∈ es,IsKey d x.key:=by
 intro x hx;have h1:x.key ∈ es.map (·.key):=bZ.2 ⟨x,hx,rfl⟩;rw[Bq h] at h1;obtain⟨p,_,hp⟩:=bZ.1 h1;rw[← hp];exact K.isKey _
theorem Du {β γ : Type} {f : β → γ} : ∀ {l:List β},(l.map f).Nodup→l.Nodup
 | [],_=>Nx
 | x::l,h=>by
   simp only[jY,jw] at h ⊢;exact⟨fun e=>h.1 (bZ.2 ⟨x,e,rfl⟩),Du h.2⟩
theorem cA.nodup (h:cA inj w b m):(m.map (·.1)).Nodup:=by
 obtain⟨es,clock,_,hs,hm⟩:=h;have h3:=hs.2.2;rw[Bq hm] at h3;have h4:((m.map (·.1)).map inj).Nodup:=by rw[rL];exact h3
 exact Du h4
theorem F_ {es:List MapEntry} (hm:es.map (fun e=>(e.key,e.val))=m.map (fun p=>(inj p.1,p.2))) (j:Nat) (e:MapEntry) (he:es[j]? = some e) :
 ∃p,m[j]? = some p∧e.key=inj p.1∧e.val=p.2:=by
 have h1:(es.map (fun e=>(e.key,e.val)))[j]? = some (e.key,e.val):=by simp[he]
 rw[hm] at h1;simp only[gu,Option.map_eq_some_iff,AR] at h1;obtain⟨p,hp,h2,h3⟩:=h1;exact⟨p,hp,h2.symm,h3.symm⟩
variable [DecidableEq α]
theorem Ow {a : α} (hn:(m.map (·.1)).Nodup) {j:Nat} {v:Value} (h:m[j]? = some (a,v)):nI m a=some v:=by
 unfold nI;have hmem:(a,v) ∈ m:=sH h;induction m generalizing j with
 | nil=>simp at h
 | cons q m ih =>
   simp only[jY,jw] at hn;by_cases hq:q.1=a
   ·have:q=(a,v):=by
     rcases cn.1 hmem with e | e
     ·exact e.symm
     ·exact absurd (show a ∈ m.map (·.1) from bZ.2 ⟨_,e,rfl⟩) (by rw[← hq];exact hn.1)
    simp[this]
   ·have Gy:(a,v) ∈ m:=by
     rcases cn.1 hmem with e | e
     ·exact absurd (by rw[← e]) hq
     ·exact e
    obtain⟨j',hj'⟩:=AU Gy;simp only[List.find?_cons,hq,decide_false];exact ih hn.2 hj' Gy
theorem Ox {a : α} (h:∀p ∈ m,p.1≠a):nI m a=none:=by
 unfold nI;have:m.find? (fun p=>decide (p.1=a))=none:=by
  simp only[aaN,dR];exact h
 rw[this];rfl
theorem cA.FO {P:Program} {mty kt et:TypeId} (h:cA inj w b m) (K:zq d inj) (hm:P.underlying mty=some (.map kt et)) (hd:P.underlying kt=some d) (a : α) (ok:Bool)
 {z:Value} (hz:(zeroValue et).run P w=.ok z w) :
 (Instr.lookup mty (.map (some b)) (inj a) ok).run P w=.ok (if ok then .tuple #[(nI m a).getD z,.bool (nI m a).isSome] else (nI m a).getD z) w:=by
 have hn:=h.nodup;obtain⟨es,clock,hb,hs,he⟩:=h;rcases findNow_spec (K.isKey a) es.toList 0 (Ku K he) with ⟨h1,h2⟩ | ⟨j,e,h1,h2,h3⟩
 ·have hg:nI m a=none:=Ox fun p hp hpa=>by
   have h4:inj p.1 ∈ es.toList.map (·.key):=by rw[Bq he];exact bZ.2 ⟨p,hp,rfl⟩
   obtain⟨x,hx,tq⟩:=bZ.1 h4;exact h2 x hx (by rw[tq,hpa])
  cases ok<;>simp[Instr.lookup,run_underlying hm,MapKept.run_getObj_map hb,run_checkKey hd (K.isKey a),run_findKey hd h1,hz,hg,Result.andThen]
 ·obtain⟨p,hp,hk,hv⟩:=F_ he j e h2
  have hpa:p.1=a:=K.inj _ _ (by rw[← hk,h3]);have hg:nI m a=some e.val:=Ow hn (j:=j) (by rw[hp,hv,← hpa]);cases ok<;>simp[Instr.lookup,run_underlying hm,MapKept.run_getObj_map hb,run_checkKey hd (K.isKey a),run_findKey hd h1,hg,Result.andThen]
theorem cA.Kl {P:Program} {mty kt et:TypeId} (h:cA inj w b m) (K:zq d inj) (hm:P.underlying mty=some (.map kt et)) (hd:P.underlying kt=some d) (a : α) (v:Value) :
 ∃w',(Instr.mapUpdate mty (.map (some b)) (inj a) v).run P w=.ok () w'∧cA inj w' b (lQ m a v)∧ζ (· = b) w w'∧w'.heap.size=w.heap.size:=by
 have hn:=h.nodup;obtain⟨es,clock,hb,hs,he⟩:=h;have GR:∀o,ζ (· = b) w { w with heap:=w.heap.setIfInBounds b o } := fun o=>⟨rfl,rfl,rfl,sM,fun k _ hk=>(heap_set hb).2 k hk⟩
 rcases findNow_spec (K.isKey a) es.toList 0 (Ku K he) with ⟨h1,h2⟩ | ⟨j,e,h1,h2,h3⟩
 ·refine⟨{ w with heap:=w.heap.setIfInBounds b (.map (es.push { key:=inj a,val:=v,born:=clock }) (clock+1)) },?_,⟨_,_,(heap_set hb).1,stamped_push hs h2,?_⟩,GR _,sM⟩
  ·simp[Instr.mapUpdate,run_underlying hm,MapKept.run_getObj_map hb,run_checkKey hd (K.isKey a),run_findKey hd h1,MapKept.run_setObj_map _ hb,Result.andThen]
  ·have hna:a ∉ m.map (·.1):=fun hmem=>by
    obtain⟨p,hp,hpa⟩:=bZ.1 hmem;have h4:inj p.1 ∈ es.toList.map (·.key):=by rw[Bq he];exact bZ.2 ⟨p,hp,rfl⟩
    obtain⟨x,hx,tq⟩:=bZ.1 h4;exact h2 x hx (by rw[tq,hpa])
   unfold lQ;rw[ν hna];simp[he]
 ·have hj:es[j]? = some e:=by simpa using h2
  obtain⟨p,hp,hk,hv⟩:=F_ he j e h2;have hpa:p.1=a:=K.inj _ _ (by rw[← hk,h3]);have hkey:∀e',es[j]? = some e'→({ e' with key:=inj a,val:=v } : MapEntry).key=e'.key:=fun e' he'=>by rw[hj] at he';cases he';exact h3.symm
  refine⟨{ w with heap:=w.heap.setIfInBounds b (.map (es.modify j fun e => { e with key:=inj a,val:=v }) clock) },?_,⟨_,_,(heap_set hb).1,stamped_modify hs _ _ (fun _ _=>rfl) (fun e' _ he'=>hkey e' he'),?_⟩,GR _,sM⟩
  ·simp[Instr.mapUpdate,run_underlying hm,MapKept.run_getObj_map hb,run_checkKey hd (K.isKey a),run_findKey hd h1,hj,h3,run_keyThatStays (K.isKey a),MapKept.run_setObj_map _ hb,Result.andThen]
  ·have hya:a ∈ m.map (·.1):=bZ.2 ⟨p,sH hp,hpa⟩
   unfold lQ;rw[σ hya];apply Dj
   intro i;simp only[gu,Array.getElem?_toList,aaM];have hi:(es.toList.map (fun e=>(e.key,e.val)))[i]? = (m.map (fun p=>(inj p.1,p.2)))[i]? := by rw[he]
   simp only[gu,Array.getElem?_toList] at hi;by_cases hij:j=i
   ·subst hij
    simp[hj,hp,hpa]
   ·simp only[hij,lK]
    rw[hi];cases hmi:m[i]? with
    | none=>rfl
    | some q =>
      have Ce:q.1≠a:=by
       intro Ce;have Yy:i<m.length:=(kT.1 hmi).1;have oV:j<m.length:=(kT.1 hp).1;have e1:(m.map (·.1))[i]? = some a:=by simp[hmi,Ce]
       have e2:(m.map (·.1))[j]? = some a:=by simp[hp,hpa]
       exact hij ((List.getElem?_inj (by simpa using oV) hn).1 (e2.trans e1.symm))
      simp[Ce]
theorem cA.Bf {P:Program} {mty kt et ty:TypeId} (h:cA inj w b m) (K:zq d inj) (hm:P.underlying mty=some (.map kt et)) (hd:P.underlying kt=some d) (a : α) :
 ∃w',(Builtin.delete_ #[mty,kt] ty #[.map (some b),inj a]).run P w=.ok (.tuple #[]) w'∧cA inj w' b (nH m a)∧ζ (· = b) w w'∧w'.heap.size=w.heap.size:=by
 have hn:=h.nodup;obtain⟨es,clock,hb,hs,he⟩:=h;have GR:∀o,ζ (· = b) w { w with heap:=w.heap.setIfInBounds b o } := fun o=>⟨rfl,rfl,rfl,sM,fun k _ hk=>(heap_set hb).2 k hk⟩
 rcases findNow_spec (K.isKey a) es.toList 0 (Ku K he) with ⟨h1,h2⟩ | ⟨j,e,h1,h2,h3⟩
 ·refine⟨{ w with heap:=w.heap.setIfInBounds b (.map es clock) },?_,⟨_,_,(heap_set hb).1,hs,?_⟩,GR _,sM⟩
  ·simp[Builtin.delete_,run_underlying hm,MapKept.run_getObj_map hb,run_checkKey hd (K.isKey a),run_findKey hd h1,MapKept.run_setObj_map _ hb,Result.andThen]
  ·have:nH m a=m:=by
    unfold nH;rw[sI];intro p hp;have h4:inj p.1 ∈ es.toList.map (·.key):=by rw[Bq he];exact bZ.2 ⟨p,hp,rfl⟩
    obtain⟨x,hx,tq⟩:=bZ.1 h4;have:p.1≠a:=fun hpa=>h2 x hx (by rw[tq,hpa])
    simpa using this
   rw[this];exact he
 ·obtain⟨p,hp,hk,hv⟩:=F_ he j e h2
  have hpa:p.1=a:=K.inj _ _ (by rw[← hk,h3]);refine⟨{ w with heap:=w.heap.setIfInBounds b (.map (es.eraseIdxIfInBounds j) clock) },?_,⟨_,_,(heap_set hb).1,stamped_erase hs _,?_⟩,GR _,sM⟩
  ·simp[Builtin.delete_,run_underlying hm,MapKept.run_getObj_map hb,run_checkKey hd (K.isKey a),run_findKey hd h1,MapKept.run_setObj_map _ hb,Result.andThen]
  ·have hlt:j<es.size:=by simpa using (kT.1 h2).1
   have aiY:j<m.length:=(kT.1 hp).1;have e1:(es.eraseIdxIfInBounds j).toList=es.toList.eraseIdx j:=by
    unfold Array.eraseIdxIfInBounds;rw[dif_pos hlt];simp
   have e2:nH m a=m.eraseIdx j:=by
    unfold nH;rw[TV];have hsplit:m=m.take j++(m[j]::m.drop (j+1)):=by rw[← ua,AW]
    have Rx:m[j]=p:=by
     have:=bD aiY;rw[this] at hp;exact dw hp
    have hnn:=hn;rw[hsplit] at hnn;simp only[kG,jY,JS,jw] at hnn;conv=>lhs;rw[hsplit]
    rw[Ny,Dl];rw[ν (by simp[Rx,hpa])];have f1:(m.take j).filter (fun p=>decide (p.1≠a))=m.take j:=by
     rw[sI];intro q hq;have:=hnn.2.2 q.1 (bZ.2 ⟨q,hq,rfl⟩) a (by rw[Rx,hpa];exact .head _);simpa using this
    have f2:(m.drop (j+1)).filter (fun p=>decide (p.1≠a))=m.drop (j+1):=by
     rw[sI];intro q hq;have h5:=hnn.2.1.1;have:q.1≠a:=fun Ce=>h5 (bZ.2 ⟨q,hq,by rw[Ce,Rx,hpa]⟩)
     simpa using this
    rw[f1,f2]
   rw[e1,e2,TV,TV];simp only[kG,Dm,Nz,he]
end
end
section
open Go Go.RowKit
section
variable {P:Program} {ops:Array Oper} {rest:List Oper} {o:Oper} {a:Act} {w:World} {Q:Exit→Act→World→Prop} {K:Act→World→Prop}
theorem η.setRow {g:Nat} {t:TypeId} {cs:Array Value} (h:η w g t cs) (new:Array Value):η (w.setRow g new) g t new:=setRow_heap w g cs new t (0,0) h
theorem ζ.KQ (w:World) (g:Nat) (new:Array Value):ζ (· = g) w (w.setRow g new):=⟨rfl,rfl,rfl,sM,fun k _ hk=>setRow_other w g k new hk⟩
theorem abu {ty t:TypeId} {g i:Nat} {v:Value} {cs:Array Value} (hB:η w g t cs) (hi:i<cs.size) (h1:v.oneCell'=true) (hsz:(P.info? ty).map (·.size)=some 1) :
 (Instr.storeAt ty (.pointer (some ⟨g,i,none⟩)) v).run P w=.ok () (w.setCell ⟨g,i,none⟩ v):=by
 have hc:w.cell? ⟨g,i,none⟩=some cs[i]:=by rw[hB.cell];exact NA hi
 have hf:=hB.frozen i;cases hq:P.info? ty with
 | none=>simp[hq] at hsz
 | some inf =>
   have hs:inf.size=1:=by simpa [hq] using hsz
   have jJ:v.cells=#[v]:=by cases v<;>simp_all [Value.oneCell',Value.cells]
   have hst:(store ⟨g,i,none⟩ v).run P w=.ok () (w.setCell ⟨g,i,none⟩ v):=by
    rw[run_store P w _ v _ h1];simp[hc,hf]
   simp[Instr.storeAt,Instr.sureAddr,storeVar,sizeOf,typeInfo,hq,hs,jJ,storeCells,Addr.add,hst,Result.andThen]
theorem mD (ty:TypeId) (x y:Operand) (ho:o.op=.store ty x y) (g i:Nat) (v:Value) (hx:a.eval x=.pointer (some ⟨g,i,none⟩)) (hy:a.eval y=v)
 (t:TypeId) (cs:Array Value) (hB:η w g t cs) (hi:i<cs.size) (h1:v.oneCell'=true) (hsz:(P.info? ty).map (·.size)=some 1)
 (h:∀w',η w' g t (cs.setIfInBounds i v)→ζ (· = g) w w'→w'.heap.size=w.heap.size→K (a.put o.dst undef) w'):o.wp P a w K Q:=by
 unfold Oper.wp execOp;simp only[ho,hx,hy,qK,abu (P:=P) hB hi h1 hsz,TW,fN];exact h _ (hB.bE i v) ((ζ.refl (· = g) w).setCell (p:=⟨g,i,none⟩) (.inl rfl) v) sM
theorem gw (hg:o.guard=none) (ty:TypeId) (x y:Operand) (ho:o.op=.store ty x y) (g i:Nat) (v:Value) (hx:a.eval x=.pointer (some ⟨g,i,none⟩)) (hy:a.eval y=v)
 (t:TypeId) (cs:Array Value) (hB:η w g t cs) (hi:i<cs.size) (h1:v.oneCell'=true) (hsz:(P.info? ty).map (·.size)=some 1)
 (h:∀w',η w' g t (cs.setIfInBounds i v)→ζ (· = g) w w'→w'.heap.size=w.heap.size→wpList P ops Q rest (a.put o.dst undef) w'):wpList P ops Q (o::rest) a w :=
 JT hg fun _ hK=>mD ty x y ho g i v hx hy t cs hB hi h1 hsz fun w' b1 b2 b3=>hK _ _ (h w' b1 b2 b3)
theorem FI (ty:TypeId) (x y:Operand) (ho:o.op=.store ty x y) (g:Nat) (new:Array Value) (hx:a.eval x=.pointer (some ⟨g,0,none⟩)) (hy:a.eval y=.agg new)
 (t:TypeId) (cs:Array Value) (hB:η w g t cs) (hs:cs.size=new.size) (h1:new.all (·.oneCell')=true) (hsz:(P.info? ty).map (·.size)=some new.size)
 (h:∀w',η w' g t new→ζ (· = g) w w'→w'.heap.size=w.heap.size→K (a.put o.dst undef) w'):o.wp P a w K Q :=
 wp_store_row ty x y ho g new hx hy t cs hB hsz hs h1 (h _ (hB.setRow new) (ζ.KQ w g new) sM)
theorem fk (hg:o.guard=none) (ty:TypeId) (x y:Operand) (ho:o.op=.store ty x y) (g:Nat) (new:Array Value) (hx:a.eval x=.pointer (some ⟨g,0,none⟩)) (hy:a.eval y=.agg new)
 (t:TypeId) (cs:Array Value) (hB:η w g t cs) (hs:cs.size=new.size) (h1:new.all (·.oneCell')=true) (hsz:(P.info? ty).map (·.size)=some new.size)
 (h:∀w',η w' g t new→ζ (· = g) w w'→w'.heap.size=w.heap.size→wpList P ops Q rest (a.put o.dst undef) w'):wpList P ops Q (o::rest) a w :=
 JT hg fun _ hK=>FI ty x y ho g new hx hy t cs hB hs h1 hsz fun w' b1 b2 b3=>hK _ _ (h w' b1 b2 b3)
theorem kW (hg:o.guard=none) (ty:TypeId) (x:Operand) (ho:o.op=.load ty x) (g:Nat) (hx:a.eval x=.pointer (some ⟨g,0,none⟩)) (t:TypeId) (cs:Array Value) (d:TypeDesc)
 (hB:η w g t cs) (hu:P.underlying ty=some d) (hd:(match d with | .struct _ | .array _ _=>true | _=>false)=true) (hi:(P.info? ty).map (·.size)=some cs.size)
 (h:wpList P ops Q rest (a.put o.dst (.agg cs)) w):wpList P ops Q (o::rest) a w:=wpList_load_row hg ty x ho g hx t cs (0,0) d hB hu hd hi h
end
section
variable {w:World} {g:Nat} {t:TypeId} {a b c d e f h i j:Value}
theorem η.dD (k:η w g t #[a]):w.cell? ⟨g,0,none⟩=some a:=k.cell 0
theorem η.uv (k:η w g t #[a,b]):w.cell? ⟨g,0,none⟩=some a∧w.cell? ⟨g,1,none⟩=some b:=⟨k.cell 0,k.cell 1⟩
theorem η.fP (k:η w g t #[a,b,c]):w.cell? ⟨g,0,none⟩=some a∧w.cell? ⟨g,1,none⟩=some b∧w.cell? ⟨g,2,none⟩=some c:=⟨k.cell 0,k.cell 1,k.cell 2⟩
theorem η.iI (k:η w g t #[a,b,c,d]):w.cell? ⟨g,0,none⟩=some a∧w.cell? ⟨g,1,none⟩=some b∧w.cell? ⟨g,2,none⟩=some c∧w.cell? ⟨g,3,none⟩=some d:=⟨k.cell 0,k.cell 1,k.cell 2,k.cell 3⟩
theorem η.rQ (k:η w g t #[a,b,c,d,e,f,h]):w.cell? ⟨g,0,none⟩=some a∧w.cell? ⟨g,1,none⟩=some b∧w.cell? ⟨g,2,none⟩=some c∧w.cell? ⟨g,3,none⟩=some d∧w.cell? ⟨g,4,none⟩=some e∧w.cell? ⟨g,5,none⟩=some f∧w.cell? ⟨g,6,none⟩=some h :=
 ⟨k.cell 0,k.cell 1,k.cell 2,k.cell 3,k.cell 4,k.cell 5,k.cell 6⟩
theorem η.og (k:η w g t #[a,b,c,d,e,f,h,i,j]):w.cell? ⟨g,0,none⟩=some a∧w.cell? ⟨g,1,none⟩=some b∧w.cell? ⟨g,2,none⟩=some c∧w.cell? ⟨g,3,none⟩=some d∧w.cell? ⟨g,4,none⟩=some e∧w.cell? ⟨g,5,none⟩=some f∧w.cell? ⟨g,6,none⟩=some h∧w.cell? ⟨g,7,none⟩=some i∧w.cell? ⟨g,8,none⟩=some j :=
 ⟨k.cell 0,k.cell 1,k.cell 2,k.cell 3,k.cell 4,k.cell 5,k.cell 6,k.cell 7,k.cell 8⟩
end
end
section
open Go Go.RowKit Go.MapKept
open Go.ChangeMaps (setBlock)
def lz {α : Type} (inj : α → Value) (w:World) (r b:Nat) (m left:List (α × Value)):Prop :=
 ∃ es clock since seen c0,w.heap[r]? = some (.mapIter (some b) since seen c0)∧w.heap[b]? = some (.map es clock)∧Stamped es clock∧es.toList.map (fun e=>(e.key,e.val))=m.map (fun p=>(inj p.1,p.2)) ∧
  (∀x ∈ es.toList,x.born<since)∧since≤c0∧since≤clock∧(es.toList.filter (fun e => !seen.contains e.born)).map (fun e=>(e.key,e.val))=left.map (fun p=>(inj p.1,p.2))
section
variable {α : Type} {inj : α → Value} {d:TypeDesc} {w w':World} {r b:Nat} {m left:List (α × Value)}
theorem lz.map (h:lz inj w r b m left):cA inj w b m:=by
 obtain⟨es,clock,since,seen,c0,_,h2,h3,h4,_⟩:=h;exact⟨es,clock,h2,h3,h4⟩
theorem lz.ne (h:lz inj w r b m left):r≠b:=by
 rintro rfl;obtain⟨es,clock,since,seen,c0,h1,h2,_⟩:=h;rw[h1] at h2;cases h2
theorem lz.cU (h:lz inj w r b m left) (h1:w'.heap[r]? = w.heap[r]?) (h2:w'.heap[b]? = w.heap[b]?):lz inj w' r b m left:=by
 obtain⟨es,clock,since,seen,c0,k1,k2,k3⟩:=h;exact⟨es,clock,since,seen,c0,h1.trans k1,h2.trans k2,k3⟩
def Pg (w:World) (r b:Nat):Nat :=
 match w.heap[r]?,w.heap[b]? with
 | some (.mapIter _ _ seen _),some (.map es _)=>(es.toList.filter (fun e => !seen.contains e.born)).length
 | _,_=>0
theorem lz.left_eq (h:lz inj w r b m left):Pg w r b=left.length:=by
 obtain⟨es,clock,since,seen,c0,h1,h2,_,_,_,_,_,h3⟩:=h;have:=aJ List.length h3;simp only[bp] at this;unfold Pg;rw[h1,h2];exact this
theorem lz.drew (h:lz inj w r b m left):lz inj w.drew r b m left:=h.cU rfl rfl
theorem lz.bP (h:lz inj w r b m left) {p:Addr} (h1:r≠p.block) (h2:b≠p.block) (u:Value):lz inj (w.setCell p u) r b m left:=h.cU (nU w p u r h1) (nU w p u b h2)
theorem cA.ado {P:Program} {mty kt et:TypeId} (h:cA inj w b m) (hm:P.underlying mty=some (.map kt et)) :
 ∃w',(Instr.range mty (.map (some b))).run P w=.ok (.pointer (some ⟨w.heap.size,0,none⟩)) w'∧lz inj w' w.heap.size b m m∧υ w w'∧w'.heap.size=w.heap.size+1:=by
 have hlt:=h.lt;obtain⟨es,clock,hb,hs,he⟩:=h;refine⟨w.alloc (.mapIter (some b) clock #[] clock),?_,⟨es,clock,clock,#[],clock,yV w _,(qJ w _ b hlt).trans hb,hs,he,hs.1,bQ _,bQ _,?_⟩,(ζ.refl _ _).alloc _,sM⟩
 ·simp[Instr.range,run_underlying hm,MapKept.run_getObj_map hb,Result.andThen]
 ·have:es.toList.filter (fun e => !(#[]:Array Nat).contains e.born)=es.toList:=by
   rw[sI];intro x _;simp
  rw[this];exact he
theorem lz.aeN {P:Program} (h:lz inj w r b m left) (hn:∀p q,inj p=inj q→p=q) (ty:TypeId) :
 (left=[]∧(Instr.next (.pointer (some ⟨r,0,none⟩)) false ty).run P w=.ok (.tuple #[.bool false]) w) ∨
 ∃ k v l1 l2 w',left=l1++(k,v)::l2∧(k,v) ∈ m∧(Instr.next (.pointer (some ⟨r,0,none⟩)) false ty).run P w=.ok (.tuple #[.bool true,inj k,v]) w'∧lz inj w' r b m (l1++l2) ∧
  (Instr.entry (.pointer (some ⟨r,0,none⟩))).run P w'=.ok (.tuple #[inj k,v]) w'∧ζ (· = r) w w'∧w'.heap.size=w.heap.size:=by
 have hrb:=h.ne;obtain⟨es,clock,since,seen,c0,hr,hb,hs,he,hold,hsc,cu,hl⟩:=h;rcases run_next_at (P:=P) w ty r b since c0 seen es clock hr hb hold hsc with ⟨h0,hrun⟩ | ⟨e,hmem,w1,hw1,hrun⟩
 ·left
  refine⟨?_,hrun⟩;have h1:(leftOf es seen).toList=[]:=by
   have:(leftOf es seen)=#[]:=aaO h0;rw[this]
  unfold leftOf at h1;rw[Array.toList_filter] at h1;rw[h1] at hl;simpa using hl.symm
 ·right
  have Gy:e ∈ es.toList.filter (fun e => !seen.contains e.born):=by
   unfold leftOf at hmem;rw[Array.toList_filter] at hmem;exact hmem
  have Ry:e ∈ es.toList:=(yW.1 Gy).1;obtain⟨s1,s2,hsplit⟩:=List.append_of_mem Gy;have hl':=hl;rw[hsplit] at hl';simp only[kG,jY] at hl';obtain⟨l1,lr,hleft,e1,e2⟩:=List.map_eq_append_iff.1 hl'.symm;obtain⟨q,l2,rfl,e3,e4⟩:=List.map_eq_cons_iff.1 e2;obtain⟨k,v⟩:=q;simp only[AR] at e3;obtain⟨ek,ev⟩:=e3;subst ev;have LB:w1.heap=w.heap:=by rcases hw1 with rfl | rfl<;>rfl
  have XF:(setBlock w1 r (.mapIter (some b) since (seen.push e.born) clock)).heap[r]? = some (.mapIter (some b) since (seen.push e.born) clock):=by
   have hlt:r<w1.heap.size:=by rw[LB];exact(ng.1 hr).1
   simp[ChangeMaps.setBlock,hlt]
  have XG:∀k,k≠r→(setBlock w1 r (.mapIter (some b) since (seen.push e.born) clock)).heap[k]? = w.heap[k]? := by
   intro k hk;simp[ChangeMaps.setBlock,Ne.symm hk,LB]
  have XH:=(XG b (mC hrb)).trans hb;have hin:(inj k,e.val) ∈ es.toList.map (fun e=>(e.key,e.val)):=by rw[ek];exact bZ.2 ⟨e,Ry,rfl⟩
  refine⟨k,e.val,l1,l2,_,hleft,?_,?_,⟨es,clock,since,seen.push e.born,clock,XF,XH,hs,he,hold,cu,cu,?_⟩,?_,?_,?_⟩
  ·rw[he] at hin
   obtain⟨p,hp,hpe⟩:=bZ.1 hin;simp only[AR] at hpe;have:p=(k,e.val):=Prod.ext (hn _ _ hpe.1) hpe.2;rw[← this];exact hp
  ·rw[ek];exact hrun
  ·have hnd:(es.toList.map (·.born)).Nodup:=hs.2.1
   have hnf:(es.toList.filter (fun e => !seen.contains e.born)).Nodup:=(Du hnd).filter _;have e5:es.toList.filter (fun x => !(seen.push e.born).contains x.born)=(es.toList.filter (fun e => !seen.contains e.born)).filter (fun x=>x.born≠e.born):=by
    rw[TX];apply aaP
    intro x _;by_cases hx:x.born=e.born<;>simp[hx]
   rw[e5,hsplit];have V5:∀x ∈ es.toList,x.born=e.born→x=e:=by
    intro x hx Ie;obtain⟨i,hi⟩:=AU hx;obtain⟨j,hj⟩:=AU Ry;have hi':(es.toList.map (·.born))[i]? = some e.born:=by simp[hi,Ie]
    have hj':(es.toList.map (·.born))[j]? = some e.born:=by simp[hj]
    have hlt:i<(es.toList.map (·.born)).length:=(kT.1 hi').1;have:=(List.getElem?_inj hlt hnd).1 (hi'.trans hj'.symm);subst this;rw[hi] at hj;exact dw hj
   rw[hsplit] at hnf;have hall:∀x ∈ s1++e::s2,x ∈ es.toList:=by
    intro x hx;rw[← hsplit] at hx;exact(yW.1 hx).1
   have hnn:=JS.1 hnf;have f1:s1.filter (fun x=>decide (x.born≠e.born))=s1:=by
    rw[sI];intro x hx;have:x.born≠e.born:=fun Ie=>by
     have:=V5 x (hall x (by simp[hx])) Ie;subst this;exact hnn.2.2 x hx x (.head _) rfl
    simpa using this
   have f2:s2.filter (fun x=>decide (x.born≠e.born))=s2:=by
    rw[sI];intro x hx;have:x.born≠e.born:=fun Ie=>by
     have:=V5 x (hall x (by simp[hx])) Ie;subst this;exact(jw.1 hnn.2.1).1 hx
    simpa using this
   rw[Ny,Dl,ν sM,f1,f2];simp only[kG,e1,e4]
  ·rw[ek]
   exact run_entry_at _ r b since seen es clock e XF XH Ry hs.2.1
  ·refine⟨?_,?_,?_,by simp[ChangeMaps.setBlock,LB],fun k _ hk=>XG k hk⟩<;>rcases hw1 with rfl | rfl<;>rfl
  ·simp[ChangeMaps.setBlock,LB]
variable [DecidableEq α]
theorem lz.Bf {P:Program} {mty kt et ty:TypeId} (h:lz inj w r b m left) (K:zq d inj) (hm:P.underlying mty=some (.map kt et)) (hd:P.underlying kt=some d) (a : α) :
 ∃w',(Builtin.delete_ #[mty,kt] ty #[.map (some b),inj a]).run P w=.ok (.tuple #[]) w'∧lz inj w' r b (nH m a) (nH left a)∧ζ (· = b) w w'∧w'.heap.size=w.heap.size:=by
 classical
 have hrb:=h.ne;have hmB:=h.map;obtain⟨w',h1,h2,h3,h4⟩:=hmB.Bf (ty:=ty) K hm hd a;obtain⟨es,clock,since,seen,c0,hr,hb,hs,he,hold,hsc,cu,hl⟩:=h
 -- the same run once more,over the entries
 have key:∃es',w'.heap[b]? = some (.map es' clock)∧Stamped es' clock∧es'.toList=es.toList.filter (fun e=>decide (e.key≠inj a) ):=by
  rcases findNow_spec (K.isKey a) es.toList 0 (Ku K he) with ⟨k1,k2⟩ | ⟨j,e,k1,k2,k3⟩
  ·simp[Builtin.delete_,run_underlying hm,MapKept.run_getObj_map hb,run_checkKey hd (K.isKey a),run_findKey hd k1,MapKept.run_setObj_map _ hb,Result.andThen] at h1
   subst h1;refine⟨es,(heap_set hb).1,hs,?_⟩;symm
   rw[sI];intro x hx;simpa using k2 x hx
  ·simp[Builtin.delete_,run_underlying hm,MapKept.run_getObj_map hb,run_checkKey hd (K.isKey a),run_findKey hd k1,MapKept.run_setObj_map _ hb,Result.andThen] at h1
   subst h1;refine⟨_,(heap_set hb).1,stamped_erase hs _,?_⟩;have hlt:j<es.size:=by simpa using (kT.1 k2).1
   have e1:(es.eraseIdxIfInBounds j).toList=es.toList.eraseIdx j:=by
    unfold Array.eraseIdxIfInBounds;rw[dif_pos hlt];simp
   rw[e1,TV];have hlt':j<es.toList.length:=by simpa using hlt
   have hsplit:es.toList=es.toList.take j++(es.toList[j]::es.toList.drop (j+1)):=by rw[← ua,AW]
   have Rz:es.toList[j]=e:=by
    rw[bD hlt'] at k2;exact dw k2
   have hnn:=hs.2.2;rw[hsplit] at hnn;simp only[kG,jY,JS,jw] at hnn;conv=>rhs;rw[hsplit]
   rw[Ny,Dl,ν (by simp[Rz,k3])];have f1:(es.toList.take j).filter (fun e=>decide (e.key≠inj a))=es.toList.take j:=by
    rw[sI];intro q hq;have:=hnn.2.2 q.key (bZ.2 ⟨q,hq,rfl⟩) (inj a) (by rw[Rz,k3];exact .head _);simpa using this
   have f2:(es.toList.drop (j+1)).filter (fun e=>decide (e.key≠inj a))=es.toList.drop (j+1):=by
    rw[sI];intro q hq;have:q.key≠inj a:=fun Ce=>hnn.2.1.1 (bZ.2 ⟨q,hq,by rw[Ce,Rz,k3]⟩)
    simpa using this
   rw[f1,f2]
 obtain⟨es',hb',hs',Qq⟩:=key;have pull:∀(l:List MapEntry) (m':List (α × Value)),l.map (fun e=>(e.key,e.val))=m'.map (fun p=>(inj p.1,p.2)) →
  (l.filter (fun e=>decide (e.key≠inj a))).map (fun e=>(e.key,e.val))=(nH m' a).map (fun p=>(inj p.1,p.2)):=by
  intro l;induction l with
  | nil=>intro m' hm';cases m' with
    | nil=>rfl
    | cons=>simp at hm'
  | cons x l ih =>
    intro m' hm';cases m' with
    | nil=>simp at hm'
    | cons q m' =>
      simp only[jY,sJ,AR] at hm';obtain⟨⟨hk,hv⟩,qR⟩:=hm';have:=ih m' qR;unfold nH at this ⊢;by_cases hq:q.1=a
      ·rw[Dl,ν (by simp[hk,hq]),Dl,ν (by simp[hq])]
       exact this
      ·have hx:x.key≠inj a:=fun e=>hq (K.inj _ _ (by rw[← hk,e]))
       rw[Dl,σ (by simp[hx]),Dl,σ (by simp[hq])];simp only[jY,this,hk,hv]
 refine⟨w',h1,⟨es',clock,since,seen,c0,(h3.block r (ng.1 hr).1 hrb).trans hr,hb',hs',?_,?_,hsc,cu,?_⟩,h3,h4⟩
 ·rw[Qq];exact pull _ _ he
 ·intro x hx
  rw[Qq] at hx;exact hold x (yW.1 hx).1
 ·rw[Qq,TX]
  have:=pull _ _ hl;rw[TX] at this;rw[← this];congr 1
  apply aaP
  intro x _;rw[Bool.and_comm]
end
end
section
open Go Go.RowKit
open Go.ChangeMaps (setBlock)
def Yz (fr:Nat × Nat) (k:Nat):Prop:=fr=(0,0)∨k≤fr.1
def Own (w:World) (e:TypeId) (size:Nat) (v:Value) (n:Nat) (xs:List Value):Prop :=
 xs.length=n*size ∧
 ((v=.slice none 0 0∧n=0) ∨
  ∃g cap cur fr,v=.slice (some ⟨g,0,none⟩) n cap∧w.heap[g]? = some (.cells cur e fr)∧Yz fr cur.size∧n≤cap∧cap≤maxLen∧cur.size=cap*size∧cur.toList.take (n*size)=xs)
section
variable {w w':World} {e:TypeId} {size n:Nat} {v:Value} {xs:List Value}
theorem Own.nil (w:World) (e:TypeId) (size:Nat):Own w e size (.slice none 0 0) 0 []:=⟨sM,.inl ⟨rfl,rfl⟩⟩
theorem Own.len (h:Own w e size v n xs):xs.length=n*size:=h.1
theorem Own.lt (h:Own w e size v n xs) {k:Nat} (hk:v.ownBlock=some k):k<w.heap.size:=by
 rcases h.2 with ⟨rfl,_⟩ | ⟨g,cap,cur,fr,rfl,hg,_⟩
 ·simp[Value.ownBlock] at hk
 ·simp[Value.ownBlock] at hk
  subst hk;exact(ng.1 hg).1
theorem Own.cU (h:Own w e size v n xs) (hb:∀k,v.ownBlock=some k→w'.heap[k]? = w.heap[k]?):Own w' e size v n xs:=by
 refine⟨h.1,?_⟩;rcases h.2 with hn | ⟨g,cap,cur,fr,rfl,hg,rest⟩
 ·exact .inl hn
 ·exact .inr ⟨g,cap,cur,fr,rfl,(hb g (by simp[Value.ownBlock])).trans hg,rest⟩
theorem Own.ε {F:Nat→Prop} (h:Own w e size v n xs) (hu:ζ F w w') (hn:∀k,v.ownBlock=some k→¬F k):Own w' e size v n xs :=
 h.cU fun k hk=>hu.block k (h.lt hk) (hn k hk)
theorem Own.drew (h:Own w e size v n xs):Own w.drew e size v n xs:=h
theorem Own.alloc (h:Own w e size v n xs) (o:Obj):Own (w.alloc o) e size v n xs:=h.cU fun k hk=>qJ w o k (h.lt hk)
theorem Own.bP (h:Own w e size v n xs) {p:Addr} (hp:v.ownBlock≠some p.block) (u:Value):Own (w.setCell p u) e size v n xs :=
 h.cU fun k hk=>nU w p u k (fun e=>hp (by rw[← e];exact hk))
theorem Own.cells (h:Own w e size v n xs) {g:Nat} (hg:v.ownBlock=some g):∀j u,xs[j]? = some u→w.cell? ((⟨g,0,none⟩:Addr).add j)=some u:=by
 intro j u hu;rcases h.2 with ⟨rfl,_⟩ | ⟨g',cap,cur,fr,rfl,Ig,_,_,_,_,BH⟩
 ·simp[Value.ownBlock] at hg
 ·simp[Value.ownBlock] at hg
  subst hg;have iY:(⟨g',0,none⟩:Addr).add j=⟨g',j,none⟩:=by unfold Addr.add;split<;>simp_all
  rw[iY,Di w g' j cur e fr Ig];rw[← BH,JP] at hu;split at hu
  ·simpa using hu
  ·cases hu
theorem Own.cellAt {g cap:Nat} (h:Own w e size (.slice (some ⟨g,0,none⟩) n cap) n xs) (j:Nat) (hj:j<n*size):w.cell? ⟨g,j,none⟩=xs[j]? := by
 have hl:=h.1;have h1:=h.cells (g:=g) (by simp[Value.ownBlock]) j xs[j] (bD oM);rw[bD oM,← h1];congr 1
 unfold Addr.add;split<;>simp_all
theorem Own.frozenAt {g cap:Nat} (h:Own w e size (.slice (some ⟨g,0,none⟩) n cap) n xs) (j:Nat) (hj:j<n*size):w.frozen? ⟨g,j,none⟩=false:=by
 rcases h.2 with ⟨hv,_⟩ | ⟨g',cap',cur,fr,hv,Ig,hfr,hnc,_,hcs,_⟩
 ·cases hv
 ·injection hv with h1 h2 h3
  injection h1 with h1;injection h1 with h1;subst h1 h3;have hlt:j<cur.size:=by rw[hcs];exact nT hj (aaQ _ hnc)
  obtain⟨lo,hi⟩:=fr;simp only[World.frozen?,Ig];rcases hfr with h0 | h0
  ·cases h0;simp
  ·simp only at h0
   have:¬lo≤j:=oM;simp[this]
theorem Own.head (h:Own w e size v n xs) (hn:0<n):∃g cap,v=.slice (some ⟨g,0,none⟩) n cap∧n≤cap∧cap≤maxLen:=by
 rcases h.2 with ⟨_,h0⟩ | ⟨g,cap,cur,fr,rfl,_,_,hnc,hcm,_⟩
 ·omega
 ·exact⟨g,cap,rfl,hnc,hcm⟩
theorem Own.one (h:Own w e size v n xs):v.oneCell'=true:=by
 rcases h.2 with ⟨rfl,_⟩ | ⟨g,cap,cur,fr,rfl,_⟩<;>rfl
theorem Own.fO {g:Nat} {t:TypeId} {cs:Array Value} (h:Own w e size v n xs) (hB:η w g t cs) (hne:e≠t):v.ownBlock≠some g:=by
 rcases h.2 with ⟨rfl,_⟩ | ⟨g',cap,cur,fr,rfl,hg,_⟩
 ·simp[Value.ownBlock]
 ·intro he
  have:g'=g:=by simpa [Value.ownBlock] using he
  subst this;unfold η at hB;rw[hg] at hB;injection hB with hB;injection hB with _ ht;exact hne ht
theorem Own.PE {α : Type} {inj : α → Value} {g:Nat} {m:List (α × Value)} (h:Own w e size v n xs) (hM:cA inj w g m):v.ownBlock≠some g:=by
 rcases h.2 with ⟨rfl,_⟩ | ⟨g',cap,cur,fr,rfl,hg,_⟩
 ·simp[Value.ownBlock]
 ·intro he
  have:g'=g:=by simpa [Value.ownBlock] using he
  subst this;obtain⟨es,clock,h1,_⟩:=hM;rw[hg] at h1;cases h1
theorem Own.shape (h:Own w e size v n xs):∃A cap,v=.slice A n cap∧n≤cap∧cap≤maxLen:=by
 rcases h.2 with ⟨rfl,h0⟩ | ⟨g,cap,cur,fr,rfl,_,_,hnc,hcm,_⟩
 ·exact⟨none,0,by rw[h0],oM,by simp[maxLen]⟩
 ·exact⟨_,cap,rfl,hnc,hcm⟩
theorem Uq (w:World) (g j:Nat) (cur:Array Value) (t:TypeId) (fr:Nat × Nat) (u:Value) (hg:w.heap[g]? = some (.cells cur t fr)) :
 (w.setCell ⟨g,j,none⟩ u).heap[g]? = some (.cells (cur.setIfInBounds j u) t fr):=by
 simp[World.setCell,Array.getElem?_modify,hg]
theorem Own.stored {g cap:Nat} (h:Own w e size (.slice (some ⟨g,0,none⟩) n cap) n xs) (j:Nat) (u:Value):Own (w.setCell ⟨g,j,none⟩ u) e size (.slice (some ⟨g,0,none⟩) n cap) n (xs.set j u):=by
 refine⟨by simpa using h.1,?_⟩;rcases h.2 with ⟨hv,_⟩ | ⟨g',cap',cur,fr,hv,Ig,hfr,hnc,hcm,hcs,BH⟩
 ·cases hv
 ·injection hv with h1 h2 h3
  injection h1 with h1;injection h1 with h1;subst h1 h3;refine .inr ⟨g,cap,cur.setIfInBounds j u,fr,rfl,Uq w g j cur e fr u Ig,by simpa using hfr,hnc,hcm,by simpa using hcs,?_⟩;rw[TY,List.take_set,BH]
end
structure Src (P:Program) (w:World) (xT:TypeId) (size:Nat) (x:Value) (m:Nat) (news:List Value):Prop where
 known:(∃t,P.underlying xT=some (.slice t))∨P.underlying xT=some .string
 len:news.length=m*size
 lenOf:∀w,(Builtin.lenOf x).run P w=.ok m w
 cells:(Builtin.firstCells size m x).run P w=.ok news.toArray w
 cells':(Builtin.firstCells size m x).run P w.drew=.ok news.toArray w.drew
section
variable {P:Program} {w w':World} {e xT t:TypeId} {size n m:Nat} {v x:Value} {xs news:List Value}
theorem Src.uq (ht:P.underlying xT=some (.slice t)) (a:Addr) (m c:Nat) (hl:news.length=m*size) (h:∀j u,news[j]? = some u→w.cell? (a.add j)=some u):Src P w xT size (.slice (some a) m c) m news :=
 ⟨.inl ⟨_,ht⟩,hl,fun w=>by simp[Builtin.lenOf],aaR w size m a m c news hl h,aaR w.drew size m a m c news hl h⟩
theorem Src.of_nil (ht:P.underlying xT=some (.slice t)) (c:Nat):Src P w xT size (.slice none 0 c) 0 [] :=
 ⟨.inl ⟨_,ht⟩,sM,fun w=>by simp[Builtin.lenOf],by simp[Builtin.firstCells],by simp[Builtin.firstCells]⟩
theorem Src.jK (ht:P.underlying xT=some (.slice t)) (h:Own w e size v n xs):Src P w xT size v n xs:=by
 rcases h.2 with ⟨rfl,rfl⟩ | ⟨g,cap,cur,fr,rfl,_⟩
 ·have:xs=[]:=yX (by simpa using h.1)
  subst this;exact .of_nil ht 0
 ·exact .uq ht _ _ _ h.1 (h.cells (by simp[Value.ownBlock]))
theorem Src.of_string (ht:P.underlying xT=some .string) (s:ByteArray):Src P w xT 1 (.string s) s.size (s.data.toList.map fun b=>Value.int .u8 b.toNat):=by
 have hx:(Array.map (fun b:UInt8=>Value.int IntKind.u8 (b.toNat:Int)) s.data).extract 0 s.size=Array.map (fun b:UInt8=>Value.int IntKind.u8 (b.toNat:Int)) s.data:=by
  have hs:s.size=(Array.map (fun b:UInt8=>Value.int IntKind.u8 (b.toNat:Int)) s.data).size:=by rw[Array.size_map];rfl
  rw[hs,Array.extract_size]
 have hy:(s.data.toList.map fun b=>Value.int .u8 b.toNat).toArray=Array.map (fun b:UInt8=>Value.int IntKind.u8 (b.toNat:Int)) s.data:=by
  apply Array.ext'
  simp
 exact⟨.inr ht,sM,fun w=>by simp[Builtin.lenOf],by simp[Builtin.firstCells,hy],by simp[Builtin.firstCells,hy]⟩
theorem Ur (g o:Nat) (t:TypeId) (fr:Nat × Nat) (P:Program):∀(vs:List Value) (i:Nat) (cur:Array Value) (w:World),w.heap[g]? = some (.cells cur t fr)→Yz fr cur.size→o+i+vs.length≤cur.size→(∀v ∈ vs,v.oneCell'=true) →
 ∃w',(storeCells ⟨g,o,none⟩ vs i).run P w=.ok () w'∧w'.heap[g]? = some (.cells (cur.toList.take (o+i)++vs++cur.toList.drop (o+i+vs.length)).toArray t fr)∧ζ (· = g) w w'∧w'.heap.size=w.heap.size
 | [],i,cur,w,hg,_,_,_=>by
   refine⟨w,by simp[storeCells],?_,ζ.refl _ _,rfl⟩;simp only[xz,yY,rM,AW,Array.toArray_toList];exact hg
 | v :: rest,i,cur,w,hg,hfr,hl,h1=>by
   have hi:o+i<cur.size:=by simp at hl;omega
   have iY:(⟨g,o,none⟩:Addr).add i=⟨g,o+i,none⟩:=by unfold Addr.add;split<;>simp_all
   have hcell:w.cell? ⟨g,o+i,none⟩=some cur[o+i]:=by simp[World.cell?,hg,hi]
   have aiZ:w.frozen? ⟨g,o+i,none⟩=false:=by
    obtain⟨lo,hh⟩:=fr;simp only[World.frozen?,hg];rcases hfr with h0 | h0
    ·cases h0;simp
    ·simp only at h0
     have:¬lo≤o+i:=oM;simp[this]
   have hst:(store ((⟨g,o,none⟩:Addr).add i) v).run P w=.ok () (w.setCell ⟨g,o+i,none⟩ v):=by
    rw[iY,run_store P w _ v _ (h1 v sM),hcell];simp[aiZ]
   obtain⟨w',k1,k2,k3,k4⟩:=Ur g o t fr P rest (i+1) (cur.setIfInBounds (o+i) v) (w.setCell ⟨g,o+i,none⟩ v) (Uq w g (o+i) cur t fr v hg) (by simpa using hfr) (by simp at hl ⊢;omega) (fun x hx=>h1 x (by simp[hx]));refine⟨w',by simp only[storeCells,qK,hst,fN,k1],?_,(((ζ.refl (· = g) w).setCell (p:=⟨g,o+i,none⟩) (.inl rfl) v).then k3 (fun b hb=>.inl hb)),by rw[k4];simp⟩
   rw[k2];congr 3
   have e:=list_seg_step cur.toList (o+i) v rest (by simp at hl ⊢;omega);simpa [Array.toList_setIfInBounds,Nat.add_assoc] using e
theorem Uu (t ty:TypeId) (i:TypeInfo) (z:Value) (bytes:Nat) (ht:P.underlying t=some (.slice e)) (hi:P.info? e=some i) (hz:i.zero=some z)
 (hsize:i.size=size) (hby:i.bytes=bytes) (hzs:z.cells.size=size)
 (hown:Own w e size v n xs) (hsrc:Src P w xT size x m news) (h1:∀u ∈ news,u.oneCell'=true)
 (h63:n+m≤maxLen) (hbytes:(n+m)*bytes≤140737488355328) :
 ∃ v' w',(Builtin.append_ #[t,xT] ty #[v,x]).run P w=.ok v' w'∧Own w' e size v' (n+m) (xs++news)∧ζ (fun k=>v.ownBlock=some k) w w' ∧
  (v'.ownBlock=v.ownBlock∨v'.ownBlock=some w.heap.size)∧w'.heap.size≤w.heap.size+1:=by
 subst hsize;subst hby;have hsmall:n+m≤9223372036854775807:=by simp only[maxLen] at h63;omega
 have hlen:(xs++news).length=(n+m)*i.size:=by rw[aL,hown.1,hsrc.len,TZ]
 have h63':¬(9223372036854775807<((n:Int)+(m:Int))):=oM;have grown:∀(old:Nat),old<n+m →
  Own (w.drew.alloc (.cells (xs.toArray++news.toArray++Builtin.zeroCells z.cells (grownCap w (n+m) old e - (n+m))) e)) e i.size
   (.slice (some ⟨w.heap.size,0,none⟩) (n+m) (grownCap w (n+m) old e)) (n+m) (xs++news):=by
  intro old ho;have hge:=grownCap_ge w (n+m) old e;have hcm:grownCap w (n+m) old e≤maxLen:=grownCap_le_maxLen w (n+m) old e h63;refine⟨hlen,.inr ⟨w.heap.size,_,_,(0,0),rfl,yV w.drew _,.inl rfl,hge,hcm,?_,?_⟩⟩
  ·simp only[Array.size_append,AX,size_zeroCells,hzs,hown.1,hsrc.len,← TZ]
   congr 1
   omega
  ·simp only[T3,dQ]
   rw[← dQ,← hlen];exact JQ
 have YA:∀(o:Obj),ζ (fun k=>v.ownBlock=some k) w (w.drew.alloc o):=fun o=>((ζ.refl _ w).drew).alloc o
 rcases hown.2 with ⟨rfl,rfl⟩ | ⟨g,cap,cur,fr,rfl,hg,hfr,hnc,hcm,hcs,BH⟩
 ·have hx:xs=[]:=yX (by simpa using hown.1)
  subst hx;by_cases hm0:m=0
  ·subst hm0
   have hn:news=[]:=yX (by simpa using hsrc.len);subst hn;refine⟨.slice none 0 0,w,?_,Own.nil w e i.size,ζ.refl _ _,.inl rfl,oM⟩;rcases hsrc.known with ⟨tx,uP⟩ | uP<;>simp[Builtin.append_,run_underlying ht,run_underlying uP,sizeOf,typeInfo,hi,hsrc.lenOf,hsrc.cells]
  ·have zQ:=grown 0 oM
   simp only[kU,nW,Array.empty_append] at zQ;refine⟨_,_,?_,by simpa using zQ,YA _,.inr (by simp[Value.ownBlock]),sM⟩;have GS:¬(281474976710656<Builtin.nextslicecap m 0*i.bytes):=by
    rw[nextslicecap_zero oM];have hb:=hbytes;simp only[kU] at hb;omega
   have air:¬(9223372036854775807<(m:Int)):=oM;rcases hsrc.known with ⟨tx,uP⟩ | uP<;>simp[Builtin.append_,run_underlying ht,run_underlying uP,sizeOf,typeInfo,zeroValue,hi,hz,hsrc.lenOf,hm0,air,GS,Question.forced,run_firstCells_none,hsrc.cells',newRow,grownCap]
 ·by_cases hroom:n+m≤cap
  ·have hfit:n*i.size+0+news.length≤cur.size:=by rw[hsrc.len,hcs,rM,← TZ];exact aaQ _ hroom
   obtain⟨w',k1,k2,k3,k4⟩:=Ur g (n*i.size) e fr P news 0 cur w hg hfr hfit h1;refine⟨.slice (some ⟨g,0,none⟩) (n+m) cap,w',?_,⟨hlen,.inr ⟨g,cap,_,fr,rfl,k2,?_,hroom,hcm,?_,?_⟩⟩,k3.mono (fun b hb=>.inl (by subst hb;simp[Value.ownBlock])),.inl (by simp[Value.ownBlock]),oM⟩
   ·rcases hsrc.known with ⟨tx,uP⟩ | uP<;>simp[Builtin.append_,run_underlying ht,run_underlying uP,sizeOf,typeInfo,hi,hsrc.lenOf,hroom,hsrc.cells,Addr.add_lit,k1]
   ·have:((cur.toList.take (n*i.size+0)++news++cur.toList.drop (n*i.size+0+news.length)).toArray).size=cur.size:=by
     simp only[AX,aL,fF,gM,pM];omega
    rw[this];exact hfr
   ·simp only[AX,aL,fF,gM,pM]
    omega
   ·rw[rM,BH,← hlen]
    exact JQ
  ·have holds:∀j u,xs[j]? = some u→w.cell? ((⟨g,0,none⟩:Addr).add j)=some u:=hown.cells (by simp[Value.ownBlock])
   have hfo:=aaR (P:=P) w.drew i.size n ⟨g,0,none⟩ n cap xs hown.1 (by simpa using holds);have hfit:=growslice_fits (show cap<n+m by omega) hbytes;have GS:¬(281474976710656<Builtin.nextslicecap (n+m) cap*i.bytes):=oM;refine⟨_,_,?_,grown cap oM,YA _,.inr (by simp[Value.ownBlock]),sM⟩;rcases hsrc.known with ⟨tx,uP⟩ | uP<;>simp[Builtin.append_,run_underlying ht,run_underlying uP,sizeOf,typeInfo,zeroValue,hi,hz,hsrc.lenOf,hroom,h63',GS,Question.forced,hsrc.cells',hfo,newRow,grownCap]
   all_goals
    congr 2
    apply Array.ext'
    simp[List.append_assoc]
end
section
variable {P:Program} {ops:Array Oper} {rest:List Oper} {o:Oper} {a:Act} {w w':World} {Q:Exit→Act→World→Prop} {K:Act→World→Prop}
theorem Uw (s x:Operand) (t xT:TypeId) (ho:o.op=.call { callee:=.builtin .append,args:=#[s,x],argTypes:=#[t,xT] }) {vs vx v':Value} (hs:a.eval s=vs) (hx:a.eval x=vx)
 (hrun:(Builtin.append_ #[t,xT] o.type #[vs,vx]).run P w=.ok v' w') (h:K (a.put o.dst v') w'):o.wp P a w K Q:=by
 unfold Oper.wp execOp;simp only[ho,resolve,invoke,builtin,qK,TW,fN,List.map_toArray,jY,yZ,hs,hx,hrun];exact h
theorem abd (hg:o.guard=none) (s x:Operand) (t xT:TypeId) (ho:o.op=.call { callee:=.builtin .append,args:=#[s,x],argTypes:=#[t,xT] }) {vs vx v':Value} (hs:a.eval s=vs) (hx:a.eval x=vx)
 (hrun:(Builtin.append_ #[t,xT] o.type #[vs,vx]).run P w=.ok v' w') (h:wpList P ops Q rest (a.put o.dst v') w'):wpList P ops Q (o::rest) a w :=
 JT hg fun _ hK=>Uw s x t xT ho hs hx hrun (hK _ _ h)
theorem jH (hg:o.guard=none) (s x:Operand) (t xT:TypeId) (ho:o.op=.call { callee:=.builtin .append,args:=#[s,x],argTypes:=#[t,xT] })
 (e:TypeId) (i:TypeInfo) (z:Value) (size bytes:Nat) (ht:P.underlying t=some (.slice e)) (hi:P.info? e=some i) (hz:i.zero=some z) (hsize:i.size=size) (hby:i.bytes=bytes) (hzs:z.cells.size=size)
 (v:Value) (n:Nat) (xs:List Value) (hs:a.eval s=v) (hown:Own w e size v n xs) (vx:Value) (m:Nat) (news:List Value) (hx:a.eval x=vx) (hsrc:Src P w xT size vx m news) (h1:∀u ∈ news,u.oneCell'=true)
 (h63:n+m≤maxLen) (hbytes:(n+m)*bytes≤140737488355328)
 (h:∀v' w',Own w' e size v' (n+m) (xs++news)→ζ (fun k=>v.ownBlock=some k) w w'→(v'.ownBlock=v.ownBlock∨v'.ownBlock=some w.heap.size)→w'.heap.size≤w.heap.size+1→wpList P ops Q rest (a.put o.dst v') w') :
 wpList P ops Q (o::rest) a w:=by
 obtain⟨v',w',hrun,h2,h3,h4,h5⟩:=Uu (P:=P) t o.type i z bytes ht hi hz hsize hby hzs hown hsrc h1 h63 hbytes;exact abd hg s x t xT ho hs hx hrun (h v' w' h2 h3 h4 h5)
theorem Src.zi {xT t e:TypeId} (ht:P.underlying xT=some (.slice t)) (x:Value):Src P (w.alloc (.cells #[x] e)) xT 1 (.slice (some ⟨w.heap.size,0,none⟩) 1 1) 1 [x] :=
 .uq ht _ _ _ sM (cell_one_new w x e)
theorem Src.N3 {xT t e:TypeId} (ht:P.underlying xT=some (.slice t)) (x:Value):Src P (w.alloc (.cells #[x] e)).drew xT 1 (.slice (some ⟨w.heap.size,0,none⟩) 1 1) 1 [x] :=
 .uq ht _ _ _ sM (cell_one_new w x e)
theorem Uo (hg:o.guard=none) (m x y:Operand) (t:TypeId) (ho:o.op=.mapUpdate t m x y) {vm vx vy:Value} (hm:a.eval m=vm) (hx:a.eval x=vx) (hy:a.eval y=vy)
 (hrun:(Instr.mapUpdate t vm vx vy).run P w=.ok () w') (h:wpList P ops Q rest (a.put o.dst undef) w'):wpList P ops Q (o::rest) a w:=by
 refine JT hg fun K hK=>?_
 unfold Oper.wp execOp;simp only[ho,hm,hx,hy,qK,hrun,TW,fN];exact hK _ _ h
theorem Ka (hg:o.guard=none) (m x:Operand) (t k:TypeId) (ho:o.op=.call { callee:=.builtin .delete,args:=#[m,x],argTypes:=#[t,k] }) {vm vx v:Value} (hm:a.eval m=vm) (hx:a.eval x=vx)
 (hrun:(Builtin.delete_ #[t,k] o.type #[vm,vx]).run P w=.ok v w') (h:wpList P ops Q rest (a.put o.dst v) w'):wpList P ops Q (o::rest) a w:=by
 refine JT hg fun K hK=>?_
 unfold Oper.wp execOp;simp only[ho,resolve,invoke,builtin,qK,TW,fN,List.map_toArray,jY,yZ,hm,hx,hrun];exact hK _ _ h
end
end
end Go.Proofs.YtbhjgfibhegddaaGreat
