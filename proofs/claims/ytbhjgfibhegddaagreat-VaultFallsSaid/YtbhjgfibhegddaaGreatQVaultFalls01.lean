/-
  Parts of the proof of VaultFalls: ZipC, Num, Texts, Heap, Ops, Range, Own.
-/
import Derived.ChangeMaps5
import Derived.KernelRfl
import Derived.Lib.BitFns
import Derived.Lib.ConvBytes
import Derived.Lib.Hide
import Derived.Lib.ItoaNum
import Derived.MapKept
import Derived.Maps.AppendAt
import Derived.Maps.RangeRun
import Derived.Test.YtbhjgfibhegddaaGreatProg
import Derived.WalkKit
import Derived.WalkLawsBesides
import Derived.WalkSpells
set_option maxRecDepth 100000
set_option maxHeartbeats 16000000
namespace Go.Proofs.YtbhjgfibhegddaaGreat
abbrev δ:=@Go.Lib.hid
abbrev iW:=@List.length_take
abbrev aN:=@List.length_append
abbrev π:=@if_pos
abbrev ν:=@if_neg
abbrev eZ:=@List.length_cons
abbrev AO:=@Nat.pow_le_pow_right
abbrev afU:=@Go.Lib.bitLenAux_bounds
abbrev yY:=@Classical.byContradiction
abbrev XN:=@Nat.add_comm
abbrev pI:=@List.cons_append
abbrev E_:=@Nat.mul_add
abbrev Mb:=@Nat.mul_comm
abbrev QB:=@List.drop_succ_cons
abbrev bN:=@List.getD_eq_getElem?_getD
abbrev Mc:=@List.getElem?_take
abbrev ia:=@List.take_succ_eq_append_getElem
abbrev bu:=@List.getElem?_eq_getElem
abbrev tY:=@Prod.mk.injEq
abbrev qN:=@and_true
abbrev qi:=@List.getElem?_append_left
abbrev Md:=@List.take_left
abbrev XO:=@List.drop_left
abbrev eC:=@List.append_assoc
abbrev gV:=@Bool.and_eq_true
abbrev eD:=@decide_eq_true_eq
abbrev jC:=@List.length_drop
abbrev yZ:=@List.flatMap_cons
abbrev bO:=@Nat.le_refl
abbrev ic:=@Nat.le_trans
abbrev nY:=@Nat.lt_of_lt_of_le
abbrev rS:=@Go.RowKit.Below.heap_alloc
abbrev pJ:=@Go.RowKit.Below.heap_setCell
abbrev Io:=@Nat.lt_or_ge
abbrev y6:=@Array.getElem?_eq_none
abbrev Fa:=@Go.cell_of_row
abbrev AP:=@Go.heap_alloc_new
abbrev nZ:=@Array.getElem?_eq_some_iff
abbrev aI:=@congrArg
abbrev sS:=@List.map_map
abbrev cu:=@List.mem_map
abbrev QC:=@List.nodup_nil
abbrev kO:=@List.map_cons
abbrev kn:=@List.nodup_cons
abbrev lf:=@List.getElem?_map
abbrev qO:=@List.mem_of_getElem?
abbrev cC:=@List.mem_cons
abbrev CU:=@List.getElem?_of_mem
abbrev afW:=@List.find?_eq_none
abbrev Fc:=@List.ext_getElem?
abbrev afV:=@Array.getElem?_modify
abbrev jj:=@if_false
abbrev mF:=@List.getElem?_eq_some_iff
abbrev tZ:=@List.filter_eq_self
abbrev XP:=@List.eraseIdx_eq_take_drop_succ
abbrev vc:=@List.drop_eq_getElem_cons
abbrev AQ:=@List.take_append_drop
abbrev dM:=@Option.some.inj
abbrev lq:=@List.map_append
abbrev Me:=@List.nodup_append
abbrev QE:=@List.filter_append
abbrev Fe:=@List.filter_cons
abbrev Ff:=@List.map_take
abbrev QF:=@List.map_drop
abbrev QG:=@Array.getElem?_eq_getElem
abbrev rT:=@Go.Sem.run_bind
abbrev XQ:=@Go.Sem.run_pure
abbrev fZ:=@Go.Result.andThen_ok
abbrev Mf:=@Go.wpList_plain
abbrev bz:=@List.length_map
abbrev afX:=@Array.eq_empty_of_size_eq_zero
abbrev AR:=@List.mem_filter
abbrev nt:=@Ne.symm
abbrev XR:=@List.filter_filter
abbrev afY:=@List.filter_congr
abbrev qP:=@List.cons.injEq
abbrev afZ:=@Nat.mul_le_mul_right
abbrev XS:=@Array.toList_setIfInBounds
abbrev af0:=@Go.run_firstCells_some
abbrev AU:=@List.eq_nil_of_length_eq_zero
abbrev y7:=@List.append_nil
abbrev AV:=@List.length_nil
abbrev sU:=@Nat.add_zero
abbrev XT:=@Nat.add_mul
abbrev QH:=@List.size_toArray
abbrev XU:=@Array.toList_append
abbrev lK:=@Nat.zero_add
abbrev oR:=@List.nil_append
abbrev xo:=@Array.length_toList
abbrev AW:=@List.map_nil
structure Τa where
instance:CoeFun Τa (fun _=>Int→Go.Value):=⟨fun _=>.int .i64⟩
def ι:Τa:=⟨⟩
structure Τb where
instance:CoeFun Τb (fun _=>Int→Go.Value):=⟨fun _=>.int .u8⟩
def ϋ:Τb:=⟨⟩
structure Τc where
instance:CoeFun Τc (fun _=>Int→Go.Value):=⟨fun _=>.int .u64⟩
def ω:Τc:=⟨⟩
structure Τi where
instance:CoeFun Τi (fun _=>Go.Value→Go.Ending):=⟨fun _=>.returned⟩
def ώ:Τi:=⟨⟩
section
open Go Go.RowKit
theorem τ {a b:Prop} (xa:a) (xb:b):Hid (a∧b):=δ ⟨xa,xb⟩
theorem aq {a b c:Prop} (xa:a) (xb:b) (xc:c):Hid (a∧b∧c):=δ ⟨xa,xb,xc⟩
theorem aF {a b c d:Prop} (xa:a) (xb:b) (xc:c) (xd:d):Hid (a∧b∧c∧d):=δ ⟨xa,xb,xc,xd⟩
theorem cD {a b c d e:Prop} (xa:a) (xb:b) (xc:c) (xd:d) (xe:e):Hid (a∧b∧c∧d∧e):=δ ⟨xa,xb,xc,xd,xe⟩
theorem iw {a b c d e f:Prop} (xa:a) (xb:b) (xc:c) (xd:d) (xe:e) (xf:f):Hid (a∧b∧c∧d∧e∧f):=δ ⟨xa,xb,xc,xd,xe,xf⟩
theorem p7 {a b c d e f g:Prop} (xa:a) (xb:b) (xc:c) (xd:d) (xe:e) (xf:f) (xg:g):Hid (a∧b∧c∧d∧e∧f∧g):=δ ⟨xa,xb,xc,xd,xe,xf,xg⟩
theorem B0 {a b c d e f g h:Prop} (xa:a) (xb:b) (xc:c) (xd:d) (xe:e) (xf:f) (xg:g) (xh:h):Hid (a∧b∧c∧d∧e∧f∧g∧h):=δ ⟨xa,xb,xc,xd,xe,xf,xg,xh⟩
theorem μ {α : Type} (a : α):∃x,a=x:=⟨a,rfl⟩
theorem oM {P:Prop} (h:P:=by omega):P:=h
theorem kR {P:Prop} (h:P:=by kernel_rfl):P:=h
theorem dC {P:Prop} (h:P:=by decide):P:=h
theorem sM {P:Prop} (h:P:=by simp):P:=h
theorem aS {P:Prop} (h:P:=by assumption):P:=h
theorem oN {A P:Prop} (f:A) (h:A→P:=by intro H;omega):P:=h f
theorem oO {A B P:Prop} (f:A) (g:B) (h:A→B→P:=by intro H G;omega):P:=h f g
theorem oE {a b:Nat} {P:Prop} (e:a=b) (h:a=b→P:=by intro H;omega):P:=h e
theorem oF {a b:Nat} {A P:Prop} (e:a=b) (f:A) (h:a=b→A→P:=by intro H G;omega):P:=h e f
theorem oG {a b:Nat} {A B P:Prop} (e:a=b) (f:A) (g:B) (h:a=b→A→B→P:=by intro H G I;omega):P:=h e f g
theorem φ {α : Sort _} {C : α → Prop} (x : α) (e:False):C x:=e.elim
end
section
open Go
theorem D7 {P:Prop} (h:P:=by rw[iW];omega):P:=h
theorem B4 {P:Prop} (h:P:=by rw[aN];omega):P:=h
def bD (n:Nat):Nat:=if n<128 then 1 else 1+bD (n / 128)
def aR (n:Nat):List UInt8:=if n<128 then [UInt8.ofNat n] else UInt8.ofNat (n % 128+128)::aR (n / 128)
def gQ:List UInt8→Nat
 | []=>0
 | b::l=>b.toNat % 128+128*gQ l
theorem Bb {n:Nat} (h:n<128):bD n=1:=by rw[bD,π h]
theorem Bc {n:Nat} (h:128≤n):bD n=1+bD (n / 128):=by rw[bD,ν oM]
theorem Jg {n:Nat} (h:n<128):aR n=[UInt8.ofNat n]:=by rw[aR,π h]
theorem FH {n:Nat} (h:128≤n):aR n=UInt8.ofNat (n % 128+128)::aR (n / 128):=by rw[aR,ν oM]
theorem MO (n:Nat):1≤bD n:=by
 rw[bD];split<;>omega
theorem iY (n:Nat):(aR n).length=bD n:=by
 induction n using Nat.strongRecOn with
 | ind n ih =>
   by_cases h:n<128
   ·rw[Jg h,Bb h];rfl
   ·rw[FH oM,Bc oM,eZ,ih (n / 128) oM];omega
theorem Fv {x:Nat} (h:x<256):(UInt8.ofNat x).toNat=x:=by simp;omega
theorem Zn (n:Nat):gQ (aR n)=n:=by
 induction n using Nat.strongRecOn with
 | ind n ih =>
   by_cases h:n<128
   ·rw[Jg h]
    show (UInt8.ofNat n).toNat % 128+128*0=n;rw[Fv oM];omega
   ·rw[FH oM]
    show (UInt8.ofNat (n % 128+128)).toNat % 128+128*gQ (aR (n / 128))=n;rw[Fv oM,ih (n / 128) oM];omega
theorem M_ (k:Nat):∀n,bD n≤k+1↔n<128 ^ (k+1):=by
 induction k with
 | zero =>
   intro n;by_cases h:n<128
   ·rw[Bb h];simp;omega
   ·rw[Bc oM]
    have:=MO (n / 128);simp;omega
 | succ k ih =>
   intro n;by_cases h:n<128
   ·rw[Bb h]
    have:128≤128 ^ (k+1+1):=by
     have:128 ^ 1≤128 ^ (k+1+1):=AO oM oM;omega
    omega
   ·rw[Bc oM,Nat.pow_succ]
    have h1:=ih (n / 128);rw[Nat.div_lt_iff_lt_mul oM] at h1;omega
theorem dA {n:Nat} (h:n<18446744073709551616):bD n≤10:=(M_ 9 n).2 (by
 have:(128:Nat) ^ (9+1)=1180591620717411303424:=dC;omega)
theorem agI (n:Nat) (h:n<18446744073709551616):bD n=max 1 ((Lib.bitLen n+6) / 7):=by
 induction n using Nat.strongRecOn with
 | ind n ih =>
   by_cases h1:n<128
   ·rw[Bb h1]
    by_cases h0:n=0
    ·subst h0;decide
    ·have:=afU 64 n oM h0
     have h7:Lib.bitLen n≤7:=by
      apply yY
      intro hc;have h2:2 ^ 7≤2 ^ (Lib.bitLen n - 1):=AO oM oM;have h3:2 ^ (Lib.bitLen n - 1)≤n:=this.2.1;omega
     omega
   ·rw[Bc oM,ih (n / 128) oM oM,Lib.bitLen_shift 7 n oM h]
    have e:n / 2 ^ 7=n / 128:=rfl;rw[e];have hp:1≤Lib.bitLen (n / 128):=(afU 64 (n / 128) oM oM).1;omega
def ew:List UInt8→Nat→Nat
 | b::l,k+1=>if 128≤b.toNat then 1+ew l k else 0
 | _,_=>0
theorem RV (l:List UInt8) (k:Nat):ew l k≤k∧ew l k≤l.length:=by
 induction l generalizing k with
 | nil=>cases k<;>simp[ew]
 | cons b l ih =>
   cases k with
   | zero=>simp[ew]
   | succ k =>
     have:=ih k;unfold ew;split<;>simp<;>omega
theorem YR (l:List UInt8) (k i:Nat) (h:i<ew l k):128≤(l.getD i 0).toNat:=by
 induction l generalizing k i with
 | nil=>cases k<;>simp[ew] at h
 | cons b l ih =>
   cases k with
   | zero=>simp[ew] at h
   | succ k =>
     unfold ew at h;split at h
     ·rename_i hb
      cases i with
      | zero=>simpa using hb
      | succ i=>simpa using ih k i oM
     ·omega
theorem Rc (l:List UInt8) (k:Nat) (h:ew l k<k) (h2:ew l k<l.length):(l.getD (ew l k) 0).toNat<128:=by
 induction l generalizing k with
 | nil=>simp at h2
 | cons b l ih =>
   cases k with
   | zero=>omega
   | succ k =>
     by_cases hb:128≤b.toNat
     ·have e:ew (b::l) (k+1)=1+ew l k:=by show (if 128≤b.toNat then _ else _)=_;rw[π hb]
      rw[e] at h h2 ⊢;have:=ih k oM (by simp at h2;omega);rw[XN];simpa using this
     ·have e:ew (b::l) (k+1)=0:=by show (if 128≤b.toNat then _ else _)=_;rw[ν hb]
      rw[e];simp;omega
theorem aaf (l:List UInt8) (k c:Nat) (hk:c≤k) (hl:c≤l.length) (hg:∀i,i<c→128≤(l.getD i 0).toNat) (he:c=k∨c=l.length∨(l.getD c 0).toNat<128):ew l k=c:=by
 have h1:=RV l k;rcases Nat.lt_trichotomy (ew l k) c with h | h | h
 ·have:=Rc l k oM oM
  have:=hg _ h;omega
 ·exact h
 ·have:=YR l k c h
  omega
def gz (s:List UInt8):Nat × Nat × Int :=
 if ew s 10=10 then (0,0,8) else if ew s 10=s.length then (0,0,7) else if ew s 10=9∧1<(s.getD 9 0).toNat then (0,0,8) else
 if bD (gQ (s.take (ew s 10+1)))=ew s 10+1 then (gQ (s.take (ew s 10+1)),ew s 10+1,0) else (0,0,8)
theorem ajF (a b:List UInt8):gQ (a++b)=gQ a+128 ^ a.length*gQ b:=by
 induction a with
 | nil=>simp[gQ]
 | cons x a ih =>
   simp only[pI,gQ,ih,eZ];rw[Nat.pow_succ,E_,Mb (128 ^ a.length) 128,Nat.mul_assoc];omega
theorem aaX (l:List UInt8):gQ l<128 ^ l.length:=by
 induction l with
 | nil=>simp[gQ]
 | cons x l ih =>
   simp only[gQ,eZ];rw[Nat.pow_succ];omega
theorem ail (l:List UInt8) (i:Nat):gQ (l.drop i)≤gQ l:=by
 induction l generalizing i with
 | nil=>simp
 | cons x l ih =>
   cases i with
   | zero=>simp
   | succ i =>
     have:=ih i;simp only[QB,gQ];omega
theorem ajG (s:List UInt8) (hs:s≠[]) (hg:∀i,i+1<s.length→128≤(s.getD i 0).toNat) (he:(s.getD (s.length - 1) 0).toNat<128):aR (gQ s)=s↔bD (gQ s)=s.length:=by
 constructor
 ·intro h
  rw[← iY,h]
 ·induction s with
  | nil=>exact absurd rfl hs
  | cons b l ih =>
    intro hz;have hb:=b.toNat_lt;cases l with
    | nil =>
      have he':b.toNat<128:=by simpa using he
      have:gQ [b]=b.toNat:=by simp only[gQ];omega
      rw[this,Jg he'];simp
    | cons c l =>
      have eO:=hg 0 sM;simp only[List.getD_cons_zero] at eO;have hge:128≤gQ (b::c::l):=by
       apply yY
       intro hc;rw[Bb oM] at hz;simp at hz
      have hd:gQ (b::c::l) / 128=gQ (c::l):=by
       show (b.toNat % 128+128*gQ (c::l)) / 128=_;omega
      have hm:gQ (b::c::l) % 128=b.toNat % 128:=by
       show (b.toNat % 128+128*gQ (c::l)) % 128=_;omega
      rw[Bc hge,hd,eZ] at hz;rw[FH hge,hd,hm,ih sM (fun i hi=>by
       have:=hg (i+1) (by simp at hi ⊢;omega);simpa using this) (by simpa using he) oM]
      congr 1
      have e:b.toNat % 128+128=b.toNat:=oM;rw[e];simp
theorem aim (n i:Nat) (h:i+1<bD n):128≤((aR n).getD i 0).toNat:=by
 induction n using Nat.strongRecOn generalizing i with
 | ind n ih =>
   by_cases h1:n<128
   ·rw[Bb h1] at h;omega
   ·rw[Bc oM] at h
    rw[FH oM];cases i with
    | zero =>
      rw[List.getD_cons_zero,Fv oM];omega
    | succ i=>simpa using ih (n / 128) oM i oM
theorem ain (n:Nat):((aR n).getD (bD n - 1) 0).toNat<128:=by
 induction n using Nat.strongRecOn with
 | ind n ih =>
   by_cases h1:n<128
   ·rw[Bb h1,Jg h1]
    show (UInt8.ofNat n).toNat<128;rw[Fv oM];exact h1
   ·have hp:=MO (n / 128)
    rw[Bc oM,FH oM];have e:1+bD (n / 128) - 1=(bD (n / 128) - 1)+1:=oM;rw[e,List.getD_cons_succ];exact ih (n / 128) oM
theorem Re (l:List UInt8) (n i:Nat) (h:i<n):(l.take n).getD i 0=l.getD i 0:=by
 rw[bN,bN,Mc,π h]
theorem Rw:(128:Nat) ^ 9=9223372036854775808:=dC
theorem YS {s:List UInt8} (h1:ew s 10≠10) (h2:ew s 10≠s.length) :
 (s.take (ew s 10+1)).length=ew s 10+1∧(∀i,i+1<(s.take (ew s 10+1)).length→128≤((s.take (ew s 10+1)).getD i 0).toNat)∧((s.take (ew s 10+1)).getD ((s.take (ew s 10+1)).length - 1) 0).toNat<128:=by
 have hle:=RV s 10;have hl:(s.take (ew s 10+1)).length=ew s 10+1:=D7
 refine⟨hl,fun i hi=>?_,?_⟩
 ·rw[hl] at hi
  rw[Re _ _ _ oM];exact YR s 10 i oM
 ·rw[hl,Nat.add_sub_cancel,Re _ _ _ oM]
  exact Rc s 10 oM oM
theorem Sm {s:List UInt8} (h1:ew s 10≠10) (h2:ew s 10≠s.length):gQ (s.take (ew s 10+1))<18446744073709551616↔¬(ew s 10=9∧1<(s.getD 9 0).toNat):=by
 obtain⟨hl,hg,he⟩:=YS h1 h2;have hle:=RV s 10;by_cases h9:ew s 10=9
 ·have e:s.take (ew s 10+1)=s.take 9++[s.getD 9 0]:=by
   rw[h9,ia oM,bN,bu oM];rfl
  have h128:(s.getD 9 0).toNat<128:=by
   have:=Rc s 10 oM oM;rw[h9] at this;exact this
  have hlt:=aaX (s.take 9);have hl9:(s.take 9).length=9:=D7
  rw[e,ajF,hl9,Rw];rw[hl9,Rw] at hlt;have ev:gQ [s.getD 9 0]=(s.getD 9 0).toNat:=by simp only[gQ];omega
  rw[ev];constructor
  ·rintro h ⟨-,hc⟩
   omega
  ·intro h
   have:(s.getD 9 0).toNat≤1:=by
    apply yY
    intro hc;exact h ⟨h9,oM⟩
   omega
 ·have hlt:=aaX (s.take (ew s 10+1))
  rw[hl] at hlt;have hp:128 ^ (ew s 10+1)≤128 ^ 9:=AO oM oM;rw[Rw] at hp;constructor
  ·rintro - ⟨hc,-⟩
   exact h9 hc
  ·intro _
   omega
theorem amv {s:List UInt8} {n k:Nat} (h:gz s=(n,k,0)):n<18446744073709551616∧k=bD n∧k≤s.length∧s.take k=aR n:=by
 unfold gz at h;split at h
 ·simp at h
 rename_i h1
 split at h
 ·simp at h
 rename_i h2
 split at h
 ·simp at h
 rename_i h3
 obtain⟨hl,hg,he⟩:=YS h1 h2;have hv:=(Sm h1 h2).2 h3;split at h
 ·rename_i h4
  simp only[tY,qN] at h;obtain⟨h5,h6⟩:=h;have hp:=(ajG _ (fun e=>by rw[e] at hl;simp at hl) hg he).2 (by rw[h4,hl])
  rw[iW] at hl;rw[h5] at hp h4 hv;rw[h6] at hp h4;exact⟨hv,h4.symm,oM,hp.symm⟩
 ·simp at h
theorem aaY (s:List UInt8):((gz s).2.2=0)∨gz s=(0,0,7)∨gz s=(0,0,8):=by
 unfold gz;split
 ·simp
 split
 ·simp
 split
 ·simp
 split<;>simp
theorem aaZ (n:Nat) (hn:n<18446744073709551616) (r:List UInt8):gz (aR n++r)=(n,bD n,0):=by
 have hl:=iY n;have hp:=MO n;have h10:=dA hn;have qv:∀i,i<bD n→(aR n++r).getD i 0=(aR n).getD i 0:=by
  intro i hi;rw[bN,bN,qi oM]
 have hc:ew (aR n++r) 10=bD n - 1:=aaf _ _ _ oM B4
  (fun i hi=>by rw[qv i oM];exact aim n i oM)
  (.inr (.inr (by rw[qv _ oM];exact ain n)))
 have h1:ew (aR n++r) 10≠10:=oM;have h2:ew (aR n++r) 10≠(aR n++r).length:=B4
 have ht:(aR n++r).take (ew (aR n++r) 10+1)=aR n:=by
  rw[hc,Nat.sub_add_cancel hp,← hl,Md]
 have hv:=(Sm h1 h2).1 (by rw[ht,Zn];exact hn);unfold gz;rw[ν h1,ν h2,ν hv,ht,Zn,π oM,hc,Nat.sub_add_cancel hp]
structure eM where
 rest:List UInt8
 read:Nat
 fail:Int
def i7 (s:List UInt8) (m:Nat):Nat × Nat × Int :=
 if (gz s).2.2=0 then (if (gz s).1≤m then gz s else (0,0,8)) else (0,0,(gz s).2.2)
theorem aag {s:List UInt8} {m n k:Nat} (h:i7 s m=(n,k,0)):n≤m∧gz s=(n,k,0):=by
 unfold i7 at h;split at h
 ·split at h
  ·rename_i h1 h2
   rw[h] at h2;exact⟨h2,h⟩
  ·simp at h
 ·rename_i h1
  simp only[tY] at h;exact absurd h.2.2 h1
theorem Zo (s:List UInt8) (m:Nat):(i7 s m).2.2=0∨i7 s m=(0,0,7)∨i7 s m=(0,0,8):=by
 unfold i7;rcases aaY s with h | h | h
 ·rw[π h]
  split
  ·exact .inl h
  ·exact .inr (.inr rfl)
 ·rw[h];exact .inr (.inl rfl)
 ·rw[h];exact .inr (.inr rfl)
theorem Zp (n m:Nat) (hn:n<18446744073709551616) (hm:n≤m) (r:List UInt8):i7 (aR n++r) m=(n,bD n,0):=by
 unfold i7;rw[aaZ n hn r];simp[hm]
def eM.most (x:eM) (m:Nat):Nat × eM :=
 if x.fail=0 then (if (i7 x.rest m).2.2=0 then ((i7 x.rest m).1,⟨x.rest.drop (i7 x.rest m).2.1,x.read+(i7 x.rest m).2.1,0⟩) else (0,⟨x.rest,x.read,(i7 x.rest m).2.2⟩)) else (0,x)
theorem Fw (n m k:Nat) (hn:n<18446744073709551616) (hm:n≤m) (r:List UInt8):(⟨aR n++r,k,0⟩:eM).most m=(n,⟨r,k+bD n,0⟩):=by
 unfold eM.most;simp only[Zp n m hn hm r,π];rw[← iY n,XO]
theorem vW {P:Prop} (h:P:=by simpa using h):P:=h
theorem z_ {P:Prop} (h:P:=by simp[hq]):P:=h
def bJ (t:List UInt8):List UInt8:=aR t.length++t
def eM.num (x:eM):Nat × eM :=
 if x.fail=0 then (if (gz x.rest).2.2=0 then ((gz x.rest).1,⟨x.rest.drop (gz x.rest).2.1,x.read+(gz x.rest).2.1,0⟩) else (0,⟨x.rest,x.read,(gz x.rest).2.2⟩)) else (0,x)
def NV (s:List UInt8) (m:Nat):Int:=if (i7 s m).2.2≠0 then (i7 s m).2.2 else if s.length - (i7 s m).2.1<(i7 s m).1 then 7 else 0
def eM.text (x:eM) (m:Nat):List UInt8 × eM :=
 if x.fail=0 then (if NV x.rest m=0 then ((x.rest.drop (i7 x.rest m).2.1).take (i7 x.rest m).1,⟨x.rest.drop ((i7 x.rest m).2.1+(i7 x.rest m).1),x.read+((i7 x.rest m).2.1+(i7 x.rest m).1),0⟩) else ([],⟨x.rest,x.read,NV x.rest m⟩)) else ([],x)
def eM.byte (x:eM):UInt8 × eM :=
 if x.fail=0 then (if x.rest=[] then (0,⟨x.rest,x.read,7⟩) else (x.rest.getD 0 0,⟨x.rest.drop 1,x.read+1,0⟩)) else (0,x)
theorem aah (n k:Nat) (hn:n<18446744073709551616) (r:List UInt8):(⟨aR n++r,k,0⟩:eM).num=(n,⟨r,k+bD n,0⟩):=by
 unfold eM.num;simp only[aaZ n hn r,π];rw[← iY n,XO]
theorem I9 (t:List UInt8) (m k:Nat) (ht:t.length≤m) (hn:t.length<18446744073709551616) (r:List UInt8):(⟨bJ t++r,k,0⟩:eM).text m=(t,⟨r,k+(bJ t).length,0⟩):=by
 have h1:i7 (bJ t++r) m=(t.length,bD t.length,0):=by
  unfold bJ;rw[eC];exact Zp _ _ hn ht _
 have hl:(bJ t).length=bD t.length+t.length:=by unfold bJ;rw[aN,iY]
 unfold eM.text;simp only
 rw[π trivial,π (by unfold NV;rw[h1];simp only;rw[ν sM,ν (by rw[aN,hl];omega)]),h1];simp only
 rw[← hl,XO];have e:(bJ t++r).drop (bD t.length)=t++r:=by
  unfold bJ;rw[eC,← iY,XO]
 rw[e,Md]
theorem MP (b:UInt8) (k:Nat) (r:List UInt8):(⟨b::r,k,0⟩:eM).byte=(b,⟨r,k+1,0⟩):=by
 unfold eM.byte;simp
theorem jl (t:List UInt8):(bJ t).length=bD t.length+t.length:=by unfold bJ;rw[aN,iY]
theorem lP {n:Nat} (h:n<16384):bD n≤2:=(M_ 1 n).2 vW
def oq (s:List UInt8):Bool:=decide (1≤s.length∧s.length≤8) && s.all fun c=>decide (97≤c.toNat∧c.toNat≤122)
def ur (s:List UInt8):Bool:=decide (1≤s.length∧s.length≤24) && s.all fun c=>decide (c≠0∧c≠47)
def i_ (p:List UInt8):List UInt8:=p.takeWhile (· != 47)
def nE (p:List UInt8):List UInt8 × List UInt8 × Bool :=
 if (i_ p).length<p.length∧oq (i_ p)=true∧ur (p.drop ((i_ p).length+1))=true then (i_ p,p.drop ((i_ p).length+1),true) else ([],[],false)
def jF (p:List UInt8):Bool:=(nE p).2.2
theorem Fp {p:List UInt8} (h:jF p=true):p.length≤33:=by
 unfold jF nE at h;split at h
 ·rename_i h1
  obtain⟨h1,h2,h3⟩:=h1;unfold oq at h2;unfold ur at h3;simp only[gV,eD,jC] at h2 h3;omega
 ·simp at h
structure dn where
 kind:UInt8
 path:List UInt8
 value:List UInt8
def jr (o:dn):Int:=if o.kind≠1∧o.kind≠2 then 10 else if jF o.path=false then 20 else if 32<o.value.length then 3 else if o.kind=2∧o.value≠[] then 1 else 0
def pP:List dn→Int
 | []=>0
 | o::r=>if jr o≠0 then jr o else pP r
def d_ (i e:Int) (l:List dn):Int:=if i<1∨4611686018427387904<i∨e<1 then 1 else if 4<l.length then 3 else pP l
theorem agY {l:List dn} : pP l=0↔∀o ∈ l,jr o=0:=by
 induction l with
 | nil=>simp[pP]
 | cons o r ih =>
   unfold pP;by_cases h:jr o=0
   ·rw[ν (by simp[h]),ih];simp[h]
   ·rw[π h];simp[h]
theorem ue {i e:Int} {l:List dn} (h:d_ i e l=0):1≤i∧i≤4611686018427387904∧1≤e∧l.length≤4∧∀o ∈ l,jr o=0:=by
 unfold d_ at h;split at h
 ·simp at h
 ·split at h
  ·simp at h
  ·exact⟨oM,oM,oM,oM,agY.1 h⟩
theorem C6 {o:dn} (h:jr o=0):(o.kind=1∨o.kind=2)∧jF o.path=true∧o.path.length≤33∧o.value.length≤32∧(o.kind=2→o.value=[]):=by
 unfold jr at h;split at h
 ·simp at h
 ·split at h
  ·simp at h
  ·split at h
   ·simp at h
   ·split at h
    ·simp at h
    ·rename_i h1 h2 h3 h4
     have hp:jF o.path=true:=by simpa using h2
     refine⟨?_,hp,Fp hp,oM,fun hk=>?_⟩
     ·apply yY
      intro hc;exact h1 ⟨fun e=>hc (.inl e),fun e=>hc (.inr e)⟩
     ·apply yY
      intro hc;exact h4 ⟨hk,hc⟩
def Aa (o:dn):List UInt8:=o.kind::(bJ o.path++if o.kind=1 then bJ o.value else [])
def jt (l:List dn):List UInt8:=l.flatMap Aa
def zB (i e:Nat) (l:List dn):List UInt8:=aR i++(aR e++(aR l.length++jt l))
theorem alv {o:dn} (h:jr o=0):(Aa o).length≤70:=by
 obtain⟨-,-,h1,h2,-⟩:=C6 h;have a:=lP (n:=o.path.length) oM;have b:=lP (n:=o.value.length) oM;unfold Aa;rw[eZ,aN,jl];split
 ·rw[jl];omega
 ·simp;omega
theorem RX {l:List dn} (h:∀o ∈ l,jr o=0):(jt l).length≤70*l.length:=by
 induction l with
 | nil=>simp[jt]
 | cons o r ih =>
   have h1:=alv (h o sM);have h2:=ih fun p hp=>h p (by simp[hp])
   have e:jt (o::r)=Aa o++jt r:=rfl;rw[e,aN,eZ];omega
theorem ajH {i e:Nat} {l:List dn} (hi:i<18446744073709551616) (he:e<18446744073709551616) (hl:l.length≤4) (h:∀o ∈ l,jr o=0):(zB i e l).length≤310:=by
 have h1:=dA hi;have h2:=dA he;have h3:=lP (n:=l.length) oM;have h4:=RX h;unfold zB;rw[aN,aN,aN,iY,iY,iY];omega
abbrev ai:=List UInt8 × List UInt8
def lu (p:ai):List UInt8:=bJ p.1++bJ p.2
def gL (l:List ai):List UInt8:=aR l.length++l.flatMap lu
theorem Rx {l:List ai} {a b:Nat} (ha:a<16384) (hb:b<16384) (h:∀p ∈ l,p.1.length≤a∧p.2.length≤b):(l.flatMap lu).length≤(a+b+4)*l.length:=by
 induction l with
 | nil=>simp
 | cons p r ih =>
   obtain⟨h1,h2⟩:=h p sM;have h3:=ih fun q hq=>h q z_
   have c:=lP (n:=p.1.length) oM;have d:=lP (n:=p.2.length) oM;have e:(lu p).length≤a+b+4:=by
    unfold lu;rw[aN,jl,jl];omega
   rw[yZ,aN,eZ,Nat.mul_succ];omega
end
section
open Go Go.RowKit Go.MapKept
open Go.ChangeMaps (setBlock)
structure ζ (F:Nat→Prop) (w w':World):Prop where
 os:w'.os=w.os
 tape:w'.tape=w.tape
 output:w'.output=w.output
 size:w.heap.size≤w'.heap.size
 block:∀k,k<w.heap.size→¬F k→w'.heap[k]? = w.heap[k]?
structure Τd where
instance:CoeFun Τd (fun _=>World→World→Prop):=⟨fun _=>ζ (fun _=>False)⟩
def υ:Τd:=⟨⟩
section
variable {F G H:Nat→Prop} {w w1 w2 w':World}
theorem ζ.refl (F:Nat→Prop) (w:World):ζ F w w:=⟨rfl,rfl,rfl,bO _,fun _ _ _=>rfl⟩
theorem ζ.trans (h:ζ F w w1) (k:ζ G w1 w2) (hF:∀b,F b→H b) (hG:∀b,G b→H b∨w.heap.size≤b):ζ H w w2 :=
 ⟨k.os.trans h.os,k.tape.trans h.tape,k.output.trans h.output,ic h.size k.size,fun b hb hn =>
  (k.block b (nY hb h.size) (fun e=>(hG b e).elim hn (fun e=>by omega))).trans (h.block b hb (fun e=>hn (hF b e)))⟩
theorem ζ.mono (h:ζ F w w1) (hF:∀b,F b→G b∨w.heap.size≤b):ζ G w w1 :=
 ⟨h.os,h.tape,h.output,h.size,fun b hb hn=>h.block b hb (fun e=>(hF b e).elim hn (fun e=>by omega))⟩
theorem ζ.drew (h:ζ F w w1):ζ F w w1.drew:=⟨h.os,h.tape,h.output,h.size,h.block⟩
theorem ζ.drewN (h:ζ F w w1) (n:Nat):ζ F w (w1.drewN n):=⟨h.os,h.tape,h.output,h.size,h.block⟩
theorem ζ.alloc (h:ζ F w w1) (o:Obj):ζ F w (w1.alloc o) :=
 ⟨h.os,h.tape,h.output,ic h.size sM,fun b hb hn=>(rS w1 o b (nY hb h.size)).trans (h.block b hb hn)⟩
theorem ζ.setCell (h:ζ F w w1) {p:Addr} (hp:F p.block∨w.heap.size≤p.block) (u:Value):ζ F w (w1.setCell p u) :=
 ⟨h.os,h.tape,h.output,by simpa [World.setCell] using h.size,fun b hb hn=>(pJ w1 p u b (by
  rintro rfl;rcases hp with hp | hp
  ·exact hn hp
  ·omega)).trans (h.block b hb hn)⟩
theorem ζ.pM (h:Below w.heap.size w w1) (F:Nat→Prop):ζ F w w1:=⟨h.os,h.tape,h.output,h.size,fun b hb _=>h.block b hb⟩
theorem ζ.below (h:ζ F w w1) (hF:∀b,F b→w.heap.size≤b):Below w.heap.size w w1 :=
 ⟨h.os,h.tape,h.output,h.size,fun b hb=>h.block b hb (fun e=>oN (hF b e))⟩
theorem ζ.then (h:ζ F w w1) (k:ζ G w1 w2) (hG:∀b,G b→F b∨w.heap.size≤b):ζ F w w2:=h.trans k (fun _ e=>e) hG
end
def η (w:World) (g:Nat) (t:TypeId) (cs:Array Value):Prop:=w.heap[g]? = some (.cells cs t (0,0))
section
variable {w w':World} {g:Nat} {t:TypeId} {cs:Array Value}
theorem η.lt (h:η w g t cs):g<w.heap.size:=by
 rcases Io g w.heap.size with hlt | hge
 ·exact hlt
 ·unfold η at h;rw[y6 hge] at h;cases h
theorem η.cell (h:η w g t cs) (i:Nat):w.cell? ⟨g,i,none⟩=cs[i]? := Fa w g i cs t (0,0) h
theorem η.frozen (h:η w g t cs) (i:Nat):w.frozen? ⟨g,i,none⟩=false:=by
 unfold η at h;simp[World.frozen?,h]
theorem η.new (w:World) (t:TypeId) (cs:Array Value):η (w.alloc (.cells cs t)) w.heap.size t cs:=AP w _
theorem η.drew (h:η w g t cs):η w.drew g t cs:=h
theorem η.drewN (h:η w g t cs) (n:Nat):η (w.drewN n) g t cs:=h
theorem η.alloc (h:η w g t cs) (o:Obj):η (w.alloc o) g t cs:=(rS w o g h.lt).trans h
theorem η.bE (h:η w g t cs) (i:Nat) (u:Value):η (w.setCell ⟨g,i,none⟩ u) g t (cs.setIfInBounds i u):=by
 unfold η at h ⊢;simp[World.setCell,Array.getElem?_modify,h]
theorem η.b9 (h:η w g t cs) {p:Addr} (hp:g≠p.block) (u:Value):η (w.setCell p u) g t cs:=(pJ w p u g hp).trans h
theorem η.ε {F:Nat→Prop} (h:η w g t cs) (hb:ζ F w w') (hg:¬F g):η w' g t cs:=(hb.block g h.lt hg).trans h
theorem η.dr (h:η w g t cs) (hb:w'.heap[g]? = w.heap[g]?):η w' g t cs:=hb.trans h
theorem η.B5 {g':Nat} {t':TypeId} {cs':Array Value} (h:η w g t cs) (h':η w g' t' cs') (hne:t≠t'):g≠g':=by
 rintro rfl;unfold η at h h';rw[h] at h';injection h' with h';injection h' with _ ht;exact hne ht
end
structure Br {α : Type} (d:TypeDesc) (inj : α → Value):Prop where
 isKey:∀a,IsKey d (inj a)
 inj:∀a b,inj a=inj b→a=b
theorem amw (k:IntKind):Br (.int k) (fun i:Int=>Value.int k i):=⟨fun _=>rfl,fun _ _ h=>by injection h⟩
theorem FO:Br .string (fun s:ByteArray=>Value.string s):=⟨fun _=>trivial,fun _ _ h=>by injection h⟩
def cM {α : Type} (inj : α → Value) (w:World) (b:Nat) (m:List (α × Value)):Prop :=
 ∃es clock,w.heap[b]? = some (.map es clock)∧Stamped es clock∧es.toList.map (fun e=>(e.key,e.val))=m.map (fun p=>(inj p.1,p.2))
def mu {α : Type} [DecidableEq α] (m:List (α × Value)) (a : α) (v:Value):List (α × Value) :=
 if a ∈ m.map (·.1) then m.map (fun p=>if p.1=a then (a,v) else p) else m++[(a,v)]
def oA {α : Type} [DecidableEq α] (m:List (α × Value)) (a : α):List (α × Value):=m.filter (fun p=>p.1≠a)
def oB {α : Type} [DecidableEq α] (m:List (α × Value)) (a : α):Option Value:=(m.find? (fun p=>p.1=a)).map (·.2)
section
variable {α : Type} {inj : α → Value} {d:TypeDesc} {w w':World} {b:Nat} {m:List (α × Value)}
theorem cM.lt (h:cM inj w b m):b<w.heap.size:=by
 obtain⟨es,clock,hb,_⟩:=h;exact(nZ.1 hb).1
theorem cM.dr (h:cM inj w b m) (hb:w'.heap[b]? = w.heap[b]?):cM inj w' b m:=by
 obtain⟨es,clock,h1,h2⟩:=h;exact⟨es,clock,hb.trans h1,h2⟩
theorem cM.ε {F:Nat→Prop} (h:cM inj w b m) (hu:ζ F w w') (hn:¬F b):cM inj w' b m:=h.dr (hu.block b h.lt hn)
theorem cM.drew (h:cM inj w b m):cM inj w.drew b m:=h
theorem cM.alloc (h:cM inj w b m) (o:Obj):cM inj (w.alloc o) b m:=h.dr (rS w o b h.lt)
theorem cM.b9 (h:cM inj w b m) {p:Addr} (hp:b≠p.block) (u:Value):cM inj (w.setCell p u) b m:=h.dr (pJ w p u b hp)
theorem cM.new (w:World):cM inj (w.alloc (.map #[] 0)) w.heap.size []:=⟨#[],0,AP w _,stamped_empty 0,rfl⟩
theorem cM.f_ {g:Nat} {t:TypeId} {cs:Array Value} (h:cM inj w b m) (h':η w g t cs):b≠g:=by
 rintro rfl;obtain⟨es,clock,h1,_⟩:=h;unfold η at h';rw[h1] at h';cases h'
theorem FI {es:List MapEntry} (h:es.map (fun e=>(e.key,e.val))=m.map (fun p=>(inj p.1,p.2))):es.map (·.key)=m.map (fun p=>inj p.1):=by
 have:=aI (List.map Prod.fst) h;simp only[sS] at this;exact this
theorem MQ (K:Br d inj) {es:List MapEntry} (h:es.map (fun e=>(e.key,e.val))=m.map (fun p=>(inj p.1,p.2))):∀x ∈ es,IsKey d x.key:=by
 intro x hx;have h1:x.key ∈ es.map (·.key):=cu.2 ⟨x,hx,rfl⟩;rw[FI h] at h1;obtain⟨p,_,hp⟩:=cu.1 h1;rw[← hp];exact K.isKey _
theorem Fm {β γ : Type} {f : β → γ} : ∀ {l:List β},(l.map f).Nodup→l.Nodup
 | [],_=>QC
 | x::l,h=>by
   simp only[kO,kn] at h ⊢;exact⟨fun e=>h.1 (cu.2 ⟨x,e,rfl⟩),Fm h.2⟩
theorem cM.nodup (h:cM inj w b m):(m.map (·.1)).Nodup:=by
 obtain⟨es,clock,_,hs,hm⟩:=h;have h3:=hs.2.2;rw[FI hm] at h3;have h4:((m.map (·.1)).map inj).Nodup:=by rw[sS];exact h3
 exact Fm h4
theorem I_ {es:List MapEntry} (hm:es.map (fun e=>(e.key,e.val))=m.map (fun p=>(inj p.1,p.2))) (j:Nat) (e:MapEntry) (he:es[j]? = some e) :
 ∃p,m[j]? = some p∧e.key=inj p.1∧e.val=p.2:=by
 have h1:(es.map (fun e=>(e.key,e.val)))[j]? = some (e.key,e.val):=by simp[he]
 rw[hm] at h1;simp only[lf,Option.map_eq_some_iff,tY] at h1;obtain⟨p,hp,h2,h3⟩:=h1;exact⟨p,hp,h2.symm,h3.symm⟩
variable [DecidableEq α]
theorem Ry {a : α} (hn:(m.map (·.1)).Nodup) {j:Nat} {v:Value} (h:m[j]? = some (a,v)):oB m a=some v:=by
 unfold oB;have hmem:(a,v) ∈ m:=qO h;induction m generalizing j with
 | nil=>simp at h
 | cons q m ih =>
   simp only[kO,kn] at hn;by_cases hq:q.1=a
   ·have:q=(a,v):=by
     rcases cC.1 hmem with e | e
     ·exact e.symm
     ·exact absurd (show a ∈ m.map (·.1) from cu.2 ⟨_,e,rfl⟩) (by rw[← hq];exact hn.1)
    simp[this]
   ·have Jz:(a,v) ∈ m:=by
     rcases cC.1 hmem with e | e
     ·exact absurd (by rw[← e]) hq
     ·exact e
    obtain⟨j',hj'⟩:=CU Jz;simp only[List.find?_cons,hq,decide_false];exact ih hn.2 hj' Jz
theorem Rz {a : α} (h:∀p ∈ m,p.1≠a):oB m a=none:=by
 unfold oB;have:m.find? (fun p=>decide (p.1=a))=none:=by
  simp only[afW,eD];exact h
 rw[this];rfl
theorem ac1 {P:Prop} (h:P:=by
 have h4:inj p.1 ∈ es.toList.map (·.key):=by rw[FI he];exact cu.2 ⟨p,hp,rfl⟩
 obtain⟨x,hx,yw⟩:=cu.1 h4;exact h2 x hx (by rw[yw,hpa])):P:=h
theorem cM.IP {P:Program} {mty kt et:TypeId} (h:cM inj w b m) (K:Br d inj) (hm:P.underlying mty=some (.map kt et)) (hd:P.underlying kt=some d) (a : α) (ok:Bool)
 {z:Value} (hz:(zeroValue et).run P w=.ok z w) :
 (Instr.lookup mty (.map (some b)) (inj a) ok).run P w=.ok (if ok then .tuple #[(oB m a).getD z,.bool (oB m a).isSome] else (oB m a).getD z) w:=by
 have hn:=h.nodup;obtain⟨es,clock,hb,hs,he⟩:=h;rcases findNow_spec (K.isKey a) es.toList 0 (MQ K he) with ⟨h1,h2⟩ | ⟨j,e,h1,h2,h3⟩
 ·have hg:oB m a=none:=Rz fun p hp hpa=>by
   exact ac1
  cases ok<;>simp[Instr.lookup,run_underlying hm,MapKept.run_getObj_map hb,run_checkKey hd (K.isKey a),run_findKey hd h1,hz,hg,Result.andThen]
 ·obtain⟨p,hp,hk,hv⟩:=I_ he j e h2
  have hpa:p.1=a:=K.inj _ _ (by rw[← hk,h3]);have hg:oB m a=some e.val:=Ry hn (j:=j) (by rw[hp,hv,← hpa]);cases ok<;>simp[Instr.lookup,run_underlying hm,MapKept.run_getObj_map hb,run_checkKey hd (K.isKey a),run_findKey hd h1,hg,Result.andThen]
theorem cM.MH {P:Program} {mty kt et:TypeId} (h:cM inj w b m) (K:Br d inj) (hm:P.underlying mty=some (.map kt et)) (hd:P.underlying kt=some d) (a : α) (v:Value) :
 ∃w',(Instr.mapUpdate mty (.map (some b)) (inj a) v).run P w=.ok () w'∧cM inj w' b (mu m a v)∧ζ (· = b) w w'∧w'.heap.size=w.heap.size:=by
 have hn:=h.nodup;obtain⟨es,clock,hb,hs,he⟩:=h;have JQ:∀o,ζ (· = b) w { w with heap:=w.heap.setIfInBounds b o } := fun o=>⟨rfl,rfl,rfl,sM,fun k _ hk=>(heap_set hb).2 k hk⟩
 rcases findNow_spec (K.isKey a) es.toList 0 (MQ K he) with ⟨h1,h2⟩ | ⟨j,e,h1,h2,h3⟩
 ·refine⟨{ w with heap:=w.heap.setIfInBounds b (.map (es.push { key:=inj a,val:=v,born:=clock }) (clock+1)) },?_,⟨_,_,(heap_set hb).1,stamped_push hs h2,?_⟩,JQ _,sM⟩
  ·simp[Instr.mapUpdate,run_underlying hm,MapKept.run_getObj_map hb,run_checkKey hd (K.isKey a),run_findKey hd h1,MapKept.run_setObj_map _ hb,Result.andThen]
  ·have hna:a ∉ m.map (·.1):=fun hmem=>by
    obtain⟨p,hp,hpa⟩:=cu.1 hmem;exact ac1
   unfold mu;rw[ν hna];simp[he]
 ·have hj:es[j]? = some e:=by simpa using h2
  obtain⟨p,hp,hk,hv⟩:=I_ he j e h2;have hpa:p.1=a:=K.inj _ _ (by rw[← hk,h3]);have hkey:∀e',es[j]? = some e'→({ e' with key:=inj a,val:=v } : MapEntry).key=e'.key:=fun e' he'=>by rw[hj] at he';cases he';exact h3.symm
  refine⟨{ w with heap:=w.heap.setIfInBounds b (.map (es.modify j fun e => { e with key:=inj a,val:=v }) clock) },?_,⟨_,_,(heap_set hb).1,stamped_modify hs _ _ (fun _ _=>rfl) (fun e' _ he'=>hkey e' he'),?_⟩,JQ _,sM⟩
  ·simp[Instr.mapUpdate,run_underlying hm,MapKept.run_getObj_map hb,run_checkKey hd (K.isKey a),run_findKey hd h1,hj,h3,run_keyThatStays (K.isKey a),MapKept.run_setObj_map _ hb,Result.andThen]
  ·have hya:a ∈ m.map (·.1):=cu.2 ⟨p,qO hp,hpa⟩
   unfold mu;rw[π hya];apply Fc
   intro i;simp only[lf,Array.getElem?_toList,afV];have hi:(es.toList.map (fun e=>(e.key,e.val)))[i]? = (m.map (fun p=>(inj p.1,p.2)))[i]? := by rw[he]
   simp only[lf,Array.getElem?_toList] at hi;by_cases hij:j=i
   ·subst hij
    simp[hj,hp,hpa]
   ·simp only[hij,jj]
    rw[hi];cases hmi:m[i]? with
    | none=>rfl
    | some q =>
      have D8:q.1≠a:=by
       intro D8;have ac2:i<m.length:=(mF.1 hmi).1;have pT:j<m.length:=(mF.1 hp).1;have e1:(m.map (·.1))[i]? = some a:=by simp[hmi,D8]
       have e2:(m.map (·.1))[j]? = some a:=by simp[hp,hpa]
       exact hij ((List.getElem?_inj (by simpa using pT) hn).1 (e2.trans e1.symm))
      simp[D8]
theorem ac3 {P:Prop} (h:P:=by
 simp[Builtin.delete_,run_underlying hm,MapKept.run_getObj_map hb,run_checkKey hd (K.isKey a),run_findKey hd h1,MapKept.run_setObj_map _ hb,Result.andThen]):P:=h
theorem cM.C7 {P:Program} {mty kt et ty:TypeId} (h:cM inj w b m) (K:Br d inj) (hm:P.underlying mty=some (.map kt et)) (hd:P.underlying kt=some d) (a : α) :
 ∃w',(Builtin.delete_ #[mty,kt] ty #[.map (some b),inj a]).run P w=.ok (.tuple #[]) w'∧cM inj w' b (oA m a)∧ζ (· = b) w w'∧w'.heap.size=w.heap.size:=by
 have hn:=h.nodup;obtain⟨es,clock,hb,hs,he⟩:=h;have JQ:∀o,ζ (· = b) w { w with heap:=w.heap.setIfInBounds b o } := fun o=>⟨rfl,rfl,rfl,sM,fun k _ hk=>(heap_set hb).2 k hk⟩
 rcases findNow_spec (K.isKey a) es.toList 0 (MQ K he) with ⟨h1,h2⟩ | ⟨j,e,h1,h2,h3⟩
 ·refine⟨{ w with heap:=w.heap.setIfInBounds b (.map es clock) },?_,⟨_,_,(heap_set hb).1,hs,?_⟩,JQ _,sM⟩
  ·exact ac3
  ·have:oA m a=m:=by
    unfold oA;rw[tZ];intro p hp;have h4:inj p.1 ∈ es.toList.map (·.key):=by rw[FI he];exact cu.2 ⟨p,hp,rfl⟩
    obtain⟨x,hx,yw⟩:=cu.1 h4;have:p.1≠a:=fun hpa=>h2 x hx (by rw[yw,hpa])
    simpa using this
   rw[this];exact he
 ·obtain⟨p,hp,hk,hv⟩:=I_ he j e h2
  have hpa:p.1=a:=K.inj _ _ (by rw[← hk,h3]);refine⟨{ w with heap:=w.heap.setIfInBounds b (.map (es.eraseIdxIfInBounds j) clock) },?_,⟨_,_,(heap_set hb).1,stamped_erase hs _,?_⟩,JQ _,sM⟩
  ·exact ac3
  ·have hlt:j<es.size:=by simpa using (mF.1 h2).1
   have anV:j<m.length:=(mF.1 hp).1;have e1:(es.eraseIdxIfInBounds j).toList=es.toList.eraseIdx j:=by
    unfold Array.eraseIdxIfInBounds;rw[dif_pos hlt];simp
   have e2:oA m a=m.eraseIdx j:=by
    unfold oA;rw[XP];have hsplit:m=m.take j++(m[j]::m.drop (j+1)):=by rw[← vc,AQ]
    have Vf:m[j]=p:=by
     have:=bu anV;rw[this] at hp;exact dM hp
    have hnn:=hn;rw[hsplit] at hnn;simp only[lq,kO,Me,kn] at hnn;conv=>lhs;rw[hsplit]
    rw[QE,Fe];rw[ν (by simp[Vf,hpa])];have f1:(m.take j).filter (fun p=>decide (p.1≠a))=m.take j:=by
     rw[tZ];intro q hq;have:=hnn.2.2 q.1 (cu.2 ⟨q,hq,rfl⟩) a (by rw[Vf,hpa];exact .head _);simpa using this
    have f2:(m.drop (j+1)).filter (fun p=>decide (p.1≠a))=m.drop (j+1):=by
     rw[tZ];intro q hq;have h5:=hnn.2.1.1;have:q.1≠a:=fun D8=>h5 (cu.2 ⟨q,hq,by rw[D8,Vf,hpa]⟩)
     simpa using this
    rw[f1,f2]
   rw[e1,e2,XP,XP];simp only[lq,Ff,QF,he]
end
end
section
open Go Go.RowKit
section
variable {P:Program} {ops:Array Oper} {rest:List Oper} {o:Oper} {a:Act} {w:World} {Q:Exit→Act→World→Prop} {K:Act→World→Prop}
theorem η.setRow {g:Nat} {t:TypeId} {cs:Array Value} (h:η w g t cs) (new:Array Value):η (w.setRow g new) g t new:=setRow_heap w g cs new t (0,0) h
theorem ζ.Nn (w:World) (g:Nat) (new:Array Value):ζ (· = g) w (w.setRow g new):=⟨rfl,rfl,rfl,sM,fun k _ hk=>setRow_other w g k new hk⟩
theorem agB {ty t:TypeId} {g i:Nat} {v:Value} {cs:Array Value} (hB:η w g t cs) (hi:i<cs.size) (h1:v.oneCell'=true) (hsz:(P.info? ty).map (·.size)=some 1) :
 (Instr.storeAt ty (.pointer (some ⟨g,i,none⟩)) v).run P w=.ok () (w.setCell ⟨g,i,none⟩ v):=by
 have hc:w.cell? ⟨g,i,none⟩=some cs[i]:=by rw[hB.cell];exact QG hi
 have hf:=hB.frozen i;cases hq:P.info? ty with
 | none=>simp[hq] at hsz
 | some inf =>
   have hs:inf.size=1:=by simpa [hq] using hsz
   have jq:v.cells=#[v]:=by cases v<;>simp_all [Value.oneCell',Value.cells]
   have hst:(store ⟨g,i,none⟩ v).run P w=.ok () (w.setCell ⟨g,i,none⟩ v):=by
    rw[run_store P w _ v _ h1];simp[hc,hf]
   simp[Instr.storeAt,Instr.sureAddr,storeVar,sizeOf,typeInfo,hq,hs,jq,storeCells,Addr.add,hst,Result.andThen]
theorem nw (ty:TypeId) (x y:Operand) (ho:o.op=.store ty x y) (g i:Nat) (v:Value) (hx:a.eval x=.pointer (some ⟨g,i,none⟩)) (hy:a.eval y=v)
 (t:TypeId) (cs:Array Value) (hB:η w g t cs) (hi:i<cs.size) (h1:v.oneCell'=true) (hsz:(P.info? ty).map (·.size)=some 1)
 (h:∀w',η w' g t (cs.setIfInBounds i v)→ζ (· = g) w w'→w'.heap.size=w.heap.size→K (a.put o.dst undef) w'):o.wp P a w K Q:=by
 unfold Oper.wp execOp;simp only[ho,hx,hy,rT,agB (P:=P) hB hi h1 hsz,XQ,fZ];exact h _ (hB.bE i v) ((ζ.refl (· = g) w).setCell (p:=⟨g,i,none⟩) (.inl rfl) v) sM
theorem gJ (hg:o.guard=none) (ty:TypeId) (x y:Operand) (ho:o.op=.store ty x y) (g i:Nat) (v:Value) (hx:a.eval x=.pointer (some ⟨g,i,none⟩)) (hy:a.eval y=v)
 (t:TypeId) (cs:Array Value) (hB:η w g t cs) (hi:i<cs.size) (h1:v.oneCell'=true) (hsz:(P.info? ty).map (·.size)=some 1)
 (h:∀w',η w' g t (cs.setIfInBounds i v)→ζ (· = g) w w'→w'.heap.size=w.heap.size→wpList P ops Q rest (a.put o.dst undef) w'):wpList P ops Q (o::rest) a w :=
 Mf hg fun _ hK=>nw ty x y ho g i v hx hy t cs hB hi h1 hsz fun w' b1 b2 b3=>hK _ _ (h w' b1 b2 b3)
theorem IG (ty:TypeId) (x y:Operand) (ho:o.op=.store ty x y) (g:Nat) (new:Array Value) (hx:a.eval x=.pointer (some ⟨g,0,none⟩)) (hy:a.eval y=.agg new)
 (t:TypeId) (cs:Array Value) (hB:η w g t cs) (hs:cs.size=new.size) (h1:new.all (·.oneCell')=true) (hsz:(P.info? ty).map (·.size)=some new.size)
 (h:∀w',η w' g t new→ζ (· = g) w w'→w'.heap.size=w.heap.size→K (a.put o.dst undef) w'):o.wp P a w K Q :=
 wp_store_row ty x y ho g new hx hy t cs hB hsz hs h1 (h _ (hB.setRow new) (ζ.Nn w g new) sM)
theorem fG (hg:o.guard=none) (ty:TypeId) (x y:Operand) (ho:o.op=.store ty x y) (g:Nat) (new:Array Value) (hx:a.eval x=.pointer (some ⟨g,0,none⟩)) (hy:a.eval y=.agg new)
 (t:TypeId) (cs:Array Value) (hB:η w g t cs) (hs:cs.size=new.size) (h1:new.all (·.oneCell')=true) (hsz:(P.info? ty).map (·.size)=some new.size)
 (h:∀w',η w' g t new→ζ (· = g) w w'→w'.heap.size=w.heap.size→wpList P ops Q rest (a.put o.dst undef) w'):wpList P ops Q (o::rest) a w :=
 Mf hg fun _ hK=>IG ty x y ho g new hx hy t cs hB hs h1 hsz fun w' b1 b2 b3=>hK _ _ (h w' b1 b2 b3)
theorem lM (hg:o.guard=none) (ty:TypeId) (x:Operand) (ho:o.op=.load ty x) (g:Nat) (hx:a.eval x=.pointer (some ⟨g,0,none⟩)) (t:TypeId) (cs:Array Value) (d:TypeDesc)
 (hB:η w g t cs) (hu:P.underlying ty=some d) (hd:(match d with | .struct _ | .array _ _=>true | _=>false)=true) (hi:(P.info? ty).map (·.size)=some cs.size)
 (h:wpList P ops Q rest (a.put o.dst (.agg cs)) w):wpList P ops Q (o::rest) a w:=wpList_load_row hg ty x ho g hx t cs (0,0) d hB hu hd hi h
end
section
variable {w:World} {g:Nat} {t:TypeId} {a b c d e f h i j:Value}
theorem η.dX (k:η w g t #[a]):w.cell? ⟨g,0,none⟩=some a:=k.cell 0
theorem η.vA (k:η w g t #[a,b]):w.cell? ⟨g,0,none⟩=some a∧w.cell? ⟨g,1,none⟩=some b:=⟨k.cell 0,k.cell 1⟩
theorem η.gd (k:η w g t #[a,b,c]):w.cell? ⟨g,0,none⟩=some a∧w.cell? ⟨g,1,none⟩=some b∧w.cell? ⟨g,2,none⟩=some c:=⟨k.cell 0,k.cell 1,k.cell 2⟩
theorem η.iE (k:η w g t #[a,b,c,d]):w.cell? ⟨g,0,none⟩=some a∧w.cell? ⟨g,1,none⟩=some b∧w.cell? ⟨g,2,none⟩=some c∧w.cell? ⟨g,3,none⟩=some d:=⟨k.cell 0,k.cell 1,k.cell 2,k.cell 3⟩
theorem η.s6 (k:η w g t #[a,b,c,d,e,f,h]):w.cell? ⟨g,0,none⟩=some a∧w.cell? ⟨g,1,none⟩=some b∧w.cell? ⟨g,2,none⟩=some c∧w.cell? ⟨g,3,none⟩=some d∧w.cell? ⟨g,4,none⟩=some e∧w.cell? ⟨g,5,none⟩=some f∧w.cell? ⟨g,6,none⟩=some h :=
 ⟨k.cell 0,k.cell 1,k.cell 2,k.cell 3,k.cell 4,k.cell 5,k.cell 6⟩
theorem η.oY (k:η w g t #[a,b,c,d,e,f,h,i,j]):w.cell? ⟨g,0,none⟩=some a∧w.cell? ⟨g,1,none⟩=some b∧w.cell? ⟨g,2,none⟩=some c∧w.cell? ⟨g,3,none⟩=some d∧w.cell? ⟨g,4,none⟩=some e∧w.cell? ⟨g,5,none⟩=some f∧w.cell? ⟨g,6,none⟩=some h∧w.cell? ⟨g,7,none⟩=some i∧w.cell? ⟨g,8,none⟩=some j :=
 ⟨k.cell 0,k.cell 1,k.cell 2,k.cell 3,k.cell 4,k.cell 5,k.cell 6,k.cell 7,k.cell 8⟩
end
end
section
open Go Go.RowKit Go.MapKept
open Go.ChangeMaps (setBlock)
def lU {α : Type} (inj : α → Value) (w:World) (r b:Nat) (m left:List (α × Value)):Prop :=
 ∃ es clock since seen c0,w.heap[r]? = some (.mapIter (some b) since seen c0)∧w.heap[b]? = some (.map es clock)∧Stamped es clock∧es.toList.map (fun e=>(e.key,e.val))=m.map (fun p=>(inj p.1,p.2)) ∧
  (∀x ∈ es.toList,x.born<since)∧since≤c0∧since≤clock∧(es.toList.filter (fun e => !seen.contains e.born)).map (fun e=>(e.key,e.val))=left.map (fun p=>(inj p.1,p.2))
section
variable {α : Type} {inj : α → Value} {d:TypeDesc} {w w':World} {r b:Nat} {m left:List (α × Value)}
theorem lU.map (h:lU inj w r b m left):cM inj w b m:=by
 obtain⟨es,clock,since,seen,c0,_,h2,h3,h4,_⟩:=h;exact⟨es,clock,h2,h3,h4⟩
theorem lU.ne (h:lU inj w r b m left):r≠b:=by
 rintro rfl;obtain⟨es,clock,since,seen,c0,h1,h2,_⟩:=h;rw[h1] at h2;cases h2
theorem lU.dr (h:lU inj w r b m left) (h1:w'.heap[r]? = w.heap[r]?) (h2:w'.heap[b]? = w.heap[b]?):lU inj w' r b m left:=by
 obtain⟨es,clock,since,seen,c0,k1,k2,k3⟩:=h;exact⟨es,clock,since,seen,c0,h1.trans k1,h2.trans k2,k3⟩
def Sn (w:World) (r b:Nat):Nat :=
 match w.heap[r]?,w.heap[b]? with
 | some (.mapIter _ _ seen _),some (.map es _)=>(es.toList.filter (fun e => !seen.contains e.born)).length
 | _,_=>0
theorem lU.left_eq (h:lU inj w r b m left):Sn w r b=left.length:=by
 obtain⟨es,clock,since,seen,c0,h1,h2,_,_,_,_,_,h3⟩:=h;have:=aI List.length h3;simp only[bz] at this;unfold Sn;rw[h1,h2];exact this
theorem lU.drew (h:lU inj w r b m left):lU inj w.drew r b m left:=h.dr rfl rfl
theorem lU.b9 (h:lU inj w r b m left) {p:Addr} (h1:r≠p.block) (h2:b≠p.block) (u:Value):lU inj (w.setCell p u) r b m left:=h.dr (pJ w p u r h1) (pJ w p u b h2)
theorem cM.aio {P:Program} {mty kt et:TypeId} (h:cM inj w b m) (hm:P.underlying mty=some (.map kt et)) :
 ∃w',(Instr.range mty (.map (some b))).run P w=.ok (.pointer (some ⟨w.heap.size,0,none⟩)) w'∧lU inj w' w.heap.size b m m∧υ w w'∧w'.heap.size=w.heap.size+1:=by
 have hlt:=h.lt;obtain⟨es,clock,hb,hs,he⟩:=h;refine⟨w.alloc (.mapIter (some b) clock #[] clock),?_,⟨es,clock,clock,#[],clock,AP w _,(rS w _ b hlt).trans hb,hs,he,hs.1,bO _,bO _,?_⟩,(ζ.refl _ _).alloc _,sM⟩
 ·simp[Instr.range,run_underlying hm,MapKept.run_getObj_map hb,Result.andThen]
 ·have:es.toList.filter (fun e => !(#[]:Array Nat).contains e.born)=es.toList:=by
   rw[tZ];intro x _;simp
  rw[this];exact he
theorem lU.ajI {P:Program} (h:lU inj w r b m left) (hn:∀p q,inj p=inj q→p=q) (ty:TypeId) :
 (left=[]∧(Instr.next (.pointer (some ⟨r,0,none⟩)) false ty).run P w=.ok (.tuple #[.bool false]) w) ∨
 ∃ k v l1 l2 w',left=l1++(k,v)::l2∧(k,v) ∈ m∧(Instr.next (.pointer (some ⟨r,0,none⟩)) false ty).run P w=.ok (.tuple #[.bool true,inj k,v]) w'∧lU inj w' r b m (l1++l2) ∧
  (Instr.entry (.pointer (some ⟨r,0,none⟩))).run P w'=.ok (.tuple #[inj k,v]) w'∧ζ (· = r) w w'∧w'.heap.size=w.heap.size:=by
 have hrb:=h.ne;obtain⟨es,clock,since,seen,c0,hr,hb,hs,he,hold,hsc,cv,hl⟩:=h;rcases run_next_at (P:=P) w ty r b since c0 seen es clock hr hb hold hsc with ⟨h0,hrun⟩ | ⟨e,hmem,w1,hw1,hrun⟩
 ·left
  refine⟨?_,hrun⟩;have h1:(leftOf es seen).toList=[]:=by
   have:(leftOf es seen)=#[]:=afX h0;rw[this]
  unfold leftOf at h1;rw[Array.toList_filter] at h1;rw[h1] at hl;simpa using hl.symm
 ·right
  have Jz:e ∈ es.toList.filter (fun e => !seen.contains e.born):=by
   unfold leftOf at hmem;rw[Array.toList_filter] at hmem;exact hmem
  have Vg:e ∈ es.toList:=(AR.1 Jz).1;obtain⟨s1,s2,hsplit⟩:=List.append_of_mem Jz;have hl':=hl;rw[hsplit] at hl';simp only[lq,kO] at hl';obtain⟨l1,lr,hleft,e1,e2⟩:=List.map_eq_append_iff.1 hl'.symm;obtain⟨q,l2,rfl,e3,e4⟩:=List.map_eq_cons_iff.1 e2;obtain⟨k,v⟩:=q;simp only[tY] at e3;obtain⟨ek,ev⟩:=e3;subst ev;have Oe:w1.heap=w.heap:=by rcases hw1 with rfl | rfl<;>rfl
  have ab5:(setBlock w1 r (.mapIter (some b) since (seen.push e.born) clock)).heap[r]? = some (.mapIter (some b) since (seen.push e.born) clock):=by
   have hlt:r<w1.heap.size:=by rw[Oe];exact(nZ.1 hr).1
   simp[ChangeMaps.setBlock,hlt]
  have ab6:∀k,k≠r→(setBlock w1 r (.mapIter (some b) since (seen.push e.born) clock)).heap[k]? = w.heap[k]? := by
   intro k hk;simp[ChangeMaps.setBlock,Ne.symm hk,Oe]
  have ab7:=(ab6 b (nt hrb)).trans hb;have hin:(inj k,e.val) ∈ es.toList.map (fun e=>(e.key,e.val)):=by rw[ek];exact cu.2 ⟨e,Vg,rfl⟩
  refine⟨k,e.val,l1,l2,_,hleft,?_,?_,⟨es,clock,since,seen.push e.born,clock,ab5,ab7,hs,he,hold,cv,cv,?_⟩,?_,?_,?_⟩
  ·rw[he] at hin
   obtain⟨p,hp,hpe⟩:=cu.1 hin;simp only[tY] at hpe;have:p=(k,e.val):=Prod.ext (hn _ _ hpe.1) hpe.2;rw[← this];exact hp
  ·rw[ek];exact hrun
  ·have hnd:(es.toList.map (·.born)).Nodup:=hs.2.1
   have hnf:(es.toList.filter (fun e => !seen.contains e.born)).Nodup:=(Fm hnd).filter _;have e5:es.toList.filter (fun x => !(seen.push e.born).contains x.born)=(es.toList.filter (fun e => !seen.contains e.born)).filter (fun x=>x.born≠e.born):=by
    rw[XR];apply afY
    intro x _;by_cases hx:x.born=e.born<;>simp[hx]
   rw[e5,hsplit];have aai:∀x ∈ es.toList,x.born=e.born→x=e:=by
    intro x hx Kz;obtain⟨i,hi⟩:=CU hx;obtain⟨j,hj⟩:=CU Vg;have hi':(es.toList.map (·.born))[i]? = some e.born:=by simp[hi,Kz]
    have hj':(es.toList.map (·.born))[j]? = some e.born:=by simp[hj]
    have hlt:i<(es.toList.map (·.born)).length:=(mF.1 hi').1;have:=(List.getElem?_inj hlt hnd).1 (hi'.trans hj'.symm);subst this;rw[hi] at hj;exact dM hj
   rw[hsplit] at hnf;have hall:∀x ∈ s1++e::s2,x ∈ es.toList:=by
    intro x hx;rw[← hsplit] at hx;exact(AR.1 hx).1
   have hnn:=Me.1 hnf;have f1:s1.filter (fun x=>decide (x.born≠e.born))=s1:=by
    rw[tZ];intro x hx;have:x.born≠e.born:=fun Kz=>by
     have:=aai x (hall x (by simp[hx])) Kz;subst this;exact hnn.2.2 x hx x (.head _) rfl
    simpa using this
   have f2:s2.filter (fun x=>decide (x.born≠e.born))=s2:=by
    rw[tZ];intro x hx;have:x.born≠e.born:=fun Kz=>by
     have:=aai x (hall x (by simp[hx])) Kz;subst this;exact(kn.1 hnn.2.1).1 hx
    simpa using this
   rw[QE,Fe,ν sM,f1,f2];simp only[lq,e1,e4]
  ·rw[ek]
   exact run_entry_at _ r b since seen es clock e ab5 ab7 Vg hs.2.1
  ·refine⟨?_,?_,?_,by simp[ChangeMaps.setBlock,Oe],fun k _ hk=>ab6 k hk⟩<;>rcases hw1 with rfl | rfl<;>rfl
  ·simp[ChangeMaps.setBlock,Oe]
variable [DecidableEq α]
theorem lU.C7 {P:Program} {mty kt et ty:TypeId} (h:lU inj w r b m left) (K:Br d inj) (hm:P.underlying mty=some (.map kt et)) (hd:P.underlying kt=some d) (a : α) :
 ∃w',(Builtin.delete_ #[mty,kt] ty #[.map (some b),inj a]).run P w=.ok (.tuple #[]) w'∧lU inj w' r b (oA m a) (oA left a)∧ζ (· = b) w w'∧w'.heap.size=w.heap.size:=by
 classical
 have hrb:=h.ne;have hmB:=h.map;obtain⟨w',h1,h2,h3,h4⟩:=hmB.C7 (ty:=ty) K hm hd a;obtain⟨es,clock,since,seen,c0,hr,hb,hs,he,hold,hsc,cv,hl⟩:=h
 -- the same run once more,over the entries
 have key:∃es',w'.heap[b]? = some (.map es' clock)∧Stamped es' clock∧es'.toList=es.toList.filter (fun e=>decide (e.key≠inj a) ):=by
  rcases findNow_spec (K.isKey a) es.toList 0 (MQ K he) with ⟨k1,k2⟩ | ⟨j,e,k1,k2,k3⟩
  ·simp[Builtin.delete_,run_underlying hm,MapKept.run_getObj_map hb,run_checkKey hd (K.isKey a),run_findKey hd k1,MapKept.run_setObj_map _ hb,Result.andThen] at h1
   subst h1;refine⟨es,(heap_set hb).1,hs,?_⟩;symm
   rw[tZ];intro x hx;simpa using k2 x hx
  ·simp[Builtin.delete_,run_underlying hm,MapKept.run_getObj_map hb,run_checkKey hd (K.isKey a),run_findKey hd k1,MapKept.run_setObj_map _ hb,Result.andThen] at h1
   subst h1;refine⟨_,(heap_set hb).1,stamped_erase hs _,?_⟩;have hlt:j<es.size:=by simpa using (mF.1 k2).1
   have e1:(es.eraseIdxIfInBounds j).toList=es.toList.eraseIdx j:=by
    unfold Array.eraseIdxIfInBounds;rw[dif_pos hlt];simp
   rw[e1,XP];have hlt':j<es.toList.length:=by simpa using hlt
   have hsplit:es.toList=es.toList.take j++(es.toList[j]::es.toList.drop (j+1)):=by rw[← vc,AQ]
   have Vh:es.toList[j]=e:=by
    rw[bu hlt'] at k2;exact dM k2
   have hnn:=hs.2.2;rw[hsplit] at hnn;simp only[lq,kO,Me,kn] at hnn;conv=>rhs;rw[hsplit]
   rw[QE,Fe,ν (by simp[Vh,k3])];have f1:(es.toList.take j).filter (fun e=>decide (e.key≠inj a))=es.toList.take j:=by
    rw[tZ];intro q hq;have:=hnn.2.2 q.key (cu.2 ⟨q,hq,rfl⟩) (inj a) (by rw[Vh,k3];exact .head _);simpa using this
   have f2:(es.toList.drop (j+1)).filter (fun e=>decide (e.key≠inj a))=es.toList.drop (j+1):=by
    rw[tZ];intro q hq;have:q.key≠inj a:=fun D8=>hnn.2.1.1 (cu.2 ⟨q,hq,by rw[D8,Vh,k3]⟩)
    simpa using this
   rw[f1,f2]
 obtain⟨es',hb',hs',Tv⟩:=key;have pull:∀(l:List MapEntry) (m':List (α × Value)),l.map (fun e=>(e.key,e.val))=m'.map (fun p=>(inj p.1,p.2)) →
  (l.filter (fun e=>decide (e.key≠inj a))).map (fun e=>(e.key,e.val))=(oA m' a).map (fun p=>(inj p.1,p.2)):=by
  intro l;induction l with
  | nil=>intro m' hm';cases m' with
    | nil=>rfl
    | cons=>simp at hm'
  | cons x l ih =>
    intro m' hm';cases m' with
    | nil=>simp at hm'
    | cons q m' =>
      simp only[kO,qP,tY] at hm';obtain⟨⟨hk,hv⟩,r9⟩:=hm';have:=ih m' r9;unfold oA at this ⊢;by_cases hq:q.1=a
      ·rw[Fe,ν (by simp[hk,hq]),Fe,ν z_]
       exact this
      ·have hx:x.key≠inj a:=fun e=>hq (K.inj _ _ (by rw[← hk,e]))
       rw[Fe,π (by simp[hx]),Fe,π z_];simp only[kO,this,hk,hv]
 refine⟨w',h1,⟨es',clock,since,seen,c0,(h3.block r (nZ.1 hr).1 hrb).trans hr,hb',hs',?_,?_,hsc,cv,?_⟩,h3,h4⟩
 ·rw[Tv];exact pull _ _ he
 ·intro x hx
  rw[Tv] at hx;exact hold x (AR.1 hx).1
 ·rw[Tv,XR]
  have:=pull _ _ hl;rw[XR] at this;rw[← this];congr 1
  apply afY
  intro x _;rw[Bool.and_comm]
end
end
section
open Go Go.RowKit
open Go.ChangeMaps (setBlock)
theorem lV {P:Prop} (h:P:=by simp[Value.ownBlock]):P:=h
theorem KA {P:Prop} (h:P:=by unfold Addr.add;split<;>simp_all):P:=h
def ac4 (fr:Nat × Nat) (k:Nat):Prop:=fr=(0,0)∨k≤fr.1
def Own (w:World) (e:TypeId) (size:Nat) (v:Value) (n:Nat) (xs:List Value):Prop :=
 xs.length=n*size ∧
 ((v=.slice none 0 0∧n=0) ∨
  ∃g cap cur fr,v=.slice (some ⟨g,0,none⟩) n cap∧w.heap[g]? = some (.cells cur e fr)∧ac4 fr cur.size∧n≤cap∧cap≤maxLen∧cur.size=cap*size∧cur.toList.take (n*size)=xs)
section
variable {w w':World} {e:TypeId} {size n:Nat} {v:Value} {xs:List Value}
theorem Own.nil (w:World) (e:TypeId) (size:Nat):Own w e size (.slice none 0 0) 0 []:=⟨sM,.inl ⟨rfl,rfl⟩⟩
theorem Own.len (h:Own w e size v n xs):xs.length=n*size:=h.1
theorem Own.lt (h:Own w e size v n xs) {k:Nat} (hk:v.ownBlock=some k):k<w.heap.size:=by
 rcases h.2 with ⟨rfl,_⟩ | ⟨g,cap,cur,fr,rfl,hg,_⟩
 ·simp[Value.ownBlock] at hk
 ·simp[Value.ownBlock] at hk
  subst hk;exact(nZ.1 hg).1
theorem Own.dr (h:Own w e size v n xs) (hb:∀k,v.ownBlock=some k→w'.heap[k]? = w.heap[k]?):Own w' e size v n xs:=by
 refine⟨h.1,?_⟩;rcases h.2 with hn | ⟨g,cap,cur,fr,rfl,hg,rest⟩
 ·exact .inl hn
 ·exact .inr ⟨g,cap,cur,fr,rfl,(hb g lV).trans hg,rest⟩
theorem Own.ε {F:Nat→Prop} (h:Own w e size v n xs) (hu:ζ F w w') (hn:∀k,v.ownBlock=some k→¬F k):Own w' e size v n xs :=
 h.dr fun k hk=>hu.block k (h.lt hk) (hn k hk)
theorem Own.drew (h:Own w e size v n xs):Own w.drew e size v n xs:=h
theorem Own.alloc (h:Own w e size v n xs) (o:Obj):Own (w.alloc o) e size v n xs:=h.dr fun k hk=>rS w o k (h.lt hk)
theorem Own.b9 (h:Own w e size v n xs) {p:Addr} (hp:v.ownBlock≠some p.block) (u:Value):Own (w.setCell p u) e size v n xs :=
 h.dr fun k hk=>pJ w p u k (fun e=>hp (by rw[← e];exact hk))
theorem Own.cells (h:Own w e size v n xs) {g:Nat} (hg:v.ownBlock=some g):∀j u,xs[j]? = some u→w.cell? ((⟨g,0,none⟩:Addr).add j)=some u:=by
 intro j u hu;rcases h.2 with ⟨rfl,_⟩ | ⟨g',cap,cur,fr,rfl,KB,_,_,_,_,Dq⟩
 ·simp[Value.ownBlock] at hg
 ·simp[Value.ownBlock] at hg
  subst hg;have ju:(⟨g',0,none⟩:Addr).add j=⟨g',j,none⟩:=KA
  rw[ju,Fa w g' j cur e fr KB];rw[← Dq,Mc] at hu;split at hu
  ·simpa using hu
  ·cases hu
theorem Own.cellAt {g cap:Nat} (h:Own w e size (.slice (some ⟨g,0,none⟩) n cap) n xs) (j:Nat) (hj:j<n*size):w.cell? ⟨g,j,none⟩=xs[j]? := by
 have hl:=h.1;have h1:=h.cells (g:=g) lV j xs[j] (bu oM);rw[bu oM,← h1];congr 1
 unfold Addr.add;split<;>simp_all
theorem Own.frozenAt {g cap:Nat} (h:Own w e size (.slice (some ⟨g,0,none⟩) n cap) n xs) (j:Nat) (hj:j<n*size):w.frozen? ⟨g,j,none⟩=false:=by
 rcases h.2 with ⟨hv,_⟩ | ⟨g',cap',cur,fr,hv,KB,hfr,hnc,_,hcs,_⟩
 ·cases hv
 ·injection hv with h1 h2 h3
  injection h1 with h1;injection h1 with h1;subst h1 h3;have hlt:j<cur.size:=by rw[hcs];exact nY hj (afZ _ hnc)
  obtain⟨lo,hi⟩:=fr;simp only[World.frozen?,KB];rcases hfr with h0 | h0
  ·cases h0;simp
  ·simp only at h0
   have:¬lo≤j:=oM;simp[this]
theorem Own.head (h:Own w e size v n xs) (hn:0<n):∃g cap,v=.slice (some ⟨g,0,none⟩) n cap∧n≤cap∧cap≤maxLen:=by
 rcases h.2 with ⟨_,h0⟩ | ⟨g,cap,cur,fr,rfl,_,_,hnc,hcm,_⟩
 ·omega
 ·exact⟨g,cap,rfl,hnc,hcm⟩
theorem Own.one (h:Own w e size v n xs):v.oneCell'=true:=by
 rcases h.2 with ⟨rfl,_⟩ | ⟨g,cap,cur,fr,rfl,_⟩<;>rfl
theorem Own.f_ {g:Nat} {t:TypeId} {cs:Array Value} (h:Own w e size v n xs) (hB:η w g t cs) (hne:e≠t):v.ownBlock≠some g:=by
 rcases h.2 with ⟨rfl,_⟩ | ⟨g',cap,cur,fr,rfl,hg,_⟩
 ·simp[Value.ownBlock]
 ·intro he
  have:g'=g:=by simpa [Value.ownBlock] using he
  subst this;unfold η at hB;rw[hg] at hB;injection hB with hB;injection hB with _ ht;exact hne ht
theorem Own.SK {α : Type} {inj : α → Value} {g:Nat} {m:List (α × Value)} (h:Own w e size v n xs) (hM:cM inj w g m):v.ownBlock≠some g:=by
 rcases h.2 with ⟨rfl,_⟩ | ⟨g',cap,cur,fr,rfl,hg,_⟩
 ·simp[Value.ownBlock]
 ·intro he
  have:g'=g:=by simpa [Value.ownBlock] using he
  subst this;obtain⟨es,clock,h1,_⟩:=hM;rw[hg] at h1;cases h1
theorem Own.shape (h:Own w e size v n xs):∃A cap,v=.slice A n cap∧n≤cap∧cap≤maxLen:=by
 rcases h.2 with ⟨rfl,h0⟩ | ⟨g,cap,cur,fr,rfl,_,_,hnc,hcm,_⟩
 ·exact⟨none,0,by rw[h0],oM,by simp[maxLen]⟩
 ·exact⟨_,cap,rfl,hnc,hcm⟩
theorem Yo (w:World) (g j:Nat) (cur:Array Value) (t:TypeId) (fr:Nat × Nat) (u:Value) (hg:w.heap[g]? = some (.cells cur t fr)) :
 (w.setCell ⟨g,j,none⟩ u).heap[g]? = some (.cells (cur.setIfInBounds j u) t fr):=by
 simp[World.setCell,Array.getElem?_modify,hg]
theorem Own.stored {g cap:Nat} (h:Own w e size (.slice (some ⟨g,0,none⟩) n cap) n xs) (j:Nat) (u:Value):Own (w.setCell ⟨g,j,none⟩ u) e size (.slice (some ⟨g,0,none⟩) n cap) n (xs.set j u):=by
 refine⟨by simpa using h.1,?_⟩;rcases h.2 with ⟨hv,_⟩ | ⟨g',cap',cur,fr,hv,KB,hfr,hnc,hcm,hcs,Dq⟩
 ·cases hv
 ·injection hv with h1 h2 h3
  injection h1 with h1;injection h1 with h1;subst h1 h3;refine .inr ⟨g,cap,cur.setIfInBounds j u,fr,rfl,Yo w g j cur e fr u KB,by simpa using hfr,hnc,hcm,by simpa using hcs,?_⟩;rw[XS,List.take_set,Dq]
end
structure Src (P:Program) (w:World) (xT:TypeId) (size:Nat) (x:Value) (m:Nat) (news:List Value):Prop where
 known:(∃t,P.underlying xT=some (.slice t))∨P.underlying xT=some .string
 len:news.length=m*size
 lenOf:∀w,(Builtin.lenOf x).run P w=.ok m w
 cells:(Builtin.firstCells size m x).run P w=.ok news.toArray w
 cells':(Builtin.firstCells size m x).run P w.drew=.ok news.toArray w.drew
section
variable {P:Program} {w w':World} {e xT t:TypeId} {size n m:Nat} {v x:Value} {xs news:List Value}
theorem Src.vt (ht:P.underlying xT=some (.slice t)) (a:Addr) (m c:Nat) (hl:news.length=m*size) (h:∀j u,news[j]? = some u→w.cell? (a.add j)=some u):Src P w xT size (.slice (some a) m c) m news :=
 ⟨.inl ⟨_,ht⟩,hl,fun w=>by simp[Builtin.lenOf],af0 w size m a m c news hl h,af0 w.drew size m a m c news hl h⟩
theorem Src.of_nil (ht:P.underlying xT=some (.slice t)) (c:Nat):Src P w xT size (.slice none 0 c) 0 [] :=
 ⟨.inl ⟨_,ht⟩,sM,fun w=>by simp[Builtin.lenOf],by simp[Builtin.firstCells],by simp[Builtin.firstCells]⟩
theorem Src.ku (ht:P.underlying xT=some (.slice t)) (h:Own w e size v n xs):Src P w xT size v n xs:=by
 rcases h.2 with ⟨rfl,rfl⟩ | ⟨g,cap,cur,fr,rfl,_⟩
 ·have:xs=[]:=AU (by simpa using h.1)
  subst this;exact .of_nil ht 0
 ·exact .vt ht _ _ _ h.1 (h.cells lV)
theorem Src.of_string (ht:P.underlying xT=some .string) (s:ByteArray):Src P w xT 1 (.string s) s.size (s.data.toList.map fun b=>Value.int .u8 b.toNat):=by
 have hx:(Array.map (fun b:UInt8=>Value.int IntKind.u8 (b.toNat:Int)) s.data).extract 0 s.size=Array.map (fun b:UInt8=>Value.int IntKind.u8 (b.toNat:Int)) s.data:=by
  have hs:s.size=(Array.map (fun b:UInt8=>Value.int IntKind.u8 (b.toNat:Int)) s.data).size:=by rw[Array.size_map];rfl
  rw[hs,Array.extract_size]
 have hy:(s.data.toList.map fun b=>Value.int .u8 b.toNat).toArray=Array.map (fun b:UInt8=>Value.int IntKind.u8 (b.toNat:Int)) s.data:=by
  apply Array.ext'
  simp
 exact⟨.inr ht,sM,fun w=>by simp[Builtin.lenOf],by simp[Builtin.firstCells,hy],by simp[Builtin.firstCells,hy]⟩
theorem Yp (g o:Nat) (t:TypeId) (fr:Nat × Nat) (P:Program):∀(vs:List Value) (i:Nat) (cur:Array Value) (w:World),w.heap[g]? = some (.cells cur t fr)→ac4 fr cur.size→o+i+vs.length≤cur.size→(∀v ∈ vs,v.oneCell'=true) →
 ∃w',(storeCells ⟨g,o,none⟩ vs i).run P w=.ok () w'∧w'.heap[g]? = some (.cells (cur.toList.take (o+i)++vs++cur.toList.drop (o+i+vs.length)).toArray t fr)∧ζ (· = g) w w'∧w'.heap.size=w.heap.size
 | [],i,cur,w,hg,_,_,_=>by
   refine⟨w,by simp[storeCells],?_,ζ.refl _ _,rfl⟩;simp only[y7,AV,sU,AQ,Array.toArray_toList];exact hg
 | v :: rest,i,cur,w,hg,hfr,hl,h1=>by
   have hi:o+i<cur.size:=by simp at hl;omega
   have ju:(⟨g,o,none⟩:Addr).add i=⟨g,o+i,none⟩:=KA
   have hcell:w.cell? ⟨g,o+i,none⟩=some cur[o+i]:=by simp[World.cell?,hg,hi]
   have anW:w.frozen? ⟨g,o+i,none⟩=false:=by
    obtain⟨lo,hh⟩:=fr;simp only[World.frozen?,hg];rcases hfr with h0 | h0
    ·cases h0;simp
    ·simp only at h0
     have:¬lo≤o+i:=oM;simp[this]
   have hst:(store ((⟨g,o,none⟩:Addr).add i) v).run P w=.ok () (w.setCell ⟨g,o+i,none⟩ v):=by
    rw[ju,run_store P w _ v _ (h1 v sM),hcell];simp[anW]
   obtain⟨w',k1,k2,k3,k4⟩:=Yp g o t fr P rest (i+1) (cur.setIfInBounds (o+i) v) (w.setCell ⟨g,o+i,none⟩ v) (Yo w g (o+i) cur t fr v hg) (by simpa using hfr) (by simp at hl ⊢;omega) (fun x hx=>h1 x (by simp[hx]));refine⟨w',by simp only[storeCells,rT,hst,fZ,k1],?_,(((ζ.refl (· = g) w).setCell (p:=⟨g,o+i,none⟩) (.inl rfl) v).then k3 (fun b hb=>.inl hb)),by rw[k4];simp⟩
   rw[k2];congr 3
   have e:=list_seg_step cur.toList (o+i) v rest (by simp at hl ⊢;omega);simpa [Array.toList_setIfInBounds,Nat.add_assoc] using e
theorem Ys (t ty:TypeId) (i:TypeInfo) (z:Value) (bytes:Nat) (ht:P.underlying t=some (.slice e)) (hi:P.info? e=some i) (hz:i.zero=some z)
 (hsize:i.size=size) (hby:i.bytes=bytes) (hzs:z.cells.size=size)
 (hown:Own w e size v n xs) (hsrc:Src P w xT size x m news) (h1:∀u ∈ news,u.oneCell'=true)
 (h63:n+m≤maxLen) (hbytes:(n+m)*bytes≤140737488355328) :
 ∃ v' w',(Builtin.append_ #[t,xT] ty #[v,x]).run P w=.ok v' w'∧Own w' e size v' (n+m) (xs++news)∧ζ (fun k=>v.ownBlock=some k) w w' ∧
  (v'.ownBlock=v.ownBlock∨v'.ownBlock=some w.heap.size)∧w'.heap.size≤w.heap.size+1:=by
 subst hsize;subst hby;have hsmall:n+m≤9223372036854775807:=by simp only[maxLen] at h63;omega
 have hlen:(xs++news).length=(n+m)*i.size:=by rw[aN,hown.1,hsrc.len,XT]
 have h63':¬(9223372036854775807<((n:Int)+(m:Int))):=oM;have grown:∀(old:Nat),old<n+m →
  Own (w.drew.alloc (.cells (xs.toArray++news.toArray++Builtin.zeroCells z.cells (grownCap w (n+m) old e - (n+m))) e)) e i.size
   (.slice (some ⟨w.heap.size,0,none⟩) (n+m) (grownCap w (n+m) old e)) (n+m) (xs++news):=by
  intro old ho;have hge:=grownCap_ge w (n+m) old e;have hcm:grownCap w (n+m) old e≤maxLen:=grownCap_le_maxLen w (n+m) old e h63;refine⟨hlen,.inr ⟨w.heap.size,_,_,(0,0),rfl,AP w.drew _,.inl rfl,hge,hcm,?_,?_⟩⟩
  ·simp only[Array.size_append,QH,size_zeroCells,hzs,hown.1,hsrc.len,← XT]
   congr 1
   omega
  ·simp only[XU,eC]
   rw[← eC,← hlen];exact Md
 have ac5:∀(o:Obj),ζ (fun k=>v.ownBlock=some k) w (w.drew.alloc o):=fun o=>((ζ.refl _ w).drew).alloc o
 rcases hown.2 with ⟨rfl,rfl⟩ | ⟨g,cap,cur,fr,rfl,hg,hfr,hnc,hcm,hcs,Dq⟩
 ·have hx:xs=[]:=AU (by simpa using hown.1)
  subst hx;by_cases hm0:m=0
  ·subst hm0
   have hn:news=[]:=AU (by simpa using hsrc.len);subst hn;refine⟨.slice none 0 0,w,?_,Own.nil w e i.size,ζ.refl _ _,.inl rfl,oM⟩;rcases hsrc.known with ⟨tx,vX⟩ | vX<;>simp[Builtin.append_,run_underlying ht,run_underlying vX,sizeOf,typeInfo,hi,hsrc.lenOf,hsrc.cells]
  ·have B6:=grown 0 oM
   simp only[lK,oR,Array.empty_append] at B6;refine⟨_,_,?_,by simpa using B6,ac5 _,.inr lV,sM⟩;have JR:¬(281474976710656<Builtin.nextslicecap m 0*i.bytes):=by
    rw[nextslicecap_zero oM];have hb:=hbytes;simp only[lK] at hb;omega
   have anm:¬(9223372036854775807<(m:Int)):=oM;rcases hsrc.known with ⟨tx,vX⟩ | vX<;>simp[Builtin.append_,run_underlying ht,run_underlying vX,sizeOf,typeInfo,zeroValue,hi,hz,hsrc.lenOf,hm0,anm,JR,Question.forced,run_firstCells_none,hsrc.cells',newRow,grownCap]
 ·by_cases hroom:n+m≤cap
  ·have hfit:n*i.size+0+news.length≤cur.size:=by rw[hsrc.len,hcs,sU,← XT];exact afZ _ hroom
   obtain⟨w',k1,k2,k3,k4⟩:=Yp g (n*i.size) e fr P news 0 cur w hg hfr hfit h1;refine⟨.slice (some ⟨g,0,none⟩) (n+m) cap,w',?_,⟨hlen,.inr ⟨g,cap,_,fr,rfl,k2,?_,hroom,hcm,?_,?_⟩⟩,k3.mono (fun b hb=>.inl (by subst hb;simp[Value.ownBlock])),.inl lV,oM⟩
   ·rcases hsrc.known with ⟨tx,vX⟩ | vX<;>simp[Builtin.append_,run_underlying ht,run_underlying vX,sizeOf,typeInfo,hi,hsrc.lenOf,hroom,hsrc.cells,Addr.add_lit,k1]
   ·have:((cur.toList.take (n*i.size+0)++news++cur.toList.drop (n*i.size+0+news.length)).toArray).size=cur.size:=by
     simp only[QH,aN,iW,jC,xo];omega
    rw[this];exact hfr
   ·simp only[QH,aN,iW,jC,xo]
    omega
   ·rw[sU,Dq,← hlen]
    exact Md
  ·have holds:∀j u,xs[j]? = some u→w.cell? ((⟨g,0,none⟩:Addr).add j)=some u:=hown.cells lV
   have hfo:=af0 (P:=P) w.drew i.size n ⟨g,0,none⟩ n cap xs hown.1 (by simpa using holds);have hfit:=growslice_fits (show cap<n+m by omega) hbytes;have JR:¬(281474976710656<Builtin.nextslicecap (n+m) cap*i.bytes):=oM;refine⟨_,_,?_,grown cap oM,ac5 _,.inr lV,sM⟩;rcases hsrc.known with ⟨tx,vX⟩ | vX<;>simp[Builtin.append_,run_underlying ht,run_underlying vX,sizeOf,typeInfo,zeroValue,hi,hz,hsrc.lenOf,hroom,h63',JR,Question.forced,hsrc.cells',hfo,newRow,grownCap]
   all_goals
    congr 2
    apply Array.ext'
    simp[List.append_assoc]
end
section
variable {P:Program} {ops:Array Oper} {rest:List Oper} {o:Oper} {a:Act} {w w':World} {Q:Exit→Act→World→Prop} {K:Act→World→Prop}
theorem Yu (s x:Operand) (t xT:TypeId) (ho:o.op=.call { callee:=.builtin .append,args:=#[s,x],argTypes:=#[t,xT] }) {vs vx v':Value} (hs:a.eval s=vs) (hx:a.eval x=vx)
 (hrun:(Builtin.append_ #[t,xT] o.type #[vs,vx]).run P w=.ok v' w') (h:K (a.put o.dst v') w'):o.wp P a w K Q:=by
 unfold Oper.wp execOp;simp only[ho,resolve,invoke,builtin,rT,XQ,fZ,List.map_toArray,kO,AW,hs,hx,hrun];exact h
theorem agm (hg:o.guard=none) (s x:Operand) (t xT:TypeId) (ho:o.op=.call { callee:=.builtin .append,args:=#[s,x],argTypes:=#[t,xT] }) {vs vx v':Value} (hs:a.eval s=vs) (hx:a.eval x=vx)
 (hrun:(Builtin.append_ #[t,xT] o.type #[vs,vx]).run P w=.ok v' w') (h:wpList P ops Q rest (a.put o.dst v') w'):wpList P ops Q (o::rest) a w :=
 Mf hg fun _ hK=>Yu s x t xT ho hs hx hrun (hK _ _ h)
theorem kr (hg:o.guard=none) (s x:Operand) (t xT:TypeId) (ho:o.op=.call { callee:=.builtin .append,args:=#[s,x],argTypes:=#[t,xT] })
 (e:TypeId) (i:TypeInfo) (z:Value) (size bytes:Nat) (ht:P.underlying t=some (.slice e)) (hi:P.info? e=some i) (hz:i.zero=some z) (hsize:i.size=size) (hby:i.bytes=bytes) (hzs:z.cells.size=size)
 (v:Value) (n:Nat) (xs:List Value) (hs:a.eval s=v) (hown:Own w e size v n xs) (vx:Value) (m:Nat) (news:List Value) (hx:a.eval x=vx) (hsrc:Src P w xT size vx m news) (h1:∀u ∈ news,u.oneCell'=true)
 (h63:n+m≤maxLen) (hbytes:(n+m)*bytes≤140737488355328)
 (h:∀v' w',Own w' e size v' (n+m) (xs++news)→ζ (fun k=>v.ownBlock=some k) w w'→(v'.ownBlock=v.ownBlock∨v'.ownBlock=some w.heap.size)→w'.heap.size≤w.heap.size+1→wpList P ops Q rest (a.put o.dst v') w') :
 wpList P ops Q (o::rest) a w:=by
 obtain⟨v',w',hrun,h2,h3,h4,h5⟩:=Ys (P:=P) t o.type i z bytes ht hi hz hsize hby hzs hown hsrc h1 h63 hbytes;exact agm hg s x t xT ho hs hx hrun (h v' w' h2 h3 h4 h5)
theorem Src.Bi {xT t e:TypeId} (ht:P.underlying xT=some (.slice t)) (x:Value):Src P (w.alloc (.cells #[x] e)) xT 1 (.slice (some ⟨w.heap.size,0,none⟩) 1 1) 1 [x] :=
 .vt ht _ _ _ sM (cell_one_new w x e)
theorem Src.Q8 {xT t e:TypeId} (ht:P.underlying xT=some (.slice t)) (x:Value):Src P (w.alloc (.cells #[x] e)).drew xT 1 (.slice (some ⟨w.heap.size,0,none⟩) 1 1) 1 [x] :=
 .vt ht _ _ _ sM (cell_one_new w x e)
theorem Ym (hg:o.guard=none) (m x y:Operand) (t:TypeId) (ho:o.op=.mapUpdate t m x y) {vm vx vy:Value} (hm:a.eval m=vm) (hx:a.eval x=vx) (hy:a.eval y=vy)
 (hrun:(Instr.mapUpdate t vm vx vy).run P w=.ok () w') (h:wpList P ops Q rest (a.put o.dst undef) w'):wpList P ops Q (o::rest) a w:=by
 refine Mf hg fun K hK=>?_
 unfold Oper.wp execOp;simp only[ho,hm,hx,hy,rT,hrun,XQ,fZ];exact hK _ _ h
theorem My (hg:o.guard=none) (m x:Operand) (t k:TypeId) (ho:o.op=.call { callee:=.builtin .delete,args:=#[m,x],argTypes:=#[t,k] }) {vm vx v:Value} (hm:a.eval m=vm) (hx:a.eval x=vx)
 (hrun:(Builtin.delete_ #[t,k] o.type #[vm,vx]).run P w=.ok v w') (h:wpList P ops Q rest (a.put o.dst v) w'):wpList P ops Q (o::rest) a w:=by
 refine Mf hg fun K hK=>?_
 unfold Oper.wp execOp;simp only[ho,resolve,invoke,builtin,rT,XQ,fZ,List.map_toArray,kO,AW,hm,hx,hrun];exact hK _ _ h
end
end
end Go.Proofs.YtbhjgfibhegddaaGreat
