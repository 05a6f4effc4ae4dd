/-
  Parts of the proof of VaultFalls: Little, Sum, Shelf, Close, PackA, PackB, PathA, Part.
-/
import Derived.Test.YtbhjgfibhegddaaGreatQVaultFalls01
import Derived.Deep.Light
import Derived.Deep.MidRow
import Derived.Deep.RegionWith
import Derived.Ground.Names2Prog
import Derived.Shelf.Bits.Mul64
import Derived.Shelf.LaysM
import Derived.Shelf.Slices.Clone
import Derived.Shelf.Slices.In.SortNone
import Derived.Shelf.Small.Bits
import Derived.Shelf.Small.Strs
import Derived.Shelf.Sort.Plain
import Derived.Shelf.Strconv.Itoa0
import Derived.Shelf.Strings.Builder1
import Derived.Shelf.Strings.Builder2
import Derived.Shelf.Strings.BuilderF
import Derived.Shelf.Strings.BuilderK
import Derived.Shelf.Strings.Count
import Derived.Shelf.Strings.Cut
import Derived.Shelf.Strings.Prefix
import Derived.Shelf.Strings.Repeat
import Derived.Shelf.Strings.Search1
import Derived.Shelf.Strings.Search2
import Derived.Shelf.Strings.Search3
import Derived.Shelf.Strings.Shaped
import Derived.Test.YtbhjgfibhegddaaGreatProg
set_option maxRecDepth 100000
set_option maxHeartbeats 16000000
namespace Go.Proofs.YtbhjgfibhegddaaGreat
abbrev XV:=@Nat.pow_add
abbrev jD:=@Go.info_parts
abbrev XW:=@Go.IntKind.wrap_u32'
abbrev oT:=@Go.RowKit.Below.refl
abbrev cJ:=@Go.bodyPost_ret
abbrev jU:=@Go.results_cell_row
abbrev af1:=@Go.World.cell?_alloc_new
abbrev dV:=@List.take_of_length_le
abbrev Mg:=@List.take_append_of_le_length
abbrev iX:=@beq_eq_false_iff_ne
abbrev af2:=@ByteArray.size_extract
abbrev kq:=@bne_iff_ne
abbrev af3:=@Int.toNat_natCast
abbrev cZ:=@Go.IntWalk.i64_in
abbrev qj:=@List.drop_of_length_le
abbrev eE:=@List.getElem_mem
abbrev AX:=@Bool.and_true
abbrev sV:=@List.all_cons
abbrev y8:=@List.take_succ_cons
abbrev y9:=@Bool.eq_iff_iff
abbrev XY:=@List.all_eq_true
abbrev Iq:=@List.set_append_right
abbrev Ir:=@Nat.sub_self
abbrev ve:=@Go.wpList_load_mid
open Tryz
structure Τe where
instance:CoeFun Τe (fun _=>Go.FuncId→Array Go.Value→Go.World→(Go.Ending→Go.World→Prop)→Prop):=⟨fun _=>Go.Calls Tryz.prog⟩
def ς:Τe:=⟨⟩
section
open Go Go.RowKit
theorem jN {P:Prop} (h:P:=by simp[Value.oneCell']):P:=h
theorem ke {P:Prop} (h:P:=by unfold maxLen;omega):P:=h
theorem iy {P:Prop} (h:P:=by simp;omega):P:=h
def aO (l:List UInt8):List Value:=l.map fun b=>Value.int .u8 b.toNat
theorem rW (a b:List UInt8):aO (a++b)=aO a++aO b:=by simp[aO]
theorem uh (a:List UInt8):(aO a).length=a.length:=by simp[aO]
theorem C8 (l:List UInt8):∀u ∈ aO l,u.oneCell'=true:=by
 intro u hu;obtain⟨_,_,rfl⟩:=cu.1 hu;rfl
def leB (x:Nat) (n:Nat):List UInt8:=(List.range n).map fun i=>UInt8.ofNat (x / 2 ^ (8*i))
theorem pN (x n:Nat):(leB x n).length=n:=by simp[leB]
theorem aaj (x n:Nat):leB x (n+1)=leB x n++[UInt8.ofNat (x / 2 ^ (8*n))]:=by simp[leB,List.range_succ]
theorem JA (y:Nat):(((UInt8.ofNat y).toNat:Nat):Int)=(y:Int) % 256:=by simp
theorem aip (x n:Nat):aO (leB x (n+1))=aO (leB x n)++[ϋ ((x:Int) / 2 ^ (8*n) % 256)]:=by
 rw[aaj,rW];rw[show aO [UInt8.ofNat (x / 2 ^ (8*n))]=[ϋ ((x:Int) / 2 ^ (8*n) % 256)] from by simp only[aO,kO,AW];rw[JA];simp]
def dP:List UInt8→Nat
 | []=>0
 | b::l=>b.toNat+256*dP l
theorem aa0 (a:List UInt8) (b:List UInt8):dP (a++b)=dP a+2 ^ (8*a.length)*dP b:=by
 induction a with
 | nil=>simp[dP]
 | cons x a ih =>
   simp only[pI,dP,ih,eZ];have:2 ^ (8*(a.length+1))=256*2 ^ (8*a.length):=by rw[E_,XV];omega
   rw[this,E_,Nat.mul_assoc];omega
theorem NJ (l:List UInt8):dP l<2 ^ (8*l.length):=by
 induction l with
 | nil=>simp[dP]
 | cons x l ih =>
   have hx:=x.toNat_lt;simp only[dP,eZ];have:2 ^ (8*(l.length+1))=256*2 ^ (8*l.length):=by rw[E_,XV];omega
   omega
theorem Jh (x n:Nat) (h:x<2 ^ (8*n)):dP (leB x n)=x:=by
 have key:∀n,dP (leB x n)=x % 2 ^ (8*n):=by
  intro n;induction n with
  | zero=>simp[leB,dP,Nat.mod_one]
  | succ n ih =>
    rw[aaj,aa0,ih,pN];have e:2 ^ (8*(n+1))=2 ^ (8*n)*256:=by rw[E_,XV]
    rw[e,Nat.mod_mul];simp[dP]
 rw[key,Nat.mod_eq_of_lt h]
theorem ahw (a b k:Nat) (ha:a<2 ^ (8*k)) (hb:b<256) (hk:k<8):bits .or .u64 (a:Int) (((b*2 ^ (8*k):Nat):Int))=((a+2 ^ (8*k)*b:Nat):Int):=by
 have h8:2 ^ (8*k)≤2 ^ 56:=AO oM oM;have bM:b*2 ^ (8*k)≤255*2 ^ 56:=Nat.mul_le_mul oM h8;rw[u64_or_nat a _ oM oM,Nat.or_comm,nat_join (8*k) _ _ (Nat.mul_mod_left _ _) ha,Mb b,XN]
theorem le_step (l:List UInt8) (k:Nat) (y:UInt8) (hk:k<8) (hl:l.length=k):bits .or .u64 (dP l:Int) (IntKind.u64.wrap (IntKind.u64.wrap (y.toNat:Int)*2 ^ (8*k)))=(dP (l++[y]):Int):=by
 have hy:=y.toNat_lt;have h8:2 ^ (8*k)≤2 ^ 56:=AO oM oM;have bM:y.toNat*2 ^ (8*k)≤255*2 ^ 56:=Nat.mul_le_mul oM h8;have w64:∀z:Nat,z<18446744073709551616→IntKind.u64.wrap (z:Int)=(z:Int):=by
  intro z hz;simp only[IntKind.wrap,IntKind.bits,IntKind.signed];simp
  omega
 rw[w64 _ oM];have e:((y.toNat:Int)*2 ^ (8*k))=((y.toNat*2 ^ (8*k):Nat):Int):=by push_cast;rfl
 rw[e,w64 _ oM];have hlt:=NJ l;rw[hl] at hlt;rw[ahw _ _ k hlt oM hk,aa0,hl];simp[dP]
theorem Dh:(prog.info? 5).map (fun i=>(i.zero,i.size,i.bytes))=some (some (ϋ 0),1,1):=kR
theorem YT (s:ByteArray) (k:Nat) (h:k<s.size):s.data.toList.take (k+1)=s.data.toList.take k++[s[k]]:=by
 rw[ia vW];rfl
theorem ac6 {P:Prop} (h:P:=by
 rcases hl with h | ⟨q,h,hq⟩
 ·exact .inl (by rw[← h];exact hb)
 ·rw[h] at hb;exact .inr (oN (dM hb))):P:=h
theorem QY {A P:Prop} (f:A) (h:A→P:=by
 intro H;clear H;obtain⟨i0,bx,bU,bK,aY⟩:=jD Dh;first| go_enter func205,ntmps205 | go_enter func223,ntmps223 | go_enter func171,ntmps171
 go_wp2_with fail
 go_loopw [0,9] (fun u i wr=>∃k:Nat,k≤n∧i=ι k∧Own wr 5 1 u (m+k) (xs++aO (leB x k))∧ζ (fun k=>v.ownBlock=some k) w wr∧(u.ownBlock=v.ownBlock∨∃q,u.ownBlock=some q∧w.heap.size≤q)) (fun _ i _=>n - (intOf i).toNat)
 case atStart=>exact⟨0,oM,rfl,by simpa [leB,aO] using hown,ζ.refl _ _,.inl rfl⟩
 case round =>
  obtain⟨k,hk,rfl,ho,hU,hl⟩:=hrel;clear hown;by_cases hlt:k<n
  ·have HX:=τ hU hl
   clear hU hl;go_wp2_with (at_builtin;refine kr rfl _ _ _ _ rfl 5 i0 _ 1 1 underlying89 bx bU bK aY rfl u0 (m+k) _ rfl (ho.alloc _) _ 1 [_] rfl (Src.Bi underlying89 _) jN ke oM ?_;intro v2 w2 kf σ hl2 cn);obtain⟨hU,hl⟩:=HX.out;go_roundw
   case rel =>
    refine⟨k+1,oM,by go_num,?_,(hU.alloc _).then σ (fun b hb=>?_),?_⟩
    ·rw[aip,← eC];exact kf
    ·exact ac6
    ·have hsz:=hU.size
     rcases hl2 with h | h
     ·rw[h];exact hl
     ·exact .inr ⟨_,h,by simp;omega⟩
   case measure=>simp[intOf];omega
  ·obtain rfl:k=n:=oM
   go_wp2
   go_ret
   exact⟨u0,rfl,ho,hU,hl⟩):P:=h f
theorem QZ {A P:Prop} (f:A) (h:A→P:=by
 intro H;clear H;first| go_enter func91,ntmps91 | go_enter func216,ntmps216 | go_enter func207,ntmps207
 go_wp2_with fail
 go_loop [4,7] (fun x i=>∃k:Nat,k≤n∧i=ι k∧x=ω (dP (s.data.toList.take k):Int)) (fun _ i=>n - (intOf i).toNat)
 case atStart=>exact⟨0,oM,rfl,rfl⟩
 case round =>
  obtain⟨k,hk,rfl,rfl⟩:=hrel;by_cases hlt:k<n
  ·have hlt':k<s.size:=oM
   go_wp2
   go_round
   case rel =>
    refine⟨k+1,oM,by go_num,?_⟩;rw[YT s k hlt',le_step _ k _ oM iy]
   case measure=>simp[intOf];omega
  ·obtain rfl:k=n:=oM
   go_wp2
   go_ret
   exact⟨rfl,rfl⟩):P:=h f
theorem ags (v:Value) (m:Nat) (xs:List Value) (x n:Nat) (w:World) (hown:Own w 5 1 v m xs) (hn:n≤8) (hm:m≤1000000) :
 ς 205 #[v,ω (x:Int),ι (n:Int)] w fun e w'=>∃v',e=ώ v'∧Own w' 5 1 v' (m+n) (xs++aO (leB x n))∧ζ (fun k=>v.ownBlock=some k) w w'∧(v'.ownBlock=v.ownBlock∨∃q,v'.ownBlock=some q∧w.heap.size≤q):=by
 exact QY (And.intro hown (And.intro hn hm))
theorem agt (s:ByteArray) (n:Nat) (w:World) (hn:n≤8) (hs:n≤s.size) :
 ς 91 #[.string s,ι (n:Int)] w fun e w'=>e=ώ (ω (dP (s.data.toList.take n):Int))∧w=w':=by
 exact QZ (And.intro hn hs)
theorem agu (v:Value) (m:Nat) (xs:List Value) (x n:Nat) (w:World) (hown:Own w 5 1 v m xs) (hn:n≤8) (hm:m≤1000000) :
 ς 223 #[v,ω (x:Int),ι (n:Int)] w fun e w'=>∃v',e=ώ v'∧Own w' 5 1 v' (m+n) (xs++aO (leB x n))∧ζ (fun k=>v.ownBlock=some k) w w'∧(v'.ownBlock=v.ownBlock∨∃q,v'.ownBlock=some q∧w.heap.size≤q):=by
 exact QY (And.intro hown (And.intro hn hm))
theorem agv (s:ByteArray) (n:Nat) (w:World) (hn:n≤8) (hs:n≤s.size) :
 ς 216 #[.string s,ι (n:Int)] w fun e w'=>e=ώ (ω (dP (s.data.toList.take n):Int))∧w=w':=by
 exact QZ (And.intro hn hs)
theorem agC (v:Value) (m:Nat) (xs:List Value) (x n:Nat) (w:World) (hown:Own w 5 1 v m xs) (hn:n≤8) (hm:m≤1000000) :
 ς 171 #[v,ω (x:Int),ι (n:Int)] w fun e w'=>∃v',e=ώ v'∧Own w' 5 1 v' (m+n) (xs++aO (leB x n))∧ζ (fun k=>v.ownBlock=some k) w w'∧(v'.ownBlock=v.ownBlock∨∃q,v'.ownBlock=some q∧w.heap.size≤q):=by
 exact QY (And.intro hown (And.intro hn hm))
theorem agD (s:ByteArray) (n:Nat) (w:World) (hn:n≤8) (hs:n≤s.size) :
 ς 207 #[.string s,ι (n:Int)] w fun e w'=>e=ώ (ω (dP (s.data.toList.take n):Int))∧w=w':=by
 exact QZ (And.intro hn hs)
def KC (c:Int):Int:=if bits .and .u32 c 1=1 then bits .xor .u32 (c / 2) 3988292384 else c / 2
def BA:Nat→Int→Int
 | 0,c=>c
 | n+1,c=>KC (BA n c)
def tb (i:Nat):Int:=BA 4 i
def uw:Array Value:=#[.int .u32 (tb 0),.int .u32 (tb 1),.int .u32 (tb 2),.int .u32 (tb 3),.int .u32 (tb 4),.int .u32 (tb 5),.int .u32 (tb 6),.int .u32 (tb 7),.int .u32 (tb 8),.int .u32 (tb 9),.int .u32 (tb 10),.int .u32 (tb 11),.int .u32 (tb 12),.int .u32 (tb 13),.int .u32 (tb 14),.int .u32 (tb 15)]
theorem aiq:uw.size=16:=rfl
theorem aak (i:Nat) (hi:i<16):uw[i]? = some (.int .u32 (tb i)):=by
 match i,hi with
 | 0,_ | 1,_ | 2,_ | 3,_ | 4,_ | 5,_ | 6,_ | 7,_ | 8,_ | 9,_ | 10,_ | 11,_ | 12,_ | 13,_ | 14,_ | 15,_=>rfl
 | n+16,h=>omega
theorem ajJ:uw.all (·.oneCell')=true:=by simp[uw,Value.oneCell']
theorem alw {c:Int} (h:bits .and .u32 c 1=1):KC c=bits .xor .u32 (c / 2) 3988292384:=by simp[KC,h]
theorem amx {c:Int} (h:¬bits .and .u32 c 1=1):KC c=c / 2:=by simp[KC,h]
def ac7 (x:Int):Int:=bits .xor .u32 (x / 16) (tb (bits .and .u32 x 15).toNat)
def Tw (c:Int) (y:UInt8):Int:=ac7 (ac7 (bits .xor .u32 c y.toNat))
def x9 (l:List UInt8):Int:=l.foldl Tw 4294967295
def Tx (l:List UInt8):Int:=bits .xor .u32 IntKind.u32.max (x9 l)
theorem Yt (op:BinOp) (h:op=.xor∨op=.and) (a b:Int):0≤bits op .u32 a b∧bits op .u32 a b<4294967296:=by
 rcases h with rfl | rfl
 ·have e:bits .xor .u32 a b=IntKind.u32.wrap ((BitVec.ofInt 32 a ^^^ BitVec.ofInt 32 b).toNat:Int):=rfl
  rw[e];generalize (BitVec.ofInt 32 a ^^^ BitVec.ofInt 32 b).toNat=n;rw[XW];omega
 ·have e:bits .and .u32 a b=IntKind.u32.wrap ((BitVec.ofInt 32 a &&& BitVec.ofInt 32 b).toNat:Int):=rfl
  rw[e];generalize (BitVec.ofInt 32 a &&& BitVec.ofInt 32 b).toNat=n;rw[XW];omega
def tv (l:List UInt8):Nat:=(Tx l).toNat
theorem aa1 (l:List UInt8):Tx l=(tv l:Int):=by
 have h:=(Yt .xor (.inl rfl) IntKind.u32.max (x9 l)).1;unfold tv;exact(Int.toNat_of_nonneg h).symm
theorem Np (l:List UInt8):tv l<4294967296:=by
 have h:=(Yt .xor (.inl rfl) IntKind.u32.max (x9 l));have e:=aa1 l;unfold Tx at e;omega
theorem air (l:List UInt8) (y:UInt8):x9 (l++[y])=Tw (x9 l) y:=by simp[x9]
theorem nib (x:Int):0≤bits .and .u32 x 15∧bits .and .u32 x 15<16:=by
 have h:bits .and .u32 x 15=IntKind.u32.wrap ((BitVec.ofInt 32 x &&& BitVec.ofInt 32 15).toNat:Int):=rfl;have h2:(BitVec.ofInt 32 x &&& BitVec.ofInt 32 15).toNat<16:=by
  rw[BitVec.toNat_and];have:(BitVec.ofInt 32 15).toNat=15:=rfl;rw[this];exact Nat.lt_of_le_of_lt Nat.and_le_right oM
 rw[h];generalize (BitVec.ofInt 32 x &&& BitVec.ofInt 32 15).toNat=n at h2;rw[XW];omega
theorem ais (s:ByteArray) (k:Nat) (h:k<s.size):s.data.toList.take (k+1)=s.data.toList.take k++[s[k]]:=by
 rw[ia vW];rfl
theorem agZ {vs:Array Value} (h:vs.size=16) (hall:∀j,j<16→vs[j]? = some (.int .u32 (tb j))):vs=uw:=by
 apply Array.ext_getElem?
 intro i;by_cases hi:i<16
 ·rw[hall i hi,aak i hi]
 ·rw[y6 oM,y6 (by rw[aiq];omega)]
theorem ac8 {P:Prop} (h:P:=by
 clear JS;go_wp2
 go_round
 case rel=>exact⟨n+1,oM,by go_num,by rw[BA,hstep.out]⟩
 case measure=>simp[intOf];omega):P:=h
theorem alx (w:World) :
 ς 151 #[] w fun e w'=>e=ώ (.agg uw)∧Below w.heap.size w w':=by
 go_enter func151,ntmps151
 go_wp2_with fail
 go_loopw [1,2,3] (fun _ _ i wr=>∃(k:Nat) (vs:Array Value),k≤16∧i=ι k∧η wr w.heap.size 240 vs∧vs.size=16∧(∀j,j<k→vs[j]? = some (.int .u32 (tb j)))∧Below w.heap.size w wr) (fun _ _ i _=>16 - (intOf i).toNat)
 case atStart=>exact⟨0,_,oM,rfl,η.new _ _ _,rfl,oM,(oT _ _).alloc (bO _) _⟩
 case round =>
  obtain⟨k,vs,hk,rfl,hB,hvs,hall,Tz⟩:=hrel;by_cases hlt:k<16
  ·have anX:=δ hall
   clear hall;go_wp2_with fail
   obtain⟨wo,rfl⟩:∃wo:World,wo=wr:=⟨_,rfl⟩;go_loop [2,8] (fun c m=>∃(n:Nat),n≤4∧m=ι n∧c=.int .u32 (BA n k)) (fun _ m=>4 - (intOf m).toNat)
   case atStart=>exact⟨0,oM,rfl,rfl⟩
   case round =>
    obtain⟨n,hn,rfl,rfl⟩:=hrel;by_cases qB:n<4
    ·by_cases JS:bits .and .u32 (BA n k) 1=1
     ·have eO:(bits .and .u32 (BA n k) 1 == 1)=true:=by simp[JS]
      have hstep:=δ (alw JS);exact ac8
     ·have eO:(bits .and .u32 (BA n k) 1 == 1)=false:=by simp[JS]
      have hstep:=δ (amx JS);exact ac8
    ·obtain rfl:n=4:=oM
     have hc:=hB.cell k;have hf:=hB.frozen k;rw[QG oM] at hc;go_wp2
     go_roundw
     case rel =>
      refine⟨k+1,vs.setIfInBounds k (.int .u32 (BA 4 k)),oM,by go_num,hB.bE k _,by simpa using hvs,?_,Tz.setCell (bO _) _⟩;intro j hj;by_cases hjk:j=k
      ·subst hjk
       simp[hvs,hlt,tb]
      ·rw[Array.getElem?_setIfInBounds_ne (nt hjk)]
       exact anX.out j oM
     case measure=>simp[intOf];omega
  ·obtain rfl:k=16:=oM
   have hv:vs=uw:=agZ hvs hall;subst hv;clear hall;go_wp2_with (first|(refine lM rfl _ _ rfl w.heap.size rfl _ uw _ hB underlying240 rfl rfl ?_)|(refine fG rfl 240 _ _ rfl w.heap.size uw rfl rfl _ uw hB rfl ajJ kR ?_;intro w2 aD σ cn));refine cJ (jU rfl _ _ w.heap.size _ uw _ _ rfl aD underlying240 rfl rfl) rfl ⟨rfl,?_⟩;exact Tz.trans ⟨σ.os,σ.tape,σ.output,σ.size,fun b hb=>σ.block b (nY hb Tz.size) oM⟩
theorem ab8 (s:ByteArray) (w:World) (hs:s.size≤9223372036854775807) :
 ς 92 #[.string s] w fun e w'=>e=ώ (.int .u32 (tv s.data.toList:Int))∧Below w.heap.size w w':=by
 go_enter func92,ntmps92
 go_wp2_with fail
 refine(alx _).mono ?_;rintro e w1 ⟨rfl,eO⟩;unfold uw;go_wp2_with fail
 generalize hW:w1.alloc _=W;have hcell:∀i:Nat,i<16→W.cell? ⟨w1.heap.size,i,none⟩=some (.int .u32 (tb i)):=by
  intro i hi;rw[← hW,af1];exact aak i hi
 have bM:Below w.heap.size w W:=by rw[← hW];exact eO.alloc eO.size _
 have ab9:=δ hcell;clear hcell hW;go_loop [4,9] (fun c i=>∃k:Nat,k≤s.size∧i=ι k∧c=.int .u32 (x9 (s.data.toList.take k))) (fun _ i=>s.size - (intOf i).toNat)
 case atStart=>exact⟨0,oM,rfl,rfl⟩
 case round =>
  obtain⟨k,hk,rfl,rfl⟩:=hrel;by_cases hlt:k<s.size
  ·have HS:Hid (x9 (s.data.toList.take (k+1))=Tw (x9 (s.data.toList.take k)) s[k]):=by rw[ais s k hlt];exact air _ _
   generalize x9 (s.data.toList.take k)=c' at HS;have hy:((s[k]'hlt).toNat:Int)<256:=by have:=(s[k]'hlt).toNat_lt;omega
   have l1:=nib (bits .xor .u32 c' (s[k]'hlt).toNat);have g1:=ab9.out (bits .and .u32 (bits .xor .u32 c' (s[k]'hlt).toNat) 15).toNat oM;have l2:=nib (bits .xor .u32 (bits .xor .u32 c' (s[k]'hlt).toNat / 16) (tb (bits .and .u32 (bits .xor .u32 c' (s[k]'hlt).toNat) 15).toNat));have g2:=ab9.out (bits .and .u32 (bits .xor .u32 (bits .xor .u32 c' (s[k]'hlt).toNat / 16) (tb (bits .and .u32 (bits .xor .u32 c' (s[k]'hlt).toNat) 15).toNat)) 15).toNat oM;go_wp2
   go_round
   case rel=>exact⟨k+1,oM,by go_num,by rw[HS.out];rfl⟩
   case measure=>simp[intOf];omega
  ·go_wp2
   go_ret
   refine⟨?_,bM⟩;rw[dV iy,← aa1];rfl
end
end Go.Proofs.YtbhjgfibhegddaaGreat
namespace Go.Proofs
open Go.Shelf
def Tryz.lays169_ren:Go.Shelf.Ren:=⟨fun | 169=>74 | n=>n,fun | 70=>137 | 9=>9 | 0=>0 | 72=>139 | 37=>89 | 127=>226 | 3=>3 | 5=>5 | n=>n,fun | n=>n⟩
theorem Tryz.lays169:Go.Proofs.Lays.n169 Tryz.prog Tryz.lays169_ren := {
 mixed:=by kernel_rfl
 f169:=Tryz.func74.trans (congrArg some (by kernel_rfl))
 t0:=Tryz.underlying0
 a0:=Tryz.isAgg0
 z0:=Tryz.sizeOf0
 v0:=Tryz.zeroValue0
 t3:=Tryz.underlying3
 a3:=Tryz.isAgg3
 z3:=Tryz.sizeOf3
 v3:=Tryz.zeroValue3
 t9:=Tryz.underlying9
 a9:=Tryz.isAgg9
 z9:=Tryz.sizeOf9
 v9:=Tryz.zeroValue9
 t37:=Tryz.underlying89
 a37:=Tryz.isAgg89
 z37:=Tryz.sizeOf89
 v37:=Tryz.zeroValue89
 t70:=Tryz.underlying137
 a70:=Tryz.isAgg137
 z70:=Tryz.sizeOf137
 v70:=Tryz.zeroValue137
 t72:=Tryz.underlying139
 a72:=Tryz.isAgg139
 z72:=Tryz.sizeOf139
 v72:=Tryz.zeroValue139
 t127:=Tryz.underlying226
 a127:=Tryz.isAgg226
 z127:=Tryz.sizeOf226
 v127:=Tryz.zeroValue226 }
theorem Tryz.Builder_Extra_169:Builder.Extra Tryz.prog Tryz.lays169_ren := {
 sizeBuilder:=by kernel_rfl
 liesBuilder:=by kernel_rfl
 t5:=Tryz.underlying5
 a5:=Tryz.isAgg5
 z5:=Tryz.sizeOf5
 v5:=Tryz.zeroValue5
 infoByte:=by kernel_rfl
 cellsByte:=by kernel_rfl
 sizeByte:=by kernel_rfl
 neB5:=by decide }
open Go.RowKit in
theorem Tryz.Builder_String_any (B b:Nat) (l:List UInt8) (w:World) (h:Lib.IsBuilder 139 5 B b (Lib.byteCells l) w) (hBw:B≤w.heap.size) :
 Calls Tryz.prog 74 #[.pointer (some ⟨b,0,none⟩)] w fun e w'=>e=.returned (.string ⟨l.toArray⟩)∧Below B w w':=Any.Builder_String_any Tryz.lays169 Tryz.Builder_Extra_169 B b l w h hBw
def Tryz.lays137_ren:Go.Shelf.Ren:=⟨fun | 137=>225 | 217=>238 | 266=>269 | n=>n,fun | 9=>9 | 5=>5 | 3=>3 | n=>n,fun | n=>n⟩
theorem Tryz.lays137:Go.Proofs.Lays.n137 Tryz.prog Tryz.lays137_ren := {
 mixed:=by kernel_rfl
 f137:=Tryz.func225.trans (congrArg some (by kernel_rfl))
 f217:=Tryz.func238.trans (congrArg some (by kernel_rfl))
 f266:=Tryz.func269.trans (congrArg some (by kernel_rfl))
 t3:=Tryz.underlying3
 a3:=Tryz.isAgg3
 z3:=Tryz.sizeOf3
 v3:=Tryz.zeroValue3
 t5:=Tryz.underlying5
 a5:=Tryz.isAgg5
 z5:=Tryz.sizeOf5
 v5:=Tryz.zeroValue5
 t9:=Tryz.underlying9
 a9:=Tryz.isAgg9
 z9:=Tryz.sizeOf9
 v9:=Tryz.zeroValue9 }
open Go.RowKit in
theorem Tryz.strings_IndexByte (s:ByteArray) (c:Int) (w:World) :
 Calls Tryz.prog 225 #[.string s,.int .u8 c] w fun e w'=>e=.returned (.int .i64 (Lib.indexByte s.data.toList c.toNat.toUInt8))∧w'=w:=Any.strings_IndexByte Tryz.lays137 s c w
def Tryz.lays129_ren:Go.Shelf.Ren:=⟨fun | 129=>204 | n=>n,fun | 53=>112 | 3=>3 | 4=>4 | 46=>133 | 5=>5 | 9=>9 | n=>n,fun | n=>n⟩
theorem Tryz.lays129:Go.Proofs.Lays.n129 Tryz.prog Tryz.lays129_ren := {
 mixed:=by kernel_rfl
 f129:=Tryz.func204.trans (congrArg some (by kernel_rfl))
 t3:=Tryz.underlying3
 a3:=Tryz.isAgg3
 z3:=Tryz.sizeOf3
 v3:=Tryz.zeroValue3
 t4:=Tryz.underlying4
 a4:=Tryz.isAgg4
 z4:=Tryz.sizeOf4
 v4:=Tryz.zeroValue4
 t5:=Tryz.underlying5
 a5:=Tryz.isAgg5
 z5:=Tryz.sizeOf5
 v5:=Tryz.zeroValue5
 t9:=Tryz.underlying9
 a9:=Tryz.isAgg9
 z9:=Tryz.sizeOf9
 v9:=Tryz.zeroValue9
 t46:=Tryz.underlying133
 a46:=Tryz.isAgg133
 z46:=Tryz.sizeOf133
 v46:=Tryz.zeroValue133
 t53:=Tryz.underlying112
 a53:=Tryz.isAgg112
 z53:=Tryz.sizeOf112
 v53:=Tryz.zeroValue112 }
theorem Tryz.bits_Len64 (x:Int) (w:World) (h0:0≤x) (h1:x≤18446744073709551615) :
 Calls Tryz.prog 204 #[.int .u64 x] w fun e w'=>e=.returned (.int .i64 (Lib.bitLen x.toNat))∧w'=w:=Any.bits_Len64 Tryz.lays129 x w h0 h1
def Tryz.lays219_ren:Go.Shelf.Ren:=⟨fun | 219=>198 | 217=>238 | 225=>239 | 224=>240 | 267=>241 | 266=>269 | 314=>270 | n=>n,fun | 9=>9 | 3=>3 | 4=>4 | 5=>5 | 46=>133 | 146=>222 | 51=>113 | n=>n,fun | 1=>0 | n=>n⟩
theorem Tryz.lays219:Go.Proofs.Lays.n219 Tryz.prog Tryz.lays219_ren := {
 mixed:=by kernel_rfl
 f217:=Tryz.func238.trans (congrArg some (by kernel_rfl))
 f219:=Tryz.func198.trans (congrArg some (by kernel_rfl))
 f224:=Tryz.func240.trans (congrArg some (by kernel_rfl))
 f225:=Tryz.func239.trans (congrArg some (by kernel_rfl))
 f266:=Tryz.func269.trans (congrArg some (by kernel_rfl))
 f267:=Tryz.func241.trans (congrArg some (by kernel_rfl))
 f314:=Tryz.func270.trans (congrArg some (by kernel_rfl))
 t3:=Tryz.underlying3
 a3:=Tryz.isAgg3
 z3:=Tryz.sizeOf3
 v3:=Tryz.zeroValue3
 t4:=Tryz.underlying4
 a4:=Tryz.isAgg4
 z4:=Tryz.sizeOf4
 v4:=Tryz.zeroValue4
 t5:=Tryz.underlying5
 a5:=Tryz.isAgg5
 z5:=Tryz.sizeOf5
 v5:=Tryz.zeroValue5
 t9:=Tryz.underlying9
 a9:=Tryz.isAgg9
 z9:=Tryz.sizeOf9
 v9:=Tryz.zeroValue9
 t46:=Tryz.underlying133
 a46:=Tryz.isAgg133
 z46:=Tryz.sizeOf133
 v46:=Tryz.zeroValue133
 t51:=Tryz.underlying113
 a51:=Tryz.isAgg113
 z51:=Tryz.sizeOf113
 v51:=Tryz.zeroValue113
 t146:=Tryz.underlying222
 a146:=Tryz.isAgg222
 z146:=Tryz.sizeOf222
 v146:=Tryz.zeroValue222
 g1:=by kernel_rfl }
open Go.RowKit Go.Lib in
theorem Tryz.stringslite_Index_one (s:ByteArray) (c:UInt8) (w:World) :
 Calls Tryz.prog 198 #[.string s,.string ⟨#[c]⟩] w fun e w'=>e=.returned (.int .i64 (Lib.indexByte s.data.toList c))∧w'=w:=Any.stringslite_Index_one Tryz.lays219 s c w
def Tryz.lays138_ren:Go.Shelf.Ren:=⟨fun | 138=>90 | 195=>148 | 218=>149 | 143=>150 | 219=>198 | 217=>238 | 225=>239 | 224=>240 | 267=>241 | 266=>269 | 314=>270 | n=>n,fun | 9=>9 | 3=>3 | 4=>4 | 5=>5 | 0=>0 | 46=>133 | 146=>222 | 51=>113 | n=>n,fun | 1=>0 | n=>n⟩
theorem Tryz.lays138:Go.Proofs.Lays.n138 Tryz.prog Tryz.lays138_ren := {
 mixed:=by kernel_rfl
 f138:=Tryz.func90.trans (congrArg some (by kernel_rfl))
 f143:=Tryz.func150.trans (congrArg some (by kernel_rfl))
 f195:=Tryz.func148.trans (congrArg some (by kernel_rfl))
 f217:=Tryz.func238.trans (congrArg some (by kernel_rfl))
 f218:=Tryz.func149.trans (congrArg some (by kernel_rfl))
 f219:=Tryz.func198.trans (congrArg some (by kernel_rfl))
 f224:=Tryz.func240.trans (congrArg some (by kernel_rfl))
 f225:=Tryz.func239.trans (congrArg some (by kernel_rfl))
 f266:=Tryz.func269.trans (congrArg some (by kernel_rfl))
 f267:=Tryz.func241.trans (congrArg some (by kernel_rfl))
 f314:=Tryz.func270.trans (congrArg some (by kernel_rfl))
 t0:=Tryz.underlying0
 a0:=Tryz.isAgg0
 z0:=Tryz.sizeOf0
 v0:=Tryz.zeroValue0
 t3:=Tryz.underlying3
 a3:=Tryz.isAgg3
 z3:=Tryz.sizeOf3
 v3:=Tryz.zeroValue3
 t4:=Tryz.underlying4
 a4:=Tryz.isAgg4
 z4:=Tryz.sizeOf4
 v4:=Tryz.zeroValue4
 t5:=Tryz.underlying5
 a5:=Tryz.isAgg5
 z5:=Tryz.sizeOf5
 v5:=Tryz.zeroValue5
 t9:=Tryz.underlying9
 a9:=Tryz.isAgg9
 z9:=Tryz.sizeOf9
 v9:=Tryz.zeroValue9
 t46:=Tryz.underlying133
 a46:=Tryz.isAgg133
 z46:=Tryz.sizeOf133
 v46:=Tryz.zeroValue133
 t51:=Tryz.underlying113
 a51:=Tryz.isAgg113
 z51:=Tryz.sizeOf113
 v51:=Tryz.zeroValue113
 t146:=Tryz.underlying222
 a146:=Tryz.isAgg222
 z146:=Tryz.sizeOf222
 v146:=Tryz.zeroValue222
 g1:=by kernel_rfl }
open Go.RowKit Go.Lib in
theorem Tryz.strings_Count_one (s:ByteArray) (c:UInt8) (w:World) :
 Calls Tryz.prog 90 #[.string s,.string ⟨#[c]⟩] w fun e w'=>e=.returned (.int .i64 (Lib.countByte s.data.toList c))∧w'=w:=Any.strings_Count_one Tryz.lays138 s c w
def Tryz.lays190_ren:Go.Shelf.Ren:=⟨fun | 190=>192 | 125=>197 | 258=>227 | 128=>237 | 129=>204 | 302=>254 | 303=>255 | 304=>256 | 305=>257 | 306=>258 | 307=>259 | 308=>260 | 309=>261 | 310=>262 | 333=>282 | 329=>264 | 330=>265 | 334=>283 | 335=>284 | 336=>285 | 344=>302 | n=>n,fun | 31=>147 | 9=>9 | 3=>3 | 46=>133 | 0=>0 | 51=>113 | 53=>112 | 4=>4 | 183=>329 | 182=>328 | 131=>307 | 5=>5 | 218=>352 | 222=>283 | 228=>373 | 229=>26 | n=>n,fun | n=>n⟩
theorem Tryz.lays190:Go.Proofs.Lays.n190 Tryz.prog Tryz.lays190_ren := {
 mixed:=by kernel_rfl
 f125:=Tryz.func197.trans (congrArg some (by kernel_rfl))
 f128:=Tryz.func237.trans (congrArg some (by kernel_rfl))
 f129:=Tryz.func204.trans (congrArg some (by kernel_rfl))
 f190:=Tryz.func192.trans (congrArg some (by kernel_rfl))
 f258:=Tryz.func227.trans (congrArg some (by kernel_rfl))
 f302:=Tryz.func254.trans (congrArg some (by kernel_rfl))
 f303:=Tryz.func255.trans (congrArg some (by kernel_rfl))
 f304:=Tryz.func256.trans (congrArg some (by kernel_rfl))
 f305:=Tryz.func257.trans (congrArg some (by kernel_rfl))
 f306:=Tryz.func258.trans (congrArg some (by kernel_rfl))
 f307:=Tryz.func259.trans (congrArg some (by kernel_rfl))
 f308:=Tryz.func260.trans (congrArg some (by kernel_rfl))
 f309:=Tryz.func261.trans (congrArg some (by kernel_rfl))
 f310:=Tryz.func262.trans (congrArg some (by kernel_rfl))
 f329:=Tryz.func264.trans (congrArg some (by kernel_rfl))
 f330:=Tryz.func265.trans (congrArg some (by kernel_rfl))
 f333:=Tryz.func282.trans (congrArg some (by kernel_rfl))
 f334:=Tryz.func283.trans (congrArg some (by kernel_rfl))
 f335:=Tryz.func284.trans (congrArg some (by kernel_rfl))
 f336:=Tryz.func285.trans (congrArg some (by kernel_rfl))
 f344:=Tryz.func302.trans (congrArg some (by kernel_rfl))
 t0:=Tryz.underlying0
 a0:=Tryz.isAgg0
 z0:=Tryz.sizeOf0
 v0:=Tryz.zeroValue0
 t3:=Tryz.underlying3
 a3:=Tryz.isAgg3
 z3:=Tryz.sizeOf3
 v3:=Tryz.zeroValue3
 t4:=Tryz.underlying4
 a4:=Tryz.isAgg4
 z4:=Tryz.sizeOf4
 v4:=Tryz.zeroValue4
 t5:=Tryz.underlying5
 a5:=Tryz.isAgg5
 z5:=Tryz.sizeOf5
 v5:=Tryz.zeroValue5
 t9:=Tryz.underlying9
 a9:=Tryz.isAgg9
 z9:=Tryz.sizeOf9
 v9:=Tryz.zeroValue9
 t31:=Tryz.underlying147
 a31:=Tryz.isAgg147
 z31:=Tryz.sizeOf147
 v31:=Tryz.zeroValue147
 t46:=Tryz.underlying133
 a46:=Tryz.isAgg133
 z46:=Tryz.sizeOf133
 v46:=Tryz.zeroValue133
 t51:=Tryz.underlying113
 a51:=Tryz.isAgg113
 z51:=Tryz.sizeOf113
 v51:=Tryz.zeroValue113
 t53:=Tryz.underlying112
 a53:=Tryz.isAgg112
 z53:=Tryz.sizeOf112
 v53:=Tryz.zeroValue112
 t131:=Tryz.underlying307
 a131:=Tryz.isAgg307
 z131:=Tryz.sizeOf307
 v131:=Tryz.zeroValue307
 t182:=Tryz.underlying328
 a182:=Tryz.isAgg328
 z182:=Tryz.sizeOf328
 v182:=Tryz.zeroValue328
 t183:=Tryz.underlying329
 a183:=Tryz.isAgg329
 z183:=Tryz.sizeOf329
 v183:=Tryz.zeroValue329
 t218:=Tryz.underlying352
 a218:=Tryz.isAgg352
 z218:=Tryz.sizeOf352
 v218:=Tryz.zeroValue352
 t222:=Tryz.underlying283
 a222:=Tryz.isAgg283
 z222:=Tryz.sizeOf283
 v222:=Tryz.zeroValue283
 t228:=Tryz.underlying373
 a228:=Tryz.isAgg373
 z228:=Tryz.sizeOf373
 v228:=Tryz.zeroValue373
 t229:=Tryz.underlying26
 a229:=Tryz.isAgg26
 z229:=Tryz.sizeOf26
 v229:=Tryz.zeroValue26 }
open Go.Sort Go.RowKit in
theorem Tryz.slices_Sort_string (blk off cap:Nat) (ss:List (List UInt8)) (w:World) (hH:Holds encStr w blk off ss.toArray) (hblk:blk<w.heap.size) (hsz:ss.length<4611686018427387904) :
 Calls Tryz.prog 192 #[.slice (some ⟨blk,off,none⟩) ss.length cap] w fun e w' =>
  e=.returned (.tuple #[])∧∃n os,w'=grow (putRow encStr (Sort.ahead w n) blk off (ss.mergeSort fun x y=>decide (x≤y)).toArray) os:=Any.slices_Sort_string Tryz.lays190 blk off cap ss w hH hblk hsz
def Tryz.lays105_ren:Go.Shelf.Ren:=⟨fun | 105=>20 | 212=>69 | 99=>70 | 165=>71 | 166=>72 | 170=>73 | 169=>74 | 263=>129 | 264=>130 | 206=>131 | 240=>132 | 241=>133 | 276=>187 | 277=>188 | n=>n,fun | 9=>9 | 3=>3 | 4=>4 | 20=>20 | 0=>0 | 46=>133 | 109=>134 | 5=>5 | 72=>139 | 76=>142 | 51=>113 | 146=>222 | 53=>112 | 148=>224 | 70=>137 | 37=>89 | 75=>141 | 127=>226 | 164=>296 | 80=>144 | n=>n,fun | n=>n⟩
theorem Tryz.lays105:Go.Proofs.Lays.n105 Tryz.prog Tryz.lays105_ren := {
 mixed:=by kernel_rfl
 f99:=Tryz.func70.trans (congrArg some (by kernel_rfl))
 f105:=Tryz.func20.trans (congrArg some (by kernel_rfl))
 f165:=Tryz.func71.trans (congrArg some (by kernel_rfl))
 f166:=Tryz.func72.trans (congrArg some (by kernel_rfl))
 f169:=Tryz.func74.trans (congrArg some (by kernel_rfl))
 f170:=Tryz.func73.trans (congrArg some (by kernel_rfl))
 f206:=Tryz.func131.trans (congrArg some (by kernel_rfl))
 f212:=Tryz.func69.trans (congrArg some (by kernel_rfl))
 f240:=Tryz.func132.trans (congrArg some (by kernel_rfl))
 f241:=Tryz.func133.trans (congrArg some (by kernel_rfl))
 f263:=Tryz.func129.trans (congrArg some (by kernel_rfl))
 f264:=Tryz.func130.trans (congrArg some (by kernel_rfl))
 f276:=Tryz.func187.trans (congrArg some (by kernel_rfl))
 f277:=Tryz.func188.trans (congrArg some (by kernel_rfl))
 t0:=Tryz.underlying0
 a0:=Tryz.isAgg0
 z0:=Tryz.sizeOf0
 v0:=Tryz.zeroValue0
 t3:=Tryz.underlying3
 a3:=Tryz.isAgg3
 z3:=Tryz.sizeOf3
 v3:=Tryz.zeroValue3
 t4:=Tryz.underlying4
 a4:=Tryz.isAgg4
 z4:=Tryz.sizeOf4
 v4:=Tryz.zeroValue4
 t5:=Tryz.underlying5
 a5:=Tryz.isAgg5
 z5:=Tryz.sizeOf5
 v5:=Tryz.zeroValue5
 t9:=Tryz.underlying9
 a9:=Tryz.isAgg9
 z9:=Tryz.sizeOf9
 v9:=Tryz.zeroValue9
 t20:=Tryz.underlying20
 a20:=Tryz.isAgg20
 z20:=Tryz.sizeOf20
 v20:=Tryz.zeroValue20
 t37:=Tryz.underlying89
 a37:=Tryz.isAgg89
 z37:=Tryz.sizeOf89
 v37:=Tryz.zeroValue89
 t46:=Tryz.underlying133
 a46:=Tryz.isAgg133
 z46:=Tryz.sizeOf133
 v46:=Tryz.zeroValue133
 t51:=Tryz.underlying113
 a51:=Tryz.isAgg113
 z51:=Tryz.sizeOf113
 v51:=Tryz.zeroValue113
 t53:=Tryz.underlying112
 a53:=Tryz.isAgg112
 z53:=Tryz.sizeOf112
 v53:=Tryz.zeroValue112
 t70:=Tryz.underlying137
 a70:=Tryz.isAgg137
 z70:=Tryz.sizeOf137
 v70:=Tryz.zeroValue137
 t72:=Tryz.underlying139
 a72:=Tryz.isAgg139
 z72:=Tryz.sizeOf139
 v72:=Tryz.zeroValue139
 t75:=Tryz.underlying141
 a75:=Tryz.isAgg141
 z75:=Tryz.sizeOf141
 v75:=Tryz.zeroValue141
 t76:=Tryz.underlying142
 a76:=Tryz.isAgg142
 z76:=Tryz.sizeOf142
 v76:=Tryz.zeroValue142
 t109:=Tryz.underlying134
 a109:=Tryz.isAgg134
 z109:=Tryz.sizeOf134
 v109:=Tryz.zeroValue134
 t127:=Tryz.underlying226
 a127:=Tryz.isAgg226
 z127:=Tryz.sizeOf226
 v127:=Tryz.zeroValue226
 t146:=Tryz.underlying222
 a146:=Tryz.isAgg222
 z146:=Tryz.sizeOf222
 v146:=Tryz.zeroValue222
 t148:=Tryz.underlying224
 a148:=Tryz.isAgg224
 z148:=Tryz.sizeOf224
 v148:=Tryz.zeroValue224
 t164:=Tryz.underlying296
 a164:=Tryz.isAgg296
 z164:=Tryz.sizeOf296
 v164:=Tryz.zeroValue296 }
theorem Tryz.Builder_Extra_105:Builder.Extra Tryz.prog Tryz.lays105_ren := {
 sizeBuilder:=by kernel_rfl
 liesBuilder:=by kernel_rfl
 t5:=Tryz.underlying5
 a5:=Tryz.isAgg5
 z5:=Tryz.sizeOf5
 v5:=Tryz.zeroValue5
 infoByte:=by kernel_rfl
 cellsByte:=by kernel_rfl
 sizeByte:=by kernel_rfl
 neB5:=by decide }
open Go.RowKit Go.Lib in
theorem Tryz.strings_Repeat (s:ByteArray) (c:Nat) (w:World) (hc:c≤9223372036854775807) (hlen:s.size*c≤140737488355328) :
 Calls Tryz.prog 20 #[.string s,.int .i64 c] w fun e w'=>e=.returned (.string ⟨(Lib.repeatL s.data.toList c).toArray⟩)∧Below w.heap.size w w':=Any.strings_Repeat Tryz.lays105 Tryz.Builder_Extra_105 s c w hc hlen
open Go.RowKit Go.Sort in
theorem Tryz.slices_Sort_string_none (p:Option Addr) (cap:Nat) (w:World) :
 Calls Tryz.prog 192 #[.slice p 0 cap] w fun e w'=>e=.returned (.tuple #[])∧w'=w:=Any.slices_Sort_string_none Tryz.lays190 p cap w
end Go.Proofs
namespace Go.Proofs.YtbhjgfibhegddaaGreat
open Tryz
section
open Go Go.RowKit
theorem gZ {P:Prop} (h:P:=by simp):P:=h
def str (l:List UInt8):ByteArray:=⟨l.toArray⟩
theorem cA (l:List UInt8):(str l).data.toList=l:=rfl
theorem bR (l:List UInt8):(str l).size=l.length:=by simp[str,ByteArray.size]
theorem FJ (s:ByteArray):str s.data.toList=s:=rfl
theorem str_inj {a b:List UInt8} (h:str a=str b):a=b:=by have:=aI (fun s=>s.data.toList) h;simpa [str] using this
section
variable {w:World}
theorem Yq (l:List UInt8):strOfNums (l.map fun b=>((b.toNat:Nat):Int))=str l:=by
 unfold strOfNums str;congr 2
 simp[List.map_map,Function.comp_def]
theorem xE {v:Value} {n:Nat} {l:List UInt8} (h:Own w 5 1 v n (aO l)):(convert 89 9 v).run prog w=.ok (.string (str l)) w:=by
 have hn:l.length=n:=by have:=h.1;simp[aO] at this;omega
 rcases h.2 with ⟨rfl,rfl⟩ | ⟨g,cap,cur,fr,rfl,_⟩
 ·have:l=[]:=AU hn
  subst this;exact run_convert_bytes_nil w _ _ underlying89 underlying5 0 0 _ underlying9
 ·rw[← Yq]
  refine run_convert_bytes_arg w _ _ underlying89 underlying5 g 0 n cap _ (by simpa using hn) (fun i hi=>?_) _ underlying9;rw[lK,h.cellAt i oM];simp[aO,show i<l.length by omega]
theorem Q4 (w:World) (s:ByteArray) (hs:s.size≤maxLen) :
 ∃v' w',(convert 9 89 (.string s)).run prog w=.ok v' w'∧Own w' 5 1 v' s.size (aO s.data.toList)∧υ w w'∧v'.ownBlock=some w.heap.size∧w'.heap.size=w.heap.size+1:=by
 refine⟨_,_,Lib.run_convert_string_bytes w _ _ _ s underlying9 underlying89 underlying5,?_,?_,rfl,Lib.bytesWorld_size w _ s⟩
 ·have hge:=grownCap_ge w s.size 0 5
  refine⟨by simp[aO],.inr ⟨w.heap.size,_,_,_,rfl,Lib.bytesWorld_at_new w _ s,.inr (bO _),hge,grownCap_le_maxLen w _ _ _ hs,?_,?_⟩⟩
  ·simp[Lib.bytesCells]
   omega
  ·have e:∀k,(aO s.data.toList++List.replicate k (Value.int .u8 0)).take (s.size*1)=aO s.data.toList:=by
    intro k;rw[Mg (by simp[aO]),dV (by simp[aO])]
   simp only[Lib.bytesCells,XU,Array.toList_map,Array.toList_replicate];exact e _
 ·refine⟨rfl,rfl,rfl,?_,fun k hk _=>Lib.bytesWorld_at_old w _ s k hk⟩
  rw[Lib.bytesWorld_size];omega
end
def gW (l:List UInt8):List UInt8:=l++leB (tv l) 4
def cK (l:List UInt8):List UInt8 × Int :=
 if l.length≠64 then ([],2) else if l=List.replicate 64 0 then ([],0) else if dP (l.drop 60)≠tv (l.take 60) then ([],2) else (l.take 60,1)
theorem MI (l:List UInt8):Lib.countByte l 0=l.length↔l=List.replicate l.length 0:=by
 unfold Lib.countByte;rw[List.count_eq_length,List.eq_replicate_iff];simp[eq_comm]
theorem xF {w w':World} (h:Below w.drew.heap.size w.drew w'):Below w.heap.size w w':=⟨h.os,h.tape,h.output,h.size,h.block⟩
theorem Zq (s:ByteArray) (h:s.size=64):IntKind.u32.wrap (dP (List.take 4 (List.take (s.size - 60) (List.drop 60 s.data.toList))):Int)=(dP (s.data.toList.drop 60):Int):=by
 have hl:(s.data.toList.drop 60).length=4:=by simp[h]
 rw[dV (i:=4) iy,dV oM];have:=NJ (s.data.toList.drop 60);rw[hl] at this;rw[XW];omega
theorem ag0 (s:ByteArray) (n:Nat):s.extract 0 n=str (s.data.toList.take n):=by
 have:(s.extract 0 n).data.toList=s.data.toList.take n:=gZ
 rw[← this,FJ]
theorem uc (s:ByteArray) (n m:Nat):s.extract n m=str ((s.data.toList.drop n).take (m - n)):=by
 have:(s.extract n m).data.toList=(s.data.toList.drop n).take (m - n):=by simp[List.take_drop]
 rw[← this,FJ]
theorem Sp (s:ByteArray) (w:World) (hs:s.size=60) :
 ς 157 #[.string s] w fun e w'=>e=ώ (.tuple #[.string (str (gW s.data.toList)),ι 0])∧Below w.heap.size w w':=by
 have hb:((s.size:Int) != 60)=false:=by rw[hs];rfl
 have hlt:=Np s.data.toList;have hs':s.size≤9223372036854775807:=oM;have HC:Hid (aO s.data.toList++aO (leB (tv s.data.toList) 4)=aO (gW s.data.toList)):=by unfold gW;rw[rW];rfl
 obtain⟨v1,w1,hrun,hown,hU,hblk,hsz⟩:=Q4 w s ke;have H1:=aF hown hU hblk hsz;clear hs hown hU hblk hsz;go_enter func157,ntmps157
 go_wp2_with fail
 refine(ab8 _ _ hs').mono ?_;rintro e w2 ⟨rfl,bM⟩;go_wp2_with fail
 obtain⟨hown,hU,hblk,hsz⟩:=H1.out;have qt:Own w2 5 1 v1 s.size (aO s.data.toList):=hown.dr (fun k hk=>bM.block k (hown.lt hk));refine(ags v1 s.size _ (tv s.data.toList) 4 w2 qt oM (by simp at hb;omega)).mono ?_;rintro e w3 ⟨v3,rfl,JB,χ,fV⟩;rw[HC.out] at JB;have cn:=bM.size;have HB:Hid (Below w.heap.size w w3):=by
  refine((hU.below (fun _ h=>h.elim)).trans (bM.mono oM)).trans ⟨χ.os,χ.tape,χ.output,χ.size,fun k hk=>χ.block k oM (fun e=>?_)⟩;rw[hblk] at e;have:=dM e;omega
 have Ta:=xE JB;clear hown hU hblk hsz qt JB χ fV bM hrun hlt cn;go_wp2
 go_ret2
 exact⟨rfl,HB.out⟩
theorem SL (s:ByteArray) (w:World) (hs:s.size≤9223372036854775807) :
 ς 47 #[.string s] w fun e w'=>e=ώ (.tuple #[.string (str (cK s.data.toList).1),ι (cK s.data.toList).2])∧Below w.heap.size w w':=by
 by_cases h64:s.size=64
 ·have hb:((s.size:Int) != 64)=false:=by rw[h64];rfl
  have hc:=fun W=>strings_Count_one s 0 W
  by_cases hz:s.data.toList=List.replicate 64 0
  ·have hl:cK s.data.toList=([],0):=by unfold cK;rw[ν (by simp[h64]),π hz]
   have hn:Lib.countByte s.data.toList 0=64:=by
    have:=(MI s.data.toList).2 (by rw[hz];simp)
    rw[this];simp[h64]
   rw[hl];simp only[hn] at hc;have Hc:=δ hc;clear hc hn hl hz h64;go_enter func47,ntmps47
   go_wp2_with (go_at_call 90;refine(Hc.out _).mono ?_;rintro e w' ⟨rfl,rfl⟩);go_ret2
   exact⟨rfl,oT _ _⟩
  ·have hn:((Lib.countByte s.data.toList 0:Int) == 64)=false:=by
    rw[iX];intro h;apply hz
    have h2:Lib.countByte s.data.toList 0=s.data.toList.length:=by simp[h64];omega
    have h3:=(MI _).1 h2;rw[h3];simp[h64]
   have Hc:=δ hc;clear hc;have D9:=δ h64;have Hz:=δ hz;clear hz h64;go_enter func47,ntmps47
   go_wp2_with (go_at_call 90;refine(Hc.out _).mono ?_;rintro e w' ⟨rfl,rfl⟩);have hge:60≤s.size:=by rw[D9.out];omega
   go_region_with (first
    |(go_at_call 91;refine(agt _ 4 _ oM (by rw[af2,D9.out];omega)).mono ?_;rintro e w' ⟨rfl,rfl⟩)
    |(go_at_call 92;refine(ab8 _ _ (by rw[af2,D9.out];omega)).mono ?_;rintro e w' ⟨rfl,bM⟩))
   all_goals go_wp2
   all_goals
    go_ret2
    first
     |(have ht:(IntKind.u32.wrap (dP (List.take 4 (List.take (s.size - 60) (List.drop 60 s.data.toList))):Int) != (tv (List.take 60 s.data.toList):Int))=true:=aS
       rw[Zq s D9.out,kq] at ht;refine⟨?_,by first| exact xF bM | exact bM⟩;rw[show cK s.data.toList=([],2) from by unfold cK;rw[ν (by simp[D9.out]),ν Hz.out,π oM]];rfl)
     |(have ht:(IntKind.u32.wrap (dP (List.take 4 (List.take (s.size - 60) (List.drop 60 s.data.toList))):Int) != (tv (List.take 60 s.data.toList):Int))=false:=aS
       rw[Zq s D9.out,bne_eq_false_iff_eq] at ht;refine⟨?_,by first| exact xF bM | exact bM⟩;rw[show cK s.data.toList=(s.data.toList.take 60,1) from by unfold cK;rw[ν (by simp[D9.out]),ν Hz.out,ν oM]];rw[← ag0];rfl)
 ·have hb:((s.size:Int) != 64)=true:=by rw[kq];omega
  have hl:cK s.data.toList=([],2):=by unfold cK;rw[π (by simpa using h64)]
  rw[hl];clear hl h64;go_enter func47,ntmps47
  go_wp2
  go_ret2
  exact⟨rfl,oT _ _⟩
theorem Zr (w:World) (l:List UInt8) (hl:l.length≤1000000):Own (w.alloc (.cells (aO l).toArray 5)) 5 1 (.slice (some ⟨w.heap.size,0,none⟩) l.length l.length) l.length (aO l):=by
 refine⟨by simp[aO],.inr ⟨w.heap.size,l.length,(aO l).toArray,(0,0),rfl,AP w _,.inl rfl,bO _,by unfold maxLen;omega,by simp[aO],?_⟩⟩;rw[dV (by simp[aO])]
theorem zC {P:Prop} (h:P:=by decide +kernel):P:=h
theorem ait (n:Nat) (h:n<18446744073709551616):Lib.bitLen n≤64:=by
 by_cases h0:n=0
 ·subst h0;decide
 ·have h1:=(afU 64 n oM h0).2.1
  apply yY
  intro hc;have h2:2 ^ 64≤2 ^ (Lib.bitLen n - 1):=AO oM oM;have h3:2 ^ (Lib.bitLen n - 1)≤n:=h1;have e:(2:Nat) ^ 64=18446744073709551616:=dC;omega
theorem abv (n:Nat) (w:World) (h:n<18446744073709551616):ς 155 #[ω (n:Int)] w fun e w'=>e=ώ (ι (bD n:Int))∧w=w':=by
 have hb:=agI n h;have hl:=ait n h;have HL:=δ (fun W=>bits_Len64 (n:Int) W oM oM);rw[af3] at HL;generalize Lib.bitLen n=b at *;have e1:IntKind.i64.wrap ((b:Int)+7)=((b+7:Nat):Int):=cZ _ oM;go_enter func155,ntmps155
 go_wp2_with fail
 refine(HL.out _).mono ?_;rintro e w' ⟨rfl,rfl⟩;go_wp2_with fail
 go_ret
 refine⟨?_,rfl⟩;have:max (1:Int) (((b:Int)+7 - 1) / 7)=(bD n:Int):=oM;rw[← this];rfl
theorem amy (k:Nat):bits .or .u8 ((k:Int) % 256) 128=((k % 128+128:Nat):Int):=by
 have h:∀x:Fin 256,bits .or .u8 (x.val:Int) 128=((x.val % 128+128:Nat):Int):=zC
 have h1:=h ⟨k % 256,oM⟩;have e:((k % 256:Nat):Int)=(k:Int) % 256:=oM;have e2:k % 256 % 128=k % 128:=oM;simp only[e,e2] at h1;exact h1
theorem ru {P:Prop} (h:P:=by rw[iX];omega):P:=h
theorem qw (s:ByteArray) (i:Nat) (h:i<s.size):s.data.toList.getD i 0=s[i]:=by simp[List.getD,h,ByteArray.getElem_eq_getElem_data]
theorem agw (t:List UInt8) (i:Nat) (h:i<t.length):gQ (t.drop i)=(t.getD i 0).toNat % 128+128*gQ (t.drop (i+1)):=by
 rw[vc h];show _ % 128+128*_=_;rw[bN,bu h];rfl
theorem amz (N b:Nat) (h:128*N<18446744073709551616):bits .or .u64 ((N:Int)*128) ((b:Int) % 128)=((b % 128+128*N:Nat):Int):=by
 have e1:(N:Int)*128=((N*128:Nat):Int):=by push_cast;rfl
 have e2:(b:Int) % 128=((b % 128:Nat):Int):=oM;rw[e1,e2,u64_or_nat _ _ oM oM,nat_join 7 _ _ (by show N*128 % 128=0;omega) (by show b % 128<128;omega)];omega
theorem aal (s:ByteArray) (w:World):ς 218 #[.string s] w fun e w'=>e=ώ (.tuple #[ω ((gz s.data.toList).1:Int),ι ((gz s.data.toList).2.1:Int),ι (gz s.data.toList).2.2])∧w=w':=by
 have hlen:s.data.toList.length=s.size:=gZ
 obtain⟨R,hR⟩:=μ (gz s.data.toList);rw[hR];have HR:=δ hR;clear hR;go_enter func218,ntmps218
 go_wp2_with fail
 go_loop [3] (fun i=>∃c:Nat,i=ι (c:Int)∧c≤10∧c≤s.size∧∀j,j<c→128≤(s.data.toList.getD j 0).toNat) (fun i=>10 - (intOf i).toNat)
 case atStart=>exact⟨0,rfl,oM,oM,fun j hj=>by omega⟩
 case round =>
  obtain⟨c,rfl,hc1,hc2,hg⟩:=hrel;by_cases Pb:c<10∧c<s.size∧128≤(s.data.toList.getD c 0).toNat
  ·obtain⟨h1,h2,h3⟩:=Pb
   rw[qw s c h2] at h3;go_wp2_with fail
   go_round
   case rel =>
    refine⟨c+1,by go_num,oM,oM,fun j hj=>?_⟩;by_cases e:j=c
    ·subst e;rw[qw s j h2];exact h3
    ·exact hg j oM
   case measure=>simp[intOf];omega
  ·have Bt:ew s.data.toList 10=c:=aaf _ _ _ hc1 oM hg (by
    by_cases c1:c=10
    ·exact .inl c1
    ·by_cases c2:c=s.size
     ·exact .inr (.inl oM)
     ·refine .inr (.inr ?_)
      apply yY
      intro c3;exact Pb ⟨oM,oM,oM⟩)
   have Tb:¬(c:Int)<min (s.size:Int) 10∨(c<10∧∃h:c<s.size,(s[c]).toNat<128):=by
    by_cases c2:c<s.size
    ·by_cases c1:c<10
     ·refine .inr ⟨c1,c2,?_⟩
      apply yY
      intro c3;exact Pb ⟨c1,c2,by rw[qw s c c2];omega⟩
     ·exact .inl oM
    ·exact .inl oM
   clear Pb;rcases Tb with hx | ⟨hx1,hx2,Pc⟩
   ·by_cases c10:c=10
    ·subst c10
     have sB:R=(0,0,8):=by rw[← HR.out,gz,π Bt]
     subst sB;go_wp2_with fail
     go_ret3
     exact⟨rfl,rfl⟩
    ·have cs:c=s.size:=oM
     have sB:R=(0,0,7):=by rw[← HR.out,gz,Bt,ν c10,π oM]
     subst sB;have cs':(c:Int)=(s.size:Int):=oM;go_wp2_with fail
     go_ret3
     exact⟨rfl,rfl⟩
   ·have JT:ew s.data.toList 10≠10:=oM
    have Dz:ew s.data.toList 10≠s.data.toList.length:=oM;have hv:=Sm JT Dz;by_cases h9:c=9∧1<(s.data.toList.getD 9 0).toNat
    ·have sB:R=(0,0,8):=by rw[← HR.out,gz,ν JT,ν Dz,Bt,π h9]
     subst sB;obtain⟨rfl,h9⟩:=h9;rw[qw s 9 hx2] at h9;clear hg Bt hv JT Dz hlen HR;go_wp2_with fail
     go_ret3
     exact⟨rfl,rfl⟩
    ·have TA:=hv.2 (by rw[Bt];exact h9)
     rw[Bt] at TA;have sB:=HR.out;rw[gz,ν JT,ν Dz,Bt,ν h9] at sB;have Vi:((c:Int) == 9)=false∨(((c:Int) == 9)=true∧(s[c]).toNat≤1):=by
      by_cases c9:c=9
      ·subst c9
       refine .inr ⟨rfl,?_⟩;apply yY
       intro hc;exact h9 ⟨rfl,by rw[qw s 9 hx2];omega⟩
      ·exact .inl ru
     have hte:∀m,m≤c→(s.data.toList.take (c+1)).getD m 0=s.data.toList.getD m 0:=fun m hm=>Re _ _ _ oM
     have htl:(s.data.toList.take (c+1)).length=c+1:=D7
     have HX:=aF sB TA hte htl;clear h9 hg Bt hv JT Dz hlen HR sB TA hte htl;rcases Vi with Vi | ⟨Vi,hx8⟩
     all_goals
      go_wp2_with fail
      go_loop [2,5] (fun n i=>∃m:Nat,m≤c+1∧i=ι ((m:Int) - 1)∧n=ω ((gQ ((s.data.toList.take (c+1)).drop m):Nat):Int)) (fun _ i=>((intOf i)+1).toNat)
      case atStart =>
       refine⟨c+1,oM,by go_num,?_⟩;rw[qj (by rw[HX.out.2.2.2];omega)];rfl
      case round =>
       obtain⟨m,hm,rfl,rfl⟩:=hrel;cases m with
       | zero =>
         go_wp2_with fail
         refine(abv _ _ HX.out.2.1).mono ?_;rintro e w' ⟨rfl,rfl⟩;have sB:=HX.out.1;by_cases hz:bD (gQ (s.data.toList.take (c+1)))=c+1
         ·rw[π hz] at sB
          subst sB;go_wp2_with fail
          go_ret3
          exact⟨rfl,rfl⟩
         ·rw[ν hz] at sB
          subst sB;go_wp2_with fail
          go_ret3
          exact⟨rfl,rfl⟩
       | succ k =>
         have hk:k<s.size:=oM;have hbd:=ail (s.data.toList.take (c+1)) k;have hst:=agw (s.data.toList.take (c+1)) k (by rw[HX.out.2.2.2];omega);rw[HX.out.2.2.1 k oM,qw s k hk] at hst;have hvl:=HX.out.2.1;obtain⟨N,hN⟩:=μ (gQ ((s.data.toList.take (c+1)).drop (k+1)));rw[hN] at hst ⊢;have hb:=(s[k]).toNat_lt;have p8:128*N<18446744073709551616:=oM;have HK:=aq hst hbd hvl;clear hst hbd hvl hN;go_wp2_with fail
         go_round
         case rel =>
          refine⟨k,oM,by go_num,?_⟩;rw[HK.out.1];rw[amz N _ p8]
         case measure=>simp[intOf]
theorem Na (s:List UInt8):(gz s).1<18446744073709551616∧(gz s).2.1≤10∧(gz s).2.1≤s.length∧((gz s).2.2=0∨(gz s).2.2=7∨(gz s).2.2=8):=by
 rcases aaY s with h | h | h
 ·obtain⟨⟨a,b,c⟩,hq⟩:∃q,gz s=q:=⟨_,rfl⟩
  rw[hq] at h ⊢;obtain rfl:c=0:=h;obtain⟨h1,h2,h3,h4⟩:=amv hq;have:=dA h1;exact⟨h1,by show b≤10;omega,h3,.inl rfl⟩
 ·rw[h];simp
 ·rw[h];simp
theorem TB {P:Prop} (h:P:=by
 go_enter func220,ntmps220
 go_wp2_with fail
 refine(HN.out _).mono ?_;rintro e w' ⟨rfl,rfl⟩;go_wp2_with fail
 go_ret3
 exact⟨rfl,rfl⟩):P:=h
theorem Zs (s:ByteArray) (m:Nat) (hm:m≤9223372036854775807) (w:World):ς 220 #[.string s,ι (m:Int)] w fun e w'=>e=ώ (.tuple #[ι ((i7 s.data.toList m).1:Int),ι ((i7 s.data.toList m).2.1:Int),ι (i7 s.data.toList m).2.2])∧w=w':=by
 have hN:=aal s;have hf:=Na s.data.toList;unfold i7;obtain⟨⟨a,b,c⟩,hq⟩:∃q,gz s.data.toList=q:=⟨_,rfl⟩;rw[hq] at hf;simp only[hq] at hN ⊢;have HN:=δ hN;clear hN;simp only at hf
 obtain⟨Pd,Ab,vY,GH⟩:=hf;by_cases hc:c=0
 ·subst hc
  by_cases hle:a≤m
  ·rw[π rfl,π hle]
   exact TB
  ·rw[π rfl,ν hle]
   exact TB
 ·rw[ν hc]
  exact TB
theorem ak {P:Prop} (h:P:=by rfl):P:=h
def letter (c:UInt8):Bool:=decide (97≤c.toNat∧c.toNat≤122)
theorem IQ (s:List UInt8):oq s=(decide (1≤s.length∧s.length≤8) && s.all letter):=rfl
theorem Q0 {s:List UInt8} {p:UInt8→Bool} {k:Nat} (hk:k<s.length) (h:(s.take k).all p=true) (h2:p (s.getD k 0)=true):(s.take (k+1)).all p=true:=by
 rw[ia hk,List.all_append,h];rw[bN,bu hk] at h2;simpa using h2
theorem all_false {s:List UInt8} {p:UInt8→Bool} {k:Nat} (hk:k<s.length) (h2:p (s.getD k 0)=false):s.all p=false:=by
 rw[bN,bu hk] at h2;rw[List.all_eq_false];exact⟨s[k],eE hk,by simpa using h2⟩
theorem Of {P:Prop} (h:P:=by
 have KD:B=false:=by
  rw[← HB.out.1,IQ,all_false (k:=k) (by rw[HB.out.2];exact hlt) (by unfold letter;rw[pe];simp;omega),Bool.and_false]
 subst KD;clear pe;go_wp2_with fail
 go_ret
 exact⟨rfl,rfl⟩):P:=h
theorem TC {P:Prop} (h:P:=by
 go_wp2_with fail
 go_round
 case rel=>exact⟨k+1,oM,by go_num,HL.out⟩
 case measure=>simp[intOf]<;>omega):P:=h
theorem ab_ {P:Prop} (h:P:=by
 have HL:=δ (Q0 (by rw[HB.out.2];exact hlt) HA.out (by unfold letter;rw[pe];simp;omega));clear pe;exact TC):P:=h
theorem aa2 (s:ByteArray) (hs:s.size≤1000000) (w:World) :
 ς 142 #[.string s] w fun e w'=>e=ώ (.bool (oq s.data.toList))∧w=w':=by
 have hlen:s.data.toList.length=s.size:=gZ
 obtain⟨B,hB⟩:=μ (oq s.data.toList);rw[hB];have HB:=τ hB hlen;clear hB hlen;go_enter func142,ntmps142
 go_wp2_with fail
 go_loop [3,6] (fun _ i=>∃k:Nat,k≤s.size∧i=ι (k:Int)∧(s.data.toList.take k).all letter=true) (fun _ i=>s.size - (intOf i).toNat)
 case atStart=>exact⟨0,oM,rfl,rfl⟩
 case round =>
  obtain⟨k,hk,rfl,hall⟩:=hrel;have HA:=δ hall;clear hall;by_cases hlt:k<s.size
  ·have j1:(k:Int)<(s.size:Int):=oM
   have pe:=qw s k hlt;by_cases h1:(s[k]).toNat<97
   ·exact Of
   ·by_cases h2:122<(s[k]).toNat
    ·exact Of
    ·exact ab_
  ·obtain rfl:k=s.size:=oM
   have aD:B=decide (1≤s.size∧s.size≤8):=by
    have ha:=HA.out;rw[dV (by rw[HB.out.2];omega)] at ha;rw[← HB.out.1,IQ,ha,HB.out.2,AX]
   have kG:=δ aD;clear aD hlt hk;by_cases h1:(1:Int)≤(s.size:Int)
   ·by_cases h2:(s.size:Int)≤8
    ·obtain rfl:B=true:=by rw[kG.out];simp;omega
     go_wp2_with fail
     go_ret
     exact⟨rfl,rfl⟩
    ·obtain rfl:B=false:=by rw[kG.out];simp;omega
     go_wp2_with fail
     go_ret
     exact⟨rfl,rfl⟩
   ·obtain rfl:B=false:=by rw[kG.out];simp;omega
    go_wp2_with fail
    go_ret
    exact⟨rfl,rfl⟩
theorem agE {l:List UInt8} {c:UInt8} (h:l.all (· != c)=true):Lib.indexByte l c=-1:=by
 induction l with
 | nil=>rfl
 | cons b r ih =>
   simp only[sV,gV,kq] at h;unfold Lib.indexByte;rw[ν (by simpa using h.1),ih (by simpa using h.2)];rfl
theorem agF {l:List UInt8} {c:UInt8} : Lib.indexByte l c<0↔l.all (· != c)=true:=by
 constructor
 ·intro h
  induction l with
  | nil=>rfl
  | cons b r ih =>
    unfold Lib.indexByte at h;by_cases e:b=c
    ·rw[π (by simpa using e)] at h
     omega
    ·rw[ν (by simpa using e)] at h
     have hg:=Lib.indexByte_ge r c;by_cases e2:Lib.indexByte r c=-1
     ·have:=ih oM
      simp[e]
      simpa using this
     ·rw[ν (by simpa using e2)] at h
      omega
 ·intro h
  rw[agE h];decide
theorem Rf (b:UInt8) (r:List UInt8):i_ (b::r)=if b=47 then [] else b::i_ r:=by
 unfold i_;rw[List.takeWhile_cons];by_cases e:b=47
 ·rw[π e,e]
  rfl
 ·rw[ν e,π (by simpa using e)]
theorem agx (l:List UInt8):Lib.indexByte l 47=if (i_ l).length<l.length then ((i_ l).length:Int) else -1:=by
 induction l with
 | nil=>rfl
 | cons b r ih =>
   rw[Rf];unfold Lib.indexByte;by_cases e:b=47
   ·rw[π (by simpa using e),π e]
    simp
   ·rw[ν (by simpa using e),ih,ν e,eZ,eZ]
    by_cases h:(i_ r).length<r.length
    ·rw[π h,ν sM,π oM]
     omega
    ·rw[ν h,π ak,ν oM]
theorem agy {α : Type} (p : α → Bool) (l:List α):l.takeWhile p=l.take (l.takeWhile p).length:=by
 induction l with
 | nil=>rfl
 | cons b r ih =>
   rw[List.takeWhile_cons];split
   ·rw[eZ,y8,← ih]
   ·rfl
theorem ahx (l:List UInt8):i_ l=l.take (i_ l).length:=agy _ l
theorem amA (s:ByteArray) (hs:s.size≤1000000) (w:World) :
 ς 190 #[.string s] w fun e w'=>e=ώ (.bool (ur s.data.toList))∧w=w':=by
 have hlen:s.data.toList.length=s.size:=gZ
 have hK:ur s.data.toList=(decide (1≤s.size∧s.size≤24) && (decide (Lib.indexByte s.data.toList 0<0) && decide (Lib.indexByte s.data.toList 47<0))):=by
  unfold ur;rw[hlen];congr 1
  rw[y9];simp only[gV,eD,agF,XY,kq];constructor
  ·intro h
   exact⟨fun x hx=>(h x hx).1,fun x hx=>(h x hx).2⟩
  ·rintro⟨h1,h2⟩ x hx
   exact⟨h1 x hx,h2 x hx⟩
 have h0:=fun W=>strings_IndexByte s 0 W
 have h47:=fun W=>strings_IndexByte s 47 W
 rw[show (0:Int).toNat.toUInt8=0 from rfl] at h0;rw[show (47:Int).toNat.toUInt8=47 from rfl] at h47;obtain⟨i0,bx⟩:∃i,Lib.indexByte s.data.toList 0=i:=⟨_,rfl⟩;obtain⟨i1,hi1⟩:∃i,Lib.indexByte s.data.toList 47=i:=⟨_,rfl⟩;rw[bx,hi1] at hK;rw[bx] at h0;rw[hi1] at h47;rw[hK];have H0:=δ h0;have H1:=δ h47;clear h0 h47 bx hi1 hK hlen;have fin:∀B:Bool,(decide (1≤s.size∧s.size≤24) && (decide (i0<0) && decide (i1<0)))=B→ς 190 #[.string s] w fun e w'=>e=ώ (.bool B)∧w=w':=by
  intro B hB;have HB:=δ hB;clear hB;go_enter func190,ntmps190
  by_cases h1:(1:Int)≤(s.size:Int)
  ·by_cases h2:(s.size:Int)≤24
   ·by_cases h3:i0<0
    ·by_cases h4:i1<0
     ·obtain rfl:true=B:=by rw[← HB.out];simp[h3,h4];omega
      go_wp2_with (fail)
      refine(H0.out _).mono ?_;rintro e w1 ⟨rfl,rfl⟩;go_wp2_with (fail)
      refine(H1.out _).mono ?_;rintro e w1 ⟨rfl,rfl⟩;go_wp2_with (fail)
      go_ret
      exact⟨rfl,rfl⟩
     ·obtain rfl:false=B:=by rw[← HB.out];simp[h3,h4]
      go_wp2_with (fail)
      refine(H0.out _).mono ?_;rintro e w1 ⟨rfl,rfl⟩;go_wp2_with (fail)
      refine(H1.out _).mono ?_;rintro e w1 ⟨rfl,rfl⟩;go_wp2_with (fail)
      go_ret
      exact⟨by simp[h4],rfl⟩
    ·obtain rfl:false=B:=by rw[← HB.out];simp[h3]
     go_wp2_with (fail)
     refine(H0.out _).mono ?_;rintro e w1 ⟨rfl,rfl⟩;go_wp2_with (fail)
     go_ret
     exact⟨rfl,rfl⟩
   ·obtain rfl:false=B:=by rw[← HB.out];simp;omega
    go_wp2_with fail
    go_ret
    exact⟨rfl,rfl⟩
  ·obtain rfl:false=B:=by rw[← HB.out];simp;omega
   go_wp2_with fail
   go_ret
   exact⟨rfl,rfl⟩
 exact fin _ rfl
def Gb (s:ByteArray):Value:=if (i_ s.data.toList).length<s.data.toList.length then .tuple #[.string (s.extract 0 (i_ s.data.toList).length),.string (s.extract ((i_ s.data.toList).length+1) s.size),.bool true] else .tuple #[.string s,.string ByteArray.empty,.bool false]
theorem aly (s:ByteArray) (hs:s.size≤1000000) (w:World) :
 ς 224 #[.string s,.string ⟨#[47]⟩] w fun e w'=>e=ώ (Gb s)∧υ w w':=by
 have hlen:s.data.toList.length=s.size:=gZ
 have hi:=fun W=>stringslite_Index_one s 47 W
 unfold Gb;rw[agx,hlen] at hi;rw[hlen];obtain⟨n,hn⟩:=μ (i_ s.data.toList).length;rw[hn] at hi ⊢;clear hn hlen;by_cases h:n<s.size
 ·rw[π h] at hi ⊢
  have HI:=δ hi;clear hi;have k1:(n:Int)<(s.size:Int):=oM;have k2:IntKind.i64.wrap ((n:Int)+1)=(n:Int)+1:=cZ _ oM;have k3:(0:Int)≤(n:Int):=oM;go_enter func224,ntmps224
  go_wp2_with fail
  refine(HI.out _).mono ?_;rintro e w1 ⟨rfl,rfl⟩;go_wp2_with fail
  go_quiet (fail)
  go_wp2_with fail
  go_ret3
  exact⟨rfl,(ζ.refl _ _).drewN _⟩
 ·rw[ν h] at hi ⊢
  have HI:=δ hi;clear hi;go_enter func224,ntmps224
  go_wp2_with fail
  refine(HI.out _).mono ?_;rintro e w1 ⟨rfl,rfl⟩;go_wp2_with fail
  go_ret3
  exact⟨rfl,ζ.refl _ _⟩
theorem amB (s:ByteArray) (hs:s.size≤1000000) (w:World) :
 ς 189 #[.string s,.string ⟨#[47]⟩] w fun e w'=>e=ώ (Gb s)∧υ w w':=by
 have hc:=fun W=>aly s hs W
 obtain⟨a,b,c,h⟩:∃a b c,Gb s=.tuple #[.string a,.string b,.bool c]:=by
  unfold Gb;split
  ·exact⟨_,_,_,rfl⟩
  ·exact⟨_,_,_,rfl⟩
 rw[h] at hc ⊢;have H:=δ hc;clear hc h;go_enter func189,ntmps189
 go_wp2_with fail
 refine(H.out _).mono ?_;rintro e w1 ⟨rfl,hU⟩;have HU:=δ hU;clear hU;go_wp2_with fail
 go_ret3
 exact⟨rfl,HU.out⟩
theorem abw (s:ByteArray) (hs:s.size≤1000000) (w:World) :
 ς 134 #[.string s] w fun e w'=>e=ώ (.tuple #[.string (str (nE s.data.toList).1),.string (str (nE s.data.toList).2.1),.bool (jF s.data.toList)])∧υ w w':=by
 have hlen:s.data.toList.length=s.size:=gZ
 have hc:=fun W=>amB s hs W
 have hpre:=ahx s.data.toList;unfold jF nE;unfold Gb at hc;rw[hlen] at hc ⊢;obtain⟨H,hH⟩:=μ (i_ s.data.toList);rw[hH] at hc hpre ⊢;obtain⟨n,hn⟩:=μ H.length;rw[hn] at hc hpre ⊢;by_cases h:n<s.size
 ·rw[π h] at hc
  have ea:(s.extract 0 n).data.toList=H:=by rw[hpre];simp
  have eb:(s.extract (n+1) s.size).data.toList=s.data.toList.drop (n+1):=by
   simp only[ByteArray.data_extract,Array.toList_extract,List.extract_eq_take_drop];rw[dV (by rw[jC,hlen];omega)]
  obtain⟨a,ha⟩:=μ (s.extract 0 n);obtain⟨b,hb⟩:=μ (s.extract (n+1) s.size);rw[ha] at ea hc;rw[hb] at eb hc;have hna:=fun W=>aa2 a (by rw[← ha];simp;omega) W
  have hkb:=fun W=>amA b (by rw[← hb];simp;omega) W
  rw[← ea,← eb];obtain⟨A,hA⟩:=μ (oq a.data.toList);obtain⟨B,hB⟩:∃A,ur b.data.toList=A:=⟨_,rfl⟩;rw[hA] at hna ⊢;rw[hB] at hkb ⊢;have HC:=δ hc;have HN:=δ hna;have HK:=δ hkb;have Hh:=δ h;clear hc hna hkb ha hb hA hB ea eb hH hn hpre hlen h;have step:∀R:Value,R=(if A && B then Value.tuple #[.string a,.string b,.bool true] else .tuple #[.string ByteArray.empty,.string ByteArray.empty,.bool false])→ς 134 #[.string s] w fun e w'=>e=ώ R∧υ w w':=by
   intro R hR;have HR:=δ hR;clear hR;go_enter func134,ntmps134
   go_wp2_with fail
   refine(HC.out _).mono ?_;rintro e w1 ⟨rfl,hU⟩;have HU:=δ hU;clear hU;go_wp2_with fail
   refine(HN.out _).mono ?_;rintro e w2 ⟨rfl,rfl⟩;cases A
   ·obtain rfl:=HR.out
    go_wp2_with fail
    go_ret3
    exact⟨rfl,HU.out⟩
   ·go_wp2_with fail
    refine(HK.out _).mono ?_;rintro e w2 ⟨rfl,rfl⟩;cases B
    ·obtain rfl:=HR.out
     go_wp2_with fail
     go_ret3
     exact⟨rfl,HU.out⟩
    ·obtain rfl:=HR.out
     go_wp2_with fail
     go_ret3
     exact⟨rfl,HU.out⟩
  refine(step _ rfl).mono ?_;rintro e w' ⟨rfl,hU⟩;refine⟨?_,hU⟩;cases A
  ·simp[Hh.out];rfl
  ·cases B
   ·simp[Hh.out];rfl
   ·simp[Hh.out,FJ]
 ·rw[ν h] at hc
  have HC:=δ hc;clear hc hpre hn hH;rw[ν oM];go_enter func134,ntmps134
  go_wp2_with fail
  refine(HC.out _).mono ?_;rintro e w1 ⟨rfl,hU⟩;have HU:=δ hU;clear hU;go_wp2_with fail
  go_ret3
  exact⟨rfl,HU.out⟩
theorem tA {P:Prop} (h:P:=by simpa using hi):P:=h
theorem η.xL {w:World} {g:Nat} {t:TypeId} {a b c d e f:Value} (k:η w g t #[a,b,c,d,e,f]):w.cell? ⟨g,0,none⟩=some a∧w.cell? ⟨g,1,none⟩=some b∧w.cell? ⟨g,2,none⟩=some c∧w.cell? ⟨g,3,none⟩=some d∧w.cell? ⟨g,4,none⟩=some e∧w.cell? ⟨g,5,none⟩=some f :=
 ⟨k.cell 0,k.cell 1,k.cell 2,k.cell 3,k.cell 4,k.cell 5⟩
section
variable {P:Program} {ops:Array Oper} {rest:List Oper} {o:Oper} {a:Act} {w:World} {Q:Exit→Act→World→Prop} {K:Act→World→Prop}
theorem η.range {g:Nat} {t:TypeId} {cs:Array Value} (h:η w g t cs) (i:Nat) (vs:List Value) (hv:∀j v,vs[j]? = some v→cs[i+j]? = some v):w.rangeAt g i vs:=fun j v e=>by
 rw[h.cell];exact hv j v e
theorem η.amC {g:Nat} {t:TypeId} {cs:Array Value} (h:η w g t cs) (i n:Nat) (hn:i+n≤cs.size):w.there g i n:=fun j hj=>by
 refine⟨?_,h.frozen _⟩;rw[h.cell,QG oM];rfl
theorem ζ.Zt (g:Nat):∀(vs:List Value) (i:Nat) (w:World),ζ (· = g) w (w.setCells g i vs)∧(w.setCells g i vs).heap.size=w.heap.size
 | [],_,w=>⟨ζ.refl _ _,rfl⟩
 | v::r,i,w=>by
   have h1:=(ζ.refl (· = g) w).setCell (p:=⟨g,i,none⟩) (.inl rfl) v;obtain⟨h2,h3⟩:=ζ.Zt g r (i+1) (w.setCell ⟨g,i,none⟩ v);refine⟨h1.then h2 (fun _ e=>.inl e),?_⟩;rw[World.setCells,h3];simp
theorem η.setCells {g:Nat} {t:TypeId} : ∀(vs:List Value) (i:Nat) (w:World) (cs:Array Value),η w g t cs→i+vs.length≤cs.size→η (w.setCells g i vs) g t (cs.toList.take i++vs++cs.toList.drop (i+vs.length)).toArray
 | [],i,w,cs,h,hi=>by
   simp only[y7,AV,sU,AQ];exact h
 | v :: r,i,w,cs,h,hi=>by
   rw[World.setCells];have hi':i<cs.size:=by simp at hi;omega
   have:=η.setCells r (i+1) _ _ (h.bE i v) (by simp at hi ⊢;omega);have e:(cs.setIfInBounds i v).toList.take (i+1)++r++(cs.setIfInBounds i v).toList.drop (i+1+r.length)=cs.toList.take i++(v::r)++cs.toList.drop (i+(v::r).length):=by
    rw[XS,List.drop_set_of_lt oM,List.take_set,ia (by simpa using hi')];have hl:(cs.toList.take i).length=i:=by rw[iW,xo];omega
    rw[Iq _ _ oM,hl,Ir];simp[Nat.add_comm,Nat.add_left_comm]
   rw[e] at this;exact this
theorem Q1 (ty:TypeId) (x y:Operand) (ho:o.op=.store ty x y) (g i:Nat) (vs:Array Value) (hx:a.eval x=.pointer (some ⟨g,i,none⟩)) (hy:a.eval y=.agg vs)
 (t:TypeId) (cs new:Array Value) (hB:η w g t cs) (hi:i+vs.size≤cs.size) (hn:cs.toList.take i++vs.toList++cs.toList.drop (i+vs.size)=new.toList) (h1:vs.all (·.oneCell')=true) (hsz:(P.info? ty).map (·.size)=some vs.size)
 (h:∀w',η w' g t new→ζ (· = g) w w'→w'.heap.size=w.heap.size→K (a.put o.dst undef) w'):o.wp P a w K Q:=by
 refine wp_store_mid ty x y ho g i vs hx hy (hB.amC i _ hi) hsz h1 ?_;obtain⟨u1,u2⟩:=ζ.Zt g vs.toList i w;refine h _ ?_ u1 u2;have:=η.setCells vs.toList i w cs hB tA;rw[xo,hn] at this;exact this
theorem ze (hg:o.guard=none) (ty:TypeId) (x y:Operand) (ho:o.op=.store ty x y) (g i:Nat) (vs:Array Value) (hx:a.eval x=.pointer (some ⟨g,i,none⟩)) (hy:a.eval y=.agg vs)
 (t:TypeId) (cs new:Array Value) (hB:η w g t cs) (hi:i+vs.size≤cs.size) (hn:cs.toList.take i++vs.toList++cs.toList.drop (i+vs.size)=new.toList) (h1:vs.all (·.oneCell')=true) (hsz:(P.info? ty).map (·.size)=some vs.size)
 (h:∀w',η w' g t new→ζ (· = g) w w'→w'.heap.size=w.heap.size→wpList P ops Q rest (a.put o.dst undef) w'):wpList P ops Q (o::rest) a w :=
 Mf hg fun _ hK=>Q1 ty x y ho g i vs hx hy t cs new hB hi hn h1 hsz fun w' b1 b2 b3=>hK _ _ (h w' b1 b2 b3)
theorem rV (hg:o.guard=none) (ty:TypeId) (x:Operand) (ho:o.op=.load ty x) (g i:Nat) (hx:a.eval x=.pointer (some ⟨g,i,none⟩)) (t:TypeId) (cs:Array Value) (vs:List Value) (d:TypeDesc)
 (hB:η w g t cs) (hv:∀j v,vs[j]? = some v→cs[i+j]? = some v) (hu:P.underlying ty=some d) (hd:d.isRow=true) (hi:(P.info? ty).map (·.size)=some vs.length)
 (h:wpList P ops Q rest (a.put o.dst (.agg vs.toArray)) w):wpList P ops Q (o::rest) a w :=
 ve hg ty x ho g i hx vs d (hB.range i vs hv) hu hd hi h
theorem Yr {E:Prop} (hg:o.guard=none) (ty:TypeId) (x y:Operand) (ho:o.op=.store ty x y) (g i:Nat) (vs:Array Value) (hx:a.eval x=.pointer (some ⟨g,i,none⟩)) (hy:a.eval y=.agg vs)
 (t:TypeId) (cs new:Array Value) (hB:η w g t cs) (hi:i+vs.size≤cs.size) (hn:cs.toList.take i++vs.toList++cs.toList.drop (i+vs.size)=new.toList) (h1:vs.all (·.oneCell')=true) (hsz:(P.info? ty).map (·.size)=some vs.size)
 (h:∀w',η w' g t new→ζ (· = g) w w'→w'.heap.size=w.heap.size→K (a.put o.dst undef) w'):if Region.wanted o (yielded ops a.tmps)=true then Oper.wp P o a w K Q else E:=by
 have hw:Region.wanted o (yielded ops a.tmps)=true:=by simp[Region.wanted,hg]
 rw[π hw];exact Q1 ty x y ho g i vs hx hy t cs new hB hi hn h1 hsz h
theorem agz {E:Prop} (hg:o.guard=none) (ty:TypeId) (x y:Operand) (ho:o.op=.store ty x y) (g i:Nat) (v:Value) (hx:a.eval x=.pointer (some ⟨g,i,none⟩)) (hy:a.eval y=v)
 (t:TypeId) (cs new:Array Value) (hB:η w g t cs) (hi:i<cs.size) (hn:cs.setIfInBounds i v=new) (h1:v.oneCell'=true) (hsz:(P.info? ty).map (·.size)=some 1)
 (h:∀w',η w' g t new→ζ (· = g) w w'→w'.heap.size=w.heap.size→K (a.put o.dst undef) w'):if Region.wanted o (yielded ops a.tmps)=true then Oper.wp P o a w K Q else E:=by
 have hw:Region.wanted o (yielded ops a.tmps)=true:=by simp[Region.wanted,hg]
 rw[π hw];subst hn;exact nw ty x y ho g i v hx hy t cs hB hi h1 hsz h
end
end
end Go.Proofs.YtbhjgfibhegddaaGreat
