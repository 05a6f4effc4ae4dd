/-
  Parts of the proof of VaultPlays: Little, Sum, Shelf, Close, PackA, PackB, PathA, Part.
-/
import Derived.Test.YtbhjgfibhegddaaGreatQVaultPlays01
import Derived.Deep.Light
import Derived.Deep.MidRow
import Derived.Deep.RegionWith
import Derived.Ground.Names2Prog
import Derived.Shelf.Bits.Mul64
import Derived.Shelf.LaysM
import Derived.Shelf.Slices.Clone
import Derived.Shelf.Slices.In.SortNone
import Derived.Shelf.Small.Bits
import Derived.Shelf.Small.Strs
import Derived.Shelf.Sort.Plain
import Derived.Shelf.Strconv.Itoa0
import Derived.Shelf.Strings.Builder1
import Derived.Shelf.Strings.Builder2
import Derived.Shelf.Strings.BuilderF
import Derived.Shelf.Strings.BuilderK
import Derived.Shelf.Strings.Count
import Derived.Shelf.Strings.Cut
import Derived.Shelf.Strings.Prefix
import Derived.Shelf.Strings.Repeat
import Derived.Shelf.Strings.Search1
import Derived.Shelf.Strings.Search2
import Derived.Shelf.Strings.Search3
import Derived.Shelf.Strings.Shaped
import Derived.Test.YtbhjgfibhegddaaGreatProg
set_option maxRecDepth 100000
set_option maxHeartbeats 16000000
namespace Go.Proofs.YtbhjgfibhegddaaGreat
abbrev T4:=@Nat.pow_add
abbrev je:=@Go.info_parts
abbrev T5:=@Go.IntKind.wrap_u32'
abbrev nX:=@Go.RowKit.Below.refl
abbrev cy:=@Go.bodyPost_ret
abbrev jx:=@Go.results_cell_row
abbrev aaS:=@Go.World.cell?_alloc_new
abbrev dH:=@List.take_of_length_le
abbrev JU:=@List.take_append_of_le_length
abbrev eV:=@beq_eq_false_iff_ne
abbrev aaT:=@ByteArray.size_extract
abbrev jZ:=@bne_iff_ne
abbrev aaU:=@Int.toNat_natCast
abbrev bX:=@Go.IntWalk.i64_in
abbrev pN:=@List.drop_of_length_le
abbrev eM:=@List.getElem_mem
abbrev y6:=@Bool.and_true
abbrev rN:=@List.all_cons
abbrev AY:=@List.take_succ_cons
abbrev vH:=@Bool.eq_iff_iff
abbrev T7:=@List.all_eq_true
abbrev Fs:=@List.set_append_right
abbrev Dn:=@Nat.sub_self
abbrev uc:=@Go.wpList_load_mid
open Tryz
structure Τe where
instance:CoeFun Τe (fun _=>Go.FuncId→Array Go.Value→Go.World→(Go.Ending→Go.World→Prop)→Prop):=⟨fun _=>Go.Calls Tryz.prog⟩
def ς:Τe:=⟨⟩
section
open Go Go.RowKit
def aK (l:List UInt8):List Value:=l.map fun b=>Value.int .u8 b.toNat
theorem qM (a b:List UInt8):aK (a++b)=aK a++aK b:=by simp[aK]
theorem sR (a:List UInt8):(aK a).length=a.length:=by simp[aK]
theorem Bg (l:List UInt8):∀u ∈ aK l,u.oneCell'=true:=by
 intro u hu;obtain⟨_,_,rfl⟩:=bZ.1 hu;rfl
def leB (x:Nat) (n:Nat):List UInt8:=(List.range n).map fun i=>UInt8.ofNat (x / 2 ^ (8*i))
theorem oK (x n:Nat):(leB x n).length=n:=by simp[leB]
theorem V6 (x n:Nat):leB x (n+1)=leB x n++[UInt8.ofNat (x / 2 ^ (8*n))]:=by simp[leB,List.range_succ]
theorem Gz (y:Nat):(((UInt8.ofNat y).toNat:Nat):Int)=(y:Int) % 256:=by simp
theorem adp (x n:Nat):aK (leB x (n+1))=aK (leB x n)++[ϋ ((x:Int) / 2 ^ (8*n) % 256)]:=by
 rw[V6,qM];rw[show aK [UInt8.ofNat (x / 2 ^ (8*n))]=[ϋ ((x:Int) / 2 ^ (8*n) % 256)] from by simp only[aK,jY,yZ];rw[Gz];simp]
def dx:List UInt8→Nat
 | []=>0
 | b::l=>b.toNat+256*dx l
theorem WE (a:List UInt8) (b:List UInt8):dx (a++b)=dx a+2 ^ (8*a.length)*dx b:=by
 induction a with
 | nil=>simp[dx]
 | cons x a ih =>
   simp only[oF,dx,ih,eS];have:2 ^ (8*(a.length+1))=256*2 ^ (8*a.length):=by rw[Dh,T4];omega
   rw[this,Dh,Nat.mul_assoc];omega
theorem K6 (l:List UInt8):dx l<2 ^ (8*l.length):=by
 induction l with
 | nil=>simp[dx]
 | cons x l ih =>
   have hx:=x.toNat_lt;simp only[dx,eS];have:2 ^ (8*(l.length+1))=256*2 ^ (8*l.length):=by rw[Dh,T4];omega
   omega
theorem Gh (x n:Nat) (h:x<2 ^ (8*n)):dx (leB x n)=x:=by
 have key:∀n,dx (leB x n)=x % 2 ^ (8*n):=by
  intro n;induction n with
  | zero=>simp[leB,dx,Nat.mod_one]
  | succ n ih =>
    rw[V6,WE,ih,oK];have e:2 ^ (8*(n+1))=2 ^ (8*n)*256:=by rw[Dh,T4]
    rw[e,Nat.mod_mul];simp[dx]
 rw[key,Nat.mod_eq_of_lt h]
theorem acu (a b k:Nat) (ha:a<2 ^ (8*k)) (hb:b<256) (hk:k<8):bits .or .u64 (a:Int) (((b*2 ^ (8*k):Nat):Int))=((a+2 ^ (8*k)*b:Nat):Int):=by
 have h8:2 ^ (8*k)≤2 ^ 56:=yU oM oM;have bn:b*2 ^ (8*k)≤255*2 ^ 56:=Nat.mul_le_mul oM h8;rw[u64_or_nat a _ oM oM,Nat.or_comm,nat_join (8*k) _ _ (Nat.mul_mod_left _ _) ha,JO b,TS]
theorem le_step (l:List UInt8) (k:Nat) (y:UInt8) (hk:k<8) (hl:l.length=k):bits .or .u64 (dx l:Int) (IntKind.u64.wrap (IntKind.u64.wrap (y.toNat:Int)*2 ^ (8*k)))=(dx (l++[y]):Int):=by
 have hy:=y.toNat_lt;have h8:2 ^ (8*k)≤2 ^ 56:=yU oM oM;have bn:y.toNat*2 ^ (8*k)≤255*2 ^ 56:=Nat.mul_le_mul oM h8;have w64:∀z:Nat,z<18446744073709551616→IntKind.u64.wrap (z:Int)=(z:Int):=by
  intro z hz;simp only[IntKind.wrap,IntKind.bits,IntKind.signed];simp
  omega
 rw[w64 _ oM];have e:((y.toNat:Int)*2 ^ (8*k))=((y.toNat*2 ^ (8*k):Nat):Int):=by push_cast;rfl
 rw[e,w64 _ oM];have hlt:=K6 l;rw[hl] at hlt;rw[acu _ _ k hlt oM hk,WE,hl];simp[dx]
theorem Bv:(prog.info? 5).map (fun i=>(i.zero,i.size,i.bytes))=some (some (ϋ 0),1,1):=kR
theorem US (s:ByteArray) (k:Nat) (h:k<s.size):s.data.toList.take (k+1)=s.data.toList.take k++[s[k]]:=by
 rw[gX (by simpa using h)];rfl
theorem NU {A P:Prop} (f:A) (h:A→P:=by
 intro H;clear H;obtain⟨i0,bx,bN,bG,aT⟩:=je Bv;first| go_enter func205,ntmps205 | go_enter func223,ntmps223 | go_enter func171,ntmps171
 go_wp2_with fail
 go_loopw [0,9] (fun u i wr=>∃k:Nat,k≤n∧i=ι k∧Own wr 5 1 u (m+k) (xs++aK (leB x k))∧ζ (fun k=>v.ownBlock=some k) w wr∧(u.ownBlock=v.ownBlock∨∃q,u.ownBlock=some q∧w.heap.size≤q)) (fun _ i _=>n - (intOf i).toNat)
 case atStart=>exact⟨0,oM,rfl,by simpa [leB,aK] using hown,ζ.refl _ _,.inl rfl⟩
 case round =>
  obtain⟨k,hk,rfl,ho,hU,hl⟩:=hrel;clear hown;by_cases hlt:k<n
  ·have HX:=τ hU hl
   clear hU hl;go_wp2_with (at_builtin;refine jH rfl _ _ _ _ rfl 5 i0 _ 1 1 underlying89 bx bN bG aT rfl u0 (m+k) _ rfl (ho.alloc _) _ 1 [_] rfl (Src.zi underlying89 _) (by simp[Value.oneCell']) (by unfold maxLen;omega) oM ?_;intro v2 w2 kL π hl2 bV);obtain⟨hU,hl⟩:=HX.out;go_roundw
   case rel =>
    refine⟨k+1,oM,by go_num,?_,(hU.alloc _).then π (fun b hb=>?_),?_⟩
    ·rw[adp,← dQ];exact kL
    ·rcases hl with h | ⟨q,h,hq⟩
     ·exact .inl (by rw[← h];exact hb)
     ·rw[h] at hb;exact .inr (oN (dw hb))
    ·have hsz:=hU.size
     rcases hl2 with h | h
     ·rw[h];exact hl
     ·exact .inr ⟨_,h,by simp;omega⟩
   case measure=>simp[intOf];omega
  ·obtain rfl:k=n:=oM
   go_wp2
   go_ret
   exact⟨u0,rfl,ho,hU,hl⟩):P:=h f
theorem NV {A P:Prop} (f:A) (h:A→P:=by
 intro H;clear H;first| go_enter func91,ntmps91 | go_enter func216,ntmps216 | go_enter func207,ntmps207
 go_wp2_with fail
 go_loop [4,7] (fun x i=>∃k:Nat,k≤n∧i=ι k∧x=ω (dx (s.data.toList.take k):Int)) (fun _ i=>n - (intOf i).toNat)
 case atStart=>exact⟨0,oM,rfl,rfl⟩
 case round =>
  obtain⟨k,hk,rfl,rfl⟩:=hrel;by_cases hlt:k<n
  ·have hlt':k<s.size:=oM
   go_wp2
   go_round
   case rel =>
    refine⟨k+1,oM,by go_num,?_⟩;rw[US s k hlt',le_step _ k _ oM (by simp;omega)]
   case measure=>simp[intOf];omega
  ·obtain rfl:k=n:=oM
   go_wp2
   go_ret
   exact⟨rfl,rfl⟩):P:=h f
theorem abk (v:Value) (m:Nat) (xs:List Value) (x n:Nat) (w:World) (hown:Own w 5 1 v m xs) (hn:n≤8) (hm:m≤1000000) :
 ς 205 #[v,ω (x:Int),ι (n:Int)] w fun e w'=>∃v',e=ώ v'∧Own w' 5 1 v' (m+n) (xs++aK (leB x n))∧ζ (fun k=>v.ownBlock=some k) w w'∧(v'.ownBlock=v.ownBlock∨∃q,v'.ownBlock=some q∧w.heap.size≤q):=by
 exact NU (And.intro hown (And.intro hn hm))
theorem abl (s:ByteArray) (n:Nat) (w:World) (hn:n≤8) (hs:n≤s.size) :
 ς 91 #[.string s,ι (n:Int)] w fun e w'=>e=ώ (ω (dx (s.data.toList.take n):Int))∧w=w':=by
 exact NV (And.intro hn hs)
theorem abm (v:Value) (m:Nat) (xs:List Value) (x n:Nat) (w:World) (hown:Own w 5 1 v m xs) (hn:n≤8) (hm:m≤1000000) :
 ς 223 #[v,ω (x:Int),ι (n:Int)] w fun e w'=>∃v',e=ώ v'∧Own w' 5 1 v' (m+n) (xs++aK (leB x n))∧ζ (fun k=>v.ownBlock=some k) w w'∧(v'.ownBlock=v.ownBlock∨∃q,v'.ownBlock=some q∧w.heap.size≤q):=by
 exact NU (And.intro hown (And.intro hn hm))
theorem abn (s:ByteArray) (n:Nat) (w:World) (hn:n≤8) (hs:n≤s.size) :
 ς 216 #[.string s,ι (n:Int)] w fun e w'=>e=ώ (ω (dx (s.data.toList.take n):Int))∧w=w':=by
 exact NV (And.intro hn hs)
theorem abv (v:Value) (m:Nat) (xs:List Value) (x n:Nat) (w:World) (hown:Own w 5 1 v m xs) (hn:n≤8) (hm:m≤1000000) :
 ς 171 #[v,ω (x:Int),ι (n:Int)] w fun e w'=>∃v',e=ώ v'∧Own w' 5 1 v' (m+n) (xs++aK (leB x n))∧ζ (fun k=>v.ownBlock=some k) w w'∧(v'.ownBlock=v.ownBlock∨∃q,v'.ownBlock=some q∧w.heap.size≤q):=by
 exact NU (And.intro hown (And.intro hn hm))
theorem abw (s:ByteArray) (n:Nat) (w:World) (hn:n≤8) (hs:n≤s.size) :
 ς 207 #[.string s,ι (n:Int)] w fun e w'=>e=ώ (ω (dx (s.data.toList.take n):Int))∧w=w':=by
 exact NV (And.intro hn hs)
def Ih (c:Int):Int:=if bits .and .u32 c 1=1 then bits .xor .u32 (c / 2) 3988292384 else c / 2
def xR:Nat→Int→Int
 | 0,c=>c
 | n+1,c=>Ih (xR n c)
def tb (i:Nat):Int:=xR 4 i
def s7:Array Value:=#[.int .u32 (tb 0),.int .u32 (tb 1),.int .u32 (tb 2),.int .u32 (tb 3),.int .u32 (tb 4),.int .u32 (tb 5),.int .u32 (tb 6),.int .u32 (tb 7),.int .u32 (tb 8),.int .u32 (tb 9),.int .u32 (tb 10),.int .u32 (tb 11),.int .u32 (tb 12),.int .u32 (tb 13),.int .u32 (tb 14),.int .u32 (tb 15)]
theorem adq:s7.size=16:=rfl
theorem V7 (i:Nat) (hi:i<16):s7[i]? = some (.int .u32 (tb i)):=by
 match i,hi with
 | 0,_ | 1,_ | 2,_ | 3,_ | 4,_ | 5,_ | 6,_ | 7,_ | 8,_ | 9,_ | 10,_ | 11,_ | 12,_ | 13,_ | 14,_ | 15,_=>rfl
 | n+16,h=>omega
theorem aeO:s7.all (·.oneCell')=true:=by simp[s7,Value.oneCell']
theorem agy {c:Int} (h:bits .and .u32 c 1=1):Ih c=bits .xor .u32 (c / 2) 3988292384:=by simp[Ih,h]
theorem ahA {c:Int} (h:¬bits .and .u32 c 1=1):Ih c=c / 2:=by simp[Ih,h]
def YB (x:Int):Int:=bits .xor .u32 (x / 16) (tb (bits .and .u32 x 15).toNat)
def Qr (c:Int) (y:UInt8):Int:=YB (YB (bits .xor .u32 c y.toNat))
def wA (l:List UInt8):Int:=l.foldl Qr 4294967295
def Qs (l:List UInt8):Int:=bits .xor .u32 IntKind.u32.max (wA l)
theorem Uv (op:BinOp) (h:op=.xor∨op=.and) (a b:Int):0≤bits op .u32 a b∧bits op .u32 a b<4294967296:=by
 rcases h with rfl | rfl
 ·have e:bits .xor .u32 a b=IntKind.u32.wrap ((BitVec.ofInt 32 a ^^^ BitVec.ofInt 32 b).toNat:Int):=rfl
  rw[e];generalize (BitVec.ofInt 32 a ^^^ BitVec.ofInt 32 b).toNat=n;rw[T5];omega
 ·have e:bits .and .u32 a b=IntKind.u32.wrap ((BitVec.ofInt 32 a &&& BitVec.ofInt 32 b).toNat:Int):=rfl
  rw[e];generalize (BitVec.ofInt 32 a &&& BitVec.ofInt 32 b).toNat=n;rw[T5];omega
def rX (l:List UInt8):Nat:=(Qs l).toNat
theorem WG (l:List UInt8):Qs l=(rX l:Int):=by
 have h:=(Uv .xor (.inl rfl) IntKind.u32.max (wA l)).1;unfold rX;exact(Int.toNat_of_nonneg h).symm
theorem KR (l:List UInt8):rX l<4294967296:=by
 have h:=(Uv .xor (.inl rfl) IntKind.u32.max (wA l));have e:=WG l;unfold Qs at e;omega
theorem adr (l:List UInt8) (y:UInt8):wA (l++[y])=Qr (wA l) y:=by simp[wA]
theorem nib (x:Int):0≤bits .and .u32 x 15∧bits .and .u32 x 15<16:=by
 have h:bits .and .u32 x 15=IntKind.u32.wrap ((BitVec.ofInt 32 x &&& BitVec.ofInt 32 15).toNat:Int):=rfl;have h2:(BitVec.ofInt 32 x &&& BitVec.ofInt 32 15).toNat<16:=by
  rw[BitVec.toNat_and];have:(BitVec.ofInt 32 15).toNat=15:=rfl;rw[this];exact Nat.lt_of_le_of_lt Nat.and_le_right oM
 rw[h];generalize (BitVec.ofInt 32 x &&& BitVec.ofInt 32 15).toNat=n at h2;rw[T5];omega
theorem ads (s:ByteArray) (k:Nat) (h:k<s.size):s.data.toList.take (k+1)=s.data.toList.take k++[s[k]]:=by
 rw[gX (by simpa using h)];rfl
theorem abU {vs:Array Value} (h:vs.size=16) (hall:∀j,j<16→vs[j]? = some (.int .u32 (tb j))):vs=s7:=by
 apply Array.ext_getElem?
 intro i;by_cases hi:i<16
 ·rw[hall i hi,V7 i hi]
 ·rw[xy oM,xy (by rw[adq];omega)]
theorem agz (w:World) :
 ς 151 #[] w fun e w'=>e=ώ (.agg s7)∧Below w.heap.size w w':=by
 go_enter func151,ntmps151
 go_wp2_with fail
 go_loopw [1,2,3] (fun _ _ i wr=>∃(k:Nat) (vs:Array Value),k≤16∧i=ι k∧η wr w.heap.size 240 vs∧vs.size=16∧(∀j,j<k→vs[j]? = some (.int .u32 (tb j)))∧Below w.heap.size w wr) (fun _ _ i _=>16 - (intOf i).toNat)
 case atStart=>exact⟨0,_,oM,rfl,η.new _ _ _,rfl,oM,(nX _ _).alloc (bQ _) _⟩
 case round =>
  obtain⟨k,vs,hk,rfl,hB,hvs,hall,Qt⟩:=hrel;by_cases hlt:k<16
  ·have ai0:=δ hall
   clear hall;go_wp2_with fail
   obtain⟨wo,rfl⟩:∃wo:World,wo=wr:=⟨_,rfl⟩;go_loop [2,8] (fun c m=>∃(n:Nat),n≤4∧m=ι n∧c=.int .u32 (xR n k)) (fun _ m=>4 - (intOf m).toNat)
   case atStart=>exact⟨0,oM,rfl,rfl⟩
   case round =>
    obtain⟨n,hn,rfl,rfl⟩:=hrel;by_cases pZ:n<4
    ·by_cases Ee:bits .and .u32 (xR n k) 1=1
     ·have ec:(bits .and .u32 (xR n k) 1 == 1)=true:=by simp[Ee]
      have hstep:=δ (agy Ee);clear Ee;go_wp2
      go_round
      case rel=>exact⟨n+1,oM,by go_num,by rw[xR,hstep.out]⟩
      case measure=>simp[intOf];omega
     ·have ec:(bits .and .u32 (xR n k) 1 == 1)=false:=by simp[Ee]
      have hstep:=δ (ahA Ee);clear Ee;go_wp2
      go_round
      case rel=>exact⟨n+1,oM,by go_num,by rw[xR,hstep.out]⟩
      case measure=>simp[intOf];omega
    ·obtain rfl:n=4:=oM
     have hc:=hB.cell k;have hf:=hB.frozen k;rw[NA oM] at hc;go_wp2
     go_roundw
     case rel =>
      refine⟨k+1,vs.setIfInBounds k (.int .u32 (xR 4 k)),oM,by go_num,hB.bE k _,by simpa using hvs,?_,Qt.setCell (bQ _) _⟩;intro j hj;by_cases hjk:j=k
      ·subst hjk
       simp[hvs,hlt,tb]
      ·rw[Array.getElem?_setIfInBounds_ne (mC hjk)]
       exact ai0.out j oM
     case measure=>simp[intOf];omega
  ·obtain rfl:k=16:=oM
   have hv:vs=s7:=abU hvs hall;subst hv;clear hall;go_wp2_with (first|(refine kW rfl _ _ rfl w.heap.size rfl _ s7 _ hB underlying240 rfl rfl ?_)|(refine fk rfl 240 _ _ rfl w.heap.size s7 rfl rfl _ s7 hB rfl aeO kR ?_;intro w2 aB π bV));refine cy (jx rfl _ _ w.heap.size _ s7 _ _ rfl aB underlying240 rfl rfl) rfl ⟨rfl,?_⟩;exact Qt.trans ⟨π.os,π.tape,π.output,π.size,fun b hb=>π.block b (nT hb Qt.size) oM⟩
theorem XI (s:ByteArray) (w:World) (hs:s.size≤9223372036854775807) :
 ς 92 #[.string s] w fun e w'=>e=ώ (.int .u32 (rX s.data.toList:Int))∧Below w.heap.size w w':=by
 go_enter func92,ntmps92
 go_wp2_with fail
 refine(agz _).mono ?_;rintro e w1 ⟨rfl,ec⟩;unfold s7;go_wp2_with fail
 generalize hW:w1.alloc _=W;have hcell:∀i:Nat,i<16→W.cell? ⟨w1.heap.size,i,none⟩=some (.int .u32 (tb i)):=by
  intro i hi;rw[← hW,aaS];exact V7 i hi
 have bn:Below w.heap.size w W:=by rw[← hW];exact ec.alloc ec.size _
 have XJ:=δ hcell;clear hcell hW;go_loop [4,9] (fun c i=>∃k:Nat,k≤s.size∧i=ι k∧c=.int .u32 (wA (s.data.toList.take k))) (fun _ i=>s.size - (intOf i).toNat)
 case atStart=>exact⟨0,oM,rfl,rfl⟩
 case round =>
  obtain⟨k,hk,rfl,rfl⟩:=hrel;by_cases hlt:k<s.size
  ·have HS:Hid (wA (s.data.toList.take (k+1))=Qr (wA (s.data.toList.take k)) s[k]):=by rw[ads s k hlt];exact adr _ _
   generalize wA (s.data.toList.take k)=c' at HS;have hy:((s[k]'hlt).toNat:Int)<256:=by have:=(s[k]'hlt).toNat_lt;omega
   have l1:=nib (bits .xor .u32 c' (s[k]'hlt).toNat);have g1:=XJ.out (bits .and .u32 (bits .xor .u32 c' (s[k]'hlt).toNat) 15).toNat oM;have l2:=nib (bits .xor .u32 (bits .xor .u32 c' (s[k]'hlt).toNat / 16) (tb (bits .and .u32 (bits .xor .u32 c' (s[k]'hlt).toNat) 15).toNat));have g2:=XJ.out (bits .and .u32 (bits .xor .u32 (bits .xor .u32 c' (s[k]'hlt).toNat / 16) (tb (bits .and .u32 (bits .xor .u32 c' (s[k]'hlt).toNat) 15).toNat)) 15).toNat oM;go_wp2
   go_round
   case rel=>exact⟨k+1,oM,by go_num,by rw[HS.out];rfl⟩
   case measure=>simp[intOf];omega
  ·go_wp2
   go_ret
   refine⟨?_,bn⟩;rw[dH (by simp;omega),← WG];rfl
end
end Go.Proofs.YtbhjgfibhegddaaGreat
namespace Go.Proofs
open Go.Shelf
def Tryz.lays169_ren:Go.Shelf.Ren:=⟨fun | 169=>74 | n=>n,fun | 70=>137 | 9=>9 | 0=>0 | 72=>139 | 37=>89 | 127=>226 | 3=>3 | 5=>5 | n=>n,fun | n=>n⟩
theorem Tryz.lays169:Go.Proofs.Lays.n169 Tryz.prog Tryz.lays169_ren := {
 mixed:=by kernel_rfl
 f169:=Tryz.func74.trans (congrArg some (by kernel_rfl))
 t0:=Tryz.underlying0
 a0:=Tryz.isAgg0
 z0:=Tryz.sizeOf0
 v0:=Tryz.zeroValue0
 t3:=Tryz.underlying3
 a3:=Tryz.isAgg3
 z3:=Tryz.sizeOf3
 v3:=Tryz.zeroValue3
 t9:=Tryz.underlying9
 a9:=Tryz.isAgg9
 z9:=Tryz.sizeOf9
 v9:=Tryz.zeroValue9
 t37:=Tryz.underlying89
 a37:=Tryz.isAgg89
 z37:=Tryz.sizeOf89
 v37:=Tryz.zeroValue89
 t70:=Tryz.underlying137
 a70:=Tryz.isAgg137
 z70:=Tryz.sizeOf137
 v70:=Tryz.zeroValue137
 t72:=Tryz.underlying139
 a72:=Tryz.isAgg139
 z72:=Tryz.sizeOf139
 v72:=Tryz.zeroValue139
 t127:=Tryz.underlying226
 a127:=Tryz.isAgg226
 z127:=Tryz.sizeOf226
 v127:=Tryz.zeroValue226 }
theorem Tryz.Builder_Extra_169:Builder.Extra Tryz.prog Tryz.lays169_ren := {
 sizeBuilder:=by kernel_rfl
 liesBuilder:=by kernel_rfl
 t5:=Tryz.underlying5
 a5:=Tryz.isAgg5
 z5:=Tryz.sizeOf5
 v5:=Tryz.zeroValue5
 infoByte:=by kernel_rfl
 cellsByte:=by kernel_rfl
 sizeByte:=by kernel_rfl
 neB5:=by decide }
open Go.RowKit in
theorem Tryz.Builder_String_any (B b:Nat) (l:List UInt8) (w:World) (h:Lib.IsBuilder 139 5 B b (Lib.byteCells l) w) (hBw:B≤w.heap.size) :
 Calls Tryz.prog 74 #[.pointer (some ⟨b,0,none⟩)] w fun e w'=>e=.returned (.string ⟨l.toArray⟩)∧Below B w w':=Any.Builder_String_any Tryz.lays169 Tryz.Builder_Extra_169 B b l w h hBw
def Tryz.lays137_ren:Go.Shelf.Ren:=⟨fun | 137=>225 | 217=>238 | 266=>269 | n=>n,fun | 9=>9 | 5=>5 | 3=>3 | n=>n,fun | n=>n⟩
theorem Tryz.lays137:Go.Proofs.Lays.n137 Tryz.prog Tryz.lays137_ren := {
 mixed:=by kernel_rfl
 f137:=Tryz.func225.trans (congrArg some (by kernel_rfl))
 f217:=Tryz.func238.trans (congrArg some (by kernel_rfl))
 f266:=Tryz.func269.trans (congrArg some (by kernel_rfl))
 t3:=Tryz.underlying3
 a3:=Tryz.isAgg3
 z3:=Tryz.sizeOf3
 v3:=Tryz.zeroValue3
 t5:=Tryz.underlying5
 a5:=Tryz.isAgg5
 z5:=Tryz.sizeOf5
 v5:=Tryz.zeroValue5
 t9:=Tryz.underlying9
 a9:=Tryz.isAgg9
 z9:=Tryz.sizeOf9
 v9:=Tryz.zeroValue9 }
open Go.RowKit in
theorem Tryz.strings_IndexByte (s:ByteArray) (c:Int) (w:World) :
 Calls Tryz.prog 225 #[.string s,.int .u8 c] w fun e w'=>e=.returned (.int .i64 (Lib.indexByte s.data.toList c.toNat.toUInt8))∧w'=w:=Any.strings_IndexByte Tryz.lays137 s c w
def Tryz.lays129_ren:Go.Shelf.Ren:=⟨fun | 129=>204 | n=>n,fun | 53=>112 | 3=>3 | 4=>4 | 46=>133 | 5=>5 | 9=>9 | n=>n,fun | n=>n⟩
theorem Tryz.lays129:Go.Proofs.Lays.n129 Tryz.prog Tryz.lays129_ren := {
 mixed:=by kernel_rfl
 f129:=Tryz.func204.trans (congrArg some (by kernel_rfl))
 t3:=Tryz.underlying3
 a3:=Tryz.isAgg3
 z3:=Tryz.sizeOf3
 v3:=Tryz.zeroValue3
 t4:=Tryz.underlying4
 a4:=Tryz.isAgg4
 z4:=Tryz.sizeOf4
 v4:=Tryz.zeroValue4
 t5:=Tryz.underlying5
 a5:=Tryz.isAgg5
 z5:=Tryz.sizeOf5
 v5:=Tryz.zeroValue5
 t9:=Tryz.underlying9
 a9:=Tryz.isAgg9
 z9:=Tryz.sizeOf9
 v9:=Tryz.zeroValue9
 t46:=Tryz.underlying133
 a46:=Tryz.isAgg133
 z46:=Tryz.sizeOf133
 v46:=Tryz.zeroValue133
 t53:=Tryz.underlying112
 a53:=Tryz.isAgg112
 z53:=Tryz.sizeOf112
 v53:=Tryz.zeroValue112 }
theorem Tryz.bits_Len64 (x:Int) (w:World) (h0:0≤x) (h1:x≤18446744073709551615) :
 Calls Tryz.prog 204 #[.int .u64 x] w fun e w'=>e=.returned (.int .i64 (Lib.bitLen x.toNat))∧w'=w:=Any.bits_Len64 Tryz.lays129 x w h0 h1
def Tryz.lays219_ren:Go.Shelf.Ren:=⟨fun | 219=>198 | 217=>238 | 225=>239 | 224=>240 | 267=>241 | 266=>269 | 314=>270 | n=>n,fun | 9=>9 | 3=>3 | 4=>4 | 5=>5 | 46=>133 | 146=>222 | 51=>113 | n=>n,fun | 1=>0 | n=>n⟩
theorem Tryz.lays219:Go.Proofs.Lays.n219 Tryz.prog Tryz.lays219_ren := {
 mixed:=by kernel_rfl
 f217:=Tryz.func238.trans (congrArg some (by kernel_rfl))
 f219:=Tryz.func198.trans (congrArg some (by kernel_rfl))
 f224:=Tryz.func240.trans (congrArg some (by kernel_rfl))
 f225:=Tryz.func239.trans (congrArg some (by kernel_rfl))
 f266:=Tryz.func269.trans (congrArg some (by kernel_rfl))
 f267:=Tryz.func241.trans (congrArg some (by kernel_rfl))
 f314:=Tryz.func270.trans (congrArg some (by kernel_rfl))
 t3:=Tryz.underlying3
 a3:=Tryz.isAgg3
 z3:=Tryz.sizeOf3
 v3:=Tryz.zeroValue3
 t4:=Tryz.underlying4
 a4:=Tryz.isAgg4
 z4:=Tryz.sizeOf4
 v4:=Tryz.zeroValue4
 t5:=Tryz.underlying5
 a5:=Tryz.isAgg5
 z5:=Tryz.sizeOf5
 v5:=Tryz.zeroValue5
 t9:=Tryz.underlying9
 a9:=Tryz.isAgg9
 z9:=Tryz.sizeOf9
 v9:=Tryz.zeroValue9
 t46:=Tryz.underlying133
 a46:=Tryz.isAgg133
 z46:=Tryz.sizeOf133
 v46:=Tryz.zeroValue133
 t51:=Tryz.underlying113
 a51:=Tryz.isAgg113
 z51:=Tryz.sizeOf113
 v51:=Tryz.zeroValue113
 t146:=Tryz.underlying222
 a146:=Tryz.isAgg222
 z146:=Tryz.sizeOf222
 v146:=Tryz.zeroValue222
 g1:=by kernel_rfl }
open Go.RowKit Go.Lib in
theorem Tryz.stringslite_Index_one (s:ByteArray) (c:UInt8) (w:World) :
 Calls Tryz.prog 198 #[.string s,.string ⟨#[c]⟩] w fun e w'=>e=.returned (.int .i64 (Lib.indexByte s.data.toList c))∧w'=w:=Any.stringslite_Index_one Tryz.lays219 s c w
def Tryz.lays138_ren:Go.Shelf.Ren:=⟨fun | 138=>90 | 195=>148 | 218=>149 | 143=>150 | 219=>198 | 217=>238 | 225=>239 | 224=>240 | 267=>241 | 266=>269 | 314=>270 | n=>n,fun | 9=>9 | 3=>3 | 4=>4 | 5=>5 | 0=>0 | 46=>133 | 146=>222 | 51=>113 | n=>n,fun | 1=>0 | n=>n⟩
theorem Tryz.lays138:Go.Proofs.Lays.n138 Tryz.prog Tryz.lays138_ren := {
 mixed:=by kernel_rfl
 f138:=Tryz.func90.trans (congrArg some (by kernel_rfl))
 f143:=Tryz.func150.trans (congrArg some (by kernel_rfl))
 f195:=Tryz.func148.trans (congrArg some (by kernel_rfl))
 f217:=Tryz.func238.trans (congrArg some (by kernel_rfl))
 f218:=Tryz.func149.trans (congrArg some (by kernel_rfl))
 f219:=Tryz.func198.trans (congrArg some (by kernel_rfl))
 f224:=Tryz.func240.trans (congrArg some (by kernel_rfl))
 f225:=Tryz.func239.trans (congrArg some (by kernel_rfl))
 f266:=Tryz.func269.trans (congrArg some (by kernel_rfl))
 f267:=Tryz.func241.trans (congrArg some (by kernel_rfl))
 f314:=Tryz.func270.trans (congrArg some (by kernel_rfl))
 t0:=Tryz.underlying0
 a0:=Tryz.isAgg0
 z0:=Tryz.sizeOf0
 v0:=Tryz.zeroValue0
 t3:=Tryz.underlying3
 a3:=Tryz.isAgg3
 z3:=Tryz.sizeOf3
 v3:=Tryz.zeroValue3
 t4:=Tryz.underlying4
 a4:=Tryz.isAgg4
 z4:=Tryz.sizeOf4
 v4:=Tryz.zeroValue4
 t5:=Tryz.underlying5
 a5:=Tryz.isAgg5
 z5:=Tryz.sizeOf5
 v5:=Tryz.zeroValue5
 t9:=Tryz.underlying9
 a9:=Tryz.isAgg9
 z9:=Tryz.sizeOf9
 v9:=Tryz.zeroValue9
 t46:=Tryz.underlying133
 a46:=Tryz.isAgg133
 z46:=Tryz.sizeOf133
 v46:=Tryz.zeroValue133
 t51:=Tryz.underlying113
 a51:=Tryz.isAgg113
 z51:=Tryz.sizeOf113
 v51:=Tryz.zeroValue113
 t146:=Tryz.underlying222
 a146:=Tryz.isAgg222
 z146:=Tryz.sizeOf222
 v146:=Tryz.zeroValue222
 g1:=by kernel_rfl }
open Go.RowKit Go.Lib in
theorem Tryz.strings_Count_one (s:ByteArray) (c:UInt8) (w:World) :
 Calls Tryz.prog 90 #[.string s,.string ⟨#[c]⟩] w fun e w'=>e=.returned (.int .i64 (Lib.countByte s.data.toList c))∧w'=w:=Any.strings_Count_one Tryz.lays138 s c w
def Tryz.lays190_ren:Go.Shelf.Ren:=⟨fun | 190=>192 | 125=>197 | 258=>227 | 128=>237 | 129=>204 | 302=>254 | 303=>255 | 304=>256 | 305=>257 | 306=>258 | 307=>259 | 308=>260 | 309=>261 | 310=>262 | 333=>282 | 329=>264 | 330=>265 | 334=>283 | 335=>284 | 336=>285 | 344=>302 | n=>n,fun | 31=>147 | 9=>9 | 3=>3 | 46=>133 | 0=>0 | 51=>113 | 53=>112 | 4=>4 | 183=>329 | 182=>328 | 131=>307 | 5=>5 | 218=>352 | 222=>283 | 228=>373 | 229=>26 | n=>n,fun | n=>n⟩
theorem Tryz.lays190:Go.Proofs.Lays.n190 Tryz.prog Tryz.lays190_ren := {
 mixed:=by kernel_rfl
 f125:=Tryz.func197.trans (congrArg some (by kernel_rfl))
 f128:=Tryz.func237.trans (congrArg some (by kernel_rfl))
 f129:=Tryz.func204.trans (congrArg some (by kernel_rfl))
 f190:=Tryz.func192.trans (congrArg some (by kernel_rfl))
 f258:=Tryz.func227.trans (congrArg some (by kernel_rfl))
 f302:=Tryz.func254.trans (congrArg some (by kernel_rfl))
 f303:=Tryz.func255.trans (congrArg some (by kernel_rfl))
 f304:=Tryz.func256.trans (congrArg some (by kernel_rfl))
 f305:=Tryz.func257.trans (congrArg some (by kernel_rfl))
 f306:=Tryz.func258.trans (congrArg some (by kernel_rfl))
 f307:=Tryz.func259.trans (congrArg some (by kernel_rfl))
 f308:=Tryz.func260.trans (congrArg some (by kernel_rfl))
 f309:=Tryz.func261.trans (congrArg some (by kernel_rfl))
 f310:=Tryz.func262.trans (congrArg some (by kernel_rfl))
 f329:=Tryz.func264.trans (congrArg some (by kernel_rfl))
 f330:=Tryz.func265.trans (congrArg some (by kernel_rfl))
 f333:=Tryz.func282.trans (congrArg some (by kernel_rfl))
 f334:=Tryz.func283.trans (congrArg some (by kernel_rfl))
 f335:=Tryz.func284.trans (congrArg some (by kernel_rfl))
 f336:=Tryz.func285.trans (congrArg some (by kernel_rfl))
 f344:=Tryz.func302.trans (congrArg some (by kernel_rfl))
 t0:=Tryz.underlying0
 a0:=Tryz.isAgg0
 z0:=Tryz.sizeOf0
 v0:=Tryz.zeroValue0
 t3:=Tryz.underlying3
 a3:=Tryz.isAgg3
 z3:=Tryz.sizeOf3
 v3:=Tryz.zeroValue3
 t4:=Tryz.underlying4
 a4:=Tryz.isAgg4
 z4:=Tryz.sizeOf4
 v4:=Tryz.zeroValue4
 t5:=Tryz.underlying5
 a5:=Tryz.isAgg5
 z5:=Tryz.sizeOf5
 v5:=Tryz.zeroValue5
 t9:=Tryz.underlying9
 a9:=Tryz.isAgg9
 z9:=Tryz.sizeOf9
 v9:=Tryz.zeroValue9
 t31:=Tryz.underlying147
 a31:=Tryz.isAgg147
 z31:=Tryz.sizeOf147
 v31:=Tryz.zeroValue147
 t46:=Tryz.underlying133
 a46:=Tryz.isAgg133
 z46:=Tryz.sizeOf133
 v46:=Tryz.zeroValue133
 t51:=Tryz.underlying113
 a51:=Tryz.isAgg113
 z51:=Tryz.sizeOf113
 v51:=Tryz.zeroValue113
 t53:=Tryz.underlying112
 a53:=Tryz.isAgg112
 z53:=Tryz.sizeOf112
 v53:=Tryz.zeroValue112
 t131:=Tryz.underlying307
 a131:=Tryz.isAgg307
 z131:=Tryz.sizeOf307
 v131:=Tryz.zeroValue307
 t182:=Tryz.underlying328
 a182:=Tryz.isAgg328
 z182:=Tryz.sizeOf328
 v182:=Tryz.zeroValue328
 t183:=Tryz.underlying329
 a183:=Tryz.isAgg329
 z183:=Tryz.sizeOf329
 v183:=Tryz.zeroValue329
 t218:=Tryz.underlying352
 a218:=Tryz.isAgg352
 z218:=Tryz.sizeOf352
 v218:=Tryz.zeroValue352
 t222:=Tryz.underlying283
 a222:=Tryz.isAgg283
 z222:=Tryz.sizeOf283
 v222:=Tryz.zeroValue283
 t228:=Tryz.underlying373
 a228:=Tryz.isAgg373
 z228:=Tryz.sizeOf373
 v228:=Tryz.zeroValue373
 t229:=Tryz.underlying26
 a229:=Tryz.isAgg26
 z229:=Tryz.sizeOf26
 v229:=Tryz.zeroValue26 }
open Go.Sort Go.RowKit in
theorem Tryz.slices_Sort_string (blk off cap:Nat) (ss:List (List UInt8)) (w:World) (hH:Holds encStr w blk off ss.toArray) (hblk:blk<w.heap.size) (hsz:ss.length<4611686018427387904) :
 Calls Tryz.prog 192 #[.slice (some ⟨blk,off,none⟩) ss.length cap] w fun e w' =>
  e=.returned (.tuple #[])∧∃n os,w'=grow (putRow encStr (Sort.ahead w n) blk off (ss.mergeSort fun x y=>decide (x≤y)).toArray) os:=Any.slices_Sort_string Tryz.lays190 blk off cap ss w hH hblk hsz
def Tryz.lays105_ren:Go.Shelf.Ren:=⟨fun | 105=>20 | 212=>69 | 99=>70 | 165=>71 | 166=>72 | 170=>73 | 169=>74 | 263=>129 | 264=>130 | 206=>131 | 240=>132 | 241=>133 | 276=>187 | 277=>188 | n=>n,fun | 9=>9 | 3=>3 | 4=>4 | 20=>20 | 0=>0 | 46=>133 | 109=>134 | 5=>5 | 72=>139 | 76=>142 | 51=>113 | 146=>222 | 53=>112 | 148=>224 | 70=>137 | 37=>89 | 75=>141 | 127=>226 | 164=>296 | 80=>144 | n=>n,fun | n=>n⟩
theorem Tryz.lays105:Go.Proofs.Lays.n105 Tryz.prog Tryz.lays105_ren := {
 mixed:=by kernel_rfl
 f99:=Tryz.func70.trans (congrArg some (by kernel_rfl))
 f105:=Tryz.func20.trans (congrArg some (by kernel_rfl))
 f165:=Tryz.func71.trans (congrArg some (by kernel_rfl))
 f166:=Tryz.func72.trans (congrArg some (by kernel_rfl))
 f169:=Tryz.func74.trans (congrArg some (by kernel_rfl))
 f170:=Tryz.func73.trans (congrArg some (by kernel_rfl))
 f206:=Tryz.func131.trans (congrArg some (by kernel_rfl))
 f212:=Tryz.func69.trans (congrArg some (by kernel_rfl))
 f240:=Tryz.func132.trans (congrArg some (by kernel_rfl))
 f241:=Tryz.func133.trans (congrArg some (by kernel_rfl))
 f263:=Tryz.func129.trans (congrArg some (by kernel_rfl))
 f264:=Tryz.func130.trans (congrArg some (by kernel_rfl))
 f276:=Tryz.func187.trans (congrArg some (by kernel_rfl))
 f277:=Tryz.func188.trans (congrArg some (by kernel_rfl))
 t0:=Tryz.underlying0
 a0:=Tryz.isAgg0
 z0:=Tryz.sizeOf0
 v0:=Tryz.zeroValue0
 t3:=Tryz.underlying3
 a3:=Tryz.isAgg3
 z3:=Tryz.sizeOf3
 v3:=Tryz.zeroValue3
 t4:=Tryz.underlying4
 a4:=Tryz.isAgg4
 z4:=Tryz.sizeOf4
 v4:=Tryz.zeroValue4
 t5:=Tryz.underlying5
 a5:=Tryz.isAgg5
 z5:=Tryz.sizeOf5
 v5:=Tryz.zeroValue5
 t9:=Tryz.underlying9
 a9:=Tryz.isAgg9
 z9:=Tryz.sizeOf9
 v9:=Tryz.zeroValue9
 t20:=Tryz.underlying20
 a20:=Tryz.isAgg20
 z20:=Tryz.sizeOf20
 v20:=Tryz.zeroValue20
 t37:=Tryz.underlying89
 a37:=Tryz.isAgg89
 z37:=Tryz.sizeOf89
 v37:=Tryz.zeroValue89
 t46:=Tryz.underlying133
 a46:=Tryz.isAgg133
 z46:=Tryz.sizeOf133
 v46:=Tryz.zeroValue133
 t51:=Tryz.underlying113
 a51:=Tryz.isAgg113
 z51:=Tryz.sizeOf113
 v51:=Tryz.zeroValue113
 t53:=Tryz.underlying112
 a53:=Tryz.isAgg112
 z53:=Tryz.sizeOf112
 v53:=Tryz.zeroValue112
 t70:=Tryz.underlying137
 a70:=Tryz.isAgg137
 z70:=Tryz.sizeOf137
 v70:=Tryz.zeroValue137
 t72:=Tryz.underlying139
 a72:=Tryz.isAgg139
 z72:=Tryz.sizeOf139
 v72:=Tryz.zeroValue139
 t75:=Tryz.underlying141
 a75:=Tryz.isAgg141
 z75:=Tryz.sizeOf141
 v75:=Tryz.zeroValue141
 t76:=Tryz.underlying142
 a76:=Tryz.isAgg142
 z76:=Tryz.sizeOf142
 v76:=Tryz.zeroValue142
 t109:=Tryz.underlying134
 a109:=Tryz.isAgg134
 z109:=Tryz.sizeOf134
 v109:=Tryz.zeroValue134
 t127:=Tryz.underlying226
 a127:=Tryz.isAgg226
 z127:=Tryz.sizeOf226
 v127:=Tryz.zeroValue226
 t146:=Tryz.underlying222
 a146:=Tryz.isAgg222
 z146:=Tryz.sizeOf222
 v146:=Tryz.zeroValue222
 t148:=Tryz.underlying224
 a148:=Tryz.isAgg224
 z148:=Tryz.sizeOf224
 v148:=Tryz.zeroValue224
 t164:=Tryz.underlying296
 a164:=Tryz.isAgg296
 z164:=Tryz.sizeOf296
 v164:=Tryz.zeroValue296 }
theorem Tryz.Builder_Extra_105:Builder.Extra Tryz.prog Tryz.lays105_ren := {
 sizeBuilder:=by kernel_rfl
 liesBuilder:=by kernel_rfl
 t5:=Tryz.underlying5
 a5:=Tryz.isAgg5
 z5:=Tryz.sizeOf5
 v5:=Tryz.zeroValue5
 infoByte:=by kernel_rfl
 cellsByte:=by kernel_rfl
 sizeByte:=by kernel_rfl
 neB5:=by decide }
open Go.RowKit Go.Lib in
theorem Tryz.strings_Repeat (s:ByteArray) (c:Nat) (w:World) (hc:c≤9223372036854775807) (hlen:s.size*c≤140737488355328) :
 Calls Tryz.prog 20 #[.string s,.int .i64 c] w fun e w'=>e=.returned (.string ⟨(Lib.repeatL s.data.toList c).toArray⟩)∧Below w.heap.size w w':=Any.strings_Repeat Tryz.lays105 Tryz.Builder_Extra_105 s c w hc hlen
open Go.RowKit Go.Sort in
theorem Tryz.slices_Sort_string_none (p:Option Addr) (cap:Nat) (w:World) :
 Calls Tryz.prog 192 #[.slice p 0 cap] w fun e w'=>e=.returned (.tuple #[])∧w'=w:=Any.slices_Sort_string_none Tryz.lays190 p cap w
end Go.Proofs
namespace Go.Proofs.YtbhjgfibhegddaaGreat
open Tryz
section
open Go Go.RowKit
def str (l:List UInt8):ByteArray:=⟨l.toArray⟩
theorem bS (l:List UInt8):(str l).data.toList=l:=rfl
theorem bf (l:List UInt8):(str l).size=l.length:=by simp[str,ByteArray.size]
theorem DN (s:ByteArray):str s.data.toList=s:=rfl
theorem str_inj {a b:List UInt8} (h:str a=str b):a=b:=by have:=aJ (fun s=>s.data.toList) h;simpa [str] using this
section
variable {w:World}
theorem Us (l:List UInt8):strOfNums (l.map fun b=>((b.toNat:Nat):Int))=str l:=by
 unfold strOfNums str;congr 2
 simp[List.map_map,Function.comp_def]
theorem vP {v:Value} {n:Nat} {l:List UInt8} (h:Own w 5 1 v n (aK l)):(convert 89 9 v).run prog w=.ok (.string (str l)) w:=by
 have hn:l.length=n:=by have:=h.1;simp[aK] at this;omega
 rcases h.2 with ⟨rfl,rfl⟩ | ⟨g,cap,cur,fr,rfl,_⟩
 ·have:l=[]:=yX hn
  subst this;exact run_convert_bytes_nil w _ _ underlying89 underlying5 0 0 _ underlying9
 ·rw[← Us]
  refine run_convert_bytes_arg w _ _ underlying89 underlying5 g 0 n cap _ (by simpa using hn) (fun i hi=>?_) _ underlying9;rw[kU,h.cellAt i oM];simp[aK,show i<l.length by omega]
theorem NZ (w:World) (s:ByteArray) (hs:s.size≤maxLen) :
 ∃v' w',(convert 9 89 (.string s)).run prog w=.ok v' w'∧Own w' 5 1 v' s.size (aK s.data.toList)∧υ w w'∧v'.ownBlock=some w.heap.size∧w'.heap.size=w.heap.size+1:=by
 refine⟨_,_,Lib.run_convert_string_bytes w _ _ _ s underlying9 underlying89 underlying5,?_,?_,rfl,Lib.bytesWorld_size w _ s⟩
 ·have hge:=grownCap_ge w s.size 0 5
  refine⟨by simp[aK],.inr ⟨w.heap.size,_,_,_,rfl,Lib.bytesWorld_at_new w _ s,.inr (bQ _),hge,grownCap_le_maxLen w _ _ _ hs,?_,?_⟩⟩
  ·simp[Lib.bytesCells]
   omega
  ·have e:∀k,(aK s.data.toList++List.replicate k (Value.int .u8 0)).take (s.size*1)=aK s.data.toList:=by
    intro k;rw[JU (by simp[aK]),dH (by simp[aK])]
   simp only[Lib.bytesCells,T3,Array.toList_map,Array.toList_replicate];exact e _
 ·refine⟨rfl,rfl,rfl,?_,fun k hk _=>Lib.bytesWorld_at_old w _ s k hk⟩
  rw[Lib.bytesWorld_size];omega
end
def gH (l:List UInt8):List UInt8:=l++leB (rX l) 4
def cz (l:List UInt8):List UInt8 × Int :=
 if l.length≠64 then ([],2) else if l=List.replicate 64 0 then ([],0) else if dx (l.drop 60)≠rX (l.take 60) then ([],2) else (l.take 60,1)
theorem Km (l:List UInt8):Lib.countByte l 0=l.length↔l=List.replicate l.length 0:=by
 unfold Lib.countByte;rw[List.count_eq_length,List.eq_replicate_iff];simp[eq_comm]
theorem vQ {w w':World} (h:Below w.drew.heap.size w.drew w'):Below w.heap.size w w':=⟨h.os,h.tape,h.output,h.size,h.block⟩
theorem Vp (s:ByteArray) (h:s.size=64):IntKind.u32.wrap (dx (List.take 4 (List.take (s.size - 60) (List.drop 60 s.data.toList))):Int)=(dx (s.data.toList.drop 60):Int):=by
 have hl:(s.data.toList.drop 60).length=4:=by simp[h]
 rw[dH (i:=4) (by simp;omega),dH oM];have:=K6 (s.data.toList.drop 60);rw[hl] at this;rw[T5];omega
theorem abV (s:ByteArray) (n:Nat):s.extract 0 n=str (s.data.toList.take n):=by
 have:(s.extract 0 n).data.toList=s.data.toList.take n:=by simp
 rw[← this,DN]
theorem sN (s:ByteArray) (n m:Nat):s.extract n m=str ((s.data.toList.drop n).take (m - n)):=by
 have:(s.extract n m).data.toList=(s.data.toList.drop n).take (m - n):=by simp[List.take_drop]
 rw[← this,DN]
theorem Ph (s:ByteArray) (w:World) (hs:s.size=60) :
 ς 157 #[.string s] w fun e w'=>e=ώ (.tuple #[.string (str (gH s.data.toList)),ι 0])∧Below w.heap.size w w':=by
 have hb:((s.size:Int) != 60)=false:=by rw[hs];rfl
 have hlt:=KR s.data.toList;have hs':s.size≤9223372036854775807:=oM;have HC:Hid (aK s.data.toList++aK (leB (rX s.data.toList) 4)=aK (gH s.data.toList)):=by unfold gH;rw[qM];rfl
 obtain⟨v1,w1,hrun,hown,hU,hblk,hsz⟩:=NZ w s (by unfold maxLen;omega);have H1:=aD hown hU hblk hsz;clear hs hown hU hblk hsz;go_enter func157,ntmps157
 go_wp2_with fail
 refine(XI _ _ hs').mono ?_;rintro e w2 ⟨rfl,bn⟩;go_wp2_with fail
 obtain⟨hown,hU,hblk,hsz⟩:=H1.out;have pU:Own w2 5 1 v1 s.size (aK s.data.toList):=hown.cU (fun k hk=>bn.block k (hown.lt hk));refine(abk v1 s.size _ (rX s.data.toList) 4 w2 pU oM (by simp at hb;omega)).mono ?_;rintro e w3 ⟨v3,rfl,GC,χ,fI⟩;rw[HC.out] at GC;have bV:=bn.size;have HB:Hid (Below w.heap.size w w3):=by
  refine((hU.below (fun _ h=>h.elim)).trans (bn.mono oM)).trans ⟨χ.os,χ.tape,χ.output,χ.size,fun k hk=>χ.block k oM (fun e=>?_)⟩;rw[hblk] at e;have:=dw e;omega
 have P8:=vP GC;clear hown hU hblk hsz pU GC χ fI bn hrun hlt bV;go_wp2
 go_ret2
 exact⟨rfl,HB.out⟩
theorem PG (s:ByteArray) (w:World) (hs:s.size≤9223372036854775807) :
 ς 47 #[.string s] w fun e w'=>e=ώ (.tuple #[.string (str (cz s.data.toList).1),ι (cz s.data.toList).2])∧Below w.heap.size w w':=by
 by_cases h64:s.size=64
 ·have hb:((s.size:Int) != 64)=false:=by rw[h64];rfl
  have hc:=fun W=>strings_Count_one s 0 W
  by_cases hz:s.data.toList=List.replicate 64 0
  ·have hl:cz s.data.toList=([],0):=by unfold cz;rw[ν (by simp[h64]),σ hz]
   have hn:Lib.countByte s.data.toList 0=64:=by
    have:=(Km s.data.toList).2 (by rw[hz];simp)
    rw[this];simp[h64]
   rw[hl];simp only[hn] at hc;have Hc:=δ hc;clear hc hn hl hz h64;go_enter func47,ntmps47
   go_wp2_with (go_at_call 90;refine(Hc.out _).mono ?_;rintro e w' ⟨rfl,rfl⟩);go_ret2
   exact⟨rfl,nX _ _⟩
  ·have hn:((Lib.countByte s.data.toList 0:Int) == 64)=false:=by
    rw[eV];intro h;apply hz
    have h2:Lib.countByte s.data.toList 0=s.data.toList.length:=by simp[h64];omega
    have h3:=(Km _).1 h2;rw[h3];simp[h64]
   have Hc:=δ hc;clear hc;have Cf:=δ h64;have Hz:=δ hz;clear hz h64;go_enter func47,ntmps47
   go_wp2_with (go_at_call 90;refine(Hc.out _).mono ?_;rintro e w' ⟨rfl,rfl⟩);have hge:60≤s.size:=by rw[Cf.out];omega
   go_region_with (first
    |(go_at_call 91;refine(abl _ 4 _ oM (by rw[aaT,Cf.out];omega)).mono ?_;rintro e w' ⟨rfl,rfl⟩)
    |(go_at_call 92;refine(XI _ _ (by rw[aaT,Cf.out];omega)).mono ?_;rintro e w' ⟨rfl,bn⟩))
   all_goals go_wp2
   all_goals
    go_ret2
    first
     |(have ht:(IntKind.u32.wrap (dx (List.take 4 (List.take (s.size - 60) (List.drop 60 s.data.toList))):Int) != (rX (List.take 60 s.data.toList):Int))=true:=aS
       rw[Vp s Cf.out,jZ] at ht;refine⟨?_,by first| exact vQ bn | exact bn⟩;rw[show cz s.data.toList=([],2) from by unfold cz;rw[ν (by simp[Cf.out]),ν Hz.out,σ oM]];rfl)
     |(have ht:(IntKind.u32.wrap (dx (List.take 4 (List.take (s.size - 60) (List.drop 60 s.data.toList))):Int) != (rX (List.take 60 s.data.toList):Int))=false:=aS
       rw[Vp s Cf.out,bne_eq_false_iff_eq] at ht;refine⟨?_,by first| exact vQ bn | exact bn⟩;rw[show cz s.data.toList=(s.data.toList.take 60,1) from by unfold cz;rw[ν (by simp[Cf.out]),ν Hz.out,ν oM]];rw[← abV];rfl)
 ·have hb:((s.size:Int) != 64)=true:=by rw[jZ];omega
  have hl:cz s.data.toList=([],2):=by unfold cz;rw[σ (by simpa using h64)]
  rw[hl];clear hl h64;go_enter func47,ntmps47
  go_wp2
  go_ret2
  exact⟨rfl,nX _ _⟩
theorem Vq (w:World) (l:List UInt8) (hl:l.length≤1000000):Own (w.alloc (.cells (aK l).toArray 5)) 5 1 (.slice (some ⟨w.heap.size,0,none⟩) l.length l.length) l.length (aK l):=by
 refine⟨by simp[aK],.inr ⟨w.heap.size,l.length,(aK l).toArray,(0,0),rfl,yV w _,.inl rfl,bQ _,by unfold maxLen;omega,by simp[aK],?_⟩⟩;rw[dH (by simp[aK])]
theorem adt (n:Nat) (h:n<18446744073709551616):Lib.bitLen n≤64:=by
 by_cases h0:n=0
 ·subst h0;decide
 ·have h1:=(aaL 64 n oM h0).2.1
  apply xu
  intro hc;have h2:2 ^ 64≤2 ^ (Lib.bitLen n - 1):=yU oM oM;have h3:2 ^ (Lib.bitLen n - 1)≤n:=h1;have e:(2:Nat) ^ 64=18446744073709551616:=dC;omega
theorem W6 (n:Nat) (w:World) (h:n<18446744073709551616):ς 155 #[ω (n:Int)] w fun e w'=>e=ώ (ι (bC n:Int))∧w=w':=by
 have hb:=abC n h;have hl:=adt n h;have HL:=δ (fun W=>bits_Len64 (n:Int) W oM oM);rw[aaU] at HL;generalize Lib.bitLen n=b at *;have e1:IntKind.i64.wrap ((b:Int)+7)=((b+7:Nat):Int):=bX _ oM;go_enter func155,ntmps155
 go_wp2_with fail
 refine(HL.out _).mono ?_;rintro e w' ⟨rfl,rfl⟩;go_wp2_with fail
 go_ret
 refine⟨?_,rfl⟩;have:max (1:Int) (((b:Int)+7 - 1) / 7)=(bC n:Int):=oM;rw[← this];rfl
theorem ahB (k:Nat):bits .or .u8 ((k:Int) % 256) 128=((k % 128+128:Nat):Int):=by
 have h:∀x:Fin 256,bits .or .u8 (x.val:Int) 128=((x.val % 128+128:Nat):Int):=by decide +kernel
 have h1:=h ⟨k % 256,oM⟩;have e:((k % 256:Nat):Int)=(k:Int) % 256:=oM;have e2:k % 256 % 128=k % 128:=oM;simp only[e,e2] at h1;exact h1
theorem pV (s:ByteArray) (i:Nat) (h:i<s.size):s.data.toList.getD i 0=s[i]:=by simp[List.getD,h,ByteArray.getElem_eq_getElem_data]
theorem abo (t:List UInt8) (i:Nat) (h:i<t.length):gA (t.drop i)=(t.getD i 0).toNat % 128+128*gA (t.drop (i+1)):=by
 rw[ua h];show _ % 128+128*_=_;rw[bJ,bD h];rfl
theorem ahC (N b:Nat) (h:128*N<18446744073709551616):bits .or .u64 ((N:Int)*128) ((b:Int) % 128)=((b % 128+128*N:Nat):Int):=by
 have e1:(N:Int)*128=((N*128:Nat):Int):=by push_cast;rfl
 have e2:(b:Int) % 128=((b % 128:Nat):Int):=oM;rw[e1,e2,u64_or_nat _ _ oM oM,nat_join 7 _ _ (by show N*128 % 128=0;omega) (by show b % 128<128;omega)];omega
theorem V8 (s:ByteArray) (w:World):ς 218 #[.string s] w fun e w'=>e=ώ (.tuple #[ω ((fZ s.data.toList).1:Int),ι ((fZ s.data.toList).2.1:Int),ι (fZ s.data.toList).2.2])∧w=w':=by
 have hlen:s.data.toList.length=s.size:=by simp
 obtain⟨R,hR⟩:=κ (fZ s.data.toList);rw[hR];have HR:=δ hR;clear hR;go_enter func218,ntmps218
 go_wp2_with fail
 go_loop [3] (fun i=>∃c:Nat,i=ι (c:Int)∧c≤10∧c≤s.size∧∀j,j<c→128≤(s.data.toList.getD j 0).toNat) (fun i=>10 - (intOf i).toNat)
 case atStart=>exact⟨0,rfl,oM,oM,fun j hj=>by omega⟩
 case round =>
  obtain⟨c,rfl,hc1,hc2,hg⟩:=hrel;by_cases Mg:c<10∧c<s.size∧128≤(s.data.toList.getD c 0).toNat
  ·obtain⟨h1,h2,h3⟩:=Mg
   rw[pV s c h2] at h3;go_wp2_with fail
   go_round
   case rel =>
    refine⟨c+1,by go_num,oM,oM,fun j hj=>?_⟩;by_cases e:j=c
    ·subst e;rw[pV s j h2];exact h3
    ·exact hg j oM
   case measure=>simp[intOf];omega
  ·have zu:dN s.data.toList 10=c:=V2 _ _ _ hc1 oM hg (by
    by_cases c1:c=10
    ·exact .inl c1
    ·by_cases c2:c=s.size
     ·exact .inr (.inl oM)
     ·refine .inr (.inr ?_)
      apply xu
      intro c3;exact Mg ⟨oM,oM,oM⟩)
   have P9:¬(c:Int)<min (s.size:Int) 10∨(c<10∧∃h:c<s.size,(s[c]).toNat<128):=by
    by_cases c2:c<s.size
    ·by_cases c1:c<10
     ·refine .inr ⟨c1,c2,?_⟩
      apply xu
      intro c3;exact Mg ⟨c1,c2,by rw[pV s c c2];omega⟩
     ·exact .inl oM
    ·exact .inl oM
   clear Mg;rcases P9 with hx | ⟨hx1,hx2,Mh⟩
   ·by_cases c10:c=10
    ·subst c10
     have rj:R=(0,0,8):=by rw[← HR.out,fZ,σ zu]
     subst rj;go_wp2_with fail
     go_ret3
     exact⟨rfl,rfl⟩
    ·have cs:c=s.size:=oM
     have rj:R=(0,0,7):=by rw[← HR.out,fZ,zu,ν c10,σ oM]
     subst rj;have cs':(c:Int)=(s.size:Int):=oM;go_wp2_with fail
     go_ret3
     exact⟨rfl,rfl⟩
   ·have GU:dN s.data.toList 10≠10:=oM
    have BS:dN s.data.toList 10≠s.data.toList.length:=oM;have hv:=Pe GU BS;by_cases h9:c=9∧1<(s.data.toList.getD 9 0).toNat
    ·have rj:R=(0,0,8):=by rw[← HR.out,fZ,ν GU,ν BS,zu,σ h9]
     subst rj;obtain⟨rfl,h9⟩:=h9;rw[pV s 9 hx2] at h9;clear hg zu hv GU BS hlen HR;go_wp2_with fail
     go_ret3
     exact⟨rfl,rfl⟩
    ·have Qu:=hv.2 (by rw[zu];exact h9)
     rw[zu] at Qu;have rj:=HR.out;rw[fZ,ν GU,ν BS,zu,ν h9] at rj;have RB:((c:Int) == 9)=false∨(((c:Int) == 9)=true∧(s[c]).toNat≤1):=by
      by_cases c9:c=9
      ·subst c9
       refine .inr ⟨rfl,?_⟩;apply xu
       intro hc;exact h9 ⟨rfl,by rw[pV s 9 hx2];omega⟩
      ·exact .inl (by rw[eV];omega)
     have hte:∀m,m≤c→(s.data.toList.take (c+1)).getD m 0=s.data.toList.getD m 0:=fun m hm=>Oa _ _ _ oM
     have htl:(s.data.toList.take (c+1)).length=c+1:=by rw[fF];omega
     have HX:=aD rj Qu hte htl;clear h9 hg zu hv GU BS hlen HR rj Qu hte htl;rcases RB with RB | ⟨RB,hx8⟩
     all_goals
      go_wp2_with fail
      go_loop [2,5] (fun n i=>∃m:Nat,m≤c+1∧i=ι ((m:Int) - 1)∧n=ω ((gA ((s.data.toList.take (c+1)).drop m):Nat):Int)) (fun _ i=>((intOf i)+1).toNat)
      case atStart =>
       refine⟨c+1,oM,by go_num,?_⟩;rw[pN (by rw[HX.out.2.2.2];omega)];rfl
      case round =>
       obtain⟨m,hm,rfl,rfl⟩:=hrel;cases m with
       | zero =>
         go_wp2_with fail
         refine(W6 _ _ HX.out.2.1).mono ?_;rintro e w' ⟨rfl,rfl⟩;have rj:=HX.out.1;by_cases hz:bC (gA (s.data.toList.take (c+1)))=c+1
         ·rw[σ hz] at rj
          subst rj;go_wp2_with fail
          go_ret3
          exact⟨rfl,rfl⟩
         ·rw[ν hz] at rj
          subst rj;go_wp2_with fail
          go_ret3
          exact⟨rfl,rfl⟩
       | succ k =>
         have hk:k<s.size:=oM;have hbd:=adl (s.data.toList.take (c+1)) k;have hst:=abo (s.data.toList.take (c+1)) k (by rw[HX.out.2.2.2];omega);rw[HX.out.2.2.1 k oM,pV s k hk] at hst;have hvl:=HX.out.2.1;obtain⟨N,hN⟩:=κ (gA ((s.data.toList.take (c+1)).drop (k+1)));rw[hN] at hst ⊢;have hb:=(s[k]).toNat_lt;have pe:128*N<18446744073709551616:=oM;have HK:=aj hst hbd hvl;clear hst hbd hvl hN;go_wp2_with fail
         go_round
         case rel =>
          refine⟨k,oM,by go_num,?_⟩;rw[HK.out.1];rw[ahC N _ pe]
         case measure=>simp[intOf]
theorem KD (s:List UInt8):(fZ s).1<18446744073709551616∧(fZ s).2.1≤10∧(fZ s).2.1≤s.length∧((fZ s).2.2=0∨(fZ s).2.2=7∨(fZ s).2.2=8):=by
 rcases WC s with h | h | h
 ·obtain⟨⟨a,b,c⟩,hq⟩:∃q,fZ s=q:=⟨_,rfl⟩
  rw[hq] at h ⊢;obtain rfl:c=0:=h;obtain⟨h1,h2,h3,h4⟩:=ahy hq;have:=dc h1;exact⟨h1,by show b≤10;omega,h3,.inl rfl⟩
 ·rw[h];simp
 ·rw[h];simp
theorem Qv {P:Prop} (h:P:=by
 go_enter func220,ntmps220
 go_wp2_with fail
 refine(HN.out _).mono ?_;rintro e w' ⟨rfl,rfl⟩;go_wp2_with fail
 go_ret3
 exact⟨rfl,rfl⟩):P:=h
theorem Vr (s:ByteArray) (m:Nat) (hm:m≤9223372036854775807) (w:World):ς 220 #[.string s,ι (m:Int)] w fun e w'=>e=ώ (.tuple #[ι ((iH s.data.toList m).1:Int),ι ((iH s.data.toList m).2.1:Int),ι (iH s.data.toList m).2.2])∧w=w':=by
 have hN:=V8 s;have hf:=KD s.data.toList;unfold iH;obtain⟨⟨a,b,c⟩,hq⟩:∃q,fZ s.data.toList=q:=⟨_,rfl⟩;rw[hq] at hf;simp only[hq] at hN ⊢;have HN:=δ hN;clear hN;simp only at hf
 obtain⟨Mi,Ey,uQ,Ez⟩:=hf;by_cases hc:c=0
 ·subst hc
  by_cases hle:a≤m
  ·rw[σ rfl,σ hle]
   exact Qv
  ·rw[σ rfl,ν hle]
   exact Qv
 ·rw[ν hc]
  exact Qv
def letter (c:UInt8):Bool:=decide (97≤c.toNat∧c.toNat≤122)
theorem FP (s:List UInt8):nx s=(decide (1≤s.length∧s.length≤8) && s.all letter):=rfl
theorem Ke {s:List UInt8} {p:UInt8→Bool} {k:Nat} (hk:k<s.length) (h:(s.take k).all p=true) (h2:p (s.getD k 0)=true):(s.take (k+1)).all p=true:=by
 rw[gX hk,List.all_append,h];rw[bJ,bD hk] at h2;simpa using h2
theorem all_false {s:List UInt8} {p:UInt8→Bool} {k:Nat} (hk:k<s.length) (h2:p (s.getD k 0)=false):s.all p=false:=by
 rw[bJ,bD hk] at h2;rw[List.all_eq_false];exact⟨s[k],eM hk,by simpa using h2⟩
theorem LC {P:Prop} (h:P:=by
 have Ii:B=false:=by
  rw[← HB.out.1,FP,all_false (k:=k) (by rw[HB.out.2];exact hlt) (by unfold letter;rw[mN];simp;omega),Bool.and_false]
 subst Ii;clear mN;go_wp2_with fail
 go_ret
 exact⟨rfl,rfl⟩):P:=h
theorem LD {P:Prop} (h:P:=by
 go_wp2_with fail
 go_round
 case rel=>exact⟨k+1,oM,by go_num,HL.out⟩
 case measure=>simp[intOf]<;>omega):P:=h
theorem WH (s:ByteArray) (hs:s.size≤1000000) (w:World) :
 ς 142 #[.string s] w fun e w'=>e=ώ (.bool (nx s.data.toList))∧w=w':=by
 have hlen:s.data.toList.length=s.size:=by simp
 obtain⟨B,hB⟩:=κ (nx s.data.toList);rw[hB];have HB:=τ hB hlen;clear hB hlen;go_enter func142,ntmps142
 go_wp2_with fail
 go_loop [3,6] (fun _ i=>∃k:Nat,k≤s.size∧i=ι (k:Int)∧(s.data.toList.take k).all letter=true) (fun _ i=>s.size - (intOf i).toNat)
 case atStart=>exact⟨0,oM,rfl,rfl⟩
 case round =>
  obtain⟨k,hk,rfl,hall⟩:=hrel;have HA:=δ hall;clear hall;by_cases hlt:k<s.size
  ·have j1:(k:Int)<(s.size:Int):=oM
   have mN:=pV s k hlt;by_cases h1:(s[k]).toNat<97
   ·exact LC
   ·by_cases h2:122<(s[k]).toNat
    ·exact LC
    ·have HL:=δ (Ke (by rw[HB.out.2];exact hlt) HA.out (by unfold letter;rw[mN];simp;omega))
     clear mN;exact LD
  ·obtain rfl:k=s.size:=oM
   have aB:B=decide (1≤s.size∧s.size≤8):=by
    have ha:=HA.out;rw[dH (by rw[HB.out.2];omega)] at ha;rw[← HB.out.1,FP,ha,HB.out.2,y6]
   have jQ:=δ aB;clear aB hlt hk;by_cases h1:(1:Int)≤(s.size:Int)
   ·by_cases h2:(s.size:Int)≤8
    ·obtain rfl:B=true:=by rw[jQ.out];simp;omega
     go_wp2_with fail
     go_ret
     exact⟨rfl,rfl⟩
    ·obtain rfl:B=false:=by rw[jQ.out];simp;omega
     go_wp2_with fail
     go_ret
     exact⟨rfl,rfl⟩
   ·obtain rfl:B=false:=by rw[jQ.out];simp;omega
    go_wp2_with fail
    go_ret
    exact⟨rfl,rfl⟩
theorem abx {l:List UInt8} {c:UInt8} (h:l.all (· != c)=true):Lib.indexByte l c=-1:=by
 induction l with
 | nil=>rfl
 | cons b r ih =>
   simp only[rN,gY,jZ] at h;unfold Lib.indexByte;rw[ν (by simpa using h.1),ih (by simpa using h.2)];rfl
theorem aby {l:List UInt8} {c:UInt8} : Lib.indexByte l c<0↔l.all (· != c)=true:=by
 constructor
 ·intro h
  induction l with
  | nil=>rfl
  | cons b r ih =>
    unfold Lib.indexByte at h;by_cases e:b=c
    ·rw[σ (by simpa using e)] at h
     omega
    ·rw[ν (by simpa using e)] at h
     have hg:=Lib.indexByte_ge r c;by_cases e2:Lib.indexByte r c=-1
     ·have:=ih oM
      simp[e]
      simpa using this
     ·rw[ν (by simpa using e2)] at h
      omega
 ·intro h
  rw[abx h];decide
theorem Ob (b:UInt8) (r:List UInt8):iJ (b::r)=if b=47 then [] else b::iJ r:=by
 unfold iJ;rw[List.takeWhile_cons];by_cases e:b=47
 ·rw[σ e,e]
  rfl
 ·rw[ν e,σ (by simpa using e)]
theorem abp (l:List UInt8):Lib.indexByte l 47=if (iJ l).length<l.length then ((iJ l).length:Int) else -1:=by
 induction l with
 | nil=>rfl
 | cons b r ih =>
   rw[Ob];unfold Lib.indexByte;by_cases e:b=47
   ·rw[σ (by simpa using e),σ e]
    simp
   ·rw[ν (by simpa using e),ih,ν e,eS,eS]
    by_cases h:(iJ r).length<r.length
    ·rw[σ h,ν sM,σ oM]
     omega
    ·rw[ν h,σ (by rfl),ν oM]
theorem abq {α : Type} (p : α → Bool) (l:List α):l.takeWhile p=l.take (l.takeWhile p).length:=by
 induction l with
 | nil=>rfl
 | cons b r ih =>
   rw[List.takeWhile_cons];split
   ·rw[eS,AY,← ih]
   ·rfl
theorem acv (l:List UInt8):iJ l=l.take (iJ l).length:=abq _ l
theorem ahD (s:ByteArray) (hs:s.size≤1000000) (w:World) :
 ς 190 #[.string s] w fun e w'=>e=ώ (.bool (sY s.data.toList))∧w=w':=by
 have hlen:s.data.toList.length=s.size:=by simp
 have hK:sY s.data.toList=(decide (1≤s.size∧s.size≤24) && (decide (Lib.indexByte s.data.toList 0<0) && decide (Lib.indexByte s.data.toList 47<0))):=by
  unfold sY;rw[hlen];congr 1
  rw[vH];simp only[gY,dR,aby,T7,jZ];constructor
  ·intro h
   exact⟨fun x hx=>(h x hx).1,fun x hx=>(h x hx).2⟩
  ·rintro⟨h1,h2⟩ x hx
   exact⟨h1 x hx,h2 x hx⟩
 have h0:=fun W=>strings_IndexByte s 0 W
 have h47:=fun W=>strings_IndexByte s 47 W
 rw[show (0:Int).toNat.toUInt8=0 from rfl] at h0;rw[show (47:Int).toNat.toUInt8=47 from rfl] at h47;obtain⟨i0,bx⟩:∃i,Lib.indexByte s.data.toList 0=i:=⟨_,rfl⟩;obtain⟨i1,hi1⟩:∃i,Lib.indexByte s.data.toList 47=i:=⟨_,rfl⟩;rw[bx,hi1] at hK;rw[bx] at h0;rw[hi1] at h47;rw[hK];have H0:=δ h0;have H1:=δ h47;clear h0 h47 bx hi1 hK hlen;have fin:∀B:Bool,(decide (1≤s.size∧s.size≤24) && (decide (i0<0) && decide (i1<0)))=B→ς 190 #[.string s] w fun e w'=>e=ώ (.bool B)∧w=w':=by
  intro B hB;have HB:=δ hB;clear hB;go_enter func190,ntmps190
  by_cases h1:(1:Int)≤(s.size:Int)
  ·by_cases h2:(s.size:Int)≤24
   ·by_cases h3:i0<0
    ·by_cases h4:i1<0
     ·obtain rfl:true=B:=by rw[← HB.out];simp[h3,h4];omega
      go_wp2_with (fail)
      refine(H0.out _).mono ?_;rintro e w1 ⟨rfl,rfl⟩;go_wp2_with (fail)
      refine(H1.out _).mono ?_;rintro e w1 ⟨rfl,rfl⟩;go_wp2_with (fail)
      go_ret
      exact⟨rfl,rfl⟩
     ·obtain rfl:false=B:=by rw[← HB.out];simp[h3,h4]
      go_wp2_with (fail)
      refine(H0.out _).mono ?_;rintro e w1 ⟨rfl,rfl⟩;go_wp2_with (fail)
      refine(H1.out _).mono ?_;rintro e w1 ⟨rfl,rfl⟩;go_wp2_with (fail)
      go_ret
      exact⟨by simp[h4],rfl⟩
    ·obtain rfl:false=B:=by rw[← HB.out];simp[h3]
     go_wp2_with (fail)
     refine(H0.out _).mono ?_;rintro e w1 ⟨rfl,rfl⟩;go_wp2_with (fail)
     go_ret
     exact⟨rfl,rfl⟩
   ·obtain rfl:false=B:=by rw[← HB.out];simp;omega
    go_wp2_with fail
    go_ret
    exact⟨rfl,rfl⟩
  ·obtain rfl:false=B:=by rw[← HB.out];simp;omega
   go_wp2_with fail
   go_ret
   exact⟨rfl,rfl⟩
 exact fin _ rfl
def Ef (s:ByteArray):Value:=if (iJ s.data.toList).length<s.data.toList.length then .tuple #[.string (s.extract 0 (iJ s.data.toList).length),.string (s.extract ((iJ s.data.toList).length+1) s.size),.bool true] else .tuple #[.string s,.string ByteArray.empty,.bool false]
theorem agA (s:ByteArray) (hs:s.size≤1000000) (w:World) :
 ς 224 #[.string s,.string ⟨#[47]⟩] w fun e w'=>e=ώ (Ef s)∧υ w w':=by
 have hlen:s.data.toList.length=s.size:=by simp
 have hi:=fun W=>stringslite_Index_one s 47 W
 unfold Ef;rw[abp,hlen] at hi;rw[hlen];obtain⟨n,hn⟩:=κ (iJ s.data.toList).length;rw[hn] at hi ⊢;clear hn hlen;by_cases h:n<s.size
 ·rw[σ h] at hi ⊢
  have HI:=δ hi;clear hi;have k1:(n:Int)<(s.size:Int):=oM;have k2:IntKind.i64.wrap ((n:Int)+1)=(n:Int)+1:=bX _ oM;have k3:(0:Int)≤(n:Int):=oM;go_enter func224,ntmps224
  go_wp2_with fail
  refine(HI.out _).mono ?_;rintro e w1 ⟨rfl,rfl⟩;go_wp2_with fail
  go_quiet (fail)
  go_wp2_with fail
  go_ret3
  exact⟨rfl,(ζ.refl _ _).drewN _⟩
 ·rw[ν h] at hi ⊢
  have HI:=δ hi;clear hi;go_enter func224,ntmps224
  go_wp2_with fail
  refine(HI.out _).mono ?_;rintro e w1 ⟨rfl,rfl⟩;go_wp2_with fail
  go_ret3
  exact⟨rfl,ζ.refl _ _⟩
theorem ahE (s:ByteArray) (hs:s.size≤1000000) (w:World) :
 ς 189 #[.string s,.string ⟨#[47]⟩] w fun e w'=>e=ώ (Ef s)∧υ w w':=by
 have hc:=fun W=>agA s hs W
 obtain⟨a,b,c,h⟩:∃a b c,Ef s=.tuple #[.string a,.string b,.bool c]:=by
  unfold Ef;split
  ·exact⟨_,_,_,rfl⟩
  ·exact⟨_,_,_,rfl⟩
 rw[h] at hc ⊢;have H:=δ hc;clear hc h;go_enter func189,ntmps189
 go_wp2_with fail
 refine(H.out _).mono ?_;rintro e w1 ⟨rfl,hU⟩;have HU:=δ hU;clear hU;go_wp2_with fail
 go_ret3
 exact⟨rfl,HU.out⟩
theorem W9 (s:ByteArray) (hs:s.size≤1000000) (w:World) :
 ς 134 #[.string s] w fun e w'=>e=ώ (.tuple #[.string (str (mI s.data.toList).1),.string (str (mI s.data.toList).2.1),.bool (jg s.data.toList)])∧υ w w':=by
 have hlen:s.data.toList.length=s.size:=by simp
 have hc:=fun W=>ahE s hs W
 have hpre:=acv s.data.toList;unfold jg mI;unfold Ef at hc;rw[hlen] at hc ⊢;obtain⟨H,hH⟩:=κ (iJ s.data.toList);rw[hH] at hc hpre ⊢;obtain⟨n,hn⟩:=κ H.length;rw[hn] at hc hpre ⊢;by_cases h:n<s.size
 ·rw[σ h] at hc
  have ea:(s.extract 0 n).data.toList=H:=by rw[hpre];simp
  have eb:(s.extract (n+1) s.size).data.toList=s.data.toList.drop (n+1):=by
   simp only[ByteArray.data_extract,Array.toList_extract,List.extract_eq_take_drop];rw[dH (by rw[gM,hlen];omega)]
  obtain⟨a,ha⟩:=κ (s.extract 0 n);obtain⟨b,hb⟩:=κ (s.extract (n+1) s.size);rw[ha] at ea hc;rw[hb] at eb hc;have hna:=fun W=>WH a (by rw[← ha];simp;omega) W
  have hkb:=fun W=>ahD b (by rw[← hb];simp;omega) W
  rw[← ea,← eb];obtain⟨A,hA⟩:=κ (nx a.data.toList);obtain⟨B,hB⟩:∃A,sY b.data.toList=A:=⟨_,rfl⟩;rw[hA] at hna ⊢;rw[hB] at hkb ⊢;have HC:=δ hc;have HN:=δ hna;have HK:=δ hkb;have Hh:=δ h;clear hc hna hkb ha hb hA hB ea eb hH hn hpre hlen h;have step:∀R:Value,R=(if A && B then Value.tuple #[.string a,.string b,.bool true] else .tuple #[.string ByteArray.empty,.string ByteArray.empty,.bool false])→ς 134 #[.string s] w fun e w'=>e=ώ R∧υ w w':=by
   intro R hR;have HR:=δ hR;clear hR;go_enter func134,ntmps134
   go_wp2_with fail
   refine(HC.out _).mono ?_;rintro e w1 ⟨rfl,hU⟩;have HU:=δ hU;clear hU;go_wp2_with fail
   refine(HN.out _).mono ?_;rintro e w2 ⟨rfl,rfl⟩;cases A
   ·obtain rfl:=HR.out
    go_wp2_with fail
    go_ret3
    exact⟨rfl,HU.out⟩
   ·go_wp2_with fail
    refine(HK.out _).mono ?_;rintro e w2 ⟨rfl,rfl⟩;cases B
    ·obtain rfl:=HR.out
     go_wp2_with fail
     go_ret3
     exact⟨rfl,HU.out⟩
    ·obtain rfl:=HR.out
     go_wp2_with fail
     go_ret3
     exact⟨rfl,HU.out⟩
  refine(step _ rfl).mono ?_;rintro e w' ⟨rfl,hU⟩;refine⟨?_,hU⟩;cases A
  ·simp[Hh.out];rfl
  ·cases B
   ·simp[Hh.out];rfl
   ·simp[Hh.out,DN]
 ·rw[ν h] at hc
  have HC:=δ hc;clear hc hpre hn hH;rw[ν oM];go_enter func134,ntmps134
  go_wp2_with fail
  refine(HC.out _).mono ?_;rintro e w1 ⟨rfl,hU⟩;have HU:=δ hU;clear hU;go_wp2_with fail
  go_ret3
  exact⟨rfl,HU.out⟩
theorem η.vU {w:World} {g:Nat} {t:TypeId} {a b c d e f:Value} (k:η w g t #[a,b,c,d,e,f]):w.cell? ⟨g,0,none⟩=some a∧w.cell? ⟨g,1,none⟩=some b∧w.cell? ⟨g,2,none⟩=some c∧w.cell? ⟨g,3,none⟩=some d∧w.cell? ⟨g,4,none⟩=some e∧w.cell? ⟨g,5,none⟩=some f :=
 ⟨k.cell 0,k.cell 1,k.cell 2,k.cell 3,k.cell 4,k.cell 5⟩
section
variable {P:Program} {ops:Array Oper} {rest:List Oper} {o:Oper} {a:Act} {w:World} {Q:Exit→Act→World→Prop} {K:Act→World→Prop}
theorem η.range {g:Nat} {t:TypeId} {cs:Array Value} (h:η w g t cs) (i:Nat) (vs:List Value) (hv:∀j v,vs[j]? = some v→cs[i+j]? = some v):w.rangeAt g i vs:=fun j v e=>by
 rw[h.cell];exact hv j v e
theorem η.ahF {g:Nat} {t:TypeId} {cs:Array Value} (h:η w g t cs) (i n:Nat) (hn:i+n≤cs.size):w.there g i n:=fun j hj=>by
 refine⟨?_,h.frozen _⟩;rw[h.cell,NA oM];rfl
theorem ζ.Vs (g:Nat):∀(vs:List Value) (i:Nat) (w:World),ζ (· = g) w (w.setCells g i vs)∧(w.setCells g i vs).heap.size=w.heap.size
 | [],_,w=>⟨ζ.refl _ _,rfl⟩
 | v::r,i,w=>by
   have h1:=(ζ.refl (· = g) w).setCell (p:=⟨g,i,none⟩) (.inl rfl) v;obtain⟨h2,h3⟩:=ζ.Vs g r (i+1) (w.setCell ⟨g,i,none⟩ v);refine⟨h1.then h2 (fun _ e=>.inl e),?_⟩;rw[World.setCells,h3];simp
theorem η.setCells {g:Nat} {t:TypeId} : ∀(vs:List Value) (i:Nat) (w:World) (cs:Array Value),η w g t cs→i+vs.length≤cs.size→η (w.setCells g i vs) g t (cs.toList.take i++vs++cs.toList.drop (i+vs.length)).toArray
 | [],i,w,cs,h,hi=>by
   simp only[xz,yY,rM,AW];exact h
 | v :: r,i,w,cs,h,hi=>by
   rw[World.setCells];have hi':i<cs.size:=by simp at hi;omega
   have:=η.setCells r (i+1) _ _ (h.bE i v) (by simp at hi ⊢;omega);have e:(cs.setIfInBounds i v).toList.take (i+1)++r++(cs.setIfInBounds i v).toList.drop (i+1+r.length)=cs.toList.take i++(v::r)++cs.toList.drop (i+(v::r).length):=by
    rw[TY,List.drop_set_of_lt oM,List.take_set,gX (by simpa using hi')];have hl:(cs.toList.take i).length=i:=by rw[fF,pM];omega
    rw[Fs _ _ oM,hl,Dn];simp[Nat.add_comm,Nat.add_left_comm]
   rw[e] at this;exact this
theorem NX (ty:TypeId) (x y:Operand) (ho:o.op=.store ty x y) (g i:Nat) (vs:Array Value) (hx:a.eval x=.pointer (some ⟨g,i,none⟩)) (hy:a.eval y=.agg vs)
 (t:TypeId) (cs new:Array Value) (hB:η w g t cs) (hi:i+vs.size≤cs.size) (hn:cs.toList.take i++vs.toList++cs.toList.drop (i+vs.size)=new.toList) (h1:vs.all (·.oneCell')=true) (hsz:(P.info? ty).map (·.size)=some vs.size)
 (h:∀w',η w' g t new→ζ (· = g) w w'→w'.heap.size=w.heap.size→K (a.put o.dst undef) w'):o.wp P a w K Q:=by
 refine wp_store_mid ty x y ho g i vs hx hy (hB.ahF i _ hi) hsz h1 ?_;obtain⟨u1,u2⟩:=ζ.Vs g vs.toList i w;refine h _ ?_ u1 u2;have:=η.setCells vs.toList i w cs hB (by simpa using hi);rw[pM,hn] at this;exact this
theorem xB (hg:o.guard=none) (ty:TypeId) (x y:Operand) (ho:o.op=.store ty x y) (g i:Nat) (vs:Array Value) (hx:a.eval x=.pointer (some ⟨g,i,none⟩)) (hy:a.eval y=.agg vs)
 (t:TypeId) (cs new:Array Value) (hB:η w g t cs) (hi:i+vs.size≤cs.size) (hn:cs.toList.take i++vs.toList++cs.toList.drop (i+vs.size)=new.toList) (h1:vs.all (·.oneCell')=true) (hsz:(P.info? ty).map (·.size)=some vs.size)
 (h:∀w',η w' g t new→ζ (· = g) w w'→w'.heap.size=w.heap.size→wpList P ops Q rest (a.put o.dst undef) w'):wpList P ops Q (o::rest) a w :=
 JT hg fun _ hK=>NX ty x y ho g i vs hx hy t cs new hB hi hn h1 hsz fun w' b1 b2 b3=>hK _ _ (h w' b1 b2 b3)
theorem qL (hg:o.guard=none) (ty:TypeId) (x:Operand) (ho:o.op=.load ty x) (g i:Nat) (hx:a.eval x=.pointer (some ⟨g,i,none⟩)) (t:TypeId) (cs:Array Value) (vs:List Value) (d:TypeDesc)
 (hB:η w g t cs) (hv:∀j v,vs[j]? = some v→cs[i+j]? = some v) (hu:P.underlying ty=some d) (hd:d.isRow=true) (hi:(P.info? ty).map (·.size)=some vs.length)
 (h:wpList P ops Q rest (a.put o.dst (.agg vs.toArray)) w):wpList P ops Q (o::rest) a w :=
 uc hg ty x ho g i hx vs d (hB.range i vs hv) hu hd hi h
theorem Ut {E:Prop} (hg:o.guard=none) (ty:TypeId) (x y:Operand) (ho:o.op=.store ty x y) (g i:Nat) (vs:Array Value) (hx:a.eval x=.pointer (some ⟨g,i,none⟩)) (hy:a.eval y=.agg vs)
 (t:TypeId) (cs new:Array Value) (hB:η w g t cs) (hi:i+vs.size≤cs.size) (hn:cs.toList.take i++vs.toList++cs.toList.drop (i+vs.size)=new.toList) (h1:vs.all (·.oneCell')=true) (hsz:(P.info? ty).map (·.size)=some vs.size)
 (h:∀w',η w' g t new→ζ (· = g) w w'→w'.heap.size=w.heap.size→K (a.put o.dst undef) w'):if Region.wanted o (yielded ops a.tmps)=true then Oper.wp P o a w K Q else E:=by
 have hw:Region.wanted o (yielded ops a.tmps)=true:=by simp[Region.wanted,hg]
 rw[σ hw];exact NX ty x y ho g i vs hx hy t cs new hB hi hn h1 hsz h
theorem abr {E:Prop} (hg:o.guard=none) (ty:TypeId) (x y:Operand) (ho:o.op=.store ty x y) (g i:Nat) (v:Value) (hx:a.eval x=.pointer (some ⟨g,i,none⟩)) (hy:a.eval y=v)
 (t:TypeId) (cs new:Array Value) (hB:η w g t cs) (hi:i<cs.size) (hn:cs.setIfInBounds i v=new) (h1:v.oneCell'=true) (hsz:(P.info? ty).map (·.size)=some 1)
 (h:∀w',η w' g t new→ζ (· = g) w w'→w'.heap.size=w.heap.size→K (a.put o.dst undef) w'):if Region.wanted o (yielded ops a.tmps)=true then Oper.wp P o a w K Q else E:=by
 have hw:Region.wanted o (yielded ops a.tmps)=true:=by simp[Region.wanted,hg]
 rw[σ hw];subst hn;exact mD ty x y ho g i v hx hy t cs hB hi h1 hsz h
end
end
end Go.Proofs.YtbhjgfibhegddaaGreat
