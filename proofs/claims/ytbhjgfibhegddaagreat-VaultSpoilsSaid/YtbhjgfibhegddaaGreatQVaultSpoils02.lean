/-
  Parts of the proof of VaultSpoils: Little, Sum, Shelf, Close, PackA, PackB, PathA, Part.
-/
import Derived.Test.YtbhjgfibhegddaaGreatQVaultSpoils01
import Derived.Deep.Light
import Derived.Deep.MidRow
import Derived.Deep.RegionWith
import Derived.Ground.Names2Prog
import Derived.Shelf.Bits.Mul64
import Derived.Shelf.LaysM
import Derived.Shelf.Slices.Clone
import Derived.Shelf.Slices.In.SortNone
import Derived.Shelf.Small.Bits
import Derived.Shelf.Small.Strs
import Derived.Shelf.Sort.Plain
import Derived.Shelf.Strconv.Itoa0
import Derived.Shelf.Strings.Builder1
import Derived.Shelf.Strings.Builder2
import Derived.Shelf.Strings.BuilderF
import Derived.Shelf.Strings.BuilderK
import Derived.Shelf.Strings.Count
import Derived.Shelf.Strings.Cut
import Derived.Shelf.Strings.Prefix
import Derived.Shelf.Strings.Repeat
import Derived.Shelf.Strings.Search1
import Derived.Shelf.Strings.Search2
import Derived.Shelf.Strings.Search3
import Derived.Shelf.Strings.Shaped
import Derived.Test.YtbhjgfibhegddaaGreatProg
set_option maxRecDepth 100000
set_option maxHeartbeats 16000000
namespace Go.Proofs.YtbhjgfibhegddaaGreat
section
open Go Go.RowKit
def bytesV (l:List UInt8):List Value:=l.map fun b=>Value.int .u8 b.toNat
theorem bytesV_app (a b:List UInt8):bytesV (a++b)=bytesV a++bytesV b:=by simp [bytesV]
theorem bytesV_len (a:List UInt8):(bytesV a).length=a.length:=by simp [bytesV]
theorem bytesV_one (l:List UInt8):∀u ∈ bytesV l,u.oneCell'=true:=by
 intro u hu;obtain ⟨_,_,rfl⟩:=List.mem_map.1 hu;rfl
def leB (x:Nat) (n:Nat):List UInt8:=(List.range n).map fun i=>UInt8.ofNat (x / 2 ^ (8*i))
theorem leB_len (x n:Nat):(leB x n).length=n:=by simp [leB]
theorem leB_snoc (x n:Nat):leB x (n+1)=leB x n++[UInt8.ofNat (x / 2 ^ (8*n))]:=by simp [leB,List.range_succ]
theorem byteV (y:Nat):(((UInt8.ofNat y).toNat:Nat):Int)=(y:Int) % 256:=by simp
theorem bytesV_le (x n:Nat):bytesV (leB x (n+1))=bytesV (leB x n)++[.int .u8 ((x:Int) / 2 ^ (8*n) % 256)]:=by
 rw [leB_snoc,bytesV_app];rw [show bytesV [UInt8.ofNat (x / 2 ^ (8*n))]=[.int .u8 ((x:Int) / 2 ^ (8*n) % 256)] from by simp only [bytesV,List.map_cons,List.map_nil];rw [byteV];simp]
def leN:List UInt8→Nat
 | []=>0
 | b::l=>b.toNat+256*leN l
theorem leN_app (a:List UInt8) (b:List UInt8):leN (a++b)=leN a+2 ^ (8*a.length)*leN b:=by
 induction a with
 | nil=>simp [leN]
 | cons x a ih =>
   simp only [List.cons_append,leN,ih,List.length_cons];have:2 ^ (8*(a.length+1))=256*2 ^ (8*a.length):=by rw [Nat.mul_add,Nat.pow_add];omega
   rw [this,Nat.mul_add,Nat.mul_assoc];omega
theorem leN_lt (l:List UInt8):leN l<2 ^ (8*l.length):=by
 induction l with
 | nil=>simp [leN]
 | cons x l ih =>
   have hx:=x.toNat_lt;simp only [leN,List.length_cons];have:2 ^ (8*(l.length+1))=256*2 ^ (8*l.length):=by rw [Nat.mul_add,Nat.pow_add];omega
   omega
theorem leN_leB (x n:Nat) (h:x<2 ^ (8*n)):leN (leB x n)=x:=by
 have key:∀n,leN (leB x n)=x % 2 ^ (8*n):=by
  intro n;induction n with
  | zero=>simp [leB,leN,Nat.mod_one]
  | succ n ih =>
    rw [leB_snoc,leN_app,ih,leB_len];have e:2 ^ (8*(n+1))=2 ^ (8*n)*256:=by rw [Nat.mul_add,Nat.pow_add]
    rw [e,Nat.mod_mul];simp [leN]
 rw [key,Nat.mod_eq_of_lt h]
theorem u64_or_add (a b k:Nat) (ha:a<2 ^ (8*k)) (hb:b<256) (hk:k<8):bits .or .u64 (a:Int) (((b*2 ^ (8*k):Nat):Int))=((a+2 ^ (8*k)*b:Nat):Int):=by
 have h8:2 ^ (8*k)≤2 ^ 56:=Nat.pow_le_pow_right oM oM;have hb2:b*2 ^ (8*k)≤255*2 ^ 56:=Nat.mul_le_mul oM h8;rw [u64_or_nat a _ oM oM,Nat.or_comm,nat_join (8*k) _ _ (Nat.mul_mod_left _ _) ha,Nat.mul_comm b,Nat.add_comm]
theorem le_step (l:List UInt8) (k:Nat) (y:UInt8) (hk:k<8) (hl:l.length=k):bits .or .u64 (leN l:Int) (IntKind.u64.wrap (IntKind.u64.wrap (y.toNat:Int)*2 ^ (8*k)))=(leN (l++[y]):Int):=by
 have hy:=y.toNat_lt;have h8:2 ^ (8*k)≤2 ^ 56:=Nat.pow_le_pow_right oM oM;have hb2:y.toNat*2 ^ (8*k)≤255*2 ^ 56:=Nat.mul_le_mul oM h8;have w64:∀z:Nat,z<18446744073709551616→IntKind.u64.wrap (z:Int)=(z:Int):=by
  intro z hz;simp only [IntKind.wrap,IntKind.bits,IntKind.signed];simp
  omega
 rw [w64 _ oM];have e:((y.toNat:Int)*2 ^ (8*k))=((y.toNat*2 ^ (8*k):Nat):Int):=by push_cast;rfl
 rw [e,w64 _ oM];have hlt:=leN_lt l;rw [hl] at hlt;rw [u64_or_add _ _ k hlt oM hk,leN_app,hl];simp [leN]
theorem infoU8:(Tryz.prog.info? 5).map (fun i=>(i.zero,i.size,i.bytes))=some (some (.int .u8 0),1,1):=kR
theorem take_snoc_ (s:ByteArray) (k:Nat) (h:k<s.size):s.data.toList.take (k+1)=s.data.toList.take k++[s[k]]:=by
 rw [List.take_succ_eq_append_getElem (by simpa using h)];rfl
theorem putLittle_walk {A P:Prop} (f:A) (h:A→P:=by
 intro H;clear H;obtain ⟨i0,hi0,hz0,hz1,hz2⟩:=info_parts infoU8;first | go_enter Tryz.func205,Tryz.ntmps205 | go_enter Tryz.func223,Tryz.ntmps223 | go_enter Tryz.func171,Tryz.ntmps171
 go_wp2_with fail
 go_loopw [0,9] (fun u i wr=>∃k:Nat,k≤n∧i=.int .i64 k∧Own wr 5 1 u (m+k) (xs++bytesV (leB x k))∧Upd (fun k=>v.ownBlock=some k) w wr∧(u.ownBlock=v.ownBlock∨∃q,u.ownBlock=some q∧w.heap.size≤q)) (fun _ i _=>n - (intOf i).toNat)
 case atStart=>exact ⟨0,oM,rfl,by simpa [leB,bytesV] using hown,Upd.refl _ _,.inl rfl⟩
 case round =>
  obtain ⟨k,hk,rfl,ho,hU,hl⟩:=hrel;clear hown;by_cases hlt:k<n
  ·have HX:=h2k hU hl
   clear hU hl;go_wp2_with (at_builtin;refine wpList_append_src rfl _ _ _ _ rfl 5 i0 _ 1 1 Tryz.underlying89 hi0 hz0 hz1 hz2 rfl u0 (m+k) _ rfl (ho.alloc _) _ 1 [_] rfl (Src.of_new Tryz.underlying89 _) (by simp [Value.oneCell']) (by unfold maxLen;omega) oM ?_;intro v2 w2 ho2 hU2 hl2 hs2);obtain ⟨hU,hl⟩:=HX.out;go_roundw
   case rel =>
    refine ⟨k+1,oM,by go_num,?_,(hU.alloc _).then hU2 (fun b hb=>?_),?_⟩
    ·rw [bytesV_le,← List.append_assoc];exact ho2
    ·rcases hl with h | ⟨q,h,hq⟩
     ·exact .inl (by rw [← h];exact hb)
     ·rw [h] at hb;exact .inr (oN (Option.some.inj hb))
    ·have hsz:=hU.size
     rcases hl2 with h | h
     ·rw [h];exact hl
     ·exact .inr ⟨_,h,by simp;omega⟩
   case measure=>simp [intOf];omega
  ·obtain rfl:k=n:=oM
   go_wp2
   go_ret
   exact ⟨u0,rfl,ho,hU,hl⟩):P:=h f
theorem getLittle_walk {A P:Prop} (f:A) (h:A→P:=by
 intro H;clear H;first | go_enter Tryz.func91,Tryz.ntmps91 | go_enter Tryz.func216,Tryz.ntmps216 | go_enter Tryz.func207,Tryz.ntmps207
 go_wp2_with fail
 go_loop [4,7] (fun x i=>∃k:Nat,k≤n∧i=.int .i64 k∧x=.int .u64 (leN (s.data.toList.take k):Int)) (fun _ i=>n - (intOf i).toNat)
 case atStart=>exact ⟨0,oM,rfl,rfl⟩
 case round =>
  obtain ⟨k,hk,rfl,rfl⟩:=hrel;by_cases hlt:k<n
  ·have hlt':k<s.size:=oM
   go_wp2
   go_round
   case rel =>
    refine ⟨k+1,oM,by go_num,?_⟩;rw [take_snoc_ s k hlt',le_step _ k _ oM (by simp;omega)]
   case measure=>simp [intOf];omega
  ·obtain rfl:k=n:=oM
   go_wp2
   go_ret
   exact ⟨rfl,rfl⟩):P:=h f
theorem putLittle_disk (v:Value) (m:Nat) (xs:List Value) (x n:Nat) (w:World) (hown:Own w 5 1 v m xs) (hn:n≤8) (hm:m≤1000000) :
 Calls Tryz.prog 205 #[v,.int .u64 (x:Int),.int .i64 (n:Int)] w fun e w'=>∃v',e=.returned v'∧Own w' 5 1 v' (m+n) (xs++bytesV (leB x n))∧Upd (fun k=>v.ownBlock=some k) w w'∧(v'.ownBlock=v.ownBlock∨∃q,v'.ownBlock=some q∧w.heap.size≤q):=by
 exact putLittle_walk (And.intro hown (And.intro hn hm))
theorem getLittle_disk (s:ByteArray) (n:Nat) (w:World) (hn:n≤8) (hs:n≤s.size) :
 Calls Tryz.prog 91 #[.string s,.int .i64 (n:Int)] w fun e w'=>e=.returned (.int .u64 (leN (s.data.toList.take n):Int))∧w=w':=by
 exact getLittle_walk (And.intro hn hs)
theorem putLittle_kept (v:Value) (m:Nat) (xs:List Value) (x n:Nat) (w:World) (hown:Own w 5 1 v m xs) (hn:n≤8) (hm:m≤1000000) :
 Calls Tryz.prog 223 #[v,.int .u64 (x:Int),.int .i64 (n:Int)] w fun e w'=>∃v',e=.returned v'∧Own w' 5 1 v' (m+n) (xs++bytesV (leB x n))∧Upd (fun k=>v.ownBlock=some k) w w'∧(v'.ownBlock=v.ownBlock∨∃q,v'.ownBlock=some q∧w.heap.size≤q):=by
 exact putLittle_walk (And.intro hown (And.intro hn hm))
theorem getLittle_kept (s:ByteArray) (n:Nat) (w:World) (hn:n≤8) (hs:n≤s.size) :
 Calls Tryz.prog 216 #[.string s,.int .i64 (n:Int)] w fun e w'=>e=.returned (.int .u64 (leN (s.data.toList.take n):Int))∧w=w':=by
 exact getLittle_walk (And.intro hn hs)
theorem putLittle_log (v:Value) (m:Nat) (xs:List Value) (x n:Nat) (w:World) (hown:Own w 5 1 v m xs) (hn:n≤8) (hm:m≤1000000) :
 Calls Tryz.prog 171 #[v,.int .u64 (x:Int),.int .i64 (n:Int)] w fun e w'=>∃v',e=.returned v'∧Own w' 5 1 v' (m+n) (xs++bytesV (leB x n))∧Upd (fun k=>v.ownBlock=some k) w w'∧(v'.ownBlock=v.ownBlock∨∃q,v'.ownBlock=some q∧w.heap.size≤q):=by
 exact putLittle_walk (And.intro hown (And.intro hn hm))
theorem getLittle_log (s:ByteArray) (n:Nat) (w:World) (hn:n≤8) (hs:n≤s.size) :
 Calls Tryz.prog 207 #[.string s,.int .i64 (n:Int)] w fun e w'=>e=.returned (.int .u64 (leN (s.data.toList.take n):Int))∧w=w':=by
 exact getLittle_walk (And.intro hn hs)
def bst (c:Int):Int:=if bits .and .u32 c 1=1 then bits .xor .u32 (c / 2) 3988292384 else c / 2
def bstN:Nat→Int→Int
 | 0,c=>c
 | n+1,c=>bst (bstN n c)
def tb (i:Nat):Int:=bstN 4 i
def tabV:Array Value:=#[.int .u32 (tb 0),.int .u32 (tb 1),.int .u32 (tb 2),.int .u32 (tb 3),.int .u32 (tb 4),.int .u32 (tb 5),.int .u32 (tb 6),.int .u32 (tb 7),.int .u32 (tb 8),.int .u32 (tb 9),.int .u32 (tb 10),.int .u32 (tb 11),.int .u32 (tb 12),.int .u32 (tb 13),.int .u32 (tb 14),.int .u32 (tb 15)]
theorem tabV_size:tabV.size=16:=rfl
theorem tabV_get (i:Nat) (hi:i<16):tabV[i]? = some (.int .u32 (tb i)):=by
 match i,hi with
 | 0,_ | 1,_ | 2,_ | 3,_ | 4,_ | 5,_ | 6,_ | 7,_ | 8,_ | 9,_ | 10,_ | 11,_ | 12,_ | 13,_ | 14,_ | 15,_=>rfl
 | n+16,h=>omega
theorem tabV_one:tabV.all (·.oneCell')=true:=by simp [tabV,Value.oneCell']
theorem bst_yes {c:Int} (h:bits .and .u32 c 1=1):bst c=bits .xor .u32 (c / 2) 3988292384:=by simp [bst,h]
theorem bst_no {c:Int} (h:¬bits .and .u32 c 1=1):bst c=c / 2:=by simp [bst,h]
def nibI (x:Int):Int:=bits .xor .u32 (x / 16) (tb (bits .and .u32 x 15).toNat)
def crcB (c:Int) (y:UInt8):Int:=nibI (nibI (bits .xor .u32 c y.toNat))
def crcL (l:List UInt8):Int:=l.foldl crcB 4294967295
def sumI (l:List UInt8):Int:=bits .xor .u32 IntKind.u32.max (crcL l)
theorem bits_u32_range (op:BinOp) (h:op=.xor∨op=.and) (a b:Int):0≤bits op .u32 a b∧bits op .u32 a b<4294967296:=by
 rcases h with rfl | rfl
 ·have e:bits .xor .u32 a b=IntKind.u32.wrap ((BitVec.ofInt 32 a ^^^ BitVec.ofInt 32 b).toNat:Int):=rfl
  rw [e];generalize (BitVec.ofInt 32 a ^^^ BitVec.ofInt 32 b).toNat=n;rw [IntKind.wrap_u32'];omega
 ·have e:bits .and .u32 a b=IntKind.u32.wrap ((BitVec.ofInt 32 a &&& BitVec.ofInt 32 b).toNat:Int):=rfl
  rw [e];generalize (BitVec.ofInt 32 a &&& BitVec.ofInt 32 b).toNat=n;rw [IntKind.wrap_u32'];omega
def sumN (l:List UInt8):Nat:=(sumI l).toNat
theorem sumI_eq (l:List UInt8):sumI l=(sumN l:Int):=by
 have h:=(bits_u32_range .xor (.inl rfl) IntKind.u32.max (crcL l)).1;unfold sumN;exact (Int.toNat_of_nonneg h).symm
theorem sumN_lt (l:List UInt8):sumN l<4294967296:=by
 have h:=(bits_u32_range .xor (.inl rfl) IntKind.u32.max (crcL l));have e:=sumI_eq l;unfold sumI at e;omega
theorem crcL_snoc (l:List UInt8) (y:UInt8):crcL (l++[y])=crcB (crcL l) y:=by simp [crcL]
theorem nib (x:Int):0≤bits .and .u32 x 15∧bits .and .u32 x 15<16:=by
 have h:bits .and .u32 x 15=IntKind.u32.wrap ((BitVec.ofInt 32 x &&& BitVec.ofInt 32 15).toNat:Int):=rfl;have h2:(BitVec.ofInt 32 x &&& BitVec.ofInt 32 15).toNat<16:=by
  rw [BitVec.toNat_and];have:(BitVec.ofInt 32 15).toNat=15:=rfl;rw [this];exact Nat.lt_of_le_of_lt Nat.and_le_right oM
 rw [h];generalize (BitVec.ofInt 32 x &&& BitVec.ofInt 32 15).toNat=n at h2;rw [IntKind.wrap_u32'];omega
theorem take_snoc (s:ByteArray) (k:Nat) (h:k<s.size):s.data.toList.take (k+1)=s.data.toList.take k++[s[k]]:=by
 rw [List.take_succ_eq_append_getElem (by simpa using h)];rfl
theorem nodup_ext16 {vs:Array Value} (h:vs.size=16) (hall:∀j,j<16→vs[j]? = some (.int .u32 (tb j))):vs=tabV:=by
 apply Array.ext_getElem?
 intro i;by_cases hi:i<16
 ·rw [hall i hi,tabV_get i hi]
 ·rw [Array.getElem?_eq_none oM,Array.getElem?_eq_none (by rw [tabV_size];omega)]
theorem table_c (w:World) :
 Calls Tryz.prog 151 #[] w fun e w'=>e=.returned (.agg tabV)∧Below w.heap.size w w':=by
 go_enter Tryz.func151,Tryz.ntmps151
 go_wp2_with fail
 go_loopw [1,2,3] (fun _ _ i wr=>∃(k:Nat) (vs:Array Value),k≤16∧i=.int .i64 k∧Blk wr w.heap.size 240 vs∧vs.size=16∧(∀j,j<k→vs[j]? = some (.int .u32 (tb j)))∧Below w.heap.size w wr) (fun _ _ i _=>16 - (intOf i).toNat)
 case atStart=>exact ⟨0,_,oM,rfl,Blk.new _ _ _,rfl,oM,(Below.refl _ _).alloc (Nat.le_refl _) _⟩
 case round =>
  obtain ⟨k,vs,hk,rfl,hB,hvs,hall,hbel⟩:=hrel;by_cases hlt:k<16
  ·have Hall:=Lib.hid hall
   clear hall;go_wp2_with fail
   obtain ⟨wo,rfl⟩:∃wo:World,wo=wr:=⟨_,rfl⟩;go_loop [2,8] (fun c m=>∃(n:Nat),n≤4∧m=.int .i64 n∧c=.int .u32 (bstN n k)) (fun _ m=>4 - (intOf m).toNat)
   case atStart=>exact ⟨0,oM,rfl,rfl⟩
   case round =>
    obtain ⟨n,hn,rfl,rfl⟩:=hrel;by_cases hn4:n<4
    ·by_cases hbit:bits .and .u32 (bstN n k) 1=1
     ·have hb1:(bits .and .u32 (bstN n k) 1 == 1)=true:=by simp [hbit]
      have hstep:=Lib.hid (bst_yes hbit);clear hbit;go_wp2
      go_round
      case rel=>exact ⟨n+1,oM,by go_num,by rw [bstN,hstep.out]⟩
      case measure=>simp [intOf];omega
     ·have hb1:(bits .and .u32 (bstN n k) 1 == 1)=false:=by simp [hbit]
      have hstep:=Lib.hid (bst_no hbit);clear hbit;go_wp2
      go_round
      case rel=>exact ⟨n+1,oM,by go_num,by rw [bstN,hstep.out]⟩
      case measure=>simp [intOf];omega
    ·obtain rfl:n=4:=oM
     have hc:=hB.cell k;have hf:=hB.frozen k;rw [Array.getElem?_eq_getElem oM] at hc;go_wp2
     go_roundw
     case rel =>
      refine ⟨k+1,vs.setIfInBounds k (.int .u32 (bstN 4 k)),oM,by go_num,hB.set_ k _,by simpa using hvs,?_,hbel.setCell (Nat.le_refl _) _⟩;intro j hj;by_cases hjk:j=k
      ·subst hjk
       simp [hvs,hlt,tb]
      ·rw [Array.getElem?_setIfInBounds_ne (Ne.symm hjk)]
       exact Hall.out j oM
     case measure=>simp [intOf];omega
  ·obtain rfl:k=16:=oM
   have hv:vs=tabV:=nodup_ext16 hvs hall;subst hv;clear hall;go_wp2_with (first | (refine wpList_load_all rfl _ _ rfl w.heap.size rfl _ tabV _ hB Tryz.underlying240 rfl rfl ?_) | (refine wpList_store_all rfl 240 _ _ rfl w.heap.size tabV rfl rfl _ tabV hB rfl tabV_one kR ?_;intro w2 hB2 hU2 hs2));refine bodyPost_ret (results_cell_row rfl _ _ w.heap.size _ tabV _ _ rfl hB2 Tryz.underlying240 rfl rfl) rfl ⟨rfl,?_⟩;exact hbel.trans ⟨hU2.os,hU2.tape,hU2.output,hU2.size,fun b hb=>hU2.block b (Nat.lt_of_lt_of_le hb hbel.size) oM⟩
theorem Sum_c (s:ByteArray) (w:World) (hs:s.size≤9223372036854775807) :
 Calls Tryz.prog 92 #[.string s] w fun e w'=>e=.returned (.int .u32 (sumN s.data.toList:Int))∧Below w.heap.size w w':=by
 go_enter Tryz.func92,Tryz.ntmps92
 go_wp2_with fail
 refine (table_c _).mono ?_;rintro e w1 ⟨rfl,hb1⟩;unfold tabV;go_wp2_with fail
 generalize hW:w1.alloc _=W;have hcell:∀i:Nat,i<16→W.cell? ⟨w1.heap.size,i,none⟩=some (.int .u32 (tb i)):=by
  intro i hi;rw [← hW,World.cell?_alloc_new];exact tabV_get i hi
 have hb2:Below w.heap.size w W:=by rw [← hW];exact hb1.alloc hb1.size _
 have Hcell:=Lib.hid hcell;clear hcell hW;go_loop [4,9] (fun c i=>∃k:Nat,k≤s.size∧i=.int .i64 k∧c=.int .u32 (crcL (s.data.toList.take k))) (fun _ i=>s.size - (intOf i).toNat)
 case atStart=>exact ⟨0,oM,rfl,rfl⟩
 case round =>
  obtain ⟨k,hk,rfl,rfl⟩:=hrel;by_cases hlt:k<s.size
  ·have HS:Hid (crcL (s.data.toList.take (k+1))=crcB (crcL (s.data.toList.take k)) s[k]):=by rw [take_snoc s k hlt];exact crcL_snoc _ _
   generalize crcL (s.data.toList.take k)=c' at HS;have hy:((s[k]'hlt).toNat:Int)<256:=by have:=(s[k]'hlt).toNat_lt;omega
   have l1:=nib (bits .xor .u32 c' (s[k]'hlt).toNat);have g1:=Hcell.out (bits .and .u32 (bits .xor .u32 c' (s[k]'hlt).toNat) 15).toNat oM;have l2:=nib (bits .xor .u32 (bits .xor .u32 c' (s[k]'hlt).toNat / 16) (tb (bits .and .u32 (bits .xor .u32 c' (s[k]'hlt).toNat) 15).toNat));have g2:=Hcell.out (bits .and .u32 (bits .xor .u32 (bits .xor .u32 c' (s[k]'hlt).toNat / 16) (tb (bits .and .u32 (bits .xor .u32 c' (s[k]'hlt).toNat) 15).toNat)) 15).toNat oM;go_wp2
   go_round
   case rel=>exact ⟨k+1,oM,by go_num,by rw [HS.out];rfl⟩
   case measure=>simp [intOf];omega
  ·go_wp2
   go_ret
   refine ⟨?_,hb2⟩;rw [List.take_of_length_le (by simp;omega),← sumI_eq];rfl
end
end Go.Proofs.YtbhjgfibhegddaaGreat
namespace Go.Proofs
open Go.Shelf
def Tryz.lays169_ren:Go.Shelf.Ren:=⟨fun | 169=>74 | n=>n,fun | 70=>137 | 9=>9 | 0=>0 | 72=>139 | 37=>89 | 127=>226 | 3=>3 | 5=>5 | n=>n,fun | n=>n⟩
theorem Tryz.lays169:Go.Proofs.Lays.n169 Tryz.prog Tryz.lays169_ren := {
 mixed:=by kernel_rfl
 f169:=Tryz.func74.trans (congrArg some (by kernel_rfl))
 t0:=Tryz.underlying0
 a0:=Tryz.isAgg0
 z0:=Tryz.sizeOf0
 v0:=Tryz.zeroValue0
 t3:=Tryz.underlying3
 a3:=Tryz.isAgg3
 z3:=Tryz.sizeOf3
 v3:=Tryz.zeroValue3
 t9:=Tryz.underlying9
 a9:=Tryz.isAgg9
 z9:=Tryz.sizeOf9
 v9:=Tryz.zeroValue9
 t37:=Tryz.underlying89
 a37:=Tryz.isAgg89
 z37:=Tryz.sizeOf89
 v37:=Tryz.zeroValue89
 t70:=Tryz.underlying137
 a70:=Tryz.isAgg137
 z70:=Tryz.sizeOf137
 v70:=Tryz.zeroValue137
 t72:=Tryz.underlying139
 a72:=Tryz.isAgg139
 z72:=Tryz.sizeOf139
 v72:=Tryz.zeroValue139
 t127:=Tryz.underlying226
 a127:=Tryz.isAgg226
 z127:=Tryz.sizeOf226
 v127:=Tryz.zeroValue226 }
theorem Tryz.Builder_Extra_169:Builder.Extra Tryz.prog Tryz.lays169_ren := {
 sizeBuilder:=by kernel_rfl
 liesBuilder:=by kernel_rfl
 t5:=Tryz.underlying5
 a5:=Tryz.isAgg5
 z5:=Tryz.sizeOf5
 v5:=Tryz.zeroValue5
 infoByte:=by kernel_rfl
 cellsByte:=by kernel_rfl
 sizeByte:=by kernel_rfl
 neB5:=by decide }
open Go.RowKit in
theorem Tryz.Builder_String_any (B b:Nat) (l:List UInt8) (w:World) (h:Lib.IsBuilder 139 5 B b (Lib.byteCells l) w) (hBw:B≤w.heap.size) :
 Calls Tryz.prog 74 #[.pointer (some ⟨b,0,none⟩)] w fun e w'=>e=.returned (.string ⟨l.toArray⟩)∧Below B w w':=Any.Builder_String_any Tryz.lays169 Tryz.Builder_Extra_169 B b l w h hBw
def Tryz.lays137_ren:Go.Shelf.Ren:=⟨fun | 137=>225 | 217=>238 | 266=>269 | n=>n,fun | 9=>9 | 5=>5 | 3=>3 | n=>n,fun | n=>n⟩
theorem Tryz.lays137:Go.Proofs.Lays.n137 Tryz.prog Tryz.lays137_ren := {
 mixed:=by kernel_rfl
 f137:=Tryz.func225.trans (congrArg some (by kernel_rfl))
 f217:=Tryz.func238.trans (congrArg some (by kernel_rfl))
 f266:=Tryz.func269.trans (congrArg some (by kernel_rfl))
 t3:=Tryz.underlying3
 a3:=Tryz.isAgg3
 z3:=Tryz.sizeOf3
 v3:=Tryz.zeroValue3
 t5:=Tryz.underlying5
 a5:=Tryz.isAgg5
 z5:=Tryz.sizeOf5
 v5:=Tryz.zeroValue5
 t9:=Tryz.underlying9
 a9:=Tryz.isAgg9
 z9:=Tryz.sizeOf9
 v9:=Tryz.zeroValue9 }
open Go.RowKit in
theorem Tryz.strings_IndexByte (s:ByteArray) (c:Int) (w:World) :
 Calls Tryz.prog 225 #[.string s,.int .u8 c] w fun e w'=>e=.returned (.int .i64 (Lib.indexByte s.data.toList c.toNat.toUInt8))∧w'=w:=Any.strings_IndexByte Tryz.lays137 s c w
def Tryz.lays129_ren:Go.Shelf.Ren:=⟨fun | 129=>204 | n=>n,fun | 53=>112 | 3=>3 | 4=>4 | 46=>133 | 5=>5 | 9=>9 | n=>n,fun | n=>n⟩
theorem Tryz.lays129:Go.Proofs.Lays.n129 Tryz.prog Tryz.lays129_ren := {
 mixed:=by kernel_rfl
 f129:=Tryz.func204.trans (congrArg some (by kernel_rfl))
 t3:=Tryz.underlying3
 a3:=Tryz.isAgg3
 z3:=Tryz.sizeOf3
 v3:=Tryz.zeroValue3
 t4:=Tryz.underlying4
 a4:=Tryz.isAgg4
 z4:=Tryz.sizeOf4
 v4:=Tryz.zeroValue4
 t5:=Tryz.underlying5
 a5:=Tryz.isAgg5
 z5:=Tryz.sizeOf5
 v5:=Tryz.zeroValue5
 t9:=Tryz.underlying9
 a9:=Tryz.isAgg9
 z9:=Tryz.sizeOf9
 v9:=Tryz.zeroValue9
 t46:=Tryz.underlying133
 a46:=Tryz.isAgg133
 z46:=Tryz.sizeOf133
 v46:=Tryz.zeroValue133
 t53:=Tryz.underlying112
 a53:=Tryz.isAgg112
 z53:=Tryz.sizeOf112
 v53:=Tryz.zeroValue112 }
theorem Tryz.bits_Len64 (x:Int) (w:World) (h0:0≤x) (h1:x≤18446744073709551615) :
 Calls Tryz.prog 204 #[.int .u64 x] w fun e w'=>e=.returned (.int .i64 (Lib.bitLen x.toNat))∧w'=w:=Any.bits_Len64 Tryz.lays129 x w h0 h1
def Tryz.lays219_ren:Go.Shelf.Ren:=⟨fun | 219=>198 | 217=>238 | 225=>239 | 224=>240 | 267=>241 | 266=>269 | 314=>270 | n=>n,fun | 9=>9 | 3=>3 | 4=>4 | 5=>5 | 46=>133 | 146=>222 | 51=>113 | n=>n,fun | 1=>0 | n=>n⟩
theorem Tryz.lays219:Go.Proofs.Lays.n219 Tryz.prog Tryz.lays219_ren := {
 mixed:=by kernel_rfl
 f217:=Tryz.func238.trans (congrArg some (by kernel_rfl))
 f219:=Tryz.func198.trans (congrArg some (by kernel_rfl))
 f224:=Tryz.func240.trans (congrArg some (by kernel_rfl))
 f225:=Tryz.func239.trans (congrArg some (by kernel_rfl))
 f266:=Tryz.func269.trans (congrArg some (by kernel_rfl))
 f267:=Tryz.func241.trans (congrArg some (by kernel_rfl))
 f314:=Tryz.func270.trans (congrArg some (by kernel_rfl))
 t3:=Tryz.underlying3
 a3:=Tryz.isAgg3
 z3:=Tryz.sizeOf3
 v3:=Tryz.zeroValue3
 t4:=Tryz.underlying4
 a4:=Tryz.isAgg4
 z4:=Tryz.sizeOf4
 v4:=Tryz.zeroValue4
 t5:=Tryz.underlying5
 a5:=Tryz.isAgg5
 z5:=Tryz.sizeOf5
 v5:=Tryz.zeroValue5
 t9:=Tryz.underlying9
 a9:=Tryz.isAgg9
 z9:=Tryz.sizeOf9
 v9:=Tryz.zeroValue9
 t46:=Tryz.underlying133
 a46:=Tryz.isAgg133
 z46:=Tryz.sizeOf133
 v46:=Tryz.zeroValue133
 t51:=Tryz.underlying113
 a51:=Tryz.isAgg113
 z51:=Tryz.sizeOf113
 v51:=Tryz.zeroValue113
 t146:=Tryz.underlying222
 a146:=Tryz.isAgg222
 z146:=Tryz.sizeOf222
 v146:=Tryz.zeroValue222
 g1:=by kernel_rfl }
open Go.RowKit Go.Lib in
theorem Tryz.stringslite_Index_one (s:ByteArray) (c:UInt8) (w:World) :
 Calls Tryz.prog 198 #[.string s,.string ⟨#[c]⟩] w fun e w'=>e=.returned (.int .i64 (Lib.indexByte s.data.toList c))∧w'=w:=Any.stringslite_Index_one Tryz.lays219 s c w
def Tryz.lays138_ren:Go.Shelf.Ren:=⟨fun | 138=>90 | 195=>148 | 218=>149 | 143=>150 | 219=>198 | 217=>238 | 225=>239 | 224=>240 | 267=>241 | 266=>269 | 314=>270 | n=>n,fun | 9=>9 | 3=>3 | 4=>4 | 5=>5 | 0=>0 | 46=>133 | 146=>222 | 51=>113 | n=>n,fun | 1=>0 | n=>n⟩
theorem Tryz.lays138:Go.Proofs.Lays.n138 Tryz.prog Tryz.lays138_ren := {
 mixed:=by kernel_rfl
 f138:=Tryz.func90.trans (congrArg some (by kernel_rfl))
 f143:=Tryz.func150.trans (congrArg some (by kernel_rfl))
 f195:=Tryz.func148.trans (congrArg some (by kernel_rfl))
 f217:=Tryz.func238.trans (congrArg some (by kernel_rfl))
 f218:=Tryz.func149.trans (congrArg some (by kernel_rfl))
 f219:=Tryz.func198.trans (congrArg some (by kernel_rfl))
 f224:=Tryz.func240.trans (congrArg some (by kernel_rfl))
 f225:=Tryz.func239.trans (congrArg some (by kernel_rfl))
 f266:=Tryz.func269.trans (congrArg some (by kernel_rfl))
 f267:=Tryz.func241.trans (congrArg some (by kernel_rfl))
 f314:=Tryz.func270.trans (congrArg some (by kernel_rfl))
 t0:=Tryz.underlying0
 a0:=Tryz.isAgg0
 z0:=Tryz.sizeOf0
 v0:=Tryz.zeroValue0
 t3:=Tryz.underlying3
 a3:=Tryz.isAgg3
 z3:=Tryz.sizeOf3
 v3:=Tryz.zeroValue3
 t4:=Tryz.underlying4
 a4:=Tryz.isAgg4
 z4:=Tryz.sizeOf4
 v4:=Tryz.zeroValue4
 t5:=Tryz.underlying5
 a5:=Tryz.isAgg5
 z5:=Tryz.sizeOf5
 v5:=Tryz.zeroValue5
 t9:=Tryz.underlying9
 a9:=Tryz.isAgg9
 z9:=Tryz.sizeOf9
 v9:=Tryz.zeroValue9
 t46:=Tryz.underlying133
 a46:=Tryz.isAgg133
 z46:=Tryz.sizeOf133
 v46:=Tryz.zeroValue133
 t51:=Tryz.underlying113
 a51:=Tryz.isAgg113
 z51:=Tryz.sizeOf113
 v51:=Tryz.zeroValue113
 t146:=Tryz.underlying222
 a146:=Tryz.isAgg222
 z146:=Tryz.sizeOf222
 v146:=Tryz.zeroValue222
 g1:=by kernel_rfl }
open Go.RowKit Go.Lib in
theorem Tryz.strings_Count_one (s:ByteArray) (c:UInt8) (w:World) :
 Calls Tryz.prog 90 #[.string s,.string ⟨#[c]⟩] w fun e w'=>e=.returned (.int .i64 (Lib.countByte s.data.toList c))∧w'=w:=Any.strings_Count_one Tryz.lays138 s c w
def Tryz.lays190_ren:Go.Shelf.Ren:=⟨fun | 190=>192 | 125=>197 | 258=>227 | 128=>237 | 129=>204 | 302=>254 | 303=>255 | 304=>256 | 305=>257 | 306=>258 | 307=>259 | 308=>260 | 309=>261 | 310=>262 | 333=>282 | 329=>264 | 330=>265 | 334=>283 | 335=>284 | 336=>285 | 344=>302 | n=>n,fun | 31=>147 | 9=>9 | 3=>3 | 46=>133 | 0=>0 | 51=>113 | 53=>112 | 4=>4 | 183=>329 | 182=>328 | 131=>307 | 5=>5 | 218=>352 | 222=>283 | 228=>373 | 229=>26 | n=>n,fun | n=>n⟩
theorem Tryz.lays190:Go.Proofs.Lays.n190 Tryz.prog Tryz.lays190_ren := {
 mixed:=by kernel_rfl
 f125:=Tryz.func197.trans (congrArg some (by kernel_rfl))
 f128:=Tryz.func237.trans (congrArg some (by kernel_rfl))
 f129:=Tryz.func204.trans (congrArg some (by kernel_rfl))
 f190:=Tryz.func192.trans (congrArg some (by kernel_rfl))
 f258:=Tryz.func227.trans (congrArg some (by kernel_rfl))
 f302:=Tryz.func254.trans (congrArg some (by kernel_rfl))
 f303:=Tryz.func255.trans (congrArg some (by kernel_rfl))
 f304:=Tryz.func256.trans (congrArg some (by kernel_rfl))
 f305:=Tryz.func257.trans (congrArg some (by kernel_rfl))
 f306:=Tryz.func258.trans (congrArg some (by kernel_rfl))
 f307:=Tryz.func259.trans (congrArg some (by kernel_rfl))
 f308:=Tryz.func260.trans (congrArg some (by kernel_rfl))
 f309:=Tryz.func261.trans (congrArg some (by kernel_rfl))
 f310:=Tryz.func262.trans (congrArg some (by kernel_rfl))
 f329:=Tryz.func264.trans (congrArg some (by kernel_rfl))
 f330:=Tryz.func265.trans (congrArg some (by kernel_rfl))
 f333:=Tryz.func282.trans (congrArg some (by kernel_rfl))
 f334:=Tryz.func283.trans (congrArg some (by kernel_rfl))
 f335:=Tryz.func284.trans (congrArg some (by kernel_rfl))
 f336:=Tryz.func285.trans (congrArg some (by kernel_rfl))
 f344:=Tryz.func302.trans (congrArg some (by kernel_rfl))
 t0:=Tryz.underlying0
 a0:=Tryz.isAgg0
 z0:=Tryz.sizeOf0
 v0:=Tryz.zeroValue0
 t3:=Tryz.underlying3
 a3:=Tryz.isAgg3
 z3:=Tryz.sizeOf3
 v3:=Tryz.zeroValue3
 t4:=Tryz.underlying4
 a4:=Tryz.isAgg4
 z4:=Tryz.sizeOf4
 v4:=Tryz.zeroValue4
 t5:=Tryz.underlying5
 a5:=Tryz.isAgg5
 z5:=Tryz.sizeOf5
 v5:=Tryz.zeroValue5
 t9:=Tryz.underlying9
 a9:=Tryz.isAgg9
 z9:=Tryz.sizeOf9
 v9:=Tryz.zeroValue9
 t31:=Tryz.underlying147
 a31:=Tryz.isAgg147
 z31:=Tryz.sizeOf147
 v31:=Tryz.zeroValue147
 t46:=Tryz.underlying133
 a46:=Tryz.isAgg133
 z46:=Tryz.sizeOf133
 v46:=Tryz.zeroValue133
 t51:=Tryz.underlying113
 a51:=Tryz.isAgg113
 z51:=Tryz.sizeOf113
 v51:=Tryz.zeroValue113
 t53:=Tryz.underlying112
 a53:=Tryz.isAgg112
 z53:=Tryz.sizeOf112
 v53:=Tryz.zeroValue112
 t131:=Tryz.underlying307
 a131:=Tryz.isAgg307
 z131:=Tryz.sizeOf307
 v131:=Tryz.zeroValue307
 t182:=Tryz.underlying328
 a182:=Tryz.isAgg328
 z182:=Tryz.sizeOf328
 v182:=Tryz.zeroValue328
 t183:=Tryz.underlying329
 a183:=Tryz.isAgg329
 z183:=Tryz.sizeOf329
 v183:=Tryz.zeroValue329
 t218:=Tryz.underlying352
 a218:=Tryz.isAgg352
 z218:=Tryz.sizeOf352
 v218:=Tryz.zeroValue352
 t222:=Tryz.underlying283
 a222:=Tryz.isAgg283
 z222:=Tryz.sizeOf283
 v222:=Tryz.zeroValue283
 t228:=Tryz.underlying373
 a228:=Tryz.isAgg373
 z228:=Tryz.sizeOf373
 v228:=Tryz.zeroValue373
 t229:=Tryz.underlying26
 a229:=Tryz.isAgg26
 z229:=Tryz.sizeOf26
 v229:=Tryz.zeroValue26 }
open Go.Sort Go.RowKit in
theorem Tryz.slices_Sort_string (blk off cap:Nat) (ss:List (List UInt8)) (w:World) (hH:Holds encStr w blk off ss.toArray) (hblk:blk<w.heap.size) (hsz:ss.length<4611686018427387904) :
 Calls Tryz.prog 192 #[.slice (some ⟨blk,off,none⟩) ss.length cap] w fun e w' =>
  e=.returned (.tuple #[])∧∃n os,w'=grow (putRow encStr (Sort.ahead w n) blk off (ss.mergeSort fun x y=>decide (x≤y)).toArray) os:=Any.slices_Sort_string Tryz.lays190 blk off cap ss w hH hblk hsz
def Tryz.lays105_ren:Go.Shelf.Ren:=⟨fun | 105=>20 | 212=>69 | 99=>70 | 165=>71 | 166=>72 | 170=>73 | 169=>74 | 263=>129 | 264=>130 | 206=>131 | 240=>132 | 241=>133 | 276=>187 | 277=>188 | n=>n,fun | 9=>9 | 3=>3 | 4=>4 | 20=>20 | 0=>0 | 46=>133 | 109=>134 | 5=>5 | 72=>139 | 76=>142 | 51=>113 | 146=>222 | 53=>112 | 148=>224 | 70=>137 | 37=>89 | 75=>141 | 127=>226 | 164=>296 | 80=>144 | n=>n,fun | n=>n⟩
theorem Tryz.lays105:Go.Proofs.Lays.n105 Tryz.prog Tryz.lays105_ren := {
 mixed:=by kernel_rfl
 f99:=Tryz.func70.trans (congrArg some (by kernel_rfl))
 f105:=Tryz.func20.trans (congrArg some (by kernel_rfl))
 f165:=Tryz.func71.trans (congrArg some (by kernel_rfl))
 f166:=Tryz.func72.trans (congrArg some (by kernel_rfl))
 f169:=Tryz.func74.trans (congrArg some (by kernel_rfl))
 f170:=Tryz.func73.trans (congrArg some (by kernel_rfl))
 f206:=Tryz.func131.trans (congrArg some (by kernel_rfl))
 f212:=Tryz.func69.trans (congrArg some (by kernel_rfl))
 f240:=Tryz.func132.trans (congrArg some (by kernel_rfl))
 f241:=Tryz.func133.trans (congrArg some (by kernel_rfl))
 f263:=Tryz.func129.trans (congrArg some (by kernel_rfl))
 f264:=Tryz.func130.trans (congrArg some (by kernel_rfl))
 f276:=Tryz.func187.trans (congrArg some (by kernel_rfl))
 f277:=Tryz.func188.trans (congrArg some (by kernel_rfl))
 t0:=Tryz.underlying0
 a0:=Tryz.isAgg0
 z0:=Tryz.sizeOf0
 v0:=Tryz.zeroValue0
 t3:=Tryz.underlying3
 a3:=Tryz.isAgg3
 z3:=Tryz.sizeOf3
 v3:=Tryz.zeroValue3
 t4:=Tryz.underlying4
 a4:=Tryz.isAgg4
 z4:=Tryz.sizeOf4
 v4:=Tryz.zeroValue4
 t5:=Tryz.underlying5
 a5:=Tryz.isAgg5
 z5:=Tryz.sizeOf5
 v5:=Tryz.zeroValue5
 t9:=Tryz.underlying9
 a9:=Tryz.isAgg9
 z9:=Tryz.sizeOf9
 v9:=Tryz.zeroValue9
 t20:=Tryz.underlying20
 a20:=Tryz.isAgg20
 z20:=Tryz.sizeOf20
 v20:=Tryz.zeroValue20
 t37:=Tryz.underlying89
 a37:=Tryz.isAgg89
 z37:=Tryz.sizeOf89
 v37:=Tryz.zeroValue89
 t46:=Tryz.underlying133
 a46:=Tryz.isAgg133
 z46:=Tryz.sizeOf133
 v46:=Tryz.zeroValue133
 t51:=Tryz.underlying113
 a51:=Tryz.isAgg113
 z51:=Tryz.sizeOf113
 v51:=Tryz.zeroValue113
 t53:=Tryz.underlying112
 a53:=Tryz.isAgg112
 z53:=Tryz.sizeOf112
 v53:=Tryz.zeroValue112
 t70:=Tryz.underlying137
 a70:=Tryz.isAgg137
 z70:=Tryz.sizeOf137
 v70:=Tryz.zeroValue137
 t72:=Tryz.underlying139
 a72:=Tryz.isAgg139
 z72:=Tryz.sizeOf139
 v72:=Tryz.zeroValue139
 t75:=Tryz.underlying141
 a75:=Tryz.isAgg141
 z75:=Tryz.sizeOf141
 v75:=Tryz.zeroValue141
 t76:=Tryz.underlying142
 a76:=Tryz.isAgg142
 z76:=Tryz.sizeOf142
 v76:=Tryz.zeroValue142
 t109:=Tryz.underlying134
 a109:=Tryz.isAgg134
 z109:=Tryz.sizeOf134
 v109:=Tryz.zeroValue134
 t127:=Tryz.underlying226
 a127:=Tryz.isAgg226
 z127:=Tryz.sizeOf226
 v127:=Tryz.zeroValue226
 t146:=Tryz.underlying222
 a146:=Tryz.isAgg222
 z146:=Tryz.sizeOf222
 v146:=Tryz.zeroValue222
 t148:=Tryz.underlying224
 a148:=Tryz.isAgg224
 z148:=Tryz.sizeOf224
 v148:=Tryz.zeroValue224
 t164:=Tryz.underlying296
 a164:=Tryz.isAgg296
 z164:=Tryz.sizeOf296
 v164:=Tryz.zeroValue296 }
theorem Tryz.Builder_Extra_105:Builder.Extra Tryz.prog Tryz.lays105_ren := {
 sizeBuilder:=by kernel_rfl
 liesBuilder:=by kernel_rfl
 t5:=Tryz.underlying5
 a5:=Tryz.isAgg5
 z5:=Tryz.sizeOf5
 v5:=Tryz.zeroValue5
 infoByte:=by kernel_rfl
 cellsByte:=by kernel_rfl
 sizeByte:=by kernel_rfl
 neB5:=by decide }
open Go.RowKit Go.Lib in
theorem Tryz.strings_Repeat (s:ByteArray) (c:Nat) (w:World) (hc:c≤9223372036854775807) (hlen:s.size*c≤140737488355328) :
 Calls Tryz.prog 20 #[.string s,.int .i64 c] w fun e w'=>e=.returned (.string ⟨(Lib.repeatL s.data.toList c).toArray⟩)∧Below w.heap.size w w':=Any.strings_Repeat Tryz.lays105 Tryz.Builder_Extra_105 s c w hc hlen
open Go.RowKit Go.Sort in
theorem Tryz.slices_Sort_string_none (p:Option Addr) (cap:Nat) (w:World) :
 Calls Tryz.prog 192 #[.slice p 0 cap] w fun e w'=>e=.returned (.tuple #[])∧w'=w:=Any.slices_Sort_string_none Tryz.lays190 p cap w
end Go.Proofs
namespace Go.Proofs.YtbhjgfibhegddaaGreat
section
open Go Go.RowKit
def str (l:List UInt8):ByteArray:=⟨l.toArray⟩
theorem str_list (l:List UInt8):(str l).data.toList=l:=rfl
theorem str_size (l:List UInt8):(str l).size=l.length:=by simp [str,ByteArray.size]
theorem str_eta (s:ByteArray):str s.data.toList=s:=rfl
theorem str_inj {a b:List UInt8} (h:str a=str b):a=b:=by have:=congrArg (fun s=>s.data.toList) h;simpa [str] using this
section
variable {w:World}
theorem strOfNums_bytes (l:List UInt8):strOfNums (l.map fun b=>((b.toNat:Nat):Int))=str l:=by
 unfold strOfNums str;congr 2
 simp [List.map_map,Function.comp_def]
theorem run_to_string {v:Value} {n:Nat} {l:List UInt8} (h:Own w 5 1 v n (bytesV l)):(convert 89 9 v).run Tryz.prog w=.ok (.string (str l)) w:=by
 have hn:l.length=n:=by have:=h.1;simp [bytesV] at this;omega
 rcases h.2 with ⟨rfl,rfl⟩ | ⟨g,cap,cur,fr,rfl,_⟩
 ·have:l=[]:=List.eq_nil_of_length_eq_zero hn
  subst this;exact run_convert_bytes_nil w _ _ Tryz.underlying89 Tryz.underlying5 0 0 _ Tryz.underlying9
 ·rw [← strOfNums_bytes]
  refine run_convert_bytes_arg w _ _ Tryz.underlying89 Tryz.underlying5 g 0 n cap _ (by simpa using hn) (fun i hi=>?_) _ Tryz.underlying9;rw [Nat.zero_add,h.cellAt i oM];simp [bytesV,show i<l.length by omega]
theorem run_to_bytes (w:World) (s:ByteArray) (hs:s.size≤maxLen) :
 ∃v' w',(convert 9 89 (.string s)).run Tryz.prog w=.ok v' w'∧Own w' 5 1 v' s.size (bytesV s.data.toList)∧Upd (fun _=>False) w w'∧v'.ownBlock=some w.heap.size∧w'.heap.size=w.heap.size+1:=by
 refine ⟨_,_,Lib.run_convert_string_bytes w _ _ _ s Tryz.underlying9 Tryz.underlying89 Tryz.underlying5,?_,?_,rfl,Lib.bytesWorld_size w _ s⟩
 ·have hge:=grownCap_ge w s.size 0 5
  refine ⟨by simp [bytesV],.inr ⟨w.heap.size,_,_,_,rfl,Lib.bytesWorld_at_new w _ s,.inr (Nat.le_refl _),hge,grownCap_le_maxLen w _ _ _ hs,?_,?_⟩⟩
  ·simp [Lib.bytesCells]
   omega
  ·have e:∀k,(bytesV s.data.toList++List.replicate k (Value.int .u8 0)).take (s.size*1)=bytesV s.data.toList:=by
    intro k;rw [List.take_append_of_le_length (by simp [bytesV]),List.take_of_length_le (by simp [bytesV])]
   simp only [Lib.bytesCells,Array.toList_append,Array.toList_map,Array.toList_replicate];exact e _
 ·refine ⟨rfl,rfl,rfl,?_,fun k hk _=>Lib.bytesWorld_at_old w _ s k hk⟩
  rw [Lib.bytesWorld_size];omega
end
def closeL (l:List UInt8):List UInt8:=l++leB (sumN l) 4
def lookL (l:List UInt8):List UInt8 × Int :=
 if l.length≠64 then ([],2) else if l=List.replicate 64 0 then ([],0) else if leN (l.drop 60)≠sumN (l.take 60) then ([],2) else (l.take 60,1)
theorem count_zero (l:List UInt8):Lib.countByte l 0=l.length↔l=List.replicate l.length 0:=by
 unfold Lib.countByte;rw [List.count_eq_length,List.eq_replicate_iff];simp [eq_comm]
theorem below_of_drew {w w':World} (h:Below w.drew.heap.size w.drew w'):Below w.heap.size w w':=⟨h.os,h.tape,h.output,h.size,h.block⟩
theorem look_test (s:ByteArray) (h:s.size=64):IntKind.u32.wrap (leN (List.take 4 (List.take (s.size - 60) (List.drop 60 s.data.toList))):Int)=(leN (s.data.toList.drop 60):Int):=by
 have hl:(s.data.toList.drop 60).length=4:=by simp [h]
 rw [List.take_of_length_le (i:=4) (by simp;omega),List.take_of_length_le oM];have:=leN_lt (s.data.toList.drop 60);rw [hl] at this;rw [IntKind.wrap_u32'];omega
theorem extract_str (s:ByteArray) (n:Nat):s.extract 0 n=str (s.data.toList.take n):=by
 have:(s.extract 0 n).data.toList=s.data.toList.take n:=by simp
 rw [← this,str_eta]
theorem extract_str_from (s:ByteArray) (n m:Nat):s.extract n m=str ((s.data.toList.drop n).take (m - n)):=by
 have:(s.extract n m).data.toList=(s.data.toList.drop n).take (m - n):=by simp [List.take_drop]
 rw [← this,str_eta]
theorem Close_c (s:ByteArray) (w:World) (hs:s.size=60) :
 Calls Tryz.prog 157 #[.string s] w fun e w'=>e=.returned (.tuple #[.string (str (closeL s.data.toList)),.int .i64 0])∧Below w.heap.size w w':=by
 have hb:((s.size:Int) != 60)=false:=by rw [hs];rfl
 have hlt:=sumN_lt s.data.toList;have hs':s.size≤9223372036854775807:=oM;have HC:Hid (bytesV s.data.toList++bytesV (leB (sumN s.data.toList) 4)=bytesV (closeL s.data.toList)):=by unfold closeL;rw [bytesV_app];rfl
 obtain ⟨v1,w1,hrun,hown,hU,hblk,hsz⟩:=run_to_bytes w s (by unfold maxLen;omega);have H1:=h4k hown hU hblk hsz;clear hs hown hU hblk hsz;go_enter Tryz.func157,Tryz.ntmps157
 go_wp2_with fail
 refine (Sum_c _ _ hs').mono ?_;rintro e w2 ⟨rfl,hb2⟩;go_wp2_with fail
 obtain ⟨hown,hU,hblk,hsz⟩:=H1.out;have hown2:Own w2 5 1 v1 s.size (bytesV s.data.toList):=hown.eqb (fun k hk=>hb2.block k (hown.lt hk));refine (putLittle_disk v1 s.size _ (sumN s.data.toList) 4 w2 hown2 oM (by simp at hb;omega)).mono ?_;rintro e w3 ⟨v3,rfl,hown3,hU3,hl3⟩;rw [HC.out] at hown3;have hs2:=hb2.size;have HB:Hid (Below w.heap.size w w3):=by
  refine ((hU.below (fun _ h=>h.elim)).trans (hb2.mono oM)).trans ⟨hU3.os,hU3.tape,hU3.output,hU3.size,fun k hk=>hU3.block k oM (fun e=>?_)⟩;rw [hblk] at e;have:=Option.some.inj e;omega
 have hrun3:=run_to_string hown3;clear hown hU hblk hsz hown2 hown3 hU3 hl3 hb2 hrun hlt hs2;go_wp2
 go_ret2
 exact ⟨rfl,HB.out⟩
theorem Look_c (s:ByteArray) (w:World) (hs:s.size≤9223372036854775807) :
 Calls Tryz.prog 47 #[.string s] w fun e w'=>e=.returned (.tuple #[.string (str (lookL s.data.toList).1),.int .i64 (lookL s.data.toList).2])∧Below w.heap.size w w':=by
 by_cases h64:s.size=64
 ·have hb:((s.size:Int) != 64)=false:=by rw [h64];rfl
  have hc:=fun W=>Tryz.strings_Count_one s 0 W
  by_cases hz:s.data.toList=List.replicate 64 0
  ·have hl:lookL s.data.toList=([],0):=by unfold lookL;rw [if_neg (by simp [h64]),if_pos hz]
   have hn:Lib.countByte s.data.toList 0=64:=by
    have:=(count_zero s.data.toList).2 (by rw [hz];simp)
    rw [this];simp [h64]
   rw [hl];simp only [hn] at hc;have Hc:=Lib.hid hc;clear hc hn hl hz h64;go_enter Tryz.func47,Tryz.ntmps47
   go_wp2_with (go_at_call 90;refine (Hc.out _).mono ?_;rintro e w' ⟨rfl,rfl⟩);go_ret2
   exact ⟨rfl,Below.refl _ _⟩
  ·have hn:((Lib.countByte s.data.toList 0:Int) == 64)=false:=by
    rw [beq_eq_false_iff_ne];intro h;apply hz
    have h2:Lib.countByte s.data.toList 0=s.data.toList.length:=by simp [h64];omega
    have h3:=(count_zero _).1 h2;rw [h3];simp [h64]
   have Hc:=Lib.hid hc;clear hc;have H64:=Lib.hid h64;have Hz:=Lib.hid hz;clear hz h64;go_enter Tryz.func47,Tryz.ntmps47
   go_wp2_with (go_at_call 90;refine (Hc.out _).mono ?_;rintro e w' ⟨rfl,rfl⟩);have hge:60≤s.size:=by rw [H64.out];omega
   go_region_with (first
    | (go_at_call 91;refine (getLittle_disk _ 4 _ oM (by rw [ByteArray.size_extract,H64.out];omega)).mono ?_;rintro e w' ⟨rfl,rfl⟩)
    | (go_at_call 92;refine (Sum_c _ _ (by rw [ByteArray.size_extract,H64.out];omega)).mono ?_;rintro e w' ⟨rfl,hb2⟩))
   all_goals go_wp2
   all_goals
    go_ret2
    first
     | (have ht:(IntKind.u32.wrap (leN (List.take 4 (List.take (s.size - 60) (List.drop 60 s.data.toList))):Int) != (sumN (List.take 60 s.data.toList):Int))=true:=aS
        rw [look_test s H64.out,bne_iff_ne] at ht;refine ⟨?_,by first | exact below_of_drew hb2 | exact hb2⟩;rw [show lookL s.data.toList=([],2) from by unfold lookL;rw [if_neg (by simp [H64.out]),if_neg Hz.out,if_pos oM]];rfl)
     | (have ht:(IntKind.u32.wrap (leN (List.take 4 (List.take (s.size - 60) (List.drop 60 s.data.toList))):Int) != (sumN (List.take 60 s.data.toList):Int))=false:=aS
        rw [look_test s H64.out,bne_eq_false_iff_eq] at ht;refine ⟨?_,by first | exact below_of_drew hb2 | exact hb2⟩;rw [show lookL s.data.toList=(s.data.toList.take 60,1) from by unfold lookL;rw [if_neg (by simp [H64.out]),if_neg Hz.out,if_neg oM]];rw [← extract_str];rfl)
 ·have hb:((s.size:Int) != 64)=true:=by rw [bne_iff_ne];omega
  have hl:lookL s.data.toList=([],2):=by unfold lookL;rw [if_pos (by simpa using h64)]
  rw [hl];clear hl h64;go_enter Tryz.func47,Tryz.ntmps47
  go_wp2
  go_ret2
  exact ⟨rfl,Below.refl _ _⟩
theorem own_bytes (w:World) (l:List UInt8) (hl:l.length≤1000000):Own (w.alloc (.cells (bytesV l).toArray 5)) 5 1 (.slice (some ⟨w.heap.size,0,none⟩) l.length l.length) l.length (bytesV l):=by
 refine ⟨by simp [bytesV],.inr ⟨w.heap.size,l.length,(bytesV l).toArray,(0,0),rfl,heap_alloc_new w _,.inl rfl,Nat.le_refl _,by unfold maxLen;omega,by simp [bytesV],?_⟩⟩;rw [List.take_of_length_le (by simp [bytesV])]
def Bs (x:Nat):Nat:=(x / 2) ^^^ (if x % 2=1 then 3988292384 else 0)
def Bn:Nat→Nat→Nat
 | 0,x=>x
 | n+1,x=>Bn n (Bs x)
theorem Bn_add (m n x:Nat):Bn (m+n) x=Bn n (Bn m x):=by
 induction m generalizing x with
 | zero=>simp [Bn]
 | succ m ih=>rw [Nat.add_right_comm,Bn,ih,Bn]
theorem xor_lc (a b c:Nat):a ^^^ (b ^^^ c)=b ^^^ (a ^^^ c):=by rw [← Nat.xor_assoc,Nat.xor_comm a b,Nat.xor_assoc]
theorem xor_half (a b:Nat):(a ^^^ b) / 2=a / 2 ^^^ b / 2:=by
 have h:=Nat.shiftRight_xor_distrib (a:=a) (b:=b) (i:=1);simpa [Nat.shiftRight_eq_div_pow] using h
theorem xor_odd (a b:Nat):(a ^^^ b) % 2=(a+b) % 2:=by
 have h:=Nat.xor_mod_two_pow (a:=a) (b:=b) (n:=1);rw [show (2:Nat) ^ 1=2 from rfl] at h;rw [h];rcases Nat.mod_two_eq_zero_or_one a with ha | ha<;>rcases Nat.mod_two_eq_zero_or_one b with hb | hb<;>rw [ha,hb]<;>simp<;>omega
theorem Bs_xor (a b:Nat):Bs (a ^^^ b)=Bs a ^^^ Bs b:=by
 unfold Bs;rw [xor_half,xor_odd];rcases Nat.mod_two_eq_zero_or_one a with ha | ha<;>rcases Nat.mod_two_eq_zero_or_one b with hb | hb
 ·rw [if_neg oM,if_neg oM,if_neg oM];simp
 ·rw [if_pos oM,if_neg oM,if_pos oM];simp [Nat.xor_assoc]
 ·rw [if_pos oM,if_pos oM,if_neg oM];rw [Nat.xor_zero,Nat.xor_assoc,Nat.xor_assoc,Nat.xor_comm (b / 2)]
 ·rw [if_neg oM,if_pos oM,if_pos oM]
  have e:a / 2 ^^^ 3988292384 ^^^ (b / 2 ^^^ 3988292384)=a / 2 ^^^ (b / 2 ^^^ (3988292384 ^^^ 3988292384)):=by rw [Nat.xor_assoc,xor_lc 3988292384]
  rw [e,Nat.xor_self];simp
theorem Bn_xor (n a b:Nat):Bn n (a ^^^ b)=Bn n a ^^^ Bn n b:=by
 induction n generalizing a b with
 | zero=>rfl
 | succ n ih=>rw [Bn,Bs_xor,ih,Bn,Bn]
theorem Bn_up (n z:Nat):Bn n (2 ^ n*z)=z:=by
 induction n with
 | zero=>simp [Bn]
 | succ n ih =>
   have e:2 ^ (n+1)*z=2*(2 ^ n*z):=by rw [Nat.pow_succ,Nat.mul_comm (2 ^ n) 2,Nat.mul_assoc]
   rw [Bn,e,Bs,if_neg oM,Nat.mul_div_cancel_left _ oM,Nat.xor_zero,ih]
theorem Bs_lt (x:Nat) (h:x<2 ^ 32):Bs x<2 ^ 32:=by
 unfold Bs;refine Nat.xor_lt_two_pow oM ?_;split<;>decide
theorem Bs_ne (x:Nat) (h:x<2 ^ 32) (h0:x≠0):Bs x≠0:=by
 unfold Bs;intro e;have e2:x / 2=(if x % 2=1 then 3988292384 else 0):=by
  have:=congrArg (· ^^^ (if x % 2=1 then 3988292384 else 0)) e;simpa [Nat.xor_assoc] using this
 split at e2<;>omega
theorem Bn_ne (n x:Nat) (h:x<2 ^ 32) (h0:x≠0):Bn n x≠0:=by
 induction n generalizing x with
 | zero=>exact h0
 | succ n ih=>exact ih (Bs x) (Bs_lt x h) (Bs_ne x h h0)
theorem Bn_lt (n x:Nat) (h:x<2 ^ 32):Bn n x<2 ^ 32:=by
 induction n generalizing x with
 | zero=>exact h
 | succ n ih=>exact ih (Bs x) (Bs_lt x h)
theorem ofInt_nat (a:Nat):BitVec.ofInt 32 (a:Int)=BitVec.ofNat 32 a:=by simp
theorem xorN (a b:Nat) (ha:a<4294967296) (hb:b<4294967296):bits .xor .u32 (a:Int) (b:Int)=((a ^^^ b:Nat):Int):=by
 have e:bits .xor .u32 (a:Int) (b:Int)=IntKind.u32.wrap ((BitVec.ofInt 32 (a:Int) ^^^ BitVec.ofInt 32 (b:Int)).toNat:Int):=rfl;have:=Nat.xor_lt_two_pow (n:=32) ha hb;rw [e,ofInt_nat,ofInt_nat,BitVec.toNat_xor,BitVec.toNat_ofNat,BitVec.toNat_ofNat,Nat.mod_eq_of_lt ha,Nat.mod_eq_of_lt hb,IntKind.wrap_u32'];omega
theorem andN (a:Nat) (ha:a<4294967296):bits .and .u32 (a:Int) 15=((a % 16:Nat):Int):=by
 have e:bits .and .u32 (a:Int) 15=IntKind.u32.wrap ((BitVec.ofInt 32 (a:Int) &&& BitVec.ofInt 32 15).toNat:Int):=rfl;have e2:(BitVec.ofInt 32 15).toNat=15:=rfl;have e3:=Nat.and_two_pow_sub_one_eq_mod a 4;rw [show (2:Nat) ^ 4 - 1=15 from rfl,show (2:Nat) ^ 4=16 from rfl] at e3;rw [e,ofInt_nat,BitVec.toNat_and,BitVec.toNat_ofNat,e2,Nat.mod_eq_of_lt ha,e3,IntKind.wrap_u32'];omega
theorem tb_eq:∀i:Fin 16,tb i.val=(Bn 4 i.val:Int):=by decide +kernel
theorem nib_split (x:Nat):Bn 4 x=x / 16 ^^^ Bn 4 (x % 16):=by
 have h:x=(x % 16) ^^^ (2 ^ 4*(x / 16)):=by
  have h1:(x % 16) ^^^ (2 ^ 4*(x / 16))=(x % 16)+2 ^ 4*(x / 16):=by
   apply Nat.eq_of_testBit_eq
   intro i;rw [Nat.add_comm,Nat.testBit_xor,Nat.testBit_two_pow_mul_add _ (show x % 16<2 ^ 4 by omega),Nat.testBit_two_pow_mul];by_cases hi:i<4
   ·have h4:¬4≤i:=oM
    simp [hi,h4]
   ·have:(x % 16).testBit i=false:=Nat.testBit_lt_two_pow (Nat.lt_of_lt_of_le (show x % 16<2 ^ 4 by omega) (Nat.pow_le_pow_right oM oM))
    have h4:4≤i:=oM;simp [hi,this,h4]
  omega
 rw [h,Bn_xor,Bn_up,Nat.xor_comm];congr 1
 ·rw [← h]
 ·rw [← h]
theorem nibI_nat (x:Nat) (h:x<4294967296):nibI (x:Int)=(Bn 4 x:Int):=by
 have h4:Bn 4 (x % 16)<4294967296:=Bn_lt 4 (x % 16) oM;have e:=tb_eq ⟨x % 16,oM⟩;simp only at e
 unfold nibI;rw [andN x h,Int.toNat_natCast,e,show (x:Int) / 16=((x / 16:Nat):Int) from rfl,xorN _ _ oM h4,← nib_split]
theorem crcB_nat (c:Nat) (y:UInt8) (h:c<4294967296):crcB (c:Int) y=(Bn 8 (c ^^^ y.toNat):Int):=by
 have hy:=y.toNat_lt;have hx:c ^^^ y.toNat<4294967296:=Nat.xor_lt_two_pow (n:=32) h oM;have h4:Bn 4 (c ^^^ y.toNat)<4294967296:=Bn_lt 4 _ hx;unfold crcB;rw [xorN _ _ h oM,nibI_nat _ hx,nibI_nat _ h4,← Bn_add]
def crcN (c:Nat) (l:List UInt8):Nat:=l.foldl (fun c y=>Bn 8 (c ^^^ y.toNat)) c
theorem crcN_lt (c:Nat) (l:List UInt8) (h:c<4294967296):crcN c l<4294967296:=by
 induction l generalizing c with
 | nil=>exact h
 | cons y l ih =>
   have hy:=y.toNat_lt;exact ih _ (Bn_lt 8 _ (Nat.xor_lt_two_pow (n:=32) h oM))
theorem crcL_nat (l:List UInt8):crcL l=(crcN 4294967295 l:Int):=by
 have key:∀(l:List UInt8) (c:Nat),c<4294967296→l.foldl crcB (c:Int)=(crcN c l:Int):=by
  intro l;induction l with
  | nil=>intro c _;rfl
  | cons y l ih =>
    intro c h;have hy:=y.toNat_lt;rw [List.foldl_cons,crcB_nat c y h,ih _ (Bn_lt 8 _ (Nat.xor_lt_two_pow (n:=32) h oM))];rfl
 exact key l 4294967295 oM
theorem sumN_nat (l:List UInt8):sumN l=4294967295 ^^^ crcN 4294967295 l:=by
 have h:=crcN_lt 4294967295 l oM;have e:IntKind.u32.max=((4294967295:Nat):Int):=rfl;unfold sumN sumI;rw [crcL_nat,e,xorN _ _ oM h,Int.toNat_natCast]
theorem leN_xor (y:UInt8) (l:List UInt8):leN (y::l)=y.toNat ^^^ (2 ^ 8*leN l):=by
 have hy:=y.toNat_lt;rw [leN];apply Nat.eq_of_testBit_eq
 intro i;rw [show (256:Nat)=2 ^ 8 from rfl,Nat.add_comm,Nat.testBit_xor,Nat.testBit_two_pow_mul_add _ (show y.toNat<2 ^ 8 by omega),Nat.testBit_two_pow_mul];by_cases hi:i<8
 ·have h4:¬8≤i:=oM
  simp [hi,h4]
 ·have:y.toNat.testBit i=false:=Nat.testBit_lt_two_pow (Nat.lt_of_lt_of_le (show y.toNat<2 ^ 8 by omega) (Nat.pow_le_pow_right oM oM))
  have h4:8≤i:=oM;simp [hi,this,h4]
theorem crcN_word (c:Nat) (l:List UInt8):crcN c l=Bn (8*l.length) (c ^^^ leN l):=by
 induction l generalizing c with
 | nil=>simp [crcN,leN,Bn]
 | cons y l ih =>
   have h:crcN c (y::l)=crcN (Bn 8 (c ^^^ y.toNat)) l:=rfl;rw [h,ih,List.length_cons,show 8*(l.length+1)=8+8*l.length by omega,Bn_add,leN_xor,← Nat.xor_assoc,Bn_xor 8 (c ^^^ y.toNat),Bn_up]
def fits (s:List UInt8):Prop:=s.length=64∧leN (s.drop 60)=sumN (s.take 60)
theorem fits_res (s:List UInt8) (h:fits s):Bn 512 (4294967295 ^^^ leN s)=Bn 32 4294967295:=by
 obtain ⟨hl,hs⟩:=h;have e:crcN 4294967295 s=crcN (crcN 4294967295 (s.take 60)) (s.drop 60):=by
  unfold crcN;rw [← List.foldl_append,List.take_append_drop]
 have e2:=crcN_word 4294967295 s;have e3:=crcN_word (crcN 4294967295 (s.take 60)) (s.drop 60);rw [hl] at e2;rw [List.length_drop,hl,hs,sumN_nat] at e3;rw [show 512=8*64 from rfl,← e2,e,e3,Nat.xor_comm 4294967295,← Nat.xor_assoc,Nat.xor_self,Nat.zero_xor]
theorem fits_burst {s t:List UInt8} (hs:fits s) (ht:fits t) (q e:Nat) (he:e<2 ^ 32) (hq:q≤512) (h:leN t=leN s ^^^ (2 ^ q*e)):e=0:=by
 apply Classical.byContradiction
 intro h0;have r1:=fits_res s hs;have r2:=fits_res t ht;rw [h,← Nat.xor_assoc,Bn_xor,r1] at r2;have r3:Bn 512 (2 ^ q*e)=0:=by
  have:=congrArg (Bn 32 4294967295 ^^^ ·) r2;simpa [← Nat.xor_assoc] using this
 rw [show 512=q+(512 - q) by omega,Bn_add,Bn_up] at r3;exact Bn_ne _ e he h0 r3
theorem look_fits {s:List UInt8} (h:(lookL s).2=1):fits s:=by
 unfold lookL at h;split at h
 ·simp at h
 ·split at h
  ·simp at h
  ·split at h
   ·simp at h
   ·rename_i h1 h2 h3
    exact ⟨by simpa using h1,by simpa using h3⟩
theorem leB_leN (l:List UInt8):leB (leN l) l.length=l:=by
 induction l with
 | nil=>rfl
 | cons b l ih =>
   have hb:=b.toNat_lt;unfold leB at ih ⊢;rw [List.length_cons,List.range_succ_eq_map,List.map_cons,List.map_map];congr 1
   ·apply UInt8.toNat.inj
    simp [leN]
   ·refine Eq.trans (List.map_congr_left fun i _=>?_) ih
    show UInt8.ofNat (leN (b::l) / 2 ^ (8*(i+1)))=_;congr 1
    rw [show 8*(i+1)=8+8*i by omega,Nat.pow_add,← Nat.div_div_eq_div_mul];congr 1
    rw [leN];omega
theorem bitLen_64 (n:Nat) (h:n<18446744073709551616):Lib.bitLen n≤64:=by
 by_cases h0:n=0
 ·subst h0;decide
 ·have h1:=(Lib.bitLenAux_bounds 64 n oM h0).2.1
  apply Classical.byContradiction
  intro hc;have h2:2 ^ 64≤2 ^ (Lib.bitLen n - 1):=Nat.pow_le_pow_right oM oM;have h3:2 ^ (Lib.bitLen n - 1)≤n:=h1;have e:(2:Nat) ^ 64=18446744073709551616:=dC;omega
theorem size_c (n:Nat) (w:World) (h:n<18446744073709551616):Calls Tryz.prog 155 #[.int .u64 (n:Int)] w fun e w'=>e=.returned (.int .i64 (sizeN n:Int))∧w=w':=by
 have hb:=sizeN_bitLen n h;have hl:=bitLen_64 n h;have HL:=Lib.hid (fun W=>Tryz.bits_Len64 (n:Int) W oM oM);rw [Int.toNat_natCast] at HL;generalize Lib.bitLen n=b at *;have e1:IntKind.i64.wrap ((b:Int)+7)=((b+7:Nat):Int):=IntWalk.i64_in _ oM;go_enter Tryz.func155,Tryz.ntmps155
 go_wp2_with fail
 refine (HL.out _).mono ?_;rintro e w' ⟨rfl,rfl⟩;go_wp2_with fail
 go_ret
 refine ⟨?_,rfl⟩;have:max (1:Int) (((b:Int)+7 - 1) / 7)=(sizeN n:Int):=oM;rw [← this];rfl
theorem or_128 (k:Nat):bits .or .u8 ((k:Int) % 256) 128=((k % 128+128:Nat):Int):=by
 have h:∀x:Fin 256,bits .or .u8 (x.val:Int) 128=((x.val % 128+128:Nat):Int):=by decide +kernel
 have h1:=h ⟨k % 256,oM⟩;have e:((k % 256:Nat):Int)=(k:Int) % 256:=oM;have e2:k % 256 % 128=k % 128:=oM;simp only [e,e2] at h1;exact h1
theorem sget (s:ByteArray) (i:Nat) (h:i<s.size):s.data.toList.getD i 0=s[i]:=by simp [List.getD,h,ByteArray.getElem_eq_getElem_data]
theorem valN_cons_drop (t:List UInt8) (i:Nat) (h:i<t.length):valN (t.drop i)=(t.getD i 0).toNat % 128+128*valN (t.drop (i+1)):=by
 rw [List.drop_eq_getElem_cons h];show _ % 128+128*_=_;rw [List.getD_eq_getElem?_getD,List.getElem?_eq_getElem h];rfl
theorem or_low (N b:Nat) (h:128*N<18446744073709551616):bits .or .u64 ((N:Int)*128) ((b:Int) % 128)=((b % 128+128*N:Nat):Int):=by
 have e1:(N:Int)*128=((N*128:Nat):Int):=by push_cast;rfl
 have e2:(b:Int) % 128=((b % 128:Nat):Int):=oM;rw [e1,e2,u64_or_nat _ _ oM oM,nat_join 7 _ _ (by show N*128 % 128=0;omega) (by show b % 128<128;omega)];omega
theorem number_c (s:ByteArray) (w:World):Calls Tryz.prog 218 #[.string s] w fun e w'=>e=.returned (.tuple #[.int .u64 ((numL s.data.toList).1:Int),.int .i64 ((numL s.data.toList).2.1:Int),.int .i64 (numL s.data.toList).2.2])∧w=w':=by
 have hlen:s.data.toList.length=s.size:=by simp
 obtain ⟨R,hR⟩:=eqx (numL s.data.toList);rw [hR];have HR:=Lib.hid hR;clear hR;go_enter Tryz.func218,Tryz.ntmps218
 go_wp2_with fail
 go_loop [3] (fun i=>∃c:Nat,i=.int .i64 (c:Int)∧c≤10∧c≤s.size∧∀j,j<c→128≤(s.data.toList.getD j 0).toNat) (fun i=>10 - (intOf i).toNat)
 case atStart=>exact ⟨0,rfl,oM,oM,fun j hj=>by omega⟩
 case round =>
  obtain ⟨c,rfl,hc1,hc2,hg⟩:=hrel;by_cases hgo:c<10∧c<s.size∧128≤(s.data.toList.getD c 0).toNat
  ·obtain ⟨h1,h2,h3⟩:=hgo
   rw [sget s c h2] at h3;go_wp2_with fail
   go_round
   case rel =>
    refine ⟨c+1,by go_num,oM,oM,fun j hj=>?_⟩;by_cases e:j=c
    ·subst e;rw [sget s j h2];exact h3
    ·exact hg j oM
   case measure=>simp [intOf];omega
  ·have hlead:leadN s.data.toList 10=c:=leadN_is _ _ _ hc1 oM hg (by
    by_cases c1:c=10
    ·exact .inl c1
    ·by_cases c2:c=s.size
     ·exact .inr (.inl oM)
     ·refine .inr (.inr ?_)
      apply Classical.byContradiction
      intro c3;exact hgo ⟨oM,oM,oM⟩)
   have hcase:¬(c:Int)<min (s.size:Int) 10∨(c<10∧∃h:c<s.size,(s[c]).toNat<128):=by
    by_cases c2:c<s.size
    ·by_cases c1:c<10
     ·refine .inr ⟨c1,c2,?_⟩
      apply Classical.byContradiction
      intro c3;exact hgo ⟨c1,c2,by rw [sget s c c2];omega⟩
     ·exact .inl oM
    ·exact .inl oM
   clear hgo;rcases hcase with hx | ⟨hx1,hx2,hx3⟩
   ·by_cases c10:c=10
    ·subst c10
     have hRv:R=(0,0,8):=by rw [← HR.out,numL,if_pos hlead]
     subst hRv;go_wp2_with fail
     go_ret3
     exact ⟨rfl,rfl⟩
    ·have cs:c=s.size:=oM
     have hRv:R=(0,0,7):=by rw [← HR.out,numL,hlead,if_neg c10,if_pos oM]
     subst hRv;have cs':(c:Int)=(s.size:Int):=oM;go_wp2_with fail
     go_ret3
     exact ⟨rfl,rfl⟩
   ·have hne1:leadN s.data.toList 10≠10:=oM
    have hne2:leadN s.data.toList 10≠s.data.toList.length:=oM;have hv:=val_ten hne1 hne2;by_cases h9:c=9∧1<(s.data.toList.getD 9 0).toNat
    ·have hRv:R=(0,0,8):=by rw [← HR.out,numL,if_neg hne1,if_neg hne2,hlead,if_pos h9]
     subst hRv;obtain ⟨rfl,h9⟩:=h9;rw [sget s 9 hx2] at h9;clear hg hlead hv hne1 hne2 hlen HR;go_wp2_with fail
     go_ret3
     exact ⟨rfl,rfl⟩
    ·have hvlt:=hv.2 (by rw [hlead];exact h9)
     rw [hlead] at hvlt;have hRv:=HR.out;rw [numL,if_neg hne1,if_neg hne2,hlead,if_neg h9] at hRv;have hx9:((c:Int) == 9)=false∨(((c:Int) == 9)=true∧(s[c]).toNat≤1):=by
      by_cases c9:c=9
      ·subst c9
       refine .inr ⟨rfl,?_⟩;apply Classical.byContradiction
       intro hc;exact h9 ⟨rfl,by rw [sget s 9 hx2];omega⟩
      ·exact .inl (by rw [beq_eq_false_iff_ne];omega)
     have hte:∀m,m≤c→(s.data.toList.take (c+1)).getD m 0=s.data.toList.getD m 0:=fun m hm=>getD_take_ _ _ _ oM
     have htl:(s.data.toList.take (c+1)).length=c+1:=by rw [List.length_take];omega
     have HX:=h4k hRv hvlt hte htl;clear h9 hg hlead hv hne1 hne2 hlen HR hRv hvlt hte htl;rcases hx9 with hx9 | ⟨hx9,hx8⟩
     all_goals
      go_wp2_with fail
      go_loop [2,5] (fun n i=>∃m:Nat,m≤c+1∧i=.int .i64 ((m:Int) - 1)∧n=.int .u64 ((valN ((s.data.toList.take (c+1)).drop m):Nat):Int)) (fun _ i=>((intOf i)+1).toNat)
      case atStart =>
       refine ⟨c+1,oM,by go_num,?_⟩;rw [List.drop_of_length_le (by rw [HX.out.2.2.2];omega)];rfl
      case round =>
       obtain ⟨m,hm,rfl,rfl⟩:=hrel;cases m with
       | zero =>
         go_wp2_with fail
         refine (size_c _ _ HX.out.2.1).mono ?_;rintro e w' ⟨rfl,rfl⟩;have hRv:=HX.out.1;by_cases hz:sizeN (valN (s.data.toList.take (c+1)))=c+1
         ·rw [if_pos hz] at hRv
          subst hRv;go_wp2_with fail
          go_ret3
          exact ⟨rfl,rfl⟩
         ·rw [if_neg hz] at hRv
          subst hRv;go_wp2_with fail
          go_ret3
          exact ⟨rfl,rfl⟩
       | succ k =>
         have hk:k<s.size:=oM;have hbd:=valN_drop (s.data.toList.take (c+1)) k;have hst:=valN_cons_drop (s.data.toList.take (c+1)) k (by rw [HX.out.2.2.2];omega);rw [HX.out.2.2.1 k oM,sget s k hk] at hst;have hvl:=HX.out.2.1;obtain ⟨N,hN⟩:=eqx (valN ((s.data.toList.take (c+1)).drop (k+1)));rw [hN] at hst ⊢;have hb:=(s[k]).toNat_lt;have hNl:128*N<18446744073709551616:=oM;have HK:=h3k hst hbd hvl;clear hst hbd hvl hN;go_wp2_with fail
         go_round
         case rel =>
          refine ⟨k,oM,by go_num,?_⟩;rw [HK.out.1];rw [or_low N _ hNl]
         case measure=>simp [intOf]
theorem num_fits (s:List UInt8):(numL s).1<18446744073709551616∧(numL s).2.1≤10∧(numL s).2.1≤s.length∧((numL s).2.2=0∨(numL s).2.2=7∨(numL s).2.2=8):=by
 rcases num_bad s with h | h | h
 ·obtain ⟨⟨a,b,c⟩,hq⟩:∃q,numL s=q:=⟨_,rfl⟩
  rw [hq] at h ⊢;obtain rfl:c=0:=h;obtain ⟨h1,h2,h3,h4⟩:=num_ok hq;have:=size_u64 h1;exact ⟨h1,by show b≤10;omega,h3,.inl rfl⟩
 ·rw [h];simp
 ·rw [h];simp
theorem zz21 {P:Prop} (h:P:=by
 go_enter Tryz.func220,Tryz.ntmps220
 go_wp2_with fail
 refine (HN.out _).mono ?_;rintro e w' ⟨rfl,rfl⟩;go_wp2_with fail
 go_ret3
 exact ⟨rfl,rfl⟩):P:=h
theorem bounded_c (s:ByteArray) (m:Nat) (hm:m≤9223372036854775807) (w:World):Calls Tryz.prog 220 #[.string s,.int .i64 (m:Int)] w fun e w'=>e=.returned (.tuple #[.int .i64 ((boundL s.data.toList m).1:Int),.int .i64 ((boundL s.data.toList m).2.1:Int),.int .i64 (boundL s.data.toList m).2.2])∧w=w':=by
 have hN:=number_c s;have hf:=num_fits s.data.toList;unfold boundL;obtain ⟨⟨a,b,c⟩,hq⟩:∃q,numL s.data.toList=q:=⟨_,rfl⟩;rw [hq] at hf;simp only [hq] at hN ⊢;have HN:=Lib.hid hN;clear hN;simp only at hf
 obtain ⟨hf1,hf2,hf3,hf4⟩:=hf;by_cases hc:c=0
 ·subst hc
  by_cases hle:a≤m
  ·rw [if_pos rfl,if_pos hle]
   exact zz21
  ·rw [if_pos rfl,if_neg hle]
   exact zz21
 ·rw [if_neg hc]
  exact zz21
def letter (c:UInt8):Bool:=decide (97≤c.toNat∧c.toNat≤122)
theorem okName_iff (s:List UInt8):okName s=(decide (1≤s.length∧s.length≤8) && s.all letter):=rfl
theorem take_all_step {s:List UInt8} {p:UInt8→Bool} {k:Nat} (hk:k<s.length) (h:(s.take k).all p=true) (h2:p (s.getD k 0)=true):(s.take (k+1)).all p=true:=by
 rw [List.take_succ_eq_append_getElem hk,List.all_append,h];rw [List.getD_eq_getElem?_getD,List.getElem?_eq_getElem hk] at h2;simpa using h2
theorem all_false {s:List UInt8} {p:UInt8→Bool} {k:Nat} (hk:k<s.length) (h2:p (s.getD k 0)=false):s.all p=false:=by
 rw [List.getD_eq_getElem?_getD,List.getElem?_eq_getElem hk] at h2;rw [List.all_eq_false];exact ⟨s[k],List.getElem_mem hk,by simpa using h2⟩
theorem zz37 {P:Prop} (h:P:=by
 have hBv:B=false:=by
  rw [← HB.out.1,okName_iff,all_false (k:=k) (by rw [HB.out.2];exact hlt) (by unfold letter;rw [hsg];simp;omega),Bool.and_false]
 subst hBv;clear hsg;go_wp2_with fail
 go_ret
 exact ⟨rfl,rfl⟩):P:=h
theorem named_c (s:ByteArray) (hs:s.size≤1000000) (w:World) :
 Calls Tryz.prog 142 #[.string s] w fun e w'=>e=.returned (.bool (okName s.data.toList))∧w=w':=by
 have hlen:s.data.toList.length=s.size:=by simp
 obtain ⟨B,hB⟩:=eqx (okName s.data.toList);rw [hB];have HB:=h2k hB hlen;clear hB hlen;go_enter Tryz.func142,Tryz.ntmps142
 go_wp2_with fail
 go_loop [3,6] (fun _ i=>∃k:Nat,k≤s.size∧i=.int .i64 (k:Int)∧(s.data.toList.take k).all letter=true) (fun _ i=>s.size - (intOf i).toNat)
 case atStart=>exact ⟨0,oM,rfl,rfl⟩
 case round =>
  obtain ⟨k,hk,rfl,hall⟩:=hrel;have HA:=Lib.hid hall;clear hall;by_cases hlt:k<s.size
  ·have j1:(k:Int)<(s.size:Int):=oM
   have hsg:=sget s k hlt;by_cases h1:(s[k]).toNat<97
   ·exact zz37
   ·by_cases h2:122<(s[k]).toNat
    ·exact zz37
    ·have HL:=Lib.hid (take_all_step (by rw [HB.out.2];exact hlt) HA.out (by unfold letter;rw [hsg];simp;omega))
     clear hsg;go_wp2_with fail
     go_round
     case rel=>exact ⟨k+1,oM,by go_num,HL.out⟩
     case measure=>simp [intOf]<;>omega
  ·obtain rfl:k=s.size:=oM
   have hB2:B=decide (1≤s.size∧s.size≤8):=by
    have ha:=HA.out;rw [List.take_of_length_le (by rw [HB.out.2];omega)] at ha;rw [← HB.out.1,okName_iff,ha,HB.out.2,Bool.and_true]
   have HB2:=Lib.hid hB2;clear hB2 hlt hk;by_cases h1:(1:Int)≤(s.size:Int)
   ·by_cases h2:(s.size:Int)≤8
    ·obtain rfl:B=true:=by rw [HB2.out];simp;omega
     go_wp2_with fail
     go_ret
     exact ⟨rfl,rfl⟩
    ·obtain rfl:B=false:=by rw [HB2.out];simp;omega
     go_wp2_with fail
     go_ret
     exact ⟨rfl,rfl⟩
   ·obtain rfl:B=false:=by rw [HB2.out];simp;omega
    go_wp2_with fail
    go_ret
    exact ⟨rfl,rfl⟩
theorem indexByte_not {l:List UInt8} {c:UInt8} (h:l.all (· != c)=true):Lib.indexByte l c=-1:=by
 induction l with
 | nil=>rfl
 | cons b r ih =>
   simp only [List.all_cons,Bool.and_eq_true,bne_iff_ne] at h;unfold Lib.indexByte;rw [if_neg (by simpa using h.1),ih (by simpa using h.2)];rfl
theorem indexByte_neg {l:List UInt8} {c:UInt8} : Lib.indexByte l c<0↔l.all (· != c)=true:=by
 constructor
 ·intro h
  induction l with
  | nil=>rfl
  | cons b r ih =>
    unfold Lib.indexByte at h;by_cases e:b=c
    ·rw [if_pos (by simpa using e)] at h
     omega
    ·rw [if_neg (by simpa using e)] at h
     have hg:=Lib.indexByte_ge r c;by_cases e2:Lib.indexByte r c=-1
     ·have:=ih oM
      simp [e]
      simpa using this
     ·rw [if_neg (by simpa using e2)] at h
      omega
 ·intro h
  rw [indexByte_not h];decide
theorem headP_cons (b:UInt8) (r:List UInt8):headP (b::r)=if b=47 then [] else b::headP r:=by
 unfold headP;rw [List.takeWhile_cons];by_cases e:b=47
 ·rw [if_pos e,e]
  rfl
 ·rw [if_neg e,if_pos (by simpa using e)]
theorem indexByte_head (l:List UInt8):Lib.indexByte l 47=if (headP l).length<l.length then ((headP l).length:Int) else -1:=by
 induction l with
 | nil=>rfl
 | cons b r ih =>
   rw [headP_cons];unfold Lib.indexByte;by_cases e:b=47
   ·rw [if_pos (by simpa using e),if_pos e]
    simp
   ·rw [if_neg (by simpa using e),ih,if_neg e,List.length_cons,List.length_cons]
    by_cases h:(headP r).length<r.length
    ·rw [if_pos h,if_neg sM,if_pos oM]
     omega
    ·rw [if_neg h,if_pos (by rfl),if_neg oM]
theorem takeWhile_take {α : Type} (p : α → Bool) (l:List α):l.takeWhile p=l.take (l.takeWhile p).length:=by
 induction l with
 | nil=>rfl
 | cons b r ih =>
   rw [List.takeWhile_cons];split
   ·rw [List.length_cons,List.take_succ_cons,← ih]
   ·rfl
theorem headP_take (l:List UInt8):headP l=l.take (headP l).length:=takeWhile_take _ l
theorem pkey_c (s:ByteArray) (hs:s.size≤1000000) (w:World) :
 Calls Tryz.prog 190 #[.string s] w fun e w'=>e=.returned (.bool (okKey s.data.toList))∧w=w':=by
 have hlen:s.data.toList.length=s.size:=by simp
 have hK:okKey s.data.toList=(decide (1≤s.size∧s.size≤24) && (decide (Lib.indexByte s.data.toList 0<0) && decide (Lib.indexByte s.data.toList 47<0))):=by
  unfold okKey;rw [hlen];congr 1
  rw [Bool.eq_iff_iff];simp only [Bool.and_eq_true,decide_eq_true_eq,indexByte_neg,List.all_eq_true,bne_iff_ne];constructor
  ·intro h
   exact ⟨fun x hx=>(h x hx).1,fun x hx=>(h x hx).2⟩
  ·rintro ⟨h1,h2⟩ x hx
   exact ⟨h1 x hx,h2 x hx⟩
 have h0:=fun W=>Tryz.strings_IndexByte s 0 W
 have h47:=fun W=>Tryz.strings_IndexByte s 47 W
 rw [show (0:Int).toNat.toUInt8=0 from rfl] at h0;rw [show (47:Int).toNat.toUInt8=47 from rfl] at h47;obtain ⟨i0,hi0⟩:∃i,Lib.indexByte s.data.toList 0=i:=⟨_,rfl⟩;obtain ⟨i1,hi1⟩:∃i,Lib.indexByte s.data.toList 47=i:=⟨_,rfl⟩;rw [hi0,hi1] at hK;rw [hi0] at h0;rw [hi1] at h47;rw [hK];have H0:=Lib.hid h0;have H1:=Lib.hid h47;clear h0 h47 hi0 hi1 hK hlen;have fin:∀B:Bool,(decide (1≤s.size∧s.size≤24) && (decide (i0<0) && decide (i1<0)))=B→Calls Tryz.prog 190 #[.string s] w fun e w'=>e=.returned (.bool B)∧w=w':=by
  intro B hB;have HB:=Lib.hid hB;clear hB;go_enter Tryz.func190,Tryz.ntmps190
  by_cases h1:(1:Int)≤(s.size:Int)
  ·by_cases h2:(s.size:Int)≤24
   ·by_cases h3:i0<0
    ·by_cases h4:i1<0
     ·obtain rfl:true=B:=by rw [← HB.out];simp [h3,h4];omega
      go_wp2_with (fail)
      refine (H0.out _).mono ?_;rintro e w1 ⟨rfl,rfl⟩;go_wp2_with (fail)
      refine (H1.out _).mono ?_;rintro e w1 ⟨rfl,rfl⟩;go_wp2_with (fail)
      go_ret
      exact ⟨rfl,rfl⟩
     ·obtain rfl:false=B:=by rw [← HB.out];simp [h3,h4]
      go_wp2_with (fail)
      refine (H0.out _).mono ?_;rintro e w1 ⟨rfl,rfl⟩;go_wp2_with (fail)
      refine (H1.out _).mono ?_;rintro e w1 ⟨rfl,rfl⟩;go_wp2_with (fail)
      go_ret
      exact ⟨by simp [h4],rfl⟩
    ·obtain rfl:false=B:=by rw [← HB.out];simp [h3]
     go_wp2_with (fail)
     refine (H0.out _).mono ?_;rintro e w1 ⟨rfl,rfl⟩;go_wp2_with (fail)
     go_ret
     exact ⟨rfl,rfl⟩
   ·obtain rfl:false=B:=by rw [← HB.out];simp;omega
    go_wp2_with fail
    go_ret
    exact ⟨rfl,rfl⟩
  ·obtain rfl:false=B:=by rw [← HB.out];simp;omega
   go_wp2_with fail
   go_ret
   exact ⟨rfl,rfl⟩
 exact fin _ rfl
def cutV (s:ByteArray):Value:=if (headP s.data.toList).length<s.data.toList.length then .tuple #[.string (s.extract 0 (headP s.data.toList).length),.string (s.extract ((headP s.data.toList).length+1) s.size),.bool true] else .tuple #[.string s,.string ByteArray.empty,.bool false]
theorem slcut_c (s:ByteArray) (hs:s.size≤1000000) (w:World) :
 Calls Tryz.prog 224 #[.string s,.string ⟨#[47]⟩] w fun e w'=>e=.returned (cutV s)∧Upd (fun _=>False) w w':=by
 have hlen:s.data.toList.length=s.size:=by simp
 have hi:=fun W=>Tryz.stringslite_Index_one s 47 W
 unfold cutV;rw [indexByte_head,hlen] at hi;rw [hlen];obtain ⟨n,hn⟩:=eqx (headP s.data.toList).length;rw [hn] at hi ⊢;clear hn hlen;by_cases h:n<s.size
 ·rw [if_pos h] at hi ⊢
  have HI:=Lib.hid hi;clear hi;have k1:(n:Int)<(s.size:Int):=oM;have k2:IntKind.i64.wrap ((n:Int)+1)=(n:Int)+1:=IntWalk.i64_in _ oM;have k3:(0:Int)≤(n:Int):=oM;go_enter Tryz.func224,Tryz.ntmps224
  go_wp2_with fail
  refine (HI.out _).mono ?_;rintro e w1 ⟨rfl,rfl⟩;go_wp2_with fail
  go_quiet (fail)
  go_wp2_with fail
  go_ret3
  exact ⟨rfl,(Upd.refl _ _).drewN _⟩
 ·rw [if_neg h] at hi ⊢
  have HI:=Lib.hid hi;clear hi;go_enter Tryz.func224,Tryz.ntmps224
  go_wp2_with fail
  refine (HI.out _).mono ?_;rintro e w1 ⟨rfl,rfl⟩;go_wp2_with fail
  go_ret3
  exact ⟨rfl,Upd.refl _ _⟩
theorem scut_c (s:ByteArray) (hs:s.size≤1000000) (w:World) :
 Calls Tryz.prog 189 #[.string s,.string ⟨#[47]⟩] w fun e w'=>e=.returned (cutV s)∧Upd (fun _=>False) w w':=by
 have hc:=fun W=>slcut_c s hs W
 obtain ⟨a,b,c,h⟩:∃a b c,cutV s=.tuple #[.string a,.string b,.bool c]:=by
  unfold cutV;split
  ·exact ⟨_,_,_,rfl⟩
  ·exact ⟨_,_,_,rfl⟩
 rw [h] at hc ⊢;have H:=Lib.hid hc;clear hc h;go_enter Tryz.func189,Tryz.ntmps189
 go_wp2_with fail
 refine (H.out _).mono ?_;rintro e w1 ⟨rfl,hU⟩;have HU:=Lib.hid hU;clear hU;go_wp2_with fail
 go_ret3
 exact ⟨rfl,HU.out⟩
theorem pcut_c (s:ByteArray) (hs:s.size≤1000000) (w:World) :
 Calls Tryz.prog 134 #[.string s] w fun e w'=>e=.returned (.tuple #[.string (str (cutP s.data.toList).1),.string (str (cutP s.data.toList).2.1),.bool (okPath s.data.toList)])∧Upd (fun _=>False) w w':=by
 have hlen:s.data.toList.length=s.size:=by simp
 have hc:=fun W=>scut_c s hs W
 have hpre:=headP_take s.data.toList;unfold okPath cutP;unfold cutV at hc;rw [hlen] at hc ⊢;obtain ⟨H,hH⟩:=eqx (headP s.data.toList);rw [hH] at hc hpre ⊢;obtain ⟨n,hn⟩:=eqx H.length;rw [hn] at hc hpre ⊢;by_cases h:n<s.size
 ·rw [if_pos h] at hc
  have ea:(s.extract 0 n).data.toList=H:=by rw [hpre];simp
  have eb:(s.extract (n+1) s.size).data.toList=s.data.toList.drop (n+1):=by
   simp only [ByteArray.data_extract,Array.toList_extract,List.extract_eq_take_drop];rw [List.take_of_length_le (by rw [List.length_drop,hlen];omega)]
  obtain ⟨a,ha⟩:=eqx (s.extract 0 n);obtain ⟨b,hb⟩:=eqx (s.extract (n+1) s.size);rw [ha] at ea hc;rw [hb] at eb hc;have hna:=fun W=>named_c a (by rw [← ha];simp;omega) W
  have hkb:=fun W=>pkey_c b (by rw [← hb];simp;omega) W
  rw [← ea,← eb];obtain ⟨A,hA⟩:=eqx (okName a.data.toList);obtain ⟨B,hB⟩:∃A,okKey b.data.toList=A:=⟨_,rfl⟩;rw [hA] at hna ⊢;rw [hB] at hkb ⊢;have HC:=Lib.hid hc;have HN:=Lib.hid hna;have HK:=Lib.hid hkb;have Hh:=Lib.hid h;clear hc hna hkb ha hb hA hB ea eb hH hn hpre hlen h;have step:∀R:Value,R=(if A && B then Value.tuple #[.string a,.string b,.bool true] else .tuple #[.string ByteArray.empty,.string ByteArray.empty,.bool false])→Calls Tryz.prog 134 #[.string s] w fun e w'=>e=.returned R∧Upd (fun _=>False) w w':=by
   intro R hR;have HR:=Lib.hid hR;clear hR;go_enter Tryz.func134,Tryz.ntmps134
   go_wp2_with fail
   refine (HC.out _).mono ?_;rintro e w1 ⟨rfl,hU⟩;have HU:=Lib.hid hU;clear hU;go_wp2_with fail
   refine (HN.out _).mono ?_;rintro e w2 ⟨rfl,rfl⟩;cases A
   ·obtain rfl:=HR.out
    go_wp2_with fail
    go_ret3
    exact ⟨rfl,HU.out⟩
   ·go_wp2_with fail
    refine (HK.out _).mono ?_;rintro e w2 ⟨rfl,rfl⟩;cases B
    ·obtain rfl:=HR.out
     go_wp2_with fail
     go_ret3
     exact ⟨rfl,HU.out⟩
    ·obtain rfl:=HR.out
     go_wp2_with fail
     go_ret3
     exact ⟨rfl,HU.out⟩
  refine (step _ rfl).mono ?_;rintro e w' ⟨rfl,hU⟩;refine ⟨?_,hU⟩;cases A
  ·simp [Hh.out];rfl
  ·cases B
   ·simp [Hh.out];rfl
   ·simp [Hh.out,str_eta]
 ·rw [if_neg h] at hc
  have HC:=Lib.hid hc;clear hc hpre hn hH;rw [if_neg oM];go_enter Tryz.func134,Tryz.ntmps134
  go_wp2_with fail
  refine (HC.out _).mono ?_;rintro e w1 ⟨rfl,hU⟩;have HU:=Lib.hid hU;clear hU;go_wp2_with fail
  go_ret3
  exact ⟨rfl,HU.out⟩
theorem Blk.cells6 {w:World} {g:Nat} {t:TypeId} {a b c d e f:Value} (k:Blk w g t #[a,b,c,d,e,f]):w.cell? ⟨g,0,none⟩=some a∧w.cell? ⟨g,1,none⟩=some b∧w.cell? ⟨g,2,none⟩=some c∧w.cell? ⟨g,3,none⟩=some d∧w.cell? ⟨g,4,none⟩=some e∧w.cell? ⟨g,5,none⟩=some f :=
 ⟨k.cell 0,k.cell 1,k.cell 2,k.cell 3,k.cell 4,k.cell 5⟩
section
variable {P:Program} {ops:Array Oper} {rest:List Oper} {o:Oper} {a:Act} {w:World} {Q:Exit→Act→World→Prop} {K:Act→World→Prop}
theorem Blk.range {g:Nat} {t:TypeId} {cs:Array Value} (h:Blk w g t cs) (i:Nat) (vs:List Value) (hv:∀j v,vs[j]? = some v→cs[i+j]? = some v):w.rangeAt g i vs:=fun j v e=>by
 rw [h.cell];exact hv j v e
theorem Blk.there_ {g:Nat} {t:TypeId} {cs:Array Value} (h:Blk w g t cs) (i n:Nat) (hn:i+n≤cs.size):w.there g i n:=fun j hj=>by
 refine ⟨?_,h.frozen _⟩;rw [h.cell,Array.getElem?_eq_getElem oM];rfl
theorem Upd.setCells_ (g:Nat):∀(vs:List Value) (i:Nat) (w:World),Upd (· = g) w (w.setCells g i vs)∧(w.setCells g i vs).heap.size=w.heap.size
 | [],_,w=>⟨Upd.refl _ _,rfl⟩
 | v::r,i,w=>by
   have h1:=(Upd.refl (· = g) w).setCell (p:=⟨g,i,none⟩) (.inl rfl) v;obtain ⟨h2,h3⟩:=Upd.setCells_ g r (i+1) (w.setCell ⟨g,i,none⟩ v);refine ⟨h1.then h2 (fun _ e=>.inl e),?_⟩;rw [World.setCells,h3];simp
theorem Blk.setCells {g:Nat} {t:TypeId} : ∀(vs:List Value) (i:Nat) (w:World) (cs:Array Value),Blk w g t cs→i+vs.length≤cs.size→Blk (w.setCells g i vs) g t (cs.toList.take i++vs++cs.toList.drop (i+vs.length)).toArray
 | [],i,w,cs,h,hi=>by
   simp only [List.append_nil,List.length_nil,Nat.add_zero,List.take_append_drop];exact h
 | v :: r,i,w,cs,h,hi=>by
   rw [World.setCells];have hi':i<cs.size:=by simp at hi;omega
   have:=Blk.setCells r (i+1) _ _ (h.set_ i v) (by simp at hi ⊢;omega);have e:(cs.setIfInBounds i v).toList.take (i+1)++r++(cs.setIfInBounds i v).toList.drop (i+1+r.length)=cs.toList.take i++(v::r)++cs.toList.drop (i+(v::r).length):=by
    rw [Array.toList_setIfInBounds,List.drop_set_of_lt oM,List.take_set,List.take_succ_eq_append_getElem (by simpa using hi')];have hl:(cs.toList.take i).length=i:=by rw [List.length_take,Array.length_toList];omega
    rw [List.set_append_right _ _ oM,hl,Nat.sub_self];simp [Nat.add_comm,Nat.add_left_comm]
   rw [e] at this;exact this
theorem wp_store_part (ty:TypeId) (x y:Operand) (ho:o.op=.store ty x y) (g i:Nat) (vs:Array Value) (hx:a.eval x=.pointer (some ⟨g,i,none⟩)) (hy:a.eval y=.agg vs)
 (t:TypeId) (cs new:Array Value) (hB:Blk w g t cs) (hi:i+vs.size≤cs.size) (hn:cs.toList.take i++vs.toList++cs.toList.drop (i+vs.size)=new.toList) (h1:vs.all (·.oneCell')=true) (hsz:(P.info? ty).map (·.size)=some vs.size)
 (h:∀w',Blk w' g t new→Upd (· = g) w w'→w'.heap.size=w.heap.size→K (a.put o.dst undef) w'):o.wp P a w K Q:=by
 refine wp_store_mid ty x y ho g i vs hx hy (hB.there_ i _ hi) hsz h1 ?_;obtain ⟨u1,u2⟩:=Upd.setCells_ g vs.toList i w;refine h _ ?_ u1 u2;have:=Blk.setCells vs.toList i w cs hB (by simpa using hi);rw [Array.length_toList,hn] at this;exact this
theorem wpList_store_part (hg:o.guard=none) (ty:TypeId) (x y:Operand) (ho:o.op=.store ty x y) (g i:Nat) (vs:Array Value) (hx:a.eval x=.pointer (some ⟨g,i,none⟩)) (hy:a.eval y=.agg vs)
 (t:TypeId) (cs new:Array Value) (hB:Blk w g t cs) (hi:i+vs.size≤cs.size) (hn:cs.toList.take i++vs.toList++cs.toList.drop (i+vs.size)=new.toList) (h1:vs.all (·.oneCell')=true) (hsz:(P.info? ty).map (·.size)=some vs.size)
 (h:∀w',Blk w' g t new→Upd (· = g) w w'→w'.heap.size=w.heap.size→wpList P ops Q rest (a.put o.dst undef) w'):wpList P ops Q (o::rest) a w :=
 wpList_plain hg fun _ hK=>wp_store_part ty x y ho g i vs hx hy t cs new hB hi hn h1 hsz fun w' b1 b2 b3=>hK _ _ (h w' b1 b2 b3)
theorem wpList_load_part (hg:o.guard=none) (ty:TypeId) (x:Operand) (ho:o.op=.load ty x) (g i:Nat) (hx:a.eval x=.pointer (some ⟨g,i,none⟩)) (t:TypeId) (cs:Array Value) (vs:List Value) (d:TypeDesc)
 (hB:Blk w g t cs) (hv:∀j v,vs[j]? = some v→cs[i+j]? = some v) (hu:P.underlying ty=some d) (hd:d.isRow=true) (hi:(P.info? ty).map (·.size)=some vs.length)
 (h:wpList P ops Q rest (a.put o.dst (.agg vs.toArray)) w):wpList P ops Q (o::rest) a w :=
 wpList_load_mid hg ty x ho g i hx vs d (hB.range i vs hv) hu hd hi h
theorem step_store_part {E:Prop} (hg:o.guard=none) (ty:TypeId) (x y:Operand) (ho:o.op=.store ty x y) (g i:Nat) (vs:Array Value) (hx:a.eval x=.pointer (some ⟨g,i,none⟩)) (hy:a.eval y=.agg vs)
 (t:TypeId) (cs new:Array Value) (hB:Blk w g t cs) (hi:i+vs.size≤cs.size) (hn:cs.toList.take i++vs.toList++cs.toList.drop (i+vs.size)=new.toList) (h1:vs.all (·.oneCell')=true) (hsz:(P.info? ty).map (·.size)=some vs.size)
 (h:∀w',Blk w' g t new→Upd (· = g) w w'→w'.heap.size=w.heap.size→K (a.put o.dst undef) w'):if Region.wanted o (yielded ops a.tmps)=true then Oper.wp P o a w K Q else E:=by
 have hw:Region.wanted o (yielded ops a.tmps)=true:=by simp [Region.wanted,hg]
 rw [if_pos hw];exact wp_store_part ty x y ho g i vs hx hy t cs new hB hi hn h1 hsz h
theorem step_store_one {E:Prop} (hg:o.guard=none) (ty:TypeId) (x y:Operand) (ho:o.op=.store ty x y) (g i:Nat) (v:Value) (hx:a.eval x=.pointer (some ⟨g,i,none⟩)) (hy:a.eval y=v)
 (t:TypeId) (cs new:Array Value) (hB:Blk w g t cs) (hi:i<cs.size) (hn:cs.setIfInBounds i v=new) (h1:v.oneCell'=true) (hsz:(P.info? ty).map (·.size)=some 1)
 (h:∀w',Blk w' g t new→Upd (· = g) w w'→w'.heap.size=w.heap.size→K (a.put o.dst undef) w'):if Region.wanted o (yielded ops a.tmps)=true then Oper.wp P o a w K Q else E:=by
 have hw:Region.wanted o (yielded ops a.tmps)=true:=by simp [Region.wanted,hg]
 rw [if_pos hw];subst hn;exact wp_store_one ty x y ho g i v hx hy t cs hB hi h1 hsz h
end
end
end Go.Proofs.YtbhjgfibhegddaaGreat
