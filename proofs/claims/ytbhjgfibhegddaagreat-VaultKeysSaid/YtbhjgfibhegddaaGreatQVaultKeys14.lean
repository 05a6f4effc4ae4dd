/-
  Parts of the proof of VaultKeys: PathB, IterS, OmapA, OmapB, OmapC, OmapD, Ring, Once, RingB.
-/
import Derived.Test.YtbhjgfibhegddaaGreatQVaultKeys13
import Derived.ChangeOld
import Derived.Deep.RegionHeld3
import Derived.Defers
import Derived.Ground.GgzProg
import Derived.Ground.SlgmProg
import Derived.Ground.SlmcProg
import Derived.Laws.LoneSync
import Derived.Laws.Pointers
import Derived.Lib.SlBytesConst
import Derived.OpenShut
import Derived.Outline
import Derived.ProofKit
import Derived.RegionCalls
import Derived.RegionTactic
import Derived.Shelf.SlIter.Nil
import Derived.Shelf.SlIterI.Nil
import Derived.Shelf.SlMaps.Clone
import Derived.Shelf.SortM.Plain
import Derived.Shelf.SortM.SortNone
import Derived.ShutString
import Derived.SliceStrings
import Derived.StillTailTactics
import Derived.StringKeys
import Derived.Test.YtbhjgfibhegddaaGreatProg
import Derived.WalkSpells
set_option maxRecDepth 100000
set_option maxHeartbeats 16000000
namespace Go.Proofs.YtbhjgfibhegddaaGreat
section
open Go Go.RowKit
def mtRow (m:MtM):List Value:=[.string (str m.name),.bool m.ship]
def MtsAt (w:World) (b off:Nat) (l:List MtM):Prop:=∀i (h:i<l.length),w.rangeAt b (off+i*2) (mtRow l[i])
theorem MtsAt.take {w:World} {b off:Nat} {l:List MtM} (h:MtsAt w b off l) (k:Nat):MtsAt w b off (l.take k):=fun i hi=>by
 rw [List.length_take] at hi;rw [List.getElem_take];exact h i (by omega)
theorem rtwin_c (P N:ByteArray) (S:Bool) (mb:Nat) (w:World) (hc:w.cell? ⟨mb,0,none⟩=some (.string N)) :
 Calls Tryz.prog 141 #[.agg #[.string P,.bool S],.pointer (some ⟨mb,0,none⟩)] w fun e w'=>e=.returned (.bool (P.toList == N.toList))∧Upd (fun _=>False) w w':=by
 have hmb:w.heap.size≠mb:=by
  have:=World.block_lt_of_cell? _ _ hc;simp at this
  omega
 go_enter Tryz.func141,Tryz.ntmps141
 go_upto_region 1 with fail
 generalize hw2:World.alloc _ _=w2;obtain ⟨q,hq⟩:=eqx w.heap.size;rw [hq];have hU:Upd (fun _=>False) w w2:=by rw [← hw2];exact (Upd.refl _ w).alloc _
 have c0:w2.cell? ⟨q,0,none⟩=some (.string P):=by rw [← hw2,← hq];exact (Blk.new w _ _).cell 0
 have c1:w2.cell? ⟨mb,0,none⟩=some (.string N):=by
  rw [World.cell?_of_block (w:=w) (a:=⟨mb,0,none⟩) (hU.block mb (World.block_lt_of_cell? _ _ hc) (fun e=>e))];exact hc
 have HU:=Lib.hid hU;clear hw2 hU hc hq hmb;go_wp2_with fail
 go_ret
 exact ⟨rfl,HU.out⟩
theorem str_same (a b:List UInt8):((str a).toList == (str b).toList)=decide (a=b):=by
 rw [ByteArray.toList_eq,ByteArray.toList_eq,str_list,str_list];by_cases h:a=b<;>simp [h]
theorem idxm_c {A:Option Addr} {cap b off mb:Nat} {l:List MtM} {w:World} {nm:List UInt8} (hA:0<l.length→A=some ⟨b,off,none⟩) (hb:∀w',Upd (fun _=>False) w w'→MtsAt w' b off l) (hl:l.length≤1000000)
 (hc:∀w',Upd (fun _=>False) w w'→w'.cell? ⟨mb,0,none⟩=some (.string (str nm))) :
 Calls Tryz.prog 194 #[.slice A l.length cap,.func (.func 141) #[] #[.pointer (some ⟨mb,0,none⟩)]] w fun e w'=>∃z:Int,e=.returned (.int .i64 z)∧(decide (0≤z)=l.any fun o=>decide (o.name=nm))∧Upd (fun _=>False) w w':=by
 have HB:=Lib.hid hb;have HC:=Lib.hid hc;clear hb hc;go_enter Tryz.func194,Tryz.ntmps194
 go_wp2_with fail
 go_loopw [5,8] (fun _ i wr=>∃k:Nat,k≤l.length∧i=.int .i64 (k:Int)∧Upd (fun _=>False) w wr∧(l.take k).any (fun o=>decide (o.name=nm))=false) (fun _ i _=>l.length - (intOf i).toNat)
 case atStart=>exact ⟨0,by omega,rfl,Upd.refl _ _,rfl⟩
 case round =>
  obtain ⟨k,hk,rfl,hU,hE⟩:=hrel;by_cases hlt:k<l.length
  ·obtain rfl:=hA (by omega)
   have hrow:=HB.out wr hU k hlt;have htk:(l.take (k+1)).any (fun o=>decide (o.name=nm))=decide (l[k].name=nm):=by
    rw [List.take_succ_eq_append_getElem hlt,List.any_append,hE];simp
   have hfull:decide (l[k].name=nm)=true→l.any (fun o=>decide (o.name=nm))=true:=fun h=>List.any_eq_true.2 ⟨l[k],List.getElem_mem hlt,h⟩
   obtain ⟨o,ho⟩:=eqx (l[k]);rw [ho] at hrow htk hfull;rw [← str_same] at htk hfull;obtain ⟨P,hP⟩:=eqx (str o.name);obtain ⟨N,hN⟩:∃P,str nm=P:=⟨_,rfl⟩;have hcell:=HC.out wr hU;rw [hN] at hcell htk hfull;rw [hP] at htk hfull;have hrw:mtRow o=[.string P,.bool o.ship]:=by unfold mtRow;rw [hP]
   rw [hrw] at hrow;have hcl:=rtwin_c P N o.ship mb wr hcell;obtain ⟨B,hBB⟩:=eqx (P.toList == N.toList);rw [hBB] at hcl htk hfull;have HR:=Lib.hid hrow;have HCL:=Lib.hid hcl;have HU:=Lib.hid hU;have HT:=h2k htk hfull;have j1:(k:Int)<(l.length:Int):=by omega
   clear hrow htk hfull hcell hrw hcl hU hE hP hN ho hBB;go_wp2_with (first
    | (refine wpList_load_mid rfl _ _ rfl b (off+k*2) rfl [.string P,.bool o.ship] _ HR.out Tryz.underlying46 rfl (by kernel_rfl) ?_))
   refine HCL.out.mono ?_;rintro e w1 ⟨rfl,hU1⟩;have HU1:=Lib.hid (HU.out.then hU1 (fun _ e=>e.elim));clear hU1;cases B
   ·go_wp2_with fail
    go_roundw
    case rel=>exact ⟨k+1,by omega,by go_num,HU1.out,HT.out.1⟩
    case measure=>simp [intOf]<;>omega
   ·go_wp2_with fail
    go_ret
    exact ⟨_,rfl,by rw [HT.out.2 trivial];simp,HU1.out⟩
  ·obtain rfl:k=l.length:=by omega
   rw [List.take_length] at hE;have HU:=h2k hU hE;clear hU hE;go_wp2_with fail
   go_ret
   exact ⟨-1,rfl,by rw [HU.out.2];rfl,HU.out.1⟩
theorem hasm_c {A:Option Addr} {cap b off mb:Nat} {l:List MtM} {w:World} {nm:List UInt8} (hA:0<l.length→A=some ⟨b,off,none⟩) (hb:∀w',Upd (fun _=>False) w w'→MtsAt w' b off l) (hl:l.length≤1000000)
 (hc:∀w',Upd (fun _=>False) w w'→w'.cell? ⟨mb,0,none⟩=some (.string (str nm))) :
 Calls Tryz.prog 143 #[.slice A l.length cap,.func (.func 141) #[] #[.pointer (some ⟨mb,0,none⟩)]] w fun e w'=>e=.returned (.bool (l.any fun o=>decide (o.name=nm)))∧Upd (fun _=>False) w w':=by
 have H:=Lib.hid (idxm_c (cap:=cap) hA hb hl hc);clear hb hc hA;obtain ⟨n,hn⟩:=eqx l.length;obtain ⟨B,hB⟩:=eqx (l.any fun o=>decide (o.name=nm));rw [hB,hn] at H;rw [hB,hn];clear hB hn hl;go_enter Tryz.func143,Tryz.ntmps143
 go_wp2_with fail
 refine H.out.mono ?_;rintro e w1 ⟨z,rfl,hz,hU⟩;have HU:=h2k hU hz;clear hU hz;go_wp2_with fail
 go_ret
 exact ⟨by rw [← HU.out.2];rfl,HU.out.1⟩
theorem mtsR_snoc (a l:List MtM) (m:MtM):mtsR a (l++[m])=(mtsR a l && (okName m.name && !((a++l).any fun o=>decide (o.name=m.name)))):=by
 induction l generalizing a with
 | nil=>simp [mtsR]
 | cons x r ih =>
   rw [List.cons_append];unfold mtsR;rw [ih];simp [Bool.and_assoc,List.append_assoc]
theorem mtsR_take {l:List MtM} {k:Nat} (hk:k<l.length) (h:mtsR [] (l.take k)=true):mtsR [] (l.take (k+1))=(okName l[k].name && !((l.take k).any fun o=>decide (o.name=l[k].name))):=by
 rw [List.take_succ_eq_append_getElem hk,mtsR_snoc,h];simp
theorem mtsR_false {l:List MtM} {k:Nat} (h:mtsR [] (l.take k)=false):mtsR [] l=false:=by
 have gen:∀(r a:List MtM),mtsR [] a=false→mtsR [] (a++r)=false:=by
  intro r;induction r with
  | nil=>intro a h;simpa using h
  | cons x r ih =>
    intro a h;have:a++x::r=(a++[x])++r:=by simp
    rw [this];refine ih _ ?_;rw [mtsR_snoc,h];rfl
 have:=gen (l.drop k) _ h;rwa [List.take_append_drop] at this
theorem pright_c {A:Option Addr} {cap b off:Nat} {l:List MtM} {w:World} (hA:0<l.length→A=some ⟨b,off,none⟩) (hb:∀w',Upd (fun _=>False) w w'→MtsAt w' b off l) (hl:l.length≤1000000) (hcap:l.length≤cap) (hs:∀m ∈ l,m.name.length≤1000000) :
 Calls Tryz.prog 84 #[.slice A l.length cap] w fun e w'=>e=.returned (.bool (okMounts l))∧Upd (fun _=>False) w w':=by
 obtain ⟨B,hB⟩:=eqx (okMounts l);rw [hB];have HB:=Lib.hid hb;have HS:=h2k hs hB;clear hb hs hB;go_enter Tryz.func84,Tryz.ntmps84
 go_wp2_with fail
 go_loopw [3,4,5,8] (fun _ _ _ i wr=>∃k:Nat,k≤l.length∧i=.int .i64 (k:Int)∧Upd (fun _=>False) w wr∧mtsR [] (l.take k)=true) (fun _ _ _ i _=>l.length - (intOf i).toNat)
 case atStart=>exact ⟨0,by omega,rfl,Upd.refl _ _,rfl⟩
 case round =>
  obtain ⟨k,hk,rfl,hU,hE⟩:=hrel;by_cases hlt:k<l.length
  ·obtain rfl:=hA (by omega)
   have hrow:=HB.out wr hU k hlt;have hnx:=mtsR_take hlt hE;have hbad:mtsR [] (l.take (k+1))=false→B=false:=fun h=>by
    rw [← HS.out.2];unfold okMounts;rw [mtsR_false h];rfl
   have hsz:=HS.out.1 _ (List.getElem_mem hlt);obtain ⟨o,ho⟩:=eqx (l[k]);rw [ho] at hrow hnx hsz;obtain ⟨P,hP⟩:=eqx (str o.name);have hrw:mtRow o=[.string P,.bool o.ship]:=by unfold mtRow;rw [hP]
   rw [hrw] at hrow;have hnm:=fun W=>named_c P (by rw [← hP,str_size];exact hsz) W
   rw [show P.data.toList=o.name by rw [← hP,str_list]] at hnm;obtain ⟨N,hN⟩:=eqx (okName o.name);rw [hN] at hnm hnx;have HR:=Lib.hid hrow;have HNM:=Lib.hid hnm;have HU:=Lib.hid hU;have HX:=h4k hnx hbad hP hE;have j1:(k:Int)<(l.length:Int):=by omega
   clear hrow hnx hbad hsz hrw hnm hU hE hP hN ho;obtain ⟨q,hq⟩:=eqx wr.heap.size;have HQ:=Lib.hid hq;go_upto_region 4 with (first
    | (refine wpList_load_mid rfl _ _ rfl b (off+k*2) rfl [.string P,.bool o.ship] _ HR.out Tryz.underlying46 rfl (by kernel_rfl) ?_))
   generalize hw5:World.alloc _ _=w5;have hB5:Blk w5 q 46 #[.string P,.bool o.ship]:=by rw [← hw5,← HQ.out];exact Blk.new wr _ _
   have hU5:Upd (fun _=>False) w w5:=by rw [← hw5];exact HU.out.alloc _
   have c0:=hB5.cell 0;have HU5:=h2k hU5 hB5;clear hU5 hB5 hw5 hq;have hhas:∀W,Upd (fun _=>False) w5 W→Calls Tryz.prog 143 #[.slice (some ⟨b,off,none⟩) k cap,.func (.func 141) #[] #[.pointer (some ⟨q,0,none⟩)]] W fun e w'=>e=.returned (.bool ((l.take k).any fun x=>decide (x.name=o.name)))∧Upd (fun _=>False) W w':=fun W hW=>by
    have:=hasm_c (A:=some ⟨b,off,none⟩) (cap:=cap) (b:=b) (off:=off) (mb:=q) (l:=l.take k) (w:=W) (nm:=o.name) (fun _=>rfl) (fun w' h=>(HB.out w' ((HU5.out.1.then hW (fun _ e=>e.elim)).then h (fun _ e=>e.elim))).take k) (by rw [List.length_take];omega)
     (fun w' h=>((HU5.out.2.upd hW (fun e=>e)).upd h (fun e=>e)).cell 0 |>.trans (by rw [HX.out.2.2.1];rfl))
    rw [List.length_take,Nat.min_eq_left hk] at this;exact this
   obtain ⟨T,hT⟩:=eqx ((l.take k).any fun x=>decide (x.name=o.name));rw [hT] at hhas;have hnx:=HX.out.1;rw [hT] at hnx;have HNX:=Lib.hid hnx;have HHAS:=Lib.hid hhas;have q1:(0:Int)≤(k:Int):=by omega
   have q2:(k:Int)≤(cap:Int):=by omega
   clear hhas hnx hT;go_wp2_with fail
   refine (HNM.out _).mono ?_;rintro e w6 ⟨rfl,rfl⟩;cases N
   ·obtain rfl:=HX.out.2.1 (by rw [HNX.out];rfl)
    go_wp2_with fail
    go_ret
    exact ⟨rfl,HU5.out.1⟩
   ·go_wp2_with fail
    refine (HHAS.out _ (Upd.refl _ _)).mono ?_;rintro e w7 ⟨rfl,hU7⟩;have HU7:=Lib.hid (HU5.out.1.then hU7 (fun _ e=>e.elim));clear hU7 c0;cases T
    ·go_wp2_with fail
     go_roundw
     case rel=>exact ⟨k+1,by omega,by go_num,HU7.out,by rw [HNX.out];rfl⟩
     case measure=>simp [intOf]<;>omega
    ·obtain rfl:=HX.out.2.1 (by rw [HNX.out];rfl)
     go_wp2_with fail
     go_ret
     exact ⟨rfl,HU7.out⟩
  ·obtain rfl:k=l.length:=by omega
   rw [List.take_length] at hE;have hB2:B=decide (1≤l.length∧l.length≤4):=by rw [← HS.out.2];unfold okMounts;rw [hE];rfl
   have HU:=h2k hU hB2;clear hU hE hB2 hk hlt;by_cases h1:(1:Int)≤(l.length:Int)
   ·by_cases h2:(l.length:Int)≤4
    ·obtain rfl:B=true:=by rw [HU.out.2];simp;omega
     go_wp2_with fail
     go_ret
     exact ⟨rfl,HU.out.1⟩
    ·obtain rfl:B=false:=by rw [HU.out.2];simp;omega
     go_wp2_with fail
     go_ret
     exact ⟨rfl,HU.out.1⟩
   ·obtain rfl:B=false:=by rw [HU.out.2];simp;omega
    go_wp2_with fail
    go_ret
    exact ⟨rfl,HU.out.1⟩
end
end Go.Proofs.YtbhjgfibhegddaaGreat
namespace Go.Proofs
open Go.Shelf
def Tryz.keysB_ren:Go.Shelf.Ren:=⟨fun | 7=>137 | 10=>193 | n=>n,fun | 23=>130 | 26=>9 | 3=>9 | 28=>232 | 0=>0 | 27=>231 | 33=>237 | 4=>4 | n=>n,fun | n=>n⟩
theorem Tryz.keysB:Go.Proofs.SlLaysZ.n7 Tryz.prog Tryz.keysB_ren := {
 mixed:=by kernel_rfl
 f7:=⟨Tryz.f137.name,by decide,Tryz.func137.trans (congrArg some (by kernel_rfl))⟩
 f10:=⟨Tryz.f193.name,by decide,Tryz.func193.trans (congrArg some (by kernel_rfl))⟩
 t0:=Tryz.underlying0
 a0:=Tryz.isAgg0
 z0:=Tryz.sizeOf0
 v0:=Tryz.zeroValue0
 t4:=Tryz.underlying4
 a4:=Tryz.isAgg4
 z4:=Tryz.sizeOf4
 v4:=Tryz.zeroValue4
 t23:=Tryz.underlying130
 a23:=Tryz.isAgg130
 z23:=Tryz.sizeOf130
 v23:=Tryz.zeroValue130
 t26:=Tryz.underlying9
 a26:=Tryz.isAgg9
 z26:=Tryz.sizeOf9
 v26:=Tryz.zeroValue9
 t27:=Tryz.underlying231
 a27:=Tryz.isAgg231
 z27:=Tryz.sizeOf231
 v27:=Tryz.zeroValue231
 t28:=Tryz.underlying232
 a28:=Tryz.isAgg232
 z28:=Tryz.sizeOf232
 v28:=Tryz.zeroValue232
 t33:=Tryz.underlying237
 a33:=Tryz.isAgg237
 z33:=Tryz.sizeOf237
 v33:=Tryz.zeroValue237 }
def Tryz.sortedB_ren:Go.Shelf.Ren:=⟨fun | 6=>136 | 8=>191 | 9=>192 | 11=>226 | 13=>197 | 12=>227 | 23=>237 | 24=>204 | 14=>254 | 15=>255 | 16=>256 | 17=>257 | 18=>258 | 19=>259 | 20=>260 | 21=>261 | 22=>262 | 25=>282 | 26=>264 | 27=>265 | 28=>283 | 29=>284 | 30=>285 | 31=>302 | n=>n,fun | 26=>9 | 28=>232 | 24=>147 | 0=>0 | 3=>3 | 37=>133 | 48=>113 | 50=>112 | 4=>4 | 40=>329 | 39=>328 | 45=>307 | 5=>5 | 9=>9 | 51=>352 | 55=>283 | 57=>373 | 58=>26 | 33=>237 | n=>n,fun | n=>n⟩
theorem Tryz.sortedB:Go.Proofs.SlLaysZ.n6 Tryz.prog Tryz.sortedB_ren := {
 mixed:=by kernel_rfl
 f6:=⟨Tryz.f136.name,by decide,Tryz.func136.trans (congrArg some (by kernel_rfl))⟩
 f8:=⟨Tryz.f191.name,by decide,Tryz.func191.trans (congrArg some (by kernel_rfl))⟩
 f11:=⟨Tryz.f226.name,by decide,Tryz.func226.trans (congrArg some (by kernel_rfl))⟩
 t0:=Tryz.underlying0
 a0:=Tryz.isAgg0
 z0:=Tryz.sizeOf0
 v0:=Tryz.zeroValue0
 t24:=Tryz.underlying147
 a24:=Tryz.isAgg147
 z24:=Tryz.sizeOf147
 v24:=Tryz.zeroValue147
 t26:=Tryz.underlying9
 a26:=Tryz.isAgg9
 z26:=Tryz.sizeOf9
 v26:=Tryz.zeroValue9
 t28:=Tryz.underlying232
 a28:=Tryz.isAgg232
 z28:=Tryz.sizeOf232
 v28:=Tryz.zeroValue232
 i26:=by kernel_rfl }
def Tryz.cloneB_ren:Go.Shelf.Ren:=⟨fun | 5=>82 | 7=>140 | n=>n,fun | 23=>130 | 25=>9 | 3=>9 | 4=>4 | 20=>20 | n=>n,fun | n=>n⟩
theorem Tryz.cloneB:Go.Proofs.SlLaysW.n5 Tryz.prog Tryz.cloneB_ren := {
 mixed:=by kernel_rfl
 f5:=⟨Tryz.f82.name,by decide,Tryz.func82.trans (congrArg some (by kernel_rfl))⟩
 f7:=Tryz.func140.trans (congrArg some (by kernel_rfl))
 t4:=Tryz.underlying4
 a4:=Tryz.isAgg4
 z4:=Tryz.sizeOf4
 v4:=Tryz.zeroValue4
 t20:=Tryz.underlying20
 a20:=Tryz.isAgg20
 z20:=Tryz.sizeOf20
 v20:=Tryz.zeroValue20
 t23:=Tryz.underlying130
 a23:=Tryz.isAgg130
 z23:=Tryz.sizeOf130
 v23:=Tryz.zeroValue130 }
end Go.Proofs
namespace Go.Proofs.YtbhjgfibhegddaaGreat
section
open Go Go.RowKit Go.Maps Go.Sort Go.Shelf Go.WideShapes
abbrev strKey:ByteArray→Value:=fun s=>Value.string s
theorem mapB_owns_s {w:World} {bm:Nat} {m:List (ByteArray × Value)} (hM:MapB strKey w bm m) (hk:∀p ∈ m,p.1.size≤1000) (hs:m.length≤5000) :
 ∃D0:DataW Unit,w.ownsMap Tryz.prog 9 noElem bm m.length D0∧(strKeys D0).Perm (m.map fun p=>p.1.data.toList)∧Maps.size D0=m.length:=by
 obtain ⟨es,clock,hb,hst,hm⟩:=hM;have hlen:es.toList.length=m.length:=by have:=congrArg List.length hm;simpa using this
 have hrd:∀x ∈ es.toList,∃a:ByteArray,x.key=strKey a∧Go.WideElems.rd Tryz.prog 9 noElem x=some (.string a.data.toList,.nil):=by
  intro x hx;obtain ⟨j,hj⟩:=List.getElem?_of_mem hx;obtain ⟨p,hp,h1,h2⟩:=at_place hm j x hj;refine ⟨p.1,h1,?_⟩;have hko:keyOf Tryz.prog 9 x.key=some (.string p.1.data.toList):=by rw [h1];exact Go.WideMaps.keyOf_string_mk Tryz.underlying9 (by have:=hk p (List.mem_of_getElem? hp);unfold maxLen;omega)
  unfold Go.WideElems.rd;rw [hko];rfl
 refine ⟨_,⟨es,clock,hb,⟨by unfold maxLen;simp at hlen;omega,hst,fun x hx=>?_⟩,by simp at hlen;omega,rfl⟩,?_,?_⟩
 ·obtain ⟨a,-,h⟩:=hrd x hx
  exact ⟨_,h⟩
 ·show List.Perm (((es.toList.map (Go.WideElems.rg Tryz.prog 9 noElem)).foldr DataW.insert []).map fun p=>strOf p.1) _
  refine ((sorted_perm _).map _).trans ?_;rw [List.map_map];have e1:es.toList.map ((fun p:Lit × DataW Unit=>strOf p.1) ∘ Go.WideElems.rg Tryz.prog 9 noElem)=es.toList.map ((fun v:Value=>match v with | .string a=>a.data.toList | _=>[]) ∘ fun e:MapEntry=>e.key):=by
   refine List.map_congr_left fun x hx=>?_
   obtain ⟨a,h1,h2⟩:=hrd x hx;simp only [Function.comp,Go.WideElems.rg_of h2,h1,strOf]
  rw [e1,← List.map_map,keys_of hm,List.map_map];have e2:m.map ((fun v:Value=>match v with | .string a=>a.data.toList | _=>[]) ∘ fun p:ByteArray × Value=>strKey p.1)=m.map fun p=>p.1.data.toList:=rfl
  rw [e2]
 ·show ((es.toList.map (Go.WideElems.rg Tryz.prog 9 noElem)).foldr DataW.insert []).length=m.length
  rw [(sorted_perm _).length_eq,List.length_map,hlen]
theorem sortsB (m:Nat):AnyZ.SortsIn Tryz.prog Tryz.sortedB_ren Fence.wide m :=
 ⟨fun blk off cap ss W hH hblk hsz=>callsIn_wide.2 (Tryz.slices_Sort_string blk off cap ss W hH hblk hsz),
  fun p cap W=>callsIn_wide.2 (Tryz.slices_Sort_string_none p cap W)⟩
theorem keys_s (mb:Option Nat) (W:World):Calls Tryz.prog 137 #[.map mb] W fun e w'=>e=.returned (.func (.func 193) #[] #[.pointer (some ⟨W.heap.size,0,none⟩)])∧w'=W.alloc (.cells #[.map mb] 130) :=
 (callsIn_wide (n:=5)).1 (AnyZ.keys_in Tryz.keysB Fence.wide 5 trivial rfl mb W)
theorem rises_sorted {S:List PairM} (h:Rises S):(S.map (·.1)).mergeSort Go.leB=S.map (·.1):=by
 refine List.mergeSort_of_pairwise ?_;refine List.pairwise_map.2 (h.imp fun {a b} hab=>?_);simp only [decide_eq_true_eq];exact List.le_of_lt hab
theorem sorted_s {w:World} {b:Nat} {m:List (ByteArray × Value)} {S:List PairM} (hM:MapB strKey w b m) (hH:HoldsP m S) (hS:Rises S) (hk:∀p ∈ S,p.1.length≤1000) (hs:S.length≤5000) :
 Calls Tryz.prog 136 #[.func (.func 193) #[] #[.pointer (some ⟨w.heap.size,0,none⟩)]] (w.alloc (.cells #[.map (some b)] 130)) fun e w'=>∃v,e=.returned v ∧
  w'.ownsRow (w.heap.size+1) 9 1 v S.length (strs (S.map fun p=>str p.1))∧Upd (fun _=>False) w w':=by
 have hml:m.length=S.length:=by have:=hH.length_eq;simpa using this
 have hmk:∀p ∈ m,p.1.size≤1000:=fun p hp=>by
  obtain ⟨q,hq,rfl⟩:=(hH.mem p).1 hp;show (str q.1).size≤_;rw [str_size];exact hk q hq
 obtain ⟨D0,hown,hperm,hsize⟩:=mapB_owns_s hM hmk (by omega);have hbl:=hown.lt;have hseq:SeqGives Fence.wide 2 Tryz.prog 193 #[.pointer (some ⟨w.heap.size,0,none⟩)] encStr (fun ss=>ss.Perm (strKeys D0)) (Maps.size D0) (w.alloc (.cells #[.map (some b)] 130)) :=
  AnyZ.keys_gives (ρ := Tryz.keysB_ren) { Tryz.keysB with } Fence.wide _ trivial rfl (by omega) w.heap.size b m.length D0 _ (by simp) (by simp) (by
   obtain ⟨es,clock,hb,Ft,hs,hD⟩:=hown;exact ⟨es,clock,(Below.heap_alloc _ _ b hbl).trans hb,Ft,hs,hD⟩)
 have cS:=AnyZ.sorted_in Tryz.sortedB Fence.wide 5 trivial trivial trivial trivial rfl (by omega) (sortsB _) (enters_of Tryz.func192 (by kernel_rfl) rfl) 193 #[.pointer (some ⟨w.heap.size,0,none⟩)] trivial (enters_of Tryz.func193 (by kernel_rfl) rfl) _ _ (by rw [hsize];unfold maxLen;omega) (by rw [hsize];omega) _ hseq;refine ((callsIn_wide (n:=5)).1 cS).mono ?_;rintro e w' ⟨v,ss,rfl,hS2,hrow,-,hb⟩;have hp:ss.Perm (S.map (·.1)):=by
  refine (hS2.trans hperm).trans ?_;have h1:=hH.map (fun p:ByteArray × Value=>p.1.data.toList);rw [List.map_map] at h1;have e3:S.map ((fun p:ByteArray × Value=>p.1.data.toList) ∘ encP)=S.map (·.1):=List.map_congr_left fun p _=>str_list p.1
  rw [e3] at h1;exact h1
 have hl:ss.length=S.length:=by have:=hp.length_eq;simpa using this
 rw [show (fun x y:List UInt8=>decide (x≤y))=Go.leB from rfl,mergeSort_of_perm hp,rises_sorted hS,hl] at hrow;refine ⟨v,rfl,?_,((Upd.refl _ w).alloc _).then (Upd.of_below hb (fun _=>False)) (fun _ e=>e.elim)⟩;have e1:(w.alloc (.cells #[.map (some b)] 130)).heap.size=w.heap.size+1:=by simp
 rw [e1] at hrow;have e2:(S.map (·.1)).map encStr=strs (S.map fun p=>str p.1):=by unfold strs;rw [List.map_map,List.map_map];rfl
 rw [e2] at hrow;exact hrow
theorem mclone_c {w:World} {b:Nat} {m:List (ByteArray × Value)} (hM:MapB strKey w b m) :
 Calls Tryz.prog 82 #[.map (some b)] w fun e w'=>e=.returned (.map (some w.heap.size))∧MapB strKey w' w.heap.size m∧Upd (fun _=>False) w w':=by
 obtain ⟨es,clock,hb,hst,hm⟩:=hM;refine (AnyW.maps_Clone Tryz.cloneB b es clock w hb).mono ?_;rintro e w' ⟨rfl,rfl⟩;exact ⟨rfl,⟨es,clock,(MapKept.heap_alloc w _).1,hst,hm⟩,(Upd.refl _ w).alloc _⟩
end
section
open Go Go.RowKit
structure MapAt (w:World) (m mb:Nat) (S:List PairM):Prop where
 blk:Blk w m 132 #[.map (some mb)]
 map:∃ents,MapB strKey w mb ents∧HoldsP ents S
 ok:PairsOk S
section
variable {w w':World} {m mb:Nat} {S:List PairM}
theorem MapAt.upd {F:Nat→Prop} (h:MapAt w m mb S) (hu:Upd F w w') (h1:¬F m) (h2:¬F mb):MapAt w' m mb S:=by
 obtain ⟨ents,e1,e2⟩:=h.map;exact ⟨h.blk.upd hu h1,⟨ents,e1.upd hu h2,e2⟩,h.ok⟩
theorem MapAt.still (h:MapAt w m mb S) (hu:Upd (fun _=>False) w w'):MapAt w' m mb S:=h.upd hu (fun e=>e) (fun e=>e)
theorem MapAt.lt (h:MapAt w m mb S):m<w.heap.size∧mb<w.heap.size:=by
 obtain ⟨ents,e1,e2⟩:=h.map;exact ⟨h.blk.lt,e1.lt⟩
theorem MapAt.each (h:MapAt w m mb S):∀p ∈ S,p.1.length≤33∧p.2.length≤32:=fun p hp=>⟨okPath_len (h.ok.each p hp).1,(h.ok.each p hp).2⟩
end
theorem onew_c (w:World):Calls Tryz.prog 64 #[] w fun e w'=>∃m mb,e=.returned (.pointer (some ⟨m,0,none⟩))∧MapAt w' m mb []∧w.heap.size≤m∧w.heap.size≤mb∧Upd (fun _=>False) w w':=by
 have hmm:=@run_makeMap Tryz.prog;go_enter Tryz.func64,Tryz.ntmps64
 go_wp2_with fail
 go_ret
 have hb:=Blk.new (w.alloc (.map #[] 0)) 132 #[.map (some w.heap.size)];rw [World.size_alloc] at hb;exact ⟨_,w.heap.size,rfl,⟨hb,⟨[],(MapB.new w).alloc _,List.Perm.refl _⟩,PairsOk.nil⟩,by omega,Nat.le_refl _,((Upd.refl _ w).alloc _).alloc _⟩
theorem otwin_c {w:World} {m mb:Nat} {S:List PairM} (h:MapAt w m mb S):Calls Tryz.prog 55 #[.pointer (some ⟨m,0,none⟩)] w fun e w'=>∃m2 mb2,e=.returned (.pointer (some ⟨m2,0,none⟩))∧MapAt w' m2 mb2 S∧w.heap.size≤m2∧w.heap.size≤mb2∧Upd (fun _=>False) w w':=by
 obtain ⟨ents,e1,e2⟩:=h.map;have hcl:=mclone_c e1;have cm:=h.blk.cells1;have HCL:=Lib.hid hcl;have H:=h2k e2 h.ok;clear h e1 e2 hcl;go_enter Tryz.func55,Tryz.ntmps55
 go_wp2_with fail
 refine HCL.out.mono ?_;rintro e w1 ⟨rfl,hM,hU⟩;have HM:=h2k hM hU;clear hM hU;go_wp2_with fail
 go_ret
 refine ⟨_,w.heap.size,rfl,⟨Blk.new _ _ _,⟨ents,HM.out.1.alloc _,H.out.1⟩,H.out.2⟩,HM.out.2.size,Nat.le_refl _,HM.out.2.alloc _⟩
def getV (S:List PairM) (p:List UInt8):Value:=.tuple #[.string (str ((getP p S).getD [])),.bool (getP p S).isSome]
theorem oget_c {w:World} {m mb:Nat} {S:List PairM} (h:MapAt w m mb S) (p:ByteArray):Calls Tryz.prog 19 #[.pointer (some ⟨m,0,none⟩),.string p] w fun e w'=>e=.returned (getV S p.data.toList)∧w=w':=by
 obtain ⟨ents,e1,e2⟩:=h.map;have hz:(zeroValue 9).run Tryz.prog w=.ok (.string ByteArray.empty) w:=by simp [go_sem];rfl
 have hl:=e1.run_lookup (P:=Tryz.prog) keyStr Tryz.underlying130 Tryz.underlying9 p true hz;have hg:=e2.get_ e1.nodup h.ok.rises p.data.toList;rw [str_eta] at hg;rw [hg] at hl;have hv:(if true=true then Value.tuple #[(Option.map (fun v=>Value.string (str v)) (getP p.data.toList S)).getD (.string ByteArray.empty),.bool (Option.map (fun v=>Value.string (str v)) (getP p.data.toList S)).isSome] else (Option.map (fun v=>Value.string (str v)) (getP p.data.toList S)).getD (.string ByteArray.empty))=.tuple #[.string (str ((getP p.data.toList S).getD [])),.bool (getP p.data.toList S).isSome]:=by
  rw [if_pos rfl];cases getP p.data.toList S<;>rfl
 rw [hv] at hl;unfold getV;obtain ⟨V,hV⟩:=eqx (str ((getP p.data.toList S).getD []));obtain ⟨B,hB⟩:∃V,(getP p.data.toList S).isSome=V:=⟨_,rfl⟩;rw [hV,hB] at hl ⊢;have cm:=h.blk.cells1;clear h e1 e2 hz hg hv hV hB;go_enter Tryz.func19,Tryz.ntmps19
 go_wp2_with fail
 go_ret2
 exact ⟨rfl,rfl⟩
theorem Own.of_row {w:World} {base n size:Nat} {e:TypeId} {v:Value} {xs:List Value} (h:w.ownsRow base e size v n xs):Own w e size v n xs∧∀q,v.ownBlock=some q→base≤q:=by
 refine ⟨⟨h.1,?_⟩,?_⟩
 ·rcases h.2 with ⟨e1,e2⟩ | ⟨g,cap,cur,e1,e2,e3,e4,e5,e6,e7⟩
  ·exact .inl ⟨e1,e2⟩
  ·exact .inr ⟨g,cap,cur,(0,0),e1,e3,.inl rfl,e4,e5,e6,e7⟩
 ·intro q hq
  rcases h.2 with ⟨e1,e2⟩ | ⟨g,cap,cur,e1,e2,e3,e4,e5,e6,e7⟩
  ·rw [e1] at hq;simp [Value.ownBlock] at hq
  ·rw [e1] at hq
   have:g=q:=by simpa [Value.ownBlock] using hq
   omega
theorem opaths_c {w:World} {m mb:Nat} {S:List PairM} (h:MapAt w m mb S):Calls Tryz.prog 77 #[.pointer (some ⟨m,0,none⟩)] w fun e w'=>∃v,e=.returned v∧Own w' 9 1 v S.length (strs (S.map fun p=>str p.1))∧(∀q,v.ownBlock=some q→w.heap.size≤q)∧Upd (fun _=>False) w w':=by
 obtain ⟨ents,e1,e2⟩:=h.map;have hks:=keys_s (some mb) w;have hso:=sorted_s e1 e2 h.ok.rises (fun p hp=>by have:=h.each p hp;omega) (by have:=h.ok.len;omega);have cm:=h.blk.cells1;have HK:=Lib.hid hks;have HS:=Lib.hid hso;clear h e1 e2 hks hso;go_enter Tryz.func77,Tryz.ntmps77
 go_wp2_with fail
 refine HK.out.mono ?_;rintro e w1 ⟨rfl,rfl⟩;go_wp2_with fail
 refine HS.out.mono ?_;rintro e w2 ⟨v,rfl,hrow,hU⟩;have H2:=h2k hrow hU;clear hrow hU;go_wp2_with fail
 go_ret
 obtain ⟨a,b⟩:=Own.of_row H2.out.1;exact ⟨_,rfl,a,fun q hq=>by have:=b q hq;omega,H2.out.2⟩
def pairRow (p:PairM):List Value:=[.string (str p.1),.string (str p.2)]
def pairsV (l:List PairM):List Value:=l.flatMap pairRow
theorem pairsV_snoc (l:List PairM) (p:PairM):pairsV (l++[p])=pairsV l++pairRow p:=by unfold pairsV;rw [List.flatMap_append];simp
theorem infoPair:(Tryz.prog.info? 55).map (fun i=>(i.zero,i.size,i.bytes))=some (some (.agg #[.string ByteArray.empty,.string ByteArray.empty]),2,32):=by kernel_rfl
theorem oall_c {w:World} {m mb:Nat} {S:List PairM} (h:MapAt w m mb S):Calls Tryz.prog 30 #[.pointer (some ⟨m,0,none⟩)] w fun e w'=>∃v,e=.returned v∧Own w' 55 2 v S.length (pairsV S)∧(∀q,v.ownBlock=some q→w.heap.size≤q)∧Upd (fun _=>False) w w':=by
 have HP:=Lib.hid (opaths_c h);have H:=Lib.hid h;have hS48:=h.ok.len;obtain ⟨ti,hi0,hz0,hz1,hz2⟩:=info_parts infoPair;have HI:=h4k hi0 hz0 hz1 hz2;clear h hi0 hz0 hz1 hz2;go_enter Tryz.func30,Tryz.ntmps30
 go_wp2_with fail
 refine HP.out.mono ?_;rintro e w1 ⟨v,rfl,hO,hv,hU⟩;obtain ⟨A,cap,rfl,-,-⟩:=hO.shape;have H1:=h3k hO hv hU;clear hU hO hv;go_wp2_with fail
 go_loopw [3,5,9] (fun x _ i wr=>∃k:Nat,k≤S.length∧i=.int .i64 (k:Int)∧Own wr 55 2 x k (pairsV (S.take k))∧(∀q,x.ownBlock=some q→w1.heap.size≤q)∧Upd (fun _=>False) w1 wr) (fun _ _ i _=>S.length - (intOf i).toNat)
 case atStart=>exact ⟨0,by omega,rfl,Own.nil _ _ _,by simp [Value.ownBlock],Upd.refl _ _⟩
 case round =>
  obtain ⟨k,hk,rfl,hX,hx,hU⟩:=hrel;by_cases hlt:k<S.length
  ·obtain ⟨g,cp,hAe,-,-⟩:=H1.out.1.head (by omega)
   injection hAe with hAe;subst hAe;have hcell:wr.cell? ⟨g,0+k,none⟩=some (.string (str S[k].1)):=by
    have h1:=(H1.out.1.upd hU (fun _ _ e=>e)).cellAt k (by omega);rw [Nat.zero_add,h1];simp [strs,hlt]
   obtain ⟨ents,e1,e2⟩:=H.out.map;have hUw:=H1.out.2.2.then hU (fun _ e=>e.elim);have hM:=e1.upd hUw (fun e=>e);have hz:(zeroValue 9).run Tryz.prog wr=.ok (.string ByteArray.empty) wr:=by simp [go_sem];rfl
   have hl:=hM.run_lookup (P:=Tryz.prog) keyStr Tryz.underlying130 Tryz.underlying9 (str S[k].1) false hz;rw [e2.get_ e1.nodup H.out.ok.rises,find_key H.out.ok.rises (List.getElem_mem hlt)] at hl;have htk:pairsV (S.take (k+1))=pairsV (S.take k)++pairRow S[k]:=by rw [List.take_succ_eq_append_getElem hlt,pairsV_snoc]
   have cm:=(H.out.blk.upd hUw (fun e=>e)).cells1;obtain ⟨P,hP⟩:=eqx (str S[k].1);obtain ⟨V,hV⟩:∃P,str S[k].2=P:=⟨_,rfl⟩;have hpr:pairRow S[k]=[.string P,.string V]:=by unfold pairRow;rw [hP,hV]
   rw [hP] at hcell hl;rw [hpr] at htk;have hl2:(Instr.lookup 130 (.map (some mb)) (.string P) false).run Tryz.prog wr=.ok (.string V) wr:=by rw [← hV];exact hl
   rw [Nat.zero_add] at hcell;obtain ⟨A2,cap2,rfl,-,-⟩:=hX.shape;have j1:(k:Int)<(S.length:Int):=by omega
   have HX:=h4k hX hx hU htk;clear hX hx hU htk hM e1 e2 hz hl hpr hUw hP hV;go_wp2_with (first
    | (at_builtin;refine wpList_append_src rfl _ _ _ _ rfl 55 ti _ 2 32 Tryz.underlying56 HI.out.1 HI.out.2.1 HI.out.2.2.1 HI.out.2.2.2 rfl (.slice A2 k cap2) k _ rfl (HX.out.1.alloc _) _ 1 [_,_] rfl (Src.of_news Tryz.underlying56 _ rfl) (by simp [Value.oneCell']) (by unfold maxLen;omega) (by omega) ?_;intro v2 w15 hO15 hU15 hl15 hs15
       have H15:=h4k hO15 hU15 hl15 hs15;clear hO15 hU15 hl15 hs15))
   go_roundw
   case rel =>
    have hw:=HX.out.2.2.1.size;refine ⟨v2,.string P,.int .i64 ((k:Int)+1),⟨k+1,by omega,by go_num,?_,fun q hq=>?_,((HX.out.2.2.1.alloc _).then H15.out.2.1 (fun q e=>.inr (HX.out.2.1 q e)))⟩,rfl,rfl,rfl⟩
    ·rw [HX.out.2.2.2];exact H15.out.1
    ·rcases H15.out.2.2.1 with e | e
     ·exact HX.out.2.1 q (by rw [← e];exact hq)
     ·rw [hq] at e
      have:=Option.some.inj e;rw [World.size_alloc] at this;omega
   case measure=>simp [intOf]<;>omega
  ·obtain rfl:k=S.length:=by omega
   rw [List.take_length] at hX;have HX:=h3k hX hx hU;clear hX hx hU;go_wp2_with fail
   go_ret
   exact ⟨_,rfl,HX.out.1,fun q hq=>by have:=HX.out.2.1 q hq;have:=H1.out.2.2.size;omega,H1.out.2.2.then HX.out.2.2 (fun _ e=>e.elim)⟩
end
section
open Go Go.RowKit
theorem map_len_s {w:World} {b:Nat} {m:List (ByteArray × Value)} (h:MapB strKey w b m):(Builtin.len_ #[130] 3 #[.map (some b)]).run Tryz.prog w=.ok (.int .i64 (m.length:Int)) w:=by
 obtain ⟨es,clock,hb,-,hm⟩:=h;have hl:es.toList.length=m.length:=by have:=congrArg List.length hm;simpa using this
 have hl2:es.size=m.length:=by simpa using hl
 rw [run_len_map w _ _ _ es clock (by kernel_rfl) hb,hl2];first | rfl | simp [goInt]
structure DoEnd (w w':World) (m:Nat) (S:List PairM) (l:List OpM):Prop where
 no:doE S l≠0→Upd (fun _=>False) w w'
 yes:doE S l=0→∃mb',MapAt w' m mb' (doL S l)∧w.heap.size≤mb'∧Upd (· = m) w w'
theorem doL_take {S:List PairM} {l:List OpM} {k:Nat} (hk:k<l.length):doL S (l.take (k+1))=if l[k].kind=2 then delP l[k].path (doL S (l.take k)) else insP l[k].path l[k].value (doL S (l.take k)):=by
 rw [List.take_succ_eq_append_getElem hk];unfold doL;rw [List.foldl_append];rfl
theorem doL_rises {S:List PairM} (h:Rises S) (l:List OpM):Rises (doL S l):=by
 induction l generalizing S with
 | nil=>exact h
 | cons o r ih =>
   have e:doL S (o::r)=doL (if o.kind=2 then delP o.path S else insP o.path o.value S) r:=rfl;rw [e];refine ih ?_;split
   ·exact delP_rises h
   ·exact insP_rises h
theorem built_b11 (A:Option Addr) (n cap:Nat):Tryz.prog.built 35 [(0,.int .i64 1),(1,.int .i64 1),(2,.slice A n cap)]=some (batRow 1 1 (.slice A n cap)):=by kernel_rfl
theorem odo_c {w:World} {m mb:Nat} {S:List PairM} (h:MapAt w m mb S) {A:Option Addr} {cap b off:Nat} {l:List OpM} (hA:0<l.length→A=some ⟨b,off,none⟩) (hb:∀w',Upd (fun _=>False) w w'→OpsAt w' b off l) (hs:OpsSmall l) (hl:l.length≤1000000) :
 Calls Tryz.prog 36 #[.pointer (some ⟨m,0,none⟩),.slice A l.length cap] w fun e w'=>e=.returned (.int .i64 (doE S l))∧DoEnd w w' m S l:=by
 have hri:=bright_c (cap:=cap) (i:=1) (ep:=1) (w:=w) hA hb hs hl;by_cases hE0:batErr 1 1 l=0
 ·rw [hE0] at hri
  obtain ⟨-,-,-,b4,b5⟩:=batErr_zero hE0;have HE:Hid (doE S l=if 48<(doL S l).length then 6 else 0):=Lib.hid (by unfold doE;rw [if_neg (by simp [hE0])]);have HRI:=Lib.hid hri;have HB:=Lib.hid hb;have HX:=h2k hE0 b5;have H:=Lib.hid h;have l4:(l.length:Int)≤4:=by omega
  clear hri hb hs hE0 b4 b5 h;go_enter Tryz.func36,Tryz.ntmps36
  go_upto_region 6 with (first
   | (refine wpList_build_is rfl _ _ rfl [(0,.int .i64 1),(1,.int .i64 1),(2,.slice A l.length cap)] _ (by first | rfl | kernel_rfl) (built_b11 _ _ _) ?_)
   | (go_at_call 81
      refine HRI.out.mono ?_;rintro e w1 ⟨rfl,hU1⟩;have H1:=h2k (H.out.still hU1) hU1;clear hU1))
  obtain ⟨ents,e1,e2⟩:=H1.out.1.map;have hcl:=mclone_c e1;have cm:=H1.out.1.blk.cells1;have HCL:=h2k hcl e2;clear hcl e1 e2;obtain ⟨c,hc⟩:=eqx w1.heap.size;have HC:=Lib.hid hc;rw [hc] at HCL;have hmn:∀W:World,(binOp .eql 130 (.map (some c)) (.map none)).run Tryz.prog W=.ok (.bool false) W:=fun W=>by first | rfl | kernel_rfl | simp [binOp,Op.equal,run_underlying Tryz.underlying130]
  clear hc;go_wp2_with fail
  refine HCL.out.1.mono ?_;rintro e w2 ⟨rfl,hM2,hU2⟩;have H2:=h2k hM2 hU2;clear hM2 hU2 cm;have hmn2:=hmn w2;go_wp2_with fail
  go_loopw [8,27] (fun _ u wr=>∃(k:Nat) (es:List (ByteArray × Value)),k≤l.length∧u=.int .i64 (k:Int)∧MapB strKey wr c es∧HoldsP es (doL S (l.take k))∧Upd (· = c) w2 wr) (fun _ u _=>l.length - (intOf u).toNat)
  case atStart=>exact ⟨0,ents,by omega,rfl,H2.out.1,HCL.out.2,Upd.refl _ _⟩
  case round =>
   obtain ⟨k,es,hk,rfl,hM,hH,hU⟩:=hrel;by_cases hlt:k<l.length
   ·obtain rfl:=hA (by omega)
    have hcw:w.heap.size≤c:=by rw [← HC.out];exact H1.out.2.size
    have hUw:Upd (fun _=>False) w wr:=(H1.out.2.then H2.out.2 (fun _ e=>e.elim)).then hU (fun q e=>.inr (by have e2:q=c:=e;omega));have hrow:=HB.out wr hUw k hlt;have hoe:=HX.out.2 _ (List.getElem_mem hlt);have hst:=doL_take (S:=S) hlt;obtain ⟨o,ho⟩:=eqx (l[k]);rw [ho] at hrow hoe hst;obtain ⟨x1,-,-,-,-⟩:=opErr_zero hoe;obtain ⟨P,hP⟩:=eqx (str o.path);obtain ⟨V,hV⟩:∃P,str o.value=P:=⟨_,rfl⟩;obtain ⟨Kb,hKb⟩:∃K,o.kind=K:=⟨_,rfl⟩;have hrw:opRow o=[.int .u8 (Kb.toNat:Int),.string P,.string V]:=by unfold opRow;rw [hP,hV,hKb]
    rw [hrw] at hrow;rw [hKb] at x1 hst;have HR:=Lib.hid hrow;have HM:=h3k hM hH hU;have HS:=h3k hst hP hV;have HX1:=Lib.hid x1;have j1:(k:Int)<(l.length:Int):=by omega
    obtain ⟨g,hg⟩:=eqx wr.heap.size;have HG:=Lib.hid hg;clear hrow hM hH hU hst hP hV x1 hoe ho hKb hrw hUw hcw;rcases HX1.out with rfl | rfl
    ·go_upto_region 12 with (first
      | (refine wpList_load_mid rfl _ _ rfl b (off+k*3) rfl [.int .u8 1,.string P,.string V] _ HR.out Tryz.underlying32 rfl (by kernel_rfl) ?_))
     generalize hw5:World.alloc _ _=w5;have hB5:Blk w5 g 32 #[.int .u8 1,.string P,.string V]:=by rw [← hw5,← HG.out];exact Blk.new wr _ _
     have hM5:MapB strKey w5 c es:=by rw [← hw5];exact HM.out.1.alloc _
     have hU5:Upd (· = c) w2 w5:=by rw [← hw5];exact HM.out.2.2.alloc _
     obtain ⟨c0,c1,c2⟩:=hB5.cells3;have H5:=h2k hM5 hU5;clear hB5 hM5 hU5 hw5 hg;obtain ⟨w6,hrun6,hM6,hU6,hz6⟩:=H5.out.1.run_update (P:=Tryz.prog) keyStr Tryz.underlying130 Tryz.underlying9 P (.string V);have H6:=h2k hM6 (H5.out.2.then hU6 (fun _ e=>.inl e));clear hM6 hU6 hz6;have hHH:=HM.out.2.1.set_ HM.out.1.nodup (doL_rises H.out.ok.rises _) o.path o.value;rw [HS.out.2.1,HS.out.2.2] at hHH;have HHH:=Lib.hid hHH;clear hHH;go_wp2_with (first | (refine wpList_mapUpdate_run rfl _ _ _ _ rfl rfl rfl rfl hrun6 ?_))
     go_roundw
     case rel=>exact ⟨k+1,_,by omega,by go_num,H6.out.1,by rw [HS.out.1,if_neg (by decide)];exact HHH.out,H6.out.2⟩
     case measure=>simp [intOf]<;>omega
    ·go_upto_region 12 with (first
      | (refine wpList_load_mid rfl _ _ rfl b (off+k*3) rfl [.int .u8 2,.string P,.string V] _ HR.out Tryz.underlying32 rfl (by kernel_rfl) ?_))
     generalize hw5:World.alloc _ _=w5;have hB5:Blk w5 g 32 #[.int .u8 2,.string P,.string V]:=by rw [← hw5,← HG.out];exact Blk.new wr _ _
     have hM5:MapB strKey w5 c es:=by rw [← hw5];exact HM.out.1.alloc _
     have hU5:Upd (· = c) w2 w5:=by rw [← hw5];exact HM.out.2.2.alloc _
     obtain ⟨c0,c1,c2⟩:=hB5.cells3;have H5:=h2k hM5 hU5;clear hB5 hM5 hU5 hw5 hg;obtain ⟨w6,hrun6,hM6,hU6,hz6⟩:=H5.out.1.run_delete (P:=Tryz.prog) (ty:=0) keyStr Tryz.underlying130 Tryz.underlying9 P;have H6:=h2k hM6 (H5.out.2.then hU6 (fun _ e=>.inl e));clear hM6 hU6 hz6;have hHH:=HM.out.2.1.del_ o.path;rw [HS.out.2.1] at hHH;have HHH:=Lib.hid hHH;clear hHH;go_wp2_with (first | (refine wpList_delete_run rfl _ _ _ _ rfl rfl rfl hrun6 ?_))
     go_roundw
     case rel=>exact ⟨k+1,_,by omega,by go_num,H6.out.1,by rw [HS.out.1,if_pos rfl];exact HHH.out,H6.out.2⟩
     case measure=>simp [intOf]<;>omega
   ·obtain rfl:k=l.length:=by omega
    rw [List.take_length] at hH;have HM:=h3k hM hH hU;have hln:=map_len_s hM;have hle:es.length=(doL S l).length:=by have:=hH.length_eq;simpa using this
    rw [hle] at hln;have hok:=doL_ok (i:=1) (e:=1) H.out.ok HX.out.1;clear hM hH hU hlt hk;have HMB:=h2k hok hle;have HU2:Hid (Upd (fun _=>False) w1 wr):=Lib.hid (H2.out.2.then HM.out.2.2 (fun q e=>.inr (by have e2:q=c:=e;have:=HC.out;omega)));have HUw:Hid (Upd (fun _=>False) w wr):=Lib.hid (H1.out.2.then HU2.out (fun _ e=>e.elim));clear hok hle;by_cases h48:(48:Int)<((doL S l).length:Int)
    ·have hE6:doE S l=6:=by rw [HE.out,if_pos (by omega)]
     have HE6:=Lib.hid hE6;clear hE6;go_wp2_with fail
     go_ret
     exact ⟨by rw [HE6.out];rfl,fun _=>HUw.out,fun e=>by rw [HE6.out] at e;exact absurd e (by decide)⟩
    ·have hE6:doE S l=0:=by rw [HE.out,if_neg (by omega)]
     have HE6:=Lib.hid hE6;have hBm:=H1.out.1.blk.upd HU2.out (fun e=>e);have cm:=hBm.cells1;have fm:=hBm.frozen 0;have HBm:=Lib.hid hBm;clear hE6 hBm;go_wp2_with fail
     go_ret
     refine ⟨by rw [HE6.out];rfl,fun e=>absurd HE6.out e,fun _=>⟨c,⟨HBm.out.set_ 0 _,⟨es,HM.out.1.far ?_ _,HM.out.2.1⟩,HMB.out.1 (by omega)⟩,by rw [← HC.out];exact H1.out.2.size,(HUw.out.mono (G:=(· = m)) (fun _ e=>e.elim)).setCell (p:=⟨m,0,none⟩) (.inl rfl) _⟩⟩;exact HM.out.1.ne_blk HBm.out
 ·have HRI:=Lib.hid hri
  have HE:Hid (doE S l=batErr 1 1 l):=Lib.hid (by unfold doE;rw [if_pos hE0]);obtain ⟨E,hE⟩:=eqx (batErr 1 1 l);rw [hE] at hE0 HRI HE;rw [HE.out];have k1:(E != 0)=true:=by simpa using hE0
  have HE0:=Lib.hid hE0;clear hri hb hs hE hE0 h;go_enter Tryz.func36,Tryz.ntmps36
  go_wp2_with (first
   | (refine wpList_build_is rfl _ _ rfl [(0,.int .i64 1),(1,.int .i64 1),(2,.slice A l.length cap)] _ (by first | rfl | kernel_rfl) (built_b11 _ _ _) ?_)
   | (go_at_call 81
      refine HRI.out.mono ?_;rintro e w1 ⟨rfl,hU1⟩;have H1:=Lib.hid hU1;clear hU1))
  go_ret
  exact ⟨rfl,fun _=>H1.out,fun e=>absurd (HE.out ▸ e) HE0.out⟩
end
section
open Go Go.RowKit
def PairsAt (w:World) (b off:Nat) (l:List PairM):Prop:=∀i (h:i<l.length),w.rangeAt b (off+i*2) (pairRow l[i])
structure OfEnd (w w':World) (l:List PairM) (e:Ending):Prop where
 no:(ofP l).2≠0→e=.returned (.tuple #[.pointer none,.int .i64 (ofP l).2])
 yes:(ofP l).2=0→∃m mb,e=.returned (.tuple #[.pointer (some ⟨m,0,none⟩),.int .i64 0])∧MapAt w' m mb (ofP l).1∧w.heap.size≤m∧w.heap.size≤mb
 upd:Upd (fun _=>False) w w'
theorem ofL_bad {T r:List PairM} {p:PairM} (h:okPath p.1=false∨32<p.2.length):ofL T (p::r)=([],1):=by unfold ofL;rw [if_pos h]
theorem ofL_there {T r:List PairM} {p:PairM} (h:¬(okPath p.1=false∨32<p.2.length)) (h2:(getP p.1 T).isSome=true):ofL T (p::r)=([],5):=by unfold ofL;rw [if_neg h,if_pos h2]
theorem ofL_next {T r:List PairM} {p:PairM} (h:¬(okPath p.1=false∨32<p.2.length)) (h2:(getP p.1 T).isSome=false):ofL T (p::r)=ofL (insP p.1 p.2 T) r:=by
 conv=>lhs;unfold ofL
 rw [if_neg h,if_neg (by rw [h2];simp)]
theorem oof_c {w:World} {A:Option Addr} {cap b off:Nat} {l:List PairM} (hA:0<l.length→A=some ⟨b,off,none⟩) (hb:∀w',Upd (fun _=>False) w w'→PairsAt w' b off l) (hs:∀p ∈ l,p.1.length≤1000000∧p.2.length≤1000000) (hl:l.length≤1000000) :
 Calls Tryz.prog 75 #[.slice A l.length cap] w fun e w'=>OfEnd w w' l e:=by
 by_cases h48:(48:Int)<(l.length:Int)
 ·have hR:ofP l=([],6):=by unfold ofP;rw [if_pos (by omega)]
  have HR:=Lib.hid hR;clear hb hs hA hR;go_enter Tryz.func75,Tryz.ntmps75
  go_wp2_with fail
  go_ret2
  exact ⟨fun _=>by rw [HR.out];rfl,fun e=>by rw [HR.out] at e;exact absurd e (by decide),Upd.refl _ _⟩
 ·have hR:ofP l=ofL [] l:=by unfold ofP;rw [if_neg (by omega)]
  obtain ⟨R,hRR⟩:=eqx (ofL [] l);rw [hRR] at hR;have HR:=h2k hR hRR;have HB:=Lib.hid hb;have HS:=Lib.hid hs;have HNW:=Lib.hid (fun W=>onew_c W);clear hb hs hR hRR;go_enter Tryz.func75,Tryz.ntmps75
  go_wp2_with fail
  refine (HNW.out _).mono ?_;rintro e w1 ⟨m,mb,rfl,hM,hm,hmb,hU1⟩;have H1:=h4k hM hm hmb hU1;clear hM hm hmb hU1;go_wp2_with fail
  go_loopw [6,7,8,9,10,11,18] (fun _ _ _ _ _ _ u wr=>∃(k:Nat) (T:List PairM) (es:List (ByteArray × Value)),k≤l.length∧u=.int .i64 (k:Int)∧ofL T (l.drop k)=R∧Rises T∧MapB strKey wr mb es∧HoldsP es T∧Upd (· = mb) w1 wr) (fun _ _ _ _ _ _ u _=>l.length - (intOf u).toNat)
  case atStart =>
   obtain ⟨ents,e1,e2⟩:=H1.out.1.map;exact ⟨0,[],ents,by omega,rfl,HR.out.2,List.Pairwise.nil,e1,e2,Upd.refl _ _⟩
  case round =>
   obtain ⟨k,T,es,hk,rfl,hE,hT,hM,hH,hU⟩:=hrel;have hUw:Upd (fun _=>False) w wr:=H1.out.2.2.2.then hU (fun q e=>.inr (by have e2:q=mb:=e;have:=H1.out.2.2.1;omega));have nbm:mb≠m:=by
    obtain ⟨ents,e1,e2⟩:=H1.out.1.map;exact e1.ne_blk H1.out.1.blk
   by_cases hlt:k<l.length
   ·obtain rfl:=hA (by omega)
    have hrow:=HB.out wr hUw k hlt;have hsm:=HS.out _ (List.getElem_mem hlt);rw [List.drop_eq_getElem_cons hlt] at hE;obtain ⟨p,hp⟩:=eqx (l[k]);rw [hp] at hrow hsm hE;obtain ⟨P,hP⟩:=eqx (str p.1);obtain ⟨V,hV⟩:∃P,str p.2=P:=⟨_,rfl⟩;have hPl:P.data.toList=p.1:=by rw [← hP,str_list]
    have hVs:V.size=p.2.length:=by rw [← hV,str_size]
    have hrw:pairRow p=[.string P,.string V]:=by unfold pairRow;rw [hP,hV]
    rw [hrw] at hrow;have hcut:=fun W=>pcut_c P (by rw [← hP,str_size];exact hsm.1) W
    rw [hPl] at hcut;obtain ⟨ca,hca⟩:∃a,str (cutP p.1).1=a:=⟨_,rfl⟩;obtain ⟨cb,hcb⟩:∃a,str (cutP p.1).2.1=a:=⟨_,rfl⟩;obtain ⟨B,hB⟩:=eqx (okPath p.1);rw [hca,hcb,hB] at hcut;have HCUT:=Lib.hid hcut;have HRW:=Lib.hid hrow;have HM:=h5k hM hH hT hU hUw;have HP:=h5k hP hV hVs hB hE;have HN:=Lib.hid nbm;have j1:(k:Int)<(l.length:Int):=by omega
    obtain ⟨g,hg⟩:=eqx wr.heap.size;have HG:=Lib.hid hg;clear hrow hsm hE hP hV hPl hVs hrw hcut hca hcb hB hM hH hT hU hUw hp nbm;go_upto_region 7 with (first
     | (refine wpList_load_mid rfl _ _ rfl b (off+k*2) rfl [.string P,.string V] _ HRW.out Tryz.underlying55 rfl (by kernel_rfl) ?_))
    generalize hw5:World.alloc _ _=w5;have hB5:Blk w5 g 55 #[.string P,.string V]:=by rw [← hw5,← HG.out];exact Blk.new wr _ _
    have hU5:Upd (fun _=>False) wr w5:=by rw [← hw5];exact (Upd.refl _ wr).alloc _
    obtain ⟨c0,c1⟩:=hB5.cells2;have H5:=h2k hB5 hU5;clear hB5 hU5 hw5 hg;go_wp2_with fail
    refine (HCUT.out _).mono ?_;rintro e w6 ⟨rfl,hU6⟩;obtain ⟨c0,c1⟩:=(H5.out.1.upd hU6 (fun e=>e)).cells2;have hU56:=H5.out.2.then hU6 (fun _ e=>e.elim);have H6:=h2k (H5.out.1.upd hU6 (fun e=>e)) hU56;clear hU6 hU56;cases B
    ·have hbad:=ofL_bad (T:=T) (r:=l.drop (k+1)) (p:=p) (.inl HP.out.2.2.2.1)
     have HBAD:=Lib.hid (HP.out.2.2.2.2.symm.trans hbad);clear hbad;go_wp2_with fail
     go_ret2
     exact ⟨fun _=>by rw [HR.out.1,HBAD.out];rfl,fun e=>by rw [HR.out.1,HBAD.out] at e;exact absurd e (by decide),HM.out.2.2.2.2.then H6.out.2 (fun _ e=>e.elim)⟩
    ·by_cases h32:(32:Int)<(V.size:Int)
     ·have hbad:=ofL_bad (T:=T) (r:=l.drop (k+1)) (p:=p) (.inr (by have:=HP.out.2.2.1;omega))
      have HBAD:=Lib.hid (HP.out.2.2.2.2.symm.trans hbad);clear hbad;go_wp2_with fail
      go_ret2
      exact ⟨fun _=>by rw [HR.out.1,HBAD.out];rfl,fun e=>by rw [HR.out.1,HBAD.out] at e;exact absurd e (by decide),HM.out.2.2.2.2.then H6.out.2 (fun _ e=>e.elim)⟩
     ·have hgood:¬(okPath p.1=false∨32<p.2.length):=by
       have:=HP.out.2.2.1;rw [HP.out.2.2.2.1];simp
       omega
      have HGD:=Lib.hid hgood;have hM6:=HM.out.1.upd H6.out.2 (fun e=>e);have cm:=(H1.out.1.blk.upd (HM.out.2.2.2.1.then H6.out.2 (fun _ e=>e.elim)) (fun e=>HN.out e.symm)).cells1;have hz:∀W:World,(zeroValue 9).run Tryz.prog W=.ok (.string ByteArray.empty) W:=fun W=>by simp [go_sem];rfl
      have hlk:∀n,(Instr.lookup 130 (.map (some mb)) (.string P) true).run Tryz.prog (w6.drewN n)=.ok (.tuple #[((getP p.1 T).map fun v=>Value.string (str v)).getD (.string ByteArray.empty),.bool (getP p.1 T).isSome]) (w6.drewN n):=fun n=>by
       have h:=(hM6.upd ((Upd.refl (fun _=>False) w6).drewN n) (fun e=>e)).run_lookup (P:=Tryz.prog) keyStr Tryz.underlying130 Tryz.underlying9 P true (hz _);have hgt:=HM.out.2.1.get_ HM.out.1.nodup HM.out.2.2.1 p.1;rw [HP.out.1] at hgt;rw [hgt,if_pos rfl,Option.isSome_map] at h;exact h
      obtain ⟨GV,hGV⟩:∃G,((getP p.1 T).map fun v=>Value.string (str v)).getD (.string ByteArray.empty)=G:=⟨_,rfl⟩;obtain ⟨GB,hGB⟩:∃G,(getP p.1 T).isSome=G:=⟨_,rfl⟩;rw [hGV,hGB] at hlk;have HGB:=Lib.hid hGB;have HM6:=h2k hM6 hlk;clear hgood hM6 hz hlk hGV hGB;go_upto_region 10 with fail
      have hlk:=HM6.out.2;go_quiet (fail)
      go_upto_region 11 with fail
      have hM7:=HM6.out.1.upd ((Upd.refl (fun _=>False) w6).drewN nq) (fun e=>e);have hU7:=H6.out.2.drewN nq;have hB7:=H6.out.1.drewN nq;generalize hw7:World.drewN w6 nq=w7 at hM7 hU7 hB7 ⊢;have H7:=h3k hM7 hU7 hB7;clear hw7 hlk hM7 hU7 hB7 c0 c1 cm;cases GB
      ·have hnx:=ofL_next (T:=T) (r:=l.drop (k+1)) (p:=p) HGD.out HGB.out
       have hcm:=H1.out.1.blk.upd (HM.out.2.2.2.1.then H7.out.2.1 (fun _ e=>e.elim)) (fun e=>HN.out e.symm);have cm:=hcm.cells1;obtain ⟨c0,c1⟩:=H7.out.2.2.cells2;obtain ⟨w8,hrun8,hM8,hU8,hz8⟩:=(H7.out.1.drew).run_update (P:=Tryz.prog) keyStr Tryz.underlying130 Tryz.underlying9 P (.string V);have hH8:=HM.out.2.1.set_ HM.out.1.nodup HM.out.2.2.1 p.1 p.2;rw [HP.out.1,HP.out.2.1] at hH8;have H8:=h4k hM8 hH8 ((HM.out.2.2.2.1.then H7.out.2.1.drew (fun _ e=>e.elim)).then hU8 (fun _ e=>.inl e)) hnx;clear hnx hcm hM8 hU8 hz8 hH8;go_upto_region 13 with fail
       go_still_tail 8,(by kernel_rfl)
       change wpList _ _ _ _ _ w7.drew;go_wp2_with (first | (refine wpList_mapUpdate_run rfl _ _ _ _ rfl rfl rfl rfl hrun8 ?_))
       go_roundw
       case rel=>exact ⟨k+1,insP p.1 p.2 T,_,by omega,by go_num,by rw [← H8.out.2.2.2];exact HP.out.2.2.2.2,insP_rises HM.out.2.2.1,H8.out.1,H8.out.2.1,H8.out.2.2.1⟩
       case measure=>simp [intOf]<;>omega
      ·have hth:=ofL_there (T:=T) (r:=l.drop (k+1)) (p:=p) HGD.out HGB.out
       have HTH:=Lib.hid (HP.out.2.2.2.2.symm.trans hth);clear hth;go_wp2_with fail
       go_ret2
       exact ⟨fun _=>by rw [HR.out.1,HTH.out];rfl,fun e=>by rw [HR.out.1,HTH.out] at e;exact absurd e (by decide),HM.out.2.2.2.2.then H7.out.2.1 (fun _ e=>e.elim)⟩
   ·obtain rfl:k=l.length:=by omega
    rw [List.drop_of_length_le (Nat.le_refl _)] at hE;have hR2:R=(T,0):=by rw [← hE];rfl
    have HM:=h6k hM hH hU hUw hR2 nbm;clear hM hH hU hUw hE hR2 hlt hk nbm;go_wp2_with fail
    go_ret2
    refine ⟨fun e=>absurd (show (ofP l).2=0 by rw [HR.out.1,HM.out.2.2.2.2.1]) e,fun e=>⟨m,mb,rfl,⟨H1.out.1.blk.upd HM.out.2.2.1 (fun e=>HM.out.2.2.2.2.2 e.symm),⟨es,HM.out.1,?_⟩,ofP_ok e⟩,H1.out.2.1,H1.out.2.2.1⟩,HM.out.2.2.2.1⟩;rw [HR.out.1,HM.out.2.2.2.2.1];exact HM.out.2.1
end
section
open Go Go.RowKit
theorem rkey_c (master:ByteArray) (i:Nat) (hi:i≤1048576) (hm:master.size≤64) (w:World) :
 Calls Tryz.prog 167 #[.string master,.int .i64 (i:Int)] w fun e w'=>e=.returned (.agg (arrB (ringK master.data.toList i)))∧Upd (fun _=>False) w w':=by
 obtain ⟨g,hg⟩:=eqx w.heap.size;have HG:=Lib.hid hg;have ei:IntKind.u64.wrap (i:Int)=(i:Int):=u64_wrap i (by omega);obtain ⟨B,hB⟩:=eqx (([114,105,110,103]:List UInt8)++beB i 8);have hBl:B.length=12:=by rw [← hB,List.length_append,beB_len];rfl
 obtain ⟨K,hK⟩:=eqx (tagL master.data.toList B);have hKl:K.length=32:=by rw [← hK];exact tagL_len _ _
 have hrk:ringK master.data.toList i=K:=by unfold ringK;rw [hB,hK]
 rw [hrk];have htg:=fun W=>tag_c master (str B) W hm (by rw [str_size];omega)
 rw [str_list,hK] at htg;have HTG:=Lib.hid htg;have HX:=h3k hB hKl hrk;clear hi hm hB hBl hK hKl hrk htg;go_enter Tryz.func167,Tryz.ntmps167
 go_upto_region 1 with (fail)
 generalize hw2:World.alloc _ _=w2;have hr2:Blk w2 g 194 (arrB (List.replicate 32 0)):=by rw [← hw2,← hg];exact Blk.new w _ _
 have hU2:Upd (fun _=>False) w w2:=by rw [← hw2];exact (Upd.refl _ w).alloc _
 have HW2:=h2k hr2 hU2;clear hr2 hU2 hw2 hg;obtain ⟨q,hq⟩:=eqx w2.heap.size;have HQ:=Lib.hid hq;have hcv:=Lib.run_convert_bytes_const (P:=Tryz.prog) w2 89 5 #[.int .u8 114,.int .u8 105,.int .u8 110,.int .u8 103] 4 4 Tryz.underlying89 Tryz.underlying5;rw [hq] at hcv;go_upto_region 2 with (first
  | (go_at_call 215
     generalize hw3:World.alloc _ _=w3;have ho3:Own w3 5 1 (.slice (some ⟨q,0,none⟩) 4 4) 4 (bytesV [114,105,110,103]):=by
      refine ⟨rfl,.inr ⟨q,4,#[.int .u8 114,.int .u8 105,.int .u8 110,.int .u8 103],(4,5),rfl,?_,.inr (by decide),by decide,by decide,rfl,rfl⟩⟩;rw [← hw3,← hq];exact heap_alloc_new w2 _
     have hu3:Upd (fun _=>False) w2 w3:=by rw [← hw3];exact (Upd.refl _ w2).alloc _
     refine (putBig_ring _ 4 _ i 8 w3 ho3 (by decide) (by decide)).mono ?_;rintro e w4 ⟨v4,rfl,ho4,hU4,hl4⟩;rw [← bytesV_app,HX.out.1] at ho4;have hu4:Upd (fun _=>False) w2 w4:=hu3.then hU4 (fun b hb=>.inr (by simp [Value.ownBlock] at hb;have:=HQ.out;omega));have HW4:=h3k ho4 (HW2.out.1.upd hu4 (fun e=>e)) (HW2.out.2.then hu4 (fun _ e=>e.elim));clear hw3 ho3 hu3 hU4 hl4 hu4 hcv ho4 hq))
 have hcs:=run_to_string HW4.out.1;go_wp2_with (first
  | (go_at_call 212
     refine (HTG.out _).mono ?_;rintro e w5 ⟨rfl,hU5⟩;have HW5:=h2k (HW4.out.2.1.upd hU5 (fun e=>e)) (HW4.out.2.2.then hU5 (fun _ e=>e.elim));clear hU5 hcs)
  | (refine wpList_store_all rfl 194 _ _ rfl g (arrB K) rfl rfl _ _ HW5.out.1 (by rw [arrB_size,arrB_size,HX.out.2.1];rfl) (arrB_one _) (by rw [arrB_size,HX.out.2.1];kernel_rfl) ?_
     intro w6 hB6 hU6 hz6))
 refine bodyPost_ret (results_cell_row rfl _ _ g _ _ _ _ rfl hB6 Tryz.underlying194 rfl (by rw [arrB_size,HX.out.2.1];kernel_rfl)) rfl ⟨rfl,HW5.out.2.then hU6 (fun b hb=>.inr (by have e2:b=g:=hb;have:=HG.out;omega))⟩
end
section
open Go Go.RowKit
theorem aload_c (b off:Nat) (x:Int) (w:World) (hc:w.cell? ⟨b,off,none⟩=some (.int .u64 x)) :
 Calls Tryz.prog 106 #[.pointer (some ⟨b,off,none⟩)] w fun e w'=>e=.returned (.int .u64 x)∧w'=w:=by
 have hl:=run_call_load (P:=Tryz.prog) Tryz.func161 (by kernel_rfl) (by kernel_rfl) (by kernel_rfl) .u64 (by kernel_rfl) hc;go_enter Tryz.func106,Tryz.ntmps106
 go_wp2
 go_ret
 exact ⟨rfl,rfl⟩
theorem aadd_c (b off:Nat) (x:Nat) (hx:x<18446744073709551615) (w:World) (hc:w.cell? ⟨b,off,none⟩=some (.int .u64 (x:Int))) (hz:w.frozen? ⟨b,off,none⟩=false) :
 Calls Tryz.prog 110 #[.pointer (some ⟨b,off,none⟩),.int .u64 1] w fun e w'=>e=.returned (.int .u64 ((x+1:Nat):Int))∧w'=w.setCell ⟨b,off,none⟩ (.int .u64 ((x+1:Nat):Int)):=by
 have hw:=u64_wrap (x+1) (by omega);have hadd:=run_call_add (P:=Tryz.prog) Tryz.func169 (by kernel_rfl) (by kernel_rfl) (by kernel_rfl) .u64 (by kernel_rfl) (y:=1) (s:=((x+1:Nat):Int)) hc hz (by simp [go_sem];first | exact hw | (push_cast at hw ⊢;exact hw) | (simp at hw;exact hw));clear hw;go_enter Tryz.func110,Tryz.ntmps110
 go_wp2
 go_ret
 exact ⟨rfl,rfl⟩
theorem odisable (w:World):(callFunc 294 #[]).run Tryz.prog w=.ok (.value (.tuple #[])) w:=run_call_mark0 Tryz.func294 (by kernel_rfl) (by kernel_rfl) (by kernel_rfl) .disable (by kernel_rfl) w
theorem oenable (w:World):(callFunc 296 #[]).run Tryz.prog w=.ok (.value (.tuple #[])) w:=run_call_mark0 Tryz.func296 (by kernel_rfl) (by kernel_rfl) (by kernel_rfl) .enable (by kernel_rfl) w
theorem oacquire (a:Addr) (w:World):(callFunc 297 #[.pointer (some a)]).run Tryz.prog w=.ok (.value (.tuple #[])) w:=run_call_marked Tryz.func297 (by kernel_rfl) (by kernel_rfl) (by kernel_rfl) .acquire (by kernel_rfl) a w
theorem orelease (a:Addr) (w:World):(callFunc 299 #[.pointer (some a)]).run Tryz.prog w=.ok (.value (.tuple #[])) w:=run_call_marked Tryz.func299 (by kernel_rfl) (by kernel_rfl) (by kernel_rfl) .releaseMerge (by kernel_rfl) a w
theorem bload_c (a:Addr) (x:Bool) (w:World) (hc:w.cell? a=some (.int .u32 (if x then 1 else 0))) :
 Calls Tryz.prog 213 #[.pointer (some a)] w fun e w'=>e=.returned (.bool x)∧w'=w:=by
 have hl:=run_call_load (P:=Tryz.prog) Tryz.func250 (by kernel_rfl) (by kernel_rfl) (by kernel_rfl) .u32 (by kernel_rfl) hc;cases x
 ·go_enter Tryz.func213,Tryz.ntmps213
  go_wp2
  go_ret
  exact ⟨rfl,rfl⟩
 ·go_enter Tryz.func213,Tryz.ntmps213
  go_wp2
  go_ret
  exact ⟨rfl,rfl⟩
theorem bstore_d (a:Addr) (x:Value) (u:FrameMode) (w:World) (hc:w.cell? a=some x) (hz:w.frozen? a=false) :
 CallsD Tryz.prog 253 #[.pointer (some a),.bool true] u w fun e u' w'=>u'=u∧(e=.returned (.tuple #[])∧w'=w.drew.setCell a (.int .u32 1)):=by
 have hc':w.drew.cell? a=some x:=by go_simp
 have hz':w.drew.frozen? a=false:=by go_simp
 have hst:=run_call_store (P:=Tryz.prog) Tryz.func280 (by kernel_rfl) (by kernel_rfl) (by kernel_rfl) (by kernel_rfl) (k:=.u32) (y:=1) hc' hz';go_enter_d Tryz.func253,Tryz.ntmps253
 go_wp2
 go_region_calls
 all_goals (go_end0;exact ⟨rfl,rfl⟩)
theorem ounlock_d (a:Addr) (u:FrameMode) (w:World) (hc:w.cell? a=some (.int .i32 1)) (hz:w.frozen? a=false) :
 CallsD Tryz.prog 252 #[.pointer (some a)] u w fun e u' w'=>u'=u∧(e=.returned (.tuple #[])∧w'=w.setCell a (.int .i32 0)):=by
 have hd:=odisable;have he:=oenable;have hr:=orelease;have hadd:=run_call_add (P:=Tryz.prog) Tryz.func300 (by kernel_rfl) (by kernel_rfl) (by kernel_rfl) .i32 (by kernel_rfl) (y:=-1) (s:=0) hc hz (by simp [go_sem];rfl)
 have hcv:=run_convert_to_unsafe (P:=Tryz.prog) (src:=385) (dst:=296) Tryz.underlying385 Tryz.underlying296 (by kernel_rfl) hc;go_enter_d Tryz.func252,Tryz.ntmps252
 go_wp2
 go_end0
 go_wp2
 go_end0
 exact ⟨rfl,rfl⟩
theorem olock_c (a:Addr) (w:World) (hc:w.cell? a=some (.int .i32 0)) (hz:w.frozen? a=false) :
 Calls Tryz.prog 251 #[.pointer (some a)] w fun e w'=>e=.returned (.tuple #[])∧w'=w.setCell a (.int .i32 1):=by
 have hd:=odisable;have he:=oenable;have ha:=oacquire;have hcas:=run_call_cas_hit (P:=Tryz.prog) Tryz.func295 (by kernel_rfl) (by kernel_rfl) (by kernel_rfl) .i32 (by kernel_rfl) (y:=1) hc hz;have hc':(w.setCell a (.int .i32 1)).cell? a=some (.int .i32 1):=World.cell?_setCell_same w a _ hc;have hcv:=run_convert_to_unsafe (P:=Tryz.prog) (src:=385) (dst:=296) Tryz.underlying385 Tryz.underlying296 (by kernel_rfl) hc';go_enter Tryz.func251,Tryz.ntmps251
 go_wp2
 first | go_end0 | (simp only [Exit.inBlock,Exit.then];refine bodyPost_ret (results_none rfl _ _ _) rfl ?_) | refine bodyPost_ret (results_none rfl _ _ _) rfl ?_
 go_wp2
 go_end0
 exact ⟨rfl,rfl⟩
end
section
open Go Go.RowKit
def slotRow (d m:Int) (z:List UInt8):Array Value:=([Value.int .u32 d,.int .i32 m,.int .u32 0]++bytesV z).toArray
theorem slotRow_size (d m:Int) {z:List UInt8} (h:z.length=32):(slotRow d m z).size=35:=by simp [slotRow,bytesV,h]
theorem slotRow_key {d m:Int} {z K:List UInt8} (hz:z.length=32) (hK:K.length=32):(slotRow d m z).toList.take 3++(arrB K).toList++(slotRow d m z).toList.drop (3+(arrB K).size)=(slotRow d m K).toList:=by
 rw [arrB_size,hK];have h1:(slotRow d m z).toList.drop (3+32)=[]:=List.drop_of_length_le (by rw [Array.length_toList,slotRow_size d m hz];decide)
 rw [h1,List.append_nil];rfl
theorem slotRow_keyV (d m:Int) (z:List UInt8):∀j v,(bytesV z)[j]? = some v→(slotRow d m z)[3+j]? = some v:=by
 intro j v h;unfold slotRow;rw [List.getElem?_toArray,List.getElem?_append_right (by simp)];rw [show 3+j - [Value.int .u32 d,.int .i32 m,.int .u32 0].length=j by simp];exact h
theorem key1_c {w:World} {a b c r sb i:Nat} {ta tb tc:TypeId} {master:ByteArray} {v1 v2 v3 v4:Value} {z:List UInt8} {d m:Int} (ha:Blk w a ta #[.pointer (some ⟨r,0,none⟩)]) (hb:Blk w b tb #[.int .i64 (i:Int)]) (hc:Blk w c tc #[.pointer (some ⟨sb,0,none⟩)])
 (hr:Blk w r 186 #[.string master,v1,v2,v3,v4]) (hs:Blk w sb 269 (slotRow d m z)) (hz:z.length=32) (hi:i≤1048576) (hm:master.size≤64) :
 Calls Tryz.prog 166 #[.pointer (some ⟨a,0,none⟩),.pointer (some ⟨b,0,none⟩),.pointer (some ⟨c,0,none⟩)] w fun e w'=>e=.returned (.tuple #[])∧Blk w' sb 269 (slotRow d m (ringK master.data.toList i))∧Upd (· = sb) w w':=by
 obtain ⟨K,hK⟩:=eqx (ringK master.data.toList i);have hKl:K.length=32:=by rw [← hK];exact tagL_len _ _
 have hkc:=fun W=>rkey_c master i hi hm W
 rw [hK] at hkc ⊢;have HKC:=Lib.hid hkc;have HX:=h2k hKl (slotRow_key (d:=d) (m:=m) hz hKl);have HB:=h5k ha hb hc hr hs;have HZ:=Lib.hid (slotRow_size d m hz);clear hK hKl hkc ha hb hc hr hs hz hi hm;go_enter Tryz.func166,Tryz.ntmps166
 refine wp_region_noPanic ?_;refine wp_region_T (S:=fun w'=>Upd (fun _=>False) w w') (T:=fun k=>k == 9) (by kernel_rfl) ?_;have hS0:=(Upd.refl (fun _=>False) w).drew;refine tk8 0 ?_ rfl (by intro w' hSw;have ca:=(HB.out.1.upd hSw (fun e=>e)).cells1;have cb:=(HB.out.2.1.upd hSw (fun e=>e)).cells1;have cc:=(HB.out.2.2.1.upd hSw (fun e=>e)).cells1;have cr:w'.cell? ⟨r,0,none⟩=some (.string master):=(HB.out.2.2.2.1.upd hSw (fun e=>e)).cell 0;go_split_ands;first | (go_simp;done) | (go_simp;rfl) | rfl)
 simp only [tkS];refine tk8 1 ?_ rfl (by intro w' hSw;have ca:=(HB.out.1.upd hSw (fun e=>e)).cells1;have cb:=(HB.out.2.1.upd hSw (fun e=>e)).cells1;have cc:=(HB.out.2.2.1.upd hSw (fun e=>e)).cells1;have cr:w'.cell? ⟨r,0,none⟩=some (.string master):=(HB.out.2.2.2.1.upd hSw (fun e=>e)).cell 0;go_split_ands;first | (go_simp;done) | (go_simp;rfl) | rfl)
 simp only [tkS];refine tk8 2 ?_ rfl (by intro w' hSw;have ca:=(HB.out.1.upd hSw (fun e=>e)).cells1;have cb:=(HB.out.2.1.upd hSw (fun e=>e)).cells1;have cc:=(HB.out.2.2.1.upd hSw (fun e=>e)).cells1;have cr:w'.cell? ⟨r,0,none⟩=some (.string master):=(HB.out.2.2.2.1.upd hSw (fun e=>e)).cell 0;go_split_ands;first | (go_simp;done) | (go_simp;rfl) | rfl)
 simp only [tkS];refine tk8 3 ?_ rfl (by intro w' hSw;have ca:=(HB.out.1.upd hSw (fun e=>e)).cells1;have cb:=(HB.out.2.1.upd hSw (fun e=>e)).cells1;have cc:=(HB.out.2.2.1.upd hSw (fun e=>e)).cells1;have cr:w'.cell? ⟨r,0,none⟩=some (.string master):=(HB.out.2.2.2.1.upd hSw (fun e=>e)).cell 0;go_split_ands;first | (go_simp;done) | (go_simp;rfl) | rfl)
 simp only [tkS];refine tk8 4 ?_ rfl (by intro w' hSw;have ca:=(HB.out.1.upd hSw (fun e=>e)).cells1;have cb:=(HB.out.2.1.upd hSw (fun e=>e)).cells1;have cc:=(HB.out.2.2.1.upd hSw (fun e=>e)).cells1;have cr:w'.cell? ⟨r,0,none⟩=some (.string master):=(HB.out.2.2.2.1.upd hSw (fun e=>e)).cell 0;go_split_ands;first | (go_simp;done) | (go_simp;rfl) | rfl)
 simp only [tkS];refine tk8 5 ?_ rfl (by intro w' hSw;have ca:=(HB.out.1.upd hSw (fun e=>e)).cells1;have cb:=(HB.out.2.1.upd hSw (fun e=>e)).cells1;have cc:=(HB.out.2.2.1.upd hSw (fun e=>e)).cells1;have cr:w'.cell? ⟨r,0,none⟩=some (.string master):=(HB.out.2.2.2.1.upd hSw (fun e=>e)).cell 0;go_split_ands;first | (go_simp;done) | (go_simp;rfl) | rfl)
 simp only [tkS];refine wpAnyT_one (i:=6) (by kernel_rfl) rfl (fun KK hK=>?_);go_simp
 refine (HKC.out _).mono ?_;rintro e w4 ⟨rfl,hU4⟩;have hS4:=hS0.then hU4 (fun _ e=>e.elim);refine hK.out _ _ hS4 ?_;clear hK hU4;refine tk8 7 ?_;simp only [tkS];refine tk8 8 ?_;simp only [tkS];refine wpAnyT_oneT (i:=9) (by kernel_rfl) rfl (by kernel_rfl) (fun KK hK=>?_);refine step_store_part (by rfl) 194 _ _ (by rfl) sb 3 (arrB K) (by rfl) (by rfl) _ _ (slotRow d m K) (HB.out.2.2.2.2.upd hS4 (fun e=>e)) (by rw [arrB_size,HX.out.1,HZ.out];decide) HX.out.2 (arrB_one _) (by rw [arrB_size,HX.out.1];kernel_rfl) ?_
 intro w5 hB5 hU5 hz5;refine hK.out _ _ ?_;refine wpAnyT_done (by kernel_rfl) ?_ _;refine NoPanic.normal ?_;have HF:=h2k hB5 ((hS4.mono (G:=(· = sb)) (fun _ e=>e.elim)).then hU5 (fun _ e=>.inl e));clear hB5 hU5 hz5 hK hS0 hS4;go_wp2_with fail
 go_end0
 exact ⟨rfl,HF.out⟩
theorem slotRow_m (d m m2:Int) (z:List UInt8):(slotRow d m z).setIfInBounds 1 (.int .i32 m2)=slotRow d m2 z:=by unfold slotRow;rw [List.setIfInBounds_toArray];rfl
theorem slotRow_d (d d2 m:Int) (z:List UInt8):(slotRow d m z).setIfInBounds 0 (.int .u32 d2)=slotRow d2 m z:=by unfold slotRow;rw [List.setIfInBounds_toArray];rfl
theorem slow_c {w:World} {a b c r sb i:Nat} {ta tb tc:TypeId} {master:ByteArray} {v1 v2 v3 v4:Value} {z:List UInt8} (ha:Blk w a ta #[.pointer (some ⟨r,0,none⟩)]) (hb:Blk w b tb #[.int .i64 (i:Int)]) (hc:Blk w c tc #[.pointer (some ⟨sb,0,none⟩)])
 (hr:Blk w r 186 #[.string master,v1,v2,v3,v4]) (hs:Blk w sb 269 (slotRow 0 0 z)) (hz:z.length=32) (hi:i≤1048576) (hm:master.size≤64) (na:a≠sb) (nb:b≠sb) (nc:c≠sb) (nr:r≠sb) :
 Calls Tryz.prog 214 #[.pointer (some ⟨sb,0,none⟩),.func (.func 166) #[] #[.pointer (some ⟨a,0,none⟩),.pointer (some ⟨b,0,none⟩),.pointer (some ⟨c,0,none⟩)]] w fun e w'=>e=.returned (.tuple #[])∧Blk w' sb 269 (slotRow 1 0 (ringK master.data.toList i))∧Upd (· = sb) w w':=by
 obtain ⟨w1,hw1⟩:=eqx (w.setCell ⟨sb,1,none⟩ (.int .i32 1));have hs1:Blk w1 sb 269 (slotRow 0 1 z):=by rw [← hw1,← slotRow_m 0 0 1 z];exact hs.set_ 1 _
 have hu1:Upd (· = sb) w w1:=by rw [← hw1];exact (Upd.refl (· = sb) w).setCell (p:=⟨sb,1,none⟩) (.inl rfl) _
 have hlk:=olock_c ⟨sb,1,none⟩ w (hs.cell 1) (hs.frozen 1);rw [hw1] at hlk;have hbl:=bload_c ⟨sb,0,none⟩ false w1 (hs1.cell 0);have hk1:=key1_c (ha.upd hu1 na) (hb.upd hu1 nb) (hc.upd hu1 nc) (hr.upd hu1 nr) hs1 hz hi hm;have HLK:=Lib.hid hlk;have HBL:=Lib.hid hbl;have HK1:=Lib.hid hk1;have HU1:=Lib.hid hu1;have hnot:∀(x:Bool) (w:World),(Op.unary .not (.bool x)).run Tryz.prog w=.ok (.bool (!x)) w:=fun _ _=>rfl
 clear hw1 hs1 hu1 hlk hbl hk1 ha hb hc hr hs hz hi hm na nb nc nr;go_enter_defers Tryz.func214,Tryz.ntmps214
 go_wp2_with (first
  | (go_at_call 251
     refine HLK.out.mono ?_;rintro e w' ⟨rfl,rfl⟩)
  | (go_at_call 213
     refine HBL.out.mono ?_;rintro e w' ⟨rfl,rfl⟩)
  | (go_at_call 166
     refine HK1.out.mono ?_;rintro e w2 ⟨rfl,hB2,hU2⟩;have H2:=h2k hB2 (HU1.out.then hU2 (fun _ e=>.inl e));clear hB2 hU2))
 have hc0:=H2.out.1.cell 0;have hf0:=H2.out.1.frozen 0;obtain ⟨w3,hw3⟩:=eqx (w2.drew.setCell ⟨sb,0,none⟩ (.int .u32 1));have hs3:Blk w3 sb 269 (slotRow 1 1 (ringK master.data.toList i)):=by rw [← hw3,← slotRow_d 0 1 1];exact H2.out.1.drew.set_ 0 _
 have hu3:Upd (· = sb) w w3:=by rw [← hw3];exact H2.out.2.drew.setCell (p:=⟨sb,0,none⟩) (.inl rfl) _
 obtain ⟨w4,hw4⟩:=eqx (w3.setCell ⟨sb,1,none⟩ (.int .i32 0));have hs4:Blk w4 sb 269 (slotRow 1 0 (ringK master.data.toList i)):=by rw [← hw4,← slotRow_m 1 1 0];exact hs3.set_ 1 _
 have hu4:Upd (· = sb) w w4:=by rw [← hw4];exact hu3.setCell (p:=⟨sb,1,none⟩) (.inl rfl) _
 refine leaves_cons (f:=253) (args:=#[.pointer (some ⟨sb,0,none⟩),.bool true]) (by simp) (by simp [go_sem]) ?_;refine (bstore_d ⟨sb,0,none⟩ _ .returning _ hc0 hf0).mono ?_;rintro e u' w'' ⟨rfl,rfl,rfl⟩;rw [hw3];refine leaves_cons (f:=252) (args:=#[.pointer (some ⟨sb,1,none⟩)]) (by simp [settle]) (by simp [go_sem]) ?_;refine (ounlock_d ⟨sb,1,none⟩ _ _ (hs3.cell 1) (hs3.frozen 1)).mono ?_;rintro e u' w'' ⟨rfl,rfl,rfl⟩;rw [hw4];simp [Leaves,settle,results,Tryz.results214]
 exact ⟨hs4,hu4⟩
theorem once_first {w:World} {a b c r sb i:Nat} {ta tb tc:TypeId} {master:ByteArray} {v1 v2 v3 v4:Value} {z:List UInt8} (ha:Blk w a ta #[.pointer (some ⟨r,0,none⟩)]) (hb:Blk w b tb #[.int .i64 (i:Int)]) (hc:Blk w c tc #[.pointer (some ⟨sb,0,none⟩)])
 (hr:Blk w r 186 #[.string master,v1,v2,v3,v4]) (hs:Blk w sb 269 (slotRow 0 0 z)) (hz:z.length=32) (hi:i≤1048576) (hm:master.size≤64) (na:a≠sb) (nb:b≠sb) (nc:c≠sb) (nr:r≠sb) :
 Calls Tryz.prog 165 #[.pointer (some ⟨sb,0,none⟩),.func (.func 166) #[] #[.pointer (some ⟨a,0,none⟩),.pointer (some ⟨b,0,none⟩),.pointer (some ⟨c,0,none⟩)]] w fun e w'=>e=.returned (.tuple #[])∧Blk w' sb 269 (slotRow 1 0 (ringK master.data.toList i))∧Upd (· = sb) w w':=by
 have HSL:=Lib.hid (slow_c ha hb hc hr hs hz hi hm na nb nc nr);have HBL:=Lib.hid (bload_c ⟨sb,0,none⟩ false w (hs.cell 0));have hnot:∀(x:Bool) (w:World),(Op.unary .not (.bool x)).run Tryz.prog w=.ok (.bool (!x)) w:=fun _ _=>rfl
 clear ha hb hc hr hs hz hi hm na nb nc nr;go_enter Tryz.func165,Tryz.ntmps165
 go_wp2_with (first
  | (go_at_call 214
     refine HSL.out.mono ?_;rintro e w2 ⟨rfl,hB2,hU2⟩;have H2:=h2k hB2 hU2;clear hB2 hU2)
  | (go_at_call 213
     refine HBL.out.mono ?_;rintro e w' ⟨rfl,rfl⟩))
 go_end0
 exact ⟨rfl,H2.out⟩
theorem once_done {w:World} {sb:Nat} {z:List UInt8} {fv:Value} (hs:Blk w sb 269 (slotRow 1 0 z)) :
 Calls Tryz.prog 165 #[.pointer (some ⟨sb,0,none⟩),fv] w fun e w'=>e=.returned (.tuple #[])∧w'=w:=by
 have HBL:=Lib.hid (bload_c ⟨sb,0,none⟩ true w (hs.cell 0));have hnot:∀(x:Bool) (w:World),(Op.unary .not (.bool x)).run Tryz.prog w=.ok (.bool (!x)) w:=fun _ _=>rfl
 clear hs;go_enter Tryz.func165,Tryz.ntmps165
 go_wp2_with (first
  | (go_at_call 213
     refine HBL.out.mono ?_;rintro e w' ⟨rfl,rfl⟩))
 go_end0
 exact ⟨rfl,rfl⟩
end
end Go.Proofs.YtbhjgfibhegddaaGreat
