/-
  Parts of the proof of VaultPlays: PathB, IterS, OmapA, OmapB, OmapC, OmapD, Ring, Once, RingB.
-/
import Derived.Test.YtbhjgfibhegddaaGreatQVaultPlays13
import Derived.Defers
import Derived.Ground.GgzProg
import Derived.Ground.SlmcProg
import Derived.Laws.LoneSync
import Derived.Laws.Pointers
import Derived.Lib.SlBytesConst
import Derived.RegionCalls
import Derived.RegionTactic
import Derived.Shelf.SlIter.Nil
import Derived.Shelf.SlMaps.Clone
import Derived.StillTailTactics
import Derived.StringKeys
import Derived.Test.YtbhjgfibhegddaaGreatProg
set_option maxRecDepth 100000
set_option maxHeartbeats 16000000
namespace Go.Proofs.YtbhjgfibhegddaaGreat
abbrev aa6:=@List.any_append
abbrev aa7:=@List.any_eq_true
abbrev aa5:=@List.pairwise_map
open Tryz
section
open Go Go.RowKit
def ct (m:gW):List Value:=[.string (str m.name),.bool m.wE]
def wm (w:World) (b off:Nat) (l:List gW):Prop:=∀i (h:i<l.length),w.rangeAt b (off+i*2) (ct l[i])
theorem wm.take {w:World} {b off:Nat} {l:List gW} (h:wm w b off l) (k:Nat):wm w b off (l.take k):=fun i hi=>by
 rw[fF] at hi;rw[aa1];exact h i oM
theorem ag2 (P N:ByteArray) (S:Bool) (mb:Nat) (w:World) (hc:w.cell? ⟨mb,0,none⟩=some (.string N)) :
 ς 141 #[.agg #[.string P,.bool S],.pointer (some ⟨mb,0,none⟩)] w fun e w'=>e=ώ (.bool (P.toList == N.toList))∧υ w w':=by
 have hmb:w.heap.size≠mb:=by
  have:=NG _ _ hc;simp at this
  omega
 go_enter func141,ntmps141
 go_upto_region 1 with fail
 generalize aH:World.alloc _ _=w2;obtain⟨q,hq⟩:=κ w.heap.size;rw[hq];have hU:υ w w2:=by rw[← aH];exact(ζ.refl _ w).alloc _
 have c0:w2.cell? ⟨q,0,none⟩=some (.string P):=by rw[← aH,← hq];exact(η.new w _ _).cell 0
 have c1:w2.cell? ⟨mb,0,none⟩=some (.string N):=by
  rw[Fy (w:=w) (a:=⟨mb,0,none⟩) (hU.block mb (NG _ _ hc) (fun e=>e))];exact hc
 have HU:=δ hU;clear aH hU hc hq hmb;go_wp2_with fail
 go_ret
 exact⟨rfl,HU.out⟩
theorem Wm (a b:List UInt8):((str a).toList == (str b).toList)=decide (a=b):=by
 rw[y7,y7,bS,bS];by_cases h:a=b<;>simp[h]
theorem ahZ {A:Option Addr} {cap b off mb:Nat} {l:List gW} {w:World} {nm:List UInt8} (hA:0<l.length→A=some ⟨b,off,none⟩) (hb:∀w',υ w w'→wm w' b off l) (hl:l.length≤1000000)
 (hc:∀w',υ w w'→w'.cell? ⟨mb,0,none⟩=some (.string (str nm))) :
 ς 194 #[.slice A l.length cap,.func (.func 141) #[] #[.pointer (some ⟨mb,0,none⟩)]] w fun e w'=>∃z:Int,e=ώ (ι z)∧(decide (0≤z)=l.any fun o=>decide (o.name=nm))∧υ w w':=by
 have HB:=δ hb;have HC:=δ hc;clear hb hc;go_enter func194,ntmps194
 go_wp2_with fail
 go_loopw [5,8] (fun _ i wr=>∃k:Nat,k≤l.length∧i=ι (k:Int)∧υ w wr∧(l.take k).any (fun o=>decide (o.name=nm))=false) (fun _ i _=>l.length - (intOf i).toNat)
 case atStart=>exact⟨0,oM,rfl,ζ.refl _ _,rfl⟩
 case round =>
  obtain⟨k,hk,rfl,hU,hE⟩:=hrel;by_cases hlt:k<l.length
  ·obtain rfl:=hA oM
   have hrow:=HB.out wr hU k hlt;have dn:(l.take (k+1)).any (fun o=>decide (o.name=nm))=decide (l[k].name=nm):=by
    rw[gX hlt,aa6,hE];simp
   have hfull:decide (l[k].name=nm)=true→l.any (fun o=>decide (o.name=nm))=true:=fun h=>aa7.2 ⟨l[k],eM hlt,h⟩
   obtain⟨o,ho⟩:=κ (l[k]);rw[ho] at hrow dn hfull;rw[← Wm] at dn hfull;obtain⟨P,hP⟩:=κ (str o.name);obtain⟨N,hN⟩:∃P,str nm=P:=⟨_,rfl⟩;have hcell:=HC.out wr hU;rw[hN] at hcell dn hfull;rw[hP] at dn hfull;have hrw:ct o=[.string P,.bool o.wE]:=by unfold ct;rw[hP]
   rw[hrw] at hrow;have cu:=ag2 P N o.wE mb wr hcell;obtain⟨B,hBB⟩:=κ (P.toList == N.toList);rw[hBB] at cu dn hfull;have HR:=δ hrow;have mu:=δ cu;have HU:=δ hU;have HT:=τ dn hfull;have j1:(k:Int)<(l.length:Int):=oM;clear hrow dn hfull hcell hrw cu hU hE hP hN ho hBB;go_wp2_with (first
    |(refine uc rfl _ _ rfl b (off+k*2) rfl [.string P,.bool o.wE] _ HR.out underlying46 rfl kR ?_))
   refine mu.out.mono ?_;rintro e w1 ⟨rfl,ax⟩;have nP:=δ (HU.out.then ax φ);clear ax;cases B
   ·go_wp2_with fail
    go_roundw
    case rel=>exact⟨k+1,oM,by go_num,nP.out,HT.out.1⟩
    case measure=>simp[intOf]<;>omega
   ·go_wp2_with fail
    go_ret
    exact⟨_,rfl,by rw[HT.out.2 trivial];simp,nP.out⟩
  ·obtain rfl:k=l.length:=oM
   rw[rO] at hE;have HU:=τ hU hE;clear hU hE;go_wp2_with fail
   go_ret
   exact⟨-1,rfl,by rw[HU.out.2];rfl,HU.out.1⟩
theorem ah0 {A:Option Addr} {cap b off mb:Nat} {l:List gW} {w:World} {nm:List UInt8} (hA:0<l.length→A=some ⟨b,off,none⟩) (hb:∀w',υ w w'→wm w' b off l) (hl:l.length≤1000000)
 (hc:∀w',υ w w'→w'.cell? ⟨mb,0,none⟩=some (.string (str nm))) :
 ς 143 #[.slice A l.length cap,.func (.func 141) #[] #[.pointer (some ⟨mb,0,none⟩)]] w fun e w'=>e=ώ (.bool (l.any fun o=>decide (o.name=nm)))∧υ w w':=by
 have H:=δ (ahZ (cap:=cap) hA hb hl hc);clear hb hc hA;obtain⟨n,hn⟩:=κ l.length;obtain⟨B,hB⟩:=κ (l.any fun o=>decide (o.name=nm));rw[hB,hn] at H;rw[hB,hn];clear hB hn hl;go_enter func143,ntmps143
 go_wp2_with fail
 refine H.out.mono ?_;rintro e w1 ⟨z,rfl,hz,hU⟩;have HU:=τ hU hz;clear hU hz;go_wp2_with fail
 go_ret
 exact⟨by rw[← HU.out.2];rfl,HU.out.1⟩
theorem VG (a l:List gW) (m:gW):mL a (l++[m])=(mL a l && (nx m.name && !((a++l).any fun o=>decide (o.name=m.name)))):=by
 induction l generalizing a with
 | nil=>simp[mL]
 | cons x r ih =>
   rw[oF];unfold mL;rw[ih];simp[Bool.and_assoc,List.append_assoc]
theorem VH {l:List gW} {k:Nat} (hk:k<l.length) (h:mL [] (l.take k)=true):mL [] (l.take (k+1))=(nx l[k].name && !((l.take k).any fun o=>decide (o.name=l[k].name))):=by
 rw[gX hk,VG,h];simp
theorem Vh {l:List gW} {k:Nat} (h:mL [] (l.take k)=false):mL [] l=false:=by
 have gen:∀(r a:List gW),mL [] a=false→mL [] (a++r)=false:=by
  intro r;induction r with
  | nil=>intro a h;simpa using h
  | cons x r ih =>
    intro a h;have:a++x::r=(a++[x])++r:=by simp
    rw[this];refine ih _ ?_;rw[VG,h];rfl
 have:=gen (l.drop k) _ h;rwa [AW] at this
theorem afQ {A:Option Addr} {cap b off:Nat} {l:List gW} {w:World} (hA:0<l.length→A=some ⟨b,off,none⟩) (hb:∀w',υ w w'→wm w' b off l) (hl:l.length≤1000000) (hcap:l.length≤cap) (hs:∀m ∈ l,m.name.length≤1000000) :
 ς 84 #[.slice A l.length cap] w fun e w'=>e=ώ (.bool (pS l))∧υ w w':=by
 obtain⟨B,hB⟩:=κ (pS l);rw[hB];have HB:=δ hb;have HS:=τ hs hB;clear hb hs hB;go_enter func84,ntmps84
 go_wp2_with fail
 go_loopw [3,4,5,8] (fun _ _ _ i wr=>∃k:Nat,k≤l.length∧i=ι (k:Int)∧υ w wr∧mL [] (l.take k)=true) (fun _ _ _ i _=>l.length - (intOf i).toNat)
 case atStart=>exact⟨0,oM,rfl,ζ.refl _ _,rfl⟩
 case round =>
  obtain⟨k,hk,rfl,hU,hE⟩:=hrel;by_cases hlt:k<l.length
  ·obtain rfl:=hA oM
   have hrow:=HB.out wr hU k hlt;have bY:=VH hlt hE;have jl:mL [] (l.take (k+1))=false→B=false:=fun h=>by
    rw[← HS.out.2];unfold pS;rw[Vh h];rfl
   have hsz:=HS.out.1 _ (eM hlt);obtain⟨o,ho⟩:=κ (l[k]);rw[ho] at hrow bY hsz;obtain⟨P,hP⟩:=κ (str o.name);have hrw:ct o=[.string P,.bool o.wE]:=by unfold ct;rw[hP]
   rw[hrw] at hrow;have hnm:=fun W=>WH P (by rw[← hP,bf];exact hsz) W
   rw[show P.data.toList=o.name by rw[← hP,bS]] at hnm;obtain⟨N,hN⟩:=κ (nx o.name);rw[hN] at hnm bY;have HR:=δ hrow;have Aq:=δ hnm;have HU:=δ hU;have HX:=aD bY jl hP hE;have j1:(k:Int)<(l.length:Int):=oM;clear hrow bY jl hsz hrw hnm hU hE hP hN ho;obtain⟨q,hq⟩:=κ wr.heap.size;have HQ:=δ hq;go_upto_region 4 with (first
    |(refine uc rfl _ _ rfl b (off+k*2) rfl [.string P,.bool o.wE] _ HR.out underlying46 rfl kR ?_))
   generalize cF:World.alloc _ _=w5;have aF:η w5 q 46 #[.string P,.bool o.wE]:=by rw[← cF,← HQ.out];exact η.new wr _ _
   have av:υ w w5:=by rw[← cF];exact HU.out.alloc _
   have c0:=aF.cell 0;have de:=τ av aF;clear av aF cF hq;have QS:∀W,υ w5 W→ς 143 #[.slice (some ⟨b,off,none⟩) k cap,.func (.func 141) #[] #[.pointer (some ⟨q,0,none⟩)]] W fun e w'=>e=ώ (.bool ((l.take k).any fun x=>decide (x.name=o.name)))∧υ W w':=fun W hW=>by
    have:=ah0 (A:=some ⟨b,off,none⟩) (cap:=cap) (b:=b) (off:=off) (mb:=q) (l:=l.take k) (w:=W) (nm:=o.name) (fun _=>rfl) (fun w' h=>(HB.out w' ((de.out.1.then hW φ).then h φ)).take k) (by rw[fF];omega)
     (fun w' h=>((de.out.2.ε hW (fun e=>e)).ε h (fun e=>e)).cell 0 |>.trans (by rw[HX.out.2.2.1];rfl))
    rw[fF,vM hk] at this;exact this
   obtain⟨T,hT⟩:=κ ((l.take k).any fun x=>decide (x.name=o.name));rw[hT] at QS;have bY:=HX.out.1;rw[hT] at bY;have me:=δ bY;have ajp:=δ QS;have q1:(0:Int)≤(k:Int):=oM;have q2:(k:Int)≤(cap:Int):=oM;clear QS bY hT;go_wp2_with fail
   refine(Aq.out _).mono ?_;rintro e w6 ⟨rfl,rfl⟩;cases N
   ·obtain rfl:=HX.out.2.1 (by rw[me.out];rfl)
    go_wp2_with fail
    go_ret
    exact⟨rfl,de.out.1⟩
   ·go_wp2_with fail
    refine(ajp.out _ (ζ.refl _ _)).mono ?_;rintro e w7 ⟨rfl,bK⟩;have vh:=δ (de.out.1.then bK φ);clear bK c0;cases T
    ·go_wp2_with fail
     go_roundw
     case rel=>exact⟨k+1,oM,by go_num,vh.out,by rw[me.out];rfl⟩
     case measure=>simp[intOf]<;>omega
    ·obtain rfl:=HX.out.2.1 (by rw[me.out];rfl)
     go_wp2_with fail
     go_ret
     exact⟨rfl,vh.out⟩
  ·obtain rfl:k=l.length:=oM
   rw[rO] at hE;have aB:B=decide (1≤l.length∧l.length≤4):=by rw[← HS.out.2];unfold pS;rw[hE];rfl
   have HU:=τ hU aB;clear hU hE aB hk hlt;by_cases h1:(1:Int)≤(l.length:Int)
   ·by_cases h2:(l.length:Int)≤4
    ·obtain rfl:B=true:=by rw[HU.out.2];simp;omega
     go_wp2_with fail
     go_ret
     exact⟨rfl,HU.out.1⟩
    ·obtain rfl:B=false:=by rw[HU.out.2];simp;omega
     go_wp2_with fail
     go_ret
     exact⟨rfl,HU.out.1⟩
   ·obtain rfl:B=false:=by rw[HU.out.2];simp;omega
    go_wp2_with fail
    go_ret
    exact⟨rfl,HU.out.1⟩
end
end Go.Proofs.YtbhjgfibhegddaaGreat
namespace Go.Proofs
open Go.Shelf
def Tryz.keysB_ren:Go.Shelf.Ren:=⟨fun | 7=>137 | 10=>193 | n=>n,fun | 23=>130 | 26=>9 | 3=>9 | 28=>232 | 0=>0 | 27=>231 | 33=>237 | 4=>4 | n=>n,fun | n=>n⟩
theorem Tryz.keysB:Go.Proofs.SlLaysZ.n7 Tryz.prog Tryz.keysB_ren := {
 mixed:=by kernel_rfl
 f7:=⟨Tryz.f137.name,by decide,Tryz.func137.trans (congrArg some (by kernel_rfl))⟩
 f10:=⟨Tryz.f193.name,by decide,Tryz.func193.trans (congrArg some (by kernel_rfl))⟩
 t0:=Tryz.underlying0
 a0:=Tryz.isAgg0
 z0:=Tryz.sizeOf0
 v0:=Tryz.zeroValue0
 t4:=Tryz.underlying4
 a4:=Tryz.isAgg4
 z4:=Tryz.sizeOf4
 v4:=Tryz.zeroValue4
 t23:=Tryz.underlying130
 a23:=Tryz.isAgg130
 z23:=Tryz.sizeOf130
 v23:=Tryz.zeroValue130
 t26:=Tryz.underlying9
 a26:=Tryz.isAgg9
 z26:=Tryz.sizeOf9
 v26:=Tryz.zeroValue9
 t27:=Tryz.underlying231
 a27:=Tryz.isAgg231
 z27:=Tryz.sizeOf231
 v27:=Tryz.zeroValue231
 t28:=Tryz.underlying232
 a28:=Tryz.isAgg232
 z28:=Tryz.sizeOf232
 v28:=Tryz.zeroValue232
 t33:=Tryz.underlying237
 a33:=Tryz.isAgg237
 z33:=Tryz.sizeOf237
 v33:=Tryz.zeroValue237 }
def Tryz.sortedB_ren:Go.Shelf.Ren:=⟨fun | 6=>136 | 8=>191 | 9=>192 | 11=>226 | 13=>197 | 12=>227 | 23=>237 | 24=>204 | 14=>254 | 15=>255 | 16=>256 | 17=>257 | 18=>258 | 19=>259 | 20=>260 | 21=>261 | 22=>262 | 25=>282 | 26=>264 | 27=>265 | 28=>283 | 29=>284 | 30=>285 | 31=>302 | n=>n,fun | 26=>9 | 28=>232 | 24=>147 | 0=>0 | 3=>3 | 37=>133 | 48=>113 | 50=>112 | 4=>4 | 40=>329 | 39=>328 | 45=>307 | 5=>5 | 9=>9 | 51=>352 | 55=>283 | 57=>373 | 58=>26 | 33=>237 | n=>n,fun | n=>n⟩
theorem Tryz.sortedB:Go.Proofs.SlLaysZ.n6 Tryz.prog Tryz.sortedB_ren := {
 mixed:=by kernel_rfl
 f6:=⟨Tryz.f136.name,by decide,Tryz.func136.trans (congrArg some (by kernel_rfl))⟩
 f8:=⟨Tryz.f191.name,by decide,Tryz.func191.trans (congrArg some (by kernel_rfl))⟩
 f11:=⟨Tryz.f226.name,by decide,Tryz.func226.trans (congrArg some (by kernel_rfl))⟩
 t0:=Tryz.underlying0
 a0:=Tryz.isAgg0
 z0:=Tryz.sizeOf0
 v0:=Tryz.zeroValue0
 t24:=Tryz.underlying147
 a24:=Tryz.isAgg147
 z24:=Tryz.sizeOf147
 v24:=Tryz.zeroValue147
 t26:=Tryz.underlying9
 a26:=Tryz.isAgg9
 z26:=Tryz.sizeOf9
 v26:=Tryz.zeroValue9
 t28:=Tryz.underlying232
 a28:=Tryz.isAgg232
 z28:=Tryz.sizeOf232
 v28:=Tryz.zeroValue232
 i26:=by kernel_rfl }
def Tryz.cloneB_ren:Go.Shelf.Ren:=⟨fun | 5=>82 | 7=>140 | n=>n,fun | 23=>130 | 25=>9 | 3=>9 | 4=>4 | 20=>20 | n=>n,fun | n=>n⟩
theorem Tryz.cloneB:Go.Proofs.SlLaysW.n5 Tryz.prog Tryz.cloneB_ren := {
 mixed:=by kernel_rfl
 f5:=⟨Tryz.f82.name,by decide,Tryz.func82.trans (congrArg some (by kernel_rfl))⟩
 f7:=Tryz.func140.trans (congrArg some (by kernel_rfl))
 t4:=Tryz.underlying4
 a4:=Tryz.isAgg4
 z4:=Tryz.sizeOf4
 v4:=Tryz.zeroValue4
 t20:=Tryz.underlying20
 a20:=Tryz.isAgg20
 z20:=Tryz.sizeOf20
 v20:=Tryz.zeroValue20
 t23:=Tryz.underlying130
 a23:=Tryz.isAgg130
 z23:=Tryz.sizeOf130
 v23:=Tryz.zeroValue130 }
end Go.Proofs
namespace Go.Proofs.YtbhjgfibhegddaaGreat
open Tryz
section
open Go Go.RowKit Go.Maps Go.Sort Go.Shelf Go.WideShapes
abbrev sX:ByteArray→Value:=fun s=>Value.string s
theorem ach {w:World} {bm:Nat} {m:List (ByteArray × Value)} (hM:cA sX w bm m) (hk:∀p ∈ m,p.1.size≤1000) (hs:m.length≤5000) :
 ∃D0:DataW Unit,w.ownsMap prog 9 vX bm m.length D0∧(strKeys D0).Perm (m.map fun p=>p.1.data.toList)∧Maps.size D0=m.length:=by
 obtain⟨es,clock,hb,hst,hm⟩:=hM;have hlen:es.toList.length=m.length:=by have:=aJ List.length hm;simpa using this
 have hrd:∀x ∈ es.toList,∃a:ByteArray,x.key=sX a∧Go.WideElems.rd prog 9 vX x=some (.string a.data.toList,.nil):=by
  intro x hx;obtain⟨j,hj⟩:=AU hx;obtain⟨p,hp,h1,h2⟩:=F_ hm j x hj;refine⟨p.1,h1,?_⟩;have Sp:keyOf prog 9 x.key=some (.string p.1.data.toList):=by rw[h1];exact Go.WideMaps.keyOf_string_mk underlying9 (by have:=hk p (sH hp);unfold maxLen;omega)
  unfold Go.WideElems.rd;rw[Sp];rfl
 refine⟨_,⟨es,clock,hb,⟨by unfold maxLen;simp at hlen;omega,hst,fun x hx=>?_⟩,by simp at hlen;omega,rfl⟩,?_,?_⟩
 ·obtain⟨a,-,h⟩:=hrd x hx
  exact⟨_,h⟩
 ·show List.Perm (((es.toList.map (Go.WideElems.rg prog 9 vX)).foldr DataW.insert []).map fun p=>strOf p.1) _
  refine((sorted_perm _).map _).trans ?_;rw[rL];have e1:es.toList.map ((fun p:Lit × DataW Unit=>strOf p.1) ∘ Go.WideElems.rg prog 9 vX)=es.toList.map ((fun v:Value=>match v with | .string a=>a.data.toList | _=>[]) ∘ fun e:MapEntry=>e.key):=by
   refine aa4 fun x hx=>?_
   obtain⟨a,h1,h2⟩:=hrd x hx;simp only[Function.comp,Go.WideElems.rg_of h2,h1,strOf]
  rw[e1,← rL,Bq hm,rL];have e2:m.map ((fun v:Value=>match v with | .string a=>a.data.toList | _=>[]) ∘ fun p:ByteArray × Value=>sX p.1)=m.map fun p=>p.1.data.toList:=rfl
  rw[e2]
 ·show ((es.toList.map (Go.WideElems.rg prog 9 vX)).foldr DataW.insert []).length=m.length
  rw[(sorted_perm _).length_eq,bp,hlen]
theorem ah1 (m:Nat):AnyZ.SortsIn prog sortedB_ren Fence.wide m :=
 ⟨fun blk off cap ss W hH hblk hsz=>Ds.2 (slices_Sort_string blk off cap ss W hH hblk hsz),
  fun p cap W=>Ds.2 (slices_Sort_string_none p cap W)⟩
theorem ah2 (mb:Option Nat) (W:World):ς 137 #[.map mb] W fun e w'=>e=ώ (.func (.func 193) #[] #[.pointer (some ⟨W.heap.size,0,none⟩)])∧w'=W.alloc (.cells #[.map mb] 130) :=
 (Ds (n:=5)).1 (AnyZ.keys_in keysB Fence.wide 5 trivial rfl mb W)
theorem abP {S:List ai} (h:fX S):(S.map (·.1)).mergeSort Go.leB=S.map (·.1):=by
 refine List.mergeSort_of_pairwise ?_;refine aa5.2 (h.imp fun {a b} hab=>?_);simp only[dR];exact List.le_of_lt hab
theorem afR {w:World} {b:Nat} {m:List (ByteArray × Value)} {S:List ai} (hM:cA sX w b m) (hH:qo m S) (hS:fX S) (hk:∀p ∈ S,p.1.length≤1000) (hs:S.length≤5000) :
 ς 136 #[.func (.func 193) #[] #[.pointer (some ⟨w.heap.size,0,none⟩)]] (w.alloc (.cells #[.map (some b)] 130)) fun e w'=>∃v,e=ώ v ∧
  w'.ownsRow (w.heap.size+1) 9 1 v S.length (strs (S.map fun p=>str p.1))∧υ w w':=by
 have hml:m.length=S.length:=by have:=hH.length_eq;simpa using this
 have hmk:∀p ∈ m,p.1.size≤1000:=fun p hp=>by
  obtain⟨q,hq,rfl⟩:=(hH.mem p).1 hp;show (str q.1).size≤_;rw[bf];exact hk q hq
 obtain⟨D0,hown,Qe,hsize⟩:=ach hM hmk oM;have dO:=hown.lt;have hseq:SeqGives Fence.wide 2 prog 193 #[.pointer (some ⟨w.heap.size,0,none⟩)] encStr (fun ss=>ss.Perm (strKeys D0)) (Maps.size D0) (w.alloc (.cells #[.map (some b)] 130)) :=
  AnyZ.keys_gives (ρ := keysB_ren) { keysB with } Fence.wide _ trivial rfl oM w.heap.size b m.length D0 _ sM sM (by
   obtain⟨es,clock,hb,Ft,hs,hD⟩:=hown;exact⟨es,clock,(qJ _ _ b dO).trans hb,Ft,hs,hD⟩)
 have cS:=AnyZ.sorted_in sortedB Fence.wide 5 trivial trivial trivial trivial rfl oM (ah1 _) (enters_of func192 kR rfl) 193 #[.pointer (some ⟨w.heap.size,0,none⟩)] trivial (enters_of func193 kR rfl) _ _ (by rw[hsize];unfold maxLen;omega) (by rw[hsize];omega) _ hseq;refine((Ds (n:=5)).1 cS).mono ?_;rintro e w' ⟨v,ss,rfl,a_,hrow,-,hb⟩;have hp:ss.Perm (S.map (·.1)):=by
  refine(a_.trans Qe).trans ?_;have h1:=hH.map (fun p:ByteArray × Value=>p.1.data.toList);rw[rL] at h1;have e3:S.map ((fun p:ByteArray × Value=>p.1.data.toList) ∘ s8)=S.map (·.1):=aa4 fun p _=>bS p.1
  rw[e3] at h1;exact h1
 have hl:ss.length=S.length:=by have:=hp.length_eq;simpa using this
 rw[show (fun x y:List UInt8=>decide (x≤y))=Go.leB from rfl,mergeSort_of_perm hp,abP hS,hl] at hrow;refine⟨v,rfl,?_,((ζ.refl _ w).alloc _).then (ζ.oI hb (fun _=>False)) φ⟩;have e1:(w.alloc (.cells #[.map (some b)] 130)).heap.size=w.heap.size+1:=by simp
 rw[e1] at hrow;have e2:(S.map (·.1)).map encStr=strs (S.map fun p=>str p.1):=by unfold strs;rw[rL,rL];rfl
 rw[e2] at hrow;exact hrow
theorem Wn {w:World} {b:Nat} {m:List (ByteArray × Value)} (hM:cA sX w b m) :
 ς 82 #[.map (some b)] w fun e w'=>e=ώ (.map (some w.heap.size))∧cA sX w' w.heap.size m∧υ w w':=by
 obtain⟨es,clock,hb,hst,hm⟩:=hM;refine(AnyW.maps_Clone cloneB b es clock w hb).mono ?_;rintro e w' ⟨rfl,rfl⟩;exact⟨rfl,⟨es,clock,(MapKept.heap_alloc w _).1,hst,hm⟩,(ζ.refl _ w).alloc _⟩
end
section
open Go Go.RowKit
structure fY (w:World) (m mb:Nat) (S:List ai):Prop where
 blk:η w m 132 #[.map (some mb)]
 map:∃ay,cA sX w mb ay∧qo ay S
 ok:nw S
section
variable {w w':World} {m mb:Nat} {S:List ai}
theorem fY.ε {F:Nat→Prop} (h:fY w m mb S) (hu:ζ F w w') (h1:¬F m) (h2:¬F mb):fY w' m mb S:=by
 obtain⟨ay,e1,e2⟩:=h.map;exact⟨h.blk.ε hu h1,⟨ay,e1.ε hu h2,e2⟩,h.ok⟩
theorem fY.still (h:fY w m mb S) (hu:υ w w'):fY w' m mb S:=h.ε hu (fun e=>e) (fun e=>e)
theorem fY.lt (h:fY w m mb S):m<w.heap.size∧mb<w.heap.size:=by
 obtain⟨ay,e1,e2⟩:=h.map;exact⟨h.blk.lt,e1.lt⟩
theorem fY.each (h:fY w m mb S):∀p ∈ S,p.1.length≤33∧p.2.length≤32:=fun p hp=>⟨Dv (h.ok.each p hp).1,(h.ok.each p hp).2⟩
end
theorem Xt (w:World):ς 64 #[] w fun e w'=>∃m mb,e=ώ (.pointer (some ⟨m,0,none⟩))∧fY w' m mb []∧w.heap.size≤m∧w.heap.size≤mb∧υ w w':=by
 have IJ:=@run_makeMap prog;go_enter func64,ntmps64
 go_wp2_with fail
 go_ret
 have hb:=η.new (w.alloc (.map #[] 0)) 132 #[.map (some w.heap.size)];rw[cM] at hb;exact⟨_,w.heap.size,rfl,⟨hb,⟨[],(cA.new w).alloc _,List.Perm.refl _⟩,nw.nil⟩,oM,bQ _,((ζ.refl _ w).alloc _).alloc _⟩
theorem WT {w:World} {m mb:Nat} {S:List ai} (h:fY w m mb S):ς 55 #[.pointer (some ⟨m,0,none⟩)] w fun e w'=>∃m2 eH,e=ώ (.pointer (some ⟨m2,0,none⟩))∧fY w' m2 eH S∧w.heap.size≤m2∧w.heap.size≤eH∧υ w w':=by
 obtain⟨ay,e1,e2⟩:=h.map;have cu:=Wn e1;have cm:=h.blk.dD;have mu:=δ cu;have H:=τ e2 h.ok;clear h e1 e2 cu;go_enter func55,ntmps55
 go_wp2_with fail
 refine mu.out.mono ?_;rintro e w1 ⟨rfl,hM,hU⟩;have HM:=τ hM hU;clear hM hU;go_wp2_with fail
 go_ret
 refine⟨_,w.heap.size,rfl,⟨η.new _ _ _,⟨ay,HM.out.1.alloc _,H.out.1⟩,H.out.2⟩,HM.out.2.size,bQ _,HM.out.2.alloc _⟩
def QT (S:List ai) (p:List UInt8):Value:=.tuple #[.string (str ((lq p S).getD [])),.bool (lq p S).isSome]
theorem ah3 {w:World} {m mb:Nat} {S:List ai} (h:fY w m mb S) (p:ByteArray):ς 19 #[.pointer (some ⟨m,0,none⟩),.string p] w fun e w'=>e=ώ (QT S p.data.toList)∧w=w':=by
 obtain⟨ay,e1,e2⟩:=h.map;have hz:(zeroValue 9).run prog w=.ok (.string ByteArray.empty) w:=by simp[go_sem];rfl
 have hl:=e1.FO (P:=prog) DS underlying130 underlying9 p true hz;have hg:=e2.QL e1.nodup h.ok.wj p.data.toList;rw[DN] at hg;rw[hg] at hl;have hv:(if true=true then Value.tuple #[(Option.map (fun v=>Value.string (str v)) (lq p.data.toList S)).getD (.string ByteArray.empty),.bool (Option.map (fun v=>Value.string (str v)) (lq p.data.toList S)).isSome] else (Option.map (fun v=>Value.string (str v)) (lq p.data.toList S)).getD (.string ByteArray.empty))=.tuple #[.string (str ((lq p.data.toList S).getD [])),.bool (lq p.data.toList S).isSome]:=by
  rw[σ rfl];cases lq p.data.toList S<;>rfl
 rw[hv] at hl;unfold QT;obtain⟨V,hV⟩:=κ (str ((lq p.data.toList S).getD []));obtain⟨B,hB⟩:∃V,(lq p.data.toList S).isSome=V:=⟨_,rfl⟩;rw[hV,hB] at hl ⊢;have cm:=h.blk.dD;clear h e1 e2 hz hg hv hV hB;go_enter func19,ntmps19
 go_wp2_with fail
 go_ret2
 exact⟨rfl,rfl⟩
theorem Own.ah4 {w:World} {base n size:Nat} {e:TypeId} {v:Value} {xs:List Value} (h:w.ownsRow base e size v n xs):Own w e size v n xs∧∀q,v.ownBlock=some q→base≤q:=by
 refine⟨⟨h.1,?_⟩,?_⟩
 ·rcases h.2 with ⟨e1,e2⟩ | ⟨g,cap,cur,e1,e2,e3,e4,e5,e6,e7⟩
  ·exact .inl ⟨e1,e2⟩
  ·exact .inr ⟨g,cap,cur,(0,0),e1,e3,.inl rfl,e4,e5,e6,e7⟩
 ·intro q hq
  rcases h.2 with ⟨e1,e2⟩ | ⟨g,cap,cur,e1,e2,e3,e4,e5,e6,e7⟩
  ·rw[e1] at hq;simp[Value.ownBlock] at hq
  ·rw[e1] at hq
   have:g=q:=by simpa [Value.ownBlock] using hq
   omega
theorem afS {w:World} {m mb:Nat} {S:List ai} (h:fY w m mb S):ς 77 #[.pointer (some ⟨m,0,none⟩)] w fun e w'=>∃v,e=ώ v∧Own w' 9 1 v S.length (strs (S.map fun p=>str p.1))∧(∀q,v.ownBlock=some q→w.heap.size≤q)∧υ w w':=by
 obtain⟨ay,e1,e2⟩:=h.map;have hks:=ah2 (some mb) w;have iO:=afR e1 e2 h.ok.wj (fun p hp=>by have:=h.each p hp;omega) (oN h.ok.len);have cm:=h.blk.dD;have HK:=δ hks;have HS:=δ iO;clear h e1 e2 hks iO;go_enter func77,ntmps77
 go_wp2_with fail
 refine HK.out.mono ?_;rintro e w1 ⟨rfl,rfl⟩;go_wp2_with fail
 refine HS.out.mono ?_;rintro e w2 ⟨v,rfl,hrow,hU⟩;have H2:=τ hrow hU;clear hrow hU;go_wp2_with fail
 go_ret
 obtain⟨a,b⟩:=Own.ah4 H2.out.1;exact⟨_,rfl,a,fun q hq=>by have:=b q hq;omega,H2.out.2⟩
def bz (p:ai):List Value:=[.string (str p.1),.string (str p.2)]
def qP (l:List ai):List Value:=l.flatMap bz
theorem UO (l:List ai) (p:ai):qP (l++[p])=qP l++bz p:=by unfold qP;rw[vJ];simp
theorem KP:(prog.info? 55).map (fun i=>(i.zero,i.size,i.bytes))=some (some (.agg #[.string ByteArray.empty,.string ByteArray.empty]),2,32):=kR
theorem Xu {w:World} {m mb:Nat} {S:List ai} (h:fY w m mb S):ς 30 #[.pointer (some ⟨m,0,none⟩)] w fun e w'=>∃v,e=ώ v∧Own w' 55 2 v S.length (qP S)∧(∀q,v.ownBlock=some q→w.heap.size≤q)∧υ w w':=by
 have HP:=δ (afS h);have H:=δ h;have akg:=h.ok.len;obtain⟨ti,bx,bN,bG,aT⟩:=je KP;have HI:=aD bx bN bG aT;clear h bx bN bG aT;go_enter func30,ntmps30
 go_wp2_with fail
 refine HP.out.mono ?_;rintro e w1 ⟨v,rfl,hO,hv,hU⟩;obtain⟨A,cap,rfl,-,-⟩:=hO.shape;have H1:=aj hO hv hU;clear hU hO hv;go_wp2_with fail
 go_loopw [3,5,9] (fun x _ i wr=>∃k:Nat,k≤S.length∧i=ι (k:Int)∧Own wr 55 2 x k (qP (S.take k))∧(∀q,x.ownBlock=some q→w1.heap.size≤q)∧υ w1 wr) (fun _ _ i _=>S.length - (intOf i).toNat)
 case atStart=>exact⟨0,oM,rfl,Own.nil _ _ _,by simp[Value.ownBlock],ζ.refl _ _⟩
 case round =>
  obtain⟨k,hk,rfl,hX,hx,hU⟩:=hrel;by_cases hlt:k<S.length
  ·obtain⟨g,cp,CI,-,-⟩:=H1.out.1.head oM
   injection CI with CI;subst CI;have hcell:wr.cell? ⟨g,0+k,none⟩=some (.string (str S[k].1)):=by
    have h1:=(H1.out.1.ε hU (fun _ _ e=>e)).cellAt k oM;rw[kU,h1];simp[strs,hlt]
   obtain⟨ay,e1,e2⟩:=H.out.map;have kE:=H1.out.2.2.then hU φ;have hM:=e1.ε kE (fun e=>e);have hz:(zeroValue 9).run prog wr=.ok (.string ByteArray.empty) wr:=by simp[go_sem];rfl
   have hl:=hM.FO (P:=prog) DS underlying130 underlying9 (str S[k].1) false hz;rw[e2.QL e1.nodup H.out.ok.wj,Pa H.out.ok.wj (eM hlt)] at hl;have dn:qP (S.take (k+1))=qP (S.take k)++bz S[k]:=by rw[gX hlt,UO]
   have cm:=(H.out.blk.ε kE (fun e=>e)).dD;obtain⟨P,hP⟩:=κ (str S[k].1);obtain⟨V,hV⟩:∃P,str S[k].2=P:=⟨_,rfl⟩;have ow:bz S[k]=[.string P,.string V]:=by unfold bz;rw[hP,hV]
   rw[hP] at hcell hl;rw[ow] at dn;have hl2:(Instr.lookup 130 (.map (some mb)) (.string P) false).run prog wr=.ok (.string V) wr:=by rw[← hV];exact hl
   rw[kU] at hcell;obtain⟨A2,eY,rfl,-,-⟩:=hX.shape;have j1:(k:Int)<(S.length:Int):=oM;have HX:=aD hX hx hU dn;clear hX hx hU dn hM e1 e2 hz hl ow kE hP hV;go_wp2_with (first
    |(at_builtin;refine jH rfl _ _ _ _ rfl 55 ti _ 2 32 underlying56 HI.out.1 HI.out.2.1 HI.out.2.2.1 HI.out.2.2.2 rfl (.slice A2 k eY) k _ rfl (HX.out.1.alloc _) _ 1 [_,_] rfl (Src.qN underlying56 _ rfl) (by simp[Value.oneCell']) (by unfold maxLen;omega) oM ?_;intro v2 w15 r9 nJ uG wD
      have js:=aD r9 nJ uG wD;clear r9 nJ uG wD))
   go_roundw
   case rel =>
    have hw:=HX.out.2.2.1.size;refine⟨v2,.string P,ι ((k:Int)+1),⟨k+1,oM,by go_num,?_,fun q hq=>?_,((HX.out.2.2.1.alloc _).then js.out.2.1 (fun q e=>.inr (HX.out.2.1 q e)))⟩,rfl,rfl,rfl⟩
    ·rw[HX.out.2.2.2];exact js.out.1
    ·rcases js.out.2.2.1 with e | e
     ·exact HX.out.2.1 q (by rw[← e];exact hq)
     ·rw[hq] at e
      have:=dw e;rw[cM] at this;omega
   case measure=>simp[intOf]<;>omega
  ·obtain rfl:k=S.length:=oM
   rw[rO] at hX;have HX:=aj hX hx hU;clear hX hx hU;go_wp2_with fail
   go_ret
   exact⟨_,rfl,HX.out.1,fun q hq=>by have:=HX.out.2.1 q hq;have:=H1.out.2.2.size;omega,H1.out.2.2.then HX.out.2.2 φ⟩
theorem aee {w:World} {b:Nat} {m:List (ByteArray × Value)} (h:cA sX w b m):(Builtin.len_ #[130] 3 #[.map (some b)]).run prog w=.ok (ι (m.length:Int)) w:=by
 obtain⟨es,clock,hb,-,hm⟩:=h;have hl:es.toList.length=m.length:=by have:=aJ List.length hm;simpa using this
 have hl2:es.size=m.length:=by simpa using hl
 rw[run_len_map w _ _ _ es clock kR hb,hl2];first| rfl | simp[goInt]
structure aiG (w w':World) (m:Nat) (S:List ai) (l:List cT):Prop where
 no:fW S l≠0→υ w w'
 yes:fW S l=0→∃iC,fY w' m iC (cJ S l)∧w.heap.size≤iC∧ζ (· = m) w w'
theorem Wo {S:List ai} {l:List cT} {k:Nat} (hk:k<l.length):cJ S (l.take (k+1))=if l[k].kind=2 then qw l[k].path (cJ S (l.take k)) else jm l[k].path l[k].value (cJ S (l.take k)):=by
 rw[gX hk];unfold cJ;rw[List.foldl_append];rfl
theorem VI {S:List ai} (h:fX S) (l:List cT):fX (cJ S l):=by
 induction l generalizing S with
 | nil=>exact h
 | cons o r ih =>
   have e:cJ S (o::r)=cJ (if o.kind=2 then qw o.path S else jm o.path o.value S) r:=rfl;rw[e];refine ih ?_;split
   ·exact Oi h
   ·exact Bh h
theorem OQ (A:Option Addr) (n cap:Nat):prog.built 35 [(0,ι 1),(1,ι 1),(2,.slice A n cap)]=some (lP 1 1 (.slice A n cap)):=kR
theorem X4 {w:World} {m mb:Nat} {S:List ai} (h:fY w m mb S) {A:Option Addr} {cap b off:Nat} {l:List cT} (hA:0<l.length→A=some ⟨b,off,none⟩) (hb:∀w',υ w w'→uw w' b off l) (hs:qh l) (hl:l.length≤1000000) :
 ς 36 #[.pointer (some ⟨m,0,none⟩),.slice A l.length cap] w fun e w'=>e=ώ (ι (fW S l))∧aiG w w' m S l:=by
 have eE:=KE (cap:=cap) (i:=1) (ep:=1) (w:=w) hA hb hs hl;by_cases eA:d_ 1 1 l=0
 ·rw[eA] at eE
  obtain⟨-,-,-,b4,b5⟩:=sP eA;have HE:Hid (fW S l=if 48<(cJ S l).length then 6 else 0):=δ (by unfold fW;rw[ν (by simp[eA])]);have mW:=δ eE;have HB:=δ hb;have HX:=τ eA b5;have H:=δ h;have l4:(l.length:Int)≤4:=oM;clear eE hb hs eA b4 b5 h;go_enter func36,ntmps36
  go_upto_region 6 with (first
   |(refine qf rfl _ _ rfl [(0,ι 1),(1,ι 1),(2,.slice A l.length cap)] _ (by first| rfl | kernel_rfl) (OQ _ _ _) ?_)
   |(go_at_call 81
     refine mW.out.mono ?_;rintro e w1 ⟨rfl,ax⟩;have H1:=τ (H.out.still ax) ax;clear ax))
  obtain⟨ay,e1,e2⟩:=H1.out.1.map;have cu:=Wn e1;have cm:=H1.out.1.blk.dD;have mu:=τ cu e2;clear cu e1 e2;obtain⟨c,hc⟩:=κ w1.heap.size;have HC:=δ hc;rw[hc] at mu;have hmn:∀W:World,(binOp .eql 130 (.map (some c)) (.map none)).run prog W=.ok (.bool false) W:=fun W=>by first| rfl | kernel_rfl | simp[binOp,Op.equal,run_underlying underlying130]
  clear hc;go_wp2_with fail
  refine mu.out.1.mono ?_;rintro e w2 ⟨rfl,hM2,π⟩;have H2:=τ hM2 π;clear hM2 π cm;have LY:=hmn w2;go_wp2_with fail
  go_loopw [8,27] (fun _ u wr=>∃(k:Nat) (es:List (ByteArray × Value)),k≤l.length∧u=ι (k:Int)∧cA sX wr c es∧qo es (cJ S (l.take k))∧ζ (· = c) w2 wr) (fun _ u _=>l.length - (intOf u).toNat)
  case atStart=>exact⟨0,ay,oM,rfl,H2.out.1,mu.out.2,ζ.refl _ _⟩
  case round =>
   obtain⟨k,es,hk,rfl,hM,hH,hU⟩:=hrel;by_cases hlt:k<l.length
   ·obtain rfl:=hA oM
    have zS:w.heap.size≤c:=by rw[← HC.out];exact H1.out.2.size
    have kE:υ w wr:=(H1.out.2.then H2.out.2 φ).then hU (fun q e=>.inr (by have e2:q=c:=e;omega));have hrow:=HB.out wr kE k hlt;have mc:=HX.out.2 _ (eM hlt);have hst:=Wo (S:=S) hlt;obtain⟨o,ho⟩:=κ (l[k]);rw[ho] at hrow mc hst;obtain⟨x1,-,-,-,-⟩:=Be mc;obtain⟨P,hP⟩:=κ (str o.path);obtain⟨V,hV⟩:∃P,str o.value=P:=⟨_,rfl⟩;obtain⟨Kb,qy⟩:∃K,o.kind=K:=⟨_,rfl⟩;have hrw:bU o=[ϋ (Kb.toNat:Int),.string P,.string V]:=by unfold bU;rw[hP,hV,qy]
    rw[hrw] at hrow;rw[qy] at x1 hst;have HR:=δ hrow;have HM:=aj hM hH hU;have HS:=aj hst hP hV;have EB:=δ x1;have j1:(k:Int)<(l.length:Int):=oM;obtain⟨g,hg⟩:=κ wr.heap.size;have HG:=δ hg;clear hrow hM hH hU hst hP hV x1 mc ho qy hrw kE zS;rcases EB.out with rfl | rfl
    ·go_upto_region 12 with (first
      |(refine uc rfl _ _ rfl b (off+k*3) rfl [ϋ 1,.string P,.string V] _ HR.out underlying32 rfl kR ?_))
     generalize cF:World.alloc _ _=w5;have aF:η w5 g 32 #[ϋ 1,.string P,.string V]:=by rw[← cF,← HG.out];exact η.new wr _ _
     have yG:cA sX w5 c es:=by rw[← cF];exact HM.out.1.alloc _
     have av:ζ (· = c) w2 w5:=by rw[← cF];exact HM.out.2.2.alloc _
     obtain⟨c0,c1,c2⟩:=aF.fP;have H5:=τ yG av;clear aF yG av cF hg;obtain⟨w6,Lm,tS,az,iB⟩:=H5.out.1.Kl (P:=prog) DS underlying130 underlying9 P (.string V);have H6:=τ tS (H5.out.2.then az (fun _ e=>.inl e));clear tS az iB;have CJ:=HM.out.2.1.bE HM.out.1.nodup (VI H.out.ok.wj _) o.path o.value;rw[HS.out.2.1,HS.out.2.2] at CJ;have Sy:=δ CJ;clear CJ;go_wp2_with (first|(refine Uo rfl _ _ _ _ rfl rfl rfl rfl Lm ?_))
     go_roundw
     case rel=>exact⟨k+1,_,oM,by go_num,H6.out.1,by rw[HS.out.1,ν dC];exact Sy.out,H6.out.2⟩
     case measure=>simp[intOf]<;>omega
    ·go_upto_region 12 with (first
      |(refine uc rfl _ _ rfl b (off+k*3) rfl [ϋ 2,.string P,.string V] _ HR.out underlying32 rfl kR ?_))
     generalize cF:World.alloc _ _=w5;have aF:η w5 g 32 #[ϋ 2,.string P,.string V]:=by rw[← cF,← HG.out];exact η.new wr _ _
     have yG:cA sX w5 c es:=by rw[← cF];exact HM.out.1.alloc _
     have av:ζ (· = c) w2 w5:=by rw[← cF];exact HM.out.2.2.alloc _
     obtain⟨c0,c1,c2⟩:=aF.fP;have H5:=τ yG av;clear aF yG av cF hg;obtain⟨w6,Lm,tS,az,iB⟩:=H5.out.1.Bf (P:=prog) (ty:=0) DS underlying130 underlying9 P;have H6:=τ tS (H5.out.2.then az (fun _ e=>.inl e));clear tS az iB;have CJ:=HM.out.2.1.aje o.path;rw[HS.out.2.1] at CJ;have Sy:=δ CJ;clear CJ;go_wp2_with (first|(refine Ka rfl _ _ _ _ rfl rfl rfl Lm ?_))
     go_roundw
     case rel=>exact⟨k+1,_,oM,by go_num,H6.out.1,by rw[HS.out.1,σ rfl];exact Sy.out,H6.out.2⟩
     case measure=>simp[intOf]<;>omega
   ·obtain rfl:k=l.length:=oM
    rw[rO] at hH;have HM:=aj hM hH hU;have tC:=aee hM;have hle:es.length=(cJ S l).length:=by have:=hH.length_eq;simpa using this
    rw[hle] at tC;have hok:=Xr (i:=1) (e:=1) H.out.ok HX.out.1;clear hM hH hU hlt hk;have HMB:=τ hok hle;have lV:Hid (υ w1 wr):=δ (H2.out.2.then HM.out.2.2 (fun q e=>.inr (by have e2:q=c:=e;have:=HC.out;omega)));have HUw:Hid (υ w wr):=δ (H1.out.2.then lV.out φ);clear hok hle;by_cases h48:(48:Int)<((cJ S l).length:Int)
    ·have Ah:fW S l=6:=by rw[HE.out,σ oM]
     have Ja:=δ Ah;clear Ah;go_wp2_with fail
     go_ret
     exact⟨by rw[Ja.out];rfl,fun _=>HUw.out,fun e=>by rw[Ja.out] at e;exact absurd e dC⟩
    ·have Ah:fW S l=0:=by rw[HE.out,ν oM]
     have Ja:=δ Ah;have hBm:=H1.out.1.blk.ε lV.out (fun e=>e);have cm:=hBm.dD;have fm:=hBm.frozen 0;have HBm:=δ hBm;clear Ah hBm;go_wp2_with fail
     go_ret
     refine⟨by rw[Ja.out];rfl,fun e=>absurd Ja.out e,fun _=>⟨c,⟨HBm.out.bE 0 _,⟨es,HM.out.1.bP ?_ _,HM.out.2.1⟩,HMB.out.1 oM⟩,by rw[← HC.out];exact H1.out.2.size,(HUw.out.mono (G:=(· = m)) φ).setCell (p:=⟨m,0,none⟩) (.inl rfl) _⟩⟩;exact HM.out.1.fO HBm.out
 ·have mW:=δ eE
  have HE:Hid (fW S l=d_ 1 1 l):=δ (by unfold fW;rw[σ eA]);obtain⟨E,hE⟩:=κ (d_ 1 1 l);rw[hE] at eA mW HE;rw[HE.out];have k1:(E != 0)=true:=by simpa using eA
  have rq:=δ eA;clear eE hb hs hE eA h;go_enter func36,ntmps36
  go_wp2_with (first
   |(refine qf rfl _ _ rfl [(0,ι 1),(1,ι 1),(2,.slice A l.length cap)] _ (by first| rfl | kernel_rfl) (OQ _ _ _) ?_)
   |(go_at_call 81
     refine mW.out.mono ?_;rintro e w1 ⟨rfl,ax⟩;have H1:=δ ax;clear ax))
  go_ret
  exact⟨rfl,fun _=>H1.out,fun e=>absurd (HE.out ▸ e) rq.out⟩
def Pq (w:World) (b off:Nat) (l:List ai):Prop:=∀i (h:i<l.length),w.rangeAt b (off+i*2) (bz l[i])
structure aiH (w w':World) (l:List ai) (e:Ending):Prop where
 no:(fL l).2≠0→e=ώ (.tuple #[.pointer none,ι (fL l).2])
 yes:(fL l).2=0→∃m mb,e=ώ (.tuple #[.pointer (some ⟨m,0,none⟩),ι 0])∧fY w' m mb (fL l).1∧w.heap.size≤m∧w.heap.size≤mb
 ε:υ w w'
theorem Pr {T r:List ai} {p:ai} (h:jg p.1=false∨32<p.2.length):kS T (p::r)=([],1):=by unfold kS;rw[σ h]
theorem VJ {T r:List ai} {p:ai} (h:¬(jg p.1=false∨32<p.2.length)) (h2:(lq p.1 T).isSome=true):kS T (p::r)=([],5):=by unfold kS;rw[ν h,σ h2]
theorem Wp {T r:List ai} {p:ai} (h:¬(jg p.1=false∨32<p.2.length)) (h2:(lq p.1 T).isSome=false):kS T (p::r)=kS (jm p.1 p.2 T) r:=by
 conv=>lhs;unfold kS
 rw[ν h,ν (by rw[h2];simp)]
theorem Zx {P:Prop} (h:P:=by
 have LZ:=δ (HP.out.2.2.2.2.symm.trans jl);clear jl;go_wp2_with fail
 go_ret2
 exact⟨fun _=>by rw[HR.out.1,LZ.out];rfl,fun e=>by rw[HR.out.1,LZ.out] at e;exact absurd e dC,HM.out.2.2.2.2.then H6.out.2 φ⟩):P:=h
theorem X5 {w:World} {A:Option Addr} {cap b off:Nat} {l:List ai} (hA:0<l.length→A=some ⟨b,off,none⟩) (hb:∀w',υ w w'→Pq w' b off l) (hs:∀p ∈ l,p.1.length≤1000000∧p.2.length≤1000000) (hl:l.length≤1000000) :
 ς 75 #[.slice A l.length cap] w fun e w'=>aiH w w' l e:=by
 by_cases h48:(48:Int)<(l.length:Int)
 ·have hR:fL l=([],6):=by unfold fL;rw[σ oM]
  have HR:=δ hR;clear hb hs hA hR;go_enter func75,ntmps75
  go_wp2_with fail
  go_ret2
  exact⟨fun _=>by rw[HR.out];rfl,fun e=>by rw[HR.out] at e;exact absurd e dC,ζ.refl _ _⟩
 ·have hR:fL l=kS [] l:=by unfold fL;rw[ν oM]
  obtain⟨R,vj⟩:=κ (kS [] l);rw[vj] at hR;have HR:=τ hR vj;have HB:=δ hb;have HS:=δ hs;have HNW:=δ (fun W=>Xt W);clear hb hs hR vj;go_enter func75,ntmps75
  go_wp2_with fail
  refine(HNW.out _).mono ?_;rintro e w1 ⟨m,mb,rfl,hM,hm,hmb,ax⟩;have H1:=aD hM hm hmb ax;clear hM hm hmb ax;go_wp2_with fail
  go_loopw [6,7,8,9,10,11,18] (fun _ _ _ _ _ _ u wr=>∃(k:Nat) (T:List ai) (es:List (ByteArray × Value)),k≤l.length∧u=ι (k:Int)∧kS T (l.drop k)=R∧fX T∧cA sX wr mb es∧qo es T∧ζ (· = mb) w1 wr) (fun _ _ _ _ _ _ u _=>l.length - (intOf u).toNat)
  case atStart =>
   obtain⟨ay,e1,e2⟩:=H1.out.1.map;exact⟨0,[],ay,oM,rfl,HR.out.2,List.Pairwise.nil,e1,e2,ζ.refl _ _⟩
  case round =>
   obtain⟨k,T,es,hk,rfl,hE,hT,hM,hH,hU⟩:=hrel;have kE:υ w wr:=H1.out.2.2.2.then hU (fun q e=>.inr (by have e2:q=mb:=e;have:=H1.out.2.2.1;omega));have MW:mb≠m:=by
    obtain⟨ay,e1,e2⟩:=H1.out.1.map;exact e1.fO H1.out.1.blk
   by_cases hlt:k<l.length
   ·obtain rfl:=hA oM
    have hrow:=HB.out wr kE k hlt;have gD:=HS.out _ (eM hlt);rw[ua hlt] at hE;obtain⟨p,hp⟩:=κ (l[k]);rw[hp] at hrow gD hE;obtain⟨P,hP⟩:=κ (str p.1);obtain⟨V,hV⟩:∃P,str p.2=P:=⟨_,rfl⟩;have lB:P.data.toList=p.1:=by rw[← hP,bS]
    have ru:V.size=p.2.length:=by rw[← hV,bf]
    have hrw:bz p=[.string P,.string V]:=by unfold bz;rw[hP,hV]
    rw[hrw] at hrow;have hcut:=fun W=>W9 P (by rw[← hP,bf];exact gD.1) W
    rw[lB] at hcut;obtain⟨ca,hca⟩:∃a,str (mI p.1).1=a:=⟨_,rfl⟩;obtain⟨cb,hcb⟩:∃a,str (mI p.1).2.1=a:=⟨_,rfl⟩;obtain⟨B,hB⟩:=κ (jg p.1);rw[hca,hcb,hB] at hcut;have ajq:=δ hcut;have E4:=δ hrow;have HM:=cx hM hH hT hU kE;have HP:=cx hP hV ru hB hE;have HN:=δ MW;have j1:(k:Int)<(l.length:Int):=oM;obtain⟨g,hg⟩:=κ wr.heap.size;have HG:=δ hg;clear hrow gD hE hP hV lB ru hrw hcut hca hcb hB hM hH hT hU kE hp MW;go_upto_region 7 with (first
     |(refine uc rfl _ _ rfl b (off+k*2) rfl [.string P,.string V] _ E4.out underlying55 rfl kR ?_))
    generalize cF:World.alloc _ _=w5;have aF:η w5 g 55 #[.string P,.string V]:=by rw[← cF,← HG.out];exact η.new wr _ _
    have av:υ wr w5:=by rw[← cF];exact(ζ.refl _ wr).alloc _
    obtain⟨c0,c1⟩:=aF.uv;have H5:=τ aF av;clear aF av cF hg;go_wp2_with fail
    refine(ajq.out _).mono ?_;rintro e w6 ⟨rfl,az⟩;obtain⟨c0,c1⟩:=(H5.out.1.ε az (fun e=>e)).uv;have qx:=H5.out.2.then az φ;have H6:=τ (H5.out.1.ε az (fun e=>e)) qx;clear az qx;cases B
    ·have jl:=Pr (T:=T) (r:=l.drop (k+1)) (p:=p) (.inl HP.out.2.2.2.1)
     exact Zx
    ·by_cases h32:(32:Int)<(V.size:Int)
     ·have jl:=Pr (T:=T) (r:=l.drop (k+1)) (p:=p) (.inr (oN HP.out.2.2.1))
      exact Zx
     ·have GK:¬(jg p.1=false∨32<p.2.length):=by
       have:=HP.out.2.2.1;rw[HP.out.2.2.2.1];simp
       omega
      have HGD:=δ GK;have tS:=HM.out.1.ε H6.out.2 (fun e=>e);have cm:=(H1.out.1.blk.ε (HM.out.2.2.2.1.then H6.out.2 φ) (fun e=>HN.out e.symm)).dD;have hz:∀W:World,(zeroValue 9).run prog W=.ok (.string ByteArray.empty) W:=fun W=>by simp[go_sem];rfl
      have hlk:∀n,(Instr.lookup 130 (.map (some mb)) (.string P) true).run prog (w6.drewN n)=.ok (.tuple #[((lq p.1 T).map fun v=>Value.string (str v)).getD (.string ByteArray.empty),.bool (lq p.1 T).isSome]) (w6.drewN n):=fun n=>by
       have h:=(tS.ε ((ζ.refl (fun _=>False) w6).drewN n) (fun e=>e)).FO (P:=prog) DS underlying130 underlying9 P true (hz _);have hgt:=HM.out.2.1.QL HM.out.1.nodup HM.out.2.2.1 p.1;rw[HP.out.1] at hgt;rw[hgt,σ rfl,Option.isSome_map] at h;exact h
      obtain⟨GV,hGV⟩:∃G,((lq p.1 T).map fun v=>Value.string (str v)).getD (.string ByteArray.empty)=G:=⟨_,rfl⟩;obtain⟨GB,Sz⟩:∃G,(lq p.1 T).isSome=G:=⟨_,rfl⟩;rw[hGV,Sz] at hlk;have MO:=δ Sz;have HM6:=τ tS hlk;clear GK tS hz hlk hGV Sz;go_upto_region 10 with fail
      have hlk:=HM6.out.2;go_quiet (fail)
      go_upto_region 11 with fail
      have SA:=HM6.out.1.ε ((ζ.refl (fun _=>False) w6).drewN nq) (fun e=>e);have bK:=H6.out.2.drewN nq;have dG:=H6.out.1.drewN nq;generalize uT:World.drewN w6 nq=w7 at SA bK dG ⊢;have H7:=aj SA bK dG;clear uT hlk SA bK dG c0 c1 cm;cases GB
      ·have bY:=Wp (T:=T) (r:=l.drop (k+1)) (p:=p) HGD.out MO.out
       have hcm:=H1.out.1.blk.ε (HM.out.2.2.2.1.then H7.out.2.1 φ) (fun e=>HN.out e.symm);have cm:=hcm.dD;obtain⟨c0,c1⟩:=H7.out.2.2.uv;obtain⟨w8,aiI,hM8,cC,kC⟩:=(H7.out.1.drew).Kl (P:=prog) DS underlying130 underlying9 P (.string V);have SB:=HM.out.2.1.bE HM.out.1.nodup HM.out.2.2.1 p.1 p.2;rw[HP.out.1,HP.out.2.1] at SB;have H8:=aD hM8 SB ((HM.out.2.2.2.1.then H7.out.2.1.drew φ).then cC (fun _ e=>.inl e)) bY;clear bY hcm hM8 cC kC SB;go_upto_region 13 with fail
       go_still_tail 8,kR
       change wpList _ _ _ _ _ w7.drew;go_wp2_with (first|(refine Uo rfl _ _ _ _ rfl rfl rfl rfl aiI ?_))
       go_roundw
       case rel=>exact⟨k+1,jm p.1 p.2 T,_,oM,by go_num,by rw[← H8.out.2.2.2];exact HP.out.2.2.2.2,Bh HM.out.2.2.1,H8.out.1,H8.out.2.1,H8.out.2.2.1⟩
       case measure=>simp[intOf]<;>omega
      ·have yH:=VJ (T:=T) (r:=l.drop (k+1)) (p:=p) HGD.out MO.out
       have CL:=δ (HP.out.2.2.2.2.symm.trans yH);clear yH;go_wp2_with fail
       go_ret2
       exact⟨fun _=>by rw[HR.out.1,CL.out];rfl,fun e=>by rw[HR.out.1,CL.out] at e;exact absurd e dC,HM.out.2.2.2.2.then H7.out.2.1 φ⟩
   ·obtain rfl:k=l.length:=oM
    rw[pN (bQ _)] at hE;have gl:R=(T,0):=by rw[← hE];rfl
    have HM:=gU hM hH hU kE gl MW;clear hM hH hU kE hE gl hlt hk MW;go_wp2_with fail
    go_ret2
    refine⟨fun e=>absurd (show (fL l).2=0 by rw[HR.out.1,HM.out.2.2.2.2.1]) e,fun e=>⟨m,mb,rfl,⟨H1.out.1.blk.ε HM.out.2.2.1 (fun e=>HM.out.2.2.2.2.2 e.symm),⟨es,HM.out.1,?_⟩,Xs e⟩,H1.out.2.1,H1.out.2.2.1⟩,HM.out.2.2.2.1⟩;rw[HR.out.1,HM.out.2.2.2.2.1];exact HM.out.2.1
theorem ah5 (aP:ByteArray) (i:Nat) (hi:i≤1048576) (hm:aP.size≤64) (w:World) :
 ς 167 #[.string aP,ι (i:Int)] w fun e w'=>e=ώ (.agg (ψ (kf aP.data.toList i)))∧υ w w':=by
 obtain⟨g,hg⟩:=κ w.heap.size;have HG:=δ hg;have ei:IntKind.u64.wrap (i:Int)=(i:Int):=Ga i oM;obtain⟨B,hB⟩:=κ (([114,105,110,103]:List UInt8)++i6 i 8);have hBl:B.length=12:=by rw[← hB,aL,ur];rfl
 obtain⟨K,hK⟩:=κ (qX aP.data.toList B);have p_:K.length=32:=by rw[← hK];exact qi _ _
 have tT:kf aP.data.toList i=K:=by unfold kf;rw[hB,hK]
 rw[tT];have Cv:=fun W=>Qa aP (str B) W hm (by rw[bf];omega)
 rw[bS,hK] at Cv;have EG:=δ Cv;have HX:=aj hB p_ tT;clear hi hm hB hBl hK p_ tT Cv;go_enter func167,ntmps167
 go_upto_region 1 with (fail)
 generalize aH:World.alloc _ _=w2;have hr2:η w2 g 194 (ψ (List.replicate 32 0)):=by rw[← aH,← hg];exact η.new w _ _
 have π:υ w w2:=by rw[← aH];exact(ζ.refl _ w).alloc _
 have aU:=τ hr2 π;clear hr2 π aH hg;obtain⟨q,hq⟩:=κ w2.heap.size;have HQ:=δ hq;have hcv:=Lib.run_convert_bytes_const (P:=prog) w2 89 5 #[ϋ 114,ϋ 105,ϋ 110,ϋ 103] 4 4 underlying89 underlying5;rw[hq] at hcv;go_upto_region 2 with (first
  |(go_at_call 215
    generalize fJ:World.alloc _ _=w3;have lC:Own w3 5 1 (.slice (some ⟨q,0,none⟩) 4 4) 4 (aK [114,105,110,103]):=by
     refine⟨rfl,.inr ⟨q,4,#[ϋ 114,ϋ 105,ϋ 110,ϋ 103],(4,5),rfl,?_,.inr dC,dC,dC,rfl,rfl⟩⟩;rw[← fJ,← hq];exact yV w2 _
    have lF:υ w2 w3:=by rw[← fJ];exact(ζ.refl _ w2).alloc _
    refine(abW _ 4 _ i 8 w3 lC dC dC).mono ?_;rintro e w4 ⟨v4,rfl,pE,ag,nO⟩;rw[← qM,HX.out.1] at pE;have tH:υ w2 w4:=lF.then ag (fun b hb=>.inr (by simp[Value.ownBlock] at hb;have:=HQ.out;omega));have kB:=aj pE (aU.out.1.ε tH (fun e=>e)) (aU.out.2.then tH φ);clear fJ lC lF ag nO tH hcv pE hq))
 have hcs:=vP kB.out.1;go_wp2_with (first
  |(go_at_call 212
    refine(EG.out _).mono ?_;rintro e w5 ⟨rfl,av⟩;have Cz:=τ (kB.out.2.1.ε av (fun e=>e)) (kB.out.2.2.then av φ);clear av hcs)
  |(refine fk rfl 194 _ _ rfl g (ψ K) rfl rfl _ _ Cz.out.1 (by rw[bq,bq,HX.out.2.1];rfl) (lY _) (by rw[bq,HX.out.2.1];kernel_rfl) ?_
    intro w6 cI az iB))
 refine cy (jx rfl _ _ g _ _ _ _ rfl cI underlying194 rfl (by rw[bq,HX.out.2.1];kernel_rfl)) rfl ⟨rfl,Cz.out.2.then az (fun b hb=>.inr (by have e2:b=g:=hb;have:=HG.out;omega))⟩
theorem ag3 (b off:Nat) (x:Int) (w:World) (hc:w.cell? ⟨b,off,none⟩=some (ω x)) :
 ς 106 #[.pointer (some ⟨b,off,none⟩)] w fun e w'=>e=ώ (ω x)∧w'=w:=by
 have hl:=run_call_load (P:=prog) func161 kR kR kR .u64 kR hc;go_enter func106,ntmps106
 go_wp2
 go_ret
 exact⟨rfl,rfl⟩
theorem Xv (b off:Nat) (x:Nat) (hx:x<18446744073709551615) (w:World) (hc:w.cell? ⟨b,off,none⟩=some (ω (x:Int))) (hz:w.frozen? ⟨b,off,none⟩=false) :
 ς 110 #[.pointer (some ⟨b,off,none⟩),ω 1] w fun e w'=>e=ώ (ω ((x+1:Nat):Int))∧w'=w.setCell ⟨b,off,none⟩ (ω ((x+1:Nat):Int)):=by
 have hw:=Ga (x+1) oM;have iY:=run_call_add (P:=prog) func169 kR kR kR .u64 kR (y:=1) (s:=((x+1:Nat):Int)) hc hz (by simp[go_sem];first| exact hw |(push_cast at hw ⊢;exact hw)|(simp at hw;exact hw));clear hw;go_enter func110,ntmps110
 go_wp2
 go_ret
 exact⟨rfl,rfl⟩
theorem Wq (w:World):(callFunc 294 #[]).run prog w=.ok (.value (.tuple #[])) w:=run_call_mark0 func294 kR kR kR .disable kR w
theorem WU (w:World):(callFunc 296 #[]).run prog w=.ok (.value (.tuple #[])) w:=run_call_mark0 func296 kR kR kR .enable kR w
theorem afT (a:Addr) (w:World):(callFunc 297 #[.pointer (some a)]).run prog w=.ok (.value (.tuple #[])) w:=run_call_marked func297 kR kR kR .acquire kR a w
theorem afU (a:Addr) (w:World):(callFunc 299 #[.pointer (some a)]).run prog w=.ok (.value (.tuple #[])) w:=run_call_marked func299 kR kR kR .releaseMerge kR a w
theorem Pu (a:Addr) (x:Bool) (w:World) (hc:w.cell? a=some (.int .u32 (if x then 1 else 0))) :
 ς 213 #[.pointer (some a)] w fun e w'=>e=ώ (.bool x)∧w'=w:=by
 have hl:=run_call_load (P:=prog) func250 kR kR kR .u32 kR hc;cases x
 ·go_enter func213,ntmps213
  go_wp2
  go_ret
  exact⟨rfl,rfl⟩
 ·go_enter func213,ntmps213
  go_wp2
  go_ret
  exact⟨rfl,rfl⟩
theorem afV (a:Addr) (x:Value) (u:FrameMode) (w:World) (hc:w.cell? a=some x) (hz:w.frozen? a=false) :
 CallsD prog 253 #[.pointer (some a),.bool true] u w fun e u' w'=>u'=u∧(e=ώ (.tuple #[])∧w'=w.drew.setCell a (.int .u32 1)):=by
 have SC:w.drew.cell? a=some x:=by go_simp
 have hz':w.drew.frozen? a=false:=by go_simp
 have hst:=run_call_store (P:=prog) func280 kR kR kR kR (k:=.u32) (y:=1) SC hz';go_enter_d func253,ntmps253
 go_wp2
 go_region_calls
 all_goals (go_end0;exact⟨rfl,rfl⟩)
theorem aef (a:Addr) (u:FrameMode) (w:World) (hc:w.cell? a=some (.int .i32 1)) (hz:w.frozen? a=false) :
 CallsD prog 252 #[.pointer (some a)] u w fun e u' w'=>u'=u∧(e=ώ (.tuple #[])∧w'=w.setCell a (.int .i32 0)):=by
 have hd:=Wq;have he:=WU;have hr:=afU;have iY:=run_call_add (P:=prog) func300 kR kR kR .i32 kR (y:=-1) (s:=0) hc hz (by simp[go_sem];rfl)
 have hcv:=run_convert_to_unsafe (P:=prog) (src:=385) (dst:=296) underlying385 underlying296 kR hc;go_enter_d func252,ntmps252
 go_wp2
 go_end0
 go_wp2
 go_end0
 exact⟨rfl,rfl⟩
theorem ag4 (a:Addr) (w:World) (hc:w.cell? a=some (.int .i32 0)) (hz:w.frozen? a=false) :
 ς 251 #[.pointer (some a)] w fun e w'=>e=ώ (.tuple #[])∧w'=w.setCell a (.int .i32 1):=by
 have hd:=Wq;have he:=WU;have ha:=afT;have akh:=run_call_cas_hit (P:=prog) func295 kR kR kR .i32 kR (y:=1) hc hz;have SC:(w.setCell a (.int .i32 1)).cell? a=some (.int .i32 1):=World.cell?_setCell_same w a _ hc;have hcv:=run_convert_to_unsafe (P:=prog) (src:=385) (dst:=296) underlying385 underlying296 kR SC;go_enter func251,ntmps251
 go_wp2
 first| go_end0 |(simp only[Exit.inBlock,Exit.then];refine cy (results_none rfl _ _ _) rfl ?_)| refine cy (results_none rfl _ _ _) rfl ?_
 go_wp2
 go_end0
 exact⟨rfl,rfl⟩
def iG (d m:Int) (z:List UInt8):Array Value:=([Value.int .u32 d,.int .i32 m,.int .u32 0]++aK z).toArray
theorem Uy (d m:Int) {z:List UInt8} (h:z.length=32):(iG d m z).size=35:=by simp[iG,aK,h]
theorem aci {d m:Int} {z K:List UInt8} (hz:z.length=32) (hK:K.length=32):(iG d m z).toList.take 3++(ψ K).toList++(iG d m z).toList.drop (3+(ψ K).size)=(iG d m K).toList:=by
 rw[bq,hK];have h1:(iG d m z).toList.drop (3+32)=[]:=pN (by rw[pM,Uy d m hz];decide)
 rw[h1,xz];rfl
theorem Uz (d m:Int) (z:List UInt8):∀j v,(aK z)[j]? = some v→(iG d m z)[3+j]? = some v:=by
 intro j v h;unfold iG;rw[FC,lM sM];rw[show 3+j - [Value.int .u32 d,.int .i32 m,.int .u32 0].length=j by simp];exact h
theorem ah6 {w:World} {a b c r sb i:Nat} {ta tb tc:TypeId} {aP:ByteArray} {v1 v2 v3 v4:Value} {z:List UInt8} {d m:Int} (ha:η w a ta #[.pointer (some ⟨r,0,none⟩)]) (hb:η w b tb #[ι (i:Int)]) (hc:η w c tc #[.pointer (some ⟨sb,0,none⟩)])
 (hr:η w r 186 #[.string aP,v1,v2,v3,v4]) (hs:η w sb 269 (iG d m z)) (hz:z.length=32) (hi:i≤1048576) (hm:aP.size≤64) :
 ς 166 #[.pointer (some ⟨a,0,none⟩),.pointer (some ⟨b,0,none⟩),.pointer (some ⟨c,0,none⟩)] w fun e w'=>e=ώ (.tuple #[])∧η w' sb 269 (iG d m (kf aP.data.toList i))∧ζ (· = sb) w w':=by
 obtain⟨K,hK⟩:=κ (kf aP.data.toList i);have p_:K.length=32:=by rw[← hK];exact qi _ _
 have hkc:=fun W=>ah5 aP i hi hm W
 rw[hK] at hkc ⊢;have HKC:=δ hkc;have HX:=τ p_ (aci (d:=d) (m:=m) hz p_);have HB:=cx ha hb hc hr hs;have HZ:=δ (Uy d m hz);clear hK p_ hkc ha hb hc hr hs hz hi hm;go_enter func166,ntmps166
 refine dB ?_;refine dK (S:=fun w'=>υ w w') (T:=fun k=>k == 9) kR ?_;have aC:=(ζ.refl (fun _=>False) w).drew;refine aQ 0 (fun w' hSw=>And.intro (HB.out.1.ε hSw (fun e=>e)).dD (And.intro (HB.out.2.1.ε hSw (fun e=>e)).dD (And.intro (HB.out.2.2.1.ε hSw (fun e=>e)).dD (show w'.cell? ⟨r,0,none⟩=some (.string aP) from (HB.out.2.2.2.1.ε hSw (fun e=>e)).cell 0)))) ?_;refine aQ 1 (fun w' hSw=>And.intro (HB.out.1.ε hSw (fun e=>e)).dD (And.intro (HB.out.2.1.ε hSw (fun e=>e)).dD (And.intro (HB.out.2.2.1.ε hSw (fun e=>e)).dD (show w'.cell? ⟨r,0,none⟩=some (.string aP) from (HB.out.2.2.2.1.ε hSw (fun e=>e)).cell 0)))) ?_;refine aQ 2 (fun w' hSw=>And.intro (HB.out.1.ε hSw (fun e=>e)).dD (And.intro (HB.out.2.1.ε hSw (fun e=>e)).dD (And.intro (HB.out.2.2.1.ε hSw (fun e=>e)).dD (show w'.cell? ⟨r,0,none⟩=some (.string aP) from (HB.out.2.2.2.1.ε hSw (fun e=>e)).cell 0)))) ?_;refine aQ 3 (fun w' hSw=>And.intro (HB.out.1.ε hSw (fun e=>e)).dD (And.intro (HB.out.2.1.ε hSw (fun e=>e)).dD (And.intro (HB.out.2.2.1.ε hSw (fun e=>e)).dD (show w'.cell? ⟨r,0,none⟩=some (.string aP) from (HB.out.2.2.2.1.ε hSw (fun e=>e)).cell 0)))) ?_
 refine aQ 4 (fun w' hSw=>And.intro (HB.out.1.ε hSw (fun e=>e)).dD (And.intro (HB.out.2.1.ε hSw (fun e=>e)).dD (And.intro (HB.out.2.2.1.ε hSw (fun e=>e)).dD (show w'.cell? ⟨r,0,none⟩=some (.string aP) from (HB.out.2.2.2.1.ε hSw (fun e=>e)).cell 0)))) ?_;refine aQ 5 (fun w' hSw=>And.intro (HB.out.1.ε hSw (fun e=>e)).dD (And.intro (HB.out.2.1.ε hSw (fun e=>e)).dD (And.intro (HB.out.2.2.1.ε hSw (fun e=>e)).dD (show w'.cell? ⟨r,0,none⟩=some (.string aP) from (HB.out.2.2.2.1.ε hSw (fun e=>e)).cell 0)))) ?_;refine aY 6 (fun KK hK=>?_);go_simp
 refine(HKC.out _).mono ?_;rintro e w4 ⟨rfl,ag⟩;have dh:=aC.then ag φ;refine hK.out _ _ dh ?_;clear hK ag;refine ξ 7 ?_;refine ξ 8 ?_;refine kO 9 (fun KK hK=>?_);refine Ut (by rfl) 194 _ _ (by rfl) sb 3 (ψ K) (by rfl) (by rfl) _ _ (iG d m K) (HB.out.2.2.2.2.ε dh (fun e=>e)) (by rw[bq,HX.out.1,HZ.out];decide) HX.out.2 (lY _) (by rw[bq,HX.out.1];kernel_rfl) ?_
 intro w5 aF av iz;refine hK.out _ _ ?_;refine dF ?_;refine cZ ?_;have HF:=τ aF ((dh.mono (G:=(· = sb)) φ).then av (fun _ e=>.inl e));clear aF av iz hK aC dh;go_wp2_with fail
 go_end0
 exact⟨rfl,HF.out⟩
theorem VK (d m m2:Int) (z:List UInt8):(iG d m z).setIfInBounds 1 (.int .i32 m2)=iG d m2 z:=by unfold iG;rw[jy];rfl
theorem aeg (d d2 m:Int) (z:List UInt8):(iG d m z).setIfInBounds 0 (.int .u32 d2)=iG d2 m z:=by unfold iG;rw[jy];rfl
theorem ah7 {w:World} {a b c r sb i:Nat} {ta tb tc:TypeId} {aP:ByteArray} {v1 v2 v3 v4:Value} {z:List UInt8} (ha:η w a ta #[.pointer (some ⟨r,0,none⟩)]) (hb:η w b tb #[ι (i:Int)]) (hc:η w c tc #[.pointer (some ⟨sb,0,none⟩)])
 (hr:η w r 186 #[.string aP,v1,v2,v3,v4]) (hs:η w sb 269 (iG 0 0 z)) (hz:z.length=32) (hi:i≤1048576) (hm:aP.size≤64) (na:a≠sb) (nb:b≠sb) (nc:c≠sb) (nr:r≠sb) :
 ς 214 #[.pointer (some ⟨sb,0,none⟩),.func (.func 166) #[] #[.pointer (some ⟨a,0,none⟩),.pointer (some ⟨b,0,none⟩),.pointer (some ⟨c,0,none⟩)]] w fun e w'=>e=ώ (.tuple #[])∧η w' sb 269 (iG 1 0 (kf aP.data.toList i))∧ζ (· = sb) w w':=by
 obtain⟨w1,hw1⟩:=κ (w.setCell ⟨sb,1,none⟩ (.int .i32 1));have hs1:η w1 sb 269 (iG 0 1 z):=by rw[← hw1,← VK 0 0 1 z];exact hs.bE 1 _
 have rG:ζ (· = sb) w w1:=by rw[← hw1];exact(ζ.refl (· = sb) w).setCell (p:=⟨sb,1,none⟩) (.inl rfl) _
 have hlk:=ag4 ⟨sb,1,none⟩ w (hs.cell 1) (hs.frozen 1);rw[hw1] at hlk;have dO:=Pu ⟨sb,0,none⟩ false w1 (hs1.cell 0);have hk1:=ah6 (ha.ε rG na) (hb.ε rG nb) (hc.ε rG nc) (hr.ε rG nr) hs1 hz hi hm;have Jb:=δ hlk;have wJ:=δ dO;have HK1:=δ hk1;have nP:=δ rG;have hnot:∀(x:Bool) (w:World),(Op.unary .not (.bool x)).run prog w=.ok (.bool (!x)) w:=fun _ _=>rfl
 clear hw1 hs1 rG hlk dO hk1 ha hb hc hr hs hz hi hm na nb nc nr;go_enter_defers func214,ntmps214
 go_wp2_with (first
  |(go_at_call 251
    refine Jb.out.mono ?_;rintro e w' ⟨rfl,rfl⟩)
  |(go_at_call 213
    refine wJ.out.mono ?_;rintro e w' ⟨rfl,rfl⟩)
  |(go_at_call 166
    refine HK1.out.mono ?_;rintro e w2 ⟨rfl,aB,π⟩;have H2:=τ aB (nP.out.then π (fun _ e=>.inl e));clear aB π))
 have hc0:=H2.out.1.cell 0;have Ci:=H2.out.1.frozen 0;obtain⟨w3,fJ⟩:=κ (w2.drew.setCell ⟨sb,0,none⟩ (.int .u32 1));have eU:η w3 sb 269 (iG 1 1 (kf aP.data.toList i)):=by rw[← fJ,← aeg 0 1 1];exact H2.out.1.drew.bE 0 _
 have lF:ζ (· = sb) w w3:=by rw[← fJ];exact H2.out.2.drew.setCell (p:=⟨sb,0,none⟩) (.inl rfl) _
 obtain⟨w4,Ag⟩:=κ (w3.setCell ⟨sb,1,none⟩ (.int .i32 0));have hs4:η w4 sb 269 (iG 1 0 (kf aP.data.toList i)):=by rw[← Ag,← VK 1 1 0];exact eU.bE 1 _
 have tH:ζ (· = sb) w w4:=by rw[← Ag];exact lF.setCell (p:=⟨sb,1,none⟩) (.inl rfl) _
 refine leaves_cons (f:=253) (args:=#[.pointer (some ⟨sb,0,none⟩),.bool true]) sM (by simp[go_sem]) ?_;refine(afV ⟨sb,0,none⟩ _ .returning _ hc0 Ci).mono ?_;rintro e u' w'' ⟨rfl,rfl,rfl⟩;rw[fJ];refine leaves_cons (f:=252) (args:=#[.pointer (some ⟨sb,1,none⟩)]) (by simp[settle]) (by simp[go_sem]) ?_;refine(aef ⟨sb,1,none⟩ _ _ (eU.cell 1) (eU.frozen 1)).mono ?_;rintro e u' w'' ⟨rfl,rfl,rfl⟩;rw[Ag];simp[Leaves,settle,results,results214]
 exact⟨hs4,tH⟩
theorem acZ {w:World} {a b c r sb i:Nat} {ta tb tc:TypeId} {aP:ByteArray} {v1 v2 v3 v4:Value} {z:List UInt8} (ha:η w a ta #[.pointer (some ⟨r,0,none⟩)]) (hb:η w b tb #[ι (i:Int)]) (hc:η w c tc #[.pointer (some ⟨sb,0,none⟩)])
 (hr:η w r 186 #[.string aP,v1,v2,v3,v4]) (hs:η w sb 269 (iG 0 0 z)) (hz:z.length=32) (hi:i≤1048576) (hm:aP.size≤64) (na:a≠sb) (nb:b≠sb) (nc:c≠sb) (nr:r≠sb) :
 ς 165 #[.pointer (some ⟨sb,0,none⟩),.func (.func 166) #[] #[.pointer (some ⟨a,0,none⟩),.pointer (some ⟨b,0,none⟩),.pointer (some ⟨c,0,none⟩)]] w fun e w'=>e=ώ (.tuple #[])∧η w' sb 269 (iG 1 0 (kf aP.data.toList i))∧ζ (· = sb) w w':=by
 have ou:=δ (ah7 ha hb hc hr hs hz hi hm na nb nc nr);have wJ:=δ (Pu ⟨sb,0,none⟩ false w (hs.cell 0));have hnot:∀(x:Bool) (w:World),(Op.unary .not (.bool x)).run prog w=.ok (.bool (!x)) w:=fun _ _=>rfl
 clear ha hb hc hr hs hz hi hm na nb nc nr;go_enter func165,ntmps165
 go_wp2_with (first
  |(go_at_call 214
    refine ou.out.mono ?_;rintro e w2 ⟨rfl,aB,π⟩;have H2:=τ aB π;clear aB π)
  |(go_at_call 213
    refine wJ.out.mono ?_;rintro e w' ⟨rfl,rfl⟩))
 go_end0
 exact⟨rfl,H2.out⟩
theorem aeh {w:World} {sb:Nat} {z:List UInt8} {fv:Value} (hs:η w sb 269 (iG 1 0 z)) :
 ς 165 #[.pointer (some ⟨sb,0,none⟩),fv] w fun e w'=>e=ώ (.tuple #[])∧w'=w:=by
 have wJ:=δ (Pu ⟨sb,0,none⟩ true w (hs.cell 0));have hnot:∀(x:Bool) (w:World),(Op.unary .not (.bool x)).run prog w=.ok (.bool (!x)) w:=fun _ _=>rfl
 clear hs;go_enter func165,ntmps165
 go_wp2_with (first
  |(go_at_call 213
    refine wJ.out.mono ?_;rintro e w' ⟨rfl,rfl⟩))
 go_end0
 exact⟨rfl,rfl⟩
end
end Go.Proofs.YtbhjgfibhegddaaGreat
