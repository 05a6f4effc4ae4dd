/-
  Parts of the proof of VaultPlays: InA, Ref11, InB, InC, VatK, VatL, VatM, VatN.
-/
import Derived.Test.YtbhjgfibhegddaaGreatQVaultPlays16
import Derived.BigQuiet
import Derived.Outline
set_option maxRecDepth 100000
set_option maxHeartbeats 16000000
namespace Go.Proofs.YtbhjgfibhegddaaGreat
abbrev aa8:=@Go.DataW.trod_struct
abbrev Ba:=@Go.DataW.trod_int
abbrev J6:=@Go.DataW.trod_string
abbrev J7:=@List.all_toArray
abbrev Bb:=@List.all_nil
abbrev Ul:=@Nat.le_of_ble_eq_true
abbrev aa9:=@Nat.eq_zero_of_not_pos
abbrev Um:=@List.mem_flatten
open Tryz
section
open Go Go.RowKit
def nQ (w:World) (k:Nat) (v:Value) (cs:List (List Value)):Prop :=
 ∃A cap,v=.slice A cs.length cap∧cs.length≤cap∧cs.length≤9223372036854775807∧(0<cs.length→∃b off cur t fr,A=some ⟨b,off,none⟩∧w.heap[b]? = some (.cells cur t fr)∧∀i c,cs[i]? = some c→∀j u,c[j]? = some u→cur[off+i*k+j]? = some u)
section
variable {w w':World} {k:Nat} {v:Value} {cs:List (List Value)}
theorem nQ.still (h:nQ w k v cs) (hu:υ w w'):nQ w' k v cs:=by
 obtain⟨A,cap,h1,h2,h3,h4⟩:=h;refine⟨A,cap,h1,h2,h3,fun h0=>?_⟩;obtain⟨b,off,cur,t,fr,e1,e2,e3⟩:=h4 h0;exact⟨b,off,cur,t,fr,e1,(hu.block b (ng.1 e2).1 (fun e=>e)).trans e2,e3⟩
theorem nQ.open_ (h:nQ w k v cs):∃A cap b off,v=.slice A cs.length cap∧cs.length≤cap∧cs.length≤9223372036854775807∧(0<cs.length→A=some ⟨b,off,none⟩) ∧
 ∀i c,cs[i]? = some c→∀j u,c[j]? = some u→w.cell? ⟨b,off+i*k+j,none⟩=some u:=by
 obtain⟨A,cap,h1,h2,h3,h4⟩:=h;by_cases h0:0<cs.length
 ·obtain⟨b,off,cur,t,fr,e1,e2,e3⟩:=h4 h0
  refine⟨A,cap,b,off,h1,h2,h3,fun _=>e1,fun i c hc j u hj=>?_⟩;rw[Di w b _ cur t fr e2];exact e3 i c hc j u hj
 ·refine⟨A,cap,0,0,h1,h2,h3,fun h=>absurd h h0,fun i c hc=>?_⟩
  have:=(kT.1 hc).1;omega
theorem nQ.row (h:nQ w k v cs) (hl:cs.length≤1000000):au w gd k v cs:=by
 obtain⟨A,cap,h1,h2,h3,h4⟩:=h;refine⟨A,cap,h1,h2,hl,fun h0=>?_⟩;obtain⟨b,off,cur,t,fr,e1,e2,e3⟩:=h4 h0;exact⟨b,off,cur,t,fr,e1,e2,fun e=>absurd rfl e,e3⟩
theorem nQ.lt (h:nQ w k v cs) (h0:0<cs.length):∀q,v.ownBlock=some q→q<w.heap.size:=by
 obtain⟨A,cap,h1,h2,h3,h4⟩:=h;obtain⟨b,off,cur,t,fr,e1,e2,e3⟩:=h4 h0;intro q hq;rw[h1,e1] at hq;have:b=q:=by simpa [Value.ownBlock] using hq
 subst this;exact(ng.1 e2).1
end
def zI (n:Int):Prop:=-9223372036854775808≤n∧n≤9223372036854775807
structure BK (w:World) (v:Value) (l:List cT):Prop where
 rows:nQ w 3 v (l.map bU)
 small:∀o ∈ l,o.path.length≤9223372036854775807∧o.value.length≤9223372036854775807
structure BL (w:World) (v:Value) (l:List ai):Prop where
 rows:nQ w 2 v (l.map bz)
 small:∀p ∈ l,p.1.length≤9223372036854775807∧p.2.length≤9223372036854775807
structure zm (w:World) (mv:Value) (m:MetaM):Prop where
 rows:nQ w 2 mv (m.aW.map ct)
 small:∀x ∈ m.aW,x.name.length≤9223372036854775807
 bu:m.bu.length≤9223372036854775807
 role:zI m.role
 seen:zI m.seen
 aG:zI m.aG
structure GN (w:World) (ov:Value) (b:bL):Prop where
 ops:BK w ov b.ops
 index:zI b.index
 θ:zI b.θ
def PU (l:List cT):Prop:=l.length≤100∧∀o ∈ l,o.path.length≤1000∧o.value.length≤1000
def PV (l:List ai):Prop:=l.length≤200∧∀p ∈ l,p.1.length≤1000∧p.2.length≤1000
def Gs (m:MetaM):Prop:=m.aW.length≤20∧m.bu.length≤500∧∀x ∈ m.aW,x.name.length≤500
def Gf (Q:Prop) (w:World) (e:Ending) (w':World):Prop:=∃b,e=ώ (.bool b)∧υ w w'∧(b=false→Q)
theorem BK.still {w w':World} {v:Value} {l:List cT} (h:BK w v l) (hu:υ w w'):BK w' v l:=⟨h.rows.still hu,h.small⟩
theorem BL.still {w w':World} {v:Value} {l:List ai} (h:BL w v l) (hu:υ w w'):BL w' v l:=⟨h.rows.still hu,h.small⟩
theorem zm.still {w w':World} {v:Value} {m:MetaM} (h:zm w v m) (hu:υ w w'):zm w' v m := { h with rows:=h.rows.still hu }
theorem GN.still {w w':World} {v:Value} {b:bL} (h:GN w v b) (hu:υ w w'):GN w' v b:=⟨h.ops.still hu,h.index,h.θ⟩
theorem ZM {P:Prop} (h:P:=by
 have hwk:IntKind.i64.wrap ((k:Int)+1)=(k:Int)+1:=bX _ oM;have HP:=gU iM AD hr hks hk hlt;have j1:(k:Int)<(l.length:Int):=oM;clear hrow hP hQ hks hr;by_cases g1:(1000:Int)<(P.size:Int)
 ·clear iM AD
  go_wp2_with fail
  go_ret
  exact⟨true,rfl,ζ.refl _ _,sM⟩
 ·by_cases g2:(1000:Int)<(Q.size:Int)
  ·clear iM AD
   go_wp2_with fail
   go_ret
   exact⟨true,rfl,ζ.refl _ _,sM⟩
  ·clear iM AD
   go_wp2_with fail
   go_roundw
   case rel =>
    refine⟨k+1,oM,sM,trivial,fun j h hj=>?_⟩;by_cases e:j=k
    ·subst e
     rw[HP.out.2.2.1];have h1:=HP.out.1;have h2:=HP.out.2.1;omega
    ·exact se.out j h oM
   case measure=>simp[intOf]<;>omega):P:=h
theorem ZN {P:Prop} (h:P:=by
 have j1:¬((k:Int)<(l.length:Int)):=oM;go_wp2_with fail
 go_ret
 refine⟨false,rfl,ζ.refl _ _,fun _=>⟨oM,fun o ho=>?_⟩⟩;obtain⟨j,hj,rfl⟩:=sL.1 ho;exact se.out j hj oM):P:=h
theorem ac4 {w:World} {v:Value} {l:List cT} (hA:BK w v l) :
 ς 39 #[v] w fun e w'=>Gf (PU l) w e w':=by
 obtain⟨A,cap,bA,off,rfl,hcap,hm,mX,jJ⟩:=hA.rows.open_;rw[bp] at hm mX hcap ⊢;have HC:=δ jJ;have HK:=δ hA.small;clear jJ hA;go_enter func39,ntmps39
 by_cases hn:100<l.length
 ·have hn':(100:Int)<(l.length:Int):=oM
  go_wp2_with fail
  go_ret
  exact⟨true,rfl,ζ.refl _ _,sM⟩
 have hn':¬(100:Int)<(l.length:Int):=oM;go_wp2_with fail
 go_loopw [3] (fun i wr=>∃k:Nat,k≤l.length∧i=ι k∧wr=w∧∀j (h:j<l.length),j<k→l[j].path.length≤1000∧l[j].value.length≤1000) (fun i _=>l.length - (intOf i).toNat)
 case atStart=>exact⟨0,oM,rfl,rfl,fun j h hj=>by omega⟩
 case round =>
  obtain⟨k,hk,rfl,rfl,hall⟩:=hrel;have se:=δ hall;clear hall;by_cases hlt:k<l.length
  ·obtain rfl:=mX oM
   obtain⟨r,hr⟩:=κ (l[k]);have hrow:(l.map bU)[k]? = some (bU r):=by rw[gu,bD hlt,hr];rfl
   have hks:=HK.out r (hr ▸ eM hlt);obtain⟨P,hP⟩:=κ (str r.path);obtain⟨Q,hQ⟩:=κ (str r.value);have iM:P.size=r.path.length:=by rw[← hP,bf]
   have AD:Q.size=r.value.length:=by rw[← hQ,bf]
   have cP:wr.cell? ⟨bA,off+k*3+1,none⟩=some (.string P):=HC.out k _ hrow 1 (.string P) (by rw[← hP];rfl)
   have cQ:wr.cell? ⟨bA,off+k*3+2,none⟩=some (.string Q):=HC.out k _ hrow 2 (.string Q) (by rw[← hQ];rfl)
   exact ZM
  ·exact ZN
theorem ac5 {w:World} {v:Value} {l:List ai} (hA:BL w v l) :
 ς 40 #[v] w fun e w'=>Gf (PV l) w e w':=by
 obtain⟨A,cap,bA,off,rfl,hcap,hm,mX,jJ⟩:=hA.rows.open_;rw[bp] at hm mX hcap ⊢;have HC:=δ jJ;have HK:=δ hA.small;clear jJ hA;go_enter func40,ntmps40
 by_cases hn:200<l.length
 ·have hn':(200:Int)<(l.length:Int):=oM
  go_wp2_with fail
  go_ret
  exact⟨true,rfl,ζ.refl _ _,sM⟩
 have hn':¬(200:Int)<(l.length:Int):=oM;go_wp2_with fail
 go_loopw [3] (fun i wr=>∃k:Nat,k≤l.length∧i=ι k∧wr=w∧∀j (h:j<l.length),j<k→l[j].1.length≤1000∧l[j].2.length≤1000) (fun i _=>l.length - (intOf i).toNat)
 case atStart=>exact⟨0,oM,rfl,rfl,fun j h hj=>by omega⟩
 case round =>
  obtain⟨k,hk,rfl,rfl,hall⟩:=hrel;have se:=δ hall;clear hall;by_cases hlt:k<l.length
  ·obtain rfl:=mX oM
   obtain⟨r,hr⟩:=κ (l[k]);have hrow:(l.map bz)[k]? = some (bz r):=by rw[gu,bD hlt,hr];rfl
   have hks:=HK.out r (hr ▸ eM hlt);obtain⟨P,hP⟩:=κ (str r.1);obtain⟨Q,hQ⟩:=κ (str r.2);have iM:P.size=r.1.length:=by rw[← hP,bf]
   have AD:Q.size=r.2.length:=by rw[← hQ,bf]
   have cP:wr.cell? ⟨bA,off+k*2,none⟩=some (.string P):=HC.out k _ hrow 0 (.string P) (by rw[← hP];rfl)
   have cQ:wr.cell? ⟨bA,off+k*2+1,none⟩=some (.string Q):=HC.out k _ hrow 1 (.string Q) (by rw[← hQ];rfl)
   exact ZM
  ·exact ZN
theorem acn {w:World} {v:Value} {m:MetaM} (hA:zm w v m) :
 ς 38 #[.agg (dy m v)] w fun e w'=>Gf (Gs m) w e w':=by
 obtain⟨l,hl⟩:=κ m.aW;obtain⟨S,hS⟩:=κ (str m.bu);have mY:S.size=m.bu.length:=by rw[← hS,bf]
 have hSm:S.size≤9223372036854775807:=by rw[mY];exact hA.bu
 have om:=hA.rows;have gD:=hA.small;rw[hl] at om gD;obtain⟨C,hC⟩:=κ (dy m v);obtain⟨c,hc⟩:=κ w.heap.size;rw[hC];have rH:=τ hc hC;clear hc hC;go_enter func38,ntmps38
 go_upto_region 1 with fail
 rw[rH.out.1];generalize hw1:World.alloc _ _=w1;have aM:η w1 c 50 (dy m v):=by rw[rH.out.2,← hw1,← rH.out.1];exact η.new w _ _
 have ax:υ w w1:=by rw[← hw1];exact(ζ.refl _ w).alloc _
 obtain⟨A,cap,bA,off,rfl,hcap,hm,mX,jJ⟩:=(om.still ax).open_;rw[bp] at hm mX hcap;unfold dy at aM;rw[bp,hS] at aM;have c3:=aM.cell 3;have c4:=aM.cell 4;simp only[FC,pP,oH] at c3 c4;have HC:=δ jJ;have HK:=δ gD;have HM:=aj hl mY ax;clear jJ gD om hA hS hw1 aM mY hl ax;by_cases hn:20<l.length
 ·have hn':(20:Int)<(l.length:Int):=oM
  go_wp2_with fail
  go_ret
  exact⟨true,rfl,HM.out.2.2,sM⟩
 have hn':¬(20:Int)<(l.length:Int):=oM;by_cases hs:(500:Int)<(S.size:Int)
 ·go_wp2_with fail
  go_ret
  exact⟨true,rfl,HM.out.2.2,sM⟩
 go_wp2_with fail
 go_loopw [3] (fun i wr=>∃k:Nat,k≤l.length∧i=ι k∧wr=w1∧∀j (h:j<l.length),j<k→l[j].name.length≤500) (fun i _=>l.length - (intOf i).toNat)
 case atStart=>exact⟨0,oM,rfl,rfl,fun j h hj=>by omega⟩
 case round =>
  obtain⟨k,hk,rfl,rfl,hall⟩:=hrel;have se:=δ hall;clear hall;by_cases hlt:k<l.length
  ·obtain rfl:=mX oM
   obtain⟨r,hr⟩:=κ (l[k]);have hrow:(l.map ct)[k]? = some (ct r):=by rw[gu,bD hlt,hr];rfl
   have hks:=HK.out r (hr ▸ eM hlt);obtain⟨P,hP⟩:=κ (str r.name);have iM:P.size=r.name.length:=by rw[← hP,bf]
   have cP:wr.cell? ⟨bA,off+k*2,none⟩=some (.string P):=HC.out k _ hrow 0 (.string P) (by rw[← hP];rfl)
   have hwk:IntKind.i64.wrap ((k:Int)+1)=(k:Int)+1:=bX _ oM;have HP:=cx iM hr hks hk hlt;have j1:(k:Int)<(l.length:Int):=oM;clear hrow hP hks hr;by_cases g1:(500:Int)<(P.size:Int)
   ·clear iM
    go_wp2_with fail
    go_ret
    exact⟨true,rfl,HM.out.2.2,sM⟩
   ·clear iM
    go_wp2_with fail
    go_roundw
    case rel =>
     refine⟨k+1,oM,sM,trivial,fun j h hj=>?_⟩;by_cases e:j=k
     ·subst e
      rw[HP.out.2.1];have h1:=HP.out.1;omega
     ·exact se.out j h oM
    case measure=>simp[intOf]<;>omega
  ·have j1:¬((k:Int)<(l.length:Int)):=oM
   go_wp2_with fail
   go_ret
   refine⟨false,rfl,HM.out.2.2,fun _=>⟨by rw[HM.out.1];omega,by have:=HM.out.2.1;omega,fun x hx=>?_⟩⟩;rw[HM.out.1] at hx;obtain⟨j,hj,rfl⟩:=sL.1 hx;exact se.out j hj oM
theorem zn (s:ByteArray):str s.data.toList=s:=by
 obtain⟨d⟩:=s;simp[str]
theorem WW (s:ByteArray) (hs:s.size≤1000000) (w:World) :
 ς 144 #[.string s] w fun e w'=>e=ώ (.bool (nx s.data.toList))∧w=w':=by
 have hlen:s.data.toList.length=s.size:=by simp
 obtain⟨B,hB⟩:=κ (nx s.data.toList);rw[hB];have HB:=τ hB hlen;clear hB hlen;go_enter func144,ntmps144
 by_cases h1:(s.size:Int)<1
 ·obtain rfl:B=false:=by rw[← HB.out.1,FP,HB.out.2];simp;omega
  go_wp2_with fail
  go_ret
  exact⟨rfl,rfl⟩
 by_cases h2:(8:Int)<(s.size:Int)
 ·obtain rfl:B=false:=by rw[← HB.out.1,FP,HB.out.2];simp;omega
  go_wp2_with fail
  go_ret
  exact⟨rfl,rfl⟩
 go_wp2_with fail
 go_loop [3] (fun i=>∃k:Nat,k≤s.size∧i=ι (k:Int)∧(s.data.toList.take k).all letter=true) (fun i=>s.size - (intOf i).toNat)
 case atStart=>exact⟨0,oM,rfl,rfl⟩
 case round =>
  obtain⟨k,hk,rfl,hall⟩:=hrel;have HA:=δ hall;clear hall;by_cases hlt:k<s.size
  ·have j1:(k:Int)<(s.size:Int):=oM
   have mN:=pV s k hlt;by_cases g1:(s[k]).toNat<97
   ·exact LC
   ·by_cases g2:122<(s[k]).toNat
    ·exact LC
    ·have HL:=δ (Ke (by rw[HB.out.2];exact hlt) HA.out (by unfold letter;rw[mN];simp;omega))
     clear mN;exact LD
  ·obtain rfl:k=s.size:=oM
   obtain rfl:B=true:=by
    have ha:=HA.out;rw[dH (by rw[HB.out.2];omega)] at ha;rw[← HB.out.1,FP,ha,HB.out.2];simp
    omega
   go_wp2_with fail
   go_ret
   exact⟨rfl,rfl⟩
theorem ag' {A:Option Addr} {cap b off:Nat} {l:List gW} {w:World} (hA:0<l.length→A=some ⟨b,off,none⟩) (hb:wm w b off l) (hl:l.length≤1000000) (hs:∀m ∈ l,m.name.length≤1000000) :
 ς 85 #[.slice A l.length cap] w fun e w'=>e=ώ (.bool (pS l))∧υ w w':=by
 obtain⟨B,hB⟩:=κ (pS l);rw[hB];have HB:=δ hb;have HS:=τ hs hB;clear hb hs hB;go_enter func85,ntmps85
 by_cases h1:(l.length:Int)<1
 ·obtain rfl:B=false:=by rw[← HS.out.2];unfold pS;simp;omega
  go_wp2_with fail
  go_ret
  exact⟨rfl,ζ.refl _ _⟩
 by_cases h2:(4:Int)<(l.length:Int)
 ·obtain rfl:B=false:=by rw[← HS.out.2];unfold pS;simp;omega
  go_wp2_with fail
  go_ret
  exact⟨rfl,ζ.refl _ _⟩
 obtain rfl:=hA oM;go_wp2_with fail
 go_loopw [3,4] (fun i _ wr=>∃k:Nat,k≤l.length∧i=ι (k:Int)∧υ w wr∧mL [] (l.take k)=true) (fun i _ _=>l.length - (intOf i).toNat)
 case atStart=>exact⟨0,oM,rfl,ζ.refl _ _,rfl⟩
 case round =>
  obtain⟨k,hk,rfl,hU,hE⟩:=hrel;by_cases hlt:k<l.length
  ·have bY:=VH hlt hE
   have jl:mL [] (l.take (k+1))=false→B=false:=fun h=>by
    rw[← HS.out.2];unfold pS;rw[Vh h];rfl
   have hsz:=HS.out.1 _ (eM hlt);have jJ:∀j (hj:j<l.length),∀W,υ w W→W.cell? ⟨b,off+j*2,none⟩=some (.string (str l[j].name)):=fun j hj W hW=>by
    have h0:=HB.out j hj 0 (.string (str l[j].name)) rfl;rw[← h0];exact Fy (hW.block b (NG _ _ h0) (fun e=>e))
   obtain⟨o,ho⟩:=κ (l[k]);rw[ho] at bY hsz;obtain⟨P,hP⟩:=κ (str o.name);have EF:=jJ k hlt wr hU;rw[ho,hP] at EF;have hnm:=fun W=>WW P (by rw[← hP,bf];exact hsz) W
   rw[show P.data.toList=o.name by rw[← hP,bS]] at hnm;obtain⟨N,hN⟩:=κ (nx o.name);rw[hN] at hnm bY;have Aq:=δ hnm;have HX:=o_ bY jl hP hE jJ hU ho;have j1:(k:Int)<(l.length:Int):=oM;have hwk:IntKind.i64.wrap ((k:Int)+1)=(k:Int)+1:=bX _ oM;clear bY jl hsz hnm hE hP hN ho jJ hU;cases N
   ·obtain rfl:=HX.out.2.1 (by rw[HX.out.1];rfl)
    go_wp2_with (first
     |(go_at_call 144;refine(Aq.out _).mono ?_;rintro e w2 ⟨rfl,rfl⟩))
    go_ret
    exact⟨rfl,HX.out.2.2.2.2.2.1⟩
   ·go_upto_region 9 with (first
     |(go_at_call 144;refine(Aq.out _).mono ?_;rintro e w2 ⟨rfl,rfl⟩))
    go_loopw [4] (fun i w2=>∃j:Nat,j≤k∧i=ι (j:Int)∧υ w w2∧(l.take j).any (fun x=>decide (x.name=o.name))=false) (fun i _=>k - (intOf i).toNat)
    case atStart=>exact⟨0,oM,rfl,HX.out.2.2.2.2.2.1,rfl⟩
    case round =>
     obtain⟨j,hj,rfl,π,hF⟩:=hrel;by_cases hjk:j<k
     ·have cj:=HX.out.2.2.2.2.1 j oM _ π
      have ck:=HX.out.2.2.2.2.1 k hlt _ π;rw[HX.out.2.2.2.2.2.2,HX.out.2.2.1] at ck;obtain⟨x,hx⟩:=κ (l[j]'oM);rw[hx] at cj;obtain⟨Q,hQ⟩:=κ (str x.name);rw[hQ] at cj;have hcmp:(Q.toList == P.toList)=decide (x.name=o.name):=by rw[← hQ,← HX.out.2.2.1,Wm]
      have hnext:(l.take (j+1)).any (fun y=>decide (y.name=o.name))=decide (x.name=o.name):=by
       rw[gX oM,aa6,hF,hx];simp
      have j2:(j:Int)<(k:Int):=oM;have j3:(j:Int)<(l.length:Int):=oM;have hwj:IntKind.i64.wrap ((j:Int)+1)=(j:Int)+1:=bX _ oM;obtain⟨D,hD⟩:=κ (decide (x.name=o.name));rw[hD] at hcmp hnext;have HN:=aj hnext π hj;clear hnext π hF hx hQ hD;cases D
      ·go_wp2_with fail
       go_quiet (fail)
       go_wp2_with fail
       go_roundw
       case rel=>exact⟨j+1,oM,sM,HN.out.2.1.drewN _,HN.out.1⟩
       case measure=>simp[intOf]<;>omega
      ·have bn:B=false:=HX.out.2.1 (by
        rw[HX.out.1];have h1:(l.take k).any (fun y=>decide (y.name=o.name))=true:=by
         have h2:=HN.out.1;rw[aa7] at h2 ⊢;obtain⟨y,hy,hy2⟩:=h2;exact⟨y,(List.take_sublist_take_left oM).subset hy,hy2⟩
        rw[h1];rfl)
       subst bn;go_wp2_with fail
       go_quiet (fail)
       go_wp2_with fail
       go_ret
       exact⟨rfl,HN.out.2.1.drewN _⟩
     ·obtain rfl:j=k:=oM
      have j2:¬((j:Int)<(j:Int)):=oM;have HF:=τ hF π;clear hF π;go_wp2_with fail
      go_roundw
      case rel=>exact⟨j+1,oM,sM,HF.out.2,by rw[HX.out.1,HF.out.1];rfl⟩
      case measure=>simp[intOf]<;>omega
  ·obtain rfl:k=l.length:=oM
   obtain rfl:B=true:=by
    rw[rO] at hE;rw[← HS.out.2];unfold pS;rw[hE];simp
    omega
   have HU:=δ hU;clear hU hE;go_wp2_with fail
   go_ret
   exact⟨rfl,HU.out⟩
theorem aiL (s:ByteArray) (hs:s.size≤1000000) (w:World) :
 ς 242 #[.string s] w fun e w'=>e=ώ (.bool (sY s.data.toList))∧w=w':=by
 have hlen:s.data.toList.length=s.size:=by simp
 obtain⟨p,hp⟩:∃p:UInt8→Bool,(fun c:UInt8=>decide (c≠0∧c≠47))=p:=⟨_,rfl⟩;have hpx:∀c:UInt8,p c=decide (c≠0∧c≠47):=fun c=>by rw[← hp]
 have hok:sY s.data.toList=(decide (1≤s.data.toList.length∧s.data.toList.length≤24) && s.data.toList.all p):=by rw[← hp];rfl
 obtain⟨B,hB⟩:=κ (sY s.data.toList);rw[hB,hlen] at hok;rw[hB];have HB:=aj hok hlen hpx;clear hB hlen hok hp hpx;go_enter func242,ntmps242
 by_cases h1:(s.size:Int)<1
 ·obtain rfl:B=false:=by rw[HB.out.1];simp;omega
  go_wp2_with fail
  go_ret
  exact⟨rfl,rfl⟩
 by_cases h2:(24:Int)<(s.size:Int)
 ·obtain rfl:B=false:=by rw[HB.out.1];simp;omega
  go_wp2_with fail
  go_ret
  exact⟨rfl,rfl⟩
 go_wp2_with fail
 go_loop [3] (fun i=>∃k:Nat,k≤s.size∧i=ι (k:Int)∧(s.data.toList.take k).all p=true) (fun i=>s.size - (intOf i).toNat)
 case atStart=>exact⟨0,oM,rfl,rfl⟩
 case round =>
  obtain⟨k,hk,rfl,hall⟩:=hrel;have HA:=δ hall;clear hall;by_cases hlt:k<s.size
  ·have j1:(k:Int)<(s.size:Int):=oM
   have mN:=pV s k hlt;have e0:((s[k].toNat:Int) == 0)=decide (s[k]=0):=by
    rw[vH,kV,dR];exact⟨fun h=>ud.1 (by have:(0:UInt8).toNat=0:=rfl;omega),fun h=>by rw[h];rfl⟩
   have e47:((s[k].toNat:Int) == 47)=decide (s[k]=47):=by
    rw[vH,kV,dR];exact⟨fun h=>ud.1 (by have:(47:UInt8).toNat=47:=rfl;omega),fun h=>by rw[h];rfl⟩
   by_cases g1:s[k]=0
   ·rw[fe g1] at e0
    have Ii:B=false:=by
     rw[HB.out.1,all_false (k:=k) (by rw[HB.out.2.1];exact hlt) (by rw[HB.out.2.2,mN,g1];rfl),Bool.and_false]
    subst Ii;clear mN e47 g1;go_wp2_with fail
    go_ret
    exact⟨rfl,rfl⟩
   ·rw[gN g1] at e0
    by_cases g2:s[k]=47
    ·rw[fe g2] at e47
     have Ii:B=false:=by
      rw[HB.out.1,all_false (k:=k) (by rw[HB.out.2.1];exact hlt) (by rw[HB.out.2.2,mN,g2];rfl),Bool.and_false]
     subst Ii;clear mN g1 g2;go_wp2_with fail
     go_ret
     exact⟨rfl,rfl⟩
    ·have HL:=δ (Ke (by rw[HB.out.2.1];exact hlt) HA.out (by rw[HB.out.2.2,mN];simp[g1,g2]))
     rw[gN g2] at e47;clear mN g1 g2;exact LD
  ·obtain rfl:k=s.size:=oM
   obtain rfl:B=true:=by
    have ha:=HA.out;rw[dH (by rw[HB.out.2.1];omega)] at ha;rw[HB.out.1,ha];simp
    omega
   go_wp2_with fail
   go_ret
   exact⟨rfl,rfl⟩
end
section
open Go Go.RowKit Go.ChangeShapes Go.WideShapes Go.ChangeAt Go.Deep
theorem DR (s:ByteArray):s.data.toList.length=s.size:=by simp
section
variable {H:Type} {enc:TypeId × Value→H} {w:World} {base:Nat} {spare:Nat→Bool} {held:Bool}
theorem ac6 {b i:Nat} {u:Value} (h:w.cell? ⟨b,i,none⟩=some u):∃cur t fr,w.heap[b]? = some (.cells cur t fr)∧cur[i]? = some u:=by
 unfold World.cell? at h;simp only at h
 split at h
 ·rename_i cs t fr hb
  exact⟨cs,t,fr,hb,by simpa using h⟩
 ·simp at h
theorem Lc {P:Program} {t e:TypeId} {k:Nat} {fuel:Nat} {v:Value} {x:DataW H × List MemPlace} (R:List Value→Prop) (ht:P.underlying t=some (.slice e)) (hk:P.cellsOf e=k) (I6:0<k)
 (hR:∀n cs y,DataW.trod enc P w base spare held n e cs=some y→R cs) (h:DataW.trod enc P w base spare held fuel t [v]=some x):∃cs,nQ w k v cs∧∀c ∈ cs,R c:=by
 rcases open_slice ht h with ⟨hcs,_⟩ | ⟨a,len,cap,m,n,D,Pl,hcs,_,hl,hm,IJ,_,hi⟩
 ·simp only[sJ,sG] at hcs
  subst hcs;exact⟨[],⟨none,0,rfl,sM,sM,fun h=>by simp at h⟩,sM⟩
 ·simp only[sJ,sG] at hcs
  subst hcs;have Aa:len≤m:=by rw[IJ];split<;>omega
  have each:∀i,i<len→∃c:List Value,c.length=k∧R c∧∀j,j<k→w.cell? (a.add (i*k+j))=c[j]? := by
   intro i hil;obtain⟨cs',hc,hy⟩:=hi i oM;rw[hk] at hc;obtain⟨_,cu,hat⟩:=World.cells?_some hc;refine⟨cs',cu,hR _ _ _ hy,fun j hj=>?_⟩;rw[← Go.Deep.add_add];exact hat j hj
  obtain⟨cs,h1,h2⟩:=ad9 (fun i (c:List Value)=>c.length=k∧R c∧∀j,j<k→w.cell? (a.add (i*k+j))=c[j]?) len each;refine⟨cs,⟨some a,cap,by rw[h1],oM,by have:maxLen=9223372036854775807:=rfl;omega,fun h0=>?_⟩,fun c hc=>?_⟩
  ·obtain⟨b,off,sp⟩:=a
   obtain⟨l0,-,c0⟩:=h2 0 h0;have L5:=c0 0 I6;rw[bD oM] at L5;have hsp:sp=none:=by simpa [Addr.add] using World.cell?_spot L5
   subst hsp;rw[Vf] at L5;obtain⟨cur,t',fr,hb,-⟩:=ac6 L5;refine⟨b,off,cur,t',fr,rfl,hb,fun i c hc j u hj=>?_⟩;have hil:=(kT.1 hc).1;have hie:=(kT.1 hc).2;obtain⟨li,-,ci⟩:=h2 i hil;rw[hie] at li ci;have hjl:=(kT.1 hj).1;have:=ci j oM;rw[Vf,Di w b _ cur t' fr hb,hj] at this;rw[Fq];exact this
  ·obtain⟨i,hi,rfl⟩:=sL.1 hc
   exact(h2 i hi).2.1
theorem Bu {n:Int} (h:(Lit.int .i64 n).wf=true):zI n:=afF h
theorem X_ {n:Int} (h:(Lit.int .u8 n).wf=true):∃k:UInt8,n=(k.toNat:Int):=by
 simp only[Lit.wf,gY,dR] at h;have h1:IntKind.u8.min=0:=rfl;have h2:IntKind.u8.max=255:=rfl;refine⟨UInt8.ofNat n.toNat,?_⟩;rw[UInt8.toNat_ofNat'];omega
theorem F4 {P:Program} {t:TypeId} {fs:Array Field} {fuel:Nat} {cs:List Value} {x:DataW H × List MemPlace} (ht:P.underlying t=some (.struct fs)) (hone:oneCellFields P fs=true) (hC:P.cellsOf t=fs.size) (h:DataW.trod enc P w base spare held fuel t cs=some x) :
 cs.length=fs.size∧∃n,∀(j:Nat) (f:Field),fs[j]? = some f→∃u y,cs[j]? = some u∧DataW.trod enc P w base spare held n f.type [u]=some y:=by
 obtain⟨xs,n,_,_,hl,hlen,hf⟩:=aa8 ht h;refine⟨by rw[hl,hC],n,fun j f hj=>?_⟩;have hjl:j<fs.size:=(ng.1 hj).1;obtain⟨ho,hk⟩:=hone_of hone j f hj;have h1:=hf j f hj;rw[ho,hk,ua oM] at h1;rw[bD (show j<xs.length by omega)] at h1;exact⟨cs[j]'oM,_,bD oM,h1⟩
theorem aiM {fuel:Nat} {cs:List Value} {x:DataW H × List MemPlace} (h:DataW.trod enc prog w base spare held fuel 32 cs=some x):∃o:cT,cs=bU o∧o.path.length≤9223372036854775807∧o.value.length≤9223372036854775807:=by
 obtain⟨hl,n,hf⟩:=F4 underlying32 kR kR h;obtain⟨u0,y0,c0,t0⟩:=hf 0 _ rfl;obtain⟨u1,y1,c1,t1⟩:=hf 1 _ rfl;obtain⟨u2,y2,c2,t2⟩:=hf 2 _ rfl;obtain⟨n0,q0,_,w0⟩:=Ba underlying5 t0;obtain⟨s1,q1,_,w1⟩:=J6 underlying9 t1;obtain⟨s2,q2,_,w2⟩:=J6 underlying9 t2;simp only[sJ,sG] at q0 q1 q2;subst q0 q1 q2;obtain⟨k,rfl⟩:=X_ w0;match cs,hl with
 | [a,b,c],_ =>
   simp only[oH,pP,A_] at c0 c1 c2;subst c0 c1 c2;refine⟨⟨k,s1.data.toList,s2.data.toList⟩,?_,by rw[DR];exact w1,by rw[DR];exact w2⟩;unfold bU;rw[zn,zn]
theorem aha {fuel:Nat} {cs:List Value} {x:DataW H × List MemPlace} (h:DataW.trod enc prog w base spare held fuel 55 cs=some x):∃p:ai,cs=bz p∧p.1.length≤9223372036854775807∧p.2.length≤9223372036854775807:=by
 obtain⟨hl,n,hf⟩:=F4 underlying55 kR kR h;obtain⟨u1,y1,c1,t1⟩:=hf 0 _ rfl;obtain⟨u2,y2,c2,t2⟩:=hf 1 _ rfl;obtain⟨s1,q1,_,w1⟩:=J6 underlying9 t1;obtain⟨s2,q2,_,w2⟩:=J6 underlying9 t2;simp only[sJ,sG] at q1 q2;subst q1 q2;match cs,hl with
 | [b,c],_ =>
   simp only[oH,pP,A_] at c1 c2;subst c1 c2;refine⟨(s1.data.toList,s2.data.toList),?_,by rw[DR];exact w1,by rw[DR];exact w2⟩;unfold bz;rw[zn,zn]
theorem af1 {fuel:Nat} {cs:List Value} {x:DataW H × List MemPlace} (h:DataW.trod enc prog w base spare held fuel 46 cs=some x):∃m:gW,cs=ct m∧m.name.length≤9223372036854775807:=by
 obtain⟨hl,n,hf⟩:=F4 underlying46 kR kR h;obtain⟨u1,y1,c1,t1⟩:=hf 0 _ rfl;obtain⟨u2,y2,c2,t2⟩:=hf 1 _ rfl;obtain⟨s1,q1,_,w1⟩:=J6 underlying9 t1;obtain⟨b2,q2,_⟩:=DataW.trod_bool underlying4 t2;simp only[sJ,sG] at q1 q2;subst q1 q2;match cs,hl with
 | [b,c],_ =>
   simp only[oH,pP,A_] at c1 c2;subst c1 c2;refine⟨⟨s1.data.toList,b2⟩,?_,by rw[DR];exact w1⟩;unfold ct;rw[zn]
theorem KA {β : Type} {row : β → List Value} {Q : β → Prop} {cs:List (List Value)} (h:∀c ∈ cs,∃b,c=row b∧Q b):∃l:List β,cs=l.map row∧∀b ∈ l,Q b:=by
 induction cs with
 | nil=>exact⟨[],rfl,sM⟩
 | cons c r ih =>
   obtain⟨b,hb,hq⟩:=h c sM;obtain⟨l,hl,hql⟩:=ih fun c hc=>h c (by simp[hc])
   refine⟨b::l,by rw[hb,hl];rfl,fun x hx=>?_⟩
   rcases cn.1 hx with rfl | hx
   ·exact hq
   ·exact hql x hx
theorem aia {fuel:Nat} {v:Value} {x:DataW H × List MemPlace} (h:DataW.trod enc prog w base spare held fuel 33 [v]=some x):∃l,BK w v l:=by
 obtain⟨cs,h1,h2⟩:=Lc (k:=3) (fun c=>∃o:cT,c=bU o∧o.path.length≤9223372036854775807∧o.value.length≤9223372036854775807) underlying33 kR oM (fun n cs y hy=>aiM hy) h;obtain⟨l,rfl,hq⟩:=KA h2;exact⟨l,h1,hq⟩
theorem aib {fuel:Nat} {v:Value} {x:DataW H × List MemPlace} (h:DataW.trod enc prog w base spare held fuel 56 [v]=some x):∃l,BL w v l:=by
 obtain⟨cs,h1,h2⟩:=Lc (k:=2) (fun c=>∃o:ai,c=bz o∧o.1.length≤9223372036854775807∧o.2.length≤9223372036854775807) underlying56 kR oM (fun n cs y hy=>aha hy) h;obtain⟨l,rfl,hq⟩:=KA h2;exact⟨l,h1,hq⟩
theorem aic {fuel:Nat} {v:Value} {x:DataW H × List MemPlace} (h:DataW.trod enc prog w base spare held fuel 47 [v]=some x):∃l:List gW,nQ w 2 v (l.map ct)∧∀m ∈ l,m.name.length≤9223372036854775807:=by
 obtain⟨cs,h1,h2⟩:=Lc (k:=2) (fun c=>∃o:gW,c=ct o∧o.name.length≤9223372036854775807) underlying47 kR oM (fun n cs y hy=>af1 hy) h;obtain⟨l,rfl,hq⟩:=KA h2;exact⟨l,h1,hq⟩
theorem ac7 {fuel:Nat} {cs:List Value} {x:DataW H × List MemPlace} (h:DataW.trod enc prog w base spare held fuel 50 cs=some x):∃m mv,cs=(dy m mv).toList∧zm w mv m:=by
 obtain⟨hl,n,hf⟩:=F4 underlying50 kR kR h;obtain⟨u0,y0,c0,t0⟩:=hf 0 _ rfl;obtain⟨u1,y1,c1,t1⟩:=hf 1 _ rfl;obtain⟨u2,y2,c2,t2⟩:=hf 2 _ rfl;obtain⟨u3,y3,c3,t3⟩:=hf 3 _ rfl;obtain⟨u4,y4,c4,t4⟩:=hf 4 _ rfl;obtain⟨n0,q0,_,w0⟩:=Ba underlying3 t0;obtain⟨n1,q1,_,w1⟩:=Ba underlying3 t1;obtain⟨n2,q2,_,w2⟩:=Ba underlying3 t2;obtain⟨l,w3,w3b⟩:=aic t3;obtain⟨s4,q4,_,w4⟩:=J6 underlying9 t4;simp only[sJ,sG] at q0 q1 q2 q4;subst q0 q1 q2 q4;match cs,hl with
 | [a,b,c,d,e],_ =>
   simp only[oH,pP,A_] at c0 c1 c2 c3 c4;subst c0 c1 c2 c3 c4;refine⟨⟨n0,n1,n2,l,s4.data.toList⟩,d,?_,w3,w3b,by rw[DR];exact w4,Bu w0,Bu w1,Bu w2⟩;unfold dy;simp only
   rw[zn]
theorem aem {fuel:Nat} {cs:List Value} {x:DataW H × List MemPlace} (h:DataW.trod enc prog w base spare held fuel 35 cs=some x):∃(b:bL) (ov:Value),cs=[ι b.index,ι b.θ,ov]∧GN w ov b:=by
 obtain⟨hl,n,hf⟩:=F4 underlying35 kR kR h;obtain⟨u0,y0,c0,t0⟩:=hf 0 _ rfl;obtain⟨u1,y1,c1,t1⟩:=hf 1 _ rfl;obtain⟨u2,y2,c2,t2⟩:=hf 2 _ rfl;obtain⟨n0,q0,_,w0⟩:=Ba underlying3 t0;obtain⟨n1,q1,_,w1⟩:=Ba underlying3 t1;obtain⟨l,w2⟩:=aia t2;simp only[sJ,sG] at q0 q1;subst q0 q1;match cs,hl with
 | [a,b,c],_ =>
   simp only[oH,pP,A_] at c0 c1 c2;subst c0 c1 c2;exact⟨⟨n0,n1,l⟩,c,rfl,w2,Bu w0,Bu w1⟩
end
structure kr where
 fM:UInt8
 b:bL
 ov:Value
 m:MetaM
 mv:Value
 l:List ai
 lv:Value
 at_:Int
 ep:Int
def kr.row (a:kr):List Value:=[ϋ (a.fM.toNat:Int),ι a.b.index,ι a.b.θ,a.ov,ι a.m.role,ι a.m.seen,ι a.m.aG,a.mv,.string (str a.m.bu),a.lv,ι a.at_,ι a.ep]
structure kr.In (w:World) (a:kr):Prop where
 CW:GN w a.ov a.b
 met:zm w a.mv a.m
 lI:BL w a.lv a.l
 at_:zI a.at_
 ep:zI a.ep
theorem kr.In.still {w w':World} {a:kr} (h:a.In w) (hu:υ w w'):a.In w':=⟨h.CW.still hu,h.met.still hu,h.lI.still hu,h.at_,h.ep⟩
structure Bo (w:World) (v:Value) (l:List kr):Prop where
 rows:nQ w 12 v (l.map kr.row)
 each:∀a ∈ l,a.In w
section
variable {H:Type} {enc:TypeId × Value→H} {w:World} {base:Nat} {spare:Nat→Bool} {held:Bool}
theorem D3 {P:Program} {t:TypeId} {fs:Array Field} {fuel:Nat} {cs:List Value} {x:DataW H × List MemPlace} (ht:P.underlying t=some (.struct fs)) (h:DataW.trod enc P w base spare held fuel t cs=some x)
 (j:Nat) (f:Field) (hj:fs[j]? = some f) (k:Nat) (hk:P.cellsOf f.type=k) (ty:TypeId) (Nb:f.type=ty) (o:Nat) (ho:f.offset=o):∃n y,DataW.trod enc P w base spare held n ty ((cs.drop o).take k)=some y:=by
 obtain⟨xs,n,_,_,hl,hlen,hf⟩:=aa8 ht h;have h1:=hf j f hj;have hjl:j<xs.length:=by rw[hlen];exact(ng.1 hj).1
 rw[hk,Nb,ho,bD hjl] at h1;exact⟨n,_,h1⟩
theorem af2 {fuel:Nat} {cs:List Value} {x:DataW H × List MemPlace} (h:DataW.trod enc prog w base spare held fuel 65 cs=some x):∃a:kr,cs=a.row∧a.In w:=by
 have hU:=underlying65;obtain⟨xs,n,_,_,hl,-,-⟩:=aa8 hU h;rw[show prog.cellsOf 65=12 by kernel_rfl] at hl;obtain⟨n0,y0,t0⟩:=D3 hU h 0 _ rfl 1 kR 5 rfl 0 rfl;obtain⟨n1,y1,t1⟩:=D3 hU h 1 _ rfl 3 kR 35 rfl 1 rfl;obtain⟨n2,y2,t2⟩:=D3 hU h 2 _ rfl 5 kR 50 rfl 4 rfl;obtain⟨n3,y3,t3⟩:=D3 hU h 3 _ rfl 1 kR 56 rfl 9 rfl;obtain⟨n4,y4,t4⟩:=D3 hU h 4 _ rfl 1 kR 3 rfl 10 rfl;obtain⟨n5,y5,t5⟩:=D3 hU h 5 _ rfl 1 kR 3 rfl 11 rfl;match cs,hl with
 | [c0,c1,c2,c3,c4,c5,c6,c7,c8,c9,c10,c11],_ =>
   simp only[TT,List.drop_zero,AY,Fw] at t0 t1 t2 t3 t4 t5;obtain⟨k0,q0,_,w0⟩:=Ba underlying5 t0;obtain⟨b,ov,q1,w1⟩:=aem t1;obtain⟨m,mv,q2,w2⟩:=ac7 t2;obtain⟨l,w3⟩:=aib t3;obtain⟨k4,q4,_,w4⟩:=Ba underlying3 t4;obtain⟨k5,q5,_,w5⟩:=Ba underlying3 t5;unfold dy at q2;simp only[sJ,sG] at q0 q1 q2 q4 q5;obtain⟨k,rfl⟩:=X_ w0;obtain⟨rfl,rfl,rfl⟩:=q1;obtain⟨rfl,rfl,rfl,rfl,rfl⟩:=q2;subst q0 q4 q5;exact⟨⟨k,b,c3,m,c7,l,c9,k4,k5⟩,rfl,w1,w2,w3,Bu w4,Bu w5⟩
theorem aen {fuel:Nat} {v:Value} {x:DataW H × List MemPlace} (h:DataW.trod enc prog w base spare held fuel 60 [v]=some x):∃l,Bo w v l:=by
 obtain⟨cs,h1,h2⟩:=Lc (k:=12) (fun c=>∃a:kr,c=a.row∧a.In w) underlying60 kR oM (fun n cs y hy=>af2 hy) h;obtain⟨l,rfl,hq⟩:=KA h2;exact⟨l,h1,hq⟩
end
structure kr.Jn (a:kr):Prop where
 ops:PU a.b.ops
 lI:PV a.l
 met:Gs a.m
theorem nQ.Vi {w:World} {k:Nat} {v:Value} {cs:List (List Value)} (h:nQ w k v cs):∃A cap b off,v=.slice A cs.length cap∧cs.length≤cap∧cs.length≤9223372036854775807∧(0<cs.length→A=some ⟨b,off,none⟩) ∧
 ∀w',υ w w'→∀i c,cs[i]? = some c→w'.rangeAt b (off+i*k) c:=by
 obtain⟨A,cap,h1,h2,h3,h4⟩:=h;by_cases h0:0<cs.length
 ·obtain⟨b,off,cur,t,fr,e1,e2,e3⟩:=h4 h0
  refine⟨A,cap,b,off,h1,h2,h3,fun _=>e1,fun w' hu i c hc j u hj=>?_⟩;have e5:=(hu.block b (ng.1 e2).1 (fun e=>e)).trans e2;rw[Di w' b _ cur t fr e5];exact e3 i c hc j u hj
 ·refine⟨A,cap,0,0,h1,h2,h3,fun h=>absurd h h0,fun w' hu i c hc=>?_⟩
  have:=(kT.1 hc).1;omega
def ahb (l:List kr):Prop:=l.length≤60∧∀a ∈ l,a.Jn
theorem aeo {w:World} {v:Value} {l:List kr} (hA:Bo w v l) :
 ς 27 #[v] w fun e w'=>Gf (ahb l) w e w':=by
 obtain⟨A,cap,bA,off,rfl,hcap,hm,mX,jJ⟩:=hA.rows.Vi;rw[bp] at hm mX hcap ⊢;have HR:=δ jJ;have HE:=δ hA.each;clear jJ hA;go_enter func27,ntmps27
 by_cases hn:60<l.length
 ·have hn':(60:Int)<(l.length:Int):=oM
  go_wp2_with fail
  go_ret
  exact⟨true,rfl,ζ.refl _ _,sM⟩
 have hn':¬(60:Int)<(l.length:Int):=oM;go_wp2_with fail
 go_loopw [3] (fun i wr=>∃k:Nat,k≤l.length∧i=ι k∧υ w wr∧∀j (h:j<l.length),j<k→l[j].Jn) (fun i _=>l.length - (intOf i).toNat)
 case atStart=>exact⟨0,oM,rfl,ζ.refl _ _,fun j h hj=>by omega⟩
 case round =>
  obtain⟨k,hk,rfl,hu,hall⟩:=hrel;have se:=τ hall hu;clear hall hu;by_cases hlt:k<l.length
  ·obtain rfl:=mX oM
   obtain⟨x,hx⟩:=κ (l[k]);have hin:∀W,υ w W→x.In W:=fun W hW=>(HE.out x (hx ▸ eM hlt)).still hW
   have hrow:∀W,υ w W→W.rangeAt bA (off+k*12) x.row:=fun W hW=>HR.out W hW k x.row (by rw[gu,bD hlt,hx];rfl)
   have cO:wr.cell? ⟨bA,off+k*12+3,none⟩=some x.ov:=hrow wr se.out.2 3 _ rfl;have hwk:IntKind.i64.wrap ((k:Int)+1)=(k:Int)+1:=bX _ oM;have HX:=cx hin hrow hx hk hlt;have j1:(k:Int)<(l.length:Int):=oM;clear hin hrow hx;go_wp2_with fail
   refine(ac4 (HX.out.1 _ se.out.2).CW.ops).mono ?_;rintro e w2 ⟨b1,rfl,hU,hq1⟩;have lV:=δ (se.out.2.then hU φ);clear hU cO;cases b1
   rotate_left 1
   ·clear hq1
    go_wp2_with fail
    go_ret
    exact⟨true,rfl,lV.out,sM⟩
   have HF:=δ (hq1 rfl);clear hq1;have cL:w2.cell? ⟨bA,off+k*12+9,none⟩=some x.lv:=HX.out.2.1 w2 lV.out 9 _ rfl;go_wp2_with fail
   refine(ac5 (HX.out.1 _ lV.out).lI).mono ?_;rintro e w3 ⟨b2,rfl,hU,i7⟩;have iu:=δ (lV.out.then hU φ);clear hU cL;cases b2
   rotate_left 1
   ·clear i7
    go_wp2_with fail
    go_ret
    exact⟨true,rfl,iu.out,sM⟩
   have HF2:=τ HF.out (i7 rfl);clear i7;obtain⟨S,hS⟩:=κ (str x.m.bu);have c4:w3.cell? ⟨bA,off+k*12+4,none⟩=some (ι x.m.role):=HX.out.2.1 w3 iu.out 4 _ rfl;have c5:w3.cell? ⟨bA,off+k*12+5,none⟩=some (ι x.m.seen):=HX.out.2.1 w3 iu.out 5 _ rfl;have c6:w3.cell? ⟨bA,off+k*12+6,none⟩=some (ι x.m.aG):=HX.out.2.1 w3 iu.out 6 _ rfl;have c7:w3.cell? ⟨bA,off+k*12+7,none⟩=some x.mv:=HX.out.2.1 w3 iu.out 7 _ rfl;have c8:w3.cell? ⟨bA,off+k*12+8,none⟩=some (.string S):=HX.out.2.1 w3 iu.out 8 _ (by rw[← hS];rfl)
   have HM:Hid (ς 38 #[.agg #[ι x.m.role,ι x.m.seen,ι x.m.aG,x.mv,.string S]] w3 fun e w'=>Gf (Gs x.m) w3 e w'):=by
    have:=acn (HX.out.1 _ iu.out).met;unfold dy at this;rw[hS] at this;exact δ this
   clear hS;go_wp2_with fail
   refine HM.out.mono ?_;rintro e w4 ⟨b3,rfl,hU,Ct⟩;have nM:=δ (iu.out.then hU φ);clear hU c4 c5 c6 c7 c8;cases b3
   rotate_left 1
   ·clear Ct
    go_wp2_with fail
    go_ret
    exact⟨true,rfl,nM.out,sM⟩
   have Nc:=δ (Ct rfl);clear Ct;go_wp2_with fail
   go_roundw
   case rel =>
    refine⟨k+1,oM,sM,nM.out,fun j h hj=>?_⟩;by_cases e:j=k
    ·subst e
     rw[HX.out.2.2.1];exact⟨HF2.out.1,HF2.out.2,Nc.out⟩
    ·exact se.out.1 j h oM
   case measure=>simp[intOf]<;>omega
  ·have j1:¬((k:Int)<(l.length:Int)):=oM
   go_wp2_with fail
   go_ret
   refine⟨false,rfl,se.out.2,fun _=>⟨oM,fun o ho=>?_⟩⟩;obtain⟨j,hj,rfl⟩:=sL.1 ho;exact se.out.1 j hj oM
end
section
open Go Go.RowKit
def cR.cl (o:cR) (v:Nat):Nat→Nat→Prop
 | 0,q=>q=v
 | 1,q=>q ∈ o.F
 | 2,q=>q=o.kb
 | 3,q=>q=o.lb
 | 4,q=>o.lv.ownBlock=some q
 | 5,q=>fo o.rb o.rk o.ay q
 | _,q=>o.rv.ownBlock=some q
def rI:Nat→List TypeId
 | 0=>[117]
 | 1=>[151,9]
 | 2=>[209]
 | 3=>[199]
 | 4=>[9]
 | 5=>[186,269]
 | _=>[35]
theorem cR.PW {o:cR} {v q:Nat} (h:o.mut v q):∃i,i≤6∧o.cl v i q:=by
 rcases h with h | h | h | h | h | h | h
 ·exact⟨0,oM,h⟩
 ·exact⟨1,oM,h⟩
 ·exact⟨2,oM,h⟩
 ·exact⟨3,oM,h⟩
 ·exact⟨4,oM,h⟩
 ·exact⟨5,oM,h⟩
 ·exact⟨6,oM,h⟩
theorem cR.qQ {o:cR} {v q:Nat} {i:Nat} (h:o.cl v i q):o.mut v q:=by
 match i,h with
 | 0,h=>exact .inl h
 | 1,h=>exact .inr (.inl h)
 | 2,h=>exact .inr (.inr (.inl h))
 | 3,h=>exact .inr (.inr (.inr (.inl h)))
 | 4,h=>exact .inr (.inr (.inr (.inr (.inl h))))
 | 5,h=>exact .inr (.inr (.inr (.inr (.inr (.inl h)))))
 | n+6,h=>exact .inr (.inr (.inr (.inr (.inr (.inr h)))))
theorem ahc:∀i:Fin 7,∀j:Fin 7,i≠j→(rI i.val).all (fun t => !(rI j.val).contains t)=true∨(i.val=1∧j.val=4)∨(i.val=4∧j.val=1):=dC
theorem aep (i:Nat) (hi:i<7) (j:Nat) (hj:j<7) (h:i≠j) (t:TypeId) (h1:t ∈ rI i) (h2:t ∈ rI j):(i=1∧j=4)∨(i=4∧j=1):=by
 rcases ahc ⟨i,hi⟩ ⟨j,hj⟩ (fun e=>h (aJ Fin.val e)) with e | e
 ·have:=T7.1 e t h1
  simp[h2] at this
 ·exact e
section
variable {w w':World} {p v:Nat} {d d':Dk} {V V':aV} {o o':cR}
theorem aR.Py (h:aR w p v d V o) {i q:Nat} (hi:i≤6) (hq:o.cl v i q):(∃t ∈ rI i,Ty w t q)∨(Mp w q∧(i=1∨i=5∧q=o.rk)):=by
 match i,hi,hq with
 | 0,_,hq=>exact .inl ⟨_,by simp[rI],hq ▸ h.blk.ty⟩
 | 1,_,hq =>
   rcases h.bO.kind hq with e | e | e
   ·exact .inl ⟨_,by simp[rI],e⟩
   ·exact .inl ⟨_,by simp[rI],e⟩
   ·exact .inr ⟨e,.inl rfl⟩
 | 2,_,hq=>exact .inl ⟨_,by simp[rI],hq ▸ h.kept.ty⟩
 | 3,_,hq=>exact .inl ⟨_,by simp[rI],hq ▸ h.log.ty⟩
 | 4,_,hq=>exact .inl ⟨_,by simp[rI],h.recs.ty hq⟩
 | 5,_,hq =>
   rcases h.ring.kind hq with e | e | e
   ·exact .inl ⟨_,by simp[rI],e⟩
   ·exact .inl ⟨_,by simp[rI],e⟩
   ·exact .inr ⟨e ▸ h.ring.map.mp,.inr ⟨rfl,e⟩⟩
 | 6,_,hq=>exact .inl ⟨_,by simp[rI],h.rows.ty hq⟩
theorem aR.apart (h:aR w p v d V o) {i j q:Nat} (hi:i≤6) (hj:j≤6) (hij:i≠j) (h1:o.cl v i q) (h2:o.cl v j q):False:=by
 rcases h.Py hi h1 with ⟨t,e1,e2⟩ | ⟨e1,e2⟩<;>rcases h.Py hj h2 with ⟨t',f1,f2⟩ | ⟨f1,f2⟩
 ·obtain rfl:=e2.inj f2
  rcases aep i oM j oM hij t e1 f1 with ⟨rfl,rfl⟩ | ⟨rfl,rfl⟩
  ·exact h.sep q h2 h1
  ·exact h.sep q h1 h2
 ·exact e2.ji f1
 ·exact f2.ji e1
 ·rcases e2 with rfl | ⟨rfl,e⟩<;>rcases f2 with rfl | ⟨rfl,f⟩
  ·exact hij rfl
  ·subst f;exact h.xp h1
  ·subst e;exact h.xp h2
  ·exact hij rfl
theorem aR.lt (h:aR w p v d V o) {i q:Nat} (hi:i≤6) (hq:o.cl v i q):q<w.heap.size:=by
 rcases h.Py hi hq with ⟨t,-,a,b,e⟩ | ⟨⟨a,b,e⟩,-⟩<;>exact(ng.1 e).1
theorem aR.off (h:aR w p v d V o) {Z:Nat→Prop} {i k m j:Nat} (hz:∀q,Z q→o.cl v i q∨o.cl v k q∨o.cl v m q) (hj:j≤6∧i≤6∧k≤6∧m≤6∧i≠j∧k≠j∧m≠j) {q:Nat} (hq:o.cl v j q):¬Z q:=by
 intro e;obtain⟨a,b,c,f,g1,g2,g3⟩:=hj;rcases hz q e with e | e | e
 ·exact h.apart b a g1 e hq
 ·exact h.apart c a g2 e hq
 ·exact h.apart f a g3 e hq
theorem di.CX (hu:ζ (o.mut v) w w') (n:Nat) (hn:n=w.heap.size) (h1:∀q ∈ o'.F,q ∈ o.F∨n≤q) (h2:o'.kb=o.kb∨n≤o'.kb) (h3:o'.lb=o.lb∨n≤o'.lb) (h4:∀q,o'.lv.ownBlock=some q→o.lv.ownBlock=some q∨n≤q)
 (h5:∀q,fo o'.rb o'.rk o'.ay q→fo o.rb o.rk o.ay q∨n≤q) (h6:∀q,o'.rv.ownBlock=some q→o.rv.ownBlock=some q∨n≤q) (h7:o'.mb=o.mb∨n≤o'.mb:=by first| exact .inl rfl | assumption):di w w' v o o':=by
 subst hn;refine⟨hu,fun q hq=>?_,h7⟩;rcases hq with h | h | h | h | h | h | h
 ·exact .inl (.inl h)
 ·exact(h1 q h).imp (fun e=>.inr (.inl e)) id
 ·exact h2.imp (fun e=>.inr (.inr (.inl (h.trans e)))) (fun e=>h ▸ e)
 ·exact h3.imp (fun e=>.inr (.inr (.inr (.inl (h.trans e))))) (fun e=>h ▸ e)
 ·exact(h4 q h).imp (fun e=>.inr (.inr (.inr (.inr (.inl e))))) id
 ·exact(h5 q h).imp (fun e=>.inr (.inr (.inr (.inr (.inr (.inl e)))))) id
 ·exact(h6 q h).imp (fun e=>.inr (.inr (.inr (.inr (.inr (.inr e)))))) id
theorem Q3 {P:Prop} (h:P:=by
 rcases hsub _ hf with e | e
 ·exact h.apart (i:=1) oM hj (fun e=>h1 e.symm) e hq
 ·have:=h.lt hj hq;omega):P:=h
theorem aR.aiN {k':Kp} (h:aR w p v d V o) (hP:KY w w' p o.kb d' k' o.F):∃F',aR w' p v d' { V with kp:=k' } { o with F:=F' } ∧ di w w' v o { o with F:=F' } := by
 obtain⟨F',hD,hsub⟩:=hP.bO;have hu:=hP.ε;have hz:∀q,(q=o.kb∨q ∈ o.F)→o.cl v 2 q∨o.cl v 1 q∨o.cl v 1 q:=fun q e=>e.elim .inl fun e=>.inr (.inl e)
 have hm:∀q,(q=o.kb∨q ∈ o.F)→o.mut v q:=fun q e=>(hz q e).elim cR.qQ fun e=>e.elim cR.qQ cR.qQ
 have hs:∀ {j q:Nat},j≤6→o.cl v j q→j≠1→q ∉ F':=fun hj hq h1 hf=>by
  exact Q3
 refine⟨F',⟨hD,h.blk.ε hu (h.off hz (j:=0) dC rfl),hP.kept,h.log.ε hu (h.off hz (j:=3) dC rfl),h.recs.ε hu (fun q e=>h.off hz (j:=4) dC e),fun q e=>hs (j:=4) oM e oM,h.ring.move hu (fun q e=>h.off hz (j:=5) dC e),hs (j:=5) oM (.inr (.inl rfl)) oM,h.DK hu hm,fun e=>?_,h.tX,h.rows.ε hu (fun q e=>h.off hz (j:=6) dC e),h.qD,h.Bi hu hm,h.Bn hu hm⟩,di.CX (hu.mono fun q e=>.inl (hm q e)) _ rfl hsub (.inl rfl) (.inl rfl) (fun q e=>.inl e) (fun q e=>.inl e) (fun q e=>.inl e)⟩;rcases hsub _ e with e | e
 ·exact h.qb e
 ·exact absurd h.map.lt.2 (Nat.not_lt.2 e)
theorem aR.L6 {g':Lg} (h:aR w p v d V o) (hP:Gr w w' p o.lb d' g' o.F o.lv):∃F' gK,aR w' p v d' { V with lg:=g' } { o with F:=F',lv:=gK } ∧ di w w' v o { o with F:=F',lv:=gK } := by
 obtain⟨F',gK,hD,hsub,hB,hO,hvs,hsep⟩:=hP.ex;have hu:=hP.ε;have hz:∀q,(q=o.lb∨q ∈ o.F∨o.lv.ownBlock=some q)→o.cl v 3 q∨o.cl v 1 q∨o.cl v 4 q:=fun q e=>e
 have hm:∀q,(q=o.lb∨q ∈ o.F∨o.lv.ownBlock=some q)→o.mut v q:=fun q e=>(hz q e).elim cR.qQ fun e=>e.elim cR.qQ cR.qQ
 have hs:∀ {j q:Nat},j≤6→o.cl v j q→j≠1→q ∉ F':=fun hj hq h1 hf=>by
  exact Q3
 refine⟨F',gK,⟨hD,h.blk.ε hu (h.off hz (j:=0) dC rfl),h.kept.ε hu (h.off hz (j:=2) dC rfl),hB,hO,hsep,h.ring.move hu (fun q e=>h.off hz (j:=5) dC e),hs (j:=5) oM (.inr (.inl rfl)) oM,h.DK hu hm,fun e=>?_,h.tX,h.rows.ε hu (fun q e=>h.off hz (j:=6) dC e),h.qD,h.Bi hu hm,h.Bn hu hm⟩,di.CX (hu.mono fun q e=>.inl (hm q e)) _ rfl hsub (.inl rfl) (.inl rfl) hvs (fun q e=>.inl e) (fun q e=>.inl e)⟩;rcases hsub _ e with e | e
 ·exact h.qb e
 ·exact absurd h.map.lt.2 (Nat.not_lt.2 e)
theorem aR.Qg {F':List Nat} (h:aR w p v d V o) (hL:Left w w' p d' o.F F'):aR w' p v d' V { o with F:=F' } ∧ di w w' v o { o with F:=F' } := by
 have hsub:=hL.sub;have hu:=hL.ε;have hz:∀q,q ∈ o.F→o.cl v 1 q∨o.cl v 1 q∨o.cl v 1 q:=fun q e=>.inl e
 have hm:∀q,q ∈ o.F→o.mut v q:=fun q e=>.inr (.inl e)
 have hs:∀ {j q:Nat},j≤6→o.cl v j q→j≠1→q ∉ F':=fun hj hq h1 hf=>by
  exact Q3
 refine⟨⟨hL.bO,h.blk.ε hu (h.off hz (j:=0) dC rfl),h.kept.ε hu (h.off hz (j:=2) dC rfl),h.log.ε hu (h.off hz (j:=3) dC rfl),h.recs.ε hu (fun q e=>h.off hz (j:=4) dC e),fun q e=>hs (j:=4) oM e oM,h.ring.move hu (fun q e=>h.off hz (j:=5) dC e),hs (j:=5) oM (.inr (.inl rfl)) oM,h.DK hu hm,fun e=>?_,h.tX,h.rows.ε hu (fun q e=>h.off hz (j:=6) dC e),h.qD,h.Bi hu hm,h.Bn hu hm⟩,di.CX (hu.mono fun q e=>.inl (hm q e)) _ rfl hsub (.inl rfl) (.inl rfl) (fun q e=>.inl e) (fun q e=>.inl e) (fun q e=>.inl e)⟩;rcases hsub _ e with e | e
 ·exact h.qb e
 ·exact absurd h.map.lt.2 (Nat.not_lt.2 e)
theorem aR.xM {n' cur':Nat} {fH:List (Int × Nat)} (h:aR w p v d V o) (hR:bT (fo o.rb o.rk o.ay) w w' o.rb (str jI) cur' V.st.μ n' o.rk fH):aR w' p v d { V with n:=n',cur:=cur' } { o with ay:=fH } ∧ di w w' v o { o with ay:=fH } := by
 have hu:=hR.ε;have hz:∀q,fo o.rb o.rk o.ay q→o.cl v 5 q∨o.cl v 5 q∨o.cl v 5 q:=fun q e=>.inl e
 have hm:∀q,fo o.rb o.rk o.ay q→o.mut v q:=fun q e=>cR.qQ (i:=5) e
 refine⟨⟨h.bO.ε hu (fun q e=>h.off hz (j:=1) dC e),h.blk.ε hu (h.off hz (j:=0) dC rfl),h.kept.ε hu (h.off hz (j:=2) dC rfl),h.log.ε hu (h.off hz (j:=3) dC rfl),h.recs.ε hu (fun q e=>h.off hz (j:=4) dC e),h.sep,hR.here,h.xp,h.DK hu hm,h.qb,h.tX,h.rows.ε hu (fun q e=>h.off hz (j:=6) dC e),h.qD,h.Bi hu hm,h.Bn hu hm⟩,di.CX (hu.mono fun q e=>.inl (hm q e)) _ rfl (fun q e=>.inl e) (.inl rfl) (.inl rfl) (fun q e=>.inl e) (fun q e=>hR.Bz q e) (fun q e=>.inl e)⟩
theorem aR.BA (h:aR w p v d V o) (hu:ζ (· = v) w w') (hF:o'.F=o.F) (hkb:o'.kb=o.kb) (hrb:o'.rb=o.rb) (tT:o'.rk=o.rk) (he:o'.ay=o.ay) (hB:η w' v 117 (eX V' p o')) (hk:V'.kp=V.kp) (hc:V'.cur=V.cur) (hn:V'.n=V.n) (jt:V'.st.μ=V.st.μ)
 (hl:η w' o'.lb 199 (V'.lg.cells p o'.lv)) (hr:Own w' 9 1 o'.lv V'.lg.l.length (strs V'.lg.l)) (hs:∀q,o'.lv.ownBlock=some q→q ∉ o.F)
 (hm:fY w' o'.m o'.mb V'.S) (oC:o'.mb ∉ o.F) (hmk:o'.mb≠o.rk) (om:Own w' 35 3 o'.rv V'.rows.length (s6 V'.rows o'.aI)) (ju:o'.aI.length=V'.rows.length)
 (Qh:∀(i:Nat) (b:bL) (ov:Value),V'.rows[i]? = some b→o'.aI[i]? = some ov→au w' 32 3 ov (b.ops.map bU)) (G_:au w' 46 2 o'.mv (V'.st.m.aW.map ct)):aR w' p v d V' o':=by
 have hz:∀q,q=v→o.cl v 0 q∨o.cl v 0 q∨o.cl v 0 q:=fun q e=>.inl e
 refine⟨hF ▸ h.bO.ε hu (fun q e=>h.off hz (j:=1) dC e),hB,?_,hl,hr,by rw[hF];exact hs,?_,by rw[hF,tT];exact h.xp,hm,by rw[hF];exact oC,by rw[tT];exact hmk,om,ju,Qh,G_⟩
 ·rw[hkb,hk];exact h.kept.ε hu (h.off hz (j:=2) dC rfl)
 ·rw[hrb,tT,he,hc,hn,jt];exact h.ring.move hu (fun q e=>h.off hz (j:=5) dC e)
theorem aR.Eb (h:aR w p v d V o) {j q:Nat} (hj:j≤6∧0≠j) (hq:o.cl v j q):¬q=v:=fun e=>h.apart (i:=0) oM hj.1 hj.2 e hq
theorem af3 {w:World} {b n:Nat} {x:Value} : ζ (· = b) w (w.setCell ⟨b,n,none⟩ x):=(ζ.refl (fun q=>q=b) w).setCell (p:=⟨b,n,none⟩) (.inl rfl) _
theorem aR.xN (h:aR w p v d V o) (hu:ζ (· = v) w w') {dz:Value} (hB:η w' v 117 (eX V' p { o with mv:=dz })) (hk:V'.kp=V.kp) (hl:V'.lg=V.lg) (hS:V'.S=V.S) (hr:V'.rows=V.rows) (hc:V'.cur=V.cur) (hn:V'.n=V.n) (jt:V'.st.μ=V.st.μ)
 (G_:au w' 46 2 dz (V'.st.m.aW.map ct)):aR w' p v d V' { o with mv:=dz } ∧ di w w' v o { o with mv:=dz } := by
 have hm:∀q,q=v→o.mut v q:=fun q e=>.inl e
 refine⟨h.BA hu rfl rfl rfl rfl rfl hB hk hc hn jt ?_ ?_ h.sep ?_ h.qb h.tX ?_ (by rw[hr];exact h.qD) ?_ G_,di.CX (hu.mono fun q e=>.inl (hm q e)) _ rfl (fun q e=>.inl e) (.inl rfl) (.inl rfl) (fun q e=>.inl e) (fun q e=>.inl e) (fun q e=>.inl e)⟩
 ·rw[hl];exact h.log.ε hu (h.Eb (j:=3) dC rfl)
 ·rw[hl];exact h.recs.ε hu (fun q e=>h.Eb (j:=4) dC e)
 ·rw[hS];exact h.DK hu hm
 ·rw[hr];exact h.rows.ε hu (fun q e=>h.Eb (j:=6) dC e)
 ·rw[hr];exact h.Bi hu hm
end
theorem η.Pz {w:World} {g:Nat} {t:TypeId} {a b c d e f h i j k l m n o p q r s u v x:Value} (z:η w g t #[a,b,c,d,e,f,h,i,j,k,l,m,n,o,p,q,r,s,u,v,x]) :
 w.cell? ⟨g,0,none⟩=some a∧w.cell? ⟨g,1,none⟩=some b∧w.cell? ⟨g,2,none⟩=some c∧w.cell? ⟨g,3,none⟩=some d∧w.cell? ⟨g,4,none⟩=some e∧w.cell? ⟨g,5,none⟩=some f∧w.cell? ⟨g,6,none⟩=some h∧w.cell? ⟨g,7,none⟩=some i∧w.cell? ⟨g,8,none⟩=some j∧w.cell? ⟨g,20,none⟩=some x :=
 ⟨z.cell 0,z.cell 1,z.cell 2,z.cell 3,z.cell 4,z.cell 5,z.cell 6,z.cell 7,z.cell 8,z.cell 20⟩
section
variable {w w':World} {p v:Nat} {d d':Dk} {V V':aV} {o o':cR}
theorem aR.GO (h:aR w p v d V o):aR (w.setCell ⟨v,20,none⟩ (.bool true)) p v d { V with down:=true } o∧di w (w.setCell ⟨v,20,none⟩ (.bool true)) v o o:=by
 have hu:ζ (· = v) w (w.setCell ⟨v,20,none⟩ (.bool true)):=af3;exact h.xN (V' := { V with down:=true }) (dz:=o.mv) hu (by
  have:=h.blk.bE 20 (.bool true);simpa [eX] using this) rfl rfl rfl rfl rfl rfl rfl (h.Bn hu (fun q e=>.inl e))
theorem Gx (h:aR w p v d V o) (x:Int):ς 59 #[.pointer (some ⟨v,0,none⟩),ι x] w fun e w'=>e=ώ (ι x)∧aR w' p v d (V.told x) o∧di w w' v o o:=by
 have hB:=h.blk;unfold eX at hB;have hc:=hB.Pz;have hz:=hB.frozen 20;have H:=δ h;clear h hB;by_cases hx:x=14
 ·subst hx
  go_enter func59,ntmps59
  go_wp2
  go_ret
  refine⟨rfl,?_⟩;rw[show V.told 14 = { V with down:=true } by unfold aV.told;simp]
  exact H.out.GO
 ·have hx':(x == 14)=false:=by simpa using hx
  go_enter func59,ntmps59
  go_wp2
  go_ret
  refine⟨rfl,?_⟩;rw[show V.told x=V by unfold aV.told;simp[hx]]
  exact⟨H.out,di.refl _ _ _⟩
theorem Ls (h:aR w p v d V o):ς 53 #[.pointer (some ⟨v,0,none⟩)] w fun e w'=>e=ώ (ι (if kq d V then 14 else 0))∧aR w' p v d (if kq d V then { V with down:=true } else V) o∧di w w' v o o∧(kq d V=false→w=w'):=by
 have hB:=h.blk;unfold eX at hB;have hc:=hB.Pz;have hz:=hB.frozen 20;have HD:=δ (Xi h.bO);have H:=δ h;clear h hB;cases hd:V.down
 ·rw[hd] at hc
  cases ho:d.off
  ·rw[ho] at HD
   have e:kq d V=false:=by unfold kq;rw[hd,ho];rfl
   rw[e];clear e ho hd;go_enter func53,ntmps53
   go_wp2_with (go_at_call 33;refine HD.out.mono ?_;rintro e w' ⟨rfl,rfl⟩);go_ret
   exact⟨rfl,H.out,di.refl _ _ _,rfl⟩
  ·rw[ho] at HD
   have e:kq d V=true:=by unfold kq;rw[hd,ho];rfl
   rw[e];clear e ho hd;go_enter func53,ntmps53
   go_wp2_with (go_at_call 33;refine HD.out.mono ?_;rintro e w' ⟨rfl,rfl⟩);go_ret
   exact⟨rfl,H.out.GO.1,H.out.GO.2⟩
 ·rw[hd] at hc
  have e:kq d V=true:=by unfold kq;rw[hd];rfl
  rw[e];clear e hd;go_enter func53,ntmps53
  go_wp2_with fail
  go_ret
  exact⟨rfl,H.out.GO.1,H.out.GO.2⟩
end
theorem ahd {w:World} {p b:Nat} {d:Dk} {F:List Nat} {k:Kp} (hD:bI w p d F) (hK:η w b 209 (k.cells p)) (s:ByteArray)
 (D7:k.seen<18446744073709551616) (hat:k.at_≤1) (hf:k.from_≤4096) (hp:d.pend+20<1000000) :
 ς 127 #[.pointer (some ⟨b,0,none⟩),.string s] w fun e w'=>e=ώ (ι (eu d k s.data.toList).2.2)∧KY w w' p b (eu d k s.data.toList).1 (eu d k s.data.toList).2.1 F:=by
 have hl:s.data.toList.length=s.size:=by simp
 have hno:KY w w p b d k F:=⟨⟨F,hD,fun q e=>.inl e⟩,hK,ζ.refl _ _⟩;by_cases h:k.broken=true∨400<s.size∨k.seen=18446744073709551615
 ·refine(ab5 hK s h).mono ?_
  rintro e w' ⟨rfl,rfl⟩;unfold eu;rw[hl];by_cases h1:k.broken=true
  ·rw[σ h1,σ h1];exact⟨rfl,hno⟩
  ·rw[ν h1,ν h1]
   by_cases h2:400<s.size
   ·rw[σ h2,σ h2];exact⟨rfl,hno⟩
   ·rw[ν h2,ν h2,σ (by rcases h with h | h | h;exact absurd h h1;exact absurd h h2;exact h)];exact⟨rfl,hno⟩
 ·simp only[pO] at h
  exact afo hD hK s (by simpa using h.1) oM oM hat hf hp
theorem F6 (s:cY) (mv:Value) (h:mv.oneCell'=true):(gz s mv).all (·.oneCell')=true:=by
 simp only[gz,J7,rN,Bb,h,y6];simp[Value.oneCell']
section
variable {w w':World} {p v:Nat} {d d':Dk} {V V':aV} {o o':cR}
theorem Lt (h:aR w p v d V o) (s:cY) (hs:lT s) {mv:Value} (dJ:au w 46 2 mv (s.m.aW.map ct)) (hb0:s.μ=V.st.μ) (yb:V.cur≤1048576) (hn:V.n<4611686018427387904)
 (D7:V.kp.seen<18446744073709551616) (hat:V.kp.at_≤1) (hf:V.kp.from_≤4096) (hp:d.pend+20<1000000) :
 ς 67 #[.pointer (some ⟨v,0,none⟩),.agg (gz s mv)] w fun e w'=>e=ώ (ι (ez d V s).2.2)∧∃o',aR w' p v (ez d V s).1 (ez d V s).2.1 o'∧di w w' v o o':=by
 obtain⟨A,cap,mb,mo,th,uI,uJ,o4,sg⟩:=dJ.eD;have hrb:V.st.μ<4294967296:=by have:=hs.μ;omega
 have dP:s.m.bu.length≤64:=(xC hs.right).sec;obtain⟨X,hX⟩:=κ (V.wrap gy s.m.bu);have mh:X.length≤116:=by
  rw[← hX];have:=OE (k:=kf jI V.cur) (about:=gy) yb hrb (show V.n<18446744073709551616 by omega) (show s.m.bu.length≤8192 by omega);unfold aV.wrap;omega
 have hput:ez d V s=if (eu d V.kp (dr s X)).2.2≠0 then ((eu d V.kp (dr s X)).1,({ V.next with kp:=(eu d V.kp (dr s X)).2.1 } : aV).told (eu d V.kp (dr s X)).2.2,(eu d V.kp (dr s X)).2.2) else ((eu d V.kp (dr s X)).1,{ V.next with kp:=(eu d V.kp (dr s X)).2.1,st:=s },0):=by
  unfold ez;rw[hX]
 obtain⟨c,hc⟩:=κ w.heap.size;obtain⟨C,hC⟩:=κ (gz s mv);have AE:C.all (·.oneCell')=true:=by rw[← hC];exact F6 s mv (by rw[th];rfl)
 have hC4:C[4]? = some (.string (str s.m.bu)):=by rw[← hC];rfl
 have jW:C.size=11:=by rw[← hC];rfl
 have HP:=δ hput;have HC:=aD hC AE hC4 jW;have HM:=gU dJ th uI uJ o4 sg;have HS:=aD hs hb0 dP hrb;have HX:=τ hX mh;have HN:=gU yb hn D7 hat hf hp;have H:=δ h;have Hc:=δ hc;rw[hC];clear h hs dJ hb0 yb hn D7 hat hf hp th uI uJ o4 sg hrb dP hX mh hput hc hC AE hC4 jW;go_enter func67,ntmps67
 go_upto_region 1 with fail
 rw[Hc.out];generalize hw1:World.alloc _ _=w1;have aM:η w1 c 115 C:=by rw[← hw1,← Hc.out];exact η.new w _ _
 have ax:υ w w1:=by rw[← hw1];exact(ζ.refl _ w).alloc _
 have hs1:c<w1.heap.size:=aM.lt;have H1:=aD aM ax hs1 (H.out.still ax);clear aM ax hs1 hw1;refine dB ?_;refine dK (S:=fun w'=>η w' c 115 C∧w'.cell? ⟨v,8,none⟩=some (.pointer (some ⟨o.rb,0,none⟩))) (T:=fun _=>false) kR ?_;have aC:η w1.drew c 115 C∧w1.drew.cell? ⟨v,8,none⟩=some (.pointer (some ⟨o.rb,0,none⟩)):=⟨H1.out.1.drew,H1.out.2.2.2.blk.cell 8⟩;have pH:=δ (fun (w':World) (h:η w' c 115 C)=>(h.cell 4).trans HC.out.2.2.1);refine ξ 0 ?_;refine ξ 1 ?_;refine ξ 2 ?_;refine aQ 3 (fun w' hSw=>hSw.2) ?_;refine ξ 4 ?_;refine ξ 5 ?_;refine aQ 6 (fun w' hSw=>pH.out _ hSw.1) ?_;refine aY 7 (fun KK ο=>?_);go_simp
 have lJ:qT (kf (str jI).data.toList V.cur) V.cur V.st.μ V.n (str gy).data.toList (str s.m.bu).data.toList=X:=by rw[← HX.out.1,bS,bS,bS];rfl
 have hwr:=K1 (H1.out.2.2.2.still (ζ.refl (fun _=>False) w1).drew).ring (by rw[bf];decide) HN.out.1 (oO HS.out.2.1 HS.out.2.2.2) HN.out.2.1 (str gy) (str s.m.bu) dC (by rw[bf];have:=HS.out.2.2.1;omega);rw[lJ] at hwr;refine hwr.mono ?_;rintro e w2 ⟨rfl,fH,hR⟩;have mO:=(H1.out.2.2.2.still (ζ.refl (fun _=>False) w1).drew).xM hR;have aB:η w2 c 115 C:=aC.1.ε hR.ε (fun e=>by have e1:=H.out.lt (i:=5) dC e;have e2:=Hc.out;omega);have a_:η w2 c 115 C∧w2.cell? ⟨v,8,none⟩=some (.pointer (some ⟨o.rb,0,none⟩)):=⟨aB,mO.1.blk.cell 8⟩;refine ο.out _ _ a_ ?_;have H2:=τ mO aB;clear ο mO aB lJ hR hwr;refine ξ 8 ?_;refine ξ 9 ?_;refine ξ 10 ?_;refine ξ 11 ?_;refine ξ 12 ?_;refine dF ?_;refine cZ ?_;clear aC a_ pH;go_upto_region 4 with fail
 obtain⟨P,hP⟩:=κ (eu d V.kp (dr s X));have Mr:=δ hP;clear hP;refine dB ?_;refine dK (S:=fun w'=>η w' c 115 C∧w'.cell? ⟨v,6,none⟩=some (.pointer (some ⟨o.kb,0,none⟩))) (T:=fun _=>false) kR ?_;have aC:η w2.drew c 115 C∧w2.drew.cell? ⟨v,6,none⟩=some (.pointer (some ⟨o.kb,0,none⟩)):=⟨H2.out.2.drew,H2.out.1.1.blk.cell 6⟩;refine ξ 0 ?_;refine ξ 1 ?_;refine ξ 2 ?_;refine aQ 3 (fun w' hSw=>hSw.2) ?_;refine iq 4 (.agg C) (kX rfl (by rfl) _ _ rfl c (by rfl) _ _ _ (fun w' hSw=>hSw.1) underlying115 rfl (by rw[HC.out.2.2.2];kernel_rfl)) ?_
 refine ξ 5 ?_;refine aY 6 (fun KK ο=>?_);go_simp
 have π:ζ (o.mut v) w w2.drew:=((H1.out.2.1.mono φ).drew.then H2.out.1.2.ε (fun q e=>.inl e)).drew;have mq:=ag7 (w:=w2.drew) (A:=A) (cap:=cap) (b:=mb) (off:=mo) s HS.out.1 HM.out.2.2.2.2.1 (fun w' hu=>HM.out.2.2.2.2.2 w' (o.mut v) (π.then hu φ) (fun b ht=>H.out.sU (ht dC) dC)) (str X) (by rw[bf];have:=HX.out.2;omega);rw[← HM.out.2.1,HC.out.1,bS] at mq;refine mq.mono ?_;rintro e w3 ⟨rfl,lF⟩;have p6:=(H2.out.1.1.still (ζ.refl (fun _=>False) w2).drew).still lF;have jC:η w3 c 115 C∧w3.cell? ⟨v,6,none⟩=some (.pointer (some ⟨o.kb,0,none⟩)):=⟨aC.1.ε lF (fun e=>e),p6.blk.cell 6⟩;refine ο.out _ _ jC ?_;have H3:=aj p6 lF jC;clear ο p6 lF mq π;refine aY 7 (fun KK ο=>?_);go_simp
 have hpa:=ahd H3.out.1.bO H3.out.1.kept (str (dr s X)) HN.out.2.2.1 HN.out.2.2.2.1 HN.out.2.2.2.2.1 HN.out.2.2.2.2.2;rw[bS] at hpa;refine hpa.mono ?_;rintro e w4 ⟨rfl,tW⟩;obtain⟨F',sj,E6⟩:=H3.out.1.aiN tW;have dh:η w4 c 115 C∧w4.cell? ⟨v,6,none⟩=some (.pointer (some ⟨o.kb,0,none⟩)):=⟨jC.1.ε tW.ε (fun e=>by
  have e2:=Hc.out;rcases e with e | e
  ·have e1:=H.out.lt (i:=2) (q:=c) dC e;omega
  ·have e1:=H.out.lt (i:=1) (q:=c) dC e;omega),sj.blk.cell 6⟩
 refine ο.out _ _ dh ?_;have H4:=aj sj E6 dh.1;clear ο sj E6 tW hpa;refine ξ 8 ?_;refine dF ?_;refine cZ ?_;clear aC jC dh;have HT:=δ (((di.mk (o:=o) (o':=o) (v:=v) (H1.out.2.1.mono φ).drew (fun q e=>.inl e)).trans (H2.out.1.2.still (ζ.refl (fun _=>False) w2).drew)).still H3.out.2.1 |>.trans H4.out.2.1);obtain⟨E,hE⟩:=κ (eu d V.kp (dr s X)).2.2;rw[hE];by_cases h0:E=0
 ·subst h0
  have HE:=δ hE;clear hE;have hsz:9+C.size≤(eX { V.next with kp:=(eu d V.kp (dr s X)).2.1 } p { o with ay:=fH,F:=F' }).size:=by rw[HC.out.2.2.2];exact Ul rfl
  have hnew:(eX { V.next with kp:=(eu d V.kp (dr s X)).2.1 } p { o with ay:=fH,F:=F' }).toList.take 9++C.toList++(eX { V.next with kp:=(eu d V.kp (dr s X)).2.1 } p { o with ay:=fH,F:=F' }).toList.drop (9+C.size)=(eX { V.next with kp:=(eu d V.kp (dr s X)).2.1,st:=s } p { o with ay:=fH,F:=F',mv:=mv }).toList:=by rw[HC.out.2.2.2,← HC.out.1];rfl
  have hblk:η w4 v 117 (eX { V.next with kp:=(eu d V.kp (dr s X)).2.1 } p { o with ay:=fH,F:=F' }):=H4.out.1.blk;go_wp2_with (first
   |(refine eL _ c H4.out.2.2 underlying115 (by rw[HC.out.2.2.2];kernel_rfl) ?_)
   |(refine xB rfl 115 _ _ rfl v 9 C rfl rfl _ _ (eX { V.next with kp:=(eu d V.kp (dr s X)).2.1,st:=s } p { o with ay:=fH,F:=F',mv:=mv }) hblk hsz hnew HC.out.2.1 (by rw[HC.out.2.2.2];kernel_rfl) ?_
     intro w5 aF av hs5))
  go_ret
  have sg:au w5 46 2 mv (s.m.aW.map ct):=HM.out.1.ε (HT.out.ε.then av (fun q e=>.inl (.inl e))) (fun b ht=>H.out.sU ht dC);have h5:=H4.out.1.xN (V' := { V.next with kp:=(eu d V.kp (dr s X)).2.1,st:=s }) av aF rfl rfl rfl rfl rfl rfl HS.out.2.1 sg;rw[HP.out,ν (by rw[HE.out];simp)]
  exact⟨rfl,_,h5.1,HT.out.trans h5.2⟩
 ·have eA:(E != 0)=true:=by simpa using h0
  have HE:=τ hE h0;have yL:=δ (Gx H4.out.1 E);clear hE h0;go_wp2_with (first
   |(go_at_call 59;refine yL.out.mono ?_;rintro e w5 ⟨rfl,h5,k5⟩))
  go_ret
  rw[HP.out,σ (by rw[HE.out.1];exact HE.out.2),HE.out.1];exact⟨rfl,_,h5,HT.out.trans k5⟩
end
theorem ac8 {k:Nat} : ∀(l:List (List Value)),(∀c ∈ l,c.length=k)→∀(j:Nat) (u:Value),l.flatten[j]? = some u→∃i c r,l[i]? = some c∧c[r]? = some u∧j=i*k+r:=by
 intro l;induction l with
 | nil=>intro _ j u h;simp at h
 | cons x y ih =>
   intro hl j u h;have hx:=hl x sM;rw[J4] at h;by_cases hj:j<x.length
   ·rw[pL hj] at h
    exact⟨0,x,j,rfl,h,oM⟩
   ·rw[lM oM] at h
    obtain⟨i,c,r,e1,e2,e3⟩:=ih (fun c hc=>hl c (by simp[hc])) _ _ h;exact⟨i+1,c,r,e1,e2,by rw[J5];omega⟩
theorem N9 {k:Nat} : ∀(l:List (List Value)),(∀c ∈ l,c.length=k)→l.flatten.length=l.length*k:=by
 intro l;induction l with
 | nil=>intro _;simp
 | cons x y ih =>
   intro hl;rw[J4,aL,ih fun c hc=>hl c (by simp[hc]),hl x sM,eS,J5];omega
theorem au.src {w:World} {t xT e:TypeId} {k:Nat} {v:Value} {cs:List (List Value)} (h:au w t k v cs) (ht:prog.underlying xT=some (.slice e)) (hk:∀c ∈ cs,c.length=k):Src prog w xT k v cs.length cs.flatten:=by
 obtain⟨A,cap,h1,h2,h3,h4⟩:=h;subst h1;cases A with
 | none =>
   have h0:cs=[]:=yX (aa9 fun h=>by obtain⟨b,off,cur,t',fr,e1,-⟩:=h4 h;cases e1)
   subst h0;exact Src.of_nil ht cap
 | some a =>
   refine Src.uq ht a _ _ (N9 cs hk) fun j u hj=>?_
   obtain⟨i,c,r,e1,e2,rfl⟩:=ac8 cs hk j u hj;obtain⟨b,off,cur,t',fr,f1,f2,-,f3⟩:=h4 (oN (kT.1 e1).1);cases f1
   have:=f3 i c e1 r u e2;rw[show (⟨b,off,none⟩:Addr).add (i*k+r)=⟨b,off+(i*k+r),none⟩ from by simp[Addr.add]];rw[Di w b _ cur t' fr f2,← Fq];exact this
theorem ZO {P:Prop} (h:P:=by
 go_ret
 obtain⟨bH,π,hl2⟩:=H2.out;refine⟨v',rfl,au.jK (n:=cs.length) (by simpa using bH) rfl (oN HK.out.2.2.2) (fun c hc=>(HK.out.2.2.1 c hc).1),((ζ.refl _ w).alloc _).then π (fun b e=>.inr (by have e2:=dw (show some w.heap.size=some b from e);omega)),fun q hq=>?_,by simpa using bH⟩;rcases hl2 with e | e
 ·rw[hq] at e
  have e2:q=w.heap.size:=dw e;omega
 ·rw[hq] at e
  have e2:=dw e;rw[cM] at e2;omega):P:=h
theorem aeq {w:World} {t:TypeId} {v:Value} {cs:List (List Value)} (h:au w t 2 v cs) (hk:∀c ∈ cs,c.length=2∧∀u ∈ c,u.oneCell'=true) (hl:cs.length≤1000) :
 ς 135 #[v] w fun e w'=>∃v',e=ώ v'∧au w' 46 2 v' cs∧υ w w'∧(∀q,v'.ownBlock=some q→w.heap.size≤q)∧Own w' 46 2 v' cs.length cs.flatten:=by
 obtain⟨i0,bx,bN,bG,aT⟩:=je OS;have H:=δ h;have hone:∀u ∈ cs.flatten,u.oneCell'=true:=fun u hu=>by
  obtain⟨c,hc,hu⟩:=Um.1 hu;exact(hk c hc).2 u hu
 have hfl:=N9 cs (fun c hc=>(hk c hc).1);obtain⟨A,cap,e,h1,h2,h3⟩:=h;subst e;cases A with
 | none =>
   have hnil:=fun W=>Dx none cs.length cap W 47 _ underlying47
   simp only[aa2] at hnil;have h0:cs=[]:=yX (aa9 fun h=>by obtain⟨b,off,cur,t',fr,e1,-⟩:=h3 h;cases e1)
   have H0:=δ h0;clear h0 h1 h2 h3 hone hfl hk hl;go_enter func135,ntmps135
   go_wp2_with fail
   go_ret
   have h0:=H0.out;subst h0;exact⟨_,rfl,⟨none,0,rfl,bQ _,sM,fun h=>by simp at h⟩,ζ.refl _ _,by simp[Value.ownBlock],Own.nil _ _ _⟩
 | some a =>
   have hnil:=fun W=>Dx (some a) cs.length cap W 47 _ underlying47
   simp only[aa3] at hnil;have HK:=aD hone hfl hk hl;clear h1 h2 h3 hone hfl hk hl;go_enter func135,ntmps135
   have Ao:Own (w.alloc (.cells #[] 46)) 46 2 (.slice (some ⟨w.heap.size,0,none⟩) 0 0) 0 []:=⟨sM,.inr ⟨w.heap.size,0,#[],(0,0),rfl,yV w _,.inl rfl,bQ _,sM,rfl,rfl⟩⟩;have I7:=δ Ao;clear Ao
   go_wp2_with (at_builtin
                refine jH rfl _ _ _ _ rfl 46 i0 _ 2 24 underlying47 bx bN bG aT rfl _ 0 _ rfl I7.out _ cs.length cs.flatten rfl ((H.out.still ((ζ.refl _ w).alloc _)).src underlying47 fun c hc=>(HK.out.2.2.1 c hc).1) HK.out.1 (by have:=HK.out.2.2.2;unfold maxLen;omega) (oN HK.out.2.2.2) ?_;intro v' w2 bH π hl2 bV;have H2:=aj bH π hl2;clear bH π hl2 bV)
   exact ZO
theorem VQ {w:World} {t:TypeId} {v:Value} {cs:List (List Value)} (h:au w t 3 v cs) (hk:∀c ∈ cs,c.length=3∧∀u ∈ c,u.oneCell'=true) (hl:cs.length≤1000) :
 ς 68 #[v] w fun e w'=>∃v',e=ώ v'∧au w' 32 3 v' cs∧υ w w'∧(∀q,v'.ownBlock=some q→w.heap.size≤q)∧Own w' 32 3 v' cs.length cs.flatten:=by
 obtain⟨i0,bx,bN,bG,aT⟩:=je PN;have H:=δ h;have hone:∀u ∈ cs.flatten,u.oneCell'=true:=fun u hu=>by
  obtain⟨c,hc,hu⟩:=Um.1 hu;exact(hk c hc).2 u hu
 have hfl:=N9 cs (fun c hc=>(hk c hc).1);obtain⟨A,cap,e,h1,h2,h3⟩:=h;subst e;cases A with
 | none =>
   have hnil:=fun W=>Dx none cs.length cap W 33 _ underlying33
   simp only[aa2] at hnil;have h0:cs=[]:=yX (aa9 fun h=>by obtain⟨b,off,cur,t',fr,e1,-⟩:=h3 h;cases e1)
   have H0:=δ h0;clear h0 h1 h2 h3 hone hfl hk hl;go_enter func68,ntmps68
   go_wp2_with fail
   go_ret
   have h0:=H0.out;subst h0;exact⟨_,rfl,⟨none,0,rfl,bQ _,sM,fun h=>by simp at h⟩,ζ.refl _ _,by simp[Value.ownBlock],Own.nil _ _ _⟩
 | some a =>
   have hnil:=fun W=>Dx (some a) cs.length cap W 33 _ underlying33
   simp only[aa3] at hnil;have HK:=aD hone hfl hk hl;clear h1 h2 h3 hone hfl hk hl;go_enter func68,ntmps68
   have Ao:Own (w.alloc (.cells #[] 32)) 32 3 (.slice (some ⟨w.heap.size,0,none⟩) 0 0) 0 []:=⟨sM,.inr ⟨w.heap.size,0,#[],(0,0),rfl,yV w _,.inl rfl,bQ _,sM,rfl,rfl⟩⟩;have I7:=δ Ao;clear Ao
   go_wp2_with (at_builtin
                refine jH rfl _ _ _ _ rfl 32 i0 _ 3 40 underlying33 bx bN bG aT rfl _ 0 _ rfl I7.out _ cs.length cs.flatten rfl ((H.out.still ((ζ.refl _ w).alloc _)).src underlying33 fun c hc=>(HK.out.2.2.1 c hc).1) HK.out.1 (by have:=HK.out.2.2.2;unfold maxLen;omega) (oN HK.out.2.2.2) ?_;intro v' w2 bH π hl2 bV;have H2:=aj bH π hl2;clear bH π hl2 bV)
   exact ZO
theorem aer {w:World} {t:TypeId} {v:Value} {cs:List (List Value)} (h:au w t 3 v cs) (hk:∀c ∈ cs,c.length=3∧∀u ∈ c,u.oneCell'=true) (hl:cs.length≤1000) :
 ς 68 #[v] w fun e w'=>∃v',e=ώ v'∧au w' 32 3 v' cs∧υ w w':=by
 refine(VQ h hk hl).mono ?_;rintro e w' ⟨v',h1,h2,h3,-⟩;exact⟨v',h1,h2,h3⟩
end
end Go.Proofs.YtbhjgfibhegddaaGreat
