/-
  Parts of the proof of VaultPlays: RefR, Ref17B, Ref17D, Ref13G, Ref17C.
-/
import Derived.Test.YtbhjgfibhegddaaGreatQVaultPlays21
set_option maxRecDepth 100000
set_option maxHeartbeats 16000000
namespace Go.Proofs.YtbhjgfibhegddaaGreat
open Tryz
section
open Go Go.RowKit
theorem VY {w:World} {mv:Value} (m:MetaM) {ty:TypeId} (dJ:au w ty 2 mv (m.aW.map ct)) (hs:∀x ∈ m.aW,x.name.length≤1000000) :
 ς 42 #[.agg (dy m mv)] w fun e w'=>e=ώ (.bool (dS m))∧υ w w':=by
 obtain⟨A,cap,b,off,rfl,hcap,hl,hA,hat⟩:=dJ.eD;obtain⟨B,hB⟩:=κ (dS m);obtain⟨O,hO⟩:=κ (pS m.aW);obtain⟨S,hS⟩:=κ (str m.bu);obtain⟨n,hn⟩:=κ m.aW.length;have mY:S.size=m.bu.length:=by rw[← hS,bf]
 rw[hB];have eE:=fun W (hW:υ w W)=>ag' (cap:=cap) hA (hat W (fun _=>False) hW (fun _ _ e=>e)) hl hs
 rw[hO,hn] at eE;have p7:B=((decide (n=0)|| O) && decide (0≤m.role∧m.role≤3∧0≤m.seen∧0≤m.aG∧S.size≤64)):=by
  rw[← hB,← hO,mY,← hn];unfold dS;congr 2
  rw[J9];exact JV.symm
 obtain⟨c,hc⟩:=κ w.heap.size;obtain⟨C,hC⟩:=κ (dy m (.slice A m.aW.length cap));rw[hC];have mW:=δ eE;have HB:=δ p7;have rH:=aD hc hC hn hS;clear eE p7 hB hO hat hA dJ hs mY hc hC hn hS;go_enter func42,ntmps42
 go_upto_region 1 with fail
 rw[rH.out.1];generalize hw1:World.alloc _ _=w1;have aM:η w1 c 79 (dy m (.slice A m.aW.length cap)):=by rw[rH.out.2.1,← hw1,← rH.out.1];exact η.new w _ _
 have ax:υ w w1:=by rw[← hw1];exact(ζ.refl _ w).alloc _
 unfold dy at aM;rw[rH.out.2.2.1,rH.out.2.2.2] at aM;have H1:=τ ax aM;have E4:=δ (mW.out w1 ax);have c3:w1.cell? ⟨c,3,none⟩=some (.slice A n cap):=aM.cell 3;clear hw1 ax aM;by_cases h0:n=0
 ·subst h0
  have p7:B=decide (0≤m.role∧m.role≤3∧0≤m.seen∧0≤m.aG∧S.size≤64):=by rw[HB.out];simp
  have jQ:=δ p7;have c0:w1.cell? ⟨c,0,none⟩=some (ι m.role):=H1.out.2.cell 0;have c1:w1.cell? ⟨c,1,none⟩=some (ι m.seen):=H1.out.2.cell 1;have c2:w1.cell? ⟨c,2,none⟩=some (ι m.aG):=H1.out.2.cell 2;have c4:w1.cell? ⟨c,4,none⟩=some (.string S):=H1.out.2.cell 4;clear p7;by_cases r0:(0:Int)≤m.role<;>by_cases r3:m.role≤3<;>by_cases rs:(0:Int)≤m.seen<;>by_cases rg:(0:Int)≤m.aG<;>by_cases rc:(S.size:Int)≤64<;>
   first|(exfalso;omega)|(go_wp2_with fail;go_ret;exact⟨by rw[jQ.out];congr 3;simp;omega,H1.out.1⟩)
 ·have hn0:(0:Int)<(n:Int):=oM
  cases O
  ·have hBf:B=false:=by rw[HB.out];simp[h0]
   subst hBf;go_wp2_with (first
    |(go_at_call 85;refine E4.out.mono ?_;rintro e w2 ⟨rfl,π⟩;have lV:=δ π;clear π))
   go_ret
   exact⟨rfl,H1.out.1.then lV.out φ⟩
  ·have p7:B=decide (0≤m.role∧m.role≤3∧0≤m.seen∧0≤m.aG∧S.size≤64):=by rw[HB.out];simp
   have jQ:=δ p7;clear p7;go_upto_region 3 with (first
    |(go_at_call 85;refine E4.out.mono ?_;rintro e w2 ⟨rfl,π⟩
      have bn:=H1.out.2.ε π (fun e=>e);have c0:w2.cell? ⟨c,0,none⟩=some (ι m.role):=bn.cell 0;have c1:w2.cell? ⟨c,1,none⟩=some (ι m.seen):=bn.cell 1;have c2:w2.cell? ⟨c,2,none⟩=some (ι m.aG):=bn.cell 2;have c4:w2.cell? ⟨c,4,none⟩=some (.string S):=bn.cell 4;have lV:=δ π;clear π bn))
   by_cases r0:(0:Int)≤m.role<;>by_cases r3:m.role≤3<;>by_cases rs:(0:Int)≤m.seen<;>by_cases rg:(0:Int)≤m.aG<;>by_cases rc:(S.size:Int)≤64<;>
    first|(exfalso;omega)|(go_wp2_with fail;go_ret;exact⟨by rw[jQ.out];congr 3;simp;omega,H1.out.1.then lV.out φ⟩)
theorem ago (a b c:Int) (A:Option Addr) (n cap:Nat) (S:ByteArray):prog.built 79 [(0,ι a),(1,ι b),(2,ι c),(3,.slice A n cap),(4,.string S)]=some #[ι a,ι b,ι c,.slice A n cap,.string S]:=kR
theorem PC {w:World} (m:MetaM) {ty:TypeId} {mv:Value} (dJ:au w ty 2 mv (m.aW.map ct)) :
 ς 43 #[.agg (dy m mv)] w fun e w'=>e=ώ (.agg (dy m mv))∧υ w w':=by
 obtain⟨A,cap,b,off,rfl,-⟩:=dJ.open_;obtain⟨c,hc⟩:=κ w.heap.size;have Hc:=δ hc;clear hc dJ;unfold dy;obtain⟨S,hS⟩:=κ (str m.bu);obtain⟨n,hn⟩:=κ (m.aW.map ct).length;rw[hS,hn];clear hS hn;have HB:=δ (ago m.role m.seen m.aG A n cap S);go_enter func43,ntmps43
 go_upto_region 1 with fail
 rw[Hc.out];generalize aH:World.alloc (World.alloc _ _) _=w2;have aB:η w2 c 50 #[ι m.role,ι m.seen,ι m.aG,.slice A n cap,.string S]:=by rw[← aH,← Hc.out];exact(η.new w _ _).alloc _
 have rJ:∃z,z.size=5∧η w2 (c+1) 79 z:=by
  rw[← aH,← Hc.out];have:=η.new (w.alloc (.cells #[ι m.role,ι m.seen,ι m.aG,.slice A n cap,.string S] 50)) 79 #[ι 0,ι 0,ι 0,.slice none 0 0,.string ByteArray.empty];rw[cM] at this;exact⟨_,rfl,this⟩
 have π:υ w w2:=by rw[← aH];exact((ζ.refl _ w).alloc _).alloc _
 clear aH;obtain⟨z,hzs,rJ⟩:=rJ;have c0:w2.cell? ⟨c,0,none⟩=some (ι m.role):=aB.cell 0;have c1:w2.cell? ⟨c,1,none⟩=some (ι m.seen):=aB.cell 1;have c2:w2.cell? ⟨c,2,none⟩=some (ι m.aG):=aB.cell 2;have c3:w2.cell? ⟨c,3,none⟩=some (.slice A n cap):=aB.cell 3;have c4:w2.cell? ⟨c,4,none⟩=some (.string S):=aB.cell 4;have H2:=aj rJ π hzs;clear aB rJ π hzs;go_wp2_with (first
  |(refine qf rfl _ _ rfl [(0,ι m.role),(1,ι m.seen),(2,ι m.aG),(3,.slice A n cap),(4,.string S)] _ (by first| rfl | kernel_rfl) HB.out ?_)
  |(refine fk rfl 79 _ _ rfl (c+1) #[ι m.role,ι m.seen,ι m.aG,.slice A n cap,.string S] rfl rfl _ _ H2.out.1 ?_ ?_ ?_ ?_))
 ·rw[H2.out.2.2];rfl
 ·exact Dt _ _ _ rfl rfl
 ·kernel_rfl
 intro w5 aF av hs5;go_wp2_with fail
 refine cy (jx rfl _ _ (c+1) _ _ _ _ rfl aF underlying79 rfl kR) rfl ⟨rfl,H2.out.2.1.then av (fun q e=>.inr ?_)⟩;have e2:q=c+1:=e;have:=Hc.out;omega
theorem XC (w:World) (C D Z:Array Value) {c:Nat} (hc:w.heap.size=c) (w1:World) (h:((w.alloc (.cells C 95)).alloc (.cells D 79)).alloc (.cells Z 95)=w1):η w1 c 95 C∧η w1 (c+1) 79 D∧η w1 (c+2) 95 Z∧υ w w1:=by
 subst h;refine⟨by rw[← hc];exact((η.new w _ _).alloc _).alloc _,?_,?_,(((ζ.refl _ w).alloc _).alloc _).alloc _⟩
 ·have:=(η.new (w.alloc (.cells C 95)) 79 D).alloc (.cells Z 95)
  rw[cM,hc] at this;exact this
 ·have:=η.new ((w.alloc (.cells C 95)).alloc (.cells D 79)) 95 Z
  rw[cM,cM,hc] at this;exact this
theorem W4 {a b c:Int} {v:Value} {S:ByteArray} (h:v.oneCell'=true):(#[ι a,ι b,ι c,v,.string S]:Array Value).all (·.oneCell')=true:=by
 simp only[J7,rN,Bb,h,y6];rfl
theorem ahs {w:World} {a b d:Int} {mv:Value} {S:ByteArray} {lv:Value} {at_ ep:Int} {rv:Value} {pr ky:Int} (h1:mv.oneCell'=true) (h2:lv.oneCell'=true) (h3:rv.oneCell'=true) (m:MetaM) {ty:TypeId} {cv:Value} (dJ:au w ty 2 cv (m.aW.map ct)) (hs:∀x ∈ m.aW,x.name.length≤1000000) :
 ς 94 #[.agg (ku a b d mv S lv at_ ep rv pr ky),.agg (dy m cv)] w fun e w'=>e=ώ (.tuple #[.agg (if dS m then ku m.role m.seen m.aG cv (str m.bu) lv at_ ep rv pr ky else ku a b d mv S lv at_ ep rv pr ky),ι (if dS m then 0 else 1)])∧υ w w':=by
 have eE:=fun W (hW:υ w W)=>VY m (dJ.still hW) hs
 have hone:=dJ.one;obtain⟨S2,a_⟩:=κ (str m.bu);obtain⟨B,hB⟩:=κ (dS m);unfold dy at eE ⊢;rw[a_,hB] at eE;rw[a_,hB];have fR:=aj (uo (a:=a) (b:=b) (c:=d) (S:=S) (at_:=at_) (ep:=ep) (pr:=pr) (ky:=ky) h1 h2 h3) (uo (a:=m.role) (b:=m.seen) (c:=m.aG) (S:=S2) (at_:=at_) (ep:=ep) (pr:=pr) (ky:=ky) hone h2 h3) (W4 (a:=m.role) (b:=m.seen) (c:=m.aG) (S:=S2) hone);obtain⟨c,hc⟩:=κ w.heap.size;have Hc:=δ hc;have mW:=δ eE;clear hc h1 h2 h3 eE hone a_ hB dJ hs;unfold ku at fR ⊢;go_enter func94,ntmps94
 go_upto_region 1 with fail
 rw[Hc.out];generalize hw1:World.alloc (World.alloc (World.alloc _ _) _) _=w1;obtain⟨aM,hM1,pK,ax⟩:=XC w #[ι a,ι b,ι d,mv,.string S,lv,ι at_,ι ep,rv,ι pr,ι ky] #[ι m.role,ι m.seen,ι m.aG,cv,.string S2] #[ι 0,ι 0,ι 0,.slice none 0 0,.string ⟨#[]⟩,.slice none 0 0,ι 0,ι 0,.slice none 0 0,ι 0,ι 0] Hc.out w1 hw1;have H1:=aD aM hM1 pK ax;clear hw1 aM hM1 pK ax;cases B
 ·go_wp2_with (first
   |(refine fV 79 (c+1) H1.out.2.1 underlying79 ?_)
   |(go_at_call 42
     refine(mW.out _ H1.out.2.2.2).mono ?_;rintro e w2 ⟨rfl,π⟩;have H2:=aD (H1.out.1.ε π (fun e=>e)) (H1.out.2.1.ε π (fun e=>e)) (H1.out.2.2.1.ε π (fun e=>e)) (H1.out.2.2.2.then π φ);clear π)
   |(refine fV 95 c H2.out.1 underlying95 ?_)
   |(refine ef 95 (c+2) #[ι a,ι b,ι d,mv,.string S,lv,ι at_,ι ep,rv,ι pr,ι ky] H2.out.2.2.1 fR.out.1 ?_
     intro w4 aE ag cG))
  exact cy (iR rfl _ _ (c+2) _ _ _ _ rfl aE underlying95 rfl kR _ rfl) rfl ⟨rfl,H2.out.2.2.2.then ag (fun q e=>.inr (by have e2:q=c+2:=e;have:=Hc.out;omega))⟩
 ·go_upto_region 4 with (first
   |(refine fV 79 (c+1) H1.out.2.1 underlying79 ?_)
   |(go_at_call 42
     refine(mW.out _ H1.out.2.2.2).mono ?_;rintro e w2 ⟨rfl,π⟩;have H2:=aD (H1.out.1.ε π (fun e=>e)) (H1.out.2.1.ε π (fun e=>e)) (H1.out.2.2.1.ε π (fun e=>e)) (H1.out.2.2.2.then π φ);clear π)
   |(refine fV 79 (c+1) H2.out.2.1 underlying79 ?_)
   |(refine xB rfl 79 _ _ rfl c 0 #[ι m.role,ι m.seen,ι m.aG,cv,.string S2] rfl rfl _ _ #[ι m.role,ι m.seen,ι m.aG,cv,.string S2,lv,ι at_,ι ep,rv,ι pr,ι ky] H2.out.1 sM rfl fR.out.2.2 kR ?_
     intro w3 aA χ fK))
  have H3:=aj aA (H2.out.2.2.1.ε χ (fun e=>by have e2:c+2=c:=e;omega)) (H2.out.2.2.2.then χ (fun q e=>.inr (by have e2:q=c:=e;have:=Hc.out;omega)));clear aA χ fK;go_wp2_with (first
   |(refine fV 95 c H3.out.1 underlying95 ?_)
   |(refine ef 95 (c+2) #[ι m.role,ι m.seen,ι m.aG,cv,.string S2,lv,ι at_,ι ep,rv,ι pr,ι ky] H3.out.2.1 fR.out.2.1 ?_
     intro w4 aE ag cG))
  exact cy (iR rfl _ _ (c+2) _ _ _ _ rfl aE underlying95 rfl kR _ rfl) rfl ⟨rfl,H3.out.2.2.then ag (fun q e=>.inr (by have e2:q=c+2:=e;have:=Hc.out;omega))⟩
instance:DecidableEq MetaM:=fun a b=>if h:a.role=b.role∧a.seen=b.seen∧a.aG=b.aG∧a.aW=b.aW∧a.bu=b.bu then isTrue (by obtain⟨h1,h2,h3,h4,h5⟩:=h;cases a;cases b;simp_all) else isFalse (by rintro rfl;exact h ⟨rfl,rfl,rfl,rfl,rfl⟩)
theorem agp {a b:MetaM} : a=b↔a.role=b.role∧a.seen=b.seen∧a.aG=b.aG∧a.aW=b.aW∧a.bu=b.bu:=⟨by rintro rfl;exact⟨rfl,rfl,rfl,rfl,rfl⟩,fun ⟨h1,h2,h3,h4,h5⟩=>by cases a;cases b;simp_all⟩
theorem adi {w:World} {a b:MetaM} {ta tb:TypeId} {va vb:Value} (ha:au w ta 2 va (a.aW.map ct)) (hb:au w tb 2 vb (b.aW.map ct)) :
 ς 97 #[.agg (dy a va),.agg (dy b vb)] w fun e w'=>e=ώ (.bool (decide (a=b)))∧υ w w':=by
 obtain⟨a1,a2,a3,l1,s1⟩:=a;obtain⟨b1,b2,b3,l2,s2⟩:=b;simp only at ha hb
 obtain⟨A,cap,bA,off,rfl,hcap,hl,hA,hat⟩:=ha.open_;obtain⟨B,eY,bB,off2,rfl,rT,hl2,hB,uM⟩:=hb.open_;simp only[bp] at hcap hl hA rT hl2 hB;obtain⟨S1,b9⟩:∃S,str s1=S:=⟨_,rfl⟩;obtain⟨S2,a_⟩:∃S,str s2=S:=⟨_,rfl⟩;obtain⟨r,hr⟩:=κ (decide ((⟨a1,a2,a3,l1,s1⟩:MetaM)=⟨b1,b2,b3,l2,s2⟩));rw[hr];have hr2:decide (a1=b1∧a2=b2∧a3=b3∧l1=l2∧s1=s2)=r:=by rw[← hr,J9,agp]
 unfold dy;simp only[bp];rw[b9,a_];obtain⟨c,hc⟩:=κ w.heap.size;have H:=gU hat uM hr2 hc b9 a_;clear hat uM ha hb hr hr2 hc b9 a_;go_enter func97,ntmps97
 go_upto_region 1 with fail
 rw[H.out.2.2.2.1];generalize hw1:World.alloc (World.alloc _ _) _=w1;have aM:η w1 c 79 #[ι a1,ι a2,ι a3,.slice A l1.length cap,.string S1]:=by rw[← hw1,← H.out.2.2.2.1];exact(η.new w _ _).alloc _
 have aB:η w1 (c+1) 79 #[ι b1,ι b2,ι b3,.slice B l2.length eY,.string S2]:=by
  have:=η.new (w.alloc (.cells #[ι a1,ι a2,ι a3,.slice A l1.length cap,.string S1] 79)) 79 #[ι b1,ι b2,ι b3,.slice B l2.length eY,.string S2];rw[cM,H.out.2.2.2.1] at this;rw[← hw1];exact this
 have ax:υ w w1:=by rw[← hw1];exact((ζ.refl _ w).alloc _).alloc _
 clear hw1;have HB:=aj aM aB ax;have x3:w1.cell? ⟨c,3,none⟩=some (.slice A l1.length cap):=aM.cell 3;have y3:w1.cell? ⟨c+1,3,none⟩=some (.slice B l2.length eY):=aB.cell 3;clear aM aB ax;by_cases hn:l1.length=l2.length
 ·have q0:((l1.length:Int) != (l2.length:Int))=false:=by rw[hn];simp
  have HN:=δ hn;clear hn;go_wp2_with fail
  go_loopw [5] (fun i wr=>∃k:Nat,k≤l1.length∧i=ι k∧υ w1 wr∧l1.take k=l2.take k) (fun i _=>l1.length - (intOf i).toNat)
  case atStart=>exact⟨0,oM,rfl,ζ.refl _ _,rfl⟩
  case round =>
   obtain⟨k,hk,rfl,hu,dn⟩:=hrel;have JI:=HB.out.2.2.then hu φ;have HT:=aj dn hu hk;have HU:=τ hu JI;clear dn x3 y3;have x3:wr.cell? ⟨c,3,none⟩=some (.slice A l1.length cap):=(HB.out.1.ε hu (fun e=>e)).cell 3;have y3:wr.cell? ⟨c+1,3,none⟩=some (.slice B l2.length eY):=(HB.out.2.1.ε hu (fun e=>e)).cell 3;by_cases hlt:k<l1.length
   ·obtain rfl:=hA oM
    obtain rfl:=hB (oN HN.out);have bn:k<l2.length:=by have:=HN.out;omega
    obtain⟨x,hx⟩:=κ (l1[k]);obtain⟨y,hy⟩:=κ (l2[k]'bn);have hrow:=H.out.1 wr _ JI (fun _ _ e=>e) k (ct x) (by rw[gu,bD hlt,hx];rfl)
    have mG:=H.out.2.1 wr _ JI (fun _ _ e=>e) k (ct y) (by rw[gu,bD bn,hy];rfl)
    obtain⟨X1,pJ⟩:∃X,str x.name=X:=⟨_,rfl⟩;obtain⟨X2,lJ⟩:∃X,x.wE=X:=⟨_,rfl⟩;obtain⟨Y1,vA⟩:∃X,str y.name=X:=⟨_,rfl⟩;obtain⟨Y2,vB⟩:∃X,y.wE=X:=⟨_,rfl⟩;have Tl:wr.cell? ⟨bA,off+k*2,none⟩=some (.string X1):=hrow 0 _ (by rw[← pJ];rfl)
    have Tm:wr.cell? ⟨bA,off+k*2+1,none⟩=some (.bool X2):=hrow 1 _ (by rw[← lJ];rfl)
    have Tn:wr.cell? ⟨bB,off2+k*2,none⟩=some (.string Y1):=mG 0 _ (by rw[← vA];rfl)
    have Tp:wr.cell? ⟨bB,off2+k*2+1,none⟩=some (.bool Y2):=mG 1 _ (by rw[← vB];rfl)
    have Cc:∀W,(binOp .neq 46 (.agg #[.string X1,.bool X2]) (.agg #[.string Y1,.bool Y2])).run prog W=.ok (.bool (!decide (x=y))) W:=fun W=>by
     have:=aeA x y W;unfold ct at this;rw[pJ,lJ,vA,vB] at this;exact this
    have HX:=aD hx hy hlt bn;have j1:(k:Int)<(l1.length:Int):=oM;have hwk:IntKind.i64.wrap ((k:Int)+1)=(k:Int)+1:=bX _ oM;clear hrow mG hx hy pJ lJ vA vB hu JI;by_cases he:x=y
    ·rw[fe he] at Cc
     have HE:=δ he;clear he;go_wp2_with fail
     go_quiet (fail)
     go_wp2_with fail
     go_roundw
     case rel =>
      refine⟨k+1,oM,sM,HU.out.1.drewN _,?_⟩;refine Kh HX.out.2.2.1 HX.out.2.2.2 HT.out.1 ?_;exact(HX.out.1.trans HE.out).trans HX.out.2.1.symm
     case measure=>simp[intOf]<;>omega
    ·rw[gN he] at Cc
     have hrf:r=false:=by
      rw[← H.out.2.2.1,nj];intro hab;apply he
      rw[← HX.out.1,← HX.out.2.1];simp only[hab.2.2.2.1]
     subst hrf;clear he;go_wp2_with fail
     go_quiet (fail)
     go_wp2_with fail
     go_ret
     exact⟨rfl,HU.out.2.drewN _⟩
   ·have j1:¬(k:Int)<(l1.length:Int):=oM
    have v1:=HB.out.1.ε hu (fun e=>e);have v2:=HB.out.2.1.ε hu (fun e=>e);have e0:wr.cell? ⟨c,0,none⟩=some (ι a1):=v1.cell 0;have e1:wr.cell? ⟨c,1,none⟩=some (ι a2):=v1.cell 1;have e2:wr.cell? ⟨c,2,none⟩=some (ι a3):=v1.cell 2;have e4:wr.cell? ⟨c,4,none⟩=some (.string S1):=v1.cell 4;have f0:wr.cell? ⟨c+1,0,none⟩=some (ι b1):=v2.cell 0;have f1:wr.cell? ⟨c+1,1,none⟩=some (ι b2):=v2.cell 1;have f2:wr.cell? ⟨c+1,2,none⟩=some (ι b3):=v2.cell 2;have f4:wr.cell? ⟨c+1,4,none⟩=some (.string S2):=v2.cell 4;clear v1 v2 hu JI;have xq:r=(decide (a1=b1) && decide (a2=b2) && decide (a3=b3) && decide (s1=s2)):=by
     rw[← H.out.2.2.1,vH];simp only[gY,dR];have hl:l1=l2:=by
      have:=HT.out.1;rwa [dH oM,dH (oN HN.out)] at this
     exact⟨fun h=>⟨⟨⟨h.1,h.2.1⟩,h.2.2.1⟩,h.2.2.2.2⟩,fun h=>⟨h.1.1.1,h.1.1.2,h.1.2,hl,h.2⟩⟩
    have Nj:=δ xq;clear xq;by_cases z1:a1=b1
    ·have q1:(a1 == b1)=true:=by rw[kV];exact z1
     have Z1:=δ z1;clear z1;by_cases z2:a2=b2
     ·have q2:(a2 == b2)=true:=by rw[kV];exact z2
      have Z2:=δ z2;clear z2;by_cases z3:a3=b3
      ·have q3:(a3 == b3)=true:=by rw[kV];exact z3
       have Z3:=δ z3;clear z3;have q4:(S1.toList == S2.toList)=decide (s1=s2):=by rw[← H.out.2.2.2.2.1,← H.out.2.2.2.2.2];exact KX _ _
       obtain rfl:r=decide (s1=s2):=by rw[Nj.out,fe Z1.out,fe Z2.out,fe Z3.out];simp
       go_wp2_with fail
       go_ret
       exact⟨rfl,HU.out.2⟩
      ·have q3:(a3 == b3)=false:=by rw[eV];exact z3
       have hrf:r=false:=by rw[Nj.out,gN z3];simp
       subst hrf;go_wp2_with fail
       go_ret
       exact⟨rfl,HU.out.2⟩
     ·have q2:(a2 == b2)=false:=by rw[eV];exact z2
      have hrf:r=false:=by rw[Nj.out,gN z2];simp
      subst hrf;go_wp2_with fail
      go_ret
      exact⟨rfl,HU.out.2⟩
    ·have q1:(a1 == b1)=false:=by rw[eV];exact z1
     have hrf:r=false:=by rw[Nj.out,gN z1];simp
     subst hrf;go_wp2_with fail
     go_ret
     exact⟨rfl,HU.out.2⟩
 ·have hrf:r=false:=by
   rw[← H.out.2.2.1,nj];rintro⟨-,-,-,rfl,-⟩;exact hn rfl
  have q0:((l1.length:Int) != (l2.length:Int))=true:=by rw[jZ];omega
  subst hrf;go_wp2_with fail
  go_ret
  exact⟨rfl,HB.out.2.2⟩
theorem au.Lw (w:World) (t:TypeId) (k:Nat):au w t k (.slice none 0 0) []:=⟨none,0,rfl,bQ _,sM,fun h=>absurd h sM⟩
def xO (w wr:World) (c:Nat) (er:Value) (S:List ai):Prop :=
 υ w wr∧η wr c 93 #[.slice none 0 0]∧η wr (c+1) 93 #[er]∧au wr gd 2 er (S.map bz)∧(∀q,er.ownBlock=some q→c+1<q)∧w.heap.size=c
theorem xO.still {w wr wa:World} {c:Nat} {er:Value} {S:List ai} (h:xO w wr c er S) (ha:υ wr wa):xO w wa c er S :=
 ⟨h.1.then ha φ,h.2.1.ε ha (fun e=>e),h.2.2.1.ε ha (fun e=>e),h.2.2.2.1.still ha,h.2.2.2.2.1,h.2.2.2.2.2⟩
theorem xO.step {w wr w2 w3:World} {c:Nat} {er dA:Value} {S S2:List ai} (h:xO w wr c er S) (lE:au w2 gd 2 dA (S2.map bz)) (π:υ wr w2) (hl:∀q,dA.ownBlock=some q→wr.heap.size≤q) (aA:η w3 (c+1) 93 #[dA]) (χ:ζ (· = c+1) w2 w3):xO w w3 c dA S2:=by
 obtain⟨h1,h2,h3,h4,h5,h6⟩:=h;have h7:=h3.lt;refine⟨(h1.then π φ).then χ (fun q e=>.inr (by have e2:q=c+1:=e;omega)),(h2.ε π (fun e=>e)).ε χ (fun e=>by have e2:c=c+1:=e;omega),aA,lE.tg χ fun q hq _ e=>?_,fun q hq=>?_,h6⟩
 ·have:=hl q hq
  have e2:q=c+1:=e;omega
 ·have:=hl q hq
  omega
theorem aim {w:World} {ty:TypeId} {pv:Value} {l:List ai} (hO:au w ty 2 pv (l.map bz)) (hs:∀q ∈ l,q.1.length≤1000000∧q.2.length≤1000000) :
 ς 154 #[pv] w fun e w'=>∃gK,e=ώ (.tuple #[.agg #[gK],ι (fL l).2])∧au w' gd 2 gK ((fL l).1.map bz)∧υ w w'∧(∀q,gK.ownBlock=some q→w.heap.size≤q):=by
 obtain⟨A,cap,b,off,rfl,hcap,hl,hA,hat⟩:=hO.open_;simp only[bp] at hcap hl hA ⊢;have hrow:∀W,υ w W→Pq W b off l:=fun W hW k h=>hat W _ hW (fun _ _ e=>e) k (bz l[k]) (by rw[gu,bD h];rfl)
 obtain⟨R,hR⟩:=κ (fL l);rw[hR];have hR0:R=if 48<l.length then ([],6) else kS [] l:=hR.symm
 have HF:=aj hrow hs hR0;obtain⟨c,hc⟩:=κ w.heap.size;have Hc:=δ hc;clear hrow hs hat hc hO hR hR0;go_enter func154,ntmps154
 go_upto_region 2 with fail
 rw[Hc.out];generalize hw1:World.alloc (World.alloc _ _) _=w1;have h1:xO w w1 c (.slice none 0 0) []:=by
  have aM:η w1 c 93 #[.slice none 0 0]:=by rw[← hw1,← Hc.out];exact(η.new w _ _).alloc _
  have oB:η w1 (c+1) 93 #[.slice none 0 0]:=by
   have:=η.new (w.alloc (.cells #[.slice none 0 0] 93)) 93 #[.slice none 0 0];rw[cM,Hc.out] at this;rw[← hw1];exact this
  have ax:υ w w1:=by rw[← hw1];exact((ζ.refl _ w).alloc _).alloc _
  exact⟨ax,aM,oB,au.Lw _ _ _,by simp[Value.ownBlock],Hc.out⟩
 have H1:=δ h1;clear h1 hw1;by_cases h48:(48:Int)<(l.length:Int)
 ·have hR:R=([],6):=by rw[HF.out.2.2,σ oM]
  subst hR;go_wp2_with (first
   |(refine kW rfl 93 _ rfl (c+1) rfl _ #[.slice none 0 0] _ H1.out.2.2.1 underlying93 rfl kR ?_)
   |(refine ef 93 c #[.slice none 0 0] H1.out.2.1 (ot rfl) ?_
     intro w3 aA χ fK))
  exact cy (iR rfl _ _ c _ _ _ _ rfl aA underlying93 rfl kR _ rfl) rfl ⟨.slice none 0 0,rfl,au.Lw _ _ _,H1.out.1.then χ (fun q e=>.inr (by have e2:q=c:=e;have:=Hc.out;omega)),by simp[Value.ownBlock]⟩
 have hR:kS [] l=R:=by rw[HF.out.2.2,ν oM]
 have HR:=δ hR;clear hR;go_wp2_with fail
 go_loopw [5,6,7,8,9,10] (fun i _ _ _ _ _ wr=>∃(k:Nat) (er:Value) (T:List ai),k≤l.length∧i=ι (k:Int)∧xO w wr c er T∧kS T (l.drop k)=R∧fX T∧(∀q ∈ T,q.1.length≤1000000)∧T.length≤k) (fun i _ _ _ _ _ _=>l.length - (intOf i).toNat)
 case atStart=>exact⟨0,.slice none 0 0,[],oM,rfl,H1.out,HR.out,List.Pairwise.nil,sM,bQ _⟩
 case round =>
  obtain⟨k,er,T,hk,rfl,hD,hE,hT,tM,gJ⟩:=hrel;have HD:=cx hD hT tM gJ (by omega:T.length≤1000);have hwk:IntKind.i64.wrap ((k:Int)+1)=(k:Int)+1:=bX _ oM;clear hD hT tM;by_cases hlt:k<l.length
  ·obtain rfl:=hA oM
   have j1:(k:Int)<(l.length:Int):=oM;obtain⟨o,ho⟩:=κ (l[k]);have iO:=HF.out.2.1 _ (eM hlt);rw[ua hlt,ho] at hE;rw[ho] at iO;obtain⟨P,hP⟩:=κ (str o.1);obtain⟨V,hV⟩:∃P,str o.2=P:=⟨_,rfl⟩;have hrw:∀W,υ w W→W.rangeAt b (off+k*2) [.string P,.string V]:=fun W hW=>by
    have:=HF.out.1 W hW k hlt;rw[ho] at this;unfold bz at this;rwa [hP,hV] at this
   have lB:P.data.toList=o.1:=by rw[← hP,bS]
   have kz:V.data.toList=o.2:=by rw[← hV,bS]
   have iM:P.size≤1000000:=by rw[← hP,bf];exact iO.1
   have ru:V.size=o.2.length:=by rw[← hV,bf]
   have hcut:=fun W=>Yp P iM W
   unfold Ev at hcut;obtain⟨a,ha⟩:=κ (str (mI P.data.toList).1);obtain⟨b',hb'⟩:∃a,str (mI P.data.toList).2.1=a:=⟨_,rfl⟩;obtain⟨B,hB⟩:∃a,(mI P.data.toList).2.2=a:=⟨_,rfl⟩;simp only[ha,hb',hB] at hcut;rw[lB] at hB;have aB:jg o.1=B:=hB;have Tu:wr.cell? ⟨b,off+k*2,none⟩=some (.string P):=hrw wr HD.out.1.1 0 _ rfl;have HX:=o_ hrw lB kz iM aB ru hE;have JH:=δ hcut;clear iO hrw lB kz iM hcut ha hb' hB aB hE ho hP hV ru;by_cases jl:B=false∨(32:Int)<(V.size:Int)
   ·have oB:R=([],1):=by rw[← HX.out.2.2.2.2.2.2];exact Pr (by rw[HX.out.2.2.2.2.1,← HX.out.2.2.2.2.2.1];exact jl.imp id fun h=>by omega)
    subst oB;have LZ:=δ jl;cases B
    all_goals
     clear jl;first
     |(have h32:(32:Int)<(V.size:Int):=by have:=LZ.out;simpa using this)
     | skip
     go_wp2_with (first
      |(go_at_call 199
        refine(JH.out _).mono ?_;rintro e w6 ⟨rfl,az⟩;have H6:=δ (HD.out.1.still az);have Ni:w6.cell? ⟨b,off+k*2+1,none⟩=some (.string V):=HX.out.1 _ H6.out.1 1 _ rfl;clear az)
      |(refine ef 93 c #[.slice none 0 0] H6.out.2.1 (ot rfl) ?_
        intro w7 dG bK jq))
     exact cy (iR rfl _ _ c _ _ _ _ rfl dG underlying93 rfl kR _ rfl) rfl ⟨.slice none 0 0,rfl,au.Lw _ _ _,H6.out.1.then bK (fun q e=>.inr (by have e2:q=c:=e;have:=Hc.out;omega)),by simp[Value.ownBlock]⟩
   ·obtain rfl:B=true:=by cases B<;>simp_all
    have h32:¬(32:Int)<(V.size:Int):=fun h=>jl (.inr h)
    have GK:¬(jg o.1=false∨32<o.2.length):=by rw[HX.out.2.2.2.2.1,← HX.out.2.2.2.2.2.1];simp;omega
    have HG:=δ GK;clear jl GK;go_upto_region 10 with (first
     |(go_at_call 199
       refine(JH.out _).mono ?_;rintro e w6 ⟨rfl,az⟩;have Tw:=HD.out.1.still az;have Ni:w6.cell? ⟨b,off+k*2+1,none⟩=some (.string V):=HX.out.1 _ Tw.1 1 _ rfl;have H6:=δ Tw;clear az Tw))
    clear Tu Ni;obtain⟨F,hF⟩:=κ (iW P.data.toList T);obtain⟨TH,Tx⟩:=κ (gR P.data.toList T);have Tz:=aeD (k:=P.data.toList) HD.out.2.1;rw[Tx] at Tz;have CL:=aj hF Tx Tz;clear hF Tx Tz;refine dB ?_;refine dK (S:=fun w'=>η w' (c+1) 93 #[er]∧w'.cell? ⟨b,off+k*2,none⟩=some (.string P)) (T:=fun _=>false) kR ?_;have aC:η w6.drew (c+1) 93 #[er]∧w6.drew.cell? ⟨b,off+k*2,none⟩=some (.string P):=⟨H6.out.2.2.1.drew,HX.out.1 _ H6.out.1.drew 0 _ rfl⟩;refine iq 0 (.agg #[er]) (kX rfl (by rfl) _ _ rfl (c+1) (by rfl) _ _ _ (fun w' hSw=>hSw.1) underlying93 rfl kR) ?_;refine ξ 1 ?_;refine ξ 2 ?_;refine ξ 3 ?_;refine ξ 4 ?_;refine aQ 5 (fun w' hSw=>hSw.2) ?_;refine aY 6 (fun KK ο=>?_);go_simp
    refine(P0 (H6.out.2.2.2.1.still (ζ.refl _ w6).drew) HD.out.2.2.1 P HX.out.2.2.2.1).mono ?_;rw[CL.out.1,CL.out.2.1];rintro e w7 ⟨rfl,bK⟩;have Nk:=(H6.out.still (ζ.refl _ w6).drew).still bK;have lU:η w7 (c+1) 93 #[er]∧w7.cell? ⟨b,off+k*2,none⟩=some (.string P):=⟨Nk.2.2.1,HX.out.1 _ Nk.1 0 _ rfl⟩;have H7:=δ Nk;refine ο.out _ _ lU ?_;clear ο Nk bK;refine ξ 7 ?_;refine ξ 8 ?_;refine ξ 9 ?_;refine ξ 10 ?_;refine ξ 11 ?_;refine dF ?_;refine cZ ?_;clear aC lU;cases TH
    ·have bY:=Wp (r:=l.drop (k+1)) HG.out (by rw[← HX.out.2.1];exact CL.out.2.2)
     have me:=δ (bY.symm.trans HX.out.2.2.2.2.2.2);clear bY;go_upto_region 13 with fail
     refine dB ?_;refine dK (S:=fun w'=>η w' (c+1) 93 #[er]∧w'.cell? ⟨b,off+k*2,none⟩=some (.string P)∧w'.cell? ⟨b,off+k*2+1,none⟩=some (.string V)) (T:=fun i=>i == 12) kR ?_;have aC:η w7.drew (c+1) 93 #[er]∧w7.drew.cell? ⟨b,off+k*2,none⟩=some (.string P)∧w7.drew.cell? ⟨b,off+k*2+1,none⟩=some (.string V):=⟨H7.out.2.2.1.drew,HX.out.1 _ H7.out.1.drew 0 _ rfl,HX.out.1 _ H7.out.1.drew 1 _ rfl⟩;refine iq 0 (.agg #[er]) (kX rfl (by rfl) _ _ rfl (c+1) (by rfl) _ _ _ (fun w' hSw=>hSw.1) underlying93 rfl kR) ?_;refine ξ 1 ?_;refine ξ 2 ?_;refine ξ 3 ?_;refine ξ 4 ?_;refine aQ 5 (fun w' hSw=>hSw.2.1) ?_;refine ξ 6 ?_;refine ξ 7 ?_;refine ξ 8 ?_;refine ξ 9 ?_;refine aQ 10 (fun w' hSw=>hSw.2.2) ?_;refine aY 11 (fun KK ο=>?_);go_simp
     refine(XB (H7.out.2.2.2.1.still (ζ.refl _ w7).drew) HD.out.2.2.1 (oN HD.out.2.2.2.2) P V HX.out.2.2.2.1).mono ?_;rintro e w8 ⟨lv8,rfl,aax,Ia,ry⟩;have TA:=aax.any;have cC:υ w7 w8:=(ζ.refl _ w7).drew.then Ia φ;have ij:η w8 (c+1) 93 #[er]∧w8.cell? ⟨b,off+k*2,none⟩=some (.string P)∧w8.cell? ⟨b,off+k*2+1,none⟩=some (.string V):=⟨aC.1.ε Ia (fun e=>e),HX.out.1 _ (H7.out.1.drew.then Ia φ) 0 _ rfl,HX.out.1 _ (H7.out.1.drew.then Ia φ) 1 _ rfl⟩;refine ο.out _ _ ij ?_;clear ο aax Ia;refine kO 12 (fun KK ο=>?_);rw[σ (show Region.wanted _ _=true by rfl)];refine FI _ _ _ rfl (c+1) #[lv8] rfl rfl _ _ ij.1 rfl (ot TA.one) kR (fun w9 cW eC mT=>?_);refine ο.out _ _ ?_;clear ο;simp only[Act.put];refine dF ?_;refine cZ ?_;have JJ:=xO.step H7.out TA cC ry cW eC;rw[HX.out.2.1,HX.out.2.2.1] at JJ;have H8:=δ JJ;clear JJ TA cC ry cW eC;go_wp2_with fail
     go_roundw
     case rel =>
      refine⟨k+1,lv8,jm o.1 o.2 T,oM,sM,H8.out,me.out,Bh HD.out.2.1,fun q hq=>?_,iE (O_ _ _ _) oM⟩;rcases (zb HD.out.2.1 q).1 hq with rfl | ⟨hq,-⟩
      ·rw[← HX.out.2.1]
       have:=HX.out.2.2.2.1;simpa using this
      ·exact HD.out.2.2.1 q hq
     case measure=>simp[intOf]<;>omega
    ·have oB:R=([],5):=by rw[← HX.out.2.2.2.2.2.2];exact VJ HG.out (by rw[← HX.out.2.1];exact CL.out.2.2)
     subst oB;go_wp2_with (first
      |(refine ef 93 c #[.slice none 0 0] H7.out.2.1 (ot rfl) ?_
        intro w8 jc cC kC))
     exact cy (iR rfl _ _ c _ _ _ _ rfl jc underlying93 rfl kR _ rfl) rfl ⟨.slice none 0 0,rfl,au.Lw _ _ _,H7.out.1.then cC (fun q e=>.inr (by have e2:q=c:=e;have:=Hc.out;omega)),by simp[Value.ownBlock]⟩
  ·obtain rfl:k=l.length:=oM
   have hRT:R=(T,0):=by rw[← hE,pN oM];rfl
   subst hRT;have j1:¬(l.length:Int)<(l.length:Int):=oM;have HO1:=δ (ot HD.out.1.2.2.2.1.one);clear hE;go_wp2_with (first
    |(refine kW rfl 93 _ rfl (c+1) rfl _ #[er] _ HD.out.1.2.2.1 underlying93 rfl kR ?_)
    |(refine ef 93 c #[er] HD.out.1.2.1 HO1.out ?_
      intro w3 aA χ fK))
   refine cy (iR rfl _ _ c _ _ _ _ rfl aA underlying93 rfl kR _ rfl) rfl ⟨er,rfl,HD.out.1.2.2.2.1.tg χ (fun q hq _ e=>?_),HD.out.1.1.then χ (fun q e=>.inr (by have e2:q=c:=e;have:=Hc.out;omega)),fun q hq=>?_⟩
   ·have:=HD.out.1.2.2.2.2.1 q hq
    have e2:q=c:=e;omega
   ·have:=HD.out.1.2.2.2.2.1 q hq
    have:=Hc.out;omega
def BP (m:MetaM) (l:List ai) (at_ ep:Int):Int:=if dS m=false∨mE at_ ep=false then 1 else (fL l).2
theorem Nl {P:Prop} (h:P:=by
 clear hp2;go_wp2_with (first
  |(refine fV 95 c H2.out.1 underlying95 ?_)
  |(refine ef 95 (c+2) #[ι a,ι b,ι d,mv,.string S,lv,ι at_,ι ep,rv,ι pr,ι ky] H2.out.2.2.1 fR.out.1 ?_
    intro w4 aE ag cG))
 refine cy (iR rfl _ _ (c+2) _ _ _ _ rfl aE underlying95 rfl kR _ rfl) rfl (by have hu:=H2.out.2.2.2.then ag (fun q e=>.inr (by have e2:q=c+2:=e;have:=Hc.out;omega));first| exact .inr ⟨dC,rfl,hu⟩ | exact⟨rfl,hu⟩)):P:=h
theorem acs {w:World} {a b d:Int} {mv:Value} {S:ByteArray} {lv:Value} {at_ ep:Int} {rv:Value} {pr ky:Int} (h1:mv.oneCell'=true) (h2:lv.oneCell'=true) (h3:rv.oneCell'=true) (m:MetaM) {ty:TypeId} {cv:Value} (dJ:au w ty 2 cv (m.aW.map ct)) (hs:∀x ∈ m.aW,x.name.length≤1000000) {typ:TypeId} {pv:Value} {l:List ai} (hO:au w typ 2 pv (l.map bz)) (dP:∀q ∈ l,q.1.length≤1000000∧q.2.length≤1000000) (eF fE:Int) :
 ς 95 #[.agg (ku a b d mv S lv at_ ep rv pr ky),.agg (dy m cv),pv,ι eF,ι fE] w fun e w' =>
  (BP m l eF fE=0∧∃cD,e=ώ (.tuple #[.agg (ku m.role m.seen m.aG cv (str m.bu) cD eF fE (.slice none 0 0) fE ky),ι 0])∧au w' gd 2 cD ((fL l).1.map bz)∧υ w w'∧(∀q,cD.ownBlock=some q→w.heap.size≤q)) ∨
  (BP m l eF fE≠0∧e=ώ (.tuple #[.agg (ku a b d mv S lv at_ ep rv pr ky),ι (BP m l eF fE)])∧υ w w'):=by
 have eE:=fun W (hW:υ w W)=>VY m (dJ.still hW) hs
 have lX:=fun W (hW:υ w W)=>aim (hO.still hW) dP
 have hone:=dJ.one;have ajO:=hO.one;obtain⟨S2,a_⟩:=κ (str m.bu);obtain⟨B,hB⟩:=κ (dS m);obtain⟨R1,R2,hR⟩:∃R1 R2,fL l=(R1,R2):=⟨_,_,rfl⟩;obtain⟨E,hE⟩:=κ (BP m l eF fE);have dX:E=if B=false∨mE eF fE=false then 1 else R2:=by rw[← hE];unfold BP;rw[hB,hR]
 unfold dy at eE ⊢;rw[a_,hB] at eE;rw[a_,hE];simp only[hR] at lX ⊢;have fR:=aj (uo (a:=a) (b:=b) (c:=d) (S:=S) (at_:=at_) (ep:=ep) (pr:=pr) (ky:=ky) h1 h2 h3) h3 (W4 (a:=m.role) (b:=m.seen) (c:=m.aG) (S:=S2) hone);have HM2:=δ hone;obtain⟨c,hc⟩:=κ w.heap.size;have Hc:=δ hc;have mW:=τ eE lX;have HE:=δ dX;clear hc h1 h2 h3 eE hone a_ hB dJ hs hO dP lX hR hE dX ajO;unfold ku at fR ⊢;go_enter func95,ntmps95
 go_upto_region 1 with fail
 rw[Hc.out];generalize hw1:World.alloc (World.alloc (World.alloc _ _) _) _=w1;obtain⟨aM,hM1,pK,ax⟩:=XC w #[ι a,ι b,ι d,mv,.string S,lv,ι at_,ι ep,rv,ι pr,ι ky] #[ι m.role,ι m.seen,ι m.aG,cv,.string S2] #[ι 0,ι 0,ι 0,.slice none 0 0,.string ⟨#[]⟩,.slice none 0 0,ι 0,ι 0,.slice none 0 0,ι 0,ι 0] Hc.out w1 hw1;have H1:=aD aM hM1 pK ax;clear hw1 aM hM1 pK ax;cases B
 ·obtain rfl:E=1:=by rw[HE.out,σ (.inl rfl)]
  go_wp2_with (first
   |(refine fV 79 (c+1) H1.out.2.1 underlying79 ?_)
   |(go_at_call 42
     refine(mW.out.1 _ H1.out.2.2.2).mono ?_;rintro e w2 ⟨rfl,π⟩;have H2:=aD (H1.out.1.ε π (fun e=>e)) (H1.out.2.1.ε π (fun e=>e)) (H1.out.2.2.1.ε π (fun e=>e)) (H1.out.2.2.2.then π φ);clear π)
   |(refine fV 95 c H2.out.1 underlying95 ?_)
   |(refine ef 95 (c+2) #[ι a,ι b,ι d,mv,.string S,lv,ι at_,ι ep,rv,ι pr,ι ky] H2.out.2.2.1 fR.out.1 ?_
     intro w4 aE ag cG))
  refine cy (iR rfl _ _ (c+2) _ _ _ _ rfl aE underlying95 rfl kR _ rfl) rfl (by have hu:=H2.out.2.2.2.then ag (fun q e=>.inr (by have e2:q=c+2:=e;have:=Hc.out;omega));first| exact .inr ⟨dC,rfl,hu⟩ | exact⟨rfl,hu⟩)
 go_upto_region 3 with (first
  |(refine fV 79 (c+1) H1.out.2.1 underlying79 ?_)
  |(go_at_call 42
    refine(mW.out.1 _ H1.out.2.2.2).mono ?_;rintro e w2 ⟨rfl,π⟩;have H2:=aD (H1.out.1.ε π (fun e=>e)) (H1.out.2.1.ε π (fun e=>e)) (H1.out.2.2.1.ε π (fun e=>e)) (H1.out.2.2.2.then π φ);clear π))
 cases hp:mE eF fE
 ·obtain rfl:E=1:=by rw[HE.out,σ (.inr hp)]
  have hp2:¬(eF=0∧fE=0)∧¬(1≤eF∧eF≤4611686018427387904∧1≤fE):=by
   unfold mE at hp;rw[Bool.or_eq_false_iff,nj,nj] at hp;exact hp
  clear hp;by_cases z0:eF=0
  ·subst z0
   have hne:(fE != 0)=true:=by rw[jZ];intro e;exact hp2.1 ⟨rfl,e⟩
   exact Nl
  ·have bG:(eF == 0)=false:=by rw[eV];exact z0
   have aT:(eF != 0)=true:=by rw[jZ];exact z0
   have akr:=δ hp2;by_cases l1:eF<1
   ·exact Nl
   ·by_cases g1:(4611686018427387904:Int)<eF
    ·exact Nl
    ·have e1:fE<1:=oM
     exact Nl
 ·have zR:E=R2:=by rw[HE.out,ν (by rw[hp];simp)]
  have yg:=δ zR;have hp2:(eF=0∧fE=0)∨(1≤eF∧eF≤4611686018427387904∧1≤fE):=by
   unfold mE at hp;rw[FB,dR,dR] at hp;exact hp
  clear zR hp;have hb:((eF == 0)=true∧(eF != 0)=false∧(fE != 0)=false)∨((eF == 0)=false∧(eF != 0)=true∧¬eF<1∧¬(4611686018427387904:Int)<eF∧¬fE<1):=by
   rcases hp2 with ⟨rfl,rfl⟩ | ⟨x1,x2,x3⟩
   ·exact .inl ⟨rfl,rfl,rfl⟩
   ·exact .inr ⟨by rw[eV];omega,by rw[jZ];omega,oM,oM,oM⟩
  clear hp2;rcases hb with ⟨b1,b2,b3⟩ | ⟨b1,b2,b3,b4,b5⟩
  all_goals
   go_upto_region 5 with fail
   go_upto_region 6 with (first
    |(go_at_call 154
      refine(mW.out.2 _ H2.out.2.2.2).mono ?_;rintro e w3 ⟨cD,rfl,mz,χ,fI⟩;have nG:=ot mz.one)
    |(refine ef 93 w3.heap.size #[cD] (η.new w3 _ _) nG ?_
      intro w5 aF av iz))
   obtain⟨g,hg⟩:=κ w3.heap.size;rw[hg] at aF av ⊢;have eR:c+2<g:=by have:=(H2.out.2.2.1.ε χ (fun e=>e)).lt;omega
   have uN:υ w2 w5:=(χ.alloc _).then av (fun q e=>.inr (by have e2:q=g:=e;have:=χ.size;omega));have fS:υ w3 w5:=((ζ.refl _ w3).alloc _).then av (fun q e=>.inr (by have e2:q=g:=e;omega));have H5:=δ (And.intro (H2.out.1.ε uN (fun e=>e)) (And.intro (H2.out.2.1.ε uN (fun e=>e)) (And.intro (H2.out.2.2.1.ε uN (fun e=>e)) (And.intro (H2.out.2.2.2.then uN φ) (And.intro aF (And.intro (mz.still fS) (And.intro fI (And.intro eR (H2.out.2.2.2.size)))))))));clear uN fS aF av iz hg eR χ mz b1 b2 b3;by_cases h0:R2=0
   ·subst h0
    obtain rfl:E=0:=yg.out;go_upto_region 9 with (first
     |(refine fV 79 (c+1) H5.out.2.1 underlying79 ?_)
     |(refine xB rfl 79 _ _ rfl c 0 #[ι m.role,ι m.seen,ι m.aG,cv,.string S2] rfl rfl _ _ #[ι m.role,ι m.seen,ι m.aG,cv,.string S2,lv,ι at_,ι ep,rv,ι pr,ι ky] H5.out.1 sM rfl fR.out.2.2 kR ?_
       intro w6 cI az iB))
    have H6:=aD cI (H5.out.2.2.2.2.1.ε az (fun e=>by have e2:g=c:=e;have:=H5.out.2.2.2.2.2.2.2.1;omega)) az (ot H5.out.2.2.2.2.2.1.one);clear cI az iB;go_upto_region 10 with (first
     |(refine fV 93 g H6.out.2.1 underlying93 ?_)
     |(refine xB rfl 93 _ _ rfl c 5 #[cD] rfl rfl _ _ #[ι m.role,ι m.seen,ι m.aG,cv,.string S2,cD,ι at_,ι ep,rv,ι pr,ι ky] H6.out.1 sM rfl H6.out.2.2.2 kR ?_
       intro w7 dG bK jq))
    have H7:=τ dG bK;clear dG bK jq;go_upto_region 11 with (first
     |(refine gw rfl 3 _ _ rfl c 6 (ι eF) rfl rfl _ _ H7.out.1 sM rfl kR ?_
       intro w8 jc cC kC))
    rw[show (#[ι m.role,ι m.seen,ι m.aG,cv,.string S2,cD,ι at_,ι ep,rv,ι pr,ι ky]:Array Value).setIfInBounds 6 (ι eF)=#[ι m.role,ι m.seen,ι m.aG,cv,.string S2,cD,ι eF,ι ep,rv,ι pr,ι ky] from rfl] at jc;have H8:=τ jc cC;clear jc cC kC;go_upto_region 12 with (first
     |(refine gw rfl 3 _ _ rfl c 7 (ι fE) rfl rfl _ _ H8.out.1 sM rfl kR ?_
       intro w9 cW eC mT))
    rw[show (#[ι m.role,ι m.seen,ι m.aG,cv,.string S2,cD,ι eF,ι ep,rv,ι pr,ι ky]:Array Value).setIfInBounds 7 (ι fE)=#[ι m.role,ι m.seen,ι m.aG,cv,.string S2,cD,ι eF,ι fE,rv,ι pr,ι ky] from rfl] at cW;have Ro:ζ (· = c) w5 w9:=((H6.out.2.2.1.then H7.out.2 (fun _ e=>.inl e)).then H8.out.2 (fun _ e=>.inl e)).then eC (fun _ e=>.inl e);have hfg:=fun W=>Wy (w:=W) (a:=m.role) (b:=m.seen) (d:=m.aG) (S:=S2) (at_:=eF) (ep:=fE) (rv:=rv) (pr:=pr) (ky:=ky) HM2.out H5.out.2.2.2.2.2.1.one
    unfold ku at hfg;have H9:=aj cW (H5.out.2.2.1.ε Ro (fun e=>by have e2:c+2=c:=e;omega)) Ro;have JK:=δ hfg;have Yt:=δ (uo (a:=m.role) (b:=m.seen) (c:=m.aG) (S:=S2) (at_:=eF) (ep:=fE) (rv:=.slice none 0 0) (pr:=fE) (ky:=ky) HM2.out H5.out.2.2.2.2.2.1.one rfl);unfold ku at Yt;clear cW eC mT Ro hfg;go_wp2_with (first
     |(refine fV 95 c H9.out.1 underlying95 ?_)
     |(go_at_call 52
       refine(JK.out _).mono ?_;rintro e w10 ⟨rfl,eT⟩;have iL:=τ (H9.out.2.1.ε eT (fun e=>e)) eT;clear eT)
     |(refine ef 95 (c+2) #[ι m.role,ι m.seen,ι m.aG,cv,.string S2,cD,ι eF,ι fE,.slice none 0 0,ι fE,ι ky] iL.out.1 Yt.out ?_
       intro w11 f_ pW GW))
    have aay:ζ (fun q=>q=c∨q=c+2) w5 w11:=((H9.out.2.2.mono fun q (e:q=c)=>.inl (.inl e)).then iL.out.2 φ).then pW (fun q e=>.inl (.inr e));have kE:υ w w11:=H5.out.2.2.2.1.then aay (fun q e=>.inr (oN Hc.out));have aaz:au w11 gd 2 cD (R1.map bz):=H5.out.2.2.2.2.2.1.tg aay fun q hq _ e=>by
     have h1:=H5.out.2.2.2.2.2.2.1 q hq;have h2:=H2.out.2.2.1.lt;omega
    have uL:∀q,cD.ownBlock=some q→w.heap.size≤q:=fun q hq=>by
     have h1:=H5.out.2.2.2.2.2.2.1 q hq;have h2:=H2.out.2.2.1.lt;have:=Hc.out;omega
    refine cy (iR rfl _ _ (c+2) _ _ _ _ rfl f_ underlying95 rfl kR _ rfl) rfl ?_;first
     | exact .inl ⟨rfl,cD,rfl,aaz,kE,uL⟩
     | exact⟨cD,rfl,aaz,kE,uL⟩
   ·have h0':(R2 != 0)=true:=by rw[jZ];exact h0
    obtain rfl:E=R2:=yg.out;go_wp2_with (first
     |(refine fV 95 c H5.out.1 underlying95 ?_)
     |(refine ef 95 (c+2) #[ι a,ι b,ι d,mv,.string S,lv,ι at_,ι ep,rv,ι pr,ι ky] H5.out.2.2.1 fR.out.1 ?_
       intro w4 aE ag cG))
    refine cy (iR rfl _ _ (c+2) _ _ _ _ rfl aE underlying95 rfl kR _ rfl) rfl (by have hu:=H5.out.2.2.2.1.then ag (fun q e=>.inr (by have e2:q=c+2:=e;have:=Hc.out;omega));first| exact .inr ⟨h0,rfl,hu⟩ | exact⟨rfl,hu⟩)
end
end Go.Proofs.YtbhjgfibhegddaaGreat
