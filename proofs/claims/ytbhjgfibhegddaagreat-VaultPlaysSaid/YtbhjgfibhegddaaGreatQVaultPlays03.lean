/-
  Parts of the proof of VaultPlays: BatA, PackQ, BatB, ShaM, Big.
-/
import Derived.Test.YtbhjgfibhegddaaGreatQVaultPlays02
import Derived.IntWalk
import Derived.Laws.Bits64b
import Derived.Laws.Closers25b
set_option maxRecDepth 100000
set_option maxHeartbeats 16000000
namespace Go.Proofs.YtbhjgfibhegddaaGreat
abbrev ud:=@UInt8.toNat_inj
abbrev T8:=@Classical.em
abbrev JV:=@List.length_eq_zero_iff
abbrev y7:=@Go.ByteArray.toList_eq
abbrev fe:=@decide_eq_true
abbrev gN:=@decide_eq_false
abbrev Fu:=@List.length_pos_iff
abbrev Fv:=@not_false_eq_true
abbrev vI:=@if_true
abbrev vJ:=@List.flatMap_append
abbrev JW:=@List.mem_of_mem_take
abbrev Fw:=@List.take_zero
abbrev rO:=@List.take_length
abbrev T9:=@Int.emod_nonneg
abbrev T_:=@Int.emod_lt_of_pos
abbrev nh:=@List.getElem?_eq_none
abbrev Fx:=@List.length_set
abbrev ue:=@List.not_mem_nil
abbrev uf:=@or_false
abbrev AZ:=@List.drop_drop
abbrev fG:=@List.length_replicate
open Tryz
section
open Go Go.RowKit
def bU (o:cT):List Value:=[ϋ (o.kind.toNat:Int),.string (str o.path),.string (str o.value)]
def uw (w:World) (b off:Nat) (l:List cT):Prop:=∀i (h:i<l.length),w.rangeAt b (off+i*3) (bU l[i])
def qh (l:List cT):Prop:=∀o ∈ l,o.path.length≤1000000∧o.value.length≤1000000
theorem UD {l:List cT} {k:Nat} (hk:k<l.length):oQ (l.drop k)=if iK l[k]≠0 then iK l[k] else oQ (l.drop (k+1)):=by
 rw[ua hk,oQ]
theorem aeP (s:ByteArray) (hs:s.size≤1000000) (w:World) :
 ς 139 #[.string s] w fun e w'=>e=ώ (ι (if jg s.data.toList=false then 20 else 0))∧υ w w':=by
 have hc:=fun W=>W9 s hs W
 obtain⟨a,ha⟩:=κ (str (mI s.data.toList).1);obtain⟨b,hb⟩:∃a,str (mI s.data.toList).2.1=a:=⟨_,rfl⟩;obtain⟨B,hB⟩:∃a,jg s.data.toList=a:=⟨_,rfl⟩;rw[ha,hb,hB] at hc;rw[hB];have HC:=δ hc;clear hc ha hb hB;cases B
 ·go_enter func139,ntmps139
  go_wp2_with fail
  refine(HC.out _).mono ?_;rintro e w1 ⟨rfl,hU⟩;have HU:=δ hU;clear hU;go_wp2_with fail
  go_ret
  exact⟨rfl,HU.out⟩
 ·go_enter func139,ntmps139
  go_wp2_with fail
  refine(HC.out _).mono ?_;rintro e w1 ⟨rfl,hU⟩;have HU:=δ hU;clear hU;go_wp2_with fail
  go_ret
  exact⟨rfl,HU.out⟩
theorem YC {P:Prop} (h:P:=by
 have RC:Hid (oQ (l.drop (k+1))=E):=by
  have e0:iK o=0:=by rw[yg.out,ν (fun e=>e.2 (Mj.out.1 g2))]
  have:=HE.out;rw[e0] at this;exact δ (by simpa using this)
 have g3:V=ByteArray.empty:=by
  apply ByteArray.ext
  apply aaO
  exact g2
 subst g3;clear g2 g1;go_wp2_with fail
 go_roundw
 case rel=>exact⟨k+1,oM,by go_num,gC.out,RC.out⟩
 case measure=>simp[intOf]<;>omega):P:=h
theorem YD {P:Prop} (h:P:=by
 obtain rfl:(20:Int)=E:=by
  have e3:iK o=20:=by rw[rq.out];rfl
  have:=HE.out;rw[e3] at this;simpa using this
 go_wp2_with fail
 refine(LF.out _).mono ?_;rintro e w6 ⟨rfl,az⟩;have gC:=δ (de.out.1.then az φ);clear az c0 c1 c2;go_wp2_with fail
 go_ret
 exact⟨rfl,gC.out⟩):P:=h
theorem ahG {A:Option Addr} {cap b off:Nat} {l:List cT} {w:World} (hA:0<l.length→A=some ⟨b,off,none⟩) (hb:∀w',υ w w'→uw w' b off l) (hs:qh l) (hl:l.length≤1000000) :
 ς 138 #[.slice A l.length cap,.func (.func 139) #[] #[]] w fun e w'=>e=ώ (ι (oQ l))∧υ w w':=by
 obtain⟨E,hE⟩:=κ (oQ l);rw[hE];have HB:=δ hb;have HS:=τ hs hE;clear hb hs hE;go_enter func138,ntmps138
 go_wp2_with fail
 go_loopw [6,7,10] (fun _ _ i wr=>∃k:Nat,k≤l.length∧i=ι (k:Int)∧υ w wr∧oQ (l.drop k)=E) (fun _ _ i _=>l.length - (intOf i).toNat)
 case atStart=>exact⟨0,oM,rfl,ζ.refl _ _,HS.out.2⟩
 case round =>
  obtain⟨k,hk,rfl,hU,hE⟩:=hrel;by_cases hlt:k<l.length
  ·obtain rfl:=hA oM
   have hrow:=HB.out wr hU k hlt;have gD:=HS.out.1 _ (eM hlt);rw[UD hlt] at hE;obtain⟨o,ho⟩:=κ (l[k]);rw[ho] at hrow gD hE;have HR:=δ hrow;have HE:=δ hE;have HU:=δ hU;clear hrow hE hU ho;have j1:(k:Int)<(l.length:Int):=oM;have h25:=fun W=>aeP (str o.path) (by rw[bf];exact gD.1) W
   rw[bS] at h25;obtain⟨P,hP⟩:=κ (str o.path);obtain⟨V,hV⟩:∃P,str o.value=P:=⟨_,rfl⟩;obtain⟨K,hK⟩:∃K:Int,(o.kind.toNat:Int)=K:=⟨_,rfl⟩;have hrw:bU o=[ϋ K,.string P,.string V]:=by unfold bU;rw[hP,hV,hK]
   rw[hrw] at HR;rw[hP] at h25;have ru:V.size=o.value.length:=by rw[← hV,bf]
   have H25:=δ h25;have HV:=aj ru hV hK;clear h25 hrw hP hV ru hK gD;obtain⟨q,hq⟩:=κ wr.heap.size;have HQ:=δ hq;go_upto_region 4 with (first
    |(refine uc rfl _ _ rfl b (off+k*3) rfl [ϋ K,.string P,.string V] _ HR.out underlying32 rfl kR ?_))
   generalize cF:World.alloc _ _=w5;have aF:η w5 q 32 #[ϋ K,.string P,.string V]:=by rw[← cF,← HQ.out];exact η.new wr _ _
   have av:υ w w5:=by rw[← cF];exact HU.out.alloc _
   obtain⟨c0,c1,c2⟩:=aF.fP;have de:=τ av aF;clear av aF cF hq HR;by_cases BU:o.kind≠1∧o.kind≠2
   ·have ai1:E=10:=by rw[← HE.out];unfold iK;rw[σ BU];simp
    subst ai1;have k1:(K != 1)=true:=by
     rw[jZ,← HV.out.2.2];intro e;exact BU.1 (ud.1 (show o.kind.toNat=1 by omega))
    have k2:(K != 2)=true:=by
     rw[jZ,← HV.out.2.2];intro e;exact BU.2 (ud.1 (show o.kind.toNat=2 by omega))
    clear BU;go_wp2_with fail
    go_ret
    exact⟨rfl,de.out.1⟩
   ·have LG:K=1∧o.kind=1∨K=2∧o.kind=2:=by
     rcases T8 (o.kind=1) with e | e
     ·exact .inl ⟨by rw[← HV.out.2.2,e];rfl,e⟩
     ·refine .inr ?_
      have e2:o.kind=2:=xu fun c=>BU ⟨e,c⟩
      exact⟨by rw[← HV.out.2.2,e2];rfl,e2⟩
    have Qw:=δ LG;have HN:=δ BU;clear BU LG;rcases Qw.out with ⟨rfl,tu⟩ | ⟨rfl,tu⟩
    ·have eA:iK o=if jg o.path=false then 20 else if 32<o.value.length then 3 else if o.kind=2∧o.value≠[] then 1 else 0:=by
      unfold iK;rw[ν HN.out]
     have RD:=δ tu;have Ij:V.size=0↔o.value=[]:=by rw[HV.out.1,JV]
     rw[← HV.out.1] at eA;obtain⟨B,hB⟩:=κ (jg o.path);have h25:=H25.out;rw[hB] at eA h25;have LF:=δ h25;have rq:=δ eA;have Mj:=δ Ij;clear hB h25 eA Qw tu Ij;cases B
     ·exact YD
     ·go_wp2_with fail
      refine(LF.out _).mono ?_;rintro e w6 ⟨rfl,az⟩;have gC:=δ (de.out.1.then az φ);obtain⟨c0,c1,c2⟩:=(de.out.2.ε az (fun e=>e)).fP;clear az;by_cases g1:(32:Int)<(V.size:Int)
      ·obtain rfl:(3:Int)=E:=by
        have e3:iK o=3:=by rw[rq.out,ν sM,σ oM]
        have:=HE.out;rw[e3] at this;simpa using this
       go_wp2_with fail
       go_ret
       exact⟨rfl,gC.out⟩
      ·have zR:iK o=if o.kind=2∧o.value≠[] then 1 else 0:=by rw[rq.out,ν sM,ν oM]
       have yg:=δ zR;clear zR;by_cases g2:V.size=0
       ·exact YC
       ·have g4:(!V.toList.isEmpty)=true:=by
         rw[y7];have:V.data.toList≠[]:=fun e=>g2 (by have h:=aJ List.length e;simpa using h)
         simpa using this
        have Cg:=δ (fun e=>g2 (Mj.out.2 e));clear g2;have RC:Hid (oQ (l.drop (k+1))=E):=by
         have e0:iK o=0:=by rw[yg.out,ν (fun e=>by have:=e.1;rw[RD.out] at this;exact absurd this dC)]
         have:=HE.out;rw[e0] at this;exact δ (by simpa using this)
        go_wp2_with fail
        go_roundw
        case rel=>exact⟨k+1,oM,by go_num,gC.out,RC.out⟩
        case measure=>simp[intOf]<;>omega
    ·have eA:iK o=if jg o.path=false then 20 else if 32<o.value.length then 3 else if o.kind=2∧o.value≠[] then 1 else 0:=by
      unfold iK;rw[ν HN.out]
     have RD:=δ tu;have Ij:V.size=0↔o.value=[]:=by rw[HV.out.1,JV]
     rw[← HV.out.1] at eA;obtain⟨B,hB⟩:=κ (jg o.path);have h25:=H25.out;rw[hB] at eA h25;have LF:=δ h25;have rq:=δ eA;have Mj:=δ Ij;clear hB h25 eA Qw tu Ij;cases B
     ·exact YD
     ·go_wp2_with fail
      refine(LF.out _).mono ?_;rintro e w6 ⟨rfl,az⟩;have gC:=δ (de.out.1.then az φ);obtain⟨c0,c1,c2⟩:=(de.out.2.ε az (fun e=>e)).fP;clear az;by_cases g1:(32:Int)<(V.size:Int)
      ·obtain rfl:(3:Int)=E:=by
        have e3:iK o=3:=by rw[rq.out,ν sM,σ oM]
        have:=HE.out;rw[e3] at this;simpa using this
       go_wp2_with fail
       go_ret
       exact⟨rfl,gC.out⟩
      ·have zR:iK o=if o.kind=2∧o.value≠[] then 1 else 0:=by rw[rq.out,ν sM,ν oM]
       have yg:=δ zR;clear zR;by_cases g2:V.size=0
       ·exact YC
       ·have g4:(!V.toList.isEmpty)=true:=by
         rw[y7];have:V.data.toList≠[]:=fun e=>g2 (by have h:=aJ List.length e;simpa using h)
         simpa using this
        have Cg:=δ (fun e=>g2 (Mj.out.2 e));clear g2;obtain rfl:(1:Int)=E:=by
         have e3:iK o=1:=by rw[yg.out,σ ⟨RD.out,Cg.out⟩]
         have:=HE.out;rw[e3] at this;simpa using this
        go_wp2_with fail
        go_ret
        exact⟨rfl,gC.out⟩
  ·obtain rfl:E=0:=by rw[← hE,pN oM];rfl
   obtain rfl:k=l.length:=oM;have HU:=δ hU;clear hU hE;go_wp2_with fail
   go_ret
   exact⟨rfl,HU.out⟩
def lP (i e:Int) (ov:Value):Array Value:=#[ι i,ι e,ov]
theorem KE {A:Option Addr} {cap b off:Nat} {l:List cT} {w:World} {i ep:Int} (hA:0<l.length→A=some ⟨b,off,none⟩) (hb:∀w',υ w w'→uw w' b off l) (hs:qh l) (hl:l.length≤1000000) :
 ς 81 #[.agg (lP i ep (.slice A l.length cap))] w fun e w'=>e=ώ (ι (d_ i ep l))∧υ w w':=by
 have uR:=fun W (hW:υ w W)=>ahG (cap:=cap) (w:=W) hA (fun w' h=>hb w' (hW.then h φ)) hs hl
 obtain⟨E,hE⟩:=κ (d_ i ep l);obtain⟨E2,dX⟩:∃E,oQ l=E:=⟨_,rfl⟩;rw[hE];unfold d_ at hE;rw[dX] at hE uR;have Ik:=δ uR;have HE:=δ hE;clear uR hE dX hb hs hA;unfold lP;go_enter func81,ntmps81
 go_upto_region 1 with fail
 generalize cF:World.alloc _ _=w5;obtain⟨q,hq⟩:=κ w.heap.size;rw[hq];have aF:η w5 q 35 #[ι i,ι ep,.slice A l.length cap]:=by rw[← cF,← hq];exact η.new w _ _
 have av:υ w w5:=by rw[← cF];exact(ζ.refl _ w).alloc _
 obtain⟨c0,c1,c2⟩:=aF.fP;have de:=δ av;clear av aF cF hq;by_cases h1:i<1
 ·obtain rfl:(1:Int)=E:=by rw[← HE.out,σ (.inl h1)]
  go_wp2_with fail
  go_ret
  exact⟨rfl,de.out⟩
 ·by_cases h2:(4611686018427387904:Int)<i
  ·obtain rfl:(1:Int)=E:=by rw[← HE.out,σ (.inr (.inl h2))]
   go_wp2_with fail
   go_ret
   exact⟨rfl,de.out⟩
  ·by_cases h3:ep<1
   ·obtain rfl:(1:Int)=E:=by rw[← HE.out,σ (.inr (.inr h3))]
    go_wp2_with fail
    go_ret
    exact⟨rfl,de.out⟩
   ·by_cases h4:(4:Int)<(l.length:Int)
    ·obtain rfl:(3:Int)=E:=by rw[← HE.out,ν oM,σ oM]
     go_wp2_with fail
     go_ret
     exact⟨rfl,de.out⟩
    ·obtain rfl:E2=E:=by rw[← HE.out,ν oM,ν oM]
     go_wp2_with fail
     refine(Ik.out _ de.out).mono ?_;rintro e w6 ⟨rfl,az⟩;have gC:=δ (de.out.then az φ);clear az c0 c1 c2;go_wp2_with fail
     go_ret
     exact⟨rfl,gC.out⟩
structure dU (F:Nat→Prop) (w0 w:World) (o:Nat) (l:List UInt8):Prop where
 ex:∃v,η w o 171 #[v]∧Own w 5 1 v l.length (aK l)∧∀q,v.ownBlock=some q→F q∨w0.heap.size≤q
 new:F o∨w0.heap.size≤o
 ε:ζ F w0 w
theorem dU.still {F:Nat→Prop} {w0 w w':World} {o:Nat} {l:List UInt8} (h:dU F w0 w o l) (hu:υ w w'):dU F w0 w' o l:=by
 obtain⟨v,h1,h2,h3⟩:=h.ex;exact⟨⟨v,h1.ε hu (fun e=>e),h2.ε hu (fun _ _ e=>e),h3⟩,h.new,h.ε.then hu φ⟩
theorem dU.start (w:World):dU (fun _=>False) w (w.alloc (.cells #[.slice none 0 0] 171)) w.heap.size [] :=
 ⟨⟨_,η.new w _ _,Own.nil _ _ _,fun q hq=>by simp[Value.ownBlock] at hq⟩,.inr (bQ _),(ζ.refl _ w).alloc _⟩
theorem dU.here {F:Nat→Prop} {w0 w:World} {o:Nat} {l:List UInt8} (h:dU F w0 w o l):∃G:Nat→Prop,dU G w w o l∧(∀q,G q→F q∨w0.heap.size≤q)∧∀g t cs,η w g t cs→t≠171→t≠5→¬G g:=by
 obtain⟨v,h1,h2,h3⟩:=h.ex;refine⟨fun q=>q=o∨v.ownBlock=some q,⟨⟨v,h1,h2,fun q hq=>.inl (.inr hq)⟩,.inl (.inl rfl),ζ.refl _ _⟩,fun q hq=>?_,fun g t cs hB n1 n2 e=>?_⟩
 ·rcases hq with rfl | hq
  ·exact h.new
  ·exact h3 q hq
 ·rcases e with rfl | e
  ·exact absurd rfl (hB.zP h1 n1)
  ·exact h2.fO hB (fun e2=>n2 e2.symm) e
theorem dU.back {F G:Nat→Prop} {w0 w w':World} {o:Nat} {l l':List UInt8} (h:dU F w0 w o l) (hG:∀q,G q→F q∨w0.heap.size≤q) (h':dU G w w' o l'):dU F w0 w' o l':=by
 obtain⟨v,h1,h2,h3⟩:=h'.ex;have hs:=h.ε.size;have key:∀q,G q∨w.heap.size≤q→F q∨w0.heap.size≤q:=fun q hq=>hq.elim (hG q) (fun e=>.inr oM)
 exact⟨⟨v,h1,h2,fun q hq=>key q (h3 q hq)⟩,h.new,h.ε.then h'.ε hG⟩
theorem W_ {F:Nat→Prop} {w0 w:World} {o:Nat} {l:List UInt8} (h:dU F w0 w o l) {src:Value} {n:Nat} {news:List UInt8} (hs:Src prog w 89 1 src n (aK news)) (hn:news.length=n) (hm:l.length+n≤1000000) :
 ς 156 #[.pointer (some ⟨o,0,none⟩),src] w fun e w'=>e=ώ (.tuple #[])∧dU F w0 w' o (l++news):=by
 obtain⟨i0,bx,bN,bG,aT⟩:=je Bv;obtain⟨v,hB,hO,hv⟩:=h.ex;have hc:=hB.dD;have hf:=hB.frozen 0;have hne:=hO.fO hB dC;go_enter func156,ntmps156
 go_wp2_with (at_builtin
              refine jH rfl _ _ _ _ rfl 5 i0 _ 1 1 underlying89 bx bN bG aT rfl v l.length _ rfl hO _ n _ rfl hs (Bg _) (by unfold maxLen;omega) oM ?_;intro v2 w2 bH π hl2 bV;have aB:=hB.ε π (fun e=>hne e);have hc2:=aB.dD;have Ey:=aB.frozen 0;obtain⟨A2,eY,rfl,Ch,mO⟩:=bH.shape)
 go_end0
 have hn2:(Value.slice A2 (l.length+n) eY).ownBlock≠some o:=by
  rcases hl2 with e | e
  ·rw[e];exact hne
  ·rw[e];intro e2;have:=hB.lt;have:=dw e2;omega
 refine⟨rfl,⟨_,aB.bE 0 _,?_,fun q hq=>?_⟩,h.new,?_⟩
 ·have:=bH.bP (p:=⟨o,0,none⟩) hn2 (Value.slice A2 (l.length+n) eY)
  rw[aL,hn,qM];exact this
 ·rcases hl2 with e | e
  ·rw[e] at hq;exact hv q hq
  ·rw[e] at hq;have:=h.ε.size;have:=dw hq;exact .inr oM
 ·exact(h.ε.then π (fun q hq=>hv q hq)).setCell (p:=⟨o,0,none⟩) h.new _
theorem Oc {F:Nat→Prop} {w0 w:World} {o:Nat} {l:List UInt8} (h:dU F w0 w o l) (b:UInt8) {z:Int} (hz:z=(b.toNat:Int)) (hm:l.length+1≤1000000) :
 ς 156 #[.pointer (some ⟨o,0,none⟩),.slice (some ⟨w.heap.size,0,none⟩) 1 1] (w.alloc (.cells #[ϋ z] 5)) fun e w'=>e=ώ (.tuple #[])∧dU F w0 w' o (l++[b]):=by
 subst hz;exact W_ (h.still ((ζ.refl _ w).alloc _)) (news:=[b]) (Src.zi underlying89 _) rfl hm
theorem DT {F:Nat→Prop} {w0 w:World} {o:Nat} {l:List UInt8} (h:dU F w0 w o l) (n:Nat) (hn:n<18446744073709551616) (hm:l.length≤900000) :
 ς 98 #[.pointer (some ⟨o,0,none⟩),ω (n:Int)] w fun e w'=>e=ώ (.tuple #[])∧dU F w0 w' o (l++aN n):=by
 have h10:=dc hn;go_enter func98,ntmps98
 go_wp2_with fail
 refine(W6 n _ hn).mono ?_;rintro e w' ⟨rfl,rfl⟩;have H:=δ h;clear h;go_wp2_with fail
 go_loopw [1,4] (fun x i wr=>∃(k:Nat) (r:List UInt8),x=ω (k:Int)∧i=ι (bC k:Int)∧dU F w0 wr o (l++r)∧r++aN k=aN n∧k<18446744073709551616∧r.length≤10) (fun _ i _=>(intOf i).toNat)
 case atStart=>exact⟨n,[],rfl,rfl,by simpa using H.out,sM,hn,sM⟩
 case round =>
  obtain⟨k,r,rfl,rfl,ho,hr,hk,hl⟩:=hrel;clear H;have HO:=δ ho;clear ho;by_cases hlt:k<128
  ·have hs1:=y_ hlt
   rw[hs1];go_wp2_with fail
   refine(Oc HO.out (UInt8.ofNat k) (by rw[Dz oM]) (by simp;omega)).mono ?_;rintro e w2 ⟨rfl,h2⟩;go_wp2_with fail
   go_end0
   rw[← hr,Gg hlt,← dQ];exact⟨rfl,h2⟩
  ·have hs1:=za (n:=k) oM
   have hp:=Ks (k / 128);have aj7:=dc (n:=k / 128) oM;go_wp2_with fail
   refine(Oc HO.out (UInt8.ofNat (k % 128+128)) (by rw[Dz oM];exact ahB k) (by simp;omega)).mono ?_;rintro e w2 ⟨rfl,h2⟩;have H2:=δ h2;clear h2;go_wp2_with fail
   go_roundw
   case rel =>
    refine⟨k / 128,r++[UInt8.ofNat (k % 128+128)],by go_num,by go_num,?_,?_,oM,?_⟩
    ·rw[← dQ];exact H2.out
    ·rw[← hr,DM (n:=k) oM,dQ];rfl
    ·have h1:=aJ List.length hr
     rw[aL,iF,iF] at h1;rw[aL];simp;omega
   case measure=>simp[intOf];omega
theorem FY {F:Nat→Prop} {w0 w:World} {o:Nat} {l:List UInt8} (h:dU F w0 w o l) :
 ς 101 #[.pointer (some ⟨o,0,none⟩)] w fun e w'=>e=ώ (.string (str l))∧w=w':=by
 obtain⟨v,hB,hO,hv⟩:=h.ex;have hc:=hB.dD;have hcv:=vP hO;obtain⟨A,cap,rfl,h1,h2⟩:=hO.shape;go_enter func101,ntmps101
 go_wp2_with fail
 go_ret
 exact⟨rfl,rfl⟩
theorem vS {F:Nat→Prop} {w0 w:World} {o:Nat} {l:List UInt8} (h:dU F w0 w o l) (s:ByteArray) (hs:s.size≤60000) (hm:l.length≤800000) :
 ς 100 #[.pointer (some ⟨o,0,none⟩),.string s] w fun e w'=>e=ώ (.tuple #[])∧dU F w0 w' o (l++bF s.data.toList):=by
 have h2:=dc (n:=s.size) oM;have HN:=δ (DT h s.size oM oM);have HE:=δ (show l++aN s.size++s.data.toList=l++bF s.data.toList by unfold bF;rw[dQ];rfl)
 have HL:=δ (show (l++aN s.size).length=l.length+bC s.size by rw[aL,iF]);clear h;go_enter func100,ntmps100
 go_wp2_with fail
 refine HN.out.mono ?_;rintro e w1 ⟨rfl,h1⟩;have H1:=δ h1;clear h1;obtain⟨v2,w2,hcv,hown,hU,Mk,hsz⟩:=NZ w1 s (by unfold maxLen;omega);have H2:=τ hown hU;clear hown hU Mk hsz;go_wp2_with fail
 refine(W_ (H1.out.still H2.out.2) (Src.jK underlying89 H2.out.1) rfl (oN HL.out)).mono ?_;rintro e w3 ⟨rfl,h3⟩;have H3:=δ h3;clear h3;go_wp2_with fail
 go_end0
 rw[← HE.out];exact⟨rfl,H3.out⟩
theorem KT {F:Nat→Prop} {w0 w:World} {o:Nat} {l:List UInt8} (h:dU F w0 w o l) (b:UInt8) (hm:l.length≤800000) :
 ς 99 #[.pointer (some ⟨o,0,none⟩),ϋ (b.toNat:Int)] w fun e w'=>e=ώ (.tuple #[])∧dU F w0 w' o (l++[b]):=by
 have H:=δ (Oc h b rfl oM);clear h;go_enter func99,ntmps99
 go_wp2_with fail
 refine H.out.mono ?_;rintro e w3 ⟨rfl,h3⟩;have H3:=δ h3;clear h3;go_wp2_with fail
 go_end0
 exact⟨rfl,H3.out⟩
structure bW (F:Nat→Prop) (w0 w:World) (x:Nat) (i:dW):Prop where
 blk:η w x 318 #[.string (str i.rest),ι (i.read:Int),ι i.fail]
 new:F x∨w0.heap.size≤x
 ε:ζ F w0 w
theorem bW.start (w:World) (s:ByteArray):bW (fun _=>False) w (w.alloc (.cells #[.string s,ι 0,ι 0] 318)) w.heap.size ⟨s.data.toList,0,0⟩ :=
 ⟨η.new w _ _,.inr (bQ _),(ζ.refl _ w).alloc _⟩
theorem bW.still {F:Nat→Prop} {w0 w w':World} {x:Nat} {i:dW} (h:bW F w0 w x i) (hu:υ w w'):bW F w0 w' x i:=⟨h.blk.ε hu (fun e=>e),h.new,h.ε.then hu φ⟩
theorem bW.here {F:Nat→Prop} {w0 w:World} {x:Nat} {i:dW} (h:bW F w0 w x i):bW (· = x) w w x i:=⟨h.blk,.inl rfl,ζ.refl _ _⟩
theorem bW.back {F:Nat→Prop} {w0 w w':World} {x:Nat} {i i':dW} (h:bW F w0 w x i) (h':bW (· = x) w w' x i'):bW F w0 w' x i':=⟨h'.blk,h.new,h.ε.then h'.ε (fun q e=>by have e2:q=x:=e;rw[e2];exact h.new)⟩
section
variable {F:Nat→Prop} {w0 w:World} {x:Nat} {i:dW}
theorem Gi (h:bW F w0 w x i):ς 217 #[.pointer (some ⟨x,0,none⟩)] w fun e w'=>e=ώ (.bool (decide (i.fail=0)))∧w=w':=by
 have hc:=h.blk.fP;clear h;obtain⟨r,k,f⟩:=i;simp only at hc
 go_enter func217,ntmps217
 go_wp2_with fail
 go_ret
 exact⟨rfl,rfl⟩
theorem Od (h:bW F w0 w x i) (b e:Int) (he:e≠0):ς 219 #[.pointer (some ⟨x,0,none⟩),ι b,ι e] w fun en w'=>en=ώ (.bool false)∧bW F w0 w' x ⟨i.rest,i.read,e⟩:=by
 have hc:=h.blk.fP;have hf:=h.blk.frozen 2;have HB:=δ h;clear h;go_enter func219,ntmps219
 go_wp2_with fail
 go_ret
 refine⟨rfl,?_,HB.out.new,HB.out.ε.setCell (p:=⟨x,2,none⟩) HB.out.new _⟩;have:=HB.out.blk.bE 2 (ι e);simpa using this
theorem Kn (h:bW F w0 w x i) (b:Nat) (hb:b≤i.rest.length) (hr:i.read+b≤1000000000000):ς 219 #[.pointer (some ⟨x,0,none⟩),ι (b:Int),ι 0] w fun en w'=>en=ώ (.bool true)∧bW F w0 w' x ⟨i.rest.drop b,i.read+b,0⟩:=by
 have hc:=h.blk.fP;have Ci:=h.blk.frozen 0;have Mi:=h.blk.frozen 1;have Ey:=h.blk.frozen 2;have hsz:(str i.rest).size=i.rest.length:=bf _;have HB:=δ h;have e1:str (i.rest.drop b)=(str i.rest).extract b i.rest.length:=by
  rw[sN,bS,dH sM]
 obtain⟨s,hs⟩:=κ (str i.rest);rw[hs] at hc hsz e1;have hb':b≤s.size:=oM;clear h;go_enter func219,ntmps219
 go_wp2_with fail
 go_ret
 refine⟨rfl,?_,HB.out.new,((HB.out.ε.setCell (p:=⟨x,2,none⟩) HB.out.new _).setCell (p:=⟨x,0,none⟩) HB.out.new _).setCell (p:=⟨x,1,none⟩) HB.out.new _⟩;have:=((HB.out.blk.bE 2 (ι 0)).bE 0 (.string (s.extract b i.rest.length))).bE 1 (ι ((i.read:Int)+(b:Int)));rw[← e1] at this;simpa [e1] using this
theorem Il {P:Prop} (h:P:=by
 go_wp2_with fail
 refine HR.out.mono ?_;rintro e w' ⟨rfl,rfl⟩;go_wp2_with fail
 refine uS.out.mono ?_;rintro e w' ⟨rfl,rfl⟩;go_wp2_with fail
 refine HT.out.mono ?_;rintro e w' ⟨rfl,hX⟩;have HX:=δ hX;clear hX;go_wp2_with fail
 go_ret
 exact⟨rfl,HX.out⟩):P:=h
theorem LH {P:Prop} (h:P:=by
 go_wp2_with fail
 refine HR.out.mono ?_;rintro e w' ⟨rfl,rfl⟩;go_wp2_with fail
 go_ret
 exact⟨rfl,HB.out⟩):P:=h
theorem DU (h:bW F w0 w x i) (m:Nat) (hm:m≤9223372036854775807) (hr:i.read≤100000000000) :
 ς 176 #[.pointer (some ⟨x,0,none⟩),ι (m:Int)] w fun en w'=>en=ώ (ι ((i.most m).1:Int))∧bW F w0 w' x (i.most m).2:=by
 have hc:=h.blk.fP;have hR:=Gi h;have hB:=Vr (str i.rest) m hm w;rw[bS] at hB;have hT:=Kn h;have pg:=Od h;have hbd:=Vn i.rest m;have hfit:=KD i.rest;have HB:=δ h;unfold dW.most;clear h;by_cases hf:i.fail=0
 ·rw[fe hf] at hR
  rw[σ hf];obtain⟨⟨a,b,c⟩,hq⟩:∃q,iH i.rest m=q:=⟨_,rfl⟩;rw[hq] at hB hbd ⊢;simp only at hB hbd ⊢
  by_cases h0:c=0
  ·subst h0
   have ec:=(V3 hq).2;rw[ec] at hfit;simp only at hfit
   have HT:=δ (hT b hfit.2.2.1 oM);have HR:=δ hR;have uS:=δ hB;clear hT pg hR hB hbd hq ec hfit;rw[σ rfl];go_enter func176,ntmps176
   exact Il
  ·have HT:=δ (pg (b:Int) c h0)
   have HR:=δ hR;have uS:=δ hB;clear hT pg hR hB hq hfit hbd;rw[ν h0];go_enter func176,ntmps176
   exact Il
 ·rw[gN hf] at hR
  rw[ν hf];have HR:=δ hR;clear hT pg hR hB hbd hfit;go_enter func176,ntmps176
  exact LH
theorem Pj (h:bW F w0 w x i):ς 185 #[.pointer (some ⟨x,0,none⟩)] w fun e w'=>∃n:Int,e=ώ (.tuple #[ι i.fail,ι n])∧υ w w':=by
 have hc:=h.blk.fP;have HR:=δ (Gi h);clear h;by_cases hf:i.fail=0
 ·rw[fe hf] at HR
  rw[hf];go_enter func185,ntmps185
  go_wp2_with fail
  refine HR.out.mono ?_;rintro e w' ⟨rfl,rfl⟩;go_wp2_with fail
  go_ret2
  exact⟨_,rfl,ζ.refl _ _⟩
 ·rw[gN hf] at HR
  go_enter func185,ntmps185
  go_wp2_with fail
  refine HR.out.mono ?_;rintro e w' ⟨rfl,rfl⟩;go_wp2_with fail
  go_region
  all_goals go_wp2
  all_goals go_ret2
  all_goals exact⟨_,rfl,(ζ.refl _ _).drewN _⟩
theorem ahH (h:bW F w0 w x i):ς 221 #[.pointer (some ⟨x,0,none⟩)] w fun e w'=>e=ώ (ι (i.rest.length:Int))∧w=w':=by
 have hc:=h.blk.fP;have hsz:(str i.rest).size=i.rest.length:=bf _;obtain⟨s,hs⟩:=κ (str i.rest);rw[hs] at hc hsz;clear h hs;go_enter func221,ntmps221
 go_wp2_with fail
 go_ret
 exact⟨rfl,rfl⟩
theorem YE {P:Prop} (h:P:=by
 go_enter func179,ntmps179
 go_wp2_with fail
 refine HF.out.mono ?_;rintro e w1 ⟨n,rfl,hU⟩;have HU:=δ hU;clear hU;go_wp2_with fail
 refine(HL.out _ HU.out).mono ?_;rintro e w2 ⟨rfl,rfl⟩;go_wp2_with fail
 go_ret
 exact⟨rfl,HU.out⟩):P:=h
theorem Li (h:bW F w0 w x i):ς 179 #[.pointer (some ⟨x,0,none⟩)] w fun e w'=>e=ώ (ι (if i.fail≠0 then i.fail else if i.rest≠[] then 8 else 0))∧υ w w':=by
 have HF:=δ (Pj h);have HL:Hid (∀W,υ w W→ς 221 #[.pointer (some ⟨x,0,none⟩)] W fun e w'=>e=ώ (ι (i.rest.length:Int))∧W=w') :=
  δ fun W hU=>ahH (F:=F) (w0:=w0) ⟨h.blk.ε hU (fun e=>e),h.new,h.ε.then hU φ⟩
 clear h;by_cases hf:i.fail=0
 ·rw[hf] at HF
  by_cases hr:i.rest=[]
  ·have hl:(i.rest.length:Int)=0:=by rw[hr];rfl
   rw[ν (by simp[hf]),ν (by simp[hr])];rw[hl] at HL;exact YE
  ·have hl:0<i.rest.length:=Fu.2 hr
   rw[ν (by simp[hf]),σ hr];exact YE
 ·rw[σ hf]
  go_enter func179,ntmps179
  go_wp2_with fail
  refine HF.out.mono ?_;rintro e w1 ⟨n,rfl,hU⟩;have HU:=δ hU;clear hU;go_wp2_with fail
  go_ret
  exact⟨rfl,HU.out⟩
theorem Xa (h:bW F w0 w x i) (hr:i.read≤100000000000) :
 ς 175 #[.pointer (some ⟨x,0,none⟩)] w fun en w'=>en=ώ (ω (i.num.1:Int))∧bW F w0 w' x i.num.2:=by
 have hc:=h.blk.fP;have hR:=Gi h;have hB:=V8 (str i.rest) w;rw[bS] at hB;have hT:=Kn h;have pg:=Od h;have hfit:=KD i.rest;have HB:=δ h;unfold dW.num;clear h;by_cases hf:i.fail=0
 ·rw[fe hf] at hR
  rw[σ hf];obtain⟨⟨a,b,c⟩,hq⟩:∃q,fZ i.rest=q:=⟨_,rfl⟩;rw[hq] at hB hfit ⊢;simp only at hB hfit ⊢
  by_cases h0:c=0
  ·subst h0
   have HT:=δ (hT b hfit.2.2.1 oM);have HR:=δ hR;have uS:=δ hB;clear hT pg hR hB hq hfit;rw[σ rfl];go_enter func175,ntmps175
   exact Il
  ·have HT:=δ (pg (b:Int) c h0)
   have HR:=δ hR;have uS:=δ hB;clear hT pg hR hB hq hfit;rw[ν h0];go_enter func175,ntmps175
   exact Il
 ·rw[gN hf] at hR
  rw[ν hf];have HR:=δ hR;clear hT pg hR hB hfit;go_enter func175,ntmps175
  exact LH
theorem Gj (h:bW F w0 w x i) (m:Nat) (hm:m≤9223372036854775807) (hr:i.read≤100000000000) (hlen:i.rest.length≤100000) :
 ς 177 #[.pointer (some ⟨x,0,none⟩),ι (m:Int)] w fun en w'=>en=ώ (.string (str (i.text m).1))∧bW F w0 w' x (i.text m).2:=by
 have hc:=h.blk.fP;have hR:=Gi h;have hB:=Vr (str i.rest) m hm w;rw[bS] at hB;have hT:=Kn h;have pg:=Od h;have hbd:=Vn i.rest m;have hfit:=KD i.rest;have hsz:(str i.rest).size=i.rest.length:=bf _;have HB:=δ h;unfold dW.text;clear h;by_cases hf:i.fail=0
 ·rw[fe hf] at hR
  rw[σ hf];obtain⟨⟨a,b,c⟩,hq⟩:∃q,iH i.rest m=q:=⟨_,rfl⟩;unfold Lh;rw[hq] at hB hbd ⊢;simp only at hB hbd ⊢
  by_cases h0:c=0
  ·subst h0
   obtain⟨hb0,ec⟩:=V3 hq;rw[ec] at hfit;simp only at hfit
   simp only[ne_eq,not_true_eq_false,lK];by_cases hn:i.rest.length - b<a
   ·have HT:=δ (pg ((b:Int)+(a:Int)) 7 dC)
    have EA:Hid (∀z:Int,ς 219 #[.pointer (some ⟨x,0,none⟩),ι z,ι 7] w fun en w'=>en=ώ (.bool false)∧bW F w0 w' x ⟨i.rest,i.read,7⟩):=δ fun z=>pg z 7 dC
    have HR:=δ hR;have uS:=δ hB;have hd:decide ((i.rest.length:Int) - (b:Int)<(a:Int))=true:=fe oM;have hle:b≤i.rest.length:=hfit.2.2.1;simp only[σ hn];rw[ν dC];obtain⟨s,hs⟩:=κ (str i.rest);rw[hs] at hc hsz uS;obtain⟨L,hL⟩:=κ i.rest.length;rw[hL] at hsz hd hle hlen;clear hT pg hR hB hq hfit hbd hb0 ec hs hn hL;go_enter func177,ntmps177
    go_wp2_with fail
    refine HR.out.mono ?_;rintro e w' ⟨rfl,rfl⟩;go_wp2_with fail
    refine uS.out.mono ?_;rintro e w' ⟨rfl,rfl⟩;go_wp2_with fail
    refine(EA.out _).mono ?_;rintro e w' ⟨rfl,hX⟩;have HX:=δ hX;clear hX;go_wp2_with fail
    go_ret
    exact⟨rfl,HX.out⟩
   ·have HT:=δ (hT (b+a) oM oM)
    have HR:=δ hR;have uS:=δ hB;have hd:decide ((i.rest.length:Int) - (b:Int)<(a:Int))=false:=gN oM;have hle:b+a≤i.rest.length:=oM;simp only[ν hn];have e1:str ((i.rest.drop b).take a)=(str i.rest).extract b (b+a):=by
     rw[sN,bS];congr 2
     omega
    rw[σ trivial,e1];obtain⟨s,hs⟩:=κ (str i.rest);rw[hs] at hc hsz uS;rw[hs];obtain⟨L,hL⟩:=κ i.rest.length;rw[hL] at hsz hd hle hlen;rw[show (((b+a:Nat)):Int)=(b:Int)+(a:Int) by omega] at HT;clear hT pg hR hB hq hfit hbd hb0 ec hs hn hL e1;go_enter func177,ntmps177
    exact Il
  ·have HT:=δ (fun z=>pg z c h0)
   have HR:=δ hR;have uS:=δ hB;rcases hbd with hbd | hbd | hbd
   ·exact absurd hbd h0
   all_goals
    injection hbd with e1 e2;injection e2 with e2 e3;subst e1 e2 e3;clear hT pg hR hB hq hfit hsz h0;simp only[ne_eq,show ¬(7:Int)=0 by decide,show ¬(8:Int)=0 by decide,Fv,vI,lK];go_enter func177,ntmps177
    go_wp2_with fail
    refine HR.out.mono ?_;rintro e w' ⟨rfl,rfl⟩;go_wp2_with fail
    refine uS.out.mono ?_;rintro e w' ⟨rfl,rfl⟩;go_wp2_with fail
    refine(HT.out _).mono ?_;rintro e w' ⟨rfl,hX⟩;have HX:=δ hX;clear hX;go_wp2_with fail
    go_ret
    exact⟨rfl,HX.out⟩
 ·rw[gN hf] at hR
  rw[ν hf];have HR:=δ hR;clear hT pg hR hB hbd hfit;go_enter func177,ntmps177
  exact LH
theorem KU (h:bW F w0 w x i) (hr:i.read≤100000000000) :
 ς 178 #[.pointer (some ⟨x,0,none⟩)] w fun en w'=>en=ώ (ϋ (i.byte.1.toNat:Int))∧bW F w0 w' x i.byte.2:=by
 have hc:=h.blk.fP;have hfz:=h.blk.frozen 2;have hR:=Gi h;have hT:=Kn h;have HB:=δ h;have hsz:(str i.rest).size=i.rest.length:=bf _;unfold dW.byte;clear h;by_cases hf:i.fail=0
 ·rw[fe hf] at hR
  rw[σ hf];have HR:=δ hR;by_cases h0:i.rest=[]
  ·rw[σ h0]
   have e0:str i.rest=ByteArray.empty:=by rw[h0];rfl
   have h00:=δ h0;rw[e0] at hc;clear hT hR hsz h0 e0 hr;go_enter func178,ntmps178
   go_wp2_with fail
   refine HR.out.mono ?_;rintro e w' ⟨rfl,rfl⟩;go_wp2_with fail
   go_ret
   refine⟨rfl,?_,HB.out.new,HB.out.ε.setCell (p:=⟨x,2,none⟩) HB.out.new _⟩;have:=HB.out.blk.bE 2 (ι 7);simpa using this
  ·rw[ν h0]
   have hl:0<i.rest.length:=Fu.2 h0;have HT:=δ (hT 1 oM oM);have hne:(i.rest == ([]:List UInt8))=false:=by simpa using h0
   have h0s:0<(str i.rest).size:=oM;have BS:(str i.rest).toList.isEmpty=false:=by rw[y7,bS];simpa using h0
   obtain⟨s,hs⟩:=κ (str i.rest);rw[hs] at hc hsz h0s BS;have HG:=δ (show i.rest.getD 0 0=s[0] from by
    have hg:=pV s 0 h0s;subst hs;exact hg)
   rw[show ((1:Nat):Int)=1 from rfl] at HT;clear hT hR hsz hs hne h0 hl hr;go_enter func178,ntmps178
   go_wp2_with fail
   refine HR.out.mono ?_;rintro e w' ⟨rfl,rfl⟩;go_wp2_with fail
   refine HT.out.mono ?_;rintro e w' ⟨rfl,hX⟩;have HX:=δ hX;clear hX;go_wp2_with fail
   go_ret
   refine⟨?_,HX.out⟩;rw[HG.out];rfl
 ·rw[gN hf] at hR
  rw[ν hf];have HR:=δ hR;clear hT hR;go_enter func178,ntmps178
  exact LH
end
theorem adu {l:List cT} {k:Nat} (hk:k<l.length):iX (l.take (k+1))=iX (l.take k)++yf l[k]:=by
 rw[gX hk];unfold iX;rw[vJ];simp
theorem abz {l:List cT} (h:∀o ∈ l,iK o=0) (k:Nat) (hl:l.length≤4):(iX (l.take k)).length≤280:=by
 have:=OX (l:=l.take k) (fun o ho=>h o (JW ho));rw[fF] at this;have:70*min k l.length≤280:=oM;omega
theorem acw {A:Option Addr} {cap b off:Nat} {l:List cT} {w:World} {i ep:Int} (hA:0<l.length→A=some ⟨b,off,none⟩) (hb:∀w',υ w w'→uw w' b off l) (hs:qh l) (hl:l.length≤1000000) (eA:d_ i ep l≠0) :
 ς 54 #[.agg (lP i ep (.slice A l.length cap))] w fun e w'=>e=ώ (.tuple #[.string ByteArray.empty,ι (d_ i ep l)])∧υ w w':=by
 have uR:=fun W (hW:υ w W)=>KE (cap:=cap) (i:=i) (ep:=ep) (w:=W) hA (fun w' h=>hb w' (hW.then h φ)) hs hl
 obtain⟨E,hE⟩:=κ (d_ i ep l);rw[hE] at eA uR ⊢;have Ik:=δ uR;have k1:(E != 0)=true:=by simpa using eA
 clear uR hE hb hs hA eA;go_enter func54,ntmps54
 go_upto_region 1 with fail
 generalize cF:World.alloc _ _=w5;obtain⟨q,hq⟩:=κ w.heap.size;rw[hq];have aF:η w5 q 35 (lP i ep (.slice A l.length cap)):=by rw[← cF,← hq];exact η.new w _ _
 have av:υ w w5:=by rw[← cF];exact(ζ.refl _ w).alloc _
 have de:=τ av aF;clear av aF cF hq;go_wp2_with (first
  |(refine kW rfl _ _ rfl q rfl _ _ _ de.out.2 underlying35 rfl kR ?_)
  |(go_at_call 81
    refine(Ik.out _ de.out.1).mono ?_;rintro e w6 ⟨rfl,az⟩;have gC:=δ (de.out.1.then az φ);clear az))
 go_ret2
 exact⟨rfl,gC.out⟩
theorem adv {A:Option Addr} {cap b off:Nat} {l:List cT} {w:World} {i ep:Nat} (hA:0<l.length→A=some ⟨b,off,none⟩) (hb:∀w',υ w w'→uw w' b off l) (hs:qh l) (fB:ep≤9223372036854775807) (eA:d_ i ep l=0) :
 ς 54 #[.agg (lP i ep (.slice A l.length cap))] w fun e w'=>e=ώ (.tuple #[.string (str (xQ i ep l)),ι 0])∧υ w w':=by
 obtain⟨b1,b2,b3,b4,b5⟩:=sP eA;have uR:=fun W (hW:υ w W)=>KE (cap:=cap) (i:=i) (ep:=ep) (w:=W) hA (fun w' h=>hb w' (hW.then h φ)) hs oM
 rw[eA] at uR;have s1:=dc (n:=i) oM;have s2:=dc (n:=ep) oM;have s3:=dc (n:=l.length) oM;obtain⟨N,hN⟩:=κ (aN i++(aN ep++aN l.length));have pe:N.length≤30:=by rw[← hN];simp only[aL,iF];omega
 have cN:xQ i ep l=N++iX l:=by rw[← hN];unfold xQ;simp only[dQ]
 rw[cN];have Ik:=δ uR;have HN:=τ hN pe;have HO:=τ b5 b4;have HB:=δ hb;have i1:(i:Int)≤4611686018427387904:=oM;have e1:(ep:Int)≤9223372036854775807:=oM;have l1:(l.length:Int)≤4:=oM;clear uR eA hb hs hN pe cN s1 s2 s3 b1 b2 b3 b4 b5;go_enter func54,ntmps54
 go_upto_region 1 with fail
 generalize cF:World.alloc _ _=w5;obtain⟨q,hq⟩:=κ w.heap.size;rw[hq];have aF:η w5 q 35 (lP i ep (.slice A l.length cap)):=by rw[← cF,← hq];exact η.new w _ _
 have av:υ w w5:=by rw[← cF];exact(ζ.refl _ w).alloc _
 have de:=τ av aF;clear av aF cF hq;go_upto_region 4 with (first
  |(refine kW rfl _ _ rfl q rfl _ _ _ de.out.2 underlying35 rfl kR ?_)
  |(go_at_call 81
    refine(Ik.out _ de.out.1).mono ?_;rintro e w6 ⟨rfl,az⟩;have gC:=τ (de.out.1.then az φ) (de.out.2.ε az (fun e=>e));clear az))
 obtain⟨o,ho⟩:=κ w6.heap.size;go_upto_region 5 with (fail)
 generalize uT:World.alloc _ _=w7;have yh:dU (fun _=>False) w6 w7 o []:=by rw[← uT,← ho];exact dU.start w6
 obtain⟨c0,c1,c2⟩:=(gC.out.2.ε yh.ε (fun e=>e)).fP;have Im:=δ yh;clear yh uT ho;have step:∀(n:Nat) (acc:List UInt8) (W:World),n<18446744073709551616→acc.length≤300→dU (fun _=>False) w6 W o acc→ς 98 #[.pointer (some ⟨o,0,none⟩),ω (n:Int)] W fun e w'=>e=ώ (.tuple #[])∧dU (fun _=>False) w6 w' o (acc++aN n):=fun n acc W h1 h2 h3=>DT h3 n h1 oM
 have fT:=δ step;clear step;go_wp2_with fail
 refine(fT.out i _ _ oM sM Im.out).mono ?_;rintro e w8 ⟨rfl,h8⟩;obtain⟨c0,c1,c2⟩:=(gC.out.2.ε h8.ε (fun e=>e)).fP;have H8:=δ h8;clear h8;go_wp2_with fail
 refine(fT.out ep _ _ oM (by rw[nW,iF];have:=dc (n:=i) oM;omega) H8.out).mono ?_;rintro e w9 ⟨rfl,h9⟩;obtain⟨c0,c1,c2⟩:=(gC.out.2.ε h9.ε (fun e=>e)).fP;have H9:=δ h9;clear h9 H8;go_wp2_with fail
 refine(fT.out l.length _ _ oM (by rw[nW,aL,iF,iF];have:=dc (n:=i) oM;have:=dc (n:=ep) oM;omega) H9.out).mono ?_;rintro e w10 ⟨rfl,h10⟩;rw[nW,dQ,HN.out.1] at h10;obtain⟨c0,c1,c2⟩:=(gC.out.2.ε h10.ε (fun e=>e)).fP;have iL:=δ h10;clear h10 H9 fT;go_wp2_with fail
 go_loopw [7,34] (fun _ u wr=>∃k:Nat,k≤l.length∧u=ι (k:Int)∧dU (fun _=>False) w6 wr o (N++iX (l.take k))) (fun _ u _=>l.length - (intOf u).toNat)
 case atStart=>exact⟨0,oM,rfl,by rw[Fw];simpa [iX] using iL.out⟩
 case round =>
  obtain⟨k,hk,rfl,hO⟩:=hrel;have Ml:(N++iX (l.take k)).length≤310:=by
   rw[aL];have:=abz HO.out.1 k HO.out.2;have:=HN.out.2;omega
  obtain⟨M,hM⟩:=κ (N++iX (l.take k));rw[hM] at hO Ml;by_cases hlt:k<l.length
  ·obtain rfl:=hA oM
   have hrow:=HB.out wr (gC.out.1.then hO.ε φ) k hlt;have mc:=HO.out.1 _ (eM hlt);have bY:N++iX (l.take (k+1))=M++yf l[k]:=by rw[adu hlt,← dQ,hM]
   obtain⟨x,hx⟩:∃o,l[k]=o:=⟨_,rfl⟩;rw[hx] at hrow mc bY;obtain⟨x1,-,x3,x4,-⟩:=Be mc;obtain⟨P,hP⟩:=κ (str x.path);obtain⟨V,hV⟩:∃P,str x.value=P:=⟨_,rfl⟩;have lB:P.data.toList=x.path:=by rw[← hP,bS]
   have kz:V.data.toList=x.value:=by rw[← hV,bS]
   have iM:P.size≤33:=by rw[← hP,bf];exact x3
   have ru:V.size≤32:=by rw[← hV,bf];exact x4
   obtain⟨Kb,qy⟩:∃K,x.kind=K:=⟨_,rfl⟩;have hrw:bU x=[ϋ (Kb.toNat:Int),.string P,.string V]:=by unfold bU;rw[hP,hV,qy]
   rw[hrw] at hrow;have hop:yf x=Kb::(bF P.data.toList++if Kb=1 then bF V.data.toList else []):=by unfold yf;rw[lB,kz,qy]
   rw[hop] at bY;rw[qy] at x1;have tP:(bF P.data.toList).length≤40:=by
    rw[iT];have:=kY (n:=P.data.toList.length) (by simp;omega);have:P.data.toList.length=P.size:=by simp
    omega
   have me:=cx bY Ml iM ru tP;have HR:=δ hrow;have jR:=δ hO;have EB:=δ x1;clear hrow mc bY hx x1 x3 x4 hP hV lB kz iM ru hrw hop hO hM Ml qy tP;have j1:(k:Int)<(l.length:Int):=oM;obtain⟨g,hg⟩:∃q,wr.heap.size=q:=⟨_,rfl⟩;have HQ:=δ hg;rcases EB.out with rfl | rfl
   ·go_upto_region 11 with (first
     |(refine uc rfl _ _ rfl b (off+k*3) rfl [ϋ 1,.string P,.string V] _ HR.out underlying32 rfl kR ?_))
    generalize qu:World.alloc _ _=w11;have f_:η w11 g 32 #[ϋ 1,.string P,.string V]:=by rw[← qu,← HQ.out];exact η.new wr _ _
    have h11:dU (fun _=>False) w6 w11 o M:=by rw[← qu];exact jR.out.still ((ζ.refl _ wr).alloc _)
    obtain⟨c0,c1,c2⟩:=f_.fP;have EC:w6.heap.size≤g:=by rw[← HQ.out];exact jR.out.ε.size
    have eZ:=aj h11 f_ EC;clear h11 f_ qu hg EC;obtain⟨G,g1,g2,g3⟩:=eZ.out.1.here;have HG:=aj g1 g2 (g3 g _ _ eZ.out.2.1 dC dC);clear g1 g2 g3;go_wp2_with fail
    refine(KT HG.out.1 1 (oN me.out.2.1)).mono ?_;rintro e w12 ⟨rfl,h12⟩;obtain⟨c0,c1,c2⟩:=(eZ.out.2.1.ε h12.ε HG.out.2.2).fP;have gf:=δ h12;clear h12;go_wp2_with fail
    refine(vS gf.out P (oN me.out.2.2.1) (by have:=me.out.2.1;rw[aL];simp;omega)).mono ?_;rintro e w13 ⟨rfl,h13⟩;obtain⟨c0,c1,c2⟩:=(eZ.out.2.1.ε h13.ε HG.out.2.2).fP;have iZ:=δ h13;clear h13;go_wp2_with fail
    refine(vS iZ.out V (oN me.out.2.2.2.1) (by have:=me.out.2.1;have:=me.out.2.2.2.2;simp only[aL,eS,yY];omega)).mono ?_;rintro e w14 ⟨rfl,h14⟩;have kM:=δ (eZ.out.1.back HG.out.2.1 h14);clear h14 c0 c1 c2;go_wp2_with fail
    go_roundw
    case rel =>
     refine⟨k+1,oM,by go_num,?_⟩;rw[me.out.1,σ trivial];simpa [List.append_assoc] using kM.out
    case measure=>simp[intOf]<;>omega
   ·go_upto_region 11 with (first
     |(refine uc rfl _ _ rfl b (off+k*3) rfl [ϋ 2,.string P,.string V] _ HR.out underlying32 rfl kR ?_))
    generalize qu:World.alloc _ _=w11;have f_:η w11 g 32 #[ϋ 2,.string P,.string V]:=by rw[← qu,← HQ.out];exact η.new wr _ _
    have h11:dU (fun _=>False) w6 w11 o M:=by rw[← qu];exact jR.out.still ((ζ.refl _ wr).alloc _)
    obtain⟨c0,c1,c2⟩:=f_.fP;have EC:w6.heap.size≤g:=by rw[← HQ.out];exact jR.out.ε.size
    have eZ:=aj h11 f_ EC;clear h11 f_ qu hg EC;obtain⟨G,g1,g2,g3⟩:=eZ.out.1.here;have HG:=aj g1 g2 (g3 g _ _ eZ.out.2.1 dC dC);clear g1 g2 g3;go_wp2_with fail
    refine(KT HG.out.1 2 (oN me.out.2.1)).mono ?_;rintro e w12 ⟨rfl,h12⟩;obtain⟨c0,c1,c2⟩:=(eZ.out.2.1.ε h12.ε HG.out.2.2).fP;have gf:=δ h12;clear h12;go_wp2_with fail
    refine(vS gf.out P (oN me.out.2.2.1) (by have:=me.out.2.1;rw[aL];simp;omega)).mono ?_;rintro e w13 ⟨rfl,h13⟩;obtain⟨c0,c1,c2⟩:=(eZ.out.2.1.ε h13.ε HG.out.2.2).fP;have iZ:=δ h13;clear h13;go_wp2_with fail
    have kM:=δ (eZ.out.1.back HG.out.2.1 iZ.out);clear c0 c1 c2;go_roundw
    case rel =>
     refine⟨k+1,oM,by go_num,?_⟩;rw[me.out.1,ν dC,xz];simpa [List.append_assoc] using kM.out
    case measure=>simp[intOf]<;>omega
  ·obtain rfl:k=l.length:=oM
   rw[rO] at hM;subst hM;have hst:=FY hO;have fT:=δ hst;have HU:=δ (gC.out.1.then hO.ε φ);clear hst hO hlt hk Ml;go_wp2_with fail
   refine fT.out.mono ?_;rintro e wz ⟨rfl,rfl⟩;go_wp2_with fail
   go_ret2
   exact⟨rfl,HU.out⟩
def i6 (x:Nat):Nat→List UInt8
 | 0=>[]
 | n+1=>UInt8.ofNat (x / 2 ^ (8*n))::i6 x n
theorem ur (x n:Nat):(i6 x n).length=n:=by
 induction n with
 | zero=>rfl
 | succ n ih=>simp[i6,ih]
def tv (l:List UInt8):Nat:=l.foldl (fun a b=>a*256+b.toNat) 0
theorem aeQ (l:List UInt8) (b:UInt8):tv (l++[b])=tv l*256+b.toNat:=by simp[tv]
theorem Xb (l:List UInt8):tv l<2 ^ (8*l.length):=by
 have key:∀(l:List UInt8) (a:Nat),l.foldl (fun a b=>a*256+b.toNat) a<(a+1)*2 ^ (8*l.length):=by
  intro l;induction l with
  | nil=>intro a;simp
  | cons b r ih =>
    intro a;have h:=ih (a*256+b.toNat);have hb:=b.toNat_lt;rw[List.foldl_cons,eS];have e:2 ^ (8*(r.length+1))=256*2 ^ (8*r.length):=by rw[Dh,T4];omega
    rw[e,← Nat.mul_assoc];exact nT h (aaQ _ oM)
 have:=key l 0;simpa [tv] using this
def Cj (z:Int):Prop:=0≤z∧z<4294967296
def dV (l:List Int):Array Value:=(l.map (Value.int .u32)).toArray
def jN (l:List Int):Prop:=∀z ∈ l,Cj z
theorem LI (a:Int):Cj (a % 4294967296):=⟨T9 _ dC,T_ _ dC⟩
theorem Dy (l:List Int):(dV l).size=l.length:=by simp[dV]
theorem aeR (l:List Int) (i:Nat) (h:i<l.length):(dV l)[i]? = some (.int .u32 (l.getD i 0)):=by simp[dV,h]
theorem V9 (l:List Int) (i:Nat) (z:Int):(dV l).setIfInBounds i (.int .u32 z)=dV (l.set i z):=by simp[dV,List.map_set]
theorem jN.get {l:List Int} (h:jN l) (i:Nat):Cj (l.getD i 0):=by
 by_cases hi:i<l.length
 ·rw[bJ,bD hi]
  exact h _ (eM hi)
 ·rw[bJ,nh oM]
  exact⟨sM,sM⟩
theorem jN.set {l:List Int} (h:jN l) (i:Nat) {z:Int} (hz:Cj z):jN (l.set i z):=by
 intro u hu;rcases List.mem_or_eq_of_mem_set hu with h1 | h1
 ·exact h u h1
 ·rw[h1];exact hz
def rotl (x:Int) (r:Nat):Int:=bits .or .u32 (x*2 ^ r % 4294967296) (x / 2 ^ (32 - r))
def p5 (k:Int):Nat:=(IntKind.u64.wrap k).toNat % 32
def sg0 (x:Int):Int:=bits .xor .u32 (bits .xor .u32 (rotl x 25) (rotl x 14)) (x / 8)
def sg1 (y:Int):Int:=bits .xor .u32 (bits .xor .u32 (rotl y 15) (rotl y 13)) (y / 1024)
def DV (s:List UInt8) (i:Nat):Int:=(tv ((s.drop (4*i)).take 4):Int)
def Lj (l:List Int) (i:Nat):Int:=(((l.getD (i - 16) 0+sg0 (l.getD (i - 15) 0)) % 4294967296+l.getD (i - 7) 0) % 4294967296+sg1 (l.getD (i - 2) 0)) % 4294967296
def tA (s:List UInt8) (k:Nat):List Int:=(List.range k).foldl (fun l i=>l.set i (DV s i)) (List.replicate 64 0)
def tB (l:List Int) (k:Nat):List Int:=(List.range k).foldl (fun l j=>l.set (16+j) (Lj l (16+j))) l
theorem OY (s:List UInt8) (k:Nat):tA s (k+1)=(tA s k).set k (DV s k):=by simp[tA,List.range_succ]
theorem OZ (l:List Int) (k:Nat):tB l (k+1)=(tB l k).set (16+k) (Lj (tB l k) (16+k)):=by simp[tB,List.range_succ]
theorem WI (s:List UInt8) (k:Nat):(tA s k).length=64:=by
 induction k with
 | zero=>simp[tA]
 | succ k ih=>rw[OY,Fx,ih]
theorem Pk (l:List Int) (k:Nat):(tB l k).length=l.length:=by
 induction k with
 | zero=>simp[tB]
 | succ k ih=>rw[OZ,Fx,ih]
theorem P_ (s:List UInt8) (i:Nat):Cj (DV s i):=by
 have h:=Xb ((s.drop (4*i)).take 4);have h2:tv ((s.drop (4*i)).take 4)<4294967296:=nT h (iE (yU oM (show 8*((s.drop (4*i)).take 4).length≤32 by simp;omega)) dC);exact⟨by unfold DV;omega,by unfold DV;omega⟩
theorem agB (s:List UInt8) (k:Nat):jN (tA s k):=by
 induction k with
 | zero=>intro z hz;have:=(List.mem_replicate.1 (show z ∈ List.replicate 64 0 from hz)).2;rw[this];exact⟨dC,dC⟩
 | succ k ih=>rw[OY];exact ih.set _ (P_ s k)
theorem WJ {l:List Int} (h:jN l) (k:Nat):jN (tB l k):=by
 induction k with
 | zero=>exact h
 | succ k ih=>rw[OZ];exact ih.set _ (LI _)
def PI (e b5 b6 b7 k w:Int):Int :=
 ((b7+bits .xor .u32 (bits .xor .u32 (rotl e (p5 (-6))) (rotl e (p5 (-11)))) (rotl e (p5 (-25)))+bits .xor .u32 (bits .and .u32 e b5) (bits .and .u32 (bits .xor .u32 4294967295 e) b6)+k) % 4294967296+w) % 4294967296
def Xc (a b1 b2:Int):Int :=
 (bits .xor .u32 (bits .xor .u32 (rotl a (p5 (-2))) (rotl a (p5 (-13)))) (rotl a (p5 (-22)))+bits .xor .u32 (bits .xor .u32 (bits .and .u32 a b1) (bits .and .u32 a b2)) (bits .and .u32 b1 b2)) % 4294967296
def Gu:List Int→Int→Int→List Int
 | [b0,b1,b2,b3,b4,b5,b6,b7],k,w=>[(PI b4 b5 b6 b7 k w+Xc b0 b1 b2) % 4294967296,b0,b1,b2,(b3+PI b4 b5 b6 b7 k w) % 4294967296,b4,b5,b6]
 | l,_,_=>l
def rounds (K W b:List Int) (k:Nat):List Int:=(List.range k).foldl (fun b i=>Gu b (K.getD i 0) (W.getD i 0)) b
theorem rounds_succ (K W b:List Int) (k:Nat):rounds K W b (k+1)=Gu (rounds K W b k) (K.getD k 0) (W.getD k 0):=by simp[rounds,List.range_succ]
theorem eight {l:List Int} (h:l.length=8):∃a b c d e f g i,l=[a,b,c,d,e,f,g,i]:=by
 match l,h with
 | [a,b,c,d,e,f,g,i],_=>exact⟨a,b,c,d,e,f,g,i,rfl⟩
theorem acy {l:List Int} (h:l.length=8) (k w:Int):(Gu l k w).length=8:=by
 obtain⟨a,b,c,d,e,f,g,i,rfl⟩:=eight h;rfl
theorem acz {l:List Int} (h:l.length=8) (hl:jN l) (k w:Int):jN (Gu l k w):=by
 obtain⟨a,b,c,d,e,f,g,i,rfl⟩:=eight h;intro z hz;simp only[Gu,cn,ue,uf] at hz;rcases hz with rfl | rfl | rfl | rfl | rfl | rfl | rfl | rfl
 ·exact LI _
 ·exact hl _ sM
 ·exact hl _ sM
 ·exact hl _ sM
 ·exact LI _
 ·exact hl _ sM
 ·exact hl _ sM
 ·exact hl _ sM
theorem Vt {K W b:List Int} (h:b.length=8) (hb:jN b) (k:Nat):(rounds K W b k).length=8∧jN (rounds K W b k):=by
 induction k with
 | zero=>exact⟨h,hb⟩
 | succ k ih=>rw[rounds_succ];exact⟨acy ih.1 _ _,acz ih.1 ih.2 _ _⟩
def uB (h b:List Int) (k:Nat):List Int:=(List.range k).foldl (fun l i=>l.set i ((l.getD i 0+b.getD i 0) % 4294967296)) h
theorem Oy (h b:List Int) (k:Nat):uB h b (k+1)=(uB h b k).set k (((uB h b k).getD k 0+b.getD k 0) % 4294967296):=by simp[uB,List.range_succ]
theorem O0 (h b:List Int) (k:Nat):(uB h b k).length=h.length:=by
 induction k with
 | zero=>simp[uB]
 | succ k ih=>rw[Oy,Fx,ih]
theorem aeS {h b:List Int} (hh:jN h) (k:Nat):jN (uB h b k):=by
 induction k with
 | zero=>exact hh
 | succ k ih=>rw[Oy];exact ih.set _ (LI _)
def xK (h b K:List Int) (s:List UInt8):List Int:=uB h (rounds K (tB (tA s 16) 48) b 64) 8
def qp:List Int:=[0x6a09e667,0xbb67ae85,0x3c6ef372,0xa54ff53a,0x510e527f,0x9b05688c,0x1f83d9ab,0x5be0cd19]
def nD:List Int:=[0x428a2f98,0x71374491,0xb5c0fbcf,0xe9b5dba5,0x3956c25b,0x59f111f1,0x923f82a4,0xab1c5ed5,
 0xd807aa98,0x12835b01,0x243185be,0x550c7dc3,0x72be5d74,0x80deb1fe,0x9bdc06a7,0xc19bf174,
 0xe49b69c1,0xefbe4786,0x0fc19dc6,0x240ca1cc,0x2de92c6f,0x4a7484aa,0x5cb0a9dc,0x76f988da,
 0x983e5152,0xa831c66d,0xb00327c8,0xbf597fc7,0xc6e00bf3,0xd5a79147,0x06ca6351,0x14292967,
 0x27b70a85,0x2e1b2138,0x4d2c6dfc,0x53380d13,0x650a7354,0x766a0abb,0x81c2c92e,0x92722c85,
 0xa2bfe8a1,0xa81a664b,0xc24b8b70,0xc76c51a3,0xd192e819,0xd6990624,0xf40e3585,0x106aa070,
 0x19a4c116,0x1e376c08,0x2748774c,0x34b0bcb5,0x391c0cb3,0x4ed8aa4a,0x5b9cca4f,0x682e6ff3,
 0x748f82ee,0x78a5636f,0x84c87814,0x8cc70208,0x90befffa,0xa4506ceb,0xbef9a3f7,0xc67178f2]
theorem Oz {h b K:List Int} {s:List UInt8} : (xK h b K s).length=h.length:=O0 _ _ _
theorem Vu {h b K:List Int} {s:List UInt8} (hh:jN h):jN (xK h b K s):=aeS hh _
def kZ:Nat→List Int→List UInt8→List Int
 | 0,h,_=>h
 | n+1,h,s=>kZ n (xK h h nD (s.take 64)) (s.drop 64)
theorem KF {h:List Int} (h8:h.length=8) (hh:jN h) (n:Nat) (s:List UInt8):(kZ n h s).length=8∧jN (kZ n h s):=by
 induction n generalizing h s with
 | zero=>exact⟨h8,hh⟩
 | succ n ih=>exact ih (Oz.trans h8) (Vu hh) _
theorem UT (n:Nat) (h:List Int) (s:List UInt8):kZ (n+1) h s=xK (kZ n h s) (kZ n h s) nD ((s.drop (64*n)).take 64):=by
 induction n generalizing h s with
 | zero=>simp[kZ]
 | succ n ih =>
   rw[kZ,ih];have e:(s.drop 64).drop (64*n)=s.drop (64*(n+1)):=by rw[AZ];congr 1;omega
   rw[e];rfl
def uC (rest:List UInt8) (n:Nat):List UInt8:=rest++128::(List.replicate ((119 - rest.length % 64) % 64) 0++i6 (8*n) 8)
def oW (h:List Int):List UInt8:=h.flatMap fun n=>i6 n.toNat 4
def xS (s:List UInt8):List UInt8 :=
 let rest:=s.drop (64*(s.length / 64))
 oW (kZ ((uC rest s.length).length / 64) (kZ (s.length / 64) qp s) (uC rest s.length))
theorem DB:qp.length=8∧jN qp:=by
 refine⟨dC,?_⟩;intro z hz;have:∀z ∈ qp,0≤z∧z<4294967296:=dC;exact this z hz
theorem DC:nD.length=64∧jN nD:=by
 refine⟨dC,?_⟩;intro z hz;have:∀z ∈ nD,0≤z∧z<4294967296:=dC;exact this z hz
theorem KG {h:List Int} : (oW h).length=4*h.length:=by
 induction h with
 | nil=>rfl
 | cons a r ih =>
   unfold oW at ih ⊢;rw[xx,aL,ih,ur,eS];omega
theorem O3 (s:List UInt8):(xS s).length=32:=by
 unfold xS;rw[KG,(KF (KF DB.1 DB.2 _ _).1 (KF DB.1 DB.2 _ _).2 _ _).1]
theorem aeT (rest:List UInt8) (n:Nat) (h:rest.length<64):64 ∣ (uC rest n).length∧(uC rest n).length≤128:=by
 unfold uC;simp only[aL,eS,fG,ur];omega
theorem Ga (z:Nat) (h:z<18446744073709551616):IntKind.u64.wrap (z:Int)=(z:Int):=by
 simp only[IntKind.wrap,IntKind.bits,IntKind.signed];simp
 omega
theorem agC (N b:Nat) (h:256*N<18446744073709551616) (hb:b<256):bits .or .u64 ((N:Int)*256) (b:Int)=((N*256+b:Nat):Int):=by
 have e:((N:Int)*256)=((N*256:Nat):Int):=oM;rw[e,u64_or_nat (N*256) b oM oM,nat_join 8 _ _ oM oM]
theorem aeU (s:ByteArray) (n:Nat) (w:World) (hn:n≤7) (hs:n≤s.size) :
 ς 303 #[.string s,ι (n:Int)] w fun e w'=>e=ώ (ω (tv (s.data.toList.take n):Int))∧w=w':=by
 go_enter func303,ntmps303
 go_wp2_with fail
 go_loop [4,7] (fun x i=>∃k:Nat,k≤n∧i=ι k∧x=ω (tv (s.data.toList.take k):Int)) (fun _ i=>n - (intOf i).toNat)
 case atStart=>exact⟨0,oM,rfl,rfl⟩
 case round =>
  obtain⟨k,hk,rfl,rfl⟩:=hrel;by_cases hlt:k<n
  ·have hlt':k<s.size:=oM
   have hl:=Xb (s.data.toList.take k);have hl2:tv (s.data.toList.take k)<281474976710656:=nT hl (iE (yU oM (show 8*(s.data.toList.take k).length≤48 by simp;omega)) dC);have hts:=δ (US s k hlt');clear hl;obtain⟨N,hN⟩:=κ (tv (s.data.toList.take k));have HN:=δ hN;rw[hN] at hl2 ⊢;clear hN;have hb:=(s[k]).toNat_lt;have e1:=agC N (s[k]).toNat oM oM;go_wp2
   go_round
   case rel =>
    refine⟨k+1,oM,by go_num,?_⟩;rw[hts.out,aeQ,HN.out];first| rfl |(rw[← e1];done)|(congr 1;rw[← e1];done)
   case measure=>simp[intOf];omega
  ·obtain rfl:k=n:=oM
   go_wp2
   go_ret
   exact⟨rfl,rfl⟩
theorem aeV (x n:Nat):aK [UInt8.ofNat (x / 2 ^ (8*n))]=[ϋ ((x:Int) / 2 ^ (8*n) % 256)]:=by simp only[aK,jY,yZ];rw[Gz];simp
theorem Ki {A P:Prop} (f:A) (h:A→P:=by
 intro H;clear H;obtain⟨i0,bx,bN,bG,aT⟩:=je Bv;first| go_enter func293,ntmps293 | go_enter func246,ntmps246 | go_enter func209,ntmps209 | go_enter func215,ntmps215
 go_wp2_with fail
 go_loopw [0,7] (fun u i wr=>∃(j:Nat) (d:List UInt8),i=ι ((j:Int) - 1)∧d++i6 x j=i6 x n∧Own wr 5 1 u (m+d.length) (xs++aK d)∧ζ (fun k=>v.ownBlock=some k) w wr∧(u.ownBlock=v.ownBlock∨∃q,u.ownBlock=some q∧w.heap.size≤q)) (fun _ i _=>(intOf i+1).toNat)
 case atStart=>exact⟨n,[],by first| rfl | go_num,rfl,by simpa [aK] using hown,ζ.refl _ _,.inl rfl⟩
 case round =>
  obtain⟨j,d,rfl,hd,ho,hU,hl⟩:=hrel;clear hown;have hdl:=aJ List.length hd;rw[aL,ur,ur] at hdl;cases j with
  | succ j =>
    rw[show ((j+1:Nat):Int) - 1=(j:Int) by omega];have HX:=aj hd hU hl;have hj:j<8:=oM;have Mm:d.length≤8:=oM;clear hd hU hl hdl;obtain⟨D,hD⟩:=κ d.length;rw[hD] at ho Mm;have HD:=δ hD;clear hD;go_wp2_with (at_builtin;refine jH rfl _ _ _ _ rfl 5 i0 _ 1 1 underlying89 bx bN bG aT rfl u0 (m+D) _ rfl (ho.alloc _) _ 1 [_] rfl (Src.zi underlying89 _) (by simp[Value.oneCell']) (by unfold maxLen;omega) oM ?_;intro v2 w2 kL π hl2 bV);obtain⟨hd,hU,hl⟩:=HX.out;go_roundw
    case rel =>
     refine⟨j,d++[UInt8.ofNat (x / 2 ^ (8*j))],by first| rfl | go_num,?_,?_,(hU.alloc _).then π (fun b hb=>?_),?_⟩
     ·rw[dQ];exact hd
     ·rw[qM,aeV,← dQ,aL,HD.out];exact kL
     ·rcases hl with h | ⟨q,h,hq⟩
      ·exact .inl (by rw[← h];exact hb)
      ·rw[h] at hb;exact .inr (oN (dw hb))
     ·have hsz:=hU.size
      rcases hl2 with h | h
      ·rw[h];exact hl
      ·exact .inr ⟨_,h,by simp;omega⟩
    case measure=>simp[intOf]<;>omega
  | zero =>
    obtain rfl:d=i6 x n:=by simpa [i6] using hd
    rw[ur] at ho;have e1:((0:Nat):Int) - 1=-1:=rfl;rw[e1];clear hd hdl;go_wp2
    go_ret
    exact⟨u0,rfl,ho,hU,hl⟩):P:=h f
theorem UU (v:Value) (m:Nat) (xs:List Value) (x n:Nat) (w:World) (hown:Own w 5 1 v m xs) (hn:n≤8) (hm:m≤1000000) :
 ς 293 #[v,ω (x:Int),ι (n:Int)] w fun e w'=>∃v',e=ώ v'∧Own w' 5 1 v' (m+n) (xs++aK (i6 x n))∧ζ (fun k=>v.ownBlock=some k) w w'∧(v'.ownBlock=v.ownBlock∨∃q,v'.ownBlock=some q∧w.heap.size≤q):=by
 exact Ki (And.intro hown (And.intro hn hm))
theorem acA (v:Value) (m:Nat) (xs:List Value) (x n:Nat) (w:World) (hown:Own w 5 1 v m xs) (hn:n≤8) (hm:m≤1000000) :
 ς 246 #[v,ω (x:Int),ι (n:Int)] w fun e w'=>∃v',e=ώ v'∧Own w' 5 1 v' (m+n) (xs++aK (i6 x n))∧ζ (fun k=>v.ownBlock=some k) w w'∧(v'.ownBlock=v.ownBlock∨∃q,v'.ownBlock=some q∧w.heap.size≤q):=by
 exact Ki (And.intro hown (And.intro hn hm))
theorem UE (v:Value) (m:Nat) (xs:List Value) (x n:Nat) (w:World) (hown:Own w 5 1 v m xs) (hn:n≤8) (hm:m≤1000000) :
 ς 209 #[v,ω (x:Int),ι (n:Int)] w fun e w'=>∃v',e=ώ v'∧Own w' 5 1 v' (m+n) (xs++aK (i6 x n))∧ζ (fun k=>v.ownBlock=some k) w w'∧(v'.ownBlock=v.ownBlock∨∃q,v'.ownBlock=some q∧w.heap.size≤q):=by
 exact Ki (And.intro hown (And.intro hn hm))
theorem abW (v:Value) (m:Nat) (xs:List Value) (x n:Nat) (w:World) (hown:Own w 5 1 v m xs) (hn:n≤8) (hm:m≤1000000) :
 ς 215 #[v,ω (x:Int),ι (n:Int)] w fun e w'=>∃v',e=ώ v'∧Own w' 5 1 v' (m+n) (xs++aK (i6 x n))∧ζ (fun k=>v.ownBlock=some k) w w'∧(v'.ownBlock=v.ownBlock∨∃q,v'.ownBlock=some q∧w.heap.size≤q):=by
 exact Ki (And.intro hown (And.intro hn hm))
end
end Go.Proofs.YtbhjgfibhegddaaGreat
