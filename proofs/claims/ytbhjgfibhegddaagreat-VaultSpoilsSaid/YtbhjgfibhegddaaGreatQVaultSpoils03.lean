/-
  Parts of the proof of VaultSpoils: BatA, PackQ, BatB, ShaM, Big.
-/
import Derived.Test.YtbhjgfibhegddaaGreatQVaultSpoils02
import Derived.IntWalk
import Derived.Laws.Bits64b
import Derived.Laws.Closers25b
set_option maxRecDepth 100000
set_option maxHeartbeats 16000000
namespace Go.Proofs.YtbhjgfibhegddaaGreat
section
open Go Go.RowKit
def opRow (o:OpM):List Value:=[.int .u8 (o.kind.toNat:Int),.string (str o.path),.string (str o.value)]
def OpsAt (w:World) (b off:Nat) (l:List OpM):Prop:=∀i (h:i<l.length),w.rangeAt b (off+i*3) (opRow l[i])
def OpsSmall (l:List OpM):Prop:=∀o ∈ l,o.path.length≤1000000∧o.value.length≤1000000
theorem opsErr_drop {l:List OpM} {k:Nat} (hk:k<l.length):opsErr (l.drop k)=if opErr l[k]≠0 then opErr l[k] else opsErr (l.drop (k+1)):=by
 rw [List.drop_eq_getElem_cons hk,opsErr]
theorem right1_c (s:ByteArray) (hs:s.size≤1000000) (w:World) :
 Calls Tryz.prog 139 #[.string s] w fun e w'=>e=.returned (.int .i64 (if okPath s.data.toList=false then 20 else 0))∧Upd (fun _=>False) w w':=by
 have hc:=fun W=>pcut_c s hs W
 obtain ⟨a,ha⟩:=eqx (str (cutP s.data.toList).1);obtain ⟨b,hb⟩:∃a,str (cutP s.data.toList).2.1=a:=⟨_,rfl⟩;obtain ⟨B,hB⟩:∃a,okPath s.data.toList=a:=⟨_,rfl⟩;rw [ha,hb,hB] at hc;rw [hB];have HC:=Lib.hid hc;clear hc ha hb hB;cases B
 ·go_enter Tryz.func139,Tryz.ntmps139
  go_wp2_with fail
  refine (HC.out _).mono ?_;rintro e w1 ⟨rfl,hU⟩;have HU:=Lib.hid hU;clear hU;go_wp2_with fail
  go_ret
  exact ⟨rfl,HU.out⟩
 ·go_enter Tryz.func139,Tryz.ntmps139
  go_wp2_with fail
  refine (HC.out _).mono ?_;rintro e w1 ⟨rfl,hU⟩;have HU:=Lib.hid hU;clear hU;go_wp2_with fail
  go_ret
  exact ⟨rfl,HU.out⟩
theorem zz11 {P:Prop} (h:P:=by
 have HE4:Hid (opsErr (l.drop (k+1))=E):=by
  have e0:opErr o=0:=by rw [HE3.out,if_neg (fun e=>e.2 (HVE.out.1 g2))]
  have:=HE.out;rw [e0] at this;exact Lib.hid (by simpa using this)
 have g3:V=ByteArray.empty:=by
  apply ByteArray.ext
  apply Array.eq_empty_of_size_eq_zero
  exact g2
 subst g3;clear g2 g1;go_wp2_with fail
 go_roundw
 case rel=>exact ⟨k+1,oM,by go_num,HU6.out,HE4.out⟩
 case measure=>simp [intOf]<;>omega):P:=h
theorem zz16 {P:Prop} (h:P:=by
 obtain rfl:(20:Int)=E:=by
  have e3:opErr o=20:=by rw [HE0.out];rfl
  have:=HE.out;rw [e3] at this;simpa using this
 go_wp2_with fail
 refine (H25'.out _).mono ?_;rintro e w6 ⟨rfl,hU6⟩;have HU6:=Lib.hid (HU5.out.1.then hU6 wz0);clear hU6 c0 c1 c2;go_wp2_with fail
 go_ret
 exact ⟨rfl,HU6.out⟩):P:=h
theorem each_c {A:Option Addr} {cap b off:Nat} {l:List OpM} {w:World} (hA:0<l.length→A=some ⟨b,off,none⟩) (hb:∀w',Upd (fun _=>False) w w'→OpsAt w' b off l) (hs:OpsSmall l) (hl:l.length≤1000000) :
 Calls Tryz.prog 138 #[.slice A l.length cap,.func (.func 139) #[] #[]] w fun e w'=>e=.returned (.int .i64 (opsErr l))∧Upd (fun _=>False) w w':=by
 obtain ⟨E,hE⟩:=eqx (opsErr l);rw [hE];have HB:=Lib.hid hb;have HS:=h2k hs hE;clear hb hs hE;go_enter Tryz.func138,Tryz.ntmps138
 go_wp2_with fail
 go_loopw [6,7,10] (fun _ _ i wr=>∃k:Nat,k≤l.length∧i=.int .i64 (k:Int)∧Upd (fun _=>False) w wr∧opsErr (l.drop k)=E) (fun _ _ i _=>l.length - (intOf i).toNat)
 case atStart=>exact ⟨0,oM,rfl,Upd.refl _ _,HS.out.2⟩
 case round =>
  obtain ⟨k,hk,rfl,hU,hE⟩:=hrel;by_cases hlt:k<l.length
  ·obtain rfl:=hA oM
   have hrow:=HB.out wr hU k hlt;have hsm:=HS.out.1 _ (List.getElem_mem hlt);rw [opsErr_drop hlt] at hE;obtain ⟨o,ho⟩:=eqx (l[k]);rw [ho] at hrow hsm hE;have HR:=Lib.hid hrow;have HE:=Lib.hid hE;have HU:=Lib.hid hU;clear hrow hE hU ho;have j1:(k:Int)<(l.length:Int):=oM;have h25:=fun W=>right1_c (str o.path) (by rw [str_size];exact hsm.1) W
   rw [str_list] at h25;obtain ⟨P,hP⟩:=eqx (str o.path);obtain ⟨V,hV⟩:∃P,str o.value=P:=⟨_,rfl⟩;obtain ⟨K,hK⟩:∃K:Int,(o.kind.toNat:Int)=K:=⟨_,rfl⟩;have hrw:opRow o=[.int .u8 K,.string P,.string V]:=by unfold opRow;rw [hP,hV,hK]
   rw [hrw] at HR;rw [hP] at h25;have hVs:V.size=o.value.length:=by rw [← hV,str_size]
   have H25:=Lib.hid h25;have HV:=h3k hVs hV hK;clear h25 hrw hP hV hVs hK hsm;obtain ⟨q,hq⟩:=eqx wr.heap.size;have HQ:=Lib.hid hq;go_upto_region 4 with (first
    | (refine wpList_load_mid rfl _ _ rfl b (off+k*3) rfl [.int .u8 K,.string P,.string V] _ HR.out Tryz.underlying32 rfl kR ?_))
   generalize hw5:World.alloc _ _=w5;have hB5:Blk w5 q 32 #[.int .u8 K,.string P,.string V]:=by rw [← hw5,← HQ.out];exact Blk.new wr _ _
   have hU5:Upd (fun _=>False) w w5:=by rw [← hw5];exact HU.out.alloc _
   obtain ⟨c0,c1,c2⟩:=hB5.cells3;have HU5:=h2k hU5 hB5;clear hU5 hB5 hw5 hq HR;by_cases hk10:o.kind≠1∧o.kind≠2
   ·have hE10:E=10:=by rw [← HE.out];unfold opErr;rw [if_pos hk10];simp
    subst hE10;have k1:(K != 1)=true:=by
     rw [bne_iff_ne,← HV.out.2.2];intro e;exact hk10.1 (UInt8.toNat_inj.1 (show o.kind.toNat=1 by omega))
    have k2:(K != 2)=true:=by
     rw [bne_iff_ne,← HV.out.2.2];intro e;exact hk10.2 (UInt8.toNat_inj.1 (show o.kind.toNat=2 by omega))
    clear hk10;go_wp2_with fail
    go_ret
    exact ⟨rfl,HU5.out.1⟩
   ·have hK12:K=1∧o.kind=1∨K=2∧o.kind=2:=by
     rcases Classical.em (o.kind=1) with e | e
     ·exact .inl ⟨by rw [← HV.out.2.2,e];rfl,e⟩
     ·refine .inr ?_
      have e2:o.kind=2:=Classical.byContradiction fun c=>hk10 ⟨e,c⟩
      exact ⟨by rw [← HV.out.2.2,e2];rfl,e2⟩
    have HK12:=Lib.hid hK12;have HN:=Lib.hid hk10;clear hk10 hK12;rcases HK12.out with ⟨rfl,hkd⟩ | ⟨rfl,hkd⟩
    ·have hE0:opErr o=if okPath o.path=false then 20 else if 32<o.value.length then 3 else if o.kind=2∧o.value≠[] then 1 else 0:=by
      unfold opErr;rw [if_neg HN.out]
     have HKD:=Lib.hid hkd;have hVe:V.size=0↔o.value=[]:=by rw [HV.out.1,List.length_eq_zero_iff]
     rw [← HV.out.1] at hE0;obtain ⟨B,hB⟩:=eqx (okPath o.path);have h25:=H25.out;rw [hB] at hE0 h25;have H25':=Lib.hid h25;have HE0:=Lib.hid hE0;have HVE:=Lib.hid hVe;clear hB h25 hE0 HK12 hkd hVe;cases B
     ·exact zz16
     ·go_wp2_with fail
      refine (H25'.out _).mono ?_;rintro e w6 ⟨rfl,hU6⟩;have HU6:=Lib.hid (HU5.out.1.then hU6 wz0);obtain ⟨c0,c1,c2⟩:=(HU5.out.2.upd hU6 (fun e=>e)).cells3;clear hU6;by_cases g1:(32:Int)<(V.size:Int)
      ·obtain rfl:(3:Int)=E:=by
        have e3:opErr o=3:=by rw [HE0.out,if_neg sM,if_pos oM]
        have:=HE.out;rw [e3] at this;simpa using this
       go_wp2_with fail
       go_ret
       exact ⟨rfl,HU6.out⟩
      ·have hE3:opErr o=if o.kind=2∧o.value≠[] then 1 else 0:=by rw [HE0.out,if_neg sM,if_neg oM]
       have HE3:=Lib.hid hE3;clear hE3;by_cases g2:V.size=0
       ·exact zz11
       ·have g4:(!V.toList.isEmpty)=true:=by
         rw [ByteArray.toList_eq];have:V.data.toList≠[]:=fun e=>g2 (by have h:=congrArg List.length e;simpa using h)
         simpa using this
        have HV0:=Lib.hid (fun e=>g2 (HVE.out.2 e));clear g2;have HE4:Hid (opsErr (l.drop (k+1))=E):=by
         have e0:opErr o=0:=by rw [HE3.out,if_neg (fun e=>by have:=e.1;rw [HKD.out] at this;exact absurd this dC)]
         have:=HE.out;rw [e0] at this;exact Lib.hid (by simpa using this)
        go_wp2_with fail
        go_roundw
        case rel=>exact ⟨k+1,oM,by go_num,HU6.out,HE4.out⟩
        case measure=>simp [intOf]<;>omega
    ·have hE0:opErr o=if okPath o.path=false then 20 else if 32<o.value.length then 3 else if o.kind=2∧o.value≠[] then 1 else 0:=by
      unfold opErr;rw [if_neg HN.out]
     have HKD:=Lib.hid hkd;have hVe:V.size=0↔o.value=[]:=by rw [HV.out.1,List.length_eq_zero_iff]
     rw [← HV.out.1] at hE0;obtain ⟨B,hB⟩:=eqx (okPath o.path);have h25:=H25.out;rw [hB] at hE0 h25;have H25':=Lib.hid h25;have HE0:=Lib.hid hE0;have HVE:=Lib.hid hVe;clear hB h25 hE0 HK12 hkd hVe;cases B
     ·exact zz16
     ·go_wp2_with fail
      refine (H25'.out _).mono ?_;rintro e w6 ⟨rfl,hU6⟩;have HU6:=Lib.hid (HU5.out.1.then hU6 wz0);obtain ⟨c0,c1,c2⟩:=(HU5.out.2.upd hU6 (fun e=>e)).cells3;clear hU6;by_cases g1:(32:Int)<(V.size:Int)
      ·obtain rfl:(3:Int)=E:=by
        have e3:opErr o=3:=by rw [HE0.out,if_neg sM,if_pos oM]
        have:=HE.out;rw [e3] at this;simpa using this
       go_wp2_with fail
       go_ret
       exact ⟨rfl,HU6.out⟩
      ·have hE3:opErr o=if o.kind=2∧o.value≠[] then 1 else 0:=by rw [HE0.out,if_neg sM,if_neg oM]
       have HE3:=Lib.hid hE3;clear hE3;by_cases g2:V.size=0
       ·exact zz11
       ·have g4:(!V.toList.isEmpty)=true:=by
         rw [ByteArray.toList_eq];have:V.data.toList≠[]:=fun e=>g2 (by have h:=congrArg List.length e;simpa using h)
         simpa using this
        have HV0:=Lib.hid (fun e=>g2 (HVE.out.2 e));clear g2;obtain rfl:(1:Int)=E:=by
         have e3:opErr o=1:=by rw [HE3.out,if_pos ⟨HKD.out,HV0.out⟩]
         have:=HE.out;rw [e3] at this;simpa using this
        go_wp2_with fail
        go_ret
        exact ⟨rfl,HU6.out⟩
  ·obtain rfl:E=0:=by rw [← hE,List.drop_of_length_le oM];rfl
   obtain rfl:k=l.length:=oM;have HU:=Lib.hid hU;clear hU hE;go_wp2_with fail
   go_ret
   exact ⟨rfl,HU.out⟩
def batRow (i e:Int) (ov:Value):Array Value:=#[.int .i64 i,.int .i64 e,ov]
theorem bright_c {A:Option Addr} {cap b off:Nat} {l:List OpM} {w:World} {i ep:Int} (hA:0<l.length→A=some ⟨b,off,none⟩) (hb:∀w',Upd (fun _=>False) w w'→OpsAt w' b off l) (hs:OpsSmall l) (hl:l.length≤1000000) :
 Calls Tryz.prog 81 #[.agg (batRow i ep (.slice A l.length cap))] w fun e w'=>e=.returned (.int .i64 (batErr i ep l))∧Upd (fun _=>False) w w':=by
 have hea:=fun W (hW:Upd (fun _=>False) w W)=>each_c (cap:=cap) (w:=W) hA (fun w' h=>hb w' (hW.then h wz0)) hs hl
 obtain ⟨E,hE⟩:=eqx (batErr i ep l);obtain ⟨E2,hE2⟩:∃E,opsErr l=E:=⟨_,rfl⟩;rw [hE];unfold batErr at hE;rw [hE2] at hE hea;have HEA:=Lib.hid hea;have HE:=Lib.hid hE;clear hea hE hE2 hb hs hA;unfold batRow;go_enter Tryz.func81,Tryz.ntmps81
 go_upto_region 1 with fail
 generalize hw5:World.alloc _ _=w5;obtain ⟨q,hq⟩:=eqx w.heap.size;rw [hq];have hB5:Blk w5 q 35 #[.int .i64 i,.int .i64 ep,.slice A l.length cap]:=by rw [← hw5,← hq];exact Blk.new w _ _
 have hU5:Upd (fun _=>False) w w5:=by rw [← hw5];exact (Upd.refl _ w).alloc _
 obtain ⟨c0,c1,c2⟩:=hB5.cells3;have HU5:=Lib.hid hU5;clear hU5 hB5 hw5 hq;by_cases h1:i<1
 ·obtain rfl:(1:Int)=E:=by rw [← HE.out,if_pos (.inl h1)]
  go_wp2_with fail
  go_ret
  exact ⟨rfl,HU5.out⟩
 ·by_cases h2:(4611686018427387904:Int)<i
  ·obtain rfl:(1:Int)=E:=by rw [← HE.out,if_pos (.inr (.inl h2))]
   go_wp2_with fail
   go_ret
   exact ⟨rfl,HU5.out⟩
  ·by_cases h3:ep<1
   ·obtain rfl:(1:Int)=E:=by rw [← HE.out,if_pos (.inr (.inr h3))]
    go_wp2_with fail
    go_ret
    exact ⟨rfl,HU5.out⟩
   ·by_cases h4:(4:Int)<(l.length:Int)
    ·obtain rfl:(3:Int)=E:=by rw [← HE.out,if_neg oM,if_pos oM]
     go_wp2_with fail
     go_ret
     exact ⟨rfl,HU5.out⟩
    ·obtain rfl:E2=E:=by rw [← HE.out,if_neg oM,if_neg oM]
     go_wp2_with fail
     refine (HEA.out _ HU5.out).mono ?_;rintro e w6 ⟨rfl,hU6⟩;have HU6:=Lib.hid (HU5.out.then hU6 wz0);clear hU6 c0 c1 c2;go_wp2_with fail
     go_ret
     exact ⟨rfl,HU6.out⟩
structure OutQ (F:Nat→Prop) (w0 w:World) (o:Nat) (l:List UInt8):Prop where
 ex:∃v,Blk w o 171 #[v]∧Own w 5 1 v l.length (bytesV l)∧∀q,v.ownBlock=some q→F q∨w0.heap.size≤q
 new:F o∨w0.heap.size≤o
 upd:Upd F w0 w
theorem OutQ.still {F:Nat→Prop} {w0 w w':World} {o:Nat} {l:List UInt8} (h:OutQ F w0 w o l) (hu:Upd (fun _=>False) w w'):OutQ F w0 w' o l:=by
 obtain ⟨v,h1,h2,h3⟩:=h.ex;exact ⟨⟨v,h1.upd hu (fun e=>e),h2.upd hu (fun _ _ e=>e),h3⟩,h.new,h.upd.then hu wz0⟩
theorem OutQ.start (w:World):OutQ (fun _=>False) w (w.alloc (.cells #[.slice none 0 0] 171)) w.heap.size [] :=
 ⟨⟨_,Blk.new w _ _,Own.nil _ _ _,fun q hq=>by simp [Value.ownBlock] at hq⟩,.inr (Nat.le_refl _),(Upd.refl _ w).alloc _⟩
theorem OutQ.here {F:Nat→Prop} {w0 w:World} {o:Nat} {l:List UInt8} (h:OutQ F w0 w o l):∃G:Nat→Prop,OutQ G w w o l∧(∀q,G q→F q∨w0.heap.size≤q)∧∀g t cs,Blk w g t cs→t≠171→t≠5→¬G g:=by
 obtain ⟨v,h1,h2,h3⟩:=h.ex;refine ⟨fun q=>q=o∨v.ownBlock=some q,⟨⟨v,h1,h2,fun q hq=>.inl (.inr hq)⟩,.inl (.inl rfl),Upd.refl _ _⟩,fun q hq=>?_,fun g t cs hB n1 n2 e=>?_⟩
 ·rcases hq with rfl | hq
  ·exact h.new
  ·exact h3 q hq
 ·rcases e with rfl | e
  ·exact absurd rfl (hB.ne_ h1 n1)
  ·exact h2.ne_blk hB (fun e2=>n2 e2.symm) e
theorem OutQ.back {F G:Nat→Prop} {w0 w w':World} {o:Nat} {l l':List UInt8} (h:OutQ F w0 w o l) (hG:∀q,G q→F q∨w0.heap.size≤q) (h':OutQ G w w' o l'):OutQ F w0 w' o l':=by
 obtain ⟨v,h1,h2,h3⟩:=h'.ex;have hs:=h.upd.size;have key:∀q,G q∨w.heap.size≤q→F q∨w0.heap.size≤q:=fun q hq=>hq.elim (hG q) (fun e=>.inr oM)
 exact ⟨⟨v,h1,h2,fun q hq=>key q (h3 q hq)⟩,h.new,h.upd.then h'.upd hG⟩
theorem oput_q {F:Nat→Prop} {w0 w:World} {o:Nat} {l:List UInt8} (h:OutQ F w0 w o l) {src:Value} {n:Nat} {news:List UInt8} (hs:Src Tryz.prog w 89 1 src n (bytesV news)) (hn:news.length=n) (hm:l.length+n≤1000000) :
 Calls Tryz.prog 156 #[.pointer (some ⟨o,0,none⟩),src] w fun e w'=>e=.returned (.tuple #[])∧OutQ F w0 w' o (l++news):=by
 obtain ⟨i0,hi0,hz0,hz1,hz2⟩:=info_parts infoU8;obtain ⟨v,hB,hO,hv⟩:=h.ex;have hc:=hB.cells1;have hf:=hB.frozen 0;have hne:=hO.ne_blk hB dC;go_enter Tryz.func156,Tryz.ntmps156
 go_wp2_with (at_builtin
              refine wpList_append_src rfl _ _ _ _ rfl 5 i0 _ 1 1 Tryz.underlying89 hi0 hz0 hz1 hz2 rfl v l.length _ rfl hO _ n _ rfl hs (bytesV_one _) (by unfold maxLen;omega) oM ?_;intro v2 w2 hO2 hU2 hl2 hs2;have hB2:=hB.upd hU2 (fun e=>hne e);have hc2:=hB2.cells1;have hf2:=hB2.frozen 0;obtain ⟨A2,cap2,rfl,hA1,hA2⟩:=hO2.shape)
 go_end0
 have hn2:(Value.slice A2 (l.length+n) cap2).ownBlock≠some o:=by
  rcases hl2 with e | e
  ·rw [e];exact hne
  ·rw [e];intro e2;have:=hB.lt;have:=Option.some.inj e2;omega
 refine ⟨rfl,⟨_,hB2.set_ 0 _,?_,fun q hq=>?_⟩,h.new,?_⟩
 ·have:=hO2.far (p:=⟨o,0,none⟩) hn2 (Value.slice A2 (l.length+n) cap2)
  rw [List.length_append,hn,bytesV_app];exact this
 ·rcases hl2 with e | e
  ·rw [e] at hq;exact hv q hq
  ·rw [e] at hq;have:=h.upd.size;have:=Option.some.inj hq;exact .inr oM
 ·exact (h.upd.then hU2 (fun q hq=>hv q hq)).setCell (p:=⟨o,0,none⟩) h.new _
theorem oput_one_q {F:Nat→Prop} {w0 w:World} {o:Nat} {l:List UInt8} (h:OutQ F w0 w o l) (b:UInt8) {z:Int} (hz:z=(b.toNat:Int)) (hm:l.length+1≤1000000) :
 Calls Tryz.prog 156 #[.pointer (some ⟨o,0,none⟩),.slice (some ⟨w.heap.size,0,none⟩) 1 1] (w.alloc (.cells #[.int .u8 z] 5)) fun e w'=>e=.returned (.tuple #[])∧OutQ F w0 w' o (l++[b]):=by
 subst hz;exact oput_q (h.still ((Upd.refl _ w).alloc _)) (news:=[b]) (Src.of_new Tryz.underlying89 _) rfl hm
theorem onum_q {F:Nat→Prop} {w0 w:World} {o:Nat} {l:List UInt8} (h:OutQ F w0 w o l) (n:Nat) (hn:n<18446744073709551616) (hm:l.length≤900000) :
 Calls Tryz.prog 98 #[.pointer (some ⟨o,0,none⟩),.int .u64 (n:Int)] w fun e w'=>e=.returned (.tuple #[])∧OutQ F w0 w' o (l++putN n):=by
 have h10:=size_u64 hn;go_enter Tryz.func98,Tryz.ntmps98
 go_wp2_with fail
 refine (size_c n _ hn).mono ?_;rintro e w' ⟨rfl,rfl⟩;have H:=Lib.hid h;clear h;go_wp2_with fail
 go_loopw [1,4] (fun x i wr=>∃(k:Nat) (r:List UInt8),x=.int .u64 (k:Int)∧i=.int .i64 (sizeN k:Int)∧OutQ F w0 wr o (l++r)∧r++putN k=putN n∧k<18446744073709551616∧r.length≤10) (fun _ i _=>(intOf i).toNat)
 case atStart=>exact ⟨n,[],rfl,rfl,by simpa using H.out,sM,hn,sM⟩
 case round =>
  obtain ⟨k,r,rfl,rfl,ho,hr,hk,hl⟩:=hrel;clear H;have HO:=Lib.hid ho;clear ho;by_cases hlt:k<128
  ·have hs1:=sizeN_lt hlt
   rw [hs1];go_wp2_with fail
   refine (oput_one_q HO.out (UInt8.ofNat k) (by rw [byte_low oM]) (by simp;omega)).mono ?_;rintro e w2 ⟨rfl,h2⟩;go_wp2_with fail
   go_end0
   rw [← hr,putN_lt hlt,← List.append_assoc];exact ⟨rfl,h2⟩
  ·have hs1:=sizeN_ge (n:=k) oM
   have hp:=sizeN_pos (k / 128);have hp10:=size_u64 (n:=k / 128) oM;go_wp2_with fail
   refine (oput_one_q HO.out (UInt8.ofNat (k % 128+128)) (by rw [byte_low oM];exact or_128 k) (by simp;omega)).mono ?_;rintro e w2 ⟨rfl,h2⟩;have H2:=Lib.hid h2;clear h2;go_wp2_with fail
   go_roundw
   case rel =>
    refine ⟨k / 128,r++[UInt8.ofNat (k % 128+128)],by go_num,by go_num,?_,?_,oM,?_⟩
    ·rw [← List.append_assoc];exact H2.out
    ·rw [← hr,putN_ge (n:=k) oM,List.append_assoc];rfl
    ·have h1:=congrArg List.length hr
     rw [List.length_append,putN_len,putN_len] at h1;rw [List.length_append];simp;omega
   case measure=>simp [intOf];omega
theorem ostring_q {F:Nat→Prop} {w0 w:World} {o:Nat} {l:List UInt8} (h:OutQ F w0 w o l) :
 Calls Tryz.prog 101 #[.pointer (some ⟨o,0,none⟩)] w fun e w'=>e=.returned (.string (str l))∧w=w':=by
 obtain ⟨v,hB,hO,hv⟩:=h.ex;have hc:=hB.cells1;have hcv:=run_to_string hO;obtain ⟨A,cap,rfl,h1,h2⟩:=hO.shape;go_enter Tryz.func101,Tryz.ntmps101
 go_wp2_with fail
 go_ret
 exact ⟨rfl,rfl⟩
theorem otext_q {F:Nat→Prop} {w0 w:World} {o:Nat} {l:List UInt8} (h:OutQ F w0 w o l) (s:ByteArray) (hs:s.size≤60000) (hm:l.length≤800000) :
 Calls Tryz.prog 100 #[.pointer (some ⟨o,0,none⟩),.string s] w fun e w'=>e=.returned (.tuple #[])∧OutQ F w0 w' o (l++textN s.data.toList):=by
 have h2:=size_u64 (n:=s.size) oM;have HN:=Lib.hid (onum_q h s.size oM oM);have HE:=Lib.hid (show l++putN s.size++s.data.toList=l++textN s.data.toList by unfold textN;rw [List.append_assoc];rfl)
 have HL:=Lib.hid (show (l++putN s.size).length=l.length+sizeN s.size by rw [List.length_append,putN_len]);clear h;go_enter Tryz.func100,Tryz.ntmps100
 go_wp2_with fail
 refine HN.out.mono ?_;rintro e w1 ⟨rfl,h1⟩;have H1:=Lib.hid h1;clear h1;obtain ⟨v2,w2,hcv,hown,hU,hob,hsz⟩:=run_to_bytes w1 s (by unfold maxLen;omega);have H2:=h2k hown hU;clear hown hU hob hsz;go_wp2_with fail
 refine (oput_q (H1.out.still H2.out.2) (Src.of_own Tryz.underlying89 H2.out.1) rfl (oN HL.out)).mono ?_;rintro e w3 ⟨rfl,h3⟩;have H3:=Lib.hid h3;clear h3;go_wp2_with fail
 go_end0
 rw [← HE.out];exact ⟨rfl,H3.out⟩
theorem obyte_q {F:Nat→Prop} {w0 w:World} {o:Nat} {l:List UInt8} (h:OutQ F w0 w o l) (b:UInt8) (hm:l.length≤800000) :
 Calls Tryz.prog 99 #[.pointer (some ⟨o,0,none⟩),.int .u8 (b.toNat:Int)] w fun e w'=>e=.returned (.tuple #[])∧OutQ F w0 w' o (l++[b]):=by
 have H:=Lib.hid (oput_one_q h b rfl oM);clear h;go_enter Tryz.func99,Tryz.ntmps99
 go_wp2_with fail
 refine H.out.mono ?_;rintro e w3 ⟨rfl,h3⟩;have H3:=Lib.hid h3;clear h3;go_wp2_with fail
 go_end0
 exact ⟨rfl,H3.out⟩
structure InQ (F:Nat→Prop) (w0 w:World) (x:Nat) (i:InS):Prop where
 blk:Blk w x 318 #[.string (str i.rest),.int .i64 (i.read:Int),.int .i64 i.fail]
 new:F x∨w0.heap.size≤x
 upd:Upd F w0 w
theorem InQ.start (w:World) (s:ByteArray):InQ (fun _=>False) w (w.alloc (.cells #[.string s,.int .i64 0,.int .i64 0] 318)) w.heap.size ⟨s.data.toList,0,0⟩ :=
 ⟨Blk.new w _ _,.inr (Nat.le_refl _),(Upd.refl _ w).alloc _⟩
theorem InQ.still {F:Nat→Prop} {w0 w w':World} {x:Nat} {i:InS} (h:InQ F w0 w x i) (hu:Upd (fun _=>False) w w'):InQ F w0 w' x i:=⟨h.blk.upd hu (fun e=>e),h.new,h.upd.then hu wz0⟩
theorem InQ.here {F:Nat→Prop} {w0 w:World} {x:Nat} {i:InS} (h:InQ F w0 w x i):InQ (· = x) w w x i:=⟨h.blk,.inl rfl,Upd.refl _ _⟩
theorem InQ.back {F:Nat→Prop} {w0 w w':World} {x:Nat} {i i':InS} (h:InQ F w0 w x i) (h':InQ (· = x) w w' x i'):InQ F w0 w' x i':=⟨h'.blk,h.new,h.upd.then h'.upd (fun q e=>by have e2:q=x:=e;rw [e2];exact h.new)⟩
section
variable {F:Nat→Prop} {w0 w:World} {x:Nat} {i:InS}
theorem reads_q (h:InQ F w0 w x i):Calls Tryz.prog 217 #[.pointer (some ⟨x,0,none⟩)] w fun e w'=>e=.returned (.bool (decide (i.fail=0)))∧w=w':=by
 have hc:=h.blk.cells3;clear h;obtain ⟨r,k,f⟩:=i;simp only at hc
 go_enter Tryz.func217,Tryz.ntmps217
 go_wp2_with fail
 go_ret
 exact ⟨rfl,rfl⟩
theorem takes_no_q (h:InQ F w0 w x i) (b e:Int) (he:e≠0):Calls Tryz.prog 219 #[.pointer (some ⟨x,0,none⟩),.int .i64 b,.int .i64 e] w fun en w'=>en=.returned (.bool false)∧InQ F w0 w' x ⟨i.rest,i.read,e⟩:=by
 have hc:=h.blk.cells3;have hf:=h.blk.frozen 2;have HB:=Lib.hid h;clear h;go_enter Tryz.func219,Tryz.ntmps219
 go_wp2_with fail
 go_ret
 refine ⟨rfl,?_,HB.out.new,HB.out.upd.setCell (p:=⟨x,2,none⟩) HB.out.new _⟩;have:=HB.out.blk.set_ 2 (.int .i64 e);simpa using this
theorem takes_ok_q (h:InQ F w0 w x i) (b:Nat) (hb:b≤i.rest.length) (hr:i.read+b≤1000000000000):Calls Tryz.prog 219 #[.pointer (some ⟨x,0,none⟩),.int .i64 (b:Int),.int .i64 0] w fun en w'=>en=.returned (.bool true)∧InQ F w0 w' x ⟨i.rest.drop b,i.read+b,0⟩:=by
 have hc:=h.blk.cells3;have hf0:=h.blk.frozen 0;have hf1:=h.blk.frozen 1;have hf2:=h.blk.frozen 2;have hsz:(str i.rest).size=i.rest.length:=str_size _;have HB:=Lib.hid h;have e1:str (i.rest.drop b)=(str i.rest).extract b i.rest.length:=by
  rw [extract_str_from,str_list,List.take_of_length_le sM]
 obtain ⟨s,hs⟩:=eqx (str i.rest);rw [hs] at hc hsz e1;have hb':b≤s.size:=oM;clear h;go_enter Tryz.func219,Tryz.ntmps219
 go_wp2_with fail
 go_ret
 refine ⟨rfl,?_,HB.out.new,((HB.out.upd.setCell (p:=⟨x,2,none⟩) HB.out.new _).setCell (p:=⟨x,0,none⟩) HB.out.new _).setCell (p:=⟨x,1,none⟩) HB.out.new _⟩;have:=((HB.out.blk.set_ 2 (.int .i64 0)).set_ 0 (.string (s.extract b i.rest.length))).set_ 1 (.int .i64 ((i.read:Int)+(b:Int)));rw [← e1] at this;simpa [e1] using this
theorem zz3 {P:Prop} (h:P:=by
 go_wp2_with fail
 refine HR.out.mono ?_;rintro e w' ⟨rfl,rfl⟩;go_wp2_with fail
 refine HBd.out.mono ?_;rintro e w' ⟨rfl,rfl⟩;go_wp2_with fail
 refine HT.out.mono ?_;rintro e w' ⟨rfl,hX⟩;have HX:=Lib.hid hX;clear hX;go_wp2_with fail
 go_ret
 exact ⟨rfl,HX.out⟩):P:=h
theorem zz18 {P:Prop} (h:P:=by
 go_wp2_with fail
 refine HR.out.mono ?_;rintro e w' ⟨rfl,rfl⟩;go_wp2_with fail
 go_ret
 exact ⟨rfl,HB.out⟩):P:=h
theorem most_q (h:InQ F w0 w x i) (m:Nat) (hm:m≤9223372036854775807) (hr:i.read≤100000000000) :
 Calls Tryz.prog 176 #[.pointer (some ⟨x,0,none⟩),.int .i64 (m:Int)] w fun en w'=>en=.returned (.int .i64 ((i.most m).1:Int))∧InQ F w0 w' x (i.most m).2:=by
 have hc:=h.blk.cells3;have hR:=reads_q h;have hB:=bounded_c (str i.rest) m hm w;rw [str_list] at hB;have hT:=takes_ok_q h;have hTn:=takes_no_q h;have hbd:=bound_bad i.rest m;have hfit:=num_fits i.rest;have HB:=Lib.hid h;unfold InS.most;clear h;by_cases hf:i.fail=0
 ·rw [decide_eq_true hf] at hR
  rw [if_pos hf];obtain ⟨⟨a,b,c⟩,hq⟩:∃q,boundL i.rest m=q:=⟨_,rfl⟩;rw [hq] at hB hbd ⊢;simp only at hB hbd ⊢
  by_cases h0:c=0
  ·subst h0
   have hb1:=(bound_ok hq).2;rw [hb1] at hfit;simp only at hfit
   have HT:=Lib.hid (hT b hfit.2.2.1 oM);have HR:=Lib.hid hR;have HBd:=Lib.hid hB;clear hT hTn hR hB hbd hq hb1 hfit;rw [if_pos rfl];go_enter Tryz.func176,Tryz.ntmps176
   exact zz3
  ·have HT:=Lib.hid (hTn (b:Int) c h0)
   have HR:=Lib.hid hR;have HBd:=Lib.hid hB;clear hT hTn hR hB hq hfit hbd;rw [if_neg h0];go_enter Tryz.func176,Tryz.ntmps176
   exact zz3
 ·rw [decide_eq_false hf] at hR
  rw [if_neg hf];have HR:=Lib.hid hR;clear hT hTn hR hB hbd hfit;go_enter Tryz.func176,Tryz.ntmps176
  exact zz18
theorem fault_q (h:InQ F w0 w x i):Calls Tryz.prog 185 #[.pointer (some ⟨x,0,none⟩)] w fun e w'=>∃n:Int,e=.returned (.tuple #[.int .i64 i.fail,.int .i64 n])∧Upd (fun _=>False) w w':=by
 have hc:=h.blk.cells3;have HR:=Lib.hid (reads_q h);clear h;by_cases hf:i.fail=0
 ·rw [decide_eq_true hf] at HR
  rw [hf];go_enter Tryz.func185,Tryz.ntmps185
  go_wp2_with fail
  refine HR.out.mono ?_;rintro e w' ⟨rfl,rfl⟩;go_wp2_with fail
  go_ret2
  exact ⟨_,rfl,Upd.refl _ _⟩
 ·rw [decide_eq_false hf] at HR
  go_enter Tryz.func185,Tryz.ntmps185
  go_wp2_with fail
  refine HR.out.mono ?_;rintro e w' ⟨rfl,rfl⟩;go_wp2_with fail
  go_region
  all_goals go_wp2
  all_goals go_ret2
  all_goals exact ⟨_,rfl,(Upd.refl _ _).drewN _⟩
theorem left_q (h:InQ F w0 w x i):Calls Tryz.prog 221 #[.pointer (some ⟨x,0,none⟩)] w fun e w'=>e=.returned (.int .i64 (i.rest.length:Int))∧w=w':=by
 have hc:=h.blk.cells3;have hsz:(str i.rest).size=i.rest.length:=str_size _;obtain ⟨s,hs⟩:=eqx (str i.rest);rw [hs] at hc hsz;clear h hs;go_enter Tryz.func221,Tryz.ntmps221
 go_wp2_with fail
 go_ret
 exact ⟨rfl,rfl⟩
theorem zz25 {P:Prop} (h:P:=by
 go_enter Tryz.func179,Tryz.ntmps179
 go_wp2_with fail
 refine HF.out.mono ?_;rintro e w1 ⟨n,rfl,hU⟩;have HU:=Lib.hid hU;clear hU;go_wp2_with fail
 refine (HL.out _ HU.out).mono ?_;rintro e w2 ⟨rfl,rfl⟩;go_wp2_with fail
 go_ret
 exact ⟨rfl,HU.out⟩):P:=h
theorem end_q (h:InQ F w0 w x i):Calls Tryz.prog 179 #[.pointer (some ⟨x,0,none⟩)] w fun e w'=>e=.returned (.int .i64 (if i.fail≠0 then i.fail else if i.rest≠[] then 8 else 0))∧Upd (fun _=>False) w w':=by
 have HF:=Lib.hid (fault_q h);have HL:Hid (∀W,Upd (fun _=>False) w W→Calls Tryz.prog 221 #[.pointer (some ⟨x,0,none⟩)] W fun e w'=>e=.returned (.int .i64 (i.rest.length:Int))∧W=w') :=
  Lib.hid fun W hU=>left_q (F:=F) (w0:=w0) ⟨h.blk.upd hU (fun e=>e),h.new,h.upd.then hU wz0⟩
 clear h;by_cases hf:i.fail=0
 ·rw [hf] at HF
  by_cases hr:i.rest=[]
  ·have hl:(i.rest.length:Int)=0:=by rw [hr];rfl
   rw [if_neg (by simp [hf]),if_neg (by simp [hr])];rw [hl] at HL;exact zz25
  ·have hl:0<i.rest.length:=List.length_pos_iff.2 hr
   rw [if_neg (by simp [hf]),if_pos hr];exact zz25
 ·rw [if_pos hf]
  go_enter Tryz.func179,Tryz.ntmps179
  go_wp2_with fail
  refine HF.out.mono ?_;rintro e w1 ⟨n,rfl,hU⟩;have HU:=Lib.hid hU;clear hU;go_wp2_with fail
  go_ret
  exact ⟨rfl,HU.out⟩
theorem inum_q (h:InQ F w0 w x i) (hr:i.read≤100000000000) :
 Calls Tryz.prog 175 #[.pointer (some ⟨x,0,none⟩)] w fun en w'=>en=.returned (.int .u64 (i.num.1:Int))∧InQ F w0 w' x i.num.2:=by
 have hc:=h.blk.cells3;have hR:=reads_q h;have hB:=number_c (str i.rest) w;rw [str_list] at hB;have hT:=takes_ok_q h;have hTn:=takes_no_q h;have hfit:=num_fits i.rest;have HB:=Lib.hid h;unfold InS.num;clear h;by_cases hf:i.fail=0
 ·rw [decide_eq_true hf] at hR
  rw [if_pos hf];obtain ⟨⟨a,b,c⟩,hq⟩:∃q,numL i.rest=q:=⟨_,rfl⟩;rw [hq] at hB hfit ⊢;simp only at hB hfit ⊢
  by_cases h0:c=0
  ·subst h0
   have HT:=Lib.hid (hT b hfit.2.2.1 oM);have HR:=Lib.hid hR;have HBd:=Lib.hid hB;clear hT hTn hR hB hq hfit;rw [if_pos rfl];go_enter Tryz.func175,Tryz.ntmps175
   exact zz3
  ·have HT:=Lib.hid (hTn (b:Int) c h0)
   have HR:=Lib.hid hR;have HBd:=Lib.hid hB;clear hT hTn hR hB hq hfit;rw [if_neg h0];go_enter Tryz.func175,Tryz.ntmps175
   exact zz3
 ·rw [decide_eq_false hf] at hR
  rw [if_neg hf];have HR:=Lib.hid hR;clear hT hTn hR hB hfit;go_enter Tryz.func175,Tryz.ntmps175
  exact zz18
theorem itext_q (h:InQ F w0 w x i) (m:Nat) (hm:m≤9223372036854775807) (hr:i.read≤100000000000) (hlen:i.rest.length≤100000) :
 Calls Tryz.prog 177 #[.pointer (some ⟨x,0,none⟩),.int .i64 (m:Int)] w fun en w'=>en=.returned (.string (str (i.text m).1))∧InQ F w0 w' x (i.text m).2:=by
 have hc:=h.blk.cells3;have hR:=reads_q h;have hB:=bounded_c (str i.rest) m hm w;rw [str_list] at hB;have hT:=takes_ok_q h;have hTn:=takes_no_q h;have hbd:=bound_bad i.rest m;have hfit:=num_fits i.rest;have hsz:(str i.rest).size=i.rest.length:=str_size _;have HB:=Lib.hid h;unfold InS.text;clear h;by_cases hf:i.fail=0
 ·rw [decide_eq_true hf] at hR
  rw [if_pos hf];obtain ⟨⟨a,b,c⟩,hq⟩:∃q,boundL i.rest m=q:=⟨_,rfl⟩;unfold textE;rw [hq] at hB hbd ⊢;simp only at hB hbd ⊢
  by_cases h0:c=0
  ·subst h0
   obtain ⟨hb0,hb1⟩:=bound_ok hq;rw [hb1] at hfit;simp only at hfit
   simp only [ne_eq,not_true_eq_false,if_false];by_cases hn:i.rest.length - b<a
   ·have HT:=Lib.hid (hTn ((b:Int)+(a:Int)) 7 dC)
    have HTW:Hid (∀z:Int,Calls Tryz.prog 219 #[.pointer (some ⟨x,0,none⟩),.int .i64 z,.int .i64 7] w fun en w'=>en=.returned (.bool false)∧InQ F w0 w' x ⟨i.rest,i.read,7⟩):=Lib.hid fun z=>hTn z 7 dC
    have HR:=Lib.hid hR;have HBd:=Lib.hid hB;have hd:decide ((i.rest.length:Int) - (b:Int)<(a:Int))=true:=decide_eq_true oM;have hle:b≤i.rest.length:=hfit.2.2.1;simp only [if_pos hn];rw [if_neg dC];obtain ⟨s,hs⟩:=eqx (str i.rest);rw [hs] at hc hsz HBd;obtain ⟨L,hL⟩:=eqx i.rest.length;rw [hL] at hsz hd hle hlen;clear hT hTn hR hB hq hfit hbd hb0 hb1 hs hn hL;go_enter Tryz.func177,Tryz.ntmps177
    go_wp2_with fail
    refine HR.out.mono ?_;rintro e w' ⟨rfl,rfl⟩;go_wp2_with fail
    refine HBd.out.mono ?_;rintro e w' ⟨rfl,rfl⟩;go_wp2_with fail
    refine (HTW.out _).mono ?_;rintro e w' ⟨rfl,hX⟩;have HX:=Lib.hid hX;clear hX;go_wp2_with fail
    go_ret
    exact ⟨rfl,HX.out⟩
   ·have HT:=Lib.hid (hT (b+a) oM oM)
    have HR:=Lib.hid hR;have HBd:=Lib.hid hB;have hd:decide ((i.rest.length:Int) - (b:Int)<(a:Int))=false:=decide_eq_false oM;have hle:b+a≤i.rest.length:=oM;simp only [if_neg hn];have e1:str ((i.rest.drop b).take a)=(str i.rest).extract b (b+a):=by
     rw [extract_str_from,str_list];congr 2
     omega
    rw [if_pos trivial,e1];obtain ⟨s,hs⟩:=eqx (str i.rest);rw [hs] at hc hsz HBd;rw [hs];obtain ⟨L,hL⟩:=eqx i.rest.length;rw [hL] at hsz hd hle hlen;rw [show (((b+a:Nat)):Int)=(b:Int)+(a:Int) by omega] at HT;clear hT hTn hR hB hq hfit hbd hb0 hb1 hs hn hL e1;go_enter Tryz.func177,Tryz.ntmps177
    exact zz3
  ·have HT:=Lib.hid (fun z=>hTn z c h0)
   have HR:=Lib.hid hR;have HBd:=Lib.hid hB;rcases hbd with hbd | hbd | hbd
   ·exact absurd hbd h0
   all_goals
    injection hbd with e1 e2;injection e2 with e2 e3;subst e1 e2 e3;clear hT hTn hR hB hq hfit hsz h0;simp only [ne_eq,show ¬(7:Int)=0 by decide,show ¬(8:Int)=0 by decide,not_false_eq_true,if_true,if_false];go_enter Tryz.func177,Tryz.ntmps177
    go_wp2_with fail
    refine HR.out.mono ?_;rintro e w' ⟨rfl,rfl⟩;go_wp2_with fail
    refine HBd.out.mono ?_;rintro e w' ⟨rfl,rfl⟩;go_wp2_with fail
    refine (HT.out _).mono ?_;rintro e w' ⟨rfl,hX⟩;have HX:=Lib.hid hX;clear hX;go_wp2_with fail
    go_ret
    exact ⟨rfl,HX.out⟩
 ·rw [decide_eq_false hf] at hR
  rw [if_neg hf];have HR:=Lib.hid hR;clear hT hTn hR hB hbd hfit;go_enter Tryz.func177,Tryz.ntmps177
  exact zz18
theorem ibyte_q (h:InQ F w0 w x i) (hr:i.read≤100000000000) :
 Calls Tryz.prog 178 #[.pointer (some ⟨x,0,none⟩)] w fun en w'=>en=.returned (.int .u8 (i.byte.1.toNat:Int))∧InQ F w0 w' x i.byte.2:=by
 have hc:=h.blk.cells3;have hfz:=h.blk.frozen 2;have hR:=reads_q h;have hT:=takes_ok_q h;have HB:=Lib.hid h;have hsz:(str i.rest).size=i.rest.length:=str_size _;unfold InS.byte;clear h;by_cases hf:i.fail=0
 ·rw [decide_eq_true hf] at hR
  rw [if_pos hf];have HR:=Lib.hid hR;by_cases h0:i.rest=[]
  ·rw [if_pos h0]
   have e0:str i.rest=ByteArray.empty:=by rw [h0];rfl
   have h00:=Lib.hid h0;rw [e0] at hc;clear hT hR hsz h0 e0 hr;go_enter Tryz.func178,Tryz.ntmps178
   go_wp2_with fail
   refine HR.out.mono ?_;rintro e w' ⟨rfl,rfl⟩;go_wp2_with fail
   go_ret
   refine ⟨rfl,?_,HB.out.new,HB.out.upd.setCell (p:=⟨x,2,none⟩) HB.out.new _⟩;have:=HB.out.blk.set_ 2 (.int .i64 7);simpa using this
  ·rw [if_neg h0]
   have hl:0<i.rest.length:=List.length_pos_iff.2 h0;have HT:=Lib.hid (hT 1 oM oM);have hne:(i.rest == ([]:List UInt8))=false:=by simpa using h0
   have h0s:0<(str i.rest).size:=oM;have hne2:(str i.rest).toList.isEmpty=false:=by rw [ByteArray.toList_eq,str_list];simpa using h0
   obtain ⟨s,hs⟩:=eqx (str i.rest);rw [hs] at hc hsz h0s hne2;have HG:=Lib.hid (show i.rest.getD 0 0=s[0] from by
    have hg:=sget s 0 h0s;subst hs;exact hg)
   rw [show ((1:Nat):Int)=1 from rfl] at HT;clear hT hR hsz hs hne h0 hl hr;go_enter Tryz.func178,Tryz.ntmps178
   go_wp2_with fail
   refine HR.out.mono ?_;rintro e w' ⟨rfl,rfl⟩;go_wp2_with fail
   refine HT.out.mono ?_;rintro e w' ⟨rfl,hX⟩;have HX:=Lib.hid hX;clear hX;go_wp2_with fail
   go_ret
   refine ⟨?_,HX.out⟩;rw [HG.out];rfl
 ·rw [decide_eq_false hf] at hR
  rw [if_neg hf];have HR:=Lib.hid hR;clear hT hR;go_enter Tryz.func178,Tryz.ntmps178
  exact zz18
end
theorem opsB_take {l:List OpM} {k:Nat} (hk:k<l.length):opsB (l.take (k+1))=opsB (l.take k)++opB l[k]:=by
 rw [List.take_succ_eq_append_getElem hk];unfold opsB;rw [List.flatMap_append];simp
theorem opsB_take_len {l:List OpM} (h:∀o ∈ l,opErr o=0) (k:Nat) (hl:l.length≤4):(opsB (l.take k)).length≤280:=by
 have:=opsB_len (l:=l.take k) (fun o ho=>h o (List.mem_of_mem_take ho));rw [List.length_take] at this;have:70*min k l.length≤280:=oM;omega
theorem bbytes_bad {A:Option Addr} {cap b off:Nat} {l:List OpM} {w:World} {i ep:Int} (hA:0<l.length→A=some ⟨b,off,none⟩) (hb:∀w',Upd (fun _=>False) w w'→OpsAt w' b off l) (hs:OpsSmall l) (hl:l.length≤1000000) (hE0:batErr i ep l≠0) :
 Calls Tryz.prog 54 #[.agg (batRow i ep (.slice A l.length cap))] w fun e w'=>e=.returned (.tuple #[.string ByteArray.empty,.int .i64 (batErr i ep l)])∧Upd (fun _=>False) w w':=by
 have hea:=fun W (hW:Upd (fun _=>False) w W)=>bright_c (cap:=cap) (i:=i) (ep:=ep) (w:=W) hA (fun w' h=>hb w' (hW.then h wz0)) hs hl
 obtain ⟨E,hE⟩:=eqx (batErr i ep l);rw [hE] at hE0 hea ⊢;have HEA:=Lib.hid hea;have k1:(E != 0)=true:=by simpa using hE0
 clear hea hE hb hs hA hE0;go_enter Tryz.func54,Tryz.ntmps54
 go_upto_region 1 with fail
 generalize hw5:World.alloc _ _=w5;obtain ⟨q,hq⟩:=eqx w.heap.size;rw [hq];have hB5:Blk w5 q 35 (batRow i ep (.slice A l.length cap)):=by rw [← hw5,← hq];exact Blk.new w _ _
 have hU5:Upd (fun _=>False) w w5:=by rw [← hw5];exact (Upd.refl _ w).alloc _
 have HU5:=h2k hU5 hB5;clear hU5 hB5 hw5 hq;go_wp2_with (first
  | (refine wpList_load_all rfl _ _ rfl q rfl _ _ _ HU5.out.2 Tryz.underlying35 rfl kR ?_)
  | (go_at_call 81
     refine (HEA.out _ HU5.out.1).mono ?_;rintro e w6 ⟨rfl,hU6⟩;have HU6:=Lib.hid (HU5.out.1.then hU6 wz0);clear hU6))
 go_ret2
 exact ⟨rfl,HU6.out⟩
theorem bbytes_ok {A:Option Addr} {cap b off:Nat} {l:List OpM} {w:World} {i ep:Nat} (hA:0<l.length→A=some ⟨b,off,none⟩) (hb:∀w',Upd (fun _=>False) w w'→OpsAt w' b off l) (hs:OpsSmall l) (hep:ep≤9223372036854775807) (hE0:batErr i ep l=0) :
 Calls Tryz.prog 54 #[.agg (batRow i ep (.slice A l.length cap))] w fun e w'=>e=.returned (.tuple #[.string (str (batB i ep l)),.int .i64 0])∧Upd (fun _=>False) w w':=by
 obtain ⟨b1,b2,b3,b4,b5⟩:=batErr_zero hE0;have hea:=fun W (hW:Upd (fun _=>False) w W)=>bright_c (cap:=cap) (i:=i) (ep:=ep) (w:=W) hA (fun w' h=>hb w' (hW.then h wz0)) hs oM
 rw [hE0] at hea;have s1:=size_u64 (n:=i) oM;have s2:=size_u64 (n:=ep) oM;have s3:=size_u64 (n:=l.length) oM;obtain ⟨N,hN⟩:=eqx (putN i++(putN ep++putN l.length));have hNl:N.length≤30:=by rw [← hN];simp only [List.length_append,putN_len];omega
 have hfin:batB i ep l=N++opsB l:=by rw [← hN];unfold batB;simp only [List.append_assoc]
 rw [hfin];have HEA:=Lib.hid hea;have HN:=h2k hN hNl;have HO:=h2k b5 b4;have HB:=Lib.hid hb;have i1:(i:Int)≤4611686018427387904:=oM;have e1:(ep:Int)≤9223372036854775807:=oM;have l1:(l.length:Int)≤4:=oM;clear hea hE0 hb hs hN hNl hfin s1 s2 s3 b1 b2 b3 b4 b5;go_enter Tryz.func54,Tryz.ntmps54
 go_upto_region 1 with fail
 generalize hw5:World.alloc _ _=w5;obtain ⟨q,hq⟩:=eqx w.heap.size;rw [hq];have hB5:Blk w5 q 35 (batRow i ep (.slice A l.length cap)):=by rw [← hw5,← hq];exact Blk.new w _ _
 have hU5:Upd (fun _=>False) w w5:=by rw [← hw5];exact (Upd.refl _ w).alloc _
 have HU5:=h2k hU5 hB5;clear hU5 hB5 hw5 hq;go_upto_region 4 with (first
  | (refine wpList_load_all rfl _ _ rfl q rfl _ _ _ HU5.out.2 Tryz.underlying35 rfl kR ?_)
  | (go_at_call 81
     refine (HEA.out _ HU5.out.1).mono ?_;rintro e w6 ⟨rfl,hU6⟩;have HU6:=h2k (HU5.out.1.then hU6 wz0) (HU5.out.2.upd hU6 (fun e=>e));clear hU6))
 obtain ⟨o,ho⟩:=eqx w6.heap.size;go_upto_region 5 with (fail)
 generalize hw7:World.alloc _ _=w7;have hO7:OutQ (fun _=>False) w6 w7 o []:=by rw [← hw7,← ho];exact OutQ.start w6
 obtain ⟨c0,c1,c2⟩:=(HU6.out.2.upd hO7.upd (fun e=>e)).cells3;have HO7:=Lib.hid hO7;clear hO7 hw7 ho;have step:∀(n:Nat) (acc:List UInt8) (W:World),n<18446744073709551616→acc.length≤300→OutQ (fun _=>False) w6 W o acc→Calls Tryz.prog 98 #[.pointer (some ⟨o,0,none⟩),.int .u64 (n:Int)] W fun e w'=>e=.returned (.tuple #[])∧OutQ (fun _=>False) w6 w' o (acc++putN n):=fun n acc W h1 h2 h3=>onum_q h3 n h1 oM
 have HST:=Lib.hid step;clear step;go_wp2_with fail
 refine (HST.out i _ _ oM sM HO7.out).mono ?_;rintro e w8 ⟨rfl,h8⟩;obtain ⟨c0,c1,c2⟩:=(HU6.out.2.upd h8.upd (fun e=>e)).cells3;have H8:=Lib.hid h8;clear h8;go_wp2_with fail
 refine (HST.out ep _ _ oM (by rw [List.nil_append,putN_len];have:=size_u64 (n:=i) oM;omega) H8.out).mono ?_;rintro e w9 ⟨rfl,h9⟩;obtain ⟨c0,c1,c2⟩:=(HU6.out.2.upd h9.upd (fun e=>e)).cells3;have H9:=Lib.hid h9;clear h9 H8;go_wp2_with fail
 refine (HST.out l.length _ _ oM (by rw [List.nil_append,List.length_append,putN_len,putN_len];have:=size_u64 (n:=i) oM;have:=size_u64 (n:=ep) oM;omega) H9.out).mono ?_;rintro e w10 ⟨rfl,h10⟩;rw [List.nil_append,List.append_assoc,HN.out.1] at h10;obtain ⟨c0,c1,c2⟩:=(HU6.out.2.upd h10.upd (fun e=>e)).cells3;have H10:=Lib.hid h10;clear h10 H9 HST;go_wp2_with fail
 go_loopw [7,34] (fun _ u wr=>∃k:Nat,k≤l.length∧u=.int .i64 (k:Int)∧OutQ (fun _=>False) w6 wr o (N++opsB (l.take k))) (fun _ u _=>l.length - (intOf u).toNat)
 case atStart=>exact ⟨0,oM,rfl,by rw [List.take_zero];simpa [opsB] using H10.out⟩
 case round =>
  obtain ⟨k,hk,rfl,hO⟩:=hrel;have hNk:(N++opsB (l.take k)).length≤310:=by
   rw [List.length_append];have:=opsB_take_len HO.out.1 k HO.out.2;have:=HN.out.2;omega
  obtain ⟨M,hM⟩:=eqx (N++opsB (l.take k));rw [hM] at hO hNk;by_cases hlt:k<l.length
  ·obtain rfl:=hA oM
   have hrow:=HB.out wr (HU6.out.1.then hO.upd wz0) k hlt;have hoe:=HO.out.1 _ (List.getElem_mem hlt);have hnx:N++opsB (l.take (k+1))=M++opB l[k]:=by rw [opsB_take hlt,← List.append_assoc,hM]
   obtain ⟨x,hx⟩:∃o,l[k]=o:=⟨_,rfl⟩;rw [hx] at hrow hoe hnx;obtain ⟨x1,-,x3,x4,-⟩:=opErr_zero hoe;obtain ⟨P,hP⟩:=eqx (str x.path);obtain ⟨V,hV⟩:∃P,str x.value=P:=⟨_,rfl⟩;have hPl:P.data.toList=x.path:=by rw [← hP,str_list]
   have hVl:V.data.toList=x.value:=by rw [← hV,str_list]
   have hPs:P.size≤33:=by rw [← hP,str_size];exact x3
   have hVs:V.size≤32:=by rw [← hV,str_size];exact x4
   obtain ⟨Kb,hKb⟩:∃K,x.kind=K:=⟨_,rfl⟩;have hrw:opRow x=[.int .u8 (Kb.toNat:Int),.string P,.string V]:=by unfold opRow;rw [hP,hV,hKb]
   rw [hrw] at hrow;have hop:opB x=Kb::(textN P.data.toList++if Kb=1 then textN V.data.toList else []):=by unfold opB;rw [hPl,hVl,hKb]
   rw [hop] at hnx;rw [hKb] at x1;have tP:(textN P.data.toList).length≤40:=by
    rw [textN_len];have:=sizeN_small (n:=P.data.toList.length) (by simp;omega);have:P.data.toList.length=P.size:=by simp
    omega
   have HNX:=h5k hnx hNk hPs hVs tP;have HR:=Lib.hid hrow;have HO2:=Lib.hid hO;have HX1:=Lib.hid x1;clear hrow hoe hnx hx x1 x3 x4 hP hV hPl hVl hPs hVs hrw hop hO hM hNk hKb tP;have j1:(k:Int)<(l.length:Int):=oM;obtain ⟨g,hg⟩:∃q,wr.heap.size=q:=⟨_,rfl⟩;have HQ:=Lib.hid hg;rcases HX1.out with rfl | rfl
   ·go_upto_region 11 with (first
     | (refine wpList_load_mid rfl _ _ rfl b (off+k*3) rfl [.int .u8 1,.string P,.string V] _ HR.out Tryz.underlying32 rfl kR ?_))
    generalize hw11:World.alloc _ _=w11;have hB11:Blk w11 g 32 #[.int .u8 1,.string P,.string V]:=by rw [← hw11,← HQ.out];exact Blk.new wr _ _
    have h11:OutQ (fun _=>False) w6 w11 o M:=by rw [← hw11];exact HO2.out.still ((Upd.refl _ wr).alloc _)
    obtain ⟨c0,c1,c2⟩:=hB11.cells3;have hgs:w6.heap.size≤g:=by rw [← HQ.out];exact HO2.out.upd.size
    have H11:=h3k h11 hB11 hgs;clear h11 hB11 hw11 hg hgs;obtain ⟨G,g1,g2,g3⟩:=H11.out.1.here;have HG:=h3k g1 g2 (g3 g _ _ H11.out.2.1 dC dC);clear g1 g2 g3;go_wp2_with fail
    refine (obyte_q HG.out.1 1 (oN HNX.out.2.1)).mono ?_;rintro e w12 ⟨rfl,h12⟩;obtain ⟨c0,c1,c2⟩:=(H11.out.2.1.upd h12.upd HG.out.2.2).cells3;have H12:=Lib.hid h12;clear h12;go_wp2_with fail
    refine (otext_q H12.out P (oN HNX.out.2.2.1) (by have:=HNX.out.2.1;rw [List.length_append];simp;omega)).mono ?_;rintro e w13 ⟨rfl,h13⟩;obtain ⟨c0,c1,c2⟩:=(H11.out.2.1.upd h13.upd HG.out.2.2).cells3;have H13:=Lib.hid h13;clear h13;go_wp2_with fail
    refine (otext_q H13.out V (oN HNX.out.2.2.2.1) (by have:=HNX.out.2.1;have:=HNX.out.2.2.2.2;simp only [List.length_append,List.length_cons,List.length_nil];omega)).mono ?_;rintro e w14 ⟨rfl,h14⟩;have H14:=Lib.hid (H11.out.1.back HG.out.2.1 h14);clear h14 c0 c1 c2;go_wp2_with fail
    go_roundw
    case rel =>
     refine ⟨k+1,oM,by go_num,?_⟩;rw [HNX.out.1,if_pos trivial];simpa [List.append_assoc] using H14.out
    case measure=>simp [intOf]<;>omega
   ·go_upto_region 11 with (first
     | (refine wpList_load_mid rfl _ _ rfl b (off+k*3) rfl [.int .u8 2,.string P,.string V] _ HR.out Tryz.underlying32 rfl kR ?_))
    generalize hw11:World.alloc _ _=w11;have hB11:Blk w11 g 32 #[.int .u8 2,.string P,.string V]:=by rw [← hw11,← HQ.out];exact Blk.new wr _ _
    have h11:OutQ (fun _=>False) w6 w11 o M:=by rw [← hw11];exact HO2.out.still ((Upd.refl _ wr).alloc _)
    obtain ⟨c0,c1,c2⟩:=hB11.cells3;have hgs:w6.heap.size≤g:=by rw [← HQ.out];exact HO2.out.upd.size
    have H11:=h3k h11 hB11 hgs;clear h11 hB11 hw11 hg hgs;obtain ⟨G,g1,g2,g3⟩:=H11.out.1.here;have HG:=h3k g1 g2 (g3 g _ _ H11.out.2.1 dC dC);clear g1 g2 g3;go_wp2_with fail
    refine (obyte_q HG.out.1 2 (oN HNX.out.2.1)).mono ?_;rintro e w12 ⟨rfl,h12⟩;obtain ⟨c0,c1,c2⟩:=(H11.out.2.1.upd h12.upd HG.out.2.2).cells3;have H12:=Lib.hid h12;clear h12;go_wp2_with fail
    refine (otext_q H12.out P (oN HNX.out.2.2.1) (by have:=HNX.out.2.1;rw [List.length_append];simp;omega)).mono ?_;rintro e w13 ⟨rfl,h13⟩;obtain ⟨c0,c1,c2⟩:=(H11.out.2.1.upd h13.upd HG.out.2.2).cells3;have H13:=Lib.hid h13;clear h13;go_wp2_with fail
    have H14:=Lib.hid (H11.out.1.back HG.out.2.1 H13.out);clear c0 c1 c2;go_roundw
    case rel =>
     refine ⟨k+1,oM,by go_num,?_⟩;rw [HNX.out.1,if_neg dC,List.append_nil];simpa [List.append_assoc] using H14.out
    case measure=>simp [intOf]<;>omega
  ·obtain rfl:k=l.length:=oM
   rw [List.take_length] at hM;subst hM;have hst:=ostring_q hO;have HST:=Lib.hid hst;have HU:=Lib.hid (HU6.out.1.then hO.upd wz0);clear hst hO hlt hk hNk;go_wp2_with fail
   refine HST.out.mono ?_;rintro e wz ⟨rfl,rfl⟩;go_wp2_with fail
   go_ret2
   exact ⟨rfl,HU.out⟩
def beB (x:Nat):Nat→List UInt8
 | 0=>[]
 | n+1=>UInt8.ofNat (x / 2 ^ (8*n))::beB x n
theorem beB_len (x n:Nat):(beB x n).length=n:=by
 induction n with
 | zero=>rfl
 | succ n ih=>simp [beB,ih]
def beN (l:List UInt8):Nat:=l.foldl (fun a b=>a*256+b.toNat) 0
theorem beN_snoc (l:List UInt8) (b:UInt8):beN (l++[b])=beN l*256+b.toNat:=by simp [beN]
theorem beN_lt (l:List UInt8):beN l<2 ^ (8*l.length):=by
 have key:∀(l:List UInt8) (a:Nat),l.foldl (fun a b=>a*256+b.toNat) a<(a+1)*2 ^ (8*l.length):=by
  intro l;induction l with
  | nil=>intro a;simp
  | cons b r ih =>
    intro a;have h:=ih (a*256+b.toNat);have hb:=b.toNat_lt;rw [List.foldl_cons,List.length_cons];have e:2 ^ (8*(r.length+1))=256*2 ^ (8*r.length):=by rw [Nat.mul_add,Nat.pow_add];omega
    rw [e,← Nat.mul_assoc];exact Nat.lt_of_lt_of_le h (Nat.mul_le_mul_right _ oM)
 have:=key l 0;simpa [beN] using this
def U32 (z:Int):Prop:=0≤z∧z<4294967296
def arrU (l:List Int):Array Value:=(l.map (Value.int .u32)).toArray
def AllU (l:List Int):Prop:=∀z ∈ l,U32 z
theorem modU (a:Int):U32 (a % 4294967296):=⟨Int.emod_nonneg _ dC,Int.emod_lt_of_pos _ dC⟩
theorem arrU_size (l:List Int):(arrU l).size=l.length:=by simp [arrU]
theorem arrU_get (l:List Int) (i:Nat) (h:i<l.length):(arrU l)[i]? = some (.int .u32 (l.getD i 0)):=by simp [arrU,h]
theorem arrU_set (l:List Int) (i:Nat) (z:Int):(arrU l).setIfInBounds i (.int .u32 z)=arrU (l.set i z):=by simp [arrU,List.map_set]
theorem AllU.get {l:List Int} (h:AllU l) (i:Nat):U32 (l.getD i 0):=by
 by_cases hi:i<l.length
 ·rw [List.getD_eq_getElem?_getD,List.getElem?_eq_getElem hi]
  exact h _ (List.getElem_mem hi)
 ·rw [List.getD_eq_getElem?_getD,List.getElem?_eq_none oM]
  exact ⟨sM,sM⟩
theorem AllU.set {l:List Int} (h:AllU l) (i:Nat) {z:Int} (hz:U32 z):AllU (l.set i z):=by
 intro u hu;rcases List.mem_or_eq_of_mem_set hu with h1 | h1
 ·exact h u h1
 ·rw [h1];exact hz
def rotl (x:Int) (r:Nat):Int:=bits .or .u32 (x*2 ^ r % 4294967296) (x / 2 ^ (32 - r))
def amt (k:Int):Nat:=(IntKind.u64.wrap k).toNat % 32
def sg0 (x:Int):Int:=bits .xor .u32 (bits .xor .u32 (rotl x 25) (rotl x 14)) (x / 8)
def sg1 (y:Int):Int:=bits .xor .u32 (bits .xor .u32 (rotl y 15) (rotl y 13)) (y / 1024)
def wordAt (s:List UInt8) (i:Nat):Int:=(beN ((s.drop (4*i)).take 4):Int)
def nextW (l:List Int) (i:Nat):Int:=(((l.getD (i - 16) 0+sg0 (l.getD (i - 15) 0)) % 4294967296+l.getD (i - 7) 0) % 4294967296+sg1 (l.getD (i - 2) 0)) % 4294967296
def wIn (s:List UInt8) (k:Nat):List Int:=(List.range k).foldl (fun l i=>l.set i (wordAt s i)) (List.replicate 64 0)
def wOn (l:List Int) (k:Nat):List Int:=(List.range k).foldl (fun l j=>l.set (16+j) (nextW l (16+j))) l
theorem wIn_succ (s:List UInt8) (k:Nat):wIn s (k+1)=(wIn s k).set k (wordAt s k):=by simp [wIn,List.range_succ]
theorem wOn_succ (l:List Int) (k:Nat):wOn l (k+1)=(wOn l k).set (16+k) (nextW (wOn l k) (16+k)):=by simp [wOn,List.range_succ]
theorem wIn_len (s:List UInt8) (k:Nat):(wIn s k).length=64:=by
 induction k with
 | zero=>simp [wIn]
 | succ k ih=>rw [wIn_succ,List.length_set,ih]
theorem wOn_len (l:List Int) (k:Nat):(wOn l k).length=l.length:=by
 induction k with
 | zero=>simp [wOn]
 | succ k ih=>rw [wOn_succ,List.length_set,ih]
theorem wordU (s:List UInt8) (i:Nat):U32 (wordAt s i):=by
 have h:=beN_lt ((s.drop (4*i)).take 4);have h2:beN ((s.drop (4*i)).take 4)<4294967296:=Nat.lt_of_lt_of_le h (Nat.le_trans (Nat.pow_le_pow_right oM (show 8*((s.drop (4*i)).take 4).length≤32 by simp;omega)) dC);exact ⟨by unfold wordAt;omega,by unfold wordAt;omega⟩
theorem wIn_all (s:List UInt8) (k:Nat):AllU (wIn s k):=by
 induction k with
 | zero=>intro z hz;have:=(List.mem_replicate.1 (show z ∈ List.replicate 64 0 from hz)).2;rw [this];exact ⟨dC,dC⟩
 | succ k ih=>rw [wIn_succ];exact ih.set _ (wordU s k)
theorem wOn_all {l:List Int} (h:AllU l) (k:Nat):AllU (wOn l k):=by
 induction k with
 | zero=>exact h
 | succ k ih=>rw [wOn_succ];exact ih.set _ (modU _)
def roundT (e b5 b6 b7 k w:Int):Int :=
 ((b7+bits .xor .u32 (bits .xor .u32 (rotl e (amt (-6))) (rotl e (amt (-11)))) (rotl e (amt (-25)))+bits .xor .u32 (bits .and .u32 e b5) (bits .and .u32 (bits .xor .u32 4294967295 e) b6)+k) % 4294967296+w) % 4294967296
def roundU (a b1 b2:Int):Int :=
 (bits .xor .u32 (bits .xor .u32 (rotl a (amt (-2))) (rotl a (amt (-13)))) (rotl a (amt (-22)))+bits .xor .u32 (bits .xor .u32 (bits .and .u32 a b1) (bits .and .u32 a b2)) (bits .and .u32 b1 b2)) % 4294967296
def roundB:List Int→Int→Int→List Int
 | [b0,b1,b2,b3,b4,b5,b6,b7],k,w=>[(roundT b4 b5 b6 b7 k w+roundU b0 b1 b2) % 4294967296,b0,b1,b2,(b3+roundT b4 b5 b6 b7 k w) % 4294967296,b4,b5,b6]
 | l,_,_=>l
def rounds (K W b:List Int) (k:Nat):List Int:=(List.range k).foldl (fun b i=>roundB b (K.getD i 0) (W.getD i 0)) b
theorem rounds_succ (K W b:List Int) (k:Nat):rounds K W b (k+1)=roundB (rounds K W b k) (K.getD k 0) (W.getD k 0):=by simp [rounds,List.range_succ]
theorem eight {l:List Int} (h:l.length=8):∃a b c d e f g i,l=[a,b,c,d,e,f,g,i]:=by
 match l,h with
 | [a,b,c,d,e,f,g,i],_=>exact ⟨a,b,c,d,e,f,g,i,rfl⟩
theorem roundB_len {l:List Int} (h:l.length=8) (k w:Int):(roundB l k w).length=8:=by
 obtain ⟨a,b,c,d,e,f,g,i,rfl⟩:=eight h;rfl
theorem roundB_all {l:List Int} (h:l.length=8) (hl:AllU l) (k w:Int):AllU (roundB l k w):=by
 obtain ⟨a,b,c,d,e,f,g,i,rfl⟩:=eight h;intro z hz;simp only [roundB,List.mem_cons,List.not_mem_nil,or_false] at hz;rcases hz with rfl | rfl | rfl | rfl | rfl | rfl | rfl | rfl
 ·exact modU _
 ·exact hl _ sM
 ·exact hl _ sM
 ·exact hl _ sM
 ·exact modU _
 ·exact hl _ sM
 ·exact hl _ sM
 ·exact hl _ sM
theorem rounds_ok {K W b:List Int} (h:b.length=8) (hb:AllU b) (k:Nat):(rounds K W b k).length=8∧AllU (rounds K W b k):=by
 induction k with
 | zero=>exact ⟨h,hb⟩
 | succ k ih=>rw [rounds_succ];exact ⟨roundB_len ih.1 _ _,roundB_all ih.1 ih.2 _ _⟩
def addH (h b:List Int) (k:Nat):List Int:=(List.range k).foldl (fun l i=>l.set i ((l.getD i 0+b.getD i 0) % 4294967296)) h
theorem addH_succ (h b:List Int) (k:Nat):addH h b (k+1)=(addH h b k).set k (((addH h b k).getD k 0+b.getD k 0) % 4294967296):=by simp [addH,List.range_succ]
theorem addH_len (h b:List Int) (k:Nat):(addH h b k).length=h.length:=by
 induction k with
 | zero=>simp [addH]
 | succ k ih=>rw [addH_succ,List.length_set,ih]
theorem addH_all {h b:List Int} (hh:AllU h) (k:Nat):AllU (addH h b k):=by
 induction k with
 | zero=>exact hh
 | succ k ih=>rw [addH_succ];exact ih.set _ (modU _)
def turnL (h b K:List Int) (s:List UInt8):List Int:=addH h (rounds K (wOn (wIn s 16) 48) b 64) 8
def hash0:List Int:=[0x6a09e667,0xbb67ae85,0x3c6ef372,0xa54ff53a,0x510e527f,0x9b05688c,0x1f83d9ab,0x5be0cd19]
def hashK:List Int:=[0x428a2f98,0x71374491,0xb5c0fbcf,0xe9b5dba5,0x3956c25b,0x59f111f1,0x923f82a4,0xab1c5ed5,
 0xd807aa98,0x12835b01,0x243185be,0x550c7dc3,0x72be5d74,0x80deb1fe,0x9bdc06a7,0xc19bf174,
 0xe49b69c1,0xefbe4786,0x0fc19dc6,0x240ca1cc,0x2de92c6f,0x4a7484aa,0x5cb0a9dc,0x76f988da,
 0x983e5152,0xa831c66d,0xb00327c8,0xbf597fc7,0xc6e00bf3,0xd5a79147,0x06ca6351,0x14292967,
 0x27b70a85,0x2e1b2138,0x4d2c6dfc,0x53380d13,0x650a7354,0x766a0abb,0x81c2c92e,0x92722c85,
 0xa2bfe8a1,0xa81a664b,0xc24b8b70,0xc76c51a3,0xd192e819,0xd6990624,0xf40e3585,0x106aa070,
 0x19a4c116,0x1e376c08,0x2748774c,0x34b0bcb5,0x391c0cb3,0x4ed8aa4a,0x5b9cca4f,0x682e6ff3,
 0x748f82ee,0x78a5636f,0x84c87814,0x8cc70208,0x90befffa,0xa4506ceb,0xbef9a3f7,0xc67178f2]
theorem turnL_len {h b K:List Int} {s:List UInt8} : (turnL h b K s).length=h.length:=addH_len _ _ _
theorem turnL_all {h b K:List Int} {s:List UInt8} (hh:AllU h):AllU (turnL h b K s):=addH_all hh _
def hashN:Nat→List Int→List UInt8→List Int
 | 0,h,_=>h
 | n+1,h,s=>hashN n (turnL h h hashK (s.take 64)) (s.drop 64)
theorem hashN_ok {h:List Int} (h8:h.length=8) (hh:AllU h) (n:Nat) (s:List UInt8):(hashN n h s).length=8∧AllU (hashN n h s):=by
 induction n generalizing h s with
 | zero=>exact ⟨h8,hh⟩
 | succ n ih=>exact ih (turnL_len.trans h8) (turnL_all hh) _
theorem hashN_snoc (n:Nat) (h:List Int) (s:List UInt8):hashN (n+1) h s=turnL (hashN n h s) (hashN n h s) hashK ((s.drop (64*n)).take 64):=by
 induction n generalizing h s with
 | zero=>simp [hashN]
 | succ n ih =>
   rw [hashN,ih];have e:(s.drop 64).drop (64*n)=s.drop (64*(n+1)):=by rw [List.drop_drop];congr 1;omega
   rw [e];rfl
def padB (rest:List UInt8) (n:Nat):List UInt8:=rest++128::(List.replicate ((119 - rest.length % 64) % 64) 0++beB (8*n) 8)
def outL (h:List Int):List UInt8:=h.flatMap fun n=>beB n.toNat 4
def shaL (s:List UInt8):List UInt8 :=
 let rest:=s.drop (64*(s.length / 64))
 outL (hashN ((padB rest s.length).length / 64) (hashN (s.length / 64) hash0 s) (padB rest s.length))
theorem hash0_ok:hash0.length=8∧AllU hash0:=by
 refine ⟨dC,?_⟩;intro z hz;have:∀z ∈ hash0,0≤z∧z<4294967296:=dC;exact this z hz
theorem hashK_ok:hashK.length=64∧AllU hashK:=by
 refine ⟨dC,?_⟩;intro z hz;have:∀z ∈ hashK,0≤z∧z<4294967296:=dC;exact this z hz
theorem outL_len {h:List Int} : (outL h).length=4*h.length:=by
 induction h with
 | nil=>rfl
 | cons a r ih =>
   unfold outL at ih ⊢;rw [List.flatMap_cons,List.length_append,ih,beB_len,List.length_cons];omega
theorem shaL_len (s:List UInt8):(shaL s).length=32:=by
 unfold shaL;rw [outL_len,(hashN_ok (hashN_ok hash0_ok.1 hash0_ok.2 _ _).1 (hashN_ok hash0_ok.1 hash0_ok.2 _ _).2 _ _).1]
theorem padB_len (rest:List UInt8) (n:Nat) (h:rest.length<64):64 ∣ (padB rest n).length∧(padB rest n).length≤128:=by
 unfold padB;simp only [List.length_append,List.length_cons,List.length_replicate,beB_len];omega
theorem u64_wrap (z:Nat) (h:z<18446744073709551616):IntKind.u64.wrap (z:Int)=(z:Int):=by
 simp only [IntKind.wrap,IntKind.bits,IntKind.signed];simp
 omega
theorem be_step (N b:Nat) (h:256*N<18446744073709551616) (hb:b<256):bits .or .u64 ((N:Int)*256) (b:Int)=((N*256+b:Nat):Int):=by
 have e:((N:Int)*256)=((N*256:Nat):Int):=oM;rw [e,u64_or_nat (N*256) b oM oM,nat_join 8 _ _ oM oM]
theorem getBig_c (s:ByteArray) (n:Nat) (w:World) (hn:n≤7) (hs:n≤s.size) :
 Calls Tryz.prog 303 #[.string s,.int .i64 (n:Int)] w fun e w'=>e=.returned (.int .u64 (beN (s.data.toList.take n):Int))∧w=w':=by
 go_enter Tryz.func303,Tryz.ntmps303
 go_wp2_with fail
 go_loop [4,7] (fun x i=>∃k:Nat,k≤n∧i=.int .i64 k∧x=.int .u64 (beN (s.data.toList.take k):Int)) (fun _ i=>n - (intOf i).toNat)
 case atStart=>exact ⟨0,oM,rfl,rfl⟩
 case round =>
  obtain ⟨k,hk,rfl,rfl⟩:=hrel;by_cases hlt:k<n
  ·have hlt':k<s.size:=oM
   have hl:=beN_lt (s.data.toList.take k);have hl2:beN (s.data.toList.take k)<281474976710656:=Nat.lt_of_lt_of_le hl (Nat.le_trans (Nat.pow_le_pow_right oM (show 8*(s.data.toList.take k).length≤48 by simp;omega)) dC);have hts:=Lib.hid (take_snoc_ s k hlt');clear hl;obtain ⟨N,hN⟩:=eqx (beN (s.data.toList.take k));have HN:=Lib.hid hN;rw [hN] at hl2 ⊢;clear hN;have hb:=(s[k]).toNat_lt;have e1:=be_step N (s[k]).toNat oM oM;go_wp2
   go_round
   case rel =>
    refine ⟨k+1,oM,by go_num,?_⟩;rw [hts.out,beN_snoc,HN.out];first | rfl | (rw [← e1];done) | (congr 1;rw [← e1];done)
   case measure=>simp [intOf];omega
  ·obtain rfl:k=n:=oM
   go_wp2
   go_ret
   exact ⟨rfl,rfl⟩
theorem beB_step (x n:Nat):bytesV [UInt8.ofNat (x / 2 ^ (8*n))]=[.int .u8 ((x:Int) / 2 ^ (8*n) % 256)]:=by simp only [bytesV,List.map_cons,List.map_nil];rw [byteV];simp
theorem putBig_walk {A P:Prop} (f:A) (h:A→P:=by
 intro H;clear H;obtain ⟨i0,hi0,hz0,hz1,hz2⟩:=info_parts infoU8;first | go_enter Tryz.func293,Tryz.ntmps293 | go_enter Tryz.func246,Tryz.ntmps246 | go_enter Tryz.func209,Tryz.ntmps209 | go_enter Tryz.func215,Tryz.ntmps215
 go_wp2_with fail
 go_loopw [0,7] (fun u i wr=>∃(j:Nat) (d:List UInt8),i=.int .i64 ((j:Int) - 1)∧d++beB x j=beB x n∧Own wr 5 1 u (m+d.length) (xs++bytesV d)∧Upd (fun k=>v.ownBlock=some k) w wr∧(u.ownBlock=v.ownBlock∨∃q,u.ownBlock=some q∧w.heap.size≤q)) (fun _ i _=>(intOf i+1).toNat)
 case atStart=>exact ⟨n,[],by first | rfl | go_num,rfl,by simpa [bytesV] using hown,Upd.refl _ _,.inl rfl⟩
 case round =>
  obtain ⟨j,d,rfl,hd,ho,hU,hl⟩:=hrel;clear hown;have hdl:=congrArg List.length hd;rw [List.length_append,beB_len,beB_len] at hdl;cases j with
  | succ j =>
    rw [show ((j+1:Nat):Int) - 1=(j:Int) by omega];have HX:=h3k hd hU hl;have hj:j<8:=oM;have hdm:d.length≤8:=oM;clear hd hU hl hdl;obtain ⟨D,hD⟩:=eqx d.length;rw [hD] at ho hdm;have HD:=Lib.hid hD;clear hD;go_wp2_with (at_builtin;refine wpList_append_src rfl _ _ _ _ rfl 5 i0 _ 1 1 Tryz.underlying89 hi0 hz0 hz1 hz2 rfl u0 (m+D) _ rfl (ho.alloc _) _ 1 [_] rfl (Src.of_new Tryz.underlying89 _) (by simp [Value.oneCell']) (by unfold maxLen;omega) oM ?_;intro v2 w2 ho2 hU2 hl2 hs2);obtain ⟨hd,hU,hl⟩:=HX.out;go_roundw
    case rel =>
     refine ⟨j,d++[UInt8.ofNat (x / 2 ^ (8*j))],by first | rfl | go_num,?_,?_,(hU.alloc _).then hU2 (fun b hb=>?_),?_⟩
     ·rw [List.append_assoc];exact hd
     ·rw [bytesV_app,beB_step,← List.append_assoc,List.length_append,HD.out];exact ho2
     ·rcases hl with h | ⟨q,h,hq⟩
      ·exact .inl (by rw [← h];exact hb)
      ·rw [h] at hb;exact .inr (oN (Option.some.inj hb))
     ·have hsz:=hU.size
      rcases hl2 with h | h
      ·rw [h];exact hl
      ·exact .inr ⟨_,h,by simp;omega⟩
    case measure=>simp [intOf]<;>omega
  | zero =>
    obtain rfl:d=beB x n:=by simpa [beB] using hd
    rw [beB_len] at ho;have e1:((0:Nat):Int) - 1=-1:=rfl;rw [e1];clear hd hdl;go_wp2
    go_ret
    exact ⟨u0,rfl,ho,hU,hl⟩):P:=h f
theorem putBig_sha (v:Value) (m:Nat) (xs:List Value) (x n:Nat) (w:World) (hown:Own w 5 1 v m xs) (hn:n≤8) (hm:m≤1000000) :
 Calls Tryz.prog 293 #[v,.int .u64 (x:Int),.int .i64 (n:Int)] w fun e w'=>∃v',e=.returned v'∧Own w' 5 1 v' (m+n) (xs++bytesV (beB x n))∧Upd (fun k=>v.ownBlock=some k) w w'∧(v'.ownBlock=v.ownBlock∨∃q,v'.ownBlock=some q∧w.heap.size≤q):=by
 exact putBig_walk (And.intro hown (And.intro hn hm))
theorem putBig_aes (v:Value) (m:Nat) (xs:List Value) (x n:Nat) (w:World) (hown:Own w 5 1 v m xs) (hn:n≤8) (hm:m≤1000000) :
 Calls Tryz.prog 246 #[v,.int .u64 (x:Int),.int .i64 (n:Int)] w fun e w'=>∃v',e=.returned v'∧Own w' 5 1 v' (m+n) (xs++bytesV (beB x n))∧Upd (fun k=>v.ownBlock=some k) w w'∧(v'.ownBlock=v.ownBlock∨∃q,v'.ownBlock=some q∧w.heap.size≤q):=by
 exact putBig_walk (And.intro hown (And.intro hn hm))
theorem putBig_seal (v:Value) (m:Nat) (xs:List Value) (x n:Nat) (w:World) (hown:Own w 5 1 v m xs) (hn:n≤8) (hm:m≤1000000) :
 Calls Tryz.prog 209 #[v,.int .u64 (x:Int),.int .i64 (n:Int)] w fun e w'=>∃v',e=.returned v'∧Own w' 5 1 v' (m+n) (xs++bytesV (beB x n))∧Upd (fun k=>v.ownBlock=some k) w w'∧(v'.ownBlock=v.ownBlock∨∃q,v'.ownBlock=some q∧w.heap.size≤q):=by
 exact putBig_walk (And.intro hown (And.intro hn hm))
theorem putBig_ring (v:Value) (m:Nat) (xs:List Value) (x n:Nat) (w:World) (hown:Own w 5 1 v m xs) (hn:n≤8) (hm:m≤1000000) :
 Calls Tryz.prog 215 #[v,.int .u64 (x:Int),.int .i64 (n:Int)] w fun e w'=>∃v',e=.returned v'∧Own w' 5 1 v' (m+n) (xs++bytesV (beB x n))∧Upd (fun k=>v.ownBlock=some k) w w'∧(v'.ownBlock=v.ownBlock∨∃q,v'.ownBlock=some q∧w.heap.size≤q):=by
 exact putBig_walk (And.intro hown (And.intro hn hm))
end
end Go.Proofs.YtbhjgfibhegddaaGreat
