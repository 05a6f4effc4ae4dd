/-
  Parts of the proof of VaultSpoils: DiskE, LawW, Acts, Last, VaultM, VaultL.
-/
import Derived.Test.YtbhjgfibhegddaaGreatQVaultSpoils12
import Derived.ChangeOld
import Derived.ChangeSame
import Derived.Deep.Fields
import Derived.Deep.RegionHeld3
import Derived.Deep.Slices
import Derived.OpenShut
import Derived.Outline
import Derived.ProofKit
import Derived.ShutString
import Derived.SliceStrings
import Derived.Test.YtbhjgfibhegddaaGreatProg
import Derived.WalkSpells
set_option maxRecDepth 100000
set_option maxHeartbeats 16000000
namespace Go.Proofs.YtbhjgfibhegddaaGreat
section
open Go Go.RowKit
theorem left_last {w:World} {p bl cap bm:Nat} {d:Dk} {m:List (Int × Value)}
 (g1:Blk w p 151 #[.slice (some ⟨bl,0,none⟩) d.lasts.length cap,.map (some bm),.int .i64 d.fuse,.bool d.off])
 (g2:Own w 9 1 (.slice (some ⟨bl,0,none⟩) d.lasts.length cap) d.lasts.length (strs d.lasts))
 (g3:MapB intKey w bm m) (g4:WaitsAt w m d.waits) (g5:d.wf) (g7:(p::bl::bm::m.filterMap (·.2.ownBlock)).Nodup) (i:Nat) (b:ByteArray) (hb:b.size=64) :
 Left w (w.setCell ⟨bl,i,none⟩ (.string b)) p { d with lasts:=d.lasts.set i b } (p::bl::bm::m.filterMap (·.2.ownBlock)) (p::bl::bm::m.filterMap (·.2.ownBlock)):=by
 have hpl:p≠bl:=fun e=>by subst e;simp at g7
 have hml:bm≠bl:=fun e=>by subst e;simp at g7
 have hln:bl ∉ m.filterMap (·.2.ownBlock):=by
  simp only [List.nodup_cons,List.mem_cons,not_or] at g7;exact g7.2.1.2
 refine ⟨⟨bl,cap,bm,m,?_,?_,g3.far hml _,g4.upd (fun k hk=>Below.heap_setCell _ _ _ _ (fun e=>hln (by have e':k=bl:=e;rw [← e'];exact hk))),?_,rfl,g7⟩,(Upd.refl _ _).setCell (.inl sM) _,fun _ hk=>.inl hk⟩
 ·have h:=g1.far (p:=⟨bl,i,none⟩) hpl (.string b)
  simpa using h
 ·have h:=g2.stored i (.string b)
  simpa [strs,List.map_set] using h
 ·refine ⟨by simpa using g5.len,by simpa using g5.pos,by simpa using g5.most,fun x hx=>?_,g5.waits,g5.fuse,g5.fuse',g5.room⟩
  rcases List.mem_or_eq_of_mem_set hx with h | rfl
  ·exact g5.lasts x h
  ·exact hb
theorem u8_xor (a b:UInt8):bits .xor .u8 (a.toNat:Int) (b.toNat:Int)=((a ^^^ b).toNat:Int):=by
 have e:bits .xor .u8 (a.toNat:Int) (b.toNat:Int)=IntKind.u8.wrap ((BitVec.ofInt 8 (a.toNat:Int) ^^^ BitVec.ofInt 8 (b.toNat:Int)).toNat:Int):=rfl;have ha:=a.toNat_lt;have hb:=b.toNat_lt;have h:=Nat.xor_lt_two_pow (n:=8) ha hb;have e8:∀x:Nat,BitVec.ofInt 8 (x:Int)=BitVec.ofNat 8 x:=fun x=>by simp
 rw [e,e8,e8,BitVec.toNat_xor,BitVec.toNat_ofNat,BitVec.toNat_ofNat,Nat.mod_eq_of_lt ha,Nat.mod_eq_of_lt hb,UInt8.toNat_xor];generalize a.toNat ^^^ b.toNat=n at *;simp only [IntKind.wrap,IntKind.bits,IntKind.signed];simp
 omega
theorem bytesV_set (l:List UInt8) (j:Nat) (y:UInt8):(bytesV l).set j (.int .u8 (y.toNat:Int))=bytesV (l.set j y):=by simp [bytesV,List.map_set]
theorem zz7 {P:Prop} (h:P:=by
 go_enter Tryz.func48,Tryz.ntmps48
 go_wp2_with (first
  | (go_at_call 78;refine Hn.out.mono ?_;rintro e w' ⟨rfl,rfl⟩)
  | (go_at_call 89;refine Ht.out.mono ?_;rintro e w' ⟨rfl,rfl⟩))
 go_ret
 exact ⟨rfl,rfl⟩):P:=h
theorem spoil_bad {w:World} {p:Nat} {d:Dk} {F:List Nat} (hD:DiskAt w p d F) (i a:Int) (x:ByteArray) (ha1:-9223372036854775808≤a) (ha2:a≤9223372036854775807) (hxs:x.size≤9223372036854775807)
 (h:(d.there i && decide (x.size≤4∧0≤a∧a≤64 - x.size))=false) :
 Calls Tryz.prog 48 #[.pointer (some ⟨p,0,none⟩),.int .i64 i,.int .i64 a,.string x] w fun e w'=>e=.returned (.int .i64 1)∧w=w':=by
 have Hn:=Lib.hid (none_c hD);have Ht:=Lib.hid (there_c hD i);clear hD;cases ht:d.there i with
 | false =>
   rw [ht] at Ht;clear h ht;exact zz7
 | true =>
   rw [ht] at Ht h;rw [Bool.true_and,decide_eq_false_iff_not] at h;clear ht;by_cases h4:4<x.size
   ·have h4':(4:Int)<(x.size:Int):=oM
    clear h;exact zz7
   ·have h4':¬(4:Int)<(x.size:Int):=oM
    by_cases h0:a<0
    ·clear h
     exact zz7
    ·have h6:64 - (x.size:Int)<a:=oM
     have hx:(x.size:Int)≤4:=oM;clear h;exact zz7
theorem spoil_good {w:World} {p:Nat} {d:Dk} {F:List Nat} (hD:DiskAt w p d F) (i a:Nat) (x:ByteArray) (hi:i<d.lasts.length) (hx:x.size≤4) (ha:a+x.size≤64) :
 Calls Tryz.prog 48 #[.pointer (some ⟨p,0,none⟩),.int .i64 (i:Int),.int .i64 (a:Int),.string x] w fun e w'=>e=.returned (.int .i64 0) ∧
  Left w w' p { d with lasts:=d.lasts.set i (str (turnK (d.last i).data.toList a x.data.toList x.size)) } F F:=by
 have ht:d.there (i:Int)=true:=by simp [Dk.there];omega
 have Hn:=Lib.hid (none_c hD);have htc:=there_c hD (i:Int);rw [ht] at htc;have Ht:=Lib.hid htc;obtain ⟨bl,cap,bm,m,g1,g2,g3,g4,g5,rfl,g7⟩:=hD;have hmost:=g5.most;have hl64:(d.last i).size=64:=by
  unfold Dk.last;rw [List.getD_eq_getElem?_getD,List.getElem?_eq_getElem hi];exact g5.lasts _ (List.getElem_mem _)
 obtain ⟨v',w1,hrun,hO,hU1,hv,hs1⟩:=run_to_bytes w (d.last i) (by unfold maxLen;omega);rw [hl64] at hO;obtain ⟨g,cap',rfl,hn1,hn2⟩:=hO.head oM;have hgw:w.heap.size≤g:=by
  have:g=w.heap.size:=by simpa [Value.ownBlock] using hv
  omega
 have hc:=g1.cells4;have hcell:w.cell? ⟨bl,i,none⟩=some (.string (d.last i)):=by
  rw [g2.cellAt i oM,strs_get,List.getElem?_eq_getElem hi];unfold Dk.last;rw [List.getD_eq_getElem?_getD,List.getElem?_eq_getElem hi];rfl
 have hx4:¬(4:Int)<(x.size:Int):=oM;have ha0:¬(a:Int)<0:=oM;have ha6:¬64 - (x.size:Int)<(a:Int):=oM;have HG:=h6k g1 g2 g3 g4 g5 g7;have HO:=h3k hO hU1 hgw;have HL:=Lib.hid hl64;clear g1 g2 g3 g4 g5 g7 htc ht hO hU1 hgw hs1 hv hl64;go_enter Tryz.func48,Tryz.ntmps48
 go_wp2_with (first
  | (go_at_call 78;refine Hn.out.mono ?_;rintro e w' ⟨rfl,rfl⟩)
  | (go_at_call 89;refine Ht.out.mono ?_;rintro e w' ⟨rfl,rfl⟩))
 clear hc hcell hrun;go_loopw [45] (fun y wr=>∃k:Nat,k≤x.size∧y=.int .i64 k∧Own wr 5 1 (.slice (some ⟨g,0,none⟩) 64 cap') 64 (bytesV (turnK (d.last i).data.toList a x.data.toList k))∧Upd (fun _=>False) w wr) (fun y _=>x.size - (intOf y).toNat)
 case atStart=>exact ⟨0,oM,rfl,HO.out.1,HO.out.2.1⟩
 case round =>
  obtain ⟨k,hk,rfl,hOr,hUr⟩:=hrel;by_cases hlt:k<x.size
  ·have hlen:(turnK (d.last i).data.toList a x.data.toList k).length=64:=by rw [turnK_len];simpa using HL.out
   have hst:turnK (d.last i).data.toList a x.data.toList (k+1)=(turnK (d.last i).data.toList a x.data.toList k).set (a+k) ((turnK (d.last i).data.toList a x.data.toList k).getD (a+k) 0 ^^^ x[k]):=by
    have e:x.data.toList.getD k 0=x[k]:=by simp [List.getD,hlt,ByteArray.getElem_eq_getElem_data]
    rw [turnK,e]
   have hcl:wr.cell? ⟨g,a+k,none⟩=some (.int .u8 (((turnK (d.last i).data.toList a x.data.toList k).getD (a+k) 0).toNat:Int)):=by
    rw [hOr.cellAt (a+k) oM];simp [bytesV,List.getD_eq_getElem?_getD,List.getElem?_eq_getElem (show a+k<(turnK (d.last i).data.toList a x.data.toList k).length by omega)]
   have hfz:=hOr.frozenAt (a+k) oM;have hxr:=u8_xor ((turnK (d.last i).data.toList a x.data.toList k).getD (a+k) 0) x[k];have hs:=hOr.stored (a+k) (.int .u8 ((((turnK (d.last i).data.toList a x.data.toList k).getD (a+k) 0 ^^^ x[k]).toNat:Nat):Int));rw [bytesV_set,← hst,UInt8.toNat_xor] at hs;rw [UInt8.toNat_xor] at hxr;have HS:=h2k hs hUr;have hsum:IntKind.i64.wrap ((a:Int)+(k:Int))=(a:Int)+(k:Int):=IntWalk.i64_in _ oM;have hnn:(0:Int)≤(a:Int)+(k:Int):=oM;have hlt6:(a:Int)+(k:Int)<64:=oM;have htn:((a:Int)+(k:Int)).toNat=a+k:=oM;clear hst hs hOr hUr hlen;generalize (turnK (d.last i).data.toList a x.data.toList k).getD (a+k) 0=y at *;go_wp2_with fail
   go_region
   all_goals
    go_wp2_with fail
    go_roundw
    case rel=>exact ⟨k+1,oM,by go_num,HS.out.1.drew,((HS.out.2.setCell (p:=⟨g,a+k,none⟩) (.inr HO.out.2.2) _)).drew⟩
    case measure=>simp [intOf];omega
  ·obtain rfl:k=x.size:=oM
   have hlen:(turnK (d.last i).data.toList a x.data.toList x.size).length=64:=by rw [turnK_len];simpa using HL.out
   have hB:=HG.out.1.upd hUr (fun e=>e);have hOl:=HG.out.2.1.upd hUr (fun _ _ e=>e);have hc:=hB.cells4;have hfz:=hOl.frozenAt i oM;have hold:wr.cell? ⟨bl,i,none⟩=some (.string (d.last i)):=by
    rw [hOl.cellAt i oM,strs_get,List.getElem?_eq_getElem hi];unfold Dk.last;rw [List.getD_eq_getElem?_getD,List.getElem?_eq_getElem hi];rfl
   have hrun1:=run_to_string hOr;have hrun2:=run_to_string hOr.drew;generalize hT:turnK (d.last i).data.toList a x.data.toList x.size=T at *;have HU:=h2k hUr hT;clear hOr hB hOl hUr hT;go_wp2_with fail
   go_region
   all_goals
    go_wp2_with fail
    go_ret
    refine ⟨rfl,?_⟩;obtain ⟨g1,g2,g3,g4,g5,g7⟩:=HG.out;obtain ⟨hUr,hT⟩:=HU.out;rw [hT];have hW4:WaitsAt wr m d.waits:=g4.upd fun q hq=>by
     obtain ⟨z,hz,fz⟩:=List.mem_filterMap.1 hq;obtain ⟨j,_,_,_,ho⟩:=g4.each z hz;exact hUr.block q (ho.lt fz) (fun e=>e)
    have hl:=left_last (g1.upd hUr (fun e=>e)) (g2.upd hUr (fun _ _ e=>e)) (g3.upd hUr (fun e=>e)) hW4 g5 g7 i (str T) (by rw [str_size];exact hlen);refine ⟨hl.drew.disk,(hUr.mono wz0).trans hl.upd.drew (fun _ e=>e) (fun _ e=>.inl e),fun q hq=>.inl hq⟩
theorem spoil_c {w:World} {p:Nat} {d:Dk} {F:List Nat} (hD:DiskAt w p d F) (i a:Int) (x:ByteArray) (ha1:-9223372036854775808≤a) (ha2:a≤9223372036854775807) (hxs:x.size≤9223372036854775807) :
 Calls Tryz.prog 48 #[.pointer (some ⟨p,0,none⟩),.int .i64 i,.int .i64 a,.string x] w fun e w'=>e=.returned (.int .i64 (d.spoil i a x).2)∧Left w w' p (d.spoil i a x).1 F F:=by
 cases h:(d.there i && decide (x.size≤4∧0≤a∧a≤64 - x.size)) with
 | false =>
   refine (spoil_bad hD i a x ha1 ha2 hxs h).mono ?_;rintro e w' ⟨rfl,rfl⟩;unfold Dk.spoil;rw [h];exact ⟨rfl,Left.refl hD⟩
 | true =>
   have h':=h;simp only [Bool.and_eq_true,decide_eq_true_eq,Dk.there] at h';obtain ⟨⟨h1,h2⟩,h3,h4,h5⟩:=h';obtain ⟨i,rfl⟩:=Int.eq_ofNat_of_zero_le h1;obtain ⟨a,rfl⟩:=Int.eq_ofNat_of_zero_le h4;refine (spoil_good hD i a x oM h3 oM).mono ?_;rintro e w' ⟨rfl,hL⟩;unfold Dk.spoil;rw [h];exact ⟨rfl,hL⟩
theorem look_s (s:ByteArray) (w:World) (hs:s.size≤9223372036854775807) :
 Calls Tryz.prog 47 #[.string s] w fun e w'=>e=.returned (.tuple #[.string (str (lookL s.data.toList).1),.int .i64 (lookL s.data.toList).2])∧Upd (fun _=>False) w w':=by
 refine (Look_c s w hs).mono ?_;rintro e w' ⟨rfl,hb⟩;exact ⟨rfl,Upd.of_below hb _⟩
end
section
open Go Go.RowKit Go.ChangeShapes Go.WideShapes Go.ChangeAt Go.Deep
section
variable {H:Type} {enc:TypeId × Value→H} {P:Program} {w:World} {base:Nat} {spare:Nat→Bool} {held:Bool}
end
def i64ok (n:Int):Prop:=-9223372036854775808≤n∧n≤9223372036854775807
theorem i64ok_of {n:Int} (h:(Lit.int .i64 n).wf=true):i64ok n:=by
 simp only [Lit.wf,Bool.and_eq_true,decide_eq_true_eq] at h;have h1:IntKind.i64.min=-9223372036854775808:=rfl;have h2:IntKind.i64.max=9223372036854775807:=rfl;unfold i64ok;omega
theorem add_plain2 (b off i:Nat):(⟨b,off,none⟩:Addr).add i=⟨b,off+i,none⟩:=by unfold Addr.add;simp
theorem pick_list {β : Type} (Q:Nat → β → Prop) (n:Nat) (h:∀i,i<n→∃r,Q i r):∃l:List β,l.length=n∧∀i (hi:i<l.length),Q i l[i]:=by
 induction n with
 | zero=>exact ⟨[],rfl,fun i hi=>absurd hi sM⟩
 | succ n ih =>
   obtain ⟨l,h1,h2⟩:=ih (fun i hi=>h i oM);obtain ⟨r,hr⟩:=h n oM;refine ⟨l++[r],by simp [h1],fun i hi=>?_⟩;by_cases hil:i<l.length
   ·rw [List.getElem_append_left hil]
    exact h2 i hil
   ·have:i=n:=by simp at hi;omega
    subst this;rw [List.getElem_append_right oM];simpa [h1] using hr
section
variable {H:Type} {enc:TypeId × Value→H} {w:World} {base:Nat} {spare:Nat→Bool} {held:Bool}
end
end
section
open Go Go.RowKit
theorem fresh_now (n j:Nat) (hj:j<n):(Dk.fresh n).now j=zeros64:=by
 unfold Dk.now Dk.at_ Dk.last Dk.fresh;simp only [List.getD_eq_getElem?_getD,List.getElem?_replicate];rw [if_pos hj,if_pos hj];rfl
theorem fresh_pend (n:Nat):(Dk.fresh n).pend=0:=by
 unfold Dk.pend Dk.fresh;simp
section
variable {d:Dk} {g:Lg} {n ep:Nat} {hv:List ByteArray} {cut:Bool} {torn:ByteArray} {salt:Nat}
end
def secP:Option Pt→ByteArray
 | none=>zeros64
 | some p=>p.sec
structure SlotG (d:Dk) (a:Nat) (L:List (Option Pt)):Prop where
 len:L.length=10
 cell:∀i (h:i<L.length),d.now (a+i)=secP L[i]
 ok:∀p,some p ∈ L→p.ok
def rowP:List (Option Pt)→List Pt
 | some p::r=>p::rowP r
 | _=>[]
def genP (L:List (Option Pt)) (s:Nat):Nat:=L.foldl (fun m o=>max m (o.elim 0 Pt.gen)) s
theorem rowP_some (A:List (Option Pt)) (p:Pt):rowP (A++[some p])=if A.all Option.isSome then rowP A++[p] else rowP A:=by
 induction A with
 | nil=>rfl
 | cons x A ih =>
   cases x with
   | none=>rfl
   | some q =>
     simp only [List.cons_append,rowP,ih,List.all_cons,Option.isSome_some,Bool.true_and];split<;>rfl
theorem rowP_none (A:List (Option Pt)):rowP (A++[none])=rowP A:=by
 induction A with
 | nil=>rfl
 | cons x A ih =>
   cases x with
   | none=>rfl
   | some q=>simp only [List.cons_append,rowP,ih]
theorem rowP_map (l:List Pt) (R:List (Option Pt)):rowP (l.map some++R)=l++rowP R:=by
 induction l with
 | nil=>rfl
 | cons p l ih=>simp only [List.map_cons,List.cons_append,rowP,ih]
theorem rowP_mem {L:List (Option Pt)} {p:Pt} (h:p ∈ rowP L):some p ∈ L:=by
 induction L with
 | nil=>simp [rowP] at h
 | cons x L ih =>
   cases x with
   | none=>simp [rowP] at h
   | some q =>
     simp only [rowP,List.mem_cons] at h;rcases h with rfl | h
     ·simp
     ·exact List.mem_cons_of_mem _ (ih h)
theorem rowP_get {L:List (Option Pt)} {i:Nat} (h:i<(rowP L).length):L[i]? = some (some (rowP L)[i]):=by
 induction L generalizing i with
 | nil=>simp [rowP] at h
 | cons x L ih =>
   cases x with
   | none=>simp [rowP] at h
   | some q =>
     cases i with
     | zero=>simp [rowP]
     | succ i =>
       simp only [rowP,List.length_cons] at h;have:=ih (i:=i) oM;simpa [rowP] using this
theorem rowP_prefix {A B:List (Option Pt)} {n:Nat} (h:∀i,i<n→A[i]? = B[i]?) (hn:n≤(rowP A).length):n≤(rowP B).length∧(rowP A).take n=(rowP B).take n:=by
 induction n generalizing A B with
 | zero=>simp
 | succ n ih =>
   cases A with
   | nil=>simp [rowP] at hn
   | cons x A =>
     cases x with
     | none=>simp [rowP] at hn
     | some p =>
       have h0:=h 0 oM;cases B with
       | nil=>simp at h0
       | cons y B =>
         simp only [List.getElem?_cons_zero,Option.some.injEq] at h0;subst h0;simp only [rowP,List.length_cons] at hn;have:=ih (A:=A) (B:=B) (fun i hi=>by simpa using h (i+1) oM) oM;simp only [rowP,List.length_cons,List.take_succ_cons];exact ⟨oM,by rw [this.2]⟩
theorem genP_ge (L:List (Option Pt)) (s:Nat):s≤genP L s:=by
 unfold genP;induction L generalizing s with
 | nil=>exact Nat.le_refl _
 | cons x L ih=>exact Nat.le_trans (Nat.le_max_left _ _) (ih _)
theorem genP_mem {L:List (Option Pt)} {p:Pt} (h:some p ∈ L) (s:Nat):p.gen≤genP L s:=by
 unfold genP;induction L generalizing s with
 | nil=>simp at h
 | cons x L ih =>
   rcases List.mem_cons.1 h with rfl | h
   ·exact Nat.le_trans (Nat.le_max_right _ _) (genP_ge L _)
   ·exact ih h _
theorem genP_le {L:List (Option Pt)} {m:Nat} (h:∀p,some p ∈ L→p.gen≤m) (s:Nat) (hs:s≤m):genP L s≤m:=by
 unfold genP;induction L generalizing s with
 | nil=>exact hs
 | cons x L ih =>
   refine ih (fun p hp=>h p (by simp [hp])) _ ?_;cases x with
   | none=>simpa using hs
   | some q=>exact Nat.max_le.2 ⟨hs,h q sM⟩
theorem slotAt_g {d:Dk} {a:Nat} {L:List (Option Pt)} (h:SlotG d a L) (seen k:Nat) (hk:k≤10):slotAt d a seen k=⟨rowP (L.take k),(L.take k).all Option.isSome,genP (L.take k) seen,false⟩:=by
 induction k with
 | zero=>rfl
 | succ k ih =>
   have hlt:k<L.length:=by rw [h.len];omega
   rw [slotAt_succ,ih oM,slotStep,if_neg sM,h.cell k hlt,List.take_succ_eq_append_getElem hlt];have hmem:L[k] ∈ L:=List.getElem_mem hlt;cases hx:L[k] with
   | none =>
     rw [show secP none=zeros64 from rfl,look_zeros,if_neg dC,if_neg dC,rowP_none];simp [genP]
   | some p =>
     have hok:=h.ok p (hx ▸ hmem);rw [show secP (some p)=p.sec from rfl,look_sec p hok,if_neg sM,if_pos rfl,readL_body p hok.gen' hok.number hok.all hok.text,rowP_some];simp [genP]
def two (f:Nat) (L0 L1:List (Option Pt)):Kp :=
 if (holdL (rowP L0)).2<(holdL (rowP L1)).2 then ⟨f,(holdL (rowP L1)).1,(holdL (rowP L1)).2,1,genP L1 (genP L0 0),false⟩
 else if 0<(holdL (rowP L0)).2 then ⟨f,(holdL (rowP L0)).1,(holdL (rowP L0)).2,0,genP L1 (genP L0 0),false⟩
 else ⟨f,[],0,1,genP L1 (genP L0 0),false⟩
theorem openStep_g {d:Dk} {n:Nat} {k:Kp} {L:List (Option Pt)} (h:SlotG d (k.from_+n*10) L) :
 openStep d n k=some (if k.gen<(holdL (rowP L)).2 then { k with seen:=genP L k.seen,text:=(holdL (rowP L)).1,gen:=(holdL (rowP L)).2,at_:=n } else { k with seen:=genP L k.seen }):=by
 have hs:=slotAt_g h k.seen 10 oM;rw [List.take_of_length_le (by rw [h.len];omega)] at hs;rw [openStep,hs,if_neg sM]
theorem open_g {d:Dk} {f:Nat} {L0 L1:List (Option Pt)} (h0:SlotG d f L0) (h1:SlotG d (f+10) L1):openN d f 2=some (two f L0 L1):=by
 have e0:openN d f 1=openStep d 0 ⟨f,[],0,1,0,false⟩:=rfl;rw [openStep_g (L:=L0) (by simpa using h0)] at e0;rw [openN,e0,Option.bind_some];unfold two;by_cases c0:0<(holdL (rowP L0)).2
 ·rw [if_pos c0,openStep_g (L:=L1) (by simpa using h1)]
  by_cases c1:(holdL (rowP L0)).2<(holdL (rowP L1)).2
  ·rw [if_pos c1,if_pos c1]
  ·rw [if_neg c1,if_neg c1,if_pos c0]
 ·rw [if_neg c0,openStep_g (L:=L1) (by simpa using h1)]
  have e:(holdL (rowP L0)).2=0:=oM;rw [e];by_cases c1:0<(holdL (rowP L1)).2
  ·rw [if_pos c1,if_pos c1]
  ·rw [if_neg c1,if_neg c1,if_neg oM]
theorem mix_hold {g k:Nat} {R M:List (Option Pt)} {t:List UInt8} (hR:∀p,some p ∈ R→p.gen<g) (hk:k=allOf t.length)
 (hM:∀i,M[i]? = R[i]? ∨ (i<k∧M[i]? = (cutL t g)[i]?.map some)) (hno:¬ ∀i,i<k→M[i]? = (cutL t g)[i]?.map some):(holdL (rowP M)).2≤(holdL (rowP R)).2:=by
 by_cases h0:(holdL (rowP M)).2=0
 ·omega
 ·obtain ⟨t',s',rest,hs0,ht',hrow,hh⟩:=holdL_true h0
  have hn':=allOf_pos t'.length;have hcl:=cutL_len t' s';have hlen:allOf t'.length≤(rowP M).length:=by rw [hrow,List.length_append,hcl];omega
  have hget:∀(i:Nat) (h:i<allOf t'.length),M[i]? = some (some ((cutL t' s')[i]'(by rw [hcl];exact h))):=by
   intro i h;rw [rowP_get oM];simp only [hrow];rw [List.getElem_append_left (by rw [hcl];exact h)]
  have hold:∀(i:Nat) (p:Pt),M[i]? = R[i]? → M[i]? = some (some p)→p.gen<g:=by
   intro i p h1 h2;rw [h1] at h2;exact hR p (List.mem_of_getElem? h2)
  have hnew:∀(i:Nat) (p:Pt),(i<k∧M[i]? = (cutL t g)[i]?.map some)→M[i]? = some (some p)→p.gen=g∧p.all=k:=by
   intro i p h1 h2;rw [h1.2,List.getElem?_eq_getElem (by rw [cutL_len];omega)] at h2;simp only [Option.map_some,Option.some.injEq] at h2;obtain ⟨c1,c2,c3,c4⟩:=cutL_get t g i (by rw [cutL_len];omega);rw [h2] at c1 c3;exact ⟨c1,oM⟩
  have hcut:∀(i:Nat) (h:i<allOf t'.length),((cutL t' s')[i]'(by rw [hcl];exact h)).gen=s'∧((cutL t' s')[i]'(by rw [hcl];exact h)).all=allOf t'.length:=by
   intro i h;obtain ⟨c1,c2,c3,c4⟩:=cutL_get t' s' i (by rw [hcl];exact h);exact ⟨c1,c3⟩
  by_cases hs:s'=g
  ·exfalso
   have all_new:∀i:Nat,i<allOf t'.length→i<k∧M[i]? = (cutL t g)[i]?.map some:=by
    intro i h;rcases hM i with e1 | e1
    ·have:=hold i _ e1 (hget i h)
     have:=(hcut i h).1;omega
    ·exact e1
   have h0:=hnew 0 _ (all_new 0 oM) (hget 0 oM);have h1:=(hcut 0 oM).2;exact hno fun i hi=>(all_new i oM).2
  ·have all_old:∀i:Nat,i<allOf t'.length→M[i]? = R[i]? := by
    intro i h;rcases hM i with e1 | e1
    ·exact e1
    ·have h1:=(hnew i _ e1 (hget i h)).1
     have h2:=(hcut i h).1;omega
   obtain ⟨p1,p2⟩:=rowP_prefix all_old hlen;have hR2:rowP R=cutL t' s'++(rowP R).drop (allOf t'.length):=by
    have e1:(rowP M).take (allOf t'.length)=cutL t' s':=by rw [hrow,List.take_left' hcl]
    rw [← e1,p2,List.take_append_drop]
   rw [hh,hR2,holdL_cut _ _ _ hs0 ht'];exact Nat.le_refl _
theorem slot_mix {d d2:Dk} {a g:Nat} {L:List (Option Pt)} {t:List UInt8} (h:SlotG d a L) (hg:0<g) (hg2:g<18446744073709551616) (ht:t.length≤400)
 (hn:∀i,i<10→d2.now (a+i)=d.now (a+i)∨(i<allOf t.length∧d2.now (a+i)=((cutL t g).map Pt.sec).getD i ByteArray.empty)) :
 ∃ M,SlotG d2 a M∧(∀i,M[i]? = L[i]? ∨ (i<allOf t.length∧M[i]? = (cutL t g)[i]?.map some)) ∧
  ((∀i,i<allOf t.length→d2.now (a+i)=((cutL t g).map Pt.sec).getD i ByteArray.empty)↔(∀i,i<allOf t.length→M[i]? = (cutL t g)[i]?.map some)):=by
 classical
 have e64:(2:Nat) ^ (8*8)=18446744073709551616:=dC;have hok:=cutL_ok t g hg oM ht;have hcl:=cutL_len t g;have hall:allOf t.length≤9:=by unfold allOf;omega
 have hsec:∀i (hi:i<allOf t.length),((cutL t g).map Pt.sec).getD i ByteArray.empty=((cutL t g)[i]'oM).sec:=by
  intro i hi;rw [List.getD_eq_getElem?_getD,List.getElem?_map,List.getElem?_eq_getElem oM];rfl
 have hl:=h.len;have hMi:∀i,i<10→((List.range 10).map fun i=>if i<allOf t.length∧d2.now (a+i)=((cutL t g).map Pt.sec).getD i ByteArray.empty then (cutL t g)[i]? else L.getD i none)[i]? =
  some (if i<allOf t.length∧d2.now (a+i)=((cutL t g).map Pt.sec).getD i ByteArray.empty then (cutL t g)[i]? else L.getD i none):=by
  intro i hi;rw [List.getElem?_map,List.getElem?_range hi,Option.map_some]
 refine ⟨(List.range 10).map fun i=>if i<allOf t.length∧d2.now (a+i)=((cutL t g).map Pt.sec).getD i ByteArray.empty then (cutL t g)[i]? else L.getD i none,⟨sM,fun i hi=>?_,fun p hp=>?_⟩,fun i=>?_,⟨fun hnew i hi=>?_,fun hM i hi=>?_⟩⟩
 ·have hi2:i<10:=by simpa using hi
  rw [List.getElem_map,List.getElem_range];by_cases c:i<allOf t.length∧d2.now (a+i)=((cutL t g).map Pt.sec).getD i ByteArray.empty
  ·rw [if_pos c,List.getElem?_eq_getElem oM,c.2,hsec i c.1]
   rfl
  ·rw [if_neg c]
   rcases hn i hi2 with e | e
   ·rw [e,h.cell i oM,List.getD_eq_getElem?_getD,List.getElem?_eq_getElem oM]
    rfl
   ·exact absurd e c
 ·obtain ⟨i,hi,e⟩:=List.mem_iff_getElem.1 hp
  have hi2:i<10:=by simpa using hi
  rw [List.getElem_map,List.getElem_range] at e;by_cases c:i<allOf t.length∧d2.now (a+i)=((cutL t g).map Pt.sec).getD i ByteArray.empty
  ·rw [if_pos c] at e
   exact hok p (List.mem_of_getElem? e)
  ·rw [if_neg c,List.getD_eq_getElem?_getD,List.getElem?_eq_getElem oM,Option.getD_some] at e
   exact h.ok p (by rw [← e];exact List.getElem_mem _)
 ·by_cases hi:i<10
  ·rw [hMi i hi]
   by_cases c:i<allOf t.length∧d2.now (a+i)=((cutL t g).map Pt.sec).getD i ByteArray.empty
   ·rw [if_pos c]
    refine .inr ⟨c.1,?_⟩;rw [List.getElem?_eq_getElem oM];rfl
   ·rw [if_neg c,List.getD_eq_getElem?_getD,List.getElem?_eq_getElem oM]
    exact .inl rfl
  ·rw [List.getElem?_eq_none (by simpa using hi),List.getElem?_eq_none oM]
   exact .inl rfl
 ·rw [hMi i oM,if_pos ⟨hi,hnew i hi⟩,List.getElem?_eq_getElem oM]
  rfl
 ·by_cases c:d2.now (a+i)=((cutL t g).map Pt.sec).getD i ByteArray.empty
  ·exact c
  ·have h1:=hM i hi
   rw [hMi i oM,if_neg (fun e=>c e.2),List.getD_eq_getElem?_getD,List.getElem?_eq_getElem oM,List.getElem?_eq_getElem oM] at h1;simp only [Option.getD_some,Option.map_some,Option.some.injEq] at h1;rcases hn i oM with e | e
   ·rw [e,h.cell i oM,h1,hsec i hi]
    rfl
   ·exact e.2
theorem slot_same {d d2:Dk} {a:Nat} {L:List (Option Pt)} (h:SlotG d a L) (hn:∀i,i<10→d2.now (a+i)=d.now (a+i)):SlotG d2 a L :=
 ⟨h.len,fun i hi=>by rw [hn i (oN h.len)];exact h.cell i hi,h.ok⟩
theorem hold_all {g:Nat} {M:List (Option Pt)} {t:List UInt8} (hg:0<g) (ht:t.length≤400) (hM:∀i,i<allOf t.length→M[i]? = (cutL t g)[i]?.map some):holdL (rowP M)=(t,g):=by
 have hcl:=cutL_len t g;have e:M=(cutL t g).map some++M.drop (allOf t.length):=by
  refine List.ext_getElem? fun i=>?_
  by_cases hi:i<allOf t.length
  ·rw [hM i hi,List.getElem?_append_left (by rw [List.length_map];omega),List.getElem?_map]
  ·rw [List.getElem?_append_right (by rw [List.length_map];omega),List.getElem?_drop,List.length_map,hcl]
   congr 1
   omega
 rw [e,rowP_map,holdL_cut t g _ oM ht]
structure KeptG (d:Dk) (k:Kp) (L0 L1:List (Option Pt)):Prop where
 fuse:d.fuse=-1
 off:d.off=false
 waits:d.waits.length=d.lasts.length
 room:k.from_+20≤d.lasts.length
 s0:SlotG d k.from_ L0
 s1:SlotG d (k.from_+10) L1
 is:two k.from_ L0 L1=k
section
variable {d d2:Dk} {k:Kp} {L0 L1:List (Option Pt)}
theorem KeptG.opens (h:KeptG d k L0 L1):openN d k.from_ 2=some k:=by rw [open_g h.s0 h.s1,h.is]
theorem two_facts (f:Nat) (L0 L1:List (Option Pt)):(two f L0 L1).from_=f∧(two f L0 L1).seen=genP L1 (genP L0 0)∧(two f L0 L1).at_≤1∧(two f L0 L1).broken=false:=by
 unfold two;split
 ·exact ⟨rfl,rfl,sM,rfl⟩
 ·split
  ·exact ⟨rfl,rfl,sM,rfl⟩
  ·exact ⟨rfl,rfl,sM,rfl⟩
theorem KeptG.seen (h:KeptG d k L0 L1):k.seen=genP L1 (genP L0 0):=by
 have:=(two_facts k.from_ L0 L1).2.1;rw [h.is] at this;exact this
theorem KeptG.at_ (h:KeptG d k L0 L1):k.at_≤1:=by
 have:=(two_facts k.from_ L0 L1).2.2.1;rw [h.is] at this;exact this
theorem KeptG.broken (h:KeptG d k L0 L1):k.broken=false:=by
 have:=(two_facts k.from_ L0 L1).2.2.2;rw [h.is] at this;exact this
theorem KeptG.gen0 (h:KeptG d k L0 L1):∀p,some p ∈ L0→p.gen≤k.seen:=fun p hp=>by
 rw [h.seen];exact Nat.le_trans (genP_mem hp 0) (genP_ge _ _)
theorem KeptG.gen1 (h:KeptG d k L0 L1):∀p,some p ∈ L1→p.gen≤k.seen:=fun p hp=>by
 rw [h.seen];exact genP_mem hp _
theorem KeptG.mix (h:KeptG d k L0 L1) (t:List UInt8) (ht:t.length≤400) (hs:k.seen+1<18446744073709551616)
 (hf:d2.fuse=-1) (ho:d2.off=false) (hw:d2.waits.length=d2.lasts.length) (hl:d2.lasts.length=d.lasts.length)
 (hn:∀i,i<d.lasts.length→d2.now i=d.now i∨(k.from_+(1 - k.at_)*10≤i∧i<k.from_+(1 - k.at_)*10+allOf t.length∧d2.now i=((cutL t (k.seen+1)).map Pt.sec).getD (i - (k.from_+(1 - k.at_)*10)) ByteArray.empty)) :
 ∃ k' L0' L1',KeptG d2 k' L0' L1'∧k'.from_=k.from_∧k'.seen≤k.seen+1∧(k'=k.put t∨(k'.text=k.text∧k'.gen=k.gen)) ∧
  ((∀i,i<allOf t.length→d2.now (k.from_+(1 - k.at_)*10+i)=((cutL t (k.seen+1)).map Pt.sec).getD i ByteArray.empty)→k'=k.put t):=by
 have hat:=h.at_;have hroom:=h.room;have hall:allOf t.length≤9:=by unfold allOf;omega
 have hall1:=allOf_pos t.length;have hg0:=h.gen0;have hg1:=h.gen1;have hseen:=h.seen;have hh0:(holdL (rowP L0)).2≤k.seen:=holdL_le fun p hp=>hg0 p (rowP_mem hp)
 have hh1:(holdL (rowP L1)).2≤k.seen:=holdL_le fun p hp=>hg1 p (rowP_mem hp)
 have hcl:=cutL_len t (k.seen+1)
 -- the gens of a mixed slot
 have hgm:∀ {L M:List (Option Pt)},(∀p,some p ∈ L→p.gen≤k.seen)→(∀i,M[i]? = L[i]? ∨ (i<allOf t.length∧M[i]? = (cutL t (k.seen+1))[i]?.map some))→∀p,some p ∈ M→p.gen≤k.seen+1:=by
  intro L M hL hM p hp;obtain ⟨i,hi,e⟩:=List.mem_iff_getElem.1 hp;have e2:M[i]? = some (some p):=by rw [List.getElem?_eq_getElem hi,e]
  rcases hM i with e1 | ⟨e0,e1⟩
  ·rw [e1] at e2
   have:=hL p (List.mem_of_getElem? e2);omega
  ·rw [e1,List.getElem?_eq_getElem oM] at e2
   simp only [Option.map_some,Option.some.injEq] at e2;have:=(cutL_get t (k.seen+1) i oM).1;rw [e2] at this;omega
 have hfull:∀ {M:List (Option Pt)},(∀i,i<allOf t.length→M[i]? = (cutL t (k.seen+1))[i]?.map some)→∃p,some p ∈ M∧p.gen=k.seen+1:=by
  intro M hM;have h0:=hM 0 oM;rw [List.getElem?_eq_getElem (by omega:0<(cutL t (k.seen+1)).length),Option.map_some] at h0;exact ⟨_,List.mem_of_getElem? h0,(cutL_get t (k.seen+1) 0 oM).1⟩
 have hcase:k.at_=1∨k.at_=0:=oM;rcases hcase with e | e
 ·-- slot 0 is written
  have ea:k.from_+(1 - k.at_)*10=k.from_:=by rw [e];rfl
  rw [ea] at hn ⊢;obtain ⟨M,m1,m2,m3⟩:=slot_mix (d2:=d2) h.s0 (g:=k.seen+1) (t:=t) oM hs ht (fun i hi=>by
   rcases hn (k.from_+i) oM with c | ⟨c1,c2,c3⟩
   ·exact .inl c
   ·exact .inr ⟨oM,by rw [c3];congr 1;omega⟩)
  have s1:SlotG d2 (k.from_+10) L1:=slot_same h.s1 fun i hi=>by
   rcases hn (k.from_+10+i) oM with c | ⟨c1,c2,c3⟩
   ·exact c
   ·omega
  have hgM:=hgm hg0 m2;have hS:genP L1 (genP M 0)≤k.seen+1:=genP_le (fun p hp=>by have:=hg1 p hp;omega) _ (genP_le hgM _ (Nat.zero_le _));have tf:=two_facts k.from_ M L1;have hput:(∀i,i<allOf t.length→M[i]? = (cutL t (k.seen+1))[i]?.map some)→two k.from_ M L1=k.put t:=by
   intro hM;have hh:=hold_all oM ht hM;obtain ⟨p,hp,hpg⟩:=hfull hM;have h1:=genP_mem hp 0;have h2:=genP_ge L1 (genP M 0);have hS2:genP L1 (genP M 0)=k.seen+1:=oM;unfold two Kp.put;rw [hh,if_neg (by show ¬k.seen+1<_;omega),if_pos (by show 0<k.seen+1;omega),hS2,e]
  refine ⟨two k.from_ M L1,M,L1,⟨hf,ho,hw,by rw [hl,tf.1];exact hroom,by rw [tf.1];exact m1,by rw [tf.1];exact s1,by rw [tf.1]⟩,tf.1,by rw [tf.2.1];exact hS,?_,fun hx=>hput (m3.1 hx)⟩;by_cases hM:∀i,i<allOf t.length→M[i]? = (cutL t (k.seen+1))[i]?.map some
  ·exact .inl (hput hM)
  ·right
   have hle:=mix_hold (fun p hp=>by have:=hg0 p hp;omega) rfl m2 hM;have his:=h.is;unfold two at his ⊢;by_cases c1:(holdL (rowP L0)).2<(holdL (rowP L1)).2
   ·rw [if_pos c1] at his
    rw [if_pos oM];rw [← his];exact ⟨rfl,rfl⟩
   ·rw [if_neg c1] at his
    by_cases c2:0<(holdL (rowP L0)).2
    ·rw [if_pos c2] at his
     rw [← his] at e;simp at e
    ·rw [if_neg c2] at his
     rw [if_neg oM,if_neg oM,← his];exact ⟨rfl,rfl⟩
 ·-- slot 1 is written
  have ea:k.from_+(1 - k.at_)*10=k.from_+10:=by rw [e]
  rw [ea] at hn ⊢;obtain ⟨M,m1,m2,m3⟩:=slot_mix (d2:=d2) h.s1 (g:=k.seen+1) (t:=t) oM hs ht (fun i hi=>by
   rcases hn (k.from_+10+i) oM with c | ⟨c1,c2,c3⟩
   ·exact .inl c
   ·exact .inr ⟨oM,by rw [c3];congr 1;omega⟩)
  have s0:SlotG d2 k.from_ L0:=slot_same h.s0 fun i hi=>by
   rcases hn (k.from_+i) oM with c | ⟨c1,c2,c3⟩
   ·exact c
   ·omega
  have hgM:=hgm hg1 m2;have hS:genP M (genP L0 0)≤k.seen+1:=genP_le hgM _ (genP_le (fun p hp=>by have:=hg0 p hp;omega) _ (Nat.zero_le _));have tf:=two_facts k.from_ L0 M;have hput:(∀i,i<allOf t.length→M[i]? = (cutL t (k.seen+1))[i]?.map some)→two k.from_ L0 M=k.put t:=by
   intro hM;have hh:=hold_all oM ht hM;obtain ⟨p,hp,hpg⟩:=hfull hM;have h1:=genP_mem hp (genP L0 0);have hS2:genP M (genP L0 0)=k.seen+1:=oM;unfold two Kp.put;rw [hh,if_pos (by show _<k.seen+1;omega),hS2,e]
  refine ⟨two k.from_ L0 M,L0,M,⟨hf,ho,hw,by rw [hl,tf.1];exact hroom,by rw [tf.1];exact s0,by rw [tf.1];exact m1,by rw [tf.1]⟩,tf.1,by rw [tf.2.1];exact hS,?_,fun hx=>hput (m3.1 hx)⟩;by_cases hM:∀i,i<allOf t.length→M[i]? = (cutL t (k.seen+1))[i]?.map some
  ·exact .inl (hput hM)
  ·right
   have hle:=mix_hold (fun p hp=>by have:=hg1 p hp;omega) rfl m2 hM;have his:=h.is;unfold two at his ⊢;by_cases c1:(holdL (rowP L0)).2<(holdL (rowP L1)).2
   ·rw [if_pos c1] at his
    rw [← his] at e;simp at e
   ·rw [if_neg c1] at his
    by_cases c2:0<(holdL (rowP L0)).2
    ·rw [if_pos c2] at his
     rw [if_neg oM,if_pos c2,← his];exact ⟨rfl,rfl⟩
    ·rw [if_neg c2] at his
     rw [← his] at e;simp at e
end
theorem fresh_g (n f:Nat) (h:f+20≤n):KeptG (Dk.fresh n) ⟨f,[],0,1,0,false⟩ (List.replicate 10 none) (List.replicate 10 none):=by
 have hno:∀p:Pt,some p ∉ List.replicate 10 (none:Option Pt):=fun p hp=>by have:=List.eq_of_mem_replicate hp;simp at this
 have hz:∀a,a+10≤n→SlotG (Dk.fresh n) a (List.replicate 10 none):=by
  intro a ha;refine ⟨sM,fun i hi=>?_,fun p hp=>absurd hp (hno p)⟩;have e:(Dk.fresh n).now (a+i)=zeros64:=by
   have hi':i<10:=by simpa using hi
   unfold Dk.now Dk.at_ Dk.last Dk.fresh;simp only [List.getD_eq_getElem?_getD,List.getElem?_replicate];rw [if_pos oM,if_pos oM];rfl
  rw [e,List.getElem_replicate];rfl
 exact ⟨rfl,rfl,by simp [Dk.fresh],by simpa [Dk.fresh] using h,hz f oM,hz (f+10) oM,rfl⟩
theorem writeN_B (d:Dk) (a:Nat) (l:List Pt) (j:Nat) (hj:j≤l.length):writeN d a l j=writeB d a (l.map Pt.sec) j:=by
 induction j with
 | zero=>rfl
 | succ j ih =>
   rw [writeN,writeB,ih oM];have e:(l.getD j ⟨0,0,0,[]⟩).sec=(l.map Pt.sec).getD j ByteArray.empty:=by
    rw [List.getD_eq_getElem?_getD,List.getD_eq_getElem?_getD,List.getElem?_map,List.getElem?_eq_getElem oM];rfl
   rw [e]
section
variable {d:Dk} {k:Kp} {f:Nat} {last torn:List UInt8} {is cut:Bool} {seen:Nat}
end
section
variable {w0 w w':World} {p b:Nat} {d d':Dk} {g:Lg} {X:Nat→Prop} {n ep salt:Nat} {hv:List ByteArray} {cut:Bool} {torn:ByteArray}
end
section
variable {w0 w w':World} {p b f seen:Nat} {d d':Dk} {k:Kp} {last torn:List UInt8} {is cut:Bool} {L0 L1:List (Option Pt)}
end
structure MtM where
 name:List UInt8
 ship:Bool
deriving DecidableEq
structure MetaM where
 role:Int
 seen:Int
 grant:Int
 mounts:List MtM
 secret:List UInt8
structure StM where
 m:MetaM
 at_:Int
 epoch:Int
 slot:Nat
 log:Nat
 key:Nat
 boot:Nat
structure BatM where
 index:Int
 epoch:Int
 ops:List OpM
def mtsR:List MtM→List MtM→Bool
 | _,[]=>true
 | a,m::r=>okName m.name && !(a.any fun o=>decide (o.name=m.name)) && mtsR (a++[m]) r
def okMounts (l:List MtM):Bool:=mtsR [] l && decide (1≤l.length∧l.length≤4)
def rightM (m:MetaM):Bool:=(decide (m.mounts=[]) || okMounts m.mounts) && decide (0≤m.role∧m.role≤3∧0≤m.seen∧0≤m.grant∧m.secret.length≤64)
def mtB (m:MtM):List UInt8:=textN m.name++[if m.ship then 1 else 0]
def stB (s:StM) (sealed:List UInt8):List UInt8 :=
 putN 1++(putN s.m.role.toNat++(putN s.m.seen.toNat++(putN s.m.grant.toNat++(putN s.at_.toNat++(putN s.epoch.toNat++(putN s.slot++(putN s.key++(putN s.log++(putN s.boot++(putN s.m.mounts.length++(s.m.mounts.flatMap mtB++textN sealed)))))))))))
def batT (b:BatM):List UInt8:=batB b.index.toNat b.epoch.toNat b.ops
def doL (S:List PairM) (l:List OpM):List PairM:=l.foldl (fun S o=>if o.kind=2 then delP o.path S else insP o.path o.value S) S
def doE (S:List PairM) (l:List OpM):Int:=if batErr 1 1 l≠0 then batErr 1 1 l else if 48<(doL S l).length then 6 else 0
def ofL:List PairM→List PairM→List PairM × Int
 | S,[]=>(S,0)
 | S,p::r=>if okPath p.1=false∨32<p.2.length then ([],1) else if (getP p.1 S).isSome then ([],5) else ofL (insP p.1 p.2 S) r
def ofP (l:List PairM):List PairM × Int:=if 48<l.length then ([],6) else ofL [] l
def slotN (t:List UInt8):Nat:=(t.length+55) / 56
def placeN (slot:Nat):Nat:=340+(slot - 1)*80
def pieceN (t:List UInt8) (i:Nat):List UInt8:=(t.drop (56*i)).take 56
def slotBody (t:List UInt8) (i:Nat):List UInt8:=UInt8.ofNat i::UInt8.ofNat (slotN t)::UInt8.ofNat (pieceN t i).length::0::(pieceN t i++List.replicate (56 - (pieceN t i).length) 0)
def slotSecs (t:List UInt8):List ByteArray:=(List.range (slotN t)).map fun i=>str (closeL (slotBody t i))
def writeSlotD (d:Dk) (slot:Nat) (t:List UInt8):Dk × Int :=
 if 80<slotN t then (d,6) else
 if (writeB d (placeN slot) (slotSecs t) (slotN t)).2≠0 then writeB d (placeN slot) (slotSecs t) (slotN t) else (writeB d (placeN slot) (slotSecs t) (slotN t)).1.sync
structure VtM where
 S:List PairM
 at_:Int
 epoch:Int
 rows:List BatM
 prev:Int
 st:StM
 down:Bool
 kp:Kp
 lg:Lg
 cur:Nat
 n:Nat
def masterL:List UInt8:=[109,97,115,116,101,114]
def sMap:List UInt8:=[109,97,112]
def sLog:List UInt8:=[108,111,103]
def sSecret:List UInt8:=[115,101,99,114,101,116]
def VtM.wrap (v:VtM) (about text:List UInt8):List UInt8:=sealB (ringK masterL v.cur) v.cur v.st.boot v.n about text
def VtM.next (v:VtM):VtM := { v with n:=v.n+1 }
def VtM.told (v:VtM) (e:Int):VtM := { v with down:=v.down || decide (e=14) }
def putV (d:Dk) (v:VtM) (s:StM):Dk × VtM × Int :=
 if (putK d v.kp (stB s (v.wrap sSecret s.m.secret))).2.2≠0 then
  ((putK d v.kp (stB s (v.wrap sSecret s.m.secret))).1,({ v.next with kp:=(putK d v.kp (stB s (v.wrap sSecret s.m.secret))).2.1 } : VtM).told (putK d v.kp (stB s (v.wrap sSecret s.m.secret))).2.2,(putK d v.kp (stB s (v.wrap sSecret s.m.secret))).2.2)
 else ((putK d v.kp (stB s (v.wrap sSecret s.m.secret))).1,{ v.next with kp:=(putK d v.kp (stB s (v.wrap sSecret s.m.secret))).2.1,st:=s },0)
def StM.whole (s:StM) (m:MetaM) (at_ epoch:Int):StM := { s with m:=m,at_:=at_,epoch:=epoch,slot:=1+s.slot % 2,log:=s.log+1 }
def wholeV (d:Dk) (v:VtM) (m:MetaM) (x:List PairM) (at_ epoch:Int):Dk × VtM × Int :=
 let t:=v.wrap sMap (pairsB x)
 let s:=v.st.whole m at_ epoch
 let r1:=writeSlotD d s.slot t
 if r1.2≠0 then (r1.1,v.next.told r1.2,r1.2) else
 let r2:=putV r1.1 v.next s
 if r2.2.2≠0 then r2 else
 match openG r2.1 20 320 s.log with
 | none=>(r2.1,r2.2.1.told 9,9)
 | some g=>(r2.1,{ r2.2.1 with lg:=g,S:=x,at_:=at_,epoch:=epoch,rows:=[],prev:=epoch },0)
def VtM.does (v:VtM) (b:BatM):VtM := { v with S:=doL v.S b.ops,rows:=v.rows++[b],at_:=b.index,epoch:=b.epoch }
def addV (d:Dk) (v:VtM) (b:BatM):Dk × VtM × Int :=
 let t:=v.wrap sLog (batT b)
 let r:=addG d v.lg (str t)
 if r.2.2≠0 then (r.1,({ v.next with lg:=r.2.1 } : VtM).told r.2.2,r.2.2) else (r.1,({ v.next with lg:=r.2.1 } : VtM).does b,0)
def offV (d:Dk) (v:VtM):Bool:=v.down || d.off
def commitV (d:Dk) (v:VtM) (b:BatM):Dk × VtM × Int :=
 if offV d v then (d,{ v with down:=true },14) else
 if batErr b.index b.epoch b.ops≠0 then (d,v,batErr b.index b.epoch b.ops) else
 if b.index≠v.at_+1∨b.epoch<v.epoch then (d,v,1) else
 if doE v.S b.ops≠0 then (d,v,doE v.S b.ops) else
 if 24≤v.rows.length then
  let r:=wholeV d v v.st.m v.S v.at_ v.epoch
  if r.2.2≠0 then r else
  -- the map is the one that was made ahead
  let r2:=addV r.1 r.2.1 b
  (r2.1,if r2.2.2=0 then { r2.2.1 with S:=doL v.S b.ops } else r2.2.1,r2.2.2)
 else addV d v b
def setV (d:Dk) (v:VtM) (m:MetaM):Dk × VtM × Int :=
 if offV d v then (d,{ v with down:=true },14) else if rightM m=false then (d,v,1) else putV d v { v.st with m:=m }
def placeOk (at_ epoch:Int):Bool:=decide (at_=0∧epoch=0) || decide (1≤at_∧at_≤4611686018427387904∧1≤epoch)
def installV (d:Dk) (v:VtM) (m:MetaM) (l:List PairM) (at_ epoch:Int):Dk × VtM × Int :=
 if offV d v then (d,{ v with down:=true },14) else if rightM m=false∨placeOk at_ epoch=false then (d,v,1) else
 if (ofP l).2≠0 then (d,v,(ofP l).2) else wholeV d v m (ofP l).1 at_ epoch
def rotateV (d:Dk) (v:VtM):Dk × VtM × Int :=
 if offV d v then (d,{ v with down:=true },14) else if 1048576≤v.st.key then (d,v,6) else
 let r:=putV d v { v.st with key:=v.st.key+1 }
 if r.2.2≠0 then r else (r.1,{ r.2.1 with cur:=r.2.1.cur+1 },0)
def Sealed (top:Nat) (about text t:List UInt8):Prop :=
 ∃key boot n,key≤top∧key≤1048576∧boot<4294967296∧n<18446744073709551616∧t=sealB (ringK masterL key) key boot n about text
theorem Sealed.mono {a b:Nat} {about text t:List UInt8} (h:Sealed a about text t) (hab:a≤b):Sealed b about text t:=by
 obtain ⟨key,boot,n,h1,h2⟩:=h;exact ⟨key,boot,n,oM,h2⟩
theorem Sealed.len {a:Nat} {about text t:List UInt8} (h:Sealed a about text t) (ht:text.length≤8192):t.length≤text.length+52∧1≤t.length:=by
 obtain ⟨key,boot,n,h1,h2,h3,h4,rfl⟩:=h;refine ⟨sealB_len h2 h3 h4 ht,?_⟩;unfold sealB;rw [List.length_append,List.length_append];unfold stampL;rw [tagL_len];omega
def replL:List BatM→List PairM × Int × Int→Option (List PairM × Int × Int)
 | [],x=>some x
 | b::r,x=>if batErr b.index b.epoch b.ops=0∧b.index=x.2.1+1∧x.2.2≤b.epoch∧(doL x.1 b.ops).length≤48 then replL r (doL x.1 b.ops,b.index,b.epoch) else none
theorem replL_snoc (l:List BatM) (b:BatM) (x:List PairM × Int × Int):replL (l++[b]) x=(replL l x).bind (replL [b]):=by
 induction l generalizing x with
 | nil=>rfl
 | cons a r ih =>
   rw [List.cons_append];unfold replL;split
   ·exact ih _
   ·rfl
theorem replL_one {b:BatM} {x:List PairM × Int × Int} (h1:batErr b.index b.epoch b.ops=0) (h2:b.index=x.2.1+1) (h3:x.2.2≤b.epoch) (h4:(doL x.1 b.ops).length≤48):replL [b] x=some (doL x.1 b.ops,b.index,b.epoch):=by
 unfold replL;rw [if_pos ⟨h1,h2,h3,h4⟩];rfl
structure PairsOk (S:List PairM):Prop where
 rises:Rises S
 len:S.length≤48
 each:∀p ∈ S,okPath p.1=true∧p.2.length≤32
theorem PairsOk.nil:PairsOk []:=⟨List.Pairwise.nil,sM,sM⟩
theorem doL_step {l:List OpM} (hl:∀o ∈ l,opErr o=0) {S:List PairM} (h1:Rises S) (h2:∀p ∈ S,okPath p.1=true∧p.2.length≤32):Rises (doL S l)∧∀p ∈ doL S l,okPath p.1=true∧p.2.length≤32:=by
 induction l generalizing S with
 | nil=>exact ⟨h1,h2⟩
 | cons o r ih =>
   obtain ⟨-,e1,-,e2,-⟩:=opErr_zero (hl o sM);have e:doL S (o::r)=doL (if o.kind=2 then delP o.path S else insP o.path o.value S) r:=rfl;rw [e];refine ih (fun q hq=>hl q (by simp [hq])) ?_ ?_
   ·split
    ·exact delP_rises h1
    ·exact insP_rises h1
   ·intro p hp
    split at hp
    ·exact h2 p (List.mem_filter.1 hp).1
    ·rcases (insP_mem h1 p).1 hp with rfl | ⟨a,-⟩
     ·exact ⟨e1,e2⟩
     ·exact h2 p a
theorem doL_ok {S:List PairM} {i e:Int} {l:List OpM} (h:PairsOk S) (hl:batErr i e l=0) (h48:(doL S l).length≤48):PairsOk (doL S l):=by
 obtain ⟨a,b⟩:=doL_step (batErr_zero hl).2.2.2.2 h.rises h.each;exact ⟨a,h48,b⟩
theorem replL_ok {l:List BatM} {x y:List PairM × Int × Int} (hx:PairsOk x.1) (h:replL l x=some y):PairsOk y.1:=by
 induction l generalizing x with
 | nil=>exact Option.some.inj h ▸ hx
 | cons b r ih =>
   unfold replL at h;split at h
   ·rename_i hc
    exact ih (doL_ok hx hc.1 hc.2.2.2) h
   ·simp at h
theorem replL_each {l:List BatM} {x y:List PairM × Int × Int} (h:replL l x=some y):∀b ∈ l,batErr b.index b.epoch b.ops=0:=by
 induction l generalizing x with
 | nil=>simp
 | cons b r ih =>
   unfold replL at h;split at h
   ·rename_i hc
    intro q hq;rcases List.mem_cons.1 hq with rfl | hq
    ·exact hc.1
    ·exact ih h q hq
   ·simp at h
structure PlaceIs (a e:Int):Prop where
 at0:0≤a
 at1:a≤4611686018427387904
 ep0:0≤e
 ep1:e≤9223372036854775807
theorem replL_place {l:List BatM} {x y:List PairM × Int × Int} (hx:PlaceIs x.2.1 x.2.2) (hl:∀b ∈ l,b.epoch≤9223372036854775807) (h:replL l x=some y):PlaceIs y.2.1 y.2.2:=by
 induction l generalizing x with
 | nil=>exact Option.some.inj h ▸ hx
 | cons b r ih =>
   unfold replL at h;split at h
   ·rename_i hc
    obtain ⟨b1,b2,b3,-⟩:=batErr_zero hc.1;exact ih ⟨by show (0:Int)≤b.index;omega,b2,by show (0:Int)≤b.epoch;omega,hl b sM⟩ (fun q hq=>hl q (by simp [hq])) h
   ·simp at h
theorem insP_end {k v:List UInt8} {A:List PairM} (h:∀p ∈ A,p.1<k):insP k v A=A++[(k,v)]:=by
 induction A with
 | nil=>rfl
 | cons q r ih =>
   unfold insP;rw [if_pos (h q sM),ih fun p hp=>h p (by simp [hp])];rfl
theorem ofL_same (B:List PairM):∀A:List PairM,Rises (A++B)→(∀p ∈ B,okPath p.1=true∧p.2.length≤32)→ofL A B=(A++B,0):=by
 induction B with
 | nil=>intro A _ _;simp [ofL]
 | cons p r ih =>
   intro A hr hb;have h1:∀q ∈ A,q.1<p.1:=fun q hq=>(List.pairwise_append.1 hr).2.2 q hq p sM
   obtain ⟨p1,p2⟩:=hb p sM;unfold ofL;rw [if_neg (by rw [p1];simp;omega),getP_none fun q hq=>lt_ne (h1 q hq),if_neg sM,insP_end h1];have:=ih (A++[(p.1,p.2)]) (by rw [List.append_assoc];exact hr) fun q hq=>hb q (by simp [hq])
   rw [this,List.append_assoc];rfl
theorem ofP_same {S:List PairM} (h:PairsOk S):ofP S=(S,0):=by
 unfold ofP;rw [if_neg (oN h.len)];exact ofL_same S [] h.rises h.each
theorem ofL_ok (B:List PairM):∀A:List PairM,Rises A→(∀p ∈ A,okPath p.1=true∧p.2.length≤32)→(ofL A B).2=0→Rises (ofL A B).1∧(∀p ∈ (ofL A B).1,okPath p.1=true∧p.2.length≤32)∧(ofL A B).1.length≤A.length+B.length:=by
 induction B with
 | nil=>intro A h1 h2 _;exact ⟨h1,h2,by simp [ofL]⟩
 | cons p r ih =>
   intro A h1 h2 h;unfold ofL at h ⊢;split at h
   ·simp at h
   ·rename_i hp
    rw [if_neg hp];split at h
    ·simp at h
    ·rename_i hq
     rw [if_neg hq];obtain ⟨a,b,c⟩:=ih (insP p.1 p.2 A) (insP_rises h1) (fun x hx=>by
      rcases (insP_mem h1 x).1 hx with rfl | ⟨y,-⟩
      ·exact ⟨by simpa using fun e=>hp (.inl e),by simp only;omega⟩
      ·exact h2 x y) h
     refine ⟨a,b,?_⟩;have:=insP_len p.1 p.2 A;rw [List.length_cons];omega
theorem ofP_ok {l:List PairM} (h:(ofP l).2=0):PairsOk (ofP l).1:=by
 unfold ofP at h ⊢;split at h
 ·simp at h
 ·rename_i hl
  rw [if_neg hl];obtain ⟨a,b,c⟩:=ofL_ok l [] List.Pairwise.nil sM h;exact ⟨a,by simp at c;omega,b⟩
theorem pairsB_len {S:List PairM} (h:PairsOk S):(pairsB S).length≤3400:=by
 have h1:=pairs_len (l:=S) (a:=33) (b:=32) oM oM fun p hp=>⟨okPath_len (h.each p hp).1,(h.each p hp).2⟩
 have h2:=sizeN_small (n:=S.length) (oN h.len);have h3:=h.len;unfold pairsB;rw [List.length_append,putN_len];have:(33+32+4)*S.length≤69*48:=Nat.mul_le_mul_left _ h3;omega
theorem batT_len {b:BatM} (h:batErr b.index b.epoch b.ops=0) (he:b.epoch≤9223372036854775807):(batT b).length≤310:=by
 obtain ⟨h1,h2,h3,h4,h5⟩:=batErr_zero h;exact batB_len oM oM h4 h5
section
variable {d D:Dk} {k:Kp} {g:Lg} {L0 L1:List (Option Pt)} {rs:List (List UInt8 × Nat)} {R:List (Option Lp)}
structure Good (d:Dk):Prop where
 fuse:d.fuse=-1
 off:d.off=false
 waits:d.waits.length=d.lasts.length
 len:d.lasts.length=500
 pend:d.pend=0
theorem KeptG.far (h:KeptG d k L0 L1) (hf:D.fuse=-1) (ho:D.off=false) (hw:D.waits.length=D.lasts.length) (hl:D.lasts.length=d.lasts.length) (hn:∀i,k.from_≤i→i<k.from_+20→D.now i=d.now i):KeptG D k L0 L1:=by
 have h2:=h.room;exact ⟨hf,ho,hw,by rw [hl];exact h2,slot_same h.s0 fun i hi=>hn _ oM oM,slot_same h.s1 fun i hi=>hn _ oM oM,h.is⟩
theorem LogIs.far (h:LogIs d g rs R) (hf:D.fuse=-1) (ho:D.off=false) (hw:D.waits.length=D.lasts.length) (hl:D.lasts.length=d.lasts.length) (hn:∀i,g.from_≤i→i<g.from_+g.sectors→D.now i=d.now i):LogIs D g rs R:=by
 have h1:=h.len;exact { h with fuse:=hf,off:=ho,waits:=hw,room:=by rw [hl];exact h.room,cells:=⟨fun i hi=>by rw [hn _ oM (by rw [List.length_append,List.length_map] at hi;omega)];exact h.cells.cell i hi,h.cells.ok⟩ }
theorem KeptG.put_ (h:KeptG d k L0 L1) (t:List UInt8) (ht:t.length≤400) (hs:k.seen+1<18446744073709551616) :
 ∃D L0' L1',putK d k t=(D,k.put t,0)∧KeptG D (k.put t) L0' L1'∧D.lasts.length=d.lasts.length∧D.pend=0∧∀i,i<d.lasts.length→(i<k.from_∨k.from_+20≤i)→D.now i=d.now i:=by
 have e64:(2:Nat) ^ (8*8)=18446744073709551616:=dC;have hat:=h.at_;have hroom:=h.room;have hall:allOf t.length≤9:=by unfold allOf;omega
 have hok:=cutL_ok t (k.seen+1) oM oM ht;have hcl:=cutL_len t (k.seen+1);have hml:((cutL t (k.seen+1)).map Pt.sec).length=allOf t.length:=by rw [List.length_map,hcl]
 have hsz:∀q ∈ (cutL t (k.seen+1)).map Pt.sec,q.size=64:=by
  intro q hq;obtain ⟨p,hp,rfl⟩:=List.mem_map.1 hq;exact sec_size p (hok p hp)
 obtain ⟨A,hA⟩:=eqx (k.from_+(1 - k.at_)*10);have hAl:A+allOf t.length≤d.lasts.length:=oM;obtain ⟨f1,f2,f3,f4⟩:=writeB_free h.fuse h.off h.waits A _ hsz (allOf t.length) oM hAl;have hfs:=writeB_same d A ((cutL t (k.seen+1)).map Pt.sec) h.waits (allOf t.length);have hput:putK d k t=((writeB d A ((cutL t (k.seen+1)).map Pt.sec) (allOf t.length)).1.flush,k.put t,0):=by
  unfold putK;rw [h.broken,if_neg sM,if_neg oM,if_neg oM,hA,writeN_B _ _ _ _ oM,if_neg (by rw [f1];simp),Dk.sync_free f2 f3,if_neg sM]
  rfl
 generalize hV:(writeB d A ((cutL t (k.seen+1)).map Pt.sec) (allOf t.length)).1=V at *;have hVl:V.flush.lasts.length=d.lasts.length:=by
  show ((List.range _).map _).length=_;rw [List.length_map,List.length_range,hfs.1]
 have hVw:V.flush.waits.length=d.lasts.length:=by
  show (List.map _ _).length=_;rw [List.length_map,hfs.2.1];exact h.waits
 have hnow:∀i,i<d.lasts.length→V.flush.now i=if A≤i∧i<A+allOf t.length then ((cutL t (k.seen+1)).map Pt.sec).getD (i - A) ByteArray.empty else d.now i:=by
  intro i hi;rw [Dk.flush_now _ _ (by rw [hfs.1];exact hi),f4]
 obtain ⟨k',L0',L1',m1,m2,m3,m4,m5⟩:=h.mix (d2:=V.flush) t ht hs f2 f3 (by rw [hVw,hVl]) hVl (fun i hi=>by
  rw [hA,hnow i hi];by_cases c:A≤i∧i<A+allOf t.length
  ·rw [if_pos c];exact .inr ⟨c.1,c.2,rfl⟩
  ·rw [if_neg c];exact .inl rfl)
 have hk':=m5 (fun i hi=>by rw [hA,hnow _ oM,if_pos oM,Nat.add_sub_cancel_left]);subst hk';exact ⟨V.flush,L0',L1',hput,m1,hVl,Dk.flush_pend _,fun i hi ho=>by rw [hnow i hi,if_neg oM]⟩
end
theorem slotN_le {t:List UInt8} (h:t.length≤4400):slotN t≤80:=by unfold slotN;omega
theorem pieceN_len (t:List UInt8) (i:Nat):(pieceN t i).length≤56:=by unfold pieceN;rw [List.length_take];omega
theorem slotBody_len (t:List UInt8) (i:Nat):(slotBody t i).length=60:=by
 have:=pieceN_len t i;unfold slotBody;simp only [List.length_cons,List.length_append,List.length_replicate];omega
theorem slotSecs_len (t:List UInt8):(slotSecs t).length=slotN t:=by unfold slotSecs;rw [List.length_map,List.length_range]
theorem slotSecs_get (t:List UInt8) (i:Nat) (h:i<slotN t):(slotSecs t).getD i ByteArray.empty=str (closeL (slotBody t i)):=by
 unfold slotSecs;rw [List.getD_eq_getElem?_getD,List.getElem?_map,List.getElem?_range h];rfl
theorem look_slot (t : List UInt8) (i : Nat) (h1 : 1 ≤ slotN t) (h2:slotN t≤80):lookL (str (closeL (slotBody t i))).data.toList=(slotBody t i,1):=by
 rw [str_list]
 refine lookL_closeL _ (slotBody_len t i) (fun e => ?_) (by have:=sumN_lt (slotBody t i);have e2:(2:Nat) ^ (8*4)=4294967296:=dC
                                                            omega)
 have h:=congrArg (fun l:List UInt8=>l.getD 1 0) e;have h3:UInt8.ofNat (slotN t)=0:=h;have h4:=congrArg UInt8.toNat h3;simp at h4
 omega
theorem slotSecs_size (t:List UInt8):∀q ∈ slotSecs t,q.size=64:=by
 intro q hq;obtain ⟨i,-,rfl⟩:=List.mem_map.1 hq;rw [str_size,closeL,List.length_append,slotBody_len,leB_len]
def slotHas (d:Dk) (slot:Nat) (t:List UInt8):Prop:=∀i,i<slotN t→d.now (placeN slot+i)=str (closeL (slotBody t i))
theorem writeSlotD_ok {d:Dk} (h:Good d) (slot:Nat) (t:List UInt8) (hs:1≤slot∧slot≤2) (ht:slotN t≤80) :
 ∃D,writeSlotD d slot t=(D,0)∧Good D∧slotHas D slot t∧∀i,i<500→(i<placeN slot∨placeN slot+slotN t≤i)→D.now i=d.now i:=by
 have hl:=h.len;have hp:placeN slot+80≤500:=by unfold placeN;omega
 have hsl:=slotSecs_len t;obtain ⟨f1,f2,f3,f4⟩:=writeB_free h.fuse h.off h.waits (placeN slot) (slotSecs t) (slotSecs_size t) (slotN t) oM oM;have hfs:=writeB_same d (placeN slot) (slotSecs t) h.waits (slotN t);have hw:writeSlotD d slot t=((writeB d (placeN slot) (slotSecs t) (slotN t)).1.flush,0):=by
  unfold writeSlotD;rw [if_neg oM,if_neg (by rw [f1];simp),Dk.sync_free f2 f3]
 generalize (writeB d (placeN slot) (slotSecs t) (slotN t)).1=V at *;have hVl:V.flush.lasts.length=d.lasts.length:=by
  show ((List.range _).map _).length=_;rw [List.length_map,List.length_range,hfs.1]
 have hVw:V.flush.waits.length=d.lasts.length:=by
  show (List.map _ _).length=_;rw [List.length_map,hfs.2.1];exact h.waits
 have hnow:∀i,i<d.lasts.length→V.flush.now i=if placeN slot≤i∧i<placeN slot+slotN t then (slotSecs t).getD (i - placeN slot) ByteArray.empty else d.now i:=by
  intro i hi;rw [Dk.flush_now _ _ (by rw [hfs.1];exact hi),f4]
 refine ⟨_,hw,⟨f2,f3,by rw [hVw,hVl],by rw [hVl,hl],Dk.flush_pend _⟩,fun i hi=>?_,fun i hi ho=>?_⟩
 ·rw [hnow _ oM,if_pos oM,Nat.add_sub_cancel_left,slotSecs_get t i hi]
 ·rw [hnow i oM,if_neg oM]
def SlotSec (b:ByteArray):Prop:=b=zeros64∨∃t j,1≤slotN t∧slotN t≤80∧j<slotN t∧b=str (closeL (slotBody t j))
theorem SlotSec.look {b:ByteArray} (h:SlotSec b):(lookL b.data.toList).2≠2:=by
 rcases h with rfl | ⟨t,j,h1,h2,-,rfl⟩
 ·decide +kernel
 ·rw [look_slot t j h1 h2]
  simp
def metaM0:MetaM:=⟨0,0,0,[],[]⟩
def stM0:StM:=⟨metaM0,0,0,0,1,0,0⟩
structure VDk (d:Dk) (k:Kp) (g:Lg) (s:StM) (S0:List PairM) (rows:List BatM) (c:Nat):Prop where
 good:Good d
 kept:∃L0 L1,KeptG d k L0 L1
 kfrom:k.from_=0
 kseen:k.seen≤c
 text:(k.gen=0∧s=stM0)∨(0<k.gen∧∃t,Sealed s.key sSecret s.m.secret t∧k.text=stB s t)
 right:rightM s.m=true
 place:PlaceIs s.at_ s.epoch
 slots:s.slot≤2
 log:∃rs R,LogIs d g rs R∧∀p,some p ∈ (rowOf g.epoch 0 rs).map some++R→p.epoch≤s.log
 gplace:g.from_=20∧g.sectors=320∧g.epoch=s.log
 gsalt:g.salt≤c
 gused:g.used≤12*rows.length
 glen:g.l.length=rows.length
 recs:∀i (h:i<g.l.length) (h2:i<rows.length),Sealed s.key sLog (batT rows[i]) (g.l[i]).data.toList
 many:rows.length≤24
 slot:(s.slot=0∧S0=[]∧s.at_=0∧s.epoch=0)∨(1≤s.slot∧∃t,Sealed s.key sMap (pairsB S0) t∧slotHas d s.slot t)
 pairs:PairsOk S0
 sound:∀i,i<160→SlotSec (d.now (340+i))
 logs:s.log≤c+1
 keys:s.key≤c
 boots:s.boot≤c
theorem stB_len {s:StM} {t:List UInt8} (h:rightM s.m=true) (hp:PlaceIs s.at_ s.epoch) (h4:s.slot≤2) (hl:s.log≤1000000) (hk:s.key≤1000000) (hb:s.boot≤1000000) (hi:s.m.seen≤9223372036854775807∧s.m.grant≤9223372036854775807) (ht:t.length≤120):(stB s t).length≤400:=by
 unfold rightM at h;simp only [Bool.and_eq_true,Bool.or_eq_true,decide_eq_true_eq] at h;obtain ⟨hm,h5,h6,h7,h8,h9⟩:=h;obtain ⟨p1,p2,p3,p4⟩:=hp;have hml:s.m.mounts.length≤4∧∀m ∈ s.m.mounts,m.name.length≤8:=by
  rcases hm with e | e
  ·rw [e];simp
  ·unfold okMounts at e
   simp only [Bool.and_eq_true,decide_eq_true_eq] at e;refine ⟨e.2.2,?_⟩;have:∀(l a:List MtM),mtsR a l=true→∀m ∈ l,m.name.length≤8:=by
    intro l;induction l with
    | nil=>simp
    | cons x r ih =>
      intro a ha m hm;unfold mtsR at ha;simp only [Bool.and_eq_true] at ha;rcases List.mem_cons.1 hm with rfl | hm
      ·have:=ha.1.1
       unfold okName at this;simp only [Bool.and_eq_true,decide_eq_true_eq] at this;exact this.1.2
      ·exact ih _ ha.2 m hm
   exact this _ _ e.1
 have hmb:(s.m.mounts.flatMap mtB).length≤11*s.m.mounts.length:=by
  generalize s.m.mounts=l at hml;have h8:=hml.2;clear hml;induction l with
  | nil=>simp
  | cons x r ih =>
    have:=ih fun m hm=>h8 m (by simp [hm])
    have hx:=h8 x sM;have hs:=sizeN_small (n:=x.name.length) oM;have hx2:(mtB x).length≤11:=by
     unfold mtB;rw [List.length_append,textN_len];simp only [List.length_cons,List.length_nil];omega
    rw [List.flatMap_cons,List.length_append,List.length_cons];omega
 have q1:=size_u64 (n:=1) oM;have q2:=size_u64 (n:=s.m.role.toNat) oM;have q3:=size_u64 (n:=s.m.seen.toNat) oM;have q4:=size_u64 (n:=s.m.grant.toNat) oM;have q5:=size_u64 (n:=s.at_.toNat) oM;have q6:=size_u64 (n:=s.epoch.toNat) oM;have q7:=size_u64 (n:=s.slot) oM;have q8:=size_u64 (n:=s.key) oM;have q9:=size_u64 (n:=s.log) oM;have q10:=size_u64 (n:=s.boot) oM;have q11:=size_u64 (n:=s.m.mounts.length) oM;have q12:=sizeN_small (n:=t.length) oM;unfold stB;simp only [List.length_append,putN_len,textN_len];omega
section
variable {d:Dk} {k:Kp} {g:Lg} {s:StM} {S0:List PairM} {rows:List BatM} {c:Nat}
theorem VDk.log_is (h:VDk d k g s S0 rows c) {D:Dk} {g':Lg} {rs':List (List UInt8 × Nat)} {R':List (Option Lp)} {rows':List BatM} (hl:LogIs D g' rs' R') (hlen:D.lasts.length=d.lasts.length) (hp:D.pend=0)
 (hg:g'.from_=g.from_∧g'.sectors=g.sectors∧g'.epoch=g.epoch) (hs:g'.salt≤c+1) (hep:∀p,some p ∈ (rowOf g'.epoch 0 rs').map some++R'→p.epoch≤s.log) (hu:g'.used≤12*rows'.length) (hgl:g'.l.length=rows'.length)
 (hrec:∀i (_:i<g'.l.length) (_:i<rows'.length),Sealed s.key sLog (batT rows'[i]) (g'.l[i]).data.toList) (hm:rows'.length≤24) (hn:∀i,i<d.lasts.length→(i<20∨340≤i)→D.now i=d.now i):VDk D k g' s S0 rows' (c+1):=by
 obtain ⟨L0,L1,hk⟩:=h.kept;obtain ⟨g1,g2,g3⟩:=h.gplace;have hgd:=h.good;have hlen2:=hgd.len;refine ⟨⟨hl.fuse,hl.off,hl.waits,hlen.trans hlen2,hp⟩,⟨L0,L1,hk.far hl.fuse hl.off hl.waits hlen fun i h1 h2=>hn i (oN h.kfrom) (.inl (oN h.kfrom))⟩,h.kfrom,by have:=h.kseen;omega,h.text,h.right,h.place,h.slots,⟨_,_,hl,hep⟩,⟨hg.1.trans g1,hg.2.1.trans g2,hg.2.2.trans g3⟩,hs,hu,hgl,hrec,hm,?_,h.pairs,fun i hi=>?_,by have:=h.logs;omega,by have:=h.keys;omega,by have:=h.boots;omega⟩
 ·rcases h.slot with e | ⟨e1,u,e2,e3⟩
  ·exact .inl e
  ·refine .inr ⟨e1,u,e2,fun i hi=>?_⟩
   have hul2:=(e2.len (oN (pairsB_len h.pairs))).1;have:=pairsB_len h.pairs;have hn2:slotN u≤80:=slotN_le oM;have h2:=h.slots;rw [hn _ (by unfold placeN;omega) (.inr (by unfold placeN;omega))];exact e3 i hi
 ·rw [hn _ oM (.inr oM)]
  exact h.sound i hi
theorem snoc_recs {g g':Lg} {s:StM} {rows:List BatM} {b:BatM} {t:List UInt8} (hgl:g.l.length=rows.length) (e:g'.l=g.l++[str t]) (hr:∀i (_:i<g.l.length) (_:i<rows.length),Sealed s.key sLog (batT rows[i]) (g.l[i]).data.toList) (ht:Sealed s.key sLog (batT b) t) :
 ∀i (_:i<g'.l.length) (_:i<(rows++[b]).length),Sealed s.key sLog (batT (rows++[b])[i]) (g'.l[i]).data.toList:=by
 intro i h1 h2;by_cases hi:i<rows.length
 ·have e1:g'.l[i]=g.l[i]'oM:=by simp only [e];rw [List.getElem_append_left oM]
  rw [e1,List.getElem_append_left hi];exact hr i _ hi
 ·have hi2:i=rows.length:=by rw [List.length_append,List.length_singleton] at h2;omega
  subst hi2;have e1:g'.l[rows.length]=str t:=by simp only [e];rw [List.getElem_append_right oM];simp [hgl]
  rw [e1,str_list,List.getElem_append_right oM];simpa using ht
theorem VDk.add (h:VDk d k g s S0 rows c) (hc:c<100000) (b:BatM) (hb:batErr b.index b.epoch b.ops=0) (he:b.epoch≤9223372036854775807) (hr:rows.length<24) {t:List UInt8} (ht:Sealed s.key sLog (batT b) t) :
 ∃D,addG d g (str t)=(D,g.added (str t),0)∧VDk D k (g.added (str t)) s S0 (rows++[b]) (c+1):=by
 obtain ⟨rs,R,hl,hep⟩:=h.log;obtain ⟨g1,g2,g3⟩:=h.gplace;have hbl:=batT_len hb he;have htl:=(ht.len oM).1;have hul:=hl.used_le;have hu:=h.gused;have hsz:(str t).size=t.length:=str_size t;have hpo:partsOf (str t).size≤12:=by rw [hsz];unfold partsOf;omega
 have hsa:=h.gsalt;obtain ⟨q1,q2,q3,q4,q5⟩:=add_is hl (str t) oM oM oM;refine ⟨_,q1,h.log_is q2 q3 q4 ⟨rfl,rfl,rfl⟩ (by show g.salt+1≤c+1;omega) ?_ ?_ ?_ (snoc_recs h.glen rfl h.recs ht) (by rw [List.length_append,List.length_singleton];omega) fun i hi ho=>q5 i hi oM⟩
 ·intro p hp
  have hrow:rowOf g.epoch 0 (rs++[((str t).data.toList,g.salt+1)])=rowOf g.epoch 0 rs++cutG (str t).data.toList g.epoch (g.salt+1) g.last:=by
   rw [rowOf_snoc,← hl.last]
  have hp':some p ∈ (rowOf g.epoch 0 rs++cutG (str t).data.toList g.epoch (g.salt+1) g.last).map some++R.drop (partsOf (str t).size):=by rw [← hrow];exact hp
  rcases List.mem_append.1 hp' with e | e
  ·obtain ⟨q,hq,e⟩:=List.mem_map.1 e
   injection e with e;subst e;rcases List.mem_append.1 hq with e | e
   ·exact hep q (List.mem_append_left _ (List.mem_map.2 ⟨q,e,rfl⟩))
   ·obtain ⟨i,hi,rfl⟩:=List.mem_iff_getElem.1 e
    have:=(cutG_get _ _ _ _ i hi).1;omega
  ·exact hep p (List.mem_append_right _ (List.mem_of_mem_drop e))
 ·show g.used+partsOf (str t).size≤_
  rw [List.length_append,List.length_singleton];omega
 ·show (g.l++[str t]).length=_
  rw [List.length_append,List.length_append,h.glen];rfl
theorem VDk.put_is (h:VDk d k g s S0 rows c) (s':StM) (h1:s'.at_=s.at_) (h2:s'.epoch=s.epoch) (h3:s'.slot=s.slot) (h4:s'.log=s.log) (h5:s.key≤s'.key) (h5b:s'.key≤c+1) (h6:s'.boot≤c+1) (h7:rightM s'.m=true)
 {D:Dk} {k':Kp} {L0' L1':List (Option Pt)} (ht:(k'.gen=0∧s'=stM0)∨(0<k'.gen∧∃t,Sealed s'.key sSecret s'.m.secret t∧k'.text=stB s' t)) (hf:k'.from_=0) (hse:k'.seen≤c+1) (q2:KeptG D k' L0' L1') (q3:D.lasts.length=d.lasts.length) (q4:D.pend=0)
 (q5:∀i,i<d.lasts.length→(i<k.from_∨k.from_+20≤i)→D.now i=d.now i):VDk D k' g s' S0 rows (c+1):=by
 obtain ⟨rs,R,hl,hep⟩:=h.log;obtain ⟨g1,g2,g3⟩:=h.gplace;have hpl:PlaceIs s'.at_ s'.epoch:=by rw [h1,h2];exact h.place
 have hlo:=h.logs;have hkf:=h.kfrom;have hlen:=h.good.len;refine ⟨⟨q2.fuse,q2.off,q2.waits,q3.trans hlen,q4⟩,⟨L0',L1',q2⟩,hf,hse,ht,h7,hpl,by rw [h3];exact h.slots,⟨rs,R,hl.far q2.fuse q2.off q2.waits q3 fun i a b=>q5 i oM (.inr oM),by rw [h4];exact hep⟩,by rw [h4];exact h.gplace,by have:=h.gsalt;omega,h.gused,h.glen,fun i a b=>(h.recs i a b).mono h5,h.many,?_,h.pairs,fun i hi=>?_,oM,h5b,h6⟩
 ·rw [h3,h1,h2]
  rcases h.slot with e | ⟨e1,u,e2,e3⟩
  ·exact .inl e
  ·refine .inr ⟨e1,u,e2.mono h5,fun i hi=>?_⟩
   have hul2:=(e2.len (oN (pairsB_len h.pairs))).1;have:=pairsB_len h.pairs;have hn:slotN u≤80:=slotN_le oM;have h2:=h.slots;rw [q5 _ (by unfold placeN;omega) (.inr (by unfold placeN;omega))];exact e3 i hi
 ·rw [q5 _ oM (.inr oM)]
  exact h.sound i hi
theorem rightM_secret {m:MetaM} (h:rightM m=true):m.secret.length≤64:=by
 unfold rightM at h;simp only [Bool.and_eq_true,decide_eq_true_eq] at h;exact h.2.2.2.2.2
theorem VDk.put_len (h:VDk d k g s S0 rows c) (hc:c<100000) (s':StM) (h1:s'.at_=s.at_) (h2:s'.epoch=s.epoch) (h3:s'.slot=s.slot) (h4:s'.log=s.log) (h5b:s'.key≤c+1) (h6:s'.boot≤c+1) (h7:rightM s'.m=true)
 (h8:s'.m.seen≤9223372036854775807∧s'.m.grant≤9223372036854775807) {t:List UInt8} (ht:Sealed s'.key sSecret s'.m.secret t):(stB s' t).length≤400:=by
 have hpl:PlaceIs s'.at_ s'.epoch:=by rw [h1,h2];exact h.place
 have hsec:=rightM_secret h7;have htl:=(ht.len oM).1;have hlo:=h.logs;exact stB_len (t:=t) h7 hpl (by rw [h3];exact h.slots) oM oM oM h8 oM
theorem VDk.put (h:VDk d k g s S0 rows c) (hc:c<100000) (s':StM) (h1:s'.at_=s.at_) (h2:s'.epoch=s.epoch) (h3:s'.slot=s.slot) (h4:s'.log=s.log) (h5:s.key≤s'.key) (h5b:s'.key≤c+1) (h6:s'.boot≤c+1) (h7:rightM s'.m=true)
 (h8:s'.m.seen≤9223372036854775807∧s'.m.grant≤9223372036854775807) {t:List UInt8} (ht:Sealed s'.key sSecret s'.m.secret t) :
 ∃D,putK d k (stB s' t)=(D,k.put (stB s' t),0)∧VDk D (k.put (stB s' t)) g s' S0 rows (c+1):=by
 obtain ⟨L0,L1,hk⟩:=h.kept;have hse:=h.kseen;obtain ⟨D,L0',L1',q1,q2,q3,q4,q5⟩:=hk.put_ (stB s' t) (h.put_len hc s' h1 h2 h3 h4 h5b h6 h7 h8 ht) oM;exact ⟨D,q1,h.put_is s' h1 h2 h3 h4 h5 h5b h6 h7 (.inr ⟨by show 0<k.seen+1;omega,t,ht,rfl⟩) h.kfrom (by show k.seen+1≤c+1;omega) q2 q3 q4 q5⟩
theorem VDk.slot_is (h:VDk d k g s S0 rows c) (t:List UInt8) (h1:1≤slotN t) (h2:slotN t≤80) {D:Dk} (q2:Good D)
 (q4:∀i,i<500→D.now i=d.now i∨(placeN (1+s.slot % 2)≤i∧i<placeN (1+s.slot % 2)+slotN t∧D.now i=(slotSecs t).getD (i - placeN (1+s.slot % 2)) ByteArray.empty)):VDk D k g s S0 rows c:=by
 obtain ⟨L0,L1,hk⟩:=h.kept;obtain ⟨rs,R,hl,hep⟩:=h.log;obtain ⟨g1,g2,g3⟩:=h.gplace;have hkf:=h.kfrom;have hlen:=h.good.len;have hs2:=h.slots;have hpl:placeN (1+s.slot % 2)=340+(s.slot % 2)*80:=by unfold placeN;omega
 have q5:∀i,i<500→(i<placeN (1+s.slot % 2)∨placeN (1+s.slot % 2)+slotN t≤i)→D.now i=d.now i:=fun i hi ho=>by
  rcases q4 i hi with e | e
  ·exact e
  ·omega
 refine ⟨q2,⟨L0,L1,hk.far q2.fuse q2.off q2.waits (by rw [q2.len,hlen]) fun i a b=>q5 i oM (.inl oM)⟩,hkf,h.kseen,h.text,h.right,h.place,h.slots,⟨rs,R,hl.far q2.fuse q2.off q2.waits (by rw [q2.len,hlen]) fun i a b=>q5 i oM (.inl oM),hep⟩,h.gplace,h.gsalt,h.gused,h.glen,h.recs,h.many,?_,h.pairs,fun i hi=>?_,h.logs,h.keys,h.boots⟩
 ·rcases h.slot with e | ⟨e1,u,e2,e3⟩
  ·exact .inl e
  ·refine .inr ⟨e1,u,e2,fun i hi=>?_⟩
   have hul2:=(e2.len (oN (pairsB_len h.pairs))).1;have:=pairsB_len h.pairs;have hn:slotN u≤80:=slotN_le oM;rw [q5 _ (by unfold placeN;omega) (by rw [hpl];unfold placeN;omega)];exact e3 i hi
 ·rcases q4 (340+i) oM with e | ⟨a,b,e⟩
  ·rw [e]
   exact h.sound i hi
  ·rw [e,slotSecs_get t _ oM]
   exact .inr ⟨t,_,h1,h2,oM,rfl⟩
theorem VDk.slotw (h:VDk d k g s S0 rows c) (t:List UInt8) (h1:1≤slotN t) (h2:slotN t≤80) :
 ∃D,writeSlotD d (1+s.slot % 2) t=(D,0)∧VDk D k g s S0 rows c∧slotHas D (1+s.slot % 2) t:=by
 have hs2:=h.slots;obtain ⟨D,q1,q2,q3,q4⟩:=writeSlotD_ok h.good (1+s.slot % 2) t oM h2;refine ⟨D,q1,h.slot_is t h1 h2 q2 fun i hi=>?_,q3⟩;by_cases hi2:i<placeN (1+s.slot % 2)∨placeN (1+s.slot % 2)+slotN t≤i
 ·exact .inl (q4 i hi hi2)
 ·refine .inr ⟨oM,oM,?_⟩
  have e:i=placeN (1+s.slot % 2)+(i - placeN (1+s.slot % 2)):=oM;rw [slotSecs_get t _ oM,← q3 _ oM,← e]
theorem VDk.whole_is (h:VDk d k g s S0 rows c) (hc:c<100000) (m:MetaM) (x:List PairM) (a e:Int) (hm:rightM m=true) (hx:PairsOk x) (hp:PlaceIs a e) {u t:List UInt8} (hu:Sealed s.key sMap (pairsB x) u) (hus:slotHas d (1+s.slot % 2) u) (ht:Sealed s.key sSecret m.secret t)
 {D:Dk} {L0' L1':List (Option Pt)} (q2:KeptG D (k.put (stB (s.whole m a e) t)) L0' L1') (q3:D.lasts.length=d.lasts.length) (q4:D.pend=0) (q5:∀i,i<d.lasts.length→(i<k.from_∨k.from_+20≤i)→D.now i=d.now i) :
 ∃g',openG D 20 320 (s.log+1)=some g'∧VDk D (k.put (stB (s.whole m a e) t)) g' (s.whole m a e) x [] (c+1):=by
 obtain ⟨rs,R,hl,hep⟩:=h.log;obtain ⟨g1,g2,g3⟩:=h.gplace;have hse:=h.kseen;have hlo:=h.logs;have hke:=h.keys;have hbo:=h.boots;have hs2:=h.slots;have hgs:=h.gsalt;have hkf:=h.kfrom;have hlen:=h.good.len;have hl2:=hl.far q2.fuse q2.off q2.waits q3 fun i a b=>q5 i oM (.inr oM)
 have hl3:=hl2.other (s.log+1) oM oM (firstG_stop fun p hp=>.inl (oN (hep p (rowL_mem hp))));have hop:=hl3.opens;simp only [g1,g2] at hop;have hul2:=(hu.len (oN (pairsB_len hx))).1;have hxl:=pairsB_len hx;have hn:slotN u≤80:=slotN_le oM;refine ⟨_,hop,⟨⟨q2.fuse,q2.off,q2.waits,q3.trans hlen,q4⟩,⟨L0',L1',q2⟩,hkf,by show k.seen+1≤c+1;omega,.inr ⟨by show 0<k.seen+1;omega,t,ht,rfl⟩,hm,hp,by show 1+s.slot % 2≤2;omega,⟨[],_,by rw [g1,g2] at hl3;exact hl3,fun p hp=>by have:=hep p (by simpa [rowOf] using hp);show p.epoch≤s.log+1;omega⟩,⟨rfl,rfl,rfl⟩,by show g.salt≤c+1;omega,sM,rfl,fun i a b=>absurd b sM,sM,.inr ⟨by show 1≤1+s.slot % 2;omega,u,hu,fun i hi=>?_⟩,hx,fun i hi=>?_,by show s.log+1≤_;omega,by show s.key≤_;omega,by show s.boot≤_;omega⟩⟩
 ·have hpl:placeN (1+s.slot % 2)=340+(s.slot % 2)*80:=by unfold placeN;omega
  show D.now (placeN (1+s.slot % 2)+i)=_;rw [q5 _ oM (.inr oM)];exact hus i hi
 ·rw [q5 _ oM (.inr oM)]
  exact h.sound i hi
theorem VDk.whole_len (h:VDk d k g s S0 rows c) (hc:c<100000) (m:MetaM) (a e:Int) (hm:rightM m=true) (hm8:m.seen≤9223372036854775807∧m.grant≤9223372036854775807) (hp:PlaceIs a e) {t:List UInt8} (ht:Sealed s.key sSecret m.secret t):(stB (s.whole m a e) t).length≤400:=by
 have hsec:=rightM_secret hm;have htl:=(ht.len oM).1;have hlo:=h.logs;have hke:=h.keys;have hbo:=h.boots;exact stB_len (s:=s.whole m a e) (t:=t) hm hp (by show 1+s.slot % 2≤2;omega) (by show s.log+1≤_;omega) (by show s.key≤_;omega) (by show s.boot≤_;omega) hm8 oM
theorem VDk.whole (h:VDk d k g s S0 rows c) (hc:c<100000) (m:MetaM) (x:List PairM) (a e:Int) (hm:rightM m=true) (hm8:m.seen≤9223372036854775807∧m.grant≤9223372036854775807) (hx:PairsOk x) (hp:PlaceIs a e) {u t:List UInt8} (hu:Sealed s.key sMap (pairsB x) u) (hus:slotHas d (1+s.slot % 2) u) (ht:Sealed s.key sSecret m.secret t) :
 ∃D g',putK d k (stB (s.whole m a e) t)=(D,k.put (stB (s.whole m a e) t),0)∧openG D 20 320 (s.log+1)=some g'∧VDk D (k.put (stB (s.whole m a e) t)) g' (s.whole m a e) x [] (c+1):=by
 obtain ⟨L0,L1,hk⟩:=h.kept;have hse:=h.kseen;obtain ⟨D,L0',L1',q1,q2,q3,q4,q5⟩:=hk.put_ (stB (s.whole m a e) t) (h.whole_len hc m a e hm hm8 hp ht) oM;obtain ⟨g',r1,r2⟩:=h.whole_is hc m x a e hm hx hp hu hus ht q2 q3 q4 q5;exact ⟨D,g',q1,r1,r2⟩
end
end
end Go.Proofs.YtbhjgfibhegddaaGreat
