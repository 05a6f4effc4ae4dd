/-
  Parts of the proof of VaultKeys: LogAdd, LogE.
-/
import Derived.Test.YtbhjgfibhegddaaGreatQVaultKeys10
import Derived.Deep.Light
import Derived.Outline
import Derived.WalkSpells
set_option maxRecDepth 100000
set_option maxHeartbeats 16000000
namespace Go.Proofs.YtbhjgfibhegddaaGreat
section
open Go Go.RowKit
structure LogAt (w:World) (p b:Nat) (g:Lg):Prop where
 ex:∃v,Blk w b 199 (g.cells p v)∧Own w 9 1 v g.l.length (strs g.l)
section
variable {w w':World} {p b:Nat} {g:Lg}
end
theorem slice_some (A:Option Addr) (n c:Nat) (w:World) (T:TypeId) (t:TypeId) (hT:Tryz.prog.underlying T=some (.slice t)):(binOp .eql T (.slice A n c) (.slice none 0 0)).run Tryz.prog w=.ok (.bool A.isNone) w :=
 Lib.run_eql_slice_nil w T t A n c 0 0 hT
theorem lnone_c {w:World} {p b:Nat} {g:Lg} (h:LogAt w p b g) :
 Calls Tryz.prog 111 #[.pointer (some ⟨b,0,none⟩)] w fun e w'=>e=.returned (.bool false)∧w=w':=by
 obtain ⟨v,h1,-⟩:=h.ex;have hc:=h1.cells9;clear h h1;go_enter Tryz.func111,Tryz.ntmps111
 go_wp2
 go_ret
 exact ⟨rfl,rfl⟩
theorem room_c {w:World} {p b:Nat} {g:Lg} (h:LogAt w p b g) (hu:g.used≤g.sectors) (hs:g.sectors≤5000) :
 Calls Tryz.prog 113 #[.pointer (some ⟨b,0,none⟩)] w fun e w'=>e=.returned (.int .i64 ((g.sectors - g.used:Nat):Int))∧w.drew=w':=by
 have HN:=Lib.hid (lnone_c h);obtain ⟨v,h1,-⟩:=h.ex;have hc:=h1.cells9;have hsub:(g.sectors:Int) - (g.used:Int)=((g.sectors - g.used:Nat):Int):=by omega
 have HS:=Lib.hid hsub;have hw:IntKind.i64.wrap ((g.sectors:Int) - (g.used:Int))=(g.sectors:Int) - (g.used:Int):=IntWalk.i64_in _ (by omega);clear h h1 hsub;go_enter Tryz.func113,Tryz.ntmps113
 go_wp2_with (go_at_call 111;refine HN.out.mono ?_;rintro e w' ⟨rfl,rfl⟩);go_region_held3 (fun w'=>w'.cell? ⟨b,2,none⟩=some (.int .i64 (g.sectors:Int))∧w'.cell? ⟨b,5,none⟩=some (.int .i64 (g.used:Int))) (go_keep) (first | fail)
 all_goals go_wp2_with fail
 all_goals
  go_ret
  exact ⟨by rw [← HS.out];rfl,rfl⟩
theorem clone_o {w:World} {v:Value} {l:List ByteArray} (h:Own w 9 1 v l.length (strs l)) (hl:l.length≤5000) :
 Calls Tryz.prog 184 #[v] w fun e w'=>∃v',e=.returned v'∧Own w' 9 1 v' l.length (strs l)∧Upd (fun _=>False) w w'∧(∀q,v'.ownBlock=some q→w.heap.size≤q):=by
 obtain ⟨i0,hi0,hz0,hz1,hz2⟩:=info_parts infoStr;have H:=Lib.hid h;obtain ⟨A,cap,e,h1,h2⟩:=h.shape;subst e;clear h;cases A with
 | none =>
   have hnil:=fun W=>slice_some none l.length cap W 147 _ Tryz.underlying147
   simp only [Option.isNone_none] at hnil;go_enter Tryz.func184,Tryz.ntmps184
   go_wp2_with fail
   go_ret
   refine ⟨_,rfl,?_,Upd.refl _ _,by simp [Value.ownBlock]⟩;rcases H.out.2 with ⟨e,h0⟩ | ⟨g,c,cur,fr,e,_⟩
   ·have hl0:l=[]:=List.eq_nil_of_length_eq_zero h0
    subst hl0;exact Own.nil _ _ _
   ·simp at e
 | some a =>
   have hnil:=fun W=>slice_some (some a) l.length cap W 147 _ Tryz.underlying147
   simp only [Option.isNone_some] at hnil;go_enter Tryz.func184,Tryz.ntmps184
   have hO0:Own (w.alloc (.cells #[] 9)) 9 1 (.slice (some ⟨w.heap.size,0,none⟩) 0 0) 0 []:=⟨by simp,.inr ⟨w.heap.size,0,#[],(0,0),rfl,heap_alloc_new w _,.inl rfl,Nat.le_refl _,by simp,rfl,rfl⟩⟩;have HO0:=Lib.hid hO0;clear hO0
   go_wp2_with (at_builtin
                refine wpList_append_src rfl _ _ _ _ rfl 9 i0 _ 1 16 Tryz.underlying147 hi0 hz0 hz1 hz2 rfl _ 0 _ rfl HO0.out _ l.length (strs l) rfl (Src.of_own Tryz.underlying147 (H.out.alloc _)) (strs_one l) (by unfold maxLen;omega) (by omega) ?_;intro v' w2 hO2 hU2 hl2 hs2;have H2:=h3k hO2 hU2 hl2;clear hO2 hU2 hl2 hs2)
   go_ret
   obtain ⟨hO2,hU2,hl2⟩:=H2.out;refine ⟨v',rfl,by simpa using hO2,((Upd.refl _ w).alloc _).then hU2 (fun b e=>.inr (by have e2:=Option.some.inj (show some w.heap.size=some b from e);omega)),fun q hq=>?_⟩;rcases hl2 with e | e
   ·rw [e] at hq
    have:=Option.some.inj (show some w.heap.size=some q from hq);omega
   ·rw [e] at hq
    have:=Option.some.inj hq;simp at this
    omega
theorem records_c {w:World} {p b:Nat} {g:Lg} (h:LogAt w p b g) (hl:g.l.length≤5000) :
 Calls Tryz.prog 125 #[.pointer (some ⟨b,0,none⟩)] w fun e w'=>∃v',e=.returned v'∧Own w' 9 1 v' g.l.length (strs g.l)∧Upd (fun _=>False) w w'∧(∀q,v'.ownBlock=some q→w.heap.size≤q):=by
 have HN:=Lib.hid (lnone_c h);obtain ⟨v,h1,h2⟩:=h.ex;have hc:=h1.cells9;have HC:=Lib.hid (clone_o h2 hl);clear h h1 h2;go_enter Tryz.func125,Tryz.ntmps125
 go_wp2_with (first
  | (go_at_call 111;refine HN.out.mono ?_;rintro e w' ⟨rfl,rfl⟩)
  | (go_at_call 184;refine HC.out.mono ?_;rintro e w' ⟨v',rfl,h3,h4,h5⟩;have H3:=h3k h3 h4 h5;clear h3 h4 h5))
 go_ret
 exact ⟨_,rfl,H3.out.1,H3.out.2.1,H3.out.2.2⟩
end
section
open Go Go.RowKit
def Lp.sec (p:Lp):ByteArray:=str (closeL p.body)
def writeB (d:Dk) (a:Nat) (l:List ByteArray):Nat→Dk × Int
 | 0=>(d,0)
 | j+1=>if (writeB d a l j).2≠0 then writeB d a l j else (writeB d a l j).1.write ((a+j:Nat):Int) (l.getD j ByteArray.empty)
theorem writeB_stop {d:Dk} {a:Nat} {l:List ByteArray} {j m:Nat} (h:(writeB d a l j).2≠0) (hm:j≤m):writeB d a l m=writeB d a l j:=by
 induction m with
 | zero => obtain rfl:j=0:=by omega
           rfl
 | succ m ih =>
   by_cases e:j=m+1
   ·rw [e]
   ·rw [writeB,ih (by omega),if_pos h]
theorem writeB_same (d:Dk) (a:Nat) (l:List ByteArray) (hl:d.waits.length=d.lasts.length) (j:Nat) :
 (writeB d a l j).1.lasts=d.lasts∧(writeB d a l j).1.waits.length=d.waits.length∧(writeB d a l j).1.pend≤d.pend+j:=by
 induction j with
 | zero=>exact ⟨rfl,rfl,by simp [writeB]⟩
 | succ j ih =>
   rw [writeB];split
   ·exact ⟨ih.1,ih.2.1,by omega⟩
   ·refine ⟨(write_lasts _ _ _).trans ih.1,(write_waits _ _ _).trans ih.2.1,?_⟩
    have h:=write_pend (writeB d a l j).1 ((a+j:Nat):Int) (l.getD j ByteArray.empty) (by rw [ih.2.1,ih.1,hl]);omega
def secsG (g:Lg) (text:List UInt8):List ByteArray:=(cutG text g.epoch (g.salt+1) g.last).map Lp.sec
theorem secsG_len (g:Lg) (text:List UInt8):(secsG g text).length=partsOf text.length:=by rw [secsG,List.length_map,cutG_len]
def wroteG (d:Dk) (g:Lg) (text:List UInt8):Dk × Int:=writeB d (g.from_+g.used) (secsG g text) (partsOf text.length)
def addG (d:Dk) (g:Lg) (s:ByteArray):Dk × Lg × Int :=
 if g.broken then (d,g,11) else if 1024<s.size then (d,g,3) else if g.sectors - g.used<partsOf s.size∨g.salt=18446744073709551615 then (d,g,6) else
 if (wroteG d g s.data.toList).2≠0 then ((wroteG d g s.data.toList).1,{ g with broken:=true },(wroteG d g s.data.toList).2) else
 if (wroteG d g s.data.toList).1.sync.2≠0 then ((wroteG d g s.data.toList).1.sync.1,{ g with broken:=true },(wroteG d g s.data.toList).1.sync.2) else
 ((wroteG d g s.data.toList).1.sync.1,{ g with salt:=g.salt+1,last:=g.salt+1,broken:=false,l:=g.l++[s],used:=g.used+partsOf s.size },0)
structure AddLeft (w w':World) (p b:Nat) (d:Dk) (g:Lg) (F:List Nat) (v:Value):Prop where
 ex:∃F' v',DiskAt w' p d F'∧(∀q ∈ F',q ∈ F∨w.heap.size≤q)∧Blk w' b 199 (g.cells p v')∧Own w' 9 1 v' g.l.length (strs g.l) ∧
  (∀q,v'.ownBlock=some q→v.ownBlock=some q∨w.heap.size≤q)∧(∀q,v'.ownBlock=some q→q ∉ F')
 upd:Upd (fun q=>q=b∨q ∈ F∨v.ownBlock=some q) w w'
structure Adding (w wr:World) (p b:Nat) (d:Dk) (g:Lg) (F F':List Nat) (v pv:Value) (l:List Lp):Prop where
 disk:DiskAt wr p d F'
 sub:∀q ∈ F',q ∈ F∨w.heap.size≤q
 log:Blk wr b 199 (g.cells p v)
 own:Own wr 9 1 v g.l.length (strs g.l)
 old:∀q,v.ownBlock=some q→q<w.heap.size
 sep:∀q,v.ownBlock=some q→q ∉ F'
 upd:Upd (fun q=>q=b∨q ∈ F) w wr
 list:Own wr 204 6 pv l.length (partsG l)
theorem Adding.below {w w1 w2:World} {p b:Nat} {d:Dk} {g:Lg} {F F':List Nat} {v pv:Value} {l:List Lp} (h:Adding w w1 p b d g F F' v pv l) (hb:Below w1.heap.size w1 w2):Adding w w2 p b d g F F' v pv l :=
 ⟨h.disk.below hb,h.sub,h.log.eqb (hb.block _ h.log.lt),h.own.eqb fun q hq=>hb.block q (h.own.lt hq),h.old,h.sep,h.upd.then (Upd.of_below hb (fun _=>False)) (fun _ e=>e.elim),h.list.eqb fun q hq=>hb.block q (h.list.lt hq)⟩
theorem Adding.wrote {w w1 w2:World} {p b:Nat} {d d2:Dk} {g:Lg} {F F' F2:List Nat} {v pv:Value} {l:List Lp} (h:Adding w w1 p b d g F F' v pv l) (hL:Left w1 w2 p d2 F' F2):Adding w w2 p b d2 g F F2 v pv l:=by
 have hs:=h.upd.size;refine ⟨hL.disk,fun q hq=>?_,h.log.upd hL.upd (h.disk.not_mem h.log (by decide) (by decide)),h.own.upd hL.upd h.sep,h.old,fun q hq hq2=>?_,h.upd.then hL.upd (fun q e=>(h.sub q e).imp .inr id),h.list.upd hL.upd fun q hq=>h.disk.not_own h.list (by decide) (by decide) q hq⟩
 ·rcases hL.sub q hq with e | e
  ·exact h.sub q e
  ·exact .inr (by omega)
 ·rcases hL.sub q hq2 with e | e
  ·exact h.sep q hq e
  ·have:=h.old q hq
   omega
theorem Adding.left {w wr:World} {p b:Nat} {d:Dk} {g:Lg} {F F':List Nat} {v pv:Value} {l:List Lp} (h:Adding w wr p b d g F F' v pv l):AddLeft w wr p b d g F v :=
 ⟨⟨F',v,h.disk,h.sub,h.log,h.own,fun _ hq=>.inl hq,h.sep⟩,h.upd.mono (fun _ e=>.inl (e.imp id .inl))⟩
end
section
open Go Go.RowKit
theorem Add_goes {w:World} {p b:Nat} {d:Dk} {F:List Nat} {g:Lg} {v:Value} (hD:DiskAt w p d F) (hB:Blk w b 199 (g.cells p v)) (hO:Own w 9 1 v g.l.length (strs g.l)) (hsep:∀q,v.ownBlock=some q→q ∉ F) (s:ByteArray)
 (hb:g.broken=false) (hs:s.size≤1024) (hr:partsOf s.size≤g.sectors - g.used) (hsalt:g.salt<18446744073709551615) (hf:g.from_≤5000) (hse:g.sectors≤5000) (hu:g.used≤g.sectors) (hgl:g.l.length≤5000) (hep:g.epoch<18446744073709551616) (hla:g.last<18446744073709551616) (hp:d.pend+40<1000000) :
 Calls Tryz.prog 58 #[.pointer (some ⟨b,0,none⟩),.string s] w fun e w'=>e=.returned (.int .i64 (addG d g s).2.2)∧AddLeft w w' p b (addG d g s).1 (addG d g s).2.1 F v:=by
 obtain ⟨i0,hi0,hz0,hz1,hz2⟩:=info_parts infoStr;have hLA:LogAt w p b g:=⟨v,hB,hO⟩;have HNo:=Lib.hid (lnone_c hLA);have HRo:=Lib.hid (room_c hLA hu hse);have hbF:=hD.not_mem hB (by decide) (by decide);have hvb:v.ownBlock≠some b:=hO.ne_blk hB (by decide);have hc:=hB.cells9;have hz8:=hB.frozen 8;have hA:partsOf s.size≤33:=by unfold partsOf;omega
 have hA1:1≤partsOf s.size:=by unfold partsOf;omega
 have hs':¬(1024:Int)<(s.size:Int):=by omega
 have hr':¬((g.sectors - g.used:Nat):Int)<((partsOf s.size:Nat):Int):=by omega
 have hsalt':((g.salt:Int) == 18446744073709551615)=false:=by rw [beq_eq_false_iff_ne];omega
 have HCut:Hid (∀W,Calls Tryz.prog 114 #[.string s,.int .u64 (g.epoch:Int),.int .u64 ((g.salt:Int)+1),.int .u64 (g.last:Int)] W fun e w'=>∃v,e=.returned v∧Own w' 204 6 v (partsOf s.size) (partsG (cutG s.data.toList g.epoch (g.salt+1) g.last))∧Below W.heap.size W w'∧(∀q,v.ownBlock=some q→W.heap.size≤q)):=by
  intro W;have h:=cutG_c s g.epoch (g.salt+1) g.last W (by omega);rw [show ((g.salt+1:Nat):Int)=(g.salt:Int)+1 from by omega] at h;exact h
 have hBb:Blk ((w.setCell ⟨b,8,none⟩ (.bool true)).drew) b 199 ({ g with broken:=true }.cells p v):=by
  have h:=(hB.set_ 8 (.bool true)).drew;simpa [Lg.cells] using h
 have hDb:DiskAt ((w.setCell ⟨b,8,none⟩ (.bool true)).drew) p d F:=(hD.eqb (w':=w.setCell ⟨b,8,none⟩ (.bool true)) fun q hq=>Below.heap_setCell w _ _ q (fun e=>hbF (by have e':q=b:=e;rw [← e'];exact hq))).drew;have hUb:Upd (fun q=>q=b∨q ∈ F) w ((w.setCell ⟨b,8,none⟩ (.bool true)).drew):=((Upd.refl _ w).setCell (p:=⟨b,8,none⟩) (.inl (.inl rfl)) _).drew;have hOb:Own ((w.setCell ⟨b,8,none⟩ (.bool true)).drew) 9 1 v g.l.length (strs g.l):=(hO.far (p:=⟨b,8,none⟩) hvb _).drew;have HB:=h7k hBb hDb hUb hOb hbF hvb hsep;have HV:=Lib.hid (fun q (hq:v.ownBlock=some q)=>hO.lt hq);rw [hb] at hc;have HP:=h8k hb hs hr hsalt hp hB.lt hep hla;clear hD hB hO hsep hLA hbF hvb hBb hDb hUb hOb hb hp;go_enter Tryz.func58,Tryz.ntmps58
 go_wp2_with fail
 refine HNo.out.mono ?_;rintro e w' ⟨rfl,rfl⟩;go_wp2_with fail
 refine (parts_c s _ (by omega)).mono ?_;rintro e w' ⟨rfl,rfl⟩;go_wp2_with fail
 refine HRo.out.mono ?_;rintro e w' ⟨rfl,rfl⟩;go_wp2_with fail
 have hcb:=HB.out.1.cells9;have hsw:IntKind.u64.wrap ((g.salt:Int)+1)=(g.salt:Int)+1:=by
  simp only [IntKind.wrap,IntKind.bits,IntKind.signed];simp
  omega
 have HC0 := Lib.hid hc;clear hc hz8;generalize (w.setCell ⟨b,8,none⟩ (.bool true)).drew=W at *;go_region_held3 (fun w'=>w'.cell? ⟨b,3,none⟩=some (.int .u64 (g.epoch:Int))∧w'.cell? ⟨b,6,none⟩=some (.int .u64 (g.last:Int))∧w'.cell? ⟨b,7,none⟩=some (.int .u64 (g.salt:Int))) (first | go_keep)
  (first | (go_at_call 114
            refine (HCut.out _).mono ?_;rintro e w1 ⟨v1,rfl,hO1,hb1,hl1⟩;obtain ⟨g1,cap1,rfl,hx1,hx2⟩:=hO1.head (by omega);have hb1':Below W.heap.size W w1:=below_of_drew hb1;have hk1:=(HB.out.1.eqb (hb1'.block _ HB.out.1.lt)).cells9;have H1:=h2k hO1 hb1';clear hO1 hb1 hl1 hb1'))
 all_goals
  have hCs:s.data.toList.length=s.size:=by simp
  have hCl:(cutG s.data.toList g.epoch (g.salt+1) g.last).length=partsOf s.size:=by rw [cutG_len,hCs]
  have hAd:Adding w w1 p b d { g with broken:=true } F F v (.slice (some ⟨g1,0,none⟩) (partsOf s.size) cap1) (cutG s.data.toList g.epoch (g.salt+1) g.last):=by
   obtain ⟨hBb,hDb,hUb,hOb,hbF,hvb,hsep⟩:=HB.out;obtain ⟨hO1,hb1⟩:=H1.out;refine ⟨hDb.below hb1,fun q hq=>.inl hq,hBb.eqb (hb1.block _ hBb.lt),hOb.eqb fun q hq=>hb1.block q (hOb.lt hq),HV.out,hsep,hUb.then (Upd.of_below hb1 (fun _=>False)) (fun _ e=>e.elim),?_⟩;rw [hCl];exact hO1
  have HAd:=Lib.hid hAd;clear hAd hcb hk1;go_wp2_with fail
  go_loopw [53] (fun i wr=>∃(j:Nat) (F':List Nat),j≤partsOf s.size∧i=.int .i64 j∧(writeB d (g.from_+g.used) (secsG g s.data.toList) j).2=0∧Adding w wr p b (writeB d (g.from_+g.used) (secsG g s.data.toList) j).1 { g with broken:=true } F F' v (.slice (some ⟨g1,0,none⟩) (partsOf s.size) cap1) (cutG s.data.toList g.epoch (g.salt+1) g.last)) (fun i _=>partsOf s.size - (intOf i).toNat)
  case atStart=>exact ⟨0,F,by omega,rfl,rfl,HAd.out⟩
  case round =>
   obtain ⟨j,F',hj,rfl,he,hL⟩:=hrel;by_cases hlt:j<partsOf s.size
   ·have hjC:j<(cutG s.data.toList g.epoch (g.salt+1) g.last).length:=by omega
    obtain ⟨c0,c1,c2,c3,c4,c5⟩:=cutG_get s.data.toList g.epoch (g.salt+1) g.last j hjC;have hsec:=Lib.hid (fun W=>sector_g (cutG s.data.toList g.epoch (g.salt+1) g.last)[j] W (by rw [c0,c1,c2];have:=HP.out.2.2.2.2.2.2;omega) c5 (by rw [c3];omega) (by rw [c4,hCs];omega));have hLl:=hL.list;rw [hCl] at hLl;have hp0:∀i,i<6→wr.cell? ⟨g1,j*6+i,none⟩=(Lp.cells (cutG s.data.toList g.epoch (g.salt+1) g.last)[j])[i]? := by
     intro i hi;rw [hLl.cellAt (j*6+i) (by omega),partsG_get _ j hjC i hi]
    have hd0:=hp0 0 (by omega);have hd1:=hp0 1 (by omega);have hd2:=hp0 2 (by omega);have hd3:=hp0 3 (by omega);have hd4:=hp0 4 (by omega);have hd5:=hp0 5 (by omega);simp only [Nat.add_zero,Lp.cells,List.getElem?_cons_zero,List.getElem?_cons_succ] at hd0 hd1 hd2 hd3 hd4 hd5;have hws:=writeB_same d (g.from_+g.used) (secsG g s.data.toList) HB.out.2.1.wf.len j;have hst:writeB d (g.from_+g.used) (secsG g s.data.toList) (j+1)=(writeB d (g.from_+g.used) (secsG g s.data.toList) j).1.write ((g.from_+g.used+j:Nat):Int) (cutG s.data.toList g.epoch (g.salt+1) g.last)[j].sec:=by
     rw [writeB,if_neg (by rw [he];simp),List.getD_eq_getElem?_getD,secsG,List.getElem?_map,List.getElem?_eq_getElem hjC]
     rfl
    have HW:=h4k hws hst he hL;clear hp0 hLl hws hst he hL c0 c1 c2 c3 c4 c5;generalize (cutG s.data.toList g.epoch (g.salt+1) g.last)[j]=pt at *;have hs1:IntKind.i64.wrap ((g.from_:Int)+(g.used:Int))=(g.from_:Int)+(g.used:Int):=IntWalk.i64_in _ (by omega);have hs2:IntKind.i64.wrap ((g.from_:Int)+(g.used:Int)+(j:Int))=(g.from_:Int)+(g.used:Int)+(j:Int):=IntWalk.i64_in _ (by omega);go_wp2_with (first
     | (refine wpList_store_all rfl 204 _ _ rfl wr.heap.size #[.int .u64 pt.epoch,.int .u64 pt.salt,.int .u64 pt.ahead,.int .i64 pt.number,.int .i64 pt.all,.string (str pt.text)] rfl rfl _ _ (Blk.new wr 204 #[.int .u64 0,.int .u64 0,.int .u64 0,.int .i64 0,.int .i64 0,.string ⟨#[]⟩]) rfl (by simp [Value.oneCell']) (by kernel_rfl) ?_
        intro w4 hB4 hU4 hs4;have hb4:Below wr.heap.size wr w4:=⟨hU4.os,hU4.tape,hU4.output,by simp at hs4;omega,fun q hq=>(hU4.block q (by simp;omega) (by omega)).trans (Below.heap_alloc wr _ q hq)⟩;have HP4:=h3k (HW.out.2.2.2.below hb4) hB4 hb4;have hc4:=hB4.cells6;have hk4:=HP4.out.1.log.cells9;clear hB4 hU4 hs4 hb4 hd0 hd1 hd2 hd3 hd4 hd5))
    have HSP:=Lib.hid (show ((g.from_:Int)+(g.used:Int)+(j:Int))=((g.from_+g.used+j:Nat):Int) by omega);go_region_held3 (fun w'=>w'.cell? ⟨b,0,none⟩=some (.pointer (some ⟨p,0,none⟩))∧w'.cell? ⟨b,1,none⟩=some (.int .i64 (g.from_:Int))∧w'.cell? ⟨b,5,none⟩=some (.int .i64 (g.used:Int))∧w'.cell? ⟨wr.heap.size,0,none⟩=some (.int .u64 pt.epoch)∧w'.cell? ⟨wr.heap.size,1,none⟩=some (.int .u64 pt.salt)∧w'.cell? ⟨wr.heap.size,2,none⟩=some (.int .u64 pt.ahead)∧w'.cell? ⟨wr.heap.size,3,none⟩=some (.int .i64 pt.number)∧w'.cell? ⟨wr.heap.size,4,none⟩=some (.int .i64 pt.all)∧w'.cell? ⟨wr.heap.size,5,none⟩=some (.string (str pt.text)))
     (first | go_keep | (refine ⟨?_,?_,?_,?_,?_,?_,?_,?_,?_⟩<;>simp [*]))
     (first
       | (go_at_call 116
          refine (hsec.out _).mono ?_;rintro e w5 ⟨rfl,hb5⟩;have hb5':Below w4.heap.size w4 w5:=below_of_drew hb5;have HP5:=h3k (HP4.out.1.below hb5') (HP4.out.2.1.eqb (hb5'.block _ HP4.out.2.1.lt)) (HP4.out.2.2.trans (hb5'.mono HP4.out.2.2.size));have hk5:=HP5.out.1.log.cells9;have hc5:=HP5.out.2.1.cells6;clear hb5 hb5')
       | (go_at_call 115
          rw [HSP.out];refine (write_c HP5.out.1.disk _ _ (by have:=HW.out.1.2.2;have:=HP.out.2.2.2.2.1;omega)).mono ?_;rintro e w6 ⟨rfl,F2,hW6⟩;have HP6:=h2k (HP5.out.1.wrote hW6) hW6;have hk6:=HP6.out.1.log.cells9;have hc6:=(HP5.out.2.1.upd hW6.upd (fun e=>by have h1:=HW.out.2.2.2.disk.lt _ e;omega)).cells6;clear hW6))
    all_goals
     have hst':(writeB d (g.from_+g.used) (secsG g s.data.toList) j).1.write ((g.from_+g.used+j:Nat):Int) (str (closeL pt.body))=writeB d (g.from_+g.used) (secsG g s.data.toList) (j+1):=HW.out.2.1.symm;have hst2:=hst';rw [← HSP.out] at hst2;rw [hst'] at HP6;rw [hst2];generalize hre:writeB d (g.from_+g.used) (secsG g s.data.toList) (j+1)=r at HP6 ⊢;have HRE:=Lib.hid hre;clear hst' hst2 hre hk6 hc6 hk5 hc5 hc4 hk4;by_cases hr:r.2=0
     ·rw [hr]
      go_wp2
      go_roundw
      case rel=>exact ⟨j+1,F2,by omega,by go_num,by rw [HRE.out];exact hr,by rw [HRE.out];exact HP6.out.1⟩
      case measure=>simp [intOf];omega
     ·have hr':(r.2 != 0)=true:=by rw [bne_iff_ne];exact hr
      have HR:=Lib.hid hr;clear hr;have hk:addG d g s=(r.1,{ g with broken:=true },r.2):=by
       have hns:wroteG d g s.data.toList=r:=by
        rw [wroteG,hCs,writeB_stop (j:=j+1) (by rw [HRE.out];exact HR.out) (by omega),HRE.out]
       unfold addG;rw [HP.out.1,if_neg (by simp),if_neg (by omega),if_neg (by have:=HP.out.2.2;omega),hns,if_pos HR.out]
      have HK:=Lib.hid hk;clear hk;go_wp2
      go_ret
      rw [HK.out];exact ⟨rfl,HP6.out.1.left⟩
   ·obtain rfl:j=partsOf s.size:=by omega
    have hSy:=sync_c hL.disk;generalize hd1:writeB d (g.from_+g.used) (secsG g s.data.toList) (partsOf s.size)=r at *;have hput:addG d g s=if r.1.sync.2≠0 then (r.1.sync.1,{ g with broken:=true },r.1.sync.2) else (r.1.sync.1,{ g with salt:=g.salt+1,last:=g.salt+1,broken:=false,l:=g.l++[s],used:=g.used+partsOf s.size },0):=by
     have hns:wroteG d g s.data.toList=r:=by rw [wroteG,hCs,hd1]
     unfold addG;rw [HP.out.1,if_neg (by simp),if_neg (by omega),if_neg (by have:=HP.out.2.2;omega),hns,if_neg (by rw [he];simp)]
    have HL:=h2k hL he;have hk0:=hL.log.cells9;clear hL he hd1 hCl hCs HAd;by_cases hr:r.1.sync.2=0
    ·rw [if_neg (by rw [hr];simp)] at hput
     rw [hr] at hSy;have HSy:=Lib.hid hSy;have HPu:=Lib.hid hput;clear hSy hput hr;go_wp2_with (go_at_call 117;refine HSy.out.mono ?_;rintro e w7 ⟨rfl,F3,hS⟩;have HP7:=Lib.hid (HL.out.1.wrote hS);have hk7:=HP7.out.log.cells9;have hf6:=HP7.out.log.frozen 6;have hf7:=HP7.out.log.frozen 7;have hf8:=HP7.out.log.frozen 8;clear hS);have hnb:=HP7.out.disk.not_mem HP7.out.log (by decide) (by decide);have hvb:=HP7.out.own.ne_blk HP7.out.log (by decide);have hB8:Blk (((w7.setCell ⟨b,7,none⟩ (.int .u64 ((g.salt:Int)+1))).setCell ⟨b,6,none⟩ (.int .u64 ((g.salt:Int)+1))).setCell ⟨b,8,none⟩ (.bool false)) b 199 ({ g with salt:=g.salt+1,last:=g.salt+1,broken:=false }.cells p v):=by
      have h:=((HP7.out.log.set_ 7 (.int .u64 ((g.salt:Int)+1))).set_ 6 (.int .u64 ((g.salt:Int)+1))).set_ 8 (.bool false);simp only [Lg.cells,List.setIfInBounds_toArray,List.set_cons_zero,List.set_cons_succ] at h;exact h
     have hD8:DiskAt (((w7.setCell ⟨b,7,none⟩ (.int .u64 ((g.salt:Int)+1))).setCell ⟨b,6,none⟩ (.int .u64 ((g.salt:Int)+1))).setCell ⟨b,8,none⟩ (.bool false)) p r.1.sync.1 F3:=HP7.out.disk.eqb fun q hq=>by
      have hne:q≠b:=fun e=>hnb (e ▸ hq)
      rw [Below.heap_setCell _ _ _ q hne,Below.heap_setCell _ _ _ q hne,Below.heap_setCell _ _ _ q hne]
     have hO8:Own (((w7.setCell ⟨b,7,none⟩ (.int .u64 ((g.salt:Int)+1))).setCell ⟨b,6,none⟩ (.int .u64 ((g.salt:Int)+1))).setCell ⟨b,8,none⟩ (.bool false)) 9 1 v g.l.length (strs g.l):=((HP7.out.own.far (p:=⟨b,7,none⟩) hvb _).far (p:=⟨b,6,none⟩) hvb _).far (p:=⟨b,8,none⟩) hvb _;have hU8:Upd (fun q=>q=b∨q ∈ F) w (((w7.setCell ⟨b,7,none⟩ (.int .u64 ((g.salt:Int)+1))).setCell ⟨b,6,none⟩ (.int .u64 ((g.salt:Int)+1))).setCell ⟨b,8,none⟩ (.bool false)):=((HP7.out.upd.setCell (p:=⟨b,7,none⟩) (.inl (.inl rfl)) _).setCell (p:=⟨b,6,none⟩) (.inl (.inl rfl)) _).setCell (p:=⟨b,8,none⟩) (.inl (.inl rfl)) _;have H8:=h7k hB8 hD8 hO8 hU8 hvb HP7.out.sub HP7.out.sep;clear hnb hvb hD8 hO8 hU8 hk7 hf6 hf7 hf8 hk0;generalize (((w7.setCell ⟨b,7,none⟩ (.int .u64 ((g.salt:Int)+1))).setCell ⟨b,6,none⟩ (.int .u64 ((g.salt:Int)+1))).setCell ⟨b,8,none⟩ (.bool false))=W8 at *;have hsu:IntKind.i64.wrap ((g.used:Int)+((partsOf s.size:Nat):Int))=(g.used:Int)+((partsOf s.size:Nat):Int):=IntWalk.i64_in _ (by omega);have hS:∀w',Upd (fun q=>v.ownBlock=some q) W8 w'→w'.cell? ⟨b,4,none⟩=some v∧w'.cell? ⟨b,5,none⟩=some (.int .i64 (g.used:Int)):=fun w' hu=>by
      have h:=H8.out.1.upd hu H8.out.2.2.2.2.1;exact ⟨h.cell 4,h.cell 5⟩
     have HSS:=Lib.hid hS;clear hS hB8;refine wp_region_noPanic ?_;refine wp_region_T (S:=fun w'=>w'.cell? ⟨b,4,none⟩=some v∧w'.cell? ⟨b,5,none⟩=some (.int .i64 (g.used:Int))) (T:=fun i=>Nat.beq 18 i || Nat.beq i 21) (by kernel_rfl) ?_;have hS0:=HSS.out _ (Upd.refl _ W8).drew;refine wpAnyT_takeW (i:=0) (v:=.pointer (some ⟨b,0,none⟩)) rfl (by kernel_rfl) (by kernel_rfl) (by kernel_rfl) (by kernel_rfl) (fun _ _ _ h=>h) (takes_yield rfl (Or.inl ⟨by rfl,?_⟩)) (by first | exact Or.inr (by assumption) | exact Or.inl (by kernel_rfl)) ?_
     ·intro w' hSw;go_simp
     simp only [tkS];refine wpAnyT_takeW (i:=1) (v:=.pointer (some ⟨b,0,none⟩)) rfl (by kernel_rfl) (by kernel_rfl) (by kernel_rfl) (by kernel_rfl) (fun _ _ _ h=>h) (takes_yield rfl (Or.inl ⟨by rfl,?_⟩)) (by first | exact Or.inr (by assumption) | exact Or.inl (by kernel_rfl)) ?_
     ·intro w' hSw;go_simp
     simp only [tkS];refine wpAnyT_takeW (i:=2) (v:=.pointer (some ⟨b,0,none⟩)) rfl (by kernel_rfl) (by kernel_rfl) (by kernel_rfl) (by kernel_rfl) (fun _ _ _ h=>h) (takes_yield rfl (Or.inl ⟨by rfl,?_⟩)) (by first | exact Or.inr (by assumption) | exact Or.inl (by kernel_rfl)) ?_
     ·intro w' hSw;go_simp
     simp only [tkS];refine wpAnyT_takeW (i:=3) (v:=.pointer (some ⟨b,0,none⟩)) rfl (by kernel_rfl) (by kernel_rfl) (by kernel_rfl) (by kernel_rfl) (fun _ _ _ h=>h) (takes_yield rfl (Or.inl ⟨by rfl,?_⟩)) (by first | exact Or.inr (by assumption) | exact Or.inl (by kernel_rfl)) ?_
     ·intro w' hSw;go_simp
     simp only [tkS];refine wpAnyT_takeW (i:=4) (v:=.pointer (some ⟨b,4,none⟩)) rfl (by kernel_rfl) (by kernel_rfl) (by kernel_rfl) (by kernel_rfl) (fun _ _ _ h=>h) (takes_yield rfl (Or.inl ⟨by rfl,?_⟩)) (by first | exact Or.inr (by assumption) | exact Or.inl (by kernel_rfl)) ?_
     ·intro w' hSw;go_simp
     simp only [tkS];refine wpAnyT_take (i:=5) (v:=v) rfl (by kernel_rfl) (by kernel_rfl) (by kernel_rfl) (by kernel_rfl) (fun _ _ _ h=>h) (takes_yield rfl (Or.inl ⟨by rfl,?_⟩)) (by assumption) (by kernel_rfl) ?_
     ·intro w' hSw;go_split_ands;go_simp
     simp only [tkS];refine wpAnyT_takeW (i:=6) (v:=.string s) rfl (by kernel_rfl) (by kernel_rfl) (by kernel_rfl) (by kernel_rfl) (fun _ _ _ h=>h) (takes_yield rfl (Or.inl ⟨by rfl,?_⟩)) (by first | exact Or.inr (by assumption) | exact Or.inl (by kernel_rfl)) ?_
     ·intro w' hSw;go_simp
     simp only [tkS];refine wpAnyT_takeW (i:=9) (v:=.pointer (some ⟨b,0,none⟩)) rfl (by kernel_rfl) (by kernel_rfl) (by kernel_rfl) (by kernel_rfl) (fun _ _ _ h=>h) (takes_yield rfl (Or.inl ⟨by rfl,?_⟩)) (by first | exact Or.inr (by assumption) | exact Or.inl (by kernel_rfl)) ?_
     ·intro w' hSw;go_simp
     simp only [tkS];refine wpAnyT_takeW (i:=10) (v:=.pointer (some ⟨b,0,none⟩)) rfl (by kernel_rfl) (by kernel_rfl) (by kernel_rfl) (by kernel_rfl) (fun _ _ _ h=>h) (takes_yield rfl (Or.inl ⟨by rfl,?_⟩)) (by first | exact Or.inr (by assumption) | exact Or.inl (by kernel_rfl)) ?_
     ·intro w' hSw;go_simp
     simp only [tkS];refine wpAnyT_takeW (i:=11) (v:=.pointer (some ⟨b,5,none⟩)) rfl (by kernel_rfl) (by kernel_rfl) (by kernel_rfl) (by kernel_rfl) (fun _ _ _ h=>h) (takes_yield rfl (Or.inl ⟨by rfl,?_⟩)) (by first | exact Or.inr (by assumption) | exact Or.inl (by kernel_rfl)) ?_
     ·intro w' hSw;go_simp
     simp only [tkS];refine wpAnyT_take (i:=12) (v:=.int .i64 (g.used:Int)) rfl (by kernel_rfl) (by kernel_rfl) (by kernel_rfl) (by kernel_rfl) (fun _ _ _ h=>h) (takes_yield rfl (Or.inl ⟨by rfl,?_⟩)) (by assumption) (by kernel_rfl) ?_
     ·intro w' hSw;go_split_ands;go_simp
     simp only [tkS];refine wpAnyT_takeW (i:=13) (v:=.string s) rfl (by kernel_rfl) (by kernel_rfl) (by kernel_rfl) (by kernel_rfl) (fun _ _ _ h=>h) (takes_yield rfl (Or.inl ⟨by rfl,?_⟩)) (by first | exact Or.inr (by assumption) | exact Or.inl (by kernel_rfl)) ?_
     ·intro w' hSw;go_simp
     simp only [tkS];refine wpAnyT_one (i:=7) (by kernel_rfl) rfl (fun K hK=>?_);go_simp
     refine hK.out _ _ ?_ ?_
     ·exact HSS.out _ ((Upd.refl _ W8).alloc _).drew
     refine wpAnyT_one (i:=8) (by kernel_rfl) rfl (fun K hK=>?_);refine step_append_src (by rfl) _ _ _ _ (by rfl) 9 i0 _ 1 16 Tryz.underlying147 hi0 hz0 hz1 hz2 rfl v _ _ (by rfl) ((H8.out.2.2.1.alloc _).drew) _ 1 [.string s] (by rfl) (Src.of_new_drew Tryz.underlying147 (.string s)) (by simp [Value.oneCell']) (by unfold maxLen;omega) (by omega) ?_;intro v' w2 hown2 hU2 hloc2 hs2;obtain ⟨gq,cq,rfl,-,-⟩:=hown2.head (by omega);have hU3:Upd (fun q=>v.ownBlock=some q) W8 w2:=((Upd.refl _ W8).alloc _).drew.then hU2 (fun _ e=>.inl e);have hB3:=H8.out.1.upd hU3 H8.out.2.2.2.2.1;have hk2:=hB3.cells9;have hf4:=hB3.frozen 4;have hf5:=hB3.frozen 5;have HX:=h5k hown2 hU3 hloc2 hs2 hB3;clear hown2 hU2 hloc2 hs2 hU3 hB3;refine hK.out _ _ (HSS.out _ HX.out.2.1) ?_;clear hK;have hS2:=HSS.out _ HX.out.2.1;refine wpAnyT_take (i:=14) (v:=.int .i64 ((partsOf s.size:Nat):Int)) rfl (by kernel_rfl) (by kernel_rfl) (by kernel_rfl) (by kernel_rfl) (fun _ _ _ h=>h) (takes_call rfl 112 #[.string s] (by rfl) (fun w' _=>?_) (fun w' hS=>parts_c s w' (by omega))) (by assumption) (by kernel_rfl) ?_
     ·go_simp
     simp only [tkS];refine wpAnyT_takeW (i:=15) (v:=.int .i64 ((g.used:Int)+((partsOf s.size:Nat):Int))) rfl (by kernel_rfl) (by kernel_rfl) (by kernel_rfl) (by kernel_rfl) (fun _ _ _ h=>h) (takes_yield rfl (Or.inl ⟨by rfl,?_⟩)) (by first | exact Or.inr (by assumption) | exact Or.inl (by kernel_rfl)) ?_
     ·intro w' hSw;go_simp
     simp only [tkS];refine wpAnyT_takeW (i:=16) (v:=.pointer (some ⟨b,0,none⟩)) rfl (by kernel_rfl) (by kernel_rfl) (by kernel_rfl) (by kernel_rfl) (fun _ _ _ h=>h) (takes_yield rfl (Or.inl ⟨by rfl,?_⟩)) (by first | exact Or.inr (by assumption) | exact Or.inl (by kernel_rfl)) ?_
     ·intro w' hSw;go_simp
     simp only [tkS];refine wpAnyT_takeW (i:=17) (v:=.pointer (some ⟨b,4,none⟩)) rfl (by kernel_rfl) (by kernel_rfl) (by kernel_rfl) (by kernel_rfl) (fun _ _ _ h=>h) (takes_yield rfl (Or.inl ⟨by rfl,?_⟩)) (by first | exact Or.inr (by assumption) | exact Or.inl (by kernel_rfl)) ?_
     ·intro w' hSw;go_simp
     simp only [tkS];refine wpAnyT_oneT (i:=18) (by kernel_rfl) rfl (by kernel_rfl) (fun K hK=>?_);go_simp
     refine hK.out _ _ ?_;clear hK hS2;refine wpAnyT_takeW (i:=19) (v:=.pointer (some ⟨b,0,none⟩)) rfl (by kernel_rfl) (by kernel_rfl) (by kernel_rfl) (by kernel_rfl) (fun _ _ _ h=>h) (takes_yield rfl (Or.inl ⟨by rfl,?_⟩)) (by first | exact Or.inr (by assumption) | exact Or.inl (by kernel_rfl)) ?_
     ·intro w' hSw;go_simp
     simp only [tkS];refine wpAnyT_takeW (i:=20) (v:=.pointer (some ⟨b,5,none⟩)) rfl (by kernel_rfl) (by kernel_rfl) (by kernel_rfl) (by kernel_rfl) (fun _ _ _ h=>h) (takes_yield rfl (Or.inl ⟨by rfl,?_⟩)) (by first | exact Or.inr (by assumption) | exact Or.inl (by kernel_rfl)) ?_
     ·intro w' hSw;go_simp
     simp only [tkS];refine wpAnyT_oneT (i:=21) (by kernel_rfl) rfl (by kernel_rfl) (fun K hK=>?_);go_simp
     refine hK.out _ _ ?_;clear hK;refine wpAnyT_done (by kernel_rfl) ?_ _;refine NoPanic.normal ?_;go_wp2_with fail
     go_ret
     rw [HPu.out];refine ⟨rfl,?_⟩;obtain ⟨hB8,hD8,hO8,hU8,hv8,hsub8,hsep8⟩:=H8.out;obtain ⟨hown2,hU3,hloc2,hs2,hB3⟩:=HX.out;have hD2:DiskAt w2 p r.1.sync.1 F3:=hD8.upd hU3 fun k hk e=>hsep8 k e hk
     have hnb2:=hD2.not_mem hB3 (by decide) (by decide);have hvb2:=hown2.ne_blk hB3 (by decide);have hz8:=hU8.size;have hloc:∀q,(Value.slice (some ⟨gq,0,none⟩) (g.l.length+1) cq).ownBlock=some q→v.ownBlock=some q∨W8.heap.size≤q:=fun q hq=>by
      rcases hloc2 with e | e
      ·rw [e] at hq;exact .inl hq
      ·rw [e] at hq
       cases hq
       exact .inr ((((Upd.refl (fun _=>False) W8).alloc _).drew).size)
     clear H8 HX HSS HPu HSy HL hk2 hf4 hf5;refine ⟨⟨F3,.slice (some ⟨gq,0,none⟩) (g.l.length+1) cq,?_,hsub8,?_,?_,fun q hq=>?_,fun q hq hF=>?_⟩,?_⟩
     ·exact hD2.eqb fun q hq=>by
       have hne:q≠b:=fun e=>hnb2 (e ▸ hq)
       rw [Below.heap_setCell _ _ _ q hne,Below.heap_setCell _ _ _ q hne]
     ·have h:=(hB3.set_ 4 (.slice (some ⟨gq,0,none⟩) (g.l.length+1) cq)).set_ 5 (.int .i64 ((g.used:Int)+((partsOf s.size:Nat):Int)))
      simp only [Lg.cells,List.setIfInBounds_toArray,List.set_cons_zero,List.set_cons_succ] at h;simp only [Lg.cells,Int.natCast_add];exact h
     ·have h:=(hown2.far (p:=⟨b,4,none⟩) hvb2 (.slice (some ⟨gq,0,none⟩) (g.l.length+1) cq)).far (p:=⟨b,5,none⟩) hvb2 (.int .i64 ((g.used:Int)+((partsOf s.size:Nat):Int)))
      simp only [List.length_append,List.length_cons,List.length_nil,strs,List.map_append,List.map_cons,List.map_nil] at h ⊢;exact h
     ·exact (hloc q hq).imp id (fun h=>by omega)
     ·rcases hloc q hq with h | h
      ·exact hsep8 q h hF
      ·have:=hD8.lt q hF
       omega
     ·exact ((((hU8.mono (G:=fun q=>q=b∨q ∈ F∨v.ownBlock=some q) (fun _ e=>.inl (e.imp id .inl))).then hU3 (fun q e=>.inl (.inr (.inr e)))).setCell (p:=⟨b,4,none⟩) (.inl (.inl rfl)) _).setCell (p:=⟨b,5,none⟩) (.inl (.inl rfl)) _)
    ·rw [if_pos hr] at hput
     have hr':(r.1.sync.2 != 0)=true:=by rw [bne_iff_ne];exact hr
     have HSy:=Lib.hid hSy;have HPu:=Lib.hid hput;clear hSy hput hr;go_wp2_with (go_at_call 117;refine HSy.out.mono ?_;rintro e w7 ⟨rfl,F3,hS⟩;have HP7:=Lib.hid (HL.out.1.wrote hS);clear hS);go_ret
     rw [HPu.out];exact ⟨rfl,HP7.out.left⟩
end
section
open Go Go.RowKit
theorem Add_refused {w:World} {p b:Nat} {g:Lg} (hL:LogAt w p b g) (s:ByteArray) (hu:g.used≤g.sectors) (hse:g.sectors≤5000)
 (h:g.broken=true∨1024<s.size∨g.sectors - g.used<partsOf s.size∨g.salt=18446744073709551615) :
 Calls Tryz.prog 58 #[.pointer (some ⟨b,0,none⟩),.string s] w fun e w'=>e=.returned (.int .i64 (if g.broken then 11 else if 1024<s.size then 3 else 6))∧Upd (fun _=>False) w w':=by
 have HNo:=Lib.hid (lnone_c hL);have HRo:=Lib.hid (room_c hL hu hse);obtain ⟨v,hB,hO⟩:=hL.ex;have hc:=hB.cells9;clear hB hO hL;cases hb:g.broken
 ·rw [hb] at hc
  by_cases h4:1024<s.size
  ·rw [if_neg (by simp),if_pos h4]
   have h4':(1024:Int)<(s.size:Int):=by omega
   clear h hb;go_enter Tryz.func58,Tryz.ntmps58
   go_wp2_with fail
   refine HNo.out.mono ?_;rintro e w' ⟨rfl,rfl⟩;go_wp2
   go_ret
   exact ⟨rfl,Upd.refl _ _⟩
  ·rw [if_neg (by simp),if_neg h4]
   have h5:g.sectors - g.used<partsOf s.size∨g.salt=18446744073709551615:=by
    rcases h with h | h | h
    ·rw [hb] at h;simp at h
    ·omega
    ·exact h
   have h4':¬(1024:Int)<(s.size:Int):=by omega
   have HC0:=Lib.hid hc;have H5:=Lib.hid h5;clear h hb h5;by_cases h6:g.sectors - g.used<partsOf s.size
   ·have h6':((g.sectors - g.used:Nat):Int)<((partsOf s.size:Nat):Int):=by omega
    go_enter Tryz.func58,Tryz.ntmps58
    go_wp2_with fail
    refine HNo.out.mono ?_;rintro e w' ⟨rfl,rfl⟩;go_wp2_with fail
    refine (parts_c s _ (by omega)).mono ?_;rintro e w' ⟨rfl,rfl⟩;go_wp2_with fail
    refine HRo.out.mono ?_;rintro e w' ⟨rfl,rfl⟩;go_wp2
    go_ret
    exact ⟨rfl,(Upd.refl _ _).drew⟩
   ·have h6':¬((g.sectors - g.used:Nat):Int)<((partsOf s.size:Nat):Int):=by omega
    have h7:g.salt=18446744073709551615:=H5.out.resolve_left h6;rw [h7] at hc;clear HC0 H5 h7;go_enter Tryz.func58,Tryz.ntmps58
    go_wp2_with fail
    refine HNo.out.mono ?_;rintro e w' ⟨rfl,rfl⟩;go_wp2_with fail
    refine (parts_c s _ (by omega)).mono ?_;rintro e w' ⟨rfl,rfl⟩;go_wp2_with fail
    refine HRo.out.mono ?_;rintro e w' ⟨rfl,rfl⟩;go_wp2
    go_ret
    exact ⟨rfl,(Upd.refl _ _).drew⟩
 ·rw [hb] at hc
  rw [if_pos rfl];clear h hb;go_enter Tryz.func58,Tryz.ntmps58
  go_wp2_with fail
  refine HNo.out.mono ?_;rintro e w' ⟨rfl,rfl⟩;go_wp2
  go_ret
  exact ⟨rfl,Upd.refl _ _⟩
end
section
open Go Go.RowKit
def byteAt (s:ByteArray) (i:Nat):Nat:=(s.data.toList.getD i 0).toNat
def numAt (s:ByteArray) (i:Int):Int:=(leN ((s.data.toList.drop (8*i.toNat)).take 8):Int)
theorem readAt_any (s:ByteArray) (i:Int) (q:Nat) (w:World) (hs:s.size=60) (h0:0≤i) (hi:i<3) (hc:w.cell? ⟨q,0,none⟩=some (.string s)) :
 Calls Tryz.prog 206 #[.int .i64 i,.pointer (some ⟨q,0,none⟩)] w fun e w'=>e=.returned (.int .u64 (numAt s i))∧w=w':=by
 obtain ⟨i,rfl⟩:=Int.eq_ofNat_of_zero_le h0;exact readAt_c s i q w hs (by omega) hc
theorem read_test32 (l:List UInt8) (m n:Nat) (hm:m=60) (hl:l.length=60) (hn:n≤32):((Lib.countByte (List.take (m - (28+n)) (List.drop (28+n) l)) 0:Int) == 32 - (n:Int))=decide (List.drop (28+n) l=List.replicate (32 - n) 0):=by
 have hd:(List.drop (28+n) l).length=32 - n:=by simp [hl];omega
 rw [List.take_of_length_le (by omega)];have h:=count_zero (List.drop (28+n) l);rw [hd] at h;by_cases hz:List.drop (28+n) l=List.replicate (32 - n) 0
 ·rw [decide_eq_true hz,h.2 hz,beq_iff_eq];omega
 ·rw [decide_eq_false hz,beq_eq_false_iff_ne]
  intro hh;exact hz (h.1 (by omega))
theorem read_g (s:ByteArray) (w:World) (hs:s.size=60) :
 Calls Tryz.prog 159 #[.string s] w fun e w'=>e=.returned (.tuple #[(readG s.data.toList).1.val,.bool (readG s.data.toList).2])∧Below w.heap.size w w':=by
 have h24:(24:Int)<s.size:=by omega
 have h25:(25:Int)<s.size:=by omega
 have h26:(26:Int)<s.size:=by omega
 have h27:(27:Int)<s.size:=by omega
 have g24:24<s.size:=by omega
 have g25:25<s.size:=by omega
 have g26:26<s.size:=by omega
 have g27:27<s.size:=by omega
 have e24:=Lib.hid (getD_c s 24 g24);have e25:=Lib.hid (getD_c s 25 g25);have e26:=Lib.hid (getD_c s 26 g26);have e27:=Lib.hid (getD_c s 27 g27);have HS60:=Lib.hid hs;clear hs;go_enter Tryz.func159,Tryz.ntmps159
 go_upto_region 2 with fail
 have hB0:Blk ((w.alloc (.cells #[.string s] 9)).alloc (.cells #[.int .u64 0,.int .u64 0,.int .u64 0,.int .i64 0,.int .i64 0,.string ⟨#[]⟩] 204)) w.heap.size 9 #[.string s]:=(Blk.new w _ _).alloc _;have hB1:Blk ((w.alloc (.cells #[.string s] 9)).alloc (.cells #[.int .u64 0,.int .u64 0,.int .u64 0,.int .i64 0,.int .i64 0,.string ⟨#[]⟩] 204)) (w.heap.size+1) 204 #[.int .u64 0,.int .u64 0,.int .u64 0,.int .i64 0,.int .i64 0,.string ⟨#[]⟩]:=by
  have h:=Blk.new (w.alloc (.cells #[.string s] 9)) 204 #[.int .u64 0,.int .u64 0,.int .u64 0,.int .i64 0,.int .i64 0,.string ⟨#[]⟩];simpa using h
 have hbw:Below w.heap.size w ((w.alloc (.cells #[.string s] 9)).alloc (.cells #[.int .u64 0,.int .u64 0,.int .u64 0,.int .i64 0,.int .i64 0,.string ⟨#[]⟩] 204)):=((Below.refl _ w).alloc (Nat.le_refl _) _).alloc (by simp) _;have hsz:((w.alloc (.cells #[.string s] 9)).alloc (.cells #[.int .u64 0,.int .u64 0,.int .u64 0,.int .i64 0,.int .i64 0,.string ⟨#[]⟩] 204)).heap.size=w.heap.size+2:=by simp
 generalize ((w.alloc (.cells #[.string s] 9)).alloc (.cells #[.int .u64 0,.int .u64 0,.int .u64 0,.int .i64 0,.int .i64 0,.string ⟨#[]⟩] 204))=W at *;have hc0:=hB0.cells1;have hne:=World.new_ne W ⟨w.heap.size,0,none⟩ hc0;have HCA:=Lib.hid (fun W' (hu:Upd (fun _=>False) W W')=>(hB0.upd hu (fun e=>e)).cells1);have HW:=h4k hB0 hB1 hbw hsz;clear hB0 hB1 hbw hsz;generalize hq0:w.heap.size=q0 at *;have HQ:=Lib.hid hq0;clear hq0;go_cut [5] (fun s5 wx=>s5=.pointer (some ⟨W.heap.size,0,none⟩)∧Upd (fun _=>False) W wx∧Blk wx W.heap.size 204 #[.int .u64 (numAt s 0),.int .u64 (numAt s 1),.int .u64 (numAt s 2),.int .i64 (byteAt s 24:Int),.int .i64 (byteAt s 25:Int),.string ⟨#[]⟩])
 case first =>
  refine wp_region_noPanic ?_;refine wp_region_held_drew (S:=fun w'=>w'.cell? ⟨q0,0,none⟩=some (.string s)) (by kernel_rfl) (HCA.out _ (Upd.refl _ _).drew) (fun hHeld=>?_);refine wpAnyH_take (i:=0) (v:=.func (.func 206) #[] #[.pointer (some ⟨q0,0,none⟩)]) rfl (by kernel_rfl) (by kernel_rfl) (by kernel_rfl) (fun _ _ _ h=>h) (Or.inl ⟨by rfl,?_⟩) (by assumption) ?_
  ·intro w' hSw;go_split_ands;go_simp
  simp only [tkS];refine wpAnyH_take (i:=2) (v:=.func (.func 206) #[] #[.pointer (some ⟨q0,0,none⟩)]) rfl (by kernel_rfl) (by kernel_rfl) (by kernel_rfl) (fun _ _ _ h=>h) (Or.inl ⟨by rfl,?_⟩) (by assumption) ?_
  ·intro w' hSw;go_split_ands;go_simp
  simp only [tkS];refine wpAnyH_take (i:=4) (v:=.func (.func 206) #[] #[.pointer (some ⟨q0,0,none⟩)]) rfl (by kernel_rfl) (by kernel_rfl) (by kernel_rfl) (fun _ _ _ h=>h) (Or.inl ⟨by rfl,?_⟩) (by assumption) ?_
  ·intro w' hSw;go_split_ands;go_simp
  simp only [tkS];refine wpAnyH_take (i:=6) (v:=.string s) rfl (by kernel_rfl) (by kernel_rfl) (by kernel_rfl) (fun _ _ _ h=>h) (Or.inl ⟨by rfl,?_⟩) (by assumption) ?_
  ·intro w' hSw;go_split_ands;go_simp
  simp only [tkS];refine wpAnyH_take (i:=9) (v:=.string s) rfl (by kernel_rfl) (by kernel_rfl) (by kernel_rfl) (fun _ _ _ h=>h) (Or.inl ⟨by rfl,?_⟩) (by assumption) ?_
  ·intro w' hSw;go_split_ands;go_simp
  simp only [tkS];refine wpAnyH_take (i:=7) (v:=.int .u8 (s[24].toNat:Int)) rfl (by kernel_rfl) (by kernel_rfl) (by kernel_rfl) (fun _ _ _ h=>h) (Or.inl ⟨by rfl,?_⟩) (by assumption) ?_
  ·intro w' hSw;go_split_ands;go_simp
  simp only [tkS];refine wpAnyH_take (i:=10) (v:=.int .u8 (s[25].toNat:Int)) rfl (by kernel_rfl) (by kernel_rfl) (by kernel_rfl) (fun _ _ _ h=>h) (Or.inl ⟨by rfl,?_⟩) (by assumption) ?_
  ·intro w' hSw;go_split_ands;go_simp
  simp only [tkS];refine wpAnyH_take (i:=8) (v:=.int .i64 (IntKind.i64.wrap (s[24].toNat:Int))) rfl (by kernel_rfl) (by kernel_rfl) (by kernel_rfl) (fun _ _ _ h=>h) (Or.inl ⟨by rfl,?_⟩) (by assumption) ?_
  ·intro w' hSw;go_split_ands;go_simp
  simp only [tkS];refine wpAnyH_take (i:=11) (v:=.int .i64 (IntKind.i64.wrap (s[25].toNat:Int))) rfl (by kernel_rfl) (by kernel_rfl) (by kernel_rfl) (fun _ _ _ h=>h) (Or.inl ⟨by rfl,?_⟩) (by assumption) ?_
  ·intro w' hSw;go_split_ands;go_simp
  simp only [tkS];refine wpAnyH_takeC (i:=1) (v:=.int .u64 (numAt s 0)) rfl (by kernel_rfl) (by kernel_rfl) (by kernel_rfl) (fun _ _ _ h=>h) (takes_call rfl 206 #[.int .i64 0,.pointer (some ⟨q0,0,none⟩)] (by rfl) (fun w' _=>?_) (fun w' hS=>readAt_any s 0 q0 w' HS60.out (by decide) (by decide) hS)) (by assumption) ?_
  ·go_simp
  simp only [tkS];refine wpAnyH_takeC (i:=3) (v:=.int .u64 (numAt s 1)) rfl (by kernel_rfl) (by kernel_rfl) (by kernel_rfl) (fun _ _ _ h=>h) (takes_call rfl 206 #[.int .i64 1,.pointer (some ⟨q0,0,none⟩)] (by rfl) (fun w' _=>?_) (fun w' hS=>readAt_any s 1 q0 w' HS60.out (by decide) (by decide) hS)) (by assumption) ?_
  ·go_simp
  simp only [tkS];refine wpAnyH_takeC (i:=5) (v:=.int .u64 (numAt s 2)) rfl (by kernel_rfl) (by kernel_rfl) (by kernel_rfl) (fun _ _ _ h=>h) (takes_call rfl 206 #[.int .i64 2,.pointer (some ⟨q0,0,none⟩)] (by rfl) (fun w' _=>?_) (fun w' hS=>readAt_any s 2 q0 w' HS60.out (by decide) (by decide) hS)) (by assumption) ?_
  ·go_simp
  simp only [tkS];refine wpAnyH_take (i:=12) (v:=.agg #[.int .u64 (numAt s 0),.int .u64 (numAt s 1),.int .u64 (numAt s 2),.int .i64 (IntKind.i64.wrap (s[24].toNat:Int)),.int .i64 (IntKind.i64.wrap (s[25].toNat:Int)),.string ⟨#[]⟩]) rfl (by kernel_rfl) (by kernel_rfl) (by kernel_rfl) (fun _ _ _ h=>h) (Or.inl ⟨by rfl,?_⟩) (by assumption) ?_
  ·intro w' hSw;go_split_ands;go_simp
  simp only [tkS];refine wpAnyH_ready (rs:=[13]) (by kernel_rfl) (by simp) ?_;refine AllReadyH.cons rfl (fun K hK=>?_) AllReadyH.nil;go_simp
  refine hK.out _ _ (HCA.out _ ((Upd.refl _ _).alloc _).drew) (fun hHeld2=>?_);clear hK K;refine wpAnyH_ready (rs:=[14]) (by kernel_rfl) (by simp) ?_;refine AllReadyH.cons rfl (fun K hK=>?_) AllReadyH.nil;go_simp
  refine hK.out _ _ ?_ (fun hHeld3=>?_)
  ·exact HCA.out _ ((Upd.refl _ _).alloc _).drew
  clear hK K;refine wpAnyH_done (by kernel_rfl) ?_ _;refine NoPanic.normal ?_;go_wp2_with fail
  go_meet
  rw [u8_i64,u8_i64,← e24.out,← e25.out];exact ⟨rfl,((Upd.refl _ _).alloc _).drew,(Blk.new W _ _).drew⟩
 case rest =>
  obtain ⟨rfl,hUw,hBp⟩:=hcut;have hBs:=HW.out.1.upd hUw (fun e=>e);have hBr:=HW.out.2.1.upd hUw (fun e=>e);have hcs:=hBs.cells1;have HB:=h4k hBs hBr hBp hUw;have hqW:q0<W.heap.size:=by have:=HW.out.2.2.2;omega
  have hqW1:q0+1<W.heap.size:=by have:=HW.out.2.2.2;omega
  have hbelow:Below w.heap.size w W:=by rw [HQ.out];exact HW.out.2.2.1
  have HBe:=Lib.hid hbelow;clear hBs hBr hBp hUw hc0 hne HW HCA hbelow;have HPb:Hid (∃pb,W.heap.size=pb):=⟨_,rfl⟩;by_cases h32:32<(s.data.toList.getD 26 0).toNat
  ·have h32':(32:Int)<(s[26].toNat:Int):=by rw [← e26.out];omega
   have hwr:IntKind.i64.wrap (s[26].toNat:Int)=(s[26].toNat:Int):=u8_i64 _;have hr:readG s.data.toList=(⟨leN (s.data.toList.take 8),leN ((s.data.toList.drop 8).take 8),leN ((s.data.toList.drop 16).take 8),(s.data.toList.getD 24 0).toNat,(s.data.toList.getD 25 0).toNat,[]⟩,false):=by unfold readG;rw [if_pos h32]
   have HR:=Lib.hid hr;clear hr;go_wp2_with (first
    | (refine wpList_load_all rfl _ _ rfl W.heap.size rfl _ _ _ HB.out.2.2.1 Tryz.underlying204 rfl rfl ?_)
    | (refine wpList_store_all rfl 204 _ _ rfl (q0+1) #[.int .u64 (numAt s 0),.int .u64 (numAt s 1),.int .u64 (numAt s 2),.int .i64 (byteAt s 24:Int),.int .i64 (byteAt s 25:Int),.string ⟨#[]⟩] rfl rfl _ _ HB.out.2.1 rfl (by simp [Value.oneCell']) (by kernel_rfl) ?_
       intro w6 hB6 hU6 hs6))
   have hHR:=HR.out;generalize readG s.data.toList=rr at hHR;subst hHR;refine bodyPost_ret (results_cell_slot rfl _ _ (q0+1) _ _ _ _ rfl hB6 Tryz.underlying204 rfl rfl (.bool false) rfl) rfl ⟨rfl,?_⟩;have hb:=HBe.out;have hq:=HQ.out;have hu:=HB.out.2.2.2;exact (hb.trans ((hu.below (fun _ e=>e.elim)).mono hb.size)).trans ⟨hU6.os,hU6.tape,hU6.output,hU6.size,fun b hbl=>hU6.block b (Nat.lt_of_lt_of_le hbl (Nat.le_trans hb.size hu.size)) (by omega)⟩
  ·have h32':¬(32:Int)<(s[26].toNat:Int):=by rw [← e26.out];omega
   have hwr:IntKind.i64.wrap (s[26].toNat:Int)=(s[26].toNat:Int):=u8_i64 _;have hr:readG s.data.toList=(⟨leN (s.data.toList.take 8),leN ((s.data.toList.drop 8).take 8),leN ((s.data.toList.drop 16).take 8),(s.data.toList.getD 24 0).toNat,(s.data.toList.getD 25 0).toNat,(s.data.toList.drop 28).take (s.data.toList.getD 26 0).toNat⟩,decide (s.data.toList.getD 27 0=0∧s.data.toList.drop (28+(s.data.toList.getD 26 0).toNat)=List.replicate (32 - (s.data.toList.getD 26 0).toNat) 0)):=by unfold readG;rw [if_neg h32]
   have HR:=Lib.hid hr;clear hr;have e26':=e26.out;have hbn:s[26].toNat≤32:=by omega
   obtain ⟨n,hn⟩:=eqx (s[26].toNat);have HN:=h2k hn e26';have hle:(28:Int)+(n:Int)≤(s.size:Int):=by have:=HS60.out;omega
   have hsub:IntKind.i64.wrap (32 - (n:Int))=32 - (n:Int):=IntWalk.i64_in _ (by omega);have hadd:IntKind.i64.wrap (28+(n:Int))=28+(n:Int):=IntWalk.i64_in _ (by omega);have hnn:(0:Int)≤28+(n:Int):=by omega
   have htn:((28:Int)+(n:Int)).toNat=28+n:=by omega
   have hn32:n≤32:=by omega
   rw [hn] at hwr h32';obtain ⟨cnt,hcnt,hK⟩:∃cnt:Int,(cnt == 32 - (n:Int))=decide (List.drop (28+n) s.data.toList=List.replicate (32 - n) 0) ∧
    ∀W,Calls Tryz.prog 90 #[.string (s.extract (28+n) s.size),.string ⟨#[0]⟩] W fun e w'=>e=.returned (.int .i64 cnt)∧W=w':=by
    refine ⟨_,?_,fun W=>(Tryz.strings_Count_one (s.extract (28+n) s.size) 0 W).mono fun _ _ h=>⟨h.1,h.2.symm⟩⟩;rw [← read_test32 s.data.toList s.size n HS60.out (by simpa using HS60.out) hn32];congr 3
    rw [extract_str_from];rfl
   have HC:=Lib.hid hcnt;have HK:=Lib.hid hK;clear hcnt hK e26' e26;go_wp2_with (first
    | (refine wpList_store_one rfl 9 _ _ rfl W.heap.size 5 (.string (s.extract 28 (28+n))) rfl rfl _ _ HB.out.2.2.1 (by simp) rfl (by kernel_rfl) ?_
       intro w3 hB3 hU3 hs3))
   simp only [List.setIfInBounds_toArray,List.set_cons_succ,List.set_cons_zero] at hB3;have hqne:q0≠W.heap.size:=by omega
   have hqne1:q0+1≠W.heap.size:=by omega
   have hBs3:Blk w3 q0 9 #[.string s]:=HB.out.1.upd hU3 hqne;have hBr3:Blk w3 (q0+1) 204 #[.int .u64 0,.int .u64 0,.int .u64 0,.int .i64 0,.int .i64 0,.string ⟨#[]⟩]:=HB.out.2.1.upd hU3 hqne1;have hS:∀w',Upd (fun b=>b=q0+1) w3 w'→(w'.cell? ⟨q0,0,none⟩=some (.string s)∧w'.cell? ⟨W.heap.size,0,none⟩=some (.int .u64 (numAt s 0))∧w'.cell? ⟨W.heap.size,1,none⟩=some (.int .u64 (numAt s 1))∧w'.cell? ⟨W.heap.size,2,none⟩=some (.int .u64 (numAt s 2))∧w'.cell? ⟨W.heap.size,3,none⟩=some (.int .i64 (byteAt s 24:Int))∧w'.cell? ⟨W.heap.size,4,none⟩=some (.int .i64 (byteAt s 25:Int))∧w'.cell? ⟨W.heap.size,5,none⟩=some (.string (s.extract 28 (28+n)))):=by
    intro w' hu;obtain ⟨c0,c1,c2,c3,c4,c5⟩:=(hB3.upd hu (fun e=>hqne1 e.symm)).cells6;exact ⟨(hBs3.upd hu (by omega)).cells1,c0,c1,c2,c3,c4,c5⟩
   have HSS:=Lib.hid hS;have H3:=h3k hB3 hBr3 hU3;have hca:=hBr3.cells6;have hz0:=hBr3.frozen 0;have hz1:=hBr3.frozen 1;have hz2:=hBr3.frozen 2;have hz3:=hBr3.frozen 3;have hz4:=hBr3.frozen 4;have hz5:=hBr3.frozen 5;clear hB3 hBr3 hU3 hs3 hS hBs3 hcs;by_cases h0:s[27]=0
   ·have h0':((s[27].toNat:Int) == 0)=true:=by rw [h0];rfl
    refine wp_region_noPanic ?_;refine wp_region_held_drew (S:=fun w'=>w'.cell? ⟨q0,0,none⟩=some (.string s)∧w'.cell? ⟨W.heap.size,0,none⟩=some (.int .u64 (numAt s 0))∧w'.cell? ⟨W.heap.size,1,none⟩=some (.int .u64 (numAt s 1))∧w'.cell? ⟨W.heap.size,2,none⟩=some (.int .u64 (numAt s 2))∧w'.cell? ⟨W.heap.size,3,none⟩=some (.int .i64 (byteAt s 24:Int))∧w'.cell? ⟨W.heap.size,4,none⟩=some (.int .i64 (byteAt s 25:Int))∧w'.cell? ⟨W.heap.size,5,none⟩=some (.string (s.extract 28 (28+n)))) (by kernel_rfl) (HSS.out _ (Upd.refl _ _).drew) (fun hHeld=>?_);refine wpAnyH_take (i:=0) (v:=.agg #[.int .u64 (numAt s 0),.int .u64 (numAt s 1),.int .u64 (numAt s 2),.int .i64 (byteAt s 24:Int),.int .i64 (byteAt s 25:Int),.string (s.extract 28 (28+n))]) rfl (by kernel_rfl) (by kernel_rfl) (by kernel_rfl) (fun _ _ _ h=>h) (Or.inl ⟨by rfl,?_⟩) (by assumption) ?_
    ·intro w' hSw;go_split_ands;go_simp
    simp only [tkS];refine wpAnyH_take (i:=1) (v:=.string s) rfl (by kernel_rfl) (by kernel_rfl) (by kernel_rfl) (fun _ _ _ h=>h) (Or.inl ⟨by rfl,?_⟩) (by assumption) ?_
    ·intro w' hSw;go_split_ands;go_simp
    simp only [tkS];refine wpAnyH_take (i:=2) (v:=.int .u8 (s[27].toNat:Int)) rfl (by kernel_rfl) (by kernel_rfl) (by kernel_rfl) (fun _ _ _ h=>h) (Or.inl ⟨by rfl,?_⟩) (by assumption) ?_
    ·intro w' hSw;go_split_ands;go_simp
    simp only [tkS];refine wpAnyH_take (i:=3) (v:=.bool true) rfl (by kernel_rfl) (by kernel_rfl) (by kernel_rfl) (fun _ _ _ h=>h) (Or.inl ⟨by rfl,?_⟩) (by assumption) ?_
    ·intro w' hSw;go_split_ands;go_simp
    simp only [tkS];refine wpAnyH_take (i:=4) (v:=.bool true) rfl (by kernel_rfl) (by kernel_rfl) (by kernel_rfl) (fun _ _ _ h=>h) (Or.inl ⟨by rfl,?_⟩) (by assumption) ?_
    ·intro w' hSw;go_split_ands;go_simp
    simp only [tkS];refine wpAnyH_take (i:=5) (v:=.string s) rfl (by kernel_rfl) (by kernel_rfl) (by kernel_rfl) (fun _ _ _ h=>h) (Or.inl ⟨by rfl,?_⟩) (by assumption) ?_
    ·intro w' hSw;go_split_ands;go_simp
    simp only [tkS];refine wpAnyH_take (i:=6) (v:=.int .i64 (n:Int)) rfl (by kernel_rfl) (by kernel_rfl) (by kernel_rfl) (fun _ _ _ h=>h) (Or.inl ⟨by rfl,?_⟩) (by assumption) ?_
    ·intro w' hSw;go_split_ands;go_simp
    simp only [tkS];refine wpAnyH_take (i:=7) (v:=.int .i64 (28+(n:Int))) rfl (by kernel_rfl) (by kernel_rfl) (by kernel_rfl) (fun _ _ _ h=>h) (Or.inl ⟨by rfl,?_⟩) (by assumption) ?_
    ·intro w' hSw;go_split_ands;go_simp
    simp only [tkS];refine wpAnyH_take (i:=8) (v:=.string (s.extract (28+n) s.size)) rfl (by kernel_rfl) (by kernel_rfl) (by kernel_rfl) (fun _ _ _ h=>h) (Or.inl ⟨by rfl,?_⟩) (by assumption) ?_
    ·intro w' hSw;go_split_ands;go_simp
    simp only [tkS];refine wpAnyH_takeC (i:=9) (v:=.int .i64 cnt) rfl (by kernel_rfl) (by kernel_rfl) (by kernel_rfl) (fun _ _ _ h=>h) (takes_call rfl 90 #[.string (s.extract (28+n) s.size),.string ⟨#[0]⟩] (by rfl) (fun w' _=>?_) (fun w' hS=>HK.out w')) (by assumption) ?_
    ·go_simp
    simp only [tkS];refine wpAnyH_take (i:=10) (v:=.int .i64 (n:Int)) rfl (by kernel_rfl) (by kernel_rfl) (by kernel_rfl) (fun _ _ _ h=>h) (Or.inl ⟨by rfl,?_⟩) (by assumption) ?_
    ·intro w' hSw;go_split_ands;go_simp
    simp only [tkS];refine wpAnyH_take (i:=11) (v:=.int .i64 (32 - (n:Int))) rfl (by kernel_rfl) (by kernel_rfl) (by kernel_rfl) (fun _ _ _ h=>h) (Or.inl ⟨by rfl,?_⟩) (by assumption) ?_
    ·intro w' hSw;go_split_ands;go_simp
    simp only [tkS];refine wpAnyH_take (i:=12) (v:=.bool (cnt == 32 - (n:Int))) rfl (by kernel_rfl) (by kernel_rfl) (by kernel_rfl) (fun _ _ _ h=>h) (Or.inl ⟨by rfl,?_⟩) (by assumption) ?_
    ·intro w' hSw;go_split_ands;go_simp
    simp only [tkS];refine wpAnyH_take (i:=13) (v:=.bool (cnt == 32 - (n:Int))) rfl (by kernel_rfl) (by kernel_rfl) (by kernel_rfl) (fun _ _ _ h=>h) (Or.inl ⟨by rfl,?_⟩) (by assumption) ?_
    ·intro w' hSw;go_split_ands;go_simp
    simp only [tkS];refine wpAnyH_ready (rs:=[14]) (by kernel_rfl) (by simp) ?_;refine AllReadyH.cons rfl (fun K hK=>?_) AllReadyH.nil;go_simp
    refine hK.out _ _ (HSS.out _ (((((((Upd.refl (fun b=>b=q0+1) w3).setCell (p:=⟨q0+1,0,none⟩) (.inl rfl) _).setCell (p:=⟨q0+1,1,none⟩) (.inl rfl) _).setCell (p:=⟨q0+1,2,none⟩) (.inl rfl) _).setCell (p:=⟨q0+1,3,none⟩) (.inl rfl) _).setCell (p:=⟨q0+1,4,none⟩) (.inl rfl) _).setCell (p:=⟨q0+1,5,none⟩) (.inl rfl) _).drew) (fun hHeld2=>?_);clear hK K;refine wpAnyH_take (i:=15) (v:=.bool (cnt == 32 - (n:Int))) rfl (by kernel_rfl) (by kernel_rfl) (by kernel_rfl) (fun _ _ _ h=>h) (Or.inl ⟨by rfl,?_⟩) (by assumption) ?_
    ·intro w' hSw;go_split_ands;go_simp
    simp only [tkS];refine wpAnyH_done (by kernel_rfl) ?_ _;refine NoPanic.normal ?_;go_wp2
    have hBz:=((((((H3.out.2.1.set_ 0 (.int .u64 (numAt s 0))).set_ 1 (.int .u64 (numAt s 1))).set_ 2 (.int .u64 (numAt s 2))).set_ 3 (.int .i64 (byteAt s 24:Int))).set_ 4 (.int .i64 (byteAt s 25:Int))).set_ 5 (.string (s.extract 28 (28+n)))).drew;simp only [List.setIfInBounds_toArray,List.set_cons_succ,List.set_cons_zero] at hBz;refine bodyPost_ret (results_cell_slot rfl _ _ (q0+1) _ _ _ _ rfl hBz Tryz.underlying204 rfl rfl (.bool (cnt == 32 - (n:Int))) rfl) rfl ⟨?_,?_⟩
    ·rw [HR.out,HN.out.2,hn]
     simp only [Lp.val];rw [extract_str_from,Nat.add_sub_cancel_left];rw [HC.out,e27.out,h0];simp [byteAt,numAt]
    ·have hb:=HBe.out
     have hq:=HQ.out;have hu:=HB.out.2.2.2;have hu3:=H3.out.2.2;have h1:=(hb.trans ((hu.below (fun _ e=>e.elim)).mono hb.size)).trans (⟨hu3.os,hu3.tape,hu3.output,hu3.size,fun b hbl=>hu3.block b (Nat.lt_of_lt_of_le hbl (Nat.le_trans hb.size hu.size)) (by omega)⟩:Below w.heap.size _ w3);exact ((((((h1.setCell (p:=⟨q0+1,0,none⟩) (by show w.heap.size≤q0+1;omega) _).setCell (p:=⟨q0+1,1,none⟩) (by show w.heap.size≤q0+1;omega) _).setCell (p:=⟨q0+1,2,none⟩) (by show w.heap.size≤q0+1;omega) _).setCell (p:=⟨q0+1,3,none⟩) (by show w.heap.size≤q0+1;omega) _).setCell (p:=⟨q0+1,4,none⟩) (by show w.heap.size≤q0+1;omega) _).setCell (p:=⟨q0+1,5,none⟩) (by show w.heap.size≤q0+1;omega) _).drew
   ·have h0':((s[27].toNat:Int) == 0)=false:=by
     rw [beq_eq_false_iff_ne];intro h;exact h0 (UInt8.toNat_inj.1 (by have:(0:UInt8).toNat=0:=rfl;omega))
    refine wp_region_noPanic ?_;refine wp_region_held_drew (S:=fun w'=>w'.cell? ⟨q0,0,none⟩=some (.string s)∧w'.cell? ⟨W.heap.size,0,none⟩=some (.int .u64 (numAt s 0))∧w'.cell? ⟨W.heap.size,1,none⟩=some (.int .u64 (numAt s 1))∧w'.cell? ⟨W.heap.size,2,none⟩=some (.int .u64 (numAt s 2))∧w'.cell? ⟨W.heap.size,3,none⟩=some (.int .i64 (byteAt s 24:Int))∧w'.cell? ⟨W.heap.size,4,none⟩=some (.int .i64 (byteAt s 25:Int))∧w'.cell? ⟨W.heap.size,5,none⟩=some (.string (s.extract 28 (28+n)))) (by kernel_rfl) (HSS.out _ (Upd.refl _ _).drew) (fun hHeld=>?_);refine wpAnyH_take (i:=0) (v:=.agg #[.int .u64 (numAt s 0),.int .u64 (numAt s 1),.int .u64 (numAt s 2),.int .i64 (byteAt s 24:Int),.int .i64 (byteAt s 25:Int),.string (s.extract 28 (28+n))]) rfl (by kernel_rfl) (by kernel_rfl) (by kernel_rfl) (fun _ _ _ h=>h) (Or.inl ⟨by rfl,?_⟩) (by assumption) ?_
    ·intro w' hSw;go_split_ands;go_simp
    simp only [tkS];refine wpAnyH_take (i:=1) (v:=.string s) rfl (by kernel_rfl) (by kernel_rfl) (by kernel_rfl) (fun _ _ _ h=>h) (Or.inl ⟨by rfl,?_⟩) (by assumption) ?_
    ·intro w' hSw;go_split_ands;go_simp
    simp only [tkS];refine wpAnyH_take (i:=2) (v:=.int .u8 (s[27].toNat:Int)) rfl (by kernel_rfl) (by kernel_rfl) (by kernel_rfl) (fun _ _ _ h=>h) (Or.inl ⟨by rfl,?_⟩) (by assumption) ?_
    ·intro w' hSw;go_split_ands;go_simp
    simp only [tkS];refine wpAnyH_take (i:=3) (v:=.bool false) rfl (by kernel_rfl) (by kernel_rfl) (by kernel_rfl) (fun _ _ _ h=>h) (Or.inl ⟨by rfl,?_⟩) (by assumption) ?_
    ·intro w' hSw;go_split_ands;go_simp
    simp only [tkS];refine wpAnyH_take (i:=4) (v:=.bool false) rfl (by kernel_rfl) (by kernel_rfl) (by kernel_rfl) (fun _ _ _ h=>h) (Or.inl ⟨by rfl,?_⟩) (by assumption) ?_
    ·intro w' hSw;go_split_ands;go_simp
    simp only [tkS];refine wpAnyH_take (i:=5) (v:=undef) rfl (by kernel_rfl) (by kernel_rfl) (by kernel_rfl) (fun _ _ _ h=>h) (Or.inr ⟨by rfl,rfl⟩) (by assumption) ?_;simp only [tkS];refine wpAnyH_take (i:=6) (v:=undef) rfl (by kernel_rfl) (by kernel_rfl) (by kernel_rfl) (fun _ _ _ h=>h) (Or.inr ⟨by rfl,rfl⟩) (by assumption) ?_;simp only [tkS];refine wpAnyH_take (i:=7) (v:=undef) rfl (by kernel_rfl) (by kernel_rfl) (by kernel_rfl) (fun _ _ _ h=>h) (Or.inr ⟨by rfl,rfl⟩) (by assumption) ?_;simp only [tkS];refine wpAnyH_take (i:=8) (v:=undef) rfl (by kernel_rfl) (by kernel_rfl) (by kernel_rfl) (fun _ _ _ h=>h) (Or.inr ⟨by rfl,rfl⟩) (by assumption) ?_;simp only [tkS];refine wpAnyH_take (i:=9) (v:=undef) rfl (by kernel_rfl) (by kernel_rfl) (by kernel_rfl) (fun _ _ _ h=>h) (Or.inr ⟨by rfl,rfl⟩) (by assumption) ?_;simp only [tkS];refine wpAnyH_take (i:=10) (v:=undef) rfl (by kernel_rfl) (by kernel_rfl) (by kernel_rfl) (fun _ _ _ h=>h) (Or.inr ⟨by rfl,rfl⟩) (by assumption) ?_;simp only [tkS];refine wpAnyH_take (i:=11) (v:=undef) rfl (by kernel_rfl) (by kernel_rfl) (by kernel_rfl) (fun _ _ _ h=>h) (Or.inr ⟨by rfl,rfl⟩) (by assumption) ?_;simp only [tkS]
    refine wpAnyH_take (i:=12) (v:=undef) rfl (by kernel_rfl) (by kernel_rfl) (by kernel_rfl) (fun _ _ _ h=>h) (Or.inr ⟨by rfl,rfl⟩) (by assumption) ?_;simp only [tkS];refine wpAnyH_take (i:=13) (v:=.bool false) rfl (by kernel_rfl) (by kernel_rfl) (by kernel_rfl) (fun _ _ _ h=>h) (Or.inl ⟨by rfl,?_⟩) (by assumption) ?_
    ·intro w' hSw;go_split_ands;go_simp
    simp only [tkS];refine wpAnyH_ready (rs:=[14]) (by kernel_rfl) (by simp) ?_;refine AllReadyH.cons rfl (fun K hK=>?_) AllReadyH.nil;go_simp
    refine hK.out _ _ (HSS.out _ (((((((Upd.refl (fun b=>b=q0+1) w3).setCell (p:=⟨q0+1,0,none⟩) (.inl rfl) _).setCell (p:=⟨q0+1,1,none⟩) (.inl rfl) _).setCell (p:=⟨q0+1,2,none⟩) (.inl rfl) _).setCell (p:=⟨q0+1,3,none⟩) (.inl rfl) _).setCell (p:=⟨q0+1,4,none⟩) (.inl rfl) _).setCell (p:=⟨q0+1,5,none⟩) (.inl rfl) _).drew) (fun hHeld2=>?_);clear hK K;refine wpAnyH_take (i:=15) (v:=.bool false) rfl (by kernel_rfl) (by kernel_rfl) (by kernel_rfl) (fun _ _ _ h=>h) (Or.inl ⟨by rfl,?_⟩) (by assumption) ?_
    ·intro w' hSw;go_split_ands;go_simp
    simp only [tkS];refine wpAnyH_done (by kernel_rfl) ?_ _;refine NoPanic.normal ?_;go_wp2
    have hBz:=((((((H3.out.2.1.set_ 0 (.int .u64 (numAt s 0))).set_ 1 (.int .u64 (numAt s 1))).set_ 2 (.int .u64 (numAt s 2))).set_ 3 (.int .i64 (byteAt s 24:Int))).set_ 4 (.int .i64 (byteAt s 25:Int))).set_ 5 (.string (s.extract 28 (28+n)))).drew;simp only [List.setIfInBounds_toArray,List.set_cons_succ,List.set_cons_zero] at hBz;refine bodyPost_ret (results_cell_slot rfl _ _ (q0+1) _ _ _ _ rfl hBz Tryz.underlying204 rfl rfl (.bool false) rfl) rfl ⟨?_,?_⟩
    ·rw [HR.out,HN.out.2,hn]
     simp only [Lp.val];rw [extract_str_from,Nat.add_sub_cancel_left];rw [e27.out];simp [byteAt,numAt,h0]
    ·have hb:=HBe.out
     have hq:=HQ.out;have hu:=HB.out.2.2.2;have hu3:=H3.out.2.2;have h1:=(hb.trans ((hu.below (fun _ e=>e.elim)).mono hb.size)).trans (⟨hu3.os,hu3.tape,hu3.output,hu3.size,fun b hbl=>hu3.block b (Nat.lt_of_lt_of_le hbl (Nat.le_trans hb.size hu.size)) (by omega)⟩:Below w.heap.size _ w3);exact ((((((h1.setCell (p:=⟨q0+1,0,none⟩) (by show w.heap.size≤q0+1;omega) _).setCell (p:=⟨q0+1,1,none⟩) (by show w.heap.size≤q0+1;omega) _).setCell (p:=⟨q0+1,2,none⟩) (by show w.heap.size≤q0+1;omega) _).setCell (p:=⟨q0+1,3,none⟩) (by show w.heap.size≤q0+1;omega) _).setCell (p:=⟨q0+1,4,none⟩) (by show w.heap.size≤q0+1;omega) _).setCell (p:=⟨q0+1,5,none⟩) (by show w.heap.size≤q0+1;omega) _).drew
end
end Go.Proofs.YtbhjgfibhegddaaGreat
