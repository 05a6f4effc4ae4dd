/-
  Parts of the proof of VaultSpoils: KeptA, SealC.
-/
import Derived.Test.YtbhjgfibhegddaaGreatQVaultSpoils07
import Derived.ChangeKeysEq
import Derived.Deep.DeepCutAuto
import Derived.Deep.RegionHeld3
import Derived.StillTailTactics
set_option maxRecDepth 100000
set_option maxHeartbeats 16000000
namespace Go.Proofs.YtbhjgfibhegddaaGreat
section
open Go Go.RowKit
structure Pt where
 gen:Nat
 number:Nat
 all:Nat
 text:List UInt8
deriving DecidableEq
def Pt.cells (p:Pt):List Value:=[.int .u64 p.gen,.int .i64 p.number,.int .i64 p.all,.string (str p.text)]
def Pt.val (p:Pt):Value:=.agg #[.int .u64 p.gen,.int .i64 p.number,.int .i64 p.all,.string (str p.text)]
def Pt.body (p:Pt):List UInt8:=leB p.gen 8++[UInt8.ofNat p.number,UInt8.ofNat p.all,UInt8.ofNat p.text.length,0]++p.text++List.replicate (48 - p.text.length) 0
theorem Pt.body_len (p:Pt) (h:p.text.length≤48):p.body.length=60:=by simp [Pt.body,leB_len];omega
theorem str_app (a b:List UInt8):str a++str b=str (a++b):=by
 unfold str;rw [ByteArray.mk_append_mk]
theorem repeat_zero (n:Nat):(⟨(Lib.repeatL (⟨#[0]⟩:ByteArray).data.toList n).toArray⟩:ByteArray)=str (List.replicate n 0):=by
 unfold str;congr 2
 induction n with
 | zero=>rfl
 | succ n ih=>rw [Lib.repeatL,ih];rfl
theorem Src.of_news {P:Program} {w:World} {xT t e:TypeId} {size n:Nat} (ht:P.underlying xT=some (.slice t)) (news:List Value) (hn:news.length=n*size) :
 Src P (w.alloc (.cells news.toArray e)) xT size (.slice (some ⟨w.heap.size,0,none⟩) n n) n news :=
 .of_addr ht _ _ _ hn fun j u hu=>by
  have hadd:(⟨w.heap.size,0,none⟩:Addr).add j=⟨w.heap.size,j,none⟩:=by unfold Addr.add;split<;>simp_all
  rw [hadd,World.cell?_alloc_new];simpa using hu
theorem head4 (nu al n:Nat) (h1:nu<256) (h2:al<256) (h3:n<256):bytesV [UInt8.ofNat nu,UInt8.ofNat al,UInt8.ofNat n,0]=[.int .u8 (nu:Int),.int .u8 (al:Int),.int .u8 (n:Int),.int .u8 0]:=by
 simp only [bytesV,List.map_cons,List.map_nil];rw [byteV,byteV,byteV,Int.emod_eq_of_lt oM oM,Int.emod_eq_of_lt oM oM,Int.emod_eq_of_lt oM oM];rfl
theorem sector_c (p:Pt) (w:World) (hg:p.gen<18446744073709551616) (ht:p.text.length≤48) (hn:p.number<256) (ha:p.all<256) :
 Calls Tryz.prog 186 #[p.val] w fun e w'=>e=.returned (.string (str (closeL p.body)))∧Below w.heap.size w w':=by
 obtain ⟨i0,hi0,hz0,hz1,hz2⟩:=info_parts infoU8;have hbl:=Lib.hid (p.body_len ht);have HB:Hid (p.body=leB p.gen 8++[UInt8.ofNat p.number,UInt8.ofNat p.all,UInt8.ofNat p.text.length,0]++p.text++List.replicate (48 - p.text.length) 0):=rfl;obtain ⟨g,nu,al,tx⟩:=p;generalize (⟨g,nu,al,tx⟩:Pt).body=bd at *;simp only [Pt.val] at *;have hsz:(str tx).size=tx.length:=str_size tx;go_enter Tryz.func186,Tryz.ntmps186
 go_wp2_with fail
 refine (putLittle_kept (.slice none 0 0) 0 [] g 8 _ (Own.nil _ _ _) oM oM).mono ?_;rintro e w1 ⟨v1,rfl,hO1,hU1,hl1⟩;simp only [Nat.zero_add,List.nil_append] at hO1;have hbx:Blk (w.alloc (.cells #[.int .u64 (g:Int),.int .i64 (nu:Int),.int .i64 (al:Int),.string (str tx)] 277)) w.heap.size 277 #[.int .u64 (g:Int),.int .i64 (nu:Int),.int .i64 (al:Int),.string (str tx)]:=Blk.new _ _ _;have hB1:=hbx.upd hU1 (by simp [Value.ownBlock]);have hc1:=hB1.cells4;have hU1':Upd (fun _=>False) w w1:=((Upd.refl _ w).alloc _).then hU1 (fun b h=>by simp [Value.ownBlock] at h);have hl1':∀q,v1.ownBlock=some q→w.heap.size+1≤q:=fun q hq=>by
  rcases hl1 with h | ⟨q',h,hq'⟩
  ·rw [h] at hq;simp [Value.ownBlock] at hq
  ·rw [h] at hq
   have:=Option.some.inj hq;simp at hq'
   omega
 have H1:=h3k hU1' hl1' hB1;clear hU1 hl1 hbx hB1 hU1' hl1';have h4:=Lib.hid (head4 nu al tx.length hn ha oM);have HR:Hid (∀W,Calls Tryz.prog 20 #[.string ⟨#[0]⟩,.int .i64 (48 - (tx.length:Int))] W fun e w'=>e=.returned (.string (str (List.replicate (48 - tx.length) 0)))∧Below W.heap.size W w'):=by
  intro W;have h:=Tryz.strings_Repeat ⟨#[0]⟩ (48 - tx.length) W oM (by show 1*_≤_;omega);rw [repeat_zero] at h;rw [show (48 - (tx.length:Int))=((48 - tx.length:Nat):Int) from by omega];exact h
 go_wp2_with (first
  | (at_builtin
     refine wpList_append_src rfl (.tmp 9) (.tmp 20) _ _ rfl 5 i0 _ 1 1 Tryz.underlying89 hi0 hz0 hz1 hz2 rfl v1 8 _ rfl (hO1.alloc _) _ 4 [.int .u8 (nu:Int),.int .u8 (al:Int),.int .u8 (tx.length:Int),.int .u8 0] rfl (Src.of_news Tryz.underlying89 _ rfl) (by simp [Value.oneCell']) (by unfold maxLen;omega) oM ?_;intro v2 w2 hO2 hU2 hl2 hs2;obtain ⟨hU1,hl1,hB1⟩:=H1.out;have hB2:=(hB1.alloc _).upd hU2 (fun e=>by have:=hl1 _ e;omega);have hc2:=hB2.cells4;have hU2':Upd (fun _=>False) w w2:=(hU1.alloc _).then hU2 (fun b h=>.inr (oN (hl1 b h)));have hl2':∀q,v2.ownBlock=some q→w.heap.size+1≤q:=fun q hq=>by
      rcases hl2 with h | h
      ·exact hl1 q (by rw [← h];exact hq)
      ·rw [h] at hq
       have h5:=Option.some.inj hq;have h6:=hB1.lt;simp at h5
       omega
     rw [← h4.out,← bytesV_app] at hO2;have H2:=h3k hU2' hl2' hB2;clear hU1 hl1 hB1 hU2 hl2 hs2 hB2 hU2' hl2' hO1 hc1)
  | (at_builtin
     refine wpList_append_src rfl (.tmp 22) (.tmp 24) _ _ rfl 5 i0 _ 1 1 Tryz.underlying89 hi0 hz0 hz1 hz2 rfl v2 (8+4) _ rfl hO2 _ (str tx).size _ rfl (Src.of_string Tryz.underlying9 (str tx)) (bytesV_one _) (by unfold maxLen;omega) oM ?_;intro v3 w3 hO3 hU3 hl3 hs3;obtain ⟨hU1,hl1,hB1⟩:=H2.out;have hB3:=hB1.upd hU3 (fun e=>by have:=hl1 _ e;omega);have hc3:=hB3.cells4;have hU3':Upd (fun _=>False) w w3:=hU1.then hU3 (fun b h=>.inr (oN (hl1 b h)));have hO3':Own w3 5 1 v3 (8+4+(str tx).size) (bytesV (leB g 8++[UInt8.ofNat nu,UInt8.ofNat al,UInt8.ofNat tx.length,0]++tx)):=by rw [bytesV_app];exact hO3
     have H3:=h2k hU3' hB3;clear hU1 hl1 hB1 hU3 hl3 hs3 hB3 hU3' hO3 hO2 hc2))
 generalize hL:leB g 8++[UInt8.ofNat nu,UInt8.ofNat al,UInt8.ofNat tx.length,0]++tx=L at hO3' HB;have hLl:L.length=12+tx.length:=by rw [← hL];simp [leB_len];omega
 have hrun1:(convert 89 9 v3).run Tryz.prog w3.drew=.ok (.string (str L)) w3.drew:=run_to_string hO3'.drew;have hls:(str L).size=12+tx.length:=by rw [str_size,hLl]
 have hcat:=Lib.hid (str_app L (List.replicate (48 - tx.length) 0));have hsz2:(str (List.replicate (48 - tx.length) 0)).size=48 - tx.length:=by rw [str_size];simp
 have HO:=Lib.hid hO3';have hHL:=Lib.hid hL;have hw48:IntKind.i64.wrap (48 - (tx.length:Int))=48 - (tx.length:Int):=IntWalk.i64_in _ oM;clear hL hO3';go_region_with (first
  | (go_at_call 20
     refine (HR.out _).mono ?_;rintro e w4 ⟨rfl,hb4⟩;have hrun4:(convert 89 9 v3).run Tryz.prog w4=.ok (.string (str L)) w4:=run_to_string (HO.out.eqb fun q hq=>hb4.block q (HO.out.lt hq));have hc4:w4.cell? ⟨w.heap.size,3,none⟩=some (.string (str tx)):=(hb4.cell (p:=⟨w.heap.size,3,none⟩) H3.out.2.lt).trans hc3.2.2.2)
  | (go_at_call 157
     refine (Close_c _ _ (by rw [ByteArray.size_append,hls,hsz2];omega)).mono ?_;rintro e w5 ⟨rfl,hb5⟩))
 all_goals go_wp2
 all_goals
  go_ret
  refine ⟨?_,?_⟩
  ·rw [HB.out]
   first
    | rfl
    | (trace_state;fail)
  ·have hb3:Below w.heap.size w w3:=H3.out.1.below (fun _ h=>h.elim)
   have hb4':Below w3.heap.size w3 w4:=below_of_drew hb4;exact hb3.trans ((hb4'.mono hb3.size).trans (hb5.mono (Nat.le_trans hb3.size hb4'.size)))
def allOf (n:Nat):Nat:=max ((n+47) / 48) 1
def cutL (text:List UInt8) (gen:Nat):List Pt:=(List.range (allOf text.length)).map fun i=>⟨gen,i,allOf text.length,(text.drop (48*i)).take 48⟩
def partsV (l:List Pt):List Value:=l.flatMap Pt.cells
theorem cutL_len (text:List UInt8) (gen:Nat):(cutL text gen).length=allOf text.length:=by simp [cutL]
theorem infoPart:(Tryz.prog.info? 277).map (fun i=>(i.zero,i.size,i.bytes))=some (some (.agg #[.int .u64 0,.int .i64 0,.int .i64 0,.string ByteArray.empty]),4,40):=kR
theorem cut_c (s:ByteArray) (gen:Nat) (w:World) (hs:s.size≤100000) :
 Calls Tryz.prog 173 #[.string s,.int .u64 (gen:Int)] w fun e w'=>∃v,e=.returned v∧Own w' 277 4 v (allOf s.size) (partsV (cutL s.data.toList gen))∧Below w.heap.size w w'∧(∀q,v.ownBlock=some q→w.heap.size≤q):=by
 obtain ⟨i0,hi0,hz0,hz1,hz2⟩:=info_parts infoPart;have HA:Hid (allOf s.size=max ((s.size+47) / 48) 1):=rfl;have hA1:1≤allOf s.size:=by rw [HA.out];omega
 have hA2:48*(allOf s.size - 1)≤s.size:=by rw [HA.out];omega
 have hA3:s.size≤48*allOf s.size:=by rw [HA.out];omega
 have hmax:((allOf s.size:Nat):Int)=max (((s.size:Int)+48 - 1) / 48) 1:=by rw [HA.out];omega
 have HM:=Lib.hid hmax;clear hmax;go_enter Tryz.func173,Tryz.ntmps173
 go_wp2_with fail
 rw [← HM.out];have HC:Hid (∀k,k≤allOf s.size→(cutL s.data.toList gen).take k=(List.range k).map fun i=>(⟨gen,i,allOf s.size,(s.data.toList.drop (48*i)).take 48⟩:Pt)):=by
  intro k hk;have e:s.data.toList.length=s.size:=by simp
  rw [cutL,e,← List.map_take,List.take_range,Nat.min_eq_left hk]
 go_loopw [6,15] (fun v i wr=>∃k:Nat,k≤allOf s.size∧i=.int .i64 k∧Own wr 277 4 v k (partsV ((cutL s.data.toList gen).take k))∧Below w.heap.size w wr∧(∀q,v.ownBlock=some q→w.heap.size≤q)) (fun _ i _=>allOf s.size - (intOf i).toNat)
 case atStart=>exact ⟨0,oM,rfl,by simpa [partsV] using Own.nil _ _ _,Below.refl _ _,by simp [Value.ownBlock]⟩
 case round =>
  obtain ⟨k,hk,rfl,hO,hb,hl⟩:=hrel;by_cases hlt:k<allOf s.size
  ·have HX:=h2k hb hl
   have hk48:48*k≤s.size:=oM;clear hb hl;have key:∀(wx:World) (v2:Value) (w2:World) (x:Value),Own w2 277 4 v2 (k+1) (partsV ((cutL s.data.toList gen).take k)++Pt.cells ⟨gen,k,allOf s.size,(s.data.toList.drop (48*k)).take 48⟩)→Upd (fun q=>u6.ownBlock=some q) (wr.alloc (.cells x.cells 277)) w2 →
    (v2.ownBlock=u6.ownBlock∨v2.ownBlock=some (wr.alloc (.cells x.cells 277)).heap.size) →
    Own w2 277 4 v2 (k+1) (partsV ((cutL s.data.toList gen).take (k+1)))∧Below w.heap.size w w2∧(∀q,v2.ownBlock=some q→w.heap.size≤q):=by
    intro wx v2 w2 x h1 h2 h3;obtain ⟨hb,hl⟩:=HX.out;refine ⟨?_,(hb.alloc hb.size _).trans ⟨h2.os,h2.tape,h2.output,h2.size,fun q hq=>h2.block q (by have:=hb.size;simp;omega) (fun e=>by have:=hl q e;omega)⟩,fun q hq=>?_⟩
    ·rw [HC.out (k+1) oM,List.range_succ,List.map_append,← HC.out k oM]
     simpa [partsV] using h1
    ·rcases h3 with h | h
     ·exact hl q (by rw [← h];exact hq)
     ·rw [h] at hq
      have h5:=Option.some.inj hq;have:=hb.size;simp at h5
      omega
   have Key:=Lib.hid key;have hcell:Hid (([.int .u64 (gen:Int),.int .i64 (k:Int),.int .i64 (allOf s.size:Int),.string (s.extract (k*48) (min (((k:Int)+1)*48) (s.size:Int)).toNat)]:List Value)=Pt.cells ⟨gen,k,allOf s.size,(s.data.toList.drop (48*k)).take 48⟩):=by
    show _=_;rw [Pt.cells,extract_str_from];have e:((s.data.toList.drop (k*48)).take ((min (((k:Int)+1)*48) (s.size:Int)).toNat - k*48))=(s.data.toList.drop (48*k)).take 48:=by
     rw [Nat.mul_comm k 48];by_cases hin:48*k+48≤s.size
     ·rw [show (min (((k:Int)+1)*48) (s.size:Int)).toNat - 48*k=48 by omega]
     ·rw [show (min (((k:Int)+1)*48) (s.size:Int)).toNat - 48*k=s.size - 48*k by omega,List.take_of_length_le sM,List.take_of_length_le (by simp;omega)]
    rw [e]
   clear HA HM key;go_wp2_with (at_builtin;refine wpList_append_src rfl _ _ _ _ rfl 277 i0 _ 4 40 Tryz.underlying210 hi0 hz0 hz1 hz2 rfl u6 k _ rfl (hO.alloc _) _ 1 [_,_,_,_] rfl (Src.of_news Tryz.underlying210 _ rfl) (by simp [Value.oneCell']) (by unfold maxLen;omega) oM ?_;intro v2 w2 hO2 hU2 hl2 hs2);rw [hcell.out] at hO2;obtain ⟨k1,k2,k3⟩:=Key.out wr v2 w2 (.agg #[.int .u64 (gen:Int),.int .i64 (k:Int),.int .i64 (allOf s.size:Int),.string (s.extract (k*48) (min (((k:Int)+1)*48) (s.size:Int)).toNat)]) hO2 hU2 hl2;go_roundw
   case rel=>exact ⟨k+1,oM,by go_num,k1,k2,k3⟩
   case measure=>simp [intOf];omega
  ·obtain rfl:k=allOf s.size:=oM
   have HX:=h3k hO hb hl;clear hO hb hl;go_wp2
   go_ret
   obtain ⟨hO,hb,hl⟩:=HX.out;rw [List.take_of_length_le (by rw [cutL_len];simp)] at hO
   exact ⟨u6,rfl,hO,hb,hl⟩
def textL (l:List Pt):List UInt8:=l.flatMap Pt.text
def firstAll (l:List Pt):Nat:=(l.head?.map Pt.all).getD 0
def firstGen (l:List Pt):Nat:=(l.head?.map Pt.gen).getD 0
def holdL (l:List Pt):List UInt8 × Nat :=
 if firstGen l=0 then ([],0) else
 if 400<(textL (l.take (firstAll l))).length then ([],0) else
 if cutL (textL (l.take (firstAll l))) (firstGen l)=l.take (allOf (textL (l.take (firstAll l))).length) then (textL (l.take (firstAll l)),firstGen l) else ([],0)
theorem partsV_get (l:List Pt) (i:Nat) (hi:i<l.length) (j:Nat) (hj:j<4):(partsV l)[i*4+j]? = (Pt.cells l[i])[j]? := by
 induction l generalizing i with
 | nil=>simp at hi
 | cons p l ih =>
   cases i with
   | zero =>
     simp only [partsV,List.flatMap_cons];rw [List.getElem?_append_left (by simp [Pt.cells];omega)];simp
   | succ i =>
     simp only [partsV,List.flatMap_cons];rw [List.getElem?_append_right (by simp [Pt.cells];omega)];have e:(i+1)*4+j - (Pt.cells p).length=i*4+j:=by simp [Pt.cells];omega
     rw [e];have:=ih i (by simpa using hi);simpa [partsV] using this
theorem textL_len (l:List Pt) (ht:∀p ∈ l,p.text.length≤48):(textL l).length≤48*l.length:=by
 induction l with
 | nil=>simp [textL]
 | cons p l ih =>
   have h1:=ih fun q hq=>ht q (by simp [hq])
   have h2:=ht p sM;simp only [textL,List.flatMap_cons,List.length_append,List.length_cons] at h1 ⊢;omega
theorem textL_take_succ (l:List Pt) (k:Nat) (hk:k<l.length):textL (l.take (k+1))=textL (l.take k)++l[k].text:=by
 rw [List.take_succ_eq_append_getElem hk,textL,List.flatMap_append];simp [textL]
theorem str_beq (a b:List UInt8):((str a).toList == (str b).toList)=decide (a=b):=by
 rw [ByteArray.toList_eq,ByteArray.toList_eq];simp only [str];by_cases h:a=b<;>simp [h]
theorem fields_part:(Tryz.prog.fieldsOf 277).toList.map (fun f=>(f.name == "_",f.type,f.offset))=[(false,112,0),(false,3,1),(false,3,2),(false,9,3)]:=kR
theorem part_neq (p q:Pt) (W:World):(binOp .neq 277 p.val q.val).run Tryz.prog W=.ok (.bool (!decide (p=q))) W:=by
 rw [Pt.val,Pt.val,run_neq_struct,run_equalIn_agg _ _ _ _ _ kR kR];have hf:=fields_part;generalize (Tryz.prog.fieldsOf 277).toList=fs at hf;obtain ⟨f0,f1,f2,f3,rfl⟩:∃f0 f1 f2 f3,fs=[f0,f1,f2,f3]:=by
  have hl:=congrArg List.length hf;match fs,hl with
  | [a,b,c,d],_=>exact ⟨a,b,c,d,rfl⟩
 simp only [List.map_cons,List.map_nil,List.cons.injEq,Prod.mk.injEq,beq_eq_false_iff_ne,and_true] at hf;obtain ⟨⟨a0,b0,c0⟩,⟨a1,b1,c1⟩,⟨a2,b2,c2⟩,⟨a3,b3,c3⟩⟩:=hf;obtain ⟨g1,n1,l1,t1⟩:=p;obtain ⟨g2,n2,l2,t2⟩:=q;have hq (n m:Nat):((n:Int) == (m:Int))=decide (n=m):=by
  by_cases h:n=m
  ·simp [h]
  ·rw [decide_eq_false h,beq_eq_false_iff_ne];omega
 have e1 (x y:Int) (W:World):(Op.equalIn 9999 112 (.int .u64 x) (.int .u64 y)).run Tryz.prog W=.ok (x == y) W:=run_equalIn_int W 9998 112 .u64 .u64 x y Tryz.underlying112;have e2 (x y:Int) (W:World):(Op.equalIn 9999 3 (.int .i64 x) (.int .i64 y)).run Tryz.prog W=.ok (x == y) W:=run_equalIn_int W 9998 3 .i64 .i64 x y Tryz.underlying3;have e3 (x y:ByteArray) (W:World):(Op.equalIn 9999 9 (.string x) (.string y)).run Tryz.prog W=.ok (x.toList == y.toList) W:=run_equalIn_string W 9998 9 x y Tryz.underlying9;have q1 (k:Nat) (xs:Array Value) (v:Value) (W:World) (h:xs[k]? = some v):(part 112 xs k).run Tryz.prog W=.ok v W:=run_part_plain (w:=W) kR h;have q2 (k:Nat) (xs:Array Value) (v:Value) (W:World) (h:xs[k]? = some v):(part 3 xs k).run Tryz.prog W=.ok v W:=run_part_plain (w:=W) kR h;have q3 (k:Nat) (xs:Array Value) (v:Value) (W:World) (h:xs[k]? = some v):(part 9 xs k).run Tryz.prog W=.ok v W:=run_part_plain (w:=W) kR h;simp only [Op.eqFields,a0,a1,a2,a3,b0,b1,b2,b3,c0,c1,c2,c3,Sem.run_bind,ne_eq,not_false_eq_true,if_true];rw [q1 0 _ (.int .u64 g1) _ rfl,Result.andThen_ok,q1 0 _ (.int .u64 g2) _ rfl,Result.andThen_ok,e1,Result.andThen_ok,hq]
 by_cases h0:g1=g2
 ·rw [decide_eq_true h0]
  simp only [Bool.not_true,Bool.false_eq_true,if_false,Sem.run_bind];rw [q2 1 _ (.int .i64 n1) _ rfl,Result.andThen_ok,q2 1 _ (.int .i64 n2) _ rfl,Result.andThen_ok,e2,Result.andThen_ok,hq];by_cases h1:n1=n2
  ·rw [decide_eq_true h1]
   simp only [Bool.not_true,Bool.false_eq_true,if_false,Sem.run_bind];rw [q2 2 _ (.int .i64 l1) _ rfl,Result.andThen_ok,q2 2 _ (.int .i64 l2) _ rfl,Result.andThen_ok,e2,Result.andThen_ok,hq];by_cases h2:l1=l2
   ·rw [decide_eq_true h2]
    simp only [Bool.not_true,Bool.false_eq_true,if_false,Sem.run_bind];rw [q3 3 _ (.string (str t1)) _ rfl,Result.andThen_ok,q3 3 _ (.string (str t2)) _ rfl,Result.andThen_ok,e3,Result.andThen_ok,str_beq];by_cases h3:t1=t2<;>simp [h0,h1,h2,h3]
   ·simp [h2]
  ·simp [h1]
 ·simp [h0]
theorem part_one (p:Pt):(#[Value.int .u64 (p.gen:Int),.int .i64 (p.number:Int),.int .i64 (p.all:Int),.string (str p.text)]).all (·.oneCell')=true:=by simp [Value.oneCell']
theorem below_drew' {n:Nat} {w w':World} (h:Below n w w'):Below n w w'.drew:=h.trans (Below.drew (Below.refl _ _))
theorem held_one (t:ByteArray) (n:Int):(#[Value.string t,.int .u64 n]).all (·.oneCell')=true:=by simp [Value.oneCell']
theorem zz28 {P:Prop} (h:P:=by
 go_enter Tryz.func119,Tryz.ntmps119
 go_wp2
 exact bodyPost_ret (results_cell_row rfl _ _ w.heap.size _ _ _ _ rfl ((Blk.new w _ _).alloc _) Tryz.underlying207 rfl rfl) rfl ⟨rfl,((Below.refl _ w).alloc (Nat.le_refl _) _).alloc sM _⟩):P:=h
theorem zz29 {P:Prop} (h:P:=by
 exact hb.trans ⟨hU6.os,hU6.tape,hU6.output,hU6.size,fun b hbl=>hU6.block b (Nat.lt_of_lt_of_le hbl hb.size) oM⟩):P:=h
theorem zz39 {P:Prop} (h:P:=by
 intro j hj;have hgl:=HOw.out.lt (k:=g) (by simp [Value.ownBlock]);rw [← HC.out k j hkl hj,hbZ.cell (p:=⟨g,k*4+j,none⟩) (Nat.lt_of_lt_of_le hgl H2.out.2.1.size),H2.out.2.1.cell (p:=⟨g,k*4+j,none⟩) hgl]):P:=h
theorem hold_c (v:Value) (l:List Pt) (w:World) (hO:Own w 277 4 v l.length (partsV l)) (hl:l.length≤1000) (ht:∀p ∈ l,p.text.length≤48) (ha:∀p ∈ l,p.all<256) :
 Calls Tryz.prog 119 #[v] w fun e w'=>e=.returned (.agg #[.string (str (holdL l).1),.int .u64 ((holdL l).2:Int)])∧Below w.heap.size w w':=by
 by_cases hn:l.length=0
 ·obtain ⟨A,c,hv,_⟩:=hO.shape
  have hl0:l=[]:=List.length_eq_zero_iff.1 hn;subst hl0;simp only [List.length_nil] at hv;subst hv;clear hO hn;have hr:holdL []=([],0):=rfl;rw [hr];exact zz28
 ·obtain ⟨g, cap,rfl,_,_⟩:=hO.head oM
  have h0:0<l.length:=oM;have hOw:=(hO.alloc (.cells #[.string ⟨#[]⟩,.int .u64 0] 207)).alloc (.cells #[.string ⟨#[]⟩,.int .u64 0] 207);have hcell:∀(i j:Nat) (hi:i<l.length) (hj:j<4),((w.alloc (.cells #[.string ⟨#[]⟩,.int .u64 0] 207)).alloc (.cells #[.string ⟨#[]⟩,.int .u64 0] 207)).cell? ⟨g,i*4+j,none⟩=(Pt.cells l[i])[j]? := by
   intro i j hi hj;rw [hOw.cellAt (i*4+j) oM,partsV_get l i hi j hj]
  have hg0:=hcell 0 0 h0 oM;have ha0:=hcell 0 2 h0 oM;simp only [Nat.zero_mul,Nat.zero_add,Pt.cells,List.getElem?_cons_zero,List.getElem?_cons_succ] at hg0 ha0;have hlt0:(0:Int)<(l.length:Int):=oM;have hne0:((l.length:Int) == 0)=false:=by rw [beq_eq_false_iff_ne];omega
  have HC:=Lib.hid hcell;have HOw:=Lib.hid hOw;clear hcell hOw hO;by_cases hz:l[0].gen=0
  ·have hr:holdL l=([],0):=by
    have e:firstGen l=l[0].gen:=by cases l with | nil=>simp at h0 | cons p l=>rfl
    simp [holdL,e,hz]
   rw [hr];rw [hz] at hg0;exact zz28
  ·have hz' : ((l[0].gen:Int) == 0)=false:=by rw [beq_eq_false_iff_ne];omega
   go_enter Tryz.func119,Tryz.ntmps119
   go_wp2
   have hBb:Blk ((w.alloc (.cells #[.string ⟨#[]⟩,.int .u64 0] 207)).alloc (.cells #[.string ⟨#[]⟩,.int .u64 0] 207)) (w.heap.size+1) 207 #[.string ⟨#[]⟩,.int .u64 0]:=by
    have h:=Blk.new (w.alloc (.cells #[.string ⟨#[]⟩,.int .u64 0] 207)) 207 #[.string ⟨#[]⟩,.int .u64 0];simpa using h
   have hBa:Blk ((w.alloc (.cells #[.string ⟨#[]⟩,.int .u64 0] 207)).alloc (.cells #[.string ⟨#[]⟩,.int .u64 0] 207)) w.heap.size 207 #[.string ⟨#[]⟩,.int .u64 0]:=(Blk.new w _ _).alloc _;have hbw:Below w.heap.size w ((w.alloc (.cells #[.string ⟨#[]⟩,.int .u64 0] 207)).alloc (.cells #[.string ⟨#[]⟩,.int .u64 0] 207)):=((Below.refl _ w).alloc (Nat.le_refl _) _).alloc sM _;have hsW:((w.alloc (.cells #[.string ⟨#[]⟩,.int .u64 0] 207)).alloc (.cells #[.string ⟨#[]⟩,.int .u64 0] 207)).heap.size=w.heap.size+2:=by simp
   have HB:=h4k hBa hBb hbw hsW;clear hBa hBb hbw hsW;clear hg0 ha0;generalize ((w.alloc (.cells #[.string ⟨#[]⟩,.int .u64 0] 207)).alloc (.cells #[.string ⟨#[]⟩,.int .u64 0] 207))=W at *;have hmn:min (l[0].all:Int) (l.length:Int)=((min l[0].all l.length:Nat):Int):=oM;have HT:=Lib.hid (textL_take_succ l);have HL:Hid (∀k,k≤l.length→(textL (l.take k)).length≤48*k):=by
    intro k hk;have h:=textL_len (l.take k) fun p hp=>ht p (List.mem_of_mem_take hp)
    rw [List.length_take,Nat.min_eq_left hk] at h;exact h
   have hmr:=Nat.min_le_right l[0].all l.length;go_loopw [4,27] (fun t i wr=>∃k:Nat,k≤min l[0].all l.length∧t=.string (str (textL (l.take k)))∧i=.int .i64 k∧wr=W) (fun _ i _=>min l[0].all l.length - (intOf i).toNat)
   case atStart=>exact ⟨0,oM,rfl,rfl,rfl⟩
   case round =>
    obtain ⟨k,hk,rfl,rfl,rfl⟩:=hrel;by_cases hlt:k<min l[0].all l.length
    ·have hkl:k<l.length:=oM
     have hc:=HC.out k 3 hkl oM;simp only [Pt.cells,List.getElem?_cons_zero,List.getElem?_cons_succ] at hc;have hs:=Lib.hid (HL.out k oM);have hsk:=HL.out k oM;have htk:=ht l[k] (List.getElem_mem _);have hz1:(str (textL (l.take k))).size≤48*k:=by rw [str_size];exact hsk
     have hz2:(str l[k].text).size≤48:=by rw [str_size];exact htk
     have hcat:=str_app (textL (l.take k)) l[k].text;clear hsk htk;go_wp2
     go_roundw
     case rel=>exact ⟨k+1,oM,by rw [HT.out k hkl],by go_num,trivial⟩
     case measure=>simp [intOf];omega
    ·obtain rfl : k=min l[0].all l.length:=oM
     have htl:l.take (min l[0].all l.length)=l.take (firstAll l):=by
      have e:firstAll l=l[0].all:=by cases l with | nil=>simp at h0 | cons p l=>rfl
      rw [e];by_cases h:l[0].all≤l.length
      ·rw [Nat.min_eq_left h]
      ·rw [Nat.min_eq_right oM,List.take_of_length_le (Nat.le_refl _),List.take_of_length_le oM]
     have hfg:firstGen l=l[0].gen:=by cases l with | nil=>simp at h0 | cons p l=>rfl
     have hTl:(textL (l.take (firstAll l))).length≤48*l.length:=by
      rw [← htl];have h:=HL.out (min l[0].all l.length) hmr;omega
     rw [htl];have HH:Hid (holdL l=if 400<(textL (l.take (firstAll l))).length then ([],0) else
      if cutL (textL (l.take (firstAll l))) (firstGen l)=l.take (allOf (textL (l.take (firstAll l))).length) then (textL (l.take (firstAll l)),firstGen l) else ([],0)):=by
      show _=_;rw [holdL,if_neg (by rw [hfg];exact hz)]
     generalize textL (l.take (firstAll l))=T at HH hTl ⊢;have hTs:(str T).size=T.length:=str_size T;by_cases h4:400<T.length
     ·have h4':(400:Int)<(str T).size:=oM
      go_wp2_with (first | (refine wpList_load_all rfl _ _ rfl (w.heap.size+1) rfl _ _ _ HB.out.2.1 Tryz.underlying207 rfl rfl ?_) | (refine wsl 207 w.heap.size #[.string ⟨#[]⟩,.int .u64 0] HB.out.1 (held_one _ _) ?_;intro w2 hB2 hU2 hs2));refine bodyPost_ret (results_cell_row rfl _ _ w.heap.size _ _ _ _ rfl hB2 Tryz.underlying207 rfl rfl) rfl ⟨?_,HB.out.2.2.1.trans ⟨hU2.os,hU2.tape,hU2.output,hU2.size,fun b hb=>hU2.block b (Nat.lt_of_lt_of_le hb HB.out.2.2.1.size) oM⟩⟩;rw [HH.out,if_pos h4];rfl
     ·have h4' : ¬(400:Int)<(str T).size:=oM
      rw [if_neg h4] at HH;have HCut:Hid (∀W,Calls Tryz.prog 173 #[.string (str T),.int .u64 (l[0].gen:Int)] W fun e w'=>∃v,e=.returned v∧Own w' 277 4 v (allOf T.length) (partsV (cutL T l[0].gen))∧Below W.heap.size W w'∧(∀q,v.ownBlock=some q→W.heap.size≤q)):=by
       intro W;have h:=cut_c (str T) l[0].gen W oM;rw [hTs] at h;have e:(str T).data.toList=T:=by simp [str]
       rw [e] at h;exact h
      have hg0:=HC.out 0 0 h0 oM;simp only [Nat.zero_mul,Nat.zero_add,Pt.cells,List.getElem?_cons_zero] at hg0;have hb2l:=HB.out.2.2.2;have hA:allOf T.length≤9:=by unfold allOf;omega
      have hA':1≤allOf T.length:=by unfold allOf;omega
      by_cases h5:l.length<allOf T.length
      ·have h5':(l.length:Int)<(allOf T.length:Int):=oM
       go_wp2_with (first
        | (go_at_call 173
           refine (HCut.out _).mono ?_;rintro e w2 ⟨v2,rfl,hO2,hb2,hl2⟩;obtain ⟨g2,cap2,rfl,hx1,hx2⟩:=hO2.head oM;have hBa:=HB.out.1.eqb (hb2.block _ oM);have hBb:=HB.out.2.1.eqb (hb2.block _ oM);have H2:=h5k hO2 hb2 hl2 hBa hBb;clear hO2 hb2 hl2 hBa hBb)
        | (refine wpList_load_all rfl _ _ rfl (w.heap.size+1) rfl _ _ _ H2.out.2.2.2.2 Tryz.underlying207 rfl rfl ?_)
        | (refine wsl 207 w.heap.size #[.string ⟨#[]⟩,.int .u64 0] H2.out.2.2.2.1 (held_one _ _) ?_
           intro w3 hB3 hU3 hs3))
       refine bodyPost_ret (results_cell_row rfl _ _ w.heap.size _ _ _ _ rfl hB3 Tryz.underlying207 rfl rfl) rfl ⟨?_,?_⟩
       ·rw [HH.out,if_neg]
        ·rfl
        ·intro h
         have h:=congrArg List.length h;rw [cutL_len,List.length_take] at h;omega
       ·have hb2:=H2.out.2.1
        rw [hb2l] at hb2;have hb:=HB.out.2.2.1.trans (hb2.mono oM);exact hb.trans ⟨hU3.os,hU3.tape,hU3.output,hU3.size,fun b hbl=>hU3.block b (Nat.lt_of_lt_of_le hbl hb.size) oM⟩
      ·have h5' : ¬(l.length:Int)<(allOf T.length:Int):=oM
       go_wp2_with (first
        | (go_at_call 173
           refine (HCut.out _).mono ?_;rintro e w2 ⟨v2,rfl,hO2,hb2,hl2⟩;obtain ⟨g2,cap2,rfl,hx1,hx2⟩:=hO2.head oM;have hBa:=HB.out.1.eqb (hb2.block _ oM);have hBb:=HB.out.2.1.eqb (hb2.block _ oM);have H2:=h5k hO2 hb2 hl2 hBa hBb;clear hO2 hb2 hl2 hBa hBb))
       have hCl:=cutL_len T l[0].gen;generalize hCd:cutL T l[0].gen=C at *;go_loopw [56] (fun i wx=>∃k:Nat,k≤allOf T.length∧i=.int .i64 k∧Below w2.heap.size w2 wx∧C.take k=l.take k) (fun i _=>allOf T.length - (intOf i).toNat)
       case atStart=>exact ⟨0,oM,rfl,Below.refl _ _,rfl⟩
       case round =>
        obtain ⟨k,hk2,rfl,hbx,heq⟩:=hrel;by_cases hlt2:k<allOf T.length
        ·have hkl:k<l.length:=oM
         have hkC:k<C.length:=oM;have hc0:∀j,j<4→wr.cell? ⟨g2,k*4+j,none⟩=(Pt.cells C[k])[j]? := by
          intro j hj;have hO2:=(H2.out.1).eqb (w':=wr) fun q hq=>hbx.block q (H2.out.1.lt hq)
          rw [hO2.cellAt (k*4+j) oM,partsV_get C k hkC j hj]
         have hd0:=hc0 0 oM;have hd1:=hc0 1 oM;have hd2:=hc0 2 oM;have hd3:=hc0 3 oM;simp only [Nat.add_zero,Pt.cells,List.getElem?_cons_zero,List.getElem?_cons_succ] at hd0 hd1 hd2 hd3;clear hc0;have hbW:=hb2l;have HX:=h3k hbx heq hkC;clear hbx heq;have hpd:=part_neq l[k] C[k];simp only [Pt.val] at hpd;by_cases hpq:l[k]=C[k]
         ·rw [decide_eq_true hpq] at hpd
          simp only [Bool.not_true] at hpd;go_wp2_with (first
           | (refine wsl 277 wr.heap.size #[.int .u64 C[k].gen,.int .i64 C[k].number,.int .i64 C[k].all,.string (str C[k].text)] (Blk.new wr 277 #[.int .u64 0,.int .i64 0,.int .i64 0,.string ⟨#[]⟩]) (part_one _) ?_
              intro w3 hB3 hU3 hs3;have hc3:=hB3.cells4;have hUx:Below wr.heap.size wr w3:=⟨hU3.os,hU3.tape,hU3.output,by simp at hs3;omega,fun q hq=>(hU3.block q (by simp;omega) oM).trans (Below.heap_alloc wr _ q hq)⟩;have hbZ:Below w2.heap.size w2 w3:=HX.out.1.trans (hUx.mono HX.out.1.size);have hbY:=HB.out.2.2.1.size;have hp0:∀j,j<4→w3.cell? ⟨g,k*4+j,none⟩=(Pt.cells l[k])[j]? := by
               exact zz39
              have hp4:=hp0 0 oM;have hp1:=hp0 1 oM;have hp2:=hp0 2 oM;have hp3:=hp0 3 oM;simp only [Nat.add_zero,Pt.cells,List.getElem?_cons_zero,List.getElem?_cons_succ] at hp4 hp1 hp2 hp3;have H3:=h2k hbZ hB3;clear hp0 hbZ hbY hUx hU3 hs3 hB3 hd0 hd1 hd2 hd3))
          go_region
          all_goals
           go_wp2
           go_roundw
           case rel =>
            refine ⟨k+1,oM,by go_num,below_drew' H3.out.1,?_⟩;rw [List.take_succ_eq_append_getElem hkC,List.take_succ_eq_append_getElem hkl,HX.out.2.1,hpq]
           case measure=>simp [intOf];omega
         ·rw [decide_eq_false hpq] at hpd
          simp only [Bool.not_false] at hpd;go_wp2_with (first
           | (refine wsl 277 wr.heap.size #[.int .u64 C[k].gen,.int .i64 C[k].number,.int .i64 C[k].all,.string (str C[k].text)] (Blk.new wr 277 #[.int .u64 0,.int .i64 0,.int .i64 0,.string ⟨#[]⟩]) (part_one _) ?_
              intro w3 hB3 hU3 hs3;have hc3:=hB3.cells4;have hUx:Below wr.heap.size wr w3:=⟨hU3.os,hU3.tape,hU3.output,by simp at hs3;omega,fun q hq=>(hU3.block q (by simp;omega) oM).trans (Below.heap_alloc wr _ q hq)⟩;have hbZ:Below w2.heap.size w2 w3:=HX.out.1.trans (hUx.mono HX.out.1.size);have hbY:=HB.out.2.2.1.size;have hp0:∀j,j<4→w3.cell? ⟨g,k*4+j,none⟩=(Pt.cells l[k])[j]? := by
               exact zz39
              have hp4:=hp0 0 oM;have hp1:=hp0 1 oM;have hp2:=hp0 2 oM;have hp3:=hp0 3 oM;simp only [Nat.add_zero,Pt.cells,List.getElem?_cons_zero,List.getElem?_cons_succ] at hp4 hp1 hp2 hp3;have H3:=h2k hbZ hB3;clear hp0 hbZ hbY hUx hU3 hs3 hB3 hd0 hd1 hd2 hd3))
          go_region
          all_goals
           have hB4:Blk w3.drew (w.heap.size+1) 207 #[.string ⟨#[]⟩,.int .u64 0]:=(H2.out.2.2.2.2).eqb (H3.out.1.block _ H2.out.2.2.2.2.lt);have hB5:Blk w3.drew w.heap.size 207 #[.string ⟨#[]⟩,.int .u64 0]:=(H2.out.2.2.2.1).eqb (H3.out.1.block _ H2.out.2.2.2.1.lt);have H5:=h2k hB4 hB5;clear hB4 hB5;go_wp2_with (first
            | (refine wpList_load_all rfl _ _ rfl (w.heap.size+1) rfl _ _ _ H5.out.1 Tryz.underlying207 rfl rfl ?_)
            | (refine wsl 207 w.heap.size #[.string ⟨#[]⟩,.int .u64 0] H5.out.2 (held_one _ _) ?_
               intro w6 hB6 hU6 hs6))
           refine bodyPost_ret (results_cell_row rfl _ _ w.heap.size _ _ _ _ rfl hB6 Tryz.underlying207 rfl rfl) rfl ⟨?_,?_⟩
           ·rw [HH.out,if_neg]
            ·rfl
            ·intro h
             apply hpq
             have hh:=congrArg (fun x=>x[k]?) h;rw [hfg] at hh;simp only [hCd] at hh;rw [List.getElem?_take_of_lt hlt2,List.getElem?_eq_getElem hkC,List.getElem?_eq_getElem hkl] at hh;exact (Option.some.inj hh).symm
           ·have hb2:=H2.out.2.1
            rw [hb2l] at hb2;have hb:=(HB.out.2.2.1.trans (hb2.mono oM)).trans ((below_drew' (H3.out.1)).mono (Nat.le_trans (HB.out.2.2.1.size) (H2.out.2.1.size)));exact zz29
        ·obtain rfl:k=allOf T.length:=oM
         have HX:=h2k hbx heq;clear hbx heq;have hg1:wr.cell? ⟨g,0,none⟩=some (.int .u64 (l[0].gen:Int)):=by
          have hgl:=HOw.out.lt (k:=g) (by simp [Value.ownBlock]);have hbY:=HB.out.2.2.1.size;rw [HX.out.1.cell (p:=⟨g,0,none⟩) (Nat.lt_of_lt_of_le hgl H2.out.2.1.size),H2.out.2.1.cell (p:=⟨g,0,none⟩) hgl];exact hg0
         have hB5:Blk wr w.heap.size 207 #[.string ⟨#[]⟩,.int .u64 0]:=(H2.out.2.2.2.1).eqb (HX.out.1.block _ H2.out.2.2.2.1.lt);have H5:=Lib.hid hB5;clear hB5 hg0;go_wp2_with (first
          | (refine wsl 207 w.heap.size #[.string (str T),.int .u64 l[0].gen] H5.out (held_one _ _) ?_
             intro w6 hB6 hU6 hs6))
         refine bodyPost_ret (results_cell_row rfl _ _ w.heap.size _ _ _ _ rfl hB6 Tryz.underlying207 rfl rfl) rfl ⟨?_,?_⟩
         ·rw [HH.out,if_pos,hfg]
          rw [hfg,hCd,← HX.out.2,List.take_of_length_le oM]
         ·have hb2:=H2.out.2.1
          rw [hb2l] at hb2;have hb:=(HB.out.2.2.1.trans (hb2.mono oM)).trans (HX.out.1.mono (Nat.le_trans (HB.out.2.2.1.size) (H2.out.2.1.size)));exact zz29
def readL (b:List UInt8):Pt × Bool :=
 if 48<(b.getD 10 0).toNat then (⟨leN (b.take 8),(b.getD 8 0).toNat,(b.getD 9 0).toNat,[]⟩,false) else
 (⟨leN (b.take 8),(b.getD 8 0).toNat,(b.getD 9 0).toNat,(b.drop 12).take (b.getD 10 0).toNat⟩,
   decide (b.getD 11 0=0∧b.drop (12+(b.getD 10 0).toNat)=List.replicate (48 - (b.getD 10 0).toNat) 0))
theorem getD_c (s:ByteArray) (k:Nat) (hk:k<s.size):s.data.toList.getD k 0=s[k]:=by
 simp [List.getD,hk,ByteArray.getElem_eq_getElem_data]
theorem u8_i64 (b:UInt8):IntKind.i64.wrap (b.toNat:Int)=(b.toNat:Int):=IntWalk.i64_in _ (oN b.toNat_lt)
theorem read_test (l:List UInt8) (m n:Nat) (hm:m=60) (hl:l.length=60) (hn:n≤48):((Lib.countByte (List.take (m - (12+n)) (List.drop (12+n) l)) 0:Int) == 48 - (n:Int))=decide (List.drop (12+n) l=List.replicate (48 - n) 0):=by
 have hd:(List.drop (12+n) l).length=48 - n:=by simp [hl];omega
 rw [List.take_of_length_le oM];have h:=count_zero (List.drop (12+n) l);rw [hd] at h;by_cases hz:List.drop (12+n) l=List.replicate (48 - n) 0
 ·rw [decide_eq_true hz,h.2 hz,beq_iff_eq];omega
 ·rw [decide_eq_false hz,beq_eq_false_iff_ne]
  intro hh;exact hz (h.1 oM)
theorem results_cell_slot {P:Program} {fn:Func} {p q:Tmp} {ty:TypeId} (h:fn.results=#[.cell p ty,.tmp q]) (tmps:Array Value) (w:World) (g:Nat) (t:TypeId) (cs:Array Value) (fr:Nat × Nat) (d:TypeDesc)
 (hp:tmps.getD p undef=.pointer (some ⟨g,0,none⟩)) (hg:w.heap[g]? = some (.cells cs t fr))
 (hu:P.underlying ty=some d) (hd:(match d with | .struct _ | .array _ _=>true | _=>false)=true) (hi:(P.info? ty).map (·.size)=some cs.size) (v:Value) (hv:tmps.getD q undef=v) :
 (results fn tmps).run P w=.ok (.tuple #[.agg cs,v]) w:=by
 subst hv;have hp':tmps[p]?.getD undef=.pointer (some ⟨g,0,none⟩):=by simpa using hp
 simp [results,h,hp',asAddr,run_loadVar_row w g t ty cs fr d hg hu hd hi]
theorem zz13 {P:Prop} (h:P:=by
 have hb:=HB.out.2.2.1;have hU3:=H3.out.2.2;have h1:=hb.trans (⟨hU3.os,hU3.tape,hU3.output,hU3.size,fun b hbl=>hU3.block b (Nat.lt_of_lt_of_le hbl hb.size) oM⟩:Below w.heap.size _ w3);exact ((((h1.setCell (p:=⟨w.heap.size,0,none⟩) (Nat.le_refl _) _).setCell (p:=⟨w.heap.size,1,none⟩) (Nat.le_refl _) _).setCell (p:=⟨w.heap.size,2,none⟩) (Nat.le_refl _) _).setCell (p:=⟨w.heap.size,3,none⟩) (Nat.le_refl _) _).drew):P:=h
theorem read_k (s:ByteArray) (w:World) (hs:s.size=60) :
 Calls Tryz.prog 172 #[.string s] w fun e w'=>e=.returned (.tuple #[(readL s.data.toList).1.val,.bool (readL s.data.toList).2])∧Below w.heap.size w w':=by
 have h8:(8:Int)<s.size:=oM;have h9:(9:Int)<s.size:=oM;have h10:(10:Int)<s.size:=oM;have h11:(11:Int)<s.size:=oM;have g8:8<s.size:=oM;have g9:9<s.size:=oM;have g10:10<s.size:=oM;have g11:11<s.size:=oM;have e8:=Lib.hid (getD_c s 8 g8);have e9:=Lib.hid (getD_c s 9 g9);have e10:=Lib.hid (getD_c s 10 g10);have e11:=Lib.hid (getD_c s 11 g11);have hg:=Lib.hid (fun W=>getLittle_kept s 8 W oM oM);go_enter Tryz.func172,Tryz.ntmps172
 go_upto_region 1 with fail
 go_cut [4] (fun s4 wx=>s4=.pointer (some ⟨w.heap.size+1,0,none⟩)∧Blk wx w.heap.size 277 #[.int .u64 0,.int .i64 0,.int .i64 0,.string ⟨#[]⟩]∧Blk wx (w.heap.size+1) 277 #[.int .u64 (leN (s.data.toList.take 8):Int),.int .i64 ((s.data.toList.getD 8 0).toNat:Int),.int .i64 ((s.data.toList.getD 9 0).toNat:Int),.string ⟨#[]⟩]∧Below w.heap.size w wx∧wx.heap.size=w.heap.size+2)
 case first =>
  go_region_held3 (fun _=>True) (trivial) (first | (go_at_call 216;refine (hg.out _).mono ?_;rintro e w2 ⟨rfl,rfl⟩));all_goals
   go_wp2_with fail
   go_meet
   rw [u8_i64,u8_i64,← e8.out,← e9.out];refine ⟨rfl,?_,?_,?_,?_⟩
   ·exact (Blk.new w _ _).alloc _
   ·have h:=Blk.new (w.alloc (.cells #[.int .u64 0,.int .i64 0,.int .i64 0,.string ⟨#[]⟩] 277)) 277 #[.int .u64 (leN (s.data.toList.take 8):Int),.int .i64 ((s.data.toList.getD 8 0).toNat:Int),.int .i64 ((s.data.toList.getD 9 0).toNat:Int),.string ⟨#[]⟩]
    have h2:=h.drew;simpa using h2
   ·exact (((Below.refl _ w).alloc (Nat.le_refl _) _).alloc sM _).drew
   ·simp
 case rest =>
  obtain ⟨rfl,hBa,hBb,hbw,hsz⟩:=hcut;have hcb:=hBb.cells4;have HB:=h4k hBa hBb hbw hsz;clear hBa hBb hbw hsz;by_cases h48:48<(s.data.toList.getD 10 0).toNat
  ·have h48':(48:Int)<(s[10].toNat:Int):=by rw [← e10.out];omega
   have hwr:IntKind.i64.wrap (s[10].toNat:Int)=(s[10].toNat:Int):=u8_i64 _;have hr:readL s.data.toList=(⟨leN (s.data.toList.take 8),(s.data.toList.getD 8 0).toNat,(s.data.toList.getD 9 0).toNat,[]⟩,false):=by unfold readL;rw [if_pos h48]
   have HR:=Lib.hid hr;clear hcb hr;go_wp2_with (first
    | (refine wpList_load_all rfl _ _ rfl (w.heap.size+1) rfl _ _ _ HB.out.2.1 Tryz.underlying277 rfl rfl ?_)
    | (refine wsl 277 w.heap.size #[.int .u64 (leN (s.data.toList.take 8):Int),.int .i64 ((s.data.toList.getD 8 0).toNat:Int),.int .i64 ((s.data.toList.getD 9 0).toNat:Int),.string ⟨#[]⟩] HB.out.1 (by simp [Value.oneCell']) ?_
       intro w6 hB6 hU6 hs6))
   have hHR:=HR.out;generalize readL s.data.toList=rr at hHR;subst hHR;refine bodyPost_ret (results_cell_slot rfl _ _ w.heap.size _ _ _ _ rfl hB6 Tryz.underlying277 rfl rfl (.bool false) rfl) rfl ⟨rfl,?_⟩;have hb:=HB.out.2.2.1;exact zz29
  ·have h48':¬(48:Int)<(s[10].toNat:Int):=by rw [← e10.out];omega
   have hwr:IntKind.i64.wrap (s[10].toNat:Int)=(s[10].toNat:Int):=u8_i64 _;have hr:readL s.data.toList=(⟨leN (s.data.toList.take 8),(s.data.toList.getD 8 0).toNat,(s.data.toList.getD 9 0).toNat,(s.data.toList.drop 12).take (s.data.toList.getD 10 0).toNat⟩,decide (s.data.toList.getD 11 0=0∧s.data.toList.drop (12+(s.data.toList.getD 10 0).toNat)=List.replicate (48 - (s.data.toList.getD 10 0).toNat) 0)):=by unfold readL;rw [if_neg h48]
   have HR:=Lib.hid hr;clear hcb hr;by_cases h0:s[11]=0
   ·have h0':((s[11].toNat:Int) == 0)=true:=by rw [h0];rfl
    go_wp2_with (first
     | (refine wpList_store_one rfl 9 _ _ rfl (w.heap.size+1) 3 (.string (s.extract 12 (12+s[10].toNat))) rfl rfl _ _ HB.out.2.1 sM rfl kR ?_
        intro w3 hB3 hU3 hs3))
    simp only [List.setIfInBounds_toArray,List.set_cons_succ,List.set_cons_zero] at hB3;have hc3:=hB3.cells4;have hBa:Blk w3 w.heap.size 277 #[.int .u64 0,.int .i64 0,.int .i64 0,.string ⟨#[]⟩]:=HB.out.1.upd hU3 oM;have H3:=h3k hB3 hBa hU3;have HK:=Lib.hid (fun W=>Tryz.strings_Count_one (s.extract (12+s[10].toNat) s.size) 0 W);have e10':=e10.out;generalize s[10]=b10 at *;have hbn:b10.toNat≤48:=oM;generalize hn:b10.toNat=n at *;have hle:(12:Int)+(n:Int)≤(s.size:Int):=oM;have hsub:IntKind.i64.wrap (48 - (n:Int))=48 - (n:Int):=IntWalk.i64_in _ oM;have hadd:IntKind.i64.wrap (12+(n:Int))=12+(n:Int):=IntWalk.i64_in _ oM;have hnn:(0:Int)≤12+(n:Int):=oM;have Hs:=h3k hs hn e10';clear hs hn e10' e10;have hca:=hBa.cells4;have hz0:=hBa.frozen 0;have hz1:=hBa.frozen 1;have hz2:=hBa.frozen 2;have hz3:=hBa.frozen 3;clear hB3 hBa hU3 hs3;go_region_held3 (fun w'=>w'.cell? ⟨w.heap.size+1,0,none⟩=some (.int .u64 (leN (s.data.toList.take 8):Int))∧w'.cell? ⟨w.heap.size+1,1,none⟩=some (.int .i64 ((s.data.toList.getD 8 0).toNat:Int))∧w'.cell? ⟨w.heap.size+1,2,none⟩=some (.int .i64 ((s.data.toList.getD 9 0).toNat:Int))∧w'.cell? ⟨w.heap.size+1,3,none⟩=some (.string (s.extract 12 (12+n)))) (go_keep) (first | (go_at_call 90;refine (HK.out _).mono ?_;rintro e w' ⟨rfl,rfl⟩))
    all_goals
     go_wp2
     have hBz:=((((H3.out.2.1.set_ 0 (.int .u64 (leN (s.data.toList.take 8):Int))).set_ 1 (.int .i64 (s[8].toNat:Int))).set_ 2 (.int .i64 (s[9].toNat:Int))).set_ 3 (.string (s.extract 12 (12+n)))).drew;simp only [List.setIfInBounds_toArray,List.set_cons_succ,List.set_cons_zero] at hBz;refine bodyPost_ret (results_cell_slot rfl _ _ w.heap.size _ _ _ _ rfl hBz Tryz.underlying277 rfl rfl (.bool ((Lib.countByte (List.take (s.size - (12+n)) (List.drop (12+n) s.data.toList)) 0:Int) == 48 - (n:Int))) rfl) rfl ⟨?_,?_⟩
     ·rw [HR.out,Hs.out.2.2,Hs.out.2.1]
      simp only [Pt.val];rw [e8.out,e9.out,e11.out,extract_str_from,Nat.add_sub_cancel_left];rw [read_test _ _ _ Hs.out.1 (by simp [Hs.out.1]) hbn];simp [h0]
     ·exact zz13
   ·have h0':((s[11].toNat:Int) == 0)=false:=by
     rw [beq_eq_false_iff_ne];intro h;exact h0 (UInt8.toNat_inj.1 (by have:(0:UInt8).toNat=0:=rfl;omega))
    go_wp2_with (first
     | (refine wpList_store_one rfl 9 _ _ rfl (w.heap.size+1) 3 (.string (s.extract 12 (12+s[10].toNat))) rfl rfl _ _ HB.out.2.1 sM rfl kR ?_
        intro w3 hB3 hU3 hs3))
    simp only [List.setIfInBounds_toArray,List.set_cons_succ,List.set_cons_zero] at hB3;have hc3:=hB3.cells4;have hBa:Blk w3 w.heap.size 277 #[.int .u64 0,.int .i64 0,.int .i64 0,.string ⟨#[]⟩]:=HB.out.1.upd hU3 oM;have H3:=h3k hB3 hBa hU3;have HK:=Lib.hid (fun W=>Tryz.strings_Count_one (s.extract (12+s[10].toNat) s.size) 0 W);have e10':=e10.out;generalize s[10]=b10 at *;have hbn:b10.toNat≤48:=oM;generalize hn:b10.toNat=n at *;have hle:(12:Int)+(n:Int)≤(s.size:Int):=oM;have hsub:IntKind.i64.wrap (48 - (n:Int))=48 - (n:Int):=IntWalk.i64_in _ oM;have hadd:IntKind.i64.wrap (12+(n:Int))=12+(n:Int):=IntWalk.i64_in _ oM;have hnn:(0:Int)≤12+(n:Int):=oM;have Hs:=h3k hs hn e10';clear hs hn e10' e10;have hca:=hBa.cells4;have hz0:=hBa.frozen 0;have hz1:=hBa.frozen 1;have hz2:=hBa.frozen 2;have hz3:=hBa.frozen 3;clear hB3 hBa hU3 hs3;refine wp_region_noPanic ?_;refine wp_region_held_drew (S:=(fun w'=>w'.cell? ⟨w.heap.size+1,0,none⟩=some (.int .u64 (leN (s.data.toList.take 8):Int))∧w'.cell? ⟨w.heap.size+1,1,none⟩=some (.int .i64 ((s.data.toList.getD 8 0).toNat:Int))∧w'.cell? ⟨w.heap.size+1,2,none⟩=some (.int .i64 ((s.data.toList.getD 9 0).toNat:Int))∧w'.cell? ⟨w.heap.size+1,3,none⟩=some (.string (s.extract 12 (12+n))))) kR ?_ (fun hHeld=>?_)
    ·go_keep
    refine tKH 0 (.agg #[.int .u64 (leN (s.data.toList.take 8):Int),.int .i64 ((s.data.toList.getD 8 0).toNat:Int),.int .i64 ((s.data.toList.getD 9 0).toNat:Int),.string (s.extract 12 (12+n))]) ?_;refine tKH 1 (.string s) ?_;refine tKH 2 (.int .u8 (s[11].toNat:Int)) ?_;refine tKH 3 (.bool false) ?_;refine tKH 4 (.bool false) ?_;refine tKHu 5 ?_;refine tKHu 6 ?_;refine tKHu 7 ?_;refine tKHu 8 ?_;refine tKHu 9 ?_;refine tKHu 10 ?_;refine tKHu 11 ?_;refine tKHu 12 ?_;refine tKH 13 (.bool false) ?_;refine wpAnyH_ready (rs:=[14]) kR sM ?_;refine AllReadyH.cons rfl (fun K hK=>?_) AllReadyH.nil;go_simp
    refine hK.out _ _ ?_ (fun hHeld2=>?_)
    ·go_keep
    clear hK K;refine tKH 15 (.bool false) ?_;refine wpAnyH_done kR ?_ _;refine NoPanic.normal ?_;all_goals
     go_wp2
     have hBz:=((((H3.out.2.1.set_ 0 (.int .u64 (leN (s.data.toList.take 8):Int))).set_ 1 (.int .i64 (s[8].toNat:Int))).set_ 2 (.int .i64 (s[9].toNat:Int))).set_ 3 (.string (s.extract 12 (12+n)))).drew;simp only [List.setIfInBounds_toArray,List.set_cons_succ,List.set_cons_zero] at hBz;refine bodyPost_ret (results_cell_slot rfl _ _ w.heap.size _ _ _ _ rfl hBz Tryz.underlying277 rfl rfl (.bool false) rfl) rfl ⟨?_,?_⟩
     ·rw [HR.out,Hs.out.2.2,Hs.out.2.1]
      simp only [Pt.val];rw [e8.out,e9.out,e11.out,extract_str_from,Nat.add_sub_cancel_left];simp [h0]
     ·exact zz13
structure Kp where
 from_:Nat
 text:List UInt8
 gen:Nat
 at_:Nat
 seen:Nat
 broken:Bool
def Kp.cells (p:Nat) (k:Kp):Array Value :=
 #[.pointer (some ⟨p,0,none⟩),.int .i64 k.from_,.string (str k.text),.int .u64 k.gen,.int .i64 k.at_,.int .u64 k.seen,.bool k.broken]
structure SlotSt where
 l:List Pt
 row:Bool
 seen:Nat
 bad:Bool
def slotStep (st:SlotSt) (s:List UInt8):SlotSt :=
 if st.bad then st else
 if (lookL s).2=2 then { st with bad:=true } else
 if (lookL s).2=1 then
  { l:=if st.row && (readL (lookL s).1).2 then st.l++[(readL (lookL s).1).1] else st.l,row:=st.row && (readL (lookL s).1).2,seen:=max st.seen (readL (lookL s).1).1.gen,bad:=false }
 else { st with row:=false }
def slotAt (d:Dk) (at_ seen:Nat) (k:Nat):SlotSt:=((List.range k).map fun i=>(d.now (at_+i)).data.toList).foldl slotStep ⟨[],true,seen,false⟩
theorem slotAt_succ (d:Dk) (a seen k:Nat):slotAt d a seen (k+1)=slotStep (slotAt d a seen k) (d.now (a+k)).data.toList:=by
 simp [slotAt,List.range_succ]
theorem slotAt_bad (d:Dk) (a seen k m:Nat) (h:k≤m) (hb:(slotAt d a seen k).bad=true):slotAt d a seen m=slotAt d a seen k:=by
 induction m with
 | zero => obtain rfl:k=0:=oM
           rfl
 | succ m ih =>
   by_cases hk:k=m+1
   ·rw [hk]
   ·rw [slotAt_succ,ih oM,slotStep,if_pos hb]
theorem slotAt_len (d:Dk) (a seen k:Nat):(slotAt d a seen k).l.length≤k:=by
 induction k with
 | zero=>simp [slotAt]
 | succ k ih =>
   rw [slotAt_succ,slotStep];split
   ·omega
   ·split
    ·simp only;omega
    ·split
     ·simp only
      split
      ·simp;omega
      ·omega
     ·simp only;omega
theorem lookL_body {l:List UInt8} (h:(lookL l).2=1):(lookL l).1=l.take 60∧l.length=64:=by
 unfold lookL at h ⊢;split at h
 ·simp at h
 ·split at h
  ·simp at h
  ·split at h
   ·simp at h
   ·rename_i h1 h2 h3
    rw [if_neg h1,if_neg h2,if_neg h3];exact ⟨rfl,by simpa using h1⟩
theorem DiskAt.not_mem {w:World} {p b:Nat} {d:Dk} {F:List Nat} {t:TypeId} {cs:Array Value} (h:DiskAt w p d F) (hB:Blk w b t cs) (h1:t≠151) (h2:t≠9):b ∉ F:=by
 obtain ⟨bl,cap,bm,m,g1,g2,g3,g4,g5,rfl,g7⟩:=h;intro hb;simp only [List.mem_cons,List.mem_filterMap] at hb;rcases hb with rfl | rfl | rfl | ⟨q,hq,hk⟩
 ·exact hB.ne_ g1 h1 rfl
 ·exact g2.ne_blk hB (Ne.symm h2) (by simp [Value.ownBlock])
 ·exact g3.ne_blk hB rfl
 ·obtain ⟨i,_,_,_,h8⟩:=g4.each q hq
  exact h8.ne_blk hB (Ne.symm h2) hk
theorem Dk.read_there {d:Dk} (hoff:d.off=false) {i:Nat} (hi:i<d.lasts.length):d.read (i:Int)=(d.now i,0):=by
 unfold Dk.read Dk.there;rw [hoff,if_neg sM,if_pos (by simp;omega)];simp
theorem read_in {w:World} {p:Nat} {d:Dk} {F:List Nat} (hD:DiskAt w p d F) (i:Int) :
 Calls Tryz.prog 46 #[.pointer (some ⟨p,0,none⟩),.int .i64 i] w.drew fun e w'=>e=.returned (.tuple #[.string (d.read i).1,.int .i64 (d.read i).2])∧w.drew=w':=read_c hD.drew i
theorem Dk.wf.now_size {d:Dk} (h:d.wf) {i:Nat} (hi:i<d.lasts.length):(d.now i).size=64:=by
 unfold Dk.now;cases hl:(d.at_ i).getLast? with
 | none =>
   simp only [Option.getD_none];unfold Dk.last;rw [List.getD_eq_getElem?_getD,List.getElem?_eq_getElem hi];exact h.lasts _ (List.getElem_mem _)
 | some b =>
   simp only [Option.getD_some];have hb:=List.mem_of_getLast? hl;unfold Dk.at_ at hb;have hw:i<d.waits.length:=by rw [h.len];exact hi
   rw [List.getD_eq_getElem?_getD,List.getElem?_eq_getElem hw] at hb;exact h.waits _ (List.getElem_mem _) _ hb
theorem lookL_cases (l:List UInt8):(lookL l).2=0∨(lookL l).2=1∨(lookL l).2=2:=by
 unfold lookL;split
 ·simp
 ·split
  ·simp
  ·split<;>simp
structure SlotLeft (w w':World) (b p:Nat) (k:Kp) (v:Value) (st:SlotSt):Prop where
 list:Own w' 277 4 v st.l.length (partsV st.l)
 new:∀q,v.ownBlock=some q→w.heap.size≤q
 kept:Blk w' b 209 ({ k with seen:=st.seen }.cells p)
 upd:Upd (· = b) w w'
theorem SlotLeft.below {w w1 w2:World} {b p:Nat} {k:Kp} {v:Value} {st:SlotSt} (h:SlotLeft w w1 b p k v st) (hb:Below w1.heap.size w1 w2):SlotLeft w w2 b p k v st :=
 ⟨h.list.eqb fun q hq=>hb.block q (h.list.lt hq),h.new,h.kept.eqb (hb.block _ h.kept.lt),h.upd.then (Upd.of_below hb (fun _=>False)) wz0⟩
theorem SlotLeft.drew {w w1:World} {b p:Nat} {k:Kp} {v:Value} {st:SlotSt} (h:SlotLeft w w1 b p k v st):SlotLeft w w1.drew b p k v st:=h.below (Below.refl _ _).drew
theorem SlotLeft.saw {w w1:World} {b p:Nat} {k:Kp} {v:Value} {st:SlotSt} (h:SlotLeft w w1 b p k v st) (m:Nat):SlotLeft w (w1.setCell ⟨b,5,none⟩ (.int .u64 (m:Int))) b p k v { st with seen:=m } := by
 refine ⟨h.list.far (h.list.ne_blk h.kept dC) _,h.new,?_,h.upd.setCell (p:=⟨b,5,none⟩) (.inl rfl) _⟩;have:=h.kept.set_ 5 (.int .u64 (m:Int));simpa [Kp.cells] using this
theorem SlotLeft.app {w w1 w2:World} {b p:Nat} {k:Kp} {v v2:Value} {st:SlotSt} {pt:Pt} (h:SlotLeft w w1 b p k v st) (o:Obj) (hO2:Own w2 277 4 v2 (st.l.length+1) (partsV st.l++Pt.cells pt)) (hU2:Upd (fun q=>v.ownBlock=some q) (w1.alloc o) w2)
 (hl2:v2.ownBlock=v.ownBlock∨v2.ownBlock=some (w1.alloc o).heap.size):SlotLeft w w2 b p k v2 { st with l:=st.l++[pt] } := by
 refine ⟨?_,fun q hq=>?_,(h.kept.alloc o).upd hU2 (fun e=>h.list.ne_blk h.kept dC e),(h.upd.alloc o).then hU2 (fun q e=>.inr (h.new q e))⟩
 ·simpa [partsV] using hO2
 ·rcases hl2 with e | e
  ·exact h.new q (by rw [← e];exact hq)
  ·rw [e] at hq
   have h5:=Option.some.inj hq;have:=h.upd.size;simp at h5
   omega
def slotErr (st:SlotSt):Int:=if st.bad then 9 else 0
structure SlotEnd (w w':World) (b p:Nat) (k:Kp) (v:Value) (st:SlotSt):Prop where
 ex:∃vl,(st.bad=false→v=vl)∧SlotLeft w w' b p k vl st
theorem zz30 {P:Prop} (h:P:=by
 have HS:=Lib.hid HSs;clear HSs hc5;go_wp2
 go_roundw
 case rel =>
  refine ⟨j+1,oM,by go_num,?_,?_,?_⟩;all_goals rw [HS.out]
  have h:=HL5.out;exact ⟨h.list,h.new,h.kept,h.upd⟩
 case measure=>simp [intOf];omega):P:=h
theorem slotOf_on {w:World} {p b:Nat} {d:Dk} {F:List Nat} {k:Kp} (hD:DiskAt w p d F) (hK:Blk w b 209 (k.cells p)) (n:Nat) (hn:n≤1) (hf:k.from_+20≤d.lasts.length) (hoff:d.off=false) :
 Calls Tryz.prog 118 #[.pointer (some ⟨b,0,none⟩),.int .i64 n] w fun e w' =>
  ∃v,e=.returned (.tuple #[v,.int .i64 (slotErr (slotAt d (k.from_+n*10) k.seen 10))])∧SlotEnd w w' b p k v (slotAt d (k.from_+n*10) k.seen 10):=by
 have hm:=hD.wf.most;obtain ⟨i0,hi0,hz0,hz1,hz2⟩:=info_parts infoPart;have HD:=h4k hD hK hf hoff;have hF:k.from_≤4096:=oM;have hz0':(slotAt d (k.from_+n*10) k.seen 0)=⟨[],true,k.seen,false⟩:=rfl;have HZ:=Lib.hid hz0';clear hD hK hf hoff hm hz0';go_enter Tryz.func118,Tryz.ntmps118
 go_wp2
 go_loopw [6,7,15] (fun v r i wr=>∃j:Nat,j≤10∧i=.int .i64 j∧(slotAt d (k.from_+n*10) k.seen j).bad=false∧r=.bool (slotAt d (k.from_+n*10) k.seen j).row∧SlotLeft w wr b p k v (slotAt d (k.from_+n*10) k.seen j)) (fun _ _ i _=>10 - (intOf i).toNat)
 case atStart =>
  refine ⟨0,oM,rfl,rfl,rfl,?_⟩;rw [HZ.out];exact ⟨Own.nil _ _ _,by simp [Value.ownBlock],HD.out.2.1,Upd.refl _ _⟩
 case round =>
  obtain ⟨j,hj,rfl,hbad,rfl,hL⟩:=hrel;by_cases hlt:j<10
  ·have hD2:DiskAt wr p d F:=HD.out.1.upd hL.upd fun q hq e=>HD.out.1.not_mem HD.out.2.1 dC dC (e ▸ hq)
   have hrd:=Dk.read_there HD.out.2.2.2 (i:=k.from_+n*10+j) (oN HD.out.2.2.1);have HR:=Lib.hid hrd;have hread:(d.read ((k.from_:Int)+(n:Int)*10+(j:Int)))=(d.now (k.from_+n*10+j),0):=by
    rw [← hrd];congr 1
   have hcs:=hL.kept.cells7;have hs1:IntKind.i64.wrap ((n:Int)*10)=(n:Int)*10:=IntWalk.i64_in _ oM;have hs2:IntKind.i64.wrap ((k.from_:Int)+(n:Int)*10)=(k.from_:Int)+(n:Int)*10:=IntWalk.i64_in _ oM;have hs3:IntKind.i64.wrap ((k.from_:Int)+(n:Int)*10+(j:Int))=(k.from_:Int)+(n:Int)*10+(j:Int):=IntWalk.i64_in _ oM;have HL:=h3k hL hbad hD2;have HR2:=Lib.hid hread;clear hL hbad hD2 hrd hread;go_wp2_with fail
   go_region_held3 (fun w'=>w'.cell? ⟨b,0,none⟩=some (.pointer (some ⟨p,0,none⟩))∧w'.cell? ⟨b,1,none⟩=some (.int .i64 (k.from_:Int))) (go_keep) (first | (go_at_call 46;refine (read_in HL.out.2.2 _).mono ?_;rintro e w' ⟨rfl,rfl⟩));all_goals
    simp only [HR2.out];have hst:=slotAt_succ d (k.from_+n*10) k.seen j;have hsz:=HD.out.1.wf.now_size (i:=k.from_+n*10+j) (oN HD.out.2.2.1);have hbd:=fun h=>slotAt_bad d (k.from_+n*10) k.seen (j+1) 10 oM h
    have HLd:SlotLeft w wr.drew b p k u6 (slotAt d (k.from_+n*10) k.seen j):=HL.out.1.below (Below.refl _ _).drew;have hbad:=HL.out.2.1;generalize d.now (k.from_+n*10+j)=sec at *;have HW:=h4k hst hsz hbd HLd;have HB:=Lib.hid hbad;have HLk:=Lib.hid (fun W=>Look_c sec W oM);clear hst hsz hbd HLd hbad HR HR2 hcs hs1 hs2 hs3;generalize wr.drew=w1 at *;rcases lookL_cases sec.data.toList with hc | hc | hc
    ·rw [hc] at HLk
     go_wp2_with (go_at_call 47;refine (HLk.out _).mono ?_;rintro e w2 ⟨rfl,hb2⟩);go_roundw
     case rel =>
      refine ⟨j+1,oM,by go_num,?_,?_,?_⟩;all_goals rw [HW.out.1,slotStep,if_neg (by rw [HB.out];simp),if_neg (by rw [hc];decide),if_neg (by rw [hc];decide)]
      ·exact HB.out
      ·have h:=HW.out.2.2.2.below hb2
       exact ⟨h.list,h.new,h.kept,h.upd⟩
     case measure=>simp [intOf];omega
    ·obtain ⟨hbody,hlen⟩:=lookL_body hc
     have HRd:=Lib.hid (fun W=>read_k (str (lookL sec.data.toList).1) W (by rw [str_size,hbody];simp [hlen]))
     rw [hc] at HLk;have hdt:(str (lookL sec.data.toList).1).data.toList=(lookL sec.data.toList).1:=by simp [str]
     rw [hdt] at HRd;have hS:slotAt d (k.from_+n*10) k.seen (j+1) = { l:=if (slotAt d (k.from_+n*10) k.seen j).row && (readL (lookL sec.data.toList).1).2 then (slotAt d (k.from_+n*10) k.seen j).l++[(readL (lookL sec.data.toList).1).1] else (slotAt d (k.from_+n*10) k.seen j).l,row:=(slotAt d (k.from_+n*10) k.seen j).row && (readL (lookL sec.data.toList).1).2,seen:=max (slotAt d (k.from_+n*10) k.seen j).seen (readL (lookL sec.data.toList).1).1.gen,bad:=false } := by
      rw [HW.out.1,slotStep,if_neg (by rw [HB.out];simp),if_neg (by rw [hc];decide),if_pos hc]
     have HS:=Lib.hid hS;have HLL:=Lib.hid HW.out.2.2.2;clear hS hdt hbody hlen hc HW HB HL;have stl:(slotAt d (k.from_+n*10) k.seen j).l.length≤j:=slotAt_len _ _ _ _;generalize slotAt d (k.from_+n*10) k.seen j=st at *;generalize readL (lookL sec.data.toList).1=pr at *;obtain ⟨pt,is⟩:=pr;simp only at *
     go_wp2_with (first
      | (go_at_call 47
         refine (HLk.out _).mono ?_;rintro e w2 ⟨rfl,hb2⟩)
      | (go_at_call 172
         refine (HRd.out _).mono ?_;rintro e w3 ⟨rfl,hb3⟩;have HL3:=Lib.hid ((HLL.out.below hb2).below hb3))
      | (refine wsl 277 w3.heap.size #[.int .u64 pt.gen,.int .i64 pt.number,.int .i64 pt.all,.string (str pt.text)] (Blk.new w3 277 #[.int .u64 0,.int .i64 0,.int .i64 0,.string ⟨#[]⟩]) (part_one _) ?_
         intro w4 hB4 hU4 hs4;have hb4:Below w3.heap.size w3 w4:=⟨hU4.os,hU4.tape,hU4.output,by simp at hs4;omega,fun q hq=>(hU4.block q (by simp;omega) oM).trans (Below.heap_alloc w3 _ q hq)⟩;have HL4:=h2k (HL3.out.below hb4) hB4;have hc4:=hB4.cells4;have hk4:=HL4.out.1.kept.cells7;have hz4:=HL4.out.1.kept.frozen 5;clear hB4 hU4 hs4 hb4))
     go_region
     all_goals
      have hmx:max (st.seen:Int) (pt.gen:Int)=((max st.seen pt.gen:Nat):Int):=oM;simp only [hmx];have HL5:=Lib.hid ((HL4.out.1.saw (max st.seen pt.gen)).drew);have hB5:Blk (w4.setCell ⟨b,5,none⟩ (.int .u64 ((max st.seen pt.gen:Nat):Int))).drew w3.heap.size 277 #[.int .u64 pt.gen,.int .i64 pt.number,.int .i64 pt.all,.string (str pt.text)] :=
       (HL4.out.2.far (p:=⟨b,5,none⟩) (fun e=>HL4.out.2.ne_ HL4.out.1.kept dC e) _).drew
      have hc5:=hB5.cells4;have HSs:=HS.out;clear hc4 hk4 hz4 hB5 hmx HS;generalize (w4.setCell ⟨b,5,none⟩ (.int .u64 ((max st.seen pt.gen:Nat):Int))).drew=w5 at *;cases hr:st.row
      ·simp only [hr,Bool.false_and,Bool.false_eq_true,if_false] at HSs
       exact zz30
      ·cases his:is
       ·simp only [hr,his,Bool.true_and,Bool.false_eq_true,if_false] at HSs
        exact zz30
       ·simp only [hr,his,Bool.true_and,if_true] at HSs
        have HS:=Lib.hid HSs;clear HSs;go_wp2_with (at_builtin;refine wpList_append_src rfl _ _ _ _ rfl 277 i0 _ 4 40 Tryz.underlying210 hi0 hz0 hz1 hz2 rfl u6 st.l.length _ rfl (HL5.out.list.alloc _) _ 1 [_,_,_,_] rfl (Src.of_news Tryz.underlying210 _ rfl) (by simp [Value.oneCell']) (by have:=stl;unfold maxLen;omega) (oN stl) ?_;intro v2 w6 hO2 hU2 hl2 hs2);go_roundw
        case rel =>
         refine ⟨j+1,oM,by go_num,?_,?_,?_⟩;all_goals rw [HS.out]
         have h:=HL5.out.app _ hO2 hU2 hl2;exact ⟨h.list,h.new,h.kept,h.upd⟩
        case measure=>simp [intOf];omega
    ·rw [hc] at HLk
     go_wp2_with (go_at_call 47;refine (HLk.out _).mono ?_;rintro e w2 ⟨rfl,hb2⟩);have hS:slotAt d (k.from_+n*10) k.seen (j+1) = { slotAt d (k.from_+n*10) k.seen j with bad:=true } := by
      rw [HW.out.1,slotStep,if_neg (by rw [HB.out];simp),if_pos hc]
     have h10:=HW.out.2.2.1 (by rw [hS]);rw [hS] at h10;have H10:=Lib.hid h10;clear h10 hS;go_ret2
     rw [H10.out];have h:=HW.out.2.2.2.below hb2;have hh:SlotLeft w w2 b p k u6 { slotAt d (k.from_+n*10) k.seen j with bad:=true } := ⟨h.list,h.new,h.kept,h.upd⟩;exact ⟨_,rfl,⟨u6,sM,hh⟩⟩
  ·obtain rfl:j=10:=oM
   have HL:=h2k hL hbad;clear hL hbad;go_wp2
   go_ret2
   refine ⟨u6,?_,⟨u6,fun _=>rfl,HL.out.1⟩⟩;rw [slotErr,HL.out.2];rfl
theorem readL_ok (b:List UInt8):(readL b).1.text.length≤48∧(readL b).1.all<256∧(readL b).1.gen<18446744073709551616:=by
 have h8:leN (b.take 8)<18446744073709551616:=by
  have h:=leN_lt (b.take 8);have hl:(b.take 8).length≤8:=by simp;omega
  have:2 ^ (8*(b.take 8).length)≤2 ^ 64:=Nat.pow_le_pow_right oM oM;have e:(2:Nat) ^ 64=18446744073709551616:=dC;omega
 have h9:=(b.getD 9 0).toNat_lt;unfold readL;split
 ·exact ⟨sM,h9,h8⟩
 ·refine ⟨?_,h9,h8⟩
  rw [List.length_take];omega
theorem slotAt_ok (d:Dk) (a seen k:Nat) (hs:seen<18446744073709551616) :
 (∀p ∈ (slotAt d a seen k).l,p.text.length≤48∧p.all<256∧p.gen<18446744073709551616)∧(slotAt d a seen k).seen<18446744073709551616:=by
 induction k with
 | zero=>exact ⟨by simp [slotAt],hs⟩
 | succ k ih =>
   rw [slotAt_succ,slotStep];have hr:=readL_ok (lookL (d.now (a+k)).data.toList).1;split
   ·exact ih
   ·split
    ·exact ih
    ·split
     ·refine ⟨fun p hp=>?_,?_⟩
      ·simp only at hp
       split at hp
       ·rcases List.mem_append.1 hp with h | h
        ·exact ih.1 p h
        ·simp at h
         subst h;exact hr
       ·exact ih.1 p hp
      ·simp only
       omega
     ·exact ih
def openStep (d:Dk) (n:Nat) (k:Kp):Option Kp :=
 if (slotAt d (k.from_+n*10) k.seen 10).bad then none else
 some (if k.gen<(holdL (slotAt d (k.from_+n*10) k.seen 10).l).2
  then { k with seen:=(slotAt d (k.from_+n*10) k.seen 10).seen,text:=(holdL (slotAt d (k.from_+n*10) k.seen 10).l).1,gen:=(holdL (slotAt d (k.from_+n*10) k.seen 10).l).2,at_:=n }
  else { k with seen:=(slotAt d (k.from_+n*10) k.seen 10).seen })
def openN (d:Dk) (from_:Nat):Nat→Option Kp
 | 0=>some ⟨from_,[],0,1,0,false⟩
 | n+1=>(openN d from_ n).bind (openStep d n)
structure OpenLeft (w w':World) (p:Nat) (o:Option Kp) (v:Value):Prop where
 upd:Upd (fun _=>False) w w'
 bad:o=none→v=.pointer none
 ok:∀k,o=some k→∃b,v=.pointer (some ⟨b,0,none⟩)∧Blk w' b 209 (k.cells p)∧w.heap.size≤b
def openErr (o:Option Kp):Int:=if o.isSome then 0 else 9
theorem held_len (d:Dk) (a seen:Nat) (hs:seen<18446744073709551616):(∀q ∈ (slotAt d a seen 10).l,q.text.length≤48)∧(∀q ∈ (slotAt d a seen 10).l,q.all<256)∧(slotAt d a seen 10).l.length≤1000 :=
 ⟨fun q hq=>((slotAt_ok d a seen 10 hs).1 q hq).1,fun q hq=>((slotAt_ok d a seen 10 hs).1 q hq).2.1,by have:=slotAt_len d a seen 10;omega⟩
theorem openN_none {d:Dk} {f n m:Nat} (h:openN d f n=none) (hm:n≤m):openN d f m=none:=by
 induction m with
 | zero => obtain rfl:n=0:=oM
           exact h
 | succ m ih =>
   by_cases e:n=m+1
   ·rw [← e];exact h
   ·rw [openN,ih oM];rfl
structure Opening (w wr:World) (p b:Nat) (k:Kp) (f:Nat):Prop where
 upd:Upd (fun _=>False) w wr
 kept:Blk wr b 209 (k.cells p)
 new:w.heap.size≤b
 from_:k.from_=f
 seen:k.seen<18446744073709551616
 at_:k.at_≤1
theorem Open_on {w:World} {p:Nat} {d:Dk} {F:List Nat} (hD:DiskAt w p d F) (f:Nat) (hf:f+20≤d.lasts.length) (hoff:d.off=false) :
 Calls Tryz.prog 63 #[.pointer (some ⟨p,0,none⟩),.int .i64 f] w fun e w'=>∃v,e=.returned (.tuple #[v,.int .i64 (openErr (openN d f 2))])∧OpenLeft w w' p (openN d f 2) v:=by
 have hm:=hD.wf.most;have hne:((d.lasts.length:Int) == 0)=false:=by rw [beq_eq_false_iff_ne];omega
 have hf0:¬(f:Int)<0:=oM;have hf1:¬(d.lasts.length:Int) - 20<(f:Int):=oM;have HS:=Lib.hid (sectors_c hD);have HD:=h3k hD hf hoff;clear hD hoff;go_enter Tryz.func63,Tryz.ntmps63
 go_wp2_with (go_at_call 61;refine HS.out.mono ?_;rintro e w' ⟨rfl,rfl⟩);go_loopw [29] (fun i wr=>∃(n:Nat) (k:Kp),n≤2∧i=.int .i64 n∧openN d f n=some k∧Opening w wr p w.heap.size k f) (fun i _=>2 - (intOf i).toNat)
 case atStart =>
  refine ⟨0,⟨f,[],0,1,0,false⟩,oM,rfl,rfl,?_⟩;exact ⟨(Upd.refl _ w).alloc _,Blk.new w _ _,Nat.le_refl _,rfl,by show 0<_;omega,by show 1≤1;omega⟩
 case round =>
  obtain ⟨n,k,hn,rfl,hk,hO⟩:=hrel;by_cases hlt:n<2
  ·have hD2:DiskAt wr p d F:=HD.out.1.upd hO.upd fun _ _ e=>e
   have hSl:=slotOf_on hD2 hO.kept n oM (by rw [hO.from_];exact HD.out.2.1) HD.out.2.2;have hst:openN d f (n+1)=openStep d n k:=by rw [openN,hk];rfl
   have hhl:=held_len d (k.from_+n*10) k.seen hO.seen;have hok:=(slotAt_ok d (k.from_+n*10) k.seen 10 hO.seen).2;unfold openStep at hst;have HSl:=Lib.hid hSl;have HO:=h5k hO hk hst hhl hok;clear hO hk hD2 hSl hst hhl hok;generalize slotAt d (k.from_+n*10) k.seen 10=st at *;cases hb:st.bad
   ·have he:slotErr st=0:=by rw [slotErr,hb];rfl
    rw [he] at HSl;go_wp2_with (first
     | (go_at_call 118
        refine HSl.out.mono ?_;rintro e w1 ⟨v1,rfl,hE1⟩;obtain ⟨vl,hvl,hL1⟩:=hE1.ex;obtain rfl:v1=vl:=hvl hb;have HL1:=Lib.hid hL1;clear hL1 hE1)
     | (go_at_call 119
        refine (hold_c v1 st.l _ HL1.out.list HO.out.2.2.2.1.2.2 HO.out.2.2.2.1.1 HO.out.2.2.2.1.2.1).mono ?_;rintro e w2 ⟨rfl,hb2⟩;have HL2:=Lib.hid (HL1.out.below hb2);clear hb2)
     | (refine wsl 207 w2.heap.size #[.string (str (holdL st.l).1),.int .u64 ((holdL st.l).2:Int)] (Blk.new w2 207 #[.string ⟨#[]⟩,.int .u64 0]) (held_one _ _) ?_
        intro w4 hB4 hU4 hs4;have hb4:Below w2.heap.size w2 w4:=⟨hU4.os,hU4.tape,hU4.output,by simp at hs4;omega,fun q hq=>(hU4.block q (by simp;omega) oM).trans (Below.heap_alloc w2 _ q hq)⟩;have HL4:=h2k (HL2.out.below hb4) hB4;have hc4:=hB4.cells2;have hk4:=HL4.out.1.kept.cells7;clear hB4 hU4 hs4 hb4))
    go_region
    all_goals
     have hL5:=HL4.out.1.drew;have hk5:=hL5.kept.cells7;have hf2:=hL5.kept.frozen 2;have hf3:=hL5.kept.frozen 3;have hf4:=hL5.kept.frozen 4;have hc5:=HL4.out.2.drew.cells2;have HL5:=Lib.hid hL5;clear hc4 hk4 hL5;have hst:=HO.out.2.2.1;rw [hb] at hst;simp only [Bool.false_eq_true,if_false] at hst;generalize w4.drew=w5 at *;by_cases hg:k.gen<(holdL st.l).2
     ·have hg':(k.gen:Int)<((holdL st.l).2:Int):=oM
      rw [if_pos hg] at hst;have HST:=Lib.hid hst;clear hst hg;go_wp2
      go_roundw
      case rel =>
       refine ⟨n+1,_,oM,by go_num,HST.out,?_⟩;refine ⟨?_,?_,HO.out.1.new,HO.out.1.from_,HO.out.2.2.2.2,by show n≤1;omega⟩
       ·exact (((HO.out.1.upd.then HL5.out.upd (fun q e=>.inr (by rw [e];exact HO.out.1.new))).setCell (p:=⟨w.heap.size,2,none⟩) (.inr (Nat.le_refl _)) _).setCell (p:=⟨w.heap.size,3,none⟩) (.inr (Nat.le_refl _)) _).setCell (p:=⟨w.heap.size,4,none⟩) (.inr (Nat.le_refl _)) _
       ·have h:=((HL5.out.kept.set_ 2 (.string (str (holdL st.l).1))).set_ 3 (.int .u64 ((holdL st.l).2:Int))).set_ 4 (.int .i64 (n:Int))
        simpa [Kp.cells] using h
      case measure=>simp [intOf];omega
     ·have hg':¬(k.gen:Int)<((holdL st.l).2:Int):=oM
      rw [if_neg hg] at hst;have HST:=Lib.hid hst;clear hst hg;go_wp2
      go_roundw
      case rel =>
       refine ⟨n+1,_,oM,by go_num,HST.out,?_⟩;exact ⟨HO.out.1.upd.then HL5.out.upd (fun q e=>.inr (by rw [e];exact HO.out.1.new)),HL5.out.kept,HO.out.1.new,HO.out.1.from_,HO.out.2.2.2.2,HO.out.1.at_⟩
      case measure=>simp [intOf];omega
   ·have he:slotErr st=9:=by rw [slotErr,hb];rfl
    rw [he] at HSl;have hst:=HO.out.2.2.1;rw [hb] at hst;simp only [if_true] at hst;have HN:=Lib.hid (openN_none hst (by omega:n+1≤2));clear hst;go_wp2_with (go_at_call 118;refine HSl.out.mono ?_;rintro e w1 ⟨v1,rfl,hE1⟩;have HE:=Lib.hid hE1;clear hE1);go_ret2
    rw [HN.out];refine ⟨_,rfl,?_⟩;obtain ⟨vl,_,hL⟩:=HE.out.ex;exact ⟨HO.out.1.upd.then hL.upd (fun q e=>.inr (by rw [e];exact HO.out.1.new)),fun _=>rfl,sM⟩
  ·obtain rfl:n=2:=oM
   have HO:=h2k hk hO;clear hk hO;go_wp2
   go_ret2
   rw [HO.out.1];refine ⟨_,rfl,HO.out.2.upd,sM,fun k' e=>?_⟩;obtain rfl:=Option.some.inj e;exact ⟨_,rfl,HO.out.2.kept,HO.out.2.new⟩
theorem EnvM.set_data (x:EnvM) (D:List UInt8):x.row.setIfInBounds 3 (.string (str D))=({ x with data:=D } : EnvM).row:=by
 unfold EnvM.row;rw [List.setIfInBounds_toArray];rfl
theorem EnvM.set_tag {x:EnvM} (hx:x.tag.length=32) {T:List UInt8} (hT:T.length=32):x.row.toList.take 4++(arrB T).toList++x.row.toList.drop (4+(arrB T).size)=({ x with tag:=T } : EnvM).row.toList:=by
 rw [arrB_size,hT];have h1:x.row.toList.drop (4+32)=[]:=List.drop_of_length_le (by rw [Array.length_toList,EnvM.row_size hx];decide)
 rw [h1,List.append_nil];rfl
theorem built_env (K B N:Nat):Tryz.prog.built 191 [(0,.int .i64 (K:Int)),(1,.int .u32 (B:Int)),(2,.int .u64 (N:Int))]=some (EnvM.row ⟨K,B,N,[],List.replicate 32 0⟩):=kR
theorem sclose_c (k:List UInt8) (hk:k.length=32) (K B N:Nat) (hK:K≤1048576) (hB:B<4294967296) (hN:N<18446744073709551616) (about text:ByteArray) (ha:about.size≤1000) (ht:text.size≤8192) (w:World) :
 Calls Tryz.prog 107 #[.agg (arrB k),.int .i64 (K:Int),.int .u32 (B:Int),.int .u64 (N:Int),.string about,.string text] w fun e w' =>
  e=.returned (.tuple #[.agg (EnvM.row ⟨K,B,N,dataL k B N text.data.toList,stampL k K B N about.data.toList (dataL k B N text.data.toList)⟩),.int .i64 0])∧Upd (fun _=>False) w w':=by
 have hbe:=built_env K B N;obtain ⟨x0,hx0⟩:∃x,(⟨K,B,N,[],List.replicate 32 0⟩:EnvM)=x:=⟨_,rfl⟩;have ok0:EnvOk x0:=by rw [← hx0];exact ⟨hK,hB,hN,sM,List.length_replicate⟩
 have hRt:=fun W=>sright_c x0 ok0 W
 have hSt:=fun W=>sstream_c k hk x0 ok0 text ht W
 have e1:x0.boot=B:=by rw [← hx0]
 have e2:x0.n=N:=by rw [← hx0]
 rw [e1,e2] at hSt;obtain ⟨D,hD⟩:=eqx (dataL k B N text.data.toList);rw [hD] at hSt ⊢;have hDl:D.length=text.size:=by rw [← hD,dataL_len];rfl
 obtain ⟨x1,hx1⟩:∃x,({ x0 with data:=D } : EnvM)=x:=⟨_,rfl⟩;have ok1:EnvOk x1:=by rw [← hx1,← hx0];exact ⟨hK,hB,hN,by show D.length≤8192;omega,List.length_replicate⟩
 have hTg:=fun W=>stag_c k hk x1 ok1 about ha W
 rw [show stampL k x1.key x1.boot x1.n about.data.toList x1.data=stampL k K B N about.data.toList D by rw [← hx1,← hx0]] at hTg;obtain ⟨T,hT⟩:=eqx (stampL k K B N about.data.toList D);rw [hT] at hTg ⊢;have hTl:T.length=32:=by rw [← hT];exact tagL_len _ _
 obtain ⟨x2,hx2⟩:∃x,(⟨K,B,N,D,T⟩:EnvM)=x:=⟨_,rfl⟩;have h12:({ x1 with tag:=T } : EnvM)=x2:=by rw [← hx2,← hx1,← hx0]
 have hS1:=EnvM.set_data x0 D;rw [hx1] at hS1;have hS2:=EnvM.set_tag ok1.tag hTl;rw [h12] at hS2;have z2:x2.row.size=36:=EnvM.row_size (by rw [← hx2];exact hTl);rw [hx2];rw [hx0] at hbe;have tz:(text.size:Int)≤8192:=oM;have HR:=Lib.hid hRt;have HS:=Lib.hid hSt;have HT:=Lib.hid hTg;have HX:=h7k hS1 hS2 (EnvM.row_size ok0.tag) (EnvM.row_size ok1.tag) z2 hTl hk;have HBE:=Lib.hid hbe;clear hRt hSt hTg hS1 hS2 z2 hbe h12 hx2 hTl hT ok1 hx1 hDl hD e1 e2 ok0 hx0 hK hB hN ha ht hk;obtain ⟨g,hg⟩:=eqx w.heap.size;have HG:=Lib.hid hg;go_enter Tryz.func107,Tryz.ntmps107
 go_upto_region 1 with (fail)
 generalize hw2:World.alloc _ _=w2;have hk2:Blk w2 g 194 (arrB k):=by rw [← hw2,← hg];exact (Blk.new w _ _).alloc _
 have hr2:Blk w2 (g+1) 191 (EnvM.row ⟨0,0,0,[],List.replicate 32 0⟩):=by
  have h:=Blk.new (w.alloc (.cells (arrB k) 194)) 191 (EnvM.row ⟨0,0,0,[],List.replicate 32 0⟩);rw [World.size_alloc,hg] at h;rw [← hw2];exact h
 have hU2:Upd (fun _=>False) w w2:=by rw [← hw2];exact ((Upd.refl _ w).alloc _).alloc _
 have hz2:w2.heap.size=g+2:=by rw [← hw2,World.size_alloc,World.size_alloc,hg]
 have HW2:=h3k hk2 hr2 hU2;clear hk2 hr2 hU2 hw2 hg;obtain ⟨q,hq⟩:=eqx w2.heap.size;have HQ:=Lib.hid (show q=g+2 by omega);clear hz2;go_upto_region 2 with (first
  | (refine wpList_build_is rfl _ _ rfl [(0,.int .i64 (K:Int)),(1,.int .u32 (B:Int)),(2,.int .u64 (N:Int))] _ kR HBE.out ?_)
  | (refine wpList_store_all rfl 191 _ _ rfl w2.heap.size x0.row (by rw [hq];rfl) rfl 191 _ (Blk.new w2 _ _) (by rw [HX.out.2.2.1];rfl) (EnvM.row_one _) (by rw [HX.out.2.2.1];kernel_rfl) ?_
     intro w3 hB3 hU3 hz3))
 have hu3:Upd (fun _=>False) w2 w3:=((Upd.refl (fun _=>False) w2).alloc _).then hU3 (fun b hb=>.inr oM);rw [hq] at hB3 hU3;have HW3:=h4k (HW2.out.1.upd hu3 (fun e=>e)) (HW2.out.2.1.upd hu3 (fun e=>e)) hB3 (HW2.out.2.2.then hu3 wz0);clear hU3 hz3 hu3 hB3 hq;go_upto_region 4 with (first
  | (refine wlx _ q HW3.out.2.2.1 Tryz.underlying191 (by rw [HX.out.2.2.1];kernel_rfl) ?_)
  | (go_at_call 162
     refine (HR.out _).mono ?_;rintro e w4 ⟨rfl,hU4⟩;have HW4:=h4k (HW3.out.1.upd hU4 (fun e=>e)) (HW3.out.2.1.upd hU4 (fun e=>e)) (HW3.out.2.2.1.upd hU4 (fun e=>e)) (HW3.out.2.2.2.then hU4 wz0);clear hU4))
 go_upto_region 6 with (fail)
 go_upto_region 7 with (first
  | (refine wlx _ g HW4.out.1 Tryz.underlying194 (by rw [arrB_size,HX.out.2.2.2.2.2.2];kernel_rfl) ?_)
  | (refine wlx _ q HW4.out.2.2.1 Tryz.underlying191 (by rw [HX.out.2.2.1];kernel_rfl) ?_)
  | (go_at_call 163
     refine (HS.out _).mono ?_;rintro e w5 ⟨rfl,hU5⟩;have HW5:=h4k (HW4.out.1.upd hU5 (fun e=>e)) (HW4.out.2.1.upd hU5 (fun e=>e)) (HW4.out.2.2.1.upd hU5 (fun e=>e)) (HW4.out.2.2.2.then hU5 wz0);clear hU5)
  | (refine wpList_store_one rfl 9 _ _ rfl q 3 (.string (str D)) rfl rfl _ _ HW5.out.2.2.1 (by rw [HX.out.2.2.1];decide) rfl kR ?_
     intro w6 hB6 hU6 hz6;rw [HX.out.1] at hB6;have HW6:=h4k (HW5.out.1.upd hU6 (oN HQ.out)) (HW5.out.2.1.upd hU6 (oN HQ.out)) hB6 (HW5.out.2.2.2.then hU6 (fun b hb=>.inr (oO HQ.out HG.out)));clear hU6 hz6 hB6))
 go_upto_region 8 with (first
  | (refine wlx _ g HW6.out.1 Tryz.underlying194 (by rw [arrB_size,HX.out.2.2.2.2.2.2];kernel_rfl) ?_)
  | (refine wlx _ q HW6.out.2.2.1 Tryz.underlying191 (by rw [HX.out.2.2.2.1];kernel_rfl) ?_)
  | (go_at_call 164
     refine (HT.out _).mono ?_;rintro e w7 ⟨rfl,hU7⟩;have HW7:=h3k (HW6.out.2.1.upd hU7 (fun e=>e)) (HW6.out.2.2.1.upd hU7 (fun e=>e)) (HW6.out.2.2.2.then hU7 wz0);clear hU7)
  | (refine wpList_store_part rfl 189 _ _ rfl q 4 (arrB T) rfl rfl _ _ x2.row HW7.out.2.1 (by rw [arrB_size,HX.out.2.2.2.1,HX.out.2.2.2.2.2.1];decide) HX.out.2.1 (arrB_one _) (by rw [arrB_size,HX.out.2.2.2.2.2.1];kernel_rfl) ?_
     intro w8 hB8 hU8 hz8;have HW8:=h3k (HW7.out.1.upd hU8 (oN HQ.out)) hB8 (HW7.out.2.2.then hU8 (fun b hb=>.inr (oO HQ.out HG.out)));clear hU8 hz8 hB8))
 go_wp2_with (first
  | (refine wlx _ q HW8.out.2.1 Tryz.underlying191 (by rw [HX.out.2.2.2.2.1];kernel_rfl) ?_)
  | (refine wpList_store_all rfl 191 _ _ rfl (g+1) x2.row rfl rfl _ _ HW8.out.1 (by rw [HX.out.2.2.2.2.1];rfl) (EnvM.row_one _) (by rw [HX.out.2.2.2.2.1];kernel_rfl) ?_
     intro w9 hB9 hU9 hz9))
 refine bodyPost_ret (results_cell_slot rfl _ _ (g+1) _ _ _ _ rfl hB9 Tryz.underlying191 rfl (by rw [HX.out.2.2.2.2.1];kernel_rfl) (.int .i64 0) rfl) rfl ⟨rfl,HW8.out.2.2.then hU9 (fun b hb=>.inr (by have e2:b=g+1:=hb;have:=HG.out;omega))⟩
theorem sbytes_c (x:EnvM) (hx:EnvOk x) (w:World) :
 Calls Tryz.prog 109 #[.agg x.row] w fun e w'=>e=.returned (.tuple #[.string (str (numbersB x.key x.boot x.n++(textN x.data++x.tag))),.int .i64 0])∧Upd (fun _=>False) w w':=by
 have hkk:=hx.key;have hb:=hx.boot;have hn:=hx.n;have hd:=hx.data;have s1:=size_u64 (n:=x.key) oM;have s2:=size_u64 (n:=x.boot) oM;have s3:=size_u64 hn;obtain ⟨D,hD⟩:=eqx (str x.data);have hDl:D.data.toList=x.data:=by rw [← hD,str_list]
 have hDs:D.size=x.data.length:=by rw [← hD,str_size]
 obtain ⟨N,hN⟩:=eqx (numbersB x.key x.boot x.n);have hNl:N.length≤30:=by rw [← hN];unfold numbersB;simp only [List.length_append,putN_len];omega
 obtain ⟨T,hT⟩:=eqx (N++textN D.data.toList);obtain ⟨B,hB⟩:=eqx (str x.tag);have hfin:str (numbersB x.key x.boot x.n++(textN x.data++x.tag))=str T++B:=by
  rw [← hB,str_app,← hT,hDl,hN,List.append_assoc]
 rw [hfin];obtain ⟨S,hS⟩:=eqx (str T);rw [hS];have hcs:(9223372036854775807<S.size+B.size)=False:=by
  have h1:S.size=N.length+(textN D.data.toList).length:=by rw [← hS,str_size,← hT,List.length_append]
  have h2:B.size=32:=by rw [← hB,str_size,hx.tag]
  rw [hDl,textN_len] at h1;have h3:=sizeN_small (n:=x.data.length) oM;exact eq_false oM
 have HCS:=Lib.hid hcs;have HX:=Lib.hid (And.intro hD (And.intro hDs (And.intro hN (And.intro hNl (And.intro hT (And.intro hd (And.intro hx (And.intro hB hS))))))));have HSZ:=Lib.hid (EnvM.row_size hx.tag);have HTL:=Lib.hid hx.tag;have HR:=Lib.hid (fun W=>sright_c x hx W);clear hkk hb hn hd s1 s2 s3 hD hDl hDs hN hNl hT hfin hx hB hS hcs;obtain ⟨g,hg⟩:=eqx w.heap.size;have HG:=Lib.hid hg;go_enter Tryz.func109,Tryz.ntmps109
 go_upto_region 1 with (fail)
 generalize hw2:World.alloc _ _=w2;have hC2:Blk w2 g 191 x.row:=by rw [← hw2,← hg];exact Blk.new w _ _
 have hU2:Upd (fun _=>False) w w2:=by rw [← hw2];exact (Upd.refl _ w).alloc _
 have HW2:=h2k hC2 hU2;clear hC2 hU2 hw2 hg;go_upto_region 3 with (first
  | (refine wlx _ g HW2.out.1 Tryz.underlying191 (by rw [HSZ.out];kernel_rfl) ?_)
  | (go_at_call 162
     refine (HR.out _).mono ?_;rintro e w3 ⟨rfl,hU3⟩;have HW3:=h2k (HW2.out.1.upd hU3 (fun e=>e)) (HW2.out.2.then hU3 wz0);clear hU3))
 obtain ⟨o,ho⟩:=eqx w3.heap.size;go_upto_region 4 with (fail)
 generalize hw4:World.alloc _ _=w4;have hO4:OutQ (fun _=>False) w3 w4 o []:=by rw [← hw4,← ho];exact OutQ.start w3
 have HO4:=Lib.hid hO4;clear hO4 hw4 ho;go_upto_region 6 with (first
  | (go_at_call 168
     refine (numbers_s x HX.out.2.2.2.2.2.2.1 HO4.out sM).mono ?_;rintro e w5 ⟨rfl,h5⟩;rw [List.nil_append,HX.out.2.2.1] at h5;obtain ⟨-,-,-,c3⟩:=EnvM.cells (HW3.out.1.upd h5.upd (fun e=>e));rw [HX.out.1] at c3;have H5:=Lib.hid h5;clear h5)
  | (go_at_call 100
     refine (otext_q H5.out D (by rw [HX.out.2.1];have:=HX.out.2.2.2.2.2.1;omega) (oN HX.out.2.2.2.1)).mono ?_;rintro e w6 ⟨rfl,h6⟩;rw [HX.out.2.2.2.2.1] at h6;have H6:=Lib.hid h6;clear h6 c3)
  | (refine wlx _ g (HW3.out.1.upd HO4.out.upd (fun e=>e)) Tryz.underlying191 (by rw [HSZ.out];kernel_rfl) ?_))
 have hU6:=(Upd.refl (fun _=>False) w6).drew;have hst:=ostring_q (H6.out.still hU6);rw [HX.out.2.2.2.2.2.2.2.2] at hst;have hst2:Calls Tryz.prog 101 #[.pointer (some ⟨o,0,none⟩)] w6.drew fun e w''=>e=.returned (.string S)∧w''=w6.drew:=hst.mono fun _ _ h=>⟨h.1,h.2.symm⟩
 have HST:=Lib.hid hst2;have hE6:=HW3.out.1.upd (H6.out.upd.then hU6 wz0) (fun e=>e);have hcs:=HCS.out;have hcv:=conv_at w6.drew g 4 32 32 x.tag HTL.out (fun i hi=>EnvM.tagAt hE6 i (by rw [HTL.out];exact hi));rw [HX.out.2.2.2.2.2.2.2.1] at hcv;have HF:=Lib.hid (HW3.out.2.then (H6.out.upd.then hU6 wz0) wz0);clear hU6 hst hst2 hE6;refine wp_region_still_lit kR kR ?_;still_call HST.out
 still_step
 still_step
 still_step
 still_step
 still_step
 still_step
 refine wpStill_nil ?_;go_wp2_with fail
 go_ret2
 exact ⟨rfl,HF.out⟩
end
end Go.Proofs.YtbhjgfibhegddaaGreat
