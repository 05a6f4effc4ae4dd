/-
  Parts of the proof of VaultSpoils: RingB, RingC, RingD, RingE, RingF, VatA, VatB, VatC.
-/
import Derived.Test.YtbhjgfibhegddaaGreatQVaultSpoils14
set_option maxRecDepth 100000
set_option maxHeartbeats 16000000
namespace Go.Proofs.YtbhjgfibhegddaaGreat
section
open Go Go.RowKit
def slotRow (d m:Int) (z:List UInt8):Array Value:=([Value.int .u32 d,.int .i32 m,.int .u32 0]++bytesV z).toArray
theorem slotRow_size (d m:Int) {z:List UInt8} (h:z.length=32):(slotRow d m z).size=35:=by simp [slotRow,bytesV,h]
theorem slotRow_key {d m:Int} {z K:List UInt8} (hz:z.length=32) (hK:K.length=32):(slotRow d m z).toList.take 3++(arrB K).toList++(slotRow d m z).toList.drop (3+(arrB K).size)=(slotRow d m K).toList:=by
 rw [arrB_size,hK];have h1:(slotRow d m z).toList.drop (3+32)=[]:=List.drop_of_length_le (by rw [Array.length_toList,slotRow_size d m hz];decide)
 rw [h1,List.append_nil];rfl
theorem slotRow_keyV (d m:Int) (z:List UInt8):∀j v,(bytesV z)[j]? = some v→(slotRow d m z)[3+j]? = some v:=by
 intro j v h;unfold slotRow;rw [List.getElem?_toArray,List.getElem?_append_right sM];rw [show 3+j - [Value.int .u32 d,.int .i32 m,.int .u32 0].length=j by simp];exact h
theorem key1_c {w:World} {a b c r sb i:Nat} {ta tb tc:TypeId} {master:ByteArray} {v1 v2 v3 v4:Value} {z:List UInt8} {d m:Int} (ha:Blk w a ta #[.pointer (some ⟨r,0,none⟩)]) (hb:Blk w b tb #[.int .i64 (i:Int)]) (hc:Blk w c tc #[.pointer (some ⟨sb,0,none⟩)])
 (hr:Blk w r 186 #[.string master,v1,v2,v3,v4]) (hs:Blk w sb 269 (slotRow d m z)) (hz:z.length=32) (hi:i≤1048576) (hm:master.size≤64) :
 Calls Tryz.prog 166 #[.pointer (some ⟨a,0,none⟩),.pointer (some ⟨b,0,none⟩),.pointer (some ⟨c,0,none⟩)] w fun e w'=>e=.returned (.tuple #[])∧Blk w' sb 269 (slotRow d m (ringK master.data.toList i))∧Upd (· = sb) w w':=by
 obtain ⟨K,hK⟩:=eqx (ringK master.data.toList i);have hKl:K.length=32:=by rw [← hK];exact tagL_len _ _
 have hkc:=fun W=>rkey_c master i hi hm W
 rw [hK] at hkc ⊢;have HKC:=Lib.hid hkc;have HX:=h2k hKl (slotRow_key (d:=d) (m:=m) hz hKl);have HB:=h5k ha hb hc hr hs;have HZ:=Lib.hid (slotRow_size d m hz);clear hK hKl hkc ha hb hc hr hs hz hi hm;go_enter Tryz.func166,Tryz.ntmps166
 refine wp_region_noPanic ?_;refine wp_region_T (S:=fun w'=>Upd (fun _=>False) w w') (T:=fun k=>k == 9) kR ?_;have hS0:=(Upd.refl (fun _=>False) w).drew;refine tQ8 0 (fun w' hSw=>And.intro (HB.out.1.upd hSw (fun e=>e)).cells1 (And.intro (HB.out.2.1.upd hSw (fun e=>e)).cells1 (And.intro (HB.out.2.2.1.upd hSw (fun e=>e)).cells1 (show w'.cell? ⟨r,0,none⟩=some (.string master) from (HB.out.2.2.2.1.upd hSw (fun e=>e)).cell 0)))) ?_;refine tQ8 1 (fun w' hSw=>And.intro (HB.out.1.upd hSw (fun e=>e)).cells1 (And.intro (HB.out.2.1.upd hSw (fun e=>e)).cells1 (And.intro (HB.out.2.2.1.upd hSw (fun e=>e)).cells1 (show w'.cell? ⟨r,0,none⟩=some (.string master) from (HB.out.2.2.2.1.upd hSw (fun e=>e)).cell 0)))) ?_;refine tQ8 2 (fun w' hSw=>And.intro (HB.out.1.upd hSw (fun e=>e)).cells1 (And.intro (HB.out.2.1.upd hSw (fun e=>e)).cells1 (And.intro (HB.out.2.2.1.upd hSw (fun e=>e)).cells1 (show w'.cell? ⟨r,0,none⟩=some (.string master) from (HB.out.2.2.2.1.upd hSw (fun e=>e)).cell 0)))) ?_;refine tQ8 3 (fun w' hSw=>And.intro (HB.out.1.upd hSw (fun e=>e)).cells1 (And.intro (HB.out.2.1.upd hSw (fun e=>e)).cells1 (And.intro (HB.out.2.2.1.upd hSw (fun e=>e)).cells1 (show w'.cell? ⟨r,0,none⟩=some (.string master) from (HB.out.2.2.2.1.upd hSw (fun e=>e)).cell 0)))) ?_
 refine tQ8 4 (fun w' hSw=>And.intro (HB.out.1.upd hSw (fun e=>e)).cells1 (And.intro (HB.out.2.1.upd hSw (fun e=>e)).cells1 (And.intro (HB.out.2.2.1.upd hSw (fun e=>e)).cells1 (show w'.cell? ⟨r,0,none⟩=some (.string master) from (HB.out.2.2.2.1.upd hSw (fun e=>e)).cell 0)))) ?_;refine tQ8 5 (fun w' hSw=>And.intro (HB.out.1.upd hSw (fun e=>e)).cells1 (And.intro (HB.out.2.1.upd hSw (fun e=>e)).cells1 (And.intro (HB.out.2.2.1.upd hSw (fun e=>e)).cells1 (show w'.cell? ⟨r,0,none⟩=some (.string master) from (HB.out.2.2.2.1.upd hSw (fun e=>e)).cell 0)))) ?_;refine wo1 6 (fun KK hK=>?_);go_simp
 refine (HKC.out _).mono ?_;rintro e w4 ⟨rfl,hU4⟩;have hS4:=hS0.then hU4 wz0;refine hK.out _ _ hS4 ?_;clear hK hU4;refine tK8 7 ?_;refine tK8 8 ?_;refine woT 9 (fun KK hK=>?_);refine step_store_part (by rfl) 194 _ _ (by rfl) sb 3 (arrB K) (by rfl) (by rfl) _ _ (slotRow d m K) (HB.out.2.2.2.2.upd hS4 (fun e=>e)) (by rw [arrB_size,HX.out.1,HZ.out];decide) HX.out.2 (arrB_one _) (by rw [arrB_size,HX.out.1];kernel_rfl) ?_
 intro w5 hB5 hU5 hz5;refine hK.out _ _ ?_;refine wdn ?_;refine NoPanic.normal ?_;have HF:=h2k hB5 ((hS4.mono (G:=(· = sb)) wz0).then hU5 (fun _ e=>.inl e));clear hB5 hU5 hz5 hK hS0 hS4;go_wp2_with fail
 go_end0
 exact ⟨rfl,HF.out⟩
theorem slotRow_m (d m m2:Int) (z:List UInt8):(slotRow d m z).setIfInBounds 1 (.int .i32 m2)=slotRow d m2 z:=by unfold slotRow;rw [List.setIfInBounds_toArray];rfl
theorem slotRow_d (d d2 m:Int) (z:List UInt8):(slotRow d m z).setIfInBounds 0 (.int .u32 d2)=slotRow d2 m z:=by unfold slotRow;rw [List.setIfInBounds_toArray];rfl
theorem slow_c {w:World} {a b c r sb i:Nat} {ta tb tc:TypeId} {master:ByteArray} {v1 v2 v3 v4:Value} {z:List UInt8} (ha:Blk w a ta #[.pointer (some ⟨r,0,none⟩)]) (hb:Blk w b tb #[.int .i64 (i:Int)]) (hc:Blk w c tc #[.pointer (some ⟨sb,0,none⟩)])
 (hr:Blk w r 186 #[.string master,v1,v2,v3,v4]) (hs:Blk w sb 269 (slotRow 0 0 z)) (hz:z.length=32) (hi:i≤1048576) (hm:master.size≤64) (na:a≠sb) (nb:b≠sb) (nc:c≠sb) (nr:r≠sb) :
 Calls Tryz.prog 214 #[.pointer (some ⟨sb,0,none⟩),.func (.func 166) #[] #[.pointer (some ⟨a,0,none⟩),.pointer (some ⟨b,0,none⟩),.pointer (some ⟨c,0,none⟩)]] w fun e w'=>e=.returned (.tuple #[])∧Blk w' sb 269 (slotRow 1 0 (ringK master.data.toList i))∧Upd (· = sb) w w':=by
 obtain ⟨w1,hw1⟩:=eqx (w.setCell ⟨sb,1,none⟩ (.int .i32 1));have hs1:Blk w1 sb 269 (slotRow 0 1 z):=by rw [← hw1,← slotRow_m 0 0 1 z];exact hs.set_ 1 _
 have hu1:Upd (· = sb) w w1:=by rw [← hw1];exact (Upd.refl (· = sb) w).setCell (p:=⟨sb,1,none⟩) (.inl rfl) _
 have hlk:=olock_c ⟨sb,1,none⟩ w (hs.cell 1) (hs.frozen 1);rw [hw1] at hlk;have hbl:=bload_c ⟨sb,0,none⟩ false w1 (hs1.cell 0);have hk1:=key1_c (ha.upd hu1 na) (hb.upd hu1 nb) (hc.upd hu1 nc) (hr.upd hu1 nr) hs1 hz hi hm;have HLK:=Lib.hid hlk;have HBL:=Lib.hid hbl;have HK1:=Lib.hid hk1;have HU1:=Lib.hid hu1;have hnot:∀(x:Bool) (w:World),(Op.unary .not (.bool x)).run Tryz.prog w=.ok (.bool (!x)) w:=fun _ _=>rfl
 clear hw1 hs1 hu1 hlk hbl hk1 ha hb hc hr hs hz hi hm na nb nc nr;go_enter_defers Tryz.func214,Tryz.ntmps214
 go_wp2_with (first
  | (go_at_call 251
     refine HLK.out.mono ?_;rintro e w' ⟨rfl,rfl⟩)
  | (go_at_call 213
     refine HBL.out.mono ?_;rintro e w' ⟨rfl,rfl⟩)
  | (go_at_call 166
     refine HK1.out.mono ?_;rintro e w2 ⟨rfl,hB2,hU2⟩;have H2:=h2k hB2 (HU1.out.then hU2 (fun _ e=>.inl e));clear hB2 hU2))
 have hc0:=H2.out.1.cell 0;have hf0:=H2.out.1.frozen 0;obtain ⟨w3,hw3⟩:=eqx (w2.drew.setCell ⟨sb,0,none⟩ (.int .u32 1));have hs3:Blk w3 sb 269 (slotRow 1 1 (ringK master.data.toList i)):=by rw [← hw3,← slotRow_d 0 1 1];exact H2.out.1.drew.set_ 0 _
 have hu3:Upd (· = sb) w w3:=by rw [← hw3];exact H2.out.2.drew.setCell (p:=⟨sb,0,none⟩) (.inl rfl) _
 obtain ⟨w4,hw4⟩:=eqx (w3.setCell ⟨sb,1,none⟩ (.int .i32 0));have hs4:Blk w4 sb 269 (slotRow 1 0 (ringK master.data.toList i)):=by rw [← hw4,← slotRow_m 1 1 0];exact hs3.set_ 1 _
 have hu4:Upd (· = sb) w w4:=by rw [← hw4];exact hu3.setCell (p:=⟨sb,1,none⟩) (.inl rfl) _
 refine leaves_cons (f:=253) (args:=#[.pointer (some ⟨sb,0,none⟩),.bool true]) sM (by simp [go_sem]) ?_;refine (bstore_d ⟨sb,0,none⟩ _ .returning _ hc0 hf0).mono ?_;rintro e u' w'' ⟨rfl,rfl,rfl⟩;rw [hw3];refine leaves_cons (f:=252) (args:=#[.pointer (some ⟨sb,1,none⟩)]) (by simp [settle]) (by simp [go_sem]) ?_;refine (ounlock_d ⟨sb,1,none⟩ _ _ (hs3.cell 1) (hs3.frozen 1)).mono ?_;rintro e u' w'' ⟨rfl,rfl,rfl⟩;rw [hw4];simp [Leaves,settle,results,Tryz.results214]
 exact ⟨hs4,hu4⟩
theorem once_first {w:World} {a b c r sb i:Nat} {ta tb tc:TypeId} {master:ByteArray} {v1 v2 v3 v4:Value} {z:List UInt8} (ha:Blk w a ta #[.pointer (some ⟨r,0,none⟩)]) (hb:Blk w b tb #[.int .i64 (i:Int)]) (hc:Blk w c tc #[.pointer (some ⟨sb,0,none⟩)])
 (hr:Blk w r 186 #[.string master,v1,v2,v3,v4]) (hs:Blk w sb 269 (slotRow 0 0 z)) (hz:z.length=32) (hi:i≤1048576) (hm:master.size≤64) (na:a≠sb) (nb:b≠sb) (nc:c≠sb) (nr:r≠sb) :
 Calls Tryz.prog 165 #[.pointer (some ⟨sb,0,none⟩),.func (.func 166) #[] #[.pointer (some ⟨a,0,none⟩),.pointer (some ⟨b,0,none⟩),.pointer (some ⟨c,0,none⟩)]] w fun e w'=>e=.returned (.tuple #[])∧Blk w' sb 269 (slotRow 1 0 (ringK master.data.toList i))∧Upd (· = sb) w w':=by
 have HSL:=Lib.hid (slow_c ha hb hc hr hs hz hi hm na nb nc nr);have HBL:=Lib.hid (bload_c ⟨sb,0,none⟩ false w (hs.cell 0));have hnot:∀(x:Bool) (w:World),(Op.unary .not (.bool x)).run Tryz.prog w=.ok (.bool (!x)) w:=fun _ _=>rfl
 clear ha hb hc hr hs hz hi hm na nb nc nr;go_enter Tryz.func165,Tryz.ntmps165
 go_wp2_with (first
  | (go_at_call 214
     refine HSL.out.mono ?_;rintro e w2 ⟨rfl,hB2,hU2⟩;have H2:=h2k hB2 hU2;clear hB2 hU2)
  | (go_at_call 213
     refine HBL.out.mono ?_;rintro e w' ⟨rfl,rfl⟩))
 go_end0
 exact ⟨rfl,H2.out⟩
theorem once_done {w:World} {sb:Nat} {z:List UInt8} {fv:Value} (hs:Blk w sb 269 (slotRow 1 0 z)) :
 Calls Tryz.prog 165 #[.pointer (some ⟨sb,0,none⟩),fv] w fun e w'=>e=.returned (.tuple #[])∧w'=w:=by
 have HBL:=Lib.hid (bload_c ⟨sb,0,none⟩ true w (hs.cell 0));have hnot:∀(x:Bool) (w:World),(Op.unary .not (.bool x)).run Tryz.prog w=.ok (.bool (!x)) w:=fun _ _=>rfl
 clear hs;go_enter Tryz.func165,Tryz.ntmps165
 go_wp2_with (first
  | (go_at_call 213
     refine HBL.out.mono ?_;rintro e w' ⟨rfl,rfl⟩))
 go_end0
 exact ⟨rfl,rfl⟩
def slotPtr (e:Int × Nat):Int × Value:=(e.1,.pointer (some ⟨e.2,0,none⟩))
structure RgE (F:Nat→Prop) (w0 w:World) (r:Nat) (master:ByteArray) (cur boot n kb:Nat) (ents:List (Int × Nat)):Prop where
 blk:Blk w r 186 #[.string master,.int .i64 (cur:Int),.int .u32 (boot:Int),.int .u64 (n:Int),.map (some kb)]
 map:MapB (fun i:Int=>Value.int .i64 i) w kb (ents.map slotPtr)
 slots:∀e ∈ ents,Blk w e.2 269 (slotRow 1 0 (ringK master.data.toList e.1.toNat))
 new:F r∨w0.heap.size≤r
 newK:F kb∨w0.heap.size≤kb
 newS:∀e ∈ ents,F e.2∨w0.heap.size≤e.2
 upd:Upd F w0 w
theorem RgE.still {F:Nat→Prop} {w0 w w':World} {r:Nat} {master:ByteArray} {cur boot n kb:Nat} {ents:List (Int × Nat)} (h:RgE F w0 w r master cur boot n kb ents) (hu:Upd (fun _=>False) w w'):RgE F w0 w' r master cur boot n kb ents :=
 ⟨h.blk.upd hu (fun e=>e),h.map.upd hu (fun e=>e),fun e he=>(h.slots e he).upd hu (fun e=>e),h.new,h.newK,h.newS,h.upd.then hu wz0⟩
theorem getA_slot {ents:List (Int × Nat)} {i:Int} : getA (ents.map slotPtr) i=none∨∃e ∈ ents,e.1=i∧getA (ents.map slotPtr) i=some (.pointer (some ⟨e.2,0,none⟩)):=by
 unfold getA;cases hf:(ents.map slotPtr).find? (fun p=>decide (p.1=i)) with
 | none=>exact .inl rfl
 | some p =>
   obtain ⟨e,he,rfl⟩:=List.mem_map.1 (List.mem_of_find?_eq_some hf);exact .inr ⟨e,he,by have h:=List.find?_some hf;exact of_decide_eq_true h,rfl⟩
theorem built_slot:Tryz.prog.built 269 []=some (slotRow 0 0 (List.replicate 32 0)):=kR
theorem ringkey_c {F:Nat→Prop} {w0 w:World} {r:Nat} {master:ByteArray} {cur boot n kb:Nat} {ents:List (Int × Nat)} (h:RgE F w0 w r master cur boot n kb ents) (i:Nat) (hi:i≤1048576) (hm:master.size≤64) :
 Calls Tryz.prog 108 #[.pointer (some ⟨r,0,none⟩),.int .i64 (i:Int)] w fun e w'=>e=.returned (.agg (arrB (ringK master.data.toList i)))∧∃ents',RgE F w0 w' r master cur boot n kb ents':=by
 obtain ⟨g,hg⟩:=eqx w.heap.size;have HG:=Lib.hid hg;have HH:=Lib.hid h;have HI:=h2k hi hm;obtain ⟨K,hK⟩:=eqx (ringK master.data.toList i);have hKl:K.length=32:=by rw [← hK];exact tagL_len _ _
 rw [hK];have HK:=Lib.hid hK;have HKL:=Lib.hid hKl;clear h hi hm hK hKl;go_enter Tryz.func108,Tryz.ntmps108
 go_upto_region 1 with (fail)
 generalize hw2:World.alloc _ _=w2;have ha2:Blk w2 g 111 #[.pointer (some ⟨r,0,none⟩)]:=by rw [← hw2,← hg];exact ((Blk.new w _ _).alloc _).alloc _
 have hb2:Blk w2 (g+1) 3 #[.int .i64 (i:Int)]:=by
  have h:=(Blk.new (w.alloc (.cells #[.pointer (some ⟨r,0,none⟩)] 111)) 3 #[.int .i64 (i:Int)]).alloc (.cells (arrB (List.replicate 32 0)) 194);rw [World.size_alloc,hg] at h;rw [← hw2];exact h
 have hc2:Blk w2 (g+1+1) 194 (arrB (List.replicate 32 0)):=by
  have h:=Blk.new ((w.alloc (.cells #[.pointer (some ⟨r,0,none⟩)] 111)).alloc (.cells #[.int .i64 (i:Int)] 3)) 194 (arrB (List.replicate 32 0));rw [World.size_alloc,World.size_alloc,hg] at h;rw [← hw2];exact h
 have hU2:Upd (fun _=>False) w w2:=by rw [← hw2];exact (((Upd.refl _ w).alloc _).alloc _).alloc _
 have hz2:w2.heap.size=g+3:=by rw [← hw2,World.size_alloc,World.size_alloc,World.size_alloc,hg]
 have HW2:=h5k ha2 hb2 hc2 (HH.out.still hU2) hz2;have HU2:=Lib.hid hU2;clear ha2 hb2 hc2 hU2 hw2 hg hz2;obtain ⟨q,hq⟩:=eqx w2.heap.size;have HQ:=Lib.hid (show q=g+3 by rw [← hq];exact HW2.out.2.2.2.2);refine wp_region_noPanic ?_;refine wp_region_T (S:=fun w'=>Upd (fun _=>False) w2 w') (T:=fun _=>false) kR ?_;have hS0:=(Upd.refl (fun _=>False) w2).drew;refine tQ8 0 (fun w' hSw=>And.intro (HW2.out.1.upd hSw (fun e=>e)).cells1 (And.intro (HW2.out.2.1.upd hSw (fun e=>e)).cells1 (show w'.cell? ⟨r,4,none⟩=some (.map (some kb)) from (HW2.out.2.2.2.1.blk.upd hSw (fun e=>e)).cell 4))) ?_;refine tQ8 1 (fun w' hSw=>And.intro (HW2.out.1.upd hSw (fun e=>e)).cells1 (And.intro (HW2.out.2.1.upd hSw (fun e=>e)).cells1 (show w'.cell? ⟨r,4,none⟩=some (.map (some kb)) from (HW2.out.2.2.2.1.blk.upd hSw (fun e=>e)).cell 4))) ?_;refine tQ8 2 (fun w' hSw=>And.intro (HW2.out.1.upd hSw (fun e=>e)).cells1 (And.intro (HW2.out.2.1.upd hSw (fun e=>e)).cells1 (show w'.cell? ⟨r,4,none⟩=some (.map (some kb)) from (HW2.out.2.2.2.1.blk.upd hSw (fun e=>e)).cell 4))) ?_;refine tQ8 3 (fun w' hSw=>And.intro (HW2.out.1.upd hSw (fun e=>e)).cells1 (And.intro (HW2.out.2.1.upd hSw (fun e=>e)).cells1 (show w'.cell? ⟨r,4,none⟩=some (.map (some kb)) from (HW2.out.2.2.2.1.blk.upd hSw (fun e=>e)).cell 4))) ?_
 refine tQ8 4 (fun w' hSw=>And.intro (HW2.out.1.upd hSw (fun e=>e)).cells1 (And.intro (HW2.out.2.1.upd hSw (fun e=>e)).cells1 (show w'.cell? ⟨r,4,none⟩=some (.map (some kb)) from (HW2.out.2.2.2.1.blk.upd hSw (fun e=>e)).cell 4))) ?_;obtain ⟨V,hV⟩:=eqx ((getA (ents.map slotPtr) (i:Int)).getD (.pointer none));obtain ⟨B,hB⟩:=eqx (getA (ents.map slotPtr) (i:Int)).isSome;have hz:∀W:World,(zeroValue 257).run Tryz.prog W=.ok (.pointer none) W:=fun W=>by simp [go_sem]
 have hlk:∀w',Upd (fun _=>False) w2 w'→(Instr.lookup 184 (.map (some kb)) (.int .i64 (i:Int)) true).run Tryz.prog w'=.ok (.tuple #[V,.bool B]) w':=fun w' hSw=>by
  have:=(HW2.out.2.2.2.1.map.upd hSw (fun e=>e)).run_lookup (P:=Tryz.prog) keyI Tryz.underlying184 Tryz.underlying3 (i:Int) true (hz w');rw [if_pos rfl,hV,hB] at this;exact this
 refine tQ8 5 (fun w' hSw=>hlk _ hSw) ?_;refine tK8 6 ?_;refine tK8 7 ?_;refine tK8 8 ?_;refine wo1 9 (fun KK hK=>?_);go_simp
 have hV1:V.oneCell'=true:=by
  rw [← hV];rcases getA_slot (ents:=ents) (i:=(i:Int)) with e | ⟨e,-,-,h⟩
  ·rw [e];rfl
  ·rw [h];rfl
 have hS9:Upd (fun _=>False) w2 (w2.alloc (.cells #[.pointer none] 257)).drew:=((Upd.refl _ w2).alloc _).drew;have hB9:Blk (w2.alloc (.cells #[.pointer none] 257)).drew q 257 #[.pointer none]:=by rw [← hq];exact Blk.new w2 _ _
 refine hK.out _ _ hS9 ?_;clear hK;generalize hw3:(w2.alloc (.cells #[.pointer none] 257)).drew=w3 at hS9 hB9 ⊢;refine wo1 10 (fun KK hK=>?_);refine step_store_one (by rfl) 257 _ _ (by rfl) q 0 V (by rfl) (by rfl) _ _ #[V] hB9 dC rfl hV1 kR ?_;intro w4 hB4 hU4 hz4;have hS4:Upd (fun _=>False) w2 w4:=hS9.then hU4 (fun b hb=>.inr oM);refine hK.out _ _ hS4 ?_;clear hK;refine tK8 11 ?_;refine wdn ?_;refine NoPanic.normal ?_;have HW4:=h5k (HW2.out.1.upd hS4 (fun e=>e)) (HW2.out.2.1.upd hS4 (fun e=>e)) (HW2.out.2.2.1.upd hS4 (fun e=>e)) hB4 (HW2.out.2.2.2.1.still hS4);have HU4:=Lib.hid (HU2.out.then hS4 wz0);have hz4:g+3<w4.heap.size:=by have:=hB4.lt;have:=HQ.out;omega
 have HZ4:=Lib.hid hz4;clear hw3 hS9 hB9 hU4 hS4 hB4 hlk hz hS0 hV1 hz4 hq;have hnot:∀(x:Bool) (w:World),(Op.unary .not (.bool x)).run Tryz.prog w=.ok (.bool (!x)) w:=fun _ _=>rfl
 rcases getA_slot (ents:=ents) (i:=(i:Int)) with hga | ⟨e,he,hei,hga⟩
 ·rw [hga] at hV hB
  obtain rfl:Value.pointer none=V:=hV;obtain rfl:false=B:=hB;have HGA:=Lib.hid hga;obtain ⟨sb,hsb⟩:=eqx w4.heap.size;have HSB:=Lib.hid hsb;clear hga hz4;go_upto_region 4 with (first
   | (refine wpList_build_is rfl _ _ rfl [] _ rfl built_slot ?_)
   | (refine wpList_store_one rfl 257 _ _ rfl q 0 (.pointer (some ⟨sb,0,none⟩)) rfl (by rw [← hsb];rfl) _ _ ((HW4.out.2.2.2.1).alloc _) dC rfl kR ?_
      intro w5 hB5 hU5 hz5))
  have hqs:q<sb:=by rw [← hsb];exact HW4.out.2.2.2.1.lt
  have hn5:Blk w5 sb 269 (slotRow 0 0 (List.replicate 32 0)):=by
   have h:=Blk.new w4 269 (slotRow 0 0 (List.replicate 32 0));rw [hsb] at h;exact h.upd hU5 oM
  have hu5:Upd (fun _=>False) w w5:=(HU4.out.alloc _).then hU5 (fun b hb=>.inr (by have e2:b=q:=hb;have:=HQ.out;have:=HG.out;omega));have hg5:Blk w5 g 111 #[.pointer (some ⟨r,0,none⟩)]:=(HW4.out.1.alloc _).upd hU5 (oN HQ.out);have hi5:Blk w5 (g+1) 3 #[.int .i64 (i:Int)]:=(HW4.out.2.1.alloc _).upd hU5 (oN HQ.out);have hk5:Blk w5 (g+1+1) 194 (arrB (List.replicate 32 0)):=(HW4.out.2.2.1.alloc _).upd hU5 (oN HQ.out);have hB5':Blk w5 q 257 #[.pointer (some ⟨sb,0,none⟩)]:=hB5;have R5:=HH.out.still hu5.drew;obtain ⟨w6,hrun6,hM6,hU6,hz6⟩:=R5.map.run_update (P:=Tryz.prog) keyI Tryz.underlying184 Tryz.underlying3 (i:Int) (.pointer (some ⟨sb,0,none⟩));have ca:=hg5.cells1;have cb:=hi5.cells1;have cq:=hB5'.cells1;have cr:w5.cell? ⟨r,4,none⟩=some (.map (some kb)):=R5.blk.cell 4;have nkr:=R5.map.ne_blk R5.blk;have nks:kb≠sb:=R5.map.ne_blk hn5.drew;have nkg:kb≠g:=R5.map.ne_blk hg5.drew;have nki:kb≠g+1:=R5.map.ne_blk hi5.drew;have nkq:kb≠q:=R5.map.ne_blk hB5'.drew;have H6:=h5k (hn5.drew.upd hU6 nks.symm) (hg5.drew.upd hU6 nkg.symm) (hi5.drew.upd hU6 nki.symm) (hB5'.drew.upd hU6 nkq.symm) (R5.blk.upd hU6 nkr.symm)
  have HN:=h2k nkr nks;clear nkr nks nkg nki nkq;have H5:=h8k hn5 hu5 hg5 hi5 hk5 hB5' hM6 hU6;clear hn5 hu5 hg5 hi5 hk5 hB5 hB5' hM6 hU6 hU5 hz5 hsb R5;go_still_tail 6,kR
  change wpList _ _ _ _ _ w5.drew;go_upto_region 5 with (fail)
  have cq6:=H6.out.2.2.2.1.cells1;have hof:=once_first H6.out.2.1 H6.out.2.2.1 H6.out.2.2.2.1 H6.out.2.2.2.2 H6.out.1 List.length_replicate HI.out.1 HI.out.2 (oN HQ.out) (oN HQ.out) oM (by have:=HH.out.blk.lt;have:=HG.out;have:=HQ.out;omega);rw [HK.out] at hof;have HOF:=Lib.hid hof;clear hof;go_wp2_with (first
   | (go_at_call 165
      refine HOF.out.mono ?_;rintro e w7 ⟨rfl,hB7,hU7⟩;have H7:=h2k hB7 hU7;have cq7:=(H6.out.2.2.2.1.upd hU7 oM).cells1;clear hB7 hU7 cq6)
   | (refine wpList_load_part rfl _ _ rfl sb 3 rfl _ _ (bytesV K) _ H7.out.1 (slotRow_keyV _ _ _) Tryz.underlying194 rfl (by rw [bytesV_len,HKL.out];kernel_rfl) ?_)
   | (refine wpList_store_all rfl 194 _ _ rfl (g+1+1) (arrB K) rfl rfl 194 (arrB (List.replicate 32 0)) ((H5.out.2.2.2.2.1.drew.upd H5.out.2.2.2.2.2.2.2 (oO HH.out.map.lt HG.out)).upd H7.out.2 (oN HQ.out)) (by rw [arrB_size,arrB_size,HKL.out];rfl) (arrB_one _) (by rw [arrB_size,HKL.out];kernel_rfl) ?_
      intro w8 hB8 hU8 hz8))
  have hgsz:=HG.out;have hkl:=HH.out.map.lt;have hrl:=HH.out.blk.lt;have hqe:=HQ.out;have hU:Upd (· = kb) w w8:=(((H5.out.2.1.drew.mono (G:=(· = kb)) wz0).then H5.out.2.2.2.2.2.2.2 (fun _ e=>.inl e)).then H7.out.2 (fun b e=>.inr (by have e2:b=sb:=e;omega))).then hU8 (fun b e=>.inr (by have e2:b=g+1+1:=e;omega));have hset:setA (ents.map slotPtr) (i:Int) (.pointer (some ⟨sb,0,none⟩))=(ents++[((i:Int),sb)]).map slotPtr:=by
   unfold setA;rw [if_neg ?_,List.map_append]
   ·rfl
   ·intro hmem
    obtain ⟨p,hp,hpi⟩:=List.mem_map.1 hmem;have h:=HGA.out;unfold getA at h;rw [Option.map_eq_none_iff,List.find?_eq_none] at h;exact h p hp (by simp [hpi])
  have hM:=H5.out.2.2.2.2.2.2.1;rw [hset] at hM;refine bodyPost_ret (results_cell_row rfl _ _ (g+1+1) _ _ _ _ rfl hB8 Tryz.underlying194 rfl (by rw [arrB_size,HKL.out];kernel_rfl)) rfl ⟨rfl,ents++[((i:Int),sb)],?_⟩
  refine ⟨HH.out.blk.upd hU HN.out.1.symm,(hM.upd H7.out.2 HN.out.2).upd hU8 oM,fun e he=>?_,HH.out.new,HH.out.newK,fun e he=>?_,HH.out.upd.then hU (fun b e=>by have e2:b=kb:=e;rw [e2];exact HH.out.newK)⟩
  ·rcases List.mem_append.1 he with he | he
   ·exact (HH.out.slots e he).upd hU (fun e2=>HH.out.map.ne_blk (HH.out.slots e he) e2.symm)
   ·obtain rfl:=List.mem_singleton.1 he
    show Blk w8 sb _ (slotRow 1 0 (ringK master.data.toList i));rw [HK.out];exact H7.out.1.upd hU8 oM
  ·rcases List.mem_append.1 he with he | he
   ·exact HH.out.newS e he
   ·obtain rfl:=List.mem_singleton.1 he
    exact .inr (by have:=HH.out.upd.size;show w0.heap.size≤sb;omega)
 ·rw [hga] at hV hB
  obtain rfl:Value.pointer (some ⟨e.2,0,none⟩)=V:=hV;obtain rfl:true=B:=hB;have hsl:=HW4.out.2.2.2.2.slots e he;rw [hei] at hsl;have hti:((i:Int)).toNat=i:=rfl;rw [hti] at hsl;rw [HK.out] at hsl;obtain ⟨sb,hsb⟩:=eqx e.2;rw [hsb] at hsl ⊢;have HSL:=Lib.hid hsl;have cq:=HW4.out.2.2.2.1.cells1;rw [hsb] at cq;clear hga hsl hsb hei hti;go_wp2_with (first
   | (go_at_call 165
      refine (once_done HSL.out).mono ?_;rintro e w5 ⟨rfl,rfl⟩)
   | (refine wpList_load_part rfl _ _ rfl sb 3 rfl _ _ (bytesV K) _ HSL.out (slotRow_keyV _ _ _) Tryz.underlying194 rfl (by rw [bytesV_len,HKL.out];kernel_rfl) ?_)
   | (refine wpList_store_all rfl 194 _ _ rfl (g+1+1) (arrB K) rfl rfl _ _ HW4.out.2.2.1 (by rw [arrB_size,arrB_size,HKL.out];rfl) (arrB_one _) (by rw [arrB_size,HKL.out];kernel_rfl) ?_
      intro w6 hB6 hU6 hz6))
  refine bodyPost_ret (results_cell_row rfl _ _ (g+1+1) _ _ _ _ rfl hB6 Tryz.underlying194 rfl (by rw [arrB_size,HKL.out];kernel_rfl)) rfl ⟨rfl,ents,HH.out.still (HU4.out.then hU6 (fun b hb=>.inr (by have e2:b=g+1+1:=hb;have:=HG.out;omega)))⟩
section
variable {F:Nat→Prop} {w0 w:World} {r:Nat} {master:ByteArray} {cur boot n kb:Nat} {ents:List (Int × Nat)}
theorem rnone_c (h:RgE F w0 w r master cur boot n kb ents):Calls Tryz.prog 105 #[.pointer (some ⟨r,0,none⟩)] w fun e w'=>e=.returned (.bool false)∧w'=w:=by
 have cr:w.cell? ⟨r,4,none⟩=some (.map (some kb)):=h.blk.cell 4;have hmn:(binOp .eql 184 (.map (some kb)) (.map none)).run Tryz.prog w=.ok (.bool false) w:=by first | rfl | kernel_rfl | simp [binOp,Op.equal,run_underlying Tryz.underlying184]
 clear h;go_enter Tryz.func105,Tryz.ntmps105
 go_wp2_with fail
 go_ret
 exact ⟨rfl,rfl⟩
theorem RgE.set (h:RgE F w0 w r master cur boot n kb ents) {w':World} {cur' n':Nat} (hu:Upd (· = r) w w') (hB:Blk w' r 186 #[.string master,.int .i64 (cur':Int),.int .u32 (boot:Int),.int .u64 (n':Int),.map (some kb)]):RgE F w0 w' r master cur' boot n' kb ents:=by
 refine ⟨hB,h.map.upd hu (h.map.ne_blk h.blk),fun e he=>(h.slots e he).upd hu ?_,h.new,h.newK,h.newS,h.upd.then hu (fun b e=>by have e2:b=r:=e;rw [e2];exact h.new)⟩;exact fun e2=>absurd rfl ((h.slots e he).ne_ (e2 ▸ h.blk) dC)
theorem rrotate_c (h:RgE F w0 w r master cur boot n kb ents) (hc:cur<1048576):Calls Tryz.prog 79 #[.pointer (some ⟨r,0,none⟩)] w fun e w'=>e=.returned (.int .i64 0)∧RgE F w0 w' r master (cur+1) boot n kb ents:=by
 have HN:=Lib.hid (rnone_c h);have cr:w.cell? ⟨r,1,none⟩=some (.int .i64 (cur:Int)):=h.blk.cell 1;have fr:=h.blk.frozen 1;have k1:(cur:Int)<1048576:=oM;have HC:=Lib.hid hc;clear hc;have HH:=Lib.hid h;clear h;obtain ⟨C,hC⟩:∃C:Int,(cur:Int)=C:=⟨_,rfl⟩;rw [hC] at cr k1;have k0:(0:Int)≤C:=oM;have HCC:=Lib.hid hC;clear hC;go_enter Tryz.func79,Tryz.ntmps79
 go_wp2_with (first
  | (go_at_call 105
     refine HN.out.mono ?_;rintro e w' ⟨rfl,rfl⟩))
 go_ret
 refine ⟨rfl,?_⟩;refine HH.out.set ((Upd.refl (· = r) _).setCell (p:=⟨r,1,none⟩) (.inl rfl) _) ?_;have:=HH.out.blk.set_ 1 (.int .i64 (C+1));rw [← HCC.out] at this ⊢;exact this
end
theorem rnew_c (master:ByteArray) (cur boot:Nat) (hc:cur≤1048576) (w:World) :
 Calls Tryz.prog 122 #[.string master,.int .i64 (cur:Int),.int .u32 (boot:Int)] w fun e w'=>∃r kb,e=.returned (.tuple #[.pointer (some ⟨r,0,none⟩),.int .i64 0])∧RgE (fun _=>False) w w' r master cur boot 0 kb []:=by
 obtain ⟨C,hC⟩:∃C:Int,(cur:Int)=C:=⟨_,rfl⟩;have k0:(0:Int)≤C:=oM;have k1:C≤1048576:=oM;rw [hC];have HCC:=Lib.hid hC;clear hC hc;have hmm:=@run_makeMap Tryz.prog;have hbr:Tryz.prog.built 186 [(0,.string master),(1,.int .i64 C),(2,.int .u32 (boot:Int)),(4,.map (some w.heap.size))]=some #[.string master,.int .i64 C,.int .u32 (boot:Int),.int .u64 0,.map (some w.heap.size)]:=kR;go_enter Tryz.func122,Tryz.ntmps122
 go_wp2_with (first
  | (refine wpList_build_is rfl _ _ rfl [(0,.string master),(1,.int .i64 C),(2,.int .u32 (boot:Int)),(4,.map (some w.heap.size))] _ (by first | rfl | kernel_rfl) hbr ?_))
 go_ret2
 refine ⟨w.heap.size+1,w.heap.size,rfl,?_⟩;have h2:=Blk.new (w.alloc (.map #[] 0)) 186 #[.string master,.int .i64 C,.int .u32 (boot:Int),.int .u64 0,.map (some w.heap.size)];rw [World.size_alloc,← HCC.out] at h2;rw [← HCC.out];exact ⟨h2,(MapB.new w).alloc _,fun e he=>by simp at he,.inr oM,.inr (Nat.le_refl _),fun e he=>by simp at he,((Upd.refl _ w).alloc _).alloc _⟩
section
variable {F:Nat→Prop} {w0 w w':World} {r:Nat} {master:ByteArray} {cur boot n kb:Nat} {ents:List (Int × Nat)}
def ringOwn (r kb:Nat) (ents:List (Int × Nat)) (q:Nat):Prop:=q=r∨q=kb∨∃e ∈ ents,e.2=q
theorem RgE.here (h:RgE F w0 w r master cur boot n kb ents):RgE (ringOwn r kb ents) w w r master cur boot n kb ents :=
 ⟨h.blk,h.map,h.slots,.inl (.inl rfl),.inl (.inr (.inl rfl)),fun e he=>.inl (.inr (.inr ⟨e,he,rfl⟩)),Upd.refl _ _⟩
theorem RgE.own_is (h:RgE F w0 w r master cur boot n kb ents) (q:Nat) (hq:ringOwn r kb ents q):F q∨w0.heap.size≤q:=by
 rcases hq with rfl | rfl | ⟨e,he,rfl⟩
 ·exact h.new
 ·exact h.newK
 ·exact h.newS e he
theorem RgE.back {cur' n':Nat} {ents':List (Int × Nat)} (h:RgE F w0 w r master cur boot n kb ents) (h':RgE (ringOwn r kb ents) w w' r master cur' boot n' kb ents'):RgE F w0 w' r master cur' boot n' kb ents':=by
 have hs:=h.upd.size;refine ⟨h'.blk,h'.map,h'.slots,h.new,h.newK,fun e he=>(h'.newS e he).elim (h.own_is _) (fun x=>.inr oM),h.upd.then h'.upd (fun q hq=>h.own_is q hq)⟩
theorem RgE.own_not (h:RgE F w0 w r master cur boot n kb ents) {q:Nat} {t:TypeId} {cs:Array Value} (hB:Blk w q t cs) (n1:t≠186) (n2:t≠269):¬ringOwn r kb ents q:=by
 rintro (rfl | rfl | ⟨e,he,rfl⟩)
 ·exact absurd rfl (hB.ne_ h.blk n1)
 ·exact h.map.ne_blk hB rfl
 ·exact absurd rfl (hB.ne_ (h.slots e he) n2)
end
theorem RgE.far_env {F:Nat→Prop} {w0 w w':World} {r:Nat} {master:ByteArray} {cur boot n kb q:Nat} {cs:Array Value} {ents:List (Int × Nat)} (h:RgE F w0 w r master cur boot n kb ents) (hB:Blk w q 191 cs) (hu:Upd (· = q) w w') (h0:w0.heap.size≤q):RgE F w0 w' r master cur boot n kb ents:=by
 have hno:=h.own_not hB dC dC;exact ⟨h.blk.upd hu (fun e=>hno (.inl e.symm)),h.map.upd hu (fun e=>hno (.inr (.inl e.symm))),fun e he=>(h.slots e he).upd hu (fun e2=>hno (.inr (.inr ⟨e,he,e2⟩))),h.new,h.newK,h.newS,h.upd.then hu (fun b e=>.inr (by have e2:b=q:=e;omega))⟩
theorem zz1 {P:Prop} (h:P:=by
 refine hKK.out _ _ hSc ?_;clear hKK;refine tK8 18 ?_;refine tK8 19 ?_;refine tK8 20 ?_;refine wo1 22 (fun KK hKK=>?_);refine step_store_all rfl 191 _ _ rfl q x.row rfl rfl 191 _ hBc (by rw [HX.out.2.2.2.1];exact EnvM.row_size List.length_replicate) (EnvM.row_one x) (by rw [HX.out.2.2.2.1];kernel_rfl) ?_
 intro ws hBs hUs hzs;have hSs:∃es,RgE F w0 ws r master cur boot n kb es:=by
  obtain ⟨es,h⟩:=hSc;exact ⟨es,h.far_env hBc hUs hq0⟩
 refine hKK.out _ _ hSs ?_;clear hKK;refine tK8 23 ?_;refine wdn ?_;refine NoPanic.normal ?_;obtain ⟨esz,hz⟩:=hSs;have HZ:=h3k hz hBs hq0;clear hBs hUs hzs hq0 hz;go_upto_region 11 with (first
  | (refine wlx _ q HZ.out.2.1 Tryz.underlying191 (by rw [HX.out.2.2.2.1];kernel_rfl) ?_)
  | (go_at_call 109
     refine (HBY.out _).mono ?_;rintro e wb ⟨rfl,hUb⟩;have HZB:=Lib.hid (HZ.out.1.still hUb);clear hUb))
 have had:=aadd_c r 3 n (oN HX.out.2.2.2.2) wb (HZB.out.blk.cell 3) (HZB.out.blk.frozen 3);have HAD:=Lib.hid had;clear had;go_wp2_with fail
 refine HAD.out.mono ?_;rintro e wd ⟨rfl,rfl⟩;go_wp2_with fail
 go_ret2
 refine ⟨rfl,esz,HZB.out.set ((Upd.refl (· = r) _).setCell (p:=⟨r,3,none⟩) (.inl rfl) _) ?_⟩;exact HZB.out.blk.set_ 3 _):P:=h
theorem rwrap_c {F:Nat→Prop} {w0 w:World} {r:Nat} {master:ByteArray} {cur boot n kb:Nat} {ents:List (Int × Nat)} (h:RgE F w0 w r master cur boot n kb ents) (hm:master.size≤64) (hc:cur≤1048576) (hb:boot<4294967296) (hn:n<4611686018427387904) (about text:ByteArray) (ha:about.size≤1000) (ht:text.size≤8192) :
 Calls Tryz.prog 57 #[.pointer (some ⟨r,0,none⟩),.string about,.string text] w fun e w'=>e=.returned (.tuple #[.string (str (sealB (ringK master.data.toList cur) cur boot n about.data.toList text.data.toList)),.int .i64 0])∧∃ents',RgE F w0 w' r master cur boot (n+1) kb ents':=by
 obtain ⟨K,hK⟩:=eqx (ringK master.data.toList cur);have hKl:K.length=32:=by rw [← hK];exact tagL_len _ _
 rw [hK];obtain ⟨D,hD⟩:=eqx (dataL K boot n text.data.toList);have hDl:D.length=text.size:=by rw [← hD,dataL_len];rfl
 obtain ⟨T,hT⟩:=eqx (stampL K cur boot n about.data.toList D);have hTl:T.length=32:=by rw [← hT];exact tagL_len _ _
 obtain ⟨x,hx⟩:=eqx (⟨cur,boot,n,D,T⟩:EnvM);have okx:EnvOk x:=by rw [← hx];exact ⟨hc,hb,by show n<_;omega,by show D.length≤_;omega,hTl⟩
 have hcl:=fun W=>sclose_c K hKl cur boot n hc hb oM about text ha ht W
 rw [hD,hT,hx] at hcl;have hby:=fun W=>sbytes_c x okx W
 obtain ⟨O,hO⟩:=eqx (str (sealB K cur boot n about.data.toList text.data.toList));rw [show str (numbersB x.key x.boot x.n++(textN x.data++x.tag))=O by rw [← hO,← hx];unfold sealB;rw [hD,hT]] at hby;rw [hO];have hkey:∀(F:Nat→Prop) (w0 W:World) (es:List (Int × Nat)),RgE F w0 W r master cur boot n kb es→Calls Tryz.prog 108 #[.pointer (some ⟨r,0,none⟩),.int .i64 (cur:Int)] W fun e w'=>e=.returned (.agg (arrB K))∧∃ents',RgE F w0 w' r master cur boot n kb ents':=fun F w0 W es h=>by
  have:=ringkey_c h cur hc hm;rw [hK] at this;exact this
 obtain ⟨C,hC⟩:∃C:Int,(cur:Int)=C:=⟨_,rfl⟩;obtain ⟨B,hB⟩:∃C:Int,(boot:Int)=C:=⟨_,rfl⟩;obtain ⟨N,hN⟩:∃C:Int,(n:Int)=C:=⟨_,rfl⟩;have n0:(0:Int)≤N:=oM;have n1:N<9223372036854775808:=oM;rw [hC] at hkey hcl;rw [hB,hN] at hcl;have hld:=aload_c r 3 (n:Int) w (h.blk.cell 3);rw [hN] at hld;have HNo:=Lib.hid (rnone_c h);have HLD:=Lib.hid hld;have HKY:=Lib.hid hkey;have HCL:=Lib.hid hcl;have HBY:=Lib.hid hby;have HH:=Lib.hid h;have HX:=h5k hC hB hN (EnvM.row_size okx.tag) hn;have HKL:=Lib.hid hKl;clear h hm hc hb hn ha ht hK hKl hD hDl hT hTl hx okx hcl hby hO hkey hC hB hN hld;go_enter Tryz.func57,Tryz.ntmps57
 go_upto_region 6 with (first
  | (go_at_call 105
     refine HNo.out.mono ?_;rintro e w1 ⟨rfl,rfl⟩)
  | (go_at_call 106
     refine HLD.out.mono ?_;rintro e w2 ⟨rfl,rfl⟩))
 refine wp_region_noPanic ?_;refine wp_region_T (S:=fun w'=>∃es,RgE F w0 w' r master cur boot n kb es) (T:=fun _=>false) kR ?_;have hS0:∃es,RgE F w0 w2.drew r master cur boot n kb es:=⟨ents,HH.out.still (Upd.refl _ _).drew⟩;have hcells:∀w',(∃es,RgE F w0 w' r master cur boot n kb es)→w'.cell? ⟨r,1,none⟩=some (.int .i64 C)∧w'.cell? ⟨r,2,none⟩=some (.int .u32 B):=fun w' h=>by
  obtain ⟨es,h⟩:=h;have h1:=h.blk.cell 1;have h2:=h.blk.cell 2;exact ⟨h1.trans (by rw [← HX.out.1];rfl),h2.trans (by rw [← HX.out.2.1];rfl)⟩
 have HCE:=Lib.hid hcells;clear hcells;refine tQ8 0 (fun w' hSw=>HCE.out _ hSw) ?_;refine tQ8 1 (fun w' hSw=>HCE.out _ hSw) ?_;refine tQ8 2 (fun w' hSw=>HCE.out _ hSw) ?_;refine tQ8 3 (fun w' hSw=>HCE.out _ hSw) ?_;refine tQ8 4 (fun w' hSw=>HCE.out _ hSw) ?_;refine tQ8 6 (fun w' hSw=>HCE.out _ hSw) ?_;refine tQ8 7 (fun w' hSw=>HCE.out _ hSw) ?_;refine tQ8 8 (fun w' hSw=>HCE.out _ hSw) ?_;refine tQ8 9 (fun w' hSw=>HCE.out _ hSw) ?_;refine tQ8 10 (fun w' hSw=>HCE.out _ hSw) ?_;refine tQ8 11 (fun w' hSw=>HCE.out _ hSw) ?_;refine tQ8 12 (fun w' hSw=>HCE.out _ hSw) ?_;refine tQ8 13 (fun w' hSw=>HCE.out _ hSw) ?_;refine tQ8 14 (fun w' hSw=>HCE.out _ hSw) ?_;refine tQ8 15 (fun w' hSw=>HCE.out _ hSw) ?_;refine tQ8 16 (fun w' hSw=>HCE.out _ hSw) ?_;refine wpAnyT_two (i:=5) (j:=21) kR rfl rfl (fun KK hKK=>?_) (fun KK hKK=>?_)
 ·go_simp
  obtain ⟨es1,hE1⟩:=hS0;refine (HKY.out _ _ _ _ hE1.here).mono ?_;rintro e wk ⟨rfl,es2,hk2⟩;have hSk:∃es,RgE F w0 wk r master cur boot n kb es:=⟨es2,hE1.back hk2⟩;refine hKK.out _ _ hSk ?_;clear hKK;refine wpAnyT_two (i:=17) (j:=21) kR rfl rfl (fun KK hKK=>?_) (fun KK hKK=>?_)
  ·go_simp
   refine (HCL.out _).mono ?_;rintro e wc ⟨rfl,hUc⟩;have hSc:∃es,RgE F w0 wc r master cur boot n kb es:=by
    obtain ⟨es,h⟩:=hSk;exact ⟨es,h.still hUc⟩
   refine hKK.out _ _ hSc ?_;clear hKK;refine tK8 18 ?_;refine tK8 19 ?_;refine tK8 20 ?_;refine wo1 21 (fun KK hKK=>?_);go_simp
   generalize hwa:World.alloc wc _=wa;have hUa:Upd (fun _=>False) wc wa:=by rw [← hwa];exact ((Upd.refl _ _).alloc _)
   have hBq:Blk wa wc.heap.size 191 (EnvM.row ⟨0,0,0,[],List.replicate 32 0⟩):=by rw [← hwa];exact Blk.new _ _ _
   obtain ⟨q,hq⟩:=eqx wc.heap.size;rw [hq] at hBq ⊢;have hSa:∃es,RgE F w0 wa r master cur boot n kb es:=by
    obtain ⟨es,h⟩:=hSc;exact ⟨es,h.still hUa⟩
   have hq0:w0.heap.size≤q:=by
    obtain ⟨es,h⟩:=hSc;rw [← hq];exact h.upd.size
   refine hKK.out _ _ hSa ?_;clear hKK hwa hq hUa;refine wo1 22 (fun KK hKK=>?_);refine step_store_all rfl 191 _ _ rfl q x.row rfl rfl 191 _ hBq (by rw [HX.out.2.2.2.1];exact EnvM.row_size List.length_replicate) (EnvM.row_one x) (by rw [HX.out.2.2.2.1];kernel_rfl) ?_
   intro ws hBs hUs hzs;have hSs:∃es,RgE F w0 ws r master cur boot n kb es:=by
    obtain ⟨es,h⟩:=hSa;exact ⟨es,h.far_env hBq hUs hq0⟩
   refine hKK.out _ _ hSs ?_;clear hKK;refine tK8 23 ?_;refine wdn ?_;refine NoPanic.normal ?_;obtain ⟨esz,hz⟩:=hSs;have HZ:=h3k hz hBs hq0;clear hBs hUs hzs hq0 hz;go_upto_region 11 with (first
    | (refine wlx _ q HZ.out.2.1 Tryz.underlying191 (by rw [HX.out.2.2.2.1];kernel_rfl) ?_)
    | (go_at_call 109
       refine (HBY.out _).mono ?_;rintro e wb ⟨rfl,hUb⟩;have HZB:=Lib.hid (HZ.out.1.still hUb);clear hUb))
   have had:=aadd_c r 3 n (oN HX.out.2.2.2.2) wb (HZB.out.blk.cell 3) (HZB.out.blk.frozen 3);have HAD:=Lib.hid had;clear had;go_wp2_with fail
   refine HAD.out.mono ?_;rintro e wd ⟨rfl,rfl⟩;go_wp2_with fail
   go_ret2
   refine ⟨rfl,esz,HZB.out.set ((Upd.refl (· = r) _).setCell (p:=⟨r,3,none⟩) (.inl rfl) _) ?_⟩;exact HZB.out.blk.set_ 3 _
  ·go_simp
   generalize hwa:World.alloc wk _=wa;have hUa:Upd (fun _=>False) wk wa:=by rw [← hwa];exact ((Upd.refl _ _).alloc _)
   have hBq:Blk wa wk.heap.size 191 (EnvM.row ⟨0,0,0,[],List.replicate 32 0⟩):=by rw [← hwa];exact Blk.new _ _ _
   obtain ⟨q,hq⟩:=eqx wk.heap.size;rw [hq] at hBq ⊢;have hSa:∃es,RgE F w0 wa r master cur boot n kb es:=by
    obtain ⟨es,h⟩:=hSk;exact ⟨es,h.still hUa⟩
   have hq0:w0.heap.size≤q:=by
    obtain ⟨es,h⟩:=hSk;rw [← hq];exact h.upd.size
   refine hKK.out _ _ hSa ?_;clear hKK hwa hq hUa;refine wo1 17 (fun KK hKK=>?_);go_simp
   refine (HCL.out _).mono ?_;rintro e wc ⟨rfl,hUc⟩;have hSc:∃es,RgE F w0 wc r master cur boot n kb es:=by
    obtain ⟨es,h⟩:=hSa;exact ⟨es,h.still hUc⟩
   have hBc:=hBq.upd hUc (fun e=>e);exact zz1
 ·have hSb:∃es,RgE F w0 w2 r master cur boot n kb es:=⟨ents,HH.out⟩
  go_simp
  generalize hwa:World.drew (World.alloc w2 _)=wa;have hUa:Upd (fun _=>False) w2 wa:=by rw [← hwa];exact ((Upd.refl _ _).alloc _).drew
  have hBq:Blk wa w2.heap.size 191 (EnvM.row ⟨0,0,0,[],List.replicate 32 0⟩):=by rw [← hwa];exact Blk.new _ _ _
  obtain ⟨q,hq⟩:=eqx w2.heap.size;rw [hq] at hBq ⊢;have hSa:∃es,RgE F w0 wa r master cur boot n kb es:=by
   obtain ⟨es,h⟩:=hSb;exact ⟨es,h.still hUa⟩
  have hq0:w0.heap.size≤q:=by
   obtain ⟨es,h⟩:=hSb;rw [← hq];exact h.upd.size
  refine hKK.out _ _ hSa ?_;clear hKK hwa hq hUa;refine wo1 5 (fun KK hKK=>?_);go_simp
  obtain ⟨es2,hE2⟩:=hSa;refine (HKY.out _ _ _ _ hE2.here).mono ?_;rintro e wk ⟨rfl,es2,hk2⟩;have hBk:=hBq.upd hk2.upd (hE2.own_not hBq dC dC);have hSk:∃es,RgE F w0 wk r master cur boot n kb es:=⟨es2,hE2.back hk2⟩;refine hKK.out _ _ hSk ?_;clear hKK;refine wo1 17 (fun KK hKK=>?_);go_simp
  refine (HCL.out _).mono ?_;rintro e wc ⟨rfl,hUc⟩;have hSc:∃es,RgE F w0 wc r master cur boot n kb es:=by
   obtain ⟨es,h⟩:=hSk;exact ⟨es,h.still hUc⟩
  have hBc:=hBk.upd hUc (fun e=>e);exact zz1
theorem ropen_c {F:Nat→Prop} {w0 w:World} {r:Nat} {master:ByteArray} {cur boot n kb:Nat} {ents:List (Int × Nat)} (h:RgE F w0 w r master cur boot n kb ents) (hm:master.size≤64) (hc:cur≤1048576) (key b2 n2:Nat) (hk:key≤cur) (hb:b2<4294967296) (hn:n2<18446744073709551616) (about:ByteArray) (ha:about.size≤1000) (text:List UInt8) (ht:text.length≤8192)
 (s:ByteArray) (hs:s.data.toList=sealB (ringK master.data.toList key) key b2 n2 about.data.toList text) :
 Calls Tryz.prog 123 #[.pointer (some ⟨r,0,none⟩),.string s,.string about] w fun e w'=>e=.returned (.tuple #[.string (str text),.int .i64 0])∧∃ents',RgE F w0 w' r master cur boot n kb ents':=by
 obtain ⟨K,hK⟩:=eqx (ringK master.data.toList key);have hKl:K.length=32:=by rw [← hK];exact tagL_len _ _
 rw [hK] at hs;obtain ⟨D,hD⟩:=eqx (dataL K b2 n2 text);have hDl:D.length=text.length:=by rw [← hD,dataL_len]
 obtain ⟨T,hT⟩:=eqx (stampL K key b2 n2 about.data.toList D);have hTl:T.length=32:=by rw [← hT];exact tagL_len _ _
 have hback:dataL K b2 n2 D=text:=by rw [← hD];exact dataL_back _ _ _ _
 obtain ⟨x,hx⟩:=eqx (⟨key,b2,n2,D,T⟩:EnvM);have okx:EnvOk x:=by rw [← hx];exact ⟨by show key≤_;omega,hb,hn,by show D.length≤_;omega,hTl⟩
 have hrd:=fun W=>sread_c x okx s (by rw [hs,← hx];unfold sealB;rw [hD,hT]) W
 have hop:=fun W=>sopen_c K hKl x okx about ha (by rw [← hx];exact hT.symm) W
 obtain ⟨O,hO⟩:=eqx (str text);rw [show dataL K x.boot x.n x.data=text by rw [← hx];exact hback,hO] at hop;rw [hO];have hkey:∀(F:Nat→Prop) (w0 W:World) (es:List (Int × Nat)),RgE F w0 W r master cur boot n kb es→Calls Tryz.prog 108 #[.pointer (some ⟨r,0,none⟩),.int .i64 (key:Int)] W fun e w'=>e=.returned (.agg (arrB K))∧∃ents',RgE F w0 w' r master cur boot n kb ents':=fun F w0 W es h=>by
  have:=ringkey_c h key oM hm;rw [hK] at this;exact this
 have hxk:x.key=key:=by rw [← hx]
 have k1:(key:Int)≤(cur:Int):=oM;have HNo:=Lib.hid (rnone_c h);have HRD:=Lib.hid hrd;have HKY:=Lib.hid hkey;have HOP:=Lib.hid hop;have HH:=Lib.hid h;have HX:=h2k hxk (EnvM.row_size okx.tag);clear h hm hc hb hn ha ht hK hKl hD hDl hT hTl hx okx hrd hop hO hkey hxk hs hback hk;go_enter Tryz.func123,Tryz.ntmps123
 go_upto_region 3 with (first
  | (go_at_call 105
     refine HNo.out.mono ?_;rintro e w1 ⟨rfl,rfl⟩))
 go_wp2_with fail
 refine (HRD.out _).mono ?_;rintro e w2 ⟨rfl,hU2⟩;obtain ⟨q,hq⟩:=eqx w2.heap.size;have HQ:=Lib.hid hq;clear hq;have H2:=Lib.hid (HH.out.still hU2);clear hU2;go_upto_region 6 with (first
  | (refine wpList_store_all rfl 191 _ _ rfl w2.heap.size x.row rfl rfl 191 _ (Blk.new w2 _ _) (by rw [HX.out.2];rfl) (EnvM.row_one x) (by rw [HX.out.2];kernel_rfl) ?_
     intro w3 hB3 hU3 hz3))
 rw [HQ.out] at hB3 hU3 ⊢;have hU23:Upd (fun _=>False) w2 w3:=((Upd.refl _ w2).alloc _).then hU3 (fun b e=>.inr (by have e2:b=q:=e;have:=HQ.out;omega));have H3:=h2k (H2.out.still hU23) hB3;clear hU3 hz3 hB3 hU23;have c0:w3.cell? ⟨q,0,none⟩=some (.int .i64 (key:Int)):=(H3.out.2.cell 0).trans (by have:=HX.out.1;unfold EnvM.row;rw [this];rfl)
 have cr:w3.cell? ⟨r,1,none⟩=some (.int .i64 (cur:Int)):=H3.out.1.blk.cell 1;have k2:decide ((cur:Int)<(key:Int))=false:=by simpa using k1
 go_quiet (fail)
 go_upto_region 8 with (fail)
 have HS4:=h2k (H3.out.1.still ((Upd.refl _ w3).drewN nq)) (H3.out.2.drewN nq);generalize hw4:World.drewN w3 nq=w4 at HS4 ⊢;clear hw4 c0 cr k2;refine wp_region_noPanic ?_;refine wp_region_T (S:=fun w'=>(∃es,RgE F w0 w' r master cur boot n kb es)∧Blk w' q 191 x.row) (T:=fun _=>false) kR ?_;have hS0:(∃es,RgE F w0 w4.drew r master cur boot n kb es)∧Blk w4.drew q 191 x.row:=⟨⟨ents,HS4.out.1.still (Upd.refl _ _).drew⟩,HS4.out.2.drew⟩;have HCK:=Lib.hid (fun (w':World) (h:Blk w' q 191 x.row)=>(h.cell 0).trans (show x.row[0]? = some (.int .i64 (key:Int)) by have:=HX.out.1;unfold EnvM.row;rw [this];rfl))
 refine tQ8 0 (fun w' hSw=>HCK.out _ hSw.2) ?_;refine tQ8 1 (fun w' hSw=>HCK.out _ hSw.2) ?_;refine tQ8 2 (fun w' hSw=>HCK.out _ hSw.2) ?_;refine tT8 4 (.agg x.row) (takes_load_all rfl (by rfl) _ _ rfl q (by rfl) _ _ _ (fun w' hSw=>hSw.2) Tryz.underlying191 rfl (by rw [HX.out.2];kernel_rfl)) ?_
 refine tK8 5 ?_;refine wo1 3 (fun KK hKK=>?_);go_simp
 obtain ⟨⟨es,hE⟩,hBq⟩:=hS0;refine (HKY.out _ _ _ _ hE.here).mono ?_;rintro e wk ⟨rfl,es2,hk2⟩;have hSk:(∃es,RgE F w0 wk r master cur boot n kb es)∧Blk wk q 191 x.row:=⟨⟨es2,hE.back hk2⟩,hBq.upd hk2.upd (hE.own_not hBq dC dC)⟩;refine hKK.out _ _ hSk ?_;clear hKK hE hk2 hBq;refine wo1 6 (fun KK hKK=>?_);go_simp
 refine (HOP.out _).mono ?_;rintro e wo ⟨rfl,hUo⟩;have hSo:(∃es,RgE F w0 wo r master cur boot n kb es)∧Blk wo q 191 x.row:=⟨by
  obtain ⟨⟨es,h⟩,-⟩:=hSk;exact ⟨es,h.still hUo⟩,hSk.2.upd hUo (fun e=>e)⟩
 refine hKK.out _ _ hSo ?_;clear hKK hSk hUo;refine tK8 7 ?_;refine tK8 8 ?_;refine tK8 9 ?_;refine tK8 10 ?_;refine wdn ?_;refine NoPanic.normal ?_;obtain ⟨⟨es3,hz⟩,-⟩:=hSo;have HZ:=Lib.hid hz;clear hz;go_wp2_with fail
 go_ret2
 exact ⟨rfl,es3,HZ.out⟩
def metaRow (m:MetaM) (mv:Value):Array Value:=#[.int .i64 m.role,.int .i64 m.seen,.int .i64 m.grant,mv,.string (str m.secret)]
theorem vright_c {w:World} {A:Option Addr} {cap b off:Nat} (m:MetaM) (hA:0<m.mounts.length→A=some ⟨b,off,none⟩) (hb:∀w',Upd (fun _=>False) w w'→MtsAt w' b off m.mounts) (hl:m.mounts.length≤1000000) (hcap:m.mounts.length≤cap) (hs:∀x ∈ m.mounts,x.name.length≤1000000) :
 Calls Tryz.prog 41 #[.agg (metaRow m (.slice A m.mounts.length cap))] w fun e w'=>e=.returned (.bool (rightM m))∧Upd (fun _=>False) w w':=by
 have hpr:=fun W (hW:Upd (fun _=>False) w W)=>pright_c (A:=A) (cap:=cap) (w:=W) hA (fun w' h=>hb w' (hW.then h wz0)) hl hcap hs
 obtain ⟨B,hB⟩:=eqx (rightM m);rw [hB];unfold rightM at hB;have hnil:m.mounts=[]↔(m.mounts.length:Int)=0:=by
  constructor
  ·intro h;rw [h];rfl
  ·intro h;exact List.eq_nil_of_length_eq_zero oM
 obtain ⟨M,hM⟩:=eqx (okMounts m.mounts);rw [hM] at hB hpr;obtain ⟨S,hS⟩:=eqx (str m.secret);have hSs:S.size=m.secret.length:=by rw [← hS,str_size]
 have hrow:metaRow m (.slice A m.mounts.length cap)=#[.int .i64 m.role,.int .i64 m.seen,.int .i64 m.grant,.slice A m.mounts.length cap,.string S]:=by unfold metaRow;rw [hS]
 rw [hrow];obtain ⟨role,seen,grant,mts,sec⟩:=m;simp only at *
 obtain ⟨n,hn⟩:=eqx mts.length;rw [hn] at hnil hpr ⊢;rw [← hSs] at hB;have HPR:=Lib.hid hpr;have HB:=Lib.hid hB;have HNIL:=Lib.hid hnil;clear hpr hB hnil hM hS hSs hrow hb hs hA hl hcap hn;go_enter Tryz.func41,Tryz.ntmps41
 go_upto_region 1 with fail
 generalize hw5:World.alloc _ _=w5;obtain ⟨q,hq⟩:=eqx w.heap.size;rw [hq];have hB5:Blk w5 q 50 #[.int .i64 role,.int .i64 seen,.int .i64 grant,.slice A n cap,.string S]:=by rw [← hw5,← hq];exact Blk.new w _ _
 have hU5:Upd (fun _=>False) w w5:=by rw [← hw5];exact (Upd.refl _ w).alloc _
 have HB5:=Lib.hid hB5;have HU5:=Lib.hid hU5;have c0:=hB5.cell 0;have c1:=hB5.cell 1;have c2:=hB5.cell 2;have c3:=hB5.cell 3;have c4:=hB5.cell 4;clear hw5 hq hB5 hU5;by_cases h0:(n:Int)=0
 ·have h0n:mts=[]:=HNIL.out.2 h0
  have hn0:n=0:=oM;subst hn0;by_cases a1:0≤role
  ·by_cases a2:role≤3
   ·by_cases a3:0≤seen
    ·by_cases a4:0≤grant
     ·by_cases a5:(S.size:Int)≤64
      ·have a5n:S.size≤64:=oM
       obtain rfl:true=B:=by
        rw [← HB.out];simp [a1,a2,a3,a4,a5n,h0n]
       go_wp2_with fail
       go_ret
       exact ⟨by first | rfl | simp [a5],HU5.out⟩
      ·have a5n:¬S.size≤64:=oM
       obtain rfl:false=B:=by
        rw [← HB.out];simp [a1,a2,a3,a4,a5n]
       go_wp2_with fail
       go_ret
       exact ⟨by first | rfl | simp [a5],HU5.out⟩
     ·obtain rfl:false=B:=by
       rw [← HB.out];simp [a1,a2,a3,a4]
      go_wp2_with fail
      go_ret
      exact ⟨by first | rfl | simp [a5],HU5.out⟩
    ·obtain rfl:false=B:=by
      rw [← HB.out];simp [a1,a2,a3]
     go_wp2_with fail
     go_ret
     exact ⟨by first | rfl | simp [a5],HU5.out⟩
   ·obtain rfl:false=B:=by
     rw [← HB.out];simp [a1,a2]
    go_wp2_with fail
    go_ret
    exact ⟨by first | rfl | simp [a5],HU5.out⟩
  ·obtain rfl:false=B:=by
    rw [← HB.out];simp [a1]
   go_wp2_with fail
   go_ret
   exact ⟨by first | rfl | simp [a5],HU5.out⟩
 ·have h0n:¬mts=[]:=fun e=>h0 (HNIL.out.1 e)
  have k0:((n:Int) == 0)=false:=by simpa using h0
  go_wp2_with fail
  refine (HPR.out _ HU5.out).mono ?_;rintro e w6 ⟨rfl,hU6⟩;have HU6:=Lib.hid (HU5.out.then hU6 wz0);have hB6:=HB5.out.upd hU6 (fun e=>e);have c0:=hB6.cell 0;have c1:=hB6.cell 1;have c2:=hB6.cell 2;have c3:=hB6.cell 3;have c4:=hB6.cell 4;clear hU6 hB6;by_cases a1:0≤role
  ·by_cases a2:role≤3
   ·by_cases a3:0≤seen
    ·by_cases a4:0≤grant
     ·cases M
      ·obtain rfl:false=B:=by
        rw [← HB.out];simp [a1,a2,a3,a4,h0n]
       go_wp2_with fail
       go_ret
       exact ⟨by first | rfl | simp [a5],HU6.out⟩
      ·by_cases a5:(S.size:Int)≤64
       ·have a5n:S.size≤64:=oM
        obtain rfl:true=B:=by
         rw [← HB.out];simp [a1,a2,a3,a4,h0n,a5n]
        go_wp2_with fail
        go_ret
        exact ⟨by first | rfl | simp [a5],HU6.out⟩
       ·have a5n:¬S.size≤64:=oM
        obtain rfl:false=B:=by
         rw [← HB.out];simp [a1,a2,a3,a4,h0n,a5n]
        go_wp2_with fail
        go_ret
        exact ⟨by first | rfl | simp [a5],HU6.out⟩
     ·obtain rfl:false=B:=by
       rw [← HB.out];simp [a1,a2,a3,a4]
      go_wp2_with fail
      go_ret
      exact ⟨by first | rfl | simp [a5],HU6.out⟩
    ·obtain rfl:false=B:=by
      rw [← HB.out];simp [a1,a2,a3]
     go_wp2_with fail
     go_ret
     exact ⟨by first | rfl | simp [a5],HU6.out⟩
   ·obtain rfl:false=B:=by
     rw [← HB.out];simp [a1,a2]
    go_wp2_with fail
    go_ret
    exact ⟨by first | rfl | simp [a5],HU6.out⟩
  ·obtain rfl:false=B:=by
    rw [← HB.out];simp [a1]
   go_wp2_with fail
   go_ret
   exact ⟨by first | rfl | simp [a5],HU6.out⟩
theorem vplace_c (slot i:Nat) (h1:1≤slot) (h2:slot≤1000) (h3:i≤1000) (w:World):Calls Tryz.prog 158 #[.int .i64 (slot:Int),.int .i64 (i:Int)] w fun e w'=>e=.returned (.int .i64 ((placeN slot+i:Nat):Int))∧w=w':=by
 have e0:((placeN slot+i:Nat):Int)=340+((slot:Int) - 1)*80+(i:Int):=by unfold placeN;omega
 rw [e0];have k1:(1:Int)≤(slot:Int):=oM;have k2:(slot:Int)≤1000:=oM;have k3:(i:Int)≤1000:=oM;clear e0;go_enter Tryz.func158,Tryz.ntmps158
 go_wp2_with fail
 go_ret
 exact ⟨rfl,rfl⟩
theorem num_step {F:Nat→Prop} {w0 W:World} {o:Nat} {acc:List UInt8} (n:Nat) (h1:n<18446744073709551616) (h2:acc.length≤10000) (h:OutQ F w0 W o acc):Calls Tryz.prog 98 #[.pointer (some ⟨o,0,none⟩),.int .u64 (n:Int)] W fun e w'=>e=.returned (.tuple #[])∧OutQ F w0 w' o (acc++putN n):=onum_q h n h1 oM
theorem pairB_take {l:List PairM} {k:Nat} (hk:k<l.length):(l.take (k+1)).flatMap pairB=(l.take k).flatMap pairB++pairB l[k]:=by
 rw [List.take_succ_eq_append_getElem hk,List.flatMap_append];simp
theorem zz17 {P:Prop} (h:P:=by
 clear h14 c0 c1;go_wp2_with fail
 go_roundw
 case rel=>exact ⟨k+1,oM,by go_num,by rw [HX.out.1];exact H14.out⟩
 case measure=>simp [intOf]<;>omega):P:=h
theorem ptext_c {w:World} {A:Option Addr} {cap b off:Nat} {l:List PairM} (hA:0<l.length→A=some ⟨b,off,none⟩) (hb:∀w',Upd (fun _=>False) w w'→PairsAt w' b off l) (hs:∀p ∈ l,p.1.length≤33∧p.2.length≤32) (hl:l.length≤48) :
 Calls Tryz.prog 102 #[.slice A l.length cap] w fun e w'=>e=.returned (.string (str (pairsB l)))∧Upd (fun _=>False) w w':=by
 have s1:=size_u64 (n:=l.length) oM;have htl:∀k,((l.take k).flatMap pairB).length≤3400:=fun k=>by
  have:=pairs_len (l:=l.take k) (a:=33) (b:=32) oM oM (fun p hp=>hs p (List.mem_of_mem_take hp));rw [List.length_take] at this;have h2:(33+32+4)*min k l.length≤69*48:=Nat.mul_le_mul_left _ oM;omega
 have hfin:pairsB l=putN l.length++(l.take l.length).flatMap pairB:=by rw [List.take_length];rfl
 have HF:=Lib.hid hfin;have HB:=Lib.hid hb;have HS:=h2k hs htl;have HN1:=Lib.hid s1;have l1:(l.length:Int)≤48:=oM;clear hb hs hfin s1 htl;obtain ⟨o,ho⟩:=eqx w.heap.size;go_enter Tryz.func102,Tryz.ntmps102
 go_upto_region 2 with (fail)
 generalize hw7:World.alloc _ _=w7;have hO7:OutQ (fun _=>False) w w7 o []:=by rw [← hw7,← ho];exact OutQ.start w
 have HO7:=Lib.hid hO7;clear hO7 hw7 ho;go_wp2_with fail
 refine (num_step l.length oM sM HO7.out).mono ?_;rintro e w8 ⟨rfl,h8⟩;rw [List.nil_append] at h8;have H8:=Lib.hid h8;clear h8;go_wp2_with fail
 go_loopw [5,15] (fun _ u wr=>∃k:Nat,k≤l.length∧u=.int .i64 (k:Int)∧OutQ (fun _=>False) w wr o (putN l.length++(l.take k).flatMap pairB)) (fun _ u _=>l.length - (intOf u).toNat)
 case atStart=>exact ⟨0,oM,rfl,by simpa using H8.out⟩
 case round =>
  obtain ⟨k,hk,rfl,hO⟩:=hrel;have hMl:(putN l.length++(l.take k).flatMap pairB).length≤3500:=by
   rw [List.length_append,putN_len];have:=HS.out.2 k;have:=HN1.out;omega
  obtain ⟨M,hM⟩:=eqx (putN l.length++(l.take k).flatMap pairB);rw [hM] at hO hMl;by_cases hlt:k<l.length
  ·obtain rfl:=hA oM
   have hrow:=HB.out wr hO.upd k hlt;have hsm:=HS.out.1 _ (List.getElem_mem hlt);have hnx:putN l.length++(l.take (k+1)).flatMap pairB=M++pairB l[k]:=by rw [pairB_take hlt,← List.append_assoc,hM]
   obtain ⟨p,hp⟩:=eqx (l[k]);rw [hp] at hrow hsm hnx;obtain ⟨P,hP⟩:=eqx (str p.1);obtain ⟨V,hV⟩:∃P,str p.2=P:=⟨_,rfl⟩;have hPl:P.data.toList=p.1:=by rw [← hP,str_list]
   have hVl:V.data.toList=p.2:=by rw [← hV,str_list]
   have hPs:P.size=p.1.length:=by rw [← hP,str_size]
   have hVs:V.size=p.2.length:=by rw [← hV,str_size]
   have hrw:pairRow p=[.string P,.string V]:=by unfold pairRow;rw [hP,hV]
   rw [hrw] at hrow;have hpb:pairB p=textN P.data.toList++textN V.data.toList:=by unfold pairB;rw [hPl,hVl]
   rw [hpb,← List.append_assoc] at hnx;have tP:(textN P.data.toList).length≤40:=by
    rw [textN_len,hPl];have:=sizeN_small (n:=p.1.length) oM;omega
   have HX:=h6k hnx hMl hPs hVs hsm tP;have HR:=Lib.hid hrow;have HO2:=Lib.hid hO;have j1:(k:Int)<(l.length:Int):=oM;obtain ⟨g,hg⟩:∃q,wr.heap.size=q:=⟨_,rfl⟩;have HQ:=Lib.hid hg;clear hrow hsm hnx hp hP hV hPl hVl hPs hVs hrw hpb hO hM hMl tP;go_upto_region 6 with (first
    | (refine wpList_load_mid rfl _ _ rfl b (off+k*2) rfl [.string P,.string V] _ HR.out Tryz.underlying55 rfl kR ?_))
   generalize hw11:World.alloc _ _=w11;have hB11:Blk w11 g 55 #[.string P,.string V]:=by rw [← hw11,← HQ.out];exact Blk.new wr _ _
   have h11:OutQ (fun _=>False) w w11 o M:=by rw [← hw11];exact HO2.out.still ((Upd.refl _ wr).alloc _)
   obtain ⟨c0,c1⟩:=hB11.cells2;have H11:=h2k h11 hB11;clear h11 hB11 hw11 hg;obtain ⟨G,g1,g2,g3⟩:=H11.out.1.here;have HG:=h3k g1 g2 (g3 g _ _ H11.out.2 dC dC);clear g1 g2 g3;go_wp2_with fail
   refine (otext_q HG.out.1 P (oO HX.out.2.2.1 HX.out.2.2.2.2.1) (oN HX.out.2.1)).mono ?_;rintro e w13 ⟨rfl,h13⟩;obtain ⟨c0,c1⟩:=(H11.out.2.upd h13.upd HG.out.2.2).cells2;have H13:=Lib.hid h13;clear h13;go_wp2_with fail
   refine (otext_q H13.out V (oO HX.out.2.2.2.1 HX.out.2.2.2.2.1) (by rw [List.length_append];have:=HX.out.2.1;have:=HX.out.2.2.2.2.2;omega)).mono ?_;rintro e w14 ⟨rfl,h14⟩;have H14:=Lib.hid (H11.out.1.back HG.out.2.1 h14);exact zz17
  ·obtain rfl:k=l.length:=oM
   rw [← HF.out] at hM;subst hM;have hst:=ostring_q hO;have HST:=Lib.hid hst;have HU:=Lib.hid hO.upd;clear hst hO hlt hk hMl;go_wp2_with fail
   refine HST.out.mono ?_;rintro e wz ⟨rfl,rfl⟩;go_wp2_with fail
   go_ret
   exact ⟨rfl,HU.out⟩
def stRow (s:StM) (mv:Value):Array Value:=#[.int .i64 s.m.role,.int .i64 s.m.seen,.int .i64 s.m.grant,mv,.string (str s.m.secret),.int .i64 s.at_,.int .i64 s.epoch,.int .i64 (s.slot:Int),.int .u64 (s.log:Int),.int .i64 (s.key:Int),.int .u32 (s.boot:Int)]
structure StOk (s:StM):Prop where
 right:rightM s.m=true
 place:PlaceIs s.at_ s.epoch
 slot:s.slot≤2
 log:s.log≤1000000
 key:s.key≤1000000
 boot:s.boot≤1000000
 mn:s.m.seen≤9223372036854775807∧s.m.grant≤9223372036854775807
structure MetaOk (m:MetaM):Prop where
 role0:0≤m.role
 role3:m.role≤3
 seen:0≤m.seen
 grant:0≤m.grant
 mts:m.mounts.length≤4
 each:∀x ∈ m.mounts,1≤x.name.length∧x.name.length≤8
 sec:m.secret.length≤64
theorem mtsR_each {l a:List MtM} (h:mtsR a l=true):∀m ∈ l,okName m.name=true:=by
 induction l generalizing a with
 | nil=>simp
 | cons x r ih =>
   unfold mtsR at h;simp only [Bool.and_eq_true] at h;intro m hm;rcases List.mem_cons.1 hm with rfl | hm
   ·exact h.1.1
   ·exact ih h.2 m hm
theorem rightM_ok {m:MetaM} (h:rightM m=true):MetaOk m:=by
 unfold rightM at h;simp only [Bool.and_eq_true,Bool.or_eq_true,decide_eq_true_eq] at h;obtain ⟨hm,h5,h6,h7,h8,h9⟩:=h;refine ⟨h5,h6,h7,h8,?_,?_,h9⟩
 ·rcases hm with e | e
  ·rw [e];simp
  ·unfold okMounts at e
   simp only [Bool.and_eq_true,decide_eq_true_eq] at e;exact e.2.2
 ·rcases hm with e | e
  ·rw [e];simp
  ·unfold okMounts at e
   simp only [Bool.and_eq_true,decide_eq_true_eq] at e;intro x hx;have:=mtsR_each e.1 x hx;unfold okName at this;simp only [Bool.and_eq_true,decide_eq_true_eq] at this;exact this.1
theorem mtB_take {l:List MtM} {k:Nat} (hk:k<l.length):(l.take (k+1)).flatMap mtB=(l.take k).flatMap mtB++mtB l[k]:=by
 rw [List.take_succ_eq_append_getElem hk,List.flatMap_append];simp
theorem mtB_len {x:MtM} (h:x.name.length≤8):(mtB x).length≤11:=by
 have:=sizeN_small (n:=x.name.length) oM;unfold mtB;rw [List.length_append,textN_len];simp only [List.length_cons,List.length_nil];omega
theorem mtsB_len {l:List MtM} (h:∀x ∈ l,x.name.length≤8):(l.flatMap mtB).length≤11*l.length:=by
 induction l with
 | nil=>simp
 | cons x r ih =>
   have h1:=ih fun m hm=>h m (by simp [hm])
   have h2:=mtB_len (h x sM);rw [List.flatMap_cons,List.length_append,List.length_cons];omega
def stNums (s:StM):List Nat:=[s.m.role.toNat,s.m.seen.toNat,s.m.grant.toNat,s.at_.toNat,s.epoch.toNat,s.slot,s.key]
theorem stB_split (s:StM) (t:List UInt8):stB s t=putN 1++(stNums s).flatMap putN++putN s.log++putN s.boot++putN s.m.mounts.length++s.m.mounts.flatMap mtB++textN t:=by
 unfold stB stNums;simp [List.append_assoc]
theorem built7 (a b c d e f g:Int):Tryz.prog.built 295 [(0,.int .i64 a),(1,.int .i64 b),(2,.int .i64 c),(3,.int .i64 d),(4,.int .i64 e),(5,.int .i64 f),(6,.int .i64 g)]=some #[.int .i64 a,.int .i64 b,.int .i64 c,.int .i64 d,.int .i64 e,.int .i64 f,.int .i64 g]:=kR
theorem stext_c {w:World} {A:Option Addr} {cap b off:Nat} (s:StM) (hs:StOk s) (hA:0<s.m.mounts.length→A=some ⟨b,off,none⟩) (hb:∀w',Upd (fun _=>False) w w'→MtsAt w' b off s.m.mounts) (t:ByteArray) (ht:t.size≤200) :
 Calls Tryz.prog 128 #[.agg (stRow s (.slice A s.m.mounts.length cap)),.string t] w fun e w'=>e=.returned (.string (str (stB s t.data.toList)))∧Upd (fun _=>False) w w':=by
 have hm:=rightM_ok hs.right;have hp:=hs.place;obtain ⟨n0,hn0⟩:∃n:Nat,s.m.role=n:=⟨s.m.role.toNat,by have:=hm.role0;omega⟩;obtain ⟨n1,hn1⟩:∃n:Nat,s.m.seen=n:=⟨s.m.seen.toNat,by have:=hm.seen;omega⟩;obtain ⟨n2,hn2⟩:∃n:Nat,s.m.grant=n:=⟨s.m.grant.toNat,by have:=hm.grant;omega⟩;obtain ⟨n3,hn3⟩:∃n:Nat,s.at_=n:=⟨s.at_.toNat,by have:=hp.at0;omega⟩;obtain ⟨n4,hn4⟩:∃n:Nat,s.epoch=n:=⟨s.epoch.toNat,by have:=hp.ep0;omega⟩;have b0:n0≤3:=by have:=hm.role3;omega
 have b1:n1≤9223372036854775807:=by have:=hs.mn.1;omega
 have b2:n2≤9223372036854775807:=by have:=hs.mn.2;omega
 have b3:n3≤9223372036854775807:=by have:=hp.at1;omega
 have b4:n4≤9223372036854775807:=by have:=hp.ep1;omega
 have b5:=hs.slot;have b6:=hs.key;have b7:=hs.log;have b8:=hs.boot;have hsplit:=stB_split s t.data.toList;have hnums:stNums s=[n0,n1,n2,n3,n4,s.slot,s.key]:=by unfold stNums;rw [hn0,hn1,hn2,hn3,hn4];rfl
 rw [hnums] at hsplit;obtain ⟨T,hT⟩:=eqx (stB s t.data.toList);rw [hT] at hsplit ⊢;obtain ⟨SE,hSE⟩:∃S,str s.m.secret=S:=⟨_,rfl⟩;have hrow:stRow s (.slice A s.m.mounts.length cap)=#[.int .i64 (n0:Int),.int .i64 (n1:Int),.int .i64 (n2:Int),.slice A s.m.mounts.length cap,.string SE,.int .i64 (n3:Int),.int .i64 (n4:Int),.int .i64 (s.slot:Int),.int .u64 (s.log:Int),.int .i64 (s.key:Int),.int .u32 (s.boot:Int)]:=by unfold stRow;rw [hn0,hn1,hn2,hn3,hn4,hSE]
 rw [hrow];have hmt:=hm.mts;have hme:=hm.each;obtain ⟨n5,hn5⟩:∃n,s.slot=n:=⟨_,rfl⟩;obtain ⟨n6,hn6⟩:∃n,s.key=n:=⟨_,rfl⟩;obtain ⟨n7,hn7⟩:∃n,s.log=n:=⟨_,rfl⟩;obtain ⟨n8,hn8⟩:∃n,s.boot=n:=⟨_,rfl⟩;obtain ⟨L,hL⟩:=eqx s.m.mounts;rw [hn5] at b5 hsplit;rw [hn6] at b6 hsplit;rw [hn7] at b7 hsplit;rw [hn8] at b8 hsplit;rw [hL] at hmt hme hA hb hsplit;rw [hn5,hn6,hn7,hn8,hL];have HS:=Lib.hid hsplit;have HB:=Lib.hid hb;have HM:=Lib.hid hme;have HT:=Lib.hid ht;clear hm hp hs hn0 hn1 hn2 hn3 hn4 hnums hT hSE hrow hn5 hn6 hn7 hn8 hL hsplit hb hme ht;obtain ⟨q,hq⟩:=eqx w.heap.size;go_enter Tryz.func128,Tryz.ntmps128
 go_upto_region 1 with fail
 generalize hw5:World.alloc _ _=w5;have hB5:Blk w5 q 115 #[.int .i64 (n0:Int),.int .i64 (n1:Int),.int .i64 (n2:Int),.slice A L.length cap,.string SE,.int .i64 (n3:Int),.int .i64 (n4:Int),.int .i64 (n5:Int),.int .u64 (n7:Int),.int .i64 (n6:Int),.int .u32 (n8:Int)]:=by rw [← hw5,← hq];exact Blk.new w _ _
 have hU5:Upd (fun _=>False) w w5:=by rw [← hw5];exact (Upd.refl _ w).alloc _
 have H5:=h2k hB5 hU5;clear hB5 hU5 hw5 hq;obtain ⟨o,ho⟩:=eqx w5.heap.size;go_upto_region 2 with fail
 generalize hw7:World.alloc _ _=w7;have hO7:OutQ (fun _=>False) w5 w7 o []:=by rw [← hw7,← ho];exact OutQ.start w5
 have HO7:=Lib.hid hO7;clear hO7 hw7 ho;have HC:∀W,Upd (fun _=>False) w5 W→W.cell? ⟨q,0,none⟩=some (.int .i64 (n0:Int))∧W.cell? ⟨q,1,none⟩=some (.int .i64 (n1:Int))∧W.cell? ⟨q,2,none⟩=some (.int .i64 (n2:Int))∧W.cell? ⟨q,3,none⟩=some (.slice A L.length cap)∧W.cell? ⟨q,5,none⟩=some (.int .i64 (n3:Int))∧W.cell? ⟨q,6,none⟩=some (.int .i64 (n4:Int))∧W.cell? ⟨q,7,none⟩=some (.int .i64 (n5:Int))∧W.cell? ⟨q,8,none⟩=some (.int .u64 (n7:Int))∧W.cell? ⟨q,9,none⟩=some (.int .i64 (n6:Int))∧W.cell? ⟨q,10,none⟩=some (.int .u32 (n8:Int)):=fun W hW=>by
  have h:=H5.out.1.upd hW (fun e=>e);exact ⟨h.cell 0,h.cell 1,h.cell 2,h.cell 3,h.cell 5,h.cell 6,h.cell 7,h.cell 8,h.cell 9,h.cell 10⟩
 have HC:=Lib.hid HC;go_wp2_with fail
 refine (num_step 1 oM sM HO7.out).mono ?_;rintro e w8 ⟨rfl,h8⟩;rw [List.nil_append] at h8;obtain ⟨c0,c1,c2,c3,c5,c6,c7,c8,c9,c10⟩:=HC.out _ h8.upd;have H8:=Lib.hid h8;clear h8;go_wp2_with (first
  | (refine wpList_build_is rfl _ _ rfl [(0,.int .i64 (n0:Int)),(1,.int .i64 (n1:Int)),(2,.int .i64 (n2:Int)),(3,.int .i64 (n3:Int)),(4,.int .i64 (n4:Int)),(5,.int .i64 (n5:Int)),(6,.int .i64 (n6:Int))] _ (by first | rfl | kernel_rfl) (built7 _ _ _ _ _ _ _) ?_))
 obtain ⟨acc0,hacc0⟩:∃a,putN 1=a:=⟨_,rfl⟩;have hl0:acc0.length≤10:=by rw [← hacc0,putN_len];exact size_u64 (n:=1) oM
 rw [hacc0] at H8;have HA0:=h2k hacc0 hl0;clear hacc0 hl0;go_loopw [7,33] (fun _ u wr=>∃k:Nat,k≤7∧u=.int .i64 (k:Int)∧(acc0++([n0,n1,n2,n3,n4,n5,n6].take k).flatMap putN).length≤10+10*k∧OutQ (fun _=>False) w5 wr o (acc0++([n0,n1,n2,n3,n4,n5,n6].take k).flatMap putN)) (fun _ u _=>7 - (intOf u).toNat)
 case atStart=>exact ⟨0,oM,rfl,by simpa using HA0.out.2,by simpa using H8.out⟩
 case round =>
  obtain ⟨k,hk,rfl,hal,hO⟩:=hrel;have hk7:k<7∨k=7:=oM;rcases hk7 with h7 | rfl
  ·obtain ⟨nk,hnx,hnk,hix⟩:∃nk,acc0++([n0,n1,n2,n3,n4,n5,n6].take (k+1)).flatMap putN=(acc0++([n0,n1,n2,n3,n4,n5,n6].take k).flatMap putN)++putN nk∧nk≤9223372036854775807∧∀W,(Instr.index 295 (.agg #[.int .i64 (n0:Int),.int .i64 (n1:Int),.int .i64 (n2:Int),.int .i64 (n3:Int),.int .i64 (n4:Int),.int .i64 (n5:Int),.int .i64 (n6:Int)]) (.int .i64 (k:Int))).run Tryz.prog W=.ok (.int .i64 (nk:Int)) W:=by
    refine ⟨[n0,n1,n2,n3,n4,n5,n6].getD k 0,?_⟩;rcases (show k=0∨k=1∨k=2∨k=3∨k=4∨k=5∨k=6 by omega) with rfl | rfl | rfl | rfl | rfl | rfl | rfl
    all_goals exact ⟨by simp [List.append_assoc],by simp<;>omega,fun W=>by first | rfl | kernel_rfl⟩
   obtain ⟨acc,hacc⟩:∃a,acc0++([n0,n1,n2,n3,n4,n5,n6].take k).flatMap putN=a:=⟨_,rfl⟩;rw [hacc] at hal hO hnx;have hz:=size_u64 (n:=nk) oM;have HN:=h3k hnx hal hz;have HO:=Lib.hid hO;have j1:(k:Int)<7:=oM;clear hnx hacc hal hO hz hk;go_wp2_with fail
   refine (num_step nk oM (oN HN.out.2.1) HO.out).mono ?_;rintro e w9 ⟨rfl,h9⟩;rw [← HN.out.1] at h9;have H9:=Lib.hid h9;clear h9;go_wp2_with fail
   go_roundw
   case rel =>
    refine ⟨k+1,oM,by go_num,?_,H9.out⟩;rw [HN.out.1,List.length_append,putN_len];have:=HN.out.2;omega
   case measure=>simp [intOf]<;>omega
  ·have hfull:([n0,n1,n2,n3,n4,n5,n6]:List Nat).take 7=[n0,n1,n2,n3,n4,n5,n6]:=rfl
   rw [hfull] at hal hO;obtain ⟨acc,hacc⟩:∃a,acc0++([n0,n1,n2,n3,n4,n5,n6]:List Nat).flatMap putN=a:=⟨_,rfl⟩;rw [hacc] at hal hO;have hT2:=HS.out;rw [HA0.out.1,hacc] at hT2;have HAC:=h2k hT2 hal;obtain ⟨c0,c1,c2,c3,c5,c6,c7,c8,c9,c10⟩:=HC.out _ hO.upd;have HO:=Lib.hid hO;clear hT2 hal hO hacc hfull hk;go_wp2_with fail
   refine (num_step n7 oM (oN HAC.out.2) HO.out).mono ?_;rintro e w9 ⟨rfl,h9⟩;obtain ⟨c0,c1,c2,c3,c5,c6,c7,c8,c9,c10⟩:=HC.out _ h9.upd;have H9:=Lib.hid h9;clear h9;go_wp2_with fail
   refine (num_step n8 oM (by have:=HAC.out.2;rw [List.length_append,putN_len];have:=size_u64 (n:=n7) oM;omega) H9.out).mono ?_;rintro e w10 ⟨rfl,h10⟩;obtain ⟨c0,c1,c2,c3,c5,c6,c7,c8,c9,c10⟩:=HC.out _ h10.upd;have H10:=Lib.hid h10;clear h10;go_wp2_with fail
   refine (num_step L.length oM (by have:=HAC.out.2;rw [List.length_append,List.length_append,putN_len,putN_len];have:=size_u64 (n:=n7) oM;have:=size_u64 (n:=n8) oM;omega) H10.out).mono ?_;rintro e w11 ⟨rfl,h11⟩;obtain ⟨c0,c1,c2,c3,c5,c6,c7,c8,c9,c10⟩:=HC.out _ h11.upd;obtain ⟨N,hN⟩:∃a,acc++putN n7++putN n8++putN L.length=a:=⟨_,rfl⟩;rw [hN] at h11;have hNl:N.length≤200:=by
    rw [← hN];simp only [List.length_append,putN_len];have:=HAC.out.2;have:=size_u64 (n:=n7) oM;have:=size_u64 (n:=n8) oM;have:=size_u64 (n:=L.length) oM;omega
   have hT3:=HAC.out.1;rw [hN] at hT3;have H11:=Lib.hid h11;have HN:=h2k hT3 hNl;clear h11 hN hNl hT3;go_wp2_with fail
   have l4:(L.length:Int)≤4:=oM;have hml:∀k,((L.take k).flatMap mtB).length≤44:=fun k=>by
    have:=mtsB_len (l:=L.take k) (fun x hx=>(HM.out x (List.mem_of_mem_take hx)).2);rw [List.length_take] at this;have h2:11*min k L.length≤11*4:=Nat.mul_le_mul_left _ oM;omega
   have HML:=Lib.hid hml;clear hml c0 c1 c2 c3 c5 c6 c7 c8 c9 c10;go_loopw [9,10,61] (fun _ _ u wr=>∃k:Nat,k≤L.length∧u=.int .i64 (k:Int)∧OutQ (fun _=>False) w5 wr o (N++(L.take k).flatMap mtB)) (fun _ _ u _=>L.length - (intOf u).toNat)
   case atStart=>exact ⟨0,oM,rfl,by simpa using H11.out⟩
   case round =>
    obtain ⟨k,hk,rfl,hO⟩:=hrel;have hMl:(N++(L.take k).flatMap mtB).length≤300:=by
     rw [List.length_append];have:=HML.out k;have:=HN.out.2;omega
    obtain ⟨M,hM⟩:=eqx (N++(L.take k).flatMap mtB);rw [hM] at hO hMl;by_cases hlt:k<L.length
    ·obtain rfl:=hA oM
     have hrow:=HB.out wr (H5.out.2.then hO.upd wz0) k hlt;have hsm:=HM.out _ (List.getElem_mem hlt);have hnx:N++(L.take (k+1)).flatMap mtB=M++mtB L[k]:=by rw [mtB_take hlt,← List.append_assoc,hM]
     obtain ⟨p,hp⟩:=eqx (L[k]);rw [hp] at hrow hsm hnx;obtain ⟨nm,sh⟩:=p;obtain ⟨P,hP⟩:=eqx (str nm);have hPl:P.data.toList=nm:=by rw [← hP,str_list]
     have hPs:P.size≤8:=by rw [← hP,str_size];exact hsm.2
     have hrw:mtRow ⟨nm,sh⟩=[.string P,.bool sh]:=by unfold mtRow;rw [hP]
     rw [hrw] at hrow;have hpb:mtB ⟨nm,sh⟩=textN P.data.toList++[if sh then 1 else 0]:=by unfold mtB;rw [hPl]
     rw [hpb,← List.append_assoc] at hnx;have tP:(textN P.data.toList).length≤11:=by
      rw [textN_len,hPl];have:=sizeN_small (n:=nm.length) (by have:=hsm.2;simp only at this;omega);have:=hsm.2;simp only at this
      omega
     have HX:=h4k hnx hMl hPs tP;have HR:=Lib.hid hrow;have HO2:=Lib.hid hO;have j1:(k:Int)<(L.length:Int):=oM;obtain ⟨g,hg⟩:∃q,wr.heap.size=q:=⟨_,rfl⟩;have HQ:=Lib.hid hg;clear hrow hsm hnx hp hP hPl hPs hrw hpb hO hM hMl tP;go_upto_region 14 with (first
      | (refine wpList_load_mid rfl _ _ rfl b (off+k*2) rfl [.string P,.bool sh] _ HR.out Tryz.underlying46 rfl kR ?_))
     generalize hw11:World.alloc _ _=w12;have hB11:Blk w12 g 46 #[.string P,.bool sh]:=by rw [← hw11,← HQ.out];exact Blk.new wr _ _
     have h12:OutQ (fun _=>False) w5 w12 o M:=by rw [← hw11];exact HO2.out.still ((Upd.refl _ wr).alloc _)
     obtain ⟨c0,c1⟩:=hB11.cells2;have H12:=h2k h12 hB11;clear h12 hB11 hw11 hg;obtain ⟨G,g1,g2,g3⟩:=H12.out.1.here;have HG:=h3k g1 g2 (g3 g _ _ H12.out.2 dC dC);clear g1 g2 g3;go_wp2_with fail
     refine (otext_q HG.out.1 P (oN HX.out.2.2.1) (oN HX.out.2.1)).mono ?_;rintro e w13 ⟨rfl,h13⟩;obtain ⟨c0,c1⟩:=(H12.out.2.upd h13.upd HG.out.2.2).cells2;have H13:=Lib.hid h13;have hbl:(M++textN P.data.toList).length≤800000:=by rw [List.length_append];have:=HX.out.2.1;have:=HX.out.2.2.2;omega
     have HBL:=Lib.hid hbl;clear h13 hbl;cases sh
     ·go_wp2_with fail
      refine (obyte_q H13.out 0 HBL.out).mono ?_;rintro e w14 ⟨rfl,h14⟩;have H14:=Lib.hid (H12.out.1.back HG.out.2.1 h14);exact zz17
     ·go_wp2_with fail
      refine (obyte_q H13.out 1 HBL.out).mono ?_;rintro e w14 ⟨rfl,h14⟩;have H14:=Lib.hid (H12.out.1.back HG.out.2.1 h14);exact zz17
    ·obtain rfl:k=L.length:=oM
     rw [List.take_length] at hM;have hT4:=HN.out.1;rw [hM] at hT4;have HX:=h2k hT4 hMl;have HO:=Lib.hid hO;clear hO hM hMl hT4 hlt hk;go_wp2_with fail
     refine (otext_q HO.out t (oN HT.out) (oN HX.out.2)).mono ?_;rintro e w13 ⟨rfl,h13⟩;rw [← HX.out.1] at h13;have hst:=ostring_q h13;have HST:=Lib.hid hst;have HU:=Lib.hid (H5.out.2.then h13.upd wz0);clear h13 hst;go_wp2_with fail
     refine HST.out.mono ?_;rintro e wz ⟨rfl,rfl⟩;go_wp2_with fail
     go_ret
     exact ⟨rfl,HU.out⟩
end
end Go.Proofs.YtbhjgfibhegddaaGreat
