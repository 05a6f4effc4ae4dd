/-
  Parts of the proof of VaultSpoils: Sha, TakeT, ZipA, ShaB.
-/
import Derived.Test.YtbhjgfibhegddaaGreatQVaultSpoils03
import Derived.BigQuiet
import Derived.Deep.RegionHeld3
import Derived.IntWalk
import Derived.KernelRfl
import Derived.Laws.Bits64b
import Derived.Laws.Closers25b
import Derived.Laws.Tables
import Derived.StillTailTactics
set_option maxRecDepth 100000
set_option maxHeartbeats 16000000
namespace Go.Proofs.YtbhjgfibhegddaaGreat
section
open Go Go.RowKit
theorem arrU_one (l:List Int):(arrU l).all (·.oneCell')=true:=by simp [arrU,Value.oneCell']
theorem Blk.cellU {w:World} {g:Nat} {t:TypeId} {l:List Int} (h:Blk w g t (arrU l)) (i:Nat) (hi:i<l.length):w.cell? ⟨g,i,none⟩=some (.int .u32 (l.getD i 0)):=(h.cell i).trans (arrU_get l i hi)
def BytesAt (w:World) (v:Value) (l:List UInt8):Prop :=
 ∃A cap,v=.slice A l.length cap∧l.length≤cap∧cap≤maxLen∧(0<l.length→∃b off,A=some ⟨b,off,none⟩∧b<w.heap.size∧∀i,i<l.length→w.cell? ⟨b,off+i,none⟩=some (.int .u8 ((l.getD i 0).toNat:Int)))
theorem rot32_c (x k:Int) (r:Nat) (w:World) (h:U32 x) (hr:r<32) (hk:bits .and .u64 (IntKind.u64.wrap k) 31=(r:Int)) :
 Calls Tryz.prog 304 #[.int .u32 x,.int .i64 k] w fun e w'=>e=.returned (.int .u32 (rotl x r))∧w=w':=by
 obtain ⟨h0,h1⟩:=h;have hk2:IntKind.u64.wrap (32 - (r:Int))=((32 - r:Nat):Int):=by
  simp only [IntKind.wrap,IntKind.bits,IntKind.signed];simp
  omega
 go_enter Tryz.func304,Tryz.ntmps304
 go_wp2_with fail
 go_ret
 exact ⟨rfl,rfl⟩
theorem rotA_c (x k:Int) (w:World) (h:U32 x):Calls Tryz.prog 304 #[.int .u32 x,.int .i64 k] w fun e w'=>e=.returned (.int .u32 (rotl x (amt k)))∧w'=w:=by
 have h1:IntKind.u64.wrap k=((IntKind.u64.wrap k).toNat:Int):=by
  rw [IntKind.wrap_u64];omega
 have h2:(IntKind.u64.wrap k).toNat<18446744073709551616:=by
  rw [IntKind.wrap_u64];omega
 refine (rot32_c x k (amt k) w h (by unfold amt;omega) ?_).mono fun _ _ ⟨a,b⟩=>⟨a,b.symm⟩
 unfold amt;rw [h1];generalize (IntKind.u64.wrap k).toNat=m at *;have:=bits_and_u64_nat m 31 h2 oM;rw [show (31:Int)=((31:Nat):Int) from rfl,this,Int.toNat_natCast,show (31:Nat)=2 ^ 5 - 1 from rfl,Nat.and_two_pow_sub_one_eq_mod]
theorem wpList_build_is {P:Program} {ops:Array Oper} {rest:List Oper} {o:Oper} {a:Act} {w:World} {Q:Exit→Act→World→Prop} (hg:o.guard=none) (t:TypeId) (parts:Array (Nat × Operand)) (ho:o.op=.build t parts)
 (vs:List (Nat × Value)) (cells:Array Value) (hv:(parts.map fun (i,x)=>(i,a.eval x)).toList=vs) (hb:P.built t vs=some cells)
 (h:wpList P ops Q rest (a.put o.dst (.agg cells)) w):wpList P ops Q (o::rest) a w:=by
 refine wpList_build hg t parts ho (by rw [hv,hb];rfl) ?_
 rw [hv,hb];exact h
theorem built8 (x0 x1 x2 x3 x4 x5 x6 x7:Int):Tryz.prog.built 377 [(0,.int .u32 x0),(1,.int .u32 x1),(2,.int .u32 x2),(3,.int .u32 x3),(4,.int .u32 x4),(5,.int .u32 x5),(6,.int .u32 x6),(7,.int .u32 x7)]=some (arrU [x0,x1,x2,x3,x4,x5,x6,x7]):=kR
structure TurnW (w wr:World) (n:Nat) (h b r wl:List Int):Prop where
 bh:Blk wr n 377 (arrU h)
 bb:Blk wr (n+1) 377 (arrU b)
 br:Blk wr (n+1+1) 377 (arrU r)
 bw:Blk wr (n+1+1+1) 379 (arrU wl)
 upd:Upd (fun _=>False) w wr
 new:w.heap.size≤n
theorem TurnW.setw {w wr:World} {n:Nat} {h b r wl:List Int} (t:TurnW w wr n h b r wl) (i:Nat) (z:Int):TurnW w (wr.setCell ⟨n+1+1+1,i,none⟩ (.int .u32 z)) n h b r (wl.set i z) :=
 ⟨t.bh.far (by simp;omega) _,t.bb.far sM _,t.br.far sM _,by rw [← arrU_set];exact t.bw.set_ i _,t.upd.setCell (.inr (by have:=t.new;simp;omega)) _,t.new⟩
theorem TurnW.seth {w wr:World} {n:Nat} {h b r wl:List Int} (t:TurnW w wr n h b r wl) (i:Nat) (z:Int):TurnW w (wr.setCell ⟨n,i,none⟩ (.int .u32 z)) n (h.set i z) b r wl :=
 ⟨by rw [← arrU_set];exact t.bh.set_ i _,t.bb.far sM _,t.br.far (by simp;omega) _,t.bw.far (by simp;omega) _,t.upd.setCell (.inr t.new) _,t.new⟩
theorem TurnW.setb {w wr w2:World} {n:Nat} {h b r wl b2:List Int} (t:TurnW w wr n h b r wl) (hb:Blk w2 (n+1) 377 (arrU b2)) (hu:Upd (· = n+1) wr w2):TurnW w w2 n h b2 r wl :=
 ⟨t.bh.upd hu oM,hb,t.br.upd hu oM,t.bw.upd hu oM,t.upd.then hu (fun q hq=>.inr (oN t.new)),t.new⟩
theorem TurnW.b8 {w wr:World} {n:Nat} {h r wl:List Int} {b0 b1 b2 b3 b4 b5 b6 b7:Int} (t:TurnW w wr n h [b0,b1,b2,b3,b4,b5,b6,b7] r wl) :
 wr.cell? ⟨n+1,0,none⟩=some (.int .u32 b0)∧wr.cell? ⟨n+1,1,none⟩=some (.int .u32 b1)∧wr.cell? ⟨n+1,2,none⟩=some (.int .u32 b2)∧wr.cell? ⟨n+1,3,none⟩=some (.int .u32 b3) ∧
 wr.cell? ⟨n+1,4,none⟩=some (.int .u32 b4)∧wr.cell? ⟨n+1,5,none⟩=some (.int .u32 b5)∧wr.cell? ⟨n+1,6,none⟩=some (.int .u32 b6)∧wr.cell? ⟨n+1,7,none⟩=some (.int .u32 b7) :=
 ⟨t.bb.cell 0,t.bb.cell 1,t.bb.cell 2,t.bb.cell 3,t.bb.cell 4,t.bb.cell 5,t.bb.cell 6,t.bb.cell 7⟩
theorem TurnW.drew {w wr:World} {n:Nat} {h b r wl:List Int} (t:TurnW w wr n h b r wl):TurnW w wr.drew n h b r wl:=⟨t.bh,t.bb,t.br,t.bw,t.upd.drew,t.new⟩
theorem TurnW.drewN {w wr:World} {n:Nat} {h b r wl:List Int} (t:TurnW w wr n h b r wl) (k:Nat):TurnW w (wr.drewN k) n h b r wl:=⟨t.bh,t.bb,t.br,t.bw,t.upd.drewN k,t.new⟩
theorem cell_upd {w w':World} {F:Nat→Prop} (hu:Upd F w w') {b:Nat} (hb:b<w.heap.size) (hn:¬F b) (o:Nat):w'.cell? ⟨b,o,none⟩=w.cell? ⟨b,o,none⟩:=World.cell?_of_block (w:=w) (a:=⟨b,o,none⟩) (hu.block b hb hn)
theorem conv_at (w:World) (b off n cap:Nat) (l:List UInt8) (hl:l.length=n) (hc:∀i,i<n→w.cell? ⟨b,off+i,none⟩=some (.int .u8 ((l.getD i 0).toNat:Int))) :
 (convert 89 9 (.slice (some ⟨b,off,none⟩) n cap)).run Tryz.prog w=.ok (.string (str l)) w:=by
 rw [← strOfNums_bytes];refine run_convert_bytes_arg w _ _ Tryz.underlying89 Tryz.underlying5 b off n cap _ (by simpa using hl) (fun i hi=>?_) _ Tryz.underlying9;rw [hc i hi];simp [show i<l.length by omega]
theorem turn_c (hv bv K:List Int) (l:List UInt8) (kb ko b off cap:Nat) (w:World) (h8:hv.length=8) (b8:bv.length=8) (k64:K.length=64) (hH:AllU hv) (hB:AllU bv) (hK:AllU K)
 (hk:∀i,i<64→w.cell? ⟨kb,ko+i,none⟩=some (.int .u32 (K.getD i 0))) (hkb:kb<w.heap.size) (hl:l.length=64) (hc:64≤cap) (hcm:cap≤9223372036854775807) (hb:b<w.heap.size)
 (hs:∀i,i<64→w.cell? ⟨b,off+i,none⟩=some (.int .u8 ((l.getD i 0).toNat:Int))) :
 Calls Tryz.prog 292 #[.agg (arrU hv),.agg (arrU bv),.pointer (some ⟨kb,ko,none⟩),.slice (some ⟨b,off,none⟩) 64 cap] w fun e w'=>e=.returned (.agg (arrU (turnL hv bv K l)))∧Upd (fun _=>False) w w':=by
 have HK:=Lib.hid hk;have HS:=Lib.hid hs;have HL:=Lib.hid hl;have H8:=h3k h8 b8 k64;have HA:=h3k hH hB hK;clear hk hs hl h8 b8 k64 hH hB hK;go_enter Tryz.func292,Tryz.ntmps292
 go_wp2_with fail
 obtain ⟨n,hn⟩:=eqx w.heap.size;have HN:=Lib.hid hn;have hbn:b<n:=oM;have hkn:kb<n:=oM;clear hb hkb;rw [hn];clear hn;go_loopw [10,22] (fun _ i wr=>∃k:Nat,k≤16∧i=.int .i64 (k:Int)∧TurnW w wr n hv bv (List.replicate 8 0) (wIn l k)) (fun _ i _=>16 - (intOf i).toNat)
 case atStart =>
  have e:=HN.out;refine ⟨0,oM,rfl,?_⟩;subst e;refine ⟨(((Blk.new w _ _).alloc _).alloc _).alloc _,?_,?_,?_,((((Upd.refl _ w).alloc _).alloc _).alloc _).alloc _,Nat.le_refl _⟩
  ·have h:=((Blk.new (w.alloc (.cells (arrU hv) 377)) 377 (arrU bv)).alloc (.cells (arrU (List.replicate 8 0)) 377)).alloc (.cells (arrU (wIn l 0)) 379)
   rw [World.size_alloc] at h;exact h
  ·have h:=(Blk.new ((w.alloc (.cells (arrU hv) 377)).alloc (.cells (arrU bv) 377)) 377 (arrU (List.replicate 8 0))).alloc (.cells (arrU (wIn l 0)) 379)
   rw [World.size_alloc,World.size_alloc] at h;exact h
  ·have h:=Blk.new (((w.alloc (.cells (arrU hv) 377)).alloc (.cells (arrU bv) 377)).alloc (.cells (arrU (List.replicate 8 0)) 377)) 379 (arrU (wIn l 0))
   rw [World.size_alloc,World.size_alloc,World.size_alloc] at h;exact h
 case round =>
  obtain ⟨k,hk,rfl,hT⟩:=hrel;by_cases hlt:k<16
  ·
   --#a {
   have HT:=Lib.hid hT;have hcv:=conv_at wr b (off+4*k) 4 (cap - 4*k) ((l.drop (4*k)).take 4) (by have:=HL.out;simp;omega) (fun i hi=>by
    rw [cell_upd hT.upd (oN HN.out) (fun e=>e),show off+4*k+i=off+(4*k+i) by omega,HS.out (4*k+i) oM];have:=HL.out;simp [List.getD_eq_getElem?_getD,hi])
   have hcw:=hT.bw.cellU k (by rw [wIn_len];omega);have hfw:=hT.bw.frozen k;clear hT;go_wp2_with fail
   refine (getBig_c (str ((l.drop (4*k)).take 4)) 4 _ oM (by have:=HL.out;rw [str_size];simp;omega)).mono ?_;rintro e w' ⟨rfl,rfl⟩;rw [str_list,List.take_take,Nat.min_self];go_wp2_with fail
   go_roundw
   case rel =>
    refine ⟨k+1,oM,by go_num,?_⟩;have e:(beN (List.take 4 (List.drop (4*k) l)):Int) % 4294967296=wordAt l k:=Int.emod_eq_of_lt (wordU l k).1 (wordU l k).2;rw [e,wIn_succ];exact HT.out.setw k _
   case measure=>simp [intOf]<;>omega
   --#a }
  ·obtain rfl : k=16:=oM
   have e16:((16:Nat):Int)=16:=rfl;rw [e16];clear e16;have HA1:=h2k (wIn_all l 16) (wIn_len l 16);have HT:=Lib.hid hT;obtain ⟨W0,hW0⟩:=eqx (wIn l 16);rw [hW0] at HT HA1;have HW0:=Lib.hid hW0;clear hW0 hT hk hlt;go_wp2_with fail
   go_loopw [11,12,13,14,15] (fun i _ _ _ _ wr=>∃k:Nat,k≤64∧16≤k∧i=.int .i64 (k:Int)∧TurnW w wr n hv bv (List.replicate 8 0) (wOn W0 (k - 16))) (fun i _ _ _ _ _=>64 - (intOf i).toNat)
   case atStart=>exact ⟨16,oM,oM,rfl,HT.out⟩
   case round =>
    clear HT;obtain ⟨k,hk,hk2,rfl,hT⟩:=hrel;have HT:=Lib.hid hT;by_cases hlt:k<64
    ·
     --#b {
     have hln:=wOn_len W0 (k - 16);have hal:=wOn_all HA1.out.1 (k - 16);have h64:=HA1.out.2;obtain ⟨L,hL⟩:=eqx (wOn W0 (k - 16));have HL1:=Lib.hid hL;rw [hL] at hT hln hal;have c15:=hT.bw.cellU (k - 15) oM;have c2:=hT.bw.cellU (k - 2) oM;have u15:=hal.get (k - 15);have u2:=hal.get (k - 2);obtain ⟨x15,hx15⟩:∃x,L.getD (k - 15) 0=x:=⟨_,rfl⟩;obtain ⟨x2,hx2⟩:∃x,L.getD (k - 2) 0=x:=⟨_,rfl⟩;rw [hx15] at c15 u15;rw [hx2] at c2 u2;have HX1:=h2k hx15 hx2;have U15:=Lib.hid u15;have U2:=Lib.hid u2;obtain ⟨m15,m15b⟩:=u15;obtain ⟨m2,m2b⟩:=u2;have e15:IntKind.i64.wrap ((k:Int) - 15)=((k - 15:Nat):Int):=by rw [IntWalk.i64_in _ oM];omega
     have e2:IntKind.i64.wrap ((k:Int) - 2)=((k - 2:Nat):Int):=by rw [IntWalk.i64_in _ oM];omega
     have b15:((k - 15:Nat):Int)<64:=oM;have b2:((k - 2:Nat):Int)<64:=oM;clear hT hln hal h64 hL hx15 hx2;go_wp2_with fail
     go_quiet (fail)
     clear c15 c2 e15 e2 b15 b2;go_wp2_with fail
     refine (rot32_c _ _ 25 _ U15.out oM (by decide +kernel)).mono ?_;rintro e w' ⟨rfl,rfl⟩;go_wp2_with fail
     refine (rot32_c _ _ 14 _ U15.out oM (by decide +kernel)).mono ?_;rintro e w' ⟨rfl,rfl⟩;go_wp2_with fail
     refine (rot32_c _ _ 15 _ U2.out oM (by decide +kernel)).mono ?_;rintro e w' ⟨rfl,rfl⟩;go_wp2_with fail
     refine (rot32_c _ _ 13 _ U2.out oM (by decide +kernel)).mono ?_;rintro e w' ⟨rfl,rfl⟩;go_wp2_with fail
     have hT:=HT.out.drewN nq;rw [HL1.out] at hT;have hln:=wOn_len W0 (k - 16);rw [HL1.out,HA1.out.2] at hln;have c16:=hT.bw.cellU (k - 16) oM;have c7:=hT.bw.cellU (k - 7) oM;have c0:=hT.bw.cellU k oM;have f0:=hT.bw.frozen k;obtain ⟨x16,hx16⟩:∃x,L.getD (k - 16) 0=x:=⟨_,rfl⟩;obtain ⟨x7,hx7⟩:∃x,L.getD (k - 7) 0=x:=⟨_,rfl⟩;rw [hx16] at c16;rw [hx7] at c7;have HX2:=h2k hx16 hx7;have HT2:=Lib.hid hT;clear hT HT hln hx16 hx7;obtain ⟨a1,ha1⟩:∃x,bits BinOp.xor IntKind.u32 (bits BinOp.xor IntKind.u32 (rotl x15 25) (rotl x15 14)) (x15 / 8)=x:=⟨_,rfl⟩;obtain ⟨a2,ha2⟩:∃x,bits BinOp.xor IntKind.u32 (bits BinOp.xor IntKind.u32 (rotl x2 15) (rotl x2 13)) (x2 / 1024)=x:=⟨_,rfl⟩;rw [ha1,ha2];have HY:=h2k (show sg0 x15=a1 from ha1) (show sg1 x2=a2 from ha2);clear ha1 ha2;have e16:IntKind.i64.wrap ((k:Int) - 16)=((k - 16:Nat):Int):=by rw [IntWalk.i64_in _ oM];omega
     have e7:IntKind.i64.wrap ((k:Int) - 7)=((k - 7:Nat):Int):=by rw [IntWalk.i64_in _ oM];omega
     have b16:((k - 16:Nat):Int)<64:=oM;have b7:((k - 7:Nat):Int)<64:=oM;have b0:(k:Int)<64:=oM;generalize wr.drewN nq=w1 at c16 c7 c0 f0 HT2 ⊢;have HS1:Hid (∀v,(w1.setCell ⟨n+1+1+1,k,none⟩ v).drew.cell? ⟨n+1+1+1,k - 16,none⟩=some (.int .u32 x16)∧(w1.setCell ⟨n+1+1+1,k,none⟩ v).drew.cell? ⟨n+1+1+1,k - 7,none⟩=some (.int .u32 x7)):=Lib.hid fun v=>by
      rw [World.cell?_drew,World.cell?_drew];exact ⟨(World.cell?_setCell_other _ _ _ _ (by simp<;>omega)).trans c16,(World.cell?_setCell_other _ _ _ _ (by simp<;>omega)).trans c7⟩
     go_region_held3 (fun w'=>w'.cell? ⟨n+1+1+1,k - 16,none⟩=some (.int .u32 x16)∧w'.cell? ⟨n+1+1+1,k - 7,none⟩=some (.int .u32 x7)) (first | exact HS1.out _ | go_keep) (first | fail)
     go_wp2_with fail
     go_roundw
     case rel =>
      refine ⟨k+1,oM,oM,by go_num,?_⟩;have e2:nextW L k=(((x16+a1) % 4294967296+x7) % 4294967296+a2) % 4294967296:=by unfold nextW;rw [HX2.out.1,HX1.out.1,HX2.out.2,HX1.out.2,HY.out.1,HY.out.2]
      have e3:wOn W0 (k+1 - 16)=L.set k ((((x16+a1) % 4294967296+x7) % 4294967296+a2) % 4294967296):=by rw [show k+1 - 16=(k - 16)+1 by omega,wOn_succ,HL1.out,show 16+(k - 16)=k by omega,e2]
      rw [e3];exact (HT2.out.setw k _).drew
     case measure=>simp [intOf]<;>omega
     --#b }
    ·obtain rfl:k=64:=oM
     have e64:((64:Nat):Int)=64:=rfl;rw [e64];have HW1:=h2k (wOn_all HA1.out.1 48) (wOn_len W0 48);have HT:=Lib.hid hT;obtain ⟨W1,hW1⟩:=eqx (wOn W0 48);rw [show 64 - 16=48 from rfl,hW1] at HT;rw [hW1] at HW1;have HE1:=Lib.hid hW1;clear hW1 hT hk hk2 hlt e64;go_wp2_with fail
     go_loopw [16,17,18,19,20,81] (fun _ _ _ _ _ i wr=>∃k:Nat,k≤64∧i=.int .i64 (k:Int)∧TurnW w wr n hv (rounds K W1 bv k) (List.replicate 8 0) W1) (fun _ _ _ _ _ i _=>64 - (intOf i).toNat)
     case atStart=>exact ⟨0,oM,rfl,HT.out⟩
     case round =>
      clear HT;obtain ⟨k,hk,rfl,hT⟩:=hrel;have HT:=Lib.hid hT;by_cases hlt:k<64
      ·
       --#c {
       have hr:=rounds_ok (K:=K) (W:=W1) H8.out.2.1 HA.out.2.1 k;obtain ⟨b0,b1,b2,b3,b4,b5,b6,b7,hbl⟩:=eight hr.1;have hal:=hr.2;rw [hbl] at hT hal;have HB1:=Lib.hid hbl;obtain ⟨q0,q1,q2,q3,q4,q5,q6,q7⟩:=hT.b8;have cw:=hT.bw.cellU k (oO HW1.out.2 HA1.out.2);have ck:=HK.out k hlt;rw [← cell_upd hT.upd (oN HN.out) (fun e=>e)] at ck;obtain ⟨xk,hxk⟩:∃x,K.getD k 0=x:=⟨_,rfl⟩;obtain ⟨xw,hxw⟩:∃x,W1.getD k 0=x:=⟨_,rfl⟩;rw [hxk] at ck;rw [hxw] at cw;have HX:=h2k hxk hxw;have U0:=Lib.hid (hal b0 sM);have U4:=Lib.hid (hal b4 sM);obtain ⟨m4,m4b⟩:=hal b4 sM;have bk:(k:Int)<64:=oM;clear hal hbl hxk hxw hr cw ck q1 q2 q3 q5 q6 q7;have HT2:=Lib.hid hT;clear hT HT;go_wp2_with fail
       go_quiet (fail)
       have hT:=HT2.out.drewN nq;clear q0 q4 HT2;generalize wr.drewN nq=w1 at hT ⊢;obtain ⟨q0,q1,q2,q3,q4,q5,q6,q7⟩:=hT.b8;have cw:=hT.bw.cellU k (oO HW1.out.2 HA1.out.2);have ck:=HK.out k hlt;rw [← cell_upd hT.upd (oN HN.out) (fun e=>e),HX.out.1] at ck;rw [HX.out.2] at cw;have HT2:=Lib.hid hT;clear hT;go_wp2_with fail
       go_quiet ((go_at_call 304;exact Calls.quiet_of_same (rotA_c _ _ _ U4.out)));have hT:=HT2.out.drewN nq;rw [show (if IntKind.u32.signed=true then (-1:Int) else IntKind.u32.max)=4294967295 from rfl];obtain ⟨T,hTT⟩:=eqx (((b7+bits .xor .u32 (bits .xor .u32 (rotl b4 (amt (-6))) (rotl b4 (amt (-11)))) (rotl b4 (amt (-25)))+bits .xor .u32 (bits .and .u32 b4 b5) (bits .and .u32 (bits .xor .u32 4294967295 b4) b6)+xk) % 4294967296+xw) % 4294967296);rw [hTT];have HTT:=Lib.hid (show roundT b4 b5 b6 b7 xk xw=T from hTT);clear hTT;clear q0 q1 q2 q3 q4 q5 q6 q7 cw ck HT2;generalize w1.drewN nq=w2 at hT ⊢;obtain ⟨q0,q1,q2,q3,q4,q5,q6,q7⟩:=hT.b8;have HT2:=Lib.hid hT;clear hT;go_wp2_with fail
       go_quiet ((go_at_call 304;exact Calls.quiet_of_same (rotA_c _ _ _ U0.out)));have hT:=HT2.out.drewN nq;clear q0 q1 q2 q3 q4 q5 q6 q7 HT2;generalize w2.drewN nq=w3 at hT ⊢;obtain ⟨q0,q1,q2,q3,q4,q5,q6,q7⟩:=hT.b8;obtain ⟨U,hUU⟩:=eqx ((bits .xor .u32 (bits .xor .u32 (rotl b0 (amt (-2))) (rotl b0 (amt (-13)))) (rotl b0 (amt (-22)))+bits .xor .u32 (bits .xor .u32 (bits .and .u32 b0 b1) (bits .and .u32 b0 b2)) (bits .and .u32 b1 b2)) % 4294967296);rw [hUU];have HUU:=Lib.hid (show roundU b0 b1 b2=U from hUU);clear hUU;have HT2:=Lib.hid hT;clear hT;go_upto_region 20 with (fail)
       go_wp2_with (first
        | (show wpList _ _ _ (⟨_,Op.build _ _,_,_,_,_⟩::_) _ _
           refine wpList_build_is rfl _ _ rfl [(0,.int .u32 ((T+U) % 4294967296)),(1,.int .u32 b0),(2,.int .u32 b1),(3,.int .u32 b2),(4,.int .u32 ((b3+T) % 4294967296)),(5,.int .u32 b4),(6,.int .u32 b5),(7,.int .u32 b6)] _ rfl (built8 _ _ _ _ _ _ _ _) ?_)
        | (show wpList _ _ _ (⟨none,_,_,_,_,_⟩::_) _ _
           refine wpList_store_all rfl 377 _ _ rfl (n+1) _ rfl rfl 377 _ HT2.out.bb rfl (by simp [Value.oneCell']) kR ?_;intro w4 hB4 hU4 hz4))
       go_roundw
       case rel =>
        refine ⟨k+1,oM,by go_num,?_⟩;have e:rounds K W1 bv (k+1)=[(T+U) % 4294967296,b0,b1,b2,(b3+T) % 4294967296,b4,b5,b6]:=by
         rw [rounds_succ,HB1.out,HX.out.1,HX.out.2];show [_,_,_,_,_,_,_,_]=_;rw [HTT.out,HUU.out]
        rw [e];exact HT2.out.setb hB4 hU4
       case measure=>simp [intOf]<;>omega
       --#c }
      ·obtain rfl:k=64:=oM
       have e64:((64:Nat):Int)=64:=rfl;rw [e64];have hr:=rounds_ok (K:=K) (W:=W1) H8.out.2.1 HA.out.2.1 64;obtain ⟨bl,hbl⟩:=eqx (rounds K W1 bv 64);rw [hbl] at hr hT;have HBL:=Lib.hid hbl;have HR:=Lib.hid hr;clear HT;have HT:=Lib.hid hT;clear hbl hr hT hk hlt e64;go_wp2_with fail
       go_loopw [21,165] (fun _ i wr=>∃k:Nat,k≤8∧i=.int .i64 (k:Int)∧TurnW w wr n (addH hv bl k) bl (List.replicate 8 0) W1) (fun _ i _=>8 - (intOf i).toNat)
       case atStart=>exact ⟨0,oM,rfl,HT.out⟩
       case round =>
        clear HT;obtain ⟨k,hk,rfl,hT⟩:=hrel;have HT:=Lib.hid hT;by_cases hlt:k<8
        ·
         --#d {
         have hl:=addH_len hv bl k;have ch:=hT.bh.cellU k (oN H8.out.1);have cb:=hT.bb.cellU k (oN HR.out.1);have fh:=hT.bh.frozen k;obtain ⟨xh,hxh⟩:∃x,(addH hv bl k).getD k 0=x:=⟨_,rfl⟩;obtain ⟨xb,hxb⟩:∃x,bl.getD k 0=x:=⟨_,rfl⟩;rw [hxh] at ch;rw [hxb] at cb;have HX:=h2k hxh hxb;have bk:(k:Int)<8:=oM;have HS1:Hid (∀v,(wr.setCell ⟨n,k,none⟩ v).drew.cell? ⟨n+1,k,none⟩=some (.int .u32 xb)):=Lib.hid fun v=>by
          rw [World.cell?_drew];exact (World.cell?_setCell_other _ _ _ _ sM).trans cb
         clear hT hl hxh hxb;go_wp2_with fail
         go_still_tail 8,kR
         change wpList _ _ _ _ _ wr.drew;go_wp2_with fail
         go_roundw
         case rel =>
          refine ⟨k+1,oM,by go_num,?_⟩;rw [addH_succ,HX.out.1,HX.out.2];exact HT.out.drew.seth k _
         case measure=>simp [intOf]<;>omega
         --#d }
        ·obtain rfl:k=8:=oM
         have e8:((8:Nat):Int)=8:=rfl;rw [e8];obtain ⟨rl,hrl⟩:=eqx (addH hv bl 8);have hrl2:rl.length=8:=by rw [← hrl,addH_len];exact H8.out.1
         rw [hrl] at HT;obtain ⟨r0,r1,r2,r3,r4,r5,r6,r7,rfl⟩:=eight hrl2;have HRL:=Lib.hid hrl;have hone:(arrU [r0,r1,r2,r3,r4,r5,r6,r7]).all (·.oneCell')=true:=arrU_one _;have HONE:=Lib.hid hone;clear hrl hrl2 hT hk hlt e8 hone;go_wp2_with (first
          | (refine wpList_load_all rfl _ _ rfl n rfl _ _ _ HT.out.bh Tryz.underlying377 rfl rfl ?_)
          | (show wpList _ _ _ (⟨none,_,_,_,_,_⟩::_) _ _
             refine wpList_store_all rfl 377 _ _ rfl (n+1+1) _ rfl rfl 377 _ HT.out.br rfl HONE.out kR ?_;intro w4 hB4 hU4 hz4))
         have hfin:[r0,r1,r2,r3,r4,r5,r6,r7]=turnL hv bv K l:=by
          unfold turnL;rw [HW0.out,HE1.out,HBL.out,HRL.out]
         refine bodyPost_ret (results_cell_row rfl _ _ (n+1+1) _ _ _ _ rfl hB4 Tryz.underlying377 rfl rfl) rfl ⟨by rw [← hfin],HT.out.upd.then hU4 (fun q hq=>.inr (oN HT.out.new))⟩
section
variable {P:Program} {ops:Array Oper} {Q:Exit→Act→World→Prop} {md:Region.Mode} {S:World→Prop}
def Takes (P:Program) (ops:Array Oper) (Q:Exit→Act→World→Prop) (S:World→Prop) (i:Nat) (o:Oper) (v:Value) (a:Act):Prop :=
 ∀ a':Act,execOp a'.eval o=execOp a.eval o→Region.wanted o (yielded ops a'.tmps)=Region.wanted o (yielded ops a.tmps) →
  ∀(K:Act→World→Prop) (w:World),S w→K (a'.put o.dst v) w→wpOp P ops Q i K a' w
theorem Takes.like {i:Nat} {o:Oper} {v:Value} {a a':Act} (h:Takes P ops Q S i o v a) (he:execOp a'.eval o=execOp a.eval o) (hw:Region.wanted o (yielded ops a'.tmps)=Region.wanted o (yielded ops a.tmps)):Takes P ops Q S i o v a' :=
 fun b h1 h2=>h b (h1.trans he) (h2.trans hw)
theorem takes_call {i:Nat} {o:Oper} {v:Value} {a:Act} (hi:ops[i]? = some o) (f:FuncId) (args:Array Value) (hw:Region.wanted o (yielded ops a.tmps)=true)
 (hx:∀w,S w→(execOp a.eval o).run P w=.ok (.enter f args) w) (hc:∀w,S w→Calls P f args w fun e w'=>e=.returned v∧w=w'):Takes P ops Q S i o v a:=by
 intro a' he hw' K w hS hK;unfold wpOp;simp only [hi];rw [hw',hw];simp only [if_true];left
 unfold Oper.wp;rw [he,hx w hS];simp only [Oper.upon];refine (hc w hS).mono fun e w2 h=>?_
 obtain ⟨rfl,rfl⟩:=h;exact hK
theorem wpOp_swap {i j:Nat} {oi oj:Oper} {v:Value} (hj:ops[j]? = some oj) (hap:oi.apart ops oj=true)
 (hsi:∀cs b,oi.op≠.select cs b) (hsj:∀cs b,oj.op≠.select cs b) (hQ:∀c a w,Q (.panic c) (a.put oi.dst v) w→Q (.panic c) a w)
 {K:Act→World→Prop} {a:Act} {w:World} (hT:Takes P ops Q S i oi v a) (h:wpOp P ops Q j K (a.put oi.dst v) w) :
 wpOp P ops Q j (fun a' w'=>Takes P ops Q S i oi v a'∧K (a'.put oi.dst v) w') a w:=by
 obtain ⟨p1,p2,p3⟩:=Oper.apart_spec hap;have still:∀u,Takes P ops Q S i oi v (a.put oj.dst u):=fun u=>hT.like (execOp_put oi hsi a oj.dst u p3) (wanted_put oi a oj.dst u p3)
 have comm:∀u,(a.put oj.dst u).put oi.dst v=(a.put oi.dst v).put oj.dst u:=fun u=>(Act.put_comm a v u p2).symm
 unfold wpOp at h ⊢;simp only [hj] at h ⊢;rw [wanted_put oj a oi.dst v p1] at h;by_cases hw:Region.wanted oj (yielded ops a.tmps)=true
 ·rw [if_pos hw] at h ⊢
  rcases h with h | ⟨q1,q2⟩
  ·left
   unfold Oper.wp at h ⊢;rw [execOp_put oj hsj a oi.dst v p1] at h;generalize (execOp a.eval oj).run P w=r at h ⊢;match r,h with
   | .ok (.value u) w2,h =>
     simp only [Oper.upon] at h ⊢;exact ⟨still u,by rw [comm];exact h⟩
   | .ok .skip w2,h =>
     simp only [Oper.upon] at h ⊢;exact ⟨still _,by rw [comm];exact h⟩
   | .ok (.defer d) w2,h =>
     simp only [Oper.upon] at h ⊢;have hd:Takes P ops Q S i oi v { a with defers:=d::a.defers } := hT.like rfl rfl;refine ⟨hd.like (execOp_put oi hsi _ oj.dst undef p3) (wanted_put oi _ oj.dst undef p3),?_⟩;rw [← Act.put_comm _ v undef p2,← Act.put_defers];exact h
   | .ok (.enter f args) w2,h =>
     simp only [Oper.upon] at h ⊢;refine Calls.mono h fun e w3 he=>?_
     match e,he with
     | .returned u,he=>exact ⟨still u,by rw [comm];exact he⟩
     | .panicked c,he=>exact hQ _ _ _ he
     | .outgrown,he=>exact he
   | .ok (.row row args) w2,h =>
     simp only [Oper.upon] at h ⊢;exact Rows.mono h fun u w3 he=>⟨still u,by rw [comm];exact he⟩
   | .halt (.panic u) w2,h =>
     simp only [Oper.upon] at h ⊢;exact hQ _ _ _ h
  ·right
   refine ⟨?_,q2⟩;unfold Oper.asks at q1 ⊢;rw [execOp_put oj hsj a oi.dst v p1] at q1;exact q1
 ·rw [if_neg hw] at h ⊢
  exact ⟨still _,by rw [comm];exact h⟩
theorem zz35 {P:Prop} (h:P:=by
 intro x hx hb hxi;have g1:=hall x hx hb;have g0:=(mem_ready.1 hr).1;rw [hxi] at g1;by_cases hlt:i<listed.size
 ·simp [hlt] at g0 g1
  rw [g0] at g1;cases g1
 ·simp [Array.getElem?_eq_none (Nat.le_of_not_lt hlt)] at g1):P:=h
theorem zz40 {P:Prop} (h:P:=by
 refine hfree k ok hk hki ?_ hn2;by_cases ek:j=k
 ·subst ek;exact hun
 ·rw [getD_set_ne true ek] at hu2;exact hu2):P:=h
theorem wpAnyH_takeC {i:Nat} {oi:Oper} {v:Value} {fuel:Nat} {listed:Array Bool} {a:Act} {w:World} (hi:ops[i]? = some oi)
 (hs:Region.noSelect ops=true) (hf:Region.free md ops listed i=true) (hr:(Region.ready md ops listed).contains i=true)
 (hQ:∀c a w,Q (.panic c) (a.put oi.dst v) w→Q (.panic c) a w) (hT:Takes P ops Q S i oi v a) (hS:S w)
 (h:wpAnyH P md ops Q S fuel (listed.setIfInBounds i true) (a.put oi.dst v) w):wpAnyH P md ops Q S (fuel+1) listed a w:=by
 have hsel:=Region.noSelect_spec hs;have main:∀(fuel:Nat) (listed:Array Bool) (a:Act) (w:World),
  (∀j oj,ops[j]? = some oj→j≠i→listed.getD j true=false→(∀e ∈ oj.after,Region.binds md e=true→e.on≠i)→oi.apart ops oj=true) →
  i ∈ Region.ready md ops listed→Takes P ops Q S i oi v a→S w →
  wpAnyH P md ops Q S fuel (listed.setIfInBounds i true) (a.put oi.dst v) w→wpAnyH P md ops Q S (fuel+1) listed a w:=by
  intro fuel;induction fuel with
  | zero =>
    intro listed a w _ hr hT hS H;refine ⟨fun h0=>(by rw [h0] at hr;cases hr),fun j hj=>?_⟩
    by_cases e:j=i
    ·subst e
     exact hT a rfl rfl _ w hS ⟨hS,H⟩
    ·have h1:=ready_mono hj e
     rw [H.1] at h1;cases h1
  | succ fuel ih =>
    intro listed a w hfree hr hT hS H;refine ⟨fun h0=>(by rw [h0] at hr;cases hr),fun j hj=>?_⟩
    by_cases e:j=i
    ·subst e
     exact hT a rfl rfl _ w hS ⟨hS,H⟩
    ·have h1:=H.2 j (ready_mono hj e)
     obtain ⟨hun,oj,hoj,hall⟩:=mem_ready.1 hj;have hno:∀e ∈ oj.after,Region.binds md e=true→e.on≠i:=by
      exact zz35
     have h2:=wpOp_swap hoj (hfree j oj hoj e hun hno) (fun cs b=>hsel i oi cs b hi) (fun cs b=>hsel j oj cs b hoj) hQ hT h1;refine wpOp_mono (fun a' w' h3=>⟨h3.2.1,ih _ a' w' (fun k ok hk hki hu2 hn2=>?_) (ready_mono hr (Ne.symm e)) h3.1 h3.2.1 ?_⟩) h2
     ·exact zz40
     ·rw [Array.setIfInBounds_comm _ _ e]
      exact h3.2.2
 exact main fuel listed a w (Region.free_spec hi hf) (by simpa using hr) hT hS h
end
section
variable {P:Program} {ops:Array Oper} {Q:Exit→Act→World→Prop} {md:Region.Mode} {S:World→Prop} {T:Nat→Bool}
def dirty (T:Nat→Bool) (listed:Array Bool):Bool:=(List.range listed.size).any fun k=>T k && listed.getD k false
theorem dirty_false {listed:Array Bool} : dirty T listed=false↔∀k,T k=true→listed.getD k false=false:=by
 unfold dirty;rw [List.any_eq_false];constructor
 ·intro h k hk
  by_cases hlt:k<listed.size
  ·have h1:=h k (List.mem_range.2 hlt)
   rw [hk] at h1;simpa using h1
  ·simp [Array.getElem?_eq_none (Nat.le_of_not_lt hlt)]
 ·intro h k _
  cases hT:T k with
  | false=>simp
  | true=>simp [h k hT]
def wpAnyT (P:Program) (md:Region.Mode) (ops:Array Oper) (Q:Exit→Act→World→Prop) (S:World→Prop) (T:Nat→Bool):Nat→Array Bool→Act→World→Prop
 | 0,listed,a,w=>Region.ready md ops listed=[]∧Q .normal a w
 | fuel+1,listed,a,w =>
   (Region.ready md ops listed=[]→Q .normal a w) ∧
   ∀i ∈ Region.ready md ops listed,wpOp P ops Q i (fun a' w'=>(dirty T (listed.setIfInBounds i true)=false→S w')∧wpAnyT P md ops Q S T fuel (listed.setIfInBounds i true) a' w') a w
theorem wpAny_of_T:∀(fuel:Nat) (listed:Array Bool) (a:Act) (w:World),wpAnyT P md ops Q S T fuel listed a w→wpAny P md ops Q fuel listed a w
 | 0,_,_,_,h=>h
 | fuel+1,_,_,_,h=>⟨h.1,fun i hi=>wpOp_mono (fun a' w' h'=>wpAny_of_T fuel _ a' w' h'.2) (h.2 i hi)⟩
theorem wp_region_T {id:Nat} {a:Act} {w:World} (hm:P.follows .mixedOrders=true)
 (h:wpAnyT P .any ops Q S T ops.size (Array.replicate ops.size false) a w.drew):(Code.region id ops true).wp P Q a w :=
 wp_region_any hm (wpAny_of_T _ _ _ _ h)
def reach (md:Region.Mode) (ops:Array Oper) (i:Nat):Nat→Nat→Bool
 | 0,_=>false
 | n+1,j=>match ops[j]? with | some oj=>oj.after.any (fun e=>Region.binds md e && (e.on == i || reach md ops i n e.on)) | none=>false
def closed (md:Region.Mode) (ops:Array Oper) (listed:Array Bool):Bool :=
 (List.range ops.size).all fun j => !listed.getD j false || (match ops[j]? with | some oj=>oj.after.all (fun e => !Region.binds md e || listed.getD e.on false) | none=>true)
def awaits (md:Region.Mode) (ops:Array Oper) (T:Nat→Bool) (listed:Array Bool) (i:Nat):Bool :=
 closed md ops listed && !T i && (List.range ops.size).all fun j => !T j || reach md ops i 3 j
def Closed (md:Region.Mode) (ops:Array Oper) (listed:Array Bool):Prop :=
 ∀j oj,ops[j]? = some oj→listed.getD j false=true→∀e ∈ oj.after,Region.binds md e=true→listed.getD e.on false=true
theorem closed_spec {listed:Array Bool} (h:closed md ops listed=true):Closed md ops listed:=by
 intro j oj hj hl e he hb;unfold closed at h;rw [List.all_eq_true] at h;have hlt:j<ops.size:=(Array.getElem?_eq_some_iff.1 hj).1;have h1:=h j (List.mem_range.2 hlt);rw [hl,hj] at h1;simp only [Bool.not_true,Bool.false_or,Array.all_eq_true'] at h1;have h2:=h1 e he;rw [hb] at h2;simpa using h2
theorem Closed.set {listed:Array Bool} (h:Closed md ops listed) {i:Nat} {oi:Oper} (hi:ops[i]? = some oi) (hall:∀e ∈ oi.after,Region.binds md e=true→listed.getD e.on false=true):Closed md ops (listed.setIfInBounds i true):=by
 have mono:∀k,listed.getD k false=true→(listed.setIfInBounds i true).getD k false=true:=by
  intro k hk;by_cases e:i=k
  ·subst e
   by_cases hlt:i<listed.size
   ·simp [hlt]
   ·simp [Array.getElem?_eq_none (Nat.le_of_not_lt hlt)] at hk
  ·rw [getD_set_ne false e];exact hk
 intro j oj hj hl e he hb;by_cases ek:i=j
 ·subst ek
  rw [hi] at hj;cases hj
  exact mono _ (hall e he hb)
 ·rw [getD_set_ne false ek] at hl
  exact mono _ (h j oj hj hl e he hb)
theorem reach_spec {listed:Array Bool} (h:Closed md ops listed) {i:Nat} : ∀n j oj,ops[j]? = some oj→(∀e ∈ oj.after,Region.binds md e=true→listed.getD e.on false=true)→reach md ops i n j=true→listed.getD i false=true
 | 0,_,_,_,_,hr=>by simp [reach] at hr
 | n + 1,j,oj,hj,hall,hr=>by
   rw [reach,hj] at hr;obtain ⟨e,he,hb⟩:=Array.any_eq_true'.1 hr;simp only [Bool.and_eq_true,Bool.or_eq_true,beq_iff_eq] at hb;have h1:=hall e he hb.1;rcases hb.2 with h2 | h2
   ·rw [← h2];exact h1
   ·cases n with
    | zero=>simp [reach] at h2
    | succ n =>
      cases ho:ops[e.on]? with
      | none=>simp [reach,ho] at h2
      | some ok=>exact reach_spec h (n+1) e.on ok ho (h e.on ok ho h1) h2
theorem zz38 {P:Prop} (h:P:=by
 simp only [Bool.and_eq_true] at h;refine ⟨closed_spec h.1.1,by simpa using h.1.2,fun j oj hj hT=>?_⟩;have h1:=List.all_eq_true.1 h.2 j (List.mem_range.2 (Array.getElem?_eq_some_iff.1 hj).1);rw [hT] at h1;simpa using h1):P:=h
theorem awaits_spec {listed:Array Bool} {i:Nat} (h:awaits md ops T listed i=true) :
 Closed md ops listed∧T i=false∧∀j oj,ops[j]? = some oj→T j=true→reach md ops i 3 j=true:=by
 unfold awaits at h;exact zz38
theorem zz10 {P:Prop} (h:P:=by
 have h2:=wpOp_swap hoj (hfree j oj hoj e hun hno) (fun cs b=>hsel i oi cs b hi) (fun cs b=>hsel j oj cs b hoj) hQ hT h1;refine wpOp_mono (fun a' w' h3=>⟨fun _=>h3.2.1 hd,ih _ a' w' (fun k ok hk hki hu2 hn2=>?_) (hcl.set hoj hall) (by simpa using hz) (ready_mono hr (Ne.symm e)) h3.1 (h3.2.1 hd) ?_⟩) h2
 ·exact zz40
 ·rw [Array.setIfInBounds_comm _ _ e]
  exact h3.2.2):P:=h
theorem zz33 {P:Prop} (h:P:=by
 intro listed a w _ _ _ hr hT hS H;refine ⟨fun h0=>(by rw [h0] at hr;cases hr),fun j hj=>?_⟩
 by_cases e:j=i
 ·subst e
  exact hT a rfl rfl _ w hS ⟨fun _=>hS,H⟩
 ·have h1:=ready_mono hj e
  rw [H.1] at h1;cases h1):P:=h
theorem wpAnyT_take {i:Nat} {oi:Oper} {v:Value} {fuel:Nat} {listed:Array Bool} {a:Act} {w:World} (hi:ops[i]? = some oi)
 (hs:Region.noSelect ops=true) (hf:Region.free md ops listed i=true) (hr:(Region.ready md ops listed).contains i=true) (hw:awaits md ops T listed i=true)
 (hQ:∀c a w,Q (.panic c) (a.put oi.dst v) w→Q (.panic c) a w) (hT:Takes P ops Q S i oi v a) (hS:S w) (hz:ops.size=listed.size)
 (h:wpAnyT P md ops Q S T fuel (listed.setIfInBounds i true) (a.put oi.dst v) w):wpAnyT P md ops Q S T (fuel+1) listed a w:=by
 have hsel := Region.noSelect_spec hs;obtain ⟨hcl0,hTi,hwt⟩:=awaits_spec hw;have main:∀(fuel:Nat) (listed:Array Bool) (a:Act) (w:World),
  (∀j oj,ops[j]? = some oj→j≠i→listed.getD j true=false→(∀e ∈ oj.after,Region.binds md e=true→e.on≠i)→oi.apart ops oj=true) →
  Closed md ops listed→ops.size=listed.size →
  i ∈ Region.ready md ops listed→Takes P ops Q S i oi v a→S w →
  wpAnyT P md ops Q S T fuel (listed.setIfInBounds i true) (a.put oi.dst v) w→wpAnyT P md ops Q S T (fuel+1) listed a w:=by
  intro fuel;induction fuel with
  | zero =>
    exact zz33
  | succ fuel ih =>
    intro listed a w hfree hcl hz hr hT hS H;refine ⟨fun h0=>(by rw [h0] at hr;cases hr),fun j hj=>?_⟩
    by_cases e:j=i
    ·subst e
     exact hT a rfl rfl _ w hS ⟨fun _=>hS,H⟩
    ·have h1:=H.2 j (ready_mono hj e)
     obtain ⟨hun,oj,hoj,hall⟩:=mem_ready.1 hj;have g0:=(mem_ready.1 hr).1;have hli:listed.getD i false=false:=by
      by_cases hlt:i<listed.size
      ·simp [hlt] at g0 ⊢
       exact g0
      ·simp [Array.getElem?_eq_none (Nat.le_of_not_lt hlt)] at g0
     have hno:∀e ∈ oj.after,Region.binds md e=true→e.on≠i:=by
      intro x hx hb hxi;have g1:=hall x hx hb;rw [hxi,hli] at g1;cases g1
     have hd:dirty T ((listed.setIfInBounds i true).setIfInBounds j true)=false:=dirty_false.2 fun k hk=>by
      have hki:i≠k:=fun e=>by rw [e,hk] at hTi;cases hTi
      by_cases ekj:j=k
      ·subst ekj
       have g1:=reach_spec hcl 3 j oj hoj hall (hwt j oj hoj hk);rw [hli] at g1;cases g1
      ·rw [getD_set_ne false ekj,getD_set_ne false hki]
       cases hlk:listed.getD k false with
       | false=>rfl
       | true =>
         have hlt:k<ops.size:=by
          rcases Nat.lt_or_ge k listed.size with h | h
          ·omega
          ·simp [Array.getElem?_eq_none h] at hlk
         have hok:ops[k]? = some ops[k]:=Array.getElem?_eq_getElem hlt;have g1:=reach_spec hcl 3 k _ hok (hcl k _ hok hlk) (hwt k _ hok hk);rw [hli] at g1;cases g1
     exact zz10
 exact main fuel listed a w (Region.free_spec hi hf) hcl0 hz (by simpa using hr) hT hS h
theorem dirty_set {listed:Array Bool} {i:Nat} (hTi:T i=false):dirty T (listed.setIfInBounds i true)=false↔dirty T listed=false:=by
 rw [dirty_false,dirty_false];refine forall_congr' fun k=>imp_congr_right fun hk=>?_
 have hki:i≠k:=fun e=>by rw [e,hk] at hTi;cases hTi
 rw [getD_set_ne false hki]
theorem wpAnyT_takeW {i:Nat} {oi:Oper} {v:Value} {fuel:Nat} {listed:Array Bool} {a:Act} {w:World} (hi:ops[i]? = some oi)
 (hs:Region.noSelect ops=true) (hf:Region.free md ops listed i=true) (hr:(Region.ready md ops listed).contains i=true) (hTi:T i=false)
 (hQ:∀c a w,Q (.panic c) (a.put oi.dst v) w→Q (.panic c) a w) (hT:Takes P ops Q (fun _=>True) i oi v a) (hI:dirty T listed=true∨S w)
 (h:wpAnyT P md ops Q S T fuel (listed.setIfInBounds i true) (a.put oi.dst v) w):wpAnyT P md ops Q S T (fuel+1) listed a w:=by
 have hsel:=Region.noSelect_spec hs;have main:∀(fuel:Nat) (listed:Array Bool) (a:Act) (w:World),
  (∀j oj,ops[j]? = some oj→j≠i→listed.getD j true=false→(∀e ∈ oj.after,Region.binds md e=true→e.on≠i)→oi.apart ops oj=true) →
  i ∈ Region.ready md ops listed→Takes P ops Q (fun _=>True) i oi v a→(dirty T listed=false→S w) →
  wpAnyT P md ops Q S T fuel (listed.setIfInBounds i true) (a.put oi.dst v) w→wpAnyT P md ops Q S T (fuel+1) listed a w:=by
  intro fuel;induction fuel with
  | zero =>
    intro listed a w _ hr hT hI H;refine ⟨fun h0=>(by rw [h0] at hr;cases hr),fun j hj=>?_⟩
    by_cases e:j=i
    ·subst e
     exact hT a rfl rfl _ w trivial ⟨fun h0=>hI ((dirty_set hTi).1 h0),H⟩
    ·have h1:=ready_mono hj e
     rw [H.1] at h1;cases h1
  | succ fuel ih =>
    intro listed a w hfree hr hT hI H;refine ⟨fun h0=>(by rw [h0] at hr;cases hr),fun j hj=>?_⟩
    by_cases e:j=i
    ·subst e
     exact hT a rfl rfl _ w trivial ⟨fun h0=>hI ((dirty_set hTi).1 h0),H⟩
    ·have h1:=H.2 j (ready_mono hj e)
     obtain ⟨hun,oj,hoj,hall⟩:=mem_ready.1 hj;have hno:∀e ∈ oj.after,Region.binds md e=true→e.on≠i:=by
      exact zz35
     have hdj:dirty T ((listed.setIfInBounds i true).setIfInBounds j true)=false↔dirty T (listed.setIfInBounds j true)=false:=by
      rw [Array.setIfInBounds_comm _ _ (Ne.symm e)];exact dirty_set hTi
     have h2:=wpOp_swap hoj (hfree j oj hoj e hun hno) (fun cs b=>hsel i oi cs b hi) (fun cs b=>hsel j oj cs b hoj) hQ hT h1;refine wpOp_mono (fun a' w' h3=>⟨fun h0=>h3.2.1 (hdj.2 h0),ih _ a' w' (fun k ok hk hki hu2 hn2=>?_) (ready_mono hr (Ne.symm e)) h3.1 (fun h0=>h3.2.1 (hdj.2 h0)) ?_⟩) h2
     ·exact zz40
     ·rw [Array.setIfInBounds_comm _ _ e]
      exact h3.2.2
 exact main fuel listed a w (Region.free_spec hi hf) (by simpa using hr) hT (fun h0=>hI.resolve_left (by rw [h0];decide)) h
theorem takes_yield {i:Nat} {o:Oper} {v:Value} {a:Act} (hi:ops[i]? = some o) (hy:YieldsIf P ops S o v a):Takes P ops Q S i o v a:=by
 intro a' he hw K w hS hK;exact (hy.of_same he hw).wpOp hi hS hK
theorem wpAnyT_one {i:Nat} {o:Oper} {fuel:Nat} {listed:Array Bool} {a:Act} {w:World} (hr:Region.ready md ops listed=[i]) (ho:ops[i]? = some o)
 (h:∀K':Act→World→Prop,Shut (∀a w,S w→wpAnyT P md ops Q S T fuel (listed.setIfInBounds i true) a w→K' a w)→if Region.wanted o (yielded ops a.tmps)=true then Oper.wp P o a w K' Q else K' (a.put o.dst undef) w) :
 wpAnyT P md ops Q S T (fuel+1) listed a w:=by
 refine ⟨fun h0=>(by rw [hr] at h0;cases h0),fun j hj=>?_⟩
 rw [hr] at hj;obtain rfl:j=i:=by simpa using hj
 exact wpOp_step ho (fun K' hK=>h K' (fun a w hS hW=>hK a w ⟨fun _=>hS,hW⟩))
theorem wpAnyT_oneT {i:Nat} {o:Oper} {fuel:Nat} {listed:Array Bool} {a:Act} {w:World} (hr:Region.ready md ops listed=[i]) (ho:ops[i]? = some o) (hd:dirty T (listed.setIfInBounds i true)=true)
 (h:∀K':Act→World→Prop,Shut (∀a w,wpAnyT P md ops Q S T fuel (listed.setIfInBounds i true) a w→K' a w)→if Region.wanted o (yielded ops a.tmps)=true then Oper.wp P o a w K' Q else K' (a.put o.dst undef) w) :
 wpAnyT P md ops Q S T (fuel+1) listed a w:=by
 refine ⟨fun h0=>(by rw [hr] at h0;cases h0),fun j hj=>?_⟩
 rw [hr] at hj;obtain rfl:j=i:=by simpa using hj
 exact wpOp_step ho (fun K' hK=>h K' (fun a w hW=>hK a w ⟨fun h0=>(by rw [hd] at h0;cases h0),hW⟩))
theorem wpAnyT_done {listed:Array Bool} {a:Act} {w:World} (hr:Region.ready md ops listed=[]) (h:Q .normal a w):∀fuel,wpAnyT P md ops Q S T fuel listed a w
 | 0=>⟨hr,h⟩
 | _+1=>⟨fun _=>h,by rw [hr];simp⟩
end
theorem tkS:(∀(T:Array Value) (D:List Deferred) (t:Nat) (v:Value),Act.put ⟨T,D⟩ (some t) v=⟨T.setIfInBounds t v,D⟩)∧(∀(a:Act) (v:Value),Act.put a none v=a) ∧
 (∀(l:List Oper) (i:Nat) (h:i<l.toArray.size),l.toArray[i]'h=l[i]'(by simpa using h))∧(∀(a:Oper) (l:List Oper) (h:0<(a::l).length),(a::l)[0]'h=a)∧(∀(a:Oper) (l:List Oper) (i:Nat) (h:i+1<(a::l).length),(a::l)[i+1]'h=l[i]'(by simpa using h)) ∧
 (∀(l:List Bool) (i:Nat) (v:Bool),l.toArray.setIfInBounds i v=(l.set i v).toArray)∧(∀(l:List Value) (i:Nat) (v:Value),l.toArray.setIfInBounds i v=(l.set i v).toArray) ∧
 (∀(a v:Bool) (l:List Bool),(a::l).set 0 v=v::l)∧(∀(a v:Value) (l:List Value),(a::l).set 0 v=v::l)∧(∀(a v:Bool) (l:List Bool) (i:Nat),(a::l).set (i+1) v=a::l.set i v)∧(∀(a v:Value) (l:List Value) (i:Nat),(a::l).set (i+1) v=a::l.set i v):=by
 refine ⟨fun _ _ _ _=>rfl,fun _ _=>rfl,fun _ _ _=>rfl,fun _ _ _=>rfl,fun _ _ _ _=>rfl,fun _ _ _=>by simp,fun _ _ _=>by simp,fun _ _ _=>rfl,fun _ _ _=>rfl,fun _ _ _ _=>rfl,fun _ _ _ _=>rfl⟩
section
variable {P:Program} {ops:Array Oper} {Q:Exit→Act→World→Prop} {md:Region.Mode} {S:World→Prop} {T:Nat→Bool}
theorem tk (i:Nat) {oi:Oper} {v:Value} {fuel:Nat} {listed:Array Bool} {a:Act} {w:World} (h:wpAnyT P md ops Q S T fuel (listed.setIfInBounds i true) (a.put oi.dst v) w)
 (hi:ops[i]? = some oi:=by rfl) (hv:∀w',S w'→(execOp a.eval oi).run P w'=.ok (.value v) w':=by intro w' hSw;go_split_ands;first | (go_simp;done) | (go_simp;rfl) | rfl) (hS:S w:=by assumption) (hwt:Region.wanted oi (yielded ops a.tmps)=true:=by rfl)
 (hc:(Region.noSelect ops && Region.free md ops listed i && (Region.ready md ops listed).contains i && awaits md ops T listed i && ops.size == listed.size)=true:=by kernel_rfl) (hQ:∀c a w,Q (.panic c) (a.put oi.dst v) w→Q (.panic c) a w:=by exact fun _ _ _ h=>h):wpAnyT P md ops Q S T (fuel+1) listed a w:=by
 simp only [Bool.and_eq_true,beq_iff_eq] at hc;exact wpAnyT_take hi hc.1.1.1.1 hc.1.1.1.2 hc.1.1.2 hc.1.2 hQ (takes_yield hi (Or.inl ⟨hwt,hv⟩)) hS hc.2 h
end
def shaRow (h:List Int) (rest:Value) (n:Nat):Array Value:=((h++hashK).map (Value.int .u32)++[rest,.int .i64 (n:Int),.bool true]).toArray
theorem built_sha:Tryz.prog.built 382 [(0,.agg (arrU hash0)),(1,.agg (arrU hashK)),(4,.bool true)]=some (shaRow hash0 (.slice none 0 0) 0):=kR
theorem begin_c (w:World):Calls Tryz.prog 289 #[] w fun e w'=>e=.returned (.agg (arrU hash0))∧Upd (fun _=>False) w w':=by
 go_enter Tryz.func289,Tryz.ntmps289
 go_wp2_with fail
 refine bodyPost_ret (results_cell_row rfl _ _ w.heap.size _ _ _ _ rfl (Blk.new w _ _) Tryz.underlying377 rfl rfl) rfl ⟨rfl,(Upd.refl _ w).alloc _⟩
theorem numbers_c (w:World):Calls Tryz.prog 290 #[] w fun e w'=>e=.returned (.agg (arrU hashK))∧Upd (fun _=>False) w w':=by
 go_enter Tryz.func290,Tryz.ntmps290
 go_wp2_with (first
  | (show wpList _ _ _ (⟨_,Op.build _ _,_,_,_,_⟩::_) _ _
     refine wpList_build rfl _ _ rfl kR ?_;rw [show ((Program.built _ _ _).getD #[])=arrU hashK from by kernel_rfl])
  | (show wpList _ _ _ (⟨none,_,_,_,_,_⟩::_) _ _
     refine wpList_store_all rfl 379 _ _ rfl w.heap.size (arrU hashK) rfl rfl 379 _ (Blk.new w _ _) rfl (arrU_one _) kR ?_;intro w4 hB4 hU4 hz4))
 refine bodyPost_ret (results_cell_row rfl _ _ w.heap.size _ _ _ _ rfl hB4 Tryz.underlying379 rfl rfl) rfl ⟨rfl,((Upd.refl _ w).alloc _).then hU4 (fun q hq=>.inr oM)⟩
structure ShaS (w0 w:World) (x:Nat) (h:List Int) (rest:Value) (n:Nat):Prop where
 blk:Blk w x 382 (shaRow h rest n)
 len:h.length=8
 all:AllU h
 new:w0.heap.size≤x
 upd:Upd (fun _=>False) w0 w
theorem shaRow_len {h:List Int} (h8:h.length=8):((h++hashK).map (Value.int .u32)).length=72:=by rw [List.length_map,List.length_append,h8,hashK_ok.1]
theorem shaRow_72 {h:List Int} (h8:h.length=8) (rest:Value) (n:Nat):(shaRow h rest n)[72]? = some rest∧(shaRow h rest n)[73]? = some (.int .i64 (n:Int))∧(shaRow h rest n)[74]? = some (.bool true):=by
 have hl:=shaRow_len h8;unfold shaRow;refine ⟨?_,?_,?_⟩<;>rw [List.getElem?_toArray,List.getElem?_append_right oM,hl]<;>rfl
theorem shaRow_k {h:List Int} (h8:h.length=8) (rest:Value) (n:Nat) (j:Nat) (hj:j<64):(shaRow h rest n)[8+j]? = some (.int .u32 (hashK.getD j 0)):=by
 have hl:=shaRow_len h8;have hk:j<hashK.length:=by rw [hashK_ok.1];exact hj
 unfold shaRow;rw [List.getElem?_toArray,List.getElem?_append_left oM,List.getElem?_map,List.getElem?_append_right oM,h8,Nat.add_sub_cancel_left,List.getElem?_eq_getElem hk,List.getD_eq_getElem?_getD,List.getElem?_eq_getElem hk];rfl
theorem shaRow_set72 {h:List Int} (h8:h.length=8) (rest r:Value) (n:Nat):(shaRow h rest n).setIfInBounds 72 r=shaRow h r n:=by
 have hl:=shaRow_len h8;unfold shaRow;rw [List.setIfInBounds_toArray,List.set_append_right _ _ oM,hl];rfl
theorem shaRow_set73 {h:List Int} (h8:h.length=8) (rest:Value) (n m:Nat):(shaRow h rest n).setIfInBounds 73 (.int .i64 (m:Int))=shaRow h rest m:=by
 have hl:=shaRow_len h8;unfold shaRow;rw [List.setIfInBounds_toArray,List.set_append_right _ _ oM,hl];rfl
theorem shaRow_put {h h':List Int} (h8:h.length=8) (h8':h'.length=8) (rest:Value) (n:Nat):(shaRow h rest n).toList.take 0++(arrU h').toList++(shaRow h rest n).toList.drop (0+(arrU h').size)=(shaRow h' rest n).toList:=by
 unfold shaRow;rw [List.take_zero,List.nil_append,Nat.zero_add,arrU_size,h8'];simp only [arrU];rw [List.map_append,List.map_append,List.append_assoc,List.drop_left' (by rw [List.length_map,h8]),List.append_assoc]
section
variable {w0 w:World} {x:Nat} {h:List Int} {rest:Value} {n:Nat}
theorem ShaS.k_ (s:ShaS w0 w x h rest n) (i:Nat) (hi:i<64):w.cell? ⟨x,8+i,none⟩=some (.int .u32 (hashK.getD i 0)):=(s.blk.cell (8+i)).trans (shaRow_k s.len rest n i hi)
theorem ShaS.c8 {a0 a1 a2 a3 a4 a5 a6 a7:Int} (s:ShaS w0 w x [a0,a1,a2,a3,a4,a5,a6,a7] rest n):w.cell? ⟨x,0,none⟩=some (.int .u32 a0)∧w.cell? ⟨x,1,none⟩=some (.int .u32 a1)∧w.cell? ⟨x,2,none⟩=some (.int .u32 a2)∧w.cell? ⟨x,3,none⟩=some (.int .u32 a3)∧w.cell? ⟨x,4,none⟩=some (.int .u32 a4)∧w.cell? ⟨x,5,none⟩=some (.int .u32 a5)∧w.cell? ⟨x,6,none⟩=some (.int .u32 a6)∧w.cell? ⟨x,7,none⟩=some (.int .u32 a7):=by
 refine ⟨?_,?_,?_,?_,?_,?_,?_,?_⟩<;>(rw [s.blk.cell];unfold shaRow;rw [List.getElem?_toArray];rfl)
theorem ShaS.c72 (s:ShaS w0 w x h rest n):w.cell? ⟨x,72,none⟩=some rest∧w.cell? ⟨x,73,none⟩=some (.int .i64 (n:Int))∧w.cell? ⟨x,74,none⟩=some (.bool true):=by
 obtain ⟨a,b,c⟩:=shaRow_72 s.len rest n;exact ⟨(s.blk.cell 72).trans a,(s.blk.cell 73).trans b,(s.blk.cell 74).trans c⟩
theorem ShaS.still (s:ShaS w0 w x h rest n) {w':World} (hu:Upd (fun _=>False) w w'):ShaS w0 w' x h rest n :=
 ⟨s.blk.upd hu (fun e=>e),s.len,s.all,s.new,s.upd.then hu wz0⟩
theorem ShaS.rest_ (s:ShaS w0 w x h rest n) (r:Value):ShaS w0 (w.setCell ⟨x,72,none⟩ r) x h r n:=by
 refine ⟨?_,s.len,s.all,s.new,s.upd.setCell (.inr s.new) _⟩;have:=s.blk.set_ 72 r;rw [shaRow_set72 s.len] at this;exact this
theorem ShaS.n_ (s:ShaS w0 w x h rest n) (m:Nat):ShaS w0 (w.setCell ⟨x,73,none⟩ (.int .i64 (m:Int))) x h rest m:=by
 refine ⟨?_,s.len,s.all,s.new,s.upd.setCell (.inr s.new) _⟩;have:=s.blk.set_ 73 (.int .i64 (m:Int));rw [shaRow_set73 s.len] at this;exact this
theorem ShaS.h_ (s:ShaS w0 w x h rest n) {h':List Int} (h8:h'.length=8) (hh:AllU h') {w':World} (hb:Blk w' x 382 (shaRow h' rest n)) (hu:Upd (· = x) w w'):ShaS w0 w' x h' rest n :=
 ⟨hb,h8,hh,s.new,s.upd.then hu (fun q hq=>.inr (oN s.new))⟩
theorem shanone_c (s:ShaS w0 w x h rest n):Calls Tryz.prog 291 #[.pointer (some ⟨x,0,none⟩)] w fun e w'=>e=.returned (.bool false)∧w=w':=by
 obtain ⟨-,-,hc⟩:=s.c72;clear s;go_enter Tryz.func291,Tryz.ntmps291
 go_wp2_with fail
 go_ret
 exact ⟨rfl,rfl⟩
end
theorem shanew_c (w:World):Calls Tryz.prog 275 #[] w fun e w'=>∃x,e=.returned (.pointer (some ⟨x,0,none⟩))∧ShaS w w' x hash0 (.slice none 0 0) 0:=by
 go_enter Tryz.func275,Tryz.ntmps275
 go_wp2_with fail
 refine (begin_c _).mono ?_;rintro e w1 ⟨rfl,hU1⟩;have H1:=Lib.hid hU1;clear hU1;go_wp2_with fail
 refine (numbers_c _).mono ?_;rintro e w2 ⟨rfl,hU2⟩;have H2:=Lib.hid hU2;clear hU2;go_wp2_with (first
  | (show wpList _ _ _ (⟨_,Op.build _ _,_,_,_,_⟩::_) _ _
     refine wpList_build_is rfl _ _ rfl [(0,.agg (arrU hash0)),(1,.agg (arrU hashK)),(4,.bool true)] _ rfl built_sha ?_))
 go_ret
 have hu:=H1.out.then H2.out wz0;exact ⟨_,rfl,Blk.new w2 _ _,hash0_ok.1,hash0_ok.2,hu.size,hu.alloc _⟩
theorem BytesAt.upd {w w':World} {v:Value} {l:List UInt8} {F:Nat→Prop} (h:BytesAt w v l) (hu:Upd F w w') (hF:∀k,v.ownBlock=some k→¬F k):BytesAt w' v l:=by
 obtain ⟨A,cap,rfl,h1,h2,h3⟩:=h;refine ⟨A,cap,rfl,h1,h2,fun hl=>?_⟩;obtain ⟨b,off,rfl,hb,hc⟩:=h3 hl;exact ⟨b,off,rfl,Nat.lt_of_lt_of_le hb hu.size,fun i hi=>(cell_upd hu hb (hF b rfl) _).trans (hc i hi)⟩
theorem BytesAt.far {w:World} {v:Value} {l:List UInt8} (h:BytesAt w v l) {p:Addr} (hp:v.ownBlock≠some p.block) (u:Value):BytesAt (w.setCell p u) v l :=
 h.upd ((Upd.refl (· = p.block) w).setCell (.inl rfl) u) (fun k hk e=>hp (by rw [hk,e]))
theorem BytesAt.of_own {w:World} {v:Value} {l:List UInt8} {n:Nat} (h:Own w 5 1 v n (bytesV l)):BytesAt w v l:=by
 have hn:l.length=n:=by have:=h.len;simp [bytesV] at this;omega
 subst hn;obtain ⟨A,cap,rfl,h1,h2⟩:=h.shape;refine ⟨A,cap,rfl,h1,h2,fun hl=>?_⟩;obtain ⟨g,cap',e,_,_⟩:=h.head hl;injection e with e1 e2 e3;subst e1;refine ⟨g,0,rfl,h.lt rfl,fun i hi=>?_⟩;rw [Nat.zero_add,h.cellAt i oM];simp [bytesV,hi]
theorem BytesAt.drop {w:World} {b off n cap k:Nat} {l:List UInt8} (h:BytesAt w (.slice (some ⟨b,off,none⟩) n cap) l) (hk:k<n):BytesAt w (.slice (some ⟨b,off+k,none⟩) (n - k) (cap - k)) (l.drop k):=by
 obtain ⟨A,c2,e,h1,h2,h3⟩:=h;injection e with e1 e2 e3;subst e1 e2 e3;refine ⟨_,_,by rw [List.length_drop],by rw [List.length_drop];omega,oM,fun hl=>?_⟩;obtain ⟨b',off',e,hb,hc⟩:=h3 oM;injection e with e;injection e with e1 e2;subst e1 e2;refine ⟨b,off+k,rfl,hb,fun i hi=>?_⟩;rw [List.length_drop] at hi;rw [Nat.add_assoc,hc (k+i) oM];simp [List.getD_eq_getElem?_getD]
theorem BytesAt.none {w:World} (A:Option Addr) (cap:Nat) (hc:cap≤maxLen):BytesAt w (.slice A 0 cap) []:=⟨A,cap,rfl,Nat.zero_le _,hc,fun h=>absurd h sM⟩
def restLen (w:World) (x:Nat):Nat:=match w.cell? ⟨x,72,none⟩ with | some (.slice _ n _)=>n | _=>0
theorem zz20 {P:Prop} (h:P:=by
 rw [List.drop_of_length_le (by rw [HBY.out.1];omega)];exact BytesAt.none _ _ (by unfold maxLen;omega)):P:=h
theorem shawrite_c {w0 w:World} {x:Nat} (s:ShaS w0 w x hash0 (.slice none 0 0) 0) (t:ByteArray) (ht:t.size≤1000000) :
 Calls Tryz.prog 276 #[.pointer (some ⟨x,0,none⟩),.string t] w fun e w'=>∃r,e=.returned (.int .i64 (t.size:Int))∧ShaS w0 w' x (hashN (t.size / 64) hash0 t.data.toList) r t.size∧BytesAt w' r (t.data.toList.drop (64*(t.size / 64))):=by
 obtain ⟨i0,hi0,hz0,hz1,hz2⟩:=info_parts infoU8;have HS:=Lib.hid s;have H0:=Lib.hid (shanone_c s);obtain ⟨c72,c73,-⟩:=s.c72;have f72:=s.blk.frozen 72;have f73:=s.blk.frozen 73;clear s;go_enter Tryz.func276,Tryz.ntmps276
 go_wp2_with fail
 refine H0.out.mono ?_;rintro e w' ⟨rfl,rfl⟩
 go_wp2_with (at_builtin
              refine wpList_append_src rfl _ _ _ _ rfl 5 i0 _ 1 1 Tryz.underlying89 hi0 hz0 hz1 hz2 rfl (.slice none 0 0) 0 [] rfl (Own.nil _ _ _) _ t.size (bytesV t.data.toList) rfl (Src.of_string Tryz.underlying9 t) (bytesV_one _) (by unfold maxLen;omega) oM ?_;intro v2 w2 ho2 hU2 hl2 hs2;rw [Nat.zero_add,List.nil_append] at ho2;obtain ⟨A2,cap2,rfl,hA1,hA2⟩:=ho2.shape;have hS2:=(HS.out.n_ t.size).still (hU2.mono (fun b hb=>by simp [Value.ownBlock] at hb));have HS2:=h2k hS2 ho2;have c72:=hS2.c72.1;have f72:=hS2.blk.frozen 72;clear hS2 ho2 hU2 hl2 hs2)
 go_loopw [] (fun wr=>∃(j:Nat) (A:Option Addr) (cap:Nat),64*j≤t.size∧ShaS w0 wr x (hashN j hash0 t.data.toList) (.slice A (t.size - 64*j) cap) t.size∧BytesAt wr (.slice A (t.size - 64*j) cap) (t.data.toList.drop (64*j))∧(Value.slice A (t.size - 64*j) cap).ownBlock≠some x) (fun wr=>restLen wr x)
 case atStart =>
  have hne:=HS2.out.2.ne_blk HS2.out.1.blk dC;refine ⟨0,A2,cap2,oM,HS2.out.1.rest_ _,(BytesAt.of_own HS2.out.2).far hne _,hne⟩
 case round =>
  obtain ⟨j,A,cap,hj,hS,hB,hne⟩:=hrel;have HX:=h3k hS hB hne;obtain ⟨c72,c73,-⟩:=hS.c72;have f72:=hS.blk.frozen 72;clear HS2 HS H0 hA1 hA2;by_cases hlt:64≤t.size - 64*j
  ·obtain ⟨A',cap',e,hcap1,hcap2,hby⟩:=hB
   injection e with e1 e2 e3;subst e1 e3;have hl:(t.data.toList.drop (64*j)).length=t.size - 64*j:=by rw [List.length_drop];rfl
   rw [hl] at hcap1;obtain ⟨b,off,rfl,hb,hby⟩:=hby oM;obtain ⟨L,hL⟩:=eqx (t.size - 64*j);have HLj:=h2k hL hj;obtain ⟨h,hh⟩:=eqx (hashN j hash0 t.data.toList);have HH:=Lib.hid hh;rw [hL] at c72 HX hlt hl hS hcap1;rw [hh] at HX hS;obtain ⟨a0,a1,a2,a3,a4,a5,a6,a7,rfl⟩:=eight hS.len;have hSd:=hS.still (Upd.refl (fun _=>False) wr).drew;have HSd:=Lib.hid hSd;obtain ⟨q0,q1,q2,q3,q4,q5,q6,q7⟩:=hS.c8;have HBY:=h2k hl hby;have i1:(64:Int)≤(L:Int):=oM;have i2:(64:Int)≤(cap:Int):=oM;unfold maxLen at hcap2;clear hS hSd hby e2 hl hL hj hh hne;go_wp2_with fail
   clear q0 q1 q2 q3 q4 q5 q6 q7;refine wp_region_noPanic ?_;refine wp_region_T (S:=fun w'=>ShaS w0 w' x [a0,a1,a2,a3,a4,a5,a6,a7] (.slice (some ⟨b,off,none⟩) L cap) t.size) (T:=fun k=>k == 20) kR ?_;have hS0:=HSd.out;refine tk 0 ?_ rfl (by intro w' hSw;have hq1:=hSw.c72.1;have hq2:=hSw.c8;go_split_ands;first | (go_simp;done) | (go_simp;rfl) | rfl)
   simp only [tkS];refine tk 1 ?_ rfl (by intro w' hSw;have hq1:=hSw.c72.1;have hq2:=hSw.c8;go_split_ands;first | (go_simp;done) | (go_simp;rfl) | rfl)
   simp only [tkS];refine tk 2 ?_ rfl (by intro w' hSw;have hq1:=hSw.c72.1;have hq2:=hSw.c8;go_split_ands;first | (go_simp;done) | (go_simp;rfl) | rfl)
   simp only [tkS];refine tk 3 ?_ rfl (by intro w' hSw;have hq1:=hSw.c72.1;have hq2:=hSw.c8;go_split_ands;first | (go_simp;done) | (go_simp;rfl) | rfl)
   simp only [tkS];refine tk 4 ?_ rfl (by intro w' hSw;have hq1:=hSw.c72.1;have hq2:=hSw.c8;go_split_ands;first | (go_simp;done) | (go_simp;rfl) | rfl)
   simp only [tkS];refine tk 5 ?_ rfl (by intro w' hSw;have hq1:=hSw.c72.1;have hq2:=hSw.c8;go_split_ands;first | (go_simp;done) | (go_simp;rfl) | rfl)
   simp only [tkS];refine tk 6 ?_ rfl (by intro w' hSw;have hq1:=hSw.c72.1;have hq2:=hSw.c8;go_split_ands;first | (go_simp;done) | (go_simp;rfl) | rfl)
   simp only [tkS];refine tk 7 ?_ rfl (by intro w' hSw;have hq1:=hSw.c72.1;have hq2:=hSw.c8;go_split_ands;first | (go_simp;done) | (go_simp;rfl) | rfl)
   simp only [tkS];refine tk 8 ?_ rfl (by intro w' hSw;have hq1:=hSw.c72.1;have hq2:=hSw.c8;go_split_ands;first | (go_simp;done) | (go_simp;rfl) | rfl)
   simp only [tkS];refine tk 9 ?_ rfl (by intro w' hSw;have hq1:=hSw.c72.1;have hq2:=hSw.c8;go_split_ands;first | (go_simp;done) | (go_simp;rfl) | rfl)
   simp only [tkS];refine tk 10 ?_ rfl (by intro w' hSw;have hq1:=hSw.c72.1;have hq2:=hSw.c8;go_split_ands;first | (go_simp;done) | (go_simp;rfl) | rfl)
   simp only [tkS];refine tk 11 ?_ rfl (by intro w' hSw;have hq1:=hSw.c72.1;have hq2:=hSw.c8;go_split_ands;first | (go_simp;done) | (go_simp;rfl) | rfl)
   simp only [tkS];refine tk 12 ?_ rfl (by intro w' hSw;have hq1:=hSw.c72.1;have hq2:=hSw.c8;go_split_ands;first | (go_simp;done) | (go_simp;rfl) | rfl)
   simp only [tkS];refine tk 13 ?_ rfl (by intro w' hSw;have hq1:=hSw.c72.1;have hq2:=hSw.c8;go_split_ands;first | (go_simp;done) | (go_simp;rfl) | rfl)
   simp only [tkS];refine tk 14 ?_ rfl (by intro w' hSw;have hq1:=hSw.c72.1;have hq2:=hSw.c8;go_split_ands;first | (go_simp;done) | (go_simp;rfl) | rfl)
   simp only [tkS];refine tk 15 ?_ rfl (by intro w' hSw;have hq1:=hSw.c72.1;have hq2:=hSw.c8;go_split_ands;first | (go_simp;done) | (go_simp;rfl) | rfl)
   simp only [tkS];refine tk 16 ?_ rfl (by intro w' hSw;have hq1:=hSw.c72.1;have hq2:=hSw.c8;go_split_ands;first | (go_simp;done) | (go_simp;rfl) | rfl)
   simp only [tkS];refine wpAnyT_one (i:=17) kR rfl (fun K hK=>?_);go_simp
   refine (turn_c [a0,a1,a2,a3,a4,a5,a6,a7] [a0,a1,a2,a3,a4,a5,a6,a7] hashK ((t.data.toList.drop (64*j)).take 64) x 8 b off cap _ HSd.out.len HSd.out.len hashK_ok.1 HSd.out.all HSd.out.all hashK_ok.2 HSd.out.k_ HSd.out.blk.lt (by rw [List.length_take,HBY.out.1];omega) oM oM hb (fun i hi=>by
    rw [World.cell?_drew,HBY.out.2 i (by rw [HBY.out.1];omega)];simp [List.getD_eq_getElem?_getD,hi])).mono ?_
   rintro e w3 ⟨rfl,hU3⟩;have hS3:=HSd.out.still hU3;refine hK.out _ _ hS3 ?_;clear hK;refine tk 18 ?_ rfl (by intro w' hSw;have hq1:=hSw.c72.1;go_split_ands;first | (go_simp;done) | (go_simp;rfl) | rfl)
   simp only [tkS];refine tk 19 ?_ rfl (by intro w' hSw;have hq1:=hSw.c72.1;go_split_ands;first | (go_simp;done) | (go_simp;rfl) | rfl)
   simp only [tkS];refine wpAnyT_oneT (i:=20) kR rfl kR (fun K hK=>?_);obtain ⟨h',hh'⟩:∃h',turnL [a0,a1,a2,a3,a4,a5,a6,a7] [a0,a1,a2,a3,a4,a5,a6,a7] hashK ((t.data.toList.drop (64*j)).take 64)=h':=⟨_,rfl⟩;have h8':h'.length=8:=by rw [← hh',turnL_len];rfl
   have hall':AllU h':=by rw [← hh'];exact turnL_all HSd.out.all
   rw [hh'];refine step_store_part (by rfl) 377 _ _ (by rfl) x 0 (arrU h') (by rfl) (by rfl) _ _ _ hS3.blk (by rw [arrU_size,h8'];have:=shaRow_len hS3.len;simp [shaRow]) (shaRow_put hS3.len h8' _ _) (arrU_one _) (by rw [arrU_size,h8'];kernel_rfl) ?_
   intro w4 hB4 hU4 hz4;refine hK.out _ _ ?_;have hS4:=hS3.h_ h8' hall' hB4 hU4;have HS4:=h3k hS4 (hU3.trans hU4 (H:=(· = x)) wz0 (fun _ e=>.inl e)) hh';have c72:=hS4.c72.1;have f72:=hS4.blk.frozen 72;clear hK hS3 hS4 hB4 hU4 hz4 hh' h8' hall' hU3 hS0;refine wpAnyT_done kR ?_ _;refine NoPanic.normal ?_;have hfin:∀(A':Option Addr) (cap':Nat),BytesAt w4 (.slice A' (L - 64) cap') ((t.data.toList.drop (64*j)).drop 64)→(Value.slice A' (L - 64) cap').ownBlock≠some x →
    (∃(j:Nat) (A:Option Addr) (cap:Nat),64*j≤t.size∧ShaS w0 (w4.setCell ⟨x,72,none⟩ (.slice A' (L - 64) cap')) x (hashN j hash0 t.data.toList) (.slice A (t.size - 64*j) cap) t.size∧BytesAt (w4.setCell ⟨x,72,none⟩ (.slice A' (L - 64) cap')) (.slice A (t.size - 64*j) cap) (t.data.toList.drop (64*j))∧(Value.slice A (t.size - 64*j) cap).ownBlock≠some x) ∧
    restLen (w4.setCell ⟨x,72,none⟩ (.slice A' (L - 64) cap')) x<restLen wr x:=by
    intro A' cap' h1 h2;have hS5:=HS4.out.1.rest_ (.slice A' (L - 64) cap');have hm1:restLen (w4.setCell ⟨x,72,none⟩ (.slice A' (L - 64) cap')) x=L - 64:=by unfold restLen;rw [hS5.c72.1]
    have hm2:restLen wr x=L:=by unfold restLen;rw [HX.out.1.c72.1]
    refine ⟨⟨j+1,A',cap',by have:=HLj.out.1;omega,?_,?_,?_⟩,oM⟩
    ·rw [hashN_snoc,HH.out,HS4.out.2.2,show t.size - 64*(j+1)=L - 64 by have:=HLj.out.1;omega]
     exact hS5
    ·rw [show t.size - 64*(j+1)=L - 64 by have:=HLj.out.1;omega,show 64*(j+1)=64*j+64 by omega,← List.drop_drop]
     exact h1.far h2 _
    ·rw [show t.size - 64*(j+1)=L - 64 by have:=HLj.out.1;omega]
     exact h2
   have hB4:BytesAt w4 (.slice (some ⟨b,off,none⟩) L cap) (t.data.toList.drop (64*j)):=HX.out.2.1.upd ((Upd.refl (fun _=>False) wr).drew.trans HS4.out.2.1 (H:=(· = x)) wz0 (fun _ e=>.inl e)) (fun k hk e=>HX.out.2.2 (by rw [hk,e]));have HF:=Lib.hid hfin;have HB4:=h2k hB4 HX.out.2.2;clear hfin hB4;by_cases hcapL:cap=64
   ·subst hcapL
    obtain rfl:L=64:=oM;go_wp2_with fail
    refine HF.out _ _ ?_ HB4.out.2;exact zz20
   ·go_wp2_with fail
    refine HF.out _ _ ?_ HB4.out.2;by_cases hL64:L=64
    ·subst hL64
     exact zz20
    ·exact HB4.out.1.drop oM
  ·have hl:=Lib.hid (show t.size / 64=j by omega)
   have hlt':t.size - 64*j<64:=oM;go_wp2_with fail
   go_ret
   rw [hl.out];exact ⟨_,rfl,HX.out.1,HX.out.2.1⟩
end
end Go.Proofs.YtbhjgfibhegddaaGreat
