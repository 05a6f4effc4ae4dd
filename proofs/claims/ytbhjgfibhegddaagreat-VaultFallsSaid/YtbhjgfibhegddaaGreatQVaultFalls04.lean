/-
  Parts of the proof of VaultFalls: Sha, TakeT, ZipA, ShaB.
-/
import Derived.Test.YtbhjgfibhegddaaGreatQVaultFalls03
import Derived.BigQuiet
import Derived.Deep.RegionHeld3
import Derived.IntWalk
import Derived.KernelRfl
import Derived.Laws.Bits64b
import Derived.Laws.Closers25b
import Derived.Laws.Tables
import Derived.StillTailTactics
set_option maxRecDepth 100000
set_option maxHeartbeats 16000000
namespace Go.Proofs.YtbhjgfibhegddaaGreat
abbrev CX:=@Go.World.cell?_of_block
abbrev dx:=@Go.World.size_alloc
abbrev X5:=@Int.emod_eq_of_lt
abbrev Mi:=@Go.World.cell?_drew
abbrev af4:=@Go.World.cell?_setCell_other
abbrev Iy:=@Go.mem_ready
abbrev Fh:=@Go.getD_set_ne
abbrev X6:=@Go.Region.noSelect_spec
abbrev AZ:=@Go.ready_mono
abbrev X7:=@Array.setIfInBounds_comm
abbrev X8:=@Go.Region.free_spec
abbrev Iz:=@List.mem_range
abbrev xu:=@Bool.not_true
abbrev IA:=@Bool.or_eq_true
abbrev jV:=@beq_iff_eq
abbrev IB:=@List.getElem?_toArray
abbrev mG:=@List.getElem?_append_right
abbrev rU:=@Nat.add_sub_cancel_left
abbrev jW:=@List.setIfInBounds_toArray
abbrev Mk:=@List.drop_left'
abbrev Ip:=@Nat.add_assoc
abbrev xx:=@Nat.zero_le
abbrev dW:=@Go.wp_region_noPanic
abbrev dz:=@Go.NoPanic.normal
open Tryz
section
open Go Go.RowKit
theorem qx {P:Prop} (h:P:=by rw[cZ _ oM];omega):P:=h
theorem Nf (l:List Int):(eG l).all (·.oneCell')=true:=by simp[eG,Value.oneCell']
theorem η.xR {w:World} {g:Nat} {t:TypeId} {l:List Int} (h:η w g t (eG l)) (i:Nat) (hi:i<l.length):w.cell? ⟨g,i,none⟩=some (.int .u32 (l.getD i 0)):=(h.cell i).trans (ajM l i hi)
def gK (w:World) (v:Value) (l:List UInt8):Prop :=
 ∃A cap,v=.slice A l.length cap∧l.length≤cap∧cap≤maxLen∧(0<l.length→∃b off,A=some ⟨b,off,none⟩∧b<w.heap.size∧∀i,i<l.length→w.cell? ⟨b,off+i,none⟩=some (ϋ ((l.getD i 0).toNat:Int)))
theorem Jk (x k:Int) (r:Nat) (w:World) (h:Ec x) (hr:r<32) (hk:bits .and .u64 (IntKind.u64.wrap k) 31=(r:Int)) :
 ς 304 #[.int .u32 x,ι k] w fun e w'=>e=ώ (.int .u32 (rotl x r))∧w=w':=by
 obtain⟨h0,h1⟩:=h;have hk2:IntKind.u64.wrap (32 - (r:Int))=((32 - r:Nat):Int):=by
  simp only[IntKind.wrap,IntKind.bits,IntKind.signed];simp
  omega
 go_enter func304,ntmps304
 go_wp2_with fail
 go_ret
 exact⟨rfl,rfl⟩
theorem abB (x k:Int) (w:World) (h:Ec x):ς 304 #[.int .u32 x,ι k] w fun e w'=>e=ώ (.int .u32 (rotl x (qC k)))∧w'=w:=by
 have h1:IntKind.u64.wrap k=((IntKind.u64.wrap k).toNat:Int):=by
  rw[IntKind.wrap_u64];omega
 have h2:(IntKind.u64.wrap k).toNat<18446744073709551616:=by
  rw[IntKind.wrap_u64];omega
 refine(Jk x k (qC k) w h (by unfold qC;omega) ?_).mono fun _ _ ⟨a,b⟩=>⟨a,b.symm⟩
 unfold qC;rw[h1];generalize (IntKind.u64.wrap k).toNat=m at *;have:=bits_and_u64_nat m 31 h2 oM;rw[show (31:Int)=((31:Nat):Int) from rfl,this,af3,show (31:Nat)=2 ^ 5 - 1 from rfl,Nat.and_two_pow_sub_one_eq_mod]
theorem qQ {P:Program} {ops:Array Oper} {rest:List Oper} {o:Oper} {a:Act} {w:World} {Q:Exit→Act→World→Prop} (hg:o.guard=none) (t:TypeId) (parts:Array (Nat × Operand)) (ho:o.op=.build t parts)
 (vs:List (Nat × Value)) (cells:Array Value) (hv:(parts.map fun (i,x)=>(i,a.eval x)).toList=vs) (hb:P.built t vs=some cells)
 (h:wpList P ops Q rest (a.put o.dst (.agg cells)) w):wpList P ops Q (o::rest) a w:=by
 refine wpList_build hg t parts ho (by rw[hv,hb];rfl) ?_
 rw[hv,hb];exact h
theorem amF (x0 x1 x2 x3 x4 x5 x6 x7:Int):prog.built 377 [(0,.int .u32 x0),(1,.int .u32 x1),(2,.int .u32 x2),(3,.int .u32 x3),(4,.int .u32 x4),(5,.int .u32 x5),(6,.int .u32 x6),(7,.int .u32 x7)]=some (eG [x0,x1,x2,x3,x4,x5,x6,x7]):=kR
structure mM (w wr:World) (n:Nat) (h b r wl:List Int):Prop where
 bh:η wr n 377 (eG h)
 bb:η wr (n+1) 377 (eG b)
 br:η wr (n+1+1) 377 (eG r)
 bw:η wr (n+1+1+1) 379 (eG wl)
 ε:υ w wr
 new:w.heap.size≤n
theorem mM.adg {w wr:World} {n:Nat} {h b r wl:List Int} (t:mM w wr n h b r wl) (i:Nat) (z:Int):mM w (wr.setCell ⟨n+1+1+1,i,none⟩ (.int .u32 z)) n h b r (wl.set i z) :=
 ⟨t.bh.b9 iy _,t.bb.b9 sM _,t.br.b9 sM _,by rw[← aam];exact t.bw.bE i _,t.ε.setCell (.inr (by have:=t.new;simp;omega)) _,t.new⟩
theorem mM.anZ {w wr:World} {n:Nat} {h b r wl:List Int} (t:mM w wr n h b r wl) (i:Nat) (z:Int):mM w (wr.setCell ⟨n,i,none⟩ (.int .u32 z)) n (h.set i z) b r wl :=
 ⟨by rw[← aam];exact t.bh.bE i _,t.bb.b9 sM _,t.br.b9 iy _,t.bw.b9 iy _,t.ε.setCell (.inr t.new) _,t.new⟩
theorem mM.an0 {w wr w2:World} {n:Nat} {h b r wl b2:List Int} (t:mM w wr n h b r wl) (hb:η w2 (n+1) 377 (eG b2)) (hu:ζ (· = n+1) wr w2):mM w w2 n h b2 r wl :=
 ⟨t.bh.ε hu oM,hb,t.br.ε hu oM,t.bw.ε hu oM,t.ε.then hu (fun q hq=>.inr (oN t.new)),t.new⟩
theorem mM.b8 {w wr:World} {n:Nat} {h r wl:List Int} {b0 b1 b2 b3 b4 b5 b6 b7:Int} (t:mM w wr n h [b0,b1,b2,b3,b4,b5,b6,b7] r wl) :
 wr.cell? ⟨n+1,0,none⟩=some (.int .u32 b0)∧wr.cell? ⟨n+1,1,none⟩=some (.int .u32 b1)∧wr.cell? ⟨n+1,2,none⟩=some (.int .u32 b2)∧wr.cell? ⟨n+1,3,none⟩=some (.int .u32 b3) ∧
 wr.cell? ⟨n+1,4,none⟩=some (.int .u32 b4)∧wr.cell? ⟨n+1,5,none⟩=some (.int .u32 b5)∧wr.cell? ⟨n+1,6,none⟩=some (.int .u32 b6)∧wr.cell? ⟨n+1,7,none⟩=some (.int .u32 b7) :=
 ⟨t.bb.cell 0,t.bb.cell 1,t.bb.cell 2,t.bb.cell 3,t.bb.cell 4,t.bb.cell 5,t.bb.cell 6,t.bb.cell 7⟩
theorem mM.drew {w wr:World} {n:Nat} {h b r wl:List Int} (t:mM w wr n h b r wl):mM w wr.drew n h b r wl:=⟨t.bh,t.bb,t.br,t.bw,t.ε.drew,t.new⟩
theorem mM.drewN {w wr:World} {n:Nat} {h b r wl:List Int} (t:mM w wr n h b r wl) (k:Nat):mM w (wr.drewN k) n h b r wl:=⟨t.bh,t.bb,t.br,t.bw,t.ε.drewN k,t.new⟩
theorem Ng {w w':World} {F:Nat→Prop} (hu:ζ F w w') {b:Nat} (hb:b<w.heap.size) (hn:¬F b) (o:Nat):w'.cell? ⟨b,o,none⟩=w.cell? ⟨b,o,none⟩:=CX (w:=w) (a:=⟨b,o,none⟩) (hu.block b hb hn)
theorem Ss (w:World) (b off n cap:Nat) (l:List UInt8) (hl:l.length=n) (hc:∀i,i<n→w.cell? ⟨b,off+i,none⟩=some (ϋ ((l.getD i 0).toNat:Int))) :
 (convert 89 9 (.slice (some ⟨b,off,none⟩) n cap)).run prog w=.ok (.string (str l)) w:=by
 rw[← Yq];refine run_convert_bytes_arg w _ _ underlying89 underlying5 b off n cap _ (by simpa using hl) (fun i hi=>?_) _ underlying9;rw[hc i hi];simp[show i<l.length by omega]
theorem abC (hv bv K:List Int) (l:List UInt8) (kb ko b off cap:Nat) (w:World) (h8:hv.length=8) (b8:bv.length=8) (k64:K.length=64) (hH:kB hv) (hB:kB bv) (hK:kB K)
 (hk:∀i,i<64→w.cell? ⟨kb,ko+i,none⟩=some (.int .u32 (K.getD i 0))) (hkb:kb<w.heap.size) (hl:l.length=64) (hc:64≤cap) (hcm:cap≤9223372036854775807) (hb:b<w.heap.size)
 (hs:∀i,i<64→w.cell? ⟨b,off+i,none⟩=some (ϋ ((l.getD i 0).toNat:Int))) :
 ς 292 #[.agg (eG hv),.agg (eG bv),.pointer (some ⟨kb,ko,none⟩),.slice (some ⟨b,off,none⟩) 64 cap] w fun e w'=>e=ώ (.agg (eG (zw hv bv K l)))∧υ w w':=by
 have HK:=δ hk;have HS:=δ hs;have HL:=δ hl;have H8:=aq h8 b8 k64;have HA:=aq hH hB hK;clear hk hs hl h8 b8 k64 hH hB hK;go_enter func292,ntmps292
 go_wp2_with fail
 obtain⟨n,hn⟩:=μ w.heap.size;have HN:=δ hn;have Pk:b<n:=oM;have hkn:kb<n:=oM;clear hb hkb;rw[hn];clear hn;go_loopw [10,22] (fun _ i wr=>∃k:Nat,k≤16∧i=ι (k:Int)∧mM w wr n hv bv (List.replicate 8 0) (uG l k)) (fun _ i _=>16 - (intOf i).toNat)
 case atStart =>
  have e:=HN.out;refine⟨0,oM,rfl,?_⟩;subst e;refine⟨(((η.new w _ _).alloc _).alloc _).alloc _,?_,?_,?_,((((ζ.refl _ w).alloc _).alloc _).alloc _).alloc _,bO _⟩
  ·have h:=((η.new (w.alloc (.cells (eG hv) 377)) 377 (eG bv)).alloc (.cells (eG (List.replicate 8 0)) 377)).alloc (.cells (eG (uG l 0)) 379)
   rw[dx] at h;exact h
  ·have h:=(η.new ((w.alloc (.cells (eG hv) 377)).alloc (.cells (eG bv) 377)) 377 (eG (List.replicate 8 0))).alloc (.cells (eG (uG l 0)) 379)
   rw[dx,dx] at h;exact h
  ·have h:=η.new (((w.alloc (.cells (eG hv) 377)).alloc (.cells (eG bv) 377)).alloc (.cells (eG (List.replicate 8 0)) 377)) 379 (eG (uG l 0))
   rw[dx,dx,dx] at h;exact h
 case round =>
  obtain⟨k,hk,rfl,hT⟩:=hrel;by_cases hlt:k<16
  ·
   --#a {
   have HT:=δ hT;have hcv:=Ss wr b (off+4*k) 4 (cap - 4*k) ((l.drop (4*k)).take 4) (by have:=HL.out;simp;omega) (fun i hi=>by
    rw[Ng hT.ε (oN HN.out) id,show off+4*k+i=off+(4*k+i) by omega,HS.out (4*k+i) oM];have:=HL.out;simp[List.getD_eq_getElem?_getD,hi])
   have B8:=hT.bw.xR k (by rw[aa3];omega);have hfw:=hT.bw.frozen k;clear hT;go_wp2_with fail
   refine(ajP (str ((l.drop (4*k)).take 4)) 4 _ oM (by have:=HL.out;rw[bR];simp;omega)).mono ?_;rintro e w' ⟨rfl,rfl⟩;rw[cA,List.take_take,Nat.min_self];go_wp2_with fail
   go_roundw
   case rel =>
    refine⟨k+1,oM,by go_num,?_⟩;have e:(uF (List.take 4 (List.drop (4*k) l)):Int) % 4294967296=FR l k:=X5 (Tc l k).1 (Tc l k).2;rw[e,RY];exact HT.out.adg k _
   case measure=>simp[intOf]<;>omega
   --#a }
  ·obtain rfl : k=16:=oM
   have e16:((16:Nat):Int)=16:=rfl;rw[e16];clear e16;have yx:=τ (alz l 16) (aa3 l 16);have HT:=δ hT;obtain⟨W0,jd⟩:=μ (uG l 16);rw[jd] at HT yx;have HW0:=δ jd;clear jd hT hk hlt;go_wp2_with fail
   go_loopw [11,12,13,14,15] (fun i _ _ _ _ wr=>∃k:Nat,k≤64∧16≤k∧i=ι (k:Int)∧mM w wr n hv bv (List.replicate 8 0) (uH W0 (k - 16))) (fun i _ _ _ _ _=>64 - (intOf i).toNat)
   case atStart=>exact⟨16,oM,oM,rfl,HT.out⟩
   case round =>
    clear HT;obtain⟨k,hk,hk2,rfl,hT⟩:=hrel;have HT:=δ hT;by_cases hlt:k<64
    ·
     --#b {
     have pg:=Sr W0 (k - 16);have fW:=aa4 yx.out.1 (k - 16);have h64:=yx.out.2;obtain⟨L,hL⟩:=μ (uH W0 (k - 16));have GL:=δ hL;rw[hL] at hT pg fW;have c15:=hT.bw.xR (k - 15) oM;have c2:=hT.bw.xR (k - 2) oM;have u15:=fW.get (k - 15);have u2:=fW.get (k - 2);obtain⟨x15,TE⟩:∃x,L.getD (k - 15) 0=x:=⟨_,rfl⟩;obtain⟨x2,hx2⟩:∃x,L.getD (k - 2) 0=x:=⟨_,rfl⟩;rw[TE] at c15 u15;rw[hx2] at c2 u2;have GJ:=τ TE hx2;have Ed:=δ u15;have U2:=δ u2;obtain⟨m15,ao'⟩:=u15;obtain⟨m2,m2b⟩:=u2;have e15:IntKind.i64.wrap ((k:Int) - 15)=((k - 15:Nat):Int):=qx
     have e2:IntKind.i64.wrap ((k:Int) - 2)=((k - 2:Nat):Int):=qx
     have b15:((k - 15:Nat):Int)<64:=oM;have b2:((k - 2:Nat):Int)<64:=oM;clear hT pg fW h64 hL TE hx2;go_wp2_with fail
     go_quiet (fail)
     clear c15 c2 e15 e2 b15 b2;go_wp2_with fail
     refine(Jk _ _ 25 _ Ed.out oM zC).mono ?_;rintro e w' ⟨rfl,rfl⟩;go_wp2_with fail
     refine(Jk _ _ 14 _ Ed.out oM zC).mono ?_;rintro e w' ⟨rfl,rfl⟩;go_wp2_with fail
     refine(Jk _ _ 15 _ U2.out oM zC).mono ?_;rintro e w' ⟨rfl,rfl⟩;go_wp2_with fail
     refine(Jk _ _ 13 _ U2.out oM zC).mono ?_;rintro e w' ⟨rfl,rfl⟩;go_wp2_with fail
     have hT:=HT.out.drewN nq;rw[GL.out] at hT;have pg:=Sr W0 (k - 16);rw[GL.out,yx.out.2] at pg;have c16:=hT.bw.xR (k - 16) oM;have c7:=hT.bw.xR (k - 7) oM;have c0:=hT.bw.xR k oM;have f0:=hT.bw.frozen k;obtain⟨x16,TF⟩:∃x,L.getD (k - 16) 0=x:=⟨_,rfl⟩;obtain⟨x7,Vl⟩:∃x,L.getD (k - 7) 0=x:=⟨_,rfl⟩;rw[TF] at c16;rw[Vl] at c7;have HX2:=τ TF Vl;have mR:=δ hT;clear hT HT pg TF Vl;obtain⟨a1,Vm⟩:∃x,bits BinOp.xor IntKind.u32 (bits BinOp.xor IntKind.u32 (rotl x15 25) (rotl x15 14)) (x15 / 8)=x:=⟨_,rfl⟩;obtain⟨a2,GM⟩:∃x,bits BinOp.xor IntKind.u32 (bits BinOp.xor IntKind.u32 (rotl x2 15) (rotl x2 13)) (x2 / 1024)=x:=⟨_,rfl⟩;rw[Vm,GM];have HY:=τ (show sg0 x15=a1 from Vm) (show sg1 x2=a2 from GM);clear Vm GM;have e16:IntKind.i64.wrap ((k:Int) - 16)=((k - 16:Nat):Int):=qx
     have e7:IntKind.i64.wrap ((k:Int) - 7)=((k - 7:Nat):Int):=qx
     have b16:((k - 16:Nat):Int)<64:=oM;have b7:((k - 7:Nat):Int)<64:=oM;have b0:(k:Int)<64:=oM;generalize wr.drewN nq=w1 at c16 c7 c0 f0 mR ⊢;have HS1:Hid (∀v,(w1.setCell ⟨n+1+1+1,k,none⟩ v).drew.cell? ⟨n+1+1+1,k - 16,none⟩=some (.int .u32 x16)∧(w1.setCell ⟨n+1+1+1,k,none⟩ v).drew.cell? ⟨n+1+1+1,k - 7,none⟩=some (.int .u32 x7)):=δ fun v=>by
      rw[Mi,Mi];exact⟨(af4 _ _ _ _ (by simp<;>omega)).trans c16,(af4 _ _ _ _ (by simp<;>omega)).trans c7⟩
     go_region_held3 (fun w'=>w'.cell? ⟨n+1+1+1,k - 16,none⟩=some (.int .u32 x16)∧w'.cell? ⟨n+1+1+1,k - 7,none⟩=some (.int .u32 x7)) (first| exact HS1.out _ | go_keep) (first| fail)
     go_wp2_with fail
     go_roundw
     case rel =>
      refine⟨k+1,oM,oM,by go_num,?_⟩;have e2:NY L k=(((x16+a1) % 4294967296+x7) % 4294967296+a2) % 4294967296:=by unfold NY;rw[HX2.out.1,GJ.out.1,HX2.out.2,GJ.out.2,HY.out.1,HY.out.2]
      have e3:uH W0 (k+1 - 16)=L.set k ((((x16+a1) % 4294967296+x7) % 4294967296+a2) % 4294967296):=by rw[show k+1 - 16=(k - 16)+1 by omega,RZ,GL.out,show 16+(k - 16)=k by omega,e2]
      rw[e3];exact(mR.out.adg k _).drew
     case measure=>simp[intOf]<;>omega
     --#b }
    ·obtain rfl:k=64:=oM
     have e64:((64:Nat):Int)=64:=rfl;rw[e64];have nK:=τ (aa4 yx.out.1 48) (Sr W0 48);have HT:=δ hT;obtain⟨W1,Pm⟩:=μ (uH W0 48);rw[show 64 - 16=48 from rfl,Pm] at HT;rw[Pm] at nK;have KI:=δ Pm;clear Pm hT hk hk2 hlt e64;go_wp2_with fail
     go_loopw [16,17,18,19,20,81] (fun _ _ _ _ _ i wr=>∃k:Nat,k≤64∧i=ι (k:Int)∧mM w wr n hv (rounds K W1 bv k) (List.replicate 8 0) W1) (fun _ _ _ _ _ i _=>64 - (intOf i).toNat)
     case atStart=>exact⟨0,oM,rfl,HT.out⟩
     case round =>
      clear HT;obtain⟨k,hk,rfl,hT⟩:=hrel;have HT:=δ hT;by_cases hlt:k<64
      ·
       --#c {
       have hr:=Zu (K:=K) (W:=W1) H8.out.2.1 HA.out.2.1 k;obtain⟨b0,b1,b2,b3,b4,b5,b6,b7,ef⟩:=eight hr.1;have fW:=hr.2;rw[ef] at hT fW;have rG:=δ ef;obtain⟨q0,q1,q2,q3,q4,q5,q6,q7⟩:=hT.b8;have cw:=hT.bw.xR k (oO nK.out.2 yx.out.2);have ck:=HK.out k hlt;rw[← Ng hT.ε (oN HN.out) id] at ck;obtain⟨xk,yw⟩:∃x,K.getD k 0=x:=⟨_,rfl⟩;obtain⟨xw,Vn⟩:∃x,W1.getD k 0=x:=⟨_,rfl⟩;rw[yw] at ck;rw[Vn] at cw;have HX:=τ yw Vn;have U0:=δ (fW b0 sM);have U4:=δ (fW b4 sM);obtain⟨m4,m4b⟩:=fW b4 sM;have bk:(k:Int)<64:=oM;clear fW ef yw Vn hr cw ck q1 q2 q3 q5 q6 q7;have mR:=δ hT;clear hT HT;go_wp2_with fail
       go_quiet (fail)
       have hT:=mR.out.drewN nq;clear q0 q4 mR;generalize wr.drewN nq=w1 at hT ⊢;obtain⟨q0,q1,q2,q3,q4,q5,q6,q7⟩:=hT.b8;have cw:=hT.bw.xR k (oO nK.out.2 yx.out.2);have ck:=HK.out k hlt;rw[← Ng hT.ε (oN HN.out) id,HX.out.1] at ck;rw[HX.out.2] at cw;have mR:=δ hT;clear hT;go_wp2_with fail
       go_quiet ((go_at_call 304;exact Calls.quiet_of_same (abB _ _ _ U4.out)));have hT:=mR.out.drewN nq;rw[show (if IntKind.u32.signed=true then (-1:Int) else IntKind.u32.max)=4294967295 from rfl];obtain⟨T,yy⟩:=μ (((b7+bits .xor .u32 (bits .xor .u32 (rotl b4 (qC (-6))) (rotl b4 (qC (-11)))) (rotl b4 (qC (-25)))+bits .xor .u32 (bits .and .u32 b4 b5) (bits .and .u32 (bits .xor .u32 4294967295 b4) b6)+xk) % 4294967296+xw) % 4294967296);rw[yy];have Ee:=δ (show SM b4 b5 b6 b7 xk xw=T from yy);clear yy;clear q0 q1 q2 q3 q4 q5 q6 q7 cw ck mR;generalize w1.drewN nq=w2 at hT ⊢;obtain⟨q0,q1,q2,q3,q4,q5,q6,q7⟩:=hT.b8;have mR:=δ hT;clear hT;go_wp2_with fail
       go_quiet ((go_at_call 304;exact Calls.quiet_of_same (abB _ _ _ U0.out)));have hT:=mR.out.drewN nq;clear q0 q1 q2 q3 q4 q5 q6 q7 mR;generalize w2.drewN nq=w3 at hT ⊢;obtain⟨q0,q1,q2,q3,q4,q5,q6,q7⟩:=hT.b8;obtain⟨U,Vo⟩:=μ ((bits .xor .u32 (bits .xor .u32 (rotl b0 (qC (-2))) (rotl b0 (qC (-13)))) (rotl b0 (qC (-22)))+bits .xor .u32 (bits .xor .u32 (bits .and .u32 b0 b1) (bits .and .u32 b0 b2)) (bits .and .u32 b1 b2)) % 4294967296);rw[Vo];have HUU:=δ (show abA b0 b1 b2=U from Vo);clear Vo;have mR:=δ hT;clear hT;go_upto_region 20 with (fail)
       go_wp2_with (first
        |(show wpList _ _ _ (⟨_,Op.build _ _,_,_,_,_⟩::_) _ _
          refine qQ rfl _ _ rfl [(0,.int .u32 ((T+U) % 4294967296)),(1,.int .u32 b0),(2,.int .u32 b1),(3,.int .u32 b2),(4,.int .u32 ((b3+T) % 4294967296)),(5,.int .u32 b4),(6,.int .u32 b5),(7,.int .u32 b6)] _ rfl (amF _ _ _ _ _ _ _ _) ?_)
        |(show wpList _ _ _ (⟨none,_,_,_,_,_⟩::_) _ _
          refine fG rfl 377 _ _ rfl (n+1) _ rfl rfl 377 _ mR.out.bb rfl jN kR ?_;intro w4 aJ au dh))
       go_roundw
       case rel =>
        refine⟨k+1,oM,by go_num,?_⟩;have e:rounds K W1 bv (k+1)=[(T+U) % 4294967296,b0,b1,b2,(b3+T) % 4294967296,b4,b5,b6]:=by
         rw[rounds_succ,rG.out,HX.out.1,HX.out.2];show [_,_,_,_,_,_,_,_]=_;rw[Ee.out,HUU.out]
        rw[e];exact mR.out.an0 aJ au
       case measure=>simp[intOf]<;>omega
       --#c }
      ·obtain rfl:k=64:=oM
       have e64:((64:Nat):Int)=64:=rfl;rw[e64];have hr:=Zu (K:=K) (W:=W1) H8.out.2.1 HA.out.2.1 64;obtain⟨bl,ef⟩:=μ (rounds K W1 bv 64);rw[ef] at hr hT;have sD:=δ ef;have HR:=δ hr;clear HT;have HT:=δ hT;clear ef hr hT hk hlt e64;go_wp2_with fail
       go_loopw [21,165] (fun _ i wr=>∃k:Nat,k≤8∧i=ι (k:Int)∧mM w wr n (vJ hv bl k) bl (List.replicate 8 0) W1) (fun _ i _=>8 - (intOf i).toNat)
       case atStart=>exact⟨0,oM,rfl,HT.out⟩
       case round =>
        clear HT;obtain⟨k,hk,rfl,hT⟩:=hrel;have HT:=δ hT;by_cases hlt:k<8
        ·
         --#d {
         have hl:=R4 hv bl k;have ch:=hT.bh.xR k (oN H8.out.1);have cb:=hT.bb.xR k (oN HR.out.1);have fh:=hT.bh.frozen k;obtain⟨xh,Vp⟩:∃x,(vJ hv bl k).getD k 0=x:=⟨_,rfl⟩;obtain⟨xb,hxb⟩:∃x,bl.getD k 0=x:=⟨_,rfl⟩;rw[Vp] at ch;rw[hxb] at cb;have HX:=τ Vp hxb;have bk:(k:Int)<8:=oM;have HS1:Hid (∀v,(wr.setCell ⟨n,k,none⟩ v).drew.cell? ⟨n+1,k,none⟩=some (.int .u32 xb)):=δ fun v=>by
          rw[Mi];exact(af4 _ _ _ _ sM).trans cb
         clear hT hl Vp hxb;go_wp2_with fail
         go_still_tail 8,kR
         change wpList _ _ _ _ _ wr.drew;go_wp2_with fail
         go_roundw
         case rel =>
          refine⟨k+1,oM,by go_num,?_⟩;rw[RB,HX.out.1,HX.out.2];exact HT.out.drew.anZ k _
         case measure=>simp[intOf]<;>omega
         --#d }
        ·obtain rfl:k=8:=oM
         have e8:((8:Nat):Int)=8:=rfl;rw[e8];obtain⟨rl,hrl⟩:=μ (vJ hv bl 8);have adh:rl.length=8:=by rw[← hrl,R4];exact H8.out.1
         rw[hrl] at HT;obtain⟨r0,r1,r2,r3,r4,r5,r6,r7,rfl⟩:=eight adh;have HRL:=δ hrl;have hone:(eG [r0,r1,r2,r3,r4,r5,r6,r7]).all (·.oneCell')=true:=Nf _;have gR:=δ hone;clear hrl adh hT hk hlt e8 hone;go_wp2_with (first
          |(refine lM rfl _ _ rfl n rfl _ _ _ HT.out.bh underlying377 rfl rfl ?_)
          |(show wpList _ _ _ (⟨none,_,_,_,_,_⟩::_) _ _
            refine fG rfl 377 _ _ rfl (n+1+1) _ rfl rfl 377 _ HT.out.br rfl gR.out kR ?_;intro w4 aJ au dh))
         have de:[r0,r1,r2,r3,r4,r5,r6,r7]=zw hv bv K l:=by
          unfold zw;rw[HW0.out,KI.out,sD.out,HRL.out]
         refine cJ (jU rfl _ _ (n+1+1) _ _ _ _ rfl aJ underlying377 rfl rfl) rfl ⟨by rw[← de],HT.out.ε.then au (fun q hq=>.inr (oN HT.out.new))⟩
theorem DD {P:Prop} (h:P:=by rw[h0] at hr;cases hr):P:=h
section
variable {P:Program} {ops:Array Oper} {Q:Exit→Act→World→Prop} {md:Region.Mode} {S:World→Prop}
def mN (P:Program) (ops:Array Oper) (Q:Exit→Act→World→Prop) (S:World→Prop) (i:Nat) (o:Oper) (v:Value) (a:Act):Prop :=
 ∀ a':Act,execOp a'.eval o=execOp a.eval o→Region.wanted o (yielded ops a'.tmps)=Region.wanted o (yielded ops a.tmps) →
  ∀(K:Act→World→Prop) (w:World),S w→K (a'.put o.dst v) w→wpOp P ops Q i K a' w
theorem mN.like {i:Nat} {o:Oper} {v:Value} {a a':Act} (h:mN P ops Q S i o v a) (he:execOp a'.eval o=execOp a.eval o) (hw:Region.wanted o (yielded ops a'.tmps)=Region.wanted o (yielded ops a.tmps)):mN P ops Q S i o v a' :=
 fun b h1 h2=>h b (h1.trans he) (h2.trans hw)
theorem Fq {i:Nat} {o:Oper} {v:Value} {a:Act} (hi:ops[i]? = some o) (f:FuncId) (args:Array Value) (hw:Region.wanted o (yielded ops a.tmps)=true)
 (hx:∀w,S w→(execOp a.eval o).run P w=.ok (.enter f args) w) (hc:∀w,S w→Calls P f args w fun e w'=>e=ώ v∧w=w'):mN P ops Q S i o v a:=by
 intro a' he hw' K w hS hK;unfold wpOp;simp only[hi];rw[hw',hw];simp only[vf];left
 unfold Oper.wp;rw[he,hx w hS];simp only[Oper.upon];refine(hc w hS).mono fun e w2 h=>?_
 obtain⟨rfl,rfl⟩:=h;exact hK
theorem RD {i j:Nat} {oi oj:Oper} {v:Value} (hj:ops[j]? = some oj) (hap:oi.apart ops oj=true)
 (hsi:∀cs b,oi.op≠.select cs b) (hsj:∀cs b,oj.op≠.select cs b) (hQ:∀c a w,Q (.panic c) (a.put oi.dst v) w→Q (.panic c) a w)
 {K:Act→World→Prop} {a:Act} {w:World} (hT:mN P ops Q S i oi v a) (h:wpOp P ops Q j K (a.put oi.dst v) w) :
 wpOp P ops Q j (fun a' w'=>mN P ops Q S i oi v a'∧K (a'.put oi.dst v) w') a w:=by
 obtain⟨p1,p2,p3⟩:=Oper.apart_spec hap;have still:∀u,mN P ops Q S i oi v (a.put oj.dst u):=fun u=>hT.like (execOp_put oi hsi a oj.dst u p3) (wanted_put oi a oj.dst u p3)
 have comm:∀u,(a.put oj.dst u).put oi.dst v=(a.put oi.dst v).put oj.dst u:=fun u=>(Act.put_comm a v u p2).symm
 unfold wpOp at h ⊢;simp only[hj] at h ⊢;rw[wanted_put oj a oi.dst v p1] at h;by_cases hw:Region.wanted oj (yielded ops a.tmps)=true
 ·rw[π hw] at h ⊢
  rcases h with h | ⟨q1,q2⟩
  ·left
   unfold Oper.wp at h ⊢;rw[execOp_put oj hsj a oi.dst v p1] at h;generalize (execOp a.eval oj).run P w=r at h ⊢;match r,h with
   | .ok (.value u) w2,h =>
     simp only[Oper.upon] at h ⊢;exact⟨still u,by rw[comm];exact h⟩
   | .ok .skip w2,h =>
     simp only[Oper.upon] at h ⊢;exact⟨still _,by rw[comm];exact h⟩
   | .ok (.defer d) w2,h =>
     simp only[Oper.upon] at h ⊢;have hd:mN P ops Q S i oi v { a with defers:=d::a.defers } := hT.like rfl rfl;refine⟨hd.like (execOp_put oi hsi _ oj.dst undef p3) (wanted_put oi _ oj.dst undef p3),?_⟩;rw[← Act.put_comm _ v undef p2,← Act.put_defers];exact h
   | .ok (.enter f args) w2,h =>
     simp only[Oper.upon] at h ⊢;refine Calls.mono h fun e w3 he=>?_
     match e,he with
     | .returned u,he=>exact⟨still u,by rw[comm];exact he⟩
     | .panicked c,he=>exact hQ _ _ _ he
     | .outgrown,he=>exact he
   | .ok (.row row args) w2,h =>
     simp only[Oper.upon] at h ⊢;exact Rows.mono h fun u w3 he=>⟨still u,by rw[comm];exact he⟩
   | .halt (.panic u) w2,h =>
     simp only[Oper.upon] at h ⊢;exact hQ _ _ _ h
  ·right
   refine⟨?_,q2⟩;unfold Oper.asks at q1 ⊢;rw[execOp_put oj hsj a oi.dst v p1] at q1;exact q1
 ·rw[ν hw] at h ⊢
  exact⟨still _,by rw[comm];exact h⟩
theorem adi {P:Prop} (h:P:=by
 intro x hx hb KJ;have g1:=hall x hx hb;have g0:=(Iy.1 hr).1;rw[KJ] at g1;by_cases hlt:i<listed.size
 ·simp[hlt] at g0 g1
  rw[g0] at g1;cases g1
 ·simp[Array.getElem?_eq_none (Nat.le_of_not_lt hlt)] at g1):P:=h
theorem TG {P:Prop} (h:P:=by
 refine hfree k ok hk hki ?_ hn2;by_cases ek:j=k
 ·subst ek;exact hun
 ·rw[Fh true ek] at rH;exact rH):P:=h
theorem MB {i:Nat} {oi:Oper} {v:Value} {fuel:Nat} {listed:Array Bool} {a:Act} {w:World} (hi:ops[i]? = some oi)
 (hs:Region.noSelect ops=true) (hf:Region.free md ops listed i=true) (hr:(Region.ready md ops listed).contains i=true)
 (hQ:∀c a w,Q (.panic c) (a.put oi.dst v) w→Q (.panic c) a w) (hT:mN P ops Q S i oi v a) (hS:S w)
 (h:wpAnyH P md ops Q S fuel (listed.setIfInBounds i true) (a.put oi.dst v) w):wpAnyH P md ops Q S (fuel+1) listed a w:=by
 have hsel:=X6 hs;have main:∀(fuel:Nat) (listed:Array Bool) (a:Act) (w:World),
  (∀j oj,ops[j]? = some oj→j≠i→listed.getD j true=false→(∀e ∈ oj.after,Region.binds md e=true→e.on≠i)→oi.apart ops oj=true) →
  i ∈ Region.ready md ops listed→mN P ops Q S i oi v a→S w →
  wpAnyH P md ops Q S fuel (listed.setIfInBounds i true) (a.put oi.dst v) w→wpAnyH P md ops Q S (fuel+1) listed a w:=by
  intro fuel;induction fuel with
  | zero =>
    intro listed a w _ hr hT hS H;refine⟨fun h0=>DD,fun j hj=>?_⟩
    by_cases e:j=i
    ·subst e
     exact hT a rfl rfl _ w hS ⟨hS,H⟩
    ·have h1:=AZ hj e
     rw[H.1] at h1;cases h1
  | succ fuel ih =>
    intro listed a w hfree hr hT hS H;refine⟨fun h0=>DD,fun j hj=>?_⟩
    by_cases e:j=i
    ·subst e
     exact hT a rfl rfl _ w hS ⟨hS,H⟩
    ·have h1:=H.2 j (AZ hj e)
     obtain⟨hun,oj,p_,hall⟩:=Iy.1 hj;have hno:∀e ∈ oj.after,Region.binds md e=true→e.on≠i:=by
      exact adi
     have h2:=RD p_ (hfree j oj p_ e hun hno) (fun cs b=>hsel i oi cs b hi) (fun cs b=>hsel j oj cs b p_) hQ hT h1;refine wpOp_mono (fun a' w' h3=>⟨h3.2.1,ih _ a' w' (fun k ok hk hki rH hn2=>?_) (AZ hr (nt e)) h3.1 h3.2.1 ?_⟩) h2
     ·exact TG
     ·rw[X7 _ _ e]
      exact h3.2.2
 exact main fuel listed a w (X8 hi hf) (by simpa using hr) hT hS h
end
section
variable {P:Program} {ops:Array Oper} {Q:Exit→Act→World→Prop} {md:Region.Mode} {S:World→Prop} {T:Nat→Bool}
def ri (T:Nat→Bool) (listed:Array Bool):Bool:=(List.range listed.size).any fun k=>T k && listed.getD k false
theorem ME {listed:Array Bool} : ri T listed=false↔∀k,T k=true→listed.getD k false=false:=by
 unfold ri;rw[List.any_eq_false];constructor
 ·intro h k hk
  by_cases hlt:k<listed.size
  ·have h1:=h k (Iz.2 hlt)
   rw[hk] at h1;simpa using h1
  ·simp[Array.getElem?_eq_none (Nat.le_of_not_lt hlt)]
 ·intro h k _
  cases hT:T k with
  | false=>simp
  | true=>simp[h k hT]
def eu (P:Program) (md:Region.Mode) (ops:Array Oper) (Q:Exit→Act→World→Prop) (S:World→Prop) (T:Nat→Bool):Nat→Array Bool→Act→World→Prop
 | 0,listed,a,w=>Region.ready md ops listed=[]∧Q .normal a w
 | fuel+1,listed,a,w =>
   (Region.ready md ops listed=[]→Q .normal a w) ∧
   ∀i ∈ Region.ready md ops listed,wpOp P ops Q i (fun a' w'=>(ri T (listed.setIfInBounds i true)=false→S w')∧eu P md ops Q S T fuel (listed.setIfInBounds i true) a' w') a w
theorem YW:∀(fuel:Nat) (listed:Array Bool) (a:Act) (w:World),eu P md ops Q S T fuel listed a w→wpAny P md ops Q fuel listed a w
 | 0,_,_,_,h=>h
 | fuel+1,_,_,_,h=>⟨h.1,fun i hi=>wpOp_mono (fun a' w' h'=>YW fuel _ a' w' h'.2) (h.2 i hi)⟩
theorem eo {id:Nat} {a:Act} {w:World} (hm:P.follows .mixedOrders=true)
 (h:eu P .any ops Q S T ops.size (Array.replicate ops.size false) a w.drew):(Code.region id ops true).wp P Q a w :=
 wp_region_any hm (YW _ _ _ _ h)
def reach (md:Region.Mode) (ops:Array Oper) (i:Nat):Nat→Nat→Bool
 | 0,_=>false
 | n+1,j=>match ops[j]? with | some oj=>oj.after.any (fun e=>Region.binds md e && (e.on == i || reach md ops i n e.on))| none=>false
def closed (md:Region.Mode) (ops:Array Oper) (listed:Array Bool):Bool :=
 (List.range ops.size).all fun j => !listed.getD j false ||(match ops[j]? with | some oj=>oj.after.all (fun e => !Region.binds md e || listed.getD e.on false)| none=>true)
def FT (md:Region.Mode) (ops:Array Oper) (T:Nat→Bool) (listed:Array Bool) (i:Nat):Bool :=
 closed md ops listed && !T i && (List.range ops.size).all fun j => !T j || reach md ops i 3 j
def zq (md:Region.Mode) (ops:Array Oper) (listed:Array Bool):Prop :=
 ∀j oj,ops[j]? = some oj→listed.getD j false=true→∀e ∈ oj.after,Region.binds md e=true→listed.getD e.on false=true
theorem ag2 {listed:Array Bool} (h:closed md ops listed=true):zq md ops listed:=by
 intro j oj hj hl e he hb;unfold closed at h;rw[XY] at h;have hlt:j<ops.size:=(nZ.1 hj).1;have h1:=h j (Iz.2 hlt);rw[hl,hj] at h1;simp only[xu,Bool.false_or,Array.all_eq_true'] at h1;have h2:=h1 e he;rw[hb] at h2;simpa using h2
theorem zq.set {listed:Array Bool} (h:zq md ops listed) {i:Nat} {oi:Oper} (hi:ops[i]? = some oi) (hall:∀e ∈ oi.after,Region.binds md e=true→listed.getD e.on false=true):zq md ops (listed.setIfInBounds i true):=by
 have mono:∀k,listed.getD k false=true→(listed.setIfInBounds i true).getD k false=true:=by
  intro k hk;by_cases e:i=k
  ·subst e
   by_cases hlt:i<listed.size
   ·simp[hlt]
   ·simp[Array.getElem?_eq_none (Nat.le_of_not_lt hlt)] at hk
  ·rw[Fh false e];exact hk
 intro j oj hj hl e he hb;by_cases ek:i=j
 ·subst ek
  rw[hi] at hj;cases hj
  exact mono _ (hall e he hb)
 ·rw[Fh false ek] at hl
  exact mono _ (h j oj hj hl e he hb)
theorem IU {listed:Array Bool} (h:zq md ops listed) {i:Nat} : ∀n j oj,ops[j]? = some oj→(∀e ∈ oj.after,Region.binds md e=true→listed.getD e.on false=true)→reach md ops i n j=true→listed.getD i false=true
 | 0,_,_,_,_,hr=>by simp[reach] at hr
 | n + 1,j,oj,hj,hall,hr=>by
   rw[reach,hj] at hr;obtain⟨e,he,hb⟩:=Array.any_eq_true'.1 hr;simp only[gV,IA,jV] at hb;have h1:=hall e he hb.1;rcases hb.2 with h2 | h2
   ·rw[← h2];exact h1
   ·cases n with
    | zero=>simp[reach] at h2
    | succ n =>
      cases ho:ops[e.on]? with
      | none=>simp[reach,ho] at h2
      | some ok=>exact IU h (n+1) e.on ok ho (h e.on ok ho h1) h2
theorem adj {P:Prop} (h:P:=by
 simp only[gV] at h;refine⟨ag2 h.1.1,by simpa using h.1.2,fun j oj hj hT=>?_⟩;have h1:=XY.1 h.2 j (Iz.2 (nZ.1 hj).1);rw[hT] at h1;simpa using h1):P:=h
theorem ag3 {listed:Array Bool} {i:Nat} (h:FT md ops T listed i=true) :
 zq md ops listed∧T i=false∧∀j oj,ops[j]? = some oj→T j=true→reach md ops i 3 j=true:=by
 unfold FT at h;exact adj
theorem adk {P:Prop} (h:P:=by
 have h2:=RD p_ (hfree j oj p_ e hun hno) (fun cs b=>hsel i oi cs b hi) (fun cs b=>hsel j oj cs b p_) hQ hT h1;refine wpOp_mono (fun a' w' h3=>⟨fun _=>h3.2.1 hd,ih _ a' w' (fun k ok hk hki rH hn2=>?_) (cv.set p_ hall) (by simpa using hz) (AZ hr (nt e)) h3.1 (h3.2.1 hd) ?_⟩) h2
 ·exact TG
 ·rw[X7 _ _ e]
  exact h3.2.2):P:=h
theorem adl {P:Prop} (h:P:=by
 intro listed a w _ _ _ hr hT hS H;refine⟨fun h0=>DD,fun j hj=>?_⟩
 by_cases e:j=i
 ·subst e
  exact hT a rfl rfl _ w hS ⟨fun _=>hS,H⟩
 ·have h1:=AZ hj e
  rw[H.1] at h1;cases h1):P:=h
theorem A_ {i:Nat} {oi:Oper} {v:Value} {fuel:Nat} {listed:Array Bool} {a:Act} {w:World} (hi:ops[i]? = some oi)
 (hs:Region.noSelect ops=true) (hf:Region.free md ops listed i=true) (hr:(Region.ready md ops listed).contains i=true) (hw:FT md ops T listed i=true)
 (hQ:∀c a w,Q (.panic c) (a.put oi.dst v) w→Q (.panic c) a w) (hT:mN P ops Q S i oi v a) (hS:S w) (hz:ops.size=listed.size)
 (h:eu P md ops Q S T fuel (listed.setIfInBounds i true) (a.put oi.dst v) w):eu P md ops Q S T (fuel+1) listed a w:=by
 have hsel := X6 hs;obtain⟨TI,uI,iJ⟩:=ag3 hw;have main:∀(fuel:Nat) (listed:Array Bool) (a:Act) (w:World),
  (∀j oj,ops[j]? = some oj→j≠i→listed.getD j true=false→(∀e ∈ oj.after,Region.binds md e=true→e.on≠i)→oi.apart ops oj=true) →
  zq md ops listed→ops.size=listed.size →
  i ∈ Region.ready md ops listed→mN P ops Q S i oi v a→S w →
  eu P md ops Q S T fuel (listed.setIfInBounds i true) (a.put oi.dst v) w→eu P md ops Q S T (fuel+1) listed a w:=by
  intro fuel;induction fuel with
  | zero =>
    exact adl
  | succ fuel ih =>
    intro listed a w hfree cv hz hr hT hS H;refine⟨fun h0=>DD,fun j hj=>?_⟩
    by_cases e:j=i
    ·subst e
     exact hT a rfl rfl _ w hS ⟨fun _=>hS,H⟩
    ·have h1:=H.2 j (AZ hj e)
     obtain⟨hun,oj,p_,hall⟩:=Iy.1 hj;have g0:=(Iy.1 hr).1;have Ef:listed.getD i false=false:=by
      by_cases hlt:i<listed.size
      ·simp[hlt] at g0 ⊢
       exact g0
      ·simp[Array.getElem?_eq_none (Nat.le_of_not_lt hlt)] at g0
     have hno:∀e ∈ oj.after,Region.binds md e=true→e.on≠i:=by
      intro x hx hb KJ;have g1:=hall x hx hb;rw[KJ,Ef] at g1;cases g1
     have hd:ri T ((listed.setIfInBounds i true).setIfInBounds j true)=false:=ME.2 fun k hk=>by
      have hki:i≠k:=fun e=>by rw[e,hk] at uI;cases uI
      by_cases KM:j=k
      ·subst KM
       have g1:=IU cv 3 j oj p_ hall (iJ j oj p_ hk);rw[Ef] at g1;cases g1
      ·rw[Fh false KM,Fh false hki]
       cases hlk:listed.getD k false with
       | false=>rfl
       | true =>
         have hlt:k<ops.size:=by
          rcases Io k listed.size with h | h
          ·omega
          ·simp[Array.getElem?_eq_none h] at hlk
         have hok:ops[k]? = some ops[k]:=QG hlt;have g1:=IU cv 3 k _ hok (cv k _ hok hlk) (iJ k _ hok hk);rw[Ef] at g1;cases g1
     exact adk
 exact main fuel listed a w (X8 hi hf) TI hz (by simpa using hr) hT hS h
theorem RE {listed:Array Bool} {i:Nat} (uI:T i=false):ri T (listed.setIfInBounds i true)=false↔ri T listed=false:=by
 rw[ME,ME];refine forall_congr' fun k=>imp_congr_right fun hk=>?_
 have hki:i≠k:=fun e=>by rw[e,hk] at uI;cases uI
 rw[Fh false hki]
theorem agJ {i:Nat} {oi:Oper} {v:Value} {fuel:Nat} {listed:Array Bool} {a:Act} {w:World} (hi:ops[i]? = some oi)
 (hs:Region.noSelect ops=true) (hf:Region.free md ops listed i=true) (hr:(Region.ready md ops listed).contains i=true) (uI:T i=false)
 (hQ:∀c a w,Q (.panic c) (a.put oi.dst v) w→Q (.panic c) a w) (hT:mN P ops Q (fun _=>True) i oi v a) (hI:ri T listed=true∨S w)
 (h:eu P md ops Q S T fuel (listed.setIfInBounds i true) (a.put oi.dst v) w):eu P md ops Q S T (fuel+1) listed a w:=by
 have hsel:=X6 hs;have main:∀(fuel:Nat) (listed:Array Bool) (a:Act) (w:World),
  (∀j oj,ops[j]? = some oj→j≠i→listed.getD j true=false→(∀e ∈ oj.after,Region.binds md e=true→e.on≠i)→oi.apart ops oj=true) →
  i ∈ Region.ready md ops listed→mN P ops Q (fun _=>True) i oi v a→(ri T listed=false→S w) →
  eu P md ops Q S T fuel (listed.setIfInBounds i true) (a.put oi.dst v) w→eu P md ops Q S T (fuel+1) listed a w:=by
  intro fuel;induction fuel with
  | zero =>
    intro listed a w _ hr hT hI H;refine⟨fun h0=>DD,fun j hj=>?_⟩
    by_cases e:j=i
    ·subst e
     exact hT a rfl rfl _ w trivial ⟨fun h0=>hI ((RE uI).1 h0),H⟩
    ·have h1:=AZ hj e
     rw[H.1] at h1;cases h1
  | succ fuel ih =>
    intro listed a w hfree hr hT hI H;refine⟨fun h0=>DD,fun j hj=>?_⟩
    by_cases e:j=i
    ·subst e
     exact hT a rfl rfl _ w trivial ⟨fun h0=>hI ((RE uI).1 h0),H⟩
    ·have h1:=H.2 j (AZ hj e)
     obtain⟨hun,oj,p_,hall⟩:=Iy.1 hj;have hno:∀e ∈ oj.after,Region.binds md e=true→e.on≠i:=by
      exact adi
     have hdj:ri T ((listed.setIfInBounds i true).setIfInBounds j true)=false↔ri T (listed.setIfInBounds j true)=false:=by
      rw[X7 _ _ (nt e)];exact RE uI
     have h2:=RD p_ (hfree j oj p_ e hun hno) (fun cs b=>hsel i oi cs b hi) (fun cs b=>hsel j oj cs b p_) hQ hT h1;refine wpOp_mono (fun a' w' h3=>⟨fun h0=>h3.2.1 (hdj.2 h0),ih _ a' w' (fun k ok hk hki rH hn2=>?_) (AZ hr (nt e)) h3.1 (fun h0=>h3.2.1 (hdj.2 h0)) ?_⟩) h2
     ·exact TG
     ·rw[X7 _ _ e]
      exact h3.2.2
 exact main fuel listed a w (X8 hi hf) (by simpa using hr) hT (fun h0=>hI.resolve_left (by rw[h0];decide)) h
theorem uf {i:Nat} {o:Oper} {v:Value} {a:Act} (hi:ops[i]? = some o) (hy:YieldsIf P ops S o v a):mN P ops Q S i o v a:=by
 intro a' he hw K w hS hK;exact(hy.of_same he hw).wpOp hi hS hK
theorem Ri {i:Nat} {o:Oper} {fuel:Nat} {listed:Array Bool} {a:Act} {w:World} (hr:Region.ready md ops listed=[i]) (ho:ops[i]? = some o)
 (h:∀K':Act→World→Prop,Shut (∀a w,S w→eu P md ops Q S T fuel (listed.setIfInBounds i true) a w→K' a w)→if Region.wanted o (yielded ops a.tmps)=true then Oper.wp P o a w K' Q else K' (a.put o.dst undef) w) :
 eu P md ops Q S T (fuel+1) listed a w:=by
 refine⟨fun h0=>(by rw[hr] at h0;cases h0),fun j hj=>?_⟩
 rw[hr] at hj;obtain rfl:j=i:=by simpa using hj
 exact wpOp_step ho (fun K' hK=>h K' (fun a w hS hW=>hK a w ⟨fun _=>hS,hW⟩))
theorem Q9 {i:Nat} {o:Oper} {fuel:Nat} {listed:Array Bool} {a:Act} {w:World} (hr:Region.ready md ops listed=[i]) (ho:ops[i]? = some o) (hd:ri T (listed.setIfInBounds i true)=true)
 (h:∀K':Act→World→Prop,Shut (∀a w,eu P md ops Q S T fuel (listed.setIfInBounds i true) a w→K' a w)→if Region.wanted o (yielded ops a.tmps)=true then Oper.wp P o a w K' Q else K' (a.put o.dst undef) w) :
 eu P md ops Q S T (fuel+1) listed a w:=by
 refine⟨fun h0=>(by rw[hr] at h0;cases h0),fun j hj=>?_⟩
 rw[hr] at hj;obtain rfl:j=i:=by simpa using hj
 exact wpOp_step ho (fun K' hK=>h K' (fun a w hW=>hK a w ⟨fun h0=>(by rw[hd] at h0;cases h0),hW⟩))
theorem Q_ {listed:Array Bool} {a:Act} {w:World} (hr:Region.ready md ops listed=[]) (h:Q .normal a w):∀fuel,eu P md ops Q S T fuel listed a w
 | 0=>⟨hr,h⟩
 | _+1=>⟨fun _=>h,by rw[hr];simp⟩
end
theorem av:(∀(T:Array Value) (D:List Deferred) (t:Nat) (v:Value),Act.put ⟨T,D⟩ (some t) v=⟨T.setIfInBounds t v,D⟩)∧(∀(a:Act) (v:Value),Act.put a none v=a) ∧
 (∀(l:List Oper) (i:Nat) (h:i<l.toArray.size),l.toArray[i]'h=l[i]'(by simpa using h))∧(∀(a:Oper) (l:List Oper) (h:0<(a::l).length),(a::l)[0]'h=a)∧(∀(a:Oper) (l:List Oper) (i:Nat) (h:i+1<(a::l).length),(a::l)[i+1]'h=l[i]'(by simpa using h)) ∧
 (∀(l:List Bool) (i:Nat) (v:Bool),l.toArray.setIfInBounds i v=(l.set i v).toArray)∧(∀(l:List Value) (i:Nat) (v:Value),l.toArray.setIfInBounds i v=(l.set i v).toArray) ∧
 (∀(a v:Bool) (l:List Bool),(a::l).set 0 v=v::l)∧(∀(a v:Value) (l:List Value),(a::l).set 0 v=v::l)∧(∀(a v:Bool) (l:List Bool) (i:Nat),(a::l).set (i+1) v=a::l.set i v)∧(∀(a v:Value) (l:List Value) (i:Nat),(a::l).set (i+1) v=a::l.set i v):=by
 refine⟨fun _ _ _ _=>rfl,fun _ _=>rfl,fun _ _ _=>rfl,fun _ _ _=>rfl,fun _ _ _ _=>rfl,fun _ _ _=>by simp,fun _ _ _=>by simp,fun _ _ _=>rfl,fun _ _ _=>rfl,fun _ _ _ _=>rfl,fun _ _ _ _=>rfl⟩
section
variable {P:Program} {ops:Array Oper} {Q:Exit→Act→World→Prop} {md:Region.Mode} {S:World→Prop} {T:Nat→Bool}
theorem tk (i:Nat) {oi:Oper} {v:Value} {fuel:Nat} {listed:Array Bool} {a:Act} {w:World} (h:eu P md ops Q S T fuel (listed.setIfInBounds i true) (a.put oi.dst v) w)
 (hi:ops[i]? = some oi:=by rfl) (hv:∀w',S w'→(execOp a.eval oi).run P w'=.ok (.value v) w':=by intro w' hSw;go_split_ands;first|(go_simp;done)|(go_simp;rfl)| rfl) (hS:S w:=by assumption) (iJ:Region.wanted oi (yielded ops a.tmps)=true:=by rfl)
 (hc:(Region.noSelect ops && Region.free md ops listed i && (Region.ready md ops listed).contains i && FT md ops T listed i && ops.size == listed.size)=true:=by kernel_rfl) (hQ:∀c a w,Q (.panic c) (a.put oi.dst v) w→Q (.panic c) a w:=by exact fun _ _ _ h=>h):eu P md ops Q S T (fuel+1) listed a w:=by
 simp only[gV,jV] at hc;exact A_ hi hc.1.1.1.1 hc.1.1.1.2 hc.1.1.2 hc.1.2 hQ (uf hi (Or.inl ⟨iJ,hv⟩)) hS hc.2 h
end
theorem pV {P:Prop} (h:P:=by intro w' hSw;have hq1:=hSw.c72.1;have qD:=hSw.c8;go_split_ands;first|(go_simp;done)|(go_simp;rfl)| rfl):P:=h
theorem adm {P:Prop} (h:P:=by intro w' hSw;have hq1:=hSw.c72.1;go_split_ands;first|(go_simp;done)|(go_simp;rfl)| rfl):P:=h
def mL (h:List Int) (rest:Value) (n:Nat):Array Value:=((h++oy).map (Value.int .u32)++[rest,ι (n:Int),.bool true]).toArray
theorem aiw:prog.built 382 [(0,.agg (eG rf)),(1,.agg (eG oy)),(4,.bool true)]=some (mL rf (.slice none 0 0) 0):=kR
theorem alB (w:World):ς 289 #[] w fun e w'=>e=ώ (.agg (eG rf))∧υ w w':=by
 go_enter func289,ntmps289
 go_wp2_with fail
 refine cJ (jU rfl _ _ w.heap.size _ _ _ _ rfl (η.new w _ _) underlying377 rfl rfl) rfl ⟨rfl,(ζ.refl _ w).alloc _⟩
theorem aix (w:World):ς 290 #[] w fun e w'=>e=ώ (.agg (eG oy))∧υ w w':=by
 go_enter func290,ntmps290
 go_wp2_with (first
  |(show wpList _ _ _ (⟨_,Op.build _ _,_,_,_,_⟩::_) _ _
    refine wpList_build rfl _ _ rfl kR ?_;rw[show ((Program.built _ _ _).getD #[])=eG oy from by kernel_rfl])
  |(show wpList _ _ _ (⟨none,_,_,_,_,_⟩::_) _ _
    refine fG rfl 379 _ _ rfl w.heap.size (eG oy) rfl rfl 379 _ (η.new w _ _) rfl (Nf _) kR ?_;intro w4 aJ au dh))
 refine cJ (jU rfl _ _ w.heap.size _ _ _ _ rfl aJ underlying379 rfl rfl) rfl ⟨rfl,((ζ.refl _ w).alloc _).then au (fun q hq=>.inr oM)⟩
structure kC (w0 w:World) (x:Nat) (h:List Int) (rest:Value) (n:Nat):Prop where
 blk:η w x 382 (mL h rest n)
 len:h.length=8
 all:kB h
 new:w0.heap.size≤x
 ε:υ w0 w
theorem IV {h:List Int} (h8:h.length=8):((h++oy).map (Value.int .u32)).length=72:=by rw[bz,aN,h8,Fy.1]
theorem aiy {h:List Int} (h8:h.length=8) (rest:Value) (n:Nat):(mL h rest n)[72]? = some rest∧(mL h rest n)[73]? = some (ι (n:Int))∧(mL h rest n)[74]? = some (.bool true):=by
 have hl:=IV h8;unfold mL;refine⟨?_,?_,?_⟩<;>rw[IB,mG oM,hl]<;>rfl
theorem ajR {h:List Int} (h8:h.length=8) (rest:Value) (n:Nat) (j:Nat) (hj:j<64):(mL h rest n)[8+j]? = some (.int .u32 (oy.getD j 0)):=by
 have hl:=IV h8;have hk:j<oy.length:=by rw[Fy.1];exact hj
 unfold mL;rw[IB,qi oM,lf,mG oM,h8,rU,bu hk,bN,bu hk];rfl
theorem agK {h:List Int} (h8:h.length=8) (rest r:Value) (n:Nat):(mL h rest n).setIfInBounds 72 r=mL h r n:=by
 have hl:=IV h8;unfold mL;rw[jW,Iq _ _ oM,hl];rfl
theorem agL {h:List Int} (h8:h.length=8) (rest:Value) (n m:Nat):(mL h rest n).setIfInBounds 73 (ι (m:Int))=mL h rest m:=by
 have hl:=IV h8;unfold mL;rw[jW,Iq _ _ oM,hl];rfl
theorem ahC {h h':List Int} (h8:h.length=8) (yz:h'.length=8) (rest:Value) (n:Nat):(mL h rest n).toList.take 0++(eG h').toList++(mL h rest n).toList.drop (0+(eG h').size)=(mL h' rest n).toList:=by
 unfold mL;rw[Fg,oR,lK,Fu,yz];simp only[eG];rw[lq,lq,eC,Mk (by rw[bz,h8]),eC]
section
variable {w0 w:World} {x:Nat} {h:List Int} {rest:Value} {n:Nat}
theorem kC.k_ (s:kC w0 w x h rest n) (i:Nat) (hi:i<64):w.cell? ⟨x,8+i,none⟩=some (.int .u32 (oy.getD i 0)):=(s.blk.cell (8+i)).trans (ajR s.len rest n i hi)
theorem kC.c8 {a0 a1 a2 a3 a4 a5 a6 a7:Int} (s:kC w0 w x [a0,a1,a2,a3,a4,a5,a6,a7] rest n):w.cell? ⟨x,0,none⟩=some (.int .u32 a0)∧w.cell? ⟨x,1,none⟩=some (.int .u32 a1)∧w.cell? ⟨x,2,none⟩=some (.int .u32 a2)∧w.cell? ⟨x,3,none⟩=some (.int .u32 a3)∧w.cell? ⟨x,4,none⟩=some (.int .u32 a4)∧w.cell? ⟨x,5,none⟩=some (.int .u32 a5)∧w.cell? ⟨x,6,none⟩=some (.int .u32 a6)∧w.cell? ⟨x,7,none⟩=some (.int .u32 a7):=by
 refine⟨?_,?_,?_,?_,?_,?_,?_,?_⟩<;>(rw[s.blk.cell];unfold mL;rw[IB];rfl)
theorem kC.c72 (s:kC w0 w x h rest n):w.cell? ⟨x,72,none⟩=some rest∧w.cell? ⟨x,73,none⟩=some (ι (n:Int))∧w.cell? ⟨x,74,none⟩=some (.bool true):=by
 obtain⟨a,b,c⟩:=aiy s.len rest n;exact⟨(s.blk.cell 72).trans a,(s.blk.cell 73).trans b,(s.blk.cell 74).trans c⟩
theorem kC.still (s:kC w0 w x h rest n) {w':World} (hu:υ w w'):kC w0 w' x h rest n :=
 ⟨s.blk.ε hu id,s.len,s.all,s.new,s.ε.then hu φ⟩
theorem kC.ab' (s:kC w0 w x h rest n) (r:Value):kC w0 (w.setCell ⟨x,72,none⟩ r) x h r n:=by
 refine⟨?_,s.len,s.all,s.new,s.ε.setCell (.inr s.new) _⟩;have:=s.blk.bE 72 r;rw[agK s.len] at this;exact this
theorem kC.n_ (s:kC w0 w x h rest n) (m:Nat):kC w0 (w.setCell ⟨x,73,none⟩ (ι (m:Int))) x h rest m:=by
 refine⟨?_,s.len,s.all,s.new,s.ε.setCell (.inr s.new) _⟩;have:=s.blk.bE 73 (ι (m:Int));rw[agL s.len] at this;exact this
theorem kC.h_ (s:kC w0 w x h rest n) {h':List Int} (h8:h'.length=8) (hh:kB h') {w':World} (hb:η w' x 382 (mL h' rest n)) (hu:ζ (· = x) w w'):kC w0 w' x h' rest n :=
 ⟨hb,h8,hh,s.new,s.ε.then hu (fun q hq=>.inr (oN s.new))⟩
theorem Zw (s:kC w0 w x h rest n):ς 291 #[.pointer (some ⟨x,0,none⟩)] w fun e w'=>e=ώ (.bool false)∧w=w':=by
 obtain⟨-,-,hc⟩:=s.c72;clear s;go_enter func291,ntmps291
 go_wp2_with fail
 go_ret
 exact⟨rfl,rfl⟩
end
theorem ajS (w:World):ς 275 #[] w fun e w'=>∃x,e=ώ (.pointer (some ⟨x,0,none⟩))∧kC w w' x rf (.slice none 0 0) 0:=by
 go_enter func275,ntmps275
 go_wp2_with fail
 refine(alB _).mono ?_;rintro e w1 ⟨rfl,az⟩;have H1:=δ az;clear az;go_wp2_with fail
 refine(aix _).mono ?_;rintro e w2 ⟨rfl,σ⟩;have H2:=δ σ;clear σ;go_wp2_with (first
  |(show wpList _ _ _ (⟨_,Op.build _ _,_,_,_,_⟩::_) _ _
    refine qQ rfl _ _ rfl [(0,.agg (eG rf)),(1,.agg (eG oy)),(4,.bool true)] _ rfl aiw ?_))
 go_ret
 have hu:=H1.out.then H2.out φ;exact⟨_,rfl,η.new w2 _ _,Fx.1,Fx.2,hu.size,hu.alloc _⟩
theorem gK.ε {w w':World} {v:Value} {l:List UInt8} {F:Nat→Prop} (h:gK w v l) (hu:ζ F w w') (hF:∀k,v.ownBlock=some k→¬F k):gK w' v l:=by
 obtain⟨A,cap,rfl,h1,h2,h3⟩:=h;refine⟨A,cap,rfl,h1,h2,fun hl=>?_⟩;obtain⟨b,off,rfl,hb,hc⟩:=h3 hl;exact⟨b,off,rfl,nY hb hu.size,fun i hi=>(Ng hu hb (hF b rfl) _).trans (hc i hi)⟩
theorem gK.b9 {w:World} {v:Value} {l:List UInt8} (h:gK w v l) {p:Addr} (hp:v.ownBlock≠some p.block) (u:Value):gK (w.setCell p u) v l :=
 h.ε ((ζ.refl (· = p.block) w).setCell (.inl rfl) u) (fun k hk e=>hp (by rw[hk,e]))
theorem gK.ku {w:World} {v:Value} {l:List UInt8} {n:Nat} (h:Own w 5 1 v n (aO l)):gK w v l:=by
 have hn:l.length=n:=by have:=h.len;simp[aO] at this;omega
 subst hn;obtain⟨A,cap,rfl,h1,h2⟩:=h.shape;refine⟨A,cap,rfl,h1,h2,fun hl=>?_⟩;obtain⟨g,cap',e,_,_⟩:=h.head hl;injection e with e1 e2 e3;subst e1;refine⟨g,0,rfl,h.lt rfl,fun i hi=>?_⟩;rw[lK,h.cellAt i oM];simp[aO,hi]
theorem gK.drop {w:World} {b off n cap k:Nat} {l:List UInt8} (h:gK w (.slice (some ⟨b,off,none⟩) n cap) l) (hk:k<n):gK w (.slice (some ⟨b,off+k,none⟩) (n - k) (cap - k)) (l.drop k):=by
 obtain⟨A,c2,e,h1,h2,h3⟩:=h;injection e with e1 e2 e3;subst e1 e2 e3;refine⟨_,_,by rw[jC],by rw[jC];omega,oM,fun hl=>?_⟩;obtain⟨b',off',e,hb,hc⟩:=h3 oM;injection e with e;injection e with e1 e2;subst e1 e2;refine⟨b,off+k,rfl,hb,fun i hi=>?_⟩;rw[jC] at hi;rw[Ip,hc (k+i) oM];simp[List.getD_eq_getElem?_getD]
theorem gK.none {w:World} (A:Option Addr) (cap:Nat) (hc:cap≤maxLen):gK w (.slice A 0 cap) []:=⟨A,cap,rfl,xx _,hc,fun h=>absurd h sM⟩
def De (w:World) (x:Nat):Nat:=match w.cell? ⟨x,72,none⟩ with | some (.slice _ n _)=>n | _=>0
theorem On {P:Prop} (h:P:=by
 rw[qj (by rw[lE.out.1];omega)];exact gK.none _ _ ke):P:=h
theorem ahD {w0 w:World} {x:Nat} (s:kC w0 w x rf (.slice none 0 0) 0) (t:ByteArray) (ht:t.size≤1000000) :
 ς 276 #[.pointer (some ⟨x,0,none⟩),.string t] w fun e w'=>∃r,e=ώ (ι (t.size:Int))∧kC w0 w' x (lQ (t.size / 64) rf t.data.toList) r t.size∧gK w' r (t.data.toList.drop (64*(t.size / 64))):=by
 obtain⟨i0,bx,bU,bK,aY⟩:=jD Dh;have HS:=δ s;have H0:=δ (Zw s);obtain⟨c72,c73,-⟩:=s.c72;have f72:=s.blk.frozen 72;have f73:=s.blk.frozen 73;clear s;go_enter func276,ntmps276
 go_wp2_with fail
 refine H0.out.mono ?_;rintro e w' ⟨rfl,rfl⟩
 go_wp2_with (at_builtin
              refine kr rfl _ _ _ _ rfl 5 i0 _ 1 1 underlying89 bx bU bK aY rfl (.slice none 0 0) 0 [] rfl (Own.nil _ _ _) _ t.size (aO t.data.toList) rfl (Src.of_string underlying9 t) (C8 _) ke oM ?_;intro v2 w2 kf σ hl2 cn;rw[lK,oR] at kf;obtain⟨A2,fJ,rfl,Ea,nJ⟩:=kf.shape;have bn:=(HS.out.n_ t.size).still (σ.mono (fun b hb=>by simp[Value.ownBlock] at hb));have uJ:=τ bn kf;have c72:=bn.c72.1;have f72:=bn.blk.frozen 72;clear bn kf σ hl2 cn)
 go_loopw [] (fun wr=>∃(j:Nat) (A:Option Addr) (cap:Nat),64*j≤t.size∧kC w0 wr x (lQ j rf t.data.toList) (.slice A (t.size - 64*j) cap) t.size∧gK wr (.slice A (t.size - 64*j) cap) (t.data.toList.drop (64*j))∧(Value.slice A (t.size - 64*j) cap).ownBlock≠some x) (fun wr=>De wr x)
 case atStart =>
  have hne:=uJ.out.2.f_ uJ.out.1.blk dC;refine⟨0,A2,fJ,oM,uJ.out.1.ab' _,(gK.ku uJ.out.2).b9 hne _,hne⟩
 case round =>
  obtain⟨j,A,cap,hj,hS,hB,hne⟩:=hrel;have HX:=aq hS hB hne;obtain⟨c72,c73,-⟩:=hS.c72;have f72:=hS.blk.frozen 72;clear uJ HS H0 Ea nJ;by_cases hlt:64≤t.size - 64*j
  ·obtain⟨A',cap',e,Dr,th,hby⟩:=hB
   injection e with e1 e2 e3;subst e1 e3;have hl:(t.data.toList.drop (64*j)).length=t.size - 64*j:=by rw[jC];rfl
   rw[hl] at Dr;obtain⟨b,off,rfl,hb,hby⟩:=hby oM;obtain⟨L,hL⟩:=μ (t.size - 64*j);have Eg:=τ hL hj;obtain⟨h,hh⟩:=μ (lQ j rf t.data.toList);have HH:=δ hh;rw[hL] at c72 HX hlt hl hS Dr;rw[hh] at HX hS;obtain⟨a0,a1,a2,a3,a4,a5,a6,a7,rfl⟩:=eight hS.len;have hSd:=hS.still (ζ.refl (fun _=>False) wr).drew;have Ae:=δ hSd;obtain⟨q0,q1,q2,q3,q4,q5,q6,q7⟩:=hS.c8;have lE:=τ hl hby;have i1:(64:Int)≤(L:Int):=oM;have i2:(64:Int)≤(cap:Int):=oM;unfold maxLen at th;clear hS hSd hby e2 hl hL hj hh hne;go_wp2_with fail
   clear q0 q1 q2 q3 q4 q5 q6 q7;refine dW ?_;refine eo (S:=fun w'=>kC w0 w' x [a0,a1,a2,a3,a4,a5,a6,a7] (.slice (some ⟨b,off,none⟩) L cap) t.size) (T:=fun k=>k == 20) kR ?_;have aE:=Ae.out;refine tk 0 ?_ rfl pV
   simp only[av];refine tk 1 ?_ rfl pV
   simp only[av];refine tk 2 ?_ rfl pV
   simp only[av];refine tk 3 ?_ rfl pV
   simp only[av];refine tk 4 ?_ rfl pV
   simp only[av];refine tk 5 ?_ rfl pV
   simp only[av];refine tk 6 ?_ rfl pV
   simp only[av];refine tk 7 ?_ rfl pV
   simp only[av];refine tk 8 ?_ rfl pV
   simp only[av];refine tk 9 ?_ rfl pV
   simp only[av];refine tk 10 ?_ rfl pV
   simp only[av];refine tk 11 ?_ rfl pV
   simp only[av];refine tk 12 ?_ rfl pV
   simp only[av];refine tk 13 ?_ rfl pV
   simp only[av];refine tk 14 ?_ rfl pV
   simp only[av];refine tk 15 ?_ rfl pV
   simp only[av];refine tk 16 ?_ rfl pV
   simp only[av];refine Ri (i:=17) kR rfl (fun K hK=>?_);go_simp
   refine(abC [a0,a1,a2,a3,a4,a5,a6,a7] [a0,a1,a2,a3,a4,a5,a6,a7] oy ((t.data.toList.drop (64*j)).take 64) x 8 b off cap _ Ae.out.len Ae.out.len Fy.1 Ae.out.all Ae.out.all Fy.2 Ae.out.k_ Ae.out.blk.lt (by rw[iW,lE.out.1];omega) oM oM hb (fun i hi=>by
    rw[Mi,lE.out.2 i (by rw[lE.out.1];omega)];simp[List.getD_eq_getElem?_getD,hi])).mono ?_
   rintro e w3 ⟨rfl,χ⟩;have kg:=Ae.out.still χ;refine hK.out _ _ kg ?_;clear hK;refine tk 18 ?_ rfl adm
   simp only[av];refine tk 19 ?_ rfl adm
   simp only[av];refine Q9 (i:=20) kR rfl kR (fun K hK=>?_);obtain⟨h',yA⟩:∃h',zw [a0,a1,a2,a3,a4,a5,a6,a7] [a0,a1,a2,a3,a4,a5,a6,a7] oy ((t.data.toList.drop (64*j)).take 64)=h':=⟨_,rfl⟩;have yz:h'.length=8:=by rw[← yA,RC];rfl
   have acd:kB h':=by rw[← yA];exact Zv Ae.out.all
   rw[yA];refine Yr ak 377 _ _ ak x 0 (eG h') ak ak _ _ _ kg.blk (by rw[Fu,yz];have:=IV kg.len;simp[mL]) (ahC kg.len yz _ _) (Nf _) (by rw[Fu,yz];kernel_rfl) ?_
   intro w4 aJ au dh;refine hK.out _ _ ?_;have dH:=kg.h_ yz acd aJ au;have Eh:=aq dH (χ.trans au (H:=(· = x)) φ (fun _ e=>.inl e)) yA;have c72:=dH.c72.1;have f72:=dH.blk.frozen 72;clear hK kg dH aJ au dh yA yz acd χ aE;refine Q_ kR ?_ _;refine dz ?_;have de:∀(A':Option Addr) (cap':Nat),gK w4 (.slice A' (L - 64) cap') ((t.data.toList.drop (64*j)).drop 64)→(Value.slice A' (L - 64) cap').ownBlock≠some x →
    (∃(j:Nat) (A:Option Addr) (cap:Nat),64*j≤t.size∧kC w0 (w4.setCell ⟨x,72,none⟩ (.slice A' (L - 64) cap')) x (lQ j rf t.data.toList) (.slice A (t.size - 64*j) cap) t.size∧gK (w4.setCell ⟨x,72,none⟩ (.slice A' (L - 64) cap')) (.slice A (t.size - 64*j) cap) (t.data.toList.drop (64*j))∧(Value.slice A (t.size - 64*j) cap).ownBlock≠some x) ∧
    De (w4.setCell ⟨x,72,none⟩ (.slice A' (L - 64) cap')) x<De wr x:=by
    intro A' cap' h1 h2;have jO:=Eh.out.1.ab' (.slice A' (L - 64) cap');have B9:De (w4.setCell ⟨x,72,none⟩ (.slice A' (L - 64) cap')) x=L - 64:=by unfold De;rw[jO.c72.1]
    have hm2:De wr x=L:=by unfold De;rw[HX.out.1.c72.1]
    refine⟨⟨j+1,A',cap',by have:=Eg.out.1;omega,?_,?_,?_⟩,oM⟩
    ·rw[YU,HH.out,Eh.out.2.2,show t.size - 64*(j+1)=L - 64 by have:=Eg.out.1;omega]
     exact jO
    ·rw[show t.size - 64*(j+1)=L - 64 by have:=Eg.out.1;omega,show 64*(j+1)=64*j+64 by omega,← CW]
     exact h1.b9 h2 _
    ·rw[show t.size - 64*(j+1)=L - 64 by have:=Eg.out.1;omega]
     exact h2
   have aJ:gK w4 (.slice (some ⟨b,off,none⟩) L cap) (t.data.toList.drop (64*j)):=HX.out.2.1.ε ((ζ.refl (fun _=>False) wr).drew.trans Eh.out.2.1 (H:=(· = x)) φ (fun _ e=>.inl e)) (fun k hk e=>HX.out.2.2 (by rw[hk,e]));have HF:=δ de;have je:=τ aJ HX.out.2.2;clear de aJ;by_cases JC:cap=64
   ·subst JC
    obtain rfl:L=64:=oM;go_wp2_with fail
    refine HF.out _ _ ?_ je.out.2;exact On
   ·go_wp2_with fail
    refine HF.out _ _ ?_ je.out.2;by_cases TJ:L=64
    ·subst TJ
     exact On
    ·exact je.out.1.drop oM
  ·have hl:=δ (show t.size / 64=j by omega)
   have hlt':t.size - 64*j<64:=oM;go_wp2_with fail
   go_ret
   rw[hl.out];exact⟨_,rfl,HX.out.1,HX.out.2.1⟩
end
end Go.Proofs.YtbhjgfibhegddaaGreat
