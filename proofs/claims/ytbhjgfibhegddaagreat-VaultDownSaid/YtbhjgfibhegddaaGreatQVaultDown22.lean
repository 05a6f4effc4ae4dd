/-
  Parts of the proof of VaultDown: Plays17, VlPlay, FallV, FallW, VlFuse, Same, Wakes.
-/
import Derived.Test.YtbhjgfibhegddaaGreatQVaultDown21
import Derived.Lib.MinMax
set_option maxRecDepth 100000
set_option maxHeartbeats 16000000
namespace Go.Proofs.YtbhjgfibhegddaaGreat
section
open Go Go.RowKit
def batAt (x:ActM) (a e:Int):BatM:=if x.do_=0 then x.b else ⟨IntKind.i64.wrap (a+1),max x.b.epoch e,x.b.ops⟩
structure PlaysOn (w0:World) (p:Nat) (l:List ActM) (I:Nat→World→Nat→Int→Int→Prop):Prop where
 upd:∀ {k w v a e},I k w v a e→Upd (fun _=>False) w0 w
 still:∀ {k w w' v a e},I k w v a e→Upd (fun _=>False) w w'→I k w' v a e
 place:∀ {k w v a e},I k w v a e→Calls Tryz.prog 12 #[.pointer (some ⟨v,0,none⟩)] w fun r w'=>r=.returned (.tuple #[.int .i64 a,.int .i64 e])∧Upd (fun _=>False) w w'
 commit:∀ {k w v a e x},I k w v a e→l[k]? = some x→x.do_=0∨x.do_=1→Calls Tryz.prog 15 #[.pointer (some ⟨v,0,none⟩),.agg #[.int .i64 (batAt x a e).index,.int .i64 (batAt x a e).epoch,x.ov]] w fun r w'=>∃n a' e',r=.returned (.int .i64 n)∧I (k+1) w' v a' e'
 set_:∀ {k w v a e x},I k w v a e→l[k]? = some x→x.do_=2→Calls Tryz.prog 24 #[.pointer (some ⟨v,0,none⟩),.agg (metaRow x.m x.mv)] w fun r w'=>∃n a' e',r=.returned (.int .i64 n)∧I (k+1) w' v a' e'
 install:∀ {k w v a e x},I k w v a e→l[k]? = some x→x.do_=3→Calls Tryz.prog 21 #[.pointer (some ⟨v,0,none⟩),.agg (metaRow x.m x.mv),x.lv,.int .i64 x.at_,.int .i64 x.ep] w fun r w'=>∃n a' e',r=.returned (.int .i64 n)∧I (k+1) w' v a' e'
 rotate:∀ {k w v a e x},I k w v a e→l[k]? = some x→x.do_=4→Calls Tryz.prog 34 #[.pointer (some ⟨v,0,none⟩)] w fun r w'=>∃n a' e',r=.returned (.int .i64 n)∧I (k+1) w' v a' e'
 open_:∀ {k w v a e x},I k w v a e→l[k]? = some x→x.do_=5→Calls Tryz.prog 16 #[.pointer (some ⟨p,0,none⟩),.string (str masterL)] w fun r w'=>∃u a' e',r=.returned (.tuple #[.pointer (some ⟨u,0,none⟩),.int .i64 0])∧I (k+1) w' u a' e'
 none_:∀ {k w v a e x},I k w v a e→l[k]? = some x→5<x.do_→I (k+1) w v a e
def actCells (x:ActM) (S:ByteArray):Array Value:=#[.int .u8 (x.do_.toNat:Int),.int .i64 x.b.index,.int .i64 x.b.epoch,x.ov,.int .i64 x.m.role,.int .i64 x.m.seen,.int .i64 x.m.grant,x.mv,.string S,x.lv,.int .i64 x.at_,.int .i64 x.ep]
theorem RIn.one {w:World} {k:Nat} {v:Value} {cs:List (List Value)} (h:RIn w k v cs):v.oneCell'=true:=by
 obtain ⟨A,cap,rfl,-⟩:=h;rfl
theorem act_one {x:ActM} {S:ByteArray} (h1:x.ov.oneCell'=true) (h2:x.mv.oneCell'=true) (h3:x.lv.oneCell'=true):(actCells x S).all (·.oneCell')=true:=by
 simp only [actCells,List.all_toArray,List.all_cons,List.all_nil,h1,h2,h3,Bool.and_true];rfl
theorem plays_c {w0 w:World} {p v:Nat} {l:List ActM} {lv:Value} {I:Nat→World→Nat→Int→Int→Prop} {a e:Int} (hP:PlaysOn w0 p l I) (hA:IsActs17 w0 lv l) (hI:I 0 w v a e) :
 Calls Tryz.prog 31 #[.pointer (some ⟨p,0,none⟩),.pointer (some ⟨v,0,none⟩),lv] w fun r w'=>∃u a' e',r=.returned (.pointer (some ⟨u,0,none⟩))∧I l.length w' u a' e':=by
 obtain ⟨A,cap,bA,off,rfl,hcap,hm,hA0,hcells⟩:=hA.rows.open_still;rw [List.length_map] at hm hA0 hcap ⊢;have HR:=Lib.hid hcells;have HE:=Lib.hid hA.each;have HP:=Lib.hid hP;have HI:=Lib.hid hI;clear hcells hA hP hI;go_enter Tryz.func31,Tryz.ntmps31
 go_wp2_with fail
 go_loopw [1,7] (fun u i wr=>∃(k v:Nat) (a e:Int),k≤l.length∧i=.int .i64 k∧u=.pointer (some ⟨v,0,none⟩)∧I k wr v a e) (fun _ i _=>l.length - (intOf i).toNat)
 case atStart=>exact ⟨0,v,a,e,by omega,rfl,rfl,HI.out⟩
 case round =>
  obtain ⟨k,u,pa,pe,hk,rfl,rfl,hI⟩:=hrel;have HJ:=Lib.hid hI;clear hI;by_cases hlt:k<l.length
  ·obtain rfl:=hA0 (by omega)
   obtain ⟨x,hx⟩:∃x,l[k]? = some x:=⟨_,List.getElem?_eq_getElem hlt⟩;obtain ⟨S,hS⟩:=eqx (str x.m.secret);obtain ⟨D,hD⟩:∃D:Int,(x.do_.toNat:Int)=D:=⟨_,rfl⟩;have hrow:wr.rangeAt bA (off+k*12) [.int .u8 D,.int .i64 x.b.index,.int .i64 x.b.epoch,x.ov,.int .i64 x.m.role,.int .i64 x.m.seen,.int .i64 x.m.grant,x.mv,.string S,x.lv,.int .i64 x.at_,.int .i64 x.ep]:=by
    have:=HR.out wr (HP.out.upd HJ.out) k x.row (by rw [List.getElem?_map,hx];rfl)
    unfold ActM.row at this;rw [hS,hD] at this;exact this
   have hin:=HE.out x (List.mem_of_getElem? hx);have hone:=act_one (S:=S) hin.bat.ops.rows.one hin.met.rows.one hin.prs.rows.one;unfold actCells at hone;rw [hD] at hone;obtain ⟨oA,ocap,hov,-⟩:=hin.bat.ops.rows;obtain ⟨on,hon⟩:∃n,(x.b.ops.map opRow).length=n:=⟨_,rfl⟩;rw [hon] at hov;rw [hov] at hrow hone;obtain ⟨q,hq⟩:=eqx wr.heap.size;have hmeta:metaRow x.m x.mv=#[.int .i64 x.m.role,.int .i64 x.m.seen,.int .i64 x.m.grant,x.mv,.string S]:=by rw [← hS];rfl
   have HRW:=Lib.hid hrow;have HX:=h7k hx hone hq hD hlt hmeta hov;have j1:(k:Int)<(l.length:Int):=by omega
   have hwk:IntKind.i64.wrap ((k:Int)+1)=(k:Int)+1:=IntWalk.i64_in _ (by omega);clear hrow hin hone hq hx hS hD hmeta hov hon;go_upto_region 5 with (first
    | (refine wpList_load_mid rfl _ _ rfl bA (off+k*12) rfl [.int .u8 D,.int .i64 x.b.index,.int .i64 x.b.epoch,.slice oA on ocap,.int .i64 x.m.role,.int .i64 x.m.seen,.int .i64 x.m.grant,x.mv,.string S,x.lv,.int .i64 x.at_,.int .i64 x.ep] _ HRW.out Tryz.underlying65 rfl (by kernel_rfl) ?_)
    | (refine wpList_store_all rfl 65 _ _ rfl wr.heap.size #[.int .u8 D,.int .i64 x.b.index,.int .i64 x.b.epoch,.slice oA on ocap,.int .i64 x.m.role,.int .i64 x.m.seen,.int .i64 x.m.grant,x.mv,.string S,x.lv,.int .i64 x.at_,.int .i64 x.ep] rfl rfl _ _ (Blk.new wr _ _) rfl HX.out.2.1 (by kernel_rfl) ?_
       intro w2 hB2 hU2 hz2))
   rw [HX.out.2.2.1] at hB2 hU2 ⊢;have hU12:Upd (fun _=>False) wr w2:=((Upd.refl _ wr).alloc _).then hU2 (fun b e=>.inr (by have e2:b=q:=e;have:=HX.out.2.2.1;omega));have HPL:=Lib.hid (HP.out.place (HP.out.still HJ.out hU12));have H2:=h2k hB2 (HP.out.still HJ.out hU12);clear hB2 hU2 hU12 hz2;go_upto_region 6 with (first
    | (go_at_call 12;refine HPL.out.mono ?_;rintro r w3 ⟨rfl,hU3⟩
       have hB3:=H2.out.1.upd hU3 (fun e=>e);have H3:=h2k hB3 (HP.out.still H2.out.2 hU3);clear hU3 hB3))
   have c0:w3.cell? ⟨q,0,none⟩=some (.int .u8 D):=H3.out.1.cell 0;have c1:w3.cell? ⟨q,1,none⟩=some (.int .i64 x.b.index):=H3.out.1.cell 1;have c2:w3.cell? ⟨q,2,none⟩=some (.int .i64 x.b.epoch):=H3.out.1.cell 2;have c3:w3.cell? ⟨q,3,none⟩=some (.slice oA on ocap):=H3.out.1.cell 3;have c4:w3.cell? ⟨q,4,none⟩=some (.int .i64 x.m.role):=H3.out.1.cell 4;have c5:w3.cell? ⟨q,5,none⟩=some (.int .i64 x.m.seen):=H3.out.1.cell 5;have c6:w3.cell? ⟨q,6,none⟩=some (.int .i64 x.m.grant):=H3.out.1.cell 6;have c7:w3.cell? ⟨q,7,none⟩=some x.mv:=H3.out.1.cell 7;have c8:w3.cell? ⟨q,8,none⟩=some (.string S):=H3.out.1.cell 8;have c9:w3.cell? ⟨q,9,none⟩=some x.lv:=H3.out.1.cell 9;have c10:w3.cell? ⟨q,10,none⟩=some (.int .i64 x.at_):=H3.out.1.cell 10;have c11:w3.cell? ⟨q,11,none⟩=some (.int .i64 x.ep):=H3.out.1.cell 11;have hd8:x.do_=0∨x.do_=1∨x.do_=2∨x.do_=3∨x.do_=4∨x.do_=5∨5<x.do_:=by
    rcases Nat.lt_or_ge 5 x.do_.toNat with h | h
    ·exact .inr (.inr (.inr (.inr (.inr (.inr (by rw [UInt8.lt_iff_toNat_lt];exact h))))))
    ·have hz:∀n:Nat,n≤5→x.do_.toNat=n→x.do_=UInt8.ofNat n:=fun n hn e=>UInt8.toNat_inj.1 (by rw [e,UInt8.toNat_ofNat'];omega)
     rcases (show x.do_.toNat=0∨x.do_.toNat=1∨x.do_.toNat=2∨x.do_.toNat=3∨x.do_.toNat=4∨x.do_.toNat=5 by omega) with e | e | e | e | e | e
     ·exact .inl (hz 0 (by omega) e)
     ·exact .inr (.inl (hz 1 (by omega) e))
     ·exact .inr (.inr (.inl (hz 2 (by omega) e)))
     ·exact .inr (.inr (.inr (.inl (hz 3 (by omega) e))))
     ·exact .inr (.inr (.inr (.inr (.inl (hz 4 (by omega) e)))))
     ·exact .inr (.inr (.inr (.inr (.inr (.inl (hz 5 (by omega) e))))))
   rcases hd8 with hd | hd | hd | hd | hd | hd | hd
   ·obtain rfl:D=0:=by rw [← HX.out.2.2.2.1,hd];rfl
    have HC:=HP.out.commit H3.out.2 HX.out.1 (.inl hd);rw [HX.out.2.2.2.2.2.2] at HC;rw [show batAt x pa pe=x.b by unfold batAt;rw [if_pos hd]] at HC;have HC:=Lib.hid HC;clear hd;go_wp2_with (first
     | (go_at_call 15;refine HC.out.mono ?_;rintro r w4 ⟨n2,a2,e2,rfl,hI⟩
        have HY:=Lib.hid hI;clear hI))
    go_roundw
    case rel=>exact ⟨k+1,u,a2,e2,by omega,by simp,rfl,HY.out⟩
    case measure=>simp [intOf]<;>omega
   ·obtain rfl:D=1:=by rw [← HX.out.2.2.2.1,hd];rfl
    have HC:=HP.out.commit H3.out.2 HX.out.1 (.inr hd);rw [HX.out.2.2.2.2.2.2] at HC;rw [show batAt x pa pe=⟨IntKind.i64.wrap (pa+1),max x.b.epoch pe,x.b.ops⟩ by unfold batAt;rw [if_neg (by rw [hd];decide)]] at HC
    have hmax:∀W,(Builtin.max_ #[3,3] 3 #[.int .i64 x.b.epoch,.int .i64 pe]).run Tryz.prog W=.ok (.int .i64 (max x.b.epoch pe)) W:=fun W=>Lib.run_max_ints W _ _ _ _ _ _
    obtain ⟨mx,hmx⟩:∃m,max x.b.epoch pe=m:=⟨_,rfl⟩;obtain ⟨ix,hix⟩:∃m,IntKind.i64.wrap (pa+1)=m:=⟨_,rfl⟩;rw [hmx] at hmax;rw [hmx,hix] at HC;have HC:=Lib.hid HC;clear hd;go_wp2_with (first
     | (go_at_call 15;refine HC.out.mono ?_;rintro r w4 ⟨n2,a2,e2,rfl,hI⟩
        have HY:=Lib.hid hI;clear hI))
    go_roundw
    case rel=>exact ⟨k+1,u,a2,e2,by omega,by simp,rfl,HY.out⟩
    case measure=>simp [intOf]<;>omega
   ·obtain rfl:D=2:=by rw [← HX.out.2.2.2.1,hd];rfl
    have HC:=HP.out.set_ H3.out.2 HX.out.1 hd;rw [HX.out.2.2.2.2.2.1] at HC;have HC:=Lib.hid HC;clear hd;go_wp2_with (first
     | (go_at_call 24;refine HC.out.mono ?_;rintro r w4 ⟨n2,a2,e2,rfl,hI⟩
        have HY:=Lib.hid hI;clear hI))
    go_roundw
    case rel=>exact ⟨k+1,u,a2,e2,by omega,by simp,rfl,HY.out⟩
    case measure=>simp [intOf]<;>omega
   ·obtain rfl:D=3:=by rw [← HX.out.2.2.2.1,hd];rfl
    have HC:=HP.out.install H3.out.2 HX.out.1 hd;rw [HX.out.2.2.2.2.2.1] at HC;have HC:=Lib.hid HC;clear hd;go_wp2_with (first
     | (go_at_call 21;refine HC.out.mono ?_;rintro r w4 ⟨n2,a2,e2,rfl,hI⟩
        have HY:=Lib.hid hI;clear hI))
    go_roundw
    case rel=>exact ⟨k+1,u,a2,e2,by omega,by simp,rfl,HY.out⟩
    case measure=>simp [intOf]<;>omega
   ·obtain rfl:D=4:=by rw [← HX.out.2.2.2.1,hd];rfl
    have HC:=HP.out.rotate H3.out.2 HX.out.1 hd;have HC:=Lib.hid HC;clear hd;go_wp2_with (first
     | (go_at_call 34;refine HC.out.mono ?_;rintro r w4 ⟨n2,a2,e2,rfl,hI⟩
        have HY:=Lib.hid hI;clear hI))
    go_roundw
    case rel=>exact ⟨k+1,u,a2,e2,by omega,by simp,rfl,HY.out⟩
    case measure=>simp [intOf]<;>omega
   ·obtain rfl:D=5:=by rw [← HX.out.2.2.2.1,hd];rfl
    have HC:=HP.out.open_ H3.out.2 HX.out.1 hd;have HC:=Lib.hid HC;clear hd;go_wp2_with (first
     | (go_at_call 16;refine HC.out.mono ?_;rintro r w4 ⟨u2,a2,e2,rfl,hI⟩
        have HY:=Lib.hid hI;clear hI))
    go_roundw
    case rel=>exact ⟨k+1,u2,a2,e2,by omega,by simp,rfl,HY.out⟩
    case measure=>simp [intOf]<;>omega
   ·have hD5:5<D:=by rw [← HX.out.2.2.2.1];have:=UInt8.lt_iff_toNat_lt.1 hd;exact_mod_cast this
    have e0:(D == (0:Int))=false:=by rw [beq_eq_false_iff_ne];omega
    have e1:(D == (1:Int))=false:=by rw [beq_eq_false_iff_ne];omega
    have e2:(D == (2:Int))=false:=by rw [beq_eq_false_iff_ne];omega
    have e3:(D == (3:Int))=false:=by rw [beq_eq_false_iff_ne];omega
    have e4:(D == (4:Int))=false:=by rw [beq_eq_false_iff_ne];omega
    have e5:(D == (5:Int))=false:=by rw [beq_eq_false_iff_ne];omega
    have HY:=Lib.hid (HP.out.none_ H3.out.2 HX.out.1 hd);clear hd;go_wp2_with fail
    go_roundw
    case rel=>exact ⟨k+1,u,pa,pe,by omega,by simp,rfl,HY.out⟩
    case measure=>simp [intOf]<;>omega
  ·have j1:¬((k:Int)<(l.length:Int)):=by omega
   go_wp2_with fail
   go_ret
   obtain rfl:k=l.length:=by omega
   exact ⟨u,rfl,pa,pe,HJ.out⟩
end
section
open Go Go.RowKit
section
variable {w0 w w':World} {p v:Nat} {R:RvM} {boot c:Nat} {M:Nat→Prop}
end
theorem IsActs17.still {w w':World} {v:Value} {l:List ActM} (h:IsActs17 w v l) (hu:Upd (fun _=>False) w w'):IsActs17 w' v l:=⟨h.rows.still hu,fun a ha=>(h.each a ha).still hu⟩
theorem IsActs17.one {w:World} {b off cap:Nat} {l:List ActM} (h:IsActs17 w (.slice (some ⟨b,off,none⟩) l.length cap) l) {k:Nat} (hk:k<l.length):IsActs17 w (.slice (some ⟨b,off+k*12,none⟩) 1 (cap - k)) [l[k]]:=by
 refine ⟨?_,fun a ha=>h.each a (by rw [List.mem_singleton.1 ha];exact List.getElem_mem hk)⟩;obtain ⟨A,cap',e,h2,h3,h4⟩:=h.rows;rw [List.length_map] at h2 h3 h4;injection e with e1 e2 e3;subst e3;obtain ⟨b',off',cur,t,fr,f1,f2,f3⟩:=h4 (by omega);rw [f1] at e1;injection e1 with e1;injection e1 with g1 g2 g3;subst g1 g2;refine ⟨_,_,rfl,by simp;omega,by simp,fun _=>⟨_,_,cur,t,fr,rfl,f2,fun i c hc j u hj=>?_⟩⟩;cases i with
 | zero =>
   have hc2:(l[k]).row=c:=by simpa using hc
   rw [Nat.zero_mul,Nat.add_zero];exact f3 k c (by rw [List.getElem?_map,List.getElem?_eq_getElem hk,← hc2];rfl) j u hj
 | succ i=>simp at hc
theorem trow_all {w w':World} {m mb:Nat} {S:List PairM} {v:Value} (h:Own w' 55 2 v S.length (pairsV S)) (hm:MapAt w m mb S):TRow w' 55 2 v (S.map pairRow):=by
 have:=hm.ok.len;exact TRow.of_own (n:=S.length) (by rw [← List.flatMap_def];exact h) (by rw [List.length_map]) (by omega) (fun c hc=>by obtain ⟨p,-,rfl⟩:=List.mem_map.1 hc;rfl)
end
section
open Go Go.RowKit
def Two {α : Type} (Q:Dk→Prop) (r r0:Dk × α × Int):Prop:=(r.1.off=false∧r.1.free=r0.1∧r.2=r0.2)∨(r.1.off=true∧r.2.2=14∧Q r.1)
theorem Two.imp {α : Type} {Q Q':Dk→Prop} {r r0:Dk × α × Int} (h:Two Q r r0) (hq:Q r.1→Q' r.1):Two Q' r r0:=Or.imp id (fun ⟨a,b,e⟩=>⟨a,b,hq e⟩) h
theorem Two.same {α : Type} {Q:Dk→Prop} {d:Dk} (ho:d.off=false) (x : α × Int):Two Q (d,x) (d.free,x):=.inl ⟨ho,rfl,rfl⟩
def TornD (d D:Dk) (a:Nat) (l:List ByteArray) (n:Nat):Prop:=∃k,k≤n∧D.free=(writeB d.free a l k).1
def wsync (d:Dk) (a:Nat) (l:List ByteArray) (n:Nat):Dk × Int:=if (writeB d a l n).2≠0 then writeB d a l n else (writeB d a l n).1.sync
theorem wsync_two {d:Dk} (ho:d.off=false) (hw:d.waits.length=d.lasts.length) (a:Nat) (l:List ByteArray) (hs:∀q ∈ l,q.size=64) (n:Nat) (hn:n≤l.length) (ha:a+n≤d.lasts.length) :
 ((wsync d a l n).2=0∧(wsync d a l n).1.off=false∧(wsync d a l n).1.free=(wsync d.free a l n).1∧(wsync d.free a l n).2=0) ∨
 ((wsync d a l n).2=14∧(wsync d a l n).1.off=true∧TornD d (wsync d a l n).1 a l n):=by
 rcases writeB_two ho hw a l hs n hn ha with ⟨t1,t2,t3⟩ | ⟨t1,t2,k,t3,t4⟩
 ·obtain ⟨f1,f2,f3,f4⟩:=writeB_free (d:=d.free) rfl rfl hw a l hs n hn ha
  have e0:wsync d.free a l n=((writeB d.free a l n).1.flush,0):=by
   unfold wsync;rw [if_neg (by rw [f1];simp),Dk.sync_free f2 f3]
  have e1:wsync d a l n=(writeB d a l n).1.sync:=by
   unfold wsync;rw [if_neg (by rw [t1];simp)]
  rw [e0,e1];rcases Dk.sync_two t2 with ⟨u1,u2,u3⟩ | ⟨u1,u2,u3⟩
  ·exact .inl ⟨u1,u2,by rw [u3,t3],rfl⟩
  ·exact .inr ⟨u1,u2,n,Nat.le_refl _,by rw [u3,t3]⟩
 ·have e1:wsync d a l n=writeB d a l n:=by
   unfold wsync;rw [if_pos (by rw [t1];simp)]
  rw [e1];exact .inr ⟨t1,t2,k,t3,t4⟩
structure Crashed (d D:Dk) (a:Nat) (l:List ByteArray) (n:Nat):Prop where
 fuse:D.fuse=-1
 off:D.off=false
 waits:D.waits.length=D.lasts.length
 len:D.lasts.length=d.lasts.length
 pend:D.pend=0
 now:∀i,i<d.lasts.length→D.now i=d.now i∨(a≤i∧i<a+n∧D.now i=l.getD (i - a) ByteArray.empty)
theorem TornD.crash {d D:Dk} {a:Nat} {l:List ByteArray} {n:Nat} (hT:TornD d D a l n) (hw:d.waits.length=d.lasts.length) (h0:d.pend=0) (hs:∀q ∈ l,q.size=64) (hn:n≤l.length) (ha:a+n≤d.lasts.length) (hwf:D.wf) (keep:List Int):Crashed d (D.crash keep) a l n:=by
 obtain ⟨k,hk,hD⟩:=hT;obtain ⟨s1,s2,s3⟩:=writeB_same d.free a l hw k;have hl:D.lasts.length=d.lasts.length:=congrArg List.length ((congrArg Dk.lasts hD).trans s1);have hlw:D.waits.length=d.waits.length:=(congrArg (fun x:Dk=>x.waits.length) hD).trans s2;refine ⟨rfl,rfl,by rw [Dk.crash_waits',Dk.crash_len',hlw,hl,hw],by rw [Dk.crash_len',hl],Dk.crash_pend hwf keep,fun i hi=>?_⟩;rcases torn_now hw h0 a l hs k (by omega) (by omega) hD keep i hi with e | ⟨e1,e2,e3⟩
 ·exact .inl e
 ·exact .inr ⟨e1,by omega,e3⟩
theorem putK_w (d:Dk) {k:Kp} {t:List UInt8} (hb:k.broken=false) (ht:t.length≤400) (hs:k.seen+1<18446744073709551616) :
 putK d k t=if (wsync d (k.from_+(1 - k.at_)*10) ((cutL t (k.seen+1)).map Pt.sec) (allOf t.length)).2≠0 then ((wsync d (k.from_+(1 - k.at_)*10) ((cutL t (k.seen+1)).map Pt.sec) (allOf t.length)).1,{ k with broken:=true },(wsync d (k.from_+(1 - k.at_)*10) ((cutL t (k.seen+1)).map Pt.sec) (allOf t.length)).2)
  else ((wsync d (k.from_+(1 - k.at_)*10) ((cutL t (k.seen+1)).map Pt.sec) (allOf t.length)).1,k.put t,0):=by
 have hcl:=cutL_len t (k.seen+1);unfold putK wsync;rw [hb,if_neg (by simp),if_neg (by omega),if_neg (by omega),writeN_B _ _ _ _ (by omega)];by_cases h:(writeB d (k.from_+(1 - k.at_)*10) ((cutL t (k.seen+1)).map Pt.sec) (allOf t.length)).2≠0
 ·rw [if_pos h,if_pos h,if_pos h]
 ·rw [if_neg h,if_neg h]
  rfl
theorem addG_ws (d:Dk) {g:Lg} {s:ByteArray} (hb:g.broken=false) (hs:s.size≤1024) (hf:partsOf s.size≤g.sectors - g.used) (hsa:g.salt≠18446744073709551615) :
 addG d g s=if (wsync d (g.from_+g.used) (secsG g s.data.toList) (partsOf s.size)).2≠0 then ((wsync d (g.from_+g.used) (secsG g s.data.toList) (partsOf s.size)).1,{ g with broken:=true },(wsync d (g.from_+g.used) (secsG g s.data.toList) (partsOf s.size)).2)
  else ((wsync d (g.from_+g.used) (secsG g s.data.toList) (partsOf s.size)).1,g.added s,0):=by
 have hl:s.data.toList.length=s.size:=by simp
 unfold addG wroteG wsync;rw [hb,if_neg (by simp),if_neg (by omega),if_neg (by omega),hl];by_cases h:(writeB d (g.from_+g.used) (secsG g s.data.toList) (partsOf s.size)).2≠0
 ·rw [if_pos h,if_pos h,if_pos h]
 ·rw [if_neg h,if_neg h]
  rfl
theorem writeSlotD_w (d:Dk) {slot:Nat} {t:List UInt8} (h:slotN t≤80):writeSlotD d slot t=wsync d (placeN slot) (slotSecs t) (slotN t):=by
 unfold writeSlotD wsync;rw [if_neg (by omega)]
theorem two_of_w {α : Type} {d:Dk} {a:Nat} {l:List ByteArray} {n:Nat} (x y : α) (h:((wsync d a l n).2=0∧(wsync d a l n).1.off=false∧(wsync d a l n).1.free=(wsync d.free a l n).1∧(wsync d.free a l n).2=0) ∨
 ((wsync d a l n).2=14∧(wsync d a l n).1.off=true∧TornD d (wsync d a l n).1 a l n)) :
 Two (fun D=>TornD d D a l n) (if (wsync d a l n).2≠0 then ((wsync d a l n).1,x,(wsync d a l n).2) else ((wsync d a l n).1,y,0)) (if (wsync d.free a l n).2≠0 then ((wsync d.free a l n).1,x,(wsync d.free a l n).2) else ((wsync d.free a l n).1,y,0)):=by
 rcases h with ⟨h1,h2,h3,h4⟩ | ⟨h1,h2,h3⟩
 ·rw [if_neg (by rw [h1];simp),if_neg (by rw [h4];simp)]
  exact .inl ⟨h2,h3,rfl⟩
 ·rw [if_pos (by rw [h1];simp)]
  exact .inr ⟨h2,h1,h3⟩
section
variable {d:Dk} {k:Kp} {g:Lg} {L0 L1:List (Option Pt)} {rs:List (List UInt8 × Nat)} {R:List (Option Lp)}
theorem KeptG.secs (h:KeptG d k L0 L1) (t:List UInt8) (ht:t.length≤400) (hs:k.seen+1<18446744073709551616):(∀q ∈ (cutL t (k.seen+1)).map Pt.sec,q.size=64)∧allOf t.length≤((cutL t (k.seen+1)).map Pt.sec).length∧k.from_+(1 - k.at_)*10+allOf t.length≤d.lasts.length:=by
 have e64:(2:Nat) ^ (8*8)=18446744073709551616:=by decide
 have hat:=h.at_;have hroom:=h.room;have hall:allOf t.length≤9:=by unfold allOf;omega
 have hok:=cutL_ok t (k.seen+1) (by omega) (by omega) ht;have hcl:=cutL_len t (k.seen+1);refine ⟨fun q hq=>?_,by rw [List.length_map,hcl];exact Nat.le_refl _,by omega⟩;obtain ⟨p,hp,rfl⟩:=List.mem_map.1 hq;exact sec_size p (hok p hp)
theorem KeptG.two_put (h:KeptG d.free k L0 L1) (ho:d.off=false) (t:List UInt8) (ht:t.length≤400) (hs:k.seen+1<18446744073709551616) :
 Two (fun D=>TornD d D (k.from_+(1 - k.at_)*10) ((cutL t (k.seen+1)).map Pt.sec) (allOf t.length)) (putK d k t) (putK d.free k t):=by
 obtain ⟨s1,s2,s3⟩:=h.secs t ht hs;rw [putK_w d h.broken ht hs,putK_w d.free h.broken ht hs];exact two_of_w _ _ (wsync_two ho h.waits _ _ s1 _ s2 s3)
theorem KeptG.torn_put (h:KeptG d.free k L0 L1) (hp:d.pend=0) (t:List UInt8) (ht:t.length≤400) (hs:k.seen+1<18446744073709551616) {D:Dk} (hT:TornD d D (k.from_+(1 - k.at_)*10) ((cutL t (k.seen+1)).map Pt.sec) (allOf t.length)) (hwf:D.wf) (keep:List Int) :
 ∃ k' L0' L1',KeptG (D.crash keep) k' L0' L1'∧k'.from_=k.from_∧k'.seen≤k.seen+1∧(k'=k.put t∨(k'.text=k.text∧k'.gen=k.gen))∧(D.crash keep).lasts.length=d.lasts.length∧(D.crash keep).pend=0 ∧
  ∀i,i<d.lasts.length→(i<k.from_∨k.from_+20≤i)→(D.crash keep).now i=d.now i:=by
 obtain ⟨s1,s2,s3⟩:=h.secs t ht hs;have hC:=hT.crash h.waits hp s1 s2 s3 hwf keep;obtain ⟨k',L0',L1',m1,m2,m3,m4,-⟩:=h.mix t ht hs hC.fuse hC.off hC.waits hC.len hC.now;have hat:=h.at_;have hall:allOf t.length≤9:=by unfold allOf;omega
 refine ⟨k',L0',L1',m1,m2,m3,m4,hC.len,hC.pend,fun i hi ho=>?_⟩;rcases hC.now i hi with e | ⟨e1,e2,-⟩
 ·exact e
 ·omega
theorem LogIs.secs (h:LogIs d g rs R) (s:ByteArray) (hs:s.size≤1024) (hr:partsOf s.size≤R.length) (hsalt:g.salt<18446744073709551615):(∀q ∈ secsG g s.data.toList,q.size=64)∧partsOf s.size≤(secsG g s.data.toList).length∧g.from_+g.used+partsOf s.size≤d.lasts.length:=by
 have e64:(2:Nat) ^ (8*8)=18446744073709551616:=by decide
 have hl64:s.data.toList.length=s.size:=by simp
 have hep:=h.epoch;have hll:=h.last_le;have hlen:=h.len;have hu:=h.used;have hro:=h.room;have hok:=cutG_ok s.data.toList g.epoch (g.salt+1) g.last h.epoch0 (by omega) (by omega) (by omega) (by omega);have hsl:=secsG_len g s.data.toList;rw [hl64] at hsl;refine ⟨fun q hq=>?_,by omega,by omega⟩;obtain ⟨p,hp,rfl⟩:=List.mem_map.1 hq;exact secG_size p (hok p hp)
theorem LogIs.two_add (h:LogIs d.free g rs R) (ho:d.off=false) (s:ByteArray) (hs:s.size≤1024) (hr:partsOf s.size≤R.length) (hsalt:g.salt<18446744073709551615) :
 Two (fun D=>TornD d D (g.from_+g.used) (secsG g s.data.toList) (partsOf s.size)) (addG d g s) (addG d.free g s):=by
 obtain ⟨s1,s2,s3⟩:=h.secs s hs hr hsalt;have hlen:=h.len;have hu:=h.used;rw [addG_ws d h.broken hs (by omega) (by omega),addG_ws d.free h.broken hs (by omega) (by omega)];exact two_of_w _ _ (wsync_two ho h.waits _ _ s1 _ s2 s3)
end
def Rest (D:Dk) (R:RvM) (c:Nat):Prop:=∃V S0,VtG D V S0 c∧V.abs=R
def Falls (R:RvM) (r:RvM × Int) (c:Nat) (D:Dk):Prop:=∀keep,D.wf→∃R2,Rest (D.crash keep) R2 c∧(R2=R∨(r.2=0∧R2=r.1)∨(R.rows.length=24∧R2=R.forgot))
theorem VtG.mono {d:Dk} {V:VtM} {S0:List PairM} {c c':Nat} (h:VtG d V S0 c) (hc:c≤c'):VtG d V S0 c' := { h with vdk:=h.vdk.mono hc,num:=Nat.le_trans h.num hc }
theorem Rest.mono {D:Dk} {R:RvM} {c c':Nat} (h:Rest D R c) (hc:c≤c'):Rest D R c':=by
 obtain ⟨V,S0,h1,h2⟩:=h;exact ⟨V,S0,h1.mono hc,h2⟩
theorem putV_two {Q:Dk→Prop} {d:Dk} {V:VtM} {s:StM} (h:Two Q (putK d V.kp (stB s (V.wrap sSecret s.m.secret))) (putK d.free V.kp (stB s (V.wrap sSecret s.m.secret)))):Two Q (putV d V s) (putV d.free V s):=by
 unfold putV;generalize putK d V.kp (stB s (V.wrap sSecret s.m.secret))=X at h;generalize putK d.free V.kp (stB s (V.wrap sSecret s.m.secret))=Y at h;obtain ⟨x1,x2,x3⟩:=X;obtain ⟨y1,y2,y3⟩:=Y;rcases h with ⟨h1,h2,h3⟩ | ⟨h1,h2,h3⟩
 ·simp only [Prod.mk.injEq] at h1 h2 h3
  obtain ⟨rfl,rfl⟩:=h3;simp only
  by_cases e:x3≠0
  ·rw [if_pos e,if_pos e];exact .inl ⟨h1,h2,rfl⟩
  ·rw [if_neg e,if_neg e];exact .inl ⟨h1,h2,rfl⟩
 ·simp only at h1 h2 h3
  simp only
  rw [if_pos (by rw [h2];simp)]
  exact .inr ⟨h1,h2,h3⟩
section
variable {d:Dk} {V:VtM} {S0:List PairM} {c:Nat}
theorem VtG.two_puts (h:VtG d.free V S0 c) (hc:c<99000) (ho:d.off=false) (s':StM) (h1:s'.at_=V.st.at_) (h2:s'.epoch=V.st.epoch) (h3:s'.slot=V.st.slot) (h4:s'.log=V.st.log) (h5:V.st.key≤s'.key) (h5b:s'.key≤c+1) (h6:s'.boot≤c+1) (h6b:V.st.boot≤s'.boot) (h7:rightM s'.m=true)
 (h8:s'.m.seen≤9223372036854775807∧s'.m.grant≤9223372036854775807) (V0:VtM) (hkp:V0.kp=V.kp) (ht:Sealed s'.key sSecret s'.m.secret (V0.wrap sSecret s'.m.secret)) :
 Two (fun D=>∀keep,D.wf→∃R2,Rest (D.crash keep) R2 (c+1)∧(R2=V.abs∨R2 = { V.abs with m:=s'.m,key:=s'.key })) (putV d V0 s') (putV d.free V0 s'):=by
 obtain ⟨L0,L1,hk⟩:=h.vdk.kept;have hse:=h.vdk.kseen;have hln:=h.vdk.put_len (by omega) s' h1 h2 h3 h4 h5b h6 h7 h8 ht;have hT:=hk.two_put ho (stB s' (V0.wrap sSecret s'.m.secret)) hln (by omega);rw [← hkp] at hT;refine (putV_two hT).imp fun hD keep hwf=>?_
 rw [hkp] at hD;obtain ⟨k',L0',L1',m1,m2,m3,m4,m5,m6,m7⟩:=hk.torn_put h.vdk.good.pend _ hln (by omega) hD hwf keep;have hgen:=h.gen;have hbt:=h.boot;have hnum:=h.num;rcases m4 with rfl | ⟨m4,m8⟩
 ·refine ⟨_,⟨{ V with kp:=V.kp.put (stB s' (V0.wrap sSecret s'.m.secret)),st:=s',cur:=s'.key },S0,⟨h.vdk.put_is s' h1 h2 h3 h4 h5 h5b h6 h7 (.inr ⟨by show 0<V.kp.seen+1;omega,_,ht,rfl⟩) h.vdk.kfrom (by show V.kp.seen+1≤c+1;omega) m1 m5 m6 m7,?_,?_,rfl,by show V.n≤_;omega,h.up,h.eps,by show 1≤s'.boot;omega,by show 0<V.kp.seen+1;omega,h8⟩,rfl⟩,.inr rfl⟩
  ·show replL V.rows (S0,s'.at_,s'.epoch)=_
   rw [h1,h2];exact h.rep
  ·show V.prev=s'.epoch
   rw [h2];exact h.prev
 ·refine ⟨_,⟨{ V with kp:=k' },S0,⟨h.vdk.put_is V.st rfl rfl rfl rfl (Nat.le_refl _) (by have:=h.vdk.keys;omega) (by have:=h.vdk.boots;omega) h.vdk.right (by rw [m4,m8];exact h.vdk.text) (m2.trans h.vdk.kfrom) (by show k'.seen≤_;omega) m1 m5 m6 m7,h.rep,h.prev,h.cur,by show V.n≤_;omega,h.up,h.eps,h.boot,by show 0<k'.gen;omega,h.mn⟩,rfl⟩,.inl rfl⟩
theorem VtG.offs (h:VtG d.free V S0 c) (ho:d.off=false):offV d V=false∧offV d.free V=false:=by
 unfold offV;rw [h.up,ho];exact ⟨rfl,rfl⟩
theorem VtG.two_set (h:VtG d.free V S0 c) (hc:c<99000) (ho:d.off=false) (m:MetaM) (hm8:m.seen≤9223372036854775807∧m.grant≤9223372036854775807):Two (Falls V.abs (setR V.abs m) (c+1)) (setV d V m) (setV d.free V m):=by
 obtain ⟨e1,e2⟩:=h.offs ho;unfold setV setR;simp only [e1,e2,Bool.false_eq_true,if_false];by_cases hr:rightM m=false
 ·simp only [if_pos hr]
  exact .same ho _
 ·simp only [if_neg hr]
  refine (h.two_puts hc ho { V.st with m:=m } rfl rfl rfl rfl (Nat.le_refl _) (by have:=h.vdk.keys;show V.st.key≤_;omega) (by have:=h.vdk.boots;show V.st.boot≤_;omega) (Nat.le_refl _) (by simpa using hr) hm8 V rfl (h.sealed (by omega) sSecret m.secret)).imp fun hQ keep hwf=>?_
  obtain ⟨R2,a,b⟩:=hQ keep hwf;exact ⟨R2,a,b.imp id fun e=>.inl ⟨rfl,e⟩⟩
theorem VtG.two_rotate (h:VtG d.free V S0 c) (hc:c<99000) (ho:d.off=false):Two (Falls V.abs (rotateR V.abs) (c+1)) (rotateV d V) (rotateV d.free V):=by
 have hk:=h.vdk.keys;obtain ⟨e1,e2⟩:=h.offs ho;unfold rotateV rotateR;simp only [e1,e2,Bool.false_eq_true,if_false];have hk1:¬1048576≤V.st.key:=by omega
 have hk2:¬1048576≤V.abs.key:=hk1;simp only [if_neg hk1,if_neg hk2];have hT:=h.two_puts hc ho { V.st with key:=V.st.key+1 } rfl rfl rfl rfl (Nat.le_succ _) (by show V.st.key+1≤_;omega) (by have:=h.vdk.boots;show V.st.boot≤_;omega) (Nat.le_refl _) h.vdk.right h.mn V rfl ((h.sealed (by omega) sSecret V.st.m.secret).mono (Nat.le_succ _));generalize putV d V { V.st with key:=V.st.key+1 } = X at hT ⊢;generalize putV d.free V { V.st with key:=V.st.key+1 } = Y at hT ⊢;obtain ⟨x1,x2,x3⟩:=X;obtain ⟨y1,y2,y3⟩:=Y;rcases hT with ⟨h1,h2,h3⟩ | ⟨h1,h2,h3⟩
 ·simp only [Prod.mk.injEq] at h1 h2 h3
  obtain ⟨rfl,rfl⟩:=h3;simp only
  by_cases e:x3≠0
  ·rw [if_pos e,if_pos e];exact .inl ⟨h1,h2,rfl⟩
  ·rw [if_neg e,if_neg e];exact .inl ⟨h1,h2,rfl⟩
 ·simp only at h1 h2 h3
  simp only
  rw [if_pos (by rw [h2];simp)]
  refine .inr ⟨h1,h2,fun keep hwf=>?_⟩;obtain ⟨R2,a,b⟩:=h3 keep hwf;exact ⟨R2,a,b.imp id fun e=>.inl ⟨rfl,e⟩⟩
theorem VtG.two_open (h:VtG d.free V S0 c) (hc:c<99000) (ho:d.off=false):Two (fun D=>∀keep,D.wf→Rest (D.crash keep) V.abs (c+1)) (openV d V) (openV d.free V):=by
 have h1:=h.vdk.keys;have h2:=h.vdk.boots;refine (h.two_puts hc ho { V.st with boot:=V.st.boot+1 } rfl rfl rfl rfl (Nat.le_refl _) (by show V.st.key≤_;omega) (by show V.st.boot+1≤_;omega) (Nat.le_succ _) h.vdk.right h.mn V.again rfl
  (show Sealed V.st.key sSecret V.st.m.secret (V.again.wrap sSecret V.st.m.secret) from ⟨V.cur,V.st.boot+1,0,by rw [h.cur];exact Nat.le_refl _,by rw [h.cur];omega,by omega,by omega,rfl⟩)).imp fun hQ keep hwf=>?_
 obtain ⟨R2,a,b⟩:=hQ keep hwf;rcases b with rfl | rfl<;>exact a
end
end
section
open Go Go.RowKit
section
variable {d:Dk} {V:VtM} {S0:List PairM} {c:Nat}
theorem VtG.two_whole (h:VtG d.free V S0 c) (hc:c<99000) (ho:d.off=false) (m:MetaM) (hm:rightM m=true) (hm8:m.seen≤9223372036854775807∧m.grant≤9223372036854775807) (x:List PairM) (hx:PairsOk x) (a e:Int) (hp:PlaceIs a e) :
 Two (fun D=>∀keep,D.wf→∃R2,Rest (D.crash keep) R2 (c+2)∧(R2=V.abs∨R2 = { V.abs with m:=m,S:=x,at_:=a,epoch:=e,rows:=[],prev:=e })) (wholeV d V m x a e) (wholeV d.free V m x a e):=by
 have hxl:=pairsB_len hx;have hsl:=(h.sealed (by omega) sMap (pairsB x)).len (by omega);have hn1:1≤slotN (V.wrap sMap (pairsB x)):=by unfold slotN;omega
 have hn2:slotN (V.wrap sMap (pairsB x))≤80:=slotN_le (by omega);obtain ⟨D1',q1,q2,q3⟩:=h.vdk.slotw (V.wrap sMap (pairsB x)) hn1 hn2;have hgd:=h.vdk.good;have hlen:d.lasts.length=500:=hgd.len;have hs2:=h.vdk.slots;have hpl:placeN (1+V.st.slot % 2)+80≤500:=by unfold placeN;omega
 have hsll:=slotSecs_len (V.wrap sMap (pairsB x));have hW:=wsync_two ho hgd.waits (placeN (1+V.st.slot % 2)) _ (slotSecs_size (V.wrap sMap (pairsB x))) (slotN (V.wrap sMap (pairsB x))) (by omega) (by omega);rw [← writeSlotD_w d hn2,← writeSlotD_w d.free hn2,q1] at hW;unfold wholeV;simp only
 rw [show (V.st.whole m a e).slot=1+V.st.slot % 2 from rfl,show (V.st.whole m a e).log=V.st.log+1 from rfl,q1];generalize writeSlotD d (1+V.st.slot % 2) (V.wrap sMap (pairsB x))=X at hW;obtain ⟨D1,e1⟩:=X;simp only at hW ⊢
 rcases hW with ⟨rfl,w2,rfl,-⟩ | ⟨rfl,w2,w3⟩
 ·simp only [ne_eq,not_true_eq_false,if_false]
  -- the state
  have ht:=h.sealed1 (by omega) sSecret m.secret;have hu:=h.sealed (by omega) sMap (pairsB x);obtain ⟨L0,L1,hk⟩:=q2.kept;have hse:=h.vdk.kseen;have hln:=q2.whole_len (by omega) m a e hm hm8 hp ht;have hP:=hk.two_put w2 (stB (V.st.whole m a e) (V.next.wrap sSecret m.secret)) hln (by omega);have hPV:Two _ (putV D1 V.next (V.st.whole m a e)) (putV D1.free V.next (V.st.whole m a e)):=putV_two hP;obtain ⟨D',g',r1,r2,r3⟩:=q2.whole (by omega) m x a e hm hm8 hx hp hu q3 ht;have hput:putV D1.free V.next (V.st.whole m a e)=(D',{ V.next.next with kp:=V.kp.put (stB (V.st.whole m a e) (V.next.wrap sSecret m.secret)),st:=V.st.whole m a e },0):=by
   unfold putV;rw [show (V.st.whole m a e).m.secret=m.secret from rfl,show V.next.kp=V.kp from rfl,r1,if_neg (by simp)]
  rw [hput] at hPV ⊢;generalize putV D1 V.next (V.st.whole m a e)=Y at hPV;obtain ⟨D2,V2,e2⟩:=Y;rcases hPV with ⟨p1,p2,p3⟩ | ⟨p1,p2,p3⟩
  ·simp only [Prod.mk.injEq] at p1 p2 p3
   obtain ⟨rfl,rfl⟩:=p3;simp only
   simp only [not_true_eq_false,if_false];rw [r2];have e3:openG D2 20 320 (V.st.log+1)=some g':=by
    rw [← p2] at r2;exact r2
   rw [e3];exact .inl ⟨p1,p2,rfl⟩
  ·simp only at p1 p2 p3
   subst p2;simp only
   rw [if_pos (show (14:Int)≠0 by decide)];refine .inr ⟨p1,rfl,fun keep hwf=>?_⟩;obtain ⟨k',L0',L1',m1,m2,m3,m4,m5,m6,m7⟩:=hk.torn_put q2.good.pend _ hln (by omega) p3 hwf keep;have hgen:=h.gen;have hbt:=h.boot;have hnum:=h.num;rcases m4 with rfl | ⟨m4,m8⟩
   ·obtain ⟨g2,-,s2⟩:=q2.whole_is (by omega) m x a e hm hx hp hu q3 ht m1 m5 m6 m7
    exact ⟨_,⟨{ V with kp:=V.kp.put (stB (V.st.whole m a e) (V.next.wrap sSecret m.secret)),st:=V.st.whole m a e,lg:=g2,S:=x,at_:=a,epoch:=e,rows:=[],prev:=e },x,⟨s2.mono (by omega),rfl,rfl,h.cur,by show V.n≤_;omega,h.up,by simp,h.boot,by show 0<V.kp.seen+1;omega,hm8⟩,rfl⟩,.inr rfl⟩
   ·exact ⟨_,⟨{ V with kp:=k' },S0,⟨(q2.put_is V.st rfl rfl rfl rfl (Nat.le_refl _) (by have:=h.vdk.keys;omega) (by have:=h.vdk.boots;omega) h.vdk.right (by rw [m4,m8];exact h.vdk.text) (m2.trans h.vdk.kfrom) (by show k'.seen≤_;omega) m1 m5 m6 m7).mono (by omega),h.rep,h.prev,h.cur,by show V.n≤_;omega,h.up,h.eps,h.boot,by show 0<k'.gen;omega,h.mn⟩,rfl⟩,.inl rfl⟩
 ·rw [if_pos (show (14:Int)≠0 by decide)]
  refine .inr ⟨w2,rfl,fun keep hwf=>?_⟩;have hC:=w3.crash hgd.waits hgd.pend (slotSecs_size _) (by omega) (by omega) hwf keep;exact ⟨_,⟨V,S0,({ h with vdk:=h.vdk.slot_is _ hn1 hn2 ⟨hC.fuse,hC.off,hC.waits,hC.len.trans hlen,hC.pend⟩ fun i hi=>hC.now i (by omega) } : VtG (D1.crash keep) V S0 c).mono (by omega),rfl⟩,.inl rfl⟩
theorem VtG.two_add (h:VtG d.free V S0 c) (hc:c<99500) (ho:d.off=false) (b:BatM) (he:b.epoch≤9223372036854775807) (hr:V.rows.length<24) (h1:batErr b.index b.epoch b.ops=0) (h2:b.index=V.at_+1) (h3:V.epoch≤b.epoch) (h4:doE V.S b.ops=0) :
 Two (fun D=>∀keep,D.wf→∃R2,Rest (D.crash keep) R2 (c+1)∧(R2=V.abs∨R2 = { V.abs with rows:=V.rows++[b],S:=doL V.S b.ops,at_:=b.index,epoch:=b.epoch })) (addV d V b) (addV d.free V b):=by
 have h48:(doL V.S b.ops).length≤48:=by
  unfold doE at h4;split at h4
  ·rename_i hh;exact absurd h4 hh
  ·split at h4
   ·simp at h4
   ·omega
 have ht:=h.sealed (by omega) sLog (batT b);obtain ⟨rs,R,hl,hep⟩:=h.vdk.log;obtain ⟨g1,g2,g3⟩:=h.vdk.gplace;have hbl:=batT_len h1 he;have htl:=(ht.len (by omega)).1;have hul:=hl.used_le;have hu:=h.vdk.gused;have hsz:(str (V.wrap sLog (batT b))).size=(V.wrap sLog (batT b)).length:=str_size _;have hpo:partsOf (str (V.wrap sLog (batT b))).size≤12:=by rw [hsz];unfold partsOf;omega
 have hsa:=h.vdk.gsalt;have hT:=hl.two_add ho (str (V.wrap sLog (batT b))) (by omega) (by omega) (by omega);obtain ⟨s1,s2,s3⟩:=hl.secs (str (V.wrap sLog (batT b))) (by omega) (by omega) (by omega);unfold addV;simp only
 generalize addG d V.lg (str (V.wrap sLog (batT b)))=X at hT;generalize addG d.free V.lg (str (V.wrap sLog (batT b)))=Y at hT;obtain ⟨x1,x2,x3⟩:=X;obtain ⟨y1,y2,y3⟩:=Y;rcases hT with ⟨p1,p2,p3⟩ | ⟨p1,p2,p3⟩
 ·simp only [Prod.mk.injEq] at p1 p2 p3
  obtain ⟨rfl,rfl⟩:=p3;simp only
  by_cases e:x3≠0
  ·rw [if_pos e,if_pos e];exact .inl ⟨p1,p2,rfl⟩
  ·rw [if_neg e,if_neg e];exact .inl ⟨p1,p2,rfl⟩
 ·simp only at p1 p2 p3
  simp only
  rw [if_pos (by rw [p2];simp)]
  refine .inr ⟨p1,p2,fun keep hwf=>?_⟩;have hgd:=h.vdk.good;have hlen:d.lasts.length=500:=hgd.len;have hC:=p3.crash hgd.waits hgd.pend s1 s2 s3 hwf keep;obtain ⟨g',rs',R',m1,⟨m2,m3,m4,m5⟩,m6,m7⟩:=mix_is2 (d2:=x1.crash keep) hl (str (V.wrap sLog (batT b))) (by omega) (by omega) (by omega) hC.fuse hC.off hC.waits hC.len (fun i hi=>by
   rcases hC.now (V.lg.from_+i) (by omega) with e | ⟨e1,e2,e3⟩
   ·exact .inl e
   ·exact .inr ⟨by omega,by omega,by rw [e3,Nat.add_sub_add_left]⟩)
  have hnow:∀i,i<d.free.lasts.length→(i<20∨340≤i)→(x1.crash keep).now i=d.free.now i:=fun i hi hio=>by
   rcases hC.now i hi with e | ⟨e1,e2,-⟩
   ·exact e
   ·omega
  have hep':∀p,some p ∈ (rowOf g'.epoch 0 rs').map some++R'→p.epoch≤V.st.log:=fun p hp=>by
   rcases m7 p hp with e | e
   ·exact hep p e
   ·omega
  have hgl:=h.vdk.glen;have hnum:=h.num;rcases m6 with ⟨n1,n2⟩ | ⟨n1,n2⟩
  ·refine ⟨_,⟨{ V with lg:=g' },S0,⟨h.vdk.log_is m1 hC.len hC.pend ⟨m2,m3,m4⟩ (by show g'.salt≤_;omega) hep' (by show g'.used≤12*V.rows.length;omega) (by rw [n1];exact hgl) (fun i a1 a2=>?_) h.vdk.many hnow,h.rep,h.prev,h.cur,by show V.n≤_;omega,h.up,h.eps,h.boot,h.gen,h.mn⟩,rfl⟩,.inl rfl⟩
   have:=h.vdk.recs i (by rw [← n1];exact a1) a2;simp only [n1];exact this
  ·refine ⟨_,⟨{ V with lg:=g',S:=doL V.S b.ops,rows:=V.rows++[b],at_:=b.index,epoch:=b.epoch },S0,⟨h.vdk.log_is m1 hC.len hC.pend ⟨m2,m3,m4⟩ (by show g'.salt≤_;omega) hep' (by show g'.used≤_;rw [List.length_append,List.length_singleton];omega) (by rw [n1,List.length_append,List.length_append,hgl];rfl) (snoc_recs hgl n1 h.vdk.recs ht) (by rw [List.length_append,List.length_singleton];omega) hnow,?_,h.prev,h.cur,by show V.n≤_;omega,h.up,?_,h.boot,h.gen,h.mn⟩,rfl⟩,.inr rfl⟩
   ·show replL (V.rows++[b]) (S0,V.st.at_,V.st.epoch)=some (doL V.S b.ops,b.index,b.epoch)
    rw [replL_snoc,h.rep];exact replL_one h1 h2 h3 h48
   ·intro x hx
    rcases List.mem_append.1 hx with hx | hx
    ·exact h.eps x hx
    ·rw [List.mem_singleton.1 hx];exact he
theorem VtG.two_install (h:VtG d.free V S0 c) (hc:c<99000) (ho:d.off=false) (m:MetaM) (hm8:m.seen≤9223372036854775807∧m.grant≤9223372036854775807) (l:List PairM) (a e:Int) (he:e≤9223372036854775807):Two (Falls V.abs (installR V.abs m l a e) (c+2)) (installV d V m l a e) (installV d.free V m l a e):=by
 obtain ⟨e1,e2⟩:=h.offs ho;unfold installV installR;simp only [e1,e2,Bool.false_eq_true,if_false];by_cases h1:rightM m=false∨placeOk a e=false
 ·simp only [if_pos h1]
  exact .same ho _
 ·simp only [if_neg h1]
  by_cases h2:(ofP l).2≠0
  ·simp only [if_pos h2]
   exact .same ho _
  ·simp only [if_neg h2]
   have hm:rightM m=true:=by
    cases hh:rightM m
    ·exact absurd (.inl hh) h1
    ·rfl
   have hp:PlaceIs a e:=by
    have:placeOk a e=true:=by
     cases hh:placeOk a e
     ·exact absurd (.inr hh) h1
     ·rfl
    unfold placeOk at this;simp only [Bool.or_eq_true,decide_eq_true_eq] at this;constructor<;>omega
   refine (h.two_whole hc ho m hm hm8 (ofP l).1 (ofP_ok (by omega)) a e hp).imp fun hQ keep hwf=>?_
   obtain ⟨R2,q1,q2⟩:=hQ keep hwf;exact ⟨R2,q1,q2.imp id fun e=>.inl ⟨rfl,e⟩⟩
theorem VtG.two_commit (h:VtG d.free V S0 c) (hc:c<99000) (ho:d.off=false) (b:BatM) (he:b.epoch≤9223372036854775807):Two (Falls V.abs (commitR V.abs b) (c+3)) (commitV d V b) (commitV d.free V b):=by
 obtain ⟨f1,f2⟩:=h.offs ho;unfold commitV commitR;simp only [f1,f2,Bool.false_eq_true,if_false];by_cases h1:batErr b.index b.epoch b.ops≠0
 ·simp only [if_pos h1]
  exact .same ho _
 simp only [if_neg h1];by_cases h2:b.index≠V.at_+1∨b.epoch<V.epoch
 ·simp only [if_pos h2,if_pos (show b.index≠V.abs.at_+1∨b.epoch<V.abs.epoch from h2)]
  exact .same ho _
 simp only [if_neg h2,if_neg (show ¬(b.index≠V.abs.at_+1∨b.epoch<V.abs.epoch) from h2)];by_cases h3:doE V.S b.ops≠0
 ·simp only [if_pos h3,if_pos (show doE V.abs.S b.ops≠0 from h3)]
  exact .same ho _
 simp only [if_neg h3,if_neg (show ¬doE V.abs.S b.ops≠0 from h3)];have e1:batErr b.index b.epoch b.ops=0:=by omega
 have e2:b.index=V.at_+1:=by omega
 have e3:V.epoch≤b.epoch:=by omega
 have e4:doE V.S b.ops=0:=by omega
 have hmany:=h.vdk.many;by_cases h4:24≤V.rows.length
 ·simp only [if_pos h4,if_pos (show 24≤V.abs.rows.length from h4)]
  obtain ⟨D1,V1,q1,q2,q3,q4⟩:=h.whole hc V.st.m h.vdk.right h.mn V.S h.pairs V.at_ V.epoch h.place;have a1:V1.S=V.S:=congrArg RvM.S q3;have a2:V1.at_=V.at_:=congrArg RvM.at_ q3;have a3:V1.epoch=V.epoch:=congrArg RvM.epoch q3;have a4:V1.rows=[]:=congrArg RvM.rows q3;have hW:=h.two_whole hc ho V.st.m h.vdk.right h.mn V.S h.pairs V.at_ V.epoch h.place;rw [q1] at hW;simp only [q1];generalize wholeV d V V.st.m V.S V.at_ V.epoch=X at hW;obtain ⟨x1,x2,x3⟩:=X;rcases hW with ⟨p1,p2,p3⟩ | ⟨p1,p2,p3⟩
  ·simp only [Prod.mk.injEq] at p1 p2 p3
   obtain ⟨rfl,rfl⟩:=p3;subst p2;simp only
   simp only [ne_eq,not_true_eq_false,if_false];have hA:=q2.two_add (by omega) p1 b he (by rw [a4];decide) e1 (by rw [a2];exact e2) (by rw [a3];exact e3) (by rw [a1];exact e4);generalize addV x1 x2 b=Z at hA;generalize addV x1.free x2 b=Z0 at hA;obtain ⟨z1,z2,z3⟩:=Z;obtain ⟨y1,y2,y3⟩:=Z0;rcases hA with ⟨p4,p5,p6⟩ | ⟨p4,p5,p6⟩
   ·simp only [Prod.mk.injEq] at p4 p5 p6
    obtain ⟨rfl,rfl⟩:=p6;exact .inl ⟨p4,p5,rfl⟩
   ·refine .inr ⟨p4,p5,fun keep hwf=>?_⟩
    obtain ⟨R2,r1,r2⟩:=p6 keep hwf;refine ⟨R2,r1,?_⟩;rcases r2 with rfl | rfl
    ·refine .inr (.inr ⟨by show V.rows.length=24;omega,?_⟩)
     rw [q3];rfl
    ·refine .inr (.inl ⟨rfl,?_⟩)
     rw [q3,a4,a1];rfl
  ·simp only at p1 p2 p3
   subst p2;simp only
   rw [if_pos (show (14:Int)≠0 by decide)];refine .inr ⟨p1,rfl,fun keep hwf=>?_⟩;obtain ⟨R2,r1,r2⟩:=p3 keep hwf;refine ⟨R2,r1.mono (by omega),?_⟩;rcases r2 with rfl | rfl
   ·exact .inl rfl
   ·exact .inr (.inr ⟨by show V.rows.length=24;omega,rfl⟩)
 ·simp only [if_neg h4,if_neg (show ¬24≤V.abs.rows.length from h4)]
  refine (h.two_add (by omega) ho b he (by omega) e1 e2 e3 e4).imp fun hQ keep hwf=>?_
  obtain ⟨R2,r1,r2⟩:=hQ keep hwf;exact ⟨R2,r1.mono (by omega),r2.imp id fun e=>.inl ⟨rfl,e⟩⟩
end
end
section
open Go Go.RowKit
section
variable {w0 w w':World} {p v:Nat} {d:Dk} {V:VtM} {o:VtO} {R:RvM} {boot c:Nat} {M:Nat→Prop} {Q Q':RvM→Prop}
theorem PutFit.of_free (h:PutFit d.free V):PutFit d V:=⟨h.cur,h.n,h.seen,h.at_,h.from_,h.pend⟩
theorem commit_off (h:VtAt w p v d V o) (ho:offV d V=true) (b:BatM) (ov:Value):Calls Tryz.prog 15 #[.pointer (some ⟨v,0,none⟩),.agg #[.int .i64 b.index,.int .i64 b.epoch,ov]] w fun e w'=>e=.returned (.int .i64 14)∧VtAt w' p v d { V with down:=true } o∧VtStep w w' v o o:=by
 have H:=Lib.hid h;clear h;go_enter Tryz.func15,Tryz.ntmps15
 go_upto_region 1 with fail
 generalize hw1:World.alloc _ _=w1;have hU:Upd (fun _=>False) w w1:=by rw [← hw1];exact (Upd.refl _ w).alloc _
 have HO:=off_c (H.out.still hU);rw [ho] at HO;simp only [if_true] at HO;have HO:=Lib.hid HO;have HU:=Lib.hid hU;clear hw1 hU;go_wp2_with (first
  | (go_at_call 53;refine HO.out.mono ?_;rintro e w2 ⟨rfl,h2,k2,-⟩;have H2:=h2k h2 k2;clear h2 k2))
 go_ret
 exact ⟨rfl,H2.out.1,(VtStep.mk (o:=o) (o':=o) (v:=v) (HU.out.mono (fun _ e=>e.elim)) (fun q e=>.inl e)).trans H2.out.2⟩
theorem set_off (h:VtAt w p v d V o) (ho:offV d V=true) (m:MetaM) (mv:Value):Calls Tryz.prog 24 #[.pointer (some ⟨v,0,none⟩),.agg (metaRow m mv)] w fun e w'=>e=.returned (.int .i64 14)∧VtAt w' p v d { V with down:=true } o∧VtStep w w' v o o:=by
 obtain ⟨C,hC⟩:=eqx (metaRow m mv);rw [hC];have H:=Lib.hid h;clear h hC;go_enter Tryz.func24,Tryz.ntmps24
 go_upto_region 1 with fail
 generalize hw1:World.alloc _ _=w1;have hU:Upd (fun _=>False) w w1:=by rw [← hw1];exact (Upd.refl _ w).alloc _
 have HO:=off_c (H.out.still hU);rw [ho] at HO;simp only [if_true] at HO;have HO:=Lib.hid HO;have HU:=Lib.hid hU;clear hw1 hU;go_wp2_with (first
  | (go_at_call 53;refine HO.out.mono ?_;rintro e w2 ⟨rfl,h2,k2,-⟩;have H2:=h2k h2 k2;clear h2 k2))
 go_ret
 exact ⟨rfl,H2.out.1,(VtStep.mk (o:=o) (o':=o) (v:=v) (HU.out.mono (fun _ e=>e.elim)) (fun q e=>.inl e)).trans H2.out.2⟩
theorem install_off (h:VtAt w p v d V o) (ho:offV d V=true) (m:MetaM) (mv lv:Value) (at_ ep:Int):Calls Tryz.prog 21 #[.pointer (some ⟨v,0,none⟩),.agg (metaRow m mv),lv,.int .i64 at_,.int .i64 ep] w fun e w'=>e=.returned (.int .i64 14)∧VtAt w' p v d { V with down:=true } o∧VtStep w w' v o o:=by
 obtain ⟨C,hC⟩:=eqx (metaRow m mv);rw [hC];have H:=Lib.hid h;clear h hC;go_enter Tryz.func21,Tryz.ntmps21
 go_upto_region 1 with fail
 generalize hw1:World.alloc _ _=w1;have hU:Upd (fun _=>False) w w1:=by rw [← hw1];exact (Upd.refl _ w).alloc _
 have HO:=off_c (H.out.still hU);rw [ho] at HO;simp only [if_true] at HO;have HO:=Lib.hid HO;have HU:=Lib.hid hU;clear hw1 hU;go_wp2_with (first
  | (go_at_call 53;refine HO.out.mono ?_;rintro e w2 ⟨rfl,h2,k2,-⟩;have H2:=h2k h2 k2;clear h2 k2))
 go_ret
 exact ⟨rfl,H2.out.1,(VtStep.mk (o:=o) (o':=o) (v:=v) (HU.out.mono (fun _ e=>e.elim)) (fun q e=>.inl e)).trans H2.out.2⟩
theorem rotate_off (h:VtAt w p v d V o) (ho:offV d V=true):Calls Tryz.prog 34 #[.pointer (some ⟨v,0,none⟩)] w fun e w'=>e=.returned (.int .i64 14)∧VtAt w' p v d { V with down:=true } o∧VtStep w w' v o o:=by
 have HO:=off_c h;rw [ho] at HO;simp only [if_true] at HO;have HO:=Lib.hid HO;clear h;go_enter Tryz.func34,Tryz.ntmps34
 go_wp2_with (first
  | (go_at_call 53;refine HO.out.mono ?_;rintro e w2 ⟨rfl,h2,k2,-⟩;have H2:=h2k h2 k2;clear h2 k2))
 go_ret
 exact ⟨rfl,H2.out.1,H2.out.2⟩
structure VfB (w0 w:World) (p v:Nat) (d:Dk) (V:VtM) (o:VtO) (M:Nat→Prop):Prop where
 at_:VtAt w p v d V o
 turns:∀q,M q↔o.mut v q
 low:∀q,o.mut v q→w0.heap.size≤q
 upd:Upd (fun _=>False) w0 w
def VfU (w0 w:World) (p v:Nat) (R:RvM) (boot c:Nat) (M:Nat→Prop):Prop:=∃d V o S0,VfB w0 w p v d V o M∧d.off=false∧VtG d.free V S0 c∧V.abs=R∧V.st.boot=boot
def VfN (w0 w:World) (p v:Nat) (a e:Int) (S:List PairM) (Q:RvM→Prop) (c:Nat) (M:Nat→Prop):Prop:=∃d V o,VfB w0 w p v d V o M∧d.off=true∧V.at_=a∧V.epoch=e∧V.S=S∧∀keep,d.wf→∃R2,Rest (d.crash keep) R2 c∧Q R2
def VfT (w0 w w':World) (p v:Nat) (r:Ending) (R:RvM) (r2:RvM × Int) (boot c:Nat) (M:Nat→Prop):Prop :=
 (∃M',r=.returned (.int .i64 r2.2)∧VfU w0 w' p v r2.1 boot c M'∧Stp w w' M M') ∨
 (∃M' a e S,r=.returned (.int .i64 14)∧VfN w0 w' p v a e S (fun R2=>R2=R∨(r2.2=0∧R2=r2.1)∨(R.rows.length=24∧R2=R.forgot)) c M'∧Stp w w' M M')
theorem VfB.still (h:VfB w0 w p v d V o M) (hu:Upd (fun _=>False) w w'):VfB w0 w' p v d V o M:=⟨h.at_.still hu,h.turns,h.low,h.upd.then hu (fun _ e=>e.elim)⟩
theorem VfB.step {d':Dk} {V':VtM} {o':VtO} (h:VfB w0 w p v d V o M) (ha:VtAt w' p v d' V' o') (hs:VtStep w w' v o o'):VfB w0 w' p v d' V' o' (o'.mut v)∧Stp w w' M (o'.mut v):=by
 refine ⟨⟨ha,fun _=>Iff.rfl,fun q hq=>?_,h.upd.then hs.upd (fun q e=>.inr (h.low q e))⟩,hs.upd.mono (fun q e=>.inl ((h.turns q).2 e)),fun q hq=>(hs.sub q hq).imp (h.turns q).2 id⟩;rcases hs.sub q hq with e | e
 ·exact h.low q e
 ·have:=h.upd.size
  omega
theorem VfU.still (h:VfU w0 w p v R boot c M) (hu:Upd (fun _=>False) w w'):VfU w0 w' p v R boot c M:=by
 obtain ⟨d,V,o,S0,h1,h2⟩:=h;exact ⟨d,V,o,S0,h1.still hu,h2⟩
theorem VfN.still {a e:Int} {S:List PairM} (h:VfN w0 w p v a e S Q c M) (hu:Upd (fun _=>False) w w'):VfN w0 w' p v a e S Q c M:=by
 obtain ⟨d,V,o,h1,h2⟩:=h;exact ⟨d,V,o,h1.still hu,h2⟩
theorem VfU.upd (h:VfU w0 w p v R boot c M):Upd (fun _=>False) w0 w:=by obtain ⟨_,_,_,_,h,_⟩:=h;exact h.upd
theorem VfN.upd {a e:Int} {S:List PairM} (h:VfN w0 w p v a e S Q c M):Upd (fun _=>False) w0 w:=by obtain ⟨_,_,_,h,_⟩:=h;exact h.upd
theorem VfU.mono (h:VfU w0 w p v R boot c M) {c':Nat} (hc:c≤c'):VfU w0 w p v R boot c' M:=by
 obtain ⟨d,V,o,S0,h1,h2,h3,h4⟩:=h;exact ⟨d,V,o,S0,h1,h2,h3.mono hc,h4⟩
theorem VfN.mono {a e:Int} {S:List PairM} (h:VfN w0 w p v a e S Q c M) {c':Nat} (hc:c≤c') (hq:∀R,Q R→Q' R):VfN w0 w p v a e S Q' c' M:=by
 obtain ⟨d,V,o,h1,h2,h3,h4,h5,h6⟩:=h;exact ⟨d,V,o,h1,h2,h3,h4,h5,fun keep hwf=>by obtain ⟨R2,a,b⟩:=h6 keep hwf;exact ⟨R2,a.mono hc,hq _ b⟩⟩
theorem VlF.fused (h:VlF w0 w p v R boot c M):VfU w0 w p v R boot c M:=by
 obtain ⟨d,V,o,S0,h,h1,h2,h3⟩:=h;exact ⟨d,V,o,S0,⟨h.at_,h3,h.low,h.upd⟩,h.g.vdk.good.off,h.g.free,h1,h2⟩
theorem VfU.place_ok (h:VfU w0 w p v R boot c M):PlaceIs R.at_ R.epoch:=by
 obtain ⟨d,V,o,S0,-,-,h,rfl,-⟩:=h;exact h.place
theorem VfU.old (h:VfU w0 w p v R boot c M) (hc:c<99000):VlO w p v R boot:=by
 obtain ⟨d,V,o,S0,h,-,hg,rfl,rfl⟩:=h;have he:=replL_each hg.rep;have hbt:=hg.vdk.boots;exact ⟨⟨d,V,o,h.at_,rfl,rfl⟩,hg.vdk.right,by have h1:=hg.vdk.many;show V.rows.length≤1000;omega,fun b hb=>by obtain ⟨-,-,-,h4,-⟩:=batErr_zero (he b hb);omega,by omega⟩
theorem VfN.place {a e:Int} {S:List PairM} (h:VfN w0 w p v a e S Q c M):Calls Tryz.prog 12 #[.pointer (some ⟨v,0,none⟩)] w fun r w'=>r=.returned (.tuple #[.int .i64 a,.int .i64 e])∧Upd (fun _=>False) w w':=by
 obtain ⟨d,V,o,h,-,rfl,rfl,-⟩:=h;exact vwhere_c h.at_
theorem VfN.map_ {a e:Int} {S:List PairM} (h:VfN w0 w p v a e S Q c M):Calls Tryz.prog 18 #[.pointer (some ⟨v,0,none⟩)] w fun r w'=>∃m mb,r=.returned (.pointer (some ⟨m,0,none⟩))∧MapAt w' m mb S∧w.heap.size≤m∧w.heap.size≤mb∧Upd (fun _=>False) w w':=by
 obtain ⟨d,V,o,h,-,-,-,rfl,-⟩:=h;exact vmap_c h.at_
theorem VfU.down_ (h:VfU w0 w p v R boot c M):Calls Tryz.prog 33 #[.pointer (some ⟨p,0,none⟩)] w fun r w'=>r=.returned (.bool false)∧w=w':=by
 obtain ⟨d,V,o,S0,h,h1,-⟩:=h;have:=down_c h.at_.disk;rw [h1] at this;exact this
theorem VfN.down_ {a e:Int} {S:List PairM} (h:VfN w0 w p v a e S Q c M):Calls Tryz.prog 33 #[.pointer (some ⟨p,0,none⟩)] w fun r w'=>r=.returned (.bool true)∧w=w':=by
 obtain ⟨d,V,o,h,h1,-⟩:=h;have:=down_c h.at_.disk;rw [h1] at this;exact this
theorem VfU.act {m m0:Dk × VtM × Int} {r2:RvM × Int} {k:Nat} {r:Ending} (hB:VfB w0 w p v d V o M) (hT:Two (Falls R r2 (c+k)) m m0) (h0:∃D V' S0',m0=(D,V',r2.2)∧VtG D V' S0' (c+k)∧V'.abs=r2.1∧V'.st.boot=boot)
 (hr:r=.returned (.int .i64 m.2.2)) (hp:∃o',VtAt w' p v m.1 m.2.1 o'∧VtStep w w' v o o'):VfT w0 w w' p v r R r2 boot (c+k) M:=by
 obtain ⟨o',h1,h2⟩:=hp;obtain ⟨D,V',S0',q1,q2,q3,q4⟩:=h0;obtain ⟨a1,a2⟩:=hB.step h1 h2;rcases hT with ⟨t1,t2,t3⟩ | ⟨t1,t2,t3⟩
 ·rw [q1] at t2 t3
  have e3:m.2.2=r2.2:=congrArg Prod.snd t3;have e4:m.2.1=V':=congrArg Prod.fst t3;refine .inl ⟨_,by rw [hr,e3],⟨m.1,V',o',S0',?_,t1,?_,q3,q4⟩,a2⟩
  ·rw [← e4];exact a1
  ·rw [t2];exact q2
 ·refine .inr ⟨_,m.2.1.at_,m.2.1.epoch,m.2.1.S,by rw [hr,t2],⟨m.1,m.2.1,o',a1,t1,rfl,rfl,rfl,t3⟩,a2⟩
theorem VfU.commit_in (h:VfU w0 w p v R boot c M) (hc:c<99000) (b:BatM) {ov:Value} (hO:OpsIn w0 ov b.ops) (hf:OpsFew b.ops) (hbe:b.epoch≤9223372036854775807) :
 Calls Tryz.prog 15 #[.pointer (some ⟨v,0,none⟩),.agg #[.int .i64 b.index,.int .i64 b.epoch,ov]] w fun r w'=>VfT w0 w w' p v r R (commitR R b) boot (c+3) M:=by
 obtain ⟨d,V,o,S0,hB,ho,hg,rfl,hbt⟩:=h;have hgd:=hg.vdk.good;have hs:OpsSmall b.ops:=fun o ho=>by have:=hf.2 o ho;omega
 have hq:d.pend=0:=hgd.pend;have hlen:d.lasts.length=500:=hgd.len;have main:∀ {ty:TypeId},TRow w ty 3 ov (b.ops.map opRow)→(∀W,Upd (o.mut v) w W→TRow W ty 3 ov (b.ops.map opRow))→Calls Tryz.prog 15 #[.pointer (some ⟨v,0,none⟩),.agg #[.int .i64 b.index,.int .i64 b.epoch,ov]] w fun r w'=>VfT w0 w w' p v r V.abs (commitR V.abs b) boot (c+3) M:=by
  intro ty h1 h2;refine (vcommit_c hB.at_ (hg.stok hc) (hg.putfit hc).of_free (by have:=hg.num;omega) (by omega) hlen (by have:=hg.vdk.logs;omega) (hg.vdk.lgfit (by omega)) hg.vdk.many hg.place b h1 h2 hs hbe).mono ?_;rintro r w' ⟨rfl,hp⟩;obtain ⟨D,V',S0',q1,q2,q3,q4⟩:=hg.commit hc b hbe;exact VfU.act hB (hg.two_commit hc ho b hbe) ⟨D,V',S0',q1,q2,q3,q4.trans hbt⟩ rfl hp
 by_cases h0:b.ops.length=0
 ·have hT:TRow w 32 3 ov (b.ops.map opRow):=by
   obtain ⟨A,cap,h1,h2,h3,-⟩:=hO.rows;exact ⟨A,cap,h1,h2,by rw [List.length_map,h0];omega,fun h=>by rw [List.length_map] at h;omega⟩
  exact main hT (fun W hu=>hT.upd hu (fun q ht=>hB.at_.not_mut ht (by decide)))
 ·have hT:=(hO.rows.still hB.upd).row (by rw [List.length_map];have:=hf.1;omega)
  exact main hT (fun W hu=>hT.low (hO.rows.lt (by rw [List.length_map];omega)) hu hB.low)
theorem VfU.set_in (h:VfU w0 w p v R boot c M) (hc:c<99000) {m:MetaM} {mv:Value} (hM:MetaIn w0 mv m) (hf:MetaFew m) :
 Calls Tryz.prog 24 #[.pointer (some ⟨v,0,none⟩),.agg (metaRow m mv)] w fun r w'=>VfT w0 w w' p v r R (setR R m) boot (c+1) M:=by
 obtain ⟨d,V,o,S0,hB,ho,hg,rfl,hbt⟩:=h;refine (vset_c hB.at_ (hg.stok hc) (hg.putfit hc).of_free m ((hM.rows.still hB.upd).row (by rw [List.length_map];have:=hf.1;omega)) ⟨hM.seen.2,hM.grant.2⟩ (fun x hx=>by have:=hf.2.2 x hx;omega)).mono ?_;rintro r w' ⟨rfl,hp⟩;obtain ⟨D,V',q1,q2,q3,q4⟩:=hg.set_ hc m ⟨hM.seen.2,hM.grant.2⟩;exact VfU.act hB (hg.two_set hc ho m ⟨hM.seen.2,hM.grant.2⟩) ⟨D,V',S0,q1,q2,q3,q4.trans hbt⟩ rfl hp
theorem VfU.install_in (h:VfU w0 w p v R boot c M) (hc:c<99000) {m:MetaM} {mv:Value} (hM:MetaIn w0 mv m) (hf:MetaFew m) {l:List PairM} {lv:Value} (hL:PrsIn w0 lv l) (hfl:PrsFew l) (at_ ep:Int) (hep:ep≤9223372036854775807) :
 Calls Tryz.prog 21 #[.pointer (some ⟨v,0,none⟩),.agg (metaRow m mv),lv,.int .i64 at_,.int .i64 ep] w fun r w'=>VfT w0 w w' p v r R (installR R m l at_ ep) boot (c+2) M:=by
 obtain ⟨d,V,o,S0,hB,ho,hg,rfl,hbt⟩:=h;have hgd:=hg.vdk.good;have hq:d.pend=0:=hgd.pend;have hlen:d.lasts.length=500:=hgd.len;refine (vinstall_c hB.at_ (hg.stok hc) (hg.putfit hc).of_free (by have:=hg.num;omega) (by omega) hlen (by have:=hg.vdk.logs;omega) m ((hM.rows.still hB.upd).row (by rw [List.length_map];have:=hf.1;omega)) ⟨hM.seen.2,hM.grant.2⟩ (fun x hx=>by have:=hf.2.2 x hx;omega) l ((hL.rows.still hB.upd).row (by rw [List.length_map];have:=hfl.1;omega)) (fun p hp=>by have:=hfl.2 p hp;omega) at_ ep hep).mono ?_;rintro r w' ⟨rfl,hp⟩;obtain ⟨D,V',S0',q1,q2,q3,q4⟩:=hg.install hc m ⟨hM.seen.2,hM.grant.2⟩ l at_ ep hep;exact VfU.act hB (hg.two_install hc ho m ⟨hM.seen.2,hM.grant.2⟩ l at_ ep hep) ⟨D,V',S0',q1,q2,q3,q4.trans hbt⟩ rfl hp
theorem VfU.rotate (h:VfU w0 w p v R boot c M) (hc:c<99000) :
 Calls Tryz.prog 34 #[.pointer (some ⟨v,0,none⟩)] w fun r w'=>VfT w0 w w' p v r R (rotateR R) boot (c+1) M:=by
 obtain ⟨d,V,o,S0,hB,ho,hg,rfl,hbt⟩:=h;refine (vrotate_c hB.at_ (hg.stok hc) (hg.putfit hc).of_free (by have:=hg.vdk.keys;omega) (by rw [hg.cur];have:=hg.vdk.keys;omega)).mono ?_;rintro r w' ⟨rfl,hp⟩;obtain ⟨D,V',q1,q2,q3,q4⟩:=hg.rotate hc;exact VfU.act hB (hg.two_rotate hc ho) ⟨D,V',S0,q1,q2,q3,q4.trans hbt⟩ rfl hp
theorem VfN.act {a e:Int} {S:List PairM} (hB:VfB w0 w p v d V o M) (hx:d.off=true∧V.at_=a∧V.epoch=e∧V.S=S∧∀keep,d.wf→∃R2,Rest (d.crash keep) R2 c∧Q R2) (h1:VtAt w' p v d { V with down:=true } o) (h2:VtStep w w' v o o):∃M',VfN w0 w' p v a e S Q c M'∧Stp w w' M M':=by
 obtain ⟨a1,a2⟩:=hB.step h1 h2;exact ⟨_,⟨d,_,o,a1,hx⟩,a2⟩
theorem off_of {d:Dk} {V:VtM} (h:d.off=true):offV d V=true:=by unfold offV;rw [h,Bool.or_true]
theorem VfN.commit {a e:Int} {S:List PairM} (h:VfN w0 w p v a e S Q c M) (b:BatM) (ov:Value):Calls Tryz.prog 15 #[.pointer (some ⟨v,0,none⟩),.agg #[.int .i64 b.index,.int .i64 b.epoch,ov]] w fun r w'=>r=.returned (.int .i64 14)∧∃M',VfN w0 w' p v a e S Q c M'∧Stp w w' M M':=by
 obtain ⟨d,V,o,hB,hx⟩:=h;refine (commit_off hB.at_ (off_of hx.1) b ov).mono ?_;rintro r w' ⟨rfl,h1,h2⟩;exact ⟨rfl,VfN.act hB hx h1 h2⟩
theorem VfN.set_ {a e:Int} {S:List PairM} (h:VfN w0 w p v a e S Q c M) (m:MetaM) (mv:Value):Calls Tryz.prog 24 #[.pointer (some ⟨v,0,none⟩),.agg (metaRow m mv)] w fun r w'=>r=.returned (.int .i64 14)∧∃M',VfN w0 w' p v a e S Q c M'∧Stp w w' M M':=by
 obtain ⟨d,V,o,hB,hx⟩:=h;refine (set_off hB.at_ (off_of hx.1) m mv).mono ?_;rintro r w' ⟨rfl,h1,h2⟩;exact ⟨rfl,VfN.act hB hx h1 h2⟩
theorem VfN.install {a e:Int} {S:List PairM} (h:VfN w0 w p v a e S Q c M) (m:MetaM) (mv lv:Value) (x y:Int):Calls Tryz.prog 21 #[.pointer (some ⟨v,0,none⟩),.agg (metaRow m mv),lv,.int .i64 x,.int .i64 y] w fun r w'=>r=.returned (.int .i64 14)∧∃M',VfN w0 w' p v a e S Q c M'∧Stp w w' M M':=by
 obtain ⟨d,V,o,hB,hx⟩:=h;refine (install_off hB.at_ (off_of hx.1) m mv lv x y).mono ?_;rintro r w' ⟨rfl,h1,h2⟩;exact ⟨rfl,VfN.act hB hx h1 h2⟩
theorem VfN.rotate {a e:Int} {S:List PairM} (h:VfN w0 w p v a e S Q c M):Calls Tryz.prog 34 #[.pointer (some ⟨v,0,none⟩)] w fun r w'=>r=.returned (.int .i64 14)∧∃M',VfN w0 w' p v a e S Q c M'∧Stp w w' M M':=by
 obtain ⟨d,V,o,hB,hx⟩:=h;refine (rotate_off hB.at_ (off_of hx.1)).mono ?_;rintro r w' ⟨rfl,h1,h2⟩;exact ⟨rfl,VfN.act hB hx h1 h2⟩
end
end
section
open Go Go.RowKit
def PlainEq (t:TypeId) (a b:Value) (r:Bool):Prop:=Tryz.prog.plainKey t=true∧∀W d,(Op.equalIn (d+1) t a b).run Tryz.prog W=.ok r W
def allEq:List TypeId→List Value→List Value→List Bool→Prop
 | [],[],[],[]=>True
 | t::ts,a::va,b::vb,r::rs=>PlainEq t a b r∧allEq ts va vb rs
 | _,_,_,_=>False
theorem eqFields_run (d:Nat) (W:World) (xs ys:Array Value):∀(ts:List TypeId) (k:Nat) (fs:List Field) (va vb:List Value) (rs:List Bool),fs.map (fun f=>(f.name == "_",f.type,f.offset))=(ts.zipIdx k).map (fun p=>(false,p.1,p.2)) →
 (∀i,i<ts.length→xs[k+i]? = va[i]? ∧ ys[k+i]? = vb[i]?)→allEq ts va vb rs→(Op.eqFields (d+1) xs ys fs).run Tryz.prog W=.ok (rs.all id) W
 | [],k,fs,va,vb,rs,hf,hx,he=>by
   have:fs=[]:=by simpa using hf
   subst this;match va,vb,rs,he with
   | [],[],[],_=>simp [Op.eqFields]
 | t::ts,k,[],va,vb,rs,hf,hx,he=>by simp at hf
 | t :: ts,k,f::fs,va,vb,rs,hf,hx,he=>by
   match va,vb,rs,he with
   | a :: va,b::vb,r::rs,⟨h1,h2⟩ =>
     simp only [List.map_cons,List.zipIdx_cons,List.cons.injEq,Prod.mk.injEq,beq_eq_false_iff_ne] at hf;obtain ⟨⟨n1,n2,n3⟩,hf⟩:=hf;have h0:=hx 0 (by simp);simp only [Nat.add_zero,List.getElem?_cons_zero] at h0;have q1:=run_part_plain (w:=W) (P:=Tryz.prog) h1.1 h0.1;have q2:=run_part_plain (w:=W) (P:=Tryz.prog) h1.1 h0.2;simp only [Op.eqFields,n2,n3,Sem.run_bind,ne_eq,n1,not_false_eq_true,if_true];rw [q1,Result.andThen_ok,q2,Result.andThen_ok,h1.2,Result.andThen_ok];cases r
     ·simp
     ·simp only [Bool.not_true,Bool.false_eq_true,if_false,List.all_cons,id,Bool.true_and]
      exact eqFields_run d W xs ys ts (k+1) fs va vb rs hf (fun i hi=>by
       have:=hx (i+1) (by simpa using hi);rw [show k+(i+1)=k+1+i by omega] at this;simpa using this) h2
theorem neq_run {t:TypeId} (ts:List TypeId) (h1:Tryz.prog.underlying t=some (.struct (Tryz.prog.fieldsOf t))) (h2:Tryz.prog.stoodInHeld t=false) (hf:(Tryz.prog.fieldsOf t).toList.map (fun f=>(f.name == "_",f.type,f.offset))=(ts.zipIdx 0).map (fun p=>(false,p.1,p.2)))
 {va vb:List Value} {rs:List Bool} (he:allEq ts va vb rs) (W:World):(binOp .neq t (.agg va.toArray) (.agg vb.toArray)).run Tryz.prog W=.ok (.bool (!rs.all id)) W:=by
 rw [run_neq_struct,run_equalIn_agg _ _ _ _ _ h1 h2,eqFields_run _ W _ _ ts 0 _ va vb rs hf (fun i hi=>by simp) he];rfl
theorem plain_str (a b:List UInt8):PlainEq 9 (.string (str a)) (.string (str b)) (decide (a=b)):=⟨by kernel_rfl,fun W d=>by
 rw [run_equalIn_string W d 9 _ _ Tryz.underlying9,str_beq]⟩
theorem pair_neq (p q:PairM) (W:World):(binOp .neq 55 (.agg (pairRow p).toArray) (.agg (pairRow q).toArray)).run Tryz.prog W=.ok (.bool (!decide (p=q))) W:=by
 rw [neq_run (t:=55) [9,9] (by kernel_rfl) (by kernel_rfl) (by kernel_rfl) (show allEq _ (pairRow p) (pairRow q) [_,_] from ⟨plain_str _ _,plain_str _ _,trivial⟩) W];congr 3
 rw [Bool.eq_iff_iff];simp only [List.all_cons,List.all_nil,id,Bool.and_true,Bool.and_eq_true,decide_eq_true_eq];exact ⟨fun h=>Prod.ext h.1 h.2,fun h=>by rw [h];exact ⟨rfl,rfl⟩⟩
instance:DecidableEq OpM:=fun a b=>if h:a.kind=b.kind∧a.path=b.path∧a.value=b.value then isTrue (by obtain ⟨h1,h2,h3⟩:=h;cases a;cases b;simp_all) else isFalse (by rintro rfl;exact h ⟨rfl,rfl,rfl⟩)
theorem take_eq_step {α : Type} {a b:List α} {k:Nat} (h1:k<a.length) (h2:k<b.length) (h:a.take k=b.take k) (he:a[k]=b[k]):a.take (k+1)=b.take (k+1):=by
 rw [List.take_succ_eq_append_getElem h1,List.take_succ_eq_append_getElem h2,h,he]
theorem same13_c {w:World} {ta tb:TypeId} {va vb:Value} {a b:List PairM} (ha:TRow w ta 2 va (a.map pairRow)) (hb:TRow w tb 2 vb (b.map pairRow)) :
 Calls Tryz.prog 32 #[va,vb] w fun e w'=>e=.returned (.bool (decide (a=b)))∧Upd (fun _=>False) w w':=by
 obtain ⟨A,cap,bA,off,rfl,hcap,hl,hA,hat⟩:=ha.open_;obtain ⟨B,cap2,bB,off2,rfl,hcap2,hl2,hB,hat2⟩:=hb.open_;simp only [List.length_map] at hcap hl hA hcap2 hl2 hB ⊢;obtain ⟨r,hr⟩:=eqx (decide (a=b));rw [hr];have H:=h3k hat hat2 hr;clear hat hat2 ha hb hr;go_enter Tryz.func32,Tryz.ntmps32
 by_cases hn:a.length=b.length
 ·have hn':((a.length:Int) == (b.length:Int))=true:=by rw [beq_iff_eq];omega
  have hn2:((a.length:Int) != (b.length:Int))=false:=by rw [bne,hn'];rfl
  have HN:=Lib.hid hn;clear hn;go_wp2_with fail
  go_loopw [5] (fun i wr=>∃k:Nat,k≤a.length∧i=.int .i64 k∧Upd (fun _=>False) w wr∧a.take k=b.take k) (fun i _=>a.length - (intOf i).toNat)
  case atStart=>exact ⟨0,by omega,rfl,Upd.refl _ _,rfl⟩
  case round =>
   obtain ⟨k,hk,rfl,hu,htk⟩:=hrel;have HT:=h3k htk hu hk;clear htk;by_cases hlt:k<a.length
   ·obtain rfl:=hA (by omega)
    obtain rfl:=hB (by have:=HN.out;omega);have hb2:k<b.length:=by have:=HN.out;omega
    obtain ⟨x,hx⟩:=eqx (a[k]);obtain ⟨y,hy⟩:=eqx (b[k]'hb2);have hrow:=H.out.1 wr _ hu (fun _ _ e=>e) k (pairRow x) (by rw [List.getElem?_map,List.getElem?_eq_getElem hlt,hx];rfl)
    have hrow2:=H.out.2.1 wr _ hu (fun _ _ e=>e) k (pairRow y) (by rw [List.getElem?_map,List.getElem?_eq_getElem hb2,hy];rfl)
    obtain ⟨X1,hX1⟩:∃X,str x.1=X:=⟨_,rfl⟩;obtain ⟨X2,hX2⟩:∃X,str x.2=X:=⟨_,rfl⟩;obtain ⟨Y1,hY1⟩:∃X,str y.1=X:=⟨_,rfl⟩;obtain ⟨Y2,hY2⟩:∃X,str y.2=X:=⟨_,rfl⟩;have cX1:wr.cell? ⟨bA,off+k*2,none⟩=some (.string X1):=hrow 0 _ (by rw [← hX1];rfl)
    have cX2:wr.cell? ⟨bA,off+k*2+1,none⟩=some (.string X2):=hrow 1 _ (by rw [← hX2];rfl)
    have cY1:wr.cell? ⟨bB,off2+k*2,none⟩=some (.string Y1):=hrow2 0 _ (by rw [← hY1];rfl)
    have cY2:wr.cell? ⟨bB,off2+k*2+1,none⟩=some (.string Y2):=hrow2 1 _ (by rw [← hY2];rfl)
    have hneq:∀W,(binOp .neq 55 (.agg #[.string X1,.string X2]) (.agg #[.string Y1,.string Y2])).run Tryz.prog W=.ok (.bool (!decide (x=y))) W:=fun W=>by
     have:=pair_neq x y W;unfold pairRow at this;rw [hX1,hX2,hY1,hY2] at this;exact this
    have HX:=h4k hx hy hlt hb2;have j1:(k:Int)<(a.length:Int):=by omega
    have j2:(k:Int)<(b.length:Int):=by omega
    have hwk:IntKind.i64.wrap ((k:Int)+1)=(k:Int)+1:=IntWalk.i64_in _ (by omega);clear hrow hrow2 hx hy hX1 hX2 hY1 hY2;by_cases he:x=y
    ·rw [decide_eq_true he] at hneq
     have HE:=Lib.hid he;clear he;go_wp2_with fail
     go_quiet (fail)
     go_wp2_with fail
     go_roundw
     case rel =>
      refine ⟨k+1,by omega,by simp,hu.drewN _,?_⟩;refine take_eq_step HX.out.2.2.1 HX.out.2.2.2 HT.out.1 ?_;exact (HX.out.1.trans HE.out).trans HX.out.2.1.symm
     case measure=>simp [intOf]<;>omega
    ·rw [decide_eq_false he] at hneq
     have hrf:r=false:=by
      rw [← H.out.2.2,decide_eq_false_iff_not];intro hab;apply he
      rw [← HX.out.1,← HX.out.2.1];simp only [hab]
     subst hrf;clear he;go_wp2_with fail
     go_quiet (fail)
     go_wp2_with fail
     go_ret
     exact ⟨rfl,hu.drewN _⟩
   ·have j1:¬((k:Int)<(a.length:Int)):=by omega
    have hrt:r=true:=by
     rw [← H.out.2.2,decide_eq_true_eq];have:=HT.out.1;rw [List.take_of_length_le (by omega),List.take_of_length_le (by have:=HN.out;omega)] at this;exact this
    subst hrt;go_wp2_with fail
    go_ret
    exact ⟨rfl,hu⟩
 ·have hn':((a.length:Int) == (b.length:Int))=false:=by rw [beq_eq_false_iff_ne];omega
  have hn2:((a.length:Int) != (b.length:Int))=true:=by rw [bne,hn'];rfl
  have hrf:r=false:=by
   rw [← H.out.2.2,decide_eq_false_iff_not];rintro rfl;exact hn rfl
  subst hrf;go_wp2_with fail
  go_ret
  exact ⟨rfl,Upd.refl _ _⟩
instance:DecidableEq BatM:=fun a b=>if h:a.index=b.index∧a.epoch=b.epoch∧a.ops=b.ops then isTrue (by obtain ⟨h1,h2,h3⟩:=h;cases a;cases b;simp_all) else isFalse (by rintro rfl;exact h ⟨rfl,rfl,rfl⟩)
end
section
open Go Go.RowKit
theorem TRow.new {w:World} {t:TypeId} {k n:Nat} {cells:Array Value} {cs:List (List Value)} (hn:cs.length=n) (hm:n≤1000000) (hc:∀i c,cs[i]? = some c→∀j u,c[j]? = some u→cells[i*k+j]? = some u):TRow (w.alloc (.cells cells t)) t k (.slice (some ⟨w.heap.size,0,none⟩) n n) cs:=by
 refine ⟨_,n,by rw [hn],by omega,by omega,fun _=>⟨w.heap.size,0,cells,t,(0,0),rfl,Blk.new w t cells,fun _=>rfl,fun i c h j u hj=>?_⟩⟩;rw [Nat.zero_add];exact hc i c h j u hj
theorem TRow.nil (w:World) (t:TypeId) (k:Nat):TRow w t k (.slice none 0 0) []:=⟨none,0,rfl,by simp,by simp,fun h=>by simp at h⟩
def opW:OpM:=⟨1,[97,112,112,47,97],[49]⟩
def batW:BatM:=⟨1,1,[opW]⟩
theorem commit_W:∃R,commitR R0 batW=(R,0)∧R.at_=1∧R.epoch=1∧R.S=[([97,112,112,47,97],[49])]∧R.rows.length=1∧R.m=metaM0∧R.key=0∧R.prev=0:=⟨_,rfl,rfl,rfl,rfl,rfl,rfl,rfl,rfl⟩
theorem wakes_17 (w:World):Calls Tryz.prog 26 #[] w fun e w'=>e=.returned (.bool true)∧Upd (fun _=>False) w w':=by
 have HF:=Lib.hid (fresh_17 w);obtain ⟨R,hR,r1,r2,r3,-⟩:=commit_W;have hR2:commitR R ⟨3,1,[]⟩=(R,1):=by
  unfold commitR;rw [if_neg (by decide),if_pos (.inl (by rw [r1];decide))]
 have HR:=h5k hR hR2 r1 r2 r3;clear hR hR2 r1 r2 r3;go_enter Tryz.func26,Tryz.ntmps26
 go_upto_region 4 with (first
  | (go_at_call 11;refine HF.out.mono ?_;rintro e w1 ⟨p,v,rfl,hV⟩
     have H1:=Lib.hid hV;clear hV))
 go_upto_region 5 with (first
  | (go_at_call 15
     have hu:=(Upd.refl (fun _=>False) w1).alloc (.cells #[.int .u8 1,.string ⟨#[97,112,112,47,97]⟩,.string ⟨#[49]⟩] 32);refine ((H1.out.still hu).commit (by omega) batW (TRow.new (w:=w1) (t:=32) (k:=3) (n:=1) (cells:=#[.int .u8 1,.string ⟨#[97,112,112,47,97]⟩,.string ⟨#[49]⟩]) (cs:=batW.ops.map opRow) rfl (by omega) (by
      intro i c h j u hj;match i,h with
      | 0,h =>
        cases h
        match j,hj with
        | 0,hj=>exact hj
        | 1,hj=>exact hj
        | 2,hj=>exact hj
        | n+3,hj=>simp [opRow] at hj
      | n+1,h=>simp [batW] at h)) (.inl (by decide)) (by intro o ho;simp [batW] at ho;subst ho;decide) (by decide)).mono ?_
     rintro e w2 ⟨rfl,hV,-⟩;rw [HR.out.1] at hV ⊢;have H2:=Lib.hid hV;clear hu hV))
 go_upto_region 6 with (first
  | (go_at_call 15
     refine (H2.out.commit (by omega) ⟨3,1,[]⟩ (TRow.nil _ 32 _) (.inl (by decide)) (fun o ho=>by simp at ho) (by decide)).mono ?_;rintro e w3 ⟨rfl,hV,-⟩;rw [HR.out.2.1] at hV ⊢;have H3:=Lib.hid hV;clear hV))
 go_upto_region 7 with (first
  | (go_at_call 16;refine (H3.out.open_ (by omega)).mono ?_;rintro e w4 ⟨u,rfl,hV,-⟩
     have H4:=Lib.hid hV;clear hV))
 go_upto_region 9 with (first
  | (go_at_call 12;refine H4.out.place.mono ?_;rintro e w5 ⟨rfl,hV,-⟩
     rw [HR.out.2.2.1,HR.out.2.2.2.1];have H5:=Lib.hid hV;clear hV)
  | (go_at_call 18;refine H5.out.map_.mono ?_;rintro e w6 ⟨m,mb,rfl,hm,-,-,hV,-⟩
     rw [HR.out.2.2.2.2] at hm;have H6:=h2k hV hm;clear hV hm)
  | (go_at_call 19;refine (oget_c H6.out.2 ⟨#[97,112,112,47,97]⟩).mono ?_;rintro e w7 ⟨rfl,rfl⟩
     rw [show getV [([97,112,112,47,97],[49])] (⟨#[97,112,112,47,97]⟩:ByteArray).data.toList=.tuple #[.string ⟨#[49]⟩,.bool true] from rfl]))
 have HB:=Lib.hid (H6.out.1.boot_ (by omega));go_wp2_with (first
  | (go_at_call 13;refine HB.out.mono ?_;rintro e w8 ⟨rfl,rfl⟩))
 go_ret
 exact ⟨rfl,H6.out.1.upd⟩
end
end Go.Proofs.YtbhjgfibhegddaaGreat
