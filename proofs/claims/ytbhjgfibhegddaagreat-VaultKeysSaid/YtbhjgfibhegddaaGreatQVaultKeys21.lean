/-
  Parts of the proof of VaultKeys: Plays17, VlPlay, VlTwo, Same, OmapE, Wakes, WVaultKeys, Facts.
-/
import Derived.ChangeAt2
import Derived.Test.YtbhjgfibhegddaaGreatQVaultKeys20
import Derived.Lib.MinMax
import Derived.ProofKit
import Derived.Test.YtbhjgfibhegddaaGreatRows
set_option maxRecDepth 100000
set_option maxHeartbeats 16000000
namespace Go.Proofs.YtbhjgfibhegddaaGreat
section
open Go Go.RowKit
def batAt (x:ActM) (a e:Int):BatM:=if x.do_=0 then x.b else ⟨IntKind.i64.wrap (a+1),max x.b.epoch e,x.b.ops⟩
structure PlaysOn (w0:World) (p:Nat) (l:List ActM) (I:Nat→World→Nat→Int→Int→Prop):Prop where
 upd:∀ {k w v a e},I k w v a e→Upd (fun _=>False) w0 w
 still:∀ {k w w' v a e},I k w v a e→Upd (fun _=>False) w w'→I k w' v a e
 place:∀ {k w v a e},I k w v a e→Calls Tryz.prog 12 #[.pointer (some ⟨v,0,none⟩)] w fun r w'=>r=.returned (.tuple #[.int .i64 a,.int .i64 e])∧Upd (fun _=>False) w w'
 commit:∀ {k w v a e x},I k w v a e→l[k]? = some x→x.do_=0∨x.do_=1→Calls Tryz.prog 15 #[.pointer (some ⟨v,0,none⟩),.agg #[.int .i64 (batAt x a e).index,.int .i64 (batAt x a e).epoch,x.ov]] w fun r w'=>∃n a' e',r=.returned (.int .i64 n)∧I (k+1) w' v a' e'
 set_:∀ {k w v a e x},I k w v a e→l[k]? = some x→x.do_=2→Calls Tryz.prog 24 #[.pointer (some ⟨v,0,none⟩),.agg (metaRow x.m x.mv)] w fun r w'=>∃n a' e',r=.returned (.int .i64 n)∧I (k+1) w' v a' e'
 install:∀ {k w v a e x},I k w v a e→l[k]? = some x→x.do_=3→Calls Tryz.prog 21 #[.pointer (some ⟨v,0,none⟩),.agg (metaRow x.m x.mv),x.lv,.int .i64 x.at_,.int .i64 x.ep] w fun r w'=>∃n a' e',r=.returned (.int .i64 n)∧I (k+1) w' v a' e'
 rotate:∀ {k w v a e x},I k w v a e→l[k]? = some x→x.do_=4→Calls Tryz.prog 34 #[.pointer (some ⟨v,0,none⟩)] w fun r w'=>∃n a' e',r=.returned (.int .i64 n)∧I (k+1) w' v a' e'
 open_:∀ {k w v a e x},I k w v a e→l[k]? = some x→x.do_=5→Calls Tryz.prog 16 #[.pointer (some ⟨p,0,none⟩),.string (str masterL)] w fun r w'=>∃u a' e',r=.returned (.tuple #[.pointer (some ⟨u,0,none⟩),.int .i64 0])∧I (k+1) w' u a' e'
 none_:∀ {k w v a e x},I k w v a e→l[k]? = some x→5<x.do_→I (k+1) w v a e
def actCells (x:ActM) (S:ByteArray):Array Value:=#[.int .u8 (x.do_.toNat:Int),.int .i64 x.b.index,.int .i64 x.b.epoch,x.ov,.int .i64 x.m.role,.int .i64 x.m.seen,.int .i64 x.m.grant,x.mv,.string S,x.lv,.int .i64 x.at_,.int .i64 x.ep]
theorem RIn.one {w:World} {k:Nat} {v:Value} {cs:List (List Value)} (h:RIn w k v cs):v.oneCell'=true:=by
 obtain ⟨A,cap,rfl,-⟩:=h;rfl
theorem act_one {x:ActM} {S:ByteArray} (h1:x.ov.oneCell'=true) (h2:x.mv.oneCell'=true) (h3:x.lv.oneCell'=true):(actCells x S).all (·.oneCell')=true:=by
 simp only [actCells,List.all_toArray,List.all_cons,List.all_nil,h1,h2,h3,Bool.and_true];rfl
theorem plays_c {w0 w:World} {p v:Nat} {l:List ActM} {lv:Value} {I:Nat→World→Nat→Int→Int→Prop} {a e:Int} (hP:PlaysOn w0 p l I) (hA:IsActs17 w0 lv l) (hI:I 0 w v a e) :
 Calls Tryz.prog 31 #[.pointer (some ⟨p,0,none⟩),.pointer (some ⟨v,0,none⟩),lv] w fun r w'=>∃u a' e',r=.returned (.pointer (some ⟨u,0,none⟩))∧I l.length w' u a' e':=by
 obtain ⟨A,cap,bA,off,rfl,hcap,hm,hA0,hcells⟩:=hA.rows.open_still;rw [List.length_map] at hm hA0 hcap ⊢;have HR:=Lib.hid hcells;have HE:=Lib.hid hA.each;have HP:=Lib.hid hP;have HI:=Lib.hid hI;clear hcells hA hP hI;go_enter Tryz.func31,Tryz.ntmps31
 go_wp2_with fail
 go_loopw [1,7] (fun u i wr=>∃(k v:Nat) (a e:Int),k≤l.length∧i=.int .i64 k∧u=.pointer (some ⟨v,0,none⟩)∧I k wr v a e) (fun _ i _=>l.length - (intOf i).toNat)
 case atStart=>exact ⟨0,v,a,e,by omega,rfl,rfl,HI.out⟩
 case round =>
  obtain ⟨k,u,pa,pe,hk,rfl,rfl,hI⟩:=hrel;have HJ:=Lib.hid hI;clear hI;by_cases hlt:k<l.length
  ·obtain rfl:=hA0 (by omega)
   obtain ⟨x,hx⟩:∃x,l[k]? = some x:=⟨_,List.getElem?_eq_getElem hlt⟩;obtain ⟨S,hS⟩:=eqx (str x.m.secret);obtain ⟨D,hD⟩:∃D:Int,(x.do_.toNat:Int)=D:=⟨_,rfl⟩;have hrow:wr.rangeAt bA (off+k*12) [.int .u8 D,.int .i64 x.b.index,.int .i64 x.b.epoch,x.ov,.int .i64 x.m.role,.int .i64 x.m.seen,.int .i64 x.m.grant,x.mv,.string S,x.lv,.int .i64 x.at_,.int .i64 x.ep]:=by
    have:=HR.out wr (HP.out.upd HJ.out) k x.row (by rw [List.getElem?_map,hx];rfl)
    unfold ActM.row at this;rw [hS,hD] at this;exact this
   have hin:=HE.out x (List.mem_of_getElem? hx);have hone:=act_one (S:=S) hin.bat.ops.rows.one hin.met.rows.one hin.prs.rows.one;unfold actCells at hone;rw [hD] at hone;obtain ⟨oA,ocap,hov,-⟩:=hin.bat.ops.rows;obtain ⟨on,hon⟩:∃n,(x.b.ops.map opRow).length=n:=⟨_,rfl⟩;rw [hon] at hov;rw [hov] at hrow hone;obtain ⟨q,hq⟩:=eqx wr.heap.size;have hmeta:metaRow x.m x.mv=#[.int .i64 x.m.role,.int .i64 x.m.seen,.int .i64 x.m.grant,x.mv,.string S]:=by rw [← hS];rfl
   have HRW:=Lib.hid hrow;have HX:=h7k hx hone hq hD hlt hmeta hov;have j1:(k:Int)<(l.length:Int):=by omega
   have hwk:IntKind.i64.wrap ((k:Int)+1)=(k:Int)+1:=IntWalk.i64_in _ (by omega);clear hrow hin hone hq hx hS hD hmeta hov hon;go_upto_region 5 with (first
    | (refine wpList_load_mid rfl _ _ rfl bA (off+k*12) rfl [.int .u8 D,.int .i64 x.b.index,.int .i64 x.b.epoch,.slice oA on ocap,.int .i64 x.m.role,.int .i64 x.m.seen,.int .i64 x.m.grant,x.mv,.string S,x.lv,.int .i64 x.at_,.int .i64 x.ep] _ HRW.out Tryz.underlying65 rfl (by kernel_rfl) ?_)
    | (refine wpList_store_all rfl 65 _ _ rfl wr.heap.size #[.int .u8 D,.int .i64 x.b.index,.int .i64 x.b.epoch,.slice oA on ocap,.int .i64 x.m.role,.int .i64 x.m.seen,.int .i64 x.m.grant,x.mv,.string S,x.lv,.int .i64 x.at_,.int .i64 x.ep] rfl rfl _ _ (Blk.new wr _ _) rfl HX.out.2.1 (by kernel_rfl) ?_
       intro w2 hB2 hU2 hz2))
   rw [HX.out.2.2.1] at hB2 hU2 ⊢;have hU12:Upd (fun _=>False) wr w2:=((Upd.refl _ wr).alloc _).then hU2 (fun b e=>.inr (by have e2:b=q:=e;have:=HX.out.2.2.1;omega));have HPL:=Lib.hid (HP.out.place (HP.out.still HJ.out hU12));have H2:=h2k hB2 (HP.out.still HJ.out hU12);clear hB2 hU2 hU12 hz2;go_upto_region 6 with (first
    | (go_at_call 12;refine HPL.out.mono ?_;rintro r w3 ⟨rfl,hU3⟩
       have hB3:=H2.out.1.upd hU3 (fun e=>e);have H3:=h2k hB3 (HP.out.still H2.out.2 hU3);clear hU3 hB3))
   have c0:w3.cell? ⟨q,0,none⟩=some (.int .u8 D):=H3.out.1.cell 0;have c1:w3.cell? ⟨q,1,none⟩=some (.int .i64 x.b.index):=H3.out.1.cell 1;have c2:w3.cell? ⟨q,2,none⟩=some (.int .i64 x.b.epoch):=H3.out.1.cell 2;have c3:w3.cell? ⟨q,3,none⟩=some (.slice oA on ocap):=H3.out.1.cell 3;have c4:w3.cell? ⟨q,4,none⟩=some (.int .i64 x.m.role):=H3.out.1.cell 4;have c5:w3.cell? ⟨q,5,none⟩=some (.int .i64 x.m.seen):=H3.out.1.cell 5;have c6:w3.cell? ⟨q,6,none⟩=some (.int .i64 x.m.grant):=H3.out.1.cell 6;have c7:w3.cell? ⟨q,7,none⟩=some x.mv:=H3.out.1.cell 7;have c8:w3.cell? ⟨q,8,none⟩=some (.string S):=H3.out.1.cell 8;have c9:w3.cell? ⟨q,9,none⟩=some x.lv:=H3.out.1.cell 9;have c10:w3.cell? ⟨q,10,none⟩=some (.int .i64 x.at_):=H3.out.1.cell 10;have c11:w3.cell? ⟨q,11,none⟩=some (.int .i64 x.ep):=H3.out.1.cell 11;have hd8:x.do_=0∨x.do_=1∨x.do_=2∨x.do_=3∨x.do_=4∨x.do_=5∨5<x.do_:=by
    rcases Nat.lt_or_ge 5 x.do_.toNat with h | h
    ·exact .inr (.inr (.inr (.inr (.inr (.inr (by rw [UInt8.lt_iff_toNat_lt];exact h))))))
    ·have hz:∀n:Nat,n≤5→x.do_.toNat=n→x.do_=UInt8.ofNat n:=fun n hn e=>UInt8.toNat_inj.1 (by rw [e,UInt8.toNat_ofNat'];omega)
     rcases (show x.do_.toNat=0∨x.do_.toNat=1∨x.do_.toNat=2∨x.do_.toNat=3∨x.do_.toNat=4∨x.do_.toNat=5 by omega) with e | e | e | e | e | e
     ·exact .inl (hz 0 (by omega) e)
     ·exact .inr (.inl (hz 1 (by omega) e))
     ·exact .inr (.inr (.inl (hz 2 (by omega) e)))
     ·exact .inr (.inr (.inr (.inl (hz 3 (by omega) e))))
     ·exact .inr (.inr (.inr (.inr (.inl (hz 4 (by omega) e)))))
     ·exact .inr (.inr (.inr (.inr (.inr (.inl (hz 5 (by omega) e))))))
   rcases hd8 with hd | hd | hd | hd | hd | hd | hd
   ·obtain rfl:D=0:=by rw [← HX.out.2.2.2.1,hd];rfl
    have HC:=HP.out.commit H3.out.2 HX.out.1 (.inl hd);rw [HX.out.2.2.2.2.2.2] at HC;rw [show batAt x pa pe=x.b by unfold batAt;rw [if_pos hd]] at HC;have HC:=Lib.hid HC;clear hd;go_wp2_with (first
     | (go_at_call 15;refine HC.out.mono ?_;rintro r w4 ⟨n2,a2,e2,rfl,hI⟩
        have HY:=Lib.hid hI;clear hI))
    go_roundw
    case rel=>exact ⟨k+1,u,a2,e2,by omega,by simp,rfl,HY.out⟩
    case measure=>simp [intOf]<;>omega
   ·obtain rfl:D=1:=by rw [← HX.out.2.2.2.1,hd];rfl
    have HC:=HP.out.commit H3.out.2 HX.out.1 (.inr hd);rw [HX.out.2.2.2.2.2.2] at HC;rw [show batAt x pa pe=⟨IntKind.i64.wrap (pa+1),max x.b.epoch pe,x.b.ops⟩ by unfold batAt;rw [if_neg (by rw [hd];decide)]] at HC
    have hmax:∀W,(Builtin.max_ #[3,3] 3 #[.int .i64 x.b.epoch,.int .i64 pe]).run Tryz.prog W=.ok (.int .i64 (max x.b.epoch pe)) W:=fun W=>Lib.run_max_ints W _ _ _ _ _ _
    obtain ⟨mx,hmx⟩:∃m,max x.b.epoch pe=m:=⟨_,rfl⟩;obtain ⟨ix,hix⟩:∃m,IntKind.i64.wrap (pa+1)=m:=⟨_,rfl⟩;rw [hmx] at hmax;rw [hmx,hix] at HC;have HC:=Lib.hid HC;clear hd;go_wp2_with (first
     | (go_at_call 15;refine HC.out.mono ?_;rintro r w4 ⟨n2,a2,e2,rfl,hI⟩
        have HY:=Lib.hid hI;clear hI))
    go_roundw
    case rel=>exact ⟨k+1,u,a2,e2,by omega,by simp,rfl,HY.out⟩
    case measure=>simp [intOf]<;>omega
   ·obtain rfl:D=2:=by rw [← HX.out.2.2.2.1,hd];rfl
    have HC:=HP.out.set_ H3.out.2 HX.out.1 hd;rw [HX.out.2.2.2.2.2.1] at HC;have HC:=Lib.hid HC;clear hd;go_wp2_with (first
     | (go_at_call 24;refine HC.out.mono ?_;rintro r w4 ⟨n2,a2,e2,rfl,hI⟩
        have HY:=Lib.hid hI;clear hI))
    go_roundw
    case rel=>exact ⟨k+1,u,a2,e2,by omega,by simp,rfl,HY.out⟩
    case measure=>simp [intOf]<;>omega
   ·obtain rfl:D=3:=by rw [← HX.out.2.2.2.1,hd];rfl
    have HC:=HP.out.install H3.out.2 HX.out.1 hd;rw [HX.out.2.2.2.2.2.1] at HC;have HC:=Lib.hid HC;clear hd;go_wp2_with (first
     | (go_at_call 21;refine HC.out.mono ?_;rintro r w4 ⟨n2,a2,e2,rfl,hI⟩
        have HY:=Lib.hid hI;clear hI))
    go_roundw
    case rel=>exact ⟨k+1,u,a2,e2,by omega,by simp,rfl,HY.out⟩
    case measure=>simp [intOf]<;>omega
   ·obtain rfl:D=4:=by rw [← HX.out.2.2.2.1,hd];rfl
    have HC:=HP.out.rotate H3.out.2 HX.out.1 hd;have HC:=Lib.hid HC;clear hd;go_wp2_with (first
     | (go_at_call 34;refine HC.out.mono ?_;rintro r w4 ⟨n2,a2,e2,rfl,hI⟩
        have HY:=Lib.hid hI;clear hI))
    go_roundw
    case rel=>exact ⟨k+1,u,a2,e2,by omega,by simp,rfl,HY.out⟩
    case measure=>simp [intOf]<;>omega
   ·obtain rfl:D=5:=by rw [← HX.out.2.2.2.1,hd];rfl
    have HC:=HP.out.open_ H3.out.2 HX.out.1 hd;have HC:=Lib.hid HC;clear hd;go_wp2_with (first
     | (go_at_call 16;refine HC.out.mono ?_;rintro r w4 ⟨u2,a2,e2,rfl,hI⟩
        have HY:=Lib.hid hI;clear hI))
    go_roundw
    case rel=>exact ⟨k+1,u2,a2,e2,by omega,by simp,rfl,HY.out⟩
    case measure=>simp [intOf]<;>omega
   ·have hD5:5<D:=by rw [← HX.out.2.2.2.1];have:=UInt8.lt_iff_toNat_lt.1 hd;exact_mod_cast this
    have e0:(D == (0:Int))=false:=by rw [beq_eq_false_iff_ne];omega
    have e1:(D == (1:Int))=false:=by rw [beq_eq_false_iff_ne];omega
    have e2:(D == (2:Int))=false:=by rw [beq_eq_false_iff_ne];omega
    have e3:(D == (3:Int))=false:=by rw [beq_eq_false_iff_ne];omega
    have e4:(D == (4:Int))=false:=by rw [beq_eq_false_iff_ne];omega
    have e5:(D == (5:Int))=false:=by rw [beq_eq_false_iff_ne];omega
    have HY:=Lib.hid (HP.out.none_ H3.out.2 HX.out.1 hd);clear hd;go_wp2_with fail
    go_roundw
    case rel=>exact ⟨k+1,u,pa,pe,by omega,by simp,rfl,HY.out⟩
    case measure=>simp [intOf]<;>omega
  ·have j1:¬((k:Int)<(l.length:Int)):=by omega
   go_wp2_with fail
   go_ret
   obtain rfl:k=l.length:=by omega
   exact ⟨u,rfl,pa,pe,HJ.out⟩
end
section
open Go Go.RowKit
def playR (R:RvM) (x:ActM):RvM :=
 if x.do_=0∨x.do_=1 then (commitR R (batAt x R.at_ R.epoch)).1 else if x.do_=2 then (setR R x.m).1 else if x.do_=3 then (installR R x.m x.l x.at_ x.ep).1 else if x.do_=4 then (rotateR R).1 else R
def playsR (R:RvM) (l:List ActM):RvM:=l.foldl playR R
theorem playsR_step {R:RvM} {l:List ActM} {k:Nat} {x:ActM} (h:l[k]? = some x):playsR R (l.take (k+1))=playR (playsR R (l.take k)) x:=by
 unfold playsR;rw [List.take_add_one,h,List.foldl_append];rfl
section
variable {w0 w w':World} {p v:Nat} {R:RvM} {boot c:Nat} {M:Nat→Prop}
end
theorem IsActs17.still {w w':World} {v:Value} {l:List ActM} (h:IsActs17 w v l) (hu:Upd (fun _=>False) w w'):IsActs17 w' v l:=⟨h.rows.still hu,fun a ha=>(h.each a ha).still hu⟩
theorem IsActs17.one {w:World} {b off cap:Nat} {l:List ActM} (h:IsActs17 w (.slice (some ⟨b,off,none⟩) l.length cap) l) {k:Nat} (hk:k<l.length):IsActs17 w (.slice (some ⟨b,off+k*12,none⟩) 1 (cap - k)) [l[k]]:=by
 refine ⟨?_,fun a ha=>h.each a (by rw [List.mem_singleton.1 ha];exact List.getElem_mem hk)⟩;obtain ⟨A,cap',e,h2,h3,h4⟩:=h.rows;rw [List.length_map] at h2 h3 h4;injection e with e1 e2 e3;subst e3;obtain ⟨b',off',cur,t,fr,f1,f2,f3⟩:=h4 (by omega);rw [f1] at e1;injection e1 with e1;injection e1 with g1 g2 g3;subst g1 g2;refine ⟨_,_,rfl,by simp;omega,by simp,fun _=>⟨_,_,cur,t,fr,rfl,f2,fun i c hc j u hj=>?_⟩⟩;cases i with
 | zero =>
   have hc2:(l[k]).row=c:=by simpa using hc
   rw [Nat.zero_mul,Nat.add_zero];exact f3 k c (by rw [List.getElem?_map,List.getElem?_eq_getElem hk,← hc2];rfl) j u hj
 | succ i=>simp at hc
theorem trow_all {w w':World} {m mb:Nat} {S:List PairM} {v:Value} (h:Own w' 55 2 v S.length (pairsV S)) (hm:MapAt w m mb S):TRow w' 55 2 v (S.map pairRow):=by
 have:=hm.ok.len;exact TRow.of_own (n:=S.length) (by rw [← List.flatMap_def];exact h) (by rw [List.length_map]) (by omega) (fun c hc=>by obtain ⟨p,-,rfl⟩:=List.mem_map.1 hc;rfl)
end
section
open Go Go.RowKit
def VlK (w0 w:World) (p v:Nat) (R:RvM) (boot c:Nat) (K:Nat→Prop):Prop:=∃d V o S0,VlX w0 w p v d V o S0 c∧V.abs=R∧V.st.boot=boot∧∀q,K q↔(o.mut v q∨q=o.mb)
section
variable {w0 w w':World} {p v:Nat} {d:Dk} {V:VtM} {o:VtO} {S0:List PairM} {R:RvM} {boot c:Nat} {K:Nat→Prop}
theorem VtAt.mbz (h:VtAt w p v d V o):VtZ w o.mb:=by
 obtain ⟨ents,e1,-⟩:=h.map.map;exact .inr e1.mp
theorem VtAt.other {Z:Nat→Prop} (h:VtAt w p v d V o) (hu:Upd Z w w') (hz:∀q,Z q→VtZ w q) (hk:∀q,Z q→¬(o.mut v q∨q=o.mb)):VtAt w' p v d V o :=
 ⟨h.disk.upd hu (fun q hq e=>hk q e (.inl (.inr (.inl hq)))),h.blk.upd hu (fun e=>hk _ e (.inl (.inl rfl))),h.kept.upd hu (fun e=>hk _ e (.inl (.inr (.inr (.inl rfl))))),h.log.upd hu (fun e=>hk _ e (.inl (.inr (.inr (.inr (.inl rfl)))))),h.recs.upd hu (fun q hq e=>hk q e (.inl (.inr (.inr (.inr (.inr (.inl hq))))))),h.sep,h.ring.move hu (fun q hq e=>hk q e (.inl (.inr (.inr (.inr (.inr (.inr (.inl hq)))))))),h.rkF,
  h.map.upd hu (fun e=>h.map.blk.ty.not_vt (by decide) (hz _ e)) (fun e=>hk _ e (.inr rfl)),h.mbF,h.mbk,h.rows.upd hu (fun q hq e=>hk q e (.inl (.inr (.inr (.inr (.inr (.inr (.inr hq)))))))),h.ovl,fun i b ov h1 h2=>(h.each i b ov h1 h2).upd hu (fun _ ht e=>ht.not_vt (by decide) (hz _ e)),h.mts.upd hu (fun _ ht e=>ht.not_vt (by decide) (hz _ e))⟩
theorem VlK.vtz (h:VlK w0 w p v R boot c K) {q:Nat} (hq:K q):VtZ w q:=by
 obtain ⟨_,_,_,_,h,_,_,e⟩:=h;rcases (e q).1 hq with e | rfl
 ·exact h.at_.vtz e
 ·exact h.at_.mbz
theorem VlK.lt (h:VlK w0 w p v R boot c K) {q:Nat} (hq:K q):q<w.heap.size:=by
 rcases h.vtz hq with ⟨t,_,cur,fr,e⟩ | ⟨es,cc,e⟩<;>exact (Array.getElem?_eq_some_iff.1 e).1
theorem VlK.other (h:VlK w0 w p v R boot c K) {Z Z':Nat→Prop} (hs:Stp w w' Z Z') (hz:∀q,Z q→VtZ w q) (hk:∀q,Z q→¬K q) (hl:∀q,Z q→w0.heap.size≤q):VlK w0 w' p v R boot c K∧∀q,Z' q→¬K q:=by
 have h0:=h;obtain ⟨d,V,o,S0,h,h1,h2,e⟩:=h;refine ⟨⟨d,V,o,S0,⟨h.at_.other hs.upd hz (fun q hq e'=>hk q hq ((e q).2 e')),h.g,h.low,h.upd.then hs.upd (fun q hq=>.inr (hl q hq))⟩,h1,h2,e⟩,fun q hq hK=>?_⟩;rcases hs.sub q hq with e2 | e2
 ·exact hk q e2 hK
 ·have:=h0.lt hK
  omega
theorem VlX.stepK {d':Dk} {V':VtM} {o':VtO} {S0':List PairM} {c':Nat} (h:VlX w0 w p v d V o S0 c) (hm:∀q,K q↔(o.mut v q∨q=o.mb)) (ha:VtAt w' p v d' V' o') (hs:VtStep w w' v o o') (hg:VtG d' V' S0' c'):VlX w0 w' p v d' V' o' S0' c'∧Stp w w' K (fun q=>o'.mut v q∨q=o'.mb):=by
 refine ⟨⟨ha,hg,fun q hq=>?_,h.upd.then hs.upd (fun q e=>.inr (h.low q e))⟩,hs.upd.mono (fun q e=>.inl ((hm q).2 (.inl e))),fun q hq=>?_⟩
 ·rcases hs.sub q hq with e | e
  ·exact h.low q e
  ·have:=h.upd.size
   omega
 ·rcases hq with hq | rfl
  ·exact (hs.sub q hq).imp (fun e=>(hm q).2 (.inl e)) id
  ·exact hs.mbs.imp (fun e=>(hm _).2 (.inr e)) id
theorem VlK.still (h:VlK w0 w p v R boot c K) (hu:Upd (fun _=>False) w w'):VlK w0 w' p v R boot c K:=by
 obtain ⟨d,V,o,S0,h,e⟩:=h;exact ⟨d,V,o,S0,h.still hu,e⟩
theorem VlK.upd (h:VlK w0 w p v R boot c K):Upd (fun _=>False) w0 w:=by obtain ⟨_,_,_,_,h,_⟩:=h;exact h.upd
theorem VlK.old (h:VlK w0 w p v R boot c K) (hc:c<99000):VlO w p v R boot:=by
 obtain ⟨d,V,o,S0,h,h1,h2,-⟩:=h;exact h.old h1 h2 hc
theorem VlK.commit (h:VlK w0 w p v R boot c K) (hc:c<99000) (b:BatM) {ty:TypeId} {ov:Value} (hov:TRow w ty 3 ov (b.ops.map opRow)) (hfar:(ty ∉ vtTypes∧ty≠anyT)∨∀q,ov.ownBlock=some q→q<w0.heap.size) (hbs:OpsSmall b.ops) (hbe:b.epoch≤9223372036854775807) :
 Calls Tryz.prog 15 #[.pointer (some ⟨v,0,none⟩),.agg #[.int .i64 b.index,.int .i64 b.epoch,ov]] w fun e w'=>e=.returned (.int .i64 (commitR R b).2)∧(∃K',VlK w0 w' p v (commitR R b).1 boot (c+3) K'∧Stp w w' K K'):=by
 obtain ⟨d,V,o,S0,h,rfl,hbt,hm⟩:=h;have hg:=h.g.vdk.good;refine (vcommit_c h.at_ (h.g.stok hc) (h.g.putfit hc) (by have:=h.g.num;omega) (by rw [hg.pend];omega) hg.len (by have:=h.g.vdk.logs;omega) (h.g.vdk.lgfit (by omega)) h.g.vdk.many h.g.place b hov (fun W hu=>hfar.elim (fun e=>hov.upd hu (fun q ht=>h.at_.not_mut ht e.1) e.2) (fun e=>hov.low e hu h.low)) hbs hbe).mono ?_;rintro e w' ⟨rfl,o',h1,h2⟩;obtain ⟨D,V',S0',q1,q2,q3,q4⟩:=h.g.commit hc b hbe;rw [q1] at h1 ⊢;obtain ⟨a1,a2⟩:=h.stepK hm h1 h2 q2;exact ⟨rfl,_,⟨D,V',o',S0',a1,q3,q4.trans hbt,fun _=>Iff.rfl⟩,a2⟩
theorem VlK.set_ (h:VlK w0 w p v R boot c K) (hc:c<99000) (m:MetaM) {ty:TypeId} {mv:Value} (hmv:TRow w ty 2 mv (m.mounts.map mtRow)) (hmn:m.seen≤9223372036854775807∧m.grant≤9223372036854775807) (hml:∀x ∈ m.mounts,x.name.length≤1000000) :
 Calls Tryz.prog 24 #[.pointer (some ⟨v,0,none⟩),.agg (metaRow m mv)] w fun e w'=>e=.returned (.int .i64 (setR R m).2)∧(∃K',VlK w0 w' p v (setR R m).1 boot (c+3) K'∧Stp w w' K K'):=by
 obtain ⟨d,V,o,S0,h,rfl,hbt,hm⟩:=h;refine (vset_c h.at_ (h.g.stok hc) (h.g.putfit hc) m hmv hmn hml).mono ?_;rintro e w' ⟨rfl,o',h1,h2⟩;obtain ⟨D,V',q1,q2,q3,q4⟩:=h.g.set_ hc m hmn;rw [q1] at h1 ⊢;obtain ⟨a1,a2⟩:=h.stepK hm h1 h2 (S0':=S0) (c':=c+3) { q2 with vdk:=q2.vdk.mono (by omega),num:=by have h1:=q2.num;show V'.n≤c+3;omega };exact ⟨rfl,_,⟨D,V',o',S0,a1,q3,q4.trans hbt,fun _=>Iff.rfl⟩,a2⟩
theorem VlK.install (h:VlK w0 w p v R boot c K) (hc:c<99000) (m:MetaM) {ty:TypeId} {mv:Value} (hmv:TRow w ty 2 mv (m.mounts.map mtRow)) (hmn:m.seen≤9223372036854775807∧m.grant≤9223372036854775807) (hml:∀x ∈ m.mounts,x.name.length≤1000000)
 (l:List PairM) {tl:TypeId} {lv:Value} (hlv:TRow w tl 2 lv (l.map pairRow)) (hls:∀p ∈ l,p.1.length≤1000000∧p.2.length≤1000000) (at_ ep:Int) (hep:ep≤9223372036854775807) :
 Calls Tryz.prog 21 #[.pointer (some ⟨v,0,none⟩),.agg (metaRow m mv),lv,.int .i64 at_,.int .i64 ep] w fun e w'=>e=.returned (.int .i64 (installR R m l at_ ep).2)∧(∃K',VlK w0 w' p v (installR R m l at_ ep).1 boot (c+3) K'∧Stp w w' K K'):=by
 obtain ⟨d,V,o,S0,h,rfl,hbt,hm⟩:=h;have hg:=h.g.vdk.good;refine (vinstall_c h.at_ (h.g.stok hc) (h.g.putfit hc) (by have:=h.g.num;omega) (by rw [hg.pend];omega) hg.len (by have:=h.g.vdk.logs;omega) m hmv hmn hml l hlv hls at_ ep hep).mono ?_;rintro e w' ⟨rfl,o',h1,h2⟩;obtain ⟨D,V',S0',q1,q2,q3,q4⟩:=h.g.install hc m hmn l at_ ep hep;rw [q1] at h1 ⊢;obtain ⟨a1,a2⟩:=h.stepK hm h1 h2 (S0':=S0') (c':=c+3) { q2 with vdk:=q2.vdk.mono (by omega),num:=by have h1:=q2.num;show V'.n≤c+3;omega };exact ⟨rfl,_,⟨D,V',o',S0',a1,q3,q4.trans hbt,fun _=>Iff.rfl⟩,a2⟩
theorem VlK.rotate (h:VlK w0 w p v R boot c K) (hc:c<99000) :
 Calls Tryz.prog 34 #[.pointer (some ⟨v,0,none⟩)] w fun e w'=>e=.returned (.int .i64 (rotateR R).2)∧(∃K',VlK w0 w' p v (rotateR R).1 boot (c+3) K'∧Stp w w' K K'):=by
 obtain ⟨d,V,o,S0,h,rfl,hbt,hm⟩:=h;refine (vrotate_c h.at_ (h.g.stok hc) (h.g.putfit hc) (by have:=h.g.vdk.keys;omega) (by rw [h.g.cur];have:=h.g.vdk.keys;omega)).mono ?_;rintro e w' ⟨rfl,o',h1,h2⟩;obtain ⟨D,V',q1,q2,q3,q4⟩:=h.g.rotate hc;rw [q1] at h1 ⊢;obtain ⟨a1,a2⟩:=h.stepK hm h1 h2 (S0':=S0) (c':=c+3) { q2 with vdk:=q2.vdk.mono (by omega),num:=by have h1:=q2.num;show V'.n≤c+3;omega };exact ⟨rfl,_,⟨D,V',o',S0,a1,q3,q4.trans hbt,fun _=>Iff.rfl⟩,a2⟩
theorem VlK.open_ (h:VlK w0 w p v R boot c K) (hc:c<99000):Calls Tryz.prog 16 #[.pointer (some ⟨p,0,none⟩),.string (str masterL)] w fun e w'=>∃v',e=.returned (.tuple #[.pointer (some ⟨v',0,none⟩),.int .i64 0])∧(∃K',VlK w0 w' p v' R (boot+1) (c+1) K'∧Stp w w' K K')∧VlO w' p v R boot:=by
 obtain ⟨d,V,o,S0,h,rfl,rfl,hm⟩:=h;refine (vopen_c h.at_.disk (h.g.free.opens_ hc h.g.vdk.good.off)).mono ?_;intro e w' hO;obtain ⟨D,V',q1,q2,q3,q4⟩:=VDk.opens h.g hc;rw [q1] at hO;obtain ⟨v',o',rfl,hL⟩:=hO.yes rfl;have hlow:∀q ∈ o.F,w0.heap.size≤q:=fun q hq=>h.low q (.inr (.inl hq))
 have hmF:∀q ∈ o.F,K q:=fun q hq=>(hm q).2 (.inl (.inr (.inl hq)))
 have hL2:Left w w' p D o.F o'.F:=⟨hL.at_.disk,hL.upd,fun q hq=>hL.sub q (.inr (.inl hq))⟩;have hold:VlO w' p v V.abs V.st.boot := { h.old rfl rfl with ex:=⟨_,_,_,(h.at_.disk_ hL2).1,rfl,rfl⟩ };refine ⟨v',rfl,⟨_,⟨D,V',o',S0,⟨hL.at_,q2,fun q hq=>?_,h.upd.then hL.upd (fun q hq=>.inr (hlow q hq))⟩,q3,q4,fun _=>Iff.rfl⟩,hL.upd.mono (fun q hq=>.inl (hmF q hq)),fun q hq=>hq.elim (fun hq=>(hL.sub q hq).imp (hmF q) id) (fun e=>.inr (e ▸ hL.mb))⟩,hold⟩;rcases hL.sub q hq with e | e
 ·exact hlow q e
 ·have:=h.upd.size
  omega
end
section
variable {w0 w w':World} {p v:Nat} {R:RvM} {boot c:Nat} {K:Nat→Prop}
theorem VlK.place_ok (h:VlK w0 w p v R boot c K):PlaceIs R.at_ R.epoch:=by
 obtain ⟨d,V,o,S0,h,rfl,-⟩:=h;exact h.g.place
theorem VlK.mono (h:VlK w0 w p v R boot c K) {c':Nat} (hc:c≤c'):VlK w0 w p v R boot c' K:=by
 obtain ⟨d,V,o,S0,h,e⟩:=h;exact ⟨d,V,o,S0,⟨h.at_,{ h.g with vdk:=h.g.vdk.mono hc,num:=Nat.le_trans h.g.num hc },h.low,h.upd⟩,e⟩
theorem VlK.commit_in (h:VlK w0 w p v R boot c K) (hc:c<99000) (b:BatM) {ov:Value} (hO:OpsIn w0 ov b.ops) (hf:OpsFew b.ops) (hbe:b.epoch≤9223372036854775807) :
 Calls Tryz.prog 15 #[.pointer (some ⟨v,0,none⟩),.agg #[.int .i64 b.index,.int .i64 b.epoch,ov]] w fun e w'=>e=.returned (.int .i64 (commitR R b).2)∧(∃K',VlK w0 w' p v (commitR R b).1 boot (c+3) K'∧Stp w w' K K'):=by
 have hs:OpsSmall b.ops:=fun o ho=>by have:=hf.2 o ho;omega
 by_cases h0:b.ops.length=0
 ·have hT:TRow w 32 3 ov (b.ops.map opRow):=by
   obtain ⟨A,cap,h1,h2,h3,-⟩:=hO.rows;exact ⟨A,cap,h1,h2,by rw [List.length_map,h0];omega,fun h=>by rw [List.length_map] at h;omega⟩
  exact h.commit hc b hT (.inl (by decide)) hs hbe
 ·exact h.commit hc b ((hO.rows.still h.upd).row (by rw [List.length_map];have:=hf.1;omega)) (.inr (hO.rows.lt (by rw [List.length_map];omega))) hs hbe
theorem VlK.set_in (h:VlK w0 w p v R boot c K) (hc:c<99000) {m:MetaM} {mv:Value} (hM:MetaIn w0 mv m) (hf:MetaFew m) :
 Calls Tryz.prog 24 #[.pointer (some ⟨v,0,none⟩),.agg (metaRow m mv)] w fun e w'=>e=.returned (.int .i64 (setR R m).2)∧(∃K',VlK w0 w' p v (setR R m).1 boot (c+3) K'∧Stp w w' K K') :=
 h.set_ hc m ((hM.rows.still h.upd).row (by rw [List.length_map];have:=hf.1;omega)) ⟨hM.seen.2,hM.grant.2⟩ (fun x hx=>by have:=hf.2.2 x hx;omega)
theorem VlK.install_in (h:VlK w0 w p v R boot c K) (hc:c<99000) {m:MetaM} {mv:Value} (hM:MetaIn w0 mv m) (hf:MetaFew m) {l:List PairM} {lv:Value} (hL:PrsIn w0 lv l) (hfl:PrsFew l) (at_ ep:Int) (hep:ep≤9223372036854775807) :
 Calls Tryz.prog 21 #[.pointer (some ⟨v,0,none⟩),.agg (metaRow m mv),lv,.int .i64 at_,.int .i64 ep] w fun e w'=>e=.returned (.int .i64 (installR R m l at_ ep).2)∧(∃K',VlK w0 w' p v (installR R m l at_ ep).1 boot (c+3) K'∧Stp w w' K K') :=
 h.install hc m ((hM.rows.still h.upd).row (by rw [List.length_map];have:=hf.1;omega)) ⟨hM.seen.2,hM.grant.2⟩ (fun x hx=>by have:=hf.2.2 x hx;omega) l ((hL.rows.still h.upd).row (by rw [List.length_map];have:=hfl.1;omega)) (fun p hp=>by have:=hfl.2 p hp;omega) at_ ep hep
end
def PlayK (w0 w1:World) (p:Nat) (R:RvM) (c:Nat) (K0:Nat→Prop) (l:List ActM) (k:Nat) (w:World) (v:Nat) (a e:Int):Prop :=
 ∃boot K,VlK w0 w p v (playsR R (l.take k)) boot (c+3*k) K∧Stp w1 w K0 K∧a=(playsR R (l.take k)).at_∧e=(playsR R (l.take k)).epoch∧k≤l.length
theorem plays_onK {w0 w1:World} {p:Nat} {R:RvM} {c:Nat} {K0:Nat→Prop} {l:List ActM} {lv:Value} (hc:c+3*l.length<98000) (hA:IsActs17 w0 lv l) (hf:ActsFew l):PlaysOn w0 p l (PlayK w0 w1 p R c K0 l):=by
 have hlt:∀ {k:Nat} {x:ActM},l[k]? = some x→k+1≤l.length:=fun h=>(List.getElem?_eq_some_iff.1 h).1
 have hin:∀ {k:Nat} {x:ActM},l[k]? = some x→x.In w0∧x.Few:=fun h=>⟨hA.each _ (List.mem_of_getElem? h),hf.2 _ (List.mem_of_getElem? h)⟩
 refine ⟨fun h=>?_,fun h hu=>?_,fun h=>?_,fun {k w v a e x} h hx hd=>?_,fun {k w v a e x} h hx hd=>?_,fun {k w v a e x} h hx hd=>?_,fun {k w v a e x} h hx hd=>?_,fun {k w v a e x} h hx hd=>?_,fun {k w v a e x} h hx hd=>?_⟩
 ·obtain ⟨boot,K,h1,-⟩:=h
  exact h1.upd
 ·obtain ⟨boot,K,h1,h2,h3⟩:=h
  exact ⟨boot,K,h1.still hu,h2.then (.still hu),h3⟩
 ·obtain ⟨boot,K,h1,h2,rfl,rfl,h5⟩:=h
  exact (h1.old (by omega)).place
 ·obtain ⟨boot,K,h1,h2,rfl,rfl,h5⟩:=h
  have hk:=hlt hx;obtain ⟨i1,i2⟩:=hin hx;have ho:(batAt x (playsR R (l.take k)).at_ (playsR R (l.take k)).epoch).ops=x.b.ops:=by unfold batAt;split<;>rfl
  have hep:(batAt x (playsR R (l.take k)).at_ (playsR R (l.take k)).epoch).epoch≤9223372036854775807:=by
   have e1:=i1.bat.epoch.2;have e2:=h1.place_ok.ep1;unfold batAt;split
   ·exact e1
   ·show max _ _≤_
    omega
  refine (h1.commit_in (by omega) (batAt x (playsR R (l.take k)).at_ (playsR R (l.take k)).epoch) (ov:=x.ov) (by rw [ho];exact i1.bat.ops) (by rw [ho];exact i2.ops) hep).mono ?_;rintro r w' ⟨rfl,K',h6,h7⟩;have hp:(commitR (playsR R (l.take k)) (batAt x (playsR R (l.take k)).at_ (playsR R (l.take k)).epoch)).1=playsR R (l.take (k+1)):=by
   rw [playsR_step hx];unfold playR;rw [if_pos hd]
  rw [hp] at h6;exact ⟨_,_,_,rfl,boot,K',h6.mono (by omega),h2.then h7,rfl,rfl,hk⟩
 ·obtain ⟨boot,K,h1,h2,rfl,rfl,h5⟩:=h
  have hk:=hlt hx;obtain ⟨i1,i2⟩:=hin hx;refine (h1.set_in (by omega) i1.met i2.met).mono ?_;rintro r w' ⟨rfl,K',h6,h7⟩;have hp:(setR (playsR R (l.take k)) x.m).1=playsR R (l.take (k+1)):=by
   rw [playsR_step hx];unfold playR;rw [if_neg (by rw [hd];decide),if_pos hd]
  rw [hp] at h6;exact ⟨_,_,_,rfl,boot,K',h6.mono (by omega),h2.then h7,rfl,rfl,hk⟩
 ·obtain ⟨boot,K,h1,h2,rfl,rfl,h5⟩:=h
  have hk:=hlt hx;obtain ⟨i1,i2⟩:=hin hx;refine (h1.install_in (by omega) i1.met i2.met i1.prs i2.prs x.at_ x.ep i1.ep.2).mono ?_;rintro r w' ⟨rfl,K',h6,h7⟩;have hp:(installR (playsR R (l.take k)) x.m x.l x.at_ x.ep).1=playsR R (l.take (k+1)):=by
   rw [playsR_step hx];unfold playR;rw [if_neg (by rw [hd];decide),if_neg (by rw [hd];decide),if_pos hd]
  rw [hp] at h6;exact ⟨_,_,_,rfl,boot,K',h6.mono (by omega),h2.then h7,rfl,rfl,hk⟩
 ·obtain ⟨boot,K,h1,h2,rfl,rfl,h5⟩:=h
  have hk:=hlt hx;refine (h1.rotate (by omega)).mono ?_;rintro r w' ⟨rfl,K',h6,h7⟩;have hp:(rotateR (playsR R (l.take k))).1=playsR R (l.take (k+1)):=by
   rw [playsR_step hx];unfold playR;rw [if_neg (by rw [hd];decide),if_neg (by rw [hd];decide),if_neg (by rw [hd];decide),if_pos hd]
  rw [hp] at h6;exact ⟨_,_,_,rfl,boot,K',h6.mono (by omega),h2.then h7,rfl,rfl,hk⟩
 ·obtain ⟨boot,K,h1,h2,rfl,rfl,h5⟩:=h
  have hk:=hlt hx;refine (h1.open_ (by omega)).mono ?_;rintro r w' ⟨u,rfl,⟨K',h6,h7⟩,-⟩;have hp:playsR R (l.take k)=playsR R (l.take (k+1)):=by
   rw [playsR_step hx];unfold playR;rw [if_neg (by rw [hd];decide),if_neg (by rw [hd];decide),if_neg (by rw [hd];decide),if_neg (by rw [hd];decide)]
  rw [hp] at h6;exact ⟨u,_,_,rfl,boot+1,K',h6.mono (by omega),h2.then h7,rfl,rfl,hk⟩
 ·obtain ⟨boot,K,h1,h2,rfl,rfl,h5⟩:=h
  have hk:=hlt hx;have hne:∀n:UInt8,n≤5→x.do_≠n:=fun n hn e=>by
   rw [e] at hd;exact absurd hd (by rw [UInt8.lt_iff_toNat_lt];have:=UInt8.le_iff_toNat_le.1 hn;omega)
  have hp:playsR R (l.take k)=playsR R (l.take (k+1)):=by
   rw [playsR_step hx];unfold playR;rw [if_neg (fun e=>e.elim (hne 0 (by decide)) (hne 1 (by decide))),if_neg (hne 2 (by decide)),if_neg (hne 3 (by decide)),if_neg (hne 4 (by decide))]
  refine ⟨boot,K,?_,h2,by rw [hp],by rw [hp],hk⟩;rw [← hp];exact h1.mono (by omega)
theorem open_firstK {w:World} {p:Nat} {F:List Nat} {w0:World} (hD:DiskAt w p (Dk.fresh 500) F) (hF:∀q ∈ F,w0.heap.size≤q) (hu:Upd (fun _=>False) w0 w):Calls Tryz.prog 16 #[.pointer (some ⟨p,0,none⟩),.string (str masterL)] w fun e w'=>∃v',e=.returned (.tuple #[.pointer (some ⟨v',0,none⟩),.int .i64 0])∧(∃K,VlK w0 w' p v' R0 1 1 K∧∀q,K q→w0.heap.size≤q)∧Upd (VtZ w) w w':=by
 refine (vopen_c hD opens_first).mono ?_;intro e w' hO;obtain ⟨D,V',q1,q2,q3,q4⟩:=VDk.first;rw [q1] at hO;obtain ⟨v',o',rfl,hL⟩:=hO.yes rfl;have hlow:∀q,(o'.mut v' q∨q=o'.mb)→w0.heap.size≤q:=fun q hq=>by
  have h1:=hu.size;rcases hq with hq | rfl
  ·rcases hL.sub q hq with e | e
   ·exact hF q e
   ·omega
  ·have:=hL.mb
   omega
 exact ⟨v',rfl,⟨_,⟨D,V',o',[],⟨hL.at_,q2,fun q hq=>hlow q (.inl hq),hu.then hL.upd (fun q hq=>.inr (hF q hq))⟩,q3,q4,fun _=>Iff.rfl⟩,hlow⟩,hL.upd.mono (fun q hq=>.inl (hD.vtz hq))⟩
theorem fresh_17K (w:World):Calls Tryz.prog 11 #[] w fun e w'=>∃p v,e=.returned (.tuple #[.pointer (some ⟨p,0,none⟩),.pointer (some ⟨v,0,none⟩),.bool true])∧∃K,VlK w w' p v R0 1 1 K∧∀q,K q→w.heap.size≤q:=by
 have HN:=Lib.hid (New_c 500 w (by omega) (by omega));go_enter Tryz.func11,Tryz.ntmps11
 go_upto_region 4 with (first
  | (go_at_call 25;refine HN.out.mono ?_;rintro e w1 ⟨p,F,rfl,hD,hU,hF⟩
     have H1:=Lib.hid (open_firstK hD hF hU);clear hD hU hF))
 go_wp2_with (first
  | (go_at_call 16;refine H1.out.mono ?_;rintro e w2 ⟨v,rfl,hV,-⟩;have H2:=Lib.hid hV;clear hV))
 go_ret3
 exact ⟨p,v,rfl,H2.out⟩
end
section
open Go Go.RowKit
def PlainEq (t:TypeId) (a b:Value) (r:Bool):Prop:=Tryz.prog.plainKey t=true∧∀W d,(Op.equalIn (d+1) t a b).run Tryz.prog W=.ok r W
def allEq:List TypeId→List Value→List Value→List Bool→Prop
 | [],[],[],[]=>True
 | t::ts,a::va,b::vb,r::rs=>PlainEq t a b r∧allEq ts va vb rs
 | _,_,_,_=>False
theorem eqFields_run (d:Nat) (W:World) (xs ys:Array Value):∀(ts:List TypeId) (k:Nat) (fs:List Field) (va vb:List Value) (rs:List Bool),fs.map (fun f=>(f.name == "_",f.type,f.offset))=(ts.zipIdx k).map (fun p=>(false,p.1,p.2)) →
 (∀i,i<ts.length→xs[k+i]? = va[i]? ∧ ys[k+i]? = vb[i]?)→allEq ts va vb rs→(Op.eqFields (d+1) xs ys fs).run Tryz.prog W=.ok (rs.all id) W
 | [],k,fs,va,vb,rs,hf,hx,he=>by
   have:fs=[]:=by simpa using hf
   subst this;match va,vb,rs,he with
   | [],[],[],_=>simp [Op.eqFields]
 | t::ts,k,[],va,vb,rs,hf,hx,he=>by simp at hf
 | t :: ts,k,f::fs,va,vb,rs,hf,hx,he=>by
   match va,vb,rs,he with
   | a :: va,b::vb,r::rs,⟨h1,h2⟩ =>
     simp only [List.map_cons,List.zipIdx_cons,List.cons.injEq,Prod.mk.injEq,beq_eq_false_iff_ne] at hf;obtain ⟨⟨n1,n2,n3⟩,hf⟩:=hf;have h0:=hx 0 (by simp);simp only [Nat.add_zero,List.getElem?_cons_zero] at h0;have q1:=run_part_plain (w:=W) (P:=Tryz.prog) h1.1 h0.1;have q2:=run_part_plain (w:=W) (P:=Tryz.prog) h1.1 h0.2;simp only [Op.eqFields,n2,n3,Sem.run_bind,ne_eq,n1,not_false_eq_true,if_true];rw [q1,Result.andThen_ok,q2,Result.andThen_ok,h1.2,Result.andThen_ok];cases r
     ·simp
     ·simp only [Bool.not_true,Bool.false_eq_true,if_false,List.all_cons,id,Bool.true_and]
      exact eqFields_run d W xs ys ts (k+1) fs va vb rs hf (fun i hi=>by
       have:=hx (i+1) (by simpa using hi);rw [show k+(i+1)=k+1+i by omega] at this;simpa using this) h2
theorem neq_run {t:TypeId} (ts:List TypeId) (h1:Tryz.prog.underlying t=some (.struct (Tryz.prog.fieldsOf t))) (h2:Tryz.prog.stoodInHeld t=false) (hf:(Tryz.prog.fieldsOf t).toList.map (fun f=>(f.name == "_",f.type,f.offset))=(ts.zipIdx 0).map (fun p=>(false,p.1,p.2)))
 {va vb:List Value} {rs:List Bool} (he:allEq ts va vb rs) (W:World):(binOp .neq t (.agg va.toArray) (.agg vb.toArray)).run Tryz.prog W=.ok (.bool (!rs.all id)) W:=by
 rw [run_neq_struct,run_equalIn_agg _ _ _ _ _ h1 h2,eqFields_run _ W _ _ ts 0 _ va vb rs hf (fun i hi=>by simp) he];rfl
theorem plain_str (a b:List UInt8):PlainEq 9 (.string (str a)) (.string (str b)) (decide (a=b)):=⟨by kernel_rfl,fun W d=>by
 rw [run_equalIn_string W d 9 _ _ Tryz.underlying9,str_beq]⟩
theorem pair_neq (p q:PairM) (W:World):(binOp .neq 55 (.agg (pairRow p).toArray) (.agg (pairRow q).toArray)).run Tryz.prog W=.ok (.bool (!decide (p=q))) W:=by
 rw [neq_run (t:=55) [9,9] (by kernel_rfl) (by kernel_rfl) (by kernel_rfl) (show allEq _ (pairRow p) (pairRow q) [_,_] from ⟨plain_str _ _,plain_str _ _,trivial⟩) W];congr 3
 rw [Bool.eq_iff_iff];simp only [List.all_cons,List.all_nil,id,Bool.and_true,Bool.and_eq_true,decide_eq_true_eq];exact ⟨fun h=>Prod.ext h.1 h.2,fun h=>by rw [h];exact ⟨rfl,rfl⟩⟩
instance:DecidableEq OpM:=fun a b=>if h:a.kind=b.kind∧a.path=b.path∧a.value=b.value then isTrue (by obtain ⟨h1,h2,h3⟩:=h;cases a;cases b;simp_all) else isFalse (by rintro rfl;exact h ⟨rfl,rfl,rfl⟩)
theorem take_eq_step {α : Type} {a b:List α} {k:Nat} (h1:k<a.length) (h2:k<b.length) (h:a.take k=b.take k) (he:a[k]=b[k]):a.take (k+1)=b.take (k+1):=by
 rw [List.take_succ_eq_append_getElem h1,List.take_succ_eq_append_getElem h2,h,he]
instance:DecidableEq BatM:=fun a b=>if h:a.index=b.index∧a.epoch=b.epoch∧a.ops=b.ops then isTrue (by obtain ⟨h1,h2,h3⟩:=h;cases a;cases b;simp_all) else isFalse (by rintro rfl;exact h ⟨rfl,rfl,rfl⟩)
end
section
open Go Go.RowKit
theorem sequal_c {w:World} {ta tb:TypeId} {va vb:Value} {a b:List PairM} (ha:TRow w ta 2 va (a.map pairRow)) (hb:TRow w tb 2 vb (b.map pairRow)) :
 Calls Tryz.prog 80 #[va,vb] w fun e w'=>e=.returned (.bool (decide (a=b)))∧Upd (fun _=>False) w w':=by
 obtain ⟨A,cap,bA,off,rfl,hcap,hl,hA,hat⟩:=ha.open_;obtain ⟨B,cap2,bB,off2,rfl,hcap2,hl2,hB,hat2⟩:=hb.open_;simp only [List.length_map] at hcap hl hA hcap2 hl2 hB ⊢;obtain ⟨r,hr⟩:=eqx (decide (a=b));rw [hr];have H:=h3k hat hat2 hr;clear hat hat2 ha hb hr;go_enter Tryz.func80,Tryz.ntmps80
 by_cases hn:a.length=b.length
 ·have hn':((a.length:Int) == (b.length:Int))=true:=by rw [beq_iff_eq];omega
  have hn2:((a.length:Int) != (b.length:Int))=false:=by rw [bne,hn'];rfl
  have HN:=Lib.hid hn;clear hn;go_wp2_with fail
  go_loopw [5,13] (fun _ i wr=>∃k:Nat,k≤a.length∧i=.int .i64 k∧Upd (fun _=>False) w wr∧a.take k=b.take k) (fun _ i _=>a.length - (intOf i).toNat)
  case atStart=>exact ⟨0,by omega,rfl,Upd.refl _ _,rfl⟩
  case round =>
   obtain ⟨k,hk,rfl,hu,htk⟩:=hrel;have HT:=h3k htk hu hk;clear htk;by_cases hlt:k<a.length
   ·obtain rfl:=hA (by omega)
    obtain rfl:=hB (by have:=HN.out;omega);have hb2:k<b.length:=by have:=HN.out;omega
    obtain ⟨x,hx⟩:=eqx (a[k]);obtain ⟨y,hy⟩:=eqx (b[k]'hb2);have hrow:=H.out.1 wr _ hu (fun _ _ e=>e) k (pairRow x) (by rw [List.getElem?_map,List.getElem?_eq_getElem hlt,hx];rfl)
    have hrow2:=H.out.2.1 wr _ hu (fun _ _ e=>e) k (pairRow y) (by rw [List.getElem?_map,List.getElem?_eq_getElem hb2,hy];rfl)
    obtain ⟨X1,hX1⟩:∃X,str x.1=X:=⟨_,rfl⟩;obtain ⟨X2,hX2⟩:∃X,str x.2=X:=⟨_,rfl⟩;obtain ⟨Y1,hY1⟩:∃X,str y.1=X:=⟨_,rfl⟩;obtain ⟨Y2,hY2⟩:∃X,str y.2=X:=⟨_,rfl⟩;have cX1:wr.cell? ⟨bA,off+k*2,none⟩=some (.string X1):=hrow 0 _ (by rw [← hX1];rfl)
    have cX2:wr.cell? ⟨bA,off+k*2+1,none⟩=some (.string X2):=hrow 1 _ (by rw [← hX2];rfl)
    have cY1:wr.cell? ⟨bB,off2+k*2,none⟩=some (.string Y1):=hrow2 0 _ (by rw [← hY1];rfl)
    have cY2:wr.cell? ⟨bB,off2+k*2+1,none⟩=some (.string Y2):=hrow2 1 _ (by rw [← hY2];rfl)
    have hneq:∀W,(binOp .neq 55 (.agg #[.string X1,.string X2]) (.agg #[.string Y1,.string Y2])).run Tryz.prog W=.ok (.bool (!decide (x=y))) W:=fun W=>by
     have:=pair_neq x y W;unfold pairRow at this;rw [hX1,hX2,hY1,hY2] at this;exact this
    have HX:=h4k hx hy hlt hb2;have j1:(k:Int)<(a.length:Int):=by omega
    have j2:(k:Int)<(b.length:Int):=by omega
    have hwk:IntKind.i64.wrap ((k:Int)+1)=(k:Int)+1:=IntWalk.i64_in _ (by omega);clear hrow hrow2 hx hy hX1 hX2 hY1 hY2;by_cases he:x=y
    ·rw [decide_eq_true he] at hneq
     have HE:=Lib.hid he;clear he;go_wp2_with fail
     go_quiet (fail)
     go_wp2_with fail
     go_roundw
     case rel =>
      refine ⟨k+1,by omega,by simp,hu.drewN _,?_⟩;refine take_eq_step HX.out.2.2.1 HX.out.2.2.2 HT.out.1 ?_;exact (HX.out.1.trans HE.out).trans HX.out.2.1.symm
     case measure=>simp [intOf]<;>omega
    ·rw [decide_eq_false he] at hneq
     have hrf:r=false:=by
      rw [← H.out.2.2,decide_eq_false_iff_not];intro hab;apply he
      rw [← HX.out.1,← HX.out.2.1];simp only [hab]
     subst hrf;clear he;go_wp2_with fail
     go_quiet (fail)
     go_wp2_with fail
     go_ret
     exact ⟨rfl,hu.drewN _⟩
   ·have j1:¬((k:Int)<(a.length:Int)):=by omega
    have hrt:r=true:=by
     rw [← H.out.2.2,decide_eq_true_eq];have:=HT.out.1;rw [List.take_of_length_le (by omega),List.take_of_length_le (by have:=HN.out;omega)] at this;exact this
    subst hrt;go_wp2_with fail
    go_ret
    exact ⟨rfl,hu⟩
 ·have hn':((a.length:Int) == (b.length:Int))=false:=by rw [beq_eq_false_iff_ne];omega
  have hn2:((a.length:Int) != (b.length:Int))=true:=by rw [bne,hn'];rfl
  have hrf:r=false:=by
   rw [← H.out.2.2,decide_eq_false_iff_not];rintro rfl;exact hn rfl
  subst hrf;go_wp2_with fail
  go_ret
  exact ⟨rfl,Upd.refl _ _⟩
theorem osame_c {w:World} {m mb m2 mb2:Nat} {S S2:List PairM} (h:MapAt w m mb S) (h2:MapAt w m2 mb2 S2) :
 Calls Tryz.prog 35 #[.pointer (some ⟨m,0,none⟩),.pointer (some ⟨m2,0,none⟩)] w fun e w'=>e=.returned (.bool (decide (S=S2)))∧Upd (fun _=>False) w w':=by
 have H:=Lib.hid h;have HB:=Lib.hid h2;clear h h2;have HAL:=Lib.hid (fun (W:World) (z zb:Nat) (X:List PairM) (hz:MapAt W z zb X)=>oall_c hz);go_enter Tryz.func35,Tryz.ntmps35
 go_wp2_with (first
  | (go_at_call 30;first
      | (refine (HAL.out _ _ _ _ (HB.out.still HQ.out.2)).mono ?_;rintro e w2 ⟨v2,rfl,hO2,-,hU2⟩;have H2:=h3k (HQ.out.1.still hU2) (trow_all hO2 (HB.out.still HQ.out.2)) (HQ.out.2.then hU2 (fun _ e=>e.elim));clear hO2 hU2)
      | (refine (HAL.out _ _ _ _ H.out).mono ?_;rintro e w1 ⟨v1,rfl,hO1,-,hU1⟩;have HQ:=h2k (trow_all hO1 H.out) hU1;clear hO1 hU1))
  | (go_at_call 80;refine (sequal_c H2.out.1 H2.out.2.1).mono ?_;rintro e w3 ⟨rfl,hU3⟩;have H3:=Lib.hid (H2.out.2.2.then hU3 (fun _ e=>e.elim));clear hU3))
 go_ret
 exact ⟨rfl,H3.out⟩
end
section
open Go Go.RowKit
theorem TRow.new {w:World} {t:TypeId} {k n:Nat} {cells:Array Value} {cs:List (List Value)} (hn:cs.length=n) (hm:n≤1000000) (hc:∀i c,cs[i]? = some c→∀j u,c[j]? = some u→cells[i*k+j]? = some u):TRow (w.alloc (.cells cells t)) t k (.slice (some ⟨w.heap.size,0,none⟩) n n) cs:=by
 refine ⟨_,n,by rw [hn],by omega,by omega,fun _=>⟨w.heap.size,0,cells,t,(0,0),rfl,Blk.new w t cells,fun _=>rfl,fun i c h j u hj=>?_⟩⟩;rw [Nat.zero_add];exact hc i c h j u hj
theorem TRow.nil (w:World) (t:TypeId) (k:Nat):TRow w t k (.slice none 0 0) []:=⟨none,0,rfl,by simp,by simp,fun h=>by simp at h⟩
def opW:OpM:=⟨1,[97,112,112,47,97],[49]⟩
def batW:BatM:=⟨1,1,[opW]⟩
theorem commit_W:∃R,commitR R0 batW=(R,0)∧R.at_=1∧R.epoch=1∧R.S=[([97,112,112,47,97],[49])]∧R.rows.length=1∧R.m=metaM0∧R.key=0∧R.prev=0:=⟨_,rfl,rfl,rfl,rfl,rfl,rfl,rfl,rfl⟩
theorem wakes_17 (w:World):Calls Tryz.prog 26 #[] w fun e w'=>e=.returned (.bool true)∧Upd (fun _=>False) w w':=by
 have HF:=Lib.hid (fresh_17 w);obtain ⟨R,hR,r1,r2,r3,-⟩:=commit_W;have hR2:commitR R ⟨3,1,[]⟩=(R,1):=by
  unfold commitR;rw [if_neg (by decide),if_pos (.inl (by rw [r1];decide))]
 have HR:=h5k hR hR2 r1 r2 r3;clear hR hR2 r1 r2 r3;go_enter Tryz.func26,Tryz.ntmps26
 go_upto_region 4 with (first
  | (go_at_call 11;refine HF.out.mono ?_;rintro e w1 ⟨p,v,rfl,hV⟩
     have H1:=Lib.hid hV;clear hV))
 go_upto_region 5 with (first
  | (go_at_call 15
     have hu:=(Upd.refl (fun _=>False) w1).alloc (.cells #[.int .u8 1,.string ⟨#[97,112,112,47,97]⟩,.string ⟨#[49]⟩] 32);refine ((H1.out.still hu).commit (by omega) batW (TRow.new (w:=w1) (t:=32) (k:=3) (n:=1) (cells:=#[.int .u8 1,.string ⟨#[97,112,112,47,97]⟩,.string ⟨#[49]⟩]) (cs:=batW.ops.map opRow) rfl (by omega) (by
      intro i c h j u hj;match i,h with
      | 0,h =>
        cases h
        match j,hj with
        | 0,hj=>exact hj
        | 1,hj=>exact hj
        | 2,hj=>exact hj
        | n+3,hj=>simp [opRow] at hj
      | n+1,h=>simp [batW] at h)) (.inl (by decide)) (by intro o ho;simp [batW] at ho;subst ho;decide) (by decide)).mono ?_
     rintro e w2 ⟨rfl,hV,-⟩;rw [HR.out.1] at hV ⊢;have H2:=Lib.hid hV;clear hu hV))
 go_upto_region 6 with (first
  | (go_at_call 15
     refine (H2.out.commit (by omega) ⟨3,1,[]⟩ (TRow.nil _ 32 _) (.inl (by decide)) (fun o ho=>by simp at ho) (by decide)).mono ?_;rintro e w3 ⟨rfl,hV,-⟩;rw [HR.out.2.1] at hV ⊢;have H3:=Lib.hid hV;clear hV))
 go_upto_region 7 with (first
  | (go_at_call 16;refine (H3.out.open_ (by omega)).mono ?_;rintro e w4 ⟨u,rfl,hV,-⟩
     have H4:=Lib.hid hV;clear hV))
 go_upto_region 9 with (first
  | (go_at_call 12;refine H4.out.place.mono ?_;rintro e w5 ⟨rfl,hV,-⟩
     rw [HR.out.2.2.1,HR.out.2.2.2.1];have H5:=Lib.hid hV;clear hV)
  | (go_at_call 18;refine H5.out.map_.mono ?_;rintro e w6 ⟨m,mb,rfl,hm,-,-,hV,-⟩
     rw [HR.out.2.2.2.2] at hm;have H6:=h2k hV hm;clear hV hm)
  | (go_at_call 19;refine (oget_c H6.out.2 ⟨#[97,112,112,47,97]⟩).mono ?_;rintro e w7 ⟨rfl,rfl⟩
     rw [show getV [([97,112,112,47,97],[49])] (⟨#[97,112,112,47,97]⟩:ByteArray).data.toList=.tuple #[.string ⟨#[49]⟩,.bool true] from rfl]))
 have HB:=Lib.hid (H6.out.1.boot_ (by omega));go_wp2_with (first
  | (go_at_call 13;refine HB.out.mono ?_;rintro e w8 ⟨rfl,rfl⟩))
 go_ret
 exact ⟨rfl,H6.out.1.upd⟩
end
section
open Go Go.RowKit
def RvM.keyed (R:RvM) (n:Nat):RvM := { R with key:=n }
theorem commitR_keyed (R:RvM) (n:Nat) (b:BatM):(commitR (R.keyed n) b).1=(commitR R b).1.keyed n∧(commitR R b).1.key=R.key:=by
 have e:commitR (R.keyed n) b=if batErr b.index b.epoch b.ops≠0 then (R.keyed n,batErr b.index b.epoch b.ops) else if b.index≠R.at_+1∨b.epoch<R.epoch then (R.keyed n,1) else if doE R.S b.ops≠0 then (R.keyed n,doE R.S b.ops) else
  ({ (if 24≤R.rows.length then (R.keyed n).forgot else R.keyed n) with rows:=(if 24≤R.rows.length then (R.keyed n).forgot else R.keyed n).rows++[b],S:=doL R.S b.ops,at_:=b.index,epoch:=b.epoch },0):=rfl
 rw [e];unfold commitR;by_cases h1:batErr b.index b.epoch b.ops≠0
 ·rw [if_pos h1,if_pos h1];exact ⟨rfl,rfl⟩
 ·rw [if_neg h1,if_neg h1]
  by_cases h2:b.index≠R.at_+1∨b.epoch<R.epoch
  ·rw [if_pos h2,if_pos h2];exact ⟨rfl,rfl⟩
  ·rw [if_neg h2,if_neg h2]
   by_cases h3:doE R.S b.ops≠0
   ·rw [if_pos h3,if_pos h3];exact ⟨rfl,rfl⟩
   ·rw [if_neg h3,if_neg h3]
    by_cases h4:24≤R.rows.length
    ·simp only [if_pos h4]
     constructor<;>first | rfl | trivial
    ·simp only [if_neg h4]
     constructor<;>first | rfl | trivial
theorem setR_keyed (R:RvM) (n:Nat) (m:MetaM):(setR (R.keyed n) m).1=(setR R m).1.keyed n∧(setR R m).1.key=R.key:=by
 unfold setR RvM.keyed;by_cases h1:rightM m=false
 ·rw [if_pos h1,if_pos h1];exact ⟨rfl,rfl⟩
 ·rw [if_neg h1,if_neg h1];exact ⟨rfl,rfl⟩
theorem installR_keyed (R:RvM) (n:Nat) (m:MetaM) (l:List PairM) (a e:Int):(installR (R.keyed n) m l a e).1=(installR R m l a e).1.keyed n∧(installR R m l a e).1.key=R.key:=by
 unfold installR RvM.keyed;by_cases h1:rightM m=false∨placeOk a e=false
 ·rw [if_pos h1,if_pos h1];exact ⟨rfl,rfl⟩
 ·rw [if_neg h1,if_neg h1]
  by_cases h2:(ofP l).2≠0
  ·rw [if_pos h2,if_pos h2];exact ⟨rfl,rfl⟩
  ·rw [if_neg h2,if_neg h2];exact ⟨rfl,rfl⟩
theorem playR_keyed (R:RvM) (n:Nat) (x:ActM) (h4:x.do_≠4):playR (R.keyed n) x=(playR R x).keyed n∧(playR R x).key=R.key:=by
 unfold playR;by_cases h0:x.do_=0∨x.do_=1
 ·rw [if_pos h0,if_pos h0]
  exact commitR_keyed R n (batAt x R.at_ R.epoch)
 ·rw [if_neg h0,if_neg h0]
  by_cases h2:x.do_=2
  ·rw [if_pos h2,if_pos h2]
   exact setR_keyed R n x.m
  ·rw [if_neg h2,if_neg h2]
   by_cases h3:x.do_=3
   ·rw [if_pos h3,if_pos h3]
    exact installR_keyed R n x.m x.l x.at_ x.ep
   ·rw [if_neg h3,if_neg h3,if_neg h4,if_neg h4]
    exact ⟨rfl,rfl⟩
theorem rotateR_keyed (R:RvM) (n:Nat) (hn:n<1048576):rotateR (R.keyed n)=(R.keyed (n+1),0):=by
 unfold rotateR RvM.keyed;rw [if_neg (by show ¬1048576≤n;omega)]
section
variable {w0 w w':World} {p v:Nat} {R:RvM} {boot c:Nat} {K:Nat→Prop}
theorem VlK.rotate_n {n:Nat} (h:VlK w0 w p v (R.keyed n) boot c K) (hc:c<99000) (hn:n<1048576):Calls Tryz.prog 34 #[.pointer (some ⟨v,0,none⟩)] w fun e w'=>e=.returned (.int .i64 0)∧(∃K',VlK w0 w' p v (R.keyed (n+1)) boot (c+3) K'∧Stp w w' K K'):=by
 have:=h.rotate hc;rw [rotateR_keyed R n hn] at this;exact this
end
structure Twins (w0 w:World) (p v p2 v2:Nat) (R:RvM) (n c1 c2:Nat):Prop where
 ex:∃b1 b2 K1 K2,VlK w0 w p v (R.keyed n) b1 c1 K1∧VlK w0 w p2 v2 R b2 c2 K2∧(∀q,K1 q→¬K2 q)∧(∀q,K1 q→w0.heap.size≤q)∧(∀q,K2 q→w0.heap.size≤q)
 key:R.key=0
section
variable {w0 w w':World} {p v p2 v2:Nat} {R R':RvM} {n n' b1 b2 c1 c2 b' c':Nat} {K1 K2 K':Nat→Prop}
theorem Twins.upd (h:Twins w0 w p v p2 v2 R n c1 c2):Upd (fun _=>False) w0 w:=by
 obtain ⟨b1,b2,K1,K2,h1,-⟩:=h.ex;exact h1.upd
theorem Twins.mono {d1 d2:Nat} (h:Twins w0 w p v p2 v2 R n c1 c2) (e1:c1≤d1) (e2:c2≤d2):Twins w0 w p v p2 v2 R n d1 d2:=by
 obtain ⟨b1,b2,K1,K2,h1,h2,h3⟩:=h.ex;exact ⟨⟨b1,b2,K1,K2,h1.mono e1,h2.mono e2,h3⟩,h.key⟩
theorem apart_step {K Z:Nat→Prop} (h:VlK w0 w p2 v2 R b2 c2 K) (hs:Stp w w' Z K') (ha:∀q,Z q→¬K q) (hl:∀q,Z q→w0.heap.size≤q):(∀q,K' q→¬K q)∧(∀q,K' q→w0.heap.size≤q):=by
 refine ⟨fun q hq hK=>?_,fun q hq=>?_⟩
 ·rcases hs.sub q hq with e | e
  ·exact ha q e hK
  ·have:=h.lt hK
   omega
 ·rcases hs.sub q hq with e | e
  ·exact hl q e
  ·have:=h.upd.size
   omega
theorem Twins.rotate (h:Twins w0 w p v p2 v2 R n c1 c2) (hc:c1<99000) (hn:n<1048576):Calls Tryz.prog 34 #[.pointer (some ⟨v,0,none⟩)] w fun e w'=>e=.returned (.int .i64 0)∧Twins w0 w' p v p2 v2 R (n+1) (c1+3) c2:=by
 obtain ⟨b1,b2,K1,K2,h1,h2,h3,h4,h5⟩:=h.ex;refine (h1.rotate_n hc hn).mono ?_;rintro e w' ⟨rfl,K',h6,hs⟩;obtain ⟨a1,a2⟩:=apart_step h2 hs h3 h4;exact ⟨rfl,⟨b1,b2,K',K2,h6,(h2.other hs (fun q=>h1.vtz) h3 h4).1,a1,a2,h5⟩,h.key⟩
end
section
variable {w0 w w':World} {p v p2 v2:Nat} {R:RvM} {n c1 c2:Nat} {lv:Value} {x:ActM}
structure Half (w0 w:World) (p v p2 v2:Nat) (R R2:RvM) (n c1 c2:Nat):Prop where
 ex:∃b1 b2 K1 K2,VlK w0 w p v (R2.keyed n) b1 c1 K1∧VlK w0 w p2 v2 R b2 c2 K2∧(∀q,K1 q→¬K2 q)∧(∀q,K1 q→w0.heap.size≤q)∧(∀q,K2 q→w0.heap.size≤q)
theorem Twins.play (h:Twins w0 w p v p2 v2 R n c1 c2) (hc:c1<97000) (hA:IsActs17 w0 lv [x]) (hf:x.Few) (h4:x.do_≠4) :
 Calls Tryz.prog 31 #[.pointer (some ⟨p,0,none⟩),.pointer (some ⟨v,0,none⟩),lv] w fun r w'=>∃u,r=.returned (.pointer (some ⟨u,0,none⟩))∧Half w0 w' p u p2 v2 R (playR R x) n (c1+3) c2:=by
 obtain ⟨b1,b2,K1,K2,h1,h2,h3,h5,h6⟩:=h.ex;have hF:ActsFew [x]:=⟨by simp,fun y hy=>by rw [List.mem_singleton.1 hy];exact hf⟩;refine (plays_c (plays_onK (w1:=w) (R:=R.keyed n) (c:=c1) (K0:=K1) (by simp;omega) hA hF) hA ⟨b1,K1,by simpa [playsR] using h1,Stp.still (Upd.refl _ w),rfl,rfl,by simp⟩).mono ?_;rintro r w' ⟨u,a',e',rfl,boot,K',h7,hs,-,-,-⟩;have hp:playsR (R.keyed n) ([x].take [x].length)=(playR R x).keyed n:=(playR_keyed R n x h4).1;rw [hp] at h7;obtain ⟨a1,a2⟩:=apart_step h2 hs h3 h5;exact ⟨u,rfl,⟨boot,b2,K',K2,h7.mono (by simp),(h2.other hs (fun q=>h1.vtz) h3 h5).1,a1,a2,h6⟩⟩
theorem Half.play (h:Half w0 w p v p2 v2 R (playR R x) n c1 c2) (hk:R.key=0) (hc:c2<97000) (hA:IsActs17 w0 lv [x]) (hf:x.Few) (h4:x.do_≠4) :
 Calls Tryz.prog 31 #[.pointer (some ⟨p2,0,none⟩),.pointer (some ⟨v2,0,none⟩),lv] w fun r w'=>∃u,r=.returned (.pointer (some ⟨u,0,none⟩))∧Twins w0 w' p v p2 u (playR R x) n c1 (c2+3):=by
 obtain ⟨b1,b2,K1,K2,h1,h2,h3,h5,h6⟩:=h.ex;have hF:ActsFew [x]:=⟨by simp,fun y hy=>by rw [List.mem_singleton.1 hy];exact hf⟩;refine (plays_c (plays_onK (w1:=w) (R:=R) (c:=c2) (K0:=K2) (by simp;omega) hA hF) hA ⟨b2,K2,by simpa [playsR] using h2,Stp.still (Upd.refl _ w),rfl,rfl,by simp⟩).mono ?_;rintro r w' ⟨u,a',e',rfl,boot,K',h7,hs,-,-,-⟩;have hp:playsR R ([x].take [x].length)=playR R x:=rfl;rw [hp] at h7;obtain ⟨a1,a2⟩:=apart_step h1 hs (fun q hq hK=>h3 q hK hq) h6;exact ⟨u,rfl,⟨b1,boot,K1,K',(h1.other hs (fun q=>h2.vtz) (fun q hq hK=>h3 q hK hq) h6).1,h7.mono (by simp),fun q hq hK=>a1 q hK hq,h5,a2⟩,(playR_keyed R n x h4).2.trans hk⟩
theorem Twins.open_ (h:Twins w0 w p v p2 v2 R n c1 c2) (hc:c1<98000) (hc2:c2<98000):Calls Tryz.prog 16 #[.pointer (some ⟨p,0,none⟩),.string (str masterL)] w fun e w'=>∃u,e=.returned (.tuple #[.pointer (some ⟨u,0,none⟩),.int .i64 0])∧∃b1 b2,VlO w' p u (R.keyed n) b1∧VlO w' p2 v2 R b2∧Upd (fun _=>False) w0 w':=by
 obtain ⟨b1,b2,K1,K2,h1,h2,h3,h5,h6⟩:=h.ex;refine (h1.open_ (by omega)).mono ?_;rintro e w' ⟨u,rfl,⟨K',h7,hs⟩,-⟩;exact ⟨u,rfl,_,b2,h7.old (by omega),(h2.other hs (fun q=>h1.vtz) h3 h5).1.old (by omega),h7.upd⟩
end
theorem VlK.base {w0 w1 w:World} {p v:Nat} {R:RvM} {boot c:Nat} {K:Nat→Prop} (h:VlK w1 w p v R boot c K) (hu:Upd (fun _=>False) w0 w1):VlK w0 w p v R boot c K:=by
 obtain ⟨d,V,o,S0,h,e⟩:=h;exact ⟨d,V,o,S0,⟨h.at_,h.g,fun q hq=>Nat.le_trans hu.size (h.low q hq),hu.then h.upd (fun _ e=>e.elim)⟩,e⟩
theorem walk_VaultKeys (w:World) {lv:Value} {l:List ActM} {n:Int} (hA:IsActs17 w lv l) (hn:(Lit.int .u8 n).wf=true) :
 Calls Tryz.prog 5 #[lv,.int .u8 n] w fun e w'=>e=.returned (.bool true)∧Upd (fun _=>False) w w':=by
 obtain ⟨N,rfl,hN⟩:=u8_nat hn;have HA:=Lib.hid hA;obtain ⟨A,cap,bA,off,rfl,hcap,hm,hA0,hcells⟩:=hA.rows.open_still;rw [List.length_map] at hm hA0 hcap;have HA0:=Lib.hid hA0;have HRW:=Lib.hid hcells;obtain ⟨M4,hM4⟩:∃m:Nat,N % 4=m:=⟨_,rfl⟩;have hM4b:M4<4:=by omega
 have hrem:IntKind.u8.wrap ((N:Int).tmod 4)=(M4:Int):=by rw [Int.tmod_eq_emod_of_nonneg (by omega)];rw [IntWalk.u8_in _ (by omega)];omega
 have HM:=h2k hM4b hrem;clear hA hn hA0 hcells;rw [List.length_map] at HA ⊢;go_enter Tryz.func5,Tryz.ntmps5
 go_wp2_with fail
 refine (great17_c HA.out).mono ?_;rintro e w1 ⟨bg,rfl,hU1,hq⟩;have HU1:=Lib.hid hU1;clear hU1;cases bg
 rotate_left 1
 ·clear hq
  go_wp2_with (first
   | (go_at_call 26;refine (wakes_17 _).mono ?_;rintro e w9 ⟨rfl,hU⟩;have HE:=Lib.hid (HU1.out.then hU (fun _ e=>e.elim));clear hU))
  go_ret
  exact ⟨rfl,HE.out⟩
 have HF:=Lib.hid (hq rfl);have HA1:=Lib.hid (HA.out.still HU1.out);clear hq;go_upto_region 4 with (first
  | (go_at_call 11;refine (fresh_17K w1).mono ?_;rintro e w2 ⟨p,v,rfl,K1,hV,hK⟩
     have HV:=h2k hV hK;clear hV hK))
 go_upto_region 8 with (first
  | (go_at_call 11;refine (fresh_17K w2).mono ?_;rintro e w3 ⟨p2,v2,rfl,K2,hV,hK⟩
     have HV2:=h2k hV hK;clear hV hK))
 have h3:Twins w1 w3 p v p2 v2 R0 0 1 1:=by
  have hu:=HV2.out.1.upd;exact ⟨⟨1,1,K1,K2,HV.out.1.still hu,HV2.out.1.base HV.out.1.upd,fun q h1 h2=>by have:=HV.out.1.lt h1;have:=HV2.out.2 q h2;omega,HV.out.2,fun q h2=>by have:=HV2.out.2 q h2;have:=HV.out.1.upd.size;omega⟩,rfl⟩
 have H3:=Lib.hid h3;clear h3;clear HV HV2;go_wp2_with fail
 go_loopw [6,9,11,12] (fun vv wv nv i wr=>∃(k n v v2:Nat) (R:RvM),k≤l.length∧i=.int .i64 k∧nv=.int .i64 n∧vv=.pointer (some ⟨v,0,none⟩)∧wv=.pointer (some ⟨v2,0,none⟩)∧n≤3*k∧Twins w1 wr p v p2 v2 R n (1+12*k) (1+3*k)) (fun _ _ _ i _=>l.length - (intOf i).toNat)
 case atStart=>exact ⟨0,0,v,v2,R0,by omega,rfl,rfl,rfl,rfl,by omega,H3.out⟩
 case round =>
  obtain ⟨k,n,u,u2,R,hk,rfl,rfl,rfl,rfl,hn,hT⟩:=hrel;have H:=h2k hT hn;have hl60:=HF.out.1;clear hT H3 hn;by_cases hlt:k<l.length
  ·obtain rfl:=HA0.out (by omega)
   obtain ⟨x,hx⟩:=eqx (l[k]);obtain ⟨D,hD⟩:∃D:Int,(x.do_.toNat:Int)=D:=⟨_,rfl⟩;have hcell:∀W,Upd (fun _=>False) w1 W→W.cell? ⟨bA,off+k*12,none⟩=some (.int .u8 D):=fun W hW=>HRW.out W (HU1.out.then hW (fun _ e=>e.elim)) k x.row (by rw [List.getElem?_map,List.getElem?_eq_getElem hlt,hx];rfl) 0 _ (by rw [← hD];rfl)
   have hA1:=HA1.out.one hlt;rw [hx] at hA1;have HX:=h6k hA1 (HF.out.2 x (hx ▸ List.getElem_mem hlt)) hD hl60 hcell hlt;have j1:(k:Int)<(l.length:Int):=by omega
   have hwk:IntKind.i64.wrap ((k:Int)+1)=(k:Int)+1:=IntWalk.i64_in _ (by omega);clear hA1 hx hD hcell;go_wp2_with fail
   go_loopw [11,13] (fun nv i wq=>∃(m nn:Nat),m≤M4∧nn=n+m∧i=.int .i64 m∧nv=.int .i64 nn∧Twins w1 wq p u p2 u2 R nn (1+12*k+3*m) (1+3*k)) (fun _ i _=>M4 - (intOf i).toNat)
   case atStart=>exact ⟨0,n,by omega,rfl,rfl,rfl,H.out.1⟩
   case round =>
    obtain ⟨m,nn,hm4,hnn,rfl,rfl,hT⟩:=hrel;have HNN:=h3k hnn H.out.2 HX.out.2.2.2.1;clear hnn;have HT:=Lib.hid hT;clear hT;by_cases hlm:m<M4
    ·have j2:(m:Int)<(M4:Int):=by omega
     have hwm:IntKind.i64.wrap ((m:Int)+1)=(m:Int)+1:=IntWalk.i64_in _ (by omega);have hwn:IntKind.i64.wrap ((nn:Int)+1)=(nn:Int)+1:=IntWalk.i64_in _ (by have:=HNN.out;omega);go_wp2_with (first
      | (go_at_call 34;refine (HT.out.rotate (by have:=HNN.out;omega) (by have:=HNN.out;omega)).mono ?_;rintro r w5 ⟨rfl,h5⟩
         have H5:=Lib.hid h5;clear h5))
     go_roundw
     case rel=>exact ⟨m+1,nn+1,by omega,by have:=HNN.out;omega,by simp,by simp,H5.out.mono (by omega) (by omega)⟩
     case measure=>simp [intOf]<;>omega
    ·have j2:¬(m:Int)<(M4:Int):=by omega
     obtain rfl:m=M4:=by omega
     have d0:=HX.out.2.2.2.2.1 _ HT.out.upd;by_cases h4:D=4
     ·subst h4
      go_wp2_with fail
      go_roundw
      case rel=>exact ⟨k+1,nn,u,u2,R,by omega,by simp,rfl,rfl,rfl,by have:=HNN.out;have:=HM.out.1;omega,HT.out.mono (by have:=HM.out.1;omega) (by omega)⟩
      case measure=>simp [intOf]<;>omega
     ·have h4b:(D == 4)=false:=by rw [beq_eq_false_iff_ne];exact h4
      have hx4:x.do_≠4:=fun e=>h4 (by rw [← HX.out.2.2.1,e];rfl)
      have HPL:=Lib.hid (HT.out.play (by have:=HM.out.1;omega) HX.out.1 HX.out.2.1 hx4);have HX4:=Lib.hid hx4;clear h4 hx4;go_wp2_with (first
       | (go_at_call 31;first
           | (refine (HH.out.play HT.out.key (by omega) HX.out.1 HX.out.2.1 HX4.out).mono ?_;rintro r w6 ⟨v6,rfl,h6⟩;have H6:=Lib.hid h6;clear h6)
           | (refine HPL.out.mono ?_;rintro r w5 ⟨v5,rfl,h5⟩;have HH:=Lib.hid h5;clear h5)))
      go_roundw
      case rel=>exact ⟨k+1,nn,v5,v6,playR R x,by omega,by simp,rfl,rfl,rfl,by have:=HNN.out;have:=HM.out.1;omega,H6.out.mono (by have:=HM.out.1;omega) (by omega)⟩
      case measure=>simp [intOf]<;>omega
  ·have j1 : ¬((k:Int)<(l.length:Int)):=by omega
   obtain rfl:k=l.length:=by omega
   clear j1;go_upto_region 21 with (first
    | (go_at_call 16;refine (H.out.1.open_ (by omega) (by omega)).mono ?_;rintro r w5 ⟨o,rfl,b1,b2,h1,h2,hU⟩
       have H5:=h4k h1 h2 hU H.out.1.key;clear h1 h2 hU))
   have hkey:R.key=0:=H5.out.2.2.2;have HK:=Lib.hid hkey;have HMP:Hid (∀(W:World) (z:Nat),z=o∨z=u2→Upd (fun _=>False) w5 W→Calls Tryz.prog 18 #[.pointer (some ⟨z,0,none⟩)] W fun r W'=>∃m mb,r=.returned (.pointer (some ⟨m,0,none⟩))∧MapAt W' m mb R.S∧Upd (fun _=>False) W W'):=Lib.hid fun W z hz hU=>by
    rcases hz with rfl | rfl
    ·refine (H5.out.1.still hU).map_.mono ?_
     rintro r W' ⟨a1,a2,a3,a4,-,-,a5⟩;exact ⟨a1,a2,a3,a4,a5⟩
    ·refine (H5.out.2.1.still hU).map_.mono ?_
     rintro r W' ⟨a1,a2,a3,a4,-,-,a5⟩;exact ⟨a1,a2,a3,a4,a5⟩
   obtain ⟨S1,hS1⟩:∃S,str R.m.secret=S:=⟨_,rfl⟩;have HMT:Hid (∀(W:World) (z:Nat),z=o∨z=u2→Upd (fun _=>False) w5 W→Calls Tryz.prog 22 #[.pointer (some ⟨z,0,none⟩)] W fun r W'=>∃x1,r=.returned (.agg #[.int .i64 R.m.role,.int .i64 R.m.seen,.int .i64 R.m.grant,x1,.string S1])∧Upd (fun _=>False) W W'):=Lib.hid fun W z hz hU=>by
    rw [← hS1];rcases hz with rfl | rfl
    ·refine (H5.out.1.still hU).meta_.mono ?_
     rintro r W' ⟨a1,a2,-,a5⟩;exact ⟨a1,a2,a5⟩
    ·refine (H5.out.2.1.still hU).meta_.mono ?_
     rintro r W' ⟨a1,a2,-,a5⟩;exact ⟨a1,a2,a5⟩
   have HPC:Hid (∀(W:World) (z:Nat),z=o∨z=u2→Upd (fun _=>False) w5 W→Calls Tryz.prog 12 #[.pointer (some ⟨z,0,none⟩)] W fun r W'=>r=.returned (.tuple #[.int .i64 R.at_,.int .i64 R.epoch])∧Upd (fun _=>False) W W'):=Lib.hid fun W z hz hU=>by
    rcases hz with rfl | rfl
    ·exact (H5.out.1.still hU).place
    ·exact (H5.out.2.1.still hU).place
   have HU5:=Lib.hid (Upd.refl (fun _=>False) w5);have f4:∀x1 W,(Instr.field 50 (.agg #[.int .i64 R.m.role,.int .i64 R.m.seen,.int .i64 R.m.grant,x1,.string S1]) 4).run Tryz.prog W=.ok (.string S1) W:=fun x1 W=>by kernel_rfl
   have f0:∀x1 W,(Instr.field 50 (.agg #[.int .i64 R.m.role,.int .i64 R.m.seen,.int .i64 R.m.grant,x1,.string S1]) 0).run Tryz.prog W=.ok (.int .i64 R.m.role) W:=fun x1 W=>by kernel_rfl
   clear hkey hS1;go_upto_region 25 with (first
    | (go_at_call 12;refine (HPC.out _ _ (by first | exact .inl rfl | exact .inr rfl) HU5.out).mono ?_;rintro r w6 ⟨rfl,hU⟩
       have HU5:=Lib.hid (HU5.out.then hU (fun _ e=>e.elim));clear hU))
   have ha:(R.at_ == R.at_)=true:=by simp
   have he:(R.epoch == R.epoch)=true:=by simp
   have hr:(R.m.role == R.m.role)=true:=by simp
   have hs:(S1.toList == S1.toList)=true:=by simp
   have hn:((n:Int) == (n:Int))=true:=by simp
   have H1K:=Lib.hid (fun (W:World) (hU:Upd (fun _=>False) w5 W)=>(H5.out.1.still hU).key);have h2k:∀(W:World),Upd (fun _=>False) w5 W→Calls Tryz.prog 14 #[.pointer (some ⟨u2,0,none⟩)] W fun e W'=>e=.returned (.int .i64 0)∧W=W':=fun W hU=>by
    have:=(H5.out.2.1.still hU).key;rw [HK.out] at this;exact this
   have H2K := Lib.hid h2k;clear h2k;go_wp2_with (first
    | (go_at_call 14;first
        | (with_reducible refine (H1K.out _ HU5.out).mono ?_;rintro r w6 ⟨rfl,rfl⟩)
        | (with_reducible refine (H2K.out _ HU5.out).mono ?_;rintro r w6 ⟨rfl,rfl⟩))
    | (go_at_call 18;first
        | (refine (HMP.out _ _ (by first | exact .inl rfl | exact .inr rfl) HM1.out.2).mono ?_;rintro r w7 ⟨m2,mb2,rfl,hM,hU⟩
           have HM2:=h3k (HM1.out.1.still hU) hM (HM1.out.2.then hU (fun _ e=>e.elim));clear hU hM)
        | (refine (HMP.out _ _ (by first | exact .inl rfl | exact .inr rfl) HU5.out).mono ?_;rintro r w6 ⟨m1,mb1,rfl,hM,hU⟩
           have HM1:=h2k hM (HU5.out.then hU (fun _ e=>e.elim));clear hU hM))
    | (go_at_call 35;refine (osame_c HM2.out.1 HM2.out.2.1).mono ?_;rintro r w8 ⟨rfl,hU⟩
       rw [decide_eq_true rfl];have HU6:=Lib.hid (HM2.out.2.2.then hU (fun _ e=>e.elim));clear hU)
    | (go_at_call 22;refine (HMT.out _ _ (by first | exact .inl rfl | exact .inr rfl) HU6.out).mono ?_;rintro r w9 ⟨x1,rfl,hU⟩
       have HU6:=Lib.hid (HU6.out.then hU (fun _ e=>e.elim));have g4:=f4 x1;have g0:=f0 x1;clear hU)
    | (go_at_call 26;refine (wakes_17 _).mono ?_;rintro e w9 ⟨rfl,hU⟩
       have HE:=Lib.hid ((HU1.out.then H5.out.2.2.1 (fun _ e=>e.elim)).then (HU6.out.then hU (fun _ e=>e.elim)) (fun _ e=>e.elim));clear hU))
   go_ret
   exact ⟨rfl,HE.out⟩
end
section
open Go Go.ChangeShapes Go.WideShapes Go.ChangeAt Go.RowKit Go.Proofs.YtbhjgfibhegddaaGreat
theorem common1:laidOutB Tryz.pinned.checked.prog=true:=by kernel_rfl
theorem common2:mapsRowed Tryz.pinned.checked.prog=true:=by kernel_rfl
theorem common6:(Tryz.pinned.checked.prog.stops == [])=true:=by kernel_rfl
theorem common8:(Tryz.pinned.checked.prog.stopKnobs == [])=true:=by kernel_rfl
theorem common22:(Rows.vaultMetasRow.plainKeys == Tryz.pinned.checked.prog.plainKeys)=true:=by kernel_rfl
theorem common24:Tryz.pinned.checked.prog.stopsHeard=true:=by kernel_rfl
theorem common25:Tryz.pinned.checked.prog.mayEnter=true:=by kernel_rfl
theorem common26:(Rows.vaultMetasRow.lifted == Tryz.pinned.checked.prog.liftsFinal)=true:=by kernel_rfl
theorem common27:(Tryz.pinned.checked.prog.make == some Rows.vaultMetasRow.make)=true:=by kernel_rfl
theorem and_mk {a b:Bool} (ha:a=true) (hb:b=true):(a && b)=true:=by rw [ha,hb];rfl
end
end Go.Proofs.YtbhjgfibhegddaaGreat
