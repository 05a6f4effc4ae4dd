/-
  Parts of the proof of VaultOwn: Plays17, VlPlay, Same, SameB, Wakes, WVaultOwn, Facts.
-/
import Derived.Test.YtbhjgfibhegddaaGreatQVaultOwn20
import Derived.Lib.MinMax
import Derived.ProofKit
import Derived.Test.YtbhjgfibhegddaaGreatRows
set_option maxRecDepth 100000
set_option maxHeartbeats 16000000
namespace Go.Proofs.YtbhjgfibhegddaaGreat
section
open Go Go.RowKit
def batAt (x:ActM) (a e:Int):BatM:=if x.do_=0 then x.b else ⟨IntKind.i64.wrap (a+1),max x.b.epoch e,x.b.ops⟩
structure PlaysOn (w0:World) (p:Nat) (l:List ActM) (I:Nat→World→Nat→Int→Int→Prop):Prop where
 upd:∀ {k w v a e},I k w v a e→Upd (fun _=>False) w0 w
 still:∀ {k w w' v a e},I k w v a e→Upd (fun _=>False) w w'→I k w' v a e
 place:∀ {k w v a e},I k w v a e→Calls Tryz.prog 12 #[.pointer (some ⟨v,0,none⟩)] w fun r w'=>r=.returned (.tuple #[.int .i64 a,.int .i64 e])∧Upd (fun _=>False) w w'
 commit:∀ {k w v a e x},I k w v a e→l[k]? = some x→x.do_=0∨x.do_=1→Calls Tryz.prog 15 #[.pointer (some ⟨v,0,none⟩),.agg #[.int .i64 (batAt x a e).index,.int .i64 (batAt x a e).epoch,x.ov]] w fun r w'=>∃n a' e',r=.returned (.int .i64 n)∧I (k+1) w' v a' e'
 set_:∀ {k w v a e x},I k w v a e→l[k]? = some x→x.do_=2→Calls Tryz.prog 24 #[.pointer (some ⟨v,0,none⟩),.agg (metaRow x.m x.mv)] w fun r w'=>∃n a' e',r=.returned (.int .i64 n)∧I (k+1) w' v a' e'
 install:∀ {k w v a e x},I k w v a e→l[k]? = some x→x.do_=3→Calls Tryz.prog 21 #[.pointer (some ⟨v,0,none⟩),.agg (metaRow x.m x.mv),x.lv,.int .i64 x.at_,.int .i64 x.ep] w fun r w'=>∃n a' e',r=.returned (.int .i64 n)∧I (k+1) w' v a' e'
 rotate:∀ {k w v a e x},I k w v a e→l[k]? = some x→x.do_=4→Calls Tryz.prog 34 #[.pointer (some ⟨v,0,none⟩)] w fun r w'=>∃n a' e',r=.returned (.int .i64 n)∧I (k+1) w' v a' e'
 open_:∀ {k w v a e x},I k w v a e→l[k]? = some x→x.do_=5→Calls Tryz.prog 16 #[.pointer (some ⟨p,0,none⟩),.string (str masterL)] w fun r w'=>∃u a' e',r=.returned (.tuple #[.pointer (some ⟨u,0,none⟩),.int .i64 0])∧I (k+1) w' u a' e'
 none_:∀ {k w v a e x},I k w v a e→l[k]? = some x→5<x.do_→I (k+1) w v a e
def actCells (x:ActM) (S:ByteArray):Array Value:=#[.int .u8 (x.do_.toNat:Int),.int .i64 x.b.index,.int .i64 x.b.epoch,x.ov,.int .i64 x.m.role,.int .i64 x.m.seen,.int .i64 x.m.grant,x.mv,.string S,x.lv,.int .i64 x.at_,.int .i64 x.ep]
theorem RIn.one {w:World} {k:Nat} {v:Value} {cs:List (List Value)} (h:RIn w k v cs):v.oneCell'=true:=by
 obtain ⟨A,cap,rfl,-⟩:=h;rfl
theorem act_one {x:ActM} {S:ByteArray} (h1:x.ov.oneCell'=true) (h2:x.mv.oneCell'=true) (h3:x.lv.oneCell'=true):(actCells x S).all (·.oneCell')=true:=by
 simp only [actCells,List.all_toArray,List.all_cons,List.all_nil,h1,h2,h3,Bool.and_true];rfl
theorem plays_c {w0 w:World} {p v:Nat} {l:List ActM} {lv:Value} {I:Nat→World→Nat→Int→Int→Prop} {a e:Int} (hP:PlaysOn w0 p l I) (hA:IsActs17 w0 lv l) (hI:I 0 w v a e) :
 Calls Tryz.prog 31 #[.pointer (some ⟨p,0,none⟩),.pointer (some ⟨v,0,none⟩),lv] w fun r w'=>∃u a' e',r=.returned (.pointer (some ⟨u,0,none⟩))∧I l.length w' u a' e':=by
 obtain ⟨A,cap,bA,off,rfl,hcap,hm,hA0,hcells⟩:=hA.rows.open_still;rw [List.length_map] at hm hA0 hcap ⊢;have HR:=Lib.hid hcells;have HE:=Lib.hid hA.each;have HP:=Lib.hid hP;have HI:=Lib.hid hI;clear hcells hA hP hI;go_enter Tryz.func31,Tryz.ntmps31
 go_wp2_with fail
 go_loopw [1,7] (fun u i wr=>∃(k v:Nat) (a e:Int),k≤l.length∧i=.int .i64 k∧u=.pointer (some ⟨v,0,none⟩)∧I k wr v a e) (fun _ i _=>l.length - (intOf i).toNat)
 case atStart=>exact ⟨0,v,a,e,by omega,rfl,rfl,HI.out⟩
 case round =>
  obtain ⟨k,u,pa,pe,hk,rfl,rfl,hI⟩:=hrel;have HJ:=Lib.hid hI;clear hI;by_cases hlt:k<l.length
  ·obtain rfl:=hA0 (by omega)
   obtain ⟨x,hx⟩:∃x,l[k]? = some x:=⟨_,List.getElem?_eq_getElem hlt⟩;obtain ⟨S,hS⟩:=eqx (str x.m.secret);obtain ⟨D,hD⟩:∃D:Int,(x.do_.toNat:Int)=D:=⟨_,rfl⟩;have hrow:wr.rangeAt bA (off+k*12) [.int .u8 D,.int .i64 x.b.index,.int .i64 x.b.epoch,x.ov,.int .i64 x.m.role,.int .i64 x.m.seen,.int .i64 x.m.grant,x.mv,.string S,x.lv,.int .i64 x.at_,.int .i64 x.ep]:=by
    have:=HR.out wr (HP.out.upd HJ.out) k x.row (by rw [List.getElem?_map,hx];rfl)
    unfold ActM.row at this;rw [hS,hD] at this;exact this
   have hin:=HE.out x (List.mem_of_getElem? hx);have hone:=act_one (S:=S) hin.bat.ops.rows.one hin.met.rows.one hin.prs.rows.one;unfold actCells at hone;rw [hD] at hone;obtain ⟨oA,ocap,hov,-⟩:=hin.bat.ops.rows;obtain ⟨on,hon⟩:∃n,(x.b.ops.map opRow).length=n:=⟨_,rfl⟩;rw [hon] at hov;rw [hov] at hrow hone;obtain ⟨q,hq⟩:=eqx wr.heap.size;have hmeta:metaRow x.m x.mv=#[.int .i64 x.m.role,.int .i64 x.m.seen,.int .i64 x.m.grant,x.mv,.string S]:=by rw [← hS];rfl
   have HRW:=Lib.hid hrow;have HX:=h7k hx hone hq hD hlt hmeta hov;have j1:(k:Int)<(l.length:Int):=by omega
   have hwk:IntKind.i64.wrap ((k:Int)+1)=(k:Int)+1:=IntWalk.i64_in _ (by omega);clear hrow hin hone hq hx hS hD hmeta hov hon;go_upto_region 5 with (first
    | (refine wpList_load_mid rfl _ _ rfl bA (off+k*12) rfl [.int .u8 D,.int .i64 x.b.index,.int .i64 x.b.epoch,.slice oA on ocap,.int .i64 x.m.role,.int .i64 x.m.seen,.int .i64 x.m.grant,x.mv,.string S,x.lv,.int .i64 x.at_,.int .i64 x.ep] _ HRW.out Tryz.underlying65 rfl (by kernel_rfl) ?_)
    | (refine wpList_store_all rfl 65 _ _ rfl wr.heap.size #[.int .u8 D,.int .i64 x.b.index,.int .i64 x.b.epoch,.slice oA on ocap,.int .i64 x.m.role,.int .i64 x.m.seen,.int .i64 x.m.grant,x.mv,.string S,x.lv,.int .i64 x.at_,.int .i64 x.ep] rfl rfl _ _ (Blk.new wr _ _) rfl HX.out.2.1 (by kernel_rfl) ?_
       intro w2 hB2 hU2 hz2))
   rw [HX.out.2.2.1] at hB2 hU2 ⊢;have hU12:Upd (fun _=>False) wr w2:=((Upd.refl _ wr).alloc _).then hU2 (fun b e=>.inr (by have e2:b=q:=e;have:=HX.out.2.2.1;omega));have HPL:=Lib.hid (HP.out.place (HP.out.still HJ.out hU12));have H2:=h2k hB2 (HP.out.still HJ.out hU12);clear hB2 hU2 hU12 hz2;go_upto_region 6 with (first
    | (go_at_call 12;refine HPL.out.mono ?_;rintro r w3 ⟨rfl,hU3⟩
       have hB3:=H2.out.1.upd hU3 (fun e=>e);have H3:=h2k hB3 (HP.out.still H2.out.2 hU3);clear hU3 hB3))
   have c0:w3.cell? ⟨q,0,none⟩=some (.int .u8 D):=H3.out.1.cell 0;have c1:w3.cell? ⟨q,1,none⟩=some (.int .i64 x.b.index):=H3.out.1.cell 1;have c2:w3.cell? ⟨q,2,none⟩=some (.int .i64 x.b.epoch):=H3.out.1.cell 2;have c3:w3.cell? ⟨q,3,none⟩=some (.slice oA on ocap):=H3.out.1.cell 3;have c4:w3.cell? ⟨q,4,none⟩=some (.int .i64 x.m.role):=H3.out.1.cell 4;have c5:w3.cell? ⟨q,5,none⟩=some (.int .i64 x.m.seen):=H3.out.1.cell 5;have c6:w3.cell? ⟨q,6,none⟩=some (.int .i64 x.m.grant):=H3.out.1.cell 6;have c7:w3.cell? ⟨q,7,none⟩=some x.mv:=H3.out.1.cell 7;have c8:w3.cell? ⟨q,8,none⟩=some (.string S):=H3.out.1.cell 8;have c9:w3.cell? ⟨q,9,none⟩=some x.lv:=H3.out.1.cell 9;have c10:w3.cell? ⟨q,10,none⟩=some (.int .i64 x.at_):=H3.out.1.cell 10;have c11:w3.cell? ⟨q,11,none⟩=some (.int .i64 x.ep):=H3.out.1.cell 11;have hd8:x.do_=0∨x.do_=1∨x.do_=2∨x.do_=3∨x.do_=4∨x.do_=5∨5<x.do_:=by
    rcases Nat.lt_or_ge 5 x.do_.toNat with h | h
    ·exact .inr (.inr (.inr (.inr (.inr (.inr (by rw [UInt8.lt_iff_toNat_lt];exact h))))))
    ·have hz:∀n:Nat,n≤5→x.do_.toNat=n→x.do_=UInt8.ofNat n:=fun n hn e=>UInt8.toNat_inj.1 (by rw [e,UInt8.toNat_ofNat'];omega)
     rcases (show x.do_.toNat=0∨x.do_.toNat=1∨x.do_.toNat=2∨x.do_.toNat=3∨x.do_.toNat=4∨x.do_.toNat=5 by omega) with e | e | e | e | e | e
     ·exact .inl (hz 0 (by omega) e)
     ·exact .inr (.inl (hz 1 (by omega) e))
     ·exact .inr (.inr (.inl (hz 2 (by omega) e)))
     ·exact .inr (.inr (.inr (.inl (hz 3 (by omega) e))))
     ·exact .inr (.inr (.inr (.inr (.inl (hz 4 (by omega) e)))))
     ·exact .inr (.inr (.inr (.inr (.inr (.inl (hz 5 (by omega) e))))))
   rcases hd8 with hd | hd | hd | hd | hd | hd | hd
   ·obtain rfl:D=0:=by rw [← HX.out.2.2.2.1,hd];rfl
    have HC:=HP.out.commit H3.out.2 HX.out.1 (.inl hd);rw [HX.out.2.2.2.2.2.2] at HC;rw [show batAt x pa pe=x.b by unfold batAt;rw [if_pos hd]] at HC;have HC:=Lib.hid HC;clear hd;go_wp2_with (first
     | (go_at_call 15;refine HC.out.mono ?_;rintro r w4 ⟨n2,a2,e2,rfl,hI⟩
        have HY:=Lib.hid hI;clear hI))
    go_roundw
    case rel=>exact ⟨k+1,u,a2,e2,by omega,by simp,rfl,HY.out⟩
    case measure=>simp [intOf]<;>omega
   ·obtain rfl:D=1:=by rw [← HX.out.2.2.2.1,hd];rfl
    have HC:=HP.out.commit H3.out.2 HX.out.1 (.inr hd);rw [HX.out.2.2.2.2.2.2] at HC;rw [show batAt x pa pe=⟨IntKind.i64.wrap (pa+1),max x.b.epoch pe,x.b.ops⟩ by unfold batAt;rw [if_neg (by rw [hd];decide)]] at HC
    have hmax:∀W,(Builtin.max_ #[3,3] 3 #[.int .i64 x.b.epoch,.int .i64 pe]).run Tryz.prog W=.ok (.int .i64 (max x.b.epoch pe)) W:=fun W=>Lib.run_max_ints W _ _ _ _ _ _
    obtain ⟨mx,hmx⟩:∃m,max x.b.epoch pe=m:=⟨_,rfl⟩;obtain ⟨ix,hix⟩:∃m,IntKind.i64.wrap (pa+1)=m:=⟨_,rfl⟩;rw [hmx] at hmax;rw [hmx,hix] at HC;have HC:=Lib.hid HC;clear hd;go_wp2_with (first
     | (go_at_call 15;refine HC.out.mono ?_;rintro r w4 ⟨n2,a2,e2,rfl,hI⟩
        have HY:=Lib.hid hI;clear hI))
    go_roundw
    case rel=>exact ⟨k+1,u,a2,e2,by omega,by simp,rfl,HY.out⟩
    case measure=>simp [intOf]<;>omega
   ·obtain rfl:D=2:=by rw [← HX.out.2.2.2.1,hd];rfl
    have HC:=HP.out.set_ H3.out.2 HX.out.1 hd;rw [HX.out.2.2.2.2.2.1] at HC;have HC:=Lib.hid HC;clear hd;go_wp2_with (first
     | (go_at_call 24;refine HC.out.mono ?_;rintro r w4 ⟨n2,a2,e2,rfl,hI⟩
        have HY:=Lib.hid hI;clear hI))
    go_roundw
    case rel=>exact ⟨k+1,u,a2,e2,by omega,by simp,rfl,HY.out⟩
    case measure=>simp [intOf]<;>omega
   ·obtain rfl:D=3:=by rw [← HX.out.2.2.2.1,hd];rfl
    have HC:=HP.out.install H3.out.2 HX.out.1 hd;rw [HX.out.2.2.2.2.2.1] at HC;have HC:=Lib.hid HC;clear hd;go_wp2_with (first
     | (go_at_call 21;refine HC.out.mono ?_;rintro r w4 ⟨n2,a2,e2,rfl,hI⟩
        have HY:=Lib.hid hI;clear hI))
    go_roundw
    case rel=>exact ⟨k+1,u,a2,e2,by omega,by simp,rfl,HY.out⟩
    case measure=>simp [intOf]<;>omega
   ·obtain rfl:D=4:=by rw [← HX.out.2.2.2.1,hd];rfl
    have HC:=HP.out.rotate H3.out.2 HX.out.1 hd;have HC:=Lib.hid HC;clear hd;go_wp2_with (first
     | (go_at_call 34;refine HC.out.mono ?_;rintro r w4 ⟨n2,a2,e2,rfl,hI⟩
        have HY:=Lib.hid hI;clear hI))
    go_roundw
    case rel=>exact ⟨k+1,u,a2,e2,by omega,by simp,rfl,HY.out⟩
    case measure=>simp [intOf]<;>omega
   ·obtain rfl:D=5:=by rw [← HX.out.2.2.2.1,hd];rfl
    have HC:=HP.out.open_ H3.out.2 HX.out.1 hd;have HC:=Lib.hid HC;clear hd;go_wp2_with (first
     | (go_at_call 16;refine HC.out.mono ?_;rintro r w4 ⟨u2,a2,e2,rfl,hI⟩
        have HY:=Lib.hid hI;clear hI))
    go_roundw
    case rel=>exact ⟨k+1,u2,a2,e2,by omega,by simp,rfl,HY.out⟩
    case measure=>simp [intOf]<;>omega
   ·have hD5:5<D:=by rw [← HX.out.2.2.2.1];have:=UInt8.lt_iff_toNat_lt.1 hd;exact_mod_cast this
    have e0:(D == (0:Int))=false:=by rw [beq_eq_false_iff_ne];omega
    have e1:(D == (1:Int))=false:=by rw [beq_eq_false_iff_ne];omega
    have e2:(D == (2:Int))=false:=by rw [beq_eq_false_iff_ne];omega
    have e3:(D == (3:Int))=false:=by rw [beq_eq_false_iff_ne];omega
    have e4:(D == (4:Int))=false:=by rw [beq_eq_false_iff_ne];omega
    have e5:(D == (5:Int))=false:=by rw [beq_eq_false_iff_ne];omega
    have HY:=Lib.hid (HP.out.none_ H3.out.2 HX.out.1 hd);clear hd;go_wp2_with fail
    go_roundw
    case rel=>exact ⟨k+1,u,pa,pe,by omega,by simp,rfl,HY.out⟩
    case measure=>simp [intOf]<;>omega
  ·have j1:¬((k:Int)<(l.length:Int)):=by omega
   go_wp2_with fail
   go_ret
   obtain rfl:k=l.length:=by omega
   exact ⟨u,rfl,pa,pe,HJ.out⟩
end
section
open Go Go.RowKit
def playR (R:RvM) (x:ActM):RvM :=
 if x.do_=0∨x.do_=1 then (commitR R (batAt x R.at_ R.epoch)).1 else if x.do_=2 then (setR R x.m).1 else if x.do_=3 then (installR R x.m x.l x.at_ x.ep).1 else if x.do_=4 then (rotateR R).1 else R
def playsR (R:RvM) (l:List ActM):RvM:=l.foldl playR R
theorem playsR_step {R:RvM} {l:List ActM} {k:Nat} {x:ActM} (h:l[k]? = some x):playsR R (l.take (k+1))=playR (playsR R (l.take k)) x:=by
 unfold playsR;rw [List.take_add_one,h,List.foldl_append];rfl
section
variable {w0 w w':World} {p v:Nat} {R:RvM} {boot c:Nat} {M:Nat→Prop}
theorem VlF.place_ok (h:VlF w0 w p v R boot c M):PlaceIs R.at_ R.epoch:=by
 obtain ⟨d,V,o,S0,h,rfl,-⟩:=h;exact h.g.place
theorem VlF.rows_ok (h:VlF w0 w p v R boot c M):∀b ∈ R.rows,1≤b.index∧b.ops.length≤4:=by
 obtain ⟨d,V,o,S0,h,rfl,-⟩:=h;intro b hb;obtain ⟨h1,-,-,h4,-⟩:=batErr_zero (replL_each h.g.rep b hb);exact ⟨h1,h4⟩
theorem VlF.mono (h:VlF w0 w p v R boot c M) {c':Nat} (hc:c≤c'):VlF w0 w p v R boot c' M:=by
 obtain ⟨d,V,o,S0,h,e⟩:=h;exact ⟨d,V,o,S0,⟨h.at_,{ h.g with vdk:=h.g.vdk.mono hc,num:=Nat.le_trans h.g.num hc },h.low,h.upd⟩,e⟩
theorem VlF.commit_in (h:VlF w0 w p v R boot c M) (hc:c<99000) (b:BatM) {ov:Value} (hO:OpsIn w0 ov b.ops) (hf:OpsFew b.ops) (hbe:b.epoch≤9223372036854775807) :
 Calls Tryz.prog 15 #[.pointer (some ⟨v,0,none⟩),.agg #[.int .i64 b.index,.int .i64 b.epoch,ov]] w fun e w'=>e=.returned (.int .i64 (commitR R b).2)∧(∃M',VlF w0 w' p v (commitR R b).1 boot (c+3) M'∧Stp w w' M M'):=by
 have hs:OpsSmall b.ops:=fun o ho=>by have:=hf.2 o ho;omega
 by_cases h0:b.ops.length=0
 ·have hT:TRow w 32 3 ov (b.ops.map opRow):=by
   obtain ⟨A,cap,h1,h2,h3,-⟩:=hO.rows;exact ⟨A,cap,h1,h2,by rw [List.length_map,h0];omega,fun h=>by rw [List.length_map] at h;omega⟩
  exact h.commit hc b hT (.inl (by decide)) hs hbe
 ·exact h.commit hc b ((hO.rows.still h.upd).row (by rw [List.length_map];have:=hf.1;omega)) (.inr (hO.rows.lt (by rw [List.length_map];omega))) hs hbe
theorem VlF.set_in (h:VlF w0 w p v R boot c M) (hc:c<99000) {m:MetaM} {mv:Value} (hM:MetaIn w0 mv m) (hf:MetaFew m) :
 Calls Tryz.prog 24 #[.pointer (some ⟨v,0,none⟩),.agg (metaRow m mv)] w fun e w'=>e=.returned (.int .i64 (setR R m).2)∧(∃M',VlF w0 w' p v (setR R m).1 boot (c+3) M'∧Stp w w' M M') :=
 h.set_ hc m ((hM.rows.still h.upd).row (by rw [List.length_map];have:=hf.1;omega)) ⟨hM.seen.2,hM.grant.2⟩ (fun x hx=>by have:=hf.2.2 x hx;omega)
theorem VlF.install_in (h:VlF w0 w p v R boot c M) (hc:c<99000) {m:MetaM} {mv:Value} (hM:MetaIn w0 mv m) (hf:MetaFew m) {l:List PairM} {lv:Value} (hL:PrsIn w0 lv l) (hfl:PrsFew l) (at_ ep:Int) (hep:ep≤9223372036854775807) :
 Calls Tryz.prog 21 #[.pointer (some ⟨v,0,none⟩),.agg (metaRow m mv),lv,.int .i64 at_,.int .i64 ep] w fun e w'=>e=.returned (.int .i64 (installR R m l at_ ep).2)∧(∃M',VlF w0 w' p v (installR R m l at_ ep).1 boot (c+3) M'∧Stp w w' M M') :=
 h.install hc m ((hM.rows.still h.upd).row (by rw [List.length_map];have:=hf.1;omega)) ⟨hM.seen.2,hM.grant.2⟩ (fun x hx=>by have:=hf.2.2 x hx;omega) l ((hL.rows.still h.upd).row (by rw [List.length_map];have:=hfl.1;omega)) (fun p hp=>by have:=hfl.2 p hp;omega) at_ ep hep
end
def PlayI (w0 w1:World) (p:Nat) (R:RvM) (c:Nat) (M0:Nat→Prop) (l:List ActM) (k:Nat) (w:World) (v:Nat) (a e:Int):Prop :=
 ∃boot M,VlF w0 w p v (playsR R (l.take k)) boot (c+3*k) M∧Stp w1 w M0 M∧a=(playsR R (l.take k)).at_∧e=(playsR R (l.take k)).epoch∧k≤l.length
theorem plays_on {w0 w1:World} {p:Nat} {R:RvM} {c:Nat} {M0:Nat→Prop} {l:List ActM} {lv:Value} (hc:c+3*l.length<98000) (hA:IsActs17 w0 lv l) (hf:ActsFew l):PlaysOn w0 p l (PlayI w0 w1 p R c M0 l):=by
 have hlt:∀ {k:Nat} {x:ActM},l[k]? = some x→k+1≤l.length:=fun h=>(List.getElem?_eq_some_iff.1 h).1
 have hin:∀ {k:Nat} {x:ActM},l[k]? = some x→x.In w0∧x.Few:=fun h=>⟨hA.each _ (List.mem_of_getElem? h),hf.2 _ (List.mem_of_getElem? h)⟩
 refine ⟨fun h=>?_,fun h hu=>?_,fun h=>?_,fun {k w v a e x} h hx hd=>?_,fun {k w v a e x} h hx hd=>?_,fun {k w v a e x} h hx hd=>?_,fun {k w v a e x} h hx hd=>?_,fun {k w v a e x} h hx hd=>?_,fun {k w v a e x} h hx hd=>?_⟩
 ·obtain ⟨boot,M,h1,-⟩:=h
  exact h1.upd
 ·obtain ⟨boot,M,h1,h2,h3⟩:=h
  exact ⟨boot,M,h1.still hu,h2.then (.still hu),h3⟩
 ·obtain ⟨boot,M,h1,h2,rfl,rfl,h5⟩:=h
  exact (h1.old (by omega)).place
 ·obtain ⟨boot,M,h1,h2,rfl,rfl,h5⟩:=h
  have hk:=hlt hx;obtain ⟨i1,i2⟩:=hin hx;have ho:(batAt x (playsR R (l.take k)).at_ (playsR R (l.take k)).epoch).ops=x.b.ops:=by unfold batAt;split<;>rfl
  have hep:(batAt x (playsR R (l.take k)).at_ (playsR R (l.take k)).epoch).epoch≤9223372036854775807:=by
   have e1:=i1.bat.epoch.2;have e2:=h1.place_ok.ep1;unfold batAt;split
   ·exact e1
   ·show max _ _≤_
    omega
  refine (h1.commit_in (by omega) (batAt x (playsR R (l.take k)).at_ (playsR R (l.take k)).epoch) (ov:=x.ov) (by rw [ho];exact i1.bat.ops) (by rw [ho];exact i2.ops) hep).mono ?_;rintro r w' ⟨rfl,M',h6,h7⟩;have hp:(commitR (playsR R (l.take k)) (batAt x (playsR R (l.take k)).at_ (playsR R (l.take k)).epoch)).1=playsR R (l.take (k+1)):=by
   rw [playsR_step hx];unfold playR;rw [if_pos hd]
  rw [hp] at h6;exact ⟨_,_,_,rfl,boot,M',h6.mono (by omega),h2.then h7,rfl,rfl,hk⟩
 ·obtain ⟨boot,M,h1,h2,rfl,rfl,h5⟩:=h
  have hk:=hlt hx;obtain ⟨i1,i2⟩:=hin hx;refine (h1.set_in (by omega) i1.met i2.met).mono ?_;rintro r w' ⟨rfl,M',h6,h7⟩;have hp:(setR (playsR R (l.take k)) x.m).1=playsR R (l.take (k+1)):=by
   rw [playsR_step hx];unfold playR;rw [if_neg (by rw [hd];decide),if_pos hd]
  rw [hp] at h6;exact ⟨_,_,_,rfl,boot,M',h6.mono (by omega),h2.then h7,rfl,rfl,hk⟩
 ·obtain ⟨boot,M,h1,h2,rfl,rfl,h5⟩:=h
  have hk:=hlt hx;obtain ⟨i1,i2⟩:=hin hx;refine (h1.install_in (by omega) i1.met i2.met i1.prs i2.prs x.at_ x.ep i1.ep.2).mono ?_;rintro r w' ⟨rfl,M',h6,h7⟩;have hp:(installR (playsR R (l.take k)) x.m x.l x.at_ x.ep).1=playsR R (l.take (k+1)):=by
   rw [playsR_step hx];unfold playR;rw [if_neg (by rw [hd];decide),if_neg (by rw [hd];decide),if_pos hd]
  rw [hp] at h6;exact ⟨_,_,_,rfl,boot,M',h6.mono (by omega),h2.then h7,rfl,rfl,hk⟩
 ·obtain ⟨boot,M,h1,h2,rfl,rfl,h5⟩:=h
  have hk:=hlt hx;refine (h1.rotate (by omega)).mono ?_;rintro r w' ⟨rfl,M',h6,h7⟩;have hp:(rotateR (playsR R (l.take k))).1=playsR R (l.take (k+1)):=by
   rw [playsR_step hx];unfold playR;rw [if_neg (by rw [hd];decide),if_neg (by rw [hd];decide),if_neg (by rw [hd];decide),if_pos hd]
  rw [hp] at h6;exact ⟨_,_,_,rfl,boot,M',h6.mono (by omega),h2.then h7,rfl,rfl,hk⟩
 ·obtain ⟨boot,M,h1,h2,rfl,rfl,h5⟩:=h
  have hk:=hlt hx;refine (h1.open_ (by omega)).mono ?_;rintro r w' ⟨u,rfl,⟨M',h6,h7⟩,-⟩;have hp:playsR R (l.take k)=playsR R (l.take (k+1)):=by
   rw [playsR_step hx];unfold playR;rw [if_neg (by rw [hd];decide),if_neg (by rw [hd];decide),if_neg (by rw [hd];decide),if_neg (by rw [hd];decide)]
  rw [hp] at h6;exact ⟨u,_,_,rfl,boot+1,M',h6.mono (by omega),h2.then h7,rfl,rfl,hk⟩
 ·obtain ⟨boot,M,h1,h2,rfl,rfl,h5⟩:=h
  have hk:=hlt hx;have hne:∀n:UInt8,n≤5→x.do_≠n:=fun n hn e=>by
   rw [e] at hd;exact absurd hd (by rw [UInt8.lt_iff_toNat_lt];have:=UInt8.le_iff_toNat_le.1 hn;omega)
  have hp:playsR R (l.take k)=playsR R (l.take (k+1)):=by
   rw [playsR_step hx];unfold playR;rw [if_neg (fun e=>e.elim (hne 0 (by decide)) (hne 1 (by decide))),if_neg (hne 2 (by decide)),if_neg (hne 3 (by decide)),if_neg (hne 4 (by decide))]
  refine ⟨boot,M,?_,h2,by rw [hp],by rw [hp],hk⟩;rw [← hp];exact h1.mono (by omega)
theorem IsActs17.still {w w':World} {v:Value} {l:List ActM} (h:IsActs17 w v l) (hu:Upd (fun _=>False) w w'):IsActs17 w' v l:=⟨h.rows.still hu,fun a ha=>(h.each a ha).still hu⟩
theorem trow_all {w w':World} {m mb:Nat} {S:List PairM} {v:Value} (h:Own w' 55 2 v S.length (pairsV S)) (hm:MapAt w m mb S):TRow w' 55 2 v (S.map pairRow):=by
 have:=hm.ok.len;exact TRow.of_own (n:=S.length) (by rw [← List.flatMap_def];exact h) (by rw [List.length_map]) (by omega) (fun c hc=>by obtain ⟨p,-,rfl⟩:=List.mem_map.1 hc;rfl)
end
section
open Go Go.RowKit
def PlainEq (t:TypeId) (a b:Value) (r:Bool):Prop:=Tryz.prog.plainKey t=true∧∀W d,(Op.equalIn (d+1) t a b).run Tryz.prog W=.ok r W
def allEq:List TypeId→List Value→List Value→List Bool→Prop
 | [],[],[],[]=>True
 | t::ts,a::va,b::vb,r::rs=>PlainEq t a b r∧allEq ts va vb rs
 | _,_,_,_=>False
theorem eqFields_run (d:Nat) (W:World) (xs ys:Array Value):∀(ts:List TypeId) (k:Nat) (fs:List Field) (va vb:List Value) (rs:List Bool),fs.map (fun f=>(f.name == "_",f.type,f.offset))=(ts.zipIdx k).map (fun p=>(false,p.1,p.2)) →
 (∀i,i<ts.length→xs[k+i]? = va[i]? ∧ ys[k+i]? = vb[i]?)→allEq ts va vb rs→(Op.eqFields (d+1) xs ys fs).run Tryz.prog W=.ok (rs.all id) W
 | [],k,fs,va,vb,rs,hf,hx,he=>by
   have:fs=[]:=by simpa using hf
   subst this;match va,vb,rs,he with
   | [],[],[],_=>simp [Op.eqFields]
 | t::ts,k,[],va,vb,rs,hf,hx,he=>by simp at hf
 | t :: ts,k,f::fs,va,vb,rs,hf,hx,he=>by
   match va,vb,rs,he with
   | a :: va,b::vb,r::rs,⟨h1,h2⟩ =>
     simp only [List.map_cons,List.zipIdx_cons,List.cons.injEq,Prod.mk.injEq,beq_eq_false_iff_ne] at hf;obtain ⟨⟨n1,n2,n3⟩,hf⟩:=hf;have h0:=hx 0 (by simp);simp only [Nat.add_zero,List.getElem?_cons_zero] at h0;have q1:=run_part_plain (w:=W) (P:=Tryz.prog) h1.1 h0.1;have q2:=run_part_plain (w:=W) (P:=Tryz.prog) h1.1 h0.2;simp only [Op.eqFields,n2,n3,Sem.run_bind,ne_eq,n1,not_false_eq_true,if_true];rw [q1,Result.andThen_ok,q2,Result.andThen_ok,h1.2,Result.andThen_ok];cases r
     ·simp
     ·simp only [Bool.not_true,Bool.false_eq_true,if_false,List.all_cons,id,Bool.true_and]
      exact eqFields_run d W xs ys ts (k+1) fs va vb rs hf (fun i hi=>by
       have:=hx (i+1) (by simpa using hi);rw [show k+(i+1)=k+1+i by omega] at this;simpa using this) h2
theorem neq_run {t:TypeId} (ts:List TypeId) (h1:Tryz.prog.underlying t=some (.struct (Tryz.prog.fieldsOf t))) (h2:Tryz.prog.stoodInHeld t=false) (hf:(Tryz.prog.fieldsOf t).toList.map (fun f=>(f.name == "_",f.type,f.offset))=(ts.zipIdx 0).map (fun p=>(false,p.1,p.2)))
 {va vb:List Value} {rs:List Bool} (he:allEq ts va vb rs) (W:World):(binOp .neq t (.agg va.toArray) (.agg vb.toArray)).run Tryz.prog W=.ok (.bool (!rs.all id)) W:=by
 rw [run_neq_struct,run_equalIn_agg _ _ _ _ _ h1 h2,eqFields_run _ W _ _ ts 0 _ va vb rs hf (fun i hi=>by simp) he];rfl
theorem plain_u8 (a b:UInt8):PlainEq 5 (.int .u8 (a.toNat:Int)) (.int .u8 (b.toNat:Int)) (decide (a=b)):=⟨by kernel_rfl,fun W d=>by
 rw [run_equalIn_int W d 5 .u8 .u8 _ _ Tryz.underlying5];congr 1
 rw [Bool.eq_iff_iff,beq_iff_eq,decide_eq_true_eq];exact ⟨fun h=>UInt8.toNat_inj.1 (by omega),fun h=>by rw [h]⟩⟩
theorem plain_str (a b:List UInt8):PlainEq 9 (.string (str a)) (.string (str b)) (decide (a=b)):=⟨by kernel_rfl,fun W d=>by
 rw [run_equalIn_string W d 9 _ _ Tryz.underlying9,str_beq]⟩
theorem plain_bool (a b:Bool):PlainEq 4 (.bool a) (.bool b) (decide (a=b)):=⟨by kernel_rfl,fun W d=>by
 rw [run_equalIn_bool W d 4 _ _ Tryz.underlying4];cases a<;>cases b<;>rfl⟩
theorem pair_neq (p q:PairM) (W:World):(binOp .neq 55 (.agg (pairRow p).toArray) (.agg (pairRow q).toArray)).run Tryz.prog W=.ok (.bool (!decide (p=q))) W:=by
 rw [neq_run (t:=55) [9,9] (by kernel_rfl) (by kernel_rfl) (by kernel_rfl) (show allEq _ (pairRow p) (pairRow q) [_,_] from ⟨plain_str _ _,plain_str _ _,trivial⟩) W];congr 3
 rw [Bool.eq_iff_iff];simp only [List.all_cons,List.all_nil,id,Bool.and_true,Bool.and_eq_true,decide_eq_true_eq];exact ⟨fun h=>Prod.ext h.1 h.2,fun h=>by rw [h];exact ⟨rfl,rfl⟩⟩
instance:DecidableEq OpM:=fun a b=>if h:a.kind=b.kind∧a.path=b.path∧a.value=b.value then isTrue (by obtain ⟨h1,h2,h3⟩:=h;cases a;cases b;simp_all) else isFalse (by rintro rfl;exact h ⟨rfl,rfl,rfl⟩)
theorem op_neq (p q:OpM) (W:World):(binOp .neq 32 (.agg (opRow p).toArray) (.agg (opRow q).toArray)).run Tryz.prog W=.ok (.bool (!decide (p=q))) W:=by
 rw [neq_run (t:=32) [5,9,9] (by kernel_rfl) (by kernel_rfl) (by kernel_rfl) (show allEq _ (opRow p) (opRow q) [_,_,_] from ⟨plain_u8 _ _,plain_str _ _,plain_str _ _,trivial⟩) W];congr 3
 rw [Bool.eq_iff_iff];obtain ⟨a,b,c⟩:=p;obtain ⟨a',b',c'⟩:=q;simp only [List.all_cons,List.all_nil,id,Bool.and_true,Bool.and_eq_true,decide_eq_true_eq,OpM.mk.injEq]
theorem mount_neq (p q:MtM) (W:World):(binOp .neq 46 (.agg (mtRow p).toArray) (.agg (mtRow q).toArray)).run Tryz.prog W=.ok (.bool (!decide (p=q))) W:=by
 rw [neq_run (t:=46) [9,4] (by kernel_rfl) (by kernel_rfl) (by kernel_rfl) (show allEq _ (mtRow p) (mtRow q) [_,_] from ⟨plain_str _ _,plain_bool _ _,trivial⟩) W];congr 3
 rw [Bool.eq_iff_iff];obtain ⟨a,b⟩:=p;obtain ⟨a',b'⟩:=q;simp only [List.all_cons,List.all_nil,id,Bool.and_true,Bool.and_eq_true,decide_eq_true_eq,MtM.mk.injEq]
theorem take_eq_step {α : Type} {a b:List α} {k:Nat} (h1:k<a.length) (h2:k<b.length) (h:a.take k=b.take k) (he:a[k]=b[k]):a.take (k+1)=b.take (k+1):=by
 rw [List.take_succ_eq_append_getElem h1,List.take_succ_eq_append_getElem h2,h,he]
theorem same13_c {w:World} {ta tb:TypeId} {va vb:Value} {a b:List PairM} (ha:TRow w ta 2 va (a.map pairRow)) (hb:TRow w tb 2 vb (b.map pairRow)) :
 Calls Tryz.prog 32 #[va,vb] w fun e w'=>e=.returned (.bool (decide (a=b)))∧Upd (fun _=>False) w w':=by
 obtain ⟨A,cap,bA,off,rfl,hcap,hl,hA,hat⟩:=ha.open_;obtain ⟨B,cap2,bB,off2,rfl,hcap2,hl2,hB,hat2⟩:=hb.open_;simp only [List.length_map] at hcap hl hA hcap2 hl2 hB ⊢;obtain ⟨r,hr⟩:=eqx (decide (a=b));rw [hr];have H:=h3k hat hat2 hr;clear hat hat2 ha hb hr;go_enter Tryz.func32,Tryz.ntmps32
 by_cases hn:a.length=b.length
 ·have hn':((a.length:Int) == (b.length:Int))=true:=by rw [beq_iff_eq];omega
  have hn2:((a.length:Int) != (b.length:Int))=false:=by rw [bne,hn'];rfl
  have HN:=Lib.hid hn;clear hn;go_wp2_with fail
  go_loopw [5] (fun i wr=>∃k:Nat,k≤a.length∧i=.int .i64 k∧Upd (fun _=>False) w wr∧a.take k=b.take k) (fun i _=>a.length - (intOf i).toNat)
  case atStart=>exact ⟨0,by omega,rfl,Upd.refl _ _,rfl⟩
  case round =>
   obtain ⟨k,hk,rfl,hu,htk⟩:=hrel;have HT:=h3k htk hu hk;clear htk;by_cases hlt:k<a.length
   ·obtain rfl:=hA (by omega)
    obtain rfl:=hB (by have:=HN.out;omega);have hb2:k<b.length:=by have:=HN.out;omega
    obtain ⟨x,hx⟩:=eqx (a[k]);obtain ⟨y,hy⟩:=eqx (b[k]'hb2);have hrow:=H.out.1 wr _ hu (fun _ _ e=>e) k (pairRow x) (by rw [List.getElem?_map,List.getElem?_eq_getElem hlt,hx];rfl)
    have hrow2:=H.out.2.1 wr _ hu (fun _ _ e=>e) k (pairRow y) (by rw [List.getElem?_map,List.getElem?_eq_getElem hb2,hy];rfl)
    obtain ⟨X1,hX1⟩:∃X,str x.1=X:=⟨_,rfl⟩;obtain ⟨X2,hX2⟩:∃X,str x.2=X:=⟨_,rfl⟩;obtain ⟨Y1,hY1⟩:∃X,str y.1=X:=⟨_,rfl⟩;obtain ⟨Y2,hY2⟩:∃X,str y.2=X:=⟨_,rfl⟩;have cX1:wr.cell? ⟨bA,off+k*2,none⟩=some (.string X1):=hrow 0 _ (by rw [← hX1];rfl)
    have cX2:wr.cell? ⟨bA,off+k*2+1,none⟩=some (.string X2):=hrow 1 _ (by rw [← hX2];rfl)
    have cY1:wr.cell? ⟨bB,off2+k*2,none⟩=some (.string Y1):=hrow2 0 _ (by rw [← hY1];rfl)
    have cY2:wr.cell? ⟨bB,off2+k*2+1,none⟩=some (.string Y2):=hrow2 1 _ (by rw [← hY2];rfl)
    have hneq:∀W,(binOp .neq 55 (.agg #[.string X1,.string X2]) (.agg #[.string Y1,.string Y2])).run Tryz.prog W=.ok (.bool (!decide (x=y))) W:=fun W=>by
     have:=pair_neq x y W;unfold pairRow at this;rw [hX1,hX2,hY1,hY2] at this;exact this
    have HX:=h4k hx hy hlt hb2;have j1:(k:Int)<(a.length:Int):=by omega
    have j2:(k:Int)<(b.length:Int):=by omega
    have hwk:IntKind.i64.wrap ((k:Int)+1)=(k:Int)+1:=IntWalk.i64_in _ (by omega);clear hrow hrow2 hx hy hX1 hX2 hY1 hY2;by_cases he:x=y
    ·rw [decide_eq_true he] at hneq
     have HE:=Lib.hid he;clear he;go_wp2_with fail
     go_quiet (fail)
     go_wp2_with fail
     go_roundw
     case rel =>
      refine ⟨k+1,by omega,by simp,hu.drewN _,?_⟩;refine take_eq_step HX.out.2.2.1 HX.out.2.2.2 HT.out.1 ?_;exact (HX.out.1.trans HE.out).trans HX.out.2.1.symm
     case measure=>simp [intOf]<;>omega
    ·rw [decide_eq_false he] at hneq
     have hrf:r=false:=by
      rw [← H.out.2.2,decide_eq_false_iff_not];intro hab;apply he
      rw [← HX.out.1,← HX.out.2.1];simp only [hab]
     subst hrf;clear he;go_wp2_with fail
     go_quiet (fail)
     go_wp2_with fail
     go_ret
     exact ⟨rfl,hu.drewN _⟩
   ·have j1:¬((k:Int)<(a.length:Int)):=by omega
    have hrt:r=true:=by
     rw [← H.out.2.2,decide_eq_true_eq];have:=HT.out.1;rw [List.take_of_length_le (by omega),List.take_of_length_le (by have:=HN.out;omega)] at this;exact this
    subst hrt;go_wp2_with fail
    go_ret
    exact ⟨rfl,hu⟩
 ·have hn':((a.length:Int) == (b.length:Int))=false:=by rw [beq_eq_false_iff_ne];omega
  have hn2:((a.length:Int) != (b.length:Int))=true:=by rw [bne,hn'];rfl
  have hrf:r=false:=by
   rw [← H.out.2.2,decide_eq_false_iff_not];rintro rfl;exact hn rfl
  subst hrf;go_wp2_with fail
  go_ret
  exact ⟨rfl,Upd.refl _ _⟩
instance:DecidableEq BatM:=fun a b=>if h:a.index=b.index∧a.epoch=b.epoch∧a.ops=b.ops then isTrue (by obtain ⟨h1,h2,h3⟩:=h;cases a;cases b;simp_all) else isFalse (by rintro rfl;exact h ⟨rfl,rfl,rfl⟩)
theorem bat_ext {a b:BatM} : a=b↔a.index=b.index∧a.epoch=b.epoch∧a.ops=b.ops:=⟨by rintro rfl;exact ⟨rfl,rfl,rfl⟩,fun ⟨h1,h2,h3⟩=>by cases a;cases b;simp_all⟩
theorem same12_c {w:World} {ta tb:TypeId} {va vb:Value} {a b:BatM} (ha:TRow w ta 3 va (a.ops.map opRow)) (hb:TRow w tb 3 vb (b.ops.map opRow)) :
 Calls Tryz.prog 83 #[.agg #[.int .i64 a.index,.int .i64 a.epoch,va],.agg #[.int .i64 b.index,.int .i64 b.epoch,vb]] w fun e w'=>e=.returned (.bool (decide (a=b)))∧Upd (fun _=>False) w w':=by
 obtain ⟨i1,e1,l1⟩:=a;obtain ⟨i2,e2,l2⟩:=b;simp only at ha hb ⊢
 obtain ⟨A,cap,bA,off,rfl,hcap,hl,hA,hat⟩:=ha.open_;obtain ⟨B,cap2,bB,off2,rfl,hcap2,hl2,hB,hat2⟩:=hb.open_;simp only [List.length_map] at hcap hl hA hcap2 hl2 hB ⊢;obtain ⟨r,hr⟩:=eqx (decide ((⟨i1,e1,l1⟩:BatM)=⟨i2,e2,l2⟩));rw [hr];have hr2:decide (i1=i2∧e1=e2∧l1=l2)=r:=by rw [← hr,decide_eq_decide,bat_ext]
 obtain ⟨c,hc⟩:=eqx w.heap.size;have H:=h4k hat hat2 hr2 hc;clear hat hat2 ha hb hr hr2 hc;go_enter Tryz.func83,Tryz.ntmps83
 go_upto_region 1 with fail
 rw [H.out.2.2.2];generalize hw1:World.alloc (World.alloc _ _) _=w1;have hB1:Blk w1 c 35 #[.int .i64 i1,.int .i64 e1,.slice A l1.length cap]:=by rw [← hw1,← H.out.2.2.2];exact (Blk.new w _ _).alloc _
 have hB2:Blk w1 (c+1) 35 #[.int .i64 i2,.int .i64 e2,.slice B l2.length cap2]:=by
  have:=Blk.new (w.alloc (.cells #[.int .i64 i1,.int .i64 e1,.slice A l1.length cap] 35)) 35 #[.int .i64 i2,.int .i64 e2,.slice B l2.length cap2];rw [World.size_alloc,H.out.2.2.2] at this;rw [← hw1];exact this
 have hU1:Upd (fun _=>False) w w1:=by rw [← hw1];exact ((Upd.refl _ w).alloc _).alloc _
 clear hw1;have HB:=h3k hB1 hB2 hU1;have a0:w1.cell? ⟨c,0,none⟩=some (.int .i64 i1):=hB1.cell 0;have a1:w1.cell? ⟨c,1,none⟩=some (.int .i64 e1):=hB1.cell 1;have a2:w1.cell? ⟨c,2,none⟩=some (.slice A l1.length cap):=hB1.cell 2;have b0:w1.cell? ⟨c+1,0,none⟩=some (.int .i64 i2):=hB2.cell 0;have b1:w1.cell? ⟨c+1,1,none⟩=some (.int .i64 e2):=hB2.cell 1;have b2:w1.cell? ⟨c+1,2,none⟩=some (.slice B l2.length cap2):=hB2.cell 2;clear hB1 hB2 hU1;by_cases hd:i1=i2∧e1=e2∧l1.length=l2.length
 ·obtain ⟨hi,he,hn⟩:=hd
  have q1:(i1 != i2)=false:=by rw [hi];simp
  have q2:(e1 != e2)=false:=by rw [he];simp
  have q3:((l1.length:Int) != (l2.length:Int))=false:=by rw [hn];simp
  have HN:=h3k hi he hn;clear hi he hn;go_wp2_with fail
  go_loopw [5] (fun i wr=>∃k:Nat,k≤l1.length∧i=.int .i64 k∧Upd (fun _=>False) w1 wr∧l1.take k=l2.take k) (fun i _=>l1.length - (intOf i).toNat)
  case atStart=>exact ⟨0,by omega,rfl,Upd.refl _ _,rfl⟩
  case round =>
   obtain ⟨k,hk,rfl,hu,htk⟩:=hrel;have HT:=h3k htk hu hk;clear htk;have a2:wr.cell? ⟨c,2,none⟩=some (.slice A l1.length cap):=(HB.out.1.upd hu (fun e=>e)).cell 2;have b2:wr.cell? ⟨c+1,2,none⟩=some (.slice B l2.length cap2):=(HB.out.2.1.upd hu (fun e=>e)).cell 2;by_cases hlt:k<l1.length
   ·obtain rfl:=hA (by omega)
    obtain rfl:=hB (by have:=HN.out.2.2;omega);have hb2:k<l2.length:=by have:=HN.out.2.2;omega
    obtain ⟨x,hx⟩:=eqx (l1[k]);obtain ⟨y,hy⟩:=eqx (l2[k]'hb2);have huu:=HB.out.2.2.then hu (fun _ e=>e.elim);have hrow:=H.out.1 wr _ huu (fun _ _ e=>e) k (opRow x) (by rw [List.getElem?_map,List.getElem?_eq_getElem hlt,hx];rfl)
    have hrow2:=H.out.2.1 wr _ huu (fun _ _ e=>e) k (opRow y) (by rw [List.getElem?_map,List.getElem?_eq_getElem hb2,hy];rfl)
    obtain ⟨X0,hX0⟩:∃X:Int,(x.kind.toNat:Int)=X:=⟨_,rfl⟩;obtain ⟨X1,hX1⟩:∃X,str x.path=X:=⟨_,rfl⟩;obtain ⟨X2,hX2⟩:∃X,str x.value=X:=⟨_,rfl⟩;obtain ⟨Y0,hY0⟩:∃X:Int,(y.kind.toNat:Int)=X:=⟨_,rfl⟩;obtain ⟨Y1,hY1⟩:∃X,str y.path=X:=⟨_,rfl⟩;obtain ⟨Y2,hY2⟩:∃X,str y.value=X:=⟨_,rfl⟩;have cX0:wr.cell? ⟨bA,off+k*3,none⟩=some (.int .u8 X0):=hrow 0 _ (by rw [← hX0];rfl)
    have cX1:wr.cell? ⟨bA,off+k*3+1,none⟩=some (.string X1):=hrow 1 _ (by rw [← hX1];rfl)
    have cX2:wr.cell? ⟨bA,off+k*3+2,none⟩=some (.string X2):=hrow 2 _ (by rw [← hX2];rfl)
    have cY0:wr.cell? ⟨bB,off2+k*3,none⟩=some (.int .u8 Y0):=hrow2 0 _ (by rw [← hY0];rfl)
    have cY1:wr.cell? ⟨bB,off2+k*3+1,none⟩=some (.string Y1):=hrow2 1 _ (by rw [← hY1];rfl)
    have cY2:wr.cell? ⟨bB,off2+k*3+2,none⟩=some (.string Y2):=hrow2 2 _ (by rw [← hY2];rfl)
    have hneq:∀W,(binOp .neq 32 (.agg #[.int .u8 X0,.string X1,.string X2]) (.agg #[.int .u8 Y0,.string Y1,.string Y2])).run Tryz.prog W=.ok (.bool (!decide (x=y))) W:=fun W=>by
     have:=op_neq x y W;unfold opRow at this;rw [hX0,hX1,hX2,hY0,hY1,hY2] at this;exact this
    have HX:=h4k hx hy hlt hb2;have j1:(k:Int)<(l1.length:Int):=by omega
    have j2:(k:Int)<(l2.length:Int):=by omega
    have hwk:IntKind.i64.wrap ((k:Int)+1)=(k:Int)+1:=IntWalk.i64_in _ (by omega);clear hrow hrow2 hx hy hX0 hX1 hX2 hY0 hY1 hY2 huu;by_cases he:x=y
    ·rw [decide_eq_true he] at hneq
     have HE:=Lib.hid he;clear he;go_wp2_with fail
     go_quiet (fail)
     go_wp2_with fail
     go_roundw
     case rel =>
      refine ⟨k+1,by omega,by simp,hu.drewN _,?_⟩;refine take_eq_step HX.out.2.2.1 HX.out.2.2.2 HT.out.1 ?_;exact (HX.out.1.trans HE.out).trans HX.out.2.1.symm
     case measure=>simp [intOf]<;>omega
    ·rw [decide_eq_false he] at hneq
     have hrf:r=false:=by
      rw [← H.out.2.2.1,decide_eq_false_iff_not];intro hab;apply he
      rw [← HX.out.1,← HX.out.2.1];simp only [hab.2.2]
     subst hrf;clear he;go_wp2_with fail
     go_quiet (fail)
     go_wp2_with fail
     go_ret
     exact ⟨rfl,(HB.out.2.2.then hu (fun _ e=>e.elim)).drewN _⟩
   ·have j1:¬((k:Int)<(l1.length:Int)):=by omega
    have hrt:r=true:=by
     rw [← H.out.2.2.1,decide_eq_true_eq];have:=HT.out.1;rw [List.take_of_length_le (by omega),List.take_of_length_le (by have:=HN.out.2.2;omega)] at this;exact ⟨HN.out.1,HN.out.2.1,this⟩
    subst hrt;go_wp2_with fail
    go_ret
    exact ⟨rfl,HB.out.2.2.then hu (fun _ e=>e.elim)⟩
 ·have hrf:r=false:=by
   rw [← H.out.2.2.1,decide_eq_false_iff_not];rintro ⟨h1,h2,rfl⟩;exact hd ⟨h1,h2,rfl⟩
  subst hrf;by_cases hi:i1=i2
  ·by_cases he:e1=e2
   ·have q1:(i1 != i2)=false:=by rw [hi];simp
    have q2:(e1 != e2)=false:=by rw [he];simp
    have q3:((l1.length:Int) != (l2.length:Int))=true:=by
     rw [bne_iff_ne];intro e;exact hd ⟨hi,he,by omega⟩
    clear hi he hd;go_wp2_with fail
    go_ret
    exact ⟨rfl,HB.out.2.2⟩
   ·have q1:(i1 != i2)=false:=by rw [hi];simp
    have q2:(e1 != e2)=true:=by rw [bne_iff_ne];exact he
    clear hi he hd;go_wp2_with fail
    go_ret
    exact ⟨rfl,HB.out.2.2⟩
  ·have q1:(i1 != i2)=true:=by rw [bne_iff_ne];exact hi
   clear hi hd;go_wp2_with fail
   go_ret
   exact ⟨rfl,HB.out.2.2⟩
end
section
open Go Go.RowKit
structure BtRows (w:World) (x:Value) (l:List BatM) (ovs:List Value):Prop where
 row:∃t,TRow w t 3 x (rowsL l ovs)
 len:ovs.length=l.length
 each:∀(i:Nat) (b:BatM) (ov:Value),l[i]? = some b→ovs[i]? = some ov→∃t,TRow w t 3 ov (b.ops.map opRow)
theorem BtRows.still {w w':World} {x:Value} {l:List BatM} {ovs:List Value} (h:BtRows w x l ovs) (hu:Upd (fun _=>False) w w'):BtRows w' x l ovs:=by
 obtain ⟨⟨t,h1⟩,h2,h3⟩:=h;exact ⟨⟨t,h1.still hu⟩,h2,fun i b ov a1 a2=>by obtain ⟨t',h4⟩:=h3 i b ov a1 a2;exact ⟨t',h4.still hu⟩⟩
theorem BatsAt.rows {w:World} {x:Value} {l:List BatM} {ovs:List Value} (h:BatsAt w x l ovs) (hl:l.length≤1000000):BtRows w x l ovs :=
 ⟨⟨_,TRow.of_own (cs:=rowsL l ovs) (n:=l.length) (by rw [rowsL_flat];exact h.own) (rowsL_len _ _ h.len) hl (rowsL_each _ _)⟩,h.len,fun i b ov a1 a2=>⟨_,h.each i b ov a1 a2⟩⟩
theorem samerows_c {w:World} {va vb:Value} {a b:List BatM} {oa ob:List Value} (ha:BtRows w va a oa) (hb:BtRows w vb b ob) :
 Calls Tryz.prog 37 #[va,vb] w fun e w'=>e=.returned (.bool (decide (a=b)))∧Upd (fun _=>False) w w':=by
 obtain ⟨ta,hta⟩:=ha.row;obtain ⟨tb,htb⟩:=hb.row;obtain ⟨A,cap,bA,off,rfl,hcap,hl,hA,hat⟩:=hta.open_;obtain ⟨B,cap2,bB,off2,rfl,hcap2,hl2,hB,hat2⟩:=htb.open_;rw [rowsL_len _ _ ha.len] at hcap hl hA ⊢;rw [rowsL_len _ _ hb.len] at hcap2 hl2 hB ⊢;obtain ⟨r,hr⟩:=eqx (decide (a=b));rw [hr];have H:=h7k hat hat2 hr ha.each hb.each ha.len hb.len;clear hat hat2 ha hb hr hta htb;go_enter Tryz.func37,Tryz.ntmps37
 by_cases hn:a.length=b.length
 ·have hn':((a.length:Int) == (b.length:Int))=true:=by rw [beq_iff_eq];omega
  have hn2:((a.length:Int) != (b.length:Int))=false:=by rw [bne,hn'];rfl
  have HN:=Lib.hid hn;clear hn;go_wp2_with fail
  go_loopw [5] (fun i wr=>∃k:Nat,k≤a.length∧i=.int .i64 k∧Upd (fun _=>False) w wr∧a.take k=b.take k) (fun i _=>a.length - (intOf i).toNat)
  case atStart=>exact ⟨0,by omega,rfl,Upd.refl _ _,rfl⟩
  case round =>
   obtain ⟨k,hk,rfl,hu,htk⟩:=hrel;have HT:=h3k htk hu hk;clear htk;by_cases hlt:k<a.length
   ·obtain rfl:=hA (by omega)
    obtain rfl:=hB (by have:=HN.out;omega);have hb2:k<b.length:=by have:=HN.out;omega
    obtain ⟨x,hx⟩:=eqx (a[k]);obtain ⟨y,hy⟩:=eqx (b[k]'hb2);have hx':a[k]? = some x:=by rw [List.getElem?_eq_getElem hlt,hx]
    have hy':b[k]? = some y:=by rw [List.getElem?_eq_getElem hb2,hy]
    obtain ⟨O1,hO1⟩:∃O,oa[k]? = some O:=⟨_,List.getElem?_eq_getElem (by have:=H.out.2.2.2.2.2.1;omega)⟩;obtain ⟨O2,hO2⟩:∃O,ob[k]? = some O:=⟨_,List.getElem?_eq_getElem (by have:=H.out.2.2.2.2.2.2;omega)⟩;have hrow:=H.out.1 wr _ hu (fun _ _ e=>e) k _ (rowsL_get _ _ k x O1 hx' hO1);have hrow2:=H.out.2.1 wr _ hu (fun _ _ e=>e) k _ (rowsL_get _ _ k y O2 hy' hO2);obtain ⟨t1,ht1⟩:=H.out.2.2.2.1 k x O1 hx' hO1;obtain ⟨t2,ht2⟩:=H.out.2.2.2.2.1 k y O2 hy' hO2;have cX0:wr.cell? ⟨bA,off+k*3,none⟩=some (.int .i64 x.index):=hrow 0 _ rfl;have cX1:wr.cell? ⟨bA,off+k*3+1,none⟩=some (.int .i64 x.epoch):=hrow 1 _ rfl;have cX2:wr.cell? ⟨bA,off+k*3+2,none⟩=some O1:=hrow 2 _ rfl;have cY0:wr.cell? ⟨bB,off2+k*3,none⟩=some (.int .i64 y.index):=hrow2 0 _ rfl;have cY1:wr.cell? ⟨bB,off2+k*3+1,none⟩=some (.int .i64 y.epoch):=hrow2 1 _ rfl;have cY2:wr.cell? ⟨bB,off2+k*3+2,none⟩=some O2:=hrow2 2 _ rfl;have HS:=Lib.hid (same12_c (a:=x) (b:=y) (ht1.still hu.drew) (ht2.still hu.drew));have HX:=h4k hx hy hlt hb2;have j1:(k:Int)<(a.length:Int):=by omega
    have j2:(k:Int)<(b.length:Int):=by omega
    have hwk:IntKind.i64.wrap ((k:Int)+1)=(k:Int)+1:=IntWalk.i64_in _ (by omega);clear hrow hrow2 hx hy hx' hy' hO1 hO2 ht1 ht2;go_wp2_with fail
    go_still_tail 8,(by kernel_rfl)
    change wpList _ _ _ _ _ wr.drew;by_cases he:x=y
    ·rw [decide_eq_true he] at HS
     have HE:=Lib.hid he;clear he;go_wp2_with (first
      | (go_at_call 83;refine HS.out.mono ?_;rintro e w2 ⟨rfl,hU2⟩;have H2:=Lib.hid (hu.drew.then hU2 (fun _ e=>e.elim));clear hU2))
     go_roundw
     case rel =>
      refine ⟨k+1,by omega,by simp,H2.out,?_⟩;refine take_eq_step HX.out.2.2.1 HX.out.2.2.2 HT.out.1 ?_;exact (HX.out.1.trans HE.out).trans HX.out.2.1.symm
     case measure=>simp [intOf]<;>omega
    ·rw [decide_eq_false he] at HS
     have hrf:r=false:=by
      rw [← H.out.2.2.1,decide_eq_false_iff_not];intro hab;apply he
      rw [← HX.out.1,← HX.out.2.1];simp only [hab]
     subst hrf;clear he;go_wp2_with (first
      | (go_at_call 83;refine HS.out.mono ?_;rintro e w2 ⟨rfl,hU2⟩;have H2:=Lib.hid (hu.drew.then hU2 (fun _ e=>e.elim));clear hU2))
     go_ret
     exact ⟨rfl,H2.out⟩
   ·have j1:¬((k:Int)<(a.length:Int)):=by omega
    have hrt:r=true:=by
     rw [← H.out.2.2.1,decide_eq_true_eq];have:=HT.out.1;rw [List.take_of_length_le (by omega),List.take_of_length_le (by have:=HN.out;omega)] at this;exact this
    subst hrt;go_wp2_with fail
    go_ret
    exact ⟨rfl,hu⟩
 ·have hn':((a.length:Int) == (b.length:Int))=false:=by rw [beq_eq_false_iff_ne];omega
  have hn2:((a.length:Int) != (b.length:Int))=true:=by rw [bne,hn'];rfl
  have hrf:r=false:=by
   rw [← H.out.2.2.1,decide_eq_false_iff_not];rintro rfl;exact hn rfl
  subst hrf;go_wp2_with fail
  go_ret
  exact ⟨rfl,Upd.refl _ _⟩
end
section
open Go Go.RowKit
theorem TRow.new {w:World} {t:TypeId} {k n:Nat} {cells:Array Value} {cs:List (List Value)} (hn:cs.length=n) (hm:n≤1000000) (hc:∀i c,cs[i]? = some c→∀j u,c[j]? = some u→cells[i*k+j]? = some u):TRow (w.alloc (.cells cells t)) t k (.slice (some ⟨w.heap.size,0,none⟩) n n) cs:=by
 refine ⟨_,n,by rw [hn],by omega,by omega,fun _=>⟨w.heap.size,0,cells,t,(0,0),rfl,Blk.new w t cells,fun _=>rfl,fun i c h j u hj=>?_⟩⟩;rw [Nat.zero_add];exact hc i c h j u hj
theorem TRow.nil (w:World) (t:TypeId) (k:Nat):TRow w t k (.slice none 0 0) []:=⟨none,0,rfl,by simp,by simp,fun h=>by simp at h⟩
def opW:OpM:=⟨1,[97,112,112,47,97],[49]⟩
def batW:BatM:=⟨1,1,[opW]⟩
theorem commit_W:∃R,commitR R0 batW=(R,0)∧R.at_=1∧R.epoch=1∧R.S=[([97,112,112,47,97],[49])]∧R.rows.length=1∧R.m=metaM0∧R.key=0∧R.prev=0:=⟨_,rfl,rfl,rfl,rfl,rfl,rfl,rfl,rfl⟩
theorem wakes_17 (w:World):Calls Tryz.prog 26 #[] w fun e w'=>e=.returned (.bool true)∧Upd (fun _=>False) w w':=by
 have HF:=Lib.hid (fresh_17 w);obtain ⟨R,hR,r1,r2,r3,-⟩:=commit_W;have hR2:commitR R ⟨3,1,[]⟩=(R,1):=by
  unfold commitR;rw [if_neg (by decide),if_pos (.inl (by rw [r1];decide))]
 have HR:=h5k hR hR2 r1 r2 r3;clear hR hR2 r1 r2 r3;go_enter Tryz.func26,Tryz.ntmps26
 go_upto_region 4 with (first
  | (go_at_call 11;refine HF.out.mono ?_;rintro e w1 ⟨p,v,rfl,hV⟩
     have H1:=Lib.hid hV;clear hV))
 go_upto_region 5 with (first
  | (go_at_call 15
     have hu:=(Upd.refl (fun _=>False) w1).alloc (.cells #[.int .u8 1,.string ⟨#[97,112,112,47,97]⟩,.string ⟨#[49]⟩] 32);refine ((H1.out.still hu).commit (by omega) batW (TRow.new (w:=w1) (t:=32) (k:=3) (n:=1) (cells:=#[.int .u8 1,.string ⟨#[97,112,112,47,97]⟩,.string ⟨#[49]⟩]) (cs:=batW.ops.map opRow) rfl (by omega) (by
      intro i c h j u hj;match i,h with
      | 0,h =>
        cases h
        match j,hj with
        | 0,hj=>exact hj
        | 1,hj=>exact hj
        | 2,hj=>exact hj
        | n+3,hj=>simp [opRow] at hj
      | n+1,h=>simp [batW] at h)) (.inl (by decide)) (by intro o ho;simp [batW] at ho;subst ho;decide) (by decide)).mono ?_
     rintro e w2 ⟨rfl,hV,-⟩;rw [HR.out.1] at hV ⊢;have H2:=Lib.hid hV;clear hu hV))
 go_upto_region 6 with (first
  | (go_at_call 15
     refine (H2.out.commit (by omega) ⟨3,1,[]⟩ (TRow.nil _ 32 _) (.inl (by decide)) (fun o ho=>by simp at ho) (by decide)).mono ?_;rintro e w3 ⟨rfl,hV,-⟩;rw [HR.out.2.1] at hV ⊢;have H3:=Lib.hid hV;clear hV))
 go_upto_region 7 with (first
  | (go_at_call 16;refine (H3.out.open_ (by omega)).mono ?_;rintro e w4 ⟨u,rfl,hV,-⟩
     have H4:=Lib.hid hV;clear hV))
 go_upto_region 9 with (first
  | (go_at_call 12;refine H4.out.place.mono ?_;rintro e w5 ⟨rfl,hV,-⟩
     rw [HR.out.2.2.1,HR.out.2.2.2.1];have H5:=Lib.hid hV;clear hV)
  | (go_at_call 18;refine H5.out.map_.mono ?_;rintro e w6 ⟨m,mb,rfl,hm,-,-,hV,-⟩
     rw [HR.out.2.2.2.2] at hm;have H6:=h2k hV hm;clear hV hm)
  | (go_at_call 19;refine (oget_c H6.out.2 ⟨#[97,112,112,47,97]⟩).mono ?_;rintro e w7 ⟨rfl,rfl⟩
     rw [show getV [([97,112,112,47,97],[49])] (⟨#[97,112,112,47,97]⟩:ByteArray).data.toList=.tuple #[.string ⟨#[49]⟩,.bool true] from rfl]))
 have HB:=Lib.hid (H6.out.1.boot_ (by omega));go_wp2_with (first
  | (go_at_call 13;refine HB.out.mono ?_;rintro e w8 ⟨rfl,rfl⟩))
 go_ret
 exact ⟨rfl,H6.out.1.upd⟩
end
section
open Go Go.RowKit
theorem Own.any {w:World} {e:TypeId} {size n:Nat} {v:Value} {xs:List Value} (h:Own w e size v n xs) (q j:Nat) (u:Value):∃xs',Own (w.setCell ⟨q,j,none⟩ u) e size v n xs'∧(xs'=xs∨(v.ownBlock=some q∧xs'=xs.set j u)):=by
 by_cases hq:v.ownBlock=some q
 ·rcases h.2 with ⟨hv,-⟩ | ⟨g,cap,cur,fr,hv,-⟩
  ·rw [hv] at hq;simp [Value.ownBlock] at hq
  ·have:g=q:=by rw [hv] at hq;simpa [Value.ownBlock] using hq
   subst this;subst hv;exact ⟨_,h.stored j u,.inr ⟨hq,rfl⟩⟩
 ·exact ⟨xs,h.far (p:=⟨q,j,none⟩) hq u,.inl rfl⟩
structure OwnS (w0 w:World) (x:Value) (l:List BatM) (ovs:List Value) (g:Nat) (mt:MetaM) (mv wv:Value) (S:List PairM):Prop where
 upd:Upd (fun _=>False) w0 w
 rows:∃xs,Own w 35 3 x l.length xs∧∀(i:Nat) (ov:Value),ovs[i]? = some ov→xs[i*3+2]? = some ov
 rlow:∀q,x.ownBlock=some q→w0.heap.size≤q
 ops:∀(i:Nat) (b:BatM) (ov:Value),l[i]? = some b→ovs[i]? = some ov→(∀q,ov.ownBlock=some q→w0.heap.size≤q)∧∃xs,Own w 32 3 ov b.ops.length xs
 met:Blk w g 50 (metaRow mt mv)
 mlow:∀q,mv.ownBlock=some q→w0.heap.size≤q
 mts:∃xs,Own w 46 2 mv mt.mounts.length xs
 was:TRow w 55 2 wv (S.map pairRow)
section
variable {w0 w w':World} {x:Value} {l:List BatM} {ovs:List Value} {g:Nat} {mt:MetaM} {mv wv:Value} {S:List PairM}
theorem OwnS.still (h:OwnS w0 w x l ovs g mt mv wv S) (hu:Upd (fun _=>False) w w'):OwnS w0 w' x l ovs g mt mv wv S:=by
 obtain ⟨xs,h1,h2⟩:=h.rows;obtain ⟨ys,h3⟩:=h.mts;exact ⟨h.upd.then hu (fun _ e=>e.elim),⟨xs,h1.upd hu (fun _ _ e=>e),h2⟩,h.rlow,fun i b ov a1 a2=>by
  obtain ⟨b1,zs,b2⟩:=h.ops i b ov a1 a2;exact ⟨b1,zs,b2.upd hu (fun _ _ e=>e)⟩,h.met.upd hu (fun e=>e),h.mlow,⟨ys,h3.upd hu (fun _ _ e=>e)⟩,h.was.still hu⟩
theorem OwnS.far {Z:Nat→Prop} (h:OwnS w0 w x l ovs g mt mv wv S) (hu:Upd Z w w') (hz:∀q,Z q→w0.heap.size≤q∧Ty w 132 q):OwnS w0 w' x l ovs g mt mv wv S:=by
 obtain ⟨xs,h1,h2⟩:=h.rows;obtain ⟨ys,h3⟩:=h.mts;exact ⟨h.upd.then hu (fun q e=>.inr (hz q e).1),⟨xs,h1.upd hu (fun q ht e=>absurd ((h1.ty ht).inj (hz q e).2) (by decide)),h2⟩,h.rlow,fun i b ov a1 a2=>by
  obtain ⟨b1,zs,b2⟩:=h.ops i b ov a1 a2;exact ⟨b1,zs,b2.upd hu (fun q ht e=>absurd ((b2.ty ht).inj (hz q e).2) (by decide))⟩,h.met.upd hu (fun e=>absurd (h.met.ty.inj (hz g e).2) (by decide)),h.mlow,⟨ys,h3.upd hu (fun q ht e=>absurd ((h3.ty ht).inj (hz q e).2) (by decide))⟩,h.was.upd hu (fun q ht e=>absurd (ht.inj (hz q e).2) (by decide))⟩
theorem OwnS.store (h:OwnS w0 w x l ovs g mt mv wv S) {q j:Nat} {t:TypeId} (hq:w0.heap.size≤q) (ht:Ty w t q) (hk:(t=35∧j % 3=0)∨t=32∨t=46) (u:Value):OwnS w0 (w.setCell ⟨q,j,none⟩ u) x l ovs g mt mv wv S:=by
 have hu:Upd (· = q) w (w.setCell ⟨q,j,none⟩ u):=upd_cell;obtain ⟨xs,h1,h2⟩:=h.rows;obtain ⟨xs',h3,h4⟩:=h1.any q j u;obtain ⟨ys,h5⟩:=h.mts;obtain ⟨ys',h6,-⟩:=h5.any q j u;refine ⟨h.upd.then hu (fun b e=>.inr (by rw [show b=q from e];exact hq)),⟨xs',h3,fun i ov hi=>?_⟩,h.rlow,fun i b ov a1 a2=>?_,h.met.upd hu (fun e=>?_),h.mlow,⟨ys',h6⟩,h.was.upd hu (fun b hb e=>?_)⟩
 ·rcases h4 with rfl | ⟨e1,rfl⟩
  ·exact h2 i ov hi
  ·have:t=35:=ht.inj (h1.ty e1)
   subst this;have hj:j % 3=0:=by
    rcases hk with ⟨-,e⟩ | e | e
    ·exact e
    ·exact absurd e (by decide)
    ·exact absurd e (by decide)
   rw [List.getElem?_set_ne (by omega)];exact h2 i ov hi
 ·obtain ⟨b1,zs,b2⟩:=h.ops i b ov a1 a2
  obtain ⟨zs',b3,-⟩:=b2.any q j u;exact ⟨b1,zs',b3⟩
 ·have:t=50:=ht.inj (by rw [← show g=q from e];exact h.met.ty)
  rcases hk with ⟨e,-⟩ | e | e<;>exact absurd (this.symm.trans e) (by decide)
 ·have:t=55:=ht.inj (by rw [← show b=q from e];exact hb)
  rcases hk with ⟨e,-⟩ | e | e<;>exact absurd (this.symm.trans e) (by decide)
end
section
variable {w0 w w':World} {p v:Nat} {R:RvM} {boot c:Nat} {M:Nat→Prop}
theorem VlO.meta_f (h:VlO w p v R boot):Calls Tryz.prog 22 #[.pointer (some ⟨v,0,none⟩)] w fun e w'=>∃mv',e=.returned (.agg (metaRow R.m mv'))∧TRow w' 46 2 mv' (R.m.mounts.map mtRow)∧Upd (fun _=>False) w w'∧(∀q,mv'.ownBlock=some q→w.heap.size≤q)∧Own w' 46 2 mv' R.m.mounts.length (R.m.mounts.map mtRow).flatten:=by
 obtain ⟨⟨d,V,o,h,rfl,hbt⟩,hr,hmany,hfew,-⟩:=h;exact vmeta_f h (rightM_ok hr).mts
theorem VlO.batches_f (h:VlO w p v R boot):Calls Tryz.prog 17 #[.pointer (some ⟨v,0,none⟩)] w fun e w'=>∃x ovs,e=.returned (.tuple #[x,.int .i64 R.prev])∧BatsAt w' x R.rows ovs∧(∀q,x.ownBlock=some q→w.heap.size≤q)∧Upd (fun _=>False) w w'∧(∀(i:Nat) (b:BatM) (ov:Value),R.rows[i]? = some b→ovs[i]? = some ov→(∀q,ov.ownBlock=some q→w.heap.size≤q)∧Own w' 32 3 ov b.ops.length (b.ops.map opRow).flatten):=by
 obtain ⟨⟨d,V,o,h,rfl,hbt⟩,hr,hmany,hfew,-⟩:=h;exact vbatches_f h hmany hfew
end
theorem BtRows.far {w w':World} {x:Value} {l:List BatM} {ovs:List Value} {Z:Nat→Prop} (h:BtRows w x l ovs) (hu:Upd Z w w') (hx:∀q,x.ownBlock=some q→¬Z q) (ho:∀(i:Nat) (b:BatM) (ov:Value),l[i]? = some b→ovs[i]? = some ov→∀q,ov.ownBlock=some q→¬Z q):BtRows w' x l ovs:=by
 obtain ⟨⟨t,h1⟩,h2,h3⟩:=h;exact ⟨⟨t,h1.upd_ hu (fun q hq _=>hx q hq)⟩,h2,fun i b ov a1 a2=>by
  obtain ⟨t',h4⟩:=h3 i b ov a1 a2;exact ⟨t',h4.upd_ hu (fun q hq _=>ho i b ov a1 a2 q hq)⟩⟩
theorem fld3m (m:MetaM) (mv:Value):∀W:World,Sem.run Tryz.prog (Instr.field 50 (.agg (metaRow m mv)) 3) W=.ok mv W:=fun W=>by kernel_rfl
theorem rowsV_ov:∀(l:List BatM) (s:List Value),s.length=l.length→∀(i:Nat) (ov:Value),s[i]? = some ov→(rowsV l s)[i*3+2]? = some ov
 | [],[],_,i,ov,h=>by simp at h
 | b::r,o::s,hl,0,ov,h=>by
   have:o=ov:=by simpa using h
   subst this;rfl
 | b::r,o::s,hl,i+1,ov,h=>by
   rw [show (i+1)*3+2=(i*3+2)+1+1+1 by omega];exact rowsV_ov r s (by simpa using hl) i ov (by simpa using h)
def zzOp:OpM:=⟨1,[122,122,47,122],[122]⟩
theorem walk_VaultOwn (w:World) {lv:Value} {l:List ActM} (hA:IsActs17 w lv l) :
 Calls Tryz.prog 6 #[lv] w fun e w'=>e=.returned (.bool true)∧Upd (fun _=>False) w w':=by
 have HA:=Lib.hid hA;clear hA;go_enter Tryz.func6,Tryz.ntmps6
 go_wp2_with fail
 refine (great17_c HA.out).mono ?_;rintro e w1 ⟨bg,rfl,hU1,hq⟩;have HU1:=Lib.hid hU1;clear hU1;cases bg
 rotate_left 1
 ·clear hq
  go_wp2_with (first
   | (go_at_call 26;refine (wakes_17 _).mono ?_;rintro e w9 ⟨rfl,hU⟩;have HE:=Lib.hid (HU1.out.then hU (fun _ e=>e.elim));clear hU))
  go_ret
  exact ⟨rfl,HE.out⟩
 have HF:=Lib.hid (hq rfl);have HA1:=Lib.hid (HA.out.still HU1.out);clear hq HA;go_upto_region 4 with (first
  | (go_at_call 11;refine (fresh_17 w1).mono ?_;rintro e w2 ⟨p,v0,rfl,M0,hV⟩
     have HV:=Lib.hid hV;clear hV))
 have HPY:=Lib.hid (plays_c (v:=v0) (plays_on (w1:=w2) (p:=p) (R:=R0) (c:=1) (M0:=M0) (by have:=HF.out.1;omega) HA1.out HF.out) HA1.out (a:=R0.at_) (e:=R0.epoch) ⟨1,M0,HV.out,.still (Upd.refl _ _),rfl,rfl,Nat.zero_le _⟩);go_upto_region 7 with (first
  | (go_at_call 31;refine HPY.out.mono ?_;rintro r w3 ⟨v,a3,e3,rfl,boot,M,hV,-⟩
     have H3:=Lib.hid hV;clear hV))
 clear HPY HV;obtain ⟨R,hR⟩:=eqx (playsR R0 (l.take l.length));rw [hR] at H3;clear hR;have HO:=Lib.hid (H3.out.old (by have:=HF.out.1;omega));have HRW:=Lib.hid H3.out.rows_ok;have HMN:=Lib.hid (show R.rows.length≤1000∧rightM R.m=true from ⟨HO.out.many,HO.out.right⟩);go_upto_region 8 with (first
  | (go_at_call 18;refine HO.out.map_.mono ?_;rintro r w4 ⟨m1,mb1,rfl,hm,-,-,hU⟩
     have H4:=h2k hU hm;clear hU hm)
  | (go_at_call 30;refine (oall_c H4.out.2).mono ?_;rintro r w5 ⟨wv,rfl,hO,hfr,hU⟩
     have H5:=h2k (H4.out.1.then hU (fun _ e=>e.elim)) (trow_all hO H4.out.2);clear hU hO hfr))
 go_upto_region 9 with (first
  | (go_at_call 17;refine (HO.out.still H5.out.1).batches_f.mono ?_;rintro r w6 ⟨x,ovs,rfl,hB,hfx,hU,hop⟩
     have H6:=h5k (H5.out.1.then hU (fun _ e=>e.elim)) (H5.out.2.still hU) hB (fun q hq=>Nat.le_trans H5.out.1.size (hfx q hq)) hop;clear hU hB hfx hop))
 have HMV:Hid (∀mv':Value,mv'.oneCell'=true→(metaRow R.m mv').all (·.oneCell')=true):=Lib.hid fun mv' h=>metaCells_one _ _ _ h rfl
 go_upto_region 10 with (first
  | (go_at_call 22;refine (HO.out.still H6.out.1).meta_f.mono ?_;rintro r w7 ⟨mv,rfl,hmt,hU,hfm,hom⟩
     have H7:=h3k hU (fun q hq=>Nat.le_trans H6.out.1.size (hfm q hq)) hom;have hone:=hom.one;obtain ⟨C,hC⟩:=eqx (metaRow R.m mv);have hC1:=HMV.out mv hone;rw [hC] at hC1 ⊢;have HC:=h2k hC hC1;clear hU hmt hfm hom hone hC hC1)
  | (refine wpList_store_all rfl 50 _ _ rfl w7.heap.size C rfl rfl _ _ (Blk.new w7 _ _) (by rw [← HC.out.1];rfl) HC.out.2 (by rw [← HC.out.1];kernel_rfl) ?_
     intro w8 hB8 hU8 hz8;have H8:=h2k hB8 hU8;clear hB8 hU8 hz8))
 obtain ⟨g,hg⟩:=eqx w7.heap.size;have hS8:Hid (OwnS w3 w8 x R.rows ovs g R.m mv wv R.S):=by
  have hU68:Upd (fun _=>False) w6 w8:=(H7.out.1.alloc _).then H8.out.2 (fun b e=>.inr (by have e2:b=w7.heap.size:=e;have:=H7.out.1.size;omega));have hU78:Upd (fun _=>False) w7 w8:=((Upd.refl _ w7).alloc _).then H8.out.2 (fun b e=>.inr (by have e2:b=w7.heap.size:=e;omega));obtain ⟨a1,a2,a3,a4,a5⟩:=H6.out;refine Lib.hid ⟨a1.then hU68 (fun _ e=>e.elim),⟨_,a3.own.upd hU68 (fun _ _ e=>e),fun i ov hi=>rowsV_ov _ _ a3.len i ov hi⟩,a4,fun i b ov b1 b2=>?_,by rw [← hg,HC.out.1];exact H8.out.1,H7.out.2.1,⟨_,H7.out.2.2.upd hU78 (fun _ _ e=>e)⟩,a2.still hU68⟩;obtain ⟨c1,c2⟩:=a5 i b ov b1 b2;exact ⟨fun q hq=>Nat.le_trans H5.out.1.size (c1 q hq),_,c2.upd hU68 (fun _ _ e=>e)⟩
 have HLEN:=Lib.hid H6.out.2.2.1.len;rw [hg];clear hg H7 H8 H6 HMV HC;go_upto_region 11 with (first
  | (go_at_call 18;refine (HO.out.still hS8.out.upd).map_.mono ?_;rintro r w9 ⟨m2,mb2,rfl,hm,hlm,-,hU⟩
     have H9:=h3k (hS8.out.still hU) hm (Nat.le_trans hS8.out.upd.size hlm);clear hU hm hlm)
  | (go_at_call 36
     have hal:Upd (fun _=>False) w9 (w9.alloc (.cells #[.int .u8 1,.string ⟨#[122,122,47,122]⟩,.string ⟨#[122]⟩] 32)):=(Upd.refl _ w9).alloc _;have hT:=TRow.new (w:=w9) (t:=32) (k:=3) (n:=1) (cells:=#[.int .u8 1,.string ⟨#[122,122,47,122]⟩,.string ⟨#[122]⟩]) (cs:=[zzOp].map opRow) rfl (by omega) (by
      intro i c h j u hj;match i,h with
      | 0,h =>
        cases h
        match j,hj with
        | 0,hj=>exact hj
        | 1,hj=>exact hj
        | 2,hj=>exact hj
        | n+3,hj=>simp [opRow] at hj
      | n+1,h=>simp at h)
     obtain ⟨oA,ocap,ob,oo,ho1,ho2,ho3,ho4,ho5⟩:=hT.ops;have hdo:=odo_c (cap:=ocap) (H9.out.2.1.still hal) (l:=[zzOp]) ho4 (fun w' hU=>ho5 w' _ hU (fun _ _ e=>e)) (by intro o ho;simp at ho;subst ho;decide) (by decide)
     rw [← ho1] at hdo;refine hdo.mono ?_;rintro r w10 ⟨rfl,hE⟩;have hty:=(H9.out.2.1.blk.alloc (.cells #[.int .u8 1,.string ⟨#[122,122,47,122]⟩,.string ⟨#[122]⟩] 32)).ty;have H10:Hid (OwnS w3 w10 x R.rows ovs g R.m mv wv R.S):=Lib.hid (by
      by_cases h0:doE R.S [zzOp]=0
      ·obtain ⟨mb',-,-,hU⟩:=hE.yes h0
       exact (H9.out.1.still hal).far hU (fun q e=>by rw [show q=m2 from e];exact ⟨H9.out.2.2,hty⟩)
      ·exact (H9.out.1.still hal).still (hE.no h0))
     clear hal hT ho1 ho2 ho3 ho4 ho5 hdo hE hty))
 clear H9 hS8;obtain ⟨xA,xcap,hxv,hxn,-⟩:∃A cap,x=.slice A R.rows.length cap∧R.rows.length≤cap∧cap≤maxLen:=by
  obtain ⟨xs,h1,-⟩:=H10.out.rows;exact h1.shape
 subst hxv;go_wp2_with fail
 go_loopw [10,11] (fun i _ wr=>∃k:Nat,k≤R.rows.length∧i=.int .i64 k∧OwnS w3 wr (.slice xA R.rows.length xcap) R.rows ovs g R.m mv wv R.S) (fun i _ _=>R.rows.length - (intOf i).toNat)
 case atStart=>exact ⟨0,by omega,rfl,H10.out⟩
 case round =>
  rename World=>wr
  obtain ⟨k,hk,rfl,hS⟩:=hrel;have H:=Lib.hid hS;clear hS H10;by_cases hlt:k<R.rows.length
  ·obtain ⟨xs,hx1,hx2⟩:=H.out.rows
   obtain ⟨gr,rcap,hxe,-⟩:=hx1.head (by omega);injection hxe with e1 e2 e3;subst e1 e3;have hxl:=hx1.len;obtain ⟨u0,hu0⟩:∃u,xs[k*3]? = some u:=⟨_,List.getElem?_eq_getElem (by omega)⟩;have c0:wr.cell? ⟨gr,k*3,none⟩=some u0:=by rw [hx1.cellAt (k*3) (by omega),hu0]
   have z0:=hx1.frozenAt (k*3) (by omega);have hS2:=Lib.hid (H.out.store (H.out.rlow gr rfl) (hx1.ty rfl) (.inl ⟨rfl,by omega⟩) (.int .i64 (-1)) (j:=k*3));obtain ⟨B,hB⟩:∃B,R.rows[k]? = some B:=⟨_,List.getElem?_eq_getElem hlt⟩;obtain ⟨OV,hOV⟩:∃O,ovs[k]? = some O:=⟨_,List.getElem?_eq_getElem (by rw [HLEN.out];exact hlt)⟩;obtain ⟨oA,ocap,hov,-⟩:=(H.out.ops k B OV hB hOV).2.choose_spec.shape;have HB:=h3k hB hOV hov;have hbl:=HRW.out B (List.mem_of_getElem? hB);have j1:(k:Int)<(R.rows.length:Int):=by omega
   have j2:(B.ops.length:Int)≤4:=by omega
   have hwk:IntKind.i64.wrap ((k:Int)+1)=(k:Int)+1:=IntWalk.i64_in _ (by have:=HMN.out.1;omega);clear hxl hu0 hx1 hx2 hB hOV hov H hbl;go_wp2_with fail
   go_loopw [11] (fun i ws=>∃m:Nat,m≤B.ops.length∧i=.int .i64 m∧OwnS w3 ws (.slice (some ⟨gr,0,none⟩) R.rows.length xcap) R.rows ovs g R.m mv wv R.S) (fun i _=>B.ops.length - (intOf i).toNat)
   case atStart=>exact ⟨0,by omega,rfl,hS2.out⟩
   case round =>
    rename World=>ws
    obtain ⟨m,hm,rfl,hS⟩:=hrel;have Hm:=Lib.hid hS;clear hS hS2 c0 z0;obtain ⟨ys,hy1,hy2⟩:=Hm.out.rows;have cO:ws.cell? ⟨gr,k*3+2,none⟩=some (.slice oA B.ops.length ocap):=by rw [hy1.cellAt (k*3+2) (by omega),hy2 k OV HB.out.2.1,HB.out.2.2]
    clear hy1 hy2;by_cases hm2:m<B.ops.length
    ·obtain ⟨hfr,zs,hz1⟩:=Hm.out.ops k B OV HB.out.1 HB.out.2.1
     rw [HB.out.2.2] at hz1 hfr;obtain ⟨go_,oc,hoe,-⟩:=hz1.head (by omega);injection hoe with f1 f2 f3;subst f1 f3;have hzl:=hz1.len;obtain ⟨u1,hu1⟩:∃u,zs[m*3+1]? = some u:=⟨_,List.getElem?_eq_getElem (by omega)⟩;have c1:ws.cell? ⟨go_,m*3+1,none⟩=some u1:=by rw [hz1.cellAt (m*3+1) (by omega),hu1]
     have z1:=hz1.frozenAt (m*3+1) (by omega);have hS3:=Lib.hid (Hm.out.store (hfr go_ rfl) (hz1.ty rfl) (.inr (.inl rfl)) (.string ⟨#[119,114,105,116,116,101,110,32,111,118,101,114]⟩) (j:=m*3+1));have j3:(m:Int)<(B.ops.length:Int):=by omega
     have hwm:IntKind.i64.wrap ((m:Int)+1)=(m:Int)+1:=IntWalk.i64_in _ (by omega);clear hzl hu1 hz1 hfr;go_wp2_with fail
     go_roundw
     case rel=>exact ⟨m+1,by omega,by simp,hS3.out⟩
     case measure=>simp [intOf]<;>omega
    ·have j3:¬(m:Int)<(B.ops.length:Int):=by omega
     go_wp2_with fail
     go_roundw
     case rel=>exact ⟨k+1,by omega,by simp,Hm.out⟩
     case measure=>simp [intOf]<;>omega
  ·have j1 : ¬(k:Int)<(R.rows.length:Int):=by omega
   obtain ⟨ms,hm1⟩:=H.out.mts;obtain ⟨mA,mcap,hmv,-⟩:=hm1.shape;subst hmv;clear hm1;have hmn:R.m.mounts.length≤4:=(rightM_ok HMN.out.2).mts;go_wp2_with fail
   go_loopw [12] (fun i ws=>∃m:Nat,m≤R.m.mounts.length∧i=.int .i64 m∧OwnS w3 ws (.slice xA R.rows.length xcap) R.rows ovs g R.m (.slice mA R.m.mounts.length mcap) wv R.S) (fun i _=>R.m.mounts.length - (intOf i).toNat)
   case atStart=>exact ⟨0,by omega,rfl,H.out⟩
   case round =>
    rename World=>ws
    obtain ⟨m,hm,rfl,hS⟩:=hrel;have Hm:=Lib.hid hS;clear hS H;have cM:ws.cell? ⟨g,3,none⟩=some (.slice mA R.m.mounts.length mcap):=Hm.out.met.cell 3;by_cases hm2:m<R.m.mounts.length
    ·obtain ⟨zs,hz1⟩:=Hm.out.mts
     have hfr:=Hm.out.mlow;obtain ⟨gm,oc,hoe,-⟩:=hz1.head (by omega);injection hoe with f1 f2 f3;subst f1 f3;have hzl:=hz1.len;obtain ⟨u1,hu1⟩:∃u,zs[m*2]? = some u:=⟨_,List.getElem?_eq_getElem (by omega)⟩;have c1:ws.cell? ⟨gm,m*2,none⟩=some u1:=by rw [hz1.cellAt (m*2) (by omega),hu1]
     have z1:=hz1.frozenAt (m*2) (by omega);have hS3:=Lib.hid (Hm.out.store (hfr gm rfl) (hz1.ty rfl) (.inr (.inr rfl)) (.string ⟨#[119,114,105,116,116,101,110,32,111,118,101,114]⟩) (j:=m*2));have j3:(m:Int)<(R.m.mounts.length:Int):=by omega
     have hwm:IntKind.i64.wrap ((m:Int)+1)=(m:Int)+1:=IntWalk.i64_in _ (by omega);clear hzl hu1 hz1 hfr;go_wp2_with fail
     go_roundw
     case rel=>exact ⟨m+1,by omega,by simp,hS3.out⟩
     case measure=>simp [intOf]<;>omega
    ·have j3 : ¬(m:Int)<(R.m.mounts.length:Int):=by omega
     go_upto_region 24 with (first
      | (go_at_call 17;refine (HO.out.still Hm.out.upd).batches_f.mono ?_;rintro r wn ⟨x2,ovs2,rfl,hB,hfx,hU,hop⟩
         have Hn:=h5k (Hm.out.upd.then hU (fun _ e=>e.elim)) (Hm.out.was.still hU) (hB.rows (by have:=HMN.out.1;omega)) (fun q hq=>Nat.le_trans Hm.out.upd.size (hfx q hq)) (fun i b ov h1 h2 q hq=>Nat.le_trans Hm.out.upd.size ((hop i b ov h1 h2).1 q hq));clear hU hB hfx hop))
     clear cM;obtain ⟨t2,hT2⟩:=Hn.out.2.2.1.row;obtain ⟨yA,ycap,yb,yo,hx2v,-,-,hyA,hyat⟩:=hT2.open_;have hl2:=Hn.out.2.2.1.len;rw [rowsL_len _ _ hl2] at hx2v hyA;subst hx2v;have HY:=h2k (hyat wn _ (Upd.refl (fun _=>False) wn) (fun _ _ e=>e)) hl2;clear hT2 hyat hl2 hm2 hm;go_wp2_with fail
     go_loopw [15] (fun i wr=>∃m:Nat,m≤R.rows.length∧i=.int .i64 m∧wr=wn) (fun i _=>R.rows.length - (intOf i).toNat)
     case atStart=>exact ⟨0,by omega,rfl,rfl⟩
     case round =>
      obtain ⟨m2,hm2,rfl,rfl⟩:=hrel;by_cases hlt2:m2<R.rows.length
      ·obtain rfl:=hyA (by omega)
       obtain ⟨B,hB⟩:∃B,R.rows[m2]? = some B:=⟨_,List.getElem?_eq_getElem hlt2⟩;obtain ⟨OV,hOV⟩:∃O,ovs2[m2]? = some O:=⟨_,List.getElem?_eq_getElem (by rw [HY.out.2];exact hlt2)⟩;obtain ⟨to_,hTo⟩:=Hn.out.2.2.1.each m2 B OV hB hOV;obtain ⟨oA,ocap,-,-,hov,-⟩:=hTo.ops;have hrow:=HY.out.1 m2 _ (rowsL_get _ _ m2 B OV hB hOV);have c0:wr.cell? ⟨yb,yo+m2*3,none⟩=some (.int .i64 B.index):=hrow 0 _ rfl;have c2:wr.cell? ⟨yb,yo+m2*3+2,none⟩=some (.slice oA B.ops.length ocap):=by rw [hrow 2 OV rfl,hov]
       have hbl:=HRW.out B (List.mem_of_getElem? hB);have j4:(m2:Int)<(R.rows.length:Int):=by omega
       have j5:¬B.index<1:=by omega
       have j6:¬(4:Int)<(B.ops.length:Int):=by omega
       have hwm:IntKind.i64.wrap ((m2:Int)+1)=(m2:Int)+1:=IntWalk.i64_in _ (by have:=HMN.out.1;omega);clear hB hOV hTo hov hrow hbl;go_wp2_with fail
       go_roundw
       case rel=>exact ⟨m2+1,by omega,by simp,trivial⟩
       case measure=>simp [intOf]<;>omega
      ·have j4:¬(m2:Int)<(R.rows.length:Int):=by omega
       have hl60:=HF.out.1;go_upto_region 30 with (first
        | (go_at_call 16;refine ((H3.out.still Hn.out.1).open_ (by omega)).mono ?_;rintro r wo ⟨u,rfl,⟨Mo,hVu,hst⟩,hold⟩
           have Ho:=h5k (hVu.old (by omega)) hold (Hn.out.2.1.vt (hst.upd.mono (fun _ e=>.inl ((H3.out.still Hn.out.1).vtz e))) (by decide)) (Hn.out.2.2.1.far hst.upd (fun q hq e=>by have h1:=Hn.out.2.2.2.1 q hq;have h2:=H3.out.lt e;omega) (fun i b ov h1 h2 q hq e=>by have h1:=Hn.out.2.2.2.2 i b ov h1 h2 q hq;have h2:=H3.out.lt e;omega)) hVu.upd;clear hVu hst hold))
       have HMT:Hid (∀(W:World) (z:Nat),z=v∨z=u→Upd (fun _=>False) wo W→Calls Tryz.prog 22 #[.pointer (some ⟨z,0,none⟩)] W fun r W'=>∃mv',r=.returned (.agg (metaRow R.m mv'))∧TRow W' 46 2 mv' (R.m.mounts.map mtRow)∧Upd (fun _=>False) W W'):=Lib.hid fun W z hz hU=>by
        rcases hz with rfl | rfl
        ·exact (Ho.out.2.1.still hU).meta_
        ·exact (Ho.out.1.still hU).meta_
       have HU:Hid (Upd (fun _=>False) wo wo):=Lib.hid (Upd.refl _ _);clear hl60 j4 hm2 hlt2;go_upto_region 32 with (first
        | (go_at_call 22;refine (HMT.out _ _ (by first | exact .inl rfl | exact .inr rfl) HU.out).mono ?_;rintro r wx ⟨mx,rfl,ht,hU⟩
           obtain ⟨xA2,xc2,xb2,xo2,rfl,-⟩:=ht.mts;have HU:=Lib.hid (HU.out.then hU (fun _ e=>e.elim));have hfl:=fld3m R.m (.slice xA2 R.m.mounts.length xc2);clear hU ht))
       go_wp2_with fail
       go_loopw [18] (fun i wr=>∃m:Nat,m≤R.m.mounts.length∧i=.int .i64 m∧Upd (fun _=>False) wo wr) (fun i _=>R.m.mounts.length - (intOf i).toNat)
       case atStart=>exact ⟨0,by omega,rfl,HU.out⟩
       case round =>
        rename World=>wr
        obtain ⟨m3,hm3,rfl,hu3⟩:=hrel;have HU3:=Lib.hid hu3;clear hu3 HU;by_cases hlt3:m3<R.m.mounts.length
        ·have j7:(m3:Int)<(R.m.mounts.length:Int):=by omega
         have hwm:IntKind.i64.wrap ((m3:Int)+1)=(m3:Int)+1:=IntWalk.i64_in _ (by omega);go_upto_region 35 with (first
          | (go_at_call 22;refine (HMT.out _ _ (by first | exact .inl rfl | exact .inr rfl) HU3.out).mono ?_;rintro r wx ⟨mx,rfl,ht,hU⟩
             obtain ⟨xA2,xc2,xb2,xo2,rfl,-⟩:=ht.mts;have HU3:=Lib.hid (HU3.out.then hU (fun _ e=>e.elim));have HWX:Hid (Upd (fun _=>False) wr wx):=Lib.hid hU;have hfl:=fld3m R.m (.slice xA2 R.m.mounts.length xc2);clear hU ht))
         clear hfl;obtain ⟨x3,hx3⟩:∃x,R.m.mounts[m3]=x:=⟨_,rfl⟩;obtain ⟨X1,hX1⟩:∃X,str x3.name=X:=⟨_,rfl⟩;obtain ⟨X2,hX2⟩:∃X,x3.ship=X:=⟨_,rfl⟩;have HX3:=h3k hx3 hX1 hX2;have hneq:∀W,(binOp .neq 46 (.agg #[.string X1,.bool X2]) (.agg #[.string X1,.bool X2])).run Tryz.prog W=.ok (.bool false) W:=fun W=>by
          have:=mount_neq x3 x3 W;unfold mtRow at this;rw [hX1,hX2,decide_eq_true rfl] at this;exact this
         clear hx3 hX1 hX2
         --@region35
         refine wp_region_noPanic ?_;refine wp_region_T (S:=fun w'=>Upd (fun _=>False) wr w') (T:=fun _=>false) (by kernel_rfl) ?_;have hS0:Upd (fun _=>False) wr wx.drew:=HWX.out.drew;have HWU:=Lib.hid (HU3.out.drew);refine tk8 0 ?_;simp only [tkS];refine tk8 3 ?_;simp only [tkS];refine tk8 6 ?_;simp only [tkS];refine tk8 9 ?_;simp only [tkS];refine wpAnyT_one (i:=1) (by kernel_rfl) rfl (fun KK hKK=>?_);go_simp
         refine (HMT.out _ u (.inr rfl) HWU.out).mono ?_;rintro r wq ⟨mx,rfl,ht,hU⟩;obtain ⟨xA2,xc2,xb2,xo2,rfl,-,-,hxA2,hxat2⟩:=ht.mts;obtain rfl:=hxA2 (by omega);have hflA:=fld3m R.m (.slice (some ⟨xb2,xo2,none⟩) R.m.mounts.length xc2);have HLA:Hid (∀W,Upd (fun _=>False) wq W→W.cell? ⟨xb2,xo2+m3*2,none⟩=some (.string X1)∧W.cell? ⟨xb2,xo2+m3*2+1,none⟩=some (.bool X2)):=Lib.hid fun W hW=>by
          have h:=hxat2 W _ hW (fun _ _ e=>e) m3 hlt3;rw [HX3.out.1] at h;exact ⟨h 0 _ (by rw [← HX3.out.2.1];rfl),h 1 _ (by rw [← HX3.out.2.2];rfl)⟩
         have HWA:Hid (Upd (fun _=>False) wq wq):=Lib.hid (Upd.refl _ _);have HWU:=Lib.hid (HWU.out.then hU (fun _ e=>e.elim));have hSq:Upd (fun _=>False) wr wq:=hS0.then hU (fun _ e=>e.elim);refine hKK.out _ _ hSq ?_;have hS0:=hSq;clear hKK hSq hU ht hxat2;refine tk8 2 ?_;simp only [tkS];refine tk8 4 ?_;simp only [tkS];refine wpAnyT_two (i:=5) (j:=7) (by kernel_rfl) rfl rfl (fun KK hKK=>?_) (fun KK hKK=>?_)
         ·obtain ⟨la1,la2⟩:=HLA.out _ HWA.out
          go_simp
          refine hKK.out _ _ hS0 ?_;clear hKK la1 la2;refine wpAnyT_one (i:=7) (by kernel_rfl) rfl (fun KK hKK=>?_);go_simp
          refine (HMT.out _ v (.inl rfl) HWU.out).mono ?_;rintro r wp_ ⟨mx,rfl,ht,hU⟩;obtain ⟨yA2,yc2,yb2,yo2,rfl,-,-,hyA2,hyat2⟩:=ht.mts;obtain rfl:=hyA2 (by omega);have hflB:=fld3m R.m (.slice (some ⟨yb2,yo2,none⟩) R.m.mounts.length yc2);have HLB:Hid (∀W,Upd (fun _=>False) wp_ W→W.cell? ⟨yb2,yo2+m3*2,none⟩=some (.string X1)∧W.cell? ⟨yb2,yo2+m3*2+1,none⟩=some (.bool X2)):=Lib.hid fun W hW=>by
           have h:=hyat2 W _ hW (fun _ _ e=>e) m3 hlt3;rw [HX3.out.1] at h;exact ⟨h 0 _ (by rw [← HX3.out.2.1];rfl),h 1 _ (by rw [← HX3.out.2.2];rfl)⟩
          have HWB:Hid (Upd (fun _=>False) wp_ wp_):=Lib.hid (Upd.refl _ _);have HWA:=Lib.hid (HWA.out.then hU (fun _ e=>e.elim));have HWU:=Lib.hid (HWU.out.then hU (fun _ e=>e.elim));have hSq:Upd (fun _=>False) wr wp_:=hS0.then hU (fun _ e=>e.elim);refine hKK.out _ _ hSq ?_;have hS0:=hSq;clear hKK hSq hU ht hyat2;refine tk8 8 ?_;simp only [tkS];refine tk8 10 ?_;simp only [tkS];refine wpAnyT_one (i:=11) (by kernel_rfl) rfl (fun KK hKK=>?_);obtain ⟨lb1,lb2⟩:=HLB.out _ HWB.out;go_simp
          refine hKK.out _ _ hS0 ?_;clear hKK lb1 lb2;refine tk8 12 ?_;simp only [tkS];refine wpAnyT_done (by kernel_rfl) ?_ _;refine NoPanic.normal ?_;have HEND:=Lib.hid HWU.out;go_wp2_with fail
          go_roundw
          case rel=>exact ⟨m3+1,by omega,by simp,HEND.out⟩
          case measure=>simp [intOf]<;>omega
         ·go_simp
          refine (HMT.out _ v (.inl rfl) HWU.out).mono ?_;rintro r wp_ ⟨mx,rfl,ht,hU⟩;obtain ⟨yA2,yc2,yb2,yo2,rfl,-,-,hyA2,hyat2⟩:=ht.mts;obtain rfl:=hyA2 (by omega);have hflB:=fld3m R.m (.slice (some ⟨yb2,yo2,none⟩) R.m.mounts.length yc2);have HLB:Hid (∀W,Upd (fun _=>False) wp_ W→W.cell? ⟨yb2,yo2+m3*2,none⟩=some (.string X1)∧W.cell? ⟨yb2,yo2+m3*2+1,none⟩=some (.bool X2)):=Lib.hid fun W hW=>by
           have h:=hyat2 W _ hW (fun _ _ e=>e) m3 hlt3;rw [HX3.out.1] at h;exact ⟨h 0 _ (by rw [← HX3.out.2.1];rfl),h 1 _ (by rw [← HX3.out.2.2];rfl)⟩
          have HWB:Hid (Upd (fun _=>False) wp_ wp_):=Lib.hid (Upd.refl _ _);have HWA:=Lib.hid (HWA.out.then hU (fun _ e=>e.elim));have HWU:=Lib.hid (HWU.out.then hU (fun _ e=>e.elim));have hSq:Upd (fun _=>False) wr wp_:=hS0.then hU (fun _ e=>e.elim);refine hKK.out _ _ hSq ?_;have hS0:=hSq;clear hKK hSq hU ht hyat2;refine tk8 8 ?_;simp only [tkS];refine tk8 10 ?_;simp only [tkS];refine wpAnyT_two (i:=5) (j:=11) (by kernel_rfl) rfl rfl (fun KK hKK=>?_) (fun KK hKK=>?_)
          ·obtain ⟨la1,la2⟩:=HLA.out _ HWA.out
           go_simp
           refine hKK.out _ _ hS0 ?_;clear hKK la1 la2;refine wpAnyT_one (i:=11) (by kernel_rfl) rfl (fun KK hKK=>?_);obtain ⟨lb1,lb2⟩:=HLB.out _ HWB.out;go_simp
           refine hKK.out _ _ hS0 ?_;clear hKK lb1 lb2;refine tk8 12 ?_;simp only [tkS];refine wpAnyT_done (by kernel_rfl) ?_ _;refine NoPanic.normal ?_;have HEND:=Lib.hid HWU.out;go_wp2_with fail
           go_roundw
           case rel=>exact ⟨m3+1,by omega,by simp,HEND.out⟩
           case measure=>simp [intOf]<;>omega
          ·obtain ⟨lb1,lb2⟩:=HLB.out _ HWB.out
           go_simp
           refine hKK.out _ _ hS0 ?_;clear hKK lb1 lb2;refine wpAnyT_one (i:=5) (by kernel_rfl) rfl (fun KK hKK=>?_);obtain ⟨la1,la2⟩:=HLA.out _ HWA.out;go_simp
           refine hKK.out _ _ hS0 ?_;clear hKK la1 la2;refine tk8 12 ?_;simp only [tkS];refine wpAnyT_done (by kernel_rfl) ?_ _;refine NoPanic.normal ?_;have HEND:=Lib.hid HWU.out;go_wp2_with fail
           go_roundw
           case rel=>exact ⟨m3+1,by omega,by simp,HEND.out⟩
           case measure=>simp [intOf]<;>omega
         --@end35
        ·have j7:¬(m3:Int)<(R.m.mounts.length:Int):=by omega
         have HMP:Hid (∀(W:World) (z:Nat),z=v∨z=u→Upd (fun _=>False) wo W→Calls Tryz.prog 18 #[.pointer (some ⟨z,0,none⟩)] W fun r W'=>∃m mb,r=.returned (.pointer (some ⟨m,0,none⟩))∧MapAt W' m mb R.S∧Upd (fun _=>False) W W'):=Lib.hid fun W z hz hU=>by
          rcases hz with rfl | rfl
          ·refine (Ho.out.2.1.still hU).map_.mono ?_
           rintro r W' ⟨a1,a2,a3,a4,-,-,a5⟩;exact ⟨a1,a2,a3,a4,a5⟩
          ·refine (Ho.out.1.still hU).map_.mono ?_
           rintro r W' ⟨a1,a2,a3,a4,-,-,a5⟩;exact ⟨a1,a2,a3,a4,a5⟩
         go_upto_region 38 with (first
          | (go_at_call 22;refine (HMT.out _ _ (by first | exact .inl rfl | exact .inr rfl) HU3.out).mono ?_;rintro r wx ⟨mx,rfl,ht,hU⟩
             obtain ⟨xA2,xc2,xb2,xo2,rfl,-⟩:=ht.mts;have HU3:=Lib.hid (HU3.out.then hU (fun _ e=>e.elim));have hfl:=fld3m R.m (.slice xA2 R.m.mounts.length xc2);clear hU ht)
          | (go_at_call 17;refine (Ho.out.1.still HU3.out).batches.mono ?_;rintro r wz ⟨x5,ovs5,rfl,hB,-,hU⟩
             have HAG:=Lib.hid (hB.rows (by have:=HMN.out.1;omega));have HU4:=Lib.hid (HU3.out.then hU (fun _ e=>e.elim));clear hU hB))
         clear hfl j7;go_wp2_with (first
          | (go_at_call 37;refine (samerows_c (Ho.out.2.2.2.1.still HU4.out) HAG.out).mono ?_;rintro r w5 ⟨rfl,hU⟩
             rw [decide_eq_true rfl];have HU4:=Lib.hid (HU4.out.then hU (fun _ e=>e.elim));clear hU)
          | (go_at_call 18;refine (HMP.out _ _ (by first | exact .inl rfl | exact .inr rfl) HU4.out).mono ?_;rintro r w5 ⟨m5,mb5,rfl,hM5,hU⟩
             have HM5:=Lib.hid hM5;have HU4:=Lib.hid (HU4.out.then hU (fun _ e=>e.elim));clear hU hM5)
          | (go_at_call 30;refine (oall_c HM5.out).mono ?_;rintro r w5 ⟨wv5,rfl,hO5,-,hU⟩
             have HT5:=Lib.hid (trow_all hO5 HM5.out);have HU4:=Lib.hid (HU4.out.then hU (fun _ e=>e.elim));clear hU hO5)
          | (go_at_call 32;refine (same13_c HT5.out (Ho.out.2.2.1.still HU4.out)).mono ?_;rintro r w5 ⟨rfl,hU⟩
             rw [decide_eq_true rfl];have HU4:=Lib.hid (HU4.out.then hU (fun _ e=>e.elim));clear hU)
          | (go_at_call 26;refine (wakes_17 _).mono ?_;rintro e w9 ⟨rfl,hU⟩
             have HE:=Lib.hid ((HU1.out.then Ho.out.2.2.2.2 (fun _ e=>e.elim)).then (HU4.out.then hU (fun _ e=>e.elim)) (fun _ e=>e.elim));clear hU))
         go_ret
         exact ⟨rfl,HE.out⟩
end
section
open Go Go.ChangeShapes Go.WideShapes Go.ChangeAt Go.RowKit Go.Proofs.YtbhjgfibhegddaaGreat
theorem common1:laidOutB Tryz.pinned.checked.prog=true:=by kernel_rfl
theorem common2:mapsRowed Tryz.pinned.checked.prog=true:=by kernel_rfl
theorem common6:(Tryz.pinned.checked.prog.stops == [])=true:=by kernel_rfl
theorem common8:(Tryz.pinned.checked.prog.stopKnobs == [])=true:=by kernel_rfl
theorem common22:(Rows.vaultMetasRow.plainKeys == Tryz.pinned.checked.prog.plainKeys)=true:=by kernel_rfl
theorem common24:Tryz.pinned.checked.prog.stopsHeard=true:=by kernel_rfl
theorem common25:Tryz.pinned.checked.prog.mayEnter=true:=by kernel_rfl
theorem common26:(Rows.vaultMetasRow.lifted == Tryz.pinned.checked.prog.liftsFinal)=true:=by kernel_rfl
theorem common27:(Tryz.pinned.checked.prog.make == some Rows.vaultMetasRow.make)=true:=by kernel_rfl
theorem and_mk {a b:Bool} (ha:a=true) (hb:b=true):(a && b)=true:=by rw [ha,hb];rfl
end
end Go.Proofs.YtbhjgfibhegddaaGreat
