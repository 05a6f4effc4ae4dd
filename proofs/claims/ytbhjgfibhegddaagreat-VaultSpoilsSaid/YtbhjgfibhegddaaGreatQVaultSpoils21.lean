/-
  Parts of the proof of VaultSpoils: VlW, Plays17, VlPlay, Same, Ref17D, Doc17, VlAlien, Wakes, Again17, InD, WVaultSpoils, Facts.
-/
import Derived.Test.YtbhjgfibhegddaaGreatQVaultSpoils20
import Derived.Laws.IdiomArrays
import Derived.Lib.MinMax
import Derived.ProofKit
import Derived.Stop.BytesEq
import Derived.Test.YtbhjgfibhegddaaGreatRows
set_option maxRecDepth 100000
set_option maxHeartbeats 16000000
namespace Go.Proofs.YtbhjgfibhegddaaGreat
section
open Go Go.RowKit
def vtTypes:List TypeId:=[117,151,9,209,199,186,269,35]
def VtZ (w:World) (q:Nat):Prop:=(∃t ∈ vtTypes,Ty w t q)∨Mp w q
section
variable {w w':World} {p v:Nat} {d:Dk} {V:VtM} {o:VtO} {F:List Nat}
theorem VtAt.vtz (h:VtAt w p v d V o) {q:Nat} (hq:o.mut v q):VtZ w q:=by
 rcases h.kind hq with e | e | e | e | e | e | e | e | e
 ·exact .inl ⟨_,by simp [vtTypes],e⟩
 ·exact .inl ⟨_,by simp [vtTypes],e⟩
 ·exact .inl ⟨_,by simp [vtTypes],e⟩
 ·exact .inl ⟨_,by simp [vtTypes],e⟩
 ·exact .inl ⟨_,by simp [vtTypes],e⟩
 ·exact .inl ⟨_,by simp [vtTypes],e⟩
 ·exact .inl ⟨_,by simp [vtTypes],e⟩
 ·exact .inl ⟨_,by simp [vtTypes],e⟩
 ·exact .inr e.1
theorem DiskAt.vtz (h:DiskAt w p d F) {q:Nat} (hq:q ∈ F):VtZ w q:=by
 rcases h.kind hq with e | e | e
 ·exact .inl ⟨_,by simp [vtTypes],e⟩
 ·exact .inl ⟨_,by simp [vtTypes],e⟩
 ·exact .inr e
end
theorem VtG.stok {d:Dk} {V:VtM} {S0:List PairM} {c:Nat} (h:VtG d V S0 c) (hc:c<99000):StOk V.st:=⟨h.vdk.right,h.vdk.place,h.vdk.slots,by have:=h.vdk.logs;omega,by have:=h.vdk.keys;omega,by have:=h.vdk.boots;omega,h.mn⟩
theorem VtG.putfit {d:Dk} {V:VtM} {S0:List PairM} {c:Nat} (h:VtG d V S0 c) (hc:c<99000):PutFit d V:=by
 obtain ⟨L0,L1,hk⟩:=h.vdk.kept;exact ⟨by rw [h.cur];have:=h.vdk.keys;omega,by have:=h.num;omega,by have:=h.vdk.kseen;omega,hk.at_,by rw [h.vdk.kfrom];omega,by rw [h.vdk.good.pend];omega⟩
theorem VtG.free {d:Dk} {V:VtM} {S0:List PairM} {c:Nat} (h:VtG d V S0 c):VtG d.free V S0 c:=by
 rw [Dk.free_off h.vdk.good.fuse h.vdk.good.off];exact h
structure VlX (w0 w:World) (p v:Nat) (d:Dk) (V:VtM) (o:VtO) (S0:List PairM) (c:Nat):Prop where
 at_:VtAt w p v d V o
 g:VtG d V S0 c
 low:∀q,o.mut v q→w0.heap.size≤q
 upd:Upd (fun _=>False) w0 w
structure Stp (w w':World) (M M':Nat→Prop):Prop where
 upd:Upd M w w'
 sub:∀q,M' q→M q∨w.heap.size≤q
theorem Stp.then {w w1 w2:World} {M M1 M2:Nat→Prop} (h:Stp w w1 M M1) (h2:Stp w1 w2 M1 M2):Stp w w2 M M2 :=
 ⟨h.upd.then h2.upd h.sub,fun q hq=>(h2.sub q hq).elim (fun e=>h.sub q e) (fun e=>.inr (Nat.le_trans h.upd.size e))⟩
theorem Stp.still {w w':World} {M:Nat→Prop} (h:Upd (fun _=>False) w w'):Stp w w' M M:=⟨h.mono wz0,fun _ e=>.inl e⟩
def VlF (w0 w:World) (p v:Nat) (R:RvM) (boot c:Nat) (M:Nat→Prop):Prop:=∃d V o S0,VlX w0 w p v d V o S0 c∧V.abs=R∧V.st.boot=boot∧∀q,M q↔o.mut v q
def VlW (w0 w:World) (p v:Nat) (R:RvM) (boot c:Nat):Prop:=∃M,VlF w0 w p v R boot c M
structure VlO (w:World) (p v:Nat) (R:RvM) (boot:Nat):Prop where
 ex:∃d V o,VtAt w p v d V o∧V.abs=R∧V.st.boot=boot
 right:rightM R.m=true
 many:R.rows.length≤1000
 few:∀b ∈ R.rows,b.ops.length≤1000
 low:boot≤1000000
section
variable {w0 w w':World} {p v:Nat} {d:Dk} {V:VtM} {o:VtO} {S0:List PairM} {R:RvM} {boot c:Nat} {M:Nat→Prop}
theorem VlX.still (h:VlX w0 w p v d V o S0 c) (hu:Upd (fun _=>False) w w'):VlX w0 w' p v d V o S0 c:=⟨h.at_.still hu,h.g,h.low,h.upd.then hu wz0⟩
theorem VlF.still (h:VlF w0 w p v R boot c M) (hu:Upd (fun _=>False) w w'):VlF w0 w' p v R boot c M:=by
 obtain ⟨d,V,o,S0,h,e⟩:=h;exact ⟨d,V,o,S0,h.still hu,e⟩
theorem VlW.still (h:VlW w0 w p v R boot c) (hu:Upd (fun _=>False) w w'):VlW w0 w' p v R boot c:=by
 obtain ⟨M,h⟩:=h;exact ⟨M,h.still hu⟩
theorem VlF.upd (h:VlF w0 w p v R boot c M):Upd (fun _=>False) w0 w:=by obtain ⟨_,_,_,_,h,_⟩:=h;exact h.upd
theorem VlW.upd (h:VlW w0 w p v R boot c):Upd (fun _=>False) w0 w:=by obtain ⟨_,h⟩:=h;exact h.upd
theorem VlF.vtz (h:VlF w0 w p v R boot c M) {q:Nat} (hq:M q):VtZ w q:=by
 obtain ⟨_,_,_,_,h,_,_,e⟩:=h;exact h.at_.vtz ((e q).1 hq)
theorem VlX.step {d':Dk} {V':VtM} {o':VtO} {S0':List PairM} {c':Nat} (h:VlX w0 w p v d V o S0 c) (hm:∀q,M q↔o.mut v q) (ha:VtAt w' p v d' V' o') (hs:VtStep w w' v o o') (hg:VtG d' V' S0' c'):VlX w0 w' p v d' V' o' S0' c'∧Stp w w' M (o'.mut v):=by
 refine ⟨⟨ha,hg,fun q hq=>?_,h.upd.then hs.upd (fun q e=>.inr (h.low q e))⟩,hs.upd.mono (fun q e=>.inl ((hm q).2 e)),fun q hq=>(hs.sub q hq).imp (hm q).2 id⟩;rcases hs.sub q hq with e | e
 ·exact h.low q e
 ·have:=h.upd.size
  omega
theorem VlO.still (h:VlO w p v R boot) (hu:Upd (fun _=>False) w w'):VlO w' p v R boot:=by
 obtain ⟨⟨d,V,o,h1,h2⟩,h3,h4,h5,h6⟩:=h;exact ⟨⟨d,V,o,h1.still hu,h2⟩,h3,h4,h5,h6⟩
theorem VlX.old (h:VlX w0 w p v d V o S0 c) (hR:V.abs=R) (hb:V.st.boot=boot) (hc:c<99000:=by assumption):VlO w p v R boot:=by
 subst hR hb;have he:=replL_each h.g.rep;have hbt:=h.g.vdk.boots;exact ⟨⟨d,V,o,h.at_,rfl,rfl⟩,h.g.vdk.right,by have h1:=h.g.vdk.many;show V.rows.length≤1000;omega,fun b hb=>by obtain ⟨-,-,-,h4,-⟩:=batErr_zero (he b hb);omega,oM⟩
theorem VlF.old (h:VlF w0 w p v R boot c M) (hc:c<99000):VlO w p v R boot:=by
 obtain ⟨d,V,o,S0,h,h1,h2,-⟩:=h;exact h.old h1 h2 hc
theorem VlO.place (h:VlO w p v R boot):Calls Tryz.prog 12 #[.pointer (some ⟨v,0,none⟩)] w fun e w'=>e=.returned (.tuple #[.int .i64 R.at_,.int .i64 R.epoch])∧Upd (fun _=>False) w w':=by
 obtain ⟨⟨d,V,o,h,rfl,hbt⟩,hr,hmany,hfew,-⟩:=h;refine (vwhere_c h).mono ?_;rintro e w' ⟨rfl,hu⟩;exact ⟨rfl,hu⟩
theorem VlO.boot_ (h:VlO w p v R boot):Calls Tryz.prog 13 #[.pointer (some ⟨v,0,none⟩)] w fun e w'=>e=.returned (.int .i64 (boot:Int))∧w=w':=by
 obtain ⟨⟨d,V,o,h,rfl,rfl⟩,-,-,-,hlow⟩:=h;exact vboot_c h oM
theorem VlO.map_ (h:VlO w p v R boot):Calls Tryz.prog 18 #[.pointer (some ⟨v,0,none⟩)] w fun e w'=>∃m mb,e=.returned (.pointer (some ⟨m,0,none⟩))∧MapAt w' m mb R.S∧w.heap.size≤m∧w.heap.size≤mb∧Upd (fun _=>False) w w':=by
 obtain ⟨⟨d,V,o,h,rfl,hbt⟩,hr,hmany,hfew,-⟩:=h;refine (vmap_c h).mono ?_;rintro e w' ⟨m,mb,rfl,hm,h1,h2,hu⟩;exact ⟨m,mb,rfl,hm,h1,h2,hu⟩
theorem VlF.commit (h:VlF w0 w p v R boot c M) (hc:c<99000) (b:BatM) {ty:TypeId} {ov:Value} (hov:TRow w ty 3 ov (b.ops.map opRow)) (hfar:(ty ∉ vtTypes∧ty≠anyT)∨∀q,ov.ownBlock=some q→q<w0.heap.size) (hbs:OpsSmall b.ops) (hbe:b.epoch≤9223372036854775807) :
 Calls Tryz.prog 15 #[.pointer (some ⟨v,0,none⟩),.agg #[.int .i64 b.index,.int .i64 b.epoch,ov]] w fun e w'=>e=.returned (.int .i64 (commitR R b).2)∧(∃M',VlF w0 w' p v (commitR R b).1 boot (c+3) M'∧Stp w w' M M'):=by
 obtain ⟨d,V,o,S0,h,rfl,hbt,hm⟩:=h;have hg:=h.g.vdk.good;refine (vcommit_c h.at_ (h.g.stok hc) (h.g.putfit hc) (oN h.g.num) (by rw [hg.pend];omega) hg.len (oN h.g.vdk.logs) (h.g.vdk.lgfit oM) h.g.vdk.many h.g.place b hov (fun W hu=>hfar.elim (fun e=>hov.upd hu (fun q ht=>h.at_.not_mut ht e.1) e.2) (fun e=>hov.low e hu h.low)) hbs hbe).mono ?_;rintro e w' ⟨rfl,o',h1,h2⟩;obtain ⟨D,V',S0',q1,q2,q3,q4⟩:=h.g.commit hc b hbe;rw [q1] at h1 ⊢;obtain ⟨a1,a2⟩:=h.step hm h1 h2 q2;exact ⟨rfl,_,⟨D,V',o',S0',a1,q3,q4.trans hbt,fun _=>Iff.rfl⟩,a2⟩
theorem zz24 {P:Prop} (h:P:=by
 rw [q1] at h1 ⊢;obtain ⟨a1,a2⟩:=h.step hm h1 h2 (S0':=S0) (c':=c+3) { q2 with vdk:=q2.vdk.mono oM,num:=by have h1:=q2.num;show V'.n≤c+3;omega };exact ⟨rfl,_,⟨D,V',o',S0,a1,q3,q4.trans hbt,fun _=>Iff.rfl⟩,a2⟩):P:=h
theorem VlF.set_ (h:VlF w0 w p v R boot c M) (hc:c<99000) (m:MetaM) {ty:TypeId} {mv:Value} (hmv:TRow w ty 2 mv (m.mounts.map mtRow)) (hmn:m.seen≤9223372036854775807∧m.grant≤9223372036854775807) (hml:∀x ∈ m.mounts,x.name.length≤1000000) :
 Calls Tryz.prog 24 #[.pointer (some ⟨v,0,none⟩),.agg (metaRow m mv)] w fun e w'=>e=.returned (.int .i64 (setR R m).2)∧(∃M',VlF w0 w' p v (setR R m).1 boot (c+3) M'∧Stp w w' M M'):=by
 obtain ⟨d,V,o,S0,h,rfl,hbt,hm⟩:=h;refine (vset_c h.at_ (h.g.stok hc) (h.g.putfit hc) m hmv hmn hml).mono ?_;rintro e w' ⟨rfl,o',h1,h2⟩;obtain ⟨D,V',q1,q2,q3,q4⟩:=h.g.set_ hc m hmn;exact zz24
theorem VlF.install (h:VlF w0 w p v R boot c M) (hc:c<99000) (m:MetaM) {ty:TypeId} {mv:Value} (hmv:TRow w ty 2 mv (m.mounts.map mtRow)) (hmn:m.seen≤9223372036854775807∧m.grant≤9223372036854775807) (hml:∀x ∈ m.mounts,x.name.length≤1000000)
 (l:List PairM) {tl:TypeId} {lv:Value} (hlv:TRow w tl 2 lv (l.map pairRow)) (hls:∀p ∈ l,p.1.length≤1000000∧p.2.length≤1000000) (at_ ep:Int) (hep:ep≤9223372036854775807) :
 Calls Tryz.prog 21 #[.pointer (some ⟨v,0,none⟩),.agg (metaRow m mv),lv,.int .i64 at_,.int .i64 ep] w fun e w'=>e=.returned (.int .i64 (installR R m l at_ ep).2)∧(∃M',VlF w0 w' p v (installR R m l at_ ep).1 boot (c+3) M'∧Stp w w' M M'):=by
 obtain ⟨d,V,o,S0,h,rfl,hbt,hm⟩:=h;have hg:=h.g.vdk.good;refine (vinstall_c h.at_ (h.g.stok hc) (h.g.putfit hc) (oN h.g.num) (by rw [hg.pend];omega) hg.len (oN h.g.vdk.logs) m hmv hmn hml l hlv hls at_ ep hep).mono ?_;rintro e w' ⟨rfl,o',h1,h2⟩;obtain ⟨D,V',S0',q1,q2,q3,q4⟩:=h.g.install hc m hmn l at_ ep hep;rw [q1] at h1 ⊢;obtain ⟨a1,a2⟩:=h.step hm h1 h2 (S0':=S0') (c':=c+3) { q2 with vdk:=q2.vdk.mono oM,num:=by have h1:=q2.num;show V'.n≤c+3;omega };exact ⟨rfl,_,⟨D,V',o',S0',a1,q3,q4.trans hbt,fun _=>Iff.rfl⟩,a2⟩
theorem VlF.rotate (h:VlF w0 w p v R boot c M) (hc:c<99000) :
 Calls Tryz.prog 34 #[.pointer (some ⟨v,0,none⟩)] w fun e w'=>e=.returned (.int .i64 (rotateR R).2)∧(∃M',VlF w0 w' p v (rotateR R).1 boot (c+3) M'∧Stp w w' M M'):=by
 obtain ⟨d,V,o,S0,h,rfl,hbt,hm⟩:=h;refine (vrotate_c h.at_ (h.g.stok hc) (h.g.putfit hc) (oN h.g.vdk.keys) (by rw [h.g.cur];have:=h.g.vdk.keys;omega)).mono ?_;rintro e w' ⟨rfl,o',h1,h2⟩;obtain ⟨D,V',q1,q2,q3,q4⟩:=h.g.rotate hc;exact zz24
theorem VlF.open_ (h:VlF w0 w p v R boot c M) (hc:c<99000):Calls Tryz.prog 16 #[.pointer (some ⟨p,0,none⟩),.string (str masterL)] w fun e w'=>∃v',e=.returned (.tuple #[.pointer (some ⟨v',0,none⟩),.int .i64 0])∧(∃M',VlF w0 w' p v' R (boot+1) (c+1) M'∧Stp w w' M M')∧VlO w' p v R boot:=by
 obtain ⟨d,V,o,S0,h,rfl,rfl,hm⟩:=h;refine (vopen_c h.at_.disk (h.g.free.opens_ hc h.g.vdk.good.off)).mono ?_;intro e w' hO;obtain ⟨D,V',q1,q2,q3,q4⟩:=VDk.opens h.g hc;rw [q1] at hO;obtain ⟨v',o',rfl,hL⟩:=hO.yes rfl;have hlow:∀q ∈ o.F,w0.heap.size≤q:=fun q hq=>h.low q (.inr (.inl hq))
 have hmF:∀q ∈ o.F,M q:=fun q hq=>(hm q).2 (.inr (.inl hq))
 have hL2:Left w w' p D o.F o'.F:=⟨hL.at_.disk,hL.upd,fun q hq=>hL.sub q (.inr (.inl hq))⟩;have hold:VlO w' p v V.abs V.st.boot := { h.old rfl rfl with ex:=⟨_,_,_,(h.at_.disk_ hL2).1,rfl,rfl⟩ };refine ⟨v',rfl,⟨_,⟨D,V',o',S0,⟨hL.at_,q2,fun q hq=>?_,h.upd.then hL.upd (fun q hq=>.inr (hlow q hq))⟩,q3,q4,fun _=>Iff.rfl⟩,hL.upd.mono (fun q hq=>.inl (hmF q hq)),fun q hq=>(hL.sub q hq).imp (hmF q) id⟩,hold⟩;rcases hL.sub q hq with e | e
 ·exact hlow q e
 ·have:=h.upd.size
  omega
theorem VlW.commit (h:VlW w0 w p v R boot c) (hc:c<99000) (b:BatM) {ty:TypeId} {ov:Value} (hov:TRow w ty 3 ov (b.ops.map opRow)) (hfar:(ty ∉ vtTypes∧ty≠anyT)∨∀q,ov.ownBlock=some q→q<w0.heap.size) (hbs:OpsSmall b.ops) (hbe:b.epoch≤9223372036854775807) :
 Calls Tryz.prog 15 #[.pointer (some ⟨v,0,none⟩),.agg #[.int .i64 b.index,.int .i64 b.epoch,ov]] w fun e w'=>e=.returned (.int .i64 (commitR R b).2)∧VlW w0 w' p v (commitR R b).1 boot (c+3)∧Upd (VtZ w) w w':=by
 obtain ⟨M,h⟩:=h;exact (h.commit hc b hov hfar hbs hbe).mono fun _ _ ⟨a,M',b,s⟩=>⟨a,⟨M',b⟩,s.upd.mono (fun _ e=>.inl (h.vtz e))⟩
theorem VlW.place (h:VlW w0 w p v R boot c) (hc:c<99000:=by omega):Calls Tryz.prog 12 #[.pointer (some ⟨v,0,none⟩)] w fun e w'=>e=.returned (.tuple #[.int .i64 R.at_,.int .i64 R.epoch])∧VlW w0 w' p v R boot c∧Upd (fun _=>False) w w':=by
 obtain ⟨M,h⟩:=h;have h2:VlW w0 w p v R boot c:=⟨M,h⟩;exact ((h.old hc).place).mono fun _ _ ⟨a,u⟩=>⟨a,h2.still u,u⟩
theorem VlW.boot_ (h:VlW w0 w p v R boot c) (hc:c<99000):Calls Tryz.prog 13 #[.pointer (some ⟨v,0,none⟩)] w fun e w'=>e=.returned (.int .i64 (boot:Int))∧w=w':=by
 obtain ⟨M,h⟩:=h;exact (h.old hc).boot_
theorem VlW.map_ (h:VlW w0 w p v R boot c) (hc:c<99000:=by omega):Calls Tryz.prog 18 #[.pointer (some ⟨v,0,none⟩)] w fun e w'=>∃m mb,e=.returned (.pointer (some ⟨m,0,none⟩))∧MapAt w' m mb R.S∧w.heap.size≤m∧w.heap.size≤mb∧VlW w0 w' p v R boot c∧Upd (fun _=>False) w w':=by
 obtain ⟨M,h⟩:=h;have h2:VlW w0 w p v R boot c:=⟨M,h⟩;exact ((h.old hc).map_).mono fun _ _ ⟨x,y,a,b,c1,c2,u⟩=>⟨x,y,a,b,c1,c2,h2.still u,u⟩
theorem VlW.open_ (h:VlW w0 w p v R boot c) (hc:c<99000):Calls Tryz.prog 16 #[.pointer (some ⟨p,0,none⟩),.string (str masterL)] w fun e w'=>∃v',e=.returned (.tuple #[.pointer (some ⟨v',0,none⟩),.int .i64 0])∧VlW w0 w' p v' R (boot+1) (c+1)∧Upd (VtZ w) w w':=by
 obtain ⟨M,h⟩:=h;exact (h.open_ hc).mono fun _ _ ⟨v',a,⟨M',b,s⟩,_⟩=>⟨v',a,⟨M',b⟩,s.upd.mono (fun _ e=>.inl (h.vtz e))⟩
end
def R0:RvM:=⟨metaM0,[],0,0,[],0,0⟩
theorem open_first {w:World} {p:Nat} {F:List Nat} {w0:World} (hD:DiskAt w p (Dk.fresh 500) F) (hF:∀q ∈ F,w0.heap.size≤q) (hu:Upd (fun _=>False) w0 w):Calls Tryz.prog 16 #[.pointer (some ⟨p,0,none⟩),.string (str masterL)] w fun e w'=>∃v',e=.returned (.tuple #[.pointer (some ⟨v',0,none⟩),.int .i64 0])∧VlW w0 w' p v' R0 1 1∧Upd (VtZ w) w w':=by
 refine (vopen_c hD opens_first).mono ?_;intro e w' hO;obtain ⟨D,V',q1,q2,q3,q4⟩:=VDk.first;rw [q1] at hO;obtain ⟨v',o',rfl,hL⟩:=hO.yes rfl;refine ⟨v',rfl,⟨_,D,V',o',[],⟨hL.at_,q2,fun q hq=>?_,hu.then hL.upd (fun q hq=>.inr (hF q hq))⟩,q3,q4,fun _=>Iff.rfl⟩,hL.upd.mono (fun q hq=>.inl (hD.vtz hq))⟩;rcases hL.sub q hq with e | e
 ·exact hF q e
 ·have:=hu.size
  omega
theorem fresh_17 (w:World):Calls Tryz.prog 11 #[] w fun e w'=>∃p v,e=.returned (.tuple #[.pointer (some ⟨p,0,none⟩),.pointer (some ⟨v,0,none⟩),.bool true])∧VlW w w' p v R0 1 1:=by
 have HN:=Lib.hid (New_c 500 w oM oM);go_enter Tryz.func11,Tryz.ntmps11
 go_upto_region 4 with (first
  | (go_at_call 25;refine HN.out.mono ?_;rintro e w1 ⟨p,F,rfl,hD,hU,hF⟩
     have H1:=Lib.hid (open_first hD hF hU);clear hD hU hF))
 go_wp2_with (first
  | (go_at_call 16;refine H1.out.mono ?_;rintro e w2 ⟨v,rfl,hV,-⟩;have H2:=Lib.hid hV;clear hV))
 go_ret3
 exact ⟨p,v,rfl,H2.out⟩
def batAt (x:ActM) (a e:Int):BatM:=if x.do_=0 then x.b else ⟨IntKind.i64.wrap (a+1),max x.b.epoch e,x.b.ops⟩
structure PlaysOn (w0:World) (p:Nat) (l:List ActM) (I:Nat→World→Nat→Int→Int→Prop):Prop where
 upd:∀ {k w v a e},I k w v a e→Upd (fun _=>False) w0 w
 still:∀ {k w w' v a e},I k w v a e→Upd (fun _=>False) w w'→I k w' v a e
 place:∀ {k w v a e},I k w v a e→Calls Tryz.prog 12 #[.pointer (some ⟨v,0,none⟩)] w fun r w'=>r=.returned (.tuple #[.int .i64 a,.int .i64 e])∧Upd (fun _=>False) w w'
 commit:∀ {k w v a e x},I k w v a e→l[k]? = some x→x.do_=0∨x.do_=1→Calls Tryz.prog 15 #[.pointer (some ⟨v,0,none⟩),.agg #[.int .i64 (batAt x a e).index,.int .i64 (batAt x a e).epoch,x.ov]] w fun r w'=>∃n a' e',r=.returned (.int .i64 n)∧I (k+1) w' v a' e'
 set_:∀ {k w v a e x},I k w v a e→l[k]? = some x→x.do_=2→Calls Tryz.prog 24 #[.pointer (some ⟨v,0,none⟩),.agg (metaRow x.m x.mv)] w fun r w'=>∃n a' e',r=.returned (.int .i64 n)∧I (k+1) w' v a' e'
 install:∀ {k w v a e x},I k w v a e→l[k]? = some x→x.do_=3→Calls Tryz.prog 21 #[.pointer (some ⟨v,0,none⟩),.agg (metaRow x.m x.mv),x.lv,.int .i64 x.at_,.int .i64 x.ep] w fun r w'=>∃n a' e',r=.returned (.int .i64 n)∧I (k+1) w' v a' e'
 rotate:∀ {k w v a e x},I k w v a e→l[k]? = some x→x.do_=4→Calls Tryz.prog 34 #[.pointer (some ⟨v,0,none⟩)] w fun r w'=>∃n a' e',r=.returned (.int .i64 n)∧I (k+1) w' v a' e'
 open_:∀ {k w v a e x},I k w v a e→l[k]? = some x→x.do_=5→Calls Tryz.prog 16 #[.pointer (some ⟨p,0,none⟩),.string (str masterL)] w fun r w'=>∃u a' e',r=.returned (.tuple #[.pointer (some ⟨u,0,none⟩),.int .i64 0])∧I (k+1) w' u a' e'
 none_:∀ {k w v a e x},I k w v a e→l[k]? = some x→5<x.do_→I (k+1) w v a e
def actCells (x:ActM) (S:ByteArray):Array Value:=#[.int .u8 (x.do_.toNat:Int),.int .i64 x.b.index,.int .i64 x.b.epoch,x.ov,.int .i64 x.m.role,.int .i64 x.m.seen,.int .i64 x.m.grant,x.mv,.string S,x.lv,.int .i64 x.at_,.int .i64 x.ep]
theorem RIn.one {w:World} {k:Nat} {v:Value} {cs:List (List Value)} (h:RIn w k v cs):v.oneCell'=true:=by
 obtain ⟨A,cap,rfl,-⟩:=h;rfl
theorem act_one {x:ActM} {S:ByteArray} (h1:x.ov.oneCell'=true) (h2:x.mv.oneCell'=true) (h3:x.lv.oneCell'=true):(actCells x S).all (·.oneCell')=true:=by
 simp only [actCells,List.all_toArray,List.all_cons,List.all_nil,h1,h2,h3,Bool.and_true];rfl
theorem zz14 {P:Prop} (h:P:=by
 go_roundw
 case rel=>exact ⟨k+1,u,a2,e2,oM,sM,rfl,HY.out⟩
 case measure=>simp [intOf]<;>omega):P:=h
theorem plays_c {w0 w:World} {p v:Nat} {l:List ActM} {lv:Value} {I:Nat→World→Nat→Int→Int→Prop} {a e:Int} (hP:PlaysOn w0 p l I) (hA:IsActs17 w0 lv l) (hI:I 0 w v a e) :
 Calls Tryz.prog 31 #[.pointer (some ⟨p,0,none⟩),.pointer (some ⟨v,0,none⟩),lv] w fun r w'=>∃u a' e',r=.returned (.pointer (some ⟨u,0,none⟩))∧I l.length w' u a' e':=by
 obtain ⟨A,cap,bA,off,rfl,hcap,hm,hA0,hcells⟩:=hA.rows.open_still;rw [List.length_map] at hm hA0 hcap ⊢;have HR:=Lib.hid hcells;have HE:=Lib.hid hA.each;have HP:=Lib.hid hP;have HI:=Lib.hid hI;clear hcells hA hP hI;go_enter Tryz.func31,Tryz.ntmps31
 go_wp2_with fail
 go_loopw [1,7] (fun u i wr=>∃(k v:Nat) (a e:Int),k≤l.length∧i=.int .i64 k∧u=.pointer (some ⟨v,0,none⟩)∧I k wr v a e) (fun _ i _=>l.length - (intOf i).toNat)
 case atStart=>exact ⟨0,v,a,e,oM,rfl,rfl,HI.out⟩
 case round =>
  obtain ⟨k,u,pa,pe,hk,rfl,rfl,hI⟩:=hrel;have HJ:=Lib.hid hI;clear hI;by_cases hlt:k<l.length
  ·obtain rfl:=hA0 oM
   obtain ⟨x,hx⟩:∃x,l[k]? = some x:=⟨_,List.getElem?_eq_getElem hlt⟩;obtain ⟨S,hS⟩:=eqx (str x.m.secret);obtain ⟨D,hD⟩:∃D:Int,(x.do_.toNat:Int)=D:=⟨_,rfl⟩;have hrow:wr.rangeAt bA (off+k*12) [.int .u8 D,.int .i64 x.b.index,.int .i64 x.b.epoch,x.ov,.int .i64 x.m.role,.int .i64 x.m.seen,.int .i64 x.m.grant,x.mv,.string S,x.lv,.int .i64 x.at_,.int .i64 x.ep]:=by
    have:=HR.out wr (HP.out.upd HJ.out) k x.row (by rw [List.getElem?_map,hx];rfl)
    unfold ActM.row at this;rw [hS,hD] at this;exact this
   have hin:=HE.out x (List.mem_of_getElem? hx);have hone:=act_one (S:=S) hin.bat.ops.rows.one hin.met.rows.one hin.prs.rows.one;unfold actCells at hone;rw [hD] at hone;obtain ⟨oA,ocap,hov,-⟩:=hin.bat.ops.rows;obtain ⟨on,hon⟩:∃n,(x.b.ops.map opRow).length=n:=⟨_,rfl⟩;rw [hon] at hov;rw [hov] at hrow hone;obtain ⟨q,hq⟩:=eqx wr.heap.size;have hmeta:metaRow x.m x.mv=#[.int .i64 x.m.role,.int .i64 x.m.seen,.int .i64 x.m.grant,x.mv,.string S]:=by rw [← hS];rfl
   have HRW:=Lib.hid hrow;have HX:=h7k hx hone hq hD hlt hmeta hov;have j1:(k:Int)<(l.length:Int):=oM;have hwk:IntKind.i64.wrap ((k:Int)+1)=(k:Int)+1:=IntWalk.i64_in _ oM;clear hrow hin hone hq hx hS hD hmeta hov hon;go_upto_region 5 with (first
    | (refine wpList_load_mid rfl _ _ rfl bA (off+k*12) rfl [.int .u8 D,.int .i64 x.b.index,.int .i64 x.b.epoch,.slice oA on ocap,.int .i64 x.m.role,.int .i64 x.m.seen,.int .i64 x.m.grant,x.mv,.string S,x.lv,.int .i64 x.at_,.int .i64 x.ep] _ HRW.out Tryz.underlying65 rfl kR ?_)
    | (refine wsl 65 wr.heap.size #[.int .u8 D,.int .i64 x.b.index,.int .i64 x.b.epoch,.slice oA on ocap,.int .i64 x.m.role,.int .i64 x.m.seen,.int .i64 x.m.grant,x.mv,.string S,x.lv,.int .i64 x.at_,.int .i64 x.ep] (Blk.new wr _ _) HX.out.2.1 ?_
       intro w2 hB2 hU2 hz2))
   rw [HX.out.2.2.1] at hB2 hU2 ⊢;have hU12:Upd (fun _=>False) wr w2:=((Upd.refl _ wr).alloc _).then hU2 (fun b e=>.inr (by have e2:b=q:=e;have:=HX.out.2.2.1;omega));have HPL:=Lib.hid (HP.out.place (HP.out.still HJ.out hU12));have H2:=h2k hB2 (HP.out.still HJ.out hU12);clear hB2 hU2 hU12 hz2;go_upto_region 6 with (first
    | (go_at_call 12;refine HPL.out.mono ?_;rintro r w3 ⟨rfl,hU3⟩
       have hB3:=H2.out.1.upd hU3 (fun e=>e);have H3:=h2k hB3 (HP.out.still H2.out.2 hU3);clear hU3 hB3))
   have c0:w3.cell? ⟨q,0,none⟩=some (.int .u8 D):=H3.out.1.cell 0;have c1:w3.cell? ⟨q,1,none⟩=some (.int .i64 x.b.index):=H3.out.1.cell 1;have c2:w3.cell? ⟨q,2,none⟩=some (.int .i64 x.b.epoch):=H3.out.1.cell 2;have c3:w3.cell? ⟨q,3,none⟩=some (.slice oA on ocap):=H3.out.1.cell 3;have c4:w3.cell? ⟨q,4,none⟩=some (.int .i64 x.m.role):=H3.out.1.cell 4;have c5:w3.cell? ⟨q,5,none⟩=some (.int .i64 x.m.seen):=H3.out.1.cell 5;have c6:w3.cell? ⟨q,6,none⟩=some (.int .i64 x.m.grant):=H3.out.1.cell 6;have c7:w3.cell? ⟨q,7,none⟩=some x.mv:=H3.out.1.cell 7;have c8:w3.cell? ⟨q,8,none⟩=some (.string S):=H3.out.1.cell 8;have c9:w3.cell? ⟨q,9,none⟩=some x.lv:=H3.out.1.cell 9;have c10:w3.cell? ⟨q,10,none⟩=some (.int .i64 x.at_):=H3.out.1.cell 10;have c11:w3.cell? ⟨q,11,none⟩=some (.int .i64 x.ep):=H3.out.1.cell 11;have hd8:x.do_=0∨x.do_=1∨x.do_=2∨x.do_=3∨x.do_=4∨x.do_=5∨5<x.do_:=by
    rcases Nat.lt_or_ge 5 x.do_.toNat with h | h
    ·exact .inr (.inr (.inr (.inr (.inr (.inr (by rw [UInt8.lt_iff_toNat_lt];exact h))))))
    ·have hz:∀n:Nat,n≤5→x.do_.toNat=n→x.do_=UInt8.ofNat n:=fun n hn e=>UInt8.toNat_inj.1 (by rw [e,UInt8.toNat_ofNat'];omega)
     rcases (show x.do_.toNat=0∨x.do_.toNat=1∨x.do_.toNat=2∨x.do_.toNat=3∨x.do_.toNat=4∨x.do_.toNat=5 by omega) with e | e | e | e | e | e
     ·exact .inl (hz 0 oM e)
     ·exact .inr (.inl (hz 1 oM e))
     ·exact .inr (.inr (.inl (hz 2 oM e)))
     ·exact .inr (.inr (.inr (.inl (hz 3 oM e))))
     ·exact .inr (.inr (.inr (.inr (.inl (hz 4 oM e)))))
     ·exact .inr (.inr (.inr (.inr (.inr (.inl (hz 5 oM e))))))
   rcases hd8 with hd | hd | hd | hd | hd | hd | hd
   ·obtain rfl:D=0:=by rw [← HX.out.2.2.2.1,hd];rfl
    have HC:=HP.out.commit H3.out.2 HX.out.1 (.inl hd);rw [HX.out.2.2.2.2.2.2] at HC;rw [show batAt x pa pe=x.b by unfold batAt;rw [if_pos hd]] at HC;have HC:=Lib.hid HC;clear hd;go_wp2_with (first
     | (go_at_call 15;refine HC.out.mono ?_;rintro r w4 ⟨n2,a2,e2,rfl,hI⟩
        have HY:=Lib.hid hI;clear hI))
    exact zz14
   ·obtain rfl:D=1:=by rw [← HX.out.2.2.2.1,hd];rfl
    have HC:=HP.out.commit H3.out.2 HX.out.1 (.inr hd);rw [HX.out.2.2.2.2.2.2] at HC;rw [show batAt x pa pe=⟨IntKind.i64.wrap (pa+1),max x.b.epoch pe,x.b.ops⟩ by unfold batAt;rw [if_neg (by rw [hd];decide)]] at HC
    have hmax:∀W,(Builtin.max_ #[3,3] 3 #[.int .i64 x.b.epoch,.int .i64 pe]).run Tryz.prog W=.ok (.int .i64 (max x.b.epoch pe)) W:=fun W=>Lib.run_max_ints W _ _ _ _ _ _
    obtain ⟨mx,hmx⟩:∃m,max x.b.epoch pe=m:=⟨_,rfl⟩;obtain ⟨ix,hix⟩:∃m,IntKind.i64.wrap (pa+1)=m:=⟨_,rfl⟩;rw [hmx] at hmax;rw [hmx,hix] at HC;have HC:=Lib.hid HC;clear hd;go_wp2_with (first
     | (go_at_call 15;refine HC.out.mono ?_;rintro r w4 ⟨n2,a2,e2,rfl,hI⟩
        have HY:=Lib.hid hI;clear hI))
    exact zz14
   ·obtain rfl:D=2:=by rw [← HX.out.2.2.2.1,hd];rfl
    have HC:=HP.out.set_ H3.out.2 HX.out.1 hd;rw [HX.out.2.2.2.2.2.1] at HC;have HC:=Lib.hid HC;clear hd;go_wp2_with (first
     | (go_at_call 24;refine HC.out.mono ?_;rintro r w4 ⟨n2,a2,e2,rfl,hI⟩
        have HY:=Lib.hid hI;clear hI))
    exact zz14
   ·obtain rfl:D=3:=by rw [← HX.out.2.2.2.1,hd];rfl
    have HC:=HP.out.install H3.out.2 HX.out.1 hd;rw [HX.out.2.2.2.2.2.1] at HC;have HC:=Lib.hid HC;clear hd;go_wp2_with (first
     | (go_at_call 21;refine HC.out.mono ?_;rintro r w4 ⟨n2,a2,e2,rfl,hI⟩
        have HY:=Lib.hid hI;clear hI))
    exact zz14
   ·obtain rfl:D=4:=by rw [← HX.out.2.2.2.1,hd];rfl
    have HC:=HP.out.rotate H3.out.2 HX.out.1 hd;have HC:=Lib.hid HC;clear hd;go_wp2_with (first
     | (go_at_call 34;refine HC.out.mono ?_;rintro r w4 ⟨n2,a2,e2,rfl,hI⟩
        have HY:=Lib.hid hI;clear hI))
    exact zz14
   ·obtain rfl:D=5:=by rw [← HX.out.2.2.2.1,hd];rfl
    have HC:=HP.out.open_ H3.out.2 HX.out.1 hd;have HC:=Lib.hid HC;clear hd;go_wp2_with (first
     | (go_at_call 16;refine HC.out.mono ?_;rintro r w4 ⟨u2,a2,e2,rfl,hI⟩
        have HY:=Lib.hid hI;clear hI))
    go_roundw
    case rel=>exact ⟨k+1,u2,a2,e2,oM,sM,rfl,HY.out⟩
    case measure=>simp [intOf]<;>omega
   ·have hD5:5<D:=by rw [← HX.out.2.2.2.1];have:=UInt8.lt_iff_toNat_lt.1 hd;exact_mod_cast this
    have e0:(D == (0:Int))=false:=by rw [beq_eq_false_iff_ne];omega
    have e1:(D == (1:Int))=false:=by rw [beq_eq_false_iff_ne];omega
    have e2:(D == (2:Int))=false:=by rw [beq_eq_false_iff_ne];omega
    have e3:(D == (3:Int))=false:=by rw [beq_eq_false_iff_ne];omega
    have e4:(D == (4:Int))=false:=by rw [beq_eq_false_iff_ne];omega
    have e5:(D == (5:Int))=false:=by rw [beq_eq_false_iff_ne];omega
    have HY:=Lib.hid (HP.out.none_ H3.out.2 HX.out.1 hd);clear hd;go_wp2_with fail
    go_roundw
    case rel=>exact ⟨k+1,u,pa,pe,oM,sM,rfl,HY.out⟩
    case measure=>simp [intOf]<;>omega
  ·have j1:¬((k:Int)<(l.length:Int)):=oM
   go_wp2_with fail
   go_ret
   obtain rfl:k=l.length:=oM;exact ⟨u,rfl,pa,pe,HJ.out⟩
def playR (R:RvM) (x:ActM):RvM :=
 if x.do_=0∨x.do_=1 then (commitR R (batAt x R.at_ R.epoch)).1 else if x.do_=2 then (setR R x.m).1 else if x.do_=3 then (installR R x.m x.l x.at_ x.ep).1 else if x.do_=4 then (rotateR R).1 else R
def playsR (R:RvM) (l:List ActM):RvM:=l.foldl playR R
theorem playsR_step {R:RvM} {l:List ActM} {k:Nat} {x:ActM} (h:l[k]? = some x):playsR R (l.take (k+1))=playR (playsR R (l.take k)) x:=by
 unfold playsR;rw [List.take_add_one,h,List.foldl_append];rfl
section
variable {w0 w w':World} {p v:Nat} {R:RvM} {boot c:Nat} {M:Nat→Prop}
theorem VlF.place_ok (h:VlF w0 w p v R boot c M):PlaceIs R.at_ R.epoch:=by
 obtain ⟨d,V,o,S0,h,rfl,-⟩:=h;exact h.g.place
theorem VlF.mono (h:VlF w0 w p v R boot c M) {c':Nat} (hc:c≤c'):VlF w0 w p v R boot c' M:=by
 obtain ⟨d,V,o,S0,h,e⟩:=h;exact ⟨d,V,o,S0,⟨h.at_,{ h.g with vdk:=h.g.vdk.mono hc,num:=Nat.le_trans h.g.num hc },h.low,h.upd⟩,e⟩
theorem VlF.commit_in (h:VlF w0 w p v R boot c M) (hc:c<99000) (b:BatM) {ov:Value} (hO:OpsIn w0 ov b.ops) (hf:OpsFew b.ops) (hbe:b.epoch≤9223372036854775807) :
 Calls Tryz.prog 15 #[.pointer (some ⟨v,0,none⟩),.agg #[.int .i64 b.index,.int .i64 b.epoch,ov]] w fun e w'=>e=.returned (.int .i64 (commitR R b).2)∧(∃M',VlF w0 w' p v (commitR R b).1 boot (c+3) M'∧Stp w w' M M'):=by
 have hs:OpsSmall b.ops:=fun o ho=>by have:=hf.2 o ho;omega
 by_cases h0:b.ops.length=0
 ·have hT:TRow w 32 3 ov (b.ops.map opRow):=by
   obtain ⟨A,cap,h1,h2,h3,-⟩:=hO.rows;exact ⟨A,cap,h1,h2,by rw [List.length_map,h0];omega,fun h=>by rw [List.length_map] at h;omega⟩
  exact h.commit hc b hT (.inl dC) hs hbe
 ·exact h.commit hc b ((hO.rows.still h.upd).row (by rw [List.length_map];have:=hf.1;omega)) (.inr (hO.rows.lt (by rw [List.length_map];omega))) hs hbe
theorem VlF.set_in (h:VlF w0 w p v R boot c M) (hc:c<99000) {m:MetaM} {mv:Value} (hM:MetaIn w0 mv m) (hf:MetaFew m) :
 Calls Tryz.prog 24 #[.pointer (some ⟨v,0,none⟩),.agg (metaRow m mv)] w fun e w'=>e=.returned (.int .i64 (setR R m).2)∧(∃M',VlF w0 w' p v (setR R m).1 boot (c+3) M'∧Stp w w' M M') :=
 h.set_ hc m ((hM.rows.still h.upd).row (by rw [List.length_map];have:=hf.1;omega)) ⟨hM.seen.2,hM.grant.2⟩ (fun x hx=>by have:=hf.2.2 x hx;omega)
theorem VlF.install_in (h:VlF w0 w p v R boot c M) (hc:c<99000) {m:MetaM} {mv:Value} (hM:MetaIn w0 mv m) (hf:MetaFew m) {l:List PairM} {lv:Value} (hL:PrsIn w0 lv l) (hfl:PrsFew l) (at_ ep:Int) (hep:ep≤9223372036854775807) :
 Calls Tryz.prog 21 #[.pointer (some ⟨v,0,none⟩),.agg (metaRow m mv),lv,.int .i64 at_,.int .i64 ep] w fun e w'=>e=.returned (.int .i64 (installR R m l at_ ep).2)∧(∃M',VlF w0 w' p v (installR R m l at_ ep).1 boot (c+3) M'∧Stp w w' M M') :=
 h.install hc m ((hM.rows.still h.upd).row (by rw [List.length_map];have:=hf.1;omega)) ⟨hM.seen.2,hM.grant.2⟩ (fun x hx=>by have:=hf.2.2 x hx;omega) l ((hL.rows.still h.upd).row (by rw [List.length_map];have:=hfl.1;omega)) (fun p hp=>by have:=hfl.2 p hp;omega) at_ ep hep
end
def PlayI (w0 w1:World) (p:Nat) (R:RvM) (c:Nat) (M0:Nat→Prop) (l:List ActM) (k:Nat) (w:World) (v:Nat) (a e:Int):Prop :=
 ∃boot M,VlF w0 w p v (playsR R (l.take k)) boot (c+3*k) M∧Stp w1 w M0 M∧a=(playsR R (l.take k)).at_∧e=(playsR R (l.take k)).epoch∧k≤l.length
theorem plays_on {w0 w1:World} {p:Nat} {R:RvM} {c:Nat} {M0:Nat→Prop} {l:List ActM} {lv:Value} (hc:c+3*l.length<98000) (hA:IsActs17 w0 lv l) (hf:ActsFew l):PlaysOn w0 p l (PlayI w0 w1 p R c M0 l):=by
 have hlt:∀ {k:Nat} {x:ActM},l[k]? = some x→k+1≤l.length:=fun h=>(List.getElem?_eq_some_iff.1 h).1
 have hin:∀ {k:Nat} {x:ActM},l[k]? = some x→x.In w0∧x.Few:=fun h=>⟨hA.each _ (List.mem_of_getElem? h),hf.2 _ (List.mem_of_getElem? h)⟩
 refine ⟨fun h=>?_,fun h hu=>?_,fun h=>?_,fun {k w v a e x} h hx hd=>?_,fun {k w v a e x} h hx hd=>?_,fun {k w v a e x} h hx hd=>?_,fun {k w v a e x} h hx hd=>?_,fun {k w v a e x} h hx hd=>?_,fun {k w v a e x} h hx hd=>?_⟩
 ·obtain ⟨boot,M,h1,-⟩:=h
  exact h1.upd
 ·obtain ⟨boot,M,h1,h2,h3⟩:=h
  exact ⟨boot,M,h1.still hu,h2.then (.still hu),h3⟩
 ·obtain ⟨boot,M,h1,h2,rfl,rfl,h5⟩:=h
  exact (h1.old oM).place
 ·obtain ⟨boot,M,h1,h2,rfl,rfl,h5⟩:=h
  have hk:=hlt hx;obtain ⟨i1,i2⟩:=hin hx;have ho:(batAt x (playsR R (l.take k)).at_ (playsR R (l.take k)).epoch).ops=x.b.ops:=by unfold batAt;split<;>rfl
  have hep:(batAt x (playsR R (l.take k)).at_ (playsR R (l.take k)).epoch).epoch≤9223372036854775807:=by
   have e1:=i1.bat.epoch.2;have e2:=h1.place_ok.ep1;unfold batAt;split
   ·exact e1
   ·show max _ _≤_
    omega
  refine (h1.commit_in oM (batAt x (playsR R (l.take k)).at_ (playsR R (l.take k)).epoch) (ov:=x.ov) (by rw [ho];exact i1.bat.ops) (by rw [ho];exact i2.ops) hep).mono ?_;rintro r w' ⟨rfl,M',h6,h7⟩;have hp:(commitR (playsR R (l.take k)) (batAt x (playsR R (l.take k)).at_ (playsR R (l.take k)).epoch)).1=playsR R (l.take (k+1)):=by
   rw [playsR_step hx];unfold playR;rw [if_pos hd]
  rw [hp] at h6;exact ⟨_,_,_,rfl,boot,M',h6.mono oM,h2.then h7,rfl,rfl,hk⟩
 ·obtain ⟨boot,M,h1,h2,rfl,rfl,h5⟩:=h
  have hk:=hlt hx;obtain ⟨i1,i2⟩:=hin hx;refine (h1.set_in oM i1.met i2.met).mono ?_;rintro r w' ⟨rfl,M',h6,h7⟩;have hp:(setR (playsR R (l.take k)) x.m).1=playsR R (l.take (k+1)):=by
   rw [playsR_step hx];unfold playR;rw [if_neg (by rw [hd];decide),if_pos hd]
  rw [hp] at h6;exact ⟨_,_,_,rfl,boot,M',h6.mono oM,h2.then h7,rfl,rfl,hk⟩
 ·obtain ⟨boot,M,h1,h2,rfl,rfl,h5⟩:=h
  have hk:=hlt hx;obtain ⟨i1,i2⟩:=hin hx;refine (h1.install_in oM i1.met i2.met i1.prs i2.prs x.at_ x.ep i1.ep.2).mono ?_;rintro r w' ⟨rfl,M',h6,h7⟩;have hp:(installR (playsR R (l.take k)) x.m x.l x.at_ x.ep).1=playsR R (l.take (k+1)):=by
   rw [playsR_step hx];unfold playR;rw [if_neg (by rw [hd];decide),if_neg (by rw [hd];decide),if_pos hd]
  rw [hp] at h6;exact ⟨_,_,_,rfl,boot,M',h6.mono oM,h2.then h7,rfl,rfl,hk⟩
 ·obtain ⟨boot,M,h1,h2,rfl,rfl,h5⟩:=h
  have hk:=hlt hx;refine (h1.rotate oM).mono ?_;rintro r w' ⟨rfl,M',h6,h7⟩;have hp:(rotateR (playsR R (l.take k))).1=playsR R (l.take (k+1)):=by
   rw [playsR_step hx];unfold playR;rw [if_neg (by rw [hd];decide),if_neg (by rw [hd];decide),if_neg (by rw [hd];decide),if_pos hd]
  rw [hp] at h6;exact ⟨_,_,_,rfl,boot,M',h6.mono oM,h2.then h7,rfl,rfl,hk⟩
 ·obtain ⟨boot,M,h1,h2,rfl,rfl,h5⟩:=h
  have hk:=hlt hx;refine (h1.open_ oM).mono ?_;rintro r w' ⟨u,rfl,⟨M',h6,h7⟩,-⟩;have hp:playsR R (l.take k)=playsR R (l.take (k+1)):=by
   rw [playsR_step hx];unfold playR;rw [if_neg (by rw [hd];decide),if_neg (by rw [hd];decide),if_neg (by rw [hd];decide),if_neg (by rw [hd];decide)]
  rw [hp] at h6;exact ⟨u,_,_,rfl,boot+1,M',h6.mono oM,h2.then h7,rfl,rfl,hk⟩
 ·obtain ⟨boot,M,h1,h2,rfl,rfl,h5⟩:=h
  have hk:=hlt hx;have hne:∀n:UInt8,n≤5→x.do_≠n:=fun n hn e=>by
   rw [e] at hd;exact absurd hd (by rw [UInt8.lt_iff_toNat_lt];have:=UInt8.le_iff_toNat_le.1 hn;omega)
  have hp:playsR R (l.take k)=playsR R (l.take (k+1)):=by
   rw [playsR_step hx];unfold playR;rw [if_neg (fun e=>e.elim (hne 0 dC) (hne 1 dC)),if_neg (hne 2 dC),if_neg (hne 3 dC),if_neg (hne 4 dC)]
  refine ⟨boot,M,?_,h2,by rw [hp],by rw [hp],hk⟩;rw [← hp];exact h1.mono oM
theorem IsActs17.still {w w':World} {v:Value} {l:List ActM} (h:IsActs17 w v l) (hu:Upd (fun _=>False) w w'):IsActs17 w' v l:=⟨h.rows.still hu,fun a ha=>(h.each a ha).still hu⟩
theorem trow_all {w w':World} {m mb:Nat} {S:List PairM} {v:Value} (h:Own w' 55 2 v S.length (pairsV S)) (hm:MapAt w m mb S):TRow w' 55 2 v (S.map pairRow):=by
 have:=hm.ok.len;exact TRow.of_own (n:=S.length) (by rw [← List.flatMap_def];exact h) (by rw [List.length_map]) oM (fun c hc=>by obtain ⟨p,-,rfl⟩:=List.mem_map.1 hc;rfl)
def PlainEq (t:TypeId) (a b:Value) (r:Bool):Prop:=Tryz.prog.plainKey t=true∧∀W d,(Op.equalIn (d+1) t a b).run Tryz.prog W=.ok r W
def allEq:List TypeId→List Value→List Value→List Bool→Prop
 | [],[],[],[]=>True
 | t::ts,a::va,b::vb,r::rs=>PlainEq t a b r∧allEq ts va vb rs
 | _,_,_,_=>False
theorem eqFields_run (d:Nat) (W:World) (xs ys:Array Value):∀(ts:List TypeId) (k:Nat) (fs:List Field) (va vb:List Value) (rs:List Bool),fs.map (fun f=>(f.name == "_",f.type,f.offset))=(ts.zipIdx k).map (fun p=>(false,p.1,p.2)) →
 (∀i,i<ts.length→xs[k+i]? = va[i]? ∧ ys[k+i]? = vb[i]?)→allEq ts va vb rs→(Op.eqFields (d+1) xs ys fs).run Tryz.prog W=.ok (rs.all id) W
 | [],k,fs,va,vb,rs,hf,hx,he=>by
   have:fs=[]:=by simpa using hf
   subst this;match va,vb,rs,he with
   | [],[],[],_=>simp [Op.eqFields]
 | t::ts,k,[],va,vb,rs,hf,hx,he=>by simp at hf
 | t :: ts,k,f::fs,va,vb,rs,hf,hx,he=>by
   match va,vb,rs,he with
   | a :: va,b::vb,r::rs,⟨h1,h2⟩ =>
     simp only [List.map_cons,List.zipIdx_cons,List.cons.injEq,Prod.mk.injEq,beq_eq_false_iff_ne] at hf;obtain ⟨⟨n1,n2,n3⟩,hf⟩:=hf;have h0:=hx 0 sM;simp only [Nat.add_zero,List.getElem?_cons_zero] at h0;have q1:=run_part_plain (w:=W) (P:=Tryz.prog) h1.1 h0.1;have q2:=run_part_plain (w:=W) (P:=Tryz.prog) h1.1 h0.2;simp only [Op.eqFields,n2,n3,Sem.run_bind,ne_eq,n1,not_false_eq_true,if_true];rw [q1,Result.andThen_ok,q2,Result.andThen_ok,h1.2,Result.andThen_ok];cases r
     ·simp
     ·simp only [Bool.not_true,Bool.false_eq_true,if_false,List.all_cons,id,Bool.true_and]
      exact eqFields_run d W xs ys ts (k+1) fs va vb rs hf (fun i hi=>by
       have:=hx (i+1) (by simpa using hi);rw [show k+(i+1)=k+1+i by omega] at this;simpa using this) h2
theorem neq_run {t:TypeId} (ts:List TypeId) (h1:Tryz.prog.underlying t=some (.struct (Tryz.prog.fieldsOf t))) (h2:Tryz.prog.stoodInHeld t=false) (hf:(Tryz.prog.fieldsOf t).toList.map (fun f=>(f.name == "_",f.type,f.offset))=(ts.zipIdx 0).map (fun p=>(false,p.1,p.2)))
 {va vb:List Value} {rs:List Bool} (he:allEq ts va vb rs) (W:World):(binOp .neq t (.agg va.toArray) (.agg vb.toArray)).run Tryz.prog W=.ok (.bool (!rs.all id)) W:=by
 rw [run_neq_struct,run_equalIn_agg _ _ _ _ _ h1 h2,eqFields_run _ W _ _ ts 0 _ va vb rs hf (fun i hi=>by simp) he];rfl
theorem plain_str (a b:List UInt8):PlainEq 9 (.string (str a)) (.string (str b)) (decide (a=b)):=⟨kR,fun W d=>by
 rw [run_equalIn_string W d 9 _ _ Tryz.underlying9,str_beq]⟩
theorem pair_neq (p q:PairM) (W:World):(binOp .neq 55 (.agg (pairRow p).toArray) (.agg (pairRow q).toArray)).run Tryz.prog W=.ok (.bool (!decide (p=q))) W:=by
 rw [neq_run (t:=55) [9,9] kR kR kR (show allEq _ (pairRow p) (pairRow q) [_,_] from ⟨plain_str _ _,plain_str _ _,trivial⟩) W];congr 3
 rw [Bool.eq_iff_iff];simp only [List.all_cons,List.all_nil,id,Bool.and_true,Bool.and_eq_true,decide_eq_true_eq];exact ⟨fun h=>Prod.ext h.1 h.2,fun h=>by rw [h];exact ⟨rfl,rfl⟩⟩
instance:DecidableEq OpM:=fun a b=>if h:a.kind=b.kind∧a.path=b.path∧a.value=b.value then isTrue (by obtain ⟨h1,h2,h3⟩:=h;cases a;cases b;simp_all) else isFalse (by rintro rfl;exact h ⟨rfl,rfl,rfl⟩)
theorem take_eq_step {α : Type} {a b:List α} {k:Nat} (h1:k<a.length) (h2:k<b.length) (h:a.take k=b.take k) (he:a[k]=b[k]):a.take (k+1)=b.take (k+1):=by
 rw [List.take_succ_eq_append_getElem h1,List.take_succ_eq_append_getElem h2,h,he]
theorem same13_c {w:World} {ta tb:TypeId} {va vb:Value} {a b:List PairM} (ha:TRow w ta 2 va (a.map pairRow)) (hb:TRow w tb 2 vb (b.map pairRow)) :
 Calls Tryz.prog 32 #[va,vb] w fun e w'=>e=.returned (.bool (decide (a=b)))∧Upd (fun _=>False) w w':=by
 obtain ⟨A,cap,bA,off,rfl,hcap,hl,hA,hat⟩:=ha.open_;obtain ⟨B,cap2,bB,off2,rfl,hcap2,hl2,hB,hat2⟩:=hb.open_;simp only [List.length_map] at hcap hl hA hcap2 hl2 hB ⊢;obtain ⟨r,hr⟩:=eqx (decide (a=b));rw [hr];have H:=h3k hat hat2 hr;clear hat hat2 ha hb hr;go_enter Tryz.func32,Tryz.ntmps32
 by_cases hn:a.length=b.length
 ·have hn':((a.length:Int) == (b.length:Int))=true:=by rw [beq_iff_eq];omega
  have hn2:((a.length:Int) != (b.length:Int))=false:=by rw [bne,hn'];rfl
  have HN:=Lib.hid hn;clear hn;go_wp2_with fail
  go_loopw [5] (fun i wr=>∃k:Nat,k≤a.length∧i=.int .i64 k∧Upd (fun _=>False) w wr∧a.take k=b.take k) (fun i _=>a.length - (intOf i).toNat)
  case atStart=>exact ⟨0,oM,rfl,Upd.refl _ _,rfl⟩
  case round =>
   obtain ⟨k,hk,rfl,hu,htk⟩:=hrel;have HT:=h3k htk hu hk;clear htk;by_cases hlt:k<a.length
   ·obtain rfl:=hA oM
    obtain rfl:=hB (oN HN.out);have hb2:k<b.length:=by have:=HN.out;omega
    obtain ⟨x,hx⟩:=eqx (a[k]);obtain ⟨y,hy⟩:=eqx (b[k]'hb2);have hrow:=H.out.1 wr _ hu (fun _ _ e=>e) k (pairRow x) (by rw [List.getElem?_map,List.getElem?_eq_getElem hlt,hx];rfl)
    have hrow2:=H.out.2.1 wr _ hu (fun _ _ e=>e) k (pairRow y) (by rw [List.getElem?_map,List.getElem?_eq_getElem hb2,hy];rfl)
    obtain ⟨X1,hX1⟩:∃X,str x.1=X:=⟨_,rfl⟩;obtain ⟨X2,hX2⟩:∃X,str x.2=X:=⟨_,rfl⟩;obtain ⟨Y1,hY1⟩:∃X,str y.1=X:=⟨_,rfl⟩;obtain ⟨Y2,hY2⟩:∃X,str y.2=X:=⟨_,rfl⟩;have cX1:wr.cell? ⟨bA,off+k*2,none⟩=some (.string X1):=hrow 0 _ (by rw [← hX1];rfl)
    have cX2:wr.cell? ⟨bA,off+k*2+1,none⟩=some (.string X2):=hrow 1 _ (by rw [← hX2];rfl)
    have cY1:wr.cell? ⟨bB,off2+k*2,none⟩=some (.string Y1):=hrow2 0 _ (by rw [← hY1];rfl)
    have cY2:wr.cell? ⟨bB,off2+k*2+1,none⟩=some (.string Y2):=hrow2 1 _ (by rw [← hY2];rfl)
    have hneq:∀W,(binOp .neq 55 (.agg #[.string X1,.string X2]) (.agg #[.string Y1,.string Y2])).run Tryz.prog W=.ok (.bool (!decide (x=y))) W:=fun W=>by
     have:=pair_neq x y W;unfold pairRow at this;rw [hX1,hX2,hY1,hY2] at this;exact this
    have HX:=h4k hx hy hlt hb2;have j1:(k:Int)<(a.length:Int):=oM;have j2:(k:Int)<(b.length:Int):=oM;have hwk:IntKind.i64.wrap ((k:Int)+1)=(k:Int)+1:=IntWalk.i64_in _ oM;clear hrow hrow2 hx hy hX1 hX2 hY1 hY2;by_cases he:x=y
    ·rw [decide_eq_true he] at hneq
     have HE:=Lib.hid he;clear he;go_wp2_with fail
     go_quiet (fail)
     go_wp2_with fail
     go_roundw
     case rel =>
      refine ⟨k+1,oM,sM,hu.drewN _,?_⟩;refine take_eq_step HX.out.2.2.1 HX.out.2.2.2 HT.out.1 ?_;exact (HX.out.1.trans HE.out).trans HX.out.2.1.symm
     case measure=>simp [intOf]<;>omega
    ·rw [decide_eq_false he] at hneq
     have hrf:r=false:=by
      rw [← H.out.2.2,decide_eq_false_iff_not];intro hab;apply he
      rw [← HX.out.1,← HX.out.2.1];simp only [hab]
     subst hrf;clear he;go_wp2_with fail
     go_quiet (fail)
     go_wp2_with fail
     go_ret
     exact ⟨rfl,hu.drewN _⟩
   ·have j1:¬((k:Int)<(a.length:Int)):=oM
    have hrt:r=true:=by
     rw [← H.out.2.2,decide_eq_true_eq];have:=HT.out.1;rw [List.take_of_length_le oM,List.take_of_length_le (oN HN.out)] at this;exact this
    subst hrt;go_wp2_with fail
    go_ret
    exact ⟨rfl,hu⟩
 ·have hn':((a.length:Int) == (b.length:Int))=false:=by rw [beq_eq_false_iff_ne];omega
  have hn2:((a.length:Int) != (b.length:Int))=true:=by rw [bne,hn'];rfl
  have hrf:r=false:=by
   rw [← H.out.2.2,decide_eq_false_iff_not];rintro rfl;exact hn rfl
  subst hrf;go_wp2_with fail
  go_ret
  exact ⟨rfl,Upd.refl _ _⟩
instance:DecidableEq BatM:=fun a b=>if h:a.index=b.index∧a.epoch=b.epoch∧a.ops=b.ops then isTrue (by obtain ⟨h1,h2,h3⟩:=h;cases a;cases b;simp_all) else isFalse (by rintro rfl;exact h ⟨rfl,rfl,rfl⟩)
instance:DecidableEq MetaM:=fun a b=>if h:a.role=b.role∧a.seen=b.seen∧a.grant=b.grant∧a.mounts=b.mounts∧a.secret=b.secret then isTrue (by obtain ⟨h1,h2,h3,h4,h5⟩:=h;cases a;cases b;simp_all) else isFalse (by rintro rfl;exact h ⟨rfl,rfl,rfl,rfl,rfl⟩)
instance:DecidableEq RvM:=fun a b=>if h:a.m=b.m∧a.S=b.S∧a.at_=b.at_∧a.epoch=b.epoch∧a.rows=b.rows∧a.prev=b.prev∧a.key=b.key then isTrue (by obtain ⟨h1,h2,h3,h4,h5,h6,h7⟩:=h;cases a;cases b;simp_all) else isFalse (by rintro rfl;exact h ⟨rfl,rfl,rfl,rfl,rfl,rfl,rfl⟩)
section
variable {w w':World} {M M':Nat→Prop} {k:Nat} {v:Value} {cs:List (List Value)}
end
section
variable {w w':World} {M M':Nat→Prop} {R:RvM} {mv lv rv:Value} {ovs:List Value}
end
section
variable {w w':World} {M M':Nat→Prop} {R:RvM} {mv lv rv:Value} {ovs:List Value}
end
section
variable {w0 w w':World} {p v:Nat} {d:Dk} {V:VtM} {o:VtO} {R:RvM} {boot c b:Nat} {M:Nat→Prop} {T:TypeId}
theorem KeepAt.nil (w:World) (F:List Nat):KeepAt w F (.slice none 0 0) []:=⟨⟨none,0,0,0,rfl,sM,fun h=>absurd h sM,fun w' _ i hi=>absurd hi sM⟩,sM⟩
theorem VlF.crash_nil (h:VlF w0 w p v R boot c M):Calls Tryz.prog 44 #[.pointer (some ⟨p,0,none⟩),.slice none 0 0] w fun r w'=>r=.returned (.tuple #[])∧∃M',VlF w0 w' p v R boot c M'∧Stp w w' M M':=by
 obtain ⟨d,V,o,S0,h,h1,h2,hm⟩:=h;refine (crash_c h.at_.disk (KeepAt.nil _ _)).mono ?_;rintro r w' ⟨rfl,F',hL⟩;obtain ⟨a1,a2⟩:=h.at_.disk_ hL;obtain ⟨b1,b2⟩:=h.step hm a1 a2 (h.g.crash h.at_.disk.wf []);exact ⟨rfl,_,⟨_,V,_,S0,b1,h1,h2,fun _=>Iff.rfl⟩,b2⟩
end
theorem TRow.new {w:World} {t:TypeId} {k n:Nat} {cells:Array Value} {cs:List (List Value)} (hn:cs.length=n) (hm:n≤1000000) (hc:∀i c,cs[i]? = some c→∀j u,c[j]? = some u→cells[i*k+j]? = some u):TRow (w.alloc (.cells cells t)) t k (.slice (some ⟨w.heap.size,0,none⟩) n n) cs:=by
 refine ⟨_,n,by rw [hn],oM,oM,fun _=>⟨w.heap.size,0,cells,t,(0,0),rfl,Blk.new w t cells,fun _=>rfl,fun i c h j u hj=>?_⟩⟩;rw [Nat.zero_add];exact hc i c h j u hj
theorem TRow.nil (w:World) (t:TypeId) (k:Nat):TRow w t k (.slice none 0 0) []:=⟨none,0,rfl,sM,sM,fun h=>by simp at h⟩
def opW:OpM:=⟨1,[97,112,112,47,97],[49]⟩
def batW:BatM:=⟨1,1,[opW]⟩
theorem commit_W:∃R,commitR R0 batW=(R,0)∧R.at_=1∧R.epoch=1∧R.S=[([97,112,112,47,97],[49])]∧R.rows.length=1∧R.m=metaM0∧R.key=0∧R.prev=0:=⟨_,rfl,rfl,rfl,rfl,rfl,rfl,rfl,rfl⟩
theorem wakes_17 (w:World):Calls Tryz.prog 26 #[] w fun e w'=>e=.returned (.bool true)∧Upd (fun _=>False) w w':=by
 have HF:=Lib.hid (fresh_17 w);obtain ⟨R,hR,r1,r2,r3,-⟩:=commit_W;have hR2:commitR R ⟨3,1,[]⟩=(R,1):=by
  unfold commitR;rw [if_neg dC,if_pos (.inl (by rw [r1];decide))]
 have HR:=h5k hR hR2 r1 r2 r3;clear hR hR2 r1 r2 r3;go_enter Tryz.func26,Tryz.ntmps26
 go_upto_region 4 with (first
  | (go_at_call 11;refine HF.out.mono ?_;rintro e w1 ⟨p,v,rfl,hV⟩
     have H1:=Lib.hid hV;clear hV))
 go_upto_region 5 with (first
  | (go_at_call 15
     have hu:=(Upd.refl (fun _=>False) w1).alloc (.cells #[.int .u8 1,.string ⟨#[97,112,112,47,97]⟩,.string ⟨#[49]⟩] 32);refine ((H1.out.still hu).commit oM batW (TRow.new (w:=w1) (t:=32) (k:=3) (n:=1) (cells:=#[.int .u8 1,.string ⟨#[97,112,112,47,97]⟩,.string ⟨#[49]⟩]) (cs:=batW.ops.map opRow) rfl oM (by
      intro i c h j u hj;match i,h with
      | 0,h =>
        cases h
        match j,hj with
        | 0,hj=>exact hj
        | 1,hj=>exact hj
        | 2,hj=>exact hj
        | n+3,hj=>simp [opRow] at hj
      | n+1,h=>simp [batW] at h)) (.inl dC) (by intro o ho;simp [batW] at ho;subst ho;decide) dC).mono ?_
     rintro e w2 ⟨rfl,hV,-⟩;rw [HR.out.1] at hV ⊢;have H2:=Lib.hid hV;clear hu hV))
 go_upto_region 6 with (first
  | (go_at_call 15
     refine (H2.out.commit oM ⟨3,1,[]⟩ (TRow.nil _ 32 _) (.inl dC) (fun o ho=>by simp at ho) dC).mono ?_;rintro e w3 ⟨rfl,hV,-⟩;rw [HR.out.2.1] at hV ⊢;have H3:=Lib.hid hV;clear hV))
 go_upto_region 7 with (first
  | (go_at_call 16;refine (H3.out.open_ oM).mono ?_;rintro e w4 ⟨u,rfl,hV,-⟩
     have H4:=Lib.hid hV;clear hV))
 go_upto_region 9 with (first
  | (go_at_call 12;refine H4.out.place.mono ?_;rintro e w5 ⟨rfl,hV,-⟩
     rw [HR.out.2.2.1,HR.out.2.2.2.1];have H5:=Lib.hid hV;clear hV)
  | (go_at_call 18;refine H5.out.map_.mono ?_;rintro e w6 ⟨m,mb,rfl,hm,-,-,hV,-⟩
     rw [HR.out.2.2.2.2] at hm;have H6:=h2k hV hm;clear hV hm)
  | (go_at_call 19;refine (oget_c H6.out.2 ⟨#[97,112,112,47,97]⟩).mono ?_;rintro e w7 ⟨rfl,rfl⟩
     rw [show getV [([97,112,112,47,97],[49])] (⟨#[97,112,112,47,97]⟩:ByteArray).data.toList=.tuple #[.string ⟨#[49]⟩,.bool true] from rfl]))
 have HB:=Lib.hid (H6.out.1.boot_ oM);go_wp2_with (first
  | (go_at_call 13;refine HB.out.mono ?_;rintro e w8 ⟨rfl,rfl⟩))
 go_ret
 exact ⟨rfl,H6.out.1.upd⟩
def turnI (n m:Int):Int:=if n.tmod m<0 then n.tmod m+m else n.tmod m
theorem turnI_range {n m:Int} (hm:0<m):0≤turnI n m∧turnI n m<m:=by
 have h1:=Int.lt_tmod_of_pos n hm;have h2:=Int.tmod_lt_of_pos n hm;unfold turnI;split<;>omega
theorem turn17_c (n m:Int) (hm:0<m) (hm2:m≤1000) (w:World):Calls Tryz.prog 45 #[.int .i64 n,.int .i64 m] w fun e w'=>e=.returned (.int .i64 (turnI n m))∧w=w':=by
 have h1:=Int.lt_tmod_of_pos n hm;have h2:=Int.tmod_lt_of_pos n hm;have hr:=@turnI_range n m hm;obtain ⟨t,ht⟩:=eqx (turnI n m);rw [ht] at hr ⊢;obtain ⟨k,hk⟩:=eqx (n.tmod m);have hk2:IntKind.i64.wrap k=k:=IntWalk.i64_in _ oM;have hm0:(m == 0)=false:=by rw [beq_eq_false_iff_ne];omega
 have hm1:m≠0:=oM;unfold turnI at ht;rw [hk] at ht h1 h2;go_enter Tryz.func45,Tryz.ntmps45
 by_cases h0:k<0
 ·rw [if_pos h0] at ht
  have hw:IntKind.i64.wrap (k+m)=k+m:=IntWalk.i64_in _ oM;go_wp2_with fail
  go_ret
  exact ⟨by first | (rw [ht];done) | (rw [← ht];done) | (congr 2;done) | (congr 2;omega) | (congr 2;go_num),rfl⟩
 ·rw [if_neg h0] at ht
  go_wp2_with fail
  go_ret
  exact ⟨by first | (rw [ht];done) | (rw [← ht];done) | (congr 2;done) | (congr 2;omega) | (congr 2;go_num),rfl⟩
section
variable {w0 w w':World} {p v:Nat} {R:RvM} {c:Nat} {M:Nat→Prop} {Q:RvM→Prop} {a e:Int} {S:List PairM}
end
end
section
open Go Go.RowKit Go.ChangeShapes Go.WideShapes Go.ChangeAt Go.Deep
structure IsB4 (w:World) (v:Value) (x:List UInt8):Prop where
 is:v=.agg (arrB x)
 len:x.length=4
section
variable {H:Type} {enc:TypeId × Value→H} {w:World} {base:Nat} {spare:Nat→Bool} {held:Bool}
theorem b4_of {r:Reach} {b0:Nat} {v:Value} {d:DataW H} {p:List MemPlace} (hv:Value.okWide Tryz.prog w r b0 82 v) (h:DataW.Trod enc Tryz.prog w base spare held 82 v d p):∃x,IsB4 w v x:=by
 simp only [Value.okWide,Tryz.underlying82] at hv;obtain ⟨cs,rfl,hcs,-⟩:=hv;obtain ⟨fuel,hf⟩:=h;have hf2:DataW.trod enc Tryz.prog w base spare held fuel 82 cs.toList=some (d,p):=hf;have hl:cs.toList.length=4:=by rw [Array.length_toList,hcs];kernel_rfl
 obtain ⟨c0,c1,c2,c3,hq⟩:∃a b c d,cs.toList=[a,b,c,d]:=by
  match cs.toList,hl with
  | [a,b,c,d],_=>exact ⟨a,b,c,d,rfl⟩
 rw [hq] at hf2;obtain ⟨y0,y1,y2,y3,n,-,h0,h1,h2,h3⟩:=trod_array4 Tryz.underlying82 kR hf2;obtain ⟨n0,q0,_,w0⟩:=DataW.trod_int Tryz.underlying5 h0;obtain ⟨n1,q1,_,w1⟩:=DataW.trod_int Tryz.underlying5 h1;obtain ⟨n2,q2,_,w2⟩:=DataW.trod_int Tryz.underlying5 h2;obtain ⟨n3,q3,_,w3⟩:=DataW.trod_int Tryz.underlying5 h3;simp only [List.cons.injEq,and_true] at q0 q1 q2 q3;subst q0 q1 q2 q3;obtain ⟨k0,rfl⟩:=u8_is w0;obtain ⟨k1,rfl⟩:=u8_is w1;obtain ⟨k2,rfl⟩:=u8_is w2;obtain ⟨k3,rfl⟩:=u8_is w3;exact ⟨[k0,k1,k2,k3],by rw [show cs=arrB [k0,k1,k2,k3] from Array.toList_inj.1 hq],rfl⟩
end
end
section
open Go Go.RowKit
structure SplS (w0 w:World) (p v:Nat) (d D:Dk) (V:VtM) (S0:List PairM) (R:RvM) (boot c:Nat):Prop where
 ex:∃o,VtAt w p v D V o∧∀q,o.mut v q→w0.heap.size≤q
 g:VtG d V S0 c
 wf:d.wf
 abs:V.abs=R
 bt:V.st.boot=boot
 upd:Upd (fun _=>False) w0 w
section
variable {w0 w w':World} {p v:Nat} {d D:Dk} {V:VtM} {S0:List PairM} {R:RvM} {boot c i a:Nat} {M:Nat→Prop} {x:List UInt8}
theorem VlF.spl (h:VlF w0 w p v R boot c M):∃d V S0,SplS w0 w p v d d V S0 R boot c:=by
 obtain ⟨d,V,o,S0,h,h1,h2,-⟩:=h;exact ⟨d,V,S0,⟨o,h.at_,h.low⟩,h.g,h.at_.disk.wf,h1,h2,h.upd⟩
theorem SplS.vl (h:SplS w0 w p v d d V S0 R boot c):∃M,VlF w0 w p v R boot c M:=by
 obtain ⟨o,h1,h2⟩:=h.ex;exact ⟨_,d,V,o,S0,⟨h1,h.g,h2,h.upd⟩,h.abs,h.bt,fun _=>Iff.rfl⟩
theorem SplS.still (h:SplS w0 w p v d D V S0 R boot c) (hu:Upd (fun _=>False) w w'):SplS w0 w' p v d D V S0 R boot c:=by
 obtain ⟨o,h1,h2⟩:=h.ex;exact { h with ex:=⟨o,h1.still hu,h2⟩,upd:=h.upd.then hu wz0 }
theorem SplS.read (h:SplS w0 w p v d d V S0 R boot c) (hi:i<500):Calls Tryz.prog 46 #[.pointer (some ⟨p,0,none⟩),.int .i64 (i:Int)] w fun e w'=>e=.returned (.tuple #[.string (d.now i),.int .i64 0])∧w=w':=by
 obtain ⟨o,h1,-⟩:=h.ex;have:=read_c h1.disk (i:Int);rw [Dk.read_there h.g.vdk.good.off (by rw [h.g.vdk.good.len];exact hi)] at this;exact this
theorem SplS.size (h:SplS w0 w p v d D V S0 R boot c) (hi:i<500):(d.now i).size=64:=h.wf.now_size (by rw [h.g.vdk.good.len];exact hi)
theorem SplS.spoil1 (h:SplS w0 w p v d d V S0 R boot c) (hi:i<500) (hx:x.length=4) (ha:a≤60):Calls Tryz.prog 48 #[.pointer (some ⟨p,0,none⟩),.int .i64 (i:Int),.int .i64 (a:Int),.string (str x)] w fun e w'=>e=.returned (.int .i64 0)∧SplS w0 w' p v d (d.spl i a x) V S0 R boot c:=by
 obtain ⟨o,h1,h2⟩:=h.ex;refine (spoil_c h1.disk (i:Int) (a:Int) (str x) oM oM (by rw [str_size];omega)).mono ?_;rw [Dk.spl_is (by rw [h.g.vdk.good.len];exact hi) oM oM];rintro e w' ⟨rfl,hL⟩;obtain ⟨b1,b2⟩:=h1.disk_ hL;exact ⟨rfl,{ h with ex:=⟨_,b1,fun q hq=>(b2.sub q hq).elim (h2 q) (fun e=>Nat.le_trans h.upd.size e)⟩,upd:=h.upd.then b2.upd (fun q e=>.inr (h2 q e)) }⟩
theorem SplS.spoil2 (h:SplS w0 w p v d (d.spl i a x) V S0 R boot c) (hi:i<500) (hx:x.length=4) (ha:a≤60):Calls Tryz.prog 48 #[.pointer (some ⟨p,0,none⟩),.int .i64 (i:Int),.int .i64 (a:Int),.string (str x)] w fun e w'=>e=.returned (.int .i64 0)∧SplS w0 w' p v d d V S0 R boot c:=by
 obtain ⟨o,h1,h2⟩:=h.ex;have hl:=h.g.vdk.good.len;refine (spoil_c h1.disk (i:Int) (a:Int) (str x) oM oM (by rw [str_size];omega)).mono ?_;rw [Dk.spl_is (by show i<(d.lasts.set _ _).length;rw [List.length_set,hl];exact hi) oM oM,Dk.spl_back oM (by have:=h.size hi;rw [Dk.now_last h.g.vdk.good.pend] at this;exact this) oM];rintro e w' ⟨rfl,hL⟩;obtain ⟨b1,b2⟩:=h1.disk_ hL;exact ⟨rfl,{ h with ex:=⟨_,b1,fun q hq=>(b2.sub q hq).elim (h2 q) (fun e=>Nat.le_trans h.upd.size e)⟩,upd:=h.upd.then b2.upd (fun q e=>.inr (h2 q e)) }⟩
theorem SplS.bars (h:SplS w0 w p v d (d.spl i a x) V S0 R boot c) (hc:c<250) (hi:i<500) (hx:x.length=4) (ha:a≤60) (hst:(lookL (d.now i).data.toList).2=1) (hx0:x≠List.replicate 4 0) :
 Calls Tryz.prog 16 #[.pointer (some ⟨p,0,none⟩),.string (str masterL)] w fun e w'=>e=.returned (.tuple #[.pointer none,.int .i64 9])∧Upd (fun _=>False) w w':=by
 obtain ⟨o,h1,h2⟩:=h.ex;have hs:=h.size hi;have hl:(d.now i).data.toList.length=64:=by rw [← hs];simp
 obtain ⟨hf,hb⟩:=h.g.spoils hc hi oM oM hst (turn_ne (d.now i).data.toList a x oM (by rw [hx];exact hx0));rcases hb with e | ⟨e1,e2⟩ | ⟨e1,e2,e3,e4,e5⟩
 ·exact vopen_bad h1.disk hf e _
 ·exact vopen_kept h1.disk hf e1 e2 _
 ·exact vopen_log h1.disk hf e1 e2 e3 e4 e5
theorem SplS.look (h:SplS w0 w p v d D V S0 R boot c) (hi:i<500):(lookL (d.now i).data.toList).2≠2:=by
 have hlen:=h.g.vdk.good.len;obtain ⟨L0,L1,hk⟩:=h.g.vdk.kept;obtain ⟨rs,R,hl,hep⟩:=h.g.vdk.log;obtain ⟨g1,g2,g3⟩:=h.g.vdk.gplace;have hkf:=h.g.vdk.kfrom;have hsec:∀(b:Nat) (L:List (Option Pt)) (j:Nat),SlotG d b L→j<10→(lookL (d.now (b+j)).data.toList).2≠2:=by
  intro b L j hS hj;have hc:=hS.cell j (by rw [hS.len];exact hj);rw [hc];cases hp:L[j]'(by rw [hS.len];exact hj) with
  | none=>rw [show secP none=zeros64 from rfl,look_zeros];decide
  | some p=>rw [show secP (some p)=p.sec from rfl,look_sec p (hS.ok p (hp ▸ List.getElem_mem _))];show (1:Int)≠2;decide
 by_cases c1:340≤i
 ·obtain ⟨j,rfl⟩:∃j,i=340+j:=⟨i - 340,oM⟩
  exact (h.g.vdk.sound j oM).look
 by_cases c2:i<10
 ·have:=hsec _ _ i hk.s0 c2
  rw [hkf,Nat.zero_add] at this;exact this
 by_cases c3:i<20
 ·have:=hsec _ _ (i - 10) hk.s1 oM
  rw [hkf,Nat.zero_add,show 10+(i - 10)=i by omega] at this;exact this
 have hll:((rowOf V.lg.epoch 0 rs).map some++R).length=V.lg.sectors:=by rw [List.length_append,List.length_map];exact hl.len
 have hcell:=hl.cells.cell (i - 20) oM;rw [g1,show 20+(i - 20)=i by omega] at hcell;rw [hcell];cases hL:((rowOf V.lg.epoch 0 rs).map some++R)[i - 20]'oM with
 | none=>rw [show secO none=zeros64 from rfl,look_zeros];decide
 | some q=>rw [show secO (some q)=q.sec from rfl,look_secG q (hl.cells.ok q (hL ▸ List.getElem_mem _))];show (1:Int)≠2;decide
end
theorem byte_eq4 (x y:List UInt8) (hx:x.length=4) (hy:y.length=4) (W:World):(binOp .eql 82 (.agg (arrB x)) (.agg (arrB y))).run Tryz.prog W=.ok (.bool (x == y)) W:=by
 rw [run_eql_struct];have:=run_equalIn_bytes (P:=Tryz.prog) W 9998 82 5 4 Tryz.underlying82 Tryz.underlying5 (fun w=>by obtain ⟨i0,hi0,-⟩:=info_parts infoU8;rw [run_sizeOf w hi0,show Tryz.prog.cellsOf 5=1 by kernel_rfl]) x y hx hy;have e:∀l:List UInt8,arrB l=(l.map Extern.Stop.cell).toArray:=fun l=>rfl
 rw [e,e,this];rfl
theorem zz36 {P:Prop} (h:P:=by
 go_wp2_with (first
  | (go_at_call 26;refine (wakes_17 _).mono ?_;rintro e w9 ⟨rfl,hU⟩;have HE:=Lib.hid (HW2.out.2.then (HS7.out.upd.then hU wz0) wz0);clear hU))
 go_ret
 exact ⟨rfl,HE.out⟩):P:=h
theorem walk_VaultSpoils (w:World) {lv xv:Value} {l:List ActM} {n m:Int} {x:List UInt8} (hA:IsActs17 w lv l) (_:(Lit.int .i64 n).wf=true) (_:(Lit.int .i64 m).wf=true) (hx:IsB4 w xv x) :
 Calls Tryz.prog 8 #[lv,.int .i64 n,.int .i64 m,xv] w fun e w'=>e=.returned (.bool true)∧Upd (fun _=>False) w w':=by
 obtain ⟨rfl,hx⟩:=hx;obtain ⟨x0,x1,x2,x3,rfl⟩:∃a b c d,x=[a,b,c,d]:=by
  match x,hx with
  | [a,b,c,d],_=>exact ⟨a,b,c,d,rfl⟩
 clear hx;obtain ⟨i,hi,hi5⟩:∃i:Nat,turnI n 500=(i:Int)∧i<500:=by
  have:=@turnI_range n 500 dC;exact ⟨(turnI n 500).toNat,oM,oM⟩
 obtain ⟨a,ha,ha6⟩:∃a:Nat,turnI m 61=(a:Int)∧a≤60:=by
  have:=@turnI_range m 61 dC;exact ⟨(turnI m 61).toNat,oM,oM⟩
 have ht1:=fun W=>turn17_c n 500 dC dC W
 have ht2:=fun W=>turn17_c m 61 dC dC W
 rw [hi] at ht1;rw [ha] at ht2;have heq:=byte_eq4 [x0,x1,x2,x3] [0,0,0,0] rfl rfl;obtain ⟨b,hb⟩:=eqx ([x0,x1,x2,x3] == [0,0,0,0]);obtain ⟨A,hAr⟩:=eqx ([x0,x1,x2,x3]);obtain ⟨X0,hX0⟩:∃X:Int,(x0.toNat:Int)=X:=⟨_,rfl⟩;obtain ⟨X1,hX1⟩:∃X:Int,(x1.toNat:Int)=X:=⟨_,rfl⟩;obtain ⟨X2,hX2⟩:∃X:Int,(x2.toNat:Int)=X:=⟨_,rfl⟩;obtain ⟨X3,hX3⟩:∃X:Int,(x3.toNat:Int)=X:=⟨_,rfl⟩;have har:arrB A=#[.int .u8 X0,.int .u8 X1,.int .u8 X2,.int .u8 X3]:=by rw [← hAr,← hX0,← hX1,← hX2,← hX3];rfl
 have harz:arrB [0,0,0,0]=#[.int .u8 0,.int .u8 0,.int .u8 0,.int .u8 0]:=rfl;rw [hb,hAr,har,harz] at heq;rw [hAr] at hb;rw [hAr,har];have hAl:A.length=4:=by rw [← hAr];rfl
 have HT:=h2k ht1 ht2;have HI:=h5k hi5 ha6 hAl hb har;have HA:=Lib.hid hA;have HEQ:=Lib.hid heq;obtain ⟨g,hg⟩:=eqx w.heap.size;clear hi ha ht1 ht2 hA hi5 ha6 heq hb hAr hX0 hX1 hX2 hX3 har harz hAl;go_enter Tryz.func8,Tryz.ntmps8
 go_wp2_with fail
 generalize hw1:World.alloc _ _=w1;have hB1:Blk w1 g 82 #[.int .u8 X0,.int .u8 X1,.int .u8 X2,.int .u8 X3]:=by rw [← hw1,← hg];exact Blk.new w _ _
 have hU1:Upd (fun _=>False) w w1:=by rw [← hw1];exact (Upd.refl _ w).alloc _
 have HW1:=h2k hB1 hU1;clear hB1 hU1 hw1 hg;refine (great17_c (HA.out.still HW1.out.2)).mono ?_;rintro e w2 ⟨bg,rfl,hU2,hq⟩;have HW2:=h2k (HW1.out.1.upd hU2 (fun e=>e)) (HW1.out.2.then hU2 wz0);clear hU2;cases bg
 rotate_left 1
 ·clear hq
  go_wp2_with (first
   | (go_at_call 26;refine (wakes_17 _).mono ?_;rintro e w9 ⟨rfl,hU⟩;have HE:=Lib.hid (HW2.out.2.then hU wz0);clear hU))
  go_ret
  exact ⟨rfl,HE.out⟩
 have HF:=Lib.hid (hq rfl);have HA1:=Lib.hid (HA.out.still HW2.out.2);clear hq HA;go_upto_region 4 with (first
  | (go_at_call 11;refine (fresh_17 w2).mono ?_;rintro e w3 ⟨p,v0,rfl,M0,hV⟩
     have HV:=Lib.hid hV;clear hV))
 have HPY:=Lib.hid (plays_c (v:=v0) (plays_on (w1:=w3) (p:=p) (R:=R0) (c:=1) (M0:=M0) (oN HF.out.1) HA1.out HF.out) HA1.out (a:=R0.at_) (e:=R0.epoch) ⟨1,M0,HV.out,.still (Upd.refl _ _),rfl,rfl,Nat.zero_le _⟩);go_upto_region 7 with (first
  | (go_at_call 31;refine HPY.out.mono ?_;rintro r w4 ⟨v,a3,e3,rfl,boot,M,hV,-⟩
     have H4:=Lib.hid hV;clear hV))
 clear HPY HV;obtain ⟨R,hR⟩:=eqx (playsR R0 (l.take l.length));rw [hR] at H4;clear hR;go_upto_region 8 with (first
  | (go_at_call 44;refine H4.out.crash_nil.mono ?_;rintro r w5 ⟨rfl,M5,h5,-⟩
     have H5:=Lib.hid h5.spl;clear h5))
 obtain ⟨d,V,S0,hS⟩:=H5.out;have HS:=Lib.hid hS;have hc2:1+3*l.length<250:=by have:=HF.out.1;omega
 have HC2:=Lib.hid hc2;have hbd:(d.now i).size≤9223372036854775807:=by rw [hS.size HI.out.1];omega
 have hlk:=fun W=>look_s (d.now i) W hbd
 have hl2:=hS.look HI.out.1;have hcas:=lookL_cases (d.now i).data.toList;obtain ⟨st,hst⟩:=eqx (lookL (d.now i).data.toList).2;rw [hst] at hlk hl2 hcas;have HST:=Lib.hid hst;have hrd:=hS.read HI.out.1;obtain ⟨z,hz⟩:=eqx (d.now i);rw [hz] at hlk hrd;obtain ⟨y,hy⟩:=eqx (str (lookL z.data.toList).1);rw [hy] at hlk;have HLK:=Lib.hid hlk;have HRD:=Lib.hid hrd;clear hS hbd hlk hst hz H4 H5 hrd hc2 hy;go_upto_region 9 with (first
  | (go_at_call 45;refine (HT.out.1 _).mono ?_;rintro e w6 ⟨rfl,rfl⟩))
 go_upto_region 10 with (first
  | (go_at_call 45;refine (HT.out.2 _).mono ?_;rintro e w6 ⟨rfl,rfl⟩))
 go_upto_region 12 with (first
  | (go_at_call 46;refine HRD.out.mono ?_;rintro e w6 ⟨rfl,rfl⟩)
  | (go_at_call 47;refine (HLK.out _).mono ?_;rintro e w7 ⟨rfl,hU⟩
     have HS7:=Lib.hid (HS.out.still hU);clear hU))
 clear HRD HLK HS;have hB7:=HW2.out.1.upd HS7.out.upd (fun e=>e);have hcv:(convert 89 9 (.slice (some ⟨g,0,none⟩) 4 4)).run Tryz.prog w7=.ok (.string (str A)) w7:=conv_arr (t:=82) (by rw [HI.out.2.2.2.2];exact hB7) 4 4 HI.out.2.2.1;obtain ⟨T,hT⟩:=eqx (str A);rw [hT] at hcv;have HT4:=Lib.hid hT;clear hT;go_upto_region 13 with fail
 clear hcv;have n2:(st == 2)=false:=by rw [beq_eq_false_iff_ne];exact hl2
 obtain ⟨c0,c1,c2,c3⟩:=hB7.cells4;clear hB7;have h01:st=0∨st=1:=oM;clear hcas hl2;rcases h01 with rfl | rfl
 ·exact zz36
 ·have heq:=HEQ.out
  cases b
  ·have hx0:A≠List.replicate 4 0:=fun e=>by
    have h:=HI.out.2.2.2.1;rw [e] at h;exact absurd h dC
   have hsp:=HS7.out.spoil1 HI.out.1 HI.out.2.2.1 HI.out.2.1;rw [HT4.out] at hsp;have HSP:=Lib.hid hsp;have HX0:=Lib.hid hx0;clear hsp hx0;go_upto_region 19 with (first
    | (go_at_call 48;refine HSP.out.mono ?_;rintro e w8 ⟨rfl,h8⟩
       have HS8:=Lib.hid h8;clear h8))
   clear HSP heq c0 c1 c2 c3 n2;go_upto_region 20 with (first
    | (go_at_call 16;refine (HS8.out.bars HC2.out HI.out.1 HI.out.2.2.1 HI.out.2.1 HST.out HX0.out).mono ?_;rintro e w9 ⟨rfl,hU⟩
       have HS9:=Lib.hid (HS8.out.still hU);clear hU))
   have hsp:=HS9.out.spoil2 HI.out.1 HI.out.2.2.1 HI.out.2.1;rw [HT4.out] at hsp;have HSP:=Lib.hid hsp;clear hsp;go_upto_region 21 with (first
    | (go_at_call 48;refine HSP.out.mono ?_;rintro e w10 ⟨rfl,h10⟩
       have HS10:=Lib.hid h10;clear h10))
   clear HSP HS9 HS8;obtain ⟨M2,hV2⟩:=HS10.out.vl;have HV2:=Lib.hid (hV2.open_ (oN HC2.out));clear hV2;go_upto_region 24 with (first
    | (go_at_call 16;refine HV2.out.mono ?_;rintro e w11 ⟨u,rfl,⟨M3,hV3,-⟩,hO⟩
       have H11:=h3k hV3.upd (hV3.old (oN HC2.out)) hO;clear hV3 hO))
   clear HV2 HS10;go_upto_region 25 with (first
    | (go_at_call 12;refine H11.out.2.1.place.mono ?_;rintro r w12 ⟨rfl,hU⟩
       have H12:=Lib.hid hU;clear hU))
   go_upto_region 26 with (first
    | (go_at_call 12;refine (H11.out.2.2.still H12.out).place.mono ?_;rintro r w13 ⟨rfl,hU⟩
       have H13:=Lib.hid (H12.out.then hU wz0);clear hU))
   go_wp2_with fail
   refine (H11.out.2.1.still H13.out).map_.mono ?_;rintro r w14 ⟨m1,mb1,rfl,hm,-,-,hU⟩;have H14:=h2k (H13.out.then hU wz0) hm;clear hU hm;go_wp2_with fail
   refine (oall_c H14.out.2).mono ?_;rintro r w15 ⟨wv,rfl,hO,hfr,hU⟩;have H15:=h2k (H14.out.1.then hU wz0) (trow_all hO H14.out.2);clear hU hO hfr;go_wp2_with fail
   refine (H11.out.2.2.still H15.out.1).map_.mono ?_;rintro r w16 ⟨m2,mb2,rfl,hm,-,-,hU⟩;have H16:=h3k (H15.out.1.then hU wz0) (H15.out.2.still hU) hm;clear hU hm;go_wp2_with fail
   refine (oall_c H16.out.2.2).mono ?_;rintro r w17 ⟨wv2,rfl,hO,hfr,hU⟩;have H17:=h3k (H16.out.1.then hU wz0) (H16.out.2.1.still hU) (trow_all hO H16.out.2.2);clear hU hO hfr;go_wp2_with fail
   refine (same13_c H17.out.2.1 H17.out.2.2).mono ?_;rintro r w18 ⟨rfl,hU⟩;rw [decide_eq_true rfl];have H18:=Lib.hid (H17.out.1.then hU wz0);clear hU;go_wp2_with fail
   refine (wakes_17 _).mono ?_;rintro r w19 ⟨rfl,hU⟩;have H19:=Lib.hid ((HW2.out.2.then H11.out.1 wz0).then (H18.out.then hU wz0) wz0);clear hU;go_wp2_with fail
   go_ret
   exact ⟨rfl,H19.out⟩
  ·exact zz36
end
section
open Go Go.ChangeShapes Go.WideShapes Go.ChangeAt Go.RowKit Go.Proofs.YtbhjgfibhegddaaGreat
theorem common1:laidOutB Tryz.pinned.checked.prog=true:=kR
theorem common2:mapsRowed Tryz.pinned.checked.prog=true:=kR
theorem common6:(Tryz.pinned.checked.prog.stops == [])=true:=kR
theorem common8:(Tryz.pinned.checked.prog.stopKnobs == [])=true:=kR
theorem common22:(Rows.vaultMetasRow.plainKeys == Tryz.pinned.checked.prog.plainKeys)=true:=kR
theorem common24:Tryz.pinned.checked.prog.stopsHeard=true:=kR
theorem common25:Tryz.pinned.checked.prog.mayEnter=true:=kR
theorem common26:(Rows.vaultMetasRow.lifted == Tryz.pinned.checked.prog.liftsFinal)=true:=kR
theorem common27:(Tryz.pinned.checked.prog.make == some Rows.vaultMetasRow.make)=true:=kR
theorem and_mk {a b:Bool} (ha:a=true) (hb:b=true):(a && b)=true:=by rw [ha,hb];rfl
end
end Go.Proofs.YtbhjgfibhegddaaGreat
