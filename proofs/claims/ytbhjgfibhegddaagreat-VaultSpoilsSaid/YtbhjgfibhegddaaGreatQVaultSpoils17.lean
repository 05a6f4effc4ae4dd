/-
  Parts of the proof of VaultSpoils: VatK, VatL, VatM, VatN, VatO, VatP.
-/
import Derived.Test.YtbhjgfibhegddaaGreatQVaultSpoils16
set_option maxRecDepth 100000
set_option maxHeartbeats 16000000
namespace Go.Proofs.YtbhjgfibhegddaaGreat
section
open Go Go.RowKit
def VtO.cl (o:VtO) (v:Nat):Nat→Nat→Prop
 | 0,q=>q=v
 | 1,q=>q ∈ o.F
 | 2,q=>q=o.kb
 | 3,q=>q=o.lb
 | 4,q=>o.lv.ownBlock=some q
 | 5,q=>ringOwn o.rb o.rk o.ents q
 | _,q=>o.rv.ownBlock=some q
def clT:Nat→List TypeId
 | 0=>[117]
 | 1=>[151,9]
 | 2=>[209]
 | 3=>[199]
 | 4=>[9]
 | 5=>[186,269]
 | _=>[35]
theorem VtO.mut_cl {o:VtO} {v q:Nat} (h:o.mut v q):∃i,i≤6∧o.cl v i q:=by
 rcases h with h | h | h | h | h | h | h
 ·exact ⟨0,oM,h⟩
 ·exact ⟨1,oM,h⟩
 ·exact ⟨2,oM,h⟩
 ·exact ⟨3,oM,h⟩
 ·exact ⟨4,oM,h⟩
 ·exact ⟨5,oM,h⟩
 ·exact ⟨6,oM,h⟩
theorem VtO.cl_mut {o:VtO} {v q:Nat} {i:Nat} (h:o.cl v i q):o.mut v q:=by
 match i,h with
 | 0,h=>exact .inl h
 | 1,h=>exact .inr (.inl h)
 | 2,h=>exact .inr (.inr (.inl h))
 | 3,h=>exact .inr (.inr (.inr (.inl h)))
 | 4,h=>exact .inr (.inr (.inr (.inr (.inl h))))
 | 5,h=>exact .inr (.inr (.inr (.inr (.inr (.inl h)))))
 | n+6,h=>exact .inr (.inr (.inr (.inr (.inr (.inr h)))))
theorem clT_all:∀i:Fin 7,∀j:Fin 7,i≠j→(clT i.val).all (fun t => !(clT j.val).contains t)=true∨(i.val=1∧j.val=4)∨(i.val=4∧j.val=1):=dC
theorem clT_apart (i:Nat) (hi:i<7) (j:Nat) (hj:j<7) (h:i≠j) (t:TypeId) (h1:t ∈ clT i) (h2:t ∈ clT j):(i=1∧j=4)∨(i=4∧j=1):=by
 rcases clT_all ⟨i,hi⟩ ⟨j,hj⟩ (fun e=>h (congrArg Fin.val e)) with e | e
 ·have:=List.all_eq_true.1 e t h1
  simp [h2] at this
 ·exact e
section
variable {w w':World} {p v:Nat} {d d':Dk} {V V':VtM} {o o':VtO}
theorem VtAt.cl_kind (h:VtAt w p v d V o) {i q:Nat} (hi:i≤6) (hq:o.cl v i q):(∃t ∈ clT i,Ty w t q)∨(Mp w q∧(i=1∨i=5∧q=o.rk)):=by
 match i,hi,hq with
 | 0,_,hq=>exact .inl ⟨_,by simp [clT],hq ▸ h.blk.ty⟩
 | 1,_,hq =>
   rcases h.disk.kind hq with e | e | e
   ·exact .inl ⟨_,by simp [clT],e⟩
   ·exact .inl ⟨_,by simp [clT],e⟩
   ·exact .inr ⟨e,.inl rfl⟩
 | 2,_,hq=>exact .inl ⟨_,by simp [clT],hq ▸ h.kept.ty⟩
 | 3,_,hq=>exact .inl ⟨_,by simp [clT],hq ▸ h.log.ty⟩
 | 4,_,hq=>exact .inl ⟨_,by simp [clT],h.recs.ty hq⟩
 | 5,_,hq =>
   rcases h.ring.kind hq with e | e | e
   ·exact .inl ⟨_,by simp [clT],e⟩
   ·exact .inl ⟨_,by simp [clT],e⟩
   ·exact .inr ⟨e ▸ h.ring.map.mp,.inr ⟨rfl,e⟩⟩
 | 6,_,hq=>exact .inl ⟨_,by simp [clT],h.rows.ty hq⟩
theorem VtAt.apart (h:VtAt w p v d V o) {i j q:Nat} (hi:i≤6) (hj:j≤6) (hij:i≠j) (h1:o.cl v i q) (h2:o.cl v j q):False:=by
 rcases h.cl_kind hi h1 with ⟨t,e1,e2⟩ | ⟨e1,e2⟩<;>rcases h.cl_kind hj h2 with ⟨t',f1,f2⟩ | ⟨f1,f2⟩
 ·obtain rfl:=e2.inj f2
  rcases clT_apart i oM j oM hij t e1 f1 with ⟨rfl,rfl⟩ | ⟨rfl,rfl⟩
  ·exact h.sep q h2 h1
  ·exact h.sep q h1 h2
 ·exact e2.no_map f1
 ·exact f2.no_map e1
 ·rcases e2 with rfl | ⟨rfl,e⟩<;>rcases f2 with rfl | ⟨rfl,f⟩
  ·exact hij rfl
  ·subst f;exact h.rkF h1
  ·subst e;exact h.rkF h2
  ·exact hij rfl
theorem VtAt.lt (h:VtAt w p v d V o) {i q:Nat} (hi:i≤6) (hq:o.cl v i q):q<w.heap.size:=by
 rcases h.cl_kind hi hq with ⟨t,-,a,b,e⟩ | ⟨⟨a,b,e⟩,-⟩<;>exact (Array.getElem?_eq_some_iff.1 e).1
theorem VtAt.off (h:VtAt w p v d V o) {Z:Nat→Prop} {i k m j:Nat} (hz:∀q,Z q→o.cl v i q∨o.cl v k q∨o.cl v m q) (hj:j≤6∧i≤6∧k≤6∧m≤6∧i≠j∧k≠j∧m≠j) {q:Nat} (hq:o.cl v j q):¬Z q:=by
 intro e;obtain ⟨a,b,c,f,g1,g2,g3⟩:=hj;rcases hz q e with e | e | e
 ·exact h.apart b a g1 e hq
 ·exact h.apart c a g2 e hq
 ·exact h.apart f a g3 e hq
theorem VtStep.mk_ (hu:Upd (o.mut v) w w') (n:Nat) (hn:n=w.heap.size) (h1:∀q ∈ o'.F,q ∈ o.F∨n≤q) (h2:o'.kb=o.kb∨n≤o'.kb) (h3:o'.lb=o.lb∨n≤o'.lb) (h4:∀q,o'.lv.ownBlock=some q→o.lv.ownBlock=some q∨n≤q)
 (h5:∀q,ringOwn o'.rb o'.rk o'.ents q→ringOwn o.rb o.rk o.ents q∨n≤q) (h6:∀q,o'.rv.ownBlock=some q→o.rv.ownBlock=some q∨n≤q) (h7:o'.mb=o.mb∨n≤o'.mb:=by first | exact .inl rfl | assumption):VtStep w w' v o o':=by
 subst hn;refine ⟨hu,fun q hq=>?_,h7⟩;rcases hq with h | h | h | h | h | h | h
 ·exact .inl (.inl h)
 ·exact (h1 q h).imp (fun e=>.inr (.inl e)) id
 ·exact h2.imp (fun e=>.inr (.inr (.inl (h.trans e)))) (fun e=>h ▸ e)
 ·exact h3.imp (fun e=>.inr (.inr (.inr (.inl (h.trans e))))) (fun e=>h ▸ e)
 ·exact (h4 q h).imp (fun e=>.inr (.inr (.inr (.inr (.inl e))))) id
 ·exact (h5 q h).imp (fun e=>.inr (.inr (.inr (.inr (.inr (.inl e)))))) id
 ·exact (h6 q h).imp (fun e=>.inr (.inr (.inr (.inr (.inr (.inr e)))))) id
theorem zz34 {P:Prop} (h:P:=by
 rcases hsub _ hf with e | e
 ·exact h.apart (i:=1) oM hj (fun e=>h1 e.symm) e hq
 ·have:=h.lt hj hq;omega):P:=h
theorem VtAt.kept_ {k':Kp} (h:VtAt w p v d V o) (hP:PutLeft w w' p o.kb d' k' o.F):∃F',VtAt w' p v d' { V with kp:=k' } { o with F:=F' } ∧ VtStep w w' v o { o with F:=F' } := by
 obtain ⟨F',hD,hsub⟩:=hP.disk;have hu:=hP.upd;have hz:∀q,(q=o.kb∨q ∈ o.F)→o.cl v 2 q∨o.cl v 1 q∨o.cl v 1 q:=fun q e=>e.elim .inl fun e=>.inr (.inl e)
 have hm:∀q,(q=o.kb∨q ∈ o.F)→o.mut v q:=fun q e=>(hz q e).elim VtO.cl_mut fun e=>e.elim VtO.cl_mut VtO.cl_mut
 have hs:∀ {j q:Nat},j≤6→o.cl v j q→j≠1→q ∉ F':=fun hj hq h1 hf=>by
  exact zz34
 refine ⟨F',⟨hD,h.blk.upd hu (h.off hz (j:=0) dC rfl),hP.kept,h.log.upd hu (h.off hz (j:=3) dC rfl),h.recs.upd hu (fun q e=>h.off hz (j:=4) dC e),fun q e=>hs (j:=4) oM e oM,h.ring.move hu (fun q e=>h.off hz (j:=5) dC e),hs (j:=5) oM (.inr (.inl rfl)) oM,h.keep_map hu hm,fun e=>?_,h.mbk,h.rows.upd hu (fun q e=>h.off hz (j:=6) dC e),h.ovl,h.keep_each hu hm,h.keep_mts hu hm⟩,VtStep.mk_ (hu.mono fun q e=>.inl (hm q e)) _ rfl hsub (.inl rfl) (.inl rfl) (fun q e=>.inl e) (fun q e=>.inl e) (fun q e=>.inl e)⟩;rcases hsub _ e with e | e
 ·exact h.mbF e
 ·exact absurd h.map.lt.2 (Nat.not_lt.2 e)
theorem VtAt.log_ {g':Lg} (h:VtAt w p v d V o) (hP:AddLeft w w' p o.lb d' g' o.F o.lv):∃F' lv',VtAt w' p v d' { V with lg:=g' } { o with F:=F',lv:=lv' } ∧ VtStep w w' v o { o with F:=F',lv:=lv' } := by
 obtain ⟨F',lv',hD,hsub,hB,hO,hvs,hsep⟩:=hP.ex;have hu:=hP.upd;have hz:∀q,(q=o.lb∨q ∈ o.F∨o.lv.ownBlock=some q)→o.cl v 3 q∨o.cl v 1 q∨o.cl v 4 q:=fun q e=>e
 have hm:∀q,(q=o.lb∨q ∈ o.F∨o.lv.ownBlock=some q)→o.mut v q:=fun q e=>(hz q e).elim VtO.cl_mut fun e=>e.elim VtO.cl_mut VtO.cl_mut
 have hs:∀ {j q:Nat},j≤6→o.cl v j q→j≠1→q ∉ F':=fun hj hq h1 hf=>by
  exact zz34
 refine ⟨F',lv',⟨hD,h.blk.upd hu (h.off hz (j:=0) dC rfl),h.kept.upd hu (h.off hz (j:=2) dC rfl),hB,hO,hsep,h.ring.move hu (fun q e=>h.off hz (j:=5) dC e),hs (j:=5) oM (.inr (.inl rfl)) oM,h.keep_map hu hm,fun e=>?_,h.mbk,h.rows.upd hu (fun q e=>h.off hz (j:=6) dC e),h.ovl,h.keep_each hu hm,h.keep_mts hu hm⟩,VtStep.mk_ (hu.mono fun q e=>.inl (hm q e)) _ rfl hsub (.inl rfl) (.inl rfl) hvs (fun q e=>.inl e) (fun q e=>.inl e)⟩;rcases hsub _ e with e | e
 ·exact h.mbF e
 ·exact absurd h.map.lt.2 (Nat.not_lt.2 e)
theorem VtAt.disk_ {F':List Nat} (h:VtAt w p v d V o) (hL:Left w w' p d' o.F F'):VtAt w' p v d' V { o with F:=F' } ∧ VtStep w w' v o { o with F:=F' } := by
 have hsub:=hL.sub;have hu:=hL.upd;have hz:∀q,q ∈ o.F→o.cl v 1 q∨o.cl v 1 q∨o.cl v 1 q:=fun q e=>.inl e
 have hm:∀q,q ∈ o.F→o.mut v q:=fun q e=>.inr (.inl e)
 have hs:∀ {j q:Nat},j≤6→o.cl v j q→j≠1→q ∉ F':=fun hj hq h1 hf=>by
  exact zz34
 refine ⟨⟨hL.disk,h.blk.upd hu (h.off hz (j:=0) dC rfl),h.kept.upd hu (h.off hz (j:=2) dC rfl),h.log.upd hu (h.off hz (j:=3) dC rfl),h.recs.upd hu (fun q e=>h.off hz (j:=4) dC e),fun q e=>hs (j:=4) oM e oM,h.ring.move hu (fun q e=>h.off hz (j:=5) dC e),hs (j:=5) oM (.inr (.inl rfl)) oM,h.keep_map hu hm,fun e=>?_,h.mbk,h.rows.upd hu (fun q e=>h.off hz (j:=6) dC e),h.ovl,h.keep_each hu hm,h.keep_mts hu hm⟩,VtStep.mk_ (hu.mono fun q e=>.inl (hm q e)) _ rfl hsub (.inl rfl) (.inl rfl) (fun q e=>.inl e) (fun q e=>.inl e) (fun q e=>.inl e)⟩;rcases hsub _ e with e | e
 ·exact h.mbF e
 ·exact absurd h.map.lt.2 (Nat.not_lt.2 e)
theorem VtAt.ring_ {n' cur':Nat} {ents':List (Int × Nat)} (h:VtAt w p v d V o) (hR:RgE (ringOwn o.rb o.rk o.ents) w w' o.rb (str masterL) cur' V.st.boot n' o.rk ents'):VtAt w' p v d { V with n:=n',cur:=cur' } { o with ents:=ents' } ∧ VtStep w w' v o { o with ents:=ents' } := by
 have hu:=hR.upd;have hz:∀q,ringOwn o.rb o.rk o.ents q→o.cl v 5 q∨o.cl v 5 q∨o.cl v 5 q:=fun q e=>.inl e
 have hm:∀q,ringOwn o.rb o.rk o.ents q→o.mut v q:=fun q e=>VtO.cl_mut (i:=5) e
 refine ⟨⟨h.disk.upd hu (fun q e=>h.off hz (j:=1) dC e),h.blk.upd hu (h.off hz (j:=0) dC rfl),h.kept.upd hu (h.off hz (j:=2) dC rfl),h.log.upd hu (h.off hz (j:=3) dC rfl),h.recs.upd hu (fun q e=>h.off hz (j:=4) dC e),h.sep,hR.here,h.rkF,h.keep_map hu hm,h.mbF,h.mbk,h.rows.upd hu (fun q e=>h.off hz (j:=6) dC e),h.ovl,h.keep_each hu hm,h.keep_mts hu hm⟩,VtStep.mk_ (hu.mono fun q e=>.inl (hm q e)) _ rfl (fun q e=>.inl e) (.inl rfl) (.inl rfl) (fun q e=>.inl e) (fun q e=>hR.own_is q e) (fun q e=>.inl e)⟩
theorem VtAt.cells_ (h:VtAt w p v d V o) (hu:Upd (· = v) w w') (hF:o'.F=o.F) (hkb:o'.kb=o.kb) (hrb:o'.rb=o.rb) (hrk:o'.rk=o.rk) (he:o'.ents=o.ents) (hB:Blk w' v 117 (vtRow V' p o')) (hk:V'.kp=V.kp) (hc:V'.cur=V.cur) (hn:V'.n=V.n) (hbt:V'.st.boot=V.st.boot)
 (hl:Blk w' o'.lb 199 (V'.lg.cells p o'.lv)) (hr:Own w' 9 1 o'.lv V'.lg.l.length (strs V'.lg.l)) (hs:∀q,o'.lv.ownBlock=some q→q ∉ o.F)
 (hm:MapAt w' o'.m o'.mb V'.S) (hmF:o'.mb ∉ o.F) (hmk:o'.mb≠o.rk) (hrows:Own w' 35 3 o'.rv V'.rows.length (rowsV V'.rows o'.ovs)) (hov:o'.ovs.length=V'.rows.length)
 (heach:∀(i:Nat) (b:BatM) (ov:Value),V'.rows[i]? = some b→o'.ovs[i]? = some ov→TRow w' 32 3 ov (b.ops.map opRow)) (hmts:TRow w' 46 2 o'.mv (V'.st.m.mounts.map mtRow)):VtAt w' p v d V' o':=by
 have hz:∀q,q=v→o.cl v 0 q∨o.cl v 0 q∨o.cl v 0 q:=fun q e=>.inl e
 refine ⟨hF ▸ h.disk.upd hu (fun q e=>h.off hz (j:=1) dC e),hB,?_,hl,hr,by rw [hF];exact hs,?_,by rw [hF,hrk];exact h.rkF,hm,by rw [hF];exact hmF,by rw [hrk];exact hmk,hrows,hov,heach,hmts⟩
 ·rw [hkb,hk];exact h.kept.upd hu (h.off hz (j:=2) dC rfl)
 ·rw [hrb,hrk,he,hc,hn,hbt];exact h.ring.move hu (fun q e=>h.off hz (j:=5) dC e)
theorem VtAt.not_v (h:VtAt w p v d V o) {j q:Nat} (hj:j≤6∧0≠j) (hq:o.cl v j q):¬q=v:=fun e=>h.apart (i:=0) oM hj.1 hj.2 e hq
theorem upd_cell {w:World} {b n:Nat} {x:Value} : Upd (· = b) w (w.setCell ⟨b,n,none⟩ x):=(Upd.refl (fun q=>q=b) w).setCell (p:=⟨b,n,none⟩) (.inl rfl) _
theorem VtAt.nums_ (h:VtAt w p v d V o) (hu:Upd (· = v) w w') {mv':Value} (hB:Blk w' v 117 (vtRow V' p { o with mv:=mv' })) (hk:V'.kp=V.kp) (hl:V'.lg=V.lg) (hS:V'.S=V.S) (hr:V'.rows=V.rows) (hc:V'.cur=V.cur) (hn:V'.n=V.n) (hbt:V'.st.boot=V.st.boot)
 (hmts:TRow w' 46 2 mv' (V'.st.m.mounts.map mtRow)):VtAt w' p v d V' { o with mv:=mv' } ∧ VtStep w w' v o { o with mv:=mv' } := by
 have hm:∀q,q=v→o.mut v q:=fun q e=>.inl e
 refine ⟨h.cells_ hu rfl rfl rfl rfl rfl hB hk hc hn hbt ?_ ?_ h.sep ?_ h.mbF h.mbk ?_ (by rw [hr];exact h.ovl) ?_ hmts,VtStep.mk_ (hu.mono fun q e=>.inl (hm q e)) _ rfl (fun q e=>.inl e) (.inl rfl) (.inl rfl) (fun q e=>.inl e) (fun q e=>.inl e) (fun q e=>.inl e)⟩
 ·rw [hl];exact h.log.upd hu (h.not_v (j:=3) dC rfl)
 ·rw [hl];exact h.recs.upd hu (fun q e=>h.not_v (j:=4) dC e)
 ·rw [hS];exact h.keep_map hu hm
 ·rw [hr];exact h.rows.upd hu (fun q e=>h.not_v (j:=6) dC e)
 ·rw [hr];exact h.keep_each hu hm
end
theorem Blk.cells21 {w:World} {g:Nat} {t:TypeId} {a b c d e f h i j k l m n o p q r s u v x:Value} (z:Blk w g t #[a,b,c,d,e,f,h,i,j,k,l,m,n,o,p,q,r,s,u,v,x]) :
 w.cell? ⟨g,0,none⟩=some a∧w.cell? ⟨g,1,none⟩=some b∧w.cell? ⟨g,2,none⟩=some c∧w.cell? ⟨g,3,none⟩=some d∧w.cell? ⟨g,4,none⟩=some e∧w.cell? ⟨g,5,none⟩=some f∧w.cell? ⟨g,6,none⟩=some h∧w.cell? ⟨g,7,none⟩=some i∧w.cell? ⟨g,8,none⟩=some j∧w.cell? ⟨g,20,none⟩=some x :=
 ⟨z.cell 0,z.cell 1,z.cell 2,z.cell 3,z.cell 4,z.cell 5,z.cell 6,z.cell 7,z.cell 8,z.cell 20⟩
section
variable {w w':World} {p v:Nat} {d d':Dk} {V V':VtM} {o o':VtO}
theorem VtAt.down_ (h:VtAt w p v d V o):VtAt (w.setCell ⟨v,20,none⟩ (.bool true)) p v d { V with down:=true } o∧VtStep w (w.setCell ⟨v,20,none⟩ (.bool true)) v o o:=by
 have hu:Upd (· = v) w (w.setCell ⟨v,20,none⟩ (.bool true)):=upd_cell;exact h.nums_ (V' := { V with down:=true }) (mv':=o.mv) hu (by
  have:=h.blk.set_ 20 (.bool true);simpa [vtRow] using this) rfl rfl rfl rfl rfl rfl rfl (h.keep_mts hu (fun q e=>.inl e))
theorem told_c (h:VtAt w p v d V o) (x:Int):Calls Tryz.prog 59 #[.pointer (some ⟨v,0,none⟩),.int .i64 x] w fun e w'=>e=.returned (.int .i64 x)∧VtAt w' p v d (V.told x) o∧VtStep w w' v o o:=by
 have hB:=h.blk;unfold vtRow at hB;have hc:=hB.cells21;have hz:=hB.frozen 20;have H:=Lib.hid h;clear h hB;by_cases hx:x=14
 ·subst hx
  go_enter Tryz.func59,Tryz.ntmps59
  go_wp2
  go_ret
  refine ⟨rfl,?_⟩;rw [show V.told 14 = { V with down:=true } by unfold VtM.told;simp]
  exact H.out.down_
 ·have hx':(x == 14)=false:=by simpa using hx
  go_enter Tryz.func59,Tryz.ntmps59
  go_wp2
  go_ret
  refine ⟨rfl,?_⟩;rw [show V.told x=V by unfold VtM.told;simp [hx]]
  exact ⟨H.out,VtStep.refl _ _ _⟩
theorem off_c (h:VtAt w p v d V o):Calls Tryz.prog 53 #[.pointer (some ⟨v,0,none⟩)] w fun e w'=>e=.returned (.int .i64 (if offV d V then 14 else 0))∧VtAt w' p v d (if offV d V then { V with down:=true } else V) o∧VtStep w w' v o o∧(offV d V=false→w=w'):=by
 have hB:=h.blk;unfold vtRow at hB;have hc:=hB.cells21;have hz:=hB.frozen 20;have HD:=Lib.hid (down_c h.disk);have H:=Lib.hid h;clear h hB;cases hd:V.down
 ·rw [hd] at hc
  cases ho:d.off
  ·rw [ho] at HD
   have e:offV d V=false:=by unfold offV;rw [hd,ho];rfl
   rw [e];clear e ho hd;go_enter Tryz.func53,Tryz.ntmps53
   go_wp2_with (go_at_call 33;refine HD.out.mono ?_;rintro e w' ⟨rfl,rfl⟩);go_ret
   exact ⟨rfl,H.out,VtStep.refl _ _ _,rfl⟩
  ·rw [ho] at HD
   have e:offV d V=true:=by unfold offV;rw [hd,ho];rfl
   rw [e];clear e ho hd;go_enter Tryz.func53,Tryz.ntmps53
   go_wp2_with (go_at_call 33;refine HD.out.mono ?_;rintro e w' ⟨rfl,rfl⟩);go_ret
   exact ⟨rfl,H.out.down_.1,H.out.down_.2⟩
 ·rw [hd] at hc
  have e:offV d V=true:=by unfold offV;rw [hd];rfl
  rw [e];clear e hd;go_enter Tryz.func53,Tryz.ntmps53
  go_wp2_with fail
  go_ret
  exact ⟨rfl,H.out.down_.1,H.out.down_.2⟩
end
theorem Put_any {w:World} {p b:Nat} {d:Dk} {F:List Nat} {k:Kp} (hD:DiskAt w p d F) (hK:Blk w b 209 (k.cells p)) (s:ByteArray)
 (hseen:k.seen<18446744073709551616) (hat:k.at_≤1) (hf:k.from_≤4096) (hp:d.pend+20<1000000) :
 Calls Tryz.prog 127 #[.pointer (some ⟨b,0,none⟩),.string s] w fun e w'=>e=.returned (.int .i64 (putK d k s.data.toList).2.2)∧PutLeft w w' p b (putK d k s.data.toList).1 (putK d k s.data.toList).2.1 F:=by
 have hl:s.data.toList.length=s.size:=by simp
 have hno:PutLeft w w p b d k F:=⟨⟨F,hD,fun q e=>.inl e⟩,hK,Upd.refl _ _⟩;by_cases h:k.broken=true∨400<s.size∨k.seen=18446744073709551615
 ·refine (Put_refused hK s h).mono ?_
  rintro e w' ⟨rfl,rfl⟩;unfold putK;rw [hl];by_cases h1:k.broken=true
  ·rw [if_pos h1,if_pos h1];exact ⟨rfl,hno⟩
  ·rw [if_neg h1,if_neg h1]
   by_cases h2:400<s.size
   ·rw [if_pos h2,if_pos h2];exact ⟨rfl,hno⟩
   ·rw [if_neg h2,if_neg h2,if_pos (by rcases h with h | h | h;exact absurd h h1;exact absurd h h2;exact h)];exact ⟨rfl,hno⟩
 ·simp only [not_or] at h
  exact Put_goes hD hK s (by simpa using h.1) oM oM hat hf hp
theorem stRow_one (s:StM) (mv:Value) (h:mv.oneCell'=true):(stRow s mv).all (·.oneCell')=true:=by
 simp only [stRow,List.all_toArray,List.all_cons,List.all_nil,h,Bool.and_true];simp [Value.oneCell']
section
variable {w w':World} {p v:Nat} {d d':Dk} {V V':VtM} {o o':VtO}
theorem put_c (h:VtAt w p v d V o) (s:StM) (hs:StOk s) {mv:Value} (hmv:TRow w 46 2 mv (s.m.mounts.map mtRow)) (hb0:s.boot=V.st.boot) (hcur:V.cur≤1048576) (hn:V.n<4611686018427387904)
 (hseen:V.kp.seen<18446744073709551616) (hat:V.kp.at_≤1) (hf:V.kp.from_≤4096) (hp:d.pend+20<1000000) :
 Calls Tryz.prog 67 #[.pointer (some ⟨v,0,none⟩),.agg (stRow s mv)] w fun e w'=>e=.returned (.int .i64 (putV d V s).2.2)∧∃o',VtAt w' p v (putV d V s).1 (putV d V s).2.1 o'∧VtStep w w' v o o':=by
 obtain ⟨A,cap,mb,mo,hmv1,hmv2,hmv3,hmv4,hmv5⟩:=hmv.mts;have hrb:V.st.boot<4294967296:=by have:=hs.boot;omega
 have hsl:s.m.secret.length≤64:=(rightM_ok hs.right).sec;obtain ⟨X,hX⟩:=eqx (V.wrap sSecret s.m.secret);have hXl:X.length≤116:=by
  rw [← hX];have:=sealB_len (k:=ringK masterL V.cur) (about:=sSecret) hcur hrb (show V.n<18446744073709551616 by omega) (show s.m.secret.length≤8192 by omega);unfold VtM.wrap;omega
 have hput:putV d V s=if (putK d V.kp (stB s X)).2.2≠0 then ((putK d V.kp (stB s X)).1,({ V.next with kp:=(putK d V.kp (stB s X)).2.1 } : VtM).told (putK d V.kp (stB s X)).2.2,(putK d V.kp (stB s X)).2.2) else ((putK d V.kp (stB s X)).1,{ V.next with kp:=(putK d V.kp (stB s X)).2.1,st:=s },0):=by
  unfold putV;rw [hX]
 obtain ⟨c,hc⟩:=eqx w.heap.size;obtain ⟨C,hC⟩:=eqx (stRow s mv);have hC1:C.all (·.oneCell')=true:=by rw [← hC];exact stRow_one s mv (by rw [hmv1];rfl)
 have hC4:C[4]? = some (.string (str s.m.secret)):=by rw [← hC];rfl
 have hCs:C.size=11:=by rw [← hC];rfl
 have HP:=Lib.hid hput;have HC:=h4k hC hC1 hC4 hCs;have HM:=h6k hmv hmv1 hmv2 hmv3 hmv4 hmv5;have HS:=h4k hs hb0 hsl hrb;have HX:=h2k hX hXl;have HN:=h6k hcur hn hseen hat hf hp;have H:=Lib.hid h;have Hc:=Lib.hid hc;rw [hC];clear h hs hmv hb0 hcur hn hseen hat hf hp hmv1 hmv2 hmv3 hmv4 hmv5 hrb hsl hX hXl hput hc hC hC1 hC4 hCs;go_enter Tryz.func67,Tryz.ntmps67
 go_upto_region 1 with fail
 rw [Hc.out];generalize hw1:World.alloc _ _=w1;have hB1:Blk w1 c 115 C:=by rw [← hw1,← Hc.out];exact Blk.new w _ _
 have hU1:Upd (fun _=>False) w w1:=by rw [← hw1];exact (Upd.refl _ w).alloc _
 have hs1:c<w1.heap.size:=hB1.lt;have H1:=h4k hB1 hU1 hs1 (H.out.still hU1);clear hB1 hU1 hs1 hw1;refine wp_region_noPanic ?_;refine wp_region_T (S:=fun w'=>Blk w' c 115 C∧w'.cell? ⟨v,8,none⟩=some (.pointer (some ⟨o.rb,0,none⟩))) (T:=fun _=>false) kR ?_;have hS0:Blk w1.drew c 115 C∧w1.drew.cell? ⟨v,8,none⟩=some (.pointer (some ⟨o.rb,0,none⟩)):=⟨H1.out.1.drew,H1.out.2.2.2.blk.cell 8⟩;have HCK:=Lib.hid (fun (w':World) (h:Blk w' c 115 C)=>(h.cell 4).trans HC.out.2.2.1);refine tK8 0 ?_;refine tK8 1 ?_;refine tK8 2 ?_;refine tQ8 3 (fun w' hSw=>hSw.2) ?_;refine tK8 4 ?_;refine tK8 5 ?_;refine tQ8 6 (fun w' hSw=>HCK.out _ hSw.1) ?_;refine wo1 7 (fun KK hKK=>?_);go_simp
 have hX2:sealB (ringK (str masterL).data.toList V.cur) V.cur V.st.boot V.n (str sSecret).data.toList (str s.m.secret).data.toList=X:=by rw [← HX.out.1,str_list,str_list,str_list];rfl
 have hwr:=rwrap_c (H1.out.2.2.2.still (Upd.refl (fun _=>False) w1).drew).ring (by rw [str_size];decide) HN.out.1 (oO HS.out.2.1 HS.out.2.2.2) HN.out.2.1 (str sSecret) (str s.m.secret) dC (by rw [str_size];have:=HS.out.2.2.1;omega);rw [hX2] at hwr;refine hwr.mono ?_;rintro e w2 ⟨rfl,ents',hR⟩;have hA2:=(H1.out.2.2.2.still (Upd.refl (fun _=>False) w1).drew).ring_ hR;have hB2:Blk w2 c 115 C:=hS0.1.upd hR.upd (fun e=>by have e1:=H.out.lt (i:=5) dC e;have e2:=Hc.out;omega);have hS2:Blk w2 c 115 C∧w2.cell? ⟨v,8,none⟩=some (.pointer (some ⟨o.rb,0,none⟩)):=⟨hB2,hA2.1.blk.cell 8⟩;refine hKK.out _ _ hS2 ?_;have H2:=h2k hA2 hB2;clear hKK hA2 hB2 hX2 hR hwr;refine tK8 8 ?_;refine tK8 9 ?_;refine tK8 10 ?_;refine tK8 11 ?_;refine tK8 12 ?_;refine wdn ?_;refine NoPanic.normal ?_;clear hS0 hS2 HCK;go_upto_region 4 with fail
 obtain ⟨P,hP⟩:=eqx (putK d V.kp (stB s X));have HPP:=Lib.hid hP;clear hP;refine wp_region_noPanic ?_;refine wp_region_T (S:=fun w'=>Blk w' c 115 C∧w'.cell? ⟨v,6,none⟩=some (.pointer (some ⟨o.kb,0,none⟩))) (T:=fun _=>false) kR ?_;have hS0:Blk w2.drew c 115 C∧w2.drew.cell? ⟨v,6,none⟩=some (.pointer (some ⟨o.kb,0,none⟩)):=⟨H2.out.2.drew,H2.out.1.1.blk.cell 6⟩;refine tK8 0 ?_;refine tK8 1 ?_;refine tK8 2 ?_;refine tQ8 3 (fun w' hSw=>hSw.2) ?_;refine tT8 4 (.agg C) (takes_load_all rfl (by rfl) _ _ rfl c (by rfl) _ _ _ (fun w' hSw=>hSw.1) Tryz.underlying115 rfl (by rw [HC.out.2.2.2];kernel_rfl)) ?_
 refine tK8 5 ?_;refine wo1 6 (fun KK hKK=>?_);go_simp
 have hU2:Upd (o.mut v) w w2.drew:=((H1.out.2.1.mono wz0).drew.then H2.out.1.2.upd (fun q e=>.inl e)).drew;have htx:=stext_c (w:=w2.drew) (A:=A) (cap:=cap) (b:=mb) (off:=mo) s HS.out.1 HM.out.2.2.2.2.1 (fun w' hu=>HM.out.2.2.2.2.2 w' (o.mut v) (hU2.then hu wz0) (fun b ht=>H.out.not_mut (ht dC) dC)) (str X) (by rw [str_size];have:=HX.out.2;omega);rw [← HM.out.2.1,HC.out.1,str_list] at htx;refine htx.mono ?_;rintro e w3 ⟨rfl,hu3⟩;have hA3:=(H2.out.1.1.still (Upd.refl (fun _=>False) w2).drew).still hu3;have hS3:Blk w3 c 115 C∧w3.cell? ⟨v,6,none⟩=some (.pointer (some ⟨o.kb,0,none⟩)):=⟨hS0.1.upd hu3 (fun e=>e),hA3.blk.cell 6⟩;refine hKK.out _ _ hS3 ?_;have H3:=h3k hA3 hu3 hS3;clear hKK hA3 hu3 htx hU2;refine wo1 7 (fun KK hKK=>?_);go_simp
 have hpa:=Put_any H3.out.1.disk H3.out.1.kept (str (stB s X)) HN.out.2.2.1 HN.out.2.2.2.1 HN.out.2.2.2.2.1 HN.out.2.2.2.2.2;rw [str_list] at hpa;refine hpa.mono ?_;rintro e w4 ⟨rfl,hPL⟩;obtain ⟨F',hA4,hT4⟩:=H3.out.1.kept_ hPL;have hS4:Blk w4 c 115 C∧w4.cell? ⟨v,6,none⟩=some (.pointer (some ⟨o.kb,0,none⟩)):=⟨hS3.1.upd hPL.upd (fun e=>by
  have e2:=Hc.out;rcases e with e | e
  ·have e1:=H.out.lt (i:=2) (q:=c) dC e;omega
  ·have e1:=H.out.lt (i:=1) (q:=c) dC e;omega),hA4.blk.cell 6⟩
 refine hKK.out _ _ hS4 ?_;have H4:=h3k hA4 hT4 hS4.1;clear hKK hA4 hT4 hPL hpa;refine tK8 8 ?_;refine wdn ?_;refine NoPanic.normal ?_;clear hS0 hS3 hS4;have HT:=Lib.hid (((VtStep.mk (o:=o) (o':=o) (v:=v) (H1.out.2.1.mono wz0).drew (fun q e=>.inl e)).trans (H2.out.1.2.still (Upd.refl (fun _=>False) w2).drew)).still H3.out.2.1 |>.trans H4.out.2.1);obtain ⟨E,hE⟩:=eqx (putK d V.kp (stB s X)).2.2;rw [hE];by_cases h0:E=0
 ·subst h0
  have HE:=Lib.hid hE;clear hE;have hsz:9+C.size≤(vtRow { V.next with kp:=(putK d V.kp (stB s X)).2.1 } p { o with ents:=ents',F:=F' }).size:=by rw [HC.out.2.2.2];exact Nat.le_of_ble_eq_true rfl
  have hnew:(vtRow { V.next with kp:=(putK d V.kp (stB s X)).2.1 } p { o with ents:=ents',F:=F' }).toList.take 9++C.toList++(vtRow { V.next with kp:=(putK d V.kp (stB s X)).2.1 } p { o with ents:=ents',F:=F' }).toList.drop (9+C.size)=(vtRow { V.next with kp:=(putK d V.kp (stB s X)).2.1,st:=s } p { o with ents:=ents',F:=F',mv:=mv }).toList:=by rw [HC.out.2.2.2,← HC.out.1];rfl
  have hblk:Blk w4 v 117 (vtRow { V.next with kp:=(putK d V.kp (stB s X)).2.1 } p { o with ents:=ents',F:=F' }):=H4.out.1.blk;go_wp2_with (first
   | (refine wlx _ c H4.out.2.2 Tryz.underlying115 (by rw [HC.out.2.2.2];kernel_rfl) ?_)
   | (refine wpList_store_part rfl 115 _ _ rfl v 9 C rfl rfl _ _ (vtRow { V.next with kp:=(putK d V.kp (stB s X)).2.1,st:=s } p { o with ents:=ents',F:=F',mv:=mv }) hblk hsz hnew HC.out.2.1 (by rw [HC.out.2.2.2];kernel_rfl) ?_
      intro w5 hB5 hU5 hs5))
  go_ret
  have hmv5:TRow w5 46 2 mv (s.m.mounts.map mtRow):=HM.out.1.upd (HT.out.upd.then hU5 (fun q e=>.inl (.inl e))) (fun b ht=>H.out.not_mut ht dC);have h5:=H4.out.1.nums_ (V' := { V.next with kp:=(putK d V.kp (stB s X)).2.1,st:=s }) hU5 hB5 rfl rfl rfl rfl rfl rfl HS.out.2.1 hmv5;rw [HP.out,if_neg (by rw [HE.out];simp)]
  exact ⟨rfl,_,h5.1,HT.out.trans h5.2⟩
 ·have hE0:(E != 0)=true:=by simpa using h0
  have HE:=h2k hE h0;have HTD:=Lib.hid (told_c H4.out.1 E);clear hE h0;go_wp2_with (first
   | (go_at_call 59;refine HTD.out.mono ?_;rintro e w5 ⟨rfl,h5,k5⟩))
  go_ret
  rw [HP.out,if_pos (by rw [HE.out.1];exact HE.out.2),HE.out.1];exact ⟨rfl,_,h5,HT.out.trans k5⟩
end
theorem flatten_at {k:Nat} : ∀(l:List (List Value)),(∀c ∈ l,c.length=k)→∀(j:Nat) (u:Value),l.flatten[j]? = some u→∃i c r,l[i]? = some c∧c[r]? = some u∧j=i*k+r:=by
 intro l;induction l with
 | nil=>intro _ j u h;simp at h
 | cons x y ih =>
   intro hl j u h;have hx:=hl x sM;rw [List.flatten_cons] at h;by_cases hj:j<x.length
   ·rw [List.getElem?_append_left hj] at h
    exact ⟨0,x,j,rfl,h,oM⟩
   ·rw [List.getElem?_append_right oM] at h
    obtain ⟨i,c,r,e1,e2,e3⟩:=ih (fun c hc=>hl c (by simp [hc])) _ _ h;exact ⟨i+1,c,r,e1,e2,by rw [Nat.succ_mul];omega⟩
theorem flatten_len {k:Nat} : ∀(l:List (List Value)),(∀c ∈ l,c.length=k)→l.flatten.length=l.length*k:=by
 intro l;induction l with
 | nil=>intro _;simp
 | cons x y ih =>
   intro hl;rw [List.flatten_cons,List.length_append,ih fun c hc=>hl c (by simp [hc]),hl x sM,List.length_cons,Nat.succ_mul];omega
theorem TRow.src {w:World} {t xT e:TypeId} {k:Nat} {v:Value} {cs:List (List Value)} (h:TRow w t k v cs) (ht:Tryz.prog.underlying xT=some (.slice e)) (hk:∀c ∈ cs,c.length=k):Src Tryz.prog w xT k v cs.length cs.flatten:=by
 obtain ⟨A,cap,h1,h2,h3,h4⟩:=h;subst h1;cases A with
 | none =>
   have h0:cs=[]:=List.eq_nil_of_length_eq_zero (Nat.eq_zero_of_not_pos fun h=>by obtain ⟨b,off,cur,t',fr,e1,-⟩:=h4 h;cases e1)
   subst h0;exact Src.of_nil ht cap
 | some a =>
   refine Src.of_addr ht a _ _ (flatten_len cs hk) fun j u hj=>?_
   obtain ⟨i,c,r,e1,e2,rfl⟩:=flatten_at cs hk j u hj;obtain ⟨b,off,cur,t',fr,f1,f2,-,f3⟩:=h4 (oN (List.getElem?_eq_some_iff.1 e1).1);cases f1
   have:=f3 i c e1 r u e2;rw [show (⟨b,off,none⟩:Addr).add (i*k+r)=⟨b,off+(i*k+r),none⟩ from by simp [Addr.add]];rw [cell_of_row w b _ cur t' fr f2,← Nat.add_assoc];exact this
theorem zz8 {P:Prop} (h:P:=by
 go_ret
 obtain ⟨hO2,hU2,hl2⟩:=H2.out;refine ⟨v',rfl,TRow.of_own (n:=cs.length) (by simpa using hO2) rfl (oN HK.out.2.2.2) (fun c hc=>(HK.out.2.2.1 c hc).1),((Upd.refl _ w).alloc _).then hU2 (fun b e=>.inr (by have e2:=Option.some.inj (show some w.heap.size=some b from e);omega)),fun q hq=>?_,by simpa using hO2⟩;rcases hl2 with e | e
 ·rw [hq] at e
  have e2:q=w.heap.size:=Option.some.inj e;omega
 ·rw [hq] at e
  have e2:=Option.some.inj e;rw [World.size_alloc] at e2;omega):P:=h
theorem mtclone_f {w:World} {t:TypeId} {v:Value} {cs:List (List Value)} (h:TRow w t 2 v cs) (hk:∀c ∈ cs,c.length=2∧∀u ∈ c,u.oneCell'=true) (hl:cs.length≤1000) :
 Calls Tryz.prog 135 #[v] w fun e w'=>∃v',e=.returned v'∧TRow w' 46 2 v' cs∧Upd (fun _=>False) w w'∧(∀q,v'.ownBlock=some q→w.heap.size≤q)∧Own w' 46 2 v' cs.length cs.flatten:=by
 obtain ⟨i0,hi0,hz0,hz1,hz2⟩:=info_parts infoMount;have H:=Lib.hid h;have hone:∀u ∈ cs.flatten,u.oneCell'=true:=fun u hu=>by
  obtain ⟨c,hc,hu⟩:=List.mem_flatten.1 hu;exact (hk c hc).2 u hu
 have hfl:=flatten_len cs (fun c hc=>(hk c hc).1);obtain ⟨A,cap,e,h1,h2,h3⟩:=h;subst e;cases A with
 | none =>
   have hnil:=fun W=>slice_some none cs.length cap W 47 _ Tryz.underlying47
   simp only [Option.isNone_none] at hnil;have h0:cs=[]:=List.eq_nil_of_length_eq_zero (Nat.eq_zero_of_not_pos fun h=>by obtain ⟨b,off,cur,t',fr,e1,-⟩:=h3 h;cases e1)
   have H0:=Lib.hid h0;clear h0 h1 h2 h3 hone hfl hk hl;go_enter Tryz.func135,Tryz.ntmps135
   go_wp2_with fail
   go_ret
   have h0:=H0.out;subst h0;exact ⟨_,rfl,⟨none,0,rfl,Nat.le_refl _,sM,fun h=>by simp at h⟩,Upd.refl _ _,by simp [Value.ownBlock],Own.nil _ _ _⟩
 | some a =>
   have hnil:=fun W=>slice_some (some a) cs.length cap W 47 _ Tryz.underlying47
   simp only [Option.isNone_some] at hnil;have HK:=h4k hone hfl hk hl;clear h1 h2 h3 hone hfl hk hl;go_enter Tryz.func135,Tryz.ntmps135
   have hO0:Own (w.alloc (.cells #[] 46)) 46 2 (.slice (some ⟨w.heap.size,0,none⟩) 0 0) 0 []:=⟨sM,.inr ⟨w.heap.size,0,#[],(0,0),rfl,heap_alloc_new w _,.inl rfl,Nat.le_refl _,sM,rfl,rfl⟩⟩;have HO0:=Lib.hid hO0;clear hO0
   go_wp2_with (at_builtin
                refine wpList_append_src rfl _ _ _ _ rfl 46 i0 _ 2 24 Tryz.underlying47 hi0 hz0 hz1 hz2 rfl _ 0 _ rfl HO0.out _ cs.length cs.flatten rfl ((H.out.still ((Upd.refl _ w).alloc _)).src Tryz.underlying47 fun c hc=>(HK.out.2.2.1 c hc).1) HK.out.1 (by have:=HK.out.2.2.2;unfold maxLen;omega) (oN HK.out.2.2.2) ?_;intro v' w2 hO2 hU2 hl2 hs2;have H2:=h3k hO2 hU2 hl2;clear hO2 hU2 hl2 hs2)
   exact zz8
theorem opclone_f {w:World} {t:TypeId} {v:Value} {cs:List (List Value)} (h:TRow w t 3 v cs) (hk:∀c ∈ cs,c.length=3∧∀u ∈ c,u.oneCell'=true) (hl:cs.length≤1000) :
 Calls Tryz.prog 68 #[v] w fun e w'=>∃v',e=.returned v'∧TRow w' 32 3 v' cs∧Upd (fun _=>False) w w'∧(∀q,v'.ownBlock=some q→w.heap.size≤q)∧Own w' 32 3 v' cs.length cs.flatten:=by
 obtain ⟨i0,hi0,hz0,hz1,hz2⟩:=info_parts infoOp;have H:=Lib.hid h;have hone:∀u ∈ cs.flatten,u.oneCell'=true:=fun u hu=>by
  obtain ⟨c,hc,hu⟩:=List.mem_flatten.1 hu;exact (hk c hc).2 u hu
 have hfl:=flatten_len cs (fun c hc=>(hk c hc).1);obtain ⟨A,cap,e,h1,h2,h3⟩:=h;subst e;cases A with
 | none =>
   have hnil:=fun W=>slice_some none cs.length cap W 33 _ Tryz.underlying33
   simp only [Option.isNone_none] at hnil;have h0:cs=[]:=List.eq_nil_of_length_eq_zero (Nat.eq_zero_of_not_pos fun h=>by obtain ⟨b,off,cur,t',fr,e1,-⟩:=h3 h;cases e1)
   have H0:=Lib.hid h0;clear h0 h1 h2 h3 hone hfl hk hl;go_enter Tryz.func68,Tryz.ntmps68
   go_wp2_with fail
   go_ret
   have h0:=H0.out;subst h0;exact ⟨_,rfl,⟨none,0,rfl,Nat.le_refl _,sM,fun h=>by simp at h⟩,Upd.refl _ _,by simp [Value.ownBlock],Own.nil _ _ _⟩
 | some a =>
   have hnil:=fun W=>slice_some (some a) cs.length cap W 33 _ Tryz.underlying33
   simp only [Option.isNone_some] at hnil;have HK:=h4k hone hfl hk hl;clear h1 h2 h3 hone hfl hk hl;go_enter Tryz.func68,Tryz.ntmps68
   have hO0:Own (w.alloc (.cells #[] 32)) 32 3 (.slice (some ⟨w.heap.size,0,none⟩) 0 0) 0 []:=⟨sM,.inr ⟨w.heap.size,0,#[],(0,0),rfl,heap_alloc_new w _,.inl rfl,Nat.le_refl _,sM,rfl,rfl⟩⟩;have HO0:=Lib.hid hO0;clear hO0
   go_wp2_with (at_builtin
                refine wpList_append_src rfl _ _ _ _ rfl 32 i0 _ 3 40 Tryz.underlying33 hi0 hz0 hz1 hz2 rfl _ 0 _ rfl HO0.out _ cs.length cs.flatten rfl ((H.out.still ((Upd.refl _ w).alloc _)).src Tryz.underlying33 fun c hc=>(HK.out.2.2.1 c hc).1) HK.out.1 (by have:=HK.out.2.2.2;unfold maxLen;omega) (oN HK.out.2.2.2) ?_;intro v' w2 hO2 hU2 hl2 hs2;have H2:=h3k hO2 hU2 hl2;clear hO2 hU2 hl2 hs2)
   exact zz8
theorem opclone_c {w:World} {t:TypeId} {v:Value} {cs:List (List Value)} (h:TRow w t 3 v cs) (hk:∀c ∈ cs,c.length=3∧∀u ∈ c,u.oneCell'=true) (hl:cs.length≤1000) :
 Calls Tryz.prog 68 #[v] w fun e w'=>∃v',e=.returned v'∧TRow w' 32 3 v' cs∧Upd (fun _=>False) w w':=by
 refine (opclone_f h hk hl).mono ?_;rintro e w' ⟨v',h1,h2,h3,-⟩;exact ⟨v',h1,h2,h3⟩
theorem mtRow_ok (l:List MtM):∀c ∈ l.map mtRow,c.length=2∧∀u ∈ c,u.oneCell'=true:=by
 intro c hc;obtain ⟨m,-,rfl⟩:=List.mem_map.1 hc;exact ⟨rfl,fun u hu=>by simp only [mtRow,List.mem_cons,List.not_mem_nil,or_false] at hu;rcases hu with rfl | rfl<;>rfl⟩
theorem opRow_ok (l:List OpM):∀c ∈ l.map opRow,c.length=3∧∀u ∈ c,u.oneCell'=true:=by
 intro c hc;obtain ⟨m,-,rfl⟩:=List.mem_map.1 hc;exact ⟨rfl,fun u hu=>by simp only [opRow,List.mem_cons,List.not_mem_nil,or_false] at hu;rcases hu with rfl | rfl | rfl<;>rfl⟩
theorem TRow.one {w:World} {t:TypeId} {k:Nat} {v:Value} {cs:List (List Value)} (h:TRow w t k v cs):v.oneCell'=true:=by
 obtain ⟨A,cap,rfl,-⟩:=h;rfl
theorem metaCells_one (a b c:Int) {mv S:Value} (h1:mv.oneCell'=true) (h2:S.oneCell'=true):(#[Value.int .i64 a,.int .i64 b,.int .i64 c,mv,S]).all (·.oneCell')=true:=by
 simp only [List.all_toArray,List.all_cons,List.all_nil,h1,h2,Bool.and_true];rfl
theorem own_f {w:World} (m:MetaM) {ty:TypeId} {mv:Value} (hmv:TRow w ty 2 mv (m.mounts.map mtRow)) (hl:m.mounts.length≤4) :
 Calls Tryz.prog 76 #[.agg (metaRow m mv)] w fun e w'=>∃mv',e=.returned (.agg (metaRow m mv'))∧TRow w' 46 2 mv' (m.mounts.map mtRow)∧Upd (fun _=>False) w w'∧(∀q,mv'.ownBlock=some q→w.heap.size≤q)∧Own w' 46 2 mv' m.mounts.length (m.mounts.map mtRow).flatten:=by
 have h1:=hmv.one;obtain ⟨c,hc⟩:=eqx w.heap.size;have H:=h4k hmv h1 hl hc;clear hmv h1 hl hc;unfold metaRow;obtain ⟨S,hS⟩:=eqx (Value.string (str m.secret));have hS1:S.oneCell'=true:=by rw [← hS];rfl
 rw [hS];clear hS;go_enter Tryz.func76,Tryz.ntmps76
 go_upto_region 1 with fail
 rw [H.out.2.2.2];generalize hw2:World.alloc (World.alloc _ _) _=w2;have hB2:Blk w2 c 50 #[.int .i64 m.role,.int .i64 m.seen,.int .i64 m.grant,mv,S]:=by rw [← hw2,← H.out.2.2.2];exact (Blk.new w _ _).alloc _
 have hZ2:∃z,z.size=5∧Blk w2 (c+1) 50 z:=by
  rw [← hw2,← H.out.2.2.2];have:=Blk.new (w.alloc (.cells #[.int .i64 m.role,.int .i64 m.seen,.int .i64 m.grant,mv,S] 50)) 50 #[.int .i64 0,.int .i64 0,.int .i64 0,.slice none 0 0,.string ByteArray.empty];rw [show (w.alloc (.cells #[.int .i64 m.role,.int .i64 m.seen,.int .i64 m.grant,mv,S] 50)).heap.size=w.heap.size+1 by simp] at this;exact ⟨_,rfl,this⟩
 have hU2:Upd (fun _=>False) w w2:=by rw [← hw2];exact ((Upd.refl _ w).alloc _).alloc _
 clear hw2;obtain ⟨z,hzs,hZ2⟩:=hZ2;have hcl:=mtclone_f (H.out.1.still hU2) (mtRow_ok _) (by rw [List.length_map];have:=H.out.2.2.1;omega);have HCL:=Lib.hid hcl;have c3:=hB2.cell 3;have H2:=h4k hB2 hZ2 hU2 hzs;clear hcl hB2 hZ2 hU2 hzs;go_wp2_with (first
  | (go_at_call 135
     refine HCL.out.mono ?_;rintro e w3 ⟨mv',rfl,hR3,hU3,hf3,ho3⟩;have hone3:=hR3.one;have hB3:=H2.out.1.upd hU3 (fun e=>e);have H3:=h6k hR3 hU3 (H2.out.2.1.upd hU3 (fun e=>e)) hone3 hf3 ho3;clear hR3 hU3 hf3 ho3)
  | (refine wpList_store_one rfl 47 _ _ rfl c 3 mv' rfl rfl _ _ hB3 sM hone3 kR ?_
     intro w4 hB4 hU4 hs4;have hZ4:=H3.out.2.2.1.upd hU4 oM;have HU4:=Lib.hid hU4;clear hU4)
  | (refine wll _ c hB4 Tryz.underlying50 ?_)
  | (refine wpList_store_all rfl 50 _ _ rfl (c+1) _ rfl rfl _ _ hZ4 (by rw [H2.out.2.2.2];rfl) (metaCells_one _ _ _ hone3 hS1) kR ?_
     intro w5 hB5 hU5 hs5))
 refine bodyPost_ret (results_cell_row rfl _ _ (c+1) _ _ _ _ rfl hB5 Tryz.underlying50 rfl kR) rfl ⟨mv',rfl,(H3.out.1.upd HU4.out (fun b ht e=>?_)).upd hU5 (fun b ht e=>?_),(((H2.out.2.2.1.then H3.out.2.1 wz0).then HU4.out (fun q e=>.inr ?_)).then hU5 (fun q e=>.inr ?_)),fun q hq=>Nat.le_trans H2.out.2.2.1.size (H3.out.2.2.2.2.1 q hq),?_⟩
 ·have e2:b=c:=e
  subst e2;have:=(H2.out.1.upd H3.out.2.1 (fun e=>e)).ty.inj ht;exact absurd this dC
 ·have e2:b=c+1:=e
  subst e2;have:=(H3.out.2.2.1.upd HU4.out oM).ty.inj ht;exact absurd this dC
 ·have e2:q=c:=e
  have:=H.out.2.2.2;omega
 ·have e2:q=c+1:=e
  have:=H.out.2.2.2;omega
 ·have ho:=H3.out.2.2.2.2.2
  rw [List.length_map] at ho;refine (ho.upd HU4.out (fun b hb e=>?_)).upd hU5 (fun b hb e=>?_)
  ·have e2:b=c:=e
   subst e2;exact absurd ((H2.out.1.upd H3.out.2.1 (fun e=>e)).ty.inj (ho.ty hb)) dC
  ·have e2:b=c+1:=e
   subst e2;exact absurd (H3.out.2.2.1.ty.inj (ho.ty hb)) dC
theorem own_c {w:World} (m:MetaM) {ty:TypeId} {mv:Value} (hmv:TRow w ty 2 mv (m.mounts.map mtRow)) (hl:m.mounts.length≤4) :
 Calls Tryz.prog 76 #[.agg (metaRow m mv)] w fun e w'=>∃mv',e=.returned (.agg (metaRow m mv'))∧TRow w' 46 2 mv' (m.mounts.map mtRow)∧Upd (fun _=>False) w w':=by
 refine (own_f m hmv hl).mono ?_;rintro e w' ⟨v',h1,h2,h3,-⟩;exact ⟨v',h1,h2,h3⟩
theorem part_get {cs:Array Value} {i n:Nat} {vs:List Value} (h:(cs.toList.drop i).take n=vs) (j:Nat) (u:Value) (hj:vs[j]? = some u):cs[i+j]? = some u:=by
 rw [← h,List.getElem?_take] at hj;split at hj
 ·rw [List.getElem?_drop] at hj
  simpa using hj
 ·cases hj
section
variable {w w':World} {p v:Nat} {d d':Dk} {V V':VtM} {o o':VtO}
theorem vwhere_c (h:VtAt w p v d V o):Calls Tryz.prog 12 #[.pointer (some ⟨v,0,none⟩)] w fun e w'=>e=.returned (.tuple #[.int .i64 V.at_,.int .i64 V.epoch])∧Upd (fun _=>False) w w':=by
 have hB:=h.blk;unfold vtRow at hB;have hc:=hB.cells21;clear h hB;go_enter Tryz.func12,Tryz.ntmps12
 go_upto_region 3 with fail
 go_quiet (fail)
 go_wp2_with fail
 go_ret2
 exact ⟨rfl,(Upd.refl _ w).drewN _⟩
theorem vmap_c (h:VtAt w p v d V o):Calls Tryz.prog 18 #[.pointer (some ⟨v,0,none⟩)] w fun e w'=>∃m2 mb2,e=.returned (.pointer (some ⟨m2,0,none⟩))∧MapAt w' m2 mb2 V.S∧w.heap.size≤m2∧w.heap.size≤mb2∧Upd (fun _=>False) w w':=by
 have hc:w.cell? ⟨v,0,none⟩=some (.pointer (some ⟨o.m,0,none⟩)):=h.blk.cell 0;have HT:=Lib.hid (otwin_c h.map);clear h;go_enter Tryz.func18,Tryz.ntmps18
 go_wp2_with (go_at_call 55;refine HT.out.mono ?_;rintro e w2 ⟨m2,mb2,rfl,hm⟩);go_ret
 exact ⟨m2,mb2,rfl,hm⟩
end
structure PutFit (d:Dk) (V:VtM):Prop where
 cur:V.cur≤1048576
 n:V.n<4611686018427387904
 seen:V.kp.seen<18446744073709551616
 at_:V.kp.at_≤1
 from_:V.kp.from_≤4096
 pend:d.pend+20<1000000
section
variable {w w':World} {p v:Nat} {d d':Dk} {V V':VtM} {o o':VtO}
theorem StOk.with_ {s:StM} (h:StOk s) {m:MetaM} (hr:rightM m=true) (hn:m.seen≤9223372036854775807∧m.grant≤9223372036854775807):StOk { s with m:=m } := ⟨hr,h.place,h.slot,h.log,h.key,h.boot,hn⟩
theorem zz9 {P:Prop} (h:P:=by
 rw [hoff] at HS HO;simp only [if_true] at HO;go_wp2_with (first
  | (go_at_call 53;refine HO.out.mono ?_;rintro e w2 ⟨rfl,h2,k2,-⟩;have H2:=h2k h2 k2;clear h2 k2))
 go_ret
 rw [HS.out];exact ⟨rfl,o,H2.out.1,HT1.out.trans H2.out.2⟩):P:=h
theorem vset_c (h:VtAt w p v d V o) (hst:StOk V.st) (hf:PutFit d V) (m:MetaM) {ty:TypeId} {mv:Value} (hmv:TRow w ty 2 mv (m.mounts.map mtRow)) (hmn:m.seen≤9223372036854775807∧m.grant≤9223372036854775807) (hml:∀x ∈ m.mounts,x.name.length≤1000000) :
 Calls Tryz.prog 24 #[.pointer (some ⟨v,0,none⟩),.agg (metaRow m mv)] w fun e w'=>e=.returned (.int .i64 (setV d V m).2.2)∧∃o',VtAt w' p v (setV d V m).1 (setV d V m).2.1 o'∧VtStep w w' v o o':=by
 obtain ⟨A,cap,mb,mo,hmv1,hmv2,hmv3,hmv4,hmv5⟩:=hmv.mts;obtain ⟨c,hc⟩:=eqx w.heap.size;obtain ⟨C,hC⟩:=eqx (metaRow m mv);have hCs:C.size=5:=by rw [← hC];rfl
 have hone:=hmv.one;have hC1:C.all (·.oneCell')=true:=by rw [← hC];exact metaCells_one _ _ _ hone rfl
 have H:=h6k h hst hf hmv hmn hml;have HM:=h5k hmv1 hmv2 hmv3 hmv4 hmv5;have HC:=h4k hc hC hCs hC1;rw [hC];clear h hst hf hmv hmn hml hmv1 hmv2 hmv3 hmv4 hmv5 hc hC hCs hone hC1;go_enter Tryz.func24,Tryz.ntmps24
 go_upto_region 1 with fail
 rw [HC.out.1];generalize hw1:World.alloc _ _=w1;have hB1:Blk w1 c 50 C:=by rw [← hw1,← HC.out.1];exact Blk.new w _ _
 have hU1:Upd (fun _=>False) w w1:=by rw [← hw1];exact (Upd.refl _ w).alloc _
 have H1:=h3k hB1 hU1 (H.out.1.still hU1);have HO:=Lib.hid (off_c (H.out.1.still hU1));clear hB1 hU1 hw1;have hset:setV d V m=if offV d V then (d,{ V with down:=true },14) else if rightM m=false then (d,V,1) else putV d V { V.st with m:=m } := rfl
 have HS:=Lib.hid hset;clear hset;have HT1:=Lib.hid (VtStep.mk (o:=o) (o':=o) (v:=v) (H1.out.2.1.mono wz0) (fun q e=>.inl e));cases hoff:offV d V
 ·rw [hoff] at HS HO
  simp only [Bool.false_eq_true,if_false,forall_const] at HO;go_upto_region 4 with (first
   | (go_at_call 53;refine HO.out.mono ?_;rintro e w2 ⟨rfl,-,-,hw2⟩;subst hw2))
  have hri:=vright_c (w:=w1) (A:=A) (cap:=cap) (b:=mb) (off:=mo) m HM.out.2.2.2.1 (fun w' hu=>HM.out.2.2.2.2 w' (fun _=>False) (H1.out.2.1.then hu (fun _ e=>.inl e)) (fun _ _ e=>e)) HM.out.2.2.1 HM.out.2.1 H.out.2.2.2.2.2;rw [← HM.out.1,HC.out.2.1] at hri;have HR:=Lib.hid hri;clear hri hoff;cases hr:rightM m
  ·rw [hr] at HS HR
   clear hr;go_wp2_with (first
    | (refine wlx _ c H1.out.1 Tryz.underlying50 (by rw [HC.out.2.2.1];kernel_rfl) ?_)
    | (go_at_call 41;refine HR.out.mono ?_;rintro e w3 ⟨rfl,hU3⟩;have H3:=Lib.hid hU3;clear hU3))
   go_ret
   rw [HS.out];exact ⟨rfl,o,H1.out.2.2.still H3.out,HT1.out.still H3.out⟩
  ·rw [hr] at HS HR
   have HRM:=Lib.hid hr;clear hr;go_upto_region 6 with (first
    | (refine wlx _ c H1.out.1 Tryz.underlying50 (by rw [HC.out.2.2.1];kernel_rfl) ?_)
    | (go_at_call 41;refine HR.out.mono ?_;rintro e w3 ⟨rfl,hU3⟩;have H3:=Lib.hid hU3;clear hU3))
   obtain ⟨q,hq⟩:=eqx w3.heap.size;obtain ⟨D,hD⟩:=eqx (stRow V.st o.mv);have hD2:((vtRow V p o).toList.drop 9).take 11=D.toList:=by rw [← hD];rfl
   have hDs:D.size=11:=by rw [← hD];rfl
   have h3:=H1.out.2.2.still H3.out;have hD1:D.toList.toArray.all (·.oneCell')=true:=by rw [← hD];exact stRow_one _ _ h3.mts.one
   have HD:=h5k hD hD2 hDs hD1 hq;have hB3:=H1.out.1.upd H3.out (fun e=>e);have K3:=h3k h3 hB3 (HT1.out.still H3.out);clear hD hD2 hDs hD1 hq h3 hB3;go_upto_region 7 with (first
    | (refine wpList_load_part rfl _ _ rfl v 9 rfl _ _ D.toList _ K3.out.1.blk (part_get HD.out.2.1) Tryz.underlying115 rfl (by rw [Array.length_toList,HD.out.2.2.1];kernel_rfl) ?_)
    | (refine wpList_store_all rfl 115 _ _ rfl w3.heap.size _ rfl rfl _ _ (Blk.new w3 _ _) (by rw [List.size_toArray,Array.length_toList,HD.out.2.2.1];rfl) HD.out.2.2.2.1 (by rw [List.size_toArray,Array.length_toList,HD.out.2.2.1];kernel_rfl) ?_
       intro w4 hB4 hU4 hs4))
   rw [HD.out.2.2.2.2] at hB4 hU4 ⊢;have hU34:Upd (fun _=>False) w3 w4:=((Upd.refl _ w3).alloc _).then hU4 (fun b e=>.inr (by have e2:b=q:=e;have:=HD.out.2.2.2.2;omega));have hmv4:=(((H.out.2.2.2.1.still H1.out.2.1).still H3.out).still hU34);have hown:=own_c m hmv4 (rightM_ok HRM.out).mts;rw [HC.out.2.1] at hown;have HOW:=Lib.hid hown;have H4:=h3k hB4 (K3.out.2.1.upd hU34 (fun e=>e)) hU34;clear hB4 hU4 hs4 hU34 hown hmv4;go_upto_region 8 with (first
    | (refine wlx _ c H4.out.2.1 Tryz.underlying50 (by rw [HC.out.2.2.1];kernel_rfl) ?_)
    | (go_at_call 76
       refine HOW.out.mono ?_;rintro e w5 ⟨mv',rfl,hR5,hU5⟩;have hone5:=hR5.one;have hB5:=H4.out.1.upd hU5 (fun e=>e);have H5:=h2k hR5 hU5;clear hR5 hU5)
    | (refine wpList_store_part rfl 50 _ _ rfl q 0 (metaRow m mv') rfl rfl _ _ (stRow { V.st with m:=m } mv') hB5 (by rw [HD.out.2.2.1];exact Nat.le_of_ble_eq_true rfl) (by rw [← HD.out.1];rfl) (metaCells_one _ _ _ hone5 rfl) kR ?_
       intro w6 hB6 hU6 hs6))
   have hU36:Upd (fun _=>False) w3 w6:=(H4.out.2.2.then H5.out.2 (fun _ e=>.inl e)).then hU6 (fun b e=>.inr (by have e2:b=q:=e;have:=HD.out.2.2.2.2;omega));have h6:=K3.out.1.still hU36;have hmv6:TRow w6 46 2 mv' (m.mounts.map mtRow):=H5.out.1.upd hU6 (fun b ht e=>by
    have e2:b=q:=e;subst e2;exact absurd (hB5.ty.inj ht) dC)
   have hpf:=H.out.2.2.1;have hput:=put_c h6 { V.st with m:=m } (H.out.2.1.with_ HRM.out H.out.2.2.2.2.1) hmv6 rfl hpf.cur hpf.n hpf.seen hpf.at_ hpf.from_ hpf.pend;have HP:=h2k hput (K3.out.2.2.still hU36);obtain ⟨R,hR⟩:=eqx (stRow { V.st with m:=m } mv');have hRs:R.size=11:=by rw [← hR];rfl
   rw [hR] at hB6 HP;have HB6:=h2k hB6 hRs;clear hput h6 hmv6 hU36 hU6 hB6 hs6 hR hRs hpf hB5;go_wp2_with (first
    | (refine wlx _ q HB6.out.1 Tryz.underlying115 (by rw [HB6.out.2];kernel_rfl) ?_)
    | (go_at_call 67;refine HP.out.1.mono ?_;rintro e w7 ⟨rfl,o7,h7,k7⟩;have H7:=h2k h7 k7;clear h7 k7))
   go_ret
   rw [HS.out];exact ⟨rfl,o7,H7.out.1,HP.out.2.trans H7.out.2⟩
 ·exact zz9
theorem putV_cur (d:Dk) (V:VtM) (s:StM):(putV d V s).2.1.cur=V.cur:=by
 unfold putV VtM.told;split<;>rfl
theorem vrotate_c (h:VtAt w p v d V o) (hst:StOk V.st) (hf:PutFit d V) (hk:V.st.key<1000000) (hc:V.cur<1048576) :
 Calls Tryz.prog 34 #[.pointer (some ⟨v,0,none⟩)] w fun e w'=>e=.returned (.int .i64 (rotateV d V).2.2)∧∃o',VtAt w' p v (rotateV d V).1 (rotateV d V).2.1 o'∧VtStep w w' v o o':=by
 have HO:=Lib.hid (off_c h);obtain ⟨s,hs⟩:∃s:StM,{ V.st with key:=V.st.key+1 } = s:=⟨_,rfl⟩;have hset:rotateV d V=if offV d V then (d,{ V with down:=true },14) else if (putV d V s).2.2≠0 then putV d V s else ((putV d V s).1,{ (putV d V s).2.1 with cur:=(putV d V s).2.1.cur+1 },0):=by
  unfold rotateV;rw [hs,if_neg (show ¬1048576≤V.st.key by omega)]
 have hsok:StOk s:=by rw [← hs];exact ⟨hst.right,hst.place,hst.slot,hst.log,by show V.st.key+1≤_;omega,hst.boot,hst.mn⟩
 have hck:w.cell? ⟨v,18,none⟩=some (.int .i64 (V.st.key:Int)):=h.blk.cell 18;have k0:(0:Int)≤(V.st.key:Int):=oM;have k1:(V.st.key:Int)<1000000:=oM;have HS:=Lib.hid hset;have H:=h5k h hst hf hk hc;have HX:=h2k hs hsok;clear hset h hst hf hk hc hs hsok;obtain ⟨K,hK⟩:∃K:Int,(V.st.key:Int)=K:=⟨_,rfl⟩;rw [hK] at hck k0 k1;have HK:=Lib.hid hK;clear hK;have k2:¬1048576≤K:=oM;go_enter Tryz.func34,Tryz.ntmps34
 cases hoff:offV d V
 ·rw [hoff] at HS HO
  simp only [Bool.false_eq_true,if_false,forall_const] at HO;clear hoff;go_upto_region 6 with (first
   | (go_at_call 53;refine HO.out.mono ?_;rintro e w2 ⟨rfl,-,-,hw2⟩;subst hw2))
  obtain ⟨q,hq⟩:=eqx w.heap.size;obtain ⟨D,hD⟩:=eqx (stRow V.st o.mv);have hD2:((vtRow V p o).toList.drop 9).take 11=D.toList:=by rw [← hD];rfl
  have hDs:D.size=11:=by rw [← hD];rfl
  have hD9:D[9]? = some (.int .i64 K):=by rw [← hD,← HK.out];rfl
  have hD1:D.toList.toArray.all (·.oneCell')=true:=by rw [← hD];exact stRow_one _ _ H.out.1.mts.one
  have HD:=h6k hD hD2 hDs hD1 hq hD9;clear hD hD2 hDs hD1 hq hD9;go_upto_region 7 with (first
   | (refine wpList_load_part rfl _ _ rfl v 9 rfl _ _ D.toList _ H.out.1.blk (part_get HD.out.2.1) Tryz.underlying115 rfl (by rw [Array.length_toList,HD.out.2.2.1];kernel_rfl) ?_)
   | (refine wpList_store_all rfl 115 _ _ rfl w.heap.size _ rfl rfl _ _ (Blk.new w _ _) (by rw [List.size_toArray,Array.length_toList,HD.out.2.2.1];rfl) HD.out.2.2.2.1 (by rw [List.size_toArray,Array.length_toList,HD.out.2.2.1];kernel_rfl) ?_
      intro w4 hB4 hU4 hs4))
  rw [HD.out.2.2.2.2.1] at hB4 hU4 ⊢;have hU34:Upd (fun _=>False) w w4:=((Upd.refl _ w).alloc _).then hU4 (fun b e=>.inr (by have e2:b=q:=e;have:=HD.out.2.2.2.2.1;omega));have c9:w4.cell? ⟨q,9,none⟩=some (.int .i64 K):=(hB4.cell 9).trans HD.out.2.2.2.2.2;have hw:IntKind.i64.wrap (K+1)=K+1:=IntWalk.i64_in _ oM;have H4:=h2k hB4 hU34;clear hB4 hU4 hs4 hU34;go_upto_region 8 with (first
   | (refine wpList_store_one rfl 3 _ _ rfl q 9 (.int .i64 (K+1)) rfl rfl _ _ H4.out.1 (by rw [HD.out.2.2.1];decide) rfl kR ?_
      intro w6 hB6 hU6 hs6))
  have hR:D.setIfInBounds 9 (.int .i64 (K+1))=stRow s o.mv:=by
   rw [← HD.out.1,← HX.out.1,← HK.out,show (V.st.key:Int)+1=((V.st.key+1:Nat):Int) by omega];rfl
  rw [hR] at hB6;have hU6':Upd (fun _=>False) w w6:=H4.out.2.then hU6 (fun b e=>.inr (by have e2:b=q:=e;have:=HD.out.2.2.2.2.1;omega));have h6:=H.out.1.still hU6';have hpf:=H.out.2.2.1;have hput:=put_c h6 s HX.out.2 (mv:=o.mv) (by rw [← HX.out.1];exact h6.mts) (by rw [← HX.out.1]) hpf.cur hpf.n hpf.seen hpf.at_ hpf.from_ hpf.pend;have HP:=h2k hput (VtStep.mk (o:=o) (o':=o) (v:=v) (hU6'.mono wz0) (fun q e=>.inl e));obtain ⟨R,hRR⟩:=eqx (stRow s o.mv);have hRs:R.size=11:=by rw [← hRR];rfl
  rw [hRR] at hB6 HP;have HB6:=h2k hB6 hRs;clear hput h6 hU6' hU6 hB6 hs6 hRR hRs hpf hR c9;obtain ⟨X,hX⟩:=eqx (putV d V s);have hcur:=putV_cur d V s;rw [hX] at HP HS hcur;obtain ⟨E,hE⟩:=eqx X.2.2;rw [hE] at HP HS;have HXX:=h2k hcur hE;clear hX hcur;by_cases h0:E=0
  ·subst h0
   clear hE;go_wp2_with (first
    | (refine wlx _ q HB6.out.1 Tryz.underlying115 (by rw [HB6.out.2];kernel_rfl) ?_)
    | (go_at_call 67;refine HP.out.1.mono ?_;rintro e w7 ⟨rfl,o7,h7,k7⟩
       have c7:w7.cell? ⟨v,8,none⟩=some (.pointer (some ⟨o7.rb,0,none⟩)):=h7.blk.cell 8;have HRR:=Lib.hid (rrotate_c h7.ring (by rw [HXX.out.1];exact H.out.2.2.2.2));have H7:=h2k h7 k7;clear h7 k7)
    | (go_at_call 79;refine HRR.out.mono ?_;rintro e w8 ⟨rfl,hR8⟩;have H8:=Lib.hid (H7.out.1.ring_ hR8);clear hR8))
   go_ret
   rw [HS.out];exact ⟨rfl,_,H8.out.1,(HP.out.2.trans H7.out.2).trans H8.out.2⟩
  ·have hE0:(E != 0)=true:=by simpa using h0
   have H0:=Lib.hid h0;clear hE h0;go_wp2_with (first
    | (refine wlx _ q HB6.out.1 Tryz.underlying115 (by rw [HB6.out.2];kernel_rfl) ?_)
    | (go_at_call 67;refine HP.out.1.mono ?_;rintro e w7 ⟨rfl,o7,h7,k7⟩
       have H7:=h2k h7 k7;clear h7 k7))
   go_ret
   rw [HS.out,if_neg sM,if_pos H0.out,HXX.out.2];exact ⟨rfl,o7,H7.out.1,HP.out.2.trans H7.out.2⟩
 ·rw [hoff] at HS HO
  simp only [if_true] at HO;go_wp2_with (first
   | (go_at_call 53;refine HO.out.mono ?_;rintro e w2 ⟨rfl,h2,k2,-⟩;have H2:=h2k h2 k2;clear h2 k2))
  go_ret
  rw [HS.out];exact ⟨rfl,o,H2.out.1,H2.out.2⟩
end
end
end Go.Proofs.YtbhjgfibhegddaaGreat
