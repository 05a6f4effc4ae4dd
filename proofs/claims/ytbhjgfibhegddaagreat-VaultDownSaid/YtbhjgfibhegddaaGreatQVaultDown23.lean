/-
  Parts of the proof of VaultDown: WVaultDown, Facts.
-/
import Derived.Test.YtbhjgfibhegddaaGreatQVaultDown22
import Derived.ProofKit
import Derived.Test.YtbhjgfibhegddaaGreatRows
set_option maxRecDepth 100000
set_option maxHeartbeats 16000000
namespace Go.Proofs.YtbhjgfibhegddaaGreat
section
open Go Go.RowKit
section
variable {w0 w w':World} {p v:Nat} {R:RvM} {boot c:Nat} {M:Nat→Prop} {Q:RvM→Prop}
theorem small_c (n:Int) (hn:i64r n) (w:World):Calls Tryz.prog 29 #[.int .i64 n] w fun e w'=>∃m,e=.returned (.int .i64 m)∧0≤m∧m≤40∧w=w':=by
 obtain ⟨k,hk⟩:=eqx (n.tmod 41);have hkr:-41<k∧k<41:=by
  rw [← hk];exact ⟨by have:=Int.lt_tmod_of_pos n (show (0:Int)<41 by decide);omega,Int.tmod_lt_of_pos n (by decide)⟩
 obtain ⟨hn1,hn2⟩:=hn;go_enter Tryz.func29,Tryz.ntmps29
 by_cases h0:k<0
 ·go_wp2_with fail
  go_ret
  exact ⟨-k,by first | rfl | (congr 2;go_num),by omega,by omega,rfl⟩
 ·go_wp2_with fail
  go_ret
  exact ⟨k,by first | rfl | (congr 2;go_num),by omega,by omega,rfl⟩
theorem VfU.fuse (h:VfU w0 w p v R boot c M) (m:Int) (hm:m≤9223372036854775807):Calls Tryz.prog 28 #[.pointer (some ⟨p,0,none⟩),.int .i64 m] w fun r w'=>r=.returned (.tuple #[])∧∃M',VfU w0 w' p v R boot c M'∧Stp w w' M M':=by
 obtain ⟨d,V,o,S0,hB,ho,hg,hR⟩:=h;refine (fuse_c hB.at_.disk m hm).mono ?_;rintro r w' ⟨rfl,hL⟩;obtain ⟨h1,h2⟩:=hB.at_.disk_ hL;obtain ⟨a1,a2⟩:=hB.step h1 h2;exact ⟨rfl,_,⟨d.setFuse m,V,_,S0,a1,ho,hg,hR⟩,a2⟩
def VfE (w0 w:World) (p v:Nat) (dn:Bool) (a e:Int) (S:List PairM) (c:Nat):Prop :=
 (dn=false∧∃R boot M,VfU w0 w p v R boot c M∧a=R.at_∧e=R.epoch∧S=R.S)∨(dn=true∧∃M,VfN w0 w p v a e S (fun _=>True) c M)
theorem VfE.upd {dn:Bool} {a e:Int} {S:List PairM} {c:Nat} (h:VfE w0 w p v dn a e S c):Upd (fun _=>False) w0 w:=by
 rcases h with ⟨-,_,_,_,h,-⟩ | ⟨-,_,h⟩
 ·exact h.upd
 ·exact h.upd
theorem VfE.still {dn:Bool} {a e:Int} {S:List PairM} {c:Nat} (h:VfE w0 w p v dn a e S c) (hu:Upd (fun _=>False) w w'):VfE w0 w' p v dn a e S c:=by
 rcases h with ⟨h0,R,boot,M,h,h1⟩ | ⟨h0,M,h⟩
 ·exact .inl ⟨h0,R,boot,M,h.still hu,h1⟩
 ·exact .inr ⟨h0,M,h.still hu⟩
theorem VfE.mono {dn:Bool} {a e:Int} {S:List PairM} {c c':Nat} (h:VfE w0 w p v dn a e S c) (hc:c≤c'):VfE w0 w p v dn a e S c':=by
 rcases h with ⟨h0,R,boot,M,h,h1⟩ | ⟨h0,M,h⟩
 ·exact .inl ⟨h0,R,boot,M,h.mono hc,h1⟩
 ·exact .inr ⟨h0,M,h.mono hc (fun _ e=>e)⟩
theorem VfE.place {dn:Bool} {a e:Int} {S:List PairM} {c:Nat} (h:VfE w0 w p v dn a e S c) (hc:c<99000):Calls Tryz.prog 12 #[.pointer (some ⟨v,0,none⟩)] w fun r w'=>r=.returned (.tuple #[.int .i64 a,.int .i64 e])∧Upd (fun _=>False) w w':=by
 rcases h with ⟨-,R,boot,M,h,rfl,rfl,-⟩ | ⟨-,M,h⟩
 ·exact (h.old hc).place
 ·exact h.place
theorem VfE.map_ {dn:Bool} {a e:Int} {S:List PairM} {c:Nat} (h:VfE w0 w p v dn a e S c) (hc:c<99000):Calls Tryz.prog 18 #[.pointer (some ⟨v,0,none⟩)] w fun r w'=>∃m mb,r=.returned (.pointer (some ⟨m,0,none⟩))∧MapAt w' m mb S∧w.heap.size≤m∧w.heap.size≤mb∧Upd (fun _=>False) w w':=by
 rcases h with ⟨-,R,boot,M,h,-,-,rfl⟩ | ⟨-,M,h⟩
 ·exact (h.old hc).map_
 ·exact h.map_
theorem VfE.down_ {dn:Bool} {a e:Int} {S:List PairM} {c:Nat} (h:VfE w0 w p v dn a e S c):Calls Tryz.prog 33 #[.pointer (some ⟨p,0,none⟩)] w fun r w'=>r=.returned (.bool dn)∧w=w':=by
 rcases h with ⟨rfl,R,boot,M,h,-⟩ | ⟨rfl,M,h⟩
 ·exact h.down_
 ·exact h.down_
def VfG (w0 w w':World) (p v:Nat) (r:Ending) (dn:Bool) (a e:Int) (S:List PairM) (c:Nat):Prop:=∃n dn' a' e' S',r=.returned (.int .i64 n)∧VfE w0 w' p v dn' a' e' S' c∧Upd (VtZ w) w w'∧(dn=true→n=14∧dn'=true∧a'=a∧e'=e∧S'=S)
theorem VfU.vtz (h:VfU w0 w p v R boot c M) {q:Nat} (hq:M q):VtZ w q:=by
 obtain ⟨_,_,_,_,h,_⟩:=h;exact h.at_.vtz ((h.turns q).1 hq)
theorem VfN.vtz {a e:Int} {S:List PairM} (h:VfN w0 w p v a e S Q c M) {q:Nat} (hq:M q):VtZ w q:=by
 obtain ⟨_,_,_,h,_⟩:=h;exact h.at_.vtz ((h.turns q).1 hq)
theorem VfT.to {r:Ending} {r2:RvM × Int} {a e:Int} {S:List PairM} {c c':Nat} (hv:∀q,M q→VtZ w q) (h:VfT w0 w w' p v r R r2 boot c M) (hc:c≤c'):VfG w0 w w' p v r false a e S c':=by
 rcases h with ⟨M',rfl,h1,h2⟩ | ⟨M',a',e',S',rfl,h1,h2⟩
 ·exact ⟨_,false,_,_,_,rfl,.inl ⟨rfl,_,_,_,h1.mono hc,rfl,rfl,rfl⟩,h2.upd.mono (fun q e=>.inl (hv q e)),fun e=>by simp at e⟩
 ·exact ⟨_,true,a',e',S',rfl,.inr ⟨rfl,_,h1.mono hc (fun _ _=>trivial)⟩,h2.upd.mono (fun q e=>.inl (hv q e)),fun e=>by simp at e⟩
theorem VfN.to {a e:Int} {S:List PairM} {c c':Nat} {r:Ending} (hv:∀q,M q→VtZ w q) (hr:r=.returned (.int .i64 14)) (h:∃M',VfN w0 w' p v a e S (fun _=>True) c M'∧Stp w w' M M') (hc:c≤c'):VfG w0 w w' p v r true a e S c':=by
 obtain ⟨M',h1,h2⟩:=h;exact ⟨14,true,a,e,S,hr,.inr ⟨rfl,M',h1.mono hc (fun _ _=>trivial)⟩,h2.upd.mono (fun q e=>.inl (hv q e)),fun _=>⟨rfl,rfl,rfl,rfl,rfl⟩⟩
theorem VfE.commit_in {dn:Bool} {a e:Int} {S:List PairM} {c:Nat} (h:VfE w0 w p v dn a e S c) (hc:c<99000) (b:BatM) {ov:Value} (hO:OpsIn w0 ov b.ops) (hf:OpsFew b.ops) (hbe:dn=false→b.epoch≤9223372036854775807) :
 Calls Tryz.prog 15 #[.pointer (some ⟨v,0,none⟩),.agg #[.int .i64 b.index,.int .i64 b.epoch,ov]] w fun r w'=>VfG w0 w w' p v r dn a e S (c+3):=by
 rcases h with ⟨rfl,R,boot,M,h,-⟩ | ⟨rfl,M,h⟩
 ·exact (h.commit_in hc b hO hf (hbe rfl)).mono fun r w' hT=>VfT.to (fun _=>h.vtz) hT (Nat.le_refl _)
 ·exact (h.commit b ov).mono fun r w' hT=>VfN.to (fun _=>h.vtz) hT.1 hT.2 (by omega)
theorem VfE.set_in {dn:Bool} {a e:Int} {S:List PairM} {c:Nat} (h:VfE w0 w p v dn a e S c) (hc:c<99000) {m:MetaM} {mv:Value} (hM:MetaIn w0 mv m) (hf:MetaFew m) :
 Calls Tryz.prog 24 #[.pointer (some ⟨v,0,none⟩),.agg (metaRow m mv)] w fun r w'=>VfG w0 w w' p v r dn a e S (c+3):=by
 rcases h with ⟨rfl,R,boot,M,h,-⟩ | ⟨rfl,M,h⟩
 ·exact (h.set_in hc hM hf).mono fun r w' hT=>VfT.to (fun _=>h.vtz) hT (by omega)
 ·exact (h.set_ m mv).mono fun r w' hT=>VfN.to (fun _=>h.vtz) hT.1 hT.2 (by omega)
theorem VfE.install_in {dn:Bool} {a e:Int} {S:List PairM} {c:Nat} (h:VfE w0 w p v dn a e S c) (hc:c<99000) {m:MetaM} {mv:Value} (hM:MetaIn w0 mv m) (hf:MetaFew m) {l:List PairM} {lv:Value} (hL:PrsIn w0 lv l) (hfl:PrsFew l) (at_ ep:Int) (hep:ep≤9223372036854775807) :
 Calls Tryz.prog 21 #[.pointer (some ⟨v,0,none⟩),.agg (metaRow m mv),lv,.int .i64 at_,.int .i64 ep] w fun r w'=>VfG w0 w w' p v r dn a e S (c+3):=by
 rcases h with ⟨rfl,R,boot,M,h,-⟩ | ⟨rfl,M,h⟩
 ·exact (h.install_in hc hM hf hL hfl at_ ep hep).mono fun r w' hT=>VfT.to (fun _=>h.vtz) hT (by omega)
 ·exact (h.install m mv lv at_ ep).mono fun r w' hT=>VfN.to (fun _=>h.vtz) hT.1 hT.2 (by omega)
theorem VfE.rotate {dn:Bool} {a e:Int} {S:List PairM} {c:Nat} (h:VfE w0 w p v dn a e S c) (hc:c<99000) :
 Calls Tryz.prog 34 #[.pointer (some ⟨v,0,none⟩)] w fun r w'=>VfG w0 w w' p v r dn a e S (c+3):=by
 rcases h with ⟨rfl,R,boot,M,h,-⟩ | ⟨rfl,M,h⟩
 ·exact (h.rotate hc).mono fun r w' hT=>VfT.to (fun _=>h.vtz) hT (by omega)
 ·exact h.rotate.mono fun r w' hT=>VfN.to (fun _=>h.vtz) hT.1 hT.2 (by omega)
theorem VfE.place_hi {dn:Bool} {a e:Int} {S:List PairM} {c:Nat} (h:VfE w0 w p v dn a e S c):dn=false→e≤9223372036854775807:=by
 rcases h with ⟨-,R,boot,M,h,-,rfl,-⟩ | ⟨rfl,M,h⟩
 ·exact fun _=>h.place_ok.ep1
 ·intro e;simp at e
def DownI (w0:World) (p v:Nat) (wv:Value) (cs:List (List Value)) (dn:Bool) (a e:Int) (S:List PairM) (c:Nat) (k:Nat) (w:World) (v':Nat) (a' e':Int):Prop:=v'=v∧k≤1∧TRow w 55 2 wv cs∧∃dn' S',VfE w0 w p v dn' a' e' S' (c+3*k)∧(dn=true→dn'=true∧a'=a∧e'=e∧S'=S)∧(k=0→dn'=dn∧a'=a∧e'=e∧S'=S)
theorem VfG.down_to {r:Ending} {dn:Bool} {a e:Int} {S:List PairM} {c:Nat} {wv:Value} {cs:List (List Value)} (hw:TRow w 55 2 wv cs) (h:VfG w0 w w' p v r dn a e S (c+3)):∃n a' e',r=.returned (.int .i64 n)∧DownI w0 p v wv cs dn a e S c 1 w' v a' e':=by
 obtain ⟨n,dn',a',e',S',rfl,h1,hu,h2⟩:=h;exact ⟨n,a',e',rfl,rfl,Nat.le_refl _,hw.vt hu (by decide),dn',S',h1,fun hd=>(h2 hd).2,fun h=>by omega⟩
theorem down_on {dn:Bool} {a e:Int} {S:List PairM} {c:Nat} {x:ActM} {lv wv:Value} {cs:List (List Value)} (hc:c<98000) (hA:IsActs17 w0 lv [x]) (hf:x.Few) (h5:x.do_≠5) (he:dn=false→e≤9223372036854775807):PlaysOn w0 p [x] (DownI w0 p v wv cs dn a e S c):=by
 have hin:=hA.each x (by simp);have h0:∀ {k y},[x][k]? = some y→k=0∧y=x:=fun {k y} h=>by
  cases k with
  | zero=>exact ⟨rfl,by simpa using h.symm⟩
  | succ k=>simp at h
 refine ⟨fun h=>?_,fun h hu=>?_,fun {k w u a' e'} h=>?_,fun {k w u a' e' y} h hx hd=>?_,fun {k w u a' e' y} h hx hd=>?_,fun {k w u a' e' y} h hx hd=>?_,fun {k w u a' e' y} h hx hd=>?_,fun {k w u a' e' y} h hx hd=>?_,fun {k w u a' e' y} h hx hd=>?_⟩
 ·obtain ⟨-,-,-,_,_,h,-⟩:=h
  exact h.upd
 ·obtain ⟨h1,hk,hw,dn',S',h2,h3⟩:=h
  exact ⟨h1,hk,hw.still hu,dn',S',h2.still hu,h3⟩
 ·obtain ⟨rfl,hk,hw,dn',S',h2,h3⟩:=h
  exact h2.place (by omega)
 ·obtain ⟨rfl,rfl⟩:=h0 hx
  obtain ⟨rfl,-,hw,dn',S',h2,-,h4⟩:=h;obtain ⟨rfl,rfl,rfl,rfl⟩:=h4 rfl;have ho:(batAt y a' e').ops=y.b.ops:=by unfold batAt;split<;>rfl
  have hep:dn'=false→(batAt y a' e').epoch≤9223372036854775807:=fun hdn=>by
   have e1:=hin.bat.epoch.2;have e2:=he hdn;unfold batAt;split
   ·exact e1
   ·show max _ _≤_
    omega
  exact (h2.commit_in (by omega) (batAt y a' e') (ov:=y.ov) (by rw [ho];exact hin.bat.ops) (by rw [ho];exact hf.ops) hep).mono fun r w' hT=>hT.down_to hw
 ·obtain ⟨rfl,rfl⟩:=h0 hx
  obtain ⟨rfl,-,hw,dn',S',h2,-,h4⟩:=h;obtain ⟨rfl,rfl,rfl,rfl⟩:=h4 rfl;exact (h2.set_in (by omega) hin.met hf.met).mono fun r w' hT=>hT.down_to hw
 ·obtain ⟨rfl,rfl⟩:=h0 hx
  obtain ⟨rfl,-,hw,dn',S',h2,-,h4⟩:=h;obtain ⟨rfl,rfl,rfl,rfl⟩:=h4 rfl;exact (h2.install_in (by omega) hin.met hf.met hin.prs hf.prs y.at_ y.ep hin.ep.2).mono fun r w' hT=>hT.down_to hw
 ·obtain ⟨rfl,rfl⟩:=h0 hx
  obtain ⟨rfl,-,hw,dn',S',h2,-,h4⟩:=h;obtain ⟨rfl,rfl,rfl,rfl⟩:=h4 rfl;exact (h2.rotate (by omega)).mono fun r w' hT=>hT.down_to hw
 ·obtain ⟨rfl,rfl⟩:=h0 hx
  exact absurd hd h5
 ·obtain ⟨rfl,rfl⟩:=h0 hx
  obtain ⟨h1,-,hw,dn',S',h2,h3,h4⟩:=h;exact ⟨h1,Nat.le_refl _,hw,dn',S',h2.mono (by omega),h3,fun h=>by omega⟩
theorem VfE.opens {dn:Bool} {a e:Int} {S:List PairM} {c:Nat} (h:VfE w0 w p v dn a e S c) (hc:c<99000):Calls Tryz.prog 16 #[.pointer (some ⟨p,0,none⟩),.string (str masterL)] w fun r w'=>∃u n d F,r=.returned (.tuple #[.pointer u,.int .i64 n])∧DiskAt w' p d F∧decide (n=14)=d.off∧Upd (fun _=>False) w0 w':=by
 rcases h with ⟨-,R,boot,M,h,-⟩ | ⟨-,M,h⟩
 ·obtain ⟨d,V,o,S0,hB,ho,hg,-,-⟩:=h
  refine (vopen_c hB.at_.disk (hg.opens_ hc ho)).mono ?_;intro r w' hO;obtain ⟨D,V',q1,q2,q3,q4⟩:=VDk.opens hg hc;have hlow:∀q ∈ o.F,w0.heap.size≤q:=fun q hq=>hB.low q (.inr (.inl hq))
  rcases hg.two_open hc ho with ⟨t1,t2,t3⟩ | ⟨t1,t2,t3⟩
  ·rw [q1] at t3
   have e3:(openV d V).2.2=0:=congrArg Prod.snd t3;obtain ⟨u,o',rfl,hL⟩:=hO.yes e3;exact ⟨_,0,_,_,rfl,hL.at_.disk,by rw [t1];rfl,hB.upd.then hL.upd (fun q hq=>.inr (hlow q hq))⟩
  ·obtain ⟨rfl,F',hL⟩:=hO.no (by rw [t2];decide)
   exact ⟨_,_,_,_,rfl,hL.disk,by rw [t1,t2];rfl,hB.upd.then hL.upd (fun q hq=>.inr (hlow q hq))⟩
 ·obtain ⟨d,V,o,hB,ho,-⟩:=h
  refine (vopen_off hB.at_.disk ho _).mono ?_;rintro r w' ⟨rfl,rfl⟩;exact ⟨_,14,d,_,rfl,hB.at_.disk,by rw [ho];rfl,hB.upd⟩
end
section
variable {w0 w:World} {p v c:Nat} {M:Nat→Prop} {Q:RvM→Prop} {a e:Int} {S:List PairM}
theorem VfN.set0 (h:VfN w0 w p v a e S Q c M):Calls Tryz.prog 24 #[.pointer (some ⟨v,0,none⟩),.agg #[.int .i64 0,.int .i64 0,.int .i64 0,.slice none 0 0,.string ⟨#[]⟩]] w fun r w'=>r=.returned (.int .i64 14)∧∃M',VfN w0 w' p v a e S Q c M'∧Stp w w' M M':=h.set_ metaM0 (.slice none 0 0)
theorem VfN.install0 (h:VfN w0 w p v a e S Q c M):Calls Tryz.prog 21 #[.pointer (some ⟨v,0,none⟩),.agg #[.int .i64 0,.int .i64 0,.int .i64 0,.slice none 0 0,.string ⟨#[]⟩],.slice none 0 0,.int .i64 0,.int .i64 0] w fun r w'=>r=.returned (.int .i64 14)∧∃M',VfN w0 w' p v a e S Q c M'∧Stp w w' M M':=h.install metaM0 (.slice none 0 0) (.slice none 0 0) 0 0
theorem VfN.commit0 (h:VfN w0 w p v a e S Q c M) (x y:Int):Calls Tryz.prog 15 #[.pointer (some ⟨v,0,none⟩),.agg #[.int .i64 x,.int .i64 y,.slice none 0 0]] w fun r w'=>r=.returned (.int .i64 14)∧∃M',VfN w0 w' p v a e S Q c M'∧Stp w w' M M':=h.commit ⟨x,y,[]⟩ (.slice none 0 0)
end
theorem walk_VaultDown (w:World) {lv:Value} {l:List ActM} {n:Int} (hA:IsActs17 w lv l) (hn:(Lit.int .i64 n).wf=true) :
 Calls Tryz.prog 4 #[lv,.int .i64 n] w fun e w'=>e=.returned (.bool true)∧Upd (fun _=>False) w w':=by
 have hnr:=i64r_of hn;have HA:=Lib.hid hA;obtain ⟨A,cap,bA,off,rfl,hcap,hm,hA0,hcells⟩:=hA.rows.open_still;rw [List.length_map] at hm hA0 hcap;have HA0:=Lib.hid hA0;have HRW:=Lib.hid hcells;clear hA hn hA0 hcells;rw [List.length_map] at HA ⊢;go_enter Tryz.func4,Tryz.ntmps4
 go_wp2_with fail
 refine (great17_c HA.out).mono ?_;rintro e w1 ⟨bg,rfl,hU1,hq⟩;have HU1:=Lib.hid hU1;clear hU1;cases bg
 rotate_left 1
 ·clear hq
  go_wp2_with (first
   | (go_at_call 26;refine (wakes_17 _).mono ?_;rintro e w9 ⟨rfl,hU⟩;have HE:=Lib.hid (HU1.out.then hU (fun _ e=>e.elim));clear hU))
  go_ret
  exact ⟨rfl,HE.out⟩
 have HF:=Lib.hid (hq rfl);have HA1:=Lib.hid (HA.out.still HU1.out);clear hq;go_upto_region 4 with (first
  | (go_at_call 11;refine (fresh_17 w1).mono ?_;rintro e w2 ⟨p,v,rfl,M0,hV⟩
     have HV:=Lib.hid hV.fused;clear hV))
 go_upto_region 7 with (first
  | (go_at_call 29;refine (small_c n hnr _).mono ?_;rintro e w3 ⟨sm,rfl,hs0,hs1,rfl⟩)
  | (go_at_call 28;refine (HV.out.fuse sm (by omega)).mono ?_;rintro e w4 ⟨rfl,M4,hV,-⟩
     have H4:Hid (VfE w1 w4 p v false 0 0 [] 1):=Lib.hid (.inl ⟨rfl,_,_,_,hV,rfl,rfl,rfl⟩);clear hV))
 clear hs0 hs1 HV;go_wp2_with fail
 go_loopw [8,9] (fun dv i wr=>∃(k:Nat) (dn:Bool) (a e:Int) (S:List PairM),k≤l.length∧i=.int .i64 k∧dv=.bool dn∧VfE w1 wr p v dn a e S (1+15*k)) (fun _ i _=>l.length - (intOf i).toNat)
 case atStart=>exact ⟨0,false,0,0,[],by omega,rfl,rfl,H4.out⟩
 case round =>
  obtain ⟨k,dn,a,e,S,hk,rfl,rfl,hV⟩:=hrel;have H:=Lib.hid hV;clear hV H4;by_cases hlt:k<l.length
  ·obtain rfl:=HA0.out (by omega)
   have hl60:=HF.out.1;obtain ⟨x,hx⟩:=eqx (l[k]);obtain ⟨D,hD⟩:∃D:Int,(x.do_.toNat:Int)=D:=⟨_,rfl⟩;have c0:wr.cell? ⟨bA,off+k*12,none⟩=some (.int .u8 D):=HRW.out wr (HU1.out.then H.out.upd (fun _ e=>e.elim)) k x.row (by rw [List.getElem?_map,List.getElem?_eq_getElem hlt,hx];rfl) 0 _ (by rw [← hD];rfl)
   have hA1:=HA1.out.one hlt;rw [hx] at hA1;have HX:=h4k hA1 (HF.out.2 x (hx ▸ List.getElem_mem hlt)) hD hl60;have j1:(k:Int)<(l.length:Int):=by omega
   have hwk:IntKind.i64.wrap ((k:Int)+1)=(k:Int)+1:=IntWalk.i64_in _ (by omega);clear hA1 hx hD hl60;by_cases h5:D=5
   ·subst h5
    go_wp2_with fail
    go_roundw
    case rel=>exact ⟨k+1,dn,a,e,S,by omega,by simp,rfl,H.out.mono (by omega)⟩
    case measure=>simp [intOf]<;>omega
   ·have h5b:(D == 5)=false:=by rw [beq_eq_false_iff_ne];exact h5
    have hx5:x.do_≠5:=fun e=>h5 (by rw [← HX.out.2.2.1,e];rfl)
    have HPL:=Lib.hid (fun (wv:Value)=>down_on (p:=p) (v:=v) (wv:=wv) (cs:=S.map pairRow) (dn:=dn) (a:=a) (e:=e) (S:=S) (c:=1+15*k) (by have:=HX.out.2.2.2;omega) HX.out.1 HX.out.2.1 hx5 H.out.place_hi);clear h5 hx5;go_upto_region 14 with (first
     | (go_at_call 12;refine (H.out.place (by have:=HX.out.2.2.2;omega)).mono ?_;rintro r w5 ⟨rfl,hU⟩
        have H5:=Lib.hid (H.out.still hU);clear hU)
     | (go_at_call 18;refine (H5.out.map_ (by have:=HX.out.2.2.2;omega)).mono ?_;rintro r w6 ⟨m1,mb1,rfl,hm,-,-,hU⟩
        have H6:=h2k (H5.out.still hU) hm;clear hU hm)
     | (go_at_call 30;refine (oall_c H6.out.2).mono ?_;rintro r w7 ⟨wv,rfl,hO,hfr,hU⟩
        have H7:=h2k (H6.out.1.still hU) (trow_all hO H6.out.2);clear hU hO hfr))
    have HPY:=Lib.hid (plays_c (v:=v) (HPL.out wv) HX.out.1 (a:=a) (e:=e) ⟨rfl,by omega,H7.out.2,dn,S,H7.out.1,fun h=>⟨h,rfl,rfl,rfl⟩,fun _=>⟨rfl,rfl,rfl,rfl⟩⟩);clear c0;go_upto_region 15 with (first
     | (go_at_call 31;refine HPY.out.mono ?_;rintro r w8 ⟨v',a',e',rfl,hv',-,hw8,dn',S',h8,hs,-⟩
        rw [hv'];have H8:=h3k (show VfE w1 w8 p v dn' a' e' S' (4+15*k) from h8.mono (by simp;omega)) hw8 hs;clear h8 hw8 hs hv'))
    clear HPY HPL;go_upto_region 16 with (first
     | (go_at_call 12;refine (H8.out.1.place (by have:=HX.out.2.2.2;omega)).mono ?_;rintro r w9 ⟨rfl,hU⟩
        have H9:=h3k (H8.out.1.still hU) (H8.out.2.1.still hU) H8.out.2.2;clear hU))
    clear H8;cases dn
    ·cases dn'
     ·go_wp2_with (first
       | (go_at_call 33;refine H9.out.1.down_.mono ?_;rintro r w10 ⟨rfl,rfl⟩))
      go_roundw
      case rel=>exact ⟨k+1,false,a',e',S',by omega,by simp,rfl,H9.out.1.mono (by omega)⟩
      case measure=>simp [intOf]<;>omega
     ·go_upto_region 19 with (first
       | (go_at_call 33;refine H9.out.1.down_.mono ?_;rintro r w10 ⟨rfl,rfl⟩))
      obtain ⟨Mn,hN⟩:∃M,VfN w1 w9 p v a' e' S' (fun _=>True) (4+15*k) M:=by
       rcases H9.out.1 with ⟨h,-⟩ | ⟨-,h⟩
       ·cases h
       ·exact h
      have HN:=Lib.hid hN;clear hN;go_wp2_with (first
       | (go_at_call 24;refine HN.out.set0.mono ?_;rintro r w10 ⟨rfl,M10,h10,-⟩;have HN1:=Lib.hid h10;clear h10)
       | (go_at_call 34;refine HN1.out.rotate.mono ?_;rintro r w11 ⟨rfl,M11,h11,-⟩;have HN2:=Lib.hid h11;clear h11)
       | (go_at_call 21;refine HN2.out.install0.mono ?_;rintro r w12 ⟨rfl,M12,h12,-⟩;have HN3:=Lib.hid h12;clear h12)
       | (go_at_call 15;refine (HN3.out.commit0 _ _).mono ?_;rintro r w13 ⟨rfl,M13,h13,-⟩;have HN4:=Lib.hid h13;clear h13))
      go_roundw
      case rel=>exact ⟨k+1,true,a',e',S',by omega,by simp,rfl,.inr ⟨rfl,M13,HN4.out.mono (by omega) (fun _ _=>trivial)⟩⟩
      case measure=>simp [intOf]<;>omega
    ·obtain ⟨rfl,rfl,rfl,rfl⟩:=H9.out.2.2 rfl
     have na:(a' != a')=false:=by simp
     have ne:(e' != e')=false:=by simp
     go_upto_region 19 with (first
      | (go_at_call 18;refine (H9.out.1.map_ (by have:=HX.out.2.2.2;omega)).mono ?_;rintro r w10 ⟨m2,mb2,rfl,hm,-,-,hU⟩
         have H10:=h3k (H9.out.1.still hU) (H9.out.2.1.still hU) hm;clear hU hm)
      | (go_at_call 30;refine (oall_c H10.out.2.2).mono ?_;rintro r w11 ⟨wv2,rfl,hO,hfr,hU⟩
         have H11:=h3k (H10.out.1.still hU) (H10.out.2.1.still hU) (trow_all hO H10.out.2.2);clear hU hO hfr)
      | (go_at_call 32;refine (same13_c H11.out.2.1 H11.out.2.2).mono ?_;rintro r w12 ⟨rfl,hU⟩
         rw [decide_eq_true rfl];have H12:=Lib.hid (H11.out.1.still hU);clear hU)
      | (go_at_call 33;refine H12.out.down_.mono ?_;rintro r w10 ⟨rfl,rfl⟩))
     clear na ne;obtain ⟨Mn,hN⟩:∃M,VfN w1 w12 p v a' e' S' (fun _=>True) (4+15*k) M:=by
      rcases H12.out with ⟨h,-⟩ | ⟨-,h⟩
      ·cases h
      ·exact h
     have HN:=Lib.hid hN;clear hN;go_wp2_with (first
      | (go_at_call 24;refine HN.out.set0.mono ?_;rintro r w10 ⟨rfl,M10,h10,-⟩;have HN1:=Lib.hid h10;clear h10)
      | (go_at_call 34;refine HN1.out.rotate.mono ?_;rintro r w11 ⟨rfl,M11,h11,-⟩;have HN2:=Lib.hid h11;clear h11)
      | (go_at_call 21;refine HN2.out.install0.mono ?_;rintro r w12 ⟨rfl,M12,h12,-⟩;have HN3:=Lib.hid h12;clear h12)
      | (go_at_call 15;refine (HN3.out.commit0 _ _).mono ?_;rintro r w13 ⟨rfl,M13,h13,-⟩;have HN4:=Lib.hid h13;clear h13))
     go_roundw
     case rel=>exact ⟨k+1,true,a',e',S',by omega,by simp,rfl,.inr ⟨rfl,M13,HN4.out.mono (by omega) (fun _ _=>trivial)⟩⟩
     case measure=>simp [intOf]<;>omega
  ·have j1:¬((k:Int)<(l.length:Int)):=by omega
   have hl60:=HF.out.1;go_wp2_with (first
    | (go_at_call 16;refine (H.out.opens (by omega)).mono ?_;rintro r w5 ⟨u,en,d,F,rfl,hD,hdec,hU⟩
       have H5:=h2k hD hU;have hdc:=down_c hD;have HDC:=Lib.hid hdc;clear hD hU hdc)
    | (go_at_call 33;refine HDC.out.mono ?_;rintro r w6 ⟨rfl,rfl⟩)
    | (go_at_call 26;refine (wakes_17 _).mono ?_;rintro e w9 ⟨rfl,hU⟩;have HE:=Lib.hid (HU1.out.then (H5.out.2.then hU (fun _ e=>e.elim)) (fun _ e=>e.elim));clear hU))
   go_ret
   exact ⟨rfl,HE.out⟩
end
section
open Go Go.ChangeShapes Go.WideShapes Go.ChangeAt Go.RowKit Go.Proofs.YtbhjgfibhegddaaGreat
theorem common1:laidOutB Tryz.pinned.checked.prog=true:=by kernel_rfl
theorem common2:mapsRowed Tryz.pinned.checked.prog=true:=by kernel_rfl
theorem common6:(Tryz.pinned.checked.prog.stops == [])=true:=by kernel_rfl
theorem common8:(Tryz.pinned.checked.prog.stopKnobs == [])=true:=by kernel_rfl
theorem common22:(Rows.vaultMetasRow.plainKeys == Tryz.pinned.checked.prog.plainKeys)=true:=by kernel_rfl
theorem common24:Tryz.pinned.checked.prog.stopsHeard=true:=by kernel_rfl
theorem common25:Tryz.pinned.checked.prog.mayEnter=true:=by kernel_rfl
theorem common26:(Rows.vaultMetasRow.lifted == Tryz.pinned.checked.prog.liftsFinal)=true:=by kernel_rfl
theorem common27:(Tryz.pinned.checked.prog.make == some Rows.vaultMetasRow.make)=true:=by kernel_rfl
theorem and_mk {a b:Bool} (ha:a=true) (hb:b=true):(a && b)=true:=by rw [ha,hb];rfl
end
end Go.Proofs.YtbhjgfibhegddaaGreat
