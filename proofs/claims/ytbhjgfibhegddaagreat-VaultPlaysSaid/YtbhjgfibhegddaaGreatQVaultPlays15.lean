/-
  Parts of the proof of VaultPlays: RingC, RingD, RingE, RingF, VatA, VatB, VatC.
-/
import Derived.Test.YtbhjgfibhegddaaGreatQVaultPlays14
set_option maxRecDepth 100000
set_option maxHeartbeats 16000000
namespace Go.Proofs.YtbhjgfibhegddaaGreat
open Tryz
section
open Go Go.RowKit
def zh (e:Int × Nat):Int × Value:=(e.1,.pointer (some ⟨e.2,0,none⟩))
structure bT (F:Nat→Prop) (w0 w:World) (r:Nat) (aP:ByteArray) (cur μ n kb:Nat) (ay:List (Int × Nat)):Prop where
 blk:η w r 186 #[.string aP,ι (cur:Int),.int .u32 (μ:Int),ω (n:Int),.map (some kb)]
 map:cA (fun i:Int=>Value.int .i64 i) w kb (ay.map zh)
 slots:∀e ∈ ay,η w e.2 269 (iG 1 0 (kf aP.data.toList e.1.toNat))
 new:F r∨w0.heap.size≤r
 B5:F kb∨w0.heap.size≤kb
 Er:∀e ∈ ay,F e.2∨w0.heap.size≤e.2
 ε:ζ F w0 w
theorem bT.still {F:Nat→Prop} {w0 w w':World} {r:Nat} {aP:ByteArray} {cur μ n kb:Nat} {ay:List (Int × Nat)} (h:bT F w0 w r aP cur μ n kb ay) (hu:υ w w'):bT F w0 w' r aP cur μ n kb ay :=
 ⟨h.blk.ε hu (fun e=>e),h.map.ε hu (fun e=>e),fun e he=>(h.slots e he).ε hu (fun e=>e),h.new,h.B5,h.Er,h.ε.then hu φ⟩
theorem VL {ay:List (Int × Nat)} {i:Int} : nI (ay.map zh) i=none∨∃e ∈ ay,e.1=i∧nI (ay.map zh) i=some (.pointer (some ⟨e.2,0,none⟩)):=by
 unfold nI;cases hf:(ay.map zh).find? (fun p=>decide (p.1=i)) with
 | none=>exact .inl rfl
 | some p =>
   obtain⟨e,he,rfl⟩:=bZ.1 (List.mem_of_find?_eq_some hf);exact .inr ⟨e,he,by have h:=List.find?_some hf;exact of_decide_eq_true h,rfl⟩
theorem ac0:prog.built 269 []=some (iG 0 0 (List.replicate 32 0)):=kR
theorem VM {F:Nat→Prop} {w0 w:World} {r:Nat} {aP:ByteArray} {cur μ n kb:Nat} {ay:List (Int × Nat)} (h:bT F w0 w r aP cur μ n kb ay) (i:Nat) (hi:i≤1048576) (hm:aP.size≤64) :
 ς 108 #[.pointer (some ⟨r,0,none⟩),ι (i:Int)] w fun e w'=>e=ώ (.agg (ψ (kf aP.data.toList i)))∧∃fH,bT F w0 w' r aP cur μ n kb fH:=by
 obtain⟨g,hg⟩:=κ w.heap.size;have HG:=δ hg;have HH:=δ h;have HI:=τ hi hm;obtain⟨K,hK⟩:=κ (kf aP.data.toList i);have p_:K.length=32:=by rw[← hK];exact qi _ _
 rw[hK];have HK:=δ hK;have yI:=δ p_;clear h hi hm hK p_;go_enter func108,ntmps108
 go_upto_region 1 with (fail)
 generalize aH:World.alloc _ _=w2;have EE:η w2 g 111 #[.pointer (some ⟨r,0,none⟩)]:=by rw[← aH,← hg];exact((η.new w _ _).alloc _).alloc _
 have bn:η w2 (g+1) 3 #[ι (i:Int)]:=by
  have h:=(η.new (w.alloc (.cells #[.pointer (some ⟨r,0,none⟩)] 111)) 3 #[ι (i:Int)]).alloc (.cells (ψ (List.replicate 32 0)) 194);rw[cM,hg] at h;rw[← aH];exact h
 have hc2:η w2 (g+1+1) 194 (ψ (List.replicate 32 0)):=by
  have h:=η.new ((w.alloc (.cells #[.pointer (some ⟨r,0,none⟩)] 111)).alloc (.cells #[ι (i:Int)] 3)) 194 (ψ (List.replicate 32 0));rw[cM,cM,hg] at h;rw[← aH];exact h
 have π:υ w w2:=by rw[← aH];exact(((ζ.refl _ w).alloc _).alloc _).alloc _
 have aT:w2.heap.size=g+3:=by rw[← aH,cM,cM,cM,hg]
 have aU:=cx EE bn hc2 (HH.out.still π) aT;have lV:=δ π;clear EE bn hc2 π aH hg aT;obtain⟨q,hq⟩:=κ w2.heap.size;have HQ:=δ (show q=g+3 by rw[← hq];exact aU.out.2.2.2.2);refine dB ?_;refine dK (S:=fun w'=>υ w2 w') (T:=fun _=>false) kR ?_;have aC:=(ζ.refl (fun _=>False) w2).drew;refine aQ 0 (fun w' hSw=>And.intro (aU.out.1.ε hSw (fun e=>e)).dD (And.intro (aU.out.2.1.ε hSw (fun e=>e)).dD (show w'.cell? ⟨r,4,none⟩=some (.map (some kb)) from (aU.out.2.2.2.1.blk.ε hSw (fun e=>e)).cell 4))) ?_;refine aQ 1 (fun w' hSw=>And.intro (aU.out.1.ε hSw (fun e=>e)).dD (And.intro (aU.out.2.1.ε hSw (fun e=>e)).dD (show w'.cell? ⟨r,4,none⟩=some (.map (some kb)) from (aU.out.2.2.2.1.blk.ε hSw (fun e=>e)).cell 4))) ?_;refine aQ 2 (fun w' hSw=>And.intro (aU.out.1.ε hSw (fun e=>e)).dD (And.intro (aU.out.2.1.ε hSw (fun e=>e)).dD (show w'.cell? ⟨r,4,none⟩=some (.map (some kb)) from (aU.out.2.2.2.1.blk.ε hSw (fun e=>e)).cell 4))) ?_;refine aQ 3 (fun w' hSw=>And.intro (aU.out.1.ε hSw (fun e=>e)).dD (And.intro (aU.out.2.1.ε hSw (fun e=>e)).dD (show w'.cell? ⟨r,4,none⟩=some (.map (some kb)) from (aU.out.2.2.2.1.blk.ε hSw (fun e=>e)).cell 4))) ?_
 refine aQ 4 (fun w' hSw=>And.intro (aU.out.1.ε hSw (fun e=>e)).dD (And.intro (aU.out.2.1.ε hSw (fun e=>e)).dD (show w'.cell? ⟨r,4,none⟩=some (.map (some kb)) from (aU.out.2.2.2.1.blk.ε hSw (fun e=>e)).cell 4))) ?_;obtain⟨V,hV⟩:=κ ((nI (ay.map zh) (i:Int)).getD (.pointer none));obtain⟨B,hB⟩:=κ (nI (ay.map zh) (i:Int)).isSome;have hz:∀W:World,(zeroValue 257).run prog W=.ok (.pointer none) W:=fun W=>by simp[go_sem]
 have hlk:∀w',υ w2 w'→(Instr.lookup 184 (.map (some kb)) (ι (i:Int)) true).run prog w'=.ok (.tuple #[V,.bool B]) w':=fun w' hSw=>by
  have:=(aU.out.2.2.2.1.map.ε hSw (fun e=>e)).FO (P:=prog) xX underlying184 underlying3 (i:Int) true (hz w');rw[σ rfl,hV,hB] at this;exact this
 refine aQ 5 (fun w' hSw=>hlk _ hSw) ?_;refine ξ 6 ?_;refine ξ 7 ?_;refine ξ 8 ?_;refine aY 9 (fun KK hK=>?_);go_simp
 have hV1:V.oneCell'=true:=by
  rw[← hV];rcases VL (ay:=ay) (i:=(i:Int)) with e | ⟨e,-,-,h⟩
  ·rw[e];rfl
  ·rw[h];rfl
 have Ar:υ w2 (w2.alloc (.cells #[.pointer none] 257)).drew:=((ζ.refl _ w2).alloc _).drew;have cW:η (w2.alloc (.cells #[.pointer none] 257)).drew q 257 #[.pointer none]:=by rw[← hq];exact η.new w2 _ _
 refine hK.out _ _ Ar ?_;clear hK;generalize fJ:(w2.alloc (.cells #[.pointer none] 257)).drew=w3 at Ar cW ⊢;refine aY 10 (fun KK hK=>?_);refine abr (by rfl) 257 _ _ (by rfl) q 0 V (by rfl) (by rfl) _ _ #[V] cW dC rfl hV1 kR ?_;intro w4 aE ag cG;have dh:υ w2 w4:=Ar.then ag (fun b hb=>.inr oM);refine hK.out _ _ dh ?_;clear hK;refine ξ 11 ?_;refine dF ?_;refine cZ ?_;have kB:=cx (aU.out.1.ε dh (fun e=>e)) (aU.out.2.1.ε dh (fun e=>e)) (aU.out.2.2.1.ε dh (fun e=>e)) aE (aU.out.2.2.2.1.still dh);have nM:=δ (lV.out.then dh φ);have cG:g+3<w4.heap.size:=by have:=aE.lt;have:=HQ.out;omega
 have HZ4:=δ cG;clear fJ Ar cW ag dh aE hlk hz aC hV1 cG hq;have hnot:∀(x:Bool) (w:World),(Op.unary .not (.bool x)).run prog w=.ok (.bool (!x)) w:=fun _ _=>rfl
 rcases VL (ay:=ay) (i:=(i:Int)) with CN | ⟨e,he,hei,CN⟩
 ·rw[CN] at hV hB
  obtain rfl:Value.pointer none=V:=hV;obtain rfl:false=B:=hB;have HGA:=δ CN;obtain⟨sb,yJ⟩:=κ w4.heap.size;have HSB:=δ yJ;clear CN cG;go_upto_region 4 with (first
   |(refine qf rfl _ _ rfl [] _ rfl ac0 ?_)
   |(refine gw rfl 257 _ _ rfl q 0 (.pointer (some ⟨sb,0,none⟩)) rfl (by rw[← yJ];rfl) _ _ ((kB.out.2.2.2.1).alloc _) dC rfl kR ?_
     intro w5 aF av iz))
  have hqs:q<sb:=by rw[← yJ];exact kB.out.2.2.2.1.lt
  have tU:η w5 sb 269 (iG 0 0 (List.replicate 32 0)):=by
   have h:=η.new w4 269 (iG 0 0 (List.replicate 32 0));rw[yJ] at h;exact h.ε av oM
  have SD:υ w w5:=(nM.out.alloc _).then av (fun b hb=>.inr (by have e2:b=q:=hb;have:=HQ.out;have:=HG.out;omega));have zU:η w5 g 111 #[.pointer (some ⟨r,0,none⟩)]:=(kB.out.1.alloc _).ε av (oN HQ.out);have Jc:η w5 (g+1) 3 #[ι (i:Int)]:=(kB.out.2.1.alloc _).ε av (oN HQ.out);have Cy:η w5 (g+1+1) 194 (ψ (List.replicate 32 0)):=(kB.out.2.2.1.alloc _).ε av (oN HQ.out);have G7:η w5 q 257 #[.pointer (some ⟨sb,0,none⟩)]:=aF;have R5:=HH.out.still SD.drew;obtain⟨w6,Lm,tS,az,iB⟩:=R5.map.Kl (P:=prog) xX underlying184 underlying3 (i:Int) (.pointer (some ⟨sb,0,none⟩));have ca:=zU.dD;have cb:=Jc.dD;have cq:=G7.dD;have cr:w5.cell? ⟨r,4,none⟩=some (.map (some kb)):=R5.blk.cell 4;have SG:=R5.map.fO R5.blk;have SH:kb≠sb:=R5.map.fO tU.drew;have nkg:kb≠g:=R5.map.fO zU.drew;have nki:kb≠g+1:=R5.map.fO Jc.drew;have nkq:kb≠q:=R5.map.fO G7.drew;have H6:=cx (tU.drew.ε az SH.symm) (zU.drew.ε az nkg.symm) (Jc.drew.ε az nki.symm) (G7.drew.ε az nkq.symm) (R5.blk.ε az SG.symm)
  have HN:=τ SG SH;clear SG SH nkg nki nkq;have H5:=zO tU SD zU Jc Cy G7 tS az;clear tU SD zU Jc Cy aF G7 tS az av iz yJ R5;go_still_tail 6,kR
  change wpList _ _ _ _ _ w5.drew;go_upto_region 5 with (fail)
  have cq6:=H6.out.2.2.2.1.dD;have lX:=acZ H6.out.2.1 H6.out.2.2.1 H6.out.2.2.2.1 H6.out.2.2.2.2 H6.out.1 fG HI.out.1 HI.out.2 (oN HQ.out) (oN HQ.out) oM (by have:=HH.out.blk.lt;have:=HG.out;have:=HQ.out;omega);rw[HK.out] at lX;have Au:=δ lX;clear lX;go_wp2_with (first
   |(go_at_call 165
     refine Au.out.mono ?_;rintro e w7 ⟨rfl,dG,bK⟩;have H7:=τ dG bK;have cq7:=(H6.out.2.2.2.1.ε bK oM).dD;clear dG bK cq6)
   |(refine qL rfl _ _ rfl sb 3 rfl _ _ (aK K) _ H7.out.1 (Uz _ _ _) underlying194 rfl (by rw[sR,yI.out];kernel_rfl) ?_)
   |(refine fk rfl 194 _ _ rfl (g+1+1) (ψ K) rfl rfl 194 (ψ (List.replicate 32 0)) ((H5.out.2.2.2.2.1.drew.ε H5.out.2.2.2.2.2.2.2 (oO HH.out.map.lt HG.out)).ε H7.out.2 (oN HQ.out)) (by rw[bq,bq,yI.out];rfl) (lY _) (by rw[bq,yI.out];kernel_rfl) ?_
     intro w8 jc cC kC))
  have aki:=HG.out;have nN:=HH.out.map.lt;have hrl:=HH.out.blk.lt;have hqe:=HQ.out;have hU:ζ (· = kb) w w8:=(((H5.out.2.1.drew.mono (G:=(· = kb)) φ).then H5.out.2.2.2.2.2.2.2 (fun _ e=>.inl e)).then H7.out.2 (fun b e=>.inr (by have e2:b=sb:=e;omega))).then cC (fun b e=>.inr (by have e2:b=g+1+1:=e;omega));have sd:lQ (ay.map zh) (i:Int) (.pointer (some ⟨sb,0,none⟩))=(ay++[((i:Int),sb)]).map zh:=by
   unfold lQ;rw[ν ?_,kG]
   ·rfl
   ·intro hmem
    obtain⟨p,hp,hpi⟩:=bZ.1 hmem;have h:=HGA.out;unfold nI at h;rw[Option.map_eq_none_iff,aaN] at h;exact h p hp (by simp[hpi])
  have hM:=H5.out.2.2.2.2.2.2.1;rw[sd] at hM;refine cy (jx rfl _ _ (g+1+1) _ _ _ _ rfl jc underlying194 rfl (by rw[bq,yI.out];kernel_rfl)) rfl ⟨rfl,ay++[((i:Int),sb)],?_⟩
  refine⟨HH.out.blk.ε hU HN.out.1.symm,(hM.ε H7.out.2 HN.out.2).ε cC oM,fun e he=>?_,HH.out.new,HH.out.B5,fun e he=>?_,HH.out.ε.then hU (fun b e=>by have e2:b=kb:=e;rw[e2];exact HH.out.B5)⟩
  ·rcases nZ.1 he with he | he
   ·exact(HH.out.slots e he).ε hU (fun e2=>HH.out.map.fO (HH.out.slots e he) e2.symm)
   ·obtain rfl:=A9.1 he
    show η w8 sb _ (iG 1 0 (kf aP.data.toList i));rw[HK.out];exact H7.out.1.ε cC oM
  ·rcases nZ.1 he with he | he
   ·exact HH.out.Er e he
   ·obtain rfl:=A9.1 he
    exact .inr (by have:=HH.out.ε.size;show w0.heap.size≤sb;omega)
 ·rw[CN] at hV hB
  obtain rfl:Value.pointer (some ⟨e.2,0,none⟩)=V:=hV;obtain rfl:true=B:=hB;have dP:=kB.out.2.2.2.2.slots e he;rw[hei] at dP;have hti:((i:Int)).toNat=i:=rfl;rw[hti] at dP;rw[HK.out] at dP;obtain⟨sb,yJ⟩:=κ e.2;rw[yJ] at dP ⊢;have ou:=δ dP;have cq:=kB.out.2.2.2.1.dD;rw[yJ] at cq;clear CN dP yJ hei hti;go_wp2_with (first
   |(go_at_call 165
     refine(aeh ou.out).mono ?_;rintro e w5 ⟨rfl,rfl⟩)
   |(refine qL rfl _ _ rfl sb 3 rfl _ _ (aK K) _ ou.out (Uz _ _ _) underlying194 rfl (by rw[sR,yI.out];kernel_rfl) ?_)
   |(refine fk rfl 194 _ _ rfl (g+1+1) (ψ K) rfl rfl _ _ kB.out.2.2.1 (by rw[bq,bq,yI.out];rfl) (lY _) (by rw[bq,yI.out];kernel_rfl) ?_
     intro w6 cI az iB))
  refine cy (jx rfl _ _ (g+1+1) _ _ _ _ rfl cI underlying194 rfl (by rw[bq,yI.out];kernel_rfl)) rfl ⟨rfl,ay,HH.out.still (nM.out.then az (fun b hb=>.inr (by have e2:b=g+1+1:=hb;have:=HG.out;omega)))⟩
section
variable {F:Nat→Prop} {w0 w:World} {r:Nat} {aP:ByteArray} {cur μ n kb:Nat} {ay:List (Int × Nat)}
theorem Pv (h:bT F w0 w r aP cur μ n kb ay):ς 105 #[.pointer (some ⟨r,0,none⟩)] w fun e w'=>e=ώ (.bool false)∧w'=w:=by
 have cr:w.cell? ⟨r,4,none⟩=some (.map (some kb)):=h.blk.cell 4;have hmn:(binOp .eql 184 (.map (some kb)) (.map none)).run prog w=.ok (.bool false) w:=by first| rfl | kernel_rfl | simp[binOp,Op.equal,run_underlying underlying184]
 clear h;go_enter func105,ntmps105
 go_wp2_with fail
 go_ret
 exact⟨rfl,rfl⟩
theorem bT.set (h:bT F w0 w r aP cur μ n kb ay) {w':World} {cur' n':Nat} (hu:ζ (· = r) w w') (hB:η w' r 186 #[.string aP,ι (cur':Int),.int .u32 (μ:Int),ω (n':Int),.map (some kb)]):bT F w0 w' r aP cur' μ n' kb ay:=by
 refine⟨hB,h.map.ε hu (h.map.fO h.blk),fun e he=>(h.slots e he).ε hu ?_,h.new,h.B5,h.Er,h.ε.then hu (fun b e=>by have e2:b=r:=e;rw[e2];exact h.new)⟩;exact fun e2=>absurd rfl ((h.slots e he).zP (e2 ▸ h.blk) dC)
theorem aei (h:bT F w0 w r aP cur μ n kb ay) (hc:cur<1048576):ς 79 #[.pointer (some ⟨r,0,none⟩)] w fun e w'=>e=ώ (ι 0)∧bT F w0 w' r aP (cur+1) μ n kb ay:=by
 have HN:=δ (Pv h);have cr:w.cell? ⟨r,1,none⟩=some (ι (cur:Int)):=h.blk.cell 1;have fr:=h.blk.frozen 1;have k1:(cur:Int)<1048576:=oM;have HC:=δ hc;clear hc;have HH:=δ h;clear h;obtain⟨C,hC⟩:∃C:Int,(cur:Int)=C:=⟨_,rfl⟩;rw[hC] at cr k1;have k0:(0:Int)≤C:=oM;have rH:=δ hC;clear hC;go_enter func79,ntmps79
 go_wp2_with (first
  |(go_at_call 105
    refine HN.out.mono ?_;rintro e w' ⟨rfl,rfl⟩))
 go_ret
 refine⟨rfl,?_⟩;refine HH.out.set ((ζ.refl (· = r) _).setCell (p:=⟨r,1,none⟩) (.inl rfl) _) ?_;have:=HH.out.blk.bE 1 (ι (C+1));rw[← rH.out] at this ⊢;exact this
end
theorem Xw (aP:ByteArray) (cur μ:Nat) (hc:cur≤1048576) (w:World) :
 ς 122 #[.string aP,ι (cur:Int),.int .u32 (μ:Int)] w fun e w'=>∃r kb,e=ώ (.tuple #[.pointer (some ⟨r,0,none⟩),ι 0])∧bT (fun _=>False) w w' r aP cur μ 0 kb []:=by
 obtain⟨C,hC⟩:∃C:Int,(cur:Int)=C:=⟨_,rfl⟩;have k0:(0:Int)≤C:=oM;have k1:C≤1048576:=oM;rw[hC];have rH:=δ hC;clear hC hc;have IJ:=@run_makeMap prog;have Jd:prog.built 186 [(0,.string aP),(1,ι C),(2,.int .u32 (μ:Int)),(4,.map (some w.heap.size))]=some #[.string aP,ι C,.int .u32 (μ:Int),ω 0,.map (some w.heap.size)]:=kR;go_enter func122,ntmps122
 go_wp2_with (first
  |(refine qf rfl _ _ rfl [(0,.string aP),(1,ι C),(2,.int .u32 (μ:Int)),(4,.map (some w.heap.size))] _ (by first| rfl | kernel_rfl) Jd ?_))
 go_ret2
 refine⟨w.heap.size+1,w.heap.size,rfl,?_⟩;have h2:=η.new (w.alloc (.map #[] 0)) 186 #[.string aP,ι C,.int .u32 (μ:Int),ω 0,.map (some w.heap.size)];rw[cM,← rH.out] at h2;rw[← rH.out];exact⟨h2,(cA.new w).alloc _,fun e he=>by simp at he,.inr oM,.inr (bQ _),fun e he=>by simp at he,((ζ.refl _ w).alloc _).alloc _⟩
section
variable {F:Nat→Prop} {w0 w w':World} {r:Nat} {aP:ByteArray} {cur μ n kb:Nat} {ay:List (Int × Nat)}
def fo (r kb:Nat) (ay:List (Int × Nat)) (q:Nat):Prop:=q=r∨q=kb∨∃e ∈ ay,e.2=q
theorem bT.here (h:bT F w0 w r aP cur μ n kb ay):bT (fo r kb ay) w w r aP cur μ n kb ay :=
 ⟨h.blk,h.map,h.slots,.inl (.inl rfl),.inl (.inr (.inl rfl)),fun e he=>.inl (.inr (.inr ⟨e,he,rfl⟩)),ζ.refl _ _⟩
theorem bT.Bz (h:bT F w0 w r aP cur μ n kb ay) (q:Nat) (hq:fo r kb ay q):F q∨w0.heap.size≤q:=by
 rcases hq with rfl | rfl | ⟨e,he,rfl⟩
 ·exact h.new
 ·exact h.B5
 ·exact h.Er e he
theorem bT.back {cur' n':Nat} {fH:List (Int × Nat)} (h:bT F w0 w r aP cur μ n kb ay) (h':bT (fo r kb ay) w w' r aP cur' μ n' kb fH):bT F w0 w' r aP cur' μ n' kb fH:=by
 have hs:=h.ε.size;refine⟨h'.blk,h'.map,h'.slots,h.new,h.B5,fun e he=>(h'.Er e he).elim (h.Bz _) (fun x=>.inr oM),h.ε.then h'.ε (fun q hq=>h.Bz q hq)⟩
theorem bT.vT (h:bT F w0 w r aP cur μ n kb ay) {q:Nat} {t:TypeId} {cs:Array Value} (hB:η w q t cs) (n1:t≠186) (n2:t≠269):¬fo r kb ay q:=by
 rintro (rfl | rfl | ⟨e,he,rfl⟩)
 ·exact absurd rfl (hB.zP h.blk n1)
 ·exact h.map.fO hB rfl
 ·exact absurd rfl (hB.zP (h.slots e he) n2)
end
theorem bT.WV {F:Nat→Prop} {w0 w w':World} {r:Nat} {aP:ByteArray} {cur μ n kb q:Nat} {cs:Array Value} {ay:List (Int × Nat)} (h:bT F w0 w r aP cur μ n kb ay) (hB:η w q 191 cs) (hu:ζ (· = q) w w') (h0:w0.heap.size≤q):bT F w0 w' r aP cur μ n kb ay:=by
 have hno:=h.vT hB dC dC;exact⟨h.blk.ε hu (fun e=>hno (.inl e.symm)),h.map.ε hu (fun e=>hno (.inr (.inl e.symm))),fun e he=>(h.slots e he).ε hu (fun e2=>hno (.inr (.inr ⟨e,he,e2⟩))),h.new,h.B5,h.Er,h.ε.then hu (fun b e=>.inr (by have e2:b=q:=e;omega))⟩
theorem zz2 {P:Prop} (h:P:=by
 refine ο.out _ _ CO ?_;clear ο;refine ξ 18 ?_;refine ξ 19 ?_;refine ξ 20 ?_;refine aY 22 (fun KK ο=>?_);refine sO rfl 191 _ _ rfl q x.row rfl rfl 191 _ kQ (by rw[HX.out.2.2.2.1];exact aZ.ql fG) (aZ.row_one x) (by rw[HX.out.2.2.2.1];kernel_rfl) ?_
 intro ws rF Av hzs;have mY:∃es,bT F w0 ws r aP cur μ n kb es:=by
  obtain⟨es,h⟩:=CO;exact⟨es,h.WV kQ Av vf⟩
 refine ο.out _ _ mY ?_;clear ο;refine ξ 23 ?_;refine dF ?_;refine cZ ?_;obtain⟨SI,hz⟩:=mY;have HZ:=aj hz rF vf;clear rF Av hzs vf hz;go_upto_region 11 with (first
  |(refine eL _ q HZ.out.2.1 underlying191 (by rw[HX.out.2.2.2.1];kernel_rfl) ?_)
  |(go_at_call 109
    refine(kN.out _).mono ?_;rintro e wb ⟨rfl,kD⟩;have yK:=δ (HZ.out.1.still kD);clear kD))
 have had:=Xv r 3 n (oN HX.out.2.2.2.2) wb (yK.out.blk.cell 3) (yK.out.blk.frozen 3);have SJ:=δ had;clear had;go_wp2_with fail
 refine SJ.out.mono ?_;rintro e wd ⟨rfl,rfl⟩;go_wp2_with fail
 go_ret2
 refine⟨rfl,SI,yK.out.set ((ζ.refl (· = r) _).setCell (p:=⟨r,3,none⟩) (.inl rfl) _) ?_⟩;exact yK.out.blk.bE 3 _):P:=h
theorem K1 {F:Nat→Prop} {w0 w:World} {r:Nat} {aP:ByteArray} {cur μ n kb:Nat} {ay:List (Int × Nat)} (h:bT F w0 w r aP cur μ n kb ay) (hm:aP.size≤64) (hc:cur≤1048576) (hb:μ<4294967296) (hn:n<4611686018427387904) (about text:ByteArray) (ha:about.size≤1000) (ht:text.size≤8192) :
 ς 57 #[.pointer (some ⟨r,0,none⟩),.string about,.string text] w fun e w'=>e=ώ (.tuple #[.string (str (qT (kf aP.data.toList cur) cur μ n about.data.toList text.data.toList)),ι 0])∧∃fH,bT F w0 w' r aP cur μ (n+1) kb fH:=by
 obtain⟨K,hK⟩:=κ (kf aP.data.toList cur);have p_:K.length=32:=by rw[← hK];exact qi _ _
 rw[hK];obtain⟨D,hD⟩:=κ (oT K μ n text.data.toList);have hDl:D.length=text.size:=by rw[← hD,Kv];rfl
 obtain⟨T,hT⟩:=κ (rR K cur μ n about.data.toList D);have gJ:T.length=32:=by rw[← hT];exact qi _ _
 obtain⟨x,hx⟩:=κ (⟨cur,μ,n,D,T⟩:aZ);have Aw:ux x:=by rw[← hx];exact⟨hc,hb,by show n<_;omega,by show D.length≤_;omega,gJ⟩
 have cu:=fun W=>afi K p_ cur μ n hc hb oM about text ha ht W
 rw[hD,hT,hx] at cu;have hby:=fun W=>afj x Aw W
 obtain⟨O,hO⟩:=κ (str (qT K cur μ n about.data.toList text.data.toList));rw[show str (qj x.key x.μ x.n++(bF x.data++x.tag))=O by rw[← hO,← hx];unfold qT;rw[hD,hT]] at hby;rw[hO];have hkey:∀(F:Nat→Prop) (w0 W:World) (es:List (Int × Nat)),bT F w0 W r aP cur μ n kb es→ς 108 #[.pointer (some ⟨r,0,none⟩),ι (cur:Int)] W fun e w'=>e=ώ (.agg (ψ K))∧∃fH,bT F w0 w' r aP cur μ n kb fH:=fun F w0 W es h=>by
  have:=VM h cur hc hm;rw[hK] at this;exact this
 obtain⟨C,hC⟩:∃C:Int,(cur:Int)=C:=⟨_,rfl⟩;obtain⟨B,hB⟩:∃C:Int,(μ:Int)=C:=⟨_,rfl⟩;obtain⟨N,hN⟩:∃C:Int,(n:Int)=C:=⟨_,rfl⟩;have n0:(0:Int)≤N:=oM;have n1:N<9223372036854775808:=oM;rw[hC] at hkey cu;rw[hB,hN] at cu;have SK:=ag3 r 3 (n:Int) w (h.blk.cell 3);rw[hN] at SK;have yC:=δ (Pv h);have MX:=δ SK;have CP:=δ hkey;have mu:=δ cu;have kN:=δ hby;have HH:=δ h;have HX:=cx hC hB hN (aZ.ql Aw.tag) hn;have yI:=δ p_;clear h hm hc hb hn ha ht hK p_ hD hDl hT gJ hx Aw cu hby hO hkey hC hB hN SK;go_enter func57,ntmps57
 go_upto_region 6 with (first
  |(go_at_call 105
    refine yC.out.mono ?_;rintro e w1 ⟨rfl,rfl⟩)
  |(go_at_call 106
    refine MX.out.mono ?_;rintro e w2 ⟨rfl,rfl⟩))
 refine dB ?_;refine dK (S:=fun w'=>∃es,bT F w0 w' r aP cur μ n kb es) (T:=fun _=>false) kR ?_;have aC:∃es,bT F w0 w2.drew r aP cur μ n kb es:=⟨ay,HH.out.still (ζ.refl _ _).drew⟩;have jJ:∀w',(∃es,bT F w0 w' r aP cur μ n kb es)→w'.cell? ⟨r,1,none⟩=some (ι C)∧w'.cell? ⟨r,2,none⟩=some (.int .u32 B):=fun w' h=>by
  obtain⟨es,h⟩:=h;have h1:=h.blk.cell 1;have h2:=h.blk.cell 2;exact⟨h1.trans (by rw[← HX.out.1];rfl),h2.trans (by rw[← HX.out.2.1];rfl)⟩
 have qa:=δ jJ;clear jJ;refine aQ 0 (fun w' hSw=>qa.out _ hSw) ?_;refine aQ 1 (fun w' hSw=>qa.out _ hSw) ?_;refine aQ 2 (fun w' hSw=>qa.out _ hSw) ?_;refine aQ 3 (fun w' hSw=>qa.out _ hSw) ?_;refine aQ 4 (fun w' hSw=>qa.out _ hSw) ?_;refine aQ 6 (fun w' hSw=>qa.out _ hSw) ?_;refine aQ 7 (fun w' hSw=>qa.out _ hSw) ?_;refine aQ 8 (fun w' hSw=>qa.out _ hSw) ?_;refine aQ 9 (fun w' hSw=>qa.out _ hSw) ?_;refine aQ 10 (fun w' hSw=>qa.out _ hSw) ?_;refine aQ 11 (fun w' hSw=>qa.out _ hSw) ?_;refine aQ 12 (fun w' hSw=>qa.out _ hSw) ?_;refine aQ 13 (fun w' hSw=>qa.out _ hSw) ?_;refine aQ 14 (fun w' hSw=>qa.out _ hSw) ?_;refine aQ 15 (fun w' hSw=>qa.out _ hSw) ?_;refine aQ 16 (fun w' hSw=>qa.out _ hSw) ?_;refine uj (i:=5) (j:=21) kR rfl rfl (fun KK ο=>?_) (fun KK ο=>?_)
 ·go_simp
  obtain⟨es1,lH⟩:=aC;refine(CP.out _ _ _ _ lH.here).mono ?_;rintro e wk ⟨rfl,E5,hk2⟩;have tV:∃es,bT F w0 wk r aP cur μ n kb es:=⟨E5,lH.back hk2⟩;refine ο.out _ _ tV ?_;clear ο;refine uj (i:=17) (j:=21) kR rfl rfl (fun KK ο=>?_) (fun KK ο=>?_)
  ·go_simp
   refine(mu.out _).mono ?_;rintro e wc ⟨rfl,mU⟩;have CO:∃es,bT F w0 wc r aP cur μ n kb es:=by
    obtain⟨es,h⟩:=tV;exact⟨es,h.still mU⟩
   refine ο.out _ _ CO ?_;clear ο;refine ξ 18 ?_;refine ξ 19 ?_;refine ξ 20 ?_;refine aY 21 (fun KK ο=>?_);go_simp
   generalize vk:World.alloc wc _=wa;have xl:υ wc wa:=by rw[← vk];exact((ζ.refl _ _).alloc _)
   have jb:η wa wc.heap.size 191 (aZ.row ⟨0,0,0,[],List.replicate 32 0⟩):=by rw[← vk];exact η.new _ _ _
   obtain⟨q,hq⟩:=κ wc.heap.size;rw[hq] at jb ⊢;have Ax:∃es,bT F w0 wa r aP cur μ n kb es:=by
    obtain⟨es,h⟩:=CO;exact⟨es,h.still xl⟩
   have vf:w0.heap.size≤q:=by
    obtain⟨es,h⟩:=CO;rw[← hq];exact h.ε.size
   refine ο.out _ _ Ax ?_;clear ο vk hq xl;refine aY 22 (fun KK ο=>?_);refine sO rfl 191 _ _ rfl q x.row rfl rfl 191 _ jb (by rw[HX.out.2.2.2.1];exact aZ.ql fG) (aZ.row_one x) (by rw[HX.out.2.2.2.1];kernel_rfl) ?_
   intro ws rF Av hzs;have mY:∃es,bT F w0 ws r aP cur μ n kb es:=by
    obtain⟨es,h⟩:=Ax;exact⟨es,h.WV jb Av vf⟩
   refine ο.out _ _ mY ?_;clear ο;refine ξ 23 ?_;refine dF ?_;refine cZ ?_;obtain⟨SI,hz⟩:=mY;have HZ:=aj hz rF vf;clear rF Av hzs vf hz;go_upto_region 11 with (first
    |(refine eL _ q HZ.out.2.1 underlying191 (by rw[HX.out.2.2.2.1];kernel_rfl) ?_)
    |(go_at_call 109
      refine(kN.out _).mono ?_;rintro e wb ⟨rfl,kD⟩;have yK:=δ (HZ.out.1.still kD);clear kD))
   have had:=Xv r 3 n (oN HX.out.2.2.2.2) wb (yK.out.blk.cell 3) (yK.out.blk.frozen 3);have SJ:=δ had;clear had;go_wp2_with fail
   refine SJ.out.mono ?_;rintro e wd ⟨rfl,rfl⟩;go_wp2_with fail
   go_ret2
   refine⟨rfl,SI,yK.out.set ((ζ.refl (· = r) _).setCell (p:=⟨r,3,none⟩) (.inl rfl) _) ?_⟩;exact yK.out.blk.bE 3 _
  ·go_simp
   generalize vk:World.alloc wk _=wa;have xl:υ wk wa:=by rw[← vk];exact((ζ.refl _ _).alloc _)
   have jb:η wa wk.heap.size 191 (aZ.row ⟨0,0,0,[],List.replicate 32 0⟩):=by rw[← vk];exact η.new _ _ _
   obtain⟨q,hq⟩:=κ wk.heap.size;rw[hq] at jb ⊢;have Ax:∃es,bT F w0 wa r aP cur μ n kb es:=by
    obtain⟨es,h⟩:=tV;exact⟨es,h.still xl⟩
   have vf:w0.heap.size≤q:=by
    obtain⟨es,h⟩:=tV;rw[← hq];exact h.ε.size
   refine ο.out _ _ Ax ?_;clear ο vk hq xl;refine aY 17 (fun KK ο=>?_);go_simp
   refine(mu.out _).mono ?_;rintro e wc ⟨rfl,mU⟩;have CO:∃es,bT F w0 wc r aP cur μ n kb es:=by
    obtain⟨es,h⟩:=Ax;exact⟨es,h.still mU⟩
   have kQ:=jb.ε mU (fun e=>e);exact zz2
 ·have hSb:∃es,bT F w0 w2 r aP cur μ n kb es:=⟨ay,HH.out⟩
  go_simp
  generalize vk:World.drew (World.alloc w2 _)=wa;have xl:υ w2 wa:=by rw[← vk];exact((ζ.refl _ _).alloc _).drew
  have jb:η wa w2.heap.size 191 (aZ.row ⟨0,0,0,[],List.replicate 32 0⟩):=by rw[← vk];exact η.new _ _ _
  obtain⟨q,hq⟩:=κ w2.heap.size;rw[hq] at jb ⊢;have Ax:∃es,bT F w0 wa r aP cur μ n kb es:=by
   obtain⟨es,h⟩:=hSb;exact⟨es,h.still xl⟩
  have vf:w0.heap.size≤q:=by
   obtain⟨es,h⟩:=hSb;rw[← hq];exact h.ε.size
  refine ο.out _ _ Ax ?_;clear ο vk hq xl;refine aY 5 (fun KK ο=>?_);go_simp
  obtain⟨E5,dX⟩:=Ax;refine(CP.out _ _ _ _ dX.here).mono ?_;rintro e wk ⟨rfl,E5,hk2⟩;have ja:=jb.ε hk2.ε (dX.vT jb dC dC);have tV:∃es,bT F w0 wk r aP cur μ n kb es:=⟨E5,dX.back hk2⟩;refine ο.out _ _ tV ?_;clear ο;refine aY 17 (fun KK ο=>?_);go_simp
  refine(mu.out _).mono ?_;rintro e wc ⟨rfl,mU⟩;have CO:∃es,bT F w0 wc r aP cur μ n kb es:=by
   obtain⟨es,h⟩:=tV;exact⟨es,h.still mU⟩
  have kQ:=ja.ε mU (fun e=>e);exact zz2
theorem Px {F:Nat→Prop} {w0 w:World} {r:Nat} {aP:ByteArray} {cur μ n kb:Nat} {ay:List (Int × Nat)} (h:bT F w0 w r aP cur μ n kb ay) (hm:aP.size≤64) (hc:cur≤1048576) (key b2 n2:Nat) (hk:key≤cur) (hb:b2<4294967296) (hn:n2<18446744073709551616) (about:ByteArray) (ha:about.size≤1000) (text:List UInt8) (ht:text.length≤8192)
 (s:ByteArray) (hs:s.data.toList=qT (kf aP.data.toList key) key b2 n2 about.data.toList text) :
 ς 123 #[.pointer (some ⟨r,0,none⟩),.string s,.string about] w fun e w'=>e=ώ (.tuple #[.string (str text),ι 0])∧∃fH,bT F w0 w' r aP cur μ n kb fH:=by
 obtain⟨K,hK⟩:=κ (kf aP.data.toList key);have p_:K.length=32:=by rw[← hK];exact qi _ _
 rw[hK] at hs;obtain⟨D,hD⟩:=κ (oT K b2 n2 text);have hDl:D.length=text.length:=by rw[← hD,Kv]
 obtain⟨T,hT⟩:=κ (rR K key b2 n2 about.data.toList D);have gJ:T.length=32:=by rw[← hT];exact qi _ _
 have X6:oT K b2 n2 D=text:=by rw[← hD];exact acG _ _ _ _
 obtain⟨x,hx⟩:=κ (⟨key,b2,n2,D,T⟩:aZ);have Aw:ux x:=by rw[← hx];exact⟨by show key≤_;omega,hb,hn,by show D.length≤_;omega,gJ⟩
 have hrd:=fun W=>agO x Aw s (by rw[hs,← hx];unfold qT;rw[hD,hT]) W
 have hop:=fun W=>agN K p_ x Aw about ha (by rw[← hx];exact hT.symm) W
 obtain⟨O,hO⟩:=κ (str text);rw[show oT K x.μ x.n x.data=text by rw[← hx];exact X6,hO] at hop;rw[hO];have hkey:∀(F:Nat→Prop) (w0 W:World) (es:List (Int × Nat)),bT F w0 W r aP cur μ n kb es→ς 108 #[.pointer (some ⟨r,0,none⟩),ι (key:Int)] W fun e w'=>e=ώ (.agg (ψ K))∧∃fH,bT F w0 w' r aP cur μ n kb fH:=fun F w0 W es h=>by
  have:=VM h key oM hm;rw[hK] at this;exact this
 have tq:x.key=key:=by rw[← hx]
 have k1:(key:Int)≤(cur:Int):=oM;have yC:=δ (Pv h);have Je:=δ hrd;have CP:=δ hkey;have Jf:=δ hop;have HH:=δ h;have HX:=τ tq (aZ.ql Aw.tag);clear h hm hc hb hn ha ht hK p_ hD hDl hT gJ hx Aw hrd hop hO hkey tq hs X6 hk;go_enter func123,ntmps123
 go_upto_region 3 with (first
  |(go_at_call 105
    refine yC.out.mono ?_;rintro e w1 ⟨rfl,rfl⟩))
 go_wp2_with fail
 refine(Je.out _).mono ?_;rintro e w2 ⟨rfl,π⟩;obtain⟨q,hq⟩:=κ w2.heap.size;have HQ:=δ hq;clear hq;have H2:=δ (HH.out.still π);clear π;go_upto_region 6 with (first
  |(refine fk rfl 191 _ _ rfl w2.heap.size x.row rfl rfl 191 _ (η.new w2 _ _) (by rw[HX.out.2];rfl) (aZ.row_one x) (by rw[HX.out.2];kernel_rfl) ?_
    intro w3 aA χ fK))
 rw[HQ.out] at aA χ ⊢;have mM:υ w2 w3:=((ζ.refl _ w2).alloc _).then χ (fun b e=>.inr (by have e2:b=q:=e;have:=HQ.out;omega));have H3:=τ (H2.out.still mM) aA;clear χ fK aA mM;have c0:w3.cell? ⟨q,0,none⟩=some (ι (key:Int)):=(H3.out.2.cell 0).trans (by have:=HX.out.1;unfold aZ.row;rw[this];rfl)
 have cr:w3.cell? ⟨r,1,none⟩=some (ι (cur:Int)):=H3.out.1.blk.cell 1;have k2:decide ((cur:Int)<(key:Int))=false:=by simpa using k1
 go_quiet (fail)
 go_upto_region 8 with (fail)
 have Cn:=τ (H3.out.1.still ((ζ.refl _ w3).drewN nq)) (H3.out.2.drewN nq);generalize Ag:World.drewN w3 nq=w4 at Cn ⊢;clear Ag c0 cr k2;refine dB ?_;refine dK (S:=fun w'=>(∃es,bT F w0 w' r aP cur μ n kb es)∧η w' q 191 x.row) (T:=fun _=>false) kR ?_;have aC:(∃es,bT F w0 w4.drew r aP cur μ n kb es)∧η w4.drew q 191 x.row:=⟨⟨ay,Cn.out.1.still (ζ.refl _ _).drew⟩,Cn.out.2.drew⟩;have pH:=δ (fun (w':World) (h:η w' q 191 x.row)=>(h.cell 0).trans (show x.row[0]? = some (ι (key:Int)) by have:=HX.out.1;unfold aZ.row;rw[this];rfl))
 refine aQ 0 (fun w' hSw=>pH.out _ hSw.2) ?_;refine aQ 1 (fun w' hSw=>pH.out _ hSw.2) ?_;refine aQ 2 (fun w' hSw=>pH.out _ hSw.2) ?_;refine iq 4 (.agg x.row) (kX rfl (by rfl) _ _ rfl q (by rfl) _ _ _ (fun w' hSw=>hSw.2) underlying191 rfl (by rw[HX.out.2];kernel_rfl)) ?_
 refine ξ 5 ?_;refine aY 3 (fun KK ο=>?_);go_simp
 obtain⟨⟨es,hE⟩,jb⟩:=aC;refine(CP.out _ _ _ _ hE.here).mono ?_;rintro e wk ⟨rfl,E5,hk2⟩;have tV:(∃es,bT F w0 wk r aP cur μ n kb es)∧η wk q 191 x.row:=⟨⟨E5,hE.back hk2⟩,jb.ε hk2.ε (hE.vT jb dC dC)⟩;refine ο.out _ _ tV ?_;clear ο hE hk2 jb;refine aY 6 (fun KK ο=>?_);go_simp
 refine(Jf.out _).mono ?_;rintro e wo ⟨rfl,SL⟩;have hSo:(∃es,bT F w0 wo r aP cur μ n kb es)∧η wo q 191 x.row:=⟨by
  obtain⟨⟨es,h⟩,-⟩:=tV;exact⟨es,h.still SL⟩,tV.2.ε SL (fun e=>e)⟩
 refine ο.out _ _ hSo ?_;clear ο tV SL;refine ξ 7 ?_;refine ξ 8 ?_;refine ξ 9 ?_;refine ξ 10 ?_;refine dF ?_;refine cZ ?_;obtain⟨⟨es3,hz⟩,-⟩:=hSo;have HZ:=δ hz;clear hz;go_wp2_with fail
 go_ret2
 exact⟨rfl,es3,HZ.out⟩
def dy (m:MetaM) (mv:Value):Array Value:=#[ι m.role,ι m.seen,ι m.aG,mv,.string (str m.bu)]
theorem Pc {w:World} {A:Option Addr} {cap b off:Nat} (m:MetaM) (hA:0<m.aW.length→A=some ⟨b,off,none⟩) (hb:∀w',υ w w'→wm w' b off m.aW) (hl:m.aW.length≤1000000) (hcap:m.aW.length≤cap) (hs:∀x ∈ m.aW,x.name.length≤1000000) :
 ς 41 #[.agg (dy m (.slice A m.aW.length cap))] w fun e w'=>e=ώ (.bool (dS m))∧υ w w':=by
 have ow:=fun W (hW:υ w W)=>afQ (A:=A) (cap:=cap) (w:=W) hA (fun w' h=>hb w' (hW.then h φ)) hl hcap hs
 obtain⟨B,hB⟩:=κ (dS m);rw[hB];unfold dS at hB;have hnil:m.aW=[]↔(m.aW.length:Int)=0:=by
  constructor
  ·intro h;rw[h];rfl
  ·intro h;exact yX oM
 obtain⟨M,hM⟩:=κ (pS m.aW);rw[hM] at hB ow;obtain⟨S,hS⟩:=κ (str m.bu);have mY:S.size=m.bu.length:=by rw[← hS,bf]
 have hrow:dy m (.slice A m.aW.length cap)=#[ι m.role,ι m.seen,ι m.aG,.slice A m.aW.length cap,.string S]:=by unfold dy;rw[hS]
 rw[hrow];obtain⟨role,seen,aG,eD,sec⟩:=m;simp only at *
 obtain⟨n,hn⟩:=κ eD.length;rw[hn] at hnil ow ⊢;rw[← mY] at hB;have Ay:=δ ow;have HB:=δ hB;have Zy:=δ hnil;clear ow hB hnil hM hS mY hrow hb hs hA hl hcap hn;go_enter func41,ntmps41
 go_upto_region 1 with fail
 generalize cF:World.alloc _ _=w5;obtain⟨q,hq⟩:=κ w.heap.size;rw[hq];have aF:η w5 q 50 #[ι role,ι seen,ι aG,.slice A n cap,.string S]:=by rw[← cF,← hq];exact η.new w _ _
 have av:υ w w5:=by rw[← cF];exact(ζ.refl _ w).alloc _
 have MY:=δ aF;have de:=δ av;have c0:=aF.cell 0;have c1:=aF.cell 1;have c2:=aF.cell 2;have c3:=aF.cell 3;have c4:=aF.cell 4;clear cF hq aF av;by_cases h0:(n:Int)=0
 ·have Jg:eD=[]:=Zy.out.2 h0
  have hn0:n=0:=oM;subst hn0;by_cases a1:0≤role
  ·by_cases a2:role≤3
   ·by_cases a3:0≤seen
    ·by_cases a4:0≤aG
     ·by_cases a5:(S.size:Int)≤64
      ·have CQ:S.size≤64:=oM
       obtain rfl:true=B:=by
        rw[← HB.out];simp[a1,a2,a3,a4,CQ,Jg]
       go_wp2_with fail
       go_ret
       exact⟨by first| rfl | simp[a5],de.out⟩
      ·have CQ:¬S.size≤64:=oM
       obtain rfl:false=B:=by
        rw[← HB.out];simp[a1,a2,a3,a4,CQ]
       go_wp2_with fail
       go_ret
       exact⟨by first| rfl | simp[a5],de.out⟩
     ·obtain rfl:false=B:=by
       rw[← HB.out];simp[a1,a2,a3,a4]
      go_wp2_with fail
      go_ret
      exact⟨by first| rfl | simp[a5],de.out⟩
    ·obtain rfl:false=B:=by
      rw[← HB.out];simp[a1,a2,a3]
     go_wp2_with fail
     go_ret
     exact⟨by first| rfl | simp[a5],de.out⟩
   ·obtain rfl:false=B:=by
     rw[← HB.out];simp[a1,a2]
    go_wp2_with fail
    go_ret
    exact⟨by first| rfl | simp[a5],de.out⟩
  ·obtain rfl:false=B:=by
    rw[← HB.out];simp[a1]
   go_wp2_with fail
   go_ret
   exact⟨by first| rfl | simp[a5],de.out⟩
 ·have Jg:¬eD=[]:=fun e=>h0 (Zy.out.1 e)
  have k0:((n:Int) == 0)=false:=by simpa using h0
  go_wp2_with fail
  refine(Ay.out _ de.out).mono ?_;rintro e w6 ⟨rfl,az⟩;have gC:=δ (de.out.then az φ);have cI:=MY.out.ε az (fun e=>e);have c0:=cI.cell 0;have c1:=cI.cell 1;have c2:=cI.cell 2;have c3:=cI.cell 3;have c4:=cI.cell 4;clear az cI;by_cases a1:0≤role
  ·by_cases a2:role≤3
   ·by_cases a3:0≤seen
    ·by_cases a4:0≤aG
     ·cases M
      ·obtain rfl:false=B:=by
        rw[← HB.out];simp[a1,a2,a3,a4,Jg]
       go_wp2_with fail
       go_ret
       exact⟨by first| rfl | simp[a5],gC.out⟩
      ·by_cases a5:(S.size:Int)≤64
       ·have CQ:S.size≤64:=oM
        obtain rfl:true=B:=by
         rw[← HB.out];simp[a1,a2,a3,a4,Jg,CQ]
        go_wp2_with fail
        go_ret
        exact⟨by first| rfl | simp[a5],gC.out⟩
       ·have CQ:¬S.size≤64:=oM
        obtain rfl:false=B:=by
         rw[← HB.out];simp[a1,a2,a3,a4,Jg,CQ]
        go_wp2_with fail
        go_ret
        exact⟨by first| rfl | simp[a5],gC.out⟩
     ·obtain rfl:false=B:=by
       rw[← HB.out];simp[a1,a2,a3,a4]
      go_wp2_with fail
      go_ret
      exact⟨by first| rfl | simp[a5],gC.out⟩
    ·obtain rfl:false=B:=by
      rw[← HB.out];simp[a1,a2,a3]
     go_wp2_with fail
     go_ret
     exact⟨by first| rfl | simp[a5],gC.out⟩
   ·obtain rfl:false=B:=by
     rw[← HB.out];simp[a1,a2]
    go_wp2_with fail
    go_ret
    exact⟨by first| rfl | simp[a5],gC.out⟩
  ·obtain rfl:false=B:=by
    rw[← HB.out];simp[a1]
   go_wp2_with fail
   go_ret
   exact⟨by first| rfl | simp[a5],gC.out⟩
theorem Wr (slot i:Nat) (h1:1≤slot) (h2:slot≤1000) (h3:i≤1000) (w:World):ς 158 #[ι (slot:Int),ι (i:Int)] w fun e w'=>e=ώ (ι ((cE slot+i:Nat):Int))∧w=w':=by
 have e0:((cE slot+i:Nat):Int)=340+((slot:Int) - 1)*80+(i:Int):=by unfold cE;omega
 rw[e0];have k1:(1:Int)≤(slot:Int):=oM;have k2:(slot:Int)≤1000:=oM;have k3:(i:Int)≤1000:=oM;clear e0;go_enter func158,ntmps158
 go_wp2_with fail
 go_ret
 exact⟨rfl,rfl⟩
theorem DJ {F:Nat→Prop} {w0 W:World} {o:Nat} {acc:List UInt8} (n:Nat) (h1:n<18446744073709551616) (h2:acc.length≤10000) (h:dU F w0 W o acc):ς 98 #[.pointer (some ⟨o,0,none⟩),ω (n:Int)] W fun e w'=>e=ώ (.tuple #[])∧dU F w0 w' o (acc++aN n):=DT h n h1 oM
theorem ac1 {l:List ai} {k:Nat} (hk:k<l.length):(l.take (k+1)).flatMap kH=(l.take k).flatMap kH++kH l[k]:=by
 rw[gX hk,vJ];simp
theorem QU {P:Prop} (h:P:=by
 clear h14 c0 c1;go_wp2_with fail
 go_roundw
 case rel=>exact⟨k+1,oM,by go_num,by rw[HX.out.1];exact kM.out⟩
 case measure=>simp[intOf]<;>omega):P:=h
theorem ag5 {w:World} {A:Option Addr} {cap b off:Nat} {l:List ai} (hA:0<l.length→A=some ⟨b,off,none⟩) (hb:∀w',υ w w'→Pq w' b off l) (hs:∀p ∈ l,p.1.length≤33∧p.2.length≤32) (hl:l.length≤48) :
 ς 102 #[.slice A l.length cap] w fun e w'=>e=ώ (.string (str (ke l)))∧υ w w':=by
 have s1:=dc (n:=l.length) oM;have htl:∀k,((l.take k).flatMap kH).length≤3400:=fun k=>by
  have:=Ov (l:=l.take k) (a:=33) (b:=32) oM oM (fun p hp=>hs p (JW hp));rw[fF] at this;have h2:(33+32+4)*min k l.length≤69*48:=NR _ oM;omega
 have cN:ke l=aN l.length++(l.take l.length).flatMap kH:=by rw[rO];rfl
 have HF:=δ cN;have HB:=δ hb;have HS:=τ hs htl;have HN1:=δ s1;have l1:(l.length:Int)≤48:=oM;clear hb hs cN s1 htl;obtain⟨o,ho⟩:=κ w.heap.size;go_enter func102,ntmps102
 go_upto_region 2 with (fail)
 generalize uT:World.alloc _ _=w7;have yh:dU (fun _=>False) w w7 o []:=by rw[← uT,← ho];exact dU.start w
 have Im:=δ yh;clear yh uT ho;go_wp2_with fail
 refine(DJ l.length oM sM Im.out).mono ?_;rintro e w8 ⟨rfl,h8⟩;rw[nW] at h8;have H8:=δ h8;clear h8;go_wp2_with fail
 go_loopw [5,15] (fun _ u wr=>∃k:Nat,k≤l.length∧u=ι (k:Int)∧dU (fun _=>False) w wr o (aN l.length++(l.take k).flatMap kH)) (fun _ u _=>l.length - (intOf u).toNat)
 case atStart=>exact⟨0,oM,rfl,by simpa using H8.out⟩
 case round =>
  obtain⟨k,hk,rfl,hO⟩:=hrel;have mj:(aN l.length++(l.take k).flatMap kH).length≤3500:=by
   rw[aL,iF];have:=HS.out.2 k;have:=HN1.out;omega
  obtain⟨M,hM⟩:=κ (aN l.length++(l.take k).flatMap kH);rw[hM] at hO mj;by_cases hlt:k<l.length
  ·obtain rfl:=hA oM
   have hrow:=HB.out wr hO.ε k hlt;have gD:=HS.out.1 _ (eM hlt);have bY:aN l.length++(l.take (k+1)).flatMap kH=M++kH l[k]:=by rw[ac1 hlt,← dQ,hM]
   obtain⟨p,hp⟩:=κ (l[k]);rw[hp] at hrow gD bY;obtain⟨P,hP⟩:=κ (str p.1);obtain⟨V,hV⟩:∃P,str p.2=P:=⟨_,rfl⟩;have lB:P.data.toList=p.1:=by rw[← hP,bS]
   have kz:V.data.toList=p.2:=by rw[← hV,bS]
   have iM:P.size=p.1.length:=by rw[← hP,bf]
   have ru:V.size=p.2.length:=by rw[← hV,bf]
   have hrw:bz p=[.string P,.string V]:=by unfold bz;rw[hP,hV]
   rw[hrw] at hrow;have hpb:kH p=bF P.data.toList++bF V.data.toList:=by unfold kH;rw[lB,kz]
   rw[hpb,← dQ] at bY;have tP:(bF P.data.toList).length≤40:=by
    rw[iT,lB];have:=kY (n:=p.1.length) oM;omega
   have HX:=gU bY mj iM ru gD tP;have HR:=δ hrow;have jR:=δ hO;have j1:(k:Int)<(l.length:Int):=oM;obtain⟨g,hg⟩:∃q,wr.heap.size=q:=⟨_,rfl⟩;have HQ:=δ hg;clear hrow gD bY hp hP hV lB kz iM ru hrw hpb hO hM mj tP;go_upto_region 6 with (first
    |(refine uc rfl _ _ rfl b (off+k*2) rfl [.string P,.string V] _ HR.out underlying55 rfl kR ?_))
   generalize qu:World.alloc _ _=w11;have f_:η w11 g 55 #[.string P,.string V]:=by rw[← qu,← HQ.out];exact η.new wr _ _
   have h11:dU (fun _=>False) w w11 o M:=by rw[← qu];exact jR.out.still ((ζ.refl _ wr).alloc _)
   obtain⟨c0,c1⟩:=f_.uv;have eZ:=τ h11 f_;clear h11 f_ qu hg;obtain⟨G,g1,g2,g3⟩:=eZ.out.1.here;have HG:=aj g1 g2 (g3 g _ _ eZ.out.2 dC dC);clear g1 g2 g3;go_wp2_with fail
   refine(vS HG.out.1 P (oO HX.out.2.2.1 HX.out.2.2.2.2.1) (oN HX.out.2.1)).mono ?_;rintro e w13 ⟨rfl,h13⟩;obtain⟨c0,c1⟩:=(eZ.out.2.ε h13.ε HG.out.2.2).uv;have iZ:=δ h13;clear h13;go_wp2_with fail
   refine(vS iZ.out V (oO HX.out.2.2.2.1 HX.out.2.2.2.2.1) (by rw[aL];have:=HX.out.2.1;have:=HX.out.2.2.2.2.2;omega)).mono ?_;rintro e w14 ⟨rfl,h14⟩;have kM:=δ (eZ.out.1.back HG.out.2.1 h14);exact QU
  ·obtain rfl:k=l.length:=oM
   rw[← HF.out] at hM;subst hM;have hst:=FY hO;have fT:=δ hst;have HU:=δ hO.ε;clear hst hO hlt hk mj;go_wp2_with fail
   refine fT.out.mono ?_;rintro e wz ⟨rfl,rfl⟩;go_wp2_with fail
   go_ret
   exact⟨rfl,HU.out⟩
def gz (s:cY) (mv:Value):Array Value:=#[ι s.m.role,ι s.m.seen,ι s.m.aG,mv,.string (str s.m.bu),ι s.at_,ι s.θ,ι (s.slot:Int),ω (s.log:Int),ι (s.key:Int),.int .u32 (s.μ:Int)]
structure lT (s:cY):Prop where
 right:dS s.m=true
 place:pT s.at_ s.θ
 slot:s.slot≤2
 log:s.log≤1000000
 key:s.key≤1000000
 μ:s.μ≤1000000
 mn:s.m.seen≤9223372036854775807∧s.m.aG≤9223372036854775807
structure ah8 (m:MetaM):Prop where
 X7:0≤m.role
 X8:m.role≤3
 seen:0≤m.seen
 aG:0≤m.aG
 eD:m.aW.length≤4
 each:∀x ∈ m.aW,1≤x.name.length∧x.name.length≤8
 sec:m.bu.length≤64
theorem aej {l a:List gW} (h:mL a l=true):∀m ∈ l,nx m.name=true:=by
 induction l generalizing a with
 | nil=>simp
 | cons x r ih =>
   unfold mL at h;simp only[gY] at h;intro m hm;rcases cn.1 hm with rfl | hm
   ·exact h.1.1
   ·exact ih h.2 m hm
theorem xC {m:MetaM} (h:dS m=true):ah8 m:=by
 unfold dS at h;simp only[gY,FB,dR] at h;obtain⟨hm,h5,h6,h7,h8,h9⟩:=h;refine⟨h5,h6,h7,h8,?_,?_,h9⟩
 ·rcases hm with e | e
  ·rw[e];simp
  ·unfold pS at e
   simp only[gY,dR] at e;exact e.2.2
 ·rcases hm with e | e
  ·rw[e];simp
  ·unfold pS at e
   simp only[gY,dR] at e;intro x hx;have:=aej e.1 x hx;unfold nx at this;simp only[gY,dR] at this;exact this.1
theorem afW {l:List gW} {k:Nat} (hk:k<l.length):(l.take (k+1)).flatMap jX=(l.take k).flatMap jX++jX l[k]:=by
 rw[gX hk,vJ];simp
theorem ag6 {x:gW} (h:x.name.length≤8):(jX x).length≤11:=by
 have:=kY (n:=x.name.length) oM;unfold jX;rw[aL,iT];simp only[eS,yY];omega
theorem Ws {l:List gW} (h:∀x ∈ l,x.name.length≤8):(l.flatMap jX).length≤11*l.length:=by
 induction l with
 | nil=>simp
 | cons x r ih =>
   have h1:=ih fun m hm=>h m (by simp[hm])
   have h2:=ag6 (h x sM);rw[xx,aL,eS];omega
def D2 (s:cY):List Nat:=[s.m.role.toNat,s.m.seen.toNat,s.m.aG.toNat,s.at_.toNat,s.θ.toNat,s.slot,s.key]
theorem VN (s:cY) (t:List UInt8):dr s t=aN 1++(D2 s).flatMap aN++aN s.log++aN s.μ++aN s.m.aW.length++s.m.aW.flatMap jX++bF t:=by
 unfold dr D2;simp[List.append_assoc]
theorem ah9 (a b c d e f g:Int):prog.built 295 [(0,ι a),(1,ι b),(2,ι c),(3,ι d),(4,ι e),(5,ι f),(6,ι g)]=some #[ι a,ι b,ι c,ι d,ι e,ι f,ι g]:=kR
theorem ag7 {w:World} {A:Option Addr} {cap b off:Nat} (s:cY) (hs:lT s) (hA:0<s.m.aW.length→A=some ⟨b,off,none⟩) (hb:∀w',υ w w'→wm w' b off s.m.aW) (t:ByteArray) (ht:t.size≤200) :
 ς 128 #[.agg (gz s (.slice A s.m.aW.length cap)),.string t] w fun e w'=>e=ώ (.string (str (dr s t.data.toList)))∧υ w w':=by
 have hm:=xC hs.right;have hp:=hs.place;obtain⟨n0,hn0⟩:∃n:Nat,s.m.role=n:=⟨s.m.role.toNat,by have:=hm.X7;omega⟩;obtain⟨n1,sA⟩:∃n:Nat,s.m.seen=n:=⟨s.m.seen.toNat,by have:=hm.seen;omega⟩;obtain⟨n2,hn2⟩:∃n:Nat,s.m.aG=n:=⟨s.m.aG.toNat,by have:=hm.aG;omega⟩;obtain⟨n3,xm⟩:∃n:Nat,s.at_=n:=⟨s.at_.toNat,by have:=hp.Su;omega⟩;obtain⟨n4,pZ⟩:∃n:Nat,s.θ=n:=⟨s.θ.toNat,by have:=hp.ep0;omega⟩;have b0:n0≤3:=by have:=hm.X8;omega
 have b1:n1≤9223372036854775807:=by have:=hs.mn.1;omega
 have b2:n2≤9223372036854775807:=by have:=hs.mn.2;omega
 have b3:n3≤9223372036854775807:=by have:=hp.Sv;omega
 have b4:n4≤9223372036854775807:=by have:=hp.Sw;omega
 have b5:=hs.slot;have b6:=hs.key;have b7:=hs.log;have b8:=hs.μ;have hsplit:=VN s t.data.toList;have GL:D2 s=[n0,n1,n2,n3,n4,s.slot,s.key]:=by unfold D2;rw[hn0,sA,hn2,xm,pZ];rfl
 rw[GL] at hsplit;obtain⟨T,hT⟩:=κ (dr s t.data.toList);rw[hT] at hsplit ⊢;obtain⟨SE,hSE⟩:∃S,str s.m.bu=S:=⟨_,rfl⟩;have hrow:gz s (.slice A s.m.aW.length cap)=#[ι (n0:Int),ι (n1:Int),ι (n2:Int),.slice A s.m.aW.length cap,.string SE,ι (n3:Int),ι (n4:Int),ι (s.slot:Int),ω (s.log:Int),ι (s.key:Int),.int .u32 (s.μ:Int)]:=by unfold gz;rw[hn0,sA,hn2,xm,pZ,hSE]
 rw[hrow];have SM:=hm.eD;have hme:=hm.each;obtain⟨n5,tU⟩:∃n,s.slot=n:=⟨_,rfl⟩;obtain⟨n6,CR⟩:∃n,s.key=n:=⟨_,rfl⟩;obtain⟨n7,CS⟩:∃n,s.log=n:=⟨_,rfl⟩;obtain⟨n8,zT⟩:∃n,s.μ=n:=⟨_,rfl⟩;obtain⟨L,hL⟩:=κ s.m.aW;rw[tU] at b5 hsplit;rw[CR] at b6 hsplit;rw[CS] at b7 hsplit;rw[zT] at b8 hsplit;rw[hL] at SM hme hA hb hsplit;rw[tU,CR,CS,zT,hL];have HS:=δ hsplit;have HB:=δ hb;have HM:=δ hme;have HT:=δ ht;clear hm hp hs hn0 sA hn2 xm pZ GL hT hSE hrow tU CR CS zT hL hsplit hb hme ht;obtain⟨q,hq⟩:=κ w.heap.size;go_enter func128,ntmps128
 go_upto_region 1 with fail
 generalize cF:World.alloc _ _=w5;have aF:η w5 q 115 #[ι (n0:Int),ι (n1:Int),ι (n2:Int),.slice A L.length cap,.string SE,ι (n3:Int),ι (n4:Int),ι (n5:Int),ω (n7:Int),ι (n6:Int),.int .u32 (n8:Int)]:=by rw[← cF,← hq];exact η.new w _ _
 have av:υ w w5:=by rw[← cF];exact(ζ.refl _ w).alloc _
 have H5:=τ aF av;clear aF av cF hq;obtain⟨o,ho⟩:=κ w5.heap.size;go_upto_region 2 with fail
 generalize uT:World.alloc _ _=w7;have yh:dU (fun _=>False) w5 w7 o []:=by rw[← uT,← ho];exact dU.start w5
 have Im:=δ yh;clear yh uT ho;have HC:∀W,υ w5 W→W.cell? ⟨q,0,none⟩=some (ι (n0:Int))∧W.cell? ⟨q,1,none⟩=some (ι (n1:Int))∧W.cell? ⟨q,2,none⟩=some (ι (n2:Int))∧W.cell? ⟨q,3,none⟩=some (.slice A L.length cap)∧W.cell? ⟨q,5,none⟩=some (ι (n3:Int))∧W.cell? ⟨q,6,none⟩=some (ι (n4:Int))∧W.cell? ⟨q,7,none⟩=some (ι (n5:Int))∧W.cell? ⟨q,8,none⟩=some (ω (n7:Int))∧W.cell? ⟨q,9,none⟩=some (ι (n6:Int))∧W.cell? ⟨q,10,none⟩=some (.int .u32 (n8:Int)):=fun W hW=>by
  have h:=H5.out.1.ε hW (fun e=>e);exact⟨h.cell 0,h.cell 1,h.cell 2,h.cell 3,h.cell 5,h.cell 6,h.cell 7,h.cell 8,h.cell 9,h.cell 10⟩
 have HC:=δ HC;go_wp2_with fail
 refine(DJ 1 oM sM Im.out).mono ?_;rintro e w8 ⟨rfl,h8⟩;rw[nW] at h8;obtain⟨c0,c1,c2,c3,c5,c6,c7,c8,c9,c10⟩:=HC.out _ h8.ε;have H8:=δ h8;clear h8;go_wp2_with (first
  |(refine qf rfl _ _ rfl [(0,ι (n0:Int)),(1,ι (n1:Int)),(2,ι (n2:Int)),(3,ι (n3:Int)),(4,ι (n4:Int)),(5,ι (n5:Int)),(6,ι (n6:Int))] _ (by first| rfl | kernel_rfl) (ah9 _ _ _ _ _ _ _) ?_))
 obtain⟨B6,Ln⟩:∃a,aN 1=a:=⟨_,rfl⟩;have hl0:B6.length≤10:=by rw[← Ln,iF];exact dc (n:=1) oM
 rw[Ln] at H8;have MZ:=τ Ln hl0;clear Ln hl0;go_loopw [7,33] (fun _ u wr=>∃k:Nat,k≤7∧u=ι (k:Int)∧(B6++([n0,n1,n2,n3,n4,n5,n6].take k).flatMap aN).length≤10+10*k∧dU (fun _=>False) w5 wr o (B6++([n0,n1,n2,n3,n4,n5,n6].take k).flatMap aN)) (fun _ u _=>7 - (intOf u).toNat)
 case atStart=>exact⟨0,oM,rfl,by simpa using MZ.out.2,by simpa using H8.out⟩
 case round =>
  obtain⟨k,hk,rfl,jS,hO⟩:=hrel;have EV:k<7∨k=7:=oM;rcases EV with h7 | rfl
  ·obtain⟨nk,bY,hnk,Cr⟩:∃nk,B6++([n0,n1,n2,n3,n4,n5,n6].take (k+1)).flatMap aN=(B6++([n0,n1,n2,n3,n4,n5,n6].take k).flatMap aN)++aN nk∧nk≤9223372036854775807∧∀W,(Instr.index 295 (.agg #[ι (n0:Int),ι (n1:Int),ι (n2:Int),ι (n3:Int),ι (n4:Int),ι (n5:Int),ι (n6:Int)]) (ι (k:Int))).run prog W=.ok (ι (nk:Int)) W:=by
    refine⟨[n0,n1,n2,n3,n4,n5,n6].getD k 0,?_⟩;rcases (show k=0∨k=1∨k=2∨k=3∨k=4∨k=5∨k=6 by omega) with rfl | rfl | rfl | rfl | rfl | rfl | rfl
    all_goals exact⟨by simp[List.append_assoc],by simp<;>omega,fun W=>by first| rfl | kernel_rfl⟩
   obtain⟨acc,hacc⟩:∃a,B6++([n0,n1,n2,n3,n4,n5,n6].take k).flatMap aN=a:=⟨_,rfl⟩;rw[hacc] at jS hO bY;have hz:=dc (n:=nk) oM;have HN:=aj bY jS hz;have HO:=δ hO;have j1:(k:Int)<7:=oM;clear bY hacc jS hO hz hk;go_wp2_with fail
   refine(DJ nk oM (oN HN.out.2.1) HO.out).mono ?_;rintro e w9 ⟨rfl,h9⟩;rw[← HN.out.1] at h9;have H9:=δ h9;clear h9;go_wp2_with fail
   go_roundw
   case rel =>
    refine⟨k+1,oM,by go_num,?_,H9.out⟩;rw[HN.out.1,aL,iF];have:=HN.out.2;omega
   case measure=>simp[intOf]<;>omega
  ·have hfull:([n0,n1,n2,n3,n4,n5,n6]:List Nat).take 7=[n0,n1,n2,n3,n4,n5,n6]:=rfl
   rw[hfull] at jS hO;obtain⟨acc,hacc⟩:∃a,B6++([n0,n1,n2,n3,n4,n5,n6]:List Nat).flatMap aN=a:=⟨_,rfl⟩;rw[hacc] at jS hO;have lE:=HS.out;rw[MZ.out.1,hacc] at lE;have Az:=τ lE jS;obtain⟨c0,c1,c2,c3,c5,c6,c7,c8,c9,c10⟩:=HC.out _ hO.ε;have HO:=δ hO;clear lE jS hO hacc hfull hk;go_wp2_with fail
   refine(DJ n7 oM (oN Az.out.2) HO.out).mono ?_;rintro e w9 ⟨rfl,h9⟩;obtain⟨c0,c1,c2,c3,c5,c6,c7,c8,c9,c10⟩:=HC.out _ h9.ε;have H9:=δ h9;clear h9;go_wp2_with fail
   refine(DJ n8 oM (by have:=Az.out.2;rw[aL,iF];have:=dc (n:=n7) oM;omega) H9.out).mono ?_;rintro e w10 ⟨rfl,h10⟩;obtain⟨c0,c1,c2,c3,c5,c6,c7,c8,c9,c10⟩:=HC.out _ h10.ε;have iL:=δ h10;clear h10;go_wp2_with fail
   refine(DJ L.length oM (by have:=Az.out.2;rw[aL,aL,iF,iF];have:=dc (n:=n7) oM;have:=dc (n:=n8) oM;omega) iL.out).mono ?_;rintro e w11 ⟨rfl,h11⟩;obtain⟨c0,c1,c2,c3,c5,c6,c7,c8,c9,c10⟩:=HC.out _ h11.ε;obtain⟨N,hN⟩:∃a,acc++aN n7++aN n8++aN L.length=a:=⟨_,rfl⟩;rw[hN] at h11;have pe:N.length≤200:=by
    rw[← hN];simp only[aL,iF];have:=Az.out.2;have:=dc (n:=n7) oM;have:=dc (n:=n8) oM;have:=dc (n:=L.length) oM;omega
   have mz:=Az.out.1;rw[hN] at mz;have eZ:=δ h11;have HN:=τ mz pe;clear h11 hN pe mz;go_wp2_with fail
   have l4:(L.length:Int)≤4:=oM;have hml:∀k,((L.take k).flatMap jX).length≤44:=fun k=>by
    have:=Ws (l:=L.take k) (fun x hx=>(HM.out x (JW hx)).2);rw[fF] at this;have h2:11*min k L.length≤11*4:=NR _ oM;omega
   have HML:=δ hml;clear hml c0 c1 c2 c3 c5 c6 c7 c8 c9 c10;go_loopw [9,10,61] (fun _ _ u wr=>∃k:Nat,k≤L.length∧u=ι (k:Int)∧dU (fun _=>False) w5 wr o (N++(L.take k).flatMap jX)) (fun _ _ u _=>L.length - (intOf u).toNat)
   case atStart=>exact⟨0,oM,rfl,by simpa using eZ.out⟩
   case round =>
    obtain⟨k,hk,rfl,hO⟩:=hrel;have mj:(N++(L.take k).flatMap jX).length≤300:=by
     rw[aL];have:=HML.out k;have:=HN.out.2;omega
    obtain⟨M,hM⟩:=κ (N++(L.take k).flatMap jX);rw[hM] at hO mj;by_cases hlt:k<L.length
    ·obtain rfl:=hA oM
     have hrow:=HB.out wr (H5.out.2.then hO.ε φ) k hlt;have gD:=HM.out _ (eM hlt);have bY:N++(L.take (k+1)).flatMap jX=M++jX L[k]:=by rw[afW hlt,← dQ,hM]
     obtain⟨p,hp⟩:=κ (L[k]);rw[hp] at hrow gD bY;obtain⟨nm,sh⟩:=p;obtain⟨P,hP⟩:=κ (str nm);have lB:P.data.toList=nm:=by rw[← hP,bS]
     have iM:P.size≤8:=by rw[← hP,bf];exact gD.2
     have hrw:ct ⟨nm,sh⟩=[.string P,.bool sh]:=by unfold ct;rw[hP]
     rw[hrw] at hrow;have hpb:jX ⟨nm,sh⟩=bF P.data.toList++[if sh then 1 else 0]:=by unfold jX;rw[lB]
     rw[hpb,← dQ] at bY;have tP:(bF P.data.toList).length≤11:=by
      rw[iT,lB];have:=kY (n:=nm.length) (by have:=gD.2;simp only at this;omega);have:=gD.2;simp only at this
      omega
     have HX:=aD bY mj iM tP;have HR:=δ hrow;have jR:=δ hO;have j1:(k:Int)<(L.length:Int):=oM;obtain⟨g,hg⟩:∃q,wr.heap.size=q:=⟨_,rfl⟩;have HQ:=δ hg;clear hrow gD bY hp hP lB iM hrw hpb hO hM mj tP;go_upto_region 14 with (first
      |(refine uc rfl _ _ rfl b (off+k*2) rfl [.string P,.bool sh] _ HR.out underlying46 rfl kR ?_))
     generalize qu:World.alloc _ _=w12;have f_:η w12 g 46 #[.string P,.bool sh]:=by rw[← qu,← HQ.out];exact η.new wr _ _
     have h12:dU (fun _=>False) w5 w12 o M:=by rw[← qu];exact jR.out.still ((ζ.refl _ wr).alloc _)
     obtain⟨c0,c1⟩:=f_.uv;have gf:=τ h12 f_;clear h12 f_ qu hg;obtain⟨G,g1,g2,g3⟩:=gf.out.1.here;have HG:=aj g1 g2 (g3 g _ _ gf.out.2 dC dC);clear g1 g2 g3;go_wp2_with fail
     refine(vS HG.out.1 P (oN HX.out.2.2.1) (oN HX.out.2.1)).mono ?_;rintro e w13 ⟨rfl,h13⟩;obtain⟨c0,c1⟩:=(gf.out.2.ε h13.ε HG.out.2.2).uv;have iZ:=δ h13;have dO:(M++bF P.data.toList).length≤800000:=by rw[aL];have:=HX.out.2.1;have:=HX.out.2.2.2;omega
     have wJ:=δ dO;clear h13 dO;cases sh
     ·go_wp2_with fail
      refine(KT iZ.out 0 wJ.out).mono ?_;rintro e w14 ⟨rfl,h14⟩;have kM:=δ (gf.out.1.back HG.out.2.1 h14);exact QU
     ·go_wp2_with fail
      refine(KT iZ.out 1 wJ.out).mono ?_;rintro e w14 ⟨rfl,h14⟩;have kM:=δ (gf.out.1.back HG.out.2.1 h14);exact QU
    ·obtain rfl:k=L.length:=oM
     rw[rO] at hM;have E6:=HN.out.1;rw[hM] at E6;have HX:=τ E6 mj;have HO:=δ hO;clear hO hM mj E6 hlt hk;go_wp2_with fail
     refine(vS HO.out t (oN HT.out) (oN HX.out.2)).mono ?_;rintro e w13 ⟨rfl,h13⟩;rw[← HX.out.1] at h13;have hst:=FY h13;have fT:=δ hst;have HU:=δ (H5.out.2.then h13.ε φ);clear h13 hst;go_wp2_with fail
     refine fT.out.mono ?_;rintro e wz ⟨rfl,rfl⟩;go_wp2_with fail
     go_ret
     exact⟨rfl,HU.out⟩
end
end Go.Proofs.YtbhjgfibhegddaaGreat
