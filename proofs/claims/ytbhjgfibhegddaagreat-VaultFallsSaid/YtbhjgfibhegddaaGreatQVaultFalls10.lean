/-
  Parts of the proof of VaultFalls: LogFirst, KeptPut, LogAdd.
-/
import Derived.Test.YtbhjgfibhegddaaGreatQVaultFalls09
import Derived.Deep.RegionHeld3
import Derived.Outline
import Derived.WalkSpells
set_option maxRecDepth 100000
set_option maxHeartbeats 16000000
namespace Go.Proofs.YtbhjgfibhegddaaGreat
abbrev oc:=@decide_eq_false_iff_not
abbrev Yd:=@List.getElem_take
abbrev Mn:=@Go.World.block_lt_of_cell?
abbrev aga:=@Option.isNone_none
abbrev agb:=@Option.isNone_some
open Tryz
section
open Go Go.RowKit
theorem aki (p:Lp) (w:World) (hg:p.θ<18446744073709551616∧p.af<18446744073709551616∧p.ahead<18446744073709551616) (ht:p.text.length≤32) (hn:p.number<256) (ha:p.all<256) :
 ς 116 #[p.val] w fun e w'=>e=ώ (.string (str (gW p.body)))∧Below w.heap.size w w':=by
 obtain⟨i0,bx,bU,bK,aY⟩:=jD Dh;have HB:Hid (p.body=leB p.θ 8++leB p.af 8++leB p.ahead 8++[UInt8.ofNat p.number,UInt8.ofNat p.all,UInt8.ofNat p.text.length,0]++p.text++List.replicate (32 - p.text.length) 0):=rfl;obtain⟨ep,sa,ah,nu,al,tx⟩:=p;generalize (⟨ep,sa,ah,nu,al,tx⟩:Lp).body=bd at *;simp only[Lp.val] at *;have hsz:(str tx).size=tx.length:=bR tx;go_enter func116,ntmps116
 go_wp2_with fail
 have Ew:η ((w.alloc (.cells #[ω (ep:Int),ω (sa:Int),ω (ah:Int),ι (nu:Int),ι (al:Int),.string (str tx)] 204)).alloc (.cells #[ω (ep:Int),ω (sa:Int),ω (ah:Int)] 112)) w.heap.size 204 #[ω (ep:Int),ω (sa:Int),ω (ah:Int),ι (nu:Int),ι (al:Int),.string (str tx)]:=(η.new w _ _).alloc _;have aP:η ((w.alloc (.cells #[ω (ep:Int),ω (sa:Int),ω (ah:Int),ι (nu:Int),ι (al:Int),.string (str tx)] 204)).alloc (.cells #[ω (ep:Int),ω (sa:Int),ω (ah:Int)] 112)) (w.heap.size+1) 112 #[ω (ep:Int),ω (sa:Int),ω (ah:Int)]:=by
  have h:=η.new (w.alloc (.cells #[ω (ep:Int),ω (sa:Int),ω (ah:Int),ι (nu:Int),ι (al:Int),.string (str tx)] 204)) 112 #[ω (ep:Int),ω (sa:Int),ω (ah:Int)];simpa using h
 have Li:υ w ((w.alloc (.cells #[ω (ep:Int),ω (sa:Int),ω (ah:Int),ι (nu:Int),ι (al:Int),.string (str tx)] 204)).alloc (.cells #[ω (ep:Int),ω (sa:Int),ω (ah:Int)] 112)):=((ζ.refl _ w).alloc _).alloc _;have K5:((w.alloc (.cells #[ω (ep:Int),ω (sa:Int),ω (ah:Int),ι (nu:Int),ι (al:Int),.string (str tx)] 204)).alloc (.cells #[ω (ep:Int),ω (sa:Int),ω (ah:Int)] 112)).heap.size=w.heap.size+2:=gZ
 have HW:=aF Ew aP Li K5;clear Ew aP Li K5;generalize ((w.alloc (.cells #[ω (ep:Int),ω (sa:Int),ω (ah:Int),ι (nu:Int),ι (al:Int),.string (str tx)] 204)).alloc (.cells #[ω (ep:Int),ω (sa:Int),ω (ah:Int)] 112))=W at *;go_loopw [3,16] (fun v i wr=>∃k:Nat,k≤3∧i=ι k∧Own wr 5 1 v (8*k) (aO (([ep,sa,ah].take k).flatMap fun n=>leB n 8))∧υ W wr∧(∀q,v.ownBlock=some q→W.heap.size≤q)) (fun _ i _=>3 - (intOf i).toNat)
 case atStart=>exact⟨0,oM,rfl,Own.nil _ _ _,ζ.refl _ _,by simp[Value.ownBlock]⟩
 case round =>
  obtain⟨k,hk,rfl,hO,hU,hl⟩:=hrel;by_cases hlt:k<3
  ·have hc:wr.cell? ⟨w.heap.size+1,k,none⟩=some (ω (([ep,sa,ah][k]'(by simpa using hlt):Nat):Int)):=by
    rw[(HW.out.2.1.ε hU id).cell k];match k,hlt with
    | 0,_=>rfl
    | 1,_=>rfl
    | 2,_=>rfl
   have hstep:([ep,sa,ah].take (k+1)).flatMap (fun n=>leB n 8)=([ep,sa,ah].take k).flatMap (fun n=>leB n 8)++leB ([ep,sa,ah][k]'(by simpa using hlt)) 8:=by
    rw[ia (by simpa using hlt),xq];simp
   have HX:=aq hstep hU hl;clear hstep hU hl;generalize [ep,sa,ah][k]'(by simpa using hlt)=y at *;go_wp2_with fail
   refine(agC u3 (8*k) _ y 8 wr hO oM oM).mono ?_;rintro e w1 ⟨v1,rfl,gE,az,iM⟩;have H1:=aq gE az iM;clear gE az iM hc hO;go_wp2_with fail
   go_roundw
   case rel =>
    obtain⟨gE,az,iM⟩:=H1.out;obtain⟨hstep,hU,hl⟩:=HX.out;refine⟨k+1,oM,by go_num,?_,hU.then az (fun b e=>.inr (hl b e)),fun q hq=>?_⟩
    ·rw[hstep,rW,show 8*(k+1)=8*k+8 by omega]
     exact gE
    ·rcases iM with h | ⟨q',h,hq'⟩
     ·exact hl q JY
     ·rw[h] at hq
      have h5:=dM hq;have:=hU.size;omega
   case measure=>simp[intOf];omega
  ·obtain rfl:k=3:=oM
   have aP:=HW.out.1.ε hU id;have hc1:=aP.xL;have H1:=aF ((HW.out.2.2.1).then hU φ) hl aP hU.size;have h4:=δ (acm nu al tx.length hn ha oM);have h24:(([ep,sa,ah].take 3).flatMap fun n=>leB n 8)=leB ep 8++leB sa 8++leB ah 8:=gZ
   rw[h24] at hO;have HR:Hid (∀W,ς 20 #[.string ⟨#[0]⟩,ι (32 - (tx.length:Int))] W fun e w'=>e=ώ (.string (str (List.replicate (32 - tx.length) 0)))∧Below W.heap.size W w'):=by
    intro W;have h:=strings_Repeat ⟨#[0]⟩ (32 - tx.length) W oM (by show 1*_≤_;omega);rw[YH] at h;rw[show (32 - (tx.length:Int))=((32 - tx.length:Nat):Int) from by omega];exact h
   clear hU hl h24 aP;go_wp2_with (first
    |(at_builtin
      refine kr rfl _ _ _ _ rfl 5 i0 _ 1 1 underlying89 bx bU bK aY rfl u3 24 _ rfl (hO.alloc _) _ 4 [ϋ (nu:Int),ϋ (al:Int),ϋ (tx.length:Int),ϋ 0] rfl (Src.rY underlying89 _ rfl) jN ke oM ?_;intro v2 w2 bL σ hl2 cn;obtain⟨az,iM,aP,cz⟩:=H1.out;have hnb:=aP.lt;have aD:=(aP.alloc _).ε σ (fun e=>oO (iM _ e) HW.out.2.2.2);have hc2:=aD.xL;have JZ:υ w w2:=(az.alloc _).then σ (fun b h=>.inr (oO (iM b h) HW.out.2.2.2));rw[← h4.out,← rW] at bL;have H2:=τ JZ aD;clear az iM aP σ hl2 cn aD JZ hO hc1 hnb cz))
   generalize hL:leB ep 8++leB sa 8++leB ah 8++[UInt8.ofNat nu,UInt8.ofNat al,UInt8.ofNat tx.length,0]=L at bL HB;have wB:L.length=28:=by rw[← hL];simp[pN]
   have uu:(convert 89 9 v2).run prog w2.drew=.ok (.string (str L)) w2.drew:=xE bL.drew;have hls:(str L).size=28:=by rw[bR,wB]
   have TX:=δ (Bf L tx);have ao3:=δ (Bf (L++tx) (List.replicate (32 - tx.length) 0));have OC:(str (List.replicate (32 - tx.length) 0)).size=32 - tx.length:=by rw[bR];simp
   have HO:=δ bL;have hHL:=δ hL;have an_:IntKind.i64.wrap (32 - (tx.length:Int))=32 - (tx.length:Int):=cZ _ oM;have aoc:(9223372036854775807<28+tx.length)=False:=iy
   have hle2:(9223372036854775807<28+tx.length+(32 - tx.length))=False:=iy
   have apd:(9223372036854775807<(str L).size+(str tx).size)=False:=by rw[hls,hsz];exact aoc
   have ape:(9223372036854775807<(str L++str tx).size+(str (List.replicate (32 - tx.length) 0)).size)=False:=by rw[IC,hls,hsz,OC];exact hle2
   clear hL bL;go_region_held3 (fun w'=>w'.cell? ⟨w.heap.size,5,none⟩=some (.string (str tx))∧(convert 89 9 v2).run prog w'=.ok (.string (str L)) w') (first| go_keep |(exact⟨hc2.2.2.2.2.2,uu⟩))
    (first
    |(go_at_call 20
      refine(HR.out _).mono ?_;rintro e w4 ⟨rfl,hb4⟩;have xV:(convert 89 9 v2).run prog w4=.ok (.string (str L)) w4:=xE (HO.out.dr fun q hq=>hb4.block q (HO.out.lt hq));have tM:w4.cell? ⟨w.heap.size,5,none⟩=some (.string (str tx)):=(hb4.cell (p:=⟨w.heap.size,5,none⟩) H2.out.2.lt).trans hc2.2.2.2.2.2)
    |(go_at_call 157
      refine(Sp _ _ (by rw[IC,IC,hls,hsz,OC];omega)).mono ?_;rintro e w5 ⟨rfl,mU⟩;have ad3:Below w2.heap.size w2 w5:=(xF hb4).trans (mU.mono (xF hb4).size);have ao4:(convert 89 9 v2).run prog w5=.ok (.string (str L)) w5:=xE (HO.out.dr fun q hq=>ad3.block q (HO.out.lt hq));have Al:w5.cell? ⟨w.heap.size,5,none⟩=some (.string (str tx)):=(ad3.cell (p:=⟨w.heap.size,5,none⟩) H2.out.2.lt).trans hc2.2.2.2.2.2))
   all_goals go_wp2
   all_goals
    go_ret
    refine⟨?_,?_⟩
    ·rw[HB.out,eC]
     rfl
    ·have qG:Below w.heap.size w w2:=H2.out.1.below (fun _ h=>h.elim)
     have J1:Below w2.heap.size w2 w4:=xF hb4;exact qG.trans ((J1.mono qG.size).trans (mU.mono (ic qG.size J1.size)))
theorem aiN:(prog.fieldsOf 204).toList.map (fun f=>(f.name == "_",f.type,f.offset))=[(false,112,0),(false,112,1),(false,112,2),(false,3,3),(false,3,4),(false,9,5)]:=kR
theorem amL (p q:Lp) (W:World):(binOp .neq 204 p.val q.val).run prog W=.ok (.bool (!decide (p=q))) W:=by
 rw[Lp.val,Lp.val,run_neq_struct,run_equalIn_agg _ _ _ _ _ kR kR];have hf:=aiN;generalize (prog.fieldsOf 204).toList=fs at hf;obtain⟨f0,f1,f2,f3,f4,f5,rfl⟩:∃f0 f1 f2 f3 f4 f5,fs=[f0,f1,f2,f3,f4,f5]:=by
  have hl:=aI List.length hf;match fs,hl with
  | [a,b,c,d,e,f],_=>exact⟨a,b,c,d,e,f,rfl⟩
 simp only[kO,AW,qP,tY,iX,qN] at hf;obtain⟨⟨a0,b0,c0⟩,⟨a1,b1,c1⟩,⟨a2,b2,c2⟩,⟨a3,b3,c3⟩,⟨a4,b4,c4⟩,⟨a5,b5,c5⟩⟩:=hf;obtain⟨x0,x1,x2,x3,x4,t1⟩:=p;obtain⟨y0,y1,y2,y3,y4,t2⟩:=q;have hq (n m:Nat):((n:Int) == (m:Int))=decide (n=m):=by
  by_cases h:n=m
  ·simp[h]
  ·rw[gI h,iX];omega
 have e1 (x y:Int) (W:World):(Op.equalIn 9999 112 (ω x) (ω y)).run prog W=.ok (x == y) W:=QN W 9998 112 .u64 .u64 x y underlying112;have e2 (x y:Int) (W:World):(Op.equalIn 9999 3 (ι x) (ι y)).run prog W=.ok (x == y) W:=QN W 9998 3 .i64 .i64 x y underlying3;have e3 (x y:ByteArray) (W:World):(Op.equalIn 9999 9 (.string x) (.string y)).run prog W=.ok (x.toList == y.toList) W:=af' W 9998 9 x y underlying9;have q1 (k:Nat) (xs:Array Value) (v:Value) (W:World) (h:xs[k]? = some v):(part 112 xs k).run prog W=.ok v W:=Fi (w:=W) kR h;have q2 (k:Nat) (xs:Array Value) (v:Value) (W:World) (h:xs[k]? = some v):(part 3 xs k).run prog W=.ok v W:=Fi (w:=W) kR h;have q3 (k:Nat) (xs:Array Value) (v:Value) (W:World) (h:xs[k]? = some v):(part 9 xs k).run prog W=.ok v W:=Fi (w:=W) kR h;simp only[Op.eqFields,a0,a1,a2,a3,a4,a5,b0,b1,b2,b3,b4,b5,c0,c1,c2,c3,c4,c5,rT,AY,Iv,vf];rw[q1 0 _ (ω x0) _ rfl,fZ,q1 0 _ (ω y0) _ rfl,fZ,e1,fZ,hq]
 by_cases h0:x0=y0
 ·rw[fo h0]
  simp only[xu,mH,jj,rT];rw[q1 1 _ (ω x1) _ rfl,fZ,q1 1 _ (ω y1) _ rfl,fZ,e1,fZ,hq];by_cases h1:x1=y1
  ·rw[fo h1]
   simp only[xu,mH,jj,rT];rw[q1 2 _ (ω x2) _ rfl,fZ,q1 2 _ (ω y2) _ rfl,fZ,e1,fZ,hq];by_cases h2:x2=y2
   ·rw[fo h2]
    simp only[xu,mH,jj,rT];rw[q2 3 _ (ι x3) _ rfl,fZ,q2 3 _ (ι y3) _ rfl,fZ,e2,fZ,hq];by_cases h3:x3=y3
    ·rw[fo h3]
     simp only[xu,mH,jj,rT];rw[q2 4 _ (ι x4) _ rfl,fZ,q2 4 _ (ι y4) _ rfl,fZ,e2,fZ,hq];by_cases h4:x4=y4
     ·rw[fo h4]
      simp only[xu,mH,jj,rT];rw[q3 5 _ (.string (str t1)) _ rfl,fZ,q3 5 _ (.string (str t2)) _ rfl,fZ,e3,fZ,Nu];by_cases h5:t1=t2<;>simp[h0,h1,h2,h3,h4,h5]
     ·simp[h4]
    ·simp[h3]
   ·simp[h2]
  ·simp[h1]
 ·simp[h0]
theorem Y7 (l:List Lp) (i:Nat) (hi:i<l.length) (j:Nat) (hj:j<6):(ow l)[i*6+j]? = (Lp.cells l[i])[j]? := by
 induction l generalizing i with
 | nil=>simp at hi
 | cons p l ih =>
   have hp:(Lp.cells p).length=6:=rfl;have e:ow (p::l)=Lp.cells p++ow l:=rfl;rw[e];cases i with
   | zero=>rw[qi oM];simp
   | succ i =>
     rw[mG oM,hp,show (i+1)*6+j - 6=i*6+j by omega,ih i tA];rfl
structure oX (w:World) (v:Value) (l:List Lp):Prop where
 ex:∃A cap b off,v=.slice A l.length cap∧l.length≤cap∧cap≤maxLen∧(0<l.length→A=some ⟨b,off,none⟩∧b<w.heap.size)∧∀i (_:i<l.length) (j:Nat),j<6→w.cell? ⟨b,off+i*6+j,none⟩=(Lp.cells l[i])[j]?
theorem oX.ku {w:World} {v:Value} {l:List Lp} (h:Own w 204 6 v l.length (ow l)):oX w v l:=by
 by_cases h0:l.length=0
 ·obtain⟨A,cap,e,h1,h2⟩:=h.shape
  exact⟨A,cap,0,0,e,h1,h2,fun h=>by omega,fun i hi=>by omega⟩
 ·obtain⟨g,cap,rfl,h1,h2⟩:=h.head oM
  refine⟨_,cap,g,0,rfl,h1,h2,fun _=>⟨rfl,h.lt rfl⟩,fun i hi j hj=>?_⟩;rw[lK,h.cellAt (i*6+j) oM,Y7 l i hi j hj]
theorem oX.still {w w':World} {v:Value} {l:List Lp} (h:oX w v l) (hu:υ w w'):oX w' v l:=by
 obtain⟨A,cap,b,off,e,h1,h2,h3,h4⟩:=h.ex;refine⟨A,cap,b,off,e,h1,h2,fun h0=>⟨(h3 h0).1,nY (h3 h0).2 hu.size⟩,fun i hi j hj=>?_⟩;have h5:=(h3 oM).2;rw[CX (w:=w) (a:=⟨b,off+i*6+j,none⟩) (hu.block b h5 id)];exact h4 i hi j hj
theorem ag8 {v1 v2:Value} {l1 l2:List Lp} (w:World) (h1:oX w v1 l1) (h2:oX w v2 l2) :
 ς 208 #[v1,v2] w fun e w'=>e=ώ (.bool (decide (l1=l2)))∧υ w w':=by
 have H1:=δ h1;have H2:=δ h2;obtain⟨A1,BN,b1,o1,rfl,m1,m2,a1,-⟩:=h1.ex;obtain⟨A2,fJ,b2,o2,rfl,n1,n2,a2,-⟩:=h2.ex;have B9:l1.length≤9223372036854775807:=by unfold maxLen at m2;omega
 have hm2:l2.length≤9223372036854775807:=by unfold maxLen at n2;omega
 clear h1 h2 a1 a2 m1 m2 n1 n2;by_cases hl:l1.length=l2.length
 ·have hl':((l1.length:Int) != (l2.length:Int))=false:=by rw[hl];simp
  have HL:=δ hl;clear hl;go_enter func208,ntmps208
  go_wp2_with fail
  go_loopw [13] (fun i wr=>∃k:Nat,k≤l1.length∧i=ι k∧l1.take k=l2.take k∧υ w wr) (fun i _=>l1.length - (intOf i).toNat)
  case atStart=>exact⟨0,oM,rfl,rfl,ζ.refl _ _⟩
  case round =>
   obtain⟨k,hk,rfl,heq,hu⟩:=hrel;by_cases hlt:k<l1.length
   ·have pT:k<l2.length:=by rw[← HL.out];exact hlt
    obtain⟨A1',ao5,b1',o1',e1,-,-,g1,c1⟩:=(H1.out.still hu).ex;obtain⟨A2',ao6,b2',o2',e2,-,-,g2,c2⟩:=(H2.out.still hu).ex;injection e1 with e1a e1b e1c;injection e2 with e2a e2b e2c;subst e1a e2a e1c e2c;obtain⟨rfl,-⟩:=g1 oM;obtain⟨rfl,-⟩:=g2 oM;have x0:=c1 k hlt 0 oM;have x1:=c1 k hlt 1 oM;have x2:=c1 k hlt 2 oM;have x3:=c1 k hlt 3 oM;have x4:=c1 k hlt 4 oM;have x5:=c1 k hlt 5 oM;have y0:=c2 k pT 0 oM;have y1:=c2 k pT 1 oM;have y2:=c2 k pT 2 oM;have y3:=c2 k pT 3 oM;have y4:=c2 k pT 4 oM;have y5:=c2 k pT 5 oM;simp only[sU,Lp.cells,oV,qm] at x0 x1 x2 x3 x4 x5 y0 y1 y2 y3 y4 y5;have hne:=amL l1[k] l2[k];simp only[Lp.val] at hne;have HX:=aq heq hu pT;have ao7:(k:Int)<(l2.length:Int):=oM;clear c1 c2 g1 g2 e1b e2b heq hu;by_cases hpq:l1[k]=l2[k]
    ·rw[fo hpq] at hne
     simp only[xu] at hne;have HP:=δ hpq;clear hpq;go_wp2_with fail
     go_region
     all_goals
      go_wp2_with fail
      go_roundw
      case rel =>
       refine⟨k+1,oM,by go_num,?_,HX.out.2.1.drew⟩;have z1:=HX.out.1;have z2:=HP.out;rw[ia hlt,ia pT,z1,z2]
      case measure=>simp[intOf];omega
    ·rw[gI hpq] at hne
     simp only[Bool.not_false] at hne;have hd:decide (l1=l2)=false:=by
      rw[oc];intro e;subst e;exact hpq rfl
     have Hd:=δ hd;clear hpq hd;go_wp2_with fail
     go_region
     all_goals
      go_wp2_with fail
      go_ret
      rw[Hd.out];exact⟨rfl,HX.out.2.1.drew⟩
   ·obtain rfl:k=l1.length:=oM
    have hd:decide (l1=l2)=true:=by
     rw[eD];rw[dV (bO _),dV (by rw[HL.out];exact bO _)] at heq;exact heq
    have Hd:=δ hd;have HU:=δ hu;clear hd heq hu;go_wp2_with fail
    go_ret
    rw[Hd.out];exact⟨rfl,HU.out⟩
 ·have hl':((l1.length:Int) != (l2.length:Int))=true:=by rw[kq];omega
  have hd:decide (l1=l2)=false:=by
   rw[oc];intro e;subst e;exact hl rfl
  rw[hd];clear hl hd;go_enter func208,ntmps208
  go_wp2_with fail
  go_ret
  exact⟨rfl,ζ.refl _ _⟩
def jH (l:List Lp):List UInt8:=l.flatMap Lp.text
theorem aiO (l:List Lp) (ht:∀p ∈ l,p.text.length≤32):(jH l).length≤32*l.length:=by
 induction l with
 | nil=>simp[jH]
 | cons p l ih =>
   have h1:=ht p sM;have h2:=ih (fun q hq=>ht q z_);simp only[jH,yZ,aN,eZ] at h2 ⊢;omega
theorem ago (l:List Lp) (k:Nat) (hk:k<l.length):jH (l.take (k+1))=jH (l.take k)++l[k].text:=by
 rw[ia hk,jH,xq];simp[jH]
def ie (θ last:Nat) (row:List Lp):List UInt8 × Bool :=
 match row with
 | []=>([],false)
 | p::r =>
   if (p::r).length<p.all then ([],false) else
   if 1024<(jH ((p::r).take p.all)).length then ([],false) else
   (jH ((p::r).take p.all),decide (partsOf (jH ((p::r).take p.all)).length≤(p::r).length∧bZ (jH ((p::r).take p.all)) θ p.af last=(p::r).take (partsOf (jH ((p::r).take p.all)).length)))
structure Lg where
 from_:Nat
 dS:Nat
 θ:Nat
 l:List ByteArray
 used:Nat
 last:Nat
 af:Nat
 broken:Bool
def Lg.cells (p:Nat) (v:Value) (g:Lg):Array Value :=
 #[.pointer (some ⟨p,0,none⟩),ι g.from_,ι g.dS,ω g.θ,v,ι g.used,ω g.last,ω g.af,.bool g.broken]
theorem oX.take {w:World} {A:Option Addr} {n cap:Nat} {l:List Lp} (h:oX w (.slice A n cap) l) (k:Nat) (hk:k≤l.length):oX w (.slice A k cap) (l.take k):=by
 obtain⟨A',cap',b,off,e,h1,h2,h3,h4⟩:=h.ex;injection e with e1 e2 e3;subst e1 e3;have hl:(l.take k).length=k:=D7
 refine⟨A,cap,b,off,by rw[hl],oM,h2,fun h0=>h3 oM,fun i hi j hj=>?_⟩;rw[Yd];exact h4 i oM j hj
theorem alO {w:World} {b p:Nat} {v0 v:Value} {g:Lg} {row:List Lp} (hB:η w b 199 (g.cells p v0)) (hR:oX w v row) (hl:row.length≤5000) (ht:∀q ∈ row,q.text.length≤32) (ha:∀q ∈ row,q.all<256) :
 ς 160 #[.pointer (some ⟨b,0,none⟩),v] w fun e w'=>e=ώ (.tuple #[.string (str (ie g.θ g.last row).1),.bool (ie g.θ g.last row).2])∧υ w w':=by
 have HR:=δ hR;have HB:=δ hB;obtain⟨A,cap,b1,o1,rfl,m1,m2,a1,c1⟩:=hR.ex;have hcb:=hB.oY;clear hR hB m1 m2;by_cases hn:row.length=0
 ·have hl0:row=[]:=Mh.1 hn
  subst hl0;have hr:ie g.θ g.last []=([],false):=rfl;rw[hr];simp only[AV];clear a1 c1 hn ht ha hl;go_enter func160,ntmps160
  go_wp2_with fail
  go_ret2
  exact⟨rfl,ζ.refl _ _⟩
 ·obtain⟨rfl, -⟩ := a1 oM
  have h0:0<row.length:=oM;have hne:((row.length:Int) == 0)=false:=ru
  have an':(0:Int)<(row.length:Int):=oM;have hc0:∀j,j<6→w.cell? ⟨b1,o1+j,none⟩=(Lp.cells row[0])[j]? := fun j hj=>by have:=c1 0 h0 j hj;simpa using this
  have x1:=hc0 1 oM;have x4:=hc0 4 oM;simp only[Lp.cells,oV,qm] at x1 x4;have hall:=ha row[0] (eE _);have HC:=δ c1;clear c1 hc0 a1;have hF:ie g.θ g.last row=if row.length<row[0].all then ([],false) else if 1024<(jH (row.take row[0].all)).length then ([],false) else
   (jH (row.take row[0].all),decide (partsOf (jH (row.take row[0].all)).length≤row.length∧bZ (jH (row.take row[0].all)) g.θ row[0].af g.last=row.take (partsOf (jH (row.take row[0].all)).length))):=by
   cases row with
   | nil=>simp at h0
   | cons q r=>rfl
  by_cases hbig:row.length<row[0].all
  ·have anw:(row.length:Int)<(row[0].all:Int):=oM
   rw[π hbig] at hF;have HF:=δ hF;clear hF hbig;go_enter func160,ntmps160
   go_wp2_with fail
   go_ret2
   rw[HF.out];exact⟨rfl,ζ.refl _ _⟩
  ·have anw : ¬ (row.length:Int)<(row[0].all:Int):=oM
   rw[ν hbig] at hF;have HF:=δ hF;have HT:Hid (∀k,k≤row.length→(jH (row.take k)).length≤32*k):=by
    intro k hk;have h:=aiO (row.take k) fun q hq=>ht q (Iw hq)
    rw[iW,xy hk] at h;exact h
   have Ht:=δ ht;clear hF ht ha;go_enter func160,ntmps160
   go_wp2_with fail
   go_loopw [6,25] (fun t i wr=>∃k:Nat,k≤row[0].all∧i=ι k∧t=.string (str (jH (row.take k)))∧wr=w) (fun _ i _=>row[0].all - (intOf i).toNat)
   case atStart=>exact⟨0,oM,rfl,rfl,rfl⟩
   case round =>
    obtain⟨k,hk,rfl,rfl,rfl⟩:=hrel;by_cases hlt:k<row[0].all
    ·have oI:k<row.length:=oM
     have hc:=HC.out k oI 5 oM;simp only[Lp.cells,oV,qm] at hc;have bK:(str (jH (row.take k))).size≤32*k:=by rw[bR];exact HT.out k oM
     have aY:(str row[k].text).size≤32:=by rw[bR];exact Ht.out _ (eE _)
     have TX:=Bf (jH (row.take k)) row[k].text;have hts:=δ (ago row k oI);go_wp2_with fail
     go_roundw
     case rel=>exact⟨k+1,oM,by go_num,by rw[hts.out],trivial⟩
     case measure=>simp[intOf];omega
    ·obtain rfl : k=row[0].all:=oM
     have iN:(jH (row.take row[0].all)).length≤32*256:=by have:=HT.out row[0].all oM;omega
     generalize jH (row.take row[0].all)=T at HF iN ⊢;have uO:(str T).size=T.length:=bR T;by_cases h4:1024<T.length
     ·have Es:(1024:Int)<(str T).size:=oM
      go_wp2_with fail
      go_ret2
      rw[HF.out,π h4];exact⟨rfl,ζ.refl _ _⟩
     ·have Es : ¬(1024:Int)<(str T).size:=oM
      rw[ν h4] at HF;have BK:Hid (∀W,ς 114 #[.string (str T),ω (g.θ:Int),ω (row[0].af:Int),ω (g.last:Int)] W fun e w'=>∃v,e=ώ v∧Own w' 204 6 v (partsOf T.length) (ow (bZ T g.θ row[0].af g.last))∧Below W.heap.size W w'∧(∀q,v.ownBlock=some q→W.heap.size≤q)):=by
       intro W;have h:=abI (str T) g.θ row[0].af g.last W oM;rw[uO] at h;exact h
      go_wp2_with fail
      go_region_held3 (fun w'=>w'.cell? ⟨b,3,none⟩=some (ω (g.θ:Int))∧w'.cell? ⟨b,6,none⟩=some (ω (g.last:Int))∧w'.cell? ⟨b1,o1+1,none⟩=some (ω (row[0].af:Int))) (first| go_keep)
       (first|(go_at_call 114
               refine(BK.out _).mono ?_;rintro e w2 ⟨v2,rfl,bL,bM,hl2⟩;obtain⟨g2,fJ,rfl,hx1,hx2⟩:=bL.head J8;have yK:υ wr w2:=ζ.pM (xF bM) _;have aod:=(HB.out.ε yK id).oY;have hr2:w2.cell? ⟨b1,o1+1,none⟩=some (ω (row[0].af:Int)):=(CX (w:=wr) (a:=⟨b1,o1+1,none⟩) (yK.block b1 (Mn _ _ x1) id)).trans x1))
      all_goals
       have lW:=τ bL yK;clear bL yK bM hl2 aod hr2;by_cases h5:partsOf T.length≤row.length
       ·have VG:((partsOf T.length:Nat):Int)≤(row.length:Int):=oM
        have cv:=qV T g.θ row[0].af g.last;have El:oX w2 (.slice (some ⟨g2,0,none⟩) (partsOf T.length) fJ) (bZ T g.θ row[0].af g.last):=oX.ku (by rw[cv];exact lW.out.1);have yC:=(HR.out.still lW.out.2).take (partsOf T.length) h5;have HP:=τ El yC;have hpc:(partsOf T.length:Int)≤(cap:Int):=by
         obtain⟨_,_,_,_,e,q1,_⟩:=HR.out.ex;injection e with e1 e2 e3;omega
        have hd:(ie g.θ g.last row).2=decide (bZ T g.θ row[0].af g.last=row.take (partsOf T.length)):=by
         rw[HF.out];by_cases hq:bZ T g.θ row[0].af g.last=row.take (partsOf T.length)
         ·rw[fo hq,fo ⟨h5,hq⟩]
         ·rw[gI hq,gI (fun h=>hq h.2)]
        have Hd:=δ hd;clear El yC cv hd;go_wp2_with fail
        refine(ag8 _ HP.out.1 HP.out.2).mono ?_;rintro e w3 ⟨rfl,χ⟩;have gr:=δ χ;clear χ;go_wp2_with fail
        go_ret2
        rw[Hd.out,HF.out];exact⟨rfl,lW.out.2.then gr.out φ⟩
       ·have VG:¬((partsOf T.length:Nat):Int)≤(row.length:Int):=oM
        have hd:(ie g.θ g.last row).2=false:=by
         rw[HF.out];exact gI (fun h=>h5 h.1)
        have Hd:=δ hd;clear hd;go_wp2_with fail
        go_ret2
        rw[Hd.out,HF.out];exact⟨rfl,lW.out.2⟩
theorem acp {w:World} {p b:Nat} {k:Kp} (hK:η w b 209 (k.cells p)) :
 ς 120 #[.pointer (some ⟨b,0,none⟩)] w fun e w'=>e=ώ (.tuple #[.string (str k.text),.bool (decide (0<k.gen))])∧Below w.heap.size w w':=by
 have hc:=hK.s6;have HB:=δ hK;clear hK;have hd:decide ((0:Int)<(k.gen:Int))=decide (0<k.gen):=by
  by_cases h:0<k.gen
  ·rw[fo h,fo oM]
  ·rw[gI h,gI oM]
 go_enter func120,ntmps120
 go_wp2_with fail
 go_region_held3 (fun w'=>w'.cell? ⟨b,2,none⟩=some (.string (str k.text))∧w'.cell? ⟨b,3,none⟩=some (ω (k.gen:Int))) (go_keep) (first| fail)
 all_goals go_wp2
 all_goals
  go_ret2
  exact⟨rfl,(oT _ _).drew⟩
def Pt.sec (p:Pt):ByteArray:=str (gW p.body)
def ig (d:Dk) (a:Nat) (l:List Pt):Nat→Dk × Int
 | 0=>(d,0)
 | j+1=>if (ig d a l j).2≠0 then ig d a l j else (ig d a l j).1.write ((a+j:Nat):Int) (l.getD j ⟨0,0,0,[]⟩).sec
theorem ag9 {d:Dk} {a:Nat} {l:List Pt} {j m:Nat} (h:(ig d a l j).2≠0) (hm:j≤m):ig d a l m=ig d a l j:=by
 induction m with
 | zero => obtain rfl:j=0:=oM
           rfl
 | succ m ih =>
   by_cases e:j=m+1
   ·rw[e]
   ·rw[ig,ih oM,π h]
theorem aiP (d:Dk) (i:Nat) (b:ByteArray) (hi:i<d.waits.length):(d.push i b).pend=d.pend+1:=by
 unfold Dk.push Dk.pend Dk.at_;simp only
 generalize d.waits=l at *;induction l generalizing i with
 | nil=>simp at hi
 | cons x l ih =>
   cases i with
   | zero=>simp;omega
   | succ i =>
     have h:=ih i tA;simp only[List.getD_cons_succ] at h ⊢;simp only[xA,kO,List.sum_cons];omega
theorem Y8 (d:Dk) (i:Int) (b:ByteArray) (hl:d.waits.length=d.ψ.length):(d.write i b).1.pend≤d.pend+1:=by
 unfold Dk.write;split
 ·simp
 ·split
  ·rename_i h
   split
   ·have hi:i.toNat<d.dO.1.waits.length:=by
     rw[Dk.ML,hl];simp only[Dk.there,gV,eD] at h;omega
    rw[aiP _ _ _ hi,Dk.MS];omega
   ·rw[Dk.MS];omega
  ·simp
theorem YK (d:Dk) (i:Int) (b:ByteArray):(d.write i b).1.ψ=d.ψ:=by
 unfold Dk.write;split
 ·rfl
 ·split
  ·split
   ·exact Dk.IZ d
   ·exact Dk.IZ d
  ·rfl
theorem YL (d:Dk) (i:Int) (b:ByteArray):(d.write i b).1.waits.length=d.waits.length:=by
 unfold Dk.write;split
 ·rfl
 ·split
  ·split
   ·simp[Dk.push,Dk.ML]
   ·rw[Dk.ML]
  ·rfl
theorem YM (d:Dk) (a:Nat) (l:List Pt) (hl:d.waits.length=d.ψ.length) (j:Nat) :
 (ig d a l j).1.ψ=d.ψ∧(ig d a l j).1.waits.length=d.waits.length∧(ig d a l j).1.pend≤d.pend+j:=by
 induction j with
 | zero=>exact⟨rfl,rfl,by simp[ig]⟩
 | succ j ih =>
   rw[ig];split
   ·exact⟨ih.1,ih.2.1,oM⟩
   ·refine⟨(YK _ _ _).trans ih.1,(YL _ _ _).trans ih.2.1,?_⟩
    have h:=Y8 (ig d a l j).1 ((a+j:Nat):Int) (l.getD j ⟨0,0,0,[]⟩).sec (by rw[ih.2.1,ih.1,hl]);omega
def dG (d:Dk) (k:Kp) (text:List UInt8):Dk × Kp × Int :=
 if k.broken then (d,k,11) else if 400<text.length then (d,k,3) else if k.seen=18446744073709551615 then (d,k,6) else
 if (ig d (k.from_+(1 - k.at_)*10) (aU text (k.seen+1)) (aM text.length)).2≠0 then
  ((ig d (k.from_+(1 - k.at_)*10) (aU text (k.seen+1)) (aM text.length)).1,{ k with broken:=true },(ig d (k.from_+(1 - k.at_)*10) (aU text (k.seen+1)) (aM text.length)).2) else
 if (ig d (k.from_+(1 - k.at_)*10) (aU text (k.seen+1)) (aM text.length)).1.sync.2≠0 then
  ((ig d (k.from_+(1 - k.at_)*10) (aU text (k.seen+1)) (aM text.length)).1.sync.1,{ k with broken:=true },(ig d (k.from_+(1 - k.at_)*10) (aU text (k.seen+1)) (aM text.length)).1.sync.2) else
 ((ig d (k.from_+(1 - k.at_)*10) (aU text (k.seen+1)) (aM text.length)).1.sync.1,{ k with seen:=k.seen+1,text:=text,gen:=k.seen+1,at_:=1 - k.at_,broken:=false },0)
structure Nv (w w':World) (p b:Nat) (d:Dk) (k:Kp) (F:List Nat):Prop where
 bH:∃F',bG w' p d F'∧∀q ∈ F',q ∈ F∨w.heap.size≤q
 kept:η w' b 209 (k.cells p)
 ε:ζ (fun q=>q=b∨q ∈ F) w w'
theorem ag_ {w:World} {p b:Nat} {k:Kp} (hK:η w b 209 (k.cells p)) (s:ByteArray) (h:k.broken=true∨400<s.size∨k.seen=18446744073709551615) :
 ς 127 #[.pointer (some ⟨b,0,none⟩),.string s] w fun e w'=>e=ώ (ι (if k.broken then 11 else if 400<s.size then 3 else 6))∧w=w':=by
 have hc:=hK.s6;clear hK;cases hb:k.broken
 ·rw[hb] at hc
  by_cases h4:400<s.size
  ·rw[ν sM,π h4]
   have Es:(400:Int)<(s.size:Int):=oM;clear h hb;go_enter func127,ntmps127
   go_wp2
   go_ret
   exact⟨rfl,rfl⟩
  ·rw[ν sM,ν h4]
   have h5:k.seen=18446744073709551615:=by
    rcases h with h | h | h
    ·rw[hb] at h;simp at h
    ·omega
    ·exact h
   rw[h5] at hc;have Es:¬(400:Int)<(s.size:Int):=oM;clear h hb h5;go_enter func127,ntmps127
   go_wp2
   go_ret
   exact⟨rfl,rfl⟩
 ·rw[hb] at hc
  rw[π rfl];clear h hb;go_enter func127,ntmps127
  go_wp2
  go_ret
  exact⟨rfl,rfl⟩
theorem bG.aa5 {w:World} {p n size:Nat} {d:Dk} {F:List Nat} {e:TypeId} {v:Value} {xs:List Value} (h:bG w p d F) (hO:Own w e size v n xs) (h1:e≠151) (h2:e≠9):∀q,v.ownBlock=some q→q ∉ F:=by
 obtain⟨bl,cap,bm,m,g1,g2,g3,g4,g5,rfl,g7⟩:=h;intro q hq hb;rcases hO.2 with ⟨rfl,_⟩ | ⟨g,cp,cur,fr,rfl,hg,_⟩
 ·simp[Value.ownBlock] at hq
 ·obtain rfl:g=q:=by simpa [Value.ownBlock] using hq
  have ad4:∀ {v2:Value} {n2:Nat} {Cp:List Value},Own w 9 1 v2 n2 Cp→v2.ownBlock=some g→False:=by
   intro v2 n2 Cp h hv;rcases h.2 with ⟨rfl,_⟩ | ⟨g',cp',cur',fr',rfl,hg',_⟩
   ·simp[Value.ownBlock] at hv
   ·obtain rfl:g'=g:=by simpa [Value.ownBlock] using hv
    rw[hg] at hg';have h3:=dM hg';injection h3 with _ h4;exact h2 h4
  simp only[cC,oU] at hb;rcases hb with rfl | rfl | rfl | ⟨x,hx,hk⟩
  ·exact hO.f_ g1 h1 lV
  ·exact ad4 g2 lV
  ·exact hO.SK g3 lV
  ·obtain⟨i,_,_,_,h8⟩:=g4.each x hx
   exact ad4 h8 hk
structure Bg (w wr:World) (p b:Nat) (d:Dk) (k:Kp) (F F':List Nat) (v:Value) (l:List Pt):Prop where
 bH:bG wr p d F'
 sub:∀q ∈ F',q ∈ F∨w.heap.size≤q
 kept:η wr b 209 (k.cells p)
 ε:ζ (fun q=>q=b∨q ∈ F) w wr
 list:Own wr 277 4 v l.length (pQ l)
theorem Bg.below {w w1 w2:World} {p b:Nat} {d:Dk} {k:Kp} {F F':List Nat} {v:Value} {l:List Pt} (h:Bg w w1 p b d k F F' v l) (hb:Below w1.heap.size w1 w2):Bg w w2 p b d k F F' v l :=
 ⟨h.bH.below hb,h.sub,h.kept.dr (hb.block _ h.kept.lt),h.ε.then (ζ.pM hb (fun _=>False)) φ,h.list.dr fun q hq=>hb.block q (h.list.lt hq)⟩
theorem Bg.wrote {w w1 w2:World} {p b:Nat} {d d2:Dk} {k:Kp} {F F' F2:List Nat} {v:Value} {l:List Pt} (h:Bg w w1 p b d k F F' v l) (hL:Left w1 w2 p d2 F' F2):Bg w w2 p b d2 k F F2 v l:=by
 have hs:=h.ε.size;refine⟨hL.bH,fun q hq=>?_,h.kept.ε hL.ε (h.bH.not_mem h.kept dC dC),h.ε.then hL.ε (fun q e=>(h.sub q e).imp .inr id),h.list.ε hL.ε fun q hq=>h.bH.aa5 h.list dC dC q hq⟩;rcases hL.sub q hq with e | e
 ·exact h.sub q e
 ·exact .inr oM
theorem Db (t:List UInt8) (g j:Nat) (hj:j<(aU t g).length):(aU t g)[j].gen=g∧(aU t g)[j].number=j∧(aU t g)[j].all=aM t.length∧(aU t g)[j].text.length≤48:=by
 simp[aU]
 omega
theorem ad5 {P:Prop} (h:P:=by
 rw[hr];go_wp2
 go_roundw
 case rel=>exact⟨j+1,F2,oM,by go_num,by rw[iB.out];exact hr,by rw[iB.out];exact tT.out.1⟩
 case measure=>simp[intOf];omega):P:=h
theorem akj {w:World} {p b:Nat} {d:Dk} {F:List Nat} {k:Kp} (hD:bG w p d F) (hK:η w b 209 (k.cells p)) (s:ByteArray)
 (hb:k.broken=false) (hs:s.size≤400) (F6:k.seen<18446744073709551615) (hat:k.at_≤1) (hf:k.from_≤4096) (hp:d.pend+20<1000000) :
 ς 127 #[.pointer (some ⟨b,0,none⟩),.string s] w fun e w'=>e=ώ (ι (dG d k s.data.toList).2.2)∧Nv w w' p b (dG d k s.data.toList).1 (dG d k s.data.toList).2.1 F:=by
 have hc:=hK.s6;have iT:=hK.frozen 6;have Ao:=hD.not_mem hK dC dC;have aoZ:((k.seen:Int) == 18446744073709551615)=false:=ru
 have hs':¬(400:Int)<(s.size:Int):=oM;have hsub:IntKind.i64.wrap (1 - (k.at_:Int))=((1 - k.at_:Nat):Int):=qx
 have ao8:(1 - (k.at_:Int))=((1 - k.at_:Nat):Int):=oM;have BK:Hid (∀W,ς 173 #[.string s,ω ((k.seen:Int)+1)] W fun e w'=>∃v,e=ώ v∧Own w' 277 4 v (aM s.size) (pQ (aU s.data.toList (k.seen+1)))∧Below W.heap.size W w'∧(∀q,v.ownBlock=some q→W.heap.size≤q)):=by
  intro W;have h:=acn s (k.seen+1) W oM;rw[show ((k.seen+1:Nat):Int)=(k.seen:Int)+1 from by omega] at h;exact h
 have rF:η (w.setCell ⟨b,6,none⟩ (.bool true)) b 209 ({ k with broken:=true }.cells p):=by
  have h:=hK.bE 6 (.bool true);simpa [Kp.cells] using h
 have Ap:bG (w.setCell ⟨b,6,none⟩ (.bool true)) p d F:=hD.dr fun q hq=>pJ w _ _ q (fun e=>Ao (by have e':q=b:=e;rw[← e'];exact hq))
 have kY:ζ (fun q=>q=b∨q ∈ F) w (w.setCell ⟨b,6,none⟩ (.bool true)):=(ζ.refl _ w).setCell (p:=⟨b,6,none⟩) (.inl (.inl rfl)) _;have hcb:=rF.s6;have hsz:(w.setCell ⟨b,6,none⟩ (.bool true)).heap.size=w.heap.size:=gZ
 have HB:=cD rF Ap kY hsz Ao;have hlt:=hK.lt;rw[hb] at hc;have HP:=cD hb hs F6 hp hlt;clear hD hK Ao rF Ap kY hsz hb hp hlt;go_enter func127,ntmps127
 go_wp2_with (go_at_call 173;refine(BK.out _).mono ?_;rintro e w1 ⟨v1,rfl,gE,eO,iM⟩;obtain⟨g1,BN,rfl,hx1,hx2⟩:=gE.head zJ);have kJ:s.data.toList.length=s.size:=gZ
 have Ch:(aU s.data.toList (k.seen+1)).length=aM s.size:=by rw[od,kJ]
 have ad6:Bg w w1 p b d { k with broken:=true } F F (.slice (some ⟨g1,0,none⟩) (aM s.size) BN) (aU s.data.toList (k.seen+1)):=by
  obtain⟨rF,Ap,kY,hsz,Ao⟩:=HB.out;refine⟨Ap.below eO,fun q hq=>.inl hq,rF.dr (eO.block _ rF.lt),kY.then (ζ.pM eO (fun _=>False)) φ,?_⟩;rw[Ch];exact gE
 have HPt:=δ ad6;have hA:aM s.size≤9:=zJ
 clear gE eO iM ad6 hc hcb iT;go_loopw [51] (fun i wr=>∃(j:Nat) (F':List Nat),j≤aM s.size∧i=ι j∧(ig d (k.from_+(1 - k.at_)*10) (aU s.data.toList (k.seen+1)) j).2=0∧Bg w wr p b (ig d (k.from_+(1 - k.at_)*10) (aU s.data.toList (k.seen+1)) j).1 { k with broken:=true } F F' (.slice (some ⟨g1,0,none⟩) (aM s.size) BN) (aU s.data.toList (k.seen+1))) (fun i _=>aM s.size - (intOf i).toNat)
 case atStart=>exact⟨0,F,oM,rfl,rfl,HPt.out⟩
 case round =>
  obtain⟨j,F',hj,rfl,he,hL⟩:=hrel;by_cases hlt:j<aM s.size
  ·have Ex:j<(aU s.data.toList (k.seen+1)).length:=oM
   obtain⟨c1,c2,c3,c4⟩:=Db s.data.toList (k.seen+1) j Ex;have rC:=δ (aj9 (aU s.data.toList (k.seen+1))[j] (hg:=by rw[c1];have:=HP.out.2.2.1;omega) (ht:=c4) (hn:=by rw[c2];omega) (ha:=by rw[c3,kJ];omega));have wB:=hL.list;rw[Ch] at wB;have jQ:∀i,i<4→wr.cell? ⟨g1,j*4+i,none⟩=(Pt.cells (aU s.data.toList (k.seen+1))[j])[i]? := by
    intro i hi;rw[wB.cellAt (j*4+i) oM,Rk _ j Ex i hi]
   have tN:=jQ 0 oM;have l7:=jQ 1 oM;have nL:=jQ 2 oM;have rJ:=jQ 3 oM;simp only[sU,Pt.cells,oV,qm] at tN l7 nL rJ;have wF:=YM d (k.from_+(1 - k.at_)*10) (aU s.data.toList (k.seen+1)) HB.out.2.1.wf.len j;have hst:ig d (k.from_+(1 - k.at_)*10) (aU s.data.toList (k.seen+1)) (j+1)=(ig d (k.from_+(1 - k.at_)*10) (aU s.data.toList (k.seen+1)) j).1.write ((k.from_+(1 - k.at_)*10+j:Nat):Int) (aU s.data.toList (k.seen+1))[j].sec:=by
    rw[ig,ν (by rw[he];simp),bN,bu Ex]
    rfl
   have HW:=aF wF hst he hL;have hto:(1 - k.at_:Nat)≤1:=oM;clear jQ wB wF hst he hL c1 c2 c3 c4;generalize (aU s.data.toList (k.seen+1))[j]=pt at *;generalize ad7:(1 - k.at_:Nat)=uR at *;have HTO:=δ ad7;clear ad7;have hs1:IntKind.i64.wrap ((uR:Int)*10)=(uR:Int)*10:=cZ _ oM;have cn:IntKind.i64.wrap ((k.from_:Int)+(uR:Int)*10)=(k.from_:Int)+(uR:Int)*10:=cZ _ oM;have fF:IntKind.i64.wrap ((k.from_:Int)+(uR:Int)*10+(j:Int))=(k.from_:Int)+(uR:Int)*10+(j:Int):=cZ _ oM;go_wp2_with (first
    |(refine eN 277 wr.heap.size #[ω pt.gen,ι pt.number,ι pt.all,.string (str pt.text)] (η.new wr 277 #[ω 0,ι 0,ι 0,.string ⟨#[]⟩]) (Nh pt) ?_
      intro w4 aJ au hs4;have hb4:Below wr.heap.size wr w4:=⟨au.os,au.tape,au.output,by simp at hs4;omega,fun q hq=>(au.block q iy oM).trans (rS wr _ q hq)⟩;have tU:=aq (HW.out.2.2.2.below hb4) aJ hb4;have tM:=aJ.iE;have yL:=tU.out.1.kept.s6;clear aJ au hs4 hb4 tN l7 nL rJ))
   have Vw:=HP.out.2.2.2.1;have Ey:=δ (show ((k.from_:Int)+(uR:Int)*10+(j:Int))=((k.from_+uR*10+j:Nat):Int) by omega);go_region_held3 (fun w'=>w'.cell? ⟨b,0,none⟩=some (.pointer (some ⟨p,0,none⟩))∧w'.cell? ⟨b,1,none⟩=some (ι (k.from_:Int))∧w'.cell? ⟨wr.heap.size,0,none⟩=some (ω pt.gen)∧w'.cell? ⟨wr.heap.size,1,none⟩=some (ι pt.number)∧w'.cell? ⟨wr.heap.size,2,none⟩=some (ι pt.all)∧w'.cell? ⟨wr.heap.size,3,none⟩=some (.string (str pt.text)))
    (first| go_keep |(refine⟨?_,?_,?_,?_,?_,?_⟩<;>simp[*]))
    (first
      |(go_at_call 186
        refine(rC.out _).mono ?_;rintro e w5 ⟨rfl,mU⟩;have zO:Below w4.heap.size w4 w5:=xF mU;have wG:=aq (tU.out.1.below zO) (tU.out.2.1.dr (zO.block _ tU.out.2.1.lt)) (tU.out.2.2.trans (zO.mono tU.out.2.2.size));have Et:=wG.out.1.kept.s6;have Al:=wG.out.2.1.iE;clear mU zO)
      |(go_at_call 115
        rw[Ey.out];refine(St wG.out.1.bH _ _ (oN HW.out.1.2.2)).mono ?_;rintro e w6 ⟨rfl,F2,Aq⟩;have tT:=τ (wG.out.1.wrote Aq) Aq;have VR:=tT.out.1.kept.s6;have VS:=(wG.out.2.1.ε Aq.ε (fun e=>by have h1:=HW.out.2.2.2.bH.lt _ e;omega)).iE;clear Aq))
   all_goals
    have DN:(ig d (k.from_+uR*10) (aU s.data.toList (k.seen+1)) j).1.write ((k.from_+uR*10+j:Nat):Int) (str (gW pt.body))=ig d (k.from_+uR*10) (aU s.data.toList (k.seen+1)) (j+1):=HW.out.2.1.symm;have yd:=DN;rw[← Ey.out] at yd;rw[DN] at tT;rw[yd];generalize Lj:ig d (k.from_+uR*10) (aU s.data.toList (k.seen+1)) (j+1)=r at tT ⊢;have iB:=δ Lj;clear DN yd Lj VR VS Et Al tM yL;by_cases hr:r.2=0
    ·exact ad5
    ·have hr':(r.2 != 0)=true:=by rw[kq];exact hr
     have HR:=δ hr;clear hr;have hk:dG d k s.data.toList=(r.1,{ k with broken:=true },r.2):=by
      have Lk:ig d (k.from_+(1 - k.at_)*10) (aU s.data.toList (k.seen+1)) (aM s.data.toList.length)=r:=by
       rw[kJ,HTO.out,ag9 (j:=j+1) (by rw[iB.out];exact HR.out) oM,iB.out]
      unfold dG;rw[HP.out.1,ν sM,ν oM,ν (oN HP.out.2.2.1),Lk,π HR.out]
     have HK:=δ hk;clear hk;go_wp2
     go_ret
     rw[HK.out];exact⟨rfl,⟨F2,tT.out.1.bH,tT.out.1.sub⟩,tT.out.1.kept,tT.out.1.ε⟩
  ·obtain rfl:j=aM s.size:=oM
   have wH:=SR hL.bH;generalize l7:ig d (k.from_+(1 - k.at_)*10) (aU s.data.toList (k.seen+1)) (aM s.size)=r at *;have hput:dG d k s.data.toList=if r.1.sync.2≠0 then (r.1.sync.1,{ k with broken:=true },r.1.sync.2) else (r.1.sync.1,{ k with seen:=k.seen+1,text:=s.data.toList,gen:=k.seen+1,at_:=1 - k.at_,broken:=false },0):=by
    unfold dG;rw[HP.out.1,ν sM,ν oM,ν (oN HP.out.2.2.1),kJ,l7,ν (by rw[he];simp)]
   have HL:=τ hL he;have Ll:=hL.kept.s6;clear hL he l7 Ch kJ HPt;by_cases hr:r.1.sync.2=0
   ·rw[ν (by rw[hr];simp)] at hput
    rw[hr] at wH;have Cq:=δ wH;have Cr:=δ hput;clear wH hput hr;go_wp2_with (go_at_call 117;refine Cq.out.mono ?_;rintro e w7 ⟨rfl,F3,hS⟩;have gU:=δ (HL.out.1.wrote hS);have G6:=gU.out.kept.s6;have Ab:=gU.out.kept.frozen 2;have vY:=gU.out.kept.frozen 3;have GH:=gU.out.kept.frozen 4;have PX:=gU.out.kept.frozen 5;have PY:=gU.out.kept.frozen 6;clear hS);go_ret
    rw[Cr.out];have hnb:=gU.out.bH.not_mem gU.out.kept dC dC;have h:=((((gU.out.kept.bE 5 (ω ((k.seen:Int)+1))).bE 2 (.string s)).bE 3 (ω ((k.seen:Int)+1))).bE 4 (ι ((1 - k.at_:Nat):Int))).bE 6 (.bool false);refine⟨rfl,⟨F3,gU.out.bH.dr fun q hq=>?_,gU.out.sub⟩,?_,((((gU.out.ε.setCell (p:=⟨b,5,none⟩) (.inl (.inl rfl)) _).setCell (p:=⟨b,2,none⟩) (.inl (.inl rfl)) _).setCell (p:=⟨b,3,none⟩) (.inl (.inl rfl)) _).setCell (p:=⟨b,4,none⟩) (.inl (.inl rfl)) _).setCell (p:=⟨b,6,none⟩) (.inl (.inl rfl)) _⟩
    ·have hne:q≠b:=fun e=>hnb (e ▸ hq)
     rw[pJ _ _ _ q hne,pJ _ _ _ q hne,pJ _ _ _ q hne,pJ _ _ _ q hne,pJ _ _ _ q hne]
    ·have he:(str s.data.toList)=s:=FJ s
     simp only[Kp.cells,jW,xz,xA] at h;simp only[Kp.cells,he];exact h
   ·rw[π hr] at hput
    have hr':(r.1.sync.2 != 0)=true:=by rw[kq];exact hr
    have Cq:=δ wH;have Cr:=δ hput;clear wH hput hr;go_wp2_with (go_at_call 117;refine Cq.out.mono ?_;rintro e w7 ⟨rfl,F3,hS⟩;have gU:=δ (HL.out.1.wrote hS);clear hS);go_ret
    rw[Cr.out];exact⟨rfl,⟨F3,gU.out.bH,gU.out.sub⟩,gU.out.kept,gU.out.ε⟩
structure JG (w:World) (p b:Nat) (g:Lg):Prop where
 ex:∃v,η w b 199 (g.cells p v)∧Own w 9 1 v g.l.length (strs g.l)
section
variable {w w':World} {p b:Nat} {g:Lg}
end
theorem Fs (A:Option Addr) (n c:Nat) (w:World) (T:TypeId) (t:TypeId) (hT:prog.underlying T=some (.slice t)):(binOp .eql T (.slice A n c) (.slice none 0 0)).run prog w=.ok (.bool A.isNone) w :=
 Lib.run_eql_slice_nil w T t A n c 0 0 hT
theorem Nx {w:World} {p b:Nat} {g:Lg} (h:JG w p b g) :
 ς 111 #[.pointer (some ⟨b,0,none⟩)] w fun e w'=>e=ώ (.bool false)∧w=w':=by
 obtain⟨v,h1,-⟩:=h.ex;have hc:=h1.oY;clear h h1;go_enter func111,ntmps111
 go_wp2
 go_ret
 exact⟨rfl,rfl⟩
theorem abJ {w:World} {p b:Nat} {g:Lg} (h:JG w p b g) (hu:g.used≤g.dS) (hs:g.dS≤5000) :
 ς 113 #[.pointer (some ⟨b,0,none⟩)] w fun e w'=>e=ώ (ι ((g.dS - g.used:Nat):Int))∧w.drew=w':=by
 have HN:=δ (Nx h);obtain⟨v,h1,-⟩:=h.ex;have hc:=h1.oY;have hsub:(g.dS:Int) - (g.used:Int)=((g.dS - g.used:Nat):Int):=oM;have HS:=δ hsub;have hw:IntKind.i64.wrap ((g.dS:Int) - (g.used:Int))=(g.dS:Int) - (g.used:Int):=cZ _ oM;clear h h1 hsub;go_enter func113,ntmps113
 go_wp2_with (go_at_call 111;refine HN.out.mono ?_;rintro e w' ⟨rfl,rfl⟩);go_region_held3 (fun w'=>w'.cell? ⟨b,2,none⟩=some (ι (g.dS:Int))∧w'.cell? ⟨b,5,none⟩=some (ι (g.used:Int))) (go_keep) (first| fail)
 all_goals go_wp2_with fail
 all_goals
  go_ret
  exact⟨by rw[← HS.out];rfl,rfl⟩
theorem alP {w:World} {v:Value} {l:List ByteArray} (h:Own w 9 1 v l.length (strs l)) (hl:l.length≤5000) :
 ς 184 #[v] w fun e w'=>∃v',e=ώ v'∧Own w' 9 1 v' l.length (strs l)∧υ w w'∧(∀q,v'.ownBlock=some q→w.heap.size≤q):=by
 obtain⟨i0,bx,bU,bK,aY⟩:=jD Jm;have H:=δ h;obtain⟨A,cap,e,h1,h2⟩:=h.shape;subst e;clear h;cases A with
 | none =>
   have hnil:=fun W=>Fs none l.length cap W 147 _ underlying147
   simp only[aga] at hnil;go_enter func184,ntmps184
   go_wp2_with fail
   go_ret
   refine⟨_,rfl,?_,ζ.refl _ _,by simp[Value.ownBlock]⟩;rcases H.out.2 with ⟨e,h0⟩ | ⟨g,c,cur,fr,e,_⟩
   ·have hl0:l=[]:=AU h0
    subst hl0;exact Own.nil _ _ _
   ·simp at e
 | some a =>
   have hnil:=fun W=>Fs (some a) l.length cap W 147 _ underlying147
   simp only[agb] at hnil;go_enter func184,ntmps184
   have Cs:Own (w.alloc (.cells #[] 9)) 9 1 (.slice (some ⟨w.heap.size,0,none⟩) 0 0) 0 []:=⟨sM,.inr ⟨w.heap.size,0,#[],(0,0),rfl,AP w _,.inl rfl,bO _,sM,rfl,rfl⟩⟩;have Lm:=δ Cs;clear Cs
   go_wp2_with (at_builtin
                refine kr rfl _ _ _ _ rfl 9 i0 _ 1 16 underlying147 bx bU bK aY rfl _ 0 _ rfl Lm.out _ l.length (strs l) rfl (Src.ku underlying147 (H.out.alloc _)) (aj1 l) ke oM ?_;intro v' w2 bL σ hl2 cn;have H2:=aq bL σ hl2;clear bL σ hl2 cn)
   go_ret
   obtain⟨bL,σ,hl2⟩:=H2.out;refine⟨v',rfl,by simpa using bL,((ζ.refl _ w).alloc _).then σ (fun b e=>.inr (by have e2:=dM (show some w.heap.size=some b from e);omega)),fun q hq=>?_⟩;rcases hl2 with e | e
   ·rw[e] at hq
    have:=dM (show some w.heap.size=some q from hq);omega
   ·rw[e] at hq
    have:=dM hq;simp at this
    omega
theorem aiQ {w:World} {p b:Nat} {g:Lg} (h:JG w p b g) (hl:g.l.length≤5000) :
 ς 125 #[.pointer (some ⟨b,0,none⟩)] w fun e w'=>∃v',e=ώ v'∧Own w' 9 1 v' g.l.length (strs g.l)∧υ w w'∧(∀q,v'.ownBlock=some q→w.heap.size≤q):=by
 have HN:=δ (Nx h);obtain⟨v,h1,h2⟩:=h.ex;have hc:=h1.oY;have HC:=δ (alP h2 hl);clear h h1 h2;go_enter func125,ntmps125
 go_wp2_with (first
  |(go_at_call 111;refine HN.out.mono ?_;rintro e w' ⟨rfl,rfl⟩)
  |(go_at_call 184;refine HC.out.mono ?_;rintro e w' ⟨v',rfl,h3,h4,h5⟩;have H3:=aq h3 h4 h5;clear h3 h4 h5))
 go_ret
 exact⟨_,rfl,H3.out.1,H3.out.2.1,H3.out.2.2⟩
def Lp.sec (p:Lp):ByteArray:=str (gW p.body)
def bV (d:Dk) (a:Nat) (l:List ByteArray):Nat→Dk × Int
 | 0=>(d,0)
 | j+1=>if (bV d a l j).2≠0 then bV d a l j else (bV d a l j).1.write ((a+j:Nat):Int) (l.getD j ByteArray.empty)
theorem YN {d:Dk} {a:Nat} {l:List ByteArray} {j m:Nat} (h:(bV d a l j).2≠0) (hm:j≤m):bV d a l m=bV d a l j:=by
 induction m with
 | zero => obtain rfl:j=0:=oM
           rfl
 | succ m ih =>
   by_cases e:j=m+1
   ·rw[e]
   ·rw[bV,ih oM,π h]
theorem ug (d:Dk) (a:Nat) (l:List ByteArray) (hl:d.waits.length=d.ψ.length) (j:Nat) :
 (bV d a l j).1.ψ=d.ψ∧(bV d a l j).1.waits.length=d.waits.length∧(bV d a l j).1.pend≤d.pend+j:=by
 induction j with
 | zero=>exact⟨rfl,rfl,by simp[bV]⟩
 | succ j ih =>
   rw[bV];split
   ·exact⟨ih.1,ih.2.1,oM⟩
   ·refine⟨(YK _ _ _).trans ih.1,(YL _ _ _).trans ih.2.1,?_⟩
    have h:=Y8 (bV d a l j).1 ((a+j:Nat):Int) (l.getD j ByteArray.empty) (by rw[ih.2.1,ih.1,hl]);omega
def gM (g:Lg) (text:List UInt8):List ByteArray:=(bZ text g.θ (g.af+1) g.last).map Lp.sec
theorem MT (g:Lg) (text:List UInt8):(gM g text).length=partsOf text.length:=by rw[gM,bz,qV]
def qZ (d:Dk) (g:Lg) (text:List UInt8):Dk × Int:=bV d (g.from_+g.used) (gM g text) (partsOf text.length)
def jK (d:Dk) (g:Lg) (s:ByteArray):Dk × Lg × Int :=
 if g.broken then (d,g,11) else if 1024<s.size then (d,g,3) else if g.dS - g.used<partsOf s.size∨g.af=18446744073709551615 then (d,g,6) else
 if (qZ d g s.data.toList).2≠0 then ((qZ d g s.data.toList).1,{ g with broken:=true },(qZ d g s.data.toList).2) else
 if (qZ d g s.data.toList).1.sync.2≠0 then ((qZ d g s.data.toList).1.sync.1,{ g with broken:=true },(qZ d g s.data.toList).1.sync.2) else
 ((qZ d g s.data.toList).1.sync.1,{ g with af:=g.af+1,last:=g.af+1,broken:=false,l:=g.l++[s],used:=g.used+partsOf s.size },0)
structure Jq (w w':World) (p b:Nat) (d:Dk) (g:Lg) (F:List Nat) (v:Value):Prop where
 ex:∃F' v',bG w' p d F'∧(∀q ∈ F',q ∈ F∨w.heap.size≤q)∧η w' b 199 (g.cells p v')∧Own w' 9 1 v' g.l.length (strs g.l) ∧
  (∀q,v'.ownBlock=some q→v.ownBlock=some q∨w.heap.size≤q)∧(∀q,v'.ownBlock=some q→q ∉ F')
 ε:ζ (fun q=>q=b∨q ∈ F∨v.ownBlock=some q) w w'
structure xN (w wr:World) (p b:Nat) (d:Dk) (g:Lg) (F F':List Nat) (v pv:Value) (l:List Lp):Prop where
 bH:bG wr p d F'
 sub:∀q ∈ F',q ∈ F∨w.heap.size≤q
 log:η wr b 199 (g.cells p v)
 own:Own wr 9 1 v g.l.length (strs g.l)
 old:∀q,v.ownBlock=some q→q<w.heap.size
 sep:∀q,v.ownBlock=some q→q ∉ F'
 ε:ζ (fun q=>q=b∨q ∈ F) w wr
 list:Own wr 204 6 pv l.length (ow l)
theorem xN.below {w w1 w2:World} {p b:Nat} {d:Dk} {g:Lg} {F F':List Nat} {v pv:Value} {l:List Lp} (h:xN w w1 p b d g F F' v pv l) (hb:Below w1.heap.size w1 w2):xN w w2 p b d g F F' v pv l :=
 ⟨h.bH.below hb,h.sub,h.log.dr (hb.block _ h.log.lt),h.own.dr fun q hq=>hb.block q (h.own.lt hq),h.old,h.sep,h.ε.then (ζ.pM hb (fun _=>False)) φ,h.list.dr fun q hq=>hb.block q (h.list.lt hq)⟩
theorem xN.wrote {w w1 w2:World} {p b:Nat} {d d2:Dk} {g:Lg} {F F' F2:List Nat} {v pv:Value} {l:List Lp} (h:xN w w1 p b d g F F' v pv l) (hL:Left w1 w2 p d2 F' F2):xN w w2 p b d2 g F F2 v pv l:=by
 have hs:=h.ε.size;refine⟨hL.bH,fun q hq=>?_,h.log.ε hL.ε (h.bH.not_mem h.log dC dC),h.own.ε hL.ε h.sep,h.old,fun q hq qD=>?_,h.ε.then hL.ε (fun q e=>(h.sub q e).imp .inr id),h.list.ε hL.ε fun q hq=>h.bH.aa5 h.list dC dC q hq⟩
 ·rcases hL.sub q hq with e | e
  ·exact h.sub q e
  ·exact .inr oM
 ·rcases hL.sub q qD with e | e
  ·exact h.sep q hq e
  ·have:=h.old q hq
   omega
theorem xN.left {w wr:World} {p b:Nat} {d:Dk} {g:Lg} {F F':List Nat} {v pv:Value} {l:List Lp} (h:xN w wr p b d g F F' v pv l):Jq w wr p b d g F v :=
 ⟨⟨F',v,h.bH,h.sub,h.log,h.own,fun _ hq=>.inl hq,h.sep⟩,h.ε.mono (fun _ e=>.inl (e.imp id .inl))⟩
theorem akk {w:World} {p b:Nat} {d:Dk} {F:List Nat} {g:Lg} {v:Value} (hD:bG w p d F) (hB:η w b 199 (g.cells p v)) (hO:Own w 9 1 v g.l.length (strs g.l)) (hsep:∀q,v.ownBlock=some q→q ∉ F) (s:ByteArray)
 (hb:g.broken=false) (hs:s.size≤1024) (hr:partsOf s.size≤g.dS - g.used) (xW:g.af<18446744073709551615) (hf:g.from_≤5000) (yN:g.dS≤5000) (hu:g.used≤g.dS) (fX:g.l.length≤5000) (eV:g.θ<18446744073709551616) (hla:g.last<18446744073709551616) (hp:d.pend+40<1000000) :
 ς 58 #[.pointer (some ⟨b,0,none⟩),.string s] w fun e w'=>e=ώ (ι (jK d g s).2.2)∧Jq w w' p b (jK d g s).1 (jK d g s).2.1 F v:=by
 obtain⟨i0,bx,bU,bK,aY⟩:=jD Jm;have VT:JG w p b g:=⟨v,hB,hO⟩;have Ct:=δ (Nx VT);have VU:=δ (abJ VT hu yN);have Ao:=hD.not_mem hB dC dC;have yO:v.ownBlock≠some b:=hO.f_ hB dC;have hc:=hB.oY;have kX:=hB.frozen 8;have hA:partsOf s.size≤33:=J8
 have Ea:1≤partsOf s.size:=J8
 have hs':¬(1024:Int)<(s.size:Int):=oM;have hr':¬((g.dS - g.used:Nat):Int)<((partsOf s.size:Nat):Int):=oM;have ao0:((g.af:Int) == 18446744073709551615)=false:=ru
 have BK:Hid (∀W,ς 114 #[.string s,ω (g.θ:Int),ω ((g.af:Int)+1),ω (g.last:Int)] W fun e w'=>∃v,e=ώ v∧Own w' 204 6 v (partsOf s.size) (ow (bZ s.data.toList g.θ (g.af+1) g.last))∧Below W.heap.size W w'∧(∀q,v.ownBlock=some q→W.heap.size≤q)):=by
  intro W;have h:=abI s g.θ (g.af+1) g.last W oM;rw[show ((g.af+1:Nat):Int)=(g.af:Int)+1 from by omega] at h;exact h
 have lH:η ((w.setCell ⟨b,8,none⟩ (.bool true)).drew) b 199 ({ g with broken:=true }.cells p v):=by
  have h:=(hB.bE 8 (.bool true)).drew;simpa [Lg.cells] using h
 have Ap:bG ((w.setCell ⟨b,8,none⟩ (.bool true)).drew) p d F:=(hD.dr (w':=w.setCell ⟨b,8,none⟩ (.bool true)) fun q hq=>pJ w _ _ q (fun e=>Ao (by have e':q=b:=e;rw[← e'];exact hq))).drew;have kY:ζ (fun q=>q=b∨q ∈ F) w ((w.setCell ⟨b,8,none⟩ (.bool true)).drew):=((ζ.refl _ w).setCell (p:=⟨b,8,none⟩) (.inl (.inl rfl)) _).drew;have yP:Own ((w.setCell ⟨b,8,none⟩ (.bool true)).drew) 9 1 v g.l.length (strs g.l):=(hO.b9 (p:=⟨b,8,none⟩) yO _).drew;have HB:=p7 lH Ap kY yP Ao yO hsep;have HV:=δ (fun q (hq:v.ownBlock=some q)=>hO.lt hq);rw[hb] at hc;have HP:=B0 hb hs hr xW hp hB.lt eV hla;clear hD hB hO hsep VT Ao yO lH Ap kY yP hb hp;go_enter func58,ntmps58
 go_wp2_with fail
 refine Ct.out.mono ?_;rintro e w' ⟨rfl,rfl⟩;go_wp2_with fail
 refine(Jp s _ oM).mono ?_;rintro e w' ⟨rfl,rfl⟩;go_wp2_with fail
 refine VU.out.mono ?_;rintro e w' ⟨rfl,rfl⟩;go_wp2_with fail
 have hcb:=HB.out.1.oY;have hsw:IntKind.u64.wrap ((g.af:Int)+1)=(g.af:Int)+1:=by
  simp only[IntKind.wrap,IntKind.bits,IntKind.signed];simp
  omega
 have G1 := δ hc;clear hc kX;generalize (w.setCell ⟨b,8,none⟩ (.bool true)).drew=W at *;go_region_held3 (fun w'=>w'.cell? ⟨b,3,none⟩=some (ω (g.θ:Int))∧w'.cell? ⟨b,6,none⟩=some (ω (g.last:Int))∧w'.cell? ⟨b,7,none⟩=some (ω (g.af:Int))) (first| go_keep)
  (first|(go_at_call 114
          refine(BK.out _).mono ?_;rintro e w1 ⟨v1,rfl,gE,eO,iM⟩;obtain⟨g1,BN,rfl,hx1,hx2⟩:=gE.head oM;have T6:Below W.heap.size W w1:=xF eO;have hk1:=(HB.out.1.dr (T6.block _ HB.out.1.lt)).oY;have H1:=τ gE T6;clear gE eO iM T6))
 all_goals
  have kJ:s.data.toList.length=s.size:=gZ
  have Ch:(bZ s.data.toList g.θ (g.af+1) g.last).length=partsOf s.size:=by rw[qV,kJ]
  have G7:xN w w1 p b d { g with broken:=true } F F v (.slice (some ⟨g1,0,none⟩) (partsOf s.size) BN) (bZ s.data.toList g.θ (g.af+1) g.last):=by
   obtain⟨lH,Ap,kY,yP,Ao,yO,hsep⟩:=HB.out;obtain⟨gE,eO⟩:=H1.out;refine⟨Ap.below eO,fun q hq=>.inl hq,lH.dr (eO.block _ lH.lt),yP.dr fun q hq=>eO.block q (yP.lt hq),HV.out,hsep,kY.then (ζ.pM eO (fun _=>False)) φ,?_⟩;rw[Ch];exact gE
  have HAd:=δ G7;clear G7 hcb hk1;go_wp2_with fail
  go_loopw [53] (fun i wr=>∃(j:Nat) (F':List Nat),j≤partsOf s.size∧i=ι j∧(bV d (g.from_+g.used) (gM g s.data.toList) j).2=0∧xN w wr p b (bV d (g.from_+g.used) (gM g s.data.toList) j).1 { g with broken:=true } F F' v (.slice (some ⟨g1,0,none⟩) (partsOf s.size) BN) (bZ s.data.toList g.θ (g.af+1) g.last)) (fun i _=>partsOf s.size - (intOf i).toNat)
  case atStart=>exact⟨0,F,oM,rfl,rfl,HAd.out⟩
  case round =>
   obtain⟨j,F',hj,rfl,he,hL⟩:=hrel;by_cases hlt:j<partsOf s.size
   ·have Ex:j<(bZ s.data.toList g.θ (g.af+1) g.last).length:=oM
    obtain⟨c0,c1,c2,c3,c4,c5⟩:=xG s.data.toList g.θ (g.af+1) g.last j Ex;have rC:=δ (fun W=>aki (bZ s.data.toList g.θ (g.af+1) g.last)[j] W (by rw[c0,c1,c2];have:=HP.out.2.2.2.2.2.2;omega) c5 (by rw[c3];omega) (by rw[c4,kJ];omega));have wB:=hL.list;rw[Ch] at wB;have jQ:∀i,i<6→wr.cell? ⟨g1,j*6+i,none⟩=(Lp.cells (bZ s.data.toList g.θ (g.af+1) g.last)[j])[i]? := by
     intro i hi;rw[wB.cellAt (j*6+i) oM,Y7 _ j Ex i hi]
    have tN:=jQ 0 oM;have l7:=jQ 1 oM;have nL:=jQ 2 oM;have rJ:=jQ 3 oM;have fL:=jQ 4 oM;have wI:=jQ 5 oM;simp only[sU,Lp.cells,oV,qm] at tN l7 nL rJ fL wI;have wF:=ug d (g.from_+g.used) (gM g s.data.toList) HB.out.2.1.wf.len j;have hst:bV d (g.from_+g.used) (gM g s.data.toList) (j+1)=(bV d (g.from_+g.used) (gM g s.data.toList) j).1.write ((g.from_+g.used+j:Nat):Int) (bZ s.data.toList g.θ (g.af+1) g.last)[j].sec:=by
     rw[bV,ν (by rw[he];simp),bN,gM,lf,bu Ex]
     rfl
    have HW:=aF wF hst he hL;clear jQ wB wF hst he hL c0 c1 c2 c3 c4 c5;generalize (bZ s.data.toList g.θ (g.af+1) g.last)[j]=pt at *;have hs1:IntKind.i64.wrap ((g.from_:Int)+(g.used:Int))=(g.from_:Int)+(g.used:Int):=cZ _ oM;have cn:IntKind.i64.wrap ((g.from_:Int)+(g.used:Int)+(j:Int))=(g.from_:Int)+(g.used:Int)+(j:Int):=cZ _ oM;go_wp2_with (first
     |(refine eN 204 wr.heap.size #[ω pt.θ,ω pt.af,ω pt.ahead,ι pt.number,ι pt.all,.string (str pt.text)] (η.new wr 204 #[ω 0,ω 0,ω 0,ι 0,ι 0,.string ⟨#[]⟩]) jN ?_
       intro w4 aJ au hs4;have hb4:Below wr.heap.size wr w4:=⟨au.os,au.tape,au.output,by simp at hs4;omega,fun q hq=>(au.block q iy oM).trans (rS wr _ q hq)⟩;have tU:=aq (HW.out.2.2.2.below hb4) aJ hb4;have tM:=aJ.xL;have yL:=tU.out.1.log.oY;clear aJ au hs4 hb4 tN l7 nL rJ fL wI))
    have Ey:=δ (show ((g.from_:Int)+(g.used:Int)+(j:Int))=((g.from_+g.used+j:Nat):Int) by omega);go_region_held3 (fun w'=>w'.cell? ⟨b,0,none⟩=some (.pointer (some ⟨p,0,none⟩))∧w'.cell? ⟨b,1,none⟩=some (ι (g.from_:Int))∧w'.cell? ⟨b,5,none⟩=some (ι (g.used:Int))∧w'.cell? ⟨wr.heap.size,0,none⟩=some (ω pt.θ)∧w'.cell? ⟨wr.heap.size,1,none⟩=some (ω pt.af)∧w'.cell? ⟨wr.heap.size,2,none⟩=some (ω pt.ahead)∧w'.cell? ⟨wr.heap.size,3,none⟩=some (ι pt.number)∧w'.cell? ⟨wr.heap.size,4,none⟩=some (ι pt.all)∧w'.cell? ⟨wr.heap.size,5,none⟩=some (.string (str pt.text)))
     (first| go_keep |(refine⟨?_,?_,?_,?_,?_,?_,?_,?_,?_⟩<;>simp[*]))
     (first
       |(go_at_call 116
         refine(rC.out _).mono ?_;rintro e w5 ⟨rfl,mU⟩;have zO:Below w4.heap.size w4 w5:=xF mU;have wG:=aq (tU.out.1.below zO) (tU.out.2.1.dr (zO.block _ tU.out.2.1.lt)) (tU.out.2.2.trans (zO.mono tU.out.2.2.size));have Et:=wG.out.1.log.oY;have Al:=wG.out.2.1.xL;clear mU zO)
       |(go_at_call 115
         rw[Ey.out];refine(St wG.out.1.bH _ _ (oO HW.out.1.2.2 HP.out.2.2.2.2.1)).mono ?_;rintro e w6 ⟨rfl,F2,Aq⟩;have tT:=τ (wG.out.1.wrote Aq) Aq;have VR:=tT.out.1.log.oY;have VS:=(wG.out.2.1.ε Aq.ε (fun e=>by have h1:=HW.out.2.2.2.bH.lt _ e;omega)).xL;clear Aq))
    all_goals
     have DN:(bV d (g.from_+g.used) (gM g s.data.toList) j).1.write ((g.from_+g.used+j:Nat):Int) (str (gW pt.body))=bV d (g.from_+g.used) (gM g s.data.toList) (j+1):=HW.out.2.1.symm;have yd:=DN;rw[← Ey.out] at yd;rw[DN] at tT;rw[yd];generalize Lj:bV d (g.from_+g.used) (gM g s.data.toList) (j+1)=r at tT ⊢;have iB:=δ Lj;clear DN yd Lj VR VS Et Al tM yL;by_cases hr:r.2=0
     ·exact ad5
     ·have hr':(r.2 != 0)=true:=by rw[kq];exact hr
      have HR:=δ hr;clear hr;have hk:jK d g s=(r.1,{ g with broken:=true },r.2):=by
       have Lk:qZ d g s.data.toList=r:=by
        rw[qZ,kJ,YN (j:=j+1) (by rw[iB.out];exact HR.out) oM,iB.out]
       unfold jK;rw[HP.out.1,ν sM,ν oM,ν (oN HP.out.2.2),Lk,π HR.out]
      have HK:=δ hk;clear hk;go_wp2
      go_ret
      rw[HK.out];exact⟨rfl,tT.out.1.left⟩
   ·obtain rfl:j=partsOf s.size:=oM
    have wH:=SR hL.bH;generalize l7:bV d (g.from_+g.used) (gM g s.data.toList) (partsOf s.size)=r at *;have hput:jK d g s=if r.1.sync.2≠0 then (r.1.sync.1,{ g with broken:=true },r.1.sync.2) else (r.1.sync.1,{ g with af:=g.af+1,last:=g.af+1,broken:=false,l:=g.l++[s],used:=g.used+partsOf s.size },0):=by
     have Lk:qZ d g s.data.toList=r:=by rw[qZ,kJ,l7]
     unfold jK;rw[HP.out.1,ν sM,ν oM,ν (oN HP.out.2.2),Lk,ν (by rw[he];simp)]
    have HL:=τ hL he;have Ll:=hL.log.oY;clear hL he l7 Ch kJ HAd;by_cases hr:r.1.sync.2=0
    ·rw[ν (by rw[hr];simp)] at hput
     rw[hr] at wH;have Cq:=δ wH;have Cr:=δ hput;clear wH hput hr;go_wp2_with (go_at_call 117;refine Cq.out.mono ?_;rintro e w7 ⟨rfl,F3,hS⟩;have gU:=δ (HL.out.1.wrote hS);have G6:=gU.out.log.oY;have PY:=gU.out.log.frozen 6;have hf7:=gU.out.log.frozen 7;have hf8:=gU.out.log.frozen 8;clear hS);have hnb:=gU.out.bH.not_mem gU.out.log dC dC;have yO:=gU.out.own.f_ gU.out.log dC;have jB:η (((w7.setCell ⟨b,7,none⟩ (ω ((g.af:Int)+1))).setCell ⟨b,6,none⟩ (ω ((g.af:Int)+1))).setCell ⟨b,8,none⟩ (.bool false)) b 199 ({ g with af:=g.af+1,last:=g.af+1,broken:=false }.cells p v):=by
      have h:=((gU.out.log.bE 7 (ω ((g.af:Int)+1))).bE 6 (ω ((g.af:Int)+1))).bE 8 (.bool false);simp only[Lg.cells,jW,xz,xA] at h;exact h
     have Ln:bG (((w7.setCell ⟨b,7,none⟩ (ω ((g.af:Int)+1))).setCell ⟨b,6,none⟩ (ω ((g.af:Int)+1))).setCell ⟨b,8,none⟩ (.bool false)) p r.1.sync.1 F3:=gU.out.bH.dr fun q hq=>by
      have hne:q≠b:=fun e=>hnb (e ▸ hq)
      rw[pJ _ _ _ q hne,pJ _ _ _ q hne,pJ _ _ _ q hne]
     have rL:Own (((w7.setCell ⟨b,7,none⟩ (ω ((g.af:Int)+1))).setCell ⟨b,6,none⟩ (ω ((g.af:Int)+1))).setCell ⟨b,8,none⟩ (.bool false)) 9 1 v g.l.length (strs g.l):=((gU.out.own.b9 (p:=⟨b,7,none⟩) yO _).b9 (p:=⟨b,6,none⟩) yO _).b9 (p:=⟨b,8,none⟩) yO _;have cT:ζ (fun q=>q=b∨q ∈ F) w (((w7.setCell ⟨b,7,none⟩ (ω ((g.af:Int)+1))).setCell ⟨b,6,none⟩ (ω ((g.af:Int)+1))).setCell ⟨b,8,none⟩ (.bool false)):=((gU.out.ε.setCell (p:=⟨b,7,none⟩) (.inl (.inl rfl)) _).setCell (p:=⟨b,6,none⟩) (.inl (.inl rfl)) _).setCell (p:=⟨b,8,none⟩) (.inl (.inl rfl)) _;have H8:=p7 jB Ln rL cT yO gU.out.sub gU.out.sep;clear hnb yO Ln rL cT G6 PY hf7 hf8 Ll;generalize (((w7.setCell ⟨b,7,none⟩ (ω ((g.af:Int)+1))).setCell ⟨b,6,none⟩ (ω ((g.af:Int)+1))).setCell ⟨b,8,none⟩ (.bool false))=W8 at *;have hsu:IntKind.i64.wrap ((g.used:Int)+((partsOf s.size:Nat):Int))=(g.used:Int)+((partsOf s.size:Nat):Int):=cZ _ oM;have hS:∀w',ζ (fun q=>v.ownBlock=some q) W8 w'→w'.cell? ⟨b,4,none⟩=some v∧w'.cell? ⟨b,5,none⟩=some (ι (g.used:Int)):=fun w' hu=>by
      have h:=H8.out.1.ε hu H8.out.2.2.2.2.1;exact⟨h.cell 4,h.cell 5⟩
     have fQ:=δ hS;clear hS jB;refine dW ?_;refine eo (S:=fun w'=>w'.cell? ⟨b,4,none⟩=some v∧w'.cell? ⟨b,5,none⟩=some (ι (g.used:Int))) (T:=fun i=>Nat.beq 18 i || Nat.beq i 21) kR ?_;have aE:=fQ.out _ (ζ.refl _ W8).drew;refine gm 0 (.pointer (some ⟨b,0,none⟩)) ?_;refine gm 1 (.pointer (some ⟨b,0,none⟩)) ?_;refine gm 2 (.pointer (some ⟨b,0,none⟩)) ?_;refine gm 3 (.pointer (some ⟨b,0,none⟩)) ?_;refine gm 4 (.pointer (some ⟨b,4,none⟩)) ?_;refine A_ (i:=5) (v:=v) rfl kR kR kR kR (fun _ _ _ h=>h) (uf rfl (Or.inl ⟨by rfl,?_⟩)) aS kR ?_
     ·intro w' hSw;go_split_ands;go_simp
     simp only[av];refine gm 6 (.string s) ?_;refine gm 9 (.pointer (some ⟨b,0,none⟩)) ?_;refine gm 10 (.pointer (some ⟨b,0,none⟩)) ?_;refine gm 11 (.pointer (some ⟨b,5,none⟩)) ?_;refine A_ (i:=12) (v:=ι (g.used:Int)) rfl kR kR kR kR (fun _ _ _ h=>h) (uf rfl (Or.inl ⟨by rfl,?_⟩)) aS kR ?_
     ·intro w' hSw;go_split_ands;go_simp
     simp only[av];refine gm 13 (.string s) ?_;refine bf 7 (fun K hK=>?_);go_simp
     refine hK.out _ _ ?_ ?_
     ·exact fQ.out _ ((ζ.refl _ W8).alloc _).drew
     refine bf 8 (fun K hK=>?_);refine qn ak _ _ _ _ ak 9 i0 _ 1 16 underlying147 bx bU bK aY rfl v _ _ ak ((H8.out.2.2.1.alloc _).drew) _ 1 [.string s] ak (Src.Q8 underlying147 (.string s)) jN ke oM ?_;intro v' w2 qt σ xU cn;obtain⟨gq,cq,rfl,-,-⟩:=qt.head oM;have χ:ζ (fun q=>v.ownBlock=some q) W8 w2:=((ζ.refl _ W8).alloc _).drew.then σ (fun _ e=>.inl e);have aC:=H8.out.1.ε χ H8.out.2.2.2.2.1;have hk2:=aC.oY;have GH:=aC.frozen 4;have PX:=aC.frozen 5;have HX:=cD qt χ xU cn aC;clear qt σ xU cn χ aC;refine hK.out _ _ (fQ.out _ HX.out.2.1) ?_;clear hK;have bn:=fQ.out _ HX.out.2.1;refine A_ (i:=14) (v:=ι ((partsOf s.size:Nat):Int)) rfl kR kR kR kR (fun _ _ _ h=>h) (Fq rfl 112 #[.string s] ak (fun w' _=>?_) (fun w' hS=>Jp s w' oM)) aS kR ?_
     ·go_simp
     simp only[av];refine gm 15 (ι ((g.used:Int)+((partsOf s.size:Nat):Int))) ?_;refine gm 16 (.pointer (some ⟨b,0,none⟩)) ?_;refine gm 17 (.pointer (some ⟨b,4,none⟩)) ?_;refine lG 18 (fun K hK=>?_);go_simp
     refine hK.out _ _ ?_;clear hK bn;refine gm 19 (.pointer (some ⟨b,0,none⟩)) ?_;refine gm 20 (.pointer (some ⟨b,5,none⟩)) ?_;refine lG 21 (fun K hK=>?_);go_simp
     refine hK.out _ _ ?_;clear hK;refine dY ?_;refine dz ?_;go_wp2_with fail
     go_ret
     rw[Cr.out];refine⟨rfl,?_⟩;obtain⟨jB,Ln,rL,cT,PZ,anx,acq⟩:=H8.out;obtain⟨qt,χ,xU,cn,aC⟩:=HX.out;have kI:bG w2 p r.1.sync.1 F3:=Ln.ε χ fun k hk e=>acq k e hk
     have aoe:=kI.not_mem aC dC dC;have ad8:=qt.f_ aC dC;have kX:=cT.size;have Gj:∀q,(Value.slice (some ⟨gq,0,none⟩) (g.l.length+1) cq).ownBlock=some q→v.ownBlock=some q∨W8.heap.size≤q:=fun q hq=>by
      rcases xU with e | e
      ·rw[e] at hq;exact .inl hq
      ·rw[e] at hq
       cases hq
       exact .inr ((((ζ.refl (fun _=>False) W8).alloc _).drew).size)
     clear H8 HX fQ Cr Cq HL hk2 GH PX;refine⟨⟨F3,.slice (some ⟨gq,0,none⟩) (g.l.length+1) cq,?_,anx,?_,?_,fun q hq=>?_,fun q hq hF=>?_⟩,?_⟩
     ·exact kI.dr fun q hq=>by
       have hne:q≠b:=fun e=>aoe (e ▸ hq)
       rw[pJ _ _ _ q hne,pJ _ _ _ q hne]
     ·have h:=(aC.bE 4 (.slice (some ⟨gq,0,none⟩) (g.l.length+1) cq)).bE 5 (ι ((g.used:Int)+((partsOf s.size:Nat):Int)))
      simp only[Lg.cells,jW,xz,xA] at h;simp only[Lg.cells,Int.natCast_add];exact h
     ·have h:=(qt.b9 (p:=⟨b,4,none⟩) ad8 (.slice (some ⟨gq,0,none⟩) (g.l.length+1) cq)).b9 (p:=⟨b,5,none⟩) ad8 (ι ((g.used:Int)+((partsOf s.size:Nat):Int)))
      simp only[aN,eZ,AV,strs,lq,kO,AW] at h ⊢;exact h
     ·exact(Gj q hq).imp id (fun h=>by omega)
     ·rcases Gj q hq with h | h
      ·exact acq q h hF
      ·have:=Ln.lt q hF
       omega
     ·exact((((cT.mono (G:=fun q=>q=b∨q ∈ F∨v.ownBlock=some q) (fun _ e=>.inl (e.imp id .inl))).then χ (fun q e=>.inl (.inr (.inr e)))).setCell (p:=⟨b,4,none⟩) (.inl (.inl rfl)) _).setCell (p:=⟨b,5,none⟩) (.inl (.inl rfl)) _)
    ·rw[π hr] at hput
     have hr':(r.1.sync.2 != 0)=true:=by rw[kq];exact hr
     have Cq:=δ wH;have Cr:=δ hput;clear wH hput hr;go_wp2_with (go_at_call 117;refine Cq.out.mono ?_;rintro e w7 ⟨rfl,F3,hS⟩;have gU:=δ (HL.out.1.wrote hS);clear hS);go_ret
     rw[Cr.out];exact⟨rfl,gU.out.left⟩
theorem ad9 {P:Prop} (h:P:=by
 go_enter func58,ntmps58
 go_wp2_with fail
 refine Ct.out.mono ?_;rintro e w' ⟨rfl,rfl⟩;go_wp2_with fail
 refine(Jp s _ oM).mono ?_;rintro e w' ⟨rfl,rfl⟩;go_wp2_with fail
 refine VU.out.mono ?_;rintro e w' ⟨rfl,rfl⟩;go_wp2
 go_ret
 exact⟨rfl,(ζ.refl _ _).drew⟩):P:=h
theorem ad_ {P:Prop} (h:P:=by
 clear h hb;go_enter func58,ntmps58
 go_wp2_with fail
 refine Ct.out.mono ?_;rintro e w' ⟨rfl,rfl⟩;go_wp2
 go_ret
 exact⟨rfl,ζ.refl _ _⟩):P:=h
theorem ag' {w:World} {p b:Nat} {g:Lg} (hL:JG w p b g) (s:ByteArray) (hu:g.used≤g.dS) (yN:g.dS≤5000)
 (h:g.broken=true∨1024<s.size∨g.dS - g.used<partsOf s.size∨g.af=18446744073709551615) :
 ς 58 #[.pointer (some ⟨b,0,none⟩),.string s] w fun e w'=>e=ώ (ι (if g.broken then 11 else if 1024<s.size then 3 else 6))∧υ w w':=by
 have Ct:=δ (Nx hL);have VU:=δ (abJ hL hu yN);obtain⟨v,hB,hO⟩:=hL.ex;have hc:=hB.oY;clear hB hO hL;cases hb:g.broken
 ·rw[hb] at hc
  by_cases h4:1024<s.size
  ·rw[ν sM,π h4]
   have Es:(1024:Int)<(s.size:Int):=oM;exact ad_
  ·rw[ν sM,ν h4]
   have h5:g.dS - g.used<partsOf s.size∨g.af=18446744073709551615:=by
    rcases h with h | h | h
    ·rw[hb] at h;simp at h
    ·omega
    ·exact h
   have Es:¬(1024:Int)<(s.size:Int):=oM;have G1:=δ hc;have H5:=δ h5;clear h hb h5;by_cases h6:g.dS - g.used<partsOf s.size
   ·have h6':((g.dS - g.used:Nat):Int)<((partsOf s.size:Nat):Int):=oM
    exact ad9
   ·have h6':¬((g.dS - g.used:Nat):Int)<((partsOf s.size:Nat):Int):=oM
    have h7:g.af=18446744073709551615:=H5.out.resolve_left h6;rw[h7] at hc;clear G1 H5 h7;exact ad9
 ·rw[hb] at hc
  rw[π rfl];exact ad_
end
end Go.Proofs.YtbhjgfibhegddaaGreat
