/-
  Parts of the proof of VaultPlays: LogFirst, KeptPut, LogAdd.
-/
import Derived.Test.YtbhjgfibhegddaaGreatQVaultPlays09
import Derived.Deep.RegionHeld3
import Derived.Outline
import Derived.WalkSpells
set_option maxRecDepth 100000
set_option maxHeartbeats 16000000
namespace Go.Proofs.YtbhjgfibhegddaaGreat
abbrev nj:=@decide_eq_false_iff_not
abbrev aa1:=@List.getElem_take
abbrev NG:=@Go.World.block_lt_of_cell?
abbrev aa2:=@Option.isNone_none
abbrev aa3:=@Option.isNone_some
open Tryz
section
open Go Go.RowKit
theorem afn (p:Lp) (w:World) (hg:p.θ<18446744073709551616∧p.aq<18446744073709551616∧p.ahead<18446744073709551616) (ht:p.text.length≤32) (hn:p.number<256) (ha:p.all<256) :
 ς 116 #[p.val] w fun e w'=>e=ώ (.string (str (gH p.body)))∧Below w.heap.size w w':=by
 obtain⟨i0,bx,bN,bG,aT⟩:=je Bv;have HB:Hid (p.body=leB p.θ 8++leB p.aq 8++leB p.ahead 8++[UInt8.ofNat p.number,UInt8.ofNat p.all,UInt8.ofNat p.text.length,0]++p.text++List.replicate (32 - p.text.length) 0):=rfl;obtain⟨ep,sa,ah,nu,al,tx⟩:=p;generalize (⟨ep,sa,ah,nu,al,tx⟩:Lp).body=bd at *;simp only[Lp.val] at *;have hsz:(str tx).size=tx.length:=bf tx;go_enter func116,ntmps116
 go_wp2_with fail
 have CB:η ((w.alloc (.cells #[ω (ep:Int),ω (sa:Int),ω (ah:Int),ι (nu:Int),ι (al:Int),.string (str tx)] 204)).alloc (.cells #[ω (ep:Int),ω (sa:Int),ω (ah:Int)] 112)) w.heap.size 204 #[ω (ep:Int),ω (sa:Int),ω (ah:Int),ι (nu:Int),ι (al:Int),.string (str tx)]:=(η.new w _ _).alloc _;have aM:η ((w.alloc (.cells #[ω (ep:Int),ω (sa:Int),ω (ah:Int),ι (nu:Int),ι (al:Int),.string (str tx)] 204)).alloc (.cells #[ω (ep:Int),ω (sa:Int),ω (ah:Int)] 112)) (w.heap.size+1) 112 #[ω (ep:Int),ω (sa:Int),ω (ah:Int)]:=by
  have h:=η.new (w.alloc (.cells #[ω (ep:Int),ω (sa:Int),ω (ah:Int),ι (nu:Int),ι (al:Int),.string (str tx)] 204)) 112 #[ω (ep:Int),ω (sa:Int),ω (ah:Int)];simpa using h
 have I3:υ w ((w.alloc (.cells #[ω (ep:Int),ω (sa:Int),ω (ah:Int),ι (nu:Int),ι (al:Int),.string (str tx)] 204)).alloc (.cells #[ω (ep:Int),ω (sa:Int),ω (ah:Int)] 112)):=((ζ.refl _ w).alloc _).alloc _;have IL:((w.alloc (.cells #[ω (ep:Int),ω (sa:Int),ω (ah:Int),ι (nu:Int),ι (al:Int),.string (str tx)] 204)).alloc (.cells #[ω (ep:Int),ω (sa:Int),ω (ah:Int)] 112)).heap.size=w.heap.size+2:=by simp
 have HW:=aD CB aM I3 IL;clear CB aM I3 IL;generalize ((w.alloc (.cells #[ω (ep:Int),ω (sa:Int),ω (ah:Int),ι (nu:Int),ι (al:Int),.string (str tx)] 204)).alloc (.cells #[ω (ep:Int),ω (sa:Int),ω (ah:Int)] 112))=W at *;go_loopw [3,16] (fun v i wr=>∃k:Nat,k≤3∧i=ι k∧Own wr 5 1 v (8*k) (aK (([ep,sa,ah].take k).flatMap fun n=>leB n 8))∧υ W wr∧(∀q,v.ownBlock=some q→W.heap.size≤q)) (fun _ i _=>3 - (intOf i).toNat)
 case atStart=>exact⟨0,oM,rfl,Own.nil _ _ _,ζ.refl _ _,by simp[Value.ownBlock]⟩
 case round =>
  obtain⟨k,hk,rfl,hO,hU,hl⟩:=hrel;by_cases hlt:k<3
  ·have hc:wr.cell? ⟨w.heap.size+1,k,none⟩=some (ω (([ep,sa,ah][k]'(by simpa using hlt):Nat):Int)):=by
    rw[(HW.out.2.1.ε hU (fun e=>e)).cell k];match k,hlt with
    | 0,_=>rfl
    | 1,_=>rfl
    | 2,_=>rfl
   have hstep:([ep,sa,ah].take (k+1)).flatMap (fun n=>leB n 8)=([ep,sa,ah].take k).flatMap (fun n=>leB n 8)++leB ([ep,sa,ah][k]'(by simpa using hlt)) 8:=by
    rw[gX (by simpa using hlt),vJ];simp
   have HX:=aj hstep hU hl;clear hstep hU hl;generalize [ep,sa,ah][k]'(by simpa using hlt)=y at *;go_wp2_with fail
   refine(abv u3 (8*k) _ y 8 wr hO oM oM).mono ?_;rintro e w1 ⟨v1,rfl,gj,ax,ir⟩;have H1:=aj gj ax ir;clear gj ax ir hc hO;go_wp2_with fail
   go_roundw
   case rel =>
    obtain⟨gj,ax,ir⟩:=H1.out;obtain⟨hstep,hU,hl⟩:=HX.out;refine⟨k+1,oM,by go_num,?_,hU.then ax (fun b e=>.inr (hl b e)),fun q hq=>?_⟩
    ·rw[hstep,qM,show 8*(k+1)=8*k+8 by omega]
     exact gj
    ·rcases ir with h | ⟨q',h,hq'⟩
     ·exact hl q (by rw[← h];exact hq)
     ·rw[h] at hq
      have h5:=dw hq;have:=hU.size;omega
   case measure=>simp[intOf];omega
  ·obtain rfl:k=3:=oM
   have aM:=HW.out.1.ε hU (fun e=>e);have hc1:=aM.vU;have H1:=aD ((HW.out.2.2.1).then hU φ) hl aM hU.size;have h4:=δ (XU nu al tx.length hn ha oM);have h24:(([ep,sa,ah].take 3).flatMap fun n=>leB n 8)=leB ep 8++leB sa 8++leB ah 8:=by simp
   rw[h24] at hO;have HR:Hid (∀W,ς 20 #[.string ⟨#[0]⟩,ι (32 - (tx.length:Int))] W fun e w'=>e=ώ (.string (str (List.replicate (32 - tx.length) 0)))∧Below W.heap.size W w'):=by
    intro W;have h:=strings_Repeat ⟨#[0]⟩ (32 - tx.length) W oM (by show 1*_≤_;omega);rw[UG] at h;rw[show (32 - (tx.length:Int))=((32 - tx.length:Nat):Int) from by omega];exact h
   clear hU hl h24 aM;go_wp2_with (first
    |(at_builtin
      refine jH rfl _ _ _ _ rfl 5 i0 _ 1 1 underlying89 bx bN bG aT rfl u3 24 _ rfl (hO.alloc _) _ 4 [ϋ (nu:Int),ϋ (al:Int),ϋ (tx.length:Int),ϋ 0] rfl (Src.qN underlying89 _ rfl) (by simp[Value.oneCell']) (by unfold maxLen;omega) oM ?_;intro v2 w2 bH π hl2 bV;obtain⟨ax,ir,aM,b9⟩:=H1.out;have hnb:=aM.lt;have aB:=(aM.alloc _).ε π (fun e=>by have:=ir _ e;have:=HW.out.2.2.2;omega);have hc2:=aB.vU;have GY:υ w w2:=(ax.alloc _).then π (fun b h=>.inr (oO (ir b h) HW.out.2.2.2));rw[← h4.out,← qM] at bH;have H2:=τ GY aB;clear ax ir aM π hl2 bV aB GY hO hc1 hnb b9))
   generalize hL:leB ep 8++leB sa 8++leB ah 8++[UInt8.ofNat nu,UInt8.ofNat al,UInt8.ofNat tx.length,0]=L at bH HB;have uY:L.length=28:=by rw[← hL];simp[oK]
   have sZ:(convert 89 9 v2).run prog w2.drew=.ok (.string (str L)) w2.drew:=vP bH.drew;have hls:(str L).size=28:=by rw[bf,uY]
   have QG:=δ (ze L tx);have aj0:=δ (ze (L++tx) (List.replicate (32 - tx.length) 0));have LQ:(str (List.replicate (32 - tx.length) 0)).size=32 - tx.length:=by rw[bf];simp
   have HO:=δ bH;have hHL:=δ hL;have ajb:IntKind.i64.wrap (32 - (tx.length:Int))=32 - (tx.length:Int):=bX _ oM;have ajf:(9223372036854775807<28+tx.length)=False:=by simp;omega
   have hle2:(9223372036854775807<28+tx.length+(32 - tx.length))=False:=by simp;omega
   have aka:(9223372036854775807<(str L).size+(str tx).size)=False:=by rw[hls,hsz];exact ajf
   have akb:(9223372036854775807<(str L++str tx).size+(str (List.replicate (32 - tx.length) 0)).size)=False:=by rw[FE,hls,hsz,LQ];exact hle2
   clear hL bH;go_region_held3 (fun w'=>w'.cell? ⟨w.heap.size,5,none⟩=some (.string (str tx))∧(convert 89 9 v2).run prog w'=.ok (.string (str L)) w') (first| go_keep |(exact⟨hc2.2.2.2.2.2,sZ⟩))
    (first
    |(go_at_call 20
      refine(HR.out _).mono ?_;rintro e w4 ⟨rfl,hb4⟩;have wg:(convert 89 9 v2).run prog w4=.ok (.string (str L)) w4:=vP (HO.out.cU fun q hq=>hb4.block q (HO.out.lt hq));have su:w4.cell? ⟨w.heap.size,5,none⟩=some (.string (str tx)):=(hb4.cell (p:=⟨w.heap.size,5,none⟩) H2.out.2.lt).trans hc2.2.2.2.2.2)
    |(go_at_call 157
      refine(Ph _ _ (by rw[FE,FE,hls,hsz,LQ];omega)).mono ?_;rintro e w5 ⟨rfl,ox⟩;have Zh:Below w2.heap.size w2 w5:=(vQ hb4).trans (ox.mono (vQ hb4).size);have aj1:(convert 89 9 v2).run prog w5=.ok (.string (str L)) w5:=vP (HO.out.cU fun q hq=>Zh.block q (HO.out.lt hq));have yu:w5.cell? ⟨w.heap.size,5,none⟩=some (.string (str tx)):=(Zh.cell (p:=⟨w.heap.size,5,none⟩) H2.out.2.lt).trans hc2.2.2.2.2.2))
   all_goals go_wp2
   all_goals
    go_ret
    refine⟨?_,?_⟩
    ·rw[HB.out,dQ]
     rfl
    ·have nL:Below w.heap.size w w2:=H2.out.1.below (fun _ h=>h.elim)
     have G0:Below w2.heap.size w2 w4:=vQ hb4;exact nL.trans ((G0.mono nL.size).trans (ox.mono (iE nL.size G0.size)))
theorem adO:(prog.fieldsOf 204).toList.map (fun f=>(f.name == "_",f.type,f.offset))=[(false,112,0),(false,112,1),(false,112,2),(false,3,3),(false,3,4),(false,9,5)]:=kR
theorem ahO (p q:Lp) (W:World):(binOp .neq 204 p.val q.val).run prog W=.ok (.bool (!decide (p=q))) W:=by
 rw[Lp.val,Lp.val,run_neq_struct,run_equalIn_agg _ _ _ _ _ kR kR];have hf:=adO;generalize (prog.fieldsOf 204).toList=fs at hf;obtain⟨f0,f1,f2,f3,f4,f5,rfl⟩:∃f0 f1 f2 f3 f4 f5,fs=[f0,f1,f2,f3,f4,f5]:=by
  have hl:=aJ List.length hf;match fs,hl with
  | [a,b,c,d,e,f],_=>exact⟨a,b,c,d,e,f,rfl⟩
 simp only[jY,yZ,sJ,AR,eV,sG] at hf;obtain⟨⟨a0,b0,c0⟩,⟨a1,b1,c1⟩,⟨a2,b2,c2⟩,⟨a3,b3,c3⟩,⟨a4,b4,c4⟩,⟨a5,b5,c5⟩⟩:=hf;obtain⟨x0,x1,x2,x3,x4,t1⟩:=p;obtain⟨y0,y1,y2,y3,y4,t2⟩:=q;have hq (n m:Nat):((n:Int) == (m:Int))=decide (n=m):=by
  by_cases h:n=m
  ·simp[h]
  ·rw[gN h,eV];omega
 have e1 (x y:Int) (W:World):(Op.equalIn 9999 112 (ω x) (ω y)).run prog W=.ok (x == y) W:=NI W 9998 112 .u64 .u64 x y underlying112;have e2 (x y:Int) (W:World):(Op.equalIn 9999 3 (ι x) (ι y)).run prog W=.ok (x == y) W:=NI W 9998 3 .i64 .i64 x y underlying3;have e3 (x y:ByteArray) (W:World):(Op.equalIn 9999 9 (.string x) (.string y)).run prog W=.ok (x.toList == y.toList) W:=aa0 W 9998 9 x y underlying9;have q1 (k:Nat) (xs:Array Value) (v:Value) (W:World) (h:xs[k]? = some v):(part 112 xs k).run prog W=.ok v W:=Dq (w:=W) kR h;have q2 (k:Nat) (xs:Array Value) (v:Value) (W:World) (h:xs[k]? = some v):(part 3 xs k).run prog W=.ok v W:=Dq (w:=W) kR h;have q3 (k:Nat) (xs:Array Value) (v:Value) (W:World) (h:xs[k]? = some v):(part 9 xs k).run prog W=.ok v W:=Dq (w:=W) kR h;simp only[Op.eqFields,a0,a1,a2,a3,a4,a5,b0,b1,b2,b3,b4,b5,c0,c1,c2,c3,c4,c5,qK,ne_eq,Fv,vI];rw[q1 0 _ (ω x0) _ rfl,fN,q1 0 _ (ω y0) _ rfl,fN,e1,fN,hq]
 by_cases h0:x0=y0
 ·rw[fe h0]
  simp only[vK,oG,lK,qK];rw[q1 1 _ (ω x1) _ rfl,fN,q1 1 _ (ω y1) _ rfl,fN,e1,fN,hq];by_cases h1:x1=y1
  ·rw[fe h1]
   simp only[vK,oG,lK,qK];rw[q1 2 _ (ω x2) _ rfl,fN,q1 2 _ (ω y2) _ rfl,fN,e1,fN,hq];by_cases h2:x2=y2
   ·rw[fe h2]
    simp only[vK,oG,lK,qK];rw[q2 3 _ (ι x3) _ rfl,fN,q2 3 _ (ι y3) _ rfl,fN,e2,fN,hq];by_cases h3:x3=y3
    ·rw[fe h3]
     simp only[vK,oG,lK,qK];rw[q2 4 _ (ι x4) _ rfl,fN,q2 4 _ (ι y4) _ rfl,fN,e2,fN,hq];by_cases h4:x4=y4
     ·rw[fe h4]
      simp only[vK,oG,lK,qK];rw[q3 5 _ (.string (str t1)) _ rfl,fN,q3 5 _ (.string (str t2)) _ rfl,fN,e3,fN,KX];by_cases h5:t1=t2<;>simp[h0,h1,h2,h3,h4,h5]
     ·simp[h4]
    ·simp[h3]
   ·simp[h2]
  ·simp[h1]
 ·simp[h0]
theorem U6 (l:List Lp) (i:Nat) (hi:i<l.length) (j:Nat) (hj:j<6):(nB l)[i*6+j]? = (Lp.cells l[i])[j]? := by
 induction l generalizing i with
 | nil=>simp at hi
 | cons p l ih =>
   have hp:(Lp.cells p).length=6:=rfl;have e:nB (p::l)=Lp.cells p++nB l:=rfl;rw[e];cases i with
   | zero=>rw[pL oM];simp
   | succ i =>
     rw[lM oM,hp,show (i+1)*6+j - 6=i*6+j by omega,ih i (by simpa using hi)];rfl
structure od (w:World) (v:Value) (l:List Lp):Prop where
 ex:∃A cap b off,v=.slice A l.length cap∧l.length≤cap∧cap≤maxLen∧(0<l.length→A=some ⟨b,off,none⟩∧b<w.heap.size)∧∀i (_:i<l.length) (j:Nat),j<6→w.cell? ⟨b,off+i*6+j,none⟩=(Lp.cells l[i])[j]?
theorem od.jK {w:World} {v:Value} {l:List Lp} (h:Own w 204 6 v l.length (nB l)):od w v l:=by
 by_cases h0:l.length=0
 ·obtain⟨A,cap,e,h1,h2⟩:=h.shape
  exact⟨A,cap,0,0,e,h1,h2,fun h=>by omega,fun i hi=>by omega⟩
 ·obtain⟨g,cap,rfl,h1,h2⟩:=h.head oM
  refine⟨_,cap,g,0,rfl,h1,h2,fun _=>⟨rfl,h.lt rfl⟩,fun i hi j hj=>?_⟩;rw[kU,h.cellAt (i*6+j) oM,U6 l i hi j hj]
theorem od.still {w w':World} {v:Value} {l:List Lp} (h:od w v l) (hu:υ w w'):od w' v l:=by
 obtain⟨A,cap,b,off,e,h1,h2,h3,h4⟩:=h.ex;refine⟨A,cap,b,off,e,h1,h2,fun h0=>⟨(h3 h0).1,nT (h3 h0).2 hu.size⟩,fun i hi j hj=>?_⟩;have h5:=(h3 oM).2;rw[Fy (w:=w) (a:=⟨b,off+i*6+j,none⟩) (hu.block b h5 (fun e=>e))];exact h4 i hi j hj
theorem ab3 {v1 v2:Value} {l1 l2:List Lp} (w:World) (h1:od w v1 l1) (h2:od w v2 l2) :
 ς 208 #[v1,v2] w fun e w'=>e=ώ (.bool (decide (l1=l2)))∧υ w w':=by
 have H1:=δ h1;have H2:=δ h2;obtain⟨A1,Em,b1,o1,rfl,m1,m2,a1,-⟩:=h1.ex;obtain⟨A2,eY,b2,o2,rfl,n1,n2,a2,-⟩:=h2.ex;have Co:l1.length≤9223372036854775807:=by unfold maxLen at m2;omega
 have hm2:l2.length≤9223372036854775807:=by unfold maxLen at n2;omega
 clear h1 h2 a1 a2 m1 m2 n1 n2;by_cases hl:l1.length=l2.length
 ·have hl':((l1.length:Int) != (l2.length:Int))=false:=by rw[hl];simp
  have HL:=δ hl;clear hl;go_enter func208,ntmps208
  go_wp2_with fail
  go_loopw [13] (fun i wr=>∃k:Nat,k≤l1.length∧i=ι k∧l1.take k=l2.take k∧υ w wr) (fun i _=>l1.length - (intOf i).toNat)
  case atStart=>exact⟨0,oM,rfl,rfl,ζ.refl _ _⟩
  case round =>
   obtain⟨k,hk,rfl,heq,hu⟩:=hrel;by_cases hlt:k<l1.length
   ·have oV:k<l2.length:=by rw[← HL.out];exact hlt
    obtain⟨A1',aj2,b1',o1',e1,-,-,g1,c1⟩:=(H1.out.still hu).ex;obtain⟨A2',aj3,b2',o2',e2,-,-,g2,c2⟩:=(H2.out.still hu).ex;injection e1 with e1a e1b e1c;injection e2 with e2a e2b e2c;subst e1a e2a e1c e2c;obtain⟨rfl,-⟩:=g1 oM;obtain⟨rfl,-⟩:=g2 oM;have x0:=c1 k hlt 0 oM;have x1:=c1 k hlt 1 oM;have x2:=c1 k hlt 2 oM;have x3:=c1 k hlt 3 oM;have x4:=c1 k hlt 4 oM;have x5:=c1 k hlt 5 oM;have y0:=c2 k oV 0 oM;have y1:=c2 k oV 1 oM;have y2:=c2 k oV 2 oM;have y3:=c2 k oV 3 oM;have y4:=c2 k oV 4 oM;have y5:=c2 k oV 5 oM;simp only[rM,Lp.cells,oH,pP] at x0 x1 x2 x3 x4 x5 y0 y1 y2 y3 y4 y5;have hne:=ahO l1[k] l2[k];simp only[Lp.val] at hne;have HX:=aj heq hu oV;have aj4:(k:Int)<(l2.length:Int):=oM;clear c1 c2 g1 g2 e1b e2b heq hu;by_cases hpq:l1[k]=l2[k]
    ·rw[fe hpq] at hne
     simp only[vK] at hne;have HP:=δ hpq;clear hpq;go_wp2_with fail
     go_region
     all_goals
      go_wp2_with fail
      go_roundw
      case rel =>
       refine⟨k+1,oM,by go_num,?_,HX.out.2.1.drew⟩;have z1:=HX.out.1;have z2:=HP.out;rw[gX hlt,gX oV,z1,z2]
      case measure=>simp[intOf];omega
    ·rw[gN hpq] at hne
     simp only[Bool.not_false] at hne;have hd:decide (l1=l2)=false:=by
      rw[nj];intro e;subst e;exact hpq rfl
     have Hd:=δ hd;clear hpq hd;go_wp2_with fail
     go_region
     all_goals
      go_wp2_with fail
      go_ret
      rw[Hd.out];exact⟨rfl,HX.out.2.1.drew⟩
   ·obtain rfl:k=l1.length:=oM
    have hd:decide (l1=l2)=true:=by
     rw[dR];rw[dH (bQ _),dH (by rw[HL.out];exact bQ _)] at heq;exact heq
    have Hd:=δ hd;have HU:=δ hu;clear hd heq hu;go_wp2_with fail
    go_ret
    rw[Hd.out];exact⟨rfl,HU.out⟩
 ·have hl':((l1.length:Int) != (l2.length:Int))=true:=by rw[jZ];omega
  have hd:decide (l1=l2)=false:=by
   rw[nj];intro e;subst e;exact hl rfl
  rw[hd];clear hl hd;go_enter func208,ntmps208
  go_wp2_with fail
  go_ret
  exact⟨rfl,ζ.refl _ _⟩
def jj (l:List Lp):List UInt8:=l.flatMap Lp.text
theorem adP (l:List Lp) (ht:∀p ∈ l,p.text.length≤32):(jj l).length≤32*l.length:=by
 induction l with
 | nil=>simp[jj]
 | cons p l ih =>
   have h1:=ht p sM;have h2:=ih (fun q hq=>ht q (by simp[hq]));simp only[jj,xx,aL,eS] at h2 ⊢;omega
theorem abf (l:List Lp) (k:Nat) (hk:k<l.length):jj (l.take (k+1))=jj (l.take k)++l[k].text:=by
 rw[gX hk,jj,vJ];simp[jj]
def jh (θ last:Nat) (row:List Lp):List UInt8 × Bool :=
 match row with
 | []=>([],false)
 | p::r =>
   if (p::r).length<p.all then ([],false) else
   if 1024<(jj ((p::r).take p.all)).length then ([],false) else
   (jj ((p::r).take p.all),decide (partsOf (jj ((p::r).take p.all)).length≤(p::r).length∧dm (jj ((p::r).take p.all)) θ p.aq last=(p::r).take (partsOf (jj ((p::r).take p.all)).length)))
structure Lg where
 from_:Nat
 dZ:Nat
 θ:Nat
 l:List ByteArray
 used:Nat
 last:Nat
 aq:Nat
 broken:Bool
def Lg.cells (p:Nat) (v:Value) (g:Lg):Array Value :=
 #[.pointer (some ⟨p,0,none⟩),ι g.from_,ι g.dZ,ω g.θ,v,ι g.used,ω g.last,ω g.aq,.bool g.broken]
theorem od.take {w:World} {A:Option Addr} {n cap:Nat} {l:List Lp} (h:od w (.slice A n cap) l) (k:Nat) (hk:k≤l.length):od w (.slice A k cap) (l.take k):=by
 obtain⟨A',cap',b,off,e,h1,h2,h3,h4⟩:=h.ex;injection e with e1 e2 e3;subst e1 e3;have hl:(l.take k).length=k:=by rw[fF];omega
 refine⟨A,cap,b,off,by rw[hl],oM,h2,fun h0=>h3 oM,fun i hi j hj=>?_⟩;rw[aa1];exact h4 i oM j hj
theorem agQ {w:World} {b p:Nat} {v0 v:Value} {g:Lg} {row:List Lp} (hB:η w b 199 (g.cells p v0)) (hR:od w v row) (hl:row.length≤5000) (ht:∀q ∈ row,q.text.length≤32) (ha:∀q ∈ row,q.all<256) :
 ς 160 #[.pointer (some ⟨b,0,none⟩),v] w fun e w'=>e=ώ (.tuple #[.string (str (jh g.θ g.last row).1),.bool (jh g.θ g.last row).2])∧υ w w':=by
 have HR:=δ hR;have HB:=δ hB;obtain⟨A,cap,b1,o1,rfl,m1,m2,a1,c1⟩:=hR.ex;have hcb:=hB.og;clear hR hB m1 m2;by_cases hn:row.length=0
 ·have hl0:row=[]:=JV.1 hn
  subst hl0;have hr:jh g.θ g.last []=([],false):=rfl;rw[hr];simp only[yY];clear a1 c1 hn ht ha hl;go_enter func160,ntmps160
  go_wp2_with fail
  go_ret2
  exact⟨rfl,ζ.refl _ _⟩
 ·obtain⟨rfl, -⟩ := a1 oM
  have h0:0<row.length:=oM;have hne:((row.length:Int) == 0)=false:=by rw[eV];omega
  have ajc:(0:Int)<(row.length:Int):=oM;have hc0:∀j,j<6→w.cell? ⟨b1,o1+j,none⟩=(Lp.cells row[0])[j]? := fun j hj=>by have:=c1 0 h0 j hj;simpa using this
  have x1:=hc0 1 oM;have x4:=hc0 4 oM;simp only[Lp.cells,oH,pP] at x1 x4;have hall:=ha row[0] (eM _);have HC:=δ c1;clear c1 hc0 a1;have hF:jh g.θ g.last row=if row.length<row[0].all then ([],false) else if 1024<(jj (row.take row[0].all)).length then ([],false) else
   (jj (row.take row[0].all),decide (partsOf (jj (row.take row[0].all)).length≤row.length∧dm (jj (row.take row[0].all)) g.θ row[0].aq g.last=row.take (partsOf (jj (row.take row[0].all)).length))):=by
   cases row with
   | nil=>simp at h0
   | cons q r=>rfl
  by_cases hbig:row.length<row[0].all
  ·have aiB:(row.length:Int)<(row[0].all:Int):=oM
   rw[σ hbig] at hF;have HF:=δ hF;clear hF hbig;go_enter func160,ntmps160
   go_wp2_with fail
   go_ret2
   rw[HF.out];exact⟨rfl,ζ.refl _ _⟩
  ·have aiB : ¬ (row.length:Int)<(row[0].all:Int):=oM
   rw[ν hbig] at hF;have HF:=δ hF;have HT:Hid (∀k,k≤row.length→(jj (row.take k)).length≤32*k):=by
    intro k hk;have h:=adP (row.take k) fun q hq=>ht q (JW hq)
    rw[fF,vM hk] at h;exact h
   have Ht:=δ ht;clear hF ht ha;go_enter func160,ntmps160
   go_wp2_with fail
   go_loopw [6,25] (fun t i wr=>∃k:Nat,k≤row[0].all∧i=ι k∧t=.string (str (jj (row.take k)))∧wr=w) (fun _ i _=>row[0].all - (intOf i).toNat)
   case atStart=>exact⟨0,oM,rfl,rfl,rfl⟩
   case round =>
    obtain⟨k,hk,rfl,rfl,rfl⟩:=hrel;by_cases hlt:k<row[0].all
    ·have nN:k<row.length:=oM
     have hc:=HC.out k nN 5 oM;simp only[Lp.cells,oH,pP] at hc;have bG:(str (jj (row.take k))).size≤32*k:=by rw[bf];exact HT.out k oM
     have aT:(str row[k].text).size≤32:=by rw[bf];exact Ht.out _ (eM _)
     have QG:=ze (jj (row.take k)) row[k].text;have hts:=δ (abf row k nN);go_wp2_with fail
     go_roundw
     case rel=>exact⟨k+1,oM,by go_num,by rw[hts.out],trivial⟩
     case measure=>simp[intOf];omega
    ·obtain rfl : k=row[0].all:=oM
     have gJ:(jj (row.take row[0].all)).length≤32*256:=by have:=HT.out row[0].all oM;omega
     generalize jj (row.take row[0].all)=T at HF gJ ⊢;have tM:(str T).size=T.length:=bf T;by_cases h4:1024<T.length
     ·have Cx:(1024:Int)<(str T).size:=oM
      go_wp2_with fail
      go_ret2
      rw[HF.out,σ h4];exact⟨rfl,ζ.refl _ _⟩
     ·have Cx : ¬(1024:Int)<(str T).size:=oM
      rw[ν h4] at HF;have zB:Hid (∀W,ς 114 #[.string (str T),ω (g.θ:Int),ω (row[0].aq:Int),ω (g.last:Int)] W fun e w'=>∃v,e=ώ v∧Own w' 204 6 v (partsOf T.length) (nB (dm T g.θ row[0].aq g.last))∧Below W.heap.size W w'∧(∀q,v.ownBlock=some q→W.heap.size≤q)):=by
       intro W;have h:=Xl (str T) g.θ row[0].aq g.last W oM;rw[tM] at h;exact h
      go_wp2_with fail
      go_region_held3 (fun w'=>w'.cell? ⟨b,3,none⟩=some (ω (g.θ:Int))∧w'.cell? ⟨b,6,none⟩=some (ω (g.last:Int))∧w'.cell? ⟨b1,o1+1,none⟩=some (ω (row[0].aq:Int))) (first| go_keep)
       (first|(go_at_call 114
               refine(zB.out _).mono ?_;rintro e w2 ⟨v2,rfl,bH,bn,hl2⟩;obtain⟨g2,eY,rfl,hx1,hx2⟩:=bH.head (by unfold partsOf;omega);have wV:υ wr w2:=ζ.oI (vQ bn) _;have ajg:=(HB.out.ε wV (fun e=>e)).og;have hr2:w2.cell? ⟨b1,o1+1,none⟩=some (ω (row[0].aq:Int)):=(Fy (w:=wr) (a:=⟨b1,o1+1,none⟩) (wV.block b1 (NG _ _ x1) (fun e=>e))).trans x1))
      all_goals
       have jR:=τ bH wV;clear bH wV bn hl2 ajg hr2;by_cases h5:partsOf T.length≤row.length
       ·have R7:((partsOf T.length:Nat):Int)≤(row.length:Int):=oM
        have cu:=um T g.θ row[0].aq g.last;have Cs:od w2 (.slice (some ⟨g2,0,none⟩) (partsOf T.length) eY) (dm T g.θ row[0].aq g.last):=od.jK (by rw[cu];exact jR.out.1);have wN:=(HR.out.still jR.out.2).take (partsOf T.length) h5;have HP:=τ Cs wN;have hpc:(partsOf T.length:Int)≤(cap:Int):=by
         obtain⟨_,_,_,_,e,q1,_⟩:=HR.out.ex;injection e with e1 e2 e3;omega
        have hd:(jh g.θ g.last row).2=decide (dm T g.θ row[0].aq g.last=row.take (partsOf T.length)):=by
         rw[HF.out];by_cases hq:dm T g.θ row[0].aq g.last=row.take (partsOf T.length)
         ·rw[fe hq,fe ⟨h5,hq⟩]
         ·rw[gN hq,gN (fun h=>hq h.2)]
        have Hd:=δ hd;clear Cs wN cu hd;go_wp2_with fail
        refine(ab3 _ HP.out.1 HP.out.2).mono ?_;rintro e w3 ⟨rfl,χ⟩;have iu:=δ χ;clear χ;go_wp2_with fail
        go_ret2
        rw[Hd.out,HF.out];exact⟨rfl,jR.out.2.then iu.out φ⟩
       ·have R7:¬((partsOf T.length:Nat):Int)≤(row.length:Int):=oM
        have hd:(jh g.θ g.last row).2=false:=by
         rw[HF.out];exact gN (fun h=>h5 h.1)
        have Hd:=δ hd;clear hd;go_wp2_with fail
        go_ret2
        rw[Hd.out,HF.out];exact⟨rfl,jR.out.2⟩
theorem XX {w:World} {p b:Nat} {k:Kp} (hK:η w b 209 (k.cells p)) :
 ς 120 #[.pointer (some ⟨b,0,none⟩)] w fun e w'=>e=ώ (.tuple #[.string (str k.text),.bool (decide (0<k.gen))])∧Below w.heap.size w w':=by
 have hc:=hK.rQ;have HB:=δ hK;clear hK;have hd:decide ((0:Int)<(k.gen:Int))=decide (0<k.gen):=by
  by_cases h:0<k.gen
  ·rw[fe h,fe oM]
  ·rw[gN h,gN oM]
 go_enter func120,ntmps120
 go_wp2_with fail
 go_region_held3 (fun w'=>w'.cell? ⟨b,2,none⟩=some (.string (str k.text))∧w'.cell? ⟨b,3,none⟩=some (ω (k.gen:Int))) (go_keep) (first| fail)
 all_goals go_wp2
 all_goals
  go_ret2
  exact⟨rfl,(nX _ _).drew⟩
def Pt.sec (p:Pt):ByteArray:=str (gH p.body)
def gQ (d:Dk) (a:Nat) (l:List Pt):Nat→Dk × Int
 | 0=>(d,0)
 | j+1=>if (gQ d a l j).2≠0 then gQ d a l j else (gQ d a l j).1.write ((a+j:Nat):Int) (l.getD j ⟨0,0,0,[]⟩).sec
theorem ab4 {d:Dk} {a:Nat} {l:List Pt} {j m:Nat} (h:(gQ d a l j).2≠0) (hm:j≤m):gQ d a l m=gQ d a l j:=by
 induction m with
 | zero => obtain rfl:j=0:=oM
           rfl
 | succ m ih =>
   by_cases e:j=m+1
   ·rw[e]
   ·rw[gQ,ih oM,σ h]
theorem adQ (d:Dk) (i:Nat) (b:ByteArray) (hi:i<d.waits.length):(d.push i b).pend=d.pend+1:=by
 unfold Dk.push Dk.pend Dk.at_;simp only
 generalize d.waits=l at *;induction l generalizing i with
 | nil=>simp at hi
 | cons x l ih =>
   cases i with
   | zero=>simp;omega
   | succ i =>
     have h:=ih i (by simpa using hi);simp only[List.getD_cons_succ] at h ⊢;simp only[vO,jY,List.sum_cons];omega
theorem U7 (d:Dk) (i:Int) (b:ByteArray) (hl:d.waits.length=d.af.length):(d.write i b).1.pend≤d.pend+1:=by
 unfold Dk.write;split
 ·simp
 ·split
  ·rename_i h
   split
   ·have hi:i.toNat<d.eO.1.waits.length:=by
     rw[Dk.Kq,hl];simp only[Dk.there,gY,dR] at h;omega
    rw[adQ _ _ _ hi,Dk.Kw];omega
   ·rw[Dk.Kw];omega
  ·simp
theorem UJ (d:Dk) (i:Int) (b:ByteArray):(d.write i b).1.af=d.af:=by
 unfold Dk.write;split
 ·rfl
 ·split
  ·split
   ·exact Dk.FW d
   ·exact Dk.FW d
  ·rfl
theorem UK (d:Dk) (i:Int) (b:ByteArray):(d.write i b).1.waits.length=d.waits.length:=by
 unfold Dk.write;split
 ·rfl
 ·split
  ·split
   ·simp[Dk.push,Dk.Kq]
   ·rw[Dk.Kq]
  ·rfl
theorem UL (d:Dk) (a:Nat) (l:List Pt) (hl:d.waits.length=d.af.length) (j:Nat) :
 (gQ d a l j).1.af=d.af∧(gQ d a l j).1.waits.length=d.waits.length∧(gQ d a l j).1.pend≤d.pend+j:=by
 induction j with
 | zero=>exact⟨rfl,rfl,by simp[gQ]⟩
 | succ j ih =>
   rw[gQ];split
   ·exact⟨ih.1,ih.2.1,oM⟩
   ·refine⟨(UJ _ _ _).trans ih.1,(UK _ _ _).trans ih.2.1,?_⟩
    have h:=U7 (gQ d a l j).1 ((a+j:Nat):Int) (l.getD j ⟨0,0,0,[]⟩).sec (by rw[ih.2.1,ih.1,hl]);omega
def eu (d:Dk) (k:Kp) (text:List UInt8):Dk × Kp × Int :=
 if k.broken then (d,k,11) else if 400<text.length then (d,k,3) else if k.seen=18446744073709551615 then (d,k,6) else
 if (gQ d (k.from_+(1 - k.at_)*10) (aX text (k.seen+1)) (aO text.length)).2≠0 then
  ((gQ d (k.from_+(1 - k.at_)*10) (aX text (k.seen+1)) (aO text.length)).1,{ k with broken:=true },(gQ d (k.from_+(1 - k.at_)*10) (aX text (k.seen+1)) (aO text.length)).2) else
 if (gQ d (k.from_+(1 - k.at_)*10) (aX text (k.seen+1)) (aO text.length)).1.sync.2≠0 then
  ((gQ d (k.from_+(1 - k.at_)*10) (aX text (k.seen+1)) (aO text.length)).1.sync.1,{ k with broken:=true },(gQ d (k.from_+(1 - k.at_)*10) (aX text (k.seen+1)) (aO text.length)).1.sync.2) else
 ((gQ d (k.from_+(1 - k.at_)*10) (aX text (k.seen+1)) (aO text.length)).1.sync.1,{ k with seen:=k.seen+1,text:=text,gen:=k.seen+1,at_:=1 - k.at_,broken:=false },0)
structure KY (w w':World) (p b:Nat) (d:Dk) (k:Kp) (F:List Nat):Prop where
 bO:∃F',bI w' p d F'∧∀q ∈ F',q ∈ F∨w.heap.size≤q
 kept:η w' b 209 (k.cells p)
 ε:ζ (fun q=>q=b∨q ∈ F) w w'
theorem ab5 {w:World} {p b:Nat} {k:Kp} (hK:η w b 209 (k.cells p)) (s:ByteArray) (h:k.broken=true∨400<s.size∨k.seen=18446744073709551615) :
 ς 127 #[.pointer (some ⟨b,0,none⟩),.string s] w fun e w'=>e=ώ (ι (if k.broken then 11 else if 400<s.size then 3 else 6))∧w=w':=by
 have hc:=hK.rQ;clear hK;cases hb:k.broken
 ·rw[hb] at hc
  by_cases h4:400<s.size
  ·rw[ν sM,σ h4]
   have Cx:(400:Int)<(s.size:Int):=oM;clear h hb;go_enter func127,ntmps127
   go_wp2
   go_ret
   exact⟨rfl,rfl⟩
  ·rw[ν sM,ν h4]
   have h5:k.seen=18446744073709551615:=by
    rcases h with h | h | h
    ·rw[hb] at h;simp at h
    ·omega
    ·exact h
   rw[h5] at hc;have Cx:¬(400:Int)<(s.size:Int):=oM;clear h hb h5;go_enter func127,ntmps127
   go_wp2
   go_ret
   exact⟨rfl,rfl⟩
 ·rw[hb] at hc
  rw[σ rfl];clear h hb;go_enter func127,ntmps127
  go_wp2
  go_ret
  exact⟨rfl,rfl⟩
theorem bI.WL {w:World} {p n size:Nat} {d:Dk} {F:List Nat} {e:TypeId} {v:Value} {xs:List Value} (h:bI w p d F) (hO:Own w e size v n xs) (h1:e≠151) (h2:e≠9):∀q,v.ownBlock=some q→q ∉ F:=by
 obtain⟨bl,cap,bm,m,g1,g2,g3,g4,g5,rfl,g7⟩:=h;intro q hq hb;rcases hO.2 with ⟨rfl,_⟩ | ⟨g,cp,cur,fr,rfl,hg,_⟩
 ·simp[Value.ownBlock] at hq
 ·obtain rfl:g=q:=by simpa [Value.ownBlock] using hq
  have Zi:∀ {v2:Value} {n2:Nat} {Ak:List Value},Own w 9 1 v2 n2 Ak→v2.ownBlock=some g→False:=by
   intro v2 n2 Ak h hv;rcases h.2 with ⟨rfl,_⟩ | ⟨g',cp',cur',fr',rfl,hg',_⟩
   ·simp[Value.ownBlock] at hv
   ·obtain rfl:g'=g:=by simpa [Value.ownBlock] using hv
    rw[hg] at hg';have h3:=dw hg';injection h3 with _ h4;exact h2 h4
  simp only[cn,nY] at hb;rcases hb with rfl | rfl | rfl | ⟨x,hx,hk⟩
  ·exact hO.fO g1 h1 (by simp[Value.ownBlock])
  ·exact Zi g2 (by simp[Value.ownBlock])
  ·exact hO.PE g3 (by simp[Value.ownBlock])
  ·obtain⟨i,_,_,_,h8⟩:=g4.each x hx
   exact Zi h8 hk
structure zf (w wr:World) (p b:Nat) (d:Dk) (k:Kp) (F F':List Nat) (v:Value) (l:List Pt):Prop where
 bO:bI wr p d F'
 sub:∀q ∈ F',q ∈ F∨w.heap.size≤q
 kept:η wr b 209 (k.cells p)
 ε:ζ (fun q=>q=b∨q ∈ F) w wr
 list:Own wr 277 4 v l.length (oR l)
theorem zf.below {w w1 w2:World} {p b:Nat} {d:Dk} {k:Kp} {F F':List Nat} {v:Value} {l:List Pt} (h:zf w w1 p b d k F F' v l) (hb:Below w1.heap.size w1 w2):zf w w2 p b d k F F' v l :=
 ⟨h.bO.below hb,h.sub,h.kept.cU (hb.block _ h.kept.lt),h.ε.then (ζ.oI hb (fun _=>False)) φ,h.list.cU fun q hq=>hb.block q (h.list.lt hq)⟩
theorem zf.wrote {w w1 w2:World} {p b:Nat} {d d2:Dk} {k:Kp} {F F' F2:List Nat} {v:Value} {l:List Pt} (h:zf w w1 p b d k F F' v l) (hL:Left w1 w2 p d2 F' F2):zf w w2 p b d2 k F F2 v l:=by
 have hs:=h.ε.size;refine⟨hL.bO,fun q hq=>?_,h.kept.ε hL.ε (h.bO.not_mem h.kept dC dC),h.ε.then hL.ε (fun q e=>(h.sub q e).imp .inr id),h.list.ε hL.ε fun q hq=>h.bO.WL h.list dC dC q hq⟩;rcases hL.sub q hq with e | e
 ·exact h.sub q e
 ·exact .inr oM
theorem Bl (t:List UInt8) (g j:Nat) (hj:j<(aX t g).length):(aX t g)[j].gen=g∧(aX t g)[j].number=j∧(aX t g)[j].all=aO t.length∧(aX t g)[j].text.length≤48:=by
 simp[aX]
 omega
theorem afo {w:World} {p b:Nat} {d:Dk} {F:List Nat} {k:Kp} (hD:bI w p d F) (hK:η w b 209 (k.cells p)) (s:ByteArray)
 (hb:k.broken=false) (hs:s.size≤400) (D7:k.seen<18446744073709551615) (hat:k.at_≤1) (hf:k.from_≤4096) (hp:d.pend+20<1000000) :
 ς 127 #[.pointer (some ⟨b,0,none⟩),.string s] w fun e w'=>e=ώ (ι (eu d k s.data.toList).2.2)∧KY w w' p b (eu d k s.data.toList).1 (eu d k s.data.toList).2.1 F:=by
 have hc:=hK.rQ;have iB:=hK.frozen 6;have yy:=hD.not_mem hK dC dC;have ajW:((k.seen:Int) == 18446744073709551615)=false:=by rw[eV];omega
 have hs':¬(400:Int)<(s.size:Int):=oM;have hsub:IntKind.i64.wrap (1 - (k.at_:Int))=((1 - k.at_:Nat):Int):=by rw[bX _ oM];omega
 have aj5:(1 - (k.at_:Int))=((1 - k.at_:Nat):Int):=oM;have zB:Hid (∀W,ς 173 #[.string s,ω ((k.seen:Int)+1)] W fun e w'=>∃v,e=ώ v∧Own w' 277 4 v (aO s.size) (oR (aX s.data.toList (k.seen+1)))∧Below W.heap.size W w'∧(∀q,v.ownBlock=some q→W.heap.size≤q)):=by
  intro W;have h:=XV s (k.seen+1) W oM;rw[show ((k.seen+1:Nat):Int)=(k.seen:Int)+1 from by omega] at h;exact h
 have qy:η (w.setCell ⟨b,6,none⟩ (.bool true)) b 209 ({ k with broken:=true }.cells p):=by
  have h:=hK.bE 6 (.bool true);simpa [Kp.cells] using h
 have yz:bI (w.setCell ⟨b,6,none⟩ (.bool true)) p d F:=hD.cU fun q hq=>nU w _ _ q (fun e=>yy (by have e':q=b:=e;rw[← e'];exact hq))
 have kD:ζ (fun q=>q=b∨q ∈ F) w (w.setCell ⟨b,6,none⟩ (.bool true)):=(ζ.refl _ w).setCell (p:=⟨b,6,none⟩) (.inl (.inl rfl)) _;have hcb:=qy.rQ;have hsz:(w.setCell ⟨b,6,none⟩ (.bool true)).heap.size=w.heap.size:=by simp
 have HB:=cx qy yz kD hsz yy;have hlt:=hK.lt;rw[hb] at hc;have HP:=cx hb hs D7 hp hlt;clear hD hK yy qy yz kD hsz hb hp hlt;go_enter func127,ntmps127
 go_wp2_with (go_at_call 173;refine(zB.out _).mono ?_;rintro e w1 ⟨v1,rfl,gj,ec,ir⟩;obtain⟨g1,Em,rfl,hx1,hx2⟩:=gj.head (by unfold aO;omega));have jW:s.data.toList.length=s.size:=by simp
 have Ac:(aX s.data.toList (k.seen+1)).length=aO s.size:=by rw[oJ,jW]
 have Zj:zf w w1 p b d { k with broken:=true } F F (.slice (some ⟨g1,0,none⟩) (aO s.size) Em) (aX s.data.toList (k.seen+1)):=by
  obtain⟨qy,yz,kD,hsz,yy⟩:=HB.out;refine⟨yz.below ec,fun q hq=>.inl hq,qy.cU (ec.block _ qy.lt),kD.then (ζ.oI ec (fun _=>False)) φ,?_⟩;rw[Ac];exact gj
 have HPt:=δ Zj;have hA:aO s.size≤9:=by unfold aO;omega
 clear gj ec ir Zj hc hcb iB;go_loopw [51] (fun i wr=>∃(j:Nat) (F':List Nat),j≤aO s.size∧i=ι j∧(gQ d (k.from_+(1 - k.at_)*10) (aX s.data.toList (k.seen+1)) j).2=0∧zf w wr p b (gQ d (k.from_+(1 - k.at_)*10) (aX s.data.toList (k.seen+1)) j).1 { k with broken:=true } F F' (.slice (some ⟨g1,0,none⟩) (aO s.size) Em) (aX s.data.toList (k.seen+1))) (fun i _=>aO s.size - (intOf i).toNat)
 case atStart=>exact⟨0,F,oM,rfl,rfl,HPt.out⟩
 case round =>
  obtain⟨j,F',hj,rfl,he,hL⟩:=hrel;by_cases hlt:j<aO s.size
  ·have CC:j<(aX s.data.toList (k.seen+1)).length:=oM
   obtain⟨c1,c2,c3,c4⟩:=Bl s.data.toList (k.seen+1) j CC;have s9:=δ (afc (aX s.data.toList (k.seen+1))[j] (hg:=by rw[c1];have:=HP.out.2.2.1;omega) (ht:=c4) (hn:=by rw[c2];omega) (ha:=by rw[c3,jW];omega));have uY:=hL.list;rw[Ac] at uY;have jr:∀i,i<4→wr.cell? ⟨g1,j*4+i,none⟩=(Pt.cells (aX s.data.toList (k.seen+1))[j])[i]? := by
    intro i hi;rw[uY.cellAt (j*4+i) oM,Oh _ j CC i hi]
   have sw:=jr 0 oM;have oy:=jr 1 oM;have mQ:=jr 2 oM;have pF:=jr 3 oM;simp only[rM,Pt.cells,oH,pP] at sw oy mQ pF;have yA:=UL d (k.from_+(1 - k.at_)*10) (aX s.data.toList (k.seen+1)) HB.out.2.1.wf.len j;have hst:gQ d (k.from_+(1 - k.at_)*10) (aX s.data.toList (k.seen+1)) (j+1)=(gQ d (k.from_+(1 - k.at_)*10) (aX s.data.toList (k.seen+1)) j).1.write ((k.from_+(1 - k.at_)*10+j:Nat):Int) (aX s.data.toList (k.seen+1))[j].sec:=by
    rw[gQ,ν (by rw[he];simp),bJ,bD CC]
    rfl
   have HW:=aD yA hst he hL;have hto:(1 - k.at_:Nat)≤1:=oM;clear jr uY yA hst he hL c1 c2 c3 c4;generalize (aX s.data.toList (k.seen+1))[j]=pt at *;generalize Zk:(1 - k.at_:Nat)=tR at *;have HTO:=δ Zk;clear Zk;have hs1:IntKind.i64.wrap ((tR:Int)*10)=(tR:Int)*10:=bX _ oM;have bV:IntKind.i64.wrap ((k.from_:Int)+(tR:Int)*10)=(k.from_:Int)+(tR:Int)*10:=bX _ oM;have eU:IntKind.i64.wrap ((k.from_:Int)+(tR:Int)*10+(j:Int))=(k.from_:Int)+(tR:Int)*10+(j:Int):=bX _ oM;go_wp2_with (first
    |(refine ef 277 wr.heap.size #[ω pt.gen,ι pt.number,ι pt.all,.string (str pt.text)] (η.new wr 277 #[ω 0,ι 0,ι 0,.string ⟨#[]⟩]) (KJ pt) ?_
      intro w4 aE ag hs4;have hb4:Below wr.heap.size wr w4:=⟨ag.os,ag.tape,ag.output,by simp at hs4;omega,fun q hq=>(ag.block q (by simp;omega) oM).trans (qJ wr _ q hq)⟩;have sy:=aj (HW.out.2.2.2.below hb4) aE hb4;have su:=aE.iI;have wX:=sy.out.1.kept.rQ;clear aE ag hs4 hb4 sw oy mQ pF))
   have RQ:=HP.out.2.2.2.1;have CD:=δ (show ((k.from_:Int)+(tR:Int)*10+(j:Int))=((k.from_+tR*10+j:Nat):Int) by omega);go_region_held3 (fun w'=>w'.cell? ⟨b,0,none⟩=some (.pointer (some ⟨p,0,none⟩))∧w'.cell? ⟨b,1,none⟩=some (ι (k.from_:Int))∧w'.cell? ⟨wr.heap.size,0,none⟩=some (ω pt.gen)∧w'.cell? ⟨wr.heap.size,1,none⟩=some (ι pt.number)∧w'.cell? ⟨wr.heap.size,2,none⟩=some (ι pt.all)∧w'.cell? ⟨wr.heap.size,3,none⟩=some (.string (str pt.text)))
    (first| go_keep |(refine⟨?_,?_,?_,?_,?_,?_⟩<;>simp[*]))
    (first
      |(go_at_call 186
        refine(s9.out _).mono ?_;rintro e w5 ⟨rfl,ox⟩;have x9:Below w4.heap.size w4 w5:=vQ ox;have u_:=aj (sy.out.1.below x9) (sy.out.2.1.cU (x9.block _ sy.out.2.1.lt)) (sy.out.2.2.trans (x9.mono sy.out.2.2.size));have Cy:=u_.out.1.kept.rQ;have yu:=u_.out.2.1.iI;clear ox x9)
      |(go_at_call 115
        rw[CD.out];refine(Pn u_.out.1.bO _ _ (oN HW.out.1.2.2)).mono ?_;rintro e w6 ⟨rfl,F2,yB⟩;have rE:=τ (u_.out.1.wrote yB) yB;have Sh:=rE.out.1.kept.rQ;have Si:=(u_.out.2.1.ε yB.ε (fun e=>by have h1:=HW.out.2.2.2.bO.lt _ e;omega)).iI;clear yB))
   all_goals
    have B4:(gQ d (k.from_+tR*10) (aX s.data.toList (k.seen+1)) j).1.write ((k.from_+tR*10+j:Nat):Int) (str (gH pt.body))=gQ d (k.from_+tR*10) (aX s.data.toList (k.seen+1)) (j+1):=HW.out.2.1.symm;have wC:=B4;rw[← CD.out] at wC;rw[B4] at rE;rw[wC];generalize I4:gQ d (k.from_+tR*10) (aX s.data.toList (k.seen+1)) (j+1)=r at rE ⊢;have gp:=δ I4;clear B4 wC I4 Sh Si Cy yu su wX;by_cases hr:r.2=0
    ·rw[hr]
     go_wp2
     go_roundw
     case rel=>exact⟨j+1,F2,oM,by go_num,by rw[gp.out];exact hr,by rw[gp.out];exact rE.out.1⟩
     case measure=>simp[intOf];omega
    ·have hr':(r.2 != 0)=true:=by rw[jZ];exact hr
     have HR:=δ hr;clear hr;have hk:eu d k s.data.toList=(r.1,{ k with broken:=true },r.2):=by
      have I5:gQ d (k.from_+(1 - k.at_)*10) (aX s.data.toList (k.seen+1)) (aO s.data.toList.length)=r:=by
       rw[jW,HTO.out,ab4 (j:=j+1) (by rw[gp.out];exact HR.out) oM,gp.out]
      unfold eu;rw[HP.out.1,ν sM,ν oM,ν (oN HP.out.2.2.1),I5,σ HR.out]
     have HK:=δ hk;clear hk;go_wp2
     go_ret
     rw[HK.out];exact⟨rfl,⟨F2,rE.out.1.bO,rE.out.1.sub⟩,rE.out.1.kept,rE.out.1.ε⟩
  ·obtain rfl:j=aO s.size:=oM
   have vc:=PK hL.bO;generalize oy:gQ d (k.from_+(1 - k.at_)*10) (aX s.data.toList (k.seen+1)) (aO s.size)=r at *;have hput:eu d k s.data.toList=if r.1.sync.2≠0 then (r.1.sync.1,{ k with broken:=true },r.1.sync.2) else (r.1.sync.1,{ k with seen:=k.seen+1,text:=s.data.toList,gen:=k.seen+1,at_:=1 - k.at_,broken:=false },0):=by
    unfold eu;rw[HP.out.1,ν sM,ν oM,ν (oN HP.out.2.2.1),jW,oy,ν (by rw[he];simp)]
   have HL:=τ hL he;have I6:=hL.kept.rQ;clear hL he oy Ac jW HPt;by_cases hr:r.1.sync.2=0
   ·rw[ν (by rw[hr];simp)] at hput
    rw[hr] at vc;have Al:=δ vc;have Am:=δ hput;clear vc hput hr;go_wp2_with (go_at_call 117;refine Al.out.mono ?_;rintro e w7 ⟨rfl,F3,hS⟩;have gG:=δ (HL.out.1.wrote hS);have EV:=gG.out.kept.rQ;have Ey:=gG.out.kept.frozen 2;have uQ:=gG.out.kept.frozen 3;have Ez:=gG.out.kept.frozen 4;have MP:=gG.out.kept.frozen 5;have MQ:=gG.out.kept.frozen 6;clear hS);go_ret
    rw[Am.out];have hnb:=gG.out.bO.not_mem gG.out.kept dC dC;have h:=((((gG.out.kept.bE 5 (ω ((k.seen:Int)+1))).bE 2 (.string s)).bE 3 (ω ((k.seen:Int)+1))).bE 4 (ι ((1 - k.at_:Nat):Int))).bE 6 (.bool false);refine⟨rfl,⟨F3,gG.out.bO.cU fun q hq=>?_,gG.out.sub⟩,?_,((((gG.out.ε.setCell (p:=⟨b,5,none⟩) (.inl (.inl rfl)) _).setCell (p:=⟨b,2,none⟩) (.inl (.inl rfl)) _).setCell (p:=⟨b,3,none⟩) (.inl (.inl rfl)) _).setCell (p:=⟨b,4,none⟩) (.inl (.inl rfl)) _).setCell (p:=⟨b,6,none⟩) (.inl (.inl rfl)) _⟩
    ·have hne:q≠b:=fun e=>hnb (e ▸ hq)
     rw[nU _ _ _ q hne,nU _ _ _ q hne,nU _ _ _ q hne,nU _ _ _ q hne,nU _ _ _ q hne]
    ·have he:(str s.data.toList)=s:=DN s
     simp only[Kp.cells,jy,vN,vO] at h;simp only[Kp.cells,he];exact h
   ·rw[σ hr] at hput
    have hr':(r.1.sync.2 != 0)=true:=by rw[jZ];exact hr
    have Al:=δ vc;have Am:=δ hput;clear vc hput hr;go_wp2_with (go_at_call 117;refine Al.out.mono ?_;rintro e w7 ⟨rfl,F3,hS⟩;have gG:=δ (HL.out.1.wrote hS);clear hS);go_ret
    rw[Am.out];exact⟨rfl,⟨F3,gG.out.bO,gG.out.sub⟩,gG.out.kept,gG.out.ε⟩
structure GI (w:World) (p b:Nat) (g:Lg):Prop where
 ex:∃v,η w b 199 (g.cells p v)∧Own w 9 1 v g.l.length (strs g.l)
section
variable {w w':World} {p b:Nat} {g:Lg}
end
theorem Dx (A:Option Addr) (n c:Nat) (w:World) (T:TypeId) (t:TypeId) (hT:prog.underlying T=some (.slice t)):(binOp .eql T (.slice A n c) (.slice none 0 0)).run prog w=.ok (.bool A.isNone) w :=
 Lib.run_eql_slice_nil w T t A n c 0 0 hT
theorem KZ {w:World} {p b:Nat} {g:Lg} (h:GI w p b g) :
 ς 111 #[.pointer (some ⟨b,0,none⟩)] w fun e w'=>e=ώ (.bool false)∧w=w':=by
 obtain⟨v,h1,-⟩:=h.ex;have hc:=h1.og;clear h h1;go_enter func111,ntmps111
 go_wp2
 go_ret
 exact⟨rfl,rfl⟩
theorem Xm {w:World} {p b:Nat} {g:Lg} (h:GI w p b g) (hu:g.used≤g.dZ) (hs:g.dZ≤5000) :
 ς 113 #[.pointer (some ⟨b,0,none⟩)] w fun e w'=>e=ώ (ι ((g.dZ - g.used:Nat):Int))∧w.drew=w':=by
 have HN:=δ (KZ h);obtain⟨v,h1,-⟩:=h.ex;have hc:=h1.og;have hsub:(g.dZ:Int) - (g.used:Int)=((g.dZ - g.used:Nat):Int):=oM;have HS:=δ hsub;have hw:IntKind.i64.wrap ((g.dZ:Int) - (g.used:Int))=(g.dZ:Int) - (g.used:Int):=bX _ oM;clear h h1 hsub;go_enter func113,ntmps113
 go_wp2_with (go_at_call 111;refine HN.out.mono ?_;rintro e w' ⟨rfl,rfl⟩);go_region_held3 (fun w'=>w'.cell? ⟨b,2,none⟩=some (ι (g.dZ:Int))∧w'.cell? ⟨b,5,none⟩=some (ι (g.used:Int))) (go_keep) (first| fail)
 all_goals go_wp2_with fail
 all_goals
  go_ret
  exact⟨by rw[← HS.out];rfl,rfl⟩
theorem agR {w:World} {v:Value} {l:List ByteArray} (h:Own w 9 1 v l.length (strs l)) (hl:l.length≤5000) :
 ς 184 #[v] w fun e w'=>∃v',e=ώ v'∧Own w' 9 1 v' l.length (strs l)∧υ w w'∧(∀q,v'.ownBlock=some q→w.heap.size≤q):=by
 obtain⟨i0,bx,bN,bG,aT⟩:=je Gm;have H:=δ h;obtain⟨A,cap,e,h1,h2⟩:=h.shape;subst e;clear h;cases A with
 | none =>
   have hnil:=fun W=>Dx none l.length cap W 147 _ underlying147
   simp only[aa2] at hnil;go_enter func184,ntmps184
   go_wp2_with fail
   go_ret
   refine⟨_,rfl,?_,ζ.refl _ _,by simp[Value.ownBlock]⟩;rcases H.out.2 with ⟨e,h0⟩ | ⟨g,c,cur,fr,e,_⟩
   ·have hl0:l=[]:=yX h0
    subst hl0;exact Own.nil _ _ _
   ·simp at e
 | some a =>
   have hnil:=fun W=>Dx (some a) l.length cap W 147 _ underlying147
   simp only[aa3] at hnil;go_enter func184,ntmps184
   have Ao:Own (w.alloc (.cells #[] 9)) 9 1 (.slice (some ⟨w.heap.size,0,none⟩) 0 0) 0 []:=⟨sM,.inr ⟨w.heap.size,0,#[],(0,0),rfl,yV w _,.inl rfl,bQ _,sM,rfl,rfl⟩⟩;have I7:=δ Ao;clear Ao
   go_wp2_with (at_builtin
                refine jH rfl _ _ _ _ rfl 9 i0 _ 1 16 underlying147 bx bN bG aT rfl _ 0 _ rfl I7.out _ l.length (strs l) rfl (Src.jK underlying147 (H.out.alloc _)) (ae6 l) (by unfold maxLen;omega) oM ?_;intro v' w2 bH π hl2 bV;have H2:=aj bH π hl2;clear bH π hl2 bV)
   go_ret
   obtain⟨bH,π,hl2⟩:=H2.out;refine⟨v',rfl,by simpa using bH,((ζ.refl _ w).alloc _).then π (fun b e=>.inr (by have e2:=dw (show some w.heap.size=some b from e);omega)),fun q hq=>?_⟩;rcases hl2 with e | e
   ·rw[e] at hq
    have:=dw (show some w.heap.size=some q from hq);omega
   ·rw[e] at hq
    have:=dw hq;simp at this
    omega
theorem adR {w:World} {p b:Nat} {g:Lg} (h:GI w p b g) (hl:g.l.length≤5000) :
 ς 125 #[.pointer (some ⟨b,0,none⟩)] w fun e w'=>∃v',e=ώ v'∧Own w' 9 1 v' g.l.length (strs g.l)∧υ w w'∧(∀q,v'.ownBlock=some q→w.heap.size≤q):=by
 have HN:=δ (KZ h);obtain⟨v,h1,h2⟩:=h.ex;have hc:=h1.og;have HC:=δ (agR h2 hl);clear h h1 h2;go_enter func125,ntmps125
 go_wp2_with (first
  |(go_at_call 111;refine HN.out.mono ?_;rintro e w' ⟨rfl,rfl⟩)
  |(go_at_call 184;refine HC.out.mono ?_;rintro e w' ⟨v',rfl,h3,h4,h5⟩;have H3:=aj h3 h4 h5;clear h3 h4 h5))
 go_ret
 exact⟨_,rfl,H3.out.1,H3.out.2.1,H3.out.2.2⟩
def Lp.sec (p:Lp):ByteArray:=str (gH p.body)
def dM (d:Dk) (a:Nat) (l:List ByteArray):Nat→Dk × Int
 | 0=>(d,0)
 | j+1=>if (dM d a l j).2≠0 then dM d a l j else (dM d a l j).1.write ((a+j:Nat):Int) (l.getD j ByteArray.empty)
theorem UM {d:Dk} {a:Nat} {l:List ByteArray} {j m:Nat} (h:(dM d a l j).2≠0) (hm:j≤m):dM d a l m=dM d a l j:=by
 induction m with
 | zero => obtain rfl:j=0:=oM
           rfl
 | succ m ih =>
   by_cases e:j=m+1
   ·rw[e]
   ·rw[dM,ih oM,σ h]
theorem Bd (d:Dk) (a:Nat) (l:List ByteArray) (hl:d.waits.length=d.af.length) (j:Nat) :
 (dM d a l j).1.af=d.af∧(dM d a l j).1.waits.length=d.waits.length∧(dM d a l j).1.pend≤d.pend+j:=by
 induction j with
 | zero=>exact⟨rfl,rfl,by simp[dM]⟩
 | succ j ih =>
   rw[dM];split
   ·exact⟨ih.1,ih.2.1,oM⟩
   ·refine⟨(UJ _ _ _).trans ih.1,(UK _ _ _).trans ih.2.1,?_⟩
    have h:=U7 (dM d a l j).1 ((a+j:Nat):Int) (l.getD j ByteArray.empty) (by rw[ih.2.1,ih.1,hl]);omega
def l8 (g:Lg) (text:List UInt8):List ByteArray:=(dm text g.θ (g.aq+1) g.last).map Lp.sec
theorem Vz (g:Lg) (text:List UInt8):(l8 g text).length=partsOf text.length:=by rw[l8,bp,um]
def qO (d:Dk) (g:Lg) (text:List UInt8):Dk × Int:=dM d (g.from_+g.used) (l8 g text) (partsOf text.length)
def lR (d:Dk) (g:Lg) (s:ByteArray):Dk × Lg × Int :=
 if g.broken then (d,g,11) else if 1024<s.size then (d,g,3) else if g.dZ - g.used<partsOf s.size∨g.aq=18446744073709551615 then (d,g,6) else
 if (qO d g s.data.toList).2≠0 then ((qO d g s.data.toList).1,{ g with broken:=true },(qO d g s.data.toList).2) else
 if (qO d g s.data.toList).1.sync.2≠0 then ((qO d g s.data.toList).1.sync.1,{ g with broken:=true },(qO d g s.data.toList).1.sync.2) else
 ((qO d g s.data.toList).1.sync.1,{ g with aq:=g.aq+1,last:=g.aq+1,broken:=false,l:=g.l++[s],used:=g.used+partsOf s.size },0)
structure Gr (w w':World) (p b:Nat) (d:Dk) (g:Lg) (F:List Nat) (v:Value):Prop where
 ex:∃F' v',bI w' p d F'∧(∀q ∈ F',q ∈ F∨w.heap.size≤q)∧η w' b 199 (g.cells p v')∧Own w' 9 1 v' g.l.length (strs g.l) ∧
  (∀q,v'.ownBlock=some q→v.ownBlock=some q∨w.heap.size≤q)∧(∀q,v'.ownBlock=some q→q ∉ F')
 ε:ζ (fun q=>q=b∨q ∈ F∨v.ownBlock=some q) w w'
structure vW (w wr:World) (p b:Nat) (d:Dk) (g:Lg) (F F':List Nat) (v pv:Value) (l:List Lp):Prop where
 bO:bI wr p d F'
 sub:∀q ∈ F',q ∈ F∨w.heap.size≤q
 log:η wr b 199 (g.cells p v)
 own:Own wr 9 1 v g.l.length (strs g.l)
 old:∀q,v.ownBlock=some q→q<w.heap.size
 sep:∀q,v.ownBlock=some q→q ∉ F'
 ε:ζ (fun q=>q=b∨q ∈ F) w wr
 list:Own wr 204 6 pv l.length (nB l)
theorem vW.below {w w1 w2:World} {p b:Nat} {d:Dk} {g:Lg} {F F':List Nat} {v pv:Value} {l:List Lp} (h:vW w w1 p b d g F F' v pv l) (hb:Below w1.heap.size w1 w2):vW w w2 p b d g F F' v pv l :=
 ⟨h.bO.below hb,h.sub,h.log.cU (hb.block _ h.log.lt),h.own.cU fun q hq=>hb.block q (h.own.lt hq),h.old,h.sep,h.ε.then (ζ.oI hb (fun _=>False)) φ,h.list.cU fun q hq=>hb.block q (h.list.lt hq)⟩
theorem vW.wrote {w w1 w2:World} {p b:Nat} {d d2:Dk} {g:Lg} {F F' F2:List Nat} {v pv:Value} {l:List Lp} (h:vW w w1 p b d g F F' v pv l) (hL:Left w1 w2 p d2 F' F2):vW w w2 p b d2 g F F2 v pv l:=by
 have hs:=h.ε.size;refine⟨hL.bO,fun q hq=>?_,h.log.ε hL.ε (h.bO.not_mem h.log dC dC),h.own.ε hL.ε h.sep,h.old,fun q hq i7=>?_,h.ε.then hL.ε (fun q e=>(h.sub q e).imp .inr id),h.list.ε hL.ε fun q hq=>h.bO.WL h.list dC dC q hq⟩
 ·rcases hL.sub q hq with e | e
  ·exact h.sub q e
  ·exact .inr oM
 ·rcases hL.sub q i7 with e | e
  ·exact h.sep q hq e
  ·have:=h.old q hq
   omega
theorem vW.left {w wr:World} {p b:Nat} {d:Dk} {g:Lg} {F F':List Nat} {v pv:Value} {l:List Lp} (h:vW w wr p b d g F F' v pv l):Gr w wr p b d g F v :=
 ⟨⟨F',v,h.bO,h.sub,h.log,h.own,fun _ hq=>.inl hq,h.sep⟩,h.ε.mono (fun _ e=>.inl (e.imp id .inl))⟩
theorem afp {w:World} {p b:Nat} {d:Dk} {F:List Nat} {g:Lg} {v:Value} (hD:bI w p d F) (hB:η w b 199 (g.cells p v)) (hO:Own w 9 1 v g.l.length (strs g.l)) (hsep:∀q,v.ownBlock=some q→q ∉ F) (s:ByteArray)
 (hb:g.broken=false) (hs:s.size≤1024) (hr:partsOf s.size≤g.dZ - g.used) (GJ:g.aq<18446744073709551615) (hf:g.from_≤5000) (Ap:g.dZ≤5000) (hu:g.used≤g.dZ) (gE:g.l.length≤5000) (fB:g.θ<18446744073709551616) (hla:g.last<18446744073709551616) (hp:d.pend+40<1000000) :
 ς 58 #[.pointer (some ⟨b,0,none⟩),.string s] w fun e w'=>e=ώ (ι (lR d g s).2.2)∧Gr w w' p b (lR d g s).1 (lR d g s).2.1 F v:=by
 obtain⟨i0,bx,bN,bG,aT⟩:=je Gm;have Sj:GI w p b g:=⟨v,hB,hO⟩;have yC:=δ (KZ Sj);have Sk:=δ (Xm Sj hu Ap);have yy:=hD.not_mem hB dC dC;have w_:v.ownBlock≠some b:=hO.fO hB dC;have hc:=hB.og;have kC:=hB.frozen 8;have hA:partsOf s.size≤33:=by unfold partsOf;omega
 have Ch:1≤partsOf s.size:=by unfold partsOf;omega
 have hs':¬(1024:Int)<(s.size:Int):=oM;have hr':¬((g.dZ - g.used:Nat):Int)<((partsOf s.size:Nat):Int):=oM;have ajX:((g.aq:Int) == 18446744073709551615)=false:=by rw[eV];omega
 have zB:Hid (∀W,ς 114 #[.string s,ω (g.θ:Int),ω ((g.aq:Int)+1),ω (g.last:Int)] W fun e w'=>∃v,e=ώ v∧Own w' 204 6 v (partsOf s.size) (nB (dm s.data.toList g.θ (g.aq+1) g.last))∧Below W.heap.size W w'∧(∀q,v.ownBlock=some q→W.heap.size≤q)):=by
  intro W;have h:=Xl s g.θ (g.aq+1) g.last W oM;rw[show ((g.aq+1:Nat):Int)=(g.aq:Int)+1 from by omega] at h;exact h
 have kP:η ((w.setCell ⟨b,8,none⟩ (.bool true)).drew) b 199 ({ g with broken:=true }.cells p v):=by
  have h:=(hB.bE 8 (.bool true)).drew;simpa [Lg.cells] using h
 have yz:bI ((w.setCell ⟨b,8,none⟩ (.bool true)).drew) p d F:=(hD.cU (w':=w.setCell ⟨b,8,none⟩ (.bool true)) fun q hq=>nU w _ _ q (fun e=>yy (by have e':q=b:=e;rw[← e'];exact hq))).drew;have kD:ζ (fun q=>q=b∨q ∈ F) w ((w.setCell ⟨b,8,none⟩ (.bool true)).drew):=((ζ.refl _ w).setCell (p:=⟨b,8,none⟩) (.inl (.inl rfl)) _).drew;have xj:Own ((w.setCell ⟨b,8,none⟩ (.bool true)).drew) 9 1 v g.l.length (strs g.l):=(hO.bP (p:=⟨b,8,none⟩) w_ _).drew;have HB:=o_ kP yz kD xj yy w_ hsep;have HV:=δ (fun q (hq:v.ownBlock=some q)=>hO.lt hq);rw[hb] at hc;have HP:=zO hb hs hr GJ hp hB.lt fB hla;clear hD hB hO hsep Sj yy w_ kP yz kD xj hb hp;go_enter func58,ntmps58
 go_wp2_with fail
 refine yC.out.mono ?_;rintro e w' ⟨rfl,rfl⟩;go_wp2_with fail
 refine(Gq s _ oM).mono ?_;rintro e w' ⟨rfl,rfl⟩;go_wp2_with fail
 refine Sk.out.mono ?_;rintro e w' ⟨rfl,rfl⟩;go_wp2_with fail
 have hcb:=HB.out.1.og;have hsw:IntKind.u64.wrap ((g.aq:Int)+1)=(g.aq:Int)+1:=by
  simp only[IntKind.wrap,IntKind.bits,IntKind.signed];simp
  omega
 have ER := δ hc;clear hc kC;generalize (w.setCell ⟨b,8,none⟩ (.bool true)).drew=W at *;go_region_held3 (fun w'=>w'.cell? ⟨b,3,none⟩=some (ω (g.θ:Int))∧w'.cell? ⟨b,6,none⟩=some (ω (g.last:Int))∧w'.cell? ⟨b,7,none⟩=some (ω (g.aq:Int))) (first| go_keep)
  (first|(go_at_call 114
          refine(zB.out _).mono ?_;rintro e w1 ⟨v1,rfl,gj,ec,ir⟩;obtain⟨g1,Em,rfl,hx1,hx2⟩:=gj.head oM;have QM:Below W.heap.size W w1:=vQ ec;have hk1:=(HB.out.1.cU (QM.block _ HB.out.1.lt)).og;have H1:=τ gj QM;clear gj ec ir QM))
 all_goals
  have jW:s.data.toList.length=s.size:=by simp
  have Ac:(dm s.data.toList g.θ (g.aq+1) g.last).length=partsOf s.size:=by rw[um,jW]
  have EW:vW w w1 p b d { g with broken:=true } F F v (.slice (some ⟨g1,0,none⟩) (partsOf s.size) Em) (dm s.data.toList g.θ (g.aq+1) g.last):=by
   obtain⟨kP,yz,kD,xj,yy,w_,hsep⟩:=HB.out;obtain⟨gj,ec⟩:=H1.out;refine⟨yz.below ec,fun q hq=>.inl hq,kP.cU (ec.block _ kP.lt),xj.cU fun q hq=>ec.block q (xj.lt hq),HV.out,hsep,kD.then (ζ.oI ec (fun _=>False)) φ,?_⟩;rw[Ac];exact gj
  have HAd:=δ EW;clear EW hcb hk1;go_wp2_with fail
  go_loopw [53] (fun i wr=>∃(j:Nat) (F':List Nat),j≤partsOf s.size∧i=ι j∧(dM d (g.from_+g.used) (l8 g s.data.toList) j).2=0∧vW w wr p b (dM d (g.from_+g.used) (l8 g s.data.toList) j).1 { g with broken:=true } F F' v (.slice (some ⟨g1,0,none⟩) (partsOf s.size) Em) (dm s.data.toList g.θ (g.aq+1) g.last)) (fun i _=>partsOf s.size - (intOf i).toNat)
  case atStart=>exact⟨0,F,oM,rfl,rfl,HAd.out⟩
  case round =>
   obtain⟨j,F',hj,rfl,he,hL⟩:=hrel;by_cases hlt:j<partsOf s.size
   ·have CC:j<(dm s.data.toList g.θ (g.aq+1) g.last).length:=oM
    obtain⟨c0,c1,c2,c3,c4,c5⟩:=Ge s.data.toList g.θ (g.aq+1) g.last j CC;have s9:=δ (fun W=>afn (dm s.data.toList g.θ (g.aq+1) g.last)[j] W (by rw[c0,c1,c2];have:=HP.out.2.2.2.2.2.2;omega) c5 (by rw[c3];omega) (by rw[c4,jW];omega));have uY:=hL.list;rw[Ac] at uY;have jr:∀i,i<6→wr.cell? ⟨g1,j*6+i,none⟩=(Lp.cells (dm s.data.toList g.θ (g.aq+1) g.last)[j])[i]? := by
     intro i hi;rw[uY.cellAt (j*6+i) oM,U6 _ j CC i hi]
    have sw:=jr 0 oM;have oy:=jr 1 oM;have mQ:=jr 2 oM;have pF:=jr 3 oM;have fc:=jr 4 oM;have ve:=jr 5 oM;simp only[rM,Lp.cells,oH,pP] at sw oy mQ pF fc ve;have yA:=Bd d (g.from_+g.used) (l8 g s.data.toList) HB.out.2.1.wf.len j;have hst:dM d (g.from_+g.used) (l8 g s.data.toList) (j+1)=(dM d (g.from_+g.used) (l8 g s.data.toList) j).1.write ((g.from_+g.used+j:Nat):Int) (dm s.data.toList g.θ (g.aq+1) g.last)[j].sec:=by
     rw[dM,ν (by rw[he];simp),bJ,l8,gu,bD CC]
     rfl
    have HW:=aD yA hst he hL;clear jr uY yA hst he hL c0 c1 c2 c3 c4 c5;generalize (dm s.data.toList g.θ (g.aq+1) g.last)[j]=pt at *;have hs1:IntKind.i64.wrap ((g.from_:Int)+(g.used:Int))=(g.from_:Int)+(g.used:Int):=bX _ oM;have bV:IntKind.i64.wrap ((g.from_:Int)+(g.used:Int)+(j:Int))=(g.from_:Int)+(g.used:Int)+(j:Int):=bX _ oM;go_wp2_with (first
     |(refine ef 204 wr.heap.size #[ω pt.θ,ω pt.aq,ω pt.ahead,ι pt.number,ι pt.all,.string (str pt.text)] (η.new wr 204 #[ω 0,ω 0,ω 0,ι 0,ι 0,.string ⟨#[]⟩]) (by simp[Value.oneCell']) ?_
       intro w4 aE ag hs4;have hb4:Below wr.heap.size wr w4:=⟨ag.os,ag.tape,ag.output,by simp at hs4;omega,fun q hq=>(ag.block q (by simp;omega) oM).trans (qJ wr _ q hq)⟩;have sy:=aj (HW.out.2.2.2.below hb4) aE hb4;have su:=aE.vU;have wX:=sy.out.1.log.og;clear aE ag hs4 hb4 sw oy mQ pF fc ve))
    have CD:=δ (show ((g.from_:Int)+(g.used:Int)+(j:Int))=((g.from_+g.used+j:Nat):Int) by omega);go_region_held3 (fun w'=>w'.cell? ⟨b,0,none⟩=some (.pointer (some ⟨p,0,none⟩))∧w'.cell? ⟨b,1,none⟩=some (ι (g.from_:Int))∧w'.cell? ⟨b,5,none⟩=some (ι (g.used:Int))∧w'.cell? ⟨wr.heap.size,0,none⟩=some (ω pt.θ)∧w'.cell? ⟨wr.heap.size,1,none⟩=some (ω pt.aq)∧w'.cell? ⟨wr.heap.size,2,none⟩=some (ω pt.ahead)∧w'.cell? ⟨wr.heap.size,3,none⟩=some (ι pt.number)∧w'.cell? ⟨wr.heap.size,4,none⟩=some (ι pt.all)∧w'.cell? ⟨wr.heap.size,5,none⟩=some (.string (str pt.text)))
     (first| go_keep |(refine⟨?_,?_,?_,?_,?_,?_,?_,?_,?_⟩<;>simp[*]))
     (first
       |(go_at_call 116
         refine(s9.out _).mono ?_;rintro e w5 ⟨rfl,ox⟩;have x9:Below w4.heap.size w4 w5:=vQ ox;have u_:=aj (sy.out.1.below x9) (sy.out.2.1.cU (x9.block _ sy.out.2.1.lt)) (sy.out.2.2.trans (x9.mono sy.out.2.2.size));have Cy:=u_.out.1.log.og;have yu:=u_.out.2.1.vU;clear ox x9)
       |(go_at_call 115
         rw[CD.out];refine(Pn u_.out.1.bO _ _ (oO HW.out.1.2.2 HP.out.2.2.2.2.1)).mono ?_;rintro e w6 ⟨rfl,F2,yB⟩;have rE:=τ (u_.out.1.wrote yB) yB;have Sh:=rE.out.1.log.og;have Si:=(u_.out.2.1.ε yB.ε (fun e=>by have h1:=HW.out.2.2.2.bO.lt _ e;omega)).vU;clear yB))
    all_goals
     have B4:(dM d (g.from_+g.used) (l8 g s.data.toList) j).1.write ((g.from_+g.used+j:Nat):Int) (str (gH pt.body))=dM d (g.from_+g.used) (l8 g s.data.toList) (j+1):=HW.out.2.1.symm;have wC:=B4;rw[← CD.out] at wC;rw[B4] at rE;rw[wC];generalize I4:dM d (g.from_+g.used) (l8 g s.data.toList) (j+1)=r at rE ⊢;have gp:=δ I4;clear B4 wC I4 Sh Si Cy yu su wX;by_cases hr:r.2=0
     ·rw[hr]
      go_wp2
      go_roundw
      case rel=>exact⟨j+1,F2,oM,by go_num,by rw[gp.out];exact hr,by rw[gp.out];exact rE.out.1⟩
      case measure=>simp[intOf];omega
     ·have hr':(r.2 != 0)=true:=by rw[jZ];exact hr
      have HR:=δ hr;clear hr;have hk:lR d g s=(r.1,{ g with broken:=true },r.2):=by
       have I5:qO d g s.data.toList=r:=by
        rw[qO,jW,UM (j:=j+1) (by rw[gp.out];exact HR.out) oM,gp.out]
       unfold lR;rw[HP.out.1,ν sM,ν oM,ν (oN HP.out.2.2),I5,σ HR.out]
      have HK:=δ hk;clear hk;go_wp2
      go_ret
      rw[HK.out];exact⟨rfl,rE.out.1.left⟩
   ·obtain rfl:j=partsOf s.size:=oM
    have vc:=PK hL.bO;generalize oy:dM d (g.from_+g.used) (l8 g s.data.toList) (partsOf s.size)=r at *;have hput:lR d g s=if r.1.sync.2≠0 then (r.1.sync.1,{ g with broken:=true },r.1.sync.2) else (r.1.sync.1,{ g with aq:=g.aq+1,last:=g.aq+1,broken:=false,l:=g.l++[s],used:=g.used+partsOf s.size },0):=by
     have I5:qO d g s.data.toList=r:=by rw[qO,jW,oy]
     unfold lR;rw[HP.out.1,ν sM,ν oM,ν (oN HP.out.2.2),I5,ν (by rw[he];simp)]
    have HL:=τ hL he;have I6:=hL.log.og;clear hL he oy Ac jW HAd;by_cases hr:r.1.sync.2=0
    ·rw[ν (by rw[hr];simp)] at hput
     rw[hr] at vc;have Al:=δ vc;have Am:=δ hput;clear vc hput hr;go_wp2_with (go_at_call 117;refine Al.out.mono ?_;rintro e w7 ⟨rfl,F3,hS⟩;have gG:=δ (HL.out.1.wrote hS);have EV:=gG.out.log.og;have MQ:=gG.out.log.frozen 6;have hf7:=gG.out.log.frozen 7;have hf8:=gG.out.log.frozen 8;clear hS);have hnb:=gG.out.bO.not_mem gG.out.log dC dC;have w_:=gG.out.own.fO gG.out.log dC;have jc:η (((w7.setCell ⟨b,7,none⟩ (ω ((g.aq:Int)+1))).setCell ⟨b,6,none⟩ (ω ((g.aq:Int)+1))).setCell ⟨b,8,none⟩ (.bool false)) b 199 ({ g with aq:=g.aq+1,last:=g.aq+1,broken:=false }.cells p v):=by
      have h:=((gG.out.log.bE 7 (ω ((g.aq:Int)+1))).bE 6 (ω ((g.aq:Int)+1))).bE 8 (.bool false);simp only[Lg.cells,jy,vN,vO] at h;exact h
     have I8:bI (((w7.setCell ⟨b,7,none⟩ (ω ((g.aq:Int)+1))).setCell ⟨b,6,none⟩ (ω ((g.aq:Int)+1))).setCell ⟨b,8,none⟩ (.bool false)) p r.1.sync.1 F3:=gG.out.bO.cU fun q hq=>by
      have hne:q≠b:=fun e=>hnb (e ▸ hq)
      rw[nU _ _ _ q hne,nU _ _ _ q hne,nU _ _ _ q hne]
     have qC:Own (((w7.setCell ⟨b,7,none⟩ (ω ((g.aq:Int)+1))).setCell ⟨b,6,none⟩ (ω ((g.aq:Int)+1))).setCell ⟨b,8,none⟩ (.bool false)) 9 1 v g.l.length (strs g.l):=((gG.out.own.bP (p:=⟨b,7,none⟩) w_ _).bP (p:=⟨b,6,none⟩) w_ _).bP (p:=⟨b,8,none⟩) w_ _;have cC:ζ (fun q=>q=b∨q ∈ F) w (((w7.setCell ⟨b,7,none⟩ (ω ((g.aq:Int)+1))).setCell ⟨b,6,none⟩ (ω ((g.aq:Int)+1))).setCell ⟨b,8,none⟩ (.bool false)):=((gG.out.ε.setCell (p:=⟨b,7,none⟩) (.inl (.inl rfl)) _).setCell (p:=⟨b,6,none⟩) (.inl (.inl rfl)) _).setCell (p:=⟨b,8,none⟩) (.inl (.inl rfl)) _;have H8:=o_ jc I8 qC cC w_ gG.out.sub gG.out.sep;clear hnb w_ I8 qC cC EV MQ hf7 hf8 I6;generalize (((w7.setCell ⟨b,7,none⟩ (ω ((g.aq:Int)+1))).setCell ⟨b,6,none⟩ (ω ((g.aq:Int)+1))).setCell ⟨b,8,none⟩ (.bool false))=W8 at *;have hsu:IntKind.i64.wrap ((g.used:Int)+((partsOf s.size:Nat):Int))=(g.used:Int)+((partsOf s.size:Nat):Int):=bX _ oM;have hS:∀w',ζ (fun q=>v.ownBlock=some q) W8 w'→w'.cell? ⟨b,4,none⟩=some v∧w'.cell? ⟨b,5,none⟩=some (ι (g.used:Int)):=fun w' hu=>by
      have h:=H8.out.1.ε hu H8.out.2.2.2.2.1;exact⟨h.cell 4,h.cell 5⟩
     have fD:=δ hS;clear hS jc;refine dB ?_;refine dK (S:=fun w'=>w'.cell? ⟨b,4,none⟩=some v∧w'.cell? ⟨b,5,none⟩=some (ι (g.used:Int))) (T:=fun i=>Nat.beq 18 i || Nat.beq i 21) kR ?_;have aC:=fD.out _ (ζ.refl _ W8).drew;refine fU 0 (.pointer (some ⟨b,0,none⟩)) ?_;refine fU 1 (.pointer (some ⟨b,0,none⟩)) ?_;refine fU 2 (.pointer (some ⟨b,0,none⟩)) ?_;refine fU 3 (.pointer (some ⟨b,0,none⟩)) ?_;refine fU 4 (.pointer (some ⟨b,4,none⟩)) ?_;refine y9 (i:=5) (v:=v) rfl kR kR kR kR (fun _ _ _ h=>h) (sQ rfl (Or.inl ⟨by rfl,?_⟩)) aS kR ?_
     ·intro w' hSw;go_split_ands;go_simp
     simp only[ak];refine fU 6 (.string s) ?_;refine fU 9 (.pointer (some ⟨b,0,none⟩)) ?_;refine fU 10 (.pointer (some ⟨b,0,none⟩)) ?_;refine fU 11 (.pointer (some ⟨b,5,none⟩)) ?_;refine y9 (i:=12) (v:=ι (g.used:Int)) rfl kR kR kR kR (fun _ _ _ h=>h) (sQ rfl (Or.inl ⟨by rfl,?_⟩)) aS kR ?_
     ·intro w' hSw;go_split_ands;go_simp
     simp only[ak];refine fU 13 (.string s) ?_;refine aY 7 (fun K hK=>?_);go_simp
     refine hK.out _ _ ?_ ?_
     ·exact fD.out _ ((ζ.refl _ W8).alloc _).drew
     refine aY 8 (fun K hK=>?_);refine pQ (by rfl) _ _ _ _ (by rfl) 9 i0 _ 1 16 underlying147 bx bN bG aT rfl v _ _ (by rfl) ((H8.out.2.2.1.alloc _).drew) _ 1 [.string s] (by rfl) (Src.N3 underlying147 (.string s)) (by simp[Value.oneCell']) (by unfold maxLen;omega) oM ?_;intro v' w2 pU π v_ bV;obtain⟨gq,cq,rfl,-,-⟩:=pU.head oM;have χ:ζ (fun q=>v.ownBlock=some q) W8 w2:=((ζ.refl _ W8).alloc _).drew.then π (fun _ e=>.inl e);have aA:=H8.out.1.ε χ H8.out.2.2.2.2.1;have hk2:=aA.og;have Ez:=aA.frozen 4;have MP:=aA.frozen 5;have HX:=cx pU χ v_ bV aA;clear pU π v_ bV χ aA;refine hK.out _ _ (fD.out _ HX.out.2.1) ?_;clear hK;have a_:=fD.out _ HX.out.2.1;refine y9 (i:=14) (v:=ι ((partsOf s.size:Nat):Int)) rfl kR kR kR kR (fun _ _ _ h=>h) (Dw rfl 112 #[.string s] (by rfl) (fun w' _=>?_) (fun w' hS=>Gq s w' oM)) aS kR ?_
     ·go_simp
     simp only[ak];refine fU 15 (ι ((g.used:Int)+((partsOf s.size:Nat):Int))) ?_;refine fU 16 (.pointer (some ⟨b,0,none⟩)) ?_;refine fU 17 (.pointer (some ⟨b,4,none⟩)) ?_;refine kO 18 (fun K hK=>?_);go_simp
     refine hK.out _ _ ?_;clear hK a_;refine fU 19 (.pointer (some ⟨b,0,none⟩)) ?_;refine fU 20 (.pointer (some ⟨b,5,none⟩)) ?_;refine kO 21 (fun K hK=>?_);go_simp
     refine hK.out _ _ ?_;clear hK;refine dF ?_;refine cZ ?_;go_wp2_with fail
     go_ret
     rw[Am.out];refine⟨rfl,?_⟩;obtain⟨jc,I8,qC,cC,MR,aiC,XY⟩:=H8.out;obtain⟨pU,χ,v_,bV,aA⟩:=HX.out;have jU:bI w2 p r.1.sync.1 F3:=I8.ε χ fun k hk e=>XY k e hk
     have ajh:=jU.not_mem aA dC dC;have Zl:=pU.fO aA dC;have kC:=cC.size;have Ek:∀q,(Value.slice (some ⟨gq,0,none⟩) (g.l.length+1) cq).ownBlock=some q→v.ownBlock=some q∨W8.heap.size≤q:=fun q hq=>by
      rcases v_ with e | e
      ·rw[e] at hq;exact .inl hq
      ·rw[e] at hq
       cases hq
       exact .inr ((((ζ.refl (fun _=>False) W8).alloc _).drew).size)
     clear H8 HX fD Am Al HL hk2 Ez MP;refine⟨⟨F3,.slice (some ⟨gq,0,none⟩) (g.l.length+1) cq,?_,aiC,?_,?_,fun q hq=>?_,fun q hq hF=>?_⟩,?_⟩
     ·exact jU.cU fun q hq=>by
       have hne:q≠b:=fun e=>ajh (e ▸ hq)
       rw[nU _ _ _ q hne,nU _ _ _ q hne]
     ·have h:=(aA.bE 4 (.slice (some ⟨gq,0,none⟩) (g.l.length+1) cq)).bE 5 (ι ((g.used:Int)+((partsOf s.size:Nat):Int)))
      simp only[Lg.cells,jy,vN,vO] at h;simp only[Lg.cells,Int.natCast_add];exact h
     ·have h:=(pU.bP (p:=⟨b,4,none⟩) Zl (.slice (some ⟨gq,0,none⟩) (g.l.length+1) cq)).bP (p:=⟨b,5,none⟩) Zl (ι ((g.used:Int)+((partsOf s.size:Nat):Int)))
      simp only[aL,eS,yY,strs,kG,jY,yZ] at h ⊢;exact h
     ·exact(Ek q hq).imp id (fun h=>by omega)
     ·rcases Ek q hq with h | h
      ·exact XY q h hF
      ·have:=I8.lt q hF
       omega
     ·exact((((cC.mono (G:=fun q=>q=b∨q ∈ F∨v.ownBlock=some q) (fun _ e=>.inl (e.imp id .inl))).then χ (fun q e=>.inl (.inr (.inr e)))).setCell (p:=⟨b,4,none⟩) (.inl (.inl rfl)) _).setCell (p:=⟨b,5,none⟩) (.inl (.inl rfl)) _)
    ·rw[σ hr] at hput
     have hr':(r.1.sync.2 != 0)=true:=by rw[jZ];exact hr
     have Al:=δ vc;have Am:=δ hput;clear vc hput hr;go_wp2_with (go_at_call 117;refine Al.out.mono ?_;rintro e w7 ⟨rfl,F3,hS⟩;have gG:=δ (HL.out.1.wrote hS);clear hS);go_ret
     rw[Am.out];exact⟨rfl,gG.out.left⟩
theorem Zm {P:Prop} (h:P:=by
 go_enter func58,ntmps58
 go_wp2_with fail
 refine yC.out.mono ?_;rintro e w' ⟨rfl,rfl⟩;go_wp2_with fail
 refine(Gq s _ oM).mono ?_;rintro e w' ⟨rfl,rfl⟩;go_wp2_with fail
 refine Sk.out.mono ?_;rintro e w' ⟨rfl,rfl⟩;go_wp2
 go_ret
 exact⟨rfl,(ζ.refl _ _).drew⟩):P:=h
theorem ab6 {w:World} {p b:Nat} {g:Lg} (hL:GI w p b g) (s:ByteArray) (hu:g.used≤g.dZ) (Ap:g.dZ≤5000)
 (h:g.broken=true∨1024<s.size∨g.dZ - g.used<partsOf s.size∨g.aq=18446744073709551615) :
 ς 58 #[.pointer (some ⟨b,0,none⟩),.string s] w fun e w'=>e=ώ (ι (if g.broken then 11 else if 1024<s.size then 3 else 6))∧υ w w':=by
 have yC:=δ (KZ hL);have Sk:=δ (Xm hL hu Ap);obtain⟨v,hB,hO⟩:=hL.ex;have hc:=hB.og;clear hB hO hL;cases hb:g.broken
 ·rw[hb] at hc
  by_cases h4:1024<s.size
  ·rw[ν sM,σ h4]
   have Cx:(1024:Int)<(s.size:Int):=oM;clear h hb;go_enter func58,ntmps58
   go_wp2_with fail
   refine yC.out.mono ?_;rintro e w' ⟨rfl,rfl⟩;go_wp2
   go_ret
   exact⟨rfl,ζ.refl _ _⟩
  ·rw[ν sM,ν h4]
   have h5:g.dZ - g.used<partsOf s.size∨g.aq=18446744073709551615:=by
    rcases h with h | h | h
    ·rw[hb] at h;simp at h
    ·omega
    ·exact h
   have Cx:¬(1024:Int)<(s.size:Int):=oM;have ER:=δ hc;have H5:=δ h5;clear h hb h5;by_cases h6:g.dZ - g.used<partsOf s.size
   ·have h6':((g.dZ - g.used:Nat):Int)<((partsOf s.size:Nat):Int):=oM
    exact Zm
   ·have h6':¬((g.dZ - g.used:Nat):Int)<((partsOf s.size:Nat):Int):=oM
    have h7:g.aq=18446744073709551615:=H5.out.resolve_left h6;rw[h7] at hc;clear ER H5 h7;exact Zm
 ·rw[hb] at hc
  rw[σ rfl];clear h hb;go_enter func58,ntmps58
  go_wp2_with fail
  refine yC.out.mono ?_;rintro e w' ⟨rfl,rfl⟩;go_wp2
  go_ret
  exact⟨rfl,ζ.refl _ _⟩
end
end Go.Proofs.YtbhjgfibhegddaaGreat
