/-
  Parts of the proof of VaultPlays: AesA, AesB, AesC, AesD, AesE.
-/
import Derived.Test.YtbhjgfibhegddaaGreatQVaultPlays05
set_option maxRecDepth 100000
set_option maxHeartbeats 16000000
namespace Go.Proofs.YtbhjgfibhegddaaGreat
abbrev uh:=@List.length_range
abbrev sK:=@List.range_succ
abbrev Uf:=@UInt8.ofNat_toNat
abbrev ajV:=@List.drop_append_of_le_length
abbrev vN:=@List.set_cons_zero
abbrev A6:=@List.length_singleton
abbrev Ug:=@List.take_add
abbrev NC:=@Int.tmod_eq_emod_of_nonneg
abbrev A7:=@List.getElem?_range
abbrev J0:=@List.getElem_map
abbrev ND:=@List.getElem_range
open Tryz
section
open Go Go.RowKit
def nA (f:Nat→UInt8) (l:List UInt8) (k:Nat):List UInt8:=(List.range k).map f++l.drop k
theorem FU (f:Nat→UInt8) (l:List UInt8) (k:Nat) (hk:k≤l.length):(nA f l k).length=l.length:=by
 unfold nA;rw[aL,bp,uh,gM];omega
theorem UX (f:Nat→UInt8) (l:List UInt8) (k:Nat):(nA f l k).getD k 0=l.getD k 0:=by
 unfold nA;have h1:((List.range k).map f).length=k:=by rw[bp,uh]
 rw[bJ,lM oM,h1,Dn,FD,bJ];rfl
theorem FK (f:Nat→UInt8) (l:List UInt8) (k:Nat) (hk:k<l.length):(nA f l k).set k (f k)=nA f l (k+1):=by
 unfold nA;have h1:((List.range k).map f).length=k:=by rw[bp,uh]
 rw[Fs _ _ oM,h1,Dn,sK,kG,dQ,ua hk];rfl
theorem FV (f:Nat→UInt8) (l:List UInt8) (k:Nat) (hk:l.length=k):nA f l k=(List.range k).map f:=by
 unfold nA;rw[pN oM,xz]
theorem twB (b:UInt8):bits .xor .u8 ((b.toNat:Int)*2 % 256) ((b.toNat:Int) / 128*27)=((rA b).toNat:Int):=by
 have h:∀x:Fin 256,bits .xor .u8 ((x.val:Int)*2 % 256) ((x.val:Int) / 128*27)=((rA (UInt8.ofNat x.val)).toNat:Int):=by decide +kernel
 have:=h ⟨b.toNat,b.toNat_lt⟩;rw[Uf] at this;exact this
theorem KV (b:UInt8) (w:World):ς 272 #[ϋ (b.toNat:Int)] w fun e w'=>e=ώ (ϋ ((rA b).toNat:Int))∧w=w':=by
 have hb:=b.toNat_lt;have h:=twB b;go_enter func272,ntmps272
 go_wp2_with fail
 go_ret
 exact⟨rfl,rfl⟩
theorem ai_ (b:UInt8) (r:Nat) (hr:r=1∨r=2∨r=3∨r=4):bits .or .u8 ((b.toNat:Int)*2 ^ r % 256) ((b.toNat:Int) / 2 ^ (8 - r))=((uD b r).toNat:Int):=by
 have h:∀x:Fin 256,∀r:Fin 4,bits .or .u8 ((x.val:Int)*2 ^ (r.val+1) % 256) ((x.val:Int) / 2 ^ (8 - (r.val+1)))=((uD (UInt8.ofNat x.val) (r.val+1)).toNat:Int):=by decide +kernel
 have h1:=h ⟨b.toNat,b.toNat_lt⟩;rw[Uf] at h1;rcases hr with rfl | rfl | rfl | rfl
 ·exact h1 0
 ·exact h1 1
 ·exact h1 2
 ·exact h1 3
theorem K7 (b:UInt8) (r:Nat) (hr:r=1∨r=2∨r=3∨r=4) (w:World):ς 287 #[ϋ (b.toNat:Int),ι (r:Int)] w fun e w'=>e=ώ (ϋ ((uD b r).toNat:Int))∧w=w':=by
 have hb:=b.toNat_lt;have HR:=δ (ai_ b r hr);have hk:bits .and .u64 (r:Int) 7=(r:Int):=by rcases hr with rfl | rfl | rfl | rfl<;>decide +kernel
 have hk2:IntKind.u64.wrap (8 - (r:Int))=((8 - r:Nat):Int):=by rcases hr with rfl | rfl | rfl | rfl<;>decide +kernel
 have hr8:r<8:=oM;clear hr;go_enter func287,ntmps287
 go_wp2_with fail
 go_ret
 exact⟨by rw[← HR.out];rfl,rfl⟩
theorem QD (q:UInt8) (k:Nat) (hk:k=1∨k=2∨k=4):(q.toNat:Int)*2 ^ k % 256=((q <<< (UInt8.ofNat k)).toNat:Int):=by
 have h:∀x:Fin 256,(x.val:Int)*2 ^ 1 % 256=((UInt8.ofNat x.val <<< (1:UInt8)).toNat:Int)∧(x.val:Int)*2 ^ 2 % 256=((UInt8.ofNat x.val <<< (2:UInt8)).toNat:Int)∧(x.val:Int)*2 ^ 4 % 256=((UInt8.ofNat x.val <<< (4:UInt8)).toNat:Int):=by decide +kernel
 have h1:=h ⟨q.toNat,q.toNat_lt⟩;rw[Uf] at h1;rcases hk with rfl | rfl | rfl
 ·exact h1.1
 ·exact h1.2.1
 ·exact h1.2.2
theorem ais (q:UInt8):(q.toNat:Int) / 128*9=(((q >>> 7)*9).toNat:Int):=by
 have h:∀x:Fin 256,(x.val:Int) / 128*9=(((UInt8.ofNat x.val >>> 7)*9).toNat:Int):=by decide +kernel
 have h1:=h ⟨q.toNat,q.toNat_lt⟩;rw[Uf] at h1;exact h1
theorem LK (a:UInt8) (z:Int) (b:UInt8) (h:z=(b.toNat:Int)):bits .xor .u8 (a.toNat:Int) z=((a ^^^ b).toNat:Int):=by rw[h];exact oX a b
theorem ait (w:World):ς 271 #[] w fun e w'=>e=ώ (.agg (ψ qY))∧υ w w':=by
 obtain⟨g,hg⟩:=κ w.heap.size;have HG:=δ hg;go_enter func271,ntmps271
 go_wp2_with fail
 generalize aH:World.alloc _ _=w2;have aB:η w2 g 357 (ψ (List.replicate 256 0)):=by rw[← aH,← hg];exact η.new w _ _
 have π:υ w w2:=by rw[← aH];exact(ζ.refl _ w).alloc _
 have aU:=τ aB π;clear aB π aH hg;go_loopw [1,2,3] (fun a b u wr=>∃(k:Nat),k≤255∧u=ι (k:Int)∧a=ϋ ((vZ k).p.toNat:Int)∧b=ϋ ((vZ k).q.toNat:Int)∧η wr g 357 (ψ (vZ k).s)∧ζ (fun q=>q=g) w2 wr) (fun _ _ u _=>255 - (intOf u).toNat)
 case atStart=>exact⟨0,oM,rfl,rfl,rfl,aU.out.1,ζ.refl _ _⟩
 case round =>
  obtain⟨k,hk,rfl,rfl,rfl,hB,hu⟩:=hrel;by_cases hlt:k<255
  ·have dP:=OD k
   have bY:vZ (k+1)=(vZ k).next:=rfl;obtain⟨⟨p,q,s⟩,hbk⟩:∃b,vZ k=b:=⟨_,rfl⟩;rw[hbk] at hB dP bY ⊢;simp only at hB dP ⊢
   have me:=δ bY;have HB:=τ hB hu;have hf:=hB.frozen p.toNat;have hcell:∃v,w2.cell? ⟨g,p.toNat,none⟩=some v:=⟨_,aU.out.1.kI p.toNat (by rw[fG];exact p.toNat_lt)⟩;have hc:=hB.kI p.toNat (by rw[dP];exact p.toNat_lt);have hp:(p.toNat:Int)<256:=by have:=p.toNat_lt;omega
   -- the letters
   obtain⟨r1,Iw⟩:∃r,uD q 1=r:=⟨_,rfl⟩;obtain⟨r2,hr2⟩:∃r,uD q 2=r:=⟨_,rfl⟩;obtain⟨r3,uW⟩:∃r,uD q 3=r:=⟨_,rfl⟩;obtain⟨r4,yo⟩:∃r,uD q 4=r:=⟨_,rfl⟩;obtain⟨tw,Ix⟩:∃r,rA p=r:=⟨_,rfl⟩;have c1:=K7 q 1 sM;have c2:=K7 q 2 sM;have c3:=K7 q 3 sM;have c4:=K7 q 4 sM;have c5:=KV p;rw[Iw] at c1;rw[hr2] at c2;rw[uW] at c3;rw[yo] at c4;rw[Ix] at c5;have C1:=δ c1;have C2:=δ c2;have C3:=δ c3;have C4:=δ c4;have C5:=δ c5;have HR:=cx Iw hr2 uW yo Ix;clear c1 c2 c3 c4 c5 Iw hr2 uW yo Ix hbk bY hB hu dP hcell;obtain⟨y1,hy1⟩:∃y,q ^^^ r1=y:=⟨_,rfl⟩;obtain⟨y2,hy2⟩:∃y,y1 ^^^ r2=y:=⟨_,rfl⟩;obtain⟨y3,RM⟩:∃y,y2 ^^^ r3=y:=⟨_,rfl⟩;obtain⟨y4,RN⟩:∃y,y3 ^^^ r4=y:=⟨_,rfl⟩;obtain⟨y5,RO⟩:∃y,y4 ^^^ 99=y:=⟨_,rfl⟩;obtain⟨p1,hp1⟩:∃y,p ^^^ tw=y:=⟨_,rfl⟩;obtain⟨q1,hq1⟩:∃y,q ^^^ (q <<< 1)=y:=⟨_,rfl⟩;obtain⟨q2,i7⟩:∃y,q1 ^^^ (q1 <<< 2)=y:=⟨_,rfl⟩;obtain⟨q3,Ct⟩:∃y,q2 ^^^ (q2 <<< 4)=y:=⟨_,rfl⟩;obtain⟨q4,RP⟩:∃y,q3 ^^^ ((q3 >>> 7)*9)=y:=⟨_,rfl⟩
   have e1:=oX q r1;have e2:=oX y1 r2;have e3:=oX y2 r3;have e4:=oX y3 r4;have e5:bits .xor .u8 (y4.toNat:Int) 99=((y4 ^^^ 99).toNat:Int):=oX y4 99;have e6:=oX p tw;have e7:bits .xor .u8 (q.toNat:Int) ((q.toNat:Int)*2 % 256)=((q ^^^ (q <<< 1)).toNat:Int):=LK q _ _ (QD q 1 sM);have e8:bits .xor .u8 (q1.toNat:Int) ((q1.toNat:Int)*4 % 256)=((q1 ^^^ (q1 <<< 2)).toNat:Int):=LK q1 _ _ (QD q1 2 sM);have e9:bits .xor .u8 (q2.toNat:Int) ((q2.toNat:Int)*16 % 256)=((q2 ^^^ (q2 <<< 4)).toNat:Int):=LK q2 _ _ (QD q2 4 sM);have e10:bits .xor .u8 (q3.toNat:Int) ((q3.toNat:Int) / 128*9)=((q3 ^^^ ((q3 >>> 7)*9)).toNat:Int):=LK q3 _ _ (ais q3);rw[hy1] at e1;rw[hy2] at e2;rw[RM] at e3;rw[RN] at e4;rw[RO] at e5;rw[hp1] at e6;rw[hq1] at e7;rw[i7] at e8;rw[Ct] at e9;rw[RP] at e10;have b1:=q.toNat_lt;have b2:=q1.toNat_lt;have b3:=q2.toNat_lt;have b4:=q3.toNat_lt;have HY:=δ (show (⟨p,q,s⟩:BoxM).next=⟨p1,q4,s.set p.toNat y5⟩ by
    obtain⟨Iw,hr2,uW,yo,Ix⟩:=HR.out;unfold BoxM.next BoxM.q3 BoxM.q2 BoxM.q1;simp only[Iw,hr2,uW,yo,Ix,hy1,hy2,RM,RN,RO,hp1,hq1,i7,Ct,RP])
   clear hy1 hy2 RM RN RO hp1 hq1 i7 Ct RP;go_wp2_with fail
   refine(C1.out _).mono ?_;rintro e w' ⟨rfl,rfl⟩;go_wp2_with fail
   refine(C2.out _).mono ?_;rintro e w' ⟨rfl,rfl⟩;go_wp2_with fail
   refine(C3.out _).mono ?_;rintro e w' ⟨rfl,rfl⟩;go_wp2_with fail
   refine(C4.out _).mono ?_;rintro e w' ⟨rfl,rfl⟩;go_wp2_with fail
   refine(C5.out _).mono ?_;rintro e w' ⟨rfl,rfl⟩;go_wp2_with fail
   go_roundw
   case rel =>
    refine⟨k+1,oM,by go_num,?_,?_,?_,HB.out.2.setCell (.inl rfl) _⟩
    ·rw[me.out,HY.out]
    ·rw[me.out,HY.out]
    ·rw[me.out,HY.out]
     exact HB.out.1.xW _ _
   case measure=>simp[intOf]<;>omega
  ·obtain rfl:k=255:=oM
   have e255:((255:Nat):Int)=255:=rfl;rw[e255];have aB:=hB.xW 0 0x63;rw[show (vZ 255).s.set 0 0x63=qY from rfl] at aB;have hl:=O5;have hf:=hB.frozen 0;have hc:=hB.kI 0 (by rw[OD];omega);have YQ:η (wr.setCell ⟨g,0,none⟩ (ϋ 99)) g 357 (ψ qY):=aB;have HU:=δ (hu.setCell (p:=⟨g,0,none⟩) (.inl rfl) (ϋ 99));have jQ:=τ YQ hl;clear aB YQ hl hB hu e255 hlt hk;go_wp2_with (first
    |(show wpList _ _ _ (⟨none,Op.store _ _ (.tmp _),_,_,_,_⟩::_) _ _
      refine fk rfl 357 _ _ rfl g (ψ qY) rfl rfl 357 _ jQ.out.1 rfl (lY _) (by rw[bq,jQ.out.2];kernel_rfl) ?_
      intro w14 pX jA Ej)
    |(refine eL _ g jQ.out.1 underlying357 (by rw[bq,jQ.out.2];kernel_rfl) ?_))
   refine cy (jx rfl _ _ g _ _ _ _ rfl pX underlying357 rfl (by rw[bq,jQ.out.2];kernel_rfl)) rfl ⟨rfl,(aU.out.2.then HU.out (fun q hq=>.inr (oN HG.out))).then jA (fun q hq=>.inr (oN HG.out))⟩
theorem Wa (off:Nat):∀(vs:List Value) (n:Nat) (cells:Array Value),off+n+vs.length≤cells.size →
 (vs.zipIdx n).foldl (fun (cs:Array Value) p=>cs.setIfInBounds (off+p.2) p.1) cells=(cells.toList.take (off+n)++vs++cells.toList.drop (off+n+vs.length)).toArray
 | [],n,cells,h=>by simp
 | v::r,n,cells,h=>by
   rw[eS] at h;rw[List.zipIdx_cons,List.foldl_cons,Wa off r (n+1) _ (by rw[Array.size_setIfInBounds];omega)];have e:=list_seg_step cells.toList (off+n) v r (by rw[pM];omega);rw[TY];rw[show off+(n+1)=off+n+1 by omega];rw[show off+n+(v::r).length=off+n+(r.length+1) by rw[eS]];rw[← e]
theorem abI (l:List UInt8) (hl:l.length=256):prog.built 361 [(1,.agg (ψ l))]=some (ψ (List.replicate 240 0++l)):=by
 obtain⟨it,hit⟩:∃it,prog.info? 361=some it:=Option.isSome_iff_exists.1 kR;have hz:it.zero=some (.agg (ψ (List.replicate 496 0))):=by
  have h:(prog.info? 361).bind (·.zero)=some (.agg (ψ (List.replicate 496 0))):=kR;rw[hit] at h;exact h
 unfold Program.built;rw[hit,underlying361];simp only[hz];rw[show List.mapM (m:=Option) _ _=some [(0,240),(240,256)] from by kernel_rfl];simp only[Instr.fill];show (if (decide ((ψ l).size≠256)|| decide (240+(ψ l).size > (ψ (List.replicate 496 0)).size))=true then none else some (Array.foldl (fun cs x=>cs.setIfInBounds (240+x.snd) x.fst) (ψ (List.replicate 496 0)) (ψ l).zipIdx))=_;rw[ν (by rw[bq,bq,hl,fG];decide)]
 congr 1
 rw[← Array.foldl_toList,Array.toList_zipIdx];have h:=Wa 240 (aK l) 0 (ψ (List.replicate 496 0)) (by rw[sR,hl,bq,fG];omega);refine Eq.trans h ?_;unfold ψ;congr 1
 rw[sR,hl,qM];show List.take 240 (aK (List.replicate 496 0))++aK l++List.drop 496 (aK (List.replicate 496 0))=_;rw[pN (by rw[sR,fG];omega),xz];unfold aK;rw[← Dm,List.take_replicate];rfl
theorem acH {w:World} {g off n cap b o m c:Nat} {T:TypeId} {l0 l:List UInt8} (hB:η w g T (ψ l0)) (hn:n≤m) (hl:l.length=n) (hc:∀i,i<n→w.cell? ⟨b,o+i,none⟩=some (ϋ ((l.getD i 0).toNat:Int))) (hf:off+n≤l0.length) :
 ∃W r,(Builtin.copy_ #[89,89] 3 #[.slice (some ⟨g,off,none⟩) n cap,.slice (some ⟨b,o,none⟩) m c]).run prog w=.ok r W∧η W g T (ψ (l0.take off++l++l0.drop (off+n)))∧ζ (· = g) w W∧W.heap.size=w.heap.size:=by
 have hrun:=run_copy_row (P:=prog) w 89 89 3 5 g off n cap ⟨b,o,none⟩ m c (ψ l0) T (aK l) underlying89 kR hB (by rw[sR,hl];exact(Nat.min_eq_right hn).symm) (fun j u e=>by
  have hj:j<l.length:=by have:=(kT.1 e).1;simpa [aK] using this
  rw[Addr.add_mid,hc j oM,← e];simp[aK,hj]) (by rw[sR,bq];omega) (Bg _)
 refine⟨_,_,hrun,?_,ζ.KQ _ _ _,by simp[World.setRow]⟩;have e:((ψ l0).toList.take off++aK l++(ψ l0).toList.drop (off+(aK l).length)).toArray=ψ (l0.take off++l++l0.drop (off+n)):=by
  rw[sR,hl];simp[ψ,aK,List.map_take,List.map_drop]
 rw[e];exact hB.setRow _
def kn (V B:List UInt8):List UInt8:=V++List.replicate (240 - V.length) 0++B
theorem Gb (V B:List UInt8) (h:V.length≤240):(kn V B).length=240+B.length:=by
 unfold kn;rw[aL,aL,fG];omega
theorem ae2 (V x B:List UInt8) (n:Nat) (hn:V.length=n) (h:n+x.length≤240):(kn V B).take n++x++(kn V B).drop (n+x.length)=kn (V++x) B:=by
 subst hn;unfold kn;simp only[dQ];rw[JQ,List.drop_append,pN oM,nW,ug,ajV (by rw[fG];omega),Ud,aL,show 240 - V.length - x.length=240 - (V.length+x.length) by omega]
theorem ae3 (V B:List UInt8) (b:UInt8) (n:Nat) (hn:V.length=n) (h:n<240):(kn V B).set n b=kn (V++[b]) B:=by
 subst hn;unfold kn;obtain⟨m,hm⟩:∃m,240 - V.length=m+1:=⟨240 - V.length - 1,oM⟩;rw[dQ,Fs _ _ (bQ _),Dn,hm,List.replicate_succ,oF,vN,aL,A6,show 240 - (V.length+1)=m by omega];simp
theorem Wb (V B:List UInt8) (i:Nat) (h:i<V.length):(kn V B).getD i 0=V.getD i 0:=by
 unfold kn;rw[dQ,bJ,pL h,bJ]
theorem ae4 (V B:List UInt8) (hV:V.length≤240) (i:Nat):(kn V B).getD (240+i) 0=B.getD i 0:=by
 unfold kn;have h1:(V++List.replicate (240 - V.length) (0:UInt8)).length=240:=by rw[aL,fG];omega
 rw[bJ,lM oM,h1,ug,bJ]
theorem Og {P:Prop} (h:P:=by
 go_wp2_with fail
 go_loopw [9,77] (fun _ u w'=>∃k:Nat,k≤4∧u=ι (k:Int)∧η w' gt 82 (ψ T)∧η w' c 361 (ψ (kn (V++(List.range k).map (fun k=>V.getD (4*n+k) 0 ^^^ T.getD k 0)) B))∧ζ (· = c) w3 w') (fun _ u _=>4 - (intOf u).toNat)
 case atStart=>exact⟨0,oM,rfl,HT.out.1,by simpa using HT.out.2.1,HT.out.2.2.1⟩
 case round =>
  obtain⟨k,hk,rfl,ja,pq,mR⟩:=hrel;by_cases hlt:k<4
  ·obtain⟨hi,hm⟩:=HI.out
   have kz:=HB.out.2.2.1;have gJ:=HT.out.2.2.2.1;have hUl:(V++(List.range k).map (fun k=>V.getD (4*n+k) 0 ^^^ T.getD k 0)).length=i*4+k:=by rw[aL,bp,uh];omega
   have hc1:=ja.kI k oM;have hc2:=pq.kI (n*4+k) (by rw[Gb _ _ oM];omega);rw[Wb _ _ _ oM,show n*4+k=4*n+k by omega,bJ,pL oM,← bJ] at hc2;rw[show 4*n+k=n*4+k by omega] at hc2;have rB:=pq.kI (i*4+k) (by rw[Gb _ _ oM,HK.out.2.2.2];omega);have hst:=ae3 (V++(List.range k).map (fun k=>V.getD (4*n+k) 0 ^^^ T.getD k 0)) B (V.getD (4*n+k) 0 ^^^ T.getD k 0) (i*4+k) hUl oM;rw[dQ,show (List.range k).map (fun k=>V.getD (4*n+k) 0 ^^^ T.getD k 0)++[V.getD (4*n+k) 0 ^^^ T.getD k 0]=(List.range (k+1)).map (fun k=>V.getD (4*n+k) 0 ^^^ T.getD k 0) by rw[sK,kG];rfl,show 4*n+k=n*4+k by omega] at hst
   obtain⟨x,hx⟩:=κ (V.getD (n*4+k) 0);obtain⟨y,hy⟩:=κ (T.getD k 0);rw[hx] at hc2 hst;rw[hy] at hc1 hst;obtain⟨z,hz⟩:=κ (x ^^^ y);have hxy:=oX x y;rw[hz] at hxy hst;obtain⟨old,hold⟩:=κ ((kn (V++(List.range k).map (fun k=>V.getD (4*n+k) 0 ^^^ T.getD k 0)) B).getD (i*4+k) 0);rw[hold] at rB;have hf:=pq.frozen (i*4+k);have j7:(k:Int)<4:=oM;have j9:(n:Int)<60:=oM;have sn:=aD ja pq mR hst;have j6:IntKind.i64.wrap ((i:Int) - 8)=(n:Int):=by rw[bX _ oM];omega
   clear ja pq mR hst hx hy hz hold kz gJ hUl hi hm;go_wp2_with fail
   go_still_tail 20,kR
   change wpList _ _ _ _ _ (World.drew _);go_wp2_with fail
   clear j6;go_roundw
   case rel =>
    refine⟨k+1,oM,by go_num,?_,?_,?_⟩
    ·exact(sn.out.1.bP (p:=⟨c,i*4+k,none⟩) HQ.out.2.2.2.2 _).drew
    ·rw[← sn.out.2.2.2];exact(sn.out.2.1.xW (i*4+k) z).drew
    ·exact(sn.out.2.2.1.setCell (p:=⟨c,i*4+k,none⟩) (.inl rfl) _).drew
   case measure=>simp[intOf]<;>omega
  ·obtain rfl:k=4:=oM
   have e4:((4:Nat):Int)=4:=rfl;rw[e4];have bY:=HT.out.2.2.2.2;have cN:(lN key (n+1)).1=V++(List.range 4).map (fun k=>V.getD (4*n+k) 0 ^^^ T.getD k 0):=by rw[bY]
   rw[← cN] at pq;have RQ:=aJ Prod.snd bY;have HF:=aj pq mR RQ;have HJ:=δ (show (i:Int)+1=((n+1+8:Nat):Int) by have:=HI.out.1;omega);clear ja pq mR bY cN RQ e4 hlt hk;go_wp2_with fail
   go_roundw
   case rel=>exact⟨n+1,oM,by rw[← HJ.out],by rw[HF.out.2.2],HF.out.2.1,HF.out.1⟩
   case measure=>simp[intOf]<;>omega):P:=h
theorem YR {P:Prop} (h:P:=by
 rw[hx] at hc1 hst;have hxl:=x.toNat_lt;have kz:=HB.out.2.2.1;have hc2:=pq.kI (240+x.toNat) (by rw[Gb _ _ oM,HK.out.2.2.2];omega);rw[ae4 _ _ oM] at hc2;obtain⟨y,hy⟩:=κ (B.getD x.toNat 0);rw[hy] at hc2;simp only[hy] at hst;have hf:=ja.frozen k;have j7:(k:Int)<4:=oM;have j8:(x.toNat:Int)<256:=oM;have sn:=aD ja pq mR hst;clear ja pq mR hst hx hy kz hxl j1 j5;go_wp2_with fail
 go_still_tail 10,kR
 change wpList _ _ _ _ _ (World.drew _);go_wp2_with fail
 go_roundw
 case rel =>
  refine⟨k+1,oM,by go_num,?_,?_,?_⟩
  ·rw[← sn.out.2.2.2];exact(sn.out.1.xW k y).drew
  ·exact(sn.out.2.1.bP (p:=⟨gt,k,none⟩) (fun e=>HQ.out.2.2.2.2 e.symm) _).drew
  ·exact(sn.out.2.2.1.setCell (p:=⟨gt,k,none⟩) (.inr HQ.out.2.2.2.1) _).drew
 case measure=>simp[intOf]<;>omega):P:=h
theorem acI (key:List UInt8) (hk:key.length=32) (w:World) :
 ς 245 #[.agg (ψ key)] w fun e w'=>∃c,e=ώ (.pointer (some ⟨c,0,none⟩))∧η w' c 361 (ψ (Bw key++qY))∧w.heap.size≤c∧υ w w':=by
 obtain⟨S,hS⟩:=κ (Bw key);obtain⟨B,hB⟩:=κ qY;have hbc:=fun W=>ait W
 rw[hB] at hbc;rw[hS,hB];have hBl:B.length=256:=by rw[← hB];exact O5
 have hbu:=abI B hBl;have HBC:=δ hbc;have HBU:=δ hbu;have HK:=aD hk hS hB hBl;obtain⟨g,hg⟩:=κ w.heap.size;have HG:=δ hg;clear hbc hbu hk hS hB hBl;go_enter func245,ntmps245
 go_wp2_with fail
 generalize hw1:World.alloc _ _=w1;have aM:η w1 g 194 (ψ key):=by rw[← hw1,← hg];exact η.new w _ _
 have ax:υ w w1:=by rw[← hw1];exact(ζ.refl _ w).alloc _
 have mP:=τ aM ax;clear aM ax hw1 hg;refine(HBC.out w1).mono ?_;rintro e w2 ⟨rfl,π⟩;have lV:=δ π;clear π;go_wp2_with (first
  |(show wpList _ _ _ (⟨_,Op.build _ _,_,_,_,_⟩::_) _ _
    refine qf rfl _ _ rfl [(1,.agg (ψ B))] _ kR HBU.out ?_))
 obtain⟨c,hc⟩:=κ w2.heap.size;have HC:=δ hc;rw[hc];generalize fJ:World.alloc _ _=w3;have aA:η w3 c 361 (ψ (List.replicate 240 0++B)):=by rw[← fJ,← hc];exact η.new w2 _ _
 have χ:υ w2 w3:=by rw[← fJ];exact(ζ.refl _ w2).alloc _
 have hkb:η w3 g 194 (ψ key):=mP.out.1.ε (lV.out.then χ φ) (fun e=>e);have zV:g<c:=by rw[← hc];exact nT mP.out.1.lt lV.out.size
 have iw:=aj aA ((mP.out.2.then lV.out φ).then χ φ) hkb;clear aA χ hkb fJ hc;go_loopw [4,13] (fun _ u wr=>∃k:Nat,k≤8∧u=ι (k:Int)∧ζ (· = c) w3 wr∧η wr c 361 (ψ (kn (key.take (4*k)) B))) (fun _ u _=>8 - (intOf u).toNat)
 case atStart=>exact⟨0,oM,rfl,ζ.refl _ _,iw.out.1⟩
 case round =>
  obtain⟨k,hk,rfl,hu,hB⟩:=hrel;by_cases hlt:k<8
  ·have HB:=τ hu hB
   have hkb:=iw.out.2.2.ε hu (fun e=>by omega);have Iy:=δ hkb;obtain⟨q,hq⟩:=κ (4*k);have HQ:=δ hq;have i1:(q:Int)≤32:=oM;have i0:(0:Int)≤(q:Int):=oM;have i2:q<32:=oM;have i3:¬32=q:=oM;have i5:(k:Int)<60:=oM;have i4:IntKind.i64.wrap (4*(k:Int))=(q:Int):=by rw[bX _ oM];omega
   clear hu hB hkb hq;go_wp2_with fail
   go_still_tail 9,kR
   change wpList _ _ _ _ _ wr.drew;go_wp2_with fail
   clear i4;have nN:=HK.out.1;have hq:=HQ.out;have nO:((key.drop q).take 4).length=4:=by rw[fF,gM];omega
   have htl:(key.take (4*k)).length=4*k:=by rw[fF];omega
   obtain⟨W,r,rz,aE,ag,cG⟩:=acH (off:=k*4) (n:=4) (cap:=4) (b:=g) (o:=q) (m:=32 - q) (c:=32 - q) (l:=(key.drop q).take 4) HB.out.2.drew oM nO (fun i hi=>by
    rw[JX,Iy.out.kI (q+i) oM];simp[List.getD_eq_getElem?_getD,hi]) (by rw[Gb _ _ oM];omega)
   have hput:=ae2 (key.take (4*k)) ((key.drop q).take 4) B (k*4) oM oM;rw[nO] at hput;rw[hput] at aE;have dn:key.take (4*k)++(key.drop q).take 4=key.take (4*(k+1)):=by
    rw[← hq,show 4*(k+1)=4*k+4 by omega,Ug]
   rw[dn] at aE;have iN:=τ aE (HB.out.1.drew.then ag (fun q hq=>.inl hq));rw[rz];clear nN hq nO htl rz aE ag cG hput dn;go_wp2_with fail
   go_roundw
   case rel=>exact⟨k+1,oM,by go_num,iN.out.2,iN.out.1⟩
   case measure=>simp[intOf]<;>omega
  ·obtain rfl:k=8:=oM
   have e8:((8:Nat):Int)=8:=rfl;rw[e8];have nN:=HK.out.1;rw[dH oM] at hB;have dP:∀n,(lN key n).1.length=32+4*n:=UF nN;have ou:=δ dP;have HB:=τ hu hB;clear hu hB nN hlt hk e8 dP;go_wp2_with fail
   go_loopw [5,6] (fun p u wr=>∃n:Nat,n≤52∧u=ι ((n+8:Nat):Int)∧p=ϋ ((lN key n).2.toNat:Int)∧ζ (· = c) w3 wr∧η wr c 361 (ψ (kn (lN key n).1 B))) (fun _ u _=>60 - (intOf u).toNat)
   case atStart=>exact⟨0,oM,rfl,rfl,HB.out.1,HB.out.2⟩
   case round =>
    clear HB;obtain⟨n,hn,rfl,rfl,hu,hB⟩:=hrel;by_cases hlt:n<52
    ·have p8:=ou.out n
     have bY:lN key (n+1)=((lN key n).1++(List.range 4).map (fun k=>(lN key n).1.getD (4*n+k) 0 ^^^ (GF (n+8) (lN key n).2 ((lN key n).1.drop (4*(n+7)))).getD k 0),if (n+8) % 8=0 then rA (lN key n).2 else (lN key n).2):=rfl;obtain⟨⟨V,pw⟩,hVp⟩:∃V,lN key n=V:=⟨_,rfl⟩;rw[hVp] at p8 bY hB ⊢;simp only at p8 bY hB ⊢
     have nO:(V.drop (4*(n+7))).length=4:=by rw[gM];omega
     obtain⟨t0,t1,t2,t3,hT⟩:∃a b c d,V.drop (4*(n+7))=[a,b,c,d]:=by
      match V.drop (4*(n+7)),nO with
      | [a,b,c,d],_=>exact⟨a,b,c,d,rfl⟩
     rw[hT] at bY;have hgt:∀j,j<4→V.getD (4*(n+7)+j) 0=[t0,t1,t2,t3].getD j 0:=fun j hj=>by
      rw[← hT,bJ,bJ,FD]
     have HB:=cx hu hB p8 hgt bY;obtain⟨i,hi⟩:=κ (n+8);obtain⟨m,hm⟩:=κ (n+7);have HI:=τ hi hm;rw[hi];have j1:IntKind.i64.wrap ((i:Int) - 1)=(m:Int):=by rw[bX _ oM];omega
     have j2:(m:Int)<60:=oM;have j3:(i:Int)<60:=oM;have j5:((i:Int) - 1)=(m:Int):=oM;clear hu hB p8 hgt bY hVp hT nO hi hm;have hpt:∀j v,([ϋ (t0.toNat:Int),ϋ (t1.toNat:Int),ϋ (t2.toNat:Int),ϋ (t3.toNat:Int)]:List Value)[j]? = some v→(ψ (kn V B))[m*4+j]? = some v:=fun j v e=>by
      obtain⟨hi,hm⟩:=HI.out;have p8:=HB.out.2.2.1;have hj:j<4:=by have:=(kT.1 e).1;simpa using this
      rw[V_ _ _ (by rw[Gb _ _ oM];omega),Wb _ _ _ oM,show m*4+j=4*(n+7)+j by omega,HB.out.2.2.2.1 j hj,← e];match j,hj with
      | 0,_=>rfl
      | 1,_=>rfl
      | 2,_=>rfl
      | 3,_=>rfl
     have RR:=δ hpt;clear hpt;by_cases h8:i % 8=0
     ·
      --#a {
      have k1:((i:Int) % 8 == 0)=true:=by simp;omega
      have k2:((i:Int) % 4 == 0)=true:=by simp;omega
      go_wp2_with (first
       |(refine qL rfl _ _ rfl c (m*4) rfl _ _ [ϋ (t0.toNat:Int),ϋ (t1.toNat:Int),ϋ (t2.toNat:Int),ϋ (t3.toNat:Int)] _ HB.out.2.1 RR.out underlying82 rfl kR ?_))
      obtain⟨gt,hgt⟩:=κ wr.heap.size;rw[hgt];generalize iy:World.alloc _ _=wq;have jb:η wq gt 82 (ψ [t1,t2,t3,t0]):=by rw[← iy,← hgt];exact η.new wr _ _
      have zW:η wq c 361 (ψ (kn V B)):=by rw[← iy];exact HB.out.2.1.alloc _
      have pz:ζ (· = c) w3 wq:=by rw[← iy];exact HB.out.1.alloc _
      have gE:w3.heap.size≤gt:=by rw[← hgt];exact HB.out.1.size
      have hne:gt≠c:=fun e=>by have h1:=HB.out.2.1.lt;omega
      have HQ:=cx jb zW pz gE hne;clear iy jb zW pz gE hne hgt;go_loopw [8,53] (fun _ u w'=>∃k:Nat,k≤4∧u=ι (k:Int)∧η w' gt 82 (ψ (qs (fun b=>B.getD b.toNat 0) [t1,t2,t3,t0] k))∧η w' c 361 (ψ (kn V B))∧ζ (· = c) w3 w') (fun _ u _=>4 - (intOf u).toNat)
      case atStart=>exact⟨0,oM,rfl,HQ.out.1,HQ.out.2.1,HQ.out.2.2.1⟩
      case round =>
       obtain⟨k,hk,rfl,ja,pq,mR⟩:=hrel;by_cases hlt:k<4
       ·have hc1:=ja.kI k (by rw[OG];exact hlt)
        rw[OH _ _ _ (by exact hlt)] at hc1;have hst:=Of (fun b=>B.getD b.toNat 0) [t1,t2,t3,t0] k (by exact hlt);obtain⟨x,hx⟩:=κ ([t1,t2,t3,t0].getD k 0);exact YR
       ·obtain rfl:k=4:=oM
        have e4:((4:Nat):Int)=4:=rfl;rw[e4];rw[show qs (fun b=>B.getD b.toNat 0) [t1,t2,t3,t0] 4=[t1,t2,t3,t0].map (fun b=>B.getD b.toNat 0) from OI _ [t1,t2,t3,t0]] at ja;clear e4 hlt hk;have hc0:=ja.kI 0 (by show 0<4;omega);have Ci:=ja.frozen 0;have hx0:=oX (B.getD t1.toNat 0) pw;have EA:=δ (fun W=>KV pw W);obtain⟨a0,ha0⟩:∃a,B.getD t1.toNat 0=a:=⟨_,rfl⟩;rw[show ([t1,t2,t3,t0].map (fun b=>B.getD b.toNat 0)).getD 0 0=a0 from ha0] at hc0;rw[ha0] at hx0;obtain⟨z0,bN⟩:∃z,a0 ^^^ pw=z:=⟨_,rfl⟩;rw[bN] at hx0;have HS:=cx ja pq mR ha0 bN;clear ja pq mR ha0 bN;go_wp2_with fail
        refine(EA.out _).mono ?_;rintro e w9 ⟨rfl,rfl⟩;have tI:=HS.out.1.xW 0 z0;have zX:=HS.out.2.1.bP (p:=⟨gt,0,none⟩) (fun e=>HQ.out.2.2.2.2 e.symm) (ϋ (z0.toNat:Int));have zY:=HS.out.2.2.1.setCell (p:=⟨gt,0,none⟩) (.inr HQ.out.2.2.2.1) (ϋ (z0.toNat:Int));rw[show ([t1,t2,t3,t0].map fun b=>B.getD b.toNat 0).set 0 z0=[z0,B.getD t2.toNat 0,B.getD t3.toNat 0,B.getD t0.toNat 0] from rfl] at tI;obtain⟨hax,hzx⟩:=HS.out.2.2.2;clear HS hc0 Ci hx0;have p8:=HB.out.2.2.1;obtain⟨T,hT⟩:=κ ([z0,B.getD t2.toNat 0,B.getD t3.toNat 0,B.getD t0.toNat 0]);rw[hT] at tI;have gJ:T.length=4:=by rw[← hT];rfl
        have bY:lN key (n+1)=(V++(List.range 4).map (fun k=>V.getD (4*n+k) 0 ^^^ T.getD k 0),rA pw):=by
         obtain⟨hi,hm⟩:=HI.out;rw[HB.out.2.2.2.2,← hT];have sr:=HK.out.2.2.1;subst hi;unfold GF;simp only[sr];rw[σ h8,σ h8,σ (by omega:(n+8) % 4=0),σ h8,← hzx,← hax];rfl
        have HT:=cx tI zX zY gJ bY;clear tI zX zY gJ bY hT p8 j1 j5;exact Og
      --#a }
     ·have k1:((i:Int) % 8 == 0)=false:=by simp;omega
      by_cases h4:i % 4=0
      ·
       --#b {
       have k2:((i:Int) % 4 == 0)=true:=by simp;omega
       go_wp2_with (first
        |(refine qL rfl _ _ rfl c (m*4) rfl _ _ [ϋ (t0.toNat:Int),ϋ (t1.toNat:Int),ϋ (t2.toNat:Int),ϋ (t3.toNat:Int)] _ HB.out.2.1 RR.out underlying82 rfl kR ?_))
       obtain⟨gt,hgt⟩:=κ wr.heap.size;rw[hgt];generalize iy:World.alloc _ _=wq;have jb:η wq gt 82 (ψ [t0,t1,t2,t3]):=by rw[← iy,← hgt];exact η.new wr _ _
       have zW:η wq c 361 (ψ (kn V B)):=by rw[← iy];exact HB.out.2.1.alloc _
       have pz:ζ (· = c) w3 wq:=by rw[← iy];exact HB.out.1.alloc _
       have gE:w3.heap.size≤gt:=by rw[← hgt];exact HB.out.1.size
       have hne:gt≠c:=fun e=>by have h1:=HB.out.2.1.lt;omega
       have HQ:=cx jb zW pz gE hne;clear iy jb zW pz gE hne hgt;go_loopw [8,53] (fun _ u w'=>∃k:Nat,k≤4∧u=ι (k:Int)∧η w' gt 82 (ψ (qs (fun b=>B.getD b.toNat 0) [t0,t1,t2,t3] k))∧η w' c 361 (ψ (kn V B))∧ζ (· = c) w3 w') (fun _ u _=>4 - (intOf u).toNat)
       case atStart=>exact⟨0,oM,rfl,HQ.out.1,HQ.out.2.1,HQ.out.2.2.1⟩
       case round =>
        obtain⟨k,hk,rfl,ja,pq,mR⟩:=hrel;by_cases hlt:k<4
        ·have hc1:=ja.kI k (by rw[OG];exact hlt)
         rw[OH _ _ _ (by exact hlt)] at hc1;have hst:=Of (fun b=>B.getD b.toNat 0) [t0,t1,t2,t3] k (by exact hlt);obtain⟨x,hx⟩:=κ ([t0,t1,t2,t3].getD k 0);exact YR
        ·obtain rfl:k=4:=oM
         have e4:((4:Nat):Int)=4:=rfl;rw[e4];rw[show qs (fun b=>B.getD b.toNat 0) [t0,t1,t2,t3] 4=[t0,t1,t2,t3].map (fun b=>B.getD b.toNat 0) from OI _ [t0,t1,t2,t3]] at ja;clear e4 hlt hk;have tI:=ja;have zX:=pq;have zY:=mR;clear ja pq mR;have p8:=HB.out.2.2.1;obtain⟨T,hT⟩:=κ ([t0,t1,t2,t3].map fun b=>B.getD b.toNat 0);rw[hT] at tI;have gJ:T.length=4:=by rw[← hT];rfl
         have bY:lN key (n+1)=(V++(List.range 4).map (fun k=>V.getD (4*n+k) 0 ^^^ T.getD k 0),pw):=by
          obtain⟨hi,hm⟩:=HI.out;rw[HB.out.2.2.2.2,← hT];have sr:=HK.out.2.2.1;subst hi;unfold GF;simp only[sr];rw[ν h8,ν h8,σ (by omega:(n+8) % 4=0),ν h8]
         have HT:=cx tI zX zY gJ bY;clear tI zX zY gJ bY hT p8 j1 j5;exact Og
       --#b }
      ·
       --#c {
       have k2:((i:Int) % 4 == 0)=false:=by simp;omega
       go_wp2_with (first
        |(refine qL rfl _ _ rfl c (m*4) rfl _ _ [ϋ (t0.toNat:Int),ϋ (t1.toNat:Int),ϋ (t2.toNat:Int),ϋ (t3.toNat:Int)] _ HB.out.2.1 RR.out underlying82 rfl kR ?_))
       obtain⟨gt,hgt⟩:=κ wr.heap.size;rw[hgt];generalize iy:World.alloc _ _=wq;have jb:η wq gt 82 (ψ [t0,t1,t2,t3]):=by rw[← iy,← hgt];exact η.new wr _ _
       have zW:η wq c 361 (ψ (kn V B)):=by rw[← iy];exact HB.out.2.1.alloc _
       have pz:ζ (· = c) w3 wq:=by rw[← iy];exact HB.out.1.alloc _
       have gE:w3.heap.size≤gt:=by rw[← hgt];exact HB.out.1.size
       have hne:gt≠c:=fun e=>by have h1:=HB.out.2.1.lt;omega
       have HQ:=cx jb zW pz gE hne;clear iy jb zW pz gE hne hgt;have tI:=HQ.out.1;have zX:=HQ.out.2.1;have zY:=HQ.out.2.2.1;have p8:=HB.out.2.2.1;obtain⟨T,hT⟩:=κ ([t0,t1,t2,t3]);rw[hT] at tI;have gJ:T.length=4:=by rw[← hT];rfl
       have bY:lN key (n+1)=(V++(List.range 4).map (fun k=>V.getD (4*n+k) 0 ^^^ T.getD k 0),pw):=by
        obtain⟨hi,hm⟩:=HI.out;rw[HB.out.2.2.2.2,← hT];have sr:=HK.out.2.2.1;subst hi;unfold GF;simp only[sr];rw[ν h8,ν h8,ν (by omega:¬(n+8) % 4=0),ν h8]
       have HT:=cx tI zX zY gJ bY;clear tI zX zY gJ bY hT p8 j1 j5;exact Og
       --#c }
    ·obtain rfl:n=52:=oM
     have e60:((52+8:Nat):Int)=60:=rfl;have p8:=ou.out 52;have cN:kn (lN key 52).1 B=S++B:=by
      unfold kn;rw[p8,← HK.out.2.1,show 240 - (32+4*52)=0 from rfl,List.replicate_zero,xz];rfl
     rw[cN] at hB;rw[e60];clear cN p8 e60 hlt hn;go_wp2_with fail
     go_ret
     exact⟨c,rfl,hB,by have:=HG.out;omega,iw.out.2.1.then hu (fun q hq=>.inr (oN HG.out))⟩
theorem QE {P:Prop} (h:P:=by
 have h:=η.new (w.alloc (.cells (ψ b) 339)) 339 (ψ (List.replicate 16 0));rw[cM,hg] at h;rw[← aH];exact h):P:=h
theorem ahJ {w:World} {c:Nat} {W B:List UInt8} (hC:η w c 361 (ψ (W++B))) (hW:W.length=240) (b:List UInt8) (hb:b.length=16) (r:Nat) (hr:r≤14) :
 ς 273 #[.pointer (some ⟨c,0,none⟩),.agg (ψ b),ι (r:Int)] w fun e w'=>e=ώ (.agg (ψ (rY W b r)))∧υ w w':=by
 obtain⟨g,hg⟩:=κ w.heap.size;have HG:=δ hg;have HL:=aD hb hW hC (show rY W b r=(List.range 16).map fun i=>b.getD i 0 ^^^ W.getD (16*r+i) 0 from rfl);obtain⟨O,hO⟩:=κ (rY W b r);have lD:O.length=16:=by rw[← hO,O6]
 have HO:=τ hO lD;rw[hO];clear hb hW hC hO lD;go_enter func273,ntmps273
 go_wp2_with fail
 generalize aH:World.alloc _ _=w2;have aB:η w2 g 339 (ψ b):=by rw[← aH,← hg];exact(η.new w _ _).alloc _
 have jD:η w2 (g+1) 339 (ψ (List.replicate 16 0)):=by
  exact QE
 have π:υ w w2:=by rw[← aH];exact((ζ.refl _ w).alloc _).alloc _
 have eR:c≠g:=fun e=>by have:=HL.out.2.2.1.lt;omega
 have aU:=aD aB jD π eR;clear aB jD π aH hg eR;go_loopw [7,8] (fun _ u wr=>∃k:Nat,k≤16∧u=ι (k:Int)∧η wr g 339 (ψ (nA (fun i=>b.getD i 0 ^^^ W.getD (16*r+i) 0) b k))∧ζ (· = g) w2 wr) (fun _ u _=>16 - (intOf u).toNat)
 case atStart=>exact⟨0,oM,rfl,aU.out.1,ζ.refl _ _⟩
 case round =>
  obtain⟨k,hk,rfl,hB,hu⟩:=hrel;by_cases hlt:k<16
  ·have dO:=HL.out.1
   have p8:=HL.out.2.1;have hc1:=hB.kI k (by rw[FU _ _ _ oM];omega);rw[UX] at hc1;have hCr:η wr c 361 (ψ (W++B)):=(HL.out.2.2.1.ε aU.out.2.2.1 (fun e=>e)).ε hu aU.out.2.2.2;obtain⟨i1,hi1⟩:=κ (4*r+k / 4);obtain⟨i2,hi2⟩:=κ (k % 4);have hidx:16*r+k=i1*4+i2:=oM;have hc2:=hCr.kI (i1*4+i2) (by rw[aL];omega);have hst:=FK (fun i=>b.getD i 0 ^^^ W.getD (16*r+i) 0) b k oM;rw[bJ,pL oM,← bJ] at hc2;simp only[hidx] at hst;obtain⟨x,hx⟩:=κ (b.getD k 0);obtain⟨y,hy⟩:=κ (W.getD (i1*4+i2) 0);rw[hx] at hc1 hst;rw[hy] at hc2 hst;obtain⟨z,hz⟩:=κ (x ^^^ y);have hxy:=oX x y;rw[hz] at hxy hst;have hf:=hB.frozen k;have HB:=aj hB hu hst;have j1:(k:Int)<16:=oM;have j2:(i1:Int)<60:=oM;have j3:(i2:Int)<4:=oM;have j0:(0:Int)≤(i1:Int):=oM;have e1:IntKind.i64.wrap (4*(r:Int))=4*(r:Int):=bX _ oM;obtain⟨d,hd⟩:=κ (k / 4)
   have e4:IntKind.i64.wrap ((k:Int) / 4)=(d:Int):=by rw[bX _ oM];omega
   have e2:IntKind.i64.wrap (4*(r:Int)+(d:Int))=(i1:Int):=by rw[bX _ oM];omega
   have e3:(k:Int).tmod 4=(i2:Int):=by rw[NC oM];omega
   have j4:(0:Int)≤4*(r:Int):=oM;clear hB hu hst hx hy hz dO p8 hCr hi1 hi2 hidx hd;go_wp2_with fail
   go_still_tail 18,kR
   change wpList _ _ _ _ _ (World.drew _);go_wp2_with fail
   clear e1 e2 e3 e4;go_roundw
   case rel =>
    refine⟨k+1,oM,by go_num,?_,?_⟩
    ·have h:=(HB.out.1.xW k z).drew
     have hs:=HB.out.2.2;rw[hs] at h;exact h
    ·exact(HB.out.2.1.setCell (p:=⟨g,k,none⟩) (.inl rfl) _).drew
   case measure=>simp[intOf]<;>omega
  ·obtain rfl:k=16:=oM
   have e16:((16:Nat):Int)=16:=rfl;rw[e16];rw[FV _ _ _ HL.out.1,← HL.out.2.2.2,HO.out.1] at hB;have HB:=τ hB (aU.out.2.1.ε hu oM);have HU:=δ (aU.out.2.2.1.then hu (fun q hq=>.inr (oN HG.out)));clear hB hu e16 hlt hk;go_wp2_with (first
    |(show wpList _ _ _ (⟨none,_,_,_,_,_⟩::_) _ _
      refine fk rfl 339 _ _ rfl (g+1) (ψ O) rfl rfl 339 _ HB.out.2 (by rw[bq,bq,HO.out.2];rfl) (lY _) (by rw[bq,HO.out.2];kernel_rfl) ?_
      intro w4 aE ag cG)
    |(refine eL _ g HB.out.1 underlying339 (by rw[bq,HO.out.2];kernel_rfl) ?_))
   refine cy (jx rfl _ _ (g+1) _ _ _ _ rfl aE underlying339 rfl (by rw[bq,HO.out.2];kernel_rfl)) rfl ⟨rfl,HU.out.then ag (fun q hq=>.inr (oN HG.out))⟩
theorem ahK {w:World} {g ga gi:Nat} {b:List UInt8} {t:TypeId} {at_ i:Nat} (hB:η w g 339 (ψ b)) (hb:b.length=16) (ha:η w ga t #[ι (at_:Int)]) (hi:η w gi t #[ι (i:Int)]) (h1:at_≤12) (h2:i<16) (k:Nat) (hk:k<4) :
 ς 288 #[ι (k:Int),.pointer (some ⟨g,0,none⟩),.pointer (some ⟨ga,0,none⟩),.pointer (some ⟨gi,0,none⟩)] w fun e w'=>e=ώ (ϋ ((b.getD (at_+(i+k) % 4) 0).toNat:Int))∧w'=w:=by
 obtain⟨j,hj⟩:=κ (at_+(i+k) % 4);have hc:=hB.kI j oM;have hca:=ha.dD;have hci:=hi.dD;have hjl:(j:Int)<16:=oM;have hj0:(0:Int)≤(j:Int):=oM;have e1:IntKind.i64.wrap ((i:Int)+(k:Int))=(i:Int)+(k:Int):=bX _ oM;have e2:(at_:Int)+((i:Int)+(k:Int)) % 4=(j:Int):=oM;have e0:(0:Int)≤(i:Int)+(k:Int):=oM;rw[hj];clear hB hb ha hi hj h1;go_enter func288,ntmps288
 go_wp2_with fail
 go_ret
 exact⟨rfl,rfl⟩
theorem aiu (b:List UInt8) (hb:b.length=16) (w:World):ς 274 #[.agg (ψ b)] w fun e w'=>e=ώ (.agg (ψ (qZ b)))∧υ w w':=by
 obtain⟨g,hg⟩:=κ w.heap.size;have HG:=δ hg;obtain⟨O,hO⟩:=κ (qZ b);have lD:O.length=16:=by rw[← hO];simp[qZ]
 have HO:=aj hO lD hb;rw[hO];clear hb hO lD;go_enter func274,ntmps274
 have hmf:∀(fn:Fn) (first cap:Array Value) (w:World),(Instr.makeFunc fn first cap).run prog w=.ok (.func fn first cap) w:=fun _ _ _ _=>rfl
 go_wp2_with fail
 generalize aH:World.alloc _ _=w2;have aB:η w2 g 339 (ψ b):=by rw[← aH,← hg];exact(η.new w _ _).alloc _
 have jD:η w2 (g+1) 339 (ψ (List.replicate 16 0)):=by
  exact QE
 have π:υ w w2:=by rw[← aH];exact((ζ.refl _ w).alloc _).alloc _
 have aU:=aj aB jD π;clear aB jD π aH hg;go_loopw [6] (fun u wr=>∃k:Nat,k≤16∧u=ι (k:Int)∧η wr (g+1) 339 (ψ (nA (fun i=>(qZ b).getD i 0) (List.replicate 16 0) k))∧ζ (· = g+1) w2 wr) (fun u _=>16 - (intOf u).toNat)
 case atStart=>exact⟨0,oM,rfl,aU.out.2.1,ζ.refl _ _⟩
 case round =>
  obtain⟨k,hk,rfl,hB,hu⟩:=hrel;by_cases hlt:k<16
  ·have dO:=HO.out.2.2
   have wO:=aU.out.1.ε hu oM;have HB:=aj hB hu wO;have j1:(k:Int)<16:=oM;obtain⟨n,hn⟩:=κ wr.heap.size;have RS:g+1<n:=by have:=hB.lt;omega
   have aj_:g<n:=oM;have HN:=δ hn;obtain⟨a,ha⟩:=κ (k / 4*4);have HA:=δ ha;have e1:(k:Int) / 4*4=(a:Int):=oM;have e2:IntKind.i64.wrap ((k:Int) / 4*4)=(a:Int):=by rw[bX _ oM];omega
   clear hB hu wO hn ha dO;go_wp2_with fail
   clear e1 e2;rw[HN.out];generalize iy:World.alloc _ _=wq;have hi:η wq n 3 #[ι (k:Int)]:=by rw[← iy,← HN.out];exact(η.new wr _ _).alloc _
   have ha:η wq (n+1) 3 #[ι (a:Int)]:=by
    have h:=η.new (wr.alloc (.cells #[ι (k:Int)] 3)) 3 #[ι (a:Int)];rw[cM,HN.out] at h;rw[← iy];exact h
   have bn:η wq g 339 (ψ b):=by rw[← iy];exact(HB.out.2.2.alloc _).alloc _
   have kL:η wq (g+1) 339 (ψ (nA (fun i=>(qZ b).getD i 0) (List.replicate 16 0) k)):=by rw[← iy];exact(HB.out.1.alloc _).alloc _
   have qA:ζ (· = g+1) w2 wq:=by rw[← iy];exact(HB.out.2.1.alloc _).alloc _
   have HWQ:=τ qA kL;obtain⟨x0,hx0⟩:∃x,b.getD (a+(k+0) % 4) 0=x:=⟨_,rfl⟩;obtain⟨x1,hx1⟩:∃x,b.getD (a+(k+1) % 4) 0=x:=⟨_,rfl⟩;obtain⟨x2,hx2⟩:∃x,b.getD (a+(k+2) % 4) 0=x:=⟨_,rfl⟩;obtain⟨x3,Mh⟩:∃x,b.getD (a+(k+3) % 4) 0=x:=⟨_,rfl⟩;have hm:=fun (q:Nat) (hq:q<4)=>ahK bn.drew HO.out.2.2 ha.drew hi.drew (oN HA.out) hlt q hq
   have m0:=hm 0 oM;have m1:=hm 1 oM;have m2:=hm 2 oM;have m3:=hm 3 oM;rw[hx0] at m0;rw[hx1] at m1;rw[hx2] at m2;rw[Mh] at m3;have M0:=δ m0;have M1:=δ m1;have M2:=δ m2;have M3:=δ m3;obtain⟨y0,hy0⟩:∃y,rA x0=y:=⟨_,rfl⟩;obtain⟨y1,hy1⟩:∃y,rA x1=y:=⟨_,rfl⟩;have T0:=δ ((KV x0 wq.drew).mono fun _ _ ⟨p,q⟩=>And.intro p q.symm);have T1:=δ ((KV x1 wq.drew).mono fun _ _ ⟨p,q⟩=>And.intro p q.symm);rw[hy0] at T0;rw[hy1] at T1;obtain⟨z1,bG⟩:∃z,y0 ^^^ y1=z:=⟨_,rfl⟩;obtain⟨z2,aT⟩:∃z,z1 ^^^ x1=z:=⟨_,rfl⟩;obtain⟨z3,fK⟩:∃z,z2 ^^^ x2=z:=⟨_,rfl⟩;obtain⟨z4,cG⟩:∃z,z3 ^^^ x3=z:=⟨_,rfl⟩;have q1:=oX y0 y1;have q2:=oX z1 x1;have q3:=oX z2 x2;have q4:=oX z3 x3;rw[bG] at q1;rw[aT] at q2;rw[fK] at q3;rw[cG] at q4;have hst:=FK (fun i=>(qZ b).getD i 0) (List.replicate 16 0) k (by rw[fG];exact hlt);have hz:(qZ b).getD k 0=z4:=by
    have hA:=HA.out;unfold qZ;rw[bJ,gu,A7 hlt];show rA (b.getD (k / 4*4+(k+0) % 4) 0) ^^^ rA (b.getD (k / 4*4+(k+1) % 4) 0) ^^^ b.getD (k / 4*4+(k+1) % 4) 0 ^^^ b.getD (k / 4*4+(k+2) % 4) 0 ^^^ b.getD (k / 4*4+(k+3) % 4) 0=z4;rw[hA,hx0,hx1,hx2,Mh,hy0,hy1,bG,aT,fK,cG]
   simp only[hz] at hst;have fT:=δ hst;have hcI:=hi.dD;have hcO:=kL.kI k (by rw[FU _ _ _ (by rw[fG];omega),fG];exact hlt);have hfO:=kL.frozen k;clear hi ha bn kL qA hx0 hx1 hx2 Mh hm m0 m1 m2 m3 hy0 hy1 bG aT fK cG hst hz iy;go_still_tail 18,kR
   still_call M0.out
   still_call T0.out
   still_step
   still_call M1.out
   still_call T1.out
   still_step
   still_step
   still_call M1.out
   still_step
   still_step
   still_call M2.out
   still_step
   still_step
   still_call M3.out
   still_step
   still_step
   refine wpStill_nil ?_;change wpList _ _ _ _ _ wq.drew;go_wp2_with fail
   go_roundw
   case rel =>
    refine⟨k+1,oM,by go_num,?_,?_⟩
    ·have h:=(HWQ.out.2.xW k z4).drew
     rw[fT.out] at h;exact h
    ·exact(HWQ.out.1.setCell (p:=⟨g+1,k,none⟩) (.inl rfl) _).drew
   case measure=>simp[intOf]<;>omega
  ·obtain rfl:k=16:=oM
   have e16:((16:Nat):Int)=16:=rfl;rw[e16];have cN:(List.range 16).map (fun i=>(qZ b).getD i 0)=O:=by
    rw[HO.out.1];refine Ue (by rw[bp,uh,HO.out.2.1]) fun i h1 h2=>?_
    rw[J0,ND,bJ,bD h2];rfl
   rw[FV _ _ _ (by rw[fG]),cN] at hB;have HB:=δ hB;have HU:=δ (aU.out.2.2.then hu (fun q hq=>.inr (oN HG.out)));clear hB hu e16 hlt hk cN;go_wp2_with (first
    |(show wpList _ _ _ (⟨none,_,_,_,_,_⟩::_) _ _
      refine fk rfl 339 _ _ rfl (g+1) (ψ O) rfl rfl 339 _ HB.out rfl (lY _) (by rw[bq,HO.out.2.1];kernel_rfl) ?_
      intro w4 aE ag cG)
    |(refine eL _ (g+1) HB.out underlying339 (by rw[bq,HO.out.2.1];kernel_rfl) ?_))
   refine cy (jx rfl _ _ (g+1) _ _ _ _ rfl aE underlying339 rfl (by rw[bq,HO.out.2.1];kernel_rfl)) rfl ⟨rfl,HU.out.then ag (fun q hq=>.inr (oN HG.out))⟩
theorem agF {w:World} {c:Nat} {W:List UInt8} (hC:η w c 361 (ψ (W++qY))) (hW:W.length=240) (b:List UInt8) (hb:b.length=16) :
 ς 247 #[.pointer (some ⟨c,0,none⟩),.agg (ψ b)] w fun e w'=>e=ώ (.agg (ψ (ny W 14 b)))∧υ w w':=by
 obtain⟨g,hg⟩:=κ w.heap.size;have HG:=δ hg;obtain⟨B,sr⟩:=κ qY;have hBl:B.length=256:=by rw[← sr];exact O5
 rw[sr] at hC;have eR:c≠g:=fun e=>by have:=hC.lt;omega
 have HC:=cx hC hW sr hBl eR;have HA:=δ (fun (W1:World) (hu:ζ (fun q=>g≤q) w W1) (x:List UInt8) (hx:x.length=16) (r:Nat) (hr:r≤14) =>
  ahJ (hC.ε hu (oN hC.lt)) hW x hx r hr)
 obtain⟨b1,ec⟩:=κ (rY W b 0);have YS:b1.length=16:=by rw[← ec,O6]
 have HB:=aj hb ec YS;obtain⟨O,hO⟩:=κ (ny W 14 b);have lD:O.length=16:=by rw[← hO];exact FT _ _ _
 rw[hO];have HO:=τ hO lD;clear sr hBl hC hW eR ec YS hb hO lD;go_enter func247,ntmps247
 go_upto_region 1 with (fail)
 generalize aH:World.alloc _ _=w2;have aB:η w2 g 339 (ψ b):=by rw[← aH,← hg];exact(η.new w _ _).alloc _
 have jD:η w2 (g+1) 339 (ψ (List.replicate 16 0)):=by
  exact QE
 have π:υ w w2:=by rw[← aH];exact((ζ.refl _ w).alloc _).alloc _
 have aT:g+1<w2.heap.size:=jD.lt;have aU:=aD aB jD π aT;clear aB jD π aH hg aT;go_wp2_with (first
  |(go_at_call 273
    refine(HA.out w2 (aU.out.2.2.1.mono φ) b HB.out.1 0 oM).mono ?_;rintro e w3 ⟨rfl,χ⟩;rw[HB.out.2.1];have iu:=δ χ;clear χ)
  |(show wpList _ _ _ (⟨none,_,_,_,_,_⟩::_) _ _
    refine fk rfl 339 _ _ rfl g (ψ b1) rfl rfl 339 _ (aU.out.1.ε iu.out (fun e=>e)) (by rw[bq,bq,HB.out.1,HB.out.2.2]) (lY _) (by rw[bq,HB.out.2.2];kernel_rfl) ?_
    intro w4 aE ag cG;have iN:=τ aE (iu.out.trans ag (H:=(· = g)) φ (fun _ e=>.inl e));clear aE ag cG)
  |(refine eL _ g aU.out.1 underlying339 (by rw[bq,HB.out.1];kernel_rfl) ?_))
 go_loopw [5] (fun u wr=>∃r:Nat,r≤14∧u=ι ((r:Int)+1)∧η wr g 339 (ψ (ny W r b))∧ζ (· = g) w2 wr) (fun u _=>16 - (intOf u).toNat)
 case atStart=>exact⟨0,oM,rfl,by show η w4 g _ (ψ (rY W b 0));rw[HB.out.2.1];exact iN.out.1,iN.out.2⟩
 case round =>
  clear iN iu;obtain⟨r,hr,rfl,wP,tJ⟩:=hrel;by_cases hlt:r<14
  ·obtain⟨n,hn⟩:=κ wr.heap.size
   have RS:g≠n:=by have:=wP.lt;omega
   have hn2:w2.heap.size≤n:=by rw[← hn];exact tJ.size
   have HN:=aj RS hn2 (fun {W1:World} (hu:ζ (· = g) w2 W1)=>((aU.out.2.2.1.trans hu (H:=fun q=>g≤q) φ (fun q e=>.inl oM)):ζ (fun q=>g≤q) w W1));have Mz:=FT W b r;obtain⟨Rb,wQ⟩:=κ (ny W r b);rw[wQ] at wP Mz;have HR:=τ wQ (by rw[wQ];exact Mz:(ny W r b).length=16);have Iz:=aj wP tJ Mz;have HNN:=δ hn;have j5:(r:Int)+1≤14:=oM;clear wP tJ Mz wQ RS hn2 hn;go_wp2_with fail
   rw[HNN.out];generalize iy:World.alloc _ _=wq;have jb:η wq n 339 (ψ (List.replicate 16 0)):=by rw[← iy,← HNN.out];exact η.new wr _ _
   have hGq:η wq g 339 (ψ Rb):=by rw[← iy];exact Iz.out.1.alloc _
   have pz:ζ (· = g) w2 wq:=by rw[← iy];exact Iz.out.2.1.alloc _
   have HQ:=aj jb hGq pz;clear jb hGq pz iy;go_loopw [7,15] (fun _ u w'=>∃k:Nat,k≤16∧u=ι (k:Int)∧η w' n 339 (ψ (nA (fun i=>B.getD (Rb.getD ((i+4*(i % 4)) % 16) 0).toNat 0) (List.replicate 16 0) k))∧ζ (· = n) wq w') (fun _ u _=>16 - (intOf u).toNat)
   case atStart=>exact⟨0,oM,rfl,HQ.out.1,ζ.refl _ _⟩
   case round =>
    obtain⟨k,hk,rfl,ja,mR⟩:=hrel;by_cases oV:k<16
    ·have hgk:η wr g 339 (ψ Rb):=HQ.out.2.1.ε mR HN.out.1
     have EF:η wr c 361 (ψ (W++B)):=HC.out.1.ε ((HN.out.2.2 HQ.out.2.2).trans mR (H:=fun q=>g≤q) (fun _ e=>e) (fun q e=>.inl (oO HN.out.2.1 aU.out.2.2.2))) (oO HC.out.1.lt HG.out);obtain⟨m4,uX⟩:∃m,k % 4=m:=⟨_,rfl⟩;obtain⟨m16,YT⟩:∃m,4*m4=m:=⟨_,rfl⟩;obtain⟨sm,gD⟩:∃m,k+m16=m:=⟨_,rfl⟩;obtain⟨j,hj⟩:∃m,sm % 16=m:=⟨_,rfl⟩;have hjk:(k+4*(k % 4)) % 16=j:=by rw[uX,YT,gD,hj]
     have hc1:=hgk.kI j (by rw[Iz.out.2.2];omega);have hst:=FK (fun i=>B.getD (Rb.getD ((i+4*(i % 4)) % 16) 0).toNat 0) (List.replicate 16 0) k (by rw[fG];exact oV);simp only[hjk] at hst;obtain⟨x,hx⟩:=κ (Rb.getD j 0);rw[hx] at hc1 hst;have hxl:=x.toNat_lt;have hc2:=EF.kI (240+x.toNat) (by rw[aL,HC.out.2.1,HC.out.2.2.2.1];omega);rw[bJ,lM (by rw[HC.out.2.1];omega),HC.out.2.1,ug,← bJ] at hc2;obtain⟨y,hy⟩:=κ (B.getD x.toNat 0);rw[hy] at hc2;simp only[hy] at hst;have rB:=ja.kI k (by rw[FU _ _ _ (by rw[fG];omega),fG];exact oV);have hf:=ja.frozen k;have j7:(k:Int)<16:=oM;have j8:(x.toNat:Int)<256:=oM;have j9:(j:Int)<16:=oM;have sn:=aj ja mR hst;have e1:(k:Int).tmod 4=(m4:Int):=by rw[NC oM];omega
     have e2:IntKind.i64.wrap (4*(m4:Int))=(m16:Int):=by rw[bX _ oM];omega
     have e3:IntKind.i64.wrap ((k:Int)+(m16:Int))=(sm:Int):=by rw[bX _ oM];omega
     have e4:(sm:Int).tmod 16=(j:Int):=by rw[NC oM];omega
     clear ja mR hst hx hy hxl hgk EF uX YT gD hj hjk;go_wp2_with fail
     go_still_tail 15,kR
     change wpList _ _ _ _ _ (World.drew _);go_wp2_with fail
     clear e1 e2 e3 e4;go_roundw
     case rel =>
      refine⟨k+1,oM,by go_num,?_,?_⟩
      ·have h:=(sn.out.1.xW k y).drew
       have hs:=sn.out.2.2;rw[hs] at h;exact h
      ·exact(sn.out.2.1.setCell (p:=⟨n,k,none⟩) (.inl rfl) _).drew
     case measure=>simp[intOf]<;>omega
    ·obtain rfl:k=16:=oM
     have e16:((16:Nat):Int)=16:=rfl;rw[e16];obtain⟨T,hT⟩:=κ (zy (ny W r b));have gJ:T.length=16:=by rw[← hT];simp[zy]
     have hsub:(List.range 16).map (fun i=>B.getD (Rb.getD ((i+4*(i % 4)) % 16) 0).toNat 0)=T:=by
      rw[← hT,HR.out.1,← HC.out.2.2.1];rfl
     rw[FV _ _ _ (by rw[fG]),hsub] at ja;have HT:=τ hT gJ;have IA:=τ ja (HQ.out.2.2.then mR (fun q hq=>.inr (oN HN.out.2.1)));have EG:Hid (η wr g 339 (ψ (ny W r b))):=δ (by rw[HR.out.1];exact HQ.out.2.1.ε mR HN.out.1);clear hT gJ hsub ja mR hk oV e16;by_cases h14:r+1<14
     ·
      --#a {
      have k1:(r:Int)+1<14:=oM;obtain⟨M,hM⟩:=κ (qZ T);have mj:M.length=16:=by rw[← hM];simp[qZ]
      have MB:=δ (fun W1=>aiu T HT.out.2 W1);rw[hM] at MB;go_upto_region 13 with (first
       |(go_at_call 274
         refine(MB.out _).mono ?_;rintro e w13 ⟨rfl,qW⟩;have QF:=δ qW;clear qW)
       |(show wpList _ _ _ (⟨none,_,_,_,_,_⟩::_) _ _
         refine fk rfl 339 _ _ rfl n (ψ M) rfl rfl 339 _ (IA.out.1.ε QF.out (fun e=>e)) (by rw[bq,bq,mj,HT.out.2]) (lY _) (by rw[bq,mj];kernel_rfl) ?_
         intro w14 pX jA Ej)
       |(refine eL _ n IA.out.1 underlying339 (by rw[bq,HT.out.2];kernel_rfl) ?_))
      have EH:=pX;have IB:ζ (· = g) w2 w14:=(IA.out.2.then QF.out φ).then jA (fun q hq=>.inr (oN HN.out.2.1));have IC:η w14 g 339 (ψ (ny W r b)):=(EG.out.ε QF.out (fun e=>e)).ε jA (oN HN.out.1);clear pX jA Ej k1;obtain⟨R2,gl⟩:=κ (ny W (r+1) b);have GX:R2.length=16:=by rw[← gl];exact FT _ _ _
      have iY:rY W M (r+1)=R2:=by
       rw[← gl];show _=rY W (if r+1<14 then qZ (zy (ny W r b)) else zy (ny W r b)) (r+1);rw[σ (by omega:r+1<14),← hM,← HT.out.1]
      have HM:=cx hM mj gl GX iY;have yp:=aj EH IB IC;clear hM mj gl GX iY EH IB IC;go_wp2_with (first
       |(go_at_call 273
         refine(HA.out _ (HN.out.2.2 yp.out.2.1) M HM.out.2.1 (r+1) oM).mono ?_;rintro e w3 ⟨rfl,χ⟩;rw[HM.out.2.2.2.2];have iu:=δ χ;clear χ)
       |(show wpList _ _ _ (⟨none,_,_,_,_,_⟩::_) _ _
         refine fk rfl 339 _ _ rfl g (ψ R2) rfl rfl 339 _ (yp.out.2.2.ε iu.out (fun e=>e)) (by rw[bq,bq,HM.out.2.2.2.1,HR.out.2]) (lY _) (by rw[bq,HM.out.2.2.2.1];kernel_rfl) ?_
         intro w4 aE ag cG;have iN:=τ aE ((yp.out.2.1.then iu.out φ).then ag (fun _ e=>.inl e));clear aE ag cG)
       |(refine eL _ n yp.out.1 underlying339 (by rw[bq,HM.out.2.1];kernel_rfl) ?_))
      go_roundw
      case rel=>exact⟨r+1,oM,by go_num,by rw[HM.out.2.2.1];exact iN.out.1,iN.out.2⟩
      case measure=>simp[intOf]<;>omega
      --#a }
     ·
      --#c {
      have k1:¬(r:Int)+1<14:=oM;have k2:decide ((r:Int)+1<14)=false:=gN k1;obtain⟨M,hM⟩:=κ T;have mj:M.length=16:=by rw[← hM];exact HT.out.2
      have EH:=IA.out.1;rw[hM] at EH;have IB:=IA.out.2;have IC:=EG.out;obtain⟨R2,gl⟩:=κ (ny W (r+1) b);have GX:R2.length=16:=by rw[← gl];exact FT _ _ _
      have iY:rY W M (r+1)=R2:=by
       rw[← gl];show _=rY W (if r+1<14 then qZ (zy (ny W r b)) else zy (ny W r b)) (r+1);rw[ν (by omega:¬r+1<14),← hM,← HT.out.1]
      have HM:=cx hM mj gl GX iY;have yp:=aj EH IB IC;clear hM mj gl GX iY EH IB IC;go_wp2_with (first
       |(go_at_call 273
         refine(HA.out _ (HN.out.2.2 yp.out.2.1) M HM.out.2.1 (r+1) oM).mono ?_;rintro e w3 ⟨rfl,χ⟩;rw[HM.out.2.2.2.2];have iu:=δ χ;clear χ)
       |(show wpList _ _ _ (⟨none,_,_,_,_,_⟩::_) _ _
         refine fk rfl 339 _ _ rfl g (ψ R2) rfl rfl 339 _ (yp.out.2.2.ε iu.out (fun e=>e)) (by rw[bq,bq,HM.out.2.2.2.1,HR.out.2]) (lY _) (by rw[bq,HM.out.2.2.2.1];kernel_rfl) ?_
         intro w4 aE ag cG;have iN:=τ aE ((yp.out.2.1.then iu.out φ).then ag (fun _ e=>.inl e));clear aE ag cG)
       |(refine eL _ n yp.out.1 underlying339 (by rw[bq,HM.out.2.1];kernel_rfl) ?_))
      go_roundw
      case rel=>exact⟨r+1,oM,by go_num,by rw[HM.out.2.2.1];exact iN.out.1,iN.out.2⟩
      case measure=>simp[intOf]<;>omega
      --#c }
  ·obtain rfl:r=14:=oM
   have e15:((14:Nat):Int)+1=15:=rfl;rw[e15];rw[HO.out.1] at wP;have Cu:=aj wP (aU.out.2.1.ε tJ oM) (aU.out.2.2.1.then tJ (fun q hq=>.inr (oN HG.out)));clear wP tJ e15 hlt hr;go_wp2_with (first
    |(show wpList _ _ _ (⟨none,_,_,_,_,_⟩::_) _ _
      refine fk rfl 339 _ _ rfl (g+1) (ψ O) rfl rfl 339 _ Cu.out.2.1 (by rw[bq,bq,HO.out.2];rfl) (lY _) (by rw[bq,HO.out.2];kernel_rfl) ?_
      intro w4 aE ag cG)
    |(refine eL _ g Cu.out.1 underlying339 (by rw[bq,HO.out.2];kernel_rfl) ?_))
   refine cy (jx rfl _ _ (g+1) _ _ _ _ rfl aE underlying339 rfl (by rw[bq,HO.out.2];kernel_rfl)) rfl ⟨rfl,Cu.out.2.2.then ag (fun q hq=>.inr (oN HG.out))⟩
theorem UY (l:List UInt8) (j:Nat) (b:UInt8):(aK l).set j (ϋ (b.toNat:Int))=aK (l.set j b):=by simp[aK,List.map_set]
theorem UZ (l:List UInt8) (i:Nat) (h:i<l.length):(aK l)[i]? = some (ϋ ((l.getD i 0).toNat:Int)):=by simp[aK,h]
theorem acJ (key eN text:List UInt8):nA (fun i=>text.getD i 0 ^^^ DD key eN i) text text.length=uu key eN text:=by
 rw[FV _ _ _ rfl];unfold uu;refine Ue sM fun i h1 h2=>?_
 have h3:i<text.length:=by simpa using h1
 rw[J0,ND,List.getElem_mapIdx,bJ,bD h3];rfl
def uE (key eN text:List UInt8) (k:Nat):List UInt8:=nA (fun i=>text.getD i 0 ^^^ DD key eN i) text k
theorem ae5 (key eN:List UInt8) (text:ByteArray) (w:World) (hk:key.length=32) (hn:eN.length=12) (ht:text.size≤100000) :
 ς 210 #[.agg (ψ key),.agg (ψ eN),.string text] w fun e w'=>e=ώ (.string (str (uu key eN text.data.toList)))∧υ w w':=by
 obtain⟨g,hg⟩:=κ w.heap.size;have HG:=δ hg;obtain⟨O,hO⟩:=κ (uu key eN text.data.toList);rw[hO];have HO:=aj hO hk hn;clear hO hk hn;go_enter func210,ntmps210
 go_upto_region 1 with (fail)
 generalize aH:World.alloc _ _=w2;have aB:η w2 g 194 (ψ key):=by rw[← aH,← hg];exact(η.new w _ _).alloc _
 have jD:η w2 (g+1) 312 (ψ eN):=by
  have h:=η.new (w.alloc (.cells (ψ key) 194)) 312 (ψ eN);rw[cM,hg] at h;rw[← aH];exact h
 have π:υ w w2:=by rw[← aH];exact((ζ.refl _ w).alloc _).alloc _
 have aU:=aj aB jD π;clear aB jD π aH hg;go_wp2_with (first
  |(go_at_call 245
    refine(acI key HO.out.2.1 w2).mono ?_;rintro e w3 ⟨c,rfl,aA,rB,χ⟩;have wR:=aj aA rB χ;clear aA rB χ;obtain⟨v4,w4,hcv,pE,ag,YU,ai'⟩:=NZ w3 text (by unfold maxLen;omega);obtain⟨A4,zz,rfl,sj,i_⟩:=pE.shape;have iN:=aj pE ag YU;clear pE ag YU ai' sj i_)
  |(refine eL _ g aU.out.1 underlying194 (by rw[bq,HO.out.2.1];kernel_rfl) ?_))
 obtain⟨gb,RT⟩:=κ w3.heap.size;have zS:η w4 c 361 (ψ (Bw key++qY)):=wR.out.1.ε iN.out.2.1 (fun e=>e);have zZ:η w4 (g+1) 312 (ψ eN):=aU.out.2.1.ε (wR.out.2.2.then iN.out.2.1 φ) (fun e=>e);have hcb:c≠gb:=by have:=wR.out.1.lt;omega
 have hnb:g+1≠gb:=by have:=(aU.out.2.1.ε wR.out.2.2 (fun e=>e)).lt;omega
 have Mk:(Value.slice A4 text.size zz).ownBlock=some gb:=by rw[← RT];exact iN.out.2.2
 have tH:υ w w4:=(aU.out.2.2.then wR.out.2.2 φ).then iN.out.2.1 φ;have gE:w.heap.size≤gb:=by rw[← RT];exact(aU.out.2.2.then wR.out.2.2 φ).size
 have HD:=o_ zS zZ hcb hnb Mk tH gE;obtain⟨L,hL⟩:=κ text.size;have HL:=δ hL;have ht2:text.data.toList.length=L:=hL;have mg:=δ ht2;rw[hL] at HD ht iN;rw[hL];clear zS zZ hcb hnb Mk tH gE RT hL ht2;go_loopw [9] (fun u wr=>∃m k:Nat,u=ι ((16*m:Nat):Int)∧k=min (16*m) L∧m≤10000∧Own wr 5 1 (.slice A4 L zz) L (aK (uE key eN text.data.toList k))∧ζ (fun q=>q=gb) w4 wr) (fun u _=>200000 - (intOf u).toNat)
 case atStart=>exact⟨0,0,rfl,sM,oM,by simpa [uE,nA] using iN.out.1,ζ.refl _ _⟩
 case round =>
  obtain⟨m,k,rfl,hk,hm,ho,hu⟩:=hrel;by_cases hlt:16*m<L
  ·obtain rfl:k=16*m:=oM
   obtain rfl:A4=some ⟨gb,0,none⟩:=by
    obtain⟨gg,cc,e,-,-⟩:=ho.head oM;injection e with e1 e2 e3;subst e1;have:=dw (show some gg=some gb from HD.out.2.2.2.2.1);rw[this]
   obtain⟨at_,hat⟩:∃a,16*m=a:=⟨_,rfl⟩;rw[hat] at ho hlt ⊢;have EI:=δ hat;have jR:=τ ho hu;obtain⟨n,hn⟩:=κ wr.heap.size;have HN:=δ hn;have i1:(at_:Int)<(L:Int):=oM;clear hk ho hu hn hat;go_upto_region 7 with (fail)
   rw[HN.out];generalize iy:World.alloc _ _=wq;have jb:η wq n 339 (ψ (List.replicate 16 0)):=by rw[← iy,← HN.out];exact η.new wr _ _
   have pz:ζ (fun q=>q=gb) w4 wq:=by rw[← iy];exact jR.out.2.alloc _
   have hOq:Own wq 5 1 (.slice (some ⟨gb,0,none⟩) L zz) L (aK (uE key eN text.data.toList at_)):=by rw[← iy];exact jR.out.1.alloc _
   have hnb:n≠gb:=fun e=>by have:=jR.out.1.lt HD.out.2.2.2.2.1;have:=HN.out;omega
   have pZ:w4.heap.size≤n:=by rw[← HN.out];exact jR.out.2.size
   have HQ:=cx jb pz hOq hnb pZ;clear jb pz hOq hnb pZ iy;go_still_tail 2,kR
   change wpList _ _ _ _ _ wq.drew;go_wp2_with fail
   have RU:η wq.drew (g+1) 312 (ψ eN):=(HD.out.2.1.ε HQ.out.2.1 HD.out.2.2.2.1).drew;have hnl:=HO.out.2.2;obtain⟨W7,r7,YV,dG,bK,jq⟩:=Ko (off:=0) (n:=16) (cap:=16) (l:=eN) HQ.out.1.drew (v:=.slice (some ⟨g+1,0,none⟩) 12 12) ⟨_,12,by rw[hnl],oM,by unfold maxLen;omega,fun _=>⟨g+1,0,rfl,RU.lt,fun i hi=>by rw[kU];exact RU.kI i hi⟩⟩ oM (by rw[fG];omega);rw[show (List.replicate 16 (0:UInt8)).take 0++eN++(List.replicate 16 (0:UInt8)).drop (0+eN.length)=eN++List.replicate 4 0 by rw[Fw,nW,kU,hnl,Ud]] at dG;have H7:=τ dG ((ζ.refl (fun q=>q=n) wq).drew.then bK (fun q e=>.inl e));rw[YV];clear RU hnl YV dG bK jq;go_wp2_with fail
   have HDV:=δ (show at_ / 16=m by have:=EI.out;omega);have e1:((at_:Int) / 16)=(m:Int):=by have:=EI.out;omega
   have e2:IntKind.i64.wrap (m:Int)=(m:Int):=bX _ oM;have e3:IntKind.u64.wrap (m:Int)=(m:Int):=Ga m oM;refine dB ?_;refine dK (S:=fun w'=>υ W7 w') (T:=fun k=>k == 5) kR ?_;have aC:=(ζ.refl (fun _=>False) W7).drew;refine tK 0 ?_;refine fU 1 (ι (at_:Int)) ?_;refine tK 2 ?_;refine tK 3 ?_;refine aY 4 (fun K hK=>?_);go_simp
   clear e1 e2 e3;refine(acA (.slice none 0 0) 0 [] m 4 _ (Own.nil _ _ _) dC dC).mono ?_;rintro e w12 ⟨v12,rfl,xV,gT,QC⟩;rw[kU,nW] at xV;have Eh:υ W7.drew w12:=gT.mono (fun b hb=>by simp[Value.ownBlock] at hb);have b9:=aC.then Eh φ;refine hK.out _ _ b9 ?_;have hby:=gx.jK xV;have hnl:=HO.out.2.2;have hlb:=ur m 4;obtain⟨W,rv,rz,l9,qW,Ei⟩:=Ko (off:=12) (n:=4) (cap:=4) (l:=i6 m 4) (H7.out.1.ε b9 (fun e=>e)) hby oM (by rw[aL,fG];omega);rw[show (eN++List.replicate 4 (0:UInt8)).take 12++i6 m 4++(eN++List.replicate 4 (0:UInt8)).drop (12+(i6 m 4).length)=eN++i6 m 4 by
    rw[hlb,JU oM,dH oM,pN (by rw[aL,fG];omega),xz]] at l9
   obtain⟨A12,c12,rfl,-,-⟩:=xV.shape;clear hK;refine kO 5 (fun K hK=>?_);refine NY (by rfl) _ _ _ _ (by rfl) (by rfl) (by rfl) rz ?_;refine hK.out _ _ ?_;obtain⟨IN,MC⟩:∃I,eN++i6 m 4=I:=⟨_,rfl⟩;have YW:IN.length=16:=by rw[← MC,aL,hlb];omega
   rw[MC] at l9;have hnb:=HQ.out.2.2.2.1;have pZ:=HQ.out.2.2.2.2;have YX:ζ (fun q=>q=gb) w4 W:=((HQ.out.2.1.then H7.out.2 (fun q e=>.inr (by have e2:q=n:=e;omega))).then b9 φ).then qW (fun q e=>.inr (by have e2:q=n:=e;omega));have YY:ζ (fun q=>q≠gb) wq W:=((H7.out.2.mono (G:=fun q=>q≠gb) (fun q e=>.inl (by have e2:q=n:=e;omega))).then b9 φ).then qW (fun q e=>.inl (by have e2:q=n:=e;omega));have HE:=aD l9 YX MC YW;have HV:=δ YY;clear hnb pZ YY;clear hK rz l9 qW Ei b9 aC hby xV gT QC Eh hnl hlb MC YW YX;refine dF ?_;refine cZ ?_;obtain⟨OUT,LL⟩:∃o,PJ key IN=o:=⟨_,rfl⟩;have XN:OUT.length=16:=by rw[← LL];exact acF _ _
   have hcW:η W c 361 (ψ (Bw key++qY)):=HD.out.1.ε HE.out.2.1 HD.out.2.2.1;have hbk:=agF hcW (acE HO.out.2.1) IN HE.out.2.2.2;rw[show ny (Bw key) 14 IN=OUT from LL] at hbk;have HBK:=δ hbk;have LM:=τ LL XN;clear LL XN hcW hbk;go_upto_region 10 with (first
    |(go_at_call 247
      refine HBK.out.mono ?_;rintro e w14 ⟨rfl,jA⟩;have LN:=δ jA;clear jA)
    |(show wpList _ _ _ (⟨none,_,_,_,_,_⟩::_) _ _
      refine fk rfl 339 _ _ rfl w14.heap.size (ψ OUT) rfl rfl 339 _ (η.new w14 _ _) (by rw[bq,LM.out.2];rfl) (lY _) (by rw[bq,LM.out.2];kernel_rfl) ?_
      intro w15 zA nJ aja)
    |(refine eL _ n HE.out.1 underlying339 (by rw[bq,HE.out.2.2.2];kernel_rfl) ?_))
   have XO:gb<w14.heap.size:=by
    have h1:=iN.out.1.lt HD.out.2.2.2.2.1;have h2:=HE.out.2.1.size;have h3:=LN.out.size;omega
   have YZ:ζ (fun q=>q=gb) w4 w15:=((HE.out.2.1.then LN.out φ).alloc _).then nJ (fun q e=>.inr (by have e2:q=w14.heap.size:=e;have:=HE.out.2.1.size;have:=LN.out.size;omega));have Y3:ζ (fun q=>q≠gb) wq w15:=((HV.out.then LN.out φ).alloc _).then nJ (fun q e=>.inl (by have e2:q=w14.heap.size:=e;omega));have Y4:Own w15 5 1 (.slice (some ⟨gb,0,none⟩) L zz) L (aK (uE key eN text.data.toList at_)):=HQ.out.2.2.1.ε Y3 (fun q hq e=>e (dw (hq.symm.trans HD.out.2.2.2.2.1)));obtain⟨no,hno⟩:=κ w14.heap.size;rw[hno] at zA XO ⊢;have Y5:no≠gb:=oM;clear XO Y3;have HF:=aD zA YZ Y5 Y4;clear zA nJ aja YZ Y5 Y4 hno;obtain⟨q,hq⟩:=κ (min 16 (L - at_));have hmin:min (16:Int) ((L:Int) - (at_:Int))=(q:Int):=oM;have HQ2:=δ hq;clear hq;go_wp2_with fail
   clear hmin;go_loopw [12,40] (fun _ u wr=>∃j:Nat,j≤q∧u=ι (j:Int)∧Own wr 5 1 (.slice (some ⟨gb,0,none⟩) L zz) L (aK (uE key eN text.data.toList (at_+j)))∧ζ (fun q=>q=gb) w4 wr∧η wr no 339 (ψ OUT)) (fun _ u _=>20 - (intOf u).toNat)
   case atStart=>exact⟨0,oM,rfl,HF.out.2.2.2,HF.out.2.1,HF.out.1⟩
   case round =>
    obtain⟨j,hj,rfl,ho,hu,hB⟩:=hrel;have hq:=HQ2.out;by_cases oV:j<q
    ·obtain⟨si,hsi⟩:=κ (at_+j)
     have htl:=mg.out;have dP:(uE key eN text.data.toList si).length=L:=by unfold uE;rw[FU _ _ _ oM];exact htl
     have hc1:=ho.cellAt si oM;have hf:=ho.frozenAt si oM;rw[hsi] at hc1 ho;have hgt:(uE key eN text.data.toList si).getD si 0=text.data.toList.getD si 0:=UX _ _ _;rw[UZ _ _ oM,hgt] at hc1;have hc2:=hB.kI j (by rw[LM.out.2];omega);have hst:=FK (fun i=>text.data.toList.getD i 0 ^^^ DD key eN i) text.data.toList si oM;have RV:DD key eN si=OUT.getD j 0:=by
      have hat:=EI.out;unfold DD;rw[show si / 16=m by omega,show si % 16=j by omega,HE.out.2.2.1,LM.out.1]
     simp only[RV] at hst;obtain⟨x,hx⟩:=κ (text.data.toList.getD si 0);obtain⟨y,hy⟩:=κ (OUT.getD j 0);rw[hx] at hc1 hst;rw[hy] at hc2 hst;obtain⟨z,hz⟩:=κ (x ^^^ y);rw[hz] at hst;have hxy:=oX x y;rw[hz] at hxy;have bV:=ho.stored si (ϋ (z.toNat:Int));rw[UY,show (uE key eN text.data.toList si).set si z=uE key eN text.data.toList (si+1) from hst] at bV;have HS:=aD bV hu hB hsi;have j1:(j:Int)<16:=oM;have j2:(si:Int)<(L:Int):=oM;have j3:(0:Int)≤(si:Int):=oM;have j4:(j:Int)<(q:Int):=oM;have e1:IntKind.i64.wrap ((at_:Int)+(j:Int))=(si:Int):=by rw[bX _ oM];omega
     clear ho hu hB hq hsi htl dP hgt hst RV hx hy hz bV;go_wp2_with fail
     go_still_tail 11,kR
     change wpList _ _ _ _ _ (World.drew _);go_wp2_with fail
     clear e1;go_roundw
     case rel =>
      refine⟨j+1,oM,by go_num,?_,?_,?_⟩
      ·rw[show at_+(j+1)=si+1 by have:=HS.out.2.2.2;omega]
       exact HS.out.1.drew
      ·exact(HS.out.2.1.setCell (p:=⟨gb,si,none⟩) (.inl rfl) _).drew
      ·exact(HS.out.2.2.1.bP (p:=⟨gb,si,none⟩) HF.out.2.2.1 _).drew
     case measure=>simp[intOf]<;>omega
    ·obtain rfl:j=q:=oM
     have HS:=τ ho hu;have HQ3:=δ (show (at_:Int)+16=((16*(m+1):Nat):Int)∧at_+j=min (16*(m+1)) L from ⟨by have:=EI.out;omega,by have:=EI.out;omega⟩);clear ho hu hB hj hq;go_wp2_with fail
     go_roundw
     case rel=>exact⟨m+1,at_+j,by rw[← HQ3.out.1],HQ3.out.2,by have:=EI.out;omega,HS.out.1,HS.out.2⟩
     case measure=>simp[intOf]<;>omega
  ·have htl:=mg.out
   have hkL:k=text.data.toList.length:=oM;rw[hkL] at ho;rw[show uE key eN text.data.toList text.data.toList.length=O from (acJ key eN _).trans HO.out.1] at ho;have aj':=vP ho;have HU:=δ (HD.out.2.2.2.2.2.1.then hu (fun q e=>.inr (by have e2:q=gb:=e;have:=HD.out.2.2.2.2.2.2;omega)));clear ho hu hkL htl hk hm;go_wp2_with fail
   go_ret
   exact⟨rfl,HU.out⟩
end
end Go.Proofs.YtbhjgfibhegddaaGreat
