import Derived.Test.YtgjdmncoonceaaaGreatDoorAmFZi
import Derived.Test.YtgjdmncoonceaaaGreatDoorAmFZg
import Derived.Test.YtgjdmncoonceaaaGreatDoorAmFZf
set_option linter.defProp false
set_option linter.unusedVariables false
set_option linter.unusedSimpArgs false
set_option linter.unusedSectionVars false
set_option maxRecDepth 100000
open Bool renaming false→B2,true→B4
open False renaming elim→NP
open Go renaming IntKind→P0
open Int renaming reduceEq→Ri
open List renaming range→MT,replicate→JK
open Nat renaming beq→I6
open Option renaming isSome→BR,none→B5,some→B1
open Nat renaming reduceEqDiff→bc
namespace Go.Am
open Go.Proofs Ca
open Lang (ints)
variable{M:ak}[MK M]
def pE(l s w:Int)(k:Nat):List No:=(MT k).map λ(i:Nat)=>pz (i:Int) l s w
def gj(l c s w:Int):Bu:=⟨JK l.toNat .zero,JK l.toNat iG,pE l s w c.toNat,[]⟩
def sE(l c s w:Int):Prop:=yA l c/\sN s w
instance(l c s w:Int):Decidable (sE l c s w):=inferInstanceAs (Decidable (_/\_))
def VX{l s w:Int}{k i:Nat}{n:No}(h:(pE l s w k)[i]? = B1 n):i<k/\n=pz (i:Int) l s w:=by
 unfold pE at h;rw[xp,xq]at h;have⟨j,a,e⟩:=h;have hk:=(qt.1 a).1;rw[zy]at hk;rw[kj hk]at a;cases a;exact⟨hk,e.symm⟩
def Ub(l s w:Int)(k:Nat):(pE l s w k).length=k:=by unfold pE;rw[xt,zy]
structure Ks(H0 H:ar)(B D mp:Nat)(lv ev nv:AV)(l c s w:Int)(ad:List Na)(own:Nat->Nat):Prop where
 row:H.get B=B1 (OR [.ptr D 0,nv,.nils,.int .i64 l] Kx)
 lt:B<H.au
 d:mM H D mp lv ev c (JK l.toNat .zero) (JK l.toNat (iG,.nils))
 Vw:aT po LH 1 H nv (ad.map Na.r)
 no:∀(k:Nat)(A:Na),ad[k]? = B1 A->dc H0 H A.r A.b A.sv A.bv (pz (k:Int) l s w) A.ks
 oB:own B=0
 oD:∀z,mO D mp lv ev (JK l.toNat (iG,.nils)) z->own z=1
 oN:∀z,aM nv z->own z=2
 oC:∀(k:Nat)(A:Na),ad[k]? = B1 A -> ∀z,A.w z->own z=4+k
 Q4:H0.au<=B
 loD:∀z,mO D mp lv ev (JK l.toNat (iG,.nils)) z->H0.au<=z
 PK:∀z,aM nv z->H0.au<=z
 fr:Fr Em H0 H
def dc.base{H0 H1 H:ar}{r b:Nat}{sv bv:AV}{n:No}{ks:List Nat}(h:dc H1 H r b sv bv n ks)(f:Fr Em H0 H1):dc H0 H r b sv bv n ks:=by
 have hn:=f.au;refine⟨h.row,h.lt,h.ca,⟨?_,f.trans h.bk.fr λ _ q=>.inl q⟩,h.eq,xw hn h.lr,xw hn h.lb,xw hn h.ls,h.n1,h.n2,h.o1,h.o2,h.o3,h.li,h.len⟩;rcases h.bk.own with q|⟨b,m,rest,a,d,e,g⟩
 .exact .inl q
 .exact .inr ⟨b,m,rest,a,d,xw hn e,g⟩
def dc.all{H0 H:ar}{r b:Nat}{sv bv:AV}{n:No}{ks:List Nat}(h:dc H0 H r b sv bv n ks){z:Nat}(a:iE r b sv bv z):H0.au<=z:=by
 rcases a with rfl|(rfl|rfl)|a
 .exact h.lr
 .exact h.lb
 .exact h.ls
 .exact (h.bk.fresh z a).1
section
variable{H0 H:ar}{B D mp:Nat}{lv ev nv:AV}{l c s w:Int}{ad:List Na}{own:Nat->Nat}
def Ks.step(h:Ks H0 H B D mp lv ev nv l c s w ad own)(R:ad.length<=4){H1:ar}{A:Na}(G:dc H H1 A.r A.b A.sv A.bv (pz (ad.length:Int) l s w) A.ks){K:bD->(Nat->AV)->Bool->AV->ar->Prop}
 (hk:∀v j,(∃I,Op.store 1 [.ptr B 1,v] j=B1 (.undef,I)/\(∃F,Ks H0 I B D mp lv ev v l c s w (ad ++ [A]) F)/\Fr (λ z=>z=B\/aM nv z) H I /\ ∀z,aM v z->aM nv z\/H.au<=z)->K (.row [.ptr A.r 0] LH (0,0) B4) (Op.sliceTo 1 1) B4 v j) :
 iW B4 (Op.buildSlice LH 1 [.nilp] [(0,1)] [.ptr A.r 0]) λ g o mk=>iW g (Op.append LH 1 8 [nv,mk H1.au] (H1.alloc o)) (K o mk):=by
 have m:Fr Em H H1:=G.bk.fr;have S:=m.au;refine nN (e:=LH) (size:=1) (bytes:=8) (Own.em h.Vw m) (x:=.ptr A.r 0) rfl rfl rfl (by decide) (by rw[xt];omega) (by rw[xt];omega) λ v j N E L=>?_;refine hk v j ?_;have low:∀z,(z=B\/mO D mp lv ev (JK l.toNat (iG,.nils)) z\/aM nv z \/ ∃k i,ad[k]? = B1 i/\Na.w i z)->z<H.au:=λ z f=>by
  rcases f with rfl|f|f|⟨k,i,a,f⟩
  .exact h.lt
  .exact h.d.low f
  .exact Own.lt h.Vw z f
  .exact (h.no k i a).low f
 have ne:∀{z k:Nat},own z=k->k≠2 -> ¬aM nv z:=λ e1 e2 q=>e2 (by rw[<-e1];exact h.oN _ q);have Q:j.get B=B1 (OR [.ptr D 0,nv,.nils,.int .i64 l] Kx):=by
  rw[E.ah _ (by have:=h.lt;omega) (ne h.oB (by decide)),m.ah _ h.lt id];exact h.row
 have o1:aB v=true:=by have:=Sl.one (Own.sl N);exact this
 have J:v.cells=[v]:=by cases v<;>first|rfl|cases o1
 have st:=wY Q (o:=1) (n:=1) (v:=v) (by rw[J];rfl) (by simp) (by rw[J,vc];simpa using o1);rw[J]at st;have T:=E.au;have C:Fr (On B) j (j.set B (OR ([AV.ptr D 0,nv,.nils,.int .i64 l].take 1 ++ [v] ++ [AV.ptr D 0,nv,.nils,.int .i64 l].drop (1+1)) Kx)):=(Fr.refl j).set (W:=On B) (.inl rfl) _;have P:H0.au<=H.au:=h.fr.au;have O:∀{z k:Nat},own z=k->k≠0 -> ¬z=B:=λ e1 e2 q=>e2 (by rw[<-e1,q];exact h.oB);have t:∀z,aM v z->(aM nv z/\z<H.au)\/H1.au<=z:=λ z f=>(L z f).elim (λ q=>.inl ⟨q,low z (.inr (.inr (.inl q)))⟩) .inr;have u:Fr (aM nv) H j:=(m.mono λ _ _ q=>q.elim).trans E λ z q=>.inl q;have p:∀z,A.w z->H.au<=z/\z<H1.au:=λ z f=>⟨G.all f,G.low f⟩
 refine⟨_,st,⟨(λ z=>if z<H.au then own z else if z<H1.au then 4+ad.length else 2),xc ..,?_,?_,?_,λ k i a=>?_,?_,λ z f=>?_,λ z f=>?_,λ k i a z f=>?_,h.Q4,h.loD,λ z f=>?_,?_⟩,(u.mono λ z _ q=>.inr q).trans C λ z(q:z=B)=>.inl (.inl q),λ z f=>(t z f).elim (λ q=>.inl q.1) λ q=>.inr (by omega)⟩
 .have:=h.lt;show B<j.au;omega
 .exact (h.d.fr u λ z q w=>ne (h.oD z w) (by decide) q).fr C λ z q w=>O (h.oD z w) (by decide) q
 .have ow:aT po LH 1 j v ((ad ++ [A]).map Na.r):=by
   rw[HB];unfold aT;rw[xr,vh];exact N
  refine Own.fr ow C λ z f(q:z=B)=>?_;rcases t z f with⟨w,-⟩|w
  .exact O (h.oN z w) (by decide) q
  .have:=h.lt;omega
 .by_cases e:k<ad.length
  .rw [yp e]at a;refine((h.no k i a).off u λ z w=>⟨h.PK z w,λ w2=>?_⟩).off C λ z w=>?_
   .have:=h.oC k i a z w2;have:=h.oN z w;omega
   .have w:z=B:=w;refine⟨by rw[w];exact h.Q4,λ w2=>?_⟩;have:=h.oC k i a z w2;rw[w,h.oB]at this;omega
  .have hk:=(qt.1 a).1;rw[xr]at hk;have y:k=ad.length:=by simp only[jd,kr]at hk;omega
   subst y;rw[z7 (qm _),Kk]at a;cases a;refine((G.base h.fr).off E λ z w=>⟨h.PK z w,λ w2=>?_⟩).off C λ z w=>?_
   .have:=p z w2;have:=low z (.inr (.inr (.inl w)));omega
   .have w:z=B:=w;refine⟨by rw[w];exact h.Q4,λ w2=>?_⟩;have:=p z w2;have:=h.lt;omega
 .rw [xg h.lt];exact h.oB
 .rw [xg (low z (.inr (.inl f)))];exact h.oD z f
 .rcases t z f with⟨w,w2⟩|w
  .rw [xg w2];exact h.oN z w
  .rw [qv (by omega),qv (by omega)]
 .by_cases e:k<ad.length
  .rw [yp e]at a;rw[xg (low z (.inr (.inr (.inr ⟨k,i,a,f⟩))))];exact h.oC k i a z f
  .have hk:=(qt.1 a).1;rw[xr]at hk;have y:k=ad.length:=by simp only[jd,kr]at hk;omega
   subst y;rw[z7 (qm _),Kk]at a;cases a;have:=p z f;rw[qv (by omega),xg this.2]
 .rcases t z f with⟨w,-⟩|w
  .exact h.PK z w
  .omega
 .exact ((h.fr.trans m λ _ q=>.inl q).trans E λ z q=>.inr (h.PK z q)).trans C λ z(q:z=B)=>.inr (by rw[q];exact h.Q4)
def Ks.done(h:Ks H0 H B D mp lv ev nv l c s w ad own)(hl:ad.length=c.toNat)(f:0<=c)(e:0<=l):eH H0 H B ⟨D,mp,lv,ev,JK l.toNat (iG,.nils),nv,.nils,ad⟩ (gj l c s w) own:=by
 have hlen:((gj l c s w).ns.length:Int)=c:=by show((pE l s w c.toNat).length:Int)=c;rw[Ub];omega
 refine⟨?_,h.lt,?_,?_,h.Vw,λ k n A hn b=>?_,?_,Sk.nil _,h.oB,h.oD,h.oN,λ z q=>absurd rfl q.1,h.oC,λ z a=>?_⟩
 .rw [h.row];have:((gj l c s w).l.length:Int)=l:=by show((JK l.toNat iG).length:Int)=l;rw[jc];omega
  rw[this]
 .rw [hlen];exact h.d
 .show (JK l.toNat (iG,AV.nils)).map Prod.fst=JK l.toNat iG;rw[List.map_replicate]
 .obtain ⟨-,rfl⟩:=VX hn;exact h.no k A b
 .show ad.length=(pE l s w c.toNat).length;rw[Ub,hl]
 .rcases a with rfl|a|a|a|⟨k,A,b,a⟩
  .exact h.Q4
  .exact h.loD z a
  .exact h.PK z a
  .exact absurd rfl a.1
  .exact (h.no k A b).all a
end
end Go.Am
namespace Go.Am
open Ca
def HJ{N l:Int}(b:0<=N)(a:N<=4):XI iG N l:=⟨⟨a,⟨by decide,by show(-1:Int)<N;omega⟩,by decide,by decide,λ c _ _ q=>(by have q:hb 0 c=1:=q;rw[xk1]at q;cases q),λ m hm=>(nomatch hm)⟩,λ q=>absurd rfl q⟩
def zQ{l c s w:Int}{m:List L8}{V:Int->L8}(h:sE l c s w)(hm:m.length=l.toNat):BuI {gj l c s w with m:=m} V:=by
 obtain⟨⟨⟨l0,l1⟩,e,f⟩,hs⟩:=h;have a:(gj l c s w).ns.length=c.toNat:=Ub ..;have b:((gj l c s w).l.length:Int)=l:=by show((JK l.toNat iG).length:Int)=l;rw[jc];omega
 refine⟨by show(gj l c s w).ns.length<=4;rw[a];omega,by show m.length=(JK l.toNat iG).length;rw[hm,jc],λ k n hn=>?_,λ m hm=>(nomatch hm),λ i x d=>?_⟩
 .obtain ⟨hk,rfl⟩:=VX hn;exact⟨ah4 (cores:=c) ⟨hs,by omega,by omega,by omega,l0,l1⟩,rfl,b.symm⟩
 .rw [vp (show x∈JK l.toNat iG from zd d)];exact HJ (by omega) (by show((gj l c s w).ns.length:Int)<=4;rw[a];omega)
structure Bt where
 k:Int
 c:Int
 n:Int
 v:Int
 o:Int
def No.call(n:No)(x:Bt):No×List Mg :=
 if x.k=0 then((n.load x.n).1,(n.load x.n).2.2.2.1)
 else if x.k=1 then((n.store x.n x.v).1,(n.store x.n x.v).2.2.1)
 else if x.k=2 then n.ny x.n x.o x.v
 else if x.k=3 then(n.begin,[])
 else if x.k=4 then(n.bn,[])
 else if x.k=5 then((n.abort x.n).1,[])
 else if x.k=6 then n.cS x.n
 else(n,[])
def Bu.step(b:Bu)(x:Bt):Bu :=
 if x.k=7 then if 0<=x.n/\x.n<b.fl.length then b.xC x.n.toNat else b
 else if 0<=x.c then match b.ns[x.c.toNat]? with
  |none=>b
  |some n=>b.put x.c.toNat (n.call x)
 else b
def OA{b:Bu}{V:Int->L8}(h:BuI b V)(i:Nat):BuI (b.xC i) V:=by
 unfold Bu.xC;cases hm:b.fl[i]? with
 |none=>exact h
 |some m =>
  have he:∀o∈b.fl.eraseIdx i,o∈b.fl:=λ o q=>List.mem_of_mem_eraseIdx q;obtain⟨mk,e,ml⟩:=h.mw m (zd hm);simp only
  by_cases g:m.k<=7
  .rw [xg g];obtain⟨x,w,f,hw,u⟩:=h.entry ml.1 ml.2;rw[f,hw];obtain⟨a,o⟩:=Hj (w:=w) u e rfl;have hl:=(qt.1 f).1;refine⟨h.N4,by simp only[zf];exact h.ml,λ c n hn=>by simp only[zf];exact h.nw c n hn,λ y d=>?_,λ j y d=>?_⟩
   .simp only[zf];rcases z6.1 d with q|q
    .exact h.mw y (he y q)
    .obtain ⟨p,r,t⟩:=o y q;exact⟨.inr p,r,by rw[t];exact ml⟩
   .have d:(b.l.set m.line.toNat (x.bP w m).1)[j]? = B1 y:=d
    by_cases q:j=m.line.toNat
    .subst q;rw[zj hl]at d;injection d with d;subst d
     rw[Md ml.1];exact a
    .rw [zn (rP q)]at d;exact h.xs j y d
  .rw [qv g];obtain⟨n,hn,w⟩:=h.core e.1 e.2;rw[hn];exact h.node hn (w.ni.bP m) (No.G3 w.ni m) he
def DB{b:Bu}{V:Int->L8}(h:BuI b V)(x:Bt):BuI (b.step x) V:=by
 unfold Bu.step;split
 .split
  .exact OA h _
  .exact h
 split
 .cases hn:b.ns[x.c.toNat]? with
  |none=>exact h
  |some n =>
   have w:=(h.nw _ n hn).ni;simp only;unfold No.call;split;· exact h.call hn (w.load _) (No.Ik _)
   split;· exact h.call hn (w.store _ _) (No.Dh _ _)
   split;· exact h.call hn (w.ny _ _ _) (No.Lc _ _ _)
   split;· exact h.call hn (show n.begin.NI by unfold No.begin;split;exact w;exact⟨w.ci,λ q=>by cases q⟩) No.Es
   split;· exact h.call hn (show n.bn.NI by unfold No.bn;split;exact⟨w.ci.bn,λ _=>w.ci.yY⟩;exact w) No.zY
   split;· exact h.call hn (show(n.abort x.n).1.NI by unfold No.abort;(repeat' split)<;>first|exact w|exact w.iJ _) (No.Ds _)
   split;· exact h.call hn (w.cS _) (No.HY w _)
   rw[Lf hn];exact h
 .exact h
structure BC(b:Bu)(k:Nat):Prop where
 fl:b.fl.length<=5*k
 no:∀(c:Nat)n,b.ns[c]? = B1 n->n.aQ.length<=k/\n.c.us<=2*(k:Int)
 wt:∀x∈b.l,x.wt.length<=k
def BC.mono{b:Bu}{k k':Nat}(h:BC b k)(hk:k<=k'):BC b k':=⟨xw h.fl (by omega),λ c n hn=>by have:=h.no c n hn;omega,λ x a=>xw (h.wt x a) hk⟩
def BC.bb{b:Bu}{V:Int->L8}{k:Nat}(h:BC b k)(hI:BuI b V)(hk:k<=100000):BB b:=⟨hI.N4,by have:=h.fl;omega,λ c n hn=>by have:=h.no c n hn;exact⟨(hI.nw c n hn).ni,by omega,by omega⟩⟩
def DR{l c s w:Int}:BC (gj l c s w) 0:=by
 refine⟨qm _,λ k n hn=>?_,λ x a=>?_⟩
 .obtain ⟨-,rfl⟩:=VX hn;exact⟨qm _,xW _⟩
 .rw [vp (show x∈JK l.toNat iG from a)];exact qm _
def P2{b:Bu}{k c:Nat}{n n':No}{o:List Mg}(h:BC b k)(hn:b.ns[c]? = B1 n)(hb:Bd n n')(ho:o.length<=5):BC (b.put c (n',o)) (k+1):=by
 have hl:=(qt.1 hn).1;refine⟨?_,λ d y a=>?_,λ x e=>Nat.le_succ_of_le (h.wt x e)⟩
 .show (b.fl++o).length<=_;rw[xr];have:=h.fl;omega
 .have a:(b.ns.set c n')[d]? = B1 y:=a
  by_cases q:d=c
  .rw [q,zj hl]at a;cases a;have⟨f,g⟩:=hb;have:=h.no c n hn;omega
  .rw [zn (rP q)]at a;have:=h.no d y a;omega
def ZT(x:De)(w:L8):(x.dU w).1.wt=x.wt:=by
 unfold De.dU
 repeat' split
 all_goals rfl
def _Z(x:De)(n:Mg)(w:L8):(x.begin n w).1.wt=x.wt:=by
 unfold De.begin;split
 .rfl
 .split
  .exact ZT _ w
  .rfl
def TL(x:De)(w:L8)(q:Prop)[Decidable q](r:List Mg):(x.vR w q r).1.wt=x.wt:=by
 unfold De.vR;split
 .exact ZT x w
 .rfl
def Ih(x:De)(w:L8)(m:Mg):(x.bP w m).1.wt.length<=x.wt.length+1:=by
 unfold De.bP;split;· exact jy _
 split
 .split
  .simp
  .rw [_Z];exact jy _
 split;· rw[TL];show x.wt.length<=_;omega
 split;· rw[TL];show x.wt.length<=_;omega
 split;· rw[TL];show x.wt.length<=_;omega
 split;· rw[TL];show x.wt.length<=_;omega
 cases h:x.wt with
 |nil=>simp[h]
 |cons n r=>simp only;rw[_Z];simp only[jd];omega
def Ko(n:No)(x:Bt):Bd n (n.call x).1/\(n.call x).2.length<=5:=by
 unfold No.call;split;· exact⟨Gu n _,xw (xf8 n _) (by decide)⟩
 split;· exact⟨ah1 n _ _,xw (Y' n _ _) (by decide)⟩
 split;· exact⟨Mj n _ _ _,xw (lx n _ _ _) (by decide)⟩
 split
 .refine ⟨?_,xz _⟩;show Bd n n.begin;unfold No.begin;split<;>exact⟨by show n.aQ.length<=_;omega,by show n.c.us<=_;omega⟩
 split
 .refine ⟨?_,xz _⟩;show Bd n n.bn;unfold No.bn;split<;>exact⟨by show n.aQ.length<=_;omega,by show n.c.us<=_;omega⟩
 split
 .refine ⟨?_,xz _⟩;show Bd n (n.abort _).1;unfold No.abort;repeat' split
  all_goals exact⟨by show n.aQ.length<=_;omega,by show n.c.us<=_;omega⟩
 split;· exact⟨Hu n _,xw (xbc n _) (by decide)⟩
 exact⟨Bd.refl n,xz _⟩
def Qw{b:Bu}{k:Nat}(h:BC b k)(i:Nat):BC (b.xC i) (k+1):=by
 unfold Bu.xC;cases hm:b.fl[i]? with
 |none=>exact h.mono (jy k)
 |some m =>
  have g:=h.fl;have he:(b.fl.eraseIdx i).length<=b.fl.length:=List.length_eraseIdx_le ..;simp only
  by_cases f:m.k<=7
  .rw [xg f];cases e:b.l[m.line.toNat]? with
   |none=>exact h.mono (jy k)
   |some x =>
    cases hw:b.m[m.line.toNat]? with
    |none=>exact h.mono (jy k)
    |some w =>
     refine⟨?_,λ c n hn=>by have:=h.no c n hn;omega,λ y a=>?_⟩
     .show (b.fl.eraseIdx i++(x.bP w m).2.2).length<=_;rw[xr];have:=η x w m;omega
     .have a:y∈b.l.set m.line.toNat (x.bP w m).1:=a;rcases List.mem_or_eq_of_mem_set a with q|rfl
      .exact Nat.le_succ_of_le (h.wt y q)
      .have:=Ih x w m;have:=h.wt x (zd e);omega
  .rw [qv f];cases hn:b.ns[m.core.toNat]? with
   |none=>exact h.mono (jy k)
   |some n =>
    have hl:=(qt.1 hn).1;refine⟨?_,λ d y a=>?_,λ x e=>Nat.le_succ_of_le (h.wt x e)⟩
    .show (b.fl.eraseIdx i++(n.bP m).2).length<=_;rw[xr];have:=xf6 n m;omega
    .have a:(b.ns.set m.core.toNat (n.bP m).1)[d]? = B1 y:=a
     by_cases q:d=m.core.toNat
     .rw [q,zj hl]at a;cases a;have⟨j,o⟩:=Hg n m;have:=h.no _ n hn;omega
     .rw [zn (rP q)]at a;have:=h.no d y a;omega
def Cf{b:Bu}{k:Nat}(h:BC b k)(x:Bt):BC (b.step x) (k+1):=by
 unfold Bu.step;split
 .split
  .exact Qw h _
  .exact h.mono (jy k)
 split
 .cases hn:b.ns[x.c.toNat]? with
  |none=>exact h.mono (jy k)
  |some n=>have⟨a,d⟩:=Ko n x;exact P2 h hn a d
 .exact h.mono (jy k)
end Go.Am
namespace Go.Am
open Lang
structure Pr where
 a:Int
 v:Int
def dm(l:List Pr)(a:Int):Option Int:=match l with
 |[]=>B5
 |x::r=>if x.a=a then B1 x.v else dm r a
def fR(l:List Pr)(a v:Int):List Pr:=match l with
 |[]=>[⟨a,v⟩]
 |x::r=>if x.a=a then⟨a,v⟩::r else x::fR r a v
structure Fi where
 rs:List Int
 pc:Int
 pt:Option (List Int×Int)
namespace Fi
def set(f:Fi)(i v:Int):Fi:=if 0<=i/\i<8 then{f with rs:=f.rs.set i.toNat v}else f
def jump(f:Fi)(pc:Int):Fi:=if pc<0 then f else{f with pc:=pc}
def save(f:Fi):Fi:={f with pt:=B1 (f.rs,f.pc)}
def restore(f:Fi):Fi:=match f.pt with
 |some (r,p)=>{f with rs:=r,pc:=p}
 |none=>f
def drop(f:Fi):Fi:={f with pt:=B5}
end Fi
structure La where
 gf:List Int
 lane:Int
 jF:List Int
namespace La
def kN:List Int:=[0,0,0,0,0]
def after(gf:List Int)(l:Int):Int:=if l<1/\gf.getD 1 0≠0 then 1 else if l<2/\gf.getD 2 0≠0 then 2 else if l<3/\gf.getD 3 0≠0 then 3 else 4
def rB(x:La):Bool:=decide (x.lane=1) ||decide (x.lane=2)
def enter(x:La):La:=if x.lane=0 then{x with lane:=after x.gf 0,jF:=kN}else x
def count(x:La):Int:=x.jF.getD x.lane.toNat 0
def abort(x:La)(code:Int):La :=
 if x.lane=0\/x.lane=4\/code<1\/8<code\/code=7 then x
 else
  let y:={x with jF:=x.jF.set x.lane.toNat (aj .i64 (x.count+1))}
  if x.rB=B4/\code=3 then{y with lane:=after x.gf 2}else if y.count=x.gf.getD x.lane.toNat 0 then{y with lane:=after x.gf x.lane}else y
def leave(x:La):La:=if x.lane=0 then x else{x with lane:=0,jF:=kN}
def tries(x:La):Int:=x.jF.foldl (λ n k=>aj .i64 (n+k)) 0
end La
inductive K0 where
 |wait
 |left (how:Int)
 |kT (a:Int)
 |take
 |back (l:List Pr)
 |fin
inductive Nx where
 |vX (n:Int) (k:K0)
 |uT (n:Int) (k:K0)
 |wH
 |xJ (k:K0)
 |look (k:K0) (g:Int) (rd:List Pr) (i:Nat)
 |again (k:K0) (g:Int)
 |wC (a:Int)
 |oh (a v:Int)
 |uk
 |Ft (k:K0)
structure Rq where
 op:Int
 a:Int
 v:Int
 o:Int
structure So where
 rd:List Pr
 wr:List Pr
 want:Rq
 au:Option Nx
 busy:Bool
 live:Bool
 aI:Bool
 snap:Int
 value:Int
 ended:Int
 points:Int
namespace So
def ask(p:So)(r:Rq)(n:Nx):So:={p with want:=r,au:=B1 n}
def count(p:So)(n:Int)(k:K0):So:=p.ask ⟨1,1,0,0⟩ (.vX n k)
def leave(p:So)(how:Int):So:=p.count 18446744073709551615 (.left how)
def tj(p:So):So:=p.ask ⟨1,0,0,0⟩ .wH
def validate(p:So)(k:K0):So:=p.ask ⟨1,0,0,0⟩ (.xJ k)
def kT(p:So)(a:Int):So:=p.ask ⟨1,a,0,0⟩ (.wC a)
def take(p:So):So:=p.ask ⟨3,0,aj .u64 (p.snap+1),p.snap⟩ .uk
def back(p:So):List Pr->So
 |x::l=>p.ask ⟨2,x.a,x.v,0⟩ (.Ft (.back l))
 |[]=>p.ask ⟨2,0,aj .u64 (p.snap+2),0⟩ (.Ft .fin)
def pF(p:So)(g:Int):So:={p with snap:=g,points:=aj .i64 (p.points+1)}
def G6(p:So):K0->So
 | .wait=>p.tj
 | .left how=>{p with live:=B2,ended:=how,busy:=B2}
 | .kT a=>p.kT a
 | .take=>p.take
 | .back l=>p.back l
 | .fin=>({p with aI:=B2}:So).leave 1
def step(p:So)(k:K0)(g:Int)(rd:List Pr)(i:Nat):So:=match rd[i]? with
 |some x=>p.ask ⟨1,x.a,0,0⟩ (.look k g rd i)
 |none=>p.ask ⟨1,0,0,0⟩ (.again k g)
def ah(p:So)(a v:Int):Option (List Pr):=match dm p.rd a with
 |some _=>B1 p.rd
 |none=>if p.rd.length=128 then B5 else B1 (p.rd ++ [⟨a,v⟩])
def on(p:So)(v:Int)(ok:Bool):Nx->So
 | .vX n k=>p.ask ⟨3,1,aj .u64 (v+n),v⟩ (.uT n k)
 | .uT n k=>if ok=B4 then p.G6 k else p.count n k
 | .wH=>if v % 2=1 then p.tj else{p.pF v with live:=B4,busy:=B2}
 | .xJ k=>if v % 2=1 then p.validate k else p.step k v p.rd 0
 | .look k g rd i=>if v≠(rd.getD i ⟨0,0⟩).v then p.leave 2 else p.step k g rd (i+1)
 | .again k g=>if v≠g then p.validate k else(p.pF g).G6 k
 | .wC a=>p.ask ⟨1,0,0,0⟩ (.oh a v)
 | .oh a w=>if v≠p.snap then p.validate (.kT a)
  else if(dm p.rd a).getD w≠w then p.leave 2
  else match p.ah a w with
   |none=>p.leave 2
   |some l=>{({p with rd:=l,value:=w}:So).pF v with busy:=B2}
 | .uk=>if ok=B4 then({p with points:=aj .i64 (p.points+1),aI:=B4}:So).back p.wr else p.validate .take
 | .Ft k=>p.G6 k
def fH(p:So)(v:Int)(ok:Bool):So:=match p.au with
 |none=>p
 |some n=>({p with want:=⟨0,0,0,0⟩,au:=B5}:So).on v ok n
def begin(p:So):So:=if p.busy=B4\/p.live=B4 then p else({p with rd:=[],wr:=[],value:=0,ended:=0,busy:=B4}:So).count 1 .wait
def ready(p:So):Bool:=!p.busy && p.live
def load(p:So)(a:Int):So:=if p.ready=B4/\8<=a then match dm p.wr a with
 |some v=>{p with value:=v}
 |none=>({p with busy:=B4}:So).kT a
 else p
def store(p:So)(a v:Int):So:=if p.ready=B4/\8<=a then
 if dm p.wr a=B5/\p.wr.length=128 then({p with busy:=B4}:So).leave 2 else{p with wr:=fR p.wr a v}
 else p
def bn(p:So):So:=if p.ready=B4 then if p.wr.length=0 then({p with busy:=B4}:So).leave 1 else({p with busy:=B4}:So).take else p
def Cn(p:So):So:=if p.ready=B4 then({p with busy:=B4}:So).leave 3 else p
end So
structure Co where
 id:Int
 lines:Int
 code:List iT
 fi:Fi
 la:La
 so:So
 ph:Int
 want:pH
 seq:Int
 aU:List Pr
 done:Int
 wrote:Bool
 held:Bool
 said:Bool
 blocks:Int
 oE:Int
 halted:Bool
 xU:Bool
structure CS where
 c:Co
 b:Bu
 o:List eW
namespace CS
def K7(c:Co)(kind a v code:Int):eW:=if c.la.lane=0 then⟨kind,0,c.id,-1,0,0,a,v,code⟩else⟨kind,0,c.id,aj .i64 (c.blocks-1),c.la.tries,c.la.lane,a,v,code⟩
def tell(s:CS)(kind a v code:Int):CS:={s with o:=s.o ++ [K7 s.c kind a v code]}
def fi(s:CS)(f:Fi->Fi):CS:={s with c:={s.c with fi:=f s.c.fi}}
def la(s:CS)(f:La->La):CS:={s with c:={s.c with la:=f s.c.la}}
def so(s:CS)(f:So->So):CS:={s with c:={s.c with so:=f s.c.so}}
def ph(s:CS)(n:Int):CS:={s with c:={s.c with ph:=n}}
def lE(s:CS)(k n v o:Int):CS:={s with b:=s.b.step ⟨k,s.c.id,n,v,o⟩}
def node(s:CS):No:=(s.b.ns[s.c.id.toNat]?).getD ⟨0,0,⟨0,0,[],0⟩,⟨0,0,0,.zero⟩,[],B2,0⟩
def kU(s:CS)(a:Int):Int×Bool:=((s.node.load a).2.1,(s.node.load a).2.2.1 && decide ((s.node.load a).2.2.2.2=0))
def vJ(s:CS)(a v:Int):Bool:=(s.node.store a v).2.1 && decide ((s.node.store a v).2.2.2=0)
def zK(s:CS)(a o:Int):Bool×Bool:=((s.node.jO a o).1,(s.node.jO a o).2.1 && decide ((s.node.jO a o).2.2=0))
def ld(s:CS)(a:Int):CS:=s.lE 0 a 0 0
def st(s:CS)(a v:Int):CS:=s.lE 1 a v 0
def cs(s:CS)(a o v:Int):CS:=s.lE 2 a v o
def abort(s:CS)(code:Int):CS:=(((s.tell 6 0 0 code).fi .restore).la (·.abort code)).ph 1
def leave(s:CS):CS:={((s.la .leave).fi .drop).ph 0 with c:={((s.la .leave).fi .drop).ph 0 |>.c with held:=B2}}
def aA(s:CS):CS:=let t:=if s.c.said=B4 then s else s.tell 5 0 0 0
 {t with c:={t.c with said:=B4,held:=B2}}
def fI(s:CS)(next:Int):CS:=let t:=s.fi (·.jump next)
 {t with c:={t.c with oE:=aj .i64 (t.c.oE+1)}}
def cT(s:CS):CS:=s.aA.leave.fI (aj .i64 (s.c.fi.pc+1))
def breaks(s:CS):CS:=let t:=((s.tell 6 0 0 7).fi .restore).leave
 {t with c:={t.c with halted:=B4,xU:=B4}}
def dD(s:CS):CS :=
 if s.c.la.lane=0 then{s with c:={s.c with halted:=B4,xU:=B4}}
 else if s.c.la.lane=3 then let t:=s.so .Cn
  {t with c:={t.c with want:=im,ph:=6}}
 else if s.c.la.lane=4 then s.ph 10
 else(s.lE 5 7 0 0).breaks
def Hn(c:Co)(u:Int):Bool:=decide (u<(c.lines-1)*8)
def eV(s:CS)(f:pH)(v:Int):CS:=((s.tell (if s.c.la.lane=0 then 7 else 2) (if Hn s.c f.addr=B4 then 8+f.addr else 0) v 0).fi (·.set f.pj v)).fI f.au
def nJ(s:CS)(f:pH)(a:Int):CS :=
 if s.c.la.lane=3 then let t:=s.so (·.load a)
  if t.c.so.busy=B4 then{t with c:={t.c with want:=f,ph:=6}}else t.eV f t.c.so.value
 else match(if s.c.la.lane=4 then dm s.c.aU a else B5)with
  |some v=>s.eV f v
  |none=>if(s.kU a).2=B4 then(s.ld a).eV f (s.kU a).1 else s.ld a
def stored(s:CS)(kind:Int)(f:pH)(a:Int):CS:=(s.tell kind a f.value 0).fI f.au
def jW(s:CS)(f:pH)(a:Int):CS :=
 if s.c.la.lane=3 then let t:=s.so (·.store a f.value)
  if t.c.so.busy=B4 then{t with c:={t.c with want:=f,ph:=6}}else t.stored 3 f a
 else if s.c.la.lane=4 then({s with c:={s.c with aU:=fR s.c.aU a f.value}}:CS).stored 3 f a
 else if s.vJ a f.value=B4 then
  if s.c.la.lane=0 then(s.st a f.value).stored 8 f a else let t:=s.st a f.value
   ({t with c:={t.c with wrote:=B4}}:CS).stored 3 f a
 else s.st a f.value
def ends(s:CS):CS :=
 if s.c.la.lane=3 then let t:=s.so .bn
  {t with c:={t.c with want:=⟨6,0,0,0,0⟩,ph:=6}}
 else if s.c.la.lane=4 then s.ph 9
 else if s.c.la.lane=2/\s.c.wrote=B4 then s.ph 7
 else(s.lE 4 0 0 0).cT
def ry(s:CS):CS :=
 if(s.c.code.length:Int)<=s.c.fi.pc then if s.c.la.lane=0 then{s with c:={s.c with halted:=B4}}else s.dD
 else
  let f:=(s.c.code.getD s.c.fi.pc.toNat ⟨0,0,0,0,0⟩).fT s.c.fi.rs s.c.fi.pc
  let is:=Hn s.c f.addr
  let a:=8+f.addr
  if(f.kind=3\/f.kind=4)/\is=B2\/f.kind=0\/s.c.la.lane≠0/\f.kind=5\/s.c.la.lane=0/\f.kind=6\/s.c.la.lane≠0/\f.kind=7 then s.dD
  else if f.kind=7 then{s with c:={s.c with halted:=B4}}
  else if f.kind=1 then(s.fi (·.set f.pj f.value)).fI f.au
  else if f.kind=2 then s.fI f.au
  else if f.kind=3 then s.nJ f a
  else if f.kind=4 then s.jW f a
  else if f.kind=5 then let t:=((s.fI f.au).fi .save).la .enter
   {t with c:={t.c with blocks:=aj .i64 (t.c.blocks+1),ph:=1}}
  else s.ends
def mg(s:CS):CS :=
 let t0:=s.tell 1 0 0 0
 let t:CS:={t0 with c:={t0.c with aU:=[],done:=0,wrote:=B2,said:=B2}}
 if s.c.la.lane=1 then(t.lE 3 0 0 0).ph 2
 else if s.c.la.lane=2 then(t.lE 3 0 0 0).ph 3
 else if s.c.la.lane=3 then let u:=t.so .begin
  {u with c:={u.c with want:=⟨5,0,0,0,0⟩,ph:=6}}
 else t.ph 4
def qW(s:CS):CS :=
 let r:=s.zK 0 s.c.seq
 let t:=s.cs 0 s.c.seq (aj .u64 (s.c.seq+1))
 if r.2=B2 then t
 else if r.1=B4 then let u:=t.tell 4 0 0 0
  {u with c:={u.c with ph:=0,held:=B4}}
 else t.ph 4
def hO(s:CS)(k:CS->CS):CS :=
 let v:=aj .u64 (s.c.seq+2)
 if s.vJ 0 v=B4 then k (s.st 0 v)else s.st 0 v
def aQ(s:CS):CS:=match(if 0<=s.c.done then s.c.aU[s.c.done.toNat]? else B5)with
 |some x=>if s.vJ x.a x.v=B4 then let t:=s.st x.a x.v
  {t with c:={t.c with done:=aj .i64 (t.c.done+1)}}else s.st x.a x.v
 |none=>s.hO cT
def fO(s:CS):CS :=
 if s.c.so.ended=2 then s.abort 8
 else if s.c.want.kind=5 then s.ph 0
 else if s.c.want.kind=3 then(s.ph 0).eV s.c.want s.c.so.value
 else if s.c.want.kind=6 then s.cT
 else s.breaks
def given(s:CS)(v:Int)(taken:Bool):CS :=
 let t:CS:={s with c:={s.c with held:=s.c.held ||taken && decide (s.c.so.want.a=0),so:=s.c.so.fH v taken}}
 let u:=if s.c.so.aI=B4/\t.c.so.aI=B2 then t.aA else t
 let w:=if s.c.so.points<u.c.so.points then u.tell 4 0 0 0 else u
 if w.c.so.busy=B4 then w else w.fO
def rj(s:CS):CS :=
 let r:=s.c.so.want
 if r.op=1 then if(s.kU r.a).2=B4 then(s.ld r.a).given (s.kU r.a).1 B2 else s.ld r.a
 else if r.op=2 then if s.vJ r.a r.v=B4 then(s.st r.a r.v).given 0 B2 else s.st r.a r.v
 else if r.op=3 then if(s.zK r.a r.o).2=B4 then(s.cs r.a r.o r.v).given 0 (s.zK r.a r.o).1 else s.cs r.a r.o r.v
 else s
def act(s:CS):CS :=
 if s.c.ph=0 then s.ry
 else if s.c.ph=1 then s.mg
 else if s.c.ph=2 then let r:=s.kU 1
  if r.2=B4 then let t:=(s.ld 1).ph 3
   if r.1≠0 then t.lE 5 6 0 0 else t
  else s.ld 1
 else if s.c.ph=3 then let r:=s.kU 0
  if r.2=B4 then let t:=s.ld 0
   let u:CS:={t with c:={t.c with seq:=r.1,ph:=0}}
   if r.1 % 2=1 then u.lE 5 6 0 0 else u
  else s.ld 0
 else if s.c.ph=4 then let r:=s.kU 0
  let t:=s.ld 0
  if r.2=B4/\r.1 % 2=0 then{t with c:={t.c with seq:=r.1,ph:=5}}else t
 else if s.c.ph=5 then s.qW
 else if s.c.ph=6 then s.rj
 else if s.c.ph=7 then s.hO (·.ph 8)
 else if s.c.ph=8 then(s.lE 4 0 0 0).cT
 else if s.c.ph=9 then s.aQ
 else if s.c.ph=10 then s.hO breaks
 else s
def qV(s:CS):Int:=if s.node.code<1\/6<s.node.code then 5 else s.node.code
def step(s:CS):CS×Int :=
 if s.c.xU=B4 then(s,111)
 else if s.c.halted=B4 then(s,110)
 else if s.c.la.rB=B4/\s.c.ph≠1/\s.node.live=B2 then(s.abort s.qV,0)
 else(s.act,0)
end CS
end Go.Am
namespace Go.Am
def fF(x:Int):Prop:=0<=x/\x<18446744073709551616
def uC(x:Int):AV:=.int .u64 x
def bI:fF 0:=⟨xW _,by decide⟩
def FG(n:Int):fF (aj .u64 n):=by rw[xda];constructor<;>omega
def L8.u(x:L8):Prop:=∀w∈x.l,fF w
def L8.iD:L8.zero.u:=λ w h=>by
 simp only[L8.zero,j7,LM,or_false,or_self]at h;rw[h];exact bI
def FU{α:Type}{l:List α}{k:Nat}{v x:α}(h:x∈l.set k v):x∈l\/x=v:=List.mem_or_eq_of_mem_set h
theorem L8.u.put{x:L8}(h:x.u)(i:Nat){y:Int}(a:fF y):(x.put i y).u:=λ w q=>(FU q).elim (h w) λ e=>e▸a
def L8.u.get{x:L8}(h:x.u)(i:Nat):fF (x.get i):=by
 unfold L8.get;cases q:x.l[i]? with
 |none=>exact bI
 |some w=>exact h w (zd q)
def En.U(e:En):Prop:=e.d.u/\e.o.u
def En.oQ:En.zero.U:=⟨L8.iD,L8.iD⟩
def Ca.U(c:Ca):Prop:=∀e∈c.sl,e.U
def No.U(n:No):Prop:=n.c.U
def p9(l:List Mg):Prop:=∀m∈l,m.d.u
theorem p9.nil:p9 []:=λ _ h=>by cases h
def p9.one{m:Mg}(h:m.d.u):p9 [m]:=λ x q=>by rw[yj.1 q];exact h
def p9.app{a b:List Mg}(h:p9 a)(d:p9 b):p9 (a++b):=λ x q=>(z6.1 q).elim (h x) (d x)
namespace Ca
variable{c:Ca}
theorem U.en(h:c.U)(i:Nat):(c.en i).U:=by
 unfold Ca.en;cases q:c.sl[i]? with
 |none=>exact En.oQ
 |some e=>exact h e (zd q)
def U.FJ(h:c.U)(i:Nat){e:En}(he:e.U){u:Int}:Ca.U {c with us:=u,sl:=c.sl.set i e}:=λ x q=>(FU q).elim (h x) λ w=>w▸he
theorem U.set(h:c.U)(i:Nat){e:En}(he:e.U):(c.set i e).U:=λ x q=>(FU q).elim (h x) λ w=>w▸he
theorem U.use(h:c.U)(i:Nat):(c.use i).U:=h.FJ i (e:={c.en i with u:=c.us+1}) (h.en i)
theorem U.word(h:c.U)(a:Nat):(c.word a).1.U/\fF ((c.word a).2.getD 0):=by
 unfold Ca.word;split
 .exact ⟨h,bI⟩
 .exact ⟨h.use _,(h.en _).1.get _⟩
theorem U.put(h:c.U)(a:Nat){y:Int}(f:fF y):(c.put a y).U:=by
 unfold Ca.put;split
 .exact h
 .rename_i i _;exact h.FJ i (e:={c.en i with u:=c.us+1,d:=(c.en i).d.put (a % 8) y}) ⟨(h.en i).1.put _ f,(h.en i).2⟩
def U.mark(h:c.U)(l:Int)(w:Bool):(c.mark l w).U:=by
 unfold Ca.mark
 repeat' split
 all_goals first|exact h|(rename_i i _ _;exact h.set i ⟨(h.en i).1,(h.en i).1⟩)|(rename_i i _;exact h.set i (e:={c.en i with r:=B4}) (h.en i))
def U.cX(h:c.U)(l:Int):(c.cX l).1.U/\(c.cX l).2.u:=by
 unfold Ca.cX;split
 .exact ⟨h,L8.iD⟩
 .rename_i i _;exact⟨h.set i (e:={c.en i with st:=1}) (h.en i),(h.en i).1⟩
def U.cO(h:c.U)(l:Int){d:L8}(a:d.u):(c.cO l d).U:=by
 unfold Ca.cO;split
 .exact h
 .rename_i i _;exact h.set i ⟨a,(h.en i).2⟩
theorem U.drop(h:c.U)(l:Int):(c.drop l).1.U/\(c.drop l).2.U:=by
 unfold Ca.drop;split
 .exact ⟨h,En.oQ⟩
 .exact ⟨h.set _ En.oQ,h.en _⟩
theorem U.map(h:c.U){g:En->En}(hg:∀e,e.U->(g e).U):Ca.U {c with sl:=c.sl.map g}:=λ x q=>by
 obtain⟨e,he,rfl⟩:=As.1 q;exact hg e (h e he)
theorem U.bn(h:c.U):c.bn.U:=h.map λ e he=>by unfold rL;split;exact he;exact⟨he.1,L8.iD⟩
def U.discard(h:c.U):c.discard.U:=h.map λ e he=>by
 unfold back;split
 .exact he
 .refine ⟨?_,L8.iD⟩;show(if e.w then e.o else e.d).u;split;exact he.2;exact he.1
theorem U.fill(h:c.U)(l s:Int){d:L8}(a:d.u):(c.fill l s d).1.U/\(c.fill l s d).2.1.U:=by
 unfold Ca.fill;split
 .exact ⟨h,En.oQ⟩
 .split
  .exact ⟨h,En.oQ⟩
  .exact ⟨h.FJ _ ⟨a,L8.iD⟩,h.en _⟩
end Ca
namespace No
variable{n:No}
def U.iJ(h:n.U)(k:Int):(n.iJ k).U:=Ca.U.discard h
def uw(n:No)(k l:Int):(n.msg k l).d.u:=L8.iD
def U.ask(h:n.U)(k l:Int):(n.ask k l).1.U/\p9 (n.ask k l).2:=by
 unfold No.ask;split
 .exact ⟨h,.nil⟩
 .exact ⟨h,.one (uw _ _ _)⟩
theorem U.load(h:n.U)(a:Int):(n.load a).1.U/\fF (n.load a).2.1/\p9 (n.load a).2.2.2.1:=by
 unfold No.load;split
 .split
  .exact ⟨(U.ask h _ _).1,bI,(U.ask h _ _).2⟩
  .have q:(if n.live then n.c.mark (ln a) B2 else n.c).U:=by split;exact Ca.U.mark h _ _;exact h
   exact⟨(q.word _).1,(q.word _).2,.nil⟩
 .exact ⟨h,bI,.nil⟩
theorem U.store(h:n.U)(a:Int){y:Int}(d:fF y):(n.store a y).1.U/\p9 (n.store a y).2.2.1:=by
 unfold No.store;split
 .split
  .have q:(if n.live then n.c.mark (ln a) B4 else n.c).U:=by split;exact Ca.U.mark h _ _;exact h
   exact⟨q.put _ d,.nil⟩
  .exact U.ask h _ _
 .exact ⟨h,.nil⟩
theorem U.ny(h:n.U)(a o:Int){y:Int}(d:fF y):(n.ny a o y).1.U/\p9 (n.ny a o y).2:=by
 unfold No.ny;split
 .split
  .exact ⟨h,.nil⟩
  .split
   .refine ⟨?_,.nil⟩;show Ca.U (if _ then _ else _);split
    .exact (Ca.U.word h _).1.put _ d
    .exact (Ca.U.word h _).1
   .exact U.ask h _ _
 .exact ⟨h,.nil⟩
theorem U.begin(h:n.U):n.begin.U:=by unfold No.begin;split;exact h;exact h
theorem U.bn(h:n.U):n.bn.U:=by unfold No.bn;split;exact Ca.U.bn h;exact h
def U.abort(h:n.U)(k:Int):(n.abort k).1.U:=by
 unfold No.abort;repeat' split
 all_goals first|exact h|exact U.iJ h _
theorem U.lost(h:n.U)(x:En)(t:Bool):(n.lost x t).U:=by
 unfold No.lost;repeat' split
 all_goals first|exact h|exact U.iJ h _
def U.gone(h:n.U){x:En}(a:x.U):(n.gone x).1.U/\p9 (n.gone x).2:=by
 unfold No.gone;split
 .exact ⟨h,.one a.1⟩
 .exact ⟨h,.nil⟩
def U.dX(h:n.U){m:Mg}(hm:m.d.u)(s:Int):(n.dX m s).1.U/\p9 (n.dX m s).2:=by
 obtain⟨a,e⟩:=Ca.U.fill h m.line s hm;unfold No.dX;split
 .exact U.gone (n:={n with c:=(n.c.fill m.line s m.d).1}) a e
 .exact ⟨a,.nil⟩
theorem U.fill(h:n.U){m:Mg}(hm:m.d.u):(n.fill m).1.U/\p9 (n.fill m).2:=by
 unfold No.fill;generalize(if m.k=15 then(2:Int)else 1)=s;unfold No.mF;split
 .exact U.dX (U.iJ h 3) hm s
 .exact U.dX h hm s
def U.bP(h:n.U){m:Mg}(hm:m.d.u):(n.bP m).1.U/\p9 (n.bP m).2:=by
 unfold No.bP;split
 .exact ⟨h,.nil⟩
 split
 .exact ⟨(Ca.U.drop (U.lost h _ _) _).1,.one (uw _ _ _)⟩
 split
 .split
  .exact ⟨h,.one (uw _ _ _)⟩
  .split
   .exact ⟨(Ca.U.cX (U.lost h _ _) _).1,.one (Ca.U.cX (U.lost h _ _) _).2⟩
   .exact ⟨(Ca.U.drop (U.lost h _ _) _).1,.one (Ca.U.drop (U.lost h _ _) _).2.1⟩
 split
 .exact ⟨h,.nil⟩
 split
 .exact ⟨Ca.U.cO h _ hm,.one (uw _ _ _)⟩
 .obtain ⟨a,e⟩:=U.fill (n:={n with out:=⟨0,0,0,.zero⟩}) h hm;exact⟨a,e.app (.one (uw _ _ _))⟩
def U.cS(h:n.U)(l:Int):(n.cS l).1.U/\p9 (n.cS l).2:=by
 unfold No.cS;split
 .exact ⟨h,.nil⟩
 split
 .exact ⟨h,.nil⟩
 .rename_i x _;have q:(if x.r ||x.w then n.iJ 4 else n).U:=by split;exact U.iJ h 4;exact h
  exact U.gone (n:={(if x.r ||x.w then n.iJ 4 else n)with c:=((if x.r ||x.w then n.iJ 4 else n).c.drop l).1}) (Ca.U.drop q l).1 (Ca.U.drop q l).2
end No
namespace De
def V2(x:De){w:L8}(hw:w.u):(x.dU w).2.d.u:=by unfold dU;split<;>exact hw
def sm(x:De)(m:Mg){w:L8}(hw:w.u):p9 (x.begin m w).2:=by
 unfold begin;split
 .exact .one L8.iD
 split
 .exact .one (V2 _ hw)
 .intro z q;obtain⟨c,-,rfl⟩:=As.1 q;exact L8.iD
def yV(x:De){w:L8}(hw:w.u)(q:Prop)[Decidable q]{o:List Mg}(ho:p9 o):(x.vR w q o).2.1.u/\p9 (x.vR w q o).2.2:=by
 unfold vR;split
 .exact ⟨hw,ho.app (.one (V2 _ hw))⟩
 .exact ⟨hw,ho⟩
def Ka(x:De){w:L8}(hw:w.u){m:Mg}(hm:m.d.u):(x.bP w m).2.1.u/\p9 (x.bP w m).2.2:=by
 unfold bP;split
 .exact ⟨hw,.nil⟩
 split
 .split
  .exact ⟨hw,.nil⟩
  .exact ⟨hw,sm _ _ hw⟩
 split
 .exact yV _ hw _ .nil
 split
 .exact yV _ hm _ .nil
 split
 .exact yV _ hw _ .nil
 split
 .exact yV _ hm _ (.one L8.iD)
 split
 .exact ⟨hw,.nil⟩
 .exact ⟨hw,sm _ _ hw⟩
end De
structure zD(b:Bu):Prop where
 m:∀x∈b.m,x.u
 n:∀n∈b.ns,n.U
 f:p9 b.fl
theorem zD.put{b:Bu}(h:zD b)(c:Nat){r:No×List Mg}(a:r.1.U)(d:p9 r.2):zD (b.put c r):=⟨h.m,λ x q=>(FU q).elim (h.n x) λ e=>e▸a,h.f.app d⟩
end Go.Am
namespace Go.Am
open Lang Go.Proofs
variable{M:ak}[MK M]
def Pg(op:Nat):List UInt8:=match op with
 |1=>[104,97,108,116]
 |2=>[115,101,116]
 |3=>[109,111,118]
 |4=>[97,100,100]
 |5=>[115,117,98]
 |6=>[109,117,108]
 |7=>[97,110,100]
 |8=>[120,111,114]
 |9=>[115,104,108]
 |10=>[115,104,114]
 |11=>[108,111,97,100]
 |12=>[115,116,111,114,101]
 |13=>[106,117,109,112]
 |14=>[101,113]
 |15=>[110,101]
 |16=>[108,116]
 |17=>[98,101,103,105,110]
 |18=>[101,110,100]
 |_=>[]
def wI:List AV:=(MT 19).flatMap λ k=>[.str (Pg k),.str (oZ k)]
def p5(H:ar):Prop:=H.bU yk=B1 wI/\yk<H.au
def p5.em{H H':ar}(h:p5 H)(f:Fr Em H H'):p5 H':=⟨(f.cells h.2 id).trans h.1,qn h.2 f.au⟩
def ac4:∀k:Nat,k<19->wI[k*2+1]? = B1 (.str (oZ k))
 |0,_=>rfl
 |1,_=>rfl
 |2,_=>rfl
 |3,_=>rfl
 |4,_=>rfl
 |5,_=>rfl
 |6,_=>rfl
 |7,_=>rfl
 |8,_=>rfl
 |9,_=>rfl
 |10,_=>rfl
 |11,_=>rfl
 |12,_=>rfl
 |13,_=>rfl
 |14,_=>rfl
 |15,_=>rfl
 |16,_=>rfl
 |17,_=>rfl
 |18,_=>rfl
 |k+19,h=>absurd h (by omega)
def fZ(i:iT):List AV:=[.int .i64 i.op,.int .i64 i.a,.int .i64 i.b,.int .i64 i.c,.int .i64 i.AM]
def oT(op:Int):Prop:=1<=op/\op<=18
instance(op:Int):Decidable (oT op):=inferInstanceAs (Decidable (_/\_))
def xib{H:ar}(hs:p5 H)(op:Int):zb M Mp [.int .i64 op] H λ v H'=>v=.tuple [.str (if oT op then oZ op.toNat else[]),.bool (decide (oT op))]/\H'=H:=by
 refine xeg ?_;obtain⟨w0,w2,d⟩:=xeh M ⟨B5,Mp⟩
 by_cases a:op<1
 .have hn:¬oT op:=λ q=>by have:=q.1;omega
  simp only[aa,bc,w0,w2,a,qv hn,js hn]
 by_cases e:(19:Int)<=op
 .have hn:¬oT op:=λ q=>by have:=q.2;omega
  simp only[aa,bc,w0,w2,a,e,qv hn,js hn]
 have f:oT op:=⟨by omega,by omega⟩
 have ix:Op.aR 19 2 [.ptr yk 0,.int .i64 op]=B1 (.ptr yk (0+op.toNat*2)):=by
  simp only[Op.aR];rw[J5 (i:=op.toNat) (by omega) (by omega)];rfl
 have ld:Op.ae [.ptr yk (op.toNat*2+1)] H=B1 (.str (oZ op.toNat)):=by
  rw[x9 hs.1];exact ac4 op.toNat (by omega)
 simp only[aa,bc,w0,w2,a,e,d,ix,ld,xg f,jz f]
def Bi{x c:UInt8}(h:¬x=c):EI x c=false:=by
 cases q:EI x c with
 |false=>rfl
 |true=>exact(h (by simpa[EI,<-UInt8.toNat_inj]using q)).elim
def xbk(c:UInt8):∀(s:List UInt8)(k:Nat),(∃i:Nat,Ho c s k=B1 i/\c∈s)\/Ho c s k=B5/\c∉s:=by
 intro s
 induction s with
 |nil=>intro k;exact .inr ⟨rfl,by simp⟩
 |cons x s ih =>
  intro k
  by_cases h:x=c
  .subst h;exact .inl ⟨k,by simp[Ho,EI],by simp⟩
  .rcases ih (k+1)with⟨i,a,e⟩|⟨a,d⟩
   .exact .inl ⟨i,by simp[Ho,Bi h,a],by simp[e]⟩
   .exact .inr ⟨by simp[Ho,Bi h,a],by simp[d,rP h]⟩
def HV{s:List UInt8}{c:UInt8}{H:ar}:zb M VQ [.str s,.int .u8 c.toNat] H λ v H'=>H'=H /\ ∃z:Int,v=.int .i64 z/\(c∈s->0<=z)/\(c∉s->z = -1):=by
 refine qub ?_;simp only[aa,bc,quc];refine C3.q (R:=λ v H'=>H'=H /\ ∃z:Int,v=.int .i64 z/\(c∈s->0<=z)/\(c∉s->z = -1)) ?_ λ v H'⟨g,z,h,a,d⟩=>?_
 .refine qhl ?_;rcases xbk c s 0 with⟨i,a,f⟩|⟨a,d⟩
  .have e:Op.aC [.str s,.int .u8 c.toNat]=B1 (.int .i64 (i:Nat)):=by
    simp only[Op.aC,GQ,UInt8.ofNat_toNat,a];rfl
   simp only[aa,bc,_T,e];exact⟨_,rfl,λ _=>by omega,λ q=>(q f).elim⟩
  .have e:Op.aC [.str s,.int .u8 c.toNat]=B1 (.int .i64 (-1)):=by
    simp only[Op.aC,GQ,UInt8.ofNat_toNat,a];rfl
   simp only[aa,bc,_T,e];exact⟨_,rfl,λ q=>(d q).elim,λ _=>rfl⟩
 .subst h;subst g;simp only[aa,bc];exact⟨z,rfl,a,d⟩
def xg7{H:ar}(hs:p5 H)(i:iT):zb M Oj [.agg (fZ i)] H λ v H'=>v=.bool (decide i.mK)/\Fr Em H H':=by
 refine xed ?_;obtain⟨w0,w4,F,I,D,u⟩:=xee M ⟨B5,Oj⟩;obtain⟨H1,e1,x,-,N⟩:=cD H (OR (fZ i) AN);have ld:∀k,Op.ae [.ptr H.au k] H1=(fZ i)[k]?:=λ k=>x9 (xb N) k;have l0:Op.ae [.ptr H.au 0] H1=B1 (.int .i64 i.op):=ld 0;have l1:Op.ae [.ptr H.au 1] H1=B1 (.int .i64 i.a):=ld 1;have l2:Op.ae [.ptr H.au 2] H1=B1 (.int .i64 i.b):=ld 2;have l3:Op.ae [.ptr H.au 3] H1=B1 (.int .i64 i.c):=ld 3;have L:Op.build [.int .i64 0,.int .i64 0,.int .i64 0] [(0,1),(1,1),(2,1)] [.int .i64 i.a,.int .i64 i.b,.int .i64 i.c]=B1 (.agg [.int .i64 i.a,.int .i64 i.b,.int .i64 i.c]):=rfl;have ca:AV.cells (.agg (fZ i))=fZ i:=zk _;simp only[aa,bc,w0,ca,<-e1,l0];refine C3.q (xib (hs.em x) i.op) λ v K⟨A,y⟩=>?_;subst A;subst y;obtain⟨m,g⟩:∃m,m=(if oT i.op then oZ i.op.toNat else[]):=⟨_,rfl⟩
 rw[<-g];simp only[aa,bc,xf,w4,l1,l2,l3,L]
 let ok:Nat->Prop:=λ j=>match j with
  |0=>65∈m->0<=i.a/\i.a<8
  |1=>66∈m->0<=i.b/\i.b<8
  |_=>67∈m->0<=i.c/\i.c<8
 have f:i.mK↔oT i.op/\ok 0/\ok 1/\ok 2:=by
  constructor
  .intro q;have l:oT i.op:=⟨q.1,q.2.1⟩
   rw[xg l]at g;subst g;exact⟨l,q.2.2.1,q.2.2.2.1,q.2.2.2.2⟩
  .intro ⟨l,B,p,C⟩;rw[xg l]at g;subst g;exact⟨l.1,l.2,B,p,C⟩
 have Q:Op.bE 3 1 B5 [.agg [.int .i64 i.a,.int .i64 i.b,.int .i64 i.c],.int .i64 0]=B1 (.int .i64 i.a):=rfl;have R:Op.bE 3 1 B5 [.agg [.int .i64 i.a,.int .i64 i.b,.int .i64 i.c],.int .i64 1]=B1 (.int .i64 i.b):=rfl;have S:Op.bE 3 1 B5 [.agg [.int .i64 i.a,.int .i64 i.b,.int .i64 i.c],.int .i64 2]=B1 (.int .i64 i.c):=rfl;have T:Op.bN [.str [65,66,67],.int .i64 0]=B1 (.int .u8 ((65:UInt8).toNat:Nat)):=rfl;have U:Op.bN [.str [65,66,67],.int .i64 1]=B1 (.int .u8 ((66:UInt8).toNat:Nat)):=rfl;have V:Op.bN [.str [65,66,67],.int .i64 2]=B1 (.int .u8 ((67:UInt8).toNat:Nat)):=rfl;have Z:aj .i64 (0+1)=1:=by decide +kernel
 have b2:aj .i64 (1+1)=2:=by decide +kernel
 have b3:aj .i64 (2+1)=3:=by decide +kernel
 have no:∀{k:Nat},k<3 -> ¬ok k->decide i.mK=false:=λ{k}hk q=>js λ w=>by
  have⟨_,B,p,C⟩:=f.1 w;rcases(show k=0\/k=1\/k=2 by omega)with rfl|rfl|rfl
  .exact q B
  .exact q p
  .exact q C
 refine da.intro (λ n E G=>∃k:Nat,E=[(20,.int .i64 (k:Nat)),(19,.agg [.int .i64 i.a,.int .i64 i.b,.int .i64 i.c]),(4,.bool (decide (oT i.op))),(3,.str m)]/\n=3-k/\k<=3/\G=K /\ ∀j,j<k->ok j) ?_ ?_
 .exact ⟨_,_,⟨0,rfl,rfl,xz _,rfl,λ j O=>by omega⟩,by simp only[aa,bc]⟩
 rintro n E G ⟨k,rfl,rfl,hk,rfl,h⟩;rcases xy k 3 with o|o
 .have p:(k:Int)<3:=by omega
  obtain⟨c,r,P,l,d⟩:∃(c:UInt8)(r:Int),Op.bE 3 1 B5 [.agg [.int .i64 i.a,.int .i64 i.b,.int .i64 i.c],.int .i64 (k:Nat)]=B1 (.int .i64 r)/\Op.bN [.str [65,66,67],.int .i64 (k:Nat)]=B1 (.int .u8 (c.toNat:Nat))/\(ok k↔(c∈m->0<=r/\r<8)):=by
   rcases(show k=0\/k=1\/k=2 by omega)with rfl|rfl|rfl
   .exact ⟨65,i.a,Q,T,jx⟩
   .exact ⟨66,i.b,R,U,jx⟩
   .exact ⟨67,i.c,S,V,jx⟩
  have J:aj .i64 ((k:Int)+1)=((k+1:Nat):Int):=by rw[ji (by omega) (by omega)];omega
  have go:ok k -> ∀j,j<k+1->ok j:=λ q j O=>by
   rcases xy j k with w|w
   .exact h j w
   .rw [show j=k by omega];exact q
  simp only[aa,bc,I,p,D,P,l];refine C3.q (HV) λ v Y⟨y,z,A,W,X⟩=>?_;subst A;subst y
  by_cases s:c∈m
  .have t:(0:Int)<=z:=W s
   by_cases n1:r<0
   .have:=no o λ q=>by have:=(d.1 q s).1;omega
    simp only[aa,bc,t,n1,this];exact x
   by_cases n2:(8:Int)<=r
   .have:=no o λ q=>by have:=(d.1 q s).2;omega
    simp only[aa,bc,t,n1,n2,this];exact x
   simp only[aa,bc,t,n1,n2,u,J];exact⟨_,_,⟨k+1,rfl,rfl,by omega,go (d.2 λ _=>⟨by omega,by omega⟩)⟩,by simp only[aa,bc],by omega⟩
  .have t:¬(0:Int)<=z:=by rw[X s];decide
   simp only[aa,bc,t,u,J];exact⟨_,_,⟨k+1,rfl,rfl,by omega,go (d.2 λ q=>(s q).elim)⟩,by simp only[aa,bc],by omega⟩
 .have p:¬(k:Int)<3:=by omega
  have:decide (oT i.op)=decide i.mK:=by
   have e:i.mK↔oT i.op:=⟨λ q=>(f.1 q).1,λ q=>f.2 ⟨q,h 0 (by omega),h 1 (by omega),h 2 (by omega)⟩⟩
   by_cases q:oT i.op
   .rw [jz q,jz (e.2 q)]
   .rw [js q,js λ w=>q (e.1 w)]
  simp only[aa,bc,I,p,F,this];exact x
end Go.Am
namespace Go.Am
open Lang Go.Proofs
variable{M:ak}[MK M]
def bh(f:pH):List AV:=[.int .i64 f.kind,.int .i64 f.au,.int .i64 f.pj,.int .u64 f.value,.int .u64 f.addr]
def WU(n:Int):pO n<8:=by
 unfold pO;rw[BitVec.toNat_and];exact Nat.lt_of_le_of_lt Nat.and_le_right (by decide)
def Rx{rs:List Int}(h:rs.length=8)(n:Int):(rs.map uC)[pO n]? = B1 (.int .u64 (rg rs n)):=by
 have hl:=WU n;rw[xp,xe (by omega)];simp only[rg,zr,xe (show pO n<rs.length by omega)];rfl
def ON{rs:List Int}(h:rs.length=8)(hr:∀x∈rs,fF x)(n:Int):fF (rg rs n):=by
 have hl:=WU n;simp only[rg,zr,xe (show pO n<rs.length by omega)];exact hr _ (List.getElem_mem _)
def Iu{x:Int}(e:fF x)(n:Nat):x.fdiv (2 ^ n)=aj .u64 (x / 2 ^ n):=by
 have⟨a,d⟩:=e;have hp:(0:Int)<2 ^ n:=Int.pow_pos (by decide);rw[Int.fdiv_eq_ediv_of_nonneg _ (Int.le_of_lt hp),qp (Int.ediv_nonneg a (Int.le_of_lt hp))];exact Int.lt_of_le_of_lt (Int.ediv_le_self _ a) d
def bdL(k n r d:Int):Op.build [.int .i64 0,.int .i64 0,.int .i64 0,.int .u64 0,.int .u64 0] [(0,1),(1,1),(2,1),(4,1)] [.int .i64 k,.int .i64 n,.int .i64 r,.int .u64 d]=B1 (.agg (bh ⟨k,n,r,0,d⟩)):=rfl
def VN(k n v d:Int):Op.build [.int .i64 0,.int .i64 0,.int .i64 0,.int .u64 0,.int .u64 0] [(0,1),(1,1),(3,1),(4,1)] [.int .i64 k,.int .i64 n,.int .u64 v,.int .u64 d]=B1 (.agg (bh ⟨k,n,0,v,d⟩)):=rfl
def Fz{H:ar}{b:Nat}{x f:pH}(h:H.get b=B1 (OR (bh x) je)):Op.store 5 [.ptr b 0,.agg (bh f)] H=B1 (.undef,H.set b (OR (bh f) je)):=by
 rw[wY (o:=0) (n:=5) (v:=.agg (bh f)) h rfl (by simp[bh]) rfl];rfl
def J0{H:ar}{b:Nat}{x:pH}(h:H.get b=B1 (OR (bh x) je)):Op.aq 5 [.ptr b 0] H=B1 (.agg (bh x)):=by
 rw[rR (c:=bh x) (xb h) (by simp[bh])];rfl
def uO:Op.build (bh im) [] []=B1 (.agg (bh im)):=rfl
def Dx(k n:Int):Op.build (bh im) [(0,1),(1,1)] [.int .i64 k,.int .i64 n]=B1 (.agg (bh ⟨k,n,0,0,0⟩)):=rfl
def RP(k n r v:Int):Op.build (bh im) [(0,1),(1,1),(2,1),(3,1)] [.int .i64 k,.int .i64 n,.int .i64 r,.int .u64 v]=B1 (.agg (bh ⟨k,n,r,v,0⟩)):=rfl
def qR:[AV.int .i64 0,.int .i64 0,.int .i64 0,.int .u64 0,.int .u64 0]=bh im:=rfl
structure xX(i:iT)(rs:List Int)(pc:Int)(b:Nat)(H:ar):Prop where
 gi:H.get b=B1 (OR (fZ i) AN)
 gr:H.get (b+1)=B1 (OR (rs.map uC) zA)
 gp:H.get (b+2)=B1 (OR [.int .i64 pc] cz)
 ge:H.get (b+3)=B1 (OR (bh im) je)
 lt:b+3<H.au
section
variable{i:iT}{rs:List Int}{pc:Int}{b:Nat}{H H':ar}
def xX.em(h:xX i rs pc b H)(f:Fr Em H H'):xX i rs pc b H':=by
 have hl:=h.lt;exact⟨by rw[f.ah _ (by omega) id];exact h.gi,by rw[f.ah _ (by omega) id];exact h.gr,by rw[f.ah _ (by omega) id];exact h.gp,by rw[f.ah _ (by omega) id];exact h.ge,qn hl f.au⟩
def xX.li(h:xX i rs pc b H)(k:Nat):Op.ae [.ptr b k] H=(fZ i)[k]?:=x9 (xb h.gi) k
def xX.lp(h:xX i rs pc b H):Op.ae [.ptr (b+2) 0] H=B1 (.int .i64 pc):=x9 (xb h.gp) 0
def Is(h:xX i rs pc b H)(hp:0<=pc/\pc<1024)(v:Int):zb M Sr [.int .u64 v,.ptr (b+2) 0,.ptr b 0] H λ w H'=>w=.agg (bh ⟨1,pc+1,i.a,v,0⟩)/\Fr Em H H':=by
 refine xhv ?_;obtain⟨H1,e1,d,-,g⟩:=cD H (OR (bh im) je);have e:=h.em d;have l1:Op.ae [.ptr b 1] H1=B1 (.int .i64 i.a):=e.li 1;have wp:aj .i64 (pc+1)=pc+1:=ji (by omega) (by omega);have f:Fr Em H (H1.set H.au (OR (bh ⟨1,pc+1,i.a,v,0⟩) je)):=d.set (.inr (qm _)) _;have ld:=J0 (xc H1 H.au (OR (bh ⟨1,pc+1,i.a,v,0⟩) je));simp only[aa,bc,xhw,qR,<-e1,e.lp,wp,l1,RP,Fz g,ld];exact f
def Zg(h:xX i rs pc b H)(hp:0<=pc/\pc<1024)(k:Int):zb M T9 [.int .i64 k,.ptr (b+2) 0] H λ w H'=>w=.agg (bh ⟨k,pc+1,0,0,0⟩)/\Fr Em H H':=by
 refine xhz ?_;obtain⟨H1,e1,a,-,e⟩:=cD H (OR (bh im) je);have f:=h.em a;have wp:aj .i64 (pc+1)=pc+1:=ji (by omega) (by omega);have d:Fr Em H (H1.set H.au (OR (bh ⟨k,pc+1,0,0,0⟩) je)):=a.set (.inr (qm _)) _;have ld:=J0 (xc H1 H.au (OR (bh ⟨k,pc+1,0,0,0⟩) je));simp only[aa,bc,xh0,qR,<-e1,f.lp,wp,Dx,Fz e,ld];exact d
def Si(h:xX i rs pc b H)(hp:0<=pc/\pc<1024)(q:Bool):zb M Ry [.bool q,.ptr (b+2) 0,.ptr b 0] H λ w H'=>w=.agg (bh (nO i pc q))/\Fr Em H H':=by
 refine xhx ?_;obtain⟨w0,w2,a,k⟩:=xhy M ⟨B5,Ry⟩;obtain⟨H1,e1,l,-,j⟩:=cD H (OR (bh im) je);have m:=h.em l;have wp:aj .i64 (pc+1)=pc+1:=ji (by omega) (by omega);have l4:Op.ae [.ptr b 4] H1=B1 (.int .i64 i.AM):=m.li 4;have g:∀f,Fr Em H (H1.set H.au (OR (bh f) je)):=λ f=>l.set (.inr (qm _)) _;have ld:∀f,Op.aq 5 [.ptr H.au 0] (H1.set H.au (OR (bh f) je))=B1 (.agg (bh f)):=λ f=>J0 (xc H1 H.au (OR (bh f) je));cases q with
 |false =>
  simp only[aa,bc,w0,qR,<-e1,w2,m.lp,wp,Dx,Fz j,ld];exact⟨rfl,g _⟩
 |true =>
  by_cases d:i.AM<0
  .simp only[aa,bc,w0,qR,<-e1,w2,a,l4,d,uO,Fz j,ld];exact⟨by unfold nO;rw[xg rfl,xg (.inl d)],g _⟩
  by_cases e:(1024:Int)<i.AM
  .simp only[aa,bc,w0,qR,<-e1,w2,a,l4,d,e,uO,Fz j,ld];exact⟨by unfold nO;rw[xg rfl,xg (.inr e)],g _⟩
  simp only[aa,bc,w0,qR,<-e1,w2,a,l4,d,e,k,Dx,Fz j,ld];exact⟨by unfold nO;rw[xg rfl,qv (λ q=>q.elim d e)],g _⟩
def Zw(h:xX i rs pc b H)(d:rs.length=8)(n:Int):zb M Uj [.int .i64 n,.ptr (b+1) 0] H λ w H'=>w=.int .u64 (rg rs n)/\H'=H:=by
 refine xh1 ?_;have hl:=WU n;have a:Op.bin .and [.int .i64 n,.int .i64 7]=B1 (.int .i64 ((pO n:Nat):Int)):=by
  show B1 (AV.int .i64 (aj .i64 ((pO n:Nat):Int)))=_;rw[ji (by omega) (by omega)]
 have ix:Op.aR 8 1 [.ptr (b+1) 0,.int .i64 ((pO n:Nat):Int)]=B1 (.ptr (b+1) (pO n)):=by
  simp only[Op.aR];rw[J5 (i:=pO n) rfl hl];simp
 have ld:Op.ae [.ptr (b+1) (pO n)] H=B1 (.int .u64 (rg rs n)):=by rw[x9 (xb h.gr)];exact Rx d n
 simp only[aa,bc,xh2,a,ix,ld]
end
def Gv{H:ar}(hs:p5 H){i:iT}{rs:List Int}{pc:Int}(J:rs.length=8)(hr:∀x∈rs,fF x):zb M Zz [.agg (fZ i),.agg (rs.map uC),.int .i64 pc] H λ v H'=>v=.agg (bh (i.fT rs pc))/\Fr Em H H':=by
 refine Ew ?_;obtain⟨w0,w2,X,Y,Z,w22,O,m,p,r,s,u,B,A,G⟩:=DD M ⟨B5,Zz⟩;obtain⟨H1,e1,f1,n1,-⟩:=cD H (OR (fZ i) AN);obtain⟨H2,e2,L,-,-⟩:=cD H1 (OR (rs.map uC) zA);obtain⟨H3,S,I,-,-⟩:=cD H2 (OR [.int .i64 pc] cz);obtain⟨P,T,F,-,-⟩:=cD H3 (OR (bh im) je);have n2:H2.au=H.au+2:=by rw[e2,xx,n1]
 have V:H3.au=H.au+3:=by rw[S,xx,n2]
 have n4:P.au=H.au+4:=by rw[T,xx,V]
 have f4:Fr Em H P:=((f1.trans L λ _ q=>q.elim).trans I λ _ q=>q.elim).trans F λ _ q=>q.elim;have hM:xX i rs pc H.au P:=by
  refine⟨?_,?_,?_,?_,by omega⟩
  .rw [F.ah _ (by omega) id,I.ah _ (by omega) id,L.ah _ (by omega) id,e1,xm]
  .rw [F.ah _ (by omega) id,I.ah _ (by omega) id,e2,<-n1,xm]
  .rw [F.ah _ (by omega) id,S,<-n2,xm]
  .rw [T,<-V,xm]
 have c1:AV.cells (.agg (fZ i))=fZ i:=zk _;have c2:AV.cells (.agg (rs.map uC))=rs.map uC:=zk _;have c3:AV.cells (.int .i64 pc)=[.int .i64 pc]:=rfl;simp only[aa,bc,w0,c1,<-e1,c2,<-e2,c3,<-S,qR,<-T,n1,n2,V,w2];have li:Op.aq 5 [.ptr H.au 0] P=B1 (.agg (fZ i)):=by rw[rR (c:=fZ i) (xb hM.gi) (by simp[fZ])];rfl
 simp only[aa,bc,li];refine C3.q (xg7 (hs.em f4) i) λ v K⟨l,f5⟩=>?_;subst l;have d:=hM.em f5;have j:=f4.trans f5 λ _ q=>q.elim
 -- the end
 have fin:∀{z:ar},xX i rs pc H.au z->Fr Em H z->(∀f,Op.store 5 [.ptr (H.au+3) 0,.agg (bh f)] z=B1 (.undef,z.set (H.au+3) (OR (bh f) je)))/\(∀f,Op.aq 5 [.ptr (H.au+3) 0] (z.set (H.au+3) (OR (bh f) je))=B1 (.agg (bh f))) /\ ∀f,Fr Em H (z.set (H.au+3) (OR (bh f) je)):=λ{z}hx fx =>
  ⟨λ f=>Fz hx.ge,λ f=>J0 (xc z (H.au+3) (OR (bh f) je)),λ f=>fx.set (.inr (by omega)) _⟩
 by_cases hb:¬i.mK\/pc<0\/1024<=pc
 .have hd:i.fT rs pc=im:=by unfold iT.fT;rw[xg hb]
  rw[hd];have⟨st,ld,k⟩:=fin d j
  by_cases Q:i.mK
  .by_cases E:pc<0
   .simp only[aa,bc,jz Q,d.lp,E,uO,st,ld];exact k _
   .have W:(1024:Int)<=pc:=by rcases hb with q|q|q;exact(q Q).elim;omega;exact q
    simp only[aa,bc,jz Q,d.lp,E,W,uO,st,ld];exact k _
  .simp only[aa,bc,js Q,uO,st,ld];exact k _
 have D:i.mK:=vx.1 λ q=>hb (.inl q);have E:¬pc<0:=λ q=>hb (.inr (.inl q));have W:¬(1024:Int)<=pc:=λ q=>hb (.inr (.inr q));have hp:0<=pc/\pc<1024:=⟨by omega,by omega⟩
 have wp:aj .i64 (pc+1)=pc+1:=ji (by omega) (by omega);have mk1:Op.bJ Sr 0 [.ptr (H.au+2) 0,.ptr H.au 0]=B1 (.fn (.func Sr) [] [.ptr (H.au+2) 0,.ptr H.au 0]):=rfl;have mk2:Op.bJ Ry 0 [.ptr (H.au+2) 0,.ptr H.au 0]=B1 (.fn (.func Ry) [] [.ptr (H.au+2) 0,.ptr H.au 0]):=rfl;have mk3:Op.bJ T9 0 [.ptr (H.au+2) 0]=B1 (.fn (.func T9) [] [.ptr (H.au+2) 0]):=rfl;have mk4:Op.bJ Uj 0 [.ptr (H.au+1) 0]=B1 (.fn (.func Uj) [] [.ptr (H.au+1) 0]):=rfl;have k1:Op.ae [.ptr H.au 1] K=B1 (.int .i64 i.a):=d.li 1;have k2:Op.ae [.ptr H.au 2] K=B1 (.int .i64 i.b):=d.li 2;have U:Op.ae [.ptr H.au 3] K=B1 (.int .i64 i.c):=d.li 3;have k4:Op.ae [.ptr H.au 4] K=B1 (.int .i64 i.AM):=d.li 4;have k0:Op.ae [.ptr H.au 0] K=B1 (.int .i64 i.op):=d.li 0;simp only[aa,bc,jz D,d.lp,E,W,X,Y,Z,k1,k2,U];refine C3.q (Zw d J i.a) λ v R⟨l,N⟩=>?_;subst l;subst N;simp only[aa,bc,k2,U];refine C3.q (Zw d J i.b) λ v R⟨l,N⟩=>?_;subst l;subst N;simp only[aa,bc,U];refine C3.q (Zw d J i.c) λ v R⟨l,N⟩=>?_;subst l;subst N;have ra:=ON J hr i.a;have rb:=ON J hr i.b;have rc:=ON J hr i.c;simp only[aa,bc,k4,w22,k0];have hop:1<=i.op/\i.op<=18:=⟨D.1,D.2.1⟩
 -- what is told
 have t:∀{f:pH}{z:ar},f=i.fT rs pc->Fr Em H z->AV.agg (bh f)=.agg (bh (i.fT rs pc))/\Fr Em H z:=λ e q=>⟨by rw[e],q⟩
 have C:i.op=1\/i.op=2\/i.op=3\/i.op=4\/i.op=5\/i.op=6\/i.op=7\/i.op=8\/i.op=9\/i.op=10\/i.op=11\/i.op=12\/i.op=13\/i.op=14\/i.op=15\/i.op=16\/i.op=17\/i.op=18:=by omega
 have cl:∀{x:AV}{f:pH}{z:ar},x=.agg (bh f)->Fr Em R z->xX i rs pc H.au z/\Fr Em H z:=λ _ q=>⟨d.em q,j.trans q λ _ w=>w.elim⟩
 rcases C with o|o|o|o|o|o|o|o|o|o|o|o|o|o|o|o|o|o
 .simp only[aa,bc,o,tP];refine C3.q (Zg d hp 7) λ v y⟨l,h⟩=>?_;subst l;have g:=j.trans h λ _ w=>w.elim;have⟨st,ld,k⟩:=fin (d.em h) g;simp only[aa,bc,st,ld];refine t ?_ (k _);unfold iT.fT;rw[qv hb];simp[o]
 .simp only[aa,bc,o,Ri,tP,k4];refine C3.q (Is d hp (aj .u64 i.AM)) λ v y⟨l,h⟩=>?_;subst l;have g:=j.trans h λ _ w=>w.elim;have⟨st,ld,k⟩:=fin (d.em h) g;simp only[aa,bc,st,ld];refine t ?_ (k _);unfold iT.fT;rw[qv hb];simp[o]
 .simp only[aa,bc,o,Ri,tP,m];refine C3.q (Is d hp (rg rs i.b)) λ v y⟨l,h⟩=>?_;subst l;have g:=j.trans h λ _ w=>w.elim;have⟨st,ld,k⟩:=fin (d.em h) g;simp only[aa,bc,st,ld];refine t ?_ (k _);unfold iT.fT;rw[qv hb];simp[o]
 .simp only[aa,bc,o,Ri,tP,m];refine C3.q (Is d hp _) λ v y⟨l,h⟩=>?_;subst l;have g:=j.trans h λ _ w=>w.elim;have⟨st,ld,k⟩:=fin (d.em h) g;simp only[aa,bc,st,ld];refine t ?_ (k _);unfold iT.fT;rw[qv hb];simp[o,FM]
 .simp only[aa,bc,o,Ri,tP,m,p];refine C3.q (Is d hp _) λ v y⟨l,h⟩=>?_;subst l;have g:=j.trans h λ _ w=>w.elim;have⟨st,ld,k⟩:=fin (d.em h) g;simp only[aa,bc,st,ld];refine t ?_ (k _);unfold iT.fT;rw[qv hb];simp[o,FM]
 .simp only[aa,bc,o,Ri,tP,m,p];refine C3.q (Is d hp _) λ v y⟨l,h⟩=>?_;subst l;have g:=j.trans h λ _ w=>w.elim;have⟨st,ld,k⟩:=fin (d.em h) g;simp only[aa,bc,st,ld];refine t ?_ (k _);unfold iT.fT;rw[qv hb];simp[o,FM]
 .have q:Op.bin .and [.int .u64 (rg rs i.b),.int .u64 (rg rs i.c)]=B1 (.int .u64 (FM 7 (rg rs i.b) (rg rs i.c))):=rfl;simp only[aa,bc,o,Ri,tP,m,p,r,q];refine C3.q (Is d hp _) λ v y⟨l,h⟩=>?_;subst l;have g:=j.trans h λ _ w=>w.elim;have⟨st,ld,k⟩:=fin (d.em h) g;simp only[aa,bc,st,ld];refine t ?_ (k _);unfold iT.fT;rw[qv hb];simp[o]
 .have q:Op.bin .xor [.int .u64 (rg rs i.b),.int .u64 (rg rs i.c)]=B1 (.int .u64 (FM 8 (rg rs i.b) (rg rs i.c))):=rfl;simp only[aa,bc,o,Ri,tP,m,p,r,q];refine C3.q (Is d hp _) λ v y⟨l,h⟩=>?_;subst l;have g:=j.trans h λ _ w=>w.elim;have⟨st,ld,k⟩:=fin (d.em h) g;simp only[aa,bc,st,ld];refine t ?_ (k _);unfold iT.fT;rw[qv hb];simp[o]
 .have q:Op.bin .rem [.int .u64 (rg rs i.c),.int .u64 64]=B1 (.int .u64 (((rg rs i.c % 64).toNat:Nat):Int)):=by
   rw[ud .u64 _ _ (by decide),Int.tmod_eq_emod_of_nonneg rc.1];congr 2;omega
  have E:=Js .u64 .u64 (rg rs i.b) (rg rs i.c % 64).toNat;rw[show P0.u64.bits=64 from rfl,show min (rg rs i.c % 64).toNat 64=(rg rs i.c % 64).toNat by omega]at E;simp only[aa,bc,o,Ri,tP,m,p,r,s,q,E];refine C3.q (Is d hp _) λ v y⟨l,h⟩=>?_;subst l;have g:=j.trans h λ _ w=>w.elim;have⟨st,ld,k⟩:=fin (d.em h) g;simp only[aa,bc,st,ld];refine t ?_ (k _);unfold iT.fT;rw[qv hb];simp[o,FM]
 .have q:Op.bin .rem [.int .u64 (rg rs i.c),.int .u64 64]=B1 (.int .u64 (((rg rs i.c % 64).toNat:Nat):Int)):=by
   rw[ud .u64 _ _ (by decide),Int.tmod_eq_emod_of_nonneg rc.1];congr 2;omega
  have E:=Pt .u64 .u64 (rg rs i.b) (rg rs i.c % 64).toNat;rw[show P0.u64.bits=64 from rfl,show min (rg rs i.c % 64).toNat 64=(rg rs i.c % 64).toNat by omega,Iu rb]at E;simp only[aa,bc,o,Ri,tP,m,p,r,s,q,E];refine C3.q (Is d hp _) λ v y⟨l,h⟩=>?_;subst l;have g:=j.trans h λ _ w=>w.elim;have⟨st,ld,k⟩:=fin (d.em h) g;simp only[aa,bc,st,ld];refine t ?_ (k _);unfold iT.fT;rw[qv hb];simp[o,FM]
 .have ⟨st,ld,k⟩:=fin d j;simp only[aa,bc,o,Ri,tP,m,p,r,s,u,d.lp,wp,k1,bdL,st,ld];refine t ?_ (k _);unfold iT.fT;rw[qv hb];simp[o]
 .have ⟨st,ld,k⟩:=fin d j;simp only[aa,bc,o,Ri,tP,m,p,r,s,u,d.lp,wp,VN,st,ld];refine t ?_ (k _);unfold iT.fT;rw[qv hb];simp[o]
 .simp only[aa,bc,o,Ri,tP,m,p,r,s,u,B];refine C3.q (Si d hp B4) λ v y⟨l,h⟩=>?_;subst l;have g:=j.trans h λ _ w=>w.elim;have⟨st,ld,k⟩:=fin (d.em h) g;simp only[aa,bc,st,ld];refine t ?_ (k _);unfold iT.fT;rw[qv hb];simp[o]
 .simp only[aa,bc,o,Ri,tP,m,p,r,s,u,B];refine C3.q (Si d hp (decide (rg rs i.a=rg rs i.b))) λ v y⟨l,h⟩=>?_;subst l;have g:=j.trans h λ _ w=>w.elim;have⟨st,ld,k⟩:=fin (d.em h) g;simp only[aa,bc,st,ld];refine t ?_ (k _);unfold iT.fT;rw[qv hb];simp[o]
 .simp only[aa,bc,o,Ri,tP,m,p,r,s,u,B,A];refine C3.q (Si d hp (decide (rg rs i.a≠rg rs i.b))) λ v y⟨l,h⟩=>?_;subst l;have g:=j.trans h λ _ w=>w.elim;have⟨st,ld,k⟩:=fin (d.em h) g;simp only[aa,bc,st,ld];refine t ?_ (k _);unfold iT.fT;rw[qv hb];simp[o]
 .simp only[aa,bc,o,Ri,tP,m,p,r,s,u,B,A];refine C3.q (Si d hp (decide (rg rs i.a<rg rs i.b))) λ v y⟨l,h⟩=>?_;subst l;have g:=j.trans h λ _ w=>w.elim;have⟨st,ld,k⟩:=fin (d.em h) g;simp only[aa,bc,st,ld];refine t ?_ (k _);unfold iT.fT;rw[qv hb];simp[o]
 .simp only[aa,bc,o,Ri,tP,m,p,r,s,u,B,A,G];refine C3.q (Zg d hp 5) λ v y⟨l,h⟩=>?_;subst l;have g:=j.trans h λ _ w=>w.elim;have⟨st,ld,k⟩:=fin (d.em h) g;simp only[aa,bc,st,ld];refine t ?_ (k _);unfold iT.fT;rw[qv hb];simp[o]
 .simp only[aa,bc,o,Ri,tP,m,p,r,s,u,B,A,G,O];refine C3.q (Zg d hp 6) λ v y⟨l,h⟩=>?_;subst l;have g:=j.trans h λ _ w=>w.elim;have⟨st,ld,k⟩:=fin (d.em h) g;simp only[aa,bc,st,ld];refine t ?_ (k _);unfold iT.fT;rw[qv hb];simp[o]
end Go.Am
namespace Go.Am
open Lang Go.Proofs
def At(H:ar)(p t:Nat)(c:List AV):Prop:=H.get p=B1 (OR c t)/\p<H.au
section
variable{H H':ar}{p t:Nat}{c:List AV}
def At.ld(h:At H p t c)(k:Nat):Op.ae [.ptr p k] H=c[k]?:=x9 (xb h.1) k
def At.eI(h:At H p t c){k n:Nat}(hn:k+n<=c.length):Op.aq n [.ptr p k] H=B1 (.agg ((c.drop k).take n)):=rR (xb h.1) hn
def At.fE(h:At H p t c){k n:Nat}{v:AV}(b:v.cells.length=n)(hn:k+n<=c.length)(a:aL v.cells=B4):Op.store n [.ptr p k,v] H=B1 (.undef,H.set p (OR (c.take k++v.cells++c.drop (k+n)) t)):=wY h.1 b hn a
def CC{α:Type}:∀(c:List α)(k:Nat)(v:α),k<c.length->c.take k ++ [v]++c.drop (k+1)=c.set k v
 |[],k,v,h=>absurd h (Nat.not_lt_zero _)
 |x::c,0,v,_=>rfl
 |x::c,k+1,v,h=>congrArg (x :: ·) (CC c k v (Nat.lt_of_succ_lt_succ h))
def FL{v:AV}(h:aB v=B4):v.cells=[v]:=by
 cases v<;>first|rfl|cases h
def At.st(h:At H p t c)(k:Nat){v:AV}(a:aB v=B4)(hk:k<c.length):Op.store 1 [.ptr p k,v] H=B1 (.undef,H.set p (OR (c.set k v) t)):=by
 have e:=FL a;rw[h.fE (n:=1) (by rw[e];rfl) hk (by rw[e,vc];simp[a]),e,CC c k v hk]
theorem At.set(h:At H p t c)(a:List AV):At (H.set p (OR a t)) p t a:=⟨xc ..,h.2⟩
def At.fr{W:Nat->Prop}(h:At H p t c)(f:Fr W H H')(hw:¬W p):At H' p t c:=⟨(f.ah p h.2 hw).trans h.1,qn h.2 f.au⟩
def At.em(h:At H p t c)(f:Fr Em H H'):At H' p t c:=h.fr f id
def At.new(H:ar)(c:List AV)(t:Nat):At (H.alloc (OR c t)) H.au t c:=⟨xm ..,zp _⟩
def cm(H:ar)(p:Nat)(o:bD):Fr (On p) H (H.set p o):=(Fr.refl H).set (W:=On p) (.inl rfl) o
end
variable{M:ak}[MK M]
def dv{f:Nat}{vs:List AV}{H:ar}{v:AV}(h:zb M f vs H λ w X=>w=v/\X=H)(K:Bool->AV->ar->Prop):C3 M B4 (.func f) vs H K=K B4 v H:=by
 obtain⟨w,X,⟨n1,d⟩,rfl,rfl⟩:=h.elim;refine propext ⟨?_,λ k=>⟨w,X,⟨n1,d⟩,k⟩⟩;rintro⟨e,X',⟨n2,g⟩,k⟩;have a:=d (max n1 n2) (by omega);rw[g (max n1 n2) (by omega)]at a;injection a with a
 injection a with a b
 injection b with _ b
 injection a with a
 subst a;subst b;exact k
def aw:(∀b o H,Op.eq .ptr B2 [.ptr b o,.nilp] H=B1 (.bool B2))/\(∀b o H,Op.eq .ptr B4 [.ptr b o,.nilp] H=B1 (.bool B4))/\(∀H,Op.eq .ptr B2 [.nilp,.nilp] H=B1 (.bool B4))/\(∀H,Op.eq .ptr B4 [.nilp,.nilp] H=B1 (.bool B2))/\(∀b o,Op.nilCheck [.ptr b o]=B1 (.ptr b o))/\(∀i l,Op.extract i [.tuple l]=l[i]?):=⟨ye,lS,Re,uz,qo,xf⟩
def wq{o:Nat->Nat}{n k z:Nat}(h:z<n):aO o n k z=o z:=xg h
def ng{o:Nat->Nat}{n k z:Nat}(h:n<=z):aO o n k z=k:=qv (by omega)
def ct(x:Fi)(pv:AV):List AV:=x.rs.map uC ++ [.int .i64 x.pc,pv,.bool B4]
def gn(x:List Int×Int):List AV:=x.1.map uC ++ [.int .i64 x.2]
structure XD(x:List Int×Int):Prop where
 r8:x.1.length=8
 ru:∀v∈x.1,fF v
 pc:0<=x.2
def Om(H:ar)(o:Nat->Nat)(f:Nat)(pv:AV):Option (List Int×Int)->Prop
 |none=>pv=.nilp
 |some x=>XD x /\ ∃b,pv=.ptr b 0/\At H b P9 (gn x)/\o b=2/\b≠f
structure p7(H:ar)(o:Nat->Nat)(f:Nat)(x:Fi):Prop where
 w:XD (x.rs,x.pc)
 at':∃pv,At H f HX (ct x pv)/\Om H o f pv x.pt
section
variable{H H':ar}{o o':Nat->Nat}{f:Nat}{x:Fi}
def MY{rs:List Int}(h:rs.length=8)(k:Nat)(l:List AV):(rs.map uC++l)[8+k]? = l[k]?:=by
 rw[z7 (by simp[h])];simp[h]
def Jn{rs:List Int}(h:rs.length=8)(l:List AV):(rs.map uC++l).length=8+l.length:=by simp[h]
def RW{rs:List Int}(h:rs.length=8)(l:List AV)(n:Nat):(rs.map uC++l).take (8+n)=rs.map uC++l.take n:=by
 rw[show 8+n=(rs.map uC).length+n by simp[h],List.take_length_add_append]
def Lb{rs:List Int}(h:rs.length=8)(l:List AV)(n:Nat):(rs.map uC++l).drop (8+n)=l.drop n:=by
 rw[show 8+n=(rs.map uC).length+n by simp[h],Qj]
def Om.fr{W:Nat->Prop}{pv:AV}{x:Option (List Int×Int)}(h:Om H o f pv x)(a:Fr W H H')(hw:∀z,z<H.au->o z=2->z≠f -> ¬W z)(ho:∀z,z<H.au->o' z=o z):Om H' o' f pv x:=by
 cases x with
 |none=>exact h
 |some x =>
  have⟨i,b,j,d,e,g⟩:=h;exact⟨i,b,j,d.fr a (hw b d.2 e g),(ho b d.2).trans e,g⟩
def p7.fr{W:Nat->Prop}(h:p7 H o f x)(a:Fr W H H')(e:o f=2)(hw:∀z,z<H.au->o z=2 -> ¬W z)(ho:∀z,z<H.au->o' z=o z):p7 H' o' f x:=by
 have⟨pv,b,d⟩:=h.at';exact⟨h.w,pv,b.fr a (hw f b.2 e),d.fr a (λ z q w _=>hw z q w) ho⟩
def p7.em(h:p7 H o f x)(a:Fr Em H H'):p7 H' o f x:=by
 have⟨pv,b,d⟩:=h.at';exact⟨h.w,pv,b.em a,d.fr a (λ _ _ _ _ q=>q) λ _ _=>rfl⟩
def p7.row(h:p7 H o f x){pv:AV}(a:At H f HX (ct x pv))(b:Om H o f pv x.pt){y:Fi}(d:XD (y.rs,y.pc))(hp:y.pt=x.pt):p7 (H.set f (OR (ct y pv) HX)) (aO o H.au 2) f y :=
 ⟨d,pv,a.set _,hp▸b.fr (cm H f _) (λ z _ _ q=>q) λ z q=>wq q⟩
def p7.same(h:p7 H o f x):p7 H (aO o H.au 2) f x:=by
 have⟨pv,a,b⟩:=h.at';exact⟨h.w,pv,a,b.fr (Fr.refl H) (λ z _ _ _ q=>q) λ z q=>wq q⟩
def mL(h:p7 H o f x):∀K,C3 M B4 (.func qo0) [.ptr f 0] H K=K B4 (.bool B2) H:=by
 obtain⟨pv,a,-⟩:=h.at';have l:=(a.ld 10).trans (MY h.w.r8 2 _);refine dv (q0m ?_);simp only[aa,bc,q0n,aw,l]
def mA(h:p7 H o f x):∀K,C3 M B4 (.func qlp) [.ptr f 0] H K=K B4 (.int .i64 (if x.pt.isSome then 0 else 60)) H:=by
 have⟨pv,d,a⟩:=h.at';have l:=(d.ld 9).trans (MY h.w.r8 1 _);refine dv (qvv ?_);cases q:x.pt with
 |none =>
  rw[q]at a;have a:pv=.nilp:=a;subst a;simp only[aa,bc,iw,aw,mL h,l,BR,zm]
 |some y =>
  rw[q]at a;obtain⟨-,b,rfl,-⟩:=a;simp only[aa,bc,iw,aw,mL h,l,BR]
def BT(h:p7 H o f x)(i:Int):∀K,C3 M B4 (.func F_) [.ptr f 0,.int .i64 i] H K=K B4 (.int .i64 (if 0<=i/\i<8 then 0 else 2)) H:=by
 refine dv (qxy ?_)
 by_cases a:i<0
 .simp only[aa,bc,W7,mL h,a,qv (λ q:0<=i/\i<8=>IQ.2 q.1 a)]
 by_cases b:(8:Int)<=i
 .simp only[aa,bc,W7,mL h,a,b,qv (λ q:0<=i/\i<8=>IQ.2 b q.2)]
 .simp only[aa,bc,W7,mL h,a,b,xg (show 0<=i/\i<8 by omega)]
def L5(H:ar)(o:Nat->Nat)(f:Nat)(y:Fi)(H':ar):Prop:=p7 H' (aO o H.au 2) f y/\Fr (On f) H H'
def Ma(h:p7 H o f x)(i:Int){v:Int}(k:fF v):zb M WN [.ptr f 0,.int .i64 i,.int .u64 v] H λ _ H'=>L5 H o f (x.set i v) H':=by
 refine q5k ?_;unfold Fi.set
 by_cases b:0<=i/\i<8
 .rw [xg b];have⟨pv,g,j⟩:=h.at';have d:=h.w.r8;obtain⟨a,rfl⟩:=jm b.1;have ha:a<8:=by omega
  have ix:Op.aR 8 1 [.ptr f 0,.int .i64 (a:Int)]=B1 (.ptr f a):=by rw[RR rfl ha];simp
  have e:(ct x pv).set a (.int .u64 v)=ct {x with rs:=x.rs.set a v} pv:=by
   unfold ct;rw[List.set_append_left _ _ (by simp[d];exact ha),List.map_set];rfl
  have st:=g.st a (v:=.int .u64 v) rfl (by unfold ct;rw[Jn d];omega);rw[e]at st;simp only[aa,bc,E_,aw,BT h,xg b,ix,st];refine⟨h.row g j ⟨by simp[d],λ y q=>(FU q).elim (h.w.ru y) λ e=>e▸k,h.w.pc⟩ rfl,cm ..⟩
 .rw [qv b];have m:¬(2:Int)=0:=by decide
  simp only[aa,bc,E_,BT h,qv b,m];exact⟨h.same,Fr.refl _⟩
def Jc(h:p7 H o f x)(i:Int):zb M vo [.ptr f 0,.int .i64 i] H λ _ H'=>L5 H o f (x.jump i) H':=by
 refine q0j ?_;unfold Fi.jump
 by_cases a:i<0
 .rw [xg a];simp only[aa,bc,_J,mL h,a];exact⟨h.same,Fr.refl _⟩
 .rw [qv a];have⟨pv,d,g⟩:=h.at';have b:=h.w.r8;have e:(ct x pv).set 8 (.int .i64 i)=ct {x with pc:=i} pv:=by
   unfold ct;rw[NJ _ _ (by simp[b])];simp[b]
  have st:=d.st 8 (v:=.int .i64 i) rfl (by unfold ct;rw[Jn b];simp);rw[e]at st;simp only[aa,bc,_J,aw,mL h,a,st];exact⟨h.row d g ⟨b,h.w.ru,IQ.1 a⟩ rfl,cm ..⟩
def wz(h:p7 H o f x):∀K,C3 M B4 (.func M_) [.ptr f 0] H K=K B4 (.int .i64 x.pc) H:=by
 obtain⟨pv,a,-⟩:=h.at';have l:=(a.ld 8).trans (MY h.w.r8 0 _);refine dv (q63 ?_);simp only[aa,bc,q64,aw,mL h,l]
def Ys(h:p7 H o f x):zb M qp4 [.ptr f 0] H λ v H'=>v=.agg (x.rs.map uC)/\Fr Em H H':=by
 refine q5i ?_;obtain⟨H1,e1,b,-,-⟩:=cD H (OR (JK 8 (.int .u64 0)) zA);have d:At H1 H.au zA _:=e1▸At.new H _ _;obtain⟨pv,g,-⟩:=(h.em b).at';have a:=h.w.r8;have l:=g.eI (k:=0) (n:=8) (by unfold ct;rw[Jn a];simp);rw[yo,show 8=8+0 from rfl,ct,RW a,yq,zq]at l;have s:=d.fE (k:=0) (n:=8) (v:=.agg (x.rs.map uC)) (by simp[zk,a]) (by simp) (by rw[zk,vc];simp[uC,aB]);rw[zk,yq,jr,jh (by simp),zq]at s;have l2:=((d.set (x.rs.map uC)).eI (k:=0) (n:=8) (by simp[a]))
 rw[yo,ze (by simp[a])]at l2;have e:[AV.int .u64 0,.int .u64 0,.int .u64 0,.int .u64 0,.int .u64 0,.int .u64 0,.int .u64 0,.int .u64 0]=JK 8 (.int .u64 0):=rfl;simp only[aa,bc,q5j,aw,e,<-e1,mL (h.em b),l,s,l2];exact b.set (.inr (qm _)) _
def Ln{pv:AV}(b:At H f HX (ct x pv))(a:x.rs.length=8):Op.aq 9 [.ptr f 0] H=B1 (.agg (gn (x.rs,x.pc))):=by
 have l:=b.eI (k:=0) (n:=9) (by unfold ct;rw[Jn a];simp);rw[yo,show 9=8+1 from rfl,ct,RW a]at l;exact l
def ZJ{pv:AV}(b:At H f HX (ct x pv))(a:x.rs.length=8):Op.aq 8 [.ptr f 0] H=B1 (.agg (x.rs.map uC)):=by
 have l:=b.eI (k:=0) (n:=8) (by unfold ct;rw[Jn a];simp);rw[yo,show 8=8+0 from rfl,ct,RW a,yq,zq]at l;exact l
def BO(y:List Int×Int):aL (gn y)=true:=by unfold gn;rw[vc];simp[uC,aB]
def QG{y:List Int×Int}(h:y.1.length=8):(gn y).length=9:=by simp[gn,h]
def z9:[AV.int .u64 0,.int .u64 0,.int .u64 0,.int .u64 0,.int .u64 0,.int .u64 0,.int .u64 0,.int .u64 0,.int .i64 0]=gn (JK 8 0,0):=rfl
def OM(h:p7 H o f x):zb M qoz [.ptr f 0] H λ _ H'=>L5 H o f x.save H':=by
 refine q0k ?_;have⟨pv,b,y⟩:=h.at';have a:=h.w.r8;obtain⟨H1,e1,u,-,-⟩:=cD H (OR (gn (JK 8 0,0)) P9);have g:At H1 H.au P9 _:=e1▸At.new H _ _;have s:=g.fE (k:=0) (n:=9) (v:=.agg (gn (x.rs,x.pc))) (by rw[zk];exact QG a) (by simp[gn]) (by rw[zk];exact BO _);rw[zk,yq,jr,jh (by simp[gn]),zq]at s;obtain⟨d,e2⟩:∃X,X=H1.set H.au (OR (gn (x.rs,x.pc)) P9):=⟨_,rfl⟩
 rw[<-e2]at s;have r:At d H.au P9 (gn (x.rs,x.pc)):=e2▸g.set _;have i:Fr Em H d:=e2▸u.set (.inr (qm _)) _;have j:=b.em i;have e:(ct x pv).set 9 (.ptr H.au 0)=ct x.save (.ptr H.au 0):=by
  unfold ct;rw[NJ _ _ (by simp[a])];simp[a,Fi.save]
 have st:=j.st 9 (v:=.ptr H.au 0) rfl (by unfold ct;rw[Jn a];simp);rw[e]at st;simp only[aa,bc,q0l,aw,mL h,Ln b a,z9,<-e1,s,st];have m:H.au≠f:=λ q=>by have:=b.2;omega
 exact⟨⟨h.w,_,j.set _,h.w,_,rfl,r.fr (cm ..) (λ q=>m q),ng (qm _),m⟩,(i.mono (W':=On f) λ _ _ q=>q.elim).trans (cm ..) λ z q=>.inl q⟩
def Qr(h:p7 H o f x):zb M _2 [.ptr f 0] H λ _ H'=>L5 H o f x.drop H':=by
 refine q0i ?_;have⟨pv,b,g⟩:=h.at';have a:=h.w.r8;cases q:x.pt with
 |none =>
  have e:x.drop=x:=by unfold Fi.drop;cases x;simp only at q;rw[q]
  rw[e];have d:¬(60:Int)=0:=by decide
  simp only[aa,bc,W_,mA h,q,BR,zm,d];exact⟨h.same,Fr.refl _⟩
 |some y =>
  have e:(ct x pv).set 9 .nilp=ct x.drop .nilp:=by
   unfold ct;rw[NJ _ _ (by simp[a])];simp[a,Fi.drop]
  have st:=b.st 9 (v:=.nilp) rfl (by unfold ct;rw[Jn a];simp);rw[e]at st;simp only[aa,bc,W_,aw,mA h,q,BR,st];exact⟨⟨h.w,_,b.set _,rfl⟩,cm ..⟩
def YB{a b:List Int}(ha:a.length=8)(hb:b.length=8)(H:ar):Op.eq (.agg (.part 0 B5 .int (.part 1 B5 .int (.part 2 B5 .int (.part 3 B5 .int (.part 4 B5 .int (.part 5 B5 .int (.part 6 B5 .int (.part 7 B5 .int .nil))))))))) B4 [.agg (a.map uC),.agg (b.map uC)] H=B1 (.bool (decide (a≠b))):=by
 match a,ha,b,hb with
 |[a0,a1,a2,a3,a4,a5,a6,a7],_,[b0,b1,b2,b3,b4,b5,b6,b7],_ =>
  refine(τ _ _ _ _ (decide ([a0,a1,a2,a3,a4,a5,a6,a7]=[b0,b1,b2,b3,b4,b5,b6,b7])) ?_).trans (by simp);simp only[j6,Fo,uC,bm,partAt,lC,z4,jo,qr,tf,kP,I6,xu,Xj,zw,tJ]
  by_cases d:a0=b0<;>by_cases e:a1=b1<;>by_cases g:a2=b2<;>by_cases h:a3=b3<;>simp only[d,e,g,h,decide_true,J1,xu,zo,Fq,false_and,and_false]<;>by_cases i:a4=b4<;>by_cases j:a5=b5<;>by_cases k:a6=b6<;>by_cases m:a7=b7<;>simp only[i,j,k,m,decide_true,J1,xu,zo,Fq,false_and,and_false]
def xf1(h:p7 H o f x):zb M qkt [.ptr f 0] H λ _ H'=>L5 H o f x.restore H':=by
 refine qtv ?_;have⟨pv,g,j⟩:=h.at';have a:=h.w.r8;cases q:x.pt with
 |none =>
  have e:x.restore=x:=by unfold Fi.restore;rw[q]
  rw[e];have F:¬(60:Int)=0:=by decide
  simp only[aa,bc,TY,mA h,q,BR,zm,F];exact⟨h.same,Fr.refl _⟩
 |some y =>
  rw[q]at j;have m:=j;obtain⟨d,b,rfl,hb,I,G⟩:=j;have e:x.restore=⟨y.1,y.2,B1 y⟩:=by unfold Fi.restore;rw[q]
  have r:=(g.ld 9).trans (MY a 1 _);have A:=(g.ld 8).trans (MY a 0 _);have B:=(hb.ld 8).trans (MY d.r8 0 _);have u:Op.aq 8 [.ptr b 0] H=B1 (.agg (y.1.map uC)):=by
   have l:=hb.eI (k:=0) (n:=8) (by rw[QG d.r8];decide);rw[yo,show 8=8+0 from rfl,gn,RW d.r8,yq,zq]at l;exact l
  have C:Op.aq 9 [.ptr b 0] H=B1 (.agg (gn y)):=by
   have l:=hb.eI (k:=0) (n:=9) (by rw[QG d.r8];decide);rw[yo,ze (by rw[QG d.r8];decide)]at l;exact l
  have s:=g.fE (k:=0) (n:=9) (v:=.agg (gn y)) (by rw[zk];exact QG d.r8) (by unfold ct;rw[Jn a];simp) (by rw[zk];exact BO _);have e2:(ct x (.ptr b 0)).take 0++gn y++(ct x (.ptr b 0)).drop (0+9)=ct ⟨y.1,y.2,B1 y⟩ (.ptr b 0):=by
   rw[yq,jr,ct,show 0+9=8+1 from rfl,Lb a,gn,yf];rfl
  rw[zk,e2]at s
  by_cases i:x.rs=y.1/\x.pc=y.2
  .have D:x.restore=x:=by rw[e,<-i.1,<-i.2,<-q]
   rw[D];simp only[aa,bc,TY,aw,mA h,q,BR,ZJ g a,r,u,YB a d.r8,qy i.1,A,B,qy i.2];exact⟨h.same,Fr.refl _⟩
  .rw [e];have fin:L5 H o f ⟨y.1,y.2,B1 y⟩ (H.set f (OR (ct ⟨y.1,y.2,B1 y⟩ (.ptr b 0)) HX)):=⟨h.row g (q▸m) d q.symm,cm ..⟩
   by_cases z:x.rs=y.1
   .have E:¬x.pc=y.2:=λ w=>i ⟨z,w⟩;simp only[aa,bc,TY,aw,mA h,q,BR,ZJ g a,r,u,YB a d.r8,qy z,A,B,E,C,s];exact fin
   .simp only[aa,bc,TY,aw,mA h,q,BR,ZJ g a,r,u,YB a d.r8,z,C,s];exact fin
end
end Go.Am
namespace Go.Am
open Lang Go.Proofs
variable{M:ak}[MK M]
def iC(x:Int):AV:=.int .i64 x
def dL(x:La):List AV:=x.gf.map iC++(iC x.lane::(x.jF.map iC ++ [.bool B4]))
structure LaW(x:La):Prop where
 b5:x.gf.length=5
 c5:x.jF.length=5
 l0:0<=x.lane
 l4:x.lane<=4
 b4:x.gf.getD 4 0≠0
structure mf(H:ar)(l:Nat)(x:La):Prop where
 w:LaW x
 at':At H l y9 (dL x)
section
variable{H H':ar}{l:Nat}{x:La}
def mf.fr{W:Nat->Prop}(h:mf H l x)(a:Fr W H H')(hw:¬W l):mf H' l x:=⟨h.w,h.at'.fr a hw⟩
def mf.em(h:mf H l x)(a:Fr Em H H'):mf H' l x:=h.fr a id
def O7(h:mf H l x){k:Nat}(hk:k<5):Op.ae [.ptr l k] H=B1 (iC (x.gf.getD k 0)):=by
 rw[h.at'.ld,dL,yp (by simp[h.w.b5];exact hk),xp,zr];have:k<x.gf.length:=by rw[h.w.b5];exact hk
 rw[xe this];rfl
def iH(h:mf H l x):Op.ae [.ptr l 5] H=B1 (.int .i64 x.lane):=by
 rw[h.at'.ld,dL,z7 (by simp[h.w.b5])];simp[h.w.b5,iC]
def OH(h:mf H l x){k:Nat}(hk:k<5):Op.ae [.ptr l (6+k)] H=B1 (iC (x.jF.getD k 0)):=by
 rw[h.at'.ld,dL,z7 (by simp[h.w.b5];omega),xt,h.w.b5,show 6+k-5=k+1 by omega,jo,yp (by simp[h.w.c5];exact hk),xp,zr];have:k<x.jF.length:=by rw[h.w.c5];exact hk
 rw[xe this];rfl
def QZ(h:mf H l x):Op.ae [.ptr l 11] H=B1 (.bool B4):=by
 rw[h.at'.ld,dL,z7 (by simp[h.w.b5])];simp[h.w.b5,h.w.c5]
def P4(h:mf H l x):Op.aq 5 [.ptr l 6] H=B1 (.agg (x.jF.map iC)):=by
 rw[h.at'.eI (by simp[dL,h.w.b5,h.w.c5]),dL,show 6=(x.gf.map iC).length+1 by simp[h.w.b5],Qj,List.drop_succ_cons,yo,yg (by simp[h.w.c5]),ze (by simp[h.w.c5])]
def JA(h:mf H l x){v:Int}(a:0<=v)(b:v<=4):Op.store 1 [.ptr l 5,.int .i64 v] H=B1 (.undef,H.set l (OR (dL {x with lane:=v}) y9))/\mf (H.set l (OR (dL {x with lane:=v}) y9)) l {x with lane:=v}:=by
 refine⟨?_,⟨h.w.b5,h.w.c5,a,b,h.w.b4⟩,h.at'.set _⟩;rw[h.at'.st 5 rfl (by simp[dL,h.w.b5]),dL,NJ _ _ (by simp[h.w.b5])];simp[h.w.b5,dL,iC]
def PH(h:mf H l x){k:Nat}(hk:k<5)(v:Int):Op.store 1 [.ptr l (6+k),.int .i64 v] H=B1 (.undef,H.set l (OR (dL {x with jF:=x.jF.set k v}) y9))/\mf (H.set l (OR (dL {x with jF:=x.jF.set k v}) y9)) l {x with jF:=x.jF.set k v}:=by
 refine⟨?_,⟨h.w.b5,by simp[h.w.c5],h.w.l0,h.w.l4,h.w.b4⟩,h.at'.set _⟩;rw[h.at'.st (6+k) rfl (by simp[dL,h.w.b5,h.w.c5];omega),dL,NJ _ _ (by simp[h.w.b5];omega),xt,h.w.b5,show 6+k-5=k+1 by omega,List.set_cons_succ,List.set_append_left _ _ (by simp[h.w.c5];exact hk)];simp[dL,iC,List.map_set]
def Jw(h:mf H l x):Op.store 5 [.ptr l 6,.agg (La.kN.map iC)] H=B1 (.undef,H.set l (OR (dL {x with jF:=La.kN}) y9))/\mf (H.set l (OR (dL {x with jF:=La.kN}) y9)) l {x with jF:=La.kN}:=by
 refine⟨?_,⟨h.w.b5,rfl,h.w.l0,h.w.l4,h.w.b4⟩,h.at'.set _⟩;rw[h.at'.fE (n:=5) rfl (by simp[dL,h.w.b5,h.w.c5]) rfl,dL,show 6=(x.gf.map iC).length+1 by simp[h.w.b5],List.take_length_add_append,zZ,Qj];simp[dL,h.w.c5,zk]
def gh(h:mf H l x):∀K,C3 M B4 (.func qjn) [.ptr l 0] H K=K B4 (.bool B2) H:=by
 refine dv (qr5 ?_);simp only[aa,bc,qr6,aw,QZ h]
def iN(h:mf H l x):∀K,C3 M B4 (.func qjm) [.ptr l 0] H K=K B4 (.int .i64 x.lane) H:=by
 refine dv (qr2 ?_);simp only[aa,bc,qr3,aw,gh h,iH h]
def sr(h:mf H l x):∀K,C3 M B4 (.func qjl) [.ptr l 0] H K=K B4 (.bool x.rB) H:=by
 refine dv (qr1 ?_);unfold La.rB
 by_cases q:x.lane=1
 .simp only[aa,bc,Z6,aw,gh h,iH h,q,Bool.true_or]
 .simp only[aa,bc,Z6,aw,gh h,iH h,q,Bool.false_or]
def z5:[AV.int .i64 0,.int .i64 0,.int .i64 0,.int .i64 0,.int .i64 0]=La.kN.map iC:=rfl
def Rh(l:List Int):aL (l.map iC)=true:=by rw[vc];simp[iC,aB]
def Gf(h:mf H l x):zb M Λ [.ptr l 0] H λ v H'=>v=.agg (x.jF.map iC)/\Fr Em H H':=by
 refine qpi ?_;obtain⟨H1,e1,b,-,-⟩:=cD H (OR (La.kN.map iC) NK);have a:At H1 H.au NK _:=e1▸At.new H _ _;have d:=h.em b;have s:=a.fE (k:=0) (n:=5) (v:=.agg (x.jF.map iC)) (by rw[zk,xt];exact h.w.c5) (by decide) (by rw[zk];exact Rh _);rw[zk,yq,jr,jh (by decide),zq]at s;have l2:=((a.set (x.jF.map iC)).eI (k:=0) (n:=5) (by simp[h.w.c5]))
 rw[yo,ze (by simp[h.w.c5])]at l2;simp only[aa,bc,qpj,aw,z5,<-e1,gh d,P4 d,s,l2];exact b.set (.inr (qm _)) _
def Wc(h:mf H l x):zb M qko [.ptr l 0] H λ v H'=>v=.int .i64 x.tries/\Fr Em H H':=by
 refine qtn ?_;simp only[aa,bc,YC];refine C3.q (Gf h) λ v H1⟨r,j⟩=>?_;subst r;simp only[aa,bc];have u:=h.w.c5;have ix:∀{i:Nat},i<5->Op.bE 5 1 B5 [.agg (x.jF.map iC),.int .i64 (i:Int)]=B1 (.int .i64 (x.jF.getD i 0)):=λ{i}g=>by
  have hl:i<x.jF.length:=by omega
  simp only[Op.bE,J5 rfl g,qr,Nat.mul_one,partAt,lC,xp,zr,xe hl];rfl
 refine da.intro (λ n E d=>∃i:Nat,E=[(8,.int .i64 (i:Int)),(7,.agg (x.jF.map iC)),(3,.int .i64 ((x.jF.take i).foldl (λ n k=>aj .i64 (n+k)) 0)),(2,.int .i64 0),(0,.ptr l 0)]/\n=5-i/\i<=5/\d=H1) ?_ ?_
 .exact ⟨_,_,⟨0,rfl,rfl,xz _,rfl⟩,by simp only[aa,bc];rfl⟩
 rintro n E d ⟨i,rfl,rfl,g,rfl⟩;rcases xy i 5 with b|m
 .have a:(i:Int)<5:=by omega
  have s:aj .i64 ((i:Int)+1)=((i+1:Nat):Int):=by rw[ji (by omega) (by omega)];omega
  simp only[aa,bc,YC,a,ix b,s];have hl:i<x.jF.length:=by omega
  refine⟨_,_,⟨i+1,rfl,rfl,by omega⟩,?_,by omega⟩;rw[kc,List.foldl_append,xe hl,zr,xe hl];simp only[aa,bc];rfl
 .have a:¬(i:Int)<5:=by omega
  have e:x.jF.take i=x.jF:=ze (by omega);simp only[aa,bc,YC,a,e];exact⟨rfl,j⟩
def Aa(gf:List Int)(k j:Nat):Bool:=gf.getD (k+1+j) 0 != 0
def px(gf:List Int)(k:Nat):List (List AV):=((MT (4-k)).filter (Aa gf k)).map λ j=>[.int .i64 ((k+1+j:Nat):Int)]
def xil{H0:ar}{p q l k:Nat}{gf:List Int}(hp:H0.get p=B1 (OR [.ptr l 0] RQ))(hq:H0.get q=B1 (OR [.int .i64 (k:Int)] cz))(Z:p<H0.au)(hql:q<H0.au)(hk:k<=3) :
 u6 M wv [] [.ptr q 0,.ptr p 0] (λ z=>z=p\/z=q) (λ _=>False) (λ _ H=>∃y,mf H l y/\y.gf=gf) H0 (px gf k):=by
 intro Y R S j H1 X L C D loc O hI step;have⟨p1,p2,p3⟩:=L p (.inl (.inl rfl));have⟨P,J,Q⟩:=L q (.inl (.inr rfl))
 suffices h:zb M wv [.fn (.yield Y) [] [],.ptr q 0,.ptr p 0] H1 (JO R S j (λ _=>False) H1 (px gf k).length)by
  have⟨v,H',U,W',P,J,Q⟩:=h.elim;exact⟨v,H',W',U,P,J,Q⟩
 refine qpm ?_;have lp:∀{d:ar},Fr j H1 d->Op.ae [.ptr p 0] d=B1 (.ptr l 0):=λ f=>by rw[x9 (xb (by rw[f.ah _ (by omega) p3,p2];exact hp))];rfl
 have lq:Op.ae [.ptr q 0] H1=B1 (.int .i64 (k:Int)):=by rw[x9 (xb (by rw[J];exact hq))];rfl
 have wk:aj .i64 ((k:Int)+1)=((k+1+0:Nat):Int):=by rw[ji (by omega) (by omega)];omega
 simp only[aa,bc,PQ,lq,wk];refine da.intro (λ n E d=>∃(i:Nat)(V:Nat->Prop),E=[(4,.int .i64 ((k+1+i:Nat):Int)),(0,.fn (.yield Y) [] []),(1,.ptr q 0),(2,.ptr p 0)]/\n=4-k-i/\i<=4-k/\MF R j H1 d ((MT i).filter (Aa gf k)).length V) ?_ ?_
 .exact ⟨_,_,⟨0,j,rfl,rfl,xz _,⟨C,λ b hb=>⟨D b hb,.inl hb⟩,Fr.refl _⟩⟩,by simp only[aa,bc]⟩
 rintro n E d ⟨i,V,rfl,rfl,hi,a⟩;rcases xy i (4-k)with I|W
 .have A:((k+1+i:Nat):Int)<5:=by omega
  obtain⟨y,hy,rfl⟩:=hI _ V d a.hR;have ix:Op.aR 5 1 [.ptr l 0,.int .i64 ((k+1+i:Nat):Int)]=B1 (.ptr l (k+1+i)):=by rw[RR rfl (by omega)];simp
  have ls:=O7 hy (k:=k+1+i) (by omega);have T:aj .i64 (((k+1+i:Nat):Int)+1)=((k+1+(i+1):Nat):Int):=by rw[ji (by omega) (by omega)];omega
  have N:=Pw (Aa y.gf k) i
  by_cases r:y.gf.getD (k+1+i) 0=0
  .have g:((MT (i+1)).filter (Aa y.gf k)).length=((MT i).filter (Aa y.gf k)).length:=by rw[N,show Aa y.gf k i=B2 from bne_eq_false_iff_eq.2 r];simp
   simp only[aa,bc,PQ,A,lp a.fr,aw,ix,ls,iC,qy r,T];exact⟨_,_,⟨i+1,V,rfl,rfl,by omega,by rw[g];exact a⟩,by simp only[aa,bc],by omega⟩
  .have g:((MT (i+1)).filter (Aa y.gf k)).length=((MT i).filter (Aa y.gf k)).length+1:=by rw[N,show Aa y.gf k i=B4 from bne_iff_ne.2 r];simp
   have hg:(px y.gf k)[((MT i).filter (Aa y.gf k)).length]? = B1 [.int .i64 ((k+1+i:Nat):Int)]:=by
    unfold px;rw[xp,Yc _ I (show Aa y.gf k i=B4 from bne_iff_ne.2 r)];rfl
   have⟨bb,K,B,hr,F,u,ht,hs⟩:=step _ _ hg V d a.hR a.hV (a.fr.mono λ _ _ q=>.inl q);have m:Fr j H1 K:=a.fr.trans F λ b q=>(a.hV b q).2;have s:∀b,B b->b<K.au/\(j b\/H1.au<=b):=λ b q=>⟨(u b q).1,(u b q).2.elim (λ w=>(a.hV b w).2) λ w=>.inr (xw a.fr.au w)⟩
   simp only[aa,bc,PQ,A,lp a.fr,aw,ix,ls,iC,r];refine C3.uo hr ?_;cases bb with
   |true =>
    simp only[aa,bc,PQ,T];exact⟨_,_,⟨i+1,B,rfl,rfl,by omega,⟨by rw[g];exact ht rfl,s,m⟩⟩,by simp only[aa,bc],by omega⟩
   |false =>
    simp only[aa,bc];exact⟨B,m.mono λ _ _ q=>.inl q,s,.inr (hs rfl)⟩
 .have A:¬((k+1+i:Nat):Int)<5:=by omega
  have G:i=4-k:=by omega
  simp only[aa,bc,PQ,A];refine⟨V,a.fr.mono λ _ _ q=>.inl q,a.hV,.inl ?_⟩;have e:(px gf k).length=((MT i).filter (Aa gf k)).length:=by unfold px;rw[xt,G]
  rw[e];exact a.hR
def y0{gf:List Int}(a:gf.getD 4 0≠0){k:Nat}(hk:k<=3):(px gf k)[0]? = B1 [.int .i64 (La.after gf (k:Int))]:=by
 unfold px La.after;rw[xp];have key:∀b:Int,(b != 0)=decide (b≠0):=λ b=>by by_cases q:b=0<;>simp[q]
 rcases(by omega:k=0\/k=1\/k=2\/k=3)with rfl|rfl|rfl|rfl
 all_goals
  simp only[show MT (4-0)=[0,1,2,3]from rfl,show MT (4-1)=[0,1,2]from rfl,show MT (4-2)=[0,1]from rfl,show MT (4-3)=[0]from rfl,List.filter,Aa,Nat.reduceAdd,key,jz a];generalize gf.getD 1 0=b1;generalize gf.getD 2 0=b2;generalize gf.getD 3 0=b3
  by_cases x:b1=0<;>by_cases y:b2=0<;>by_cases z:b3=0<;>simp[x,y,z]
def yJ(h:mf H l x){k:Nat}(hk:k<=3):zb M vz [.ptr l 0,.int .i64 (k:Int)] H λ _ H'=>mf H' l {x with lane:=La.after x.gf k}/\Fr (On l) H H':=by
 refine qr4 ?_;obtain⟨H1,e1,U,n1,-⟩:=cD H (OR [.ptr l 0] RQ);obtain⟨m,e2,C,-,-⟩:=cD H1 (OR [.ptr l 0] RQ);obtain⟨A,J,s,-,g3⟩:=cD m (OR [.int .i64 (k:Int)] cz);have r:=C.em s;have K:=U.em r;have n2:m.au=H.au+2:=by rw[e2,xx,n1]
 have n3:A.au=H.au+3:=by rw[J,xx,n2]
 have Y:A.get H.au=B1 (OR [.ptr l 0] RQ):=by rw[r.ah _ (by omega) id,e1,xm]
 have Z:A.get H1.au=B1 (OR [.ptr l 0] RQ):=by rw[s.ah _ (by omega) id,e2,xm]
 have l1:Op.ae [.ptr H.au 0] H1=B1 (.ptr l 0):=x9 (xb (e1▸xm H _)) 0;have ca:∀b,AV.cells (.ptr b 0)=[.ptr b 0]:=λ _=>rfl;have ci:∀n,AV.cells (.int .i64 n)=[.int .i64 n]:=λ _=>rfl;have op:zb M yc [.ptr l 0,.int .i64 (k:Int)] H1 λ v H'=>v=.fn (.func wv) [] [.ptr m.au 0,.ptr H1.au 0]/\H'=A:=by
  refine qr7 ?_;have mk:Op.bJ wv 0 [.ptr m.au 0,.ptr H1.au 0]=B1 (.fn (.func wv) [] [.ptr m.au 0,.ptr H1.au 0]):=rfl;simp only[aa,bc,qr8,ca,ci,<-e2,<-J];rfl
 simp only[aa,bc,_O,ca,<-e1,l1];refine C3.q op λ v H'⟨P,hh⟩=>?_;subst P;subst hh;simp only[aa,bc];have F:=h.em K;have hlt:=h.at'.2;refine iI.u5 (fn:=TJ) (lp:=O1) (pa:=UL 0) (pb:=VT 0) qqx _Y.1 _Y.2 (by decide) qpk qpl
  (xil (gf:=x.gf) Z g3 (by omega) (by omega) hk) (λ i V B=>i=0/\mf B l x/\V l) (λ e V B=>e=.ret/\mf B l {x with lane:=La.after x.gf k}/\V l) (On l) (qm _) ?_ ?_ ?_ ?_ ?_ ?_ ?_ ?_ ?_
 .rintro z ((q|q)|q)
  .exact ⟨by omega,rfl,λ(w:z=l)=>by omega⟩
  .exact ⟨by omega,rfl,λ(w:z=l)=>by omega⟩
  .exact q.elim
 .exact λ z(G:z=l)=>by omega
 .exact ⟨rfl,F,rfl⟩
 .exact λ i V S Hb⟨I,j,u⟩hs hn=>⟨I,⟨j.w,by rw[hs l u];exact j.at'.1,qn j.at'.2 hn⟩,u⟩
 .exact λ i V S Hb⟨I,j,u⟩hs hn=>⟨I,⟨j.w,by rw[hs l u];exact j.at'.1,qn j.at'.2 hn⟩,u⟩
 .exact λ i V B⟨_,q,_⟩=>⟨_,q,rfl⟩
 .intro a i lr lb y Q hL2 V g ⟨O,hP,hV⟩ hb hf6 hnL hL6 hgL;subst O;rw[y0 h.w.b4 hk]at Q;cases Q;refine⟨_,rfl,?_⟩;obtain⟨-,wa,wb⟩:=_O M ⟨B1 a,vz⟩;simp only[aa,bc,wa,Fc];refine⟨hgL,?_⟩;have L:Fr (On a) g (g.set a lb):=(Fr.refl g).set (W:=On a) (.inl rfl) _;have gL:(g.set a lb).get a=B1 lb:=xc ..;have nL:(g.set a lb).au=g.au:=rfl;have R:a≠l:=λ q=>hnL (by rw[q];exact hV);have h7:mf (g.set a lb) l x:=hP.fr L (λ q:l=a=>R q.symm);have lq:Op.ae [.ptr H.au 0] (g.set a lb)=B1 (.ptr l 0):=by
   rw[x9 (xb (by rw[ki (by omega),hf6.ah H.au (by omega) (λ q=>q.elim (λ q:H.au=l=>by omega) id)];exact Y))];rfl
  generalize g.set a lb=H7 at *;obtain⟨a0,T⟩:0<=La.after x.gf (k:Int)/\La.after x.gf (k:Int)<=4:=by unfold La.after;repeat' split<;>omega
  have⟨s8,h8⟩:=JA h7 a0 T;simp only[aa,bc,wb,lq,aw,s8];have X:Fr (On l) H7 (H7.set l (OR (dL {x with lane:=La.after x.gf k}) y9)):=cm ..;refine⟨rfl,by rw[ki (λ q=>R q.symm)];exact gL,V,λ z G=>⟨by have:=(hb z G).1;rw[tV,nL];exact this,.inl G⟩,(L.mono λ z _ q=>.inr q).trans X λ z(q:z=l)=>.inl (.inl (by rw[q];exact hV)),.inr ⟨trivial,rfl,h8,hV⟩⟩
 .rintro d V H' hd E hg N hV ⟨O,-⟩;exfalso;have:=(qt.1 (y0 h.w.b4 hk)).1;omega
 .rintro e d V H' he hd E hg N hV ⟨rfl,hl,P⟩;have D:d≠l:=λ q=>by omega
  have fd:Fr (On d) H' (H'.set d (.deferred B5)):=(Fr.refl H').set (W:=On d) (.inl rfl) _;simp only[aa,bc];refine⟨hg,hl.fr fd (λ q:l=d=>D q.symm),?_⟩;exact((K.mono (W':=On l) λ _ _ q=>q.elim).trans (N.mono λ z _ q=>q.elim id NP) λ z q=>.inl q).trans fd λ z(q:z=d)=>.inr (by omega)
def PC(H:ar)(l:Nat)(y:La)(H':ar):Prop:=mf H' l y/\Fr (On l) H H'
def LP(h:mf H l x):zb M qio [.ptr l 0] H λ _ H'=>PC H l x.leave H':=by
 refine qqw ?_;unfold La.leave
 by_cases q:x.lane=0
 .rw [xg q];simp only[aa,bc,G',aw,gh h,iH h,qy q];exact⟨h,Fr.refl _⟩
 .rw [qv q];have⟨s1,b⟩:=JA h (v:=0) (by decide) (by decide);have⟨s2,d⟩:=Jw b;have a:Op.build [.int .i64 0,.int .i64 0,.int .i64 0,.int .i64 0,.int .i64 0] [] []=B1 (.agg (La.kN.map iC)):=rfl;simp only[aa,bc,G',aw,gh h,iH h,q,a,s1,s2];exact⟨d,(cm ..).trans (cm ..) λ z q=>.inl q⟩
def LV(h:mf H l x):zb M qin [.ptr l 0] H λ _ H'=>PC H l x.enter H':=by
 refine qqv ?_;unfold La.enter
 by_cases q:x.lane=0
 .rw [xg q];have⟨s2,e⟩:=Jw h;have b:Op.build [.int .i64 0,.int .i64 0,.int .i64 0,.int .i64 0,.int .i64 0] [] []=B1 (.agg (La.kN.map iC)):=rfl;simp only[aa,bc,_K,aw,gh h,iH h,qy q,b,s2];refine C3.q (yJ e (k:=0) (by decide)) λ v g⟨a,d⟩=>?_;simp only[aa,bc,aw,iH a];exact⟨a,(cm ..).trans d λ z q=>.inl q⟩
 .rw [qv q];simp only[aa,bc,_K,aw,gh h,iH h,q];exact⟨h,Fr.refl _⟩
def LI(h:mf H l x)(c:Int):zb M qim [.ptr l 0,.int .i64 c] H λ _ H'=>PC H l (x.abort c) H':=by
 refine qqu ?_;unfold La.abort;have U:=h.w.l0;have V:=h.w.l4
 by_cases g:x.lane=0
 .rw [xg (.inl g)];simp only[aa,bc,ju,aw,gh h,iH h,qy g];exact⟨h,Fr.refl _⟩
 by_cases i:x.lane=4
 .rw [xg (.inr (.inl i))];simp only[aa,bc,ju,aw,gh h,iH h,g,qy i];exact⟨h,Fr.refl _⟩
 by_cases n:c<1
 .rw [xg (.inr (.inr (.inl n)))];simp only[aa,bc,ju,aw,gh h,iH h,g,i,n];exact⟨h,Fr.refl _⟩
 by_cases s:8<c
 .rw [xg (.inr (.inr (.inr (.inl s))))];simp only[aa,bc,ju,aw,gh h,iH h,g,i,n,s];exact⟨h,Fr.refl _⟩
 by_cases A:c=7
 .rw [xg (.inr (.inr (.inr (.inr A))))];simp only[aa,bc,ju,aw,gh h,iH h,g,i,n,s,qy A];exact⟨h,Fr.refl _⟩
 rw[qv (by omega)];have⟨k,hk⟩:=jm U;have E:k<=3:=by omega
 have ix:∀o,Op.aR 5 1 [.ptr l o,.int .i64 x.lane]=B1 (.ptr l (o+k)):=λ o=>by rw[hk,RR rfl (by omega)];simp
 have lc:=OH h (k:=k) (by omega);have⟨s1,d⟩:=PH h (k:=k) (by omega) (aj .i64 (x.jF.getD k 0+1));have N:x.lane.toNat=k:=by omega
 have T:x.count=x.jF.getD k 0:=by unfold La.count;rw[N]
 obtain⟨y,F⟩:∃y:La,y = {x with jF:=x.jF.set k (aj .i64 (x.jF.getD k 0+1))}:=⟨_,rfl⟩
 rw[<-F]at d s1;rw[T,N];simp only[<-F];have Q:y.lane=x.lane:=by rw[F]
 have I:y.gf=x.gf:=by rw[F]
 have P:y.jF=x.jF.set k (aj .i64 (x.jF.getD k 0+1)):=by rw[F]
 have J:y.rB=x.rB:=by unfold La.rB;rw[Q]
 have S:Fr (On l) H (H.set l (OR (dL y) y9)):=cm ..
 by_cases C:x.rB=B4/\c=3
 .rw [xg C];simp only[aa,bc,ju,aw,gh h,iH h,g,i,n,s,A,ix,lc,iC,s1,sr d,J,qy C.2,C.1];refine C3.q (yJ d (k:=2) (by decide)) λ v B⟨e,D⟩=>?_;simp only[aa,bc,ju,aw,iH e];rw[I,P]at e;exact⟨e,S.trans D λ z q=>.inl q⟩
 rw[qv C];have K:=(iH d).trans (by rw[Q]);have m:=OH d (k:=k) (by omega);have j:=O7 d (k:=k) (by omega);have R:y.count=y.jF.getD k 0:=by unfold La.count;rw[Q,N]
 have O:=ix 0;rw[yu]at O;have cont:C3 M B4 (.func vz) [.ptr l 0,.int .i64 x.lane] (H.set l (OR (dL y) y9))=C3 M B4 (.func vz) [.ptr l 0,.int .i64 (k:Int)] (H.set l (OR (dL y) y9)):=by rw[hk]
 have fin:∀{z:La}{B:ar},mf B l z->Fr (On l) (H.set l (OR (dL y) y9)) B->PC H l z B:=λ a b=>⟨a,S.trans b λ z q=>.inl q⟩
 by_cases L:y.count=x.gf.getD k 0
 .rw [xg L];have G:y.jF.getD k 0=y.gf.getD k 0:=by rw[<-R,L,I]
  by_cases r:x.rB=B4
  .have u:¬c=3:=λ w=>C ⟨r,w⟩;simp only[aa,bc,ju,aw,gh h,iH h,g,i,n,s,A,ix,lc,iC,s1,sr d,J,r,u,K,m,j,qy G,cont];refine C3.q (yJ d (k:=k) E) λ v B⟨e,D⟩=>?_;simp only[aa,bc,ju,aw,iH e];rw[I,<-hk,P]at e;exact fin e D
  .rw [Bool.not_eq_true]at r;simp only[aa,bc,ju,aw,gh h,iH h,g,i,n,s,A,ix,lc,iC,s1,sr d,J,r,K,m,j,qy G,cont];refine C3.q (yJ d (k:=k) E) λ v B⟨e,D⟩=>?_;simp only[aa,bc,ju,aw,iH e];rw[I,<-hk,P]at e;exact fin e D
 .rw [qv L];have G:¬y.jF.getD k 0=y.gf.getD k 0:=λ w=>L (by rw[R,w,I])
  by_cases r:x.rB=B4
  .have u:¬c=3:=λ w=>C ⟨r,w⟩;simp only[aa,bc,ju,aw,gh h,iH h,g,i,n,s,A,ix,lc,iC,s1,sr d,J,r,u,K,m,j,G];exact fin d (Fr.refl _)
  .rw [Bool.not_eq_true]at r;simp only[aa,bc,ju,aw,gh h,iH h,g,i,n,s,A,ix,lc,iC,s1,sr d,J,r,K,m,j,G];exact fin d (Fr.refl _)
end
end Go.Am
