import Derived.Test.YtlepagkkolnmoaaGreatDoorAmVZi
import Derived.Test.YtlepagkkolnmoaaGreatDoorAmVZg
import Derived.Test.YtlepagkkolnmoaaGreatDoorAmVZf
set_option linter.defProp false
set_option linter.unusedVariables false
set_option linter.unusedSimpArgs false
set_option linter.unusedSectionVars false
set_option maxRecDepth 100000
open Bool renaming false→B2,true→B4
open False renaming elim→NT
open Go renaming IntKind→PD
open Int renaming reduceEq→Sp
open List renaming range→N7,replicate→Jv
open Nat renaming beq→J8
open Option renaming isSome→BL,none→B5,some→B1
open Nat renaming reduceEqDiff→bc
namespace Go.Am
open Go.Proofs Ca
open Lang (ints)
variable{M:ao}[MK M]
def pP(l s w:Int)(k:Nat):List No:=(N7 k).map λ(i:Nat)=>pM (i:Int) l s w
def gA(l c s w:Int):Bu:=⟨Jv l.toNat .zero,Jv l.toNat jI,pP l s w c.toNat,[]⟩
def sW(l c s w:Int):Prop:=zL l c/\sG s w
instance(l c s w:Int):Decidable (sW l c s w):=inferInstanceAs (Decidable (_/\_))
def gX{l s w:Int}{k i:Nat}{n:No}(h:(pP l s w k)[i]? = B1 n):i<k/\n=pM (i:Int) l s w:=by
 unfold pP at h;rw[xj,xk]at h;have⟨j,a,e⟩:=h;have hk:=(qo.1 a).1;rw[jd]at hk;rw[js hk]at a;cases a;exact⟨hk,e.symm⟩
def Sv(l s w:Int)(k:Nat):(pP l s w k).length=k:=by unfold pP;rw[xu,jd]
structure Lq(H0 H:ar)(B D mp:Nat)(lv ev nv:AV)(l c s w:Int)(ad:List Na)(own:Nat->Nat):Prop where
 row:H.get B=B1 (OR [.ptr D 0,nv,.nils,.int .i64 l] Ky)
 lt:B<H.au
 d:mJ H D mp lv ev c (Jv l.toNat .zero) (Jv l.toNat (jI,.nils))
 X7:aL pC Kj 1 H nv (ad.map Na.r)
 no:∀(k:Nat)(A:Na),ad[k]? = B1 A->dc H0 H A.r A.b A.sv A.bv (pM (k:Int) l s w) A.ks
 oB:own B=0
 oD:∀z,mI D mp lv ev (Jv l.toNat (jI,.nils)) z->own z=1
 oN:∀z,aM nv z->own z=2
 oC:∀(k:Nat)(A:Na),ad[k]? = B1 A -> ∀z,A.w z->own z=4+k
 Re:H0.au<=B
 loD:∀z,mI D mp lv ev (Jv l.toNat (jI,.nils)) z->H0.au<=z
 OI:∀z,aM nv z->H0.au<=z
 fr:Fr Em H0 H
def dc.base{H0 H1 H:ar}{r b:Nat}{sv bv:AV}{n:No}{ks:List Nat}(h:dc H1 H r b sv bv n ks)(f:Fr Em H0 H1):dc H0 H r b sv bv n ks:=by
 have hn:=f.au;refine⟨h.row,h.lt,h.ca,⟨?_,f.trans h.bk.fr λ _ q=>.inl q⟩,h.eq,zd hn h.lr,zd hn h.lb,zd hn h.ls,h.n1,h.n2,h.o1,h.o2,h.o3,h.li,h.len⟩;rcases h.bk.own with q|⟨b,m,rest,a,d,e,g⟩
 .exact .inl q
 .exact .inr ⟨b,m,rest,a,d,zd hn e,g⟩
def dc.all{H0 H:ar}{r b:Nat}{sv bv:AV}{n:No}{ks:List Nat}(h:dc H0 H r b sv bv n ks){z:Nat}(a:iK r b sv bv z):H0.au<=z:=by
 rcases a with rfl|(rfl|rfl)|a
 .exact h.lr
 .exact h.lb
 .exact h.ls
 .exact (h.bk.fresh z a).1
section
variable{H0 H:ar}{B D mp:Nat}{lv ev nv:AV}{l c s w:Int}{ad:List Na}{own:Nat->Nat}
def Lq.step(h:Lq H0 H B D mp lv ev nv l c s w ad own)(R:ad.length<=4){H1:ar}{A:Na}(G:dc H H1 A.r A.b A.sv A.bv (pM (ad.length:Int) l s w) A.ks){K:bF->(Nat->AV)->Bool->AV->ar->Prop}
 (hk:∀v j,(∃I,Op.store 1 [.ptr B 1,v] j=B1 (.undef,I)/\(∃F,Lq H0 I B D mp lv ev v l c s w (ad ++ [A]) F)/\Fr (λ z=>z=B\/aM nv z) H I /\ ∀z,aM v z->aM nv z\/H.au<=z)->K (.row [.ptr A.r 0] Kj (0,0) B4) (Op.sliceTo 1 1) B4 v j) :
 jN B4 (Op.buildSlice Kj 1 [.nilp] [(0,1)] [.ptr A.r 0]) λ g o mk=>jN g (Op.append Kj 1 8 [nv,mk H1.au] (H1.alloc o)) (K o mk):=by
 have m:Fr Em H H1:=G.bk.fr;have S:=m.au;refine nY (e:=Kj) (size:=1) (bytes:=8) (Own.em h.X7 m) (x:=.ptr A.r 0) rfl rfl rfl (by decide) (by rw[xu];omega) (by rw[xu];omega) λ v j N E L=>?_;refine hk v j ?_;have low:∀z,(z=B\/mI D mp lv ev (Jv l.toNat (jI,.nils)) z\/aM nv z \/ ∃k i,ad[k]? = B1 i/\Na.w i z)->z<H.au:=λ z f=>by
  rcases f with rfl|f|f|⟨k,i,a,f⟩
  .exact h.lt
  .exact h.d.low f
  .exact Own.lt h.X7 z f
  .exact (h.no k i a).low f
 have ne:∀{z k:Nat},own z=k->k≠2 -> ¬aM nv z:=λ e1 e2 q=>e2 (by rw[<-e1];exact h.oN _ q);have Q:j.get B=B1 (OR [.ptr D 0,nv,.nils,.int .i64 l] Ky):=by
  rw[E.ai _ (by have:=h.lt;omega) (ne h.oB (by decide)),m.ai _ h.lt id];exact h.row
 have o1:aA v=true:=by have:=Sl.one (Own.sl N);exact this
 have J:v.cells=[v]:=by cases v<;>first|rfl|cases o1
 have st:=wF Q (o:=1) (n:=1) (v:=v) (by rw[J];rfl) (by simp) (by rw[J,vk];simpa using o1);rw[J]at st;have T:=E.au;have C:Fr (On B) j (j.set B (OR ([AV.ptr D 0,nv,.nils,.int .i64 l].take 1 ++ [v] ++ [AV.ptr D 0,nv,.nils,.int .i64 l].drop (1+1)) Ky)):=(Fr.refl j).set (W:=On B) (.inl rfl) _;have P:H0.au<=H.au:=h.fr.au;have O:∀{z k:Nat},own z=k->k≠0 -> ¬z=B:=λ e1 e2 q=>e2 (by rw[<-e1,q];exact h.oB);have t:∀z,aM v z->(aM nv z/\z<H.au)\/H1.au<=z:=λ z f=>(L z f).elim (λ q=>.inl ⟨q,low z (.inr (.inr (.inl q)))⟩) .inr;have u:Fr (aM nv) H j:=(m.mono λ _ _ q=>q.elim).trans E λ z q=>.inl q;have p:∀z,A.w z->H.au<=z/\z<H1.au:=λ z f=>⟨G.all f,G.low f⟩
 refine⟨_,st,⟨(λ z=>if z<H.au then own z else if z<H1.au then 4+ad.length else 2),xg ..,?_,?_,?_,λ k i a=>?_,?_,λ z f=>?_,λ z f=>?_,λ k i a z f=>?_,h.Re,h.loD,λ z f=>?_,?_⟩,(u.mono λ z _ q=>.inr q).trans C λ z(q:z=B)=>.inl (.inl q),λ z f=>(t z f).elim (λ q=>.inl q.1) λ q=>.inr (by omega)⟩
 .have:=h.lt;show B<j.au;omega
 .exact (h.d.fr u λ z q w=>ne (h.oD z w) (by decide) q).fr C λ z q w=>O (h.oD z w) (by decide) q
 .have ow:aL pC Kj 1 j v ((ad ++ [A]).map Na.r):=by
   rw[I9];unfold aL;rw[xc,kq];exact N
  refine Own.fr ow C λ z f(q:z=B)=>?_;rcases t z f with⟨w,-⟩|w
  .exact O (h.oN z w) (by decide) q
  .have:=h.lt;omega
 .by_cases e:k<ad.length
  .rw [jw e]at a;refine((h.no k i a).off u λ z w=>⟨h.OI z w,λ w2=>?_⟩).off C λ z w=>?_
   .have:=h.oC k i a z w2;have:=h.oN z w;omega
   .have w:z=B:=w;refine⟨by rw[w];exact h.Re,λ w2=>?_⟩;have:=h.oC k i a z w2;rw[w,h.oB]at this;omega
  .have hk:=(qo.1 a).1;rw[xc]at hk;have y:k=ad.length:=by simp only[zr,yw]at hk;omega
   subst y;rw[zw (qm _),Nat.sub_self]at a;cases a;refine((G.base h.fr).off E λ z w=>⟨h.OI z w,λ w2=>?_⟩).off C λ z w=>?_
   .have:=p z w2;have:=low z (.inr (.inr (.inl w)));omega
   .have w:z=B:=w;refine⟨by rw[w];exact h.Re,λ w2=>?_⟩;have:=p z w2;have:=h.lt;omega
 .rw [xb h.lt];exact h.oB
 .rw [xb (low z (.inr (.inl f)))];exact h.oD z f
 .rcases t z f with⟨w,w2⟩|w
  .rw [xb w2];exact h.oN z w
  .rw [qv (by omega),qv (by omega)]
 .by_cases e:k<ad.length
  .rw [jw e]at a;rw[xb (low z (.inr (.inr (.inr ⟨k,i,a,f⟩))))];exact h.oC k i a z f
  .have hk:=(qo.1 a).1;rw[xc]at hk;have y:k=ad.length:=by simp only[zr,yw]at hk;omega
   subst y;rw[zw (qm _),Nat.sub_self]at a;cases a;have:=p z f;rw[qv (by omega),xb this.2]
 .rcases t z f with⟨w,-⟩|w
  .exact h.OI z w
  .omega
 .exact ((h.fr.trans m λ _ q=>.inl q).trans E λ z q=>.inr (h.OI z q)).trans C λ z(q:z=B)=>.inr (by rw[q];exact h.Re)
def Lq.done(h:Lq H0 H B D mp lv ev nv l c s w ad own)(hl:ad.length=c.toNat)(f:0<=c)(e:0<=l):fD H0 H B ⟨D,mp,lv,ev,Jv l.toNat (jI,.nils),nv,.nils,ad⟩ (gA l c s w) own:=by
 have hlen:((gA l c s w).ns.length:Int)=c:=by show((pP l s w c.toNat).length:Int)=c;rw[Sv];omega
 refine⟨?_,h.lt,?_,?_,h.X7,λ k n A hn b=>?_,?_,Sk.nil _,h.oB,h.oD,h.oN,λ z q=>absurd rfl q.1,h.oC,λ z a=>?_⟩
 .rw [h.row];have:((gA l c s w).l.length:Int)=l:=by show((Jv l.toNat jI).length:Int)=l;rw[jc];omega
  rw[this]
 .rw [hlen];exact h.d
 .show (Jv l.toNat (jI,AV.nils)).map Prod.fst=Jv l.toNat jI;rw[List.map_replicate]
 .obtain ⟨-,rfl⟩:=gX hn;exact h.no k A b
 .show ad.length=(pP l s w c.toNat).length;rw[Sv,hl]
 .rcases a with rfl|a|a|a|⟨k,A,b,a⟩
  .exact h.Re
  .exact h.loD z a
  .exact h.OI z a
  .exact absurd rfl a.1
  .exact (h.no k A b).all a
end
end Go.Am
namespace Go.Am
open Ca
def G1{N l:Int}(b:0<=N)(a:N<=4):XI jI N l:=⟨⟨a,⟨by decide,by show(-1:Int)<N;omega⟩,by decide,by decide,λ c _ _ q=>(by have q:hb 0 c=1:=q;rw[I']at q;cases q),λ m hm=>(nomatch hm)⟩,λ q=>absurd rfl q⟩
def ad2{l c s w:Int}{m:List L8}{V:Int->L8}(h:sW l c s w)(hm:m.length=l.toNat):BuI {gA l c s w with m:=m} V:=by
 obtain⟨⟨⟨l0,l1⟩,e,f⟩,hs⟩:=h;have a:(gA l c s w).ns.length=c.toNat:=Sv ..;have b:((gA l c s w).l.length:Int)=l:=by show((Jv l.toNat jI).length:Int)=l;rw[jc];omega
 refine⟨by show(gA l c s w).ns.length<=4;rw[a];omega,by show m.length=(Jv l.toNat jI).length;rw[hm,jc],λ k n hn=>?_,λ m hm=>(nomatch hm),λ i x d=>?_⟩
 .obtain ⟨hk,rfl⟩:=gX hn;exact⟨ae9 (cores:=c) ⟨hs,by omega,by omega,by omega,l0,l1⟩,rfl,b.symm⟩
 .rw [ww (show x∈Jv l.toNat jI from zh d)];exact G1 (by omega) (by show((gA l c s w).ns.length:Int)<=4;rw[a];omega)
structure Bt where
 k:Int
 c:Int
 n:Int
 v:Int
 o:Int
def No.call(n:No)(x:Bt):No×List Mg :=
 if x.k=0 then((n.load x.n).1,(n.load x.n).2.2.2.1)
 else if x.k=1 then((n.store x.n x.v).1,(n.store x.n x.v).2.2.1)
 else if x.k=2 then n.nD x.n x.o x.v
 else if x.k=3 then(n.begin,[])
 else if x.k=4 then(n.bt,[])
 else if x.k=5 then((n.abort x.n).1,[])
 else if x.k=6 then n.da x.n
 else(n,[])
def Bu.step(b:Bu)(x:Bt):Bu :=
 if x.k=7 then if 0<=x.n/\x.n<b.fl.length then b.uf x.n.toNat else b
 else if 0<=x.c then match b.ns[x.c.toNat]? with
  |none=>b
  |some n=>b.put x.c.toNat (n.call x)
 else b
def PI{b:Bu}{V:Int->L8}(h:BuI b V)(i:Nat):BuI (b.uf i) V:=by
 unfold Bu.uf;cases hm:b.fl[i]? with
 |none=>exact h
 |some m =>
  have he:∀o∈b.fl.eraseIdx i,o∈b.fl:=λ o q=>List.mem_of_mem_eraseIdx q;obtain⟨mk,e,ml⟩:=h.mw m (zh hm);simp only
  by_cases g:m.k<=7
  .rw [xb g];obtain⟨x,w,f,hw,u⟩:=h.entry ml.1 ml.2;rw[f,hw];obtain⟨a,o⟩:=HX (w:=w) u e rfl;have hl:=(qo.1 f).1;refine⟨h.N4,by simp only[xq];exact h.ml,λ c n hn=>by simp only[xq];exact h.nw c n hn,λ y d=>?_,λ j y d=>?_⟩
   .simp only[xq];rcases zt.1 d with q|q
    .exact h.mw y (he y q)
    .obtain ⟨p,r,t⟩:=o y q;exact⟨.inr p,r,by rw[t];exact ml⟩
   .have d:(b.l.set m.line.toNat (x.bS w m).1)[j]? = B1 y:=d
    by_cases q:j=m.line.toNat
    .subst q;rw[xx hl]at d;injection d with d;subst d
     rw[KC ml.1];exact a
    .rw [xy (mM q)]at d;exact h.xs j y d
  .rw [qv g];obtain⟨n,hn,w⟩:=h.core e.1 e.2;rw[hn];exact h.node hn (w.ni.bS m) (No.HW w.ni m) he
def Cz{b:Bu}{V:Int->L8}(h:BuI b V)(x:Bt):BuI (b.step x) V:=by
 unfold Bu.step;split
 .split
  .exact PI h _
  .exact h
 split
 .cases hn:b.ns[x.c.toNat]? with
  |none=>exact h
  |some n =>
   have w:=(h.nw _ n hn).ni;simp only;unfold No.call;split;· exact h.call hn (w.load _) (No.I4 _)
   split;· exact h.call hn (w.store _ _) (No.Ds _ _)
   split;· exact h.call hn (w.nD _ _ _) (No.M0 _ _ _)
   split;· exact h.call hn (show n.begin.NI by unfold No.begin;split;exact w;exact⟨w.ci,λ q=>by cases q⟩) No.Ey
   split;· exact h.call hn (show n.bt.NI by unfold No.bt;split;exact⟨w.ci.bt,λ _=>w.ci.GM⟩;exact w) No.Aq
   split;· exact h.call hn (show(n.abort x.n).1.NI by unfold No.abort;(repeat' split)<;>first|exact w|exact w.iT _) (No.BA _)
   split;· exact h.call hn (w.da _) (No.G5 w _)
   rw[Ls hn];exact h
 .exact h
structure BC(b:Bu)(k:Nat):Prop where
 fl:b.fl.length<=5*k
 no:∀(c:Nat)n,b.ns[c]? = B1 n->n.aN.length<=k/\n.c.us<=2*(k:Int)
 wt:∀x∈b.l,x.wt.length<=k
def BC.mono{b:Bu}{k k':Nat}(h:BC b k)(hk:k<=k'):BC b k':=⟨zd h.fl (by omega),λ c n hn=>by have:=h.no c n hn;omega,λ x a=>zd (h.wt x a) hk⟩
def BC.bb{b:Bu}{V:Int->L8}{k:Nat}(h:BC b k)(hI:BuI b V)(hk:k<=100000):BB b:=⟨hI.N4,by have:=h.fl;omega,λ c n hn=>by have:=h.no c n hn;exact⟨(hI.nw c n hn).ni,by omega,by omega⟩⟩
def Fh{l c s w:Int}:BC (gA l c s w) 0:=by
 refine⟨qm _,λ k n hn=>?_,λ x a=>?_⟩
 .obtain ⟨-,rfl⟩:=gX hn;exact⟨qm _,uj _⟩
 .rw [ww (show x∈Jv l.toNat jI from a)];exact qm _
def RS{b:Bu}{k c:Nat}{n n':No}{o:List Mg}(h:BC b k)(hn:b.ns[c]? = B1 n)(hb:Bd n n')(ho:o.length<=5):BC (b.put c (n',o)) (k+1):=by
 have hl:=(qo.1 hn).1;refine⟨?_,λ d y a=>?_,λ x e=>Nat.le_succ_of_le (h.wt x e)⟩
 .show (b.fl++o).length<=_;rw[xc];have:=h.fl;omega
 .have a:(b.ns.set c n')[d]? = B1 y:=a
  by_cases q:d=c
  .rw [q,xx hl]at a;cases a;have⟨f,g⟩:=hb;have:=h.no c n hn;omega
  .rw [xy (mM q)]at a;have:=h.no d y a;omega
def xgz(x:De)(w:L8):(x.dX w).1.wt=x.wt:=by
 unfold De.dX
 repeat' split
 all_goals rfl
def xgh(x:De)(n:Mg)(w:L8):(x.begin n w).1.wt=x.wt:=by
 unfold De.begin;split
 .rfl
 .split
  .exact xgz _ w
  .rfl
def UA(x:De)(w:L8)(q:Prop)[Decidable q](r:List Mg):(x.vL w q r).1.wt=x.wt:=by
 unfold De.vL;split
 .exact xgz x w
 .rfl
def Hq(x:De)(w:L8)(m:Mg):(x.bS w m).1.wt.length<=x.wt.length+1:=by
 unfold De.bS;split;· exact ke _
 split
 .split
  .simp
  .rw [xgh];exact ke _
 split;· rw[UA];show x.wt.length<=_;omega
 split;· rw[UA];show x.wt.length<=_;omega
 split;· rw[UA];show x.wt.length<=_;omega
 split;· rw[UA];show x.wt.length<=_;omega
 cases h:x.wt with
 |nil=>simp[h]
 |cons n r=>simp only;rw[xgh];simp only[zr];omega
def M6(n:No)(x:Bt):Bd n (n.call x).1/\(n.call x).2.length<=5:=by
 unfold No.call;split;· exact⟨HB n _,zd (xg3 n _) (by decide)⟩
 split;· exact⟨Cq n _ _,zd (_w n _ _) (by decide)⟩
 split;· exact⟨MA n _ _ _,zd (kn n _ _ _) (by decide)⟩
 split
 .refine ⟨?_,x9 _⟩;show Bd n n.begin;unfold No.begin;split<;>exact⟨by show n.aN.length<=_;omega,by show n.c.us<=_;omega⟩
 split
 .refine ⟨?_,x9 _⟩;show Bd n n.bt;unfold No.bt;split<;>exact⟨by show n.aN.length<=_;omega,by show n.c.us<=_;omega⟩
 split
 .refine ⟨?_,x9 _⟩;show Bd n (n.abort _).1;unfold No.abort;repeat' split
  all_goals exact⟨by show n.aN.length<=_;omega,by show n.c.us<=_;omega⟩
 split;· exact⟨Ht n _,zd (xb6 n _) (by decide)⟩
 exact⟨Bd.refl n,x9 _⟩
def Sb{b:Bu}{k:Nat}(h:BC b k)(i:Nat):BC (b.uf i) (k+1):=by
 unfold Bu.uf;cases hm:b.fl[i]? with
 |none=>exact h.mono (ke k)
 |some m =>
  have g:=h.fl;have he:(b.fl.eraseIdx i).length<=b.fl.length:=List.length_eraseIdx_le ..;simp only
  by_cases f:m.k<=7
  .rw [xb f];cases e:b.l[m.line.toNat]? with
   |none=>exact h.mono (ke k)
   |some x =>
    cases hw:b.m[m.line.toNat]? with
    |none=>exact h.mono (ke k)
    |some w =>
     refine⟨?_,λ c n hn=>by have:=h.no c n hn;omega,λ y a=>?_⟩
     .show (b.fl.eraseIdx i++(x.bS w m).2.2).length<=_;rw[xc];have:=j3 x w m;omega
     .have a:y∈b.l.set m.line.toNat (x.bS w m).1:=a;rcases List.mem_or_eq_of_mem_set a with q|rfl
      .exact Nat.le_succ_of_le (h.wt y q)
      .have:=Hq x w m;have:=h.wt x (zh e);omega
  .rw [qv f];cases hn:b.ns[m.core.toNat]? with
   |none=>exact h.mono (ke k)
   |some n =>
    have hl:=(qo.1 hn).1;refine⟨?_,λ d y a=>?_,λ x e=>Nat.le_succ_of_le (h.wt x e)⟩
    .show (b.fl.eraseIdx i++(n.bS m).2).length<=_;rw[xc];have:=g' n m;omega
    .have a:(b.ns.set m.core.toNat (n.bS m).1)[d]? = B1 y:=a
     by_cases q:d=m.core.toNat
     .rw [q,xx hl]at a;cases a;have⟨j,o⟩:=HZ n m;have:=h.no _ n hn;omega
     .rw [xy (mM q)]at a;have:=h.no d y a;omega
def BK{b:Bu}{k:Nat}(h:BC b k)(x:Bt):BC (b.step x) (k+1):=by
 unfold Bu.step;split
 .split
  .exact Sb h _
  .exact h.mono (ke k)
 split
 .cases hn:b.ns[x.c.toNat]? with
  |none=>exact h.mono (ke k)
  |some n=>have⟨a,d⟩:=M6 n x;exact RS h hn a d
 .exact h.mono (ke k)
end Go.Am
namespace Go.Am
open Lang
structure Pr where
 a:Int
 v:Int
def dk(l:List Pr)(a:Int):Option Int:=match l with
 |[]=>B5
 |x::r=>if x.a=a then B1 x.v else dk r a
def fN(l:List Pr)(a v:Int):List Pr:=match l with
 |[]=>[⟨a,v⟩]
 |x::r=>if x.a=a then⟨a,v⟩::r else x::fN r a v
structure Fi where
 rs:List Int
 pc:Int
 pt:Option (List Int×Int)
namespace Fi
def set(f:Fi)(i v:Int):Fi:=if 0<=i/\i<8 then{f with rs:=f.rs.set i.toNat v}else f
def jump(f:Fi)(pc:Int):Fi:=if pc<0 then f else{f with pc:=pc}
def save(f:Fi):Fi:={f with pt:=B1 (f.rs,f.pc)}
def restore(f:Fi):Fi:=match f.pt with
 |some (r,p)=>{f with rs:=r,pc:=p}
 |none=>f
def drop(f:Fi):Fi:={f with pt:=B5}
end Fi
structure La where
 fX:List Int
 lane:Int
 jP:List Int
namespace La
def kW:List Int:=[0,0,0,0,0]
def after(fX:List Int)(l:Int):Int:=if l<1/\fX.getD 1 0≠0 then 1 else if l<2/\fX.getD 2 0≠0 then 2 else if l<3/\fX.getD 3 0≠0 then 3 else 4
def qO(x:La):Bool:=decide (x.lane=1) ||decide (x.lane=2)
def enter(x:La):La:=if x.lane=0 then{x with lane:=after x.fX 0,jP:=kW}else x
def count(x:La):Int:=x.jP.getD x.lane.toNat 0
def abort(x:La)(code:Int):La :=
 if x.lane=0\/x.lane=4\/code<1\/8<code\/code=7 then x
 else
  let y:={x with jP:=x.jP.set x.lane.toNat (ak .i64 (x.count+1))}
  if x.qO=B4/\code=3 then{y with lane:=after x.fX 2}else if y.count=x.fX.getD x.lane.toNat 0 then{y with lane:=after x.fX x.lane}else y
def leave(x:La):La:=if x.lane=0 then x else{x with lane:=0,jP:=kW}
def tries(x:La):Int:=x.jP.foldl (λ n k=>ak .i64 (n+k)) 0
end La
inductive K0 where
 |wait
 |left (how:Int)
 |kY (a:Int)
 |take
 |back (l:List Pr)
 |fin
inductive Nx where
 |wD (n:Int) (k:K0)
 |ur (n:Int) (k:K0)
 |wN
 |xG (k:K0)
 |look (k:K0) (g:Int) (rd:List Pr) (i:Nat)
 |again (k:K0) (g:Int)
 |wP (a:Int)
 |oE (a v:Int)
 |uJ
 |Gi (k:K0)
structure Rq where
 op:Int
 a:Int
 v:Int
 o:Int
structure So where
 rd:List Pr
 wr:List Pr
 want:Rq
 au:Option Nx
 busy:Bool
 live:Bool
 aF:Bool
 snap:Int
 value:Int
 ended:Int
 points:Int
namespace So
def ask(p:So)(r:Rq)(n:Nx):So:={p with want:=r,au:=B1 n}
def count(p:So)(n:Int)(k:K0):So:=p.ask ⟨1,1,0,0⟩ (.wD n k)
def leave(p:So)(how:Int):So:=p.count 18446744073709551615 (.left how)
def tz(p:So):So:=p.ask ⟨1,0,0,0⟩ .wN
def validate(p:So)(k:K0):So:=p.ask ⟨1,0,0,0⟩ (.xG k)
def kY(p:So)(a:Int):So:=p.ask ⟨1,a,0,0⟩ (.wP a)
def take(p:So):So:=p.ask ⟨3,0,ak .u64 (p.snap+1),p.snap⟩ .uJ
def back(p:So):List Pr->So
 |x::l=>p.ask ⟨2,x.a,x.v,0⟩ (.Gi (.back l))
 |[]=>p.ask ⟨2,0,ak .u64 (p.snap+2),0⟩ (.Gi .fin)
def pA(p:So)(g:Int):So:={p with snap:=g,points:=ak .i64 (p.points+1)}
def Gr(p:So):K0->So
 | .wait=>p.tz
 | .left how=>{p with live:=B2,ended:=how,busy:=B2}
 | .kY a=>p.kY a
 | .take=>p.take
 | .back l=>p.back l
 | .fin=>({p with aF:=B2}:So).leave 1
def step(p:So)(k:K0)(g:Int)(rd:List Pr)(i:Nat):So:=match rd[i]? with
 |some x=>p.ask ⟨1,x.a,0,0⟩ (.look k g rd i)
 |none=>p.ask ⟨1,0,0,0⟩ (.again k g)
def ai(p:So)(a v:Int):Option (List Pr):=match dk p.rd a with
 |some _=>B1 p.rd
 |none=>if p.rd.length=128 then B5 else B1 (p.rd ++ [⟨a,v⟩])
def on(p:So)(v:Int)(ok:Bool):Nx->So
 | .wD n k=>p.ask ⟨3,1,ak .u64 (v+n),v⟩ (.ur n k)
 | .ur n k=>if ok=B4 then p.Gr k else p.count n k
 | .wN=>if v % 2=1 then p.tz else{p.pA v with live:=B4,busy:=B2}
 | .xG k=>if v % 2=1 then p.validate k else p.step k v p.rd 0
 | .look k g rd i=>if v≠(rd.getD i ⟨0,0⟩).v then p.leave 2 else p.step k g rd (i+1)
 | .again k g=>if v≠g then p.validate k else(p.pA g).Gr k
 | .wP a=>p.ask ⟨1,0,0,0⟩ (.oE a v)
 | .oE a w=>if v≠p.snap then p.validate (.kY a)
  else if(dk p.rd a).getD w≠w then p.leave 2
  else match p.ai a w with
   |none=>p.leave 2
   |some l=>{({p with rd:=l,value:=w}:So).pA v with busy:=B2}
 | .uJ=>if ok=B4 then({p with points:=ak .i64 (p.points+1),aF:=B4}:So).back p.wr else p.validate .take
 | .Gi k=>p.Gr k
def eX(p:So)(v:Int)(ok:Bool):So:=match p.au with
 |none=>p
 |some n=>({p with want:=⟨0,0,0,0⟩,au:=B5}:So).on v ok n
def begin(p:So):So:=if p.busy=B4\/p.live=B4 then p else({p with rd:=[],wr:=[],value:=0,ended:=0,busy:=B4}:So).count 1 .wait
def ready(p:So):Bool:=!p.busy && p.live
def load(p:So)(a:Int):So:=if p.ready=B4/\8<=a then match dk p.wr a with
 |some v=>{p with value:=v}
 |none=>({p with busy:=B4}:So).kY a
 else p
def store(p:So)(a v:Int):So:=if p.ready=B4/\8<=a then
 if dk p.wr a=B5/\p.wr.length=128 then({p with busy:=B4}:So).leave 2 else{p with wr:=fN p.wr a v}
 else p
def bt(p:So):So:=if p.ready=B4 then if p.wr.length=0 then({p with busy:=B4}:So).leave 1 else({p with busy:=B4}:So).take else p
def Fm(p:So):So:=if p.ready=B4 then({p with busy:=B4}:So).leave 3 else p
end So
structure Co where
 id:Int
 lines:Int
 code:List i9
 fi:Fi
 la:La
 so:So
 ph:Int
 want:oK
 seq:Int
 aV:List Pr
 done:Int
 wrote:Bool
 held:Bool
 said:Bool
 blocks:Int
 pk:Int
 halted:Bool
 Cl:Bool
structure CS where
 c:Co
 b:Bu
 o:List eF
namespace CS
def MH(c:Co)(kind a v code:Int):eF:=if c.la.lane=0 then⟨kind,0,c.id,-1,0,0,a,v,code⟩else⟨kind,0,c.id,ak .i64 (c.blocks-1),c.la.tries,c.la.lane,a,v,code⟩
def tell(s:CS)(kind a v code:Int):CS:={s with o:=s.o ++ [MH s.c kind a v code]}
def fi(s:CS)(f:Fi->Fi):CS:={s with c:={s.c with fi:=f s.c.fi}}
def la(s:CS)(f:La->La):CS:={s with c:={s.c with la:=f s.c.la}}
def so(s:CS)(f:So->So):CS:={s with c:={s.c with so:=f s.c.so}}
def ph(s:CS)(n:Int):CS:={s with c:={s.c with ph:=n}}
def iy(s:CS)(k n v o:Int):CS:={s with b:=s.b.step ⟨k,s.c.id,n,v,o⟩}
def node(s:CS):No:=(s.b.ns[s.c.id.toNat]?).getD ⟨0,0,⟨0,0,[],0⟩,⟨0,0,0,.zero⟩,[],B2,0⟩
def kF(s:CS)(a:Int):Int×Bool:=((s.node.load a).2.1,(s.node.load a).2.2.1 && decide ((s.node.load a).2.2.2.2=0))
def vN(s:CS)(a v:Int):Bool:=(s.node.store a v).2.1 && decide ((s.node.store a v).2.2.2=0)
def Ay(s:CS)(a o:Int):Bool×Bool:=((s.node.jQ a o).1,(s.node.jQ a o).2.1 && decide ((s.node.jQ a o).2.2=0))
def ld(s:CS)(a:Int):CS:=s.iy 0 a 0 0
def st(s:CS)(a v:Int):CS:=s.iy 1 a v 0
def cs(s:CS)(a o v:Int):CS:=s.iy 2 a v o
def abort(s:CS)(code:Int):CS:=(((s.tell 6 0 0 code).fi .restore).la (·.abort code)).ph 1
def leave(s:CS):CS:={((s.la .leave).fi .drop).ph 0 with c:={((s.la .leave).fi .drop).ph 0 |>.c with held:=B2}}
def av(s:CS):CS:=let t:=if s.c.said=B4 then s else s.tell 5 0 0 0
 {t with c:={t.c with said:=B4,held:=B2}}
def fG(s:CS)(next:Int):CS:=let t:=s.fi (·.jump next)
 {t with c:={t.c with pk:=ak .i64 (t.c.pk+1)}}
def bH(s:CS):CS:=s.av.leave.fG (ak .i64 (s.c.fi.pc+1))
def breaks(s:CS):CS:=let t:=((s.tell 6 0 0 7).fi .restore).leave
 {t with c:={t.c with halted:=B4,Cl:=B4}}
def cP(s:CS):CS :=
 if s.c.la.lane=0 then{s with c:={s.c with halted:=B4,Cl:=B4}}
 else if s.c.la.lane=3 then let t:=s.so .Fm
  {t with c:={t.c with want:=iD,ph:=6}}
 else if s.c.la.lane=4 then s.ph 10
 else(s.iy 5 7 0 0).breaks
def HO(c:Co)(u:Int):Bool:=decide (u<(c.lines-1)*8)
def eV(s:CS)(f:oK)(v:Int):CS:=((s.tell (if s.c.la.lane=0 then 7 else 2) (if HO s.c f.addr=B4 then 8+f.addr else 0) v 0).fi (·.set f.pO v)).fG f.au
def mh(s:CS)(f:oK)(a:Int):CS :=
 if s.c.la.lane=3 then let t:=s.so (·.load a)
  if t.c.so.busy=B4 then{t with c:={t.c with want:=f,ph:=6}}else t.eV f t.c.so.value
 else match(if s.c.la.lane=4 then dk s.c.aV a else B5)with
  |some v=>s.eV f v
  |none=>if(s.kF a).2=B4 then(s.ld a).eV f (s.kF a).1 else s.ld a
def stored(s:CS)(kind:Int)(f:oK)(a:Int):CS:=(s.tell kind a f.value 0).fG f.au
def iJ(s:CS)(f:oK)(a:Int):CS :=
 if s.c.la.lane=3 then let t:=s.so (·.store a f.value)
  if t.c.so.busy=B4 then{t with c:={t.c with want:=f,ph:=6}}else t.stored 3 f a
 else if s.c.la.lane=4 then({s with c:={s.c with aV:=fN s.c.aV a f.value}}:CS).stored 3 f a
 else if s.vN a f.value=B4 then
  if s.c.la.lane=0 then(s.st a f.value).stored 8 f a else let t:=s.st a f.value
   ({t with c:={t.c with wrote:=B4}}:CS).stored 3 f a
 else s.st a f.value
def ends(s:CS):CS :=
 if s.c.la.lane=3 then let t:=s.so .bt
  {t with c:={t.c with want:=⟨6,0,0,0,0⟩,ph:=6}}
 else if s.c.la.lane=4 then s.ph 9
 else if s.c.la.lane=2/\s.c.wrote=B4 then s.ph 7
 else(s.iy 4 0 0 0).bH
def nV(s:CS):CS :=
 if(s.c.code.length:Int)<=s.c.fi.pc then if s.c.la.lane=0 then{s with c:={s.c with halted:=B4}}else s.cP
 else
  let f:=(s.c.code.getD s.c.fi.pc.toNat ⟨0,0,0,0,0⟩).fV s.c.fi.rs s.c.fi.pc
  let is:=HO s.c f.addr
  let a:=8+f.addr
  if(f.kind=3\/f.kind=4)/\is=B2\/f.kind=0\/s.c.la.lane≠0/\f.kind=5\/s.c.la.lane=0/\f.kind=6\/s.c.la.lane≠0/\f.kind=7 then s.cP
  else if f.kind=7 then{s with c:={s.c with halted:=B4}}
  else if f.kind=1 then(s.fi (·.set f.pO f.value)).fG f.au
  else if f.kind=2 then s.fG f.au
  else if f.kind=3 then s.mh f a
  else if f.kind=4 then s.iJ f a
  else if f.kind=5 then let t:=((s.fG f.au).fi .save).la .enter
   {t with c:={t.c with blocks:=ak .i64 (t.c.blocks+1),ph:=1}}
  else s.ends
def jL(s:CS):CS :=
 let t0:=s.tell 1 0 0 0
 let t:CS:={t0 with c:={t0.c with aV:=[],done:=0,wrote:=B2,said:=B2}}
 if s.c.la.lane=1 then(t.iy 3 0 0 0).ph 2
 else if s.c.la.lane=2 then(t.iy 3 0 0 0).ph 3
 else if s.c.la.lane=3 then let u:=t.so .begin
  {u with c:={u.c with want:=⟨5,0,0,0,0⟩,ph:=6}}
 else t.ph 4
def oA(s:CS):CS :=
 let r:=s.Ay 0 s.c.seq
 let t:=s.cs 0 s.c.seq (ak .u64 (s.c.seq+1))
 if r.2=B2 then t
 else if r.1=B4 then let u:=t.tell 4 0 0 0
  {u with c:={u.c with ph:=0,held:=B4}}
 else t.ph 4
def gq(s:CS)(k:CS->CS):CS :=
 let v:=ak .u64 (s.c.seq+2)
 if s.vN 0 v=B4 then k (s.st 0 v)else s.st 0 v
def aN(s:CS):CS:=match(if 0<=s.c.done then s.c.aV[s.c.done.toNat]? else B5)with
 |some x=>if s.vN x.a x.v=B4 then let t:=s.st x.a x.v
  {t with c:={t.c with done:=ak .i64 (t.c.done+1)}}else s.st x.a x.v
 |none=>s.gq bH
def eW(s:CS):CS :=
 if s.c.so.ended=2 then s.abort 8
 else if s.c.want.kind=5 then s.ph 0
 else if s.c.want.kind=3 then(s.ph 0).eV s.c.want s.c.so.value
 else if s.c.want.kind=6 then s.bH
 else s.breaks
def given(s:CS)(v:Int)(taken:Bool):CS :=
 let t:CS:={s with c:={s.c with held:=s.c.held ||taken && decide (s.c.so.want.a=0),so:=s.c.so.eX v taken}}
 let u:=if s.c.so.aF=B4/\t.c.so.aF=B2 then t.av else t
 let w:=if s.c.so.points<u.c.so.points then u.tell 4 0 0 0 else u
 if w.c.so.busy=B4 then w else w.eW
def nP(s:CS):CS :=
 let r:=s.c.so.want
 if r.op=1 then if(s.kF r.a).2=B4 then(s.ld r.a).given (s.kF r.a).1 B2 else s.ld r.a
 else if r.op=2 then if s.vN r.a r.v=B4 then(s.st r.a r.v).given 0 B2 else s.st r.a r.v
 else if r.op=3 then if(s.Ay r.a r.o).2=B4 then(s.cs r.a r.o r.v).given 0 (s.Ay r.a r.o).1 else s.cs r.a r.o r.v
 else s
def act(s:CS):CS :=
 if s.c.ph=0 then s.nV
 else if s.c.ph=1 then s.jL
 else if s.c.ph=2 then let r:=s.kF 1
  if r.2=B4 then let t:=(s.ld 1).ph 3
   if r.1≠0 then t.iy 5 6 0 0 else t
  else s.ld 1
 else if s.c.ph=3 then let r:=s.kF 0
  if r.2=B4 then let t:=s.ld 0
   let u:CS:={t with c:={t.c with seq:=r.1,ph:=0}}
   if r.1 % 2=1 then u.iy 5 6 0 0 else u
  else s.ld 0
 else if s.c.ph=4 then let r:=s.kF 0
  let t:=s.ld 0
  if r.2=B4/\r.1 % 2=0 then{t with c:={t.c with seq:=r.1,ph:=5}}else t
 else if s.c.ph=5 then s.oA
 else if s.c.ph=6 then s.nP
 else if s.c.ph=7 then s.gq (·.ph 8)
 else if s.c.ph=8 then(s.iy 4 0 0 0).bH
 else if s.c.ph=9 then s.aN
 else if s.c.ph=10 then s.gq breaks
 else s
def qR(s:CS):Int:=if s.node.code<1\/6<s.node.code then 5 else s.node.code
def step(s:CS):CS×Int :=
 if s.c.Cl=B4 then(s,111)
 else if s.c.halted=B4 then(s,110)
 else if s.c.la.qO=B4/\s.c.ph≠1/\s.node.live=B2 then(s.abort s.qR,0)
 else(s.act,0)
end CS
end Go.Am
namespace Go.Am
def fJ(x:Int):Prop:=0<=x/\x<18446744073709551616
def uC(x:Int):AV:=.int .u64 x
def bK:fJ 0:=⟨uj _,by decide⟩
def FN(n:Int):fJ (ak .u64 n):=by rw[qq];constructor<;>omega
def L8.u(x:L8):Prop:=∀w∈x.l,fJ w
def L8.iH:L8.zero.u:=λ w h=>by
 simp only[L8.zero,jj,OC,or_false,or_self]at h;rw[h];exact bK
def FU{α:Type}{l:List α}{k:Nat}{v x:α}(h:x∈l.set k v):x∈l\/x=v:=List.mem_or_eq_of_mem_set h
def L8.u.put{x:L8}(h:x.u)(i:Nat){y:Int}(a:fJ y):(x.put i y).u:=λ w q=>(FU q).elim (h w) λ e=>e▸a
def L8.u.get{x:L8}(h:x.u)(i:Nat):fJ (x.get i):=by
 unfold L8.get;cases q:x.l[i]? with
 |none=>exact bK
 |some w=>exact h w (zh q)
def En.U(e:En):Prop:=e.d.u/\e.o.u
def En.oW:En.zero.U:=⟨L8.iH,L8.iH⟩
def Ca.U(c:Ca):Prop:=∀e∈c.sl,e.U
def No.U(n:No):Prop:=n.c.U
def qL(l:List Mg):Prop:=∀m∈l,m.d.u
def qL.nil:qL []:=λ _ h=>by cases h
def qL.one{m:Mg}(h:m.d.u):qL [m]:=λ x q=>by rw[jz.1 q];exact h
def qL.app{a b:List Mg}(h:qL a)(d:qL b):qL (a++b):=λ x q=>(zt.1 q).elim (h x) (d x)
namespace Ca
variable{c:Ca}
def U.en(h:c.U)(i:Nat):(c.en i).U:=by
 unfold Ca.en;cases q:c.sl[i]? with
 |none=>exact En.oW
 |some e=>exact h e (zh q)
def U.Fx(h:c.U)(i:Nat){e:En}(he:e.U){u:Int}:Ca.U {c with us:=u,sl:=c.sl.set i e}:=λ x q=>(FU q).elim (h x) λ w=>w▸he
def U.set(h:c.U)(i:Nat){e:En}(he:e.U):(c.set i e).U:=λ x q=>(FU q).elim (h x) λ w=>w▸he
def U.use(h:c.U)(i:Nat):(c.use i).U:=h.Fx i (e:={c.en i with u:=c.us+1}) (h.en i)
def U.word(h:c.U)(a:Nat):(c.word a).1.U/\fJ ((c.word a).2.getD 0):=by
 unfold Ca.word;split
 .exact ⟨h,bK⟩
 .exact ⟨h.use _,(h.en _).1.get _⟩
def U.put(h:c.U)(a:Nat){y:Int}(f:fJ y):(c.put a y).U:=by
 unfold Ca.put;split
 .exact h
 .rename_i i _;exact h.Fx i (e:={c.en i with u:=c.us+1,d:=(c.en i).d.put (a % 8) y}) ⟨(h.en i).1.put _ f,(h.en i).2⟩
def U.mark(h:c.U)(l:Int)(w:Bool):(c.mark l w).U:=by
 unfold Ca.mark
 repeat' split
 all_goals first|exact h|(rename_i i _ _;exact h.set i ⟨(h.en i).1,(h.en i).1⟩)|(rename_i i _;exact h.set i (e:={c.en i with r:=B4}) (h.en i))
def U.cV(h:c.U)(l:Int):(c.cV l).1.U/\(c.cV l).2.u:=by
 unfold Ca.cV;split
 .exact ⟨h,L8.iH⟩
 .rename_i i _;exact⟨h.set i (e:={c.en i with st:=1}) (h.en i),(h.en i).1⟩
def U.cN(h:c.U)(l:Int){d:L8}(a:d.u):(c.cN l d).U:=by
 unfold Ca.cN;split
 .exact h
 .rename_i i _;exact h.set i ⟨a,(h.en i).2⟩
def U.drop(h:c.U)(l:Int):(c.drop l).1.U/\(c.drop l).2.U:=by
 unfold Ca.drop;split
 .exact ⟨h,En.oW⟩
 .exact ⟨h.set _ En.oW,h.en _⟩
theorem U.map(h:c.U){g:En->En}(hg:∀e,e.U->(g e).U):Ca.U {c with sl:=c.sl.map g}:=λ x q=>by
 obtain⟨e,he,rfl⟩:=CN.1 q;exact hg e (h e he)
def U.bt(h:c.U):c.bt.U:=h.map λ e he=>by unfold rM;split;exact he;exact⟨he.1,L8.iH⟩
def U.discard(h:c.U):c.discard.U:=h.map λ e he=>by
 unfold back;split
 .exact he
 .refine ⟨?_,L8.iH⟩;show(if e.w then e.o else e.d).u;split;exact he.2;exact he.1
def U.fill(h:c.U)(l s:Int){d:L8}(a:d.u):(c.fill l s d).1.U/\(c.fill l s d).2.1.U:=by
 unfold Ca.fill;split
 .exact ⟨h,En.oW⟩
 .split
  .exact ⟨h,En.oW⟩
  .exact ⟨h.Fx _ ⟨a,L8.iH⟩,h.en _⟩
end Ca
namespace No
variable{n:No}
def U.iT(h:n.U)(k:Int):(n.iT k).U:=Ca.U.discard h
def uG(n:No)(k l:Int):(n.msg k l).d.u:=L8.iH
def U.ask(h:n.U)(k l:Int):(n.ask k l).1.U/\qL (n.ask k l).2:=by
 unfold No.ask;split
 .exact ⟨h,.nil⟩
 .exact ⟨h,.one (uG _ _ _)⟩
def U.load(h:n.U)(a:Int):(n.load a).1.U/\fJ (n.load a).2.1/\qL (n.load a).2.2.2.1:=by
 unfold No.load;split
 .split
  .exact ⟨(U.ask h _ _).1,bK,(U.ask h _ _).2⟩
  .have q:(if n.live then n.c.mark (ln a) B2 else n.c).U:=by split;exact Ca.U.mark h _ _;exact h
   exact⟨(q.word _).1,(q.word _).2,.nil⟩
 .exact ⟨h,bK,.nil⟩
def U.store(h:n.U)(a:Int){y:Int}(d:fJ y):(n.store a y).1.U/\qL (n.store a y).2.2.1:=by
 unfold No.store;split
 .split
  .have q:(if n.live then n.c.mark (ln a) B4 else n.c).U:=by split;exact Ca.U.mark h _ _;exact h
   exact⟨q.put _ d,.nil⟩
  .exact U.ask h _ _
 .exact ⟨h,.nil⟩
def U.nD(h:n.U)(a o:Int){y:Int}(d:fJ y):(n.nD a o y).1.U/\qL (n.nD a o y).2:=by
 unfold No.nD;split
 .split
  .exact ⟨h,.nil⟩
  .split
   .refine ⟨?_,.nil⟩;show Ca.U (if _ then _ else _);split
    .exact (Ca.U.word h _).1.put _ d
    .exact (Ca.U.word h _).1
   .exact U.ask h _ _
 .exact ⟨h,.nil⟩
def U.begin(h:n.U):n.begin.U:=by unfold No.begin;split;exact h;exact h
def U.bt(h:n.U):n.bt.U:=by unfold No.bt;split;exact Ca.U.bt h;exact h
def U.abort(h:n.U)(k:Int):(n.abort k).1.U:=by
 unfold No.abort;repeat' split
 all_goals first|exact h|exact U.iT h _
def U.lost(h:n.U)(x:En)(t:Bool):(n.lost x t).U:=by
 unfold No.lost;repeat' split
 all_goals first|exact h|exact U.iT h _
def U.gone(h:n.U){x:En}(a:x.U):(n.gone x).1.U/\qL (n.gone x).2:=by
 unfold No.gone;split
 .exact ⟨h,.one a.1⟩
 .exact ⟨h,.nil⟩
def U.dR(h:n.U){m:Mg}(hm:m.d.u)(s:Int):(n.dR m s).1.U/\qL (n.dR m s).2:=by
 obtain⟨a,e⟩:=Ca.U.fill h m.line s hm;unfold No.dR;split
 .exact U.gone (n:={n with c:=(n.c.fill m.line s m.d).1}) a e
 .exact ⟨a,.nil⟩
def U.fill(h:n.U){m:Mg}(hm:m.d.u):(n.fill m).1.U/\qL (n.fill m).2:=by
 unfold No.fill;generalize(if m.k=15 then(2:Int)else 1)=s;unfold No.lf;split
 .exact U.dR (U.iT h 3) hm s
 .exact U.dR h hm s
def U.bS(h:n.U){m:Mg}(hm:m.d.u):(n.bS m).1.U/\qL (n.bS m).2:=by
 unfold No.bS;split
 .exact ⟨h,.nil⟩
 split
 .exact ⟨(Ca.U.drop (U.lost h _ _) _).1,.one (uG _ _ _)⟩
 split
 .split
  .exact ⟨h,.one (uG _ _ _)⟩
  .split
   .exact ⟨(Ca.U.cV (U.lost h _ _) _).1,.one (Ca.U.cV (U.lost h _ _) _).2⟩
   .exact ⟨(Ca.U.drop (U.lost h _ _) _).1,.one (Ca.U.drop (U.lost h _ _) _).2.1⟩
 split
 .exact ⟨h,.nil⟩
 split
 .exact ⟨Ca.U.cN h _ hm,.one (uG _ _ _)⟩
 .obtain ⟨a,e⟩:=U.fill (n:={n with out:=⟨0,0,0,.zero⟩}) h hm;exact⟨a,e.app (.one (uG _ _ _))⟩
def U.da(h:n.U)(l:Int):(n.da l).1.U/\qL (n.da l).2:=by
 unfold No.da;split
 .exact ⟨h,.nil⟩
 split
 .exact ⟨h,.nil⟩
 .rename_i x _;have q:(if x.r ||x.w then n.iT 4 else n).U:=by split;exact U.iT h 4;exact h
  exact U.gone (n:={(if x.r ||x.w then n.iT 4 else n)with c:=((if x.r ||x.w then n.iT 4 else n).c.drop l).1}) (Ca.U.drop q l).1 (Ca.U.drop q l).2
end No
namespace De
def y_(x:De){w:L8}(hw:w.u):(x.dX w).2.d.u:=by unfold dX;split<;>exact hw
def _0(x:De)(m:Mg){w:L8}(hw:w.u):qL (x.begin m w).2:=by
 unfold begin;split
 .exact .one L8.iH
 split
 .exact .one (y_ _ hw)
 .intro z q;obtain⟨c,-,rfl⟩:=CN.1 q;exact L8.iH
def yC(x:De){w:L8}(hw:w.u)(q:Prop)[Decidable q]{o:List Mg}(ho:qL o):(x.vL w q o).2.1.u/\qL (x.vL w q o).2.2:=by
 unfold vL;split
 .exact ⟨hw,ho.app (.one (y_ _ hw))⟩
 .exact ⟨hw,ho⟩
def Me(x:De){w:L8}(hw:w.u){m:Mg}(hm:m.d.u):(x.bS w m).2.1.u/\qL (x.bS w m).2.2:=by
 unfold bS;split
 .exact ⟨hw,.nil⟩
 split
 .split
  .exact ⟨hw,.nil⟩
  .exact ⟨hw,_0 _ _ hw⟩
 split
 .exact yC _ hw _ .nil
 split
 .exact yC _ hm _ .nil
 split
 .exact yC _ hw _ .nil
 split
 .exact yC _ hm _ (.one L8.iH)
 split
 .exact ⟨hw,.nil⟩
 .exact ⟨hw,_0 _ _ hw⟩
end De
structure yG(b:Bu):Prop where
 m:∀x∈b.m,x.u
 n:∀n∈b.ns,n.U
 f:qL b.fl
def yG.put{b:Bu}(h:yG b)(c:Nat){r:No×List Mg}(a:r.1.U)(d:qL r.2):yG (b.put c r):=⟨h.m,λ x q=>(FU q).elim (h.n x) λ e=>e▸a,h.f.app d⟩
end Go.Am
namespace Go.Am
open Lang Go.Proofs
variable{M:ao}[MK M]
def Rw(op:Nat):List UInt8:=match op with
 |1=>[104,97,108,116]
 |2=>[115,101,116]
 |3=>[109,111,118]
 |4=>[97,100,100]
 |5=>[115,117,98]
 |6=>[109,117,108]
 |7=>[97,110,100]
 |8=>[120,111,114]
 |9=>[115,104,108]
 |10=>[115,104,114]
 |11=>[108,111,97,100]
 |12=>[115,116,111,114,101]
 |13=>[106,117,109,112]
 |14=>[101,113]
 |15=>[110,101]
 |16=>[108,116]
 |17=>[98,101,103,105,110]
 |18=>[101,110,100]
 |_=>[]
def wW:List AV:=(N7 19).flatMap λ k=>[.str (Rw k),.str (pD k)]
def pQ(H:ar):Prop:=H.bQ jq=B1 wW/\jq<H.au
def pQ.em{H H':ar}(h:pQ H)(f:Fr Em H H'):pQ H':=⟨(f.cells h.2 id).trans h.1,qn h.2 f.au⟩
def D9:∀k:Nat,k<19->wW[k*2+1]? = B1 (.str (pD k))
 |0,_=>rfl
 |1,_=>rfl
 |2,_=>rfl
 |3,_=>rfl
 |4,_=>rfl
 |5,_=>rfl
 |6,_=>rfl
 |7,_=>rfl
 |8,_=>rfl
 |9,_=>rfl
 |10,_=>rfl
 |11,_=>rfl
 |12,_=>rfl
 |13,_=>rfl
 |14,_=>rfl
 |15,_=>rfl
 |16,_=>rfl
 |17,_=>rfl
 |18,_=>rfl
 |k+19,h=>absurd h (by omega)
def fZ(i:i9):List AV:=[.int .i64 i.op,.int .i64 i.a,.int .i64 i.b,.int .i64 i.c,.int .i64 i.AR]
def oQ(op:Int):Prop:=1<=op/\op<=18
instance(op:Int):Decidable (oQ op):=inferInstanceAs (Decidable (_/\_))
def xi9{H:ar}(hs:pQ H)(op:Int):zj M MO [.int .i64 op] H λ v H'=>v=.tuple [.str (if oQ op then pD op.toNat else[]),.bool (decide (oQ op))]/\H'=H:=by
 refine xe7 ?_;obtain⟨w0,w2,d⟩:=xe8 M ⟨B5,MO⟩
 by_cases a:op<1
 .have hn:¬oQ op:=λ q=>by have:=q.1;omega
  simp only[ae,bc,w0,w2,a,qv hn,yo hn]
 by_cases e:(19:Int)<=op
 .have hn:¬oQ op:=λ q=>by have:=q.2;omega
  simp only[ae,bc,w0,w2,a,e,qv hn,yo hn]
 have f:oQ op:=⟨by omega,by omega⟩
 have ix:Op.bh 19 2 [.ptr jq 0,.int .i64 op]=B1 (.ptr jq (0+op.toNat*2)):=by
  simp only[Op.bh];rw[Mc (i:=op.toNat) (by omega) (by omega)];rfl
 have ld:Op.ah [.ptr jq (op.toNat*2+1)] H=B1 (.str (pD op.toNat)):=by
  rw[zg hs.1];exact D9 op.toNat (by omega)
 simp only[ae,bc,w0,w2,a,e,d,ix,ld,xb f,yq f]
def EL{x c:UInt8}(h:¬x=c):Fj x c=false:=by
 cases q:Fj x c with
 |false=>rfl
 |true=>exact(h (by simpa[Fj,<-UInt8.toNat_inj]using q)).elim
def xcf(c:UInt8):∀(s:List UInt8)(k:Nat),(∃i:Nat,HK c s k=B1 i/\c∈s)\/HK c s k=B5/\c∉s:=by
 intro s
 induction s with
 |nil=>intro k;exact .inr ⟨rfl,by simp⟩
 |cons x s ih =>
  intro k
  by_cases h:x=c
  .subst h;exact .inl ⟨k,by simp[HK,Fj],by simp⟩
  .rcases ih (k+1)with⟨i,a,e⟩|⟨a,d⟩
   .exact .inl ⟨i,by simp[HK,EL h,a],by simp[e]⟩
   .exact .inr ⟨by simp[HK,EL h,a],by simp[d,mM h]⟩
def HY{s:List UInt8}{c:UInt8}{H:ar}:zj M X1 [.str s,.int .u8 c.toNat] H λ v H'=>H'=H /\ ∃z:Int,v=.int .i64 z/\(c∈s->0<=z)/\(c∉s->z = -1):=by
 refine qux ?_;simp only[ae,bc,quy];refine C3.q (R:=λ v H'=>H'=H /\ ∃z:Int,v=.int .i64 z/\(c∈s->0<=z)/\(c∉s->z = -1)) ?_ λ v H'⟨g,z,h,a,d⟩=>?_
 .refine qh9 ?_;rcases xcf c s 0 with⟨i,a,f⟩|⟨a,d⟩
  .have e:Op.aG [.str s,.int .u8 c.toNat]=B1 (.int .i64 (i:Nat)):=by
    simp only[Op.aG,FB,UInt8.ofNat_toNat,a];rfl
   simp only[ae,bc,qdt,e];exact⟨_,rfl,λ _=>by omega,λ q=>(q f).elim⟩
  .have e:Op.aG [.str s,.int .u8 c.toNat]=B1 (.int .i64 (-1)):=by
    simp only[Op.aG,FB,UInt8.ofNat_toNat,a];rfl
   simp only[ae,bc,qdt,e];exact⟨_,rfl,λ q=>(d q).elim,λ _=>rfl⟩
 .subst h;subst g;simp only[ae,bc];exact⟨z,rfl,a,d⟩
def xh3{H:ar}(hs:pQ H)(i:i9):zj M NU [.agg (fZ i)] H λ v H'=>v=.bool (decide i.mH)/\Fr Em H H':=by
 refine xe4 ?_;obtain⟨w0,w4,F,I,D,u⟩:=xe5 M ⟨B5,NU⟩;obtain⟨H1,e1,x,-,N⟩:=cI H (OR (fZ i) AO);have ld:∀k,Op.ah [.ptr H.au k] H1=(fZ i)[k]?:=λ k=>zg (xe N) k;have l0:Op.ah [.ptr H.au 0] H1=B1 (.int .i64 i.op):=ld 0;have l1:Op.ah [.ptr H.au 1] H1=B1 (.int .i64 i.a):=ld 1;have l2:Op.ah [.ptr H.au 2] H1=B1 (.int .i64 i.b):=ld 2;have l3:Op.ah [.ptr H.au 3] H1=B1 (.int .i64 i.c):=ld 3;have L:Op.build [.int .i64 0,.int .i64 0,.int .i64 0] [(0,1),(1,1),(2,1)] [.int .i64 i.a,.int .i64 i.b,.int .i64 i.c]=B1 (.agg [.int .i64 i.a,.int .i64 i.b,.int .i64 i.c]):=rfl;have ca:AV.cells (.agg (fZ i))=fZ i:=z6 _;simp only[ae,bc,w0,ca,<-e1,l0];refine C3.q (xi9 (hs.em x) i.op) λ v K⟨A,y⟩=>?_;subst A;subst y;obtain⟨m,g⟩:∃m,m=(if oQ i.op then pD i.op.toNat else[]):=⟨_,rfl⟩
 rw[<-g];simp only[ae,bc,xm,w4,l1,l2,l3,L]
 let ok:Nat->Prop:=λ j=>match j with
  |0=>65∈m->0<=i.a/\i.a<8
  |1=>66∈m->0<=i.b/\i.b<8
  |_=>67∈m->0<=i.c/\i.c<8
 have f:i.mH↔oQ i.op/\ok 0/\ok 1/\ok 2:=by
  constructor
  .intro q;have l:oQ i.op:=⟨q.1,q.2.1⟩
   rw[xb l]at g;subst g;exact⟨l,q.2.2.1,q.2.2.2.1,q.2.2.2.2⟩
  .intro ⟨l,B,p,C⟩;rw[xb l]at g;subst g;exact⟨l.1,l.2,B,p,C⟩
 have Q:Op.bD 3 1 B5 [.agg [.int .i64 i.a,.int .i64 i.b,.int .i64 i.c],.int .i64 0]=B1 (.int .i64 i.a):=rfl;have R:Op.bD 3 1 B5 [.agg [.int .i64 i.a,.int .i64 i.b,.int .i64 i.c],.int .i64 1]=B1 (.int .i64 i.b):=rfl;have S:Op.bD 3 1 B5 [.agg [.int .i64 i.a,.int .i64 i.b,.int .i64 i.c],.int .i64 2]=B1 (.int .i64 i.c):=rfl;have T:Op.bP [.str [65,66,67],.int .i64 0]=B1 (.int .u8 ((65:UInt8).toNat:Nat)):=rfl;have U:Op.bP [.str [65,66,67],.int .i64 1]=B1 (.int .u8 ((66:UInt8).toNat:Nat)):=rfl;have V:Op.bP [.str [65,66,67],.int .i64 2]=B1 (.int .u8 ((67:UInt8).toNat:Nat)):=rfl;have Z:ak .i64 (0+1)=1:=by decide +kernel
 have b2:ak .i64 (1+1)=2:=by decide +kernel
 have b3:ak .i64 (2+1)=3:=by decide +kernel
 have no:∀{k:Nat},k<3 -> ¬ok k->decide i.mH=false:=λ{k}hk q=>yo λ w=>by
  have⟨_,B,p,C⟩:=f.1 w;rcases(show k=0\/k=1\/k=2 by omega)with rfl|rfl|rfl
  .exact q B
  .exact q p
  .exact q C
 refine dm.intro (λ n E G=>∃k:Nat,E=[(20,.int .i64 (k:Nat)),(19,.agg [.int .i64 i.a,.int .i64 i.b,.int .i64 i.c]),(4,.bool (decide (oQ i.op))),(3,.str m)]/\n=3-k/\k<=3/\G=K /\ ∀j,j<k->ok j) ?_ ?_
 .exact ⟨_,_,⟨0,rfl,rfl,x9 _,rfl,λ j O=>by omega⟩,by simp only[ae,bc]⟩
 rintro n E G ⟨k,rfl,rfl,hk,rfl,h⟩;rcases xw k 3 with o|o
 .have p:(k:Int)<3:=by omega
  obtain⟨c,r,P,l,d⟩:∃(c:UInt8)(r:Int),Op.bD 3 1 B5 [.agg [.int .i64 i.a,.int .i64 i.b,.int .i64 i.c],.int .i64 (k:Nat)]=B1 (.int .i64 r)/\Op.bP [.str [65,66,67],.int .i64 (k:Nat)]=B1 (.int .u8 (c.toNat:Nat))/\(ok k↔(c∈m->0<=r/\r<8)):=by
   rcases(show k=0\/k=1\/k=2 by omega)with rfl|rfl|rfl
   .exact ⟨65,i.a,Q,T,ki⟩
   .exact ⟨66,i.b,R,U,ki⟩
   .exact ⟨67,i.c,S,V,ki⟩
  have J:ak .i64 ((k:Int)+1)=((k+1:Nat):Int):=by rw[ju (by omega) (by omega)];omega
  have go:ok k -> ∀j,j<k+1->ok j:=λ q j O=>by
   rcases xw j k with w|w
   .exact h j w
   .rw [show j=k by omega];exact q
  simp only[ae,bc,I,p,D,P,l];refine C3.q (HY) λ v Y⟨y,z,A,W,X⟩=>?_;subst A;subst y
  by_cases s:c∈m
  .have t:(0:Int)<=z:=W s
   by_cases n1:r<0
   .have:=no o λ q=>by have:=(d.1 q s).1;omega
    simp only[ae,bc,t,n1,this];exact x
   by_cases n2:(8:Int)<=r
   .have:=no o λ q=>by have:=(d.1 q s).2;omega
    simp only[ae,bc,t,n1,n2,this];exact x
   simp only[ae,bc,t,n1,n2,u,J];exact⟨_,_,⟨k+1,rfl,rfl,by omega,go (d.2 λ _=>⟨by omega,by omega⟩)⟩,by simp only[ae,bc],by omega⟩
  .have t:¬(0:Int)<=z:=by rw[X s];decide
   simp only[ae,bc,t,u,J];exact⟨_,_,⟨k+1,rfl,rfl,by omega,go (d.2 λ q=>(s q).elim)⟩,by simp only[ae,bc],by omega⟩
 .have p:¬(k:Int)<3:=by omega
  have:decide (oQ i.op)=decide i.mH:=by
   have e:i.mH↔oQ i.op:=⟨λ q=>(f.1 q).1,λ q=>f.2 ⟨q,h 0 (by omega),h 1 (by omega),h 2 (by omega)⟩⟩
   by_cases q:oQ i.op
   .rw [yq q,yq (e.2 q)]
   .rw [yo q,yo λ w=>q (e.1 w)]
  simp only[ae,bc,I,p,F,this];exact x
end Go.Am
namespace Go.Am
open Lang Go.Proofs
variable{M:ao}[MK M]
def bn(f:oK):List AV:=[.int .i64 f.kind,.int .i64 f.au,.int .i64 f.pO,.int .u64 f.value,.int .u64 f.addr]
def YA(n:Int):pZ n<8:=by
 unfold pZ;rw[BitVec.toNat_and];exact Nat.lt_of_le_of_lt Nat.and_le_right (by decide)
def R8{rs:List Int}(h:rs.length=8)(n:Int):(rs.map uC)[pZ n]? = B1 (.int .u64 (rg rs n)):=by
 have hl:=YA n;rw[xj,qy (by omega)];simp only[rg,z8,qy (show pZ n<rs.length by omega)];rfl
def RY{rs:List Int}(h:rs.length=8)(hr:∀x∈rs,fJ x)(n:Int):fJ (rg rs n):=by
 have hl:=YA n;simp only[rg,z8,qy (show pZ n<rs.length by omega)];exact hr _ (List.getElem_mem _)
def I0{x:Int}(e:fJ x)(n:Nat):x.fdiv (2 ^ n)=ak .u64 (x / 2 ^ n):=by
 have⟨a,d⟩:=e;have hp:(0:Int)<2 ^ n:=Int.pow_pos (by decide);rw[Int.fdiv_eq_ediv_of_nonneg _ (Int.le_of_lt hp),oy (Int.ediv_nonneg a (Int.le_of_lt hp))];exact Int.lt_of_le_of_lt (Int.ediv_le_self _ a) d
def bdL(k n r d:Int):Op.build [.int .i64 0,.int .i64 0,.int .i64 0,.int .u64 0,.int .u64 0] [(0,1),(1,1),(2,1),(4,1)] [.int .i64 k,.int .i64 n,.int .i64 r,.int .u64 d]=B1 (.agg (bn ⟨k,n,r,0,d⟩)):=rfl
def aa4(k n v d:Int):Op.build [.int .i64 0,.int .i64 0,.int .i64 0,.int .u64 0,.int .u64 0] [(0,1),(1,1),(3,1),(4,1)] [.int .i64 k,.int .i64 n,.int .u64 v,.int .u64 d]=B1 (.agg (bn ⟨k,n,0,v,d⟩)):=rfl
def FQ{H:ar}{b:Nat}{x f:oK}(h:H.get b=B1 (OR (bn x) jr)):Op.store 5 [.ptr b 0,.agg (bn f)] H=B1 (.undef,H.set b (OR (bn f) jr)):=by
 rw[wF (o:=0) (n:=5) (v:=.agg (bn f)) h rfl (by simp[bn]) rfl];rfl
def JH{H:ar}{b:Nat}{x:oK}(h:H.get b=B1 (OR (bn x) jr)):Op.aw 5 [.ptr b 0] H=B1 (.agg (bn x)):=by
 rw[tD (c:=bn x) (xe h) (by simp[bn])];rfl
def uH:Op.build (bn iD) [] []=B1 (.agg (bn iD)):=rfl
def Dw(k n:Int):Op.build (bn iD) [(0,1),(1,1)] [.int .i64 k,.int .i64 n]=B1 (.agg (bn ⟨k,n,0,0,0⟩)):=rfl
def R4(k n r v:Int):Op.build (bn iD) [(0,1),(1,1),(2,1),(3,1)] [.int .i64 k,.int .i64 n,.int .i64 r,.int .u64 v]=B1 (.agg (bn ⟨k,n,r,v,0⟩)):=rfl
def rK:[AV.int .i64 0,.int .i64 0,.int .i64 0,.int .u64 0,.int .u64 0]=bn iD:=rfl
structure zB(i:i9)(rs:List Int)(pc:Int)(b:Nat)(H:ar):Prop where
 gi:H.get b=B1 (OR (fZ i) AO)
 gr:H.get (b+1)=B1 (OR (rs.map uC) yZ)
 gp:H.get (b+2)=B1 (OR [.int .i64 pc] bY)
 ge:H.get (b+3)=B1 (OR (bn iD) jr)
 lt:b+3<H.au
section
variable{i:i9}{rs:List Int}{pc:Int}{b:Nat}{H H':ar}
def zB.em(h:zB i rs pc b H)(f:Fr Em H H'):zB i rs pc b H':=by
 have hl:=h.lt;exact⟨by rw[f.ai _ (by omega) id];exact h.gi,by rw[f.ai _ (by omega) id];exact h.gr,by rw[f.ai _ (by omega) id];exact h.gp,by rw[f.ai _ (by omega) id];exact h.ge,qn hl f.au⟩
def zB.li(h:zB i rs pc b H)(k:Nat):Op.ah [.ptr b k] H=(fZ i)[k]?:=zg (xe h.gi) k
def zB.lp(h:zB i rs pc b H):Op.ah [.ptr (b+2) 0] H=B1 (.int .i64 pc):=zg (xe h.gp) 0
def Gk(h:zB i rs pc b H)(hp:0<=pc/\pc<1024)(v:Int):zj M Sq [.int .u64 v,.ptr (b+2) 0,.ptr b 0] H λ w H'=>w=.agg (bn ⟨1,pc+1,i.a,v,0⟩)/\Fr Em H H':=by
 refine xis ?_;obtain⟨H1,e1,d,-,g⟩:=cI H (OR (bn iD) jr);have e:=h.em d;have l1:Op.ah [.ptr b 1] H1=B1 (.int .i64 i.a):=e.li 1;have wp:ak .i64 (pc+1)=pc+1:=ju (by omega) (by omega);have f:Fr Em H (H1.set H.au (OR (bn ⟨1,pc+1,i.a,v,0⟩) jr)):=d.set (.inr (qm _)) _;have ld:=JH (xg H1 H.au (OR (bn ⟨1,pc+1,i.a,v,0⟩) jr));simp only[ae,bc,xit,rK,<-e1,e.lp,wp,l1,R4,FQ g,ld];exact f
def Xc(h:zB i rs pc b H)(hp:0<=pc/\pc<1024)(k:Int):zj M Um [.int .i64 k,.ptr (b+2) 0] H λ w H'=>w=.agg (bn ⟨k,pc+1,0,0,0⟩)/\Fr Em H H':=by
 refine xiw ?_;obtain⟨H1,e1,a,-,e⟩:=cI H (OR (bn iD) jr);have f:=h.em a;have wp:ak .i64 (pc+1)=pc+1:=ju (by omega) (by omega);have d:Fr Em H (H1.set H.au (OR (bn ⟨k,pc+1,0,0,0⟩) jr)):=a.set (.inr (qm _)) _;have ld:=JH (xg H1 H.au (OR (bn ⟨k,pc+1,0,0,0⟩) jr));simp only[ae,bc,xix,rK,<-e1,f.lp,wp,Dw,FQ e,ld];exact d
def UH(h:zB i rs pc b H)(hp:0<=pc/\pc<1024)(q:Bool):zj M Q9 [.bool q,.ptr (b+2) 0,.ptr b 0] H λ w H'=>w=.agg (bn (oq i pc q))/\Fr Em H H':=by
 refine xiu ?_;obtain⟨w0,w2,a,k⟩:=xiv M ⟨B5,Q9⟩;obtain⟨H1,e1,l,-,j⟩:=cI H (OR (bn iD) jr);have m:=h.em l;have wp:ak .i64 (pc+1)=pc+1:=ju (by omega) (by omega);have l4:Op.ah [.ptr b 4] H1=B1 (.int .i64 i.AR):=m.li 4;have g:∀f,Fr Em H (H1.set H.au (OR (bn f) jr)):=λ f=>l.set (.inr (qm _)) _;have ld:∀f,Op.aw 5 [.ptr H.au 0] (H1.set H.au (OR (bn f) jr))=B1 (.agg (bn f)):=λ f=>JH (xg H1 H.au (OR (bn f) jr));cases q with
 |false =>
  simp only[ae,bc,w0,rK,<-e1,w2,m.lp,wp,Dw,FQ j,ld];exact⟨rfl,g _⟩
 |true =>
  by_cases d:i.AR<0
  .simp only[ae,bc,w0,rK,<-e1,w2,a,l4,d,uH,FQ j,ld];exact⟨by unfold oq;rw[xb rfl,xb (.inl d)],g _⟩
  by_cases e:(1024:Int)<i.AR
  .simp only[ae,bc,w0,rK,<-e1,w2,a,l4,d,e,uH,FQ j,ld];exact⟨by unfold oq;rw[xb rfl,xb (.inr e)],g _⟩
  simp only[ae,bc,w0,rK,<-e1,w2,a,l4,d,e,k,Dw,FQ j,ld];exact⟨by unfold oq;rw[xb rfl,qv (λ q=>q.elim d e)],g _⟩
def YM(h:zB i rs pc b H)(d:rs.length=8)(n:Int):zj M Tv [.int .i64 n,.ptr (b+1) 0] H λ w H'=>w=.int .u64 (rg rs n)/\H'=H:=by
 refine xiy ?_;have hl:=YA n;have a:Op.bin .and [.int .i64 n,.int .i64 7]=B1 (.int .i64 ((pZ n:Nat):Int)):=by
  show B1 (AV.int .i64 (ak .i64 ((pZ n:Nat):Int)))=_;rw[ju (by omega) (by omega)]
 have ix:Op.bh 8 1 [.ptr (b+1) 0,.int .i64 ((pZ n:Nat):Int)]=B1 (.ptr (b+1) (pZ n)):=by
  simp only[Op.bh];rw[Mc (i:=pZ n) rfl hl];simp
 have ld:Op.ah [.ptr (b+1) (pZ n)] H=B1 (.int .u64 (rg rs n)):=by rw[zg (xe h.gr)];exact R8 d n
 simp only[ae,bc,xiz,a,ix,ld]
end
def GV{H:ar}(hs:pQ H){i:i9}{rs:List Int}{pc:Int}(J:rs.length=8)(hr:∀x∈rs,fJ x):zj M Ys [.agg (fZ i),.agg (rs.map uC),.int .i64 pc] H λ v H'=>v=.agg (bn (i.fV rs pc))/\Fr Em H H':=by
 refine Fc ?_;obtain⟨w0,w2,X,Y,Z,w22,O,m,p,r,s,u,B,A,G⟩:=af4 M ⟨B5,Ys⟩;obtain⟨H1,e1,f1,n1,-⟩:=cI H (OR (fZ i) AO);obtain⟨H2,e2,L,-,-⟩:=cI H1 (OR (rs.map uC) yZ);obtain⟨H3,S,I,-,-⟩:=cI H2 (OR [.int .i64 pc] bY);obtain⟨P,T,F,-,-⟩:=cI H3 (OR (bn iD) jr);have n2:H2.au=H.au+2:=by rw[e2,xz,n1]
 have V:H3.au=H.au+3:=by rw[S,xz,n2]
 have n4:P.au=H.au+4:=by rw[T,xz,V]
 have f4:Fr Em H P:=((f1.trans L λ _ q=>q.elim).trans I λ _ q=>q.elim).trans F λ _ q=>q.elim;have hM:zB i rs pc H.au P:=by
  refine⟨?_,?_,?_,?_,by omega⟩
  .rw [F.ai _ (by omega) id,I.ai _ (by omega) id,L.ai _ (by omega) id,e1,xr]
  .rw [F.ai _ (by omega) id,I.ai _ (by omega) id,e2,<-n1,xr]
  .rw [F.ai _ (by omega) id,S,<-n2,xr]
  .rw [T,<-V,xr]
 have c1:AV.cells (.agg (fZ i))=fZ i:=z6 _;have c2:AV.cells (.agg (rs.map uC))=rs.map uC:=z6 _;have c3:AV.cells (.int .i64 pc)=[.int .i64 pc]:=rfl;simp only[ae,bc,w0,c1,<-e1,c2,<-e2,c3,<-S,rK,<-T,n1,n2,V,w2];have li:Op.aw 5 [.ptr H.au 0] P=B1 (.agg (fZ i)):=by rw[tD (c:=fZ i) (xe hM.gi) (by simp[fZ])];rfl
 simp only[ae,bc,li];refine C3.q (xh3 (hs.em f4) i) λ v K⟨l,f5⟩=>?_;subst l;have d:=hM.em f5;have j:=f4.trans f5 λ _ q=>q.elim
 -- the end
 have fin:∀{z:ar},zB i rs pc H.au z->Fr Em H z->(∀f,Op.store 5 [.ptr (H.au+3) 0,.agg (bn f)] z=B1 (.undef,z.set (H.au+3) (OR (bn f) jr)))/\(∀f,Op.aw 5 [.ptr (H.au+3) 0] (z.set (H.au+3) (OR (bn f) jr))=B1 (.agg (bn f))) /\ ∀f,Fr Em H (z.set (H.au+3) (OR (bn f) jr)):=λ{z}hx fx =>
  ⟨λ f=>FQ hx.ge,λ f=>JH (xg z (H.au+3) (OR (bn f) jr)),λ f=>fx.set (.inr (by omega)) _⟩
 by_cases hb:¬i.mH\/pc<0\/1024<=pc
 .have hd:i.fV rs pc=iD:=by unfold i9.fV;rw[xb hb]
  rw[hd];have⟨st,ld,k⟩:=fin d j
  by_cases Q:i.mH
  .by_cases E:pc<0
   .simp only[ae,bc,yq Q,d.lp,E,uH,st,ld];exact k _
   .have W:(1024:Int)<=pc:=by rcases hb with q|q|q;exact(q Q).elim;omega;exact q
    simp only[ae,bc,yq Q,d.lp,E,W,uH,st,ld];exact k _
  .simp only[ae,bc,yo Q,uH,st,ld];exact k _
 have D:i.mH:=kj.1 λ q=>hb (.inl q);have E:¬pc<0:=λ q=>hb (.inr (.inl q));have W:¬(1024:Int)<=pc:=λ q=>hb (.inr (.inr q));have hp:0<=pc/\pc<1024:=⟨by omega,by omega⟩
 have wp:ak .i64 (pc+1)=pc+1:=ju (by omega) (by omega);have mk1:Op.bB Sq 0 [.ptr (H.au+2) 0,.ptr H.au 0]=B1 (.fn (.func Sq) [] [.ptr (H.au+2) 0,.ptr H.au 0]):=rfl;have mk2:Op.bB Q9 0 [.ptr (H.au+2) 0,.ptr H.au 0]=B1 (.fn (.func Q9) [] [.ptr (H.au+2) 0,.ptr H.au 0]):=rfl;have mk3:Op.bB Um 0 [.ptr (H.au+2) 0]=B1 (.fn (.func Um) [] [.ptr (H.au+2) 0]):=rfl;have mk4:Op.bB Tv 0 [.ptr (H.au+1) 0]=B1 (.fn (.func Tv) [] [.ptr (H.au+1) 0]):=rfl;have k1:Op.ah [.ptr H.au 1] K=B1 (.int .i64 i.a):=d.li 1;have k2:Op.ah [.ptr H.au 2] K=B1 (.int .i64 i.b):=d.li 2;have U:Op.ah [.ptr H.au 3] K=B1 (.int .i64 i.c):=d.li 3;have k4:Op.ah [.ptr H.au 4] K=B1 (.int .i64 i.AR):=d.li 4;have k0:Op.ah [.ptr H.au 0] K=B1 (.int .i64 i.op):=d.li 0;simp only[ae,bc,yq D,d.lp,E,W,X,Y,Z,k1,k2,U];refine C3.q (YM d J i.a) λ v R⟨l,N⟩=>?_;subst l;subst N;simp only[ae,bc,k2,U];refine C3.q (YM d J i.b) λ v R⟨l,N⟩=>?_;subst l;subst N;simp only[ae,bc,U];refine C3.q (YM d J i.c) λ v R⟨l,N⟩=>?_;subst l;subst N;have ra:=RY J hr i.a;have rb:=RY J hr i.b;have rc:=RY J hr i.c;simp only[ae,bc,k4,w22,k0];have hop:1<=i.op/\i.op<=18:=⟨D.1,D.2.1⟩
 -- what is told
 have t:∀{f:oK}{z:ar},f=i.fV rs pc->Fr Em H z->AV.agg (bn f)=.agg (bn (i.fV rs pc))/\Fr Em H z:=λ e q=>⟨by rw[e],q⟩
 have C:i.op=1\/i.op=2\/i.op=3\/i.op=4\/i.op=5\/i.op=6\/i.op=7\/i.op=8\/i.op=9\/i.op=10\/i.op=11\/i.op=12\/i.op=13\/i.op=14\/i.op=15\/i.op=16\/i.op=17\/i.op=18:=by omega
 have cl:∀{x:AV}{f:oK}{z:ar},x=.agg (bn f)->Fr Em R z->zB i rs pc H.au z/\Fr Em H z:=λ _ q=>⟨d.em q,j.trans q λ _ w=>w.elim⟩
 rcases C with o|o|o|o|o|o|o|o|o|o|o|o|o|o|o|o|o|o
 .simp only[ae,bc,o,ub];refine C3.q (Xc d hp 7) λ v y⟨l,h⟩=>?_;subst l;have g:=j.trans h λ _ w=>w.elim;have⟨st,ld,k⟩:=fin (d.em h) g;simp only[ae,bc,st,ld];refine t ?_ (k _);unfold i9.fV;rw[qv hb];simp[o]
 .simp only[ae,bc,o,Sp,ub,k4];refine C3.q (Gk d hp (ak .u64 i.AR)) λ v y⟨l,h⟩=>?_;subst l;have g:=j.trans h λ _ w=>w.elim;have⟨st,ld,k⟩:=fin (d.em h) g;simp only[ae,bc,st,ld];refine t ?_ (k _);unfold i9.fV;rw[qv hb];simp[o]
 .simp only[ae,bc,o,Sp,ub,m];refine C3.q (Gk d hp (rg rs i.b)) λ v y⟨l,h⟩=>?_;subst l;have g:=j.trans h λ _ w=>w.elim;have⟨st,ld,k⟩:=fin (d.em h) g;simp only[ae,bc,st,ld];refine t ?_ (k _);unfold i9.fV;rw[qv hb];simp[o]
 .simp only[ae,bc,o,Sp,ub,m];refine C3.q (Gk d hp _) λ v y⟨l,h⟩=>?_;subst l;have g:=j.trans h λ _ w=>w.elim;have⟨st,ld,k⟩:=fin (d.em h) g;simp only[ae,bc,st,ld];refine t ?_ (k _);unfold i9.fV;rw[qv hb];simp[o,F1]
 .simp only[ae,bc,o,Sp,ub,m,p];refine C3.q (Gk d hp _) λ v y⟨l,h⟩=>?_;subst l;have g:=j.trans h λ _ w=>w.elim;have⟨st,ld,k⟩:=fin (d.em h) g;simp only[ae,bc,st,ld];refine t ?_ (k _);unfold i9.fV;rw[qv hb];simp[o,F1]
 .simp only[ae,bc,o,Sp,ub,m,p];refine C3.q (Gk d hp _) λ v y⟨l,h⟩=>?_;subst l;have g:=j.trans h λ _ w=>w.elim;have⟨st,ld,k⟩:=fin (d.em h) g;simp only[ae,bc,st,ld];refine t ?_ (k _);unfold i9.fV;rw[qv hb];simp[o,F1]
 .have q:Op.bin .and [.int .u64 (rg rs i.b),.int .u64 (rg rs i.c)]=B1 (.int .u64 (F1 7 (rg rs i.b) (rg rs i.c))):=rfl;simp only[ae,bc,o,Sp,ub,m,p,r,q];refine C3.q (Gk d hp _) λ v y⟨l,h⟩=>?_;subst l;have g:=j.trans h λ _ w=>w.elim;have⟨st,ld,k⟩:=fin (d.em h) g;simp only[ae,bc,st,ld];refine t ?_ (k _);unfold i9.fV;rw[qv hb];simp[o]
 .have q:Op.bin .xor [.int .u64 (rg rs i.b),.int .u64 (rg rs i.c)]=B1 (.int .u64 (F1 8 (rg rs i.b) (rg rs i.c))):=rfl;simp only[ae,bc,o,Sp,ub,m,p,r,q];refine C3.q (Gk d hp _) λ v y⟨l,h⟩=>?_;subst l;have g:=j.trans h λ _ w=>w.elim;have⟨st,ld,k⟩:=fin (d.em h) g;simp only[ae,bc,st,ld];refine t ?_ (k _);unfold i9.fV;rw[qv hb];simp[o]
 .have q:Op.bin .rem [.int .u64 (rg rs i.c),.int .u64 64]=B1 (.int .u64 (((rg rs i.c % 64).toNat:Nat):Int)):=by
   rw[sI .u64 _ _ (by decide),R9 rc.1];congr 2;omega
  have E:=JU .u64 .u64 (rg rs i.b) (rg rs i.c % 64).toNat;rw[show PD.u64.bits=64 from rfl,show min (rg rs i.c % 64).toNat 64=(rg rs i.c % 64).toNat by omega]at E;simp only[ae,bc,o,Sp,ub,m,p,r,s,q,E];refine C3.q (Gk d hp _) λ v y⟨l,h⟩=>?_;subst l;have g:=j.trans h λ _ w=>w.elim;have⟨st,ld,k⟩:=fin (d.em h) g;simp only[ae,bc,st,ld];refine t ?_ (k _);unfold i9.fV;rw[qv hb];simp[o,F1]
 .have q:Op.bin .rem [.int .u64 (rg rs i.c),.int .u64 64]=B1 (.int .u64 (((rg rs i.c % 64).toNat:Nat):Int)):=by
   rw[sI .u64 _ _ (by decide),R9 rc.1];congr 2;omega
  have E:=OG .u64 .u64 (rg rs i.b) (rg rs i.c % 64).toNat;rw[show PD.u64.bits=64 from rfl,show min (rg rs i.c % 64).toNat 64=(rg rs i.c % 64).toNat by omega,I0 rb]at E;simp only[ae,bc,o,Sp,ub,m,p,r,s,q,E];refine C3.q (Gk d hp _) λ v y⟨l,h⟩=>?_;subst l;have g:=j.trans h λ _ w=>w.elim;have⟨st,ld,k⟩:=fin (d.em h) g;simp only[ae,bc,st,ld];refine t ?_ (k _);unfold i9.fV;rw[qv hb];simp[o,F1]
 .have ⟨st,ld,k⟩:=fin d j;simp only[ae,bc,o,Sp,ub,m,p,r,s,u,d.lp,wp,k1,bdL,st,ld];refine t ?_ (k _);unfold i9.fV;rw[qv hb];simp[o]
 .have ⟨st,ld,k⟩:=fin d j;simp only[ae,bc,o,Sp,ub,m,p,r,s,u,d.lp,wp,aa4,st,ld];refine t ?_ (k _);unfold i9.fV;rw[qv hb];simp[o]
 .simp only[ae,bc,o,Sp,ub,m,p,r,s,u,B];refine C3.q (UH d hp B4) λ v y⟨l,h⟩=>?_;subst l;have g:=j.trans h λ _ w=>w.elim;have⟨st,ld,k⟩:=fin (d.em h) g;simp only[ae,bc,st,ld];refine t ?_ (k _);unfold i9.fV;rw[qv hb];simp[o]
 .simp only[ae,bc,o,Sp,ub,m,p,r,s,u,B];refine C3.q (UH d hp (decide (rg rs i.a=rg rs i.b))) λ v y⟨l,h⟩=>?_;subst l;have g:=j.trans h λ _ w=>w.elim;have⟨st,ld,k⟩:=fin (d.em h) g;simp only[ae,bc,st,ld];refine t ?_ (k _);unfold i9.fV;rw[qv hb];simp[o]
 .simp only[ae,bc,o,Sp,ub,m,p,r,s,u,B,A];refine C3.q (UH d hp (decide (rg rs i.a≠rg rs i.b))) λ v y⟨l,h⟩=>?_;subst l;have g:=j.trans h λ _ w=>w.elim;have⟨st,ld,k⟩:=fin (d.em h) g;simp only[ae,bc,st,ld];refine t ?_ (k _);unfold i9.fV;rw[qv hb];simp[o]
 .simp only[ae,bc,o,Sp,ub,m,p,r,s,u,B,A];refine C3.q (UH d hp (decide (rg rs i.a<rg rs i.b))) λ v y⟨l,h⟩=>?_;subst l;have g:=j.trans h λ _ w=>w.elim;have⟨st,ld,k⟩:=fin (d.em h) g;simp only[ae,bc,st,ld];refine t ?_ (k _);unfold i9.fV;rw[qv hb];simp[o]
 .simp only[ae,bc,o,Sp,ub,m,p,r,s,u,B,A,G];refine C3.q (Xc d hp 5) λ v y⟨l,h⟩=>?_;subst l;have g:=j.trans h λ _ w=>w.elim;have⟨st,ld,k⟩:=fin (d.em h) g;simp only[ae,bc,st,ld];refine t ?_ (k _);unfold i9.fV;rw[qv hb];simp[o]
 .simp only[ae,bc,o,Sp,ub,m,p,r,s,u,B,A,G,O];refine C3.q (Xc d hp 6) λ v y⟨l,h⟩=>?_;subst l;have g:=j.trans h λ _ w=>w.elim;have⟨st,ld,k⟩:=fin (d.em h) g;simp only[ae,bc,st,ld];refine t ?_ (k _);unfold i9.fV;rw[qv hb];simp[o]
end Go.Am
namespace Go.Am
open Lang Go.Proofs
def At(H:ar)(p t:Nat)(c:List AV):Prop:=H.get p=B1 (OR c t)/\p<H.au
section
variable{H H':ar}{p t:Nat}{c:List AV}
def At.ld(h:At H p t c)(k:Nat):Op.ah [.ptr p k] H=c[k]?:=zg (xe h.1) k
def At.fC(h:At H p t c){k n:Nat}(hn:k+n<=c.length):Op.aw n [.ptr p k] H=B1 (.agg ((c.drop k).take n)):=tD (xe h.1) hn
def At.ij(h:At H p t c){k n:Nat}{v:AV}(b:v.cells.length=n)(hn:k+n<=c.length)(a:aS v.cells=B4):Op.store n [.ptr p k,v] H=B1 (.undef,H.set p (OR (c.take k++v.cells++c.drop (k+n)) t)):=wF h.1 b hn a
def Bb{α:Type}:∀(c:List α)(k:Nat)(v:α),k<c.length->c.take k ++ [v]++c.drop (k+1)=c.set k v
 |[],k,v,h=>absurd h (Nat.not_lt_zero _)
 |x::c,0,v,_=>rfl
 |x::c,k+1,v,h=>congrArg (x :: ·) (Bb c k v (Nat.lt_of_succ_lt_succ h))
def zY{v:AV}(h:aA v=B4):v.cells=[v]:=by
 cases v<;>first|rfl|cases h
def At.st(h:At H p t c)(k:Nat){v:AV}(a:aA v=B4)(hk:k<c.length):Op.store 1 [.ptr p k,v] H=B1 (.undef,H.set p (OR (c.set k v) t)):=by
 have e:=zY a;rw[h.ij (n:=1) (by rw[e];rfl) hk (by rw[e,vk];simp[a]),e,Bb c k v hk]
def At.set(h:At H p t c)(a:List AV):At (H.set p (OR a t)) p t a:=⟨xg ..,h.2⟩
def At.fr{W:Nat->Prop}(h:At H p t c)(f:Fr W H H')(hw:¬W p):At H' p t c:=⟨(f.ai p h.2 hw).trans h.1,qn h.2 f.au⟩
def At.em(h:At H p t c)(f:Fr Em H H'):At H' p t c:=h.fr f id
def At.new(H:ar)(c:List AV)(t:Nat):At (H.alloc (OR c t)) H.au t c:=⟨xr ..,zy _⟩
def cm(H:ar)(p:Nat)(o:bF):Fr (On p) H (H.set p o):=(Fr.refl H).set (W:=On p) (.inl rfl) o
end
variable{M:ao}[MK M]
def eB{f:Nat}{vs:List AV}{H:ar}{v:AV}(h:zj M f vs H λ w X=>w=v/\X=H)(K:Bool->AV->ar->Prop):C3 M B4 (.func f) vs H K=K B4 v H:=by
 obtain⟨w,X,⟨n1,d⟩,rfl,rfl⟩:=h.elim;refine propext ⟨?_,λ k=>⟨w,X,⟨n1,d⟩,k⟩⟩;rintro⟨e,X',⟨n2,g⟩,k⟩;have a:=d (max n1 n2) (by omega);rw[g (max n1 n2) (by omega)]at a;injection a with a
 injection a with a b
 injection b with _ b
 injection a with a
 subst a;subst b;exact k
def aB:(∀b o H,Op.eq .ptr B2 [.ptr b o,.nilp] H=B1 (.bool B2))/\(∀b o H,Op.eq .ptr B4 [.ptr b o,.nilp] H=B1 (.bool B4))/\(∀H,Op.eq .ptr B2 [.nilp,.nilp] H=B1 (.bool B4))/\(∀H,Op.eq .ptr B4 [.nilp,.nilp] H=B1 (.bool B2))/\(∀b o,Op.nilCheck [.ptr b o]=B1 (.ptr b o))/\(∀i l,Op.extract i [.tuple l]=l[i]?):=⟨y9,lK,Qb,uz,qt,xm⟩
def iZ{o:Nat->Nat}{n k z:Nat}(h:z<n):aP o n k z=o z:=xb h
def nj{o:Nat->Nat}{n k z:Nat}(h:n<=z):aP o n k z=k:=qv (by omega)
def cz(x:Fi)(pv:AV):List AV:=x.rs.map uC ++ [.int .i64 x.pc,pv,.bool B4]
def gy(x:List Int×Int):List AV:=x.1.map uC ++ [.int .i64 x.2]
structure Zg(x:List Int×Int):Prop where
 r8:x.1.length=8
 ru:∀v∈x.1,fJ v
 pc:0<=x.2
def Qy(H:ar)(o:Nat->Nat)(f:Nat)(pv:AV):Option (List Int×Int)->Prop
 |none=>pv=.nilp
 |some x=>Zg x /\ ∃b,pv=.ptr b 0/\At H b OT (gy x)/\o b=2/\b≠f
structure qF(H:ar)(o:Nat->Nat)(f:Nat)(x:Fi):Prop where
 w:Zg (x.rs,x.pc)
 at':∃pv,At H f IZ (cz x pv)/\Qy H o f pv x.pt
section
variable{H H':ar}{o o':Nat->Nat}{f:Nat}{x:Fi}
def NV{rs:List Int}(h:rs.length=8)(k:Nat)(l:List AV):(rs.map uC++l)[8+k]? = l[k]?:=by
 rw[zw (by simp[h])];simp[h]
def J2{rs:List Int}(h:rs.length=8)(l:List AV):(rs.map uC++l).length=8+l.length:=by simp[h]
def Uh{rs:List Int}(h:rs.length=8)(l:List AV)(n:Nat):(rs.map uC++l).take (8+n)=rs.map uC++l.take n:=by
 rw[show 8+n=(rs.map uC).length+n by simp[h],Uy]
def Lu{rs:List Int}(h:rs.length=8)(l:List AV)(n:Nat):(rs.map uC++l).drop (8+n)=l.drop n:=by
 rw[show 8+n=(rs.map uC).length+n by simp[h],Rj]
def Qy.fr{W:Nat->Prop}{pv:AV}{x:Option (List Int×Int)}(h:Qy H o f pv x)(a:Fr W H H')(hw:∀z,z<H.au->o z=2->z≠f -> ¬W z)(ho:∀z,z<H.au->o' z=o z):Qy H' o' f pv x:=by
 cases x with
 |none=>exact h
 |some x =>
  have⟨i,b,j,d,e,g⟩:=h;exact⟨i,b,j,d.fr a (hw b d.2 e g),(ho b d.2).trans e,g⟩
def qF.fr{W:Nat->Prop}(h:qF H o f x)(a:Fr W H H')(e:o f=2)(hw:∀z,z<H.au->o z=2 -> ¬W z)(ho:∀z,z<H.au->o' z=o z):qF H' o' f x:=by
 have⟨pv,b,d⟩:=h.at';exact⟨h.w,pv,b.fr a (hw f b.2 e),d.fr a (λ z q w _=>hw z q w) ho⟩
def qF.em(h:qF H o f x)(a:Fr Em H H'):qF H' o f x:=by
 have⟨pv,b,d⟩:=h.at';exact⟨h.w,pv,b.em a,d.fr a (λ _ _ _ _ q=>q) λ _ _=>rfl⟩
def qF.row(h:qF H o f x){pv:AV}(a:At H f IZ (cz x pv))(b:Qy H o f pv x.pt){y:Fi}(d:Zg (y.rs,y.pc))(hp:y.pt=x.pt):qF (H.set f (OR (cz y pv) IZ)) (aP o H.au 2) f y :=
 ⟨d,pv,a.set _,hp▸b.fr (cm H f _) (λ z _ _ q=>q) λ z q=>iZ q⟩
def qF.same(h:qF H o f x):qF H (aP o H.au 2) f x:=by
 have⟨pv,a,b⟩:=h.at';exact⟨h.w,pv,a,b.fr (Fr.refl H) (λ z _ _ _ q=>q) λ z q=>iZ q⟩
def mP(h:qF H o f x):∀K,C3 M B4 (.func _V) [.ptr f 0] H K=K B4 (.bool B2) H:=by
 obtain⟨pv,a,-⟩:=h.at';have l:=(a.ld 10).trans (NV h.w.r8 2 _);refine eB (q03 ?_);simp only[ae,bc,q04,aB,l]
def my(h:qF H o f x):∀K,C3 M B4 (.func qmf) [.ptr f 0] H K=K B4 (.int .i64 (if x.pt.isSome then 0 else 60)) H:=by
 have⟨pv,d,a⟩:=h.at';have l:=(d.ld 9).trans (NV h.w.r8 1 _);refine eB (qwh ?_);cases q:x.pt with
 |none =>
  rw[q]at a;have a:pv=.nilp:=a;subst a;simp only[ae,bc,L_,aB,mP h,l,BL,zu]
 |some y =>
  rw[q]at a;obtain⟨-,b,rfl,-⟩:=a;simp only[ae,bc,L_,aB,mP h,l,BL]
def CH(h:qF H o f x)(i:Int):∀K,C3 M B4 (.func T_) [.ptr f 0,.int .i64 i] H K=K B4 (.int .i64 (if 0<=i/\i<8 then 0 else 2)) H:=by
 refine eB (qyj ?_)
 by_cases a:i<0
 .simp only[ae,bc,Zz,mP h,a,qv (λ q:0<=i/\i<8=>HV.2 q.1 a)]
 by_cases b:(8:Int)<=i
 .simp only[ae,bc,Zz,mP h,a,b,qv (λ q:0<=i/\i<8=>HV.2 b q.2)]
 .simp only[ae,bc,Zz,mP h,a,b,xb (show 0<=i/\i<8 by omega)]
def Mx(H:ar)(o:Nat->Nat)(f:Nat)(y:Fi)(H':ar):Prop:=qF H' (aP o H.au 2) f y/\Fr (On f) H H'
def Ki(h:qF H o f x)(i:Int){v:Int}(k:fJ v):zj M Xb [.ptr f 0,.int .i64 i,.int .u64 v] H λ _ H'=>Mx H o f (x.set i v) H':=by
 refine q55 ?_;unfold Fi.set
 by_cases b:0<=i/\i<8
 .rw [xb b];have⟨pv,g,j⟩:=h.at';have d:=h.w.r8;obtain⟨a,rfl⟩:=jx b.1;have ha:a<8:=by omega
  have ix:Op.bh 8 1 [.ptr f 0,.int .i64 (a:Int)]=B1 (.ptr f a):=by rw[TK rfl ha];simp
  have e:(cz x pv).set a (.int .u64 v)=cz {x with rs:=x.rs.set a v} pv:=by
   unfold cz;rw[List.set_append_left _ _ (by simp[d];exact ha),List.map_set];rfl
  have st:=g.st a (v:=.int .u64 v) rfl (by unfold cz;rw[J2 d];omega);rw[e]at st;simp only[ae,bc,qrr,aB,CH h,xb b,ix,st];refine⟨h.row g j ⟨by simp[d],λ y q=>(FU q).elim (h.w.ru y) λ e=>e▸k,h.w.pc⟩ rfl,cm ..⟩
 .rw [qv b];have m:¬(2:Int)=0:=by decide
  simp only[ae,bc,qrr,CH h,qv b,m];exact⟨h.same,Fr.refl _⟩
def J0(h:qF H o f x)(i:Int):zj M _e [.ptr f 0,.int .i64 i] H λ _ H'=>Mx H o f (x.jump i) H':=by
 refine q00 ?_;unfold Fi.jump
 by_cases a:i<0
 .rw [xb a];simp only[ae,bc,qp1,mP h,a];exact⟨h.same,Fr.refl _⟩
 .rw [qv a];have⟨pv,d,g⟩:=h.at';have b:=h.w.r8;have e:(cz x pv).set 8 (.int .i64 i)=cz {x with pc:=i} pv:=by
   unfold cz;rw[Og _ _ (by simp[b])];simp[b]
  have st:=d.st 8 (v:=.int .i64 i) rfl (by unfold cz;rw[J2 b];simp);rw[e]at st;simp only[ae,bc,qp1,aB,mP h,a,st];exact⟨h.row d g ⟨b,h.w.ru,HV.1 a⟩ rfl,cm ..⟩
def fpc(h:qF H o f x):∀K,C3 M B4 (.func qs7) [.ptr f 0] H K=K B4 (.int .i64 x.pc) H:=by
 obtain⟨pv,a,-⟩:=h.at';have l:=(a.ld 8).trans (NV h.w.r8 0 _);refine eB (q7l ?_);simp only[ae,bc,q7m,aB,mP h,l]
def WG(h:qF H o f x):zj M R_ [.ptr f 0] H λ v H'=>v=.agg (x.rs.map uC)/\Fr Em H H':=by
 refine q53 ?_;obtain⟨H1,e1,b,-,-⟩:=cI H (OR (Jv 8 (.int .u64 0)) yZ);have d:At H1 H.au yZ _:=e1▸At.new H _ _;obtain⟨pv,g,-⟩:=(h.em b).at';have a:=h.w.r8;have l:=g.fC (k:=0) (n:=8) (by unfold cz;rw[J2 a];simp);rw[yt,show 8=8+0 from rfl,cz,Uh a,kz,zn]at l;have s:=d.ij (k:=0) (n:=8) (v:=.agg (x.rs.map uC)) (by simp[z6,a]) (by simp) (by rw[z6,vk];simp[uC,aA]);rw[z6,kz,z7,jo (by simp),zn]at s;have l2:=((d.set (x.rs.map uC)).fC (k:=0) (n:=8) (by simp[a]))
 rw[yt,zq (by simp[a])]at l2;have e:[AV.int .u64 0,.int .u64 0,.int .u64 0,.int .u64 0,.int .u64 0,.int .u64 0,.int .u64 0,.int .u64 0]=Jv 8 (.int .u64 0):=rfl;simp only[ae,bc,q54,aB,e,<-e1,mP (h.em b),l,s,l2];exact b.set (.inr (qm _)) _
def KL{pv:AV}(b:At H f IZ (cz x pv))(a:x.rs.length=8):Op.aw 9 [.ptr f 0] H=B1 (.agg (gy (x.rs,x.pc))):=by
 have l:=b.fC (k:=0) (n:=9) (by unfold cz;rw[J2 a];simp);rw[yt,show 9=8+1 from rfl,cz,Uh a]at l;exact l
def W6{pv:AV}(b:At H f IZ (cz x pv))(a:x.rs.length=8):Op.aw 8 [.ptr f 0] H=B1 (.agg (x.rs.map uC)):=by
 have l:=b.fC (k:=0) (n:=8) (by unfold cz;rw[J2 a];simp);rw[yt,show 8=8+0 from rfl,cz,Uh a,kz,zn]at l;exact l
def BH(y:List Int×Int):aS (gy y)=true:=by unfold gy;rw[vk];simp[uC,aA]
def Rc{y:List Int×Int}(h:y.1.length=8):(gy y).length=9:=by simp[gy,h]
def z9:[AV.int .u64 0,.int .u64 0,.int .u64 0,.int .u64 0,.int .u64 0,.int .u64 0,.int .u64 0,.int .u64 0,.int .i64 0]=gy (Jv 8 0,0):=rfl
def OY(h:qF H o f x):zj M qpo [.ptr f 0] H λ _ H'=>Mx H o f x.save H':=by
 refine q01 ?_;have⟨pv,b,y⟩:=h.at';have a:=h.w.r8;obtain⟨H1,e1,u,-,-⟩:=cI H (OR (gy (Jv 8 0,0)) OT);have g:At H1 H.au OT _:=e1▸At.new H _ _;have s:=g.ij (k:=0) (n:=9) (v:=.agg (gy (x.rs,x.pc))) (by rw[z6];exact Rc a) (by simp[gy]) (by rw[z6];exact BH _);rw[z6,kz,z7,jo (by simp[gy]),zn]at s;obtain⟨d,e2⟩:∃X,X=H1.set H.au (OR (gy (x.rs,x.pc)) OT):=⟨_,rfl⟩
 rw[<-e2]at s;have r:At d H.au OT (gy (x.rs,x.pc)):=e2▸g.set _;have i:Fr Em H d:=e2▸u.set (.inr (qm _)) _;have j:=b.em i;have e:(cz x pv).set 9 (.ptr H.au 0)=cz x.save (.ptr H.au 0):=by
  unfold cz;rw[Og _ _ (by simp[a])];simp[a,Fi.save]
 have st:=j.st 9 (v:=.ptr H.au 0) rfl (by unfold cz;rw[J2 a];simp);rw[e]at st;simp only[ae,bc,q02,aB,mP h,KL b a,z9,<-e1,s,st];have m:H.au≠f:=λ q=>by have:=b.2;omega
 exact⟨⟨h.w,_,j.set _,h.w,_,rfl,r.fr (cm ..) (λ q=>m q),nj (qm _),m⟩,(i.mono (W':=On f) λ _ _ q=>q.elim).trans (cm ..) λ z q=>.inl q⟩
def Px(h:qF H o f x):zj M i_ [.ptr f 0] H λ _ H'=>Mx H o f x.drop H':=by
 refine q0z ?_;have⟨pv,b,g⟩:=h.at';have a:=h.w.r8;cases q:x.pt with
 |none =>
  have e:x.drop=x:=by unfold Fi.drop;cases x;simp only at q;rw[q]
  rw[e];have d:¬(60:Int)=0:=by decide
  simp only[ae,bc,qp0,my h,q,BL,zu,d];exact⟨h.same,Fr.refl _⟩
 |some y =>
  have e:(cz x pv).set 9 .nilp=cz x.drop .nilp:=by
   unfold cz;rw[Og _ _ (by simp[a])];simp[a,Fi.drop]
  have st:=b.st 9 (v:=.nilp) rfl (by unfold cz;rw[J2 a];simp);rw[e]at st;simp only[ae,bc,qp0,aB,my h,q,BL,st];exact⟨⟨h.w,_,b.set _,rfl⟩,cm ..⟩
def XW{a b:List Int}(ha:a.length=8)(hb:b.length=8)(H:ar):Op.eq (.agg (.part 0 B5 .int (.part 1 B5 .int (.part 2 B5 .int (.part 3 B5 .int (.part 4 B5 .int (.part 5 B5 .int (.part 6 B5 .int (.part 7 B5 .int .nil))))))))) B4 [.agg (a.map uC),.agg (b.map uC)] H=B1 (.bool (decide (a≠b))):=by
 match a,ha,b,hb with
 |[a0,a1,a2,a3,a4,a5,a6,a7],_,[b0,b1,b2,b3,b4,b5,b6,b7],_ =>
  refine(TI _ _ _ _ (decide ([a0,a1,a2,a3,a4,a5,a6,a7]=[b0,b1,b2,b3,b4,b5,b6,b7])) ?_).trans (by simp);simp only[j7,FP,uC,aX,partAt,kD,ja,zp,qr,rT,iY,J8,xv,PH,zz,tG]
  by_cases d:a0=b0<;>by_cases e:a1=b1<;>by_cases g:a2=b2<;>by_cases h:a3=b3<;>simp only[d,e,g,h,decide_true,Ji,xv,zo,Eo,false_and,and_false]<;>by_cases i:a4=b4<;>by_cases j:a5=b5<;>by_cases k:a6=b6<;>by_cases m:a7=b7<;>simp only[i,j,k,m,decide_true,Ji,xv,zo,Eo,false_and,and_false]
def xgw(h:qF H o f x):zj M qlg [.ptr f 0] H λ _ H'=>Mx H o f x.restore H':=by
 refine que ?_;have⟨pv,g,j⟩:=h.at';have a:=h.w.r8;cases q:x.pt with
 |none =>
  have e:x.restore=x:=by unfold Fi.restore;rw[q]
  rw[e];have F:¬(60:Int)=0:=by decide
  simp only[ae,bc,TR,my h,q,BL,zu,F];exact⟨h.same,Fr.refl _⟩
 |some y =>
  rw[q]at j;have m:=j;obtain⟨d,b,rfl,hb,I,G⟩:=j;have e:x.restore=⟨y.1,y.2,B1 y⟩:=by unfold Fi.restore;rw[q]
  have r:=(g.ld 9).trans (NV a 1 _);have A:=(g.ld 8).trans (NV a 0 _);have B:=(hb.ld 8).trans (NV d.r8 0 _);have u:Op.aw 8 [.ptr b 0] H=B1 (.agg (y.1.map uC)):=by
   have l:=hb.fC (k:=0) (n:=8) (by rw[Rc d.r8];decide);rw[yt,show 8=8+0 from rfl,gy,Uh d.r8,kz,zn]at l;exact l
  have C:Op.aw 9 [.ptr b 0] H=B1 (.agg (gy y)):=by
   have l:=hb.fC (k:=0) (n:=9) (by rw[Rc d.r8];decide);rw[yt,zq (by rw[Rc d.r8];decide)]at l;exact l
  have s:=g.ij (k:=0) (n:=9) (v:=.agg (gy y)) (by rw[z6];exact Rc d.r8) (by unfold cz;rw[J2 a];simp) (by rw[z6];exact BH _);have e2:(cz x (.ptr b 0)).take 0++gy y++(cz x (.ptr b 0)).drop (0+9)=cz ⟨y.1,y.2,B1 y⟩ (.ptr b 0):=by
   rw[kz,z7,cz,show 0+9=8+1 from rfl,Lu a,gy,jb];rfl
  rw[z6,e2]at s
  by_cases i:x.rs=y.1/\x.pc=y.2
  .have D:x.restore=x:=by rw[e,<-i.1,<-i.2,<-q]
   rw[D];simp only[ae,bc,TR,aB,my h,q,BL,W6 g a,r,u,XW a d.r8,xf i.1,A,B,xf i.2];exact⟨h.same,Fr.refl _⟩
  .rw [e];have fin:Mx H o f ⟨y.1,y.2,B1 y⟩ (H.set f (OR (cz ⟨y.1,y.2,B1 y⟩ (.ptr b 0)) IZ)):=⟨h.row g (q▸m) d q.symm,cm ..⟩
   by_cases z:x.rs=y.1
   .have E:¬x.pc=y.2:=λ w=>i ⟨z,w⟩;simp only[ae,bc,TR,aB,my h,q,BL,W6 g a,r,u,XW a d.r8,xf z,A,B,E,C,s];exact fin
   .simp only[ae,bc,TR,aB,my h,q,BL,W6 g a,r,u,XW a d.r8,z,C,s];exact fin
end
end Go.Am
namespace Go.Am
open Lang Go.Proofs
variable{M:ao}[MK M]
def iC(x:Int):AV:=.int .i64 x
def dS(x:La):List AV:=x.fX.map iC++(iC x.lane::(x.jP.map iC ++ [.bool B4]))
structure LaW(x:La):Prop where
 b5:x.fX.length=5
 c5:x.jP.length=5
 l0:0<=x.lane
 l4:x.lane<=4
 b4:x.fX.getD 4 0≠0
structure lV(H:ar)(l:Nat)(x:La):Prop where
 w:LaW x
 at':At H l vj (dS x)
section
variable{H H':ar}{l:Nat}{x:La}
def lV.fr{W:Nat->Prop}(h:lV H l x)(a:Fr W H H')(hw:¬W l):lV H' l x:=⟨h.w,h.at'.fr a hw⟩
def lV.em(h:lV H l x)(a:Fr Em H H'):lV H' l x:=h.fr a id
def RQ(h:lV H l x){k:Nat}(hk:k<5):Op.ah [.ptr l k] H=B1 (iC (x.fX.getD k 0)):=by
 rw[h.at'.ld,dS,jw (by simp[h.w.b5];exact hk),xj,z8];have:k<x.fX.length:=by rw[h.w.b5];exact hk
 rw[qy this];rfl
def iM(h:lV H l x):Op.ah [.ptr l 5] H=B1 (.int .i64 x.lane):=by
 rw[h.at'.ld,dS,zw (by simp[h.w.b5])];simp[h.w.b5,iC]
def RH(h:lV H l x){k:Nat}(hk:k<5):Op.ah [.ptr l (6+k)] H=B1 (iC (x.jP.getD k 0)):=by
 rw[h.at'.ld,dS,zw (by simp[h.w.b5];omega),xu,h.w.b5,show 6+k-5=k+1 by omega,zp,jw (by simp[h.w.c5];exact hk),xj,z8];have:k<x.jP.length:=by rw[h.w.c5];exact hk
 rw[qy this];rfl
def P6(h:lV H l x):Op.ah [.ptr l 11] H=B1 (.bool B4):=by
 rw[h.at'.ld,dS,zw (by simp[h.w.b5])];simp[h.w.b5,h.w.c5]
def QW(h:lV H l x):Op.aw 5 [.ptr l 6] H=B1 (.agg (x.jP.map iC)):=by
 rw[h.at'.fC (by simp[dS,h.w.b5,h.w.c5]),dS,show 6=(x.fX.map iC).length+1 by simp[h.w.b5],Rj,LI,yt,ym (by simp[h.w.c5]),zq (by simp[h.w.c5])]
def JW(h:lV H l x){v:Int}(a:0<=v)(b:v<=4):Op.store 1 [.ptr l 5,.int .i64 v] H=B1 (.undef,H.set l (OR (dS {x with lane:=v}) vj))/\lV (H.set l (OR (dS {x with lane:=v}) vj)) l {x with lane:=v}:=by
 refine⟨?_,⟨h.w.b5,h.w.c5,a,b,h.w.b4⟩,h.at'.set _⟩;rw[h.at'.st 5 rfl (by simp[dS,h.w.b5]),dS,Og _ _ (by simp[h.w.b5])];simp[h.w.b5,dS,iC]
def Q2(h:lV H l x){k:Nat}(hk:k<5)(v:Int):Op.store 1 [.ptr l (6+k),.int .i64 v] H=B1 (.undef,H.set l (OR (dS {x with jP:=x.jP.set k v}) vj))/\lV (H.set l (OR (dS {x with jP:=x.jP.set k v}) vj)) l {x with jP:=x.jP.set k v}:=by
 refine⟨?_,⟨h.w.b5,by simp[h.w.c5],h.w.l0,h.w.l4,h.w.b4⟩,h.at'.set _⟩;rw[h.at'.st (6+k) rfl (by simp[dS,h.w.b5,h.w.c5];omega),dS,Og _ _ (by simp[h.w.b5];omega),xu,h.w.b5,show 6+k-5=k+1 by omega,List.set_cons_succ,List.set_append_left _ _ (by simp[h.w.c5];exact hk)];simp[dS,iC,List.map_set]
def JE(h:lV H l x):Op.store 5 [.ptr l 6,.agg (La.kW.map iC)] H=B1 (.undef,H.set l (OR (dS {x with jP:=La.kW}) vj))/\lV (H.set l (OR (dS {x with jP:=La.kW}) vj)) l {x with jP:=La.kW}:=by
 refine⟨?_,⟨h.w.b5,rfl,h.w.l0,h.w.l4,h.w.b4⟩,h.at'.set _⟩;rw[h.at'.ij (n:=5) rfl (by simp[dS,h.w.b5,h.w.c5]) rfl,dS,show 6=(x.fX.map iC).length+1 by simp[h.w.b5],Uy,wq,Rj];simp[dS,h.w.c5,z6]
def gC(h:lV H l x):∀K,C3 M B4 (.func qkd) [.ptr l 0] H K=K B4 (.bool B2) H:=by
 refine eB (qss ?_);simp only[ae,bc,qst,aB,P6 h]
def iP(h:lV H l x):∀K,C3 M B4 (.func qkc) [.ptr l 0] H K=K B4 (.int .i64 x.lane) H:=by
 refine eB (qsp ?_);simp only[ae,bc,qsq,aB,gC h,iM h]
def sD(h:lV H l x):∀K,C3 M B4 (.func v8) [.ptr l 0] H K=K B4 (.bool x.qO) H:=by
 refine eB (qso ?_);unfold La.qO
 by_cases q:x.lane=1
 .simp only[ae,bc,μ,aB,gC h,iM h,q,Bool.true_or]
 .simp only[ae,bc,μ,aB,gC h,iM h,q,Bool.false_or]
def z5:[AV.int .i64 0,.int .i64 0,.int .i64 0,.int .i64 0,.int .i64 0]=La.kW.map iC:=rfl
def QR(l:List Int):aS (l.map iC)=true:=by rw[vk];simp[iC,aA]
def I1(h:lV H l x):zj M qia [.ptr l 0] H λ v H'=>v=.agg (x.jP.map iC)/\Fr Em H H':=by
 refine qp7 ?_;obtain⟨H1,e1,b,-,-⟩:=cI H (OR (La.kW.map iC) sR);have a:At H1 H.au sR _:=e1▸At.new H _ _;have d:=h.em b;have s:=a.ij (k:=0) (n:=5) (v:=.agg (x.jP.map iC)) (by rw[z6,xu];exact h.w.c5) (by decide) (by rw[z6];exact QR _);rw[z6,kz,z7,jo (by decide),zn]at s;have l2:=((a.set (x.jP.map iC)).fC (k:=0) (n:=5) (by simp[h.w.c5]))
 rw[yt,zq (by simp[h.w.c5])]at l2;simp only[ae,bc,qp8,aB,z5,<-e1,gC d,QW d,s,l2];exact b.set (.inr (qm _)) _
def U9(h:lV H l x):zj M qlb [.ptr l 0] H λ v H'=>v=.int .i64 x.tries/\Fr Em H H':=by
 refine qt7 ?_;simp only[ae,bc,Xw];refine C3.q (I1 h) λ v H1⟨r,j⟩=>?_;subst r;simp only[ae,bc];have u:=h.w.c5;have ix:∀{i:Nat},i<5->Op.bD 5 1 B5 [.agg (x.jP.map iC),.int .i64 (i:Int)]=B1 (.int .i64 (x.jP.getD i 0)):=λ{i}g=>by
  have hl:i<x.jP.length:=by omega
  simp only[Op.bD,Mc rfl g,qr,Nat.mul_one,partAt,kD,xj,z8,qy hl];rfl
 refine dm.intro (λ n E d=>∃i:Nat,E=[(8,.int .i64 (i:Int)),(7,.agg (x.jP.map iC)),(3,.int .i64 ((x.jP.take i).foldl (λ n k=>ak .i64 (n+k)) 0)),(2,.int .i64 0),(0,.ptr l 0)]/\n=5-i/\i<=5/\d=H1) ?_ ?_
 .exact ⟨_,_,⟨0,rfl,rfl,x9 _,rfl⟩,by simp only[ae,bc];rfl⟩
 rintro n E d ⟨i,rfl,rfl,g,rfl⟩;rcases xw i 5 with b|m
 .have a:(i:Int)<5:=by omega
  have s:ak .i64 ((i:Int)+1)=((i+1:Nat):Int):=by rw[ju (by omega) (by omega)];omega
  simp only[ae,bc,Xw,a,ix b,s];have hl:i<x.jP.length:=by omega
  refine⟨_,_,⟨i+1,rfl,rfl,by omega⟩,?_,by omega⟩;rw[vg,List.foldl_append,qy hl,z8,qy hl];simp only[ae,bc];rfl
 .have a:¬(i:Int)<5:=by omega
  have e:x.jP.take i=x.jP:=zq (by omega);simp only[ae,bc,Xw,a,e];exact⟨rfl,j⟩
def Ac(fX:List Int)(k j:Nat):Bool:=fX.getD (k+1+j) 0 != 0
def pN(fX:List Int)(k:Nat):List (List AV):=((N7 (4-k)).filter (Ac fX k)).map λ j=>[.int .i64 ((k+1+j:Nat):Int)]
def xjh{H0:ar}{p q l k:Nat}{fX:List Int}(hp:H0.get p=B1 (OR [.ptr l 0] Rt))(hq:H0.get q=B1 (OR [.int .i64 (k:Int)] bY))(Z:p<H0.au)(hql:q<H0.au)(hk:k<=3) :
 vA M Oi [] [.ptr q 0,.ptr p 0] (λ z=>z=p\/z=q) (λ _=>False) (λ H=>∃y,lV H l y/\y.fX=fX) H0 (pN fX k):=by
 intro Y R S j H1 X L C D loc O hI step;have⟨p1,p2,p3⟩:=L p (.inl (.inl rfl));have⟨P,J,Q⟩:=L q (.inl (.inr rfl))
 suffices h:zj M Oi [.fn (.yield Y) [] [],.ptr q 0,.ptr p 0] H1 (Ic R S j (λ _=>False) H1 (pN fX k).length)by
  have⟨v,H',U,W',P,J,Q⟩:=h.elim;exact⟨v,H',W',U,P,J,Q⟩
 refine qqb ?_;have lp:∀{d:ar},Fr j H1 d->Op.ah [.ptr p 0] d=B1 (.ptr l 0):=λ f=>by rw[zg (xe (by rw[f.ai _ (by omega) p3,p2];exact hp))];rfl
 have lq:Op.ah [.ptr q 0] H1=B1 (.int .i64 (k:Int)):=by rw[zg (xe (by rw[J];exact hq))];rfl
 have wk:ak .i64 ((k:Int)+1)=((k+1+0:Nat):Int):=by rw[ju (by omega) (by omega)];omega
 simp only[ae,bc,Qo,lq,wk];refine dm.intro (λ n E d=>∃(i:Nat)(V:Nat->Prop),E=[(4,.int .i64 ((k+1+i:Nat):Int)),(0,.fn (.yield Y) [] []),(1,.ptr q 0),(2,.ptr p 0)]/\n=4-k-i/\i<=4-k/\Ov R j H1 d ((N7 i).filter (Ac fX k)).length V) ?_ ?_
 .exact ⟨_,_,⟨0,j,rfl,rfl,x9 _,⟨C,λ b hb=>⟨D b hb,.inl hb⟩,Fr.refl _⟩⟩,by simp only[ae,bc]⟩
 rintro n E d ⟨i,V,rfl,rfl,hi,a⟩;rcases xw i (4-k)with I|W
 .have A:((k+1+i:Nat):Int)<5:=by omega
  obtain⟨y,hy,rfl⟩:=hI _ V d a.hR;have ix:Op.bh 5 1 [.ptr l 0,.int .i64 ((k+1+i:Nat):Int)]=B1 (.ptr l (k+1+i)):=by rw[TK rfl (by omega)];simp
  have ls:=RQ hy (k:=k+1+i) (by omega);have T:ak .i64 (((k+1+i:Nat):Int)+1)=((k+1+(i+1):Nat):Int):=by rw[ju (by omega) (by omega)];omega
  have N:=PG (Ac y.fX k) i
  by_cases r:y.fX.getD (k+1+i) 0=0
  .have g:((N7 (i+1)).filter (Ac y.fX k)).length=((N7 i).filter (Ac y.fX k)).length:=by rw[N,show Ac y.fX k i=B2 from bne_eq_false_iff_eq.2 r];simp
   simp only[ae,bc,Qo,A,lp a.fr,aB,ix,ls,iC,xf r,T];exact⟨_,_,⟨i+1,V,rfl,rfl,by omega,by rw[g];exact a⟩,by simp only[ae,bc],by omega⟩
  .have g:((N7 (i+1)).filter (Ac y.fX k)).length=((N7 i).filter (Ac y.fX k)).length+1:=by rw[N,show Ac y.fX k i=B4 from bne_iff_ne.2 r];simp
   have hg:(pN y.fX k)[((N7 i).filter (Ac y.fX k)).length]? = B1 [.int .i64 ((k+1+i:Nat):Int)]:=by
    unfold pN;rw[xj,XB _ I (show Ac y.fX k i=B4 from bne_iff_ne.2 r)];rfl
   have⟨bb,K,B,hr,F,u,ht,hs⟩:=step _ _ hg V d a.hR a.hV (a.fr.mono λ _ _ q=>.inl q);have m:Fr j H1 K:=a.fr.trans F λ b q=>(a.hV b q).2;have s:∀b,B b->b<K.au/\(j b\/H1.au<=b):=λ b q=>⟨(u b q).1,(u b q).2.elim (λ w=>(a.hV b w).2) λ w=>.inr (zd a.fr.au w)⟩
   simp only[ae,bc,Qo,A,lp a.fr,aB,ix,ls,iC,r];refine C3.tZ hr ?_;cases bb with
   |true =>
    simp only[ae,bc,Qo,T];exact⟨_,_,⟨i+1,B,rfl,rfl,by omega,⟨by rw[g];exact ht rfl,s,m⟩⟩,by simp only[ae,bc],by omega⟩
   |false =>
    simp only[ae,bc];exact⟨B,m.mono λ _ _ q=>.inl q,s,.inr (hs rfl)⟩
 .have A:¬((k+1+i:Nat):Int)<5:=by omega
  have G:i=4-k:=by omega
  simp only[ae,bc,Qo,A];refine⟨V,a.fr.mono λ _ _ q=>.inl q,a.hV,.inl ?_⟩;have e:(pN fX k).length=((N7 i).filter (Ac fX k)).length:=by unfold pN;rw[xu,G]
  rw[e];exact a.hR
def q8j{fX:List Int}(a:fX.getD 4 0≠0){k:Nat}(hk:k<=3):(pN fX k)[0]? = B1 [.int .i64 (La.after fX (k:Int))]:=by
 unfold pN La.after;rw[xj];have key:∀b:Int,(b != 0)=decide (b≠0):=λ b=>by by_cases q:b=0<;>simp[q]
 rcases(by omega:k=0\/k=1\/k=2\/k=3)with rfl|rfl|rfl|rfl
 all_goals
  simp only[show N7 (4-0)=[0,1,2,3]from rfl,show N7 (4-1)=[0,1,2]from rfl,show N7 (4-2)=[0,1]from rfl,show N7 (4-3)=[0]from rfl,List.filter,Ac,Nat.reduceAdd,key,yq a];generalize fX.getD 1 0=b1;generalize fX.getD 2 0=b2;generalize fX.getD 3 0=b3
  by_cases x:b1=0<;>by_cases y:b2=0<;>by_cases z:b3=0<;>simp[x,y,z]
def zK(h:lV H l x){k:Nat}(hk:k<=3):zj M KD [.ptr l 0,.int .i64 (k:Int)] H λ _ H'=>lV H' l {x with lane:=La.after x.fX k}/\Fr (On l) H H':=by
 refine qsr ?_;obtain⟨H1,e1,U,n1,-⟩:=cI H (OR [.ptr l 0] Rt);obtain⟨m,e2,C,-,-⟩:=cI H1 (OR [.ptr l 0] Rt);obtain⟨A,J,s,-,g3⟩:=cI m (OR [.int .i64 (k:Int)] bY);have r:=C.em s;have K:=U.em r;have n2:m.au=H.au+2:=by rw[e2,xz,n1]
 have n3:A.au=H.au+3:=by rw[J,xz,n2]
 have Y:A.get H.au=B1 (OR [.ptr l 0] Rt):=by rw[r.ai _ (by omega) id,e1,xr]
 have Z:A.get H1.au=B1 (OR [.ptr l 0] Rt):=by rw[s.ai _ (by omega) id,e2,xr]
 have l1:Op.ah [.ptr H.au 0] H1=B1 (.ptr l 0):=zg (xe (e1▸xr H _)) 0;have ca:∀b,AV.cells (.ptr b 0)=[.ptr b 0]:=λ _=>rfl;have ci:∀n,AV.cells (.int .i64 n)=[.int .i64 n]:=λ _=>rfl;have op:zj M qke [.ptr l 0,.int .i64 (k:Int)] H1 λ v H'=>v=.fn (.func Oi) [] [.ptr m.au 0,.ptr H1.au 0]/\H'=A:=by
  refine qsu ?_;have mk:Op.bB Oi 0 [.ptr m.au 0,.ptr H1.au 0]=B1 (.fn (.func Oi) [] [.ptr m.au 0,.ptr H1.au 0]):=rfl;simp only[ae,bc,qsv,ca,ci,<-e2,<-J];rfl
 simp only[ae,bc,qkj,ca,<-e1,l1];refine C3.q op λ v H'⟨P,hh⟩=>?_;subst P;subst hh;simp only[ae,bc];have F:=h.em K;have hlt:=h.at'.2;refine iA.u5 (fn:=S6) (lp:=O8) (pa:=hH 0) (pb:=W4 0) qrl e_.1 e_.2 (by decide) qp9 qqa
  (xjh (fX:=x.fX) Z g3 (by omega) (by omega) hk) (λ i V B=>i=0/\lV B l x/\V l) (λ e V B=>e=.ret/\lV B l {x with lane:=La.after x.fX k}/\V l) (On l) (qm _) ?_ ?_ ?_ ?_ ?_ ?_ ?_ ?_ ?_
 .rintro z ((q|q)|q)
  .exact ⟨by omega,rfl,λ(w:z=l)=>by omega⟩
  .exact ⟨by omega,rfl,λ(w:z=l)=>by omega⟩
  .exact q.elim
 .exact λ z(G:z=l)=>by omega
 .exact ⟨rfl,F,rfl⟩
 .exact λ i V S Hb⟨I,j,u⟩hs hn=>⟨I,⟨j.w,by rw[hs l u];exact j.at'.1,qn j.at'.2 hn⟩,u⟩
 .exact λ i V S Hb⟨I,j,u⟩hs hn=>⟨I,⟨j.w,by rw[hs l u];exact j.at'.1,qn j.at'.2 hn⟩,u⟩
 .exact λ i V B⟨_,q,_⟩=>⟨_,q,rfl⟩
 .intro a i lr lb y Q hL2 V g ⟨O,hP,hV⟩ hb hf6 hnL hL6 hgL;subst O;rw[q8j h.w.b4 hk]at Q;cases Q;refine⟨_,rfl,?_⟩;obtain⟨-,wa,wb⟩:=qkj M ⟨B1 a,KD⟩;simp only[ae,bc,wa,zT];refine⟨hgL,?_⟩;have L:Fr (On a) g (g.set a lb):=(Fr.refl g).set (W:=On a) (.inl rfl) _;have gL:(g.set a lb).get a=B1 lb:=xg ..;have nL:(g.set a lb).au=g.au:=rfl;have R:a≠l:=λ q=>hnL (by rw[q];exact hV);have h7:lV (g.set a lb) l x:=hP.fr L (λ q:l=a=>R q.symm);have lq:Op.ah [.ptr H.au 0] (g.set a lb)=B1 (.ptr l 0):=by
   rw[zg (xe (by rw[jv (by omega),hf6.ai H.au (by omega) (λ q=>q.elim (λ q:H.au=l=>by omega) id)];exact Y))];rfl
  generalize g.set a lb=H7 at *;obtain⟨a0,T⟩:0<=La.after x.fX (k:Int)/\La.after x.fX (k:Int)<=4:=by unfold La.after;repeat' split<;>omega
  have⟨s8,h8⟩:=JW h7 a0 T;simp only[ae,bc,wb,lq,aB,s8];have X:Fr (On l) H7 (H7.set l (OR (dS {x with lane:=La.after x.fX k}) vj)):=cm ..;refine⟨rfl,by rw[jv (λ q=>R q.symm)];exact gL,V,λ z G=>⟨by have:=(hb z G).1;rw[oO,nL];exact this,.inl G⟩,(L.mono λ z _ q=>.inr q).trans X λ z(q:z=l)=>.inl (.inl (by rw[q];exact hV)),.inr ⟨trivial,rfl,h8,hV⟩⟩
 .rintro d V H' hd E hg N hV ⟨O,-⟩;exfalso;have:=(qo.1 (q8j h.w.b4 hk)).1;omega
 .rintro e d V H' he hd E hg N hV ⟨rfl,hl,P⟩;have D:d≠l:=λ q=>by omega
  have fd:Fr (On d) H' (H'.set d (.deferred B5)):=(Fr.refl H').set (W:=On d) (.inl rfl) _;simp only[ae,bc];refine⟨hg,hl.fr fd (λ q:l=d=>D q.symm),?_⟩;exact((K.mono (W':=On l) λ _ _ q=>q.elim).trans (N.mono λ z _ q=>q.elim id NT) λ z q=>.inl q).trans fd λ z(q:z=d)=>.inr (by omega)
def Po(H:ar)(l:Nat)(y:La)(H':ar):Prop:=lV H' l y/\Fr (On l) H H'
def Kw(h:lV H l x):zj M qjf [.ptr l 0] H λ _ H'=>Po H l x.leave H':=by
 refine qrk ?_;unfold La.leave
 by_cases q:x.lane=0
 .rw [xb q];simp only[ae,bc,nu,aB,gC h,iM h,xf q];exact⟨h,Fr.refl _⟩
 .rw [qv q];have⟨s1,b⟩:=JW h (v:=0) (by decide) (by decide);have⟨s2,d⟩:=JE b;have a:Op.build [.int .i64 0,.int .i64 0,.int .i64 0,.int .i64 0,.int .i64 0] [] []=B1 (.agg (La.kW.map iC)):=rfl;simp only[ae,bc,nu,aB,gC h,iM h,q,a,s1,s2];exact⟨d,(cm ..).trans (cm ..) λ z q=>.inl q⟩
def MF(h:lV H l x):zj M Y' [.ptr l 0] H λ _ H'=>Po H l x.enter H':=by
 refine qrj ?_;unfold La.enter
 by_cases q:x.lane=0
 .rw [xb q];have⟨s2,e⟩:=JE h;have b:Op.build [.int .i64 0,.int .i64 0,.int .i64 0,.int .i64 0,.int .i64 0] [] []=B1 (.agg (La.kW.map iC)):=rfl;simp only[ae,bc,qjo,aB,gC h,iM h,xf q,b,s2];refine C3.q (zK e (k:=0) (by decide)) λ v g⟨a,d⟩=>?_;simp only[ae,bc,aB,iM a];exact⟨a,(cm ..).trans d λ z q=>.inl q⟩
 .rw [qv q];simp only[ae,bc,qjo,aB,gC h,iM h,q];exact⟨h,Fr.refl _⟩
def MQ(h:lV H l x)(c:Int):zj M qjd [.ptr l 0,.int .i64 c] H λ _ H'=>Po H l (x.abort c) H':=by
 refine qri ?_;unfold La.abort;have U:=h.w.l0;have V:=h.w.l4
 by_cases g:x.lane=0
 .rw [xb (.inl g)];simp only[ae,bc,j6,aB,gC h,iM h,xf g];exact⟨h,Fr.refl _⟩
 by_cases i:x.lane=4
 .rw [xb (.inr (.inl i))];simp only[ae,bc,j6,aB,gC h,iM h,g,xf i];exact⟨h,Fr.refl _⟩
 by_cases n:c<1
 .rw [xb (.inr (.inr (.inl n)))];simp only[ae,bc,j6,aB,gC h,iM h,g,i,n];exact⟨h,Fr.refl _⟩
 by_cases s:8<c
 .rw [xb (.inr (.inr (.inr (.inl s))))];simp only[ae,bc,j6,aB,gC h,iM h,g,i,n,s];exact⟨h,Fr.refl _⟩
 by_cases A:c=7
 .rw [xb (.inr (.inr (.inr (.inr A))))];simp only[ae,bc,j6,aB,gC h,iM h,g,i,n,s,xf A];exact⟨h,Fr.refl _⟩
 rw[qv (by omega)];have⟨k,hk⟩:=jx U;have E:k<=3:=by omega
 have ix:∀o,Op.bh 5 1 [.ptr l o,.int .i64 x.lane]=B1 (.ptr l (o+k)):=λ o=>by rw[hk,TK rfl (by omega)];simp
 have lc:=RH h (k:=k) (by omega);have⟨s1,d⟩:=Q2 h (k:=k) (by omega) (ak .i64 (x.jP.getD k 0+1));have N:x.lane.toNat=k:=by omega
 have T:x.count=x.jP.getD k 0:=by unfold La.count;rw[N]
 obtain⟨y,F⟩:∃y:La,y = {x with jP:=x.jP.set k (ak .i64 (x.jP.getD k 0+1))}:=⟨_,rfl⟩
 rw[<-F]at d s1;rw[T,N];simp only[<-F];have Q:y.lane=x.lane:=by rw[F]
 have I:y.fX=x.fX:=by rw[F]
 have P:y.jP=x.jP.set k (ak .i64 (x.jP.getD k 0+1)):=by rw[F]
 have J:y.qO=x.qO:=by unfold La.qO;rw[Q]
 have S:Fr (On l) H (H.set l (OR (dS y) vj)):=cm ..
 by_cases C:x.qO=B4/\c=3
 .rw [xb C];simp only[ae,bc,j6,aB,gC h,iM h,g,i,n,s,A,ix,lc,iC,s1,sD d,J,xf C.2,C.1];refine C3.q (zK d (k:=2) (by decide)) λ v B⟨e,D⟩=>?_;simp only[ae,bc,j6,aB,iM e];rw[I,P]at e;exact⟨e,S.trans D λ z q=>.inl q⟩
 rw[qv C];have K:=(iM d).trans (by rw[Q]);have m:=RH d (k:=k) (by omega);have j:=RQ d (k:=k) (by omega);have R:y.count=y.jP.getD k 0:=by unfold La.count;rw[Q,N]
 have O:=ix 0;rw[yf]at O;have cont:C3 M B4 (.func KD) [.ptr l 0,.int .i64 x.lane] (H.set l (OR (dS y) vj))=C3 M B4 (.func KD) [.ptr l 0,.int .i64 (k:Int)] (H.set l (OR (dS y) vj)):=by rw[hk]
 have fin:∀{z:La}{B:ar},lV B l z->Fr (On l) (H.set l (OR (dS y) vj)) B->Po H l z B:=λ a b=>⟨a,S.trans b λ z q=>.inl q⟩
 by_cases L:y.count=x.fX.getD k 0
 .rw [xb L];have G:y.jP.getD k 0=y.fX.getD k 0:=by rw[<-R,L,I]
  by_cases r:x.qO=B4
  .have u:¬c=3:=λ w=>C ⟨r,w⟩;simp only[ae,bc,j6,aB,gC h,iM h,g,i,n,s,A,ix,lc,iC,s1,sD d,J,r,u,K,m,j,xf G,cont];refine C3.q (zK d (k:=k) E) λ v B⟨e,D⟩=>?_;simp only[ae,bc,j6,aB,iM e];rw[I,<-hk,P]at e;exact fin e D
  .rw [Bool.not_eq_true]at r;simp only[ae,bc,j6,aB,gC h,iM h,g,i,n,s,A,ix,lc,iC,s1,sD d,J,r,K,m,j,xf G,cont];refine C3.q (zK d (k:=k) E) λ v B⟨e,D⟩=>?_;simp only[ae,bc,j6,aB,iM e];rw[I,<-hk,P]at e;exact fin e D
 .rw [qv L];have G:¬y.jP.getD k 0=y.fX.getD k 0:=λ w=>L (by rw[R,w,I])
  by_cases r:x.qO=B4
  .have u:¬c=3:=λ w=>C ⟨r,w⟩;simp only[ae,bc,j6,aB,gC h,iM h,g,i,n,s,A,ix,lc,iC,s1,sD d,J,r,u,K,m,j,G];exact fin d (Fr.refl _)
  .rw [Bool.not_eq_true]at r;simp only[ae,bc,j6,aB,gC h,iM h,g,i,n,s,A,ix,lc,iC,s1,sD d,J,r,K,m,j,G];exact fin d (Fr.refl _)
end
end Go.Am
