import Derived.Test.YtpnpgihabgglcaaGreatDoorAmUZi
import Derived.Test.YtpnpgihabgglcaaGreatDoorAmUZg
import Derived.Test.YtpnpgihabgglcaaGreatDoorAmUZf
set_option linter.defProp false
set_option linter.unusedVariables false
set_option linter.unusedSimpArgs false
set_option linter.unusedSectionVars false
set_option maxRecDepth 100000
open Nat renaming reduceEqDiff→bc
namespace Go.Am
open Go.Proofs Ca
open Lang (ints)
variable{M:ak}[MK M]
def oW(l s w:Int)(k:Nat):List No:=(List.range k).map λ(i:Nat)=>oV (i:Int) l s w
def fU(l c s w:Int):Bu:=⟨List.replicate l.toNat .zero,List.replicate l.toNat iW,oW l s w c.toNat,[]⟩
def pW(l c s w:Int):Prop:=wD l c/\rV s w
instance(l c s w:Int):Decidable (pW l c s w):=inferInstanceAs (Decidable (_/\_))
def UM{l s w:Int}{k i:Nat}{n:No}(h:(oW l s w k)[i]? = some n):i<k/\n=oV (i:Int) l s w:=by
 unfold oW at h;rw[xj,xl]at h;obtain⟨j,a,e⟩:=h;have hk:=(qk.1 a).1;rw[j0]at hk;rw[yg hk]at a;injection a with a;subst a
 exact⟨hk,e.symm⟩
def Sa(l s w:Int)(k:Nat):(oW l s w k).length=k:=by unfold oW;rw[xp,j0]
structure Lj(H0 H:ar)(B D mp:Nat)(lv ev nv:AV)(l c s w:Int)(ad:List Na)(own:Nat->Nat):Prop where
 row:H.get B=some (OR [.ptr D 0,nv,.nils,.int .i64 l] K9)
 lt:B<H.au
 d:mj H D mp lv ev c (List.replicate l.toNat .zero) (List.replicate l.toNat (iW,.nils))
 Uz:a9 lj IY 1 H nv (ad.map Na.r)
 no:∀(k:Nat)(A:Na),ad[k]? = some A->cU H0 H A.r A.b A.sv A.bv (oV (k:Int) l s w) A.ks
 oB:own B=0
 oD:∀z,lQ D mp lv ev (List.replicate l.toNat (iW,.nils)) z->own z=1
 oN:∀z,aW nv z->own z=2
 oC:∀(k:Nat)(A:Na),ad[k]? = some A -> ∀z,A.w z->own z=4+k
 N8:H0.au<=B
 loD:∀z,lQ D mp lv ev (List.replicate l.toNat (iW,.nils)) z->H0.au<=z
 NJ:∀z,aW nv z->H0.au<=z
 fr:Fr Em H0 H
def cU.base{H0 H1 H:ar}{r b:Nat}{sv bv:AV}{n:No}{ks:List Nat}(h:cU H1 H r b sv bv n ks)(f:Fr Em H0 H1):cU H0 H r b sv bv n ks:=by
 have hn:=f.au
 refine⟨h.row,h.lt,h.ca,⟨?_,f.trans h.bk.fr λ _ q=>.inl q⟩,h.eq,xu hn h.lr,xu hn h.lb,xu hn h.ls,h.n1,h.n2,h.o1,h.o2,h.o3,h.li,h.len⟩;rcases h.bk.own with q|⟨b,m,rest,a,d,e,g⟩
 .exact .inl q
 .exact .inr ⟨b,m,rest,a,d,xu hn e,g⟩
def cU.all{H0 H:ar}{r b:Nat}{sv bv:AV}{n:No}{ks:List Nat}(h:cU H0 H r b sv bv n ks){z:Nat}(a:iv r b sv bv z):H0.au<=z:=by
 rcases a with rfl|(rfl|rfl)|a
 .exact h.lr
 .exact h.lb
 .exact h.ls
 .exact (h.bk.fresh z a).1
section
variable{H0 H:ar}{B D mp:Nat}{lv ev nv:AV}{l c s w:Int}{ad:List Na}{own:Nat->Nat}
def Lj.step(h:Lj H0 H B D mp lv ev nv l c s w ad own)(U:ad.length<=4){H1:ar}{A:Na}(I:cU H H1 A.r A.b A.sv A.bv (oV (ad.length:Int) l s w) A.ks){K:bH->(Nat->AV)->Bool->AV->ar->Prop}
 (hk:∀v j,(∃J,Op.store 1 [.ptr B 1,v] j=some (.undef,J)/\(∃G,Lj H0 J B D mp lv ev v l c s w (ad ++ [A]) G)/\Fr (λ z=>z=B\/aW nv z) H J /\ ∀z,aW v z->aW nv z\/H.au<=z)->K (.row [.ptr A.r 0] IY (0,0) true) (Op.sliceTo 1 1) true v j) :
 iS true (Op.buildSlice IY 1 [.nilp] [(0,1)] [.ptr A.r 0]) λ g o mk=>iS g (Op.append IY 1 8 [nv,mk H1.au] (H1.alloc o)) (K o mk):=by
 have m:Fr Em H H1:=I.bk.fr;have V:=m.au
 refine mK (e:=IY) (size:=1) (bytes:=8) (Own.em h.Uz m) (x:=.ptr A.r 0) rfl rfl rfl (by decide) (by rw[xp];omega) (by rw[xp];omega) λ v j Q F P=>?_;refine hk v j ?_;have low:∀z,(z=B\/lQ D mp lv ev (List.replicate l.toNat (iW,.nils)) z\/aW nv z \/ ∃k i,ad[k]? = some i/\Na.w i z)->z<H.au:=λ z f=>by
  rcases f with rfl|f|f|⟨k,i,a,f⟩
  .exact h.lt
  .exact h.d.low f
  .exact Own.lt h.Uz z f
  .exact (h.no k i a).low f
 have ne:∀{z k:Nat},own z=k->k≠2 -> ¬aW nv z:=λ L N q=>N (by rw[<-L];exact h.oN _ q);have T:j.get B=some (OR [.ptr D 0,nv,.nils,.int .i64 l] K9):=by
  rw[F.ah _ (by have:=h.lt;omega) (ne h.oB (by decide)),m.ah _ h.lt id];exact h.row
 have o1:av v=true:=by have:=Sl.one (Own.sl Q);exact this
 have O:v.cells=[v]:=by cases v<;>first|rfl|cases o1
 have st:=t9 T (o:=1) (n:=1) (v:=v) (by rw[O];rfl) (by simp) (by rw[O,yj];simpa using o1);rw[O]at st;have X:=F.au
 have E:Fr (On B) j (j.set B (OR ([AV.ptr D 0,nv,.nils,.int .i64 l].take 1 ++ [v] ++ [AV.ptr D 0,nv,.nils,.int .i64 l].drop (1+1)) K9)):=(Fr.refl j).set (W:=On B) (.inl rfl) _;have S:H0.au<=H.au:=h.fr.au
 have R:∀{z k:Nat},own z=k->k≠0 -> ¬z=B:=λ L N q=>N (by rw[<-L,q];exact h.oB);have t:∀z,aW v z->(aW nv z/\z<H.au)\/H1.au<=z:=λ z f=>(P z f).elim (λ q=>.inl ⟨q,low z (.inr (.inr (.inl q)))⟩) .inr
 have y:Fr (aW nv) H j:=(m.mono λ _ _ q=>q.elim).trans F λ z q=>.inl q;have p:∀z,A.w z->H.au<=z/\z<H1.au:=λ z f=>⟨I.all f,I.low f⟩
 refine⟨_,st,⟨(λ z=>if z<H.au then own z else if z<H1.au then 4+ad.length else 2),xc ..,?_,?_,?_,λ k i a=>?_,?_,λ z f=>?_,λ z f=>?_,λ k i a z f=>?_,h.N8,h.loD,λ z f=>?_,?_⟩,(y.mono λ z _ q=>.inr q).trans E λ z(q:z=B)=>.inl (.inl q),λ z f=>(t z f).elim (λ q=>.inl q.1) λ q=>.inr (by omega)⟩
 .have:=h.lt;show B<j.au;omega
 .exact (h.d.fr y λ z q w=>ne (h.oD z w) (by decide) q).fr E λ z q w=>R (h.oD z w) (by decide) q
 .have ow:a9 lj IY 1 j v ((ad ++ [A]).map Na.r):=by
   rw[HJ];unfold a9;rw[qv,kq];exact Q
  refine Own.fr ow E λ z f(q:z=B)=>?_;rcases t z f with⟨w,-⟩|w
  .exact R (h.oN z w) (by decide) q
  .have:=h.lt;omega
 .by_cases e:k<ad.length
  .rw [jd e]at a;refine((h.no k i a).off y λ z w=>⟨h.NJ z w,λ u=>?_⟩).off E λ z w=>?_
   .have:=h.oC k i a z u;have:=h.oN z w;omega
   .have w:z=B:=w;refine⟨by rw[w];exact h.N8,λ u=>?_⟩;have:=h.oC k i a z u;rw[w,h.oB]at this;omega
  .have hk:=(qk.1 a).1;rw[qv]at hk;have C:k=ad.length:=by simp only[z6,yi]at hk;omega
   subst C;rw[zh (qg _),Nat.sub_self]at a;injection a with a;subst a
   refine((I.base h.fr).off F λ z w=>⟨h.NJ z w,λ u=>?_⟩).off E λ z w=>?_
   .have:=p z u;have:=low z (.inr (.inr (.inl w)));omega
   .have w:z=B:=w;refine⟨by rw[w];exact h.N8,λ u=>?_⟩;have:=p z u;have:=h.lt;omega
 .rw [qr h.lt];exact h.oB
 .rw [qr (low z (.inr (.inl f)))];exact h.oD z f
 .rcases t z f with⟨w,u⟩|w
  .rw [qr u];exact h.oN z w
  .rw [qo (by omega),qo (by omega)]
 .by_cases e:k<ad.length
  .rw [jd e]at a;rw[qr (low z (.inr (.inr (.inr ⟨k,i,a,f⟩))))];exact h.oC k i a z f
  .have hk:=(qk.1 a).1;rw[qv]at hk;have C:k=ad.length:=by simp only[z6,yi]at hk;omega
   subst C;rw[zh (qg _),Nat.sub_self]at a;injection a with a;subst a
   have:=p z f;rw[qo (by omega),qr this.2]
 .rcases t z f with⟨w,-⟩|w
  .exact h.NJ z w
  .omega
 .exact ((h.fr.trans m λ _ q=>.inl q).trans F λ z q=>.inr (h.NJ z q)).trans E λ z(q:z=B)=>.inr (by rw[q];exact h.N8)
def Lj.done(h:Lj H0 H B D mp lv ev nv l c s w ad own)(hl:ad.length=c.toNat)(f:0<=c)(e:0<=l):eV H0 H B ⟨D,mp,lv,ev,List.replicate l.toNat (iW,.nils),nv,.nils,ad⟩ (fU l c s w) own:=by
 have hlen:((fU l c s w).ns.length:Int)=c:=by show((oW l s w c.toNat).length:Int)=c;rw[Sa];omega
 refine⟨?_,h.lt,?_,?_,h.Uz,λ k n A hn b=>?_,?_,Sk.nil _,h.oB,h.oD,h.oN,λ z q=>absurd rfl q.1,h.oC,λ z a=>?_⟩
 .rw [h.row];have:((fU l c s w).l.length:Int)=l:=by show((List.replicate l.toNat iW).length:Int)=l;rw[zr];omega
  rw[this]
 .rw [hlen];exact h.d
 .show (List.replicate l.toNat (iW,AV.nils)).map Prod.fst=List.replicate l.toNat iW;rw[List.map_replicate]
 .obtain ⟨-,rfl⟩:=UM hn;exact h.no k A b
 .show ad.length=(oW l s w c.toNat).length;rw[Sa,hl]
 .rcases a with rfl|a|a|a|⟨k,A,b,a⟩
  .exact h.N8
  .exact h.loD z a
  .exact h.NJ z a
  .exact absurd rfl a.1
  .exact (h.no k A b).all a
end
end Go.Am
namespace Go.Am
open Ca
def GR{N l:Int}(b:0<=N)(a:N<=4):XI iW N l:=⟨⟨a,⟨by decide,by show(-1:Int)<N;omega⟩,by decide,by decide,λ c _ _ q=>(by have q:hb 0 c=1:=q;rw[xja]at q;cases q),λ m hm=>(nomatch hm)⟩,λ q=>absurd rfl q⟩
def yE{l c s w:Int}{m:List L8}{V:Int->L8}(h:pW l c s w)(hm:m.length=l.toNat):BuI {fU l c s w with m:=m} V:=by
 obtain⟨⟨⟨l0,l1⟩,e,f⟩,hs⟩:=h;have a:(fU l c s w).ns.length=c.toNat:=Sa ..;have b:((fU l c s w).l.length:Int)=l:=by show((List.replicate l.toNat iW).length:Int)=l;rw[zr];omega
 refine⟨by show(fU l c s w).ns.length<=4;rw[a];omega,by show m.length=(List.replicate l.toNat iW).length;rw[hm,zr],λ k n hn=>?_,λ m hm=>(nomatch hm),λ i x d=>?_⟩
 .obtain ⟨hk,rfl⟩:=UM hn;exact⟨Bv (cores:=c) ⟨hs,by omega,by omega,by omega,l0,l1⟩,rfl,b.symm⟩
 .rw [vy (show x∈List.replicate l.toNat iW from x9 d)];exact GR (by omega) (by show((fU l c s w).ns.length:Int)<=4;rw[a];omega)
structure Bt where
 k:Int
 c:Int
 n:Int
 v:Int
 o:Int
def No.call(n:No)(x:Bt):No×List Mg :=
 if x.k=0 then((n.load x.n).1,(n.load x.n).2.2.2.1)
 else if x.k=1 then((n.store x.n x.v).1,(n.store x.n x.v).2.2.1)
 else if x.k=2 then n.lP x.n x.o x.v
 else if x.k=3 then(n.begin,[])
 else if x.k=4 then(n.bw,[])
 else if x.k=5 then((n.abort x.n).1,[])
 else if x.k=6 then n.cT x.n
 else(n,[])
def Bu.step(b:Bu)(x:Bt):Bu :=
 if x.k=7 then if 0<=x.n/\x.n<b.fl.length then b.wQ x.n.toNat else b
 else if 0<=x.c then match b.ns[x.c.toNat]? with
  |none=>b
  |some n=>b.put x.c.toNat (n.call x)
 else b
def OE{b:Bu}{V:Int->L8}(h:BuI b V)(i:Nat):BuI (b.wQ i) V:=by
 unfold Bu.wQ;cases hm:b.fl[i]? with
 |none=>exact h
 |some m =>
  have he:∀o∈b.fl.eraseIdx i,o∈b.fl:=λ o q=>List.mem_of_mem_eraseIdx q;obtain⟨mk,e,ml⟩:=h.mw m (x9 hm);simp only
  by_cases g:m.k<=7
  .rw [qr g];obtain⟨x,w,f,hw,u⟩:=h.entry ml.1 ml.2;rw[f,hw];obtain⟨a,o⟩:=F0 (w:=w) u e rfl;have hl:=(qk.1 f).1;refine⟨h.N4,by simp only[xg];exact h.ml,λ c n hn=>by simp only[xg];exact h.nw c n hn,λ y d=>?_,λ j y d=>?_⟩
   .simp only[xg];rcases zt.1 d with q|q
    .exact h.mw y (he y q)
    .obtain ⟨p,r,t⟩:=o y q;exact⟨.inr p,r,by rw[t];exact ml⟩
   .have d:(b.l.set m.line.toNat (x.bQ w m).1)[j]? = some y:=d
    by_cases q:j=m.line.toNat
    .subst q;rw[xr hl]at d;injection d with d;subst d
     rw[Lx ml.1];exact a
    .rw [xw (mO q)]at d;exact h.xs j y d
  .rw [qo g];obtain⟨n,hn,w⟩:=h.core e.1 e.2;rw[hn];exact h.node hn (w.ni.bQ m) (No.Gu w.ni m) he
def CA{b:Bu}{V:Int->L8}(h:BuI b V)(x:Bt):BuI (b.step x) V:=by
 unfold Bu.step;split
 .split
  .exact OE h _
  .exact h
 split
 .cases hn:b.ns[x.c.toNat]? with
  |none=>exact h
  |some n =>
   have w:=(h.nw _ n hn).ni;simp only;unfold No.call;split;· exact h.call hn (w.load _) (No.ES _)
   split;· exact h.call hn (w.store _ _) (No.DI _ _)
   split;· exact h.call hn (w.lP _ _ _) (No.Ji _ _ _)
   split;· exact h.call hn (show n.begin.NI by unfold No.begin;split;exact w;exact⟨w.ci,λ q=>by cases q⟩) No.Ai
   split;· exact h.call hn (show n.bw.NI by unfold No.bw;split;exact⟨w.ci.bw,λ _=>w.ci.GK⟩;exact w) No.xE
   split;· exact h.call hn (show(n.abort x.n).1.NI by unfold No.abort;(repeat' split)<;>first|exact w|exact w.iG _) (No.BA _)
   split;· exact h.call hn (w.cT _) (No.Hi w _)
   rw[Jr hn];exact h
 .exact h
structure BC(b:Bu)(k:Nat):Prop where
 fl:b.fl.length<=5*k
 no:∀(c:Nat)n,b.ns[c]? = some n->n.aK.length<=k/\n.c.us<=2*(k:Int)
 wt:∀x∈b.l,x.wt.length<=k
def BC.mono{b:Bu}{k k':Nat}(h:BC b k)(hk:k<=k'):BC b k':=⟨xu h.fl (by omega),λ c n hn=>by have:=h.no c n hn;omega,λ x a=>xu (h.wt x a) hk⟩
def BC.bb{b:Bu}{V:Int->L8}{k:Nat}(h:BC b k)(hI:BuI b V)(hk:k<=100000):BB b:=⟨hI.N4,by have:=h.fl;omega,λ c n hn=>by have:=h.no c n hn;exact⟨(hI.nw c n hn).ni,by omega,by omega⟩⟩
def zF{l c s w:Int}:BC (fU l c s w) 0:=by
 refine⟨qg _,λ k n hn=>?_,λ x a=>?_⟩
 .obtain ⟨-,rfl⟩:=UM hn;exact⟨qg _,ya _⟩
 .rw [vy (show x∈List.replicate l.toNat iW from a)];exact qg _
def NU{b:Bu}{k c:Nat}{n n':No}{o:List Mg}(h:BC b k)(hn:b.ns[c]? = some n)(hb:Bd n n')(ho:o.length<=5):BC (b.put c (n',o)) (k+1):=by
 have hl:=(qk.1 hn).1;refine⟨?_,λ d y a=>?_,λ x e=>Nat.le_succ_of_le (h.wt x e)⟩
 .show (b.fl++o).length<=_;rw[qv];have:=h.fl;omega
 .have a:(b.ns.set c n')[d]? = some y:=a
  by_cases q:d=c
  .rw [q,xr hl]at a;injection a with a;subst a
   obtain⟨f,g⟩:=hb;have:=h.no c n hn;omega
  .rw [xw (mO q)]at a;have:=h.no d y a;omega
def xee(x:De)(w:L8):(x.dO w).1.wt=x.wt:=by
 unfold De.dO
 repeat' split
 all_goals rfl
def xdx(x:De)(n:Mg)(w:L8):(x.begin n w).1.wt=x.wt:=by
 unfold De.begin;split
 .rfl
 .split
  .exact xee _ w
  .rfl
def Si(x:De)(w:L8)(q:Prop)[Decidable q](r:List Mg):(x.tQ w q r).1.wt=x.wt:=by
 unfold De.tQ;split
 .exact xee x w
 .rfl
def FO(x:De)(w:L8)(m:Mg):(x.bQ w m).1.wt.length<=x.wt.length+1:=by
 unfold De.bQ;split;· exact ku _
 split
 .split
  .simp
  .rw [xdx];exact ku _
 split;· rw[Si];show x.wt.length<=_;omega
 split;· rw[Si];show x.wt.length<=_;omega
 split;· rw[Si];show x.wt.length<=_;omega
 split;· rw[Si];show x.wt.length<=_;omega
 cases h:x.wt with
 |nil=>simp[h]
 |cons n r=>simp only;rw[xdx];simp only[z6];omega
def Lg(n:No)(x:Bt):Bd n (n.call x).1/\(n.call x).2.length<=5:=by
 unfold No.call;split;· exact⟨Gz n _,xu (xei n _) (by decide)⟩
 split;· exact⟨Al n _ _,xu (YH n _ _) (by decide)⟩
 split;· exact⟨I4 n _ _ _,xu (xib n _ _ _) (by decide)⟩
 split
 .refine ⟨?_,xy _⟩;show Bd n n.begin;unfold No.begin;split<;>exact⟨by show n.aK.length<=_;omega,by show n.c.us<=_;omega⟩
 split
 .refine ⟨?_,xy _⟩;show Bd n n.bw;unfold No.bw;split<;>exact⟨by show n.aK.length<=_;omega,by show n.c.us<=_;omega⟩
 split
 .refine ⟨?_,xy _⟩;show Bd n (n.abort _).1;unfold No.abort;repeat' split
  all_goals exact⟨by show n.aK.length<=_;omega,by show n.c.us<=_;omega⟩
 split;· exact⟨G7 n _,xu (q9r n _) (by decide)⟩
 exact⟨Bd.refl n,xy _⟩
def M9{b:Bu}{k:Nat}(h:BC b k)(i:Nat):BC (b.wQ i) (k+1):=by
 unfold Bu.wQ;cases hm:b.fl[i]? with
 |none=>exact h.mono (ku k)
 |some m =>
  have g:=h.fl;have he:(b.fl.eraseIdx i).length<=b.fl.length:=List.length_eraseIdx_le ..;simp only
  by_cases f:m.k<=7
  .rw [qr f];cases e:b.l[m.line.toNat]? with
   |none=>exact h.mono (ku k)
   |some x =>
    cases hw:b.m[m.line.toNat]? with
    |none=>exact h.mono (ku k)
    |some w =>
     refine⟨?_,λ c n hn=>by have:=h.no c n hn;omega,λ y a=>?_⟩
     .show (b.fl.eraseIdx i++(x.bQ w m).2.2).length<=_;rw[qv];have:=YI x w m;omega
     .have a:y∈b.l.set m.line.toNat (x.bQ w m).1:=a;rcases List.mem_or_eq_of_mem_set a with q|rfl
      .exact Nat.le_succ_of_le (h.wt y q)
      .have:=FO x w m;have:=h.wt x (x9 e);omega
  .rw [qo f];cases hn:b.ns[m.core.toNat]? with
   |none=>exact h.mono (ku k)
   |some n =>
    have hl:=(qk.1 hn).1;refine⟨?_,λ d y a=>?_,λ x e=>Nat.le_succ_of_le (h.wt x e)⟩
    .show (b.fl.eraseIdx i++(n.bQ m).2).length<=_;rw[qv];have:=xeg n m;omega
    .have a:(b.ns.set m.core.toNat (n.bQ m).1)[d]? = some y:=a
     by_cases q:d=m.core.toNat
     .rw [q,xr hl]at a;injection a with a;subst a
      obtain⟨j,o⟩:=GS n m;have:=h.no _ n hn;omega
     .rw [xw (mO q)]at a;have:=h.no d y a;omega
def zL{b:Bu}{k:Nat}(h:BC b k)(x:Bt):BC (b.step x) (k+1):=by
 unfold Bu.step;split
 .split
  .exact M9 h _
  .exact h.mono (ku k)
 split
 .cases hn:b.ns[x.c.toNat]? with
  |none=>exact h.mono (ku k)
  |some n=>obtain⟨a,d⟩:=Lg n x;exact NU h hn a d
 .exact h.mono (ku k)
end Go.Am
namespace Go.Am
open Lang
structure Pr where
 a:Int
 v:Int
def da(l:List Pr)(a:Int):Option Int:=match l with
 |[]=>none
 |x::r=>if x.a=a then some x.v else da r a
def fk(l:List Pr)(a v:Int):List Pr:=match l with
 |[]=>[⟨a,v⟩]
 |x::r=>if x.a=a then⟨a,v⟩::r else x::fk r a v
structure Fi where
 rs:List Int
 pc:Int
 pt:Option (List Int×Int)
namespace Fi
def set(f:Fi)(i v:Int):Fi:=if 0<=i/\i<8 then{f with rs:=f.rs.set i.toNat v}else f
def jump(f:Fi)(pc:Int):Fi:=if pc<0 then f else{f with pc:=pc}
def save(f:Fi):Fi:={f with pt:=some (f.rs,f.pc)}
def restore(f:Fi):Fi:=match f.pt with
 |some (r,p)=>{f with rs:=r,pc:=p}
 |none=>f
def drop(f:Fi):Fi:={f with pt:=none}
end Fi
structure La where
 fC:List Int
 lane:Int
 gT:List Int
namespace La
def fL:List Int:=[0,0,0,0,0]
def after(fC:List Int)(l:Int):Int:=if l<1/\fC.getD 1 0≠0 then 1 else if l<2/\fC.getD 2 0≠0 then 2 else if l<3/\fC.getD 3 0≠0 then 3 else 4
def pG(x:La):Bool:=decide (x.lane=1) ||decide (x.lane=2)
def enter(x:La):La:=if x.lane=0 then{x with lane:=after x.fC 0,gT:=fL}else x
def count(x:La):Int:=x.gT.getD x.lane.toNat 0
def abort(x:La)(code:Int):La :=
 if x.lane=0\/x.lane=4\/code<1\/8<code\/code=7 then x
 else
  let y:={x with gT:=x.gT.set x.lane.toNat (aj .i64 (x.count+1))}
  if x.pG=true/\code=3 then{y with lane:=after x.fC 2}else if y.count=x.fC.getD x.lane.toNat 0 then{y with lane:=after x.fC x.lane}else y
def leave(x:La):La:=if x.lane=0 then x else{x with lane:=0,gT:=fL}
def tries(x:La):Int:=x.gT.foldl (λ n k=>aj .i64 (n+k)) 0
end La
inductive K0 where
 |wait
 |left (how:Int)
 |jZ (a:Int)
 |take
 |back (l:List Pr)
 |fin
inductive Nx where
 |uD (n:Int) (k:K0)
 |td (n:Int) (k:K0)
 |uG
 |uY (k:K0)
 |look (k:K0) (g:Int) (rd:List Pr) (i:Nat)
 |again (k:K0) (g:Int)
 |u9 (a:Int)
 |mW (a v:Int)
 |sT
 |EB (k:K0)
structure Rq where
 op:Int
 a:Int
 v:Int
 o:Int
structure So where
 rd:List Pr
 wr:List Pr
 want:Rq
 au:Option Nx
 busy:Bool
 live:Bool
 aC:Bool
 snap:Int
 value:Int
 ended:Int
 points:Int
namespace So
def ask(p:So)(r:Rq)(n:Nx):So:={p with want:=r,au:=some n}
def count(p:So)(n:Int)(k:K0):So:=p.ask ⟨1,1,0,0⟩ (.uD n k)
def leave(p:So)(how:Int):So:=p.count 18446744073709551615 (.left how)
def sG(p:So):So:=p.ask ⟨1,0,0,0⟩ .uG
def validate(p:So)(k:K0):So:=p.ask ⟨1,0,0,0⟩ (.uY k)
def jZ(p:So)(a:Int):So:=p.ask ⟨1,a,0,0⟩ (.u9 a)
def take(p:So):So:=p.ask ⟨3,0,aj .u64 (p.snap+1),p.snap⟩ .sT
def back(p:So):List Pr->So
 |x::l=>p.ask ⟨2,x.a,x.v,0⟩ (.EB (.back l))
 |[]=>p.ask ⟨2,0,aj .u64 (p.snap+2),0⟩ (.EB .fin)
def oO(p:So)(g:Int):So:={p with snap:=g,points:=aj .i64 (p.points+1)}
def Fz(p:So):K0->So
 | .wait=>p.sG
 | .left how=>{p with live:=false,ended:=how,busy:=false}
 | .jZ a=>p.jZ a
 | .take=>p.take
 | .back l=>p.back l
 | .fin=>({p with aC:=false}:So).leave 1
def step(p:So)(k:K0)(g:Int)(rd:List Pr)(i:Nat):So:=match rd[i]? with
 |some x=>p.ask ⟨1,x.a,0,0⟩ (.look k g rd i)
 |none=>p.ask ⟨1,0,0,0⟩ (.again k g)
def ah(p:So)(a v:Int):Option (List Pr):=match da p.rd a with
 |some _=>some p.rd
 |none=>if p.rd.length=128 then none else some (p.rd ++ [⟨a,v⟩])
def on(p:So)(v:Int)(ok:Bool):Nx->So
 | .uD n k=>p.ask ⟨3,1,aj .u64 (v+n),v⟩ (.td n k)
 | .td n k=>if ok=true then p.Fz k else p.count n k
 | .uG=>if v % 2=1 then p.sG else{p.oO v with live:=true,busy:=false}
 | .uY k=>if v % 2=1 then p.validate k else p.step k v p.rd 0
 | .look k g rd i=>if v≠(rd.getD i ⟨0,0⟩).v then p.leave 2 else p.step k g rd (i+1)
 | .again k g=>if v≠g then p.validate k else(p.oO g).Fz k
 | .u9 a=>p.ask ⟨1,0,0,0⟩ (.mW a v)
 | .mW a w=>if v≠p.snap then p.validate (.jZ a)
  else if(da p.rd a).getD w≠w then p.leave 2
  else match p.ah a w with
   |none=>p.leave 2
   |some l=>{({p with rd:=l,value:=w}:So).oO v with busy:=false}
 | .sT=>if ok=true then({p with points:=aj .i64 (p.points+1),aC:=true}:So).back p.wr else p.validate .take
 | .EB k=>p.Fz k
def eO(p:So)(v:Int)(ok:Bool):So:=match p.au with
 |none=>p
 |some n=>({p with want:=⟨0,0,0,0⟩,au:=none}:So).on v ok n
def begin(p:So):So:=if p.busy=true\/p.live=true then p else({p with rd:=[],wr:=[],value:=0,ended:=0,busy:=true}:So).count 1 .wait
def ready(p:So):Bool:=!p.busy && p.live
def load(p:So)(a:Int):So:=if p.ready=true/\8<=a then match da p.wr a with
 |some v=>{p with value:=v}
 |none=>({p with busy:=true}:So).jZ a
 else p
def store(p:So)(a v:Int):So:=if p.ready=true/\8<=a then
 if da p.wr a=none/\p.wr.length=128 then({p with busy:=true}:So).leave 2 else{p with wr:=fk p.wr a v}
 else p
def bw(p:So):So:=if p.ready=true then if p.wr.length=0 then({p with busy:=true}:So).leave 1 else({p with busy:=true}:So).take else p
def CK(p:So):So:=if p.ready=true then({p with busy:=true}:So).leave 3 else p
end So
structure Co where
 id:Int
 lines:Int
 code:List gO
 fi:Fi
 la:La
 so:So
 ph:Int
 want:mE
 seq:Int
 aQ:List Pr
 done:Int
 wrote:Bool
 held:Bool
 said:Bool
 blocks:Int
 nT:Int
 halted:Bool
 lM:Bool
structure CS where
 c:Co
 b:Bu
 o:List iq
namespace CS
def vU(c:Co)(kind a v code:Int):iq:=if c.la.lane=0 then⟨kind,0,c.id,-1,0,0,a,v,code⟩else⟨kind,0,c.id,aj .i64 (c.blocks-1),c.la.tries,c.la.lane,a,v,code⟩
def tell(s:CS)(kind a v code:Int):CS:={s with o:=s.o ++ [vU s.c kind a v code]}
def fi(s:CS)(f:Fi->Fi):CS:={s with c:={s.c with fi:=f s.c.fi}}
def la(s:CS)(f:La->La):CS:={s with c:={s.c with la:=f s.c.la}}
def so(s:CS)(f:So->So):CS:={s with c:={s.c with so:=f s.c.so}}
def ph(s:CS)(n:Int):CS:={s with c:={s.c with ph:=n}}
def kJ(s:CS)(k n v o:Int):CS:={s with b:=s.b.step ⟨k,s.c.id,n,v,o⟩}
def node(s:CS):No:=(s.b.ns[s.c.id.toNat]?).getD ⟨0,0,⟨0,0,[],0⟩,⟨0,0,0,.zero⟩,[],false,0⟩
def jV(s:CS)(a:Int):Int×Bool:=((s.node.load a).2.1,(s.node.load a).2.2.1 && decide ((s.node.load a).2.2.2.2=0))
def uf(s:CS)(a v:Int):Bool:=(s.node.store a v).2.1 && decide ((s.node.store a v).2.2.2=0)
def xT(s:CS)(a o:Int):Bool×Bool:=((s.node.jA a o).1,(s.node.jA a o).2.1 && decide ((s.node.jA a o).2.2=0))
def ld(s:CS)(a:Int):CS:=s.kJ 0 a 0 0
def st(s:CS)(a v:Int):CS:=s.kJ 1 a v 0
def cs(s:CS)(a o v:Int):CS:=s.kJ 2 a v o
def abort(s:CS)(code:Int):CS:=(((s.tell 6 0 0 code).fi .restore).la (·.abort code)).ph 1
def leave(s:CS):CS:={((s.la .leave).fi .drop).ph 0 with c:={((s.la .leave).fi .drop).ph 0 |>.c with held:=false}}
def aw(s:CS):CS:=let t:=if s.c.said=true then s else s.tell 5 0 0 0
 {t with c:={t.c with said:=true,held:=false}}
def fm(s:CS)(next:Int):CS:=let t:=s.fi (·.jump next)
 {t with c:={t.c with nT:=aj .i64 (t.c.nT+1)}}
def cz(s:CS):CS:=s.aw.leave.fm (aj .i64 (s.c.fi.pc+1))
def breaks(s:CS):CS:=let t:=((s.tell 6 0 0 7).fi .restore).leave
 {t with c:={t.c with halted:=true,lM:=true}}
def cJ(s:CS):CS :=
 if s.c.la.lane=0 then{s with c:={s.c with halted:=true,lM:=true}}
 else if s.c.la.lane=3 then let t:=s.so .CK
  {t with c:={t.c with want:=hO,ph:=6}}
 else if s.c.la.lane=4 then s.ph 10
 else(s.kJ 5 7 0 0).breaks
def G5(c:Co)(u:Int):Bool:=decide (u<(c.lines-1)*8)
def d9(s:CS)(f:mE)(v:Int):CS:=((s.tell (if s.c.la.lane=0 then 7 else 2) (if G5 s.c f.addr=true then 8+f.addr else 0) v 0).fi (·.set f.nQ v)).fm f.au
def kY(s:CS)(f:mE)(a:Int):CS :=
 if s.c.la.lane=3 then let t:=s.so (·.load a)
  if t.c.so.busy=true then{t with c:={t.c with want:=f,ph:=6}}else t.d9 f t.c.so.value
 else match(if s.c.la.lane=4 then da s.c.aQ a else none)with
  |some v=>s.d9 f v
  |none=>if(s.jV a).2=true then(s.ld a).d9 f (s.jV a).1 else s.ld a
def stored(s:CS)(kind:Int)(f:mE)(a:Int):CS:=(s.tell kind a f.value 0).fm f.au
def ic(s:CS)(f:mE)(a:Int):CS :=
 if s.c.la.lane=3 then let t:=s.so (·.store a f.value)
  if t.c.so.busy=true then{t with c:={t.c with want:=f,ph:=6}}else t.stored 3 f a
 else if s.c.la.lane=4 then({s with c:={s.c with aQ:=fk s.c.aQ a f.value}}:CS).stored 3 f a
 else if s.uf a f.value=true then
  if s.c.la.lane=0 then(s.st a f.value).stored 8 f a else let t:=s.st a f.value
   ({t with c:={t.c with wrote:=true}}:CS).stored 3 f a
 else s.st a f.value
def ends(s:CS):CS :=
 if s.c.la.lane=3 then let t:=s.so .bw
  {t with c:={t.c with want:=⟨6,0,0,0,0⟩,ph:=6}}
 else if s.c.la.lane=4 then s.ph 9
 else if s.c.la.lane=2/\s.c.wrote=true then s.ph 7
 else(s.kJ 4 0 0 0).cz
def mY(s:CS):CS :=
 if(s.c.code.length:Int)<=s.c.fi.pc then if s.c.la.lane=0 then{s with c:={s.c with halted:=true}}else s.cJ
 else
  let f:=(s.c.code.getD s.c.fi.pc.toNat ⟨0,0,0,0,0⟩).fO s.c.fi.rs s.c.fi.pc
  let is:=G5 s.c f.addr
  let a:=8+f.addr
  if(f.kind=3\/f.kind=4)/\is=false\/f.kind=0\/s.c.la.lane≠0/\f.kind=5\/s.c.la.lane=0/\f.kind=6\/s.c.la.lane≠0/\f.kind=7 then s.cJ
  else if f.kind=7 then{s with c:={s.c with halted:=true}}
  else if f.kind=1 then(s.fi (·.set f.nQ f.value)).fm f.au
  else if f.kind=2 then s.fm f.au
  else if f.kind=3 then s.kY f a
  else if f.kind=4 then s.ic f a
  else if f.kind=5 then let t:=((s.fm f.au).fi .save).la .enter
   {t with c:={t.c with blocks:=aj .i64 (t.c.blocks+1),ph:=1}}
  else s.ends
def iZ(s:CS):CS :=
 let t0:=s.tell 1 0 0 0
 let t:CS:={t0 with c:={t0.c with aQ:=[],done:=0,wrote:=false,said:=false}}
 if s.c.la.lane=1 then(t.kJ 3 0 0 0).ph 2
 else if s.c.la.lane=2 then(t.kJ 3 0 0 0).ph 3
 else if s.c.la.lane=3 then let u:=t.so .begin
  {u with c:={u.c with want:=⟨5,0,0,0,0⟩,ph:=6}}
 else t.ph 4
def nE(s:CS):CS :=
 let r:=s.xT 0 s.c.seq
 let t:=s.cs 0 s.c.seq (aj .u64 (s.c.seq+1))
 if r.2=false then t
 else if r.1=true then let u:=t.tell 4 0 0 0
  {u with c:={u.c with ph:=0,held:=true}}
 else t.ph 4
def gG(s:CS)(k:CS->CS):CS :=
 let v:=aj .u64 (s.c.seq+2)
 if s.uf 0 v=true then k (s.st 0 v)else s.st 0 v
def aK(s:CS):CS:=match(if 0<=s.c.done then s.c.aQ[s.c.done.toNat]? else none)with
 |some x=>if s.uf x.a x.v=true then let t:=s.st x.a x.v
  {t with c:={t.c with done:=aj .i64 (t.c.done+1)}}else s.st x.a x.v
 |none=>s.gG cz
def eL(s:CS):CS :=
 if s.c.so.ended=2 then s.abort 8
 else if s.c.want.kind=5 then s.ph 0
 else if s.c.want.kind=3 then(s.ph 0).d9 s.c.want s.c.so.value
 else if s.c.want.kind=6 then s.cz
 else s.breaks
def given(s:CS)(v:Int)(taken:Bool):CS :=
 let t:CS:={s with c:={s.c with held:=s.c.held ||taken && decide (s.c.so.want.a=0),so:=s.c.so.eO v taken}}
 let u:=if s.c.so.aC=true/\t.c.so.aC=false then t.aw else t
 let w:=if s.c.so.points<u.c.so.points then u.tell 4 0 0 0 else u
 if w.c.so.busy=true then w else w.eL
def mJ(s:CS):CS :=
 let r:=s.c.so.want
 if r.op=1 then if(s.jV r.a).2=true then(s.ld r.a).given (s.jV r.a).1 false else s.ld r.a
 else if r.op=2 then if s.uf r.a r.v=true then(s.st r.a r.v).given 0 false else s.st r.a r.v
 else if r.op=3 then if(s.xT r.a r.o).2=true then(s.cs r.a r.o r.v).given 0 (s.xT r.a r.o).1 else s.cs r.a r.o r.v
 else s
def act(s:CS):CS :=
 if s.c.ph=0 then s.mY
 else if s.c.ph=1 then s.iZ
 else if s.c.ph=2 then let r:=s.jV 1
  if r.2=true then let t:=(s.ld 1).ph 3
   if r.1≠0 then t.kJ 5 6 0 0 else t
  else s.ld 1
 else if s.c.ph=3 then let r:=s.jV 0
  if r.2=true then let t:=s.ld 0
   let u:CS:={t with c:={t.c with seq:=r.1,ph:=0}}
   if r.1 % 2=1 then u.kJ 5 6 0 0 else u
  else s.ld 0
 else if s.c.ph=4 then let r:=s.jV 0
  let t:=s.ld 0
  if r.2=true/\r.1 % 2=0 then{t with c:={t.c with seq:=r.1,ph:=5}}else t
 else if s.c.ph=5 then s.nE
 else if s.c.ph=6 then s.mJ
 else if s.c.ph=7 then s.gG (·.ph 8)
 else if s.c.ph=8 then(s.kJ 4 0 0 0).cz
 else if s.c.ph=9 then s.aK
 else if s.c.ph=10 then s.gG breaks
 else s
def oq(s:CS):Int:=if s.node.code<1\/6<s.node.code then 5 else s.node.code
def step(s:CS):CS×Int :=
 if s.c.lM=true then(s,111)
 else if s.c.halted=true then(s,110)
 else if s.c.la.pG=true/\s.c.ph≠1/\s.node.live=false then(s.abort s.oq,0)
 else(s.act,0)
end CS
end Go.Am
namespace Go.Am
def fM(x:Int):Prop:=0<=x/\x<18446744073709551616
def uC(x:Int):AV:=.int .u64 x
def bF:fM 0:=⟨ya _,by decide⟩
def Ek(n:Int):fM (aj .u64 n):=by rw[xbj];constructor<;>omega
def L8.u(x:L8):Prop:=∀w∈x.l,fM w
def L8.ij:L8.zero.u:=λ w h=>by
 simp only[L8.zero,jf,P1,or_false,or_self]at h;rw[h];exact bF
def Ey{α:Type}{l:List α}{k:Nat}{v x:α}(h:x∈l.set k v):x∈l\/x=v:=List.mem_or_eq_of_mem_set h
def L8.u.put{x:L8}(h:x.u)(i:Nat){y:Int}(a:fM y):(x.put i y).u:=λ w q=>(Ey q).elim (h w) λ e=>e▸a
def L8.u.get{x:L8}(h:x.u)(i:Nat):fM (x.get i):=by
 unfold L8.get;cases q:x.l[i]? with
 |none=>exact bF
 |some w=>exact h w (x9 q)
def En.U(e:En):Prop:=e.d.u/\e.o.u
def En.nV:En.zero.U:=⟨L8.ij,L8.ij⟩
def Ca.U(c:Ca):Prop:=∀e∈c.sl,e.U
def No.U(n:No):Prop:=n.c.U
def pI(l:List Mg):Prop:=∀m∈l,m.d.u
def pI.nil:pI []:=λ _ h=>by cases h
def pI.one{m:Mg}(h:m.d.u):pI [m]:=λ x q=>by rw[ja.1 q];exact h
def pI.app{a b:List Mg}(h:pI a)(d:pI b):pI (a++b):=λ x q=>(zt.1 q).elim (h x) (d x)
namespace Ca
variable{c:Ca}
def U.en(h:c.U)(i:Nat):(c.en i).U:=by
 unfold Ca.en;cases q:c.sl[i]? with
 |none=>exact En.nV
 |some e=>exact h e (x9 q)
def U.Es(h:c.U)(i:Nat){e:En}(he:e.U){u:Int}:Ca.U {c with us:=u,sl:=c.sl.set i e}:=λ x q=>(Ey q).elim (h x) λ w=>w▸he
def U.set(h:c.U)(i:Nat){e:En}(he:e.U):(c.set i e).U:=λ x q=>(Ey q).elim (h x) λ w=>w▸he
def U.use(h:c.U)(i:Nat):(c.use i).U:=h.Es i (e:={c.en i with u:=c.us+1}) (h.en i)
def U.word(h:c.U)(a:Nat):(c.word a).1.U/\fM ((c.word a).2.getD 0):=by
 unfold Ca.word;split
 .exact ⟨h,bF⟩
 .exact ⟨h.use _,(h.en _).1.get _⟩
def U.put(h:c.U)(a:Nat){y:Int}(f:fM y):(c.put a y).U:=by
 unfold Ca.put;split
 .exact h
 .rename_i i _;exact h.Es i (e:={c.en i with u:=c.us+1,d:=(c.en i).d.put (a % 8) y}) ⟨(h.en i).1.put _ f,(h.en i).2⟩
def U.mark(h:c.U)(l:Int)(w:Bool):(c.mark l w).U:=by
 unfold Ca.mark
 repeat' split
 all_goals first|exact h|(rename_i i _ _;exact h.set i ⟨(h.en i).1,(h.en i).1⟩)|(rename_i i _;exact h.set i (e:={c.en i with r:=true}) (h.en i))
def U.cO(h:c.U)(l:Int):(c.cO l).1.U/\(c.cO l).2.u:=by
 unfold Ca.cO;split
 .exact ⟨h,L8.ij⟩
 .rename_i i _;exact⟨h.set i (e:={c.en i with st:=1}) (h.en i),(h.en i).1⟩
def U.cH(h:c.U)(l:Int){d:L8}(a:d.u):(c.cH l d).U:=by
 unfold Ca.cH;split
 .exact h
 .rename_i i _;exact h.set i ⟨a,(h.en i).2⟩
def U.drop(h:c.U)(l:Int):(c.drop l).1.U/\(c.drop l).2.U:=by
 unfold Ca.drop;split
 .exact ⟨h,En.nV⟩
 .exact ⟨h.set _ En.nV,h.en _⟩
def U.map(h:c.U){g:En->En}(hg:∀e,e.U->(g e).U):Ca.U {c with sl:=c.sl.map g}:=λ x q=>by
 obtain⟨e,he,rfl⟩:=FE.1 q;exact hg e (h e he)
def U.bw(h:c.U):c.bw.U:=h.map λ e he=>by unfold pQ;split;exact he;exact⟨he.1,L8.ij⟩
def U.discard(h:c.U):c.discard.U:=h.map λ e he=>by
 unfold back;split
 .exact he
 .refine ⟨?_,L8.ij⟩;show(if e.w then e.o else e.d).u;split;exact he.2;exact he.1
def U.fill(h:c.U)(l s:Int){d:L8}(a:d.u):(c.fill l s d).1.U/\(c.fill l s d).2.1.U:=by
 unfold Ca.fill;split
 .exact ⟨h,En.nV⟩
 .split
  .exact ⟨h,En.nV⟩
  .exact ⟨h.Es _ ⟨a,L8.ij⟩,h.en _⟩
end Ca
namespace No
variable{n:No}
def U.iG(h:n.U)(k:Int):(n.iG k).U:=Ca.U.discard h
def tw(n:No)(k l:Int):(n.msg k l).d.u:=L8.ij
def U.ask(h:n.U)(k l:Int):(n.ask k l).1.U/\pI (n.ask k l).2:=by
 unfold No.ask;split
 .exact ⟨h,.nil⟩
 .exact ⟨h,.one (tw _ _ _)⟩
def U.load(h:n.U)(a:Int):(n.load a).1.U/\fM (n.load a).2.1/\pI (n.load a).2.2.2.1:=by
 unfold No.load;split
 .split
  .exact ⟨(U.ask h _ _).1,bF,(U.ask h _ _).2⟩
  .have q:(if n.live then n.c.mark (ln a) false else n.c).U:=by split;exact Ca.U.mark h _ _;exact h
   exact⟨(q.word _).1,(q.word _).2,.nil⟩
 .exact ⟨h,bF,.nil⟩
def U.store(h:n.U)(a:Int){y:Int}(d:fM y):(n.store a y).1.U/\pI (n.store a y).2.2.1:=by
 unfold No.store;split
 .split
  .have q:(if n.live then n.c.mark (ln a) true else n.c).U:=by split;exact Ca.U.mark h _ _;exact h
   exact⟨q.put _ d,.nil⟩
  .exact U.ask h _ _
 .exact ⟨h,.nil⟩
def U.lP(h:n.U)(a o:Int){y:Int}(d:fM y):(n.lP a o y).1.U/\pI (n.lP a o y).2:=by
 unfold No.lP;split
 .split
  .exact ⟨h,.nil⟩
  .split
   .refine ⟨?_,.nil⟩;show Ca.U (if _ then _ else _);split
    .exact (Ca.U.word h _).1.put _ d
    .exact (Ca.U.word h _).1
   .exact U.ask h _ _
 .exact ⟨h,.nil⟩
def U.begin(h:n.U):n.begin.U:=by unfold No.begin;split;exact h;exact h
def U.bw(h:n.U):n.bw.U:=by unfold No.bw;split;exact Ca.U.bw h;exact h
def U.abort(h:n.U)(k:Int):(n.abort k).1.U:=by
 unfold No.abort;repeat' split
 all_goals first|exact h|exact U.iG h _
def U.lost(h:n.U)(x:En)(t:Bool):(n.lost x t).U:=by
 unfold No.lost;repeat' split
 all_goals first|exact h|exact U.iG h _
def U.gone(h:n.U){x:En}(a:x.U):(n.gone x).1.U/\pI (n.gone x).2:=by
 unfold No.gone;split
 .exact ⟨h,.one a.1⟩
 .exact ⟨h,.nil⟩
def U.dM(h:n.U){m:Mg}(hm:m.d.u)(s:Int):(n.dM m s).1.U/\pI (n.dM m s).2:=by
 obtain⟨a,e⟩:=Ca.U.fill h m.line s hm;unfold No.dM;split
 .exact U.gone (n:={n with c:=(n.c.fill m.line s m.d).1}) a e
 .exact ⟨a,.nil⟩
def U.fill(h:n.U){m:Mg}(hm:m.d.u):(n.fill m).1.U/\pI (n.fill m).2:=by
 unfold No.fill;generalize(if m.k=15 then(2:Int)else 1)=s;unfold No.lV;split
 .exact U.dM (U.iG h 3) hm s
 .exact U.dM h hm s
def U.bQ(h:n.U){m:Mg}(hm:m.d.u):(n.bQ m).1.U/\pI (n.bQ m).2:=by
 unfold No.bQ;split
 .exact ⟨h,.nil⟩
 split
 .exact ⟨(Ca.U.drop (U.lost h _ _) _).1,.one (tw _ _ _)⟩
 split
 .split
  .exact ⟨h,.one (tw _ _ _)⟩
  .split
   .exact ⟨(Ca.U.cO (U.lost h _ _) _).1,.one (Ca.U.cO (U.lost h _ _) _).2⟩
   .exact ⟨(Ca.U.drop (U.lost h _ _) _).1,.one (Ca.U.drop (U.lost h _ _) _).2.1⟩
 split
 .exact ⟨h,.nil⟩
 split
 .exact ⟨Ca.U.cH h _ hm,.one (tw _ _ _)⟩
 .obtain ⟨a,e⟩:=U.fill (n:={n with out:=⟨0,0,0,.zero⟩}) h hm;exact⟨a,e.app (.one (tw _ _ _))⟩
def U.cT(h:n.U)(l:Int):(n.cT l).1.U/\pI (n.cT l).2:=by
 unfold No.cT;split
 .exact ⟨h,.nil⟩
 split
 .exact ⟨h,.nil⟩
 .rename_i x _;have q:(if x.r ||x.w then n.iG 4 else n).U:=by split;exact U.iG h 4;exact h
  exact U.gone (n:={(if x.r ||x.w then n.iG 4 else n)with c:=((if x.r ||x.w then n.iG 4 else n).c.drop l).1}) (Ca.U.drop q l).1 (Ca.U.drop q l).2
end No
namespace De
def xi9(x:De){w:L8}(hw:w.u):(x.dO w).2.d.u:=by unfold dO;split<;>exact hw
def X6(x:De)(m:Mg){w:L8}(hw:w.u):pI (x.begin m w).2:=by
 unfold begin;split
 .exact .one L8.ij
 split
 .exact .one (xi9 _ hw)
 .intro z q;obtain⟨c,-,rfl⟩:=FE.1 q;exact L8.ij
def vZ(x:De){w:L8}(hw:w.u)(q:Prop)[Decidable q]{o:List Mg}(ho:pI o):(x.tQ w q o).2.1.u/\pI (x.tQ w q o).2.2:=by
 unfold tQ;split
 .exact ⟨hw,ho.app (.one (xi9 _ hw))⟩
 .exact ⟨hw,ho⟩
def J1(x:De){w:L8}(hw:w.u){m:Mg}(hm:m.d.u):(x.bQ w m).2.1.u/\pI (x.bQ w m).2.2:=by
 unfold bQ;split
 .exact ⟨hw,.nil⟩
 split
 .split
  .exact ⟨hw,.nil⟩
  .exact ⟨hw,X6 _ _ hw⟩
 split
 .exact vZ _ hw _ .nil
 split
 .exact vZ _ hm _ .nil
 split
 .exact vZ _ hw _ .nil
 split
 .exact vZ _ hm _ (.one L8.ij)
 split
 .exact ⟨hw,.nil⟩
 .exact ⟨hw,X6 _ _ hw⟩
end De
structure xP(b:Bu):Prop where
 m:∀x∈b.m,x.u
 n:∀n∈b.ns,n.U
 f:pI b.fl
def xP.put{b:Bu}(h:xP b)(c:Nat){r:No×List Mg}(a:r.1.U)(d:pI r.2):xP (b.put c r):=⟨h.m,λ x q=>(Ey q).elim (h.n x) λ e=>e▸a,h.f.app d⟩
end Go.Am
namespace Go.Am
open Lang Go.Proofs
variable{M:ak}[MK M]
def Ou(op:Nat):List UInt8:=match op with
 |1=>[104,97,108,116]
 |2=>[115,101,116]
 |3=>[109,111,118]
 |4=>[97,100,100]
 |5=>[115,117,98]
 |6=>[109,117,108]
 |7=>[97,110,100]
 |8=>[120,111,114]
 |9=>[115,104,108]
 |10=>[115,104,114]
 |11=>[108,111,97,100]
 |12=>[115,116,111,114,101]
 |13=>[106,117,109,112]
 |14=>[101,113]
 |15=>[110,101]
 |16=>[108,116]
 |17=>[98,101,103,105,110]
 |18=>[101,110,100]
 |_=>[]
def uX:List AV:=(List.range 19).flatMap λ k=>[.str (Ou k),.str (pk k)]
def u6(H:ar):Prop:=H.bT wZ=some uX/\wZ<H.au
def u6.em{H H':ar}(h:u6 H)(f:Fr Em H H'):u6 H':=⟨(f.cells h.2 id).trans h.1,qj h.2 f.au⟩
def Ci:∀k:Nat,k<19->uX[k*2+1]? = some (.str (pk k))
 |0,_=>rfl
 |1,_=>rfl
 |2,_=>rfl
 |3,_=>rfl
 |4,_=>rfl
 |5,_=>rfl
 |6,_=>rfl
 |7,_=>rfl
 |8,_=>rfl
 |9,_=>rfl
 |10,_=>rfl
 |11,_=>rfl
 |12,_=>rfl
 |13,_=>rfl
 |14,_=>rfl
 |15,_=>rfl
 |16,_=>rfl
 |17,_=>rfl
 |18,_=>rfl
 |k+19,h=>absurd h (by omega)
def fh(i:gO):List AV:=[.int .i64 i.op,.int .i64 i.a,.int .i64 i.b,.int .i64 i.c,.int .i64 i.yR]
def nS(op:Int):Prop:=1<=op/\op<=18
instance(op:Int):Decidable (nS op):=inferInstanceAs (Decidable (_/\_))
def xgj{H:ar}(hs:u6 H)(op:Int):za M KM [.int .i64 op] H λ v H'=>v=.tuple [.str (if nS op then pk op.toNat else[]),.bool (decide (nS op))]/\H'=H:=by
 refine xcj ?_;obtain⟨w0,e,d⟩:=xck M ⟨none,KM⟩
 by_cases a:op<1
 .have hn:¬nS op:=λ q=>by have:=q.1;omega
  simp only[aa,bc,w0,e,a,qo hn,j9 hn]
 by_cases f:(19:Int)<=op
 .have hn:¬nS op:=λ q=>by have:=q.2;omega
  simp only[aa,bc,w0,e,a,f,qo hn,j9 hn]
 have g:nS op:=⟨by omega,by omega⟩
 have ix:Op.aS 19 2 [.ptr wZ 0,.int .i64 op]=some (.ptr wZ (0+op.toNat*2)):=by
  simp only[Op.aS];rw[Jj (i:=op.toNat) (by omega) (by omega)];rfl
 have ld:Op.ae [.ptr wZ (op.toNat*2+1)] H=some (.str (pk op.toNat)):=by
  rw[xz hs.1];exact Ci op.toNat (by omega)
 simp only[aa,bc,w0,e,a,f,d,ix,ld,qr g,kj g]
def AU{x c:UInt8}(h:¬x=c):BS x c=false:=by
 cases q:BS x c with
 |false=>rfl
 |true=>exact(h (by simpa[BS,<-UInt8.toNat_inj]using q)).elim
def q9y(c:UInt8):∀(s:List UInt8)(k:Nat),(∃i:Nat,FB c s k=some i/\c∈s)\/FB c s k=none/\c∉s:=by
 intro s
 induction s with
 |nil=>intro k;exact .inr ⟨rfl,by simp⟩
 |cons x s ih =>
  intro k
  by_cases h:x=c
  .subst h;exact .inl ⟨k,by simp[FB,BS],by simp⟩
  .rcases ih (k+1)with⟨i,a,e⟩|⟨a,d⟩
   .exact .inl ⟨i,by simp[FB,AU h,a],by simp[e]⟩
   .exact .inr ⟨by simp[FB,AU h,a],by simp[d,mO h]⟩
def Gk{s:List UInt8}{c:UInt8}{H:ar}:za M XR [.str s,.int .u8 c.toNat] H λ v H'=>H'=H /\ ∃z:Int,v=.int .i64 z/\(c∈s->0<=z)/\(c∉s->z = -1):=by
 refine qsx ?_;simp only[aa,bc,qsy];refine C3.q (R:=λ v H'=>H'=H /\ ∃z:Int,v=.int .i64 z/\(c∈s->0<=z)/\(c∉s->z = -1)) ?_ λ v H'⟨g,z,h,a,d⟩=>?_
 .refine qg9 ?_;rcases q9y c s 0 with⟨i,a,f⟩|⟨a,d⟩
  .have e:Op.aD [.str s,.int .u8 c.toNat]=some (.int .i64 (i:Nat)):=by
    simp only[Op.aD,EM,UInt8.ofNat_toNat,a];rfl
   simp only[aa,bc,Zp,e];exact⟨_,rfl,λ _=>by omega,λ q=>(q f).elim⟩
  .have e:Op.aD [.str s,.int .u8 c.toNat]=some (.int .i64 (-1)):=by
    simp only[Op.aD,EM,UInt8.ofNat_toNat,a];rfl
   simp only[aa,bc,Zp,e];exact⟨_,rfl,λ q=>(d q).elim,λ _=>rfl⟩
 .subst h;subst g;simp only[aa,bc];exact⟨z,rfl,a,d⟩
def xfg{H:ar}(hs:u6 H)(i:gO):za M MF [.agg (fh i)] H λ v H'=>v=.bool (decide i.mn)/\Fr Em H H':=by
 refine xcg ?_;obtain⟨w0,w4,F,I,D,u⟩:=xch M ⟨none,MF⟩;obtain⟨H1,N,x,-,O⟩:=bX H (OR (fh i) Eo);have ld:∀k,Op.ae [.ptr H.au k] H1=(fh i)[k]?:=λ k=>xz (qy O) k;have l0:Op.ae [.ptr H.au 0] H1=some (.int .i64 i.op):=ld 0;have l1:Op.ae [.ptr H.au 1] H1=some (.int .i64 i.a):=ld 1;have l2:Op.ae [.ptr H.au 2] H1=some (.int .i64 i.b):=ld 2;have l3:Op.ae [.ptr H.au 3] H1=some (.int .i64 i.c):=ld 3;have L:Op.build [.int .i64 0,.int .i64 0,.int .i64 0] [(0,1),(1,1),(2,1)] [.int .i64 i.a,.int .i64 i.b,.int .i64 i.c]=some (.agg [.int .i64 i.a,.int .i64 i.b,.int .i64 i.c]):=rfl;have ca:AV.cells (.agg (fh i))=fh i:=zu _;simp only[aa,bc,w0,ca,<-N,l0];refine C3.q (xgj (M:=M) (hs.em x) i.op) λ v K⟨A,y⟩=>?_;subst A;subst y;obtain⟨m,g⟩:∃m,m=(if nS i.op then pk i.op.toNat else[]):=⟨_,rfl⟩
 rw[<-g];simp only[aa,bc,xe,w4,l1,l2,l3,L]
 let ok:Nat->Prop:=λ j=>match j with
  |0=>65∈m->0<=i.a/\i.a<8
  |1=>66∈m->0<=i.b/\i.b<8
  |_=>67∈m->0<=i.c/\i.c<8
 have f:i.mn↔nS i.op/\ok 0/\ok 1/\ok 2:=by
  constructor
  .intro q;have l:nS i.op:=⟨q.1,q.2.1⟩
   rw[qr l]at g;subst g;exact⟨l,q.2.2.1,q.2.2.2.1,q.2.2.2.2⟩
  .intro ⟨l,B,p,C⟩;rw[qr l]at g;subst g;exact⟨l.1,l.2,B,p,C⟩
 have R:Op.bA 3 1 none [.agg [.int .i64 i.a,.int .i64 i.b,.int .i64 i.c],.int .i64 0]=some (.int .i64 i.a):=rfl;have S:Op.bA 3 1 none [.agg [.int .i64 i.a,.int .i64 i.b,.int .i64 i.c],.int .i64 1]=some (.int .i64 i.b):=rfl;have T:Op.bA 3 1 none [.agg [.int .i64 i.a,.int .i64 i.b,.int .i64 i.c],.int .i64 2]=some (.int .i64 i.c):=rfl;have U:Op.bK [.str [65,66,67],.int .i64 0]=some (.int .u8 ((65:UInt8).toNat:Nat)):=rfl;have V:Op.bK [.str [65,66,67],.int .i64 1]=some (.int .u8 ((66:UInt8).toNat:Nat)):=rfl;have W:Op.bK [.str [65,66,67],.int .i64 2]=some (.int .u8 ((67:UInt8).toNat:Nat)):=rfl;have b1:aj .i64 (0+1)=1:=by decide +kernel
 have b2:aj .i64 (1+1)=2:=by decide +kernel
 have b3:aj .i64 (2+1)=3:=by decide +kernel
 have no:∀{k:Nat},k<3 -> ¬ok k->decide i.mn=false:=λ{k}hk q=>j9 λ w=>by
  obtain⟨_,B,p,C⟩:=f.1 w;rcases(show k=0\/k=1\/k=2 by omega)with rfl|rfl|rfl
  .exact q B
  .exact q p
  .exact q C
 refine de.intro (λ n E G=>∃k:Nat,E=[(20,.int .i64 (k:Nat)),(19,.agg [.int .i64 i.a,.int .i64 i.b,.int .i64 i.c]),(4,.bool (decide (nS i.op))),(3,.str m)]/\n=3-k/\k<=3/\G=K /\ ∀j,j<k->ok j) ?_ ?_
 .exact ⟨_,_,⟨0,rfl,rfl,xy _,rfl,λ j P=>by omega⟩,by simp only[aa,bc]⟩
 rintro n E G ⟨k,rfl,rfl,hk,rfl,h⟩;rcases xq k 3 with o|o
 .have p:(k:Int)<3:=by omega
  obtain⟨c,r,Q,l,d⟩:∃(c:UInt8)(r:Int),Op.bA 3 1 none [.agg [.int .i64 i.a,.int .i64 i.b,.int .i64 i.c],.int .i64 (k:Nat)]=some (.int .i64 r)/\Op.bK [.str [65,66,67],.int .i64 (k:Nat)]=some (.int .u8 (c.toNat:Nat))/\(ok k↔(c∈m->0<=r/\r<8)):=by
   rcases(show k=0\/k=1\/k=2 by omega)with rfl|rfl|rfl
   .exact ⟨65,i.a,R,U,jx⟩
   .exact ⟨66,i.b,S,V,jx⟩
   .exact ⟨67,i.c,T,W,jx⟩
  have J:aj .i64 ((k:Int)+1)=((k+1:Nat):Int):=by rw[js (by omega) (by omega)];omega
  have go:ok k -> ∀j,j<k+1->ok j:=λ q j P=>by
   rcases xq j k with w|w
   .exact h j w
   .rw [show j=k by omega];exact q
  simp only[aa,bc,I,p,D,Q,l];refine C3.q (Gk (M:=M)) λ v Z⟨y,z,A,X,Y⟩=>?_;subst A;subst y
  by_cases s:c∈m
  .have t:(0:Int)<=z:=X s
   by_cases n1:r<0
   .have:=no o λ q=>by have:=(d.1 q s).1;omega
    simp only[aa,bc,t,n1,this];exact x
   by_cases n2:(8:Int)<=r
   .have:=no o λ q=>by have:=(d.1 q s).2;omega
    simp only[aa,bc,t,n1,n2,this];exact x
   simp only[aa,bc,t,n1,n2,u,J];exact⟨_,_,⟨k+1,rfl,rfl,by omega,go (d.2 λ _=>⟨by omega,by omega⟩)⟩,by simp only[aa,bc],by omega⟩
  .have t:¬(0:Int)<=z:=by rw[Y s];decide
   simp only[aa,bc,t,u,J];exact⟨_,_,⟨k+1,rfl,rfl,by omega,go (d.2 λ q=>(s q).elim)⟩,by simp only[aa,bc],by omega⟩
 .have p:¬(k:Int)<3:=by omega
  have:decide (nS i.op)=decide i.mn:=by
   have e:i.mn↔nS i.op:=⟨λ q=>(f.1 q).1,λ q=>f.2 ⟨q,h 0 (by omega),h 1 (by omega),h 2 (by omega)⟩⟩
   by_cases q:nS i.op
   .rw [kj q,kj (e.2 q)]
   .rw [j9 q,j9 λ w=>q (e.1 w)]
  simp only[aa,bc,I,p,F,this];exact x
end Go.Am
namespace Go.Am
open Lang Go.Proofs
variable{M:ak}[MK M]
def aZ(f:mE):List AV:=[.int .i64 f.kind,.int .i64 f.au,.int .i64 f.nQ,.int .u64 f.value,.int .u64 f.addr]
def X2(n:Int):pA n<8:=by
 unfold pA;rw[BitVec.toNat_and];exact Nat.lt_of_le_of_lt Nat.and_le_right (by decide)
def Nk{rs:List Int}(h:rs.length=8)(n:Int):(rs.map uC)[pA n]? = some (.int .u64 (rg rs n)):=by
 have hl:=X2 n;rw[xj,qt (by omega)];simp only[rg,zy,qt (show pA n<rs.length by omega)];rfl
def PT{rs:List Int}(h:rs.length=8)(hr:∀x∈rs,fM x)(n:Int):fM (rg rs n):=by
 have hl:=X2 n;simp only[rg,zy,qt (show pA n<rs.length by omega)];exact hr _ (List.getElem_mem _)
def GQ{x:Int}(e:fM x)(n:Nat):x.fdiv (2 ^ n)=aj .u64 (x / 2 ^ n):=by
 obtain⟨a,d⟩:=e;have hp:(0:Int)<2 ^ n:=Int.pow_pos (by decide);rw[Int.fdiv_eq_ediv_of_nonneg _ (HD hp),xe6 (Int.ediv_nonneg a (HD hp))];exact Int.lt_of_le_of_lt (Int.ediv_le_self _ a) d
def bdL(k n r d:Int):Op.build [.int .i64 0,.int .i64 0,.int .i64 0,.int .u64 0,.int .u64 0] [(0,1),(1,1),(2,1),(4,1)] [.int .i64 k,.int .i64 n,.int .i64 r,.int .u64 d]=some (.agg (aZ ⟨k,n,r,0,d⟩)):=rfl
def Xu(k n v d:Int):Op.build [.int .i64 0,.int .i64 0,.int .i64 0,.int .u64 0,.int .u64 0] [(0,1),(1,1),(3,1),(4,1)] [.int .i64 k,.int .i64 n,.int .u64 v,.int .u64 d]=some (.agg (aZ ⟨k,n,0,v,d⟩)):=rfl
def Ea{H:ar}{b:Nat}{x f:mE}(h:H.get b=some (OR (aZ x) jg)):Op.store 5 [.ptr b 0,.agg (aZ f)] H=some (.undef,H.set b (OR (aZ f) jg)):=by
 rw[t9 (o:=0) (n:=5) (v:=.agg (aZ f)) h rfl (by simp[aZ]) rfl];rfl
def Hq{H:ar}{b:Nat}{x:mE}(h:H.get b=some (OR (aZ x) jg)):Op.aq 5 [.ptr b 0] H=some (.agg (aZ x)):=by
 rw[rq (c:=aZ x) (qy h) (by simp[aZ])];rfl
def tL:Op.build (aZ hO) [] []=some (.agg (aZ hO)):=rfl
def zE(k n:Int):Op.build (aZ hO) [(0,1),(1,1)] [.int .i64 k,.int .i64 n]=some (.agg (aZ ⟨k,n,0,0,0⟩)):=rfl
def O3(k n r v:Int):Op.build (aZ hO) [(0,1),(1,1),(2,1),(3,1)] [.int .i64 k,.int .i64 n,.int .i64 r,.int .u64 v]=some (.agg (aZ ⟨k,n,r,v,0⟩)):=rfl
def pX:[AV.int .i64 0,.int .i64 0,.int .i64 0,.int .u64 0,.int .u64 0]=aZ hO:=rfl
structure vX(i:gO)(rs:List Int)(pc:Int)(b:Nat)(H:ar):Prop where
 gi:H.get b=some (OR (fh i) Eo)
 gr:H.get (b+1)=some (OR (rs.map uC) vL)
 gp:H.get (b+2)=some (OR [.int .i64 pc] cK)
 ge:H.get (b+3)=some (OR (aZ hO) jg)
 lt:b+3<H.au
section
variable{i:gO}{rs:List Int}{pc:Int}{b:Nat}{H H':ar}
def vX.em(h:vX i rs pc b H)(f:Fr Em H H'):vX i rs pc b H':=by
 have hl:=h.lt;exact⟨by rw[f.ah _ (by omega) id];exact h.gi,by rw[f.ah _ (by omega) id];exact h.gr,by rw[f.ah _ (by omega) id];exact h.gp,by rw[f.ah _ (by omega) id];exact h.ge,qj hl f.au⟩
def vX.li(h:vX i rs pc b H)(k:Nat):Op.ae [.ptr b k] H=(fh i)[k]?:=xz (qy h.gi) k
def vX.lp(h:vX i rs pc b H):Op.ae [.ptr (b+2) 0] H=some (.int .i64 pc):=xz (qy h.gp) 0
def ER(h:vX i rs pc b H)(hp:0<=pc/\pc<1024)(v:Int):za M R7 [.int .u64 v,.ptr (b+2) 0,.ptr b 0] H λ w H'=>w=.agg (aZ ⟨1,pc+1,i.a,v,0⟩)/\Fr Em H H':=by
 refine xf3 ?_;obtain⟨H1,f,d,-,j⟩:=bX H (OR (aZ hO) jg);have e:=h.em d;have l1:Op.ae [.ptr b 1] H1=some (.int .i64 i.a):=e.li 1;have wp:aj .i64 (pc+1)=pc+1:=js (by omega) (by omega);have g:Fr Em H (H1.set H.au (OR (aZ ⟨1,pc+1,i.a,v,0⟩) jg)):=d.set (.inr (qg _)) _;have ld:=Hq (xc H1 H.au (OR (aZ ⟨1,pc+1,i.a,v,0⟩) jg));simp only[aa,bc,xf4,pX,<-f,e.lp,wp,l1,O3,Ea j,ld];exact g
def TI(h:vX i rs pc b H)(hp:0<=pc/\pc<1024)(k:Int):za M SC [.int .i64 k,.ptr (b+2) 0] H λ w H'=>w=.agg (aZ ⟨k,pc+1,0,0,0⟩)/\Fr Em H H':=by
 refine xf7 ?_;obtain⟨H1,d,a,-,f⟩:=bX H (OR (aZ hO) jg);have g:=h.em a;have wp:aj .i64 (pc+1)=pc+1:=js (by omega) (by omega);have e:Fr Em H (H1.set H.au (OR (aZ ⟨k,pc+1,0,0,0⟩) jg)):=a.set (.inr (qg _)) _;have ld:=Hq (xc H1 H.au (OR (aZ ⟨k,pc+1,0,0,0⟩) jg));simp only[aa,bc,xf8,pX,<-d,g.lp,wp,zE,Ea f,ld];exact e
def Rx(h:vX i rs pc b H)(hp:0<=pc/\pc<1024)(q:Bool):za M Qs [.bool q,.ptr (b+2) 0,.ptr b 0] H λ w H'=>w=.agg (aZ (mP i pc q))/\Fr Em H H':=by
 refine xf5 ?_;obtain⟨w0,l,a,m⟩:=xf6 M ⟨none,Qs⟩;obtain⟨H1,g,o,-,k⟩:=bX H (OR (aZ hO) jg);have p:=h.em o;have wp:aj .i64 (pc+1)=pc+1:=js (by omega) (by omega);have l4:Op.ae [.ptr b 4] H1=some (.int .i64 i.yR):=p.li 4;have j:∀f,Fr Em H (H1.set H.au (OR (aZ f) jg)):=λ f=>o.set (.inr (qg _)) _;have ld:∀f,Op.aq 5 [.ptr H.au 0] (H1.set H.au (OR (aZ f) jg))=some (.agg (aZ f)):=λ f=>Hq (xc H1 H.au (OR (aZ f) jg));cases q with
 |false =>
  simp only[aa,bc,w0,pX,<-g,l,p.lp,wp,zE,Ea k,ld];exact⟨rfl,j _⟩
 |true =>
  by_cases d:i.yR<0
  .simp only[aa,bc,w0,pX,<-g,l,a,l4,d,tL,Ea k,ld];exact⟨by unfold mP;rw[qr rfl,qr (.inl d)],j _⟩
  by_cases e:(1024:Int)<i.yR
  .simp only[aa,bc,w0,pX,<-g,l,a,l4,d,e,tL,Ea k,ld];exact⟨by unfold mP;rw[qr rfl,qr (.inr e)],j _⟩
  simp only[aa,bc,w0,pX,<-g,l,a,l4,d,e,m,zE,Ea k,ld];exact⟨by unfold mP;rw[qr rfl,qo (λ q=>q.elim d e)],j _⟩
def Tg(h:vX i rs pc b H)(d:rs.length=8)(n:Int):za M RM [.int .i64 n,.ptr (b+1) 0] H λ w H'=>w=.int .u64 (rg rs n)/\H'=H:=by
 refine xf9 ?_;have hl:=X2 n;have a:Op.bin .and [.int .i64 n,.int .i64 7]=some (.int .i64 ((pA n:Nat):Int)):=by
  show some (AV.int .i64 (aj .i64 ((pA n:Nat):Int)))=_;rw[js (by omega) (by omega)]
 have ix:Op.aS 8 1 [.ptr (b+1) 0,.int .i64 ((pA n:Nat):Int)]=some (.ptr (b+1) (pA n)):=by
  simp only[Op.aS];rw[Jj (i:=pA n) rfl hl];simp
 have ld:Op.ae [.ptr (b+1) (pA n)] H=some (.int .u64 (rg rs n)):=by rw[xz (qy h.gr)];exact Nk d n
 simp only[aa,bc,xga,a,ix,ld]
end
def FA{H:ar}(hs:u6 H){i:gO}{rs:List Int}{pc:Int}(J:rs.length=8)(hr:∀x∈rs,fM x):za M Vn [.agg (fh i),.agg (rs.map uC),.int .i64 pc] H λ v H'=>v=.agg (aZ (i.fO rs pc))/\Fr Em H H':=by
 refine zU ?_;obtain⟨w0,w2,Y,Z,w18,w22,O,m,p,r,s,u,B,A,G⟩:=Aj M ⟨none,Vn⟩;obtain⟨H1,e1,f1,n1,-⟩:=bX H (OR (fh i) Eo);obtain⟨H2,S,L,-,-⟩:=bX H1 (OR (rs.map uC) vL);obtain⟨H3,T,I,-,-⟩:=bX H2 (OR [.int .i64 pc] cK);obtain⟨P,U,F,-,-⟩:=bX H3 (OR (aZ hO) jg);have n2:H2.au=H.au+2:=by rw[S,xx,n1]
 have W:H3.au=H.au+3:=by rw[T,xx,n2]
 have n4:P.au=H.au+4:=by rw[U,xx,W]
 have f4:Fr Em H P:=((f1.trans L λ _ q=>q.elim).trans I λ _ q=>q.elim).trans F λ _ q=>q.elim;have hM:vX i rs pc H.au P:=by
  refine⟨?_,?_,?_,?_,by omega⟩
  .rw [F.ah _ (by omega) id,I.ah _ (by omega) id,L.ah _ (by omega) id,e1,xf]
  .rw [F.ah _ (by omega) id,I.ah _ (by omega) id,S,<-n1,xf]
  .rw [F.ah _ (by omega) id,T,<-n2,xf]
  .rw [U,<-W,xf]
 have c1:AV.cells (.agg (fh i))=fh i:=zu _;have c2:AV.cells (.agg (rs.map uC))=rs.map uC:=zu _;have c3:AV.cells (.int .i64 pc)=[.int .i64 pc]:=rfl;simp only[aa,bc,w0,c1,<-e1,c2,<-S,c3,<-T,pX,<-U,n1,n2,W,w2];have li:Op.aq 5 [.ptr H.au 0] P=some (.agg (fh i)):=by rw[rq (c:=fh i) (qy hM.gi) (by simp[fh])];rfl
 simp only[aa,bc,li];refine C3.q (xfg (M:=M) (hs.em f4) i) λ v K⟨l,f5⟩=>?_;subst l;have d:=hM.em f5;have j:=f4.trans f5 λ _ q=>q.elim
 -- the end
 have fin:∀{z:ar},vX i rs pc H.au z->Fr Em H z->(∀f,Op.store 5 [.ptr (H.au+3) 0,.agg (aZ f)] z=some (.undef,z.set (H.au+3) (OR (aZ f) jg)))/\(∀f,Op.aq 5 [.ptr (H.au+3) 0] (z.set (H.au+3) (OR (aZ f) jg))=some (.agg (aZ f))) /\ ∀f,Fr Em H (z.set (H.au+3) (OR (aZ f) jg)):=λ{z}hx fx =>
  ⟨λ f=>Ea hx.ge,λ f=>Hq (xc z (H.au+3) (OR (aZ f) jg)),λ f=>fx.set (.inr (by omega)) _⟩
 by_cases hb:¬i.mn\/pc<0\/1024<=pc
 .have hd:i.fO rs pc=hO:=by unfold gO.fO;rw[qr hb]
  rw[hd];obtain⟨st,ld,k⟩:=fin d j
  by_cases Q:i.mn
  .by_cases E:pc<0
   .simp only[aa,bc,kj Q,d.lp,E,tL,st,ld];exact k _
   .have X:(1024:Int)<=pc:=by rcases hb with q|q|q;exact(q Q).elim;omega;exact q
    simp only[aa,bc,kj Q,d.lp,E,X,tL,st,ld];exact k _
  .simp only[aa,bc,j9 Q,tL,st,ld];exact k _
 have D:i.mn:=GA.1 λ q=>hb (.inl q);have E:¬pc<0:=λ q=>hb (.inr (.inl q));have X:¬(1024:Int)<=pc:=λ q=>hb (.inr (.inr q));have hp:0<=pc/\pc<1024:=⟨by omega,by omega⟩
 have wp:aj .i64 (pc+1)=pc+1:=js (by omega) (by omega);have mk1:Op.bD R7 0 [.ptr (H.au+2) 0,.ptr H.au 0]=some (.fn (.func R7) [] [.ptr (H.au+2) 0,.ptr H.au 0]):=rfl;have mk2:Op.bD Qs 0 [.ptr (H.au+2) 0,.ptr H.au 0]=some (.fn (.func Qs) [] [.ptr (H.au+2) 0,.ptr H.au 0]):=rfl;have mk3:Op.bD SC 0 [.ptr (H.au+2) 0]=some (.fn (.func SC) [] [.ptr (H.au+2) 0]):=rfl;have mk4:Op.bD RM 0 [.ptr (H.au+1) 0]=some (.fn (.func RM) [] [.ptr (H.au+1) 0]):=rfl;have k1:Op.ae [.ptr H.au 1] K=some (.int .i64 i.a):=d.li 1;have k2:Op.ae [.ptr H.au 2] K=some (.int .i64 i.b):=d.li 2;have V:Op.ae [.ptr H.au 3] K=some (.int .i64 i.c):=d.li 3;have k4:Op.ae [.ptr H.au 4] K=some (.int .i64 i.yR):=d.li 4;have k0:Op.ae [.ptr H.au 0] K=some (.int .i64 i.op):=d.li 0;simp only[aa,bc,kj D,d.lp,E,X,Y,Z,w18,k1,k2,V];refine C3.q (Tg (M:=M) d J i.a) λ v R⟨l,N⟩=>?_;subst l;subst N;simp only[aa,bc,k2,V];refine C3.q (Tg (M:=M) d J i.b) λ v R⟨l,N⟩=>?_;subst l;subst N;simp only[aa,bc,V];refine C3.q (Tg (M:=M) d J i.c) λ v R⟨l,N⟩=>?_;subst l;subst N;have ra:=PT J hr i.a;have rb:=PT J hr i.b;have rc:=PT J hr i.c;simp only[aa,bc,k4,w22,k0];have hop:1<=i.op/\i.op<=18:=⟨D.1,D.2.1⟩
 -- what is told
 have t:∀{f:mE}{z:ar},f=i.fO rs pc->Fr Em H z->AV.agg (aZ f)=.agg (aZ (i.fO rs pc))/\Fr Em H z:=λ e q=>⟨by rw[e],q⟩
 have C:i.op=1\/i.op=2\/i.op=3\/i.op=4\/i.op=5\/i.op=6\/i.op=7\/i.op=8\/i.op=9\/i.op=10\/i.op=11\/i.op=12\/i.op=13\/i.op=14\/i.op=15\/i.op=16\/i.op=17\/i.op=18:=by omega
 have cl:∀{x:AV}{f:mE}{z:ar},x=.agg (aZ f)->Fr Em R z->vX i rs pc H.au z/\Fr Em H z:=λ _ q=>⟨d.em q,j.trans q λ _ w=>w.elim⟩
 rcases C with o|o|o|o|o|o|o|o|o|o|o|o|o|o|o|o|o|o
 .simp only[aa,bc,o,sL];refine C3.q (TI (M:=M) d hp 7) λ v y⟨l,h⟩=>?_;subst l;have g:=j.trans h λ _ w=>w.elim;obtain⟨st,ld,k⟩:=fin (d.em h) g;simp only[aa,bc,st,ld];refine t ?_ (k _);unfold gO.fO;rw[qo hb];simp[o]
 .simp only[aa,bc,o,Int.reduceEq,sL,k4];refine C3.q (ER (M:=M) d hp (aj .u64 i.yR)) λ v y⟨l,h⟩=>?_;subst l;have g:=j.trans h λ _ w=>w.elim;obtain⟨st,ld,k⟩:=fin (d.em h) g;simp only[aa,bc,st,ld];refine t ?_ (k _);unfold gO.fO;rw[qo hb];simp[o]
 .simp only[aa,bc,o,Int.reduceEq,sL,m];refine C3.q (ER (M:=M) d hp (rg rs i.b)) λ v y⟨l,h⟩=>?_;subst l;have g:=j.trans h λ _ w=>w.elim;obtain⟨st,ld,k⟩:=fin (d.em h) g;simp only[aa,bc,st,ld];refine t ?_ (k _);unfold gO.fO;rw[qo hb];simp[o]
 .simp only[aa,bc,o,Int.reduceEq,sL,m];refine C3.q (ER (M:=M) d hp _) λ v y⟨l,h⟩=>?_;subst l;have g:=j.trans h λ _ w=>w.elim;obtain⟨st,ld,k⟩:=fin (d.em h) g;simp only[aa,bc,st,ld];refine t ?_ (k _);unfold gO.fO;rw[qo hb];simp[o,Ew]
 .simp only[aa,bc,o,Int.reduceEq,sL,m,p];refine C3.q (ER (M:=M) d hp _) λ v y⟨l,h⟩=>?_;subst l;have g:=j.trans h λ _ w=>w.elim;obtain⟨st,ld,k⟩:=fin (d.em h) g;simp only[aa,bc,st,ld];refine t ?_ (k _);unfold gO.fO;rw[qo hb];simp[o,Ew]
 .simp only[aa,bc,o,Int.reduceEq,sL,m,p];refine C3.q (ER (M:=M) d hp _) λ v y⟨l,h⟩=>?_;subst l;have g:=j.trans h λ _ w=>w.elim;obtain⟨st,ld,k⟩:=fin (d.em h) g;simp only[aa,bc,st,ld];refine t ?_ (k _);unfold gO.fO;rw[qo hb];simp[o,Ew]
 .have q:Op.bin .and [.int .u64 (rg rs i.b),.int .u64 (rg rs i.c)]=some (.int .u64 (Ew 7 (rg rs i.b) (rg rs i.c))):=rfl;simp only[aa,bc,o,Int.reduceEq,sL,m,p,r,q];refine C3.q (ER (M:=M) d hp _) λ v y⟨l,h⟩=>?_;subst l;have g:=j.trans h λ _ w=>w.elim;obtain⟨st,ld,k⟩:=fin (d.em h) g;simp only[aa,bc,st,ld];refine t ?_ (k _);unfold gO.fO;rw[qo hb];simp[o]
 .have q:Op.bin .xor [.int .u64 (rg rs i.b),.int .u64 (rg rs i.c)]=some (.int .u64 (Ew 8 (rg rs i.b) (rg rs i.c))):=rfl;simp only[aa,bc,o,Int.reduceEq,sL,m,p,r,q];refine C3.q (ER (M:=M) d hp _) λ v y⟨l,h⟩=>?_;subst l;have g:=j.trans h λ _ w=>w.elim;obtain⟨st,ld,k⟩:=fin (d.em h) g;simp only[aa,bc,st,ld];refine t ?_ (k _);unfold gO.fO;rw[qo hb];simp[o]
 .have q:Op.bin .rem [.int .u64 (rg rs i.c),.int .u64 64]=some (.int .u64 (((rg rs i.c % 64).toNat:Nat):Int)):=by
   rw[tq .u64 _ _ (by decide),QV rc.1];congr 2;omega
  have E:=Pg .u64 .u64 (rg rs i.b) (rg rs i.c % 64).toNat;rw[show IntKind.u64.bits=64 from rfl,show min (rg rs i.c % 64).toNat 64=(rg rs i.c % 64).toNat by omega]at E;simp only[aa,bc,o,Int.reduceEq,sL,m,p,r,s,q,E];refine C3.q (ER (M:=M) d hp _) λ v y⟨l,h⟩=>?_;subst l;have g:=j.trans h λ _ w=>w.elim;obtain⟨st,ld,k⟩:=fin (d.em h) g;simp only[aa,bc,st,ld];refine t ?_ (k _);unfold gO.fO;rw[qo hb];simp[o,Ew]
 .have q:Op.bin .rem [.int .u64 (rg rs i.c),.int .u64 64]=some (.int .u64 (((rg rs i.c % 64).toNat:Nat):Int)):=by
   rw[tq .u64 _ _ (by decide),QV rc.1];congr 2;omega
  have E:=P2 .u64 .u64 (rg rs i.b) (rg rs i.c % 64).toNat;rw[show IntKind.u64.bits=64 from rfl,show min (rg rs i.c % 64).toNat 64=(rg rs i.c % 64).toNat by omega,GQ rb]at E;simp only[aa,bc,o,Int.reduceEq,sL,m,p,r,s,q,E];refine C3.q (ER (M:=M) d hp _) λ v y⟨l,h⟩=>?_;subst l;have g:=j.trans h λ _ w=>w.elim;obtain⟨st,ld,k⟩:=fin (d.em h) g;simp only[aa,bc,st,ld];refine t ?_ (k _);unfold gO.fO;rw[qo hb];simp[o,Ew]
 .obtain ⟨st,ld,k⟩:=fin d j;simp only[aa,bc,o,Int.reduceEq,sL,m,p,r,s,u,d.lp,wp,k1,bdL,st,ld];refine t ?_ (k _);unfold gO.fO;rw[qo hb];simp[o]
 .obtain ⟨st,ld,k⟩:=fin d j;simp only[aa,bc,o,Int.reduceEq,sL,m,p,r,s,u,d.lp,wp,Xu,st,ld];refine t ?_ (k _);unfold gO.fO;rw[qo hb];simp[o]
 .simp only[aa,bc,o,Int.reduceEq,sL,m,p,r,s,u,B];refine C3.q (Rx (M:=M) d hp true) λ v y⟨l,h⟩=>?_;subst l;have g:=j.trans h λ _ w=>w.elim;obtain⟨st,ld,k⟩:=fin (d.em h) g;simp only[aa,bc,st,ld];refine t ?_ (k _);unfold gO.fO;rw[qo hb];simp[o]
 .simp only[aa,bc,o,Int.reduceEq,sL,m,p,r,s,u,B];refine C3.q (Rx (M:=M) d hp (decide (rg rs i.a=rg rs i.b))) λ v y⟨l,h⟩=>?_;subst l;have g:=j.trans h λ _ w=>w.elim;obtain⟨st,ld,k⟩:=fin (d.em h) g;simp only[aa,bc,st,ld];refine t ?_ (k _);unfold gO.fO;rw[qo hb];simp[o]
 .simp only[aa,bc,o,Int.reduceEq,sL,m,p,r,s,u,B,A];refine C3.q (Rx (M:=M) d hp (decide (rg rs i.a≠rg rs i.b))) λ v y⟨l,h⟩=>?_;subst l;have g:=j.trans h λ _ w=>w.elim;obtain⟨st,ld,k⟩:=fin (d.em h) g;simp only[aa,bc,st,ld];refine t ?_ (k _);unfold gO.fO;rw[qo hb];simp[o]
 .simp only[aa,bc,o,Int.reduceEq,sL,m,p,r,s,u,B,A];refine C3.q (Rx (M:=M) d hp (decide (rg rs i.a<rg rs i.b))) λ v y⟨l,h⟩=>?_;subst l;have g:=j.trans h λ _ w=>w.elim;obtain⟨st,ld,k⟩:=fin (d.em h) g;simp only[aa,bc,st,ld];refine t ?_ (k _);unfold gO.fO;rw[qo hb];simp[o]
 .simp only[aa,bc,o,Int.reduceEq,sL,m,p,r,s,u,B,A,G];refine C3.q (TI (M:=M) d hp 5) λ v y⟨l,h⟩=>?_;subst l;have g:=j.trans h λ _ w=>w.elim;obtain⟨st,ld,k⟩:=fin (d.em h) g;simp only[aa,bc,st,ld];refine t ?_ (k _);unfold gO.fO;rw[qo hb];simp[o]
 .simp only[aa,bc,o,Int.reduceEq,sL,m,p,r,s,u,B,A,G,O];refine C3.q (TI (M:=M) d hp 6) λ v y⟨l,h⟩=>?_;subst l;have g:=j.trans h λ _ w=>w.elim;obtain⟨st,ld,k⟩:=fin (d.em h) g;simp only[aa,bc,st,ld];refine t ?_ (k _);unfold gO.fO;rw[qo hb];simp[o]
end Go.Am
namespace Go.Am
open Lang Go.Proofs
def At(H:ar)(p t:Nat)(c:List AV):Prop:=H.get p=some (OR c t)/\p<H.au
section
variable{H H':ar}{p t:Nat}{c:List AV}
def At.ld(h:At H p t c)(k:Nat):Op.ae [.ptr p k] H=c[k]?:=xz (qy h.1) k
def At.fp(h:At H p t c){k n:Nat}(hn:k+n<=c.length):Op.aq n [.ptr p k] H=some (.agg ((c.drop k).take n)):=rq (qy h.1) hn
def At.gK(h:At H p t c){k n:Nat}{v:AV}(b:v.cells.length=n)(hn:k+n<=c.length)(a:aJ v.cells=true):Op.store n [.ptr p k,v] H=some (.undef,H.set p (OR (c.take k++v.cells++c.drop (k+n)) t)):=t9 h.1 b hn a
def AD{α:Type}:∀(c:List α)(k:Nat)(v:α),k<c.length->c.take k ++ [v]++c.drop (k+1)=c.set k v
 |[],k,v,h=>absurd h (Nat.not_lt_zero _)
 |x::c,0,v,_=>rfl
 |x::c,k+1,v,h=>congrArg (x :: ·) (AD c k v (Nat.lt_of_succ_lt_succ h))
def EF{v:AV}(h:av v=true):v.cells=[v]:=by
 cases v<;>first|rfl|cases h
def At.st(h:At H p t c)(k:Nat){v:AV}(a:av v=true)(hk:k<c.length):Op.store 1 [.ptr p k,v] H=some (.undef,H.set p (OR (c.set k v) t)):=by
 have e:=EF a;rw[h.gK (n:=1) (by rw[e];rfl) hk (by rw[e,yj];simp[a]),e,AD c k v hk]
def At.set(h:At H p t c)(a:List AV):At (H.set p (OR a t)) p t a:=⟨xc ..,h.2⟩
def At.fr{W:Nat->Prop}(h:At H p t c)(f:Fr W H H')(hw:¬W p):At H' p t c:=⟨(f.ah p h.2 hw).trans h.1,qj h.2 f.au⟩
def At.em(h:At H p t c)(f:Fr Em H H'):At H' p t c:=h.fr f id
def At.new(H:ar)(c:List AV)(t:Nat):At (H.alloc (OR c t)) H.au t c:=⟨xf ..,zp _⟩
def cE(H:ar)(p:Nat)(o:bH):Fr (On p) H (H.set p o):=(Fr.refl H).set (W:=On p) (.inl rfl) o
end
variable{M:ak}[MK M]
def dW{f:Nat}{vs:List AV}{H:ar}{v:AV}(h:za M f vs H λ w X=>w=v/\X=H)(K:Bool->AV->ar->Prop):C3 M true (.func f) vs H K=K true v H:=by
 obtain⟨w,X,⟨n1,d⟩,rfl,rfl⟩:=h.elim;refine propext ⟨?_,λ k=>⟨w,X,⟨n1,d⟩,k⟩⟩;rintro⟨e,X',⟨n2,g⟩,k⟩;have a:=d (max n1 n2) (by omega);rw[g (max n1 n2) (by omega)]at a;injection a with a
 injection a with a b
 injection b with _ b
 injection a with a
 subst a;subst b;exact k
def aA:(∀b o H,Op.eq .ptr false [.ptr b o,.nilp] H=some (.bool false))/\(∀b o H,Op.eq .ptr true [.ptr b o,.nilp] H=some (.bool true))/\(∀H,Op.eq .ptr false [.nilp,.nilp] H=some (.bool true))/\(∀H,Op.eq .ptr true [.nilp,.nilp] H=some (.bool false))/\(∀b o,Op.nilCheck [.ptr b o]=some (.ptr b o))/\(∀i l,Op.extract i [.tuple l]=l[i]?):=⟨yq,kX,Pd,tH,qn,xe⟩
def i6{o:Nat->Nat}{n k z:Nat}(h:z<n):aR o n k z=o z:=qr h
def mG{o:Nat->Nat}{n k z:Nat}(h:n<=z):aR o n k z=k:=qo (by omega)
def bZ(x:Fi)(pv:AV):List AV:=x.rs.map uC ++ [.int .i64 x.pc,pv,.bool true]
def fV(x:List Int×Int):List AV:=x.1.map uC ++ [.int .i64 x.2]
structure XO(x:List Int×Int):Prop where
 r8:x.1.length=8
 ru:∀v∈x.1,fM v
 pc:0<=x.2
def Pv(H:ar)(o:Nat->Nat)(f:Nat)(pv:AV):Option (List Int×Int)->Prop
 |none=>pv=.nilp
 |some x=>XO x /\ ∃b,pv=.ptr b 0/\At H b Oj (fV x)/\o b=2/\b≠f
structure pM(H:ar)(o:Nat->Nat)(f:Nat)(x:Fi):Prop where
 w:XO (x.rs,x.pc)
 at':∃pv,At H f FU (bZ x pv)/\Pv H o f pv x.pt
section
variable{H H':ar}{o o':Nat->Nat}{f:Nat}{x:Fi}
def Lm{rs:List Int}(h:rs.length=8)(k:Nat)(l:List AV):(rs.map uC++l)[8+k]? = l[k]?:=by
 rw[zh (by simp[h])];simp[h]
def IU{rs:List Int}(h:rs.length=8)(l:List AV):(rs.map uC++l).length=8+l.length:=by simp[h]
def Q0{rs:List Int}(h:rs.length=8)(l:List AV)(n:Nat):(rs.map uC++l).take (8+n)=rs.map uC++l.take n:=by
 rw[show 8+n=(rs.map uC).length+n by simp[h],List.take_length_add_append]
def J4{rs:List Int}(h:rs.length=8)(l:List AV)(n:Nat):(rs.map uC++l).drop (8+n)=l.drop n:=by
 rw[show 8+n=(rs.map uC).length+n by simp[h],Ot]
def Pv.fr{W:Nat->Prop}{pv:AV}{x:Option (List Int×Int)}(h:Pv H o f pv x)(a:Fr W H H')(hw:∀z,z<H.au->o z=2->z≠f -> ¬W z)(ho:∀z,z<H.au->o' z=o z):Pv H' o' f pv x:=by
 cases x with
 |none=>exact h
 |some x =>
  obtain⟨i,b,j,d,e,g⟩:=h;exact⟨i,b,j,d.fr a (hw b d.2 e g),(ho b d.2).trans e,g⟩
def pM.fr{W:Nat->Prop}(h:pM H o f x)(a:Fr W H H')(e:o f=2)(hw:∀z,z<H.au->o z=2 -> ¬W z)(ho:∀z,z<H.au->o' z=o z):pM H' o' f x:=by
 obtain⟨pv,b,d⟩:=h.at';exact⟨h.w,pv,b.fr a (hw f b.2 e),d.fr a (λ z q w _=>hw z q w) ho⟩
def pM.em(h:pM H o f x)(a:Fr Em H H'):pM H' o f x:=by
 obtain⟨pv,b,d⟩:=h.at';exact⟨h.w,pv,b.em a,d.fr a (λ _ _ _ _ q=>q) λ _ _=>rfl⟩
def pM.row(h:pM H o f x){pv:AV}(a:At H f FU (bZ x pv))(b:Pv H o f pv x.pt){y:Fi}(d:XO (y.rs,y.pc))(hp:y.pt=x.pt):pM (H.set f (OR (bZ y pv) FU)) (aR o H.au 2) f y :=
 ⟨d,pv,a.set _,hp▸b.fr (cE H f _) (λ z _ _ q=>q) λ z q=>i6 q⟩
def pM.same(h:pM H o f x):pM H (aR o H.au 2) f x:=by
 obtain⟨pv,a,b⟩:=h.at';exact⟨h.w,pv,a,b.fr (Fr.refl H) (λ z _ _ _ q=>q) λ z q=>i6 q⟩
def mh(h:pM H o f x):∀K,C3 M true (.func He) [.ptr f 0] H K=K true (.bool false) H:=by
 obtain⟨pv,a,-⟩:=h.at';have l:=(a.ld 10).trans (Lm h.w.r8 2 _);refine dW (qy6 ?_);simp only[aa,bc,qy7,aA,l]
def lH(h:pM H o f x):∀K,C3 M true (.func qk7) [.ptr f 0] H K=K true (.int .i64 (if x.pt.isSome then 0 else 60)) H:=by
 obtain⟨pv,d,a⟩:=h.at';have l:=(d.ld 9).trans (Lm h.w.r8 1 _);refine dW (quf ?_);cases q:x.pt with
 |none =>
  rw[q]at a;have a:pv=.nilp:=a;subst a;simp only[aa,bc,qli,aA,mh h,l,Option.isSome,zx]
 |some y =>
  rw[q]at a;obtain⟨-,b,rfl,-⟩:=a;simp only[aa,bc,qli,aA,mh h,l,Option.isSome]
def CU(h:pM H o f x)(i:Int):∀K,C3 M true (.func ql8) [.ptr f 0,.int .i64 i] H K=K true (.int .i64 (if 0<=i/\i<8 then 0 else 2)) H:=by
 refine dW (qwi ?_)
 by_cases a:i<0
 .simp only[aa,bc,XC,mh h,a,qo (λ q:0<=i/\i<8=>Ik.2 q.1 a)]
 by_cases b:(8:Int)<=i
 .simp only[aa,bc,XC,mh h,a,b,qo (λ q:0<=i/\i<8=>Ik.2 b q.2)]
 .simp only[aa,bc,XC,mh h,a,b,qr (show 0<=i/\i<8 by omega)]
def I1(H:ar)(o:Nat->Nat)(f:Nat)(y:Fi)(H':ar):Prop:=pM H' (aR o H.au 2) f y/\Fr (On f) H H'
def Lc(h:pM H o f x)(i:Int){v:Int}(k:fM v):za M U7 [.ptr f 0,.int .i64 i,.int .u64 v] H λ _ H'=>I1 H o f (x.set i v) H':=by
 refine q38 ?_;unfold Fi.set
 by_cases b:0<=i/\i<8
 .rw [qr b];obtain⟨pv,g,j⟩:=h.at';have d:=h.w.r8;obtain⟨a,rfl⟩:=z4 b.1;have ha:a<8:=by omega
  have ix:Op.aS 8 1 [.ptr f 0,.int .i64 (a:Int)]=some (.ptr f a):=by rw[Me rfl ha];simp
  have e:(bZ x pv).set a (.int .u64 v)=bZ {x with rs:=x.rs.set a v} pv:=by
   unfold bZ;rw[List.set_append_left _ _ (by simp[d];exact ha),List.map_set];rfl
  have st:=g.st a (v:=.int .u64 v) rfl (by unfold bZ;rw[IU d];omega);rw[e]at st;simp only[aa,bc,Y4,aA,CU h,qr b,ix,st];refine⟨h.row g j ⟨by simp[d],λ y q=>(Ey q).elim (h.w.ru y) λ e=>e▸k,h.w.pc⟩ rfl,cE ..⟩
 .rw [qo b];have m:¬(2:Int)=0:=by decide
  simp only[aa,bc,Y4,CU h,qo b,m];exact⟨h.same,Fr.refl _⟩
def II(h:pM H o f x)(i:Int):za M qn6 [.ptr f 0,.int .i64 i] H λ _ H'=>I1 H o f (x.jump i) H':=by
 refine qy3 ?_;unfold Fi.jump
 by_cases a:i<0
 .rw [qr a];simp only[aa,bc,qoj,mh h,a];exact⟨h.same,Fr.refl _⟩
 .rw [qo a];obtain⟨pv,d,g⟩:=h.at';have b:=h.w.r8;have e:(bZ x pv).set 8 (.int .i64 i)=bZ {x with pc:=i} pv:=by
   unfold bZ;rw[Lq _ _ (by simp[b])];simp[b]
  have st:=d.st 8 (v:=.int .i64 i) rfl (by unfold bZ;rw[IU b];simp);rw[e]at st;simp only[aa,bc,qoj,aA,mh h,a,st];exact⟨h.row d g ⟨b,h.w.ru,Ik.1 a⟩ rfl,cE ..⟩
def fpc(h:pM H o f x):∀K,C3 M true (.func Yj) [.ptr f 0] H K=K true (.int .i64 x.pc) H:=by
 obtain⟨pv,a,-⟩:=h.at';have l:=(a.ld 8).trans (Lm h.w.r8 0 _);refine dW (q5l ?_);simp only[aa,bc,q5m,aA,mh h,l]
def XZ(h:pM H o f x):za M YS [.ptr f 0] H λ v H'=>v=.agg (x.rs.map uC)/\Fr Em H H':=by
 refine q36 ?_;obtain⟨H1,e,b,-,-⟩:=bX H (OR (List.replicate 8 (.int .u64 0)) vL);have d:At H1 H.au vL _:=e▸At.new H _ _
 obtain⟨pv,i,-⟩:=(h.em b).at';have a:=h.w.r8;have l:=i.fp (k:=0) (n:=8) (by unfold bZ;rw[IU a];simp);rw[ym,show 8=8+0 from rfl,bZ,Q0 a,yz,ze]at l;have s:=d.gK (k:=0) (n:=8) (v:=.agg (x.rs.map uC)) (by simp[zu,a]) (by simp) (by rw[zu,yj];simp[uC,av]);rw[zu,yz,zw,je (by simp),ze]at s;have l2:=((d.set (x.rs.map uC)).fp (k:=0) (n:=8) (by simp[a]))
 rw[ym,zg (by simp[a])]at l2;have g:[AV.int .u64 0,.int .u64 0,.int .u64 0,.int .u64 0,.int .u64 0,.int .u64 0,.int .u64 0,.int .u64 0]=List.replicate 8 (.int .u64 0):=rfl;simp only[aa,bc,q37,aA,g,<-e,mh (h.em b),l,s,l2];exact b.set (.inr (qg _)) _
def Jt{pv:AV}(b:At H f FU (bZ x pv))(a:x.rs.length=8):Op.aq 9 [.ptr f 0] H=some (.agg (fV (x.rs,x.pc))):=by
 have l:=b.fp (k:=0) (n:=9) (by unfold bZ;rw[IU a];simp);rw[ym,show 9=8+1 from rfl,bZ,Q0 a]at l;exact l
def Wz{pv:AV}(b:At H f FU (bZ x pv))(a:x.rs.length=8):Op.aq 8 [.ptr f 0] H=some (.agg (x.rs.map uC)):=by
 have l:=b.fp (k:=0) (n:=8) (by unfold bZ;rw[IU a];simp);rw[ym,show 8=8+0 from rfl,bZ,Q0 a,yz,ze]at l;exact l
def AM(y:List Int×Int):aJ (fV y)=true:=by unfold fV;rw[yj];simp[uC,av]
def PG{y:List Int×Int}(h:y.1.length=8):(fV y).length=9:=by simp[fV,h]
def z9:[AV.int .u64 0,.int .u64 0,.int .u64 0,.int .u64 0,.int .u64 0,.int .u64 0,.int .u64 0,.int .u64 0,.int .i64 0]=fV (List.replicate 8 0,0):=rfl
def OX(h:pM H o f x):za M yl [.ptr f 0] H λ _ H'=>I1 H o f x.save H':=by
 refine qy4 ?_;obtain⟨pv,d,B⟩:=h.at';have a:=h.w.r8;obtain⟨H1,j,A,-,-⟩:=bX H (OR (fV (List.replicate 8 0,0)) Oj);have i:At H1 H.au Oj _:=j▸At.new H _ _
 have s:=i.gK (k:=0) (n:=9) (v:=.agg (fV (x.rs,x.pc))) (by rw[zu];exact PG a) (by simp[fV]) (by rw[zu];exact AM _);rw[zu,yz,zw,je (by simp[fV]),ze]at s;obtain⟨g,b⟩:∃X,X=H1.set H.au (OR (fV (x.rs,x.pc)) Oj):=⟨_,rfl⟩
 rw[<-b]at s;have y:At g H.au Oj (fV (x.rs,x.pc)):=b▸i.set _
 have m:Fr Em H g:=b▸A.set (.inr (qg _)) _;have r:=d.em m;have e:(bZ x pv).set 9 (.ptr H.au 0)=bZ x.save (.ptr H.au 0):=by
  unfold bZ;rw[Lq _ _ (by simp[a])];simp[a,Fi.save]
 have st:=r.st 9 (v:=.ptr H.au 0) rfl (by unfold bZ;rw[IU a];simp);rw[e]at st;simp only[aa,bc,qy5,aA,mh h,Jt d a,z9,<-j,s,st];have u:H.au≠f:=λ q=>by have:=d.2;omega
 exact⟨⟨h.w,_,r.set _,h.w,_,rfl,y.fr (cE ..) (λ q=>u q),mG (qg _),u⟩,(m.mono (W':=On f) λ _ _ q=>q.elim).trans (cE ..) λ z q=>.inl q⟩
def Qn(h:pM H o f x):za M Zx [.ptr f 0] H λ _ H'=>I1 H o f x.drop H':=by
 refine qy2 ?_;obtain⟨pv,b,g⟩:=h.at';have a:=h.w.r8;cases q:x.pt with
 |none =>
  have e:x.drop=x:=by unfold Fi.drop;cases x;simp only at q;rw[q]
  rw[e];have d:¬(60:Int)=0:=by decide
  simp only[aa,bc,Ye,lH h,q,Option.isSome,zx,d];exact⟨h.same,Fr.refl _⟩
 |some y =>
  have e:(bZ x pv).set 9 .nilp=bZ x.drop .nilp:=by
   unfold bZ;rw[Lq _ _ (by simp[a])];simp[a,Fi.drop]
  have st:=b.st 9 (v:=.nilp) rfl (by unfold bZ;rw[IU a];simp);rw[e]at st;simp only[aa,bc,Ye,aA,lH h,q,Option.isSome,st];exact⟨⟨h.w,_,b.set _,rfl⟩,cE ..⟩
def V0{a b:List Int}(ha:a.length=8)(hb:b.length=8)(H:ar):Op.eq (.agg (.part 0 none .int (.part 1 none .int (.part 2 none .int (.part 3 none .int (.part 4 none .int (.part 5 none .int (.part 6 none .int (.part 7 none .int .nil))))))))) true [.agg (a.map uC),.agg (b.map uC)] H=some (.bool (decide (a≠b))):=by
 match a,ha,b,hb with
 |[a0,a1,a2,a3,a4,a5,a6,a7],_,[b0,b1,b2,b3,b4,b5,b6,b7],_ =>
  refine(Ax _ _ _ _ (decide ([a0,a1,a2,a3,a4,a5,a6,a7]=[b0,b1,b2,b3,b4,b5,b6,b7])) ?_).trans (by simp);simp only[ji,EI,uC,bj,partAt,lR,jm,zq,qm,sJ,kE,Nat.beq,xm,yh,zk,rk]
  by_cases d:a0=b0<;>by_cases e:a1=b1<;>by_cases g:a2=b2<;>by_cases h:a3=b3<;>simp only[d,e,g,h,decide_true,JK,xm,zj,B0,false_and,and_false]<;>by_cases i:a4=b4<;>by_cases j:a5=b5<;>by_cases k:a6=b6<;>by_cases m:a7=b7<;>simp only[i,j,k,m,decide_true,JK,xm,zj,B0,false_and,and_false]
def nB(h:pM H o f x):za M qj9 [.ptr f 0] H λ _ H'=>I1 H o f x.restore H':=by
 refine qsi ?_;obtain⟨pv,g,j⟩:=h.at';have a:=h.w.r8;cases q:x.pt with
 |none =>
  have e:x.restore=x:=by unfold Fi.restore;rw[q]
  rw[e];have G:¬(60:Int)=0:=by decide
  simp only[aa,bc,Sj,lH h,q,Option.isSome,zx,G];exact⟨h.same,Fr.refl _⟩
 |some y =>
  rw[q]at j;have m:=j;obtain⟨d,b,rfl,hb,J,I⟩:=j;have e:x.restore=⟨y.1,y.2,some y⟩:=by unfold Fi.restore;rw[q]
  have r:=(g.ld 9).trans (Lm a 1 _);have A:=(g.ld 8).trans (Lm a 0 _);have B:=(hb.ld 8).trans (Lm d.r8 0 _);have u:Op.aq 8 [.ptr b 0] H=some (.agg (y.1.map uC)):=by
   have l:=hb.fp (k:=0) (n:=8) (by rw[PG d.r8];decide);rw[ym,show 8=8+0 from rfl,fV,Q0 d.r8,yz,ze]at l;exact l
  have C:Op.aq 9 [.ptr b 0] H=some (.agg (fV y)):=by
   have l:=hb.fp (k:=0) (n:=9) (by rw[PG d.r8];decide);rw[ym,zg (by rw[PG d.r8];decide)]at l;exact l
  have s:=g.gK (k:=0) (n:=9) (v:=.agg (fV y)) (by rw[zu];exact PG d.r8) (by unfold bZ;rw[IU a];simp) (by rw[zu];exact AM _);have D:(bZ x (.ptr b 0)).take 0++fV y++(bZ x (.ptr b 0)).drop (0+9)=bZ ⟨y.1,y.2,some y⟩ (.ptr b 0):=by
   rw[yz,zw,bZ,show 0+9=8+1 from rfl,J4 a,fV,zm];rfl
  rw[zu,D]at s
  by_cases i:x.rs=y.1/\x.pc=y.2
  .have E:x.restore=x:=by rw[e,<-i.1,<-i.2,<-q]
   rw[E];simp only[aa,bc,Sj,aA,lH h,q,Option.isSome,Wz g a,r,u,V0 a d.r8,xb i.1,A,B,xb i.2];exact⟨h.same,Fr.refl _⟩
  .rw [e];have fin:I1 H o f ⟨y.1,y.2,some y⟩ (H.set f (OR (bZ ⟨y.1,y.2,some y⟩ (.ptr b 0)) FU)):=⟨h.row g (q▸m) d q.symm,cE ..⟩
   by_cases z:x.rs=y.1
   .have F:¬x.pc=y.2:=λ w=>i ⟨z,w⟩;simp only[aa,bc,Sj,aA,lH h,q,Option.isSome,Wz g a,r,u,V0 a d.r8,xb z,A,B,F,C,s];exact fin
   .simp only[aa,bc,Sj,aA,lH h,q,Option.isSome,Wz g a,r,u,V0 a d.r8,z,C,s];exact fin
end
end Go.Am
namespace Go.Am
open Lang Go.Proofs
variable{M:ak}[MK M]
def iC(x:Int):AV:=.int .i64 x
def dE(x:La):List AV:=x.fC.map iC++(iC x.lane::(x.gT.map iC ++ [.bool true]))
structure LaW(x:La):Prop where
 b5:x.fC.length=5
 c5:x.gT.length=5
 l0:0<=x.lane
 l4:x.lane<=4
 b4:x.fC.getD 4 0≠0
structure kN(H:ar)(l:Nat)(x:La):Prop where
 w:LaW x
 at':At H l yw (dE x)
section
variable{H H':ar}{l:Nat}{x:La}
def kN.fr{W:Nat->Prop}(h:kN H l x)(a:Fr W H H')(hw:¬W l):kN H' l x:=⟨h.w,h.at'.fr a hw⟩
def kN.em(h:kN H l x)(a:Fr Em H H'):kN H' l x:=h.fr a id
def PH(h:kN H l x){k:Nat}(hk:k<5):Op.ae [.ptr l k] H=some (iC (x.fC.getD k 0)):=by
 rw[h.at'.ld,dE,jd (by simp[h.w.b5];exact hk),xj,zy];have:k<x.fC.length:=by rw[h.w.b5];exact hk
 rw[qt this];rfl
def iB(h:kN H l x):Op.ae [.ptr l 5] H=some (.int .i64 x.lane):=by
 rw[h.at'.ld,dE,zh (by simp[h.w.b5])];simp[h.w.b5,iC]
def Ox(h:kN H l x){k:Nat}(hk:k<5):Op.ae [.ptr l (6+k)] H=some (iC (x.gT.getD k 0)):=by
 rw[h.at'.ld,dE,zh (by simp[h.w.b5];omega),xp,h.w.b5,show 6+k-5=k+1 by omega,zq,jd (by simp[h.w.c5];exact hk),xj,zy];have:k<x.gT.length:=by rw[h.w.c5];exact hk
 rw[qt this];rfl
def NC(h:kN H l x):Op.ae [.ptr l 11] H=some (.bool true):=by
 rw[h.at'.ld,dE,zh (by simp[h.w.b5])];simp[h.w.b5,h.w.c5]
def Iw(h:kN H l x):Op.aq 5 [.ptr l 6] H=some (.agg (x.gT.map iC)):=by
 rw[h.at'.fp (by simp[dE,h.w.b5,h.w.c5]),dE,show 6=(x.fC.map iC).length+1 by simp[h.w.b5],Ot,KI,ym,jw (by simp[h.w.c5]),zg (by simp[h.w.c5])]
def Ie(h:kN H l x){v:Int}(a:0<=v)(b:v<=4):Op.store 1 [.ptr l 5,.int .i64 v] H=some (.undef,H.set l (OR (dE {x with lane:=v}) yw))/\kN (H.set l (OR (dE {x with lane:=v}) yw)) l {x with lane:=v}:=by
 refine⟨?_,⟨h.w.b5,h.w.c5,a,b,h.w.b4⟩,h.at'.set _⟩;rw[h.at'.st 5 rfl (by simp[dE,h.w.b5]),dE,Lq _ _ (by simp[h.w.b5])];simp[h.w.b5,dE,iC]
def Og(h:kN H l x){k:Nat}(hk:k<5)(v:Int):Op.store 1 [.ptr l (6+k),.int .i64 v] H=some (.undef,H.set l (OR (dE {x with gT:=x.gT.set k v}) yw))/\kN (H.set l (OR (dE {x with gT:=x.gT.set k v}) yw)) l {x with gT:=x.gT.set k v}:=by
 refine⟨?_,⟨h.w.b5,by simp[h.w.c5],h.w.l0,h.w.l4,h.w.b4⟩,h.at'.set _⟩;rw[h.at'.st (6+k) rfl (by simp[dE,h.w.b5,h.w.c5];omega),dE,Lq _ _ (by simp[h.w.b5];omega),xp,h.w.b5,show 6+k-5=k+1 by omega,List.set_cons_succ,List.set_append_left _ _ (by simp[h.w.c5];exact hk)];simp[dE,iC,List.map_set]
def IG(h:kN H l x):Op.store 5 [.ptr l 6,.agg (La.fL.map iC)] H=some (.undef,H.set l (OR (dE {x with gT:=La.fL}) yw))/\kN (H.set l (OR (dE {x with gT:=La.fL}) yw)) l {x with gT:=La.fL}:=by
 refine⟨?_,⟨h.w.b5,rfl,h.w.l0,h.w.l4,h.w.b4⟩,h.at'.set _⟩;rw[h.at'.gK (n:=5) rfl (by simp[dE,h.w.b5,h.w.c5]) rfl,dE,show 6=(x.fC.map iC).length+1 by simp[h.w.b5],List.take_length_add_append,vw,Ot];simp[dE,h.w.c5,zu]
def fJ(h:kN H l x):∀K,C3 M true (.func Zq) [.ptr l 0] H K=K true (.bool false) H:=by
 refine dW (qqz ?_);simp only[aa,bc,qq0,aA,NC h]
def ik(h:kN H l x):∀K,C3 M true (.func xo) [.ptr l 0] H K=K true (.int .i64 x.lane) H:=by
 refine dW (qqw ?_);simp only[aa,bc,qqx,aA,fJ h,iB h]
def rP(h:kN H l x):∀K,C3 M true (.func qi2) [.ptr l 0] H K=K true (.bool x.pG) H:=by
 refine dW (qqv ?_);unfold La.pG
 by_cases q:x.lane=1
 .simp only[aa,bc,Y2,aA,fJ h,iB h,q,Bool.true_or]
 .simp only[aa,bc,Y2,aA,fJ h,iB h,q,Bool.false_or]
def z5:[AV.int .i64 0,.int .i64 0,.int .i64 0,.int .i64 0,.int .i64 0]=La.fL.map iC:=rfl
def P8(l:List Int):aJ (l.map iC)=true:=by rw[yj];simp[iC,av]
def Fy(h:kN H l x):za M XG [.ptr l 0] H λ v H'=>v=.agg (x.gT.map iC)/\Fr Em H H':=by
 refine qhb ?_;obtain⟨H1,b,d,-,-⟩:=bX H (OR (La.fL.map iC) fR);have a:At H1 H.au fR _:=b▸At.new H _ _
 have e:=h.em d;have s:=a.gK (k:=0) (n:=5) (v:=.agg (x.gT.map iC)) (by rw[zu,xp];exact h.w.c5) (by decide) (by rw[zu];exact P8 _);rw[zu,yz,zw,je (by decide),ze]at s;have l2:=((a.set (x.gT.map iC)).fp (k:=0) (n:=5) (by simp[h.w.c5]))
 rw[ym,zg (by simp[h.w.c5])]at l2;simp only[aa,bc,Yh,aA,z5,<-b,fJ e,Iw e,s,l2];exact d.set (.inr (qg _)) _
def W7(h:kN H l x):za M qj5 [.ptr l 0] H λ v H'=>v=.int .i64 x.tries/\Fr Em H H':=by
 refine qsa ?_;simp only[aa,bc,U6];refine C3.q (Fy (M:=M) h) λ v H1⟨r,j⟩=>?_;subst r;simp only[aa,bc];have u:=h.w.c5;have ix:∀{i:Nat},i<5->Op.bA 5 1 none [.agg (x.gT.map iC),.int .i64 (i:Int)]=some (.int .i64 (x.gT.getD i 0)):=λ{i}g=>by
  have hl:i<x.gT.length:=by omega
  simp only[Op.bA,Jj rfl g,qm,IV,partAt,lR,xj,zy,qt hl];rfl
 refine de.intro (λ n E d=>∃i:Nat,E=[(8,.int .i64 (i:Int)),(7,.agg (x.gT.map iC)),(3,.int .i64 ((x.gT.take i).foldl (λ n k=>aj .i64 (n+k)) 0)),(2,.int .i64 0),(0,.ptr l 0)]/\n=5-i/\i<=5/\d=H1) ?_ ?_
 .exact ⟨_,_,⟨0,rfl,rfl,xy _,rfl⟩,by simp only[aa,bc];rfl⟩
 rintro n E d ⟨i,rfl,rfl,g,rfl⟩;rcases xq i 5 with b|m
 .have a:(i:Int)<5:=by omega
  have s:aj .i64 ((i:Int)+1)=((i+1:Nat):Int):=by rw[js (by omega) (by omega)];omega
  simp only[aa,bc,U6,a,ix b,s];have hl:i<x.gT.length:=by omega
  refine⟨_,_,⟨i+1,rfl,rfl,by omega⟩,?_,by omega⟩;rw[L7,List.foldl_append,qt hl,zy,qt hl];simp only[aa,bc];rfl
 .have a:¬(i:Int)<5:=by omega
  have e:x.gT.take i=x.gT:=zg (by omega);simp only[aa,bc,U6,a,e];exact⟨rfl,j⟩
def xK(fC:List Int)(k j:Nat):Bool:=fC.getD (k+1+j) 0 != 0
def oQ(fC:List Int)(k:Nat):List (List AV):=((List.range (4-k)).filter (xK fC k)).map λ j=>[.int .i64 ((k+1+j:Nat):Int)]
def xgr{H0:ar}{p q l k:Nat}{fC:List Int}(hp:H0.get p=some (OR [.ptr l 0] N0))(hq:H0.get q=some (OR [.int .i64 (k:Int)] cK))(Z:p<H0.au)(hql:q<H0.au)(hk:k<=3) :
 sV M MN [] [.ptr q 0,.ptr p 0] (λ z=>z=p\/z=q) (λ _=>False) (λ H=>∃y,kN H l y/\y.fC=fC) H0 (oQ fC k):=by
 intro Y R S j H1 X L C D loc O hI step;obtain⟨p1,p2,p3⟩:=L p (.inl (.inl rfl));obtain⟨P,J,Q⟩:=L q (.inl (.inr rfl))
 suffices h:za M MN [.fn (.yield Y) [] [],.ptr q 0,.ptr p 0] H1 (MX R S j (λ _=>False) H1 (oQ fC k).length)by
  obtain⟨v,H',U,W',P,J,Q⟩:=h.elim;exact⟨v,H',W',U,P,J,Q⟩
 refine qop ?_;have lp:∀{d:ar},Fr j H1 d->Op.ae [.ptr p 0] d=some (.ptr l 0):=λ f=>by rw[xz (qy (by rw[f.ah _ (by omega) p3,p2];exact hp))];rfl
 have lq:Op.ae [.ptr q 0] H1=some (.int .i64 (k:Int)):=by rw[xz (qy (by rw[J];exact hq))];rfl
 have wk:aj .i64 ((k:Int)+1)=((k+1+0:Nat):Int):=by rw[js (by omega) (by omega)];omega
 simp only[aa,bc,Nl,lq,wk];refine de.intro (λ n E d=>∃(i:Nat)(V:Nat->Prop),E=[(4,.int .i64 ((k+1+i:Nat):Int)),(0,.fn (.yield Y) [] []),(1,.ptr q 0),(2,.ptr p 0)]/\n=4-k-i/\i<=4-k/\Mq R j H1 d ((List.range i).filter (xK fC k)).length V) ?_ ?_
 .exact ⟨_,_,⟨0,j,rfl,rfl,xy _,⟨C,λ b hb=>⟨D b hb,.inl hb⟩,Fr.refl _⟩⟩,by simp only[aa,bc]⟩
 rintro n E d ⟨i,V,rfl,rfl,hi,a⟩;rcases xq i (4-k)with I|W
 .have A:((k+1+i:Nat):Int)<5:=by omega
  obtain⟨y,hy,rfl⟩:=hI _ V d a.hR;have ix:Op.aS 5 1 [.ptr l 0,.int .i64 ((k+1+i:Nat):Int)]=some (.ptr l (k+1+i)):=by rw[Me rfl (by omega)];simp
  have ls:=PH hy (k:=k+1+i) (by omega);have T:aj .i64 (((k+1+i:Nat):Int)+1)=((k+1+(i+1):Nat):Int):=by rw[js (by omega) (by omega)];omega
  have N:=PD (xK y.fC k) i
  by_cases r:y.fC.getD (k+1+i) 0=0
  .have g:((List.range (i+1)).filter (xK y.fC k)).length=((List.range i).filter (xK y.fC k)).length:=by rw[N,show xK y.fC k i=false from bne_eq_false_iff_eq.2 r];simp
   simp only[aa,bc,Nl,A,lp a.fr,aA,ix,ls,iC,xb r,T];exact⟨_,_,⟨i+1,V,rfl,rfl,by omega,by rw[g];exact a⟩,by simp only[aa,bc],by omega⟩
  .have g:((List.range (i+1)).filter (xK y.fC k)).length=((List.range i).filter (xK y.fC k)).length+1:=by rw[N,show xK y.fC k i=true from bne_iff_ne.2 r];simp
   have hg:(oQ y.fC k)[((List.range i).filter (xK y.fC k)).length]? = some [.int .i64 ((k+1+i:Nat):Int)]:=by
    unfold oQ;rw[xj,Um _ I (show xK y.fC k i=true from bne_iff_ne.2 r)];rfl
   obtain⟨bb,K,B,hr,F,u,ht,hs⟩:=step _ _ hg V d a.hR a.hV (a.fr.mono λ _ _ q=>.inl q);have m:Fr j H1 K:=a.fr.trans F λ b q=>(a.hV b q).2;have s:∀b,B b->b<K.au/\(j b\/H1.au<=b):=λ b q=>⟨(u b q).1,(u b q).2.elim (λ w=>(a.hV b w).2) λ w=>.inr (xu a.fr.au w)⟩
   simp only[aa,bc,Nl,A,lp a.fr,aA,ix,ls,iC,r];refine C3.xV hr ?_;cases bb with
   |true =>
    simp only[aa,bc,Nl,T];exact⟨_,_,⟨i+1,B,rfl,rfl,by omega,⟨by rw[g];exact ht rfl,s,m⟩⟩,by simp only[aa,bc],by omega⟩
   |false =>
    simp only[aa,bc];exact⟨B,m.mono λ _ _ q=>.inl q,s,.inr (hs rfl)⟩
 .have A:¬((k+1+i:Nat):Int)<5:=by omega
  have G:i=4-k:=by omega
  simp only[aa,bc,Nl,A];refine⟨V,a.fr.mono λ _ _ q=>.inl q,a.hV,.inl ?_⟩;have e:(oQ fC k).length=((List.range i).filter (xK fC k)).length:=by unfold oQ;rw[xp,G]
  rw[e];exact a.hR
def Z5{fC:List Int}(a:fC.getD 4 0≠0){k:Nat}(hk:k<=3):(oQ fC k)[0]? = some [.int .i64 (La.after fC (k:Int))]:=by
 unfold oQ La.after;rw[xj];have key:∀b:Int,(b != 0)=decide (b≠0):=λ b=>by by_cases q:b=0<;>simp[q]
 rcases(by omega:k=0\/k=1\/k=2\/k=3)with rfl|rfl|rfl|rfl
 all_goals
  simp only[show List.range (4-0)=[0,1,2,3]from rfl,show List.range (4-1)=[0,1,2]from rfl,show List.range (4-2)=[0,1]from rfl,show List.range (4-3)=[0]from rfl,List.filter,xK,Nat.reduceAdd,key,kj a];generalize fC.getD 1 0=b1;generalize fC.getD 2 0=b2;generalize fC.getD 3 0=b3
  by_cases x:b1=0<;>by_cases y:b2=0<;>by_cases z:b3=0<;>simp[x,y,z]
def wI(h:kN H l x){k:Nat}(hk:k<=3):za M wy [.ptr l 0,.int .i64 (k:Int)] H λ _ H'=>kN H' l {x with lane:=La.after x.fC k}/\Fr (On l) H H':=by
 refine qqy ?_;obtain⟨H1,D,Y,n1,-⟩:=bX H (OR [.ptr l 0] N0);obtain⟨m,E,F,-,-⟩:=bX H1 (OR [.ptr l 0] N0);obtain⟨A,N,s,-,g3⟩:=bX m (OR [.int .i64 (k:Int)] cK);have r:=F.em s;have O:=Y.em r;have n2:m.au=H.au+2:=by rw[E,xx,n1]
 have n3:A.au=H.au+3:=by rw[N,xx,n2]
 have g1:A.get H.au=some (OR [.ptr l 0] N0):=by rw[r.ah _ (by omega) id,D,xf]
 have g2:A.get H1.au=some (OR [.ptr l 0] N0):=by rw[s.ah _ (by omega) id,E,xf]
 have l1:Op.ae [.ptr H.au 0] H1=some (.ptr l 0):=xz (qy (D▸xf H _)) 0;have ca:∀b,AV.cells (.ptr b 0)=[.ptr b 0]:=λ _=>rfl;have ci:∀n,AV.cells (.int .i64 n)=[.int .i64 n]:=λ _=>rfl;have op:za M qi5 [.ptr l 0,.int .i64 (k:Int)] H1 λ v H'=>v=.fn (.func MN) [] [.ptr m.au 0,.ptr H1.au 0]/\H'=A:=by
  refine qq1 ?_;have mk:Op.bD MN 0 [.ptr m.au 0,.ptr H1.au 0]=some (.fn (.func MN) [] [.ptr m.au 0,.ptr H1.au 0]):=rfl;simp only[aa,bc,qq2,ca,ci,<-E,<-N];rfl
 simp only[aa,bc,qq,ca,<-D,l1];refine C3.q op λ v H'⟨S,hh⟩=>?_;subst S;subst hh;simp only[aa,bc];have J:=h.em O;have hlt:=h.at'.2;refine jB.tE (fn:=QD) (lp:=Pz) (pa:=TA 0) (pb:=Ua 0) qpu qhd.1 qhd.2 (by decide) qon qoo
  (xgr (M:=M) (fC:=x.fC) g2 g3 (by omega) (by omega) hk) (λ i V B=>i=0/\kN B l x/\V l) (λ e V B=>e=.ret/\kN B l {x with lane:=La.after x.fC k}/\V l) (On l) (qg _) ?_ ?_ ?_ ?_ ?_ ?_ ?_ ?_ ?_
 .rintro z ((q|q)|q)
  .exact ⟨by omega,rfl,λ(w:z=l)=>by omega⟩
  .exact ⟨by omega,rfl,λ(w:z=l)=>by omega⟩
  .exact q.elim
 .exact λ z(K:z=l)=>by omega
 .exact ⟨rfl,J,rfl⟩
 .exact λ i V U Hb⟨L,j,u⟩hs hn=>⟨L,⟨j.w,by rw[hs l u];exact j.at'.1,qj j.at'.2 hn⟩,u⟩
 .exact λ i V U Hb⟨L,j,u⟩hs hn=>⟨L,⟨j.w,by rw[hs l u];exact j.at'.1,qj j.at'.2 hn⟩,u⟩
 .exact λ i V B⟨_,q,_⟩=>⟨_,q,rfl⟩
 .intro a i lr lb y C hL2 V g ⟨R,hP,hV⟩ hb hf6 hnL hL6 hgL;subst R;rw[Z5 h.w.b4 hk]at C;injection C with C;subst C
  refine⟨_,rfl,?_⟩;obtain⟨-,wa,wb⟩:=qq M ⟨some a,wy⟩;simp only[aa,bc,wa,Fx];refine⟨hgL,?_⟩;have P:Fr (On a) g (g.set a lb):=(Fr.refl g).set (W:=On a) (.inl rfl) _;have gL:(g.set a lb).get a=some lb:=xc ..;have nL:(g.set a lb).au=g.au:=rfl
  have T:a≠l:=λ q=>hnL (by rw[q];exact hV);have h7:kN (g.set a lb) l x:=hP.fr P (λ q:l=a=>T q.symm);have lq:Op.ae [.ptr H.au 0] (g.set a lb)=some (.ptr l 0):=by
   rw[xz (qy (by rw[yk (by omega),hf6.ah H.au (by omega) (λ q=>q.elim (λ q:H.au=l=>by omega) id)];exact g1))];rfl
  generalize g.set a lb=H7 at *;obtain⟨a0,X⟩:0<=La.after x.fC (k:Int)/\La.after x.fC (k:Int)<=4:=by unfold La.after;repeat' split<;>omega
  obtain⟨s8,h8⟩:=Ie h7 a0 X;simp only[aa,bc,wb,lq,aA,s8];have Z:Fr (On l) H7 (H7.set l (OR (dE {x with lane:=La.after x.fC k}) yw)):=cE ..;refine⟨rfl,by rw[yk (λ q=>T q.symm)];exact gL,V,λ z K=>⟨by have:=(hb z K).1;rw[su,nL];exact this,.inl K⟩,(P.mono λ z _ q=>.inr q).trans Z λ z(q:z=l)=>.inl (.inl (by rw[q];exact hV)),.inr ⟨trivial,rfl,h8,hV⟩⟩
 .rintro d V H' hd I hg Q hV ⟨R,-⟩;exfalso;have:=(qk.1 (Z5 h.w.b4 hk)).1;omega
 .rintro e d V H' he hd I hg Q hV ⟨rfl,hl,S⟩;have G:d≠l:=λ q=>by omega
  have fd:Fr (On d) H' (H'.set d (.deferred none)):=(Fr.refl H').set (W:=On d) (.inl rfl) _;simp only[aa,bc];refine⟨hg,hl.fr fd (λ q:l=d=>G q.symm),?_⟩;exact((O.mono (W':=On l) λ _ _ q=>q.elim).trans (Q.mono λ z _ q=>q.elim id False.elim) λ z q=>.inl q).trans fd λ z(q:z=d)=>.inr (by omega)
def Np(H:ar)(l:Nat)(y:La)(H':ar):Prop:=kN H' l y/\Fr (On l) H H'
def Kw(h:kN H l x):za M E3 [.ptr l 0] H λ _ H'=>Np H l x.leave H':=by
 refine qpt ?_;unfold La.leave
 by_cases q:x.lane=0
 .rw [qr q];simp only[aa,bc,m8,aA,fJ h,iB h,xb q];exact⟨h,Fr.refl _⟩
 .rw [qo q];obtain⟨s1,b⟩:=Ie h (v:=0) (by decide) (by decide);obtain⟨s2,d⟩:=IG b;have a:Op.build [.int .i64 0,.int .i64 0,.int .i64 0,.int .i64 0,.int .i64 0] [] []=some (.agg (La.fL.map iC)):=rfl;simp only[aa,bc,m8,aA,fJ h,iB h,q,a,s1,s2];exact⟨d,(cE ..).trans (cE ..) λ z q=>.inl q⟩
def I0(h:kN H l x):za M qh9 [.ptr l 0] H λ _ H'=>Np H l x.enter H':=by
 refine qps ?_;unfold La.enter
 by_cases q:x.lane=0
 .rw [qr q];obtain⟨s2,e⟩:=IG h;have b:Op.build [.int .i64 0,.int .i64 0,.int .i64 0,.int .i64 0,.int .i64 0] [] []=some (.agg (La.fL.map iC)):=rfl;simp only[aa,bc,qij,aA,fJ h,iB h,xb q,b,s2];refine C3.q (wI (M:=M) e (k:=0) (by decide)) λ v g⟨a,d⟩=>?_;simp only[aa,bc,aA,iB a];exact⟨a,(cE ..).trans d λ z q=>.inl q⟩
 .rw [qo q];simp only[aa,bc,qij,aA,fJ h,iB h,q];exact⟨h,Fr.refl _⟩
def KG(h:kN H l x)(c:Int):za M X9 [.ptr l 0,.int .i64 c] H λ _ H'=>Np H l (x.abort c) H':=by
 refine qpr ?_;unfold La.abort;have U:=h.w.l0;have V:=h.w.l4
 by_cases g:x.lane=0
 .rw [qr (.inl g)];simp only[aa,bc,jr,aA,fJ h,iB h,xb g];exact⟨h,Fr.refl _⟩
 by_cases i:x.lane=4
 .rw [qr (.inr (.inl i))];simp only[aa,bc,jr,aA,fJ h,iB h,g,xb i];exact⟨h,Fr.refl _⟩
 by_cases n:c<1
 .rw [qr (.inr (.inr (.inl n)))];simp only[aa,bc,jr,aA,fJ h,iB h,g,i,n];exact⟨h,Fr.refl _⟩
 by_cases s:8<c
 .rw [qr (.inr (.inr (.inr (.inl s))))];simp only[aa,bc,jr,aA,fJ h,iB h,g,i,n,s];exact⟨h,Fr.refl _⟩
 by_cases A:c=7
 .rw [qr (.inr (.inr (.inr (.inr A))))];simp only[aa,bc,jr,aA,fJ h,iB h,g,i,n,s,xb A];exact⟨h,Fr.refl _⟩
 rw[qo (by omega)];obtain⟨k,hk⟩:=z4 U;have E:k<=3:=by omega
 have ix:∀o,Op.aS 5 1 [.ptr l o,.int .i64 x.lane]=some (.ptr l (o+k)):=λ o=>by rw[hk,Me rfl (by omega)];simp
 have lc:=Ox h (k:=k) (by omega);obtain⟨s1,d⟩:=Og h (k:=k) (by omega) (aj .i64 (x.gT.getD k 0+1));have N:x.lane.toNat=k:=by omega
 have T:x.count=x.gT.getD k 0:=by unfold La.count;rw[N]
 obtain⟨y,F⟩:∃y:La,y = {x with gT:=x.gT.set k (aj .i64 (x.gT.getD k 0+1))}:=⟨_,rfl⟩
 rw[<-F]at d s1;rw[T,N];simp only[<-F];have Q:y.lane=x.lane:=by rw[F]
 have I:y.fC=x.fC:=by rw[F]
 have P:y.gT=x.gT.set k (aj .i64 (x.gT.getD k 0+1)):=by rw[F]
 have J:y.pG=x.pG:=by unfold La.pG;rw[Q]
 have S:Fr (On l) H (H.set l (OR (dE y) yw)):=cE ..
 by_cases C:x.pG=true/\c=3
 .rw [qr C];simp only[aa,bc,jr,aA,fJ h,iB h,g,i,n,s,A,ix,lc,iC,s1,rP d,J,xb C.2,C.1];refine C3.q (wI (M:=M) d (k:=2) (by decide)) λ v B⟨e,D⟩=>?_;simp only[aa,bc,jr,aA,iB e];rw[I,P]at e;exact⟨e,S.trans D λ z q=>.inl q⟩
 rw[qo C];have K:=(iB d).trans (by rw[Q]);have m:=Ox d (k:=k) (by omega);have j:=PH d (k:=k) (by omega);have R:y.count=y.gT.getD k 0:=by unfold La.count;rw[Q,N]
 have O:=ix 0;rw[jy]at O;have cont:C3 M true (.func wy) [.ptr l 0,.int .i64 x.lane] (H.set l (OR (dE y) yw))=C3 M true (.func wy) [.ptr l 0,.int .i64 (k:Int)] (H.set l (OR (dE y) yw)):=by rw[hk]
 have fin:∀{z:La}{B:ar},kN B l z->Fr (On l) (H.set l (OR (dE y) yw)) B->Np H l z B:=λ a b=>⟨a,S.trans b λ z q=>.inl q⟩
 by_cases L:y.count=x.fC.getD k 0
 .rw [qr L];have G:y.gT.getD k 0=y.fC.getD k 0:=by rw[<-R,L,I]
  by_cases r:x.pG=true
  .have u:¬c=3:=λ w=>C ⟨r,w⟩;simp only[aa,bc,jr,aA,fJ h,iB h,g,i,n,s,A,ix,lc,iC,s1,rP d,J,r,u,K,m,j,xb G,cont];refine C3.q (wI (M:=M) d (k:=k) E) λ v B⟨e,D⟩=>?_;simp only[aa,bc,jr,aA,iB e];rw[I,<-hk,P]at e;exact fin e D
  .rw [Bool.not_eq_true]at r;simp only[aa,bc,jr,aA,fJ h,iB h,g,i,n,s,A,ix,lc,iC,s1,rP d,J,r,K,m,j,xb G,cont];refine C3.q (wI (M:=M) d (k:=k) E) λ v B⟨e,D⟩=>?_;simp only[aa,bc,jr,aA,iB e];rw[I,<-hk,P]at e;exact fin e D
 .rw [qo L];have G:¬y.gT.getD k 0=y.fC.getD k 0:=λ w=>L (by rw[R,w,I])
  by_cases r:x.pG=true
  .have u:¬c=3:=λ w=>C ⟨r,w⟩;simp only[aa,bc,jr,aA,fJ h,iB h,g,i,n,s,A,ix,lc,iC,s1,rP d,J,r,u,K,m,j,G];exact fin d (Fr.refl _)
  .rw [Bool.not_eq_true]at r;simp only[aa,bc,jr,aA,fJ h,iB h,g,i,n,s,A,ix,lc,iC,s1,rP d,J,r,K,m,j,G];exact fin d (Fr.refl _)
end
end Go.Am
