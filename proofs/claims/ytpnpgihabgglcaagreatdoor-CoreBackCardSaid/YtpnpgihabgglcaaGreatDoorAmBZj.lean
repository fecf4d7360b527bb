import Derived.Test.YtpnpgihabgglcaaGreatDoorAmBZi
import Derived.Test.YtpnpgihabgglcaaGreatDoorAmBZg
import Derived.Test.YtpnpgihabgglcaaGreatDoorAmBZf
set_option linter.defProp false
set_option linter.unusedVariables false
set_option linter.unusedSimpArgs false
set_option linter.unusedSectionVars false
set_option maxRecDepth 100000
open Nat renaming reduceEqDiff→bc
namespace Go.Am
open Go.Proofs Ca
open Lang (ints)
variable{M:ak}[MK M]
def oO(l s w:Int)(k:Nat):List No:=(List.range k).map λ(i:Nat)=>oT (i:Int) l s w
def fQ(l c s w:Int):Bu:=⟨List.replicate l.toNat .zero,List.replicate l.toNat iO,oO l s w c.toNat,[]⟩
def qH(l c s w:Int):Prop:=wV l c/\rU s w
instance(l c s w:Int):Decidable (qH l c s w):=inferInstanceAs (Decidable (_/\_))
def Ye{l s w:Int}{k i:Nat}{n:No}(h:(oO l s w k)[i]? = some n):i<k/\n=oT (i:Int) l s w:=by
 unfold oO at h;rw[xj,xk]at h;obtain⟨j,a,e⟩:=h;have hk:=(qk.1 a).1;rw[j6]at hk;rw[yk hk]at a;injection a with a;subst a
 exact⟨hk,e.symm⟩
def S0(l s w:Int)(k:Nat):(oO l s w k).length=k:=by unfold oO;rw[xm,j6]
structure Lm(H0 H:ar)(B D mp:Nat)(lv ev nv:AV)(l c s w:Int)(ad:List Na)(own:Nat->Nat):Prop where
 row:H.get B=some (OR [.ptr D 0,nv,.nils,.int .i64 l] KM)
 lt:B<H.au
 d:lR H D mp lv ev c (List.replicate l.toNat .zero) (List.replicate l.toNat (iO,.nils))
 TM:a9 kO J7 1 H nv (ad.map Na.r)
 no:∀(k:Nat)(A:Na),ad[k]? = some A->cT H0 H A.r A.b A.sv A.bv (oT (k:Int) l s w) A.ks
 oB:own B=0
 oD:∀z,mg D mp lv ev (List.replicate l.toNat (iO,.nils)) z->own z=1
 oN:∀z,aW nv z->own z=2
 oC:∀(k:Nat)(A:Na),ad[k]? = some A -> ∀z,A.w z->own z=4+k
 OA:H0.au<=B
 loD:∀z,mg D mp lv ev (List.replicate l.toNat (iO,.nils)) z->H0.au<=z
 Ok:∀z,aW nv z->H0.au<=z
 fr:Fr Em H0 H
def cT.base{H0 H1 H:ar}{r b:Nat}{sv bv:AV}{n:No}{ks:List Nat}(h:cT H1 H r b sv bv n ks)(f:Fr Em H0 H1):cT H0 H r b sv bv n ks:=by
 have hn:=f.au
 refine⟨h.row,h.lt,h.ca,⟨?_,f.trans h.bk.fr λ _ q=>.inl q⟩,h.eq,xv hn h.lr,xv hn h.lb,xv hn h.ls,h.n1,h.n2,h.o1,h.o2,h.o3,h.li,h.len⟩;rcases h.bk.own with q|⟨b,m,rest,a,d,e,g⟩
 .exact .inl q
 .exact .inr ⟨b,m,rest,a,d,xv hn e,g⟩
def cT.all{H0 H:ar}{r b:Nat}{sv bv:AV}{n:No}{ks:List Nat}(h:cT H0 H r b sv bv n ks){z:Nat}(a:im r b sv bv z):H0.au<=z:=by
 rcases a with rfl|(rfl|rfl)|a
 .exact h.lr
 .exact h.lb
 .exact h.ls
 .exact (h.bk.fresh z a).1
section
variable{H0 H:ar}{B D mp:Nat}{lv ev nv:AV}{l c s w:Int}{ad:List Na}{own:Nat->Nat}
def Lm.step(h:Lm H0 H B D mp lv ev nv l c s w ad own)(U:ad.length<=4){H1:ar}{A:Na}(I:cT H H1 A.r A.b A.sv A.bv (oT (ad.length:Int) l s w) A.ks){K:bH->(Nat->AV)->Bool->AV->ar->Prop}
 (hk:∀v j,(∃J,Op.store 1 [.ptr B 1,v] j=some (.undef,J)/\(∃G,Lm H0 J B D mp lv ev v l c s w (ad ++ [A]) G)/\Fr (λ z=>z=B\/aW nv z) H J /\ ∀z,aW v z->aW nv z\/H.au<=z)->K (.row [.ptr A.r 0] J7 (0,0) true) (Op.sliceTo 1 1) true v j) :
 iW true (Op.buildSlice J7 1 [.nilp] [(0,1)] [.ptr A.r 0]) λ g o mk=>iW g (Op.append J7 1 8 [nv,mk H1.au] (H1.alloc o)) (K o mk):=by
 have m:Fr Em H H1:=I.bk.fr;have V:=m.au
 refine mO (e:=J7) (size:=1) (bytes:=8) (Own.em h.TM m) (x:=.ptr A.r 0) rfl rfl rfl (by decide) (by rw[xm];omega) (by rw[xm];omega) λ v j Q F P=>?_;refine hk v j ?_;have low:∀z,(z=B\/mg D mp lv ev (List.replicate l.toNat (iO,.nils)) z\/aW nv z \/ ∃k i,ad[k]? = some i/\Na.w i z)->z<H.au:=λ z f=>by
  rcases f with rfl|f|f|⟨k,i,a,f⟩
  .exact h.lt
  .exact h.d.low f
  .exact Own.lt h.TM z f
  .exact (h.no k i a).low f
 have ne:∀{z k:Nat},own z=k->k≠2 -> ¬aW nv z:=λ L N q=>N (by rw[<-L];exact h.oN _ q);have T:j.get B=some (OR [.ptr D 0,nv,.nils,.int .i64 l] KM):=by
  rw[F.ah _ (by have:=h.lt;omega) (ne h.oB (by decide)),m.ah _ h.lt id];exact h.row
 have o1:av v=true:=by have:=Sl.one (Own.sl Q);exact this
 have O:v.cells=[v]:=by cases v<;>first|rfl|cases o1
 have st:=ug T (o:=1) (n:=1) (v:=v) (by rw[O];rfl) (by simp) (by rw[O,yn];simpa using o1);rw[O]at st;have X:=F.au
 have E:Fr (On B) j (j.set B (OR ([AV.ptr D 0,nv,.nils,.int .i64 l].take 1 ++ [v] ++ [AV.ptr D 0,nv,.nils,.int .i64 l].drop (1+1)) KM)):=(Fr.refl j).set (W:=On B) (.inl rfl) _;have S:H0.au<=H.au:=h.fr.au
 have R:∀{z k:Nat},own z=k->k≠0 -> ¬z=B:=λ L N q=>N (by rw[<-L,q];exact h.oB);have t:∀z,aW v z->(aW nv z/\z<H.au)\/H1.au<=z:=λ z f=>(P z f).elim (λ q=>.inl ⟨q,low z (.inr (.inr (.inl q)))⟩) .inr
 have y:Fr (aW nv) H j:=(m.mono λ _ _ q=>q.elim).trans F λ z q=>.inl q;have p:∀z,A.w z->H.au<=z/\z<H1.au:=λ z f=>⟨I.all f,I.low f⟩
 refine⟨_,st,⟨(λ z=>if z<H.au then own z else if z<H1.au then 4+ad.length else 2),xc ..,?_,?_,?_,λ k i a=>?_,?_,λ z f=>?_,λ z f=>?_,λ k i a z f=>?_,h.OA,h.loD,λ z f=>?_,?_⟩,(y.mono λ z _ q=>.inr q).trans E λ z(q:z=B)=>.inl (.inl q),λ z f=>(t z f).elim (λ q=>.inl q.1) λ q=>.inr (by omega)⟩
 .have:=h.lt;show B<j.au;omega
 .exact (h.d.fr y λ z q w=>ne (h.oD z w) (by decide) q).fr E λ z q w=>R (h.oD z w) (by decide) q
 .have ow:a9 kO J7 1 j v ((ad ++ [A]).map Na.r):=by
   rw[HY];unfold a9;rw[qv,kz];exact Q
  refine Own.fr ow E λ z f(q:z=B)=>?_;rcases t z f with⟨w,-⟩|w
  .exact R (h.oN z w) (by decide) q
  .have:=h.lt;omega
 .by_cases e:k<ad.length
  .rw [je e]at a;refine((h.no k i a).off y λ z w=>⟨h.Ok z w,λ u=>?_⟩).off E λ z w=>?_
   .have:=h.oC k i a z u;have:=h.oN z w;omega
   .have w:z=B:=w;refine⟨by rw[w];exact h.OA,λ u=>?_⟩;have:=h.oC k i a z u;rw[w,h.oB]at this;omega
  .have hk:=(qk.1 a).1;rw[qv]at hk;have C:k=ad.length:=by simp only[z7,ym]at hk;omega
   subst C;rw[zh (qg _),Nat.sub_self]at a;injection a with a;subst a
   refine((I.base h.fr).off F λ z w=>⟨h.Ok z w,λ u=>?_⟩).off E λ z w=>?_
   .have:=p z u;have:=low z (.inr (.inr (.inl w)));omega
   .have w:z=B:=w;refine⟨by rw[w];exact h.OA,λ u=>?_⟩;have:=p z u;have:=h.lt;omega
 .rw [qr h.lt];exact h.oB
 .rw [qr (low z (.inr (.inl f)))];exact h.oD z f
 .rcases t z f with⟨w,u⟩|w
  .rw [qr u];exact h.oN z w
  .rw [qo (by omega),qo (by omega)]
 .by_cases e:k<ad.length
  .rw [je e]at a;rw[qr (low z (.inr (.inr (.inr ⟨k,i,a,f⟩))))];exact h.oC k i a z f
  .have hk:=(qk.1 a).1;rw[qv]at hk;have C:k=ad.length:=by simp only[z7,ym]at hk;omega
   subst C;rw[zh (qg _),Nat.sub_self]at a;injection a with a;subst a
   have:=p z f;rw[qo (by omega),qr this.2]
 .rcases t z f with⟨w,-⟩|w
  .exact h.Ok z w
  .omega
 .exact ((h.fr.trans m λ _ q=>.inl q).trans F λ z q=>.inr (h.Ok z q)).trans E λ z(q:z=B)=>.inr (by rw[q];exact h.OA)
def Lm.done(h:Lm H0 H B D mp lv ev nv l c s w ad own)(hl:ad.length=c.toNat)(f:0<=c)(e:0<=l):eV H0 H B ⟨D,mp,lv,ev,List.replicate l.toNat (iO,.nils),nv,.nils,ad⟩ (fQ l c s w) own:=by
 have hlen:((fQ l c s w).ns.length:Int)=c:=by show((oO l s w c.toNat).length:Int)=c;rw[S0];omega
 refine⟨?_,h.lt,?_,?_,h.TM,λ k n A hn b=>?_,?_,Sk.nil _,h.oB,h.oD,h.oN,λ z q=>absurd rfl q.1,h.oC,λ z a=>?_⟩
 .rw [h.row];have:((fQ l c s w).l.length:Int)=l:=by show((List.replicate l.toNat iO).length:Int)=l;rw[zt];omega
  rw[this]
 .rw [hlen];exact h.d
 .show (List.replicate l.toNat (iO,AV.nils)).map Prod.fst=List.replicate l.toNat iO;rw[List.map_replicate]
 .obtain ⟨-,rfl⟩:=Ye hn;exact h.no k A b
 .show ad.length=(oO l s w c.toNat).length;rw[S0,hl]
 .rcases a with rfl|a|a|a|⟨k,A,b,a⟩
  .exact h.OA
  .exact h.loD z a
  .exact h.Ok z a
  .exact absurd rfl a.1
  .exact (h.no k A b).all a
end
end Go.Am
namespace Go.Am
open Ca
def Hp{N l:Int}(b:0<=N)(a:N<=4):XI iO N l:=⟨⟨a,⟨by decide,by show(-1:Int)<N;omega⟩,by decide,by decide,λ c _ _ q=>(by have q:hb 0 c=1:=q;rw[Y3]at q;cases q),λ m hm=>(nomatch hm)⟩,λ q=>absurd rfl q⟩
def yR{l c s w:Int}{m:List L8}{V:Int->L8}(h:qH l c s w)(hm:m.length=l.toNat):BuI {fQ l c s w with m:=m} V:=by
 obtain⟨⟨⟨l0,l1⟩,e,f⟩,hs⟩:=h;have a:(fQ l c s w).ns.length=c.toNat:=S0 ..;have b:((fQ l c s w).l.length:Int)=l:=by show((List.replicate l.toNat iO).length:Int)=l;rw[zt];omega
 refine⟨by show(fQ l c s w).ns.length<=4;rw[a];omega,by show m.length=(List.replicate l.toNat iO).length;rw[hm,zt],λ k n hn=>?_,λ m hm=>(nomatch hm),λ i x d=>?_⟩
 .obtain ⟨hk,rfl⟩:=Ye hn;exact⟨BV (cores:=c) ⟨hs,by omega,by omega,by omega,l0,l1⟩,rfl,b.symm⟩
 .rw [wg (show x∈List.replicate l.toNat iO from za d)];exact Hp (by omega) (by show((fQ l c s w).ns.length:Int)<=4;rw[a];omega)
structure Bt where
 k:Int
 c:Int
 n:Int
 v:Int
 o:Int
def No.call(n:No)(x:Bt):No×List Mg :=
 if x.k=0 then((n.load x.n).1,(n.load x.n).2.2.2.1)
 else if x.k=1 then((n.store x.n x.v).1,(n.store x.n x.v).2.2.1)
 else if x.k=2 then n.mF x.n x.o x.v
 else if x.k=3 then(n.begin,[])
 else if x.k=4 then(n.bw,[])
 else if x.k=5 then((n.abort x.n).1,[])
 else if x.k=6 then n.cS x.n
 else(n,[])
def Bu.step(b:Bu)(x:Bt):Bu :=
 if x.k=7 then if 0<=x.n/\x.n<b.fl.length then b.wT x.n.toNat else b
 else if 0<=x.c then match b.ns[x.c.toNat]? with
  |none=>b
  |some n=>b.put x.c.toNat (n.call x)
 else b
def Pc{b:Bu}{V:Int->L8}(h:BuI b V)(i:Nat):BuI (b.wT i) V:=by
 unfold Bu.wT;cases hm:b.fl[i]? with
 |none=>exact h
 |some m =>
  have he:∀o∈b.fl.eraseIdx i,o∈b.fl:=λ o q=>List.mem_of_mem_eraseIdx q;obtain⟨mk,e,ml⟩:=h.mw m (za hm);simp only
  by_cases g:m.k<=7
  .rw [qr g];obtain⟨x,w,f,hw,u⟩:=h.entry ml.1 ml.2;rw[f,hw];obtain⟨a,o⟩:=Hi (w:=w) u e rfl;have hl:=(qk.1 f).1;refine⟨h.N4,by simp only[xg];exact h.ml,λ c n hn=>by simp only[xg];exact h.nw c n hn,λ y d=>?_,λ j y d=>?_⟩
   .simp only[xg];rcases zu.1 d with q|q
    .exact h.mw y (he y q)
    .obtain ⟨p,r,t⟩:=o y q;exact⟨.inr p,r,by rw[t];exact ml⟩
   .have d:(b.l.set m.line.toNat (x.bN w m).1)[j]? = some y:=d
    by_cases q:j=m.line.toNat
    .subst q;rw[xp hl]at d;injection d with d;subst d
     rw[Mr ml.1];exact a
    .rw [xu (mS q)]at d;exact h.xs j y d
  .rw [qo g];obtain⟨n,hn,w⟩:=h.core e.1 e.2;rw[hn];exact h.node hn (w.ni.bN m) (No.G5 w.ni m) he
def A9{b:Bu}{V:Int->L8}(h:BuI b V)(x:Bt):BuI (b.step x) V:=by
 unfold Bu.step;split
 .split
  .exact Pc h _
  .exact h
 split
 .cases hn:b.ns[x.c.toNat]? with
  |none=>exact h
  |some n =>
   have w:=(h.nw _ n hn).ni;simp only;unfold No.call;split;· exact h.call hn (w.load _) (No.FR _)
   split;· exact h.call hn (w.store _ _) (No.CR _ _)
   split;· exact h.call hn (w.mF _ _ _) (No.Kb _ _ _)
   split;· exact h.call hn (show n.begin.NI by unfold No.begin;split;exact w;exact⟨w.ci,λ q=>by cases q⟩) No.Cw
   split;· exact h.call hn (show n.bw.NI by unfold No.bw;split;exact⟨w.ci.bw,λ _=>w.ci.Fq⟩;exact w) No.xQ
   split;· exact h.call hn (show(n.abort x.n).1.NI by unfold No.abort;(repeat' split)<;>first|exact w|exact w.iI _) (No.CD _)
   split;· exact h.call hn (w.cS _) (No.GC w _)
   rw[J5 hn];exact h
 .exact h
structure BC(b:Bu)(k:Nat):Prop where
 fl:b.fl.length<=5*k
 no:∀(c:Nat)n,b.ns[c]? = some n->n.aK.length<=k/\n.c.us<=2*(k:Int)
 wt:∀x∈b.l,x.wt.length<=k
def BC.mono{b:Bu}{k k':Nat}(h:BC b k)(hk:k<=k'):BC b k':=⟨xv h.fl (by omega),λ c n hn=>by have:=h.no c n hn;omega,λ x a=>xv (h.wt x a) hk⟩
def BC.bb{b:Bu}{V:Int->L8}{k:Nat}(h:BC b k)(hI:BuI b V)(hk:k<=100000):BB b:=⟨hI.N4,by have:=h.fl;omega,λ c n hn=>by have:=h.no c n hn;exact⟨(hI.nw c n hn).ni,by omega,by omega⟩⟩
def Aq{l c s w:Int}:BC (fQ l c s w) 0:=by
 refine⟨qg _,λ k n hn=>?_,λ x a=>?_⟩
 .obtain ⟨-,rfl⟩:=Ye hn;exact⟨qg _,wn _⟩
 .rw [wg (show x∈List.replicate l.toNat iO from a)];exact qg _
def Po{b:Bu}{k c:Nat}{n n':No}{o:List Mg}(h:BC b k)(hn:b.ns[c]? = some n)(hb:Bd n n')(ho:o.length<=5):BC (b.put c (n',o)) (k+1):=by
 have hl:=(qk.1 hn).1;refine⟨?_,λ d y a=>?_,λ x e=>Nat.le_succ_of_le (h.wt x e)⟩
 .show (b.fl++o).length<=_;rw[qv];have:=h.fl;omega
 .have a:(b.ns.set c n')[d]? = some y:=a
  by_cases q:d=c
  .rw [q,xp hl]at a;injection a with a;subst a
   obtain⟨f,g⟩:=hb;have:=h.no c n hn;omega
  .rw [xu (mS q)]at a;have:=h.no d y a;omega
def oM(x:De)(w:L8):(x.dM w).1.wt=x.wt:=by
 unfold De.dM
 repeat' split
 all_goals rfl
def xej(x:De)(n:Mg)(w:L8):(x.begin n w).1.wt=x.wt:=by
 unfold De.begin;split
 .rfl
 .split
  .exact oM _ w
  .rfl
def Rw(x:De)(w:L8)(q:Prop)[Decidable q](r:List Mg):(x.uG w q r).1.wt=x.wt:=by
 unfold De.uG;split
 .exact oM x w
 .rfl
def Fy(x:De)(w:L8)(m:Mg):(x.bN w m).1.wt.length<=x.wt.length+1:=by
 unfold De.bN;split;· exact yd _
 split
 .split
  .simp
  .rw [xej];exact yd _
 split;· rw[Rw];show x.wt.length<=_;omega
 split;· rw[Rw];show x.wt.length<=_;omega
 split;· rw[Rw];show x.wt.length<=_;omega
 split;· rw[Rw];show x.wt.length<=_;omega
 cases h:x.wt with
 |nil=>simp[h]
 |cons n r=>simp only;rw[xej];simp only[z7];omega
def Ln(n:No)(x:Bt):Bd n (n.call x).1/\(n.call x).2.length<=5:=by
 unfold No.call;split;· exact⟨HC n _,xv (xe3 n _) (by decide)⟩
 split;· exact⟨Ah n _ _,xv (xbx n _ _) (by decide)⟩
 split;· exact⟨Jf n _ _ _,xv (xiv n _ _ _) (by decide)⟩
 split
 .refine ⟨?_,xy _⟩;show Bd n n.begin;unfold No.begin;split<;>exact⟨by show n.aK.length<=_;omega,by show n.c.us<=_;omega⟩
 split
 .refine ⟨?_,xy _⟩;show Bd n n.bw;unfold No.bw;split<;>exact⟨by show n.aK.length<=_;omega,by show n.c.us<=_;omega⟩
 split
 .refine ⟨?_,xy _⟩;show Bd n (n.abort _).1;unfold No.abort;repeat' split
  all_goals exact⟨by show n.aK.length<=_;omega,by show n.c.us<=_;omega⟩
 split;· exact⟨FD n _,xv (xab n _) (by decide)⟩
 exact⟨Bd.refl n,xy _⟩
def QJ{b:Bu}{k:Nat}(h:BC b k)(i:Nat):BC (b.wT i) (k+1):=by
 unfold Bu.wT;cases hm:b.fl[i]? with
 |none=>exact h.mono (yd k)
 |some m =>
  have g:=h.fl;have he:(b.fl.eraseIdx i).length<=b.fl.length:=List.length_eraseIdx_le ..;simp only
  by_cases f:m.k<=7
  .rw [qr f];cases e:b.l[m.line.toNat]? with
   |none=>exact h.mono (yd k)
   |some x =>
    cases hw:b.m[m.line.toNat]? with
    |none=>exact h.mono (yd k)
    |some w =>
     refine⟨?_,λ c n hn=>by have:=h.no c n hn;omega,λ y a=>?_⟩
     .show (b.fl.eraseIdx i++(x.bN w m).2.2).length<=_;rw[qv];have:=xao x w m;omega
     .have a:y∈b.l.set m.line.toNat (x.bN w m).1:=a;rcases List.mem_or_eq_of_mem_set a with q|rfl
      .exact Nat.le_succ_of_le (h.wt y q)
      .have:=Fy x w m;have:=h.wt x (za e);omega
  .rw [qo f];cases hn:b.ns[m.core.toNat]? with
   |none=>exact h.mono (yd k)
   |some n =>
    have hl:=(qk.1 hn).1;refine⟨?_,λ d y a=>?_,λ x e=>Nat.le_succ_of_le (h.wt x e)⟩
    .show (b.fl.eraseIdx i++(n.bN m).2).length<=_;rw[qv];have:=ZR n m;omega
    .have a:(b.ns.set m.core.toNat (n.bN m).1)[d]? = some y:=a
     by_cases q:d=m.core.toNat
     .rw [q,xp hl]at a;injection a with a;subst a
      obtain⟨j,o⟩:=Fw n m;have:=h.no _ n hn;omega
     .rw [xu (mS q)]at a;have:=h.no d y a;omega
def DT{b:Bu}{k:Nat}(h:BC b k)(x:Bt):BC (b.step x) (k+1):=by
 unfold Bu.step;split
 .split
  .exact QJ h _
  .exact h.mono (yd k)
 split
 .cases hn:b.ns[x.c.toNat]? with
  |none=>exact h.mono (yd k)
  |some n=>obtain⟨a,d⟩:=Ln n x;exact Po h hn a d
 .exact h.mono (yd k)
end Go.Am
namespace Go.Am
open Lang
structure Pr where
 a:Int
 v:Int
def da(l:List Pr)(a:Int):Option Int:=match l with
 |[]=>none
 |x::r=>if x.a=a then some x.v else da r a
def ft(l:List Pr)(a v:Int):List Pr:=match l with
 |[]=>[⟨a,v⟩]
 |x::r=>if x.a=a then⟨a,v⟩::r else x::ft r a v
structure Fi where
 rs:List Int
 pc:Int
 pt:Option (List Int×Int)
namespace Fi
def set(f:Fi)(i v:Int):Fi:=if 0<=i/\i<8 then{f with rs:=f.rs.set i.toNat v}else f
def jump(f:Fi)(pc:Int):Fi:=if pc<0 then f else{f with pc:=pc}
def save(f:Fi):Fi:={f with pt:=some (f.rs,f.pc)}
def restore(f:Fi):Fi:=match f.pt with
 |some (r,p)=>{f with rs:=r,pc:=p}
 |none=>f
def drop(f:Fi):Fi:={f with pt:=none}
end Fi
structure La where
 fG:List Int
 lane:Int
 iZ:List Int
namespace La
def jW:List Int:=[0,0,0,0,0]
def after(fG:List Int)(l:Int):Int:=if l<1/\fG.getD 1 0≠0 then 1 else if l<2/\fG.getD 2 0≠0 then 2 else if l<3/\fG.getD 3 0≠0 then 3 else 4
def py(x:La):Bool:=decide (x.lane=1) ||decide (x.lane=2)
def enter(x:La):La:=if x.lane=0 then{x with lane:=after x.fG 0,iZ:=jW}else x
def count(x:La):Int:=x.iZ.getD x.lane.toNat 0
def abort(x:La)(code:Int):La :=
 if x.lane=0\/x.lane=4\/code<1\/8<code\/code=7 then x
 else
  let y:={x with iZ:=x.iZ.set x.lane.toNat (aj .i64 (x.count+1))}
  if x.py=true/\code=3 then{y with lane:=after x.fG 2}else if y.count=x.fG.getD x.lane.toNat 0 then{y with lane:=after x.fG x.lane}else y
def leave(x:La):La:=if x.lane=0 then x else{x with lane:=0,iZ:=jW}
def tries(x:La):Int:=x.iZ.foldl (λ n k=>aj .i64 (n+k)) 0
end La
inductive K0 where
 |wait
 |left (how:Int)
 |jX (a:Int)
 |take
 |back (l:List Pr)
 |fin
inductive Nx where
 |uP (n:Int) (k:K0)
 |tH (n:Int) (k:K0)
 |u3
 |uZ (k:K0)
 |look (k:K0) (g:Int) (rd:List Pr) (i:Nat)
 |again (k:K0) (g:Int)
 |u7 (a:Int)
 |mM (a v:Int)
 |ti
 |EB (k:K0)
structure Rq where
 op:Int
 a:Int
 v:Int
 o:Int
structure So where
 rd:List Pr
 wr:List Pr
 want:Rq
 au:Option Nx
 busy:Bool
 live:Bool
 aC:Bool
 snap:Int
 value:Int
 ended:Int
 points:Int
namespace So
def ask(p:So)(r:Rq)(n:Nx):So:={p with want:=r,au:=some n}
def count(p:So)(n:Int)(k:K0):So:=p.ask ⟨1,1,0,0⟩ (.uP n k)
def leave(p:So)(how:Int):So:=p.count 18446744073709551615 (.left how)
def sF(p:So):So:=p.ask ⟨1,0,0,0⟩ .u3
def validate(p:So)(k:K0):So:=p.ask ⟨1,0,0,0⟩ (.uZ k)
def jX(p:So)(a:Int):So:=p.ask ⟨1,a,0,0⟩ (.u7 a)
def take(p:So):So:=p.ask ⟨3,0,aj .u64 (p.snap+1),p.snap⟩ .ti
def back(p:So):List Pr->So
 |x::l=>p.ask ⟨2,x.a,x.v,0⟩ (.EB (.back l))
 |[]=>p.ask ⟨2,0,aj .u64 (p.snap+2),0⟩ (.EB .fin)
def oW(p:So)(g:Int):So:={p with snap:=g,points:=aj .i64 (p.points+1)}
def G3(p:So):K0->So
 | .wait=>p.sF
 | .left how=>{p with live:=false,ended:=how,busy:=false}
 | .jX a=>p.jX a
 | .take=>p.take
 | .back l=>p.back l
 | .fin=>({p with aC:=false}:So).leave 1
def step(p:So)(k:K0)(g:Int)(rd:List Pr)(i:Nat):So:=match rd[i]? with
 |some x=>p.ask ⟨1,x.a,0,0⟩ (.look k g rd i)
 |none=>p.ask ⟨1,0,0,0⟩ (.again k g)
def ah(p:So)(a v:Int):Option (List Pr):=match da p.rd a with
 |some _=>some p.rd
 |none=>if p.rd.length=128 then none else some (p.rd ++ [⟨a,v⟩])
def on(p:So)(v:Int)(ok:Bool):Nx->So
 | .uP n k=>p.ask ⟨3,1,aj .u64 (v+n),v⟩ (.tH n k)
 | .tH n k=>if ok=true then p.G3 k else p.count n k
 | .u3=>if v % 2=1 then p.sF else{p.oW v with live:=true,busy:=false}
 | .uZ k=>if v % 2=1 then p.validate k else p.step k v p.rd 0
 | .look k g rd i=>if v≠(rd.getD i ⟨0,0⟩).v then p.leave 2 else p.step k g rd (i+1)
 | .again k g=>if v≠g then p.validate k else(p.oW g).G3 k
 | .u7 a=>p.ask ⟨1,0,0,0⟩ (.mM a v)
 | .mM a w=>if v≠p.snap then p.validate (.jX a)
  else if(da p.rd a).getD w≠w then p.leave 2
  else match p.ah a w with
   |none=>p.leave 2
   |some l=>{({p with rd:=l,value:=w}:So).oW v with busy:=false}
 | .ti=>if ok=true then({p with points:=aj .i64 (p.points+1),aC:=true}:So).back p.wr else p.validate .take
 | .EB k=>p.G3 k
def eM(p:So)(v:Int)(ok:Bool):So:=match p.au with
 |none=>p
 |some n=>({p with want:=⟨0,0,0,0⟩,au:=none}:So).on v ok n
def begin(p:So):So:=if p.busy=true\/p.live=true then p else({p with rd:=[],wr:=[],value:=0,ended:=0,busy:=true}:So).count 1 .wait
def ready(p:So):Bool:=!p.busy && p.live
def load(p:So)(a:Int):So:=if p.ready=true/\8<=a then match da p.wr a with
 |some v=>{p with value:=v}
 |none=>({p with busy:=true}:So).jX a
 else p
def store(p:So)(a v:Int):So:=if p.ready=true/\8<=a then
 if da p.wr a=none/\p.wr.length=128 then({p with busy:=true}:So).leave 2 else{p with wr:=ft p.wr a v}
 else p
def bw(p:So):So:=if p.ready=true then if p.wr.length=0 then({p with busy:=true}:So).leave 1 else({p with busy:=true}:So).take else p
def Cn(p:So):So:=if p.ready=true then({p with busy:=true}:So).leave 3 else p
end So
structure Co where
 id:Int
 lines:Int
 code:List gP
 fi:Fi
 la:La
 so:So
 ph:Int
 want:mI
 seq:Int
 aR:List Pr
 done:Int
 wrote:Bool
 held:Bool
 said:Bool
 blocks:Int
 nN:Int
 halted:Bool
 Ax:Bool
structure CS where
 c:Co
 b:Bu
 o:List ic
namespace CS
def DJ(c:Co)(kind a v code:Int):ic:=if c.la.lane=0 then⟨kind,0,c.id,-1,0,0,a,v,code⟩else⟨kind,0,c.id,aj .i64 (c.blocks-1),c.la.tries,c.la.lane,a,v,code⟩
def tell(s:CS)(kind a v code:Int):CS:={s with o:=s.o ++ [DJ s.c kind a v code]}
def fi(s:CS)(f:Fi->Fi):CS:={s with c:={s.c with fi:=f s.c.fi}}
def la(s:CS)(f:La->La):CS:={s with c:={s.c with la:=f s.c.la}}
def so(s:CS)(f:So->So):CS:={s with c:={s.c with so:=f s.c.so}}
def ph(s:CS)(n:Int):CS:={s with c:={s.c with ph:=n}}
def kK(s:CS)(k n v o:Int):CS:={s with b:=s.b.step ⟨k,s.c.id,n,v,o⟩}
def node(s:CS):No:=(s.b.ns[s.c.id.toNat]?).getD ⟨0,0,⟨0,0,[],0⟩,⟨0,0,0,.zero⟩,[],false,0⟩
def kG(s:CS)(a:Int):Int×Bool:=((s.node.load a).2.1,(s.node.load a).2.2.1 && decide ((s.node.load a).2.2.2.2=0))
def uy(s:CS)(a v:Int):Bool:=(s.node.store a v).2.1 && decide ((s.node.store a v).2.2.2=0)
def xZ(s:CS)(a o:Int):Bool×Bool:=((s.node.i7 a o).1,(s.node.i7 a o).2.1 && decide ((s.node.i7 a o).2.2=0))
def ld(s:CS)(a:Int):CS:=s.kK 0 a 0 0
def st(s:CS)(a v:Int):CS:=s.kK 1 a v 0
def cs(s:CS)(a o v:Int):CS:=s.kK 2 a v o
def abort(s:CS)(code:Int):CS:=(((s.tell 6 0 0 code).fi .restore).la (·.abort code)).ph 1
def leave(s:CS):CS:={((s.la .leave).fi .drop).ph 0 with c:={((s.la .leave).fi .drop).ph 0 |>.c with held:=false}}
def aw(s:CS):CS:=let t:=if s.c.said=true then s else s.tell 5 0 0 0
 {t with c:={t.c with said:=true,held:=false}}
def fp(s:CS)(next:Int):CS:=let t:=s.fi (·.jump next)
 {t with c:={t.c with nN:=aj .i64 (t.c.nN+1)}}
def cD(s:CS):CS:=s.aw.leave.fp (aj .i64 (s.c.fi.pc+1))
def breaks(s:CS):CS:=let t:=((s.tell 6 0 0 7).fi .restore).leave
 {t with c:={t.c with halted:=true,Ax:=true}}
def cU(s:CS):CS :=
 if s.c.la.lane=0 then{s with c:={s.c with halted:=true,Ax:=true}}
 else if s.c.la.lane=3 then let t:=s.so .Cn
  {t with c:={t.c with want:=gZ,ph:=6}}
 else if s.c.la.lane=4 then s.ph 10
 else(s.kK 5 7 0 0).breaks
def Ek(c:Co)(u:Int):Bool:=decide (u<(c.lines-1)*8)
def ey(s:CS)(f:mI)(v:Int):CS:=((s.tell (if s.c.la.lane=0 then 7 else 2) (if Ek s.c f.addr=true then 8+f.addr else 0) v 0).fi (·.set f.oA v)).fp f.au
def kR(s:CS)(f:mI)(a:Int):CS :=
 if s.c.la.lane=3 then let t:=s.so (·.load a)
  if t.c.so.busy=true then{t with c:={t.c with want:=f,ph:=6}}else t.ey f t.c.so.value
 else match(if s.c.la.lane=4 then da s.c.aR a else none)with
  |some v=>s.ey f v
  |none=>if(s.kG a).2=true then(s.ld a).ey f (s.kG a).1 else s.ld a
def stored(s:CS)(kind:Int)(f:mI)(a:Int):CS:=(s.tell kind a f.value 0).fp f.au
def ib(s:CS)(f:mI)(a:Int):CS :=
 if s.c.la.lane=3 then let t:=s.so (·.store a f.value)
  if t.c.so.busy=true then{t with c:={t.c with want:=f,ph:=6}}else t.stored 3 f a
 else if s.c.la.lane=4 then({s with c:={s.c with aR:=ft s.c.aR a f.value}}:CS).stored 3 f a
 else if s.uy a f.value=true then
  if s.c.la.lane=0 then(s.st a f.value).stored 8 f a else let t:=s.st a f.value
   ({t with c:={t.c with wrote:=true}}:CS).stored 3 f a
 else s.st a f.value
def ends(s:CS):CS :=
 if s.c.la.lane=3 then let t:=s.so .bw
  {t with c:={t.c with want:=⟨6,0,0,0,0⟩,ph:=6}}
 else if s.c.la.lane=4 then s.ph 9
 else if s.c.la.lane=2/\s.c.wrote=true then s.ph 7
 else(s.kK 4 0 0 0).cD
def lP(s:CS):CS :=
 if(s.c.code.length:Int)<=s.c.fi.pc then if s.c.la.lane=0 then{s with c:={s.c with halted:=true}}else s.cU
 else
  let f:=(s.c.code.getD s.c.fi.pc.toNat ⟨0,0,0,0,0⟩).fJ s.c.fi.rs s.c.fi.pc
  let is:=Ek s.c f.addr
  let a:=8+f.addr
  if(f.kind=3\/f.kind=4)/\is=false\/f.kind=0\/s.c.la.lane≠0/\f.kind=5\/s.c.la.lane=0/\f.kind=6\/s.c.la.lane≠0/\f.kind=7 then s.cU
  else if f.kind=7 then{s with c:={s.c with halted:=true}}
  else if f.kind=1 then(s.fi (·.set f.oA f.value)).fp f.au
  else if f.kind=2 then s.fp f.au
  else if f.kind=3 then s.kR f a
  else if f.kind=4 then s.ib f a
  else if f.kind=5 then let t:=((s.fp f.au).fi .save).la .enter
   {t with c:={t.c with blocks:=aj .i64 (t.c.blocks+1),ph:=1}}
  else s.ends
def iS(s:CS):CS :=
 let t0:=s.tell 1 0 0 0
 let t:CS:={t0 with c:={t0.c with aR:=[],done:=0,wrote:=false,said:=false}}
 if s.c.la.lane=1 then(t.kK 3 0 0 0).ph 2
 else if s.c.la.lane=2 then(t.kK 3 0 0 0).ph 3
 else if s.c.la.lane=3 then let u:=t.so .begin
  {u with c:={u.c with want:=⟨5,0,0,0,0⟩,ph:=6}}
 else t.ph 4
def nI(s:CS):CS :=
 let r:=s.xZ 0 s.c.seq
 let t:=s.cs 0 s.c.seq (aj .u64 (s.c.seq+1))
 if r.2=false then t
 else if r.1=true then let u:=t.tell 4 0 0 0
  {u with c:={u.c with ph:=0,held:=true}}
 else t.ph 4
def gB(s:CS)(k:CS->CS):CS :=
 let v:=aj .u64 (s.c.seq+2)
 if s.uy 0 v=true then k (s.st 0 v)else s.st 0 v
def aK(s:CS):CS:=match(if 0<=s.c.done then s.c.aR[s.c.done.toNat]? else none)with
 |some x=>if s.uy x.a x.v=true then let t:=s.st x.a x.v
  {t with c:={t.c with done:=aj .i64 (t.c.done+1)}}else s.st x.a x.v
 |none=>s.gB cD
def eL(s:CS):CS :=
 if s.c.so.ended=2 then s.abort 8
 else if s.c.want.kind=5 then s.ph 0
 else if s.c.want.kind=3 then(s.ph 0).ey s.c.want s.c.so.value
 else if s.c.want.kind=6 then s.cD
 else s.breaks
def given(s:CS)(v:Int)(taken:Bool):CS :=
 let t:CS:={s with c:={s.c with held:=s.c.held ||taken && decide (s.c.so.want.a=0),so:=s.c.so.eM v taken}}
 let u:=if s.c.so.aC=true/\t.c.so.aC=false then t.aw else t
 let w:=if s.c.so.points<u.c.so.points then u.tell 4 0 0 0 else u
 if w.c.so.busy=true then w else w.eL
def nC(s:CS):CS :=
 let r:=s.c.so.want
 if r.op=1 then if(s.kG r.a).2=true then(s.ld r.a).given (s.kG r.a).1 false else s.ld r.a
 else if r.op=2 then if s.uy r.a r.v=true then(s.st r.a r.v).given 0 false else s.st r.a r.v
 else if r.op=3 then if(s.xZ r.a r.o).2=true then(s.cs r.a r.o r.v).given 0 (s.xZ r.a r.o).1 else s.cs r.a r.o r.v
 else s
def act(s:CS):CS :=
 if s.c.ph=0 then s.lP
 else if s.c.ph=1 then s.iS
 else if s.c.ph=2 then let r:=s.kG 1
  if r.2=true then let t:=(s.ld 1).ph 3
   if r.1≠0 then t.kK 5 6 0 0 else t
  else s.ld 1
 else if s.c.ph=3 then let r:=s.kG 0
  if r.2=true then let t:=s.ld 0
   let u:CS:={t with c:={t.c with seq:=r.1,ph:=0}}
   if r.1 % 2=1 then u.kK 5 6 0 0 else u
  else s.ld 0
 else if s.c.ph=4 then let r:=s.kG 0
  let t:=s.ld 0
  if r.2=true/\r.1 % 2=0 then{t with c:={t.c with seq:=r.1,ph:=5}}else t
 else if s.c.ph=5 then s.nI
 else if s.c.ph=6 then s.nC
 else if s.c.ph=7 then s.gB (·.ph 8)
 else if s.c.ph=8 then(s.kK 4 0 0 0).cD
 else if s.c.ph=9 then s.aK
 else if s.c.ph=10 then s.gB breaks
 else s
def pT(s:CS):Int:=if s.node.code<1\/6<s.node.code then 5 else s.node.code
def step(s:CS):CS×Int :=
 if s.c.Ax=true then(s,111)
 else if s.c.halted=true then(s,110)
 else if s.c.la.py=true/\s.c.ph≠1/\s.node.live=false then(s.abort s.pT,0)
 else(s.act,0)
end CS
end Go.Am
namespace Go.Am
def fM(x:Int):Prop:=0<=x/\x<18446744073709551616
def uC(x:Int):AV:=.int .u64 x
def bF:fM 0:=⟨wn _,by decide⟩
def EK(n:Int):fM (aj .u64 n):=by rw[xb4];constructor<;>omega
def L8.u(x:L8):Prop:=∀w∈x.l,fM w
def L8.ij:L8.zero.u:=λ w h=>by
 simp only[L8.zero,jg,NX,or_false,or_self]at h;rw[h];exact bF
def EJ{α:Type}{l:List α}{k:Nat}{v x:α}(h:x∈l.set k v):x∈l\/x=v:=List.mem_or_eq_of_mem_set h
def L8.u.put{x:L8}(h:x.u)(i:Nat){y:Int}(a:fM y):(x.put i y).u:=λ w q=>(EJ q).elim (h w) λ e=>e▸a
def L8.u.get{x:L8}(h:x.u)(i:Nat):fM (x.get i):=by
 unfold L8.get;cases q:x.l[i]? with
 |none=>exact bF
 |some w=>exact h w (za q)
def En.U(e:En):Prop:=e.d.u/\e.o.u
def En.nZ:En.zero.U:=⟨L8.ij,L8.ij⟩
def Ca.U(c:Ca):Prop:=∀e∈c.sl,e.U
def No.U(n:No):Prop:=n.c.U
def pQ(l:List Mg):Prop:=∀m∈l,m.d.u
def pQ.nil:pQ []:=λ _ h=>by cases h
def pQ.one{m:Mg}(h:m.d.u):pQ [m]:=λ x q=>by rw[jr.1 q];exact h
def pQ.app{a b:List Mg}(h:pQ a)(d:pQ b):pQ (a++b):=λ x q=>(zu.1 q).elim (h x) (d x)
namespace Ca
variable{c:Ca}
def U.en(h:c.U)(i:Nat):(c.en i).U:=by
 unfold Ca.en;cases q:c.sl[i]? with
 |none=>exact En.nZ
 |some e=>exact h e (za q)
def U.mQ(h:c.U)(i:Nat){e:En}(he:e.U){u:Int}:Ca.U {c with us:=u,sl:=c.sl.set i e}:=λ x q=>(EJ q).elim (h x) λ w=>w▸he
def U.set(h:c.U)(i:Nat){e:En}(he:e.U):(c.set i e).U:=λ x q=>(EJ q).elim (h x) λ w=>w▸he
def U.use(h:c.U)(i:Nat):(c.use i).U:=h.mQ i (e:={c.en i with u:=c.us+1}) (h.en i)
def U.word(h:c.U)(a:Nat):(c.word a).1.U/\fM ((c.word a).2.getD 0):=by
 unfold Ca.word;split
 .exact ⟨h,bF⟩
 .exact ⟨h.use _,(h.en _).1.get _⟩
def U.put(h:c.U)(a:Nat){y:Int}(f:fM y):(c.put a y).U:=by
 unfold Ca.put;split
 .exact h
 .rename_i i _;exact h.mQ i (e:={c.en i with u:=c.us+1,d:=(c.en i).d.put (a % 8) y}) ⟨(h.en i).1.put _ f,(h.en i).2⟩
def U.mark(h:c.U)(l:Int)(w:Bool):(c.mark l w).U:=by
 unfold Ca.mark
 repeat' split
 all_goals first|exact h|(rename_i i _ _;exact h.set i ⟨(h.en i).1,(h.en i).1⟩)|(rename_i i _;exact h.set i (e:={c.en i with r:=true}) (h.en i))
def U.cO(h:c.U)(l:Int):(c.cO l).1.U/\(c.cO l).2.u:=by
 unfold Ca.cO;split
 .exact ⟨h,L8.ij⟩
 .rename_i i _;exact⟨h.set i (e:={c.en i with st:=1}) (h.en i),(h.en i).1⟩
def U.cL(h:c.U)(l:Int){d:L8}(a:d.u):(c.cL l d).U:=by
 unfold Ca.cL;split
 .exact h
 .rename_i i _;exact h.set i ⟨a,(h.en i).2⟩
def U.drop(h:c.U)(l:Int):(c.drop l).1.U/\(c.drop l).2.U:=by
 unfold Ca.drop;split
 .exact ⟨h,En.nZ⟩
 .exact ⟨h.set _ En.nZ,h.en _⟩
def U.map(h:c.U){g:En->En}(hg:∀e,e.U->(g e).U):Ca.U {c with sl:=c.sl.map g}:=λ x q=>by
 obtain⟨e,he,rfl⟩:=FO.1 q;exact hg e (h e he)
def U.bw(h:c.U):c.bw.U:=h.map λ e he=>by unfold qJ;split;exact he;exact⟨he.1,L8.ij⟩
def U.discard(h:c.U):c.discard.U:=h.map λ e he=>by
 unfold back;split
 .exact he
 .refine ⟨?_,L8.ij⟩;show(if e.w then e.o else e.d).u;split;exact he.2;exact he.1
def U.fill(h:c.U)(l s:Int){d:L8}(a:d.u):(c.fill l s d).1.U/\(c.fill l s d).2.1.U:=by
 unfold Ca.fill;split
 .exact ⟨h,En.nZ⟩
 .split
  .exact ⟨h,En.nZ⟩
  .exact ⟨h.mQ _ ⟨a,L8.ij⟩,h.en _⟩
end Ca
namespace No
variable{n:No}
def U.iI(h:n.U)(k:Int):(n.iI k).U:=Ca.U.discard h
def tO(n:No)(k l:Int):(n.msg k l).d.u:=L8.ij
def U.ask(h:n.U)(k l:Int):(n.ask k l).1.U/\pQ (n.ask k l).2:=by
 unfold No.ask;split
 .exact ⟨h,.nil⟩
 .exact ⟨h,.one (tO _ _ _)⟩
def U.load(h:n.U)(a:Int):(n.load a).1.U/\fM (n.load a).2.1/\pQ (n.load a).2.2.2.1:=by
 unfold No.load;split
 .split
  .exact ⟨(U.ask h _ _).1,bF,(U.ask h _ _).2⟩
  .have q:(if n.live then n.c.mark (ln a) false else n.c).U:=by split;exact Ca.U.mark h _ _;exact h
   exact⟨(q.word _).1,(q.word _).2,.nil⟩
 .exact ⟨h,bF,.nil⟩
def U.store(h:n.U)(a:Int){y:Int}(d:fM y):(n.store a y).1.U/\pQ (n.store a y).2.2.1:=by
 unfold No.store;split
 .split
  .have q:(if n.live then n.c.mark (ln a) true else n.c).U:=by split;exact Ca.U.mark h _ _;exact h
   exact⟨q.put _ d,.nil⟩
  .exact U.ask h _ _
 .exact ⟨h,.nil⟩
def U.mF(h:n.U)(a o:Int){y:Int}(d:fM y):(n.mF a o y).1.U/\pQ (n.mF a o y).2:=by
 unfold No.mF;split
 .split
  .exact ⟨h,.nil⟩
  .split
   .refine ⟨?_,.nil⟩;show Ca.U (if _ then _ else _);split
    .exact (Ca.U.word h _).1.put _ d
    .exact (Ca.U.word h _).1
   .exact U.ask h _ _
 .exact ⟨h,.nil⟩
def U.begin(h:n.U):n.begin.U:=by unfold No.begin;split;exact h;exact h
def U.bw(h:n.U):n.bw.U:=by unfold No.bw;split;exact Ca.U.bw h;exact h
def U.abort(h:n.U)(k:Int):(n.abort k).1.U:=by
 unfold No.abort;repeat' split
 all_goals first|exact h|exact U.iI h _
def U.lost(h:n.U)(x:En)(t:Bool):(n.lost x t).U:=by
 unfold No.lost;repeat' split
 all_goals first|exact h|exact U.iI h _
def U.gone(h:n.U){x:En}(a:x.U):(n.gone x).1.U/\pQ (n.gone x).2:=by
 unfold No.gone;split
 .exact ⟨h,.one a.1⟩
 .exact ⟨h,.nil⟩
def U.dO(h:n.U){m:Mg}(hm:m.d.u)(s:Int):(n.dO m s).1.U/\pQ (n.dO m s).2:=by
 obtain⟨a,e⟩:=Ca.U.fill h m.line s hm;unfold No.dO;split
 .exact U.gone (n:={n with c:=(n.c.fill m.line s m.d).1}) a e
 .exact ⟨a,.nil⟩
def U.fill(h:n.U){m:Mg}(hm:m.d.u):(n.fill m).1.U/\pQ (n.fill m).2:=by
 unfold No.fill;generalize(if m.k=15 then(2:Int)else 1)=s;unfold No.lY;split
 .exact U.dO (U.iI h 3) hm s
 .exact U.dO h hm s
def U.bN(h:n.U){m:Mg}(hm:m.d.u):(n.bN m).1.U/\pQ (n.bN m).2:=by
 unfold No.bN;split
 .exact ⟨h,.nil⟩
 split
 .exact ⟨(Ca.U.drop (U.lost h _ _) _).1,.one (tO _ _ _)⟩
 split
 .split
  .exact ⟨h,.one (tO _ _ _)⟩
  .split
   .exact ⟨(Ca.U.cO (U.lost h _ _) _).1,.one (Ca.U.cO (U.lost h _ _) _).2⟩
   .exact ⟨(Ca.U.drop (U.lost h _ _) _).1,.one (Ca.U.drop (U.lost h _ _) _).2.1⟩
 split
 .exact ⟨h,.nil⟩
 split
 .exact ⟨Ca.U.cL h _ hm,.one (tO _ _ _)⟩
 .obtain ⟨a,e⟩:=U.fill (n:={n with out:=⟨0,0,0,.zero⟩}) h hm;exact⟨a,e.app (.one (tO _ _ _))⟩
def U.cS(h:n.U)(l:Int):(n.cS l).1.U/\pQ (n.cS l).2:=by
 unfold No.cS;split
 .exact ⟨h,.nil⟩
 split
 .exact ⟨h,.nil⟩
 .rename_i x _;have q:(if x.r ||x.w then n.iI 4 else n).U:=by split;exact U.iI h 4;exact h
  exact U.gone (n:={(if x.r ||x.w then n.iI 4 else n)with c:=((if x.r ||x.w then n.iI 4 else n).c.drop l).1}) (Ca.U.drop q l).1 (Ca.U.drop q l).2
end No
namespace De
def xjv(x:De){w:L8}(hw:w.u):(x.dM w).2.d.u:=by unfold dM;split<;>exact hw
def xii(x:De)(m:Mg){w:L8}(hw:w.u):pQ (x.begin m w).2:=by
 unfold begin;split
 .exact .one L8.ij
 split
 .exact .one (xjv _ hw)
 .intro z q;obtain⟨c,-,rfl⟩:=FO.1 q;exact L8.ij
def wP(x:De){w:L8}(hw:w.u)(q:Prop)[Decidable q]{o:List Mg}(ho:pQ o):(x.uG w q o).2.1.u/\pQ (x.uG w q o).2.2:=by
 unfold uG;split
 .exact ⟨hw,ho.app (.one (xjv _ hw))⟩
 .exact ⟨hw,ho⟩
def Kq(x:De){w:L8}(hw:w.u){m:Mg}(hm:m.d.u):(x.bN w m).2.1.u/\pQ (x.bN w m).2.2:=by
 unfold bN;split
 .exact ⟨hw,.nil⟩
 split
 .split
  .exact ⟨hw,.nil⟩
  .exact ⟨hw,xii _ _ hw⟩
 split
 .exact wP _ hw _ .nil
 split
 .exact wP _ hm _ .nil
 split
 .exact wP _ hw _ .nil
 split
 .exact wP _ hm _ (.one L8.ij)
 split
 .exact ⟨hw,.nil⟩
 .exact ⟨hw,xii _ _ hw⟩
end De
structure yQ(b:Bu):Prop where
 m:∀x∈b.m,x.u
 n:∀n∈b.ns,n.U
 f:pQ b.fl
def yQ.put{b:Bu}(h:yQ b)(c:Nat){r:No×List Mg}(a:r.1.U)(d:pQ r.2):yQ (b.put c r):=⟨h.m,λ x q=>(EJ q).elim (h.n x) λ e=>e▸a,h.f.app d⟩
end Go.Am
namespace Go.Am
open Lang Go.Proofs
variable{M:ak}[MK M]
def Ph(op:Nat):List UInt8:=match op with
 |1=>[104,97,108,116]
 |2=>[115,101,116]
 |3=>[109,111,118]
 |4=>[97,100,100]
 |5=>[115,117,98]
 |6=>[109,117,108]
 |7=>[97,110,100]
 |8=>[120,111,114]
 |9=>[115,104,108]
 |10=>[115,104,114]
 |11=>[108,111,97,100]
 |12=>[115,116,111,114,101]
 |13=>[106,117,109,112]
 |14=>[101,113]
 |15=>[110,101]
 |16=>[108,116]
 |17=>[98,101,103,105,110]
 |18=>[101,110,100]
 |_=>[]
def uR:List AV:=(List.range 19).flatMap λ k=>[.str (Ph k),.str (oQ k)]
def uQ(H:ar):Prop:=H.bT xL=some uR/\xL<H.au
def uQ.em{H H':ar}(h:uQ H)(f:Fr Em H H'):uQ H':=⟨(f.cells h.2 id).trans h.1,qj h.2 f.au⟩
def BJ:∀k:Nat,k<19->uR[k*2+1]? = some (.str (oQ k))
 |0,_=>rfl
 |1,_=>rfl
 |2,_=>rfl
 |3,_=>rfl
 |4,_=>rfl
 |5,_=>rfl
 |6,_=>rfl
 |7,_=>rfl
 |8,_=>rfl
 |9,_=>rfl
 |10,_=>rfl
 |11,_=>rfl
 |12,_=>rfl
 |13,_=>rfl
 |14,_=>rfl
 |15,_=>rfl
 |16,_=>rfl
 |17,_=>rfl
 |18,_=>rfl
 |k+19,h=>absurd h (by omega)
def fk(i:gP):List AV:=[.int .i64 i.op,.int .i64 i.a,.int .i64 i.b,.int .i64 i.c,.int .i64 i.zH]
def nR(op:Int):Prop:=1<=op/\op<=18
instance(op:Int):Decidable (nR op):=inferInstanceAs (Decidable (_/\_))
def xg3{H:ar}(hs:uQ H)(op:Int):zd M KS [.int .i64 op] H λ v H'=>v=.tuple [.str (if nR op then oQ op.toNat else[]),.bool (decide (nR op))]/\H'=H:=by
 refine xc5 ?_;obtain⟨w0,e,d⟩:=xc6 M ⟨none,KS⟩
 by_cases a:op<1
 .have hn:¬nR op:=λ q=>by have:=q.1;omega
  simp only[aa,bc,w0,e,a,qo hn,kj hn]
 by_cases f:(19:Int)<=op
 .have hn:¬nR op:=λ q=>by have:=q.2;omega
  simp only[aa,bc,w0,e,a,f,qo hn,kj hn]
 have g:nR op:=⟨by omega,by omega⟩
 have ix:Op.aP 19 2 [.ptr xL 0,.int .i64 op]=some (.ptr xL (0+op.toNat*2)):=by
  simp only[Op.aP];rw[Ke (i:=op.toNat) (by omega) (by omega)];rfl
 have ld:Op.ae [.ptr xL (op.toNat*2+1)] H=some (.str (oQ op.toNat)):=by
  rw[x9 hs.1];exact BJ op.toNat (by omega)
 simp only[aa,bc,w0,e,a,f,d,ix,ld,qr g,ke g]
def BO{x c:UInt8}(h:¬x=c):Dd x c=false:=by
 cases q:Dd x c with
 |false=>rfl
 |true=>exact(h (by simpa[Dd,<-UInt8.toNat_inj]using q)).elim
def xaj(c:UInt8):∀(s:List UInt8)(k:Nat),(∃i:Nat,Hg c s k=some i/\c∈s)\/Hg c s k=none/\c∉s:=by
 intro s
 induction s with
 |nil=>intro k;exact .inr ⟨rfl,by simp⟩
 |cons x s ih =>
  intro k
  by_cases h:x=c
  .subst h;exact .inl ⟨k,by simp[Hg,Dd],by simp⟩
  .rcases ih (k+1)with⟨i,a,e⟩|⟨a,d⟩
   .exact .inl ⟨i,by simp[Hg,BO h,a],by simp[e]⟩
   .exact .inr ⟨by simp[Hg,BO h,a],by simp[d,mS h]⟩
def GR{s:List UInt8}{c:UInt8}{H:ar}:zd M VH [.str s,.int .u8 c.toNat] H λ v H'=>H'=H /\ ∃z:Int,v=.int .i64 z/\(c∈s->0<=z)/\(c∉s->z = -1):=by
 refine qta ?_;simp only[aa,bc,qtb];refine C3.q (R:=λ v H'=>H'=H /\ ∃z:Int,v=.int .i64 z/\(c∈s->0<=z)/\(c∉s->z = -1)) ?_ λ v H'⟨g,z,h,a,d⟩=>?_
 .refine qhi ?_;rcases xaj c s 0 with⟨i,a,f⟩|⟨a,d⟩
  .have e:Op.aD [.str s,.int .u8 c.toNat]=some (.int .i64 (i:Nat)):=by
    simp only[Op.aD,Fv,UInt8.ofNat_toNat,a];rfl
   simp only[aa,bc,zb,e];exact⟨_,rfl,λ _=>by omega,λ q=>(q f).elim⟩
  .have e:Op.aD [.str s,.int .u8 c.toNat]=some (.int .i64 (-1)):=by
    simp only[Op.aD,Fv,UInt8.ofNat_toNat,a];rfl
   simp only[aa,bc,zb,e];exact⟨_,rfl,λ q=>(d q).elim,λ _=>rfl⟩
 .subst h;subst g;simp only[aa,bc];exact⟨z,rfl,a,d⟩
def xf1{H:ar}(hs:uQ H)(i:gP):zd M MX [.agg (fk i)] H λ v H'=>v=.bool (decide i.mn)/\Fr Em H H':=by
 refine xc2 ?_;obtain⟨w0,w4,F,I,D,u⟩:=xc3 M ⟨none,MX⟩;obtain⟨H1,N,x,-,O⟩:=bX H (OR (fk i) EV);have ld:∀k,Op.ae [.ptr H.au k] H1=(fk i)[k]?:=λ k=>x9 (qy O) k;have l0:Op.ae [.ptr H.au 0] H1=some (.int .i64 i.op):=ld 0;have l1:Op.ae [.ptr H.au 1] H1=some (.int .i64 i.a):=ld 1;have l2:Op.ae [.ptr H.au 2] H1=some (.int .i64 i.b):=ld 2;have l3:Op.ae [.ptr H.au 3] H1=some (.int .i64 i.c):=ld 3;have L:Op.build [.int .i64 0,.int .i64 0,.int .i64 0] [(0,1),(1,1),(2,1)] [.int .i64 i.a,.int .i64 i.b,.int .i64 i.c]=some (.agg [.int .i64 i.a,.int .i64 i.b,.int .i64 i.c]):=rfl;have ca:AV.cells (.agg (fk i))=fk i:=zw _;simp only[aa,bc,w0,ca,<-N,l0];refine C3.q (xg3 (M:=M) (hs.em x) i.op) λ v K⟨A,y⟩=>?_;subst A;subst y;obtain⟨m,g⟩:∃m,m=(if nR i.op then oQ i.op.toNat else[]):=⟨_,rfl⟩
 rw[<-g];simp only[aa,bc,xe,w4,l1,l2,l3,L]
 let ok:Nat->Prop:=λ j=>match j with
  |0=>65∈m->0<=i.a/\i.a<8
  |1=>66∈m->0<=i.b/\i.b<8
  |_=>67∈m->0<=i.c/\i.c<8
 have f:i.mn↔nR i.op/\ok 0/\ok 1/\ok 2:=by
  constructor
  .intro q;have l:nR i.op:=⟨q.1,q.2.1⟩
   rw[qr l]at g;subst g;exact⟨l,q.2.2.1,q.2.2.2.1,q.2.2.2.2⟩
  .intro ⟨l,B,p,C⟩;rw[qr l]at g;subst g;exact⟨l.1,l.2,B,p,C⟩
 have R:Op.bA 3 1 none [.agg [.int .i64 i.a,.int .i64 i.b,.int .i64 i.c],.int .i64 0]=some (.int .i64 i.a):=rfl;have S:Op.bA 3 1 none [.agg [.int .i64 i.a,.int .i64 i.b,.int .i64 i.c],.int .i64 1]=some (.int .i64 i.b):=rfl;have T:Op.bA 3 1 none [.agg [.int .i64 i.a,.int .i64 i.b,.int .i64 i.c],.int .i64 2]=some (.int .i64 i.c):=rfl;have U:Op.bK [.str [65,66,67],.int .i64 0]=some (.int .u8 ((65:UInt8).toNat:Nat)):=rfl;have V:Op.bK [.str [65,66,67],.int .i64 1]=some (.int .u8 ((66:UInt8).toNat:Nat)):=rfl;have W:Op.bK [.str [65,66,67],.int .i64 2]=some (.int .u8 ((67:UInt8).toNat:Nat)):=rfl;have b1:aj .i64 (0+1)=1:=by decide +kernel
 have b2:aj .i64 (1+1)=2:=by decide +kernel
 have b3:aj .i64 (2+1)=3:=by decide +kernel
 have no:∀{k:Nat},k<3 -> ¬ok k->decide i.mn=false:=λ{k}hk q=>kj λ w=>by
  obtain⟨_,B,p,C⟩:=f.1 w;rcases(show k=0\/k=1\/k=2 by omega)with rfl|rfl|rfl
  .exact q B
  .exact q p
  .exact q C
 refine dg.intro (λ n E G=>∃k:Nat,E=[(20,.int .i64 (k:Nat)),(19,.agg [.int .i64 i.a,.int .i64 i.b,.int .i64 i.c]),(4,.bool (decide (nR i.op))),(3,.str m)]/\n=3-k/\k<=3/\G=K /\ ∀j,j<k->ok j) ?_ ?_
 .exact ⟨_,_,⟨0,rfl,rfl,xy _,rfl,λ j P=>by omega⟩,by simp only[aa,bc]⟩
 rintro n E G ⟨k,rfl,rfl,hk,rfl,h⟩;rcases xr k 3 with o|o
 .have p:(k:Int)<3:=by omega
  obtain⟨c,r,Q,l,d⟩:∃(c:UInt8)(r:Int),Op.bA 3 1 none [.agg [.int .i64 i.a,.int .i64 i.b,.int .i64 i.c],.int .i64 (k:Nat)]=some (.int .i64 r)/\Op.bK [.str [65,66,67],.int .i64 (k:Nat)]=some (.int .u8 (c.toNat:Nat))/\(ok k↔(c∈m->0<=r/\r<8)):=by
   rcases(show k=0\/k=1\/k=2 by omega)with rfl|rfl|rfl
   .exact ⟨65,i.a,R,U,j5⟩
   .exact ⟨66,i.b,S,V,j5⟩
   .exact ⟨67,i.c,T,W,j5⟩
  have J:aj .i64 ((k:Int)+1)=((k+1:Nat):Int):=by rw[jw (by omega) (by omega)];omega
  have go:ok k -> ∀j,j<k+1->ok j:=λ q j P=>by
   rcases xr j k with w|w
   .exact h j w
   .rw [show j=k by omega];exact q
  simp only[aa,bc,I,p,D,Q,l];refine C3.q (GR (M:=M)) λ v Z⟨y,z,A,X,Y⟩=>?_;subst A;subst y
  by_cases s:c∈m
  .have t:(0:Int)<=z:=X s
   by_cases n1:r<0
   .have:=no o λ q=>by have:=(d.1 q s).1;omega
    simp only[aa,bc,t,n1,this];exact x
   by_cases n2:(8:Int)<=r
   .have:=no o λ q=>by have:=(d.1 q s).2;omega
    simp only[aa,bc,t,n1,n2,this];exact x
   simp only[aa,bc,t,n1,n2,u,J];exact⟨_,_,⟨k+1,rfl,rfl,by omega,go (d.2 λ _=>⟨by omega,by omega⟩)⟩,by simp only[aa,bc],by omega⟩
  .have t:¬(0:Int)<=z:=by rw[Y s];decide
   simp only[aa,bc,t,u,J];exact⟨_,_,⟨k+1,rfl,rfl,by omega,go (d.2 λ q=>(s q).elim)⟩,by simp only[aa,bc],by omega⟩
 .have p:¬(k:Int)<3:=by omega
  have:decide (nR i.op)=decide i.mn:=by
   have e:i.mn↔nR i.op:=⟨λ q=>(f.1 q).1,λ q=>f.2 ⟨q,h 0 (by omega),h 1 (by omega),h 2 (by omega)⟩⟩
   by_cases q:nR i.op
   .rw [ke q,ke (e.2 q)]
   .rw [kj q,kj λ w=>q (e.1 w)]
  simp only[aa,bc,I,p,F,this];exact x
end Go.Am
namespace Go.Am
open Lang Go.Proofs
variable{M:ak}[MK M]
def aZ(f:mI):List AV:=[.int .i64 f.kind,.int .i64 f.au,.int .i64 f.oA,.int .u64 f.value,.int .u64 f.addr]
def Wr(n:Int):pz n<8:=by
 unfold pz;rw[BitVec.toNat_and];exact Nat.lt_of_le_of_lt Nat.and_le_right (by decide)
def OP{rs:List Int}(h:rs.length=8)(n:Int):(rs.map uC)[pz n]? = some (.int .u64 (rg rs n)):=by
 have hl:=Wr n;rw[xj,qt (by omega)];simp only[rg,zy,qt (show pz n<rs.length by omega)];rfl
def QM{rs:List Int}(h:rs.length=8)(hr:∀x∈rs,fM x)(n:Int):fM (rg rs n):=by
 have hl:=Wr n;simp only[rg,zy,qt (show pz n<rs.length by omega)];exact hr _ (List.getElem_mem _)
def Fj{x:Int}(e:fM x)(n:Nat):x.fdiv (2 ^ n)=aj .u64 (x / 2 ^ n):=by
 obtain⟨a,d⟩:=e;have hp:(0:Int)<2 ^ n:=Int.pow_pos (by decide);rw[Int.fdiv_eq_ediv_of_nonneg _ (Int.le_of_lt hp),ZA (Int.ediv_nonneg a (Int.le_of_lt hp))];exact Int.lt_of_le_of_lt (Int.ediv_le_self _ a) d
def bdL(k n r d:Int):Op.build [.int .i64 0,.int .i64 0,.int .i64 0,.int .u64 0,.int .u64 0] [(0,1),(1,1),(2,1),(4,1)] [.int .i64 k,.int .i64 n,.int .i64 r,.int .u64 d]=some (.agg (aZ ⟨k,n,r,0,d⟩)):=rfl
def Vf(k n v d:Int):Op.build [.int .i64 0,.int .i64 0,.int .i64 0,.int .u64 0,.int .u64 0] [(0,1),(1,1),(3,1),(4,1)] [.int .i64 k,.int .i64 n,.int .u64 v,.int .u64 d]=some (.agg (aZ ⟨k,n,0,v,d⟩)):=rfl
def EU{H:ar}{b:Nat}{x f:mI}(h:H.get b=some (OR (aZ x) jh)):Op.store 5 [.ptr b 0,.agg (aZ f)] H=some (.undef,H.set b (OR (aZ f) jh)):=by
 rw[ug (o:=0) (n:=5) (v:=.agg (aZ f)) h rfl (by simp[aZ]) rfl];rfl
def HJ{H:ar}{b:Nat}{x:mI}(h:H.get b=some (OR (aZ x) jh)):Op.aq 5 [.ptr b 0] H=some (.agg (aZ x)):=by
 rw[rD (c:=aZ x) (qy h) (by simp[aZ])];rfl
def tw:Op.build (aZ gZ) [] []=some (.agg (aZ gZ)):=rfl
def CW(k n:Int):Op.build (aZ gZ) [(0,1),(1,1)] [.int .i64 k,.int .i64 n]=some (.agg (aZ ⟨k,n,0,0,0⟩)):=rfl
def OH(k n r v:Int):Op.build (aZ gZ) [(0,1),(1,1),(2,1),(3,1)] [.int .i64 k,.int .i64 n,.int .i64 r,.int .u64 v]=some (.agg (aZ ⟨k,n,r,v,0⟩)):=rfl
def pZ:[AV.int .i64 0,.int .i64 0,.int .i64 0,.int .u64 0,.int .u64 0]=aZ gZ:=rfl
structure wA(i:gP)(rs:List Int)(pc:Int)(b:Nat)(H:ar):Prop where
 gi:H.get b=some (OR (fk i) EV)
 gr:H.get (b+1)=some (OR (rs.map uC) lV)
 gp:H.get (b+2)=some (OR [.int .i64 pc] cN)
 ge:H.get (b+3)=some (OR (aZ gZ) jh)
 lt:b+3<H.au
section
variable{i:gP}{rs:List Int}{pc:Int}{b:Nat}{H H':ar}
def wA.em(h:wA i rs pc b H)(f:Fr Em H H'):wA i rs pc b H':=by
 have hl:=h.lt;exact⟨by rw[f.ah _ (by omega) id];exact h.gi,by rw[f.ah _ (by omega) id];exact h.gr,by rw[f.ah _ (by omega) id];exact h.gp,by rw[f.ah _ (by omega) id];exact h.ge,qj hl f.au⟩
def wA.li(h:wA i rs pc b H)(k:Nat):Op.ae [.ptr b k] H=(fk i)[k]?:=x9 (qy h.gi) k
def wA.lp(h:wA i rs pc b H):Op.ae [.ptr (b+2) 0] H=some (.int .i64 pc):=x9 (qy h.gp) 0
def HF(h:wA i rs pc b H)(hp:0<=pc/\pc<1024)(v:Int):zd M Su [.int .u64 v,.ptr (b+2) 0,.ptr b 0] H λ w H'=>w=.agg (aZ ⟨1,pc+1,i.a,v,0⟩)/\Fr Em H H':=by
 refine xgn ?_;obtain⟨H1,f,d,-,j⟩:=bX H (OR (aZ gZ) jh);have e:=h.em d;have l1:Op.ae [.ptr b 1] H1=some (.int .i64 i.a):=e.li 1;have wp:aj .i64 (pc+1)=pc+1:=jw (by omega) (by omega);have g:Fr Em H (H1.set H.au (OR (aZ ⟨1,pc+1,i.a,v,0⟩) jh)):=d.set (.inr (qg _)) _;have ld:=HJ (xc H1 H.au (OR (aZ ⟨1,pc+1,i.a,v,0⟩) jh));simp only[aa,bc,xgo,pZ,<-f,e.lp,wp,l1,OH,EU j,ld];exact g
def Uv(h:wA i rs pc b H)(hp:0<=pc/\pc<1024)(k:Int):zd M Ti [.int .i64 k,.ptr (b+2) 0] H λ w H'=>w=.agg (aZ ⟨k,pc+1,0,0,0⟩)/\Fr Em H H':=by
 refine xgr ?_;obtain⟨H1,d,a,-,f⟩:=bX H (OR (aZ gZ) jh);have g:=h.em a;have wp:aj .i64 (pc+1)=pc+1:=jw (by omega) (by omega);have e:Fr Em H (H1.set H.au (OR (aZ ⟨k,pc+1,0,0,0⟩) jh)):=a.set (.inr (qg _)) _;have ld:=HJ (xc H1 H.au (OR (aZ ⟨k,pc+1,0,0,0⟩) jh));simp only[aa,bc,xgs,pZ,<-d,g.lp,wp,CW,EU f,ld];exact e
def Rn(h:wA i rs pc b H)(hp:0<=pc/\pc<1024)(q:Bool):zd M Qv [.bool q,.ptr (b+2) 0,.ptr b 0] H λ w H'=>w=.agg (aZ (mN i pc q))/\Fr Em H H':=by
 refine xgp ?_;obtain⟨w0,l,a,m⟩:=xgq M ⟨none,Qv⟩;obtain⟨H1,g,o,-,k⟩:=bX H (OR (aZ gZ) jh);have p:=h.em o;have wp:aj .i64 (pc+1)=pc+1:=jw (by omega) (by omega);have l4:Op.ae [.ptr b 4] H1=some (.int .i64 i.zH):=p.li 4;have j:∀f,Fr Em H (H1.set H.au (OR (aZ f) jh)):=λ f=>o.set (.inr (qg _)) _;have ld:∀f,Op.aq 5 [.ptr H.au 0] (H1.set H.au (OR (aZ f) jh))=some (.agg (aZ f)):=λ f=>HJ (xc H1 H.au (OR (aZ f) jh));cases q with
 |false =>
  simp only[aa,bc,w0,pZ,<-g,l,p.lp,wp,CW,EU k,ld];exact⟨rfl,j _⟩
 |true =>
  by_cases d:i.zH<0
  .simp only[aa,bc,w0,pZ,<-g,l,a,l4,d,tw,EU k,ld];exact⟨by unfold mN;rw[qr rfl,qr (.inl d)],j _⟩
  by_cases e:(1024:Int)<i.zH
  .simp only[aa,bc,w0,pZ,<-g,l,a,l4,d,e,tw,EU k,ld];exact⟨by unfold mN;rw[qr rfl,qr (.inr e)],j _⟩
  simp only[aa,bc,w0,pZ,<-g,l,a,l4,d,e,m,CW,EU k,ld];exact⟨by unfold mN;rw[qr rfl,qo (λ q=>q.elim d e)],j _⟩
def T4(h:wA i rs pc b H)(d:rs.length=8)(n:Int):zd M SY [.int .i64 n,.ptr (b+1) 0] H λ w H'=>w=.int .u64 (rg rs n)/\H'=H:=by
 refine xgt ?_;have hl:=Wr n;have a:Op.bin .and [.int .i64 n,.int .i64 7]=some (.int .i64 ((pz n:Nat):Int)):=by
  show some (AV.int .i64 (aj .i64 ((pz n:Nat):Int)))=_;rw[jw (by omega) (by omega)]
 have ix:Op.aP 8 1 [.ptr (b+1) 0,.int .i64 ((pz n:Nat):Int)]=some (.ptr (b+1) (pz n)):=by
  simp only[Op.aP];rw[Ke (i:=pz n) rfl hl];simp
 have ld:Op.ae [.ptr (b+1) (pz n)] H=some (.int .u64 (rg rs n)):=by rw[x9 (qy h.gr)];exact OP d n
 simp only[aa,bc,xgu,a,ix,ld]
end
def Fa{H:ar}(hs:uQ H){i:gP}{rs:List Int}{pc:Int}(J:rs.length=8)(hr:∀x∈rs,fM x):zd M UL [.agg (fk i),.agg (rs.map uC),.int .i64 pc] H λ v H'=>v=.agg (aZ (i.fJ rs pc))/\Fr Em H H':=by
 refine AA ?_;obtain⟨w0,w2,Y,Z,w18,w22,O,m,p,r,s,u,B,A,G⟩:=AL M ⟨none,UL⟩;obtain⟨H1,e1,f1,n1,-⟩:=bX H (OR (fk i) EV);obtain⟨H2,S,L,-,-⟩:=bX H1 (OR (rs.map uC) lV);obtain⟨H3,T,I,-,-⟩:=bX H2 (OR [.int .i64 pc] cN);obtain⟨P,U,F,-,-⟩:=bX H3 (OR (aZ gZ) jh);have n2:H2.au=H.au+2:=by rw[S,xx,n1]
 have W:H3.au=H.au+3:=by rw[T,xx,n2]
 have n4:P.au=H.au+4:=by rw[U,xx,W]
 have f4:Fr Em H P:=((f1.trans L λ _ q=>q.elim).trans I λ _ q=>q.elim).trans F λ _ q=>q.elim;have hM:wA i rs pc H.au P:=by
  refine⟨?_,?_,?_,?_,by omega⟩
  .rw [F.ah _ (by omega) id,I.ah _ (by omega) id,L.ah _ (by omega) id,e1,xf]
  .rw [F.ah _ (by omega) id,I.ah _ (by omega) id,S,<-n1,xf]
  .rw [F.ah _ (by omega) id,T,<-n2,xf]
  .rw [U,<-W,xf]
 have c1:AV.cells (.agg (fk i))=fk i:=zw _;have c2:AV.cells (.agg (rs.map uC))=rs.map uC:=zw _;have c3:AV.cells (.int .i64 pc)=[.int .i64 pc]:=rfl;simp only[aa,bc,w0,c1,<-e1,c2,<-S,c3,<-T,pZ,<-U,n1,n2,W,w2];have li:Op.aq 5 [.ptr H.au 0] P=some (.agg (fk i)):=by rw[rD (c:=fk i) (qy hM.gi) (by simp[fk])];rfl
 simp only[aa,bc,li];refine C3.q (xf1 (M:=M) (hs.em f4) i) λ v K⟨l,f5⟩=>?_;subst l;have d:=hM.em f5;have j:=f4.trans f5 λ _ q=>q.elim
 -- the end
 have fin:∀{z:ar},wA i rs pc H.au z->Fr Em H z->(∀f,Op.store 5 [.ptr (H.au+3) 0,.agg (aZ f)] z=some (.undef,z.set (H.au+3) (OR (aZ f) jh)))/\(∀f,Op.aq 5 [.ptr (H.au+3) 0] (z.set (H.au+3) (OR (aZ f) jh))=some (.agg (aZ f))) /\ ∀f,Fr Em H (z.set (H.au+3) (OR (aZ f) jh)):=λ{z}hx fx =>
  ⟨λ f=>EU hx.ge,λ f=>HJ (xc z (H.au+3) (OR (aZ f) jh)),λ f=>fx.set (.inr (by omega)) _⟩
 by_cases hb:¬i.mn\/pc<0\/1024<=pc
 .have hd:i.fJ rs pc=gZ:=by unfold gP.fJ;rw[qr hb]
  rw[hd];obtain⟨st,ld,k⟩:=fin d j
  by_cases Q:i.mn
  .by_cases E:pc<0
   .simp only[aa,bc,ke Q,d.lp,E,tw,st,ld];exact k _
   .have X:(1024:Int)<=pc:=by rcases hb with q|q|q;exact(q Q).elim;omega;exact q
    simp only[aa,bc,ke Q,d.lp,E,X,tw,st,ld];exact k _
  .simp only[aa,bc,kj Q,tw,st,ld];exact k _
 have D:i.mn:=Gs.1 λ q=>hb (.inl q);have E:¬pc<0:=λ q=>hb (.inr (.inl q));have X:¬(1024:Int)<=pc:=λ q=>hb (.inr (.inr q));have hp:0<=pc/\pc<1024:=⟨by omega,by omega⟩
 have wp:aj .i64 (pc+1)=pc+1:=jw (by omega) (by omega);have mk1:Op.bC Su 0 [.ptr (H.au+2) 0,.ptr H.au 0]=some (.fn (.func Su) [] [.ptr (H.au+2) 0,.ptr H.au 0]):=rfl;have mk2:Op.bC Qv 0 [.ptr (H.au+2) 0,.ptr H.au 0]=some (.fn (.func Qv) [] [.ptr (H.au+2) 0,.ptr H.au 0]):=rfl;have mk3:Op.bC Ti 0 [.ptr (H.au+2) 0]=some (.fn (.func Ti) [] [.ptr (H.au+2) 0]):=rfl;have mk4:Op.bC SY 0 [.ptr (H.au+1) 0]=some (.fn (.func SY) [] [.ptr (H.au+1) 0]):=rfl;have k1:Op.ae [.ptr H.au 1] K=some (.int .i64 i.a):=d.li 1;have k2:Op.ae [.ptr H.au 2] K=some (.int .i64 i.b):=d.li 2;have V:Op.ae [.ptr H.au 3] K=some (.int .i64 i.c):=d.li 3;have k4:Op.ae [.ptr H.au 4] K=some (.int .i64 i.zH):=d.li 4;have k0:Op.ae [.ptr H.au 0] K=some (.int .i64 i.op):=d.li 0;simp only[aa,bc,ke D,d.lp,E,X,Y,Z,w18,k1,k2,V];refine C3.q (T4 (M:=M) d J i.a) λ v R⟨l,N⟩=>?_;subst l;subst N;simp only[aa,bc,k2,V];refine C3.q (T4 (M:=M) d J i.b) λ v R⟨l,N⟩=>?_;subst l;subst N;simp only[aa,bc,V];refine C3.q (T4 (M:=M) d J i.c) λ v R⟨l,N⟩=>?_;subst l;subst N;have ra:=QM J hr i.a;have rb:=QM J hr i.b;have rc:=QM J hr i.c;simp only[aa,bc,k4,w22,k0];have hop:1<=i.op/\i.op<=18:=⟨D.1,D.2.1⟩
 -- what is told
 have t:∀{f:mI}{z:ar},f=i.fJ rs pc->Fr Em H z->AV.agg (aZ f)=.agg (aZ (i.fJ rs pc))/\Fr Em H z:=λ e q=>⟨by rw[e],q⟩
 have C:i.op=1\/i.op=2\/i.op=3\/i.op=4\/i.op=5\/i.op=6\/i.op=7\/i.op=8\/i.op=9\/i.op=10\/i.op=11\/i.op=12\/i.op=13\/i.op=14\/i.op=15\/i.op=16\/i.op=17\/i.op=18:=by omega
 have cl:∀{x:AV}{f:mI}{z:ar},x=.agg (aZ f)->Fr Em R z->wA i rs pc H.au z/\Fr Em H z:=λ _ q=>⟨d.em q,j.trans q λ _ w=>w.elim⟩
 rcases C with o|o|o|o|o|o|o|o|o|o|o|o|o|o|o|o|o|o
 .simp only[aa,bc,o,sY];refine C3.q (Uv (M:=M) d hp 7) λ v y⟨l,h⟩=>?_;subst l;have g:=j.trans h λ _ w=>w.elim;obtain⟨st,ld,k⟩:=fin (d.em h) g;simp only[aa,bc,st,ld];refine t ?_ (k _);unfold gP.fJ;rw[qo hb];simp[o]
 .simp only[aa,bc,o,Int.reduceEq,sY,k4];refine C3.q (HF (M:=M) d hp (aj .u64 i.zH)) λ v y⟨l,h⟩=>?_;subst l;have g:=j.trans h λ _ w=>w.elim;obtain⟨st,ld,k⟩:=fin (d.em h) g;simp only[aa,bc,st,ld];refine t ?_ (k _);unfold gP.fJ;rw[qo hb];simp[o]
 .simp only[aa,bc,o,Int.reduceEq,sY,m];refine C3.q (HF (M:=M) d hp (rg rs i.b)) λ v y⟨l,h⟩=>?_;subst l;have g:=j.trans h λ _ w=>w.elim;obtain⟨st,ld,k⟩:=fin (d.em h) g;simp only[aa,bc,st,ld];refine t ?_ (k _);unfold gP.fJ;rw[qo hb];simp[o]
 .simp only[aa,bc,o,Int.reduceEq,sY,m];refine C3.q (HF (M:=M) d hp _) λ v y⟨l,h⟩=>?_;subst l;have g:=j.trans h λ _ w=>w.elim;obtain⟨st,ld,k⟩:=fin (d.em h) g;simp only[aa,bc,st,ld];refine t ?_ (k _);unfold gP.fJ;rw[qo hb];simp[o,EL]
 .simp only[aa,bc,o,Int.reduceEq,sY,m,p];refine C3.q (HF (M:=M) d hp _) λ v y⟨l,h⟩=>?_;subst l;have g:=j.trans h λ _ w=>w.elim;obtain⟨st,ld,k⟩:=fin (d.em h) g;simp only[aa,bc,st,ld];refine t ?_ (k _);unfold gP.fJ;rw[qo hb];simp[o,EL]
 .simp only[aa,bc,o,Int.reduceEq,sY,m,p];refine C3.q (HF (M:=M) d hp _) λ v y⟨l,h⟩=>?_;subst l;have g:=j.trans h λ _ w=>w.elim;obtain⟨st,ld,k⟩:=fin (d.em h) g;simp only[aa,bc,st,ld];refine t ?_ (k _);unfold gP.fJ;rw[qo hb];simp[o,EL]
 .have q:Op.bin .and [.int .u64 (rg rs i.b),.int .u64 (rg rs i.c)]=some (.int .u64 (EL 7 (rg rs i.b) (rg rs i.c))):=rfl;simp only[aa,bc,o,Int.reduceEq,sY,m,p,r,q];refine C3.q (HF (M:=M) d hp _) λ v y⟨l,h⟩=>?_;subst l;have g:=j.trans h λ _ w=>w.elim;obtain⟨st,ld,k⟩:=fin (d.em h) g;simp only[aa,bc,st,ld];refine t ?_ (k _);unfold gP.fJ;rw[qo hb];simp[o]
 .have q:Op.bin .xor [.int .u64 (rg rs i.b),.int .u64 (rg rs i.c)]=some (.int .u64 (EL 8 (rg rs i.b) (rg rs i.c))):=rfl;simp only[aa,bc,o,Int.reduceEq,sY,m,p,r,q];refine C3.q (HF (M:=M) d hp _) λ v y⟨l,h⟩=>?_;subst l;have g:=j.trans h λ _ w=>w.elim;obtain⟨st,ld,k⟩:=fin (d.em h) g;simp only[aa,bc,st,ld];refine t ?_ (k _);unfold gP.fJ;rw[qo hb];simp[o]
 .have q:Op.bin .rem [.int .u64 (rg rs i.c),.int .u64 64]=some (.int .u64 (((rg rs i.c % 64).toNat:Nat):Int)):=by
   rw[tz .u64 _ _ (by decide),SM rc.1];congr 2;omega
  have E:=Ob .u64 .u64 (rg rs i.b) (rg rs i.c % 64).toNat;rw[show IntKind.u64.bits=64 from rfl,show min (rg rs i.c % 64).toNat 64=(rg rs i.c % 64).toNat by omega]at E;simp only[aa,bc,o,Int.reduceEq,sY,m,p,r,s,q,E];refine C3.q (HF (M:=M) d hp _) λ v y⟨l,h⟩=>?_;subst l;have g:=j.trans h λ _ w=>w.elim;obtain⟨st,ld,k⟩:=fin (d.em h) g;simp only[aa,bc,st,ld];refine t ?_ (k _);unfold gP.fJ;rw[qo hb];simp[o,EL]
 .have q:Op.bin .rem [.int .u64 (rg rs i.c),.int .u64 64]=some (.int .u64 (((rg rs i.c % 64).toNat:Nat):Int)):=by
   rw[tz .u64 _ _ (by decide),SM rc.1];congr 2;omega
  have E:=OC .u64 .u64 (rg rs i.b) (rg rs i.c % 64).toNat;rw[show IntKind.u64.bits=64 from rfl,show min (rg rs i.c % 64).toNat 64=(rg rs i.c % 64).toNat by omega,Fj rb]at E;simp only[aa,bc,o,Int.reduceEq,sY,m,p,r,s,q,E];refine C3.q (HF (M:=M) d hp _) λ v y⟨l,h⟩=>?_;subst l;have g:=j.trans h λ _ w=>w.elim;obtain⟨st,ld,k⟩:=fin (d.em h) g;simp only[aa,bc,st,ld];refine t ?_ (k _);unfold gP.fJ;rw[qo hb];simp[o,EL]
 .obtain ⟨st,ld,k⟩:=fin d j;simp only[aa,bc,o,Int.reduceEq,sY,m,p,r,s,u,d.lp,wp,k1,bdL,st,ld];refine t ?_ (k _);unfold gP.fJ;rw[qo hb];simp[o]
 .obtain ⟨st,ld,k⟩:=fin d j;simp only[aa,bc,o,Int.reduceEq,sY,m,p,r,s,u,d.lp,wp,Vf,st,ld];refine t ?_ (k _);unfold gP.fJ;rw[qo hb];simp[o]
 .simp only[aa,bc,o,Int.reduceEq,sY,m,p,r,s,u,B];refine C3.q (Rn (M:=M) d hp true) λ v y⟨l,h⟩=>?_;subst l;have g:=j.trans h λ _ w=>w.elim;obtain⟨st,ld,k⟩:=fin (d.em h) g;simp only[aa,bc,st,ld];refine t ?_ (k _);unfold gP.fJ;rw[qo hb];simp[o]
 .simp only[aa,bc,o,Int.reduceEq,sY,m,p,r,s,u,B];refine C3.q (Rn (M:=M) d hp (decide (rg rs i.a=rg rs i.b))) λ v y⟨l,h⟩=>?_;subst l;have g:=j.trans h λ _ w=>w.elim;obtain⟨st,ld,k⟩:=fin (d.em h) g;simp only[aa,bc,st,ld];refine t ?_ (k _);unfold gP.fJ;rw[qo hb];simp[o]
 .simp only[aa,bc,o,Int.reduceEq,sY,m,p,r,s,u,B,A];refine C3.q (Rn (M:=M) d hp (decide (rg rs i.a≠rg rs i.b))) λ v y⟨l,h⟩=>?_;subst l;have g:=j.trans h λ _ w=>w.elim;obtain⟨st,ld,k⟩:=fin (d.em h) g;simp only[aa,bc,st,ld];refine t ?_ (k _);unfold gP.fJ;rw[qo hb];simp[o]
 .simp only[aa,bc,o,Int.reduceEq,sY,m,p,r,s,u,B,A];refine C3.q (Rn (M:=M) d hp (decide (rg rs i.a<rg rs i.b))) λ v y⟨l,h⟩=>?_;subst l;have g:=j.trans h λ _ w=>w.elim;obtain⟨st,ld,k⟩:=fin (d.em h) g;simp only[aa,bc,st,ld];refine t ?_ (k _);unfold gP.fJ;rw[qo hb];simp[o]
 .simp only[aa,bc,o,Int.reduceEq,sY,m,p,r,s,u,B,A,G];refine C3.q (Uv (M:=M) d hp 5) λ v y⟨l,h⟩=>?_;subst l;have g:=j.trans h λ _ w=>w.elim;obtain⟨st,ld,k⟩:=fin (d.em h) g;simp only[aa,bc,st,ld];refine t ?_ (k _);unfold gP.fJ;rw[qo hb];simp[o]
 .simp only[aa,bc,o,Int.reduceEq,sY,m,p,r,s,u,B,A,G,O];refine C3.q (Uv (M:=M) d hp 6) λ v y⟨l,h⟩=>?_;subst l;have g:=j.trans h λ _ w=>w.elim;obtain⟨st,ld,k⟩:=fin (d.em h) g;simp only[aa,bc,st,ld];refine t ?_ (k _);unfold gP.fJ;rw[qo hb];simp[o]
end Go.Am
namespace Go.Am
open Lang Go.Proofs
def At(H:ar)(p t:Nat)(c:List AV):Prop:=H.get p=some (OR c t)/\p<H.au
section
variable{H H':ar}{p t:Nat}{c:List AV}
def At.ld(h:At H p t c)(k:Nat):Op.ae [.ptr p k] H=c[k]?:=x9 (qy h.1) k
def At.fm(h:At H p t c){k n:Nat}(hn:k+n<=c.length):Op.aq n [.ptr p k] H=some (.agg ((c.drop k).take n)):=rD (qy h.1) hn
def At.gI(h:At H p t c){k n:Nat}{v:AV}(b:v.cells.length=n)(hn:k+n<=c.length)(a:aJ v.cells=true):Op.store n [.ptr p k,v] H=some (.undef,H.set p (OR (c.take k++v.cells++c.drop (k+n)) t)):=ug h.1 b hn a
def Av{α:Type}:∀(c:List α)(k:Nat)(v:α),k<c.length->c.take k ++ [v]++c.drop (k+1)=c.set k v
 |[],k,v,h=>absurd h (Nat.not_lt_zero _)
 |x::c,0,v,_=>rfl
 |x::c,k+1,v,h=>congrArg (x :: ·) (Av c k v (Nat.lt_of_succ_lt_succ h))
def EP{v:AV}(h:av v=true):v.cells=[v]:=by
 cases v<;>first|rfl|cases h
def At.st(h:At H p t c)(k:Nat){v:AV}(a:av v=true)(hk:k<c.length):Op.store 1 [.ptr p k,v] H=some (.undef,H.set p (OR (c.set k v) t)):=by
 have e:=EP a;rw[h.gI (n:=1) (by rw[e];rfl) hk (by rw[e,yn];simp[a]),e,Av c k v hk]
def At.set(h:At H p t c)(a:List AV):At (H.set p (OR a t)) p t a:=⟨xc ..,h.2⟩
def At.fr{W:Nat->Prop}(h:At H p t c)(f:Fr W H H')(hw:¬W p):At H' p t c:=⟨(f.ah p h.2 hw).trans h.1,qj h.2 f.au⟩
def At.em(h:At H p t c)(f:Fr Em H H'):At H' p t c:=h.fr f id
def At.new(H:ar)(c:List AV)(t:Nat):At (H.alloc (OR c t)) H.au t c:=⟨xf ..,zp _⟩
def cE(H:ar)(p:Nat)(o:bH):Fr (On p) H (H.set p o):=(Fr.refl H).set (W:=On p) (.inl rfl) o
end
variable{M:ak}[MK M]
def dP{f:Nat}{vs:List AV}{H:ar}{v:AV}(h:zd M f vs H λ w X=>w=v/\X=H)(K:Bool->AV->ar->Prop):C3 M true (.func f) vs H K=K true v H:=by
 obtain⟨w,X,⟨n1,d⟩,rfl,rfl⟩:=h.elim;refine propext ⟨?_,λ k=>⟨w,X,⟨n1,d⟩,k⟩⟩;rintro⟨e,X',⟨n2,g⟩,k⟩;have a:=d (max n1 n2) (by omega);rw[g (max n1 n2) (by omega)]at a;injection a with a
 injection a with a b
 injection b with _ b
 injection a with a
 subst a;subst b;exact k
def aA:(∀b o H,Op.eq .ptr false [.ptr b o,.nilp] H=some (.bool false))/\(∀b o H,Op.eq .ptr true [.ptr b o,.nilp] H=some (.bool true))/\(∀H,Op.eq .ptr false [.nilp,.nilp] H=some (.bool true))/\(∀H,Op.eq .ptr true [.nilp,.nilp] H=some (.bool false))/\(∀b o,Op.nilCheck [.ptr b o]=some (.ptr b o))/\(∀i l,Op.extract i [.tuple l]=l[i]?):=⟨yv,kU,O9,t9,qn,xe⟩
def i4{o:Nat->Nat}{n k z:Nat}(h:z<n):aS o n k z=o z:=qr h
def mH{o:Nat->Nat}{n k z:Nat}(h:n<=z):aS o n k z=k:=qo (by omega)
def bW(x:Fi)(pv:AV):List AV:=x.rs.map uC ++ [.int .i64 x.pc,pv,.bool true]
def eS(x:List Int×Int):List AV:=x.1.map uC ++ [.int .i64 x.2]
structure Tn(x:List Int×Int):Prop where
 r8:x.1.length=8
 ru:∀v∈x.1,fM v
 pc:0<=x.2
def Oe(H:ar)(o:Nat->Nat)(f:Nat)(pv:AV):Option (List Int×Int)->Prop
 |none=>pv=.nilp
 |some x=>Tn x /\ ∃b,pv=.ptr b 0/\At H b MU (eS x)/\o b=2/\b≠f
structure pF(H:ar)(o:Nat->Nat)(f:Nat)(x:Fi):Prop where
 w:Tn (x.rs,x.pc)
 at':∃pv,At H f ED (bW x pv)/\Oe H o f pv x.pt
section
variable{H H':ar}{o o':Nat->Nat}{f:Nat}{x:Fi}
def Ex{rs:List Int}(h:rs.length=8)(k:Nat)(l:List AV):(rs.map uC++l)[8+k]? = l[k]?:=by
 rw[zh (by simp[h])];simp[h]
def GD{rs:List Int}(h:rs.length=8)(l:List AV):(rs.map uC++l).length=8+l.length:=by simp[h]
def Oz{rs:List Int}(h:rs.length=8)(l:List AV)(n:Nat):(rs.map uC++l).take (8+n)=rs.map uC++l.take n:=by
 rw[show 8+n=(rs.map uC).length+n by simp[h],Sz]
def JP{rs:List Int}(h:rs.length=8)(l:List AV)(n:Nat):(rs.map uC++l).drop (8+n)=l.drop n:=by
 rw[show 8+n=(rs.map uC).length+n by simp[h],QH]
def Oe.fr{W:Nat->Prop}{pv:AV}{x:Option (List Int×Int)}(h:Oe H o f pv x)(a:Fr W H H')(hw:∀z,z<H.au->o z=2->z≠f -> ¬W z)(ho:∀z,z<H.au->o' z=o z):Oe H' o' f pv x:=by
 cases x with
 |none=>exact h
 |some x =>
  obtain⟨i,b,j,d,e,g⟩:=h;exact⟨i,b,j,d.fr a (hw b d.2 e g),(ho b d.2).trans e,g⟩
def pF.fr{W:Nat->Prop}(h:pF H o f x)(a:Fr W H H')(e:o f=2)(hw:∀z,z<H.au->o z=2 -> ¬W z)(ho:∀z,z<H.au->o' z=o z):pF H' o' f x:=by
 obtain⟨pv,b,d⟩:=h.at';exact⟨h.w,pv,b.fr a (hw f b.2 e),d.fr a (λ z q w _=>hw z q w) ho⟩
def pF.em(h:pF H o f x)(a:Fr Em H H'):pF H' o f x:=by
 obtain⟨pv,b,d⟩:=h.at';exact⟨h.w,pv,b.em a,d.fr a (λ _ _ _ _ q=>q) λ _ _=>rfl⟩
def pF.row(h:pF H o f x){pv:AV}(a:At H f ED (bW x pv))(b:Oe H o f pv x.pt){y:Fi}(d:Tn (y.rs,y.pc))(hp:y.pt=x.pt):pF (H.set f (OR (bW y pv) ED)) (aS o H.au 2) f y :=
 ⟨d,pv,a.set _,hp▸b.fr (cE H f _) (λ z _ _ q=>q) λ z q=>i4 q⟩
def pF.same(h:pF H o f x):pF H (aS o H.au 2) f x:=by
 obtain⟨pv,a,b⟩:=h.at';exact⟨h.w,pv,a,b.fr (Fr.refl H) (λ z _ _ _ q=>q) λ z q=>i4 q⟩
def lO(h:pF H o f x):∀K,C3 M true (.func qoh) [.ptr f 0] H K=K true (.bool false) H:=by
 obtain⟨pv,a,-⟩:=h.at';have l:=(a.ld 10).trans (Ex h.w.r8 2 _);refine dP (qzn ?_);simp only[aa,bc,qzo,aA,l]
def iG(h:pF H o f x):∀K,C3 M true (.func nB) [.ptr f 0] H K=K true (.int .i64 (if x.pt.isSome then 0 else 60)) H:=by
 obtain⟨pv,d,a⟩:=h.at';have l:=(d.ld 9).trans (Ex h.w.r8 1 _);refine dP (qup ?_);cases q:x.pt with
 |none =>
  rw[q]at a;have a:pv=.nilp:=a;subst a;simp only[aa,bc,qlm,aA,lO h,l,Option.isSome,zq]
 |some y =>
  rw[q]at a;obtain⟨-,b,rfl,-⟩:=a;simp only[aa,bc,qlm,aA,lO h,l,Option.isSome]
def D3(h:pF H o f x)(i:Int):∀K,C3 M true (.func qmf) [.ptr f 0,.int .i64 i] H K=K true (.int .i64 (if 0<=i/\i<8 then 0 else 2)) H:=by
 refine dP (qww ?_)
 by_cases a:i<0
 .simp only[aa,bc,Yn,lO h,a,qo (λ q:0<=i/\i<8=>I2.2 q.1 a)]
 by_cases b:(8:Int)<=i
 .simp only[aa,bc,Yn,lO h,a,b,qo (λ q:0<=i/\i<8=>I2.2 b q.2)]
 .simp only[aa,bc,Yn,lO h,a,b,qr (show 0<=i/\i<8 by omega)]
def Lr(H:ar)(o:Nat->Nat)(f:Nat)(y:Fi)(H':ar):Prop:=pF H' (aS o H.au 2) f y/\Fr (On f) H H'
def Kw(h:pF H o f x)(i:Int){v:Int}(k:fM v):zd M WS [.ptr f 0,.int .i64 i,.int .u64 v] H λ _ H'=>Lr H o f (x.set i v) H':=by
 refine q4q ?_;unfold Fi.set
 by_cases b:0<=i/\i<8
 .rw [qr b];obtain⟨pv,g,j⟩:=h.at';have d:=h.w.r8;obtain⟨a,rfl⟩:=z4 b.1;have ha:a<8:=by omega
  have ix:Op.aP 8 1 [.ptr f 0,.int .i64 (a:Int)]=some (.ptr f a):=by rw[Jj rfl ha];simp
  have e:(bW x pv).set a (.int .u64 v)=bW {x with rs:=x.rs.set a v} pv:=by
   unfold bW;rw[List.set_append_left _ _ (by simp[d];exact ha),Lq];rfl
  have st:=g.st a (v:=.int .u64 v) rfl (by unfold bW;rw[GD d];omega);rw[e]at st;simp only[aa,bc,qqc,aA,D3 h,qr b,ix,st];refine⟨h.row g j ⟨by simp[d],λ y q=>(EJ q).elim (h.w.ru y) λ e=>e▸k,h.w.pc⟩ rfl,cE ..⟩
 .rw [qo b];have m:¬(2:Int)=0:=by decide
  simp only[aa,bc,qqc,D3 h,qo b,m];exact⟨h.same,Fr.refl _⟩
def I5(h:pF H o f x)(i:Int):zd M qof [.ptr f 0,.int .i64 i] H λ _ H'=>Lr H o f (x.jump i) H':=by
 refine qzk ?_;unfold Fi.jump
 by_cases a:i<0
 .rw [qr a];simp only[aa,bc,qos,lO h,a];exact⟨h.same,Fr.refl _⟩
 .rw [qo a];obtain⟨pv,d,g⟩:=h.at';have b:=h.w.r8;have e:(bW x pv).set 8 (.int .i64 i)=bW {x with pc:=i} pv:=by
   unfold bW;rw[MD _ _ (by simp[b])];simp[b]
  have st:=d.st 8 (v:=.int .i64 i) rfl (by unfold bW;rw[GD b];simp);rw[e]at st;simp only[aa,bc,qos,aA,lO h,a,st];exact⟨h.row d g ⟨b,h.w.ru,I2.1 a⟩ rfl,cE ..⟩
def X6(h:pF H o f x):∀K,C3 M true (.func qrq) [.ptr f 0] H K=K true (.int .i64 x.pc) H:=by
 obtain⟨pv,a,-⟩:=h.at';have l:=(a.ld 8).trans (Ex h.w.r8 0 _);refine dP (q54 ?_);simp only[aa,bc,q55,aA,lO h,l]
def OY(h:pF H o f x):zd M Z2 [.ptr f 0] H λ v H'=>v=.agg (x.rs.map uC)/\Fr Em H H':=by
 refine q4o ?_;obtain⟨H1,e,b,-,-⟩:=bX H (OR (List.replicate 8 (.int .u64 0)) lV);have d:At H1 H.au lV _:=e▸At.new H _ _
 obtain⟨pv,i,-⟩:=(h.em b).at';have a:=h.w.r8;have l:=i.fm (k:=0) (n:=8) (by unfold bW;rw[GD a];simp);rw[yi,show 8=8+0 from rfl,bW,Oz a,yu,zf]at l;have s:=d.gI (k:=0) (n:=8) (v:=.agg (x.rs.map uC)) (by simp[zw,a]) (by simp) (by rw[zw,yn];simp[uC,av]);rw[zw,yu,zx,jf (by simp),zf]at s;have l2:=((d.set (x.rs.map uC)).fm (k:=0) (n:=8) (by simp[a]))
 rw[yi,zg (by simp[a])]at l2;have g:[AV.int .u64 0,.int .u64 0,.int .u64 0,.int .u64 0,.int .u64 0,.int .u64 0,.int .u64 0,.int .u64 0]=List.replicate 8 (.int .u64 0):=rfl;simp only[aa,bc,q4p,aA,g,<-e,lO (h.em b),l,s,l2];exact b.set (.inr (qg _)) _
def JF{pv:AV}(b:At H f ED (bW x pv))(a:x.rs.length=8):Op.aq 9 [.ptr f 0] H=some (.agg (eS (x.rs,x.pc))):=by
 have l:=b.fm (k:=0) (n:=9) (by unfold bW;rw[GD a];simp);rw[yi,show 9=8+1 from rfl,bW,Oz a]at l;exact l
def XT{pv:AV}(b:At H f ED (bW x pv))(a:x.rs.length=8):Op.aq 8 [.ptr f 0] H=some (.agg (x.rs.map uC)):=by
 have l:=b.fm (k:=0) (n:=8) (by unfold bW;rw[GD a];simp);rw[yi,show 8=8+0 from rfl,bW,Oz a,yu,zf]at l;exact l
def B8(y:List Int×Int):aJ (eS y)=true:=by unfold eS;rw[yn];simp[uC,av]
def Oc{y:List Int×Int}(h:y.1.length=8):(eS y).length=9:=by simp[eS,h]
def z9:[AV.int .u64 0,.int .u64 0,.int .u64 0,.int .u64 0,.int .u64 0,.int .u64 0,.int .u64 0,.int .u64 0,.int .i64 0]=eS (List.replicate 8 0,0):=rfl
def PD(h:pF H o f x):zd M qog [.ptr f 0] H λ _ H'=>Lr H o f x.save H':=by
 refine qzl ?_;obtain⟨pv,d,B⟩:=h.at';have a:=h.w.r8;obtain⟨H1,j,A,-,-⟩:=bX H (OR (eS (List.replicate 8 0,0)) MU);have i:At H1 H.au MU _:=j▸At.new H _ _
 have s:=i.gI (k:=0) (n:=9) (v:=.agg (eS (x.rs,x.pc))) (by rw[zw];exact Oc a) (by simp[eS]) (by rw[zw];exact B8 _);rw[zw,yu,zx,jf (by simp[eS]),zf]at s;obtain⟨g,b⟩:∃X,X=H1.set H.au (OR (eS (x.rs,x.pc)) MU):=⟨_,rfl⟩
 rw[<-b]at s;have y:At g H.au MU (eS (x.rs,x.pc)):=b▸i.set _
 have m:Fr Em H g:=b▸A.set (.inr (qg _)) _;have r:=d.em m;have e:(bW x pv).set 9 (.ptr H.au 0)=bW x.save (.ptr H.au 0):=by
  unfold bW;rw[MD _ _ (by simp[a])];simp[a,Fi.save]
 have st:=r.st 9 (v:=.ptr H.au 0) rfl (by unfold bW;rw[GD a];simp);rw[e]at st;simp only[aa,bc,qzm,aA,lO h,JF d a,z9,<-j,s,st];have u:H.au≠f:=λ q=>by have:=d.2;omega
 exact⟨⟨h.w,_,r.set _,h.w,_,rfl,y.fr (cE ..) (λ q=>u q),mH (qg _),u⟩,(m.mono (W':=On f) λ _ _ q=>q.elim).trans (cE ..) λ z q=>.inl q⟩
def N2(h:pF H o f x):zd M qoe [.ptr f 0] H λ _ H'=>Lr H o f x.drop H':=by
 refine qzj ?_;obtain⟨pv,b,g⟩:=h.at';have a:=h.w.r8;cases q:x.pt with
 |none =>
  have e:x.drop=x:=by unfold Fi.drop;cases x;simp only at q;rw[q]
  rw[e];have d:¬(60:Int)=0:=by decide
  simp only[aa,bc,nz,iG h,q,Option.isSome,zq,d];exact⟨h.same,Fr.refl _⟩
 |some y =>
  have e:(bW x pv).set 9 .nilp=bW x.drop .nilp:=by
   unfold bW;rw[MD _ _ (by simp[a])];simp[a,Fi.drop]
  have st:=b.st 9 (v:=.nilp) rfl (by unfold bW;rw[GD a];simp);rw[e]at st;simp only[aa,bc,nz,aA,iG h,q,Option.isSome,st];exact⟨⟨h.w,_,b.set _,rfl⟩,cE ..⟩
def NF{a b:List Int}(ha:a.length=8)(hb:b.length=8)(H:ar):Op.eq (.agg (.part 0 none .int (.part 1 none .int (.part 2 none .int (.part 3 none .int (.part 4 none .int (.part 5 none .int (.part 6 none .int (.part 7 none .int .nil))))))))) true [.agg (a.map uC),.agg (b.map uC)] H=some (.bool (decide (a≠b))):=by
 match a,ha,b,hb with
 |[a0,a1,a2,a3,a4,a5,a6,a7],_,[b0,b1,b2,b3,b4,b5,b6,b7],_ =>
  refine(CC _ _ _ _ (decide ([a0,a1,a2,a3,a4,a5,a6,a7]=[b0,b1,b2,b3,b4,b5,b6,b7])) ?_).trans (by simp);simp only[jk,Ey,uC,bj,partAt,lS,jp,zr,qm,ta,jU,Nat.beq,xq,j1,zk,rk]
  by_cases d:a0=b0<;>by_cases e:a1=b1<;>by_cases g:a2=b2<;>by_cases h:a3=b3<;>simp only[d,e,g,h,decide_true,JG,xq,zj,Df,false_and,and_false]<;>by_cases i:a4=b4<;>by_cases j:a5=b5<;>by_cases k:a6=b6<;>by_cases m:a7=b7<;>simp only[i,j,k,m,decide_true,JG,xq,zj,Df,false_and,and_false]
def iu(h:pF H o f x):zd M qke [.ptr f 0] H λ _ H'=>Lr H o f x.restore H':=by
 refine qsv ?_;obtain⟨pv,g,j⟩:=h.at';have a:=h.w.r8;cases q:x.pt with
 |none =>
  have e:x.restore=x:=by unfold Fi.restore;rw[q]
  rw[e];have G:¬(60:Int)=0:=by decide
  simp only[aa,bc,RY,iG h,q,Option.isSome,zq,G];exact⟨h.same,Fr.refl _⟩
 |some y =>
  rw[q]at j;have m:=j;obtain⟨d,b,rfl,hb,J,I⟩:=j;have e:x.restore=⟨y.1,y.2,some y⟩:=by unfold Fi.restore;rw[q]
  have r:=(g.ld 9).trans (Ex a 1 _);have A:=(g.ld 8).trans (Ex a 0 _);have B:=(hb.ld 8).trans (Ex d.r8 0 _);have u:Op.aq 8 [.ptr b 0] H=some (.agg (y.1.map uC)):=by
   have l:=hb.fm (k:=0) (n:=8) (by rw[Oc d.r8];decide);rw[yi,show 8=8+0 from rfl,eS,Oz d.r8,yu,zf]at l;exact l
  have C:Op.aq 9 [.ptr b 0] H=some (.agg (eS y)):=by
   have l:=hb.fm (k:=0) (n:=9) (by rw[Oc d.r8];decide);rw[yi,zg (by rw[Oc d.r8];decide)]at l;exact l
  have s:=g.gI (k:=0) (n:=9) (v:=.agg (eS y)) (by rw[zw];exact Oc d.r8) (by unfold bW;rw[GD a];simp) (by rw[zw];exact B8 _);have D:(bW x (.ptr b 0)).take 0++eS y++(bW x (.ptr b 0)).drop (0+9)=bW ⟨y.1,y.2,some y⟩ (.ptr b 0):=by
   rw[yu,zx,bW,show 0+9=8+1 from rfl,JP a,eS,zm];rfl
  rw[zw,D]at s
  by_cases i:x.rs=y.1/\x.pc=y.2
  .have E:x.restore=x:=by rw[e,<-i.1,<-i.2,<-q]
   rw[E];simp only[aa,bc,RY,aA,iG h,q,Option.isSome,XT g a,r,u,NF a d.r8,xb i.1,A,B,xb i.2];exact⟨h.same,Fr.refl _⟩
  .rw [e];have fin:Lr H o f ⟨y.1,y.2,some y⟩ (H.set f (OR (bW ⟨y.1,y.2,some y⟩ (.ptr b 0)) ED)):=⟨h.row g (q▸m) d q.symm,cE ..⟩
   by_cases z:x.rs=y.1
   .have F:¬x.pc=y.2:=λ w=>i ⟨z,w⟩;simp only[aa,bc,RY,aA,iG h,q,Option.isSome,XT g a,r,u,NF a d.r8,xb z,A,B,F,C,s];exact fin
   .simp only[aa,bc,RY,aA,iG h,q,Option.isSome,XT g a,r,u,NF a d.r8,z,C,s];exact fin
end
end Go.Am
namespace Go.Am
open Lang Go.Proofs
variable{M:ak}[MK M]
def iC(x:Int):AV:=.int .i64 x
def dF(x:La):List AV:=x.fG.map iC++(iC x.lane::(x.iZ.map iC ++ [.bool true]))
structure LaW(x:La):Prop where
 b5:x.fG.length=5
 c5:x.iZ.length=5
 l0:0<=x.lane
 l4:x.lane<=4
 b4:x.fG.getD 4 0≠0
structure kT(H:ar)(l:Nat)(x:La):Prop where
 w:LaW x
 at':At H l y9 (dF x)
section
variable{H H':ar}{l:Nat}{x:La}
def kT.fr{W:Nat->Prop}(h:kT H l x)(a:Fr W H H')(hw:¬W l):kT H' l x:=⟨h.w,h.at'.fr a hw⟩
def kT.em(h:kT H l x)(a:Fr Em H H'):kT H' l x:=h.fr a id
def Qp(h:kT H l x){k:Nat}(hk:k<5):Op.ae [.ptr l k] H=some (iC (x.fG.getD k 0)):=by
 rw[h.at'.ld,dF,je (by simp[h.w.b5];exact hk),xj,zy];have:k<x.fG.length:=by rw[h.w.b5];exact hk
 rw[qt this];rfl
def iv(h:kT H l x):Op.ae [.ptr l 5] H=some (.int .i64 x.lane):=by
 rw[h.at'.ld,dF,zh (by simp[h.w.b5])];simp[h.w.b5,iC]
def P5(h:kT H l x){k:Nat}(hk:k<5):Op.ae [.ptr l (6+k)] H=some (iC (x.iZ.getD k 0)):=by
 rw[h.at'.ld,dF,zh (by simp[h.w.b5];omega),xm,h.w.b5,show 6+k-5=k+1 by omega,zr,je (by simp[h.w.c5];exact hk),xj,zy];have:k<x.iZ.length:=by rw[h.w.c5];exact hk
 rw[qt this];rfl
def P9(h:kT H l x):Op.ae [.ptr l 11] H=some (.bool true):=by
 rw[h.at'.ld,dF,zh (by simp[h.w.b5])];simp[h.w.b5,h.w.c5]
def NA(h:kT H l x):Op.aq 5 [.ptr l 6] H=some (.agg (x.iZ.map iC)):=by
 rw[h.at'.fm (by simp[dF,h.w.b5,h.w.c5]),dF,show 6=(x.fG.map iC).length+1 by simp[h.w.b5],QH,JD,yi,j0 (by simp[h.w.c5]),zg (by simp[h.w.c5])]
def HT(h:kT H l x){v:Int}(a:0<=v)(b:v<=4):Op.store 1 [.ptr l 5,.int .i64 v] H=some (.undef,H.set l (OR (dF {x with lane:=v}) y9))/\kT (H.set l (OR (dF {x with lane:=v}) y9)) l {x with lane:=v}:=by
 refine⟨?_,⟨h.w.b5,h.w.c5,a,b,h.w.b4⟩,h.at'.set _⟩;rw[h.at'.st 5 rfl (by simp[dF,h.w.b5]),dF,MD _ _ (by simp[h.w.b5])];simp[h.w.b5,dF,iC]
def NO(h:kT H l x){k:Nat}(hk:k<5)(v:Int):Op.store 1 [.ptr l (6+k),.int .i64 v] H=some (.undef,H.set l (OR (dF {x with iZ:=x.iZ.set k v}) y9))/\kT (H.set l (OR (dF {x with iZ:=x.iZ.set k v}) y9)) l {x with iZ:=x.iZ.set k v}:=by
 refine⟨?_,⟨h.w.b5,by simp[h.w.c5],h.w.l0,h.w.l4,h.w.b4⟩,h.at'.set _⟩;rw[h.at'.st (6+k) rfl (by simp[dF,h.w.b5,h.w.c5];omega),dF,MD _ _ (by simp[h.w.b5];omega),xm,h.w.b5,show 6+k-5=k+1 by omega,List.set_cons_succ,List.set_append_left _ _ (by simp[h.w.c5];exact hk)];simp[dF,iC,Lq]
def IE(h:kT H l x):Op.store 5 [.ptr l 6,.agg (La.jW.map iC)] H=some (.undef,H.set l (OR (dF {x with iZ:=La.jW}) y9))/\kT (H.set l (OR (dF {x with iZ:=La.jW}) y9)) l {x with iZ:=La.jW}:=by
 refine⟨?_,⟨h.w.b5,rfl,h.w.l0,h.w.l4,h.w.b4⟩,h.at'.set _⟩;rw[h.at'.gI (n:=5) rfl (by simp[dF,h.w.b5,h.w.c5]) rfl,dF,show 6=(x.fG.map iC).length+1 by simp[h.w.b5],Sz,vz,QH];simp[dF,h.w.c5,zw]
def fT(h:kT H l x):∀K,C3 M true (.func va) [.ptr l 0] H K=K true (.bool false) H:=by
 refine dP (qra ?_);simp only[aa,bc,qrb,aA,P9 h]
def ia(h:kT H l x):∀K,C3 M true (.func YW) [.ptr l 0] H K=K true (.int .i64 x.lane) H:=by
 refine dP (qq7 ?_);simp only[aa,bc,qq8,aA,fT h,iv h]
def rM(h:kT H l x):∀K,C3 M true (.func He) [.ptr l 0] H K=K true (.bool x.py) H:=by
 refine dP (qq6 ?_);unfold La.py
 by_cases q:x.lane=1
 .simp only[aa,bc,qjg,aA,fT h,iv h,q,Bool.true_or]
 .simp only[aa,bc,qjg,aA,fT h,iv h,q,Bool.false_or]
def z5:[AV.int .i64 0,.int .i64 0,.int .i64 0,.int .i64 0,.int .i64 0]=La.jW.map iC:=rfl
def PY(l:List Int):aJ (l.map iC)=true:=by rw[yn];simp[iC,av]
def Gm(h:kT H l x):zd M j3 [.ptr l 0] H λ v H'=>v=.agg (x.iZ.map iC)/\Fr Em H H':=by
 refine qow ?_;obtain⟨H1,b,d,-,-⟩:=bX H (OR (La.jW.map iC) rJ);have a:At H1 H.au rJ _:=b▸At.new H _ _
 have e:=h.em d;have s:=a.gI (k:=0) (n:=5) (v:=.agg (x.iZ.map iC)) (by rw[zw,xm];exact h.w.c5) (by decide) (by rw[zw];exact PY _);rw[zw,yu,zx,jf (by decide),zf]at s;have l2:=((a.set (x.iZ.map iC)).fm (k:=0) (n:=5) (by simp[h.w.c5]))
 rw[yi,zg (by simp[h.w.c5])]at l2;simp only[aa,bc,qox,aA,z5,<-b,fT e,NA e,s,l2];exact d.set (.inr (qg _)) _
def X2(h:kT H l x):zd M Zo [.ptr l 0] H λ v H'=>v=.int .i64 x.tries/\Fr Em H H':=by
 refine qsn ?_;simp only[aa,bc,US];refine C3.q (Gm (M:=M) h) λ v H1⟨r,j⟩=>?_;subst r;simp only[aa,bc];have u:=h.w.c5;have ix:∀{i:Nat},i<5->Op.bA 5 1 none [.agg (x.iZ.map iC),.int .i64 (i:Int)]=some (.int .i64 (x.iZ.getD i 0)):=λ{i}g=>by
  have hl:i<x.iZ.length:=by omega
  simp only[Op.bA,Ke rfl g,qm,IY,partAt,lS,xj,zy,qt hl];rfl
 refine dg.intro (λ n E d=>∃i:Nat,E=[(8,.int .i64 (i:Int)),(7,.agg (x.iZ.map iC)),(3,.int .i64 ((x.iZ.take i).foldl (λ n k=>aj .i64 (n+k)) 0)),(2,.int .i64 0),(0,.ptr l 0)]/\n=5-i/\i<=5/\d=H1) ?_ ?_
 .exact ⟨_,_,⟨0,rfl,rfl,xy _,rfl⟩,by simp only[aa,bc];rfl⟩
 rintro n E d ⟨i,rfl,rfl,g,rfl⟩;rcases xr i 5 with b|m
 .have a:(i:Int)<5:=by omega
  have s:aj .i64 ((i:Int)+1)=((i+1:Nat):Int):=by rw[jw (by omega) (by omega)];omega
  simp only[aa,bc,US,a,ix b,s];have hl:i<x.iZ.length:=by omega
  refine⟨_,_,⟨i+1,rfl,rfl,by omega⟩,?_,by omega⟩;rw[Nl,List.foldl_append,qt hl,zy,qt hl];simp only[aa,bc];rfl
 .have a:¬(i:Int)<5:=by omega
  have e:x.iZ.take i=x.iZ:=zg (by omega);simp only[aa,bc,US,a,e];exact⟨rfl,j⟩
def xV(fG:List Int)(k j:Nat):Bool:=fG.getD (k+1+j) 0 != 0
def oV(fG:List Int)(k:Nat):List (List AV):=((List.range (4-k)).filter (xV fG k)).map λ j=>[.int .i64 ((k+1+j:Nat):Int)]
def xhb{H0:ar}{p q l k:Nat}{fG:List Int}(hp:H0.get p=some (OR [.ptr l 0] P0))(hq:H0.get q=some (OR [.int .i64 (k:Int)] cN))(Z:p<H0.au)(hql:q<H0.au)(hk:k<=3) :
 tD M L6 [] [.ptr q 0,.ptr p 0] (λ z=>z=p\/z=q) (λ _=>False) (λ H=>∃y,kT H l y/\y.fG=fG) H0 (oV fG k):=by
 intro Y R S j H1 X L C D loc O hI step;obtain⟨p1,p2,p3⟩:=L p (.inl (.inl rfl));obtain⟨P,J,Q⟩:=L q (.inl (.inr rfl))
 suffices h:zd M L6 [.fn (.yield Y) [] [],.ptr q 0,.ptr p 0] H1 (M0 R S j (λ _=>False) H1 (oV fG k).length)by
  obtain⟨v,H',U,W',P,J,Q⟩:=h.elim;exact⟨v,H',W',U,P,J,Q⟩
 refine qo0 ?_;have lp:∀{d:ar},Fr j H1 d->Op.ae [.ptr p 0] d=some (.ptr l 0):=λ f=>by rw[x9 (qy (by rw[f.ah _ (by omega) p3,p2];exact hp))];rfl
 have lq:Op.ae [.ptr q 0] H1=some (.int .i64 (k:Int)):=by rw[x9 (qy (by rw[J];exact hq))];rfl
 have wk:aj .i64 ((k:Int)+1)=((k+1+0:Nat):Int):=by rw[jw (by omega) (by omega)];omega
 simp only[aa,bc,OQ,lq,wk];refine dg.intro (λ n E d=>∃(i:Nat)(V:Nat->Prop),E=[(4,.int .i64 ((k+1+i:Nat):Int)),(0,.fn (.yield Y) [] []),(1,.ptr q 0),(2,.ptr p 0)]/\n=4-k-i/\i<=4-k/\M5 R j H1 d ((List.range i).filter (xV fG k)).length V) ?_ ?_
 .exact ⟨_,_,⟨0,j,rfl,rfl,xy _,⟨C,λ b hb=>⟨D b hb,.inl hb⟩,Fr.refl _⟩⟩,by simp only[aa,bc]⟩
 rintro n E d ⟨i,V,rfl,rfl,hi,a⟩;rcases xr i (4-k)with I|W
 .have A:((k+1+i:Nat):Int)<5:=by omega
  obtain⟨y,hy,rfl⟩:=hI _ V d a.hR;have ix:Op.aP 5 1 [.ptr l 0,.int .i64 ((k+1+i:Nat):Int)]=some (.ptr l (k+1+i)):=by rw[Jj rfl (by omega)];simp
  have ls:=Qp hy (k:=k+1+i) (by omega);have T:aj .i64 (((k+1+i:Nat):Int)+1)=((k+1+(i+1):Nat):Int):=by rw[jw (by omega) (by omega)];omega
  have N:=O1 (xV y.fG k) i
  by_cases r:y.fG.getD (k+1+i) 0=0
  .have g:((List.range (i+1)).filter (xV y.fG k)).length=((List.range i).filter (xV y.fG k)).length:=by rw[N,show xV y.fG k i=false from bne_eq_false_iff_eq.2 r];simp
   simp only[aa,bc,OQ,A,lp a.fr,aA,ix,ls,iC,xb r,T];exact⟨_,_,⟨i+1,V,rfl,rfl,by omega,by rw[g];exact a⟩,by simp only[aa,bc],by omega⟩
  .have g:((List.range (i+1)).filter (xV y.fG k)).length=((List.range i).filter (xV y.fG k)).length+1:=by rw[N,show xV y.fG k i=true from bne_iff_ne.2 r];simp
   have hg:(oV y.fG k)[((List.range i).filter (xV y.fG k)).length]? = some [.int .i64 ((k+1+i:Nat):Int)]:=by
    unfold oV;rw[xj,TI _ I (show xV y.fG k i=true from bne_iff_ne.2 r)];rfl
   obtain⟨bb,K,B,hr,F,u,ht,hs⟩:=step _ _ hg V d a.hR a.hV (a.fr.mono λ _ _ q=>.inl q);have m:Fr j H1 K:=a.fr.trans F λ b q=>(a.hV b q).2;have s:∀b,B b->b<K.au/\(j b\/H1.au<=b):=λ b q=>⟨(u b q).1,(u b q).2.elim (λ w=>(a.hV b w).2) λ w=>.inr (xv a.fr.au w)⟩
   simp only[aa,bc,OQ,A,lp a.fr,aA,ix,ls,iC,r];refine C3.yE hr ?_;cases bb with
   |true =>
    simp only[aa,bc,OQ,T];exact⟨_,_,⟨i+1,B,rfl,rfl,by omega,⟨by rw[g];exact ht rfl,s,m⟩⟩,by simp only[aa,bc],by omega⟩
   |false =>
    simp only[aa,bc];exact⟨B,m.mono λ _ _ q=>.inl q,s,.inr (hs rfl)⟩
 .have A:¬((k+1+i:Nat):Int)<5:=by omega
  have G:i=4-k:=by omega
  simp only[aa,bc,OQ,A];refine⟨V,a.fr.mono λ _ _ q=>.inl q,a.hV,.inl ?_⟩;have e:(oV fG k).length=((List.range i).filter (xV fG k)).length:=by unfold oV;rw[xm,G]
  rw[e];exact a.hR
def q6y{fG:List Int}(a:fG.getD 4 0≠0){k:Nat}(hk:k<=3):(oV fG k)[0]? = some [.int .i64 (La.after fG (k:Int))]:=by
 unfold oV La.after;rw[xj];have key:∀b:Int,(b != 0)=decide (b≠0):=λ b=>by by_cases q:b=0<;>simp[q]
 rcases(by omega:k=0\/k=1\/k=2\/k=3)with rfl|rfl|rfl|rfl
 all_goals
  simp only[show List.range (4-0)=[0,1,2,3]from rfl,show List.range (4-1)=[0,1,2]from rfl,show List.range (4-2)=[0,1]from rfl,show List.range (4-3)=[0]from rfl,List.filter,xV,Nat.reduceAdd,key,ke a];generalize fG.getD 1 0=b1;generalize fG.getD 2 0=b2;generalize fG.getD 3 0=b3
  by_cases x:b1=0<;>by_cases y:b2=0<;>by_cases z:b3=0<;>simp[x,y,z]
def xH(h:kT H l x){k:Nat}(hk:k<=3):zd M Jn [.ptr l 0,.int .i64 (k:Int)] H λ _ H'=>kT H' l {x with lane:=La.after x.fG k}/\Fr (On l) H H':=by
 refine qq9 ?_;obtain⟨H1,D,Y,n1,-⟩:=bX H (OR [.ptr l 0] P0);obtain⟨m,E,F,-,-⟩:=bX H1 (OR [.ptr l 0] P0);obtain⟨A,N,s,-,g3⟩:=bX m (OR [.int .i64 (k:Int)] cN);have r:=F.em s;have O:=Y.em r;have n2:m.au=H.au+2:=by rw[E,xx,n1]
 have n3:A.au=H.au+3:=by rw[N,xx,n2]
 have g1:A.get H.au=some (OR [.ptr l 0] P0):=by rw[r.ah _ (by omega) id,D,xf]
 have g2:A.get H1.au=some (OR [.ptr l 0] P0):=by rw[s.ah _ (by omega) id,E,xf]
 have l1:Op.ae [.ptr H.au 0] H1=some (.ptr l 0):=x9 (qy (D▸xf H _)) 0;have ca:∀b,AV.cells (.ptr b 0)=[.ptr b 0]:=λ _=>rfl;have ci:∀n,AV.cells (.int .i64 n)=[.int .i64 n]:=λ _=>rfl;have op:zd M qjc [.ptr l 0,.int .i64 (k:Int)] H1 λ v H'=>v=.fn (.func L6) [] [.ptr m.au 0,.ptr H1.au 0]/\H'=A:=by
  refine qrc ?_;have mk:Op.bC L6 0 [.ptr m.au 0,.ptr H1.au 0]=some (.fn (.func L6) [] [.ptr m.au 0,.ptr H1.au 0]):=rfl;simp only[aa,bc,qrd,ca,ci,<-E,<-N];rfl
 simp only[aa,bc,lx,ca,<-D,l1];refine C3.q op λ v H'⟨S,hh⟩=>?_;subst S;subst hh;simp only[aa,bc];have J:=h.em O;have hlt:=h.at'.2;refine jC.tt (fn:=SZ) (lp:=PU) (pa:=Vs 0) (pb:=Vm 0) qp5 qhl.1 qhl.2 (by decide) qoy qoz
  (xhb (M:=M) (fG:=x.fG) g2 g3 (by omega) (by omega) hk) (λ i V B=>i=0/\kT B l x/\V l) (λ e V B=>e=.ret/\kT B l {x with lane:=La.after x.fG k}/\V l) (On l) (qg _) ?_ ?_ ?_ ?_ ?_ ?_ ?_ ?_ ?_
 .rintro z ((q|q)|q)
  .exact ⟨by omega,rfl,λ(w:z=l)=>by omega⟩
  .exact ⟨by omega,rfl,λ(w:z=l)=>by omega⟩
  .exact q.elim
 .exact λ z(K:z=l)=>by omega
 .exact ⟨rfl,J,rfl⟩
 .exact λ i V U Hb⟨L,j,u⟩hs hn=>⟨L,⟨j.w,by rw[hs l u];exact j.at'.1,qj j.at'.2 hn⟩,u⟩
 .exact λ i V U Hb⟨L,j,u⟩hs hn=>⟨L,⟨j.w,by rw[hs l u];exact j.at'.1,qj j.at'.2 hn⟩,u⟩
 .exact λ i V B⟨_,q,_⟩=>⟨_,q,rfl⟩
 .intro a i lr lb y C hL2 V g ⟨R,hP,hV⟩ hb hf6 hnL hL6 hgL;subst R;rw[q6y h.w.b4 hk]at C;injection C with C;subst C
  refine⟨_,rfl,?_⟩;obtain⟨-,wa,wb⟩:=lx M ⟨some a,Jn⟩;simp only[aa,bc,wa,Fb];refine⟨hgL,?_⟩;have P:Fr (On a) g (g.set a lb):=(Fr.refl g).set (W:=On a) (.inl rfl) _;have gL:(g.set a lb).get a=some lb:=xc ..;have nL:(g.set a lb).au=g.au:=rfl
  have T:a≠l:=λ q=>hnL (by rw[q];exact hV);have h7:kT (g.set a lb) l x:=hP.fr P (λ q:l=a=>T q.symm);have lq:Op.ae [.ptr H.au 0] (g.set a lb)=some (.ptr l 0):=by
   rw[x9 (qy (by rw[yo (by omega),hf6.ah H.au (by omega) (λ q=>q.elim (λ q:H.au=l=>by omega) id)];exact g1))];rfl
  generalize g.set a lb=H7 at *;obtain⟨a0,X⟩:0<=La.after x.fG (k:Int)/\La.after x.fG (k:Int)<=4:=by unfold La.after;repeat' split<;>omega
  obtain⟨s8,h8⟩:=HT h7 a0 X;simp only[aa,bc,wb,lq,aA,s8];have Z:Fr (On l) H7 (H7.set l (OR (dF {x with lane:=La.after x.fG k}) y9)):=cE ..;refine⟨rfl,by rw[yo (λ q=>T q.symm)];exact gL,V,λ z K=>⟨by have:=(hb z K).1;rw[sT,nL];exact this,.inl K⟩,(P.mono λ z _ q=>.inr q).trans Z λ z(q:z=l)=>.inl (.inl (by rw[q];exact hV)),.inr ⟨trivial,rfl,h8,hV⟩⟩
 .rintro d V H' hd I hg Q hV ⟨R,-⟩;exfalso;have:=(qk.1 (q6y h.w.b4 hk)).1;omega
 .rintro e d V H' he hd I hg Q hV ⟨rfl,hl,S⟩;have G:d≠l:=λ q=>by omega
  have fd:Fr (On d) H' (H'.set d (.deferred none)):=(Fr.refl H').set (W:=On d) (.inl rfl) _;simp only[aa,bc];refine⟨hg,hl.fr fd (λ q:l=d=>G q.symm),?_⟩;exact((O.mono (W':=On l) λ _ _ q=>q.elim).trans (Q.mono λ z _ q=>q.elim id False.elim) λ z q=>.inl q).trans fd λ z(q:z=d)=>.inr (by omega)
def Qy(H:ar)(l:Nat)(y:La)(H':ar):Prop:=kT H' l y/\Fr (On l) H H'
def Lp(h:kT H l x):zd M Z0 [.ptr l 0] H λ _ H'=>Qy H l x.leave H':=by
 refine qp4 ?_;unfold La.leave
 by_cases q:x.lane=0
 .rw [qr q];simp only[aa,bc,hY,aA,fT h,iv h,xb q];exact⟨h,Fr.refl _⟩
 .rw [qo q];obtain⟨s1,b⟩:=HT h (v:=0) (by decide) (by decide);obtain⟨s2,d⟩:=IE b;have a:Op.build [.int .i64 0,.int .i64 0,.int .i64 0,.int .i64 0,.int .i64 0] [] []=some (.agg (La.jW.map iC)):=rfl;simp only[aa,bc,hY,aA,fT h,iv h,q,a,s1,s2];exact⟨d,(cE ..).trans (cE ..) λ z q=>.inl q⟩
def LP(h:kT H l x):zd M Zw [.ptr l 0] H λ _ H'=>Qy H l x.enter H':=by
 refine qp3 ?_;unfold La.enter
 by_cases q:x.lane=0
 .rw [qr q];obtain⟨s2,e⟩:=IE h;have b:Op.build [.int .i64 0,.int .i64 0,.int .i64 0,.int .i64 0,.int .i64 0] [] []=some (.agg (La.jW.map iC)):=rfl;simp only[aa,bc,qiq,aA,fT h,iv h,xb q,b,s2];refine C3.q (xH (M:=M) e (k:=0) (by decide)) λ v g⟨a,d⟩=>?_;simp only[aa,bc,aA,iv a];exact⟨a,(cE ..).trans d λ z q=>.inl q⟩
 .rw [qo q];simp only[aa,bc,qiq,aA,fT h,iv h,q];exact⟨h,Fr.refl _⟩
def J3(h:kT H l x)(c:Int):zd M lL [.ptr l 0,.int .i64 c] H λ _ H'=>Qy H l (x.abort c) H':=by
 refine qp2 ?_;unfold La.abort;have U:=h.w.l0;have V:=h.w.l4
 by_cases g:x.lane=0
 .rw [qr (.inl g)];simp only[aa,bc,ju,aA,fT h,iv h,xb g];exact⟨h,Fr.refl _⟩
 by_cases i:x.lane=4
 .rw [qr (.inr (.inl i))];simp only[aa,bc,ju,aA,fT h,iv h,g,xb i];exact⟨h,Fr.refl _⟩
 by_cases n:c<1
 .rw [qr (.inr (.inr (.inl n)))];simp only[aa,bc,ju,aA,fT h,iv h,g,i,n];exact⟨h,Fr.refl _⟩
 by_cases s:8<c
 .rw [qr (.inr (.inr (.inr (.inl s))))];simp only[aa,bc,ju,aA,fT h,iv h,g,i,n,s];exact⟨h,Fr.refl _⟩
 by_cases A:c=7
 .rw [qr (.inr (.inr (.inr (.inr A))))];simp only[aa,bc,ju,aA,fT h,iv h,g,i,n,s,xb A];exact⟨h,Fr.refl _⟩
 rw[qo (by omega)];obtain⟨k,hk⟩:=z4 U;have E:k<=3:=by omega
 have ix:∀o,Op.aP 5 1 [.ptr l o,.int .i64 x.lane]=some (.ptr l (o+k)):=λ o=>by rw[hk,Jj rfl (by omega)];simp
 have lc:=P5 h (k:=k) (by omega);obtain⟨s1,d⟩:=NO h (k:=k) (by omega) (aj .i64 (x.iZ.getD k 0+1));have N:x.lane.toNat=k:=by omega
 have T:x.count=x.iZ.getD k 0:=by unfold La.count;rw[N]
 obtain⟨y,F⟩:∃y:La,y = {x with iZ:=x.iZ.set k (aj .i64 (x.iZ.getD k 0+1))}:=⟨_,rfl⟩
 rw[<-F]at d s1;rw[T,N];simp only[<-F];have Q:y.lane=x.lane:=by rw[F]
 have I:y.fG=x.fG:=by rw[F]
 have P:y.iZ=x.iZ.set k (aj .i64 (x.iZ.getD k 0+1)):=by rw[F]
 have J:y.py=x.py:=by unfold La.py;rw[Q]
 have S:Fr (On l) H (H.set l (OR (dF y) y9)):=cE ..
 by_cases C:x.py=true/\c=3
 .rw [qr C];simp only[aa,bc,ju,aA,fT h,iv h,g,i,n,s,A,ix,lc,iC,s1,rM d,J,xb C.2,C.1];refine C3.q (xH (M:=M) d (k:=2) (by decide)) λ v B⟨e,D⟩=>?_;simp only[aa,bc,ju,aA,iv e];rw[I,P]at e;exact⟨e,S.trans D λ z q=>.inl q⟩
 rw[qo C];have K:=(iv d).trans (by rw[Q]);have m:=P5 d (k:=k) (by omega);have j:=Qp d (k:=k) (by omega);have R:y.count=y.iZ.getD k 0:=by unfold La.count;rw[Q,N]
 have O:=ix 0;rw[j4]at O;have cont:C3 M true (.func Jn) [.ptr l 0,.int .i64 x.lane] (H.set l (OR (dF y) y9))=C3 M true (.func Jn) [.ptr l 0,.int .i64 (k:Int)] (H.set l (OR (dF y) y9)):=by rw[hk]
 have fin:∀{z:La}{B:ar},kT B l z->Fr (On l) (H.set l (OR (dF y) y9)) B->Qy H l z B:=λ a b=>⟨a,S.trans b λ z q=>.inl q⟩
 by_cases L:y.count=x.fG.getD k 0
 .rw [qr L];have G:y.iZ.getD k 0=y.fG.getD k 0:=by rw[<-R,L,I]
  by_cases r:x.py=true
  .have u:¬c=3:=λ w=>C ⟨r,w⟩;simp only[aa,bc,ju,aA,fT h,iv h,g,i,n,s,A,ix,lc,iC,s1,rM d,J,r,u,K,m,j,xb G,cont];refine C3.q (xH (M:=M) d (k:=k) E) λ v B⟨e,D⟩=>?_;simp only[aa,bc,ju,aA,iv e];rw[I,<-hk,P]at e;exact fin e D
  .rw [Bool.not_eq_true]at r;simp only[aa,bc,ju,aA,fT h,iv h,g,i,n,s,A,ix,lc,iC,s1,rM d,J,r,K,m,j,xb G,cont];refine C3.q (xH (M:=M) d (k:=k) E) λ v B⟨e,D⟩=>?_;simp only[aa,bc,ju,aA,iv e];rw[I,<-hk,P]at e;exact fin e D
 .rw [qo L];have G:¬y.iZ.getD k 0=y.fG.getD k 0:=λ w=>L (by rw[R,w,I])
  by_cases r:x.py=true
  .have u:¬c=3:=λ w=>C ⟨r,w⟩;simp only[aa,bc,ju,aA,fT h,iv h,g,i,n,s,A,ix,lc,iC,s1,rM d,J,r,u,K,m,j,G];exact fin d (Fr.refl _)
  .rw [Bool.not_eq_true]at r;simp only[aa,bc,ju,aA,fT h,iv h,g,i,n,s,A,ix,lc,iC,s1,rM d,J,r,K,m,j,G];exact fin d (Fr.refl _)
end
end Go.Am
