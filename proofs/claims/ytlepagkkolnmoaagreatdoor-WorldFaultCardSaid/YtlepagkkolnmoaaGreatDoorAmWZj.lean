import Derived.Test.YtlepagkkolnmoaaGreatDoorAmWZi
import Derived.Test.YtlepagkkolnmoaaGreatDoorAmWZg
import Derived.Test.YtlepagkkolnmoaaGreatDoorAmWZf
set_option linter.defProp false
set_option linter.unusedVariables false
set_option linter.unusedSimpArgs false
set_option linter.unusedSectionVars false
set_option maxRecDepth 100000
open Bool renaming false→B2,true→B4
open False renaming elim→OH
open Go renaming IntKind→Pl
open Int renaming reduceEq→Sp
open List renaming range→N1,replicate→JV
open Nat renaming beq→J3
open Option renaming isSome→BL,none→B5,some→B1
open Nat renaming reduceEqDiff→bc
namespace Go.Am
open Go.Proofs Ca
open Lang (ints)
variable{M:ak}[MK M]
def pL(l s w:Int)(k:Nat):List No:=(N1 k).map λ(i:Nat)=>pM (i:Int) l s w
def fN(l c s w:Int):Bu:=⟨JV l.toNat .zero,JV l.toNat jE,pL l s w c.toNat,[]⟩
def rH(l c s w:Int):Prop:=yR l c/\sy s w
instance(l c s w:Int):Decidable (rH l c s w):=inferInstanceAs (Decidable (_/\_))
def TD{l s w:Int}{k i:Nat}{n:No}(h:(pL l s w k)[i]? = B1 n):i<k/\n=pM (i:Int) l s w:=by
 unfold pL at h;rw[xk,xm]at h;have⟨j,a,e⟩:=h;have hk:=(qo.1 a).1;rw[jf]at hk;rw[jp hk]at a;cases a;exact⟨hk,e.symm⟩
def QU(l s w:Int)(k:Nat):(pL l s w k).length=k:=by unfold pL;rw[xu,jf]
structure K1(H0 H:ar)(B D mp:Nat)(lv ev nv:AV)(l c s w:Int)(ad:List Na)(own:Nat->Nat):Prop where
 row:H.get B=B1 (OR [.ptr D 0,nv,.nils,.int .i64 l] Mf)
 lt:B<H.au
 d:mK H D mp lv ev c (JV l.toNat .zero) (JV l.toNat (jE,.nils))
 Zv:aU po MZ 1 H nv (ad.map Na.r)
 no:∀(k:Nat)(A:Na),ad[k]? = B1 A->dc H0 H A.r A.b A.sv A.bv (pM (k:Int) l s w) A.ks
 oB:own B=0
 oD:∀z,mH D mp lv ev (JV l.toNat (jE,.nils)) z->own z=1
 oN:∀z,aN nv z->own z=2
 oC:∀(k:Nat)(A:Na),ad[k]? = B1 A -> ∀z,A.w z->own z=4+k
 O3:H0.au<=B
 loD:∀z,mH D mp lv ev (JV l.toNat (jE,.nils)) z->H0.au<=z
 PU:∀z,aN nv z->H0.au<=z
 fr:Fr Em H0 H
def dc.base{H0 H1 H:ar}{r b:Nat}{sv bv:AV}{n:No}{ks:List Nat}(h:dc H1 H r b sv bv n ks)(f:Fr Em H0 H1):dc H0 H r b sv bv n ks:=by
 have hn:=f.au;refine⟨h.row,h.lt,h.ca,⟨?_,f.trans h.bk.fr λ _ q=>.inl q⟩,h.eq,ze hn h.lr,ze hn h.lb,ze hn h.ls,h.n1,h.n2,h.o1,h.o2,h.o3,h.li,h.len⟩;rcases h.bk.own with q|⟨b,m,rest,a,d,e,g⟩
 .exact .inl q
 .exact .inr ⟨b,m,rest,a,d,ze hn e,g⟩
def dc.all{H0 H:ar}{r b:Nat}{sv bv:AV}{n:No}{ks:List Nat}(h:dc H0 H r b sv bv n ks){z:Nat}(a:iK r b sv bv z):H0.au<=z:=by
 rcases a with rfl|(rfl|rfl)|a
 .exact h.lr
 .exact h.lb
 .exact h.ls
 .exact (h.bk.fresh z a).1
section
variable{H0 H:ar}{B D mp:Nat}{lv ev nv:AV}{l c s w:Int}{ad:List Na}{own:Nat->Nat}
def K1.step(h:K1 H0 H B D mp lv ev nv l c s w ad own)(R:ad.length<=4){H1:ar}{A:Na}(G:dc H H1 A.r A.b A.sv A.bv (pM (ad.length:Int) l s w) A.ks){K:bC->(Nat->AV)->Bool->AV->ar->Prop}
 (hk:∀v j,(∃I,Op.store 1 [.ptr B 1,v] j=B1 (.undef,I)/\(∃F,K1 H0 I B D mp lv ev v l c s w (ad ++ [A]) F)/\Fr (λ z=>z=B\/aN nv z) H I /\ ∀z,aN v z->aN nv z\/H.au<=z)->K (.row [.ptr A.r 0] MZ (0,0) B4) (Op.sliceTo 1 1) B4 v j) :
 jO B4 (Op.buildSlice MZ 1 [.nilp] [(0,1)] [.ptr A.r 0]) λ g o mk=>jO g (Op.append MZ 1 8 [nv,mk H1.au] (H1.alloc o)) (K o mk):=by
 have m:Fr Em H H1:=G.bk.fr;have S:=m.au;refine nG (e:=MZ) (size:=1) (bytes:=8) (Own.em h.Zv m) (x:=.ptr A.r 0) rfl rfl rfl (by decide) (by rw[xu];omega) (by rw[xu];omega) λ v j N E L=>?_;refine hk v j ?_;have low:∀z,(z=B\/mH D mp lv ev (JV l.toNat (jE,.nils)) z\/aN nv z \/ ∃k i,ad[k]? = B1 i/\Na.w i z)->z<H.au:=λ z f=>by
  rcases f with rfl|f|f|⟨k,i,a,f⟩
  .exact h.lt
  .exact h.d.low f
  .exact Own.lt h.Zv z f
  .exact (h.no k i a).low f
 have ne:∀{z k:Nat},own z=k->k≠2 -> ¬aN nv z:=λ e1 e2 q=>e2 (by rw[<-e1];exact h.oN _ q);have Q:j.get B=B1 (OR [.ptr D 0,nv,.nils,.int .i64 l] Mf):=by
  rw[E.ah _ (by have:=h.lt;omega) (ne h.oB (by decide)),m.ah _ h.lt id];exact h.row
 have o1:az v=true:=by have:=Sl.one (Own.sl N);exact this
 have J:v.cells=[v]:=by cases v<;>first|rfl|cases o1
 have st:=wW Q (o:=1) (n:=1) (v:=v) (by rw[J];rfl) (by simp) (by rw[J,vz];simpa using o1);rw[J]at st;have T:=E.au;have C:Fr (On B) j (j.set B (OR ([AV.ptr D 0,nv,.nils,.int .i64 l].take 1 ++ [v] ++ [AV.ptr D 0,nv,.nils,.int .i64 l].drop (1+1)) Mf)):=(Fr.refl j).set (W:=On B) (.inl rfl) _;have P:H0.au<=H.au:=h.fr.au;have O:∀{z k:Nat},own z=k->k≠0 -> ¬z=B:=λ e1 e2 q=>e2 (by rw[<-e1,q];exact h.oB);have t:∀z,aN v z->(aN nv z/\z<H.au)\/H1.au<=z:=λ z f=>(L z f).elim (λ q=>.inl ⟨q,low z (.inr (.inr (.inl q)))⟩) .inr;have u:Fr (aN nv) H j:=(m.mono λ _ _ q=>q.elim).trans E λ z q=>.inl q;have p:∀z,A.w z->H.au<=z/\z<H1.au:=λ z f=>⟨G.all f,G.low f⟩
 refine⟨_,st,⟨(λ z=>if z<H.au then own z else if z<H1.au then 4+ad.length else 2),xj ..,?_,?_,?_,λ k i a=>?_,?_,λ z f=>?_,λ z f=>?_,λ k i a z f=>?_,h.O3,h.loD,λ z f=>?_,?_⟩,(u.mono λ z _ q=>.inr q).trans C λ z(q:z=B)=>.inl (.inl q),λ z f=>(t z f).elim (λ q=>.inl q.1) λ q=>.inr (by omega)⟩
 .have:=h.lt;show B<j.au;omega
 .exact (h.d.fr u λ z q w=>ne (h.oD z w) (by decide) q).fr C λ z q w=>O (h.oD z w) (by decide) q
 .have ow:aU po MZ 1 j v ((ad ++ [A]).map Na.r):=by
   rw[FD];unfold aU;rw[xe,ym];exact N
  refine Own.fr ow C λ z f(q:z=B)=>?_;rcases t z f with⟨w,-⟩|w
  .exact O (h.oN z w) (by decide) q
  .have:=h.lt;omega
 .by_cases e:k<ad.length
  .rw [jq e]at a;refine((h.no k i a).off u λ z w=>⟨h.PU z w,λ w2=>?_⟩).off C λ z w=>?_
   .have:=h.oC k i a z w2;have:=h.oN z w;omega
   .have w:z=B:=w;refine⟨by rw[w];exact h.O3,λ w2=>?_⟩;have:=h.oC k i a z w2;rw[w,h.oB]at this;omega
  .have hk:=(qo.1 a).1;rw[xe]at hk;have y:k=ad.length:=by simp only[zq,yx]at hk;omega
   subst y;rw[zu (qm _),Nat.sub_self]at a;cases a;refine((G.base h.fr).off E λ z w=>⟨h.PU z w,λ w2=>?_⟩).off C λ z w=>?_
   .have:=p z w2;have:=low z (.inr (.inr (.inl w)));omega
   .have w:z=B:=w;refine⟨by rw[w];exact h.O3,λ w2=>?_⟩;have:=p z w2;have:=h.lt;omega
 .rw [xb h.lt];exact h.oB
 .rw [xb (low z (.inr (.inl f)))];exact h.oD z f
 .rcases t z f with⟨w,w2⟩|w
  .rw [xb w2];exact h.oN z w
  .rw [qt (by omega),qt (by omega)]
 .by_cases e:k<ad.length
  .rw [jq e]at a;rw[xb (low z (.inr (.inr (.inr ⟨k,i,a,f⟩))))];exact h.oC k i a z f
  .have hk:=(qo.1 a).1;rw[xe]at hk;have y:k=ad.length:=by simp only[zq,yx]at hk;omega
   subst y;rw[zu (qm _),Nat.sub_self]at a;cases a;have:=p z f;rw[qt (by omega),xb this.2]
 .rcases t z f with⟨w,-⟩|w
  .exact h.PU z w
  .omega
 .exact ((h.fr.trans m λ _ q=>.inl q).trans E λ z q=>.inr (h.PU z q)).trans C λ z(q:z=B)=>.inr (by rw[q];exact h.O3)
def K1.done(h:K1 H0 H B D mp lv ev nv l c s w ad own)(hl:ad.length=c.toNat)(f:0<=c)(e:0<=l):fm H0 H B ⟨D,mp,lv,ev,JV l.toNat (jE,.nils),nv,.nils,ad⟩ (fN l c s w) own:=by
 have hlen:((fN l c s w).ns.length:Int)=c:=by show((pL l s w c.toNat).length:Int)=c;rw[QU];omega
 refine⟨?_,h.lt,?_,?_,h.Zv,λ k n A hn b=>?_,?_,Sk.nil _,h.oB,h.oD,h.oN,λ z q=>absurd rfl q.1,h.oC,λ z a=>?_⟩
 .rw [h.row];have:((fN l c s w).l.length:Int)=l:=by show((JV l.toNat jE).length:Int)=l;rw[je];omega
  rw[this]
 .rw [hlen];exact h.d
 .show (JV l.toNat (jE,AV.nils)).map Prod.fst=JV l.toNat jE;rw[List.map_replicate]
 .obtain ⟨-,rfl⟩:=TD hn;exact h.no k A b
 .show ad.length=(pL l s w c.toNat).length;rw[QU,hl]
 .rcases a with rfl|a|a|a|⟨k,A,b,a⟩
  .exact h.O3
  .exact h.loD z a
  .exact h.PU z a
  .exact absurd rfl a.1
  .exact (h.no k A b).all a
end
end Go.Am
namespace Go.Am
open Ca
def HN{N l:Int}(b:0<=N)(a:N<=4):XI jE N l:=⟨⟨a,⟨by decide,by show(-1:Int)<N;omega⟩,by decide,by decide,λ c _ _ q=>(by have q:hb 0 c=1:=q;rw[p_]at q;cases q),λ m hm=>(nomatch hm)⟩,λ q=>absurd rfl q⟩
def ad5{l c s w:Int}{m:List L8}{V:Int->L8}(h:rH l c s w)(hm:m.length=l.toNat):BuI {fN l c s w with m:=m} V:=by
 obtain⟨⟨⟨l0,l1⟩,e,f⟩,hs⟩:=h;have a:(fN l c s w).ns.length=c.toNat:=QU ..;have b:((fN l c s w).l.length:Int)=l:=by show((JV l.toNat jE).length:Int)=l;rw[je];omega
 refine⟨by show(fN l c s w).ns.length<=4;rw[a];omega,by show m.length=(JV l.toNat jE).length;rw[hm,je],λ k n hn=>?_,λ m hm=>(nomatch hm),λ i x d=>?_⟩
 .obtain ⟨hk,rfl⟩:=TD hn;exact⟨af2 (cores:=c) ⟨hs,by omega,by omega,by omega,l0,l1⟩,rfl,b.symm⟩
 .rw [M0 (show x∈JV l.toNat jE from zj d)];exact HN (by omega) (by show((fN l c s w).ns.length:Int)<=4;rw[a];omega)
structure Bt where
 k:Int
 c:Int
 n:Int
 v:Int
 o:Int
def No.call(n:No)(x:Bt):No×List Mg :=
 if x.k=0 then((n.load x.n).1,(n.load x.n).2.2.2.1)
 else if x.k=1 then((n.store x.n x.v).1,(n.store x.n x.v).2.2.1)
 else if x.k=2 then n.nj x.n x.o x.v
 else if x.k=3 then(n.begin,[])
 else if x.k=4 then(n.bn,[])
 else if x.k=5 then((n.abort x.n).1,[])
 else if x.k=6 then n.da x.n
 else(n,[])
def Bu.step(b:Bu)(x:Bt):Bu :=
 if x.k=7 then if 0<=x.n/\x.n<b.fl.length then b.uE x.n.toNat else b
 else if 0<=x.c then match b.ns[x.c.toNat]? with
  |none=>b
  |some n=>b.put x.c.toNat (n.call x)
 else b
def Rv{b:Bu}{V:Int->L8}(h:BuI b V)(i:Nat):BuI (b.uE i) V:=by
 unfold Bu.uE;cases hm:b.fl[i]? with
 |none=>exact h
 |some m =>
  have he:∀o∈b.fl.eraseIdx i,o∈b.fl:=λ o q=>List.mem_of_mem_eraseIdx q;obtain⟨mk,e,ml⟩:=h.mw m (zj hm);simp only
  by_cases g:m.k<=7
  .rw [xb g];obtain⟨x,w,f,hw,u⟩:=h.entry ml.1 ml.2;rw[f,hw];obtain⟨a,o⟩:=I5 (w:=w) u e rfl;have hl:=(qo.1 f).1;refine⟨h.N4,by simp only[xq];exact h.ml,λ c n hn=>by simp only[xq];exact h.nw c n hn,λ y d=>?_,λ j y d=>?_⟩
   .simp only[xq];rcases z6.1 d with q|q
    .exact h.mw y (he y q)
    .obtain ⟨p,r,t⟩:=o y q;exact⟨.inr p,r,by rw[t];exact ml⟩
   .have d:(b.l.set m.line.toNat (x.bO w m).1)[j]? = B1 y:=d
    by_cases q:j=m.line.toNat
    .subst q;rw[xy hl]at d;injection d with d;subst d
     rw[Kv ml.1];exact a
    .rw [xz (mO q)]at d;exact h.xs j y d
  .rw [qt g];obtain⟨n,hn,w⟩:=h.core e.1 e.2;rw[hn];exact h.node hn (w.ni.bO m) (No.GO w.ni m) he
def Cp{b:Bu}{V:Int->L8}(h:BuI b V)(x:Bt):BuI (b.step x) V:=by
 unfold Bu.step;split
 .split
  .exact Rv h _
  .exact h
 split
 .cases hn:b.ns[x.c.toNat]? with
  |none=>exact h
  |some n =>
   have w:=(h.nw _ n hn).ni;simp only;unfold No.call;split;· exact h.call hn (w.load _) (No.GU _)
   split;· exact h.call hn (w.store _ _) (No.BS _ _)
   split;· exact h.call hn (w.nj _ _ _) (No.My _ _ _)
   split;· exact h.call hn (show n.begin.NI by unfold No.begin;split;exact w;exact⟨w.ci,λ q=>by cases q⟩) No.Es
   split;· exact h.call hn (show n.bn.NI by unfold No.bn;split;exact⟨w.ci.bn,λ _=>w.ci.G8⟩;exact w) No.Ac
   split;· exact h.call hn (show(n.abort x.n).1.NI by unfold No.abort;(repeat' split)<;>first|exact w|exact w.iW _) (No.EJ _)
   split;· exact h.call hn (w.da _) (No.Ib w _)
   rw[Dq hn];exact h
 .exact h
structure BC(b:Bu)(k:Nat):Prop where
 fl:b.fl.length<=5*k
 no:∀(c:Nat)n,b.ns[c]? = B1 n->n.aK.length<=k/\n.c.us<=2*(k:Int)
 wt:∀x∈b.l,x.wt.length<=k
def BC.mono{b:Bu}{k k':Nat}(h:BC b k)(hk:k<=k'):BC b k':=⟨ze h.fl (by omega),λ c n hn=>by have:=h.no c n hn;omega,λ x a=>ze (h.wt x a) hk⟩
def BC.bb{b:Bu}{V:Int->L8}{k:Nat}(h:BC b k)(hI:BuI b V)(hk:k<=100000):BB b:=⟨hI.N4,by have:=h.fl;omega,λ c n hn=>by have:=h.no c n hn;exact⟨(hI.nw c n hn).ni,by omega,by omega⟩⟩
def Du{l c s w:Int}:BC (fN l c s w) 0:=by
 refine⟨qm _,λ k n hn=>?_,λ x a=>?_⟩
 .obtain ⟨-,rfl⟩:=TD hn;exact⟨qm _,vJ _⟩
 .rw [M0 (show x∈JV l.toNat jE from a)];exact qm _
def Rt{b:Bu}{k c:Nat}{n n':No}{o:List Mg}(h:BC b k)(hn:b.ns[c]? = B1 n)(hb:Bd n n')(ho:o.length<=5):BC (b.put c (n',o)) (k+1):=by
 have hl:=(qo.1 hn).1;refine⟨?_,λ d y a=>?_,λ x e=>Nat.le_succ_of_le (h.wt x e)⟩
 .show (b.fl++o).length<=_;rw[xe];have:=h.fl;omega
 .have a:(b.ns.set c n')[d]? = B1 y:=a
  by_cases q:d=c
  .rw [q,xy hl]at a;cases a;have⟨f,g⟩:=hb;have:=h.no c n hn;omega
  .rw [xz (mO q)]at a;have:=h.no d y a;omega
def xgu(x:De)(w:L8):(x.dX w).1.wt=x.wt:=by
 unfold De.dX
 repeat' split
 all_goals rfl
def xge(x:De)(n:Mg)(w:L8):(x.begin n w).1.wt=x.wt:=by
 unfold De.begin;split
 .rfl
 .split
  .exact xgu _ w
  .rfl
def Ty(x:De)(w:L8)(q:Prop)[Decidable q](r:List Mg):(x.vO w q r).1.wt=x.wt:=by
 unfold De.vO;split
 .exact xgu x w
 .rfl
def Ix(x:De)(w:L8)(m:Mg):(x.bO w m).1.wt.length<=x.wt.length+1:=by
 unfold De.bO;split;· exact ke _
 split
 .split
  .simp
  .rw [xge];exact ke _
 split;· rw[Ty];show x.wt.length<=_;omega
 split;· rw[Ty];show x.wt.length<=_;omega
 split;· rw[Ty];show x.wt.length<=_;omega
 split;· rw[Ty];show x.wt.length<=_;omega
 cases h:x.wt with
 |nil=>simp[h]
 |cons n r=>simp only;rw[xge];simp only[zq];omega
def LD(n:No)(x:Bt):Bd n (n.call x).1/\(n.call x).2.length<=5:=by
 unfold No.call;split;· exact⟨Gs n _,ze (xgy n _) (by decide)⟩
 split;· exact⟨Ee n _ _,ze (xdq n _ _) (by decide)⟩
 split;· exact⟨M3 n _ _ _,ze (V2 n _ _ _) (by decide)⟩
 split
 .refine ⟨?_,x9 _⟩;show Bd n n.begin;unfold No.begin;split<;>exact⟨by show n.aK.length<=_;omega,by show n.c.us<=_;omega⟩
 split
 .refine ⟨?_,x9 _⟩;show Bd n n.bn;unfold No.bn;split<;>exact⟨by show n.aK.length<=_;omega,by show n.c.us<=_;omega⟩
 split
 .refine ⟨?_,x9 _⟩;show Bd n (n.abort _).1;unfold No.abort;repeat' split
  all_goals exact⟨by show n.aK.length<=_;omega,by show n.c.us<=_;omega⟩
 split;· exact⟨Gp n _,ze (xbx n _) (by decide)⟩
 exact⟨Bd.refl n,x9 _⟩
def OT{b:Bu}{k:Nat}(h:BC b k)(i:Nat):BC (b.uE i) (k+1):=by
 unfold Bu.uE;cases hm:b.fl[i]? with
 |none=>exact h.mono (ke k)
 |some m =>
  have g:=h.fl;have he:(b.fl.eraseIdx i).length<=b.fl.length:=List.length_eraseIdx_le ..;simp only
  by_cases f:m.k<=7
  .rw [xb f];cases e:b.l[m.line.toNat]? with
   |none=>exact h.mono (ke k)
   |some x =>
    cases hw:b.m[m.line.toNat]? with
    |none=>exact h.mono (ke k)
    |some w =>
     refine⟨?_,λ c n hn=>by have:=h.no c n hn;omega,λ y a=>?_⟩
     .show (b.fl.eraseIdx i++(x.bO w m).2.2).length<=_;rw[xe];have:=xca x w m;omega
     .have a:y∈b.l.set m.line.toNat (x.bO w m).1:=a;rcases List.mem_or_eq_of_mem_set a with q|rfl
      .exact Nat.le_succ_of_le (h.wt y q)
      .have:=Ix x w m;have:=h.wt x (zj e);omega
  .rw [qt f];cases hn:b.ns[m.core.toNat]? with
   |none=>exact h.mono (ke k)
   |some n =>
    have hl:=(qo.1 hn).1;refine⟨?_,λ d y a=>?_,λ x e=>Nat.le_succ_of_le (h.wt x e)⟩
    .show (b.fl.eraseIdx i++(n.bO m).2).length<=_;rw[xe];have:=xgw n m;omega
    .have a:(b.ns.set m.core.toNat (n.bO m).1)[d]? = B1 y:=a
     by_cases q:d=m.core.toNat
     .rw [q,xy hl]at a;cases a;have⟨j,o⟩:=Is n m;have:=h.no _ n hn;omega
     .rw [xz (mO q)]at a;have:=h.no d y a;omega
def DM{b:Bu}{k:Nat}(h:BC b k)(x:Bt):BC (b.step x) (k+1):=by
 unfold Bu.step;split
 .split
  .exact OT h _
  .exact h.mono (ke k)
 split
 .cases hn:b.ns[x.c.toNat]? with
  |none=>exact h.mono (ke k)
  |some n=>have⟨a,d⟩:=LD n x;exact Rt h hn a d
 .exact h.mono (ke k)
end Go.Am
namespace Go.Am
open Lang
structure Pr where
 a:Int
 v:Int
def dk(l:List Pr)(a:Int):Option Int:=match l with
 |[]=>B5
 |x::r=>if x.a=a then B1 x.v else dk r a
def fG(l:List Pr)(a v:Int):List Pr:=match l with
 |[]=>[⟨a,v⟩]
 |x::r=>if x.a=a then⟨a,v⟩::r else x::fG r a v
structure Fi where
 rs:List Int
 pc:Int
 pt:Option (List Int×Int)
namespace Fi
def set(f:Fi)(i v:Int):Fi:=if 0<=i/\i<8 then{f with rs:=f.rs.set i.toNat v}else f
def jump(f:Fi)(pc:Int):Fi:=if pc<0 then f else{f with pc:=pc}
def save(f:Fi):Fi:={f with pt:=B1 (f.rs,f.pc)}
def restore(f:Fi):Fi:=match f.pt with
 |some (r,p)=>{f with rs:=r,pc:=p}
 |none=>f
def drop(f:Fi):Fi:={f with pt:=B5}
end Fi
structure La where
 fT:List Int
 lane:Int
 jP:List Int
namespace La
def kZ:List Int:=[0,0,0,0,0]
def after(fT:List Int)(l:Int):Int:=if l<1/\fT.getD 1 0≠0 then 1 else if l<2/\fT.getD 2 0≠0 then 2 else if l<3/\fT.getD 3 0≠0 then 3 else 4
def qS(x:La):Bool:=decide (x.lane=1) ||decide (x.lane=2)
def enter(x:La):La:=if x.lane=0 then{x with lane:=after x.fT 0,jP:=kZ}else x
def count(x:La):Int:=x.jP.getD x.lane.toNat 0
def abort(x:La)(code:Int):La :=
 if x.lane=0\/x.lane=4\/code<1\/8<code\/code=7 then x
 else
  let y:={x with jP:=x.jP.set x.lane.toNat (aj .i64 (x.count+1))}
  if x.qS=B4/\code=3 then{y with lane:=after x.fT 2}else if y.count=x.fT.getD x.lane.toNat 0 then{y with lane:=after x.fT x.lane}else y
def leave(x:La):La:=if x.lane=0 then x else{x with lane:=0,jP:=kZ}
def tries(x:La):Int:=x.jP.foldl (λ n k=>aj .i64 (n+k)) 0
end La
inductive K0 where
 |wait
 |left (how:Int)
 |kU (a:Int)
 |take
 |back (l:List Pr)
 |fin
inductive Nx where
 |wA (n:Int) (k:K0)
 |uP (n:Int) (k:K0)
 |xI
 |xB (k:K0)
 |look (k:K0) (g:Int) (rd:List Pr) (i:Nat)
 |again (k:K0) (g:Int)
 |xH (a:Int)
 |nR (a v:Int)
 |uy
 |Ge (k:K0)
structure Rq where
 op:Int
 a:Int
 v:Int
 o:Int
structure So where
 rd:List Pr
 wr:List Pr
 want:Rq
 au:Option Nx
 busy:Bool
 live:Bool
 aE:Bool
 snap:Int
 value:Int
 ended:Int
 points:Int
namespace So
def ask(p:So)(r:Rq)(n:Nx):So:={p with want:=r,au:=B1 n}
def count(p:So)(n:Int)(k:K0):So:=p.ask ⟨1,1,0,0⟩ (.wA n k)
def leave(p:So)(how:Int):So:=p.count 18446744073709551615 (.left how)
def tR(p:So):So:=p.ask ⟨1,0,0,0⟩ .xI
def validate(p:So)(k:K0):So:=p.ask ⟨1,0,0,0⟩ (.xB k)
def kU(p:So)(a:Int):So:=p.ask ⟨1,a,0,0⟩ (.xH a)
def take(p:So):So:=p.ask ⟨3,0,aj .u64 (p.snap+1),p.snap⟩ .uy
def back(p:So):List Pr->So
 |x::l=>p.ask ⟨2,x.a,x.v,0⟩ (.Ge (.back l))
 |[]=>p.ask ⟨2,0,aj .u64 (p.snap+2),0⟩ (.Ge .fin)
def pO(p:So)(g:Int):So:={p with snap:=g,points:=aj .i64 (p.points+1)}
def G9(p:So):K0->So
 | .wait=>p.tR
 | .left how=>{p with live:=B2,ended:=how,busy:=B2}
 | .kU a=>p.kU a
 | .take=>p.take
 | .back l=>p.back l
 | .fin=>({p with aE:=B2}:So).leave 1
def step(p:So)(k:K0)(g:Int)(rd:List Pr)(i:Nat):So:=match rd[i]? with
 |some x=>p.ask ⟨1,x.a,0,0⟩ (.look k g rd i)
 |none=>p.ask ⟨1,0,0,0⟩ (.again k g)
def ah(p:So)(a v:Int):Option (List Pr):=match dk p.rd a with
 |some _=>B1 p.rd
 |none=>if p.rd.length=128 then B5 else B1 (p.rd ++ [⟨a,v⟩])
def on(p:So)(v:Int)(ok:Bool):Nx->So
 | .wA n k=>p.ask ⟨3,1,aj .u64 (v+n),v⟩ (.uP n k)
 | .uP n k=>if ok=B4 then p.G9 k else p.count n k
 | .xI=>if v % 2=1 then p.tR else{p.pO v with live:=B4,busy:=B2}
 | .xB k=>if v % 2=1 then p.validate k else p.step k v p.rd 0
 | .look k g rd i=>if v≠(rd.getD i ⟨0,0⟩).v then p.leave 2 else p.step k g rd (i+1)
 | .again k g=>if v≠g then p.validate k else(p.pO g).G9 k
 | .xH a=>p.ask ⟨1,0,0,0⟩ (.nR a v)
 | .nR a w=>if v≠p.snap then p.validate (.kU a)
  else if(dk p.rd a).getD w≠w then p.leave 2
  else match p.ah a w with
   |none=>p.leave 2
   |some l=>{({p with rd:=l,value:=w}:So).pO v with busy:=B2}
 | .uy=>if ok=B4 then({p with points:=aj .i64 (p.points+1),aE:=B4}:So).back p.wr else p.validate .take
 | .Ge k=>p.G9 k
def eR(p:So)(v:Int)(ok:Bool):So:=match p.au with
 |none=>p
 |some n=>({p with want:=⟨0,0,0,0⟩,au:=B5}:So).on v ok n
def begin(p:So):So:=if p.busy=B4\/p.live=B4 then p else({p with rd:=[],wr:=[],value:=0,ended:=0,busy:=B4}:So).count 1 .wait
def ready(p:So):Bool:=!p.busy && p.live
def load(p:So)(a:Int):So:=if p.ready=B4/\8<=a then match dk p.wr a with
 |some v=>{p with value:=v}
 |none=>({p with busy:=B4}:So).kU a
 else p
def store(p:So)(a v:Int):So:=if p.ready=B4/\8<=a then
 if dk p.wr a=B5/\p.wr.length=128 then({p with busy:=B4}:So).leave 2 else{p with wr:=fG p.wr a v}
 else p
def bn(p:So):So:=if p.ready=B4 then if p.wr.length=0 then({p with busy:=B4}:So).leave 1 else({p with busy:=B4}:So).take else p
def BU(p:So):So:=if p.ready=B4 then({p with busy:=B4}:So).leave 3 else p
end So
structure Co where
 id:Int
 lines:Int
 code:List i9
 fi:Fi
 la:La
 so:So
 ph:Int
 want:oA
 seq:Int
 aS:List Pr
 done:Int
 wrote:Bool
 held:Bool
 said:Bool
 blocks:Int
 pe:Int
 halted:Bool
 Cw:Bool
structure CS where
 c:Co
 b:Bu
 o:List fF
namespace CS
def MI(c:Co)(kind a v code:Int):fF:=if c.la.lane=0 then⟨kind,0,c.id,-1,0,0,a,v,code⟩else⟨kind,0,c.id,aj .i64 (c.blocks-1),c.la.tries,c.la.lane,a,v,code⟩
def tell(s:CS)(kind a v code:Int):CS:={s with o:=s.o ++ [MI s.c kind a v code]}
def fi(s:CS)(f:Fi->Fi):CS:={s with c:={s.c with fi:=f s.c.fi}}
def la(s:CS)(f:La->La):CS:={s with c:={s.c with la:=f s.c.la}}
def so(s:CS)(f:So->So):CS:={s with c:={s.c with so:=f s.c.so}}
def ph(s:CS)(n:Int):CS:={s with c:={s.c with ph:=n}}
def ia(s:CS)(k n v o:Int):CS:={s with b:=s.b.step ⟨k,s.c.id,n,v,o⟩}
def node(s:CS):No:=(s.b.ns[s.c.id.toNat]?).getD ⟨0,0,⟨0,0,[],0⟩,⟨0,0,0,.zero⟩,[],B2,0⟩
def kJ(s:CS)(a:Int):Int×Bool:=((s.node.load a).2.1,(s.node.load a).2.2.1 && decide ((s.node.load a).2.2.2.2=0))
def vR(s:CS)(a v:Int):Bool:=(s.node.store a v).2.1 && decide ((s.node.store a v).2.2.2=0)
def zU(s:CS)(a o:Int):Bool×Bool:=((s.node.jY a o).1,(s.node.jY a o).2.1 && decide ((s.node.jY a o).2.2=0))
def ld(s:CS)(a:Int):CS:=s.ia 0 a 0 0
def st(s:CS)(a v:Int):CS:=s.ia 1 a v 0
def cs(s:CS)(a o v:Int):CS:=s.ia 2 a v o
def abort(s:CS)(code:Int):CS:=(((s.tell 6 0 0 code).fi .restore).la (·.abort code)).ph 1
def leave(s:CS):CS:={((s.la .leave).fi .drop).ph 0 with c:={((s.la .leave).fi .drop).ph 0 |>.c with held:=B2}}
def aq(s:CS):CS:=let t:=if s.c.said=B4 then s else s.tell 5 0 0 0
 {t with c:={t.c with said:=B4,held:=B2}}
def fA(s:CS)(next:Int):CS:=let t:=s.fi (·.jump next)
 {t with c:={t.c with pe:=aj .i64 (t.c.pe+1)}}
def bE(s:CS):CS:=s.aq.leave.fA (aj .i64 (s.c.fi.pc+1))
def breaks(s:CS):CS:=let t:=((s.tell 6 0 0 7).fi .restore).leave
 {t with c:={t.c with halted:=B4,Cw:=B4}}
def cN(s:CS):CS :=
 if s.c.la.lane=0 then{s with c:={s.c with halted:=B4,Cw:=B4}}
 else if s.c.la.lane=3 then let t:=s.so .BU
  {t with c:={t.c with want:=iz,ph:=6}}
 else if s.c.la.lane=4 then s.ph 10
 else(s.ia 5 7 0 0).breaks
def I1(c:Co)(u:Int):Bool:=decide (u<(c.lines-1)*8)
def eQ(s:CS)(f:oA)(v:Int):CS:=((s.tell (if s.c.la.lane=0 then 7 else 2) (if I1 s.c f.addr=B4 then 8+f.addr else 0) v 0).fi (·.set f.pq v)).fA f.au
def lO(s:CS)(f:oA)(a:Int):CS :=
 if s.c.la.lane=3 then let t:=s.so (·.load a)
  if t.c.so.busy=B4 then{t with c:={t.c with want:=f,ph:=6}}else t.eQ f t.c.so.value
 else match(if s.c.la.lane=4 then dk s.c.aS a else B5)with
  |some v=>s.eQ f v
  |none=>if(s.kJ a).2=B4 then(s.ld a).eQ f (s.kJ a).1 else s.ld a
def stored(s:CS)(kind:Int)(f:oA)(a:Int):CS:=(s.tell kind a f.value 0).fA f.au
def iJ(s:CS)(f:oA)(a:Int):CS :=
 if s.c.la.lane=3 then let t:=s.so (·.store a f.value)
  if t.c.so.busy=B4 then{t with c:={t.c with want:=f,ph:=6}}else t.stored 3 f a
 else if s.c.la.lane=4 then({s with c:={s.c with aS:=fG s.c.aS a f.value}}:CS).stored 3 f a
 else if s.vR a f.value=B4 then
  if s.c.la.lane=0 then(s.st a f.value).stored 8 f a else let t:=s.st a f.value
   ({t with c:={t.c with wrote:=B4}}:CS).stored 3 f a
 else s.st a f.value
def ends(s:CS):CS :=
 if s.c.la.lane=3 then let t:=s.so .bn
  {t with c:={t.c with want:=⟨6,0,0,0,0⟩,ph:=6}}
 else if s.c.la.lane=4 then s.ph 9
 else if s.c.la.lane=2/\s.c.wrote=B4 then s.ph 7
 else(s.ia 4 0 0 0).bE
def nP(s:CS):CS :=
 if(s.c.code.length:Int)<=s.c.fi.pc then if s.c.la.lane=0 then{s with c:={s.c with halted:=B4}}else s.cN
 else
  let f:=(s.c.code.getD s.c.fi.pc.toNat ⟨0,0,0,0,0⟩).fV s.c.fi.rs s.c.fi.pc
  let is:=I1 s.c f.addr
  let a:=8+f.addr
  if(f.kind=3\/f.kind=4)/\is=B2\/f.kind=0\/s.c.la.lane≠0/\f.kind=5\/s.c.la.lane=0/\f.kind=6\/s.c.la.lane≠0/\f.kind=7 then s.cN
  else if f.kind=7 then{s with c:={s.c with halted:=B4}}
  else if f.kind=1 then(s.fi (·.set f.pq f.value)).fA f.au
  else if f.kind=2 then s.fA f.au
  else if f.kind=3 then s.lO f a
  else if f.kind=4 then s.iJ f a
  else if f.kind=5 then let t:=((s.fA f.au).fi .save).la .enter
   {t with c:={t.c with blocks:=aj .i64 (t.c.blocks+1),ph:=1}}
  else s.ends
def jI(s:CS):CS :=
 let t0:=s.tell 1 0 0 0
 let t:CS:={t0 with c:={t0.c with aS:=[],done:=0,wrote:=B2,said:=B2}}
 if s.c.la.lane=1 then(t.ia 3 0 0 0).ph 2
 else if s.c.la.lane=2 then(t.ia 3 0 0 0).ph 3
 else if s.c.la.lane=3 then let u:=t.so .begin
  {u with c:={u.c with want:=⟨5,0,0,0,0⟩,ph:=6}}
 else t.ph 4
def og(s:CS):CS :=
 let r:=s.zU 0 s.c.seq
 let t:=s.cs 0 s.c.seq (aj .u64 (s.c.seq+1))
 if r.2=B2 then t
 else if r.1=B4 then let u:=t.tell 4 0 0 0
  {u with c:={u.c with ph:=0,held:=B4}}
 else t.ph 4
def gq(s:CS)(k:CS->CS):CS :=
 let v:=aj .u64 (s.c.seq+2)
 if s.vR 0 v=B4 then k (s.st 0 v)else s.st 0 v
def aK(s:CS):CS:=match(if 0<=s.c.done then s.c.aS[s.c.done.toNat]? else B5)with
 |some x=>if s.vR x.a x.v=B4 then let t:=s.st x.a x.v
  {t with c:={t.c with done:=aj .i64 (t.c.done+1)}}else s.st x.a x.v
 |none=>s.gq bE
def eT(s:CS):CS :=
 if s.c.so.ended=2 then s.abort 8
 else if s.c.want.kind=5 then s.ph 0
 else if s.c.want.kind=3 then(s.ph 0).eQ s.c.want s.c.so.value
 else if s.c.want.kind=6 then s.bE
 else s.breaks
def given(s:CS)(v:Int)(taken:Bool):CS :=
 let t:CS:={s with c:={s.c with held:=s.c.held ||taken && decide (s.c.so.want.a=0),so:=s.c.so.eR v taken}}
 let u:=if s.c.so.aE=B4/\t.c.so.aE=B2 then t.aq else t
 let w:=if s.c.so.points<u.c.so.points then u.tell 4 0 0 0 else u
 if w.c.so.busy=B4 then w else w.eT
def nV(s:CS):CS :=
 let r:=s.c.so.want
 if r.op=1 then if(s.kJ r.a).2=B4 then(s.ld r.a).given (s.kJ r.a).1 B2 else s.ld r.a
 else if r.op=2 then if s.vR r.a r.v=B4 then(s.st r.a r.v).given 0 B2 else s.st r.a r.v
 else if r.op=3 then if(s.zU r.a r.o).2=B4 then(s.cs r.a r.o r.v).given 0 (s.zU r.a r.o).1 else s.cs r.a r.o r.v
 else s
def act(s:CS):CS :=
 if s.c.ph=0 then s.nP
 else if s.c.ph=1 then s.jI
 else if s.c.ph=2 then let r:=s.kJ 1
  if r.2=B4 then let t:=(s.ld 1).ph 3
   if r.1≠0 then t.ia 5 6 0 0 else t
  else s.ld 1
 else if s.c.ph=3 then let r:=s.kJ 0
  if r.2=B4 then let t:=s.ld 0
   let u:CS:={t with c:={t.c with seq:=r.1,ph:=0}}
   if r.1 % 2=1 then u.ia 5 6 0 0 else u
  else s.ld 0
 else if s.c.ph=4 then let r:=s.kJ 0
  let t:=s.ld 0
  if r.2=B4/\r.1 % 2=0 then{t with c:={t.c with seq:=r.1,ph:=5}}else t
 else if s.c.ph=5 then s.og
 else if s.c.ph=6 then s.nV
 else if s.c.ph=7 then s.gq (·.ph 8)
 else if s.c.ph=8 then(s.ia 4 0 0 0).bE
 else if s.c.ph=9 then s.aK
 else if s.c.ph=10 then s.gq breaks
 else s
def rK(s:CS):Int:=if s.node.code<1\/6<s.node.code then 5 else s.node.code
def step(s:CS):CS×Int :=
 if s.c.Cw=B4 then(s,111)
 else if s.c.halted=B4 then(s,110)
 else if s.c.la.qS=B4/\s.c.ph≠1/\s.node.live=B2 then(s.abort s.rK,0)
 else(s.act,0)
end CS
end Go.Am
namespace Go.Am
def fH(x:Int):Prop:=0<=x/\x<18446744073709551616
def uC(x:Int):AV:=.int .u64 x
def bI:fH 0:=⟨vJ _,by decide⟩
def FC(n:Int):fH (aj .u64 n):=by rw[xd0];constructor<;>omega
def L8.u(x:L8):Prop:=∀w∈x.l,fH w
def L8.iG:L8.zero.u:=λ w h=>by
 simp only[L8.zero,ji,Li,or_false,or_self]at h;rw[h];exact bI
def FF{α:Type}{l:List α}{k:Nat}{v x:α}(h:x∈l.set k v):x∈l\/x=v:=List.mem_or_eq_of_mem_set h
def L8.u.put{x:L8}(h:x.u)(i:Nat){y:Int}(a:fH y):(x.put i y).u:=λ w q=>(FF q).elim (h w) λ e=>e▸a
def L8.u.get{x:L8}(h:x.u)(i:Nat):fH (x.get i):=by
 unfold L8.get;cases q:x.l[i]? with
 |none=>exact bI
 |some w=>exact h w (zj q)
def En.U(e:En):Prop:=e.d.u/\e.o.u
def En.oT:En.zero.U:=⟨L8.iG,L8.iG⟩
def Ca.U(c:Ca):Prop:=∀e∈c.sl,e.U
def No.U(n:No):Prop:=n.c.U
def qH(l:List Mg):Prop:=∀m∈l,m.d.u
def qH.nil:qH []:=λ _ h=>by cases h
def qH.one{m:Mg}(h:m.d.u):qH [m]:=λ x q=>by rw[j0.1 q];exact h
def qH.app{a b:List Mg}(h:qH a)(d:qH b):qH (a++b):=λ x q=>(z6.1 q).elim (h x) (d x)
namespace Ca
variable{c:Ca}
def U.en(h:c.U)(i:Nat):(c.en i).U:=by
 unfold Ca.en;cases q:c.sl[i]? with
 |none=>exact En.oT
 |some e=>exact h e (zj q)
def U.Fy(h:c.U)(i:Nat){e:En}(he:e.U){u:Int}:Ca.U {c with us:=u,sl:=c.sl.set i e}:=λ x q=>(FF q).elim (h x) λ w=>w▸he
def U.set(h:c.U)(i:Nat){e:En}(he:e.U):(c.set i e).U:=λ x q=>(FF q).elim (h x) λ w=>w▸he
def U.use(h:c.U)(i:Nat):(c.use i).U:=h.Fy i (e:={c.en i with u:=c.us+1}) (h.en i)
def U.word(h:c.U)(a:Nat):(c.word a).1.U/\fH ((c.word a).2.getD 0):=by
 unfold Ca.word;split
 .exact ⟨h,bI⟩
 .exact ⟨h.use _,(h.en _).1.get _⟩
def U.put(h:c.U)(a:Nat){y:Int}(f:fH y):(c.put a y).U:=by
 unfold Ca.put;split
 .exact h
 .rename_i i _;exact h.Fy i (e:={c.en i with u:=c.us+1,d:=(c.en i).d.put (a % 8) y}) ⟨(h.en i).1.put _ f,(h.en i).2⟩
def U.mark(h:c.U)(l:Int)(w:Bool):(c.mark l w).U:=by
 unfold Ca.mark
 repeat' split
 all_goals first|exact h|(rename_i i _ _;exact h.set i ⟨(h.en i).1,(h.en i).1⟩)|(rename_i i _;exact h.set i (e:={c.en i with r:=B4}) (h.en i))
def U.cR(h:c.U)(l:Int):(c.cR l).1.U/\(c.cR l).2.u:=by
 unfold Ca.cR;split
 .exact ⟨h,L8.iG⟩
 .rename_i i _;exact⟨h.set i (e:={c.en i with st:=1}) (h.en i),(h.en i).1⟩
def U.cQ(h:c.U)(l:Int){d:L8}(a:d.u):(c.cQ l d).U:=by
 unfold Ca.cQ;split
 .exact h
 .rename_i i _;exact h.set i ⟨a,(h.en i).2⟩
def U.drop(h:c.U)(l:Int):(c.drop l).1.U/\(c.drop l).2.U:=by
 unfold Ca.drop;split
 .exact ⟨h,En.oT⟩
 .exact ⟨h.set _ En.oT,h.en _⟩
def U.map(h:c.U){g:En->En}(hg:∀e,e.U->(g e).U):Ca.U {c with sl:=c.sl.map g}:=λ x q=>by
 obtain⟨e,he,rfl⟩:=FI.1 q;exact hg e (h e he)
def U.bn(h:c.U):c.bn.U:=h.map λ e he=>by unfold rj;split;exact he;exact⟨he.1,L8.iG⟩
def U.discard(h:c.U):c.discard.U:=h.map λ e he=>by
 unfold back;split
 .exact he
 .refine ⟨?_,L8.iG⟩;show(if e.w then e.o else e.d).u;split;exact he.2;exact he.1
def U.fill(h:c.U)(l s:Int){d:L8}(a:d.u):(c.fill l s d).1.U/\(c.fill l s d).2.1.U:=by
 unfold Ca.fill;split
 .exact ⟨h,En.oT⟩
 .split
  .exact ⟨h,En.oT⟩
  .exact ⟨h.Fy _ ⟨a,L8.iG⟩,h.en _⟩
end Ca
namespace No
variable{n:No}
def U.iW(h:n.U)(k:Int):(n.iW k).U:=Ca.U.discard h
def uv(n:No)(k l:Int):(n.msg k l).d.u:=L8.iG
def U.ask(h:n.U)(k l:Int):(n.ask k l).1.U/\qH (n.ask k l).2:=by
 unfold No.ask;split
 .exact ⟨h,.nil⟩
 .exact ⟨h,.one (uv _ _ _)⟩
def U.load(h:n.U)(a:Int):(n.load a).1.U/\fH (n.load a).2.1/\qH (n.load a).2.2.2.1:=by
 unfold No.load;split
 .split
  .exact ⟨(U.ask h _ _).1,bI,(U.ask h _ _).2⟩
  .have q:(if n.live then n.c.mark (ln a) B2 else n.c).U:=by split;exact Ca.U.mark h _ _;exact h
   exact⟨(q.word _).1,(q.word _).2,.nil⟩
 .exact ⟨h,bI,.nil⟩
def U.store(h:n.U)(a:Int){y:Int}(d:fH y):(n.store a y).1.U/\qH (n.store a y).2.2.1:=by
 unfold No.store;split
 .split
  .have q:(if n.live then n.c.mark (ln a) B4 else n.c).U:=by split;exact Ca.U.mark h _ _;exact h
   exact⟨q.put _ d,.nil⟩
  .exact U.ask h _ _
 .exact ⟨h,.nil⟩
def U.nj(h:n.U)(a o:Int){y:Int}(d:fH y):(n.nj a o y).1.U/\qH (n.nj a o y).2:=by
 unfold No.nj;split
 .split
  .exact ⟨h,.nil⟩
  .split
   .refine ⟨?_,.nil⟩;show Ca.U (if _ then _ else _);split
    .exact (Ca.U.word h _).1.put _ d
    .exact (Ca.U.word h _).1
   .exact U.ask h _ _
 .exact ⟨h,.nil⟩
def U.begin(h:n.U):n.begin.U:=by unfold No.begin;split;exact h;exact h
def U.bn(h:n.U):n.bn.U:=by unfold No.bn;split;exact Ca.U.bn h;exact h
def U.abort(h:n.U)(k:Int):(n.abort k).1.U:=by
 unfold No.abort;repeat' split
 all_goals first|exact h|exact U.iW h _
def U.lost(h:n.U)(x:En)(t:Bool):(n.lost x t).U:=by
 unfold No.lost;repeat' split
 all_goals first|exact h|exact U.iW h _
def U.gone(h:n.U){x:En}(a:x.U):(n.gone x).1.U/\qH (n.gone x).2:=by
 unfold No.gone;split
 .exact ⟨h,.one a.1⟩
 .exact ⟨h,.nil⟩
def U.dP(h:n.U){m:Mg}(hm:m.d.u)(s:Int):(n.dP m s).1.U/\qH (n.dP m s).2:=by
 obtain⟨a,e⟩:=Ca.U.fill h m.line s hm;unfold No.dP;split
 .exact U.gone (n:={n with c:=(n.c.fill m.line s m.d).1}) a e
 .exact ⟨a,.nil⟩
def U.fill(h:n.U){m:Mg}(hm:m.d.u):(n.fill m).1.U/\qH (n.fill m).2:=by
 unfold No.fill;generalize(if m.k=15 then(2:Int)else 1)=s;unfold No.kV;split
 .exact U.dP (U.iW h 3) hm s
 .exact U.dP h hm s
def U.bO(h:n.U){m:Mg}(hm:m.d.u):(n.bO m).1.U/\qH (n.bO m).2:=by
 unfold No.bO;split
 .exact ⟨h,.nil⟩
 split
 .exact ⟨(Ca.U.drop (U.lost h _ _) _).1,.one (uv _ _ _)⟩
 split
 .split
  .exact ⟨h,.one (uv _ _ _)⟩
  .split
   .exact ⟨(Ca.U.cR (U.lost h _ _) _).1,.one (Ca.U.cR (U.lost h _ _) _).2⟩
   .exact ⟨(Ca.U.drop (U.lost h _ _) _).1,.one (Ca.U.drop (U.lost h _ _) _).2.1⟩
 split
 .exact ⟨h,.nil⟩
 split
 .exact ⟨Ca.U.cQ h _ hm,.one (uv _ _ _)⟩
 .obtain ⟨a,e⟩:=U.fill (n:={n with out:=⟨0,0,0,.zero⟩}) h hm;exact⟨a,e.app (.one (uv _ _ _))⟩
def U.da(h:n.U)(l:Int):(n.da l).1.U/\qH (n.da l).2:=by
 unfold No.da;split
 .exact ⟨h,.nil⟩
 split
 .exact ⟨h,.nil⟩
 .rename_i x _;have q:(if x.r ||x.w then n.iW 4 else n).U:=by split;exact U.iW h 4;exact h
  exact U.gone (n:={(if x.r ||x.w then n.iW 4 else n)with c:=((if x.r ||x.w then n.iW 4 else n).c.drop l).1}) (Ca.U.drop q l).1 (Ca.U.drop q l).2
end No
namespace De
def xlr(x:De){w:L8}(hw:w.u):(x.dX w).2.d.u:=by unfold dX;split<;>exact hw
def z'(x:De)(m:Mg){w:L8}(hw:w.u):qH (x.begin m w).2:=by
 unfold begin;split
 .exact .one L8.iG
 split
 .exact .one (xlr _ hw)
 .intro z q;obtain⟨c,-,rfl⟩:=FI.1 q;exact L8.iG
def yF(x:De){w:L8}(hw:w.u)(q:Prop)[Decidable q]{o:List Mg}(ho:qH o):(x.vO w q o).2.1.u/\qH (x.vO w q o).2.2:=by
 unfold vO;split
 .exact ⟨hw,ho.app (.one (xlr _ hw))⟩
 .exact ⟨hw,ho⟩
def Kx(x:De){w:L8}(hw:w.u){m:Mg}(hm:m.d.u):(x.bO w m).2.1.u/\qH (x.bO w m).2.2:=by
 unfold bO;split
 .exact ⟨hw,.nil⟩
 split
 .split
  .exact ⟨hw,.nil⟩
  .exact ⟨hw,z' _ _ hw⟩
 split
 .exact yF _ hw _ .nil
 split
 .exact yF _ hm _ .nil
 split
 .exact yF _ hw _ .nil
 split
 .exact yF _ hm _ (.one L8.iG)
 split
 .exact ⟨hw,.nil⟩
 .exact ⟨hw,z' _ _ hw⟩
end De
structure yT(b:Bu):Prop where
 m:∀x∈b.m,x.u
 n:∀n∈b.ns,n.U
 f:qH b.fl
def yT.put{b:Bu}(h:yT b)(c:Nat){r:No×List Mg}(a:r.1.U)(d:qH r.2):yT (b.put c r):=⟨h.m,λ x q=>(FF q).elim (h.n x) λ e=>e▸a,h.f.app d⟩
end Go.Am
namespace Go.Am
open Lang Go.Proofs
variable{M:ak}[MK M]
def OP(op:Nat):List UInt8:=match op with
 |1=>[104,97,108,116]
 |2=>[115,101,116]
 |3=>[109,111,118]
 |4=>[97,100,100]
 |5=>[115,117,98]
 |6=>[109,117,108]
 |7=>[97,110,100]
 |8=>[120,111,114]
 |9=>[115,104,108]
 |10=>[115,104,114]
 |11=>[108,111,97,100]
 |12=>[115,116,111,114,101]
 |13=>[106,117,109,112]
 |14=>[101,113]
 |15=>[110,101]
 |16=>[108,116]
 |17=>[98,101,103,105,110]
 |18=>[101,110,100]
 |_=>[]
def wF:List AV:=(N1 19).flatMap λ k=>[.str (OP k),.str (pI k)]
def qK(H:ar):Prop:=H.bP kj=B1 wF/\kj<H.au
def qK.em{H H':ar}(h:qK H)(f:Fr Em H H'):qK H':=⟨(f.cells h.2 id).trans h.1,qn h.2 f.au⟩
def Er:∀k:Nat,k<19->wF[k*2+1]? = B1 (.str (pI k))
 |0,_=>rfl
 |1,_=>rfl
 |2,_=>rfl
 |3,_=>rfl
 |4,_=>rfl
 |5,_=>rfl
 |6,_=>rfl
 |7,_=>rfl
 |8,_=>rfl
 |9,_=>rfl
 |10,_=>rfl
 |11,_=>rfl
 |12,_=>rfl
 |13,_=>rfl
 |14,_=>rfl
 |15,_=>rfl
 |16,_=>rfl
 |17,_=>rfl
 |18,_=>rfl
 |k+19,h=>absurd h (by omega)
def fY(i:i9):List AV:=[.int .i64 i.op,.int .i64 i.a,.int .i64 i.b,.int .i64 i.c,.int .i64 i.Ay]
def oX(op:Int):Prop:=1<=op/\op<=18
instance(op:Int):Decidable (oX op):=inferInstanceAs (Decidable (_/\_))
def xi4{H:ar}(hs:qK H)(op:Int):zk M MO [.int .i64 op] H λ v H'=>v=.tuple [.str (if oX op then pI op.toNat else[]),.bool (decide (oX op))]/\H'=H:=by
 refine xe3 ?_;obtain⟨w0,w2,d⟩:=xe4 M ⟨B5,MO⟩
 by_cases a:op<1
 .have hn:¬oX op:=λ q=>by have:=q.1;omega
  simp only[aa,bc,w0,w2,a,qt hn,kw hn]
 by_cases e:(19:Int)<=op
 .have hn:¬oX op:=λ q=>by have:=q.2;omega
  simp only[aa,bc,w0,w2,a,e,qt hn,kw hn]
 have f:oX op:=⟨by omega,by omega⟩
 have ix:Op.aY 19 2 [.ptr kj 0,.int .i64 op]=B1 (.ptr kj (0+op.toNat*2)):=by
  simp only[Op.aY];rw[MF (i:=op.toNat) (by omega) (by omega)];rfl
 have ld:Op.ae [.ptr kj (op.toNat*2+1)] H=B1 (.str (pI op.toNat)):=by
  rw[zh hs.1];exact Er op.toNat (by omega)
 simp only[aa,bc,w0,w2,a,e,d,ix,ld,xb f,ku f]
def EB{x c:UInt8}(h:¬x=c):CF x c=false:=by
 cases q:CF x c with
 |false=>rfl
 |true=>exact(h (by simpa[CF,<-UInt8.toNat_inj]using q)).elim
def xb5(c:UInt8):∀(s:List UInt8)(k:Nat),(∃i:Nat,Hk c s k=B1 i/\c∈s)\/Hk c s k=B5/\c∉s:=by
 intro s
 induction s with
 |nil=>intro k;exact .inr ⟨rfl,by simp⟩
 |cons x s ih =>
  intro k
  by_cases h:x=c
  .subst h;exact .inl ⟨k,by simp[Hk,CF],by simp⟩
  .rcases ih (k+1)with⟨i,a,e⟩|⟨a,d⟩
   .exact .inl ⟨i,by simp[Hk,EB h,a],by simp[e]⟩
   .exact .inr ⟨by simp[Hk,EB h,a],by simp[d,mO h]⟩
def G5{s:List UInt8}{c:UInt8}{H:ar}:zk M Xn [.str s,.int .u8 c.toNat] H λ v H'=>H'=H /\ ∃z:Int,v=.int .i64 z/\(c∈s->0<=z)/\(c∉s->z = -1):=by
 refine qun ?_;simp only[aa,bc,qup];refine C3.q (R:=λ v H'=>H'=H /\ ∃z:Int,v=.int .i64 z/\(c∈s->0<=z)/\(c∉s->z = -1)) ?_ λ v H'⟨g,z,h,a,d⟩=>?_
 .refine qh6 ?_;rcases xb5 c s 0 with⟨i,a,f⟩|⟨a,d⟩
  .have e:Op.aF [.str s,.int .u8 c.toNat]=B1 (.int .i64 (i:Nat)):=by
    simp only[Op.aF,FO,UInt8.ofNat_toNat,a];rfl
   simp only[aa,bc,qdu,e];exact⟨_,rfl,λ _=>by omega,λ q=>(q f).elim⟩
  .have e:Op.aF [.str s,.int .u8 c.toNat]=B1 (.int .i64 (-1)):=by
    simp only[Op.aF,FO,UInt8.ofNat_toNat,a];rfl
   simp only[aa,bc,qdu,e];exact⟨_,rfl,λ q=>(d q).elim,λ _=>rfl⟩
 .subst h;subst g;simp only[aa,bc];exact⟨z,rfl,a,d⟩
def xhw{H:ar}(hs:qK H)(i:i9):zk M Nt [.agg (fY i)] H λ v H'=>v=.bool (decide i.mM)/\Fr Em H H':=by
 refine xe0 ?_;obtain⟨w0,w4,F,I,D,u⟩:=xe1 M ⟨B5,Nt⟩;obtain⟨H1,e1,x,-,N⟩:=cE H (OR (fY i) Aw);have ld:∀k,Op.ae [.ptr H.au k] H1=(fY i)[k]?:=λ k=>zh (xf N) k;have l0:Op.ae [.ptr H.au 0] H1=B1 (.int .i64 i.op):=ld 0;have l1:Op.ae [.ptr H.au 1] H1=B1 (.int .i64 i.a):=ld 1;have l2:Op.ae [.ptr H.au 2] H1=B1 (.int .i64 i.b):=ld 2;have l3:Op.ae [.ptr H.au 3] H1=B1 (.int .i64 i.c):=ld 3;have L:Op.build [.int .i64 0,.int .i64 0,.int .i64 0] [(0,1),(1,1),(2,1)] [.int .i64 i.a,.int .i64 i.b,.int .i64 i.c]=B1 (.agg [.int .i64 i.a,.int .i64 i.b,.int .i64 i.c]):=rfl;have ca:AV.cells (.agg (fY i))=fY i:=z7 _;simp only[aa,bc,w0,ca,<-e1,l0];refine C3.q (xi4 (hs.em x) i.op) λ v K⟨A,y⟩=>?_;subst A;subst y;obtain⟨m,g⟩:∃m,m=(if oX i.op then pI i.op.toNat else[]):=⟨_,rfl⟩
 rw[<-g];simp only[aa,bc,xp,w4,l1,l2,l3,L]
 let ok:Nat->Prop:=λ j=>match j with
  |0=>65∈m->0<=i.a/\i.a<8
  |1=>66∈m->0<=i.b/\i.b<8
  |_=>67∈m->0<=i.c/\i.c<8
 have f:i.mM↔oX i.op/\ok 0/\ok 1/\ok 2:=by
  constructor
  .intro q;have l:oX i.op:=⟨q.1,q.2.1⟩
   rw[xb l]at g;subst g;exact⟨l,q.2.2.1,q.2.2.2.1,q.2.2.2.2⟩
  .intro ⟨l,B,p,C⟩;rw[xb l]at g;subst g;exact⟨l.1,l.2,B,p,C⟩
 have Q:Op.bB 3 1 B5 [.agg [.int .i64 i.a,.int .i64 i.b,.int .i64 i.c],.int .i64 0]=B1 (.int .i64 i.a):=rfl;have R:Op.bB 3 1 B5 [.agg [.int .i64 i.a,.int .i64 i.b,.int .i64 i.c],.int .i64 1]=B1 (.int .i64 i.b):=rfl;have S:Op.bB 3 1 B5 [.agg [.int .i64 i.a,.int .i64 i.b,.int .i64 i.c],.int .i64 2]=B1 (.int .i64 i.c):=rfl;have T:Op.bN [.str [65,66,67],.int .i64 0]=B1 (.int .u8 ((65:UInt8).toNat:Nat)):=rfl;have U:Op.bN [.str [65,66,67],.int .i64 1]=B1 (.int .u8 ((66:UInt8).toNat:Nat)):=rfl;have V:Op.bN [.str [65,66,67],.int .i64 2]=B1 (.int .u8 ((67:UInt8).toNat:Nat)):=rfl;have Z:aj .i64 (0+1)=1:=by decide +kernel
 have b2:aj .i64 (1+1)=2:=by decide +kernel
 have b3:aj .i64 (2+1)=3:=by decide +kernel
 have no:∀{k:Nat},k<3 -> ¬ok k->decide i.mM=false:=λ{k}hk q=>kw λ w=>by
  have⟨_,B,p,C⟩:=f.1 w;rcases(show k=0\/k=1\/k=2 by omega)with rfl|rfl|rfl
  .exact q B
  .exact q p
  .exact q C
 refine dD.intro (λ n E G=>∃k:Nat,E=[(20,.int .i64 (k:Nat)),(19,.agg [.int .i64 i.a,.int .i64 i.b,.int .i64 i.c]),(4,.bool (decide (oX i.op))),(3,.str m)]/\n=3-k/\k<=3/\G=K /\ ∀j,j<k->ok j) ?_ ?_
 .exact ⟨_,_,⟨0,rfl,rfl,x9 _,rfl,λ j O=>by omega⟩,by simp only[aa,bc]⟩
 rintro n E G ⟨k,rfl,rfl,hk,rfl,h⟩;rcases xx k 3 with o|o
 .have p:(k:Int)<3:=by omega
  obtain⟨c,r,P,l,d⟩:∃(c:UInt8)(r:Int),Op.bB 3 1 B5 [.agg [.int .i64 i.a,.int .i64 i.b,.int .i64 i.c],.int .i64 (k:Nat)]=B1 (.int .i64 r)/\Op.bN [.str [65,66,67],.int .i64 (k:Nat)]=B1 (.int .u8 (c.toNat:Nat))/\(ok k↔(c∈m->0<=r/\r<8)):=by
   rcases(show k=0\/k=1\/k=2 by omega)with rfl|rfl|rfl
   .exact ⟨65,i.a,Q,T,kq⟩
   .exact ⟨66,i.b,R,U,kq⟩
   .exact ⟨67,i.c,S,V,kq⟩
  have J:aj .i64 ((k:Int)+1)=((k+1:Nat):Int):=by rw[kc (by omega) (by omega)];omega
  have go:ok k -> ∀j,j<k+1->ok j:=λ q j O=>by
   rcases xx j k with w|w
   .exact h j w
   .rw [show j=k by omega];exact q
  simp only[aa,bc,I,p,D,P,l];refine C3.q (G5) λ v Y⟨y,z,A,W,X⟩=>?_;subst A;subst y
  by_cases s:c∈m
  .have t:(0:Int)<=z:=W s
   by_cases n1:r<0
   .have:=no o λ q=>by have:=(d.1 q s).1;omega
    simp only[aa,bc,t,n1,this];exact x
   by_cases n2:(8:Int)<=r
   .have:=no o λ q=>by have:=(d.1 q s).2;omega
    simp only[aa,bc,t,n1,n2,this];exact x
   simp only[aa,bc,t,n1,n2,u,J];exact⟨_,_,⟨k+1,rfl,rfl,by omega,go (d.2 λ _=>⟨by omega,by omega⟩)⟩,by simp only[aa,bc],by omega⟩
  .have t:¬(0:Int)<=z:=by rw[X s];decide
   simp only[aa,bc,t,u,J];exact⟨_,_,⟨k+1,rfl,rfl,by omega,go (d.2 λ q=>(s q).elim)⟩,by simp only[aa,bc],by omega⟩
 .have p:¬(k:Int)<3:=by omega
  have:decide (oX i.op)=decide i.mM:=by
   have e:i.mM↔oX i.op:=⟨λ q=>(f.1 q).1,λ q=>f.2 ⟨q,h 0 (by omega),h 1 (by omega),h 2 (by omega)⟩⟩
   by_cases q:oX i.op
   .rw [ku q,ku (e.2 q)]
   .rw [kw q,kw λ w=>q (e.1 w)]
  simp only[aa,bc,I,p,F,this];exact x
end Go.Am
namespace Go.Am
open Lang Go.Proofs
variable{M:ak}[MK M]
def bj(f:oA):List AV:=[.int .i64 f.kind,.int .i64 f.au,.int .i64 f.pq,.int .u64 f.value,.int .u64 f.addr]
def X9(n:Int):pP n<8:=by
 unfold pP;rw[BitVec.toNat_and];exact Nat.lt_of_le_of_lt Nat.and_le_right (by decide)
def Rn{rs:List Int}(h:rs.length=8)(n:Int):(rs.map uC)[pP n]? = B1 (.int .u64 (rg rs n)):=by
 have hl:=X9 n;rw[xk,qy (by omega)];simp only[rg,ja,qy (show pP n<rs.length by omega)];rfl
def Sb{rs:List Int}(h:rs.length=8)(hr:∀x∈rs,fH x)(n:Int):fH (rg rs n):=by
 have hl:=X9 n;simp only[rg,ja,qy (show pP n<rs.length by omega)];exact hr _ (List.getElem_mem _)
def Gy{x:Int}(e:fH x)(n:Nat):x.fdiv (2 ^ n)=aj .u64 (x / 2 ^ n):=by
 have⟨a,d⟩:=e;have hp:(0:Int)<2 ^ n:=Int.pow_pos (by decide);rw[Int.fdiv_eq_ediv_of_nonneg _ (Int.le_of_lt hp),xhl (Int.ediv_nonneg a (Int.le_of_lt hp))];exact Int.lt_of_le_of_lt (Int.ediv_le_self _ a) d
def bdL(k n r d:Int):Op.build [.int .i64 0,.int .i64 0,.int .i64 0,.int .u64 0,.int .u64 0] [(0,1),(1,1),(2,1),(4,1)] [.int .i64 k,.int .i64 n,.int .i64 r,.int .u64 d]=B1 (.agg (bj ⟨k,n,r,0,d⟩)):=rfl
def Vp(k n v d:Int):Op.build [.int .i64 0,.int .i64 0,.int .i64 0,.int .u64 0,.int .u64 0] [(0,1),(1,1),(3,1),(4,1)] [.int .i64 k,.int .i64 n,.int .u64 v,.int .u64 d]=B1 (.agg (bj ⟨k,n,0,v,d⟩)):=rfl
def Ga{H:ar}{b:Nat}{x f:oA}(h:H.get b=B1 (OR (bj x) ju)):Op.store 5 [.ptr b 0,.agg (bj f)] H=B1 (.undef,H.set b (OR (bj f) ju)):=by
 rw[wW (o:=0) (n:=5) (v:=.agg (bj f)) h rfl (by simp[bj]) rfl];rfl
def J6{H:ar}{b:Nat}{x:oA}(h:H.get b=B1 (OR (bj x) ju)):Op.av 5 [.ptr b 0] H=B1 (.agg (bj x)):=by
 rw[tT (c:=bj x) (xf h) (by simp[bj])];rfl
def vC:Op.build (bj iz) [] []=B1 (.agg (bj iz)):=rfl
def C2(k n:Int):Op.build (bj iz) [(0,1),(1,1)] [.int .i64 k,.int .i64 n]=B1 (.agg (bj ⟨k,n,0,0,0⟩)):=rfl
def RF(k n r v:Int):Op.build (bj iz) [(0,1),(1,1),(2,1),(3,1)] [.int .i64 k,.int .i64 n,.int .i64 r,.int .u64 v]=B1 (.agg (bj ⟨k,n,r,v,0⟩)):=rfl
def qV:[AV.int .i64 0,.int .i64 0,.int .i64 0,.int .u64 0,.int .u64 0]=bj iz:=rfl
structure zF(i:i9)(rs:List Int)(pc:Int)(b:Nat)(H:ar):Prop where
 gi:H.get b=B1 (OR (fY i) Aw)
 gr:H.get (b+1)=B1 (OR (rs.map uC) pN)
 gp:H.get (b+2)=B1 (OR [.int .i64 pc] bU)
 ge:H.get (b+3)=B1 (OR (bj iz) ju)
 lt:b+3<H.au
section
variable{i:i9}{rs:List Int}{pc:Int}{b:Nat}{H H':ar}
def zF.em(h:zF i rs pc b H)(f:Fr Em H H'):zF i rs pc b H':=by
 have hl:=h.lt;exact⟨by rw[f.ah _ (by omega) id];exact h.gi,by rw[f.ah _ (by omega) id];exact h.gr,by rw[f.ah _ (by omega) id];exact h.gp,by rw[f.ah _ (by omega) id];exact h.ge,qn hl f.au⟩
def zF.li(h:zF i rs pc b H)(k:Nat):Op.ae [.ptr b k] H=(fY i)[k]?:=zh (xf h.gi) k
def zF.lp(h:zF i rs pc b H):Op.ae [.ptr (b+2) 0] H=B1 (.int .i64 pc):=zh (xf h.gp) 0
def Hu(h:zF i rs pc b H)(hp:0<=pc/\pc<1024)(v:Int):zk M Tk [.int .u64 v,.ptr (b+2) 0,.ptr b 0] H λ w H'=>w=.agg (bj ⟨1,pc+1,i.a,v,0⟩)/\Fr Em H H':=by
 refine xin ?_;obtain⟨H1,e1,d,-,g⟩:=cE H (OR (bj iz) ju);have e:=h.em d;have l1:Op.ae [.ptr b 1] H1=B1 (.int .i64 i.a):=e.li 1;have wp:aj .i64 (pc+1)=pc+1:=kc (by omega) (by omega);have f:Fr Em H (H1.set H.au (OR (bj ⟨1,pc+1,i.a,v,0⟩) ju)):=d.set (.inr (qm _)) _;have ld:=J6 (xj H1 H.au (OR (bj ⟨1,pc+1,i.a,v,0⟩) ju));simp only[aa,bc,xio,qV,<-e1,e.lp,wp,l1,RF,Ga g,ld];exact f
def Yr(h:zF i rs pc b H)(hp:0<=pc/\pc<1024)(k:Int):zk M T6 [.int .i64 k,.ptr (b+2) 0] H λ w H'=>w=.agg (bj ⟨k,pc+1,0,0,0⟩)/\Fr Em H H':=by
 refine xir ?_;obtain⟨H1,e1,a,-,e⟩:=cE H (OR (bj iz) ju);have f:=h.em a;have wp:aj .i64 (pc+1)=pc+1:=kc (by omega) (by omega);have d:Fr Em H (H1.set H.au (OR (bj ⟨k,pc+1,0,0,0⟩) ju)):=a.set (.inr (qm _)) _;have ld:=J6 (xj H1 H.au (OR (bj ⟨k,pc+1,0,0,0⟩) ju));simp only[aa,bc,xis,qV,<-e1,f.lp,wp,C2,Ga e,ld];exact d
def SE(h:zF i rs pc b H)(hp:0<=pc/\pc<1024)(q:Bool):zk M R6 [.bool q,.ptr (b+2) 0,.ptr b 0] H λ w H'=>w=.agg (bj (oe i pc q))/\Fr Em H H':=by
 refine xip ?_;obtain⟨w0,w2,a,k⟩:=xiq M ⟨B5,R6⟩;obtain⟨H1,e1,l,-,j⟩:=cE H (OR (bj iz) ju);have m:=h.em l;have wp:aj .i64 (pc+1)=pc+1:=kc (by omega) (by omega);have l4:Op.ae [.ptr b 4] H1=B1 (.int .i64 i.Ay):=m.li 4;have g:∀f,Fr Em H (H1.set H.au (OR (bj f) ju)):=λ f=>l.set (.inr (qm _)) _;have ld:∀f,Op.av 5 [.ptr H.au 0] (H1.set H.au (OR (bj f) ju))=B1 (.agg (bj f)):=λ f=>J6 (xj H1 H.au (OR (bj f) ju));cases q with
 |false =>
  simp only[aa,bc,w0,qV,<-e1,w2,m.lp,wp,C2,Ga j,ld];exact⟨rfl,g _⟩
 |true =>
  by_cases d:i.Ay<0
  .simp only[aa,bc,w0,qV,<-e1,w2,a,l4,d,vC,Ga j,ld];exact⟨by unfold oe;rw[xb rfl,xb (.inl d)],g _⟩
  by_cases e:(1024:Int)<i.Ay
  .simp only[aa,bc,w0,qV,<-e1,w2,a,l4,d,e,vC,Ga j,ld];exact⟨by unfold oe;rw[xb rfl,xb (.inr e)],g _⟩
  simp only[aa,bc,w0,qV,<-e1,w2,a,l4,d,e,k,C2,Ga j,ld];exact⟨by unfold oe;rw[xb rfl,qt (λ q=>q.elim d e)],g _⟩
def VC(h:zF i rs pc b H)(d:rs.length=8)(n:Int):zk M SD [.int .i64 n,.ptr (b+1) 0] H λ w H'=>w=.int .u64 (rg rs n)/\H'=H:=by
 refine xit ?_;have hl:=X9 n;have a:Op.bin .and [.int .i64 n,.int .i64 7]=B1 (.int .i64 ((pP n:Nat):Int)):=by
  show B1 (AV.int .i64 (aj .i64 ((pP n:Nat):Int)))=_;rw[kc (by omega) (by omega)]
 have ix:Op.aY 8 1 [.ptr (b+1) 0,.int .i64 ((pP n:Nat):Int)]=B1 (.ptr (b+1) (pP n)):=by
  simp only[Op.aY];rw[MF (i:=pP n) rfl hl];simp
 have ld:Op.ae [.ptr (b+1) (pP n)] H=B1 (.int .u64 (rg rs n)):=by rw[zh (xf h.gr)];exact Rn d n
 simp only[aa,bc,xiu,a,ix,ld]
end
def IA{H:ar}(hs:qK H){i:i9}{rs:List Int}{pc:Int}(J:rs.length=8)(hr:∀x∈rs,fH x):zk M ZZ [.agg (fY i),.agg (rs.map uC),.int .i64 pc] H λ v H'=>v=.agg (bj (i.fV rs pc))/\Fr Em H H':=by
 refine ai0 ?_;obtain⟨w0,w2,X,Y,Z,w22,O,m,p,r,s,u,B,A,G⟩:=af1 M ⟨B5,ZZ⟩;obtain⟨H1,e1,f1,n1,-⟩:=cE H (OR (fY i) Aw);obtain⟨H2,e2,L,-,-⟩:=cE H1 (OR (rs.map uC) pN);obtain⟨H3,S,I,-,-⟩:=cE H2 (OR [.int .i64 pc] bU);obtain⟨P,T,F,-,-⟩:=cE H3 (OR (bj iz) ju);have n2:H2.au=H.au+2:=by rw[e2,zg,n1]
 have V:H3.au=H.au+3:=by rw[S,zg,n2]
 have n4:P.au=H.au+4:=by rw[T,zg,V]
 have f4:Fr Em H P:=((f1.trans L λ _ q=>q.elim).trans I λ _ q=>q.elim).trans F λ _ q=>q.elim;have hM:zF i rs pc H.au P:=by
  refine⟨?_,?_,?_,?_,by omega⟩
  .rw [F.ah _ (by omega) id,I.ah _ (by omega) id,L.ah _ (by omega) id,e1,xt]
  .rw [F.ah _ (by omega) id,I.ah _ (by omega) id,e2,<-n1,xt]
  .rw [F.ah _ (by omega) id,S,<-n2,xt]
  .rw [T,<-V,xt]
 have c1:AV.cells (.agg (fY i))=fY i:=z7 _;have c2:AV.cells (.agg (rs.map uC))=rs.map uC:=z7 _;have c3:AV.cells (.int .i64 pc)=[.int .i64 pc]:=rfl;simp only[aa,bc,w0,c1,<-e1,c2,<-e2,c3,<-S,qV,<-T,n1,n2,V,w2];have li:Op.av 5 [.ptr H.au 0] P=B1 (.agg (fY i)):=by rw[tT (c:=fY i) (xf hM.gi) (by simp[fY])];rfl
 simp only[aa,bc,li];refine C3.q (xhw (hs.em f4) i) λ v K⟨l,f5⟩=>?_;subst l;have d:=hM.em f5;have j:=f4.trans f5 λ _ q=>q.elim
 -- the end
 have fin:∀{z:ar},zF i rs pc H.au z->Fr Em H z->(∀f,Op.store 5 [.ptr (H.au+3) 0,.agg (bj f)] z=B1 (.undef,z.set (H.au+3) (OR (bj f) ju)))/\(∀f,Op.av 5 [.ptr (H.au+3) 0] (z.set (H.au+3) (OR (bj f) ju))=B1 (.agg (bj f))) /\ ∀f,Fr Em H (z.set (H.au+3) (OR (bj f) ju)):=λ{z}hx fx =>
  ⟨λ f=>Ga hx.ge,λ f=>J6 (xj z (H.au+3) (OR (bj f) ju)),λ f=>fx.set (.inr (by omega)) _⟩
 by_cases hb:¬i.mM\/pc<0\/1024<=pc
 .have hd:i.fV rs pc=iz:=by unfold i9.fV;rw[xb hb]
  rw[hd];have⟨st,ld,k⟩:=fin d j
  by_cases Q:i.mM
  .by_cases E:pc<0
   .simp only[aa,bc,ku Q,d.lp,E,vC,st,ld];exact k _
   .have W:(1024:Int)<=pc:=by rcases hb with q|q|q;exact(q Q).elim;omega;exact q
    simp only[aa,bc,ku Q,d.lp,E,W,vC,st,ld];exact k _
  .simp only[aa,bc,kw Q,vC,st,ld];exact k _
 have D:i.mM:=yt.1 λ q=>hb (.inl q);have E:¬pc<0:=λ q=>hb (.inr (.inl q));have W:¬(1024:Int)<=pc:=λ q=>hb (.inr (.inr q));have hp:0<=pc/\pc<1024:=⟨by omega,by omega⟩
 have wp:aj .i64 (pc+1)=pc+1:=kc (by omega) (by omega);have mk1:Op.bt Tk 0 [.ptr (H.au+2) 0,.ptr H.au 0]=B1 (.fn (.func Tk) [] [.ptr (H.au+2) 0,.ptr H.au 0]):=rfl;have mk2:Op.bt R6 0 [.ptr (H.au+2) 0,.ptr H.au 0]=B1 (.fn (.func R6) [] [.ptr (H.au+2) 0,.ptr H.au 0]):=rfl;have mk3:Op.bt T6 0 [.ptr (H.au+2) 0]=B1 (.fn (.func T6) [] [.ptr (H.au+2) 0]):=rfl;have mk4:Op.bt SD 0 [.ptr (H.au+1) 0]=B1 (.fn (.func SD) [] [.ptr (H.au+1) 0]):=rfl;have k1:Op.ae [.ptr H.au 1] K=B1 (.int .i64 i.a):=d.li 1;have k2:Op.ae [.ptr H.au 2] K=B1 (.int .i64 i.b):=d.li 2;have U:Op.ae [.ptr H.au 3] K=B1 (.int .i64 i.c):=d.li 3;have k4:Op.ae [.ptr H.au 4] K=B1 (.int .i64 i.Ay):=d.li 4;have k0:Op.ae [.ptr H.au 0] K=B1 (.int .i64 i.op):=d.li 0;simp only[aa,bc,ku D,d.lp,E,W,X,Y,Z,k1,k2,U];refine C3.q (VC d J i.a) λ v R⟨l,N⟩=>?_;subst l;subst N;simp only[aa,bc,k2,U];refine C3.q (VC d J i.b) λ v R⟨l,N⟩=>?_;subst l;subst N;simp only[aa,bc,U];refine C3.q (VC d J i.c) λ v R⟨l,N⟩=>?_;subst l;subst N;have ra:=Sb J hr i.a;have rb:=Sb J hr i.b;have rc:=Sb J hr i.c;simp only[aa,bc,k4,w22,k0];have hop:1<=i.op/\i.op<=18:=⟨D.1,D.2.1⟩
 -- what is told
 have t:∀{f:oA}{z:ar},f=i.fV rs pc->Fr Em H z->AV.agg (bj f)=.agg (bj (i.fV rs pc))/\Fr Em H z:=λ e q=>⟨by rw[e],q⟩
 have C:i.op=1\/i.op=2\/i.op=3\/i.op=4\/i.op=5\/i.op=6\/i.op=7\/i.op=8\/i.op=9\/i.op=10\/i.op=11\/i.op=12\/i.op=13\/i.op=14\/i.op=15\/i.op=16\/i.op=17\/i.op=18:=by omega
 have cl:∀{x:AV}{f:oA}{z:ar},x=.agg (bj f)->Fr Em R z->zF i rs pc H.au z/\Fr Em H z:=λ _ q=>⟨d.em q,j.trans q λ _ w=>w.elim⟩
 rcases C with o|o|o|o|o|o|o|o|o|o|o|o|o|o|o|o|o|o
 .simp only[aa,bc,o,tZ];refine C3.q (Yr d hp 7) λ v y⟨l,h⟩=>?_;subst l;have g:=j.trans h λ _ w=>w.elim;have⟨st,ld,k⟩:=fin (d.em h) g;simp only[aa,bc,st,ld];refine t ?_ (k _);unfold i9.fV;rw[qt hb];simp[o]
 .simp only[aa,bc,o,Sp,tZ,k4];refine C3.q (Hu d hp (aj .u64 i.Ay)) λ v y⟨l,h⟩=>?_;subst l;have g:=j.trans h λ _ w=>w.elim;have⟨st,ld,k⟩:=fin (d.em h) g;simp only[aa,bc,st,ld];refine t ?_ (k _);unfold i9.fV;rw[qt hb];simp[o]
 .simp only[aa,bc,o,Sp,tZ,m];refine C3.q (Hu d hp (rg rs i.b)) λ v y⟨l,h⟩=>?_;subst l;have g:=j.trans h λ _ w=>w.elim;have⟨st,ld,k⟩:=fin (d.em h) g;simp only[aa,bc,st,ld];refine t ?_ (k _);unfold i9.fV;rw[qt hb];simp[o]
 .simp only[aa,bc,o,Sp,tZ,m];refine C3.q (Hu d hp _) λ v y⟨l,h⟩=>?_;subst l;have g:=j.trans h λ _ w=>w.elim;have⟨st,ld,k⟩:=fin (d.em h) g;simp only[aa,bc,st,ld];refine t ?_ (k _);unfold i9.fV;rw[qt hb];simp[o,FM]
 .simp only[aa,bc,o,Sp,tZ,m,p];refine C3.q (Hu d hp _) λ v y⟨l,h⟩=>?_;subst l;have g:=j.trans h λ _ w=>w.elim;have⟨st,ld,k⟩:=fin (d.em h) g;simp only[aa,bc,st,ld];refine t ?_ (k _);unfold i9.fV;rw[qt hb];simp[o,FM]
 .simp only[aa,bc,o,Sp,tZ,m,p];refine C3.q (Hu d hp _) λ v y⟨l,h⟩=>?_;subst l;have g:=j.trans h λ _ w=>w.elim;have⟨st,ld,k⟩:=fin (d.em h) g;simp only[aa,bc,st,ld];refine t ?_ (k _);unfold i9.fV;rw[qt hb];simp[o,FM]
 .have q:Op.bin .and [.int .u64 (rg rs i.b),.int .u64 (rg rs i.c)]=B1 (.int .u64 (FM 7 (rg rs i.b) (rg rs i.c))):=rfl;simp only[aa,bc,o,Sp,tZ,m,p,r,q];refine C3.q (Hu d hp _) λ v y⟨l,h⟩=>?_;subst l;have g:=j.trans h λ _ w=>w.elim;have⟨st,ld,k⟩:=fin (d.em h) g;simp only[aa,bc,st,ld];refine t ?_ (k _);unfold i9.fV;rw[qt hb];simp[o]
 .have q:Op.bin .xor [.int .u64 (rg rs i.b),.int .u64 (rg rs i.c)]=B1 (.int .u64 (FM 8 (rg rs i.b) (rg rs i.c))):=rfl;simp only[aa,bc,o,Sp,tZ,m,p,r,q];refine C3.q (Hu d hp _) λ v y⟨l,h⟩=>?_;subst l;have g:=j.trans h λ _ w=>w.elim;have⟨st,ld,k⟩:=fin (d.em h) g;simp only[aa,bc,st,ld];refine t ?_ (k _);unfold i9.fV;rw[qt hb];simp[o]
 .have q:Op.bin .rem [.int .u64 (rg rs i.c),.int .u64 64]=B1 (.int .u64 (((rg rs i.c % 64).toNat:Nat):Int)):=by
   rw[sL .u64 _ _ (by decide),P4 rc.1];congr 2;omega
  have E:=Ke .u64 .u64 (rg rs i.b) (rg rs i.c % 64).toNat;rw[show Pl.u64.bits=64 from rfl,show min (rg rs i.c % 64).toNat 64=(rg rs i.c % 64).toNat by omega]at E;simp only[aa,bc,o,Sp,tZ,m,p,r,s,q,E];refine C3.q (Hu d hp _) λ v y⟨l,h⟩=>?_;subst l;have g:=j.trans h λ _ w=>w.elim;have⟨st,ld,k⟩:=fin (d.em h) g;simp only[aa,bc,st,ld];refine t ?_ (k _);unfold i9.fV;rw[qt hb];simp[o,FM]
 .have q:Op.bin .rem [.int .u64 (rg rs i.c),.int .u64 64]=B1 (.int .u64 (((rg rs i.c % 64).toNat:Nat):Int)):=by
   rw[sL .u64 _ _ (by decide),P4 rc.1];congr 2;omega
  have E:=PF .u64 .u64 (rg rs i.b) (rg rs i.c % 64).toNat;rw[show Pl.u64.bits=64 from rfl,show min (rg rs i.c % 64).toNat 64=(rg rs i.c % 64).toNat by omega,Gy rb]at E;simp only[aa,bc,o,Sp,tZ,m,p,r,s,q,E];refine C3.q (Hu d hp _) λ v y⟨l,h⟩=>?_;subst l;have g:=j.trans h λ _ w=>w.elim;have⟨st,ld,k⟩:=fin (d.em h) g;simp only[aa,bc,st,ld];refine t ?_ (k _);unfold i9.fV;rw[qt hb];simp[o,FM]
 .have ⟨st,ld,k⟩:=fin d j;simp only[aa,bc,o,Sp,tZ,m,p,r,s,u,d.lp,wp,k1,bdL,st,ld];refine t ?_ (k _);unfold i9.fV;rw[qt hb];simp[o]
 .have ⟨st,ld,k⟩:=fin d j;simp only[aa,bc,o,Sp,tZ,m,p,r,s,u,d.lp,wp,Vp,st,ld];refine t ?_ (k _);unfold i9.fV;rw[qt hb];simp[o]
 .simp only[aa,bc,o,Sp,tZ,m,p,r,s,u,B];refine C3.q (SE d hp B4) λ v y⟨l,h⟩=>?_;subst l;have g:=j.trans h λ _ w=>w.elim;have⟨st,ld,k⟩:=fin (d.em h) g;simp only[aa,bc,st,ld];refine t ?_ (k _);unfold i9.fV;rw[qt hb];simp[o]
 .simp only[aa,bc,o,Sp,tZ,m,p,r,s,u,B];refine C3.q (SE d hp (decide (rg rs i.a=rg rs i.b))) λ v y⟨l,h⟩=>?_;subst l;have g:=j.trans h λ _ w=>w.elim;have⟨st,ld,k⟩:=fin (d.em h) g;simp only[aa,bc,st,ld];refine t ?_ (k _);unfold i9.fV;rw[qt hb];simp[o]
 .simp only[aa,bc,o,Sp,tZ,m,p,r,s,u,B,A];refine C3.q (SE d hp (decide (rg rs i.a≠rg rs i.b))) λ v y⟨l,h⟩=>?_;subst l;have g:=j.trans h λ _ w=>w.elim;have⟨st,ld,k⟩:=fin (d.em h) g;simp only[aa,bc,st,ld];refine t ?_ (k _);unfold i9.fV;rw[qt hb];simp[o]
 .simp only[aa,bc,o,Sp,tZ,m,p,r,s,u,B,A];refine C3.q (SE d hp (decide (rg rs i.a<rg rs i.b))) λ v y⟨l,h⟩=>?_;subst l;have g:=j.trans h λ _ w=>w.elim;have⟨st,ld,k⟩:=fin (d.em h) g;simp only[aa,bc,st,ld];refine t ?_ (k _);unfold i9.fV;rw[qt hb];simp[o]
 .simp only[aa,bc,o,Sp,tZ,m,p,r,s,u,B,A,G];refine C3.q (Yr d hp 5) λ v y⟨l,h⟩=>?_;subst l;have g:=j.trans h λ _ w=>w.elim;have⟨st,ld,k⟩:=fin (d.em h) g;simp only[aa,bc,st,ld];refine t ?_ (k _);unfold i9.fV;rw[qt hb];simp[o]
 .simp only[aa,bc,o,Sp,tZ,m,p,r,s,u,B,A,G,O];refine C3.q (Yr d hp 6) λ v y⟨l,h⟩=>?_;subst l;have g:=j.trans h λ _ w=>w.elim;have⟨st,ld,k⟩:=fin (d.em h) g;simp only[aa,bc,st,ld];refine t ?_ (k _);unfold i9.fV;rw[qt hb];simp[o]
end Go.Am
namespace Go.Am
open Lang Go.Proofs
def At(H:ar)(p t:Nat)(c:List AV):Prop:=H.get p=B1 (OR c t)/\p<H.au
section
variable{H H':ar}{p t:Nat}{c:List AV}
def At.ld(h:At H p t c)(k:Nat):Op.ae [.ptr p k] H=c[k]?:=zh (xf h.1) k
def At.fq(h:At H p t c){k n:Nat}(hn:k+n<=c.length):Op.av n [.ptr p k] H=B1 (.agg ((c.drop k).take n)):=tT (xf h.1) hn
def At.iv(h:At H p t c){k n:Nat}{v:AV}(b:v.cells.length=n)(hn:k+n<=c.length)(a:aQ v.cells=B4):Op.store n [.ptr p k,v] H=B1 (.undef,H.set p (OR (c.take k++v.cells++c.drop (k+n)) t)):=wW h.1 b hn a
def Fk{α:Type}:∀(c:List α)(k:Nat)(v:α),k<c.length->c.take k ++ [v]++c.drop (k+1)=c.set k v
 |[],k,v,h=>absurd h (Nat.not_lt_zero _)
 |x::c,0,v,_=>rfl
 |x::c,k+1,v,h=>congrArg (x :: ·) (Fk c k v (Nat.lt_of_succ_lt_succ h))
def AD{v:AV}(h:az v=B4):v.cells=[v]:=by
 cases v<;>first|rfl|cases h
def At.st(h:At H p t c)(k:Nat){v:AV}(a:az v=B4)(hk:k<c.length):Op.store 1 [.ptr p k,v] H=B1 (.undef,H.set p (OR (c.set k v) t)):=by
 have e:=AD a;rw[h.iv (n:=1) (by rw[e];rfl) hk (by rw[e,vz];simp[a]),e,Fk c k v hk]
def At.set(h:At H p t c)(a:List AV):At (H.set p (OR a t)) p t a:=⟨xj ..,h.2⟩
def At.fr{W:Nat->Prop}(h:At H p t c)(f:Fr W H H')(hw:¬W p):At H' p t c:=⟨(f.ah p h.2 hw).trans h.1,qn h.2 f.au⟩
def At.em(h:At H p t c)(f:Fr Em H H'):At H' p t c:=h.fr f id
def At.new(H:ar)(c:List AV)(t:Nat):At (H.alloc (OR c t)) H.au t c:=⟨xt ..,zz _⟩
def cj(H:ar)(p:Nat)(o:bC):Fr (On p) H (H.set p o):=(Fr.refl H).set (W:=On p) (.inl rfl) o
end
variable{M:ak}[MK M]
def dI{f:Nat}{vs:List AV}{H:ar}{v:AV}(h:zk M f vs H λ w X=>w=v/\X=H)(K:Bool->AV->ar->Prop):C3 M B4 (.func f) vs H K=K B4 v H:=by
 obtain⟨w,X,⟨n1,d⟩,rfl,rfl⟩:=h.elim;refine propext ⟨?_,λ k=>⟨w,X,⟨n1,d⟩,k⟩⟩;rintro⟨e,X',⟨n2,g⟩,k⟩;have a:=d (max n1 n2) (by omega);rw[g (max n1 n2) (by omega)]at a;injection a with a
 injection a with a b
 injection b with _ b
 injection a with a
 subst a;subst b;exact k
def aA:(∀b o H,Op.eq .ptr B2 [.ptr b o,.nilp] H=B1 (.bool B2))/\(∀b o H,Op.eq .ptr B4 [.ptr b o,.nilp] H=B1 (.bool B4))/\(∀H,Op.eq .ptr B2 [.nilp,.nilp] H=B1 (.bool B4))/\(∀H,Op.eq .ptr B4 [.nilp,.nilp] H=B1 (.bool B2))/\(∀b o,Op.nilCheck [.ptr b o]=B1 (.ptr b o))/\(∀i l,Op.extract i [.tuple l]=l[i]?):=⟨vg,lQ,Sc,ur,qv,xp⟩
def iQ{o:Nat->Nat}{n k z:Nat}(h:z<n):aL o n k z=o z:=xb h
def mW{o:Nat->Nat}{n k z:Nat}(h:n<=z):aL o n k z=k:=qt (by omega)
def cu(x:Fi)(pv:AV):List AV:=x.rs.map uC ++ [.int .i64 x.pc,pv,.bool B4]
def gn(x:List Int×Int):List AV:=x.1.map uC ++ [.int .i64 x.2]
structure Yd(x:List Int×Int):Prop where
 r8:x.1.length=8
 ru:∀v∈x.1,fH v
 pc:0<=x.2
def PB(H:ar)(o:Nat->Nat)(f:Nat)(pv:AV):Option (List Int×Int)->Prop
 |none=>pv=.nilp
 |some x=>Yd x /\ ∃b,pv=.ptr b 0/\At H b QG (gn x)/\o b=2/\b≠f
structure qP(H:ar)(o:Nat->Nat)(f:Nat)(x:Fi):Prop where
 w:Yd (x.rs,x.pc)
 at':∃pv,At H f HS (cu x pv)/\PB H o f pv x.pt
section
variable{H H':ar}{o o':Nat->Nat}{f:Nat}{x:Fi}
def NU{rs:List Int}(h:rs.length=8)(k:Nat)(l:List AV):(rs.map uC++l)[8+k]? = l[k]?:=by
 rw[zu (by simp[h])];simp[h]
def Jv{rs:List Int}(h:rs.length=8)(l:List AV):(rs.map uC++l).length=8+l.length:=by simp[h]
def Ue{rs:List Int}(h:rs.length=8)(l:List AV)(n:Nat):(rs.map uC++l).take (8+n)=rs.map uC++l.take n:=by
 rw[show 8+n=(rs.map uC).length+n by simp[h],Tt]
def K4{rs:List Int}(h:rs.length=8)(l:List AV)(n:Nat):(rs.map uC++l).drop (8+n)=l.drop n:=by
 rw[show 8+n=(rs.map uC).length+n by simp[h],Q2]
def PB.fr{W:Nat->Prop}{pv:AV}{x:Option (List Int×Int)}(h:PB H o f pv x)(a:Fr W H H')(hw:∀z,z<H.au->o z=2->z≠f -> ¬W z)(ho:∀z,z<H.au->o' z=o z):PB H' o' f pv x:=by
 cases x with
 |none=>exact h
 |some x =>
  have⟨i,b,j,d,e,g⟩:=h;exact⟨i,b,j,d.fr a (hw b d.2 e g),(ho b d.2).trans e,g⟩
def qP.fr{W:Nat->Prop}(h:qP H o f x)(a:Fr W H H')(e:o f=2)(hw:∀z,z<H.au->o z=2 -> ¬W z)(ho:∀z,z<H.au->o' z=o z):qP H' o' f x:=by
 have⟨pv,b,d⟩:=h.at';exact⟨h.w,pv,b.fr a (hw f b.2 e),d.fr a (λ z q w _=>hw z q w) ho⟩
def qP.em(h:qP H o f x)(a:Fr Em H H'):qP H' o f x:=by
 have⟨pv,b,d⟩:=h.at';exact⟨h.w,pv,b.em a,d.fr a (λ _ _ _ _ q=>q) λ _ _=>rfl⟩
def qP.row(h:qP H o f x){pv:AV}(a:At H f HS (cu x pv))(b:PB H o f pv x.pt){y:Fi}(d:Yd (y.rs,y.pc))(hp:y.pt=x.pt):qP (H.set f (OR (cu y pv) HS)) (aL o H.au 2) f y :=
 ⟨d,pv,a.set _,hp▸b.fr (cj H f _) (λ z _ _ q=>q) λ z q=>iQ q⟩
def qP.same(h:qP H o f x):qP H (aL o H.au 2) f x:=by
 have⟨pv,a,b⟩:=h.at';exact⟨h.w,pv,a,b.fr (Fr.refl H) (λ z _ _ _ q=>q) λ z q=>iQ q⟩
def mJ(h:qP H o f x):∀K,C3 M B4 (.func qph) [.ptr f 0] H K=K B4 (.bool B2) H:=by
 obtain⟨pv,a,-⟩:=h.at';have l:=(a.ld 10).trans (NU h.w.r8 2 _);refine dI (q04 ?_);simp only[aa,bc,q05,aA,l]
def mq(h:qP H o f x):∀K,C3 M B4 (.func χ) [.ptr f 0] H K=K B4 (.int .i64 (if x.pt.isSome then 0 else 60)) H:=by
 have⟨pv,d,a⟩:=h.at';have l:=(d.ld 9).trans (NU h.w.r8 1 _);refine dI (qwb ?_);cases q:x.pt with
 |none =>
  rw[q]at a;have a:pv=.nilp:=a;subst a;simp only[aa,bc,qml,aA,mJ h,l,BL,zw]
 |some y =>
  rw[q]at a;obtain⟨-,b,rfl,-⟩:=a;simp only[aa,bc,qml,aA,mJ h,l,BL]
def Bz(h:qP H o f x)(i:Int):∀K,C3 M B4 (.func qnb) [.ptr f 0,.int .i64 i] H K=K B4 (.int .i64 (if 0<=i/\i<8 then 0 else 2)) H:=by
 refine dI (qyg ?_)
 by_cases a:i<0
 .simp only[aa,bc,Xf,mJ h,a,qt (λ q:0<=i/\i<8=>HD.2 q.1 a)]
 by_cases b:(8:Int)<=i
 .simp only[aa,bc,Xf,mJ h,a,b,qt (λ q:0<=i/\i<8=>HD.2 b q.2)]
 .simp only[aa,bc,Xf,mJ h,a,b,xb (show 0<=i/\i<8 by omega)]
def K9(H:ar)(o:Nat->Nat)(f:Nat)(y:Fi)(H':ar):Prop:=qP H' (aL o H.au 2) f y/\Fr (On f) H H'
def KT(h:qP H o f x)(i:Int){v:Int}(k:fH v):zk M Xb [.ptr f 0,.int .i64 i,.int .u64 v] H λ _ H'=>K9 H o f (x.set i v) H':=by
 refine q53 ?_;unfold Fi.set
 by_cases b:0<=i/\i<8
 .rw [xb b];have⟨pv,g,j⟩:=h.at';have d:=h.w.r8;obtain⟨a,rfl⟩:=jt b.1;have ha:a<8:=by omega
  have ix:Op.aY 8 1 [.ptr f 0,.int .i64 (a:Int)]=B1 (.ptr f a):=by rw[Uf rfl ha];simp
  have e:(cu x pv).set a (.int .u64 v)=cu {x with rs:=x.rs.set a v} pv:=by
   unfold cu;rw[List.set_append_left _ _ (by simp[d];exact ha),List.map_set];rfl
  have st:=g.st a (v:=.int .u64 v) rfl (by unfold cu;rw[Jv d];omega);rw[e]at st;simp only[aa,bc,qrk,aA,Bz h,xb b,ix,st];refine⟨h.row g j ⟨by simp[d],λ y q=>(FF q).elim (h.w.ru y) λ e=>e▸k,h.w.pc⟩ rfl,cj ..⟩
 .rw [qt b];have m:¬(2:Int)=0:=by decide
  simp only[aa,bc,qrk,Bz h,qt b,m];exact⟨h.same,Fr.refl _⟩
def Jr(h:qP H o f x)(i:Int):zk M qpf [.ptr f 0,.int .i64 i] H λ _ H'=>K9 H o f (x.jump i) H':=by
 refine q01 ?_;unfold Fi.jump
 by_cases a:i<0
 .rw [xb a];simp only[aa,bc,uF,mJ h,a];exact⟨h.same,Fr.refl _⟩
 .rw [qt a];have⟨pv,d,g⟩:=h.at';have b:=h.w.r8;have e:(cu x pv).set 8 (.int .i64 i)=cu {x with pc:=i} pv:=by
   unfold cu;rw[Od _ _ (by simp[b])];simp[b]
  have st:=d.st 8 (v:=.int .i64 i) rfl (by unfold cu;rw[Jv b];simp);rw[e]at st;simp only[aa,bc,uF,aA,mJ h,a,st];exact⟨h.row d g ⟨b,h.w.ru,HD.1 a⟩ rfl,cj ..⟩
def fpc(h:qP H o f x):∀K,C3 M B4 (.func qsz) [.ptr f 0] H K=K B4 (.int .i64 x.pc) H:=by
 obtain⟨pv,a,-⟩:=h.at';have l:=(a.ld 8).trans (NU h.w.r8 0 _);refine dI (q7k ?_);simp only[aa,bc,q7l,aA,mJ h,l]
def RH(h:qP H o f x):zk M qqj [.ptr f 0] H λ v H'=>v=.agg (x.rs.map uC)/\Fr Em H H':=by
 refine q51 ?_;obtain⟨H1,e1,b,-,-⟩:=cE H (OR (JV 8 (.int .u64 0)) pN);have d:At H1 H.au pN _:=e1▸At.new H _ _;obtain⟨pv,g,-⟩:=(h.em b).at';have a:=h.w.r8;have l:=g.fq (k:=0) (n:=8) (by unfold cu;rw[Jv a];simp);rw[y8,show 8=8+0 from rfl,cu,Ue a,yq,zt]at l;have s:=d.iv (k:=0) (n:=8) (v:=.agg (x.rs.map uC)) (by simp[z7,a]) (by simp) (by rw[z7,vz];simp[uC,az]);rw[z7,yq,jc,jr (by simp),zt]at s;have l2:=((d.set (x.rs.map uC)).fq (k:=0) (n:=8) (by simp[a]))
 rw[y8,zp (by simp[a])]at l2;have e:[AV.int .u64 0,.int .u64 0,.int .u64 0,.int .u64 0,.int .u64 0,.int .u64 0,.int .u64 0,.int .u64 0]=JV 8 (.int .u64 0):=rfl;simp only[aa,bc,q52,aA,e,<-e1,mJ (h.em b),l,s,l2];exact b.set (.inr (qm _)) _
def Mr{pv:AV}(b:At H f HS (cu x pv))(a:x.rs.length=8):Op.av 9 [.ptr f 0] H=B1 (.agg (gn (x.rs,x.pc))):=by
 have l:=b.fq (k:=0) (n:=9) (by unfold cu;rw[Jv a];simp);rw[y8,show 9=8+1 from rfl,cu,Ue a]at l;exact l
def US{pv:AV}(b:At H f HS (cu x pv))(a:x.rs.length=8):Op.av 8 [.ptr f 0] H=B1 (.agg (x.rs.map uC)):=by
 have l:=b.fq (k:=0) (n:=8) (by unfold cu;rw[Jv a];simp);rw[y8,show 8=8+0 from rfl,cu,Ue a,yq,zt]at l;exact l
def DV(y:List Int×Int):aQ (gn y)=true:=by unfold gn;rw[vz];simp[uC,az]
def Sr{y:List Int×Int}(h:y.1.length=8):(gn y).length=9:=by simp[gn,h]
def z9:[AV.int .u64 0,.int .u64 0,.int .u64 0,.int .u64 0,.int .u64 0,.int .u64 0,.int .u64 0,.int .u64 0,.int .i64 0]=gn (JV 8 0,0):=rfl
def OU(h:qP H o f x):zk M qpg [.ptr f 0] H λ _ H'=>K9 H o f x.save H':=by
 refine q02 ?_;have⟨pv,b,y⟩:=h.at';have a:=h.w.r8;obtain⟨H1,e1,u,-,-⟩:=cE H (OR (gn (JV 8 0,0)) QG);have g:At H1 H.au QG _:=e1▸At.new H _ _;have s:=g.iv (k:=0) (n:=9) (v:=.agg (gn (x.rs,x.pc))) (by rw[z7];exact Sr a) (by simp[gn]) (by rw[z7];exact DV _);rw[z7,yq,jc,jr (by simp[gn]),zt]at s;obtain⟨d,e2⟩:∃X,X=H1.set H.au (OR (gn (x.rs,x.pc)) QG):=⟨_,rfl⟩
 rw[<-e2]at s;have r:At d H.au QG (gn (x.rs,x.pc)):=e2▸g.set _;have i:Fr Em H d:=e2▸u.set (.inr (qm _)) _;have j:=b.em i;have e:(cu x pv).set 9 (.ptr H.au 0)=cu x.save (.ptr H.au 0):=by
  unfold cu;rw[Od _ _ (by simp[a])];simp[a,Fi.save]
 have st:=j.st 9 (v:=.ptr H.au 0) rfl (by unfold cu;rw[Jv a];simp);rw[e]at st;simp only[aa,bc,q03,aA,mJ h,Mr b a,z9,<-e1,s,st];have m:H.au≠f:=λ q=>by have:=b.2;omega
 exact⟨⟨h.w,_,j.set _,h.w,_,rfl,r.fr (cj ..) (λ q=>m q),mW (qm _),m⟩,(i.mono (W':=On f) λ _ _ q=>q.elim).trans (cj ..) λ z q=>.inl q⟩
def Rl(h:qP H o f x):zk M qpe [.ptr f 0] H λ _ H'=>K9 H o f x.drop H':=by
 refine q00 ?_;have⟨pv,b,g⟩:=h.at';have a:=h.w.r8;cases q:x.pt with
 |none =>
  have e:x.drop=x:=by unfold Fi.drop;cases x;simp only at q;rw[q]
  rw[e];have d:¬(60:Int)=0:=by decide
  simp only[aa,bc,_8,mq h,q,BL,zw,d];exact⟨h.same,Fr.refl _⟩
 |some y =>
  have e:(cu x pv).set 9 .nilp=cu x.drop .nilp:=by
   unfold cu;rw[Od _ _ (by simp[a])];simp[a,Fi.drop]
  have st:=b.st 9 (v:=.nilp) rfl (by unfold cu;rw[Jv a];simp);rw[e]at st;simp only[aa,bc,_8,aA,mq h,q,BL,st];exact⟨⟨h.w,_,b.set _,rfl⟩,cj ..⟩
def X5{a b:List Int}(ha:a.length=8)(hb:b.length=8)(H:ar):Op.eq (.agg (.part 0 B5 .int (.part 1 B5 .int (.part 2 B5 .int (.part 3 B5 .int (.part 4 B5 .int (.part 5 B5 .int (.part 6 B5 .int (.part 7 B5 .int .nil))))))))) B4 [.agg (a.map uC),.agg (b.map uC)] H=B1 (.bool (decide (a≠b))):=by
 match a,ha,b,hb with
 |[a0,a1,a2,a3,a4,a5,a6,a7],_,[b0,b1,b2,b3,b4,b5,b6,b7],_ =>
  refine(Xr _ _ _ _ (decide ([a0,a1,a2,a3,a4,a5,a6,a7]=[b0,b1,b2,b3,b4,b5,b6,b7])) ?_).trans (by simp);simp only[jw,AE,uC,aV,partAt,kE,jb,zr,qr,rT,iV,J3,xw,Pg,zx,sj]
  by_cases d:a0=b0<;>by_cases e:a1=b1<;>by_cases g:a2=b2<;>by_cases h:a3=b3<;>simp only[d,e,g,h,Nd,F7,xw,zm,BZ,false_and,and_false]<;>by_cases i:a4=b4<;>by_cases j:a5=b5<;>by_cases k:a6=b6<;>by_cases m:a7=b7<;>simp only[i,j,k,m,Nd,F7,xw,zm,BZ,false_and,and_false]
def xgr(h:qP H o f x):zk M qk8 [.ptr f 0] H λ _ H'=>K9 H o f x.restore H':=by
 refine qt5 ?_;have⟨pv,g,j⟩:=h.at';have a:=h.w.r8;cases q:x.pt with
 |none =>
  have e:x.restore=x:=by unfold Fi.restore;rw[q]
  rw[e];have F:¬(60:Int)=0:=by decide
  simp only[aa,bc,Tf,mq h,q,BL,zw,F];exact⟨h.same,Fr.refl _⟩
 |some y =>
  rw[q]at j;have m:=j;obtain⟨d,b,rfl,hb,I,G⟩:=j;have e:x.restore=⟨y.1,y.2,B1 y⟩:=by unfold Fi.restore;rw[q]
  have r:=(g.ld 9).trans (NU a 1 _);have A:=(g.ld 8).trans (NU a 0 _);have B:=(hb.ld 8).trans (NU d.r8 0 _);have u:Op.av 8 [.ptr b 0] H=B1 (.agg (y.1.map uC)):=by
   have l:=hb.fq (k:=0) (n:=8) (by rw[Sr d.r8];decide);rw[y8,show 8=8+0 from rfl,gn,Ue d.r8,yq,zt]at l;exact l
  have C:Op.av 9 [.ptr b 0] H=B1 (.agg (gn y)):=by
   have l:=hb.fq (k:=0) (n:=9) (by rw[Sr d.r8];decide);rw[y8,zp (by rw[Sr d.r8];decide)]at l;exact l
  have s:=g.iv (k:=0) (n:=9) (v:=.agg (gn y)) (by rw[z7];exact Sr d.r8) (by unfold cu;rw[Jv a];simp) (by rw[z7];exact DV _);have e2:(cu x (.ptr b 0)).take 0++gn y++(cu x (.ptr b 0)).drop (0+9)=cu ⟨y.1,y.2,B1 y⟩ (.ptr b 0):=by
   rw[yq,jc,cu,show 0+9=8+1 from rfl,K4 a,gn,zy];rfl
  rw[z7,e2]at s
  by_cases i:x.rs=y.1/\x.pc=y.2
  .have D:x.restore=x:=by rw[e,<-i.1,<-i.2,<-q]
   rw[D];simp only[aa,bc,Tf,aA,mq h,q,BL,US g a,r,u,X5 a d.r8,xg i.1,A,B,xg i.2];exact⟨h.same,Fr.refl _⟩
  .rw [e];have fin:K9 H o f ⟨y.1,y.2,B1 y⟩ (H.set f (OR (cu ⟨y.1,y.2,B1 y⟩ (.ptr b 0)) HS)):=⟨h.row g (q▸m) d q.symm,cj ..⟩
   by_cases z:x.rs=y.1
   .have E:¬x.pc=y.2:=λ w=>i ⟨z,w⟩;simp only[aa,bc,Tf,aA,mq h,q,BL,US g a,r,u,X5 a d.r8,xg z,A,B,E,C,s];exact fin
   .simp only[aa,bc,Tf,aA,mq h,q,BL,US g a,r,u,X5 a d.r8,z,C,s];exact fin
end
end Go.Am
namespace Go.Am
open Lang Go.Proofs
variable{M:ak}[MK M]
def iC(x:Int):AV:=.int .i64 x
def dQ(x:La):List AV:=x.fT.map iC++(iC x.lane::(x.jP.map iC ++ [.bool B4]))
structure LaW(x:La):Prop where
 b5:x.fT.length=5
 c5:x.jP.length=5
 l0:0<=x.lane
 l4:x.lane<=4
 b4:x.fT.getD 4 0≠0
structure lX(H:ar)(l:Nat)(x:La):Prop where
 w:LaW x
 at':At H l vq (dQ x)
section
variable{H H':ar}{l:Nat}{x:La}
def lX.fr{W:Nat->Prop}(h:lX H l x)(a:Fr W H H')(hw:¬W l):lX H' l x:=⟨h.w,h.at'.fr a hw⟩
def lX.em(h:lX H l x)(a:Fr Em H H'):lX H' l x:=h.fr a id
def Ry(h:lX H l x){k:Nat}(hk:k<5):Op.ae [.ptr l k] H=B1 (iC (x.fT.getD k 0)):=by
 rw[h.at'.ld,dQ,jq (by simp[h.w.b5];exact hk),xk,ja];have:k<x.fT.length:=by rw[h.w.b5];exact hk
 rw[qy this];rfl
def iN(h:lX H l x):Op.ae [.ptr l 5] H=B1 (.int .i64 x.lane):=by
 rw[h.at'.ld,dQ,zu (by simp[h.w.b5])];simp[h.w.b5,iC]
def QB(h:lX H l x){k:Nat}(hk:k<5):Op.ae [.ptr l (6+k)] H=B1 (iC (x.jP.getD k 0)):=by
 rw[h.at'.ld,dQ,zu (by simp[h.w.b5];omega),xu,h.w.b5,show 6+k-5=k+1 by omega,zr,jq (by simp[h.w.c5];exact hk),xk,ja];have:k<x.jP.length:=by rw[h.w.c5];exact hk
 rw[qy this];rfl
def QE(h:lX H l x):Op.ae [.ptr l 11] H=B1 (.bool B4):=by
 rw[h.at'.ld,dQ,zu (by simp[h.w.b5])];simp[h.w.b5,h.w.c5]
def PA(h:lX H l x):Op.av 5 [.ptr l 6] H=B1 (.agg (x.jP.map iC)):=by
 rw[h.at'.fq (by simp[dQ,h.w.b5,h.w.c5]),dQ,show 6=(x.fT.map iC).length+1 by simp[h.w.b5],Q2,Lm,y8,ki (by simp[h.w.c5]),zp (by simp[h.w.c5])]
def Jm(h:lX H l x){v:Int}(a:0<=v)(b:v<=4):Op.store 1 [.ptr l 5,.int .i64 v] H=B1 (.undef,H.set l (OR (dQ {x with lane:=v}) vq))/\lX (H.set l (OR (dQ {x with lane:=v}) vq)) l {x with lane:=v}:=by
 refine⟨?_,⟨h.w.b5,h.w.c5,a,b,h.w.b4⟩,h.at'.set _⟩;rw[h.at'.st 5 rfl (by simp[dQ,h.w.b5]),dQ,Od _ _ (by simp[h.w.b5])];simp[h.w.b5,dQ,iC]
def Rk(h:lX H l x){k:Nat}(hk:k<5)(v:Int):Op.store 1 [.ptr l (6+k),.int .i64 v] H=B1 (.undef,H.set l (OR (dQ {x with jP:=x.jP.set k v}) vq))/\lX (H.set l (OR (dQ {x with jP:=x.jP.set k v}) vq)) l {x with jP:=x.jP.set k v}:=by
 refine⟨?_,⟨h.w.b5,by simp[h.w.c5],h.w.l0,h.w.l4,h.w.b4⟩,h.at'.set _⟩;rw[h.at'.st (6+k) rfl (by simp[dQ,h.w.b5,h.w.c5];omega),dQ,Od _ _ (by simp[h.w.b5];omega),xu,h.w.b5,show 6+k-5=k+1 by omega,List.set_cons_succ,List.set_append_left _ _ (by simp[h.w.c5];exact hk)];simp[dQ,iC,List.map_set]
def Ka(h:lX H l x):Op.store 5 [.ptr l 6,.agg (La.kZ.map iC)] H=B1 (.undef,H.set l (OR (dQ {x with jP:=La.kZ}) vq))/\lX (H.set l (OR (dQ {x with jP:=La.kZ}) vq)) l {x with jP:=La.kZ}:=by
 refine⟨?_,⟨h.w.b5,rfl,h.w.l0,h.w.l4,h.w.b4⟩,h.at'.set _⟩;rw[h.at'.iv (n:=5) rfl (by simp[dQ,h.w.b5,h.w.c5]) rfl,dQ,show 6=(x.fT.map iC).length+1 by simp[h.w.b5],Tt,wT,Q2];simp[dQ,h.w.c5,z7]
def gj(h:lX H l x):∀K,C3 M B4 (.func qj8) [.ptr l 0] H K=K B4 (.bool B2) H:=by
 refine dI (qsk ?_);simp only[aa,bc,qsl,aA,QE h]
def iD(h:lX H l x):∀K,C3 M B4 (.func qj7) [.ptr l 0] H K=K B4 (.int .i64 x.lane) H:=by
 refine dI (qsh ?_);simp only[aa,bc,qsi,aA,gj h,iN h]
def ta(h:lX H l x):∀K,C3 M B4 (.func E3) [.ptr l 0] H K=K B4 (.bool x.qS) H:=by
 refine dI (qsg ?_);unfold La.qS
 by_cases q:x.lane=1
 .simp only[aa,bc,qkd,aA,gj h,iN h,q,Bool.true_or]
 .simp only[aa,bc,qkd,aA,gj h,iN h,q,Bool.false_or]
def z5:[AV.int .i64 0,.int .i64 0,.int .i64 0,.int .i64 0,.int .i64 0]=La.kZ.map iC:=rfl
def PJ(l:List Int):aQ (l.map iC)=true:=by rw[vz];simp[iC,az]
def HH(h:lX H l x):zk M qh7 [.ptr l 0] H λ v H'=>v=.agg (x.jP.map iC)/\Fr Em H H':=by
 refine qpz ?_;obtain⟨H1,e1,b,-,-⟩:=cE H (OR (La.kZ.map iC) tf);have a:At H1 H.au tf _:=e1▸At.new H _ _;have d:=h.em b;have s:=a.iv (k:=0) (n:=5) (v:=.agg (x.jP.map iC)) (by rw[z7,xu];exact h.w.c5) (by decide) (by rw[z7];exact PJ _);rw[z7,yq,jc,jr (by decide),zt]at s;have l2:=((a.set (x.jP.map iC)).fq (k:=0) (n:=5) (by simp[h.w.c5]))
 rw[y8,zp (by simp[h.w.c5])]at l2;simp only[aa,bc,qp0,aA,z5,<-e1,gj d,PA d,s,l2];exact b.set (.inr (qm _)) _
def Zw(h:lX H l x):zk M qk4 [.ptr l 0] H λ v H'=>v=.int .i64 x.tries/\Fr Em H H':=by
 refine qty ?_;simp only[aa,bc,Y8];refine C3.q (HH h) λ v H1⟨r,j⟩=>?_;subst r;simp only[aa,bc];have u:=h.w.c5;have ix:∀{i:Nat},i<5->Op.bB 5 1 B5 [.agg (x.jP.map iC),.int .i64 (i:Int)]=B1 (.int .i64 (x.jP.getD i 0)):=λ{i}g=>by
  have hl:i<x.jP.length:=by omega
  simp only[Op.bB,MF rfl g,qr,Nat.mul_one,partAt,kE,xk,ja,qy hl];rfl
 refine dD.intro (λ n E d=>∃i:Nat,E=[(8,.int .i64 (i:Int)),(7,.agg (x.jP.map iC)),(3,.int .i64 ((x.jP.take i).foldl (λ n k=>aj .i64 (n+k)) 0)),(2,.int .i64 0),(0,.ptr l 0)]/\n=5-i/\i<=5/\d=H1) ?_ ?_
 .exact ⟨_,_,⟨0,rfl,rfl,x9 _,rfl⟩,by simp only[aa,bc];rfl⟩
 rintro n E d ⟨i,rfl,rfl,g,rfl⟩;rcases xx i 5 with b|m
 .have a:(i:Int)<5:=by omega
  have s:aj .i64 ((i:Int)+1)=((i+1:Nat):Int):=by rw[kc (by omega) (by omega)];omega
  simp only[aa,bc,Y8,a,ix b,s];have hl:i<x.jP.length:=by omega
  refine⟨_,_,⟨i+1,rfl,rfl,by omega⟩,?_,by omega⟩;rw[FQ,List.foldl_append,qy hl,ja,qy hl];simp only[aa,bc];rfl
 .have a:¬(i:Int)<5:=by omega
  have e:x.jP.take i=x.jP:=zp (by omega);simp only[aa,bc,Y8,a,e];exact⟨rfl,j⟩
def zV(fT:List Int)(k j:Nat):Bool:=fT.getD (k+1+j) 0 != 0
def pk(fT:List Int)(k:Nat):List (List AV):=((N1 (4-k)).filter (zV fT k)).map λ j=>[.int .i64 ((k+1+j:Nat):Int)]
def xjc{H0:ar}{p q l k:Nat}{fT:List Int}(hp:H0.get p=B1 (OR [.ptr l 0] RS))(hq:H0.get q=B1 (OR [.int .i64 (k:Int)] bU))(Z:p<H0.au)(hql:q<H0.au)(hk:k<=3) :
 uA M OG [] [.ptr q 0,.ptr p 0] (λ z=>z=p\/z=q) (λ _=>False) (λ H=>∃y,lX H l y/\y.fT=fT) H0 (pk fT k):=by
 intro Y R S j H1 X L C D loc O hI step;have⟨p1,p2,p3⟩:=L p (.inl (.inl rfl));have⟨P,J,Q⟩:=L q (.inl (.inr rfl))
 suffices h:zk M OG [.fn (.yield Y) [] [],.ptr q 0,.ptr p 0] H1 (HX R S j (λ _=>False) H1 (pk fT k).length)by
  have⟨v,H',U,W',P,J,Q⟩:=h.elim;exact⟨v,H',W',U,P,J,Q⟩
 refine qp3 ?_;have lp:∀{d:ar},Fr j H1 d->Op.ae [.ptr p 0] d=B1 (.ptr l 0):=λ f=>by rw[zh (xf (by rw[f.ah _ (by omega) p3,p2];exact hp))];rfl
 have lq:Op.ae [.ptr q 0] H1=B1 (.int .i64 (k:Int)):=by rw[zh (xf (by rw[J];exact hq))];rfl
 have wk:aj .i64 ((k:Int)+1)=((k+1+0:Nat):Int):=by rw[kc (by omega) (by omega)];omega
 simp only[aa,bc,Qm,lq,wk];refine dD.intro (λ n E d=>∃(i:Nat)(V:Nat->Prop),E=[(4,.int .i64 ((k+1+i:Nat):Int)),(0,.fn (.yield Y) [] []),(1,.ptr q 0),(2,.ptr p 0)]/\n=4-k-i/\i<=4-k/\Oi R j H1 d ((N1 i).filter (zV fT k)).length V) ?_ ?_
 .exact ⟨_,_,⟨0,j,rfl,rfl,x9 _,⟨C,λ b hb=>⟨D b hb,.inl hb⟩,Fr.refl _⟩⟩,by simp only[aa,bc]⟩
 rintro n E d ⟨i,V,rfl,rfl,hi,a⟩;rcases xx i (4-k)with I|W
 .have A:((k+1+i:Nat):Int)<5:=by omega
  obtain⟨y,hy,rfl⟩:=hI _ V d a.hR;have ix:Op.aY 5 1 [.ptr l 0,.int .i64 ((k+1+i:Nat):Int)]=B1 (.ptr l (k+1+i)):=by rw[Uf rfl (by omega)];simp
  have ls:=Ry hy (k:=k+1+i) (by omega);have T:aj .i64 (((k+1+i:Nat):Int)+1)=((k+1+(i+1):Nat):Int):=by rw[kc (by omega) (by omega)];omega
  have N:=RZ (zV y.fT k) i
  by_cases r:y.fT.getD (k+1+i) 0=0
  .have g:((N1 (i+1)).filter (zV y.fT k)).length=((N1 i).filter (zV y.fT k)).length:=by rw[N,show zV y.fT k i=B2 from bne_eq_false_iff_eq.2 r];simp
   simp only[aa,bc,Qm,A,lp a.fr,aA,ix,ls,iC,xg r,T];exact⟨_,_,⟨i+1,V,rfl,rfl,by omega,by rw[g];exact a⟩,by simp only[aa,bc],by omega⟩
  .have g:((N1 (i+1)).filter (zV y.fT k)).length=((N1 i).filter (zV y.fT k)).length+1:=by rw[N,show zV y.fT k i=B4 from bne_iff_ne.2 r];simp
   have hg:(pk y.fT k)[((N1 i).filter (zV y.fT k)).length]? = B1 [.int .i64 ((k+1+i:Nat):Int)]:=by
    unfold pk;rw[xk,Zc _ I (show zV y.fT k i=B4 from bne_iff_ne.2 r)];rfl
   have⟨bb,K,B,hr,F,u,ht,hs⟩:=step _ _ hg V d a.hR a.hV (a.fr.mono λ _ _ q=>.inl q);have m:Fr j H1 K:=a.fr.trans F λ b q=>(a.hV b q).2;have s:∀b,B b->b<K.au/\(j b\/H1.au<=b):=λ b q=>⟨(u b q).1,(u b q).2.elim (λ w=>(a.hV b w).2) λ w=>.inr (ze a.fr.au w)⟩
   simp only[aa,bc,Qm,A,lp a.fr,aA,ix,ls,iC,r];refine C3.tH hr ?_;cases bb with
   |true =>
    simp only[aa,bc,Qm,T];exact⟨_,_,⟨i+1,B,rfl,rfl,by omega,⟨by rw[g];exact ht rfl,s,m⟩⟩,by simp only[aa,bc],by omega⟩
   |false =>
    simp only[aa,bc];exact⟨B,m.mono λ _ _ q=>.inl q,s,.inr (hs rfl)⟩
 .have A:¬((k+1+i:Nat):Int)<5:=by omega
  have G:i=4-k:=by omega
  simp only[aa,bc,Qm,A];refine⟨V,a.fr.mono λ _ _ q=>.inl q,a.hV,.inl ?_⟩;have e:(pk fT k).length=((N1 i).filter (zV fT k)).length:=by unfold pk;rw[xu,G]
  rw[e];exact a.hR
def _b{fT:List Int}(a:fT.getD 4 0≠0){k:Nat}(hk:k<=3):(pk fT k)[0]? = B1 [.int .i64 (La.after fT (k:Int))]:=by
 unfold pk La.after;rw[xk];have key:∀b:Int,(b != 0)=decide (b≠0):=λ b=>by by_cases q:b=0<;>simp[q]
 rcases(by omega:k=0\/k=1\/k=2\/k=3)with rfl|rfl|rfl|rfl
 all_goals
  simp only[show N1 (4-0)=[0,1,2,3]from rfl,show N1 (4-1)=[0,1,2]from rfl,show N1 (4-2)=[0,1]from rfl,show N1 (4-3)=[0]from rfl,List.filter,zV,Nat.reduceAdd,key,ku a];generalize fT.getD 1 0=b1;generalize fT.getD 2 0=b2;generalize fT.getD 3 0=b3
  by_cases x:b1=0<;>by_cases y:b2=0<;>by_cases z:b3=0<;>simp[x,y,z]
def yW(h:lX H l x){k:Nat}(hk:k<=3):zk M M4 [.ptr l 0,.int .i64 (k:Int)] H λ _ H'=>lX H' l {x with lane:=La.after x.fT k}/\Fr (On l) H H':=by
 refine qsj ?_;obtain⟨H1,e1,U,n1,-⟩:=cE H (OR [.ptr l 0] RS);obtain⟨m,e2,C,-,-⟩:=cE H1 (OR [.ptr l 0] RS);obtain⟨A,J,s,-,g3⟩:=cE m (OR [.int .i64 (k:Int)] bU);have r:=C.em s;have K:=U.em r;have n2:m.au=H.au+2:=by rw[e2,zg,n1]
 have n3:A.au=H.au+3:=by rw[J,zg,n2]
 have Y:A.get H.au=B1 (OR [.ptr l 0] RS):=by rw[r.ah _ (by omega) id,e1,xt]
 have Z:A.get H1.au=B1 (OR [.ptr l 0] RS):=by rw[s.ah _ (by omega) id,e2,xt]
 have l1:Op.ae [.ptr H.au 0] H1=B1 (.ptr l 0):=zh (xf (e1▸xt H _)) 0;have ca:∀b,AV.cells (.ptr b 0)=[.ptr b 0]:=λ _=>rfl;have ci:∀n,AV.cells (.int .i64 n)=[.int .i64 n]:=λ _=>rfl;have op:zk M qj9 [.ptr l 0,.int .i64 (k:Int)] H1 λ v H'=>v=.fn (.func OG) [] [.ptr m.au 0,.ptr H1.au 0]/\H'=A:=by
  refine qsm ?_;have mk:Op.bt OG 0 [.ptr m.au 0,.ptr H1.au 0]=B1 (.fn (.func OG) [] [.ptr m.au 0,.ptr H1.au 0]):=rfl;simp only[aa,bc,qsn,ca,ci,<-e2,<-J];rfl
 simp only[aa,bc,I_,ca,<-e1,l1];refine C3.q op λ v H'⟨P,hh⟩=>?_;subst P;subst hh;simp only[aa,bc];have F:=h.em K;have hlt:=h.at'.2;refine iE.uz (fn:=Ta) (lp:=QT) (pa:=hQ 0) (pb:=Z4 0) qrc qh9.1 qh9.2 (by decide) qp1 qp2
  (xjc (fT:=x.fT) Z g3 (by omega) (by omega) hk) (λ i V B=>i=0/\lX B l x/\V l) (λ e V B=>e=.ret/\lX B l {x with lane:=La.after x.fT k}/\V l) (On l) (qm _) ?_ ?_ ?_ ?_ ?_ ?_ ?_ ?_ ?_
 .rintro z ((q|q)|q)
  .exact ⟨by omega,rfl,λ(w:z=l)=>by omega⟩
  .exact ⟨by omega,rfl,λ(w:z=l)=>by omega⟩
  .exact q.elim
 .exact λ z(G:z=l)=>by omega
 .exact ⟨rfl,F,rfl⟩
 .exact λ i V S Hb⟨I,j,u⟩hs hn=>⟨I,⟨j.w,by rw[hs l u];exact j.at'.1,qn j.at'.2 hn⟩,u⟩
 .exact λ i V S Hb⟨I,j,u⟩hs hn=>⟨I,⟨j.w,by rw[hs l u];exact j.at'.1,qn j.at'.2 hn⟩,u⟩
 .exact λ i V B⟨_,q,_⟩=>⟨_,q,rfl⟩
 .intro a i lr lb y Q hL2 V g ⟨O,hP,hV⟩ hb hf6 hnL hL6 hgL;subst O;rw[_b h.w.b4 hk]at Q;cases Q;refine⟨_,rfl,?_⟩;obtain⟨-,wa,wb⟩:=I_ M ⟨B1 a,M4⟩;simp only[aa,bc,wa,AG];refine⟨hgL,?_⟩;have L:Fr (On a) g (g.set a lb):=(Fr.refl g).set (W:=On a) (.inl rfl) _;have gL:(g.set a lb).get a=B1 lb:=xj ..;have nL:(g.set a lb).au=g.au:=rfl;have R:a≠l:=λ q=>hnL (by rw[q];exact hV);have h7:lX (g.set a lb) l x:=hP.fr L (λ q:l=a=>R q.symm);have lq:Op.ae [.ptr H.au 0] (g.set a lb)=B1 (.ptr l 0):=by
   rw[zh (xf (by rw[j9 (by omega),hf6.ah H.au (by omega) (λ q=>q.elim (λ q:H.au=l=>by omega) id)];exact Y))];rfl
  generalize g.set a lb=H7 at *;obtain⟨a0,T⟩:0<=La.after x.fT (k:Int)/\La.after x.fT (k:Int)<=4:=by unfold La.after;repeat' split<;>omega
  have⟨s8,h8⟩:=Jm h7 a0 T;simp only[aa,bc,wb,lq,aA,s8];have X:Fr (On l) H7 (H7.set l (OR (dQ {x with lane:=La.after x.fT k}) vq)):=cj ..;refine⟨rfl,by rw[j9 (λ q=>R q.symm)];exact gL,V,λ z G=>⟨by have:=(hb z G).1;rw[qI,nL];exact this,.inl G⟩,(L.mono λ z _ q=>.inr q).trans X λ z(q:z=l)=>.inl (.inl (by rw[q];exact hV)),.inr ⟨trivial,rfl,h8,hV⟩⟩
 .rintro d V H' hd E hg N hV ⟨O,-⟩;exfalso;have:=(qo.1 (_b h.w.b4 hk)).1;omega
 .rintro e d V H' he hd E hg N hV ⟨rfl,hl,P⟩;have D:d≠l:=λ q=>by omega
  have fd:Fr (On d) H' (H'.set d (.deferred B5)):=(Fr.refl H').set (W:=On d) (.inl rfl) _;simp only[aa,bc];refine⟨hg,hl.fr fd (λ q:l=d=>D q.symm),?_⟩;exact((K.mono (W':=On l) λ _ _ q=>q.elim).trans (N.mono λ z _ q=>q.elim id OH) λ z q=>.inl q).trans fd λ z(q:z=d)=>.inr (by omega)
def RU(H:ar)(l:Nat)(y:La)(H':ar):Prop:=lX H' l y/\Fr (On l) H H'
def Mb(h:lX H l x):zk M qjb [.ptr l 0] H λ _ H'=>RU H l x.leave H':=by
 refine qrb ?_;unfold La.leave
 by_cases q:x.lane=0
 .rw [xb q];simp only[aa,bc,nB,aA,gj h,iN h,xg q];exact⟨h,Fr.refl _⟩
 .rw [qt q];have⟨s1,b⟩:=Jm h (v:=0) (by decide) (by decide);have⟨s2,d⟩:=Ka b;have a:Op.build [.int .i64 0,.int .i64 0,.int .i64 0,.int .i64 0,.int .i64 0] [] []=B1 (.agg (La.kZ.map iC)):=rfl;simp only[aa,bc,nB,aA,gj h,iN h,q,a,s1,s2];exact⟨d,(cj ..).trans (cj ..) λ z q=>.inl q⟩
def LC(h:lX H l x):zk M qja [.ptr l 0] H λ _ H'=>RU H l x.enter H':=by
 refine qra ?_;unfold La.enter
 by_cases q:x.lane=0
 .rw [xb q];have⟨s2,e⟩:=Ka h;have b:Op.build [.int .i64 0,.int .i64 0,.int .i64 0,.int .i64 0,.int .i64 0] [] []=B1 (.agg (La.kZ.map iC)):=rfl;simp only[aa,bc,Q_,aA,gj h,iN h,xg q,b,s2];refine C3.q (yW e (k:=0) (by decide)) λ v g⟨a,d⟩=>?_;simp only[aa,bc,aA,iN a];exact⟨a,(cj ..).trans d λ z q=>.inl q⟩
 .rw [qt q];simp only[aa,bc,Q_,aA,gj h,iN h,q];exact⟨h,Fr.refl _⟩
def LO(h:lX H l x)(c:Int):zk M qi9 [.ptr l 0,.int .i64 c] H λ _ H'=>RU H l (x.abort c) H':=by
 refine qq9 ?_;unfold La.abort;have U:=h.w.l0;have V:=h.w.l4
 by_cases g:x.lane=0
 .rw [xb (.inl g)];simp only[aa,bc,j7,aA,gj h,iN h,xg g];exact⟨h,Fr.refl _⟩
 by_cases i:x.lane=4
 .rw [xb (.inr (.inl i))];simp only[aa,bc,j7,aA,gj h,iN h,g,xg i];exact⟨h,Fr.refl _⟩
 by_cases n:c<1
 .rw [xb (.inr (.inr (.inl n)))];simp only[aa,bc,j7,aA,gj h,iN h,g,i,n];exact⟨h,Fr.refl _⟩
 by_cases s:8<c
 .rw [xb (.inr (.inr (.inr (.inl s))))];simp only[aa,bc,j7,aA,gj h,iN h,g,i,n,s];exact⟨h,Fr.refl _⟩
 by_cases A:c=7
 .rw [xb (.inr (.inr (.inr (.inr A))))];simp only[aa,bc,j7,aA,gj h,iN h,g,i,n,s,xg A];exact⟨h,Fr.refl _⟩
 rw[qt (by omega)];have⟨k,hk⟩:=jt U;have E:k<=3:=by omega
 have ix:∀o,Op.aY 5 1 [.ptr l o,.int .i64 x.lane]=B1 (.ptr l (o+k)):=λ o=>by rw[hk,Uf rfl (by omega)];simp
 have lc:=QB h (k:=k) (by omega);have⟨s1,d⟩:=Rk h (k:=k) (by omega) (aj .i64 (x.jP.getD k 0+1));have N:x.lane.toNat=k:=by omega
 have T:x.count=x.jP.getD k 0:=by unfold La.count;rw[N]
 obtain⟨y,F⟩:∃y:La,y = {x with jP:=x.jP.set k (aj .i64 (x.jP.getD k 0+1))}:=⟨_,rfl⟩
 rw[<-F]at d s1;rw[T,N];simp only[<-F];have Q:y.lane=x.lane:=by rw[F]
 have I:y.fT=x.fT:=by rw[F]
 have P:y.jP=x.jP.set k (aj .i64 (x.jP.getD k 0+1)):=by rw[F]
 have J:y.qS=x.qS:=by unfold La.qS;rw[Q]
 have S:Fr (On l) H (H.set l (OR (dQ y) vq)):=cj ..
 by_cases C:x.qS=B4/\c=3
 .rw [xb C];simp only[aa,bc,j7,aA,gj h,iN h,g,i,n,s,A,ix,lc,iC,s1,ta d,J,xg C.2,C.1];refine C3.q (yW d (k:=2) (by decide)) λ v B⟨e,D⟩=>?_;simp only[aa,bc,j7,aA,iN e];rw[I,P]at e;exact⟨e,S.trans D λ z q=>.inl q⟩
 rw[qt C];have K:=(iN d).trans (by rw[Q]);have m:=QB d (k:=k) (by omega);have j:=Ry d (k:=k) (by omega);have R:y.count=y.jP.getD k 0:=by unfold La.count;rw[Q,N]
 have O:=ix 0;rw[yr]at O;have cont:C3 M B4 (.func M4) [.ptr l 0,.int .i64 x.lane] (H.set l (OR (dQ y) vq))=C3 M B4 (.func M4) [.ptr l 0,.int .i64 (k:Int)] (H.set l (OR (dQ y) vq)):=by rw[hk]
 have fin:∀{z:La}{B:ar},lX B l z->Fr (On l) (H.set l (OR (dQ y) vq)) B->RU H l z B:=λ a b=>⟨a,S.trans b λ z q=>.inl q⟩
 by_cases L:y.count=x.fT.getD k 0
 .rw [xb L];have G:y.jP.getD k 0=y.fT.getD k 0:=by rw[<-R,L,I]
  by_cases r:x.qS=B4
  .have u:¬c=3:=λ w=>C ⟨r,w⟩;simp only[aa,bc,j7,aA,gj h,iN h,g,i,n,s,A,ix,lc,iC,s1,ta d,J,r,u,K,m,j,xg G,cont];refine C3.q (yW d (k:=k) E) λ v B⟨e,D⟩=>?_;simp only[aa,bc,j7,aA,iN e];rw[I,<-hk,P]at e;exact fin e D
  .rw [Bool.not_eq_true]at r;simp only[aa,bc,j7,aA,gj h,iN h,g,i,n,s,A,ix,lc,iC,s1,ta d,J,r,K,m,j,xg G,cont];refine C3.q (yW d (k:=k) E) λ v B⟨e,D⟩=>?_;simp only[aa,bc,j7,aA,iN e];rw[I,<-hk,P]at e;exact fin e D
 .rw [qt L];have G:¬y.jP.getD k 0=y.fT.getD k 0:=λ w=>L (by rw[R,w,I])
  by_cases r:x.qS=B4
  .have u:¬c=3:=λ w=>C ⟨r,w⟩;simp only[aa,bc,j7,aA,gj h,iN h,g,i,n,s,A,ix,lc,iC,s1,ta d,J,r,u,K,m,j,G];exact fin d (Fr.refl _)
  .rw [Bool.not_eq_true]at r;simp only[aa,bc,j7,aA,gj h,iN h,g,i,n,s,A,ix,lc,iC,s1,ta d,J,r,K,m,j,G];exact fin d (Fr.refl _)
end
end Go.Am
