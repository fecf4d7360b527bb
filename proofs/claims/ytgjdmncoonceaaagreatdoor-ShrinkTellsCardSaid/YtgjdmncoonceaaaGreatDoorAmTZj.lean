import Derived.Test.YtgjdmncoonceaaaGreatDoorAmTZi
import Derived.Test.YtgjdmncoonceaaaGreatDoorAmTZg
import Derived.Test.YtgjdmncoonceaaaGreatDoorAmTZf
set_option linter.defProp false
set_option linter.unusedVariables false
set_option linter.unusedSimpArgs false
set_option linter.unusedSectionVars false
set_option maxRecDepth 100000
open Bool renaming false→B2,true→B4
open False renaming elim→ND
open Go renaming IntKind→OM
open Int renaming reduceEq→Qr
open List renaming range→MX,replicate→Ji
open Nat renaming beq→JW
open Option renaming isSome→BL,none→B5,some→B1
open Nat renaming reduceEqDiff→bc
namespace Go.Am
open Go.Proofs Ca
open Lang (ints)
variable{M:ak}[MK M]
def pH(l s w:Int)(k:Nat):List No:=(MX k).map λ(i:Nat)=>pD (i:Int) l s w
def gD(l c s w:Int):Bu:=⟨Ji l.toNat .zero,Ji l.toNat iL,pH l s w c.toNat,[]⟩
def sT(l c s w:Int):Prop:=zH l c/\ta s w
instance(l c s w:Int):Decidable (sT l c s w):=inferInstanceAs (Decidable (_/\_))
def Wm{l s w:Int}{k i:Nat}{n:No}(h:(pH l s w k)[i]? = B1 n):i<k/\n=pD (i:Int) l s w:=by
 unfold pH at h;rw[xq,xr]at h;have⟨j,a,e⟩:=h;have hk:=(qt.1 a).1;rw[jj]at hk;rw[kj hk]at a;cases a;exact⟨hk,e.symm⟩
def TW(l s w:Int)(k:Nat):(pH l s w k).length=k:=by unfold pH;rw[xu,jj]
structure J9(H0 H:ar)(B D mp:Nat)(lv ev nv:AV)(l c s w:Int)(ad:List Na)(own:Nat->Nat):Prop where
 row:H.get B=B1 (OR [.ptr D 0,nv,.nils,.int .i64 l] Kn)
 lt:B<H.au
 d:mT H D mp lv ev c (Ji l.toNat .zero) (Ji l.toNat (iL,.nils))
 Xj:aO pA KH 1 H nv (ad.map Na.r)
 no:∀(k:Nat)(A:Na),ad[k]? = B1 A->di H0 H A.r A.b A.sv A.bv (pD (k:Int) l s w) A.ks
 oB:own B=0
 oD:∀z,mO D mp lv ev (Ji l.toNat (iL,.nils)) z->own z=1
 oN:∀z,aM nv z->own z=2
 oC:∀(k:Nat)(A:Na),ad[k]? = B1 A -> ∀z,A.w z->own z=4+k
 OS:H0.au<=B
 loD:∀z,mO D mp lv ev (Ji l.toNat (iL,.nils)) z->H0.au<=z
 QP:∀z,aM nv z->H0.au<=z
 fr:Fr Em H0 H
def di.base{H0 H1 H:ar}{r b:Nat}{sv bv:AV}{n:No}{ks:List Nat}(h:di H1 H r b sv bv n ks)(f:Fr Em H0 H1):di H0 H r b sv bv n ks:=by
 have hn:=f.au;refine⟨h.row,h.lt,h.ca,⟨?_,f.trans h.bk.fr λ _ q=>.inl q⟩,h.eq,xx hn h.lr,xx hn h.lb,xx hn h.ls,h.n1,h.n2,h.o1,h.o2,h.o3,h.li,h.len⟩;rcases h.bk.own with q|⟨b,m,rest,a,d,e,g⟩
 .exact .inl q
 .exact .inr ⟨b,m,rest,a,d,xx hn e,g⟩
def di.all{H0 H:ar}{r b:Nat}{sv bv:AV}{n:No}{ks:List Nat}(h:di H0 H r b sv bv n ks){z:Nat}(a:iK r b sv bv z):H0.au<=z:=by
 rcases a with rfl|(rfl|rfl)|a
 .exact h.lr
 .exact h.lb
 .exact h.ls
 .exact (h.bk.fresh z a).1
section
variable{H0 H:ar}{B D mp:Nat}{lv ev nv:AV}{l c s w:Int}{ad:List Na}{own:Nat->Nat}
def J9.step(h:J9 H0 H B D mp lv ev nv l c s w ad own)(R:ad.length<=4){H1:ar}{A:Na}(G:di H H1 A.r A.b A.sv A.bv (pD (ad.length:Int) l s w) A.ks){K:bE->(Nat->AV)->Bool->AV->ar->Prop}
 (hk:∀v j,(∃I,Op.store 1 [.ptr B 1,v] j=B1 (.undef,I)/\(∃F,J9 H0 I B D mp lv ev v l c s w (ad ++ [A]) F)/\Fr (λ z=>z=B\/aM nv z) H I /\ ∀z,aM v z->aM nv z\/H.au<=z)->K (.row [.ptr A.r 0] KH (0,0) B4) (Op.sliceTo 1 1) B4 v j) :
 jF B4 (Op.buildSlice KH 1 [.nilp] [(0,1)] [.ptr A.r 0]) λ g o mk=>jF g (Op.append KH 1 8 [nv,mk H1.au] (H1.alloc o)) (K o mk):=by
 have m:Fr Em H H1:=G.bk.fr;have S:=m.au;refine nR (e:=KH) (size:=1) (bytes:=8) (Own.em h.Xj m) (x:=.ptr A.r 0) rfl rfl rfl (by decide) (by rw[xu];omega) (by rw[xu];omega) λ v j N E L=>?_;refine hk v j ?_;have low:∀z,(z=B\/mO D mp lv ev (Ji l.toNat (iL,.nils)) z\/aM nv z \/ ∃k i,ad[k]? = B1 i/\Na.w i z)->z<H.au:=λ z f=>by
  rcases f with rfl|f|f|⟨k,i,a,f⟩
  .exact h.lt
  .exact h.d.low f
  .exact Own.lt h.Xj z f
  .exact (h.no k i a).low f
 have ne:∀{z k:Nat},own z=k->k≠2 -> ¬aM nv z:=λ e1 e2 q=>e2 (by rw[<-e1];exact h.oN _ q);have Q:j.get B=B1 (OR [.ptr D 0,nv,.nils,.int .i64 l] Kn):=by
  rw[E.ah _ (by have:=h.lt;omega) (ne h.oB (by decide)),m.ah _ h.lt id];exact h.row
 have o1:aD v=true:=by have:=Sl.one (Own.sl N);exact this
 have J:v.cells=[v]:=by cases v<;>first|rfl|cases o1
 have st:=xK Q (o:=1) (n:=1) (v:=v) (by rw[J];rfl) (by simp) (by rw[J,vd];simpa using o1);rw[J]at st;have T:=E.au;have C:Fr (On B) j (j.set B (OR ([AV.ptr D 0,nv,.nils,.int .i64 l].take 1 ++ [v] ++ [AV.ptr D 0,nv,.nils,.int .i64 l].drop (1+1)) Kn)):=(Fr.refl j).set (W:=On B) (.inl rfl) _;have P:H0.au<=H.au:=h.fr.au;have O:∀{z k:Nat},own z=k->k≠0 -> ¬z=B:=λ e1 e2 q=>e2 (by rw[<-e1,q];exact h.oB);have t:∀z,aM v z->(aM nv z/\z<H.au)\/H1.au<=z:=λ z f=>(L z f).elim (λ q=>.inl ⟨q,low z (.inr (.inr (.inl q)))⟩) .inr;have u:Fr (aM nv) H j:=(m.mono λ _ _ q=>q.elim).trans E λ z q=>.inl q;have p:∀z,A.w z->H.au<=z/\z<H1.au:=λ z f=>⟨G.all f,G.low f⟩
 refine⟨_,st,⟨(λ z=>if z<H.au then own z else if z<H1.au then 4+ad.length else 2),xc ..,?_,?_,?_,λ k i a=>?_,?_,λ z f=>?_,λ z f=>?_,λ k i a z f=>?_,h.OS,h.loD,λ z f=>?_,?_⟩,(u.mono λ z _ q=>.inr q).trans C λ z(q:z=B)=>.inl (.inl q),λ z f=>(t z f).elim (λ q=>.inl q.1) λ q=>.inr (by omega)⟩
 .have:=h.lt;show B<j.au;omega
 .exact (h.d.fr u λ z q w=>ne (h.oD z w) (by decide) q).fr C λ z q w=>O (h.oD z w) (by decide) q
 .have ow:aO pA KH 1 j v ((ad ++ [A]).map Na.r):=by
   rw[Jz];unfold aO;rw[xe,ki];exact N
  refine Own.fr ow C λ z f(q:z=B)=>?_;rcases t z f with⟨w,-⟩|w
  .exact O (h.oN z w) (by decide) q
  .have:=h.lt;omega
 .by_cases e:k<ad.length
  .rw [yx e]at a;refine((h.no k i a).off u λ z w=>⟨h.QP z w,λ w2=>?_⟩).off C λ z w=>?_
   .have:=h.oC k i a z w2;have:=h.oN z w;omega
   .have w:z=B:=w;refine⟨by rw[w];exact h.OS,λ w2=>?_⟩;have:=h.oC k i a z w2;rw[w,h.oB]at this;omega
  .have hk:=(qt.1 a).1;rw[xe]at hk;have y:k=ad.length:=by simp only[zu,jq]at hk;omega
   subst y;rw[z4 (qm _),Ia]at a;cases a;refine((G.base h.fr).off E λ z w=>⟨h.QP z w,λ w2=>?_⟩).off C λ z w=>?_
   .have:=p z w2;have:=low z (.inr (.inr (.inl w)));omega
   .have w:z=B:=w;refine⟨by rw[w];exact h.OS,λ w2=>?_⟩;have:=p z w2;have:=h.lt;omega
 .rw [xg h.lt];exact h.oB
 .rw [xg (low z (.inr (.inl f)))];exact h.oD z f
 .rcases t z f with⟨w,w2⟩|w
  .rw [xg w2];exact h.oN z w
  .rw [qy (by omega),qy (by omega)]
 .by_cases e:k<ad.length
  .rw [yx e]at a;rw[xg (low z (.inr (.inr (.inr ⟨k,i,a,f⟩))))];exact h.oC k i a z f
  .have hk:=(qt.1 a).1;rw[xe]at hk;have y:k=ad.length:=by simp only[zu,jq]at hk;omega
   subst y;rw[z4 (qm _),Ia]at a;cases a;have:=p z f;rw[qy (by omega),xg this.2]
 .rcases t z f with⟨w,-⟩|w
  .exact h.QP z w
  .omega
 .exact ((h.fr.trans m λ _ q=>.inl q).trans E λ z q=>.inr (h.QP z q)).trans C λ z(q:z=B)=>.inr (by rw[q];exact h.OS)
def J9.done(h:J9 H0 H B D mp lv ev nv l c s w ad own)(hl:ad.length=c.toNat)(f:0<=c)(e:0<=l):eL H0 H B ⟨D,mp,lv,ev,Ji l.toNat (iL,.nils),nv,.nils,ad⟩ (gD l c s w) own:=by
 have hlen:((gD l c s w).ns.length:Int)=c:=by show((pH l s w c.toNat).length:Int)=c;rw[TW];omega
 refine⟨?_,h.lt,?_,?_,h.Xj,λ k n A hn b=>?_,?_,Sk.nil _,h.oB,h.oD,h.oN,λ z q=>absurd rfl q.1,h.oC,λ z a=>?_⟩
 .rw [h.row];have:((gD l c s w).l.length:Int)=l:=by show((Ji l.toNat iL).length:Int)=l;rw[jg];omega
  rw[this]
 .rw [hlen];exact h.d
 .show (Ji l.toNat (iL,AV.nils)).map Prod.fst=Ji l.toNat iL;rw[List.map_replicate]
 .obtain ⟨-,rfl⟩:=Wm hn;exact h.no k A b
 .show ad.length=(pH l s w c.toNat).length;rw[TW,hl]
 .rcases a with rfl|a|a|a|⟨k,A,b,a⟩
  .exact h.OS
  .exact h.loD z a
  .exact h.QP z a
  .exact absurd rfl a.1
  .exact (h.no k A b).all a
end
end Go.Am
namespace Go.Am
open Ca
def Hf{N l:Int}(b:0<=N)(a:N<=4):XI iL N l:=⟨⟨a,⟨by decide,by show(-1:Int)<N;omega⟩,by decide,by decide,λ c _ _ q=>(by have q:hb 0 c=1:=q;rw[_E]at q;cases q),λ m hm=>(nomatch hm)⟩,λ q=>absurd rfl q⟩
def zQ{l c s w:Int}{m:List L8}{V:Int->L8}(h:sT l c s w)(hm:m.length=l.toNat):BuI {gD l c s w with m:=m} V:=by
 obtain⟨⟨⟨l0,l1⟩,e,f⟩,hs⟩:=h;have a:(gD l c s w).ns.length=c.toNat:=TW ..;have b:((gD l c s w).l.length:Int)=l:=by show((Ji l.toNat iL).length:Int)=l;rw[jg];omega
 refine⟨by show(gD l c s w).ns.length<=4;rw[a];omega,by show m.length=(Ji l.toNat iL).length;rw[hm,jg],λ k n hn=>?_,λ m hm=>(nomatch hm),λ i x d=>?_⟩
 .obtain ⟨hk,rfl⟩:=Wm hn;exact⟨ac5 (cores:=c) ⟨hs,by omega,by omega,by omega,l0,l1⟩,rfl,b.symm⟩
 .rw [vr (show x∈Ji l.toNat iL from zd d)];exact Hf (by omega) (by show((gD l c s w).ns.length:Int)<=4;rw[a];omega)
structure Bt where
 k:Int
 c:Int
 n:Int
 v:Int
 o:Int
def No.call(n:No)(x:Bt):No×List Mg :=
 if x.k=0 then((n.load x.n).1,(n.load x.n).2.2.2.1)
 else if x.k=1 then((n.store x.n x.v).1,(n.store x.n x.v).2.2.1)
 else if x.k=2 then n.mV x.n x.o x.v
 else if x.k=3 then(n.begin,[])
 else if x.k=4 then(n.bt,[])
 else if x.k=5 then((n.abort x.n).1,[])
 else if x.k=6 then n.db x.n
 else(n,[])
def Bu.step(b:Bu)(x:Bt):Bu :=
 if x.k=7 then if 0<=x.n/\x.n<b.fl.length then b.wQ x.n.toNat else b
 else if 0<=x.c then match b.ns[x.c.toNat]? with
  |none=>b
  |some n=>b.put x.c.toNat (n.call x)
 else b
def Pt{b:Bu}{V:Int->L8}(h:BuI b V)(i:Nat):BuI (b.wQ i) V:=by
 unfold Bu.wQ;cases hm:b.fl[i]? with
 |none=>exact h
 |some m =>
  have he:∀o∈b.fl.eraseIdx i,o∈b.fl:=λ o q=>List.mem_of_mem_eraseIdx q;obtain⟨mk,e,ml⟩:=h.mw m (zd hm);simp only
  by_cases g:m.k<=7
  .rw [xg g];obtain⟨x,w,f,hw,u⟩:=h.entry ml.1 ml.2;rw[f,hw];obtain⟨a,o⟩:=G9 (w:=w) u e rfl;have hl:=(qt.1 f).1;refine⟨h.N4,by simp only[ze];exact h.ml,λ c n hn=>by simp only[ze];exact h.nw c n hn,λ y d=>?_,λ j y d=>?_⟩
   .simp only[ze];rcases jm.1 d with q|q
    .exact h.mw y (he y q)
    .obtain ⟨p,r,t⟩:=o y q;exact⟨.inr p,r,by rw[t];exact ml⟩
   .have d:(b.l.set m.line.toNat (x.bT w m).1)[j]? = B1 y:=d
    by_cases q:j=m.line.toNat
    .subst q;rw[zk hl]at d;injection d with d;subst d
     rw[LW ml.1];exact a
    .rw [zq (rT q)]at d;exact h.xs j y d
  .rw [qy g];obtain⟨n,hn,w⟩:=h.core e.1 e.2;rw[hn];exact h.node hn (w.ni.bT m) (No.Gc w.ni m) he
def EC{b:Bu}{V:Int->L8}(h:BuI b V)(x:Bt):BuI (b.step x) V:=by
 unfold Bu.step;split
 .split
  .exact Pt h _
  .exact h
 split
 .cases hn:b.ns[x.c.toNat]? with
  |none=>exact h
  |some n =>
   have w:=(h.nw _ n hn).ni;simp only;unfold No.call;split;· exact h.call hn (w.load _) (No.GM _)
   split;· exact h.call hn (w.store _ _) (No.C7 _ _)
   split;· exact h.call hn (w.mV _ _ _) (No.Lw _ _ _)
   split;· exact h.call hn (show n.begin.NI by unfold No.begin;split;exact w;exact⟨w.ci,λ q=>by cases q⟩) No.D2
   split;· exact h.call hn (show n.bt.NI by unfold No.bt;split;exact⟨w.ci.bt,λ _=>w.ci.zO⟩;exact w) No.zY
   split;· exact h.call hn (show(n.abort x.n).1.NI by unfold No.abort;(repeat' split)<;>first|exact w|exact w.iN _) (No.D5 _)
   split;· exact h.call hn (w.db _) (No.GC w _)
   rw[KI hn];exact h
 .exact h
structure BC(b:Bu)(k:Nat):Prop where
 fl:b.fl.length<=5*k
 no:∀(c:Nat)n,b.ns[c]? = B1 n->n.aS.length<=k/\n.c.us<=2*(k:Int)
 wt:∀x∈b.l,x.wt.length<=k
def BC.mono{b:Bu}{k k':Nat}(h:BC b k)(hk:k<=k'):BC b k':=⟨xx h.fl (by omega),λ c n hn=>by have:=h.no c n hn;omega,λ x a=>xx (h.wt x a) hk⟩
def BC.bb{b:Bu}{V:Int->L8}{k:Nat}(h:BC b k)(hI:BuI b V)(hk:k<=100000):BB b:=⟨hI.N4,by have:=h.fl;omega,λ c n hn=>by have:=h.no c n hn;exact⟨(hI.nw c n hn).ni,by omega,by omega⟩⟩
def ag9{l c s w:Int}:BC (gD l c s w) 0:=by
 refine⟨qm _,λ k n hn=>?_,λ x a=>?_⟩
 .obtain ⟨-,rfl⟩:=Wm hn;exact⟨qm _,yP _⟩
 .rw [vr (show x∈Ji l.toNat iL from a)];exact qm _
def QB{b:Bu}{k c:Nat}{n n':No}{o:List Mg}(h:BC b k)(hn:b.ns[c]? = B1 n)(hb:Bd n n')(ho:o.length<=5):BC (b.put c (n',o)) (k+1):=by
 have hl:=(qt.1 hn).1;refine⟨?_,λ d y a=>?_,λ x e=>Nat.le_succ_of_le (h.wt x e)⟩
 .show (b.fl++o).length<=_;rw[xe];have:=h.fl;omega
 .have a:(b.ns.set c n')[d]? = B1 y:=a
  by_cases q:d=c
  .rw [q,zk hl]at a;cases a;have⟨f,g⟩:=hb;have:=h.no c n hn;omega
  .rw [zq (rT q)]at a;have:=h.no d y a;omega
def xgw(x:De)(w:L8):(x.eh w).1.wt=x.wt:=by
 unfold De.eh
 repeat' split
 all_goals rfl
def xgh(x:De)(n:Mg)(w:L8):(x.begin n w).1.wt=x.wt:=by
 unfold De.begin;split
 .rfl
 .split
  .exact xgw _ w
  .rfl
def Uo(x:De)(w:L8)(q:Prop)[Decidable q](r:List Mg):(x.vJ w q r).1.wt=x.wt:=by
 unfold De.vJ;split
 .exact xgw x w
 .rfl
def GP(x:De)(w:L8)(m:Mg):(x.bT w m).1.wt.length<=x.wt.length+1:=by
 unfold De.bT;split;· exact kc _
 split
 .split
  .simp
  .rw [xgh];exact kc _
 split;· rw[Uo];show x.wt.length<=_;omega
 split;· rw[Uo];show x.wt.length<=_;omega
 split;· rw[Uo];show x.wt.length<=_;omega
 split;· rw[Uo];show x.wt.length<=_;omega
 cases h:x.wt with
 |nil=>simp[h]
 |cons n r=>simp only;rw[xgh];simp only[zu];omega
def ME(n:No)(x:Bt):Bd n (n.call x).1/\(n.call x).2.length<=5:=by
 unfold No.call;split;· exact⟨Gk n _,xx (xg0 n _) (by decide)⟩
 split;· exact⟨EM n _ _,xx (_X n _ _) (by decide)⟩
 split;· exact⟨Kb n _ _ _,xx (xky n _ _ _) (by decide)⟩
 split
 .refine ⟨?_,xw _⟩;show Bd n n.begin;unfold No.begin;split<;>exact⟨by show n.aS.length<=_;omega,by show n.c.us<=_;omega⟩
 split
 .refine ⟨?_,xw _⟩;show Bd n n.bt;unfold No.bt;split<;>exact⟨by show n.aS.length<=_;omega,by show n.c.us<=_;omega⟩
 split
 .refine ⟨?_,xw _⟩;show Bd n (n.abort _).1;unfold No.abort;repeat' split
  all_goals exact⟨by show n.aS.length<=_;omega,by show n.c.us<=_;omega⟩
 split;· exact⟨HI n _,xx (D1 n _) (by decide)⟩
 exact⟨Bd.refl n,xw _⟩
def Oy{b:Bu}{k:Nat}(h:BC b k)(i:Nat):BC (b.wQ i) (k+1):=by
 unfold Bu.wQ;cases hm:b.fl[i]? with
 |none=>exact h.mono (kc k)
 |some m =>
  have g:=h.fl;have he:(b.fl.eraseIdx i).length<=b.fl.length:=List.length_eraseIdx_le ..;simp only
  by_cases f:m.k<=7
  .rw [xg f];cases e:b.l[m.line.toNat]? with
   |none=>exact h.mono (kc k)
   |some x =>
    cases hw:b.m[m.line.toNat]? with
    |none=>exact h.mono (kc k)
    |some w =>
     refine⟨?_,λ c n hn=>by have:=h.no c n hn;omega,λ y a=>?_⟩
     .show (b.fl.eraseIdx i++(x.bT w m).2.2).length<=_;rw[xe];have:=E1 x w m;omega
     .have a:y∈b.l.set m.line.toNat (x.bT w m).1:=a;rcases List.mem_or_eq_of_mem_set a with q|rfl
      .exact Nat.le_succ_of_le (h.wt y q)
      .have:=GP x w m;have:=h.wt x (zd e);omega
  .rw [qy f];cases hn:b.ns[m.core.toNat]? with
   |none=>exact h.mono (kc k)
   |some n =>
    have hl:=(qt.1 hn).1;refine⟨?_,λ d y a=>?_,λ x e=>Nat.le_succ_of_le (h.wt x e)⟩
    .show (b.fl.eraseIdx i++(n.bT m).2).length<=_;rw[xe];have:=xgy n m;omega
    .have a:(b.ns.set m.core.toNat (n.bT m).1)[d]? = B1 y:=a
     by_cases q:d=m.core.toNat
     .rw [q,zk hl]at a;cases a;have⟨j,o⟩:=IH n m;have:=h.no _ n hn;omega
     .rw [zq (rT q)]at a;have:=h.no d y a;omega
def Bc{b:Bu}{k:Nat}(h:BC b k)(x:Bt):BC (b.step x) (k+1):=by
 unfold Bu.step;split
 .split
  .exact Oy h _
  .exact h.mono (kc k)
 split
 .cases hn:b.ns[x.c.toNat]? with
  |none=>exact h.mono (kc k)
  |some n=>have⟨a,d⟩:=ME n x;exact QB h hn a d
 .exact h.mono (kc k)
end Go.Am
namespace Go.Am
open Lang
structure Pr where
 a:Int
 v:Int
def dy(l:List Pr)(a:Int):Option Int:=match l with
 |[]=>B5
 |x::r=>if x.a=a then B1 x.v else dy r a
def fV(l:List Pr)(a v:Int):List Pr:=match l with
 |[]=>[⟨a,v⟩]
 |x::r=>if x.a=a then⟨a,v⟩::r else x::fV r a v
structure Fi where
 rs:List Int
 pc:Int
 pt:Option (List Int×Int)
namespace Fi
def set(f:Fi)(i v:Int):Fi:=if 0<=i/\i<8 then{f with rs:=f.rs.set i.toNat v}else f
def jump(f:Fi)(pc:Int):Fi:=if pc<0 then f else{f with pc:=pc}
def save(f:Fi):Fi:={f with pt:=B1 (f.rs,f.pc)}
def restore(f:Fi):Fi:=match f.pt with
 |some (r,p)=>{f with rs:=r,pc:=p}
 |none=>f
def drop(f:Fi):Fi:={f with pt:=B5}
end Fi
structure La where
 gf:List Int
 lane:Int
 jL:List Int
namespace La
def kZ:List Int:=[0,0,0,0,0]
def after(gf:List Int)(l:Int):Int:=if l<1/\gf.getD 1 0≠0 then 1 else if l<2/\gf.getD 2 0≠0 then 2 else if l<3/\gf.getD 3 0≠0 then 3 else 4
def rP(x:La):Bool:=decide (x.lane=1) ||decide (x.lane=2)
def enter(x:La):La:=if x.lane=0 then{x with lane:=after x.gf 0,jL:=kZ}else x
def count(x:La):Int:=x.jL.getD x.lane.toNat 0
def abort(x:La)(code:Int):La :=
 if x.lane=0\/x.lane=4\/code<1\/8<code\/code=7 then x
 else
  let y:={x with jL:=x.jL.set x.lane.toNat (aj .i64 (x.count+1))}
  if x.rP=B4/\code=3 then{y with lane:=after x.gf 2}else if y.count=x.gf.getD x.lane.toNat 0 then{y with lane:=after x.gf x.lane}else y
def leave(x:La):La:=if x.lane=0 then x else{x with lane:=0,jL:=kZ}
def tries(x:La):Int:=x.jL.foldl (λ n k=>aj .i64 (n+k)) 0
end La
inductive K0 where
 |wait
 |left (how:Int)
 |kY (a:Int)
 |take
 |back (l:List Pr)
 |fin
inductive Nx where
 |wF (n:Int) (k:K0)
 |uG (n:Int) (k:K0)
 |xF
 |wX (k:K0)
 |look (k:K0) (g:Int) (rd:List Pr) (i:Nat)
 |again (k:K0) (g:Int)
 |xH (a:Int)
 |nU (a v:Int)
 |ur
 |FD (k:K0)
structure Rq where
 op:Int
 a:Int
 v:Int
 o:Int
structure So where
 rd:List Pr
 wr:List Pr
 want:Rq
 au:Option Nx
 busy:Bool
 live:Bool
 aH:Bool
 snap:Int
 value:Int
 ended:Int
 points:Int
namespace So
def ask(p:So)(r:Rq)(n:Nx):So:={p with want:=r,au:=B1 n}
def count(p:So)(n:Int)(k:K0):So:=p.ask ⟨1,1,0,0⟩ (.wF n k)
def leave(p:So)(how:Int):So:=p.count 18446744073709551615 (.left how)
def tI(p:So):So:=p.ask ⟨1,0,0,0⟩ .xF
def validate(p:So)(k:K0):So:=p.ask ⟨1,0,0,0⟩ (.wX k)
def kY(p:So)(a:Int):So:=p.ask ⟨1,a,0,0⟩ (.xH a)
def take(p:So):So:=p.ask ⟨3,0,aj .u64 (p.snap+1),p.snap⟩ .ur
def back(p:So):List Pr->So
 |x::l=>p.ask ⟨2,x.a,x.v,0⟩ (.FD (.back l))
 |[]=>p.ask ⟨2,0,aj .u64 (p.snap+2),0⟩ (.FD .fin)
def pK(p:So)(g:Int):So:={p with snap:=g,points:=aj .i64 (p.points+1)}
def Im(p:So):K0->So
 | .wait=>p.tI
 | .left how=>{p with live:=B2,ended:=how,busy:=B2}
 | .kY a=>p.kY a
 | .take=>p.take
 | .back l=>p.back l
 | .fin=>({p with aH:=B2}:So).leave 1
def step(p:So)(k:K0)(g:Int)(rd:List Pr)(i:Nat):So:=match rd[i]? with
 |some x=>p.ask ⟨1,x.a,0,0⟩ (.look k g rd i)
 |none=>p.ask ⟨1,0,0,0⟩ (.again k g)
def ah(p:So)(a v:Int):Option (List Pr):=match dy p.rd a with
 |some _=>B1 p.rd
 |none=>if p.rd.length=128 then B5 else B1 (p.rd ++ [⟨a,v⟩])
def on(p:So)(v:Int)(ok:Bool):Nx->So
 | .wF n k=>p.ask ⟨3,1,aj .u64 (v+n),v⟩ (.uG n k)
 | .uG n k=>if ok=B4 then p.Im k else p.count n k
 | .xF=>if v % 2=1 then p.tI else{p.pK v with live:=B4,busy:=B2}
 | .wX k=>if v % 2=1 then p.validate k else p.step k v p.rd 0
 | .look k g rd i=>if v≠(rd.getD i ⟨0,0⟩).v then p.leave 2 else p.step k g rd (i+1)
 | .again k g=>if v≠g then p.validate k else(p.pK g).Im k
 | .xH a=>p.ask ⟨1,0,0,0⟩ (.nU a v)
 | .nU a w=>if v≠p.snap then p.validate (.kY a)
  else if(dy p.rd a).getD w≠w then p.leave 2
  else match p.ah a w with
   |none=>p.leave 2
   |some l=>{({p with rd:=l,value:=w}:So).pK v with busy:=B2}
 | .ur=>if ok=B4 then({p with points:=aj .i64 (p.points+1),aH:=B4}:So).back p.wr else p.validate .take
 | .FD k=>p.Im k
def fX(p:So)(v:Int)(ok:Bool):So:=match p.au with
 |none=>p
 |some n=>({p with want:=⟨0,0,0,0⟩,au:=B5}:So).on v ok n
def begin(p:So):So:=if p.busy=B4\/p.live=B4 then p else({p with rd:=[],wr:=[],value:=0,ended:=0,busy:=B4}:So).count 1 .wait
def ready(p:So):Bool:=!p.busy && p.live
def load(p:So)(a:Int):So:=if p.ready=B4/\8<=a then match dy p.wr a with
 |some v=>{p with value:=v}
 |none=>({p with busy:=B4}:So).kY a
 else p
def store(p:So)(a v:Int):So:=if p.ready=B4/\8<=a then
 if dy p.wr a=B5/\p.wr.length=128 then({p with busy:=B4}:So).leave 2 else{p with wr:=fV p.wr a v}
 else p
def bt(p:So):So:=if p.ready=B4 then if p.wr.length=0 then({p with busy:=B4}:So).leave 1 else({p with busy:=B4}:So).take else p
def CY(p:So):So:=if p.ready=B4 then({p with busy:=B4}:So).leave 3 else p
end So
structure Co where
 id:Int
 lines:Int
 code:List iV
 fi:Fi
 la:La
 so:So
 ph:Int
 want:pI
 seq:Int
 aU:List Pr
 done:Int
 wrote:Bool
 held:Bool
 said:Bool
 blocks:Int
 oU:Int
 halted:Bool
 xV:Bool
structure CS where
 c:Co
 b:Bu
 o:List fk
namespace CS
def Mz(c:Co)(kind a v code:Int):fk:=if c.la.lane=0 then⟨kind,0,c.id,-1,0,0,a,v,code⟩else⟨kind,0,c.id,aj .i64 (c.blocks-1),c.la.tries,c.la.lane,a,v,code⟩
def tell(s:CS)(kind a v code:Int):CS:={s with o:=s.o ++ [Mz s.c kind a v code]}
def fi(s:CS)(f:Fi->Fi):CS:={s with c:={s.c with fi:=f s.c.fi}}
def la(s:CS)(f:La->La):CS:={s with c:={s.c with la:=f s.c.la}}
def so(s:CS)(f:So->So):CS:={s with c:={s.c with so:=f s.c.so}}
def ph(s:CS)(n:Int):CS:={s with c:={s.c with ph:=n}}
def lG(s:CS)(k n v o:Int):CS:={s with b:=s.b.step ⟨k,s.c.id,n,v,o⟩}
def node(s:CS):No:=(s.b.ns[s.c.id.toNat]?).getD ⟨0,0,⟨0,0,[],0⟩,⟨0,0,0,.zero⟩,[],B2,0⟩
def kW(s:CS)(a:Int):Int×Bool:=((s.node.load a).2.1,(s.node.load a).2.2.1 && decide ((s.node.load a).2.2.2.2=0))
def vZ(s:CS)(a v:Int):Bool:=(s.node.store a v).2.1 && decide ((s.node.store a v).2.2.2=0)
def Ac(s:CS)(a o:Int):Bool×Bool:=((s.node.jP a o).1,(s.node.jP a o).2.1 && decide ((s.node.jP a o).2.2=0))
def ld(s:CS)(a:Int):CS:=s.lG 0 a 0 0
def st(s:CS)(a v:Int):CS:=s.lG 1 a v 0
def cs(s:CS)(a o v:Int):CS:=s.lG 2 a v o
def abort(s:CS)(code:Int):CS:=(((s.tell 6 0 0 code).fi .restore).la (·.abort code)).ph 1
def leave(s:CS):CS:={((s.la .leave).fi .drop).ph 0 with c:={((s.la .leave).fi .drop).ph 0 |>.c with held:=B2}}
def aC(s:CS):CS:=let t:=if s.c.said=B4 then s else s.tell 5 0 0 0
 {t with c:={t.c with said:=B4,held:=B2}}
def fN(s:CS)(next:Int):CS:=let t:=s.fi (·.jump next)
 {t with c:={t.c with oU:=aj .i64 (t.c.oU+1)}}
def dc(s:CS):CS:=s.aC.leave.fN (aj .i64 (s.c.fi.pc+1))
def breaks(s:CS):CS:=let t:=((s.tell 6 0 0 7).fi .restore).leave
 {t with c:={t.c with halted:=B4,xV:=B4}}
def dI(s:CS):CS :=
 if s.c.la.lane=0 then{s with c:={s.c with halted:=B4,xV:=B4}}
 else if s.c.la.lane=3 then let t:=s.so .CY
  {t with c:={t.c with want:=iy,ph:=6}}
 else if s.c.la.lane=4 then s.ph 10
 else(s.lG 5 7 0 0).breaks
def Ik(c:Co)(u:Int):Bool:=decide (u<(c.lines-1)*8)
def fh(s:CS)(f:pI)(v:Int):CS:=((s.tell (if s.c.la.lane=0 then 7 else 2) (if Ik s.c f.addr=B4 then 8+f.addr else 0) v 0).fi (·.set f.pG v)).fN f.au
def oh(s:CS)(f:pI)(a:Int):CS :=
 if s.c.la.lane=3 then let t:=s.so (·.load a)
  if t.c.so.busy=B4 then{t with c:={t.c with want:=f,ph:=6}}else t.fh f t.c.so.value
 else match(if s.c.la.lane=4 then dy s.c.aU a else B5)with
  |some v=>s.fh f v
  |none=>if(s.kW a).2=B4 then(s.ld a).fh f (s.kW a).1 else s.ld a
def stored(s:CS)(kind:Int)(f:pI)(a:Int):CS:=(s.tell kind a f.value 0).fN f.au
def kK(s:CS)(f:pI)(a:Int):CS :=
 if s.c.la.lane=3 then let t:=s.so (·.store a f.value)
  if t.c.so.busy=B4 then{t with c:={t.c with want:=f,ph:=6}}else t.stored 3 f a
 else if s.c.la.lane=4 then({s with c:={s.c with aU:=fV s.c.aU a f.value}}:CS).stored 3 f a
 else if s.vZ a f.value=B4 then
  if s.c.la.lane=0 then(s.st a f.value).stored 8 f a else let t:=s.st a f.value
   ({t with c:={t.c with wrote:=B4}}:CS).stored 3 f a
 else s.st a f.value
def ends(s:CS):CS :=
 if s.c.la.lane=3 then let t:=s.so .bt
  {t with c:={t.c with want:=⟨6,0,0,0,0⟩,ph:=6}}
 else if s.c.la.lane=4 then s.ph 9
 else if s.c.la.lane=2/\s.c.wrote=B4 then s.ph 7
 else(s.lG 4 0 0 0).dc
def rK(s:CS):CS :=
 if(s.c.code.length:Int)<=s.c.fi.pc then if s.c.la.lane=0 then{s with c:={s.c with halted:=B4}}else s.dI
 else
  let f:=(s.c.code.getD s.c.fi.pc.toNat ⟨0,0,0,0,0⟩).gh s.c.fi.rs s.c.fi.pc
  let is:=Ik s.c f.addr
  let a:=8+f.addr
  if(f.kind=3\/f.kind=4)/\is=B2\/f.kind=0\/s.c.la.lane≠0/\f.kind=5\/s.c.la.lane=0/\f.kind=6\/s.c.la.lane≠0/\f.kind=7 then s.dI
  else if f.kind=7 then{s with c:={s.c with halted:=B4}}
  else if f.kind=1 then(s.fi (·.set f.pG f.value)).fN f.au
  else if f.kind=2 then s.fN f.au
  else if f.kind=3 then s.oh f a
  else if f.kind=4 then s.kK f a
  else if f.kind=5 then let t:=((s.fN f.au).fi .save).la .enter
   {t with c:={t.c with blocks:=aj .i64 (t.c.blocks+1),ph:=1}}
  else s.ends
def lV(s:CS):CS :=
 let t0:=s.tell 1 0 0 0
 let t:CS:={t0 with c:={t0.c with aU:=[],done:=0,wrote:=B2,said:=B2}}
 if s.c.la.lane=1 then(t.lG 3 0 0 0).ph 2
 else if s.c.la.lane=2 then(t.lG 3 0 0 0).ph 3
 else if s.c.la.lane=3 then let u:=t.so .begin
  {u with c:={u.c with want:=⟨5,0,0,0,0⟩,ph:=6}}
 else t.ph 4
def rp(s:CS):CS :=
 let r:=s.Ac 0 s.c.seq
 let t:=s.cs 0 s.c.seq (aj .u64 (s.c.seq+1))
 if r.2=B2 then t
 else if r.1=B4 then let u:=t.tell 4 0 0 0
  {u with c:={u.c with ph:=0,held:=B4}}
 else t.ph 4
def iv(s:CS)(k:CS->CS):CS :=
 let v:=aj .u64 (s.c.seq+2)
 if s.vZ 0 v=B4 then k (s.st 0 v)else s.st 0 v
def aS(s:CS):CS:=match(if 0<=s.c.done then s.c.aU[s.c.done.toNat]? else B5)with
 |some x=>if s.vZ x.a x.v=B4 then let t:=s.st x.a x.v
  {t with c:={t.c with done:=aj .i64 (t.c.done+1)}}else s.st x.a x.v
 |none=>s.iv dc
def fM(s:CS):CS :=
 if s.c.so.ended=2 then s.abort 8
 else if s.c.want.kind=5 then s.ph 0
 else if s.c.want.kind=3 then(s.ph 0).fh s.c.want s.c.so.value
 else if s.c.want.kind=6 then s.dc
 else s.breaks
def given(s:CS)(v:Int)(taken:Bool):CS :=
 let t:CS:={s with c:={s.c with held:=s.c.held ||taken && decide (s.c.so.want.a=0),so:=s.c.so.fX v taken}}
 let u:=if s.c.so.aH=B4/\t.c.so.aH=B2 then t.aC else t
 let w:=if s.c.so.points<u.c.so.points then u.tell 4 0 0 0 else u
 if w.c.so.busy=B4 then w else w.fM
def qM(s:CS):CS :=
 let r:=s.c.so.want
 if r.op=1 then if(s.kW r.a).2=B4 then(s.ld r.a).given (s.kW r.a).1 B2 else s.ld r.a
 else if r.op=2 then if s.vZ r.a r.v=B4 then(s.st r.a r.v).given 0 B2 else s.st r.a r.v
 else if r.op=3 then if(s.Ac r.a r.o).2=B4 then(s.cs r.a r.o r.v).given 0 (s.Ac r.a r.o).1 else s.cs r.a r.o r.v
 else s
def act(s:CS):CS :=
 if s.c.ph=0 then s.rK
 else if s.c.ph=1 then s.lV
 else if s.c.ph=2 then let r:=s.kW 1
  if r.2=B4 then let t:=(s.ld 1).ph 3
   if r.1≠0 then t.lG 5 6 0 0 else t
  else s.ld 1
 else if s.c.ph=3 then let r:=s.kW 0
  if r.2=B4 then let t:=s.ld 0
   let u:CS:={t with c:={t.c with seq:=r.1,ph:=0}}
   if r.1 % 2=1 then u.lG 5 6 0 0 else u
  else s.ld 0
 else if s.c.ph=4 then let r:=s.kW 0
  let t:=s.ld 0
  if r.2=B4/\r.1 % 2=0 then{t with c:={t.c with seq:=r.1,ph:=5}}else t
 else if s.c.ph=5 then s.rp
 else if s.c.ph=6 then s.qM
 else if s.c.ph=7 then s.iv (·.ph 8)
 else if s.c.ph=8 then(s.lG 4 0 0 0).dc
 else if s.c.ph=9 then s.aS
 else if s.c.ph=10 then s.iv breaks
 else s
def qZ(s:CS):Int:=if s.node.code<1\/6<s.node.code then 5 else s.node.code
def step(s:CS):CS×Int :=
 if s.c.xV=B4 then(s,111)
 else if s.c.halted=B4 then(s,110)
 else if s.c.la.rP=B4/\s.c.ph≠1/\s.node.live=B2 then(s.abort s.qZ,0)
 else(s.act,0)
end CS
end Go.Am
namespace Go.Am
def fL(x:Int):Prop:=0<=x/\x<18446744073709551616
def uC(x:Int):AV:=.int .u64 x
def bJ:fL 0:=⟨yP _,by decide⟩
def Fz(n:Int):fL (aj .u64 n):=by rw[xd5];constructor<;>omega
def L8.u(x:L8):Prop:=∀w∈x.l,fL w
def L8.iH:L8.zero.u:=λ w h=>by
 simp only[L8.zero,kw,MO,or_false,or_self]at h;rw[h];exact bJ
def FV{α:Type}{l:List α}{k:Nat}{v x:α}(h:x∈l.set k v):x∈l\/x=v:=List.mem_or_eq_of_mem_set h
theorem L8.u.put{x:L8}(h:x.u)(i:Nat){y:Int}(a:fL y):(x.put i y).u:=λ w q=>(FV q).elim (h w) λ e=>e▸a
def L8.u.get{x:L8}(h:x.u)(i:Nat):fL (x.get i):=by
 unfold L8.get;cases q:x.l[i]? with
 |none=>exact bJ
 |some w=>exact h w (zd q)
def En.U(e:En):Prop:=e.d.u/\e.o.u
def En.oY:En.zero.U:=⟨L8.iH,L8.iH⟩
def Ca.U(c:Ca):Prop:=∀e∈c.sl,e.U
def No.U(n:No):Prop:=n.c.U
def qF(l:List Mg):Prop:=∀m∈l,m.d.u
theorem qF.nil:qF []:=λ _ h=>by cases h
def qF.one{m:Mg}(h:m.d.u):qF [m]:=λ x q=>by rw[ve.1 q];exact h
def qF.app{a b:List Mg}(h:qF a)(d:qF b):qF (a++b):=λ x q=>(jm.1 q).elim (h x) (d x)
namespace Ca
variable{c:Ca}
theorem U.en(h:c.U)(i:Nat):(c.en i).U:=by
 unfold Ca.en;cases q:c.sl[i]? with
 |none=>exact En.oY
 |some e=>exact h e (zd q)
def U.Fv(h:c.U)(i:Nat){e:En}(he:e.U){u:Int}:Ca.U {c with us:=u,sl:=c.sl.set i e}:=λ x q=>(FV q).elim (h x) λ w=>w▸he
theorem U.set(h:c.U)(i:Nat){e:En}(he:e.U):(c.set i e).U:=λ x q=>(FV q).elim (h x) λ w=>w▸he
theorem U.use(h:c.U)(i:Nat):(c.use i).U:=h.Fv i (e:={c.en i with u:=c.us+1}) (h.en i)
theorem U.word(h:c.U)(a:Nat):(c.word a).1.U/\fL ((c.word a).2.getD 0):=by
 unfold Ca.word;split
 .exact ⟨h,bJ⟩
 .exact ⟨h.use _,(h.en _).1.get _⟩
theorem U.put(h:c.U)(a:Nat){y:Int}(f:fL y):(c.put a y).U:=by
 unfold Ca.put;split
 .exact h
 .rename_i i _;exact h.Fv i (e:={c.en i with u:=c.us+1,d:=(c.en i).d.put (a % 8) y}) ⟨(h.en i).1.put _ f,(h.en i).2⟩
def U.mark(h:c.U)(l:Int)(w:Bool):(c.mark l w).U:=by
 unfold Ca.mark
 repeat' split
 all_goals first|exact h|(rename_i i _ _;exact h.set i ⟨(h.en i).1,(h.en i).1⟩)|(rename_i i _;exact h.set i (e:={c.en i with r:=B4}) (h.en i))
def U.df(h:c.U)(l:Int):(c.df l).1.U/\(c.df l).2.u:=by
 unfold Ca.df;split
 .exact ⟨h,L8.iH⟩
 .rename_i i _;exact⟨h.set i (e:={c.en i with st:=1}) (h.en i),(h.en i).1⟩
def U.cZ(h:c.U)(l:Int){d:L8}(a:d.u):(c.cZ l d).U:=by
 unfold Ca.cZ;split
 .exact h
 .rename_i i _;exact h.set i ⟨a,(h.en i).2⟩
theorem U.drop(h:c.U)(l:Int):(c.drop l).1.U/\(c.drop l).2.U:=by
 unfold Ca.drop;split
 .exact ⟨h,En.oY⟩
 .exact ⟨h.set _ En.oY,h.en _⟩
theorem U.map(h:c.U){g:En->En}(hg:∀e,e.U->(g e).U):Ca.U {c with sl:=c.sl.map g}:=λ x q=>by
 obtain⟨e,he,rfl⟩:=Fx.1 q;exact hg e (h e he)
theorem U.bt(h:c.U):c.bt.U:=h.map λ e he=>by unfold qV;split;exact he;exact⟨he.1,L8.iH⟩
def U.discard(h:c.U):c.discard.U:=h.map λ e he=>by
 unfold back;split
 .exact he
 .refine ⟨?_,L8.iH⟩;show(if e.w then e.o else e.d).u;split;exact he.2;exact he.1
theorem U.fill(h:c.U)(l s:Int){d:L8}(a:d.u):(c.fill l s d).1.U/\(c.fill l s d).2.1.U:=by
 unfold Ca.fill;split
 .exact ⟨h,En.oY⟩
 .split
  .exact ⟨h,En.oY⟩
  .exact ⟨h.Fv _ ⟨a,L8.iH⟩,h.en _⟩
end Ca
namespace No
variable{n:No}
def U.iN(h:n.U)(k:Int):(n.iN k).U:=Ca.U.discard h
def u7(n:No)(k l:Int):(n.msg k l).d.u:=L8.iH
def U.ask(h:n.U)(k l:Int):(n.ask k l).1.U/\qF (n.ask k l).2:=by
 unfold No.ask;split
 .exact ⟨h,.nil⟩
 .exact ⟨h,.one (u7 _ _ _)⟩
theorem U.load(h:n.U)(a:Int):(n.load a).1.U/\fL (n.load a).2.1/\qF (n.load a).2.2.2.1:=by
 unfold No.load;split
 .split
  .exact ⟨(U.ask h _ _).1,bJ,(U.ask h _ _).2⟩
  .have q:(if n.live then n.c.mark (ln a) B2 else n.c).U:=by split;exact Ca.U.mark h _ _;exact h
   exact⟨(q.word _).1,(q.word _).2,.nil⟩
 .exact ⟨h,bJ,.nil⟩
theorem U.store(h:n.U)(a:Int){y:Int}(d:fL y):(n.store a y).1.U/\qF (n.store a y).2.2.1:=by
 unfold No.store;split
 .split
  .have q:(if n.live then n.c.mark (ln a) B4 else n.c).U:=by split;exact Ca.U.mark h _ _;exact h
   exact⟨q.put _ d,.nil⟩
  .exact U.ask h _ _
 .exact ⟨h,.nil⟩
theorem U.mV(h:n.U)(a o:Int){y:Int}(d:fL y):(n.mV a o y).1.U/\qF (n.mV a o y).2:=by
 unfold No.mV;split
 .split
  .exact ⟨h,.nil⟩
  .split
   .refine ⟨?_,.nil⟩;show Ca.U (if _ then _ else _);split
    .exact (Ca.U.word h _).1.put _ d
    .exact (Ca.U.word h _).1
   .exact U.ask h _ _
 .exact ⟨h,.nil⟩
theorem U.begin(h:n.U):n.begin.U:=by unfold No.begin;split;exact h;exact h
theorem U.bt(h:n.U):n.bt.U:=by unfold No.bt;split;exact Ca.U.bt h;exact h
def U.abort(h:n.U)(k:Int):(n.abort k).1.U:=by
 unfold No.abort;repeat' split
 all_goals first|exact h|exact U.iN h _
theorem U.lost(h:n.U)(x:En)(t:Bool):(n.lost x t).U:=by
 unfold No.lost;repeat' split
 all_goals first|exact h|exact U.iN h _
def U.gone(h:n.U){x:En}(a:x.U):(n.gone x).1.U/\qF (n.gone x).2:=by
 unfold No.gone;split
 .exact ⟨h,.one a.1⟩
 .exact ⟨h,.nil⟩
def U.d8(h:n.U){m:Mg}(hm:m.d.u)(s:Int):(n.d8 m s).1.U/\qF (n.d8 m s).2:=by
 obtain⟨a,e⟩:=Ca.U.fill h m.line s hm;unfold No.d8;split
 .exact U.gone (n:={n with c:=(n.c.fill m.line s m.d).1}) a e
 .exact ⟨a,.nil⟩
theorem U.fill(h:n.U){m:Mg}(hm:m.d.u):(n.fill m).1.U/\qF (n.fill m).2:=by
 unfold No.fill;generalize(if m.k=15 then(2:Int)else 1)=s;unfold No.mP;split
 .exact U.d8 (U.iN h 3) hm s
 .exact U.d8 h hm s
def U.bT(h:n.U){m:Mg}(hm:m.d.u):(n.bT m).1.U/\qF (n.bT m).2:=by
 unfold No.bT;split
 .exact ⟨h,.nil⟩
 split
 .exact ⟨(Ca.U.drop (U.lost h _ _) _).1,.one (u7 _ _ _)⟩
 split
 .split
  .exact ⟨h,.one (u7 _ _ _)⟩
  .split
   .exact ⟨(Ca.U.df (U.lost h _ _) _).1,.one (Ca.U.df (U.lost h _ _) _).2⟩
   .exact ⟨(Ca.U.drop (U.lost h _ _) _).1,.one (Ca.U.drop (U.lost h _ _) _).2.1⟩
 split
 .exact ⟨h,.nil⟩
 split
 .exact ⟨Ca.U.cZ h _ hm,.one (u7 _ _ _)⟩
 .obtain ⟨a,e⟩:=U.fill (n:={n with out:=⟨0,0,0,.zero⟩}) h hm;exact⟨a,e.app (.one (u7 _ _ _))⟩
def U.db(h:n.U)(l:Int):(n.db l).1.U/\qF (n.db l).2:=by
 unfold No.db;split
 .exact ⟨h,.nil⟩
 split
 .exact ⟨h,.nil⟩
 .rename_i x _;have q:(if x.r ||x.w then n.iN 4 else n).U:=by split;exact U.iN h 4;exact h
  exact U.gone (n:={(if x.r ||x.w then n.iN 4 else n)with c:=((if x.r ||x.w then n.iN 4 else n).c.drop l).1}) (Ca.U.drop q l).1 (Ca.U.drop q l).2
end No
namespace De
def mm(x:De){w:L8}(hw:w.u):(x.eh w).2.d.u:=by unfold eh;split<;>exact hw
def xkn(x:De)(m:Mg){w:L8}(hw:w.u):qF (x.begin m w).2:=by
 unfold begin;split
 .exact .one L8.iH
 split
 .exact .one (mm _ hw)
 .intro z q;obtain⟨c,-,rfl⟩:=Fx.1 q;exact L8.iH
def xW(x:De){w:L8}(hw:w.u)(q:Prop)[Decidable q]{o:List Mg}(ho:qF o):(x.vJ w q o).2.1.u/\qF (x.vJ w q o).2.2:=by
 unfold vJ;split
 .exact ⟨hw,ho.app (.one (mm _ hw))⟩
 .exact ⟨hw,ho⟩
def Kz(x:De){w:L8}(hw:w.u){m:Mg}(hm:m.d.u):(x.bT w m).2.1.u/\qF (x.bT w m).2.2:=by
 unfold bT;split
 .exact ⟨hw,.nil⟩
 split
 .split
  .exact ⟨hw,.nil⟩
  .exact ⟨hw,xkn _ _ hw⟩
 split
 .exact xW _ hw _ .nil
 split
 .exact xW _ hm _ .nil
 split
 .exact xW _ hw _ .nil
 split
 .exact xW _ hm _ (.one L8.iH)
 split
 .exact ⟨hw,.nil⟩
 .exact ⟨hw,xkn _ _ hw⟩
end De
structure yK(b:Bu):Prop where
 m:∀x∈b.m,x.u
 n:∀n∈b.ns,n.U
 f:qF b.fl
theorem yK.put{b:Bu}(h:yK b)(c:Nat){r:No×List Mg}(a:r.1.U)(d:qF r.2):yK (b.put c r):=⟨h.m,λ x q=>(FV q).elim (h.n x) λ e=>e▸a,h.f.app d⟩
end Go.Am
namespace Go.Am
open Lang Go.Proofs
variable{M:ak}[MK M]
def Rw(op:Nat):List UInt8:=match op with
 |1=>[104,97,108,116]
 |2=>[115,101,116]
 |3=>[109,111,118]
 |4=>[97,100,100]
 |5=>[115,117,98]
 |6=>[109,117,108]
 |7=>[97,110,100]
 |8=>[120,111,114]
 |9=>[115,104,108]
 |10=>[115,104,114]
 |11=>[108,111,97,100]
 |12=>[115,116,111,114,101]
 |13=>[106,117,109,112]
 |14=>[101,113]
 |15=>[110,101]
 |16=>[108,116]
 |17=>[98,101,103,105,110]
 |18=>[101,110,100]
 |_=>[]
def xO:List AV:=(MX 19).flatMap λ k=>[.str (Rw k),.str (pM k)]
def oJ(H:ar):Prop:=H.bX yt=B1 xO/\yt<H.au
def oJ.em{H H':ar}(h:oJ H)(f:Fr Em H H'):oJ H':=⟨(f.cells h.2 id).trans h.1,qn h.2 f.au⟩
def Eh:∀k:Nat,k<19->xO[k*2+1]? = B1 (.str (pM k))
 |0,_=>rfl
 |1,_=>rfl
 |2,_=>rfl
 |3,_=>rfl
 |4,_=>rfl
 |5,_=>rfl
 |6,_=>rfl
 |7,_=>rfl
 |8,_=>rfl
 |9,_=>rfl
 |10,_=>rfl
 |11,_=>rfl
 |12,_=>rfl
 |13,_=>rfl
 |14,_=>rfl
 |15,_=>rfl
 |16,_=>rfl
 |17,_=>rfl
 |18,_=>rfl
 |k+19,h=>absurd h (by omega)
def gn(i:iV):List AV:=[.int .i64 i.op,.int .i64 i.a,.int .i64 i.b,.int .i64 i.c,.int .i64 i.AY]
def oV(op:Int):Prop:=1<=op/\op<=18
instance(op:Int):Decidable (oV op):=inferInstanceAs (Decidable (_/\_))
def xi3{H:ar}(hs:oJ H)(op:Int):zb M L5 [.int .i64 op] H λ v H'=>v=.tuple [.str (if oV op then pM op.toNat else[]),.bool (decide (oV op))]/\H'=H:=by
 refine xe9 ?_;obtain⟨w0,w2,d⟩:=xfa M ⟨B5,L5⟩
 by_cases a:op<1
 .have hn:¬oV op:=λ q=>by have:=q.1;omega
  simp only[aa,bc,w0,w2,a,qy hn,ju hn]
 by_cases e:(19:Int)<=op
 .have hn:¬oV op:=λ q=>by have:=q.2;omega
  simp only[aa,bc,w0,w2,a,e,qy hn,ju hn]
 have f:oV op:=⟨by omega,by omega⟩
 have ix:Op.aV 19 2 [.ptr yt 0,.int .i64 op]=B1 (.ptr yt (0+op.toNat*2)):=by
  simp only[Op.aV];rw[J7 (i:=op.toNat) (by omega) (by omega)];rfl
 have ld:Op.ae [.ptr yt (op.toNat*2+1)] H=B1 (.str (pM op.toNat)):=by
  rw[x9 hs.1];exact Eh op.toNat (by omega)
 simp only[aa,bc,w0,w2,a,e,d,ix,ld,xg f,ke f]
def BV{x c:UInt8}(h:¬x=c):C8 x c=false:=by
 cases q:C8 x c with
 |false=>rfl
 |true=>exact(h (by simpa[C8,<-UInt8.toNat_inj]using q)).elim
def xb7(c:UInt8):∀(s:List UInt8)(k:Nat),(∃i:Nat,IC c s k=B1 i/\c∈s)\/IC c s k=B5/\c∉s:=by
 intro s
 induction s with
 |nil=>intro k;exact .inr ⟨rfl,by simp⟩
 |cons x s ih =>
  intro k
  by_cases h:x=c
  .subst h;exact .inl ⟨k,by simp[IC,C8],by simp⟩
  .rcases ih (k+1)with⟨i,a,e⟩|⟨a,d⟩
   .exact .inl ⟨i,by simp[IC,BV h,a],by simp[e]⟩
   .exact .inr ⟨by simp[IC,BV h,a],by simp[d,rT h]⟩
def HO{s:List UInt8}{c:UInt8}{H:ar}:zb M Yq [.str s,.int .u8 c.toNat] H λ v H'=>H'=H /\ ∃z:Int,v=.int .i64 z/\(c∈s->0<=z)/\(c∉s->z = -1):=by
 refine quy ?_;simp only[aa,bc,quz];refine C3.q (R:=λ v H'=>H'=H /\ ∃z:Int,v=.int .i64 z/\(c∈s->0<=z)/\(c∉s->z = -1)) ?_ λ v H'⟨g,z,h,a,d⟩=>?_
 .refine qhx ?_;rcases xb7 c s 0 with⟨i,a,f⟩|⟨a,d⟩
  .have e:Op.aF [.str s,.int .u8 c.toNat]=B1 (.int .i64 (i:Nat)):=by
    simp only[Op.aF,Ho,UInt8.ofNat_toNat,a];rfl
   simp only[aa,bc,_0,e];exact⟨_,rfl,λ _=>by omega,λ q=>(q f).elim⟩
  .have e:Op.aF [.str s,.int .u8 c.toNat]=B1 (.int .i64 (-1)):=by
    simp only[Op.aF,Ho,UInt8.ofNat_toNat,a];rfl
   simp only[aa,bc,_0,e];exact⟨_,rfl,λ q=>(d q).elim,λ _=>rfl⟩
 .subst h;subst g;simp only[aa,bc];exact⟨z,rfl,a,d⟩
def xhz{H:ar}(hs:oJ H)(i:iV):zb M N2 [.agg (gn i)] H λ v H'=>v=.bool (decide i.mH)/\Fr Em H H':=by
 refine xe6 ?_;obtain⟨w0,w4,F,I,D,u⟩:=xe7 M ⟨B5,N2⟩;obtain⟨H1,e1,x,-,N⟩:=bZ H (OR (gn i) AR);have ld:∀k,Op.ae [.ptr H.au k] H1=(gn i)[k]?:=λ k=>x9 (xb N) k;have l0:Op.ae [.ptr H.au 0] H1=B1 (.int .i64 i.op):=ld 0;have l1:Op.ae [.ptr H.au 1] H1=B1 (.int .i64 i.a):=ld 1;have l2:Op.ae [.ptr H.au 2] H1=B1 (.int .i64 i.b):=ld 2;have l3:Op.ae [.ptr H.au 3] H1=B1 (.int .i64 i.c):=ld 3;have L:Op.build [.int .i64 0,.int .i64 0,.int .i64 0] [(0,1),(1,1),(2,1)] [.int .i64 i.a,.int .i64 i.b,.int .i64 i.c]=B1 (.agg [.int .i64 i.a,.int .i64 i.b,.int .i64 i.c]):=rfl;have ca:AV.cells (.agg (gn i))=gn i:=zo _;simp only[aa,bc,w0,ca,<-e1,l0];refine C3.q (xi3 (hs.em x) i.op) λ v K⟨A,y⟩=>?_;subst A;subst y;obtain⟨m,g⟩:∃m,m=(if oV i.op then pM i.op.toNat else[]):=⟨_,rfl⟩
 rw[<-g];simp only[aa,bc,xj,w4,l1,l2,l3,L]
 let ok:Nat->Prop:=λ j=>match j with
  |0=>65∈m->0<=i.a/\i.a<8
  |1=>66∈m->0<=i.b/\i.b<8
  |_=>67∈m->0<=i.c/\i.c<8
 have f:i.mH↔oV i.op/\ok 0/\ok 1/\ok 2:=by
  constructor
  .intro q;have l:oV i.op:=⟨q.1,q.2.1⟩
   rw[xg l]at g;subst g;exact⟨l,q.2.2.1,q.2.2.2.1,q.2.2.2.2⟩
  .intro ⟨l,B,p,C⟩;rw[xg l]at g;subst g;exact⟨l.1,l.2,B,p,C⟩
 have Q:Op.bF 3 1 B5 [.agg [.int .i64 i.a,.int .i64 i.b,.int .i64 i.c],.int .i64 0]=B1 (.int .i64 i.a):=rfl;have R:Op.bF 3 1 B5 [.agg [.int .i64 i.a,.int .i64 i.b,.int .i64 i.c],.int .i64 1]=B1 (.int .i64 i.b):=rfl;have S:Op.bF 3 1 B5 [.agg [.int .i64 i.a,.int .i64 i.b,.int .i64 i.c],.int .i64 2]=B1 (.int .i64 i.c):=rfl;have T:Op.bQ [.str [65,66,67],.int .i64 0]=B1 (.int .u8 ((65:UInt8).toNat:Nat)):=rfl;have U:Op.bQ [.str [65,66,67],.int .i64 1]=B1 (.int .u8 ((66:UInt8).toNat:Nat)):=rfl;have V:Op.bQ [.str [65,66,67],.int .i64 2]=B1 (.int .u8 ((67:UInt8).toNat:Nat)):=rfl;have Z:aj .i64 (0+1)=1:=by decide +kernel
 have b2:aj .i64 (1+1)=2:=by decide +kernel
 have b3:aj .i64 (2+1)=3:=by decide +kernel
 have no:∀{k:Nat},k<3 -> ¬ok k->decide i.mH=false:=λ{k}hk q=>ju λ w=>by
  have⟨_,B,p,C⟩:=f.1 w;rcases(show k=0\/k=1\/k=2 by omega)with rfl|rfl|rfl
  .exact q B
  .exact q p
  .exact q C
 refine cu.intro (λ n E G=>∃k:Nat,E=[(20,.int .i64 (k:Nat)),(19,.agg [.int .i64 i.a,.int .i64 i.b,.int .i64 i.c]),(4,.bool (decide (oV i.op))),(3,.str m)]/\n=3-k/\k<=3/\G=K /\ ∀j,j<k->ok j) ?_ ?_
 .exact ⟨_,_,⟨0,rfl,rfl,xw _,rfl,λ j O=>by omega⟩,by simp only[aa,bc]⟩
 rintro n E G ⟨k,rfl,rfl,hk,rfl,h⟩;rcases xz k 3 with o|o
 .have p:(k:Int)<3:=by omega
  obtain⟨c,r,P,l,d⟩:∃(c:UInt8)(r:Int),Op.bF 3 1 B5 [.agg [.int .i64 i.a,.int .i64 i.b,.int .i64 i.c],.int .i64 (k:Nat)]=B1 (.int .i64 r)/\Op.bQ [.str [65,66,67],.int .i64 (k:Nat)]=B1 (.int .u8 (c.toNat:Nat))/\(ok k↔(c∈m->0<=r/\r<8)):=by
   rcases(show k=0\/k=1\/k=2 by omega)with rfl|rfl|rfl
   .exact ⟨65,i.a,Q,T,j9⟩
   .exact ⟨66,i.b,R,U,j9⟩
   .exact ⟨67,i.c,S,V,j9⟩
  have J:aj .i64 ((k:Int)+1)=((k+1:Nat):Int):=by rw[jc (by omega) (by omega)];omega
  have go:ok k -> ∀j,j<k+1->ok j:=λ q j O=>by
   rcases xz j k with w|w
   .exact h j w
   .rw [show j=k by omega];exact q
  simp only[aa,bc,I,p,D,P,l];refine C3.q (HO) λ v Y⟨y,z,A,W,X⟩=>?_;subst A;subst y
  by_cases s:c∈m
  .have t:(0:Int)<=z:=W s
   by_cases n1:r<0
   .have:=no o λ q=>by have:=(d.1 q s).1;omega
    simp only[aa,bc,t,n1,this];exact x
   by_cases n2:(8:Int)<=r
   .have:=no o λ q=>by have:=(d.1 q s).2;omega
    simp only[aa,bc,t,n1,n2,this];exact x
   simp only[aa,bc,t,n1,n2,u,J];exact⟨_,_,⟨k+1,rfl,rfl,by omega,go (d.2 λ _=>⟨by omega,by omega⟩)⟩,by simp only[aa,bc],by omega⟩
  .have t:¬(0:Int)<=z:=by rw[X s];decide
   simp only[aa,bc,t,u,J];exact⟨_,_,⟨k+1,rfl,rfl,by omega,go (d.2 λ q=>(s q).elim)⟩,by simp only[aa,bc],by omega⟩
 .have p:¬(k:Int)<3:=by omega
  have:decide (oV i.op)=decide i.mH:=by
   have e:i.mH↔oV i.op:=⟨λ q=>(f.1 q).1,λ q=>f.2 ⟨q,h 0 (by omega),h 1 (by omega),h 2 (by omega)⟩⟩
   by_cases q:oV i.op
   .rw [ke q,ke (e.2 q)]
   .rw [ju q,ju λ w=>q (e.1 w)]
  simp only[aa,bc,I,p,F,this];exact x
end Go.Am
namespace Go.Am
open Lang Go.Proofs
variable{M:ak}[MK M]
def bj(f:pI):List AV:=[.int .i64 f.kind,.int .i64 f.au,.int .i64 f.pG,.int .u64 f.value,.int .u64 f.addr]
def Yw(n:Int):pS n<8:=by
 unfold pS;rw[BitVec.toNat_and];exact Nat.lt_of_le_of_lt Nat.and_le_right (by decide)
def QE{rs:List Int}(h:rs.length=8)(n:Int):(rs.map uC)[pS n]? = B1 (.int .u64 (rg rs n)):=by
 have hl:=Yw n;rw[xq,xf (by omega)];simp only[rg,zt,xf (show pS n<rs.length by omega)];rfl
def P9{rs:List Int}(h:rs.length=8)(hr:∀x∈rs,fL x)(n:Int):fL (rg rs n):=by
 have hl:=Yw n;simp only[rg,zt,xf (show pS n<rs.length by omega)];exact hr _ (List.getElem_mem _)
def Hj{x:Int}(e:fL x)(n:Nat):x.fdiv (2 ^ n)=aj .u64 (x / 2 ^ n):=by
 have⟨a,d⟩:=e;have hp:(0:Int)<2 ^ n:=Int.pow_pos (by decide);rw[Int.fdiv_eq_ediv_of_nonneg _ (Int.le_of_lt hp),xho (Int.ediv_nonneg a (Int.le_of_lt hp))];exact Int.lt_of_le_of_lt (Int.ediv_le_self _ a) d
def bdL(k n r d:Int):Op.build [.int .i64 0,.int .i64 0,.int .i64 0,.int .u64 0,.int .u64 0] [(0,1),(1,1),(2,1),(4,1)] [.int .i64 k,.int .i64 n,.int .i64 r,.int .u64 d]=B1 (.agg (bj ⟨k,n,r,0,d⟩)):=rfl
def UL(k n v d:Int):Op.build [.int .i64 0,.int .i64 0,.int .i64 0,.int .u64 0,.int .u64 0] [(0,1),(1,1),(3,1),(4,1)] [.int .i64 k,.int .i64 n,.int .u64 v,.int .u64 d]=B1 (.agg (bj ⟨k,n,0,v,d⟩)):=rfl
def FA{H:ar}{b:Nat}{x f:pI}(h:H.get b=B1 (OR (bj x) jk)):Op.store 5 [.ptr b 0,.agg (bj f)] H=B1 (.undef,H.set b (OR (bj f) jk)):=by
 rw[xK (o:=0) (n:=5) (v:=.agg (bj f)) h rfl (by simp[bj]) rfl];rfl
def JC{H:ar}{b:Nat}{x:pI}(h:H.get b=B1 (OR (bj x) jk)):Op.aq 5 [.ptr b 0] H=B1 (.agg (bj x)):=by
 rw[rS (c:=bj x) (xb h) (by simp[bj])];rfl
def u9:Op.build (bj iy) [] []=B1 (.agg (bj iy)):=rfl
def CJ(k n:Int):Op.build (bj iy) [(0,1),(1,1)] [.int .i64 k,.int .i64 n]=B1 (.agg (bj ⟨k,n,0,0,0⟩)):=rfl
def O1(k n r v:Int):Op.build (bj iy) [(0,1),(1,1),(2,1),(3,1)] [.int .i64 k,.int .i64 n,.int .i64 r,.int .u64 v]=B1 (.agg (bj ⟨k,n,r,v,0⟩)):=rfl
def rJ:[AV.int .i64 0,.int .i64 0,.int .i64 0,.int .u64 0,.int .u64 0]=bj iy:=rfl
structure zG(i:iV)(rs:List Int)(pc:Int)(b:Nat)(H:ar):Prop where
 gi:H.get b=B1 (OR (gn i) AR)
 gr:H.get (b+1)=B1 (OR (rs.map uC) yG)
 gp:H.get (b+2)=B1 (OR [.int .i64 pc] cH)
 ge:H.get (b+3)=B1 (OR (bj iy) jk)
 lt:b+3<H.au
section
variable{i:iV}{rs:List Int}{pc:Int}{b:Nat}{H H':ar}
def zG.em(h:zG i rs pc b H)(f:Fr Em H H'):zG i rs pc b H':=by
 have hl:=h.lt;exact⟨by rw[f.ah _ (by omega) id];exact h.gi,by rw[f.ah _ (by omega) id];exact h.gr,by rw[f.ah _ (by omega) id];exact h.gp,by rw[f.ah _ (by omega) id];exact h.ge,qn hl f.au⟩
def zG.li(h:zG i rs pc b H)(k:Nat):Op.ae [.ptr b k] H=(gn i)[k]?:=x9 (xb h.gi) k
def zG.lp(h:zG i rs pc b H):Op.ae [.ptr (b+2) 0] H=B1 (.int .i64 pc):=x9 (xb h.gp) 0
def Gz(h:zG i rs pc b H)(hp:0<=pc/\pc<1024)(v:Int):zb M S4 [.int .u64 v,.ptr (b+2) 0,.ptr b 0] H λ w H'=>w=.agg (bj ⟨1,pc+1,i.a,v,0⟩)/\Fr Em H H':=by
 refine xin ?_;obtain⟨H1,e1,d,-,g⟩:=bZ H (OR (bj iy) jk);have e:=h.em d;have l1:Op.ae [.ptr b 1] H1=B1 (.int .i64 i.a):=e.li 1;have wp:aj .i64 (pc+1)=pc+1:=jc (by omega) (by omega);have f:Fr Em H (H1.set H.au (OR (bj ⟨1,pc+1,i.a,v,0⟩) jk)):=d.set (.inr (qm _)) _;have ld:=JC (xc H1 H.au (OR (bj ⟨1,pc+1,i.a,v,0⟩) jk));simp only[aa,bc,xio,rJ,<-e1,e.lp,wp,l1,O1,FA g,ld];exact f
def YH(h:zG i rs pc b H)(hp:0<=pc/\pc<1024)(k:Int):zb M Ta [.int .i64 k,.ptr (b+2) 0] H λ w H'=>w=.agg (bj ⟨k,pc+1,0,0,0⟩)/\Fr Em H H':=by
 refine xir ?_;obtain⟨H1,e1,a,-,e⟩:=bZ H (OR (bj iy) jk);have f:=h.em a;have wp:aj .i64 (pc+1)=pc+1:=jc (by omega) (by omega);have d:Fr Em H (H1.set H.au (OR (bj ⟨k,pc+1,0,0,0⟩) jk)):=a.set (.inr (qm _)) _;have ld:=JC (xc H1 H.au (OR (bj ⟨k,pc+1,0,0,0⟩) jk));simp only[aa,bc,xis,rJ,<-e1,f.lp,wp,CJ,FA e,ld];exact d
def TH(h:zG i rs pc b H)(hp:0<=pc/\pc<1024)(q:Bool):zb M RN [.bool q,.ptr (b+2) 0,.ptr b 0] H λ w H'=>w=.agg (bj (nT i pc q))/\Fr Em H H':=by
 refine xip ?_;obtain⟨w0,w2,a,k⟩:=xiq M ⟨B5,RN⟩;obtain⟨H1,e1,l,-,j⟩:=bZ H (OR (bj iy) jk);have m:=h.em l;have wp:aj .i64 (pc+1)=pc+1:=jc (by omega) (by omega);have l4:Op.ae [.ptr b 4] H1=B1 (.int .i64 i.AY):=m.li 4;have g:∀f,Fr Em H (H1.set H.au (OR (bj f) jk)):=λ f=>l.set (.inr (qm _)) _;have ld:∀f,Op.aq 5 [.ptr H.au 0] (H1.set H.au (OR (bj f) jk))=B1 (.agg (bj f)):=λ f=>JC (xc H1 H.au (OR (bj f) jk));cases q with
 |false =>
  simp only[aa,bc,w0,rJ,<-e1,w2,m.lp,wp,CJ,FA j,ld];exact⟨rfl,g _⟩
 |true =>
  by_cases d:i.AY<0
  .simp only[aa,bc,w0,rJ,<-e1,w2,a,l4,d,u9,FA j,ld];exact⟨by unfold nT;rw[xg rfl,xg (.inl d)],g _⟩
  by_cases e:(1024:Int)<i.AY
  .simp only[aa,bc,w0,rJ,<-e1,w2,a,l4,d,e,u9,FA j,ld];exact⟨by unfold nT;rw[xg rfl,xg (.inr e)],g _⟩
  simp only[aa,bc,w0,rJ,<-e1,w2,a,l4,d,e,k,CJ,FA j,ld];exact⟨by unfold nT;rw[xg rfl,qy (λ q=>q.elim d e)],g _⟩
def Vb(h:zG i rs pc b H)(d:rs.length=8)(n:Int):zb M SN [.int .i64 n,.ptr (b+1) 0] H λ w H'=>w=.int .u64 (rg rs n)/\H'=H:=by
 refine xit ?_;have hl:=Yw n;have a:Op.bin .and [.int .i64 n,.int .i64 7]=B1 (.int .i64 ((pS n:Nat):Int)):=by
  show B1 (AV.int .i64 (aj .i64 ((pS n:Nat):Int)))=_;rw[jc (by omega) (by omega)]
 have ix:Op.aV 8 1 [.ptr (b+1) 0,.int .i64 ((pS n:Nat):Int)]=B1 (.ptr (b+1) (pS n)):=by
  simp only[Op.aV];rw[J7 (i:=pS n) rfl hl];simp
 have ld:Op.ae [.ptr (b+1) (pS n)] H=B1 (.int .u64 (rg rs n)):=by rw[x9 (xb h.gr)];exact QE d n
 simp only[aa,bc,xiu,a,ix,ld]
end
def Hg{H:ar}(hs:oJ H){i:iV}{rs:List Int}{pc:Int}(J:rs.length=8)(hr:∀x∈rs,fL x):zb M UA [.agg (gn i),.agg (rs.map uC),.int .i64 pc] H λ v H'=>v=.agg (bj (i.gh rs pc))/\Fr Em H H':=by
 refine af8 ?_;obtain⟨w0,w2,X,Y,Z,w22,O,m,p,r,s,u,B,A,G⟩:=ad7 M ⟨B5,UA⟩;obtain⟨H1,e1,f1,n1,-⟩:=bZ H (OR (gn i) AR);obtain⟨H2,e2,L,-,-⟩:=bZ H1 (OR (rs.map uC) yG);obtain⟨H3,S,I,-,-⟩:=bZ H2 (OR [.int .i64 pc] cH);obtain⟨P,T,F,-,-⟩:=bZ H3 (OR (bj iy) jk);have n2:H2.au=H.au+2:=by rw[e2,xy,n1]
 have V:H3.au=H.au+3:=by rw[S,xy,n2]
 have n4:P.au=H.au+4:=by rw[T,xy,V]
 have f4:Fr Em H P:=((f1.trans L λ _ q=>q.elim).trans I λ _ q=>q.elim).trans F λ _ q=>q.elim;have hM:zG i rs pc H.au P:=by
  refine⟨?_,?_,?_,?_,by omega⟩
  .rw [F.ah _ (by omega) id,I.ah _ (by omega) id,L.ah _ (by omega) id,e1,xp]
  .rw [F.ah _ (by omega) id,I.ah _ (by omega) id,e2,<-n1,xp]
  .rw [F.ah _ (by omega) id,S,<-n2,xp]
  .rw [T,<-V,xp]
 have c1:AV.cells (.agg (gn i))=gn i:=zo _;have c2:AV.cells (.agg (rs.map uC))=rs.map uC:=zo _;have c3:AV.cells (.int .i64 pc)=[.int .i64 pc]:=rfl;simp only[aa,bc,w0,c1,<-e1,c2,<-e2,c3,<-S,rJ,<-T,n1,n2,V,w2];have li:Op.aq 5 [.ptr H.au 0] P=B1 (.agg (gn i)):=by rw[rS (c:=gn i) (xb hM.gi) (by simp[gn])];rfl
 simp only[aa,bc,li];refine C3.q (xhz (hs.em f4) i) λ v K⟨l,f5⟩=>?_;subst l;have d:=hM.em f5;have j:=f4.trans f5 λ _ q=>q.elim
 -- the end
 have fin:∀{z:ar},zG i rs pc H.au z->Fr Em H z->(∀f,Op.store 5 [.ptr (H.au+3) 0,.agg (bj f)] z=B1 (.undef,z.set (H.au+3) (OR (bj f) jk)))/\(∀f,Op.aq 5 [.ptr (H.au+3) 0] (z.set (H.au+3) (OR (bj f) jk))=B1 (.agg (bj f))) /\ ∀f,Fr Em H (z.set (H.au+3) (OR (bj f) jk)):=λ{z}hx fx =>
  ⟨λ f=>FA hx.ge,λ f=>JC (xc z (H.au+3) (OR (bj f) jk)),λ f=>fx.set (.inr (by omega)) _⟩
 by_cases hb:¬i.mH\/pc<0\/1024<=pc
 .have hd:i.gh rs pc=iy:=by unfold iV.gh;rw[xg hb]
  rw[hd];have⟨st,ld,k⟩:=fin d j
  by_cases Q:i.mH
  .by_cases E:pc<0
   .simp only[aa,bc,ke Q,d.lp,E,u9,st,ld];exact k _
   .have W:(1024:Int)<=pc:=by rcases hb with q|q|q;exact(q Q).elim;omega;exact q
    simp only[aa,bc,ke Q,d.lp,E,W,u9,st,ld];exact k _
  .simp only[aa,bc,ju Q,u9,st,ld];exact k _
 have D:i.mH:=we.1 λ q=>hb (.inl q);have E:¬pc<0:=λ q=>hb (.inr (.inl q));have W:¬(1024:Int)<=pc:=λ q=>hb (.inr (.inr q));have hp:0<=pc/\pc<1024:=⟨by omega,by omega⟩
 have wp:aj .i64 (pc+1)=pc+1:=jc (by omega) (by omega);have mk1:Op.bK S4 0 [.ptr (H.au+2) 0,.ptr H.au 0]=B1 (.fn (.func S4) [] [.ptr (H.au+2) 0,.ptr H.au 0]):=rfl;have mk2:Op.bK RN 0 [.ptr (H.au+2) 0,.ptr H.au 0]=B1 (.fn (.func RN) [] [.ptr (H.au+2) 0,.ptr H.au 0]):=rfl;have mk3:Op.bK Ta 0 [.ptr (H.au+2) 0]=B1 (.fn (.func Ta) [] [.ptr (H.au+2) 0]):=rfl;have mk4:Op.bK SN 0 [.ptr (H.au+1) 0]=B1 (.fn (.func SN) [] [.ptr (H.au+1) 0]):=rfl;have k1:Op.ae [.ptr H.au 1] K=B1 (.int .i64 i.a):=d.li 1;have k2:Op.ae [.ptr H.au 2] K=B1 (.int .i64 i.b):=d.li 2;have U:Op.ae [.ptr H.au 3] K=B1 (.int .i64 i.c):=d.li 3;have k4:Op.ae [.ptr H.au 4] K=B1 (.int .i64 i.AY):=d.li 4;have k0:Op.ae [.ptr H.au 0] K=B1 (.int .i64 i.op):=d.li 0;simp only[aa,bc,ke D,d.lp,E,W,X,Y,Z,k1,k2,U];refine C3.q (Vb d J i.a) λ v R⟨l,N⟩=>?_;subst l;subst N;simp only[aa,bc,k2,U];refine C3.q (Vb d J i.b) λ v R⟨l,N⟩=>?_;subst l;subst N;simp only[aa,bc,U];refine C3.q (Vb d J i.c) λ v R⟨l,N⟩=>?_;subst l;subst N;have ra:=P9 J hr i.a;have rb:=P9 J hr i.b;have rc:=P9 J hr i.c;simp only[aa,bc,k4,w22,k0];have hop:1<=i.op/\i.op<=18:=⟨D.1,D.2.1⟩
 -- what is told
 have t:∀{f:pI}{z:ar},f=i.gh rs pc->Fr Em H z->AV.agg (bj f)=.agg (bj (i.gh rs pc))/\Fr Em H z:=λ e q=>⟨by rw[e],q⟩
 have C:i.op=1\/i.op=2\/i.op=3\/i.op=4\/i.op=5\/i.op=6\/i.op=7\/i.op=8\/i.op=9\/i.op=10\/i.op=11\/i.op=12\/i.op=13\/i.op=14\/i.op=15\/i.op=16\/i.op=17\/i.op=18:=by omega
 have cl:∀{x:AV}{f:pI}{z:ar},x=.agg (bj f)->Fr Em R z->zG i rs pc H.au z/\Fr Em H z:=λ _ q=>⟨d.em q,j.trans q λ _ w=>w.elim⟩
 rcases C with o|o|o|o|o|o|o|o|o|o|o|o|o|o|o|o|o|o
 .simp only[aa,bc,o,ua];refine C3.q (YH d hp 7) λ v y⟨l,h⟩=>?_;subst l;have g:=j.trans h λ _ w=>w.elim;have⟨st,ld,k⟩:=fin (d.em h) g;simp only[aa,bc,st,ld];refine t ?_ (k _);unfold iV.gh;rw[qy hb];simp[o]
 .simp only[aa,bc,o,Qr,ua,k4];refine C3.q (Gz d hp (aj .u64 i.AY)) λ v y⟨l,h⟩=>?_;subst l;have g:=j.trans h λ _ w=>w.elim;have⟨st,ld,k⟩:=fin (d.em h) g;simp only[aa,bc,st,ld];refine t ?_ (k _);unfold iV.gh;rw[qy hb];simp[o]
 .simp only[aa,bc,o,Qr,ua,m];refine C3.q (Gz d hp (rg rs i.b)) λ v y⟨l,h⟩=>?_;subst l;have g:=j.trans h λ _ w=>w.elim;have⟨st,ld,k⟩:=fin (d.em h) g;simp only[aa,bc,st,ld];refine t ?_ (k _);unfold iV.gh;rw[qy hb];simp[o]
 .simp only[aa,bc,o,Qr,ua,m];refine C3.q (Gz d hp _) λ v y⟨l,h⟩=>?_;subst l;have g:=j.trans h λ _ w=>w.elim;have⟨st,ld,k⟩:=fin (d.em h) g;simp only[aa,bc,st,ld];refine t ?_ (k _);unfold iV.gh;rw[qy hb];simp[o,FC]
 .simp only[aa,bc,o,Qr,ua,m,p];refine C3.q (Gz d hp _) λ v y⟨l,h⟩=>?_;subst l;have g:=j.trans h λ _ w=>w.elim;have⟨st,ld,k⟩:=fin (d.em h) g;simp only[aa,bc,st,ld];refine t ?_ (k _);unfold iV.gh;rw[qy hb];simp[o,FC]
 .simp only[aa,bc,o,Qr,ua,m,p];refine C3.q (Gz d hp _) λ v y⟨l,h⟩=>?_;subst l;have g:=j.trans h λ _ w=>w.elim;have⟨st,ld,k⟩:=fin (d.em h) g;simp only[aa,bc,st,ld];refine t ?_ (k _);unfold iV.gh;rw[qy hb];simp[o,FC]
 .have q:Op.bin .and [.int .u64 (rg rs i.b),.int .u64 (rg rs i.c)]=B1 (.int .u64 (FC 7 (rg rs i.b) (rg rs i.c))):=rfl;simp only[aa,bc,o,Qr,ua,m,p,r,q];refine C3.q (Gz d hp _) λ v y⟨l,h⟩=>?_;subst l;have g:=j.trans h λ _ w=>w.elim;have⟨st,ld,k⟩:=fin (d.em h) g;simp only[aa,bc,st,ld];refine t ?_ (k _);unfold iV.gh;rw[qy hb];simp[o]
 .have q:Op.bin .xor [.int .u64 (rg rs i.b),.int .u64 (rg rs i.c)]=B1 (.int .u64 (FC 8 (rg rs i.b) (rg rs i.c))):=rfl;simp only[aa,bc,o,Qr,ua,m,p,r,q];refine C3.q (Gz d hp _) λ v y⟨l,h⟩=>?_;subst l;have g:=j.trans h λ _ w=>w.elim;have⟨st,ld,k⟩:=fin (d.em h) g;simp only[aa,bc,st,ld];refine t ?_ (k _);unfold iV.gh;rw[qy hb];simp[o]
 .have q:Op.bin .rem [.int .u64 (rg rs i.c),.int .u64 64]=B1 (.int .u64 (((rg rs i.c % 64).toNat:Nat):Int)):=by
   rw[uI .u64 _ _ (by decide),Int.tmod_eq_emod_of_nonneg rc.1];congr 2;omega
  have E:=J6 .u64 .u64 (rg rs i.b) (rg rs i.c % 64).toNat;rw[show OM.u64.bits=64 from rfl,show min (rg rs i.c % 64).toNat 64=(rg rs i.c % 64).toNat by omega]at E;simp only[aa,bc,o,Qr,ua,m,p,r,s,q,E];refine C3.q (Gz d hp _) λ v y⟨l,h⟩=>?_;subst l;have g:=j.trans h λ _ w=>w.elim;have⟨st,ld,k⟩:=fin (d.em h) g;simp only[aa,bc,st,ld];refine t ?_ (k _);unfold iV.gh;rw[qy hb];simp[o,FC]
 .have q:Op.bin .rem [.int .u64 (rg rs i.c),.int .u64 64]=B1 (.int .u64 (((rg rs i.c % 64).toNat:Nat):Int)):=by
   rw[uI .u64 _ _ (by decide),Int.tmod_eq_emod_of_nonneg rc.1];congr 2;omega
  have E:=Pj .u64 .u64 (rg rs i.b) (rg rs i.c % 64).toNat;rw[show OM.u64.bits=64 from rfl,show min (rg rs i.c % 64).toNat 64=(rg rs i.c % 64).toNat by omega,Hj rb]at E;simp only[aa,bc,o,Qr,ua,m,p,r,s,q,E];refine C3.q (Gz d hp _) λ v y⟨l,h⟩=>?_;subst l;have g:=j.trans h λ _ w=>w.elim;have⟨st,ld,k⟩:=fin (d.em h) g;simp only[aa,bc,st,ld];refine t ?_ (k _);unfold iV.gh;rw[qy hb];simp[o,FC]
 .have ⟨st,ld,k⟩:=fin d j;simp only[aa,bc,o,Qr,ua,m,p,r,s,u,d.lp,wp,k1,bdL,st,ld];refine t ?_ (k _);unfold iV.gh;rw[qy hb];simp[o]
 .have ⟨st,ld,k⟩:=fin d j;simp only[aa,bc,o,Qr,ua,m,p,r,s,u,d.lp,wp,UL,st,ld];refine t ?_ (k _);unfold iV.gh;rw[qy hb];simp[o]
 .simp only[aa,bc,o,Qr,ua,m,p,r,s,u,B];refine C3.q (TH d hp B4) λ v y⟨l,h⟩=>?_;subst l;have g:=j.trans h λ _ w=>w.elim;have⟨st,ld,k⟩:=fin (d.em h) g;simp only[aa,bc,st,ld];refine t ?_ (k _);unfold iV.gh;rw[qy hb];simp[o]
 .simp only[aa,bc,o,Qr,ua,m,p,r,s,u,B];refine C3.q (TH d hp (decide (rg rs i.a=rg rs i.b))) λ v y⟨l,h⟩=>?_;subst l;have g:=j.trans h λ _ w=>w.elim;have⟨st,ld,k⟩:=fin (d.em h) g;simp only[aa,bc,st,ld];refine t ?_ (k _);unfold iV.gh;rw[qy hb];simp[o]
 .simp only[aa,bc,o,Qr,ua,m,p,r,s,u,B,A];refine C3.q (TH d hp (decide (rg rs i.a≠rg rs i.b))) λ v y⟨l,h⟩=>?_;subst l;have g:=j.trans h λ _ w=>w.elim;have⟨st,ld,k⟩:=fin (d.em h) g;simp only[aa,bc,st,ld];refine t ?_ (k _);unfold iV.gh;rw[qy hb];simp[o]
 .simp only[aa,bc,o,Qr,ua,m,p,r,s,u,B,A];refine C3.q (TH d hp (decide (rg rs i.a<rg rs i.b))) λ v y⟨l,h⟩=>?_;subst l;have g:=j.trans h λ _ w=>w.elim;have⟨st,ld,k⟩:=fin (d.em h) g;simp only[aa,bc,st,ld];refine t ?_ (k _);unfold iV.gh;rw[qy hb];simp[o]
 .simp only[aa,bc,o,Qr,ua,m,p,r,s,u,B,A,G];refine C3.q (YH d hp 5) λ v y⟨l,h⟩=>?_;subst l;have g:=j.trans h λ _ w=>w.elim;have⟨st,ld,k⟩:=fin (d.em h) g;simp only[aa,bc,st,ld];refine t ?_ (k _);unfold iV.gh;rw[qy hb];simp[o]
 .simp only[aa,bc,o,Qr,ua,m,p,r,s,u,B,A,G,O];refine C3.q (YH d hp 6) λ v y⟨l,h⟩=>?_;subst l;have g:=j.trans h λ _ w=>w.elim;have⟨st,ld,k⟩:=fin (d.em h) g;simp only[aa,bc,st,ld];refine t ?_ (k _);unfold iV.gh;rw[qy hb];simp[o]
end Go.Am
namespace Go.Am
open Lang Go.Proofs
def At(H:ar)(p t:Nat)(c:List AV):Prop:=H.get p=B1 (OR c t)/\p<H.au
section
variable{H H':ar}{p t:Nat}{c:List AV}
def At.ld(h:At H p t c)(k:Nat):Op.ae [.ptr p k] H=c[k]?:=x9 (xb h.1) k
def At.eJ(h:At H p t c){k n:Nat}(hn:k+n<=c.length):Op.aq n [.ptr p k] H=B1 (.agg ((c.drop k).take n)):=rS (xb h.1) hn
def At.fK(h:At H p t c){k n:Nat}{v:AV}(b:v.cells.length=n)(hn:k+n<=c.length)(a:aL v.cells=B4):Op.store n [.ptr p k,v] H=B1 (.undef,H.set p (OR (c.take k++v.cells++c.drop (k+n)) t)):=xK h.1 b hn a
def D8{α:Type}:∀(c:List α)(k:Nat)(v:α),k<c.length->c.take k ++ [v]++c.drop (k+1)=c.set k v
 |[],k,v,h=>absurd h (Nat.not_lt_zero _)
 |x::c,0,v,_=>rfl
 |x::c,k+1,v,h=>congrArg (x :: ·) (D8 c k v (Nat.lt_of_succ_lt_succ h))
def FL{v:AV}(h:aD v=B4):v.cells=[v]:=by
 cases v<;>first|rfl|cases h
def At.st(h:At H p t c)(k:Nat){v:AV}(a:aD v=B4)(hk:k<c.length):Op.store 1 [.ptr p k,v] H=B1 (.undef,H.set p (OR (c.set k v) t)):=by
 have e:=FL a;rw[h.fK (n:=1) (by rw[e];rfl) hk (by rw[e,vd];simp[a]),e,D8 c k v hk]
theorem At.set(h:At H p t c)(a:List AV):At (H.set p (OR a t)) p t a:=⟨xc ..,h.2⟩
def At.fr{W:Nat->Prop}(h:At H p t c)(f:Fr W H H')(hw:¬W p):At H' p t c:=⟨(f.ah p h.2 hw).trans h.1,qn h.2 f.au⟩
def At.em(h:At H p t c)(f:Fr Em H H'):At H' p t c:=h.fr f id
def At.new(H:ar)(c:List AV)(t:Nat):At (H.alloc (OR c t)) H.au t c:=⟨xp ..,zr _⟩
def cI(H:ar)(p:Nat)(o:bE):Fr (On p) H (H.set p o):=(Fr.refl H).set (W:=On p) (.inl rfl) o
end
variable{M:ak}[MK M]
def dC{f:Nat}{vs:List AV}{H:ar}{v:AV}(h:zb M f vs H λ w X=>w=v/\X=H)(K:Bool->AV->ar->Prop):C3 M B4 (.func f) vs H K=K B4 v H:=by
 obtain⟨w,X,⟨n1,d⟩,rfl,rfl⟩:=h.elim;refine propext ⟨?_,λ k=>⟨w,X,⟨n1,d⟩,k⟩⟩;rintro⟨e,X',⟨n2,g⟩,k⟩;have a:=d (max n1 n2) (by omega);rw[g (max n1 n2) (by omega)]at a;injection a with a
 injection a with a b
 injection b with _ b
 injection a with a
 subst a;subst b;exact k
def aw:(∀b o H,Op.eq .ptr B2 [.ptr b o,.nilp] H=B1 (.bool B2))/\(∀b o H,Op.eq .ptr B4 [.ptr b o,.nilp] H=B1 (.bool B4))/\(∀H,Op.eq .ptr B2 [.nilp,.nilp] H=B1 (.bool B4))/\(∀H,Op.eq .ptr B4 [.nilp,.nilp] H=B1 (.bool B2))/\(∀b o,Op.nilCheck [.ptr b o]=B1 (.ptr b o))/\(∀i l,Op.extract i [.tuple l]=l[i]?):=⟨yp,lJ,Pe,uo,qo,xj⟩
def ww{o:Nat->Nat}{n k z:Nat}(h:z<n):aQ o n k z=o z:=xg h
def ny{o:Nat->Nat}{n k z:Nat}(h:n<=z):aQ o n k z=k:=qy (by omega)
def cE(x:Fi)(pv:AV):List AV:=x.rs.map uC ++ [.int .i64 x.pc,pv,.bool B4]
def gB(x:List Int×Int):List AV:=x.1.map uC ++ [.int .i64 x.2]
structure Y1(x:List Int×Int):Prop where
 r8:x.1.length=8
 ru:∀v∈x.1,fL v
 pc:0<=x.2
def Ov(H:ar)(o:Nat->Nat)(f:Nat)(pv:AV):Option (List Int×Int)->Prop
 |none=>pv=.nilp
 |some x=>Y1 x /\ ∃b,pv=.ptr b 0/\At H b OU (gB x)/\o b=2/\b≠f
structure qD(H:ar)(o:Nat->Nat)(f:Nat)(x:Fi):Prop where
 w:Y1 (x.rs,x.pc)
 at':∃pv,At H f IG (cE x pv)/\Ov H o f pv x.pt
section
variable{H H':ar}{o o':Nat->Nat}{f:Nat}{x:Fi}
def M8{rs:List Int}(h:rs.length=8)(k:Nat)(l:List AV):(rs.map uC++l)[8+k]? = l[k]?:=by
 rw[z4 (by simp[h])];simp[h]
def IU{rs:List Int}(h:rs.length=8)(l:List AV):(rs.map uC++l).length=8+l.length:=by simp[h]
def Te{rs:List Int}(h:rs.length=8)(l:List AV)(n:Nat):(rs.map uC++l).take (8+n)=rs.map uC++l.take n:=by
 rw[show 8+n=(rs.map uC).length+n by simp[h],List.take_length_add_append]
def Ku{rs:List Int}(h:rs.length=8)(l:List AV)(n:Nat):(rs.map uC++l).drop (8+n)=l.drop n:=by
 rw[show 8+n=(rs.map uC).length+n by simp[h],vy]
def Ov.fr{W:Nat->Prop}{pv:AV}{x:Option (List Int×Int)}(h:Ov H o f pv x)(a:Fr W H H')(hw:∀z,z<H.au->o z=2->z≠f -> ¬W z)(ho:∀z,z<H.au->o' z=o z):Ov H' o' f pv x:=by
 cases x with
 |none=>exact h
 |some x =>
  have⟨i,b,j,d,e,g⟩:=h;exact⟨i,b,j,d.fr a (hw b d.2 e g),(ho b d.2).trans e,g⟩
def qD.fr{W:Nat->Prop}(h:qD H o f x)(a:Fr W H H')(e:o f=2)(hw:∀z,z<H.au->o z=2 -> ¬W z)(ho:∀z,z<H.au->o' z=o z):qD H' o' f x:=by
 have⟨pv,b,d⟩:=h.at';exact⟨h.w,pv,b.fr a (hw f b.2 e),d.fr a (λ z q w _=>hw z q w) ho⟩
def qD.em(h:qD H o f x)(a:Fr Em H H'):qD H' o f x:=by
 have⟨pv,b,d⟩:=h.at';exact⟨h.w,pv,b.em a,d.fr a (λ _ _ _ _ q=>q) λ _ _=>rfl⟩
def qD.row(h:qD H o f x){pv:AV}(a:At H f IG (cE x pv))(b:Ov H o f pv x.pt){y:Fi}(d:Y1 (y.rs,y.pc))(hp:y.pt=x.pt):qD (H.set f (OR (cE y pv) IG)) (aQ o H.au 2) f y :=
 ⟨d,pv,a.set _,hp▸b.fr (cI H f _) (λ z _ _ q=>q) λ z q=>ww q⟩
def qD.same(h:qD H o f x):qD H (aQ o H.au 2) f x:=by
 have⟨pv,a,b⟩:=h.at';exact⟨h.w,pv,a,b.fr (Fr.refl H) (λ z _ _ _ q=>q) λ z q=>ww q⟩
def mG(h:qD H o f x):∀K,C3 M B4 (.func mo) [.ptr f 0] H K=K B4 (.bool B2) H:=by
 obtain⟨pv,a,-⟩:=h.at';have l:=(a.ld 10).trans (M8 h.w.r8 2 _);refine dC (q08 ?_);simp only[aa,bc,q09,aw,l]
def mA(h:qD H o f x):∀K,C3 M B4 (.func qly) [.ptr f 0] H K=K B4 (.int .i64 (if x.pt.isSome then 0 else 60)) H:=by
 have⟨pv,d,a⟩:=h.at';have l:=(d.ld 9).trans (M8 h.w.r8 1 _);refine dC (qwe ?_);cases q:x.pt with
 |none =>
  rw[q]at a;have a:pv=.nilp:=a;subst a;simp only[aa,bc,qme,aw,mG h,l,BL,ja]
 |some y =>
  rw[q]at a;obtain⟨-,b,rfl,-⟩:=a;simp only[aa,bc,qme,aw,mG h,l,BL]
def EZ(h:qD H o f x)(i:Int):∀K,C3 M B4 (.func xo) [.ptr f 0,.int .i64 i] H K=K B4 (.int .i64 (if 0<=i/\i<8 then 0 else 2)) H:=by
 refine dC (qyi ?_)
 by_cases a:i<0
 .simp only[aa,bc,VN,mG h,a,qy (λ q:0<=i/\i<8=>I3.2 q.1 a)]
 by_cases b:(8:Int)<=i
 .simp only[aa,bc,VN,mG h,a,b,qy (λ q:0<=i/\i<8=>I3.2 b q.2)]
 .simp only[aa,bc,VN,mG h,a,b,xg (show 0<=i/\i<8 by omega)]
def KA(H:ar)(o:Nat->Nat)(f:Nat)(y:Fi)(H':ar):Prop:=qD H' (aQ o H.au 2) f y/\Fr (On f) H H'
def Ky(h:qD H o f x)(i:Int){v:Int}(k:fL v):zb M Zw [.ptr f 0,.int .i64 i,.int .u64 v] H λ _ H'=>KA H o f (x.set i v) H':=by
 refine q58 ?_;unfold Fi.set
 by_cases b:0<=i/\i<8
 .rw [xg b];have⟨pv,g,j⟩:=h.at';have d:=h.w.r8;obtain⟨a,rfl⟩:=ji b.1;have ha:a<8:=by omega
  have ix:Op.aV 8 1 [.ptr f 0,.int .i64 (a:Int)]=B1 (.ptr f a):=by rw[QJ rfl ha];simp
  have e:(cE x pv).set a (.int .u64 v)=cE {x with rs:=x.rs.set a v} pv:=by
   unfold cE;rw[List.set_append_left _ _ (by simp[d];exact ha),List.map_set];rfl
  have st:=g.st a (v:=.int .u64 v) rfl (by unfold cE;rw[IU d];omega);rw[e]at st;simp only[aa,bc,vo,aw,EZ h,xg b,ix,st];refine⟨h.row g j ⟨by simp[d],λ y q=>(FV q).elim (h.w.ru y) λ e=>e▸k,h.w.pc⟩ rfl,cI ..⟩
 .rw [qy b];have m:¬(2:Int)=0:=by decide
  simp only[aa,bc,vo,EZ h,qy b,m];exact⟨h.same,Fr.refl _⟩
def JI(h:qD H o f x)(i:Int):zb M e_ [.ptr f 0,.int .i64 i] H λ _ H'=>KA H o f (x.jump i) H':=by
 refine q05 ?_;unfold Fi.jump
 by_cases a:i<0
 .rw [xg a];simp only[aa,bc,oA,mG h,a];exact⟨h.same,Fr.refl _⟩
 .rw [qy a];have⟨pv,d,g⟩:=h.at';have b:=h.w.r8;have e:(cE x pv).set 8 (.int .i64 i)=cE {x with pc:=i} pv:=by
   unfold cE;rw[M3 _ _ (by simp[b])];simp[b]
  have st:=d.st 8 (v:=.int .i64 i) rfl (by unfold cE;rw[IU b];simp);rw[e]at st;simp only[aa,bc,oA,aw,mG h,a,st];exact⟨h.row d g ⟨b,h.w.ru,I3.1 a⟩ rfl,cI ..⟩
def fpc(h:qD H o f x):∀K,C3 M B4 (.func X_) [.ptr f 0] H K=K B4 (.int .i64 x.pc) H:=by
 obtain⟨pv,a,-⟩:=h.at';have l:=(a.ld 8).trans (M8 h.w.r8 0 _);refine dC (q7s ?_);simp only[aa,bc,q7t,aw,mG h,l]
def Yt(h:qD H o f x):zb M _9 [.ptr f 0] H λ v H'=>v=.agg (x.rs.map uC)/\Fr Em H H':=by
 refine q56 ?_;obtain⟨H1,e1,b,-,-⟩:=bZ H (OR (Ji 8 (.int .u64 0)) yG);have d:At H1 H.au yG _:=e1▸At.new H _ _;obtain⟨pv,g,-⟩:=(h.em b).at';have a:=h.w.r8;have l:=g.eJ (k:=0) (n:=8) (by unfold cE;rw[IU a];simp);rw[yw,show 8=8+0 from rfl,cE,Te a,yf,zp]at l;have s:=d.fK (k:=0) (n:=8) (v:=.agg (x.rs.map uC)) (by simp[zo,a]) (by simp) (by rw[zo,vd];simp[uC,aD]);rw[zo,yf,jo,jh (by simp),zp]at s;have l2:=((d.set (x.rs.map uC)).eJ (k:=0) (n:=8) (by simp[a]))
 rw[yw,za (by simp[a])]at l2;have e:[AV.int .u64 0,.int .u64 0,.int .u64 0,.int .u64 0,.int .u64 0,.int .u64 0,.int .u64 0,.int .u64 0]=Ji 8 (.int .u64 0):=rfl;simp only[aa,bc,q57,aw,e,<-e1,mG (h.em b),l,s,l2];exact b.set (.inr (qm _)) _
def Mq{pv:AV}(b:At H f IG (cE x pv))(a:x.rs.length=8):Op.aq 9 [.ptr f 0] H=B1 (.agg (gB (x.rs,x.pc))):=by
 have l:=b.eJ (k:=0) (n:=9) (by unfold cE;rw[IU a];simp);rw[yw,show 9=8+1 from rfl,cE,Te a]at l;exact l
def VK{pv:AV}(b:At H f IG (cE x pv))(a:x.rs.length=8):Op.aq 8 [.ptr f 0] H=B1 (.agg (x.rs.map uC)):=by
 have l:=b.eJ (k:=0) (n:=8) (by unfold cE;rw[IU a];simp);rw[yw,show 8=8+0 from rfl,cE,Te a,yf,zp]at l;exact l
def DQ(y:List Int×Int):aL (gB y)=true:=by unfold gB;rw[vd];simp[uC,aD]
def Oo{y:List Int×Int}(h:y.1.length=8):(gB y).length=9:=by simp[gB,h]
def z9:[AV.int .u64 0,.int .u64 0,.int .u64 0,.int .u64 0,.int .u64 0,.int .u64 0,.int .u64 0,.int .u64 0,.int .i64 0]=gB (Ji 8 0,0):=rfl
def PU(h:qD H o f x):zb M qpb [.ptr f 0] H λ _ H'=>KA H o f x.save H':=by
 refine q06 ?_;have⟨pv,b,y⟩:=h.at';have a:=h.w.r8;obtain⟨H1,e1,u,-,-⟩:=bZ H (OR (gB (Ji 8 0,0)) OU);have g:At H1 H.au OU _:=e1▸At.new H _ _;have s:=g.fK (k:=0) (n:=9) (v:=.agg (gB (x.rs,x.pc))) (by rw[zo];exact Oo a) (by simp[gB]) (by rw[zo];exact DQ _);rw[zo,yf,jo,jh (by simp[gB]),zp]at s;obtain⟨d,e2⟩:∃X,X=H1.set H.au (OR (gB (x.rs,x.pc)) OU):=⟨_,rfl⟩
 rw[<-e2]at s;have r:At d H.au OU (gB (x.rs,x.pc)):=e2▸g.set _;have i:Fr Em H d:=e2▸u.set (.inr (qm _)) _;have j:=b.em i;have e:(cE x pv).set 9 (.ptr H.au 0)=cE x.save (.ptr H.au 0):=by
  unfold cE;rw[M3 _ _ (by simp[a])];simp[a,Fi.save]
 have st:=j.st 9 (v:=.ptr H.au 0) rfl (by unfold cE;rw[IU a];simp);rw[e]at st;simp only[aa,bc,q07,aw,mG h,Mq b a,z9,<-e1,s,st];have m:H.au≠f:=λ q=>by have:=b.2;omega
 exact⟨⟨h.w,_,j.set _,h.w,_,rfl,r.fr (cI ..) (λ q=>m q),ny (qm _),m⟩,(i.mono (W':=On f) λ _ _ q=>q.elim).trans (cI ..) λ z q=>.inl q⟩
def QR(h:qD H o f x):zb M _B [.ptr f 0] H λ _ H'=>KA H o f x.drop H':=by
 refine q04 ?_;have⟨pv,b,g⟩:=h.at';have a:=h.w.r8;cases q:x.pt with
 |none =>
  have e:x.drop=x:=by unfold Fi.drop;cases x;simp only at q;rw[q]
  rw[e];have d:¬(60:Int)=0:=by decide
  simp only[aa,bc,qpp,mA h,q,BL,ja,d];exact⟨h.same,Fr.refl _⟩
 |some y =>
  have e:(cE x pv).set 9 .nilp=cE x.drop .nilp:=by
   unfold cE;rw[M3 _ _ (by simp[a])];simp[a,Fi.drop]
  have st:=b.st 9 (v:=.nilp) rfl (by unfold cE;rw[IU a];simp);rw[e]at st;simp only[aa,bc,qpp,aw,mA h,q,BL,st];exact⟨⟨h.w,_,b.set _,rfl⟩,cI ..⟩
def Vr{a b:List Int}(ha:a.length=8)(hb:b.length=8)(H:ar):Op.eq (.agg (.part 0 B5 .int (.part 1 B5 .int (.part 2 B5 .int (.part 3 B5 .int (.part 4 B5 .int (.part 5 B5 .int (.part 6 B5 .int (.part 7 B5 .int .nil))))))))) B4 [.agg (a.map uC),.agg (b.map uC)] H=B1 (.bool (decide (a≠b))):=by
 match a,ha,b,hb with
 |[a0,a1,a2,a3,a4,a5,a6,a7],_,[b0,b1,b2,b3,b4,b5,b6,b7],_ =>
  refine(Vm _ _ _ _ (decide ([a0,a1,a2,a3,a4,a5,a6,a7]=[b0,b1,b2,b3,b4,b5,b6,b7])) ?_).trans (by simp);simp only[kh,FN,uC,aY,partAt,jN,zj,z8,qr,sJ,jQ,JW,xt,Sc,zz,uj]
  by_cases d:a0=b0<;>by_cases e:a1=b1<;>by_cases g:a2=b2<;>by_cases h:a3=b3<;>simp only[d,e,g,h,decide_true,JJ,xt,zn,FO,false_and,and_false]<;>by_cases i:a4=b4<;>by_cases j:a5=b5<;>by_cases k:a6=b6<;>by_cases m:a7=b7<;>simp only[i,j,k,m,decide_true,JJ,xt,zn,FO,false_and,and_false]
def _G(h:qD H o f x):zb M tr [.ptr f 0] H λ _ H'=>KA H o f x.restore H':=by
 refine quh ?_;have⟨pv,g,j⟩:=h.at';have a:=h.w.r8;cases q:x.pt with
 |none =>
  have e:x.restore=x:=by unfold Fi.restore;rw[q]
  rw[e];have F:¬(60:Int)=0:=by decide
  simp only[aa,bc,TG,mA h,q,BL,ja,F];exact⟨h.same,Fr.refl _⟩
 |some y =>
  rw[q]at j;have m:=j;obtain⟨d,b,rfl,hb,I,G⟩:=j;have e:x.restore=⟨y.1,y.2,B1 y⟩:=by unfold Fi.restore;rw[q]
  have r:=(g.ld 9).trans (M8 a 1 _);have A:=(g.ld 8).trans (M8 a 0 _);have B:=(hb.ld 8).trans (M8 d.r8 0 _);have u:Op.aq 8 [.ptr b 0] H=B1 (.agg (y.1.map uC)):=by
   have l:=hb.eJ (k:=0) (n:=8) (by rw[Oo d.r8];decide);rw[yw,show 8=8+0 from rfl,gB,Te d.r8,yf,zp]at l;exact l
  have C:Op.aq 9 [.ptr b 0] H=B1 (.agg (gB y)):=by
   have l:=hb.eJ (k:=0) (n:=9) (by rw[Oo d.r8];decide);rw[yw,za (by rw[Oo d.r8];decide)]at l;exact l
  have s:=g.fK (k:=0) (n:=9) (v:=.agg (gB y)) (by rw[zo];exact Oo d.r8) (by unfold cE;rw[IU a];simp) (by rw[zo];exact DQ _);have e2:(cE x (.ptr b 0)).take 0++gB y++(cE x (.ptr b 0)).drop (0+9)=cE ⟨y.1,y.2,B1 y⟩ (.ptr b 0):=by
   rw[yf,jo,cE,show 0+9=8+1 from rfl,Ku a,gB,ku];rfl
  rw[zo,e2]at s
  by_cases i:x.rs=y.1/\x.pc=y.2
  .have D:x.restore=x:=by rw[e,<-i.1,<-i.2,<-q]
   rw[D];simp only[aa,bc,TG,aw,mA h,q,BL,VK g a,r,u,Vr a d.r8,qv i.1,A,B,qv i.2];exact⟨h.same,Fr.refl _⟩
  .rw [e];have fin:KA H o f ⟨y.1,y.2,B1 y⟩ (H.set f (OR (cE ⟨y.1,y.2,B1 y⟩ (.ptr b 0)) IG)):=⟨h.row g (q▸m) d q.symm,cI ..⟩
   by_cases z:x.rs=y.1
   .have E:¬x.pc=y.2:=λ w=>i ⟨z,w⟩;simp only[aa,bc,TG,aw,mA h,q,BL,VK g a,r,u,Vr a d.r8,qv z,A,B,E,C,s];exact fin
   .simp only[aa,bc,TG,aw,mA h,q,BL,VK g a,r,u,Vr a d.r8,z,C,s];exact fin
end
end Go.Am
namespace Go.Am
open Lang Go.Proofs
variable{M:ak}[MK M]
def iC(x:Int):AV:=.int .i64 x
def dW(x:La):List AV:=x.gf.map iC++(iC x.lane::(x.jL.map iC ++ [.bool B4]))
structure LaW(x:La):Prop where
 b5:x.gf.length=5
 c5:x.jL.length=5
 l0:0<=x.lane
 l4:x.lane<=4
 b4:x.gf.getD 4 0≠0
structure lX(H:ar)(l:Nat)(x:La):Prop where
 w:LaW x
 at':At H l vc (dW x)
section
variable{H H':ar}{l:Nat}{x:La}
def lX.fr{W:Nat->Prop}(h:lX H l x)(a:Fr W H H')(hw:¬W l):lX H' l x:=⟨h.w,h.at'.fr a hw⟩
def lX.em(h:lX H l x)(a:Fr Em H H'):lX H' l x:=h.fr a id
def QX(h:lX H l x){k:Nat}(hk:k<5):Op.ae [.ptr l k] H=B1 (iC (x.gf.getD k 0)):=by
 rw[h.at'.ld,dW,yx (by simp[h.w.b5];exact hk),xq,zt];have:k<x.gf.length:=by rw[h.w.b5];exact hk
 rw[xf this];rfl
def iM(h:lX H l x):Op.ae [.ptr l 5] H=B1 (.int .i64 x.lane):=by
 rw[h.at'.ld,dW,z4 (by simp[h.w.b5])];simp[h.w.b5,iC]
def O8(h:lX H l x){k:Nat}(hk:k<5):Op.ae [.ptr l (6+k)] H=B1 (iC (x.jL.getD k 0)):=by
 rw[h.at'.ld,dW,z4 (by simp[h.w.b5];omega),xu,h.w.b5,show 6+k-5=k+1 by omega,z8,yx (by simp[h.w.c5];exact hk),xq,zt];have:k<x.jL.length:=by rw[h.w.c5];exact hk
 rw[xf this];rfl
def Po(h:lX H l x):Op.ae [.ptr l 11] H=B1 (.bool B4):=by
 rw[h.at'.ld,dW,z4 (by simp[h.w.b5])];simp[h.w.b5,h.w.c5]
def Pd(h:lX H l x):Op.aq 5 [.ptr l 6] H=B1 (.agg (x.jL.map iC)):=by
 rw[h.at'.eJ (by simp[dW,h.w.b5,h.w.c5]),dW,show 6=(x.gf.map iC).length+1 by simp[h.w.b5],vy,List.drop_succ_cons,yw,Ow (by simp[h.w.c5]),za (by simp[h.w.c5])]
def Jq(h:lX H l x){v:Int}(a:0<=v)(b:v<=4):Op.store 1 [.ptr l 5,.int .i64 v] H=B1 (.undef,H.set l (OR (dW {x with lane:=v}) vc))/\lX (H.set l (OR (dW {x with lane:=v}) vc)) l {x with lane:=v}:=by
 refine⟨?_,⟨h.w.b5,h.w.c5,a,b,h.w.b4⟩,h.at'.set _⟩;rw[h.at'.st 5 rfl (by simp[dW,h.w.b5]),dW,M3 _ _ (by simp[h.w.b5])];simp[h.w.b5,dW,iC]
def Pm(h:lX H l x){k:Nat}(hk:k<5)(v:Int):Op.store 1 [.ptr l (6+k),.int .i64 v] H=B1 (.undef,H.set l (OR (dW {x with jL:=x.jL.set k v}) vc))/\lX (H.set l (OR (dW {x with jL:=x.jL.set k v}) vc)) l {x with jL:=x.jL.set k v}:=by
 refine⟨?_,⟨h.w.b5,by simp[h.w.c5],h.w.l0,h.w.l4,h.w.b4⟩,h.at'.set _⟩;rw[h.at'.st (6+k) rfl (by simp[dW,h.w.b5,h.w.c5];omega),dW,M3 _ _ (by simp[h.w.b5];omega),xu,h.w.b5,show 6+k-5=k+1 by omega,List.set_cons_succ,List.set_append_left _ _ (by simp[h.w.c5];exact hk)];simp[dW,iC,List.map_set]
def Ju(h:lX H l x):Op.store 5 [.ptr l 6,.agg (La.kZ.map iC)] H=B1 (.undef,H.set l (OR (dW {x with jL:=La.kZ}) vc))/\lX (H.set l (OR (dW {x with jL:=La.kZ}) vc)) l {x with jL:=La.kZ}:=by
 refine⟨?_,⟨h.w.b5,rfl,h.w.l0,h.w.l4,h.w.b4⟩,h.at'.set _⟩;rw[h.at'.fK (n:=5) rfl (by simp[dW,h.w.b5,h.w.c5]) rfl,dW,show 6=(x.gf.map iC).length+1 by simp[h.w.b5],List.take_length_add_append,Ad,vy];simp[dW,h.w.c5,zo]
def gC(h:lX H l x):∀K,C3 M B4 (.func O_) [.ptr l 0] H K=K B4 (.bool B2) H:=by
 refine dC (qso ?_);simp only[aa,bc,qsp,aw,Po h]
def i9(h:lX H l x):∀K,C3 M B4 (.func qjz) [.ptr l 0] H K=K B4 (.int .i64 x.lane) H:=by
 refine dC (qsl ?_);simp only[aa,bc,qsm,aw,gC h,iM h]
def sQ(h:lX H l x):∀K,C3 M B4 (.func qjy) [.ptr l 0] H K=K B4 (.bool x.rP) H:=by
 refine dC (qsk ?_);unfold La.rP
 by_cases q:x.lane=1
 .simp only[aa,bc,_2,aw,gC h,iM h,q,Bool.true_or]
 .simp only[aa,bc,_2,aw,gC h,iM h,q,Bool.false_or]
def z5:[AV.int .i64 0,.int .i64 0,.int .i64 0,.int .i64 0,.int .i64 0]=La.kZ.map iC:=rfl
def RU(l:List Int):aL (l.map iC)=true:=by rw[vd];simp[iC,aD]
def Ht(h:lX H l x):zb M qhy [.ptr l 0] H λ v H'=>v=.agg (x.jL.map iC)/\Fr Em H H':=by
 refine qpv ?_;obtain⟨H1,e1,b,-,-⟩:=bZ H (OR (La.kZ.map iC) Of);have a:At H1 H.au Of _:=e1▸At.new H _ _;have d:=h.em b;have s:=a.fK (k:=0) (n:=5) (v:=.agg (x.jL.map iC)) (by rw[zo,xu];exact h.w.c5) (by decide) (by rw[zo];exact RU _);rw[zo,yf,jo,jh (by decide),zp]at s;have l2:=((a.set (x.jL.map iC)).eJ (k:=0) (n:=5) (by simp[h.w.c5]))
 rw[yw,za (by simp[h.w.c5])]at l2;simp only[aa,bc,qpw,aw,z5,<-e1,gC d,Pd d,s,l2];exact b.set (.inr (qm _)) _
def XG(h:lX H l x):zb M _Y [.ptr l 0] H λ v H'=>v=.int .i64 x.tries/\Fr Em H H':=by
 refine qt9 ?_;simp only[aa,bc,Xk];refine C3.q (Ht h) λ v H1⟨r,j⟩=>?_;subst r;simp only[aa,bc];have u:=h.w.c5;have ix:∀{i:Nat},i<5->Op.bF 5 1 B5 [.agg (x.jL.map iC),.int .i64 (i:Int)]=B1 (.int .i64 (x.jL.getD i 0)):=λ{i}g=>by
  have hl:i<x.jL.length:=by omega
  simp only[Op.bF,J7 rfl g,qr,Nat.mul_one,partAt,jN,xq,zt,xf hl];rfl
 refine cu.intro (λ n E d=>∃i:Nat,E=[(8,.int .i64 (i:Int)),(7,.agg (x.jL.map iC)),(3,.int .i64 ((x.jL.take i).foldl (λ n k=>aj .i64 (n+k)) 0)),(2,.int .i64 0),(0,.ptr l 0)]/\n=5-i/\i<=5/\d=H1) ?_ ?_
 .exact ⟨_,_,⟨0,rfl,rfl,xw _,rfl⟩,by simp only[aa,bc];rfl⟩
 rintro n E d ⟨i,rfl,rfl,g,rfl⟩;rcases xz i 5 with b|m
 .have a:(i:Int)<5:=by omega
  have s:aj .i64 ((i:Int)+1)=((i+1:Nat):Int):=by rw[jc (by omega) (by omega)];omega
  simp only[aa,bc,Xk,a,ix b,s];have hl:i<x.jL.length:=by omega
  refine⟨_,_,⟨i+1,rfl,rfl,by omega⟩,?_,by omega⟩;rw[j7,List.foldl_append,xf hl,zt,xf hl];simp only[aa,bc];rfl
 .have a:¬(i:Int)<5:=by omega
  have e:x.jL.take i=x.jL:=za (by omega);simp only[aa,bc,Xk,a,e];exact⟨rfl,j⟩
def Aa(gf:List Int)(k j:Nat):Bool:=gf.getD (k+1+j) 0 != 0
def pB(gf:List Int)(k:Nat):List (List AV):=((MX (4-k)).filter (Aa gf k)).map λ j=>[.int .i64 ((k+1+j:Nat):Int)]
def xjd{H0:ar}{p q l k:Nat}{gf:List Int}(hp:H0.get p=B1 (OR [.ptr l 0] QO))(hq:H0.get q=B1 (OR [.int .i64 (k:Int)] cH))(Z:p<H0.au)(hql:q<H0.au)(hk:k<=3) :
 uT M wx [] [.ptr q 0,.ptr p 0] (λ z=>z=p\/z=q) (λ _=>False) (λ _ H=>∃y,lX H l y/\y.gf=gf) H0 (pB gf k):=by
 intro Y R S j H1 X L C D loc O hI step;have⟨p1,p2,p3⟩:=L p (.inl (.inl rfl));have⟨P,J,Q⟩:=L q (.inl (.inr rfl))
 suffices h:zb M wx [.fn (.yield Y) [] [],.ptr q 0,.ptr p 0] H1 (I4 R S j (λ _=>False) H1 (pB gf k).length)by
  have⟨v,H',U,W',P,J,Q⟩:=h.elim;exact⟨v,H',W',U,P,J,Q⟩
 refine qpz ?_;have lp:∀{d:ar},Fr j H1 d->Op.ae [.ptr p 0] d=B1 (.ptr l 0):=λ f=>by rw[x9 (xb (by rw[f.ah _ (by omega) p3,p2];exact hp))];rfl
 have lq:Op.ae [.ptr q 0] H1=B1 (.int .i64 (k:Int)):=by rw[x9 (xb (by rw[J];exact hq))];rfl
 have wk:aj .i64 ((k:Int)+1)=((k+1+0:Nat):Int):=by rw[jc (by omega) (by omega)];omega
 simp only[aa,bc,Ru,lq,wk];refine cu.intro (λ n E d=>∃(i:Nat)(V:Nat->Prop),E=[(4,.int .i64 ((k+1+i:Nat):Int)),(0,.fn (.yield Y) [] []),(1,.ptr q 0),(2,.ptr p 0)]/\n=4-k-i/\i<=4-k/\LH R j H1 d ((MX i).filter (Aa gf k)).length V) ?_ ?_
 .exact ⟨_,_,⟨0,j,rfl,rfl,xw _,⟨C,λ b hb=>⟨D b hb,.inl hb⟩,Fr.refl _⟩⟩,by simp only[aa,bc]⟩
 rintro n E d ⟨i,V,rfl,rfl,hi,a⟩;rcases xz i (4-k)with I|W
 .have A:((k+1+i:Nat):Int)<5:=by omega
  obtain⟨y,hy,rfl⟩:=hI _ V d a.hR;have ix:Op.aV 5 1 [.ptr l 0,.int .i64 ((k+1+i:Nat):Int)]=B1 (.ptr l (k+1+i)):=by rw[QJ rfl (by omega)];simp
  have ls:=QX hy (k:=k+1+i) (by omega);have T:aj .i64 (((k+1+i:Nat):Int)+1)=((k+1+(i+1):Nat):Int):=by rw[jc (by omega) (by omega)];omega
  have N:=P0 (Aa y.gf k) i
  by_cases r:y.gf.getD (k+1+i) 0=0
  .have g:((MX (i+1)).filter (Aa y.gf k)).length=((MX i).filter (Aa y.gf k)).length:=by rw[N,show Aa y.gf k i=B2 from bne_eq_false_iff_eq.2 r];simp
   simp only[aa,bc,Ru,A,lp a.fr,aw,ix,ls,iC,qv r,T];exact⟨_,_,⟨i+1,V,rfl,rfl,by omega,by rw[g];exact a⟩,by simp only[aa,bc],by omega⟩
  .have g:((MX (i+1)).filter (Aa y.gf k)).length=((MX i).filter (Aa y.gf k)).length+1:=by rw[N,show Aa y.gf k i=B4 from bne_iff_ne.2 r];simp
   have hg:(pB y.gf k)[((MX i).filter (Aa y.gf k)).length]? = B1 [.int .i64 ((k+1+i:Nat):Int)]:=by
    unfold pB;rw[xq,VJ _ I (show Aa y.gf k i=B4 from bne_iff_ne.2 r)];rfl
   have⟨bb,K,B,hr,F,u,ht,hs⟩:=step _ _ hg V d a.hR a.hV (a.fr.mono λ _ _ q=>.inl q);have m:Fr j H1 K:=a.fr.trans F λ b q=>(a.hV b q).2;have s:∀b,B b->b<K.au/\(j b\/H1.au<=b):=λ b q=>⟨(u b q).1,(u b q).2.elim (λ w=>(a.hV b w).2) λ w=>.inr (xx a.fr.au w)⟩
   simp only[aa,bc,Ru,A,lp a.fr,aw,ix,ls,iC,r];refine C3.uZ hr ?_;cases bb with
   |true =>
    simp only[aa,bc,Ru,T];exact⟨_,_,⟨i+1,B,rfl,rfl,by omega,⟨by rw[g];exact ht rfl,s,m⟩⟩,by simp only[aa,bc],by omega⟩
   |false =>
    simp only[aa,bc];exact⟨B,m.mono λ _ _ q=>.inl q,s,.inr (hs rfl)⟩
 .have A:¬((k+1+i:Nat):Int)<5:=by omega
  have G:i=4-k:=by omega
  simp only[aa,bc,Ru,A];refine⟨V,a.fr.mono λ _ _ q=>.inl q,a.hV,.inl ?_⟩;have e:(pB gf k).length=((MX i).filter (Aa gf k)).length:=by unfold pB;rw[xu,G]
  rw[e];exact a.hR
def q8n{gf:List Int}(a:gf.getD 4 0≠0){k:Nat}(hk:k<=3):(pB gf k)[0]? = B1 [.int .i64 (La.after gf (k:Int))]:=by
 unfold pB La.after;rw[xq];have key:∀b:Int,(b != 0)=decide (b≠0):=λ b=>by by_cases q:b=0<;>simp[q]
 rcases(by omega:k=0\/k=1\/k=2\/k=3)with rfl|rfl|rfl|rfl
 all_goals
  simp only[show MX (4-0)=[0,1,2,3]from rfl,show MX (4-1)=[0,1,2]from rfl,show MX (4-2)=[0,1]from rfl,show MX (4-3)=[0]from rfl,List.filter,Aa,Nat.reduceAdd,key,ke a];generalize gf.getD 1 0=b1;generalize gf.getD 2 0=b2;generalize gf.getD 3 0=b3
  by_cases x:b1=0<;>by_cases y:b2=0<;>by_cases z:b3=0<;>simp[x,y,z]
def yR(h:lX H l x){k:Nat}(hk:k<=3):zb M wg [.ptr l 0,.int .i64 (k:Int)] H λ _ H'=>lX H' l {x with lane:=La.after x.gf k}/\Fr (On l) H H':=by
 refine qsn ?_;obtain⟨H1,e1,U,n1,-⟩:=bZ H (OR [.ptr l 0] QO);obtain⟨m,e2,C,-,-⟩:=bZ H1 (OR [.ptr l 0] QO);obtain⟨A,J,s,-,g3⟩:=bZ m (OR [.int .i64 (k:Int)] cH);have r:=C.em s;have K:=U.em r;have n2:m.au=H.au+2:=by rw[e2,xy,n1]
 have n3:A.au=H.au+3:=by rw[J,xy,n2]
 have Y:A.get H.au=B1 (OR [.ptr l 0] QO):=by rw[r.ah _ (by omega) id,e1,xp]
 have Z:A.get H1.au=B1 (OR [.ptr l 0] QO):=by rw[s.ah _ (by omega) id,e2,xp]
 have l1:Op.ae [.ptr H.au 0] H1=B1 (.ptr l 0):=x9 (xb (e1▸xp H _)) 0;have ca:∀b,AV.cells (.ptr b 0)=[.ptr b 0]:=λ _=>rfl;have ci:∀n,AV.cells (.int .i64 n)=[.int .i64 n]:=λ _=>rfl;have op:zb M D_ [.ptr l 0,.int .i64 (k:Int)] H1 λ v H'=>v=.fn (.func wx) [] [.ptr m.au 0,.ptr H1.au 0]/\H'=A:=by
  refine qsq ?_;have mk:Op.bK wx 0 [.ptr m.au 0,.ptr H1.au 0]=B1 (.fn (.func wx) [] [.ptr m.au 0,.ptr H1.au 0]):=rfl;simp only[aa,bc,qsr,ca,ci,<-e2,<-J];rfl
 simp only[aa,bc,ZW,ca,<-e1,l1];refine C3.q op λ v H'⟨P,hh⟩=>?_;subst P;subst hh;simp only[aa,bc];have F:=h.em K;have hlt:=h.at'.2;refine iP.uv (fn:=TA) (lp:=Pw) (pa:=X1 0) (pb:=ZA 0) qre qh2.1 qh2.2 (by decide) qpx qpy
  (xjd (gf:=x.gf) Z g3 (by omega) (by omega) hk) (λ i V B=>i=0/\lX B l x/\V l) (λ e V B=>e=.ret/\lX B l {x with lane:=La.after x.gf k}/\V l) (On l) (qm _) ?_ ?_ ?_ ?_ ?_ ?_ ?_ ?_ ?_
 .rintro z ((q|q)|q)
  .exact ⟨by omega,rfl,λ(w:z=l)=>by omega⟩
  .exact ⟨by omega,rfl,λ(w:z=l)=>by omega⟩
  .exact q.elim
 .exact λ z(G:z=l)=>by omega
 .exact ⟨rfl,F,rfl⟩
 .exact λ i V S Hb⟨I,j,u⟩hs hn=>⟨I,⟨j.w,by rw[hs l u];exact j.at'.1,qn j.at'.2 hn⟩,u⟩
 .exact λ i V S Hb⟨I,j,u⟩hs hn=>⟨I,⟨j.w,by rw[hs l u];exact j.at'.1,qn j.at'.2 hn⟩,u⟩
 .exact λ i V B⟨_,q,_⟩=>⟨_,q,rfl⟩
 .intro a i lr lb y Q hL2 V g ⟨O,hP,hV⟩ hb hf6 hnL hL6 hgL;subst O;rw[q8n h.w.b4 hk]at Q;cases Q;refine⟨_,rfl,?_⟩;obtain⟨-,wa,wb⟩:=ZW M ⟨B1 a,wg⟩;simp only[aa,bc,wa,Ct];refine⟨hgL,?_⟩;have L:Fr (On a) g (g.set a lb):=(Fr.refl g).set (W:=On a) (.inl rfl) _;have gL:(g.set a lb).get a=B1 lb:=xc ..;have nL:(g.set a lb).au=g.au:=rfl;have R:a≠l:=λ q=>hnL (by rw[q];exact hV);have h7:lX (g.set a lb) l x:=hP.fr L (λ q:l=a=>R q.symm);have lq:Op.ae [.ptr H.au 0] (g.set a lb)=B1 (.ptr l 0):=by
   rw[x9 (xb (by rw[yd (by omega),hf6.ah H.au (by omega) (λ q=>q.elim (λ q:H.au=l=>by omega) id)];exact Y))];rfl
  generalize g.set a lb=H7 at *;obtain⟨a0,T⟩:0<=La.after x.gf (k:Int)/\La.after x.gf (k:Int)<=4:=by unfold La.after;repeat' split<;>omega
  have⟨s8,h8⟩:=Jq h7 a0 T;simp only[aa,bc,wb,lq,aw,s8];have X:Fr (On l) H7 (H7.set l (OR (dW {x with lane:=La.after x.gf k}) vc)):=cI ..;refine⟨rfl,by rw[yd (λ q=>R q.symm)];exact gL,V,λ z G=>⟨by have:=(hb z G).1;rw[t9,nL];exact this,.inl G⟩,(L.mono λ z _ q=>.inr q).trans X λ z(q:z=l)=>.inl (.inl (by rw[q];exact hV)),.inr ⟨trivial,rfl,h8,hV⟩⟩
 .rintro d V H' hd E hg N hV ⟨O,-⟩;exfalso;have:=(qt.1 (q8n h.w.b4 hk)).1;omega
 .rintro e d V H' he hd E hg N hV ⟨rfl,hl,P⟩;have D:d≠l:=λ q=>by omega
  have fd:Fr (On d) H' (H'.set d (.deferred B5)):=(Fr.refl H').set (W:=On d) (.inl rfl) _;simp only[aa,bc];refine⟨hg,hl.fr fd (λ q:l=d=>D q.symm),?_⟩;exact((K.mono (W':=On l) λ _ _ q=>q.elim).trans (N.mono λ z _ q=>q.elim id ND) λ z q=>.inl q).trans fd λ z(q:z=d)=>.inr (by omega)
def Ry(H:ar)(l:Nat)(y:La)(H':ar):Prop:=lX H' l y/\Fr (On l) H H'
def Ki(h:lX H l x):zb M m_ [.ptr l 0] H λ _ H'=>Ry H l x.leave H':=by
 refine qrd ?_;unfold La.leave
 by_cases q:x.lane=0
 .rw [xg q];simp only[aa,bc,qw,aw,gC h,iM h,qv q];exact⟨h,Fr.refl _⟩
 .rw [qy q];have⟨s1,b⟩:=Jq h (v:=0) (by decide) (by decide);have⟨s2,d⟩:=Ju b;have a:Op.build [.int .i64 0,.int .i64 0,.int .i64 0,.int .i64 0,.int .i64 0] [] []=B1 (.agg (La.kZ.map iC)):=rfl;simp only[aa,bc,qw,aw,gC h,iM h,q,a,s1,s2];exact⟨d,(cI ..).trans (cI ..) λ z q=>.inl q⟩
def KT(h:lX H l x):zb M qi0 [.ptr l 0] H λ _ H'=>Ry H l x.enter H':=by
 refine qrc ?_;unfold La.enter
 by_cases q:x.lane=0
 .rw [xg q];have⟨s2,e⟩:=Ju h;have b:Op.build [.int .i64 0,.int .i64 0,.int .i64 0,.int .i64 0,.int .i64 0] [] []=B1 (.agg (La.kZ.map iC)):=rfl;simp only[aa,bc,L',aw,gC h,iM h,qv q,b,s2];refine C3.q (yR e (k:=0) (by decide)) λ v g⟨a,d⟩=>?_;simp only[aa,bc,aw,iM a];exact⟨a,(cI ..).trans d λ z q=>.inl q⟩
 .rw [qy q];simp only[aa,bc,L',aw,gC h,iM h,q];exact⟨h,Fr.refl _⟩
def MP(h:lX H l x)(c:Int):zb M I' [.ptr l 0,.int .i64 c] H λ _ H'=>Ry H l (x.abort c) H':=by
 refine qrb ?_;unfold La.abort;have U:=h.w.l0;have V:=h.w.l4
 by_cases g:x.lane=0
 .rw [xg (.inl g)];simp only[aa,bc,jw,aw,gC h,iM h,qv g];exact⟨h,Fr.refl _⟩
 by_cases i:x.lane=4
 .rw [xg (.inr (.inl i))];simp only[aa,bc,jw,aw,gC h,iM h,g,qv i];exact⟨h,Fr.refl _⟩
 by_cases n:c<1
 .rw [xg (.inr (.inr (.inl n)))];simp only[aa,bc,jw,aw,gC h,iM h,g,i,n];exact⟨h,Fr.refl _⟩
 by_cases s:8<c
 .rw [xg (.inr (.inr (.inr (.inl s))))];simp only[aa,bc,jw,aw,gC h,iM h,g,i,n,s];exact⟨h,Fr.refl _⟩
 by_cases A:c=7
 .rw [xg (.inr (.inr (.inr (.inr A))))];simp only[aa,bc,jw,aw,gC h,iM h,g,i,n,s,qv A];exact⟨h,Fr.refl _⟩
 rw[qy (by omega)];have⟨k,hk⟩:=ji U;have E:k<=3:=by omega
 have ix:∀o,Op.aV 5 1 [.ptr l o,.int .i64 x.lane]=B1 (.ptr l (o+k)):=λ o=>by rw[hk,QJ rfl (by omega)];simp
 have lc:=O8 h (k:=k) (by omega);have⟨s1,d⟩:=Pm h (k:=k) (by omega) (aj .i64 (x.jL.getD k 0+1));have N:x.lane.toNat=k:=by omega
 have T:x.count=x.jL.getD k 0:=by unfold La.count;rw[N]
 obtain⟨y,F⟩:∃y:La,y = {x with jL:=x.jL.set k (aj .i64 (x.jL.getD k 0+1))}:=⟨_,rfl⟩
 rw[<-F]at d s1;rw[T,N];simp only[<-F];have Q:y.lane=x.lane:=by rw[F]
 have I:y.gf=x.gf:=by rw[F]
 have P:y.jL=x.jL.set k (aj .i64 (x.jL.getD k 0+1)):=by rw[F]
 have J:y.rP=x.rP:=by unfold La.rP;rw[Q]
 have S:Fr (On l) H (H.set l (OR (dW y) vc)):=cI ..
 by_cases C:x.rP=B4/\c=3
 .rw [xg C];simp only[aa,bc,jw,aw,gC h,iM h,g,i,n,s,A,ix,lc,iC,s1,sQ d,J,qv C.2,C.1];refine C3.q (yR d (k:=2) (by decide)) λ v B⟨e,D⟩=>?_;simp only[aa,bc,jw,aw,iM e];rw[I,P]at e;exact⟨e,S.trans D λ z q=>.inl q⟩
 rw[qy C];have K:=(iM d).trans (by rw[Q]);have m:=O8 d (k:=k) (by omega);have j:=QX d (k:=k) (by omega);have R:y.count=y.jL.getD k 0:=by unfold La.count;rw[Q,N]
 have O:=ix 0;rw[yg]at O;have cont:C3 M B4 (.func wg) [.ptr l 0,.int .i64 x.lane] (H.set l (OR (dW y) vc))=C3 M B4 (.func wg) [.ptr l 0,.int .i64 (k:Int)] (H.set l (OR (dW y) vc)):=by rw[hk]
 have fin:∀{z:La}{B:ar},lX B l z->Fr (On l) (H.set l (OR (dW y) vc)) B->Ry H l z B:=λ a b=>⟨a,S.trans b λ z q=>.inl q⟩
 by_cases L:y.count=x.gf.getD k 0
 .rw [xg L];have G:y.jL.getD k 0=y.gf.getD k 0:=by rw[<-R,L,I]
  by_cases r:x.rP=B4
  .have u:¬c=3:=λ w=>C ⟨r,w⟩;simp only[aa,bc,jw,aw,gC h,iM h,g,i,n,s,A,ix,lc,iC,s1,sQ d,J,r,u,K,m,j,qv G,cont];refine C3.q (yR d (k:=k) E) λ v B⟨e,D⟩=>?_;simp only[aa,bc,jw,aw,iM e];rw[I,<-hk,P]at e;exact fin e D
  .rw [Bool.not_eq_true]at r;simp only[aa,bc,jw,aw,gC h,iM h,g,i,n,s,A,ix,lc,iC,s1,sQ d,J,r,K,m,j,qv G,cont];refine C3.q (yR d (k:=k) E) λ v B⟨e,D⟩=>?_;simp only[aa,bc,jw,aw,iM e];rw[I,<-hk,P]at e;exact fin e D
 .rw [qy L];have G:¬y.jL.getD k 0=y.gf.getD k 0:=λ w=>L (by rw[R,w,I])
  by_cases r:x.rP=B4
  .have u:¬c=3:=λ w=>C ⟨r,w⟩;simp only[aa,bc,jw,aw,gC h,iM h,g,i,n,s,A,ix,lc,iC,s1,sQ d,J,r,u,K,m,j,G];exact fin d (Fr.refl _)
  .rw [Bool.not_eq_true]at r;simp only[aa,bc,jw,aw,gC h,iM h,g,i,n,s,A,ix,lc,iC,s1,sQ d,J,r,K,m,j,G];exact fin d (Fr.refl _)
end
end Go.Am
