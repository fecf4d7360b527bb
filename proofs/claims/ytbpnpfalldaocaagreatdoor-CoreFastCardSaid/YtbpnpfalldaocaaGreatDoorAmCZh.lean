import Derived.Test.YtbpnpfalldaocaaGreatDoorAmCZg
import Derived.Test.YtbpnpfalldaocaaGreatDoorAmCZf
import Derived.Test.YtbpnpfalldaocaaGreatDoorAmCZe
set_option linter.defProp false
set_option linter.unusedVariables false
set_option linter.unusedSimpArgs false
set_option linter.unusedSectionVars false
set_option maxRecDepth 100000
open Bool renaming noConfusion→LC,false→B2,true→B4
open Go renaming IntKind→KB
open List renaming range→Ig,replicate→Fh
open Nat renaming ble→Jo
open Option renaming none→B5,some→B1
open Nat renaming reduceEqDiff→bc
namespace Go.Am
open Go.Proofs Ca
open Lang (ints)
variable{M:ak}[MK M]
def vJ(H H':ar)(v:AV)(ms:List Mg):Prop:=(v=.nils/\ms=[]) \/ ∃m a,v=Op.sliceTo 1 1 a/\ms=[m]/\H.au<=a/\a<H'.au/\H'.get a=B1 (OR (ao m) qy)
def vJ.ms{H H':ar}{v:AV}{ms:List Mg}(h:vJ H H' v ms):mM H H' v ms:=by
 rcases h with⟨rfl,rfl⟩|⟨m,a,rfl,rfl,c,d,f⟩
 .exact mM.nil ..
 .exact ⟨fU.sl (e:=qy) x9 ⟨a,rfl,d,by rw[f];simp⟩,λ _=>c⟩
def vJ.one{H H0:ar}(m:Mg)(h:H0.au<=H.au):vJ H0 (H.alloc (OR (ao m) qy)) (Op.sliceTo 1 1 H.au) [m]:=.inr ⟨m,H.au,rfl,rfl,h,by rw[xt];omega,xf ..⟩
section
variable{H0 H:ar}{r b:Nat}{sv bv:AV}{n:No}{ks:List Nat}
def cN.Fy(h:cN H0 H r b sv bv n ks){a:AV}{g:List Nat}{H1:ar}(hs:mD cM H0 H1 a g)(f:Fr (bm bv) H H1)(A:∀x,bm a x->bm bv x\/H.au<=x) :
 ∃j,Op.store 1 [.ptr r 14,a] H1=B1 (.undef,j)/\cN H0 j r b sv a {n with aR:=ints g} g/\Fr (iI r b sv bv) H j:=by
 have s:=h.ca.lt;have t:aG sv<H.au:=h.ca.sl.lt;have i:∀x,x<H.au -> ¬bm bv x -> ¬bm a x:=λ x y z q=>(by grind)
 have u:H1.get r=B1 (OR (pO n b bv) Ni):=by rw[f.ah _ h.lt h.o1];exact h.row
 have o1:aC a=true:=by have:=Sl.one hs.sl;exact this
 have hu:AV.cells a=[a]:=by
  rcases hs.own with⟨rfl,_⟩|⟨b,m,rest,rfl,_⟩<;>rfl
 have st:=ta u (o:=14) (n:=1) (v:=a) (by rw[hu];rfl) (by rw[(CZ n b bv).2.2.2.2.2.2.2.2];decide) (by grind [ym]);have e:(pO n b bv).take 14++AV.cells a++(pO n b bv).drop (14+1)=pO n b a:=by
  rw[hu];have⟨core,lines,c,⟨k,co,l,⟨d,w⟩⟩,aR,live,code⟩:=n
  match d,w with
  |[d0,d1,d2,d3,d4,d5,d6,d7],_=>rfl
 rw[e]at st;have p:Fr (On r) H1 (H1.set r (OR (pO n b a) Ni)):=(Fr.refl H1).set (W:=On r) (.inl rfl) _;have fn:=f.au;refine⟨_,st,⟨xb ..,qj h.lt fn,(h.ca.fr f h.o2 h.o3).fr p (λ(q:b=r)=>h.n1 q.symm) (λ(q:aG sv=r)=>h.n2 q.symm),hs.sr p (hs.fr.set (.inr h.lr) _) (λ x hx(q:x=r)=>i r h.lt h.o1 (q▸hx)),rfl,h.lr,h.lb,h.ls,h.n1,h.n2,i _ h.lt h.o1,i _ s h.o2,i _ t h.o3,h.li,h.len⟩,?_⟩;exact(f.mono λ _ _ q=>.inr (.inr q)).trans p λ x q=>.inl (.inl q)
def af4(ks:List Nat)(x:Nat):ints (ks ++ [x])=ints ks ++ [(x:Int)]:=by simp[ints]
def QV(m:Mg)(d:L8):(ao m).take 3++(AV.agg (dO d)).cells++(ao m).drop (3+8)=ao {m with d:=d}:=by
 have⟨k,co,l,⟨e,he⟩⟩:=m;have⟨d,a⟩:=d
 match e,he,d,a with
 |[d0,d1,d2,d3,d4,d5,d6,d7],_,[e0,e1,e2,e3,e4,e5,e6,e7],_=>rfl
theorem xU(x:En):((aD x).drop 4).take 8=dO x.d:=by
 have⟨line,st,r,w,⟨d,a⟩,⟨o,ho⟩,u⟩:=x
 match d,a,o,ho with
 |[d0,d1,d2,d3,d4,d5,d6,d7],_,[e0,e1,e2,e3,e4,e5,e6,e7],_=>rfl
def pG(H0 H:ar)(r b:Nat)(sv bv:AV)(a:No×List Mg)(v:AV)(H':ar):Prop:=vJ H H' v a.2/\qM H0 H r b sv bv a.1 H'
def xf3(h:cN H0 H r b sv bv n ks)(hk:n.aR.length<=900000)(x:En)(Q:0<=x.line):xz M QZ [.ptr r 0,.agg (aD x)] H (pG H0 H r b sv bv (n.gone x)):=by
 refine _Z ?_;obtain⟨w0,K,B⟩:=qwg M ⟨B5,QZ⟩;obtain⟨H1,C,p,-,t⟩:=de H (OR (aD x) xe);have l0:Op.ae [.ptr H.au 0] H1=B1 (.int .i64 x.line):=xv (qt t) 0;have l1:Op.ae [.ptr H.au 1] H1=B1 (.int .i64 x.st):=xv (qt t) 1;have u:=h.em p;have n1:H.au<H1.au:=by grind [xt]
 by_cases q:x.st=2
 case neg =>
  have l:n.gone x=(n,[]):=by simp_all[No.gone]
  rw[l];simp only[aa,bc,w0,<-C,K,l1,q];exact⟨.inl ⟨rfl,rfl⟩,h.same p⟩
 have l:n.gone x=({n with aR:=n.aR ++ [x.line]},[⟨3,n.core,x.line,x.d⟩]):=by simp_all[No.gone]
 rw[l];have⟨ln,c⟩:=jk Q;rw[c]at l0;simp only[aa,bc,w0,<-C,K,l1,qr q,B,qk,u.sF,l0];have O:=h.kl;refine u.bk.push (x:=ln) rfl (by omega) (by omega) λ j V hs L w=>?_;have⟨i,U,F,s⟩:=u.Fy hs L w;have G:i.get H.au=B1 (OR (aD x) xe):=by
  rw[s.ah _ n1 ?_];exact t;rintro(q|q|q)
  .have:=h.lt;omega
  .have W:=h.ca.lt;have Y:aG sv<H.au:=h.ca.sl.lt;exact q.elim (by omega) λ q=>by omega
  .have:=h.bk.fresh _ q;omega
 have S:H.au<i.au:=by have:=s.au;omega
 have l0:Op.ae [.ptr H.au 0] i=B1 (.int .i64 (ln:Int)):=by rw[<-c];exact xv (qt G) 0
 simp only[aa,bc,U,l0];refine C3.q (CP F 3 (ln:Int)) λ v a⟨P,g⟩=>?_;rw[P];have R:a.get H.au=B1 (OR (aD x) xe):=by rw[g.ah _ S id];exact G
 obtain⟨m,hm⟩:∃m,m=No.msg {n with aR:=ints (ks ++ [ln])} 3 (ln:Int):=⟨_,rfl⟩
 have y:({m with d:=x.d}:Mg)=⟨3,n.core,x.line,x.d⟩:=by rw[hm,c];rfl
 rw[<-hm];have I:=ir (xf a (OR (ao ⟨0,0,0,.zero⟩) qy)) (x9 _) (x9 m) (wh _);obtain⟨f,k⟩:∃X,X=(a.alloc (OR (ao ⟨0,0,0,.zero⟩) qy)).set a.au (OR (ao m) qy):=⟨_,rfl⟩
 rw[<-k]at I;have D:Fr Em a f:=by grind [wN]
 have N:f.get a.au=B1 (OR (ao m) qy):=by rw[k,xb]
 have T:H.au<a.au:=by have:=g.au;omega
 have Z:f.get H.au=B1 (OR (aD x) xe):=by rw[D.ah _ T id];exact R
 have z:Op.av 8 [.ptr H.au 4] f=B1 (.agg (dO x.d)):=by grind [sf,qt,jc,xU]
 have J:=ta N (o:=3) (n:=8) (v:=.agg (dO x.d)) (by grind [zb,yp]) (by rw[x9];decide) (by grind [zb,vN]);rw[QV,y]at J;have A:=gn (xb f a.au (OR (ao ⟨3,n.core,x.line,x.d⟩) qy)) (x9 _);simp only[aa,bc,mZ,I,z,J,A,wJ];have n5:f.au=a.au+1:=by rw[k];rfl
 have E:Fr Em a (f.set a.au (OR (ao ⟨3,n.core,x.line,x.d⟩) qy)):=D.set (by omega) _;refine⟨vJ.one _ (by rw[si];omega),j,ks ++ [ln],?_,?_,?_⟩
 .have e:({n with aR:=ints (ks ++ [ln])}:No) = {n with aR:=n.aR ++ [x.line]}:=by rw[af4,c,h.eq]
  rw[<-e];exact(F.em (g.trans E λ _ q=>q.elim)).em ((Fr.refl _).alloc _)
 .exact ((mf p).trans s λ x q=>.inl q).em ((g.trans E λ _ q=>q.elim).alloc _)
 grind
end
end Go.Am
namespace Go.Am
open Go.Proofs Ca
open Lang (ints)
variable{M:ak}[MK M]
theorem uj(off:Nat)(n:Option Nat)(t rest:aM)(x y:List AV):aZ (.part off n t rest) (.agg x) (.agg y)=(partAt x off n).bind λ a=>(partAt y off n).bind λ b=>(aZ t a b).bind λ q=>cond q (aZ rest (.agg x) (.agg y)) (B1 B2):=rfl
theorem xdp(x:List AV)(k:Nat):partAt x k B5=nth x k:=rfl
def gS{k:Nat}{t:aM}{l c:List AV}{K:KB}{a b:Int}{P:Prop}[Decidable P](h:nth l k=B1 (.int K a))(d:nth c k=B1 (.int K b))(hp:aZ t (.agg l) (.agg c)=B1 (decide P)) :
 aZ (.part k B5 .int t) (.agg l) (.agg c)=B1 (decide (a=b/\P)):=by
 have q:aZ .int (.int K a) (.int K b)=B1 (decide (a=b)):=by
  have e:ry K K=true:=by cases K<;>rfl
  simp only[aZ,yJ,e,xg];rfl
 grind [uj,xdp]
abbrev QT:aM:=.part 0 B5 .int (.part 1 B5 .int (.part 2 B5 .int (.part 3 B5 .int (.part 4 B5 .int (.part 5 B5 .int (.part 6 B5 .int (.part 7 B5 .int .nil)))))))
def _k(d e:L8):aZ QT (.agg (dO d)) (.agg (dO e))=B1 (decide (d=e)):=by
 have⟨d,c⟩:=d;have⟨e,he⟩:=e
 match d,c,e,he with
 |[d0,d1,d2,d3,d4,d5,d6,d7],_,[e0,e1,e2,e3,e4,e5,e6,e7],_ =>
  rw[gS (P:=d1=e1/\d2=e2/\d3=e3/\d4=e4/\d5=e5/\d6=e6/\d7=e7/\True) (a:=d0) (b:=e0) (K:=.u64) rfl rfl (gS rfl rfl (gS rfl rfl (gS rfl rfl (gS rfl rfl (gS rfl rfl (gS rfl rfl (gS rfl rfl rfl)))))))];simp_all
abbrev Zb:aM:=.part 0 B5 .int (.part 1 B5 .int (.part 2 B5 .int (.part 3 (B1 8) QT .nil)))
def eqM(m e:Mg):aZ Zb (.agg (ao m)) (.agg (ao e))=B1 (decide (m=e)):=by
 have f:aZ (.part 3 (B1 8) QT .nil) (.agg (ao m)) (.agg (ao e))=B1 (decide (m.d=e.d)):=by
  have p:∀x:Mg,partAt (ao x) 3 (B1 8)=B1 (.agg (dO x.d)):=λ x=>by
   have⟨k,co,l,⟨d,g⟩⟩:=x
   match d,g with
   |[d0,d1,d2,d3,d4,d5,d6,d7],_=>rfl
  rw[uj,p,p,qm,qm,_k,qm];cases decide (m.d=e.d)<;>rfl
 rw[gS (P:=m.core=e.core/\m.line=e.line/\m.d=e.d) (a:=m.k) (b:=e.k) (K:=.i64) rfl rfl (gS rfl rfl (gS rfl rfl f))];congr 1;refine decide_eq_decide.2 ⟨λ q=>?_,λ q=>by rw[q];exact⟨rfl,rfl,rfl,rfl⟩⟩;have⟨a,b,c,d⟩:=q;cases m;simp_all
def Ls(m a:Mg)(H:ar):Op.eq (.agg Zb) B2 [.agg (ao m),.agg (ao a)] H=B1 (.bool (decide (m=a))):=vA _ _ _ _ _ (eqM m a)
section
variable{H0 H:ar}{r b:Nat}{sv bv:AV}{n:No}{ks:List Nat}
def q7q(h:cN H0 H r b sv bv n ks)(hk:n.aR.length<=900000)(m:Mg)(x:En):xz M TQ [.ptr r 0,.agg (ao m),.agg (aD x)] H λ v H'=>v=.bool (decide (n.iK m x))/\Fr Em H H':=by
 refine qql ?_;obtain⟨w0,w,E,f,g,y⟩:=qqm M ⟨B5,TQ⟩;obtain⟨H1,l,I,n1,-⟩:=de H (OR (ao m) qy);obtain⟨z,p,A,-,J⟩:=de H1 (OR (aD x) xe);have D:Fr Em H z:=I.trans A λ _ q=>q.elim;have G:z.get H.au=B1 (OR (ao m) qy):=by rw[A.ah _ (by omega) id,l,xf]
 have c:Op.ae [.ptr H.au 0] z=B1 (.int .i64 m.k):=xv (qt G) 0;have u:Op.ae [.ptr H.au 2] z=B1 (.int .i64 m.line):=xv (qt G) 2;have ls:Op.ae [.ptr H1.au 1] z=B1 (.int .i64 x.st):=xv (qt J) 1;have o:=h.em D;have d:∀(P Q:Prop)[Decidable P][Decidable Q],(P↔Q)->AV.bool (decide P)=.bool (decide Q):=λ P Q _ _ q=>by grind
 by_cases a:m.k=11
 .simp only[aa,bc,w0,<-l,<-p,w,c,qr a,ls]
  grind [No.iK]
 by_cases e:m.k=12
 .simp only[aa,bc,w0,<-l,<-p,w,c,a,ls,f,qr e,g]
  grind [No.iK]
 by_cases i:m.k=13
 .simp only[aa,bc,w0,<-l,<-p,w,c,a,ls,f,e,qr i,g]
  grind [No.iK]
 by_cases j:m.k=14
 .simp only[aa,bc,w0,<-l,<-p,w,c,a,f,e,i,g,qr j,qk,o.lo,u];refine C3.q (CP o 1 m.line) λ v F⟨C,B⟩=>?_;rw[C];simp only[aa,bc,(o.em B).lo,Ls];exact⟨by grind [No.iK],D.trans B λ _ q=>q.elim⟩
 by_cases s:m.k=15
 .simp only[aa,bc,w0,<-l,<-p,w,c,a,f,e,i,g,j,y,qr s,qk,o.lo,u];refine C3.q (CP o 2 m.line) λ v F⟨C,B⟩=>?_;rw[C];simp only[aa,bc,(o.em B).lo,Ls];exact⟨by grind [No.iK],D.trans B λ _ q=>q.elim⟩
 by_cases t:m.k=16
 .have L:=h.kl;simp only[aa,bc,w0,<-l,<-p,w,c,a,f,e,i,g,j,y,s,qr t,qk,o.sF,u];refine C3.q (Xn o.bk.sl (by omega) m.line) λ v F⟨C,K⟩=>?_;rw[C,K];simp only[aa,bc];exact⟨by congr 1;simp[No.iK,t,h.eq],D⟩
 .simp only[aa,bc,w0,<-l,<-p,w,c,a,f,e,i,g,j,y,s,t,E]
  grind [No.iK]
def To(c:Ca)(line st:Int)(d:L8):(c.fill line st d).1.sl.length=c.sl.length/\((c.fill line st d).1.us=c.us\/(c.fill line st d).1.us=c.us+1):=by
 grind [Ca.fill]
def zK{lines line st:Int}{c:Ca}{d:L8}(h:CI lines c)(hs:(c.fill line st d).2.1.st≠0):0<=(c.fill line st d).2.1.line:=by
 unfold Ca.fill at hs⊢;cases hp:c.pos line with
 |some i=>rw[hp]at hs;exact absurd rfl hs
 |none =>
  rw[hp]at hs;cases hr:c.room line with
  |none=>rw[hr]at hs;exact absurd rfl hs
  |some i =>
   rw[hr]at hs;have hs:(c.en i).st≠0:=hs;show 0<=(c.en i).line;rcases xp i c.sl.length with q|q
   .exact (h.ok i q hs).2.1
   .rw [TG q]at hs;exact absurd rfl hs
def DB{line st:Int}{c:Ca}{d:L8}(h:(c.fill line st d).2.2=22):(c.fill line st d).1=c:=by
 grind [Ca.fill]
def vJ.from{H H1 H':ar}{v:AV}{ms:List Mg}(h:vJ H1 H' v ms)(f:H.au<=H1.au):vJ H H' v ms:=by
 rcases h with q|⟨m,a,c,d,e,g,i⟩
 .exact .inl q
 .exact .inr ⟨m,a,c,d,xm f e,g,i⟩
def qM.from{n':No}{H1 H':ar}(f:Fr (iI r b sv bv) H H1)(h:qM H0 H1 r b sv bv n' H'):qM H0 H r b sv bv n' H':=by
 have⟨a,c,d,e,g⟩:=h;have fn:=f.au;exact⟨a,c,d,i5 f e,λ x q=>(g x q).imp id λ w=>by omega⟩
def qM.em{n':No}{H1 H':ar}(h:qM H0 H r b sv bv n' H1)(f:Fr Em H1 H'):qM H0 H r b sv bv n' H':=by
 have⟨a,c,d,e,g⟩:=h;exact⟨a,c,d.em f,e.em f,g⟩
def cN.off{W:Nat->Prop}{H':ar}(h:cN H0 H r b sv bv n ks)(f:Fr W H H')(hw:∀x,W x->H0.au<=x /\ ¬iI r b sv bv x):cN H0 H' r b sv bv n ks :=
 ⟨by rw[f.ah _ h.lt λ q=>(hw _ q).2 (.inl rfl)];exact h.row,qj h.lt f.au,h.ca.fr f (λ q=>(hw _ q).2 (.inr (.inl (.inl rfl)))) (λ q=>(hw _ q).2 (.inr (.inl (.inr rfl)))),h.bk.sr f (h.bk.fr.trans f λ x q=>(by grind)) (λ x a q=>(hw x q).2 (.inr (.inr a))),h.eq,h.lr,h.lb,h.ls,h.n1,h.n2,h.o1,h.o2,h.o3,h.li,h.len⟩
def pG.from{a:No×List Mg}{H1 H':ar}{v:AV}(f:Fr (iI r b sv bv) H H1)(h:pG H0 H1 r b sv bv a v H'):pG H0 H r b sv bv a v H':=⟨h.1.from f.au,h.2.from f⟩
def xdi(h:cN H0 H r b sv bv n ks)(f:CI n.lines n.c)(hk:n.aR.length<=900000)(hu:n.c.us+1<=1000000)(m:Mg)(hm:0<=m.line):xz M I0 [.ptr r 0,.agg (ao m)] H (pG H0 H r b sv bv (n.fill m)):=by
 refine qwd ?_;obtain⟨w0,w4,w10,G,I,w28⟩:=qwe M ⟨B5,I0⟩;have⟨H1,e1,f1,n1,O⟩:=de H (OR (ao m) qy);have F:Op.ae [.ptr H.au 0] H1=B1 (.int .i64 m.k):=xv (qt O) 0;have T:=h.em f1;have hlr:=h.lt;have hlb:=h.ca.lt;have hls:aG sv<H.au:=h.ca.sl.lt;have hbf:=h.bk.fresh;have off:∀y,H.au<=y -> ¬iI r b sv bv y:=λ y hy q=>by
  rcases q with q|q|q
  .omega
  .exact q.elim (by omega) λ q=>by omega
  grind
 -- the line's words
 have C:∀{u:ar},u.get H.au=B1 (OR (ao m) qy)->Op.av 8 [.ptr H.au 3] u=B1 (.agg (dO m.d)):=λ g=>by
  rw[sf (qt g) (by rw[x9];decide)];have⟨k,co,l,⟨d,hd⟩⟩:=m
  match d,hd with
  |[d0,d1,d2,d3,d4,d5,d6,d7],_=>rfl
 have D:∀{u:ar},u.get H.au=B1 (OR (ao m) qy)->Op.ae [.ptr H.au 2] u=B1 (.int .i64 m.line):=λ g=>xv (qt g) 2
 -- what ft is told
 have fin:∀{n':No}{st:Int}{s:ar}{t:Nat},cN H0 s r b sv bv {n' with c:=(n'.c.fill m.line st m.d).1} ks->CI n'.lines n'.c->n'.aR=n.aR->Fr (iI r b sv bv) H s->s.get t=B1 (OR (aD (n'.c.fill m.line st m.d).2.1) xe)->n.fill m=n'.dp m st ->
  ∀{E:Env},lk E 0=B1 (.ptr r 0)->lk E 6=B1 (.ptr t 0)->lk E 4=B1 .nils->lk E 7=B1 (.bool (decide ((n'.c.fill m.line st m.d).2.2=0/\(n'.c.fill m.line st m.d).2.1.st≠0))) ->
  W M ⟨B5,I0⟩ (Y5 20) B4 (eR M [.tmp 4] (tc (pG H0 H r b sv bv (n.fill m)))) E [] s:=by
  intro n' st s t hc z hb hf hg hn E o q6 q4 q7;rw[hn];unfold No.dp
  by_cases q:(n'.c.fill m.line st m.d).2.2=0/\(n'.c.fill m.line st m.d).2.1.st≠0
  .have Q:lk E 7=B1 (.bool B4):=by grind
   rw[qv q];have ld:=gn (n:=21) hg (jc _);simp only[aa,bc,I,Q,w28,o,q6,ld];refine C3.q (xf3 hc (by grind) _ (zK z q.2)) λ v a U=>?_;simp only[aa,bc];exact U.from hf
  .have Q:lk E 7=B1 (.bool B2):=by grind
   rw[qn q];simp only[aa,bc,I,Q];exact⟨.inl ⟨rfl,rfl⟩,qM.of hc hf⟩
 -- put in
 have main:∀{st:Int},st=1\/st=2->n.fill m=n.kH m st -> ∀{E:Env},lk E 0=B1 (.ptr r 0)->lk E 3=B1 (.ptr H.au 0)->lk E 4=B1 .nils->lk E 5=B1 (.int .i64 st)->W M ⟨B5,I0⟩ (Y5 10) B4 (eR M [.tmp 4] (tc (pG H0 H r b sv bv (n.fill m)))) E [] H1:=by
  intro st A hn E o q3 q4 q5;simp only[aa,bc,w10,o,q3,q5,qk,T.l2,D O,C O];refine C3.q (Xc T.ca f hu hm A m.d) λ v a⟨Z,U,L⟩=>?_;rw[Z];unfold nC;have k2:a.get H.au=B1 (OR (ao m) qy):=by rw[L.ah _ (by omega) (λ q=>q.elim (by omega) λ q=>by omega)];exact O
  have n2:=L.au;have V:=T.hC U L (by rw[(To ..).1];exact h.len);obtain⟨p,K⟩:∃X,X=(a.alloc (OR (aD .zero) xe)).set a.au (OR (aD (n.c.fill m.line st m.d).2.1) xe):=⟨_,rfl⟩
  have R:Fr Em a p:=by grind [wN]
  have g3:p.get a.au=B1 (OR (aD (n.c.fill m.line st m.d).2.1) xe):=by rw[K,xb]
  have n3:p.au=a.au+1:=by rw[K];rfl
  have k3:p.get H.au=B1 (OR (ao m) qy):=by rw[R.ah _ (by omega) id];exact k2
  have j:=V.em R;have w:Fr (iI r b sv bv) H p:=i5 (i5 (mf f1) (uk L)) (mf R)
  by_cases q:(n.c.fill m.line st m.d).2.2=22
  case neg =>
   have i:n.fill m=n.dp m st:=by rw[hn];unfold No.kH;rw[qn q]
   simp only[aa,bc,xc,eZ,mg,<-K,G,q];exact fin j f rfl w g3 i o rfl q4 rfl
  .have i:n.fill m=(n.iJ 3).dp m st:=by simp_all[No.kH]
   have ec:({n with c:=(n.c.fill m.line st m.d).1}:No)=n:=by rw[DB q]
   rw[ec]at j;simp only[aa,bc,xc,eZ,mg,<-K,G,qr q,o];refine C3.q (I3 j 3) λ _ H4⟨P,N⟩=>?_;have k4:H4.get H.au=B1 (OR (ao m) qy):=by rw[N.ah _ (by omega) (by grind)];exact k3
   have g4:H4.get a.au=B1 (OR (aD (n.c.fill m.line st m.d).2.1) xe):=by rw[N.ah _ (by omega) (by grind)];exact g3
   have n4:=N.au;simp only[aa,bc,q3,q5,qk,P.l2,D k4,C k4];have e:CI n.lines (n.iJ 3).c:=f.discard;refine C3.q (Xc P.ca e hu hm A m.d) λ v J⟨Z,h5,S⟩=>?_;rw[Z];unfold nC;have g5:J.get a.au=B1 (OR (aD (n.c.fill m.line st m.d).2.1) xe):=by rw[S.ah _ (by omega) (λ q=>q.elim (by omega) λ q=>by omega)];exact g4
   have s6:=ir g5 (jc _) (jc ((n.iJ 3).c.fill m.line st m.d).2.1) (wI _);have Y:=P.hC h5 S (by rw[(To ..).1];exact P.len);have f6:Fr (On a.au) J (J.set a.au (OR (aD ((n.iJ 3).c.fill m.line st m.d).2.1) xe)):=(Fr.refl J).set (W:=On a.au) (.inl rfl) _;simp only[aa,bc,xc,s6];refine fin (n':=n.iJ 3) (t:=a.au) ?_ e rfl ?_ (xb ..) i o rfl q4 rfl
   .exact Y.off f6 (λ x(hx:x=a.au)=>by rw[hx];exact⟨by have:=h.bk.fr.au;omega,(by grind)⟩)
   .exact (i5 (i5 w N) (uk S)).set (.inr (by omega)) _
 by_cases B:m.k=15
 .simp only[aa,bc,w0,<-e1,w4,F,qr B];exact main (.inr rfl) (by unfold No.fill;grind) rfl rfl rfl rfl
 .simp only[aa,bc,w0,<-e1,w4,F,B];exact main (.inl rfl) (by unfold No.fill;grind) rfl rfl rfl rfl
end
end Go.Am
namespace Go.Am
open Go.Proofs Ca
open Lang (ints)
variable{M:ak}[MK M]
def K_{H:ar}{e size bytes b n:Nat}{cells:List AV}(h:Sl H size (.slice b 0 n n) n cells)(hn:0<n){x:AV}{k:Nat}{new:List AV}(i:Sl H size x k new)(hk:0<k)(d:aP new=B4)(hs:0<size)
 (s:(n+k)*bytes<=140737488355328) (f:n+k<=140737488355328) {K:Bool->AV->ar->Prop} {m:Bool}
 (p:∀j H',Own H' e size j (n+k) (cells++new)->Fr Em H H'->(∀c,bm j c->H.au<=c)->K m j H'):iG m (Op.append e size bytes [.slice b 0 n n,x] H) K:=by
 have a:=Pe s f;have hlen:new.length=k*size:=i.1;have g:=CW hs;have o:Jo (n+k) n=false:=by cases t:Jo (n+k) n with|false=>rfl|true=>rw[vd]at t;omega
 have l:Op.append e size bytes [.slice b 0 n n,x] H=B1 (cZ H e size (n+k) (cells++new) (0,0)):=by
  simp only[Op.append,i.eL,i.first,qm,d,xg,cK,o,ze,a,kr (show n<=n+k by omega),g,jb,h.first,wx]
 rw[l];refine iG.intro rfl (p _ _ ⟨by rw[xk,h.1,hlen,yk],.inr ⟨H.au,rfl,by rw[xt];omega,?_⟩⟩ ((Fr.refl H).alloc _) λ c q=>by rw[q.2];exact qg _);rw[ar.bG,qv rfl]
def vJ.em{H H1 H':ar}{v:AV}{ms:List Mg}(h:vJ H H1 v ms)(f:Fr Em H1 H'):vJ H H' v ms:=by
 rcases h with q|⟨m,a,d,e,g,c,i⟩
 .exact .inl q
 .exact .inr ⟨m,a,d,e,g,qj c f.au,by rw[f.ah _ c id];exact i⟩
def GA{H H':ar}{v a:AV}{ms:List Mg}{m:Mg}(h:vJ H H' v ms)(x:fU ao qy 11 H' a [m])(hl:H.au<=H'.au){K:Bool->AV->ar->Prop}
 (g:∀v2 c,mM H c v2 (ms ++ [m])->Fr Em H' c->K B4 v2 c):iG B4 (Op.append qy 11 88 [v,a] H') K:=by
 have xs:=x.sl x9;have i:aP ([m].flatMap ao)=true:=by rw[jv,List.flatMap_nil,zu];exact wh m
 rcases h with⟨rfl,rfl⟩|⟨l,b,rfl,rfl,s,j,k⟩
 .refine Xe (Own.nil H' qy 11) xs i (by decide) (by simp) (by simp) λ v2 c o f w=>g v2 c ⟨?_,λ _=>?_⟩ (f.mono λ y _ q=>(q.1 rfl).elim)
  .have:=Own.sl o;exact this
  .have d:v2≠ .nils:=λ q=>by
    subst q;have:=Own.sl o;exact absurd this.2 (by intro z;cases z)
   exact(w _ ⟨d,rfl⟩).elim (λ q=>(q.1 rfl).elim) λ q=>by omega
 .have p:eS ao 11 H' (Op.sliceTo 1 1 b) [l]:=fU.sl (e:=qy) x9 ⟨b,rfl,j,by rw[k];simp⟩;refine K_ (b:=b) (n:=1) (e:=qy) p (by decide) xs (by simp) i (by decide) (by simp) (by simp) λ v2 c o f w=>g v2 c ⟨?_,λ _=>?_⟩ f
  .have:=Own.sl o;unfold eS;rw[yi];exact this
  .have d:v2≠ .nils:=λ q=>by
    subst q;have:=Own.sl o;exact absurd this.2 (by intro z;cases z)
   have:=w _ ⟨d,rfl⟩;omega
section
variable{H0 H:ar}{r b:Nat}{sv bv:AV}{n:No}{ks:List Nat}
def ag9(ks:List Nat)(line:Int):ints (vO ks line)=(ints ks).filter (· ≠line):=by
 unfold ints vO;rw[List.filter_map];congr 1;refine List.filter_congr λ k _=>?_;show((k:Int) != line)=decide ((k:Int)≠line)
 by_cases q:(k:Int)=line<;>simp[q]
def xN(c:Ca)(line:Int):p9 c line=.tuple [.agg (aD ((c.find line).getD .zero)),.bool (c.find line).isSome]:=by
 unfold p9;cases c.find line<;>rfl
def SG{x:En}{too:Bool}(h:CI n.lines n.c):CI n.lines (n.lost x too).c:=by
 unfold No.lost;split
 .split
  .exact h.discard
  .exact h.discard
 .exact h
theorem Dn(x:En)(too:Bool):(n.lost x too).aR=n.aR/\(n.lost x too).core=n.core/\(n.lost x too).lines=n.lines/\(n.lost x too).c.us=n.c.us:=by
 unfold No.lost;split
 .split<;>exact⟨rfl,rfl,rfl,rfl⟩
 .exact ⟨rfl,rfl,rfl,rfl⟩
theorem KX(c:Ca)(line:Int):(c.drop line).1.sl.length=c.sl.length/\(c.drop line).1.us=c.us:=by
 unfold Ca.drop;cases c.kG line 0 with
 |none=>exact⟨rfl,rfl⟩
 |some i=>exact⟨xw,rfl⟩
def tN(c:Ca)(line:Int):(c.cE line).1.sl.length=c.sl.length/\(c.cE line).1.us=c.us:=by
 unfold Ca.cE;cases c.kG line 2 with
 |none=>exact⟨rfl,rfl⟩
 |some i=>exact⟨xw,rfl⟩
def YL(c:Ca)(line:Int)(d:L8):(c.bn line d).sl.length=c.sl.length/\(c.bn line d).us=c.us:=by
 unfold Ca.bn;cases c.kG line 1 with
 |none=>exact⟨rfl,rfl⟩
 |some i=>exact⟨xw,rfl⟩
def xf2(n:No)(x:En):(n.gone x).1.core=n.core:=by unfold No.gone;split<;>rfl
def c_(n:No)(m:Mg):(n.fill m).1.core=n.core:=by
 have e:∀(n:No)(st:Int),(n.dp m st).1.core=n.core:=λ n st=>by
  unfold No.dp;split
  .exact xf2 ..
  .rfl
 unfold No.fill;generalize(if m.k=15 then(2:Int)else 1)=st;unfold No.kH;split
 .exact e (n.iJ 3) st
 .exact e n st
def rJ(H0 H:ar)(r b:Nat)(sv bv:AV)(a:No×List Mg)(v:AV)(H':ar):Prop:=(∃ov e,v=.tuple [ov,e]/\mM H H' ov a.2)/\qM H0 H r b sv bv a.1 H'
def xef(h:cN H0 H r b sv bv n ks)(U:CI n.lines n.c)(hk:n.aR.length<=900000)(hu:n.c.us+1<=1000000)(m:Mg):xz M ke [.ptr r 0,.agg (ao m)] H (rJ H0 H r b sv bv (n.bh m)):=by
 refine qv6 ?_;obtain⟨w0,w2,w10,w12,Z,w73,w34,w75,w40,w85,w41,w49,w53,w61⟩:=R' M ⟨B5,ke⟩;have⟨H1,e1,f1,n1,g1⟩:=de H (OR (ao m) qy);have hlr:=h.lt;have hlb:=h.ca.lt;have hls:aG sv<H.au:=h.ca.sl.lt;have hbf:=h.bk.fresh;have off:∀y,H.au<=y -> ¬iI r b sv bv y:=λ y hy q=>by
  rcases q with q|q|q
  .omega
  .exact q.elim (λ q=>by omega) λ q=>by omega
  .have:=hbf _ q;omega
 have P:∀y,H.au<=y -> ¬lV b sv y:=λ y hy q=>off y hy (.inr (.inl q));have G:∀{D:ar},D.get H.au=B1 (OR (ao m) qy)->Op.ae [.ptr H.au 0] D=B1 (.int .i64 m.k):=λ g=>xv (qt g) 0;have ldc:∀{D:ar},D.get H.au=B1 (OR (ao m) qy)->Op.ae [.ptr H.au 1] D=B1 (.int .i64 m.core):=λ g=>xv (qt g) 1;have p:∀{D:ar},D.get H.au=B1 (OR (ao m) qy)->Op.ae [.ptr H.au 2] D=B1 (.int .i64 m.line):=λ g=>xv (qt g) 2;have ldm:∀{D:ar},D.get H.au=B1 (OR (ao m) qy)->Op.av 11 [.ptr H.au 0] D=B1 (.agg (ao m)):=λ g=>gn g (x9 m);have ldd:∀{D:ar},D.get H.au=B1 (OR (ao m) qy)->Op.av 8 [.ptr H.au 3] D=B1 (.agg (dO m.d)):=λ g=>by
  rw[sf (qt g) (by rw[x9];decide)];have⟨k,co,l,⟨d,hd⟩⟩:=m
  match d,hd with
  |[d0,d1,d2,d3,d4,d5,d6,d7],_=>rfl
 have h1:=h.em f1;simp only[aa,bc,w0,<-e1,w2,kw,w10,qk,h1.l2,p g1];refine C3.q (Ru h1.ca U m.line) λ v I⟨J,f2⟩=>?_;rw[J,xN];obtain⟨x,hx⟩:∃x,x=(n.c.find m.line).getD .zero:=⟨_,rfl⟩
 rw[<-hx];obtain⟨H3,e3⟩:∃X,X=(I.alloc (OR (aD .zero) xe)).set I.au (OR (aD x) xe):=⟨_,rfl⟩
 have f3:Fr Em I H3:=by rw[e3];exact wN _ _
 have f03:Fr Em H H3:=(f1.trans f2 λ _ q=>q.elim).trans f3 λ _ q=>q.elim;have n2:=f2.au;have n3:H3.au=I.au+1:=by rw[e3];rfl
 have x3:H3.get I.au=B1 (OR (aD x) xe):=by rw[e3,xb]
 have g3:H3.get H.au=B1 (OR (ao m) qy):=by rw[f3.ah _ (by omega) id,f2.ah _ (by omega) id];exact g1
 have h3:=h.em f03;have ldx:∀{D:ar},D.get I.au=B1 (OR (aD x) xe)->Op.av 21 [.ptr I.au 0] D=B1 (.agg (aD x)):=λ g=>gn g (jc x);simp only[aa,bc,xc,eZ,mg,<-e3]
 -- what is not heard
 have no:∀{e:Int},(m.core≠n.core\/m.line<0\/n.lines<=m.line \/ ¬n.iK m ((n.c.find m.line).getD .zero)) -> ∀{H':ar},Fr Em H H'->rJ H0 H r b sv bv (n.bh m) (.tuple [.nils,.int .i64 e]) H':=by
  intro e q H' f;have O:n.bh m=(n,[]):=by unfold No.bh;rw[qv q]
  rw[O];exact⟨⟨.nils,_,rfl,mM.nil ..⟩,h.same f⟩
 by_cases q1:m.core=n.core
 case neg =>
  simp only[aa,bc,w12,ldc g3,qk,h3.l0,q1];exact no (.inl q1) f03
 by_cases q2:m.line<0
 .simp only[aa,bc,w12,ldc g3,qk,h3.l0,qr q1,p g3,q2];exact no (.inr (.inl q2)) f03
 by_cases Y:n.lines<=m.line
 .simp only[aa,bc,w12,ldc g3,qk,h3.l0,qr q1,p g3,q2,h3.l1,Y];exact no (.inr (.inr (.inl Y))) f03
 simp only[aa,bc,w12,ldc g3,qk,h3.l0,qr q1,p g3,q2,h3.l1,Y,ldm g3,ldx x3];refine C3.q (q7q h3 hk m x) λ v H4⟨J,f4⟩=>?_;rw[J];have Q:Fr Em H H4:=f03.trans f4 λ _ q=>q.elim;have n4:=f4.au;have h4:=h.em Q;have R:H4.get H.au=B1 (OR (ao m) qy):=by rw[f4.ah _ (by omega) id];exact g3
 have x4:H4.get I.au=B1 (OR (aD x) xe):=by rw[f4.ah _ (by omega) id];exact x3
 by_cases q4:n.iK m x
 case neg =>
  simp only[aa,bc,jw q4];exact no (.inr (.inr (.inr (by rw[<-hx];exact q4)))) Q
 have hn:¬(m.core≠n.core\/m.line<0\/n.lines<=m.line \/ ¬n.iK m ((n.c.find m.line).getD .zero)):=by
  rw[<-hx];rintro(w|w|w|w)
  .exact w q1
  .exact q2 w
  .exact Y w
  .exact w q4
 rw[jz q4]
 -- the words that a message has
 have S:∀{k line:Int}{d:L8}{D:ar}{a:Nat},D.get a=B1 (OR (ao ⟨k,n.core,line,.zero⟩) qy)->Op.store 8 [.ptr a 3,.agg (dO d)] D=B1 (.undef,D.set a (OR (ao ⟨k,n.core,line,d⟩) qy)):=λ{k line d D a}g=>by
  have s6:=ta g (o:=3) (n:=8) (v:=.agg (dO d)) (by rw[zb];exact yp _) (by rw[x9];decide) (by rw[zb];exact vN _);rw[QV]at s6;exact s6
 by_cases s:m.k=11
 .have O:n.bh m=({n.lost x B4 with c:=((n.lost x B4).c.drop m.line).1},[n.msg 4 m.line]):=by
   unfold No.bh;rw[qn hn,qv s,<-hx]
  rw[O];simp only[aa,bc,Z,G R,qr s,ldx x4];refine C3.q (Q1 h4 x B4) λ _ j⟨K,A⟩=>?_;have n5:=A.au;have T:j.get H.au=B1 (OR (ao m) qy):=by rw[A.ah _ (by omega) (off _ (by omega))];exact R
  simp only[aa,bc,qk,K.l2,p T];refine C3.q (X6 K.ca (SG U) m.line) λ _ C⟨_,L,z⟩=>?_;have g6:C.get H.au=B1 (OR (ao m) qy):=by rw[z.ah _ (by omega) (P _ (by omega))];exact T
  have hn6:=K.hC L z (by rw[(KX ..).1];exact K.len);simp only[aa,bc,p g6];refine C3.q (CP hn6 4 m.line) λ v H7⟨J,F⟩=>?_;rw[J];have n6:=z.au;have n7:=F.au;have em:No.msg {n.lost x B4 with c:=((n.lost x B4).c.drop m.line).1} 4 m.line=n.msg 4 m.line:=by unfold No.msg;rw[show(No.core {n.lost x B4 with c:=((n.lost x B4).c.drop m.line).1})=n.core from(Dn (n:=n) x B4).2.1]
  rw[em];simp only[aa,bc,mZ,wJ];exact⟨⟨_,_,rfl,GG _ (by omega)⟩,qM.of ((hn6.em F).em ((Fr.refl _).alloc _)) (i5 (i5 (mf Q) A) ((i5 (uk z) (mf F)).alloc _))⟩
 by_cases i:m.k=12\/m.k=13
 .have t13:¬(13:Int)=11:=by decide
  -- a recall
  have rec41:∀{E:Env},lk E 0=B1 (.ptr r 0)->lk E 3=B1 (.ptr H.au 0)->lk E 6=B1 (.ptr I.au 0)->lk E 7=B1 (.bool (n.c.find m.line).isSome) ->
   W M ⟨B5,ke⟩ (JP 41) B4 (eD 0 (ey (W M ⟨B5,ke⟩ (JP 73)) (eR M [.tmp 4,.tmp 5] (tc (rJ H0 H r b sv bv (n.bh m)))))) E [] H4:=by
   intro E q0 Y q6 q7;cases hf:n.c.find m.line with
   |none =>
    have O:n.bh m=(n,[n.msg 6 m.line]):=by
     unfold No.bh;rw[qn hn,qn s,qv i,hf]
    rw[O];rw[hf]at q7;have q7:lk E 7=B1 (.bool B2):=q7;simp only[aa,bc,w41,q7,q0,Y,p R];refine C3.q (CP h4 6 m.line) λ v j⟨J,A⟩=>?_;rw[J];have n5:=A.au;simp only[aa,bc,mZ,wJ];exact⟨⟨_,_,rfl,GG _ (by omega)⟩,h.same ((Q.trans A λ _ q=>q.elim).alloc _)⟩
   |some x' =>
    have exx:x=x':=by rw[hx,hf];rfl
    subst exx;rw[hf]at q7;have q7:lk E 7=B1 (.bool B4):=q7
    -- behind the loss
    have go:∀{too:Bool}{j:ar},(too=B4↔m.k=13)->cN H0 j r b sv bv (n.lost x too) ks->Fr (iI r b sv bv) H4 j -> ∀{E:Env},lk E 0=B1 (.ptr r 0)->lk E 3=B1 (.ptr H.au 0)->lk E 6=B1 (.ptr I.au 0)->lk E 8=B1 (.ptr j.au 0) ->
     ∀{C:ar},C=(j.alloc (OR (ao ⟨0,0,0,.zero⟩) qy)).set j.au (OR (ao (n.msg 5 m.line)) qy) ->
     W M ⟨B5,ke⟩ (JP 53) B4 (eD 0 (ey (W M ⟨B5,ke⟩ (JP 73)) (eR M [.tmp 4,.tmp 5] (tc (rJ H0 H r b sv bv (n.bh m)))))) E [] C:=by
     intro too j ht K A E q0 Y q6 q8 C e6;have n5:=A.au;have z:Fr Em j C:=by rw[e6];exact wN _ _
     have n6:C.au=j.au+1:=by rw[e6];rfl
     have L:=K.em z;have T:j.get H.au=B1 (OR (ao m) qy):=by rw[A.ah _ (by omega) (off _ (by omega))];exact R
     have g6:C.get H.au=B1 (OR (ao m) qy):=by rw[z.ah _ (by omega) id];exact T
     have x5:j.get I.au=B1 (OR (aD x) xe):=by rw[A.ah _ (by omega) (off _ (by omega))];exact x4
     have x6:C.get I.au=B1 (OR (aD x) xe):=by rw[z.ah _ (by omega) id];exact x5
     have b6:C.get j.au=B1 (OR (ao (n.msg 5 m.line)) qy):=by rw[e6,xb]
     have f06:Fr (iI r b sv bv) H C:=i5 (i5 (mf Q) A) (mf z)
     -- the answer
     have out:∀{d:L8}{n':No}{N:ar},n.bh m=(n',[⟨5,n.core,m.line,d⟩])->cN H0 N r b sv bv n' ks->Fr (iI r b sv bv) H N->C.au<=N.au -> ∀{E:Env},lk E 8=B1 (.ptr j.au 0) ->
      W M ⟨B5,ke⟩ (JP 61) B4 (eD 0 (ey (W M ⟨B5,ke⟩ (JP 73)) (eR M [.tmp 4,.tmp 5] (tc (rJ H0 H r b sv bv (n.bh m)))))) E [] (N.set j.au (OR (ao ⟨5,n.core,m.line,d⟩) qy)):=by
      intro d n' N O h8 f8 n8 E q8;rw[O];have ld:=gn (xb N j.au (OR (ao ⟨5,n.core,m.line,d⟩) qy)) (x9 _);simp only[aa,bc,w61,q8,ld,mZ,wJ];have f9:Fr (On j.au) N (N.set j.au (OR (ao ⟨5,n.core,m.line,d⟩) qy)):=(Fr.refl N).set (W:=On j.au) (.inl rfl) _;have h9:=h8.off f9 (λ x(hx:x=j.au)=>by rw[hx];exact⟨by have:=h.bk.fr.au;omega,off _ (by omega)⟩);exact⟨⟨_,_,rfl,GG _ (by rw[si];omega)⟩,qM.of (h9.em ((Fr.refl _).alloc _)) ((f8.set (.inr (by omega)) _).alloc _)⟩
     by_cases B:m.k=12
     .have et:too=false:=by cases too with|false=>rfl|true=>have:=ht.1 rfl;omega
      subst et;have O:n.bh m=({n.lost x B2 with c:=((n.lost x B2).c.cE m.line).1},[⟨5,n.core,m.line,((n.lost x B2).c.cE m.line).2⟩]):=by
       unfold No.bh;rw[qn hn,qn s,qv i,hf];show(if m.k=12 then _ else _)=_;rw[qv B]
      simp only[aa,bc,w53,q0,Y,G g6,qr B,qk,L.l2,p g6];refine C3.q (q9b L.ca (SG U) m.line) λ v H7⟨J,h7,F⟩=>?_;rw[J];unfold qY;have n7:=F.au;have b7:H7.get j.au=B1 (OR (ao (n.msg 5 m.line)) qy):=by rw[F.ah _ (by omega) (P _ (by omega))];exact b6
      have hn7:=L.hC h7 F (by rw[(tN ..).1];exact L.len);simp only[aa,bc,xc,q8,S b7];exact out O hn7 (i5 f06 (uk F)) (by omega) q8
     .have u:m.k=13:=by omega
      have et:too=true:=ht.2 u;subst et;have O:n.bh m=({n.lost x B4 with c:=((n.lost x B4).c.drop m.line).1},[⟨5,n.core,m.line,((n.lost x B4).c.drop m.line).2.d⟩]):=by
       unfold No.bh;rw[qn hn,qn s,qv i,hf];show(if m.k=12 then _ else _)=_;rw[qn B]
      simp only[aa,bc,w53,q0,Y,G g6,B,qk,L.l2,p g6];refine C3.q (X6 L.ca (SG U) m.line) λ v H7⟨J,h7,F⟩=>?_;rw[J];unfold BI;have n7:=F.au;have b7:H7.get j.au=B1 (OR (ao (n.msg 5 m.line)) qy):=by rw[F.ah _ (by omega) (P _ (by omega))];exact b6
      have x7:H7.get I.au=B1 (OR (aD x) xe):=by rw[F.ah _ (by omega) (P _ (by omega))];exact x6
      have hn7:=L.hC h7 F (by rw[(KX ..).1];exact L.len);have s8:=ir x7 (jc _) (jc ((n.lost x B4).c.drop m.line).2) (wI _);obtain⟨N,e8⟩:∃X,X=H7.set I.au (OR (aD ((n.lost x B4).c.drop m.line).2) xe):=⟨_,rfl⟩
      rw[<-e8]at s8;have f8:Fr (On I.au) H7 N:=by rw[e8];exact(Fr.refl H7).set (W:=On I.au) (.inl rfl) _
      have x8:N.get I.au=B1 (OR (aD ((n.lost x B4).c.drop m.line).2) xe):=by rw[e8,xb]
      have b8:N.get j.au=B1 (OR (ao (n.msg 5 m.line)) qy):=by rw[f8.ah _ (by omega) (λ(q:j.au=I.au)=>by omega)];exact b7
      have ld8:Op.av 8 [.ptr I.au 4] N=B1 (.agg (dO ((n.lost x B4).c.drop m.line).2.d)):=by rw[sf (qt x8) (by rw[jc];decide),xU]
      have hn8:=hn7.off f8 (λ x(hx:x=I.au)=>by rw[hx];exact⟨by have:=h.bk.fr.au;omega,off _ (by omega)⟩);have f78:Fr (iI r b sv bv) H N:=by rw[e8];exact(i5 f06 (uk F)).set (.inr (by omega)) _
      simp only[aa,bc,xc,q6,q8,s8,ld8,S b8];exact out O hn8 f78 (by have:=f8.au;omega) q8
    by_cases B:m.k=12
    .have u:¬m.k=13:=by omega
     simp only[aa,bc,w41,q7,w49,q0,Y,q6,ldx x4,G R,u];refine C3.q (Q1 h4 x B2) λ _ j⟨K,A⟩=>?_;have n5:=A.au;have T:j.get H.au=B1 (OR (ao m) qy):=by rw[A.ah _ (by omega) (off _ (by omega))];exact R
     simp only[aa,bc,p T];refine C3.q (CP K 5 m.line) λ v C⟨J,z⟩=>?_;have em:(n.lost x B2).msg 5 m.line=n.msg 5 m.line:=by unfold No.msg;rw[(Dn (n:=n) x B2).2.1]
     rw[J,em];have s6:=ir (xf C (OR (ao ⟨0,0,0,.zero⟩) qy)) (x9 _) (x9 (n.msg 5 m.line)) (wh _);simp only[aa,bc,mZ,s6];refine go (too:=B2) ⟨λ q=>(by cases q),λ q=>absurd q u⟩ (K.em z) (i5 A (mf z)) ?_ ?_ ?_ ?_ ?_
     .exact q0
     .exact Y
     .exact q6
     .rfl
     .rfl
    .have u:m.k=13:=by omega
     simp only[aa,bc,w41,q7,w49,q0,Y,q6,ldx x4,G R,qr u];refine C3.q (Q1 h4 x B4) λ _ j⟨K,A⟩=>?_;have n5:=A.au;have T:j.get H.au=B1 (OR (ao m) qy):=by rw[A.ah _ (by omega) (off _ (by omega))];exact R
     simp only[aa,bc,p T];refine C3.q (CP K 5 m.line) λ v C⟨J,z⟩=>?_;have em:(n.lost x B4).msg 5 m.line=n.msg 5 m.line:=by unfold No.msg;rw[(Dn (n:=n) x B4).2.1]
     rw[J,em];have s6:=ir (xf C (OR (ao ⟨0,0,0,.zero⟩) qy)) (x9 _) (x9 (n.msg 5 m.line)) (wh _);simp only[aa,bc,mZ,s6];refine go (too:=B4) ⟨λ _=>u,λ _=>rfl⟩ (K.em z) (i5 A (mf z)) ?_ ?_ ?_ ?_ ?_
     .exact q0
     .exact Y
     .exact q6
     .rfl
     .rfl
  by_cases B:m.k=12
  .simp only[aa,bc,Z,G R,s,w34,qr B,w40];exact rec41 rfl rfl rfl rfl
  .have u:m.k=13:=by omega
   simp only[aa,bc,Z,G R,s,w34,B,qr u,w40];exact rec41 rfl rfl rfl rfl
 have B:¬m.k=12:=λ q=>i (.inl q);have u:¬m.k=13:=λ q=>i (.inr q)
 by_cases V:m.k=16
 .have O:n.bh m=({n with aR:=n.aR.filter (· ≠m.line)},[]):=by
   unfold No.bh;rw[qn hn,qn s,qn i,qv V]
  rw[O];have hkl:=h.kl;simp only[aa,bc,Z,G R,s,w34,B,u,w40,qr V,qk,h4.sF];refine C3.q (q9a (t:=H.au) (line:=m.line) (λ f=>p (by rw[f.ah _ (by omega) λ q=>by have:=hbf _ q;omega];exact R)) h4.bk (by omega)) λ v j⟨hs,A,w5⟩=>?_;have⟨C,s6,L,z⟩:=h4.Fy hs A (λ x q=>.inl (w5 x q));simp only[aa,bc,s6];rw[ag9,<-h.eq]at L;exact⟨⟨_,_,rfl,mM.nil ..⟩,v,_,L,i5 (mf Q) z,λ x q=>.inl (w5 x q)⟩
 -- what was asked for
 have⟨j,s5,K,A⟩:=h4.zO ⟨0,0,0,.zero⟩;have n5:=A.au;have T:j.get H.au=B1 (OR (ao m) qy):=by rw[A.ah _ (by omega) (λ(q:H.au=r)=>by omega)];exact R
 have f05:Fr (iI r b sv bv) H j:=i5 (mf Q) (IH A);cases hf:n.c.find m.line with
 |some x' =>
  have O:n.bh m=({n with out:=⟨0,0,0,.zero⟩,c:=n.c.bn m.line m.d},[n.msg 7 m.line]):=by
   unfold No.bh;rw[qn hn,qn s,qn i,qn V,hf]
  rw[O];simp only[aa,bc,Z,G R,s,w34,B,u,w40,V,w73,mZ,Ee,qk,s5,w75,HG,K.l2,p T,ldd T];refine C3.q (q74 K.ca U m.line m.d) λ _ C⟨L,z⟩=>?_;have g6:C.get H.au=B1 (OR (ao m) qy):=by rw[z.ah _ (by omega) (P _ (by omega))];exact T
  have hn6:=K.hC L z (by rw[(YL ..).1];exact K.len);simp only[aa,bc,p g6];refine C3.q (CP hn6 7 m.line) λ v H7⟨J,F⟩=>?_;rw[J];have n6:=z.au;have n7:=F.au;simp only[aa,bc,wJ];exact⟨⟨_,_,rfl,GG _ (by omega)⟩,qM.of ((hn6.em F).em ((Fr.refl _).alloc _)) (i5 f05 ((i5 (uk z) (mf F)).alloc _))⟩
 |none =>
  have O:n.bh m=((No.fill {n with out:=⟨0,0,0,.zero⟩} m).1,(No.fill {n with out:=⟨0,0,0,.zero⟩} m).2 ++ [n.msg 7 m.line]):=by
   unfold No.bh;rw[qn hn,qn s,qn i,qn V,hf]
  rw[O];simp only[aa,bc,Z,G R,s,w34,B,u,w40,V,w73,mZ,Ee,qk,s5,w75,KV,w85,ldm T];refine C3.q (xdi K U hk hu m (by omega)) λ v C⟨hm6,bv',ks',L,z,w6⟩=>?_;have n6:=z.au;have g6:C.get H.au=B1 (OR (ao m) qy):=by rw[z.ah _ (by omega) (off _ (by omega))];exact T
  simp only[aa,bc,p g6];refine C3.q (CP L 7 m.line) λ v H7⟨J,F⟩=>?_;have ec:(No.fill {n with out:=⟨0,0,0,.zero⟩} m).1.core=n.core:=c_ _ m;have em:(No.fill {n with out:=⟨0,0,0,.zero⟩} m).1.msg 7 m.line=n.msg 7 m.line:=by unfold No.msg;rw[ec]
  rw[J,em];simp only[aa,bc,wJ];have n7:=F.au;refine GA (H:=j) (m:=n.msg 7 m.line) (hm6.em (F.alloc _)) (GD _) (by rw[xt];omega) λ v2 N hms f8=>?_;simp only[aa,bc];have f68:Fr Em C N:=(F.alloc _).trans f8 λ _ q=>q.elim;exact⟨⟨_,_,rfl,hms.1,λ q=>by have:=hms.2 q;omega⟩,bv',ks',L.em f68,i5 f05 (i5 z (mf f68)),λ x q=>(w6 x q).imp id λ w=>by omega⟩
end
end Go.Am
namespace Go.Am
open Go.Proofs Ca
open Lang (ints)
variable{M:ak}[MK M]
section
variable{H0 H:ar}{r b:Nat}{sv bv:AV}{n:No}{ks:List Nat}
end
end Go.Am
namespace Go.Am
open Go.Proofs Ca
open Lang (ints)
variable{M:ak}[MK M]
structure Bd(n n':No):Prop where
 bk:n'.aR.length<=n.aR.length+1
 us:n'.c.us<=n.c.us+2
section
variable{n:No}
def Wv(n:No)(x:En):(n.gone x).1.aR.length<=n.aR.length+1/\(n.gone x).1.c=n.c:=by
 unfold No.gone
 grind
def Zk(n:No)(m:Mg)(st:Int):(n.dp m st).1.aR.length<=n.aR.length+1/\(n.dp m st).1.c.us<=n.c.us+1:=by
 have h:=(To n.c m.line st m.d).2;unfold No.dp;split
 .obtain ⟨a,b⟩:=Wv {n with c:=(n.c.fill m.line st m.d).1} (n.c.fill m.line st m.d).2.1
  grind
 .exact ⟨jt _,by show(n.c.fill m.line st m.d).1.us<=_;omega⟩
def EO(n:No)(m:Mg):Bd n (n.fill m).1:=by
 unfold No.fill;generalize(if m.k=15 then(2:Int)else 1)=st;unfold No.kH;split
 .obtain ⟨a,b⟩:=Zk (n.iJ 3) m st;have e:(n.iJ 3).c.us=n.c.us:=rfl;exact⟨a,by omega⟩
 .obtain ⟨a,b⟩:=Zk n m st;exact⟨a,by omega⟩
theorem Bd.refl(n:No):Bd n n:=⟨by omega,by omega⟩
theorem TL(n:No)(k line:Int):Bd n (n.ask k line).1:=by
 unfold No.ask;split
 .exact Bd.refl n
 .exact ⟨jt _,by show n.c.us<=_;omega⟩
def EH(n:No)(m:Mg):Bd n (n.bh m).1:=by
 unfold No.bh;split
 .exact Bd.refl n
 split
 .exact ⟨by grind [Dn],by show(Ca.drop _ _).1.us<=_;rw[(KX ..).2,(Dn _ B4).2.2.2];omega⟩
 split
 .cases n.c.find m.line with
  |none=>exact Bd.refl n
  |some x =>
   show Bd n (Prod.fst (if m.k=12 then _ else _));split
   .exact ⟨by grind [Dn],by show(Ca.cE _ _).1.us<=_;rw[(tN ..).2,(Dn _ B2).2.2.2];omega⟩
   .exact ⟨by grind [Dn],by show(Ca.drop _ _).1.us<=_;rw[(KX ..).2,(Dn _ B4).2.2.2];omega⟩
 split
 .exact ⟨by grind,by show n.c.us<=_;omega⟩
 .cases n.c.find m.line with
  |some x=>exact⟨jt _,by show(n.c.bn m.line m.d).us<=_;rw[(YL ..).2];omega⟩
  |none =>
   obtain⟨a,b⟩:=EO {n with out:=⟨0,0,0,.zero⟩} m;exact⟨a,b⟩
def Eu(n:No)(line:Int):Bd n (n.eQ line).1:=by
 unfold No.eQ;split
 .exact Bd.refl n
 .cases n.c.find line with
  |none=>exact Bd.refl n
  |some x =>
   have e:∀n':No,n'.aR=n.aR->n'.c.us=n.c.us->Bd n (No.gone {n' with c:=(n'.c.drop line).1} (n'.c.drop line).2).1:=λ n' d f=>by
    obtain⟨a,b⟩:=Wv {n' with c:=(n'.c.drop line).1} (n'.c.drop line).2;refine⟨by grind,?_⟩;rw[b];show(n'.c.drop line).1.us<=_
    grind [KX]
   show Bd n (No.gone _ _).1
   by_cases q:(x.r ||x.w)=B4
   .simp only[qv q];exact e (n.iJ 4) rfl rfl
   grind
def Di(n:No)(a:Int):Bd n (n.load a).1:=by
 unfold No.load;split
 .cases n.c.find (No.ln a)with
  |none=>exact TL ..
  |some x =>
   refine⟨jt _,?_⟩;show((if n.live=B4 then n.c.mark (No.ln a) B2 else n.c).word a.toNat).1.us<=_;have d:=(L4 (if n.live=B4 then n.c.mark (No.ln a) B2 else n.c) a.toNat).2;have e:(if n.live=B4 then n.c.mark (No.ln a) B2 else n.c).us=n.c.us:=by split;exact(Pd ..).1;rfl
   omega
 .exact Bd.refl n
def Bv(n:No)(a y:Int):Bd n (n.store a y).1:=by
 unfold No.store;split
 .split
  .refine ⟨jt _,?_⟩;show((if n.live=B4 then n.c.mark (No.ln a) B4 else n.c).put a.toNat y).us<=_;have d:=(O5 (if n.live=B4 then n.c.mark (No.ln a) B4 else n.c) a.toNat y).2;have e:(if n.live=B4 then n.c.mark (No.ln a) B4 else n.c).us=n.c.us:=by split;exact(Pd ..).1;rfl
   omega
  grind [TL]
 .exact Bd.refl n
def Ik(n:No)(a o y:Int):Bd n (n.mL a o y).1:=by
 unfold No.mL;split
 .split
  .exact Bd.refl n
  .split
   .refine ⟨jt _,?_⟩;have d:=(L4 n.c a.toNat).2;show(if(n.c.word a.toNat).2.getD 0=o then(n.c.word a.toNat).1.put a.toNat y else(n.c.word a.toNat).1).us<=_
    grind [O5]
   grind [TL]
 .exact Bd.refl n
end
def lE(core lines s w:Int):No:=⟨core,lines,nE s.toNat w.toNat,⟨0,0,0,.zero⟩,[],B2,0⟩
def tf(core lines cores s w:Int):Prop:=qE s w/\0<=core/\core<cores/\cores<=4/\2<=lines/\lines<=64
def ZB{core lines cores s w:Int}(h:tf core lines cores s w):(lE core lines s w).NI:=by
 obtain⟨⟨a,b,c,d⟩,-⟩:=h;exact⟨ad3 lines (by omega) (by omega),λ _=>π s.toNat w.toNat⟩
def iz(lines cores s w:Int):List AV:=[.int .i64 lines,.int .i64 cores,.int .i64 s,.int .i64 w]
def Qw(core lines:Int)(b:Nat)(s w:Int):Op.build [.int .i64 0,.int .i64 0,.nilp,.int .i64 0,.int .i64 0,.int .i64 0,.int .u64 0,.int .u64 0,.int .u64 0,.int .u64 0,.int .u64 0,.int .u64 0,.int .u64 0,.int .u64 0,.nils,.bool B2,.int .i64 0] [(0,1),(1,1),(2,1)] [.int .i64 core,.int .i64 lines,.ptr b 0]=B1 (.agg (pO (lE core lines s w) b .nils)):=rfl
def yT(H:ar)(core lines cores s w:Int)(v:AV)(H':ar):Prop:=(¬tf core lines cores s w/\v=.tuple [.nilp,.int .i64 2]/\Fr Em H H')\/tf core lines cores s w /\ ∃r b sv,v=.tuple [.ptr r 0,.int .i64 0]/\cN H H' r b sv .nils (lE core lines s w) []
def q7z{H:ar}(core lines cores s w:Int):xz M Te [.int .i64 core,.agg (iz lines cores s w)] H (yT H core lines cores s w):=by
 refine xdj ?_;obtain⟨w0,w4,p⟩:=xdk M ⟨B5,Te⟩;obtain⟨H1,z,A,n1,l⟩:=de H (OR (iz lines cores s w) Js);have l2:Op.ae [.ptr H.au 2] H1=B1 (.int .i64 s):=xv (qt l) 2;have l3:Op.ae [.ptr H.au 3] H1=B1 (.int .i64 w):=xv (qt l) 3;simp only[aa,bc,w0,<-z,l2,l3];refine C3.q (e_ (M:=M) s w) λ v f⟨t,h⟩=>?_;have x:f.get H.au=B1 (OR (iz lines cores s w) Js):=by rw[t.ah _ (by omega) id];exact l
 have l0:Op.ae [.ptr H.au 0] f=B1 (.int .i64 lines):=xv (qt x) 0;have l1:Op.ae [.ptr H.au 1] f=B1 (.int .i64 cores):=xv (qt x) 1;have e:Fr Em H f:=A.trans t λ _ q=>q.elim;have D:¬(2:Int)=0:=by decide
 have F:=qr (show(0:Int)=0 from rfl);rcases h with⟨hn,h⟩|⟨ho,b,sv,h,m,hb,hs⟩
 .rw [h];simp only[aa,bc,xc,w4,D];exact .inl ⟨λ q=>hn q.1,rfl,e⟩
 rw[h]
 by_cases g:core<0
 .simp only[aa,bc,xc,w4,g];exact .inl ⟨λ q=>by have:=q.2.1;omega,rfl,e⟩
 by_cases i:cores<=core
 .simp only[aa,bc,xc,w4,g,l1,i];exact .inl ⟨λ q=>by have:=q.2.2.1;omega,rfl,e⟩
 by_cases j:4<cores
 .simp only[aa,bc,xc,w4,g,l1,i,j];exact .inl ⟨λ q=>by have:=q.2.2.2.1;omega,rfl,e⟩
 by_cases o:lines<2
 .simp only[aa,bc,xc,w4,g,l1,i,j,l0,o];exact .inl ⟨λ q=>by have:=q.2.2.2.2.1;omega,rfl,e⟩
 by_cases y:64<lines
 .simp only[aa,bc,xc,w4,g,l1,i,j,l0,o,y];exact .inl ⟨λ q=>by have:=q.2.2.2.2.2;omega,rfl,e⟩
 obtain⟨E,k,u,-,-⟩:=de f (OR (pO (lE core lines s w) b .nils) Ni);simp only[aa,bc,xc,w4,g,l1,i,j,l0,o,y,p,Qw core lines b s w,<-k];have B:=m.lt;have C:aG sv<f.au:=m.sl.lt;refine .inr ⟨⟨ho,by omega,by omega,by omega,by omega,by omega⟩,f.au,b,sv,rfl,⟨by rw[k,xf],by rw[k,xt];omega,m.em u,⟨.inl ⟨rfl,rfl⟩,e.trans u λ _ q=>q.elim⟩,rfl,e.au,by omega,by omega,by omega,by omega,λ q=>q.1 rfl,λ q=>q.1 rfl,λ q=>q.1 rfl,⟨by show 2<=lines;omega,by show lines<=64;omega⟩,?_⟩⟩;show(Fh (s.toNat*w.toNat) En.zero).length<=40;rw[zt];obtain⟨a,b,c,d⟩:=ho;have:=Nat.mul_le_mul (show s.toNat<=8 by omega) (show w.toNat<=4 by omega);omega
end Go.Am
namespace Go.Am
open Go.Proofs Ca
variable{M:ak}[MK M]
structure wK(H:ar)(mp:Nat)(lv:AV)(ws:List L8):Prop where
 row:H.get mp=B1 (OR [lv] WW)
 lt:mp<H.au
 ls:fU dO js 8 H lv ws
 ne:mp≠aG lv
 le:ws.length<=64
section
variable{H:ar}{mp:Nat}{lv:AV}{ws:List L8}
def wK.fr{H':ar}{W:Nat->Prop}(h:wK H mp lv ws)(f:Fr W H H')(b:¬W mp)(c:¬W (aG lv)):wK H' mp lv ws:=⟨by rw[f.ah _ h.lt b];exact h.row,qj h.lt f.au,h.ls.fr f c,h.ne,h.le⟩
def kx(h:wK H mp lv ws){n:Int}(g:0<=n)(j:n<ws.length):xz M Qh [.ptr mp 0,.int .i64 n] H λ v H'=>v=.tuple [.ptr (aG lv) (cw 8 lv n.toNat),.int .i64 0]/\H'=H:=by
 have hl:Op.ae [.ptr mp 0] H=B1 lv:=xv (qt h.row) 0;have hn:=(h.ls.sl yp).len;have d:¬n<0:=by omega
 have e:¬((ws.length:Nat):Int)<=n:=by omega
 have c:ws[n.toNat]? = B1 (ws[n.toNat]'(by omega)):=(by grind)
 have ix:Op.aN 8 [lv,.int .i64 n]=B1 (.ptr (aG lv) (cw 8 lv n.toNat)):=(h.ls.sl yp).idx c (by omega) .i64;refine q7s ?_;obtain⟨w0,f,b⟩:=q7t M ⟨B5,Qh⟩;simp only[aa,bc,w0,f,kw,d,qk,hl,hn,e,b,ix]
def _O(h:wK H mp lv ws){n:Int}{w:L8}(f:0<=n)(hw:ws[n.toNat]? = B1 w):xz M QG [.ptr mp 0,.int .i64 n] H λ v H'=>v=.tuple [.agg (dO w),.int .i64 0]/\Fr Em H H':=by
 have j:=(qo.1 hw).1;refine q2w ?_;obtain⟨w0,w4,c⟩:=q2x M ⟨B5,QG⟩;obtain⟨H1,d,b,-,e⟩:=de H (OR (dO .zero) js);simp only[aa,bc,w0,lZ,<-d];refine C3.q (kx (h.fr b id id) f (by omega)) λ v l⟨k,g⟩=>?_;rw[k,g];have ld:Op.av 8 [.ptr (aG lv) (cw 8 lv n.toNat)] H1=B1 (.agg (dO w)):=((h.fr b id id).ls.sl yp).av yp (by decide) hw;have st:=ir e (yp _) (yp w) (vN w);have hg:(H1.set H.au (OR (dO w) js)).get H.au=B1 (OR (dO w) js):=xb ..;have ln:=gn hg (yp w);simp only[aa,bc,xc,w4,c,qk,ld,st,ln];exact b.set (by omega) _
def Ri(h:wK H mp lv ws){n:Int}(g:0<=n)(j:n<ws.length)(x:L8):xz M Tk [.ptr mp 0,.int .i64 n,.agg (dO x)] H λ v H'=>v=.int .i64 0/\wK H' mp lv (ws.set n.toNat x)/\Fr (On (aG lv)) H H':=by
 refine _d ?_;obtain⟨w0,w4,c⟩:=q5j M ⟨B5,Tk⟩;obtain⟨H1,e,d,-,f⟩:=de H (OR (dO x) js);have hm:=h.fr d id id;simp only[aa,bc,w0,<-e];refine C3.q (kx hm g j) λ v p⟨l,k⟩=>?_;rw[l,k];have ln:=gn f (yp x);have m:ws[n.toNat]? = B1 (ws[n.toNat]'(by omega)):=(by grind)
 have⟨r,st,o,b⟩:=hm.ls.M5 yp vN m x;simp only[aa,bc,xc,w4,ln,qk,st,c];exact⟨⟨by rw[b.ah _ hm.lt (λ q=>hm.ne q)];exact hm.row,qj hm.lt b.au,o,h.ne,by rw[xw];exact h.le⟩,(d.mono λ _ _ q=>q.elim).trans b λ _ q=>.inl q⟩
end
end Go.Am
namespace Go.Am
open Go.Proofs Ca
variable{M:ak}[MK M]
abbrev uB(s:Nat):AV:=.int .u8 (s:Int)
def Jz{c:Int}(b:0<=c)(d:c<4):Op.bin .shl [.int .u8 1,.int .i64 c]=B1 (uB (2 ^ c.toNat)):=by
 rcases four b d with rfl|rfl|rfl|rfl<;>rfl
def Gz{s:Nat}(h:s<16):s=0\/s=1\/s=2\/s=3\/s=4\/s=5\/s=6\/s=7\/s=8\/s=9\/s=10\/s=11\/s=12\/s=13\/s=14\/s=15:=by omega
def R5{s:Nat}(hs:s<16){c:Int}(b:0<=c)(d:c<4):Op.bin .andNot [uB s,uB (2 ^ c.toNat)]=B1 (uB (bT s c)):=by
 rcases four b d with rfl|rfl|rfl|rfl<;>rcases Gz hs with rfl|rfl|rfl|rfl|rfl|rfl|rfl|rfl|rfl|rfl|rfl|rfl|rfl|rfl|rfl|rfl<;>rfl
def Zh{s:Nat}(hs:s<16){c:Int}(b:0<=c)(d:c<4):Op.bin .or [uB s,uB (2 ^ c.toNat)]=B1 (uB (pH s c)):=by
 rcases four b d with rfl|rfl|rfl|rfl<;>rcases Gz hs with rfl|rfl|rfl|rfl|rfl|rfl|rfl|rfl|rfl|rfl|rfl|rfl|rfl|rfl|rfl|rfl<;>rfl
def X4{s:Nat}(hs:s<16){c:Int}(b:0<=c)(d:c<4):Op.bin .and [uB s,uB (2 ^ c.toNat)]=B1 (uB (hb s c*2 ^ c.toNat)):=by
 rcases four b d with rfl|rfl|rfl|rfl<;>rcases Gz hs with rfl|rfl|rfl|rfl|rfl|rfl|rfl|rfl|rfl|rfl|rfl|rfl|rfl|rfl|rfl|rfl<;>rfl
def fO(p:De×AV):List AV:=.int .i64 p.1.ow::uB p.1.sh::(ao p.1.un ++ [.int .i64 p.1.ph,uB p.1.ask,p.2])
def wF(p:De×AV):(fO p).length=16:=by simp[fO,x9]
theorem Et(p:De×AV):(fO p)[0]? = B1 (.int .i64 p.1.ow)/\(fO p)[1]? = B1 (uB p.1.sh)/\(fO p)[2]? = B1 (.int .i64 p.1.un.k)/\(fO p)[3]? = B1 (.int .i64 p.1.un.core)/\(fO p)[4]? = B1 (.int .i64 p.1.un.line)/\(fO p)[13]? = B1 (.int .i64 p.1.ph)/\(fO p)[14]? = B1 (uB p.1.ask)/\(fO p)[15]? = B1 p.2/\((fO p).drop 2).take 11=ao p.1.un:=by
 have⟨⟨ow,sh,⟨k,co,li,⟨d,b⟩⟩,ph,ask,wt⟩,a⟩:=p
 match d,b with
 |[_,_,_,_,_,_,_,_],_=>exact⟨rfl,rfl,rfl,rfl,rfl,rfl,rfl,rfl,rfl⟩
structure lj(H:ar)(D mp:Nat)(lv ev:AV)(N:Int)(ws:List L8)(xs:List (De×AV)):Prop where
 row:H.get D=B1 (OR [.ptr mp 0,.int .i64 N,ev] W9)
 lt:D<H.au
 me:wK H mp lv ws
 es:fU fO MS 16 H ev xs
 wt:∀(i:Nat)(x:De)(a:AV),xs[i]? = B1 (x,a)->Sk ao qy 11 H a x.wt
 d1:D≠mp/\D≠aG lv/\D≠aG ev/\mp≠aG ev/\aG lv≠aG ev
 d2:∀(i:Nat)(x:De)(a:AV),xs[i]? = B1 (x,a) -> ∀z,bm a z->z≠D/\z≠mp/\z≠aG lv/\z≠aG ev
 d3:∀(i j:Nat)(x y:De)(a b:AV),xs[i]? = B1 (x,a)->xs[j]? = B1 (y,b)->i≠j -> ∀z,bm a z -> ¬bm b z
 len:xs.length=ws.length
def lf(D mp:Nat)(lv ev:AV)(xs:List (De×AV)):Nat->Prop:=λ z=>z=D\/z=mp\/z=aG lv\/z=aG ev \/ ∃(i:Nat)(x:De)(a:AV),xs[i]? = B1 (x,a)/\bm a z
section
variable{H:ar}{D mp:Nat}{lv ev:AV}{N:Int}{ws:List L8}{xs:List (De×AV)}
def lj.fr{H':ar}{W:Nat->Prop}(h:lj H D mp lv ev N ws xs)(f:Fr W H H')(hw:∀z,W z -> ¬lf D mp lv ev xs z):lj H' D mp lv ev N ws xs :=
 ⟨by rw[f.ah _ h.lt (λ q=>hw _ q (.inl rfl))];exact h.row,qj h.lt f.au,h.me.fr f (λ q=>hw _ q (.inr (.inl rfl))) (λ q=>hw _ q (.inr (.inr (.inl rfl)))),h.es.fr f (λ q=>hw _ q (.inr (.inr (.inr (.inl rfl))))),λ i x a b=>(h.wt i x a b).fr f λ z c q=>hw z q (.inr (.inr (.inr (.inr ⟨i,x,a,b,c⟩)))),h.d1,h.d2,h.d3,h.len⟩
def lj.em{H':ar}(h:lj H D mp lv ev N ws xs)(f:Fr Em H H'):lj H' D mp lv ev N ws xs:=h.fr f λ _ q=>q.elim
def lj.low(h:lj H D mp lv ev N ws xs){z:Nat}(b:lf D mp lv ev xs z):z<H.au:=by
 rcases b with rfl|rfl|rfl|rfl|⟨i,x,a,c,b⟩
 .exact h.lt
 .exact h.me.lt
 .exact h.me.ls.lt
 .exact h.es.lt
 .exact (h.wt i x a c).lt z b
abbrev xA(ev:AV)(i:Nat):AV:=.ptr (aG ev) (cw 16 ev i)
def lj.ld(h:lj H D mp lv ev N ws xs){i:Nat}{p:De×AV}(b:xs[i]? = B1 p){k:Nat}(hk:k<16):Op.ae [.ptr (aG ev) (cw 16 ev i+k)] H=(fO p)[k]?:=(h.es.sl wF).ae wF b hk
def lj.uE(h:lj H D mp lv ev N ws xs){i:Nat}{p:De×AV}(b:xs[i]? = B1 p):Op.ae [.ptr (aG ev) (cw 16 ev i)] H=B1 (.int .i64 p.1.ow):=((h.es.sl wF).nj wF b (by decide)).trans (Et p).1
def lj.ldU(h:lj H D mp lv ev N ws xs){i:Nat}{p:De×AV}(c:xs[i]? = B1 p):Op.av 11 [.ptr (aG ev) (cw 16 ev i+2)] H=B1 (.agg (ao p.1.un)):=by
 have k:=h.es.sl wF;have⟨b,e,l,d⟩:=h.es;have hl:cw 16 ev i=i*16:=by grind [cw]
 have g:=(qo.1 c).1;have f:aG ev=b:=by rw[e];rfl
 rw[hl,f,sf (qt d) (by rw[DA wF];omega)];have:((xs.flatMap fO).drop (i*16+2)).take 11=ao p.1.un:=by
  rw[<-(Et p).2.2.2.2.2.2.2.2];apply j0;intro j;rw[IL,IL];split
  .rw [yt,yt,yz,FD wF xs c (by omega)]
  .rfl
 rw[this]
theorem lj.put(h:lj H D mp lv ev N ws xs){i:Nat}{x y:De}{a:AV}(o:xs[i]? = B1 (x,a))(C:y.wt=x.wt){j n:Nat}{u:AV}(hu:u.cells.length=n)(ho:aP u.cells=B4)(A:j+n<=16)(E:fO (y,a)=(fO (x,a)).take j++u.cells++(fO (x,a)).drop (j+n)) :
 ∃H',Op.store n [.ptr (aG ev) (cw 16 ev i+j),u] H=B1 (.undef,H')/\lj H' D mp lv ev N ws (xs.set i (y,a))/\Fr (On (aG ev)) H H':=by
 have⟨H',s,r,f⟩:=h.es.C5 wF o hu ho A E;have I:=(qo.1 o).1;have⟨F,G,p,t,v⟩:=h.d1;have d:∀(k:Nat)(z:De)(b:AV),(xs.set i (y,a))[k]? = B1 (z,b) -> ∃e,xs[k]? = B1 (e,b)/\e.wt=z.wt:=λ k z b hk=>by
  grind
 refine⟨H',s,⟨by rw[f.ah _ h.lt (λ q=>p q)];exact h.row,qj h.lt f.au,h.me.fr f (λ q=>t q) (λ q=>v q),r,λ k z b hk=>?_,h.d1,λ k z b hk=>?_,λ k l z w b c hk m=>?_,by rw[xw];exact h.len⟩,f⟩
 .have ⟨e,g,hw⟩:=d k z b hk;rw[<-hw];exact(h.wt k e b g).fr f λ q B w=>(h.d2 k e b g q B).2.2.2 w
 .obtain ⟨e,g,-⟩:=d k z b hk;exact h.d2 k e b g
 .obtain ⟨e,g,-⟩:=d k z b hk;obtain⟨w',hw,-⟩:=d l w c m;exact h.d3 k l e w' b c g hw
def lj.wait(h:lj H D mp lv ev N ws xs){i:Nat}{x:De}{a g:AV}{ys:List Mg}{H1:ar}(A:xs[i]? = B1 (x,a))(hs:Sk ao qy 11 H1 g ys)(f:Fr (bm a) H H1)(B:∀z,bm g z->bm a z\/H.au<=z)(Q:aC g=B4) :
 ∃H',Op.store 1 [.ptr (aG ev) (cw 16 ev i+15),g] H1=B1 (.undef,H')/\lj H' D mp lv ev N ws (xs.set i ({x with wt:=ys},g))/\Fr (lf D mp lv ev xs) H H'/\Fr (On (aG ev)) H1 H':=by
 have C:=(qo.1 A).1;have⟨Y,Z,L,O,P⟩:=h.d1;have K:=h.d2 i x a A;have F:fU fO MS 16 H1 ev xs:=h.es.fr f λ q=>(by grind)
 have R:g.cells=[g]:=by cases g<;>first|rfl|cases Q
 have⟨H',s,r,m⟩:=F.C5 (y:=({x with wt:=ys},g)) wF A (j:=15) (n:=1) (u:=g) (by grind) (by grind [ym]) (by decide) (by
  rw[R];have⟨ow,sh,⟨k,co,li,⟨d,S⟩⟩,ph,ask,wt⟩:=x
  match d,S with
  |[_,_,_,_,_,_,_,_],_=>rfl)
 have G:Fr (lf D mp lv ev xs) H H':=(f.mono λ z _ I=>(.inr (.inr (.inr (.inr ⟨i,x,a,A,I⟩))):lf D mp lv ev xs z)).trans m λ z(q:z=aG ev)=>.inl (.inr (.inr (.inr (.inl q))));have T:=h.es.lt;refine⟨H',s,⟨?_,?_,?_,r,λ k z b hk=>?_,h.d1,λ k z b hk q v=>?_,λ k l z w b c hk e t q v=>?_,by rw[xw];exact h.len⟩,G,m⟩
 .rw [m.ah _ (qj h.lt f.au) (λ q=>L q),f.ah _ h.lt (by grind)];exact h.row
 .exact qj (qj h.lt f.au) m.au
 .exact (h.me.fr f (by grind) (by grind)).fr m (λ q=>O q) (λ q=>P q)
 .by_cases q:k=i
  .subst q;rw[zf C]at hk;injection hk with hk;injection hk with o p
   subst o p;refine hs.fr m λ z I w=>?_;rcases B z I with q|q
   .exact (K z q).2.2.2 w
   .have w:z=aG ev:=w;omega
  .rw [zm (pT q)]at hk;refine((h.wt k z b hk).fr f λ u hu w=>h.d3 k i z x b a hk A q u hu w).fr m λ u hu w=>(h.d2 k z b hk u hu).2.2.2 w
 .by_cases w:k=i
  .subst w;rw[zf C]at hk;injection hk with hk;injection hk with o p
   subst o p;rcases B q v with w|w
   .grind
   .have V:=h.lt;have W:=h.me.lt;have X:=h.me.ls.lt;omega
  .rw [zm (pT w)]at hk;exact h.d2 k z b hk q v
 .by_cases J:k=i
  .subst J;rw[zf C]at hk;rw[zm t]at e;injection hk with hk;injection hk with o p
   subst o p;rcases B q v with w|w
   .exact h.d3 k l x _ a c A e t q w
   .intro E;have:=(h.wt l _ c e).lt q E;omega
  .rw [zm (pT J)]at hk
   by_cases E:l=i
   .subst E;rw[zf C]at e;injection e with e;injection e with o p
    subst o p;intro U;rcases B q U with w|w
    .exact h.d3 k l z x b a hk A J q v w
    .have:=(h.wt k z b hk).lt q v;omega
   .rw [zm (pT E)]at e;exact h.d3 k l z _ b c hk e t q v
end
end Go.Am
namespace Go.Am
open Go.Proofs Ca
variable{M:ak}[MK M]
structure dv(H:ar)(D mp:Nat)(lv ev:AV)(N:Int)(ws:List L8)(xs:List (De×AV))(i:Nat)(x:De)(a:AV):Prop where
 il:i<xs.length
 d:lj H D mp lv ev N ws (xs.set i (x,a))
section
variable{H:ar}{D mp:Nat}{lv ev:AV}{N:Int}{ws:List L8}{xs:List (De×AV)}{i:Nat}{x:De}{a:AV}
def dv.of(h:lj H D mp lv ev N ws xs)(b:xs[i]? = B1 (x,a)):dv H D mp lv ev N ws xs i x a:=by
 refine⟨(qo.1 b).1,?_⟩;have:xs.set i (x,a)=xs:=by
  apply j0
  grind
 grind
def dv.here(h:dv H D mp lv ev N ws xs i x a):(xs.set i (x,a))[i]? = B1 (x,a):=zf h.il
def dv.em{H':ar}(h:dv H D mp lv ev N ws xs i x a)(f:Fr Em H H'):dv H' D mp lv ev N ws xs i x a:=⟨h.il,h.d.em f⟩
def dv.l0(h:dv H D mp lv ev N ws xs i x a):Op.ae [.ptr (aG ev) (cw 16 ev i)] H=B1 (.int .i64 x.ow):=h.d.uE h.here
def dv.l1(h:dv H D mp lv ev N ws xs i x a):Op.ae [.ptr (aG ev) (cw 16 ev i+1)] H=B1 (uB x.sh):=(h.d.ld h.here (by decide)).trans (Et (x,a)).2.1
def dv.l2(h:dv H D mp lv ev N ws xs i x a):Op.ae [.ptr (aG ev) (cw 16 ev i+2)] H=B1 (.int .i64 x.un.k):=(h.d.ld h.here (by decide)).trans (Et (x,a)).2.2.1
def dv.l3(h:dv H D mp lv ev N ws xs i x a):Op.ae [.ptr (aG ev) (cw 16 ev i+2+1)] H=B1 (.int .i64 x.un.core):=(h.d.ld h.here (k:=3) (by decide)).trans (by grind [Et])
def dv.l4(h:dv H D mp lv ev N ws xs i x a):Op.ae [.ptr (aG ev) (cw 16 ev i+2+2)] H=B1 (.int .i64 x.un.line):=(h.d.ld h.here (k:=4) (by decide)).trans (by grind [Et])
def dv.pQ(h:dv H D mp lv ev N ws xs i x a):Op.ae [.ptr (aG ev) (cw 16 ev i+13)] H=B1 (.int .i64 x.ph):=(h.d.ld h.here (by decide)).trans (by grind [Et])
def dv.sF(h:dv H D mp lv ev N ws xs i x a):Op.ae [.ptr (aG ev) (cw 16 ev i+14)] H=B1 (uB x.ask):=(h.d.ld h.here (by decide)).trans (by grind [Et])
def dv.ij(h:dv H D mp lv ev N ws xs i x a):Op.ae [.ptr (aG ev) (cw 16 ev i+15)] H=B1 a:=(h.d.ld h.here (by decide)).trans (by grind [Et])
def dv.lU(h:dv H D mp lv ev N ws xs i x a):Op.av 11 [.ptr (aG ev) (cw 16 ev i+2)] H=B1 (.agg (ao x.un)):=h.d.ldU h.here
theorem dv.put(h:dv H D mp lv ev N ws xs i x a){y:De}(b:y.wt=x.wt){j n:Nat}{u:AV}(hu:u.cells.length=n)(ho:aP u.cells=B4)(c:j+n<=16)(e:fO (y,a)=(fO (x,a)).take j++u.cells++(fO (x,a)).drop (j+n)) :
 ∃H',Op.store n [.ptr (aG ev) (cw 16 ev i+j),u] H=B1 (.undef,H')/\dv H' D mp lv ev N ws xs i y a/\Fr (On (aG ev)) H H':=by
 have⟨H',s,r,f⟩:=h.d.put h.here b hu ho c e;rw[List.set_set]at r;exact⟨H',s,⟨h.il,r⟩,f⟩
def dv.s0(h:dv H D mp lv ev N ws xs i x a)(k:Int):∃H',Op.store 1 [.ptr (aG ev) (cw 16 ev i),.int .i64 k] H=B1 (.undef,H')/\dv H' D mp lv ev N ws xs i {x with ow:=k} a/\Fr (On (aG ev)) H H' :=
 h.put (y:={x with ow:=k}) (j:=0) (n:=1) (u:=.int .i64 k) rfl rfl rfl (by decide) rfl
def dv.s1(h:dv H D mp lv ev N ws xs i x a)(k:Nat):∃H',Op.store 1 [.ptr (aG ev) (cw 16 ev i+1),uB k] H=B1 (.undef,H')/\dv H' D mp lv ev N ws xs i {x with sh:=k} a/\Fr (On (aG ev)) H H' :=
 h.put (y:={x with sh:=k}) (j:=1) (n:=1) (u:=uB k) rfl rfl rfl (by decide) rfl
def dv.sU(h:dv H D mp lv ev N ws xs i x a)(m:Mg):∃H',Op.store 11 [.ptr (aG ev) (cw 16 ev i+2),.agg (ao m)] H=B1 (.undef,H')/\dv H' D mp lv ev N ws xs i {x with un:=m} a/\Fr (On (aG ev)) H H':=by
 refine h.put (y:={x with un:=m}) (j:=2) (n:=11) (u:=.agg (ao m)) rfl (by grind [zb,x9]) (by grind [zb,wh]) (by decide) ?_;rw[zb];have⟨ow,sh,⟨k,co,li,⟨d,b⟩⟩,ph,ask,wt⟩:=x
 match d,b with
 |[_,_,_,_,_,_,_,_],_=>rfl
def dv.Mt(h:dv H D mp lv ev N ws xs i x a)(k:Int):∃H',Op.store 1 [.ptr (aG ev) (cw 16 ev i+13),.int .i64 k] H=B1 (.undef,H')/\dv H' D mp lv ev N ws xs i {x with ph:=k} a/\Fr (On (aG ev)) H H':=by
 refine h.put (y:={x with ph:=k}) (j:=13) (n:=1) (u:=.int .i64 k) rfl rfl rfl (by decide) ?_;have⟨ow,sh,⟨k,co,li,⟨d,b⟩⟩,ph,ask,wt⟩:=x
 match d,b with
 |[_,_,_,_,_,_,_,_],_=>rfl
def dv.Nr(h:dv H D mp lv ev N ws xs i x a)(k:Nat):∃H',Op.store 1 [.ptr (aG ev) (cw 16 ev i+14),uB k] H=B1 (.undef,H')/\dv H' D mp lv ev N ws xs i {x with ask:=k} a/\Fr (On (aG ev)) H H':=by
 refine h.put (y:={x with ask:=k}) (j:=14) (n:=1) (u:=uB k) rfl rfl rfl (by decide) ?_;have⟨ow,sh,⟨k,co,li,⟨d,b⟩⟩,ph,ask,wt⟩:=x
 match d,b with
 |[_,_,_,_,_,_,_,_],_=>rfl
def bdG(co l:Int)(d:L8):Op.build (ao ⟨0,0,0,.zero⟩) [(0,1),(1,1),(2,1),(3,8)] [.int .i64 14,.int .i64 co,.int .i64 l,.agg (dO d)]=B1 (.agg (ao ⟨14,co,l,d⟩)):=by
 have⟨d,b⟩:=d
 match d,b with
 |[_,_,_,_,_,_,_,_],_=>rfl
def dv.Q7(h:dv H D mp lv ev N ws xs i x a):∃H',Op.store 1 [.ptr (aG ev) (cw 16 ev i+14),.int .u8 0] H=B1 (.undef,H')/\dv H' D mp lv ev N ws xs i {x with ask:=0} a/\Fr (On (aG ev)) H H':=h.Nr 0
def dv.B'(h:dv H D mp lv ev N ws xs i x a):∃H',Op.store 1 [.ptr (aG ev) (cw 16 ev i+1),.int .u8 0] H=B1 (.undef,H')/\dv H' D mp lv ev N ws xs i {x with sh:=0} a/\Fr (On (aG ev)) H H':=h.s1 0
abbrev Lo(H:ar):Nat->Prop:=λ z=>H.au<=z
def dv.loc{g:De}{H1 e:ar}(h:dv H D mp lv ev N ws xs i x a)(c:dv H1 D mp lv ev N ws xs i g a)(f:Fr (Lo H) H1 e):dv e D mp lv ev N ws xs i g a:=by
 refine⟨c.il,c.d.fr f λ z j q=>?_⟩;have:lf D mp lv ev (xs.set i (x,a)) z:=by
  rcases q with q|q|q|q|⟨k,y,b,hk,q⟩
  .exact .inl q
  .exact .inr (.inl q)
  .exact .inr (.inr (.inl q))
  .exact .inr (.inr (.inr (.inl q)))
  .by_cases w:k=i
   .subst w;rw[c.here]at hk;injection hk with hk;injection hk with _ hk;subst hk
    exact .inr (.inr (.inr (.inr ⟨k,x,a,h.here,q⟩)))
   .rw [zm (pT w)]at hk;exact .inr (.inr (.inr (.inr ⟨k,y,b,by grind,q⟩)))
 have:=h.d.low this;omega
def xi(h:dv H D mp lv ev N ws xs i x a){w:L8}(hw:ws[x.un.line.toNat]? = B1 w)(hl:0<=x.un.line)(hs:x.sh<16)(c0:0<=x.un.core)(c1:x.un.core<4) :
 xz M OT [.ptr D 0,xA ev i] H λ v H'=>v=.agg (ao (x.cH w).2)/\dv H' D mp lv ev N ws xs i (x.cH w).1 a/\Fr (On (aG ev)) H H':=by
 refine qzj ?_;obtain⟨w0,w4,w8,w18⟩:=qzk M ⟨B5,OT⟩;have⟨H1,e1,f1,n1,g1⟩:=de H (OR (ao ⟨0,0,0,.zero⟩) qy);have⟨H2,s2,h2,P⟩:=(h.em f1).Mt 4;have⟨F,s3,A,Q⟩:=h2.Q7;have uE:Op.ae [.ptr D 0] F=B1 (.ptr mp 0):=xv (qt A.d.row) 0;have hev:=h.d.es.lt;have B:¬H.au=aG ev:=by omega
 have m2:=P.au;have m3:=Q.au;have g3:F.get H.au=B1 (OR (ao ⟨0,0,0,.zero⟩) qy):=by rw[Q.ah _ (by omega) B,P.ah _ (by omega) B];exact g1
 simp only[aa,bc,w0,mZ,<-e1,qk,s2,s3,w4,uE,A.l4];refine C3.q (_O A.d.me hl hw) λ v G⟨hv,f4⟩=>?_;rw[hv];obtain⟨H5,e5,R,-,g5⟩:=de G (OR (dO .zero) js);have C:=ir g5 (yp _) (yp w) (vN w);obtain⟨b,L⟩:∃X,X=H5.set G.au (OR (dO w) js):=⟨_,rfl⟩
 rw[<-L]at C;have g6:b.get G.au=B1 (OR (dO w) js):=by rw[L,xb]
 have S:Fr Em G b:=by rw[L];exact R.set (by omega) _
 have f:Fr Em F b:=f4.trans S λ _ q=>q.elim;have h6:=A.em f;have l5:=gn g6 (yp w);obtain⟨H7,e7,T,-,g7⟩:=de b (OR (ao ⟨0,0,0,.zero⟩) qy);have E:=ir g7 (x9 _) (x9 ⟨14,x.un.core,x.un.line,w⟩) (wh _);obtain⟨l,O⟩:∃X,X=H7.set b.au (OR (ao ⟨14,x.un.core,x.un.line,w⟩) qy):=⟨_,rfl⟩
 rw[<-O]at E;have g8:l.get b.au=B1 (OR (ao ⟨14,x.un.core,x.un.line,w⟩) qy):=by rw[O,xb]
 have u:Fr Em b l:=by rw[O];exact T.set (by omega) _
 have g:Fr Em F l:=f.trans u λ _ q=>q.elim;have s:=A.em g;have m36:=f.au;have m68:=u.au;have z:l.get H.au=B1 (OR (ao ⟨0,0,0,.zero⟩) qy):=by rw[g.ah _ (by omega) id];exact g3
 have n8:b.au<l.au:=by grind [si,xt]
 have t:Fr (On (aG ev)) H l:=(((f1.mono λ _ _ q=>q.elim).trans P λ _ q=>.inl q).trans Q λ _ q=>.inl q).trans g λ _ q=>q.elim;simp only[aa,bc,xc,lZ,<-e5,C,qk,h6.l3,h6.l4,l5,bdG,<-e7,E,w8,s.l2];have fin:∀{c:ar}{y:De}{m:Mg},dv c D mp lv ev N ws xs i y a->Fr (On (aG ev)) H c->c.get H.au=B1 (OR (ao ⟨0,0,0,.zero⟩) qy)->H.au<c.au -> ∃r,Op.store 11 [.ptr H.au 0,.agg (ao m)] c=B1 (.undef,r)/\Op.av 11 [.ptr H.au 0] r=B1 (.agg (ao m))/\dv r D mp lv ev N ws xs i y a/\Fr (On (aG ev)) H r:=λ{c y m}a1 a2 a3 a4=>by
  have st:=ir a3 (x9 _) (x9 m) (wh m);refine⟨_,st,gn (xb ..) (x9 m),h.loc a1 ((Fr.refl c).set (W:=Lo H) (by omega) _),a2.set (by omega) _⟩
 have j:¬b.au=aG ev:=by omega
 unfold De.cH
 by_cases K:x.un.k=1
 .rw [qv K];have sh1:=Jz c0 c1;have sa:=Zh hs c0 c1;have⟨c,s9,V,e⟩:=s.s1 (pH x.sh x.un.core);have m9:=e.au;have l9:Op.av 11 [.ptr b.au 0] c=B1 (.agg (ao ⟨14,x.un.core,x.un.line,w⟩)):=gn (by rw[e.ah _ n8 j];exact g8) (x9 _);have⟨r,sx,Y,hx,fx⟩:=fin (m:=⟨14,x.un.core,x.un.line,w⟩) V (t.trans e λ _ q=>.inl q) (by rw[e.ah _ (by omega) B];exact z) (by omega);simp only[aa,bc,qr K,s.l1,s.l3,qk,sh1,sa,s9,l9,sx,Y]
  grind
 .rw [qn K];have⟨c,s9,V,e⟩:=s.s0 x.un.core;have⟨p,sa,ha,J⟩:=V.B';have m9:=e.au;have ma:=J.au;have ga:p.get b.au=B1 (OR (ao ⟨14,x.un.core,x.un.line,w⟩) qy):=by rw[J.ah _ (by omega) j,e.ah _ n8 j];exact g8
  have sb:Op.store 1 [.ptr b.au 0,.int .i64 15] p=B1 (.undef,p.set b.au (OR (ao ⟨15,x.un.core,x.un.line,w⟩) qy)):=ta (v:=.int .i64 15) ga (o:=0) (n:=1) rfl (by rw[x9];decide) rfl;obtain⟨Hb,I⟩:∃X,X=p.set b.au (OR (ao ⟨15,x.un.core,x.un.line,w⟩) qy):=⟨_,rfl⟩
  rw[<-I]at sb;have U:Fr (Lo H) p Hb:=by rw[I];exact(Fr.refl p).set (W:=Lo H) (by omega) _
  have lb:Op.av 11 [.ptr b.au 0] Hb=B1 (.agg (ao ⟨15,x.un.core,x.un.line,w⟩)):=gn (by rw[I,xb]) (x9 _);have hb:=h.loc ha U;have Z:¬b.au=H.au:=by omega
  have gb:Hb.get H.au=B1 (OR (ao ⟨0,0,0,.zero⟩) qy):=by rw[I,jx Z,J.ah _ (by omega) B,e.ah _ (by omega) B];exact z
  have⟨r,sx,Y,hx,fx⟩:=fin (m:=⟨15,x.un.core,x.un.line,w⟩) hb (((t.trans e λ _ q=>.inl q).trans J λ _ q=>.inl q).trans U λ _ q=>.inr q) gb (by have:=U.au;omega);simp only[aa,bc,K,w18,s.l3,qk,s9,sa,sb,lb,sx,Y]
  grind
end
end Go.Am
namespace Go.Am
open Go.Proofs Ca
variable{M:ak}[MK M]
section
variable{H:ar}{D mp:Nat}{lv ev:AV}{N:Int}{ws:List L8}{xs:List (De×AV)}{i:Nat}{x:De}{a:AV}
def ag5(h:lj H D mp lv ev N ws xs){n:Int}(g:0<=n)(j:n<xs.length):xz M Rr [.ptr D 0,.int .i64 n] H λ v H'=>v=xA ev n.toNat/\H'=H:=by
 have hl:Op.ae [.ptr D 2] H=B1 ev:=xv (qt h.row) 2;have hn:=(h.es.sl wF).len;have d:¬n<0:=by omega
 have e:¬((xs.length:Nat):Int)<=n:=by omega
 have c:xs[n.toNat]? = B1 (xs[n.toNat]'(by omega)):=(by grind)
 have ix:Op.aN 16 [ev,.int .i64 n]=B1 (.ptr (aG ev) (cw 16 ev n.toNat)):=(h.es.sl wF).idx c (by omega) .i64;refine q61 ?_;obtain⟨w0,f,b⟩:=q62 M ⟨B5,Rr⟩;simp only[aa,bc,w0,f,kw,d,qk,hl,hn,e,b,ix]
end
def jN(s:Nat):List Nat:=(Ig 4).filter λ(k:Nat)=>hb s (k:Int) == 1
def HU(s:Nat):tK s=(jN s).map λ(k:Nat)=>(k:Int):=by
 unfold tK jN;have e:([0,1,2,3]:List Int)=(Ig 4).map λ(k:Nat)=>(k:Int):=rfl;rw[e,List.filter_map];rfl
def xcu{H0:ar}{p s:Nat}(hp:H0.get p=B1 (OR [uB s] Uh))(hpl:p<H0.au)(hs:s<16) :
 sk M MA [] [.ptr p 0] (λ x=>x=p) (λ _=>False) H0 ((jN s).map λ(k:Nat)=>[AV.int .i64 (k:Int)]):=by
 intro Y R S l H1 X P B Q loc L step;have⟨p1,p2,p3⟩:=P p (.inl rfl)
 suffices h:xz M MA [.fn (.yield Y) [] [],.ptr p 0] H1 (Jp R S l (λ _=>False) H1 ((jN s).map λ(k:Nat)=>[AV.int .i64 (k:Int)]).length)by
  have⟨v,H',hc,W',g,q2,q3⟩:=h.elim
  grind
 refine qrr ?_;obtain⟨w0,w4,y,z⟩:=_X M ⟨B5,MA⟩;have lp:∀{j:ar},Fr l H1 j->Op.ae [.ptr p 0] j=B1 (uB s):=λ f=>by rw[xv (qt (by rw[f.ah _ (by omega) p3,p2];exact hp))];rfl
 simp only[aa,bc,w0];refine dA.intro (λ n E j=>∃(i:Nat)(V:Nat->Prop),E=[(4,.int .i64 (i:Int)),(0,.fn (.yield Y) [] []),(1,.ptr p 0)]/\n=4-i/\i<=4/\JU R l H1 j ((Ig i).filter λ(k:Nat)=>hb s (k:Int) == 1).length V) ?_ ?_
 .exact ⟨_,_,⟨0,l,rfl,rfl,xu _,⟨B,λ b hb=>(by grind),Fr.refl _⟩⟩,by simp only[aa,bc]⟩
 rintro n E j ⟨i,V,rfl,rfl,hi,d⟩;rcases xp i 4 with W|T
 .have g:(i:Int)<4:=by omega
  have sh:=Jz (c:=(i:Int)) (by omega) g;have ha:=X4 hs (c:=(i:Int)) (by omega) g;have O:aj .i64 ((i:Int)+1)=((i+1:Nat):Int):=by grind [jr]
  have K:=Mr (λ(k:Nat)=>hb s (k:Int) == 1) i;have hle:=Fx s (i:Int)
  by_cases J:hb s (i:Int)=1
  .have u:((Ig (i+1)).filter λ(k:Nat)=>hb s (k:Int) == 1).length=((Ig i).filter λ(k:Nat)=>hb s (k:Int) == 1).length+1:=by rw[K];simp[J]
   have hg:((jN s).map λ(k:Nat)=>[AV.int .i64 (k:Int)])[((Ig i).filter λ(k:Nat)=>hb s (k:Int) == 1).length]? = B1 [.int .i64 (i:Int)]:=by
    grind [jN,Us]
   have Z:0<2 ^ (i:Int).toNat:=(by grind)
   have G:¬(((hb s (i:Int)*2 ^ (i:Int).toNat:Nat)):Int)=0:=by rw[J,Nat.one_mul];omega
   have⟨bb,I,A,hr,C,r,ht,F⟩:=step _ _ hg V j d.hR d.hV (d.fr.mono λ _ _ q=>.inl q);have m:Fr l H1 I:=d.fr.trans C λ b q=>(d.hV b q).2;have o:∀b,A b->b<I.au/\(l b\/H1.au<=b):=λ b q=>⟨(r b q).1,(r b q).2.elim (λ w=>(d.hV b w).2) λ w=>.inr (xm d.fr.au w)⟩
   simp only[aa,bc,w4,g,y,lp d.fr,sh,ha,G];refine C3.vM hr ?_;cases bb with
   |true =>
    simp only[aa,bc,z,O];exact⟨_,_,⟨i+1,A,rfl,rfl,by omega,⟨by grind,o,m⟩⟩,by simp only[aa,bc],by omega⟩
   |false =>
    simp only[aa,bc];exact⟨A,m.mono λ _ _ q=>.inl q,o,.inr (F rfl)⟩
  .have t:hb s (i:Int)=0:=by omega
   have u:((Ig (i+1)).filter λ(k:Nat)=>hb s (k:Int) == 1).length=((Ig i).filter λ(k:Nat)=>hb s (k:Int) == 1).length:=by rw[K];simp[t]
   have G:(((hb s (i:Int)*2 ^ (i:Int).toNat:Nat)):Int)=0:=by rw[t,yO];rfl
   simp only[aa,bc,w4,g,y,lp d.fr,sh,ha,qr G,z,O];exact⟨_,_,⟨i+1,V,rfl,rfl,by omega,by rw[u];exact d⟩,by simp only[aa,bc],by omega⟩
 .have g:¬(i:Int)<4:=by omega
  have U:i=4:=by omega
  simp only[aa,bc,w4,g];refine⟨V,d.fr.mono λ _ _ q=>.inl q,d.hV,.inl ?_⟩;have e:((jN s).map λ(k:Nat)=>[AV.int .i64 (k:Int)]).length=((Ig i).filter λ(k:Nat)=>hb s (k:Int) == 1).length:=by grind [jN]
  rw[e];exact d.hR
def xfo{H:ar}(s:Nat):xz M xn [uB s] H λ v H'=>v=.fn (.func MA) [] [.ptr H.au 0]/\H'=H.alloc (OR [uB s] Uh):=by
 refine _y ?_;simp_all[aa,qvu]
end Go.Am
namespace Go.Am
open Go.Proofs Ca
variable{M:ak}[MK M]
abbrev wW(t:Nat):AV:=.fn (.func OG) [] [.ptr t 0]
def Sb{H:ar}{t:Nat}{c:Int}(w:Mg)(hl:∀{d:ar},Fr Em H d->Op.ae [.ptr t 1] d=B1 (.int .i64 c)):xz M OG [.agg (ao w),.ptr t 0] H λ r H'=>r=.bool (decide (w.core=c))/\Fr Em H H':=by
 refine qth ?_;obtain⟨H1,e,b,-,f⟩:=de H (OR (ao w) qy);have l1:Op.ae [.ptr H.au 1] H1=B1 (.int .i64 w.core):=xv (qt f) 1
 by_cases q:w.core=c
 .simp only[aa,bc,Ya,<-e,l1,hl b,qr q];exact b
 .simp only[aa,bc,Ya,<-e,l1,hl b,q];exact b
def q9n{H:ar}{v:AV}{ms:List Mg}{t:Nat}{c:Int}(h:eS ao 11 H v ms)(hk:ms.length<=1000000)(hl:∀{d:ar},Fr Em H d->Op.ae [.ptr t 1] d=B1 (.int .i64 c)) :
 xz M P8 [v,wW t] H λ r H'=>(∃z:Int,r=.int .i64 z/\(0<=z↔ ∃w∈ms,w.core=c))/\Fr Em H H':=by
 refine qi7 ?_;obtain⟨w0,C,u,A,p,s⟩:=qi8 M ⟨B5,P8⟩;simp only[aa,bc,w0,C,h.len];refine dA.intro (λ n E d=>∃i:Nat,E=[(8,.int .i64 (i:Int)),(7,.int .i64 ((ms.length:Nat):Int)),(0,v),(1,wW t)]/\n=ms.length-i/\i<=ms.length/\Fr Em H d /\ ∀k w,k<i->ms[k]? = B1 w->w.core≠c) ?_ ?_
 .exact ⟨_,_,⟨0,rfl,rfl,xu _,Fr.refl _,λ k w hk=>by omega⟩,by simp only[aa,bc]⟩
 rintro n E d ⟨i,rfl,rfl,G,b,l⟩;rcases xp i ms.length with j|B
 .have o:(i:Int)<((ms.length:Nat):Int):=by omega
  have m:=xj j;have ix:=(h.em b).idx m (z:=(i:Int)) rfl .i64;have ld:=(h.em b).av x9 (by decide) m;have F:aj .i64 ((i:Int)+1)=((i+1:Nat):Int):=by rw[jr (by omega) (by omega)];omega
  simp only[aa,bc,A,o,p,ix,ld];refine C3.q (Sb (ms[i]) (λ f=>hl (b.trans f λ _ q=>q.elim))) λ r H1⟨hr,y⟩=>?_;rw[hr]
  by_cases q:(ms[i]).core=c
  .simp only[aa,bc,qr q];exact⟨⟨_,rfl,λ _=>⟨_,List.getElem_mem j,q⟩,λ _=>by omega⟩,b.trans y λ _ q=>q.elim⟩
  .simp only[aa,bc,q,s,F];refine⟨_,_,⟨i+1,rfl,rfl,by omega,b.trans y λ _ q=>q.elim,λ k w hk hw=>?_⟩,by simp only[aa,bc],by omega⟩
   by_cases e:k=i
   .rw [e,m]at hw;injection hw with hw;rw[<-hw];exact q
   .exact l k w (by omega) hw
 .have o:¬(i:Int)<((ms.length:Nat):Int):=by omega
  simp only[aa,bc,A,o,u];refine⟨⟨_,rfl,λ q=>absurd q (by decide),λ⟨w,hw,hc⟩=>?_⟩,b⟩;have⟨k,g⟩:=vn hw;exact absurd hc (l k w (by have:=(qo.1 g).1;omega) g)
def XB{H:ar}{v:AV}{ms:List Mg}{t:Nat}{c:Int}(h:eS ao 11 H v ms)(hk:ms.length<=1000000)(hl:∀{b:ar},Fr Em H b->Op.ae [.ptr t 1] b=B1 (.int .i64 c)) :
 xz M i2 [v,wW t] H λ r H'=>r=.bool (decide (∃w∈ms,w.core=c))/\Fr Em H H':=by
 refine qhf ?_;simp only[aa,bc,S_];refine C3.q (q9n h hk hl) λ r H1⟨⟨z,hr,e⟩,d⟩=>?_;rw[hr];simp only[aa,bc]
 by_cases q:0<=z
 .simp only[q,e.1 q,decide_true,Cu];exact d
 .have f:¬ ∃w∈ms,w.core=c:=λ w=>q (e.2 w);simp only[q,f,Il,Cu];exact d
section
variable{H:ar}{D mp:Nat}{lv ev:AV}{N:Int}{ws:List L8}{xs:List (De×AV)}{i:Nat}{x:De}{a:AV}
def xfk(h:dv H D mp lv ev N ws xs i x a)(m:Mg)(c0:0<=m.core)(c1:m.core<4)(ha:x.ask<16)(hw:x.wt.length<=1000000):xz M wv [xA ev i,.agg (ao m)] H λ v H'=>v=.bool (decide (x.may m))/\Fr Em H H':=by
 refine _7 ?_;obtain⟨w0,w4,w51,F,G,w26,w38⟩:=_v M ⟨B5,wv⟩;have⟨H1,e1,f1,n1,g1⟩:=de H (OR (ao m) qy);have lm:∀{p:ar}(k:Nat),Fr Em H1 p->Op.ae [.ptr H.au k] p=(ao m)[k]?:=λ k f=>xv (qt (by rw[f.ah _ (by omega) id];exact g1)) k;have l0:Op.ae [.ptr H.au 0] H1=B1 (.int .i64 m.k):=lm 0 (Fr.refl _);have l1:∀{p:ar},Fr Em H1 p->Op.ae [.ptr H.au 1] p=B1 (.int .i64 m.core):=λ f=>lm 1 f;have l:=l1 (Fr.refl H1);have mk:Op.bS OG 0 [.ptr H.au 0]=B1 (wW H.au):=rfl;have c:=h.em f1;have C:=Jz c0 c1;have X:=X4 ha c0 c1;have hle:=Fx x.ask m.core;have hp0:0<2 ^ m.core.toNat:=Nat.pos_of_ne_zero (by simp);have fin:∀{b:Bool}{p:ar},(b=B4↔x.may m)->Fr Em H1 p->(AV.bool b=.bool (decide (x.may m))/\Fr Em H p):=λ{b p}e f=>by
  refine⟨?_,f1.trans f λ _ q=>q.elim⟩;congr 1;cases b with
  |true=>exact(jz (e.1 rfl)).symm
  |false=>exact(jw λ w=>by cases e.2 w).symm
 have n:=Fr.refl (W:=Em) H1;simp only[aa,bc,w0,<-e1,w4,l0]
 by_cases B:m.k=1\/m.k=2
 .have hm:x.may m↔ ¬(x.ph≠0/\x.ph≠4/\x.un.core=m.core)/\(x.ow≠m.core\/x.ph=2) /\ ¬ ∃w∈x.wt,w.core=m.core:=by unfold De.may De.own;rw[qv B]
  have key:∀{E:Env},lk E 10=B1 (.bool B4)->lk E 0=B1 (xA ev i)->lk E 3=B1 (.ptr H.au 0)->lk E 5=B1 (wW H.au)->W M ⟨B5,wv⟩ (PD 14) B4 (eD 0 (ey (W M ⟨B5,wv⟩ (PD 51)) (eR M [.tmp 4] (tc λ v H'=>v=.bool (decide (x.may m))/\Fr Em H H')))) E [] H1:=by
   intro E I O Z b5
   -- the rest,once it is known whether one is under way
   have rest:∀{p:ar}(u:Bool),Fr Em H1 p->(u=B4↔(x.ph≠0/\x.ph≠4/\x.un.core=m.core))->W M ⟨B5,wv⟩ (PD 17) B4 (eD 0 (ey (W M ⟨B5,wv⟩ (PD 51)) (eR M [.tmp 4] (tc λ v H'=>v=.bool (decide (x.may m))/\Fr Em H H')))) ((6,.bool u)::E) [] p:=by
    intro p u t hu;have y:=c.em t;have T:=y.d.wt i x a y.here;cases u with
    |true =>
     simp only[aa,bc,G];exact fin ⟨λ q=>LC q,λ q=>absurd (hu.1 rfl) (hm.1 q).1⟩ t
    |false =>
     have P:¬(x.ph≠0/\x.ph≠4/\x.un.core=m.core):=λ q=>by cases hu.2 q
     by_cases S:x.ow=m.core
     .by_cases V:x.ph=2
      .simp only[aa,bc,G,O,Z,b5,qk,y.l0,l1 t,qr S,y.pQ,qr V,y.ij];refine C3.q (XB (T.sl x9) hw (λ f=>l1 (t.trans f λ _ q=>q.elim))) λ r Y⟨hr,J⟩=>?_;rw[hr];simp only[aa,bc];refine fin ?_ (t.trans J λ _ q=>q.elim);rw[hm];constructor
       .intro q;exact⟨P,.inr V,by simpa using q⟩
       .intro q;simpa using q.2.2
      .simp only[aa,bc,G,O,Z,b5,qk,y.l0,l1 t,qr S,y.pQ,V];exact fin ⟨λ q=>LC q,λ q=>((hm.1 q).2.1.elim (λ w=>absurd S w) λ w=>absurd w V)⟩ t
     .simp only[aa,bc,G,O,Z,b5,qk,y.l0,l1 t,S,y.ij];refine C3.q (XB (T.sl x9) hw (λ f=>l1 (t.trans f λ _ q=>q.elim))) λ r Y⟨hr,J⟩=>?_;rw[hr];simp only[aa,bc];refine fin ?_ (t.trans J λ _ q=>q.elim);rw[hm];constructor
      .intro q;exact⟨P,.inl S,by simpa using q⟩
      .intro q;simpa using q.2.2
   by_cases R:x.ph=0
   .simp only[aa,bc,F,I,O,qk,c.pQ,qr R];exact rest B2 n ⟨λ q=>LC q,λ q=>absurd R q.1⟩
   by_cases U:x.ph=4
   .simp only[aa,bc,F,I,O,qk,c.pQ,R,qr U];exact rest B2 n ⟨λ q=>LC q,λ q=>absurd U q.2.1⟩
   simp only[aa,bc,F,I,O,b5,qk,c.pQ,R,U,c.lU];refine C3.q (Sb x.un l1) λ r Y⟨hr,J⟩=>?_;rw[hr];simp only[aa,bc];exact rest _ J ⟨λ q=>⟨R,U,by simpa using q⟩,λ q=>by simpa using q.2.2⟩
  rcases B with k|k
  .simp only[aa,bc,qr k];exact key rfl rfl rfl rfl
  .have k1:¬m.k=1:=by omega
   simp only[aa,bc,k1,qr k];exact key rfl rfl rfl rfl
 have k1:¬m.k=1:=λ q=>B (.inl q);have k2:¬m.k=2:=λ q=>B (.inr q);have o:(((hb x.ask m.core*2 ^ m.core.toNat:Nat)):Int)=0↔ ¬hb x.ask m.core=1:=by
  constructor
  .intro q w;rw[w,Nat.one_mul]at q;omega
  .intro q;rw[show hb x.ask m.core=0 by omega,yO];rfl
 simp only[aa,bc,k1,k2,F]
 by_cases A:m.k=4
 .have hm:x.may m↔x.ph=1/\hb x.ask m.core=1:=by unfold De.may;rw[qn B,qv A]
  by_cases g:x.ph=1
  .by_cases j:hb x.ask m.core=1
   .have z:=λ w=>o.1 w j;simp only[aa,bc,qr A,qk,c.pQ,qr g,c.sF,l,C,X];exact fin ⟨λ _=>hm.2 ⟨g,j⟩,λ _=>jz z⟩ n
   .have z:=o.2 j;simp only[aa,bc,qr A,qk,c.pQ,qr g,c.sF,l,C,X,qr z];exact fin ⟨λ q=>LC q,λ q=>absurd (hm.1 q).2 j⟩ n
  .simp only[aa,bc,qr A,qk,c.pQ,g];exact fin ⟨λ q=>LC q,λ q=>absurd (hm.1 q).1 g⟩ n
 simp only[aa,bc,A,w26]
 by_cases s:m.k=5
 .have hm:x.may m↔x.ph=2/\x.ow=m.core:=by unfold De.may;rw[qn B,qn A,qv s]
  by_cases g:x.ph=2
  .by_cases j:x.ow=m.core
   .simp only[aa,bc,qr s,qk,c.pQ,qr g,c.l0,l,qr j];exact fin ⟨λ _=>hm.2 ⟨g,j⟩,λ _=>rfl⟩ n
   .simp only[aa,bc,qr s,qk,c.pQ,qr g,c.l0,l,j];exact fin ⟨λ q=>LC q,λ q=>absurd (hm.1 q).2 j⟩ n
  .simp only[aa,bc,qr s,qk,c.pQ,g];exact fin ⟨λ q=>LC q,λ q=>absurd (hm.1 q).1 g⟩ n
 by_cases L:m.k=6
 .have hm:x.may m↔x.ph=2/\hb x.ask m.core=1:=by unfold De.may;rw[qn B,qn A,qn s,qv L]
  by_cases g:x.ph=2
  .by_cases j:hb x.ask m.core=1
   .have z:=λ w=>o.1 w j;simp only[aa,bc,s,qr L,qk,c.pQ,qr g,c.sF,l,C,X];exact fin ⟨λ _=>hm.2 ⟨g,j⟩,λ _=>jz z⟩ n
   .have z:=o.2 j;simp only[aa,bc,s,qr L,qk,c.pQ,qr g,c.sF,l,C,X,qr z];exact fin ⟨λ q=>LC q,λ q=>absurd (hm.1 q).2 j⟩ n
  .simp only[aa,bc,s,qr L,qk,c.pQ,g];exact fin ⟨λ q=>LC q,λ q=>absurd (hm.1 q).1 g⟩ n
 simp only[aa,bc,s,L,w38]
 by_cases K:m.k=3
 .have hm:x.may m↔x.ow=m.core:=by unfold De.may;rw[qn B,qn A,qn s,qn L,qv K]
  by_cases j:x.ow=m.core
  .simp only[aa,bc,qr K,qk,c.l0,l,qr j];exact fin ⟨λ _=>hm.2 j,λ _=>rfl⟩ n
  .simp only[aa,bc,qr K,qk,c.l0,l,j];exact fin ⟨λ q=>LC q,λ q=>absurd (hm.1 q) j⟩ n
 have hm:x.may m↔m.k=7/\x.ph=4/\x.un.core=m.core:=by unfold De.may;rw[qn B,qn A,qn s,qn L,qn K]
 by_cases Q:m.k=7
 .by_cases g:x.ph=4
  .simp only[aa,bc,K,qr Q,qk,c.pQ,qr g,c.lU];refine C3.q (Sb x.un l1) λ r Y⟨hr,J⟩=>?_;rw[hr];simp only[aa,bc];exact fin ⟨λ q=>hm.2 ⟨Q,g,by simpa using q⟩,λ q=>by simpa using(hm.1 q).2.2⟩ J
  .simp only[aa,bc,K,qr Q,qk,c.pQ,g];exact fin ⟨λ q=>LC q,λ q=>absurd (hm.1 q).2.1 g⟩ n
 .simp only[aa,bc,K,Q,w51];exact fin ⟨λ q=>LC q,λ q=>absurd (hm.1 q).1 Q⟩ n
end
end Go.Am
namespace Go.Am
open Go.Proofs Ca
variable{M:ak}[MK M]
structure Oy(t:Nat)(ms:List Mg)(V:Nat->Prop)(Hx:ar):Prop where
 vt:V t
 lt:t<Hx.au
 ls:∃lv,Hx.get t=B1 (OR [lv] qD)/\bU ao qy 11 Hx lv ms /\ ∀z,bm lv z->V z/\t<z
def Oy.loc{t:Nat}{ms:List Mg}{V:Nat->Prop}{c Hb:ar}(h:Oy t ms V c)(hs:∀x,V x->Hb.get x=c.get x)(hn:c.au<=Hb.au):Oy t ms V Hb:=by
 have⟨lv,l1,l2,l3⟩:=h.ls;exact⟨h.vt,qj h.lt hn,lv,by rw[hs _ h.vt];exact l1,Own.fr l2 (⟨hn,λ b _ hw=>hs b (vy.1 hw)⟩:Fr (λ b=>¬V b) c Hb) λ x d w=>w (l3 x d).1,l3⟩
abbrev pX(l:Int)(k:Nat):Mg:=⟨11,(k:Int),l,.zero⟩
def Xp(s:Nat)(l:Int):(tK s).map (λ c=>(⟨11,c,l,.zero⟩:Mg))=(jN s).map (pX l):=by
 rw[HU,Ep];rfl
def ag8(s:Nat):(jN s).length<=4:=by
 have:=List.length_filter_le (λ(k:Nat)=>hb s (k:Int) == 1) (Ig 4);rw[j4]at this;exact this
section
variable{H:ar}{D mp:Nat}{lv ev:AV}{N:Int}{ws:List L8}{xs:List (De×AV)}{i:Nat}{x:De}{a:AV}
def nA(h:dv H D mp lv ev N ws xs i x a)(m:Mg){w:L8}(hw:ws[m.line.toNat]? = B1 w)(hl:0<=m.line)(hs:x.sh<16)(c0:0<=m.core)(c1:m.core<4)(hk:m.k=1\/m.k=2)(ho:x.ow<4) :
 xz M JR [.ptr D 0,xA ev i,.agg (ao m)] H λ v H'=>mM H H' v (x.begin m w).2/\dv H' D mp lv ev N ws xs i (x.begin m w).1 a/\Fr (On (aG ev)) H H':=by
 refine qzi ?_;have⟨w0,wa,wb,w4,L,w10,O,w12,w32,w18,w36,w41⟩:=Yo M ⟨B5,JR⟩;have⟨H1,e1,f1,n1,g1⟩:=de H (OR (ao m) qy);have hev:=h.d.es.lt;have nb:¬H.au=aG ev:=by omega
 have lU:=gn g1 (x9 m);have⟨T,s2,C,f2⟩:=(h.em f1).sU m;have m2:=f2.au;have F2:Fr (On (aG ev)) H T:=(f1.mono λ _ _ q=>q.elim).trans f2 λ _ q=>.inl q;have lm:∀{Hx:ar}(k:Nat),Fr (On (aG ev)) T Hx->Op.ae [.ptr H.au k] Hx=(ao m)[k]?:=λ k f=>xv (qt (by rw[f.ah _ (by omega) nb,f2.ah _ (by omega) nb];exact g1)) k;simp only[aa,bc,w0,<-e1,lU,qk,s2,w4,C.l0];unfold De.begin
 by_cases q:0<=x.ow
 .rw [qv q];have s:=Jz q ho;have⟨U,S,Q,Y⟩:=C.Mt 2;have⟨c,s4,J,Z⟩:=Q.Nr (2 ^ x.ow.toNat);have l:Fr (On (aG ev)) T c:=Y.trans Z λ _ q=>.inl q;have G:=F2.trans l λ _ q=>.inl q;have l0:Op.ae [.ptr H.au 0] c=B1 (.int .i64 m.k):=lm 0 l;have l2:Op.ae [.ptr H.au 2] c=B1 (.int .i64 m.line):=lm 2 l;have m4:=G.au;have out:∀k:Int,mM H (c.alloc (OR (ao ⟨k,x.ow,m.line,.zero⟩) qy)) (Op.sliceTo 1 1 c.au) [⟨k,x.ow,m.line,.zero⟩]/\dv (c.alloc (OR (ao ⟨k,x.ow,m.line,.zero⟩) qy)) D mp lv ev N ws xs i {x with un:=m,ph:=2,ask:=2 ^ x.ow.toNat} a/\Fr (On (aG ev)) H (c.alloc (OR (ao ⟨k,x.ow,m.line,.zero⟩) qy)):=λ k =>
   ⟨GG _ m4,J.em ((Fr.refl c).alloc _),G.alloc _⟩
  by_cases k2:m.k=2
  .rw [qv k2];simp only[aa,bc,qr q,C.l0,qk,s,S,s4,w10,w12,l0,qr k2,w18,J.l0,l2,mZ,OM,wJ];exact out 13
  .rw [qn k2];simp only[aa,bc,qr q,C.l0,qk,s,S,s4,w10,w12,l0,k2,w18,J.l0,l2,mZ,OM,wJ];exact out 12
 .rw [qn q];have s:=Jz c0 c1;have sd:=R5 hs c0 c1;have⟨U,S,Q,Y⟩:=C.Nr (bT x.sh m.core);have F3:=F2.trans Y λ _ q=>.inl q;have l1:Op.ae [.ptr H.au 1] T=B1 (.int .i64 m.core):=lm 1 (Fr.refl _);have l0:Op.ae [.ptr H.au 0] U=B1 (.int .i64 m.k):=lm 0 Y;have dz:bT x.sh m.core=0↔((bT x.sh m.core:Nat):Int)=0:=by omega
  have tog:m.k=1\/bT x.sh m.core=0->xz M OT [.ptr D 0,xA ev i] U λ v H'=>v=.agg (ao (De.cH {x with un:=m,ask:=bT x.sh m.core} w).2)/\dv H' D mp lv ev N ws xs i (De.cH {x with un:=m,ask:=bT x.sh m.core} w).1 a/\Fr (On (aG ev)) U H':=λ _=>xi Q hw hl hs c0 c1;have F:∀{v:AV}{c:ar},(v=.agg (ao (De.cH {x with un:=m,ask:=bT x.sh m.core} w).2)/\dv c D mp lv ev N ws xs i (De.cH {x with un:=m,ask:=bT x.sh m.core} w).1 a/\Fr (On (aG ev)) U c) ->
   mM H (c.alloc (OR (ao (De.cH {x with un:=m,ask:=bT x.sh m.core} w).2) qy)) (Op.sliceTo 1 1 c.au) [(De.cH {x with un:=m,ask:=bT x.sh m.core} w).2]/\dv (c.alloc (OR (ao (De.cH {x with un:=m,ask:=bT x.sh m.core} w).2) qy)) D mp lv ev N ws xs i (De.cH {x with un:=m,ask:=bT x.sh m.core} w).1 a/\Fr (On (aG ev)) H (c.alloc (OR (ao (De.cH {x with un:=m,ask:=bT x.sh m.core} w).2) qy)):=λ{v c}⟨_,J,Z⟩=>by
   have G:=F3.trans Z λ _ q=>.inl q;exact⟨GG _ G.au,J.em ((Fr.refl c).alloc _),G.alloc _⟩
  by_cases R:m.k=1
  .rw [qv (.inl R)];simp only[aa,bc,q,L,C.l1,qk,l1,s,sd,S,O,l0,qr R];refine C3.q (tog (.inl R)) λ v c E=>?_;rw[E.1];simp only[aa,bc,mZ,wJ];exact F E
  by_cases d0:bT x.sh m.core=0
  .rw [qv (.inr d0)];have d1:=dz.1 d0;simp only[aa,bc,q,L,C.l1,qk,l1,s,sd,S,O,l0,R,Q.sF,qr d1];refine C3.q (tog (.inr d0)) λ v c E=>?_;rw[E.1];simp only[aa,bc,mZ,wJ];exact F E
  rw[qn (λ w=>w.elim R d0)];have d1:¬((bT x.sh m.core:Nat):Int)=0:=λ q=>d0 (dz.2 q);have⟨c,s4,J,Z⟩:=Q.Mt 1;have⟨H5,e5,I,n5,g5⟩:=de c (OR [.nils] qD);have h5:=J.em I;have l:Fr (On (aG ev)) T c:=Y.trans Z λ _ q=>.inl q;have G:=F2.trans l λ _ q=>.inl q;have m24:=l.au;simp only[aa,bc,q,L,C.l1,qk,l1,s,sd,S,O,l0,R,Q.sF,d1,w32,s4,<-e5,w36,h5.sF];refine C3.q (xfo (bT x.sh m.core)) λ v H7⟨hv,E⟩=>?_;obtain⟨H6,e6,A,-,g6⟩:=de H5 (OR [uB (bT x.sh m.core)] Uh);rw[<-e6]at E;rw[hv,E];have n6:H6.au=c.au+2:=by rw[e6,xt,n5]
  have g6t:H6.get c.au=B1 (OR [.nils] qD):=by rw[A.ah _ (by omega) id];exact g5
  have h6:=h5.em A;have g6m:H6.get H.au=B1 (OR (ao m) qy):=by
   rw[A.ah _ (by omega) id,I.ah _ (by omega) id,l.ah _ (by omega) nb,f2.ah _ (by omega) nb];exact g1
  have hd16:bT x.sh m.core<16:=(JB hs c0 c1 (d:=0) (by decide) (by decide)).1;refine iL.iter (fn:=OA) (lp:=KU) (pa:=RF 0) (pb:=Ty 0) qvs ZA.1 ZA.2 (by decide) qtf qtg
   (xcu g6 (by omega) hd16) (λ j V Hx=>Oy c.au (((jN (bT x.sh m.core)).take j).map (pX m.line)) V Hx) (λ _ _ _=>False) (λ z=>z=c.au) (qg _) ?_ ?_ ?_ ?_ ?_ ?_ ?_ ?_
  .rintro z (q|q)
   .exact ⟨by omega,rfl,by omega⟩
   .exact q.elim
  .exact λ z t=>by omega
  .exact ⟨rfl,by omega,.nils,g6t,Own.nil ..,λ z q=>(q.1 rfl).elim⟩
  .exact λ j V Ha Hb hp hs hn=>hp.loc hs hn
  .exact λ e V Ha Hb hp _ _=>hp
  .intro n j lr lb y hy hL2 V u B hV hfc K hLc hgL;rw[xr,xh]at hy;obtain⟨k,hk,rfl⟩:=hy;refine⟨_,rfl,?_⟩;obtain⟨-,wa,wb,-⟩:=Yo M ⟨B1 n,JR⟩;simp only[aa,bc,wa,DQ];refine⟨hgL,?_⟩;have fx:Fr (On n) u (u.set n lb):=(Fr.refl u).set (W:=On n) (.inl rfl) _;have gL:(u.set n lb).get n=B1 lb:=xb ..;have nL:(u.set n lb).au=u.au:=rfl;have hP7:=B.loc (Hb:=u.set n lb) (λ y hy=>by rw[jx (λ q:n=y=>K (by rw[q];exact hy))]) (qg _);have gm:(u.set n lb).get H.au=B1 (OR (ao m) qy):=by
    rw[jx (by omega),hfc.ah H.au (by omega) (λ q=>q.elim (λ q=>by omega) id)];exact g6m
   generalize u.set n lb=o at *;have⟨g,l1,l2,l3⟩:=hP7.ls;have lq:Op.ae [.ptr c.au 0] o=B1 g:=xv (qt l1) 0;have ll:Op.ae [.ptr H.au 2] o=B1 (.int .i64 m.line):=xv (qt gm) 2;have mK:(((jN (bT x.sh m.core)).take j).map (pX m.line)).length<=4:=by
    rw[zj,Is];have:=ag8 (bT x.sh m.core);omega
   simp only[aa,bc,wb,lq,ll,mZ,OM];refine mI (e:=qy) (size:=11) (bytes:=88) l2 (x:=.agg (ao (pX m.line k))) (x9 _) (by rw[zb];exact x9 _) (by rw[zb];exact wh _) (by decide) (by omega) (by omega) λ r P p hf hfr=>?_;rw[zb]at p;have q8:P.get c.au=B1 (OR [g] qD):=by rw[hf.ah _ hP7.lt λ q=>by have:=(l3 _ q).2;omega];exact l1
   have o1:aC r=true:=by have:=Sl.one (Own.sl p);exact this
   have st:=JL q8 o1;obtain⟨H9,e9⟩:∃X,X=P.set c.au (OR [r] qD):=⟨_,rfl⟩
   rw[<-e9]at st;have f9:Fr (On c.au) P H9:=by rw[e9];exact(Fr.refl P).set (W:=On c.au) (.inl rfl) _
   simp only[aa,bc,st];have lo':∀y,bm r y->c.au<y:=λ y q=>(hfr y q).elim (λ q=>(l3 y q).2) λ q=>by have:=B.lt;omega
   have nf:=hf.au;have n9:H9.au=P.au:=by rw[e9];rfl
   refine⟨rfl,?_,λ y=>V y\/bm r y,?_,?_,.inl ⟨rfl,⟨.inl B.vt,?_,r,?_,?_,λ y q=>⟨.inr q,lo' y q⟩⟩⟩⟩
   .rw [f9.ah n (by omega) (λ(q:n=c.au)=>K (by rw[q];exact B.vt)),hf.ah n (by omega) λ q=>K (l3 _ q).1];exact gL
   .rintro y (q|q)
    .exact ⟨by have:=(hV y q).1;omega,.inl q⟩
    .refine ⟨by rw[n9];exact Own.lt p y q,?_⟩;rcases hfr y q with w|w
     .exact .inl (l3 y w).1
     .exact .inr (by omega)
   .have a1:Fr (λ b=>V b\/b=n) u o:=fx.mono λ x _ q=>.inr q;exact(a1.trans hf λ x hx=>.inl (.inl (l3 x hx).1)).trans f9 λ x hx=>.inl (.inl (by rw[show x=c.au from hx];exact B.vt))
   .have:=B.lt;omega
   .rw [e9,xb]
   .have hx2:((jN (bT x.sh m.core)).take (j+1)).map (pX m.line)=((jN (bT x.sh m.core)).take j).map (pX m.line) ++ [pX m.line k]:=by rw[I6,hk];simp
    rw[hx2];have ow:bU ao qy 11 P r (((jN (bT x.sh m.core)).take j).map (pX m.line) ++ [pX m.line k]):=by
     unfold bU;rw[xk,yi,jv,List.flatMap_nil,zu];exact p
    exact Own.fr ow f9 λ x hx(q:x=c.au)=>by have:=lo' x hx;omega
  .intro d V o hd1 hd2 hgd hfd hVd B;have⟨g,l1,l2,l3⟩:=B.ls;have el:((jN (bT x.sh m.core)).map λ(k:Nat)=>[AV.int .i64 (k:Int)]).length=(jN (bT x.sh m.core)).length:=zj _;rw[el,zh (qg _)]at l2;have lq:Op.ae [.ptr c.au 0] (o.set d (.deferred B5))=B1 g:=xv (qt (show(o.set d (.deferred B5)).get c.au=B1 (OR [g] qD)from by rw[jx (λ q:d=c.au=>by have:=(hVd _ B.vt).2.2;omega)];exact l1)) 0;have lq0:Op.ae [.ptr c.au 0] o=B1 g:=xv (qt l1) 0;have sl2:eS ao 11 (o.set d (.deferred B5)) g ((jN (bT x.sh m.core)).map (pX m.line)):=by
    have fs:Fr (On d) o (o.set d (.deferred B5)):=(Fr.refl o).set (W:=On d) (.inl rfl) _;exact(Own.fr l2 fs λ z t(q:z=d)=>(hVd z (l3 z t).1).2.2 q).sl
   have hx1:dv (o.set d (.deferred B5)) D mp lv ev N ws xs i {x with un:=m,ph:=1,ask:=bT x.sh m.core} a:=by
    refine h.loc h6 ((hfd.mono λ z _ t=>?_).set (.inl (show H.au<=d by omega)) _);rcases t with t|t
    .show H.au<=z;omega
    .exact t.elim
   have fr1:Fr (On (aG ev)) H (o.set d (.deferred B5)):=by
    refine(((G.trans I λ _ q=>q.elim).trans A λ _ q=>q.elim).trans hfd λ z t=>?_).set (.inr (by omega)) _;rcases t with t|t
    .exact .inr (by omega)
    .exact t.elim
   simp only[aa,bc,w41,lq0,Gd];refine⟨hgd,⟨by rw[Xp];exact sl2,λ hne=>?_⟩,hx1,fr1⟩;have hlo:g≠ .nils:=λ q=>by
    rw[Xp]at hne;subst q;have:=l2.1;rw[wQ x9]at this;rcases l2.2 with⟨z,-⟩|⟨b,q,-⟩
    .exact hne (j6.1 z)
    .cases q
   have:=(l3 (aG g) ⟨hlo,rfl⟩).2;omega
  .exact λ e d V o _ _ _ _ _ _ hp=>hp.elim
end
end Go.Am
namespace Go.Am
open Go.Proofs Ca
variable{M:ak}[MK M]
section
variable{H:ar}{D mp:Nat}{lv ev:AV}{N:Int}{ws:List L8}{xs:List (De×AV)}{i:Nat}{x:De}{a:AV}
def dv.mem(h:dv H D mp lv ev N ws xs i x a){H':ar}{c:List L8}(hm:wK H' mp lv c)(f:Fr (On (aG lv)) H H')(hl:c.length=ws.length):dv H' D mp lv ev N c xs i x a:=by
 have⟨l,e,n,o,g⟩:=h.d.d1;exact⟨h.il,by rw[f.ah _ h.d.lt (λ q=>e q)];exact h.d.row,qj h.d.lt f.au,hm,h.d.es.fr f (λ q=>g q.symm),λ k y b hk=>(h.d.wt k y b hk).fr f λ z j q=>(h.d.d2 k y b hk z j).2.2.1 q,h.d.d1,h.d.d2,h.d.d3,by rw[hl];exact h.d.len⟩
def yQ(H:ar)(D mp:Nat)(lv ev:AV)(N:Int)(ws:List L8)(xs:List (De×AV))(i:Nat)(a:AV)(r:De×L8×List Mg)(v:AV)(H':ar):Prop :=
 (∃ov e,v=.tuple [ov,e]/\mM H H' ov r.2.2) /\ ∃a',dv H' D mp lv ev N (ws.set i r.2.1) xs i r.1 a'/\Fr (lf D mp lv ev xs) H H' /\ ∀z,bm a' z->bm a z\/H.au<=z
def M0{ws:List L8}{i:Nat}{w:L8}(h:ws[i]? = B1 w):ws.set i w=ws:=by
 apply j0
 grind
def AZ{H1 b:ar}(f:Fr (On (aG ev)) H1 b):Fr (lf D mp lv ev xs) H1 b:=f.mono λ _ _ q=>.inr (.inr (.inr (.inl q)))
def ZG{H1 b:ar}(f:Fr (On (aG lv)) H1 b):Fr (lf D mp lv ev xs) H1 b:=f.mono λ _ _ q=>.inr (.inr (.inl q))
def sV{H1 b c:ar}(f:Fr (lf D mp lv ev xs) H1 b)(g:Fr (lf D mp lv ev xs) b c):Fr (lf D mp lv ev xs) H1 c:=f.trans g λ _ q=>.inl q
def nh{E:Env}{p:ar}{y:De}{w':L8}{o:List Mg}{g:AV}{q:Prop}[Decidable q]{b8:Bool}(u:b8=decide q)(G:lk E 8=B1 (.bool b8))(Q:lk E 7=B1 g)(T:lk E 0=B1 (.ptr D 0))(b4:lk E 6=B1 (xA ev i))
 (hx:xs[i]? = B1 (x,a)) (h:dv p D mp lv ev N (ws.set i w') xs i y a) (hq:q->(ws.set i w')[y.un.line.toNat]? = B1 w'/\0<=y.un.line/\y.sh<16/\0<=y.un.core/\y.un.core<4)
 (ho:bU ao qy 11 p g o) (Z:o.length<=3) (r:∀z,bm g z->H.au<=z) (f:Fr (lf D mp lv ev xs) H p) (j:∀z,lf D mp lv ev xs z->z<H.au) :
 W M ⟨B5,vh⟩ (S3 113) B4 (eR M [.tmp 4,.tmp 5] (tc (yQ H D mp lv ev N ws xs i a (y.sK w' q o)))) E [] p:=by
 obtain⟨-,-,-,-,-,-,-,l,-,n,-⟩:=Yz M ⟨B5,vh⟩;have A:∀{g:AV}{o:List Mg}{p:ar},bU ao qy 11 p g o->(∀z,bm g z->H.au<=z)->o≠[]->H.au<=aG g:=λ{g o p}R t h3=>by
  refine t _ ⟨λ e=>?_,rfl⟩;subst e;have:=R.1;rw[wQ x9]at this;rcases R.2 with⟨z,-⟩|⟨b,q,-⟩
  .grind
  grind
 unfold De.sK
 by_cases F:q
 .have ⟨hw,hl,hs,U,V⟩:=hq F;rw[qv F];rw[u,jz F]at G;simp only[aa,bc,l,G,Q,T,b4];refine C3.q (xi h hw hl hs U V) λ v I⟨hv,t,J⟩=>?_;rw[hv];have L:bU ao qy 11 I g o:=Own.fr ho J λ z c(q:z=aG ev)=>by have:=r z c;have:=j (aG ev) (.inr (.inr (.inr (.inl rfl))));omega
  simp only[aa,bc,mZ];refine mI (e:=qy) (size:=11) (bytes:=88) L (x:=.agg (ao (y.cH w').2)) (x9 _) (by grind [zb,x9]) (by grind [zb,wh]) (by decide) (by omega) (by omega) λ S P O X Y=>?_;rw[zb]at O;simp only[aa,bc,n];have s:Fr (Lo H) I P:=X.mono λ z _ c=>r z c;have B:bU ao qy 11 P S (o ++ [(y.cH w').2]):=by
   grind [bU]
  have hn:H.au<=I.au:=xm f.au J.au;have C:∀z,bm S z->H.au<=z:=λ z c=>(by grind)
  have K:∀z,lf D mp lv ev (xs.set i ((y.cH w').1,a)) z->z<H.au:=λ z c=>by
   refine j z ?_;rcases c with c|c|c|c|⟨k,yy,b,hk,c⟩
   .exact .inl c
   .exact .inr (.inl c)
   .exact .inr (.inr (.inl c))
   .exact .inr (.inr (.inr (.inl c)))
   .by_cases e:k=i
    .subst e;rw[t.here]at hk;injection hk with hk;injection hk with _ hk;subst hk
     exact .inr (.inr (.inr (.inr ⟨k,x,a,hx,c⟩)))
    .rw [zm (pT e)]at hk;exact .inr (.inr (.inr (.inr ⟨k,yy,b,hk,c⟩)))
  refine⟨⟨_,_,rfl,B.sl,λ e=>A B C e⟩,a,⟨t.il,t.d.fr s λ z c q=>?_⟩,?_,λ z c=>.inl c⟩
  .grind
  .exact (sV f (AZ J)).trans s λ z c=>.inr c
 .rw [qn F];rw[u,jw F]at G;simp only[aa,bc,l,G,Q,n];exact⟨⟨_,_,rfl,ho.sl,λ e=>A ho r e⟩,a,h,f,λ z c=>.inl c⟩
end
end Go.Am
namespace Go.Am
open Go.Proofs Ca
variable{M:ak}[MK M]
def bdA(co l:Int):Op.build (ao ⟨0,0,0,.zero⟩) [(0,1),(1,1),(2,1)] [.int .i64 16,.int .i64 co,.int .i64 l]=B1 (.agg (ao ⟨16,co,l,.zero⟩)):=rfl
def Wo:Op.build (dO .zero) [] []=B1 (.agg (dO .zero)):=rfl
def Ej:Op.build (ao ⟨0,0,0,.zero⟩) [] []=B1 (.agg (ao ⟨0,0,0,.zero⟩)):=rfl
def Eo(m:Mg):(ao m).take 3++(AV.agg (dO .zero)).cells++(ao m).drop (3+8)=ao {m with d:=.zero}:=QV m .zero
section
variable{H:ar}{D mp:Nat}{lv ev:AV}{N:Int}{ws:List L8}{xs:List (De×AV)}{x:De}{a:AV}{m:Mg}{w:L8}{ys:List Mg}
def dv.wait{i:Nat}(h:dv H D mp lv ev N ws xs i x a){b:AV}{ys:List Mg}{H1:ar}(hs:Sk ao qy 11 H1 b ys)(f:Fr (bm a) H H1)(j:∀z,bm b z->bm a z\/H.au<=z)(g:aC b=B4) :
 ∃H',Op.store 1 [.ptr (aG ev) (cw 16 ev i+15),b] H1=B1 (.undef,H')/\dv H' D mp lv ev N ws xs i {x with wt:=ys} b/\Fr (lf D mp lv ev (xs.set i (x,a))) H H'/\Fr (On (aG ev)) H1 H':=by
 have⟨H',s,r,c,e⟩:=h.d.wait h.here hs f j g;rw[List.set_set]at r;exact⟨H',s,⟨h.il,r⟩,c,e⟩
def Sk.one(h:Sk ao qy 11 H a ys):aC a=true:=by
 rcases h with⟨rfl,-⟩|⟨b,i,alt,r,h⟩
 .rfl
 .rw [h.eq];rfl
def VW{i:Nat}{y:De}(f:xs[i]? = B1 (x,a)){z:Nat}:lf D mp lv ev (xs.set i (y,a)) z↔lf D mp lv ev xs z:=by
 have g:=(qo.1 f).1;have key:(∃(k:Nat)(c:De)(b:AV),(xs.set i (y,a))[k]? = B1 (c,b)/\bm b z)↔ ∃(k:Nat)(c:De)(b:AV),xs[k]? = B1 (c,b)/\bm b z:=by
  constructor
  .rintro ⟨k,c,b,hk,d⟩
   by_cases e:k=i
   .subst e;rw[zf g]at hk;injection hk with hk;injection hk with _ hk;subst hk
    exact⟨k,x,a,f,d⟩
   .rw [zm (pT e)]at hk;exact⟨k,c,b,hk,d⟩
  .rintro ⟨k,c,b,hk,d⟩
   by_cases e:k=i
   .subst e;rw[f]at hk;injection hk with hk;injection hk with _ hk;subst hk
    exact⟨k,y,a,zf g,d⟩
   .exact ⟨k,c,b,by rw[zm (pT e)];exact hk,d⟩
 unfold lf;rw[key]
def xcc(h:lj H D mp lv ev N ws xs)(Q:xs[m.line.toNat]? = B1 (x,a))(hw:ws[m.line.toNat]? = B1 w)(I:XI x N m.line)(h0:0<=m.line)(c0:0<=m.core)(c1:m.core<N)(hwl:x.wt.length<=900000) :
 xz M vh [.ptr D 0,.agg (ao m)] H (yQ H D mp lv ev N ws xs m.line.toNat a (x.bh w m)):=by
 have N4:=I.N4;have c4:m.core<4:=by omega
 have hil:=(qo.1 Q).1;have l:∀z,lf D mp lv ev xs z->z<H.au:=λ z u=>h.low u;refine q2c ?_;have⟨w0,w2,w10,w12,w20,w28,w32,w113,w42,w119,w45,w61,Y,w55,w71,w86,w73,w99,w79⟩:=Yz M ⟨B5,vh⟩;have⟨H1,e1,f1,n1,g1⟩:=de H (OR (ao m) qy);have d1:=h.em f1;have l2:Op.ae [.ptr H.au 2] H1=B1 (.int .i64 m.line):=xv (qt g1) 2;have l1:Op.ae [.ptr H.au 1] H1=B1 (.int .i64 m.core):=xv (qt g1) 1;have lN:Op.ae [.ptr D 1] H1=B1 (.int .i64 N):=xv (qt d1.row) 1;have lU:=gn g1 (x9 m);have q0:¬m.core<0:=by omega
 have q1:¬N<=m.core:=by omega
 simp only[aa,bc,w0,<-e1,w2,kw,w10,l2];refine C3.q (ag5 d1 h0 (by omega)) λ v A⟨hv,hh⟩=>?_;rw[hv,hh];simp only[aa,bc,w12,kw,l1,q0,qk,lN,q1,w20,lU];have en1:dv H1 D mp lv ev N ws xs m.line.toNat x a:=dv.of d1 Q;refine C3.q (xfk en1 m c0 c4 I.ab (by omega)) λ v A⟨hv,f2⟩=>?_;rw[hv];have s:=en1.em f2;have F2:Fr Em H A:=f1.trans f2 λ _ q=>q.elim;have m2:=f2.au
 by_cases may:x.may m
 case neg =>
  simp only[aa,bc,may];unfold De.bh;rw[qv may];exact⟨⟨_,_,rfl,.nil ..⟩,a,by rw[M0 hw];exact s,F2.mono λ _ _ q=>q.elim,λ z u=>.inl u⟩
 -- what the box of the message stays under
 have lm:∀{t:ar}(k:Nat),Fr (lf D mp lv ev xs) A t->Op.ae [.ptr H.au k] t=(ao m)[k]?:=λ k f=>xv (qt (by rw[f.ah _ (by omega) (λ q=>by have:=l _ q;omega),f2.ah _ (by omega) id];exact g1)) k;have lD:∀{t:ar},Fr (lf D mp lv ev xs) A t->Op.av 8 [.ptr H.au 3] t=B1 (.agg (dO m.d)):=λ{t}f=>by
  have g:t.get H.au=B1 (OR (ao m) qy):=by rw[f.ah _ (by omega) (λ q=>by have:=l _ q;omega),f2.ah _ (by omega) id];exact g1
  rw[sf (qt g) (by rw[x9];decide)];have⟨k,co,li,⟨d,hd⟩⟩:=m
  match d,hd with
  |[_,_,_,_,_,_,_,_],_=>rfl
 have r2:=Fr.refl (W:=lf D mp lv ev xs) A;have k0:Op.ae [.ptr H.au 0] A=B1 (.int .i64 m.k):=lm 0 r2;have k1r:∀{t:ar},Fr (lf D mp lv ev xs) A t->Op.ae [.ptr H.au 1] t=B1 (.int .i64 m.core):=λ f=>lm 1 f;have k2r:∀{t:ar},Fr (lf D mp lv ev xs) A t->Op.ae [.ptr H.au 2] t=B1 (.int .i64 m.line):=λ f=>lm 2 f;have hwt:=s.d.wt m.line.toNat x a s.here;have bx:=λ z(u:bm a z)=>(l z (.inr (.inr (.inr (.inr ⟨_,x,a,Q,u⟩)))))
 unfold De.bh;rw[qn (λ q=>q may)];have sh1:=Jz c0 c4;simp only[aa,bc,may,w28,w32,k0]
 by_cases kg:m.k=1\/m.k=2
 .rw [qv kg]
  -- the message in hand has no words
  have st:Op.store 8 [.ptr H.au 3,.agg (dO .zero)] A=B1 (.undef,A.set H.au (OR (ao {m with d:=.zero}) qy)):=by
   have g:A.get H.au=B1 (OR (ao m) qy):=by rw[f2.ah _ (by omega) id];exact g1
   have:=ta g (o:=3) (n:=8) (v:=.agg (dO .zero)) (by rw[zb];exact yp _) (by rw[x9];decide) (by rw[zb];exact vN _);rw[this,Eo]
  obtain⟨P,e3⟩:∃X,X=A.set H.au (OR (ao {m with d:=.zero}) qy):=⟨_,rfl⟩
  rw[<-e3]at st;have J:Fr (On H.au) A P:=by rw[e3];exact(Fr.refl A).set (W:=On H.au) (.inl rfl) _
  have g3:P.get H.au=B1 (OR (ao {m with d:=.zero}) qy):=by rw[e3,xb]
  have lU3:=gn g3 (x9 {m with d:=.zero});have c:dv P D mp lv ev N ws xs m.line.toNat x a:=(dv.of h Q).loc s (J.mono λ z _(q:z=H.au)=>by show H.au<=z;omega);have R:Fr Em H P:=F2.trans (J.mono (W':=Lo H) λ z _(q:z=H.au)=>by show H.au<=z;omega) λ z q=>.inr q;have m3:=J.au;have key:∀{E:Env},lk E 38=B1 (.bool B4)->lk E 3=B1 (.ptr H.au 0)->lk E 6=B1 (xA ev m.line.toNat)->lk E 0=B1 (.ptr D 0)->lk E 4=B1 .nils ->
   W M ⟨B5,vh⟩ (S3 42) B4 (eD 0 (ey (W M ⟨B5,vh⟩ (S3 113)) (eR M [.tmp 4,.tmp 5] (tc (yQ H D mp lv ev N ws xs m.line.toNat a (if x.ph≠0 then({x with wt:=x.wt ++ [{m with d:=.zero}]},w,[])else((x.begin {m with d:=.zero} w).1,w,(x.begin {m with d:=.zero} w).2))))))) E [] A:=by
   intro E b38 b3 b6 b0 b4
   by_cases p0:x.ph=0
   .rw [qn (λ q=>q p0)];simp only[aa,bc,w42,b38,lZ,Wo,b3,st,w45,b6,qk,c.pQ,qr p0,w55,b0,lU3];refine C3.q (nA c {m with d:=.zero} hw h0 I.sb c0 c4 kg (by have:=I.ow;omega)) λ v B⟨T,j,f4⟩=>?_;simp only[aa,bc];refine⟨⟨_,_,rfl,T.1,λ q=>xm R.au (T.2 q)⟩,a,by rw[M0 hw];exact j,(R.mono λ _ _ q=>q.elim).trans (AZ f4) λ _ q=>.inl q,λ z u=>.inl u⟩
   .rw [qv p0];have hsk:=c.d.wt m.line.toNat x a c.here;obtain⟨B,e4,f34,n4,-⟩:=de P (OR (ao {m with d:=.zero}) qy);have rw1:=GD (H:=P) {m with d:=.zero};rw[<-e4]at rw1;have sl1:=rw1.sl x9;have⟨v5,H5,s5,Z,f5,o5⟩:=(hsk.em f34).app x9 (by decide) (ys:=[{m with d:=.zero}]) (k:=1) (new:=ao {m with d:=.zero}) rfl (by simp) (Sl.eL sl1) (by have:=Sl.first sl1;simpa using this) (wh _) (bytes:=88) (by omega) (by omega);have f35:Fr (bm a) P H5:=(f34.mono λ _ _ q=>q.elim).trans f5 λ _ q=>.inl q;have⟨H6,s6,en6,f6,f56⟩:=c.wait Z f35 (λ z u=>(o5 z u).elim .inl λ q=>.inr (by omega)) Z.one;simp only[aa,bc,w42,b38,lZ,Wo,b3,st];simp only[aa,bc,w45,b3,b6,qk,c.pQ,p0,c.ij,lU3,mZ,wJ,<-e4,s5,s6];refine⟨⟨_,_,rfl,.nil ..⟩,v5,by rw[M0 hw];exact en6,?_,λ z u=>(o5 z u).elim .inl λ q=>.inr (by have:=R.au;omega)⟩;exact(R.mono λ _ _ q=>q.elim).trans f6 λ z q=>.inl ((VW Q).1 q)
  rcases kg with k|k
  .simp only[aa,bc,qr k];exact key rfl rfl rfl rfl rfl
  .have nk:¬m.k=1:=by omega
   simp only[aa,bc,nk,qr k];exact key rfl rfl rfl rfl rfl
 rw[qn kg];have nk1:¬m.k=1:=λ q=>kg (.inl q);have nk2:¬m.k=2:=λ q=>kg (.inr q);have hm:=may;unfold De.may at hm;rw[qn kg]at hm;have hU:=I.un;have S:∀{y:De}{w':L8},x.ph≠0->y.un=x.un->y.sh<16->(ws.set m.line.toNat w')[y.un.line.toNat]? = B1 w'/\0<=y.un.line/\y.sh<16/\0<=y.un.core/\y.un.core<4:=λ{y w'}p e1 e2=>by
  obtain⟨-,u0,u1,ul⟩:=hU p;have hl:=(qo.1 hw).1;rw[e1];exact⟨by rw[ul,zf hl],by rw[ul];exact h0,e2,u0,by omega⟩
 have K:∀{t:ar}{y:De},dv t D mp lv ev N ws xs m.line.toNat y a->dv t D mp lv ev N (ws.set m.line.toNat w) xs m.line.toNat y a:=λ e=>by rw[M0 hw];exact e
 have full:∀{t:ar},Fr (lf D mp lv ev xs) A t->Fr (lf D mp lv ev xs) H t:=λ f=>(F2.mono λ _ _ q=>q.elim).trans f λ _ q=>.inl q;have G:∀{t:ar},bU ao qy 11 t .nils ([]:List Mg):=Own.nil ..;have F:∀z,bm AV.nils z->H.au<=z:=λ z q=>absurd rfl q.1;simp only[aa,bc,nk1,nk2,w42]
 by_cases k4:m.k=4
 .rw [qv k4]at hm⊢;have sd:=R5 I.sb c0 c4;have sda:=R5 I.ab c0 c4;have⟨P,s3,c,J⟩:=s.s1 (bT x.sh m.core);have⟨B,s4,j,f4⟩:=c.Nr (bT x.ask m.core);have R:=AZ (D:=D) (mp:=mp) (lv:=lv) (xs:=xs) J;have L:=sV R (AZ f4);have dl:bT x.sh m.core<16:=(JB I.sb c0 c4 (d:=0) (by decide) (by decide)).1;have dd:decide (((bT x.ask m.core:Nat):Int)=0)=decide (bT x.ask m.core=0):=by
   by_cases e:bT x.ask m.core=0
   .rw [e];rfl
   .rw [jw e,jw (by omega)]
  simp only[aa,bc,qr k4,w61,qk,s.l1,k1r r2,sh1,sd,s3,c.sF,k1r R,sda,s4,j.sF];exact nh (q:=bT x.ask m.core=0) dd rfl rfl rfl rfl Q (K j) (λ _=>S (by omega) rfl dl) G (by decide) F (full L) l
 rw[qn k4]at hm⊢
 by_cases Z:m.k=5
 .rw [qv Z]at hm⊢;have uE:Op.ae [.ptr D 0] A=B1 (.ptr mp 0):=xv (qt s.d.row) 0;have hlen:m.line<ws.length:=by have:=(qo.1 hw).1;omega
  simp only[aa,bc,k4,Y,qr Z,qk,uE,k2r r2,lD r2];refine C3.q (Ri s.d.me h0 hlen m.d) λ v P⟨hv,hm3,J⟩=>?_;have c:=s.mem hm3 J (xw ..);have R:=ZG (D:=D) (mp:=mp) (ev:=ev) (xs:=xs) J;have⟨B,s4,j,f4⟩:=c.s0 (-1);have L:=sV R (AZ f4)
  by_cases u1:x.un.k=1
  .rw [qv u1];have sa:=Zh I.sb c0 c4;have⟨H5,s5,en5,f5⟩:=j.s1 (pH x.sh m.core);have F5:=sV L (AZ f5);simp only[aa,bc,w71,qk,s4,w73,j.l2,qr u1,j.l1,k1r L,sh1,sa,s5,w79];exact nh (q:=True) rfl rfl rfl rfl rfl Q en5 (λ _=>S (by omega) rfl (Mi I.sb c0 c4 (d:=0) (by decide) (by decide)).1) G (by decide) F (full F5) l
  .rw [qn u1];simp only[aa,bc,w71,qk,s4,w73,j.l2,u1,w79];exact nh (q:=True) rfl rfl rfl rfl rfl Q j (λ _=>S (by omega) rfl I.sb) G (by decide) F (full L) l
 rw[qn Z]at hm⊢
 by_cases k6:m.k=6
 .rw [qv k6]at hm⊢;have⟨P,s3,c,J⟩:=s.Mt 3;simp only[aa,bc,k4,Y,Z,qr k6,qk,s3,c.l0];exact nh (q:=x.ow<0) rfl rfl rfl rfl rfl Q (K c) (λ _=>S (by omega) rfl I.sb) G (by decide) F (full (AZ J)) l
 rw[qn k6]at hm⊢
 by_cases k3:m.k=3
 .rw [qv k3]at hm⊢;have uE:Op.ae [.ptr D 0] A=B1 (.ptr mp 0):=xv (qt s.d.row) 0;have hlen:m.line<ws.length:=by have:=(qo.1 hw).1;omega
  simp only[aa,bc,k4,Y,Z,k6,w86,qr k3,qk,uE,k2r r2,lD r2];refine C3.q (Ri s.d.me h0 hlen m.d) λ v P⟨hv,hm3,J⟩=>?_;have c:=s.mem hm3 J (xw ..);have R:=ZG (D:=D) (mp:=mp) (ev:=ev) (xs:=xs) J;have⟨B,s4,j,f4⟩:=c.s0 (-1);have L:=sV R (AZ f4);simp only[aa,bc,qk,s4,k1r L,k2r L,mZ,bdA];refine mI (e:=qy) (size:=11) (bytes:=88) (Own.nil B qy 11) (x:=.agg (ao ⟨16,m.core,m.line,.zero⟩)) (x9 _) (by rw[zb];exact x9 _) (by rw[zb];exact wh _) (by decide) (by omega) (by omega) λ v5 H5 hv5 hf hfr=>?_;rw[zb]at hv5;have f45:Fr Em B H5:=hf.mono λ z _ u=>absurd rfl u.1;have en5:=j.em f45;have F5:=L.trans f45 λ _ q=>q.elim;have nn:H.au<=B.au:=(full L).au;simp only[aa,bc,qk,en5.pQ];refine nh (q:=x.ph=3) rfl rfl rfl rfl rfl Q en5 (λ q=>S (by omega) rfl I.sb) (o:=[⟨16,m.core,m.line,.zero⟩]) ?_ (by simp) (λ z u=>(hfr z u).elim (λ q=>absurd rfl q.1) λ q=>by omega) (full F5) l;unfold bU
  simpa using hv5
 rw[qn k3]at hm⊢;have⟨k7,p4,pu⟩:=hm;have⟨P,s3,c,J⟩:=s.Mt 0;have⟨B,s4,j,f4⟩:=c.sU ⟨0,0,0,.zero⟩;have L:=sV (AZ (D:=D) (mp:=mp) (lv:=lv) (xs:=xs) J) (AZ f4);have hsk:=j.d.wt m.line.toNat _ a j.here;have O:=hsk.len x9;cases C:x.wt with
 |nil =>
  have O:Op.dg [a]=B1 (.int .i64 0):=by rw[O];simp only[C];rfl
  have z00:¬(0:Int)<0:=by decide
  have en4n:dv B D mp lv ev N ws xs m.line.toNat {x with ph:=0,un:=⟨0,0,0,.zero⟩,wt:=[]} a:=by rw[<-C];exact j
  simp only[aa,bc,k4,Y,Z,k6,w86,k3,qr k7,w99,qk,mZ,Ej,s3,s4,j.ij,O,z00];exact nh (q:=False) (b8:=B2) rfl rfl rfl rfl rfl Q (K en4n) (λ q=>q.elim) G (by decide) F (full L) l
 |cons n r =>
  have hn:=I.wt n (by rw[C];simp);have O:Op.dg [a]=B1 (.int .i64 ((r.length+1:Nat):Int)):=by rw[O];simp only[C];rfl
  have z01:(0:Int)<((r.length+1:Nat):Int):=by omega
  have V:Sk ao qy 11 B a (n::r):=by
   have:({x with ph:=0,un:=⟨0,0,0,.zero⟩}:De).wt=n::r:=C;rw[<-this];exact hsk
  have ix:=(V.sl x9).idx (i:=0) (x:=n) rfl (z:=0) rfl .i64;have ld:=(V.sl x9).av x9 (by decide) (i:=0) (x:=n) rfl;obtain⟨H5,e5,f45,-,g5⟩:=de B (OR (ao ⟨0,0,0,.zero⟩) qy);have st5:=ir g5 (x9 _) (x9 n) (wh n);obtain⟨H6,e6⟩:∃X,X=H5.set B.au (OR (ao n) qy):=⟨_,rfl⟩
  rw[<-e6]at st5;have g6:H6.get B.au=B1 (OR (ao n) qy):=by rw[e6,xb]
  have f46:Fr Em B H6:=by rw[e6];exact f45.set (.inr (qg _)) _
  have n6:B.au<H6.au:=by rw[e6,si,e5,xt];omega
  have en6:=j.em f46;have hsk6:=V.em f46;rcases hsk6 with⟨-,q⟩|⟨b,i,alt,rr,hsb⟩
  .cases q
  obtain⟨v7,alt',s7,U,-⟩:=hsb.off x9 (k:=1) (by simp) .i64;have s7:Op.aJ 11 [B1 0,B5,B5] [a,.int .i64 1]=B1 v7:=s7;have hon7:∀z,bm v7 z->bm a z:=λ z u=>by rw[U.Pf u];exact hsb.on
  have⟨H8,s8,en8,f8,f68⟩:=en6.wait (ys:=r) (.inr ⟨_,_,_,_,U⟩) (Fr.refl H6) (λ z u=>.inl (hon7 z u)) (by rw[U.eq];rfl);have F6:=L.trans f46 λ _ q=>q.elim;have F8:=F6.trans f8 λ z q=>.inl ((VW Q).1 q);have nev:¬B.au=aG ev:=by have:=l (aG ev) (.inr (.inr (.inr (.inl rfl))));have:=(full L).au;omega
  have l8:Op.av 11 [.ptr B.au 0] H8=B1 (.agg (ao n)):=gn (by rw[f68.ah _ n6 nev];exact g6) (x9 n);simp only[aa,bc,k4,Y,Z,k6,w86,k3,qr k7,w99,qk,mZ,Ej,s3,s4,j.ij,O,qr z01,ix,ld,<-e5,st5,en6.ij,s7,s8,l8];have⟨nk,n0,n1',nl⟩:=hn;refine C3.q (nA en8 n (w:=w) (by rw[nl];exact hw) (by rw[nl];exact h0) I.sb n0 (by omega) nk (by have:=I.ow;show x.ow<4;omega)) λ v H9⟨T,en9,f9⟩=>?_;simp only[aa,bc];refine⟨⟨_,_,rfl,T.1,λ q=>xm (full F8).au (T.2 q)⟩,v7,by rw[M0 hw];exact en9,full (sV F8 (AZ f9)),λ z u=>.inl (hon7 z u)⟩
end
end Go.Am
