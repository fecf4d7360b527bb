import Derived.Test.YtgjdmncoonceaaaGreatDoorAmFZm
import Derived.Test.YtgjdmncoonceaaaGreatDoorAmFZe
import Derived.Test.YtgjdmncoonceaaaGreatDoorAmFZa
import Derived.Test.YtgjdmncoonceaaaGreatDoorAmFZf
set_option linter.defProp false
set_option linter.unusedVariables false
set_option linter.unusedSimpArgs false
set_option linter.unusedSectionVars false
set_option maxRecDepth 100000
open Bool renaming false→B2,true→B4
open False renaming elim→NP
open Go renaming DataW→Rg,IntKind→P0,MemPlace→BI,Program→JL,TypeId→M8,Value→Li,World→MV
open Go.DataW renaming trod→Ny,weights→Bb,weightsAll→CF,weightsEach→BW
open List renaming find?_eq_none→CR,range→MT,replicate→JK
open Option renaming none→B5,some→B1
open Prod renaming snd→CD
open Nat renaming reduceEqDiff→bc
namespace Go.Am
open Lang Go.Proofs
variable{M:ak}[MK M]
section
variable{Hb H H' H5:ar}{w B k k':Nat}{cvs cvs' hv ov:AV}{bs:Bs}{own:Nat->Nat}{ks:List Ck}{V:Int->L8}{x y:Wo}{A:Ck}{c:Co}
def IW{α:Type}{l:List α}{a b:α}{i:Nat}(h:(l ++ [a])[i]? = B1 b):l[i]? = B1 b\/i=l.length/\b=a:=by
 rcases xy i l.length with q|q
 .rw [yp q]at h;exact .inl h
 .rw [z7 q]at h;obtain⟨e,rfl⟩:i-l.length=0/\a=b:=by
   cases d:i-l.length with
   |zero=>rw[d]at h;injection h with h;exact⟨rfl,h⟩
   |succ n=>rw[d]at h;cases h
  exact .inr ⟨by omega,rfl⟩
theorem fA.add(r:fA Hb H w B cvs hv bs own ks V k x)(T:dP H A.o A.p A.f A.l A.sp A.cv A.rv .nils .nili c [] k)(D:c.id=(x.cs.length:Int))(hl:x.cs.length<x.b.ns.length)(a0:∀z,z<H.au->A.o z≠0->kS H w B cvs hv bs ks z/\Hb.au<=z)
 (Z:aT po AU 1 H5 cvs' (ks.map Ck.p ++ [A.p])) (F:Fr (λ z=>z=w\/aM cvs z) H H5) (E:∀z,aM cvs' z->aM cvs z\/H.au<=z) (row:At H5 w FV (lR B cvs' hv x.n)):fA Hb H5 w B cvs' hv bs own (wide (ks ++ [A]) H.au) V k {x with cs:=x.cs ++ [c]}:=by
 have nx:=F.au;have v:∀z,(z=w\/aM cvs z)->t9 w cvs hv z:=λ z q=>q.imp id .inl;have s:∀z,t9 w cvs' hv z->t9 w cvs hv z\/H.au<=z:=λ z q=>by
  rcases q with q|q|q
  .exact .inl (.inl q)
  .exact (E z q).imp (λ q=>.inr (.inl q)) id
  .exact .inl (.inr (.inr q))
 have S:Hb.au<=H.au:=by have:=r.b.lo B (.inl rfl);have:=r.b.lt;omega
 -- whose a block is
 refine⟨row,?_,Own.fr r.hl F λ z e q=>q.elim (λ q=>r.w1.2 (by rw[<-q];exact e)) λ q=>r.w2 z q e,r.b.fr F λ z q=>⟨(r.wb z (v z q)).2,(r.wb z (v z q)).1⟩,r.I,r.C,r.U,λ j d K P h=>?_,by unfold wide;simp only[xt,xr,List.length_singleton];rw[r.kl],by show(x.cs ++ [c]).length<=_;rw[xr,List.length_singleton];exact hl,λ j K h z e=>?_,λ j Y A1 A2 e1 e2 ne z i e=>?_,λ j K h z i e=>?_,λ z e=>?_,⟨λ e=>?_,r.w1.2⟩,λ z e q=>?_⟩
 .unfold wide;rw[wg,HB];exact Z
 .obtain ⟨m,e1,rfl⟩:=Hl h;rcases IW e1 with e1|⟨ej,rfl⟩
  .have W:=(qt.1 e1).1;rcases IW P with e2|⟨e2,_⟩
   .have ⟨r1,r2⟩:=r.co j d m e2 e1;exact⟨r1.fr F (λ z i q e=>q (r.dj j m e1 z (.inr (v z e)))) (λ z i=>wq i) (qm _),r2⟩
   .rw [r.kl]at W;omega
  .rcases IW P with e2|⟨e2,rfl⟩
   .have:=(qt.1 e2).1;rw[<-r.kl]at this;omega
   .exact ⟨T.fr F (λ z i q e=>(a0 z i q).1.nw (v z e)) (λ z i=>wq i) (qm _),by rw[D,e2]⟩
 .obtain ⟨m,e1,rfl⟩:=Hl h;refine zu λ q=>?_;have⟨i,q⟩:=ot q;rcases IW e1 with e1|⟨_,rfl⟩
  .rcases e with e|e
   .exact q (r.dj j m e1 z (.inl e))
   .rcases s z e with t|t
    .exact q (r.dj j m e1 z (.inr t))
    .omega
  .obtain ⟨f,-⟩:=a0 z i q;rcases e with e|e
   .exact f.nb e
   .rcases s z e with t|t
    .exact f.nw t
    .omega
 .obtain ⟨L,R,rfl⟩:=Hl e1;obtain⟨N,O,rfl⟩:=Hl e2;have⟨g,G⟩:=ot e;refine zu λ u=>?_;obtain⟨-,u⟩:=ot u;rcases IW R with Q|⟨i1,rfl⟩
  .rcases IW O with J|⟨X,rfl⟩
   .exact u (r.d2 _ _ L N Q J ne z g G)
   .exact G ((a0 z g u).1.nc j L Q)
  .rcases IW O with J|⟨X,rfl⟩
   .exact u ((a0 z g G).1.nc Y N J)
   .omega
 .obtain ⟨m,e1,rfl⟩:=Hl h;have⟨g,q⟩:=ot e;rcases IW e1 with e1|⟨_,rfl⟩
  .exact r.lo j m e1 z g q
  .exact (a0 z g q).2
 .rcases s z e with t|t
  .exact r.wb z t
  .exact ⟨λ q=>by have:=r.b.low q;omega,by omega⟩
 .rcases E w e with t|t
  .exact r.w1.1 t
  .have:=r.row.2;omega
 .rcases E z e with t|t
  .exact r.w2 z t q
  .have:=Own.lt r.hl z q;omega
end
end Go.Am
namespace Go.Am
open Lang Go.Proofs
variable{M:ak}[MK M]
def lF(p:AV×List Int):List AV:=[p.1]
def xbg(p:AV×List Int):(lF p).length=1:=rfl
def neL(d e:L8)(H:ar):Op.eq (.agg Se) B4 [.agg (cu d),.agg (cu e)] H=B1 (.bool (!decide (d=e))):=τ _ _ _ H _ (qw d e)
noncomputable def iY(qs:List (List Int))(i:Nat):List iT:=match qs[i]? with
 |none=>[]
 |some q=>(nU q).take 1024
noncomputable def kY(l f so sf:Int)(qs:List (List Int))(n:Nat):List Co:=(MT n).map λ i:Nat=>Lp (i:Int) l (iY qs i) f so sf
noncomputable def t5(l c s wy:Int)(fs:List L8)(qs:List (List Int))(f so sf:Int):Wo:=⟨jZ l c s wy fs,kY l f so sf qs c.toNat,[],0⟩
def UD(l c s wy:Int)(fs:List L8)(n:Nat)(f so sf:Int):Prop:=(sE l c s wy/\(fs.length:Int)<=l)/\(n:Int)<=c/\(∀x,fs[0]? = B1 x->x=.zero)/\okB f so sf
def EC(l f so a:Int)(qs:List (List Int))(n:Nat):kY l f so a qs (n+1)=kY l f so a qs n ++ [Lp (n:Int) l (iY qs n) f so a]:=by
 unfold kY;rw[List.range_succ,HB];rfl
def HI(l f so a:Int)(qs:List (List Int))(n:Nat):(kY l f so a qs n).length=n:=by unfold kY;rw[xt,zy]
def ZC(H:ar)(l c s wy:Int)(fs:List L8)(qs:List (List Int))(f so sf:Int)(v:AV)(H':ar):Prop:=Fr Em H H'/\((¬UD l c s wy fs qs.length f so sf/\v=.tuple [.nilp,.int .i64 2])\/UD l c s wy fs qs.length f so sf /\ ∃Hb w B cvs bs own ks V,v=.tuple [.ptr w 0,.int .i64 0]/\H.au<=Hb.au/\fA Hb H' w B cvs .nils bs own ks V 0 (t5 l c s wy fs qs f so sf))
def xjn{H:ar}{l c s g f so F:Int}{pv fv:AV}{d:List (AV×List Int)}{fs:List L8}(hP:bV lF 1 H pv d)(hps:∀p∈d,bV gR 1 H p.1 p.2/\(p.2≠[]->aE p.1<H.au)/\p.2.length<=100000)(hF:bV cu 8 H fv fs)(hfb:fs≠[]->aE fv<H.au)(hfu:∀x∈fs,x.u) :
 zb M Uo [.agg (eB l c s g),pv,.agg [.int .i64 f,.int .i64 so,.int .i64 F],fv] H (ZC H l c s g fs (d.map CD) f so F):=by
 refine xfe ?_;obtain⟨H1,e1,f1,m1,-⟩:=cD H (OR (eB l c s g) AB);have⟨W,e2,X,m2,g2⟩:=cD H1 (OR [.int .i64 f,.int .i64 so,.int .i64 F] JJ);have g1:W.get H.au=B1 (OR (eB l c s g) AB):=by rw[X.ah _ (by omega) id,e1,xm]
 have Y:=f1.em X;have ls:=eI g1 (show(eB l c s g).length=4 from rfl);have l1:Op.ae [.ptr H.au 1] W=B1 (.int .i64 c):=yv g1 1;simp only[aa,bc,Af,<-e1,<-e2,ls];refine C3.q (xa0 l c s g (Sl.em hF Y) λ q=>qn (hfb q) Y.au) λ v b hb=>?_;have t2:¬(2:Int)=0:=by decide
 have pl:=hP.len;rcases hb with⟨hno,rfl,N⟩|⟨P,B,bs,own,rfl,hB,N⟩
 .simp only[aa,bc,Af,aw,t2];exact⟨Y.em N,.inl ⟨λ q=>hno q.1,rfl⟩⟩
 have q0:¬ ¬(0:Int)=0:=λ q=>q rfl;have sl:=hF.len;have O:b.get H.au=B1 (OR (eB l c s g) AB):=by rw[N.ah _ (by omega) id];exact g1
 have g2':b.get H1.au=B1 (OR [.int .i64 f,.int .i64 so,.int .i64 F] JJ):=by rw[N.ah _ (by omega) id];exact g2
 have K:Op.ae [.ptr H.au 1] b=B1 (.int .i64 c):=yv O 1;have F3:=Y.em N;have⟨⟨⟨lo2,lo64⟩,c1,c4⟩,hs4⟩:=P.1
 by_cases I:c<(d.length:Nat)
 .simp only[aa,bc,Af,aw,q0,pl,K,qy I];exact⟨F3,.inl ⟨λ q=>by have:=q.2.1;rw[xt]at this;omega,rfl⟩⟩
 -- behind the checks
 by_cases hfz:∃x,fs[0]? = B1 x/\x≠ .zero
 .have ⟨x,C,hxz⟩:=hfz;have hpos:(0:Int)<((fs.length:Nat):Int):=by have:=(qt.1 C).1;omega
  have ne:fs≠[]:=λ q=>by rw[q]at C;cases C
  have D:bV cu 8 b fv fs:=Sl.em hF F3;have ix:=D.idx C (z:=0) rfl .i64;have ld:=D.aq kq (by decide) C;simp only[aa,bc,Af,aw,q0,pl,K,I,sl,qy hpos,ix,ld,lZ,EJ,neL,hxz];exact⟨F3,.inl ⟨λ q=>hxz (q.2.2.1 x C),rfl⟩⟩
 have ok0:∀x,fs[0]? = B1 x->x=.zero:=λ x C=>zu λ q=>hfz ⟨x,C,q⟩
 -- the world,of no core yet
 obtain⟨H4,e4,f4,m4,-⟩:=cD b (OR (lR B .nils .nils 0) FV);have m3:=N.au;have bw:Op.build [.nilp,.nils,.nils,.int .i64 0] [(0,1)] [.ptr B 0]=B1 (.agg (lR B .nils .nils 0)):=rfl;have m:∀z,¬aM AV.nils z:=λ z q=>q.1 rfl;have wo1:∀z,t9 b.au .nils .nils z->z=b.au:=λ z q=>q.elim id λ q=>(q.elim (m z) (m z)).elim;have r4:fA W H4 b.au B .nils .nils bs own [] (λ _=>.zero) 0 ⟨jZ l c s g fs,[],[],0⟩:=⟨⟨by rw[e4,xm],by omega⟩,Own.nil ..,Own.nil ..,hB.em f4,xjz fs P.1,xjy,xj0 hfu,λ i c A h=>(by cases h),rfl,xz _,λ i A h=>(by cases h),λ i j A A' h=>(by cases h),λ i A h=>(by cases h),λ z q=>by rw[wo1 z q];exact⟨λ q=>by have:=hB.low q;omega,m3⟩,⟨m _,m _⟩,λ z q=>(m z q).elim⟩
 have l4:Op.ae [.ptr H.au 1] H4=B1 (.int .i64 c):=yv (show H4.get H.au=B1 (OR (eB l c s g) AB)by rw[f4.ah _ (by omega) id];exact O) 1;have nsl:(jZ l c s g fs).ns.length=c.toNat:=Ub ..
 by_cases hp:(0:Int)<((fs.length:Nat):Int)
 case' pos =>
  obtain⟨x,C⟩:∃x,fs[0]? = B1 x:=⟨_,xe (by omega)⟩
  have hx0:=ok0 x C;have D:bV cu 8 b fv fs:=Sl.em hF F3;have ix:=D.idx C (z:=0) rfl .i64;have ld:=D.aq kq (by decide) C;simp only[aa,bc,Af,aw,q0,pl,K,I,sl,qy hp,ix,ld,lZ,EJ,neL,qy hx0,bw,<-e4,l4]
 case' neg=>simp only[aa,bc,Af,aw,q0,pl,K,I,sl,hp,bw,<-e4,l4]
 all_goals
  refine da.intro (λ nn E t=>∃i:Nat,E=[(49,.int .i64 (i:Int)),(48,.int .i64 c),(12,.ptr b.au 0),(6,.ptr H1.au 0),(4,.ptr H.au 0),(1,pv)]/\nn=c.toNat-i/\i<=c.toNat /\ ∃cvs ks,fA W t b.au B cvs .nils bs own ks (λ _=>.zero) 0 ⟨jZ l c s g fs,kY l f so F (d.map CD) i,[],0⟩/\(∀z,aM cvs z->b.au<z)/\Fr (λ z=>b.au<=z) b t/\(0<i->okB f so F)) ?_ ?_
  .exact ⟨_,_,⟨0,rfl,rfl,xz _,.nils,[],r4,λ z q=>(m z q).elim,f4.mono λ _ _ q=>q.elim,λ q=>absurd q (HO 0)⟩,by simp only[aa,bc]⟩
  rintro nn E t ⟨i,rfl,rfl,hi,cvs,ks,r,cl,U,hbk⟩;have nX:=U.au;have rl:=r.row.2;have T:Fr Em H t:=⟨by omega,λ z zl _=>by rw[U.ah z (by omega) (by omega),N.ah z (by omega) id,Y.ah z zl id]⟩
  have gx1:t.get H.au=B1 (OR (eB l c s g) AB):=by rw[U.ah _ (by omega) (by omega)];exact O
  have gx2:t.get H1.au=B1 (OR [.int .i64 f,.int .i64 so,.int .i64 F] JJ):=by rw[U.ah _ (by omega) (by omega)];exact g2'
  rcases xy i c.toNat with hlt|hge
  .have c0:(i:Int)<c:=by omega
   have sP:bV lF 1 t pv d:=Sl.em hP T;have spl:=sP.len
   -- the code
   by_cases hq:(i:Int)<((d.length:Nat):Int)
   case' pos =>
    obtain⟨p,hp⟩:∃p,d[i]? = B1 p:=⟨_,xe (by omega)⟩
    have⟨h1,h2,h3⟩:=hps p (zd hp);have ix:=sP.idx hp (z:=(i:Int)) rfl .i64;have ld:Op.ae [.ptr (aE pv) (cM 1 pv i)] t=B1 p.1:=sP.kW xbg hp (by decide);have ec:iY (d.map CD) i=(nU p.2).take 1024:=by unfold iY;rw[xp,hp];rfl
    simp only[aa,bc,Af,qy c0,spl,qy hq,ix,ld];refine C3.q (xdf (Sl.em h1 T) (λ q=>qn (h2 q) T.au) (Sl.one h1) h3) λ a H5⟨oa,la,f5⟩=>?_;have ha:bV fZ 5 H5 a (iY (d.map CD) i):=by rw[ec];exact aT.sl oa
    have gy1:H5.get H.au=B1 (OR (eB l c s g) AB):=by rw[f5.ah _ (by omega) id];exact gx1
    have gy2:H5.get H1.au=B1 (OR [.int .i64 f,.int .i64 so,.int .i64 F] JJ):=by rw[f5.ah _ (by omega) id];exact gx2
    have Q:Op.ae [.ptr H.au 0] H5=B1 (.int .i64 l):=yv gy1 0;have R:=eI gy2 (n:=3) rfl;simp only[aa,bc,Af,Q,R]
   case' neg =>
    obtain⟨H5,e5⟩:∃Z,Z=t:=⟨_,rfl⟩
    have f5:Fr Em t H5:=e5▸Fr.refl _;have ec:iY (d.map CD) i=[]:=by unfold iY;rw[xp,jg (by omega)];rfl
    have ha:bV fZ 5 H5 .nils (iY (d.map CD) i):=by rw[ec];exact⟨rfl,rfl⟩
    have Q:Op.ae [.ptr H.au 0] t=B1 (.int .i64 l):=yv gx1 0;have R:=eI gx2 (n:=3) rfl;simp only[aa,bc,Af,qy c0,spl,hq,Q,R];rw[<-e5]
   all_goals
    have cl5:(iY (d.map CD) i).length<=1024:=by
     unfold iY;split
     .exact xz _
     .rw [ya];omega
    refine C3.q (xa7 (id:=(i:Int)) (ln:=l) (f:=f) (s:=so) (o:=F) ha) λ v H6⟨hq6,f6⟩=>?_;have G:=f5.em f6;have n6:=G.au;have n5:=f5.au;rcases hq6 with⟨hok6,p6,fl6,l6,sp6,cv6,rfl,hp6,ht6⟩|⟨hno6,rfl⟩
    .have ⟨o6,ho6,hc6⟩:=ht6 λ _=>0;have S:=r.em G;have J:=S.kl;have L:(kY l f so F (d.map CD) i).length=i:=HI ..;have J:(wide ks t.au).length=i:=J.trans L;simp only[aa,bc,Af,aw,q0,S.bj];refine aT.rz (bytes:=8) S.cl (x:=.ptr p6 0) (a:=p6) rfl rfl rfl rfl (by decide) (by rw[xt,J];omega) (by rw[xt,J];omega) λ v' H7 o7 f7 hz=>?_;have one':aB v'=true:=Sl.one (Own.sl o7);have a7:At H7 b.au FV (lR B cvs .nils 0):=S.row.fr f7 S.w1.1;obtain⟨H8,e8⟩:∃Z,Z=H7.set b.au (OR (lR B v' .nils 0) FV):=⟨_,rfl⟩
     have s8:Op.store 1 [.ptr b.au 1,v'] H7=B1 (.undef,H8):=by rw[a7.st 1 one' (by show 1<4;decide),e8];rfl
     have f8:Fr (On b.au) H7 H8:=e8▸cm ..;have F8:Fr (λ z=>z=b.au\/aM cvs z) H6 H8:=(f7.mono λ z _ q=>.inr q).trans f8 λ z q=>.inl (.inl q);have vw:∀z,aM v' z->b.au<z:=λ z q=>(hz z q).elim (cl z) λ q=>by omega
     have wi:aj .i64 ((i:Int)+1)=((i+1:Nat):Int):=by rw[ji (by omega) (by omega)];omega
     have r8:=S.add (A:=⟨p6,fl6,l6,sp6,cv6,.nils,o6⟩) hc6 (by show(i:Int)=_;rw[L]) (by show(kY ..).length<(jZ l c s g fs).ns.length;rw[L,nsl];exact hlt) (λ z zl q=>by
      have:H5.au<=z:=Nat.le_of_not_lt λ e=>q ((ho6 z e).trans rfl);exact⟨r.new (by omega) zl,by omega⟩) (Own.fr o7 f8 λ z q(e:z=b.au)=>by have:=vw z q;omega) F8 hz (by rw[e8];exact a7.set _)
     simp only[aa,bc,Af,s8,wi];exact⟨_,_,⟨i+1,rfl,rfl,hlt,v',_,by rw[EC];exact r8,vw,(U.trans (G.mono (W':=λ z=>b.au<=z) λ _ _ q=>q.elim) λ z q=>.inl q).trans F8 λ z q=>.inl (q.elim (λ q=>by omega) λ q=>Nat.le_of_lt (cl z q)),λ _=>hok6.1⟩,by simp only[aa,bc],by omega⟩
    .simp only[aa,bc,Af,aw,t2];exact⟨T.em G,.inl ⟨λ q=>hno6 ⟨q.2.2.2,by omega,by omega,cl5,by omega,by omega⟩,rfl⟩⟩
  .have ie:i=c.toNat:=by omega
   have c0:¬(i:Int)<c:=by omega
   simp only[aa,bc,Af,c0];exact⟨T,.inr ⟨⟨P,by rw[xt];omega,ok0,hbk (by omega)⟩,W,b.au,B,cvs,bs,own,ks,_,rfl,by omega,by rw[ie]at r;exact r⟩⟩
end Go.Am
namespace Go.Am
open Go.RowKit
section
variable{P:JL}
def Wt(P:JL)(t:M8){Hh:Type}(d:Rg Hh):Prop:=∀x∈Bb P t d,x<=reachBytes
theorem Ψ{a:Type}{e:M8}{x:Nat}{d:Rg a}:∀{l:List (Rg a)},d∈l->x∈Bb P e d->x∈CF P e l
 |y::l,h,hx=>by
  rw[CF,z6];rcases j7.1 h with rfl|h
  .grind
  .exact .inr (Ψ h hx)
def pA(P:JL)(t:M8)(R:ar->List AV->Prop):Prop :=
 (∀H H' l,R H l->Fr Em H H'->R H' l) /\ ∀{Hh:Type}(enc:M8×Li->Hh)(W:MV)(held:Bool)(fuel:Nat)(cs:List Li)(d:Rg Hh)(ps:List BI),
  Ny enc P W 0 (λ _=>B4) held fuel t cs=B1 (d,ps)->Wt P t d -> ∀(θ:Th)(n:Nat)(gl:GL),Good W θ n gl -> ∃θ' n' gl' l,Step W θ n gl θ' n' gl'/\bL (Lt n') θ' l cs/\R (vd gl' n') l
def XU.I4{t:M8}{R:ar->List AV->Prop}(h:XU P t R):pA P t R:=⟨h.1,λ enc W held fuel cs d c a _=>h.2 enc W held fuel cs d c a⟩
def _E{e:M8}{R:ar->List AV->Prop}(hR:pA P e R){o:Type}(enc:M8×Li->o)(W:MV)(held:Bool)(fuel:Nat):∀(a:List (List Li)),(∀cs∈a,∃x,Ny enc P W 0 (λ _=>B4) held fuel e cs=B1 x/\Wt P e x.1) ->
 ∀(θ:Th)(n:Nat)(c:GL),Good W θ n c -> ∃(θ':Th)(n':Nat)(d:GL)(ls:List (List AV)),Step W θ n c θ' n' d/\bL (Lt n') θ' ls.flatten a.flatten/\ls.length=a.length /\ ∀(i:Nat)l cs,ls[i]? = B1 l->a[i]? = B1 cs->R (vd d n') l/\l.length=cs.length
 |[],_,θ,n,c,hg=>⟨θ,n,c,[],Step.refl hg,.nil,rfl,λ i l cs h=>by grind⟩
 |cs::a,h,θ,n,c,hg=>by
  have⟨x,r,hw⟩:=h cs (by simp);have⟨θ1,n1,f,l,s1,v1,t⟩:=hR.2 enc W held fuel cs x.1 x.2 r hw θ n c hg;have⟨θ2,n2,g,ls,s2,v2,v,z⟩:=_E hR enc W held fuel a (by grind) θ1 n1 f s1.dh;refine⟨θ2,n2,g,l::ls,s1.trans s2,?_,by grind,λ i u cs' j m=>?_⟩
  .rw [List.flatten_cons,List.flatten_cons];exact(v1.up s2.ag λ b hb=>qn hb s2.le).app v2
  .cases i with
   |zero =>
    simp at j m;subst j;subst m;exact⟨hR.1 _ _ _ t s2.fr,v1.length.symm⟩
   |succ i=>grind
def SlW(P:JL)(e:M8)(R:ar->List AV->Prop)(size:Nat)(H:ar)(u:AV):Prop:=HN R size H u /\ ∀k,eR u=B1 k->k*P.bytesOf e<=reachBytes
def R8{t e:M8}{R:ar->List AV->Prop}(ht:P.underlying t=B1 (.slice e))(hR:pA P e R)(hs:0<P.cellsOf e):pA P t λ H l=>∃u,l=[u]/\SlW P e R (P.cellsOf e) H u:=by
 refine⟨λ H H' l⟨u,v,h2,h3⟩f=>⟨u,v,h2.em hR.1 f,h3⟩,?_⟩;intro Hh enc W held fuel kY d ps h Q θ n gl hg;cases fuel with
 |zero=>cases h
 |succ f =>
  have key:kY=[.slice B5 0 0] \/ ∃a len cap,kY=[.slice (B1 a) len cap]/\len<=cap/\(∀i,i<len -> ∃cs x,W.cells? 0 (a.add (i*P.cellsOf e)) (P.cellsOf e)=B1 cs/\Ny enc P W 0 (λ _=>B4) held f e cs=B1 x/\Wt P e x.1)/\len*P.bytesOf e<=reachBytes/\(len<cap -> ∃cs,W.cells? 0 (a.add (len*P.cellsOf e)) (P.cellsOf e)=B1 cs):=by
   simp only[Ny,ht]at h;split at h<;>first|(cases h;done)|skip
   all_goals first|(rename_i v;cases v;done)|skip
   .left;rfl
   .right;rename_i e' a len cap v;injection v with v;cases v
    split at h
    .rename_i hb;simp only[qj,uE,xq]at h;have⟨elems,he,rest,j,K⟩:=h;injection K with K _
     have hw1:=Q ((elems.length+rest.length)*P.bytesOf e) (by grind [Bb]);have hel0:elems.length=len:=by have:=mapM_some_length he;simpa using this
     refine⟨a,len,cap,rfl,hb.2.1,λ i S=>?_,(by grind),λ hlt=>?_⟩
     .have hl:=mapM_some_length he;have:=mapM_some_get he i i (by grind);have A:i<elems.length:=by omega
      rw[xe A]at this;have⟨cs,r,E⟩:=qj.1 this;refine⟨cs,_,r,E,λ x hx=>Q x ?_⟩
      grind [Bb,Ψ,List.mem_map_of_mem,List.getElem_mem]
     .have hl:=mapM_some_length j;have:=mapM_some_get j 0 0 (by grind);have A:0<rest.length:=by grind
      rw[xe A,AY]at this
      grind [qj]
    .cases h
  rcases key with rfl|⟨a,len,cap,rfl,hlc,X,I,j⟩
  .exact ⟨θ,n,gl,[.nils],Step.refl hg,λ _ _=>rfl,.nils,rfl,⟨[],by simp,⟨by simp,rfl⟩,.inl rfl⟩,(λ k hk=>by cases hk;simp)⟩
  .have ⟨k,o,s⟩:=a
   by_cases h0:cap=0
   .subst h0;have:len=0:=by omega
    subst this;have hst:=Step.PA hg k o (tq s);refine⟨_,_,_,[.eslice n],hst,.one ?_,.eslice n,rfl,⟨[],by simp,⟨by simp,rfl,zp n⟩,.inr (zp n)⟩,(λ k hk=>by cases hk;simp)⟩;intro θ' hθ;have⟨r,E,q3⟩:=θ.eK n k o (tq s);have⟨r1,r2,r3⟩:=hθ n (zp n)
    grind [az,Fe]
   .have Z:s=none:=by
     by_cases C:len=0
     .subst C;have⟨cs,z⟩:=j (by omega);rw[DQ]at z;exact d_ hs (by simpa[Addr.add]using z)
     .have ⟨cs,x,z,_,_⟩:=X 0 (by omega);rw[DQ]at z;exact d_ hs (by simpa[Addr.add]using z)
    subst Z
    by_cases C:len=0
    .subst C;refine⟨_,_,_,[.slice n 0 0 cap],Step.bare hg k o,.one ?_,.slice n 0 0 cap,rfl,⟨[],by simp,⟨by simp,rfl,xz _,.inl rfl⟩,.inr (zp n)⟩,(λ k hk=>by cases hk;simp)⟩;have:=VR.slice (D:=Lt (n+1)) (θ:=θ.add n k o 0) (b:=n) (o:=0) (n:=0) (c:=cap) (zp n:Lt (n+1) n);have⟨r,E,_⟩:=θ.eK n k o 0
     grind [az]
    .have hex:∀i:Nat,∃cs,i<len->W.cells? 0 ⟨k,o+i*P.cellsOf e,B5⟩ (P.cellsOf e)=B1 cs /\ ∃x,Ny enc P W 0 (λ _=>B4) held f e cs=B1 x/\Wt P e x.1:=λ i=>by
      by_cases S:i<len
      .grind [xY]
      .exact ⟨[],λ h=>(S h).elim⟩
     have⟨F,hF⟩:=Classical.axiomOfChoice hex
     let css:=(MT len).map F
     have hcl:css.length=len:=by grind
     have hcg:∀(i:Nat)c,css[i]? = B1 c->i<len/\c=F i:=λ i c z=>by
      grind
     have⟨arr,e',fz,hh,_,_⟩:=XX hs (hF 0 (by omega)).1;have⟨arr',e2,fz2,g,_,hle⟩:=XX hs (hF (len-1) (by omega)).1;rw[hh]at g;injection g with g;injection g with r E q3;subst r
     have hmul:(len-1)*P.cellsOf e+P.cellsOf e=len*P.cellsOf e:=by rw[<-yt];grind
     have O:∀(i:Nat)c,css[i]? = B1 c->c=(arr.toList.drop (o+i*P.cellsOf e)).take (P.cellsOf e)/\c.length=P.cellsOf e:=λ i c z=>by
      grind [XX]
     have J:css.flatten=(arr.toList.drop o).take (len*P.cellsOf e):=by grind [nu]
     have⟨θ1,n1,U,ls,s1,v1,l1,r1⟩:=_E hR enc W held f css (by grind) θ n gl hg;rw[J]at v1;have hsz:o+len*P.cellsOf e<=arr.size:=by omega
     have N:ls.length=len:=by omega
     have Y:ls.flatten.length=len*P.cellsOf e:=by rw[<-v1.length,ya,yw,Array.length_toList];omega
     have m:=Step.row (l:=ls.flatten) (k:=k) (off:=o) (pre:=arr.toList.take o) (cs:=(arr.toList.drop o).take (len*P.cellsOf e)) (post:=arr.toList.drop (o+len*P.cellsOf e)) (e:=e') (fz:=fz) s1.dh (by
      rw[hh];congr 2;have hq:arr.toList.take o++(arr.toList.drop o).take (len*P.cellsOf e)++arr.toList.drop (o+len*P.cellsOf e)=arr.toList:=by
       grind [Fv,vg]
      rw[hq]) (by grind) v1
     refine⟨_,_,_,[.slice n1 0 len cap],s1.trans m,.one ?_,.slice n1 0 len cap,rfl,⟨ls,λ l hl=>?_,⟨by grind,N.symm,by omega,.inr ⟨zp n1,ls.flatten,xb (fz:=(0,0)) (e:=0) (ow:=B2) ?_,?_⟩⟩,.inr (zp n1)⟩,λ k hk=>by cases hk;exact I⟩
     .have:=VR.slice (D:=Lt (n1+1)) (θ:=θ1.add n1 k o 0) (b:=n1) (o:=0) (n:=len) (c:=cap) (zp n1:Lt (n1+1) n1);have⟨r,E,_⟩:=θ1.eK n1 k o 0
      grind [az]
     .have ⟨i,S⟩:=List.mem_iff_getElem?.1 hl;have L:i<css.length:=by grind
      have⟨r,E⟩:=r1 i l css[i] S (by simp[L]);exact⟨hR.1 _ _ _ r m.fr,by rw[E];exact(O i _ (by simp[L])).2⟩
     .show (FB ((n1,ls.flatten)::U) .nil).get n1=_;rw[FB,T.aJ,xg rfl]
     .rw [N,uJ,xg (by omega),yo,ze (by omega)]
def yZ:List (ar->List AV->Prop)->ar->List AV->Prop
 |[],_,l=>l=[]
 |R::Rs,H,l=>∃a b,l=a++b/\R H a/\yZ Rs H b
def yZ.em:∀{Rs:List (ar->List AV->Prop)},(∀R∈Rs,∀H H' l,R H l->Fr Em H H'->R H' l) -> ∀H H' l,yZ Rs H l->Fr Em H H'->yZ Rs H' l
 |[],_,_,_,_,h,_=>h
 |R::Rs,hm,H,H',l,⟨a,b,h1,h2,h3⟩,f=>⟨a,b,h1,hm R (by simp) _ _ _ h2 f,yZ.em (λ S c=>hm S (by grind)) _ _ _ h3 f⟩
def UR{r:Type}(enc:M8×Li->r)(W:MV)(held:Bool)(fuel:Nat){cs:List Li}:∀{fs:List (M8×Nat×(ar->List AV->Prop))}{k:Nat}{xs:List (Rg r×List BI)},
 (∀f∈fs,pA P f.1 f.2.2)->(∀(j:Nat)f,fs[j]? = B1 f->f.2.1=k+((fs.take j).map λ f=>P.cellsOf f.1).sum) ->
 fs.mapM (λ f=>Ny enc P W 0 (λ _=>B4) held fuel f.1 ((cs.drop f.2.1).take (P.cellsOf f.1)))=B1 xs->(∀x∈BW P (fs.map (·.1)) (xs.map (·.1)),x<=reachBytes) ->
 k+(fs.map λ f=>P.cellsOf f.1).sum<=cs.length -> ∀(θ:Th)(n:Nat)(c:GL),Good W θ n c ->
 ∃θ' n' d l,Step W θ n c θ' n' d/\bL (Lt n') θ' l ((cs.drop k).take ((fs.map λ f=>P.cellsOf f.1).sum))/\yZ (fs.map (·.2.2)) (vd d n') l
 |[],k,xs,_,_,_,_,_,θ,n,c,hg=>⟨θ,n,c,[],Step.refl hg,by simpa using bL.nil,rfl⟩
 |f::fs,k,xs,hf,ho,hm,hw,hl,θ,n,c,hg=>by
  simp only[List.mapM_cons,Option.bind_eq_bind,qj,Option.pure_def,qk]at hm;obtain⟨y,u,ys,o,rfl⟩:=hm;simp only[j6,BW,z6]at hw;have t:f.2.1=k:=by have:=ho 0 f rfl;simpa using this
  have⟨θ1,n1,e,a,s1,v1,v⟩:=(hf f (by simp)).2 enc W held fuel _ y.1 y.2 u (λ x m=>hw x (.inl m)) θ n c hg;simp only[j6,List.sum_cons]at hl;have⟨θ2,n2,h,b,s2,v2,z⟩:=UR enc W held fuel (cs:=cs) (fs:=fs) (k:=k+P.cellsOf f.1) (by grind) (λ j g hg=>by
   have:=ho (j+1) g (by simpa using hg)
   grind) o (λ x m=>hw x (.inr m)) (by omega) θ1 n1 e s1.dh
  refine⟨θ2,n2,h,a++b,s1.trans s2,?_,a,b,rfl,(hf f (by simp)).1 _ _ _ v s2.fr,z⟩;rw[t]at v1;rw[j6,List.sum_cons,List.take_add,Fv];exact(v1.up s2.ag λ b hb=>qn hb s2.le).app v2
def FX{H:Type}{g:M8->List Li->Option (Rg H×List BI)}{cs:List Li}:∀{fs:List Field}{Rs:List (ar->List AV->Prop)},fs.length=Rs.length ->
 fs.mapM (λ f=>g f.type ((cs.drop f.offset).take (P.cellsOf f.type)))=((fs.zip Rs).map λ x=>(x.1.type,x.1.offset,x.2)).mapM (λ f=>g f.1 ((cs.drop f.2.1).take (P.cellsOf f.1)))
 |[],[],_=>rfl
 |f::fs,R::Rs,h=>by simp only[List.zip_cons_cons,j6,List.mapM_cons,FX (fs:=fs) (Rs:=Rs) (by simpa using h)]
def Xi{t:M8}{fs:Array Field}{Rs:List (ar->List AV->Prop)}(h:P.underlying t=B1 (.struct fs))(hn:fs.toList.length=Rs.length)(hR:∀x∈fs.toList.zip Rs,pA P x.1.type x.2)
 (ho:Fj P 0 fs.toList=B4) (J:(fs.toList.map λ f=>P.cellsOf f.type).sum=P.cellsOf t):pA P t λ H l=>yZ Rs H l:=by
 refine⟨yZ.em λ R e=>?_,?_⟩
 .have ⟨i,K⟩:=List.mem_iff_getElem?.1 e;have A:i<fs.toList.length:=by grind
  have D:(fs.toList.zip Rs)[i]? = B1 (fs.toList[i],R):=by grind
  exact(hR _ (zd D)).1
 intro E enc W held fuel cs d N c m θ n u hg;cases fuel with
 |zero=>cases c
 |succ f =>
  have hlen:cs.length=P.cellsOf t /\ ∃xs,fs.toList.mapM (λ g=>Ny enc P W 0 (λ _=>B4) held f g.type ((cs.drop g.offset).take (P.cellsOf g.type)))=B1 xs /\ ∀x∈BW P (fs.toList.map (·.type)) (xs.map (·.1)),x<=reachBytes:=by
   simp only[Ny,h]at c;split at c
   .rename_i hl;have⟨xs,hm,a⟩:=xq.1 c;injection a with a _
    exact⟨hl,xs,hm,λ x L=>m x (by grind [Bb])⟩
   grind
  have⟨hl,xs,hm,hw⟩:=hlen;rw[FX (Rs:=Rs) hn]at hm;have e1:((fs.toList.zip Rs).map λ x=>(x.1.type,x.1.offset,x.2)).map (λ f=>P.cellsOf f.1)=fs.toList.map λ f=>P.cellsOf f.type:=by
   rw[wg];have:((fs.toList.zip Rs).map λ x=>P.cellsOf x.1.type)=(fs.toList.zip Rs |>.map Prod.fst).map λ f=>P.cellsOf f.type:=by simp_all
   rw[List.map_fst_zip (by omega)]at this;exact this
  have I:((fs.toList.zip Rs).map λ x=>(x.1.type,x.1.offset,x.2)).map (·.1)=fs.toList.map (·.type):=by
   rw[wg];have:((fs.toList.zip Rs).map λ x=>x.1.type)=(fs.toList.zip Rs |>.map Prod.fst).map (·.type):=by simp_all
   rw[List.map_fst_zip (by omega)]at this;exact this
  have e2:((fs.toList.zip Rs).map λ x=>(x.1.type,x.1.offset,x.2)).map (·.2.2)=Rs:=by
   rw[wg];have:((fs.toList.zip Rs).map λ x=>x.2)=Rs:=by grind [List.map_snd_zip]
   exact this
  have⟨θ',n',z,l,s,v,r⟩:=UR enc W held f (cs:=cs) (k:=0) (fs:=(fs.toList.zip Rs).map λ x=>(x.1.type,x.1.offset,x.2)) (by grind) (λ j g hg=>by
   simp only[xp,xq,List.getElem?_zip_eq_some]at hg;obtain⟨x,⟨o,C⟩,rfl⟩:=hg;have:=ad6 ho j x.1 o;simp_all) hm (by grind) (by grind) θ n u hg
  grind
end
end Go.Am
namespace Go.Am
open Go.RowKit
section
variable{P:JL}
def pA.imp{t:M8}{R a:ar->List AV->Prop}(h:pA P t R)(hm:∀H H' l,a H l->Fr Em H H'->a H' l)(f:∀H l,R H l->a H l):pA P t a :=
 ⟨hm,λ enc W held fuel cs d j g hw θ n e hg=>by
  obtain⟨θ',n',c,l,s,v,r⟩:=h.2 enc W held fuel cs d j g hw θ n e hg;exact⟨θ',n',c,l,s,v,f _ _ r⟩⟩
def SN{α β:Type}{f:α->M8}{Q:M8 -> β->Prop}:∀(l:List α)(R:List β),(∀x∈(l.map f).zip R,Q x.1 x.2) -> ∀x∈l.zip R,Q (f x.1) x.2
 |[],_,_,x,h=>by simp at h
 |_::_,[],_,x,h=>by simp at h
 |a::l,b::R,hq,x,h=>by
  rcases j7.1 h with rfl|h
  .exact hq (f a,b) (by simp)
  .exact SN l R (λ y c=>hq y (by simp[c])) x h
def Xw{tS d:M8}{fs:Array Field}{n:Nat}(uS:P.underlying tS=B1 (.struct fs))(a:fs.toList.map (·.type)=JK n d)(uN:P.underlying d=B1 (.int .i64))(h:Fj P 0 fs.toList=B4)(j:(fs.toList.map λ f=>P.cellsOf f.type).sum=P.cellsOf tS) :
 pA P tS λ H l=>yZ (JK n λ _ l=>jV .i64 l) H l:=by
 have hn:fs.toList.length=n:=by have:=congrArg List.length a;simpa using this
 refine Xi uS (by rw[hn];simp) (SN (f:=Field.type) (Q:=pA P) _ _ ?_) h j;rw[a];intro x c;have e:=(List.of_mem_zip c).1;have g:=(List.of_mem_zip c).2;rw[vp e,vp g];exact(II (Jt uN)).I4
end
end Go.Am
namespace Go.Am
open Go.RowKit Lang
section
variable{P:JL}
def Ws(l c s w:Int)(pv:AV)(f so sf:Int)(fv:AV):List AV:=[.int .i64 l,.int .i64 c,.int .i64 s,.int .i64 w,pv,.int .i64 f,.int .i64 so,.int .i64 sf,fv]
def vE(H:ar)(u:AV):Prop:=u=.nils\/aE u<H.au
def vE.em{H H':ar}{u:AV}(h:vE H u)(f:H.au<=H'.au):vE H' u:=h.imp id λ q=>qn q f
def vE.lt{α:Type}{enc:α->List AV}{size:Nat}{H:ar}{u:AV}{xs:List α}(h:vE H u)(hs:bV enc size H u xs)(a:xs≠[]):aE u<H.au:=by
 rcases h with rfl|h
 .exact (a (ku.1 hs.2)).elim
 .exact h
def HN.ltB{R:ar->List AV->Prop}{size:Nat}{H:ar}{u:AV}(h:HN R size H u):vE H u:=by
 have⟨_,_,_,q⟩:=h;exact q
def kJ(H:ar)(u:List AV):Prop:=∃l c s w f so sf pv fv ps fs,u=Ws l c s w pv f so sf fv/\bV lF 1 H pv ps/\(∀p∈ps,bV gR 1 H p.1 p.2/\Bytes p.2/\vE H p.1/\p.2.length<=reachBytes)/\bV cu 8 H fv fs/\(∀x∈fs,x.u)/\vE H fv/\ps.length<=reachBytes
def kJ.em{H H':ar}{u:List AV}(h:kJ H u)(fr:Fr Em H H'):kJ H' u:=by
 have⟨l,c,s,w,f,so,r,pv,fv,o,fs,d,e,a,g,j,m,n⟩:=h;exact⟨l,c,s,w,f,so,r,pv,fv,o,fs,d,e.em fr,λ p q=>⟨(a p q).1.em fr,(a p q).2.1,(a p q).2.2.1.em fr.au,(a p q).2.2.2⟩,g.em fr,j,m.em fr.au,n⟩
def wf_u8{a:Int}(h:(Lit.int .u8 a).wf=B4):0<=a/\a<256:=by
 simp[Lit.wf,P0.min,P0.max,IntKind.bits,IntKind.signed]at h;omega
def wf_u64{a:Int}(h:(Lit.int .u64 a).wf=B4):fF a:=by
 simp[Lit.wf,P0.min,P0.max,IntKind.bits,IntKind.signed]at h;unfold fF;omega
def xl1{tC tB:M8}(j:P.underlying tC=B1 (.slice tB))(uY:P.underlying tB=B1 (.int .u8))(m:P.cellsOf tB=1)(o:0<P.bytesOf tB):pA P tC λ H l=>∃u,l=[u] /\ ∃bs:List Int,bV gR 1 H u bs/\Bytes bs/\vE H u/\bs.length<=reachBytes:=by
 refine(R8 j (II (Jt uY)).I4 (by rw[m];decide)).imp ?_ λ H l h=>?_
 .rintro H H' l ⟨u,c,xs,e,d,g,r⟩ f;exact⟨u,c,xs,e.em f,d,g.em f.au,r⟩
 .obtain ⟨u,rfl,c,e⟩:=h;have lt:=HN.ltB c;rw[m]at c;have⟨xs,d,g⟩:=TR (enc:=gR) (Q:=λ x=>0<=x/\x<256) (λ l h=>by
   obtain⟨a,rfl,n⟩:=h;exact⟨a,rfl,by have:=wf_u8 n;omega⟩) c
  exact⟨u,rfl,xs,d,g,lt,xw (Nat.le_mul_of_pos_right _ o) (e _ (Sl.eR d))⟩
def xl3{tM tS tK tC tY tB tF tL t tU:M8}{ms ss bs:Array Field}(uM:P.underlying tM=B1 (.struct ms))(J:ms.toList.map (·.type)=[tS,tK,tB,tF])(uS:P.underlying tS=B1 (.struct ss))(S:ss.toList.map (·.type)=[t,t,t,t])
 (uK:P.underlying tK=B1 (.slice tC)) (D:P.underlying tC=B1 (.slice tY)) (uY:P.underlying tY=B1 (.int .u8)) (uB:P.underlying tB=B1 (.struct bs)) (O:bs.toList.map (·.type)=[t,t,t]) (Z:P.underlying tF=B1 (.slice tL)) (uL:P.underlying tL=B1 (.array 8 tU)) (uU:P.underlying tU=B1 (.int .u64)) (uN:P.underlying t=B1 (.int .i64))
 (E:P.cellsOf tC=1) (L:P.cellsOf tY=1) (bY:0<P.bytesOf tY) (bC:0<P.bytesOf tC) (I:P.cellsOf tL=8) (K:8*P.cellsOf tU=P.cellsOf tL) (T:Fj P 0 ms.toList=B4) (X:(ms.toList.map λ f=>P.cellsOf f.type).sum=P.cellsOf tM) (U:Fj P 0 ss.toList=B4) (Y:(ss.toList.map λ f=>P.cellsOf f.type).sum=P.cellsOf tS)
 (oB:Fj P 0 bs.toList=B4) (W:(bs.toList.map λ f=>P.cellsOf f.type).sum=P.cellsOf tB):pA P tM kJ:=by
 have hm:ms.toList.length=4:=by have:=congrArg List.length J;simpa using this
 have C:pA P tK λ H l=>∃u,l=[u] /\ ∃o:List (AV×List Int),bV lF 1 H u o/\(∀p∈o,bV gR 1 H p.1 p.2/\Bytes p.2/\vE H p.1/\p.2.length<=reachBytes)/\o.length<=reachBytes:=by
  refine(R8 uK (xl1 D uY L bY) (by rw[E];decide)).imp ?_ λ H l h=>?_
  .rintro H H' l ⟨u,m,xs,r,j⟩ f;exact⟨u,m,xs,r.em f,λ p q=>⟨(j.1 p q).1.em f,(j.1 p q).2.1,(j.1 p q).2.2.1.em f.au,(j.1 p q).2.2.2⟩,j.2⟩
  .obtain ⟨u,rfl,m,r⟩:=h;rw[E]at m;have⟨xs,j,v⟩:=TR (enc:=lF) (Q:=λ p=>bV gR 1 H p.1 p.2/\Bytes p.2/\vE H p.1/\p.2.length<=reachBytes) (λ l h=>by
    obtain⟨u,rfl,b,h⟩:=h;exact⟨(u,b),rfl,h⟩) m
   exact⟨u,rfl,xs,j,v,xw (Nat.le_mul_of_pos_right _ bC) (r _ (Sl.eR j))⟩
 have R:pA P tF λ H l=>∃u,l=[u] /\ ∃fs:List L8,bV cu 8 H u fs/\(∀x∈fs,x.u)/\vE H u:=by
  refine(R8 Z (II (xhq uL (Jt uU) K)).I4 (by rw[I];decide)).imp ?_ λ H l h=>?_
  .rintro H H' l ⟨u,m,xs,r,j,v⟩ f;exact⟨u,m,xs,r.em f,j,v.em f.au⟩
  .obtain ⟨u,rfl,m,r⟩:=h;have lt:=HN.ltB m;rw[I]at m;have⟨xs,j,v⟩:=TR (enc:=cu) (Q:=λ x=>x.u) (λ l h=>by
    obtain⟨_,_,rfl,⟨a,rfl,qa⟩,_,_,rfl,⟨b,rfl,qb⟩,_,_,rfl,⟨c,rfl,qc⟩,_,_,rfl,⟨d,rfl,qd⟩,_,_,rfl,⟨e,rfl,qe⟩,_,_,rfl,⟨f,rfl,qf⟩,_,_,rfl,⟨g,rfl,qg⟩,_,_,rfl,⟨i,rfl,qi⟩,rfl⟩:=h;refine⟨⟨[a,b,c,d,e,f,g,i],rfl⟩,rfl,?_⟩;intro x z;have z:x∈[a,b,c,d,e,f,g,i]:=z;simp only[j7,LM,or_false]at z;rcases z with rfl|rfl|rfl|rfl|rfl|rfl|rfl|rfl<;>(refine wf_u64 ?_;assumption)) m
   exact⟨u,rfl,xs,j,v,lt⟩
 refine(Xi (Rs:=[λ H l=>yZ (JK 4 λ _ l=>jV .i64 l) H l,λ H l=>∃u,l=[u] /\ ∃o:List (AV×List Int),bV lF 1 H u o/\(∀p∈o,bV gR 1 H p.1 p.2/\Bytes p.2/\vE H p.1/\p.2.length<=reachBytes)/\o.length<=reachBytes,λ H l=>yZ (JK 3 λ _ l=>jV .i64 l) H l,λ H l=>∃u,l=[u] /\ ∃fs:List L8,bV cu 8 H u fs/\(∀x∈fs,x.u)/\vE H u]) uM (by rw[hm];rfl)
  (SN (f:=Field.type) (Q:=pA P) _ _ (by
   rw[J];intro x z;simp only[List.zip_cons_cons,List.zip_nil_right,j7,LM,or_false]at z;rcases z with rfl|rfl|rfl|rfl
   .exact Xw (n:=4) uS S uN U Y
   .exact C
   .exact Xw (n:=3) uB O uN oB W
   .exact R)) T X).imp ?_ λ H l h=>?_
 .exact λ H H' u h fr=>h.em fr
 .obtain ⟨_,_,rfl,⟨_,_,rfl,⟨a,rfl,_⟩,_,_,rfl,⟨b,rfl,_⟩,_,_,rfl,⟨c,rfl,_⟩,_,_,rfl,⟨d,rfl,_⟩,rfl⟩,_,_,rfl,⟨pv,rfl,o,m,r,A⟩,_,_,rfl,⟨_,_,rfl,⟨e,rfl,_⟩,_,_,rfl,⟨f,rfl,_⟩,_,_,rfl,⟨g,rfl,_⟩,rfl⟩,_,_,rfl,⟨fv,rfl,fs,j,v,N⟩,rfl⟩:=h;exact⟨a,b,c,d,e,f,g,pv,fv,o,fs,rfl,m,r,j,v,N,A⟩
end
end Go.Am
namespace Go.Am
open Lang Go.Proofs
variable{M:ak}[MK M]
def p5.at{H H':ar}(h:p5 H)(n:H.au<=H'.au)(e:H'.get yk=H.get yk):p5 H':=⟨by unfold ar.bU;rw[e];exact h.1,qn h.2 n⟩
def bV.low{α:Type}{enc:α->List AV}{size:Nat}{H H':ar}{u:AV}{xs:List α}(h:bV enc size H u xs)(n:H.au<=H'.au)(hl:xs≠[]->aE u<H.au)(e:xs≠[]->H'.get (aE u)=H.get (aE u)):bV enc size H' u xs:=by
 by_cases q:xs=[]
 .exact Sl.fr h (W:=λ _=>True) ⟨n,λ z _ t=>(t trivial).elim⟩ (.inl (by rw[q];rfl))
 .exact Sl.fr h (W:=λ z=>z≠aE u) ⟨n,λ z _ t=>by have t:=vx.1 t;rw[t];exact e q⟩ (.inr λ t=>t rfl)
def W1(nb:Nat)(H:ar)(w k:Nat)(x:Wo)(F:Nat->Prop):Prop:=∃Hb B cvs hv bs own ks V,Hb.au=nb/\fA Hb H w B cvs hv bs own ks V k x /\ ∀z,F z->kS H w B cvs hv bs ks z
section
variable{H H':ar}{nb w k:Nat}{x y:Wo}{F G:Nat->Prop}
def W1.lt(h:W1 nb H w k x F){z:Nat}(q:F z):z<H.au:=by
 have⟨Hb,B,a,c,bs,own,ks,V,e,r,f⟩:=h;exact(f z q).lt
def W1.sub(h:W1 nb H w k x F)(g:∀z,G z->F z):W1 nb H w k x G:=by
 have⟨Hb,B,a,c,bs,own,ks,V,e,r,f⟩:=h;exact⟨Hb,B,a,c,bs,own,ks,V,e,r,λ z q=>f z (g z q)⟩
def W1.low(h:W1 nb H w k x F):nb<=H.au:=by
 have⟨Hb,B,a,c,bs,own,ks,V,e,r,f⟩:=h;have:=r.b.lo B (.inl rfl);have:=r.b.lt;omega
def W1.below(h:W1 nb H w k x F):W1 nb H w k x (λ z=>F z\/z<nb):=by
 have nl:=h.low;have⟨Hb,B,a,c,bs,own,ks,V,e,r,f⟩:=h;refine⟨Hb,B,a,c,bs,own,ks,V,e,r,λ z q=>q.elim (f z) λ q=>⟨by omega,λ t=>by have:=r.b.lo z t;omega,λ t=>by have:=(r.wb z t).2;omega,λ i A t=>zu λ d=>by have:=r.lo i A t z (by omega) d;omega⟩⟩
def W1.AH(h:W1 nb H w k x F)(n:H.au<=H'.au)(f:∀z,z<H.au -> ¬F z->H'.get z=H.get z):W1 nb H' w k x (λ z=>F z\/(H.au<=z/\z<H'.au)):=by
 have⟨Hb,B,a,c,bs,own,ks,V,e,r,g⟩:=h;refine⟨H'.low Hb.au,B,a,c,bs,own,_,V,e,r.AH n λ z l q=>f z l λ t=>q (g z t),λ z q=>?_⟩;rcases q with q|⟨d,j⟩
 .exact (g z q).wide n (λ q=>.inl q) λ q=>.inl q
 .exact r.new d j
def W1.em(h:W1 nb H w k x F)(f:Fr Em H H'):W1 nb H' w k x (λ z=>F z\/(H.au<=z/\z<H'.au)):=h.AH f.au λ z a _=>f.ah z a id
structure TC(nb:Nat)(H:ar)(w k:Nat)(y:Wo)(F:Nat->Prop)(H':ar)(N:Nat->Prop):Prop where
 w:W1 nb H' w k y (λ z=>F z\/N z)
 n:H.au<=H'.au
 kp:∀z,F z->H'.get z=H.get z
 nw:∀z,N z->H.au<=z
def O3(h:W1 nb H w k x F)(hk:k+1<=90000)(l:p5 H)(t:yk<nb)(m:x.h.length<=100000)(n0:0<=x.n)(n1:x.n<=1000000)(a:Act) :
 zb M Ue [.ptr w 0,.agg a.enc] H λ v H'=>v=.agg (gV (x.act a).2)/\TC nb H w (k+2) (x.act a).1 F H' Em:=by
 have⟨Hb,B,c,u,bs,own,ks,V,e,r,f⟩:=h;refine(EZ r hk l (by omega) m n0 n1 a).mono λ v H' q=>?_;have⟨d,hv',bs',aO,g,j,o,n',kp⟩:=q;exact⟨d,⟨⟨Hb,B,c,hv',bs',aO,g,j,e,o,λ z q=>q.elim (λ q=>(kp z (f z q)).1) NP⟩,n',λ z q=>(kp z (f z q)).2,λ z q=>q.elim⟩⟩
def TC.other{c w' k':Nat}{f:Wo}{d N:Nat->Prop}(p:TC nb H w k y F H' N)(h:W1 c H w' k' f d)(a:∀z,z<H.au->F z\/d z):W1 c H' w' k' f (λ z=>d z\/(H.au<=z/\z<H'.au)) :=
 h.AH p.n λ z g q=>p.kp z ((a z g).elim id λ e=>(q e).elim)
def IV(H:ar)(nw nv w w' k k':Nat)(x x':Wo)(L:Nat->Prop):Prop:=∃F F',W1 nw H w k x F/\W1 nv H w' k' x' F'/\(∀z,z<H.au->F z\/F' z) /\ ∀z,L z->F z/\F' z
def IV.em{nw nv w' k':Nat}{c:Wo}{L:Nat->Prop}(h:IV H nw nv w w' k k' x c L)(f:Fr Em H H'):IV H' nw nv w w' k k' x c (λ z=>L z\/(H.au<=z/\z<H'.au)):=by
 have⟨F,d,a,b,ap,hl⟩:=h;refine⟨_,_,a.em f,b.em f,λ z q=>?_,λ z q=>?_⟩
 .rcases xy z H.au with e|e
  .exact (ap z e).imp .inl .inl
  .exact .inl (.inr ⟨e,q⟩)
 .rcases q with q|q
  .exact ⟨.inl (hl z q).1,.inl (hl z q).2⟩
  .exact ⟨.inr q,.inr q⟩
def IV.loc{nw nv w' k':Nat}{d:Wo}{L U:Nat->Prop}(h:IV H nw nv w w' k k' x d L)(f:Fr U H H')(hu:∀z,U z->L z):IV H' nw nv w w' k k' x d (λ z=>L z\/(H.au<=z/\z<H'.au)):=by
 have⟨F,g,a,b,ap,hl⟩:=h;refine⟨_,_,a.AH f.au λ z c q=>f.ah z c λ e=>q (hl z (hu z e)).1,b.AH f.au λ z c q=>f.ah z c λ e=>q (hl z (hu z e)).2,λ z q=>?_,λ z q=>?_⟩
 .rcases xy z H.au with e|e
  .exact (ap z e).imp .inl .inl
  .exact .inl (.inr ⟨e,q⟩)
 .rcases q with q|q
  .exact ⟨.inl (hl z q).1,.inl (hl z q).2⟩
  .exact ⟨.inr q,.inr q⟩
def IV.fst{nw nv w' k' d:Nat}{f:Wo}{c L N:Nat->Prop}(a:W1 nw H w k x F)(b:W1 nv H w' k' f c)(ap:∀z,z<H.au->F z\/c z)(hl:∀z,L z->F z/\c z)(p:TC nw H w d y F H' N) :
 IV H' nw nv w w' d k' y f (λ z=>L z\/N z) /\ ∀z,L z->H'.get z=H.get z:=by
 refine⟨⟨_,_,p.w,p.other b ap,λ z q=>?_,λ z q=>?_⟩,λ z q=>p.kp z (hl z q).1⟩
 .rcases xy z H.au with e|e
  .exact (ap z e).imp .inl .inl
  .exact .inr (.inr ⟨e,q⟩)
 .rcases q with q|q
  .exact ⟨.inl (hl z q).1,.inl (hl z q).2⟩
  .exact ⟨.inr q,.inr ⟨p.nw z q,p.w.lt (.inr q)⟩⟩
def W1.core(h:W1 nb H w k x F){i:Nat}{c:Co}(d:x.cs[i]? = B1 c):∃p o f l sp cv rv,(∀K,C3 M B4 (.func R6) [.ptr w 0,.int .i64 (i:Int)] H K=K B4 (.ptr p 0) H)/\dP H o p f l sp cv rv .nils .nili c [] k:=by
 have⟨Hb,B,g,m,bs,own,ks,V,e,r,f⟩:=h;have j:=(qt.1 d).1;have hk:=r.kl;obtain⟨A,a⟩:∃A,ks[i]? = B1 A:=⟨_,xe (by omega)⟩
 exact⟨A.p,A.o,A.f,A.l,A.sp,A.cv,A.rv,RK r (by omega) (by rw[show((i:Int)).toNat=i by omega];exact a),(r.co i c A d a).1⟩
end
end Go.Am
namespace Go.Am
open Lang Go.Proofs
variable{M:ak}[MK M]
def tt{α:Type}{enc:α->List AV}(h:∀x,aL (enc x)=B4)(l:List α):aL (l.flatMap enc)=true:=by
 rw[vc,List.all_flatMap,Gw];intro x _;have:=h x;rw[vc]at this;exact this
def xdt{H:ar}{a:AV}{l:List eW}(ha:bV eW.enc 9 H a l)(hl:l.length<=100000):zb M v_ [a] H λ v H'=>bV eW.enc 9 H' v l/\Fr Em H H':=by
 refine qnm ?_
 by_cases hn:a=.nils
 .subst hn;simp only[aa,bc,a_,φ];exact⟨ha,Fr.refl _⟩
 .have c:Fr Em H (H.alloc (.row [] jj (0,0) B4)):=(Fr.refl H).alloc _;simp only[aa,bc,a_,C' ha hn,Po];refine Q2 (e:=jj) (n:=0) (cells:=[]) ⟨rfl,.inl ⟨rfl,.inr ⟨H.au,rfl,by rw[xx];omega⟩⟩⟩ (Sl.em ha c) (tt (λ x=>rfl) _) (by omega) (by omega) (by omega) λ j h hv' d f=>?_;simp only[aa,bc];rw[yu,jr]at hv';exact⟨hv'.sl,c.trans d λ x g=>.inr (by rw[g.2];exact qm _)⟩
def Gg{H:ar}{nb w k:Nat}{x:Wo}{F:Nat->Prop}(h:W1 nb H w k x F)(hl:x.h.length<=100000):zb M _I [.ptr w 0] H λ v H'=>bV eW.enc 9 H' v x.h/\Fr Em H H':=by
 have⟨Hb,B,c,l,bs,own,ks,V,e,r,f⟩:=h;refine qrd ?_;have g:Op.eq .ptr B2 [.ptr w 0,.nilp] H=B1 (.bool B2):=rfl;simp only[aa,bc,qre,aw,g,r.bj];refine C3.q (xdt (aT.sl r.hl) hl) λ v j⟨a,d⟩=>?_;simp only[aa,bc];exact⟨a,d⟩
end Go.Am
namespace Go.Am
section
variable{α:Type}(P:List α->Bool)
def ZB:Nat->List α->List α
 |0,l=>l
 |n+1,l=>ZB n (if P (l.eraseIdx n)=B4 then l.eraseIdx n else l)
def Rj(l:List α):List α:=ZB P l.length l
def RA:Nat->List α->List α
 |0,l=>l
 |n+1,l=>RA n (Rj P l)
def ur(l:List α):Option Nat:=(MT (l.length+1)).find? λ n=>P (l.take n)
def shr(l:List α):List α:=RA P (l.length+1) l
def Yk{l:List α}{n:Nat}(h:ur P l=B1 n):n<=l.length/\P (l.take n)=B4 /\ ∀k,k<n->P (l.take k)=false:=by
 have⟨c,us,bs,e,d⟩:=List.find?_eq_some_iff_append.1 h;have hn:n<l.length+1:=M0.1 (e▸List.mem_append_right _ (J2 ..));refine⟨by omega,c,λ k hk=>?_⟩;have hm:k∈us:=by
  have a:k∈us++n::bs:=e▸M0.2 (by omega);rcases z6.1 a with q|q
  .exact q
  .have s:(us++n::bs).Pairwise (· < ·):=e▸List.pairwise_lt_range;rcases j7.1 q with q|q
   .omega
   .have:=List.rel_of_pairwise_cons (List.pairwise_append.1 s).2.1 q;omega
 have:=d k hm
 simpa using this
def nz{l:List α}{n:Nat}(h:n<=l.length)(hp:P (l.take n)=B4)(hn:∀k,k<n->P (l.take k)=B2):ur P l=B1 n:=by
 cases e:ur P l with
 |none =>
  have:=CR.1 e n (M0.2 (by omega));exact absurd hp this
 |some m =>
  have⟨a,b,c⟩:=Yk P e;rcases Nat.lt_trichotomy m n with q|q|q
  .rw [hn m q]at b;cases b
  .rw [q]
  .rw [c n q]at hp;cases hp
def HF{l:List α}(h:∀k,k<=l.length->P (l.take k)=B2):ur P l=none:=CR.2 λ k hk=>by rw[h k (by have:=M0.1 hk;omega)];decide
end
end Go.Am
namespace Go.Am
open Go.Proofs Ca
open Lang (ints)
variable{M:ak}[MK M]
section
variable{H0 H:ar}{B:Nat}{s:Bs}{b:Bu}{own:Nat->Nat}
def xki(h:eH H0 H B s b own){i:Nat}{w:L8}(hw:b.m[i]? = B1 w):zb M U3 [.ptr s.D 0,.int .i64 (i:Int)] H λ v H'=>v=.tuple [.agg (cu w),.int .i64 0]/\Fr Em H H':=by
 refine qzm ?_;obtain⟨w0,w2,c⟩:=qzn M ⟨B5,U3⟩;obtain⟨a,e2⟩:∃X,X=H.alloc (OR (cu .zero) zx):=⟨_,rfl⟩
 have f:Fr Em H a:=by rw[e2];exact(Fr.refl H).alloc _
 have j:a.get H.au=B1 (OR (cu .zero) zx):=by rw[e2,xm]
 have d2:=h.d.em f;have n2:a.au=H.au+1:=by rw[e2,xx]
 have lm:Op.ae [.ptr s.D 0] a=B1 (.ptr s.mp 0):=x9 (xb d2.row) 0;simp only[aa,bc,w0,lZ,<-e2,w2,ye,c,qo,lm];refine C3.q (_o (M:=M) (w:=w) d2.me (n:=(i:Int)) (by omega) (by rw[GQ];exact hw)) λ v e⟨o,g⟩=>?_;rw[o];have l:e.get H.au=B1 (OR (cu .zero) zx):=by rw[g.ah _ (by omega) id];exact j
 have st:=fE l (kq _) (kq w) (tZ w);have ln:=eI (xc e H.au (OR (cu w) zx)) (kq w);simp only[aa,bc,xf,st,ln];exact(f.trans g λ _ q=>q.elim).set (.inr (qm _)) _
def xie{r nb:Nat}{sv bv:AV}{n:No}{ks:List Nat}(h:dc H0 H r nb sv bv n ks)(o:CI n.lines n.c)(line:Int):zb M Ve [.ptr r 0,.int .i64 line] H λ v H'=>v=nQ n.c line/\Fr Em H H':=by
 refine qz3 ?_;obtain⟨w0,w2,g⟩:=qz4 M ⟨B5,Ve⟩;obtain⟨H1,e1⟩:∃X,X=H.alloc (OR (av .zero) xj):=⟨_,rfl⟩
 have d:Fr Em H H1:=by rw[e1];exact(Fr.refl H).alloc _
 have m:H1.get H.au=B1 (OR (av .zero) xj):=by rw[e1,xm]
 have n1:H1.au=H.au+1:=by rw[e1,xx]
 have l:=h.em d;simp only[aa,bc,w0,eZ,<-e1,w2,ye,g,qo,l.l2];refine C3.q (O5 (M:=M) l.ca o line) λ v a⟨t,f⟩=>?_;rw[t];have j:a.get H.au=B1 (OR (av .zero) xj):=by rw[f.ah _ (by omega) id];exact m
 unfold nQ;cases n.c.find line with
 |none =>
  have st:=fE j (zt _) (zt .zero) (tH _);have ln:=eI (xc a H.au (OR (av .zero) xj)) (zt .zero);simp only[aa,bc,xf,st,ln];exact(d.trans f λ _ q=>q.elim).set (.inr (qm _)) _
 |some e =>
  have st:=fE j (zt _) (zt e) (tH e);have ln:=eI (xc a H.au (OR (av e) xj)) (zt e);simp only[aa,bc,xf,st,ln];exact(d.trans f λ _ q=>q.elim).set (.inr (qm _)) _
end
def qK(b:Bu)(line:Int)(i:Nat):List En:=(b.ns.take i).filterMap λ n=>n.c.find line
def Av(b:Bu)(line:Int):List (List AV):=(qK b line b.ns.length).map λ e=>[.agg (av e)]
def BG{b:Bu}{line:Int}{i:Nat}{n:No}(hn:b.ns[i]? = B1 n):qK b line (i+1)=qK b line i++(match n.c.find line with|none=>[]|some e=>[e]):=by
 unfold qK;rw[kc,hn,List.filterMap_append];congr 1;show List.filterMap _ [n]=_;rw[List.filterMap_cons,List.filterMap_nil];cases n.c.find line<;>rfl
def GG(b:Bu)(line:Int){i:Nat}(a:i<=b.ns.length):∃r,qK b line b.ns.length=qK b line i++r:=by
 refine⟨(b.ns.drop i).filterMap λ n=>n.c.find line,?_⟩;unfold qK;rw[ze (qm _),<-List.filterMap_append,vg]
def Ov{b:Bu}{line:Int}{i:Nat}{n:No}{e:En}(hn:b.ns[i]? = B1 n)(he:n.c.find line=B1 e):(Av b line)[(qK b line i).length]? = B1 [.agg (av e)]:=by
 have hl:=(qt.1 hn).1;obtain⟨r,hr⟩:=GG b line (i:=i+1) (by omega);unfold Av;rw[hr,BG hn,he,xp];show Option.map _ ((qK b line i ++ [e]++r)[(qK b line i).length]?)=_;rw[yf,z7 (qm _),Kk];rfl
section
variable{Hb H0:ar}{B p q:Nat}{s:Bs}{b:Bu}{own:Nat->Nat}{line:Int}
def Y_(Hb:ar)(B:Nat)(s:Bs)(p q:Nat)(z:Nat):Prop:=z<Hb.au\/z=p\/z=q\/gE B s z
def EH(h:eH Hb H0 B s b own)(hb:BB b)(hp:H0.get p=B1 (OR [.ptr B 0] wF))(hq:H0.get q=B1 (OR [.int .i64 line] cz))(hpl:p<H0.au)(hql:q<H0.au)(hbl:Hb.au<=H0.au) :
 rk M Kz [] [.ptr p 0,.ptr q 0] (Y_ Hb B s p q) (λ _=>False) H0 (Av b line):=by
 intro Y R S g H1 hnx U Z hW0 loc locS step;obtain⟨p1,p2,p3⟩:=U p (.inl (.inr (.inl rfl)));obtain⟨q1,q2,q3⟩:=U q (.inl (.inr (.inr (.inl rfl))));have hN4:=hb.N4;have kp:∀{Hx:ar},Fr g H1 Hx->eH Hb Hx B s b own:=λ{Hx}f=>by
  have f0:Fr (λ z=>Hb.au<=z /\ ¬gE B s z) H0 Hx:=by
   refine⟨xw hnx f.au,λ z j hw=>?_⟩;have hk:Y_ Hb B s p q z:=by
    by_cases w1:z<Hb.au
    .exact .inl w1
    .by_cases w2:gE B s z
     .exact .inr (.inr (.inr w2))
     .exact absurd ⟨by omega,w2⟩ hw
   obtain⟨-,k2,k3⟩:=U z (.inl hk);rw[f.ah z (by omega) k3,k2]
  exact h.fr f0 λ z w=>w
 suffices hs:zb M Kz [.fn (.yield Y) [] [],.ptr p 0,.ptr q 0] H1 (JO R S g (λ _=>False) H1 (Av b line).length)by
  obtain⟨v,H',hc,W',q1,q2,q3⟩:=hs.elim;exact⟨v,H',W',hc,q1,q2,q3⟩
 refine qy8 ?_;obtain⟨w0,w4,w10,J,I⟩:=qy9 M ⟨B5,Kz⟩;have lp:∀{Hx:ar},Fr g H1 Hx->Op.ae [.ptr p 0] Hx=B1 (.ptr B 0):=λ f=>by rw[x9 (xb (by rw[f.ah _ (by omega) p3,p2];exact hp))];rfl
 have lq:∀{Hx:ar},Fr g H1 Hx->Op.ae [.ptr q 0] Hx=B1 (.int .i64 line):=λ f=>by rw[x9 (xb (by rw[f.ah _ (by omega) q3,q2];exact hq))];rfl
 have r0:=Fr.refl (W:=g) H1;have T:=kp r0;have C:=T.nv.sl.len;rw[xt,T.al]at C;have hll:(Av b line).length=(qK b line b.ns.length).length:=xt _;simp only[aa,bc,w0,lp r0,qo,T.l1,C];refine da.intro (λ n E Hx=>∃(i:Nat)(V:Nat->Prop),E=[(13,.int .i64 (i:Int)),(12,.int .i64 ((b.ns.length:Nat):Int)),(11,s.nv),(0,.fn (.yield Y) [] []),(1,.ptr p 0),(2,.ptr q 0)]/\n=b.ns.length-i/\i<=b.ns.length/\MF R g H1 Hx (qK b line i).length V) ?_ ?_
 .exact ⟨_,_,⟨0,g,rfl,rfl,xz _,⟨Z,λ b hb=>⟨hW0 b hb,.inl hb⟩,Fr.refl _⟩⟩,by simp only[aa,bc]⟩
 rintro n E Hx ⟨i,V,rfl,rfl,hi,hI⟩
 by_cases c1:(i:Int)<((b.ns.length:Nat):Int)
 .obtain ⟨nd,hn⟩:∃n,b.ns[i]? = B1 n:=⟨_,xe (by omega)⟩
  have hx:=kp hI.fr;obtain⟨A,hA,nr⟩:=hx.zF hn;have D:(s.ad.map Na.r)[i]? = B1 A.r:=by rw[xp,hA];rfl
  have ix:=hx.nv.sl.idx D (z:=(i:Int)) rfl .i64;have ld:=hx.nv.sl.kW XS D (by decide);have ld:Op.ae [.ptr (aE s.nv) (cM 1 s.nv i)] Hx=B1 (.ptr A.r 0):=ld;obtain⟨ni,-,-⟩:=hb.no _ nd hn;have wj:aj .i64 ((i:Int)+1)=((i+1:Nat):Int):=by rw[ji (by omega) (by omega)];omega
  simp only[aa,bc,w4,c1,w10,ix,ld,lq hI.fr];refine C3.q (xie (M:=M) nr ni.ci line) λ v d⟨hv,O⟩=>?_;rw[hv];have f03:Fr g H1 d:=hI.fr.trans O λ _ w=>w.elim;obtain⟨K,L⟩:∃X,X=d.alloc (OR (av .zero) xj):=⟨_,rfl⟩
  have f4:Fr Em d K:=by rw[L];exact(Fr.refl d).alloc _
  have g4:K.get d.au=B1 (OR (av .zero) xj):=by rw[L,xm]
  unfold nQ;cases hf:nd.c.find line with
  |none =>
   have st:=fE g4 (zt _) (zt .zero) (tH .zero);have hs:=BG (line:=line) hn;rw[hf]at hs;simp only[zq]at hs;obtain⟨l,m⟩:∃X,X=K.set d.au (OR (av .zero) xj):=⟨_,rfl⟩
   rw[<-m]at st;have Q:Fr Em d l:=by rw[m];exact f4.set (.inr (qm _)) _
   have a:Fr Em Hx l:=O.trans Q λ _ w=>w.elim;simp only[aa,bc,xf,eZ,<-L,st,I];simp only[aa,bc,J,wj];refine⟨_,_,⟨i+1,V,rfl,rfl,by omega,⟨?_,λ z j=>⟨qn (hI.hV z j).1 a.au,(hI.hV z j).2⟩,hI.fr.trans a λ _ w=>w.elim⟩⟩,by simp only[aa,bc],by omega⟩;rw[hs];exact loc _ V Hx l hI.hR (λ z j=>a.ah z (hI.hV z j).1 id) a.au
  |some e =>
   have st:=fE g4 (zt _) (zt e) (tH e);have hs:=BG (line:=line) hn;rw[hf]at hs;obtain⟨l,m⟩:∃X,X=K.set d.au (OR (av e) xj):=⟨_,rfl⟩
   rw[<-m]at st;have g5:l.get d.au=B1 (OR (av e) xj):=by rw[m,xc]
   have Q:Fr Em d l:=by rw[m];exact f4.set (.inr (qm _)) _
   have a:Fr Em Hx l:=O.trans Q λ _ w=>w.elim;have ld5:=eI g5 (zt e);obtain⟨bb,H6,N,hr,hf6,u,ht,hs6⟩:=step _ [.agg (av e)] (Ov hn hf) V l (loc _ V Hx l hI.hR (λ z j=>a.ah z (hI.hV z j).1 id) a.au) (λ z j=>⟨qn (hI.hV z j).1 a.au,(hI.hV z j).2⟩) ((hI.fr.trans a λ _ w=>w.elim).mono λ _ _ w=>.inl w);have o:Fr g H1 H6:=(hI.fr.trans a λ _ w=>w.elim).trans hf6 λ z w=>(hI.hV z w).2;have t:∀z,N z->z<H6.au/\(g z\/H1.au<=z):=λ z w=>⟨(u z w).1,(u z w).2.elim (λ w=>(hI.hV z w).2) λ w=>.inr (xw (xw hI.fr.au a.au) w)⟩
   simp only[aa,bc,xf,eZ,<-L,st,I,ld5];refine C3.uo hr ?_;cases bb with
   |true =>
    simp only[aa,bc];simp only[aa,bc,J,wj];exact⟨_,_,⟨i+1,N,rfl,rfl,by omega,⟨by rw[hs,xr];exact ht rfl,t,o⟩⟩,by simp only[aa,bc],by omega⟩
   |false =>
    simp only[aa,bc];exact⟨N,o.mono λ _ _ w=>.inl w,t,.inr (hs6 rfl)⟩
 .have hiw:i=b.ns.length:=by omega
  simp only[aa,bc,w4,c1];exact⟨V,hI.fr.mono λ _ _ w=>.inl w,hI.hV,.inl (by rw[hll,<-hiw];exact hI.hR)⟩
end
def Ji(j:Int)(m:Mg):Bool:=decide (m.line=j/\(m.k=3\/m.k=5))
def wJ(fl:List Mg)(j:Int)(w:L8):L8:=match fl.find? (Ji j)with
 |some m=>m.d
 |none=>w
def rI(x:L8)(e:En):L8:=if e.st=2 then cond e.w e.o e.d else x
def Bu.NA(b:Bu)(j:Nat):L8:=(qK b j b.ns.length).foldl rI (wJ b.fl j (b.m[j]?.getD .zero))
def Bu.uv(b:Bu)(a:Int):Int×Int:=if 0<=a/\a<8*b.l.length then((b.NA (a.toNat / 8)).get (a.toNat % 8),0)else(0,2)
def Gn{fl:List Mg}{i:Nat}{m:Mg}{j:Int}{w:L8}(h:fl[i]? = B1 m)(hm:Ji j m=B4)(a:∀x∈fl.take i,Ji j x=B2):wJ fl j w=m.d:=by
 have⟨hl,he⟩:=qt.1 h;have e:fl=fl.take i++(m::fl.drop (i+1)):=by rw[<-he,List.getElem_cons_drop hl,vg]
 have f:fl.find? (Ji j)=B1 m:=by
  rw[e,List.find?_append,CR.2 λ x c=>by rw[a x c];decide,List.find?_cons,hm];rfl
 unfold wJ;rw[f]
def Gk{fl:List Mg}{j:Int}{w:L8}(a:∀x∈fl,Ji j x=B2):wJ fl j w=w:=by
 unfold wJ;rw[CR.2 λ x c=>by rw[a x c];decide]
section
variable{Hb H:ar}{B:Nat}{s:Bs}{b:Bu}{own:Nat->Nat}{V:Int->L8}
def xhf{H:ar}(B:Nat)(line:Int):zb M qsc [.ptr B 0,.int .i64 line] H λ v H'=>v=.fn (.func Kz) [] [.ptr H.au 0,.ptr (H.au+1) 0]/\H'=(H.alloc (OR [.ptr B 0] wF)).alloc (OR [.int .i64 line] cz):=by
 refine q6a ?_;obtain⟨H1,e1⟩:∃X,X=H.alloc (OR [.ptr B 0] wF):=⟨_,rfl⟩
 have n1:H1.au=H.au+1:=by rw[e1,xx]
 have ca:AV.cells (.ptr B 0)=[.ptr B 0]:=rfl;have a:AV.cells (.int .i64 line)=[.int .i64 line]:=rfl;have mk:Op.bJ Kz 0 [.ptr H.au 0,.ptr (H.au+1) 0]=B1 (.fn (.func Kz) [] [.ptr H.au 0,.ptr (H.au+1) 0]):=rfl;simp only[aa,bc,q6b,ca,a,<-e1,n1,mk];rfl
structure ψ(x0:L8)(es:List En)(t i:Nat)(W:Nat->Prop)(Hx:ar):Prop where
 vt:W t
 ex:Hx.get t=B1 (OR (cu ((es.take i).foldl rI x0)) zx)
 lt:t<Hx.au
def QV{H:ar}{t T:Nat}{e:En}(h:H.get t=B1 (OR (av e) T)):Op.aq 8 [.ptr t 4] H=B1 (.agg (cu e.d))/\Op.aq 8 [.ptr t 12] H=B1 (.agg (cu e.o)):=by
 have hl:=zt e;have e1:av e=[.int .i64 e.line,.int .i64 e.st,.bool e.r,.bool e.w]++(cu e.d++(cu e.o ++ [.int .i64 e.u])):=rfl;constructor
 .rw [rR (xb h) (by omega),e1,List.drop_left' (by rfl),List.take_left' (kq _)]
 .rw [rR (xb h) (by omega),e1,<-yf,List.drop_left' (by rw[xr,kq];rfl),List.take_left' (kq _)]
def xdc(h:eH Hb H B s b own)(hl:b.l.length<=64){a:Int}(ha:¬(0<=a/\a<8*b.l.length)):zb M ym [.ptr B 0,.int .i64 a] H λ v H'=>v=.tuple [.int .u64 0,.int .i64 2]/\H'=H:=by
 refine qlv ?_;obtain⟨w0,D,wb,w2,A,e,g,j,m,t,n,u,o,z,r⟩:=Xm M ⟨B5,ym⟩;have C:aj .i64 (((b.l.length:Nat):Int)*8)=((b.l.length*8:Nat):Int):=by rw[ji (by omega) (by omega)];omega
 have c:Op.eq .ptr B2 [.ptr B 0,.nilp] H=B1 (.bool B2):=rfl
 by_cases d:a<0
 .simp only[aa,bc,w0,w2,e,c,qy d,ug]
 .have f:((b.l.length*8:Nat):Int)<=a:=by omega
  simp only[aa,bc,w0,w2,e,c,d,qo,h.l3,C,qy f,ug]
def q8g(h:eH Hb H B s b own)(hb:BB b)(hI:BuI b V)(hbl:Hb.au<=H.au){a:Nat}(ha:a<8*b.l.length)(hl:b.l.length<=64):zb M ym [.ptr B 0,.int .i64 (a:Int)] H λ v H'=>v=.tuple [.int .u64 ((b.NA (a / 8)).get (a % 8)),.int .i64 0]/\Fr Em H H':=by
 refine qlv ?_;obtain⟨w0,wa,wb,w2,wb7,w3,w18,w22,w24,w47,K,w49,w35,w54,w46⟩:=Xm M ⟨B5,ym⟩;have hj:a / 8<b.l.length:=by omega
 obtain⟨wd,hwd⟩:∃x,b.m[a / 8]? = B1 x:=⟨_,xe (by rw[hI.ml];exact hj)⟩
 have q0:¬(a:Int)<0:=by omega
 have wm:aj .i64 (((b.l.length:Nat):Int)*8)=((b.l.length*8:Nat):Int):=by rw[ji (by omega) (by omega)];omega
 have q1:¬((b.l.length*8:Nat):Int)<=(a:Int):=by omega
 have qu:=Ao (a:=a) (by omega);have re:=Kd (a:=a) (by omega);have pn:Op.eq .ptr B2 [.ptr B 0,.nilp] H=B1 (.bool B2):=rfl;simp only[aa,bc,w0,w2,w3,pn,q0,qo,h.l3,wm,q1,I5,w18,qu,re,h.l0];refine C3.q (xki (M:=M) h hwd) λ v H1⟨hv,f1⟩=>?_;rw[hv];obtain⟨H2,e2⟩:∃X,X=H1.alloc (OR (cu .zero) zx):=⟨_,rfl⟩
 have f2:Fr Em H1 H2:=by rw[e2];exact(Fr.refl H1).alloc _
 have g2:H2.get H1.au=B1 (OR (cu .zero) zx):=by rw[e2,xm]
 have st2:=fE g2 (kq _) (kq wd) (tZ wd);obtain⟨H3,e3⟩:∃X,X=H2.set H1.au (OR (cu wd) zx):=⟨_,rfl⟩
 rw[<-e3]at st2;have g3:H3.get H1.au=B1 (OR (cu wd) zx):=by rw[e3,xc]
 have n3:H3.au=H1.au+1:=by rw[e3,e2];rfl
 have f3:Fr Em H1 H3:=by rw[e3];exact f2.set (.inr (qm _)) _
 have f03:=f1.trans f3 λ _ q=>q.elim;have n1:=f1.au;generalize ht:H1.au=t at *
 -- behind the messages
 have rest:∀(Hx:ar)(x:L8)(E:Env)(Z:aG),(∀E D H',Z .ret E D H'=fh M [.tmp 4,.tmp 5] (uI λ v H'=>v=.tuple [.int .u64 ((b.NA (a / 8)).get (a % 8)),.int .i64 0]/\Fr Em H H') .ret E D H')->Fr Em H Hx->Hx.get t=B1 (OR (cu x) zx)->t<Hx.au->x=wJ b.fl ((a / 8:Nat):Int) wd ->
  lk E 0=B1 (.ptr B 0)->lk E 6=B1 (.int .i64 ((a / 8:Nat):Int))->lk E 7=B1 (.int .i64 ((a % 8:Nat):Int))->lk E 8=B1 (.ptr t 0) ->
  W M ⟨B5,ym⟩ (JG ym 49) B4 Z E [] Hx:=by
  intro Hx x E Z hZ R gx hlt hx e0 e6 e7 e8;have hbx:=h.em R;simp only[aa,bc,w49,e0,e6];refine C3.q (xhf (M:=M) B ((a / 8:Nat):Int)) λ v n⟨hv,hh⟩=>?_;rw[hv];obtain⟨L,I⟩:∃X,X=Hx.alloc (OR [.ptr B 0] wF):=⟨_,rfl⟩
  rw[<-I]at hh;have f4:Fr Em Hx L:=by rw[I];exact(Fr.refl Hx).alloc _
  have n4:L.au=Hx.au+1:=by rw[I,xx]
  have f5:Fr Em L n:=by rw[hh];exact(Fr.refl L).alloc _
  have n5:n.au=L.au+1:=by rw[hh,xx]
  have gp:n.get Hx.au=B1 (OR [.ptr B 0] wF):=by rw[f5.ah _ (by omega) id,I,xm]
  have gq:n.get (Hx.au+1)=B1 (OR [.int .i64 ((a / 8:Nat):Int)] cz):=by rw[<-n4,hh,xm]
  have r:Fr Em Hx n:=f4.trans f5 λ _ q=>q.elim;have h5:=hbx.em r;have nx:=R.au;have gt5:n.get t=B1 (OR (cu x) zx):=by rw[r.ah _ hlt id];exact gx
  have hbw:∀z,gE B s z->z<H.au:=λ z q=>h.low q;refine iI.iter (fn:=Sb) (lp:=Qn) (pa:=Yt 0) (pb:=Xp 0) qs8 qjq.1 qjq.2 (by decide) qrv qrw
   (EH (M:=M) (line:=((a / 8:Nat):Int)) h5 hb gp gq (by omega) (by omega) (by omega)) (λ i W Hy=>ψ x (qK b ((a / 8:Nat):Int) b.ns.length) t i W Hy) (λ _ _ _=>False) (λ z=>z=t) (qm _) ?_ ?_ ?_ ?_ ?_ ?_ ?_ ?_
  .rintro z ((q|q|q|q)|q)
   .exact ⟨by omega,rfl,by omega⟩
   .exact ⟨by omega,rfl,by omega⟩
   .exact ⟨by omega,rfl,by omega⟩
   .exact ⟨by have:=hbw z q;omega,rfl,by have:=hbw z q;omega⟩
   .exact q.elim
  .exact λ z hz=>by omega
  .exact ⟨rfl,gt5,by omega⟩
  .exact λ i W Ha Hb' j hs hn=>⟨j.vt,by rw[hs _ j.vt];exact j.ex,qn j.lt hn⟩
  .exact λ e W Ha Hb' j _ _=>j
  .intro C i lr lb xv U hL2 W g j hW hf6 hnL hL6 hgL;have U:((qK b ((a / 8:Nat):Int) b.ns.length).map λ e=>[AV.agg (av e)])[i]? = B1 xv:=U;rw[xp,xq]at U;obtain⟨e,he,rfl⟩:=U;refine⟨_,rfl,?_⟩;obtain⟨-,wa,wb,-,wb7,-⟩:=Xm M ⟨B1 C,ym⟩;obtain⟨H7,O⟩:∃X,X=g.alloc (OR (av .zero) xj):=⟨_,rfl⟩
   have f7:Fr Em g H7:=by rw[O];exact(Fr.refl g).alloc _
   have g7:H7.get g.au=B1 (OR (av .zero) xj):=by rw[O,xm]
   have st7:=fE g7 (zt _) (zt e) (tH e);obtain⟨H8,Q⟩:∃X,X=H7.set g.au (OR (av e) xj):=⟨_,rfl⟩
   rw[<-Q]at st7;have f8:Fr Em g H8:=by rw[Q];exact f7.set (.inr (qm _)) _
   have g8:H8.get g.au=B1 (OR (av e) xj):=by rw[Q,xc]
   have n8:H8.au=g.au+1:=by rw[Q,O];rfl
   simp only[aa,bc,wa,eZ,<-O,st7,Fc];refine⟨by rw[f8.ah _ hL6 id];exact hgL,?_⟩;have gy:=j.ex;have hLt:C≠t:=λ q=>hnL (by rw[q];exact j.vt);have htl:=j.lt;obtain⟨A,e9⟩:∃X,X=H8.set C lb:=⟨_,rfl⟩
   rw[<-e9];have f9:Fr (On C) H8 A:=by rw[e9];exact(Fr.refl H8).set (W:=On C) (.inl rfl) _
   have n9:A.au=H8.au:=by rw[e9];rfl
   have gL9:A.get C=B1 lb:=by rw[e9];exact xc ..
   have g9:A.get g.au=B1 (OR (av e) xj):=by rw[f9.ah _ (by omega) (λ(q:g.au=C)=>by omega)];exact g8
   have gt9:A.get t=B1 (OR (cu (((qK b ((a / 8:Nat):Int) b.ns.length).take i).foldl rI x)) zx):=by rw[f9.ah _ (by omega) (λ(q:t=C)=>hLt q.symm),f8.ah _ htl id];exact gy
   have F9:Fr (λ z=>W z\/z=C) g A:=(f8.mono λ z _ q=>q.elim).trans f9 λ z q=>.inl (.inr q);have l1:Op.ae [.ptr g.au 1] A=B1 (.int .i64 e.st):=x9 (xb g9) 1;have l3:Op.ae [.ptr g.au 3] A=B1 (.bool e.w):=x9 (xb g9) 3;obtain⟨lD,lO⟩:=QV g9;have tk:(qK b ((a / 8:Nat):Int) b.ns.length).take (i+1)=(qK b ((a / 8:Nat):Int) b.ns.length).take i ++ [e]:=by rw[kc,he];rfl
   have hV9:∀z,W z->z<A.au/\(W z\/g.au<=z):=λ z hz=>⟨by have:=(hW z hz).1;omega,.inl hz⟩
   have fo:((qK b ((a / 8:Nat):Int) b.ns.length).take (i+1)).foldl rI x=rI (((qK b ((a / 8:Nat):Int) b.ns.length).take i).foldl rI x) e:=by rw[tk,List.foldl_append];rfl
   generalize hy:((qK b ((a / 8:Nat):Int) b.ns.length).take i).foldl rI x=y at *
   by_cases s2:e.st=2
   .have stD:=fE gt9 (kq _) (kq e.d) (tZ e.d);obtain⟨f,N⟩:∃X,X=A.set t (OR (cu e.d) zx):=⟨_,rfl⟩
    rw[<-N]at stD;have f10:Fr (On t) A f:=by rw[N];exact(Fr.refl A).set (W:=On t) (.inl rfl) _
    have n10:f.au=A.au:=by rw[N];rfl
    have g10:f.get t=B1 (OR (cu e.d) zx):=by rw[N,xc]
    have gL10:f.get C=B1 lb:=by rw[f10.ah _ (by omega) hLt];exact gL9
    have F10:Fr (λ z=>W z\/z=C) g f:=F9.trans f10 λ z(q:z=t)=>.inl (.inl (by rw[q];exact j.vt));have hV10:∀z,W z->z<f.au/\(W z\/g.au<=z):=λ z hz=>⟨by have:=(hW z hz).1;omega,.inl hz⟩
    have h6t:g.au≠t:=by omega
    have g610:f.get g.au=B1 (OR (av e) xj):=by rw[f10.ah _ (by omega) h6t];exact g9
    have Y:Op.ae [.ptr g.au 3] f=B1 (.bool e.w):=x9 (xb g610) 3;obtain⟨-,lO'⟩:=QV g610;cases hw:e.w with
    |false =>
     rw[hw]at Y;simp only[aa,bc,wb,l1,qy s2,wb7,lD,stD,Y,e8];exact⟨rfl,gL10,W,hV10,F10,.inl ⟨rfl,j.vt,by rw[fo];unfold rI;rw[xg s2,hw];exact g10,by omega⟩⟩
    |true =>
     rw[hw]at Y;have stO:=fE g10 (kq _) (kq e.o) (tZ e.o);simp only[aa,bc,wb,l1,qy s2,wb7,lD,stD,Y,lO',stO,e8];exact⟨rfl,by rw[ki (rP hLt)];exact gL10,W,hV10,F10.set (.inl (.inl j.vt)) _,.inl ⟨rfl,j.vt,by rw[fo];unfold rI;rw[xg s2,hw];exact xc ..,by show t<f.au;omega⟩⟩
   .simp only[aa,bc,wb,l1,s2];exact⟨rfl,gL9,W,hV9,F9,.inl ⟨rfl,j.vt,by rw[fo];unfold rI;rw[qv s2];exact gt9,by omega⟩⟩
  .intro d W Hd hd1 hd2 hgd hfd hWd j;have gy:=j.ex;have hln:(Av b ((a / 8:Nat):Int)).length=(qK b ((a / 8:Nat):Int) b.ns.length).length:=xt _;rw[ze (by rw[hln];exact qm _)]at gy;have ey:(qK b ((a / 8:Nat):Int) b.ns.length).foldl rI x=b.NA (a / 8):=by unfold Bu.NA;rw[hwd,hx];rfl
   rw[ey]at gy;generalize b.NA (a / 8)=y at *;have hdt:d≠t:=λ q=>by have:=(hWd _ j.vt).2.2;omega
   have h8:a % 8<8:=Nat.mod_lt _ (by decide);have ixd:Op.aR 8 1 [.ptr t 0,.int .i64 ((a % 8:Nat):Int)]=B1 (.ptr t (a % 8)):=by rw[RR rfl h8,yu,Nat.mul_one]
   have ldd:Op.ae [.ptr t (a % 8)] Hd=B1 (.int .u64 (y.get (a % 8))):=by
    rw[x9 (xb gy)];show(cu y)[a % 8]? = _;unfold cu L8.get;rw[xp];obtain⟨u,hu⟩:∃u,y.l[a % 8]? = B1 u:=⟨_,xe (by rw[y.h];exact h8)⟩
    rw[hu];rfl
   simp only[aa,bc,e7,e8,w54,ixd,ldd,hZ,JR];refine⟨hgd,?_⟩;exact((R.trans r λ _ q=>q.elim).trans (W':=λ x=>x=t\/False) hfd λ z q=>q.elim (λ q=>.inr (by omega)) NP).set (.inr (by omega)) _
  .exact λ e d W Hd _ _ _ _ _ _ hS=>hS.elim
 have h3:=h.em f03;have hfl:b.fl.length<=900000:=hb.fl;have hln:=h3.fl.len zg;simp only[aa,bc,xf,lZ,<-e2,ht,st2,w22,w24,qo,h3.l2,hln];refine da.intro (λ m E Hx=>∃i:Nat,m=b.fl.length-i/\i<=b.fl.length/\E=[(46,.int .i64 (i:Int)),(45,.int .i64 ((b.fl.length:Nat):Int)),(44,s.fv),(8,.ptr t 0),(7,.int .i64 ((a % 8:Nat):Int)),(6,.int .i64 ((a / 8:Nat):Int)),(0,.ptr B 0),(1,.int .i64 (a:Int))]/\Fr Em H3 Hx /\ ∀m∈b.fl.take i,Ji ((a / 8:Nat):Int) m=B2) ?_ ?_
 .exact ⟨_,_,⟨0,rfl,xz _,rfl,Fr.refl _,λ m hm=>by simp at hm⟩,by simp only[aa,bc]⟩
 rintro m E Hx ⟨i,rfl,hi,rfl,R,T⟩;have gx:Hx.get t=B1 (OR (cu wd) zx):=by rw[R.ah _ (by omega) id];exact g3
 have nx:=R.au
 by_cases q:(i:Int)<((b.fl.length:Nat):Int)
 .obtain ⟨c,S⟩:∃m,b.fl[i]? = B1 m:=⟨_,xe (by omega)⟩
  have hf:=(h3.em R).fl.sl zg;have ix:=hf.idx S (z:=(i:Int)) rfl .i64;have ld:=hf.aq zg (by decide) S;have wi:aj .i64 ((i:Int)+1)=((i+1:Nat):Int):=by rw[ji (by omega) (by omega)];omega
  obtain⟨L,I⟩:∃X,X=Hx.alloc (OR (ao ⟨0,0,0,.zero⟩) xk):=⟨_,rfl⟩
  have f4:Fr Em Hx L:=by rw[I];exact(Fr.refl Hx).alloc _
  have g4:L.get Hx.au=B1 (OR (ao ⟨0,0,0,.zero⟩) xk):=by rw[I,xm]
  have J:=fE g4 (zg _) (zg c) (qT c);obtain⟨n,e5⟩:∃X,X=L.set Hx.au (OR (ao c) xk):=⟨_,rfl⟩
  rw[<-e5]at J;have f5:Fr Em Hx n:=by rw[e5];exact f4.set (.inr (qm _)) _
  have g5:n.get Hx.au=B1 (OR (ao c) xk):=by rw[e5,xc]
  have n5:=f5.au;have l0:Op.ae [.ptr Hx.au 0] n=B1 (.int .i64 c.k):=x9 (xb g5) 0;have l2:Op.ae [.ptr Hx.au 2] n=B1 (.int .i64 c.line):=x9 (xb g5) 2;have l8:Op.aq 8 [.ptr Hx.au 3] n=B1 (.agg (cu c.d)):=by
   rw[rR (xb g5) (by rw[zg];decide),show ao c=[.int .i64 c.k,.int .i64 c.core,.int .i64 c.line]++(cu c.d ++ [])by rw[zq];rfl,List.drop_left' (by rfl),List.take_left' (kq _)]
  have gt5:n.get t=B1 (OR (cu wd) zx):=by rw[f5.ah _ (by omega) id];exact gx
  have st8:=fE gt5 (kq _) (kq c.d) (tZ c.d);have r:=R.trans f5 λ _ q=>q.elim;have tk:b.fl.take (i+1)=b.fl.take i ++ [c]:=by rw[kc,S];rfl
  have on:Ji ((a / 8:Nat):Int) c=B2 -> ∀m∈b.fl.take (i+1),Ji ((a / 8:Nat):Int) m=false:=λ hq m hm=>by
   rw[tk]at hm;rcases z6.1 hm with w|w
   .exact T m w
   .rw [yj.1 w];exact hq
  have found:(c.line=((a / 8:Nat):Int)/\(c.k=3\/c.k=5))->c.d=wJ b.fl ((a / 8:Nat):Int) wd:=λ q=>(Gn S (jz q) T).symm;have F8:Fr Em H (n.set t (OR (cu c.d) zx)):=(f03.trans r λ _ q=>q.elim).set (.inr (by omega)) _
  by_cases ql:c.line=((a / 8:Nat):Int)
  .by_cases k3:c.k=3
   .simp only[aa,bc,K,q,w35,ix,ld,mZ,<-I,J,l2,qy ql,l0,qy k3,l8,st8,w47];refine rest _ c.d _ _ (λ _ _ _=>rfl) F8 (xc ..) (by show t<n.au;omega) (found ⟨ql,.inl k3⟩) ?_ ?_ ?_ ?_<;>rfl
   .by_cases k5:c.k=5
    .simp only[aa,bc,K,q,w35,ix,ld,mZ,<-I,J,l2,qy ql,l0,k3,qy k5,l8,st8,w47];refine rest _ c.d _ _ (λ _ _ _=>rfl) F8 (xc ..) (by show t<n.au;omega) (found ⟨ql,.inr k5⟩) ?_ ?_ ?_ ?_<;>rfl
    .simp only[aa,bc,K,q,w35,ix,ld,mZ,<-I,J,l2,qy ql,l0,k3,k5];simp only[aa,bc,w46,wi];exact⟨_,_,⟨i+1,rfl,by omega,rfl,r,on (js λ w=>w.2.elim k3 k5)⟩,by simp only[aa,bc],by omega⟩
  .simp only[aa,bc,K,q,w35,ix,ld,mZ,<-I,J,l2,ql];simp only[aa,bc,w46,wi];exact⟨_,_,⟨i+1,rfl,by omega,rfl,r,on (js λ w=>ql w.1)⟩,by simp only[aa,bc],by omega⟩
 .have e:i=b.fl.length:=by omega
  rw[e,ze (qm _)]at T;simp only[aa,bc,K,q,w47];refine rest Hx wd _ _ (λ _ _ _=>rfl) (f03.trans R λ _ q=>q.elim) gx (by omega) (Gk T).symm ?_ ?_ ?_ ?_<;>rfl
end
end Go.Am
namespace Go.Am
open Lang Go.Proofs
variable{M:ak}[MK M]
structure yF where
 kd:Int
 co:Int
 ad:Int
 v:Int
 n:Int
def kF(x:yF):List AV:=[.int .i64 x.kd,.int .i64 x.co,.int .i64 x.ad,.int .u64 x.v,.int .i64 x.n]
namespace Wo
def LF(x:Wo)(a:Act):xE (x.act a).1.b=xE x.b:=by
 show xE (x.jX a).1.b=xE x.b;unfold jX qY qU fault
 repeat' split
 all_goals first|rfl|exact Pu _ _|exact(CS.CN _).ns
def wA(x:Wo)(i:Int):Bool×Bool:=if 0<=i then match x.cs[i.toNat]? with
 |some c=>(c.halted,c.xU)
 |none=>(B2,B2)
 else(B2,B2)
def cnt(x:Wo)(w:yF):Nat:=x.h.countP λ e=>decide (e.kind=w.ad/\e.core=w.co)
def UC(x:Wo)(w:yF):Bool:=if w.kd=1 then decide ((x.b.uv w.ad).2=0/\(x.b.uv w.ad).1=w.v)else if w.kd=2 then decide (w.n<=(x.cnt w:Int))else if w.kd=3 then(x.wA w.co).1 else(x.wA w.co).2
end Wo
section
variable{H H':ar}{nb w k:Nat}{x:Wo}{F:Nat->Prop}
def EA{o:Nat->Nat}{p f l sp:Nat}{cv rv a pv:AV}{c:Co}{os:List eW}(h:dP H o p f l sp cv rv a pv c os k):∀K,C3 M B4 (.func UH) [.ptr p 0] H K=K B4 (.tuple [.bool c.halted,.bool c.xU]) H:=by
 refine dv (Δ ?_);simp only[aa,bc,_d,aw,Et h,h.bj]
def xif:zb M UH [.nilp] H λ v H'=>v=.tuple [.bool B2,.bool B2]/\H'=H:=by
 have a:∀H,Op.eq .ptr B2 [.nilp,.nilp] H=B1 (.bool B4):=λ _=>rfl;have nn:∀K,C3 M B4 (.func VZ) [.nilp] H K=K B4 (.bool B4) H:=by
  refine dv (Z2 ?_);simp only[aa,bc,hY,a]
 refine Δ ?_;simp only[aa,bc,_d,nn]
def xmk(h:W1 nb H w k x F)(i:Int):∀K,C3 M B4 (.func Wn) [.ptr w 0,.int .i64 i] H K=K B4 (.tuple [.bool (x.wA i).1,.bool (x.wA i).2]) H:=by
 have no:¬(0<=i/\i<x.cs.length)->x.wA i=(B2,B2) -> ∀K,C3 M B4 (.func Wn) [.ptr w 0,.int .i64 i] H K=K B4 (.tuple [.bool (x.wA i).1,.bool (x.wA i).2]) H:=λ q e=>by
  have⟨Hb,B,j,g,bs,own,ks,V,e',r,f⟩:=h;refine dv (_x ?_);simp only[aa,bc,qjx,_3 r q];refine C3.q xif λ v X⟨g,m⟩=>?_;subst g;subst m;simp only[aa,bc,aw,e]
 by_cases d:0<=i
 .cases a:x.cs[i.toNat]? with
  |some c =>
   obtain⟨p,o,f,l,sp,cv,rv,ha,hr⟩:=h.core (M:=M) a;rw[Md d]at ha;have e:x.wA i=(c.halted,c.xU):=by unfold Wo.wA;rw[xg d,a]
   rw[e];refine dv (_x ?_);simp only[aa,bc,qjx,ha,EA hr,aw]
  |none =>
   have:=List.getElem?_eq_none_iff.1 a;exact no (by omega) (by unfold Wo.wA;rw[xg d,a])
 .exact no (by omega) (by unfold Wo.wA;rw[qv d])
def MO(h:W1 nb H w k x F)(hl:x.b.l.length<=64)(hk:k<=90000)(a:Int):zb M xn [.ptr w 0,.int .i64 a] H λ v H'=>v=.tuple [.int .u64 (x.b.uv a).1,.int .i64 (x.b.uv a).2]/\Fr Em H H':=by
 have⟨Hb,B,d,c,bs,own,ks,V,e,r,f⟩:=h;have g:Op.eq .ptr B2 [.ptr w 0,.nilp] H=B1 (.bool B2):=rfl;have bs':∀K,C3 M B4 (.func qm4) [.ptr w 0] H K=K B4 (.ptr B 0) H:=by
  refine dv (qyo ?_);simp only[aa,bc,qyp,aw,g,r.bj]
 refine qpr ?_;simp only[aa,bc,qps,bs'];refine C3.q (show zb M ym [.ptr B 0,.int .i64 a] H λ v H'=>v=.tuple [.int .u64 (x.b.uv a).1,.int .i64 (x.b.uv a).2]/\Fr Em H H' from by
  unfold Bu.uv
  by_cases q:0<=a/\a<8*x.b.l.length
  .rw [xg q];obtain⟨n,rfl⟩:=jm q.1;exact q8g r.b (r.C.bb r.I (by omega)) r.I (by have:=r.b.lo B (.inl rfl);have:=r.b.lt;omega) (by omega) hl
  .rw [qv q];exact(xdc r.b hl q).mono λ v H'⟨a,b⟩=>⟨a,by rw[b];exact Fr.refl _⟩) λ v H'⟨c,f⟩=>?_
 subst c;simp only[aa,bc,aw];exact f
end
end Go.Am
namespace Go.Am
open Lang Go.Proofs
variable{M:ak}[MK M]
def HE(H:ar)(v:AV)(l:List Act):Prop:=bV Act.enc 3 H v l/\(l=[] \/ ∃b m rest,v=.gslice b 0 m 3 0 l.length/\b<H.au/\l.length<=m/\H.get b=B1 (.grown m 3 (l.flatMap Act.enc++rest) yD (0,0)))
def HE.of{H:ar}{v:AV}{l:List Act}(h:aT Act.enc yD 3 H v l):HE H v l:=by
 refine⟨aT.sl h,?_⟩;obtain⟨_,⟨a,_⟩|⟨b,rfl,c,d⟩⟩:=h
 .exact .inl (ku.1 a)
 .exact .inr ⟨b,_,[],rfl,c,qm _,by rw[zq];exact d⟩
def HE.em{H H':ar}{v:AV}{l:List Act}(h:HE H v l)(f:Fr Em H H'):HE H' v l :=
 ⟨Sl.em h.1 f,h.2.imp id λ⟨b,m,rest,a1,a2,a3,a4⟩=>⟨b,m,rest,a1,qn a2 f.au,a3,by rw[f.ah b a2 id];exact a4⟩⟩
end Go.Am
namespace Go.Am
open Lang Go.Proofs
variable{M:ak}[MK M]
def Ap(H:ar)(sv:List AV)(x0:Wo)(ok:Prop):Prop:=∃l c s wy f so sf pv fv ps fs,sv=Ws l c s wy pv f so sf fv/\bV lF 1 H pv ps/\(∀p∈ps,bV gR 1 H p.1 p.2/\vE H p.1/\p.2.length<=100000)/\bV cu 8 H fv fs/\(∀x∈fs,x.u)/\vE H fv/\x0=t5 l c s wy fs (ps.map CD) f so sf/\ok=UD l c s wy fs (ps.map CD).length f so sf
section
variable{H H':ar}{sv:List AV}{x0:Wo}{ok:Prop}
def Ap.em(h:Ap H sv x0 ok)(f:Fr Em H H'):Ap H' sv x0 ok:=by
 have⟨l,c,s,t,f',so,r,pv,fv,o,fs,d,e,a,g,j,m,n⟩:=h;exact⟨l,c,s,t,f',so,r,pv,fv,o,fs,d,Sl.em e f,λ p q=>⟨Sl.em (a p q).1 f,(a p q).2.1.em f.au,(a p q).2.2⟩,Sl.em g f,j,m.em f.au,n⟩
def Ap.len(h:Ap H sv x0 ok):sv.length=9:=by
 have⟨l,c,s,f,f',so,e,pv,fv,d,fs,a,_⟩:=h;rw[a];rfl
def Ap.zero(h:Ap H sv x0 ok)(a:ok):x0.h=[]/\x0.n=0/\x0.b.l.length<=64:=by
 have⟨l,c,s,z,f',so,v,pv,fv,u,fs,g,j,m,o,r,t,e,f⟩:=h;subst e;rw[f]at a;refine⟨rfl,rfl,?_⟩;have d:=a.1.1.1.1.2;show(JK l.toNat iG).length<=64;rw[jc];omega
def Ap.new{b T:Nat}(h:Ap H sv x0 ok)(g:H.get b=B1 (OR sv T)):∃a p u q,Op.aq 4 [.ptr b 0] H=B1 a/\Op.ae [.ptr b 4] H=B1 p/\Op.aq 3 [.ptr b 5] H=B1 u/\Op.ae [.ptr b 8] H=B1 q /\
 zb M Uo [a,p,u,q] H λ v H'=>Fr Em H H'/\(¬ok/\v=.tuple [.nilp,.int .i64 2]\/ok /\ ∃w nb,v=.tuple [.ptr w 0,.int .i64 0]/\H.au<=nb/\W1 nb H' w 0 x0 Em):=by
 have⟨l,c,s,K,f',so,J,pv,fv,L,fs,o,t,d,m,A,C,D,E⟩:=h;subst o;refine⟨.agg (eB l c s K),pv,.agg [.int .i64 f',.int .i64 so,.int .i64 J],fv,by rw[rR (xb g) (by show 0+4<=9;decide)];rfl,yv g 4,by rw[rR (xb g) (by show 5+3<=9;decide)];rfl,yv g 8,?_⟩;refine(xjn t (λ p q=>⟨(d p q).1,(d p q).2.1.lt (d p q).1,(d p q).2.2⟩) m (λ q=>C.lt m q) A).mono λ v H'⟨f,r⟩=>⟨f,?_⟩
 rw[D,E];rcases r with r|⟨r,Hb,w,B,j,bs,own,ks,V,e,n,I⟩
 .exact .inl r
 .exact .inr ⟨r,w,_,e,n,Hb,B,j,.nils,bs,own,ks,V,rfl,I,λ z q=>q.elim⟩
def MH(ok:Prop)(y:yF)(n:Nat):Prop:=ok/\1<=y.kd/\y.kd<=4/\n<=40
def Ig{b T:Nat}{y:yF}(g:H.get b=B1 (OR (kF y) T)):Op.ae [.ptr b 0] H=B1 (.int .i64 y.kd)/\Op.ae [.ptr b 1] H=B1 (.int .i64 y.co)/\Op.ae [.ptr b 2] H=B1 (.int .i64 y.ad)/\Op.ae [.ptr b 3] H=B1 (.int .u64 y.v)/\Op.ae [.ptr b 4] H=B1 (.int .i64 y.n)/\Op.aq 5 [.ptr b 0] H=B1 (.agg (kF y)):=⟨yv g 0,yv g 1,yv g 2,yv g 3,yv g 4,eI g rfl⟩
def MdQ(H:ar)(x0:Wo)(o:Prop)(v:AV)(H':ar):Prop:=Fr Em H H'/\(¬o/\v=.tuple [.nilp,.int .i64 2]\/o /\ ∃w nb,v=.tuple [.ptr w 0,.int .i64 0]/\H.au<=nb/\W1 nb H' w 0 x0 Em)
def n_(h:Ap H sv x0 ok){lv:AV}{n:Nat}(hl:Op.db [lv]=B1 (.int .i64 (n:Int)))(y:yF):zb M qul [.agg sv,lv,.agg (kF y)] H (MdQ H x0 (MH ok y n)):=by
 refine xag ?_;have⟨H1,e1,A,n1,C⟩:=cD H (OR sv Ms);have⟨t,e2,c,n2,D⟩:=cD H1 (OR (kF y) BN);have j:=A.em c;have l:t.get H.au=B1 (OR sv Ms):=(c.ah _ (by omega) id).trans C;obtain⟨a,p,u,q,K,I,J,L,hn⟩:=(h.em j).new (M:=M) l;simp only[aa,bc,NX,<-e1,<-e2,K,I,J,L];refine C3.q hn λ v z⟨o,r⟩=>?_;have F:=j.em o;have N:¬(2:Int)=0:=by decide
 have f:¬ ¬(0:Int)=0:=λ q=>q rfl;rcases r with⟨no,rfl⟩|⟨yes,w,nb,rfl,nn,hw⟩
 .simp only[aa,bc,NX,aw,N];exact⟨F,.inl ⟨λ q=>no q.1,rfl⟩⟩
 have E:z.get H1.au=B1 (OR (kF y) BN):=(o.ah _ (by omega) id).trans D;obtain⟨e,-⟩:=Ig E
 by_cases d:y.kd<1
 .simp only[aa,bc,NX,aw,f,e,qy d];exact⟨F,.inl ⟨λ q=>by have:=q.2.1;omega,rfl⟩⟩
 by_cases g:4<y.kd
 .simp only[aa,bc,NX,aw,f,e,d,qy g];exact⟨F,.inl ⟨λ q=>by have:=q.2.2.1;omega,rfl⟩⟩
 by_cases m:(40:Int)<(n:Int)
 .simp only[aa,bc,NX,aw,f,e,d,g,hl,qy m];exact⟨F,.inl ⟨λ q=>by have:=q.2.2.2;omega,rfl⟩⟩
 .simp only[aa,bc,NX,aw,f,e,d,g,hl,m];exact⟨F,.inr ⟨⟨yes,by omega,by omega,by omega⟩,w,nb,rfl,by have:=j.au;omega,hw⟩⟩
end
section
variable{H H':ar}{nb w k:Nat}{x:Wo}{F:Nat->Prop}
def xd4(h:W1 nb H w k x F)(hl:x.h.length<=100000)(kd co:Int):zb M tN [.ptr w 0,.int .i64 kd,.int .i64 co] H λ v H'=>v=.int .i64 ((x.h.countP λ e=>decide (e.kind=kd/\e.core=co):Nat):Int)/\Fr Em H H':=by
 refine q5o ?_;simp only[aa,bc,Qy];refine C3.q (Gg h hl) λ r H1⟨hs,C⟩=>?_;have ln:=hs.len;simp only[aa,bc,ln];refine da.intro (λ n E Hx=>∃i:Nat,E=[(13,.int .i64 (i:Int)),(12,.int .i64 ((x.h.length:Nat):Int)),(11,r),(7,.int .i64 (((x.h.take i).countP λ e=>decide (e.kind=kd/\e.core=co):Nat):Int)),(1,.int .i64 kd),(2,.int .i64 co)]/\Fr Em H1 Hx/\n=x.h.length-i/\i<=x.h.length) ?_ ?_
 .exact ⟨_,_,⟨0,rfl,Fr.refl _,rfl,xz _⟩,by simp only[aa,bc,yq,List.countP_nil]⟩
 rintro n E Hx ⟨i,rfl,f,rfl,I⟩
 by_cases a:i<x.h.length
 .have q:(i:Int)<((x.h.length:Nat):Int):=by omega
  obtain⟨e,he⟩:∃e,x.h[i]? = B1 e:=⟨_,xe a⟩
  have A:=Sl.em hs f;have ix:=(show bV eW.enc 9 Hx r x.h from A).idx he (z:=(i:Int)) rfl .i64;have ld:=(show bV eW.enc 9 Hx r x.h from A).aq xku (by decide) he;have t:aj .i64 ((i:Int)+1)=((i+1:Nat):Int):=by rw[ji (by omega) (by omega)];omega
  have tk:x.h.take (i+1)=x.h.take i ++ [e]:=by rw[kc,he];rfl
  obtain⟨c,d⟩:∃c,c=(x.h.take i).countP λ e=>decide (e.kind=kd/\e.core=co):=⟨_,rfl⟩
  have cl:c<=i:=by rw[d];exact xw (List.countP_le_length) (by rw[ya];omega)
  have D:aj .i64 ((c:Int)+1)=((c+1:Nat):Int):=by rw[ji (by omega) (by omega)];omega
  have⟨m,e2,o,n2,u⟩:=cD Hx (OR e.enc jj);have s2:Op.store 9 [.ptr Hx.au 0,.agg e.enc] (Hx.alloc (OR [.int .i64 0,.int .i64 0,.int .i64 0,.int .i64 0,.int .i64 0,.int .i64 0,.int .i64 0,.int .u64 0,.int .i64 0] jj))=B1 (.undef,m):=by rw[fE (n:=9) (l:=[.int .i64 0,.int .i64 0,.int .i64 0,.int .i64 0,.int .i64 0,.int .i64 0,.int .i64 0,.int .u64 0,.int .i64 0]) (xm Hx _) rfl (xku e) rfl,Np,e2]
  have l0:Op.ae [.ptr Hx.au 0] m=B1 (.int .i64 e.kind):=yv u 0;have l2:Op.ae [.ptr Hx.au 2] m=B1 (.int .i64 e.core):=yv u 2
  by_cases g:e.kind=kd
  .by_cases j:e.core=co
   .simp only[aa,bc,Qy,qy q,ix,ld,s2,l0,qy g,l2,qy j,<-d,D,t];refine⟨_,_,⟨i+1,rfl,f.em o,rfl,a⟩,by simp only[aa,bc,tk,List.countP_append,<-d];simp[g,j],by omega⟩
   .simp only[aa,bc,Qy,qy q,ix,ld,s2,l0,qy g,l2,j,<-d,t];refine⟨_,_,⟨i+1,rfl,f.em o,rfl,a⟩,by simp only[aa,bc,tk,List.countP_append,<-d];simp[j],by omega⟩
  .simp only[aa,bc,Qy,qy q,ix,ld,s2,l0,g,<-d,t];refine⟨_,_,⟨i+1,rfl,f.em o,rfl,a⟩,by simp only[aa,bc,tk,List.countP_append,<-d];simp[g],by omega⟩
 .have q:¬(i:Int)<((x.h.length:Nat):Int):=by omega
  simp only[aa,bc,Qy,q];rw[ze (by omega)];exact⟨rfl,C.em f⟩
def Dy(h:W1 nb H w k x F)(z:x.h.length<=100000)(hl:x.b.l.length<=64)(hk:k<=90000)(y:yF):zb M Vh [.ptr w 0,.agg (kF y)] H λ v H'=>v=.bool (x.UC y)/\Fr Em H H':=by
 refine xc0 ?_;have⟨H1,e1,d,n1,m⟩:=cD H (OR (kF y) BN);have⟨D,t,u,I,E,J⟩:=Ig m;have o:=h.em d;unfold Wo.UC;simp only[aa,bc,JC,<-e1,t,xmk o y.co,aw,D]
 by_cases a:y.kd=1
 .rw [xg a];simp only[aa,bc,JC,qy a,u];refine C3.q (MO o hl hk y.ad) λ v j⟨r,e⟩=>?_;subst r;have n:j.get H.au=B1 (OR (kF y) BN):=(e.ah _ (by omega) id).trans m;obtain⟨-,-,-,A,-⟩:=Ig n
  by_cases c:(x.b.uv y.ad).2=0
  .simp only[aa,bc,JC,aw,qy c,A];exact d.em e
  .simp only[aa,bc,JC,aw,c];exact d.em e
 rw[qv a]
 by_cases f:y.kd=2
 .rw [xg f];simp only[aa,bc,JC,a,qy f,u,t,E];refine C3.q (xd4 o z y.ad y.co) λ v j⟨r,e⟩=>?_;subst r;have n:j.get H.au=B1 (OR (kF y) BN):=(e.ah _ (by omega) id).trans m;obtain⟨-,-,-,-,C,-⟩:=Ig n;simp only[aa,bc,JC,C];exact⟨rfl,d.em e⟩
 rw[qv f]
 by_cases g:y.kd=3
 .rw [xg g];simp only[aa,bc,JC,a,f,qy g];exact d
 .rw [qv g];simp only[aa,bc,JC,a,f,g];exact d
end
end Go.Am
namespace Go.Am
open Lang Go.Proofs
variable{M:ak}[MK M]
def PW(x0:Wo)(y:yF)(l:List Act):Bool:=(x0.run l).1.UC y
def Cj:∀(l:List Act)(x:Wo),xE (x.run l).1.b=xE x.b
 |[],x=>rfl
 |a::l,x=>(Cj l _).trans (x.LF a)
structure Ay(H0:ar)(nb w:Nat)(x0:Wo)(ls:List Act)(i:Nat)(Hx:ar):Prop where
 w:∃F,W1 nb Hx w (2*i) (x0.run (ls.take i)).1 F /\ ∀z,z<nb->F z
 fr:Fr Em H0 Hx
section
variable{H0 H H' Hx:ar}{nb w i:Nat}{x0:Wo}{ls:List Act}{sv:List AV}{ok:Prop}{lv:AV}
def Ay.em(h:Ay H0 nb w x0 ls i H)(f:Fr Em H H'):Ay H0 nb w x0 ls i H':=by
 have⟨F,a,b⟩:=h.w;exact⟨⟨_,a.em f,λ z q=>.inl (b z q)⟩,h.fr.em f⟩
def Ay.new(h:W1 nb H w 0 x0 Em)(f:Fr Em H0 H):Ay H0 nb w x0 ls 0 H:=⟨⟨_,h.below,λ z q=>.inr q⟩,f⟩
def Ay.do(h:Ay H0 nb w x0 ls i Hx){a:Act}(ha:ls[i]? = B1 a)(f:x0.h=[]/\x0.n=0/\x0.b.l.length<=64)(t:i<=1000)(d:p5 H0)(hn:H0.au<=nb):zb M Ue [.ptr w 0,.agg a.enc] Hx λ _ H'=>Ay H0 nb w x0 ls (i+1) H':=by
 have⟨F,g,c⟩:=h.w;have u:(ls.take i).length<=i:=by rw[ya];omega
 have m:=Wo.Jj (ls.take i) x0;have j:=Wo.BK (ls.take i) x0;have r:=d.2;rw[f.1,kr]at j;rw[f.2.1]at m;refine(O3 g (by omega) (d.em h.fr) (by omega) (by omega) (by omega) (by omega) a).mono λ v H'⟨_,p⟩=>?_;have e:(x0.run (ls.take (i+1))).1=((x0.run (ls.take i)).1.act a).1:=by
  rw[kc,ha,show(B1 a).toList=[a]from rfl,Wo.xQ];rfl
 refine⟨⟨λ z=>F z\/Em z,by rw[e];exact p.w,λ z q=>.inl (c z q)⟩,xw h.fr.au p.n,λ z o q=>(p.kp z (c z (by omega))).trans (h.fr.ah z o q)⟩
def Ay.has(h:Ay H0 nb w x0 ls i Hx)(c:x0.h=[]/\x0.n=0/\x0.b.l.length<=64)(f:i<=1000)(y:yF):zb M Vh [.ptr w 0,.agg (kF y)] Hx λ v H'=>v=.bool (PW x0 y (ls.take i))/\Fr Em Hx H':=by
 have⟨F,a,e⟩:=h.w;have g:(ls.take i).length<=i:=by rw[ya];omega
 have d:=Wo.BK (ls.take i) x0;rw[c.1,kr]at d;have j:((x0.run (ls.take i)).1.b).l.length=x0.b.l.length:=congrArg CD (Cj (ls.take i) x0);exact Dy a (by omega) (by omega) (by omega) y
def HdQ(H:ar)(o:Prop)(b:Bool)(v:AV)(H':ar):Prop:=Fr Em H H'/\(¬o/\v=.tuple [.bool B2,.int .i64 2]\/o/\v=.tuple [.bool b,.int .i64 0])
def Zf:[AV.int .i64 0,.int .i64 0,.int .i64 0]=Act.enc ⟨0,0,0⟩:=rfl
def ν(h:Ap H sv x0 ok)(hs:bV Act.enc 3 H lv ls)(O:p5 H)(y:yF):zb M fS [.agg sv,lv,.agg (kF y)] H (HdQ H (MH ok y ls.length) (PW x0 y ls)):=by
 refine q67 ?_;have⟨H1,e1,I,n1,L⟩:=cD H (OR sv Ms);have⟨l,e2,d,n2,o⟩:=cD H1 (OR (kF y) BN);have c:=I.em d;have R:Op.aq 9 [.ptr H.au 0] l=B1 (.agg sv):=eI ((d.ah _ (by omega) id).trans L) h.len;obtain⟨-,-,-,-,-,j⟩:=Ig o;have ln:=(Sl.em hs c).len;simp only[aa,bc,K1,<-e1,<-e2,R,j];refine C3.q (n_ (h.em c) ln y) λ v Z⟨m,r⟩=>?_;have X:¬(2:Int)=0:=by decide
 have U:¬ ¬(0:Int)=0:=λ q=>q rfl;rcases r with⟨no,rfl⟩|⟨yes,w,nb,rfl,nn,hw⟩
 .simp only[aa,bc,K1,aw,X];exact⟨c.em m,.inl ⟨no,rfl⟩⟩
 have t:=h.zero yes.1;have S:=yes.2.2.2;simp only[aa,bc,K1,aw,U,ln];refine da.intro (λ n E Hx=>∃i:Nat,E=[(24,.int .i64 (i:Int)),(23,.int .i64 ((ls.length:Nat):Int)),(22,lv),(8,.ptr w 0),(5,.ptr H1.au 0)]/\Ay l nb w x0 ls i Hx/\n=ls.length-i/\i<=ls.length) ?_ ?_
 .exact ⟨_,_,⟨0,rfl,.new hw m,rfl,xz _⟩,by simp only[aa,bc]⟩
 rintro n E Hx ⟨i,rfl,e,rfl,hi⟩
 by_cases f:i<ls.length
 .have q:(i:Int)<((ls.length:Nat):Int):=by omega
  obtain⟨a,ha⟩:∃a,ls[i]? = B1 a:=⟨_,xe f⟩
  have u:=Sl.em hs (c.em e.fr);have ix:=(show bV Act.enc 3 Hx lv ls from u).idx ha (z:=(i:Int)) rfl .i64;have ld:=(show bV Act.enc 3 Hx lv ls from u).aq Act.len (by decide) ha;have Y:aj .i64 ((i:Int)+1)=((i+1:Nat):Int):=by rw[ji (by omega) (by omega)];omega
  have⟨A,D,J,n4,N⟩:=cD Hx (OR a.enc yD);have W:Op.store 3 [.ptr Hx.au 0,.agg a.enc] (Hx.alloc (OR (Act.enc ⟨0,0,0⟩) yD))=B1 (.undef,A):=by rw[fE (xm Hx _) (Act.len _) (Act.len a) (Act.one a),Np,D]
  have l4:=eI N (Act.len a);simp only[aa,bc,K1,qy q,ix,ld,Zf,W,l4];refine C3.q ((e.em J).do ha t (by omega) (O.em c) nn) λ v C g=>?_;simp only[aa,bc,K1,Y];exact⟨_,_,⟨i+1,rfl,g,rfl,f⟩,by simp only[aa,bc],by omega⟩
 .have q:¬(i:Int)<((ls.length:Nat):Int):=by omega
  obtain⟨-,-,-,-,-,j⟩:=Ig (H:=Hx) (y:=y) (b:=H1.au) (T:=BN) ((e.fr.ah _ (by omega) id).trans o);simp only[aa,bc,K1,q,j];refine C3.q (e.has t (by omega) y) λ v C⟨Q,K⟩=>?_;subst Q;rw[ze (by omega)];simp only[aa,bc,K1];exact⟨(c.em e.fr).em K,.inr ⟨yes,rfl⟩⟩
def Qv(o:Option Nat):AV:=match o with
 |some n=>.tuple [.int .i64 (n:Int),.int .i64 0]
 |none=>.tuple [.int .i64 0,.int .i64 280]
def FsQ(H:ar)(o:Prop)(b:Option Nat)(v:AV)(H':ar):Prop:=Fr Em H H'/\(¬o/\v=.tuple [.int .i64 0,.int .i64 2]\/o/\v=Qv b)
def q7a(h:Ap H sv x0 ok)(hs:bV Act.enc 3 H lv ls)(S:p5 H)(y:yF):zb M E1 [.agg sv,lv,.agg (kF y)] H (FsQ H (MH ok y ls.length) (ur (PW x0 y) ls)):=by
 refine q66 ?_;have⟨H1,e1,O,n1,R⟩:=cD H (OR sv Ms);have⟨C,e2,g,n2,J⟩:=cD H1 (OR (kF y) BN);have d:=O.em g;have W:Op.aq 9 [.ptr H.au 0] C=B1 (.agg sv):=eI ((g.ah _ (by omega) id).trans R) h.len;obtain⟨-,-,-,-,-,u⟩:=Ig J;have ln:=(Sl.em hs d).len;simp only[aa,bc,GC,<-e1,<-e2,W,u];refine C3.q (n_ (h.em d) ln y) λ v H3⟨I,r⟩=>?_;have Z:¬(2:Int)=0:=by decide
 have Y:¬ ¬(0:Int)=0:=λ q=>q rfl;rcases r with⟨no,rfl⟩|⟨yes,w,nb,rfl,nn,hw⟩
 .simp only[aa,bc,GC,aw,Z];exact⟨d.em I,.inl ⟨no,rfl⟩⟩
 have K:=h.zero yes.1;have X:=yes.2.2.2;have wl:aj .i64 (((ls.length:Nat):Int)+1)=((ls.length+1:Nat):Int):=by rw[ji (by omega) (by omega)];omega
 simp only[aa,bc,GC,aw,Y,ln,wl];refine da.intro (λ n E Hx=>∃i:Nat,E=[(24,.int .i64 (i:Int)),(23,.int .i64 ((ls.length+1:Nat):Int)),(8,.ptr w 0),(5,.ptr H1.au 0),(1,lv)]/\Ay C nb w x0 ls (min i ls.length) Hx/\n=ls.length+1-i/\i<=ls.length+1 /\ ∀k,k<i->PW x0 y (ls.take k)=B2) ?_ ?_
 .exact ⟨_,_,⟨0,rfl,by rw[Nat.zero_min];exact .new hw I,rfl,xz _,λ k q=>by omega⟩,by simp only[aa,bc]⟩
 rintro n E Hx ⟨i,rfl,j,rfl,hi,f⟩
 by_cases l:i<ls.length+1
 .have q:(i:Int)<((ls.length+1:Nat):Int):=by omega
  rw[show min i ls.length=i by omega]at j;have N:aj .i64 ((i:Int)+1)=((i+1:Nat):Int):=by rw[ji (by omega) (by omega)];omega
  obtain⟨-,-,-,-,-,u⟩:=Ig (H:=Hx) (y:=y) (b:=H1.au) (T:=BN) ((j.fr.ah _ (by omega) id).trans J);simp only[aa,bc,GC,qy q,u];refine C3.q (j.has K (by omega) y) λ v D⟨U,Q⟩=>?_;subst U;have c:=j.em Q;cases hp:PW x0 y (ls.take i)with
  |true =>
   simp only[aa,bc,GC];exact⟨d.em c.fr,.inr ⟨yes,by rw[nz _ (by omega) hp f];rfl⟩⟩
  |false =>
   have m:∀k,k<i+1->PW x0 y (ls.take k)=false:=λ k hk=>by
    by_cases e:k=i
    .rw [e];exact hp
    .exact f k (by omega)
   by_cases t:i<ls.length
   .have A:(i:Int)<((ls.length:Nat):Int):=by omega
    obtain⟨a,ha⟩:∃a,ls[i]? = B1 a:=⟨_,xe t⟩
    have L:=Sl.em hs (d.em c.fr);have ix:=(show bV Act.enc 3 D lv ls from L).idx ha (z:=(i:Int)) rfl .i64;have ld:=(show bV Act.enc 3 D lv ls from L).aq Act.len (by decide) ha;simp only[aa,bc,GC,ln,qy A,ix,ld];refine C3.q (c.do ha K (by omega) (S.em d) nn) λ v H6 o=>?_;simp only[aa,bc,GC,N];exact⟨_,_,⟨i+1,rfl,by rw[show min (i+1) ls.length=i+1 by omega];exact o,rfl,l,m⟩,by simp only[aa,bc],by omega⟩
   .have A:¬(i:Int)<((ls.length:Nat):Int):=by omega
    simp only[aa,bc,GC,ln,A,N];exact⟨_,_,⟨i+1,rfl,by rw[show min (i+1) ls.length=i by omega];exact c,rfl,l,m⟩,by simp only[aa,bc],by omega⟩
 .have q:¬(i:Int)<((ls.length+1:Nat):Int):=by omega
  simp only[aa,bc,GC,q];exact⟨d.em j.fr,.inr ⟨yes,by rw[HF _ λ k hk=>f k (by omega)];rfl⟩⟩
end
end Go.Am
namespace Go.Am
open Lang Go.Proofs
variable{M:ak}[MK M]
section
variable{H0 H H' Hx:ar}{nb w i:Nat}{x0:Wo}{ls:List Act}{sv:List AV}{ok:Prop}{lv:AV}
def MH.less{y:yF}{n m:Nat}(h:MH ok y n)(q:m<=n):MH ok y m:=⟨h.1,h.2.1,h.2.2.1,by have:=h.2.2.2;omega⟩
structure U4(P:List Act->Bool)(l0:List Act)(n2 b j:Nat)(V:Nat->Prop)(Hx:ar):Prop where
 vt:V b
 bx:∃v l,Hx.get b=B1 (OR [v] PJ)/\HE Hx v l/\(∀z,aM v z->n2<=z/\V z/\z≠b)/\ZB P (l0.length-j) l=Rj P l0/\l0.length-j<=l.length/\l.length<=l0.length/\(j=0->l=l0)/\P l=B4
 lt:b<Hx.au
def HE.fr{W:Nat->Prop}{v:AV}{l:List Act}(h:HE H v l)(f:Fr W H H')(hw:∀z,aM v z -> ¬W z):HE H' v l:=by
 refine⟨?_,h.2.imp id λ⟨b,m,rest,a1,a2,a3,a4⟩=>⟨b,m,rest,a1,qn a2 f.au,a3,by rw[f.ah b a2 (hw b (by rw[a1];exact⟨by simp,rfl⟩))];exact a4⟩⟩;rcases h.2 with rfl|⟨b,m,rest,rfl,_⟩
 .exact Sl.fr h.1 f (.inl rfl)
 .exact Sl.fr h.1 f (.inr (hw b ⟨by simp,rfl⟩))
def U4.loc{P:List Act->Bool}{l0:List Act}{n2 b j:Nat}{V:Nat->Prop}(h:U4 P l0 n2 b j V H)(hs:∀x,V x->H'.get x=H.get x)(hn:H.au<=H'.au):U4 P l0 n2 b j V H':=by
 obtain⟨v,l,c,d,a,e⟩:=h.bx;exact⟨h.vt,⟨v,l,by rw[hs _ h.vt];exact c,d.fr (W:=λ b=>¬V b) ⟨hn,λ b _ hw=>hs b (vx.1 hw)⟩ λ z q w=>w (a z q).2.1,a,e⟩,qn h.lt hn⟩
end
end Go.Am
namespace Go.Am
open Lang Go.Proofs
variable{M:ak}[MK M]
section
open Go.RowKit
def ag7{P:JL}{tL tA e:M8}{g:Array Field}(z:P.underlying tL=B1 (.slice tA))(uA:P.underlying tA=B1 (.struct g))(r:g.toList.map (·.type)=[e,e,e])(uN:P.underlying e=B1 (.int .i64))(t:Fj P 0 g.toList=B4)(v:(g.toList.map λ f=>P.cellsOf f.type).sum=P.cellsOf tA)(j:P.cellsOf tA=3) :
 pA P tL λ H l=>∃u,l=[u] /\ ∃ls:List Act,bV Act.enc 3 H u ls:=by
 refine(R8 z (Xw (n:=3) uA r uN t v) (by rw[j];decide)).imp ?_ λ H l h=>?_
 .rintro H H' l ⟨u,d,xs,m⟩ f;exact⟨u,d,xs,m.em f⟩
 .obtain ⟨u,rfl,d,m⟩:=h;rw[j]at d;have⟨xs,o,_⟩:=TR (enc:=Act.enc) (Q:=λ _=>True) (λ l h=>by
   obtain⟨_,_,rfl,⟨a,rfl,_⟩,_,_,rfl,⟨b,rfl,_⟩,_,_,rfl,⟨c,rfl,_⟩,rfl⟩:=h;exact⟨⟨a,b,c⟩,rfl,trivial⟩) d
  exact⟨u,rfl,xs,o⟩
def Dm(_:ar)(u:List AV):Prop:=∃y:yF,u=kF y
def GZ{P:JL}{tW g tU:M8}{j:Array Field}(uW:P.underlying tW=B1 (.struct j))(m:j.toList.map (·.type)=[g,g,g,tU,g])(uN:P.underlying g=B1 (.int .i64))(t:P.underlying tU=B1 (.int .u64))(o:Fj P 0 j.toList=B4)(r:(j.toList.map λ f=>P.cellsOf f.type).sum=P.cellsOf tW):pA P tW Dm:=by
 have hm:j.toList.length=5:=by have:=congrArg List.length m;simpa using this
 refine(Xi (Rs:=[λ _ l=>jV .i64 l,λ _ l=>jV .i64 l,λ _ l=>jV .i64 l,λ _ l=>jV .u64 l,λ _ l=>jV .i64 l]) uW (by rw[hm];rfl)
  (SN (f:=Field.type) (Q:=pA P) _ _ (by
   rw[m];intro x n;simp only[List.zip_cons_cons,List.zip_nil_right,j7,LM,or_false]at n;rcases n with rfl|rfl|rfl|rfl|rfl
   .exact (II (Jt uN)).I4
   .exact (II (Jt uN)).I4
   .exact (II (Jt uN)).I4
   .exact (II (Jt t)).I4
   .exact (II (Jt uN)).I4)) o r).imp (λ _ _ _ h _=>h) λ H l h=>?_
 obtain⟨_,_,rfl,⟨a,rfl,_⟩,_,_,rfl,⟨b,rfl,_⟩,_,_,rfl,⟨c,rfl,_⟩,_,_,rfl,⟨d,rfl,_⟩,_,_,rfl,⟨e,rfl,_⟩,rfl⟩:=h;exact⟨⟨a,b,c,d,e⟩,rfl⟩
end
def xk8{n:Nat}:∀{l:List Nat},n∈l->n<=l.sum
 |a::l,h=>by
  rw[List.sum_cons];rcases j7.1 h with rfl|h
  .omega
  .have:=xk8 h;omega
def GrQ(H:ar)(sv:List AV)(v:AV)(H':ar):Prop:=Fr Em H H'/\(v=.int .i64 1\/v=.int .i64 0 /\ ∃x0 ok,Ap H sv x0 ok)
def xg4{H:ar}{sv:List AV}(h:kJ H sv):zb M quj [.agg sv] H (GrQ H sv):=by
 have⟨l,c,s,S,f,so,Q,pv,fv,a,fs,T,O,j,N,D,C,W⟩:=h;subst T;refine q9k ?_;have⟨H1,e1,m,n1,L⟩:=cD H (OR (Ws l c s S pv f so Q fv) Ms);have l4:Op.ae [.ptr H.au 4] H1=B1 pv:=yv L 4;have I:Op.ae [.ptr H.au 8] H1=B1 fv:=yv L 8;have J:=Sl.em O m;have pl:=(show bV lF 1 H1 pv a from J).len;have fl:=(Sl.em N m).len;have R:reachBytes=140737488351232:=by decide
 -- so many bytes in the first ones
 obtain⟨d,g⟩:∃d:Nat->Nat,d=λ i=>((a.take i).map λ p=>p.2.length).sum:=⟨_,rfl⟩
 have s0:d 0=0:=by rw[g];rfl
 have ss:∀{i p},a[i]? = B1 p->d (i+1)=d i+p.2.length:=λ{i p}hp=>by
  rw[g];show(((a.take (i+1)).map λ p=>p.2.length).sum)=_;rw[kc,hp,HB,List.sum_append];simp
 have sb:∀i,i<=10->d i<=i*reachBytes:=λ i=>by
  induction i with
  |zero=>intro _;rw[s0];exact xz _
  |succ i ih =>
   intro q;have:=ih (by omega);cases hp:a[i]? with
   |some p=>rw[ss hp];have:=(j p (zd hp)).2.2.2;rw[yt];omega
   |none =>
    have e:a.take (i+1)=a.take i:=by rw[kc,hp];simp
    have:d (i+1)=d i:=by rw[g];show((a.take (i+1)).map _).sum=_;rw[e]
    rw[this,yt];omega
 simp only[aa,bc,Kl,<-e1];refine da.intro (λ n E Hx=>∃(i:Nat)(z:Int),E=[(4,.int .i64 (i:Int)),(3,.int .i64 z),(1,.ptr H.au 0)]/\Hx=H1/\n=a.length-i/\i<=a.length/\(a.length<=10->z=(d i:Nat))) ?_ ?_
 .exact ⟨_,_,⟨0,0,rfl,rfl,rfl,xz _,λ _=>by rw[s0];rfl⟩,by simp only[aa,bc]⟩
 rintro n E Hx ⟨i,z,rfl,rfl,rfl,Z,u⟩
 by_cases o:i<a.length
 .have q:(i:Int)<((a.length:Nat):Int):=by omega
  obtain⟨p,hp⟩:∃p,a[i]? = B1 p:=⟨_,xe o⟩
  have ix:=(show bV lF 1 Hx pv a from J).idx hp (z:=(i:Int)) rfl .i64;have ld:Op.ae [.ptr (aE pv) (cM 1 pv i)] Hx=B1 p.1:=(show bV lF 1 Hx pv a from J).kW xbg hp (by decide);have r:=j p (zd hp);have X:=(Sl.em r.1 m).len;have Y:aj .i64 ((i:Int)+1)=((i+1:Nat):Int):=by rw[ji (by omega) (by omega)];omega
  simp only[aa,bc,Kl,l4,pl,qy q,ix,ld,X,Y];refine⟨_,_,⟨i+1,aj .i64 (z+(p.2.length:Int)),rfl,rfl,o,λ A=>?_⟩,by simp only[aa,bc],by omega⟩;have:=sb i (by omega);have:=jw reachBytes (show i<=10 by omega);have:=r.2.2.2;rw[u A,ss hp,ji (by omega) (by omega)];omega
 .have q:¬(i:Int)<((a.length:Nat):Int):=by omega
  have U:i=a.length:=by omega
  simp only[aa,bc,Kl,l4,pl,q]
  by_cases t:(10:Int)<((a.length:Nat):Int)
  .simp only[aa,bc,Kl,qy t];exact⟨m,.inl rfl⟩
  by_cases v:(100:Int)<((fs.length:Nat):Int)
  .simp only[aa,bc,Kl,t,I,fl,qy v];exact⟨m,.inl rfl⟩
  by_cases K:(2000:Int)<z
  .simp only[aa,bc,Kl,t,I,fl,v,qy K];exact⟨m,.inl rfl⟩
  .simp only[aa,bc,Kl,t,I,fl,v,K];refine⟨m,.inr ⟨rfl,_,_,l,c,s,S,f,so,Q,pv,fv,a,fs,rfl,O,λ p w=>⟨(j p w).1,(j p w).2.2.1,?_⟩,N,D,C,rfl,rfl⟩⟩;have u:=u (by omega);have:p.2.length<=d a.length:=by
    rw[g];show _<=((a.take a.length).map λ p=>p.2.length).sum;rw[MG];exact xk8 (As.2 ⟨p,w,rfl⟩)
   rw[U]at u;omega
end Go.Am
namespace Go.Am
open Lang Go.Proofs
variable{M:ak}[MK M]
section
open Go.RowKit
def q5z{P:JL}{e:M8}{a:Type}:∀(ds:List (Rg a)){x:Nat},x∈BW P (JK ds.length e) ds->x∈CF P e ds
 |[],x,h=>h
 |d::ds,x,h=>by
  rw[jd,N5,BW,z6]at h;rw[CF,z6];exact h.imp id (q5z ds)
def xl0{P:JL}{t e:M8}{n:Nat}{R:ar->List AV->Prop}(h:P.underlying t=B1 (.array n e))(hR:pA P e R)(v:n*P.cellsOf e=P.cellsOf t):pA P t λ H l=>yZ (JK n R) H l:=by
 refine⟨yZ.em λ K r=>by rw[(List.mem_replicate.1 r).2];exact hR.1,?_⟩;intro J enc W held fuel cs d N o u θ m D hg;cases fuel with
 |zero=>cases o
 |succ f =>
  have hlen:cs.length=P.cellsOf t /\ ∃xs,(MT n).mapM (λ i=>Ny enc P W 0 (λ _=>B4) held f e ((cs.drop (i*P.cellsOf e)).take (P.cellsOf e)))=B1 xs /\ ∀x∈CF P e (xs.map (·.1)),x<=reachBytes:=by
   simp only[Ny,h]at o;split at o
   .rename_i hl;have⟨xs,hm,c⟩:=xq.1 o;injection c with c _
    exact⟨hl,xs,hm,λ x L=>u x (by grind [Bb])⟩
   .cases o
  have⟨hl,xs,hm,hw⟩:=hlen;have E:=mapM_some_length hm;obtain⟨fs,a⟩:∃fs:List (M8×Nat×(ar->List AV->Prop)),fs=(MT n).map λ i=>(e,i*P.cellsOf e,R):=⟨_,rfl⟩
  have fl:fs.length=n:=by rw[a,xt,zy]
  have A:∀j,j<=n->((fs.take j).map λ f=>P.cellsOf f.1).sum=j*P.cellsOf e:=λ j z=>by
   rw[a,<-List.map_take,wg,List.take_range,show min j n=j by omega];clear z
   induction j with
   |zero=>simp
   |succ j ih=>rw[List.range_succ,HB,List.sum_append,ih,yt];simp
  have e2:fs.map (·.2.2)=JK n R:=by rw[a,wg];exact List.eq_replicate_iff.2 ⟨by rw[xt,zy],λ b q=>by obtain⟨i,_,rfl⟩:=As.1 q;rfl⟩
  have e1:fs.map (·.1)=JK n e:=by rw[a,wg];exact List.eq_replicate_iff.2 ⟨by rw[xt,zy],λ b q=>by obtain⟨i,_,rfl⟩:=As.1 q;rfl⟩
  have C:fs.mapM (λ g=>Ny enc P W 0 (λ _=>B4) held f g.1 ((cs.drop g.2.1).take (P.cellsOf g.1)))=B1 xs:=by rw[a,List.mapM_map];exact hm
  have s:=A n (qm _);rw[ze (by omega)]at s;have I:(xs.map (·.1)).length=n:=by rw[xt,E,zy]
  have:=UR enc W held f (cs:=cs) (fs:=fs) (k:=0) (xs:=xs) (λ g q=>by rw[a]at q;obtain⟨i,_,rfl⟩:=As.1 q;exact hR) (λ j g q=>by
   have z:=(qt.1 q).1;rw[A j (by omega),yu];rw[a,xp,kj (by omega)]at q;injection q with q;rw[<-q]) C (λ x q=>hw x (q5z _ (by rw[e1]at q;rw[I];exact q))) (by rw[s,v];omega) θ m D hg
  rw[s,v,yo,ze (by omega),e2]at this;exact this
end
def ad4{α:Type}{P:List α->Bool}{a b:List α}{n:Nat}(h:ur P a=B1 n):ur P (a++b)=B1 n:=by
 have⟨c,d,e⟩:=Yk P h;exact nz P (by rw[xr];omega) (by rw[yg c];exact d) λ k hk=>by rw[yg (by omega)];exact e k hk
def q2j{H:ar}{sv:List AV}{a h:AV}{l1 l2:List Act}{y:yF}(hal:∀H1,Fr Em H H1->zb M q8j [] H1 λ v H'=>v=.bool B4/\H'=H1)(S:p5 H)(hA:kJ H sv)(c:bV Act.enc 3 H a l1)(O:bV Act.enc 3 H h l2) :
 zb M _C [.agg sv,.agg (kF y),.agg [a,h]] H λ v _=>v=.bool true:=by
 have hl9:sv.length=9:=by have⟨_,_,_,_,_,_,_,_,_,_,_,e,_⟩:=hA;rw[e];rfl
 refine qtp ?_;have⟨H1,e1,f1,n1,g1⟩:=cD H (OR sv Ms);have⟨j,e2,J,n2,g2⟩:=cD H1 (OR (kF y) BN);have⟨D,e3,t,n3,g3⟩:=cD j (OR [a,h] QO);have f2:=f1.em J;have l:=f2.em t;simp only[aa,bc,jf,<-e1,<-e2,<-e3];refine C3.q (hal D l) λ v X⟨hv,hh⟩=>?_;subst hv;have hh:=hh.symm;subst hh;have g1':D.get H.au=B1 (OR sv Ms):=((J.em t).ah _ (by omega) id).trans g1;have g2':D.get H1.au=B1 (OR (kF y) BN):=(t.ah _ (by omega) id).trans g2;have bx:∀{Hx:ar},Fr Em D Hx->Op.aq 9 [.ptr H.au 0] Hx=B1 (.agg sv)/\Op.aq 5 [.ptr H1.au 0] Hx=B1 (.agg (kF y))/\Op.ae [.ptr j.au 0] Hx=B1 a/\Op.ae [.ptr j.au 1] Hx=B1 h:=λ{Hx}f =>
  ⟨eI ((f.ah _ (by omega) id).trans g1') hl9,(Ig ((f.ah _ (by omega) id).trans g2')).2.2.2.2.2,yv ((f.ah _ (by omega) id).trans g3) 0,yv ((f.ah _ (by omega) id).trans g3) 1⟩
 have C:Op.aR 2 1 [.ptr j.au 0,.int .i64 0]=B1 (.ptr j.au 0):=rfl;have i1:Op.aR 2 1 [.ptr j.au 0,.int .i64 1]=B1 (.ptr j.au 1):=rfl;simp only[aa,bc,jf,bx (Fr.refl _)];refine C3.q (xg4 (hA.em l)) λ v H4⟨A,hv⟩=>?_;have o:¬(0:Int)<0:=by decide
 have Y:(0:Int)<1:=by decide
 rcases hv with rfl|⟨rfl,x0,ok,hg⟩
 .simp only[aa,bc,jf,qy Y]
 have T:=l.em A;have d:∀{Hx:ar},Fr Em H Hx->Op.db [a]=B1 (.int .i64 ((l1.length:Nat):Int)):=λ _=>c.len;have d:=c.len;have xE:=O.len
 by_cases r:(20:Int)<((l1.length:Nat):Int)
 .simp only[aa,bc,jf,o,C,bx A,d,qy r]
 by_cases I:(20:Int)<((l2.length:Nat):Int)
 .simp only[aa,bc,jf,o,C,i1,bx A,d,r,xE,qy I]
 simp only[aa,bc,jf,o,C,i1,bx A,d,r,xE,I];have L:=hg.em A;refine C3.q (q7a L (Sl.em c T) (S.em T) y) λ v H5⟨f5,r5⟩=>?_;have K:=A.em f5;have t2:¬(2:Int)=0:=by decide
 have Q:¬(280:Int)=0:=by decide
 rcases r5 with⟨no,rfl⟩|⟨yes,rfl⟩
 .simp only[aa,bc,jf,aw,qy t2]
 cases hn:ur (PW x0 y) l1 with
 |none =>
  unfold Qv;simp only[aa,bc,jf,aw,qy Q]
 |some n =>
 have⟨h1,h2,h3⟩:=Yk _ hn;have q0:¬ ¬(0:Int)=0:=λ q=>q rfl;have a1:¬((n:Nat):Int)<0:=by omega
 have a2:¬((l1.length:Nat):Int)<((n:Nat):Int):=by omega
 have cut:∀{Hx:ar}(k:Nat),Fr Em H Hx->k<=l1.length -> ∃R,Op.aD 3 [B5,B1 0,B5] [a,.int .i64 (k:Int)]=B1 R/\bV Act.enc 3 Hx R (l1.take k):=λ{Hx}k f hk=>by
  have⟨R,x1,x2,_⟩:=bV.upto Act.len (show bV Act.enc 3 Hx a l1 from Sl.em c f) (k:=k) hk (z:=(k:Int)) rfl .i64;exact⟨R,x1,x2⟩
 have F5:=T.em f5;obtain⟨w1,c1,s1⟩:=cut n F5 h1;unfold Qv;simp only[aa,bc,jf,aw,q0,a1,C,bx K,d,a2,c1];have tl:∀{k},MH ok y (l1.take k).length:=λ{k}=>yes.less (by rw[ya];omega);refine C3.q (ν (L.em f5) s1 (S.em F5) y) λ v H6⟨f6,r6⟩=>?_;have Z:=K.em f6;obtain rfl:v=.tuple [.bool B4,.int .i64 0]:=by
  rcases r6 with⟨no,_⟩|⟨_,e⟩
  .exact (no tl).elim
  .rw [e,h2]
 simp only[aa,bc,jf,aw,q0];refine da.intro (λ m E Hx=>∃k:Nat,E=[(12,.int .i64 (k:Int)),(8,.int .i64 ((n:Nat):Int)),(7,.bool B4),(5,.ptr j.au 0),(4,.ptr H1.au 0),(3,.ptr H.au 0)]/\Fr Em D Hx/\m=n-k/\k<=n) ?_ ?_
 .exact ⟨_,_,⟨0,rfl,Z,rfl,xz _⟩,by simp only[aa,bc]⟩
 rintro m E Hx ⟨k,rfl,g,rfl,hk⟩
 by_cases N:k<n
 .have q:((k:Nat):Int)<((n:Nat):Int):=by omega
  obtain⟨w2,c2,s2⟩:=cut k (l.em g) (by omega);simp only[aa,bc,jf,qy q,bx g,C,c2];refine C3.q (ν (hg.em g) s2 (S.em (l.em g)) y) λ v H7⟨f7,r7⟩=>?_;obtain rfl:v=.tuple [.bool B2,.int .i64 0]:=by
   rcases r7 with⟨no,_⟩|⟨_,e⟩
   .exact (no tl).elim
   .rw [e,h3 k N]
  have wi:aj .i64 ((k:Int)+1)=((k+1:Nat):Int):=by rw[ji (by omega) (by omega)];omega
  simp only[aa,bc,jf,aw,q0,wi];exact⟨_,_,⟨k+1,rfl,g.em f7,rfl,N⟩,by simp only[aa,bc],by omega⟩
 .have q:¬((k:Nat):Int)<((n:Nat):Int):=by omega
  have fa:Fr Em Hx (Hx.alloc (.row [] yD (0,0) B4)):=(Fr.refl Hx).alloc _;have F7:=l.em g;simp only[aa,bc,jf,q,C,i1,bx g,Po];refine Q2 (e:=yD) (n:=0) (cells:=[]) ⟨rfl,.inl ⟨rfl,.inr ⟨Hx.au,rfl,by rw[xx];omega⟩⟩⟩ (Sl.em c (F7.em fa)) (tt Act.one _) (by decide) (by omega) (by omega) λ v1 H8 o1 f8 z1=>?_;have u1:∀z,aM v1 z->Hx.au<=z:=λ z w=>(z1 z w).elim (λ e=>by rw[e.2];exact qm _) λ e=>by have:=fa.au;omega
  have U:Fr Em Hx H8:=fa.trans f8 λ z w=>.inr (by rw[w.2];exact qm _);simp only[aa,bc,jf,bx (g.em U)];refine Q2 o1 (Sl.em O (F7.em U)) (tt Act.one _) (by decide) (by omega) (by omega) λ v2 W o2 f9 z2=>?_;have F9:Fr Em Hx W:=U.trans f9 λ z w=>.inr (u1 z w);have ob:bV Act.enc 3 W v2 (l1++l2):=by
   refine aT.sl (e:=yD) ?_;show Own W yD 3 v2 (l1++l2).length ((l1++l2).flatMap Act.enc);rw[xr,vh];rw[yu,jr]at o2;exact o2
  have u:=g.em F9;simp only[aa,bc,jf,bx u];refine C3.q (q7a (hg.em u) ob (S.em (l.em u)) y) λ v H10⟨f10,r10⟩=>?_;obtain rfl:v=Qv (B1 n):=by
   rcases r10 with⟨no,_⟩|⟨_,e⟩
   .exact (no ⟨yes.1,yes.2.1,yes.2.2.1,by rw[xr];omega⟩).elim
   .rw [e,ad4 hn]
  unfold Qv;simp only[aa,bc,jf,aw]
end Go.Am
