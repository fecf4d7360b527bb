import Derived.Test.YtgjdmncoonceaaaGreatDoorAmTZm
set_option linter.defProp false
set_option linter.unusedVariables false
set_option linter.unusedSimpArgs false
set_option linter.unusedSectionVars false
set_option maxRecDepth 100000
open Bool renaming true→B4
open List renaming range→MX
open Option renaming some→B1
open Prod renaming snd→C4
open Nat renaming reduceEqDiff→bc
namespace Go.Am
open Lang Go.Proofs
variable{M:ak}[MK M]
section
variable{Hb H H' H5:ar}{w B k k':Nat}{cvs cvs' hv ov:AV}{bs:Bs}{own:Nat->Nat}{ks:List Ck}{V:Int->L8}{x y:Wo}{A:Ck}{c:Co}
def I0{α:Type}{l:List α}{a b:α}{i:Nat}(h:(l ++ [a])[i]? = B1 b):l[i]? = B1 b\/i=l.length/\b=a:=by
 rcases xz i l.length with q|q
 .rw [yx q]at h;exact .inl h
 .rw [z4 q]at h;obtain⟨e,rfl⟩:i-l.length=0/\a=b:=by
   cases d:i-l.length with
   |zero=>rw[d]at h;injection h with h;exact⟨rfl,h⟩
   |succ n=>rw[d]at h;cases h
  exact .inr ⟨by omega,rfl⟩
theorem fH.add(r:fH Hb H w B cvs hv bs own ks V k x)(T:dU H A.o A.p A.f A.l A.sp A.cv A.rv .nils .nili c [] k)(D:c.id=(x.cs.length:Int))(hl:x.cs.length<x.b.ns.length)(a0:∀z,z<H.au->A.o z≠0->kR H w B cvs hv bs ks z/\Hb.au<=z)
 (Z:aO pA AU 1 H5 cvs' (ks.map Ck.p ++ [A.p])) (F:Fr (λ z=>z=w\/aM cvs z) H H5) (E:∀z,aM cvs' z->aM cvs z\/H.au<=z) (row:At H5 w FT (lY B cvs' hv x.n)):fH Hb H5 w B cvs' hv bs own (wide (ks ++ [A]) H.au) V k {x with cs:=x.cs ++ [c]}:=by
 have nx:=F.au;have v:∀z,(z=w\/aM cvs z)->uf w cvs hv z:=λ z q=>q.imp id .inl;have s:∀z,uf w cvs' hv z->uf w cvs hv z\/H.au<=z:=λ z q=>by
  rcases q with q|q|q
  .exact .inl (.inl q)
  .exact (E z q).imp (λ q=>.inr (.inl q)) id
  .exact .inl (.inr (.inr q))
 have S:Hb.au<=H.au:=by have:=r.b.lo B (.inl rfl);have:=r.b.lt;omega
 -- whose a block is
 refine⟨row,?_,Own.fr r.hl F λ z e q=>q.elim (λ q=>r.w1.2 (by rw[<-q];exact e)) λ q=>r.w2 z q e,r.b.fr F λ z q=>⟨(r.wb z (v z q)).2,(r.wb z (v z q)).1⟩,r.I,r.C,r.U,λ j d K P h=>?_,by unfold wide;simp only[xu,xe,List.length_singleton];rw[r.kl],by show(x.cs ++ [c]).length<=_;rw[xe,List.length_singleton];exact hl,λ j K h z e=>?_,λ j Y A1 A2 e1 e2 ne z i e=>?_,λ j K h z i e=>?_,λ z e=>?_,⟨λ e=>?_,r.w1.2⟩,λ z e q=>?_⟩
 .unfold wide;rw[AF,Jz];exact Z
 .obtain ⟨m,e1,rfl⟩:=Gr h;rcases I0 e1 with e1|⟨ej,rfl⟩
  .have W:=(qt.1 e1).1;rcases I0 P with e2|⟨e2,_⟩
   .have ⟨r1,r2⟩:=r.co j d m e2 e1;exact⟨r1.fr F (λ z i q e=>q (r.dj j m e1 z (.inr (v z e)))) (λ z i=>ww i) (qm _),r2⟩
   .rw [r.kl]at W;omega
  .rcases I0 P with e2|⟨e2,rfl⟩
   .have:=(qt.1 e2).1;rw[<-r.kl]at this;omega
   .exact ⟨T.fr F (λ z i q e=>(a0 z i q).1.nw (v z e)) (λ z i=>ww i) (qm _),by rw[D,e2]⟩
 .obtain ⟨m,e1,rfl⟩:=Gr h;refine zy λ q=>?_;have⟨i,q⟩:=ot q;rcases I0 e1 with e1|⟨_,rfl⟩
  .rcases e with e|e
   .exact q (r.dj j m e1 z (.inl e))
   .rcases s z e with t|t
    .exact q (r.dj j m e1 z (.inr t))
    .omega
  .obtain ⟨f,-⟩:=a0 z i q;rcases e with e|e
   .exact f.nb e
   .rcases s z e with t|t
    .exact f.nw t
    .omega
 .obtain ⟨L,R,rfl⟩:=Gr e1;obtain⟨N,O,rfl⟩:=Gr e2;have⟨g,G⟩:=ot e;refine zy λ u=>?_;obtain⟨-,u⟩:=ot u;rcases I0 R with Q|⟨i1,rfl⟩
  .rcases I0 O with J|⟨X,rfl⟩
   .exact u (r.d2 _ _ L N Q J ne z g G)
   .exact G ((a0 z g u).1.nc j L Q)
  .rcases I0 O with J|⟨X,rfl⟩
   .exact u ((a0 z g G).1.nc Y N J)
   .omega
 .obtain ⟨m,e1,rfl⟩:=Gr h;have⟨g,q⟩:=ot e;rcases I0 e1 with e1|⟨_,rfl⟩
  .exact r.lo j m e1 z g q
  .exact (a0 z g q).2
 .rcases s z e with t|t
  .exact r.wb z t
  .exact ⟨λ q=>by have:=r.b.low q;omega,by omega⟩
 .rcases E w e with t|t
  .exact r.w1.1 t
  .have:=r.row.2;omega
 .rcases E z e with t|t
  .exact r.w2 z t q
  .have:=Own.lt r.hl z q;omega
end
end Go.Am
namespace Go.Am
open Lang Go.Proofs
variable{M:ak}[MK M]
def mh(p:AV×List Int):List AV:=[p.1]
def xb4(p:AV×List Int):(mh p).length=1:=rfl
def V_(d e:L8)(H:ar):Op.eq (.agg Sa) B4 [.agg (cD d),.agg (cD e)] H=B1 (.bool (!decide (d=e))):=Vm _ _ _ H _ (eqL d e)
noncomputable def jA(qs:List (List Int))(i:Nat):List iV:=match qs[i]? with
 |none=>[]
 |some q=>(nI q).take 1024
noncomputable def kX(l f so sf:Int)(qs:List (List Int))(n:Nat):List Co:=(MX n).map λ i:Nat=>Mn (i:Int) l (jA qs i) f so sf
noncomputable def ZZ(l c s wy:Int)(fs:List L8)(qs:List (List Int))(f so sf:Int):Wo:=⟨kH l c s wy fs,kX l f so sf qs c.toNat,[],0⟩
def VT(l c s wy:Int)(fs:List L8)(n:Nat)(f so sf:Int):Prop:=(sT l c s wy/\(fs.length:Int)<=l)/\(n:Int)<=c/\(∀x,fs[0]? = B1 x->x=.zero)/\okB f so sf
def DH(l f so a:Int)(qs:List (List Int))(n:Nat):kX l f so a qs (n+1)=kX l f so a qs n ++ [Mn (n:Int) l (jA qs n) f so a]:=by
 unfold kX;rw[List.range_succ,Jz];rfl
def Iu(l f so a:Int)(qs:List (List Int))(n:Nat):(kX l f so a qs n).length=n:=by unfold kX;rw[xu,jj]
def Ze(H:ar)(l c s wy:Int)(fs:List L8)(qs:List (List Int))(f so sf:Int)(v:AV)(H':ar):Prop:=Fr Em H H'/\((¬VT l c s wy fs qs.length f so sf/\v=.tuple [.nilp,.int .i64 2])\/VT l c s wy fs qs.length f so sf /\ ∃Hb w B cvs bs own ks V,v=.tuple [.ptr w 0,.int .i64 0]/\H.au<=Hb.au/\fH Hb H' w B cvs .nils bs own ks V 0 (ZZ l c s wy fs qs f so sf))
def xkf{H:ar}{l c s g f so F:Int}{pv fv:AV}{d:List (AV×List Int)}{fs:List L8}(hP:bI mh 1 H pv d)(hps:∀p∈d,bI gU 1 H p.1 p.2/\(p.2≠[]->aE p.1<H.au)/\p.2.length<=100000)(hF:bI cD 8 H fv fs)(hfb:fs≠[]->aE fv<H.au)(hfu:∀x∈fs,x.u) :
 zb M Y0 [.agg (eH l c s g),pv,.agg [.int .i64 f,.int .i64 so,.int .i64 F],fv] H (Ze H l c s g fs (d.map C4) f so F):=by
 refine xf8 ?_;obtain⟨H1,e1,f1,m1,-⟩:=bZ H (OR (eH l c s g) AL);have⟨W,e2,X,m2,g2⟩:=bZ H1 (OR [.int .i64 f,.int .i64 so,.int .i64 F] I5);have g1:W.get H.au=B1 (OR (eH l c s g) AL):=by rw[X.ah _ (by omega) id,e1,xp]
 have Y:=f1.em X;have ls:=eJ g1 (show(eH l c s g).length=4 from rfl);have l1:Op.ae [.ptr H.au 1] W=B1 (.int .i64 c):=vg g1 1;simp only[aa,bc,Ar,<-e1,<-e2,ls];refine C3.q (xbo l c s g (Sl.em hF Y) λ q=>qn (hfb q) Y.au) λ v b hb=>?_;have t2:¬(2:Int)=0:=by decide
 have pl:=hP.len;rcases hb with⟨hno,rfl,N⟩|⟨P,B,bs,own,rfl,hB,N⟩
 .simp only[aa,bc,Ar,aw,t2];exact⟨Y.em N,.inl ⟨λ q=>hno q.1,rfl⟩⟩
 have q0:¬ ¬(0:Int)=0:=λ q=>q rfl;have sl:=hF.len;have O:b.get H.au=B1 (OR (eH l c s g) AL):=by rw[N.ah _ (by omega) id];exact g1
 have g2':b.get H1.au=B1 (OR [.int .i64 f,.int .i64 so,.int .i64 F] I5):=by rw[N.ah _ (by omega) id];exact g2
 have K:Op.ae [.ptr H.au 1] b=B1 (.int .i64 c):=vg O 1;have F3:=Y.em N;have⟨⟨⟨lo2,lo64⟩,c1,c4⟩,hs4⟩:=P.1
 by_cases I:c<(d.length:Nat)
 .simp only[aa,bc,Ar,aw,q0,pl,K,qv I];exact⟨F3,.inl ⟨λ q=>by have:=q.2.1;rw[xu]at this;omega,rfl⟩⟩
 -- behind the checks
 by_cases hfz:∃x,fs[0]? = B1 x/\x≠ .zero
 .have ⟨x,C,hxz⟩:=hfz;have hpos:(0:Int)<((fs.length:Nat):Int):=by have:=(qt.1 C).1;omega
  have ne:fs≠[]:=λ q=>by rw[q]at C;cases C
  have D:bI cD 8 b fv fs:=Sl.em hF F3;have ix:=D.idx C (z:=0) rfl .i64;have ld:=D.aq ye (by decide) C;simp only[aa,bc,Ar,aw,q0,pl,K,I,sl,qv hpos,ix,ld,lZ,Eb,V_,hxz];exact⟨F3,.inl ⟨λ q=>hxz (q.2.2.1 x C),rfl⟩⟩
 have ok0:∀x,fs[0]? = B1 x->x=.zero:=λ x C=>zy λ q=>hfz ⟨x,C,q⟩
 -- the world,of no core yet
 obtain⟨H4,e4,f4,m4,-⟩:=bZ b (OR (lY B .nils .nils 0) FT);have m3:=N.au;have bw:Op.build [.nilp,.nils,.nils,.int .i64 0] [(0,1)] [.ptr B 0]=B1 (.agg (lY B .nils .nils 0)):=rfl;have m:∀z,¬aM AV.nils z:=λ z q=>q.1 rfl;have wo1:∀z,uf b.au .nils .nils z->z=b.au:=λ z q=>q.elim id λ q=>(q.elim (m z) (m z)).elim;have r4:fH W H4 b.au B .nils .nils bs own [] (λ _=>.zero) 0 ⟨kH l c s g fs,[],[],0⟩:=⟨⟨by rw[e4,xp],by omega⟩,Own.nil ..,Own.nil ..,hB.em f4,xks fs P.1,xkr,xkt hfu,λ i c A h=>(by cases h),rfl,xw _,λ i A h=>(by cases h),λ i j A A' h=>(by cases h),λ i A h=>(by cases h),λ z q=>by rw[wo1 z q];exact⟨λ q=>by have:=hB.low q;omega,m3⟩,⟨m _,m _⟩,λ z q=>(m z q).elim⟩
 have l4:Op.ae [.ptr H.au 1] H4=B1 (.int .i64 c):=vg (show H4.get H.au=B1 (OR (eH l c s g) AL)by rw[f4.ah _ (by omega) id];exact O) 1;have nsl:(kH l c s g fs).ns.length=c.toNat:=TW ..
 by_cases hp:(0:Int)<((fs.length:Nat):Int)
 case' pos =>
  obtain⟨x,C⟩:∃x,fs[0]? = B1 x:=⟨_,xf (by omega)⟩
  have hx0:=ok0 x C;have D:bI cD 8 b fv fs:=Sl.em hF F3;have ix:=D.idx C (z:=0) rfl .i64;have ld:=D.aq ye (by decide) C;simp only[aa,bc,Ar,aw,q0,pl,K,I,sl,qv hp,ix,ld,lZ,Eb,V_,qv hx0,bw,<-e4,l4]
 case' neg=>simp only[aa,bc,Ar,aw,q0,pl,K,I,sl,hp,bw,<-e4,l4]
 all_goals
  refine cu.intro (λ nn E t=>∃i:Nat,E=[(49,.int .i64 (i:Int)),(48,.int .i64 c),(12,.ptr b.au 0),(6,.ptr H1.au 0),(4,.ptr H.au 0),(1,pv)]/\nn=c.toNat-i/\i<=c.toNat /\ ∃cvs ks,fH W t b.au B cvs .nils bs own ks (λ _=>.zero) 0 ⟨kH l c s g fs,kX l f so F (d.map C4) i,[],0⟩/\(∀z,aM cvs z->b.au<z)/\Fr (λ z=>b.au<=z) b t/\(0<i->okB f so F)) ?_ ?_
  .exact ⟨_,_,⟨0,rfl,rfl,xw _,.nils,[],r4,λ z q=>(m z q).elim,f4.mono λ _ _ q=>q.elim,λ q=>absurd q (Gp 0)⟩,by simp only[aa,bc]⟩
  rintro nn E t ⟨i,rfl,rfl,hi,cvs,ks,r,cl,U,hbk⟩;have nX:=U.au;have rl:=r.row.2;have T:Fr Em H t:=⟨by omega,λ z zl _=>by rw[U.ah z (by omega) (by omega),N.ah z (by omega) id,Y.ah z zl id]⟩
  have gx1:t.get H.au=B1 (OR (eH l c s g) AL):=by rw[U.ah _ (by omega) (by omega)];exact O
  have gx2:t.get H1.au=B1 (OR [.int .i64 f,.int .i64 so,.int .i64 F] I5):=by rw[U.ah _ (by omega) (by omega)];exact g2'
  rcases xz i c.toNat with hlt|hge
  .have c0:(i:Int)<c:=by omega
   have sP:bI mh 1 t pv d:=Sl.em hP T;have spl:=sP.len
   -- the code
   by_cases hq:(i:Int)<((d.length:Nat):Int)
   case' pos =>
    obtain⟨p,hp⟩:∃p,d[i]? = B1 p:=⟨_,xf (by omega)⟩
    have⟨h1,h2,h3⟩:=hps p (zd hp);have ix:=sP.idx hp (z:=(i:Int)) rfl .i64;have ld:Op.ae [.ptr (aE pv) (cK 1 pv i)] t=B1 p.1:=sP.ig xb4 hp (by decide);have ec:jA (d.map C4) i=(nI p.2).take 1024:=by unfold jA;rw[xq,hp];rfl
    simp only[aa,bc,Ar,qv c0,spl,qv hq,ix,ld];refine C3.q (xea (Sl.em h1 T) (λ q=>qn (h2 q) T.au) (Sl.one h1) h3) λ a H5⟨oa,la,f5⟩=>?_;have ha:bI gn 5 H5 a (jA (d.map C4) i):=by rw[ec];exact aO.sl oa
    have gy1:H5.get H.au=B1 (OR (eH l c s g) AL):=by rw[f5.ah _ (by omega) id];exact gx1
    have gy2:H5.get H1.au=B1 (OR [.int .i64 f,.int .i64 so,.int .i64 F] I5):=by rw[f5.ah _ (by omega) id];exact gx2
    have Q:Op.ae [.ptr H.au 0] H5=B1 (.int .i64 l):=vg gy1 0;have R:=eJ gy2 (n:=3) rfl;simp only[aa,bc,Ar,Q,R]
   case' neg =>
    obtain⟨H5,e5⟩:∃Z,Z=t:=⟨_,rfl⟩
    have f5:Fr Em t H5:=e5▸Fr.refl _;have ec:jA (d.map C4) i=[]:=by unfold jA;rw[xq,jp (by omega)];rfl
    have ha:bI gn 5 H5 .nils (jA (d.map C4) i):=by rw[ec];exact⟨rfl,rfl⟩
    have Q:Op.ae [.ptr H.au 0] t=B1 (.int .i64 l):=vg gx1 0;have R:=eJ gx2 (n:=3) rfl;simp only[aa,bc,Ar,qv c0,spl,hq,Q,R];rw[<-e5]
   all_goals
    have cl5:(jA (d.map C4) i).length<=1024:=by
     unfold jA;split
     .exact xw _
     .rw [js];omega
    refine C3.q (xbv (id:=(i:Int)) (ln:=l) (f:=f) (s:=so) (o:=F) ha) λ v H6⟨hq6,f6⟩=>?_;have G:=f5.em f6;have n6:=G.au;have n5:=f5.au;rcases hq6 with⟨hok6,p6,fl6,l6,sp6,cv6,rfl,hp6,ht6⟩|⟨hno6,rfl⟩
    .have ⟨o6,ho6,hc6⟩:=ht6 λ _=>0;have S:=r.em G;have J:=S.kl;have L:(kX l f so F (d.map C4) i).length=i:=Iu ..;have J:(wide ks t.au).length=i:=J.trans L;simp only[aa,bc,Ar,aw,q0,S.bm];refine aO.oi (bytes:=8) S.cl (x:=.ptr p6 0) (a:=p6) rfl rfl rfl rfl (by decide) (by rw[xu,J];omega) (by rw[xu,J];omega) λ v' H7 o7 f7 hz=>?_;have one':aD v'=true:=Sl.one (Own.sl o7);have a7:At H7 b.au FT (lY B cvs .nils 0):=S.row.fr f7 S.w1.1;obtain⟨H8,e8⟩:∃Z,Z=H7.set b.au (OR (lY B v' .nils 0) FT):=⟨_,rfl⟩
     have s8:Op.store 1 [.ptr b.au 1,v'] H7=B1 (.undef,H8):=by rw[a7.st 1 one' (by show 1<4;decide),e8];rfl
     have f8:Fr (On b.au) H7 H8:=e8▸cI ..;have F8:Fr (λ z=>z=b.au\/aM cvs z) H6 H8:=(f7.mono λ z _ q=>.inr q).trans f8 λ z q=>.inl (.inl q);have vw:∀z,aM v' z->b.au<z:=λ z q=>(hz z q).elim (cl z) λ q=>by omega
     have wi:aj .i64 ((i:Int)+1)=((i+1:Nat):Int):=by rw[jc (by omega) (by omega)];omega
     have r8:=S.add (A:=⟨p6,fl6,l6,sp6,cv6,.nils,o6⟩) hc6 (by show(i:Int)=_;rw[L]) (by show(kX ..).length<(kH l c s g fs).ns.length;rw[L,nsl];exact hlt) (λ z zl q=>by
      have:H5.au<=z:=Nat.le_of_not_lt λ e=>q ((ho6 z e).trans rfl);exact⟨r.new (by omega) zl,by omega⟩) (Own.fr o7 f8 λ z q(e:z=b.au)=>by have:=vw z q;omega) F8 hz (by rw[e8];exact a7.set _)
     simp only[aa,bc,Ar,s8,wi];exact⟨_,_,⟨i+1,rfl,rfl,hlt,v',_,by rw[DH];exact r8,vw,(U.trans (G.mono (W':=λ z=>b.au<=z) λ _ _ q=>q.elim) λ z q=>.inl q).trans F8 λ z q=>.inl (q.elim (λ q=>by omega) λ q=>Nat.le_of_lt (cl z q)),λ _=>hok6.1⟩,by simp only[aa,bc],by omega⟩
    .simp only[aa,bc,Ar,aw,t2];exact⟨T.em G,.inl ⟨λ q=>hno6 ⟨q.2.2.2,by omega,by omega,cl5,by omega,by omega⟩,rfl⟩⟩
  .have ie:i=c.toNat:=by omega
   have c0:¬(i:Int)<c:=by omega
   simp only[aa,bc,Ar,c0];exact⟨T,.inr ⟨⟨P,by rw[xu];omega,ok0,hbk (by omega)⟩,W,b.au,B,cvs,bs,own,ks,_,rfl,by omega,by rw[ie]at r;exact r⟩⟩
end Go.Am
