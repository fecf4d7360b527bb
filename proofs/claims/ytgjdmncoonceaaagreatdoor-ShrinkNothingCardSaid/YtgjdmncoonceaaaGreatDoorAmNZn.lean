import Derived.Test.YtgjdmncoonceaaaGreatDoorAmNZm
set_option linter.defProp false
set_option linter.unusedVariables false
set_option linter.unusedSimpArgs false
set_option linter.unusedSectionVars false
set_option maxRecDepth 100000
open Bool renaming true→B4
open List renaming range→N8
open Option renaming some→B1
open Prod renaming snd→C9
open Nat renaming reduceEqDiff→bc
namespace Go.Am
open Lang Go.Proofs
variable{M:ak}[MK M]
section
variable{Hb H H' H5:ar}{w B k k':Nat}{cvs cvs' hv ov:AV}{bs:Bs}{own:Nat->Nat}{ks:List Ck}{V:Int->L8}{x y:Wo}{A:Ck}{c:Co}
def Jx{α:Type}{l:List α}{a b:α}{i:Nat}(h:(l ++ [a])[i]? = B1 b):l[i]? = B1 b\/i=l.length/\b=a:=by
 rcases x9 i l.length with q|q
 .rw [yw q]at h;exact .inl h
 .rw [jd q]at h;obtain⟨e,rfl⟩:i-l.length=0/\a=b:=by
   cases d:i-l.length with
   |zero=>rw[d]at h;injection h with h;exact⟨rfl,h⟩
   |succ n=>rw[d]at h;cases h
  exact .inr ⟨by omega,rfl⟩
theorem fD.add(r:fD Hb H w B cvs hv bs own ks V k x)(T:dW H A.o A.p A.f A.l A.sp A.cv A.rv .nils .nili c [] k)(D:c.id=(x.cs.length:Int))(hl:x.cs.length<x.b.ns.length)(a0:∀z,z<H.au->A.o z≠0->lj H w B cvs hv bs ks z/\Hb.au<=z)
 (Z:aT pP AX 1 H5 cvs' (ks.map Ck.p ++ [A.p])) (F:Fr (λ z=>z=w\/aM cvs z) H H5) (E:∀z,aM cvs' z->aM cvs z\/H.au<=z) (row:At H5 w Gb (mj B cvs' hv x.n)):fD Hb H5 w B cvs' hv bs own (wide (ks ++ [A]) H.au) V k {x with cs:=x.cs ++ [c]}:=by
 have nx:=F.au;have v:∀z,(z=w\/aM cvs z)->uf w cvs hv z:=λ z q=>q.imp id .inl;have s:∀z,uf w cvs' hv z->uf w cvs hv z\/H.au<=z:=λ z q=>by
  rcases q with q|q|q
  .exact .inl (.inl q)
  .exact (E z q).imp (λ q=>.inr (.inl q)) id
  .exact .inl (.inr (.inr q))
 have S:Hb.au<=H.au:=by have:=r.b.lo B (.inl rfl);have:=r.b.lt;omega
 -- whose a block is
 refine⟨row,?_,Own.fr r.hl F λ z e q=>q.elim (λ q=>r.w1.2 (by rw[<-q];exact e)) λ q=>r.w2 z q e,r.b.fr F λ z q=>⟨(r.wb z (v z q)).2,(r.wb z (v z q)).1⟩,r.I,r.C,r.U,λ j d K P h=>?_,by unfold wide;simp only[xr,qv,List.length_singleton];rw[r.kl],by show(x.cs ++ [c]).length<=_;rw[qv,List.length_singleton];exact hl,λ j K h z e=>?_,λ j Y A1 A2 e1 e2 ne z i e=>?_,λ j K h z i e=>?_,λ z e=>?_,⟨λ e=>?_,r.w1.2⟩,λ z e q=>?_⟩
 .unfold wide;rw[Ba,Jg];exact Z
 .obtain ⟨m,e1,rfl⟩:=I2 h;rcases Jx e1 with e1|⟨ej,rfl⟩
  .have W:=(qo.1 e1).1;rcases Jx P with e2|⟨e2,_⟩
   .have ⟨r1,r2⟩:=r.co j d m e2 e1;exact⟨r1.fr F (λ z i q e=>q (r.dj j m e1 z (.inr (v z e)))) (λ z i=>iO i) (qm _),r2⟩
   .rw [r.kl]at W;omega
  .rcases Jx P with e2|⟨e2,rfl⟩
   .have:=(qo.1 e2).1;rw[<-r.kl]at this;omega
   .exact ⟨T.fr F (λ z i q e=>(a0 z i q).1.nw (v z e)) (λ z i=>iO i) (qm _),by rw[D,e2]⟩
 .obtain ⟨m,e1,rfl⟩:=I2 h;refine zp λ q=>?_;have⟨i,q⟩:=ot q;rcases Jx e1 with e1|⟨_,rfl⟩
  .rcases e with e|e
   .exact q (r.dj j m e1 z (.inl e))
   .rcases s z e with t|t
    .exact q (r.dj j m e1 z (.inr t))
    .omega
  .obtain ⟨f,-⟩:=a0 z i q;rcases e with e|e
   .exact f.nb e
   .rcases s z e with t|t
    .exact f.nw t
    .omega
 .obtain ⟨L,R,rfl⟩:=I2 e1;obtain⟨N,O,rfl⟩:=I2 e2;have⟨g,G⟩:=ot e;refine zp λ u=>?_;obtain⟨-,u⟩:=ot u;rcases Jx R with Q|⟨i1,rfl⟩
  .rcases Jx O with J|⟨X,rfl⟩
   .exact u (r.d2 _ _ L N Q J ne z g G)
   .exact G ((a0 z g u).1.nc j L Q)
  .rcases Jx O with J|⟨X,rfl⟩
   .exact u ((a0 z g G).1.nc Y N J)
   .omega
 .obtain ⟨m,e1,rfl⟩:=I2 h;have⟨g,q⟩:=ot e;rcases Jx e1 with e1|⟨_,rfl⟩
  .exact r.lo j m e1 z g q
  .exact (a0 z g q).2
 .rcases s z e with t|t
  .exact r.wb z t
  .exact ⟨λ q=>by have:=r.b.low q;omega,by omega⟩
 .rcases E w e with t|t
  .exact r.w1.1 t
  .have:=r.row.2;omega
 .rcases E z e with t|t
  .exact r.w2 z t q
  .have:=Own.lt r.hl z q;omega
end
end Go.Am
namespace Go.Am
open Lang Go.Proofs
variable{M:ak}[MK M]
def lV(p:AV×List Int):List AV:=[p.1]
def xcq(p:AV×List Int):(lV p).length=1:=rfl
def sS(d e:L8)(H:ar):Op.eq (.agg Ux) B4 [.agg (cu d),.agg (cu e)] H=B1 (.bool (!decide (d=e))):=xg7 _ _ _ H _ (χ d e)
noncomputable def jD(qs:List (List Int))(i:Nat):List iZ:=match qs[i]? with
 |none=>[]
 |some q=>(nK q).take 1024
noncomputable def kY(l f so sf:Int)(qs:List (List Int))(n:Nat):List Co:=(N8 n).map λ i:Nat=>Mr (i:Int) l (jD qs i) f so sf
noncomputable def _S(l c s wy:Int)(fs:List L8)(qs:List (List Int))(f so sf:Int):Wo:=⟨kJ l c s wy fs,kY l f so sf qs c.toNat,[],0⟩
def Yx(l c s wy:Int)(fs:List L8)(n:Nat)(f so sf:Int):Prop:=(tf l c s wy/\(fs.length:Int)<=l)/\(n:Int)<=c/\(∀x,fs[0]? = B1 x->x=.zero)/\okB f so sf
def ad7(l f so a:Int)(qs:List (List Int))(n:Nat):kY l f so a qs (n+1)=kY l f so a qs n ++ [Mr (n:Int) l (jD qs n) f so a]:=by
 unfold kY;rw[List.range_succ,Jg];rfl
def Iv(l f so a:Int)(qs:List (List Int))(n:Nat):(kY l f so a qs n).length=n:=by unfold kY;rw[xr,zu]
def Wk(H:ar)(l c s wy:Int)(fs:List L8)(qs:List (List Int))(f so sf:Int)(v:AV)(H':ar):Prop:=Fr Em H H'/\((¬Yx l c s wy fs qs.length f so sf/\v=.tuple [.nilp,.int .i64 2])\/Yx l c s wy fs qs.length f so sf /\ ∃Hb w B cvs bs own ks V,v=.tuple [.ptr w 0,.int .i64 0]/\H.au<=Hb.au/\fD Hb H' w B cvs .nils bs own ks V 0 (_S l c s wy fs qs f so sf))
def xk2{H:ar}{l c s g f so F:Int}{pv fv:AV}{d:List (AV×List Int)}{fs:List L8}(hP:bX lV 1 H pv d)(hps:∀p∈d,bX gR 1 H p.1 p.2/\(p.2≠[]->aF p.1<H.au)/\p.2.length<=100000)(hF:bX cu 8 H fv fs)(hfb:fs≠[]->aF fv<H.au)(hfu:∀x∈fs,x.u) :
 zd M Zo [.agg (eD l c s g),pv,.agg [.int .i64 f,.int .i64 so,.int .i64 F],fv] H (Wk H l c s g fs (d.map C9) f so F):=by
 refine xgr ?_;obtain⟨H1,e1,f1,m1,-⟩:=cq H (OR (eD l c s g) A8);have⟨W,e2,X,m2,g2⟩:=cq H1 (OR [.int .i64 f,.int .i64 so,.int .i64 F] JJ);have g1:W.get H.au=B1 (OR (eD l c s g) A8):=by rw[X.ah _ (by omega) id,e1,xp]
 have Y:=f1.em X;have ls:=eF g1 (show(eD l c s g).length=4 from rfl);have l1:Op.ae [.ptr H.au 1] W=B1 (.int .i64 c):=y9 g1 1;simp only[aa,bc,Ak,<-e1,<-e2,ls];refine C3.q (xca l c s g (Sl.em hF Y) λ q=>qn (hfb q) Y.au) λ v b hb=>?_;have t2:¬(2:Int)=0:=by decide
 have pl:=hP.len;rcases hb with⟨hno,rfl,N⟩|⟨P,B,bs,own,rfl,hB,N⟩
 .simp only[aa,bc,Ak,av,t2];exact⟨Y.em N,.inl ⟨λ q=>hno q.1,rfl⟩⟩
 have q0:¬ ¬(0:Int)=0:=λ q=>q rfl;have sl:=hF.len;have O:b.get H.au=B1 (OR (eD l c s g) A8):=by rw[N.ah _ (by omega) id];exact g1
 have g2':b.get H1.au=B1 (OR [.int .i64 f,.int .i64 so,.int .i64 F] JJ):=by rw[N.ah _ (by omega) id];exact g2
 have K:Op.ae [.ptr H.au 1] b=B1 (.int .i64 c):=y9 O 1;have F3:=Y.em N;have⟨⟨⟨lo2,lo64⟩,c1,c4⟩,hs4⟩:=P.1
 by_cases I:c<(d.length:Nat)
 .simp only[aa,bc,Ak,av,q0,pl,K,xb I];exact⟨F3,.inl ⟨λ q=>by have:=q.2.1;rw[xr]at this;omega,rfl⟩⟩
 -- behind the checks
 by_cases hfz:∃x,fs[0]? = B1 x/\x≠ .zero
 .have ⟨x,C,hxz⟩:=hfz;have hpos:(0:Int)<((fs.length:Nat):Int):=by have:=(qo.1 C).1;omega
  have ne:fs≠[]:=λ q=>by rw[q]at C;cases C
  have D:bX cu 8 b fv fs:=Sl.em hF F3;have ix:=D.idx C (z:=0) rfl .i64;have ld:=D.aq yj (by decide) C;simp only[aa,bc,Ak,av,q0,pl,K,I,sl,xb hpos,ix,ld,lZ,Bo,sS,hxz];exact⟨F3,.inl ⟨λ q=>hxz (q.2.2.1 x C),rfl⟩⟩
 have ok0:∀x,fs[0]? = B1 x->x=.zero:=λ x C=>zp λ q=>hfz ⟨x,C,q⟩
 -- the world,of no core yet
 obtain⟨H4,e4,f4,m4,-⟩:=cq b (OR (mj B .nils .nils 0) Gb);have m3:=N.au;have bw:Op.build [.nilp,.nils,.nils,.int .i64 0] [(0,1)] [.ptr B 0]=B1 (.agg (mj B .nils .nils 0)):=rfl;have m:∀z,¬aM AV.nils z:=λ z q=>q.1 rfl;have wo1:∀z,uf b.au .nils .nils z->z=b.au:=λ z q=>q.elim id λ q=>(q.elim (m z) (m z)).elim;have r4:fD W H4 b.au B .nils .nils bs own [] (λ _=>.zero) 0 ⟨kJ l c s g fs,[],[],0⟩:=⟨⟨by rw[e4,xp],by omega⟩,Own.nil ..,Own.nil ..,hB.em f4,xlf fs P.1,xle,xlg hfu,λ i c A h=>(by cases h),rfl,xz _,λ i A h=>(by cases h),λ i j A A' h=>(by cases h),λ i A h=>(by cases h),λ z q=>by rw[wo1 z q];exact⟨λ q=>by have:=hB.low q;omega,m3⟩,⟨m _,m _⟩,λ z q=>(m z q).elim⟩
 have l4:Op.ae [.ptr H.au 1] H4=B1 (.int .i64 c):=y9 (show H4.get H.au=B1 (OR (eD l c s g) A8)by rw[f4.ah _ (by omega) id];exact O) 1;have nsl:(kJ l c s g fs).ns.length=c.toNat:=UB ..
 by_cases hp:(0:Int)<((fs.length:Nat):Int)
 case' pos =>
  obtain⟨x,C⟩:∃x,fs[0]? = B1 x:=⟨_,xf (by omega)⟩
  have hx0:=ok0 x C;have D:bX cu 8 b fv fs:=Sl.em hF F3;have ix:=D.idx C (z:=0) rfl .i64;have ld:=D.aq yj (by decide) C;simp only[aa,bc,Ak,av,q0,pl,K,I,sl,xb hp,ix,ld,lZ,Bo,sS,xb hx0,bw,<-e4,l4]
 case' neg=>simp only[aa,bc,Ak,av,q0,pl,K,I,sl,hp,bw,<-e4,l4]
 all_goals
  refine cK.intro (λ nn E t=>∃i:Nat,E=[(49,.int .i64 (i:Int)),(48,.int .i64 c),(12,.ptr b.au 0),(6,.ptr H1.au 0),(4,.ptr H.au 0),(1,pv)]/\nn=c.toNat-i/\i<=c.toNat /\ ∃cvs ks,fD W t b.au B cvs .nils bs own ks (λ _=>.zero) 0 ⟨kJ l c s g fs,kY l f so F (d.map C9) i,[],0⟩/\(∀z,aM cvs z->b.au<z)/\Fr (λ z=>b.au<=z) b t/\(0<i->okB f so F)) ?_ ?_
  .exact ⟨_,_,⟨0,rfl,rfl,xz _,.nils,[],r4,λ z q=>(m z q).elim,f4.mono λ _ _ q=>q.elim,λ q=>absurd q (IJ 0)⟩,by simp only[aa,bc]⟩
  rintro nn E t ⟨i,rfl,rfl,hi,cvs,ks,r,cl,U,hbk⟩;have nX:=U.au;have rl:=r.row.2;have T:Fr Em H t:=⟨by omega,λ z zl _=>by rw[U.ah z (by omega) (by omega),N.ah z (by omega) id,Y.ah z zl id]⟩
  have gx1:t.get H.au=B1 (OR (eD l c s g) A8):=by rw[U.ah _ (by omega) (by omega)];exact O
  have gx2:t.get H1.au=B1 (OR [.int .i64 f,.int .i64 so,.int .i64 F] JJ):=by rw[U.ah _ (by omega) (by omega)];exact g2'
  rcases x9 i c.toNat with hlt|hge
  .have c0:(i:Int)<c:=by omega
   have sP:bX lV 1 t pv d:=Sl.em hP T;have spl:=sP.len
   -- the code
   by_cases hq:(i:Int)<((d.length:Nat):Int)
   case' pos =>
    obtain⟨p,hp⟩:∃p,d[i]? = B1 p:=⟨_,xf (by omega)⟩
    have⟨h1,h2,h3⟩:=hps p (zg hp);have ix:=sP.idx hp (z:=(i:Int)) rfl .i64;have ld:Op.ae [.ptr (aF pv) (cZ 1 pv i)] t=B1 p.1:=sP.jO xcq hp (by decide);have ec:jD (d.map C9) i=(nK p.2).take 1024:=by unfold jD;rw[xm,hp];rfl
    simp only[aa,bc,Ak,xb c0,spl,xb hq,ix,ld];refine C3.q (xeq (Sl.em h1 T) (λ q=>qn (h2 q) T.au) (Sl.one h1) h3) λ a H5⟨oa,la,f5⟩=>?_;have ha:bX fX 5 H5 a (jD (d.map C9) i):=by rw[ec];exact aT.sl oa
    have gy1:H5.get H.au=B1 (OR (eD l c s g) A8):=by rw[f5.ah _ (by omega) id];exact gx1
    have gy2:H5.get H1.au=B1 (OR [.int .i64 f,.int .i64 so,.int .i64 F] JJ):=by rw[f5.ah _ (by omega) id];exact gx2
    have Q:Op.ae [.ptr H.au 0] H5=B1 (.int .i64 l):=y9 gy1 0;have R:=eF gy2 (n:=3) rfl;simp only[aa,bc,Ak,Q,R]
   case' neg =>
    obtain⟨H5,e5⟩:∃Z,Z=t:=⟨_,rfl⟩
    have f5:Fr Em t H5:=e5▸Fr.refl _;have ec:jD (d.map C9) i=[]:=by unfold jD;rw[xm,js (by omega)];rfl
    have ha:bX fX 5 H5 .nils (jD (d.map C9) i):=by rw[ec];exact⟨rfl,rfl⟩
    have Q:Op.ae [.ptr H.au 0] t=B1 (.int .i64 l):=y9 gx1 0;have R:=eF gx2 (n:=3) rfl;simp only[aa,bc,Ak,xb c0,spl,hq,Q,R];rw[<-e5]
   all_goals
    have cl5:(jD (d.map C9) i).length<=1024:=by
     unfold jD;split
     .exact xz _
     .rw [jq];omega
    refine C3.q (xch (id:=(i:Int)) (ln:=l) (f:=f) (s:=so) (o:=F) ha) λ v H6⟨hq6,f6⟩=>?_;have G:=f5.em f6;have n6:=G.au;have n5:=f5.au;rcases hq6 with⟨hok6,p6,fl6,l6,sp6,cv6,rfl,hp6,ht6⟩|⟨hno6,rfl⟩
    .have ⟨o6,ho6,hc6⟩:=ht6 λ _=>0;have S:=r.em G;have J:=S.kl;have L:(kY l f so F (d.map C9) i).length=i:=Iv ..;have J:(wide ks t.au).length=i:=J.trans L;simp only[aa,bc,Ak,av,q0,S.bj];refine aT.pM (bytes:=8) S.cl (x:=.ptr p6 0) (a:=p6) rfl rfl rfl rfl (by decide) (by rw[xr,J];omega) (by rw[xr,J];omega) λ v' H7 o7 f7 hz=>?_;have one':aB v'=true:=Sl.one (Own.sl o7);have a7:At H7 b.au Gb (mj B cvs .nils 0):=S.row.fr f7 S.w1.1;obtain⟨H8,e8⟩:∃Z,Z=H7.set b.au (OR (mj B v' .nils 0) Gb):=⟨_,rfl⟩
     have s8:Op.store 1 [.ptr b.au 1,v'] H7=B1 (.undef,H8):=by rw[a7.st 1 one' (by show 1<4;decide),e8];rfl
     have f8:Fr (On b.au) H7 H8:=e8▸b9 ..;have F8:Fr (λ z=>z=b.au\/aM cvs z) H6 H8:=(f7.mono λ z _ q=>.inr q).trans f8 λ z q=>.inl (.inl q);have vw:∀z,aM v' z->b.au<z:=λ z q=>(hz z q).elim (cl z) λ q=>by omega
     have wi:aj .i64 ((i:Int)+1)=((i+1:Nat):Int):=by rw[jk (by omega) (by omega)];omega
     have r8:=S.add (A:=⟨p6,fl6,l6,sp6,cv6,.nils,o6⟩) hc6 (by show(i:Int)=_;rw[L]) (by show(kY ..).length<(kJ l c s g fs).ns.length;rw[L,nsl];exact hlt) (λ z zl q=>by
      have:H5.au<=z:=Nat.le_of_not_lt λ e=>q ((ho6 z e).trans rfl);exact⟨r.new (by omega) zl,by omega⟩) (Own.fr o7 f8 λ z q(e:z=b.au)=>by have:=vw z q;omega) F8 hz (by rw[e8];exact a7.set _)
     simp only[aa,bc,Ak,s8,wi];exact⟨_,_,⟨i+1,rfl,rfl,hlt,v',_,by rw[ad7];exact r8,vw,(U.trans (G.mono (W':=λ z=>b.au<=z) λ _ _ q=>q.elim) λ z q=>.inl q).trans F8 λ z q=>.inl (q.elim (λ q=>by omega) λ q=>Nat.le_of_lt (cl z q)),λ _=>hok6.1⟩,by simp only[aa,bc],by omega⟩
    .simp only[aa,bc,Ak,av,t2];exact⟨T.em G,.inl ⟨λ q=>hno6 ⟨q.2.2.2,by omega,by omega,cl5,by omega,by omega⟩,rfl⟩⟩
  .have ie:i=c.toNat:=by omega
   have c0:¬(i:Int)<c:=by omega
   simp only[aa,bc,Ak,c0];exact⟨T,.inr ⟨⟨P,by rw[xr];omega,ok0,hbk (by omega)⟩,W,b.au,B,cvs,bs,own,ks,_,rfl,by omega,by rw[ie]at r;exact r⟩⟩
end Go.Am
