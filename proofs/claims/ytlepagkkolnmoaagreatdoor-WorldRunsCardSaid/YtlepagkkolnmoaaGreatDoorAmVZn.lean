import Derived.Test.YtlepagkkolnmoaaGreatDoorAmVZm
import Derived.Test.YtlepagkkolnmoaaGreatDoorAmVZf
set_option linter.defProp false
set_option linter.unusedVariables false
set_option linter.unusedSimpArgs false
set_option linter.unusedSectionVars false
set_option maxRecDepth 100000
open Bool renaming false→B2,true→B4
open List renaming range→N7
open Nat renaming beq→J8
open Option renaming none→B5,some→B1
open Prod renaming snd→Bk
open Nat renaming reduceEqDiff→bc
namespace Go.Am
open Lang Go.Proofs
variable{M:ao}[MK M]
def Dd(H:ar)(b:Nat)(o o':bF):(H.set b o).set b o'=H.set b o':=by simp only[ar.set,T.set,T.put,T.tR]
def LJ(t:To)(c:Int):(ei t).set 12 (.int .i64 c)=ei {t with cd:=c}:=by
 have hl:=zk t.m;show(AV.int .i64 t.e::(aq t.m ++ [.int .i64 t.cd,.int .i64 t.co])).set 12 _=AV.int .i64 t.e::(aq t.m ++ [.int .i64 c,.int .i64 t.co]);generalize aq t.m=l at *
 match l,hl with
 |[_,_,_,_,_,_,_,_,_,_,_],_=>rfl
def K1(t:To)(c:Int):(ei t).set 13 (.int .i64 c)=ei {t with co:=c}:=by
 have hl:=zk t.m;show(AV.int .i64 t.e::(aq t.m ++ [.int .i64 t.cd,.int .i64 t.co])).set 13 _=AV.int .i64 t.e::(aq t.m ++ [.int .i64 t.cd,.int .i64 c]);generalize aq t.m=l at *
 match l,hl with
 |[_,_,_,_,_,_,_,_,_,_,_],_=>rfl
section
variable{Hb H H':ar}{w B k k':Nat}{cvs hv ov:AV}{bs:Bs}{own:Nat->Nat}{ks:List Ck}{V:Int->L8}{x y:Wo}{c:Co}{A:Ck}
def uc.mono(h:uc Hb H w B cvs hv bs ks k y H')(hk:k<=k'):uc Hb H w B cvs hv bs ks k' y H':=by
 have⟨hv',bs',aP,e,f,a,b,d⟩:=h;exact⟨hv',bs',aP,e,f,a.mono hk,b,d⟩
def fh.push(r:fh Hb H w B cvs hv bs own ks V k x){b:AV}{d:ar}{e:eF}(m:aL eF.enc j9 9 d b (x.h ++ [e]))(j:Fr (aM hv) H d)(g:∀z,aM b z->aM hv z\/H.au<=z) :
 ∃a,Op.store 1 [.ptr w 2,b] d=B1 (.undef,a)/\fh Hb a w B cvs b bs own (wide ks H.au) V k {x with h:=x.h ++ [e]}/\Fr (λ z=>z=w\/aM hv z) H a /\ ∀z,fU H w B cvs hv bs ks z->fU a w B cvs b bs (wide ks H.au) z/\a.get z=H.get z:=by
 have i:At d w F7 (lY B cvs hv x.n):=r.row.fr j r.w1.2;have one:aA b=true:=Sl.one (Own.sl m);have o:∀z,aM b z->z≠w:=λ z q e=>by
  rw[e]at q;rcases g w q with t|t
  .exact r.w1.2 t
  .have:=r.row.2;omega
 obtain⟨a,f⟩:∃Z,Z=d.set w (OR (lY B cvs b x.n) F7):=⟨_,rfl⟩
 have l:Fr (On w) d a:=f▸cm ..;have F:Fr (λ z=>z=w\/aM hv z) H a:=(j.mono λ z _ q=>.inr q).trans l λ z(q:z=w)=>.inl (.inl q);have st:Op.store 1 [.ptr w 2,b] d=B1 (.undef,a):=by rw[i.st 2 one (by show 2<4;decide),f];rfl
 refine⟨a,st,r.Mu F (by rw[f];exact i.set _) (Own.fr m l λ z q(e:z=w)=>o z q e) g,F,λ z q=>⟨q.wide F.au (g z) λ q=>.inl q,F.ai z q.lt λ e=>q.nw (e.elim .inl λ e=>.inr (.inr e))⟩⟩
def StI(Hb H0:ar)(w B:Nat)(cvs hv0:AV)(QC:Bs)(ks0:List Ck)(tb:Nat)(ov:AV)(y:Wo)(t0:To)(o:List eF)(k i:Nat)(H:ar):Prop:=∃hv bs own ks V,fh Hb H w B cvs hv bs own ks V k (y.told (o.take i))/\aL eF.enc j9 9 H ov o/\(∀z,aM ov z -> ¬ug w cvs hv z)/\fU H w B cvs hv bs ks tb/\H.get tb=B1 (OR (ei ((o.take i).foldl lT t0)) ku) /\ ¬aM ov tb /\
 H0.au<=H.au /\ ∀z,fU H0 w B cvs hv0 QC ks0 z->z≠tb->fU H w B cvs hv bs ks z/\H.get z=H0.get z
def xnc(h:fh Hb H w B cvs hv bs own ks V k x)(hk:k+1<=90000)(hS:pQ H)(hG:jq<Hb.au)(hh:x.h.length<=100000)(c n kd:Int):zj M Qm [.ptr w 0,.agg [.int .i64 kd,.int .i64 c,.int .i64 n]] H λ v H'=>v=.agg (ei (x.rz c).2)/\uc Hb H w B cvs hv bs ks (k+2) (x.rz c).1 H':=by
 refine qw4 ?_;have⟨H1,H2,p⟩:=uy h c n kd;unfold Wo.rz;cases hc:x.at' c with
 |none =>
  have hi:¬(0<=c/\c<x.cs.length):=λ q=>by
   unfold Wo.at' at hc;rw[xb q.1,List.getElem?_eq_none_iff]at hc;omega
  have⟨W,s4,l4,hP⟩:=p.em (Fr.refl _) (kQ 2);simp only[ae,bc,MM,J9,p.e1,p.e2,aB,p.l1,HE p.r hi,KJ,s4,l4];exact hP.mono (ke _)
 |some q =>
  obtain⟨c0,hx⟩:0<=c/\x.cs[c.toNat]? = B1 q:=by
   unfold Wo.at' at hc;split at hc
   .exact ⟨by assumption,hc⟩
   .cases hc
  have hl:=(qo.1 hx).1;obtain⟨A,hA⟩:∃A,(wide ks H.au)[c.toNat]? = B1 A:=⟨_,qy (by rw[p.r.kl];exact hl)⟩
  have p2:=p.n2;have p1:=p.n1;have phb:=p.hb;have ft:Fr Em H H2:=by rw[<-p.e2,<-p.e1];exact((Fr.refl H).alloc _).alloc _
  simp only[ae,bc,MM,J9,p.e1,p.e2,aB,p.l1,P0 p.r c0 hA,p.r.bq];refine C3.q (ae5 p.r hk (hS.em ft) hG hx hA) λ v j⟨ov,hv3,ow,nx,u,own3,ks3,V3,r3,nov,kp3⟩=>?_;subst hv3;have ob:=CS.DD ⟨q,x.b,[]⟩;have yh:(x.zZ c.toNat q).h=x.h:=rfl;have yn:(x.zZ c.toNat q).n=x.n:=rfl;generalize x.zZ c.toNat q=y at *;generalize CS.step ⟨q,x.b,[]⟩=R at *;have⟨S,er⟩:=R;have⟨l,ol,o3,_⟩:=ob;have on:S.o.length<=3:=by rw[show S.o=l from ol];exact o3
  simp only at *;generalize S.o=o at *;have⟨W,e4,X,n4,g4⟩:=cI j (OR (ei (kQ er)) ku);have s4:Op.store 14 [.ptr j.au 0,.agg (ei (kQ er))] (j.alloc (OR (ei (kQ 0)) ku))=B1 (.undef,W):=by rw[ij (xr j _) (vD _) (vD _) (ON _),N2,e4]
  have ln:=(aL.sl ow).len;have r4:=r3.em X;have ow4:=Own.em ow X;have ovl:∀z,aM ov z->z<j.au:=λ z q=>Own.lt ow z q;simp only[ae,bc,MM,aB,KJ,s4,ln];refine dm.intro (λ nn E f=>∃i:Nat,E=[(32,.int .i64 (i:Int)),(31,.int .i64 (o.length:Int)),(30,ov),(8,.ptr j.au 0),(4,.ptr H1.au 0),(0,.ptr w 0)]/\nn=o.length-i/\i<=o.length/\StI Hb W w B cvs hv u (wide ks3 j.au) j.au ov y (kQ er) o (k+2) i f) ?_ ?_
  .refine ⟨_,_,⟨0,rfl,rfl,x9 _,hv,u,own3,_,V3,?_,ow4,nov,r3.new (qm _) (by omega),g4,λ q=>by have:=ovl _ q;omega,qm _,λ z q _=>⟨q,rfl⟩⟩,by simp only[ae,bc]⟩;rw[kz,Wo.Ez];exact r4
  rintro nn E f ⟨i,rfl,rfl,hi,N,C,F,ks5,V5,Q,P,m,L,g5,no5,n5,O⟩;have yl:(y.told (o.take i)).h.length<=100003:=by
   show(y.h++(o.take i).map _).length<=_;rw[xc,xu,zx,yh];omega
  rcases xw i o.length with hlt|hge
  .obtain ⟨e,he⟩:∃e,o[i]? = B1 e:=⟨_,qy hlt⟩
   have c1:(i:Int)<((o.length:Nat):Int):=by omega
   have ix:=(aL.sl P).idx he (z:=(i:Int)) rfl .i64;have ld:=(aL.sl P).aw eF.len (by decide) he;obtain⟨H6,e6,f6,-,-⟩:=cI f (OR e.enc j9);have s6:Op.store 9 [.ptr f.au 0,.agg e.enc] (f.alloc (OR Lf.enc j9))=B1 (.undef,H6):=by rw[ij (xr f _) (eF.len _) (eF.len _) rfl,N2,e6]
   have r6:=Q.em f6;have⟨H7,e7,Y,n7,g7⟩:=cI f (OR ({e with time:=y.n}:eF).enc j9);have a6:At H6 f.au j9 e.enc:=⟨by rw[e6,xr],by rw[e6,xz];omega⟩
   have s7:Op.store 1 [.ptr f.au 1,.int .i64 (y.told (o.take i)).n] H6=B1 (.undef,H7):=by rw[a6.st 1 rfl (by show 1<9;decide),e6,N2,e7];rfl
   have l7:=fC g7 (eF.len _);have r7:=Q.em Y;have fb7:=Q.new (H':=H7) (qm f.au) (by omega);have hb5:Hb.au<=f.au:=by have:=Q.b.lo B (.inl rfl);have:=Q.b.lt;omega
   simp only[ae,bc,MM,aB,xf c1,ix,ld,VO,s6,r6.bq,s7,r7.bq,l7];refine aL.mO (bytes:=72) r7.hl (x:=.agg ({e with time:=y.n}:eF).enc) (a:={e with time:=y.n}) rfl rfl rfl rfl (by decide) (by omega) (by omega) λ v' H8 o8 f8 hz8=>?_;have⟨G,s9,r9,F9,k9⟩:=r7.push o8 f8 hz8;have n9:=F9.au;have fo7:=L.wide (hv':=N) (bs':=C) Y.au (λ q=>.inl q) λ q=>.inl q;have⟨s,gt9⟩:=k9 _ fo7;have g9:G.get j.au=B1 (OR (ei ((o.take i).foldl lT (kQ er))) ku):=by rw[gt9,Y.ai _ L.lt id];exact g5
   have I:G.get f.au=B1 (OR ({e with time:=y.n}:eF).enc j9):=by rw[(k9 _ fb7).2];exact g7
   have J:=vd I 0;have J:Op.ah [.ptr f.au 0] G=B1 (.int .i64 e.kind):=J;have lb8:Op.ah [.ptr f.au 8] G=B1 (.int .i64 e.code):=vd I 8;have lb2:Op.ah [.ptr f.au 2] G=B1 (.int .i64 e.core):=vd I 2;have wi:ak .i64 ((i:Int)+1)=((i+1:Nat):Int):=by rw[ju (by omega) (by omega)];omega
   have tk:o.take (i+1)=o.take i ++ [e]:=by rw[vg,he];rfl
   have ow9:aL eF.enc j9 9 G ov o:=Own.fr (Own.em P Y) F9 λ z q t=>m z q (t.elim .inl λ t=>.inr (.inr t));have th:y.told (o.take (i+1)) = {y.told (o.take i)with h:=(y.told (o.take i)).h ++ [{e with time:=y.n}]}:=by
    rw[tk];unfold Wo.told;simp only[I9,j7,FP,jb]
   have nov9:∀z,aM ov z -> ¬ug w cvs v' z:=λ z q t=>by
    have zl:=ovl z q;rcases t with t|t|t
    .exact m z q (.inl t)
    .exact m z q (.inr (.inl t))
    .rcases hz8 z t with t|t
     .exact m z q (.inr (.inr t))
     .omega
   -- behind a round
   have fin:∀{t:To}{d:ar},t=(o.take (i+1)).foldl lT (kQ er)->Fr (On j.au) G d->d.get j.au=B1 (OR (ei t) ku)->fh Hb d w B cvs v' C F (wide (wide ks5 f.au) H7.au) V5 (k+2) {y.told (o.take i)with h:=(y.told (o.take i)).h ++ [{e with time:=y.n}]}->StI Hb W w B cvs hv u (wide ks3 j.au) j.au ov y (kQ er) o (k+2) (i+1) d:=λ{t d}et K g10 r10=>by
    have n10:=K.au;refine⟨v',C,F,_,V5,by rw[th];exact r10,Own.fr ow9 K λ z q(e:z=j.au)=>no5 (by rw[<-e];exact q),nov9,⟨qn s.lt n10,s.nb,s.nw,s.nc⟩,by rw[g10,et],no5,by omega,λ z q ne=>?_⟩;have⟨q5,e5⟩:=O z q ne;have⟨q9,e9⟩:=k9 z (q5.wide (hv':=N) (bs':=C) Y.au (λ q=>.inl q) λ q=>.inl q);exact⟨⟨qn q9.lt n10,q9.nb,q9.nw,q9.nc⟩,by rw[K.ai z q9.lt ne,e9,Y.ai _ q5.lt id,e5]⟩
   have ft:(o.take (i+1)).foldl lT (kQ er)=lT ((o.take i).foldl lT (kQ er)) e:=by rw[tk,List.foldl_append];rfl
   generalize(o.take i).foldl lT (kQ er)=t at *
   by_cases q:e.kind=6
   .have a9:At G j.au ku (ei t):=⟨g9,s.lt⟩
    have T:=a9.st 12 (v:=.int .i64 e.code) rfl (by rw[vD];decide);rw[LJ]at T;obtain⟨d,D⟩:∃Z,Z=G.set j.au (OR (ei {t with cd:=e.code}) ku):=⟨_,rfl⟩
    rw[<-D]at T;have a10:At d j.au ku (ei {t with cd:=e.code}):=D▸a9.set _;have U:=a10.st 13 (v:=.int .i64 e.core) rfl (by rw[vD];decide);rw[K1,D,Dd]at U;have gb10:d.get f.au=B1 (OR ({e with time:=y.n}:eF).enc j9):=by rw[D,jv (λ w=>by have:=L.lt;omega)];exact I
    have lb2':Op.ah [.ptr f.au 2] d=B1 (.int .i64 e.core):=vd gb10 2;rw[<-D]at U;simp only[ae,bc,MM,s9,J,lb8,lb2,xf q,T,lb2',U,wi];exact⟨_,_,⟨i+1,rfl,rfl,by omega,fin (by rw[ft];unfold lT;rw[xb q]) (cm ..) (xg ..) (r9.MJ s (by omega) _)⟩,by simp only[ae,bc],by omega⟩
   .simp only[ae,bc,MM,s9,J,q,wi];exact⟨_,_,⟨i+1,rfl,rfl,by omega,fin (by rw[ft];unfold lT;rw[qv q]) (Fr.refl _) g9 r9⟩,by simp only[ae,bc],by omega⟩
  .have ie:i=o.length:=by omega
   rw[ie,GJ]at Q g5;have c1:¬(i:Int)<((o.length:Nat):Int):=by omega
   have l5:=fC g5 (vD _);have⟨q3,e3⟩:=kp3 _ p.fo;have q4:=q3.wide (H':=W) (hv':=hv) (bs':=u) X.au (λ q=>.inl q) λ q=>.inl q;have⟨q5,e5⟩:=O _ q4 (by have:=q3.lt;omega);have g1:f.get H1.au=B1 (OR (ei (kQ 0)) ku):=by rw[e5,X.ai _ q3.lt id,e3.1];exact p.g
   obtain⟨H6,s6,l6,r6,f6,q6,-⟩:=Q.Ws q5 (by omega) g1 (o.foldl lT (kQ er));simp only[ae,bc,MM,c1,l5,s6,l6];refine⟨N,C,F,ks5,V5,r6,by have:=f6.au;omega,λ z q=>?_⟩;have zl:=q.lt;have⟨a2,b2⟩:=p.q z q;have⟨a3,b3⟩:=kp3 z a2;have a4:=a3.wide (H':=W) (hv':=hv) (bs':=u) X.au (λ q=>.inl q) λ q=>.inl q;have⟨a5,b5⟩:=O z a4 (by omega);exact⟨⟨qn a5.lt f6.au,a5.nb,a5.nw,a5.nc⟩,by rw[f6.ai _ a5.lt (λ e:z=H1.au=>by omega),b5,X.ai _ a3.lt id,b3.1,b2]⟩
end
end Go.Am
namespace Go.Am
open Lang Go.Proofs
variable{M:ao}[MK M]
def qJ{H:ar}{b:Nat}{es:List (AV×AV×Nat)}{k:Nat}(h:H.get b=B1 (.map es k)){key:Int}{v:AV}(hk:findKey .int (.int .i64 key) es 0=B1 B5):Op.mapUpdate .int [.map b,.int .i64 key,v] H=B1 (.undef,H.set b (.map (es ++ [(.int .i64 key,v,k)]) (k+1))):=by
 have hm:H.fp b=B1 (es,k):=by simp[ar.fp,h]
 simp only[Op.mapUpdate,cS,xv,hm,qr,hk]
abbrev xO(n:Nat):AV:=.fn (.func n) [] []
def Sa:List (AV×AV×Nat):=[(.int .i64 1,xO Qm,0),(.int .i64 2,xO Se,1),(.int .i64 3,xO RO,2),(.int .i64 4,xO QK,3)]
def xle{H:ar}:zj M qzb [] H λ v H'=>v=.map H.au/\Fr Em H H'/\H'.get H.au=B1 (.map Sa 4):=by
 refine xd2 ?_;have h:Fr Em H (H.alloc (.map [] 0)):=(Fr.refl H).alloc _;have s:∀{e:ar}(o:bF),Fr Em H e->Fr Em H (e.set H.au o):=λ o f=>f.set (.inr (qm _)) o;obtain⟨H1,i,b,j,d,l,a,m,f,g⟩:∃H1,Op.mapUpdate .int [.map H.au,.int .i64 1,xO Qm] (H.alloc (.map [] 0))=B1 (.undef,H1) /\ ∃b,Op.mapUpdate .int [.map H.au,.int .i64 2,xO Se] H1=B1 (.undef,b) /\ ∃d,Op.mapUpdate .int [.map H.au,.int .i64 3,xO RO] b=B1 (.undef,d) /\ ∃a,Op.mapUpdate .int [.map H.au,.int .i64 4,xO QK] d=B1 (.undef,a)/\Fr Em H a/\a.get H.au=B1 (.map Sa 4) :=
  ⟨_,qJ (xr ..) rfl,_,qJ (xg ..) rfl,_,qJ (xg ..) rfl,_,qJ (xg ..) rfl,s _ (s _ (s _ (s _ h))),xg ..⟩
 simp only[ae,bc,xd3,K_,i,j,l,m];exact⟨f,g⟩
section
variable{Hb H H':ar}{w B k k':Nat}{cvs hv ov:AV}{bs:Bs}{own:Nat->Nat}{ks:List Ck}{V:Int->L8}{x y:Wo}{c:Co}{A:Ck}
def Jb(kd:Int):AV:=if kd=1 then xO Qm else if kd=2 then xO Se else if kd=3 then xO RO else if kd=4 then xO QK else .nilf
def Iz{b:Nat}(h:H.get b=B1 (.map Sa 4))(a:Int):Op.lookup .int .nilf B2 [.map b,.int .i64 a] H=B1 (Jb a):=by
 have hm:H.fp b=B1 (Sa,4):=by simp[ar.fp,h]
 simp only[Op.lookup,cS,xv,hm,qr];unfold Sa Jb;simp only[findKey,aX,PH]
 by_cases d:a=1
 .subst d;rfl
 by_cases e:a=2
 .subst e;rfl
 by_cases f:a=3
 .subst f;rfl
 by_cases g:a=4
 .subst g;rfl
 simp only[d,e,f,g,Ji,zo,nT,qr,show rT .i64 .i64=B4 from rfl,xv]
def xkj(h:fh Hb H w B cvs hv bs own ks V k x)(hk:k+1<=90000)(o:pQ H)(m:jq<Hb.au)(p:x.h.length<=100000)(a:Act){f:Nat}(b:Jb a.kind=xO f):zj M f [.ptr w 0,.agg a.enc] H λ v H'=>v=.agg (ei (x.kO a).2)/\uc Hb H w B cvs hv bs ks (k+2) (x.kO a).1 H':=by
 have⟨d,co,n⟩:=a;have e:=λ{y:Wo}{H':ar}(h:uc Hb H w B cvs hv bs ks (k+1) y H')=>h.mono (ke (k+1));unfold Jb at b;unfold Wo.kO;simp only at b⊢
 by_cases g:d=1
 .rw [xb g]at b⊢;injection b with b;cases b
  exact xnc h hk o m p co n d
 rw[qv g]at b⊢
 by_cases i:d=2
 .rw [xb i]at b⊢;injection b with b;cases b
  exact(xnj h (by omega) co n d).mono λ v H' q=>⟨q.1,e q.2⟩
 rw[qv i]at b⊢
 by_cases j:d=3
 .rw [xb j]at b⊢;injection b with b;cases b
  exact(Ho h (by omega) co n d).mono λ v H' q=>⟨q.1,e q.2⟩
 rw[qv j]at b⊢
 by_cases l:d=4
 .rw [xb l]at b⊢;injection b with b;cases b
  exact(GA h (by omega) co n d).mono λ v H' q=>⟨q.1,e q.2⟩
 rw[qv l]at b;cases b
def _c(h:fh Hb H w B cvs hv bs own ks V k x)(hk:k+1<=90000)(hS:pQ H)(hG:jq<Hb.au)(hh:x.h.length<=100000)(n0:0<=x.n)(n1:x.n<=1000000)(a:Act):zj M Zj [.ptr w 0,.agg a.enc] H λ v H'=>v=.agg (ei (x.act a).2)/\uc Hb H w B cvs hv bs ks (k+2) (x.act a).1 H':=by
 refine q1o ?_;have⟨b,co,n⟩:=a;have⟨H1,d,p⟩:=uy h co n b;have p2:=p.n2;have p1:=p.n1;have phb:=p.hb;have⟨U,e3,f3,n3,g3⟩:=cI d (OR (ei (kQ 140)) ku);have s3:Op.store 14 [.ptr d.au 0,.agg (ei (kQ 140))] (d.alloc (OR (ei (kQ 0)) ku))=B1 (.undef,U):=by rw[ij (xr d _) (vD _) (vD _) (ON _),N2,e3]
 have ga3:U.get H.au=B1 (OR [.int .i64 b,.int .i64 co,.int .i64 n] tJ):=by rw[f3.ai _ p.fa.lt id];exact p.ga
 have l3:Op.ah [.ptr H.au 0] U=B1 (.int .i64 b):=vd ga3 0;simp only[ae,bc,ZI,Act.enc,J9,p.e1,p.e2,aB,KJ,s3,l3];refine C3.q xle λ v u⟨hv4,Y,gm⟩=>?_;subst hv4;have m:Fr Em d u:=f3.em Y;have r4:=p.r.em m;have n4:=Y.au;have G:=λ z(q:fU d w B cvs hv bs (wide ks H.au) z)=>show fU u w B cvs hv bs (wide (wide ks H.au) d.au) z/\u.get z=d.get z from⟨q.wide m.au (λ q=>.inl q) λ q=>.inl q,m.ai z q.lt id⟩
 have P:u.get H.au=B1 (OR [.int .i64 b,.int .i64 co,.int .i64 n] tJ):=by rw[(G _ p.fa).2];exact p.ga
 have l4:Op.ah [.ptr H.au 0] u=B1 (.int .i64 b):=vd P 0;have lA:Op.aw 3 [.ptr H.au 0] u=B1 (.agg [.int .i64 b,.int .i64 co,.int .i64 n]):=fC P rfl;have O:fU u w B cvs hv bs (wide (wide ks H.au) d.au) d.au:=p.r.new (qm _) (by omega);have g5:u.get d.au=B1 (OR (ei (kQ 140)) ku):=by rw[Y.ai _ (by omega) id];exact g3
 have lk:=Iz gm b;have yn:=x.Lx ⟨b,co,n⟩;have wi:ak .i64 (x.n+1)=x.n+1:=ju (by omega) (by omega);have et:(x.act ⟨b,co,n⟩).2=(x.kO ⟨b,co,n⟩).2:=rfl;have ey:(x.act ⟨b,co,n⟩).1 = {(x.kO ⟨b,co,n⟩).1 with n:=x.n+1}:=rfl;rw[et,ey]
 -- the act is counted,and its answer answered
 have rest:∀{t:To}{y:Wo}{i:ar}{j:AV}{l:Bs}{C:Nat->Nat}{o:List Ck}{V6:Int->L8},y.n=x.n->fh Hb i w B cvs j l C o V6 (k+2) y->d.au<=i.au->(∀z,fU d w B cvs hv bs (wide ks H.au) z->fU i w B cvs j l o z/\i.get z=d.get z)->fU i w B cvs j l o d.au->i.get d.au=B1 (OR (ei t) ku) ->
  ∃s E,Op.ah [.ptr w 3] i=B1 (.int .i64 x.n)/\Op.store 1 [.ptr w 3,.int .i64 (x.n+1)] i=B1 (.undef,s)/\Op.aw 14 [.ptr d.au 0] s=B1 (.agg (ei t))/\Op.store 14 [.ptr H1.au 0,.agg (ei t)] s=B1 (.undef,E)/\Op.aw 14 [.ptr H1.au 0] E=B1 (.agg (ei t))/\uc Hb H w B cvs hv bs ks (k+2) {y with n:=x.n+1} E:=λ{t y i j l C o V6}yn D n6 I F g6=>by
  obtain⟨s,W⟩:∃Z,Z=i.set w (OR (lY B cvs j (x.n+1)) F7):=⟨_,rfl⟩
  have N:Fr (On w) i s:=W▸cm ..;have s7:Op.store 1 [.ptr w 3,.int .i64 (x.n+1)] i=B1 (.undef,s):=by rw[D.row.st 3 rfl (by show 3<4;decide),W];rfl
  have r7:=D.Mu (n':=x.n+1) (N.mono λ z _ q=>.inl q) (by rw[W];exact D.row.set _) (Own.fr D.hl N λ z q(e:z=w)=>D.w1.2 (by rw[<-e];exact q)) λ z q=>.inl q;have k7:=λ z(q:fU i w B cvs j l o z)=>show fU s w B cvs j l (wide o i.au) z/\s.get z=i.get z from⟨q.wide N.au (λ q=>.inl q) λ q=>.inl q,N.ai z q.lt λ e=>q.nw (.inl e)⟩
  have⟨E,s8,l8,Q⟩:=p.post r7 (zd n6 N.au) (λ z q=>⟨(k7 z (I z q).1).1,(k7 z (I z q).1).2.trans (I z q).2⟩) t;exact⟨s,E,by rw[<-yn];exact D.bq.2.2.2.1,s7,fC (by rw[(k7 _ F).2];exact g6) (vD _),s8,l8,Q⟩
 by_cases g:Jb b=.nilf
 .have e0:x.kO ⟨b,co,n⟩=(x,kQ 140):=by
   unfold Jb at g;unfold Wo.kO;simp only at g⊢
   by_cases J:b=1
   .rw [xb J]at g;cases g
   by_cases K:b=2
   .rw [qv J,xb K]at g;cases g
   by_cases S:b=3
   .rw [qv J,qv K,xb S]at g;cases g
   by_cases T:b=4
   .rw [qv J,qv K,qv S,xb T]at g;cases g
   rw[qv J,qv K,qv S,qv T]
  rw[e0];have X:Op.eq .func B4 [.nilf,.nilf] u=B1 (.bool B2):=rfl;have⟨s,E,w1,w2,w3,w4,w5,Q⟩:=rest rfl (r4.mono (Nd k 2)) m.au G O g5;simp only[ae,bc,ZI,aB,l4,lk,g,X,w1,wi,w2,w3,w4,w5];exact Q
 .obtain ⟨f,g⟩:∃f,Jb b=xO f:=by
   unfold Jb at g⊢
   repeat' split
   all_goals first|exact⟨_,rfl⟩|(rename_i J K S T;rw[qv J,qv K,qv S,qv T]at g;exact(g rfl).elim)
  have X:Op.eq .func B4 [xO f,.nilf] u=B1 (.bool B4):=rfl;simp only[ae,bc,l4,lk,g,X,lA,zn];refine C3.q (xkj r4 hk (hS.em ((show Fr Em H d by rw[<-p.e2,<-p.e1];exact((Fr.refl H).alloc _).alloc _).em m)) hG hh ⟨b,co,n⟩ g) λ v H5⟨hv5,hv',bs',aP,ks',V',r5,n5,R⟩=>?_;subst hv5;have⟨fo5,g6⟩:=R _ O;obtain⟨i,s6,-,D,f6,F,g7⟩:=r5.Ws fo5 (by omega) (g6.trans g5) (x.kO ⟨b,co,n⟩).2;have⟨s,E,w1,w2,w3,w4,w5,Q⟩:=rest yn D (by have:=f6.au;have:=m.au;omega) (λ z q=>by
   have zl:=q.lt;have⟨a4,b4⟩:=G z q;have⟨L,b5⟩:=R z a4;exact⟨⟨qn L.lt f6.au,L.nb,L.nw,L.nc⟩,by rw[f6.ai z L.lt (λ e:z=d.au=>by omega),b5,b4]⟩) F g7
  simp only[ae,bc,ZI,aB,s6,w1,wi,w2,w3,w4,w5];exact Q
end
end Go.Am
namespace Go.Am
open Lang Go.Proofs
variable{M:ao}[MK M]
def bM.Wh{α:Type}{enc:α->List AV}{size:Nat}{H:ar}{v:AV}{xs:List α}(hs:∀x,(enc x).length=size)(h:bM enc size H v xs){a b:Nat}(d:a<b)(hb:b<=xs.length){za zb zc:Int}(l:za=a)(p:zb=b)(r:zc=b) :
 ∃g,Op.aC size [B1 0,B1 1,B1 2] [v,.int .i64 za,.int .i64 zb,.int .i64 zc]=B1 g/\bM enc size H g ((xs.drop a).take (b-a))/\aD g=aD v:=by
 have D:a*size<=b*size:=jk _ (Nat.le_of_lt d);have E:b*size<=xs.length*size:=jk _ hb;have F:(b-a)*size=b*size-a*size:=Mw b a size;have hlen:((xs.drop a).take (b-a)).length=b-a:=by simp;omega
 have e:((xs.drop a).take (b-a)).flatMap enc=((xs.flatMap enc).drop (a*size)).take ((b-a)*size):=by
  rw[<-Yu hs,VQ hs]
 obtain⟨hl,h⟩:=h;have j:(((xs.flatMap enc).drop (a*size)).take ((b-a)*size)).length=(b-a)*size:=by rw[zx,jg,hl];omega
 suffices hh:∃g,Op.aC size [B1 0,B1 1,B1 2] [v,.int .i64 za,.int .i64 zb,.int .i64 zc]=B1 g/\Sl H size g (b-a) (((xs.flatMap enc).drop (a*size)).take ((b-a)*size))/\aD g=aD v by
  unfold bM;rw[hlen,e];exact hh
 split at h
 .omega
 .rename_i k o m c;obtain⟨rfl,I,h⟩:=h;have f:b≠a:=by omega
  refine⟨.slice k (o+a*size) (b-a) (b-a),?_,⟨j,rfl,qm _,?_⟩,rfl⟩
  .simp only[Op.aC,arg,kD,ja,zp,qr,dC,wv r (show b<=c by omega),wv p (qm b),wv l (Nat.le_of_lt d),GH f,zo]
  .rcases h with h|⟨hk,all,t,u⟩
   .omega
   .right;obtain⟨G,z⟩:=Jm u;refine⟨hk,all,t,?_⟩;rw[sV,xb (by omega),z,List.drop_take,List.take_take,AF,LH (by omega)]
 .rename_i k i m s alt q;obtain⟨rfl,rfl,hm,h⟩:=h;have e1:∀n,J8 n n=true:=λ n=>by simp
  have f:b≠a:=by omega
  have C:=y8 (show i<=m by omega);refine⟨.slice k ((i+a)*s) (b-a) (b-a),?_,⟨j,rfl,qm _,?_⟩,rfl⟩
  .simp only[Op.aC,arg,kD,ja,zp,qr,dC,e1,C,jp,xv,wv r (show b<=m-i by omega),wv p (qm b),wv l (Nat.le_of_lt d),GH f,zo]
  .rcases h with h|⟨hk,all,t,u⟩
   .omega
   .right;obtain⟨G,z⟩:=Jm u;refine⟨hk,all,t,?_⟩;rw[sV,xb (by rw[ye];omega),z,List.drop_take,List.take_take,AF,LH (by omega),ye]
 .omega
 .exact h.elim
def IC(a b:Int):Op.eG B2 [.int .i64 a,.int .i64 b]=B1 (.int .i64 (if b<a then b else a)):=by
 simp only[Op.eG,Op.gU,qr,Js]
 by_cases h:b<a<;>simp[h]
def AY(n:Nat):Nat:=(n+2) / 3
def Aw(n i:Nat):Nat:=3*i+min 3 (n-3*i)
noncomputable def IM(sv:AV)(n i:Nat):AV:=(Op.aC 1 [B1 0,B1 1,B1 2] [sv,.int .i64 (3*i:Nat),.int .i64 (Aw n i:Nat),.int .i64 (Aw n i:Nat)]).getD .nils
def Eg{H:ar}{sv:AV}{bs:List Int}(h:bM bZ 1 H sv bs){i:Nat}(j:3*i<bs.length):Op.aC 1 [B1 0,B1 1,B1 2] [sv,.int .i64 (3*i:Nat),.int .i64 (Aw bs.length i:Nat),.int .i64 (Aw bs.length i:Nat)]=B1 (IM sv bs.length i)/\bM bZ 1 H (IM sv bs.length i) ((bs.drop (3*i)).take (min 3 (bs.length-3*i)))/\aD (IM sv bs.length i)=aD sv:=by
 have⟨c,d,f,g⟩:=h.Wh FM (a:=3*i) (b:=Aw bs.length i) (by unfold Aw;omega) (by unfold Aw;omega) (za:=(3*i:Nat)) (zb:=(Aw bs.length i:Nat)) (zc:=(Aw bs.length i:Nat)) rfl rfl rfl;have e:IM sv bs.length i=c:=by unfold IM;rw[d];rfl
 rw[show Aw bs.length i-3*i=min 3 (bs.length-3*i)by unfold Aw;omega]at f;rw[e];exact⟨d,f,g⟩
def xek{H0:ar}{d a:Nat}{sv:AV}{bs:List Int}(hs:bM bZ 1 H0 sv bs)(X:H0.get d=B1 (OR [sv] gD))(K:H0.get a=B1 (OR [.int .i64 3] bY))(Z:d<H0.au)(hb2:a<H0.au)(hl:bs.length<=100000) :
 pH M K6 [] [.ptr d 0,.ptr a 0] (λ z=>z=d\/z=a) (λ _=>False) H0 ((N7 (AY bs.length)).map λ i=>[IM sv bs.length i]):=by
 intro Y R S g H1 hnx L C D loc N step;have⟨p1,p2,p3⟩:=L d (.inl (.inl rfl));have⟨r1,O,P⟩:=L a (.inl (.inr rfl))
 suffices h:zj M K6 [.fn (.yield Y) [] [],.ptr d 0,.ptr a 0] H1 (Ic R S g (λ _=>False) H1 ((N7 (AY bs.length)).map λ i=>[IM sv bs.length i]).length)by
  have⟨v,H',hc,W',I,J,q3⟩:=h.elim;exact⟨v,H',W',hc,I,J,q3⟩
 refine qru ?_;rw[xu,jd];simp only[ae,bc,SU];refine dm.intro (λ n E e=>∃(i:Nat)(V:Nat->Prop),E=[(4,.int .i64 (3*i:Nat)),(0,.fn (.yield Y) [] []),(1,.ptr d 0),(2,.ptr a 0)]/\n=AY bs.length-i/\i<=AY bs.length/\R i V e/\(∀b,V b->b<e.au/\(g b\/H1.au<=b))/\Fr (λ b=>g b\/False) H1 e) ?_ ?_
 .exact ⟨_,_,⟨0,g,rfl,rfl,x9 _,C,λ b hb=>⟨D b hb,.inl hb⟩,Fr.refl _⟩,by simp only[ae,bc];rfl⟩
 rintro n E e ⟨i,V,rfl,rfl,hi,hR,hV,j⟩;have T:e.get d=B1 (OR [sv] gD):=by rw[j.ai d (by omega) (λ q=>q.elim p3 id),p2];exact X
 have U:e.get a=B1 (OR [.int .i64 3] bY):=by rw[j.ai a (by omega) (λ q=>q.elim P id),O];exact K
 have l1:Op.ah [.ptr d 0] e=B1 sv:=zg (xe T) 0;have l2:Op.ah [.ptr a 0] e=B1 (.int .i64 3):=zg (xe U) 0;have ln:=hs.len;rcases xw (3*i) bs.length with G|hge
 .have t:((3*i:Nat):Int)<((bs.length:Nat):Int):=by omega
  have o:i<AY bs.length:=by unfold AY;omega
  obtain⟨e1,-,-⟩:=Eg hs G;obtain⟨v',I,J,-⟩:=hs.from FM (k:=3*i) (by omega) (z:=(3*i:Nat)) rfl .i64;have Gz:=J.len;rw[jg]at Gz;have em:(if(((bs.length-3*i:Nat)):Int)<3 then(((bs.length-3*i:Nat)):Int)else 3)=((min 3 (bs.length-3*i):Nat):Int):=by split<;>omega
  have Q:ak .i64 (((3*i:Nat):Int)+((min 3 (bs.length-3*i):Nat):Int))=(Aw bs.length i:Nat):=by rw[ju (by omega) (by omega)];unfold Aw;omega
  have u:ak .i64 (((3*i:Nat):Int)+3)=((3*(i+1):Nat):Int):=by rw[ju (by omega) (by omega)];omega
  have⟨bb,p,s,hr,hf,m,ht,f⟩:=step i [IM sv bs.length i] (by rw[xj,js o];rfl) V e hR hV j;have r:Fr (λ b=>g b\/False) H1 p:=j.trans hf λ y q=>(hV y q).2.imp .inl id;have l:∀y,s y->y<p.au/\(g y\/H1.au<=y):=λ y q=>⟨(m y q).1,(m y q).2.elim (λ w=>(hV y w).2) λ w=>.inr (by have:=j.au;omega)⟩
  simp only[ae,bc,SU,l1,ln,xf t,l2,I,Gz,IC,em,Q,e1];refine C3.tZ hr ?_;cases bb with
  |true =>
   have W:p.get a=B1 (OR [.int .i64 3] bY):=by rw[r.ai a (by omega) (λ q=>q.elim P id),O];exact K
   have l3:Op.ah [.ptr a 0] p=B1 (.int .i64 3):=zg (xe W) 0;simp only[ae,bc,SU,l3,u];exact⟨_,_,⟨i+1,s,rfl,rfl,o,ht rfl,l,r⟩,by simp only[ae,bc],by omega⟩
  |false =>
   simp only[ae,bc];exact⟨s,r,l,.inr (f rfl)⟩
 .have F:i=AY bs.length:=by unfold AY at hi⊢;omega
  have t:¬((3*i:Nat):Int)<((bs.length:Nat):Int):=by omega
  simp only[ae,bc,SU,l1,ln,t];exact⟨V,j,hV,.inl (by rw[<-F];exact hR)⟩
def xhu{H:ar}{sv:AV}(one:aA sv=B4):zj M Rd [sv,.int .i64 3] H λ v H'=>v=.fn (.func K6) [] [.ptr H.au 0,.ptr (H.au+1) 0]/\H'=(H.alloc (OR [sv] gD)).alloc (OR [.int .i64 3] bY):=by
 refine quj ?_;obtain⟨a,e2⟩:∃Z,Z=(H.alloc (OR [sv] gD)).alloc (OR [.int .i64 3] bY):=⟨_,rfl⟩
 have l3:Op.ah [.ptr (H.au+1) 0] a=B1 (.int .i64 3):=by rw[e2];exact vd (xr (H.alloc _) _) 0
 have nx:(H.alloc (OR [sv] gD)).au=H.au+1:=rfl;have b:¬(3:Int)<1:=by decide
 have mk:Op.bB K6 0 [.ptr H.au 0,.ptr (H.au+1) 0]=B1 (.fn (.func K6) [] [.ptr H.au 0,.ptr (H.au+1) 0]):=rfl;simp only[ae,bc,quk,zY one,nx,<-e2,l3,b];rfl
def q7w{H0:ar}{r:Nat}{sv:AV}{bs:List Int}(hs:bM bZ 1 H0 sv bs)(D:Bytes bs)(hl:bs.length<=100000)(h1:H0.get r=B1 (OR [sv] gD))(hb1:r<H0.au)(hsb:bs≠[]->aD sv<H0.au) :
 pH M FR [] [.ptr r 0] (λ z=>z=r\/(bs≠[]/\z=aD sv)) (λ _=>False) H0 ((aO bs).map λ a=>[.agg a.enc]):=by
 intro Y R S n H1 hnx hN hR0 o loc t step;have⟨p1,p2,p3⟩:=hN r (.inl (.inl rfl))
 suffices h:zj M FR [.fn (.yield Y) [] [],.ptr r 0] H1 (Ic R S n (λ _=>False) H1 ((aO bs).map λ a=>[AV.agg a.enc]).length)by
  have⟨v,H',hc,W',q1,q2,q3⟩:=h.elim;exact⟨v,H',W',hc,q1,q2,q3⟩
 have one:aA sv=true:=Sl.one hs;rw[xu];refine q7r ?_;have⟨m,ea,fa,na,ga⟩:=cI H1 (OR [.fn (.yield Y) [] []] Ch);have gb:m.get r=B1 (OR [sv] gD):=by rw[fa.ai _ (by omega) id,p2];exact h1
 have l1:Op.ah [.ptr r 0] m=B1 sv:=vd gb 0;have cy:AV.cells (.fn (.yield Y) [] [])=[.fn (.yield Y) [] []]:=rfl;simp only[ae,bc,ql,cy,<-ea,l1];refine C3.q (xhu one) λ v p⟨hv3,e3⟩=>?_;subst hv3;have f3:Fr Em m p:=by rw[e3];exact((Fr.refl m).alloc _).alloc _
 have n3:p.au=m.au+2:=by rw[e3];rfl
 have c1g:p.get m.au=B1 (OR [sv] gD):=by rw[e3,xF (by rw[xz];omega),xr]
 have c2g:p.get (m.au+1)=B1 (OR [.int .i64 3] bY):=by rw[e3];exact xr (m.alloc _) _
 have l:Fr Em H1 p:=fa.em f3;have X:bM bZ 1 p sv bs:=by
  refine Iq (H:=H0) (W:=λ z=>¬(bs≠[]/\z=aD sv)) hs ⟨by omega,λ z zl q=>?_⟩ λ q w=>w ⟨q,rfl⟩;have q:=kj.1 q;have⟨w1,w2,w3⟩:=hN z (.inl (.inr q));rw[l.ai z (by omega) id,w2]
 have g3:p.get H1.au=B1 (OR [.fn (.yield Y) [] []] Ch):=by rw[f3.ai _ (by omega) id];exact ga
 have al:=MV bs;simp only[ae,bc];refine iA.iter (fn:=UI) (lp:=Rb) (pa:=Zh 0) (pb:=VM 0) q6l _d.1 _d.2 (by decide) q1p q1q
  (xek X c1g c2g (by omega) (by omega) hl) (λ i V Z=>i<=(aO bs).length/\R i V Z) (λ e V Z=>e=.ret/\(R (aO bs).length V Z\/S V Z)) n (qm _) ?_ ?_ ?_ ?_ ?_ ?_ ?_ ?_
 .rintro x ((q|q)|q)
  .exact ⟨by omega,rfl,λ w=>by have:=o _ w;omega⟩
  .exact ⟨by omega,rfl,λ w=>by have:=o _ w;omega⟩
  .exact q.elim
 .exact λ x hx=>by have:=o x hx;omega
 .exact ⟨x9 _,loc 0 n H1 p hR0 (λ b hb=>l.ai b (o b hb) id) l.au⟩
 .exact λ i V m Hb h hs hn=>⟨h.1,loc i V m Hb h.2 hs hn⟩
 .exact λ e V m Hb h hs hn=>⟨h.1,h.2.imp (λ q=>loc _ V m Hb q hs hn) λ q=>t V m Hb q hs hn⟩
 .intro L i lr lb x hx hL V g ⟨hi,hR⟩ hV hf6 hnL hL6 hgL;rw[xj,xk]at hx;obtain⟨j,hj,rfl⟩:=hx;have T:i<AY bs.length:=by have:=(qo.1 hj).1;rw[jd]at this;exact this
  rw[js T]at hj;cases hj;refine⟨_,rfl,?_⟩;obtain⟨-,wa,wb⟩:=ql M ⟨B1 L,FR⟩;simp only[ae,bc,wa,zT];refine⟨hgL,?_⟩;have C:Fr (On L) g (g.set L lb):=(Fr.refl g).set (W:=On L) (.inl rfl) _;have gL:(g.set L lb).get L=B1 lb:=xg ..;have nL:(g.set L lb).au=g.au:=rfl;have nf6:=hf6.au;have G:3*i<bs.length:=by unfold AY at T;omega
  have bne:bs≠[]:=λ q=>by rw[q]at G;simp at G
  have⟨sn1,sn2,sn3⟩:=hN (aD sv) (.inl (.inr ⟨bne,rfl⟩));obtain⟨-,sc,sb⟩:=Eg X G;have f:bM bZ 1 (g.set L lb) (IM sv bs.length i) ((bs.drop (3*i)).take (min 3 (bs.length-3*i))):=by
   refine Sl.fr (Sl.fr sc hf6 (.inr λ q=>?_)) C (.inr λ(q:aD _=L)=>?_)
   .rw [sb]at q;exact q.elim sn3 id
   .rw [sb]at q;omega
  have wn:¬n H1.au:=λ q=>by have:=o _ q;omega
  have g8:(g.set L lb).get H1.au=B1 (OR [.fn (.yield Y) [] []] Ch):=by rw[C.ai _ (by omega) (λ(q:H1.au=L)=>by omega),hf6.ai _ (by omega) λ q=>q.elim wn id];exact g3
  have O:=loc i V g _ hR (λ b hb=>C.ai b (hV b hb).1 λ(q:b=L)=>hnL (by rw[<-q];exact hb)) C.au;have F18:Fr (λ b=>n b\/False) H1 (g.set L lb):=((l.mono (W':=λ b=>n b\/False) λ z _ q=>q.elim).trans hf6 λ b q=>.inl q).trans C λ b(q:b=L)=>.inr (by omega);have hV8:∀b,V b->b<(g.set L lb).au/\(n b\/H1.au<=b):=λ b q=>⟨(hV b q).1,(hV b q).2.imp id λ w=>by omega⟩
  generalize g.set L lb=H8 at *;have l8:Op.ah [.ptr H1.au 0] H8=B1 (.fn (.yield Y) [] []):=vd g8 0;have ln:=f.len
  by_cases E:3*i+2<bs.length
  .have ⟨u,I,J,y0,y1,y2,ya⟩:=q7y bs i E;have em:min 3 (bs.length-3*i)=3:=by omega
   rw[em]at f ln;have K:((bs.drop (3*i)).take 3).length=3:=by simp;omega
   rw[K]at ln;have z0:((bs.drop (3*i)).take 3)[0]? = B1 u:=by simpa using y0
   have z1:((bs.drop (3*i)).take 3)[1]? = B1 I:=by simpa using y1
   have z2:((bs.drop (3*i)).take 3)[2]? = B1 J:=by simpa using y2
   have r0:=D.get y0;have r1:=D.get y1;have r2:=D.get y2;have v0:ak .i64 u=u:=ju (by omega) (by omega);have v1:ak .i64 I=I:=ju (by omega) (by omega);have v2:ak .i64 J=J:=ju (by omega) (by omega);have v3:ak .i64 (u % 4+1)=u % 4+1:=ju (by omega) (by omega);have U:∀a:Int,Op.bin .rem [.int .i64 a,.int .i64 4]=B1 (.int .i64 (a.tmod 4)):=λ a=>sI .i64 a 4 (by omega);have e33:¬(((3:Nat):Int)<3):=by omega
   have hbd:Op.build [.int .i64 0,.int .i64 0,.int .i64 0] [(0,1),(1,1),(2,1)] [.int .i64 (u % 4+1),.int .i64 (I % 4),.int .i64 J]=B1 (.agg (xW u I J).enc):=rfl;have⟨bb,H9,W9,hr,Q,P,hT,hF⟩:=step i [.agg (xW u I J).enc] (by rw[xj,ya];rfl) V H8 O hV8 F18;have i0:=f.idx z0 (z:=0) rfl .i64;have i1:=f.idx z1 (z:=1) rfl .i64;have i2:=f.idx z2 (z:=2) rfl .i64;have d0:=f.jA FM z0 (by decide);have d1:=f.jA FM z1 (by decide);have d2:=f.jA FM z2 (by decide);simp only[ae,bc,wb,ln,e33,l8,i0,i1,i2,d0,d1,d2,bZ,v0,v1,v2,U,Jf r0.1,Jf r1.1,v3,hbd];refine C3.tZ hr ?_;have g9:H9.get L=B1 lb:=by rw[Q.ai L (by omega) hnL];exact gL
   have s:∀b,W9 b->b<H9.au/\(V b\/g.au<=b):=λ b hb=>⟨(P b hb).1,(P b hb).2.imp id λ q=>by omega⟩
   have N:Fr (λ b=>V b\/b=L) g H9:=(C.mono λ x _ q=>.inr q).trans Q λ b hb=>.inl (.inl hb);have hlen:=Fv ya;cases bb with
   |true =>
    simp only[ae,bc];exact⟨rfl,g9,W9,s,N,.inl ⟨rfl,hlen,hT rfl⟩⟩
   |false =>
    simp only[ae,bc];exact⟨rfl,g9,W9,s,N,.inr ⟨trivial,rfl,.inr (hF rfl)⟩⟩
  .have elt:((((bs.drop (3*i)).take (min 3 (bs.length-3*i))).length:Nat):Int)<3:=by simp;omega
   simp only[ae,bc,wb,ln,xf elt];have hi':i=(aO bs).length:=by omega
   exact⟨rfl,gL,V,λ b hb=>⟨by rw[nL];exact(hV b hb).1,.inl hb⟩,C.mono λ x _ q=>.inr q,.inr ⟨trivial,rfl,.inl (by rw[<-hi'];exact O)⟩⟩
 .rintro d V H' hd hd2 hg hf hV ⟨hi,hP⟩;rw[xu,jd]at hP hi;have hcl:AY bs.length=(aO bs).length:=by unfold AY at hi⊢;omega
  have fd:Fr (On d) H' (H'.set d (.deferred B5)):=(Fr.refl H').set (W:=On d) (.inl rfl) _;have F:Fr (λ b=>n b\/False) H1 (H'.set d (.deferred B5)):=((l.mono (W':=λ b=>n b\/False) λ z _ q=>q.elim).trans hf λ b q=>.inl q).trans fd λ b(q:b=d)=>.inr (by omega);simp only[ae,bc];exact⟨hg,V,F,λ b hb=>⟨(hV b hb).1,(hV b hb).2.1.imp id λ q=>by omega⟩,.inl (loc _ _ _ _ (hcl▸hP) (λ b hb=>jv (λ q=>(hV b hb).2.2 q.symm) _) (qm _))⟩
 .rintro e d V H' hj hd hd2 hg hf hV ⟨rfl,hP⟩;have fd:Fr (On d) H' (H'.set d (.deferred B5)):=(Fr.refl H').set (W:=On d) (.inl rfl) _;have F:Fr (λ b=>n b\/False) H1 (H'.set d (.deferred B5)):=((l.mono (W':=λ b=>n b\/False) λ z _ q=>q.elim).trans hf λ b q=>.inl q).trans fd λ b(q:b=d)=>.inr (by omega);simp only[ae,bc,Gg];exact⟨hg,V,F,λ b hb=>⟨(hV b hb).1,(hV b hb).2.1.imp id λ q=>by omega⟩,hP.imp (λ q=>loc _ _ _ _ q (λ b hb=>jv (λ q=>(hV b hb).2.2 q.symm) _) (qm _)) λ q=>t _ _ _ q (λ b hb=>jv (λ q=>(hV b hb).2.2 q.symm) _) (qm _)⟩
end Go.Am
namespace Go.Am
open Lang Go.Proofs
variable{M:ao}[MK M]
section
variable{Hb H H':ar}{w B k k':Nat}{cvs hv ov:AV}{bs:Bs}{own:Nat->Nat}{ks:List Ck}{V:Int->L8}{x y:Wo}
def WZ(Hb H:ar)(w B:Nat)(cvs hv:AV)(bs:Bs)(ks:List Ck)(k:Nat)(y:Wo)(l:List To)(ov:AV)(H':ar):Prop:=∃Hb' hv' bs' aP ks' V',Hb'.au=Hb.au/\fh Hb' H' w B cvs hv' bs' aP ks' V' k y/\H.au<=H'.au/\(∀z,fU H w B cvs hv bs ks z->fU H' w B cvs hv' bs' ks' z/\H'.get z=H.get z)/\aL ei ku 14 H' ov l /\ ∀z,aM ov z->fU H' w B cvs hv' bs' ks' z/\H.au<=z
def UJ(n0:Nat)(F0:Nat->Prop)(hb w B:Nat)(cvs:AV)(wb ob:Nat)(x:Wo)(ls:List Act)(k i:Nat)(U:Nat->Prop)(H:ar):Prop:=∃Hb hv bs own ks V ov,Hb.au=hb/\fh Hb H w B cvs hv bs own ks V (k+2*i) (x.run (ls.take i)).1/\i<=ls.length/\H.get wb=B1 (OR [.ptr w 0] XG)/\H.get ob=B1 (OR [ov] uP)/\aL ei ku 14 H ov (x.run (ls.take i)).2 /\
 fU H w B cvs hv bs ks wb/\fU H w B cvs hv bs ks ob/\(∀z,aM ov z->fU H w B cvs hv bs ks z/\n0<=z/\z≠wb/\z≠ob/\U z)/\(U wb/\U ob /\ ∀z,z<H.au -> ¬fU H w B cvs hv bs ks z->U z) /\ ∀z,F0 z->fU H w B cvs hv bs ks z
def UJ.loc{n0:Nat}{d:Nat->Prop}{hb wb f i:Nat}{ls:List Act}{U:Nat->Prop}(h:UJ n0 d hb w B cvs wb f x ls k i U H)(hs:∀z,U z->H'.get z=H.get z)(hn:H.au<=H'.au):UJ n0 d hb w B cvs wb f x ls k i U H':=by
 have⟨Hb,hv,bs,own,ks,V,ov,e1,r,o,n,go,ow,m,fo,fv,⟨j,g,un⟩,l⟩:=h;have wd:=λ{z:Nat}(q:fU H w B cvs hv bs ks z)=>q.wide (H':=H') (hv':=hv) (bs':=bs) hn (λ q=>.inl q) λ q=>.inl q;refine⟨H'.low Hb.au,hv,bs,own,_,V,ov,e1,r.xT hn λ z b q=>hs z (un z b q),o,by rw[hs _ j];exact n,by rw[hs _ g];exact go,Own.fr ow (W:=λ z=>¬U z) ⟨hn,λ z b q=>hs z (kj.1 q)⟩ λ z q e=>e (fv z q).2.2.2.2,wd m,wd fo,λ z q=>⟨wd (fv z q).1,(fv z q).2⟩,⟨j,g,λ z b q=>?_⟩,λ z q=>wd (l z q)⟩;rcases xw z H.au with a|a
 .exact un z a λ e=>q (wd e)
 .exact (q (r.new a b)).elim
def xki(h:fh Hb H w B cvs hv bs own ks V k x){sv:AV}{g:List Int}(hs:bM bZ 1 H sv g)(hby:Bytes g)(hl:g.length<=3000)(hsb:g≠[]->fU H w B cvs hv bs ks (aD sv))(hk:k+2*(aO g).length<=80000)(hS:pQ H)(hG:jq<Hb.au)(hh:x.h.length<=50000)(n0:0<=x.n)(n1:x.n<=500000) :
 zj M Oc [.ptr w 0,sv] H λ v H'=>WZ Hb H w B cvs hv bs ks (k+2*(aO g).length) (x.run (aO g)).1 (x.run (aO g)).2 v H':=by
 have one:aA sv=true:=Sl.one hs;have al:=MV g;generalize has:aO g=ls at *;refine qy9 ?_;obtain⟨H1,e1,f1,m1,-⟩:=cI H (OR [.ptr w 0] XG);obtain⟨H2,e2,f12,m2,-⟩:=cI H1 (OR [.nils] uP);have⟨Q,e3,f23,m3,g3⟩:=cI H2 (OR [sv] gD);have f3:Fr Em H Q:=(f1.em f12).em f23;have g1:Q.get H.au=B1 (OR [.ptr w 0] XG):=by rw[(f12.em f23).ai _ (by omega) id,e1,xr]
 have g2:Q.get H1.au=B1 (OR [.nils] uP):=by rw[f23.ai _ (by omega) id,e2,xr]
 have hac:zj M Y2 [sv] H2 λ v H'=>v=.fn (.func FR) [] [.ptr H2.au 0]/\H'=Q:=by
  refine qzo ?_;simp only[ae,bc,ε,zY one,<-e3];rfl
 have h3:=h.em f3;have n3:=f3.au;have C:=λ{z:Nat}(q:fU H w B cvs hv bs ks z)=>q.wide (H':=Q) (hv':=hv) (bs':=bs) n3 (λ q=>.inl q) λ q=>.inl q;have hb0:Hb.au<=H.au:=by have:=h.b.lo B (.inl rfl);have:=h.b.lt;omega
 have hS3:=hS.em f3;have gG:fU H w B cvs hv bs ks jq:=⟨hS.2,λ q=>by have:=h.b.lo _ q;omega,λ q=>by have:=(h.wb _ q).2;omega,λ i A e=>zi λ q=>by have:=h.lo i A e _ hS.2 q;omega⟩
 simp only[ae,bc,X3,show AV.cells (.ptr w 0)=[.ptr w 0]from rfl,<-e1,<-e2];refine C3.q hac λ v H'⟨hv',hh'⟩=>?_;subst hv';have hh':=hh'.symm;subst hh';simp only[ae,bc];refine iA.iter (fn:=UC) (lp:=OU) (pa:=U0 0) (pb:=Zu 0) qw3 nh.1 nh.2 (by decide) quz qu0
  (q7w (Sl.em hs f3) hby (by omega) g3 (by omega) λ q=>qn (hsb q).lt n3) (λ i U Hx=>UJ H.au (fU H w B cvs hv bs ks) Hb.au w B cvs H.au H1.au x ls k i U Hx) (λ _ _ _=>False) (λ z=>z<Q.au/\(¬fU Q w B cvs hv bs (wide ks H.au) z\/z=H.au\/z=H1.au)) (qm _) ?_ ?_ ?_ ?_ ?_ ?_ ?_ ?_
 .rintro z ((q|⟨q,rfl⟩)|q)
  .refine ⟨by omega,rfl,λ e=>?_⟩;rcases e.2 with e|e|e
   .exact e (h.new (by omega) (by omega))
   .omega
   .omega
  .have hz:=hsb q;refine⟨(C hz).lt,rfl,λ e=>?_⟩;have:=hz.lt;rcases e.2 with e|e|e
   .exact e (C hz)
   .omega
   .omega
  .exact q.elim
 .exact λ z q=>q.1
 .refine ⟨Hb,hv,bs,own,_,V,.nils,rfl,by rw[kz];exact h3,x9 _,g1,g2,by rw[kz];exact Own.nil ..,h.new (by omega) (by omega),h.new (by omega) (by omega),λ z q=>(q.1 rfl).elim,⟨⟨by omega,.inr (.inl rfl)⟩,⟨by omega,.inr (.inr rfl)⟩,λ z F q=>⟨F,.inl q⟩⟩,λ z q=>C q⟩
 .exact λ i U Ha Hc h hs hn=>h.loc hs hn
 .exact λ e U Ha Hc h _ _=>h
 .intro L i lr lb a hx hL U G hP hU hf6 O hL6 hgL;rw[has,xj,xk]at hx;obtain⟨a,ha,rfl⟩:=hx;have hia:=(qo.1 ha).1;refine⟨_,rfl,?_⟩;obtain⟨-,wa,wb,-⟩:=X3 M ⟨B1 L,Oc⟩;have⟨u,e7,f7,m7,g7⟩:=cI G (OR a.enc tJ);have s7:Op.store 3 [.ptr G.au 0,.agg a.enc] (G.alloc (OR [.int .i64 0,.int .i64 0,.int .i64 0] tJ))=B1 (.undef,u):=by rw[ij (n:=3) (l:=[.int .i64 0,.int .i64 0,.int .i64 0]) (xr G _) rfl (Act.len a) (Act.one a),N2,e7]
  simp only[ae,bc,wa,s7,zT];refine⟨by rw[f7.ai L hL6 id];exact hgL,?_⟩;have f8:Fr (On L) u (u.set L lb):=(Fr.refl u).set (W:=On L) (.inl rfl) _;have g8:(u.set L lb).get G.au=B1 (OR a.enc tJ):=by rw[jv (by omega)];exact g7
  have gL:(u.set L lb).get L=B1 lb:=xg ..;have hP8:=hP.loc (H':=u.set L lb) (λ z q=>by rw[jv (λ e:L=z=>O (by rw[e];exact q)),f7.ai z (hU z q).1 id]) (by rw[oO];omega);have hS8:pQ (u.set L lb):=by
   have nf6:=hf6.au;have gl:=hS3.2;have:(u.set L lb).get jq=Q.get jq:=by
    rw[f8.ai _ (by omega) (λ(e:jq=L)=>by omega),f7.ai _ (by omega) id,hf6.ai _ gl λ e=>e.elim (λ e=>?_) id];rcases e.2 with e|e|e
    .exact e (C gG)
    .have:=hS.2;omega
    .have:=hS.2;omega
   refine⟨?_,by rw[oO];omega⟩;unfold ar.bQ;rw[this];exact hS3.1
  have F68:Fr (λ z=>U z\/z=L) G (u.set L lb):=(f7.mono λ _ _ q=>q.elim).trans f8 λ z q=>.inl (.inr q);have n8:(u.set L lb).au=G.au+1:=by rw[oO,m7]
  generalize u.set L lb=H8 at *;have⟨S,r,p,R,s,V8,m,X,r8,hi8,gw8,E,P,D,N,f,⟨uw,uo,un⟩,Y⟩:=hP8;have lw:Op.ah [.ptr H.au 0] H8=B1 (.ptr w 0):=vd gw8 0;have lo:Op.ah [.ptr H1.au 0] H8=B1 m:=vd E 0;have la:=fC g8 (Act.len a);have xn:=Wo.vE (ls.take i) x;have xh:=Wo.vI (ls.take i) x;have tl:(ls.take i).length=i:=by rw[zx];omega
  rw[tl]at xn xh;simp only[ae,bc,wb,aB,lw,lo,la];refine C3.q (_c r8 (by omega) hS8 (by omega) (by omega) (by omega) (by omega) a) λ v H9⟨hv9,hv',T,own9,ks9,V9,r9,n9,j⟩=>?_;subst hv9;have FL:fU H8 w B cvs r p s L:=zi λ q=>O (un L (by omega) q);have⟨fo9,go9⟩:=j _ N;have⟨fw9,gw9⟩:=j _ D;have lo9:Op.ah [.ptr H1.au 0] H9=B1 m:=vd (go9.trans E) 0;have ow9:aL ei ku 14 H9 m (x.run (ls.take i)).2:=Own.fr P (W:=λ z=>¬fU H8 w B cvs r p s z) ⟨n9,λ z F q=>(j z (kj.1 q)).2⟩ λ z q e=>e (f z q).1;have rl:=Wo.nJ (ls.take i) x;rw[tl]at rl;have cT:∀t,AV.cells (.agg (ei t))=ei t:=λ _=>rfl;simp only[ae,bc,lo9,J9];refine aL.mO (bytes:=112) ow9 (x:=.agg (ei ((x.run (ls.take i)).1.act a).2)) (a:=((x.run (ls.take i)).1.act a).2) rfl (vD _) (vD _) (ON _) (by decide) (by omega) (by omega) λ v' I o10 K hz=>?_;have nfo:¬aM m H1.au:=λ q=>(f _ q).2.2.2.1 rfl;have a10:At I H1.au uP [m]:=⟨by rw[K.ai _ fo9.lt nfo,go9];exact E,qn fo9.lt K.au⟩
  have one':aA v'=true:=Sl.one (Own.sl o10);have s11:=a10.st 0 one' (by simp);obtain⟨o,J⟩:∃Z,Z=I.set H1.au (OR ([m].set 0 v') uP):=⟨_,rfl⟩
  rw[<-J]at s11;have f11:Fr (On H1.au) I o:=by rw[J];exact cm ..
  have n11:o.au=I.au:=by rw[J];rfl
  have n10:=K.au;have F9:Fr (λ z=>aM m z\/z=H1.au) H9 o:=(K.mono λ z _ q=>.inl q).trans f11 λ z q=>.inl (.inr q);simp only[ae,bc,s11];have r11:=r9.xT F9.au λ z F q=>F9.ai z F λ e=>e.elim (λ e=>q (j z (f z e).1).1) λ e=>q (by rw[e];exact fo9);have wd:=λ{z:Nat}(q:fU H8 w B cvs r p s z)=>show fU o w B cvs hv' T (wide ks9 H9.au) z from(j z q).1.wide (hv':=hv') (bs':=T) F9.au (λ q=>.inl q) λ q=>.inl q
  have tk:ls.take (i+1)=ls.take i ++ [a]:=by rw[vg,ha];rfl
  have rk:=Wo.yR x (ls.take i) a;have wlo:∀z,aM v' z->z≠H1.au/\z≠H.au:=λ z q=>by
   rcases hz z q with t|t
   .exact ⟨(f z t).2.2.2.1,(f z t).2.2.1⟩
   .have:=N.lt;have:=D.lt;omega
  have F6:Fr (λ z=>U z\/z=L) G o:=⟨by omega,λ z F q=>by
   have fz:fU H8 w B cvs r p s z:=zi λ e=>q (.inl (un z (by omega) e));rw[F9.ai z (j z fz).1.lt (λ e=>e.elim (λ e=>q (.inl (f z e).2.2.2.2)) λ e=>q (.inl (by rw[e];exact uo))),(j z fz).2,F68.ai z F q]⟩
  refine⟨rfl,by rw[F9.ai L (j L FL).1.lt (λ e=>e.elim (λ e=>O (f L e).2.2.2.2) λ e=>O (by rw[e];exact uo)),(j L FL).2];exact gL,λ z=>U z\/(G.au<=z/\z<o.au),λ z q=>q.elim (λ q=>⟨by have:=(hU z q).1;omega,.inl q⟩) λ q=>⟨q.2,.inr q.1⟩,F6,.inl ⟨rfl,?_⟩⟩;refine⟨o.low S.au,hv',T,own9,_,V9,v',by exact X,?_,hia,by rw[F9.ai _ fw9.lt (λ e=>e.elim (λ e=>(f _ e).2.2.1 rfl) λ e=>by omega),gw9];exact gw8,by rw[J,xg];rfl,?_,wd D,wd N,λ z q=>?_,⟨.inl uw,.inl uo,λ z F q=>?_⟩,λ z q=>wd (Y z q)⟩
  .rw [tk,rk];exact r11
  .rw [tk,rk];exact Own.fr o10 f11 λ z q(e:z=H1.au)=>(wlo z q).1 e
  .rcases hz z q with t|t
   .have ⟨b1,b2,b3,b4,b5⟩:=f z t;exact⟨wd b1,b2,b3,b4,.inl b5⟩
   .have F:=Own.lt o10 z q;exact⟨r9.new t (by omega),by have:=D.lt;omega,(wlo z q).2,(wlo z q).1,.inr ⟨by omega,by omega⟩⟩
  .rcases xw z G.au with zl'|zl'
   .exact .inl (un z (by omega) λ e=>q (wd e))
   .exact .inr ⟨zl',F⟩
 .rintro d U H' hd hd2 hg hf hU hP;rw[has,xu]at hP;have⟨S,r,p,R,s,V8,m,X,r8,hi8,gw8,E,P,D,N,f,⟨uw,uo,un⟩,Y⟩:=hP;rw[GJ]at r8 P;have Fd:fU H' w B cvs r p s d:=zi λ q=>(hU d (un d hd2 q)).2.2 rfl;have fd:Fr (On d) H' (H'.set d (.deferred B5)):=(Fr.refl H').set (W:=On d) (.inl rfl) _;have lq:Op.ah [.ptr H1.au 0] H'=B1 m:=vd E 0;have nf:=hf.au;simp only[ae,bc,X3,lq,Gg];refine⟨hg,S,r,p,R,s,V8,X,r8.MJ Fd (by omega) _,by rw[oO];omega,λ z q=>⟨?_,?_⟩,Own.fr P fd λ z q(e:z=d)=>(hU z (f z q).2.2.2.2).2.2 e,λ z q=>⟨?_,(f z q).2.1⟩⟩
  .have:=Y z q;exact⟨by rw[oO];exact this.lt,this.nb,this.nw,this.nc⟩
  .have F:=q.lt;rw[jv (by omega),hf.ai z (by omega) (λ e=>e.elim (λ e=>?_) id),f3.ai z F id];rcases e.2 with e|e|e
   .exact e (C q)
   .omega
   .omega
  .have:=(f z q).1;exact⟨by rw[oO];exact this.lt,this.nb,this.nw,this.nc⟩
 .rintro e d U H' hj hd hd2 hg hf hU hP;exact hP.elim
end
end Go.Am
namespace Go.Am
open Lang Go.Proofs
variable{M:ao}[MK M]
section
variable{Hb H H' H5:ar}{w B k k':Nat}{cvs cvs' hv ov:AV}{bs:Bs}{own:Nat->Nat}{ks:List Ck}{V:Int->L8}{x y:Wo}{A:Ck}{c:Co}
def Jh{α:Type}{l:List α}{a b:α}{i:Nat}(h:(l ++ [a])[i]? = B1 b):l[i]? = B1 b\/i=l.length/\b=a:=by
 rcases xw i l.length with q|q
 .rw [jw q]at h;exact .inl h
 .rw [zw q]at h;obtain⟨e,rfl⟩:i-l.length=0/\a=b:=by
   cases d:i-l.length with
   |zero=>rw[d]at h;injection h with h;exact⟨rfl,h⟩
   |succ n=>rw[d]at h;cases h
  exact .inr ⟨by omega,rfl⟩
theorem fh.add(r:fh Hb H w B cvs hv bs own ks V k x)(T:dW H A.o A.p A.f A.l A.sp A.cv A.rv .nils .nili c [] k)(D:c.id=(x.cs.length:Int))(hl:x.cs.length<x.b.ns.length)(a0:∀z,z<H.au->A.o z≠0->fU H w B cvs hv bs ks z/\Hb.au<=z)
 (Z:aL pC AE 1 H5 cvs' (ks.map Ck.p ++ [A.p])) (F:Fr (λ z=>z=w\/aM cvs z) H H5) (E:∀z,aM cvs' z->aM cvs z\/H.au<=z) (row:At H5 w F7 (lY B cvs' hv x.n)):fh Hb H5 w B cvs' hv bs own (wide (ks ++ [A]) H.au) V k {x with cs:=x.cs ++ [c]}:=by
 have nx:=F.au;have v:∀z,(z=w\/aM cvs z)->ug w cvs hv z:=λ z q=>q.imp id .inl;have s:∀z,ug w cvs' hv z->ug w cvs hv z\/H.au<=z:=λ z q=>by
  rcases q with q|q|q
  .exact .inl (.inl q)
  .exact (E z q).imp (λ q=>.inr (.inl q)) id
  .exact .inl (.inr (.inr q))
 have S:Hb.au<=H.au:=by have:=r.b.lo B (.inl rfl);have:=r.b.lt;omega
 -- whose a block is
 refine⟨row,?_,Own.fr r.hl F λ z e q=>q.elim (λ q=>r.w1.2 (by rw[<-q];exact e)) λ q=>r.w2 z q e,r.b.fr F λ z q=>⟨(r.wb z (v z q)).2,(r.wb z (v z q)).1⟩,r.I,r.C,r.U,λ j d K P h=>?_,by unfold wide;simp only[xu,xc,List.length_singleton];rw[r.kl],by show(x.cs ++ [c]).length<=_;rw[xc,List.length_singleton];exact hl,λ j K h z e=>?_,λ j Y A1 A2 e1 e2 ne z i e=>?_,λ j K h z i e=>?_,λ z e=>?_,⟨λ e=>?_,r.w1.2⟩,λ z e q=>?_⟩
 .unfold wide;rw[zD,I9];exact Z
 .obtain ⟨m,e1,rfl⟩:=Is h;rcases Jh e1 with e1|⟨ej,rfl⟩
  .have W:=(qo.1 e1).1;rcases Jh P with e2|⟨e2,_⟩
   .have ⟨r1,r2⟩:=r.co j d m e2 e1;exact⟨r1.fr F (λ z i q e=>q (r.dj j m e1 z (.inr (v z e)))) (λ z i=>iZ i) (qm _),r2⟩
   .rw [r.kl]at W;omega
  .rcases Jh P with e2|⟨e2,rfl⟩
   .have:=(qo.1 e2).1;rw[<-r.kl]at this;omega
   .exact ⟨T.fr F (λ z i q e=>(a0 z i q).1.nw (v z e)) (λ z i=>iZ i) (qm _),by rw[D,e2]⟩
 .obtain ⟨m,e1,rfl⟩:=Is h;refine zi λ q=>?_;have⟨i,q⟩:=ot q;rcases Jh e1 with e1|⟨_,rfl⟩
  .rcases e with e|e
   .exact q (r.dj j m e1 z (.inl e))
   .rcases s z e with t|t
    .exact q (r.dj j m e1 z (.inr t))
    .omega
  .obtain ⟨f,-⟩:=a0 z i q;rcases e with e|e
   .exact f.nb e
   .rcases s z e with t|t
    .exact f.nw t
    .omega
 .obtain ⟨L,R,rfl⟩:=Is e1;obtain⟨N,O,rfl⟩:=Is e2;have⟨g,G⟩:=ot e;refine zi λ u=>?_;obtain⟨-,u⟩:=ot u;rcases Jh R with Q|⟨i1,rfl⟩
  .rcases Jh O with J|⟨X,rfl⟩
   .exact u (r.d2 _ _ L N Q J ne z g G)
   .exact G ((a0 z g u).1.nc j L Q)
  .rcases Jh O with J|⟨X,rfl⟩
   .exact u ((a0 z g G).1.nc Y N J)
   .omega
 .obtain ⟨m,e1,rfl⟩:=Is h;have⟨g,q⟩:=ot e;rcases Jh e1 with e1|⟨_,rfl⟩
  .exact r.lo j m e1 z g q
  .exact (a0 z g q).2
 .rcases s z e with t|t
  .exact r.wb z t
  .exact ⟨λ q=>by have:=r.b.low q;omega,by omega⟩
 .rcases E w e with t|t
  .exact r.w1.1 t
  .have:=r.row.2;omega
 .rcases E z e with t|t
  .exact r.w2 z t q
  .have:=Own.lt r.hl z q;omega
end
end Go.Am
namespace Go.Am
open Lang Go.Proofs
variable{M:ao}[MK M]
def lP(p:AV×List Int):List AV:=[p.1]
def xca(p:AV×List Int):(lP p).length=1:=rfl
def l_(d e:L8)(H:ar):Op.eq (.agg T2) B4 [.agg (dE d),.agg (dE e)] H=B1 (.bool (!decide (d=e))):=TI _ _ _ H _ (eqL d e)
noncomputable def jO(qs:List (List Int))(i:Nat):List i9:=match qs[i]? with
 |none=>[]
 |some q=>(oh q).take 1024
noncomputable def kR(l f so sf:Int)(qs:List (List Int))(n:Nat):List Co:=(N7 n).map λ i:Nat=>KP (i:Int) l (jO qs i) f so sf
noncomputable def Qn(l c s wy:Int)(fs:List L8)(qs:List (List Int))(f so sf:Int):Wo:=⟨kH l c s wy fs,kR l f so sf qs c.toNat,[],0⟩
def okW(l c s wy:Int)(fs:List L8)(n:Nat)(f so sf:Int):Prop:=(sW l c s wy/\(fs.length:Int)<=l)/\(n:Int)<=c/\(∀x,fs[0]? = B1 x->x=.zero)/\okB f so sf
def EU(l f so sf:Int)(qs:List (List Int))(n:Nat):kR l f so sf qs (n+1)=kR l f so sf qs n ++ [KP (n:Int) l (jO qs n) f so sf]:=by
 unfold kR;rw[List.range_succ,I9];rfl
def G4(l f so sf:Int)(qs:List (List Int))(n:Nat):(kR l f so sf qs n).length=n:=by unfold kR;rw[xu,jd]
def ZM(H:ar)(l c s wy:Int)(fs:List L8)(qs:List (List Int))(f so sf:Int)(v:AV)(H':ar):Prop:=Fr Em H H'/\((¬okW l c s wy fs qs.length f so sf/\v=.tuple [.nilp,.int .i64 2])\/okW l c s wy fs qs.length f so sf /\ ∃Hb w B cvs bs own ks V,v=.tuple [.ptr w 0,.int .i64 0]/\H.au<=Hb.au/\fh Hb H' w B cvs .nils bs own ks V 0 (Qn l c s wy fs qs f so sf))
def hZ{H:ar}{l c s wy f so sf:Int}{pv fv:AV}{d:List (AV×List Int)}{fs:List L8}(hP:bM lP 1 H pv d)(hps:∀p∈d,bM bZ 1 H p.1 p.2/\(p.2≠[]->aD p.1<H.au)/\p.2.length<=100000)(hF:bM dE 8 H fv fs)(hfb:fs≠[]->aD fv<H.au)(hfu:∀x∈fs,x.u) :
 zj M q2o [.agg (eH l c s wy),pv,.agg [.int .i64 f,.int .i64 so,.int .i64 sf],fv] H (ZM H l c s wy fs (d.map Bk) f so sf):=by
 refine xf7 ?_;obtain⟨H1,e1,f1,m1,-⟩:=cI H (OR (eH l c s wy) AH);have⟨T,e2,U,m2,g2⟩:=cI H1 (OR [.int .i64 f,.int .i64 so,.int .i64 sf] I8);have g1:T.get H.au=B1 (OR (eH l c s wy) AH):=by rw[U.ai _ (by omega) id,e1,xr]
 have W:=f1.em U;have ls:=fC g1 (show(eH l c s wy).length=4 from rfl);have l1:Op.ah [.ptr H.au 1] T=B1 (.int .i64 c):=vd g1 1;simp only[ae,bc,zU,<-e1,<-e2,ls];refine C3.q (xbt l c s wy (Sl.em hF W) λ q=>qn (hfb q) W.au) λ v b hb=>?_;have t2:¬(2:Int)=0:=by decide
 have pl:=hP.len;rcases hb with⟨hno,rfl,K⟩|⟨N,B,bs,own,rfl,hB,K⟩
 .simp only[ae,bc,zU,aB,t2];exact⟨W.em K,.inl ⟨λ q=>hno q.1,rfl⟩⟩
 have q0:¬ ¬(0:Int)=0:=λ q=>q rfl;have sl:=hF.len;have L:b.get H.au=B1 (OR (eH l c s wy) AH):=by rw[K.ai _ (by omega) id];exact g1
 have g2':b.get H1.au=B1 (OR [.int .i64 f,.int .i64 so,.int .i64 sf] I8):=by rw[K.ai _ (by omega) id];exact g2
 have I:Op.ah [.ptr H.au 1] b=B1 (.int .i64 c):=vd L 1;have F3:=W.em K;have⟨⟨⟨lo2,lo64⟩,c1,c4⟩,hs4⟩:=N.1
 by_cases F:c<(d.length:Nat)
 .simp only[ae,bc,zU,aB,q0,pl,I,xf F];exact⟨F3,.inl ⟨λ q=>by have:=q.2.1;rw[xu]at this;omega,rfl⟩⟩
 -- behind the checks
 by_cases hfz:∃x,fs[0]? = B1 x/\x≠ .zero
 .have ⟨x,t,hxz⟩:=hfz;have hpos:(0:Int)<((fs.length:Nat):Int):=by have:=(qo.1 t).1;omega
  have ne:fs≠[]:=λ q=>by rw[q]at t;cases t
  have C:bM dE 8 b fv fs:=Sl.em hF F3;have ix:=C.idx t (z:=0) rfl .i64;have ld:=C.aw wl (by decide) t;simp only[ae,bc,zU,aB,q0,pl,I,F,sl,xf hpos,ix,ld,lZ,D5,l_,hxz];exact⟨F3,.inl ⟨λ q=>hxz (q.2.2.1 x t),rfl⟩⟩
 have ok0:∀x,fs[0]? = B1 x->x=.zero:=λ x t=>zi λ q=>hfz ⟨x,t,q⟩
 -- the world,of no core yet
 obtain⟨H4,e4,f4,m4,-⟩:=cI b (OR (lY B .nils .nils 0) F7);have m3:=K.au;have bw:Op.build [.nilp,.nils,.nils,.int .i64 0] [(0,1)] [.ptr B 0]=B1 (.agg (lY B .nils .nils 0)):=rfl;have g:∀z,¬aM AV.nils z:=λ z q=>q.1 rfl;have wo1:∀z,ug b.au .nils .nils z->z=b.au:=λ z q=>q.elim id λ q=>(q.elim (g z) (g z)).elim;have r4:fh T H4 b.au B .nils .nils bs own [] (λ _=>.zero) 0 ⟨kH l c s wy fs,[],[],0⟩:=⟨⟨by rw[e4,xr],by omega⟩,Own.nil ..,Own.nil ..,hB.em f4,xku fs N.1,xkt,xkv hfu,λ i c A h=>(by cases h),rfl,x9 _,λ i A h=>(by cases h),λ i j A A' h=>(by cases h),λ i A h=>(by cases h),λ z q=>by rw[wo1 z q];exact⟨λ q=>by have:=hB.low q;omega,m3⟩,⟨g _,g _⟩,λ z q=>(g z q).elim⟩
 have l4:Op.ah [.ptr H.au 1] H4=B1 (.int .i64 c):=vd (show H4.get H.au=B1 (OR (eH l c s wy) AH)by rw[f4.ai _ (by omega) id];exact L) 1;have nsl:(kH l c s wy fs).ns.length=c.toNat:=Sv ..
 by_cases hp:(0:Int)<((fs.length:Nat):Int)
 case' pos =>
  obtain⟨x,t⟩:∃x,fs[0]? = B1 x:=⟨_,qy (by omega)⟩
  have hx0:=ok0 x t;have C:bM dE 8 b fv fs:=Sl.em hF F3;have ix:=C.idx t (z:=0) rfl .i64;have ld:=C.aw wl (by decide) t;simp only[ae,bc,zU,aB,q0,pl,I,F,sl,xf hp,ix,ld,lZ,D5,l_,xf hx0,bw,<-e4,l4]
 case' neg=>simp only[ae,bc,zU,aB,q0,pl,I,F,sl,hp,bw,<-e4,l4]
 all_goals
  refine dm.intro (λ nn E m=>∃i:Nat,E=[(49,.int .i64 (i:Int)),(48,.int .i64 c),(12,.ptr b.au 0),(6,.ptr H1.au 0),(4,.ptr H.au 0),(1,pv)]/\nn=c.toNat-i/\i<=c.toNat /\ ∃cvs ks,fh T m b.au B cvs .nils bs own ks (λ _=>.zero) 0 ⟨kH l c s wy fs,kR l f so sf (d.map Bk) i,[],0⟩/\(∀z,aM cvs z->b.au<z)/\Fr (λ z=>b.au<=z) b m/\(0<i->okB f so sf)) ?_ ?_
  .exact ⟨_,_,⟨0,rfl,rfl,x9 _,.nils,[],r4,λ z q=>(g z q).elim,f4.mono λ _ _ q=>q.elim,λ q=>absurd q (FE 0)⟩,by simp only[ae,bc]⟩
  rintro nn E m ⟨i,rfl,rfl,hi,cvs,ks,r,cl,S,hbk⟩;have nX:=S.au;have rl:=r.row.2;have R:Fr Em H m:=⟨by omega,λ z zl _=>by rw[S.ai z (by omega) (by omega),K.ai z (by omega) id,W.ai z zl id]⟩
  have Y:m.get H.au=B1 (OR (eH l c s wy) AH):=by rw[S.ai _ (by omega) (by omega)];exact L
  have gx2:m.get H1.au=B1 (OR [.int .i64 f,.int .i64 so,.int .i64 sf] I8):=by rw[S.ai _ (by omega) (by omega)];exact g2'
  rcases xw i c.toNat with hlt|hge
  .have c0:(i:Int)<c:=by omega
   have sP:bM lP 1 m pv d:=Sl.em hP R;have spl:=sP.len
   -- the code
   by_cases hq:(i:Int)<((d.length:Nat):Int)
   case' pos =>
    obtain⟨p,hp⟩:∃p,d[i]? = B1 p:=⟨_,qy (by omega)⟩
    have⟨h1,h2,h3⟩:=hps p (zh hp);have ix:=sP.idx hp (z:=(i:Int)) rfl .i64;have ld:Op.ah [.ptr (aD pv) (cM 1 pv i)] m=B1 p.1:=sP.jA xca hp (by decide);have ec:jO (d.map Bk) i=(oh p.2).take 1024:=by unfold jO;rw[xj,hp];rfl
    simp only[ae,bc,zU,xf c0,spl,xf hq,ix,ld];refine C3.q (xd8 (Sl.em h1 R) (λ q=>qn (h2 q) R.au) (Sl.one h1) h3) λ a H5⟨oa,la,X⟩=>?_;have ha:bM fZ 5 H5 a (jO (d.map Bk) i):=by rw[ec];exact aL.sl oa
    have gy1:H5.get H.au=B1 (OR (eH l c s wy) AH):=by rw[X.ai _ (by omega) id];exact Y
    have gy2:H5.get H1.au=B1 (OR [.int .i64 f,.int .i64 so,.int .i64 sf] I8):=by rw[X.ai _ (by omega) id];exact gx2
    have O:Op.ah [.ptr H.au 0] H5=B1 (.int .i64 l):=vd gy1 0;have P:=fC gy2 (n:=3) rfl;simp only[ae,bc,zU,O,P]
   case' neg =>
    obtain⟨H5,e5⟩:∃Z,Z=m:=⟨_,rfl⟩
    have X:Fr Em m H5:=e5▸Fr.refl _;have ec:jO (d.map Bk) i=[]:=by unfold jO;rw[xj,z4 (by omega)];rfl
    have ha:bM fZ 5 H5 .nils (jO (d.map Bk) i):=by rw[ec];exact⟨rfl,rfl⟩
    have O:Op.ah [.ptr H.au 0] m=B1 (.int .i64 l):=vd Y 0;have P:=fC gx2 (n:=3) rfl;simp only[ae,bc,zU,xf c0,spl,hq,O,P];rw[<-e5]
   all_goals
    have cl5:(jO (d.map Bk) i).length<=1024:=by
     unfold jO;split
     .exact x9 _
     .rw [zx];omega
    refine C3.q (xb1 (id:=(i:Int)) (ln:=l) (f:=f) (s:=so) (o:=sf) ha) λ v H6⟨hq6,f6⟩=>?_;have D:=X.em f6;have n6:=D.au;have n5:=X.au;rcases hq6 with⟨hok6,p6,fl6,l6,sp6,cv6,rfl,hp6,ht6⟩|⟨hno6,rfl⟩
    .have ⟨o6,ho6,hc6⟩:=ht6 λ _=>0;have Q:=r.em D;have G:=Q.kl;have J:(kR l f so sf (d.map Bk) i).length=i:=G4 ..;have G:(wide ks m.au).length=i:=G.trans J;simp only[ae,bc,zU,aB,q0,Q.bq];refine aL.mO (bytes:=8) Q.cl (x:=.ptr p6 0) (a:=p6) rfl rfl rfl rfl (by decide) (by rw[xu,G];omega) (by rw[xu,G];omega) λ v' H7 o7 f7 hz=>?_;have one':aA v'=true:=Sl.one (Own.sl o7);have a7:At H7 b.au F7 (lY B cvs .nils 0):=Q.row.fr f7 Q.w1.1;obtain⟨H8,e8⟩:∃Z,Z=H7.set b.au (OR (lY B v' .nils 0) F7):=⟨_,rfl⟩
     have s8:Op.store 1 [.ptr b.au 1,v'] H7=B1 (.undef,H8):=by rw[a7.st 1 one' (by show 1<4;decide),e8];rfl
     have f8:Fr (On b.au) H7 H8:=e8▸cm ..;have F8:Fr (λ z=>z=b.au\/aM cvs z) H6 H8:=(f7.mono λ z _ q=>.inr q).trans f8 λ z q=>.inl (.inl q);have vw:∀z,aM v' z->b.au<z:=λ z q=>(hz z q).elim (cl z) λ q=>by omega
     have wi:ak .i64 ((i:Int)+1)=((i+1:Nat):Int):=by rw[ju (by omega) (by omega)];omega
     have r8:=Q.add (A:=⟨p6,fl6,l6,sp6,cv6,.nils,o6⟩) hc6 (by show(i:Int)=_;rw[J]) (by show(kR ..).length<(kH l c s wy fs).ns.length;rw[J,nsl];exact hlt) (λ z zl q=>by
      have:H5.au<=z:=Nat.le_of_not_lt λ e=>q ((ho6 z e).trans rfl);exact⟨r.new (by omega) zl,by omega⟩) (Own.fr o7 f8 λ z q(e:z=b.au)=>by have:=vw z q;omega) F8 hz (by rw[e8];exact a7.set _)
     simp only[ae,bc,zU,s8,wi];exact⟨_,_,⟨i+1,rfl,rfl,hlt,v',_,by rw[EU];exact r8,vw,(S.trans (D.mono (W':=λ z=>b.au<=z) λ _ _ q=>q.elim) λ z q=>.inl q).trans F8 λ z q=>.inl (q.elim (λ q=>by omega) λ q=>Nat.le_of_lt (cl z q)),λ _=>hok6.1⟩,by simp only[ae,bc],by omega⟩
    .simp only[ae,bc,zU,aB,t2];exact⟨R.em D,.inl ⟨λ q=>hno6 ⟨q.2.2.2,by omega,by omega,cl5,by omega,by omega⟩,rfl⟩⟩
  .have ie:i=c.toNat:=by omega
   have c0:¬(i:Int)<c:=by omega
   simp only[ae,bc,zU,c0];exact⟨R,.inr ⟨⟨N,by rw[xu];omega,ok0,hbk (by omega)⟩,T,b.au,B,cvs,bs,own,ks,_,rfl,by omega,by rw[ie]at r;exact r⟩⟩
end Go.Am
namespace Go.Am
open Lang Go.Proofs
variable{M:ao}[MK M]
section
variable{H H':ar}{o o':Nat->Nat}{p f l sp k:Nat}{cv rv ov pv:AV}{c:Co}{os:List eF}{x:Fi}
end
end Go.Am
namespace Go.Am
open Lang
def Ss(n:No)(x:En):(n.gone x).1.live=n.live:=by unfold No.gone;split<;>rfl
def Gn(n:No)(m:Mg)(st:Int):(n.lf m st).1.live=B4->n.live=true:=by
 unfold No.lf No.dR
 repeat' split
 all_goals first|(rw[Ss];exact id)|exact id|(rw[Ss];exact λ q=>nomatch q)|exact λ q=>nomatch q
def π{n:No}{x:Bt}(h:x.k≠3):(n.call x).1.live=B4->n.live=true:=by
 unfold No.call;have ask:∀k l,(n.ask k l).1.live=n.live:=λ k l=>by unfold No.ask;split<;>rfl
 split
 .unfold No.load;repeat' split
  all_goals first|exact id|(simp only[ask];exact id)
 split
 .unfold No.store;repeat' split
  all_goals first|exact id|(simp only[ask];exact id)
 split
 .unfold No.nD;repeat' split
  all_goals first|exact id|(simp only[ask];exact id)
 split
 .unfold No.bt;split
  .exact λ q=>nomatch q
  .exact id
 split
 .unfold No.abort;repeat' split
  all_goals first|exact id|exact λ q=>nomatch q
 split
 .unfold No.da;repeat' split
  all_goals first|exact id|(rw[Ss];exact id)|(rw[Ss];exact λ q=>nomatch q)
 .exact id
def xlx(n:No)(m:Mg):(n.bS m).1.live=B4->n.live=true:=by
 have lost:∀x b,(n.lost x b).live=B4->n.live=true:=λ x b=>by
  unfold No.lost;repeat' split
  all_goals first|exact id|exact λ q=>nomatch q
 unfold No.bS
 repeat' split
 all_goals first|exact id|exact lost _ _|(unfold No.fill;exact Gn _ _ _)
def Yz{b:Bu}{x:Bt}(h:x.k≠7){i:Nat}(q:i≠x.c.toNat):(b.step x).ns[i]? = b.ns[i]?:=by
 unfold Bu.step;rw[qv h]
 repeat' split
 all_goals first|rfl|exact xy (mM q)
def Yd{b:Bu}{x:Bt}(h:x.k≠7)(a:0<=x.c){n:No}(hn:b.ns[x.c.toNat]? = B1 n):(b.step x).ns[x.c.toNat]? = B1 (n.call x).1:=by
 unfold Bu.step;rw[qv h,xb a,hn];exact xx (qo.1 hn).1
def DC{b:Bu}{k i:Nat}{n:No}(h:(b.uf k).ns[i]? = B1 n)(l:n.live=B4):∃n0,b.ns[i]? = B1 n0/\n0.live=true:=by
 unfold Bu.uf at h;split at h
 .exact ⟨n,h,l⟩
 rename_i m hm;split at h
 .split at h<;>exact⟨n,h,l⟩
 split at h
 .rename_i nd hn;have h:(b.ns.set m.core.toNat (nd.bS m).1)[i]? = B1 n:=h
  by_cases q:i=m.core.toNat
  .subst q;rw[xx (qo.1 hn).1]at h;cases h;exact⟨nd,hn,xlx _ _ l⟩
  .rw [xy (mM q)]at h;exact⟨n,h,l⟩
 .exact ⟨n,h,l⟩
structure KS(s t:CS):Prop where
 id:t.c.id=s.c.id
 ns:∀i,i≠s.c.id.toNat->t.b.ns[i]? = s.b.ns[i]?
structure Lk(s t:CS):Prop where
 o:KS s t
 la:t.c.la=s.c.la
 lv:t.node.live=B4->s.node.live=B4
section
variable{s t u:CS}
def CS.tt(e:t.b=s.b)(i:t.c.id=s.c.id):t.node=s.node:=by unfold CS.node;rw[e,i]
def Lk.rf(b:t.b=s.b)(i:t.c.id=s.c.id)(la:t.c.la=s.c.la):Lk s t:=⟨⟨i,λ j _=>by rw[b]⟩,la,by rw[CS.tt b i];exact id⟩
def KS.trans(h:KS s t)(g:KS t u):KS s u:=⟨g.id.trans h.id,λ i q=>(g.ns i (by rw[h.id];exact q)).trans (h.ns i q)⟩
def Lk.trans(h:Lk s t)(g:Lk t u):Lk s u:=⟨h.o.trans g.o,g.la.trans h.la,λ q=>h.lv (g.lv q)⟩
end
def uQ(c:Co):Prop:=c.la.lane=1\/c.la.lane=2
instance(c:Co):Decidable (uQ c):=inferInstanceAs (Decidable (_\/_))
structure JL(t:CS):Prop where
 l:t.node.live=B4->uQ t.c
 p:t.c.ph=6\/t.c.ph=9\/t.c.ph=10 -> ¬uQ t.c
def JO(s t:CS):Prop:=KS s t/\JL t
section
variable{s t u:CS}
def JO.lk(j:JL s)(h:Lk s t)(q:(t.c.ph≠6/\t.c.ph≠9/\t.c.ph≠10)\/t.c.ph=s.c.ph \/ ¬uQ s.c):JO s t:=by
 refine⟨h.o,⟨λ l=>by unfold uQ;rw[h.la];exact j.l (h.lv l),λ p=>?_⟩⟩;unfold uQ;rw[h.la];rcases q with q|q|q
 .omega
 .exact j.p (by rw[<-q];exact p)
 .exact q
def JO.dead(h:KS s u)(d:u.node.live=B2)(b:t.b=u.b)(i:t.c.id=u.c.id)(q:t.c.ph≠6/\t.c.ph≠9/\t.c.ph≠10):JO s t :=
 ⟨h.trans ⟨i,λ j _=>by rw[b]⟩,⟨λ l=>(by rw[CS.tt b i,d]at l;cases l),λ p=>by omega⟩⟩
def JO.ite{p:Prop}[Decidable p](h:JO s t)(g:JO s u):JO s (if p then t else u):=by split;exact h;exact g
end
namespace CS
section
variable{s t u:CS}
def AQ{k:Int}(n v o:Int)(e:k≠3)(a:k≠7):Lk s (s.iy k n v o):=by
 refine⟨⟨rfl,λ i q=>Yz a q⟩,rfl,?_⟩;show(((s.b.step ⟨k,s.c.id,n,v,o⟩).ns[s.c.id.toNat]?).getD _).live=B4->((s.b.ns[s.c.id.toNat]?).getD _).live=B4
 by_cases d:0<=s.c.id
 .cases hn:s.b.ns[s.c.id.toNat]? with
  |some n=>rw[Yd (x:=⟨k,s.c.id,_,v,o⟩) a d hn];exact π e
  |none=>rw[show s.b.step ⟨k,s.c.id,n,v,o⟩=s.b by unfold Bu.step;rw[qv (show¬k=7 from a),xb d,hn],hn];exact id
 .rw [show s.b.step ⟨k,s.c.id,n,v,o⟩=s.b by unfold Bu.step;rw[qv (show¬k=7 from a),qv d]];exact id
def xgk(a:0<=s.c.id){k n:Int}(hk:k=4\/k=5/\n=7)(v o:Int):(s.iy k n v o).node.live=false:=by
 have d:k≠7:=by omega
 show(((s.b.step ⟨k,s.c.id,n,v,o⟩).ns[s.c.id.toNat]?).getD _).live=B2;cases hn:s.b.ns[s.c.id.toNat]? with
 |none=>rw[show s.b.step ⟨k,s.c.id,n,v,o⟩=s.b by unfold Bu.step;rw[qv (show¬k=7 from d),xb a,hn],hn];rfl
 |some nd =>
  rw[Yd (x:=⟨k,s.c.id,n,v,o⟩) d a hn];show(nd.call ⟨k,s.c.id,n,v,o⟩).1.live=B2;rcases hk with rfl|⟨rfl,rfl⟩
  .show nd.bt.live=B2;unfold No.bt;split
   .rfl
   .rename_i q;simpa using q
  .show (nd.abort 7).1.live=B2;unfold No.abort;repeat' split
   .rename_i q;exact absurd q (by decide)
   .rfl
   .rename_i q;simpa using q
def SY(j:JL s)(h:¬uQ s.c):s.node.live=false:=by
 cases q:s.node.live with
 |false=>rfl
 |true=>exact(h (j.l q)).elim
def sJ(s:CS):s.bH.b=s.b/\s.bH.c.id=s.c.id:=by
 have e:s.av.b=s.b/\s.av.c.id=s.c.id:=by unfold av;simp only;split<;>exact⟨rfl,rfl⟩
 exact⟨(show s.bH.b=s.av.b by unfold bH leave fG;rfl).trans e.1,(show s.bH.c.id=s.av.c.id by unfold bH leave fG;rfl).trans e.2⟩
def xi0(j:JL s)(a:0<=s.c.id):JO s s.cP:=by
 unfold cP;split
 .exact .lk j (.rf rfl rfl rfl) (.inr (.inl rfl))
 split
 .rename_i q;exact .lk j (.rf rfl rfl rfl) (.inr (.inr λ e=>by unfold uQ at e;omega))
 split
 .rename_i q;exact .lk j (.rf rfl rfl rfl) (.inr (.inr λ e=>by unfold uQ at e;omega))
 .exact .dead (AQ 7 0 0 (k:=5) (by decide) (by decide)).o (xgk a (.inr ⟨rfl,rfl⟩) 0 0) rfl rfl ⟨show(0:Int)≠6 by decide,show(0:Int)≠9 by decide,show(0:Int)≠10 by decide⟩
def af5(j:JL s)(f:oK)(a:Int):JO s (s.mh f a):=by
 unfold mh;simp only;have b:Lk s (s.ld a):=AQ a 0 0 (by decide) (by decide);split
 .rename_i q;exact .ite (.lk j (.rf rfl rfl rfl) (.inr (.inr λ e=>by unfold uQ at e;omega))) (.lk j (.rf rfl rfl rfl) (.inr (.inl rfl)))
 .split
  .exact .lk j (.rf rfl rfl rfl) (.inr (.inl rfl))
  .exact .ite (.lk j (b.trans (.rf rfl rfl rfl)) (.inr (.inl rfl))) (.lk j b (.inr (.inl rfl)))
def xl3(j:JL s)(f:oK)(a:Int):JO s (s.iJ f a):=by
 unfold iJ;simp only;have b:Lk s (s.st a f.value):=AQ a f.value 0 (by decide) (by decide);split
 .rename_i q;exact .ite (.lk j (.rf rfl rfl rfl) (.inr (.inr λ e=>by unfold uQ at e;omega))) (.lk j (.rf rfl rfl rfl) (.inr (.inl rfl)))
 .exact .ite (.lk j (.rf rfl rfl rfl) (.inr (.inl rfl))) (.ite (.ite (.lk j (b.trans (.rf rfl rfl rfl)) (.inr (.inl rfl))) (.lk j (b.trans (.rf rfl rfl rfl)) (.inr (.inl rfl)))) (.lk j b (.inr (.inl rfl))))
def Eb(a:0<=s.c.id):JO s (s.iy 4 0 0 0).bH :=
 .dead (AQ 0 0 0 (k:=4) (by decide) (by decide)).o (xgk a (.inl rfl) 0 0) (sJ _).1 (sJ _).2 (show(0:Int)≠6/\(0:Int)≠9/\(0:Int)≠10 by decide)
def GO(j:JL s)(a:0<=s.c.id):JO s s.ends:=by
 unfold ends;simp only;split
 .rename_i q;exact .lk j (.rf rfl rfl rfl) (.inr (.inr λ e=>by unfold uQ at e;omega))
 split
 .rename_i q;exact .lk j (.rf rfl rfl rfl) (.inr (.inr λ e=>by unfold uQ at e;omega))
 split
 .exact .lk j (.rf rfl rfl rfl) (.inl (show(7:Int)≠6/\(7:Int)≠9/\(7:Int)≠10 by decide))
 .exact Eb a
def Dh(j:JL s)(a:0<=s.c.id):JO s s.nV:=by
 unfold nV;simp only;have i:JO s s.cP:=xi0 j a;refine .ite (.ite (.lk j (.rf rfl rfl rfl) (.inr (.inl rfl))) i) ?_;split
 .exact i
 rename_i w;refine .ite (.lk j (.rf rfl rfl rfl) (.inr (.inl rfl))) (.ite (.lk j (.rf rfl rfl rfl) (.inr (.inl rfl))) (.ite (.lk j (.rf rfl rfl rfl) (.inr (.inl rfl))) (.ite (af5 j ..) (.ite (xl3 j ..) ?_))));split
 .rename_i b;have l0:s.c.la.lane=0:=zi λ q=>w (.inr (.inr (.inl ⟨q,b⟩)));exact .dead (u:=s) ⟨rfl,λ _ _=>rfl⟩ (SY j λ e=>by unfold uQ at e;omega) rfl rfl (show(1:Int)≠6/\(1:Int)≠9/\(1:Int)≠10 by decide)
 .exact GO j a
def xl0(j:JL s):JO s s.jL:=by
 unfold jL;simp only;have a:∀{t:CS}{m:Int},t.c.id=s.c.id->t.b=s.b->t.c.la=s.c.la->uQ s.c->m≠6/\m≠9/\m≠10->JO s ((t.iy 3 0 0 0).ph m):=λ{t m}e1 e2 g h hm =>
  ⟨⟨e1,λ i q=>(Yz (x:=⟨3,t.c.id,0,0,0⟩) (show(3:Int)≠7 by decide) (by show i≠t.c.id.toNat;rw[e1];exact q)).trans (by rw[e2])⟩,⟨λ _=>by show t.c.la.lane=1\/t.c.la.lane=2;rw[g];exact h,λ p=>by have p:m=6\/m=9\/m=10:=p;omega⟩⟩
 split
 .rename_i q;exact a rfl rfl rfl (.inl q) (by decide)
 split
 .rename_i q;exact a rfl rfl rfl (.inr q) (by decide)
 rename_i n r;have d:¬uQ s.c:=λ e=>e.elim n r;exact .ite (.lk j (.rf rfl rfl rfl) (.inr (.inr d))) (.lk j (.rf rfl rfl rfl) (.inr (.inr d)))
def DI(j:JL s):JO s s.oA:=by
 unfold oA;simp only;have b:Lk s (s.cs 0 s.c.seq (ak .u64 (s.c.seq+1))):=AQ _ _ _ (by decide) (by decide);exact .ite (.lk j b (.inr (.inl rfl))) (.ite (.lk j (b.trans (.rf rfl rfl rfl)) (.inl (show(0:Int)≠6/\(0:Int)≠9/\(0:Int)≠10 by decide))) (.lk j (b.trans (.rf rfl rfl rfl)) (.inl (show(4:Int)≠6/\(4:Int)≠9/\(4:Int)≠10 by decide))))
def RI(s t:CS):Prop:=t.b=s.b/\t.c.id=s.c.id/\(t.c.la=s.c.la/\t.c.ph=s.c.ph\/t.c.ph=0\/t.c.ph=1)
def xlv(s:CS):RI s s.eW:=by
 unfold eW
 repeat' split
 all_goals first|exact⟨rfl,rfl,.inr (.inr rfl)⟩|exact⟨rfl,rfl,.inr (.inl rfl)⟩|exact⟨(sJ s).1,(sJ s).2,.inr (.inl rfl)⟩
def ag6(s:CS)(v:Int)(q:Bool):RI s (s.given v q):=by
 unfold given;simp only;have d:RI s {s with c:={s.c with held:=s.c.held ||q && decide (s.c.so.want.a=0),so:=s.c.so.eX v q}}:=⟨rfl,rfl,.inl ⟨rfl,rfl⟩⟩
 have y:∀t:CS,t.av.b=t.b/\t.av.c.id=t.c.id/\t.av.c.la=t.c.la/\t.av.c.ph=t.c.ph:=λ t=>by unfold av;simp only;split<;>exact⟨rfl,rfl,rfl,rfl⟩
 generalize({s with c:={s.c with held:=s.c.held ||q && decide (s.c.so.want.a=0),so:=s.c.so.eX v q}}:CS)=t at *;have hu:RI s (if s.c.so.aF=B4/\(s.c.so.eX v q).aF=B2 then t.av else t):=by
  split
  .have ⟨e,h,i,j⟩:=y t;exact⟨e.trans d.1,h.trans d.2.1,by rw[i,j];exact d.2.2⟩
  .exact d
 generalize(if s.c.so.aF=B4/\(s.c.so.eX v q).aF=B2 then t.av else t)=u at *;have hw:RI s (if s.c.so.points<u.c.so.points then u.tell 4 0 0 0 else u):=by split<;>exact hu
 generalize(if s.c.so.points<u.c.so.points then u.tell 4 0 0 0 else u)=w at *;split
 .exact hw
 .have ⟨m,n,r⟩:=xlv w;refine⟨m.trans hw.1,n.trans hw.2.1,?_⟩;rcases r with⟨a,b⟩|g
  .rw [a,b];exact hw.2.2
  .exact .inr g
def Ek(j:JL s)(A:s.c.ph=6):JO s s.nP:=by
 have w:=j.p (.inl A);have d:=SY j w;unfold nP;simp only;have g:∀{k n v o x q},k≠3->k≠7->JO s ((s.iy k n v o).given x q):=λ{k n v o x q}a h=>by
  have b:Lk s (s.iy k n v o):=AQ n v o a h;have⟨m,r,z⟩:=ag6 (s.iy k n v o) x q;have y:(s.iy k n v o).node.live=false:=by
   cases e:(s.iy k n v o).node.live with
   |false=>rfl
   |true=>rw[b.lv e]at d;cases d
  refine⟨b.o.trans ⟨r,λ i _=>by rw[m]⟩,⟨λ l=>(by rw[tt m r,y]at l;cases l),λ p=>?_⟩⟩;rcases z with⟨e,-⟩|e|e
  .unfold uQ;rw[e];exact w
  .omega
  .omega
 have b:∀{k n v o},k≠3->k≠7->JO s (s.iy k n v o):=λ{k n v o}a h=>.lk j (AQ n v o a h) (.inr (.inl rfl));exact .ite (.ite (g (by decide) (by decide)) (b (by decide) (by decide))) (.ite (.ite (g (by decide) (by decide)) (b (by decide) (by decide))) (.ite (.ite (g (by decide) (by decide)) (b (by decide) (by decide))) (.lk j (.rf rfl rfl rfl) (.inr (.inl rfl)))))
def XM(j:JL s){k:CS->CS}(h:∀t:CS,Lk s t->t.c.ph=s.c.ph->JO s (k t)):JO s (s.gq k):=by
 unfold gq;have b:Lk s (s.st 0 (ak .u64 (s.c.seq+2))):=AQ _ _ _ (by decide) (by decide);exact .ite (h _ b rfl) (.lk j b (.inr (.inl rfl)))
def xla(d:s.node.live=B2)(b:Lk s t):t.node.live=false:=by
 cases e:t.node.live with
 |false=>rfl
 |true=>rw[b.lv e]at d;cases d
def DL(j:JL s)(e:s.c.ph=9):JO s s.aN:=by
 have d:=SY j (j.p (.inr (.inl e)));unfold aN;split
 .rename_i x _;have b:Lk s (s.st x.a x.v):=AQ _ _ _ (by decide) (by decide);exact .ite (.lk j (b.trans (.rf rfl rfl rfl)) (.inr (.inl rfl))) (.lk j b (.inr (.inl rfl)))
 .exact XM j λ t b _=>.dead b.o (xla d b) (sJ _).1 (sJ _).2 (show(0:Int)≠6/\(0:Int)≠9/\(0:Int)≠10 by decide)
def KH(j:JL s)(v:0<=s.c.id):JO s s.act:=by
 unfold act;have l:∀a,Lk s (s.ld a):=λ a=>AQ a 0 0 (by decide) (by decide);have g:∀{t:CS}{m:Int},Lk s t->m≠6/\m≠9/\m≠10->t.c.ph=m->JO s t:=λ{t m}h q e=>.lk j h (.inl (by rw[e];exact q));refine .ite (Dh j v) (.ite (xl0 j) (.ite ?_ (.ite ?_ (.ite ?_ (.ite (DI j) ?_)))))
 .exact .ite (.ite (g (((l 1).trans (u:=(s.ld 1).ph 3) (.rf rfl rfl rfl)).trans (AQ 6 0 0 (k:=5) (by decide) (by decide))) (m:=3) (by decide) rfl) (g ((l 1).trans (.rf rfl rfl rfl)) (m:=3) (by decide) rfl)) (.lk j (l 1) (.inr (.inl rfl)))
 .exact .ite (.ite (g (((l 0).trans (u:={(s.ld 0)with c:={(s.ld 0).c with seq:=(s.kF 0).1,ph:=0}}) (.rf rfl rfl rfl)).trans (AQ 6 0 0 (k:=5) (by decide) (by decide))) (m:=0) (by decide) rfl) (g ((l 0).trans (.rf rfl rfl rfl)) (m:=0) (by decide) rfl)) (.lk j (l 0) (.inr (.inl rfl)))
 .exact .ite (g ((l 0).trans (.rf rfl rfl rfl)) (m:=5) (by decide) rfl) (.lk j (l 0) (.inr (.inl rfl)))
 by_cases n:s.c.ph=6
 .rw [xb n];exact Ek j n
 rw[qv n];refine .ite (XM j λ t b _=>.lk j (b.trans (.rf rfl rfl rfl)) (.inl (show(8:Int)≠6/\(8:Int)≠9/\(8:Int)≠10 by decide))) (.ite (Eb v) ?_)
 by_cases r:s.c.ph=9
 .rw [xb r];exact DL j r
 rw[qv r];split
 .rename_i i;have d:=SY j (j.p (.inr (.inr i)));exact XM j λ t b _=>.dead b.o (xla d b) rfl rfl (show(0:Int)≠6/\(0:Int)≠9/\(0:Int)≠10 by decide)
 .exact .lk j (.rf rfl rfl rfl) (.inr (.inl rfl))
def HA(j:JL s)(a:0<=s.c.id):JO s s.step.1:=by
 unfold step;split
 .exact .lk j (.rf rfl rfl rfl) (.inr (.inl rfl))
 split
 .exact .lk j (.rf rfl rfl rfl) (.inr (.inl rfl))
 split
 .rename_i q;exact .dead (u:=s) ⟨rfl,λ _ _=>rfl⟩ q.2.2 rfl rfl (show(1:Int)≠6/\(1:Int)≠9/\(1:Int)≠10 by decide)
 .exact KH j a
end
end CS
end Go.Am
namespace Go.Am
open Lang
def Wo.WI(x:Wo):Prop:=x.cs.length<=x.b.ns.length /\ ∀(i:Nat)(c:Co),x.cs[i]? = B1 c->c.id=(i:Int)/\JL ⟨c,x.b,[]⟩
def JL.of{c a:Co}{b d:Bu}{o o':List eF}(h:JL ⟨c,b,o⟩)(e:a=c)(hl:(CS.node ⟨a,d,o'⟩).live=B4->(CS.node ⟨c,b,o⟩).live=B4):JL ⟨a,d,o'⟩:=by
 subst e;exact⟨λ q=>h.l (hl q),h.p⟩
namespace Wo
def WI.step{x:Wo}(h:x.WI){k:Nat}{c:Co}(m:x.cs[k]? = B1 c)(l:List eF):((x.zZ k c).told l).WI:=by
 have⟨n,g⟩:=h;have⟨r,w⟩:=g k c m;have⟨o,j⟩:=CS.HA w (by show 0<=c.id;omega);have hk:=(qo.1 m).1;have e1:(CS.step ⟨c,x.b,[]⟩).1.c.id=(k:Int):=o.id.trans r;refine⟨by show(x.cs.set k _).length<=(CS.step ⟨c,x.b,[]⟩).1.b.ns.length;rw[xq,(CS.EH ⟨c,x.b,[]⟩).nl];exact n,λ i d a=>?_⟩;have a:(x.cs.set k (CS.step ⟨c,x.b,[]⟩).1.c)[i]? = B1 d:=a
 by_cases q:i=k
 .subst q;rw[xx hk]at a;cases a;exact⟨e1,⟨j.l,j.p⟩⟩
 .rw [xy (mM q)]at a;have⟨v,y⟩:=g i d a;refine⟨v,y.of rfl ?_⟩;have e:(CS.step ⟨c,x.b,[]⟩).1.b.ns[d.id.toNat]? = x.b.ns[d.id.toNat]?:=o.ns _ (by show d.id.toNat≠c.id.toNat;omega);show(((CS.step ⟨c,x.b,[]⟩).1.b.ns[d.id.toNat]?).getD _).live=B4->_;rw[e];exact id
def WI.iy{x:Wo}(h:x.WI){t:Bt}(y:t.k=5\/t.k=6\/t.k=7):({x with b:=x.b.step t}:Wo).WI:=by
 have⟨j,m⟩:=h;refine⟨by show x.cs.length<=(x.b.step t).ns.length;rw[xhn];exact j,λ i c r=>?_⟩;have⟨v,w⟩:=m i c r;refine⟨v,w.of rfl ?_⟩;show(((x.b.step t).ns[c.id.toNat]?).getD _).live=B4->((x.b.ns[c.id.toNat]?).getD _).live=B4
 by_cases d:t.k=7
 .unfold Bu.step;rw[xb d];split
  .cases e:(x.b.uf t.n.toNat).ns[c.id.toNat]? with
   |none=>exact λ q=>nomatch q
   |some n =>
    intro q;have⟨n0,a,b⟩:=DC e q;rw[a];exact b
  .exact id
 .by_cases q:c.id.toNat=t.c.toNat
  .by_cases g:0<=t.c
   .rw [q];cases hn:x.b.ns[t.c.toNat]? with
    |some n=>rw[Yd d g hn];exact π (by omega)
    |none=>rw[show x.b.step t=x.b by unfold Bu.step;rw[qv d,xb g,hn],hn];exact id
   .rw [show x.b.step t=x.b by unfold Bu.step;rw[qv d,qv g]];exact id
  .rw [Yz d q];exact id
def WI.act{x:Wo}(h:x.WI)(a:Act):(x.act a).1.WI:=by
 have k:(x.kO a).1.WI:=by
  unfold kO rz rp fault
  repeat' split
  all_goals first
   |exact h
   |exact h.iy (.inr (.inr rfl))
   |exact h.iy (.inr (.inl rfl))
   |exact h.iy (.inl rfl)
   |(rename_i c b;unfold at' at b;split at b;exact h.step b _;cases b)
 exact k
def WI.run:∀(l:List Act){x:Wo},x.WI->(x.run l).1.WI
 |[],x,h=>h
 |a::l,x,h=>WI.run l (h.act a)
end Wo
end Go.Am
