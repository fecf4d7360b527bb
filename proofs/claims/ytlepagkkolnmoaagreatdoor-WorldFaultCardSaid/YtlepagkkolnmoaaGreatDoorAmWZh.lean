import Derived.Test.YtlepagkkolnmoaaGreatDoorAmWZf
import Derived.Test.YtlepagkkolnmoaaGreatDoorAmWZg
set_option linter.defProp false
set_option linter.unusedVariables false
set_option linter.unusedSimpArgs false
set_option linter.unusedSectionVars false
set_option maxRecDepth 100000
open Bool renaming false→B2,true→B4
open Go renaming IntKind→Pl
open List renaming replicate→JV
open Nat renaming beq→J3,ble→Ow,blt→QS
open Option renaming none→B5,some→B1
open Nat renaming reduceEqDiff→bc
namespace Go.Am
open Go.Proofs Ca
open Lang (ints)
variable{M:ak}[MK M]
def pR(ks:List Nat)(z:Int):Int:=match dF (λ i=>(ks[i]?.getD 0:Int) == z) ks.length with
 |some i=>i
 |none=>-1
section
variable{H H0:ar}{v:AV}{ks:List Nat}
def TG(h:bX gV 1 H v ks){i:Nat}(c:i<ks.length):Op.aP 1 [v,.int .i64 (i:Int)]=B1 (.ptr (aC v) (cX 1 v i))/\Op.ae [.ptr (aC v) (cX 1 v i)] H=B1 (.int .i64 (ks[i]?.getD 0:Nat)):=by
 have a:ks[i]? = B1 ks[i]:=by simp[c]
 refine⟨h.idx a rfl .i64,?_⟩;rw[h.iS ah2 a (by decide),a];rfl
def xil(h:bX gV 1 H v ks)(hl:ks.length<=1000000)(z:Int):zk M W6 [v,.int .i64 z] H λ r H'=>r=.int .i64 (pR ks z)/\H'=H:=by
 refine qwd ?_;obtain⟨w0,w2,j,l,d,g⟩:=qwe M ⟨B5,W6⟩;simp only[aa,bc,w0,w2,h.len];refine dD.intro (λ n E m=>∃i:Nat,E=[(8,.int .i64 (i:Int)),(7,.int .i64 ((ks.length:Nat):Int)),(0,v),(1,.int .i64 z)]/\n=ks.length-i/\i<=ks.length/\m=H /\ ∀k,k<i->((ks[k]?.getD 0:Int) == z)=B2) ?_ ?_
 .exact ⟨_,_,⟨0,rfl,rfl,x9 _,rfl,λ k hk=>by omega⟩,by simp only[aa,bc]⟩
 rintro n E m ⟨i,rfl,rfl,s,rfl,a⟩;rcases xx i ks.length with c|o
 .have f:(i:Int)<((ks.length:Nat):Int):=by omega
  have⟨ix,ld⟩:=TG h c;have p:aj .i64 ((i:Int)+1)=((i+1:Nat):Int):=by rw[kc (by omega) (by omega)];omega
  by_cases q:z=((ks[i]?.getD 0:Nat):Int)
  .simp only[aa,bc,l,f,d,ix,ld,xg q];unfold pR;rw[Nz c (by simp[<-q]) a]
  .simp only[aa,bc,l,f,d,ix,ld,q,g,p];refine⟨_,_,⟨i+1,rfl,rfl,by omega,λ k hk=>?_⟩,by simp only[aa,bc],by omega⟩
   by_cases e:k=i
   .rw [e];simpa using λ w=>q w.symm
   .exact a k (by omega)
 .have f:¬(i:Int)<((ks.length:Nat):Int):=by omega
  have e:i=ks.length:=by omega
  subst e;simp only[aa,bc,l,f,j];unfold pR;rw[NS a]
def Hj{z:Int}:0<=pR ks z↔z∈ints ks:=by
 unfold pR;cases c:dF (λ i=>(ks[i]?.getD 0:Int) == z) ks.length with
 |some i =>
  obtain⟨a,b,-⟩:=KI c;refine⟨λ _=>?_,λ _=>by show(0:Int)<=(i:Nat);omega⟩;have f:ks[i]? = B1 ks[i]:=by simp[a]
  rw[f]at b;have b:((ks[i]:Nat):Int)=z:=by simpa using b
  rw[<-b];exact FI.2 ⟨ks[i],zj f,rfl⟩
 |none =>
  refine⟨λ q=>by have q:(0:Int) <= -1:=q;omega,λ q=>?_⟩;exfalso;have⟨k,hk,e⟩:=FI.1 q;have⟨i,d⟩:=Md hk;have:=xb6 c i (qo.1 d).1;rw[d]at this;have e:((k:Nat):Int)=z:=e;simp[e]at this
def qvb(h:bX gV 1 H v ks)(hl:ks.length<=1000000)(z:Int):zk M _T [v,.int .i64 z] H λ r H'=>r=.bool (decide (z∈ints ks))/\H'=H:=by
 refine qro ?_;simp only[aa,bc,qrp];refine C3.q (xil h hl z) λ r H1⟨hr,a⟩=>?_;rw[hr,a];simp only[aa,bc];exact congrArg AV.bool (decide_eq_decide.2 Hj)
def C_{t:Nat}{line:Int}(x:Int)(hl:Op.ae [.ptr t 2] H=B1 (.int .i64 line)):zk M Yx [.int .i64 x,.ptr t 0] H λ r H'=>r=.bool (decide (x=line))/\H'=H:=by
 refine qv6 ?_
 by_cases q:x=line
 .simp only[aa,bc,qmk,hl,xg q]
 .simp only[aa,bc,qmk,hl,q]
abbrev G0(t:Nat):AV:=.fn (.func Yx) [] [.ptr t 0]
def xex{t:Nat}{line:Int}(hl:Op.ae [.ptr t 2] H=B1 (.int .i64 line))(h:bX gV 1 H v ks)(hk:ks.length<=1000000):zk M ZT [v,G0 t] H λ r H'=>r=.int .i64 (pR ks line)/\H'=H:=by
 refine qp4 ?_;obtain⟨w0,w2,j,m,f,g⟩:=qp5 M ⟨B5,ZT⟩;simp only[aa,bc,w0,w2,h.len];refine dD.intro (λ n E l=>∃i:Nat,E=[(8,.int .i64 (i:Int)),(7,.int .i64 ((ks.length:Nat):Int)),(0,v),(1,G0 t)]/\n=ks.length-i/\i<=ks.length/\l=H /\ ∀k,k<i->((ks[k]?.getD 0:Int) == line)=B2) ?_ ?_
 .exact ⟨_,_,⟨0,rfl,rfl,x9 _,rfl,λ k hk=>by omega⟩,by simp only[aa,bc]⟩
 rintro n E l ⟨i,rfl,rfl,u,rfl,a⟩;rcases xx i ks.length with c|o
 .have d:(i:Int)<((ks.length:Nat):Int):=by omega
  have⟨ix,ld⟩:=TG h c;have s:aj .i64 ((i:Int)+1)=((i+1:Nat):Int):=by rw[kc (by omega) (by omega)];omega
  simp only[aa,bc,m,d,f,ix,ld];refine C3.q (C_ _ hl) λ r H1⟨hr,p⟩=>?_;rw[hr,p]
  by_cases q:((ks[i]?.getD 0:Nat):Int)=line
  .simp only[aa,bc,q];unfold pR;rw[Nz c (by simp[q]) a]
  .simp only[aa,bc,q,g,s];refine⟨_,_,⟨i+1,rfl,rfl,by omega,λ k hk=>?_⟩,by simp only[aa,bc],by omega⟩
   by_cases e:k=i
   .rw [e];simpa using q
   .exact a k (by omega)
 .have d:¬(i:Int)<((ks.length:Nat):Int):=by omega
  have e:i=ks.length:=by omega
  subst e;simp only[aa,bc,m,d,j];unfold pR;rw[NS a]
def xlg(ks:List Nat)(rest:List AV){i:Nat}(a:i<ks.length)(y:Nat):(ks.flatMap gV++rest).take i ++ [AV.int .i64 (y:Int)]++(ks.flatMap gV++rest).drop (i+1)=(ks.set i y).flatMap gV++rest:=by
 have hl:=vG ks;rw[ki (by omega),y9 (by omega),<-zy];congr 1;rw[OI,OI,List.map_set,List.set_eq_take_append_cons_drop,xb (by rw[xu];exact a)];simp
def mD.As{e:Nat}(h:mD e H0 H v ks){i:Nat}(a:i<ks.length)(y:Nat):∃H',Op.store 1 [.ptr (aC v) (cX 1 v i),.int .i64 (y:Int)] H=B1 (.undef,H')/\mD e H0 H' v (ks.set i y)/\Fr (aN v) H H':=by
 rcases h.own with⟨rfl,rfl⟩|⟨b,m,rest,rfl,f,c,g,j⟩
 .simp at a
 .have st:=P_ j (o:=i) (n:=1) (v:=.int .i64 (y:Int)) rfl (by rw[xe,vG];omega) rfl;have d:AV.cells (.int .i64 (y:Int))=[.int .i64 (y:Int)]:=rfl;rw[d,xlg ks rest a]at st;have ho:cX 1 (AV.gslice b 0 m 1 0 ks.length) i=i:=by simp[cX]
  rw[ho];refine⟨_,st,⟨.inr ⟨b,m,rest,by rw[xq],f,c,by rw[xq];exact g,xj ..⟩,h.fr.set (.inr c) _⟩,(Fr.refl H).set (W:=aN (AV.gslice b 0 m 1 0 ks.length)) (.inl ⟨by simp,rfl⟩) _⟩
def TJ:∀n:Nat,fX n [AV.int .i64 0]=(JV n 0).flatMap gV
 |0=>rfl
 |n+1=>by rw[fX,Qr,j5,<-TJ n];rfl
def mD.rj{e:Nat}(h:mD e H0 H v ks){k:Nat}(hk:k<=ks.length):∃v2 H',Op.aB 1 [B1 0,B5,B5] [v,.int .i64 (k:Int)]=B1 v2/\Op.bZ [.int .i64 0] [v2] H=B1 (.tuple [],H')/\mD e H0 H' v (ks.take k++JV (ks.length-k) 0)/\Fr (aN v) H H':=by
 rcases h.own with⟨rfl,rfl⟩|⟨b,m,rest,rfl,x,t,C,y⟩
 .have:k=0:=by simpa using hk
  subst this;have i:bound B5 0 0=B1 0:=rfl;refine⟨.nils,H,by simp only[Op.aB,arg,kE,jb,qr,dv,i];rfl,rfl,h,Fr.refl _⟩
 .have e1:∀n,J3 n n=true:=λ n=>by simp
  have g:∀d m,bound B5 d m=B1 d:=λ _ _=>rfl;refine⟨.gslice b (0+k) m 1 (cond (J3 k 0) 0 (0*1)) (ks.length-k),?_⟩;have sl:Op.aB 1 [B1 0,B5,B5] [AV.gslice b 0 m 1 0 ks.length,.int .i64 (k:Int)]=B1 (.gslice b (0+k) m 1 (cond (J3 k 0) 0 (0*1)) (ks.length-k)):=by
   simp only[Op.aB,arg,kE,jb,qr,dv,g,qM (z:=(k:Int)) (k:=k) rfl hk .i64,e1,vf (show ks.length<=m-0 by omega),vf (x9 m),js,xw]
  have hle:(ks.take k).length=k:=by rw[jd];omega
  by_cases p:ks.length-k=0
  .refine ⟨H,sl,?_,?_,Fr.refl _⟩
   .rw [p];rfl
   .have e2:ks.take k++JV (ks.length-k) 0=ks:=by rw[p,List.replicate_zero,zt,zp (by omega)]
    rw[e2];exact h
  .have l:fy (.gslice b (0+k) m 1 (cond (J3 k 0) 0 (0*1)) (ks.length-k))=B1 (ks.length-k):=rfl;have f:J3 (ks.length-k) 0=false:=by cases s:J3 (ks.length-k) 0 with|false=>rfl|true=>rw[jv]at s;exact absurd s p
   have j:QS 0 (ks.length-k)=true:=by unfold QS;exact vf (by omega)
   have a:QS (0+k+0) m=true:=by unfold QS;exact vf (by omega)
   have he:elemAt 1 (.gslice b (0+k) m 1 (cond (J3 k 0) 0 (0*1)) (ks.length-k)) 0=B1 (b,(0+k)*1+0*1):=by
    simp only[elemAt,j,e1,a,js,xw]
   have o:H.store b ((0+k)*1+0*1) (fX (ks.length-k) [.int .i64 0])=B1 (H.set b (.grown m 1 ((ks.take k++JV (ks.length-k) 0).flatMap gV++rest) e (0,0))):=by
    have ha:aQ (fX (ks.length-k) [AV.int .i64 0])=true:=by
     rw[TJ,vz,OI];simp[az]
    have w:eD (0,0) ((0+k)*1+0*1) (cS (fX (ks.length-k) [AV.int .i64 0]))=true:=by simp[eD]
    simp only[ar.store,ha,xw,y,w,FV];have c:(fX (ks.length-k) [AV.int .i64 0]).length=ks.length-k:=by rw[TJ,vG,je]
    have u:(0+k)*1+0*1=k:=by omega
    have A:(ks.flatMap gV++rest).take k=(ks.take k).flatMap gV:=by
     rw[ki (by rw[vG];exact hk),OI,OI,List.map_take]
    have B:(ks.flatMap gV++rest).drop (k+(ks.length-k))=rest:=by
     rw[show k+(ks.length-k)=(ks.flatMap gV).length by rw[vG];omega,List.drop_left]
    rw[u,xb (by rw[c,xe,vG];omega),qr,c,A,B,TJ,<-ym]
   refine⟨H.set b (.grown m 1 ((ks.take k++JV (ks.length-k) 0).flatMap gV++rest) e (0,0)),sl,?_,⟨.inr ⟨b,m,rest,?_,x,t,?_,xj ..⟩,h.fr.set (.inr t) _⟩,(Fr.refl H).set (W:=aN (AV.gslice b 0 m 1 0 ks.length)) (.inl ⟨by simp,rfl⟩) _⟩
   .have q:[AV.int .i64 0].length=1:=rfl;simp only[Op.bZ,l,qr,f,zm,q,he,o]
   .rw [xe,hle,je];congr 1;omega
   .rw [xe,hle,je];omega
def zM(ks:List Nat)(line:Int):List Nat:=ks.filter λ k=>((k:Nat):Int) != line
def xel{t:Nat}{line:Int}{e:Nat}(hl:∀{m:ar},Fr (aN v) H m->Op.ae [.ptr t 2] m=B1 (.int .i64 line))(h:mD e H0 H v ks)(hk:ks.length<=1000000) :
 zk M hH [v,G0 t] H λ r H'=>mD e H0 H' r (zM ks line)/\Fr (aN v) H H' /\ ∀x,aN r x->aN v x:=by
 refine qos ?_;obtain⟨w0,w4,O,Q,B,P,C⟩:=qot M ⟨B5,hH⟩;simp only[aa,bc,w0];refine C3.q (xex (hl (Fr.refl _)) h.sl hk) λ r H1⟨hr,I⟩=>?_;rw[hr,I];cases F:dF (λ i=>(ks[i]?.getD 0:Int) == line) ks.length with
 |none =>
  have e1:pR ks line = -1:=by unfold pR;rw[F]
  have e2:zM ks line=ks:=by
   unfold zM;rw[List.filter_eq_self];intro k p;have⟨i,o⟩:=Md p;have:=xb6 F i (qo.1 o).1;rw[o]at this
   simpa using this
  rw[e1,e2];have R:=xg (show(-1:Int) = -1 from rfl);simp only[aa,bc,w4];exact⟨h,Fr.refl _,λ x q=>q⟩
 |some a =>
  have⟨T,D,U⟩:=KI F;have e1:pR ks line=(a:Int):=by unfold pR;rw[F]
  rw[e1];have R:¬(a:Int) = -1:=by omega
  have G:aj .i64 ((a:Int)+1)=((a+1:Nat):Int):=by rw[kc (by omega) (by omega)];omega
  -- what is kept of the first ones
  have ah:∀j,(ks.take (j+1)).filter (λ k=>((k:Nat):Int) != line)=(ks.take j).filter (λ k=>((k:Nat):Int) != line)++(match ks[j]? with|none=>[]|some k=>if((k:Nat):Int)=line then[]else[k]):=λ j=>by
   rw[FQ,List.filter_append];congr 1;cases ks[j]? with
   |none=>rfl
   |some k=>by_cases q:((k:Nat):Int)=line<;>simp[q]
  have h0:(ks.take a).filter (λ k=>((k:Nat):Int) != line)=ks.take a:=by
   rw[List.filter_eq_self];intro k p;have⟨i,o⟩:=Md p;rw[yw]at o;split at o
   .rename_i w;have:=U i w;rw[o]at this
    simpa using this
   .cases o
  have A:ks[a]? = B1 ks[a]:=by simp[T]
  have h1:(ks.take (a+1)).filter (λ k=>((k:Nat):Int) != line)=ks.take a:=by
   rw[ah,h0,A];rw[A]at D;have D:((ks[a]:Nat):Int)=line:=by simpa using D
   simp[D]
  simp only[aa,bc,w4,R,O,G];refine dD.intro (λ n E m=>∃(i j:Nat)(c:List Nat),E=[(6,.int .i64 (j:Int)),(5,.int .i64 (i:Int)),(0,v),(1,G0 t)]/\n=ks.length-j/\i<j/\j<=ks.length/\c.length=ks.length/\c.take i=(ks.take j).filter (λ k=>((k:Nat):Int) != line)/\c.drop j=ks.drop j/\mD e H0 m v c/\Fr (aN v) H m) ?_ ?_
  .exact ⟨_,_,⟨a,a+1,ks,rfl,rfl,by omega,by omega,rfl,h1.symm,rfl,h,Fr.refl _⟩,by simp only[aa,bc]⟩
  rintro n E m ⟨i,j,c,rfl,rfl,hij,hj,z,g,y,hs,f⟩;have u:=hs.sl.len;rw[z]at u;rcases xx j ks.length with w|hge
  .have N:(j:Int)<((ks.length:Nat):Int):=by omega
   have⟨ix,ld⟩:=TG hs.sl (i:=j) (by omega);obtain⟨L,-⟩:=TG hs.sl (i:=i) (by omega);have K:c[j]? = ks[j]?:=by
    have:=congrArg (λ l=>l[0]?) y
    simpa[vc]using this
   obtain⟨k,s⟩:∃k,ks[j]? = B1 k:=⟨ks[j],by simp[w]⟩
   rw[K,s]at ld;have ld:Op.ae [.ptr (aC v) (cX 1 v j)] m=B1 (.int .i64 (k:Int)):=ld;have G:aj .i64 ((j:Int)+1)=((j+1:Nat):Int):=by rw[kc (by omega) (by omega)];omega
   have wi:aj .i64 ((i:Int)+1)=((i+1:Nat):Int):=by rw[kc (by omega) (by omega)];omega
   have d:∀l:List Nat,l.drop (j+1)=(l.drop j).drop 1:=λ l=>by rw[Ax]
   simp only[aa,bc,B,u,N,P,ix,ld];refine C3.q (C_ _ (hl f)) λ r H2⟨hr,I⟩=>?_;rw[hr,I]
   by_cases q:(k:Int)=line
   .simp only[aa,bc,xg q,C,G];exact⟨_,_,⟨i,j+1,c,rfl,rfl,by omega,by omega,z,by rw[ah,s,g];simp[q],by rw[d,y,<-d],hs,f⟩,by simp only[aa,bc],by omega⟩
   .have ⟨S,s3,J,f3⟩:=hs.As (i:=i) (by omega) k;simp only[aa,bc,q,L,s3,wi,C,G];refine⟨_,_,⟨i+1,j+1,c.set i k,rfl,rfl,by omega,by omega,by rw[xq];exact z,?_,?_,J,f.trans f3 λ _ q=>.inl q⟩,by simp only[aa,bc],by omega⟩
    .rw [ah,s,<-g,FQ,xy (by omega),List.take_set_of_le (qm i)];simp[q]
    .rw [List.drop_set_of_lt (by omega),d,y,<-d]
  .have N:¬(j:Int)<((ks.length:Nat):Int):=by omega
   have ej:j=ks.length:=by omega
   subst ej;rw[zp (qm _)]at g;have⟨v2,S,V,W,X,Y⟩:=hs.rj (k:=i) (by omega);have⟨v3,d1,d2,d3⟩:=X.cut (k:=i) (by rw[xe,jd,je];omega) rfl .i64;have Z:(c.take i++JV (c.length-i) 0).take i=zM ks line:=by
    rw[ki (by rw[jd];omega),List.take_take,Nat.min_self,g];rfl
   rw[Z]at d2;simp only[aa,bc,B,u,N,Q,V,W,d1];exact⟨d2,f.trans Y λ _ q=>.inl q,d3⟩
end
end Go.Am
namespace Go.Am
open Go.Proofs Ca
open Lang (ints)
variable{M:ak}[MK M]
def ao(m:Mg):List AV:=.int .i64 m.k::.int .i64 m.core::.int .i64 m.line::dy m.d
def zn(m:Mg):(ao m).length=11:=by simp[ao,dy,m.d.h]
def rR(m:Mg):aQ (ao m)=true:=by rw[vz];simp[ao,dy,az]
def rP(n:No)(b:Nat)(bv:AV):List AV:=.int .i64 n.core::.int .i64 n.lines::.ptr b 0::(ao n.out ++ [bv,.bool n.live,.int .i64 n.code])
structure dc(H0 H:ar)(r b:Nat)(sv bv:AV)(n:No)(ks:List Nat):Prop where
 row:H.get r=B1 (OR (rP n b bv) Qe)
 lt:r<H.au
 ca:dY H b sv n.c
 bk:mD bU H0 H bv ks
 eq:n.aK=ints ks
 lr:H0.au<=r
 lb:H0.au<=b
 ls:H0.au<=aC sv
 n1:r≠b
 n2:r≠aC sv
 o1:¬aN bv r
 o2:¬aN bv b
 o3:¬aN bv (aC sv)
 li:2<=n.lines/\n.lines<=64
 len:n.c.sl.length<=40
def iK(r b:Nat)(sv bv:AV):Nat->Prop:=λ x=>x=r\/nA b sv x\/aN bv x
def rX(H0 H:ar)(r b:Nat)(sv bv:AV)(n':No)(H':ar):Prop:=∃bv' ks',dc H0 H' r b sv bv' n' ks'/\Fr (iK r b sv bv) H H' /\ ∀x,aN bv' x->aN bv x\/H.au<=x
section
variable{H0 H:ar}{r b:Nat}{sv bv:AV}{n:No}{ks:List Nat}
def dc.em{H':ar}(h:dc H0 H r b sv bv n ks)(f:Fr Em H H'):dc H0 H' r b sv bv n ks :=
 ⟨by rw[f.ah _ h.lt id];exact h.row,qn h.lt f.au,h.ca.em f,h.bk.em f,h.eq,h.lr,h.lb,h.ls,h.n1,h.n2,h.o1,h.o2,h.o3,h.li,h.len⟩
def dc.same(h:dc H0 H r b sv bv n ks){H':ar}(f:Fr Em H H'):rX H0 H r b sv bv n H':=⟨bv,ks,h.em f,f.mono λ _ _ q=>q.elim,λ x q=>.inl q⟩
def FW(n:No)(b:Nat)(bv:AV):(rP n b bv)[0]? = B1 (.int .i64 n.core)/\(rP n b bv)[1]? = B1 (.int .i64 n.lines)/\(rP n b bv)[2]? = B1 (.ptr b 0)/\(rP n b bv)[3]? = B1 (.int .i64 n.out.k)/\(rP n b bv)[14]? = B1 bv/\(rP n b bv)[15]? = B1 (.bool n.live)/\(rP n b bv)[16]? = B1 (.int .i64 n.code)/\((rP n b bv).drop 3).take 11=ao n.out/\(rP n b bv).length=17:=by
 have⟨core,lines,c,⟨k,co,l,⟨d,a⟩⟩,aK,live,code⟩:=n
 match d,a with
 |[d0,d1,d2,d3,d4,d5,d6,d7],_=>exact⟨rfl,rfl,rfl,rfl,rfl,rfl,rfl,rfl,rfl⟩
def dc.ld(h:dc H0 H r b sv bv n ks)(k:Nat):Op.ae [.ptr r k] H=(rP n b bv)[k]?:=zh (xf h.row) k
def dc.l0(h:dc H0 H r b sv bv n ks):Op.ae [.ptr r 0] H=B1 (.int .i64 n.core):=(h.ld 0).trans (FW n b bv).1
def dc.l1(h:dc H0 H r b sv bv n ks):Op.ae [.ptr r 1] H=B1 (.int .i64 n.lines):=(h.ld 1).trans (FW n b bv).2.1
def dc.l2(h:dc H0 H r b sv bv n ks):Op.ae [.ptr r 2] H=B1 (.ptr b 0):=(h.ld 2).trans (FW n b bv).2.2.1
def dc.l3(h:dc H0 H r b sv bv n ks):Op.ae [.ptr r 3] H=B1 (.int .i64 n.out.k):=(h.ld 3).trans (FW n b bv).2.2.2.1
def dc.vM(h:dc H0 H r b sv bv n ks):Op.ae [.ptr r 14] H=B1 bv:=(h.ld 14).trans (FW n b bv).2.2.2.2.1
def dc.iL(h:dc H0 H r b sv bv n ks):Op.ae [.ptr r 15] H=B1 (.bool n.live):=(h.ld 15).trans (FW n b bv).2.2.2.2.2.1
def dc.lo(h:dc H0 H r b sv bv n ks):Op.av 11 [.ptr r 3] H=B1 (.agg (ao n.out)):=by
 obtain⟨-,-,-,-,-,-,-,e,l⟩:=FW n b bv;rw[tT (xf h.row) (by rw[l];decide),e]
def dc.put(h:dc H0 H r b sv bv n ks){n':No}{o m:Nat}{u:AV}(hu:u.cells.length=m)(ho:aQ u.cells=B4)(hm:o+m<=17)(e:(rP n b bv).take o++u.cells++(rP n b bv).drop (o+m)=rP n' b bv)(a:n'.c=n.c)(hb:n'.aK=n.aK)(hl:n'.lines=n.lines) :
 ∃H',Op.store m [.ptr r o,u] H=B1 (.undef,H')/\dc H0 H' r b sv bv n' ks/\Fr (On r) H H':=by
 have st:=wW h.row (o:=o) (n:=m) (v:=u) hu (by rw[(FW n b bv).2.2.2.2.2.2.2.2];exact hm) ho;rw[e]at st;have f:Fr (On r) H (H.set r (OR (rP n' b bv) Qe)):=(Fr.refl H).set (W:=On r) (.inl rfl) _;refine⟨_,st,⟨xj ..,h.lt,by rw[a];exact h.ca.fr f (λ(q:b=r)=>h.n1 q.symm) (λ(q:aC sv=r)=>h.n2 q.symm),h.bk.vF f (h.bk.fr.set (.inr h.lr) _) (λ x hx(q:x=r)=>h.o1 (q▸hx)),by rw[hb];exact h.eq,h.lr,h.lb,h.ls,h.n1,h.n2,h.o1,h.o2,h.o3,by rw[hl];exact h.li,by rw[a];exact h.len⟩,f⟩
def dc.tg(h:dc H0 H r b sv bv n ks)(q:Bool):∃H',Op.store 1 [.ptr r 15,.bool q] H=B1 (.undef,H')/\dc H0 H' r b sv bv {n with live:=q} ks/\Fr (On r) H H' :=
 h.put (n':={n with live:=q}) (o:=15) (m:=1) (u:=.bool q) rfl rfl (by decide) (by
  have⟨core,lines,c,⟨k,co,l,⟨d,a⟩⟩,aK,live,code⟩:=n
  match d,a with
  |[d0,d1,d2,d3,d4,d5,d6,d7],_=>rfl) rfl rfl rfl
def dc.zG(h:dc H0 H r b sv bv n ks)(k:Int):∃H',Op.store 1 [.ptr r 16,.int .i64 k] H=B1 (.undef,H')/\dc H0 H' r b sv bv {n with code:=k} ks/\Fr (On r) H H' :=
 h.put (n':={n with code:=k}) (o:=16) (m:=1) (u:=.int .i64 k) rfl rfl (by decide) (by
  have⟨core,lines,c,⟨k,co,l,⟨d,a⟩⟩,aK,live,code⟩:=n
  match d,a with
  |[d0,d1,d2,d3,d4,d5,d6,d7],_=>rfl) rfl rfl rfl
def dc.BW(h:dc H0 H r b sv bv n ks)(m:Mg):∃H',Op.store 11 [.ptr r 3,.agg (ao m)] H=B1 (.undef,H')/\dc H0 H' r b sv bv {n with out:=m} ks/\Fr (On r) H H' :=
 h.put (n':={n with out:=m}) (o:=3) (m:=11) (u:=.agg (ao m)) (by rw[z7];exact zn m) (by rw[z7];exact rR m) (by decide) (by
  have⟨core,lines,c,⟨k,co,l,⟨d,f⟩⟩,aK,live,code⟩:=n;have⟨k',co',g,⟨e,a⟩⟩:=m
  match d,f,e,a with
  |[d0,d1,d2,d3,d4,d5,d6,d7],_,[e0,e1,e2,e3,e4,e5,e6,e7],_=>rfl) rfl rfl rfl
def dc.iI(h:dc H0 H r b sv bv n ks){c:Ca}{H':ar}(d:dY H' b sv c)(f:Fr (nA b sv) H H')(hl:c.sl.length<=40):dc H0 H' r b sv bv {n with c:=c} ks :=
 ⟨by rw[f.ah _ h.lt (λ q=>q.elim h.n1 h.n2)];exact h.row,qn h.lt f.au,d,h.bk.vF f (h.bk.fr.trans f λ x q=>q.elim (λ q=>.inr (by rw[q];exact h.lb)) λ q=>.inr (by rw[q];exact h.ls)) (λ x a q=>q.elim (λ q=>h.o2 (q▸a)) λ q=>h.o3 (q▸a)),h.eq,h.lr,h.lb,h.ls,h.n1,h.n2,h.o1,h.o2,h.o3,h.li,hl⟩
def rX.of{n':No}{H':ar}{a:List Nat}(h:dc H0 H' r b sv bv n' a)(f:Fr (iK r b sv bv) H H'):rX H0 H r b sv bv n' H':=⟨bv,a,h,f,λ x q=>.inl q⟩
def KW{H1 a:ar}(f:Fr (On r) H1 a):Fr (iK r b sv bv) H1 a:=f.mono λ _ _ q=>.inl q
def wR{H1 a:ar}(f:Fr (nA b sv) H1 a):Fr (iK r b sv bv) H1 a:=f.mono λ _ _ q=>.inr (.inl q)
def nq{H1 a:ar}(f:Fr Em H1 a):Fr (iK r b sv bv) H1 a:=f.mono λ _ _ q=>q.elim
def jZ{H1 a c:ar}(f:Fr (iK r b sv bv) H1 a)(g:Fr (iK r b sv bv) a c):Fr (iK r b sv bv) H1 c:=f.trans g λ _ q=>.inl q
def Wq(h:dc H0 H r b sv bv n ks)(a:Int):zk M XZ [.ptr r 0,.int .i64 a] H λ v H'=>v=.int .i64 (if n.may a then 0 else 2)/\H'=H:=by
 refine q5o ?_;obtain⟨w0,w2,d⟩:=q5p M ⟨B5,XZ⟩;have hl:=h.li;have f:aj .i64 (n.lines*8)=n.lines*8:=kc (by omega) (by omega)
 by_cases c:a<0
 .have hm:¬n.may a:=λ q=>by have:=q.1;omega
  simp only[aa,bc,w0,w2,vg,c];rw[qt hm]
 by_cases e:n.lines*8<=a
 .have hm:¬n.may a:=λ q=>by have:=q.2;omega
  simp only[aa,bc,w0,w2,vg,c,qv,h.l1,f,e];rw[qt hm]
 .have hm:n.may a:=⟨by omega,by omega⟩
  simp only[aa,bc,w0,w2,vg,c,qv,h.l1,f,e,d];rw[xb hm]
def mZ:[AV.int .i64 0,.int .i64 0,.int .i64 0,.int .u64 0,.int .u64 0,.int .u64 0,.int .u64 0,.int .u64 0,.int .u64 0,.int .u64 0,.int .u64 0]=ao ⟨0,0,0,.zero⟩:=rfl
def T0(k co l:Int):Op.build (ao ⟨0,0,0,.zero⟩) [(0,1),(1,1),(2,1)] [.int .i64 k,.int .i64 co,.int .i64 l]=B1 (.agg (ao ⟨k,co,l,.zero⟩)):=rfl
def Gc(h:dc H0 H r b sv bv n ks)(k line:Int):zk M sB [.ptr r 0,.int .i64 k,.int .i64 line] H λ v H'=>v=.agg (ao (n.msg k line))/\Fr Em H H':=by
 refine q5q ?_;obtain⟨H1,e1,a,-,d⟩:=cE H (OR (ao ⟨0,0,0,.zero⟩) xr);have s1:=iv d (zn _) (zn (n.msg k line)) (rR _);have ld:=fq (xj H1 H.au (OR (ao (n.msg k line)) xr)) (zn _);have c:Op.build (ao ⟨0,0,0,.zero⟩) [(0,1),(1,1),(2,1)] [.int .i64 k,.int .i64 n.core,.int .i64 line]=B1 (.agg (ao (n.msg k line))):=T0 ..;simp only[aa,bc,q5r,mZ,<-e1,qv,(h.em a).l0,c,s1,ld];exact a.set (.inr (qm _)) _
def xl4(h:dc H0 H r b sv bv n ks):zk M qpc [.ptr r 0] H λ v H'=>v=.bool n.live/\H'=H:=by
 refine q0p ?_;simp only[aa,bc,q0q,lQ,qv,h.iL]
def JH(h:dc H0 H r b sv bv n ks)(k:Int):zk M _F [.ptr r 0,.int .i64 k] H λ _ H'=>dc H0 H' r b sv bv (n.iW k) ks/\Fr (iK r b sv bv) H H':=by
 refine qx6 ?_;simp only[aa,bc,qx7,qv,h.l2];refine C3.q (xbw h.ca h.len) λ _ H1⟨g,d⟩=>?_;have a:=h.iI g d (by show(n.c.sl.map back).length<=40;rw[xu];exact h.len);have⟨m,s2,i,e⟩:=a.tg B2;have⟨o,l,j,f⟩:=i.zG k;simp only[aa,bc,qv,s2,l];exact⟨j,jZ (jZ (wR d) (KW e)) (KW f)⟩
def xhm(h:dc H0 H r b sv bv n ks)(k:Int):zk M WZ [.ptr r 0,.int .i64 k] H λ v H'=>v=.int .i64 (n.abort k).2/\dc H0 H' r b sv bv (n.abort k).1 ks/\Fr (iK r b sv bv) H H':=by
 refine qxz ?_;obtain⟨w0,w2,g,c⟩:=qx0 M ⟨B5,WZ⟩;have iL:=h.iL;cases hl:n.live with
 |false =>
  have a:n.abort k=(n,40):=by unfold No.abort;rw[hl];rfl
  rw[hl]at iL;rw[a];simp only[aa,bc,w0,w2,vg,qv,iL];exact⟨h,Fr.refl _⟩
 |true =>
  rw[hl]at iL
  by_cases d:k<1
  .have a:n.abort k=(n,2):=by unfold No.abort;rw[hl,xb rfl,xb (.inl d)]
   rw[a];simp only[aa,bc,w0,w2,vg,qv,iL,c,d];exact⟨h,Fr.refl _⟩
  by_cases f:7<k
  .have a:n.abort k=(n,2):=by unfold No.abort;rw[hl,xb rfl,xb (.inr f)]
   rw[a];simp only[aa,bc,w0,w2,vg,qv,iL,c,d,f];exact⟨h,Fr.refl _⟩
  have a:n.abort k=(n.iW k,0):=by unfold No.abort;rw[hl,xb rfl,qt (by omega)]
  rw[a];simp only[aa,bc,w0,w2,vg,qv,iL,c,d,f,g];refine C3.q (JH h k) λ _ H1⟨e,i⟩=>?_;simp only[aa,bc];exact⟨e,i⟩
end
end Go.Am
namespace Go.Am
open Go.Proofs Ca
open Lang (ints)
variable{M:ak}[MK M]
def mL(H H':ar)(v:AV)(ms:List Mg):Prop:=bX ao 11 H' v ms/\(ms≠[]->H.au<=aC v)
def mL.nil(H H':ar):mL H H' .nils []:=⟨⟨rfl,rfl⟩,λ q=>absurd rfl q⟩
def AR(m:Mg):Op.buildSlice xr 1 (ao ⟨0,0,0,.zero⟩) [(0,11)] [.agg (ao m)]=B1 (OR (ao m) xr,Op.sliceTo 1 1):=iu xr 11 (ao ⟨0,0,0,.zero⟩) (.agg (ao m)) (zn _) (by rw[z7];exact zn m)
def Ku{H:ar}(m:Mg):gU ao xr 11 (H.alloc (OR (ao m) xr)) (Op.sliceTo 1 1 H.au) [m]:=⟨H.au,rfl,by rw[zg];omega,by rw[xt];simp⟩
def MG{H H0:ar}(m:Mg)(h:H0.au<=H.au):mL H0 (H.alloc (OR (ao m) xr)) (Op.sliceTo 1 1 H.au) [m]:=⟨(Ku m).sl zn,λ _=>h⟩
section
variable{H0 H:ar}{r b:Nat}{sv bv:AV}{n:No}{ks:List Nat}
def dc.kl(h:dc H0 H r b sv bv n ks):n.aK.length=ks.length:=by rw[h.eq];unfold ints;rw[xu]
def Yg(h:dc H0 H r b sv bv n ks)(hk:n.aK.length<=900000)(k line:Int):zk M Vj [.ptr r 0,.int .i64 k,.int .i64 line] H λ v H'=>mL H H' v (n.ask k line).2/\dc H0 H' r b sv bv (n.ask k line).1 ks/\Fr (iK r b sv bv) H H':=by
 refine q5m ?_;obtain⟨w0,w2,i⟩:=q5n M ⟨B5,Vj⟩;have p:=h.kl
 by_cases d:n.out.k=0
 .simp only[aa,bc,w0,w2,qv,h.l3,xg d,h.vM];refine C3.q (qvb h.bk.sl (by omega) line) λ v H1⟨g,o⟩=>?_;rw[g,o,<-h.eq]
  by_cases e:line∈n.aK
  .have a:n.ask k line=(n,[]):=by unfold No.ask;rw[xb (.inr e)]
   rw[a];simp only[aa,bc,xg e];exact⟨mL.nil ..,h,Fr.refl _⟩
  .have a:n.ask k line=({n with out:=n.msg k line},[n.msg k line]):=by unfold No.ask;rw[qt (λ q=>q.elim (λ q=>q d) e)]
   rw[a];simp only[aa,bc,e,i];refine C3.q (Gc h k line) λ v t⟨g,j⟩=>?_;rw[g];have⟨f,s,l,m⟩:=(h.em j).BW (n.msg k line);have lo:=l.lo;have c:Fr (iK r b sv bv) H f:=jZ (nq j) (KW m);simp only[aa,bc,qv,s,lo,mZ,AR];exact⟨MG _ c.au,l.em ((Fr.refl f).alloc _),jZ c (nq ((Fr.refl f).alloc _))⟩
 .have a:n.ask k line=(n,[]):=by unfold No.ask;rw[xb (.inl d)]
  rw[a];simp only[aa,bc,w0,w2,qv,h.l3,d];exact⟨mL.nil ..,h,Fr.refl _⟩
def jS{H1:ar}(e:En):Op.store 21 [.ptr H1.au 0,.agg (aD e)] (H1.alloc (OR (aD .zero) xv))=B1 (.undef,(H1.alloc (OR (aD .zero) xv)).set H1.au (OR (aD e) xv)):=iv (xt ..) (jx _) (jx e) (zY e)
def yH{H1:ar}(o o':bC):Fr Em H1 ((H1.alloc o).set H1.au o'):=((Fr.refl H1).alloc _).set (.inr (qm _)) _
def q8f{line:Int}(h:dc H0 H r b sv bv n ks)(a:CI n.lines n.c):zk M qna [.ptr r 0,.int .i64 line] H λ v H'=>v=.bool (n.owned line)/\Fr Em H H':=by
 refine qx8 ?_;simp only[aa,bc,qx9,qv,h.l2];refine C3.q (SZ h.ca a line) λ v H1⟨g,d⟩=>?_;rw[g];unfold sT No.owned;cases i:n.c.find line with
 |none =>
  simp only[aa,bc,xp,eZ,jS];exact d.trans (yH _ _) λ _ q=>q.elim
 |some e =>
  have l1:Op.ae [.ptr H1.au 1] ((H1.alloc (OR (aD .zero) xv)).set H1.au (OR (aD e) xv))=B1 (.int .i64 e.st):=zh (xf (xj ..)) 1;have f:Fr Em H ((H1.alloc (OR (aD .zero) xv)).set H1.au (OR (aD e) xv)):=d.trans (yH _ _) λ _ q=>q.elim
  by_cases q:e.st=2
  .simp only[aa,bc,xp,eZ,jS,l1,xg q];exact⟨by rw[q];rfl,f⟩
  .simp only[aa,bc,xp,eZ,jS,l1,q];exact⟨by simp[q],f⟩
def ui(H0 H:ar)(r b:Nat)(sv bv:AV)(n:No)(ks:List Nat)(a:Int)(v:AV)(H':ar):Prop:=(∃ov,v=.tuple [.int .u64 (n.load a).2.1,.bool (n.load a).2.2.1,ov,.int .i64 (n.load a).2.2.2.2]/\mL H H' ov (n.load a).2.2.2.1)/\dc H0 H' r b sv bv (n.load a).1 ks/\Fr (iK r b sv bv) H H'
def xl6(h:dc H0 H r b sv bv n ks)(j:CI n.lines n.c)(hk:n.aK.length<=900000)(hu:n.c.us+1<=1000000)(a:Int):zk M Ps [.ptr r 0,.int .i64 a] H (ui H0 H r b sv bv n ks a):=by
 refine q0s ?_;obtain⟨w0,w2,G,I,z,J⟩:=q0t M ⟨B5,Ps⟩;simp only[aa,bc,w0,w2];refine C3.q (Wq h a) λ v H1⟨y,S⟩=>?_;rw[y,S]
 by_cases hm:n.may a
 case neg =>
  have p:n.load a=(n,0,B2,[],2):=by unfold No.load;rw[qt hm]
  have U:¬(2:Int)=0:=by decide
  rw[qt hm];unfold ui;rw[p];simp only[aa,bc,U];exact⟨⟨.nils,rfl,mL.nil ..⟩,h,Fr.refl _⟩
 rw[xb hm];have hl:=h.li;have⟨L,T⟩:=hm;obtain⟨f,rfl⟩:=jt L;have t:f<1000000:=by omega
 have P:No.ln (Int.ofNat f)=((f / 8:Nat):Int):=rfl;have Y:=xg (show(0:Int)=0 from rfl);simp only[aa,bc,G,Db t,I,qv,h.l2];refine C3.q (SZ h.ca j ((f / 8:Nat):Int)) λ v H1⟨y,K⟩=>?_;rw[y];have w:n.may (f:Int):=⟨L,T⟩
 unfold sT;cases D:n.c.find ((f / 8:Nat):Int)with
 |none =>
  have p:n.load (f:Int)=((n.ask 1 ((f / 8:Nat):Int)).1,0,B2,(n.ask 1 ((f / 8:Nat):Int)).2,0):=by
   unfold No.load;rw[xb w];show(match n.c.find ((f / 8:Nat):Int)with|none=>_|some _=>_)=_;rw[D];rfl
  have l:Fr Em H ((H1.alloc (OR (aD .zero) xv)).set H1.au (OR (aD .zero) xv)):=K.trans (yH _ _) λ _ q=>q.elim;simp only[aa,bc,xp,eZ,jS];refine C3.q (Yg (h.em l) hk 1 ((f / 8:Nat):Int)) λ v V⟨x,hn,o⟩=>?_;unfold ui;rw[p];simp only[aa,bc];refine⟨⟨v,rfl,x.1,λ q=>ze l.au (x.2 q)⟩,hn,jZ (nq l) o⟩
 |some e =>
  obtain⟨i,hp,rfl⟩:=Ut D;have l:Fr Em H ((H1.alloc (OR (aD .zero) xv)).set H1.au (OR (aD (n.c.en i)) xv)):=K.trans (yH _ _) λ _ q=>q.elim;obtain⟨Hb,m⟩:∃X,X=(H1.alloc (OR (aD .zero) xv)).set H1.au (OR (aD (n.c.en i)) xv):=⟨_,rfl⟩
  rw[<-m]at l;have hb:=h.em l;have iL:=hb.iL
  -- behind the mark
  have fin:∀{A:ar}{c:Ca},dc H0 A r b sv bv {n with c:=c} ks->CI n.lines c->c.us+1<=1000000->Fr (iK r b sv bv) H A->c=(if n.live then n.c.mark ((f / 8:Nat):Int) B2 else n.c)->c.pos ((f / 8:Nat):Int)=B1 i -> ∀{E:Env},lk E 0=B1 (.ptr r 0)->lk E 1=B1 (.int .i64 (f:Int)) ->
   W M ⟨B5,Ps⟩ (q0r 30) B4 (eX M [.tmp 4,.tmp 5,.tmp 6,.tmp 7] (vK (ui H0 H r b sv bv n ks (f:Int)))) E [] A:=by
   intro A c B u F o O g E Q R;have p:n.load (f:Int)=({n with c:=(c.word f).1},(c.word f).2.getD 0,B4,[],0):=by
    unfold No.load;rw[xb w];show(match n.c.find ((f / 8:Nat):Int)with|none=>_|some _=>_)=_;rw[D,O];rfl
   simp only[aa,bc,J,Q,qv,B.l2,R];refine C3.q (sg B.ca u F t) λ v N⟨y,C,s⟩=>?_;rw[y];have hw:(c.word f).2=B1 ((c.en i).d.get (f % 8)):=by unfold Ca.word;rw[g]
   unfold xN;rw[g];have hlen:(c.word f).1.sl.length<=40:=by
    have:=B.len;unfold Ca.word;rw[g];show(c.sl.set i _).length<=40;rw[xq];exact this
   have hn:=B.iI C s hlen;unfold ui;rw[p,hw];simp only[aa,bc,xp];exact⟨⟨.nils,rfl,mL.nil ..⟩,hn,jZ o (wR s)⟩
  cases k:n.live with
  |false =>
   rw[k]at iL;simp only[aa,bc,xp,eZ,jS,<-m,z,qv,iL];exact fin (c:=n.c) (by have:({n with c:=n.c}:No)=n:=rfl;rw[this];exact hb) j hu (nq l) (by rw[k];rfl) hp rfl rfl
  |true =>
   rw[k]at iL;simp only[aa,bc,xp,eZ,jS,<-m,z,qv,iL,hb.l2];refine C3.q (a_ hb.ca j ((f / 8:Nat):Int) B2) λ _ N⟨C,s⟩=>?_;have em:n.c.mark ((f / 8:Nat):Int) B2=n.c.set i {n.c.en i with r:=B4}:=by unfold Ca.mark;rw[qt (by decide),sI,hp]
   have hlen:(n.c.mark ((f / 8:Nat):Int) B2).sl.length<=40:=by rw[em];show(n.c.sl.set i _).length<=40;rw[xq];exact h.len
   have g:(n.c.mark ((f / 8:Nat):Int) B2).pos ((f / 8:Nat):Int)=B1 i:=by
    rw[em];have sh:FE n.c {n.c.set i {n.c.en i with r:=B4}with us:=n.c.us}:=FE.set n.c.us rfl rfl;exact(sh.pos _).trans hp
   simp only[aa,bc];exact fin (c:=n.c.mark ((f / 8:Nat):Int) B2) (hb.iI C s hlen) (j.mark _ _) (by rw[em];exact hu) (jZ (nq l) (wR s)) (by rw[k];rfl) g rfl rfl
end
end Go.Am
namespace Go.Am
open Go.Proofs Ca
open Lang (ints)
variable{M:ak}[MK M]
section
variable{H0 H:ar}{r b:Nat}{sv bv:AV}{n:No}{ks:List Nat}
def xmn{line:Int}(h:n.owned line=B4):∃i,n.c.pos line=B1 i/\(n.c.en i).st=2:=by
 unfold No.owned at h;cases a:n.c.find line with
 |none=>rw[a]at h;cases h
 |some x =>
  rw[a]at h;obtain⟨i,hp,rfl⟩:=Ut a;exact⟨i,hp,by simpa using h⟩
def SB(c:Ca)(line:Int)(wr:Bool):(c.mark line wr).us=c.us/\(c.mark line wr).sl.length=c.sl.length:=by
 unfold Ca.mark;cases wr with
 |true =>
  rw[xb rfl];cases c.lF line 2 with
  |none=>exact⟨rfl,rfl⟩
  |some i =>
   show(if(c.en i).w then c else c.set i _).us=_/\(if(c.en i).w then c else c.set i _).sl.length=_;split
   .exact ⟨rfl,rfl⟩
   .exact ⟨rfl,xq⟩
 |false =>
  rw[qt (by decide)];cases c.lF line 0 with
  |none=>exact⟨rfl,rfl⟩
  |some i=>exact⟨rfl,xq⟩
def SA(c:Ca)(a:Nat)(y:Int):(c.put a y).sl.length=c.sl.length/\((c.put a y).us=c.us\/(c.put a y).us=c.us+1):=by
 unfold Ca.put;cases c.lF ((a / 8:Nat):Int) 2 with
 |none=>exact⟨rfl,.inl rfl⟩
 |some i=>exact⟨xq,.inr rfl⟩
def Qv(c:Ca)(a:Nat):(c.word a).1.sl.length=c.sl.length/\((c.word a).1.us=c.us\/(c.word a).1.us=c.us+1):=by
 unfold Ca.word;cases c.pos ((a / 8:Nat):Int)with
 |none=>exact⟨rfl,.inl rfl⟩
 |some i=>exact⟨xq,.inr rfl⟩
def rA(H0 H:ar)(r b:Nat)(sv bv:AV)(n:No)(ks:List Nat)(a y:Int)(v:AV)(H':ar):Prop:=(∃ov,v=.tuple [.bool (n.store a y).2.1,ov,.int .i64 (n.store a y).2.2.2]/\mL H H' ov (n.store a y).2.2.1)/\dc H0 H' r b sv bv (n.store a y).1 ks/\Fr (iK r b sv bv) H H'
def xju(h:dc H0 H r b sv bv n ks)(e:CI n.lines n.c)(hk:n.aK.length<=900000)(hu:n.c.us+1<=1000000)(a y:Int):zk M QA [.ptr r 0,.int .i64 a,.int .u64 y] H (rA H0 H r b sv bv n ks a y):=by
 refine qx4 ?_;obtain⟨w0,w2,B,C,t,D⟩:=qx5 M ⟨B5,QA⟩;simp only[aa,bc,w0,w2];refine C3.q (Wq h a) λ v H1⟨x,N⟩=>?_;rw[x,N]
 by_cases hm:n.may a
 case neg =>
  have i:n.store a y=(n,B2,[],2):=by unfold No.store;rw[qt hm]
  have P:¬(2:Int)=0:=by decide
  rw[qt hm];unfold rA;rw[i];simp only[aa,bc,P];exact⟨⟨.nils,rfl,mL.nil ..⟩,h,Fr.refl _⟩
 rw[xb hm];have hl:=h.li;have⟨F,O⟩:=hm;obtain⟨d,rfl⟩:=jt F;have m:d<1000000:=by omega
 have p:n.may (d:Int):=⟨F,O⟩
 have j:No.ln (d:Int)=((d / 8:Nat):Int):=rfl;have R:=xg (show(0:Int)=0 from rfl);simp only[aa,bc,B,Db m,C];refine C3.q (q8f (line:=((d / 8:Nat):Int)) h e) λ v H1⟨x,k⟩=>?_;rw[x];have hb:=h.em k;cases ho:n.owned ((d / 8:Nat):Int)with
 |false =>
  have i:n.store (d:Int) y=((n.ask 2 ((d / 8:Nat):Int)).1,B2,(n.ask 2 ((d / 8:Nat):Int)).2,0):=by
   unfold No.store;rw[xb p,j,ho];rfl
  simp only[aa,bc];refine C3.q (Yg hb hk 2 ((d / 8:Nat):Int)) λ v Q⟨s,hn,g⟩=>?_;unfold rA;rw[i];simp only[aa,bc];exact⟨⟨v,rfl,s.1,λ q=>ze k.au (s.2 q)⟩,hn,jZ (nq k) g⟩
 |true =>
  have iL:=hb.iL;have fin:∀{u:ar}{c:Ca},dc H0 u r b sv bv {n with c:=c} ks->CI n.lines c->c.us+1<=1000000->Fr (iK r b sv bv) H u->c=(if n.live then n.c.mark ((d / 8:Nat):Int) B4 else n.c) -> ∀{E:Env},lk E 0=B1 (.ptr r 0)->lk E 1=B1 (.int .i64 (d:Int))->lk E 2=B1 (.int .u64 y) ->
   W M ⟨B5,QA⟩ (qx3 28) B4 (eX M [.tmp 6,.tmp 7,.tmp 8] (vK (rA H0 H r b sv bv n ks (d:Int) y))) E [] u:=by
   intro u c w o A g I E J K L;have i:n.store (d:Int) y=({n with c:=c.put d y},B4,[],0):=by
    unfold No.store;rw[xb p,j,ho,xb rfl,I];rfl
   simp only[aa,bc,D,J,qv,w.l2,K,L];refine C3.q (xhb w.ca o A m y) λ v G⟨x,z,l⟩=>?_;have hn:=w.iI z l (by rw[(SA c d y).1];exact w.len);unfold rA;rw[i];simp only[aa,bc];exact⟨⟨.nils,rfl,mL.nil ..⟩,hn,jZ g (wR l)⟩
  cases f:n.live with
  |false =>
   rw[f]at iL;simp only[aa,bc,t,qv,iL];exact fin (c:=n.c) (by have:({n with c:=n.c}:No)=n:=rfl;rw[this];exact hb) e hu (nq k) (by rw[f];rfl) rfl rfl rfl
  |true =>
   rw[f]at iL;simp only[aa,bc,t,qv,iL,hb.l2];refine C3.q (a_ hb.ca e ((d / 8:Nat):Int) B4) λ _ G⟨z,l⟩=>?_;simp only[aa,bc];exact fin (c:=n.c.mark ((d / 8:Nat):Int) B4) (hb.iI z l (by rw[(SB ..).2];exact h.len)) (e.mark _ _) (by rw[(SB ..).1];exact hu) (jZ (nq k) (wR l)) (by rw[f];rfl) rfl rfl rfl
def Yh(h:dc H0 H r b sv bv n ks)(x:En)(too:Bool):zk M qpd [.ptr r 0,.agg (aD x),.bool too] H λ _ H'=>dc H0 H' r b sv bv (n.lost x too) ks/\Fr (iK r b sv bv) H H':=by
 refine q0y ?_;obtain⟨H1,e1,a,-,i⟩:=cE H (OR (aD x) xv);have l0:Op.ae [.ptr H.au 0] H1=B1 (.int .i64 x.line):=zh (xf i) 0;have l2:Op.ae [.ptr H.au 2] H1=B1 (.bool x.r):=zh (xf i) 2;have l3:Op.ae [.ptr H.au 3] H1=B1 (.bool x.w):=zh (xf i) 3;have e:=h.em a;have stay:(x.w ||(x.r && too))=B2->n.lost x too=n:=λ q=>by unfold No.lost;rw[q];rfl
 have go2:(x.w ||(x.r && too))=B4->x.line=0->n.lost x too=n.iW 2:=λ q j=>by unfold No.lost;rw[q,xb rfl,xb j]
 have f:(x.w ||(x.r && too))=B4 -> ¬x.line=0->n.lost x too=n.iW 1:=λ q j=>by unfold No.lost;rw[q,xb rfl,qt j]
 cases hw:x.w with
 |true =>
  rw[hw]at l3
  by_cases q:x.line=0
  .rw [go2 (by rw[hw];rfl) q];simp only[aa,bc,OJ,<-e1,l3,l0,xg q];refine C3.q (JH e 2) λ _ g⟨d,c⟩=>?_;simp only[aa,bc];exact⟨d,jZ (nq a) c⟩
  .rw [f (by rw[hw];rfl) q];simp only[aa,bc,OJ,<-e1,l3,l0,q];refine C3.q (JH e 1) λ _ g⟨d,c⟩=>?_;simp only[aa,bc];exact⟨d,jZ (nq a) c⟩
 |false =>
  rw[hw]at l3;cases hr:x.r with
  |false =>
   rw[hr]at l2;rw[stay (by rw[hw,hr];rfl)];simp only[aa,bc,OJ,<-e1,l3,l2];exact⟨e,nq a⟩
  |true =>
   rw[hr]at l2;cases too with
   |false =>
    rw[stay (by rw[hw,hr];rfl)];simp only[aa,bc,OJ,<-e1,l3,l2];exact⟨e,nq a⟩
   |true =>
    by_cases q:x.line=0
    .rw [go2 (by rw[hw,hr];rfl) q];simp only[aa,bc,OJ,<-e1,l3,l2,l0,xg q];refine C3.q (JH e 2) λ _ g⟨d,c⟩=>?_;simp only[aa,bc];exact⟨d,jZ (nq a) c⟩
    .rw [f (by rw[hw,hr];rfl) q];simp only[aa,bc,OJ,<-e1,l3,l2,l0,q];refine C3.q (JH e 1) λ _ g⟨d,c⟩=>?_;simp only[aa,bc];exact⟨d,jZ (nq a) c⟩
end
end Go.Am
namespace Go.Am
open Go.Proofs Ca
open Lang (ints)
variable{M:ak}[MK M]
def Ad(H H':ar)(v:AV)(ms:List Mg):Prop:=(v=.nils/\ms=[]) \/ ∃m a,v=Op.sliceTo 1 1 a/\ms=[m]/\H.au<=a/\a<H'.au/\H'.get a=B1 (OR (ao m) xr)
def Ad.ms{H H':ar}{v:AV}{ms:List Mg}(h:Ad H H' v ms):mL H H' v ms:=by
 rcases h with⟨rfl,rfl⟩|⟨m,a,rfl,rfl,c,d,f⟩
 .exact mL.nil ..
 .exact ⟨gU.sl (e:=xr) zn ⟨a,rfl,d,by rw[f];simp⟩,λ _=>c⟩
def Ad.one{H H0:ar}(m:Mg)(h:H0.au<=H.au):Ad H0 (H.alloc (OR (ao m) xr)) (Op.sliceTo 1 1 H.au) [m]:=.inr ⟨m,H.au,rfl,rfl,h,by rw[zg];omega,xt ..⟩
section
variable{H0 H:ar}{r b:Nat}{sv bv:AV}{n:No}{ks:List Nat}
def dc.Ki(h:dc H0 H r b sv bv n ks){a:AV}{g:List Nat}{H1:ar}(hs:mD bU H0 H1 a g)(f:Fr (aN bv) H H1)(A:∀x,aN a x->aN bv x\/H.au<=x) :
 ∃j,Op.store 1 [.ptr r 14,a] H1=B1 (.undef,j)/\dc H0 j r b sv a {n with aK:=ints g} g/\Fr (iK r b sv bv) H j:=by
 have s:=h.ca.lt;have t:aC sv<H.au:=h.ca.sl.lt;have i:∀x,x<H.au -> ¬aN bv x -> ¬aN a x:=λ x B y q=>(A x q).elim y λ w=>by omega
 have u:H1.get r=B1 (OR (rP n b bv) Qe):=by rw[f.ah _ h.lt h.o1];exact h.row
 have o1:az a=true:=by have:=Sl.one hs.sl;exact this
 have hu:AV.cells a=[a]:=by
  rcases hs.own with⟨rfl,_⟩|⟨b,m,rest,rfl,_⟩<;>rfl
 have st:=wW u (o:=14) (n:=1) (v:=a) (by rw[hu];rfl) (by rw[(FW n b bv).2.2.2.2.2.2.2.2];decide) (by rw[hu];simp[vz,o1]);have e:(rP n b bv).take 14++AV.cells a++(rP n b bv).drop (14+1)=rP n b a:=by
  rw[hu];have⟨core,lines,c,⟨k,co,l,⟨d,z⟩⟩,aK,live,code⟩:=n
  match d,z with
  |[d0,d1,d2,d3,d4,d5,d6,d7],_=>rfl
 rw[e]at st;have p:Fr (On r) H1 (H1.set r (OR (rP n b a) Qe)):=(Fr.refl H1).set (W:=On r) (.inl rfl) _;have fn:=f.au;refine⟨_,st,⟨xj ..,qn h.lt fn,(h.ca.fr f h.o2 h.o3).fr p (λ(q:b=r)=>h.n1 q.symm) (λ(q:aC sv=r)=>h.n2 q.symm),hs.vF p (hs.fr.set (.inr h.lr) _) (λ x hx(q:x=r)=>i r h.lt h.o1 (q▸hx)),rfl,h.lr,h.lb,h.ls,h.n1,h.n2,i _ h.lt h.o1,i _ s h.o2,i _ t h.o3,h.li,h.len⟩,?_⟩;exact(f.mono λ _ _ q=>.inr (.inr q)).trans p λ x q=>.inl (.inl q)
def EF(ks:List Nat)(x:Nat):ints (ks ++ [x])=ints ks ++ [(x:Int)]:=by simp[ints]
def Vm(m:Mg)(d:L8):(ao m).take 3++(AV.agg (dy d)).cells++(ao m).drop (3+8)=ao {m with d:=d}:=by
 have⟨k,co,l,⟨e,he⟩⟩:=m;have⟨d,a⟩:=d
 match e,he,d,a with
 |[d0,d1,d2,d3,d4,d5,d6,d7],_,[e0,e1,e2,e3,e4,e5,e6,e7],_=>rfl
def DY(x:En):((aD x).drop 4).take 8=dy x.d:=by
 have⟨line,st,r,w,⟨d,a⟩,⟨o,ho⟩,u⟩:=x
 match d,a,o,ho with
 |[d0,d1,d2,d3,d4,d5,d6,d7],_,[e0,e1,e2,e3,e4,e5,e6,e7],_=>rfl
def ry(H0 H:ar)(r b:Nat)(sv bv:AV)(a:No×List Mg)(v:AV)(H':ar):Prop:=Ad H H' v a.2/\rX H0 H r b sv bv a.1 H'
def um(h:dc H0 H r b sv bv n ks)(hk:n.aK.length<=900000)(x:En)(Q:0<=x.line):zk M Z1 [.ptr r 0,.agg (aD x)] H (ry H0 H r b sv bv (n.gone x)):=by
 refine q0w ?_;obtain⟨w0,w2,D⟩:=q0x M ⟨B5,Z1⟩;obtain⟨H1,e1,s,-,u⟩:=cE H (OR (aD x) xv);have l0:Op.ae [.ptr H.au 0] H1=B1 (.int .i64 x.line):=zh (xf u) 0;have l1:Op.ae [.ptr H.au 1] H1=B1 (.int .i64 x.st):=zh (xf u) 1;have z:=h.em s;have n1:H.au<H1.au:=by rw[e1,zg];omega
 by_cases q:x.st=2
 case neg =>
  have p:n.gone x=(n,[]):=by unfold No.gone;rw[qt q]
  rw[p];simp only[aa,bc,w0,<-e1,w2,l1,q];exact⟨.inl ⟨rfl,rfl⟩,h.same s⟩
 have p:n.gone x=({n with aK:=n.aK ++ [x.line]},[⟨3,n.core,x.line,x.d⟩]):=by unfold No.gone;rw[xb q]
 rw[p];have⟨ln,c⟩:=jt Q;rw[c]at l0;simp only[aa,bc,w0,<-e1,w2,l1,xg q,D,qv,z.vM,l0];have O:=h.kl;refine z.bk.push (x:=ln) rfl (by omega) (by omega) λ l Y hs L g=>?_;have⟨k,W,G,t⟩:=z.Ki hs L g;have I:k.get H.au=B1 (OR (aD x) xv):=by
  rw[t.ah _ n1 ?_];exact u;rintro(q|q|q)
  .have:=h.lt;omega
  .have Z:=h.ca.lt;have h5:aC sv<H.au:=h.ca.sl.lt;exact q.elim (λ q=>by omega) λ q=>by omega
  .have:=h.bk.fresh _ q;omega
 have U:H.au<k.au:=by have:=t.au;omega
 have l0:Op.ae [.ptr H.au 0] k=B1 (.int .i64 (ln:Int)):=by rw[<-c];exact zh (xf I) 0
 simp only[aa,bc,W,l0];refine C3.q (Gc G 3 (ln:Int)) λ v a⟨P,j⟩=>?_;rw[P];have S:a.get H.au=B1 (OR (aD x) xv):=by rw[j.ah _ U id];exact I
 obtain⟨m,hm⟩:∃m,m=No.msg {n with aK:=ints (ks ++ [ln])} 3 (ln:Int):=⟨_,rfl⟩
 have A:({m with d:=x.d}:Mg)=⟨3,n.core,x.line,x.d⟩:=by rw[hm,c];rfl
 rw[<-hm];have J:=iv (xt a (OR (ao ⟨0,0,0,.zero⟩) xr)) (zn _) (zn m) (rR _);obtain⟨f,i⟩:∃X,X=(a.alloc (OR (ao ⟨0,0,0,.zero⟩) xr)).set a.au (OR (ao m) xr):=⟨_,rfl⟩
 rw[<-i]at J;have E:Fr Em a f:=by rw[i];exact yH _ _
 have N:f.get a.au=B1 (OR (ao m) xr):=by rw[i,xj]
 have V:H.au<a.au:=by have:=j.au;omega
 have T:f.get H.au=B1 (OR (aD x) xv):=by rw[E.ah _ V id];exact S
 have B:Op.av 8 [.ptr H.au 4] f=B1 (.agg (dy x.d)):=by rw[tT (xf T) (by rw[jx];decide),DY]
 have K:=wW N (o:=3) (n:=8) (v:=.agg (dy x.d)) (by rw[z7];exact lj _) (by rw[zn];decide) (by rw[z7];exact Ae _);rw[Vm,A]at K;have C:=fq (xj f a.au (OR (ao ⟨3,n.core,x.line,x.d⟩) xr)) (zn _);simp only[aa,bc,mZ,J,B,K,C,AR];have n5:f.au=a.au+1:=by rw[i];rfl
 have F:Fr Em a (f.set a.au (OR (ao ⟨3,n.core,x.line,x.d⟩) xr)):=E.set (.inr (qm _)) _;refine⟨Ad.one _ (by rw[qI];omega),l,ks ++ [ln],?_,?_,?_⟩
 .have e:({n with aK:=ints (ks ++ [ln])}:No) = {n with aK:=n.aK ++ [x.line]}:=by rw[EF,c,h.eq]
  rw[<-e];exact(G.em (j.trans F λ _ q=>q.elim)).em ((Fr.refl _).alloc _)
 .exact ((nq s).trans t λ x q=>.inl q).em ((j.trans F λ _ q=>q.elim).alloc _)
 .exact λ y R=>(g y R).imp id λ w=>by omega
end
end Go.Am
namespace Go.Am
open Go.Proofs Ca
open Lang (ints)
variable{M:ak}[MK M]
def yK(off:Nat)(n:Option Nat)(t rest:aR)(x y:List AV):aV (.part off n t rest) (.agg x) (.agg y)=(partAt x off n).bind λ a=>(partAt y off n).bind λ b=>(aV t a b).bind λ q=>cond q (aV rest (.agg x) (.agg y)) (B1 B2):=rfl
def q8g(x:List AV)(k:Nat):partAt x k B5=nth x k:=rfl
def iH{k:Nat}{t:aR}{l c:List AV}{K:Pl}{a b:Int}{P:Prop}[Decidable P](h:nth l k=B1 (.int K a))(d:nth c k=B1 (.int K b))(hp:aV t (.agg l) (.agg c)=B1 (decide P)) :
 aV (.part k B5 .int t) (.agg l) (.agg c)=B1 (decide (a=b/\P)):=by
 have q:aV .int (.int K a) (.int K b)=B1 (decide (a=b)):=by
  have e:rT K K=true:=by cases K<;>rfl
  simp only[aV,EA,e,xw];rfl
 rw[yK,q8g,q8g,h,d,qr,qr,q,qr,hp]
 by_cases e:a=b
 .simp [e]
 .simp [e]
abbrev Uu:aR:=.part 0 B5 .int (.part 1 B5 .int (.part 2 B5 .int (.part 3 B5 .int (.part 4 B5 .int (.part 5 B5 .int (.part 6 B5 .int (.part 7 B5 .int .nil)))))))
def B_(d e:L8):aV Uu (.agg (dy d)) (.agg (dy e))=B1 (decide (d=e)):=by
 have⟨d,m⟩:=d;have⟨e,he⟩:=e
 match d,m,e,he with
 |[d0,d1,d2,d3,d4,d5,d6,d7],_,[e0,e1,e2,e3,e4,e5,e6,e7],_ =>
  rw[iH (P:=d1=e1/\d2=e2/\d3=e3/\d4=e4/\d5=e5/\d6=e6/\d7=e7/\True) (a:=d0) (b:=e0) (K:=.u64) rfl rfl (iH rfl rfl (iH rfl rfl (iH rfl rfl (iH rfl rfl (iH rfl rfl (iH rfl rfl (iH rfl rfl rfl)))))))];congr 1;exact decide_eq_decide.2 ⟨λ q=>by obtain⟨a0,c,f,g,h,i,j,k,-⟩:=q;subst a0 c f g h i j k;rfl,λ q=>by
   have q:=congrArg L8.l q;injection q with o q;injection q with p q;injection q with s q;injection q with t q;injection q with u q;injection q with v q;injection q with w q;injection q with x q
   exact⟨o,p,s,t,u,v,w,x,trivial⟩⟩
abbrev η:aR:=.part 0 B5 .int (.part 1 B5 .int (.part 2 B5 .int (.part 3 (B1 8) Uu .nil)))
def eqM(m e:Mg):aV η (.agg (ao m)) (.agg (ao e))=B1 (decide (m=e)):=by
 have f:aV (.part 3 (B1 8) Uu .nil) (.agg (ao m)) (.agg (ao e))=B1 (decide (m.d=e.d)):=by
  have p:∀x:Mg,partAt (ao x) 3 (B1 8)=B1 (.agg (dy x.d)):=λ x=>by
   have⟨k,co,l,⟨d,g⟩⟩:=x
   match d,g with
   |[d0,d1,d2,d3,d4,d5,d6,d7],_=>rfl
  rw[yK,p,p,qr,qr,B_,qr];cases decide (m.d=e.d)<;>rfl
 rw[iH (P:=m.core=e.core/\m.line=e.line/\m.d=e.d) (a:=m.k) (b:=e.k) (K:=.i64) rfl rfl (iH rfl rfl (iH rfl rfl f))];congr 1;refine decide_eq_decide.2 ⟨λ q=>?_,λ q=>by rw[q];exact⟨rfl,rfl,rfl,rfl⟩⟩;have⟨a,b,c,d⟩:=q;cases m;cases e;simp only at a b c d;subst a b c d;rfl
def Q9(m a:Mg)(H:ar):Op.eq (.agg η) B2 [.agg (ao m),.agg (ao a)] H=B1 (.bool (decide (m=a))):=oU _ _ _ _ _ (eqM m a)
section
variable{H0 H:ar}{r b:Nat}{sv bv:AV}{n:No}{ks:List Nat}
def xcq(h:dc H0 H r b sv bv n ks)(hk:n.aK.length<=900000)(m:Mg)(x:En):zk M Yn [.ptr r 0,.agg (ao m),.agg (aD x)] H λ v H'=>v=.bool (decide (n.jR m x))/\Fr Em H H':=by
 refine qt2 ?_;obtain⟨w0,w2,B,i,j,u⟩:=qt3 M ⟨B5,Yn⟩;obtain⟨H1,e1,E,n1,-⟩:=cE H (OR (ao m) xr);obtain⟨w,e2,y,-,F⟩:=cE H1 (OR (aD x) xv);have p:Fr Em H w:=E.trans y λ _ q=>q.elim;have D:w.get H.au=B1 (OR (ao m) xr):=by rw[y.ah _ (by omega) id,e1,xt]
 have f:Op.ae [.ptr H.au 0] w=B1 (.int .i64 m.k):=zh (xf D) 0;have t:Op.ae [.ptr H.au 2] w=B1 (.int .i64 m.line):=zh (xf D) 2;have ls:Op.ae [.ptr H1.au 1] w=B1 (.int .i64 x.st):=zh (xf F) 1;have s:=h.em p;have d:∀(P Q:Prop)[Decidable P][Decidable Q],(P↔Q)->AV.bool (decide P)=.bool (decide Q):=λ P Q _ _ q=>by congr 1;exact decide_eq_decide.2 q
 by_cases a:m.k=11
 .simp only[aa,bc,w0,<-e1,<-e2,w2,f,xg a,ls];exact⟨by congr 1;simp[No.jR,a],p⟩
 by_cases c:m.k=12
 .simp only[aa,bc,w0,<-e1,<-e2,w2,f,a,ls,i,xg c,j];exact⟨by congr 1;simp[No.jR,c],p⟩
 by_cases e:m.k=13
 .simp only[aa,bc,w0,<-e1,<-e2,w2,f,a,ls,i,c,xg e,j];exact⟨by congr 1;simp[No.jR,e],p⟩
 by_cases g:m.k=14
 .simp only[aa,bc,w0,<-e1,<-e2,w2,f,a,i,c,e,j,xg g,qv,s.lo,t];refine C3.q (Gc s 1 m.line) λ v C⟨A,z⟩=>?_;rw[A];simp only[aa,bc,(s.em z).lo,Q9];exact⟨by congr 1;simp[No.jR,g],p.trans z λ _ q=>q.elim⟩
 by_cases l:m.k=15
 .simp only[aa,bc,w0,<-e1,<-e2,w2,f,a,i,c,e,j,g,u,xg l,qv,s.lo,t];refine C3.q (Gc s 2 m.line) λ v C⟨A,z⟩=>?_;rw[A];simp only[aa,bc,(s.em z).lo,Q9];exact⟨by congr 1;simp[No.jR,l],p.trans z λ _ q=>q.elim⟩
 by_cases o:m.k=16
 .have I:=h.kl;simp only[aa,bc,w0,<-e1,<-e2,w2,f,a,i,c,e,j,g,u,l,xg o,qv,s.vM,t];refine C3.q (qvb s.bk.sl (by omega) m.line) λ v C⟨A,G⟩=>?_;rw[A,G];simp only[aa,bc];exact⟨by congr 1;simp[No.jR,o,h.eq],p⟩
 .simp only[aa,bc,w0,<-e1,<-e2,w2,f,a,i,c,e,j,g,u,l,o,B];exact⟨by congr 1;simp[No.jR,a,c,e,g,l,o],p⟩
def XY(c:Ca)(line st:Int)(d:L8):(c.fill line st d).1.sl.length=c.sl.length/\((c.fill line st d).1.us=c.us\/(c.fill line st d).1.us=c.us+1):=by
 unfold Ca.fill;cases c.pos line with
 |some i=>exact⟨rfl,.inl rfl⟩
 |none =>
  cases c.room line with
  |none=>exact⟨rfl,.inl rfl⟩
  |some i=>exact⟨xq,.inr rfl⟩
def DK{lines line st:Int}{c:Ca}{d:L8}(h:CI lines c)(hs:(c.fill line st d).2.1.st≠0):0<=(c.fill line st d).2.1.line:=by
 unfold Ca.fill at hs⊢;cases hp:c.pos line with
 |some i=>rw[hp]at hs;exact absurd rfl hs
 |none =>
  rw[hp]at hs;cases hr:c.room line with
  |none=>rw[hr]at hs;exact absurd rfl hs
  |some i =>
   rw[hr]at hs;have hs:(c.en i).st≠0:=hs;show 0<=(c.en i).line;rcases xx i c.sl.length with q|q
   .exact (h.ok i q hs).2.1
   .rw [WT q]at hs;exact absurd rfl hs
def II{line st:Int}{c:Ca}{d:L8}(h:(c.fill line st d).2.2=22):(c.fill line st d).1=c:=by
 unfold Ca.fill at h⊢;cases hp:c.pos line with
 |some i=>rfl
 |none =>
  rw[hp]at h;cases hr:c.room line with
  |none=>rfl
  |some i=>rw[hr]at h;exact absurd h (show¬(0:Int)=22 by decide)
def Ad.from{H H1 H':ar}{v:AV}{ms:List Mg}(h:Ad H1 H' v ms)(f:H.au<=H1.au):Ad H H' v ms:=by
 rcases h with q|⟨m,a,c,d,e,g,i⟩
 .exact .inl q
 .exact .inr ⟨m,a,c,d,ze f e,g,i⟩
def rX.from{n':No}{H1 H':ar}(f:Fr (iK r b sv bv) H H1)(h:rX H0 H1 r b sv bv n' H'):rX H0 H r b sv bv n' H':=by
 have⟨a,c,d,e,g⟩:=h;have fn:=f.au;exact⟨a,c,d,jZ f e,λ x q=>(g x q).imp id λ w=>by omega⟩
def rX.em{n':No}{H1 H':ar}(h:rX H0 H r b sv bv n' H1)(f:Fr Em H1 H'):rX H0 H r b sv bv n' H':=by
 have⟨a,c,d,e,g⟩:=h;exact⟨a,c,d.em f,e.em f,g⟩
def dc.off{W:Nat->Prop}{H':ar}(h:dc H0 H r b sv bv n ks)(f:Fr W H H')(hw:∀x,W x->H0.au<=x /\ ¬iK r b sv bv x):dc H0 H' r b sv bv n ks :=
 ⟨by rw[f.ah _ h.lt λ q=>(hw _ q).2 (.inl rfl)];exact h.row,qn h.lt f.au,h.ca.fr f (λ q=>(hw _ q).2 (.inr (.inl (.inl rfl)))) (λ q=>(hw _ q).2 (.inr (.inl (.inr rfl)))),h.bk.vF f (h.bk.fr.trans f λ x q=>.inr (hw x q).1) (λ x a q=>(hw x q).2 (.inr (.inr a))),h.eq,h.lr,h.lb,h.ls,h.n1,h.n2,h.o1,h.o2,h.o3,h.li,h.len⟩
def ry.from{a:No×List Mg}{H1 H':ar}{v:AV}(f:Fr (iK r b sv bv) H H1)(h:ry H0 H1 r b sv bv a v H'):ry H0 H r b sv bv a v H':=⟨h.1.from f.au,h.2.from f⟩
def xi6(h:dc H0 H r b sv bv n ks)(i:CI n.lines n.c)(hk:n.aK.length<=900000)(hu:n.c.us+1<=1000000)(m:Mg)(hm:0<=m.line):zk M NO [.ptr r 0,.agg (ao m)] H (ry H0 H r b sv bv (n.fill m)):=by
 refine q0u ?_;obtain⟨w0,w4,w10,I,J,w28⟩:=q0v M ⟨B5,NO⟩;have⟨H1,e1,f1,n1,O⟩:=cE H (OR (ao m) xr);have G:Op.ae [.ptr H.au 0] H1=B1 (.int .i64 m.k):=zh (xf O) 0;have T:=h.em f1;have hlr:=h.lt;have hlb:=h.ca.lt;have hls:aC sv<H.au:=h.ca.sl.lt;have V:=h.bk.fresh;have off:∀y,H.au<=y -> ¬iK r b sv bv y:=λ y hy q=>by
  rcases q with q|q|q
  .omega
  .exact q.elim (λ q=>by omega) λ q=>by omega
  .have:=V _ q;omega
 -- the line's words
 have D:∀{w:ar},w.get H.au=B1 (OR (ao m) xr)->Op.av 8 [.ptr H.au 3] w=B1 (.agg (dy m.d)):=λ g=>by
  rw[tT (xf g) (by rw[zn];decide)];have⟨k,co,l,⟨d,hd⟩⟩:=m
  match d,hd with
  |[d0,d1,d2,d3,d4,d5,d6,d7],_=>rfl
 have F:∀{w:ar},w.get H.au=B1 (OR (ao m) xr)->Op.ae [.ptr H.au 2] w=B1 (.int .i64 m.line):=λ g=>zh (xf g) 2
 -- what fA is told
 have fin:∀{n':No}{st:Int}{u:ar}{t:Nat},dc H0 u r b sv bv {n' with c:=(n'.c.fill m.line st m.d).1} ks->CI n'.lines n'.c->n'.aK=n.aK->Fr (iK r b sv bv) H u->u.get t=B1 (OR (aD (n'.c.fill m.line st m.d).2.1) xv)->n.fill m=n'.dP m st ->
  ∀{E:Env},lk E 0=B1 (.ptr r 0)->lk E 6=B1 (.ptr t 0)->lk E 4=B1 .nils->lk E 7=B1 (.bool (decide ((n'.c.fill m.line st m.d).2.2=0/\(n'.c.fill m.line st m.d).2.1.st≠0))) ->
  W M ⟨B5,NO⟩ (qpr 20) B4 (eX M [.tmp 4] (vK (ry H0 H r b sv bv (n.fill m)))) E [] u:=by
  intro n' st u t hc B hb hf hg hn E p q6 q4 q7;rw[hn];unfold No.dP
  by_cases q:(n'.c.fill m.line st m.d).2.2=0/\(n'.c.fill m.line st m.d).2.1.st≠0
  .have Q:lk E 7=B1 (.bool B4):=by rw[q7,ku q]
   rw[xb q];have ld:=fq (n:=21) hg (jx _);simp only[aa,bc,J,Q,w28,p,q6,ld];refine C3.q (um hc (by show n'.aK.length<=_;rw[hb];exact hk) _ (DK B q.2)) λ v a U=>?_;simp only[aa,bc];exact U.from hf
  .have Q:lk E 7=B1 (.bool B2):=by rw[q7,kw q]
   rw[qt q];simp only[aa,bc,J,Q];exact⟨.inl ⟨rfl,rfl⟩,rX.of hc hf⟩
 -- put in
 have main:∀{st:Int},st=1\/st=2->n.fill m=n.kV m st -> ∀{E:Env},lk E 0=B1 (.ptr r 0)->lk E 3=B1 (.ptr H.au 0)->lk E 4=B1 .nils->lk E 5=B1 (.int .i64 st)->W M ⟨B5,NO⟩ (qpr 10) B4 (eX M [.tmp 4] (vK (ry H0 H r b sv bv (n.fill m)))) E [] H1:=by
  intro st C hn E p q3 q4 q5;simp only[aa,bc,w10,p,q3,q5,qv,T.l2,F O,D O];refine C3.q (xb4 T.ca i hu hm C m.d) λ v a⟨hv,U,L⟩=>?_;rw[hv];unfold pA;have k2:a.get H.au=B1 (OR (ao m) xr):=by rw[L.ah _ (by omega) (λ q=>q.elim (λ q=>by omega) λ q=>by omega)];exact O
  have n2:=L.au;have Y:=T.iI U L (by rw[(XY ..).1];exact h.len);obtain⟨s,z⟩:∃X,X=(a.alloc (OR (aD .zero) xv)).set a.au (OR (aD (n.c.fill m.line st m.d).2.1) xv):=⟨_,rfl⟩
  have R:Fr Em a s:=by rw[z];exact yH _ _
  have g3:s.get a.au=B1 (OR (aD (n.c.fill m.line st m.d).2.1) xv):=by rw[z,xj]
  have n3:s.au=a.au+1:=by rw[z];rfl
  have k3:s.get H.au=B1 (OR (ao m) xr):=by rw[R.ah _ (by omega) id];exact k2
  have o:=Y.em R;have A:Fr (iK r b sv bv) H s:=jZ (jZ (nq f1) (wR L)) (nq R)
  by_cases q:(n.c.fill m.line st m.d).2.2=22
  case neg =>
   have j:n.fill m=n.dP m st:=by rw[hn];unfold No.kV;rw[qt q]
   simp only[aa,bc,xp,eZ,jS,<-z,I,q];exact fin o i rfl A g3 j p rfl q4 rfl
  .have j:n.fill m=(n.iW 3).dP m st:=by rw[hn];unfold No.kV;rw[xb q]
   have ec:({n with c:=(n.c.fill m.line st m.d).1}:No)=n:=by rw[II q]
   rw[ec]at o;simp only[aa,bc,xp,eZ,jS,<-z,I,xg q,p];refine C3.q (JH o 3) λ _ H4⟨P,N⟩=>?_;have k4:H4.get H.au=B1 (OR (ao m) xr):=by rw[N.ah _ (by omega) (off _ (qm _))];exact k3
   have g4:H4.get a.au=B1 (OR (aD (n.c.fill m.line st m.d).2.1) xv):=by rw[N.ah _ (by omega) (off _ (by omega))];exact g3
   have n4:=N.au;simp only[aa,bc,q3,q5,qv,P.l2,F k4,D k4];have f:CI n.lines (n.iW 3).c:=i.discard;refine C3.q (xb4 P.ca f hu hm C m.d) λ v K⟨hv,h5,S⟩=>?_;rw[hv];unfold pA;have g5:K.get a.au=B1 (OR (aD (n.c.fill m.line st m.d).2.1) xv):=by rw[S.ah _ (by omega) (λ q=>q.elim (λ q=>by omega) λ q=>by omega)];exact g4
   have s6:=iv g5 (jx _) (jx ((n.iW 3).c.fill m.line st m.d).2.1) (zY _);have Z:=P.iI h5 S (by rw[(XY ..).1];exact P.len);have f6:Fr (On a.au) K (K.set a.au (OR (aD ((n.iW 3).c.fill m.line st m.d).2.1) xv)):=(Fr.refl K).set (W:=On a.au) (.inl rfl) _;simp only[aa,bc,xp,s6];refine fin (n':=n.iW 3) (t:=a.au) ?_ f rfl ?_ (xj ..) j p rfl q4 rfl
   .exact Z.off f6 (λ x(hx:x=a.au)=>by rw[hx];exact⟨by have:=h.bk.fr.au;omega,off _ (by omega)⟩)
   .exact (jZ (jZ A N) (wR S)).set (.inr (by omega)) _
 by_cases e:m.k=15
 .simp only[aa,bc,w0,<-e1,w4,G,xg e];exact main (.inr rfl) (by unfold No.fill;rw[xb e]) rfl rfl rfl rfl
 .simp only[aa,bc,w0,<-e1,w4,G,e];exact main (.inl rfl) (by unfold No.fill;rw[qt e]) rfl rfl rfl rfl
end
end Go.Am
namespace Go.Am
open Go.Proofs Ca
open Lang (ints)
variable{M:ak}[MK M]
def xkh{H:ar}{e size bytes b n:Nat}{cells:List AV}(h:Sl H size (.slice b 0 n n) n cells)(hn:0<n){x:AV}{k:Nat}{new:List AV}(i:Sl H size x k new)(hk:0<k)(d:aQ new=B4)(hs:0<size)
 (s:(n+k)*bytes<=140737488355328) (f:n+k<=140737488355328) {K:Bool->AV->ar->Prop} {m:Bool}
 (p:∀j H',Own H' e size j (n+k) (cells++new)->Fr Em H H'->(∀c,aN j c->H.au<=c)->K m j H'):jO m (Op.append e size bytes [.slice b 0 n n,x] H) K:=by
 have a:=Ts s f;have hlen:new.length=k*size:=i.1;have g:=Gf hs;have o:Ow (n+k) n=false:=by cases t:Ow (n+k) n with|false=>rfl|true=>rw[sH]at t;omega
 have l:Op.append e size bytes [.slice b 0 n n,x] H=B1 (dB H e size (n+k) (cells++new) (0,0)):=by
  simp only[Op.append,i.fy,i.first,qr,d,xw,de,o,zm,a,vf (show n<=n+k by omega),g,js,h.first,pD]
 rw[l];refine jO.intro rfl (p _ _ ⟨by rw[xe,h.1,hlen,yf],.inr ⟨H.au,rfl,by rw[zg];omega,?_⟩⟩ ((Fr.refl H).alloc _) λ c q=>by rw[q.2];exact qm _);rw[ar.bK,xb rfl]
def Ad.em{H H1 H':ar}{v:AV}{ms:List Mg}(h:Ad H H1 v ms)(f:Fr Em H1 H'):Ad H H' v ms:=by
 rcases h with q|⟨m,a,d,e,g,c,i⟩
 .exact .inl q
 .exact .inr ⟨m,a,d,e,g,qn c f.au,by rw[f.ah _ c id];exact i⟩
def M7{H H':ar}{v a:AV}{ms:List Mg}{m:Mg}(h:Ad H H' v ms)(x:gU ao xr 11 H' a [m])(hl:H.au<=H'.au){K:Bool->AV->ar->Prop}
 (g:∀v2 c,mL H c v2 (ms ++ [m])->Fr Em H' c->K B4 v2 c):jO B4 (Op.append xr 11 88 [v,a] H') K:=by
 have xs:=x.sl zn;have i:aQ ([m].flatMap ao)=true:=by rw[j5,List.flatMap_nil,zt];exact rR m
 rcases h with⟨rfl,rfl⟩|⟨l,b,rfl,rfl,s,j,k⟩
 .refine R2 (Own.nil H' xr 11) xs i (by decide) (by simp) (by simp) λ v2 c o f w=>g v2 c ⟨?_,λ _=>?_⟩ (f.mono λ y _ q=>(q.1 rfl).elim)
  .have:=Own.sl o;exact this
  .have d:v2≠ .nils:=λ q=>by
    subst q;have:=Own.sl o;exact absurd this.2 (by intro z;cases z)
   exact(w _ ⟨d,rfl⟩).elim (λ q=>(q.1 rfl).elim) λ q=>by omega
 .have p:bX ao 11 H' (Op.sliceTo 1 1 b) [l]:=gU.sl (e:=xr) zn ⟨b,rfl,j,by rw[k];simp⟩;refine xkh (b:=b) (n:=1) (e:=xr) p (by decide) xs (by simp) i (by decide) (by simp) (by simp) λ v2 c o f w=>g v2 c ⟨?_,λ _=>?_⟩ f
  .have:=Own.sl o;unfold bX;rw[ym];exact this
  .have d:v2≠ .nils:=λ q=>by
    subst q;have:=Own.sl o;exact absurd this.2 (by intro z;cases z)
   have:=w _ ⟨d,rfl⟩;omega
section
variable{H0 H:ar}{r b:Nat}{sv bv:AV}{n:No}{ks:List Nat}
def ER(ks:List Nat)(line:Int):ints (zM ks line)=(ints ks).filter (· ≠line):=by
 unfold ints zM;rw[List.filter_map];congr 1;refine List.filter_congr λ k _=>?_;show((k:Int) != line)=decide ((k:Int)≠line)
 by_cases q:(k:Int)=line<;>simp[q]
def wo(c:Ca)(line:Int):sT c line=.tuple [.agg (aD ((c.find line).getD .zero)),.bool (c.find line).isSome]:=by
 unfold sT;cases c.find line<;>rfl
def Vw{x:En}{too:Bool}(h:CI n.lines n.c):CI n.lines (n.lost x too).c:=by
 unfold No.lost;split
 .split
  .exact h.discard
  .exact h.discard
 .exact h
def Gq(x:En)(too:Bool):(n.lost x too).aK=n.aK/\(n.lost x too).core=n.core/\(n.lost x too).lines=n.lines/\(n.lost x too).c.us=n.c.us:=by
 unfold No.lost;split
 .split<;>exact⟨rfl,rfl,rfl,rfl⟩
 .exact ⟨rfl,rfl,rfl,rfl⟩
def Ny(c:Ca)(line:Int):(c.drop line).1.sl.length=c.sl.length/\(c.drop line).1.us=c.us:=by
 unfold Ca.drop;cases c.lF line 0 with
 |none=>exact⟨rfl,rfl⟩
 |some i=>exact⟨xq,rfl⟩
def xbt(c:Ca)(line:Int):(c.cR line).1.sl.length=c.sl.length/\(c.cR line).1.us=c.us:=by
 unfold Ca.cR;cases c.lF line 2 with
 |none=>exact⟨rfl,rfl⟩
 |some i=>exact⟨xq,rfl⟩
def q8h(c:Ca)(line:Int)(d:L8):(c.cQ line d).sl.length=c.sl.length/\(c.cQ line d).us=c.us:=by
 unfold Ca.cQ;cases c.lF line 1 with
 |none=>exact⟨rfl,rfl⟩
 |some i=>exact⟨xq,rfl⟩
def xlq(n:No)(x:En):(n.gone x).1.core=n.core:=by unfold No.gone;split<;>rfl
def xln(n:No)(m:Mg):(n.fill m).1.core=n.core:=by
 have e:∀(n:No)(st:Int),(n.dP m st).1.core=n.core:=λ n st=>by
  unfold No.dP;split
  .exact xlq ..
  .rfl
 unfold No.fill;generalize(if m.k=15 then(2:Int)else 1)=st;unfold No.kV;split
 .exact e (n.iW 3) st
 .exact e n st
def uV(H0 H:ar)(r b:Nat)(sv bv:AV)(a:No×List Mg)(v:AV)(H':ar):Prop:=(∃ov e,v=.tuple [ov,e]/\mL H H' ov a.2)/\rX H0 H r b sv bv a.1 H'
def xj3(h:dc H0 H r b sv bv n ks)(U:CI n.lines n.c)(hk:n.aK.length<=900000)(hu:n.c.us+1<=1000000)(m:Mg):zk M vm [.ptr r 0,.agg (ao m)] H (uV H0 H r b sv bv (n.bO m)):=by
 refine q0n ?_;obtain⟨w0,w2,w10,w12,Z,w73,w34,w75,w40,w85,w41,w49,w53,w61⟩:=q0o M ⟨B5,vm⟩;have⟨H1,e1,f1,n1,g1⟩:=cE H (OR (ao m) xr);have hlr:=h.lt;have hlb:=h.ca.lt;have hls:aC sv<H.au:=h.ca.sl.lt;have hbf:=h.bk.fresh;have off:∀y,H.au<=y -> ¬iK r b sv bv y:=λ y hy q=>by
  rcases q with q|q|q
  .omega
  .exact q.elim (λ q=>by omega) λ q=>by omega
  .have:=hbf _ q;omega
 have P:∀y,H.au<=y -> ¬nA b sv y:=λ y hy q=>off y hy (.inr (.inl q));have G:∀{D:ar},D.get H.au=B1 (OR (ao m) xr)->Op.ae [.ptr H.au 0] D=B1 (.int .i64 m.k):=λ g=>zh (xf g) 0;have ldc:∀{D:ar},D.get H.au=B1 (OR (ao m) xr)->Op.ae [.ptr H.au 1] D=B1 (.int .i64 m.core):=λ g=>zh (xf g) 1;have p:∀{D:ar},D.get H.au=B1 (OR (ao m) xr)->Op.ae [.ptr H.au 2] D=B1 (.int .i64 m.line):=λ g=>zh (xf g) 2;have ldm:∀{D:ar},D.get H.au=B1 (OR (ao m) xr)->Op.av 11 [.ptr H.au 0] D=B1 (.agg (ao m)):=λ g=>fq g (zn m);have ldd:∀{D:ar},D.get H.au=B1 (OR (ao m) xr)->Op.av 8 [.ptr H.au 3] D=B1 (.agg (dy m.d)):=λ g=>by
  rw[tT (xf g) (by rw[zn];decide)];have⟨k,co,l,⟨d,hd⟩⟩:=m
  match d,hd with
  |[d0,d1,d2,d3,d4,d5,d6,d7],_=>rfl
 have h1:=h.em f1;simp only[aa,bc,w0,<-e1,w2,vg,w10,qv,h1.l2,p g1];refine C3.q (SZ h1.ca U m.line) λ v I⟨J,f2⟩=>?_;rw[J,wo];obtain⟨x,hx⟩:∃x,x=(n.c.find m.line).getD .zero:=⟨_,rfl⟩
 rw[<-hx];obtain⟨H3,e3⟩:∃X,X=(I.alloc (OR (aD .zero) xv)).set I.au (OR (aD x) xv):=⟨_,rfl⟩
 have f3:Fr Em I H3:=by rw[e3];exact yH _ _
 have f03:Fr Em H H3:=(f1.trans f2 λ _ q=>q.elim).trans f3 λ _ q=>q.elim;have n2:=f2.au;have n3:H3.au=I.au+1:=by rw[e3];rfl
 have x3:H3.get I.au=B1 (OR (aD x) xv):=by rw[e3,xj]
 have g3:H3.get H.au=B1 (OR (ao m) xr):=by rw[f3.ah _ (by omega) id,f2.ah _ (by omega) id];exact g1
 have h3:=h.em f03;have ldx:∀{D:ar},D.get I.au=B1 (OR (aD x) xv)->Op.av 21 [.ptr I.au 0] D=B1 (.agg (aD x)):=λ g=>fq g (jx x);simp only[aa,bc,xp,eZ,jS,<-e3]
 -- what is not heard
 have no:∀{e:Int},(m.core≠n.core\/m.line<0\/n.lines<=m.line \/ ¬n.jR m ((n.c.find m.line).getD .zero)) -> ∀{H':ar},Fr Em H H'->uV H0 H r b sv bv (n.bO m) (.tuple [.nils,.int .i64 e]) H':=by
  intro e q H' f;have O:n.bO m=(n,[]):=by unfold No.bO;rw[xb q]
  rw[O];exact⟨⟨.nils,_,rfl,mL.nil ..⟩,h.same f⟩
 by_cases q1:m.core=n.core
 case neg =>
  simp only[aa,bc,w12,ldc g3,qv,h3.l0,q1];exact no (.inl q1) f03
 by_cases q2:m.line<0
 .simp only[aa,bc,w12,ldc g3,qv,h3.l0,xg q1,p g3,q2];exact no (.inr (.inl q2)) f03
 by_cases Y:n.lines<=m.line
 .simp only[aa,bc,w12,ldc g3,qv,h3.l0,xg q1,p g3,q2,h3.l1,Y];exact no (.inr (.inr (.inl Y))) f03
 simp only[aa,bc,w12,ldc g3,qv,h3.l0,xg q1,p g3,q2,h3.l1,Y,ldm g3,ldx x3];refine C3.q (xcq h3 hk m x) λ v H4⟨J,f4⟩=>?_;rw[J];have Q:Fr Em H H4:=f03.trans f4 λ _ q=>q.elim;have n4:=f4.au;have h4:=h.em Q;have R:H4.get H.au=B1 (OR (ao m) xr):=by rw[f4.ah _ (by omega) id];exact g3
 have x4:H4.get I.au=B1 (OR (aD x) xv):=by rw[f4.ah _ (by omega) id];exact x3
 by_cases q4:n.jR m x
 case neg =>
  simp only[aa,bc,kw q4];exact no (.inr (.inr (.inr (by rw[<-hx];exact q4)))) Q
 have hn:¬(m.core≠n.core\/m.line<0\/n.lines<=m.line \/ ¬n.jR m ((n.c.find m.line).getD .zero)):=by
  rw[<-hx];rintro(w|w|w|w)
  .exact w q1
  .exact q2 w
  .exact Y w
  .exact w q4
 rw[ku q4]
 -- the words that a message has
 have S:∀{k line:Int}{d:L8}{D:ar}{a:Nat},D.get a=B1 (OR (ao ⟨k,n.core,line,.zero⟩) xr)->Op.store 8 [.ptr a 3,.agg (dy d)] D=B1 (.undef,D.set a (OR (ao ⟨k,n.core,line,d⟩) xr)):=λ{k line d D a}g=>by
  have s6:=wW g (o:=3) (n:=8) (v:=.agg (dy d)) (by rw[z7];exact lj _) (by rw[zn];decide) (by rw[z7];exact Ae _);rw[Vm]at s6;exact s6
 by_cases s:m.k=11
 .have O:n.bO m=({n.lost x B4 with c:=((n.lost x B4).c.drop m.line).1},[n.msg 4 m.line]):=by
   unfold No.bO;rw[qt hn,xb s,<-hx]
  rw[O];simp only[aa,bc,Z,G R,xg s,ldx x4];refine C3.q (Yh h4 x B4) λ _ j⟨K,A⟩=>?_;have n5:=A.au;have T:j.get H.au=B1 (OR (ao m) xr):=by rw[A.ah _ (by omega) (off _ (by omega))];exact R
  simp only[aa,bc,qv,K.l2,p T];refine C3.q (Zz K.ca (Vw U) m.line) λ _ C⟨_,L,z⟩=>?_;have g6:C.get H.au=B1 (OR (ao m) xr):=by rw[z.ah _ (by omega) (P _ (by omega))];exact T
  have hn6:=K.iI L z (by rw[(Ny ..).1];exact K.len);simp only[aa,bc,p g6];refine C3.q (Gc hn6 4 m.line) λ v H7⟨J,F⟩=>?_;rw[J];have n6:=z.au;have n7:=F.au;have em:No.msg {n.lost x B4 with c:=((n.lost x B4).c.drop m.line).1} 4 m.line=n.msg 4 m.line:=by unfold No.msg;rw[show(No.core {n.lost x B4 with c:=((n.lost x B4).c.drop m.line).1})=n.core from(Gq (n:=n) x B4).2.1]
  rw[em];simp only[aa,bc,mZ,AR];exact⟨⟨_,_,rfl,MG _ (by omega)⟩,rX.of ((hn6.em F).em ((Fr.refl _).alloc _)) (jZ (jZ (nq Q) A) ((jZ (wR z) (nq F)).alloc _))⟩
 by_cases i:m.k=12\/m.k=13
 .have t13:¬(13:Int)=11:=by decide
  -- a recall
  have rec41:∀{E:Env},lk E 0=B1 (.ptr r 0)->lk E 3=B1 (.ptr H.au 0)->lk E 6=B1 (.ptr I.au 0)->lk E 7=B1 (.bool (n.c.find m.line).isSome) ->
   W M ⟨B5,vm⟩ (OD 41) B4 (eU 0 (fg (W M ⟨B5,vm⟩ (OD 73)) (eX M [.tmp 4,.tmp 5] (vK (uV H0 H r b sv bv (n.bO m)))))) E [] H4:=by
   intro E q0 Y q6 q7;cases hf:n.c.find m.line with
   |none =>
    have O:n.bO m=(n,[n.msg 6 m.line]):=by
     unfold No.bO;rw[qt hn,qt s,xb i,hf]
    rw[O];rw[hf]at q7;have q7:lk E 7=B1 (.bool B2):=q7;simp only[aa,bc,w41,q7,q0,Y,p R];refine C3.q (Gc h4 6 m.line) λ v j⟨J,A⟩=>?_;rw[J];have n5:=A.au;simp only[aa,bc,mZ,AR];exact⟨⟨_,_,rfl,MG _ (by omega)⟩,h.same ((Q.trans A λ _ q=>q.elim).alloc _)⟩
   |some x' =>
    have exx:x=x':=by rw[hx,hf];rfl
    subst exx;rw[hf]at q7;have q7:lk E 7=B1 (.bool B4):=q7
    -- behind the loss
    have go:∀{too:Bool}{j:ar},(too=B4↔m.k=13)->dc H0 j r b sv bv (n.lost x too) ks->Fr (iK r b sv bv) H4 j -> ∀{E:Env},lk E 0=B1 (.ptr r 0)->lk E 3=B1 (.ptr H.au 0)->lk E 6=B1 (.ptr I.au 0)->lk E 8=B1 (.ptr j.au 0) ->
     ∀{C:ar},C=(j.alloc (OR (ao ⟨0,0,0,.zero⟩) xr)).set j.au (OR (ao (n.msg 5 m.line)) xr) ->
     W M ⟨B5,vm⟩ (OD 53) B4 (eU 0 (fg (W M ⟨B5,vm⟩ (OD 73)) (eX M [.tmp 4,.tmp 5] (vK (uV H0 H r b sv bv (n.bO m)))))) E [] C:=by
     intro too j ht K A E q0 Y q6 q8 C e6;have n5:=A.au;have z:Fr Em j C:=by rw[e6];exact yH _ _
     have n6:C.au=j.au+1:=by rw[e6];rfl
     have L:=K.em z;have T:j.get H.au=B1 (OR (ao m) xr):=by rw[A.ah _ (by omega) (off _ (by omega))];exact R
     have g6:C.get H.au=B1 (OR (ao m) xr):=by rw[z.ah _ (by omega) id];exact T
     have x5:j.get I.au=B1 (OR (aD x) xv):=by rw[A.ah _ (by omega) (off _ (by omega))];exact x4
     have x6:C.get I.au=B1 (OR (aD x) xv):=by rw[z.ah _ (by omega) id];exact x5
     have b6:C.get j.au=B1 (OR (ao (n.msg 5 m.line)) xr):=by rw[e6,xj]
     have f06:Fr (iK r b sv bv) H C:=jZ (jZ (nq Q) A) (nq z)
     -- the answer
     have out:∀{d:L8}{n':No}{N:ar},n.bO m=(n',[⟨5,n.core,m.line,d⟩])->dc H0 N r b sv bv n' ks->Fr (iK r b sv bv) H N->C.au<=N.au -> ∀{E:Env},lk E 8=B1 (.ptr j.au 0) ->
      W M ⟨B5,vm⟩ (OD 61) B4 (eU 0 (fg (W M ⟨B5,vm⟩ (OD 73)) (eX M [.tmp 4,.tmp 5] (vK (uV H0 H r b sv bv (n.bO m)))))) E [] (N.set j.au (OR (ao ⟨5,n.core,m.line,d⟩) xr)):=by
      intro d n' N O h8 f8 n8 E q8;rw[O];have ld:=fq (xj N j.au (OR (ao ⟨5,n.core,m.line,d⟩) xr)) (zn _);simp only[aa,bc,w61,q8,ld,mZ,AR];have f9:Fr (On j.au) N (N.set j.au (OR (ao ⟨5,n.core,m.line,d⟩) xr)):=(Fr.refl N).set (W:=On j.au) (.inl rfl) _;have h9:=h8.off f9 (λ x(hx:x=j.au)=>by rw[hx];exact⟨by have:=h.bk.fr.au;omega,off _ (by omega)⟩);exact⟨⟨_,_,rfl,MG _ (by rw[qI];omega)⟩,rX.of (h9.em ((Fr.refl _).alloc _)) ((f8.set (.inr (by omega)) _).alloc _)⟩
     by_cases B:m.k=12
     .have et:too=false:=by cases too with|false=>rfl|true=>have:=ht.1 rfl;omega
      subst et;have O:n.bO m=({n.lost x B2 with c:=((n.lost x B2).c.cR m.line).1},[⟨5,n.core,m.line,((n.lost x B2).c.cR m.line).2⟩]):=by
       unfold No.bO;rw[qt hn,qt s,xb i,hf];show(if m.k=12 then _ else _)=_;rw[xb B]
      simp only[aa,bc,w53,q0,Y,G g6,xg B,qv,L.l2,p g6];refine C3.q (xem L.ca (Vw U) m.line) λ v H7⟨J,h7,F⟩=>?_;rw[J];unfold tG;have n7:=F.au;have b7:H7.get j.au=B1 (OR (ao (n.msg 5 m.line)) xr):=by rw[F.ah _ (by omega) (P _ (by omega))];exact b6
      have hn7:=L.iI h7 F (by rw[(xbt ..).1];exact L.len);simp only[aa,bc,xp,q8,S b7];exact out O hn7 (jZ f06 (wR F)) (by omega) q8
     .have u:m.k=13:=by omega
      have et:too=true:=ht.2 u;subst et;have O:n.bO m=({n.lost x B4 with c:=((n.lost x B4).c.drop m.line).1},[⟨5,n.core,m.line,((n.lost x B4).c.drop m.line).2.d⟩]):=by
       unfold No.bO;rw[qt hn,qt s,xb i,hf];show(if m.k=12 then _ else _)=_;rw[qt B]
      simp only[aa,bc,w53,q0,Y,G g6,B,qv,L.l2,p g6];refine C3.q (Zz L.ca (Vw U) m.line) λ v H7⟨J,h7,F⟩=>?_;rw[J];unfold yP;have n7:=F.au;have b7:H7.get j.au=B1 (OR (ao (n.msg 5 m.line)) xr):=by rw[F.ah _ (by omega) (P _ (by omega))];exact b6
      have x7:H7.get I.au=B1 (OR (aD x) xv):=by rw[F.ah _ (by omega) (P _ (by omega))];exact x6
      have hn7:=L.iI h7 F (by rw[(Ny ..).1];exact L.len);have s8:=iv x7 (jx _) (jx ((n.lost x B4).c.drop m.line).2) (zY _);obtain⟨N,e8⟩:∃X,X=H7.set I.au (OR (aD ((n.lost x B4).c.drop m.line).2) xv):=⟨_,rfl⟩
      rw[<-e8]at s8;have f8:Fr (On I.au) H7 N:=by rw[e8];exact(Fr.refl H7).set (W:=On I.au) (.inl rfl) _
      have x8:N.get I.au=B1 (OR (aD ((n.lost x B4).c.drop m.line).2) xv):=by rw[e8,xj]
      have b8:N.get j.au=B1 (OR (ao (n.msg 5 m.line)) xr):=by rw[f8.ah _ (by omega) (λ(q:j.au=I.au)=>by omega)];exact b7
      have ld8:Op.av 8 [.ptr I.au 4] N=B1 (.agg (dy ((n.lost x B4).c.drop m.line).2.d)):=by rw[tT (xf x8) (by rw[jx];decide),DY]
      have hn8:=hn7.off f8 (λ x(hx:x=I.au)=>by rw[hx];exact⟨by have:=h.bk.fr.au;omega,off _ (by omega)⟩);have f78:Fr (iK r b sv bv) H N:=by rw[e8];exact(jZ f06 (wR F)).set (.inr (by omega)) _
      simp only[aa,bc,xp,q6,q8,s8,ld8,S b8];exact out O hn8 f78 (by have:=f8.au;omega) q8
    by_cases B:m.k=12
    .have u:¬m.k=13:=by omega
     simp only[aa,bc,w41,q7,w49,q0,Y,q6,ldx x4,G R,u];refine C3.q (Yh h4 x B2) λ _ j⟨K,A⟩=>?_;have n5:=A.au;have T:j.get H.au=B1 (OR (ao m) xr):=by rw[A.ah _ (by omega) (off _ (by omega))];exact R
     simp only[aa,bc,p T];refine C3.q (Gc K 5 m.line) λ v C⟨J,z⟩=>?_;have em:(n.lost x B2).msg 5 m.line=n.msg 5 m.line:=by unfold No.msg;rw[(Gq (n:=n) x B2).2.1]
     rw[J,em];have s6:=iv (xt C (OR (ao ⟨0,0,0,.zero⟩) xr)) (zn _) (zn (n.msg 5 m.line)) (rR _);simp only[aa,bc,mZ,s6];refine go (too:=B2) ⟨λ q=>(by cases q),λ q=>absurd q u⟩ (K.em z) (jZ A (nq z)) ?_ ?_ ?_ ?_ ?_
     .exact q0
     .exact Y
     .exact q6
     .rfl
     .rfl
    .have u:m.k=13:=by omega
     simp only[aa,bc,w41,q7,w49,q0,Y,q6,ldx x4,G R,xg u];refine C3.q (Yh h4 x B4) λ _ j⟨K,A⟩=>?_;have n5:=A.au;have T:j.get H.au=B1 (OR (ao m) xr):=by rw[A.ah _ (by omega) (off _ (by omega))];exact R
     simp only[aa,bc,p T];refine C3.q (Gc K 5 m.line) λ v C⟨J,z⟩=>?_;have em:(n.lost x B4).msg 5 m.line=n.msg 5 m.line:=by unfold No.msg;rw[(Gq (n:=n) x B4).2.1]
     rw[J,em];have s6:=iv (xt C (OR (ao ⟨0,0,0,.zero⟩) xr)) (zn _) (zn (n.msg 5 m.line)) (rR _);simp only[aa,bc,mZ,s6];refine go (too:=B4) ⟨λ _=>u,λ _=>rfl⟩ (K.em z) (jZ A (nq z)) ?_ ?_ ?_ ?_ ?_
     .exact q0
     .exact Y
     .exact q6
     .rfl
     .rfl
  by_cases B:m.k=12
  .simp only[aa,bc,Z,G R,s,w34,xg B,w40];exact rec41 rfl rfl rfl rfl
  .have u:m.k=13:=by omega
   simp only[aa,bc,Z,G R,s,w34,B,xg u,w40];exact rec41 rfl rfl rfl rfl
 have B:¬m.k=12:=λ q=>i (.inl q);have u:¬m.k=13:=λ q=>i (.inr q)
 by_cases V:m.k=16
 .have O:n.bO m=({n with aK:=n.aK.filter (· ≠m.line)},[]):=by
   unfold No.bO;rw[qt hn,qt s,qt i,xb V]
  rw[O];have hkl:=h.kl;simp only[aa,bc,Z,G R,s,w34,B,u,w40,xg V,qv,h4.vM];refine C3.q (xel (t:=H.au) (line:=m.line) (λ f=>p (by rw[f.ah _ (by omega) λ q=>by have:=hbf _ q;omega];exact R)) h4.bk (by omega)) λ v j⟨hs,A,w5⟩=>?_;have⟨C,s6,L,z⟩:=h4.Ki hs A (λ x q=>.inl (w5 x q));simp only[aa,bc,s6];rw[ER,<-h.eq]at L;exact⟨⟨_,_,rfl,mL.nil ..⟩,v,_,L,jZ (nq Q) z,λ x q=>.inl (w5 x q)⟩
 -- what was asked for
 have⟨j,s5,K,A⟩:=h4.BW ⟨0,0,0,.zero⟩;have n5:=A.au;have T:j.get H.au=B1 (OR (ao m) xr):=by rw[A.ah _ (by omega) (λ(q:H.au=r)=>by omega)];exact R
 have f05:Fr (iK r b sv bv) H j:=jZ (nq Q) (KW A);cases hf:n.c.find m.line with
 |some x' =>
  have O:n.bO m=({n with out:=⟨0,0,0,.zero⟩,c:=n.c.cQ m.line m.d},[n.msg 7 m.line]):=by
   unfold No.bO;rw[qt hn,qt s,qt i,qt V,hf]
  rw[O];simp only[aa,bc,Z,G R,s,w34,B,u,w40,V,w73,mZ,Ah,qv,s5,w75,vx,K.l2,p T,ldd T];refine C3.q (xc8 K.ca U m.line m.d) λ _ C⟨L,z⟩=>?_;have g6:C.get H.au=B1 (OR (ao m) xr):=by rw[z.ah _ (by omega) (P _ (by omega))];exact T
  have hn6:=K.iI L z (by rw[(q8h ..).1];exact K.len);simp only[aa,bc,p g6];refine C3.q (Gc hn6 7 m.line) λ v H7⟨J,F⟩=>?_;rw[J];have n6:=z.au;have n7:=F.au;simp only[aa,bc,AR];exact⟨⟨_,_,rfl,MG _ (by omega)⟩,rX.of ((hn6.em F).em ((Fr.refl _).alloc _)) (jZ f05 ((jZ (wR z) (nq F)).alloc _))⟩
 |none =>
  have O:n.bO m=((No.fill {n with out:=⟨0,0,0,.zero⟩} m).1,(No.fill {n with out:=⟨0,0,0,.zero⟩} m).2 ++ [n.msg 7 m.line]):=by
   unfold No.bO;rw[qt hn,qt s,qt i,qt V,hf]
  rw[O];simp only[aa,bc,Z,G R,s,w34,B,u,w40,V,w73,mZ,Ah,qv,s5,w75,LZ,w85,ldm T];refine C3.q (xi6 K U hk hu m (by omega)) λ v C⟨hm6,bv',ks',L,z,w6⟩=>?_;have n6:=z.au;have g6:C.get H.au=B1 (OR (ao m) xr):=by rw[z.ah _ (by omega) (off _ (by omega))];exact T
  simp only[aa,bc,p g6];refine C3.q (Gc L 7 m.line) λ v H7⟨J,F⟩=>?_;have ec:(No.fill {n with out:=⟨0,0,0,.zero⟩} m).1.core=n.core:=xln _ m;have em:(No.fill {n with out:=⟨0,0,0,.zero⟩} m).1.msg 7 m.line=n.msg 7 m.line:=by unfold No.msg;rw[ec]
  rw[J,em];simp only[aa,bc,AR];have n7:=F.au;refine M7 (H:=j) (m:=n.msg 7 m.line) (hm6.em (F.alloc _)) (Ku _) (by rw[zg];omega) λ v2 N hms f8=>?_;simp only[aa,bc];have f68:Fr Em C N:=(F.alloc _).trans f8 λ _ q=>q.elim;exact⟨⟨_,_,rfl,hms.1,λ q=>by have:=hms.2 q;omega⟩,bv',ks',L.em f68,jZ f05 (jZ z (nq f68)),λ x q=>(w6 x q).imp id λ w=>by omega⟩
end
end Go.Am
namespace Go.Am
open Go.Proofs Ca
open Lang (ints)
variable{M:ak}[MK M]
section
variable{H0 H:ar}{r b:Nat}{sv bv:AV}{n:No}{ks:List Nat}
def Dl{lines line:Int}{c:Ca}(h:CI lines c):0<=(c.drop line).2.line:=by
 unfold Ca.drop;cases hp:c.lF line 0 with
 |none=>exact vJ _
 |some i =>
  rw[sI]at hp;obtain⟨a,d,e,hl,-⟩:=h.bA hp;show 0<=(c.en i).line;rw[hl];exact a
end
end Go.Am
namespace Go.Am
open Go.Proofs Ca
open Lang (ints)
variable{M:ak}[MK M]
structure Bd(n n':No):Prop where
 bk:n'.aK.length<=n.aK.length+1
 us:n'.c.us<=n.c.us+2
section
variable{n:No}
def K_(n:No)(x:En):(n.gone x).1.aK.length<=n.aK.length+1/\(n.gone x).1.c=n.c:=by
 unfold No.gone;split
 .exact ⟨by show(n.aK ++ [x.line]).length<=_;rw[xe];exact qm _,rfl⟩
 .exact ⟨ke _,rfl⟩
def z_(n:No)(m:Mg)(st:Int):(n.dP m st).1.aK.length<=n.aK.length+1/\(n.dP m st).1.c.us<=n.c.us+1:=by
 have h:=(XY n.c m.line st m.d).2;unfold No.dP;split
 .obtain ⟨a,b⟩:=K_ {n with c:=(n.c.fill m.line st m.d).1} (n.c.fill m.line st m.d).2.1;exact⟨a,by rw[b];show(n.c.fill m.line st m.d).1.us<=_;omega⟩
 .exact ⟨ke _,by show(n.c.fill m.line st m.d).1.us<=_;omega⟩
def GN(n:No)(m:Mg):Bd n (n.fill m).1:=by
 unfold No.fill;generalize(if m.k=15 then(2:Int)else 1)=st;unfold No.kV;split
 .obtain ⟨a,b⟩:=z_ (n.iW 3) m st;have e:(n.iW 3).c.us=n.c.us:=rfl;exact⟨a,by omega⟩
 .obtain ⟨a,b⟩:=z_ n m st;exact⟨a,by omega⟩
def Bd.refl(n:No):Bd n n:=⟨by omega,by omega⟩
def U0(n:No)(k line:Int):Bd n (n.ask k line).1:=by
 unfold No.ask;split
 .exact Bd.refl n
 .exact ⟨ke _,by show n.c.us<=_;omega⟩
def Is(n:No)(m:Mg):Bd n (n.bO m).1:=by
 unfold No.bO;split
 .exact Bd.refl n
 split
 .exact ⟨by show(n.lost _ B4).aK.length<=_;rw[(Gq _ B4).1];omega,by show(Ca.drop _ _).1.us<=_;rw[(Ny ..).2,(Gq _ B4).2.2.2];omega⟩
 split
 .cases n.c.find m.line with
  |none=>exact Bd.refl n
  |some x =>
   show Bd n (Prod.fst (if m.k=12 then _ else _));split
   .exact ⟨by show(n.lost _ B2).aK.length<=_;rw[(Gq _ B2).1];omega,by show(Ca.cR _ _).1.us<=_;rw[(xbt ..).2,(Gq _ B2).2.2.2];omega⟩
   .exact ⟨by show(n.lost _ B4).aK.length<=_;rw[(Gq _ B4).1];omega,by show(Ca.drop _ _).1.us<=_;rw[(Ny ..).2,(Gq _ B4).2.2.2];omega⟩
 split
 .exact ⟨by show(n.aK.filter _).length<=_;have:=List.length_filter_le (λ x=>decide (x≠m.line)) n.aK;omega,by show n.c.us<=_;omega⟩
 .cases n.c.find m.line with
  |some x=>exact⟨ke _,by show(n.c.cQ m.line m.d).us<=_;rw[(q8h ..).2];omega⟩
  |none =>
   obtain⟨a,b⟩:=GN {n with out:=⟨0,0,0,.zero⟩} m;exact⟨a,b⟩
def Gp(n:No)(line:Int):Bd n (n.da line).1:=by
 unfold No.da;split
 .exact Bd.refl n
 .cases n.c.find line with
  |none=>exact Bd.refl n
  |some x =>
   have e:∀n':No,n'.aK=n.aK->n'.c.us=n.c.us->Bd n (No.gone {n' with c:=(n'.c.drop line).1} (n'.c.drop line).2).1:=λ n' e1 e2=>by
    obtain⟨a,b⟩:=K_ {n' with c:=(n'.c.drop line).1} (n'.c.drop line).2;refine⟨by rw[<-e1];exact a,?_⟩;rw[b];show(n'.c.drop line).1.us<=_;rw[(Ny ..).2,e2];omega
   show Bd n (No.gone _ _).1
   by_cases q:(x.r ||x.w)=B4
   .simp only[xb q];exact e (n.iW 4) rfl rfl
   .simp only[qt q];exact e n rfl rfl
def Gs(n:No)(a:Int):Bd n (n.load a).1:=by
 unfold No.load;split
 .cases n.c.find (No.ln a)with
  |none=>exact U0 ..
  |some x =>
   refine⟨ke _,?_⟩;show((if n.live=B4 then n.c.mark (No.ln a) B2 else n.c).word a.toNat).1.us<=_;have d:=(Qv (if n.live=B4 then n.c.mark (No.ln a) B2 else n.c) a.toNat).2;have e:(if n.live=B4 then n.c.mark (No.ln a) B2 else n.c).us=n.c.us:=by split;exact(SB ..).1;rfl
   omega
 .exact Bd.refl n
def Ee(n:No)(a y:Int):Bd n (n.store a y).1:=by
 unfold No.store;split
 .split
  .refine ⟨ke _,?_⟩;show((if n.live=B4 then n.c.mark (No.ln a) B4 else n.c).put a.toNat y).us<=_;have d:=(SA (if n.live=B4 then n.c.mark (No.ln a) B4 else n.c) a.toNat y).2;have e:(if n.live=B4 then n.c.mark (No.ln a) B4 else n.c).us=n.c.us:=by split;exact(SB ..).1;rfl
   omega
  .exact U0 ..
 .exact Bd.refl n
def M3(n:No)(a o y:Int):Bd n (n.nj a o y).1:=by
 unfold No.nj;split
 .split
  .exact Bd.refl n
  .split
   .refine ⟨ke _,?_⟩;have d:=(Qv n.c a.toNat).2;show(if(n.c.word a.toNat).2.getD 0=o then(n.c.word a.toNat).1.put a.toNat y else(n.c.word a.toNat).1).us<=_;split
    .have e:=(SA (n.c.word a.toNat).1 a.toNat y).2;omega
    .omega
   .exact U0 ..
 .exact Bd.refl n
end
def pM(core lines s w:Int):No:=⟨core,lines,pJ s.toNat w.toNat,⟨0,0,0,.zero⟩,[],B2,0⟩
def wP(core lines cores s w:Int):Prop:=sy s w/\0<=core/\core<cores/\cores<=4/\2<=lines/\lines<=64
def af2{core lines cores s w:Int}(h:wP core lines cores s w):(pM core lines s w).NI:=by
 obtain⟨⟨a,b,c,d⟩,-⟩:=h;exact⟨Ft lines (by omega) (by omega),λ _=>xff s.toNat w.toNat⟩
def eE(lines cores s w:Int):List AV:=[.int .i64 lines,.int .i64 cores,.int .i64 s,.int .i64 w]
def UX(core lines:Int)(b:Nat)(s w:Int):Op.build [.int .i64 0,.int .i64 0,.nilp,.int .i64 0,.int .i64 0,.int .i64 0,.int .u64 0,.int .u64 0,.int .u64 0,.int .u64 0,.int .u64 0,.int .u64 0,.int .u64 0,.int .u64 0,.nils,.bool B2,.int .i64 0] [(0,1),(1,1),(2,1)] [.int .i64 core,.int .i64 lines,.ptr b 0]=B1 (.agg (rP (pM core lines s w) b .nils)):=rfl
def Eb(H:ar)(core lines cores s w:Int)(v:AV)(H':ar):Prop:=(¬wP core lines cores s w/\v=.tuple [.nilp,.int .i64 2]/\Fr Em H H')\/wP core lines cores s w /\ ∃r b sv,v=.tuple [.ptr r 0,.int .i64 0]/\dc H H' r b sv .nils (pM core lines s w) []
def xcz{H:ar}(core lines cores s w:Int):zk M YH [.int .i64 core,.agg (eE lines cores s w)] H (Eb H core lines cores s w):=by
 refine xi7 ?_;obtain⟨w0,w4,p⟩:=xi8 M ⟨B5,YH⟩;obtain⟨H1,e1,z,n1,l⟩:=cE H (OR (eE lines cores s w) AJ);have l2:Op.ae [.ptr H.au 2] H1=B1 (.int .i64 s):=zh (xf l) 2;have l3:Op.ae [.ptr H.au 3] H1=B1 (.int .i64 w):=zh (xf l) 3;simp only[aa,bc,w0,<-e1,l2,l3];refine C3.q (xiy (M:=M) s w) λ v f⟨t,h⟩=>?_;have x:f.get H.au=B1 (OR (eE lines cores s w) AJ):=by rw[t.ah _ (by omega) id];exact l
 have l0:Op.ae [.ptr H.au 0] f=B1 (.int .i64 lines):=zh (xf x) 0;have l1:Op.ae [.ptr H.au 1] f=B1 (.int .i64 cores):=zh (xf x) 1;have e:Fr Em H f:=z.trans t λ _ q=>q.elim;have C:¬(2:Int)=0:=by decide
 have E:=xg (show(0:Int)=0 from rfl);rcases h with⟨hn,h⟩|⟨ho,b,sv,h,m,hb,hs⟩
 .rw [h];simp only[aa,bc,xp,w4,C];exact .inl ⟨λ q=>hn q.1,rfl,e⟩
 rw[h]
 by_cases g:core<0
 .simp only[aa,bc,xp,w4,g];exact .inl ⟨λ q=>by have:=q.2.1;omega,rfl,e⟩
 by_cases i:cores<=core
 .simp only[aa,bc,xp,w4,g,l1,i];exact .inl ⟨λ q=>by have:=q.2.2.1;omega,rfl,e⟩
 by_cases j:4<cores
 .simp only[aa,bc,xp,w4,g,l1,i,j];exact .inl ⟨λ q=>by have:=q.2.2.2.1;omega,rfl,e⟩
 by_cases o:lines<2
 .simp only[aa,bc,xp,w4,g,l1,i,j,l0,o];exact .inl ⟨λ q=>by have:=q.2.2.2.2.1;omega,rfl,e⟩
 by_cases y:64<lines
 .simp only[aa,bc,xp,w4,g,l1,i,j,l0,o,y];exact .inl ⟨λ q=>by have:=q.2.2.2.2.2;omega,rfl,e⟩
 obtain⟨D,k,u,-,-⟩:=cE f (OR (rP (pM core lines s w) b .nils) Qe);simp only[aa,bc,xp,w4,g,l1,i,j,l0,o,y,p,UX core lines b s w,<-k];have A:=m.lt;have B:aC sv<f.au:=m.sl.lt;refine .inr ⟨⟨ho,by omega,by omega,by omega,by omega,by omega⟩,f.au,b,sv,rfl,⟨by rw[k,xt],by rw[k,zg];omega,m.em u,⟨.inl ⟨rfl,rfl⟩,e.trans u λ _ q=>q.elim⟩,rfl,e.au,by omega,by omega,by omega,by omega,λ q=>q.1 rfl,λ q=>q.1 rfl,λ q=>q.1 rfl,⟨by show 2<=lines;omega,by show lines<=64;omega⟩,?_⟩⟩;show(JV (s.toNat*w.toNat) En.zero).length<=40;rw[je];obtain⟨a,b,c,d⟩:=ho;have:=Nat.mul_le_mul (show s.toNat<=8 by omega) (show w.toNat<=4 by omega);omega
end Go.Am
