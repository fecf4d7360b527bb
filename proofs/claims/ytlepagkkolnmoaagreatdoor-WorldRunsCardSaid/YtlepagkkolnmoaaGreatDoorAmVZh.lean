import Derived.Test.YtlepagkkolnmoaaGreatDoorAmVZf
import Derived.Test.YtlepagkkolnmoaaGreatDoorAmVZg
set_option linter.defProp false
set_option linter.unusedVariables false
set_option linter.unusedSimpArgs false
set_option linter.unusedSectionVars false
set_option maxRecDepth 100000
open Bool renaming false→B2,true→B4
open Go renaming IntKind→PD
open List renaming replicate→Jv
open Nat renaming beq→J8,ble→OZ,blt→Pk
open Option renaming none→B5,some→B1
open Nat renaming reduceEqDiff→bc
namespace Go.Am
open Go.Proofs Ca
open Lang (ints)
variable{M:ao}[MK M]
def pU(ks:List Nat)(z:Int):Int:=match dH (λ i=>(ks[i]?.getD 0:Int) == z) ks.length with
 |some i=>i
 |none=>-1
section
variable{H H0:ar}{v:AV}{ks:List Nat}
def T4(h:bM hO 1 H v ks){i:Nat}(c:i<ks.length):Op.aT 1 [v,.int .i64 (i:Int)]=B1 (.ptr (aD v) (cM 1 v i))/\Op.ah [.ptr (aD v) (cM 1 v i)] H=B1 (.int .i64 (ks[i]?.getD 0:Nat)):=by
 have a:ks[i]? = B1 ks[i]:=by simp[c]
 refine⟨h.idx a rfl .i64,?_⟩;rw[h.jA ad9 a (by decide),a];rfl
def xiq(h:bM hO 1 H v ks)(hl:ks.length<=1000000)(z:Int):zj M Zl [v,.int .i64 z] H λ r H'=>r=.int .i64 (pU ks z)/\H'=H:=by
 refine qwj ?_;obtain⟨w0,w2,j,l,d,g⟩:=qwk M ⟨B5,Zl⟩;simp only[ae,bc,w0,w2,h.len];refine dm.intro (λ n E m=>∃i:Nat,E=[(8,.int .i64 (i:Int)),(7,.int .i64 ((ks.length:Nat):Int)),(0,v),(1,.int .i64 z)]/\n=ks.length-i/\i<=ks.length/\m=H /\ ∀k,k<i->((ks[k]?.getD 0:Int) == z)=B2) ?_ ?_
 .exact ⟨_,_,⟨0,rfl,rfl,x9 _,rfl,λ k hk=>by omega⟩,by simp only[ae,bc]⟩
 rintro n E m ⟨i,rfl,rfl,s,rfl,a⟩;rcases xw i ks.length with c|o
 .have f:(i:Int)<((ks.length:Nat):Int):=by omega
  have⟨ix,ld⟩:=T4 h c;have p:ak .i64 ((i:Int)+1)=((i+1:Nat):Int):=by rw[ju (by omega) (by omega)];omega
  by_cases q:z=((ks[i]?.getD 0:Nat):Int)
  .simp only[ae,bc,l,f,d,ix,ld,xf q];unfold pU;rw[N1 c (by simp[<-q]) a]
  .simp only[ae,bc,l,f,d,ix,ld,q,g,p];refine⟨_,_,⟨i+1,rfl,rfl,by omega,λ k hk=>?_⟩,by simp only[ae,bc],by omega⟩
   by_cases e:k=i
   .rw [e];simpa using λ w=>q w.symm
   .exact a k (by omega)
 .have f:¬(i:Int)<((ks.length:Nat):Int):=by omega
  have e:i=ks.length:=by omega
  subst e;simp only[ae,bc,l,f,j];unfold pU;rw[Ni a]
def HM{z:Int}:0<=pU ks z↔z∈ints ks:=by
 unfold pU;cases c:dH (λ i=>(ks[i]?.getD 0:Int) == z) ks.length with
 |some i =>
  obtain⟨a,b,-⟩:=Lg c;refine⟨λ _=>?_,λ _=>by show(0:Int)<=(i:Nat);omega⟩;have f:ks[i]? = B1 ks[i]:=by simp[a]
  rw[f]at b;have b:((ks[i]:Nat):Int)=z:=by simpa using b
  rw[<-b];exact CN.2 ⟨ks[i],zh f,rfl⟩
 |none =>
  refine⟨λ q=>by have q:(0:Int) <= -1:=q;omega,λ q=>?_⟩;exfalso;have⟨k,hk,e⟩:=CN.1 q;have⟨i,d⟩:=KM hk;have:=xcg c i (qo.1 d).1;rw[d]at this;have e:((k:Nat):Int)=z:=e;simp[e]at this
def qvj(h:bM hO 1 H v ks)(hl:ks.length<=1000000)(z:Int):zj M qjg [v,.int .i64 z] H λ r H'=>r=.bool (decide (z∈ints ks))/\H'=H:=by
 refine qrv ?_;simp only[ae,bc,qrw];refine C3.q (xiq h hl z) λ r H1⟨hr,a⟩=>?_;rw[hr,a];simp only[ae,bc];exact congrArg AV.bool (decide_eq_decide.2 HM)
def mu{t:Nat}{line:Int}(x:Int)(hl:Op.ah [.ptr t 2] H=B1 (.int .i64 line)):zj M ZW [.int .i64 x,.ptr t 0] H λ r H'=>r=.bool (decide (x=line))/\H'=H:=by
 refine qwd ?_
 by_cases q:x=line
 .simp only[ae,bc,_v,hl,xf q]
 .simp only[ae,bc,_v,hl,q]
abbrev G7(t:Nat):AV:=.fn (.func ZW) [] [.ptr t 0]
def xe1{t:Nat}{line:Int}(hl:Op.ah [.ptr t 2] H=B1 (.int .i64 line))(h:bM hO 1 H v ks)(hk:ks.length<=1000000):zj M U4 [v,G7 t] H λ r H'=>r=.int .i64 (pU ks line)/\H'=H:=by
 refine qqc ?_;obtain⟨w0,w2,j,m,f,g⟩:=qqd M ⟨B5,U4⟩;simp only[ae,bc,w0,w2,h.len];refine dm.intro (λ n E l=>∃i:Nat,E=[(8,.int .i64 (i:Int)),(7,.int .i64 ((ks.length:Nat):Int)),(0,v),(1,G7 t)]/\n=ks.length-i/\i<=ks.length/\l=H /\ ∀k,k<i->((ks[k]?.getD 0:Int) == line)=B2) ?_ ?_
 .exact ⟨_,_,⟨0,rfl,rfl,x9 _,rfl,λ k hk=>by omega⟩,by simp only[ae,bc]⟩
 rintro n E l ⟨i,rfl,rfl,u,rfl,a⟩;rcases xw i ks.length with c|o
 .have d:(i:Int)<((ks.length:Nat):Int):=by omega
  have⟨ix,ld⟩:=T4 h c;have s:ak .i64 ((i:Int)+1)=((i+1:Nat):Int):=by rw[ju (by omega) (by omega)];omega
  simp only[ae,bc,m,d,f,ix,ld];refine C3.q (mu _ hl) λ r H1⟨hr,p⟩=>?_;rw[hr,p]
  by_cases q:((ks[i]?.getD 0:Nat):Int)=line
  .simp only[ae,bc,q];unfold pU;rw[N1 c (by simp[q]) a]
  .simp only[ae,bc,q,g,s];refine⟨_,_,⟨i+1,rfl,rfl,by omega,λ k hk=>?_⟩,by simp only[ae,bc],by omega⟩
   by_cases e:k=i
   .rw [e];simpa using q
   .exact a k (by omega)
 .have d:¬(i:Int)<((ks.length:Nat):Int):=by omega
  have e:i=ks.length:=by omega
  subst e;simp only[ae,bc,m,d,j];unfold pU;rw[Ni a]
def xlk(ks:List Nat)(rest:List AV){i:Nat}(a:i<ks.length)(y:Nat):(ks.flatMap hO++rest).take i ++ [AV.int .i64 (y:Int)]++(ks.flatMap hO++rest).drop (i+1)=(ks.set i y).flatMap hO++rest:=by
 have hl:=vY ks;rw[ym (by omega),vy (by omega),<-jb];congr 1;rw[Nk,Nk,List.map_set,List.set_eq_take_append_cons_drop,xb (by rw[xu];exact a)];simp
def mT.Au{e:Nat}(h:mT e H0 H v ks){i:Nat}(a:i<ks.length)(y:Nat):∃H',Op.store 1 [.ptr (aD v) (cM 1 v i),.int .i64 (y:Int)] H=B1 (.undef,H')/\mT e H0 H' v (ks.set i y)/\Fr (aM v) H H':=by
 rcases h.own with⟨rfl,rfl⟩|⟨b,m,rest,rfl,f,c,g,j⟩
 .simp at a
 .have st:=q6e j (o:=i) (n:=1) (v:=.int .i64 (y:Int)) rfl (by rw[xc,vY];omega) rfl;have d:AV.cells (.int .i64 (y:Int))=[.int .i64 (y:Int)]:=rfl;rw[d,xlk ks rest a]at st;have ho:cM 1 (AV.gslice b 0 m 1 0 ks.length) i=i:=by simp[cM]
  rw[ho];refine⟨_,st,⟨.inr ⟨b,m,rest,by rw[xq],f,c,by rw[xq];exact g,xg ..⟩,h.fr.set (.inr c) _⟩,(Fr.refl H).set (W:=aM (AV.gslice b 0 m 1 0 ks.length)) (.inl ⟨by simp,rfl⟩) _⟩
def SF:∀n:Nat,gf n [AV.int .i64 0]=(Jv n 0).flatMap hO
 |0=>rfl
 |n+1=>by rw[gf,QD,j0,<-SF n];rfl
def mT.rM{e:Nat}(h:mT e H0 H v ks){k:Nat}(hk:k<=ks.length):∃v2 H',Op.aC 1 [B1 0,B5,B5] [v,.int .i64 (k:Int)]=B1 v2/\Op.cj [.int .i64 0] [v2] H=B1 (.tuple [],H')/\mT e H0 H' v (ks.take k++Jv (ks.length-k) 0)/\Fr (aM v) H H':=by
 rcases h.own with⟨rfl,rfl⟩|⟨b,m,rest,rfl,x,t,C,y⟩
 .have:k=0:=by simpa using hk
  subst this;have i:bound B5 0 0=B1 0:=rfl;refine⟨.nils,H,by simp only[Op.aC,arg,kD,ja,qr,dC,i];rfl,rfl,h,Fr.refl _⟩
 .have e1:∀n,J8 n n=true:=λ n=>by simp
  have g:∀d m,bound B5 d m=B1 d:=λ _ _=>rfl;refine⟨.gslice b (0+k) m 1 (cond (J8 k 0) 0 (0*1)) (ks.length-k),?_⟩;have sl:Op.aC 1 [B1 0,B5,B5] [AV.gslice b 0 m 1 0 ks.length,.int .i64 (k:Int)]=B1 (.gslice b (0+k) m 1 (cond (J8 k 0) 0 (0*1)) (ks.length-k)):=by
   simp only[Op.aC,arg,kD,ja,qr,dC,g,wv (z:=(k:Int)) (k:=k) rfl hk .i64,e1,y8 (show ks.length<=m-0 by omega),y8 (x9 m),jp,xv]
  have hle:(ks.take k).length=k:=by rw[zx];omega
  by_cases p:ks.length-k=0
  .refine ⟨H,sl,?_,?_,Fr.refl _⟩
   .rw [p];rfl
   .have e2:ks.take k++Jv (ks.length-k) 0=ks:=by rw[p,List.replicate_zero,zn,zq (by omega)]
    rw[e2];exact h
  .have l:fI (.gslice b (0+k) m 1 (cond (J8 k 0) 0 (0*1)) (ks.length-k))=B1 (ks.length-k):=rfl;have f:J8 (ks.length-k) 0=false:=by cases s:J8 (ks.length-k) 0 with|false=>rfl|true=>rw[kc]at s;exact absurd s p
   have j:Pk 0 (ks.length-k)=true:=by unfold Pk;exact y8 (by omega)
   have a:Pk (0+k+0) m=true:=by unfold Pk;exact y8 (by omega)
   have he:elemAt 1 (.gslice b (0+k) m 1 (cond (J8 k 0) 0 (0*1)) (ks.length-k)) 0=B1 (b,(0+k)*1+0*1):=by
    simp only[elemAt,j,e1,a,jp,xv]
   have o:H.store b ((0+k)*1+0*1) (gf (ks.length-k) [.int .i64 0])=B1 (H.set b (.grown m 1 ((ks.take k++Jv (ks.length-k) 0).flatMap hO++rest) e (0,0))):=by
    have ha:aS (gf (ks.length-k) [AV.int .i64 0])=true:=by
     rw[SF,vk,Nk];simp[aA]
    have w:eI (0,0) ((0+k)*1+0*1) (cW (gf (ks.length-k) [AV.int .i64 0]))=true:=by simp[eI]
    simp only[ar.store,ha,xv,y,w,Fy];have c:(gf (ks.length-k) [AV.int .i64 0]).length=ks.length-k:=by rw[SF,vY,jc]
    have u:(0+k)*1+0*1=k:=by omega
    have A:(ks.flatMap hO++rest).take k=(ks.take k).flatMap hO:=by
     rw[ym (by rw[vY];exact hk),Nk,Nk,List.map_take]
    have B:(ks.flatMap hO++rest).drop (k+(ks.length-k))=rest:=by
     rw[show k+(ks.length-k)=(ks.flatMap hO).length by rw[vY];omega,List.drop_left]
    rw[u,xb (by rw[c,xc,vY];omega),qr,c,A,B,SF,<-kq]
   refine⟨H.set b (.grown m 1 ((ks.take k++Jv (ks.length-k) 0).flatMap hO++rest) e (0,0)),sl,?_,⟨.inr ⟨b,m,rest,?_,x,t,?_,xg ..⟩,h.fr.set (.inr t) _⟩,(Fr.refl H).set (W:=aM (AV.gslice b 0 m 1 0 ks.length)) (.inl ⟨by simp,rfl⟩) _⟩
   .have q:[AV.int .i64 0].length=1:=rfl;simp only[Op.cj,l,qr,f,zo,q,he,o]
   .rw [xc,hle,jc];congr 1;omega
   .rw [xc,hle,jc];omega
def Al(ks:List Nat)(line:Int):List Nat:=ks.filter λ k=>((k:Nat):Int) != line
def xep{t:Nat}{line:Int}{e:Nat}(hl:∀{m:ar},Fr (aM v) H m->Op.ah [.ptr t 2] m=B1 (.int .i64 line))(h:mT e H0 H v ks)(hk:ks.length<=1000000) :
 zj M XD [v,G7 t] H λ r H'=>mT e H0 H' r (Al ks line)/\Fr (aM v) H H' /\ ∀x,aM r x->aM v x:=by
 refine qo2 ?_;obtain⟨w0,w4,O,Q,B,P,C⟩:=qo3 M ⟨B5,XD⟩;simp only[ae,bc,w0];refine C3.q (xe1 (hl (Fr.refl _)) h.sl hk) λ r H1⟨hr,I⟩=>?_;rw[hr,I];cases F:dH (λ i=>(ks[i]?.getD 0:Int) == line) ks.length with
 |none =>
  have e1:pU ks line = -1:=by unfold pU;rw[F]
  have e2:Al ks line=ks:=by
   unfold Al;rw[List.filter_eq_self];intro k p;have⟨i,o⟩:=KM p;have:=xcg F i (qo.1 o).1;rw[o]at this
   simpa using this
  rw[e1,e2];have R:=xf (show(-1:Int) = -1 from rfl);simp only[ae,bc,w4];exact⟨h,Fr.refl _,λ x q=>q⟩
 |some a =>
  have⟨T,D,U⟩:=Lg F;have e1:pU ks line=(a:Int):=by unfold pU;rw[F]
  rw[e1];have R:¬(a:Int) = -1:=by omega
  have G:ak .i64 ((a:Int)+1)=((a+1:Nat):Int):=by rw[ju (by omega) (by omega)];omega
  -- what is kept of the first ones
  have ai:∀j,(ks.take (j+1)).filter (λ k=>((k:Nat):Int) != line)=(ks.take j).filter (λ k=>((k:Nat):Int) != line)++(match ks[j]? with|none=>[]|some k=>if((k:Nat):Int)=line then[]else[k]):=λ j=>by
   rw[vg,List.filter_append];congr 1;cases ks[j]? with
   |none=>rfl
   |some k=>by_cases q:((k:Nat):Int)=line<;>simp[q]
  have h0:(ks.take a).filter (λ k=>((k:Nat):Int) != line)=ks.take a:=by
   rw[List.filter_eq_self];intro k p;have⟨i,o⟩:=KM p;rw[yv]at o;split at o
   .rename_i w;have:=U i w;rw[o]at this
    simpa using this
   .cases o
  have A:ks[a]? = B1 ks[a]:=by simp[T]
  have h1:(ks.take (a+1)).filter (λ k=>((k:Nat):Int) != line)=ks.take a:=by
   rw[ai,h0,A];rw[A]at D;have D:((ks[a]:Nat):Int)=line:=by simpa using D
   simp[D]
  simp only[ae,bc,w4,R,O,G];refine dm.intro (λ n E m=>∃(i j:Nat)(c:List Nat),E=[(6,.int .i64 (j:Int)),(5,.int .i64 (i:Int)),(0,v),(1,G7 t)]/\n=ks.length-j/\i<j/\j<=ks.length/\c.length=ks.length/\c.take i=(ks.take j).filter (λ k=>((k:Nat):Int) != line)/\c.drop j=ks.drop j/\mT e H0 m v c/\Fr (aM v) H m) ?_ ?_
  .exact ⟨_,_,⟨a,a+1,ks,rfl,rfl,by omega,by omega,rfl,h1.symm,rfl,h,Fr.refl _⟩,by simp only[ae,bc]⟩
  rintro n E m ⟨i,j,c,rfl,rfl,hij,hj,z,g,y,hs,f⟩;have u:=hs.sl.len;rw[z]at u;rcases xw j ks.length with w|hge
  .have N:(j:Int)<((ks.length:Nat):Int):=by omega
   have⟨ix,ld⟩:=T4 hs.sl (i:=j) (by omega);obtain⟨L,-⟩:=T4 hs.sl (i:=i) (by omega);have K:c[j]? = ks[j]?:=by
    have:=congrArg (λ l=>l[0]?) y
    simpa[yu]using this
   obtain⟨k,s⟩:∃k,ks[j]? = B1 k:=⟨ks[j],by simp[w]⟩
   rw[K,s]at ld;have ld:Op.ah [.ptr (aD v) (cM 1 v j)] m=B1 (.int .i64 (k:Int)):=ld;have G:ak .i64 ((j:Int)+1)=((j+1:Nat):Int):=by rw[ju (by omega) (by omega)];omega
   have wi:ak .i64 ((i:Int)+1)=((i+1:Nat):Int):=by rw[ju (by omega) (by omega)];omega
   have d:∀l:List Nat,l.drop (j+1)=(l.drop j).drop 1:=λ l=>by rw[AF]
   simp only[ae,bc,B,u,N,P,ix,ld];refine C3.q (mu _ (hl f)) λ r H2⟨hr,I⟩=>?_;rw[hr,I]
   by_cases q:(k:Int)=line
   .simp only[ae,bc,xf q,C,G];exact⟨_,_,⟨i,j+1,c,rfl,rfl,by omega,by omega,z,by rw[ai,s,g];simp[q],by rw[d,y,<-d],hs,f⟩,by simp only[ae,bc],by omega⟩
   .have ⟨S,s3,J,f3⟩:=hs.Au (i:=i) (by omega) k;simp only[ae,bc,q,L,s3,wi,C,G];refine⟨_,_,⟨i+1,j+1,c.set i k,rfl,rfl,by omega,by omega,by rw[xq];exact z,?_,?_,J,f.trans f3 λ _ q=>.inl q⟩,by simp only[ae,bc],by omega⟩
    .rw [ai,s,<-g,vg,xx (by omega),List.take_set_of_le (qm i)];simp[q]
    .rw [List.drop_set_of_lt (by omega),d,y,<-d]
  .have N:¬(j:Int)<((ks.length:Nat):Int):=by omega
   have ej:j=ks.length:=by omega
   subst ej;rw[zq (qm _)]at g;have⟨v2,S,V,W,X,Y⟩:=hs.rM (k:=i) (by omega);have⟨v3,d1,d2,d3⟩:=X.cut (k:=i) (by rw[xc,zx,jc];omega) rfl .i64;have Z:(c.take i++Jv (c.length-i) 0).take i=Al ks line:=by
    rw[ym (by rw[zx];omega),List.take_take,Nat.min_self,g];rfl
   rw[Z]at d2;simp only[ae,bc,B,u,N,Q,V,W,d1];exact⟨d2,f.trans Y λ _ q=>.inl q,d3⟩
end
end Go.Am
namespace Go.Am
open Go.Proofs Ca
open Lang (ints)
variable{M:ao}[MK M]
def aq(m:Mg):List AV:=.int .i64 m.k::.int .i64 m.core::.int .i64 m.line::dE m.d
def zk(m:Mg):(aq m).length=11:=by simp[aq,dE,m.d.h]
def rP(m:Mg):aS (aq m)=true:=by rw[vk];simp[aq,dE,aA]
def rQ(n:No)(b:Nat)(bv:AV):List AV:=.int .i64 n.core::.int .i64 n.lines::.ptr b 0::(aq n.out ++ [bv,.bool n.live,.int .i64 n.code])
structure dc(H0 H:ar)(r b:Nat)(sv bv:AV)(n:No)(ks:List Nat):Prop where
 row:H.get r=B1 (OR (rQ n b bv) Rn)
 lt:r<H.au
 ca:d8 H b sv n.c
 bk:mT bY H0 H bv ks
 eq:n.aN=ints ks
 lr:H0.au<=r
 lb:H0.au<=b
 ls:H0.au<=aD sv
 n1:r≠b
 n2:r≠aD sv
 o1:¬aM bv r
 o2:¬aM bv b
 o3:¬aM bv (aD sv)
 li:2<=n.lines/\n.lines<=64
 len:n.c.sl.length<=40
def iK(r b:Nat)(sv bv:AV):Nat->Prop:=λ x=>x=r\/nG b sv x\/aM bv x
def rU(H0 H:ar)(r b:Nat)(sv bv:AV)(n':No)(H':ar):Prop:=∃bv' ks',dc H0 H' r b sv bv' n' ks'/\Fr (iK r b sv bv) H H' /\ ∀x,aM bv' x->aM bv x\/H.au<=x
section
variable{H0 H:ar}{r b:Nat}{sv bv:AV}{n:No}{ks:List Nat}
def dc.em{H':ar}(h:dc H0 H r b sv bv n ks)(f:Fr Em H H'):dc H0 H' r b sv bv n ks :=
 ⟨by rw[f.ai _ h.lt id];exact h.row,qn h.lt f.au,h.ca.em f,h.bk.em f,h.eq,h.lr,h.lb,h.ls,h.n1,h.n2,h.o1,h.o2,h.o3,h.li,h.len⟩
def dc.same(h:dc H0 H r b sv bv n ks){H':ar}(f:Fr Em H H'):rU H0 H r b sv bv n H':=⟨bv,ks,h.em f,f.mono λ _ _ q=>q.elim,λ x q=>.inl q⟩
def Gc(n:No)(b:Nat)(bv:AV):(rQ n b bv)[0]? = B1 (.int .i64 n.core)/\(rQ n b bv)[1]? = B1 (.int .i64 n.lines)/\(rQ n b bv)[2]? = B1 (.ptr b 0)/\(rQ n b bv)[3]? = B1 (.int .i64 n.out.k)/\(rQ n b bv)[14]? = B1 bv/\(rQ n b bv)[15]? = B1 (.bool n.live)/\(rQ n b bv)[16]? = B1 (.int .i64 n.code)/\((rQ n b bv).drop 3).take 11=aq n.out/\(rQ n b bv).length=17:=by
 have⟨core,lines,c,⟨k,co,l,⟨d,a⟩⟩,aN,live,code⟩:=n
 match d,a with
 |[d0,d1,d2,d3,d4,d5,d6,d7],_=>exact⟨rfl,rfl,rfl,rfl,rfl,rfl,rfl,rfl,rfl⟩
def dc.ld(h:dc H0 H r b sv bv n ks)(k:Nat):Op.ah [.ptr r k] H=(rQ n b bv)[k]?:=zg (xe h.row) k
def dc.l0(h:dc H0 H r b sv bv n ks):Op.ah [.ptr r 0] H=B1 (.int .i64 n.core):=(h.ld 0).trans (Gc n b bv).1
def dc.l1(h:dc H0 H r b sv bv n ks):Op.ah [.ptr r 1] H=B1 (.int .i64 n.lines):=(h.ld 1).trans (Gc n b bv).2.1
def dc.l2(h:dc H0 H r b sv bv n ks):Op.ah [.ptr r 2] H=B1 (.ptr b 0):=(h.ld 2).trans (Gc n b bv).2.2.1
def dc.l3(h:dc H0 H r b sv bv n ks):Op.ah [.ptr r 3] H=B1 (.int .i64 n.out.k):=(h.ld 3).trans (Gc n b bv).2.2.2.1
def dc.vP(h:dc H0 H r b sv bv n ks):Op.ah [.ptr r 14] H=B1 bv:=(h.ld 14).trans (Gc n b bv).2.2.2.2.1
def dc.iL(h:dc H0 H r b sv bv n ks):Op.ah [.ptr r 15] H=B1 (.bool n.live):=(h.ld 15).trans (Gc n b bv).2.2.2.2.2.1
def dc.lo(h:dc H0 H r b sv bv n ks):Op.aw 11 [.ptr r 3] H=B1 (.agg (aq n.out)):=by
 obtain⟨-,-,-,-,-,-,-,e,l⟩:=Gc n b bv;rw[tD (xe h.row) (by rw[l];decide),e]
def dc.put(h:dc H0 H r b sv bv n ks){n':No}{o m:Nat}{u:AV}(hu:u.cells.length=m)(ho:aS u.cells=B4)(hm:o+m<=17)(e:(rQ n b bv).take o++u.cells++(rQ n b bv).drop (o+m)=rQ n' b bv)(a:n'.c=n.c)(hb:n'.aN=n.aN)(hl:n'.lines=n.lines) :
 ∃H',Op.store m [.ptr r o,u] H=B1 (.undef,H')/\dc H0 H' r b sv bv n' ks/\Fr (On r) H H':=by
 have st:=wF h.row (o:=o) (n:=m) (v:=u) hu (by rw[(Gc n b bv).2.2.2.2.2.2.2.2];exact hm) ho;rw[e]at st;have f:Fr (On r) H (H.set r (OR (rQ n' b bv) Rn)):=(Fr.refl H).set (W:=On r) (.inl rfl) _;refine⟨_,st,⟨xg ..,h.lt,by rw[a];exact h.ca.fr f (λ(q:b=r)=>h.n1 q.symm) (λ(q:aD sv=r)=>h.n2 q.symm),h.bk.vK f (h.bk.fr.set (.inr h.lr) _) (λ x hx(q:x=r)=>h.o1 (q▸hx)),by rw[hb];exact h.eq,h.lr,h.lb,h.ls,h.n1,h.n2,h.o1,h.o2,h.o3,by rw[hl];exact h.li,by rw[a];exact h.len⟩,f⟩
def dc.td(h:dc H0 H r b sv bv n ks)(q:Bool):∃H',Op.store 1 [.ptr r 15,.bool q] H=B1 (.undef,H')/\dc H0 H' r b sv bv {n with live:=q} ks/\Fr (On r) H H' :=
 h.put (n':={n with live:=q}) (o:=15) (m:=1) (u:=.bool q) rfl rfl (by decide) (by
  have⟨core,lines,c,⟨k,co,l,⟨d,a⟩⟩,aN,live,code⟩:=n
  match d,a with
  |[d0,d1,d2,d3,d4,d5,d6,d7],_=>rfl) rfl rfl rfl
def dc.yI(h:dc H0 H r b sv bv n ks)(k:Int):∃H',Op.store 1 [.ptr r 16,.int .i64 k] H=B1 (.undef,H')/\dc H0 H' r b sv bv {n with code:=k} ks/\Fr (On r) H H' :=
 h.put (n':={n with code:=k}) (o:=16) (m:=1) (u:=.int .i64 k) rfl rfl (by decide) (by
  have⟨core,lines,c,⟨k,co,l,⟨d,a⟩⟩,aN,live,code⟩:=n
  match d,a with
  |[d0,d1,d2,d3,d4,d5,d6,d7],_=>rfl) rfl rfl rfl
def dc.EF(h:dc H0 H r b sv bv n ks)(m:Mg):∃H',Op.store 11 [.ptr r 3,.agg (aq m)] H=B1 (.undef,H')/\dc H0 H' r b sv bv {n with out:=m} ks/\Fr (On r) H H' :=
 h.put (n':={n with out:=m}) (o:=3) (m:=11) (u:=.agg (aq m)) (by rw[z6];exact zk m) (by rw[z6];exact rP m) (by decide) (by
  have⟨core,lines,c,⟨k,co,l,⟨d,f⟩⟩,aN,live,code⟩:=n;have⟨k',co',g,⟨e,a⟩⟩:=m
  match d,f,e,a with
  |[d0,d1,d2,d3,d4,d5,d6,d7],_,[e0,e1,e2,e3,e4,e5,e6,e7],_=>rfl) rfl rfl rfl
def dc.iI(h:dc H0 H r b sv bv n ks){c:Ca}{H':ar}(d:d8 H' b sv c)(f:Fr (nG b sv) H H')(hl:c.sl.length<=40):dc H0 H' r b sv bv {n with c:=c} ks :=
 ⟨by rw[f.ai _ h.lt (λ q=>q.elim h.n1 h.n2)];exact h.row,qn h.lt f.au,d,h.bk.vK f (h.bk.fr.trans f λ x q=>q.elim (λ q=>.inr (by rw[q];exact h.lb)) λ q=>.inr (by rw[q];exact h.ls)) (λ x a q=>q.elim (λ q=>h.o2 (q▸a)) λ q=>h.o3 (q▸a)),h.eq,h.lr,h.lb,h.ls,h.n1,h.n2,h.o1,h.o2,h.o3,h.li,hl⟩
def rU.of{n':No}{H':ar}{a:List Nat}(h:dc H0 H' r b sv bv n' a)(f:Fr (iK r b sv bv) H H'):rU H0 H r b sv bv n' H':=⟨bv,a,h,f,λ x q=>.inl q⟩
def Kr{H1 a:ar}(f:Fr (On r) H1 a):Fr (iK r b sv bv) H1 a:=f.mono λ _ _ q=>.inl q
def xC{H1 a:ar}(f:Fr (nG b sv) H1 a):Fr (iK r b sv bv) H1 a:=f.mono λ _ _ q=>.inr (.inl q)
def nE{H1 a:ar}(f:Fr Em H1 a):Fr (iK r b sv bv) H1 a:=f.mono λ _ _ q=>q.elim
def kA{H1 a c:ar}(f:Fr (iK r b sv bv) H1 a)(g:Fr (iK r b sv bv) a c):Fr (iK r b sv bv) H1 c:=f.trans g λ _ q=>.inl q
def ZB(h:dc H0 H r b sv bv n ks)(a:Int):zj M YP [.ptr r 0,.int .i64 a] H λ v H'=>v=.int .i64 (if n.may a then 0 else 2)/\H'=H:=by
 refine q5p ?_;obtain⟨w0,w2,d⟩:=q5q M ⟨B5,YP⟩;have hl:=h.li;have f:ak .i64 (n.lines*8)=n.lines*8:=ju (by omega) (by omega)
 by_cases c:a<0
 .have hm:¬n.may a:=λ q=>by have:=q.1;omega
  simp only[ae,bc,w0,w2,y9,c];rw[qv hm]
 by_cases e:n.lines*8<=a
 .have hm:¬n.may a:=λ q=>by have:=q.2;omega
  simp only[ae,bc,w0,w2,y9,c,qt,h.l1,f,e];rw[qv hm]
 .have hm:n.may a:=⟨by omega,by omega⟩
  simp only[ae,bc,w0,w2,y9,c,qt,h.l1,f,e,d];rw[xb hm]
def mZ:[AV.int .i64 0,.int .i64 0,.int .i64 0,.int .u64 0,.int .u64 0,.int .u64 0,.int .u64 0,.int .u64 0,.int .u64 0,.int .u64 0,.int .u64 0]=aq ⟨0,0,0,.zero⟩:=rfl
def Ty(k co l:Int):Op.build (aq ⟨0,0,0,.zero⟩) [(0,1),(1,1),(2,1)] [.int .i64 k,.int .i64 co,.int .i64 l]=B1 (.agg (aq ⟨k,co,l,.zero⟩)):=rfl
def FT(h:dc H0 H r b sv bv n ks)(k line:Int):zj M qqq [.ptr r 0,.int .i64 k,.int .i64 line] H λ v H'=>v=.agg (aq (n.msg k line))/\Fr Em H H':=by
 refine q5r ?_;obtain⟨H1,e1,a,-,d⟩:=cI H (OR (aq ⟨0,0,0,.zero⟩) xp);have s1:=ij d (zk _) (zk (n.msg k line)) (rP _);have ld:=fC (xg H1 H.au (OR (aq (n.msg k line)) xp)) (zk _);have c:Op.build (aq ⟨0,0,0,.zero⟩) [(0,1),(1,1),(2,1)] [.int .i64 k,.int .i64 n.core,.int .i64 line]=B1 (.agg (aq (n.msg k line))):=Ty ..;simp only[ae,bc,q5s,mZ,<-e1,qt,(h.em a).l0,c,s1,ld];exact a.set (.inr (qm _)) _
def xl8(h:dc H0 H r b sv bv n ks):zj M wo [.ptr r 0] H λ v H'=>v=.bool n.live/\H'=H:=by
 refine q0o ?_;simp only[ae,bc,q0p,lK,qt,h.iL]
def JV(h:dc H0 H r b sv bv n ks)(k:Int):zj M qnf [.ptr r 0,.int .i64 k] H λ _ H'=>dc H0 H' r b sv bv (n.iT k) ks/\Fr (iK r b sv bv) H H':=by
 refine qx9 ?_;simp only[ae,bc,qya,qt,h.l2];refine C3.q (xb5 h.ca h.len) λ _ H1⟨g,d⟩=>?_;have a:=h.iI g d (by show(n.c.sl.map back).length<=40;rw[xu];exact h.len);have⟨m,s2,i,e⟩:=a.td B2;have⟨o,l,j,f⟩:=i.yI k;simp only[ae,bc,qt,s2,l];exact⟨j,kA (kA (xC d) (Kr e)) (Kr f)⟩
def xhr(h:dc H0 H r b sv bv n ks)(k:Int):zj M YX [.ptr r 0,.int .i64 k] H λ v H'=>v=.int .i64 (n.abort k).2/\dc H0 H' r b sv bv (n.abort k).1 ks/\Fr (iK r b sv bv) H H':=by
 refine qx2 ?_;obtain⟨w0,w2,g,c⟩:=qx3 M ⟨B5,YX⟩;have iL:=h.iL;cases hl:n.live with
 |false =>
  have a:n.abort k=(n,40):=by unfold No.abort;rw[hl];rfl
  rw[hl]at iL;rw[a];simp only[ae,bc,w0,w2,y9,qt,iL];exact⟨h,Fr.refl _⟩
 |true =>
  rw[hl]at iL
  by_cases d:k<1
  .have a:n.abort k=(n,2):=by unfold No.abort;rw[hl,xb rfl,xb (.inl d)]
   rw[a];simp only[ae,bc,w0,w2,y9,qt,iL,c,d];exact⟨h,Fr.refl _⟩
  by_cases f:7<k
  .have a:n.abort k=(n,2):=by unfold No.abort;rw[hl,xb rfl,xb (.inr f)]
   rw[a];simp only[ae,bc,w0,w2,y9,qt,iL,c,d,f];exact⟨h,Fr.refl _⟩
  have a:n.abort k=(n.iT k,0):=by unfold No.abort;rw[hl,xb rfl,qv (by omega)]
  rw[a];simp only[ae,bc,w0,w2,y9,qt,iL,c,d,f,g];refine C3.q (JV h k) λ _ H1⟨e,i⟩=>?_;simp only[ae,bc];exact⟨e,i⟩
end
end Go.Am
namespace Go.Am
open Go.Proofs Ca
open Lang (ints)
variable{M:ao}[MK M]
def mN(H H':ar)(v:AV)(ms:List Mg):Prop:=bM aq 11 H' v ms/\(ms≠[]->H.au<=aD v)
def mN.nil(H H':ar):mN H H' .nils []:=⟨⟨rfl,rfl⟩,λ q=>absurd rfl q⟩
def A6(m:Mg):Op.buildSlice xp 1 (aq ⟨0,0,0,.zero⟩) [(0,11)] [.agg (aq m)]=B1 (OR (aq m) xp,Op.sliceTo 1 1):=Xt xp 11 (aq ⟨0,0,0,.zero⟩) (.agg (aq m)) (zk _) (by rw[z6];exact zk m)
def LR{H:ar}(m:Mg):gW aq xp 11 (H.alloc (OR (aq m) xp)) (Op.sliceTo 1 1 H.au) [m]:=⟨H.au,rfl,by rw[xz];omega,by rw[xr];simp⟩
def Mj{H H0:ar}(m:Mg)(h:H0.au<=H.au):mN H0 (H.alloc (OR (aq m) xp)) (Op.sliceTo 1 1 H.au) [m]:=⟨(LR m).sl zk,λ _=>h⟩
section
variable{H0 H:ar}{r b:Nat}{sv bv:AV}{n:No}{ks:List Nat}
def dc.kl(h:dc H0 H r b sv bv n ks):n.aN.length=ks.length:=by rw[h.eq];unfold ints;rw[xu]
def Yx(h:dc H0 H r b sv bv n ks)(hk:n.aN.length<=900000)(k line:Int):zj M ZE [.ptr r 0,.int .i64 k,.int .i64 line] H λ v H'=>mN H H' v (n.ask k line).2/\dc H0 H' r b sv bv (n.ask k line).1 ks/\Fr (iK r b sv bv) H H':=by
 refine q5n ?_;obtain⟨w0,w2,i⟩:=q5o M ⟨B5,ZE⟩;have p:=h.kl
 by_cases d:n.out.k=0
 .simp only[ae,bc,w0,w2,qt,h.l3,xf d,h.vP];refine C3.q (qvj h.bk.sl (by omega) line) λ v H1⟨g,o⟩=>?_;rw[g,o,<-h.eq]
  by_cases e:line∈n.aN
  .have a:n.ask k line=(n,[]):=by unfold No.ask;rw[xb (.inr e)]
   rw[a];simp only[ae,bc,xf e];exact⟨mN.nil ..,h,Fr.refl _⟩
  .have a:n.ask k line=({n with out:=n.msg k line},[n.msg k line]):=by unfold No.ask;rw[qv (λ q=>q.elim (λ q=>q d) e)]
   rw[a];simp only[ae,bc,e,i];refine C3.q (FT h k line) λ v t⟨g,j⟩=>?_;rw[g];have⟨f,s,l,m⟩:=(h.em j).EF (n.msg k line);have lo:=l.lo;have c:Fr (iK r b sv bv) H f:=kA (nE j) (Kr m);simp only[ae,bc,qt,s,lo,mZ,A6];exact⟨Mj _ c.au,l.em ((Fr.refl f).alloc _),kA c (nE ((Fr.refl f).alloc _))⟩
 .have a:n.ask k line=(n,[]):=by unfold No.ask;rw[xb (.inl d)]
  rw[a];simp only[ae,bc,w0,w2,qt,h.l3,d];exact⟨mN.nil ..,h,Fr.refl _⟩
def jR{H1:ar}(e:En):Op.store 21 [.ptr H1.au 0,.agg (aE e)] (H1.alloc (OR (aE .zero) xt))=B1 (.undef,(H1.alloc (OR (aE .zero) xt)).set H1.au (OR (aE e) xt)):=ij (xr ..) (jt _) (jt e) (Aj e)
def yB{H1:ar}(o o':bF):Fr Em H1 ((H1.alloc o).set H1.au o'):=((Fr.refl H1).alloc _).set (.inr (qm _)) _
def _D{line:Int}(h:dc H0 H r b sv bv n ks)(a:CI n.lines n.c):zj M qng [.ptr r 0,.int .i64 line] H λ v H'=>v=.bool (n.owned line)/\Fr Em H H':=by
 refine qyb ?_;simp only[ae,bc,qyc,qt,h.l2];refine C3.q (TO h.ca a line) λ v H1⟨g,d⟩=>?_;rw[g];unfold tc No.owned;cases i:n.c.find line with
 |none =>
  simp only[ae,bc,xm,eZ,jR];exact d.trans (yB _ _) λ _ q=>q.elim
 |some e =>
  have l1:Op.ah [.ptr H1.au 1] ((H1.alloc (OR (aE .zero) xt)).set H1.au (OR (aE e) xt))=B1 (.int .i64 e.st):=zg (xe (xg ..)) 1;have f:Fr Em H ((H1.alloc (OR (aE .zero) xt)).set H1.au (OR (aE e) xt)):=d.trans (yB _ _) λ _ q=>q.elim
  by_cases q:e.st=2
  .simp only[ae,bc,xm,eZ,jR,l1,xf q];exact⟨by rw[q];rfl,f⟩
  .simp only[ae,bc,xm,eZ,jR,l1,q];exact⟨by simp[q],f⟩
def vH(H0 H:ar)(r b:Nat)(sv bv:AV)(n:No)(ks:List Nat)(a:Int)(v:AV)(H':ar):Prop:=(∃ov,v=.tuple [.int .u64 (n.load a).2.1,.bool (n.load a).2.2.1,ov,.int .i64 (n.load a).2.2.2.2]/\mN H H' ov (n.load a).2.2.2.1)/\dc H0 H' r b sv bv (n.load a).1 ks/\Fr (iK r b sv bv) H H'
def xma(h:dc H0 H r b sv bv n ks)(j:CI n.lines n.c)(hk:n.aN.length<=900000)(hu:n.c.us+1<=1000000)(a:Int):zj M RK [.ptr r 0,.int .i64 a] H (vH H0 H r b sv bv n ks a):=by
 refine q0r ?_;obtain⟨w0,w2,G,I,z,J⟩:=q0s M ⟨B5,RK⟩;simp only[ae,bc,w0,w2];refine C3.q (ZB h a) λ v H1⟨y,S⟩=>?_;rw[y,S]
 by_cases hm:n.may a
 case neg =>
  have p:n.load a=(n,0,B2,[],2):=by unfold No.load;rw[qv hm]
  have U:¬(2:Int)=0:=by decide
  rw[qv hm];unfold vH;rw[p];simp only[ae,bc,U];exact⟨⟨.nils,rfl,mN.nil ..⟩,h,Fr.refl _⟩
 rw[xb hm];have hl:=h.li;have⟨L,T⟩:=hm;obtain⟨f,rfl⟩:=jx L;have t:f<1000000:=by omega
 have P:No.ln (Int.ofNat f)=((f / 8:Nat):Int):=rfl;have Y:=xf (show(0:Int)=0 from rfl);simp only[ae,bc,G,Ff t,I,qt,h.l2];refine C3.q (TO h.ca j ((f / 8:Nat):Int)) λ v H1⟨y,K⟩=>?_;rw[y];have w:n.may (f:Int):=⟨L,T⟩
 unfold tc;cases D:n.c.find ((f / 8:Nat):Int)with
 |none =>
  have p:n.load (f:Int)=((n.ask 1 ((f / 8:Nat):Int)).1,0,B2,(n.ask 1 ((f / 8:Nat):Int)).2,0):=by
   unfold No.load;rw[xb w];show(match n.c.find ((f / 8:Nat):Int)with|none=>_|some _=>_)=_;rw[D];rfl
  have l:Fr Em H ((H1.alloc (OR (aE .zero) xt)).set H1.au (OR (aE .zero) xt)):=K.trans (yB _ _) λ _ q=>q.elim;simp only[ae,bc,xm,eZ,jR];refine C3.q (Yx (h.em l) hk 1 ((f / 8:Nat):Int)) λ v V⟨x,hn,o⟩=>?_;unfold vH;rw[p];simp only[ae,bc];refine⟨⟨v,rfl,x.1,λ q=>zd l.au (x.2 q)⟩,hn,kA (nE l) o⟩
 |some e =>
  obtain⟨i,hp,rfl⟩:=T8 D;have l:Fr Em H ((H1.alloc (OR (aE .zero) xt)).set H1.au (OR (aE (n.c.en i)) xt)):=K.trans (yB _ _) λ _ q=>q.elim;obtain⟨Hb,m⟩:∃X,X=(H1.alloc (OR (aE .zero) xt)).set H1.au (OR (aE (n.c.en i)) xt):=⟨_,rfl⟩
  rw[<-m]at l;have hb:=h.em l;have iL:=hb.iL
  -- behind the mark
  have fin:∀{A:ar}{c:Ca},dc H0 A r b sv bv {n with c:=c} ks->CI n.lines c->c.us+1<=1000000->Fr (iK r b sv bv) H A->c=(if n.live then n.c.mark ((f / 8:Nat):Int) B2 else n.c)->c.pos ((f / 8:Nat):Int)=B1 i -> ∀{E:Env},lk E 0=B1 (.ptr r 0)->lk E 1=B1 (.int .i64 (f:Int)) ->
   W M ⟨B5,RK⟩ (q0q 30) B4 (eU M [.tmp 4,.tmp 5,.tmp 6,.tmp 7] (uI (vH H0 H r b sv bv n ks (f:Int)))) E [] A:=by
   intro A c B u F o O g E Q R;have p:n.load (f:Int)=({n with c:=(c.word f).1},(c.word f).2.getD 0,B4,[],0):=by
    unfold No.load;rw[xb w];show(match n.c.find ((f / 8:Nat):Int)with|none=>_|some _=>_)=_;rw[D,O];rfl
   simp only[ae,bc,J,Q,qt,B.l2,R];refine C3.q (r_ B.ca u F t) λ v N⟨y,C,s⟩=>?_;rw[y];have hw:(c.word f).2=B1 ((c.en i).d.get (f % 8)):=by unfold Ca.word;rw[g]
   unfold yQ;rw[g];have hlen:(c.word f).1.sl.length<=40:=by
    have:=B.len;unfold Ca.word;rw[g];show(c.sl.set i _).length<=40;rw[xq];exact this
   have hn:=B.iI C s hlen;unfold vH;rw[p,hw];simp only[ae,bc,xm];exact⟨⟨.nils,rfl,mN.nil ..⟩,hn,kA o (xC s)⟩
  cases k:n.live with
  |false =>
   rw[k]at iL;simp only[ae,bc,xm,eZ,jR,<-m,z,qt,iL];exact fin (c:=n.c) (by have:({n with c:=n.c}:No)=n:=rfl;rw[this];exact hb) j hu (nE l) (by rw[k];rfl) hp rfl rfl
  |true =>
   rw[k]at iL;simp only[ae,bc,xm,eZ,jR,<-m,z,qt,iL,hb.l2];refine C3.q (xcy hb.ca j ((f / 8:Nat):Int) B2) λ _ N⟨C,s⟩=>?_;have em:n.c.mark ((f / 8:Nat):Int) B2=n.c.set i {n.c.en i with r:=B4}:=by unfold Ca.mark;rw[qv (by decide),sH,hp]
   have hlen:(n.c.mark ((f / 8:Nat):Int) B2).sl.length<=40:=by rw[em];show(n.c.sl.set i _).length<=40;rw[xq];exact h.len
   have g:(n.c.mark ((f / 8:Nat):Int) B2).pos ((f / 8:Nat):Int)=B1 i:=by
    rw[em];have sh:FY n.c {n.c.set i {n.c.en i with r:=B4}with us:=n.c.us}:=FY.set n.c.us rfl rfl;exact(sh.pos _).trans hp
   simp only[ae,bc];exact fin (c:=n.c.mark ((f / 8:Nat):Int) B2) (hb.iI C s hlen) (j.mark _ _) (by rw[em];exact hu) (kA (nE l) (xC s)) (by rw[k];rfl) g rfl rfl
end
end Go.Am
namespace Go.Am
open Go.Proofs Ca
open Lang (ints)
variable{M:ao}[MK M]
section
variable{H0 H:ar}{r b:Nat}{sv bv:AV}{n:No}{ks:List Nat}
def xmr{line:Int}(h:n.owned line=B4):∃i,n.c.pos line=B1 i/\(n.c.en i).st=2:=by
 unfold No.owned at h;cases a:n.c.find line with
 |none=>rw[a]at h;cases h
 |some x =>
  rw[a]at h;obtain⟨i,hp,rfl⟩:=T8 a;exact⟨i,hp,by simpa using h⟩
def TQ(c:Ca)(line:Int)(wr:Bool):(c.mark line wr).us=c.us/\(c.mark line wr).sl.length=c.sl.length:=by
 unfold Ca.mark;cases wr with
 |true =>
  rw[xb rfl];cases c.lI line 2 with
  |none=>exact⟨rfl,rfl⟩
  |some i =>
   show(if(c.en i).w then c else c.set i _).us=_/\(if(c.en i).w then c else c.set i _).sl.length=_;split
   .exact ⟨rfl,rfl⟩
   .exact ⟨rfl,xq⟩
 |false =>
  rw[qv (by decide)];cases c.lI line 0 with
  |none=>exact⟨rfl,rfl⟩
  |some i=>exact⟨rfl,xq⟩
def UB(c:Ca)(a:Nat)(y:Int):(c.put a y).sl.length=c.sl.length/\((c.put a y).us=c.us\/(c.put a y).us=c.us+1):=by
 unfold Ca.put;cases c.lI ((a / 8:Nat):Int) 2 with
 |none=>exact⟨rfl,.inl rfl⟩
 |some i=>exact⟨xq,.inr rfl⟩
def QJ(c:Ca)(a:Nat):(c.word a).1.sl.length=c.sl.length/\((c.word a).1.us=c.us\/(c.word a).1.us=c.us+1):=by
 unfold Ca.word;cases c.pos ((a / 8:Nat):Int)with
 |none=>exact⟨rfl,.inl rfl⟩
 |some i=>exact⟨xq,.inr rfl⟩
def rI(H0 H:ar)(r b:Nat)(sv bv:AV)(n:No)(ks:List Nat)(a y:Int)(v:AV)(H':ar):Prop:=(∃ov,v=.tuple [.bool (n.store a y).2.1,ov,.int .i64 (n.store a y).2.2.2]/\mN H H' ov (n.store a y).2.2.1)/\dc H0 H' r b sv bv (n.store a y).1 ks/\Fr (iK r b sv bv) H H'
def xjz(h:dc H0 H r b sv bv n ks)(e:CI n.lines n.c)(hk:n.aN.length<=900000)(hu:n.c.us+1<=1000000)(a y:Int):zj M RU [.ptr r 0,.int .i64 a,.int .u64 y] H (rI H0 H r b sv bv n ks a y):=by
 refine qx7 ?_;obtain⟨w0,w2,B,C,t,D⟩:=qx8 M ⟨B5,RU⟩;simp only[ae,bc,w0,w2];refine C3.q (ZB h a) λ v H1⟨x,N⟩=>?_;rw[x,N]
 by_cases hm:n.may a
 case neg =>
  have i:n.store a y=(n,B2,[],2):=by unfold No.store;rw[qv hm]
  have P:¬(2:Int)=0:=by decide
  rw[qv hm];unfold rI;rw[i];simp only[ae,bc,P];exact⟨⟨.nils,rfl,mN.nil ..⟩,h,Fr.refl _⟩
 rw[xb hm];have hl:=h.li;have⟨F,O⟩:=hm;obtain⟨d,rfl⟩:=jx F;have m:d<1000000:=by omega
 have p:n.may (d:Int):=⟨F,O⟩
 have j:No.ln (d:Int)=((d / 8:Nat):Int):=rfl;have R:=xf (show(0:Int)=0 from rfl);simp only[ae,bc,B,Ff m,C];refine C3.q (_D (line:=((d / 8:Nat):Int)) h e) λ v H1⟨x,k⟩=>?_;rw[x];have hb:=h.em k;cases ho:n.owned ((d / 8:Nat):Int)with
 |false =>
  have i:n.store (d:Int) y=((n.ask 2 ((d / 8:Nat):Int)).1,B2,(n.ask 2 ((d / 8:Nat):Int)).2,0):=by
   unfold No.store;rw[xb p,j,ho];rfl
  simp only[ae,bc];refine C3.q (Yx hb hk 2 ((d / 8:Nat):Int)) λ v Q⟨s,hn,g⟩=>?_;unfold rI;rw[i];simp only[ae,bc];exact⟨⟨v,rfl,s.1,λ q=>zd k.au (s.2 q)⟩,hn,kA (nE k) g⟩
 |true =>
  have iL:=hb.iL;have fin:∀{u:ar}{c:Ca},dc H0 u r b sv bv {n with c:=c} ks->CI n.lines c->c.us+1<=1000000->Fr (iK r b sv bv) H u->c=(if n.live then n.c.mark ((d / 8:Nat):Int) B4 else n.c) -> ∀{E:Env},lk E 0=B1 (.ptr r 0)->lk E 1=B1 (.int .i64 (d:Int))->lk E 2=B1 (.int .u64 y) ->
   W M ⟨B5,RU⟩ (qx6 28) B4 (eU M [.tmp 6,.tmp 7,.tmp 8] (uI (rI H0 H r b sv bv n ks (d:Int) y))) E [] u:=by
   intro u c w o A g I E J K L;have i:n.store (d:Int) y=({n with c:=c.put d y},B4,[],0):=by
    unfold No.store;rw[xb p,j,ho,xb rfl,I];rfl
   simp only[ae,bc,D,J,qt,w.l2,K,L];refine C3.q (um w.ca o A m y) λ v G⟨x,z,l⟩=>?_;have hn:=w.iI z l (by rw[(UB c d y).1];exact w.len);unfold rI;rw[i];simp only[ae,bc];exact⟨⟨.nils,rfl,mN.nil ..⟩,hn,kA g (xC l)⟩
  cases f:n.live with
  |false =>
   rw[f]at iL;simp only[ae,bc,t,qt,iL];exact fin (c:=n.c) (by have:({n with c:=n.c}:No)=n:=rfl;rw[this];exact hb) e hu (nE k) (by rw[f];rfl) rfl rfl rfl
  |true =>
   rw[f]at iL;simp only[ae,bc,t,qt,iL,hb.l2];refine C3.q (xcy hb.ca e ((d / 8:Nat):Int) B4) λ _ G⟨z,l⟩=>?_;simp only[ae,bc];exact fin (c:=n.c.mark ((d / 8:Nat):Int) B4) (hb.iI z l (by rw[(TQ ..).2];exact h.len)) (e.mark _ _) (by rw[(TQ ..).1];exact hu) (kA (nE k) (xC l)) (by rw[f];rfl) rfl rfl rfl
def Vl(h:dc H0 H r b sv bv n ks)(x:En)(too:Bool):zj M qpl [.ptr r 0,.agg (aE x),.bool too] H λ _ H'=>dc H0 H' r b sv bv (n.lost x too) ks/\Fr (iK r b sv bv) H H':=by
 refine q0x ?_;obtain⟨H1,e1,a,-,i⟩:=cI H (OR (aE x) xt);have l0:Op.ah [.ptr H.au 0] H1=B1 (.int .i64 x.line):=zg (xe i) 0;have l2:Op.ah [.ptr H.au 2] H1=B1 (.bool x.r):=zg (xe i) 2;have l3:Op.ah [.ptr H.au 3] H1=B1 (.bool x.w):=zg (xe i) 3;have e:=h.em a;have stay:(x.w ||(x.r && too))=B2->n.lost x too=n:=λ q=>by unfold No.lost;rw[q];rfl
 have go2:(x.w ||(x.r && too))=B4->x.line=0->n.lost x too=n.iT 2:=λ q j=>by unfold No.lost;rw[q,xb rfl,xb j]
 have f:(x.w ||(x.r && too))=B4 -> ¬x.line=0->n.lost x too=n.iT 1:=λ q j=>by unfold No.lost;rw[q,xb rfl,qv j]
 cases hw:x.w with
 |true =>
  rw[hw]at l3
  by_cases q:x.line=0
  .rw [go2 (by rw[hw];rfl) q];simp only[ae,bc,Ou,<-e1,l3,l0,xf q];refine C3.q (JV e 2) λ _ g⟨d,c⟩=>?_;simp only[ae,bc];exact⟨d,kA (nE a) c⟩
  .rw [f (by rw[hw];rfl) q];simp only[ae,bc,Ou,<-e1,l3,l0,q];refine C3.q (JV e 1) λ _ g⟨d,c⟩=>?_;simp only[ae,bc];exact⟨d,kA (nE a) c⟩
 |false =>
  rw[hw]at l3;cases hr:x.r with
  |false =>
   rw[hr]at l2;rw[stay (by rw[hw,hr];rfl)];simp only[ae,bc,Ou,<-e1,l3,l2];exact⟨e,nE a⟩
  |true =>
   rw[hr]at l2;cases too with
   |false =>
    rw[stay (by rw[hw,hr];rfl)];simp only[ae,bc,Ou,<-e1,l3,l2];exact⟨e,nE a⟩
   |true =>
    by_cases q:x.line=0
    .rw [go2 (by rw[hw,hr];rfl) q];simp only[ae,bc,Ou,<-e1,l3,l2,l0,xf q];refine C3.q (JV e 2) λ _ g⟨d,c⟩=>?_;simp only[ae,bc];exact⟨d,kA (nE a) c⟩
    .rw [f (by rw[hw,hr];rfl) q];simp only[ae,bc,Ou,<-e1,l3,l2,l0,q];refine C3.q (JV e 1) λ _ g⟨d,c⟩=>?_;simp only[ae,bc];exact⟨d,kA (nE a) c⟩
end
end Go.Am
namespace Go.Am
open Go.Proofs Ca
open Lang (ints)
variable{M:ao}[MK M]
def zS(H H':ar)(v:AV)(ms:List Mg):Prop:=(v=.nils/\ms=[]) \/ ∃m a,v=Op.sliceTo 1 1 a/\ms=[m]/\H.au<=a/\a<H'.au/\H'.get a=B1 (OR (aq m) xp)
def zS.ms{H H':ar}{v:AV}{ms:List Mg}(h:zS H H' v ms):mN H H' v ms:=by
 rcases h with⟨rfl,rfl⟩|⟨m,a,rfl,rfl,c,d,f⟩
 .exact mN.nil ..
 .exact ⟨gW.sl (e:=xp) zk ⟨a,rfl,d,by rw[f];simp⟩,λ _=>c⟩
def zS.one{H H0:ar}(m:Mg)(h:H0.au<=H.au):zS H0 (H.alloc (OR (aq m) xp)) (Op.sliceTo 1 1 H.au) [m]:=.inr ⟨m,H.au,rfl,rfl,h,by rw[xz];omega,xr ..⟩
section
variable{H0 H:ar}{r b:Nat}{sv bv:AV}{n:No}{ks:List Nat}
def dc.J4(h:dc H0 H r b sv bv n ks){a:AV}{g:List Nat}{H1:ar}(hs:mT bY H0 H1 a g)(f:Fr (aM bv) H H1)(A:∀x,aM a x->aM bv x\/H.au<=x) :
 ∃j,Op.store 1 [.ptr r 14,a] H1=B1 (.undef,j)/\dc H0 j r b sv a {n with aN:=ints g} g/\Fr (iK r b sv bv) H j:=by
 have s:=h.ca.lt;have t:aD sv<H.au:=h.ca.sl.lt;have i:∀x,x<H.au -> ¬aM bv x -> ¬aM a x:=λ x B y q=>(A x q).elim y λ w=>by omega
 have u:H1.get r=B1 (OR (rQ n b bv) Rn):=by rw[f.ai _ h.lt h.o1];exact h.row
 have o1:aA a=true:=by have:=Sl.one hs.sl;exact this
 have hu:AV.cells a=[a]:=by
  rcases hs.own with⟨rfl,_⟩|⟨b,m,rest,rfl,_⟩<;>rfl
 have st:=wF u (o:=14) (n:=1) (v:=a) (by rw[hu];rfl) (by rw[(Gc n b bv).2.2.2.2.2.2.2.2];decide) (by rw[hu];simp[vk,o1]);have e:(rQ n b bv).take 14++AV.cells a++(rQ n b bv).drop (14+1)=rQ n b a:=by
  rw[hu];have⟨core,lines,c,⟨k,co,l,⟨d,z⟩⟩,aN,live,code⟩:=n
  match d,z with
  |[d0,d1,d2,d3,d4,d5,d6,d7],_=>rfl
 rw[e]at st;have p:Fr (On r) H1 (H1.set r (OR (rQ n b a) Rn)):=(Fr.refl H1).set (W:=On r) (.inl rfl) _;have fn:=f.au;refine⟨_,st,⟨xg ..,qn h.lt fn,(h.ca.fr f h.o2 h.o3).fr p (λ(q:b=r)=>h.n1 q.symm) (λ(q:aD sv=r)=>h.n2 q.symm),hs.vK p (hs.fr.set (.inr h.lr) _) (λ x hx(q:x=r)=>i r h.lt h.o1 (q▸hx)),rfl,h.lr,h.lb,h.ls,h.n1,h.n2,i _ h.lt h.o1,i _ s h.o2,i _ t h.o3,h.li,h.len⟩,?_⟩;exact(f.mono λ _ _ q=>.inr (.inr q)).trans p λ x q=>.inl (.inl q)
def ae3(ks:List Nat)(x:Nat):ints (ks ++ [x])=ints ks ++ [(x:Int)]:=by simp[ints]
def Vk(m:Mg)(d:L8):(aq m).take 3++(AV.agg (dE d)).cells++(aq m).drop (3+8)=aq {m with d:=d}:=by
 have⟨k,co,l,⟨e,he⟩⟩:=m;have⟨d,a⟩:=d
 match e,he,d,a with
 |[d0,d1,d2,d3,d4,d5,d6,d7],_,[e0,e1,e2,e3,e4,e5,e6,e7],_=>rfl
def CC(x:En):((aE x).drop 4).take 8=dE x.d:=by
 have⟨line,st,r,w,⟨d,a⟩,⟨o,ho⟩,u⟩:=x
 match d,a,o,ho with
 |[d0,d1,d2,d3,d4,d5,d6,d7],_,[e0,e1,e2,e3,e4,e5,e6,e7],_=>rfl
def qQ(H0 H:ar)(r b:Nat)(sv bv:AV)(a:No×List Mg)(v:AV)(H':ar):Prop:=zS H H' v a.2/\rU H0 H r b sv bv a.1 H'
def _b(h:dc H0 H r b sv bv n ks)(hk:n.aN.length<=900000)(x:En)(Q:0<=x.line):zj M WC [.ptr r 0,.agg (aE x)] H (qQ H0 H r b sv bv (n.gone x)):=by
 refine q0v ?_;obtain⟨w0,w2,D⟩:=q0w M ⟨B5,WC⟩;obtain⟨H1,e1,s,-,u⟩:=cI H (OR (aE x) xt);have l0:Op.ah [.ptr H.au 0] H1=B1 (.int .i64 x.line):=zg (xe u) 0;have l1:Op.ah [.ptr H.au 1] H1=B1 (.int .i64 x.st):=zg (xe u) 1;have z:=h.em s;have n1:H.au<H1.au:=by rw[e1,xz];omega
 by_cases q:x.st=2
 case neg =>
  have p:n.gone x=(n,[]):=by unfold No.gone;rw[qv q]
  rw[p];simp only[ae,bc,w0,<-e1,w2,l1,q];exact⟨.inl ⟨rfl,rfl⟩,h.same s⟩
 have p:n.gone x=({n with aN:=n.aN ++ [x.line]},[⟨3,n.core,x.line,x.d⟩]):=by unfold No.gone;rw[xb q]
 rw[p];have⟨ln,c⟩:=jx Q;rw[c]at l0;simp only[ae,bc,w0,<-e1,w2,l1,xf q,D,qt,z.vP,l0];have O:=h.kl;refine z.bk.push (x:=ln) rfl (by omega) (by omega) λ l Y hs L g=>?_;have⟨k,W,G,t⟩:=z.J4 hs L g;have I:k.get H.au=B1 (OR (aE x) xt):=by
  rw[t.ai _ n1 ?_];exact u;rintro(q|q|q)
  .have:=h.lt;omega
  .have Z:=h.ca.lt;have h5:aD sv<H.au:=h.ca.sl.lt;exact q.elim (λ q=>by omega) λ q=>by omega
  .have:=h.bk.fresh _ q;omega
 have U:H.au<k.au:=by have:=t.au;omega
 have l0:Op.ah [.ptr H.au 0] k=B1 (.int .i64 (ln:Int)):=by rw[<-c];exact zg (xe I) 0
 simp only[ae,bc,W,l0];refine C3.q (FT G 3 (ln:Int)) λ v a⟨P,j⟩=>?_;rw[P];have S:a.get H.au=B1 (OR (aE x) xt):=by rw[j.ai _ U id];exact I
 obtain⟨m,hm⟩:∃m,m=No.msg {n with aN:=ints (ks ++ [ln])} 3 (ln:Int):=⟨_,rfl⟩
 have A:({m with d:=x.d}:Mg)=⟨3,n.core,x.line,x.d⟩:=by rw[hm,c];rfl
 rw[<-hm];have J:=ij (xr a (OR (aq ⟨0,0,0,.zero⟩) xp)) (zk _) (zk m) (rP _);obtain⟨f,i⟩:∃X,X=(a.alloc (OR (aq ⟨0,0,0,.zero⟩) xp)).set a.au (OR (aq m) xp):=⟨_,rfl⟩
 rw[<-i]at J;have E:Fr Em a f:=by rw[i];exact yB _ _
 have N:f.get a.au=B1 (OR (aq m) xp):=by rw[i,xg]
 have V:H.au<a.au:=by have:=j.au;omega
 have T:f.get H.au=B1 (OR (aE x) xt):=by rw[E.ai _ V id];exact S
 have B:Op.aw 8 [.ptr H.au 4] f=B1 (.agg (dE x.d)):=by rw[tD (xe T) (by rw[jt];decide),CC]
 have K:=wF N (o:=3) (n:=8) (v:=.agg (dE x.d)) (by rw[z6];exact wl _) (by rw[zk];decide) (by rw[z6];exact Az _);rw[Vk,A]at K;have C:=fC (xg f a.au (OR (aq ⟨3,n.core,x.line,x.d⟩) xp)) (zk _);simp only[ae,bc,mZ,J,B,K,C,A6];have n5:f.au=a.au+1:=by rw[i];rfl
 have F:Fr Em a (f.set a.au (OR (aq ⟨3,n.core,x.line,x.d⟩) xp)):=E.set (.inr (qm _)) _;refine⟨zS.one _ (by rw[oO];omega),l,ks ++ [ln],?_,?_,?_⟩
 .have e:({n with aN:=ints (ks ++ [ln])}:No) = {n with aN:=n.aN ++ [x.line]}:=by rw[ae3,c,h.eq]
  rw[<-e];exact(G.em (j.trans F λ _ q=>q.elim)).em ((Fr.refl _).alloc _)
 .exact ((nE s).trans t λ x q=>.inl q).em ((j.trans F λ _ q=>q.elim).alloc _)
 .exact λ y R=>(g y R).imp id λ w=>by omega
end
end Go.Am
namespace Go.Am
open Go.Proofs Ca
open Lang (ints)
variable{M:ao}[MK M]
def yX(off:Nat)(n:Option Nat)(t rest:aU)(x y:List AV):aX (.part off n t rest) (.agg x) (.agg y)=(partAt x off n).bind λ a=>(partAt y off n).bind λ b=>(aX t a b).bind λ q=>cond q (aX rest (.agg x) (.agg y)) (B1 B2):=rfl
def yb(x:List AV)(k:Nat):partAt x k B5=nth x k:=rfl
def iF{k:Nat}{t:aU}{l c:List AV}{K:PD}{a b:Int}{P:Prop}[Decidable P](h:nth l k=B1 (.int K a))(d:nth c k=B1 (.int K b))(hp:aX t (.agg l) (.agg c)=B1 (decide P)) :
 aX (.part k B5 .int t) (.agg l) (.agg c)=B1 (decide (a=b/\P)):=by
 have q:aX .int (.int K a) (.int K b)=B1 (decide (a=b)):=by
  have e:rT K K=true:=by cases K<;>rfl
  simp only[aX,DG,e,xv];rfl
 rw[yX,yb,yb,h,d,qr,qr,q,qr,hp]
 by_cases e:a=b
 .simp [e]
 .simp [e]
abbrev T2:aU:=.part 0 B5 .int (.part 1 B5 .int (.part 2 B5 .int (.part 3 B5 .int (.part 4 B5 .int (.part 5 B5 .int (.part 6 B5 .int (.part 7 B5 .int .nil)))))))
def eqL(d e:L8):aX T2 (.agg (dE d)) (.agg (dE e))=B1 (decide (d=e)):=by
 have⟨d,m⟩:=d;have⟨e,he⟩:=e
 match d,m,e,he with
 |[d0,d1,d2,d3,d4,d5,d6,d7],_,[e0,e1,e2,e3,e4,e5,e6,e7],_ =>
  rw[iF (P:=d1=e1/\d2=e2/\d3=e3/\d4=e4/\d5=e5/\d6=e6/\d7=e7/\True) (a:=d0) (b:=e0) (K:=.u64) rfl rfl (iF rfl rfl (iF rfl rfl (iF rfl rfl (iF rfl rfl (iF rfl rfl (iF rfl rfl (iF rfl rfl rfl)))))))];congr 1;exact decide_eq_decide.2 ⟨λ q=>by obtain⟨a0,c,f,g,h,i,j,k,-⟩:=q;subst a0 c f g h i j k;rfl,λ q=>by
   have q:=congrArg L8.l q;injection q with o q;injection q with p q;injection q with s q;injection q with t q;injection q with u q;injection q with v q;injection q with w q;injection q with x q
   exact⟨o,p,s,t,u,v,w,x,trivial⟩⟩
abbrev M':aU:=.part 0 B5 .int (.part 1 B5 .int (.part 2 B5 .int (.part 3 (B1 8) T2 .nil)))
def eqM(m e:Mg):aX M' (.agg (aq m)) (.agg (aq e))=B1 (decide (m=e)):=by
 have f:aX (.part 3 (B1 8) T2 .nil) (.agg (aq m)) (.agg (aq e))=B1 (decide (m.d=e.d)):=by
  have p:∀x:Mg,partAt (aq x) 3 (B1 8)=B1 (.agg (dE x.d)):=λ x=>by
   have⟨k,co,l,⟨d,g⟩⟩:=x
   match d,g with
   |[d0,d1,d2,d3,d4,d5,d6,d7],_=>rfl
  rw[yX,p,p,qr,qr,eqL,qr];cases decide (m.d=e.d)<;>rfl
 rw[iF (P:=m.core=e.core/\m.line=e.line/\m.d=e.d) (a:=m.k) (b:=e.k) (K:=.i64) rfl rfl (iF rfl rfl (iF rfl rfl f))];congr 1;refine decide_eq_decide.2 ⟨λ q=>?_,λ q=>by rw[q];exact⟨rfl,rfl,rfl,rfl⟩⟩;have⟨a,b,c,d⟩:=q;cases m;cases e;simp only at a b c d;subst a b c d;rfl
def Qs(m a:Mg)(H:ar):Op.eq (.agg M') B2 [.agg (aq m),.agg (aq a)] H=B1 (.bool (decide (m=a))):=ad1 _ _ _ _ _ (eqM m a)
section
variable{H0 H:ar}{r b:Nat}{sv bv:AV}{n:No}{ks:List Nat}
def xcz(h:dc H0 H r b sv bv n ks)(hk:n.aN.length<=900000)(m:Mg)(x:En):zj M X0 [.ptr r 0,.agg (aq m),.agg (aE x)] H λ v H'=>v=.bool (decide (n.jY m x))/\Fr Em H H':=by
 refine qub ?_;obtain⟨w0,w2,B,i,j,u⟩:=quc M ⟨B5,X0⟩;obtain⟨H1,e1,E,n1,-⟩:=cI H (OR (aq m) xp);obtain⟨w,e2,y,-,F⟩:=cI H1 (OR (aE x) xt);have p:Fr Em H w:=E.trans y λ _ q=>q.elim;have D:w.get H.au=B1 (OR (aq m) xp):=by rw[y.ai _ (by omega) id,e1,xr]
 have f:Op.ah [.ptr H.au 0] w=B1 (.int .i64 m.k):=zg (xe D) 0;have t:Op.ah [.ptr H.au 2] w=B1 (.int .i64 m.line):=zg (xe D) 2;have ls:Op.ah [.ptr H1.au 1] w=B1 (.int .i64 x.st):=zg (xe F) 1;have s:=h.em p;have d:∀(P Q:Prop)[Decidable P][Decidable Q],(P↔Q)->AV.bool (decide P)=.bool (decide Q):=λ P Q _ _ q=>by congr 1;exact decide_eq_decide.2 q
 by_cases a:m.k=11
 .simp only[ae,bc,w0,<-e1,<-e2,w2,f,xf a,ls];exact⟨by congr 1;simp[No.jY,a],p⟩
 by_cases c:m.k=12
 .simp only[ae,bc,w0,<-e1,<-e2,w2,f,a,ls,i,xf c,j];exact⟨by congr 1;simp[No.jY,c],p⟩
 by_cases e:m.k=13
 .simp only[ae,bc,w0,<-e1,<-e2,w2,f,a,ls,i,c,xf e,j];exact⟨by congr 1;simp[No.jY,e],p⟩
 by_cases g:m.k=14
 .simp only[ae,bc,w0,<-e1,<-e2,w2,f,a,i,c,e,j,xf g,qt,s.lo,t];refine C3.q (FT s 1 m.line) λ v C⟨A,z⟩=>?_;rw[A];simp only[ae,bc,(s.em z).lo,Qs];exact⟨by congr 1;simp[No.jY,g],p.trans z λ _ q=>q.elim⟩
 by_cases l:m.k=15
 .simp only[ae,bc,w0,<-e1,<-e2,w2,f,a,i,c,e,j,g,u,xf l,qt,s.lo,t];refine C3.q (FT s 2 m.line) λ v C⟨A,z⟩=>?_;rw[A];simp only[ae,bc,(s.em z).lo,Qs];exact⟨by congr 1;simp[No.jY,l],p.trans z λ _ q=>q.elim⟩
 by_cases o:m.k=16
 .have I:=h.kl;simp only[ae,bc,w0,<-e1,<-e2,w2,f,a,i,c,e,j,g,u,l,xf o,qt,s.vP,t];refine C3.q (qvj s.bk.sl (by omega) m.line) λ v C⟨A,G⟩=>?_;rw[A,G];simp only[ae,bc];exact⟨by congr 1;simp[No.jY,o,h.eq],p⟩
 .simp only[ae,bc,w0,<-e1,<-e2,w2,f,a,i,c,e,j,g,u,l,o,B];exact⟨by congr 1;simp[No.jY,a,c,e,g,l,o],p⟩
def Yy(c:Ca)(line st:Int)(d:L8):(c.fill line st d).1.sl.length=c.sl.length/\((c.fill line st d).1.us=c.us\/(c.fill line st d).1.us=c.us+1):=by
 unfold Ca.fill;cases c.pos line with
 |some i=>exact⟨rfl,.inl rfl⟩
 |none =>
  cases c.room line with
  |none=>exact⟨rfl,.inl rfl⟩
  |some i=>exact⟨xq,.inr rfl⟩
def ae1{lines line st:Int}{c:Ca}{d:L8}(h:CI lines c)(hs:(c.fill line st d).2.1.st≠0):0<=(c.fill line st d).2.1.line:=by
 unfold Ca.fill at hs⊢;cases hp:c.pos line with
 |some i=>rw[hp]at hs;exact absurd rfl hs
 |none =>
  rw[hp]at hs;cases hr:c.room line with
  |none=>rw[hr]at hs;exact absurd rfl hs
  |some i =>
   rw[hr]at hs;have hs:(c.en i).st≠0:=hs;show 0<=(c.en i).line;rcases xw i c.sl.length with q|q
   .exact (h.ok i q hs).2.1
   .rw [WQ q]at hs;exact absurd rfl hs
def Hg{line st:Int}{c:Ca}{d:L8}(h:(c.fill line st d).2.2=22):(c.fill line st d).1=c:=by
 unfold Ca.fill at h⊢;cases hp:c.pos line with
 |some i=>rfl
 |none =>
  rw[hp]at h;cases hr:c.room line with
  |none=>rfl
  |some i=>rw[hr]at h;exact absurd h (show¬(0:Int)=22 by decide)
def zS.from{H H1 H':ar}{v:AV}{ms:List Mg}(h:zS H1 H' v ms)(f:H.au<=H1.au):zS H H' v ms:=by
 rcases h with q|⟨m,a,c,d,e,g,i⟩
 .exact .inl q
 .exact .inr ⟨m,a,c,d,zd f e,g,i⟩
def rU.from{n':No}{H1 H':ar}(f:Fr (iK r b sv bv) H H1)(h:rU H0 H1 r b sv bv n' H'):rU H0 H r b sv bv n' H':=by
 have⟨a,c,d,e,g⟩:=h;have fn:=f.au;exact⟨a,c,d,kA f e,λ x q=>(g x q).imp id λ w=>by omega⟩
def rU.em{n':No}{H1 H':ar}(h:rU H0 H r b sv bv n' H1)(f:Fr Em H1 H'):rU H0 H r b sv bv n' H':=by
 have⟨a,c,d,e,g⟩:=h;exact⟨a,c,d.em f,e.em f,g⟩
def dc.off{W:Nat->Prop}{H':ar}(h:dc H0 H r b sv bv n ks)(f:Fr W H H')(hw:∀x,W x->H0.au<=x /\ ¬iK r b sv bv x):dc H0 H' r b sv bv n ks :=
 ⟨by rw[f.ai _ h.lt λ q=>(hw _ q).2 (.inl rfl)];exact h.row,qn h.lt f.au,h.ca.fr f (λ q=>(hw _ q).2 (.inr (.inl (.inl rfl)))) (λ q=>(hw _ q).2 (.inr (.inl (.inr rfl)))),h.bk.vK f (h.bk.fr.trans f λ x q=>.inr (hw x q).1) (λ x a q=>(hw x q).2 (.inr (.inr a))),h.eq,h.lr,h.lb,h.ls,h.n1,h.n2,h.o1,h.o2,h.o3,h.li,h.len⟩
def qQ.from{a:No×List Mg}{H1 H':ar}{v:AV}(f:Fr (iK r b sv bv) H H1)(h:qQ H0 H1 r b sv bv a v H'):qQ H0 H r b sv bv a v H':=⟨h.1.from f.au,h.2.from f⟩
def xjb(h:dc H0 H r b sv bv n ks)(i:CI n.lines n.c)(hk:n.aN.length<=900000)(hu:n.c.us+1<=1000000)(m:Mg)(hm:0<=m.line):zj M Of [.ptr r 0,.agg (aq m)] H (qQ H0 H r b sv bv (n.fill m)):=by
 refine q0t ?_;obtain⟨w0,w4,w10,I,J,w28⟩:=q0u M ⟨B5,Of⟩;have⟨H1,e1,f1,n1,O⟩:=cI H (OR (aq m) xp);have G:Op.ah [.ptr H.au 0] H1=B1 (.int .i64 m.k):=zg (xe O) 0;have T:=h.em f1;have hlr:=h.lt;have hlb:=h.ca.lt;have hls:aD sv<H.au:=h.ca.sl.lt;have V:=h.bk.fresh;have off:∀y,H.au<=y -> ¬iK r b sv bv y:=λ y hy q=>by
  rcases q with q|q|q
  .omega
  .exact q.elim (λ q=>by omega) λ q=>by omega
  .have:=V _ q;omega
 -- the line's words
 have D:∀{w:ar},w.get H.au=B1 (OR (aq m) xp)->Op.aw 8 [.ptr H.au 3] w=B1 (.agg (dE m.d)):=λ g=>by
  rw[tD (xe g) (by rw[zk];decide)];have⟨k,co,l,⟨d,hd⟩⟩:=m
  match d,hd with
  |[d0,d1,d2,d3,d4,d5,d6,d7],_=>rfl
 have F:∀{w:ar},w.get H.au=B1 (OR (aq m) xp)->Op.ah [.ptr H.au 2] w=B1 (.int .i64 m.line):=λ g=>zg (xe g) 2
 -- what fG is told
 have fin:∀{n':No}{st:Int}{u:ar}{t:Nat},dc H0 u r b sv bv {n' with c:=(n'.c.fill m.line st m.d).1} ks->CI n'.lines n'.c->n'.aN=n.aN->Fr (iK r b sv bv) H u->u.get t=B1 (OR (aE (n'.c.fill m.line st m.d).2.1) xt)->n.fill m=n'.dR m st ->
  ∀{E:Env},lk E 0=B1 (.ptr r 0)->lk E 6=B1 (.ptr t 0)->lk E 4=B1 .nils->lk E 7=B1 (.bool (decide ((n'.c.fill m.line st m.d).2.2=0/\(n'.c.fill m.line st m.d).2.1.st≠0))) ->
  W M ⟨B5,Of⟩ (V2 20) B4 (eU M [.tmp 4] (uI (qQ H0 H r b sv bv (n.fill m)))) E [] u:=by
  intro n' st u t hc B hb hf hg hn E p q6 q4 q7;rw[hn];unfold No.dR
  by_cases q:(n'.c.fill m.line st m.d).2.2=0/\(n'.c.fill m.line st m.d).2.1.st≠0
  .have Q:lk E 7=B1 (.bool B4):=by rw[q7,yq q]
   rw[xb q];have ld:=fC (n:=21) hg (jt _);simp only[ae,bc,J,Q,w28,p,q6,ld];refine C3.q (_b hc (by show n'.aN.length<=_;rw[hb];exact hk) _ (ae1 B q.2)) λ v a U=>?_;simp only[ae,bc];exact U.from hf
  .have Q:lk E 7=B1 (.bool B2):=by rw[q7,yo q]
   rw[qv q];simp only[ae,bc,J,Q];exact⟨.inl ⟨rfl,rfl⟩,rU.of hc hf⟩
 -- put in
 have main:∀{st:Int},st=1\/st=2->n.fill m=n.lf m st -> ∀{E:Env},lk E 0=B1 (.ptr r 0)->lk E 3=B1 (.ptr H.au 0)->lk E 4=B1 .nils->lk E 5=B1 (.int .i64 st)->W M ⟨B5,Of⟩ (V2 10) B4 (eU M [.tmp 4] (uI (qQ H0 H r b sv bv (n.fill m)))) E [] H1:=by
  intro st C hn E p q3 q4 q5;simp only[ae,bc,w10,p,q3,q5,qt,T.l2,F O,D O];refine C3.q (xce T.ca i hu hm C m.d) λ v a⟨hv,U,L⟩=>?_;rw[hv];unfold pK;have k2:a.get H.au=B1 (OR (aq m) xp):=by rw[L.ai _ (by omega) (λ q=>q.elim (λ q=>by omega) λ q=>by omega)];exact O
  have n2:=L.au;have Y:=T.iI U L (by rw[(Yy ..).1];exact h.len);obtain⟨s,z⟩:∃X,X=(a.alloc (OR (aE .zero) xt)).set a.au (OR (aE (n.c.fill m.line st m.d).2.1) xt):=⟨_,rfl⟩
  have R:Fr Em a s:=by rw[z];exact yB _ _
  have g3:s.get a.au=B1 (OR (aE (n.c.fill m.line st m.d).2.1) xt):=by rw[z,xg]
  have n3:s.au=a.au+1:=by rw[z];rfl
  have k3:s.get H.au=B1 (OR (aq m) xp):=by rw[R.ai _ (by omega) id];exact k2
  have o:=Y.em R;have A:Fr (iK r b sv bv) H s:=kA (kA (nE f1) (xC L)) (nE R)
  by_cases q:(n.c.fill m.line st m.d).2.2=22
  case neg =>
   have j:n.fill m=n.dR m st:=by rw[hn];unfold No.lf;rw[qv q]
   simp only[ae,bc,xm,eZ,jR,<-z,I,q];exact fin o i rfl A g3 j p rfl q4 rfl
  .have j:n.fill m=(n.iT 3).dR m st:=by rw[hn];unfold No.lf;rw[xb q]
   have ec:({n with c:=(n.c.fill m.line st m.d).1}:No)=n:=by rw[Hg q]
   rw[ec]at o;simp only[ae,bc,xm,eZ,jR,<-z,I,xf q,p];refine C3.q (JV o 3) λ _ H4⟨P,N⟩=>?_;have k4:H4.get H.au=B1 (OR (aq m) xp):=by rw[N.ai _ (by omega) (off _ (qm _))];exact k3
   have g4:H4.get a.au=B1 (OR (aE (n.c.fill m.line st m.d).2.1) xt):=by rw[N.ai _ (by omega) (off _ (by omega))];exact g3
   have n4:=N.au;simp only[ae,bc,q3,q5,qt,P.l2,F k4,D k4];have f:CI n.lines (n.iT 3).c:=i.discard;refine C3.q (xce P.ca f hu hm C m.d) λ v K⟨hv,h5,S⟩=>?_;rw[hv];unfold pK;have g5:K.get a.au=B1 (OR (aE (n.c.fill m.line st m.d).2.1) xt):=by rw[S.ai _ (by omega) (λ q=>q.elim (λ q=>by omega) λ q=>by omega)];exact g4
   have s6:=ij g5 (jt _) (jt ((n.iT 3).c.fill m.line st m.d).2.1) (Aj _);have Z:=P.iI h5 S (by rw[(Yy ..).1];exact P.len);have f6:Fr (On a.au) K (K.set a.au (OR (aE ((n.iT 3).c.fill m.line st m.d).2.1) xt)):=(Fr.refl K).set (W:=On a.au) (.inl rfl) _;simp only[ae,bc,xm,s6];refine fin (n':=n.iT 3) (t:=a.au) ?_ f rfl ?_ (xg ..) j p rfl q4 rfl
   .exact Z.off f6 (λ x(hx:x=a.au)=>by rw[hx];exact⟨by have:=h.bk.fr.au;omega,off _ (by omega)⟩)
   .exact (kA (kA A N) (xC S)).set (.inr (by omega)) _
 by_cases e:m.k=15
 .simp only[ae,bc,w0,<-e1,w4,G,xf e];exact main (.inr rfl) (by unfold No.fill;rw[xb e]) rfl rfl rfl rfl
 .simp only[ae,bc,w0,<-e1,w4,G,e];exact main (.inl rfl) (by unfold No.fill;rw[qv e]) rfl rfl rfl rfl
end
end Go.Am
namespace Go.Am
open Go.Proofs Ca
open Lang (ints)
variable{M:ao}[MK M]
def xkm{H:ar}{e size bytes b n:Nat}{cells:List AV}(h:Sl H size (.slice b 0 n n) n cells)(hn:0<n){x:AV}{k:Nat}{new:List AV}(i:Sl H size x k new)(hk:0<k)(d:aS new=B4)(hs:0<size)
 (s:(n+k)*bytes<=140737488355328) (f:n+k<=140737488355328) {K:Bool->AV->ar->Prop} {m:Bool}
 (p:∀j H',Own H' e size j (n+k) (cells++new)->Fr Em H H'->(∀c,aM j c->H.au<=c)->K m j H'):jN m (Op.append e size bytes [.slice b 0 n n,x] H) K:=by
 have a:=S7 s f;have hlen:new.length=k*size:=i.1;have g:=Fz hs;have o:OZ (n+k) n=false:=by cases t:OZ (n+k) n with|false=>rfl|true=>rw[uh]at t;omega
 have l:Op.append e size bytes [.slice b 0 n n,x] H=B1 (dD H e size (n+k) (cells++new) (0,0)):=by
  simp only[Op.append,i.fI,i.first,qr,d,xv,df,o,zo,a,y8 (show n<=n+k by omega),g,jp,h.first,py]
 rw[l];refine jN.intro rfl (p _ _ ⟨by rw[xc,h.1,hlen,ye],.inr ⟨H.au,rfl,by rw[xz];omega,?_⟩⟩ ((Fr.refl H).alloc _) λ c q=>by rw[q.2];exact qm _);rw[ar.bO,xb rfl]
def zS.em{H H1 H':ar}{v:AV}{ms:List Mg}(h:zS H H1 v ms)(f:Fr Em H1 H'):zS H H' v ms:=by
 rcases h with q|⟨m,a,d,e,g,c,i⟩
 .exact .inl q
 .exact .inr ⟨m,a,d,e,g,qn c f.au,by rw[f.ai _ c id];exact i⟩
def LO{H H':ar}{v a:AV}{ms:List Mg}{m:Mg}(h:zS H H' v ms)(x:gW aq xp 11 H' a [m])(hl:H.au<=H'.au){K:Bool->AV->ar->Prop}
 (g:∀v2 c,mN H c v2 (ms ++ [m])->Fr Em H' c->K B4 v2 c):jN B4 (Op.append xp 11 88 [v,a] H') K:=by
 have xs:=x.sl zk;have i:aS ([m].flatMap aq)=true:=by rw[j0,List.flatMap_nil,zn];exact rP m
 rcases h with⟨rfl,rfl⟩|⟨l,b,rfl,rfl,s,j,k⟩
 .refine QY (Own.nil H' xp 11) xs i (by decide) (by simp) (by simp) λ v2 c o f w=>g v2 c ⟨?_,λ _=>?_⟩ (f.mono λ y _ q=>(q.1 rfl).elim)
  .have:=Own.sl o;exact this
  .have d:v2≠ .nils:=λ q=>by
    subst q;have:=Own.sl o;exact absurd this.2 (by intro z;cases z)
   exact(w _ ⟨d,rfl⟩).elim (λ q=>(q.1 rfl).elim) λ q=>by omega
 .have p:bM aq 11 H' (Op.sliceTo 1 1 b) [l]:=gW.sl (e:=xp) zk ⟨b,rfl,j,by rw[k];simp⟩;refine xkm (b:=b) (n:=1) (e:=xp) p (by decide) xs (by simp) i (by decide) (by simp) (by simp) λ v2 c o f w=>g v2 c ⟨?_,λ _=>?_⟩ f
  .have:=Own.sl o;unfold bM;rw[kq];exact this
  .have d:v2≠ .nils:=λ q=>by
    subst q;have:=Own.sl o;exact absurd this.2 (by intro z;cases z)
   have:=w _ ⟨d,rfl⟩;omega
section
variable{H0 H:ar}{r b:Nat}{sv bv:AV}{n:No}{ks:List Nat}
def ag8(ks:List Nat)(line:Int):ints (Al ks line)=(ints ks).filter (· ≠line):=by
 unfold ints Al;rw[List.filter_map];congr 1;refine List.filter_congr λ k _=>?_;show((k:Int) != line)=decide ((k:Int)≠line)
 by_cases q:(k:Int)=line<;>simp[q]
def E3(c:Ca)(line:Int):tc c line=.tuple [.agg (aE ((c.find line).getD .zero)),.bool (c.find line).isSome]:=by
 unfold tc;cases c.find line<;>rfl
def VF{x:En}{too:Bool}(h:CI n.lines n.c):CI n.lines (n.lost x too).c:=by
 unfold No.lost;split
 .split
  .exact h.discard
  .exact h.discard
 .exact h
def G9(x:En)(too:Bool):(n.lost x too).aN=n.aN/\(n.lost x too).core=n.core/\(n.lost x too).lines=n.lines/\(n.lost x too).c.us=n.c.us:=by
 unfold No.lost;split
 .split<;>exact⟨rfl,rfl,rfl,rfl⟩
 .exact ⟨rfl,rfl,rfl,rfl⟩
def Nl(c:Ca)(line:Int):(c.drop line).1.sl.length=c.sl.length/\(c.drop line).1.us=c.us:=by
 unfold Ca.drop;cases c.lI line 0 with
 |none=>exact⟨rfl,rfl⟩
 |some i=>exact⟨xq,rfl⟩
def Z_(c:Ca)(line:Int):(c.cV line).1.sl.length=c.sl.length/\(c.cV line).1.us=c.us:=by
 unfold Ca.cV;cases c.lI line 2 with
 |none=>exact⟨rfl,rfl⟩
 |some i=>exact⟨xq,rfl⟩
def _R(c:Ca)(line:Int)(d:L8):(c.cN line d).sl.length=c.sl.length/\(c.cN line d).us=c.us:=by
 unfold Ca.cN;cases c.lI line 1 with
 |none=>exact⟨rfl,rfl⟩
 |some i=>exact⟨xq,rfl⟩
def xlt(n:No)(x:En):(n.gone x).1.core=n.core:=by unfold No.gone;split<;>rfl
def xlq(n:No)(m:Mg):(n.fill m).1.core=n.core:=by
 have e:∀(n:No)(st:Int),(n.dR m st).1.core=n.core:=λ n st=>by
  unfold No.dR;split
  .exact xlt ..
  .rfl
 unfold No.fill;generalize(if m.k=15 then(2:Int)else 1)=st;unfold No.lf;split
 .exact e (n.iT 3) st
 .exact e n st
def vF(H0 H:ar)(r b:Nat)(sv bv:AV)(a:No×List Mg)(v:AV)(H':ar):Prop:=(∃ov e,v=.tuple [ov,e]/\mN H H' ov a.2)/\rU H0 H r b sv bv a.1 H'
def xj8(h:dc H0 H r b sv bv n ks)(U:CI n.lines n.c)(hk:n.aN.length<=900000)(hu:n.c.us+1<=1000000)(m:Mg):zj M ve [.ptr r 0,.agg (aq m)] H (vF H0 H r b sv bv (n.bS m)):=by
 refine q0m ?_;obtain⟨w0,w2,w10,w12,Z,w73,w34,w75,w40,w85,w41,w49,w53,w61⟩:=q0n M ⟨B5,ve⟩;have⟨H1,e1,f1,n1,g1⟩:=cI H (OR (aq m) xp);have hlr:=h.lt;have hlb:=h.ca.lt;have hls:aD sv<H.au:=h.ca.sl.lt;have hbf:=h.bk.fresh;have off:∀y,H.au<=y -> ¬iK r b sv bv y:=λ y hy q=>by
  rcases q with q|q|q
  .omega
  .exact q.elim (λ q=>by omega) λ q=>by omega
  .have:=hbf _ q;omega
 have P:∀y,H.au<=y -> ¬nG b sv y:=λ y hy q=>off y hy (.inr (.inl q));have G:∀{D:ar},D.get H.au=B1 (OR (aq m) xp)->Op.ah [.ptr H.au 0] D=B1 (.int .i64 m.k):=λ g=>zg (xe g) 0;have ldc:∀{D:ar},D.get H.au=B1 (OR (aq m) xp)->Op.ah [.ptr H.au 1] D=B1 (.int .i64 m.core):=λ g=>zg (xe g) 1;have p:∀{D:ar},D.get H.au=B1 (OR (aq m) xp)->Op.ah [.ptr H.au 2] D=B1 (.int .i64 m.line):=λ g=>zg (xe g) 2;have ldm:∀{D:ar},D.get H.au=B1 (OR (aq m) xp)->Op.aw 11 [.ptr H.au 0] D=B1 (.agg (aq m)):=λ g=>fC g (zk m);have ldd:∀{D:ar},D.get H.au=B1 (OR (aq m) xp)->Op.aw 8 [.ptr H.au 3] D=B1 (.agg (dE m.d)):=λ g=>by
  rw[tD (xe g) (by rw[zk];decide)];have⟨k,co,l,⟨d,hd⟩⟩:=m
  match d,hd with
  |[d0,d1,d2,d3,d4,d5,d6,d7],_=>rfl
 have h1:=h.em f1;simp only[ae,bc,w0,<-e1,w2,y9,w10,qt,h1.l2,p g1];refine C3.q (TO h1.ca U m.line) λ v I⟨J,f2⟩=>?_;rw[J,E3];obtain⟨x,hx⟩:∃x,x=(n.c.find m.line).getD .zero:=⟨_,rfl⟩
 rw[<-hx];obtain⟨H3,e3⟩:∃X,X=(I.alloc (OR (aE .zero) xt)).set I.au (OR (aE x) xt):=⟨_,rfl⟩
 have f3:Fr Em I H3:=by rw[e3];exact yB _ _
 have f03:Fr Em H H3:=(f1.trans f2 λ _ q=>q.elim).trans f3 λ _ q=>q.elim;have n2:=f2.au;have n3:H3.au=I.au+1:=by rw[e3];rfl
 have x3:H3.get I.au=B1 (OR (aE x) xt):=by rw[e3,xg]
 have g3:H3.get H.au=B1 (OR (aq m) xp):=by rw[f3.ai _ (by omega) id,f2.ai _ (by omega) id];exact g1
 have h3:=h.em f03;have ldx:∀{D:ar},D.get I.au=B1 (OR (aE x) xt)->Op.aw 21 [.ptr I.au 0] D=B1 (.agg (aE x)):=λ g=>fC g (jt x);simp only[ae,bc,xm,eZ,jR,<-e3]
 -- what is not heard
 have no:∀{e:Int},(m.core≠n.core\/m.line<0\/n.lines<=m.line \/ ¬n.jY m ((n.c.find m.line).getD .zero)) -> ∀{H':ar},Fr Em H H'->vF H0 H r b sv bv (n.bS m) (.tuple [.nils,.int .i64 e]) H':=by
  intro e q H' f;have O:n.bS m=(n,[]):=by unfold No.bS;rw[xb q]
  rw[O];exact⟨⟨.nils,_,rfl,mN.nil ..⟩,h.same f⟩
 by_cases q1:m.core=n.core
 case neg =>
  simp only[ae,bc,w12,ldc g3,qt,h3.l0,q1];exact no (.inl q1) f03
 by_cases q2:m.line<0
 .simp only[ae,bc,w12,ldc g3,qt,h3.l0,xf q1,p g3,q2];exact no (.inr (.inl q2)) f03
 by_cases Y:n.lines<=m.line
 .simp only[ae,bc,w12,ldc g3,qt,h3.l0,xf q1,p g3,q2,h3.l1,Y];exact no (.inr (.inr (.inl Y))) f03
 simp only[ae,bc,w12,ldc g3,qt,h3.l0,xf q1,p g3,q2,h3.l1,Y,ldm g3,ldx x3];refine C3.q (xcz h3 hk m x) λ v H4⟨J,f4⟩=>?_;rw[J];have Q:Fr Em H H4:=f03.trans f4 λ _ q=>q.elim;have n4:=f4.au;have h4:=h.em Q;have R:H4.get H.au=B1 (OR (aq m) xp):=by rw[f4.ai _ (by omega) id];exact g3
 have x4:H4.get I.au=B1 (OR (aE x) xt):=by rw[f4.ai _ (by omega) id];exact x3
 by_cases q4:n.jY m x
 case neg =>
  simp only[ae,bc,yo q4];exact no (.inr (.inr (.inr (by rw[<-hx];exact q4)))) Q
 have hn:¬(m.core≠n.core\/m.line<0\/n.lines<=m.line \/ ¬n.jY m ((n.c.find m.line).getD .zero)):=by
  rw[<-hx];rintro(w|w|w|w)
  .exact w q1
  .exact q2 w
  .exact Y w
  .exact w q4
 rw[yq q4]
 -- the words that a message has
 have S:∀{k line:Int}{d:L8}{D:ar}{a:Nat},D.get a=B1 (OR (aq ⟨k,n.core,line,.zero⟩) xp)->Op.store 8 [.ptr a 3,.agg (dE d)] D=B1 (.undef,D.set a (OR (aq ⟨k,n.core,line,d⟩) xp)):=λ{k line d D a}g=>by
  have s6:=wF g (o:=3) (n:=8) (v:=.agg (dE d)) (by rw[z6];exact wl _) (by rw[zk];decide) (by rw[z6];exact Az _);rw[Vk]at s6;exact s6
 by_cases s:m.k=11
 .have O:n.bS m=({n.lost x B4 with c:=((n.lost x B4).c.drop m.line).1},[n.msg 4 m.line]):=by
   unfold No.bS;rw[qv hn,xb s,<-hx]
  rw[O];simp only[ae,bc,Z,G R,xf s,ldx x4];refine C3.q (Vl h4 x B4) λ _ j⟨K,A⟩=>?_;have n5:=A.au;have T:j.get H.au=B1 (OR (aq m) xp):=by rw[A.ai _ (by omega) (off _ (by omega))];exact R
  simp only[ae,bc,qt,K.l2,p T];refine C3.q (Zp K.ca (VF U) m.line) λ _ C⟨_,L,z⟩=>?_;have g6:C.get H.au=B1 (OR (aq m) xp):=by rw[z.ai _ (by omega) (P _ (by omega))];exact T
  have hn6:=K.iI L z (by rw[(Nl ..).1];exact K.len);simp only[ae,bc,p g6];refine C3.q (FT hn6 4 m.line) λ v H7⟨J,F⟩=>?_;rw[J];have n6:=z.au;have n7:=F.au;have em:No.msg {n.lost x B4 with c:=((n.lost x B4).c.drop m.line).1} 4 m.line=n.msg 4 m.line:=by unfold No.msg;rw[show(No.core {n.lost x B4 with c:=((n.lost x B4).c.drop m.line).1})=n.core from(G9 (n:=n) x B4).2.1]
  rw[em];simp only[ae,bc,mZ,A6];exact⟨⟨_,_,rfl,Mj _ (by omega)⟩,rU.of ((hn6.em F).em ((Fr.refl _).alloc _)) (kA (kA (nE Q) A) ((kA (xC z) (nE F)).alloc _))⟩
 by_cases i:m.k=12\/m.k=13
 .have t13:¬(13:Int)=11:=by decide
  -- a recall
  have rec41:∀{E:Env},lk E 0=B1 (.ptr r 0)->lk E 3=B1 (.ptr H.au 0)->lk E 6=B1 (.ptr I.au 0)->lk E 7=B1 (.bool (n.c.find m.line).isSome) ->
   W M ⟨B5,ve⟩ (NL 41) B4 (eY 0 (fj (W M ⟨B5,ve⟩ (NL 73)) (eU M [.tmp 4,.tmp 5] (uI (vF H0 H r b sv bv (n.bS m)))))) E [] H4:=by
   intro E q0 Y q6 q7;cases hf:n.c.find m.line with
   |none =>
    have O:n.bS m=(n,[n.msg 6 m.line]):=by
     unfold No.bS;rw[qv hn,qv s,xb i,hf]
    rw[O];rw[hf]at q7;have q7:lk E 7=B1 (.bool B2):=q7;simp only[ae,bc,w41,q7,q0,Y,p R];refine C3.q (FT h4 6 m.line) λ v j⟨J,A⟩=>?_;rw[J];have n5:=A.au;simp only[ae,bc,mZ,A6];exact⟨⟨_,_,rfl,Mj _ (by omega)⟩,h.same ((Q.trans A λ _ q=>q.elim).alloc _)⟩
   |some x' =>
    have exx:x=x':=by rw[hx,hf];rfl
    subst exx;rw[hf]at q7;have q7:lk E 7=B1 (.bool B4):=q7
    -- behind the loss
    have go:∀{too:Bool}{j:ar},(too=B4↔m.k=13)->dc H0 j r b sv bv (n.lost x too) ks->Fr (iK r b sv bv) H4 j -> ∀{E:Env},lk E 0=B1 (.ptr r 0)->lk E 3=B1 (.ptr H.au 0)->lk E 6=B1 (.ptr I.au 0)->lk E 8=B1 (.ptr j.au 0) ->
     ∀{C:ar},C=(j.alloc (OR (aq ⟨0,0,0,.zero⟩) xp)).set j.au (OR (aq (n.msg 5 m.line)) xp) ->
     W M ⟨B5,ve⟩ (NL 53) B4 (eY 0 (fj (W M ⟨B5,ve⟩ (NL 73)) (eU M [.tmp 4,.tmp 5] (uI (vF H0 H r b sv bv (n.bS m)))))) E [] C:=by
     intro too j ht K A E q0 Y q6 q8 C e6;have n5:=A.au;have z:Fr Em j C:=by rw[e6];exact yB _ _
     have n6:C.au=j.au+1:=by rw[e6];rfl
     have L:=K.em z;have T:j.get H.au=B1 (OR (aq m) xp):=by rw[A.ai _ (by omega) (off _ (by omega))];exact R
     have g6:C.get H.au=B1 (OR (aq m) xp):=by rw[z.ai _ (by omega) id];exact T
     have x5:j.get I.au=B1 (OR (aE x) xt):=by rw[A.ai _ (by omega) (off _ (by omega))];exact x4
     have x6:C.get I.au=B1 (OR (aE x) xt):=by rw[z.ai _ (by omega) id];exact x5
     have b6:C.get j.au=B1 (OR (aq (n.msg 5 m.line)) xp):=by rw[e6,xg]
     have f06:Fr (iK r b sv bv) H C:=kA (kA (nE Q) A) (nE z)
     -- the answer
     have out:∀{d:L8}{n':No}{N:ar},n.bS m=(n',[⟨5,n.core,m.line,d⟩])->dc H0 N r b sv bv n' ks->Fr (iK r b sv bv) H N->C.au<=N.au -> ∀{E:Env},lk E 8=B1 (.ptr j.au 0) ->
      W M ⟨B5,ve⟩ (NL 61) B4 (eY 0 (fj (W M ⟨B5,ve⟩ (NL 73)) (eU M [.tmp 4,.tmp 5] (uI (vF H0 H r b sv bv (n.bS m)))))) E [] (N.set j.au (OR (aq ⟨5,n.core,m.line,d⟩) xp)):=by
      intro d n' N O h8 f8 n8 E q8;rw[O];have ld:=fC (xg N j.au (OR (aq ⟨5,n.core,m.line,d⟩) xp)) (zk _);simp only[ae,bc,w61,q8,ld,mZ,A6];have f9:Fr (On j.au) N (N.set j.au (OR (aq ⟨5,n.core,m.line,d⟩) xp)):=(Fr.refl N).set (W:=On j.au) (.inl rfl) _;have h9:=h8.off f9 (λ x(hx:x=j.au)=>by rw[hx];exact⟨by have:=h.bk.fr.au;omega,off _ (by omega)⟩);exact⟨⟨_,_,rfl,Mj _ (by rw[oO];omega)⟩,rU.of (h9.em ((Fr.refl _).alloc _)) ((f8.set (.inr (by omega)) _).alloc _)⟩
     by_cases B:m.k=12
     .have et:too=false:=by cases too with|false=>rfl|true=>have:=ht.1 rfl;omega
      subst et;have O:n.bS m=({n.lost x B2 with c:=((n.lost x B2).c.cV m.line).1},[⟨5,n.core,m.line,((n.lost x B2).c.cV m.line).2⟩]):=by
       unfold No.bS;rw[qv hn,qv s,xb i,hf];show(if m.k=12 then _ else _)=_;rw[xb B]
      simp only[ae,bc,w53,q0,Y,G g6,xf B,qt,L.l2,p g6];refine C3.q (xeq L.ca (VF U) m.line) λ v H7⟨J,h7,F⟩=>?_;rw[J];unfold tT;have n7:=F.au;have b7:H7.get j.au=B1 (OR (aq (n.msg 5 m.line)) xp):=by rw[F.ai _ (by omega) (P _ (by omega))];exact b6
      have hn7:=L.iI h7 F (by rw[(Z_ ..).1];exact L.len);simp only[ae,bc,xm,q8,S b7];exact out O hn7 (kA f06 (xC F)) (by omega) q8
     .have u:m.k=13:=by omega
      have et:too=true:=ht.2 u;subst et;have O:n.bS m=({n.lost x B4 with c:=((n.lost x B4).c.drop m.line).1},[⟨5,n.core,m.line,((n.lost x B4).c.drop m.line).2.d⟩]):=by
       unfold No.bS;rw[qv hn,qv s,xb i,hf];show(if m.k=12 then _ else _)=_;rw[qv B]
      simp only[ae,bc,w53,q0,Y,G g6,B,qt,L.l2,p g6];refine C3.q (Zp L.ca (VF U) m.line) λ v H7⟨J,h7,F⟩=>?_;rw[J];unfold yL;have n7:=F.au;have b7:H7.get j.au=B1 (OR (aq (n.msg 5 m.line)) xp):=by rw[F.ai _ (by omega) (P _ (by omega))];exact b6
      have x7:H7.get I.au=B1 (OR (aE x) xt):=by rw[F.ai _ (by omega) (P _ (by omega))];exact x6
      have hn7:=L.iI h7 F (by rw[(Nl ..).1];exact L.len);have s8:=ij x7 (jt _) (jt ((n.lost x B4).c.drop m.line).2) (Aj _);obtain⟨N,e8⟩:∃X,X=H7.set I.au (OR (aE ((n.lost x B4).c.drop m.line).2) xt):=⟨_,rfl⟩
      rw[<-e8]at s8;have f8:Fr (On I.au) H7 N:=by rw[e8];exact(Fr.refl H7).set (W:=On I.au) (.inl rfl) _
      have x8:N.get I.au=B1 (OR (aE ((n.lost x B4).c.drop m.line).2) xt):=by rw[e8,xg]
      have b8:N.get j.au=B1 (OR (aq (n.msg 5 m.line)) xp):=by rw[f8.ai _ (by omega) (λ(q:j.au=I.au)=>by omega)];exact b7
      have ld8:Op.aw 8 [.ptr I.au 4] N=B1 (.agg (dE ((n.lost x B4).c.drop m.line).2.d)):=by rw[tD (xe x8) (by rw[jt];decide),CC]
      have hn8:=hn7.off f8 (λ x(hx:x=I.au)=>by rw[hx];exact⟨by have:=h.bk.fr.au;omega,off _ (by omega)⟩);have f78:Fr (iK r b sv bv) H N:=by rw[e8];exact(kA f06 (xC F)).set (.inr (by omega)) _
      simp only[ae,bc,xm,q6,q8,s8,ld8,S b8];exact out O hn8 f78 (by have:=f8.au;omega) q8
    by_cases B:m.k=12
    .have u:¬m.k=13:=by omega
     simp only[ae,bc,w41,q7,w49,q0,Y,q6,ldx x4,G R,u];refine C3.q (Vl h4 x B2) λ _ j⟨K,A⟩=>?_;have n5:=A.au;have T:j.get H.au=B1 (OR (aq m) xp):=by rw[A.ai _ (by omega) (off _ (by omega))];exact R
     simp only[ae,bc,p T];refine C3.q (FT K 5 m.line) λ v C⟨J,z⟩=>?_;have em:(n.lost x B2).msg 5 m.line=n.msg 5 m.line:=by unfold No.msg;rw[(G9 (n:=n) x B2).2.1]
     rw[J,em];have s6:=ij (xr C (OR (aq ⟨0,0,0,.zero⟩) xp)) (zk _) (zk (n.msg 5 m.line)) (rP _);simp only[ae,bc,mZ,s6];refine go (too:=B2) ⟨λ q=>(by cases q),λ q=>absurd q u⟩ (K.em z) (kA A (nE z)) ?_ ?_ ?_ ?_ ?_
     .exact q0
     .exact Y
     .exact q6
     .rfl
     .rfl
    .have u:m.k=13:=by omega
     simp only[ae,bc,w41,q7,w49,q0,Y,q6,ldx x4,G R,xf u];refine C3.q (Vl h4 x B4) λ _ j⟨K,A⟩=>?_;have n5:=A.au;have T:j.get H.au=B1 (OR (aq m) xp):=by rw[A.ai _ (by omega) (off _ (by omega))];exact R
     simp only[ae,bc,p T];refine C3.q (FT K 5 m.line) λ v C⟨J,z⟩=>?_;have em:(n.lost x B4).msg 5 m.line=n.msg 5 m.line:=by unfold No.msg;rw[(G9 (n:=n) x B4).2.1]
     rw[J,em];have s6:=ij (xr C (OR (aq ⟨0,0,0,.zero⟩) xp)) (zk _) (zk (n.msg 5 m.line)) (rP _);simp only[ae,bc,mZ,s6];refine go (too:=B4) ⟨λ _=>u,λ _=>rfl⟩ (K.em z) (kA A (nE z)) ?_ ?_ ?_ ?_ ?_
     .exact q0
     .exact Y
     .exact q6
     .rfl
     .rfl
  by_cases B:m.k=12
  .simp only[ae,bc,Z,G R,s,w34,xf B,w40];exact rec41 rfl rfl rfl rfl
  .have u:m.k=13:=by omega
   simp only[ae,bc,Z,G R,s,w34,B,xf u,w40];exact rec41 rfl rfl rfl rfl
 have B:¬m.k=12:=λ q=>i (.inl q);have u:¬m.k=13:=λ q=>i (.inr q)
 by_cases V:m.k=16
 .have O:n.bS m=({n with aN:=n.aN.filter (· ≠m.line)},[]):=by
   unfold No.bS;rw[qv hn,qv s,qv i,xb V]
  rw[O];have hkl:=h.kl;simp only[ae,bc,Z,G R,s,w34,B,u,w40,xf V,qt,h4.vP];refine C3.q (xep (t:=H.au) (line:=m.line) (λ f=>p (by rw[f.ai _ (by omega) λ q=>by have:=hbf _ q;omega];exact R)) h4.bk (by omega)) λ v j⟨hs,A,w5⟩=>?_;have⟨C,s6,L,z⟩:=h4.J4 hs A (λ x q=>.inl (w5 x q));simp only[ae,bc,s6];rw[ag8,<-h.eq]at L;exact⟨⟨_,_,rfl,mN.nil ..⟩,v,_,L,kA (nE Q) z,λ x q=>.inl (w5 x q)⟩
 -- what was asked for
 have⟨j,s5,K,A⟩:=h4.EF ⟨0,0,0,.zero⟩;have n5:=A.au;have T:j.get H.au=B1 (OR (aq m) xp):=by rw[A.ai _ (by omega) (λ(q:H.au=r)=>by omega)];exact R
 have f05:Fr (iK r b sv bv) H j:=kA (nE Q) (Kr A);cases hf:n.c.find m.line with
 |some x' =>
  have O:n.bS m=({n with out:=⟨0,0,0,.zero⟩,c:=n.c.cN m.line m.d},[n.msg 7 m.line]):=by
   unfold No.bS;rw[qv hn,qv s,qv i,qv V,hf]
  rw[O];simp only[ae,bc,Z,G R,s,w34,B,u,w40,V,w73,mZ,D5,qt,s5,w75,vn,K.l2,p T,ldd T];refine C3.q (xde K.ca U m.line m.d) λ _ C⟨L,z⟩=>?_;have g6:C.get H.au=B1 (OR (aq m) xp):=by rw[z.ai _ (by omega) (P _ (by omega))];exact T
  have hn6:=K.iI L z (by rw[(_R ..).1];exact K.len);simp only[ae,bc,p g6];refine C3.q (FT hn6 7 m.line) λ v H7⟨J,F⟩=>?_;rw[J];have n6:=z.au;have n7:=F.au;simp only[ae,bc,A6];exact⟨⟨_,_,rfl,Mj _ (by omega)⟩,rU.of ((hn6.em F).em ((Fr.refl _).alloc _)) (kA f05 ((kA (xC z) (nE F)).alloc _))⟩
 |none =>
  have O:n.bS m=((No.fill {n with out:=⟨0,0,0,.zero⟩} m).1,(No.fill {n with out:=⟨0,0,0,.zero⟩} m).2 ++ [n.msg 7 m.line]):=by
   unfold No.bS;rw[qv hn,qv s,qv i,qv V,hf]
  rw[O];simp only[ae,bc,Z,G R,s,w34,B,u,w40,V,w73,mZ,D5,qt,s5,w75,Lb,w85,ldm T];refine C3.q (xjb K U hk hu m (by omega)) λ v C⟨hm6,bv',ks',L,z,w6⟩=>?_;have n6:=z.au;have g6:C.get H.au=B1 (OR (aq m) xp):=by rw[z.ai _ (by omega) (off _ (by omega))];exact T
  simp only[ae,bc,p g6];refine C3.q (FT L 7 m.line) λ v H7⟨J,F⟩=>?_;have ec:(No.fill {n with out:=⟨0,0,0,.zero⟩} m).1.core=n.core:=xlq _ m;have em:(No.fill {n with out:=⟨0,0,0,.zero⟩} m).1.msg 7 m.line=n.msg 7 m.line:=by unfold No.msg;rw[ec]
  rw[J,em];simp only[ae,bc,A6];have n7:=F.au;refine LO (H:=j) (m:=n.msg 7 m.line) (hm6.em (F.alloc _)) (LR _) (by rw[xz];omega) λ v2 N hms f8=>?_;simp only[ae,bc];have f68:Fr Em C N:=(F.alloc _).trans f8 λ _ q=>q.elim;exact⟨⟨_,_,rfl,hms.1,λ q=>by have:=hms.2 q;omega⟩,bv',ks',L.em f68,kA f05 (kA z (nE f68)),λ x q=>(w6 x q).imp id λ w=>by omega⟩
end
end Go.Am
namespace Go.Am
open Go.Proofs Ca
open Lang (ints)
variable{M:ao}[MK M]
section
variable{H0 H:ar}{r b:Nat}{sv bv:AV}{n:No}{ks:List Nat}
def Ft{lines line:Int}{c:Ca}(h:CI lines c):0<=(c.drop line).2.line:=by
 unfold Ca.drop;cases hp:c.lI line 0 with
 |none=>exact uj _
 |some i =>
  rw[sH]at hp;obtain⟨a,d,e,hl,-⟩:=h.bC hp;show 0<=(c.en i).line;rw[hl];exact a
end
end Go.Am
namespace Go.Am
open Go.Proofs Ca
open Lang (ints)
variable{M:ao}[MK M]
structure Bd(n n':No):Prop where
 bk:n'.aN.length<=n.aN.length+1
 us:n'.c.us<=n.c.us+2
section
variable{n:No}
def U_(n:No)(x:En):(n.gone x).1.aN.length<=n.aN.length+1/\(n.gone x).1.c=n.c:=by
 unfold No.gone;split
 .exact ⟨by show(n.aN ++ [x.line]).length<=_;rw[xc];exact qm _,rfl⟩
 .exact ⟨ke _,rfl⟩
def η(n:No)(m:Mg)(st:Int):(n.dR m st).1.aN.length<=n.aN.length+1/\(n.dR m st).1.c.us<=n.c.us+1:=by
 have h:=(Yy n.c m.line st m.d).2;unfold No.dR;split
 .obtain ⟨a,b⟩:=U_ {n with c:=(n.c.fill m.line st m.d).1} (n.c.fill m.line st m.d).2.1;exact⟨a,by rw[b];show(n.c.fill m.line st m.d).1.us<=_;omega⟩
 .exact ⟨ke _,by show(n.c.fill m.line st m.d).1.us<=_;omega⟩
def I2(n:No)(m:Mg):Bd n (n.fill m).1:=by
 unfold No.fill;generalize(if m.k=15 then(2:Int)else 1)=st;unfold No.lf;split
 .obtain ⟨a,b⟩:=η (n.iT 3) m st;have e:(n.iT 3).c.us=n.c.us:=rfl;exact⟨a,by omega⟩
 .obtain ⟨a,b⟩:=η n m st;exact⟨a,by omega⟩
def Bd.refl(n:No):Bd n n:=⟨by omega,by omega⟩
def YG(n:No)(k line:Int):Bd n (n.ask k line).1:=by
 unfold No.ask;split
 .exact Bd.refl n
 .exact ⟨ke _,by show n.c.us<=_;omega⟩
def HZ(n:No)(m:Mg):Bd n (n.bS m).1:=by
 unfold No.bS;split
 .exact Bd.refl n
 split
 .exact ⟨by show(n.lost _ B4).aN.length<=_;rw[(G9 _ B4).1];omega,by show(Ca.drop _ _).1.us<=_;rw[(Nl ..).2,(G9 _ B4).2.2.2];omega⟩
 split
 .cases n.c.find m.line with
  |none=>exact Bd.refl n
  |some x =>
   show Bd n (Prod.fst (if m.k=12 then _ else _));split
   .exact ⟨by show(n.lost _ B2).aN.length<=_;rw[(G9 _ B2).1];omega,by show(Ca.cV _ _).1.us<=_;rw[(Z_ ..).2,(G9 _ B2).2.2.2];omega⟩
   .exact ⟨by show(n.lost _ B4).aN.length<=_;rw[(G9 _ B4).1];omega,by show(Ca.drop _ _).1.us<=_;rw[(Nl ..).2,(G9 _ B4).2.2.2];omega⟩
 split
 .exact ⟨by show(n.aN.filter _).length<=_;have:=List.length_filter_le (λ x=>decide (x≠m.line)) n.aN;omega,by show n.c.us<=_;omega⟩
 .cases n.c.find m.line with
  |some x=>exact⟨ke _,by show(n.c.cN m.line m.d).us<=_;rw[(_R ..).2];omega⟩
  |none =>
   obtain⟨a,b⟩:=I2 {n with out:=⟨0,0,0,.zero⟩} m;exact⟨a,b⟩
def Ht(n:No)(line:Int):Bd n (n.da line).1:=by
 unfold No.da;split
 .exact Bd.refl n
 .cases n.c.find line with
  |none=>exact Bd.refl n
  |some x =>
   have e:∀n':No,n'.aN=n.aN->n'.c.us=n.c.us->Bd n (No.gone {n' with c:=(n'.c.drop line).1} (n'.c.drop line).2).1:=λ n' e1 e2=>by
    obtain⟨a,b⟩:=U_ {n' with c:=(n'.c.drop line).1} (n'.c.drop line).2;refine⟨by rw[<-e1];exact a,?_⟩;rw[b];show(n'.c.drop line).1.us<=_;rw[(Nl ..).2,e2];omega
   show Bd n (No.gone _ _).1
   by_cases q:(x.r ||x.w)=B4
   .simp only[xb q];exact e (n.iT 4) rfl rfl
   .simp only[qv q];exact e n rfl rfl
def HB(n:No)(a:Int):Bd n (n.load a).1:=by
 unfold No.load;split
 .cases n.c.find (No.ln a)with
  |none=>exact YG ..
  |some x =>
   refine⟨ke _,?_⟩;show((if n.live=B4 then n.c.mark (No.ln a) B2 else n.c).word a.toNat).1.us<=_;have d:=(QJ (if n.live=B4 then n.c.mark (No.ln a) B2 else n.c) a.toNat).2;have e:(if n.live=B4 then n.c.mark (No.ln a) B2 else n.c).us=n.c.us:=by split;exact(TQ ..).1;rfl
   omega
 .exact Bd.refl n
def Cq(n:No)(a y:Int):Bd n (n.store a y).1:=by
 unfold No.store;split
 .split
  .refine ⟨ke _,?_⟩;show((if n.live=B4 then n.c.mark (No.ln a) B4 else n.c).put a.toNat y).us<=_;have d:=(UB (if n.live=B4 then n.c.mark (No.ln a) B4 else n.c) a.toNat y).2;have e:(if n.live=B4 then n.c.mark (No.ln a) B4 else n.c).us=n.c.us:=by split;exact(TQ ..).1;rfl
   omega
  .exact YG ..
 .exact Bd.refl n
def MA(n:No)(a o y:Int):Bd n (n.nD a o y).1:=by
 unfold No.nD;split
 .split
  .exact Bd.refl n
  .split
   .refine ⟨ke _,?_⟩;have d:=(QJ n.c a.toNat).2;show(if(n.c.word a.toNat).2.getD 0=o then(n.c.word a.toNat).1.put a.toNat y else(n.c.word a.toNat).1).us<=_;split
    .have e:=(UB (n.c.word a.toNat).1 a.toNat y).2;omega
    .omega
   .exact YG ..
 .exact Bd.refl n
end
def pM(core lines s w:Int):No:=⟨core,lines,pw s.toNat w.toNat,⟨0,0,0,.zero⟩,[],B2,0⟩
def wL(core lines cores s w:Int):Prop:=sG s w/\0<=core/\core<cores/\cores<=4/\2<=lines/\lines<=64
def ae9{core lines cores s w:Int}(h:wL core lines cores s w):(pM core lines s w).NI:=by
 obtain⟨⟨a,b,c,d⟩,-⟩:=h;exact⟨ah3 lines (by omega) (by omega),λ _=>xfj s.toNat w.toNat⟩
def eH(lines cores s w:Int):List AV:=[.int .i64 lines,.int .i64 cores,.int .i64 s,.int .i64 w]
def YI(core lines:Int)(b:Nat)(s w:Int):Op.build [.int .i64 0,.int .i64 0,.nilp,.int .i64 0,.int .i64 0,.int .i64 0,.int .u64 0,.int .u64 0,.int .u64 0,.int .u64 0,.int .u64 0,.int .u64 0,.int .u64 0,.int .u64 0,.nils,.bool B2,.int .i64 0] [(0,1),(1,1),(2,1)] [.int .i64 core,.int .i64 lines,.ptr b 0]=B1 (.agg (rQ (pM core lines s w) b .nils)):=rfl
def Dj(H:ar)(core lines cores s w:Int)(v:AV)(H':ar):Prop:=(¬wL core lines cores s w/\v=.tuple [.nilp,.int .i64 2]/\Fr Em H H')\/wL core lines cores s w /\ ∃r b sv,v=.tuple [.ptr r 0,.int .i64 0]/\dc H H' r b sv .nils (pM core lines s w) []
def xc8{H:ar}(core lines cores s w:Int):zj M XT [.int .i64 core,.agg (eH lines cores s w)] H (Dj H core lines cores s w):=by
 refine xjc ?_;obtain⟨w0,w4,p⟩:=xjd M ⟨B5,XT⟩;obtain⟨H1,e1,z,n1,l⟩:=cI H (OR (eH lines cores s w) AH);have l2:Op.ah [.ptr H.au 2] H1=B1 (.int .i64 s):=zg (xe l) 2;have l3:Op.ah [.ptr H.au 3] H1=B1 (.int .i64 w):=zg (xe l) 3;simp only[ae,bc,w0,<-e1,l2,l3];refine C3.q (xi3 (M:=M) s w) λ v f⟨t,h⟩=>?_;have x:f.get H.au=B1 (OR (eH lines cores s w) AH):=by rw[t.ai _ (by omega) id];exact l
 have l0:Op.ah [.ptr H.au 0] f=B1 (.int .i64 lines):=zg (xe x) 0;have l1:Op.ah [.ptr H.au 1] f=B1 (.int .i64 cores):=zg (xe x) 1;have e:Fr Em H f:=z.trans t λ _ q=>q.elim;have C:¬(2:Int)=0:=by decide
 have E:=xf (show(0:Int)=0 from rfl);rcases h with⟨hn,h⟩|⟨ho,b,sv,h,m,hb,hs⟩
 .rw [h];simp only[ae,bc,xm,w4,C];exact .inl ⟨λ q=>hn q.1,rfl,e⟩
 rw[h]
 by_cases g:core<0
 .simp only[ae,bc,xm,w4,g];exact .inl ⟨λ q=>by have:=q.2.1;omega,rfl,e⟩
 by_cases i:cores<=core
 .simp only[ae,bc,xm,w4,g,l1,i];exact .inl ⟨λ q=>by have:=q.2.2.1;omega,rfl,e⟩
 by_cases j:4<cores
 .simp only[ae,bc,xm,w4,g,l1,i,j];exact .inl ⟨λ q=>by have:=q.2.2.2.1;omega,rfl,e⟩
 by_cases o:lines<2
 .simp only[ae,bc,xm,w4,g,l1,i,j,l0,o];exact .inl ⟨λ q=>by have:=q.2.2.2.2.1;omega,rfl,e⟩
 by_cases y:64<lines
 .simp only[ae,bc,xm,w4,g,l1,i,j,l0,o,y];exact .inl ⟨λ q=>by have:=q.2.2.2.2.2;omega,rfl,e⟩
 obtain⟨D,k,u,-,-⟩:=cI f (OR (rQ (pM core lines s w) b .nils) Rn);simp only[ae,bc,xm,w4,g,l1,i,j,l0,o,y,p,YI core lines b s w,<-k];have A:=m.lt;have B:aD sv<f.au:=m.sl.lt;refine .inr ⟨⟨ho,by omega,by omega,by omega,by omega,by omega⟩,f.au,b,sv,rfl,⟨by rw[k,xr],by rw[k,xz];omega,m.em u,⟨.inl ⟨rfl,rfl⟩,e.trans u λ _ q=>q.elim⟩,rfl,e.au,by omega,by omega,by omega,by omega,λ q=>q.1 rfl,λ q=>q.1 rfl,λ q=>q.1 rfl,⟨by show 2<=lines;omega,by show lines<=64;omega⟩,?_⟩⟩;show(Jv (s.toNat*w.toNat) En.zero).length<=40;rw[jc];obtain⟨a,b,c,d⟩:=ho;have:=Nat.mul_le_mul (show s.toNat<=8 by omega) (show w.toNat<=4 by omega);omega
end Go.Am
