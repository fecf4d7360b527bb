import Derived.Test.YtgjdmncoonceaaaGreatDoorAmNZf
import Derived.Test.YtgjdmncoonceaaaGreatDoorAmNZg
set_option linter.defProp false
set_option linter.unusedVariables false
set_option linter.unusedSimpArgs false
set_option linter.unusedSectionVars false
set_option maxRecDepth 100000
open Bool renaming false→B2,true→B4
open Go renaming IntKind→P0
open List renaming replicate→Jm
open Nat renaming beq→J2,ble→Oc,blt→PE
open Option renaming none→B5,some→B1
open Nat renaming reduceEqDiff→bc
namespace Go.Am
open Go.Proofs Ca
open Lang (ints)
variable{M:ak}[MK M]
def qA(ks:List Nat)(z:Int):Int:=match dH (λ i=>(ks[i]?.getD 0:Int) == z) ks.length with
 |some i=>i
 |none=>-1
section
variable{H H0:ar}{v:AV}{ks:List Nat}
def TQ(h:bX ia 1 H v ks){i:Nat}(c:i<ks.length):Op.aQ 1 [v,.int .i64 (i:Int)]=B1 (.ptr (aF v) (cZ 1 v i))/\Op.ae [.ptr (aF v) (cZ 1 v i)] H=B1 (.int .i64 (ks[i]?.getD 0:Nat)):=by
 have a:ks[i]? = B1 ks[i]:=by simp[c]
 refine⟨h.idx a rfl .i64,?_⟩;rw[h.jO af4 a (by decide),a];rfl
def xi9(h:bX ia 1 H v ks)(hl:ks.length<=1000000)(z:Int):zd M Vr [v,.int .i64 z] H λ r H'=>r=.int .i64 (qA ks z)/\H'=H:=by
 refine qwo ?_;obtain⟨w0,w2,j,l,d,g⟩:=qwp M ⟨B5,Vr⟩;simp only[aa,bc,w0,w2,h.len];refine cK.intro (λ n E m=>∃i:Nat,E=[(8,.int .i64 (i:Int)),(7,.int .i64 ((ks.length:Nat):Int)),(0,v),(1,.int .i64 z)]/\n=ks.length-i/\i<=ks.length/\m=H /\ ∀k,k<i->((ks[k]?.getD 0:Int) == z)=B2) ?_ ?_
 .exact ⟨_,_,⟨0,rfl,rfl,xz _,rfl,λ k hk=>by omega⟩,by simp only[aa,bc]⟩
 rintro n E m ⟨i,rfl,rfl,s,rfl,a⟩;rcases x9 i ks.length with c|o
 .have f:(i:Int)<((ks.length:Nat):Int):=by omega
  have⟨ix,ld⟩:=TQ h c;have p:aj .i64 ((i:Int)+1)=((i+1:Nat):Int):=by rw[jk (by omega) (by omega)];omega
  by_cases q:z=((ks[i]?.getD 0:Nat):Int)
  .simp only[aa,bc,l,f,d,ix,ld,xb q];unfold qA;rw[Ov c (by simp[<-q]) a]
  .simp only[aa,bc,l,f,d,ix,ld,q,g,p];refine⟨_,_,⟨i+1,rfl,rfl,by omega,λ k hk=>?_⟩,by simp only[aa,bc],by omega⟩
   by_cases e:k=i
   .rw [e];simpa using λ w=>q w.symm
   .exact a k (by omega)
 .have f:¬(i:Int)<((ks.length:Nat):Int):=by omega
  have e:i=ks.length:=by omega
  subst e;simp only[aa,bc,l,f,j];unfold qA;rw[NK a]
def IW{z:Int}:0<=qA ks z↔z∈ints ks:=by
 unfold qA;cases c:dH (λ i=>(ks[i]?.getD 0:Int) == z) ks.length with
 |some i =>
  obtain⟨a,b,-⟩:=MT c;refine⟨λ _=>?_,λ _=>by show(0:Int)<=(i:Nat);omega⟩;have f:ks[i]? = B1 ks[i]:=by simp[a]
  rw[f]at b;have b:((ks[i]:Nat):Int)=z:=by simpa using b
  rw[<-b];exact F1.2 ⟨ks[i],zg f,rfl⟩
 |none =>
  refine⟨λ q=>by have q:(0:Int) <= -1:=q;omega,λ q=>?_⟩;exfalso;have⟨k,hk,e⟩:=F1.1 q;have⟨i,d⟩:=LH hk;have:=xcv c i (qo.1 d).1;rw[d]at this;have e:((k:Nat):Int)=z:=e;simp[e]at this
def y_(h:bX ia 1 H v ks)(hl:ks.length<=1000000)(z:Int):zd M qjc [v,.int .i64 z] H λ r H'=>r=.bool (decide (z∈ints ks))/\H'=H:=by
 refine qr1 ?_;simp only[aa,bc,qr2];refine C3.q (xi9 h hl z) λ r H1⟨hr,a⟩=>?_;rw[hr,a];simp only[aa,bc];exact congrArg AV.bool (decide_eq_decide.2 IW)
def G'{t:Nat}{line:Int}(x:Int)(hl:Op.ae [.ptr t 2] H=B1 (.int .i64 line)):zd M Vi [.int .i64 x,.ptr t 0] H λ r H'=>r=.bool (decide (x=line))/\H'=H:=by
 refine qwh ?_
 by_cases q:x=line
 .simp only[aa,bc,qmq,hl,xb q]
 .simp only[aa,bc,qmq,hl,q]
abbrev IF(t:Nat):AV:=.fn (.func Vi) [] [.ptr t 0]
def xfk{t:Nat}{line:Int}(hl:Op.ae [.ptr t 2] H=B1 (.int .i64 line))(h:bX ia 1 H v ks)(hk:ks.length<=1000000):zd M ZP [v,IF t] H λ r H'=>r=.int .i64 (qA ks line)/\H'=H:=by
 refine qqd ?_;obtain⟨w0,w2,j,m,f,g⟩:=qqe M ⟨B5,ZP⟩;simp only[aa,bc,w0,w2,h.len];refine cK.intro (λ n E l=>∃i:Nat,E=[(8,.int .i64 (i:Int)),(7,.int .i64 ((ks.length:Nat):Int)),(0,v),(1,IF t)]/\n=ks.length-i/\i<=ks.length/\l=H /\ ∀k,k<i->((ks[k]?.getD 0:Int) == line)=B2) ?_ ?_
 .exact ⟨_,_,⟨0,rfl,rfl,xz _,rfl,λ k hk=>by omega⟩,by simp only[aa,bc]⟩
 rintro n E l ⟨i,rfl,rfl,u,rfl,a⟩;rcases x9 i ks.length with c|o
 .have d:(i:Int)<((ks.length:Nat):Int):=by omega
  have⟨ix,ld⟩:=TQ h c;have s:aj .i64 ((i:Int)+1)=((i+1:Nat):Int):=by rw[jk (by omega) (by omega)];omega
  simp only[aa,bc,m,d,f,ix,ld];refine C3.q (G' _ hl) λ r H1⟨hr,p⟩=>?_;rw[hr,p]
  by_cases q:((ks[i]?.getD 0:Nat):Int)=line
  .simp only[aa,bc,q];unfold qA;rw[Ov c (by simp[q]) a]
  .simp only[aa,bc,q,g,s];refine⟨_,_,⟨i+1,rfl,rfl,by omega,λ k hk=>?_⟩,by simp only[aa,bc],by omega⟩
   by_cases e:k=i
   .rw [e];simpa using q
   .exact a k (by omega)
 .have d:¬(i:Int)<((ks.length:Nat):Int):=by omega
  have e:i=ks.length:=by omega
  subst e;simp only[aa,bc,m,d,j];unfold qA;rw[NK a]
def xl6(ks:List Nat)(rest:List AV){i:Nat}(a:i<ks.length)(y:Nat):(ks.flatMap ia++rest).take i ++ [AV.int .i64 (y:Int)]++(ks.flatMap ia++rest).drop (i+1)=(ks.set i y).flatMap ia++rest:=by
 have hl:=vT ks;rw[vk (by omega),List.drop_append_of_le_length (by omega),<-je];congr 1;rw[Oh,Oh,List.map_set,List.set_eq_take_append_cons_drop,xg (by rw[xr];exact a)];simp
def mM.AG{e:Nat}(h:mM e H0 H v ks){i:Nat}(a:i<ks.length)(y:Nat):∃H',Op.store 1 [.ptr (aF v) (cZ 1 v i),.int .i64 (y:Int)] H=B1 (.undef,H')/\mM e H0 H' v (ks.set i y)/\Fr (aM v) H H':=by
 rcases h.own with⟨rfl,rfl⟩|⟨b,m,rest,rfl,f,c,g,j⟩
 .simp at a
 .have st:=q6x j (o:=i) (n:=1) (v:=.int .i64 (y:Int)) rfl (by rw[qv,vT];omega) rfl;have d:AV.cells (.int .i64 (y:Int))=[.int .i64 (y:Int)]:=rfl;rw[d,xl6 ks rest a]at st;have ho:cZ 1 (AV.gslice b 0 m 1 0 ks.length) i=i:=by simp[cZ]
  rw[ho];refine⟨_,st,⟨.inr ⟨b,m,rest,by rw[xw],f,c,by rw[xw];exact g,xe ..⟩,h.fr.set (.inr c) _⟩,(Fr.refl H).set (W:=aM (AV.gslice b 0 m 1 0 ks.length)) (.inl ⟨by simp,rfl⟩) _⟩
def Tn:∀n:Nat,fK n [AV.int .i64 0]=(Jm n 0).flatMap ia
 |0=>rfl
 |n+1=>by rw[fK,Qw,jz,<-Tn n];rfl
theorem mM.rM{e:Nat}(h:mM e H0 H v ks){k:Nat}(hk:k<=ks.length):∃v2 H',Op.aA 1 [B1 0,B5,B5] [v,.int .i64 (k:Int)]=B1 v2/\Op.bQ [.int .i64 0] [v2] H=B1 (.tuple [],H')/\mM e H0 H' v (ks.take k++Jm (ks.length-k) 0)/\Fr (aM v) H H':=by
 rcases h.own with⟨rfl,rfl⟩|⟨b,m,rest,rfl,x,t,C,y⟩
 .have:k=0:=by simpa using hk
  subst this;have i:bound B5 0 0=B1 0:=rfl;refine⟨.nils,H,by simp only[Op.aA,arg,kA,zo,qr,df,i];rfl,rfl,h,Fr.refl _⟩
 .have e1:∀n,J2 n n=true:=λ n=>by simp
  have g:∀d m,bound B5 d m=B1 d:=λ _ _=>rfl;refine⟨.gslice b (0+k) m 1 (cond (J2 k 0) 0 (0*1)) (ks.length-k),?_⟩;have sl:Op.aA 1 [B1 0,B5,B5] [AV.gslice b 0 m 1 0 ks.length,.int .i64 (k:Int)]=B1 (.gslice b (0+k) m 1 (cond (J2 k 0) 0 (0*1)) (ks.length-k)):=by
   simp only[Op.aA,arg,kA,zo,qr,df,g,tP (z:=(k:Int)) (k:=k) rfl hk .i64,e1,ye (show ks.length<=m-0 by omega),ye (xz m),z7,xu]
  have hle:(ks.take k).length=k:=by rw[jq];omega
  by_cases p:ks.length-k=0
  .refine ⟨H,sl,?_,?_,Fr.refl _⟩
   .rw [p];rfl
   .have e2:ks.take k++Jm (ks.length-k) 0=ks:=by rw[p,List.replicate_zero,zm,zh (by omega)]
    rw[e2];exact h
  .have l:eJ (.gslice b (0+k) m 1 (cond (J2 k 0) 0 (0*1)) (ks.length-k))=B1 (ks.length-k):=rfl;have f:J2 (ks.length-k) 0=false:=by cases s:J2 (ks.length-k) 0 with|false=>rfl|true=>rw[ke]at s;exact absurd s p
   have j:PE 0 (ks.length-k)=true:=by unfold PE;exact ye (by omega)
   have a:PE (0+k+0) m=true:=by unfold PE;exact ye (by omega)
   have he:elemAt 1 (.gslice b (0+k) m 1 (cond (J2 k 0) 0 (0*1)) (ks.length-k)) 0=B1 (b,(0+k)*1+0*1):=by
    simp only[elemAt,j,e1,a,z7,xu]
   have o:H.store b ((0+k)*1+0*1) (fK (ks.length-k) [.int .i64 0])=B1 (H.set b (.grown m 1 ((ks.take k++Jm (ks.length-k) 0).flatMap ia++rest) e (0,0))):=by
    have ha:aN (fK (ks.length-k) [AV.int .i64 0])=true:=by
     rw[Tn,vg,Oh];simp[aB]
    have w:dB (0,0) ((0+k)*1+0*1) (cQ (fK (ks.length-k) [AV.int .i64 0]))=true:=by simp[dB]
    simp only[ar.store,ha,xu,y,w,AH];have c:(fK (ks.length-k) [AV.int .i64 0]).length=ks.length-k:=by rw[Tn,vT,zx]
    have u:(0+k)*1+0*1=k:=by omega
    have A:(ks.flatMap ia++rest).take k=(ks.take k).flatMap ia:=by
     rw[vk (by rw[vT];exact hk),Oh,Oh,List.map_take]
    have B:(ks.flatMap ia++rest).drop (k+(ks.length-k))=rest:=by
     rw[show k+(ks.length-k)=(ks.flatMap ia).length by rw[vT];omega,List.drop_left]
    rw[u,xg (by rw[c,qv,vT];omega),qr,c,A,B,Tn,<-jr]
   refine⟨H.set b (.grown m 1 ((ks.take k++Jm (ks.length-k) 0).flatMap ia++rest) e (0,0)),sl,?_,⟨.inr ⟨b,m,rest,?_,x,t,?_,xe ..⟩,h.fr.set (.inr t) _⟩,(Fr.refl H).set (W:=aM (AV.gslice b 0 m 1 0 ks.length)) (.inl ⟨by simp,rfl⟩) _⟩
   .have q:[AV.int .i64 0].length=1:=rfl;simp only[Op.bQ,l,qr,f,zn,q,he,o]
   .rw [qv,hle,zx];congr 1;omega
   .rw [qv,hle,zx];omega
def Ay(ks:List Nat)(line:Int):List Nat:=ks.filter λ k=>((k:Nat):Int) != line
def xe6{t:Nat}{line:Int}{e:Nat}(hl:∀{m:ar},Fr (aM v) H m->Op.ae [.ptr t 2] m=B1 (.int .i64 line))(h:mM e H0 H v ks)(hk:ks.length<=1000000) :
 zd M Ym [v,IF t] H λ r H'=>mM e H0 H' r (Ay ks line)/\Fr (aM v) H H' /\ ∀x,aM r x->aM v x:=by
 refine qoz ?_;obtain⟨w0,w4,O,Q,B,P,C⟩:=qo0 M ⟨B5,Ym⟩;simp only[aa,bc,w0];refine C3.q (xfk (hl (Fr.refl _)) h.sl hk) λ r H1⟨hr,I⟩=>?_;rw[hr,I];cases F:dH (λ i=>(ks[i]?.getD 0:Int) == line) ks.length with
 |none =>
  have e1:qA ks line = -1:=by unfold qA;rw[F]
  have e2:Ay ks line=ks:=by
   unfold Ay;rw[List.filter_eq_self];intro k p;have⟨i,o⟩:=LH p;have:=xcv F i (qo.1 o).1;rw[o]at this
   simpa using this
  rw[e1,e2];have R:=xb (show(-1:Int) = -1 from rfl);simp only[aa,bc,w4];exact⟨h,Fr.refl _,λ x q=>q⟩
 |some a =>
  have⟨T,D,U⟩:=MT F;have e1:qA ks line=(a:Int):=by unfold qA;rw[F]
  rw[e1];have R:¬(a:Int) = -1:=by omega
  have G:aj .i64 ((a:Int)+1)=((a+1:Nat):Int):=by rw[jk (by omega) (by omega)];omega
  -- what is kept of the first ones
  have ah:∀j,(ks.take (j+1)).filter (λ k=>((k:Nat):Int) != line)=(ks.take j).filter (λ k=>((k:Nat):Int) != line)++(match ks[j]? with|none=>[]|some k=>if((k:Nat):Int)=line then[]else[k]):=λ j=>by
   rw[ku,List.filter_append];congr 1;cases ks[j]? with
   |none=>rfl
   |some k=>by_cases q:((k:Nat):Int)=line<;>simp[q]
  have h0:(ks.take a).filter (λ k=>((k:Nat):Int) != line)=ks.take a:=by
   rw[List.filter_eq_self];intro k p;have⟨i,o⟩:=LH p;rw[Jl]at o;split at o
   .rename_i w;have:=U i w;rw[o]at this
    simpa using this
   .cases o
  have A:ks[a]? = B1 ks[a]:=by simp[T]
  have h1:(ks.take (a+1)).filter (λ k=>((k:Nat):Int) != line)=ks.take a:=by
   rw[ah,h0,A];rw[A]at D;have D:((ks[a]:Nat):Int)=line:=by simpa using D
   simp[D]
  simp only[aa,bc,w4,R,O,G];refine cK.intro (λ n E m=>∃(i j:Nat)(c:List Nat),E=[(6,.int .i64 (j:Int)),(5,.int .i64 (i:Int)),(0,v),(1,IF t)]/\n=ks.length-j/\i<j/\j<=ks.length/\c.length=ks.length/\c.take i=(ks.take j).filter (λ k=>((k:Nat):Int) != line)/\c.drop j=ks.drop j/\mM e H0 m v c/\Fr (aM v) H m) ?_ ?_
  .exact ⟨_,_,⟨a,a+1,ks,rfl,rfl,by omega,by omega,rfl,h1.symm,rfl,h,Fr.refl _⟩,by simp only[aa,bc]⟩
  rintro n E m ⟨i,j,c,rfl,rfl,hij,hj,z,g,y,hs,f⟩;have u:=hs.sl.len;rw[z]at u;rcases x9 j ks.length with w|hge
  .have N:(j:Int)<((ks.length:Nat):Int):=by omega
   have⟨ix,ld⟩:=TQ hs.sl (i:=j) (by omega);obtain⟨L,-⟩:=TQ hs.sl (i:=i) (by omega);have K:c[j]? = ks[j]?:=by
    have:=congrArg (λ l=>l[0]?) y
    simpa[HW]using this
   obtain⟨k,s⟩:∃k,ks[j]? = B1 k:=⟨ks[j],by simp[w]⟩
   rw[K,s]at ld;have ld:Op.ae [.ptr (aF v) (cZ 1 v j)] m=B1 (.int .i64 (k:Int)):=ld;have G:aj .i64 ((j:Int)+1)=((j+1:Nat):Int):=by rw[jk (by omega) (by omega)];omega
   have wi:aj .i64 ((i:Int)+1)=((i+1:Nat):Int):=by rw[jk (by omega) (by omega)];omega
   have d:∀l:List Nat,l.drop (j+1)=(l.drop j).drop 1:=λ l=>by rw[Gk]
   simp only[aa,bc,B,u,N,P,ix,ld];refine C3.q (G' _ (hl f)) λ r H2⟨hr,I⟩=>?_;rw[hr,I]
   by_cases q:(k:Int)=line
   .simp only[aa,bc,xb q,C,G];exact⟨_,_,⟨i,j+1,c,rfl,rfl,by omega,by omega,z,by rw[ah,s,g];simp[q],by rw[d,y,<-d],hs,f⟩,by simp only[aa,bc],by omega⟩
   .have ⟨S,s3,J,f3⟩:=hs.AG (i:=i) (by omega) k;simp only[aa,bc,q,L,s3,wi,C,G];refine⟨_,_,⟨i+1,j+1,c.set i k,rfl,rfl,by omega,by omega,by rw[xw];exact z,?_,?_,J,f.trans f3 λ _ q=>.inl q⟩,by simp only[aa,bc],by omega⟩
    .rw [ah,s,<-g,ku,za (by omega),List.take_set_of_le (qm i)];simp[q]
    .rw [List.drop_set_of_lt (by omega),d,y,<-d]
  .have N:¬(j:Int)<((ks.length:Nat):Int):=by omega
   have ej:j=ks.length:=by omega
   subst ej;rw[zh (qm _)]at g;have⟨v2,S,V,W,X,Y⟩:=hs.rM (k:=i) (by omega);have⟨v3,d1,d2,d3⟩:=X.cut (k:=i) (by rw[qv,jq,zx];omega) rfl .i64;have Z:(c.take i++Jm (c.length-i) 0).take i=Ay ks line:=by
    rw[vk (by rw[jq];omega),List.take_take,Nat.min_self,g];rfl
   rw[Z]at d2;simp only[aa,bc,B,u,N,Q,V,W,d1];exact⟨d2,f.trans Y λ _ q=>.inl q,d3⟩
end
end Go.Am
namespace Go.Am
open Go.Proofs Ca
open Lang (ints)
variable{M:ak}[MK M]
def ao(m:Mg):List AV:=.int .i64 m.k::.int .i64 m.core::.int .i64 m.line::cu m.d
def zi(m:Mg):(ao m).length=11:=by simp[ao,cu,m.d.h]
def qW(m:Mg):aN (ao m)=true:=by rw[vg];simp[ao,cu,aB]
def rV(n:No)(b:Nat)(bv:AV):List AV:=.int .i64 n.core::.int .i64 n.lines::.ptr b 0::(ao n.out ++ [bv,.bool n.live,.int .i64 n.code])
structure de(H0 H:ar)(r b:Nat)(sv bv:AV)(n:No)(ks:List Nat):Prop where
 row:H.get r=B1 (OR (rV n b bv) Pa)
 lt:r<H.au
 ca:d8 H b sv n.c
 bk:mM cE H0 H bv ks
 eq:n.aL=ints ks
 lr:H0.au<=r
 lb:H0.au<=b
 ls:H0.au<=aF sv
 n1:r≠b
 n2:r≠aF sv
 o1:¬aM bv r
 o2:¬aM bv b
 o3:¬aM bv (aF sv)
 li:2<=n.lines/\n.lines<=64
 len:n.c.sl.length<=40
def iJ(r b:Nat)(sv bv:AV):Nat->Prop:=λ x=>x=r\/nC b sv x\/aM bv x
def sr(H0 H:ar)(r b:Nat)(sv bv:AV)(n':No)(H':ar):Prop:=∃bv' ks',de H0 H' r b sv bv' n' ks'/\Fr (iJ r b sv bv) H H' /\ ∀x,aM bv' x->aM bv x\/H.au<=x
section
variable{H0 H:ar}{r b:Nat}{sv bv:AV}{n:No}{ks:List Nat}
def de.em{H':ar}(h:de H0 H r b sv bv n ks)(f:Fr Em H H'):de H0 H' r b sv bv n ks :=
 ⟨by rw[f.ah _ h.lt id];exact h.row,qn h.lt f.au,h.ca.em f,h.bk.em f,h.eq,h.lr,h.lb,h.ls,h.n1,h.n2,h.o1,h.o2,h.o3,h.li,h.len⟩
def de.same(h:de H0 H r b sv bv n ks){H':ar}(f:Fr Em H H'):sr H0 H r b sv bv n H':=⟨bv,ks,h.em f,f.mono λ _ _ q=>q.elim,λ x q=>.inl q⟩
def FL(n:No)(b:Nat)(bv:AV):(rV n b bv)[0]? = B1 (.int .i64 n.core)/\(rV n b bv)[1]? = B1 (.int .i64 n.lines)/\(rV n b bv)[2]? = B1 (.ptr b 0)/\(rV n b bv)[3]? = B1 (.int .i64 n.out.k)/\(rV n b bv)[14]? = B1 bv/\(rV n b bv)[15]? = B1 (.bool n.live)/\(rV n b bv)[16]? = B1 (.int .i64 n.code)/\((rV n b bv).drop 3).take 11=ao n.out/\(rV n b bv).length=17:=by
 have⟨core,lines,c,⟨k,co,l,⟨d,a⟩⟩,aL,live,code⟩:=n
 match d,a with
 |[d0,d1,d2,d3,d4,d5,d6,d7],_=>exact⟨rfl,rfl,rfl,rfl,rfl,rfl,rfl,rfl,rfl⟩
def de.ld(h:de H0 H r b sv bv n ks)(k:Nat):Op.ae [.ptr r k] H=(rV n b bv)[k]?:=zb (xc h.row) k
def de.l0(h:de H0 H r b sv bv n ks):Op.ae [.ptr r 0] H=B1 (.int .i64 n.core):=(h.ld 0).trans (FL n b bv).1
def de.l1(h:de H0 H r b sv bv n ks):Op.ae [.ptr r 1] H=B1 (.int .i64 n.lines):=(h.ld 1).trans (FL n b bv).2.1
def de.l2(h:de H0 H r b sv bv n ks):Op.ae [.ptr r 2] H=B1 (.ptr b 0):=(h.ld 2).trans (FL n b bv).2.2.1
def de.l3(h:de H0 H r b sv bv n ks):Op.ae [.ptr r 3] H=B1 (.int .i64 n.out.k):=(h.ld 3).trans (FL n b bv).2.2.2.1
def de.vW(h:de H0 H r b sv bv n ks):Op.ae [.ptr r 14] H=B1 bv:=(h.ld 14).trans (FL n b bv).2.2.2.2.1
def de.iI(h:de H0 H r b sv bv n ks):Op.ae [.ptr r 15] H=B1 (.bool n.live):=(h.ld 15).trans (FL n b bv).2.2.2.2.2.1
def de.lo(h:de H0 H r b sv bv n ks):Op.aq 11 [.ptr r 3] H=B1 (.agg (ao n.out)):=by
 obtain⟨-,-,-,-,-,-,-,e,l⟩:=FL n b bv;rw[rU (xc h.row) (by rw[l];decide),e]
theorem de.put(h:de H0 H r b sv bv n ks){n':No}{o m:Nat}{u:AV}(hu:u.cells.length=m)(ho:aN u.cells=B4)(hm:o+m<=17)(e:(rV n b bv).take o++u.cells++(rV n b bv).drop (o+m)=rV n' b bv)(a:n'.c=n.c)(hb:n'.aL=n.aL)(hl:n'.lines=n.lines) :
 ∃H',Op.store m [.ptr r o,u] H=B1 (.undef,H')/\de H0 H' r b sv bv n' ks/\Fr (On r) H H':=by
 have st:=wO h.row (o:=o) (n:=m) (v:=u) hu (by rw[(FL n b bv).2.2.2.2.2.2.2.2];exact hm) ho;rw[e]at st;have f:Fr (On r) H (H.set r (OR (rV n' b bv) Pa)):=(Fr.refl H).set (W:=On r) (.inl rfl) _;refine⟨_,st,⟨xe ..,h.lt,by rw[a];exact h.ca.fr f (λ(q:b=r)=>h.n1 q.symm) (λ(q:aF sv=r)=>h.n2 q.symm),h.bk.vU f (h.bk.fr.set (.inr h.lr) _) (λ x hx(q:x=r)=>h.o1 (q▸hx)),by rw[hb];exact h.eq,h.lr,h.lb,h.ls,h.n1,h.n2,h.o1,h.o2,h.o3,by rw[hl];exact h.li,by rw[a];exact h.len⟩,f⟩
def de.tR(h:de H0 H r b sv bv n ks)(q:Bool):∃H',Op.store 1 [.ptr r 15,.bool q] H=B1 (.undef,H')/\de H0 H' r b sv bv {n with live:=q} ks/\Fr (On r) H H' :=
 h.put (n':={n with live:=q}) (o:=15) (m:=1) (u:=.bool q) rfl rfl (by decide) (by
  have⟨core,lines,c,⟨k,co,l,⟨d,a⟩⟩,aL,live,code⟩:=n
  match d,a with
  |[d0,d1,d2,d3,d4,d5,d6,d7],_=>rfl) rfl rfl rfl
def de.yB(h:de H0 H r b sv bv n ks)(k:Int):∃H',Op.store 1 [.ptr r 16,.int .i64 k] H=B1 (.undef,H')/\de H0 H' r b sv bv {n with code:=k} ks/\Fr (On r) H H' :=
 h.put (n':={n with code:=k}) (o:=16) (m:=1) (u:=.int .i64 k) rfl rfl (by decide) (by
  have⟨core,lines,c,⟨k,co,l,⟨d,a⟩⟩,aL,live,code⟩:=n
  match d,a with
  |[d0,d1,d2,d3,d4,d5,d6,d7],_=>rfl) rfl rfl rfl
def de.C8(h:de H0 H r b sv bv n ks)(m:Mg):∃H',Op.store 11 [.ptr r 3,.agg (ao m)] H=B1 (.undef,H')/\de H0 H' r b sv bv {n with out:=m} ks/\Fr (On r) H H' :=
 h.put (n':={n with out:=m}) (o:=3) (m:=11) (u:=.agg (ao m)) (by rw[zr];exact zi m) (by rw[zr];exact qW m) (by decide) (by
  have⟨core,lines,c,⟨k,co,l,⟨d,f⟩⟩,aL,live,code⟩:=n;have⟨k',co',g,⟨e,a⟩⟩:=m
  match d,f,e,a with
  |[d0,d1,d2,d3,d4,d5,d6,d7],_,[e0,e1,e2,e3,e4,e5,e6,e7],_=>rfl) rfl rfl rfl
def de.iH(h:de H0 H r b sv bv n ks){c:Ca}{H':ar}(d:d8 H' b sv c)(f:Fr (nC b sv) H H')(hl:c.sl.length<=40):de H0 H' r b sv bv {n with c:=c} ks :=
 ⟨by rw[f.ah _ h.lt (λ q=>q.elim h.n1 h.n2)];exact h.row,qn h.lt f.au,d,h.bk.vU f (h.bk.fr.trans f λ x q=>q.elim (λ q=>.inr (by rw[q];exact h.lb)) λ q=>.inr (by rw[q];exact h.ls)) (λ x a q=>q.elim (λ q=>h.o2 (q▸a)) λ q=>h.o3 (q▸a)),h.eq,h.lr,h.lb,h.ls,h.n1,h.n2,h.o1,h.o2,h.o3,h.li,hl⟩
def sr.of{n':No}{H':ar}{a:List Nat}(h:de H0 H' r b sv bv n' a)(f:Fr (iJ r b sv bv) H H'):sr H0 H r b sv bv n' H':=⟨bv,a,h,f,λ x q=>.inl q⟩
def L7{H1 a:ar}(f:Fr (On r) H1 a):Fr (iJ r b sv bv) H1 a:=f.mono λ _ _ q=>.inl q
def wJ{H1 a:ar}(f:Fr (nC b sv) H1 a):Fr (iJ r b sv bv) H1 a:=f.mono λ _ _ q=>.inr (.inl q)
def nD{H1 a:ar}(f:Fr Em H1 a):Fr (iJ r b sv bv) H1 a:=f.mono λ _ _ q=>q.elim
def jV{H1 a c:ar}(f:Fr (iJ r b sv bv) H1 a)(g:Fr (iJ r b sv bv) a c):Fr (iJ r b sv bv) H1 c:=f.trans g λ _ q=>.inl q
def Z4(h:de H0 H r b sv bv n ks)(a:Int):zd M Wq [.ptr r 0,.int .i64 a] H λ v H'=>v=.int .i64 (if n.may a then 0 else 2)/\H'=H:=by
 refine q53 ?_;obtain⟨w0,w2,d⟩:=q54 M ⟨B5,Wq⟩;have hl:=h.li;have f:aj .i64 (n.lines*8)=n.lines*8:=jk (by omega) (by omega)
 by_cases c:a<0
 .have hm:¬n.may a:=λ q=>by have:=q.1;omega
  simp only[aa,bc,w0,w2,yp,c];rw[qy hm]
 by_cases e:n.lines*8<=a
 .have hm:¬n.may a:=λ q=>by have:=q.2;omega
  simp only[aa,bc,w0,w2,yp,c,qt,h.l1,f,e];rw[qy hm]
 .have hm:n.may a:=⟨by omega,by omega⟩
  simp only[aa,bc,w0,w2,yp,c,qt,h.l1,f,e,d];rw[xg hm]
def mZ:[AV.int .i64 0,.int .i64 0,.int .i64 0,.int .u64 0,.int .u64 0,.int .u64 0,.int .u64 0,.int .u64 0,.int .u64 0,.int .u64 0,.int .u64 0]=ao ⟨0,0,0,.zero⟩:=rfl
def Tc(k co l:Int):Op.build (ao ⟨0,0,0,.zero⟩) [(0,1),(1,1),(2,1)] [.int .i64 k,.int .i64 co,.int .i64 l]=B1 (.agg (ao ⟨k,co,l,.zero⟩)):=rfl
def Gd(h:de H0 H r b sv bv n ks)(k line:Int):zd M _5 [.ptr r 0,.int .i64 k,.int .i64 line] H λ v H'=>v=.agg (ao (n.msg k line))/\Fr Em H H':=by
 refine q55 ?_;obtain⟨H1,e1,a,-,d⟩:=cq H (OR (ao ⟨0,0,0,.zero⟩) xq);have s1:=fF d (zi _) (zi (n.msg k line)) (qW _);have ld:=eF (xe H1 H.au (OR (ao (n.msg k line)) xq)) (zi _);have c:Op.build (ao ⟨0,0,0,.zero⟩) [(0,1),(1,1),(2,1)] [.int .i64 k,.int .i64 n.core,.int .i64 line]=B1 (.agg (ao (n.msg k line))):=Tc ..;simp only[aa,bc,q56,mZ,<-e1,qt,(h.em a).l0,c,s1,ld];exact a.set (.inr (qm _)) _
def xms(h:de H0 H r b sv bv n ks):zd M η [.ptr r 0] H λ v H'=>v=.bool n.live/\H'=H:=by
 refine q00 ?_;simp only[aa,bc,q01,lR,qt,h.iI]
def Ju(h:de H0 H r b sv bv n ks)(k:Int):zd M qnf [.ptr r 0,.int .i64 k] H λ _ H'=>de H0 H' r b sv bv (n.iU k) ks/\Fr (iJ r b sv bv) H H':=by
 refine qye ?_;simp only[aa,bc,qyf,qt,h.l2];refine C3.q (xcl h.ca h.len) λ _ H1⟨g,d⟩=>?_;have a:=h.iH g d (by show(n.c.sl.map back).length<=40;rw[xr];exact h.len);have⟨m,s2,i,e⟩:=a.tR B2;have⟨o,l,j,f⟩:=i.yB k;simp only[aa,bc,qt,s2,l];exact⟨j,jV (jV (wJ d) (L7 e)) (L7 f)⟩
def xia(h:de H0 H r b sv bv n ks)(k:Int):zd M Zw [.ptr r 0,.int .i64 k] H λ v H'=>v=.int .i64 (n.abort k).2/\de H0 H' r b sv bv (n.abort k).1 ks/\Fr (iJ r b sv bv) H H':=by
 refine qx7 ?_;obtain⟨w0,w2,g,c⟩:=qx8 M ⟨B5,Zw⟩;have iI:=h.iI;cases hl:n.live with
 |false =>
  have a:n.abort k=(n,40):=by unfold No.abort;rw[hl];rfl
  rw[hl]at iI;rw[a];simp only[aa,bc,w0,w2,yp,qt,iI];exact⟨h,Fr.refl _⟩
 |true =>
  rw[hl]at iI
  by_cases d:k<1
  .have a:n.abort k=(n,2):=by unfold No.abort;rw[hl,xg rfl,xg (.inl d)]
   rw[a];simp only[aa,bc,w0,w2,yp,qt,iI,c,d];exact⟨h,Fr.refl _⟩
  by_cases f:7<k
  .have a:n.abort k=(n,2):=by unfold No.abort;rw[hl,xg rfl,xg (.inr f)]
   rw[a];simp only[aa,bc,w0,w2,yp,qt,iI,c,d,f];exact⟨h,Fr.refl _⟩
  have a:n.abort k=(n.iU k,0):=by unfold No.abort;rw[hl,xg rfl,qy (by omega)]
  rw[a];simp only[aa,bc,w0,w2,yp,qt,iI,c,d,f,g];refine C3.q (Ju h k) λ _ H1⟨e,i⟩=>?_;simp only[aa,bc];exact⟨e,i⟩
end
end Go.Am
namespace Go.Am
open Go.Proofs Ca
open Lang (ints)
variable{M:ak}[MK M]
def mL(H H':ar)(v:AV)(ms:List Mg):Prop:=bX ao 11 H' v ms/\(ms≠[]->H.au<=aF v)
def mL.nil(H H':ar):mL H H' .nils []:=⟨⟨rfl,rfl⟩,λ q=>absurd rfl q⟩
def AJ(m:Mg):Op.buildSlice xq 1 (ao ⟨0,0,0,.zero⟩) [(0,11)] [.agg (ao m)]=B1 (OR (ao m) xq,Op.sliceTo 1 1):=UP xq 11 (ao ⟨0,0,0,.zero⟩) (.agg (ao m)) (zi _) (by rw[zr];exact zi m)
def Mn{H:ar}(m:Mg):gW ao xq 11 (H.alloc (OR (ao m) xq)) (Op.sliceTo 1 1 H.au) [m]:=⟨H.au,rfl,by rw[xx];omega,by rw[xp];simp⟩
def MI{H H0:ar}(m:Mg)(h:H0.au<=H.au):mL H0 (H.alloc (OR (ao m) xq)) (Op.sliceTo 1 1 H.au) [m]:=⟨(Mn m).sl zi,λ _=>h⟩
section
variable{H0 H:ar}{r b:Nat}{sv bv:AV}{n:No}{ks:List Nat}
def de.kl(h:de H0 H r b sv bv n ks):n.aL.length=ks.length:=by rw[h.eq];unfold ints;rw[xr]
def Zb(h:de H0 H r b sv bv n ks)(hk:n.aL.length<=900000)(k line:Int):zd M Xu [.ptr r 0,.int .i64 k,.int .i64 line] H λ v H'=>mL H H' v (n.ask k line).2/\de H0 H' r b sv bv (n.ask k line).1 ks/\Fr (iJ r b sv bv) H H':=by
 refine q51 ?_;obtain⟨w0,w2,i⟩:=q52 M ⟨B5,Xu⟩;have p:=h.kl
 by_cases d:n.out.k=0
 .simp only[aa,bc,w0,w2,qt,h.l3,xb d,h.vW];refine C3.q (y_ h.bk.sl (by omega) line) λ v H1⟨g,o⟩=>?_;rw[g,o,<-h.eq]
  by_cases e:line∈n.aL
  .have a:n.ask k line=(n,[]):=by unfold No.ask;rw[xg (.inr e)]
   rw[a];simp only[aa,bc,xb e];exact⟨mL.nil ..,h,Fr.refl _⟩
  .have a:n.ask k line=({n with out:=n.msg k line},[n.msg k line]):=by unfold No.ask;rw[qy (λ q=>q.elim (λ q=>q d) e)]
   rw[a];simp only[aa,bc,e,i];refine C3.q (Gd h k line) λ v t⟨g,j⟩=>?_;rw[g];have⟨f,s,l,m⟩:=(h.em j).C8 (n.msg k line);have lo:=l.lo;have c:Fr (iJ r b sv bv) H f:=jV (nD j) (L7 m);simp only[aa,bc,qt,s,lo,mZ,AJ];exact⟨MI _ c.au,l.em ((Fr.refl f).alloc _),jV c (nD ((Fr.refl f).alloc _))⟩
 .have a:n.ask k line=(n,[]):=by unfold No.ask;rw[xg (.inl d)]
  rw[a];simp only[aa,bc,w0,w2,qt,h.l3,d];exact⟨mL.nil ..,h,Fr.refl _⟩
def jY{H1:ar}(e:En):Op.store 21 [.ptr H1.au 0,.agg (aw e)] (H1.alloc (OR (aw .zero) xk))=B1 (.undef,(H1.alloc (OR (aw .zero) xk)).set H1.au (OR (aw e) xk)):=fF (xp ..) (z4 _) (z4 e) (ug e)
def zI{H1:ar}(o o':bF):Fr Em H1 ((H1.alloc o).set H1.au o'):=((Fr.refl H1).alloc _).set (.inr (qm _)) _
def i_{line:Int}(h:de H0 H r b sv bv n ks)(a:CI n.lines n.c):zd M qng [.ptr r 0,.int .i64 line] H λ v H'=>v=.bool (n.owned line)/\Fr Em H H':=by
 refine qyg ?_;simp only[aa,bc,qyh,qt,h.l2];refine C3.q (Rw h.ca a line) λ v H1⟨g,d⟩=>?_;rw[g];unfold oE No.owned;cases i:n.c.find line with
 |none =>
  simp only[aa,bc,xj,eZ,jY];exact d.trans (zI _ _) λ _ q=>q.elim
 |some e =>
  have l1:Op.ae [.ptr H1.au 1] ((H1.alloc (OR (aw .zero) xk)).set H1.au (OR (aw e) xk))=B1 (.int .i64 e.st):=zb (xc (xe ..)) 1;have f:Fr Em H ((H1.alloc (OR (aw .zero) xk)).set H1.au (OR (aw e) xk)):=d.trans (zI _ _) λ _ q=>q.elim
  by_cases q:e.st=2
  .simp only[aa,bc,xj,eZ,jY,l1,xb q];exact⟨by rw[q];rfl,f⟩
  .simp only[aa,bc,xj,eZ,jY,l1,q];exact⟨by simp[q],f⟩
def u9(H0 H:ar)(r b:Nat)(sv bv:AV)(n:No)(ks:List Nat)(a:Int)(v:AV)(H':ar):Prop:=(∃ov,v=.tuple [.int .u64 (n.load a).2.1,.bool (n.load a).2.2.1,ov,.int .i64 (n.load a).2.2.2.2]/\mL H H' ov (n.load a).2.2.2.1)/\de H0 H' r b sv bv (n.load a).1 ks/\Fr (iJ r b sv bv) H H'
def xmu(h:de H0 H r b sv bv n ks)(j:CI n.lines n.c)(hk:n.aL.length<=900000)(hu:n.c.us+1<=1000000)(a:Int):zd M Pt [.ptr r 0,.int .i64 a] H (u9 H0 H r b sv bv n ks a):=by
 refine q03 ?_;obtain⟨w0,w2,G,I,z,J⟩:=q04 M ⟨B5,Pt⟩;simp only[aa,bc,w0,w2];refine C3.q (Z4 h a) λ v H1⟨y,S⟩=>?_;rw[y,S]
 by_cases hm:n.may a
 case neg =>
  have p:n.load a=(n,0,B2,[],2):=by unfold No.load;rw[qy hm]
  have U:¬(2:Int)=0:=by decide
  rw[qy hm];unfold u9;rw[p];simp only[aa,bc,U];exact⟨⟨.nils,rfl,mL.nil ..⟩,h,Fr.refl _⟩
 rw[xg hm];have hl:=h.li;have⟨L,T⟩:=hm;obtain⟨f,rfl⟩:=jm L;have t:f<1000000:=by omega
 have P:No.ln (Int.ofNat f)=((f / 8:Nat):Int):=rfl;have Y:=xb (show(0:Int)=0 from rfl);simp only[aa,bc,G,Aa t,I,qt,h.l2];refine C3.q (Rw h.ca j ((f / 8:Nat):Int)) λ v H1⟨y,K⟩=>?_;rw[y];have w:n.may (f:Int):=⟨L,T⟩
 unfold oE;cases D:n.c.find ((f / 8:Nat):Int)with
 |none =>
  have p:n.load (f:Int)=((n.ask 1 ((f / 8:Nat):Int)).1,0,B2,(n.ask 1 ((f / 8:Nat):Int)).2,0):=by
   unfold No.load;rw[xg w];show(match n.c.find ((f / 8:Nat):Int)with|none=>_|some _=>_)=_;rw[D];rfl
  have l:Fr Em H ((H1.alloc (OR (aw .zero) xk)).set H1.au (OR (aw .zero) xk)):=K.trans (zI _ _) λ _ q=>q.elim;simp only[aa,bc,xj,eZ,jY];refine C3.q (Zb (h.em l) hk 1 ((f / 8:Nat):Int)) λ v V⟨x,hn,o⟩=>?_;unfold u9;rw[p];simp only[aa,bc];refine⟨⟨v,rfl,x.1,λ q=>xy l.au (x.2 q)⟩,hn,jV (nD l) o⟩
 |some e =>
  obtain⟨i,hp,rfl⟩:=UL D;have l:Fr Em H ((H1.alloc (OR (aw .zero) xk)).set H1.au (OR (aw (n.c.en i)) xk)):=K.trans (zI _ _) λ _ q=>q.elim;obtain⟨Hb,m⟩:∃X,X=(H1.alloc (OR (aw .zero) xk)).set H1.au (OR (aw (n.c.en i)) xk):=⟨_,rfl⟩
  rw[<-m]at l;have hb:=h.em l;have iI:=hb.iI
  -- behind the mark
  have fin:∀{A:ar}{c:Ca},de H0 A r b sv bv {n with c:=c} ks->CI n.lines c->c.us+1<=1000000->Fr (iJ r b sv bv) H A->c=(if n.live then n.c.mark ((f / 8:Nat):Int) B2 else n.c)->c.pos ((f / 8:Nat):Int)=B1 i -> ∀{E:Env},lk E 0=B1 (.ptr r 0)->lk E 1=B1 (.int .i64 (f:Int)) ->
   W M ⟨B5,Pt⟩ (q02 30) B4 (eG M [.tmp 4,.tmp 5,.tmp 6,.tmp 7] (uZ (u9 H0 H r b sv bv n ks (f:Int)))) E [] A:=by
   intro A c B u F o O g E Q R;have p:n.load (f:Int)=({n with c:=(c.word f).1},(c.word f).2.getD 0,B4,[],0):=by
    unfold No.load;rw[xg w];show(match n.c.find ((f / 8:Nat):Int)with|none=>_|some _=>_)=_;rw[D,O];rfl
   simp only[aa,bc,J,Q,qt,B.l2,R];refine C3.q (N_ B.ca u F t) λ v N⟨y,C,s⟩=>?_;rw[y];have hw:(c.word f).2=B1 ((c.en i).d.get (f % 8)):=by unfold Ca.word;rw[g]
   unfold yU;rw[g];have hlen:(c.word f).1.sl.length<=40:=by
    have:=B.len;unfold Ca.word;rw[g];show(c.sl.set i _).length<=40;rw[xw];exact this
   have hn:=B.iH C s hlen;unfold u9;rw[p,hw];simp only[aa,bc,xj];exact⟨⟨.nils,rfl,mL.nil ..⟩,hn,jV o (wJ s)⟩
  cases k:n.live with
  |false =>
   rw[k]at iI;simp only[aa,bc,xj,eZ,jY,<-m,z,qt,iI];exact fin (c:=n.c) (by have:({n with c:=n.c}:No)=n:=rfl;rw[this];exact hb) j hu (nD l) (by rw[k];rfl) hp rfl rfl
  |true =>
   rw[k]at iI;simp only[aa,bc,xj,eZ,jY,<-m,z,qt,iI,hb.l2];refine C3.q (xde hb.ca j ((f / 8:Nat):Int) B2) λ _ N⟨C,s⟩=>?_;have em:n.c.mark ((f / 8:Nat):Int) B2=n.c.set i {n.c.en i with r:=B4}:=by unfold Ca.mark;rw[qy (by decide),sF,hp]
   have hlen:(n.c.mark ((f / 8:Nat):Int) B2).sl.length<=40:=by rw[em];show(n.c.sl.set i _).length<=40;rw[xw];exact h.len
   have g:(n.c.mark ((f / 8:Nat):Int) B2).pos ((f / 8:Nat):Int)=B1 i:=by
    rw[em];have sh:Gh n.c {n.c.set i {n.c.en i with r:=B4}with us:=n.c.us}:=Gh.set n.c.us rfl rfl;exact(sh.pos _).trans hp
   simp only[aa,bc];exact fin (c:=n.c.mark ((f / 8:Nat):Int) B2) (hb.iH C s hlen) (j.mark _ _) (by rw[em];exact hu) (jV (nD l) (wJ s)) (by rw[k];rfl) g rfl rfl
end
end Go.Am
namespace Go.Am
open Go.Proofs Ca
open Lang (ints)
variable{M:ak}[MK M]
section
variable{H0 H:ar}{r b:Nat}{sv bv:AV}{n:No}{ks:List Nat}
def xnb{line:Int}(h:n.owned line=B4):∃i,n.c.pos line=B1 i/\(n.c.en i).st=2:=by
 unfold No.owned at h;cases a:n.c.find line with
 |none=>rw[a]at h;cases h
 |some x =>
  rw[a]at h;obtain⟨i,hp,rfl⟩:=UL a;exact⟨i,hp,by simpa using h⟩
def Ua(c:Ca)(line:Int)(wr:Bool):(c.mark line wr).us=c.us/\(c.mark line wr).sl.length=c.sl.length:=by
 unfold Ca.mark;cases wr with
 |true =>
  rw[xg rfl];cases c.lJ line 2 with
  |none=>exact⟨rfl,rfl⟩
  |some i =>
   show(if(c.en i).w then c else c.set i _).us=_/\(if(c.en i).w then c else c.set i _).sl.length=_;split
   .exact ⟨rfl,rfl⟩
   .exact ⟨rfl,xw⟩
 |false =>
  rw[qy (by decide)];cases c.lJ line 0 with
  |none=>exact⟨rfl,rfl⟩
  |some i=>exact⟨rfl,xw⟩
def Sq(c:Ca)(a:Nat)(y:Int):(c.put a y).sl.length=c.sl.length/\((c.put a y).us=c.us\/(c.put a y).us=c.us+1):=by
 unfold Ca.put;cases c.lJ ((a / 8:Nat):Int) 2 with
 |none=>exact⟨rfl,.inl rfl⟩
 |some i=>exact⟨xw,.inr rfl⟩
def RZ(c:Ca)(a:Nat):(c.word a).1.sl.length=c.sl.length/\((c.word a).1.us=c.us\/(c.word a).1.us=c.us+1):=by
 unfold Ca.word;cases c.pos ((a / 8:Nat):Int)with
 |none=>exact⟨rfl,.inl rfl⟩
 |some i=>exact⟨xw,.inr rfl⟩
def rQ(H0 H:ar)(r b:Nat)(sv bv:AV)(n:No)(ks:List Nat)(a y:Int)(v:AV)(H':ar):Prop:=(∃ov,v=.tuple [.bool (n.store a y).2.1,ov,.int .i64 (n.store a y).2.2.2]/\mL H H' ov (n.store a y).2.2.1)/\de H0 H' r b sv bv (n.store a y).1 ks/\Fr (iJ r b sv bv) H H'
def xkj(h:de H0 H r b sv bv n ks)(e:CI n.lines n.c)(hk:n.aL.length<=900000)(hu:n.c.us+1<=1000000)(a y:Int):zd M Rx [.ptr r 0,.int .i64 a,.int .u64 y] H (rQ H0 H r b sv bv n ks a y):=by
 refine qyc ?_;obtain⟨w0,w2,B,C,t,D⟩:=qyd M ⟨B5,Rx⟩;simp only[aa,bc,w0,w2];refine C3.q (Z4 h a) λ v H1⟨x,N⟩=>?_;rw[x,N]
 by_cases hm:n.may a
 case neg =>
  have i:n.store a y=(n,B2,[],2):=by unfold No.store;rw[qy hm]
  have P:¬(2:Int)=0:=by decide
  rw[qy hm];unfold rQ;rw[i];simp only[aa,bc,P];exact⟨⟨.nils,rfl,mL.nil ..⟩,h,Fr.refl _⟩
 rw[xg hm];have hl:=h.li;have⟨F,O⟩:=hm;obtain⟨d,rfl⟩:=jm F;have m:d<1000000:=by omega
 have p:n.may (d:Int):=⟨F,O⟩
 have j:No.ln (d:Int)=((d / 8:Nat):Int):=rfl;have R:=xb (show(0:Int)=0 from rfl);simp only[aa,bc,B,Aa m,C];refine C3.q (i_ (line:=((d / 8:Nat):Int)) h e) λ v H1⟨x,k⟩=>?_;rw[x];have hb:=h.em k;cases ho:n.owned ((d / 8:Nat):Int)with
 |false =>
  have i:n.store (d:Int) y=((n.ask 2 ((d / 8:Nat):Int)).1,B2,(n.ask 2 ((d / 8:Nat):Int)).2,0):=by
   unfold No.store;rw[xg p,j,ho];rfl
  simp only[aa,bc];refine C3.q (Zb hb hk 2 ((d / 8:Nat):Int)) λ v Q⟨s,hn,g⟩=>?_;unfold rQ;rw[i];simp only[aa,bc];exact⟨⟨v,rfl,s.1,λ q=>xy k.au (s.2 q)⟩,hn,jV (nD k) g⟩
 |true =>
  have iI:=hb.iI;have fin:∀{u:ar}{c:Ca},de H0 u r b sv bv {n with c:=c} ks->CI n.lines c->c.us+1<=1000000->Fr (iJ r b sv bv) H u->c=(if n.live then n.c.mark ((d / 8:Nat):Int) B4 else n.c) -> ∀{E:Env},lk E 0=B1 (.ptr r 0)->lk E 1=B1 (.int .i64 (d:Int))->lk E 2=B1 (.int .u64 y) ->
   W M ⟨B5,Rx⟩ (qyb 28) B4 (eG M [.tmp 6,.tmp 7,.tmp 8] (uZ (rQ H0 H r b sv bv n ks (d:Int) y))) E [] u:=by
   intro u c w o A g I E J K L;have i:n.store (d:Int) y=({n with c:=c.put d y},B4,[],0):=by
    unfold No.store;rw[xg p,j,ho,xg rfl,I];rfl
   simp only[aa,bc,D,J,qt,w.l2,K,L];refine C3.q (xhy w.ca o A m y) λ v G⟨x,z,l⟩=>?_;have hn:=w.iH z l (by rw[(Sq c d y).1];exact w.len);unfold rQ;rw[i];simp only[aa,bc];exact⟨⟨.nils,rfl,mL.nil ..⟩,hn,jV g (wJ l)⟩
  cases f:n.live with
  |false =>
   rw[f]at iI;simp only[aa,bc,t,qt,iI];exact fin (c:=n.c) (by have:({n with c:=n.c}:No)=n:=rfl;rw[this];exact hb) e hu (nD k) (by rw[f];rfl) rfl rfl rfl
  |true =>
   rw[f]at iI;simp only[aa,bc,t,qt,iI,hb.l2];refine C3.q (xde hb.ca e ((d / 8:Nat):Int) B4) λ _ G⟨z,l⟩=>?_;simp only[aa,bc];exact fin (c:=n.c.mark ((d / 8:Nat):Int) B4) (hb.iH z l (by rw[(Ua ..).2];exact h.len)) (e.mark _ _) (by rw[(Ua ..).1];exact hu) (jV (nD k) (wJ l)) (by rw[f];rfl) rfl rfl rfl
def VO(h:de H0 H r b sv bv n ks)(x:En)(too:Bool):zd M qpj [.ptr r 0,.agg (aw x),.bool too] H λ _ H'=>de H0 H' r b sv bv (n.lost x too) ks/\Fr (iJ r b sv bv) H H':=by
 refine q09 ?_;obtain⟨H1,e1,a,-,i⟩:=cq H (OR (aw x) xk);have l0:Op.ae [.ptr H.au 0] H1=B1 (.int .i64 x.line):=zb (xc i) 0;have l2:Op.ae [.ptr H.au 2] H1=B1 (.bool x.r):=zb (xc i) 2;have l3:Op.ae [.ptr H.au 3] H1=B1 (.bool x.w):=zb (xc i) 3;have e:=h.em a;have stay:(x.w ||(x.r && too))=B2->n.lost x too=n:=λ q=>by unfold No.lost;rw[q];rfl
 have go2:(x.w ||(x.r && too))=B4->x.line=0->n.lost x too=n.iU 2:=λ q j=>by unfold No.lost;rw[q,xg rfl,xg j]
 have f:(x.w ||(x.r && too))=B4 -> ¬x.line=0->n.lost x too=n.iU 1:=λ q j=>by unfold No.lost;rw[q,xg rfl,qy j]
 cases hw:x.w with
 |true =>
  rw[hw]at l3
  by_cases q:x.line=0
  .rw [go2 (by rw[hw];rfl) q];simp only[aa,bc,N1,<-e1,l3,l0,xb q];refine C3.q (Ju e 2) λ _ g⟨d,c⟩=>?_;simp only[aa,bc];exact⟨d,jV (nD a) c⟩
  .rw [f (by rw[hw];rfl) q];simp only[aa,bc,N1,<-e1,l3,l0,q];refine C3.q (Ju e 1) λ _ g⟨d,c⟩=>?_;simp only[aa,bc];exact⟨d,jV (nD a) c⟩
 |false =>
  rw[hw]at l3;cases hr:x.r with
  |false =>
   rw[hr]at l2;rw[stay (by rw[hw,hr];rfl)];simp only[aa,bc,N1,<-e1,l3,l2];exact⟨e,nD a⟩
  |true =>
   rw[hr]at l2;cases too with
   |false =>
    rw[stay (by rw[hw,hr];rfl)];simp only[aa,bc,N1,<-e1,l3,l2];exact⟨e,nD a⟩
   |true =>
    by_cases q:x.line=0
    .rw [go2 (by rw[hw,hr];rfl) q];simp only[aa,bc,N1,<-e1,l3,l2,l0,xb q];refine C3.q (Ju e 2) λ _ g⟨d,c⟩=>?_;simp only[aa,bc];exact⟨d,jV (nD a) c⟩
    .rw [f (by rw[hw,hr];rfl) q];simp only[aa,bc,N1,<-e1,l3,l2,l0,q];refine C3.q (Ju e 1) λ _ g⟨d,c⟩=>?_;simp only[aa,bc];exact⟨d,jV (nD a) c⟩
end
end Go.Am
namespace Go.Am
open Go.Proofs Ca
open Lang (ints)
variable{M:ak}[MK M]
def Ai(H H':ar)(v:AV)(ms:List Mg):Prop:=(v=.nils/\ms=[]) \/ ∃m a,v=Op.sliceTo 1 1 a/\ms=[m]/\H.au<=a/\a<H'.au/\H'.get a=B1 (OR (ao m) xq)
def Ai.ms{H H':ar}{v:AV}{ms:List Mg}(h:Ai H H' v ms):mL H H' v ms:=by
 rcases h with⟨rfl,rfl⟩|⟨m,a,rfl,rfl,c,d,f⟩
 .exact mL.nil ..
 .exact ⟨gW.sl (e:=xq) zi ⟨a,rfl,d,by rw[f];simp⟩,λ _=>c⟩
def Ai.one{H H0:ar}(m:Mg)(h:H0.au<=H.au):Ai H0 (H.alloc (OR (ao m) xq)) (Op.sliceTo 1 1 H.au) [m]:=.inr ⟨m,H.au,rfl,rfl,h,by rw[xx];omega,xp ..⟩
section
variable{H0 H:ar}{r b:Nat}{sv bv:AV}{n:No}{ks:List Nat}
def de.Jw(h:de H0 H r b sv bv n ks){a:AV}{g:List Nat}{H1:ar}(hs:mM cE H0 H1 a g)(f:Fr (aM bv) H H1)(A:∀x,aM a x->aM bv x\/H.au<=x) :
 ∃j,Op.store 1 [.ptr r 14,a] H1=B1 (.undef,j)/\de H0 j r b sv a {n with aL:=ints g} g/\Fr (iJ r b sv bv) H j:=by
 have s:=h.ca.lt;have t:aF sv<H.au:=h.ca.sl.lt;have i:∀x,x<H.au -> ¬aM bv x -> ¬aM a x:=λ x B y q=>(A x q).elim y λ w=>by omega
 have u:H1.get r=B1 (OR (rV n b bv) Pa):=by rw[f.ah _ h.lt h.o1];exact h.row
 have o1:aB a=true:=by have:=Sl.one hs.sl;exact this
 have hu:AV.cells a=[a]:=by
  rcases hs.own with⟨rfl,_⟩|⟨b,m,rest,rfl,_⟩<;>rfl
 have st:=wO u (o:=14) (n:=1) (v:=a) (by rw[hu];rfl) (by rw[(FL n b bv).2.2.2.2.2.2.2.2];decide) (by rw[hu];simp[vg,o1]);have e:(rV n b bv).take 14++AV.cells a++(rV n b bv).drop (14+1)=rV n b a:=by
  rw[hu];have⟨core,lines,c,⟨k,co,l,⟨d,z⟩⟩,aL,live,code⟩:=n
  match d,z with
  |[d0,d1,d2,d3,d4,d5,d6,d7],_=>rfl
 rw[e]at st;have p:Fr (On r) H1 (H1.set r (OR (rV n b a) Pa)):=(Fr.refl H1).set (W:=On r) (.inl rfl) _;have fn:=f.au;refine⟨_,st,⟨xe ..,qn h.lt fn,(h.ca.fr f h.o2 h.o3).fr p (λ(q:b=r)=>h.n1 q.symm) (λ(q:aF sv=r)=>h.n2 q.symm),hs.vU p (hs.fr.set (.inr h.lr) _) (λ x hx(q:x=r)=>i r h.lt h.o1 (q▸hx)),rfl,h.lr,h.lb,h.ls,h.n1,h.n2,i _ h.lt h.o1,i _ s h.o2,i _ t h.o3,h.li,h.len⟩,?_⟩;exact(f.mono λ _ _ q=>.inr (.inr q)).trans p λ x q=>.inl (.inl q)
def af7(ks:List Nat)(x:Nat):ints (ks ++ [x])=ints ks ++ [(x:Int)]:=by simp[ints]
def UW(m:Mg)(d:L8):(ao m).take 3++(AV.agg (cu d)).cells++(ao m).drop (3+8)=ao {m with d:=d}:=by
 have⟨k,co,l,⟨e,he⟩⟩:=m;have⟨d,a⟩:=d
 match e,he,d,a with
 |[d0,d1,d2,d3,d4,d5,d6,d7],_,[e0,e1,e2,e3,e4,e5,e6,e7],_=>rfl
def BN(x:En):((aw x).drop 4).take 8=cu x.d:=by
 have⟨line,st,r,w,⟨d,a⟩,⟨o,ho⟩,u⟩:=x
 match d,a,o,ho with
 |[d0,d1,d2,d3,d4,d5,d6,d7],_,[e0,e1,e2,e3,e4,e5,e6,e7],_=>rfl
def rp(H0 H:ar)(r b:Nat)(sv bv:AV)(a:No×List Mg)(v:AV)(H':ar):Prop:=Ai H H' v a.2/\sr H0 H r b sv bv a.1 H'
def xcx(h:de H0 H r b sv bv n ks)(hk:n.aL.length<=900000)(x:En)(Q:0<=x.line):zd M UZ [.ptr r 0,.agg (aw x)] H (rp H0 H r b sv bv (n.gone x)):=by
 refine q07 ?_;obtain⟨w0,w2,D⟩:=q08 M ⟨B5,UZ⟩;obtain⟨H1,e1,s,-,u⟩:=cq H (OR (aw x) xk);have l0:Op.ae [.ptr H.au 0] H1=B1 (.int .i64 x.line):=zb (xc u) 0;have l1:Op.ae [.ptr H.au 1] H1=B1 (.int .i64 x.st):=zb (xc u) 1;have z:=h.em s;have n1:H.au<H1.au:=by rw[e1,xx];omega
 by_cases q:x.st=2
 case neg =>
  have p:n.gone x=(n,[]):=by unfold No.gone;rw[qy q]
  rw[p];simp only[aa,bc,w0,<-e1,w2,l1,q];exact⟨.inl ⟨rfl,rfl⟩,h.same s⟩
 have p:n.gone x=({n with aL:=n.aL ++ [x.line]},[⟨3,n.core,x.line,x.d⟩]):=by unfold No.gone;rw[xg q]
 rw[p];have⟨ln,c⟩:=jm Q;rw[c]at l0;simp only[aa,bc,w0,<-e1,w2,l1,xb q,D,qt,z.vW,l0];have O:=h.kl;refine z.bk.push (x:=ln) rfl (by omega) (by omega) λ l Y hs L g=>?_;have⟨k,W,G,t⟩:=z.Jw hs L g;have I:k.get H.au=B1 (OR (aw x) xk):=by
  rw[t.ah _ n1 ?_];exact u;rintro(q|q|q)
  .have:=h.lt;omega
  .have Z:=h.ca.lt;have h5:aF sv<H.au:=h.ca.sl.lt;exact q.elim (λ q=>by omega) λ q=>by omega
  .have:=h.bk.fresh _ q;omega
 have U:H.au<k.au:=by have:=t.au;omega
 have l0:Op.ae [.ptr H.au 0] k=B1 (.int .i64 (ln:Int)):=by rw[<-c];exact zb (xc I) 0
 simp only[aa,bc,W,l0];refine C3.q (Gd G 3 (ln:Int)) λ v a⟨P,j⟩=>?_;rw[P];have S:a.get H.au=B1 (OR (aw x) xk):=by rw[j.ah _ U id];exact I
 obtain⟨m,hm⟩:∃m,m=No.msg {n with aL:=ints (ks ++ [ln])} 3 (ln:Int):=⟨_,rfl⟩
 have A:({m with d:=x.d}:Mg)=⟨3,n.core,x.line,x.d⟩:=by rw[hm,c];rfl
 rw[<-hm];have J:=fF (xp a (OR (ao ⟨0,0,0,.zero⟩) xq)) (zi _) (zi m) (qW _);obtain⟨f,i⟩:∃X,X=(a.alloc (OR (ao ⟨0,0,0,.zero⟩) xq)).set a.au (OR (ao m) xq):=⟨_,rfl⟩
 rw[<-i]at J;have E:Fr Em a f:=by rw[i];exact zI _ _
 have N:f.get a.au=B1 (OR (ao m) xq):=by rw[i,xe]
 have V:H.au<a.au:=by have:=j.au;omega
 have T:f.get H.au=B1 (OR (aw x) xk):=by rw[E.ah _ V id];exact S
 have B:Op.aq 8 [.ptr H.au 4] f=B1 (.agg (cu x.d)):=by rw[rU (xc T) (by rw[z4];decide),BN]
 have K:=wO N (o:=3) (n:=8) (v:=.agg (cu x.d)) (by rw[zr];exact yj _) (by rw[zi];decide) (by rw[zr];exact uj _);rw[UW,A]at K;have C:=eF (xe f a.au (OR (ao ⟨3,n.core,x.line,x.d⟩) xq)) (zi _);simp only[aa,bc,mZ,J,B,K,C,AJ];have n5:f.au=a.au+1:=by rw[i];rfl
 have F:Fr Em a (f.set a.au (OR (ao ⟨3,n.core,x.line,x.d⟩) xq)):=E.set (.inr (qm _)) _;refine⟨Ai.one _ (by rw[tI];omega),l,ks ++ [ln],?_,?_,?_⟩
 .have e:({n with aL:=ints (ks ++ [ln])}:No) = {n with aL:=n.aL ++ [x.line]}:=by rw[af7,c,h.eq]
  rw[<-e];exact(G.em (j.trans F λ _ q=>q.elim)).em ((Fr.refl _).alloc _)
 .exact ((nD s).trans t λ x q=>.inl q).em ((j.trans F λ _ q=>q.elim).alloc _)
 .exact λ y R=>(g y R).imp id λ w=>by omega
end
end Go.Am
namespace Go.Am
open Go.Proofs Ca
open Lang (ints)
variable{M:ak}[MK M]
def zF(off:Nat)(n:Option Nat)(t rest:aR)(x y:List AV):bm (.part off n t rest) (.agg x) (.agg y)=(partAt x off n).bind λ a=>(partAt y off n).bind λ b=>(bm t a b).bind λ q=>cond q (bm rest (.agg x) (.agg y)) (B1 B2):=rfl
def z0(x:List AV)(k:Nat):partAt x k B5=nth x k:=rfl
def iE{k:Nat}{t:aR}{l c:List AV}{K:P0}{a b:Int}{P:Prop}[Decidable P](h:nth l k=B1 (.int K a))(d:nth c k=B1 (.int K b))(hp:bm t (.agg l) (.agg c)=B1 (decide P)) :
 bm (.part k B5 .int t) (.agg l) (.agg c)=B1 (decide (a=b/\P)):=by
 have q:bm .int (.int K a) (.int K b)=B1 (decide (a=b)):=by
  have e:tV K K=true:=by cases K<;>rfl
  simp only[bm,EE,e,xu];rfl
 rw[zF,z0,z0,h,d,qr,qr,q,qr,hp]
 by_cases e:a=b
 .simp [e]
 .simp [e]
abbrev Ux:aR:=.part 0 B5 .int (.part 1 B5 .int (.part 2 B5 .int (.part 3 B5 .int (.part 4 B5 .int (.part 5 B5 .int (.part 6 B5 .int (.part 7 B5 .int .nil)))))))
def χ(d e:L8):bm Ux (.agg (cu d)) (.agg (cu e))=B1 (decide (d=e)):=by
 have⟨d,m⟩:=d;have⟨e,he⟩:=e
 match d,m,e,he with
 |[d0,d1,d2,d3,d4,d5,d6,d7],_,[e0,e1,e2,e3,e4,e5,e6,e7],_ =>
  rw[iE (P:=d1=e1/\d2=e2/\d3=e3/\d4=e4/\d5=e5/\d6=e6/\d7=e7/\True) (a:=d0) (b:=e0) (K:=.u64) rfl rfl (iE rfl rfl (iE rfl rfl (iE rfl rfl (iE rfl rfl (iE rfl rfl (iE rfl rfl (iE rfl rfl rfl)))))))];congr 1;exact decide_eq_decide.2 ⟨λ q=>by obtain⟨a0,c,f,g,h,i,j,k,-⟩:=q;subst a0 c f g h i j k;rfl,λ q=>by
   have q:=congrArg L8.l q;injection q with o q;injection q with p q;injection q with s q;injection q with t q;injection q with u q;injection q with v q;injection q with w q;injection q with x q
   exact⟨o,p,s,t,u,v,w,x,trivial⟩⟩
abbrev I_:aR:=.part 0 B5 .int (.part 1 B5 .int (.part 2 B5 .int (.part 3 (B1 8) Ux .nil)))
def eqM(m e:Mg):bm I_ (.agg (ao m)) (.agg (ao e))=B1 (decide (m=e)):=by
 have f:bm (.part 3 (B1 8) Ux .nil) (.agg (ao m)) (.agg (ao e))=B1 (decide (m.d=e.d)):=by
  have p:∀x:Mg,partAt (ao x) 3 (B1 8)=B1 (.agg (cu x.d)):=λ x=>by
   have⟨k,co,l,⟨d,g⟩⟩:=x
   match d,g with
   |[d0,d1,d2,d3,d4,d5,d6,d7],_=>rfl
  rw[zF,p,p,qr,qr,χ,qr];cases decide (m.d=e.d)<;>rfl
 rw[iE (P:=m.core=e.core/\m.line=e.line/\m.d=e.d) (a:=m.k) (b:=e.k) (K:=.i64) rfl rfl (iE rfl rfl (iE rfl rfl f))];congr 1;refine decide_eq_decide.2 ⟨λ q=>?_,λ q=>by rw[q];exact⟨rfl,rfl,rfl,rfl⟩⟩;have⟨a,b,c,d⟩:=q;cases m;cases e;simp only at a b c d;subst a b c d;rfl
def Q5(m a:Mg)(H:ar):Op.eq (.agg I_) B2 [.agg (ao m),.agg (ao a)] H=B1 (.bool (decide (m=a))):=zY _ _ _ _ _ (eqM m a)
section
variable{H0 H:ar}{r b:Nat}{sv bv:AV}{n:No}{ks:List Nat}
def xdf(h:de H0 H r b sv bv n ks)(hk:n.aL.length<=900000)(m:Mg)(x:En):zd M We [.ptr r 0,.agg (ao m),.agg (aw x)] H λ v H'=>v=.bool (decide (n.jM m x))/\Fr Em H H':=by
 refine qul ?_;obtain⟨w0,w2,B,i,j,u⟩:=qum M ⟨B5,We⟩;obtain⟨H1,e1,E,n1,-⟩:=cq H (OR (ao m) xq);obtain⟨w,e2,y,-,F⟩:=cq H1 (OR (aw x) xk);have p:Fr Em H w:=E.trans y λ _ q=>q.elim;have D:w.get H.au=B1 (OR (ao m) xq):=by rw[y.ah _ (by omega) id,e1,xp]
 have f:Op.ae [.ptr H.au 0] w=B1 (.int .i64 m.k):=zb (xc D) 0;have t:Op.ae [.ptr H.au 2] w=B1 (.int .i64 m.line):=zb (xc D) 2;have ls:Op.ae [.ptr H1.au 1] w=B1 (.int .i64 x.st):=zb (xc F) 1;have s:=h.em p;have d:∀(P Q:Prop)[Decidable P][Decidable Q],(P↔Q)->AV.bool (decide P)=.bool (decide Q):=λ P Q _ _ q=>by congr 1;exact decide_eq_decide.2 q
 by_cases a:m.k=11
 .simp only[aa,bc,w0,<-e1,<-e2,w2,f,xb a,ls];exact⟨by congr 1;simp[No.jM,a],p⟩
 by_cases c:m.k=12
 .simp only[aa,bc,w0,<-e1,<-e2,w2,f,a,ls,i,xb c,j];exact⟨by congr 1;simp[No.jM,c],p⟩
 by_cases e:m.k=13
 .simp only[aa,bc,w0,<-e1,<-e2,w2,f,a,ls,i,c,xb e,j];exact⟨by congr 1;simp[No.jM,e],p⟩
 by_cases g:m.k=14
 .simp only[aa,bc,w0,<-e1,<-e2,w2,f,a,i,c,e,j,xb g,qt,s.lo,t];refine C3.q (Gd s 1 m.line) λ v C⟨A,z⟩=>?_;rw[A];simp only[aa,bc,(s.em z).lo,Q5];exact⟨by congr 1;simp[No.jM,g],p.trans z λ _ q=>q.elim⟩
 by_cases l:m.k=15
 .simp only[aa,bc,w0,<-e1,<-e2,w2,f,a,i,c,e,j,g,u,xb l,qt,s.lo,t];refine C3.q (Gd s 2 m.line) λ v C⟨A,z⟩=>?_;rw[A];simp only[aa,bc,(s.em z).lo,Q5];exact⟨by congr 1;simp[No.jM,l],p.trans z λ _ q=>q.elim⟩
 by_cases o:m.k=16
 .have I:=h.kl;simp only[aa,bc,w0,<-e1,<-e2,w2,f,a,i,c,e,j,g,u,l,xb o,qt,s.vW,t];refine C3.q (y_ s.bk.sl (by omega) m.line) λ v C⟨A,G⟩=>?_;rw[A,G];simp only[aa,bc];exact⟨by congr 1;simp[No.jM,o,h.eq],p⟩
 .simp only[aa,bc,w0,<-e1,<-e2,w2,f,a,i,c,e,j,g,u,l,o,B];exact⟨by congr 1;simp[No.jM,a,c,e,g,l,o],p⟩
def Wh(c:Ca)(line st:Int)(d:L8):(c.fill line st d).1.sl.length=c.sl.length/\((c.fill line st d).1.us=c.us\/(c.fill line st d).1.us=c.us+1):=by
 unfold Ca.fill;cases c.pos line with
 |some i=>exact⟨rfl,.inl rfl⟩
 |none =>
  cases c.room line with
  |none=>exact⟨rfl,.inl rfl⟩
  |some i=>exact⟨xw,.inr rfl⟩
def D5{lines line st:Int}{c:Ca}{d:L8}(h:CI lines c)(hs:(c.fill line st d).2.1.st≠0):0<=(c.fill line st d).2.1.line:=by
 unfold Ca.fill at hs⊢;cases hp:c.pos line with
 |some i=>rw[hp]at hs;exact absurd rfl hs
 |none =>
  rw[hp]at hs;cases hr:c.room line with
  |none=>rw[hr]at hs;exact absurd rfl hs
  |some i =>
   rw[hr]at hs;have hs:(c.en i).st≠0:=hs;show 0<=(c.en i).line;rcases x9 i c.sl.length with q|q
   .exact (h.ok i q hs).2.1
   .rw [Z8 q]at hs;exact absurd rfl hs
def GC{line st:Int}{c:Ca}{d:L8}(h:(c.fill line st d).2.2=22):(c.fill line st d).1=c:=by
 unfold Ca.fill at h⊢;cases hp:c.pos line with
 |some i=>rfl
 |none =>
  rw[hp]at h;cases hr:c.room line with
  |none=>rfl
  |some i=>rw[hr]at h;exact absurd h (show¬(0:Int)=22 by decide)
def Ai.from{H H1 H':ar}{v:AV}{ms:List Mg}(h:Ai H1 H' v ms)(f:H.au<=H1.au):Ai H H' v ms:=by
 rcases h with q|⟨m,a,c,d,e,g,i⟩
 .exact .inl q
 .exact .inr ⟨m,a,c,d,xy f e,g,i⟩
def sr.from{n':No}{H1 H':ar}(f:Fr (iJ r b sv bv) H H1)(h:sr H0 H1 r b sv bv n' H'):sr H0 H r b sv bv n' H':=by
 have⟨a,c,d,e,g⟩:=h;have fn:=f.au;exact⟨a,c,d,jV f e,λ x q=>(g x q).imp id λ w=>by omega⟩
def sr.em{n':No}{H1 H':ar}(h:sr H0 H r b sv bv n' H1)(f:Fr Em H1 H'):sr H0 H r b sv bv n' H':=by
 have⟨a,c,d,e,g⟩:=h;exact⟨a,c,d.em f,e.em f,g⟩
def de.off{W:Nat->Prop}{H':ar}(h:de H0 H r b sv bv n ks)(f:Fr W H H')(hw:∀x,W x->H0.au<=x /\ ¬iJ r b sv bv x):de H0 H' r b sv bv n ks :=
 ⟨by rw[f.ah _ h.lt λ q=>(hw _ q).2 (.inl rfl)];exact h.row,qn h.lt f.au,h.ca.fr f (λ q=>(hw _ q).2 (.inr (.inl (.inl rfl)))) (λ q=>(hw _ q).2 (.inr (.inl (.inr rfl)))),h.bk.vU f (h.bk.fr.trans f λ x q=>.inr (hw x q).1) (λ x a q=>(hw x q).2 (.inr (.inr a))),h.eq,h.lr,h.lb,h.ls,h.n1,h.n2,h.o1,h.o2,h.o3,h.li,h.len⟩
def rp.from{a:No×List Mg}{H1 H':ar}{v:AV}(f:Fr (iJ r b sv bv) H H1)(h:rp H0 H1 r b sv bv a v H'):rp H0 H r b sv bv a v H':=⟨h.1.from f.au,h.2.from f⟩
def xjt(h:de H0 H r b sv bv n ks)(i:CI n.lines n.c)(hk:n.aL.length<=900000)(hu:n.c.us+1<=1000000)(m:Mg)(hm:0<=m.line):zd M Ou [.ptr r 0,.agg (ao m)] H (rp H0 H r b sv bv (n.fill m)):=by
 refine q05 ?_;obtain⟨w0,w4,w10,I,J,w28⟩:=q06 M ⟨B5,Ou⟩;have⟨H1,e1,f1,n1,O⟩:=cq H (OR (ao m) xq);have G:Op.ae [.ptr H.au 0] H1=B1 (.int .i64 m.k):=zb (xc O) 0;have T:=h.em f1;have hlr:=h.lt;have hlb:=h.ca.lt;have hls:aF sv<H.au:=h.ca.sl.lt;have V:=h.bk.fresh;have off:∀y,H.au<=y -> ¬iJ r b sv bv y:=λ y hy q=>by
  rcases q with q|q|q
  .omega
  .exact q.elim (λ q=>by omega) λ q=>by omega
  .have:=V _ q;omega
 -- the line's words
 have D:∀{w:ar},w.get H.au=B1 (OR (ao m) xq)->Op.aq 8 [.ptr H.au 3] w=B1 (.agg (cu m.d)):=λ g=>by
  rw[rU (xc g) (by rw[zi];decide)];have⟨k,co,l,⟨d,hd⟩⟩:=m
  match d,hd with
  |[d0,d1,d2,d3,d4,d5,d6,d7],_=>rfl
 have F:∀{w:ar},w.get H.au=B1 (OR (ao m) xq)->Op.ae [.ptr H.au 2] w=B1 (.int .i64 m.line):=λ g=>zb (xc g) 2
 -- what fQ is told
 have fin:∀{n':No}{st:Int}{u:ar}{t:Nat},de H0 u r b sv bv {n' with c:=(n'.c.fill m.line st m.d).1} ks->CI n'.lines n'.c->n'.aL=n.aL->Fr (iJ r b sv bv) H u->u.get t=B1 (OR (aw (n'.c.fill m.line st m.d).2.1) xk)->n.fill m=n'.dY m st ->
  ∀{E:Env},lk E 0=B1 (.ptr r 0)->lk E 6=B1 (.ptr t 0)->lk E 4=B1 .nils->lk E 7=B1 (.bool (decide ((n'.c.fill m.line st m.d).2.2=0/\(n'.c.fill m.line st m.d).2.1.st≠0))) ->
  W M ⟨B5,Ou⟩ (qpz 20) B4 (eG M [.tmp 4] (uZ (rp H0 H r b sv bv (n.fill m)))) E [] u:=by
  intro n' st u t hc B hb hf hg hn E p q6 q4 q7;rw[hn];unfold No.dY
  by_cases q:(n'.c.fill m.line st m.d).2.2=0/\(n'.c.fill m.line st m.d).2.1.st≠0
  .have Q:lk E 7=B1 (.bool B4):=by rw[q7,yd q]
   rw[xg q];have ld:=eF (n:=21) hg (z4 _);simp only[aa,bc,J,Q,w28,p,q6,ld];refine C3.q (xcx hc (by show n'.aL.length<=_;rw[hb];exact hk) _ (D5 B q.2)) λ v a U=>?_;simp only[aa,bc];exact U.from hf
  .have Q:lk E 7=B1 (.bool B2):=by rw[q7,kr q]
   rw[qy q];simp only[aa,bc,J,Q];exact⟨.inl ⟨rfl,rfl⟩,sr.of hc hf⟩
 -- put in
 have main:∀{st:Int},st=1\/st=2->n.fill m=n.mU m st -> ∀{E:Env},lk E 0=B1 (.ptr r 0)->lk E 3=B1 (.ptr H.au 0)->lk E 4=B1 .nils->lk E 5=B1 (.int .i64 st)->W M ⟨B5,Ou⟩ (qpz 10) B4 (eG M [.tmp 4] (uZ (rp H0 H r b sv bv (n.fill m)))) E [] H1:=by
  intro st C hn E p q3 q4 q5;simp only[aa,bc,w10,p,q3,q5,qt,T.l2,F O,D O];refine C3.q (m8 T.ca i hu hm C m.d) λ v a⟨hv,U,L⟩=>?_;rw[hv];unfold pN;have k2:a.get H.au=B1 (OR (ao m) xq):=by rw[L.ah _ (by omega) (λ q=>q.elim (λ q=>by omega) λ q=>by omega)];exact O
  have n2:=L.au;have Y:=T.iH U L (by rw[(Wh ..).1];exact h.len);obtain⟨s,z⟩:∃X,X=(a.alloc (OR (aw .zero) xk)).set a.au (OR (aw (n.c.fill m.line st m.d).2.1) xk):=⟨_,rfl⟩
  have R:Fr Em a s:=by rw[z];exact zI _ _
  have g3:s.get a.au=B1 (OR (aw (n.c.fill m.line st m.d).2.1) xk):=by rw[z,xe]
  have n3:s.au=a.au+1:=by rw[z];rfl
  have k3:s.get H.au=B1 (OR (ao m) xq):=by rw[R.ah _ (by omega) id];exact k2
  have o:=Y.em R;have A:Fr (iJ r b sv bv) H s:=jV (jV (nD f1) (wJ L)) (nD R)
  by_cases q:(n.c.fill m.line st m.d).2.2=22
  case neg =>
   have j:n.fill m=n.dY m st:=by rw[hn];unfold No.mU;rw[qy q]
   simp only[aa,bc,xj,eZ,jY,<-z,I,q];exact fin o i rfl A g3 j p rfl q4 rfl
  .have j:n.fill m=(n.iU 3).dY m st:=by rw[hn];unfold No.mU;rw[xg q]
   have ec:({n with c:=(n.c.fill m.line st m.d).1}:No)=n:=by rw[GC q]
   rw[ec]at o;simp only[aa,bc,xj,eZ,jY,<-z,I,xb q,p];refine C3.q (Ju o 3) λ _ H4⟨P,N⟩=>?_;have k4:H4.get H.au=B1 (OR (ao m) xq):=by rw[N.ah _ (by omega) (off _ (qm _))];exact k3
   have g4:H4.get a.au=B1 (OR (aw (n.c.fill m.line st m.d).2.1) xk):=by rw[N.ah _ (by omega) (off _ (by omega))];exact g3
   have n4:=N.au;simp only[aa,bc,q3,q5,qt,P.l2,F k4,D k4];have f:CI n.lines (n.iU 3).c:=i.discard;refine C3.q (m8 P.ca f hu hm C m.d) λ v K⟨hv,h5,S⟩=>?_;rw[hv];unfold pN;have g5:K.get a.au=B1 (OR (aw (n.c.fill m.line st m.d).2.1) xk):=by rw[S.ah _ (by omega) (λ q=>q.elim (λ q=>by omega) λ q=>by omega)];exact g4
   have s6:=fF g5 (z4 _) (z4 ((n.iU 3).c.fill m.line st m.d).2.1) (ug _);have Z:=P.iH h5 S (by rw[(Wh ..).1];exact P.len);have f6:Fr (On a.au) K (K.set a.au (OR (aw ((n.iU 3).c.fill m.line st m.d).2.1) xk)):=(Fr.refl K).set (W:=On a.au) (.inl rfl) _;simp only[aa,bc,xj,s6];refine fin (n':=n.iU 3) (t:=a.au) ?_ f rfl ?_ (xe ..) j p rfl q4 rfl
   .exact Z.off f6 (λ x(hx:x=a.au)=>by rw[hx];exact⟨by have:=h.bk.fr.au;omega,off _ (by omega)⟩)
   .exact (jV (jV A N) (wJ S)).set (.inr (by omega)) _
 by_cases e:m.k=15
 .simp only[aa,bc,w0,<-e1,w4,G,xb e];exact main (.inr rfl) (by unfold No.fill;rw[xg e]) rfl rfl rfl rfl
 .simp only[aa,bc,w0,<-e1,w4,G,e];exact main (.inl rfl) (by unfold No.fill;rw[qy e]) rfl rfl rfl rfl
end
end Go.Am
namespace Go.Am
open Go.Proofs Ca
open Lang (ints)
variable{M:ak}[MK M]
def xk6{H:ar}{e size bytes b n:Nat}{cells:List AV}(h:Sl H size (.slice b 0 n n) n cells)(hn:0<n){x:AV}{k:Nat}{new:List AV}(i:Sl H size x k new)(hk:0<k)(d:aN new=B4)(hs:0<size)
 (s:(n+k)*bytes<=140737488355328) (f:n+k<=140737488355328) {K:Bool->AV->ar->Prop} {m:Bool}
 (p:∀j H',Own H' e size j (n+k) (cells++new)->Fr Em H H'->(∀c,aM j c->H.au<=c)->K m j H'):i9 m (Op.append e size bytes [.slice b 0 n n,x] H) K:=by
 have a:=Tr s f;have hlen:new.length=k*size:=i.1;have g:=AZ hs;have o:Oc (n+k) n=false:=by cases t:Oc (n+k) n with|false=>rfl|true=>rw[ue]at t;omega
 have l:Op.append e size bytes [.slice b 0 n n,x] H=B1 (dD H e size (n+k) (cells++new) (0,0)):=by
  simp only[Op.append,i.eJ,i.first,qr,d,xu,cN,o,zn,a,ye (show n<=n+k by omega),g,z7,h.first,pD]
 rw[l];refine i9.intro rfl (p _ _ ⟨by rw[qv,h.1,hlen,yz],.inr ⟨H.au,rfl,by rw[xx];omega,?_⟩⟩ ((Fr.refl H).alloc _) λ c q=>by rw[q.2];exact qm _);rw[ar.bN,xg rfl]
def Ai.em{H H1 H':ar}{v:AV}{ms:List Mg}(h:Ai H H1 v ms)(f:Fr Em H1 H'):Ai H H' v ms:=by
 rcases h with q|⟨m,a,d,e,g,c,i⟩
 .exact .inl q
 .exact .inr ⟨m,a,d,e,g,qn c f.au,by rw[f.ah _ c id];exact i⟩
def LZ{H H':ar}{v a:AV}{ms:List Mg}{m:Mg}(h:Ai H H' v ms)(x:gW ao xq 11 H' a [m])(hl:H.au<=H'.au){K:Bool->AV->ar->Prop}
 (g:∀v2 c,mL H c v2 (ms ++ [m])->Fr Em H' c->K B4 v2 c):i9 B4 (Op.append xq 11 88 [v,a] H') K:=by
 have xs:=x.sl zi;have i:aN ([m].flatMap ao)=true:=by rw[jz,List.flatMap_nil,zm];exact qW m
 rcases h with⟨rfl,rfl⟩|⟨l,b,rfl,rfl,s,j,k⟩
 .refine Sv (Own.nil H' xq 11) xs i (by decide) (by simp) (by simp) λ v2 c o f w=>g v2 c ⟨?_,λ _=>?_⟩ (f.mono λ y _ q=>(q.1 rfl).elim)
  .have:=Own.sl o;exact this
  .have d:v2≠ .nils:=λ q=>by
    subst q;have:=Own.sl o;exact absurd this.2 (by intro z;cases z)
   exact(w _ ⟨d,rfl⟩).elim (λ q=>(q.1 rfl).elim) λ q=>by omega
 .have p:bX ao 11 H' (Op.sliceTo 1 1 b) [l]:=gW.sl (e:=xq) zi ⟨b,rfl,j,by rw[k];simp⟩;refine xk6 (b:=b) (n:=1) (e:=xq) p (by decide) xs (by simp) i (by decide) (by simp) (by simp) λ v2 c o f w=>g v2 c ⟨?_,λ _=>?_⟩ f
  .have:=Own.sl o;unfold bX;rw[jr];exact this
  .have d:v2≠ .nils:=λ q=>by
    subst q;have:=Own.sl o;exact absurd this.2 (by intro z;cases z)
   have:=w _ ⟨d,rfl⟩;omega
section
variable{H0 H:ar}{r b:Nat}{sv bv:AV}{n:No}{ks:List Nat}
def DY(ks:List Nat)(line:Int):ints (Ay ks line)=(ints ks).filter (· ≠line):=by
 unfold ints Ay;rw[List.filter_map];congr 1;refine List.filter_congr λ k _=>?_;show((k:Int) != line)=decide ((k:Int)≠line)
 by_cases q:(k:Int)=line<;>simp[q]
def xha(c:Ca)(line:Int):oE c line=.tuple [.agg (aw ((c.find line).getD .zero)),.bool (c.find line).isSome]:=by
 unfold oE;cases c.find line<;>rfl
def YB{x:En}{too:Bool}(h:CI n.lines n.c):CI n.lines (n.lost x too).c:=by
 unfold No.lost;split
 .split
  .exact h.discard
  .exact h.discard
 .exact h
def GQ(x:En)(too:Bool):(n.lost x too).aL=n.aL/\(n.lost x too).core=n.core/\(n.lost x too).lines=n.lines/\(n.lost x too).c.us=n.c.us:=by
 unfold No.lost;split
 .split<;>exact⟨rfl,rfl,rfl,rfl⟩
 .exact ⟨rfl,rfl,rfl,rfl⟩
def OE(c:Ca)(line:Int):(c.drop line).1.sl.length=c.sl.length/\(c.drop line).1.us=c.us:=by
 unfold Ca.drop;cases c.lJ line 0 with
 |none=>exact⟨rfl,rfl⟩
 |some i=>exact⟨xw,rfl⟩
def X_(c:Ca)(line:Int):(c.dc line).1.sl.length=c.sl.length/\(c.dc line).1.us=c.us:=by
 unfold Ca.dc;cases c.lJ line 2 with
 |none=>exact⟨rfl,rfl⟩
 |some i=>exact⟨xw,rfl⟩
def q85(c:Ca)(line:Int)(d:L8):(c.cX line d).sl.length=c.sl.length/\(c.cX line d).us=c.us:=by
 unfold Ca.cX;cases c.lJ line 1 with
 |none=>exact⟨rfl,rfl⟩
 |some i=>exact⟨xw,rfl⟩
def xmi(n:No)(x:En):(n.gone x).1.core=n.core:=by unfold No.gone;split<;>rfl
def xmd(n:No)(m:Mg):(n.fill m).1.core=n.core:=by
 have e:∀(n:No)(st:Int),(n.dY m st).1.core=n.core:=λ n st=>by
  unfold No.dY;split
  .exact xmi ..
  .rfl
 unfold No.fill;generalize(if m.k=15 then(2:Int)else 1)=st;unfold No.mU;split
 .exact e (n.iU 3) st
 .exact e n st
def vC(H0 H:ar)(r b:Nat)(sv bv:AV)(a:No×List Mg)(v:AV)(H':ar):Prop:=(∃ov e,v=.tuple [ov,e]/\mL H H' ov a.2)/\sr H0 H r b sv bv a.1 H'
def xks(h:de H0 H r b sv bv n ks)(U:CI n.lines n.c)(hk:n.aL.length<=900000)(hu:n.c.us+1<=1000000)(m:Mg):zd M vc [.ptr r 0,.agg (ao m)] H (vC H0 H r b sv bv (n.bW m)):=by
 refine q0y ?_;obtain⟨w0,w2,w10,w12,Z,w73,w34,w75,w40,w85,w41,w49,w53,w61⟩:=q0z M ⟨B5,vc⟩;have⟨H1,e1,f1,n1,g1⟩:=cq H (OR (ao m) xq);have hlr:=h.lt;have hlb:=h.ca.lt;have hls:aF sv<H.au:=h.ca.sl.lt;have hbf:=h.bk.fresh;have off:∀y,H.au<=y -> ¬iJ r b sv bv y:=λ y hy q=>by
  rcases q with q|q|q
  .omega
  .exact q.elim (λ q=>by omega) λ q=>by omega
  .have:=hbf _ q;omega
 have P:∀y,H.au<=y -> ¬nC b sv y:=λ y hy q=>off y hy (.inr (.inl q));have G:∀{D:ar},D.get H.au=B1 (OR (ao m) xq)->Op.ae [.ptr H.au 0] D=B1 (.int .i64 m.k):=λ g=>zb (xc g) 0;have ldc:∀{D:ar},D.get H.au=B1 (OR (ao m) xq)->Op.ae [.ptr H.au 1] D=B1 (.int .i64 m.core):=λ g=>zb (xc g) 1;have p:∀{D:ar},D.get H.au=B1 (OR (ao m) xq)->Op.ae [.ptr H.au 2] D=B1 (.int .i64 m.line):=λ g=>zb (xc g) 2;have ldm:∀{D:ar},D.get H.au=B1 (OR (ao m) xq)->Op.aq 11 [.ptr H.au 0] D=B1 (.agg (ao m)):=λ g=>eF g (zi m);have ldd:∀{D:ar},D.get H.au=B1 (OR (ao m) xq)->Op.aq 8 [.ptr H.au 3] D=B1 (.agg (cu m.d)):=λ g=>by
  rw[rU (xc g) (by rw[zi];decide)];have⟨k,co,l,⟨d,hd⟩⟩:=m
  match d,hd with
  |[d0,d1,d2,d3,d4,d5,d6,d7],_=>rfl
 have h1:=h.em f1;simp only[aa,bc,w0,<-e1,w2,yp,w10,qt,h1.l2,p g1];refine C3.q (Rw h1.ca U m.line) λ v I⟨J,f2⟩=>?_;rw[J,xha];obtain⟨x,hx⟩:∃x,x=(n.c.find m.line).getD .zero:=⟨_,rfl⟩
 rw[<-hx];obtain⟨H3,e3⟩:∃X,X=(I.alloc (OR (aw .zero) xk)).set I.au (OR (aw x) xk):=⟨_,rfl⟩
 have f3:Fr Em I H3:=by rw[e3];exact zI _ _
 have f03:Fr Em H H3:=(f1.trans f2 λ _ q=>q.elim).trans f3 λ _ q=>q.elim;have n2:=f2.au;have n3:H3.au=I.au+1:=by rw[e3];rfl
 have x3:H3.get I.au=B1 (OR (aw x) xk):=by rw[e3,xe]
 have g3:H3.get H.au=B1 (OR (ao m) xq):=by rw[f3.ah _ (by omega) id,f2.ah _ (by omega) id];exact g1
 have h3:=h.em f03;have ldx:∀{D:ar},D.get I.au=B1 (OR (aw x) xk)->Op.aq 21 [.ptr I.au 0] D=B1 (.agg (aw x)):=λ g=>eF g (z4 x);simp only[aa,bc,xj,eZ,jY,<-e3]
 -- what is not heard
 have no:∀{e:Int},(m.core≠n.core\/m.line<0\/n.lines<=m.line \/ ¬n.jM m ((n.c.find m.line).getD .zero)) -> ∀{H':ar},Fr Em H H'->vC H0 H r b sv bv (n.bW m) (.tuple [.nils,.int .i64 e]) H':=by
  intro e q H' f;have O:n.bW m=(n,[]):=by unfold No.bW;rw[xg q]
  rw[O];exact⟨⟨.nils,_,rfl,mL.nil ..⟩,h.same f⟩
 by_cases q1:m.core=n.core
 case neg =>
  simp only[aa,bc,w12,ldc g3,qt,h3.l0,q1];exact no (.inl q1) f03
 by_cases q2:m.line<0
 .simp only[aa,bc,w12,ldc g3,qt,h3.l0,xb q1,p g3,q2];exact no (.inr (.inl q2)) f03
 by_cases Y:n.lines<=m.line
 .simp only[aa,bc,w12,ldc g3,qt,h3.l0,xb q1,p g3,q2,h3.l1,Y];exact no (.inr (.inr (.inl Y))) f03
 simp only[aa,bc,w12,ldc g3,qt,h3.l0,xb q1,p g3,q2,h3.l1,Y,ldm g3,ldx x3];refine C3.q (xdf h3 hk m x) λ v H4⟨J,f4⟩=>?_;rw[J];have Q:Fr Em H H4:=f03.trans f4 λ _ q=>q.elim;have n4:=f4.au;have h4:=h.em Q;have R:H4.get H.au=B1 (OR (ao m) xq):=by rw[f4.ah _ (by omega) id];exact g3
 have x4:H4.get I.au=B1 (OR (aw x) xk):=by rw[f4.ah _ (by omega) id];exact x3
 by_cases q4:n.jM m x
 case neg =>
  simp only[aa,bc,kr q4];exact no (.inr (.inr (.inr (by rw[<-hx];exact q4)))) Q
 have hn:¬(m.core≠n.core\/m.line<0\/n.lines<=m.line \/ ¬n.jM m ((n.c.find m.line).getD .zero)):=by
  rw[<-hx];rintro(w|w|w|w)
  .exact w q1
  .exact q2 w
  .exact Y w
  .exact w q4
 rw[yd q4]
 -- the words that a message has
 have S:∀{k line:Int}{d:L8}{D:ar}{a:Nat},D.get a=B1 (OR (ao ⟨k,n.core,line,.zero⟩) xq)->Op.store 8 [.ptr a 3,.agg (cu d)] D=B1 (.undef,D.set a (OR (ao ⟨k,n.core,line,d⟩) xq)):=λ{k line d D a}g=>by
  have s6:=wO g (o:=3) (n:=8) (v:=.agg (cu d)) (by rw[zr];exact yj _) (by rw[zi];decide) (by rw[zr];exact uj _);rw[UW]at s6;exact s6
 by_cases s:m.k=11
 .have O:n.bW m=({n.lost x B4 with c:=((n.lost x B4).c.drop m.line).1},[n.msg 4 m.line]):=by
   unfold No.bW;rw[qy hn,xg s,<-hx]
  rw[O];simp only[aa,bc,Z,G R,xb s,ldx x4];refine C3.q (VO h4 x B4) λ _ j⟨K,A⟩=>?_;have n5:=A.au;have T:j.get H.au=B1 (OR (ao m) xq):=by rw[A.ah _ (by omega) (off _ (by omega))];exact R
  simp only[aa,bc,qt,K.l2,p T];refine C3.q (Y6 K.ca (YB U) m.line) λ _ C⟨_,L,z⟩=>?_;have g6:C.get H.au=B1 (OR (ao m) xq):=by rw[z.ah _ (by omega) (P _ (by omega))];exact T
  have hn6:=K.iH L z (by rw[(OE ..).1];exact K.len);simp only[aa,bc,p g6];refine C3.q (Gd hn6 4 m.line) λ v H7⟨J,F⟩=>?_;rw[J];have n6:=z.au;have n7:=F.au;have em:No.msg {n.lost x B4 with c:=((n.lost x B4).c.drop m.line).1} 4 m.line=n.msg 4 m.line:=by unfold No.msg;rw[show(No.core {n.lost x B4 with c:=((n.lost x B4).c.drop m.line).1})=n.core from(GQ (n:=n) x B4).2.1]
  rw[em];simp only[aa,bc,mZ,AJ];exact⟨⟨_,_,rfl,MI _ (by omega)⟩,sr.of ((hn6.em F).em ((Fr.refl _).alloc _)) (jV (jV (nD Q) A) ((jV (wJ z) (nD F)).alloc _))⟩
 by_cases i:m.k=12\/m.k=13
 .have t13:¬(13:Int)=11:=by decide
  -- a recall
  have rec41:∀{E:Env},lk E 0=B1 (.ptr r 0)->lk E 3=B1 (.ptr H.au 0)->lk E 6=B1 (.ptr I.au 0)->lk E 7=B1 (.bool (n.c.find m.line).isSome) ->
   W M ⟨B5,vc⟩ (NA 41) B4 (eY 0 (fp (W M ⟨B5,vc⟩ (NA 73)) (eG M [.tmp 4,.tmp 5] (uZ (vC H0 H r b sv bv (n.bW m)))))) E [] H4:=by
   intro E q0 Y q6 q7;cases hf:n.c.find m.line with
   |none =>
    have O:n.bW m=(n,[n.msg 6 m.line]):=by
     unfold No.bW;rw[qy hn,qy s,xg i,hf]
    rw[O];rw[hf]at q7;have q7:lk E 7=B1 (.bool B2):=q7;simp only[aa,bc,w41,q7,q0,Y,p R];refine C3.q (Gd h4 6 m.line) λ v j⟨J,A⟩=>?_;rw[J];have n5:=A.au;simp only[aa,bc,mZ,AJ];exact⟨⟨_,_,rfl,MI _ (by omega)⟩,h.same ((Q.trans A λ _ q=>q.elim).alloc _)⟩
   |some x' =>
    have exx:x=x':=by rw[hx,hf];rfl
    subst exx;rw[hf]at q7;have q7:lk E 7=B1 (.bool B4):=q7
    -- behind the loss
    have go:∀{too:Bool}{j:ar},(too=B4↔m.k=13)->de H0 j r b sv bv (n.lost x too) ks->Fr (iJ r b sv bv) H4 j -> ∀{E:Env},lk E 0=B1 (.ptr r 0)->lk E 3=B1 (.ptr H.au 0)->lk E 6=B1 (.ptr I.au 0)->lk E 8=B1 (.ptr j.au 0) ->
     ∀{C:ar},C=(j.alloc (OR (ao ⟨0,0,0,.zero⟩) xq)).set j.au (OR (ao (n.msg 5 m.line)) xq) ->
     W M ⟨B5,vc⟩ (NA 53) B4 (eY 0 (fp (W M ⟨B5,vc⟩ (NA 73)) (eG M [.tmp 4,.tmp 5] (uZ (vC H0 H r b sv bv (n.bW m)))))) E [] C:=by
     intro too j ht K A E q0 Y q6 q8 C e6;have n5:=A.au;have z:Fr Em j C:=by rw[e6];exact zI _ _
     have n6:C.au=j.au+1:=by rw[e6];rfl
     have L:=K.em z;have T:j.get H.au=B1 (OR (ao m) xq):=by rw[A.ah _ (by omega) (off _ (by omega))];exact R
     have g6:C.get H.au=B1 (OR (ao m) xq):=by rw[z.ah _ (by omega) id];exact T
     have x5:j.get I.au=B1 (OR (aw x) xk):=by rw[A.ah _ (by omega) (off _ (by omega))];exact x4
     have x6:C.get I.au=B1 (OR (aw x) xk):=by rw[z.ah _ (by omega) id];exact x5
     have b6:C.get j.au=B1 (OR (ao (n.msg 5 m.line)) xq):=by rw[e6,xe]
     have f06:Fr (iJ r b sv bv) H C:=jV (jV (nD Q) A) (nD z)
     -- the answer
     have out:∀{d:L8}{n':No}{N:ar},n.bW m=(n',[⟨5,n.core,m.line,d⟩])->de H0 N r b sv bv n' ks->Fr (iJ r b sv bv) H N->C.au<=N.au -> ∀{E:Env},lk E 8=B1 (.ptr j.au 0) ->
      W M ⟨B5,vc⟩ (NA 61) B4 (eY 0 (fp (W M ⟨B5,vc⟩ (NA 73)) (eG M [.tmp 4,.tmp 5] (uZ (vC H0 H r b sv bv (n.bW m)))))) E [] (N.set j.au (OR (ao ⟨5,n.core,m.line,d⟩) xq)):=by
      intro d n' N O h8 f8 n8 E q8;rw[O];have ld:=eF (xe N j.au (OR (ao ⟨5,n.core,m.line,d⟩) xq)) (zi _);simp only[aa,bc,w61,q8,ld,mZ,AJ];have f9:Fr (On j.au) N (N.set j.au (OR (ao ⟨5,n.core,m.line,d⟩) xq)):=(Fr.refl N).set (W:=On j.au) (.inl rfl) _;have h9:=h8.off f9 (λ x(hx:x=j.au)=>by rw[hx];exact⟨by have:=h.bk.fr.au;omega,off _ (by omega)⟩);exact⟨⟨_,_,rfl,MI _ (by rw[tI];omega)⟩,sr.of (h9.em ((Fr.refl _).alloc _)) ((f8.set (.inr (by omega)) _).alloc _)⟩
     by_cases B:m.k=12
     .have et:too=false:=by cases too with|false=>rfl|true=>have:=ht.1 rfl;omega
      subst et;have O:n.bW m=({n.lost x B2 with c:=((n.lost x B2).c.dc m.line).1},[⟨5,n.core,m.line,((n.lost x B2).c.dc m.line).2⟩]):=by
       unfold No.bW;rw[qy hn,qy s,xg i,hf];show(if m.k=12 then _ else _)=_;rw[xg B]
      simp only[aa,bc,w53,q0,Y,G g6,xb B,qt,L.l2,p g6];refine C3.q (xe7 L.ca (YB U) m.line) λ v H7⟨J,h7,F⟩=>?_;rw[J];unfold tJ;have n7:=F.au;have b7:H7.get j.au=B1 (OR (ao (n.msg 5 m.line)) xq):=by rw[F.ah _ (by omega) (P _ (by omega))];exact b6
      have hn7:=L.iH h7 F (by rw[(X_ ..).1];exact L.len);simp only[aa,bc,xj,q8,S b7];exact out O hn7 (jV f06 (wJ F)) (by omega) q8
     .have u:m.k=13:=by omega
      have et:too=true:=ht.2 u;subst et;have O:n.bW m=({n.lost x B4 with c:=((n.lost x B4).c.drop m.line).1},[⟨5,n.core,m.line,((n.lost x B4).c.drop m.line).2.d⟩]):=by
       unfold No.bW;rw[qy hn,qy s,xg i,hf];show(if m.k=12 then _ else _)=_;rw[qy B]
      simp only[aa,bc,w53,q0,Y,G g6,B,qt,L.l2,p g6];refine C3.q (Y6 L.ca (YB U) m.line) λ v H7⟨J,h7,F⟩=>?_;rw[J];unfold zO;have n7:=F.au;have b7:H7.get j.au=B1 (OR (ao (n.msg 5 m.line)) xq):=by rw[F.ah _ (by omega) (P _ (by omega))];exact b6
      have x7:H7.get I.au=B1 (OR (aw x) xk):=by rw[F.ah _ (by omega) (P _ (by omega))];exact x6
      have hn7:=L.iH h7 F (by rw[(OE ..).1];exact L.len);have s8:=fF x7 (z4 _) (z4 ((n.lost x B4).c.drop m.line).2) (ug _);obtain⟨N,e8⟩:∃X,X=H7.set I.au (OR (aw ((n.lost x B4).c.drop m.line).2) xk):=⟨_,rfl⟩
      rw[<-e8]at s8;have f8:Fr (On I.au) H7 N:=by rw[e8];exact(Fr.refl H7).set (W:=On I.au) (.inl rfl) _
      have x8:N.get I.au=B1 (OR (aw ((n.lost x B4).c.drop m.line).2) xk):=by rw[e8,xe]
      have b8:N.get j.au=B1 (OR (ao (n.msg 5 m.line)) xq):=by rw[f8.ah _ (by omega) (λ(q:j.au=I.au)=>by omega)];exact b7
      have ld8:Op.aq 8 [.ptr I.au 4] N=B1 (.agg (cu ((n.lost x B4).c.drop m.line).2.d)):=by rw[rU (xc x8) (by rw[z4];decide),BN]
      have hn8:=hn7.off f8 (λ x(hx:x=I.au)=>by rw[hx];exact⟨by have:=h.bk.fr.au;omega,off _ (by omega)⟩);have f78:Fr (iJ r b sv bv) H N:=by rw[e8];exact(jV f06 (wJ F)).set (.inr (by omega)) _
      simp only[aa,bc,xj,q6,q8,s8,ld8,S b8];exact out O hn8 f78 (by have:=f8.au;omega) q8
    by_cases B:m.k=12
    .have u:¬m.k=13:=by omega
     simp only[aa,bc,w41,q7,w49,q0,Y,q6,ldx x4,G R,u];refine C3.q (VO h4 x B2) λ _ j⟨K,A⟩=>?_;have n5:=A.au;have T:j.get H.au=B1 (OR (ao m) xq):=by rw[A.ah _ (by omega) (off _ (by omega))];exact R
     simp only[aa,bc,p T];refine C3.q (Gd K 5 m.line) λ v C⟨J,z⟩=>?_;have em:(n.lost x B2).msg 5 m.line=n.msg 5 m.line:=by unfold No.msg;rw[(GQ (n:=n) x B2).2.1]
     rw[J,em];have s6:=fF (xp C (OR (ao ⟨0,0,0,.zero⟩) xq)) (zi _) (zi (n.msg 5 m.line)) (qW _);simp only[aa,bc,mZ,s6];refine go (too:=B2) ⟨λ q=>(by cases q),λ q=>absurd q u⟩ (K.em z) (jV A (nD z)) ?_ ?_ ?_ ?_ ?_
     .exact q0
     .exact Y
     .exact q6
     .rfl
     .rfl
    .have u:m.k=13:=by omega
     simp only[aa,bc,w41,q7,w49,q0,Y,q6,ldx x4,G R,xb u];refine C3.q (VO h4 x B4) λ _ j⟨K,A⟩=>?_;have n5:=A.au;have T:j.get H.au=B1 (OR (ao m) xq):=by rw[A.ah _ (by omega) (off _ (by omega))];exact R
     simp only[aa,bc,p T];refine C3.q (Gd K 5 m.line) λ v C⟨J,z⟩=>?_;have em:(n.lost x B4).msg 5 m.line=n.msg 5 m.line:=by unfold No.msg;rw[(GQ (n:=n) x B4).2.1]
     rw[J,em];have s6:=fF (xp C (OR (ao ⟨0,0,0,.zero⟩) xq)) (zi _) (zi (n.msg 5 m.line)) (qW _);simp only[aa,bc,mZ,s6];refine go (too:=B4) ⟨λ _=>u,λ _=>rfl⟩ (K.em z) (jV A (nD z)) ?_ ?_ ?_ ?_ ?_
     .exact q0
     .exact Y
     .exact q6
     .rfl
     .rfl
  by_cases B:m.k=12
  .simp only[aa,bc,Z,G R,s,w34,xb B,w40];exact rec41 rfl rfl rfl rfl
  .have u:m.k=13:=by omega
   simp only[aa,bc,Z,G R,s,w34,B,xb u,w40];exact rec41 rfl rfl rfl rfl
 have B:¬m.k=12:=λ q=>i (.inl q);have u:¬m.k=13:=λ q=>i (.inr q)
 by_cases V:m.k=16
 .have O:n.bW m=({n with aL:=n.aL.filter (· ≠m.line)},[]):=by
   unfold No.bW;rw[qy hn,qy s,qy i,xg V]
  rw[O];have hkl:=h.kl;simp only[aa,bc,Z,G R,s,w34,B,u,w40,xb V,qt,h4.vW];refine C3.q (xe6 (t:=H.au) (line:=m.line) (λ f=>p (by rw[f.ah _ (by omega) λ q=>by have:=hbf _ q;omega];exact R)) h4.bk (by omega)) λ v j⟨hs,A,w5⟩=>?_;have⟨C,s6,L,z⟩:=h4.Jw hs A (λ x q=>.inl (w5 x q));simp only[aa,bc,s6];rw[DY,<-h.eq]at L;exact⟨⟨_,_,rfl,mL.nil ..⟩,v,_,L,jV (nD Q) z,λ x q=>.inl (w5 x q)⟩
 -- what was asked for
 have⟨j,s5,K,A⟩:=h4.C8 ⟨0,0,0,.zero⟩;have n5:=A.au;have T:j.get H.au=B1 (OR (ao m) xq):=by rw[A.ah _ (by omega) (λ(q:H.au=r)=>by omega)];exact R
 have f05:Fr (iJ r b sv bv) H j:=jV (nD Q) (L7 A);cases hf:n.c.find m.line with
 |some x' =>
  have O:n.bW m=({n with out:=⟨0,0,0,.zero⟩,c:=n.c.cX m.line m.d},[n.msg 7 m.line]):=by
   unfold No.bW;rw[qy hn,qy s,qy i,qy V,hf]
  rw[O];simp only[aa,bc,Z,G R,s,w34,B,u,w40,V,w73,mZ,Bo,qt,s5,w75,vy,K.l2,p T,ldd T];refine C3.q (xdu K.ca U m.line m.d) λ _ C⟨L,z⟩=>?_;have g6:C.get H.au=B1 (OR (ao m) xq):=by rw[z.ah _ (by omega) (P _ (by omega))];exact T
  have hn6:=K.iH L z (by rw[(q85 ..).1];exact K.len);simp only[aa,bc,p g6];refine C3.q (Gd hn6 7 m.line) λ v H7⟨J,F⟩=>?_;rw[J];have n6:=z.au;have n7:=F.au;simp only[aa,bc,AJ];exact⟨⟨_,_,rfl,MI _ (by omega)⟩,sr.of ((hn6.em F).em ((Fr.refl _).alloc _)) (jV f05 ((jV (wJ z) (nD F)).alloc _))⟩
 |none =>
  have O:n.bW m=((No.fill {n with out:=⟨0,0,0,.zero⟩} m).1,(No.fill {n with out:=⟨0,0,0,.zero⟩} m).2 ++ [n.msg 7 m.line]):=by
   unfold No.bW;rw[qy hn,qy s,qy i,qy V,hf]
  rw[O];simp only[aa,bc,Z,G R,s,w34,B,u,w40,V,w73,mZ,Bo,qt,s5,w75,NN,w85,ldm T];refine C3.q (xjt K U hk hu m (by omega)) λ v C⟨hm6,bv',ks',L,z,w6⟩=>?_;have n6:=z.au;have g6:C.get H.au=B1 (OR (ao m) xq):=by rw[z.ah _ (by omega) (off _ (by omega))];exact T
  simp only[aa,bc,p g6];refine C3.q (Gd L 7 m.line) λ v H7⟨J,F⟩=>?_;have ec:(No.fill {n with out:=⟨0,0,0,.zero⟩} m).1.core=n.core:=xmd _ m;have em:(No.fill {n with out:=⟨0,0,0,.zero⟩} m).1.msg 7 m.line=n.msg 7 m.line:=by unfold No.msg;rw[ec]
  rw[J,em];simp only[aa,bc,AJ];have n7:=F.au;refine LZ (H:=j) (m:=n.msg 7 m.line) (hm6.em (F.alloc _)) (Mn _) (by rw[xx];omega) λ v2 N hms f8=>?_;simp only[aa,bc];have f68:Fr Em C N:=(F.alloc _).trans f8 λ _ q=>q.elim;exact⟨⟨_,_,rfl,hms.1,λ q=>by have:=hms.2 q;omega⟩,bv',ks',L.em f68,jV f05 (jV z (nD f68)),λ x q=>(w6 x q).imp id λ w=>by omega⟩
end
end Go.Am
namespace Go.Am
open Go.Proofs Ca
open Lang (ints)
variable{M:ak}[MK M]
section
variable{H0 H:ar}{r b:Nat}{sv bv:AV}{n:No}{ks:List Nat}
def DP{lines line:Int}{c:Ca}(h:CI lines c):0<=(c.drop line).2.line:=by
 unfold Ca.drop;cases hp:c.lJ line 0 with
 |none=>exact vQ _
 |some i =>
  rw[sF]at hp;obtain⟨a,d,e,hl,-⟩:=h.bA hp;show 0<=(c.en i).line;rw[hl];exact a
end
end Go.Am
namespace Go.Am
open Go.Proofs Ca
open Lang (ints)
variable{M:ak}[MK M]
structure Bd(n n':No):Prop where
 bk:n'.aL.length<=n.aL.length+1
 us:n'.c.us<=n.c.us+2
section
variable{n:No}
def T'(n:No)(x:En):(n.gone x).1.aL.length<=n.aL.length+1/\(n.gone x).1.c=n.c:=by
 unfold No.gone;split
 .exact ⟨by show(n.aL ++ [x.line]).length<=_;rw[qv];exact qm _,rfl⟩
 .exact ⟨jx _,rfl⟩
def sm(n:No)(m:Mg)(st:Int):(n.dY m st).1.aL.length<=n.aL.length+1/\(n.dY m st).1.c.us<=n.c.us+1:=by
 have h:=(Wh n.c m.line st m.d).2;unfold No.dY;split
 .obtain ⟨a,b⟩:=T' {n with c:=(n.c.fill m.line st m.d).1} (n.c.fill m.line st m.d).2.1;exact⟨a,by rw[b];show(n.c.fill m.line st m.d).1.us<=_;omega⟩
 .exact ⟨jx _,by show(n.c.fill m.line st m.d).1.us<=_;omega⟩
def G9(n:No)(m:Mg):Bd n (n.fill m).1:=by
 unfold No.fill;generalize(if m.k=15 then(2:Int)else 1)=st;unfold No.mU;split
 .obtain ⟨a,b⟩:=sm (n.iU 3) m st;have e:(n.iU 3).c.us=n.c.us:=rfl;exact⟨a,by omega⟩
 .obtain ⟨a,b⟩:=sm n m st;exact⟨a,by omega⟩
theorem Bd.refl(n:No):Bd n n:=⟨by omega,by omega⟩
def YC(n:No)(k line:Int):Bd n (n.ask k line).1:=by
 unfold No.ask;split
 .exact Bd.refl n
 .exact ⟨jx _,by show n.c.us<=_;omega⟩
def HV(n:No)(m:Mg):Bd n (n.bW m).1:=by
 unfold No.bW;split
 .exact Bd.refl n
 split
 .exact ⟨by show(n.lost _ B4).aL.length<=_;rw[(GQ _ B4).1];omega,by show(Ca.drop _ _).1.us<=_;rw[(OE ..).2,(GQ _ B4).2.2.2];omega⟩
 split
 .cases n.c.find m.line with
  |none=>exact Bd.refl n
  |some x =>
   show Bd n (Prod.fst (if m.k=12 then _ else _));split
   .exact ⟨by show(n.lost _ B2).aL.length<=_;rw[(GQ _ B2).1];omega,by show(Ca.dc _ _).1.us<=_;rw[(X_ ..).2,(GQ _ B2).2.2.2];omega⟩
   .exact ⟨by show(n.lost _ B4).aL.length<=_;rw[(GQ _ B4).1];omega,by show(Ca.drop _ _).1.us<=_;rw[(OE ..).2,(GQ _ B4).2.2.2];omega⟩
 split
 .exact ⟨by show(n.aL.filter _).length<=_;have:=List.length_filter_le (λ x=>decide (x≠m.line)) n.aL;omega,by show n.c.us<=_;omega⟩
 .cases n.c.find m.line with
  |some x=>exact⟨jx _,by show(n.c.cX m.line m.d).us<=_;rw[(q85 ..).2];omega⟩
  |none =>
   obtain⟨a,b⟩:=G9 {n with out:=⟨0,0,0,.zero⟩} m;exact⟨a,b⟩
def I1(n:No)(line:Int):Bd n (n.di line).1:=by
 unfold No.di;split
 .exact Bd.refl n
 .cases n.c.find line with
  |none=>exact Bd.refl n
  |some x =>
   have e:∀n':No,n'.aL=n.aL->n'.c.us=n.c.us->Bd n (No.gone {n' with c:=(n'.c.drop line).1} (n'.c.drop line).2).1:=λ n' e1 e2=>by
    obtain⟨a,b⟩:=T' {n' with c:=(n'.c.drop line).1} (n'.c.drop line).2;refine⟨by rw[<-e1];exact a,?_⟩;rw[b];show(n'.c.drop line).1.us<=_;rw[(OE ..).2,e2];omega
   show Bd n (No.gone _ _).1
   by_cases q:(x.r ||x.w)=B4
   .simp only[xg q];exact e (n.iU 4) rfl rfl
   .simp only[qy q];exact e n rfl rfl
def Hf(n:No)(a:Int):Bd n (n.load a).1:=by
 unfold No.load;split
 .cases n.c.find (No.ln a)with
  |none=>exact YC ..
  |some x =>
   refine⟨jx _,?_⟩;show((if n.live=B4 then n.c.mark (No.ln a) B2 else n.c).word a.toNat).1.us<=_;have d:=(RZ (if n.live=B4 then n.c.mark (No.ln a) B2 else n.c) a.toNat).2;have e:(if n.live=B4 then n.c.mark (No.ln a) B2 else n.c).us=n.c.us:=by split;exact(Ua ..).1;rfl
   omega
 .exact Bd.refl n
def ag3(n:No)(a y:Int):Bd n (n.store a y).1:=by
 unfold No.store;split
 .split
  .refine ⟨jx _,?_⟩;show((if n.live=B4 then n.c.mark (No.ln a) B4 else n.c).put a.toNat y).us<=_;have d:=(Sq (if n.live=B4 then n.c.mark (No.ln a) B4 else n.c) a.toNat y).2;have e:(if n.live=B4 then n.c.mark (No.ln a) B4 else n.c).us=n.c.us:=by split;exact(Ua ..).1;rfl
   omega
  .exact YC ..
 .exact Bd.refl n
def LC(n:No)(a o y:Int):Bd n (n.nH a o y).1:=by
 unfold No.nH;split
 .split
  .exact Bd.refl n
  .split
   .refine ⟨jx _,?_⟩;have d:=(RZ n.c a.toNat).2;show(if(n.c.word a.toNat).2.getD 0=o then(n.c.word a.toNat).1.put a.toNat y else(n.c.word a.toNat).1).us<=_;split
    .have e:=(Sq (n.c.word a.toNat).1 a.toNat y).2;omega
    .omega
   .exact YC ..
 .exact Bd.refl n
end
def pB(core lines s w:Int):No:=⟨core,lines,pQ s.toNat w.toNat,⟨0,0,0,.zero⟩,[],B2,0⟩
def wU(core lines cores s w:Int):Prop:=sQ s w/\0<=core/\core<cores/\cores<=4/\2<=lines/\lines<=64
def ag4{core lines cores s w:Int}(h:wU core lines cores s w):(pB core lines s w).NI:=by
 obtain⟨⟨a,b,c,d⟩,-⟩:=h;exact⟨ad9 lines (by omega) (by omega),λ _=>xf2 s.toNat w.toNat⟩
def eD(lines cores s w:Int):List AV:=[.int .i64 lines,.int .i64 cores,.int .i64 s,.int .i64 w]
def Vu(core lines:Int)(b:Nat)(s w:Int):Op.build [.int .i64 0,.int .i64 0,.nilp,.int .i64 0,.int .i64 0,.int .i64 0,.int .u64 0,.int .u64 0,.int .u64 0,.int .u64 0,.int .u64 0,.int .u64 0,.int .u64 0,.int .u64 0,.nils,.bool B2,.int .i64 0] [(0,1),(1,1),(2,1)] [.int .i64 core,.int .i64 lines,.ptr b 0]=B1 (.agg (rV (pB core lines s w) b .nils)):=rfl
def ad8(H:ar)(core lines cores s w:Int)(v:AV)(H':ar):Prop:=(¬wU core lines cores s w/\v=.tuple [.nilp,.int .i64 2]/\Fr Em H H')\/wU core lines cores s w /\ ∃r b sv,v=.tuple [.ptr r 0,.int .i64 0]/\de H H' r b sv .nils (pB core lines s w) []
def xdo{H:ar}(core lines cores s w:Int):zd M ZQ [.int .i64 core,.agg (eD lines cores s w)] H (ad8 H core lines cores s w):=by
 refine xjw ?_;obtain⟨w0,w4,p⟩:=xjx M ⟨B5,ZQ⟩;obtain⟨H1,e1,z,n1,l⟩:=cq H (OR (eD lines cores s w) A8);have l2:Op.ae [.ptr H.au 2] H1=B1 (.int .i64 s):=zb (xc l) 2;have l3:Op.ae [.ptr H.au 3] H1=B1 (.int .i64 w):=zb (xc l) 3;simp only[aa,bc,w0,<-e1,l2,l3];refine C3.q (xjl (M:=M) s w) λ v f⟨t,h⟩=>?_;have x:f.get H.au=B1 (OR (eD lines cores s w) A8):=by rw[t.ah _ (by omega) id];exact l
 have l0:Op.ae [.ptr H.au 0] f=B1 (.int .i64 lines):=zb (xc x) 0;have l1:Op.ae [.ptr H.au 1] f=B1 (.int .i64 cores):=zb (xc x) 1;have e:Fr Em H f:=z.trans t λ _ q=>q.elim;have C:¬(2:Int)=0:=by decide
 have E:=xb (show(0:Int)=0 from rfl);rcases h with⟨hn,h⟩|⟨ho,b,sv,h,m,hb,hs⟩
 .rw [h];simp only[aa,bc,xj,w4,C];exact .inl ⟨λ q=>hn q.1,rfl,e⟩
 rw[h]
 by_cases g:core<0
 .simp only[aa,bc,xj,w4,g];exact .inl ⟨λ q=>by have:=q.2.1;omega,rfl,e⟩
 by_cases i:cores<=core
 .simp only[aa,bc,xj,w4,g,l1,i];exact .inl ⟨λ q=>by have:=q.2.2.1;omega,rfl,e⟩
 by_cases j:4<cores
 .simp only[aa,bc,xj,w4,g,l1,i,j];exact .inl ⟨λ q=>by have:=q.2.2.2.1;omega,rfl,e⟩
 by_cases o:lines<2
 .simp only[aa,bc,xj,w4,g,l1,i,j,l0,o];exact .inl ⟨λ q=>by have:=q.2.2.2.2.1;omega,rfl,e⟩
 by_cases y:64<lines
 .simp only[aa,bc,xj,w4,g,l1,i,j,l0,o,y];exact .inl ⟨λ q=>by have:=q.2.2.2.2.2;omega,rfl,e⟩
 obtain⟨D,k,u,-,-⟩:=cq f (OR (rV (pB core lines s w) b .nils) Pa);simp only[aa,bc,xj,w4,g,l1,i,j,l0,o,y,p,Vu core lines b s w,<-k];have A:=m.lt;have B:aF sv<f.au:=m.sl.lt;refine .inr ⟨⟨ho,by omega,by omega,by omega,by omega,by omega⟩,f.au,b,sv,rfl,⟨by rw[k,xp],by rw[k,xx];omega,m.em u,⟨.inl ⟨rfl,rfl⟩,e.trans u λ _ q=>q.elim⟩,rfl,e.au,by omega,by omega,by omega,by omega,λ q=>q.1 rfl,λ q=>q.1 rfl,λ q=>q.1 rfl,⟨by show 2<=lines;omega,by show lines<=64;omega⟩,?_⟩⟩;show(Jm (s.toNat*w.toNat) En.zero).length<=40;rw[zx];obtain⟨a,b,c,d⟩:=ho;have:=Nat.mul_le_mul (show s.toNat<=8 by omega) (show w.toNat<=4 by omega);omega
end Go.Am
