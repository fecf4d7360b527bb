import Derived.Test.YtgjdmncoonceaaaGreatDoorAmFZf
import Derived.Test.YtgjdmncoonceaaaGreatDoorAmFZg
set_option linter.defProp false
set_option linter.unusedVariables false
set_option linter.unusedSimpArgs false
set_option linter.unusedSectionVars false
set_option maxRecDepth 100000
open Bool renaming false→B2,true→B4
open Go renaming IntKind→P0
open List renaming replicate→JK
open Nat renaming beq→I6,ble→Oa,blt→PM
open Option renaming none→B5,some→B1
open Nat renaming reduceEqDiff→bc
namespace Go.Am
open Go.Proofs Ca
open Lang (ints)
variable{M:ak}[MK M]
def pV(ks:List Nat)(z:Int):Int:=match dF (λ i=>(ks[i]?.getD 0:Int) == z) ks.length with
 |some i=>i
 |none=>-1
section
variable{H H0:ar}{v:AV}{ks:List Nat}
def Tt(h:bV iq 1 H v ks){i:Nat}(c:i<ks.length):Op.aP 1 [v,.int .i64 (i:Int)]=B1 (.ptr (aE v) (cM 1 v i))/\Op.ae [.ptr (aE v) (cM 1 v i)] H=B1 (.int .i64 (ks[i]?.getD 0:Nat)):=by
 have a:ks[i]? = B1 ks[i]:=by grind
 refine⟨h.idx a rfl .i64,?_⟩;rw[h.kW DP a (by decide),a];rfl
def xht(h:bV iq 1 H v ks)(hl:ks.length<=1000000)(z:Int):zb M ZP [v,.int .i64 z] H λ r H'=>r=.int .i64 (pV ks z)/\H'=H:=by
 refine qvx ?_;obtain⟨w0,w2,o,l,d,g⟩:=qvy M ⟨B5,ZP⟩;simp only[aa,bc,w0,w2,h.len];refine da.intro (λ n E j=>∃i:Nat,E=[(8,.int .i64 (i:Int)),(7,.int .i64 ((ks.length:Nat):Int)),(0,v),(1,.int .i64 z)]/\n=ks.length-i/\i<=ks.length/\j=H /\ ∀k,k<i->((ks[k]?.getD 0:Int) == z)=B2) ?_ ?_
 .exact ⟨_,_,⟨0,rfl,rfl,xz _,rfl,λ k hk=>by omega⟩,by simp only[aa,bc]⟩
 rintro n E j ⟨i,rfl,rfl,s,rfl,c⟩;rcases xy i ks.length with a|m
 .have f:(i:Int)<((ks.length:Nat):Int):=by omega
  have⟨ix,ld⟩:=Tt h a;have p:aj .i64 ((i:Int)+1)=((i+1:Nat):Int):=by grind [ji]
  by_cases q:z=((ks[i]?.getD 0:Nat):Int)
  .simp only[aa,bc,l,f,d,ix,ld,qy q];unfold pV;rw[Oi a (by simp[<-q]) c]
  .simp only[aa,bc,l,f,d,ix,ld,q,g,p];refine⟨_,_,⟨i+1,rfl,rfl,by omega,λ k hk=>?_⟩,by simp only[aa,bc],by omega⟩
   by_cases e:k=i
   .rw [e];simpa using λ w=>q w.symm
   .exact c k (by omega)
 .have f:¬(i:Int)<((ks.length:Nat):Int):=by omega
  have e:i=ks.length:=by omega
  simp_all[aa,pV,Nw]
def Iw{z:Int}:0<=pV ks z↔z∈ints ks:=by
 unfold pV;cases d:dF (λ i=>(ks[i]?.getD 0:Int) == z) ks.length with
 |some i =>
  obtain⟨a,b,-⟩:=Lg d;refine⟨λ _=>?_,λ _=>by show(0:Int)<=(i:Nat);omega⟩;have c:ks[i]? = B1 ks[i]:=by simp[a]
  rw[c]at b;have b:((ks[i]:Nat):Int)=z:=by simpa using b
  rw[<-b];exact As.2 ⟨ks[i],zd c,rfl⟩
 |none =>
  refine⟨λ q=>by grind,λ q=>?_⟩;exfalso;have⟨k,hk,e⟩:=As.1 q
  grind [Mc,KF]
def Z8(h:bV iq 1 H v ks)(hl:ks.length<=1000000)(z:Int):zb M qip [v,.int .i64 z] H λ r H'=>r=.bool (decide (z∈ints ks))/\H'=H:=by
 refine qq8 ?_;simp only[aa,bc,qq9];refine C3.q (xht h hl z) λ r H1⟨hr,a⟩=>?_;rw[hr,a];simp only[aa,bc];exact congrArg AV.bool (decide_eq_decide.2 Iw)
def s_{t:Nat}{line:Int}(x:Int)(hl:Op.ae [.ptr t 2] H=B1 (.int .i64 line)):zb M U9 [.int .i64 x,.ptr t 0] H λ r H'=>r=.bool (decide (x=line))/\H'=H:=by
 refine qvq ?_
 by_cases q:x=line
 .simp only[aa,bc,_G,hl,qy q]
 .simp only[aa,bc,_G,hl,q]
abbrev Hp(t:Nat):AV:=.fn (.func U9) [] [.ptr t 0]
def xea{t:Nat}{line:Int}(hl:Op.ae [.ptr t 2] H=B1 (.int .i64 line))(h:bV iq 1 H v ks)(hk:ks.length<=1000000):zb M W8 [v,Hp t] H λ r H'=>r=.int .i64 (pV ks line)/\H'=H:=by
 refine qpn ?_;obtain⟨w0,w2,o,p,d,f⟩:=qpo M ⟨B5,W8⟩;simp only[aa,bc,w0,w2,h.len];refine da.intro (λ n E g=>∃i:Nat,E=[(8,.int .i64 (i:Int)),(7,.int .i64 ((ks.length:Nat):Int)),(0,v),(1,Hp t)]/\n=ks.length-i/\i<=ks.length/\g=H /\ ∀k,k<i->((ks[k]?.getD 0:Int) == line)=B2) ?_ ?_
 .exact ⟨_,_,⟨0,rfl,rfl,xz _,rfl,λ k hk=>by omega⟩,by simp only[aa,bc]⟩
 rintro n E g ⟨i,rfl,rfl,u,rfl,c⟩;rcases xy i ks.length with a|l
 .have j:(i:Int)<((ks.length:Nat):Int):=by omega
  have⟨ix,ld⟩:=Tt h a;have s:aj .i64 ((i:Int)+1)=((i+1:Nat):Int):=by rw[ji (by omega) (by omega)];omega
  simp only[aa,bc,p,j,d,ix,ld];refine C3.q (s_ _ hl) λ r H1⟨hr,m⟩=>?_;rw[hr,m]
  by_cases q:((ks[i]?.getD 0:Nat):Int)=line
  .simp only[aa,bc,q];unfold pV;rw[Oi a (by simp[q]) c]
  .simp only[aa,bc,q,f,s];refine⟨_,_,⟨i+1,rfl,rfl,by omega,λ k hk=>?_⟩,by simp only[aa,bc],by omega⟩
   grind
 .have j:¬(i:Int)<((ks.length:Nat):Int):=by omega
  have e:i=ks.length:=by omega
  simp_all[aa,pV,Nw]
def xkp(ks:List Nat)(rest:List AV){i:Nat}(a:i<ks.length)(y:Nat):(ks.flatMap iq++rest).take i ++ [AV.int .i64 (y:Int)]++(ks.flatMap iq++rest).drop (i+1)=(ks.set i y).flatMap iq++rest:=by
 have hl:=xI ks;rw[yg (by omega),List.drop_append_of_le_length (by omega),<-yf];congr 1;rw[Ph,Ph,List.map_set,List.set_eq_take_append_cons_drop,xg (by rw[xt];exact a)];simp
def mQ.Ax{e:Nat}(h:mQ e H0 H v ks){i:Nat}(d:i<ks.length)(y:Nat):∃H',Op.store 1 [.ptr (aE v) (cM 1 v i),.int .i64 (y:Int)] H=B1 (.undef,H')/\mQ e H0 H' v (ks.set i y)/\Fr (aM v) H H':=by
 rcases h.own with⟨rfl,rfl⟩|⟨b,m,rest,rfl,f,a,j,g⟩
 .grind
 .have st:=Yu g (o:=i) (n:=1) (v:=.int .i64 (y:Int)) rfl (by grind [xI]) rfl;have c:AV.cells (.int .i64 (y:Int))=[.int .i64 (y:Int)]:=rfl;rw[c,xkp ks rest d]at st;have ho:cM 1 (AV.gslice b 0 m 1 0 ks.length) i=i:=by simp[cM]
  rw[ho];refine⟨_,st,⟨.inr ⟨b,m,rest,by rw[zf],f,a,by grind,xc ..⟩,h.fr.set (.inr a) _⟩,(Fr.refl H).set (W:=aM (AV.gslice b 0 m 1 0 ks.length)) (.inl ⟨by simp,rfl⟩) _⟩
theorem SZ:∀n:Nat,fV n [AV.int .i64 0]=(JK n 0).flatMap iq
 |0=>rfl
 |n+1=>by rw[fV,N5,j9,<-SZ n];rfl
theorem mQ.rL{e:Nat}(h:mQ e H0 H v ks){k:Nat}(hk:k<=ks.length):∃v2 H',Op.aD 1 [B1 0,B5,B5] [v,.int .i64 (k:Int)]=B1 v2/\Op.bX [.int .i64 0] [v2] H=B1 (.tuple [],H')/\mQ e H0 H' v (ks.take k++JK (ks.length-k) 0)/\Fr (aM v) H H':=by
 rcases h.own with⟨rfl,rfl⟩|⟨b,m,rest,rfl,u,j,A,w⟩
 .have:k=0:=by simpa using hk
  subst this;have f:bound B5 0 0=B1 0:=rfl;refine⟨.nils,H,by simp only[Op.aD,arg,lC,z4,qr,dQ,f];rfl,rfl,h,Fr.refl _⟩
 .have e1:∀n,I6 n n=true:=λ n=>by simp
  have c:∀d m,bound B5 d m=B1 d:=λ _ _=>rfl;refine⟨.gslice b (0+k) m 1 (cond (I6 k 0) 0 (0*1)) (ks.length-k),?_⟩;have sl:Op.aD 1 [B1 0,B5,B5] [AV.gslice b 0 m 1 0 ks.length,.int .i64 (k:Int)]=B1 (.gslice b (0+k) m 1 (cond (I6 k 0) 0 (0*1)) (ks.length-k)):=by
   simp only[Op.aD,arg,lC,z4,qr,dQ,c,tI (z:=(k:Int)) (k:=k) rfl hk .i64,e1,yr (show ks.length<=m-0 by omega),yr (xz m),jk,xu]
  have hle:(ks.take k).length=k:=by grind
  by_cases t:ks.length-k=0
  .refine ⟨H,sl,?_,?_,Fr.refl _⟩
   .rw [t];rfl
   grind [ze]
  .have p:eR (.gslice b (0+k) m 1 (cond (I6 k 0) 0 (0*1)) (ks.length-k))=B1 (ks.length-k):=rfl;have o:I6 (ks.length-k) 0=false:=by grind [jp]
   have g:PM 0 (ks.length-k)=true:=by grind [PM,yr]
   have a:PM (0+k+0) m=true:=by grind [PM,yr]
   have he:elemAt 1 (.gslice b (0+k) m 1 (cond (I6 k 0) 0 (0*1)) (ks.length-k)) 0=B1 (b,(0+k)*1+0*1):=by
    simp only[elemAt,g,e1,a,jk,xu]
   have q:H.store b ((0+k)*1+0*1) (fV (ks.length-k) [.int .i64 0])=B1 (H.set b (.grown m 1 ((ks.take k++JK (ks.length-k) 0).flatMap iq++rest) e (0,0))):=by
    have ha:aL (fV (ks.length-k) [AV.int .i64 0])=true:=by
     grind [SZ,vc,Ph,aB]
    have s:eC (0,0) ((0+k)*1+0*1) (cW (fV (ks.length-k) [AV.int .i64 0]))=true:=by simp[eC]
    simp only[ar.store,ha,xu,w,s,FA];have i:(fV (ks.length-k) [AV.int .i64 0]).length=ks.length-k:=by grind [SZ,xI]
    have l:(0+k)*1+0*1=k:=by omega
    have x:(ks.flatMap iq++rest).take k=(ks.take k).flatMap iq:=by
     grind [Ph,List.map_take]
    have y:(ks.flatMap iq++rest).drop (k+(ks.length-k))=rest:=by
     grind [xI,List.drop_left]
    rw[l,xg (by grind [xI]),qr,i,x,y,SZ,<-vh]
   refine⟨H.set b (.grown m 1 ((ks.take k++JK (ks.length-k) 0).flatMap iq++rest) e (0,0)),sl,?_,⟨.inr ⟨b,m,rest,?_,u,j,?_,xc ..⟩,h.fr.set (.inr j) _⟩,(Fr.refl H).set (W:=aM (AV.gslice b 0 m 1 0 ks.length)) (.inl ⟨by simp,rfl⟩) _⟩
   .simp_all [Op.bX]
   .rw [xr,hle,jc];congr 1;omega
   .rw [xr,hle,jc];omega
def zU(ks:List Nat)(line:Int):List Nat:=ks.filter λ k=>((k:Nat):Int) != line
def xdw{t:Nat}{line:Int}{e:Nat}(hl:∀{f:ar},Fr (aM v) H f->Op.ae [.ptr t 2] f=B1 (.int .i64 line))(h:mQ e H0 H v ks)(hk:ks.length<=1000000) :
 zb M Y8 [v,Hp t] H λ r H'=>mQ e H0 H' r (zU ks line)/\Fr (aM v) H H' /\ ∀x,aM r x->aM v x:=by
 refine qoe ?_;obtain⟨w0,w4,J,L,u,K,w⟩:=qof M ⟨B5,Y8⟩;simp only[aa,bc,w0];refine C3.q (xea (hl (Fr.refl _)) h.sl hk) λ r H1⟨hr,A⟩=>?_;rw[hr,A];cases Z:dF (λ i=>(ks[i]?.getD 0:Int) == line) ks.length with
 |none =>
  have e1:pV ks line = -1:=by grind [pV]
  have e2:zU ks line=ks:=by
   grind [zU,List.filter_eq_self,Mc,KF]
  rw[e1,e2];have N:=qy (show(-1:Int) = -1 from rfl);simp only[aa,bc,w4];exact⟨h,Fr.refl _,λ x q=>q⟩
 |some a =>
  have⟨a1,y,a3⟩:=Lg Z;have e1:pV ks line=(a:Int):=by grind [pV]
  rw[e1];have N:¬(a:Int) = -1:=by omega
  have z:aj .i64 ((a:Int)+1)=((a+1:Nat):Int):=by grind [ji]
  -- what is kept of the first ones
  have ah:∀j,(ks.take (j+1)).filter (λ k=>((k:Nat):Int) != line)=(ks.take j).filter (λ k=>((k:Nat):Int) != line)++(match ks[j]? with|none=>[]|some k=>if((k:Nat):Int)=line then[]else[k]):=λ j=>by
   grind [kc]
  have W:(ks.take a).filter (λ k=>((k:Nat):Int) != line)=ks.take a:=by
   rw[List.filter_eq_self];intro k B;have⟨i,hi⟩:=Mc B
   grind
  have p:ks[a]? = B1 ks[a]:=by grind
  have X:(ks.take (a+1)).filter (λ k=>((k:Nat):Int) != line)=ks.take a:=by
   rw[ah,W,p];rw[p]at y;have y:((ks[a]:Nat):Int)=line:=by simpa using y
   simp[y]
  simp only[aa,bc,w4,N,J,z];refine da.intro (λ n E f=>∃(i j:Nat)(c:List Nat),E=[(6,.int .i64 (j:Int)),(5,.int .i64 (i:Int)),(0,v),(1,Hp t)]/\n=ks.length-j/\i<j/\j<=ks.length/\c.length=ks.length/\c.take i=(ks.take j).filter (λ k=>((k:Nat):Int) != line)/\c.drop j=ks.drop j/\mQ e H0 f v c/\Fr (aM v) H f) ?_ ?_
  .exact ⟨_,_,⟨a,a+1,ks,rfl,rfl,by omega,by omega,rfl,X.symm,rfl,h,Fr.refl _⟩,by simp only[aa,bc]⟩
  rintro n E f ⟨i,j,c,rfl,rfl,hij,hj,s,m,D,hs,d⟩;have g:=hs.sl.len;rw[s]at g;rcases xy j ks.length with hlt|hge
  .have I:(j:Int)<((ks.length:Nat):Int):=by omega
   have⟨ix,ld⟩:=Tt hs.sl (i:=j) (by omega);obtain⟨G,-⟩:=Tt hs.sl (i:=i) (by omega);have F:c[j]? = ks[j]?:=by
    have:=congrArg (λ l=>l[0]?) D
    simpa[we]using this
   obtain⟨k,o⟩:∃k,ks[j]? = B1 k:=(by grind)
   rw[F,o]at ld;have ld:Op.ae [.ptr (aE v) (cM 1 v j)] f=B1 (.int .i64 (k:Int)):=ld;have z:aj .i64 ((j:Int)+1)=((j+1:Nat):Int):=by grind [ji]
   have wi:aj .i64 ((i:Int)+1)=((i+1:Nat):Int):=by grind [ji]
   have Y:∀l:List Nat,l.drop (j+1)=(l.drop j).drop 1:=λ l=>by rw[Fv]
   simp only[aa,bc,u,g,I,K,ix,ld];refine C3.q (s_ _ (hl d)) λ r H2⟨hr,A⟩=>?_;rw[hr,A]
   by_cases q:(k:Int)=line
   .simp only[aa,bc,qy q,w,z];exact⟨_,_,⟨i,j+1,c,rfl,rfl,by omega,by omega,s,by grind,by grind,hs,d⟩,by simp only[aa,bc],by omega⟩
   .have ⟨O,s3,C,V⟩:=hs.Ax (i:=i) (by omega) k;simp only[aa,bc,q,G,s3,wi,w,z];refine⟨_,_,⟨i+1,j+1,c.set i k,rfl,rfl,by omega,by omega,by grind,?_,?_,C,d.trans V λ _ q=>.inl q⟩,by simp only[aa,bc],by omega⟩
    .rw [ah,o,<-m,kc,zj (by omega),List.take_set_of_le (qm i)];simp[q]
    grind [List.drop_set_of_lt]
  .have I:¬(j:Int)<((ks.length:Nat):Int):=by omega
   have U:j=ks.length:=by omega
   subst U;rw[ze (qm _)]at m;have⟨v2,O,P,Q,R,S⟩:=hs.rL (k:=i) (by omega);have⟨v3,d1,d2,d3⟩:=R.cut (k:=i) (by grind) rfl .i64;have T:(c.take i++JK (c.length-i) 0).take i=zU ks line:=by
    rw[yg (by rw[ya];omega),List.take_take,Nat.min_self,m];rfl
   rw[T]at d2;simp only[aa,bc,u,g,I,L,P,Q,d1];exact⟨d2,d.trans S λ _ q=>.inl q,d3⟩
end
end Go.Am
namespace Go.Am
open Go.Proofs Ca
open Lang (ints)
variable{M:ak}[MK M]
def ao(m:Mg):List AV:=.int .i64 m.k::.int .i64 m.core::.int .i64 m.line::cu m.d
theorem zg(m:Mg):(ao m).length=11:=by simp[ao,cu,m.d.h]
theorem qT(m:Mg):aL (ao m)=true:=by simp_all[vc,ao,aB]
def rQ(n:No)(b:Nat)(bv:AV):List AV:=.int .i64 n.core::.int .i64 n.lines::.ptr b 0::(ao n.out ++ [bv,.bool n.live,.int .i64 n.code])
structure dc(H0 H:ar)(r b:Nat)(sv bv:AV)(n:No)(ks:List Nat):Prop where
 row:H.get r=B1 (OR (rQ n b bv) Qa)
 lt:r<H.au
 ca:d8 H b sv n.c
 bk:mQ cz H0 H bv ks
 eq:n.aQ=ints ks
 lr:H0.au<=r
 lb:H0.au<=b
 ls:H0.au<=aE sv
 n1:r≠b
 n2:r≠aE sv
 o1:¬aM bv r
 o2:¬aM bv b
 o3:¬aM bv (aE sv)
 li:2<=n.lines/\n.lines<=64
 len:n.c.sl.length<=40
def iE(r b:Nat)(sv bv:AV):Nat->Prop:=λ x=>x=r\/nD b sv x\/aM bv x
def si(H0 H:ar)(r b:Nat)(sv bv:AV)(n':No)(H':ar):Prop:=∃bv' ks',dc H0 H' r b sv bv' n' ks'/\Fr (iE r b sv bv) H H' /\ ∀x,aM bv' x->aM bv x\/H.au<=x
section
variable{H0 H:ar}{r b:Nat}{sv bv:AV}{n:No}{ks:List Nat}
def dc.em{H':ar}(h:dc H0 H r b sv bv n ks)(f:Fr Em H H'):dc H0 H' r b sv bv n ks :=
 ⟨by rw[f.ah _ h.lt id];exact h.row,qn h.lt f.au,h.ca.em f,h.bk.em f,h.eq,h.lr,h.lb,h.ls,h.n1,h.n2,h.o1,h.o2,h.o3,h.li,h.len⟩
def dc.same(h:dc H0 H r b sv bv n ks){H':ar}(f:Fr Em H H'):si H0 H r b sv bv n H':=⟨bv,ks,h.em f,f.mono λ _ _ q=>q.elim,λ x q=>.inl q⟩
theorem FF(n:No)(b:Nat)(bv:AV):(rQ n b bv)[0]? = B1 (.int .i64 n.core)/\(rQ n b bv)[1]? = B1 (.int .i64 n.lines)/\(rQ n b bv)[2]? = B1 (.ptr b 0)/\(rQ n b bv)[3]? = B1 (.int .i64 n.out.k)/\(rQ n b bv)[14]? = B1 bv/\(rQ n b bv)[15]? = B1 (.bool n.live)/\(rQ n b bv)[16]? = B1 (.int .i64 n.code)/\((rQ n b bv).drop 3).take 11=ao n.out/\(rQ n b bv).length=17:=by
 have⟨core,lines,c,⟨k,co,l,⟨d,a⟩⟩,aQ,live,code⟩:=n
 match d,a with
 |[d0,d1,d2,d3,d4,d5,d6,d7],_=>exact⟨rfl,rfl,rfl,rfl,rfl,rfl,rfl,rfl,rfl⟩
def dc.ld(h:dc H0 H r b sv bv n ks)(k:Nat):Op.ae [.ptr r k] H=(rQ n b bv)[k]?:=x9 (xb h.row) k
def dc.l0(h:dc H0 H r b sv bv n ks):Op.ae [.ptr r 0] H=B1 (.int .i64 n.core):=(h.ld 0).trans (FF n b bv).1
def dc.l1(h:dc H0 H r b sv bv n ks):Op.ae [.ptr r 1] H=B1 (.int .i64 n.lines):=(h.ld 1).trans (FF n b bv).2.1
def dc.l2(h:dc H0 H r b sv bv n ks):Op.ae [.ptr r 2] H=B1 (.ptr b 0):=(h.ld 2).trans (FF n b bv).2.2.1
def dc.l3(h:dc H0 H r b sv bv n ks):Op.ae [.ptr r 3] H=B1 (.int .i64 n.out.k):=(h.ld 3).trans (by grind [FF])
def dc.vS(h:dc H0 H r b sv bv n ks):Op.ae [.ptr r 14] H=B1 bv:=(h.ld 14).trans (by grind [FF])
def dc.jA(h:dc H0 H r b sv bv n ks):Op.ae [.ptr r 15] H=B1 (.bool n.live):=(h.ld 15).trans (by grind [FF])
def dc.lo(h:dc H0 H r b sv bv n ks):Op.aq 11 [.ptr r 3] H=B1 (.agg (ao n.out)):=by
 obtain⟨-,-,-,-,-,-,-,e,l⟩:=FF n b bv;rw[rR (xb h.row) (by omega),e]
theorem dc.put(h:dc H0 H r b sv bv n ks){n':No}{o m:Nat}{u:AV}(hu:u.cells.length=m)(ho:aL u.cells=B4)(hm:o+m<=17)(e:(rQ n b bv).take o++u.cells++(rQ n b bv).drop (o+m)=rQ n' b bv)(a:n'.c=n.c)(hb:n'.aQ=n.aQ)(hl:n'.lines=n.lines) :
 ∃H',Op.store m [.ptr r o,u] H=B1 (.undef,H')/\dc H0 H' r b sv bv n' ks/\Fr (On r) H H':=by
 have st:=wY h.row (o:=o) (n:=m) (v:=u) hu (by grind [FF]) ho;rw[e]at st;have f:Fr (On r) H (H.set r (OR (rQ n' b bv) Qa)):=(Fr.refl H).set (W:=On r) (.inl rfl) _;refine⟨_,st,⟨xc ..,h.lt,by rw[a];exact h.ca.fr f (λ(q:b=r)=>h.n1 q.symm) (λ(q:aE sv=r)=>h.n2 q.symm),h.bk.vD f (h.bk.fr.set (.inr h.lr) _) (λ x hx(q:x=r)=>h.o1 (q▸hx)),by rw[hb];exact h.eq,h.lr,h.lb,h.ls,h.n1,h.n2,h.o1,h.o2,h.o3,by rw[hl];exact h.li,by rw[a];exact h.len⟩,f⟩
def dc.tE(h:dc H0 H r b sv bv n ks)(q:Bool):∃H',Op.store 1 [.ptr r 15,.bool q] H=B1 (.undef,H')/\dc H0 H' r b sv bv {n with live:=q} ks/\Fr (On r) H H' :=
 h.put (n':={n with live:=q}) (o:=15) (m:=1) (u:=.bool q) rfl rfl (by decide) (by
  have⟨core,lines,c,⟨k,co,l,⟨d,a⟩⟩,aQ,live,code⟩:=n
  match d,a with
  |[d0,d1,d2,d3,d4,d5,d6,d7],_=>rfl) rfl rfl rfl
def dc.xV(h:dc H0 H r b sv bv n ks)(k:Int):∃H',Op.store 1 [.ptr r 16,.int .i64 k] H=B1 (.undef,H')/\dc H0 H' r b sv bv {n with code:=k} ks/\Fr (On r) H H' :=
 h.put (n':={n with code:=k}) (o:=16) (m:=1) (u:=.int .i64 k) rfl rfl (by decide) (by
  have⟨core,lines,c,⟨k,co,l,⟨d,a⟩⟩,aQ,live,code⟩:=n
  match d,a with
  |[d0,d1,d2,d3,d4,d5,d6,d7],_=>rfl) rfl rfl rfl
def dc.DW(h:dc H0 H r b sv bv n ks)(m:Mg):∃H',Op.store 11 [.ptr r 3,.agg (ao m)] H=B1 (.undef,H')/\dc H0 H' r b sv bv {n with out:=m} ks/\Fr (On r) H H' :=
 h.put (n':={n with out:=m}) (o:=3) (m:=11) (u:=.agg (ao m)) (by grind [zk,zg]) (by grind [zk,qT]) (by decide) (by
  have⟨core,lines,c,⟨k,co,l,⟨d,f⟩⟩,aQ,live,code⟩:=n;have⟨k',co',g,⟨e,a⟩⟩:=m
  match d,f,e,a with
  |[d0,d1,d2,d3,d4,d5,d6,d7],_,[e0,e1,e2,e3,e4,e5,e6,e7],_=>rfl) rfl rfl rfl
def dc.iy(h:dc H0 H r b sv bv n ks){c:Ca}{H':ar}(d:d8 H' b sv c)(f:Fr (nD b sv) H H')(hl:c.sl.length<=40):dc H0 H' r b sv bv {n with c:=c} ks :=
 ⟨by rw[f.ah _ h.lt (λ q=>q.elim h.n1 h.n2)];exact h.row,qn h.lt f.au,d,h.bk.vD f (h.bk.fr.trans f λ x q=>q.elim (λ q=>.inr (by rw[q];exact h.lb)) λ q=>.inr (by rw[q];exact h.ls)) (λ x a q=>q.elim (λ q=>h.o2 (q▸a)) λ q=>h.o3 (q▸a)),h.eq,h.lr,h.lb,h.ls,h.n1,h.n2,h.o1,h.o2,h.o3,h.li,hl⟩
def si.of{n':No}{H':ar}{a:List Nat}(h:dc H0 H' r b sv bv n' a)(f:Fr (iE r b sv bv) H H'):si H0 H r b sv bv n' H':=⟨bv,a,h,f,λ x q=>.inl q⟩
def Mx{H1 a:ar}(f:Fr (On r) H1 a):Fr (iE r b sv bv) H1 a:=f.mono λ _ _ q=>.inl q
theorem vV{H1 a:ar}(f:Fr (nD b sv) H1 a):Fr (iE r b sv bv) H1 a:=f.mono λ _ _ q=>.inr (.inl q)
theorem nC{H1 a:ar}(f:Fr Em H1 a):Fr (iE r b sv bv) H1 a:=f.mono λ _ _ q=>q.elim
theorem jL{H1 a c:ar}(f:Fr (iE r b sv bv) H1 a)(g:Fr (iE r b sv bv) a c):Fr (iE r b sv bv) H1 c:=f.trans g λ _ q=>.inl q
def Wu(h:dc H0 H r b sv bv n ks)(a:Int):zb M XH [.ptr r 0,.int .i64 a] H λ v H'=>v=.int .i64 (if n.may a then 0 else 2)/\H'=H:=by
 refine q44 ?_;obtain⟨w0,w2,d⟩:=q45 M ⟨B5,XH⟩;have hl:=h.li;have f:aj .i64 (n.lines*8)=n.lines*8:=(by grind [ji])
 by_cases c:a<0
 .have hm:¬n.may a:=λ q=>by have:=q.1;omega
  simp only[aa,bc,w0,w2,ye,c]
  grind
 by_cases e:n.lines*8<=a
 .have hm:¬n.may a:=λ q=>by have:=q.2;omega
  simp only[aa,bc,w0,w2,ye,c,qo,h.l1,f,e]
  grind
 .have hm:n.may a:=⟨by omega,by omega⟩
  simp only[aa,bc,w0,w2,ye,c,qo,h.l1,f,e,d];rw[xg hm]
def mZ:[AV.int .i64 0,.int .i64 0,.int .i64 0,.int .u64 0,.int .u64 0,.int .u64 0,.int .u64 0,.int .u64 0,.int .u64 0,.int .u64 0,.int .u64 0]=ao ⟨0,0,0,.zero⟩:=rfl
def SG(k co l:Int):Op.build (ao ⟨0,0,0,.zero⟩) [(0,1),(1,1),(2,1)] [.int .i64 k,.int .i64 co,.int .i64 l]=B1 (.agg (ao ⟨k,co,l,.zero⟩)):=rfl
def FI(h:dc H0 H r b sv bv n ks)(k line:Int):zb M qp3 [.ptr r 0,.int .i64 k,.int .i64 line] H λ v H'=>v=.agg (ao (n.msg k line))/\Fr Em H H':=by
 refine q46 ?_;obtain⟨H1,e1,a,-,d⟩:=cD H (OR (ao ⟨0,0,0,.zero⟩) xk);have s1:=fE d (zg _) (zg (n.msg k line)) (qT _);have ld:=eI (xc H1 H.au (OR (ao (n.msg k line)) xk)) (zg _);have c:Op.build (ao ⟨0,0,0,.zero⟩) [(0,1),(1,1),(2,1)] [.int .i64 k,.int .i64 n.core,.int .i64 line]=B1 (.agg (ao (n.msg k line))):=SG ..;simp only[aa,bc,q47,mZ,<-e1,qo,(h.em a).l0,c,s1,ld];exact a.set (by omega) _
def xk9(h:dc H0 H r b sv bv n ks):zb M sq [.ptr r 0] H λ v H'=>v=.bool n.live/\H'=H:=by
 refine qz7 ?_;simp only[aa,bc,qz8,lS,qo,h.jA]
def I1(h:dc H0 H r b sv bv n ks)(k:Int):zb M m_ [.ptr r 0,.int .i64 k] H λ _ H'=>dc H0 H' r b sv bv (n.iJ k) ks/\Fr (iE r b sv bv) H H':=by
 refine qxn ?_;simp only[aa,bc,qxo,qo,h.l2];refine C3.q (xbb h.ca h.len) λ _ H1⟨g,d⟩=>?_;have a:=h.iy g d (by show(n.c.sl.map back).length<=40;rw[xt];exact h.len);have⟨m,s2,i,e⟩:=a.tE B2;have⟨o,l,j,f⟩:=i.xV k;simp only[aa,bc,qo,s2,l];exact⟨j,jL (jL (vV d) (Mx e)) (Mx f)⟩
def xgx(h:dc H0 H r b sv bv n ks)(k:Int):zb M Yl [.ptr r 0,.int .i64 k] H λ v H'=>v=.int .i64 (n.abort k).2/\dc H0 H' r b sv bv (n.abort k).1 ks/\Fr (iE r b sv bv) H H':=by
 refine qxg ?_;obtain⟨w0,w2,e,a⟩:=qxh M ⟨B5,Yl⟩;have jA:=h.jA;cases hl:n.live with
 |false =>
  simp_all[No.abort,aa,ye,qo,Fr.refl]
 |true =>
  rw[hl]at jA
  by_cases f:k<1
  .simp_all [No.abort,aa,ye,qo,Fr.refl]
  by_cases g:7<k
  .have c:n.abort k=(n,2):=by simp_all[No.abort]
   rw[c];simp only[aa,bc,w0,w2,ye,qo,jA,a,f,g]
   grind [Fr.refl]
  have c:n.abort k=(n.iJ k,0):=by simp_all[No.abort]
  rw[c];simp only[aa,bc,w0,w2,ye,qo,jA,a,f,g,e];refine C3.q (I1 h k) λ _ H1⟨d,i⟩=>?_;simp only[aa,bc];exact⟨d,i⟩
end
end Go.Am
namespace Go.Am
open Go.Proofs Ca
open Lang (ints)
variable{M:ak}[MK M]
def mG(H H':ar)(v:AV)(ms:List Mg):Prop:=bV ao 11 H' v ms/\(ms≠[]->H.au<=aE v)
theorem mG.nil(H H':ar):mG H H' .nils []:=⟨⟨rfl,rfl⟩,λ q=>absurd rfl q⟩
def AL(m:Mg):Op.buildSlice xk 1 (ao ⟨0,0,0,.zero⟩) [(0,11)] [.agg (ao m)]=B1 (OR (ao m) xk,Op.sliceTo 1 1):=UK xk 11 (ao ⟨0,0,0,.zero⟩) (.agg (ao m)) (zg _) (by grind [zk,zg])
def Lr{H:ar}(m:Mg):gN ao xk 11 (H.alloc (OR (ao m) xk)) (Op.sliceTo 1 1 H.au) [m]:=⟨H.au,rfl,by grind [xx],by rw[xm];simp⟩
def KA{H H0:ar}(m:Mg)(h:H0.au<=H.au):mG H0 (H.alloc (OR (ao m) xk)) (Op.sliceTo 1 1 H.au) [m]:=⟨(Lr m).sl zg,λ _=>h⟩
section
variable{H0 H:ar}{r b:Nat}{sv bv:AV}{n:No}{ks:List Nat}
def dc.kl(h:dc H0 H r b sv bv n ks):n.aQ.length=ks.length:=by rw[h.eq];unfold ints;grind
def VW(h:dc H0 H r b sv bv n ks)(hk:n.aQ.length<=900000)(k line:Int):zb M Ze [.ptr r 0,.int .i64 k,.int .i64 line] H λ v H'=>mG H H' v (n.ask k line).2/\dc H0 H' r b sv bv (n.ask k line).1 ks/\Fr (iE r b sv bv) H H':=by
 refine q42 ?_;obtain⟨w0,w2,f⟩:=q43 M ⟨B5,Ze⟩;have p:=h.kl
 by_cases i:n.out.k=0
 .simp only[aa,bc,w0,w2,qo,h.l3,qy i,h.vS];refine C3.q (Z8 h.bk.sl (by omega) line) λ v H1⟨e,o⟩=>?_;rw[e,o,<-h.eq]
  by_cases j:line∈n.aQ
  .have a:n.ask k line=(n,[]):=by simp_all[No.ask]
   rw[a];simp only[aa,bc,qy j]
   grind [mG.nil,Fr.refl]
  .have a:n.ask k line=({n with out:=n.msg k line},[n.msg k line]):=by simp_all[No.ask]
   rw[a];simp only[aa,bc,j,f];refine C3.q (FI h k line) λ v t⟨e,g⟩=>?_;rw[e];have⟨d,s,l,m⟩:=(h.em g).DW (n.msg k line);have lo:=l.lo;have c:Fr (iE r b sv bv) H d:=jL (nC g) (Mx m);simp only[aa,bc,qo,s,lo,mZ,AL];exact⟨KA _ c.au,l.em ((Fr.refl d).alloc _),jL c (nC ((Fr.refl d).alloc _))⟩
 .have a:n.ask k line=(n,[]):=by simp_all[No.ask]
  rw[a];simp only[aa,bc,w0,w2,qo,h.l3,i]
  grind [mG.nil,Fr.refl]
def jS{H1:ar}(e:En):Op.store 21 [.ptr H1.au 0,.agg (av e)] (H1.alloc (OR (av .zero) xj))=B1 (.undef,(H1.alloc (OR (av .zero) xj)).set H1.au (OR (av e) xj)):=fE (xm ..) (zt _) (zt e) (tH e)
theorem yT{H1:ar}(o o':bD):Fr Em H1 ((H1.alloc o).set H1.au o'):=((Fr.refl H1).alloc _).set (by omega) _
def π{line:Int}(h:dc H0 H r b sv bv n ks)(a:CI n.lines n.c):zb M u4 [.ptr r 0,.int .i64 line] H λ v H'=>v=.bool (n.owned line)/\Fr Em H H':=by
 refine qxp ?_;simp only[aa,bc,qxq,qo,h.l2];refine C3.q (O5 h.ca a line) λ v H1⟨f,d⟩=>?_;rw[f];unfold nQ No.owned;cases i:n.c.find line with
 |none =>
  simp only[aa,bc,xf,eZ,jS];exact d.trans (yT _ _) λ _ q=>q.elim
 |some e =>
  have l1:Op.ae [.ptr H1.au 1] ((H1.alloc (OR (av .zero) xj)).set H1.au (OR (av e) xj))=B1 (.int .i64 e.st):=x9 (xb (xc ..)) 1;have g:Fr Em H ((H1.alloc (OR (av .zero) xj)).set H1.au (OR (av e) xj)):=d.trans (yT _ _) λ _ q=>q.elim
  by_cases q:e.st=2
  .simp only[aa,bc,xf,eZ,jS,l1,qy q]
   grind
  simp_all[aa,xf,eZ,jS]
def u7(H0 H:ar)(r b:Nat)(sv bv:AV)(n:No)(ks:List Nat)(a:Int)(v:AV)(H':ar):Prop:=(∃ov,v=.tuple [.int .u64 (n.load a).2.1,.bool (n.load a).2.2.1,ov,.int .i64 (n.load a).2.2.2.2]/\mG H H' ov (n.load a).2.2.2.1)/\dc H0 H' r b sv bv (n.load a).1 ks/\Fr (iE r b sv bv) H H'
def xlb(h:dc H0 H r b sv bv n ks)(j:CI n.lines n.c)(hk:n.aQ.length<=900000)(hu:n.c.us+1<=1000000)(a:Int):zb M PZ [.ptr r 0,.int .i64 a] H (u7 H0 H r b sv bv n ks a):=by
 refine q0a ?_;obtain⟨w0,w2,F,G,y,I⟩:=q0b M ⟨B5,PZ⟩;simp only[aa,bc,w0,w2];refine C3.q (Wu h a) λ v H1⟨x,S⟩=>?_;rw[x,S]
 by_cases hm:n.may a
 case neg =>
  have o:n.load a=(n,0,B2,[],2):=by simp_all[No.load]
  have U:¬(2:Int)=0:=by decide
  rw[qv hm];unfold u7;rw[o];simp only[aa,bc,U]
  grind [mG.nil,Fr.refl]
 rw[xg hm];have hl:=h.li;have⟨L,T⟩:=hm;obtain⟨f,rfl⟩:=jm L;have s:f<1000000:=by omega
 have P:No.ln (Int.ofNat f)=((f / 8:Nat):Int):=rfl;have Y:=qy (show(0:Int)=0 from rfl);simp only[aa,bc,F,Ao s,G,qo,h.l2];refine C3.q (O5 h.ca j ((f / 8:Nat):Int)) λ v H1⟨x,J⟩=>?_;rw[x];have C:n.may (f:Int):=⟨L,T⟩
 unfold nQ;cases K:n.c.find ((f / 8:Nat):Int)with
 |none =>
  have o:n.load (f:Int)=((n.ask 1 ((f / 8:Nat):Int)).1,0,B2,(n.ask 1 ((f / 8:Nat):Int)).2,0):=by
   simp_all[No.load]
  have k:Fr Em H ((H1.alloc (OR (av .zero) xj)).set H1.au (OR (av .zero) xj)):=J.trans (yT _ _) λ _ q=>q.elim;simp only[aa,bc,xf,eZ,jS];refine C3.q (VW (h.em k) hk 1 ((f / 8:Nat):Int)) λ v V⟨w,hn,m⟩=>?_;unfold u7;rw[o];simp only[aa,bc];refine⟨⟨v,rfl,w.1,λ q=>xw k.au (w.2 q)⟩,hn,jL (nC k) m⟩
 |some e =>
  obtain⟨i,hp,rfl⟩:=TI K;have k:Fr Em H ((H1.alloc (OR (av .zero) xj)).set H1.au (OR (av (n.c.en i)) xj)):=J.trans (yT _ _) λ _ q=>q.elim;obtain⟨Hb,l⟩:∃X,X=(H1.alloc (OR (av .zero) xj)).set H1.au (OR (av (n.c.en i)) xj):=⟨_,rfl⟩
  rw[<-l]at k;have hb:=h.em k;have jA:=hb.jA
  -- behind the mark
  have fin:∀{z:ar}{c:Ca},dc H0 z r b sv bv {n with c:=c} ks->CI n.lines c->c.us+1<=1000000->Fr (iE r b sv bv) H z->c=(if n.live then n.c.mark ((f / 8:Nat):Int) B2 else n.c)->c.pos ((f / 8:Nat):Int)=B1 i -> ∀{E:Env},lk E 0=B1 (.ptr r 0)->lk E 1=B1 (.int .i64 (f:Int)) ->
   W M ⟨B5,PZ⟩ (qz9 30) B4 (fh M [.tmp 4,.tmp 5,.tmp 6,.tmp 7] (uI (u7 H0 H r b sv bv n ks (f:Int)))) E [] z:=by
   intro z c A t D m O g E Q R;have o:n.load (f:Int)=({n with c:=(c.word f).1},(c.word f).2.getD 0,B4,[],0):=by
    unfold No.load;rw[xg C];show(match n.c.find ((f / 8:Nat):Int)with|none=>_|some _=>_)=_;rw[K,O];rfl
   simp only[aa,bc,I,Q,qo,A.l2,R];refine C3.q (σ A.ca t D s) λ v N⟨x,B,p⟩=>?_;rw[x];have hw:(c.word f).2=B1 ((c.en i).d.get (f % 8)):=by grind [Ca.word]
   unfold yI;rw[g];have hlen:(c.word f).1.sl.length<=40:=by
    have:=A.len;unfold Ca.word;rw[g];show(c.sl.set i _).length<=40;grind
   have hn:=A.iy B p hlen;unfold u7;rw[o,hw];simp only[aa,bc,xf];exact⟨⟨.nils,rfl,mG.nil ..⟩,hn,jL m (vV p)⟩
  cases u:n.live with
  |false =>
   rw[u]at jA;simp only[aa,bc,xf,eZ,jS,<-l,y,qo,jA];exact fin (c:=n.c) (by omega) j hu (nC k) (by grind) hp rfl rfl
  |true =>
   rw[u]at jA;simp only[aa,bc,xf,eZ,jS,<-l,y,qo,jA,hb.l2];refine C3.q (xb5 hb.ca j ((f / 8:Nat):Int) B2) λ _ N⟨B,p⟩=>?_;have em:n.c.mark ((f / 8:Nat):Int) B2=n.c.set i {n.c.en i with r:=B4}:=by simp_all[Ca.mark,sJ]
   have hlen:(n.c.mark ((f / 8:Nat):Int) B2).sl.length<=40:=by rw[em];show(n.c.sl.set i _).length<=40;rw[zf];exact h.len
   have g:(n.c.mark ((f / 8:Nat):Int) B2).pos ((f / 8:Nat):Int)=B1 i:=by
    rw[em];have sh:AE n.c {n.c.set i {n.c.en i with r:=B4}with us:=n.c.us}:=AE.set n.c.us rfl rfl;exact(sh.pos _).trans hp
   simp only[aa,bc];exact fin (c:=n.c.mark ((f / 8:Nat):Int) B2) (hb.iy B p hlen) (j.mark _ _) (by rw[em];exact hu) (jL (nC k) (vV p)) (by grind) g rfl rfl
end
end Go.Am
namespace Go.Am
open Go.Proofs Ca
open Lang (ints)
variable{M:ak}[MK M]
section
variable{H0 H:ar}{r b:Nat}{sv bv:AV}{n:No}{ks:List Nat}
def xls{line:Int}(h:n.owned line=B4):∃i,n.c.pos line=B1 i/\(n.c.en i).st=2:=by
 grind [No.owned,TI]
theorem SL(c:Ca)(line:Int)(wr:Bool):(c.mark line wr).us=c.us/\(c.mark line wr).sl.length=c.sl.length:=by
 unfold Ca.mark;cases wr with
 |true =>
  rw[xg rfl];cases c.lM line 2 with
  |none=>grind
  |some i =>
   show(if(c.en i).w then c else c.set i _).us=_/\(if(c.en i).w then c else c.set i _).sl.length=_;split
   .omega
   .exact ⟨rfl,zf⟩
 |false =>
  rw[qv (by decide)];cases c.lM line 0 with
  |none=>grind
  |some i=>exact⟨rfl,zf⟩
theorem TF(c:Ca)(a:Nat)(y:Int):(c.put a y).sl.length=c.sl.length/\((c.put a y).us=c.us\/(c.put a y).us=c.us+1):=by
 grind [Ca.put]
def Q0(c:Ca)(a:Nat):(c.word a).1.sl.length=c.sl.length/\((c.word a).1.us=c.us\/(c.word a).1.us=c.us+1):=by
 unfold Ca.word;cases c.pos ((a / 8:Nat):Int)with
 |none=>grind
 |some i=>exact⟨zf,.inr rfl⟩
def rH(H0 H:ar)(r b:Nat)(sv bv:AV)(n:No)(ks:List Nat)(a y:Int)(v:AV)(H':ar):Prop:=(∃ov,v=.tuple [.bool (n.store a y).2.1,ov,.int .i64 (n.store a y).2.2.2]/\mG H H' ov (n.store a y).2.2.1)/\dc H0 H' r b sv bv (n.store a y).1 ks/\Fr (iE r b sv bv) H H'
def xi4(h:dc H0 H r b sv bv n ks)(e:CI n.lines n.c)(hk:n.aQ.length<=900000)(hu:n.c.us+1<=1000000)(a y:Int):zb M OI [.ptr r 0,.int .i64 a,.int .u64 y] H (rH H0 H r b sv bv n ks a y):=by
 refine qxl ?_;obtain⟨w0,w2,B,C,p,D⟩:=qxm M ⟨B5,OI⟩;simp only[aa,bc,w0,w2];refine C3.q (Wu h a) λ v H1⟨w,N⟩=>?_;rw[w,N]
 by_cases hm:n.may a
 case neg =>
  simp_all[No.store,rH,aa,mG.nil,Fr.refl]
 rw[xg hm];have hl:=h.li;have⟨F,O⟩:=hm;obtain⟨d,rfl⟩:=jm F;have i:d<1000000:=by omega
 have m:n.may (d:Int):=⟨F,O⟩
 have f:No.ln (d:Int)=((d / 8:Nat):Int):=rfl;have Q:=qy (show(0:Int)=0 from rfl);simp only[aa,bc,B,Ao i,C];refine C3.q (π (line:=((d / 8:Nat):Int)) h e) λ v H1⟨w,g⟩=>?_;rw[w];have hb:=h.em g;cases ho:n.owned ((d / 8:Nat):Int)with
 |false =>
  have x:n.store (d:Int) y=((n.ask 2 ((d / 8:Nat):Int)).1,B2,(n.ask 2 ((d / 8:Nat):Int)).2,0):=by
   unfold No.store;rw[xg m,f,ho];rfl
  simp only[aa,bc];refine C3.q (VW hb hk 2 ((d / 8:Nat):Int)) λ v P⟨o,hn,k⟩=>?_;unfold rH;rw[x];simp only[aa,bc];exact⟨⟨v,rfl,o.1,λ q=>xw g.au (o.2 q)⟩,hn,jL (nC g) k⟩
 |true =>
  have jA:=hb.jA;have fin:∀{s:ar}{c:Ca},dc H0 s r b sv bv {n with c:=c} ks->CI n.lines c->c.us+1<=1000000->Fr (iE r b sv bv) H s->c=(if n.live then n.c.mark ((d / 8:Nat):Int) B4 else n.c) -> ∀{E:Env},lk E 0=B1 (.ptr r 0)->lk E 1=B1 (.int .i64 (d:Int))->lk E 2=B1 (.int .u64 y) ->
   W M ⟨B5,OI⟩ (qxk 28) B4 (fh M [.tmp 6,.tmp 7,.tmp 8] (uI (rH H0 H r b sv bv n ks (d:Int) y))) E [] s:=by
   intro s c u j A k I E J K L;have x:n.store (d:Int) y=({n with c:=c.put d y},B4,[],0):=by
    unfold No.store;rw[xg m,f,ho,xg rfl,I];rfl
   simp only[aa,bc,D,J,qo,u.l2,K,L];refine C3.q (xgm u.ca j A i y) λ v G⟨w,z,t⟩=>?_;have hn:=u.iy z t (by rw[(TF c d y).1];exact u.len);unfold rH;rw[x];simp only[aa,bc]
   grind [mG.nil,jL,vV]
  cases l:n.live with
  |false =>
   rw[l]at jA;simp only[aa,bc,p,qo,jA];exact fin (c:=n.c) (by omega) e hu (nC g) (by grind) rfl rfl rfl
  |true =>
   rw[l]at jA;simp only[aa,bc,p,qo,jA,hb.l2];refine C3.q (xb5 hb.ca e ((d / 8:Nat):Int) B4) λ _ G⟨z,t⟩=>?_;simp only[aa,bc];exact fin (c:=n.c.mark ((d / 8:Nat):Int) B4) (hb.iy z t (by rw[(SL ..).2];exact h.len)) (e.mark _ _) (by grind [SL]) (jL (nC g) (vV t)) (by grind) rfl rfl rfl
def YO(h:dc H0 H r b sv bv n ks)(x:En)(too:Bool):zb M kn [.ptr r 0,.agg (av x),.bool too] H λ _ H'=>dc H0 H' r b sv bv (n.lost x too) ks/\Fr (iE r b sv bv) H H':=by
 refine q0g ?_;obtain⟨H1,e1,d,-,i⟩:=cD H (OR (av x) xj);have l0:Op.ae [.ptr H.au 0] H1=B1 (.int .i64 x.line):=x9 (xb i) 0;have l2:Op.ae [.ptr H.au 2] H1=B1 (.bool x.r):=x9 (xb i) 2;have l3:Op.ae [.ptr H.au 3] H1=B1 (.bool x.w):=x9 (xb i) 3;have f:=h.em d;have stay:(x.w ||(x.r && too))=B2->n.lost x too=n:=λ q=>by grind [No.lost]
 have go2:(x.w ||(x.r && too))=B4->x.line=0->n.lost x too=n.iJ 2:=λ q j=>by simp_all[No.lost]
 have e:(x.w ||(x.r && too))=B4 -> ¬x.line=0->n.lost x too=n.iJ 1:=λ q j=>by simp_all[No.lost]
 cases hw:x.w with
 |true =>
  rw[hw]at l3
  by_cases q:x.line=0
  .rw [go2 (by rw[hw];rfl) q];simp only[aa,bc,MU,<-e1,l3,l0,qy q];refine C3.q (I1 f 2) λ _ g⟨c,a⟩=>?_;simp only[aa,bc];exact⟨c,jL (nC d) a⟩
  .rw [e (by rw[hw];rfl) q];simp only[aa,bc,MU,<-e1,l3,l0,q];refine C3.q (I1 f 1) λ _ g⟨c,a⟩=>?_;simp only[aa,bc];exact⟨c,jL (nC d) a⟩
 |false =>
  rw[hw]at l3;cases hr:x.r with
  |false =>
   rw[hr]at l2;rw[stay (by rw[hw,hr];rfl)];simp only[aa,bc,MU,<-e1,l3,l2]
   grind [nC]
  |true =>
   rw[hr]at l2;cases too with
   |false =>
    rw[stay (by rw[hw,hr];rfl)];simp only[aa,bc,MU,<-e1,l3,l2]
    grind [nC]
   |true =>
    by_cases q:x.line=0
    .rw [go2 (by rw[hw,hr];rfl) q];simp only[aa,bc,MU,<-e1,l3,l2,l0,qy q];refine C3.q (I1 f 2) λ _ g⟨c,a⟩=>?_;simp only[aa,bc];exact⟨c,jL (nC d) a⟩
    .rw [e (by rw[hw,hr];rfl) q];simp only[aa,bc,MU,<-e1,l3,l2,l0,q];refine C3.q (I1 f 1) λ _ g⟨c,a⟩=>?_;simp only[aa,bc];exact⟨c,jL (nC d) a⟩
end
end Go.Am
namespace Go.Am
open Go.Proofs Ca
open Lang (ints)
variable{M:ak}[MK M]
def Ad(H H':ar)(v:AV)(ms:List Mg):Prop:=(v=.nils/\ms=[]) \/ ∃m a,v=Op.sliceTo 1 1 a/\ms=[m]/\H.au<=a/\a<H'.au/\H'.get a=B1 (OR (ao m) xk)
def Ad.ms{H H':ar}{v:AV}{ms:List Mg}(h:Ad H H' v ms):mG H H' v ms:=by
 rcases h with⟨rfl,rfl⟩|⟨m,a,rfl,rfl,c,d,f⟩
 .exact mG.nil ..
 .exact ⟨gN.sl (e:=xk) zg ⟨a,rfl,d,by rw[f];simp⟩,λ _=>c⟩
def Ad.one{H H0:ar}(m:Mg)(h:H0.au<=H.au):Ad H0 (H.alloc (OR (ao m) xk)) (Op.sliceTo 1 1 H.au) [m]:=.inr ⟨m,H.au,rfl,rfl,h,by rw[xx];omega,xm ..⟩
section
variable{H0 H:ar}{r b:Nat}{sv bv:AV}{n:No}{ks:List Nat}
def dc.Jf(h:dc H0 H r b sv bv n ks){a:AV}{g:List Nat}{H1:ar}(hs:mQ cz H0 H1 a g)(f:Fr (aM bv) H H1)(A:∀x,aM a x->aM bv x\/H.au<=x) :
 ∃j,Op.store 1 [.ptr r 14,a] H1=B1 (.undef,j)/\dc H0 j r b sv a {n with aQ:=ints g} g/\Fr (iE r b sv bv) H j:=by
 have s:=h.ca.lt;have t:aE sv<H.au:=h.ca.sl.lt;have i:∀x,x<H.au -> ¬aM bv x -> ¬aM a x:=λ x y z q=>(by grind)
 have u:H1.get r=B1 (OR (rQ n b bv) Qa):=by rw[f.ah _ h.lt h.o1];exact h.row
 have o1:aB a=true:=by have:=Sl.one hs.sl;exact this
 have hu:AV.cells a=[a]:=by
  rcases hs.own with⟨rfl,_⟩|⟨b,m,rest,rfl,_⟩<;>rfl
 have st:=wY u (o:=14) (n:=1) (v:=a) (by rw[hu];rfl) (by rw[(FF n b bv).2.2.2.2.2.2.2.2];decide) (by grind [vc]);have e:(rQ n b bv).take 14++AV.cells a++(rQ n b bv).drop (14+1)=rQ n b a:=by
  rw[hu];have⟨core,lines,c,⟨k,co,l,⟨d,w⟩⟩,aQ,live,code⟩:=n
  match d,w with
  |[d0,d1,d2,d3,d4,d5,d6,d7],_=>rfl
 rw[e]at st;have p:Fr (On r) H1 (H1.set r (OR (rQ n b a) Qa)):=(Fr.refl H1).set (W:=On r) (.inl rfl) _;have fn:=f.au;refine⟨_,st,⟨xc ..,qn h.lt fn,(h.ca.fr f h.o2 h.o3).fr p (λ(q:b=r)=>h.n1 q.symm) (λ(q:aE sv=r)=>h.n2 q.symm),hs.vD p (hs.fr.set (.inr h.lr) _) (λ x hx(q:x=r)=>i r h.lt h.o1 (q▸hx)),rfl,h.lr,h.lb,h.ls,h.n1,h.n2,i _ h.lt h.o1,i _ s h.o2,i _ t h.o3,h.li,h.len⟩,?_⟩;exact(f.mono λ _ _ q=>.inr (.inr q)).trans p λ x q=>.inl (.inl q)
def ae4(ks:List Nat)(x:Nat):ints (ks ++ [x])=ints ks ++ [(x:Int)]:=by simp[ints]
def YF(m:Mg)(d:L8):(ao m).take 3++(AV.agg (cu d)).cells++(ao m).drop (3+8)=ao {m with d:=d}:=by
 have⟨k,co,l,⟨e,he⟩⟩:=m;have⟨d,a⟩:=d
 match e,he,d,a with
 |[d0,d1,d2,d3,d4,d5,d6,d7],_,[e0,e1,e2,e3,e4,e5,e6,e7],_=>rfl
theorem BJ(x:En):((av x).drop 4).take 8=cu x.d:=by
 have⟨line,st,r,w,⟨d,a⟩,⟨o,ho⟩,u⟩:=x
 match d,a,o,ho with
 |[d0,d1,d2,d3,d4,d5,d6,d7],_,[e0,e1,e2,e3,e4,e5,e6,e7],_=>rfl
def rE(H0 H:ar)(r b:Nat)(sv bv:AV)(a:No×List Mg)(v:AV)(H':ar):Prop:=Ad H H' v a.2/\si H0 H r b sv bv a.1 H'
def xbo(h:dc H0 H r b sv bv n ks)(hk:n.aQ.length<=900000)(x:En)(O:0<=x.line):zb M WV [.ptr r 0,.agg (av x)] H (rE H0 H r b sv bv (n.gone x)):=by
 refine q0e ?_;obtain⟨w0,w2,B⟩:=q0f M ⟨B5,WV⟩;obtain⟨H1,e1,p,-,t⟩:=cD H (OR (av x) xj);have l0:Op.ae [.ptr H.au 0] H1=B1 (.int .i64 x.line):=x9 (xb t) 0;have l1:Op.ae [.ptr H.au 1] H1=B1 (.int .i64 x.st):=x9 (xb t) 1;have u:=h.em p;have n1:H.au<H1.au:=by grind [xx]
 by_cases q:x.st=2
 case neg =>
  have l:n.gone x=(n,[]):=by simp_all[No.gone]
  rw[l];simp only[aa,bc,w0,<-e1,w2,l1,q];exact⟨.inl ⟨rfl,rfl⟩,h.same p⟩
 have l:n.gone x=({n with aQ:=n.aQ ++ [x.line]},[⟨3,n.core,x.line,x.d⟩]):=by simp_all[No.gone]
 rw[l];have⟨ln,c⟩:=jm O;rw[c]at l0;simp only[aa,bc,w0,<-e1,w2,l1,qy q,B,qo,u.vS,l0];have L:=h.kl;refine u.bk.push (x:=ln) rfl (by omega) (by omega) λ j T hs J w=>?_;have⟨i,S,E,s⟩:=u.Jf hs J w;have F:i.get H.au=B1 (OR (av x) xj):=by
  rw[s.ah _ n1 ?_];exact t;rintro(q|q|q)
  .have:=h.lt;omega
  .have U:=h.ca.lt;have V:aE sv<H.au:=h.ca.sl.lt;exact q.elim (by omega) λ q=>by omega
  .have:=h.bk.fresh _ q;omega
 have Q:H.au<i.au:=by have:=s.au;omega
 have l0:Op.ae [.ptr H.au 0] i=B1 (.int .i64 (ln:Int)):=by rw[<-c];exact x9 (xb F) 0
 simp only[aa,bc,S,l0];refine C3.q (FI E 3 (ln:Int)) λ v a⟨N,g⟩=>?_;rw[N];have P:a.get H.au=B1 (OR (av x) xj):=by rw[g.ah _ Q id];exact F
 obtain⟨m,hm⟩:∃m,m=No.msg {n with aQ:=ints (ks ++ [ln])} 3 (ln:Int):=⟨_,rfl⟩
 have y:({m with d:=x.d}:Mg)=⟨3,n.core,x.line,x.d⟩:=by rw[hm,c];rfl
 rw[<-hm];have G:=fE (xm a (OR (ao ⟨0,0,0,.zero⟩) xk)) (zg _) (zg m) (qT _);obtain⟨f,k⟩:∃X,X=(a.alloc (OR (ao ⟨0,0,0,.zero⟩) xk)).set a.au (OR (ao m) xk):=⟨_,rfl⟩
 rw[<-k]at G;have C:Fr Em a f:=by grind [yT]
 have K:f.get a.au=B1 (OR (ao m) xk):=by rw[k,xc]
 have R:H.au<a.au:=by have:=g.au;omega
 have W:f.get H.au=B1 (OR (av x) xj):=by rw[C.ah _ R id];exact P
 have z:Op.aq 8 [.ptr H.au 4] f=B1 (.agg (cu x.d)):=by grind [rR,xb,zt,BJ]
 have I:=wY K (o:=3) (n:=8) (v:=.agg (cu x.d)) (by grind [zk,kq]) (by rw[zg];decide) (by grind [zk,tZ]);rw[YF,y]at I;have A:=eI (xc f a.au (OR (ao ⟨3,n.core,x.line,x.d⟩) xk)) (zg _);simp only[aa,bc,mZ,G,z,I,A,AL];have Y:f.au=a.au+1:=by rw[k];rfl
 have D:Fr Em a (f.set a.au (OR (ao ⟨3,n.core,x.line,x.d⟩) xk)):=C.set (by omega) _;refine⟨Ad.one _ (by rw[tV];omega),j,ks ++ [ln],?_,?_,?_⟩
 .have e:({n with aQ:=ints (ks ++ [ln])}:No) = {n with aQ:=n.aQ ++ [x.line]}:=by rw[ae4,c,h.eq]
  rw[<-e];exact(E.em (g.trans D λ _ q=>q.elim)).em ((Fr.refl _).alloc _)
 .exact ((nC p).trans s λ x q=>.inl q).em ((g.trans D λ _ q=>q.elim).alloc _)
 grind
end
end Go.Am
namespace Go.Am
open Go.Proofs Ca
open Lang (ints)
variable{M:ak}[MK M]
theorem yS(off:Nat)(n:Option Nat)(t rest:aS)(x y:List AV):bm (.part off n t rest) (.agg x) (.agg y)=(partAt x off n).bind λ a=>(partAt y off n).bind λ b=>(bm t a b).bind λ q=>cond q (bm rest (.agg x) (.agg y)) (B1 B2):=rfl
theorem xim(x:List AV)(k:Nat):partAt x k B5=nth x k:=rfl
def iB{k:Nat}{t:aS}{l c:List AV}{K:P0}{a b:Int}{P:Prop}[Decidable P](h:nth l k=B1 (.int K a))(d:nth c k=B1 (.int K b))(hp:bm t (.agg l) (.agg c)=B1 (decide P)) :
 bm (.part k B5 .int t) (.agg l) (.agg c)=B1 (decide (a=b/\P)):=by
 have q:bm .int (.int K a) (.int K b)=B1 (decide (a=b)):=by
  have e:tf K K=true:=by cases K<;>rfl
  simp only[bm,BM,e,xu];rfl
 grind [yS,xim]
abbrev Se:aS:=.part 0 B5 .int (.part 1 B5 .int (.part 2 B5 .int (.part 3 B5 .int (.part 4 B5 .int (.part 5 B5 .int (.part 6 B5 .int (.part 7 B5 .int .nil)))))))
def qw(d e:L8):bm Se (.agg (cu d)) (.agg (cu e))=B1 (decide (d=e)):=by
 have⟨d,c⟩:=d;have⟨e,he⟩:=e
 match d,c,e,he with
 |[d0,d1,d2,d3,d4,d5,d6,d7],_,[e0,e1,e2,e3,e4,e5,e6,e7],_ =>
  rw[iB (P:=d1=e1/\d2=e2/\d3=e3/\d4=e4/\d5=e5/\d6=e6/\d7=e7/\True) (a:=d0) (b:=e0) (K:=.u64) rfl rfl (iB rfl rfl (iB rfl rfl (iB rfl rfl (iB rfl rfl (iB rfl rfl (iB rfl rfl (iB rfl rfl rfl)))))))];simp_all
abbrev W2:aS:=.part 0 B5 .int (.part 1 B5 .int (.part 2 B5 .int (.part 3 (B1 8) Se .nil)))
def eqM(m e:Mg):bm W2 (.agg (ao m)) (.agg (ao e))=B1 (decide (m=e)):=by
 have f:bm (.part 3 (B1 8) Se .nil) (.agg (ao m)) (.agg (ao e))=B1 (decide (m.d=e.d)):=by
  have p:∀x:Mg,partAt (ao x) 3 (B1 8)=B1 (.agg (cu x.d)):=λ x=>by
   have⟨k,co,l,⟨d,g⟩⟩:=x
   match d,g with
   |[d0,d1,d2,d3,d4,d5,d6,d7],_=>rfl
  rw[yS,p,p,qr,qr,qw,qr];cases decide (m.d=e.d)<;>rfl
 rw[iB (P:=m.core=e.core/\m.line=e.line/\m.d=e.d) (a:=m.k) (b:=e.k) (K:=.i64) rfl rfl (iB rfl rfl (iB rfl rfl f))];congr 1;refine decide_eq_decide.2 ⟨λ q=>?_,λ q=>by rw[q];exact⟨rfl,rfl,rfl,rfl⟩⟩;have⟨a,b,c,d⟩:=q;cases m;simp_all
def QK(m a:Mg)(H:ar):Op.eq (.agg W2) B2 [.agg (ao m),.agg (ao a)] H=B1 (.bool (decide (m=a))):=zJ _ _ _ _ _ (eqM m a)
section
variable{H0 H:ar}{r b:Nat}{sv bv:AV}{n:No}{ks:List Nat}
def xb6(h:dc H0 H r b sv bv n ks)(hk:n.aQ.length<=900000)(m:Mg)(x:En):zb M UJ [.ptr r 0,.agg (ao m),.agg (av x)] H λ v H'=>v=.bool (decide (n.jJ m x))/\Fr Em H H':=by
 refine qts ?_;obtain⟨w0,w2,B,f,g,t⟩:=qtt M ⟨B5,UJ⟩;obtain⟨H1,e1,E,n1,-⟩:=cD H (OR (ao m) xk);obtain⟨u,e2,w,-,F⟩:=cD H1 (OR (av x) xj);have A:Fr Em H u:=E.trans w λ _ q=>q.elim;have D:u.get H.au=B1 (OR (ao m) xk):=by rw[w.ah _ (by omega) id,e1,xm]
 have c:Op.ae [.ptr H.au 0] u=B1 (.int .i64 m.k):=x9 (xb D) 0;have s:Op.ae [.ptr H.au 2] u=B1 (.int .i64 m.line):=x9 (xb D) 2;have ls:Op.ae [.ptr H1.au 1] u=B1 (.int .i64 x.st):=x9 (xb F) 1;have l:=h.em A;have d:∀(P Q:Prop)[Decidable P][Decidable Q],(P↔Q)->AV.bool (decide P)=.bool (decide Q):=λ P Q _ _ q=>by grind
 by_cases a:m.k=11
 .simp only[aa,bc,w0,<-e1,<-e2,w2,c,qy a,ls]
  grind [No.jJ]
 by_cases e:m.k=12
 .simp only[aa,bc,w0,<-e1,<-e2,w2,c,a,ls,f,qy e,g]
  grind [No.jJ]
 by_cases i:m.k=13
 .simp only[aa,bc,w0,<-e1,<-e2,w2,c,a,ls,f,e,qy i,g]
  grind [No.jJ]
 by_cases j:m.k=14
 .simp only[aa,bc,w0,<-e1,<-e2,w2,c,a,f,e,i,g,qy j,qo,l.lo,s];refine C3.q (FI l 1 m.line) λ v C⟨z,y⟩=>?_;rw[z];simp only[aa,bc,(l.em y).lo,QK];exact⟨by grind [No.jJ],A.trans y λ _ q=>q.elim⟩
 by_cases o:m.k=15
 .simp only[aa,bc,w0,<-e1,<-e2,w2,c,a,f,e,i,g,j,t,qy o,qo,l.lo,s];refine C3.q (FI l 2 m.line) λ v C⟨z,y⟩=>?_;rw[z];simp only[aa,bc,(l.em y).lo,QK];exact⟨by grind [No.jJ],A.trans y λ _ q=>q.elim⟩
 by_cases p:m.k=16
 .have I:=h.kl;simp only[aa,bc,w0,<-e1,<-e2,w2,c,a,f,e,i,g,j,t,o,qy p,qo,l.vS,s];refine C3.q (Z8 l.bk.sl (by omega) m.line) λ v C⟨z,G⟩=>?_;rw[z,G];simp only[aa,bc];exact⟨by congr 1;simp[No.jJ,p,h.eq],A⟩
 .simp only[aa,bc,w0,<-e1,<-e2,w2,c,a,f,e,i,g,j,t,o,p,B]
  grind [No.jJ]
def VE(c:Ca)(line st:Int)(d:L8):(c.fill line st d).1.sl.length=c.sl.length/\((c.fill line st d).1.us=c.us\/(c.fill line st d).1.us=c.us+1):=by
 grind [Ca.fill]
def af2{lines line st:Int}{c:Ca}{d:L8}(h:CI lines c)(hs:(c.fill line st d).2.1.st≠0):0<=(c.fill line st d).2.1.line:=by
 unfold Ca.fill at hs⊢;cases hp:c.pos line with
 |some i=>rw[hp]at hs;exact absurd rfl hs
 |none =>
  rw[hp]at hs;cases hr:c.room line with
  |none=>rw[hr]at hs;exact absurd rfl hs
  |some i =>
   rw[hr]at hs;have hs:(c.en i).st≠0:=hs;show 0<=(c.en i).line;rcases xy i c.sl.length with q|q
   .exact (h.ok i q hs).2.1
   .rw [XW q]at hs;exact absurd rfl hs
def IE{line st:Int}{c:Ca}{d:L8}(h:(c.fill line st d).2.2=22):(c.fill line st d).1=c:=by
 grind [Ca.fill]
def Ad.from{H H1 H':ar}{v:AV}{ms:List Mg}(h:Ad H1 H' v ms)(f:H.au<=H1.au):Ad H H' v ms:=by
 rcases h with q|⟨m,a,c,d,e,g,i⟩
 .exact .inl q
 .exact .inr ⟨m,a,c,d,xw f e,g,i⟩
def si.from{n':No}{H1 H':ar}(f:Fr (iE r b sv bv) H H1)(h:si H0 H1 r b sv bv n' H'):si H0 H r b sv bv n' H':=by
 have⟨a,c,d,e,g⟩:=h;have fn:=f.au;exact⟨a,c,d,jL f e,λ x q=>(g x q).imp id λ w=>by omega⟩
def si.em{n':No}{H1 H':ar}(h:si H0 H r b sv bv n' H1)(f:Fr Em H1 H'):si H0 H r b sv bv n' H':=by
 have⟨a,c,d,e,g⟩:=h;exact⟨a,c,d.em f,e.em f,g⟩
def dc.off{W:Nat->Prop}{H':ar}(h:dc H0 H r b sv bv n ks)(f:Fr W H H')(hw:∀x,W x->H0.au<=x /\ ¬iE r b sv bv x):dc H0 H' r b sv bv n ks :=
 ⟨by rw[f.ah _ h.lt λ q=>(hw _ q).2 (.inl rfl)];exact h.row,qn h.lt f.au,h.ca.fr f (λ q=>(hw _ q).2 (.inr (.inl (.inl rfl)))) (λ q=>(hw _ q).2 (.inr (.inl (.inr rfl)))),h.bk.vD f (h.bk.fr.trans f λ x q=>(by grind)) (λ x a q=>(hw x q).2 (.inr (.inr a))),h.eq,h.lr,h.lb,h.ls,h.n1,h.n2,h.o1,h.o2,h.o3,h.li,h.len⟩
def rE.from{a:No×List Mg}{H1 H':ar}{v:AV}(f:Fr (iE r b sv bv) H H1)(h:rE H0 H1 r b sv bv a v H'):rE H0 H r b sv bv a v H':=⟨h.1.from f.au,h.2.from f⟩
def xid(h:dc H0 H r b sv bv n ks)(f:CI n.lines n.c)(hk:n.aQ.length<=900000)(hu:n.c.us+1<=1000000)(m:Mg)(hm:0<=m.line):zb M MZ [.ptr r 0,.agg (ao m)] H (rE H0 H r b sv bv (n.fill m)):=by
 refine q0c ?_;obtain⟨w0,w4,w10,G,I,w28⟩:=q0d M ⟨B5,MZ⟩;have⟨H1,e1,f1,n1,O⟩:=cD H (OR (ao m) xk);have F:Op.ae [.ptr H.au 0] H1=B1 (.int .i64 m.k):=x9 (xb O) 0;have T:=h.em f1;have hlr:=h.lt;have hlb:=h.ca.lt;have hls:aE sv<H.au:=h.ca.sl.lt;have hbf:=h.bk.fresh;have off:∀y,H.au<=y -> ¬iE r b sv bv y:=λ y hy q=>by
  rcases q with q|q|q
  .omega
  .exact q.elim (by omega) λ q=>by omega
  grind
 -- the line's words
 have C:∀{u:ar},u.get H.au=B1 (OR (ao m) xk)->Op.aq 8 [.ptr H.au 3] u=B1 (.agg (cu m.d)):=λ g=>by
  rw[rR (xb g) (by rw[zg];decide)];have⟨k,co,l,⟨d,hd⟩⟩:=m
  match d,hd with
  |[d0,d1,d2,d3,d4,d5,d6,d7],_=>rfl
 have D:∀{u:ar},u.get H.au=B1 (OR (ao m) xk)->Op.ae [.ptr H.au 2] u=B1 (.int .i64 m.line):=λ g=>x9 (xb g) 2
 -- what fI is told
 have fin:∀{n':No}{st:Int}{s:ar}{t:Nat},dc H0 s r b sv bv {n' with c:=(n'.c.fill m.line st m.d).1} ks->CI n'.lines n'.c->n'.aQ=n.aQ->Fr (iE r b sv bv) H s->s.get t=B1 (OR (av (n'.c.fill m.line st m.d).2.1) xj)->n.fill m=n'.dX m st ->
  ∀{E:Env},lk E 0=B1 (.ptr r 0)->lk E 6=B1 (.ptr t 0)->lk E 4=B1 .nils->lk E 7=B1 (.bool (decide ((n'.c.fill m.line st m.d).2.2=0/\(n'.c.fill m.line st m.d).2.1.st≠0))) ->
  W M ⟨B5,MZ⟩ (ZW 20) B4 (fh M [.tmp 4] (uI (rE H0 H r b sv bv (n.fill m)))) E [] s:=by
  intro n' st s t hc z hb hf hg hn E o q6 q4 q7;rw[hn];unfold No.dX
  by_cases q:(n'.c.fill m.line st m.d).2.2=0/\(n'.c.fill m.line st m.d).2.1.st≠0
  .have Q:lk E 7=B1 (.bool B4):=by grind
   rw[xg q];have ld:=eI (n:=21) hg (zt _);simp only[aa,bc,I,Q,w28,o,q6,ld];refine C3.q (xbo hc (by grind) _ (af2 z q.2)) λ v a U=>?_;simp only[aa,bc];exact U.from hf
  .have Q:lk E 7=B1 (.bool B2):=by grind
   rw[qv q];simp only[aa,bc,I,Q];exact⟨.inl ⟨rfl,rfl⟩,si.of hc hf⟩
 -- put in
 have main:∀{st:Int},st=1\/st=2->n.fill m=n.mF m st -> ∀{E:Env},lk E 0=B1 (.ptr r 0)->lk E 3=B1 (.ptr H.au 0)->lk E 4=B1 .nils->lk E 5=B1 (.int .i64 st)->W M ⟨B5,MZ⟩ (ZW 10) B4 (fh M [.tmp 4] (uI (rE H0 H r b sv bv (n.fill m)))) E [] H1:=by
  intro st A hn E o q3 q4 q5;simp only[aa,bc,w10,o,q3,q5,qo,T.l2,D O,C O];refine C3.q (c_ T.ca f hu hm A m.d) λ v a⟨Z,U,L⟩=>?_;rw[Z];unfold pk;have k2:a.get H.au=B1 (OR (ao m) xk):=by rw[L.ah _ (by omega) (λ q=>q.elim (by omega) λ q=>by omega)];exact O
  have n2:=L.au;have V:=T.iy U L (by rw[(VE ..).1];exact h.len);obtain⟨p,K⟩:∃X,X=(a.alloc (OR (av .zero) xj)).set a.au (OR (av (n.c.fill m.line st m.d).2.1) xj):=⟨_,rfl⟩
  have R:Fr Em a p:=by grind [yT]
  have g3:p.get a.au=B1 (OR (av (n.c.fill m.line st m.d).2.1) xj):=by rw[K,xc]
  have n3:p.au=a.au+1:=by rw[K];rfl
  have k3:p.get H.au=B1 (OR (ao m) xk):=by rw[R.ah _ (by omega) id];exact k2
  have j:=V.em R;have w:Fr (iE r b sv bv) H p:=jL (jL (nC f1) (vV L)) (nC R)
  by_cases q:(n.c.fill m.line st m.d).2.2=22
  case neg =>
   have i:n.fill m=n.dX m st:=by rw[hn];unfold No.mF;rw[qv q]
   simp only[aa,bc,xf,eZ,jS,<-K,G,q];exact fin j f rfl w g3 i o rfl q4 rfl
  .have i:n.fill m=(n.iJ 3).dX m st:=by simp_all[No.mF]
   have ec:({n with c:=(n.c.fill m.line st m.d).1}:No)=n:=by rw[IE q]
   rw[ec]at j;simp only[aa,bc,xf,eZ,jS,<-K,G,qy q,o];refine C3.q (I1 j 3) λ _ H4⟨P,N⟩=>?_;have k4:H4.get H.au=B1 (OR (ao m) xk):=by rw[N.ah _ (by omega) (by grind)];exact k3
   have g4:H4.get a.au=B1 (OR (av (n.c.fill m.line st m.d).2.1) xj):=by rw[N.ah _ (by omega) (by grind)];exact g3
   have n4:=N.au;simp only[aa,bc,q3,q5,qo,P.l2,D k4,C k4];have e:CI n.lines (n.iJ 3).c:=f.discard;refine C3.q (c_ P.ca e hu hm A m.d) λ v J⟨Z,h5,S⟩=>?_;rw[Z];unfold pk;have g5:J.get a.au=B1 (OR (av (n.c.fill m.line st m.d).2.1) xj):=by rw[S.ah _ (by omega) (λ q=>q.elim (by omega) λ q=>by omega)];exact g4
   have s6:=fE g5 (zt _) (zt ((n.iJ 3).c.fill m.line st m.d).2.1) (tH _);have Y:=P.iy h5 S (by rw[(VE ..).1];exact P.len);have f6:Fr (On a.au) J (J.set a.au (OR (av ((n.iJ 3).c.fill m.line st m.d).2.1) xj)):=(Fr.refl J).set (W:=On a.au) (.inl rfl) _;simp only[aa,bc,xf,s6];refine fin (n':=n.iJ 3) (t:=a.au) ?_ e rfl ?_ (xc ..) i o rfl q4 rfl
   .exact Y.off f6 (λ x(hx:x=a.au)=>by rw[hx];exact⟨by have:=h.bk.fr.au;omega,(by grind)⟩)
   .exact (jL (jL w N) (vV S)).set (.inr (by omega)) _
 by_cases B:m.k=15
 .simp only[aa,bc,w0,<-e1,w4,F,qy B];exact main (.inr rfl) (by unfold No.fill;grind) rfl rfl rfl rfl
 .simp only[aa,bc,w0,<-e1,w4,F,B];exact main (.inl rfl) (by unfold No.fill;grind) rfl rfl rfl rfl
end
end Go.Am
namespace Go.Am
open Go.Proofs Ca
open Lang (ints)
variable{M:ak}[MK M]
def xjr{H:ar}{e size bytes b n:Nat}{cells:List AV}(h:Sl H size (.slice b 0 n n) n cells)(hn:0<n){x:AV}{k:Nat}{new:List AV}(i:Sl H size x k new)(hk:0<k)(d:aL new=B4)(hs:0<size)
 (s:(n+k)*bytes<=140737488355328) (f:n+k<=140737488355328) {K:Bool->AV->ar->Prop} {m:Bool}
 (p:∀j H',Own H' e size j (n+k) (cells++new)->Fr Em H H'->(∀c,aM j c->H.au<=c)->K m j H'):iW m (Op.append e size bytes [.slice b 0 n n,x] H) K:=by
 have a:=S4 s f;have hlen:new.length=k*size:=i.1;have g:=FT hs;have o:Oa (n+k) n=false:=by cases t:Oa (n+k) n with|false=>rfl|true=>rw[tQ]at t;omega
 have l:Op.append e size bytes [.slice b 0 n n,x] H=B1 (dA H e size (n+k) (cells++new) (0,0)):=by
  simp only[Op.append,i.eR,i.first,qr,d,xu,de,o,zo,a,yr (show n<=n+k by omega),g,jk,h.first,pe]
 rw[l];refine iW.intro rfl (p _ _ ⟨by rw[xr,h.1,hlen,vr],.inr ⟨H.au,rfl,by rw[xx];omega,?_⟩⟩ ((Fr.refl H).alloc _) λ c q=>by rw[q.2];exact qm _);rw[ar.bM,xg rfl]
def Ad.em{H H1 H':ar}{v:AV}{ms:List Mg}(h:Ad H H1 v ms)(f:Fr Em H1 H'):Ad H H' v ms:=by
 rcases h with q|⟨m,a,d,e,g,c,i⟩
 .exact .inl q
 .exact .inr ⟨m,a,d,e,g,qn c f.au,by rw[f.ah _ c id];exact i⟩
def K6{H H':ar}{v a:AV}{ms:List Mg}{m:Mg}(h:Ad H H' v ms)(x:gN ao xk 11 H' a [m])(hl:H.au<=H'.au){K:Bool->AV->ar->Prop}
 (g:∀v2 c,mG H c v2 (ms ++ [m])->Fr Em H' c->K B4 v2 c):iW B4 (Op.append xk 11 88 [v,a] H') K:=by
 have xs:=x.sl zg;have i:aL ([m].flatMap ao)=true:=by rw[j9,List.flatMap_nil,zq];exact qT m
 rcases h with⟨rfl,rfl⟩|⟨l,b,rfl,rfl,s,j,k⟩
 .refine Q2 (Own.nil H' xk 11) xs i (by decide) (by simp) (by simp) λ v2 c o f w=>g v2 c ⟨?_,λ _=>?_⟩ (f.mono λ y _ q=>(q.1 rfl).elim)
  .have:=Own.sl o;exact this
  .have d:v2≠ .nils:=λ q=>by
    subst q;have:=Own.sl o;exact absurd this.2 (by intro z;cases z)
   exact(w _ ⟨d,rfl⟩).elim (λ q=>(q.1 rfl).elim) λ q=>by omega
 .have p:bV ao 11 H' (Op.sliceTo 1 1 b) [l]:=gN.sl (e:=xk) zg ⟨b,rfl,j,by rw[k];simp⟩;refine xjr (b:=b) (n:=1) (e:=xk) p (by decide) xs (by simp) i (by decide) (by simp) (by simp) λ v2 c o f w=>g v2 c ⟨?_,λ _=>?_⟩ f
  .have:=Own.sl o;unfold bV;rw[vh];exact this
  .have d:v2≠ .nils:=λ q=>by
    subst q;have:=Own.sl o;exact absurd this.2 (by intro z;cases z)
   have:=w _ ⟨d,rfl⟩;omega
section
variable{H0 H:ar}{r b:Nat}{sv bv:AV}{n:No}{ks:List Nat}
def ah2(ks:List Nat)(line:Int):ints (zU ks line)=(ints ks).filter (· ≠line):=by
 unfold ints zU;rw[List.filter_map];congr 1;refine List.filter_congr λ k _=>?_;show((k:Int) != line)=decide ((k:Int)≠line)
 by_cases q:(k:Int)=line<;>simp[q]
def fB(c:Ca)(line:Int):nQ c line=.tuple [.agg (av ((c.find line).getD .zero)),.bool (c.find line).isSome]:=by
 unfold nQ;cases c.find line<;>rfl
def XF{x:En}{too:Bool}(h:CI n.lines n.c):CI n.lines (n.lost x too).c:=by
 unfold No.lost;split
 .split
  .exact h.discard
  .exact h.discard
 .exact h
theorem Ib(x:En)(too:Bool):(n.lost x too).aQ=n.aQ/\(n.lost x too).core=n.core/\(n.lost x too).lines=n.lines/\(n.lost x too).c.us=n.c.us:=by
 unfold No.lost;split
 .split<;>exact⟨rfl,rfl,rfl,rfl⟩
 .exact ⟨rfl,rfl,rfl,rfl⟩
theorem Nu(c:Ca)(line:Int):(c.drop line).1.sl.length=c.sl.length/\(c.drop line).1.us=c.us:=by
 unfold Ca.drop;cases c.lM line 0 with
 |none=>exact⟨rfl,rfl⟩
 |some i=>exact⟨zf,rfl⟩
def fu(c:Ca)(line:Int):(c.cX line).1.sl.length=c.sl.length/\(c.cX line).1.us=c.us:=by
 unfold Ca.cX;cases c.lM line 2 with
 |none=>exact⟨rfl,rfl⟩
 |some i=>exact⟨zf,rfl⟩
def va(c:Ca)(line:Int)(d:L8):(c.cO line d).sl.length=c.sl.length/\(c.cO line d).us=c.us:=by
 unfold Ca.cO;cases c.lM line 1 with
 |none=>exact⟨rfl,rfl⟩
 |some i=>exact⟨zf,rfl⟩
def xkz(n:No)(x:En):(n.gone x).1.core=n.core:=by unfold No.gone;split<;>rfl
def xkw(n:No)(m:Mg):(n.fill m).1.core=n.core:=by
 have e:∀(n:No)(st:Int),(n.dX m st).1.core=n.core:=λ n st=>by
  unfold No.dX;split
  .exact xkz ..
  .rfl
 unfold No.fill;generalize(if m.k=15 then(2:Int)else 1)=st;unfold No.mF;split
 .exact e (n.iJ 3) st
 .exact e n st
def uX(H0 H:ar)(r b:Nat)(sv bv:AV)(a:No×List Mg)(v:AV)(H':ar):Prop:=(∃ov e,v=.tuple [ov,e]/\mG H H' ov a.2)/\si H0 H r b sv bv a.1 H'
def xjd(h:dc H0 H r b sv bv n ks)(U:CI n.lines n.c)(hk:n.aQ.length<=900000)(hu:n.c.us+1<=1000000)(m:Mg):zb M yx [.ptr r 0,.agg (ao m)] H (uX H0 H r b sv bv (n.bP m)):=by
 refine qz5 ?_;obtain⟨w0,w2,w10,w12,Z,w73,w34,w75,w40,w85,w41,w49,w53,w61⟩:=qz6 M ⟨B5,yx⟩;have⟨H1,e1,f1,n1,g1⟩:=cD H (OR (ao m) xk);have hlr:=h.lt;have hlb:=h.ca.lt;have hls:aE sv<H.au:=h.ca.sl.lt;have hbf:=h.bk.fresh;have off:∀y,H.au<=y -> ¬iE r b sv bv y:=λ y hy q=>by
  rcases q with q|q|q
  .omega
  .exact q.elim (λ q=>by omega) λ q=>by omega
  .have:=hbf _ q;omega
 have P:∀y,H.au<=y -> ¬nD b sv y:=λ y hy q=>off y hy (.inr (.inl q));have G:∀{D:ar},D.get H.au=B1 (OR (ao m) xk)->Op.ae [.ptr H.au 0] D=B1 (.int .i64 m.k):=λ g=>x9 (xb g) 0;have ldc:∀{D:ar},D.get H.au=B1 (OR (ao m) xk)->Op.ae [.ptr H.au 1] D=B1 (.int .i64 m.core):=λ g=>x9 (xb g) 1;have p:∀{D:ar},D.get H.au=B1 (OR (ao m) xk)->Op.ae [.ptr H.au 2] D=B1 (.int .i64 m.line):=λ g=>x9 (xb g) 2;have ldm:∀{D:ar},D.get H.au=B1 (OR (ao m) xk)->Op.aq 11 [.ptr H.au 0] D=B1 (.agg (ao m)):=λ g=>eI g (zg m);have ldd:∀{D:ar},D.get H.au=B1 (OR (ao m) xk)->Op.aq 8 [.ptr H.au 3] D=B1 (.agg (cu m.d)):=λ g=>by
  rw[rR (xb g) (by rw[zg];decide)];have⟨k,co,l,⟨d,hd⟩⟩:=m
  match d,hd with
  |[d0,d1,d2,d3,d4,d5,d6,d7],_=>rfl
 have h1:=h.em f1;simp only[aa,bc,w0,<-e1,w2,ye,w10,qo,h1.l2,p g1];refine C3.q (O5 h1.ca U m.line) λ v I⟨J,f2⟩=>?_;rw[J,fB];obtain⟨x,hx⟩:∃x,x=(n.c.find m.line).getD .zero:=⟨_,rfl⟩
 rw[<-hx];obtain⟨H3,e3⟩:∃X,X=(I.alloc (OR (av .zero) xj)).set I.au (OR (av x) xj):=⟨_,rfl⟩
 have f3:Fr Em I H3:=by rw[e3];exact yT _ _
 have f03:Fr Em H H3:=(f1.trans f2 λ _ q=>q.elim).trans f3 λ _ q=>q.elim;have n2:=f2.au;have n3:H3.au=I.au+1:=by rw[e3];rfl
 have x3:H3.get I.au=B1 (OR (av x) xj):=by rw[e3,xc]
 have g3:H3.get H.au=B1 (OR (ao m) xk):=by rw[f3.ah _ (by omega) id,f2.ah _ (by omega) id];exact g1
 have h3:=h.em f03;have ldx:∀{D:ar},D.get I.au=B1 (OR (av x) xj)->Op.aq 21 [.ptr I.au 0] D=B1 (.agg (av x)):=λ g=>eI g (zt x);simp only[aa,bc,xf,eZ,jS,<-e3]
 -- what is not heard
 have no:∀{e:Int},(m.core≠n.core\/m.line<0\/n.lines<=m.line \/ ¬n.jJ m ((n.c.find m.line).getD .zero)) -> ∀{H':ar},Fr Em H H'->uX H0 H r b sv bv (n.bP m) (.tuple [.nils,.int .i64 e]) H':=by
  intro e q H' f;have O:n.bP m=(n,[]):=by unfold No.bP;rw[xg q]
  rw[O];exact⟨⟨.nils,_,rfl,mG.nil ..⟩,h.same f⟩
 by_cases q1:m.core=n.core
 case neg =>
  simp only[aa,bc,w12,ldc g3,qo,h3.l0,q1];exact no (.inl q1) f03
 by_cases q2:m.line<0
 .simp only[aa,bc,w12,ldc g3,qo,h3.l0,qy q1,p g3,q2];exact no (.inr (.inl q2)) f03
 by_cases Y:n.lines<=m.line
 .simp only[aa,bc,w12,ldc g3,qo,h3.l0,qy q1,p g3,q2,h3.l1,Y];exact no (.inr (.inr (.inl Y))) f03
 simp only[aa,bc,w12,ldc g3,qo,h3.l0,qy q1,p g3,q2,h3.l1,Y,ldm g3,ldx x3];refine C3.q (xb6 h3 hk m x) λ v H4⟨J,f4⟩=>?_;rw[J];have Q:Fr Em H H4:=f03.trans f4 λ _ q=>q.elim;have n4:=f4.au;have h4:=h.em Q;have R:H4.get H.au=B1 (OR (ao m) xk):=by rw[f4.ah _ (by omega) id];exact g3
 have x4:H4.get I.au=B1 (OR (av x) xj):=by rw[f4.ah _ (by omega) id];exact x3
 by_cases q4:n.jJ m x
 case neg =>
  simp only[aa,bc,js q4];exact no (.inr (.inr (.inr (by rw[<-hx];exact q4)))) Q
 have hn:¬(m.core≠n.core\/m.line<0\/n.lines<=m.line \/ ¬n.jJ m ((n.c.find m.line).getD .zero)):=by
  rw[<-hx];rintro(w|w|w|w)
  .exact w q1
  .exact q2 w
  .exact Y w
  .exact w q4
 rw[jz q4]
 -- the words that a message has
 have S:∀{k line:Int}{d:L8}{D:ar}{a:Nat},D.get a=B1 (OR (ao ⟨k,n.core,line,.zero⟩) xk)->Op.store 8 [.ptr a 3,.agg (cu d)] D=B1 (.undef,D.set a (OR (ao ⟨k,n.core,line,d⟩) xk)):=λ{k line d D a}g=>by
  have s6:=wY g (o:=3) (n:=8) (v:=.agg (cu d)) (by rw[zk];exact kq _) (by rw[zg];decide) (by rw[zk];exact tZ _);rw[YF]at s6;exact s6
 by_cases s:m.k=11
 .have O:n.bP m=({n.lost x B4 with c:=((n.lost x B4).c.drop m.line).1},[n.msg 4 m.line]):=by
   unfold No.bP;rw[qv hn,xg s,<-hx]
  rw[O];simp only[aa,bc,Z,G R,qy s,ldx x4];refine C3.q (YO h4 x B4) λ _ j⟨K,A⟩=>?_;have n5:=A.au;have T:j.get H.au=B1 (OR (ao m) xk):=by rw[A.ah _ (by omega) (off _ (by omega))];exact R
  simp only[aa,bc,qo,K.l2,p T];refine C3.q (Yg K.ca (XF U) m.line) λ _ C⟨_,L,z⟩=>?_;have g6:C.get H.au=B1 (OR (ao m) xk):=by rw[z.ah _ (by omega) (P _ (by omega))];exact T
  have hn6:=K.iy L z (by rw[(Nu ..).1];exact K.len);simp only[aa,bc,p g6];refine C3.q (FI hn6 4 m.line) λ v H7⟨J,F⟩=>?_;rw[J];have n6:=z.au;have n7:=F.au;have em:No.msg {n.lost x B4 with c:=((n.lost x B4).c.drop m.line).1} 4 m.line=n.msg 4 m.line:=by unfold No.msg;rw[show(No.core {n.lost x B4 with c:=((n.lost x B4).c.drop m.line).1})=n.core from(Ib (n:=n) x B4).2.1]
  rw[em];simp only[aa,bc,mZ,AL];exact⟨⟨_,_,rfl,KA _ (by omega)⟩,si.of ((hn6.em F).em ((Fr.refl _).alloc _)) (jL (jL (nC Q) A) ((jL (vV z) (nC F)).alloc _))⟩
 by_cases i:m.k=12\/m.k=13
 .have t13:¬(13:Int)=11:=by decide
  -- a recall
  have rec41:∀{E:Env},lk E 0=B1 (.ptr r 0)->lk E 3=B1 (.ptr H.au 0)->lk E 6=B1 (.ptr I.au 0)->lk E 7=B1 (.bool (n.c.find m.line).isSome) ->
   W M ⟨B5,yx⟩ (M4 41) B4 (eS 0 (fj (W M ⟨B5,yx⟩ (M4 73)) (fh M [.tmp 4,.tmp 5] (uI (uX H0 H r b sv bv (n.bP m)))))) E [] H4:=by
   intro E q0 Y q6 q7;cases hf:n.c.find m.line with
   |none =>
    have O:n.bP m=(n,[n.msg 6 m.line]):=by
     unfold No.bP;rw[qv hn,qv s,xg i,hf]
    rw[O];rw[hf]at q7;have q7:lk E 7=B1 (.bool B2):=q7;simp only[aa,bc,w41,q7,q0,Y,p R];refine C3.q (FI h4 6 m.line) λ v j⟨J,A⟩=>?_;rw[J];have n5:=A.au;simp only[aa,bc,mZ,AL];exact⟨⟨_,_,rfl,KA _ (by omega)⟩,h.same ((Q.trans A λ _ q=>q.elim).alloc _)⟩
   |some x' =>
    have exx:x=x':=by rw[hx,hf];rfl
    subst exx;rw[hf]at q7;have q7:lk E 7=B1 (.bool B4):=q7
    -- behind the loss
    have go:∀{too:Bool}{j:ar},(too=B4↔m.k=13)->dc H0 j r b sv bv (n.lost x too) ks->Fr (iE r b sv bv) H4 j -> ∀{E:Env},lk E 0=B1 (.ptr r 0)->lk E 3=B1 (.ptr H.au 0)->lk E 6=B1 (.ptr I.au 0)->lk E 8=B1 (.ptr j.au 0) ->
     ∀{C:ar},C=(j.alloc (OR (ao ⟨0,0,0,.zero⟩) xk)).set j.au (OR (ao (n.msg 5 m.line)) xk) ->
     W M ⟨B5,yx⟩ (M4 53) B4 (eS 0 (fj (W M ⟨B5,yx⟩ (M4 73)) (fh M [.tmp 4,.tmp 5] (uI (uX H0 H r b sv bv (n.bP m)))))) E [] C:=by
     intro too j ht K A E q0 Y q6 q8 C e6;have n5:=A.au;have z:Fr Em j C:=by rw[e6];exact yT _ _
     have n6:C.au=j.au+1:=by rw[e6];rfl
     have L:=K.em z;have T:j.get H.au=B1 (OR (ao m) xk):=by rw[A.ah _ (by omega) (off _ (by omega))];exact R
     have g6:C.get H.au=B1 (OR (ao m) xk):=by rw[z.ah _ (by omega) id];exact T
     have x5:j.get I.au=B1 (OR (av x) xj):=by rw[A.ah _ (by omega) (off _ (by omega))];exact x4
     have x6:C.get I.au=B1 (OR (av x) xj):=by rw[z.ah _ (by omega) id];exact x5
     have b6:C.get j.au=B1 (OR (ao (n.msg 5 m.line)) xk):=by rw[e6,xc]
     have f06:Fr (iE r b sv bv) H C:=jL (jL (nC Q) A) (nC z)
     -- the answer
     have out:∀{d:L8}{n':No}{N:ar},n.bP m=(n',[⟨5,n.core,m.line,d⟩])->dc H0 N r b sv bv n' ks->Fr (iE r b sv bv) H N->C.au<=N.au -> ∀{E:Env},lk E 8=B1 (.ptr j.au 0) ->
      W M ⟨B5,yx⟩ (M4 61) B4 (eS 0 (fj (W M ⟨B5,yx⟩ (M4 73)) (fh M [.tmp 4,.tmp 5] (uI (uX H0 H r b sv bv (n.bP m)))))) E [] (N.set j.au (OR (ao ⟨5,n.core,m.line,d⟩) xk)):=by
      intro d n' N O h8 f8 n8 E q8;rw[O];have ld:=eI (xc N j.au (OR (ao ⟨5,n.core,m.line,d⟩) xk)) (zg _);simp only[aa,bc,w61,q8,ld,mZ,AL];have f9:Fr (On j.au) N (N.set j.au (OR (ao ⟨5,n.core,m.line,d⟩) xk)):=(Fr.refl N).set (W:=On j.au) (.inl rfl) _;have h9:=h8.off f9 (λ x(hx:x=j.au)=>by rw[hx];exact⟨by have:=h.bk.fr.au;omega,off _ (by omega)⟩);exact⟨⟨_,_,rfl,KA _ (by rw[tV];omega)⟩,si.of (h9.em ((Fr.refl _).alloc _)) ((f8.set (.inr (by omega)) _).alloc _)⟩
     by_cases B:m.k=12
     .have et:too=false:=by cases too with|false=>rfl|true=>have:=ht.1 rfl;omega
      subst et;have O:n.bP m=({n.lost x B2 with c:=((n.lost x B2).c.cX m.line).1},[⟨5,n.core,m.line,((n.lost x B2).c.cX m.line).2⟩]):=by
       unfold No.bP;rw[qv hn,qv s,xg i,hf];show(if m.k=12 then _ else _)=_;rw[xg B]
      simp only[aa,bc,w53,q0,Y,G g6,qy B,qo,L.l2,p g6];refine C3.q (xdx L.ca (XF U) m.line) λ v H7⟨J,h7,F⟩=>?_;rw[J];unfold tw;have n7:=F.au;have b7:H7.get j.au=B1 (OR (ao (n.msg 5 m.line)) xk):=by rw[F.ah _ (by omega) (P _ (by omega))];exact b6
      have hn7:=L.iy h7 F (by rw[(fu ..).1];exact L.len);simp only[aa,bc,xf,q8,S b7];exact out O hn7 (jL f06 (vV F)) (by omega) q8
     .have u:m.k=13:=by omega
      have et:too=true:=ht.2 u;subst et;have O:n.bP m=({n.lost x B4 with c:=((n.lost x B4).c.drop m.line).1},[⟨5,n.core,m.line,((n.lost x B4).c.drop m.line).2.d⟩]):=by
       unfold No.bP;rw[qv hn,qv s,xg i,hf];show(if m.k=12 then _ else _)=_;rw[qv B]
      simp only[aa,bc,w53,q0,Y,G g6,B,qo,L.l2,p g6];refine C3.q (Yg L.ca (XF U) m.line) λ v H7⟨J,h7,F⟩=>?_;rw[J];unfold zC;have n7:=F.au;have b7:H7.get j.au=B1 (OR (ao (n.msg 5 m.line)) xk):=by rw[F.ah _ (by omega) (P _ (by omega))];exact b6
      have x7:H7.get I.au=B1 (OR (av x) xj):=by rw[F.ah _ (by omega) (P _ (by omega))];exact x6
      have hn7:=L.iy h7 F (by rw[(Nu ..).1];exact L.len);have s8:=fE x7 (zt _) (zt ((n.lost x B4).c.drop m.line).2) (tH _);obtain⟨N,e8⟩:∃X,X=H7.set I.au (OR (av ((n.lost x B4).c.drop m.line).2) xj):=⟨_,rfl⟩
      rw[<-e8]at s8;have f8:Fr (On I.au) H7 N:=by rw[e8];exact(Fr.refl H7).set (W:=On I.au) (.inl rfl) _
      have x8:N.get I.au=B1 (OR (av ((n.lost x B4).c.drop m.line).2) xj):=by rw[e8,xc]
      have b8:N.get j.au=B1 (OR (ao (n.msg 5 m.line)) xk):=by rw[f8.ah _ (by omega) (λ(q:j.au=I.au)=>by omega)];exact b7
      have ld8:Op.aq 8 [.ptr I.au 4] N=B1 (.agg (cu ((n.lost x B4).c.drop m.line).2.d)):=by rw[rR (xb x8) (by rw[zt];decide),BJ]
      have hn8:=hn7.off f8 (λ x(hx:x=I.au)=>by rw[hx];exact⟨by have:=h.bk.fr.au;omega,off _ (by omega)⟩);have f78:Fr (iE r b sv bv) H N:=by rw[e8];exact(jL f06 (vV F)).set (.inr (by omega)) _
      simp only[aa,bc,xf,q6,q8,s8,ld8,S b8];exact out O hn8 f78 (by have:=f8.au;omega) q8
    by_cases B:m.k=12
    .have u:¬m.k=13:=by omega
     simp only[aa,bc,w41,q7,w49,q0,Y,q6,ldx x4,G R,u];refine C3.q (YO h4 x B2) λ _ j⟨K,A⟩=>?_;have n5:=A.au;have T:j.get H.au=B1 (OR (ao m) xk):=by rw[A.ah _ (by omega) (off _ (by omega))];exact R
     simp only[aa,bc,p T];refine C3.q (FI K 5 m.line) λ v C⟨J,z⟩=>?_;have em:(n.lost x B2).msg 5 m.line=n.msg 5 m.line:=by unfold No.msg;rw[(Ib (n:=n) x B2).2.1]
     rw[J,em];have s6:=fE (xm C (OR (ao ⟨0,0,0,.zero⟩) xk)) (zg _) (zg (n.msg 5 m.line)) (qT _);simp only[aa,bc,mZ,s6];refine go (too:=B2) ⟨λ q=>(by cases q),λ q=>absurd q u⟩ (K.em z) (jL A (nC z)) ?_ ?_ ?_ ?_ ?_
     .exact q0
     .exact Y
     .exact q6
     .rfl
     .rfl
    .have u:m.k=13:=by omega
     simp only[aa,bc,w41,q7,w49,q0,Y,q6,ldx x4,G R,qy u];refine C3.q (YO h4 x B4) λ _ j⟨K,A⟩=>?_;have n5:=A.au;have T:j.get H.au=B1 (OR (ao m) xk):=by rw[A.ah _ (by omega) (off _ (by omega))];exact R
     simp only[aa,bc,p T];refine C3.q (FI K 5 m.line) λ v C⟨J,z⟩=>?_;have em:(n.lost x B4).msg 5 m.line=n.msg 5 m.line:=by unfold No.msg;rw[(Ib (n:=n) x B4).2.1]
     rw[J,em];have s6:=fE (xm C (OR (ao ⟨0,0,0,.zero⟩) xk)) (zg _) (zg (n.msg 5 m.line)) (qT _);simp only[aa,bc,mZ,s6];refine go (too:=B4) ⟨λ _=>u,λ _=>rfl⟩ (K.em z) (jL A (nC z)) ?_ ?_ ?_ ?_ ?_
     .exact q0
     .exact Y
     .exact q6
     .rfl
     .rfl
  by_cases B:m.k=12
  .simp only[aa,bc,Z,G R,s,w34,qy B,w40];exact rec41 rfl rfl rfl rfl
  .have u:m.k=13:=by omega
   simp only[aa,bc,Z,G R,s,w34,B,qy u,w40];exact rec41 rfl rfl rfl rfl
 have B:¬m.k=12:=λ q=>i (.inl q);have u:¬m.k=13:=λ q=>i (.inr q)
 by_cases V:m.k=16
 .have O:n.bP m=({n with aQ:=n.aQ.filter (· ≠m.line)},[]):=by
   unfold No.bP;rw[qv hn,qv s,qv i,xg V]
  rw[O];have hkl:=h.kl;simp only[aa,bc,Z,G R,s,w34,B,u,w40,qy V,qo,h4.vS];refine C3.q (xdw (t:=H.au) (line:=m.line) (λ f=>p (by rw[f.ah _ (by omega) λ q=>by have:=hbf _ q;omega];exact R)) h4.bk (by omega)) λ v j⟨hs,A,w5⟩=>?_;have⟨C,s6,L,z⟩:=h4.Jf hs A (λ x q=>.inl (w5 x q));simp only[aa,bc,s6];rw[ah2,<-h.eq]at L;exact⟨⟨_,_,rfl,mG.nil ..⟩,v,_,L,jL (nC Q) z,λ x q=>.inl (w5 x q)⟩
 -- what was asked for
 have⟨j,s5,K,A⟩:=h4.DW ⟨0,0,0,.zero⟩;have n5:=A.au;have T:j.get H.au=B1 (OR (ao m) xk):=by rw[A.ah _ (by omega) (λ(q:H.au=r)=>by omega)];exact R
 have f05:Fr (iE r b sv bv) H j:=jL (nC Q) (Mx A);cases hf:n.c.find m.line with
 |some x' =>
  have O:n.bP m=({n with out:=⟨0,0,0,.zero⟩,c:=n.c.cO m.line m.d},[n.msg 7 m.line]):=by
   unfold No.bP;rw[qv hn,qv s,qv i,qv V,hf]
  rw[O];simp only[aa,bc,Z,G R,s,w34,B,u,w40,V,w73,mZ,EJ,qo,s5,w75,vn,K.l2,p T,ldd T];refine C3.q (xcl K.ca U m.line m.d) λ _ C⟨L,z⟩=>?_;have g6:C.get H.au=B1 (OR (ao m) xk):=by rw[z.ah _ (by omega) (P _ (by omega))];exact T
  have hn6:=K.iy L z (by rw[(va ..).1];exact K.len);simp only[aa,bc,p g6];refine C3.q (FI hn6 7 m.line) λ v H7⟨J,F⟩=>?_;rw[J];have n6:=z.au;have n7:=F.au;simp only[aa,bc,AL];exact⟨⟨_,_,rfl,KA _ (by omega)⟩,si.of ((hn6.em F).em ((Fr.refl _).alloc _)) (jL f05 ((jL (vV z) (nC F)).alloc _))⟩
 |none =>
  have O:n.bP m=((No.fill {n with out:=⟨0,0,0,.zero⟩} m).1,(No.fill {n with out:=⟨0,0,0,.zero⟩} m).2 ++ [n.msg 7 m.line]):=by
   unfold No.bP;rw[qv hn,qv s,qv i,qv V,hf]
  rw[O];simp only[aa,bc,Z,G R,s,w34,B,u,w40,V,w73,mZ,EJ,qo,s5,w75,Nr,w85,ldm T];refine C3.q (xid K U hk hu m (by omega)) λ v C⟨hm6,bv',ks',L,z,w6⟩=>?_;have n6:=z.au;have g6:C.get H.au=B1 (OR (ao m) xk):=by rw[z.ah _ (by omega) (off _ (by omega))];exact T
  simp only[aa,bc,p g6];refine C3.q (FI L 7 m.line) λ v H7⟨J,F⟩=>?_;have ec:(No.fill {n with out:=⟨0,0,0,.zero⟩} m).1.core=n.core:=xkw _ m;have em:(No.fill {n with out:=⟨0,0,0,.zero⟩} m).1.msg 7 m.line=n.msg 7 m.line:=by unfold No.msg;rw[ec]
  rw[J,em];simp only[aa,bc,AL];have n7:=F.au;refine K6 (H:=j) (m:=n.msg 7 m.line) (hm6.em (F.alloc _)) (Lr _) (by rw[xx];omega) λ v2 N hms f8=>?_;simp only[aa,bc];have f68:Fr Em C N:=(F.alloc _).trans f8 λ _ q=>q.elim;exact⟨⟨_,_,rfl,hms.1,λ q=>by have:=hms.2 q;omega⟩,bv',ks',L.em f68,jL f05 (jL z (nC f68)),λ x q=>(w6 x q).imp id λ w=>by omega⟩
end
end Go.Am
namespace Go.Am
open Go.Proofs Ca
open Lang (ints)
variable{M:ak}[MK M]
section
variable{H0 H:ar}{r b:Nat}{sv bv:AV}{n:No}{ks:List Nat}
def ag4{lines line:Int}{c:Ca}(h:CI lines c):0<=(c.drop line).2.line:=by
 unfold Ca.drop;cases hp:c.lM line 0 with
 |none=>exact xW _
 |some i =>
  rw[sJ]at hp;obtain⟨a,d,e,hl,-⟩:=h.bt hp
  grind
end
end Go.Am
namespace Go.Am
open Go.Proofs Ca
open Lang (ints)
variable{M:ak}[MK M]
structure Bd(n n':No):Prop where
 bk:n'.aQ.length<=n.aQ.length+1
 us:n'.c.us<=n.c.us+2
section
variable{n:No}
def ZR(n:No)(x:En):(n.gone x).1.aQ.length<=n.aQ.length+1/\(n.gone x).1.c=n.c:=by
 unfold No.gone
 grind
def xfw(n:No)(m:Mg)(st:Int):(n.dX m st).1.aQ.length<=n.aQ.length+1/\(n.dX m st).1.c.us<=n.c.us+1:=by
 have h:=(VE n.c m.line st m.d).2;unfold No.dX;split
 .obtain ⟨a,b⟩:=ZR {n with c:=(n.c.fill m.line st m.d).1} (n.c.fill m.line st m.d).2.1
  grind
 .exact ⟨jy _,by show(n.c.fill m.line st m.d).1.us<=_;omega⟩
def Hm(n:No)(m:Mg):Bd n (n.fill m).1:=by
 unfold No.fill;generalize(if m.k=15 then(2:Int)else 1)=st;unfold No.mF;split
 .obtain ⟨a,b⟩:=xfw (n.iJ 3) m st;have e:(n.iJ 3).c.us=n.c.us:=rfl;exact⟨a,by omega⟩
 .obtain ⟨a,b⟩:=xfw n m st;exact⟨a,by omega⟩
theorem Bd.refl(n:No):Bd n n:=⟨by omega,by omega⟩
theorem ZO(n:No)(k line:Int):Bd n (n.ask k line).1:=by
 unfold No.ask;split
 .exact Bd.refl n
 .exact ⟨jy _,by show n.c.us<=_;omega⟩
def Hg(n:No)(m:Mg):Bd n (n.bP m).1:=by
 unfold No.bP;split
 .exact Bd.refl n
 split
 .exact ⟨by grind [Ib],by show(Ca.drop _ _).1.us<=_;rw[(Nu ..).2,(Ib _ B4).2.2.2];omega⟩
 split
 .cases n.c.find m.line with
  |none=>exact Bd.refl n
  |some x =>
   show Bd n (Prod.fst (if m.k=12 then _ else _));split
   .exact ⟨by grind [Ib],by show(Ca.cX _ _).1.us<=_;rw[(fu ..).2,(Ib _ B2).2.2.2];omega⟩
   .exact ⟨by grind [Ib],by show(Ca.drop _ _).1.us<=_;rw[(Nu ..).2,(Ib _ B4).2.2.2];omega⟩
 split
 .exact ⟨by grind,by show n.c.us<=_;omega⟩
 .cases n.c.find m.line with
  |some x=>exact⟨jy _,by show(n.c.cO m.line m.d).us<=_;rw[(va ..).2];omega⟩
  |none =>
   obtain⟨a,b⟩:=Hm {n with out:=⟨0,0,0,.zero⟩} m;exact⟨a,b⟩
def Hu(n:No)(line:Int):Bd n (n.cS line).1:=by
 unfold No.cS;split
 .exact Bd.refl n
 .cases n.c.find line with
  |none=>exact Bd.refl n
  |some x =>
   have e:∀n':No,n'.aQ=n.aQ->n'.c.us=n.c.us->Bd n (No.gone {n' with c:=(n'.c.drop line).1} (n'.c.drop line).2).1:=λ n' e1 e2=>by
    obtain⟨a,b⟩:=ZR {n' with c:=(n'.c.drop line).1} (n'.c.drop line).2;refine⟨by grind,?_⟩;rw[b];show(n'.c.drop line).1.us<=_
    grind [Nu]
   show Bd n (No.gone _ _).1
   by_cases q:(x.r ||x.w)=B4
   .simp only[xg q];exact e (n.iJ 4) rfl rfl
   grind
def Gu(n:No)(a:Int):Bd n (n.load a).1:=by
 unfold No.load;split
 .cases n.c.find (No.ln a)with
  |none=>exact ZO ..
  |some x =>
   refine⟨jy _,?_⟩;show((if n.live=B4 then n.c.mark (No.ln a) B2 else n.c).word a.toNat).1.us<=_;have d:=(Q0 (if n.live=B4 then n.c.mark (No.ln a) B2 else n.c) a.toNat).2;have e:(if n.live=B4 then n.c.mark (No.ln a) B2 else n.c).us=n.c.us:=by split;exact(SL ..).1;rfl
   omega
 .exact Bd.refl n
def ah1(n:No)(a y:Int):Bd n (n.store a y).1:=by
 unfold No.store;split
 .split
  .refine ⟨jy _,?_⟩;show((if n.live=B4 then n.c.mark (No.ln a) B4 else n.c).put a.toNat y).us<=_;have d:=(TF (if n.live=B4 then n.c.mark (No.ln a) B4 else n.c) a.toNat y).2;have e:(if n.live=B4 then n.c.mark (No.ln a) B4 else n.c).us=n.c.us:=by split;exact(SL ..).1;rfl
   omega
  grind [ZO]
 .exact Bd.refl n
def Mj(n:No)(a o y:Int):Bd n (n.ny a o y).1:=by
 unfold No.ny;split
 .split
  .exact Bd.refl n
  .split
   .refine ⟨jy _,?_⟩;have d:=(Q0 n.c a.toNat).2;show(if(n.c.word a.toNat).2.getD 0=o then(n.c.word a.toNat).1.put a.toNat y else(n.c.word a.toNat).1).us<=_
    grind [TF]
   grind [ZO]
 .exact Bd.refl n
end
def pz(core lines s w:Int):No:=⟨core,lines,pC s.toNat w.toNat,⟨0,0,0,.zero⟩,[],B2,0⟩
def wE(core lines cores s w:Int):Prop:=sN s w/\0<=core/\core<cores/\cores<=4/\2<=lines/\lines<=64
def ah4{core lines cores s w:Int}(h:wE core lines cores s w):(pz core lines s w).NI:=by
 obtain⟨⟨a,b,c,d⟩,-⟩:=h;exact⟨ag2 lines (by omega) (by omega),λ _=>xes s.toNat w.toNat⟩
def eB(lines cores s w:Int):List AV:=[.int .i64 lines,.int .i64 cores,.int .i64 s,.int .i64 w]
def W4(core lines:Int)(b:Nat)(s w:Int):Op.build [.int .i64 0,.int .i64 0,.nilp,.int .i64 0,.int .i64 0,.int .i64 0,.int .u64 0,.int .u64 0,.int .u64 0,.int .u64 0,.int .u64 0,.int .u64 0,.int .u64 0,.int .u64 0,.nils,.bool B2,.int .i64 0] [(0,1),(1,1),(2,1)] [.int .i64 core,.int .i64 lines,.ptr b 0]=B1 (.agg (rQ (pz core lines s w) b .nils)):=rfl
def ag1(H:ar)(core lines cores s w:Int)(v:AV)(H':ar):Prop:=(¬wE core lines cores s w/\v=.tuple [.nilp,.int .i64 2]/\Fr Em H H')\/wE core lines cores s w /\ ∃r b sv,v=.tuple [.ptr r 0,.int .i64 0]/\dc H H' r b sv .nils (pz core lines s w) []
def xcf{H:ar}(core lines cores s w:Int):zb M YR [.int .i64 core,.agg (eB lines cores s w)] H (ag1 H core lines cores s w):=by
 refine xig ?_;obtain⟨w0,w4,p⟩:=xih M ⟨B5,YR⟩;obtain⟨H1,e1,z,n1,l⟩:=cD H (OR (eB lines cores s w) AB);have l2:Op.ae [.ptr H.au 2] H1=B1 (.int .i64 s):=x9 (xb l) 2;have l3:Op.ae [.ptr H.au 3] H1=B1 (.int .i64 w):=x9 (xb l) 3;simp only[aa,bc,w0,<-e1,l2,l3];refine C3.q (xh5 (M:=M) s w) λ v f⟨t,h⟩=>?_;have x:f.get H.au=B1 (OR (eB lines cores s w) AB):=by rw[t.ah _ (by omega) id];exact l
 have l0:Op.ae [.ptr H.au 0] f=B1 (.int .i64 lines):=x9 (xb x) 0;have l1:Op.ae [.ptr H.au 1] f=B1 (.int .i64 cores):=x9 (xb x) 1;have e:Fr Em H f:=z.trans t λ _ q=>q.elim;have C:¬(2:Int)=0:=by decide
 have E:=qy (show(0:Int)=0 from rfl);rcases h with⟨hn,h⟩|⟨ho,b,sv,h,m,hb,hs⟩
 .rw [h];simp only[aa,bc,xf,w4,C];exact .inl ⟨λ q=>hn q.1,rfl,e⟩
 rw[h]
 by_cases g:core<0
 .simp only[aa,bc,xf,w4,g];exact .inl ⟨λ q=>by have:=q.2.1;omega,rfl,e⟩
 by_cases i:cores<=core
 .simp only[aa,bc,xf,w4,g,l1,i];exact .inl ⟨λ q=>by have:=q.2.2.1;omega,rfl,e⟩
 by_cases j:4<cores
 .simp only[aa,bc,xf,w4,g,l1,i,j];exact .inl ⟨λ q=>by have:=q.2.2.2.1;omega,rfl,e⟩
 by_cases o:lines<2
 .simp only[aa,bc,xf,w4,g,l1,i,j,l0,o];exact .inl ⟨λ q=>by have:=q.2.2.2.2.1;omega,rfl,e⟩
 by_cases y:64<lines
 .simp only[aa,bc,xf,w4,g,l1,i,j,l0,o,y];exact .inl ⟨λ q=>by have:=q.2.2.2.2.2;omega,rfl,e⟩
 obtain⟨D,k,u,-,-⟩:=cD f (OR (rQ (pz core lines s w) b .nils) Qa);simp only[aa,bc,xf,w4,g,l1,i,j,l0,o,y,p,W4 core lines b s w,<-k];have A:=m.lt;have B:aE sv<f.au:=m.sl.lt;refine .inr ⟨⟨ho,by omega,by omega,by omega,by omega,by omega⟩,f.au,b,sv,rfl,⟨by rw[k,xm],by rw[k,xx];omega,m.em u,⟨.inl ⟨rfl,rfl⟩,e.trans u λ _ q=>q.elim⟩,rfl,e.au,by omega,by omega,by omega,by omega,λ q=>q.1 rfl,λ q=>q.1 rfl,λ q=>q.1 rfl,⟨by show 2<=lines;omega,by show lines<=64;omega⟩,?_⟩⟩;show(JK (s.toNat*w.toNat) En.zero).length<=40;rw[jc];obtain⟨a,b,c,d⟩:=ho;have:=Nat.mul_le_mul (show s.toNat<=8 by omega) (show w.toNat<=4 by omega);omega
end Go.Am
