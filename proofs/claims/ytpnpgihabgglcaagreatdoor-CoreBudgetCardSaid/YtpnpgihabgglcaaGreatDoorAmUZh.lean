import Derived.Test.YtpnpgihabgglcaaGreatDoorAmUZf
import Derived.Test.YtpnpgihabgglcaaGreatDoorAmUZg
set_option linter.defProp false
set_option linter.unusedVariables false
set_option linter.unusedSimpArgs false
set_option linter.unusedSectionVars false
set_option maxRecDepth 100000
open Nat renaming reduceEqDiff→bc
namespace Go.Am
open Go.Proofs Ca
open Lang (ints)
variable{M:ak}[MK M]
def po(ks:List Nat)(z:Int):Int:=match dq (λ i=>(ks[i]?.getD 0:Int) == z) ks.length with
 |some i=>i
 |none=>-1
section
variable{H H0:ar}{v:AV}{ks:List Nat}
def Rk(h:dU gP 1 H v ks){i:Nat}(c:i<ks.length):Op.aO 1 [v,.int .i64 (i:Int)]=some (.ptr (aH v) (cG 1 v i))/\Op.ae [.ptr (aH v) (cG 1 v i)] H=some (.int .i64 (ks[i]?.getD 0:Nat)):=by
 have a:ks[i]? = some ks[i]:=by simp[c]
 refine⟨h.idx a rfl .i64,?_⟩;rw[h.lT Dn a (by decide),a];rfl
def xf1(h:dU gP 1 H v ks)(hl:ks.length<=1000000)(z:Int):za M U0 [v,.int .i64 z] H λ r H'=>r=.int .i64 (po ks z)/\H'=H:=by
 refine quh ?_;obtain⟨w0,p,j,l,d,g⟩:=qui M ⟨none,U0⟩;simp only[aa,bc,w0,p,h.len];refine de.intro (λ n E m=>∃i:Nat,E=[(8,.int .i64 (i:Int)),(7,.int .i64 ((ks.length:Nat):Int)),(0,v),(1,.int .i64 z)]/\n=ks.length-i/\i<=ks.length/\m=H /\ ∀k,k<i->((ks[k]?.getD 0:Int) == z)=false) ?_ ?_
 .exact ⟨_,_,⟨0,rfl,rfl,xy _,rfl,λ k hk=>by omega⟩,by simp only[aa,bc]⟩
 rintro n E m ⟨i,rfl,rfl,t,rfl,a⟩;rcases xq i ks.length with c|o
 .have f:(i:Int)<((ks.length:Nat):Int):=by omega
  obtain⟨ix,ld⟩:=Rk h c;have s:aj .i64 ((i:Int)+1)=((i+1:Nat):Int):=by rw[js (by omega) (by omega)];omega
  by_cases q:z=((ks[i]?.getD 0:Nat):Int)
  .simp only[aa,bc,l,f,d,ix,ld,xb q];unfold po;rw[L3 c (by simp[<-q]) a]
  .simp only[aa,bc,l,f,d,ix,ld,q,g,s];refine⟨_,_,⟨i+1,rfl,rfl,by omega,λ k hk=>?_⟩,by simp only[aa,bc],by omega⟩
   by_cases e:k=i
   .rw [e];simpa using λ w=>q w.symm
   .exact a k (by omega)
 .have f:¬(i:Int)<((ks.length:Nat):Int):=by omega
  have e:i=ks.length:=by omega
  subst e;simp only[aa,bc,l,f,j];unfold po;rw[Mp a]
def GP{z:Int}:0<=po ks z↔z∈ints ks:=by
 unfold po;cases c:dq (λ i=>(ks[i]?.getD 0:Int) == z) ks.length with
 |some i =>
  obtain⟨a,b,-⟩:=Lf c;refine⟨λ _=>?_,λ _=>by show(0:Int)<=(i:Nat);omega⟩;have f:ks[i]? = some ks[i]:=by simp[a]
  rw[f]at b;have b:((ks[i]:Nat):Int)=z:=by simpa using b
  rw[<-b];exact FE.2 ⟨ks[i],x9 f,rfl⟩
 |none =>
  refine⟨λ q=>by have q:(0:Int) <= -1:=q;omega,λ q=>?_⟩;exfalso;obtain⟨k,hk,e⟩:=FE.1 q;obtain⟨i,d⟩:=Ks hk;have:=Yf c i (qk.1 d).1;rw[d]at this;have e:((k:Nat):Int)=z:=e;simp[e]at this
def ZT(h:dU gP 1 H v ks)(hl:ks.length<=1000000)(z:Int):za M Y9 [v,.int .i64 z] H λ r H'=>r=.bool (decide (z∈ints ks))/\H'=H:=by
 refine qp5 ?_;simp only[aa,bc,qp6];refine C3.q (xf1 (M:=M) h hl z) λ r H1⟨hr,a⟩=>?_;rw[hr,a];simp only[aa,bc];exact congrArg AV.bool (decide_eq_decide.2 GP)
def Yn{t:Nat}{line:Int}(x:Int)(hl:Op.ae [.ptr t 2] H=some (.int .i64 line)):za M Vu [.int .i64 x,.ptr t 0] H λ r H'=>r=.bool (decide (x=line))/\H'=H:=by
 refine qua ?_
 by_cases q:x=line
 .simp only[aa,bc,qlh,hl,xb q]
 .simp only[aa,bc,qlh,hl,q]
abbrev Fu(t:Nat):AV:=.fn (.func Vu) [] [.ptr t 0]
def xcd{t:Nat}{line:Int}(hl:Op.ae [.ptr t 2] H=some (.int .i64 line))(h:dU gP 1 H v ks)(hk:ks.length<=1000000):za M TT [v,Fu t] H λ r H'=>r=.int .i64 (po ks line)/\H'=H:=by
 refine qoq ?_;obtain⟨w0,s,j,m,f,g⟩:=qor M ⟨none,TT⟩;simp only[aa,bc,w0,s,h.len];refine de.intro (λ n E l=>∃i:Nat,E=[(8,.int .i64 (i:Int)),(7,.int .i64 ((ks.length:Nat):Int)),(0,v),(1,Fu t)]/\n=ks.length-i/\i<=ks.length/\l=H /\ ∀k,k<i->((ks[k]?.getD 0:Int) == line)=false) ?_ ?_
 .exact ⟨_,_,⟨0,rfl,rfl,xy _,rfl,λ k hk=>by omega⟩,by simp only[aa,bc]⟩
 rintro n E l ⟨i,rfl,rfl,w,rfl,a⟩;rcases xq i ks.length with c|o
 .have d:(i:Int)<((ks.length:Nat):Int):=by omega
  obtain⟨ix,ld⟩:=Rk h c;have u:aj .i64 ((i:Int)+1)=((i+1:Nat):Int):=by rw[js (by omega) (by omega)];omega
  simp only[aa,bc,m,d,f,ix,ld];refine C3.q (Yn (M:=M) _ hl) λ r H1⟨hr,p⟩=>?_;rw[hr,p]
  by_cases q:((ks[i]?.getD 0:Nat):Int)=line
  .simp only[aa,bc,q];unfold po;rw[L3 c (by simp[q]) a]
  .simp only[aa,bc,q,g,u];refine⟨_,_,⟨i+1,rfl,rfl,by omega,λ k hk=>?_⟩,by simp only[aa,bc],by omega⟩
   by_cases e:k=i
   .rw [e];simpa using q
   .exact a k (by omega)
 .have d:¬(i:Int)<((ks.length:Nat):Int):=by omega
  have e:i=ks.length:=by omega
  subst e;simp only[aa,bc,m,d,j];unfold po;rw[Mp a]
def xiu(ks:List Nat)(rest:List AV){i:Nat}(a:i<ks.length)(y:Nat):(ks.flatMap gP++rest).take i ++ [AV.int .i64 (y:Int)]++(ks.flatMap gP++rest).drop (i+1)=(ks.set i y).flatMap gP++rest:=by
 have hl:=uh ks;rw[jw (by omega),yn (by omega),<-zm];congr 1;rw[Lr,Lr,List.map_set,List.set_eq_take_append_cons_drop,qr (by rw[xp];exact a)];simp
def mg.yK{e:Nat}(h:mg e H0 H v ks){i:Nat}(a:i<ks.length)(y:Nat):∃H',Op.store 1 [.ptr (aH v) (cG 1 v i),.int .i64 (y:Int)] H=some (.undef,H')/\mg e H0 H' v (ks.set i y)/\Fr (aW v) H H':=by
 rcases h.own with⟨rfl,rfl⟩|⟨b,m,rest,rfl,f,c,g,j⟩
 .simp at a
 .have st:=q4h j (o:=i) (n:=1) (v:=.int .i64 (y:Int)) rfl (by rw[qv,uh];omega) rfl;have d:AV.cells (.int .i64 (y:Int))=[.int .i64 (y:Int)]:=rfl;rw[d,xiu ks rest a]at st;have ho:cG 1 (AV.gslice b 0 m 1 0 ks.length) i=i:=by simp[cG]
  rw[ho];refine⟨_,st,⟨.inr ⟨b,m,rest,by rw[xg],f,c,by rw[xg];exact g,xc ..⟩,h.fr.set (.inr c) _⟩,(Fr.refl H).set (W:=aW (AV.gslice b 0 m 1 0 ks.length)) (.inl ⟨by simp,rfl⟩) _⟩
def Ry:∀n:Nat,fq n [AV.int .i64 0]=(List.replicate n 0).flatMap gP
 |0=>rfl
 |n+1=>by rw[fq,Qp,ju,<-Ry n];rfl
def mg.pQ{e:Nat}(h:mg e H0 H v ks){k:Nat}(hk:k<=ks.length):∃v2 H',Op.aL 1 [some 0,none,none] [v,.int .i64 (k:Int)]=some v2/\Op.bS [.int .i64 0] [v2] H=some (.tuple [],H')/\mg e H0 H' v (ks.take k++List.replicate (ks.length-k) 0)/\Fr (aW v) H H':=by
 rcases h.own with⟨rfl,rfl⟩|⟨b,m,rest,rfl,A,u,E,B⟩
 .have:k=0:=by simpa using hk
  subst this;have i:bound none 0 0=some 0:=rfl;refine⟨.nils,H,by simp only[Op.aL,arg,lR,jm,qm,eN,i];rfl,rfl,h,Fr.refl _⟩
 .have s:∀n,Nat.beq n n=true:=λ n=>by simp
  have g:∀d m,bound none d m=some d:=λ _ _=>rfl;refine⟨.gslice b (0+k) m 1 (cond (Nat.beq k 0) 0 (0*1)) (ks.length-k),?_⟩;have sl:Op.aL 1 [some 0,none,none] [AV.gslice b 0 m 1 0 ks.length,.int .i64 (k:Int)]=some (.gslice b (0+k) m 1 (cond (Nat.beq k 0) 0 (0*1)) (ks.length-k)):=by
   simp only[Op.aL,arg,lR,jm,qm,eN,g,wA (z:=(k:Int)) (k:=k) rfl hk .i64,s,y9 (show ks.length<=m-0 by omega),y9 (xy m),jk,xm]
  have hle:(ks.take k).length=k:=by rw[j6];omega
  by_cases p:ks.length-k=0
  .refine ⟨H,sl,?_,?_,Fr.refl _⟩
   .rw [p];rfl
   .have w:ks.take k++List.replicate (ks.length-k) 0=ks:=by rw[p,List.replicate_zero,ze,zg (by omega)]
    rw[w];exact h
  .have l:eY (.gslice b (0+k) m 1 (cond (Nat.beq k 0) 0 (0*1)) (ks.length-k))=some (ks.length-k):=rfl;have f:Nat.beq (ks.length-k) 0=false:=by cases t:Nat.beq (ks.length-k) 0 with|false=>rfl|true=>rw[jh]at t;exact absurd t p
   have j:Nat.blt 0 (ks.length-k)=true:=by unfold Nat.blt;exact y9 (by omega)
   have a:Nat.blt (0+k+0) m=true:=by unfold Nat.blt;exact y9 (by omega)
   have he:elemAt 1 (.gslice b (0+k) m 1 (cond (Nat.beq k 0) 0 (0*1)) (ks.length-k)) 0=some (b,(0+k)*1+0*1):=by
    simp only[elemAt,j,s,a,jk,xm]
   have o:H.store b ((0+k)*1+0*1) (fq (ks.length-k) [.int .i64 0])=some (H.set b (.grown m 1 ((ks.take k++List.replicate (ks.length-k) 0).flatMap gP++rest) e (0,0))):=by
    have ha:aJ (fq (ks.length-k) [AV.int .i64 0])=true:=by
     rw[Ry,yj,Lr];simp[av]
    have y:dY (0,0) ((0+k)*1+0*1) (cQ (fq (ks.length-k) [AV.int .i64 0]))=true:=by simp[dY]
    simp only[ar.store,ha,xm,B,y,Ep];have c:(fq (ks.length-k) [AV.int .i64 0]).length=ks.length-k:=by rw[Ry,uh,zr]
    have x:(0+k)*1+0*1=k:=by omega
    have C:(ks.flatMap gP++rest).take k=(ks.take k).flatMap gP:=by
     rw[jw (by rw[uh];exact hk),Lr,Lr,List.map_take]
    have D:(ks.flatMap gP++rest).drop (k+(ks.length-k))=rest:=by
     rw[show k+(ks.length-k)=(ks.flatMap gP).length by rw[uh];omega,List.drop_left]
    rw[x,qr (by rw[c,qv,uh];omega),qm,c,C,D,Ry,<-kq]
   refine⟨H.set b (.grown m 1 ((ks.take k++List.replicate (ks.length-k) 0).flatMap gP++rest) e (0,0)),sl,?_,⟨.inr ⟨b,m,rest,?_,A,u,?_,xc ..⟩,h.fr.set (.inr u) _⟩,(Fr.refl H).set (W:=aW (AV.gslice b 0 m 1 0 ks.length)) (.inl ⟨by simp,rfl⟩) _⟩
   .have q:[AV.int .i64 0].length=1:=rfl;simp only[Op.bS,l,qm,f,zj,q,he,o]
   .rw [qv,hle,zr];congr 1;omega
   .rw [qv,hle,zr];omega
def xM(ks:List Nat)(line:Int):List Nat:=ks.filter λ k=>((k:Nat):Int) != line
def xb1{t:Nat}{line:Int}{e:Nat}(hl:∀{m:ar},Fr (aW v) H m->Op.ae [.ptr t 2] m=some (.int .i64 line))(h:mg e H0 H v ks)(hk:ks.length<=1000000) :
 za M VF [v,Fu t] H λ r H'=>mg e H0 H' r (xM ks line)/\Fr (aW v) H H' /\ ∀x,aW r x->aW v x:=by
 refine qnk ?_;obtain⟨w0,w4,P,R,B,Q,C⟩:=qnl M ⟨none,VF⟩;simp only[aa,bc,w0];refine C3.q (xcd (M:=M) (hl (Fr.refl _)) h.sl hk) λ r H1⟨hr,J⟩=>?_;rw[hr,J];cases F:dq (λ i=>(ks[i]?.getD 0:Int) == line) ks.length with
 |none =>
  have I:po ks line = -1:=by unfold po;rw[F]
  have Z:xM ks line=ks:=by
   unfold xM;rw[List.filter_eq_self];intro k p;obtain⟨i,o⟩:=Ks p;have:=Yf F i (qk.1 o).1;rw[o]at this
   simpa using this
  rw[I,Z];have S:=xb (show(-1:Int) = -1 from rfl);simp only[aa,bc,w4];exact⟨h,Fr.refl _,λ x q=>q⟩
 |some a =>
  obtain⟨U,D,V⟩:=Lf F;have I:po ks line=(a:Int):=by unfold po;rw[F]
  rw[I];have S:¬(a:Int) = -1:=by omega
  have G:aj .i64 ((a:Int)+1)=((a+1:Nat):Int):=by rw[js (by omega) (by omega)];omega
  -- what is kept of the first ones
  have ah:∀j,(ks.take (j+1)).filter (λ k=>((k:Nat):Int) != line)=(ks.take j).filter (λ k=>((k:Nat):Int) != line)++(match ks[j]? with|none=>[]|some k=>if((k:Nat):Int)=line then[]else[k]):=λ j=>by
   rw[L7,List.filter_append];congr 1;cases ks[j]? with
   |none=>rfl
   |some k=>by_cases q:((k:Nat):Int)=line<;>simp[q]
  have h0:(ks.take a).filter (λ k=>((k:Nat):Int) != line)=ks.take a:=by
   rw[List.filter_eq_self];intro k p;obtain⟨i,o⟩:=Ks p;rw[yf]at o;split at o
   .rename_i w;have:=V i w;rw[o]at this
    simpa using this
   .cases o
  have A:ks[a]? = some ks[a]:=by simp[U]
  have h1:(ks.take (a+1)).filter (λ k=>((k:Nat):Int) != line)=ks.take a:=by
   rw[ah,h0,A];rw[A]at D;have D:((ks[a]:Nat):Int)=line:=by simpa using D
   simp[D]
  simp only[aa,bc,w4,S,P,G];refine de.intro (λ n E m=>∃(i j:Nat)(c:List Nat),E=[(6,.int .i64 (j:Int)),(5,.int .i64 (i:Int)),(0,v),(1,Fu t)]/\n=ks.length-j/\i<j/\j<=ks.length/\c.length=ks.length/\c.take i=(ks.take j).filter (λ k=>((k:Nat):Int) != line)/\c.drop j=ks.drop j/\mg e H0 m v c/\Fr (aW v) H m) ?_ ?_
  .exact ⟨_,_,⟨a,a+1,ks,rfl,rfl,by omega,by omega,rfl,h1.symm,rfl,h,Fr.refl _⟩,by simp only[aa,bc]⟩
  rintro n E m ⟨i,j,c,rfl,rfl,hij,hj,z,g,y,hs,f⟩;have u:=hs.sl.len;rw[z]at u;rcases xq j ks.length with w|hge
  .have O:(j:Int)<((ks.length:Nat):Int):=by omega
   obtain⟨ix,ld⟩:=Rk hs.sl (i:=j) (by omega);obtain⟨N,-⟩:=Rk hs.sl (i:=i) (by omega);have L:c[j]? = ks[j]?:=by
    have:=congrArg (λ l=>l[0]?) y
    simpa[yo]using this
   obtain⟨k,s⟩:∃k,ks[j]? = some k:=⟨ks[j],by simp[w]⟩
   rw[L,s]at ld;have ld:Op.ae [.ptr (aH v) (cG 1 v j)] m=some (.int .i64 (k:Int)):=ld;have G:aj .i64 ((j:Int)+1)=((j+1:Nat):Int):=by rw[js (by omega) (by omega)];omega
   have wi:aj .i64 ((i:Int)+1)=((i+1:Nat):Int):=by rw[js (by omega) (by omega)];omega
   have d:∀l:List Nat,l.drop (j+1)=(l.drop j).drop 1:=λ l=>by rw[Ib]
   simp only[aa,bc,B,u,O,Q,ix,ld];refine C3.q (Yn (M:=M) _ (hl f)) λ r H2⟨hr,J⟩=>?_;rw[hr,J]
   by_cases q:(k:Int)=line
   .simp only[aa,bc,xb q,C,G];exact⟨_,_,⟨i,j+1,c,rfl,rfl,by omega,by omega,z,by rw[ah,s,g];simp[q],by rw[d,y,<-d],hs,f⟩,by simp only[aa,bc],by omega⟩
   .obtain ⟨T,s3,K,f3⟩:=hs.yK (i:=i) (by omega) k;simp only[aa,bc,q,N,s3,wi,C,G];refine⟨_,_,⟨i+1,j+1,c.set i k,rfl,rfl,by omega,by omega,by rw[xg];exact z,?_,?_,K,f.trans f3 λ _ q=>.inl q⟩,by simp only[aa,bc],by omega⟩
    .rw [ah,s,<-g,L7,xr (by omega),List.take_set_of_le (qg i)];simp[q]
    .rw [List.drop_set_of_lt (by omega),d,y,<-d]
  .have O:¬(j:Int)<((ks.length:Nat):Int):=by omega
   have ej:j=ks.length:=by omega
   subst ej;rw[zg (qg _)]at g;obtain⟨v2,T,W,X,Y,c4⟩:=hs.pQ (k:=i) (by omega);obtain⟨v3,d1,d2,d3⟩:=Y.cut (k:=i) (by rw[qv,j6,zr];omega) rfl .i64;have ef:(c.take i++List.replicate (c.length-i) 0).take i=xM ks line:=by
    rw[jw (by rw[j6];omega),List.take_take,Nat.min_self,g];rfl
   rw[ef]at d2;simp only[aa,bc,B,u,O,R,W,X,d1];exact⟨d2,f.trans c4 λ _ q=>.inl q,d3⟩
end
end Go.Am
namespace Go.Am
open Go.Proofs Ca
open Lang (ints)
variable{M:ak}[MK M]
def ao(m:Mg):List AV:=.int .i64 m.k::.int .i64 m.core::.int .i64 m.line::dS m.d
def zi(m:Mg):(ao m).length=11:=by simp[ao,dS,m.d.h]
def rT(m:Mg):aJ (ao m)=true:=by rw[yj];simp[ao,dS,av]
def qV(n:No)(b:Nat)(bv:AV):List AV:=.int .i64 n.core::.int .i64 n.lines::.ptr b 0::(ao n.out ++ [bv,.bool n.live,.int .i64 n.code])
structure cU(H0 H:ar)(r b:Nat)(sv bv:AV)(n:No)(ks:List Nat):Prop where
 row:H.get r=some (OR (qV n b bv) Qa)
 lt:r<H.au
 ca:dP H b sv n.c
 bk:mg cK H0 H bv ks
 eq:n.aK=ints ks
 lr:H0.au<=r
 lb:H0.au<=b
 ls:H0.au<=aH sv
 n1:r≠b
 n2:r≠aH sv
 o1:¬aW bv r
 o2:¬aW bv b
 o3:¬aW bv (aH sv)
 li:2<=n.lines/\n.lines<=64
 len:n.c.sl.length<=40
def iv(r b:Nat)(sv bv:AV):Nat->Prop:=λ x=>x=r\/mF b sv x\/aW bv x
def rA(H0 H:ar)(r b:Nat)(sv bv:AV)(n':No)(H':ar):Prop:=∃bv' ks',cU H0 H' r b sv bv' n' ks'/\Fr (iv r b sv bv) H H' /\ ∀x,aW bv' x->aW bv x\/H.au<=x
section
variable{H0 H:ar}{r b:Nat}{sv bv:AV}{n:No}{ks:List Nat}
def cU.em{H':ar}(h:cU H0 H r b sv bv n ks)(f:Fr Em H H'):cU H0 H' r b sv bv n ks :=
 ⟨by rw[f.ah _ h.lt id];exact h.row,qj h.lt f.au,h.ca.em f,h.bk.em f,h.eq,h.lr,h.lb,h.ls,h.n1,h.n2,h.o1,h.o2,h.o3,h.li,h.len⟩
def cU.same(h:cU H0 H r b sv bv n ks){H':ar}(f:Fr Em H H'):rA H0 H r b sv bv n H':=⟨bv,ks,h.em f,f.mono λ _ _ q=>q.elim,λ x q=>.inl q⟩
def Ex(n:No)(b:Nat)(bv:AV):(qV n b bv)[0]? = some (.int .i64 n.core)/\(qV n b bv)[1]? = some (.int .i64 n.lines)/\(qV n b bv)[2]? = some (.ptr b 0)/\(qV n b bv)[3]? = some (.int .i64 n.out.k)/\(qV n b bv)[14]? = some bv/\(qV n b bv)[15]? = some (.bool n.live)/\(qV n b bv)[16]? = some (.int .i64 n.code)/\((qV n b bv).drop 3).take 11=ao n.out/\(qV n b bv).length=17:=by
 obtain⟨core,lines,c,⟨k,co,l,⟨d,a⟩⟩,aK,live,code⟩:=n
 match d,a with
 |[d0,d1,d2,d3,d4,d5,d6,d7],_=>exact⟨rfl,rfl,rfl,rfl,rfl,rfl,rfl,rfl,rfl⟩
def cU.ld(h:cU H0 H r b sv bv n ks)(k:Nat):Op.ae [.ptr r k] H=(qV n b bv)[k]?:=xz (qy h.row) k
def cU.l0(h:cU H0 H r b sv bv n ks):Op.ae [.ptr r 0] H=some (.int .i64 n.core):=(h.ld 0).trans (Ex n b bv).1
def cU.l1(h:cU H0 H r b sv bv n ks):Op.ae [.ptr r 1] H=some (.int .i64 n.lines):=(h.ld 1).trans (Ex n b bv).2.1
def cU.l2(h:cU H0 H r b sv bv n ks):Op.ae [.ptr r 2] H=some (.ptr b 0):=(h.ld 2).trans (Ex n b bv).2.2.1
def cU.l3(h:cU H0 H r b sv bv n ks):Op.ae [.ptr r 3] H=some (.int .i64 n.out.k):=(h.ld 3).trans (Ex n b bv).2.2.2.1
def cU.ui(h:cU H0 H r b sv bv n ks):Op.ae [.ptr r 14] H=some bv:=(h.ld 14).trans (Ex n b bv).2.2.2.2.1
def cU.ir(h:cU H0 H r b sv bv n ks):Op.ae [.ptr r 15] H=some (.bool n.live):=(h.ld 15).trans (Ex n b bv).2.2.2.2.2.1
def cU.lo(h:cU H0 H r b sv bv n ks):Op.aq 11 [.ptr r 3] H=some (.agg (ao n.out)):=by
 obtain⟨-,-,-,-,-,-,-,e,l⟩:=Ex n b bv;rw[rq (qy h.row) (by rw[l];decide),e]
def cU.put(h:cU H0 H r b sv bv n ks){n':No}{o m:Nat}{u:AV}(hu:u.cells.length=m)(ho:aJ u.cells=true)(hm:o+m<=17)(e:(qV n b bv).take o++u.cells++(qV n b bv).drop (o+m)=qV n' b bv)(a:n'.c=n.c)(hb:n'.aK=n.aK)(hl:n'.lines=n.lines) :
 ∃H',Op.store m [.ptr r o,u] H=some (.undef,H')/\cU H0 H' r b sv bv n' ks/\Fr (On r) H H':=by
 have st:=t9 h.row (o:=o) (n:=m) (v:=u) hu (by rw[(Ex n b bv).2.2.2.2.2.2.2.2];exact hm) ho;rw[e]at st;have f:Fr (On r) H (H.set r (OR (qV n' b bv) Qa)):=(Fr.refl H).set (W:=On r) (.inl rfl) _;refine⟨_,st,⟨xc ..,h.lt,by rw[a];exact h.ca.fr f (λ(q:b=r)=>h.n1 q.symm) (λ(q:aH sv=r)=>h.n2 q.symm),h.bk.uj f (h.bk.fr.set (.inr h.lr) _) (λ x hx(q:x=r)=>h.o1 (q▸hx)),by rw[hb];exact h.eq,h.lr,h.lb,h.ls,h.n1,h.n2,h.o1,h.o2,h.o3,by rw[hl];exact h.li,by rw[a];exact h.len⟩,f⟩
def cU.sm(h:cU H0 H r b sv bv n ks)(q:Bool):∃H',Op.store 1 [.ptr r 15,.bool q] H=some (.undef,H')/\cU H0 H' r b sv bv {n with live:=q} ks/\Fr (On r) H H' :=
 h.put (n':={n with live:=q}) (o:=15) (m:=1) (u:=.bool q) rfl rfl (by decide) (by
  obtain⟨core,lines,c,⟨k,co,l,⟨d,a⟩⟩,aK,live,code⟩:=n
  match d,a with
  |[d0,d1,d2,d3,d4,d5,d6,d7],_=>rfl) rfl rfl rfl
def cU.wR(h:cU H0 H r b sv bv n ks)(k:Int):∃H',Op.store 1 [.ptr r 16,.int .i64 k] H=some (.undef,H')/\cU H0 H' r b sv bv {n with code:=k} ks/\Fr (On r) H H' :=
 h.put (n':={n with code:=k}) (o:=16) (m:=1) (u:=.int .i64 k) rfl rfl (by decide) (by
  obtain⟨core,lines,c,⟨k,co,l,⟨d,a⟩⟩,aK,live,code⟩:=n
  match d,a with
  |[d0,d1,d2,d3,d4,d5,d6,d7],_=>rfl) rfl rfl rfl
def cU.DL(h:cU H0 H r b sv bv n ks)(m:Mg):∃H',Op.store 11 [.ptr r 3,.agg (ao m)] H=some (.undef,H')/\cU H0 H' r b sv bv {n with out:=m} ks/\Fr (On r) H H' :=
 h.put (n':={n with out:=m}) (o:=3) (m:=11) (u:=.agg (ao m)) (by rw[zu];exact zi m) (by rw[zu];exact rT m) (by decide) (by
  obtain⟨core,lines,c,⟨k,co,l,⟨d,f⟩⟩,aK,live,code⟩:=n;obtain⟨k',co',g,⟨e,a⟩⟩:=m
  match d,f,e,a with
  |[d0,d1,d2,d3,d4,d5,d6,d7],_,[e0,e1,e2,e3,e4,e5,e6,e7],_=>rfl) rfl rfl rfl
def cU.ig(h:cU H0 H r b sv bv n ks){c:Ca}{H':ar}(d:dP H' b sv c)(f:Fr (mF b sv) H H')(hl:c.sl.length<=40):cU H0 H' r b sv bv {n with c:=c} ks :=
 ⟨by rw[f.ah _ h.lt (λ q=>q.elim h.n1 h.n2)];exact h.row,qj h.lt f.au,d,h.bk.uj f (h.bk.fr.trans f λ x q=>q.elim (λ q=>.inr (by rw[q];exact h.lb)) λ q=>.inr (by rw[q];exact h.ls)) (λ x a q=>q.elim (λ q=>h.o2 (q▸a)) λ q=>h.o3 (q▸a)),h.eq,h.lr,h.lb,h.ls,h.n1,h.n2,h.o1,h.o2,h.o3,h.li,hl⟩
def rA.of{n':No}{H':ar}{a:List Nat}(h:cU H0 H' r b sv bv n' a)(f:Fr (iv r b sv bv) H H'):rA H0 H r b sv bv n' H':=⟨bv,a,h,f,λ x q=>.inl q⟩
def JT{H1 a:ar}(f:Fr (On r) H1 a):Fr (iv r b sv bv) H1 a:=f.mono λ _ _ q=>.inl q
def vE{H1 a:ar}(f:Fr (mF b sv) H1 a):Fr (iv r b sv bv) H1 a:=f.mono λ _ _ q=>.inr (.inl q)
def mI{H1 a:ar}(f:Fr Em H1 a):Fr (iv r b sv bv) H1 a:=f.mono λ _ _ q=>q.elim
def jI{H1 a c:ar}(f:Fr (iv r b sv bv) H1 a)(g:Fr (iv r b sv bv) a c):Fr (iv r b sv bv) H1 c:=f.trans g λ _ q=>.inl q
def UT(h:cU H0 H r b sv bv n ks)(a:Int):za M UI [.ptr r 0,.int .i64 a] H λ v H'=>v=.int .i64 (if n.may a then 0 else 2)/\H'=H:=by
 refine q3u ?_;obtain⟨w0,e,d⟩:=q3v M ⟨none,UI⟩;have hl:=h.li;have g:aj .i64 (n.lines*8)=n.lines*8:=js (by omega) (by omega)
 by_cases c:a<0
 .have hm:¬n.may a:=λ q=>by have:=q.1;omega
  simp only[aa,bc,w0,e,yq,c];rw[qo hm]
 by_cases f:n.lines*8<=a
 .have hm:¬n.may a:=λ q=>by have:=q.2;omega
  simp only[aa,bc,w0,e,yq,c,qn,h.l1,g,f];rw[qo hm]
 .have hm:n.may a:=⟨by omega,by omega⟩
  simp only[aa,bc,w0,e,yq,c,qn,h.l1,g,f,d];rw[qr hm]
def mZ:[AV.int .i64 0,.int .i64 0,.int .i64 0,.int .u64 0,.int .u64 0,.int .u64 0,.int .u64 0,.int .u64 0,.int .u64 0,.int .u64 0,.int .u64 0]=ao ⟨0,0,0,.zero⟩:=rfl
def SA(k co l:Int):Op.build (ao ⟨0,0,0,.zero⟩) [(0,1),(1,1),(2,1)] [.int .i64 k,.int .i64 co,.int .i64 l]=some (.agg (ao ⟨k,co,l,.zero⟩)):=rfl
def El(h:cU H0 H r b sv bv n ks)(k line:Int):za M ZB [.ptr r 0,.int .i64 k,.int .i64 line] H λ v H'=>v=.agg (ao (n.msg k line))/\Fr Em H H':=by
 refine q3w ?_;obtain⟨H1,d,a,-,e⟩:=bX H (OR (ao ⟨0,0,0,.zero⟩) xh);have s1:=gK e (zi _) (zi (n.msg k line)) (rT _);have ld:=fp (xc H1 H.au (OR (ao (n.msg k line)) xh)) (zi _);have c:Op.build (ao ⟨0,0,0,.zero⟩) [(0,1),(1,1),(2,1)] [.int .i64 k,.int .i64 n.core,.int .i64 line]=some (.agg (ao (n.msg k line))):=SA ..;simp only[aa,bc,q3x,mZ,<-d,qn,(h.em a).l0,c,s1,ld];exact a.set (.inr (qg _)) _
def xji(h:cU H0 H r b sv bv n ks):za M kn [.ptr r 0] H λ v H'=>v=.bool n.live/\H'=H:=by
 refine qyr ?_;simp only[aa,bc,qys,kX,qn,h.ir]
def Hp(h:cU H0 H r b sv bv n ks)(k:Int):za M Z4 [.ptr r 0,.int .i64 k] H λ _ H'=>cU H0 H' r b sv bv (n.iG k) ks/\Fr (iv r b sv bv) H H':=by
 refine qv8 ?_;simp only[aa,bc,qv9,qn,h.l2];refine C3.q (q9q (M:=M) h.ca h.len) λ _ H1⟨g,d⟩=>?_;have a:=h.ig g d (by show(n.c.sl.map back).length<=40;rw[xp];exact h.len);obtain⟨m,s2,i,e⟩:=a.sm false;obtain⟨o,l,j,f⟩:=i.wR k;simp only[aa,bc,qn,s2,l];exact⟨j,jI (jI (vE d) (JT e)) (JT f)⟩
def xe7(h:cU H0 H r b sv bv n ks)(k:Int):za M WD [.ptr r 0,.int .i64 k] H λ v H'=>v=.int .i64 (n.abort k).2/\cU H0 H' r b sv bv (n.abort k).1 ks/\Fr (iv r b sv bv) H H':=by
 refine qv1 ?_;obtain⟨w0,e,i,c⟩:=qv2 M ⟨none,WD⟩;have ir:=h.ir;cases hl:n.live with
 |false =>
  have a:n.abort k=(n,40):=by unfold No.abort;rw[hl];rfl
  rw[hl]at ir;rw[a];simp only[aa,bc,w0,e,yq,qn,ir];exact⟨h,Fr.refl _⟩
 |true =>
  rw[hl]at ir
  by_cases d:k<1
  .have a:n.abort k=(n,2):=by unfold No.abort;rw[hl,qr rfl,qr (.inl d)]
   rw[a];simp only[aa,bc,w0,e,yq,qn,ir,c,d];exact⟨h,Fr.refl _⟩
  by_cases g:7<k
  .have a:n.abort k=(n,2):=by unfold No.abort;rw[hl,qr rfl,qr (.inr g)]
   rw[a];simp only[aa,bc,w0,e,yq,qn,ir,c,d,g];exact⟨h,Fr.refl _⟩
  have a:n.abort k=(n.iG k,0):=by unfold No.abort;rw[hl,qr rfl,qo (by omega)]
  rw[a];simp only[aa,bc,w0,e,yq,qn,ir,c,d,g,i];refine C3.q (Hp (M:=M) h k) λ _ H1⟨f,j⟩=>?_;simp only[aa,bc];exact⟨f,j⟩
end
end Go.Am
namespace Go.Am
open Go.Proofs Ca
open Lang (ints)
variable{M:ak}[MK M]
def mf(H H':ar)(v:AV)(ms:List Mg):Prop:=dU ao 11 H' v ms/\(ms≠[]->H.au<=aH v)
def mf.nil(H H':ar):mf H H' .nils []:=⟨⟨rfl,rfl⟩,λ q=>absurd rfl q⟩
def zD(m:Mg):Op.buildSlice xh 1 (ao ⟨0,0,0,.zero⟩) [(0,11)] [.agg (ao m)]=some (OR (ao m) xh,Op.sliceTo 1 1):=XA xh 11 (ao ⟨0,0,0,.zero⟩) (.agg (ao m)) (zi _) (by rw[zu];exact zi m)
def Jn{H:ar}(m:Mg):gB ao xh 11 (H.alloc (OR (ao m) xh)) (Op.sliceTo 1 1 H.au) [m]:=⟨H.au,rfl,by rw[xx];omega,by rw[xf];simp⟩
def Kb{H H0:ar}(m:Mg)(h:H0.au<=H.au):mf H0 (H.alloc (OR (ao m) xh)) (Op.sliceTo 1 1 H.au) [m]:=⟨(Jn m).sl zi,λ _=>h⟩
section
variable{H0 H:ar}{r b:Nat}{sv bv:AV}{n:No}{ks:List Nat}
def cU.kl(h:cU H0 H r b sv bv n ks):n.aK.length=ks.length:=by rw[h.eq];unfold ints;rw[xp]
def Wl(h:cU H0 H r b sv bv n ks)(hk:n.aK.length<=900000)(k line:Int):za M Xh [.ptr r 0,.int .i64 k,.int .i64 line] H λ v H'=>mf H H' v (n.ask k line).2/\cU H0 H' r b sv bv (n.ask k line).1 ks/\Fr (iv r b sv bv) H H':=by
 refine q3s ?_;obtain⟨w0,m,i⟩:=q3t M ⟨none,Xh⟩;have s:=h.kl
 by_cases d:n.out.k=0
 .simp only[aa,bc,w0,m,qn,h.l3,xb d,h.ui];refine C3.q (ZT (M:=M) h.bk.sl (by omega) line) λ v H1⟨g,p⟩=>?_;rw[g,p,<-h.eq]
  by_cases e:line∈n.aK
  .have a:n.ask k line=(n,[]):=by unfold No.ask;rw[qr (.inr e)]
   rw[a];simp only[aa,bc,xb e];exact⟨mf.nil ..,h,Fr.refl _⟩
  .have a:n.ask k line=({n with out:=n.msg k line},[n.msg k line]):=by unfold No.ask;rw[qo (λ q=>q.elim (λ q=>q d) e)]
   rw[a];simp only[aa,bc,e,i];refine C3.q (El (M:=M) h k line) λ v u⟨g,j⟩=>?_;rw[g];obtain⟨f,t,l,o⟩:=(h.em j).DL (n.msg k line);have lo:=l.lo;have c:Fr (iv r b sv bv) H f:=jI (mI j) (JT o);simp only[aa,bc,qn,t,lo,mZ,zD];exact⟨Kb _ c.au,l.em ((Fr.refl f).alloc _),jI c (mI ((Fr.refl f).alloc _))⟩
 .have a:n.ask k line=(n,[]):=by unfold No.ask;rw[qr (.inl d)]
  rw[a];simp only[aa,bc,w0,m,qn,h.l3,d];exact⟨mf.nil ..,h,Fr.refl _⟩
def i9{H1:ar}(e:En):Op.store 21 [.ptr H1.au 0,.agg (aB e)] (H1.alloc (OR (aB .zero) xk))=some (.undef,(H1.alloc (OR (aB .zero) xk)).set H1.au (OR (aB e) xk)):=gK (xf ..) (jj _) (jj e) (xO e)
def wO{H1:ar}(o o':bH):Fr Em H1 ((H1.alloc o).set H1.au o'):=((Fr.refl H1).alloc _).set (.inr (qg _)) _
def q6f{line:Int}(h:cU H0 H r b sv bv n ks)(a:CI n.lines n.c):za M nu [.ptr r 0,.int .i64 line] H λ v H'=>v=.bool (n.owned line)/\Fr Em H H':=by
 refine qwa ?_;simp only[aa,bc,qwb,qn,h.l2];refine C3.q (RP (M:=M) h.ca a line) λ v H1⟨g,d⟩=>?_;rw[g];unfold rQ No.owned;cases i:n.c.find line with
 |none =>
  simp only[aa,bc,xe,eZ,i9];exact d.trans (wO _ _) λ _ q=>q.elim
 |some e =>
  have l1:Op.ae [.ptr H1.au 1] ((H1.alloc (OR (aB .zero) xk)).set H1.au (OR (aB e) xk))=some (.int .i64 e.st):=xz (qy (xc ..)) 1;have f:Fr Em H ((H1.alloc (OR (aB .zero) xk)).set H1.au (OR (aB e) xk)):=d.trans (wO _ _) λ _ q=>q.elim
  by_cases q:e.st=2
  .simp only[aa,bc,xe,eZ,i9,l1,xb q];exact⟨by rw[q];rfl,f⟩
  .simp only[aa,bc,xe,eZ,i9,l1,q];exact⟨by simp[q],f⟩
def sZ(H0 H:ar)(r b:Nat)(sv bv:AV)(n:No)(ks:List Nat)(a:Int)(v:AV)(H':ar):Prop:=(∃ov,v=.tuple [.int .u64 (n.load a).2.1,.bool (n.load a).2.2.1,ov,.int .i64 (n.load a).2.2.2.2]/\mf H H' ov (n.load a).2.2.2.1)/\cU H0 H' r b sv bv (n.load a).1 ks/\Fr (iv r b sv bv) H H'
def xjk(h:cU H0 H r b sv bv n ks)(j:CI n.lines n.c)(hk:n.aK.length<=900000)(hu:n.c.us+1<=1000000)(a:Int):za M Nt [.ptr r 0,.int .i64 a] H (sZ H0 H r b sv bv n ks a):=by
 refine qyu ?_;obtain⟨w0,V,G,I,z,J⟩:=qyv M ⟨none,Nt⟩;simp only[aa,bc,w0,V];refine C3.q (UT (M:=M) h a) λ v H1⟨y,S⟩=>?_;rw[y,S]
 by_cases hm:n.may a
 case neg =>
  have p:n.load a=(n,0,false,[],2):=by unfold No.load;rw[qo hm]
  have U:¬(2:Int)=0:=by decide
  rw[qo hm];unfold sZ;rw[p];simp only[aa,bc,U];exact⟨⟨.nils,rfl,mf.nil ..⟩,h,Fr.refl _⟩
 rw[qr hm];have hl:=h.li;obtain⟨L,T⟩:=hm;obtain⟨f,rfl⟩:=z4 L;have t:f<1000000:=by omega
 have P:No.ln (Int.ofNat f)=((f / 8:Nat):Int):=rfl;have Z:=xb (show(0:Int)=0 from rfl);simp only[aa,bc,G,AN t,I,qn,h.l2];refine C3.q (RP (M:=M) h.ca j ((f / 8:Nat):Int)) λ v H1⟨y,K⟩=>?_;rw[y];have w:n.may (f:Int):=⟨L,T⟩
 unfold rQ;cases D:n.c.find ((f / 8:Nat):Int)with
 |none =>
  have p:n.load (f:Int)=((n.ask 1 ((f / 8:Nat):Int)).1,0,false,(n.ask 1 ((f / 8:Nat):Int)).2,0):=by
   unfold No.load;rw[qr w];show(match n.c.find ((f / 8:Nat):Int)with|none=>_|some _=>_)=_;rw[D];rfl
  have l:Fr Em H ((H1.alloc (OR (aB .zero) xk)).set H1.au (OR (aB .zero) xk)):=K.trans (wO _ _) λ _ q=>q.elim;simp only[aa,bc,xe,eZ,i9];refine C3.q (Wl (M:=M) (h.em l) hk 1 ((f / 8:Nat):Int)) λ v Y⟨x,hn,o⟩=>?_;unfold sZ;rw[p];simp only[aa,bc];refine⟨⟨v,rfl,x.1,λ q=>xu l.au (x.2 q)⟩,hn,jI (mI l) o⟩
 |some e =>
  obtain⟨i,hp,rfl⟩:=SK D;have l:Fr Em H ((H1.alloc (OR (aB .zero) xk)).set H1.au (OR (aB (n.c.en i)) xk)):=K.trans (wO _ _) λ _ q=>q.elim;obtain⟨Hb,m⟩:∃X,X=(H1.alloc (OR (aB .zero) xk)).set H1.au (OR (aB (n.c.en i)) xk):=⟨_,rfl⟩
  rw[<-m]at l;have hb:=h.em l;have ir:=hb.ir
  -- behind the mark
  have fin:∀{A:ar}{c:Ca},cU H0 A r b sv bv {n with c:=c} ks->CI n.lines c->c.us+1<=1000000->Fr (iv r b sv bv) H A->c=(if n.live then n.c.mark ((f / 8:Nat):Int) false else n.c)->c.pos ((f / 8:Nat):Int)=some i -> ∀{E:Env},lk E 0=some (.ptr r 0)->lk E 1=some (.int .i64 (f:Int)) ->
   W M ⟨none,Nt⟩ (qyt 30) true (fj M [.tmp 4,.tmp 5,.tmp 6,.tmp 7] (ug (sZ H0 H r b sv bv n ks (f:Int)))) E [] A:=by
   intro A c B u F o O g E Q R;have p:n.load (f:Int)=({n with c:=(c.word f).1},(c.word f).2.getD 0,true,[],0):=by
    unfold No.load;rw[qr w];show(match n.c.find ((f / 8:Nat):Int)with|none=>_|some _=>_)=_;rw[D,O];rfl
   simp only[aa,bc,J,Q,qn,B.l2,R];refine C3.q (um (M:=M) B.ca u F t) λ v N⟨y,C,s⟩=>?_;rw[y];have hw:(c.word f).2=some ((c.en i).d.get (f % 8)):=by unfold Ca.word;rw[g]
   unfold wB;rw[g];have hlen:(c.word f).1.sl.length<=40:=by
    have:=B.len;unfold Ca.word;rw[g];show(c.sl.set i _).length<=40;rw[xg];exact this
   have hn:=B.ig C s hlen;unfold sZ;rw[p,hw];simp only[aa,bc,xe];exact⟨⟨.nils,rfl,mf.nil ..⟩,hn,jI o (vE s)⟩
  cases k:n.live with
  |false =>
   rw[k]at ir;simp only[aa,bc,xe,eZ,i9,<-m,z,qn,ir];exact fin (c:=n.c) (by have:({n with c:=n.c}:No)=n:=rfl;rw[this];exact hb) j hu (mI l) (by rw[k];rfl) hp rfl rfl
  |true =>
   rw[k]at ir;simp only[aa,bc,xe,eZ,i9,<-m,z,qn,ir,hb.l2];refine C3.q (xag (M:=M) hb.ca j ((f / 8:Nat):Int) false) λ _ N⟨C,s⟩=>?_;have em:n.c.mark ((f / 8:Nat):Int) false=n.c.set i {n.c.en i with r:=true}:=by unfold Ca.mark;rw[qo (by decide),rE,hp]
   have hlen:(n.c.mark ((f / 8:Nat):Int) false).sl.length<=40:=by rw[em];show(n.c.sl.set i _).length<=40;rw[xg];exact h.len
   have g:(n.c.mark ((f / 8:Nat):Int) false).pos ((f / 8:Nat):Int)=some i:=by
    rw[em];have sh:D8 n.c {n.c.set i {n.c.en i with r:=true}with us:=n.c.us}:=D8.set n.c.us rfl rfl;exact(sh.pos _).trans hp
   simp only[aa,bc];exact fin (c:=n.c.mark ((f / 8:Nat):Int) false) (hb.ig C s hlen) (j.mark _ _) (by rw[em];exact hu) (jI (mI l) (vE s)) (by rw[k];rfl) g rfl rfl
end
end Go.Am
namespace Go.Am
open Go.Proofs Ca
open Lang (ints)
variable{M:ak}[MK M]
section
variable{H0 H:ar}{r b:Nat}{sv bv:AV}{n:No}{ks:List Nat}
def xj1{line:Int}(h:n.owned line=true):∃i,n.c.pos line=some i/\(n.c.en i).st=2:=by
 unfold No.owned at h;cases a:n.c.find line with
 |none=>rw[a]at h;cases h
 |some x =>
  rw[a]at h;obtain⟨i,hp,rfl⟩:=SK a;exact⟨i,hp,by simpa using h⟩
def QM(c:Ca)(line:Int)(wr:Bool):(c.mark line wr).us=c.us/\(c.mark line wr).sl.length=c.sl.length:=by
 unfold Ca.mark;cases wr with
 |true =>
  rw[qr rfl];cases c.kM line 2 with
  |none=>exact⟨rfl,rfl⟩
  |some i =>
   show(if(c.en i).w then c else c.set i _).us=_/\(if(c.en i).w then c else c.set i _).sl.length=_;split
   .exact ⟨rfl,rfl⟩
   .exact ⟨rfl,xg⟩
 |false =>
  rw[qo (by decide)];cases c.kM line 0 with
  |none=>exact⟨rfl,rfl⟩
  |some i=>exact⟨rfl,xg⟩
def Sz(c:Ca)(a:Nat)(y:Int):(c.put a y).sl.length=c.sl.length/\((c.put a y).us=c.us\/(c.put a y).us=c.us+1):=by
 unfold Ca.put;cases c.kM ((a / 8:Nat):Int) 2 with
 |none=>exact⟨rfl,.inl rfl⟩
 |some i=>exact⟨xg,.inr rfl⟩
def Pw(c:Ca)(a:Nat):(c.word a).1.sl.length=c.sl.length/\((c.word a).1.us=c.us\/(c.word a).1.us=c.us+1):=by
 unfold Ca.word;cases c.pos ((a / 8:Nat):Int)with
 |none=>exact⟨rfl,.inl rfl⟩
 |some i=>exact⟨xg,.inr rfl⟩
def qN(H0 H:ar)(r b:Nat)(sv bv:AV)(n:No)(ks:List Nat)(a y:Int)(v:AV)(H':ar):Prop:=(∃ov,v=.tuple [.bool (n.store a y).2.1,ov,.int .i64 (n.store a y).2.2.2]/\mf H H' ov (n.store a y).2.2.1)/\cU H0 H' r b sv bv (n.store a y).1 ks/\Fr (iv r b sv bv) H H'
def xha(h:cU H0 H r b sv bv n ks)(e:CI n.lines n.c)(hk:n.aK.length<=900000)(hu:n.c.us+1<=1000000)(a y:Int):za M OI [.ptr r 0,.int .i64 a,.int .u64 y] H (qN H0 H r b sv bv n ks a y):=by
 refine qv6 ?_;obtain⟨w0,Q,B,C,t,D⟩:=qv7 M ⟨none,OI⟩;simp only[aa,bc,w0,Q];refine C3.q (UT (M:=M) h a) λ v H1⟨x,N⟩=>?_;rw[x,N]
 by_cases hm:n.may a
 case neg =>
  have i:n.store a y=(n,false,[],2):=by unfold No.store;rw[qo hm]
  have P:¬(2:Int)=0:=by decide
  rw[qo hm];unfold qN;rw[i];simp only[aa,bc,P];exact⟨⟨.nils,rfl,mf.nil ..⟩,h,Fr.refl _⟩
 rw[qr hm];have hl:=h.li;obtain⟨F,O⟩:=hm;obtain⟨d,rfl⟩:=z4 F;have m:d<1000000:=by omega
 have p:n.may (d:Int):=⟨F,O⟩
 have j:No.ln (d:Int)=((d / 8:Nat):Int):=rfl;have S:=xb (show(0:Int)=0 from rfl);simp only[aa,bc,B,AN m,C];refine C3.q (q6f (M:=M) (line:=((d / 8:Nat):Int)) h e) λ v H1⟨x,k⟩=>?_;rw[x];have hb:=h.em k;cases ho:n.owned ((d / 8:Nat):Int)with
 |false =>
  have i:n.store (d:Int) y=((n.ask 2 ((d / 8:Nat):Int)).1,false,(n.ask 2 ((d / 8:Nat):Int)).2,0):=by
   unfold No.store;rw[qr p,j,ho];rfl
  simp only[aa,bc];refine C3.q (Wl (M:=M) hb hk 2 ((d / 8:Nat):Int)) λ v R⟨s,hn,g⟩=>?_;unfold qN;rw[i];simp only[aa,bc];exact⟨⟨v,rfl,s.1,λ q=>xu k.au (s.2 q)⟩,hn,jI (mI k) g⟩
 |true =>
  have ir:=hb.ir;have fin:∀{u:ar}{c:Ca},cU H0 u r b sv bv {n with c:=c} ks->CI n.lines c->c.us+1<=1000000->Fr (iv r b sv bv) H u->c=(if n.live then n.c.mark ((d / 8:Nat):Int) true else n.c) -> ∀{E:Env},lk E 0=some (.ptr r 0)->lk E 1=some (.int .i64 (d:Int))->lk E 2=some (.int .u64 y) ->
   W M ⟨none,OI⟩ (qv5 28) true (fj M [.tmp 6,.tmp 7,.tmp 8] (ug (qN H0 H r b sv bv n ks (d:Int) y))) E [] u:=by
   intro u c w o A g I E J K L;have i:n.store (d:Int) y=({n with c:=c.put d y},true,[],0):=by
    unfold No.store;rw[qr p,j,ho,qr rfl,I];rfl
   simp only[aa,bc,D,J,qn,w.l2,K,L];refine C3.q (YF (M:=M) w.ca o A m y) λ v G⟨x,z,l⟩=>?_;have hn:=w.ig z l (by rw[(Sz c d y).1];exact w.len);unfold qN;rw[i];simp only[aa,bc];exact⟨⟨.nils,rfl,mf.nil ..⟩,hn,jI g (vE l)⟩
  cases f:n.live with
  |false =>
   rw[f]at ir;simp only[aa,bc,t,qn,ir];exact fin (c:=n.c) (by have:({n with c:=n.c}:No)=n:=rfl;rw[this];exact hb) e hu (mI k) (by rw[f];rfl) rfl rfl rfl
  |true =>
   rw[f]at ir;simp only[aa,bc,t,qn,ir,hb.l2];refine C3.q (xag (M:=M) hb.ca e ((d / 8:Nat):Int) true) λ _ G⟨z,l⟩=>?_;simp only[aa,bc];exact fin (c:=n.c.mark ((d / 8:Nat):Int) true) (hb.ig z l (by rw[(QM ..).2];exact h.len)) (e.mark _ _) (by rw[(QM ..).1];exact hu) (jI (mI k) (vE l)) (by rw[f];rfl) rfl rfl rfl
def Vw(h:cU H0 H r b sv bv n ks)(x:En)(too:Bool):za M qn4 [.ptr r 0,.agg (aB x),.bool too] H λ _ H'=>cU H0 H' r b sv bv (n.lost x too) ks/\Fr (iv r b sv bv) H H':=by
 refine qy0 ?_;obtain⟨H1,e,a,-,j⟩:=bX H (OR (aB x) xk);have l0:Op.ae [.ptr H.au 0] H1=some (.int .i64 x.line):=xz (qy j) 0;have l2:Op.ae [.ptr H.au 2] H1=some (.bool x.r):=xz (qy j) 2;have l3:Op.ae [.ptr H.au 3] H1=some (.bool x.w):=xz (qy j) 3;have f:=h.em a;have stay:(x.w ||(x.r && too))=false->n.lost x too=n:=λ q=>by unfold No.lost;rw[q];rfl
 have go2:(x.w ||(x.r && too))=true->x.line=0->n.lost x too=n.iG 2:=λ q k=>by unfold No.lost;rw[q,qr rfl,qr k]
 have g:(x.w ||(x.r && too))=true -> ¬x.line=0->n.lost x too=n.iG 1:=λ q k=>by unfold No.lost;rw[q,qr rfl,qo k]
 cases hw:x.w with
 |true =>
  rw[hw]at l3
  by_cases q:x.line=0
  .rw [go2 (by rw[hw];rfl) q];simp only[aa,bc,LS,<-e,l3,l0,xb q];refine C3.q (Hp (M:=M) f 2) λ _ i⟨d,c⟩=>?_;simp only[aa,bc];exact⟨d,jI (mI a) c⟩
  .rw [g (by rw[hw];rfl) q];simp only[aa,bc,LS,<-e,l3,l0,q];refine C3.q (Hp (M:=M) f 1) λ _ i⟨d,c⟩=>?_;simp only[aa,bc];exact⟨d,jI (mI a) c⟩
 |false =>
  rw[hw]at l3;cases hr:x.r with
  |false =>
   rw[hr]at l2;rw[stay (by rw[hw,hr];rfl)];simp only[aa,bc,LS,<-e,l3,l2];exact⟨f,mI a⟩
  |true =>
   rw[hr]at l2;cases too with
   |false =>
    rw[stay (by rw[hw,hr];rfl)];simp only[aa,bc,LS,<-e,l3,l2];exact⟨f,mI a⟩
   |true =>
    by_cases q:x.line=0
    .rw [go2 (by rw[hw,hr];rfl) q];simp only[aa,bc,LS,<-e,l3,l2,l0,xb q];refine C3.q (Hp (M:=M) f 2) λ _ i⟨d,c⟩=>?_;simp only[aa,bc];exact⟨d,jI (mI a) c⟩
    .rw [g (by rw[hw,hr];rfl) q];simp only[aa,bc,LS,<-e,l3,l2,l0,q];refine C3.q (Hp (M:=M) f 1) λ _ i⟨d,c⟩=>?_;simp only[aa,bc];exact⟨d,jI (mI a) c⟩
end
end Go.Am
namespace Go.Am
open Go.Proofs Ca
open Lang (ints)
variable{M:ak}[MK M]
def xF(H H':ar)(v:AV)(ms:List Mg):Prop:=(v=.nils/\ms=[]) \/ ∃m a,v=Op.sliceTo 1 1 a/\ms=[m]/\H.au<=a/\a<H'.au/\H'.get a=some (OR (ao m) xh)
def xF.ms{H H':ar}{v:AV}{ms:List Mg}(h:xF H H' v ms):mf H H' v ms:=by
 rcases h with⟨rfl,rfl⟩|⟨m,a,rfl,rfl,c,d,f⟩
 .exact mf.nil ..
 .exact ⟨gB.sl (e:=xh) zi ⟨a,rfl,d,by rw[f];simp⟩,λ _=>c⟩
def xF.one{H H0:ar}(m:Mg)(h:H0.au<=H.au):xF H0 (H.alloc (OR (ao m) xh)) (Op.sliceTo 1 1 H.au) [m]:=.inr ⟨m,H.au,rfl,rfl,h,by rw[xx];omega,xf ..⟩
section
variable{H0 H:ar}{r b:Nat}{sv bv:AV}{n:No}{ks:List Nat}
def cU.Ir(h:cU H0 H r b sv bv n ks){a:AV}{g:List Nat}{H1:ar}(hs:mg cK H0 H1 a g)(f:Fr (aW bv) H H1)(A:∀x,aW a x->aW bv x\/H.au<=x) :
 ∃j,Op.store 1 [.ptr r 14,a] H1=some (.undef,j)/\cU H0 j r b sv a {n with aK:=ints g} g/\Fr (iv r b sv bv) H j:=by
 have s:=h.ca.lt;have t:aH sv<H.au:=h.ca.sl.lt
 have i:∀x,x<H.au -> ¬aW bv x -> ¬aW a x:=λ x B y q=>(A x q).elim y λ w=>by omega
 have u:H1.get r=some (OR (qV n b bv) Qa):=by rw[f.ah _ h.lt h.o1];exact h.row
 have o1:av a=true:=by have:=Sl.one hs.sl;exact this
 have hu:AV.cells a=[a]:=by
  rcases hs.own with⟨rfl,_⟩|⟨b,m,rest,rfl,_⟩<;>rfl
 have st:=t9 u (o:=14) (n:=1) (v:=a) (by rw[hu];rfl) (by rw[(Ex n b bv).2.2.2.2.2.2.2.2];decide) (by rw[hu];simp[yj,o1]);have e:(qV n b bv).take 14++AV.cells a++(qV n b bv).drop (14+1)=qV n b a:=by
  rw[hu];obtain⟨core,lines,c,⟨k,co,l,⟨d,z⟩⟩,aK,live,code⟩:=n
  match d,z with
  |[d0,d1,d2,d3,d4,d5,d6,d7],_=>rfl
 rw[e]at st;have p:Fr (On r) H1 (H1.set r (OR (qV n b a) Qa)):=(Fr.refl H1).set (W:=On r) (.inl rfl) _;have fn:=f.au
 refine⟨_,st,⟨xc ..,qj h.lt fn,(h.ca.fr f h.o2 h.o3).fr p (λ(q:b=r)=>h.n1 q.symm) (λ(q:aH sv=r)=>h.n2 q.symm),hs.uj p (hs.fr.set (.inr h.lr) _) (λ x hx(q:x=r)=>i r h.lt h.o1 (q▸hx)),rfl,h.lr,h.lb,h.ls,h.n1,h.n2,i _ h.lt h.o1,i _ s h.o2,i _ t h.o3,h.li,h.len⟩,?_⟩;exact(f.mono λ _ _ q=>.inr (.inr q)).trans p λ x q=>.inl (.inl q)
def Da(ks:List Nat)(x:Nat):ints (ks ++ [x])=ints ks ++ [(x:Int)]:=by simp[ints]
def WC(m:Mg)(d:L8):(ao m).take 3++(AV.agg (dS d)).cells++(ao m).drop (3+8)=ao {m with d:=d}:=by
 obtain⟨k,co,l,⟨e,he⟩⟩:=m;obtain⟨d,a⟩:=d
 match e,he,d,a with
 |[d0,d1,d2,d3,d4,d5,d6,d7],_,[e0,e1,e2,e3,e4,e5,e6,e7],_=>rfl
def DZ(x:En):((aB x).drop 4).take 8=dS x.d:=by
 obtain⟨line,st,r,w,⟨d,a⟩,⟨o,ho⟩,u⟩:=x
 match d,a,o,ho with
 |[d0,d1,d2,d3,d4,d5,d6,d7],_,[e0,e1,e2,e3,e4,e5,e6,e7],_=>rfl
def qD(H0 H:ar)(r b:Nat)(sv bv:AV)(a:No×List Mg)(v:AV)(H':ar):Prop:=xF H H' v a.2/\rA H0 H r b sv bv a.1 H'
def YT(h:cU H0 H r b sv bv n ks)(hk:n.aK.length<=900000)(x:En)(S:0<=x.line):za M Wn [.ptr r 0,.agg (aB x)] H (qD H0 H r b sv bv (n.gone x)):=by
 refine qyy ?_;obtain⟨w0,N,E⟩:=qyz M ⟨none,Wn⟩;obtain⟨H1,p,t,-,z⟩:=bX H (OR (aB x) xk);have l0:Op.ae [.ptr H.au 0] H1=some (.int .i64 x.line):=xz (qy z) 0;have l1:Op.ae [.ptr H.au 1] H1=some (.int .i64 x.st):=xz (qy z) 1;have A:=h.em t;have n1:H.au<H1.au:=by rw[p,xx];omega
 by_cases q:x.st=2
 case neg =>
  have s:n.gone x=(n,[]):=by unfold No.gone;rw[qo q]
  rw[s];simp only[aa,bc,w0,<-p,N,l1,q];exact⟨.inl ⟨rfl,rfl⟩,h.same t⟩
 have s:n.gone x=({n with aK:=n.aK ++ [x.line]},[⟨3,n.core,x.line,x.d⟩]):=by unfold No.gone;rw[qr q]
 rw[s];obtain⟨ln,c⟩:=z4 S;rw[c]at l0;simp only[aa,bc,w0,<-p,N,l1,xb q,E,qn,A.ui,l0];have Q:=h.kl;refine A.bk.push (x:=ln) rfl (by omega) (by omega) λ l H2 hs O g=>?_;obtain⟨k,Z,I,u⟩:=A.Ir hs O g;have J:k.get H.au=some (OR (aB x) xk):=by
  rw[u.ah _ n1 ?_];exact z;rintro(q|q|q)
  .have:=h.lt;omega
  .have h4:=h.ca.lt;have h5:aH sv<H.au:=h.ca.sl.lt
   exact q.elim (λ q=>by omega) λ q=>by omega
  .have:=h.bk.fresh _ q;omega
 have W:H.au<k.au:=by have:=u.au;omega
 have l0:Op.ae [.ptr H.au 0] k=some (.int .i64 (ln:Int)):=by rw[<-c];exact xz (qy J) 0
 simp only[aa,bc,Z,l0];refine C3.q (El (M:=M) I 3 (ln:Int)) λ v a⟨R,j⟩=>?_;rw[R];have U:a.get H.au=some (OR (aB x) xk):=by rw[j.ah _ W id];exact J
 obtain⟨m,hm⟩:∃m,m=No.msg {n with aK:=ints (ks ++ [ln])} 3 (ln:Int):=⟨_,rfl⟩
 have B:({m with d:=x.d}:Mg)=⟨3,n.core,x.line,x.d⟩:=by rw[hm,c];rfl
 rw[<-hm];have K:=gK (xf a (OR (ao ⟨0,0,0,.zero⟩) xh)) (zi _) (zi m) (rT _);obtain⟨f,i⟩:∃X,X=(a.alloc (OR (ao ⟨0,0,0,.zero⟩) xh)).set a.au (OR (ao m) xh):=⟨_,rfl⟩
 rw[<-i]at K;have F:Fr Em a f:=by rw[i];exact wO _ _
 have P:f.get a.au=some (OR (ao m) xh):=by rw[i,xc]
 have Y:H.au<a.au:=by have:=j.au;omega
 have V:f.get H.au=some (OR (aB x) xk):=by rw[F.ah _ Y id];exact U
 have C:Op.aq 8 [.ptr H.au 4] f=some (.agg (dS x.d)):=by rw[rq (qy V) (by rw[jj];decide),DZ]
 have L:=t9 P (o:=3) (n:=8) (v:=.agg (dS x.d)) (by rw[zu];exact wn _) (by rw[zi];decide) (by rw[zu];exact xY _);rw[WC,B]at L;have D:=fp (xc f a.au (OR (ao ⟨3,n.core,x.line,x.d⟩) xh)) (zi _);simp only[aa,bc,mZ,K,C,L,D,zD];have n5:f.au=a.au+1:=by rw[i];rfl
 have G:Fr Em a (f.set a.au (OR (ao ⟨3,n.core,x.line,x.d⟩) xh)):=F.set (.inr (qg _)) _;refine⟨xF.one _ (by rw[su];omega),l,ks ++ [ln],?_,?_,?_⟩
 .have e:({n with aK:=ints (ks ++ [ln])}:No) = {n with aK:=n.aK ++ [x.line]}:=by rw[Da,c,h.eq]
  rw[<-e];exact(I.em (j.trans G λ _ q=>q.elim)).em ((Fr.refl _).alloc _)
 .exact ((mI t).trans u λ x q=>.inl q).em ((j.trans G λ _ q=>q.elim).alloc _)
 .exact λ y T=>(g y T).imp id λ w=>by omega
end
end Go.Am
namespace Go.Am
open Go.Proofs Ca
open Lang (ints)
variable{M:ak}[MK M]
def wS(off:Nat)(n:Option Nat)(t rest:aP)(x y:List AV):bj (.part off n t rest) (.agg x) (.agg y)=(partAt x off n).bind λ a=>(partAt y off n).bind λ b=>(bj t a b).bind λ q=>cond q (bj rest (.agg x) (.agg y)) (some false):=rfl
def q6g(x:List AV)(k:Nat):partAt x k none=nth x k:=rfl
def im{k:Nat}{t:aP}{l c:List AV}{K:IntKind}{a b:Int}{P:Prop}[Decidable P](h:nth l k=some (.int K a))(d:nth c k=some (.int K b))(hp:bj t (.agg l) (.agg c)=some (decide P)) :
 bj (.part k none .int t) (.agg l) (.agg c)=some (decide (a=b/\P)):=by
 have q:bj .int (.int K a) (.int K b)=some (decide (a=b)):=by
  have e:sJ K K=true:=by cases K<;>rfl
  simp only[bj,BU,e,xm];rfl
 rw[wS,q6g,q6g,h,d,qm,qm,q,qm,hp]
 by_cases e:a=b
 .simp [e]
 .simp [e]
abbrev Ul:aP:=.part 0 none .int (.part 1 none .int (.part 2 none .int (.part 3 none .int (.part 4 none .int (.part 5 none .int (.part 6 none .int (.part 7 none .int .nil)))))))
def eqL(d e:L8):bj Ul (.agg (dS d)) (.agg (dS e))=some (decide (d=e)):=by
 obtain⟨d,m⟩:=d;obtain⟨e,he⟩:=e
 match d,m,e,he with
 |[d0,d1,d2,d3,d4,d5,d6,d7],_,[e0,e1,e2,e3,e4,e5,e6,e7],_ =>
  rw[im (P:=d1=e1/\d2=e2/\d3=e3/\d4=e4/\d5=e5/\d6=e6/\d7=e7/\True) (a:=d0) (b:=e0) (K:=.u64) rfl rfl (im rfl rfl (im rfl rfl (im rfl rfl (im rfl rfl (im rfl rfl (im rfl rfl (im rfl rfl rfl)))))))];congr 1;exact decide_eq_decide.2 ⟨λ q=>by obtain⟨a0,c,f,g,h,i,j,k,-⟩:=q;subst a0 c f g h i j k;rfl,λ q=>by
   have q:=congrArg L8.l q;injection q with o q;injection q with p q;injection q with s q;injection q with t q;injection q with u q;injection q with v q;injection q with w q;injection q with x q
   exact⟨o,p,s,t,u,v,w,x,trivial⟩⟩
abbrev ZM:aP:=.part 0 none .int (.part 1 none .int (.part 2 none .int (.part 3 (some 8) Ul .nil)))
def eqM(m e:Mg):bj ZM (.agg (ao m)) (.agg (ao e))=some (decide (m=e)):=by
 have f:bj (.part 3 (some 8) Ul .nil) (.agg (ao m)) (.agg (ao e))=some (decide (m.d=e.d)):=by
  have p:∀x:Mg,partAt (ao x) 3 (some 8)=some (.agg (dS x.d)):=λ x=>by
   obtain⟨k,co,l,⟨d,g⟩⟩:=x
   match d,g with
   |[d0,d1,d2,d3,d4,d5,d6,d7],_=>rfl
  rw[wS,p,p,qm,qm,eqL,qm];cases decide (m.d=e.d)<;>rfl
 rw[im (P:=m.core=e.core/\m.line=e.line/\m.d=e.d) (a:=m.k) (b:=e.k) (K:=.i64) rfl rfl (im rfl rfl (im rfl rfl f))];congr 1;refine decide_eq_decide.2 ⟨λ q=>?_,λ q=>by rw[q];exact⟨rfl,rfl,rfl,rfl⟩⟩;obtain⟨a,b,c,d⟩:=q;cases m;cases e;simp only at a b c d;subst a b c d;rfl
def OP(m a:Mg)(H:ar):Op.eq (.agg ZM) false [.agg (ao m),.agg (ao a)] H=some (.bool (decide (m=a))):=yC _ _ _ _ _ (eqM m a)
section
variable{H0 H:ar}{r b:Nat}{sv bv:AV}{n:No}{ks:List Nat}
def xah(h:cU H0 H r b sv bv n ks)(hk:n.aK.length<=900000)(m:Mg)(x:En):za M S4 [.ptr r 0,.agg (ao m),.agg (aB x)] H λ v H'=>v=.bool (decide (n.jG m x))/\Fr Em H H':=by
 refine qse ?_;obtain⟨w0,y,E,i,j,z⟩:=qsf M ⟨none,S4⟩;obtain⟨H1,p,I,n1,-⟩:=bX H (OR (ao m) xh);obtain⟨A,u,B,-,J⟩:=bX H1 (OR (aB x) xk);have s:Fr Em H A:=I.trans B λ _ q=>q.elim;have G:A.get H.au=some (OR (ao m) xh):=by rw[B.ah _ (by omega) id,p,xf]
 have f:Op.ae [.ptr H.au 0] A=some (.int .i64 m.k):=xz (qy G) 0;have w:Op.ae [.ptr H.au 2] A=some (.int .i64 m.line):=xz (qy G) 2;have ls:Op.ae [.ptr H1.au 1] A=some (.int .i64 x.st):=xz (qy J) 1;have t:=h.em s;have d:∀(P Q:Prop)[Decidable P][Decidable Q],(P↔Q)->AV.bool (decide P)=.bool (decide Q):=λ P Q _ _ q=>by congr 1;exact decide_eq_decide.2 q
 by_cases a:m.k=11
 .simp only[aa,bc,w0,<-p,<-u,y,f,xb a,ls];exact⟨by congr 1;simp[No.jG,a],s⟩
 by_cases c:m.k=12
 .simp only[aa,bc,w0,<-p,<-u,y,f,a,ls,i,xb c,j];exact⟨by congr 1;simp[No.jG,c],s⟩
 by_cases e:m.k=13
 .simp only[aa,bc,w0,<-p,<-u,y,f,a,ls,i,c,xb e,j];exact⟨by congr 1;simp[No.jG,e],s⟩
 by_cases g:m.k=14
 .simp only[aa,bc,w0,<-p,<-u,y,f,a,i,c,e,j,xb g,qn,t.lo,w];refine C3.q (El (M:=M) t 1 m.line) λ v F⟨D,C⟩=>?_;rw[D];simp only[aa,bc,(t.em C).lo,OP];exact⟨by congr 1;simp[No.jG,g],s.trans C λ _ q=>q.elim⟩
 by_cases l:m.k=15
 .simp only[aa,bc,w0,<-p,<-u,y,f,a,i,c,e,j,g,z,xb l,qn,t.lo,w];refine C3.q (El (M:=M) t 2 m.line) λ v F⟨D,C⟩=>?_;rw[D];simp only[aa,bc,(t.em C).lo,OP];exact⟨by congr 1;simp[No.jG,l],s.trans C λ _ q=>q.elim⟩
 by_cases o:m.k=16
 .have L:=h.kl;simp only[aa,bc,w0,<-p,<-u,y,f,a,i,c,e,j,g,z,l,xb o,qn,t.ui,w];refine C3.q (ZT (M:=M) t.bk.sl (by omega) m.line) λ v F⟨D,K⟩=>?_;rw[D,K];simp only[aa,bc];exact⟨by congr 1;simp[No.jG,o,h.eq],s⟩
 .simp only[aa,bc,w0,<-p,<-u,y,f,a,i,c,e,j,g,z,l,o,E];exact⟨by congr 1;simp[No.jG,a,c,e,g,l,o],s⟩
def WZ(c:Ca)(line st:Int)(d:L8):(c.fill line st d).1.sl.length=c.sl.length/\((c.fill line st d).1.us=c.us\/(c.fill line st d).1.us=c.us+1):=by
 unfold Ca.fill;cases c.pos line with
 |some i=>exact⟨rfl,.inl rfl⟩
 |none =>
  cases c.room line with
  |none=>exact⟨rfl,.inl rfl⟩
  |some i=>exact⟨xg,.inr rfl⟩
def Bk{lines line st:Int}{c:Ca}{d:L8}(h:CI lines c)(hs:(c.fill line st d).2.1.st≠0):0<=(c.fill line st d).2.1.line:=by
 unfold Ca.fill at hs⊢;cases hp:c.pos line with
 |some i=>rw[hp]at hs;exact absurd rfl hs
 |none =>
  rw[hp]at hs;cases hr:c.room line with
  |none=>rw[hr]at hs;exact absurd rfl hs
  |some i =>
   rw[hr]at hs;have hs:(c.en i).st≠0:=hs;show 0<=(c.en i).line;rcases xq i c.sl.length with q|q
   .exact (h.ok i q hs).2.1
   .rw [Vk q]at hs;exact absurd rfl hs
def FC{line st:Int}{c:Ca}{d:L8}(h:(c.fill line st d).2.2=22):(c.fill line st d).1=c:=by
 unfold Ca.fill at h⊢;cases hp:c.pos line with
 |some i=>rfl
 |none =>
  rw[hp]at h;cases hr:c.room line with
  |none=>rfl
  |some i=>rw[hr]at h;exact absurd h (show¬(0:Int)=22 by decide)
def xF.from{H H1 H':ar}{v:AV}{ms:List Mg}(h:xF H1 H' v ms)(f:H.au<=H1.au):xF H H' v ms:=by
 rcases h with q|⟨m,a,c,d,e,g,i⟩
 .exact .inl q
 .exact .inr ⟨m,a,c,d,xu f e,g,i⟩
def rA.from{n':No}{H1 H':ar}(f:Fr (iv r b sv bv) H H1)(h:rA H0 H1 r b sv bv n' H'):rA H0 H r b sv bv n' H':=by
 obtain⟨a,c,d,e,g⟩:=h;have fn:=f.au
 exact⟨a,c,d,jI f e,λ x q=>(g x q).imp id λ w=>by omega⟩
def rA.em{n':No}{H1 H':ar}(h:rA H0 H r b sv bv n' H1)(f:Fr Em H1 H'):rA H0 H r b sv bv n' H':=by
 obtain⟨a,c,d,e,g⟩:=h;exact⟨a,c,d.em f,e.em f,g⟩
def cU.off{W:Nat->Prop}{H':ar}(h:cU H0 H r b sv bv n ks)(f:Fr W H H')(hw:∀x,W x->H0.au<=x /\ ¬iv r b sv bv x):cU H0 H' r b sv bv n ks :=
 ⟨by rw[f.ah _ h.lt λ q=>(hw _ q).2 (.inl rfl)];exact h.row,qj h.lt f.au,h.ca.fr f (λ q=>(hw _ q).2 (.inr (.inl (.inl rfl)))) (λ q=>(hw _ q).2 (.inr (.inl (.inr rfl)))),h.bk.uj f (h.bk.fr.trans f λ x q=>.inr (hw x q).1) (λ x a q=>(hw x q).2 (.inr (.inr a))),h.eq,h.lr,h.lb,h.ls,h.n1,h.n2,h.o1,h.o2,h.o3,h.li,h.len⟩
def qD.from{a:No×List Mg}{H1 H':ar}{v:AV}(f:Fr (iv r b sv bv) H H1)(h:qD H0 H1 r b sv bv a v H'):qD H0 H r b sv bv a v H':=⟨h.1.from f.au,h.2.from f⟩
def xgl(h:cU H0 H r b sv bv n ks)(i:CI n.lines n.c)(hk:n.aK.length<=900000)(hu:n.c.us+1<=1000000)(m:Mg)(hm:0<=m.line):za M Mj [.ptr r 0,.agg (ao m)] H (qD H0 H r b sv bv (n.fill m)):=by
 refine qyw ?_;obtain⟨w0,w4,w10,I,J,w28⟩:=qyx M ⟨none,Mj⟩;obtain⟨H1,e1,f1,n1,O⟩:=bX H (OR (ao m) xh);have G:Op.ae [.ptr H.au 0] H1=some (.int .i64 m.k):=xz (qy O) 0;have T:=h.em f1;have hlr:=h.lt;have hlb:=h.ca.lt;have hls:aH sv<H.au:=h.ca.sl.lt
 have V:=h.bk.fresh;have off:∀y,H.au<=y -> ¬iv r b sv bv y:=λ y hy q=>by
  rcases q with q|q|q
  .omega
  .exact q.elim (λ q=>by omega) λ q=>by omega
  .have:=V _ q;omega
 -- the line's words
 have D:∀{w:ar},w.get H.au=some (OR (ao m) xh)->Op.aq 8 [.ptr H.au 3] w=some (.agg (dS m.d)):=λ g=>by
  rw[rq (qy g) (by rw[zi];decide)];obtain⟨k,co,l,⟨d,hd⟩⟩:=m
  match d,hd with
  |[d0,d1,d2,d3,d4,d5,d6,d7],_=>rfl
 have F:∀{w:ar},w.get H.au=some (OR (ao m) xh)->Op.ae [.ptr H.au 2] w=some (.int .i64 m.line):=λ g=>xz (qy g) 2
 -- what fm is told
 have fin:∀{n':No}{st:Int}{u:ar}{t:Nat},cU H0 u r b sv bv {n' with c:=(n'.c.fill m.line st m.d).1} ks->CI n'.lines n'.c->n'.aK=n.aK->Fr (iv r b sv bv) H u->u.get t=some (OR (aB (n'.c.fill m.line st m.d).2.1) xk)->n.fill m=n'.dM m st ->
  ∀{E:Env},lk E 0=some (.ptr r 0)->lk E 6=some (.ptr t 0)->lk E 4=some .nils->lk E 7=some (.bool (decide ((n'.c.fill m.line st m.d).2.2=0/\(n'.c.fill m.line st m.d).2.1.st≠0))) ->
  W M ⟨none,Mj⟩ (j3 20) true (fj M [.tmp 4] (ug (qD H0 H r b sv bv (n.fill m)))) E [] u:=by
  intro n' st u t hc B hb hf hg hn E p q6 q4 q7;rw[hn];unfold No.dM
  by_cases q:(n'.c.fill m.line st m.d).2.2=0/\(n'.c.fill m.line st m.d).2.1.st≠0
  .have Q:lk E 7=some (.bool true):=by rw[q7,kj q]
   rw[qr q];have ld:=fp (n:=21) hg (jj _);simp only[aa,bc,J,Q,w28,p,q6,ld];refine C3.q (YT (M:=M) hc (by show n'.aK.length<=_;rw[hb];exact hk) _ (Bk B q.2)) λ v a U=>?_;simp only[aa,bc];exact U.from hf
  .have Q:lk E 7=some (.bool false):=by rw[q7,j9 q]
   rw[qo q];simp only[aa,bc,J,Q];exact⟨.inl ⟨rfl,rfl⟩,rA.of hc hf⟩
 -- put in
 have main:∀{st:Int},st=1\/st=2->n.fill m=n.lV m st -> ∀{E:Env},lk E 0=some (.ptr r 0)->lk E 3=some (.ptr H.au 0)->lk E 4=some .nils->lk E 5=some (.int .i64 st)->W M ⟨none,Mj⟩ (j3 10) true (fj M [.tmp 4] (ug (qD H0 H r b sv bv (n.fill m)))) E [] H1:=by
  intro st C hn E p q3 q4 q5;simp only[aa,bc,w10,p,q3,q5,qn,T.l2,F O,D O];refine C3.q (ZC (M:=M) T.ca i hu hm C m.d) λ v a⟨hv,U,L⟩=>?_;rw[hv];unfold oR;have k2:a.get H.au=some (OR (ao m) xh):=by rw[L.ah _ (by omega) (λ q=>q.elim (λ q=>by omega) λ q=>by omega)];exact O
  have n2:=L.au
  have Y:=T.ig U L (by rw[(WZ ..).1];exact h.len);obtain⟨s,z⟩:∃X,X=(a.alloc (OR (aB .zero) xk)).set a.au (OR (aB (n.c.fill m.line st m.d).2.1) xk):=⟨_,rfl⟩
  have R:Fr Em a s:=by rw[z];exact wO _ _
  have g3:s.get a.au=some (OR (aB (n.c.fill m.line st m.d).2.1) xk):=by rw[z,xc]
  have n3:s.au=a.au+1:=by rw[z];rfl
  have k3:s.get H.au=some (OR (ao m) xh):=by rw[R.ah _ (by omega) id];exact k2
  have o:=Y.em R;have A:Fr (iv r b sv bv) H s:=jI (jI (mI f1) (vE L)) (mI R)
  by_cases q:(n.c.fill m.line st m.d).2.2=22
  case neg =>
   have j:n.fill m=n.dM m st:=by rw[hn];unfold No.lV;rw[qo q]
   simp only[aa,bc,xe,eZ,i9,<-z,I,q];exact fin o i rfl A g3 j p rfl q4 rfl
  .have j:n.fill m=(n.iG 3).dM m st:=by rw[hn];unfold No.lV;rw[qr q]
   have ec:({n with c:=(n.c.fill m.line st m.d).1}:No)=n:=by rw[FC q]
   rw[ec]at o;simp only[aa,bc,xe,eZ,i9,<-z,I,xb q,p];refine C3.q (Hp (M:=M) o 3) λ _ H4⟨P,N⟩=>?_;have k4:H4.get H.au=some (OR (ao m) xh):=by rw[N.ah _ (by omega) (off _ (qg _))];exact k3
   have g4:H4.get a.au=some (OR (aB (n.c.fill m.line st m.d).2.1) xk):=by rw[N.ah _ (by omega) (off _ (by omega))];exact g3
   have n4:=N.au
   simp only[aa,bc,q3,q5,qn,P.l2,F k4,D k4];have f:CI n.lines (n.iG 3).c:=i.discard;refine C3.q (ZC (M:=M) P.ca f hu hm C m.d) λ v K⟨hv,h5,S⟩=>?_;rw[hv];unfold oR;have g5:K.get a.au=some (OR (aB (n.c.fill m.line st m.d).2.1) xk):=by rw[S.ah _ (by omega) (λ q=>q.elim (λ q=>by omega) λ q=>by omega)];exact g4
   have s6:=gK g5 (jj _) (jj ((n.iG 3).c.fill m.line st m.d).2.1) (xO _);have Z:=P.ig h5 S (by rw[(WZ ..).1];exact P.len);have f6:Fr (On a.au) K (K.set a.au (OR (aB ((n.iG 3).c.fill m.line st m.d).2.1) xk)):=(Fr.refl K).set (W:=On a.au) (.inl rfl) _;simp only[aa,bc,xe,s6];refine fin (n':=n.iG 3) (t:=a.au) ?_ f rfl ?_ (xc ..) j p rfl q4 rfl
   .exact Z.off f6 (λ x(hx:x=a.au)=>by rw[hx];exact⟨by have:=h.bk.fr.au;omega,off _ (by omega)⟩)
   .exact (jI (jI A N) (vE S)).set (.inr (by omega)) _
 by_cases e:m.k=15
 .simp only[aa,bc,w0,<-e1,w4,G,xb e];exact main (.inr rfl) (by unfold No.fill;rw[qr e]) rfl rfl rfl rfl
 .simp only[aa,bc,w0,<-e1,w4,G,e];exact main (.inl rfl) (by unfold No.fill;rw[qo e]) rfl rfl rfl rfl
end
end Go.Am
namespace Go.Am
open Go.Proofs Ca
open Lang (ints)
variable{M:ak}[MK M]
def xhv{H:ar}{e size bytes b n:Nat}{cells:List AV}(h:Sl H size (.slice b 0 n n) n cells)(hn:0<n){x:AV}{k:Nat}{new:List AV}(i:Sl H size x k new)(hk:0<k)(d:aJ new=true)(hs:0<size)
 (s:(n+k)*bytes<=140737488355328) (f:n+k<=140737488355328) {K:Bool->AV->ar->Prop} {m:Bool}
 (p:∀j H',Own H' e size j (n+k) (cells++new)->Fr Em H H'->(∀c,aW j c->H.au<=c)->K m j H'):iS m (Op.append e size bytes [.slice b 0 n n,x] H) K:=by
 have a:=Q9 s f;have hlen:new.length=k*size:=i.1;have g:=Ei hs;have o:Nat.ble (n+k) n=false:=by cases t:Nat.ble (n+k) n with|false=>rfl|true=>rw[ww]at t;omega
 have l:Op.append e size bytes [.slice b 0 n n,x] H=some (dk H e size (n+k) (cells++new) (0,0)):=by
  simp only[Op.append,i.eY,i.first,qm,d,xm,cV,o,zj,a,y9 (show n<=n+k by omega),g,jk,h.first,oJ]
 rw[l];refine iS.intro rfl (p _ _ ⟨by rw[qv,h.1,hlen,yd],.inr ⟨H.au,rfl,by rw[xx];omega,?_⟩⟩ ((Fr.refl H).alloc _) λ c q=>by rw[q.2];exact qg _);rw[ar.bJ,qr rfl]
def xF.em{H H1 H':ar}{v:AV}{ms:List Mg}(h:xF H H1 v ms)(f:Fr Em H1 H'):xF H H' v ms:=by
 rcases h with q|⟨m,a,d,e,g,c,i⟩
 .exact .inl q
 .exact .inr ⟨m,a,d,e,g,qj c f.au,by rw[f.ah _ c id];exact i⟩
def JQ{H H':ar}{v a:AV}{ms:List Mg}{m:Mg}(h:xF H H' v ms)(x:gB ao xh 11 H' a [m])(hl:H.au<=H'.au){K:Bool->AV->ar->Prop}
 (g:∀v2 c,mf H c v2 (ms ++ [m])->Fr Em H' c->K true v2 c):iS true (Op.append xh 11 88 [v,a] H') K:=by
 have xs:=x.sl zi;have i:aJ ([m].flatMap ao)=true:=by rw[ju,List.flatMap_nil,ze];exact rT m
 rcases h with⟨rfl,rfl⟩|⟨l,b,rfl,rfl,s,j,k⟩
 .refine xdv (Own.nil H' xh 11) xs i (by decide) (by simp) (by simp) λ v2 c o f w=>g v2 c ⟨?_,λ _=>?_⟩ (f.mono λ y _ q=>(q.1 rfl).elim)
  .have:=Own.sl o;exact this
  .have d:v2≠ .nils:=λ q=>by
    subst q;have:=Own.sl o;exact absurd this.2 (by intro z;cases z)
   exact(w _ ⟨d,rfl⟩).elim (λ q=>(q.1 rfl).elim) λ q=>by omega
 .have p:dU ao 11 H' (Op.sliceTo 1 1 b) [l]:=gB.sl (e:=xh) zi ⟨b,rfl,j,by rw[k];simp⟩;refine xhv (b:=b) (n:=1) (e:=xh) p (by decide) xs (by simp) i (by decide) (by simp) (by simp) λ v2 c o f w=>g v2 c ⟨?_,λ _=>?_⟩ f
  .have:=Own.sl o;unfold dU;rw[kq];exact this
  .have d:v2≠ .nils:=λ q=>by
    subst q;have:=Own.sl o;exact absurd this.2 (by intro z;cases z)
   have:=w _ ⟨d,rfl⟩;omega
section
variable{H0 H:ar}{r b:Nat}{sv bv:AV}{n:No}{ks:List Nat}
def DB(ks:List Nat)(line:Int):ints (xM ks line)=(ints ks).filter (· ≠line):=by
 unfold ints xM;rw[List.filter_map];congr 1;refine List.filter_congr λ k _=>?_;show((k:Int) != line)=decide ((k:Int)≠line)
 by_cases q:(k:Int)=line<;>simp[q]
def oy(c:Ca)(line:Int):rQ c line=.tuple [.agg (aB ((c.find line).getD .zero)),.bool (c.find line).isSome]:=by
 unfold rQ;cases c.find line<;>rfl
def Wo{x:En}{too:Bool}(h:CI n.lines n.c):CI n.lines (n.lost x too).c:=by
 unfold No.lost;split
 .split
  .exact h.discard
  .exact h.discard
 .exact h
def Gp(x:En)(too:Bool):(n.lost x too).aK=n.aK/\(n.lost x too).core=n.core/\(n.lost x too).lines=n.lines/\(n.lost x too).c.us=n.c.us:=by
 unfold No.lost;split
 .split<;>exact⟨rfl,rfl,rfl,rfl⟩
 .exact ⟨rfl,rfl,rfl,rfl⟩
def L9(c:Ca)(line:Int):(c.drop line).1.sl.length=c.sl.length/\(c.drop line).1.us=c.us:=by
 unfold Ca.drop;cases c.kM line 0 with
 |none=>exact⟨rfl,rfl⟩
 |some i=>exact⟨xg,rfl⟩
def q9n(c:Ca)(line:Int):(c.cO line).1.sl.length=c.sl.length/\(c.cO line).1.us=c.us:=by
 unfold Ca.cO;cases c.kM line 2 with
 |none=>exact⟨rfl,rfl⟩
 |some i=>exact⟨xg,rfl⟩
def hY(c:Ca)(line:Int)(d:L8):(c.cH line d).sl.length=c.sl.length/\(c.cH line d).us=c.us:=by
 unfold Ca.cH;cases c.kM line 1 with
 |none=>exact⟨rfl,rfl⟩
 |some i=>exact⟨xg,rfl⟩
def xi8(n:No)(x:En):(n.gone x).1.core=n.core:=by unfold No.gone;split<;>rfl
def xi2(n:No)(m:Mg):(n.fill m).1.core=n.core:=by
 have e:∀(n:No)(st:Int),(n.dM m st).1.core=n.core:=λ n st=>by
  unfold No.dM;split
  .exact xi8 ..
  .rfl
 unfold No.fill;generalize(if m.k=15 then(2:Int)else 1)=st;unfold No.lV;split
 .exact e (n.iG 3) st
 .exact e n st
def tg(H0 H:ar)(r b:Nat)(sv bv:AV)(a:No×List Mg)(v:AV)(H':ar):Prop:=(∃ov e,v=.tuple [ov,e]/\mf H H' ov a.2)/\rA H0 H r b sv bv a.1 H'
def xhj(h:cU H0 H r b sv bv n ks)(U:CI n.lines n.c)(hk:n.aK.length<=900000)(hu:n.c.us+1<=1000000)(m:Mg):za M yr [.ptr r 0,.agg (ao m)] H (tg H0 H r b sv bv (n.bQ m)):=by
 refine qyp ?_;obtain⟨w0,w2,w10,w12,Z,w73,w34,w75,w40,w85,w41,w49,w53,w61⟩:=qyq M ⟨none,yr⟩;obtain⟨H1,e1,f1,n1,g1⟩:=bX H (OR (ao m) xh);have hlr:=h.lt;have hlb:=h.ca.lt;have hls:aH sv<H.au:=h.ca.sl.lt
 have hbf:=h.bk.fresh;have off:∀y,H.au<=y -> ¬iv r b sv bv y:=λ y hy q=>by
  rcases q with q|q|q
  .omega
  .exact q.elim (λ q=>by omega) λ q=>by omega
  .have:=hbf _ q;omega
 have P:∀y,H.au<=y -> ¬mF b sv y:=λ y hy q=>off y hy (.inr (.inl q))
 have G:∀{D:ar},D.get H.au=some (OR (ao m) xh)->Op.ae [.ptr H.au 0] D=some (.int .i64 m.k):=λ g=>xz (qy g) 0
 have ldc:∀{D:ar},D.get H.au=some (OR (ao m) xh)->Op.ae [.ptr H.au 1] D=some (.int .i64 m.core):=λ g=>xz (qy g) 1
 have p:∀{D:ar},D.get H.au=some (OR (ao m) xh)->Op.ae [.ptr H.au 2] D=some (.int .i64 m.line):=λ g=>xz (qy g) 2
 have ldm:∀{D:ar},D.get H.au=some (OR (ao m) xh)->Op.aq 11 [.ptr H.au 0] D=some (.agg (ao m)):=λ g=>fp g (zi m)
 have ldd:∀{D:ar},D.get H.au=some (OR (ao m) xh)->Op.aq 8 [.ptr H.au 3] D=some (.agg (dS m.d)):=λ g=>by
  rw[rq (qy g) (by rw[zi];decide)];obtain⟨k,co,l,⟨d,hd⟩⟩:=m
  match d,hd with
  |[d0,d1,d2,d3,d4,d5,d6,d7],_=>rfl
 have h1:=h.em f1;simp only[aa,bc,w0,<-e1,w2,yq,w10,qn,h1.l2,p g1];refine C3.q (RP (M:=M) h1.ca U m.line) λ v I⟨J,f2⟩=>?_;rw[J,oy];obtain⟨x,hx⟩:∃x,x=(n.c.find m.line).getD .zero:=⟨_,rfl⟩
 rw[<-hx];obtain⟨H3,e3⟩:∃X,X=(I.alloc (OR (aB .zero) xk)).set I.au (OR (aB x) xk):=⟨_,rfl⟩
 have f3:Fr Em I H3:=by rw[e3];exact wO _ _
 have f03:Fr Em H H3:=(f1.trans f2 λ _ q=>q.elim).trans f3 λ _ q=>q.elim;have n2:=f2.au
 have n3:H3.au=I.au+1:=by rw[e3];rfl
 have x3:H3.get I.au=some (OR (aB x) xk):=by rw[e3,xc]
 have g3:H3.get H.au=some (OR (ao m) xh):=by rw[f3.ah _ (by omega) id,f2.ah _ (by omega) id];exact g1
 have h3:=h.em f03;have ldx:∀{D:ar},D.get I.au=some (OR (aB x) xk)->Op.aq 21 [.ptr I.au 0] D=some (.agg (aB x)):=λ g=>fp g (jj x)
 simp only[aa,bc,xe,eZ,i9,<-e3]
 -- what is not heard
 have no:∀{e:Int},(m.core≠n.core\/m.line<0\/n.lines<=m.line \/ ¬n.jG m ((n.c.find m.line).getD .zero)) -> ∀{H':ar},Fr Em H H'->tg H0 H r b sv bv (n.bQ m) (.tuple [.nils,.int .i64 e]) H':=by
  intro e q H' f;have O:n.bQ m=(n,[]):=by unfold No.bQ;rw[qr q]
  rw[O];exact⟨⟨.nils,_,rfl,mf.nil ..⟩,h.same f⟩
 by_cases q1:m.core=n.core
 case neg =>
  simp only[aa,bc,w12,ldc g3,qn,h3.l0,q1];exact no (.inl q1) f03
 by_cases q2:m.line<0
 .simp only[aa,bc,w12,ldc g3,qn,h3.l0,xb q1,p g3,q2];exact no (.inr (.inl q2)) f03
 by_cases Y:n.lines<=m.line
 .simp only[aa,bc,w12,ldc g3,qn,h3.l0,xb q1,p g3,q2,h3.l1,Y];exact no (.inr (.inr (.inl Y))) f03
 simp only[aa,bc,w12,ldc g3,qn,h3.l0,xb q1,p g3,q2,h3.l1,Y,ldm g3,ldx x3];refine C3.q (xah (M:=M) h3 hk m x) λ v H4⟨J,f4⟩=>?_;rw[J];have Q:Fr Em H H4:=f03.trans f4 λ _ q=>q.elim;have n4:=f4.au
 have h4:=h.em Q;have R:H4.get H.au=some (OR (ao m) xh):=by rw[f4.ah _ (by omega) id];exact g3
 have x4:H4.get I.au=some (OR (aB x) xk):=by rw[f4.ah _ (by omega) id];exact x3
 by_cases q4:n.jG m x
 case neg =>
  simp only[aa,bc,j9 q4];exact no (.inr (.inr (.inr (by rw[<-hx];exact q4)))) Q
 have hn:¬(m.core≠n.core\/m.line<0\/n.lines<=m.line \/ ¬n.jG m ((n.c.find m.line).getD .zero)):=by
  rw[<-hx];rintro(w|w|w|w)
  .exact w q1
  .exact q2 w
  .exact Y w
  .exact w q4
 rw[kj q4]
 -- the words that a message has
 have S:∀{k line:Int}{d:L8}{D:ar}{a:Nat},D.get a=some (OR (ao ⟨k,n.core,line,.zero⟩) xh)->Op.store 8 [.ptr a 3,.agg (dS d)] D=some (.undef,D.set a (OR (ao ⟨k,n.core,line,d⟩) xh)):=λ{k line d D a}g=>by
  have s6:=t9 g (o:=3) (n:=8) (v:=.agg (dS d)) (by rw[zu];exact wn _) (by rw[zi];decide) (by rw[zu];exact xY _);rw[WC]at s6;exact s6
 by_cases s:m.k=11
 .have O:n.bQ m=({n.lost x true with c:=((n.lost x true).c.drop m.line).1},[n.msg 4 m.line]):=by
   unfold No.bQ;rw[qo hn,qr s,<-hx]
  rw[O];simp only[aa,bc,Z,G R,xb s,ldx x4];refine C3.q (Vw (M:=M) h4 x true) λ _ j⟨K,A⟩=>?_;have n5:=A.au
  have T:j.get H.au=some (OR (ao m) xh):=by rw[A.ah _ (by omega) (off _ (by omega))];exact R
  simp only[aa,bc,qn,K.l2,p T];refine C3.q (WG (M:=M) K.ca (Wo U) m.line) λ _ C⟨_,L,z⟩=>?_;have g6:C.get H.au=some (OR (ao m) xh):=by rw[z.ah _ (by omega) (P _ (by omega))];exact T
  have hn6:=K.ig L z (by rw[(L9 ..).1];exact K.len);simp only[aa,bc,p g6];refine C3.q (El (M:=M) hn6 4 m.line) λ v H7⟨J,F⟩=>?_;rw[J];have n6:=z.au
  have n7:=F.au
  have em:No.msg {n.lost x true with c:=((n.lost x true).c.drop m.line).1} 4 m.line=n.msg 4 m.line:=by unfold No.msg;rw[show(No.core {n.lost x true with c:=((n.lost x true).c.drop m.line).1})=n.core from(Gp (n:=n) x true).2.1]
  rw[em];simp only[aa,bc,mZ,zD];exact⟨⟨_,_,rfl,Kb _ (by omega)⟩,rA.of ((hn6.em F).em ((Fr.refl _).alloc _)) (jI (jI (mI Q) A) ((jI (vE z) (mI F)).alloc _))⟩
 by_cases i:m.k=12\/m.k=13
 .have t13:¬(13:Int)=11:=by decide
  -- a recall
  have rec41:∀{E:Env},lk E 0=some (.ptr r 0)->lk E 3=some (.ptr H.au 0)->lk E 6=some (.ptr I.au 0)->lk E 7=some (.bool (n.c.find m.line).isSome) ->
   W M ⟨none,yr⟩ (Md 41) true (eM 0 (eP (W M ⟨none,yr⟩ (Md 73)) (fj M [.tmp 4,.tmp 5] (ug (tg H0 H r b sv bv (n.bQ m)))))) E [] H4:=by
   intro E q0 Y q6 q7;cases hf:n.c.find m.line with
   |none =>
    have O:n.bQ m=(n,[n.msg 6 m.line]):=by
     unfold No.bQ;rw[qo hn,qo s,qr i,hf]
    rw[O];rw[hf]at q7;have q7:lk E 7=some (.bool false):=q7;simp only[aa,bc,w41,q7,q0,Y,p R];refine C3.q (El (M:=M) h4 6 m.line) λ v j⟨J,A⟩=>?_;rw[J];have n5:=A.au
    simp only[aa,bc,mZ,zD];exact⟨⟨_,_,rfl,Kb _ (by omega)⟩,h.same ((Q.trans A λ _ q=>q.elim).alloc _)⟩
   |some x' =>
    have exx:x=x':=by rw[hx,hf];rfl
    subst exx;rw[hf]at q7;have q7:lk E 7=some (.bool true):=q7
    -- behind the loss
    have go:∀{too:Bool}{j:ar},(too=true↔m.k=13)->cU H0 j r b sv bv (n.lost x too) ks->Fr (iv r b sv bv) H4 j -> ∀{E:Env},lk E 0=some (.ptr r 0)->lk E 3=some (.ptr H.au 0)->lk E 6=some (.ptr I.au 0)->lk E 8=some (.ptr j.au 0) ->
     ∀{C:ar},C=(j.alloc (OR (ao ⟨0,0,0,.zero⟩) xh)).set j.au (OR (ao (n.msg 5 m.line)) xh) ->
     W M ⟨none,yr⟩ (Md 53) true (eM 0 (eP (W M ⟨none,yr⟩ (Md 73)) (fj M [.tmp 4,.tmp 5] (ug (tg H0 H r b sv bv (n.bQ m)))))) E [] C:=by
     intro too j ht K A E q0 Y q6 q8 C e6;have n5:=A.au
     have z:Fr Em j C:=by rw[e6];exact wO _ _
     have n6:C.au=j.au+1:=by rw[e6];rfl
     have L:=K.em z;have T:j.get H.au=some (OR (ao m) xh):=by rw[A.ah _ (by omega) (off _ (by omega))];exact R
     have g6:C.get H.au=some (OR (ao m) xh):=by rw[z.ah _ (by omega) id];exact T
     have x5:j.get I.au=some (OR (aB x) xk):=by rw[A.ah _ (by omega) (off _ (by omega))];exact x4
     have x6:C.get I.au=some (OR (aB x) xk):=by rw[z.ah _ (by omega) id];exact x5
     have b6:C.get j.au=some (OR (ao (n.msg 5 m.line)) xh):=by rw[e6,xc]
     have f06:Fr (iv r b sv bv) H C:=jI (jI (mI Q) A) (mI z)
     -- the answer
     have out:∀{d:L8}{n':No}{N:ar},n.bQ m=(n',[⟨5,n.core,m.line,d⟩])->cU H0 N r b sv bv n' ks->Fr (iv r b sv bv) H N->C.au<=N.au -> ∀{E:Env},lk E 8=some (.ptr j.au 0) ->
      W M ⟨none,yr⟩ (Md 61) true (eM 0 (eP (W M ⟨none,yr⟩ (Md 73)) (fj M [.tmp 4,.tmp 5] (ug (tg H0 H r b sv bv (n.bQ m)))))) E [] (N.set j.au (OR (ao ⟨5,n.core,m.line,d⟩) xh)):=by
      intro d n' N O h8 f8 n8 E q8;rw[O];have ld:=fp (xc N j.au (OR (ao ⟨5,n.core,m.line,d⟩) xh)) (zi _);simp only[aa,bc,w61,q8,ld,mZ,zD];have f9:Fr (On j.au) N (N.set j.au (OR (ao ⟨5,n.core,m.line,d⟩) xh)):=(Fr.refl N).set (W:=On j.au) (.inl rfl) _;have h9:=h8.off f9 (λ x(hx:x=j.au)=>by rw[hx];exact⟨by have:=h.bk.fr.au;omega,off _ (by omega)⟩);exact⟨⟨_,_,rfl,Kb _ (by rw[su];omega)⟩,rA.of (h9.em ((Fr.refl _).alloc _)) ((f8.set (.inr (by omega)) _).alloc _)⟩
     by_cases B:m.k=12
     .have et:too=false:=by cases too with|false=>rfl|true=>have:=ht.1 rfl;omega
      subst et;have O:n.bQ m=({n.lost x false with c:=((n.lost x false).c.cO m.line).1},[⟨5,n.core,m.line,((n.lost x false).c.cO m.line).2⟩]):=by
       unfold No.bQ;rw[qo hn,qo s,qr i,hf];show(if m.k=12 then _ else _)=_;rw[qr B]
      simp only[aa,bc,w53,q0,Y,G g6,xb B,qn,L.l2,p g6];refine C3.q (xb2 (M:=M) L.ca (Wo U) m.line) λ v H7⟨J,h7,F⟩=>?_;rw[J];unfold rY;have n7:=F.au
      have b7:H7.get j.au=some (OR (ao (n.msg 5 m.line)) xh):=by rw[F.ah _ (by omega) (P _ (by omega))];exact b6
      have hn7:=L.ig h7 F (by rw[(q9n ..).1];exact L.len);simp only[aa,bc,xe,q8,S b7];exact out O hn7 (jI f06 (vE F)) (by omega) q8
     .have u:m.k=13:=by omega
      have et:too=true:=ht.2 u;subst et;have O:n.bQ m=({n.lost x true with c:=((n.lost x true).c.drop m.line).1},[⟨5,n.core,m.line,((n.lost x true).c.drop m.line).2.d⟩]):=by
       unfold No.bQ;rw[qo hn,qo s,qr i,hf];show(if m.k=12 then _ else _)=_;rw[qo B]
      simp only[aa,bc,w53,q0,Y,G g6,B,qn,L.l2,p g6];refine C3.q (WG (M:=M) L.ca (Wo U) m.line) λ v H7⟨J,h7,F⟩=>?_;rw[J];unfold xB;have n7:=F.au
      have b7:H7.get j.au=some (OR (ao (n.msg 5 m.line)) xh):=by rw[F.ah _ (by omega) (P _ (by omega))];exact b6
      have x7:H7.get I.au=some (OR (aB x) xk):=by rw[F.ah _ (by omega) (P _ (by omega))];exact x6
      have hn7:=L.ig h7 F (by rw[(L9 ..).1];exact L.len);have s8:=gK x7 (jj _) (jj ((n.lost x true).c.drop m.line).2) (xO _);obtain⟨N,e8⟩:∃X,X=H7.set I.au (OR (aB ((n.lost x true).c.drop m.line).2) xk):=⟨_,rfl⟩
      rw[<-e8]at s8;have f8:Fr (On I.au) H7 N:=by rw[e8];exact(Fr.refl H7).set (W:=On I.au) (.inl rfl) _
      have x8:N.get I.au=some (OR (aB ((n.lost x true).c.drop m.line).2) xk):=by rw[e8,xc]
      have b8:N.get j.au=some (OR (ao (n.msg 5 m.line)) xh):=by rw[f8.ah _ (by omega) (λ(q:j.au=I.au)=>by omega)];exact b7
      have ld8:Op.aq 8 [.ptr I.au 4] N=some (.agg (dS ((n.lost x true).c.drop m.line).2.d)):=by rw[rq (qy x8) (by rw[jj];decide),DZ]
      have hn8:=hn7.off f8 (λ x(hx:x=I.au)=>by rw[hx];exact⟨by have:=h.bk.fr.au;omega,off _ (by omega)⟩);have f78:Fr (iv r b sv bv) H N:=by rw[e8];exact(jI f06 (vE F)).set (.inr (by omega)) _
      simp only[aa,bc,xe,q6,q8,s8,ld8,S b8];exact out O hn8 f78 (by have:=f8.au;omega) q8
    by_cases B:m.k=12
    .have u:¬m.k=13:=by omega
     simp only[aa,bc,w41,q7,w49,q0,Y,q6,ldx x4,G R,u];refine C3.q (Vw (M:=M) h4 x false) λ _ j⟨K,A⟩=>?_;have n5:=A.au
     have T:j.get H.au=some (OR (ao m) xh):=by rw[A.ah _ (by omega) (off _ (by omega))];exact R
     simp only[aa,bc,p T];refine C3.q (El (M:=M) K 5 m.line) λ v C⟨J,z⟩=>?_;have em:(n.lost x false).msg 5 m.line=n.msg 5 m.line:=by unfold No.msg;rw[(Gp (n:=n) x false).2.1]
     rw[J,em];have s6:=gK (xf C (OR (ao ⟨0,0,0,.zero⟩) xh)) (zi _) (zi (n.msg 5 m.line)) (rT _);simp only[aa,bc,mZ,s6];refine go (too:=false) ⟨λ q=>(by cases q),λ q=>absurd q u⟩ (K.em z) (jI A (mI z)) ?_ ?_ ?_ ?_ ?_
     .exact q0
     .exact Y
     .exact q6
     .rfl
     .rfl
    .have u:m.k=13:=by omega
     simp only[aa,bc,w41,q7,w49,q0,Y,q6,ldx x4,G R,xb u];refine C3.q (Vw (M:=M) h4 x true) λ _ j⟨K,A⟩=>?_;have n5:=A.au
     have T:j.get H.au=some (OR (ao m) xh):=by rw[A.ah _ (by omega) (off _ (by omega))];exact R
     simp only[aa,bc,p T];refine C3.q (El (M:=M) K 5 m.line) λ v C⟨J,z⟩=>?_;have em:(n.lost x true).msg 5 m.line=n.msg 5 m.line:=by unfold No.msg;rw[(Gp (n:=n) x true).2.1]
     rw[J,em];have s6:=gK (xf C (OR (ao ⟨0,0,0,.zero⟩) xh)) (zi _) (zi (n.msg 5 m.line)) (rT _);simp only[aa,bc,mZ,s6];refine go (too:=true) ⟨λ _=>u,λ _=>rfl⟩ (K.em z) (jI A (mI z)) ?_ ?_ ?_ ?_ ?_
     .exact q0
     .exact Y
     .exact q6
     .rfl
     .rfl
  by_cases B:m.k=12
  .simp only[aa,bc,Z,G R,s,w34,xb B,w40];exact rec41 rfl rfl rfl rfl
  .have u:m.k=13:=by omega
   simp only[aa,bc,Z,G R,s,w34,B,xb u,w40];exact rec41 rfl rfl rfl rfl
 have B:¬m.k=12:=λ q=>i (.inl q);have u:¬m.k=13:=λ q=>i (.inr q)
 by_cases V:m.k=16
 .have O:n.bQ m=({n with aK:=n.aK.filter (· ≠m.line)},[]):=by
   unfold No.bQ;rw[qo hn,qo s,qo i,qr V]
  rw[O];have hkl:=h.kl;simp only[aa,bc,Z,G R,s,w34,B,u,w40,xb V,qn,h4.ui];refine C3.q (xb1 (M:=M) (t:=H.au) (line:=m.line) (λ f=>p (by rw[f.ah _ (by omega) λ q=>by have:=hbf _ q;omega];exact R)) h4.bk (by omega)) λ v j⟨hs,A,w5⟩=>?_;obtain⟨C,s6,L,z⟩:=h4.Ir hs A (λ x q=>.inl (w5 x q));simp only[aa,bc,s6];rw[DB,<-h.eq]at L;exact⟨⟨_,_,rfl,mf.nil ..⟩,v,_,L,jI (mI Q) z,λ x q=>.inl (w5 x q)⟩
 -- what was asked for
 obtain⟨j,s5,K,A⟩:=h4.DL ⟨0,0,0,.zero⟩;have n5:=A.au
 have T:j.get H.au=some (OR (ao m) xh):=by rw[A.ah _ (by omega) (λ(q:H.au=r)=>by omega)];exact R
 have f05:Fr (iv r b sv bv) H j:=jI (mI Q) (JT A);cases hf:n.c.find m.line with
 |some x' =>
  have O:n.bQ m=({n with out:=⟨0,0,0,.zero⟩,c:=n.c.cH m.line m.d},[n.msg 7 m.line]):=by
   unfold No.bQ;rw[qo hn,qo s,qo i,qo V,hf]
  rw[O];simp only[aa,bc,Z,G R,s,w34,B,u,w40,V,w73,mZ,pN,qn,s5,w75,y8,K.l2,p T,ldd T];refine C3.q (xav (M:=M) K.ca U m.line m.d) λ _ C⟨L,z⟩=>?_;have g6:C.get H.au=some (OR (ao m) xh):=by rw[z.ah _ (by omega) (P _ (by omega))];exact T
  have hn6:=K.ig L z (by rw[(hY ..).1];exact K.len);simp only[aa,bc,p g6];refine C3.q (El (M:=M) hn6 7 m.line) λ v H7⟨J,F⟩=>?_;rw[J];have n6:=z.au
  have n7:=F.au
  simp only[aa,bc,zD];exact⟨⟨_,_,rfl,Kb _ (by omega)⟩,rA.of ((hn6.em F).em ((Fr.refl _).alloc _)) (jI f05 ((jI (vE z) (mI F)).alloc _))⟩
 |none =>
  have O:n.bQ m=((No.fill {n with out:=⟨0,0,0,.zero⟩} m).1,(No.fill {n with out:=⟨0,0,0,.zero⟩} m).2 ++ [n.msg 7 m.line]):=by
   unfold No.bQ;rw[qo hn,qo s,qo i,qo V,hf]
  rw[O];simp only[aa,bc,Z,G R,s,w34,B,u,w40,V,w73,mZ,pN,qn,s5,w75,Jv,w85,ldm T];refine C3.q (xgl (M:=M) K U hk hu m (by omega)) λ v C⟨hm6,bv',ks',L,z,w6⟩=>?_;have n6:=z.au
  have g6:C.get H.au=some (OR (ao m) xh):=by rw[z.ah _ (by omega) (off _ (by omega))];exact T
  simp only[aa,bc,p g6];refine C3.q (El (M:=M) L 7 m.line) λ v H7⟨J,F⟩=>?_;have ec:(No.fill {n with out:=⟨0,0,0,.zero⟩} m).1.core=n.core:=xi2 _ m;have em:(No.fill {n with out:=⟨0,0,0,.zero⟩} m).1.msg 7 m.line=n.msg 7 m.line:=by unfold No.msg;rw[ec]
  rw[J,em];simp only[aa,bc,zD];have n7:=F.au
  refine JQ (H:=j) (m:=n.msg 7 m.line) (hm6.em (F.alloc _)) (Jn _) (by rw[xx];omega) λ v2 N hms f8=>?_;simp only[aa,bc];have f68:Fr Em C N:=(F.alloc _).trans f8 λ _ q=>q.elim;exact⟨⟨_,_,rfl,hms.1,λ q=>by have:=hms.2 q;omega⟩,bv',ks',L.em f68,jI f05 (jI z (mI f68)),λ x q=>(w6 x q).imp id λ w=>by omega⟩
end
end Go.Am
namespace Go.Am
open Go.Proofs Ca
open Lang (ints)
variable{M:ak}[MK M]
section
variable{H0 H:ar}{r b:Nat}{sv bv:AV}{n:No}{ks:List Nat}
def Bo{lines line:Int}{c:Ca}(h:CI lines c):0<=(c.drop line).2.line:=by
 unfold Ca.drop;cases hp:c.kM line 0 with
 |none=>exact ya _
 |some i =>
  rw[rE]at hp;obtain⟨a,d,e,hl,-⟩:=h.bt hp;show 0<=(c.en i).line;rw[hl];exact a
end
end Go.Am
namespace Go.Am
open Go.Proofs Ca
open Lang (ints)
variable{M:ak}[MK M]
structure Bd(n n':No):Prop where
 bk:n'.aK.length<=n.aK.length+1
 us:n'.c.us<=n.c.us+2
section
variable{n:No}
def om(n:No)(x:En):(n.gone x).1.aK.length<=n.aK.length+1/\(n.gone x).1.c=n.c:=by
 unfold No.gone;split
 .exact ⟨by show(n.aK ++ [x.line]).length<=_;rw[qv];exact qg _,rfl⟩
 .exact ⟨ku _,rfl⟩
def V2(n:No)(m:Mg)(st:Int):(n.dM m st).1.aK.length<=n.aK.length+1/\(n.dM m st).1.c.us<=n.c.us+1:=by
 have h:=(WZ n.c m.line st m.d).2;unfold No.dM;split
 .obtain ⟨a,b⟩:=om {n with c:=(n.c.fill m.line st m.d).1} (n.c.fill m.line st m.d).2.1;exact⟨a,by rw[b];show(n.c.fill m.line st m.d).1.us<=_;omega⟩
 .exact ⟨ku _,by show(n.c.fill m.line st m.d).1.us<=_;omega⟩
def F9(n:No)(m:Mg):Bd n (n.fill m).1:=by
 unfold No.fill;generalize(if m.k=15 then(2:Int)else 1)=st;unfold No.lV;split
 .obtain ⟨a,b⟩:=V2 (n.iG 3) m st;have e:(n.iG 3).c.us=n.c.us:=rfl;exact⟨a,by omega⟩
 .obtain ⟨a,b⟩:=V2 n m st;exact⟨a,by omega⟩
def Bd.refl(n:No):Bd n n:=⟨by omega,by omega⟩
def S8(n:No)(k line:Int):Bd n (n.ask k line).1:=by
 unfold No.ask;split
 .exact Bd.refl n
 .exact ⟨ku _,by show n.c.us<=_;omega⟩
def GS(n:No)(m:Mg):Bd n (n.bQ m).1:=by
 unfold No.bQ;split
 .exact Bd.refl n
 split
 .exact ⟨by show(n.lost _ true).aK.length<=_;rw[(Gp _ true).1];omega,by show(Ca.drop _ _).1.us<=_;rw[(L9 ..).2,(Gp _ true).2.2.2];omega⟩
 split
 .cases n.c.find m.line with
  |none=>exact Bd.refl n
  |some x =>
   show Bd n (Prod.fst (if m.k=12 then _ else _));split
   .exact ⟨by show(n.lost _ false).aK.length<=_;rw[(Gp _ false).1];omega,by show(Ca.cO _ _).1.us<=_;rw[(q9n ..).2,(Gp _ false).2.2.2];omega⟩
   .exact ⟨by show(n.lost _ true).aK.length<=_;rw[(Gp _ true).1];omega,by show(Ca.drop _ _).1.us<=_;rw[(L9 ..).2,(Gp _ true).2.2.2];omega⟩
 split
 .exact ⟨by show(n.aK.filter _).length<=_;have:=List.length_filter_le (λ x=>decide (x≠m.line)) n.aK;omega,by show n.c.us<=_;omega⟩
 .cases n.c.find m.line with
  |some x=>exact⟨ku _,by show(n.c.cH m.line m.d).us<=_;rw[(hY ..).2];omega⟩
  |none =>
   obtain⟨a,b⟩:=F9 {n with out:=⟨0,0,0,.zero⟩} m;exact⟨a,b⟩
def G7(n:No)(line:Int):Bd n (n.cT line).1:=by
 unfold No.cT;split
 .exact Bd.refl n
 .cases n.c.find line with
  |none=>exact Bd.refl n
  |some x =>
   have e:∀n':No,n'.aK=n.aK->n'.c.us=n.c.us->Bd n (No.gone {n' with c:=(n'.c.drop line).1} (n'.c.drop line).2).1:=λ n' d f=>by
    obtain⟨a,b⟩:=om {n' with c:=(n'.c.drop line).1} (n'.c.drop line).2;refine⟨by rw[<-d];exact a,?_⟩;rw[b];show(n'.c.drop line).1.us<=_;rw[(L9 ..).2,f];omega
   show Bd n (No.gone _ _).1
   by_cases q:(x.r ||x.w)=true
   .simp only[qr q];exact e (n.iG 4) rfl rfl
   .simp only[qo q];exact e n rfl rfl
def Gz(n:No)(a:Int):Bd n (n.load a).1:=by
 unfold No.load;split
 .cases n.c.find (No.ln a)with
  |none=>exact S8 ..
  |some x =>
   refine⟨ku _,?_⟩;show((if n.live=true then n.c.mark (No.ln a) false else n.c).word a.toNat).1.us<=_;have d:=(Pw (if n.live=true then n.c.mark (No.ln a) false else n.c) a.toNat).2;have e:(if n.live=true then n.c.mark (No.ln a) false else n.c).us=n.c.us:=by split;exact(QM ..).1;rfl
   omega
 .exact Bd.refl n
def Al(n:No)(a y:Int):Bd n (n.store a y).1:=by
 unfold No.store;split
 .split
  .refine ⟨ku _,?_⟩;show((if n.live=true then n.c.mark (No.ln a) true else n.c).put a.toNat y).us<=_;have d:=(Sz (if n.live=true then n.c.mark (No.ln a) true else n.c) a.toNat y).2;have e:(if n.live=true then n.c.mark (No.ln a) true else n.c).us=n.c.us:=by split;exact(QM ..).1;rfl
   omega
  .exact S8 ..
 .exact Bd.refl n
def I4(n:No)(a o y:Int):Bd n (n.lP a o y).1:=by
 unfold No.lP;split
 .split
  .exact Bd.refl n
  .split
   .refine ⟨ku _,?_⟩;have d:=(Pw n.c a.toNat).2;show(if(n.c.word a.toNat).2.getD 0=o then(n.c.word a.toNat).1.put a.toNat y else(n.c.word a.toNat).1).us<=_;split
    .have e:=(Sz (n.c.word a.toNat).1 a.toNat y).2;omega
    .omega
   .exact S8 ..
 .exact Bd.refl n
end
def oV(core lines s w:Int):No:=⟨core,lines,oX s.toNat w.toNat,⟨0,0,0,.zero⟩,[],false,0⟩
def uH(core lines cores s w:Int):Prop:=rV s w/\0<=core/\core<cores/\cores<=4/\2<=lines/\lines<=64
def Bv{core lines cores s w:Int}(h:uH core lines cores s w):(oV core lines s w).NI:=by
 obtain⟨⟨a,b,c,d⟩,-⟩:=h;exact⟨Dv lines (by omega) (by omega),λ _=>xcv s.toNat w.toNat⟩
def dI(lines cores s w:Int):List AV:=[.int .i64 lines,.int .i64 cores,.int .i64 s,.int .i64 w]
def T4(core lines:Int)(b:Nat)(s w:Int):Op.build [.int .i64 0,.int .i64 0,.nilp,.int .i64 0,.int .i64 0,.int .i64 0,.int .u64 0,.int .u64 0,.int .u64 0,.int .u64 0,.int .u64 0,.int .u64 0,.int .u64 0,.int .u64 0,.nils,.bool false,.int .i64 0] [(0,1),(1,1),(2,1)] [.int .i64 core,.int .i64 lines,.ptr b 0]=some (.agg (qV (oV core lines s w) b .nils)):=rfl
def AL(H:ar)(core lines cores s w:Int)(v:AV)(H':ar):Prop:=(¬uH core lines cores s w/\v=.tuple [.nilp,.int .i64 2]/\Fr Em H H')\/uH core lines cores s w /\ ∃r b sv,v=.tuple [.ptr r 0,.int .i64 0]/\cU H H' r b sv .nils (oV core lines s w) []
def xap{H:ar}(core lines cores s w:Int):za M Uu [.int .i64 core,.agg (dI lines cores s w)] H (AL H core lines cores s w):=by
 refine xgm ?_;obtain⟨w0,w4,p⟩:=xgn M ⟨none,Uu⟩;obtain⟨H1,z,A,n1,l⟩:=bX H (OR (dI lines cores s w) xZ);have l2:Op.ae [.ptr H.au 2] H1=some (.int .i64 s):=xz (qy l) 2;have l3:Op.ae [.ptr H.au 3] H1=some (.int .i64 w):=xz (qy l) 3;simp only[aa,bc,w0,<-z,l2,l3];refine C3.q (xgd (M:=M) s w) λ v f⟨t,h⟩=>?_;have x:f.get H.au=some (OR (dI lines cores s w) xZ):=by rw[t.ah _ (by omega) id];exact l
 have l0:Op.ae [.ptr H.au 0] f=some (.int .i64 lines):=xz (qy x) 0;have l1:Op.ae [.ptr H.au 1] f=some (.int .i64 cores):=xz (qy x) 1;have e:Fr Em H f:=A.trans t λ _ q=>q.elim;have D:¬(2:Int)=0:=by decide
 have F:=xb (show(0:Int)=0 from rfl);rcases h with⟨hn,h⟩|⟨ho,b,sv,h,m,hb,hs⟩
 .rw [h];simp only[aa,bc,xe,w4,D];exact .inl ⟨λ q=>hn q.1,rfl,e⟩
 rw[h]
 by_cases g:core<0
 .simp only[aa,bc,xe,w4,g];exact .inl ⟨λ q=>by have:=q.2.1;omega,rfl,e⟩
 by_cases i:cores<=core
 .simp only[aa,bc,xe,w4,g,l1,i];exact .inl ⟨λ q=>by have:=q.2.2.1;omega,rfl,e⟩
 by_cases j:4<cores
 .simp only[aa,bc,xe,w4,g,l1,i,j];exact .inl ⟨λ q=>by have:=q.2.2.2.1;omega,rfl,e⟩
 by_cases o:lines<2
 .simp only[aa,bc,xe,w4,g,l1,i,j,l0,o];exact .inl ⟨λ q=>by have:=q.2.2.2.2.1;omega,rfl,e⟩
 by_cases y:64<lines
 .simp only[aa,bc,xe,w4,g,l1,i,j,l0,o,y];exact .inl ⟨λ q=>by have:=q.2.2.2.2.2;omega,rfl,e⟩
 obtain⟨E,k,u,-,-⟩:=bX f (OR (qV (oV core lines s w) b .nils) Qa);simp only[aa,bc,xe,w4,g,l1,i,j,l0,o,y,p,T4 core lines b s w,<-k];have B:=m.lt;have C:aH sv<f.au:=m.sl.lt
 refine .inr ⟨⟨ho,by omega,by omega,by omega,by omega,by omega⟩,f.au,b,sv,rfl,⟨by rw[k,xf],by rw[k,xx];omega,m.em u,⟨.inl ⟨rfl,rfl⟩,e.trans u λ _ q=>q.elim⟩,rfl,e.au,by omega,by omega,by omega,by omega,λ q=>q.1 rfl,λ q=>q.1 rfl,λ q=>q.1 rfl,⟨by show 2<=lines;omega,by show lines<=64;omega⟩,?_⟩⟩;show(List.replicate (s.toNat*w.toNat) En.zero).length<=40;rw[zr];obtain⟨a,b,c,d⟩:=ho;have:=Nat.mul_le_mul (show s.toNat<=8 by omega) (show w.toNat<=4 by omega);omega
end Go.Am
