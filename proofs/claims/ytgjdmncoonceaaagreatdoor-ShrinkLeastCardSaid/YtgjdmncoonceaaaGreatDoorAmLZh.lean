import Derived.Test.YtgjdmncoonceaaaGreatDoorAmLZf
import Derived.Test.YtgjdmncoonceaaaGreatDoorAmLZg
set_option linter.defProp false
set_option linter.unusedVariables false
set_option linter.unusedSimpArgs false
set_option linter.unusedSectionVars false
set_option maxRecDepth 100000
open Bool renaming false→B2,true→B4
open Go renaming IntKind→PJ
open List renaming replicate→Jr
open Nat renaming beq→JW,ble→Oh,blt→Pk
open Option renaming none→B5,some→B1
open Nat renaming reduceEqDiff→bc
namespace Go.Am
open Go.Proofs Ca
open Lang (ints)
variable{M:ak}[MK M]
def pY(ks:List Nat)(z:Int):Int:=match dI (λ i=>(ks[i]?.getD 0:Int) == z) ks.length with
 |some i=>i
 |none=>-1
section
variable{H H0:ar}{v:AV}{ks:List Nat}
def Ud(h:bR hO 1 H v ks){i:Nat}(c:i<ks.length):Op.aQ 1 [v,.int .i64 (i:Int)]=B1 (.ptr (aF v) (cZ 1 v i))/\Op.ae [.ptr (aF v) (cZ 1 v i)] H=B1 (.int .i64 (ks[i]?.getD 0:Nat)):=by
 have a:ks[i]? = B1 ks[i]:=by simp[c]
 refine⟨h.idx a rfl .i64,?_⟩;rw[h.jQ ag4 a (by decide),a];rfl
def xjb(h:bR hO 1 H v ks)(hl:ks.length<=1000000)(z:Int):ze M Yc [v,.int .i64 z] H λ r H'=>r=.int .i64 (pY ks z)/\H'=H:=by
 refine qwr ?_;obtain⟨w0,w2,j,l,d,g⟩:=qws M ⟨B5,Yc⟩;simp only[aa,bc,w0,w2,h.len];refine cz.intro (λ n E m=>∃i:Nat,E=[(8,.int .i64 (i:Int)),(7,.int .i64 ((ks.length:Nat):Int)),(0,v),(1,.int .i64 z)]/\n=ks.length-i/\i<=ks.length/\m=H /\ ∀k,k<i->((ks[k]?.getD 0:Int) == z)=B2) ?_ ?_
 .exact ⟨_,_,⟨0,rfl,rfl,xx _,rfl,λ k hk=>by omega⟩,by simp only[aa,bc]⟩
 rintro n E m ⟨i,rfl,rfl,s,rfl,a⟩;rcases za i ks.length with c|o
 .have f:(i:Int)<((ks.length:Nat):Int):=by omega
  have⟨ix,ld⟩:=Ud h c;have p:aj .i64 ((i:Int)+1)=((i+1:Nat):Int):=by rw[jj (by omega) (by omega)];omega
  by_cases q:z=((ks[i]?.getD 0:Nat):Int)
  .simp only[aa,bc,l,f,d,ix,ld,xb q];unfold pY;rw[Oi c (by simp[<-q]) a]
  .simp only[aa,bc,l,f,d,ix,ld,q,g,p];refine⟨_,_,⟨i+1,rfl,rfl,by omega,λ k hk=>?_⟩,by simp only[aa,bc],by omega⟩
   by_cases e:k=i
   .rw [e];simpa using λ w=>q w.symm
   .exact a k (by omega)
 .have f:¬(i:Int)<((ks.length:Nat):Int):=by omega
  have e:i=ks.length:=by omega
  subst e;simp only[aa,bc,l,f,j];unfold pY;rw[NM a]
def G0{z:Int}:0<=pY ks z↔z∈ints ks:=by
 unfold pY;cases c:dI (λ i=>(ks[i]?.getD 0:Int) == z) ks.length with
 |some i =>
  obtain⟨a,b,-⟩:=MH c;refine⟨λ _=>?_,λ _=>by show(0:Int)<=(i:Nat);omega⟩;have f:ks[i]? = B1 ks[i]:=by simp[a]
  rw[f]at b;have b:((ks[i]:Nat):Int)=z:=by simpa using b
  rw[<-b];exact Gs.2 ⟨ks[i],zh f,rfl⟩
 |none =>
  refine⟨λ q=>by have q:(0:Int) <= -1:=q;omega,λ q=>?_⟩;exfalso;have⟨k,hk,e⟩:=Gs.1 q;have⟨i,d⟩:=L7 hk;have:=xc0 c i (qo.1 d).1;rw[d]at this;have e:((k:Nat):Int)=z:=e;simp[e]at this
def qvp(h:bR hO 1 H v ks)(hl:ks.length<=1000000)(z:Int):ze M qja [v,.int .i64 z] H λ r H'=>r=.bool (decide (z∈ints ks))/\H'=H:=by
 refine qr2 ?_;simp only[aa,bc,qr3];refine C3.q (xjb h hl z) λ r H1⟨hr,a⟩=>?_;rw[hr,a];simp only[aa,bc];exact congrArg AV.bool (decide_eq_decide.2 G0)
def q8x{t:Nat}{line:Int}(x:Int)(hl:Op.ae [.ptr t 2] H=B1 (.int .i64 line)):ze M Vf [.int .i64 x,.ptr t 0] H λ r H'=>r=.bool (decide (x=line))/\H'=H:=by
 refine qwj ?_
 by_cases q:x=line
 .simp only[aa,bc,_V,hl,xb q]
 .simp only[aa,bc,_V,hl,q]
abbrev IM(t:Nat):AV:=.fn (.func Vf) [] [.ptr t 0]
def xfp{t:Nat}{line:Int}(hl:Op.ae [.ptr t 2] H=B1 (.int .i64 line))(h:bR hO 1 H v ks)(hk:ks.length<=1000000):ze M XB [v,IM t] H λ r H'=>r=.int .i64 (pY ks line)/\H'=H:=by
 refine qqd ?_;obtain⟨w0,w2,j,m,f,g⟩:=qqe M ⟨B5,XB⟩;simp only[aa,bc,w0,w2,h.len];refine cz.intro (λ n E l=>∃i:Nat,E=[(8,.int .i64 (i:Int)),(7,.int .i64 ((ks.length:Nat):Int)),(0,v),(1,IM t)]/\n=ks.length-i/\i<=ks.length/\l=H /\ ∀k,k<i->((ks[k]?.getD 0:Int) == line)=B2) ?_ ?_
 .exact ⟨_,_,⟨0,rfl,rfl,xx _,rfl,λ k hk=>by omega⟩,by simp only[aa,bc]⟩
 rintro n E l ⟨i,rfl,rfl,u,rfl,a⟩;rcases za i ks.length with c|o
 .have d:(i:Int)<((ks.length:Nat):Int):=by omega
  have⟨ix,ld⟩:=Ud h c;have s:aj .i64 ((i:Int)+1)=((i+1:Nat):Int):=by rw[jj (by omega) (by omega)];omega
  simp only[aa,bc,m,d,f,ix,ld];refine C3.q (q8x _ hl) λ r H1⟨hr,p⟩=>?_;rw[hr,p]
  by_cases q:((ks[i]?.getD 0:Nat):Int)=line
  .simp only[aa,bc,q];unfold pY;rw[Oi c (by simp[q]) a]
  .simp only[aa,bc,q,g,s];refine⟨_,_,⟨i+1,rfl,rfl,by omega,λ k hk=>?_⟩,by simp only[aa,bc],by omega⟩
   by_cases e:k=i
   .rw [e];simpa using q
   .exact a k (by omega)
 .have d:¬(i:Int)<((ks.length:Nat):Int):=by omega
  have e:i=ks.length:=by omega
  subst e;simp only[aa,bc,m,d,j];unfold pY;rw[NM a]
def xl9(ks:List Nat)(rest:List AV){i:Nat}(a:i<ks.length)(y:Nat):(ks.flatMap hO++rest).take i ++ [AV.int .i64 (y:Int)]++(ks.flatMap hO++rest).drop (i+1)=(ks.set i y).flatMap hO++rest:=by
 have hl:=wA ks;rw[vn (by omega),List.drop_append_of_le_length (by omega),<-jf];congr 1;rw[NN,NN,List.map_set,List.set_eq_take_append_cons_drop,xg (by rw[xr];exact a)];simp
def mQ.An{e:Nat}(h:mQ e H0 H v ks){i:Nat}(a:i<ks.length)(y:Nat):∃H',Op.store 1 [.ptr (aF v) (cZ 1 v i),.int .i64 (y:Int)] H=B1 (.undef,H')/\mQ e H0 H' v (ks.set i y)/\Fr (aM v) H H':=by
 rcases h.own with⟨rfl,rfl⟩|⟨b,m,rest,rfl,f,c,g,j⟩
 .simp at a
 .have st:=j_ j (o:=i) (n:=1) (v:=.int .i64 (y:Int)) rfl (by rw[qv,wA];omega) rfl;have d:AV.cells (.int .i64 (y:Int))=[.int .i64 (y:Int)]:=rfl;rw[d,xl9 ks rest a]at st;have ho:cZ 1 (AV.gslice b 0 m 1 0 ks.length) i=i:=by simp[cZ]
  rw[ho];refine⟨_,st,⟨.inr ⟨b,m,rest,by rw[xw],f,c,by rw[xw];exact g,xf ..⟩,h.fr.set (.inr c) _⟩,(Fr.refl H).set (W:=aM (AV.gslice b 0 m 1 0 ks.length)) (.inl ⟨by simp,rfl⟩) _⟩
def Ub:∀n:Nat,fM n [AV.int .i64 0]=(Jr n 0).flatMap hO
 |0=>rfl
 |n+1=>by rw[fM,Rc,j6,<-Ub n];rfl
theorem mQ.qY{e:Nat}(h:mQ e H0 H v ks){k:Nat}(hk:k<=ks.length):∃v2 H',Op.aA 1 [B1 0,B5,B5] [v,.int .i64 (k:Int)]=B1 v2/\Op.bP [.int .i64 0] [v2] H=B1 (.tuple [],H')/\mQ e H0 H' v (ks.take k++Jr (ks.length-k) 0)/\Fr (aM v) H H':=by
 rcases h.own with⟨rfl,rfl⟩|⟨b,m,rest,rfl,x,t,C,y⟩
 .have:k=0:=by simpa using hk
  subst this;have i:bound B5 0 0=B1 0:=rfl;refine⟨.nils,H,by simp only[Op.aA,arg,jP,zo,qr,df,i];rfl,rfl,h,Fr.refl _⟩
 .have e1:∀n,JW n n=true:=λ n=>by simp
  have g:∀d m,bound B5 d m=B1 d:=λ _ _=>rfl;refine⟨.gslice b (0+k) m 1 (cond (JW k 0) 0 (0*1)) (ks.length-k),?_⟩;have sl:Op.aA 1 [B1 0,B5,B5] [AV.gslice b 0 m 1 0 ks.length,.int .i64 (k:Int)]=B1 (.gslice b (0+k) m 1 (cond (JW k 0) 0 (0*1)) (ks.length-k)):=by
   simp only[Op.aA,arg,jP,zo,qr,df,g,tH (z:=(k:Int)) (k:=k) rfl hk .i64,e1,ye (show ks.length<=m-0 by omega),ye (xx m),z7,xu]
  have hle:(ks.take k).length=k:=by rw[jr];omega
  by_cases p:ks.length-k=0
  .refine ⟨H,sl,?_,?_,Fr.refl _⟩
   .rw [p];rfl
   .have e2:ks.take k++Jr (ks.length-k) 0=ks:=by rw[p,List.replicate_zero,zn,zi (by omega)]
    rw[e2];exact h
  .have l:eJ (.gslice b (0+k) m 1 (cond (JW k 0) 0 (0*1)) (ks.length-k))=B1 (ks.length-k):=rfl;have f:JW (ks.length-k) 0=false:=by cases s:JW (ks.length-k) 0 with|false=>rfl|true=>rw[ke]at s;exact absurd s p
   have j:Pk 0 (ks.length-k)=true:=by unfold Pk;exact ye (by omega)
   have a:Pk (0+k+0) m=true:=by unfold Pk;exact ye (by omega)
   have he:elemAt 1 (.gslice b (0+k) m 1 (cond (JW k 0) 0 (0*1)) (ks.length-k)) 0=B1 (b,(0+k)*1+0*1):=by
    simp only[elemAt,j,e1,a,z7,xu]
   have o:H.store b ((0+k)*1+0*1) (fM (ks.length-k) [.int .i64 0])=B1 (H.set b (.grown m 1 ((ks.take k++Jr (ks.length-k) 0).flatMap hO++rest) e (0,0))):=by
    have ha:aN (fM (ks.length-k) [AV.int .i64 0])=true:=by
     rw[Ub,vh,NN];simp[aB]
    have w:dE (0,0) ((0+k)*1+0*1) (cQ (fM (ks.length-k) [AV.int .i64 0]))=true:=by simp[dE]
    simp only[ar.store,ha,xu,y,w,AZ];have c:(fM (ks.length-k) [AV.int .i64 0]).length=ks.length-k:=by rw[Ub,wA,zy]
    have u:(0+k)*1+0*1=k:=by omega
    have A:(ks.flatMap hO++rest).take k=(ks.take k).flatMap hO:=by
     rw[vn (by rw[wA];exact hk),NN,NN,List.map_take]
    have B:(ks.flatMap hO++rest).drop (k+(ks.length-k))=rest:=by
     rw[show k+(ks.length-k)=(ks.flatMap hO).length by rw[wA];omega,List.drop_left]
    rw[u,xg (by rw[c,qv,wA];omega),qr,c,A,B,Ub,<-js]
   refine⟨H.set b (.grown m 1 ((ks.take k++Jr (ks.length-k) 0).flatMap hO++rest) e (0,0)),sl,?_,⟨.inr ⟨b,m,rest,?_,x,t,?_,xf ..⟩,h.fr.set (.inr t) _⟩,(Fr.refl H).set (W:=aM (AV.gslice b 0 m 1 0 ks.length)) (.inl ⟨by simp,rfl⟩) _⟩
   .have q:[AV.int .i64 0].length=1:=rfl;simp only[Op.bP,l,qr,f,zp,q,he,o]
   .rw [qv,hle,zy];congr 1;omega
   .rw [qv,hle,zy];omega
def As(ks:List Nat)(line:Int):List Nat:=ks.filter λ k=>((k:Nat):Int) != line
def xfc{t:Nat}{line:Int}{e:Nat}(hl:∀{m:ar},Fr (aM v) H m->Op.ae [.ptr t 2] m=B1 (.int .i64 line))(h:mQ e H0 H v ks)(hk:ks.length<=1000000) :
 ze M YD [v,IM t] H λ r H'=>mQ e H0 H' r (As ks line)/\Fr (aM v) H H' /\ ∀x,aM r x->aM v x:=by
 refine qo0 ?_;obtain⟨w0,w4,O,Q,B,P,C⟩:=qo1 M ⟨B5,YD⟩;simp only[aa,bc,w0];refine C3.q (xfp (hl (Fr.refl _)) h.sl hk) λ r H1⟨hr,I⟩=>?_;rw[hr,I];cases F:dI (λ i=>(ks[i]?.getD 0:Int) == line) ks.length with
 |none =>
  have e1:pY ks line = -1:=by unfold pY;rw[F]
  have e2:As ks line=ks:=by
   unfold As;rw[List.filter_eq_self];intro k p;have⟨i,o⟩:=L7 p;have:=xc0 F i (qo.1 o).1;rw[o]at this
   simpa using this
  rw[e1,e2];have R:=xb (show(-1:Int) = -1 from rfl);simp only[aa,bc,w4];exact⟨h,Fr.refl _,λ x q=>q⟩
 |some a =>
  have⟨T,D,U⟩:=MH F;have e1:pY ks line=(a:Int):=by unfold pY;rw[F]
  rw[e1];have R:¬(a:Int) = -1:=by omega
  have G:aj .i64 ((a:Int)+1)=((a+1:Nat):Int):=by rw[jj (by omega) (by omega)];omega
  -- what is kept of the first ones
  have ah:∀j,(ks.take (j+1)).filter (λ k=>((k:Nat):Int) != line)=(ks.take j).filter (λ k=>((k:Nat):Int) != line)++(match ks[j]? with|none=>[]|some k=>if((k:Nat):Int)=line then[]else[k]):=λ j=>by
   rw[kw,List.filter_append];congr 1;cases ks[j]? with
   |none=>rfl
   |some k=>by_cases q:((k:Nat):Int)=line<;>simp[q]
  have h0:(ks.take a).filter (λ k=>((k:Nat):Int) != line)=ks.take a:=by
   rw[List.filter_eq_self];intro k p;have⟨i,o⟩:=L7 p;rw[JQ]at o;split at o
   .rename_i w;have:=U i w;rw[o]at this
    simpa using this
   .cases o
  have A:ks[a]? = B1 ks[a]:=by simp[T]
  have h1:(ks.take (a+1)).filter (λ k=>((k:Nat):Int) != line)=ks.take a:=by
   rw[ah,h0,A];rw[A]at D;have D:((ks[a]:Nat):Int)=line:=by simpa using D
   simp[D]
  simp only[aa,bc,w4,R,O,G];refine cz.intro (λ n E m=>∃(i j:Nat)(c:List Nat),E=[(6,.int .i64 (j:Int)),(5,.int .i64 (i:Int)),(0,v),(1,IM t)]/\n=ks.length-j/\i<j/\j<=ks.length/\c.length=ks.length/\c.take i=(ks.take j).filter (λ k=>((k:Nat):Int) != line)/\c.drop j=ks.drop j/\mQ e H0 m v c/\Fr (aM v) H m) ?_ ?_
  .exact ⟨_,_,⟨a,a+1,ks,rfl,rfl,by omega,by omega,rfl,h1.symm,rfl,h,Fr.refl _⟩,by simp only[aa,bc]⟩
  rintro n E m ⟨i,j,c,rfl,rfl,hij,hj,z,g,y,hs,f⟩;have u:=hs.sl.len;rw[z]at u;rcases za j ks.length with w|hge
  .have N:(j:Int)<((ks.length:Nat):Int):=by omega
   have⟨ix,ld⟩:=Ud hs.sl (i:=j) (by omega);obtain⟨L,-⟩:=Ud hs.sl (i:=i) (by omega);have K:c[j]? = ks[j]?:=by
    have:=congrArg (λ l=>l[0]?) y
    simpa[wx]using this
   obtain⟨k,s⟩:∃k,ks[j]? = B1 k:=⟨ks[j],by simp[w]⟩
   rw[K,s]at ld;have ld:Op.ae [.ptr (aF v) (cZ 1 v j)] m=B1 (.int .i64 (k:Int)):=ld;have G:aj .i64 ((j:Int)+1)=((j+1:Nat):Int):=by rw[jj (by omega) (by omega)];omega
   have wi:aj .i64 ((i:Int)+1)=((i+1:Nat):Int):=by rw[jj (by omega) (by omega)];omega
   have d:∀l:List Nat,l.drop (j+1)=(l.drop j).drop 1:=λ l=>by rw[FN]
   simp only[aa,bc,B,u,N,P,ix,ld];refine C3.q (q8x _ (hl f)) λ r H2⟨hr,I⟩=>?_;rw[hr,I]
   by_cases q:(k:Int)=line
   .simp only[aa,bc,xb q,C,G];exact⟨_,_,⟨i,j+1,c,rfl,rfl,by omega,by omega,z,by rw[ah,s,g];simp[q],by rw[d,y,<-d],hs,f⟩,by simp only[aa,bc],by omega⟩
   .have ⟨S,s3,J,f3⟩:=hs.An (i:=i) (by omega) k;simp only[aa,bc,q,L,s3,wi,C,G];refine⟨_,_,⟨i+1,j+1,c.set i k,rfl,rfl,by omega,by omega,by rw[xw];exact z,?_,?_,J,f.trans f3 λ _ q=>.inl q⟩,by simp only[aa,bc],by omega⟩
    .rw [ah,s,<-g,kw,zb (by omega),List.take_set_of_le (qm i)];simp[q]
    .rw [List.drop_set_of_lt (by omega),d,y,<-d]
  .have N:¬(j:Int)<((ks.length:Nat):Int):=by omega
   have ej:j=ks.length:=by omega
   subst ej;rw[zi (qm _)]at g;have⟨v2,S,V,W,X,Y⟩:=hs.qY (k:=i) (by omega);have⟨v3,d1,d2,d3⟩:=X.cut (k:=i) (by rw[qv,jr,zy];omega) rfl .i64;have Z:(c.take i++Jr (c.length-i) 0).take i=As ks line:=by
    rw[vn (by rw[jr];omega),List.take_take,Nat.min_self,g];rfl
   rw[Z]at d2;simp only[aa,bc,B,u,N,Q,V,W,d1];exact⟨d2,f.trans Y λ _ q=>.inl q,d3⟩
end
end Go.Am
namespace Go.Am
open Go.Proofs Ca
open Lang (ints)
variable{M:ak}[MK M]
def ao(m:Mg):List AV:=.int .i64 m.k::.int .i64 m.core::.int .i64 m.line::cu m.d
def zj(m:Mg):(ao m).length=11:=by simp[ao,cu,m.d.h]
def ry(m:Mg):aN (ao m)=true:=by rw[vh];simp[ao,cu,aB]
def rZ(n:No)(b:Nat)(bv:AV):List AV:=.int .i64 n.core::.int .i64 n.lines::.ptr b 0::(ao n.out ++ [bv,.bool n.live,.int .i64 n.code])
structure de(H0 H:ar)(r b:Nat)(sv bv:AV)(n:No)(ks:List Nat):Prop where
 row:H.get r=B1 (OR (rZ n b bv) Ph)
 lt:r<H.au
 ca:eh H b sv n.c
 bk:mQ cE H0 H bv ks
 eq:n.aL=ints ks
 lr:H0.au<=r
 lb:H0.au<=b
 ls:H0.au<=aF sv
 n1:r≠b
 n2:r≠aF sv
 o1:¬aM bv r
 o2:¬aM bv b
 o3:¬aM bv (aF sv)
 li:2<=n.lines/\n.lines<=64
 len:n.c.sl.length<=40
def iK(r b:Nat)(sv bv:AV):Nat->Prop:=λ x=>x=r\/nG b sv x\/aM bv x
def sF(H0 H:ar)(r b:Nat)(sv bv:AV)(n':No)(H':ar):Prop:=∃bv' ks',de H0 H' r b sv bv' n' ks'/\Fr (iK r b sv bv) H H' /\ ∀x,aM bv' x->aM bv x\/H.au<=x
section
variable{H0 H:ar}{r b:Nat}{sv bv:AV}{n:No}{ks:List Nat}
def de.em{H':ar}(h:de H0 H r b sv bv n ks)(f:Fr Em H H'):de H0 H' r b sv bv n ks :=
 ⟨by rw[f.ah _ h.lt id];exact h.row,qn h.lt f.au,h.ca.em f,h.bk.em f,h.eq,h.lr,h.lb,h.ls,h.n1,h.n2,h.o1,h.o2,h.o3,h.li,h.len⟩
def de.same(h:de H0 H r b sv bv n ks){H':ar}(f:Fr Em H H'):sF H0 H r b sv bv n H':=⟨bv,ks,h.em f,f.mono λ _ _ q=>q.elim,λ x q=>.inl q⟩
def FE(n:No)(b:Nat)(bv:AV):(rZ n b bv)[0]? = B1 (.int .i64 n.core)/\(rZ n b bv)[1]? = B1 (.int .i64 n.lines)/\(rZ n b bv)[2]? = B1 (.ptr b 0)/\(rZ n b bv)[3]? = B1 (.int .i64 n.out.k)/\(rZ n b bv)[14]? = B1 bv/\(rZ n b bv)[15]? = B1 (.bool n.live)/\(rZ n b bv)[16]? = B1 (.int .i64 n.code)/\((rZ n b bv).drop 3).take 11=ao n.out/\(rZ n b bv).length=17:=by
 have⟨core,lines,c,⟨k,co,l,⟨d,a⟩⟩,aL,live,code⟩:=n
 match d,a with
 |[d0,d1,d2,d3,d4,d5,d6,d7],_=>exact⟨rfl,rfl,rfl,rfl,rfl,rfl,rfl,rfl,rfl⟩
def de.ld(h:de H0 H r b sv bv n ks)(k:Nat):Op.ae [.ptr r k] H=(rZ n b bv)[k]?:=zd (xe h.row) k
def de.l0(h:de H0 H r b sv bv n ks):Op.ae [.ptr r 0] H=B1 (.int .i64 n.core):=(h.ld 0).trans (FE n b bv).1
def de.l1(h:de H0 H r b sv bv n ks):Op.ae [.ptr r 1] H=B1 (.int .i64 n.lines):=(h.ld 1).trans (FE n b bv).2.1
def de.l2(h:de H0 H r b sv bv n ks):Op.ae [.ptr r 2] H=B1 (.ptr b 0):=(h.ld 2).trans (FE n b bv).2.2.1
def de.l3(h:de H0 H r b sv bv n ks):Op.ae [.ptr r 3] H=B1 (.int .i64 n.out.k):=(h.ld 3).trans (FE n b bv).2.2.2.1
def de.vX(h:de H0 H r b sv bv n ks):Op.ae [.ptr r 14] H=B1 bv:=(h.ld 14).trans (FE n b bv).2.2.2.2.1
def de.iJ(h:de H0 H r b sv bv n ks):Op.ae [.ptr r 15] H=B1 (.bool n.live):=(h.ld 15).trans (FE n b bv).2.2.2.2.2.1
def de.lo(h:de H0 H r b sv bv n ks):Op.aq 11 [.ptr r 3] H=B1 (.agg (ao n.out)):=by
 obtain⟨-,-,-,-,-,-,-,e,l⟩:=FE n b bv;rw[se (xe h.row) (by rw[l];decide),e]
theorem de.put(h:de H0 H r b sv bv n ks){n':No}{o m:Nat}{u:AV}(hu:u.cells.length=m)(ho:aN u.cells=B4)(hm:o+m<=17)(e:(rZ n b bv).take o++u.cells++(rZ n b bv).drop (o+m)=rZ n' b bv)(a:n'.c=n.c)(hb:n'.aL=n.aL)(hl:n'.lines=n.lines) :
 ∃H',Op.store m [.ptr r o,u] H=B1 (.undef,H')/\de H0 H' r b sv bv n' ks/\Fr (On r) H H':=by
 have st:=wK h.row (o:=o) (n:=m) (v:=u) hu (by rw[(FE n b bv).2.2.2.2.2.2.2.2];exact hm) ho;rw[e]at st;have f:Fr (On r) H (H.set r (OR (rZ n' b bv) Ph)):=(Fr.refl H).set (W:=On r) (.inl rfl) _;refine⟨_,st,⟨xf ..,h.lt,by rw[a];exact h.ca.fr f (λ(q:b=r)=>h.n1 q.symm) (λ(q:aF sv=r)=>h.n2 q.symm),h.bk.vT f (h.bk.fr.set (.inr h.lr) _) (λ x hx(q:x=r)=>h.o1 (q▸hx)),by rw[hb];exact h.eq,h.lr,h.lb,h.ls,h.n1,h.n2,h.o1,h.o2,h.o3,by rw[hl];exact h.li,by rw[a];exact h.len⟩,f⟩
def de.ub(h:de H0 H r b sv bv n ks)(q:Bool):∃H',Op.store 1 [.ptr r 15,.bool q] H=B1 (.undef,H')/\de H0 H' r b sv bv {n with live:=q} ks/\Fr (On r) H H' :=
 h.put (n':={n with live:=q}) (o:=15) (m:=1) (u:=.bool q) rfl rfl (by decide) (by
  have⟨core,lines,c,⟨k,co,l,⟨d,a⟩⟩,aL,live,code⟩:=n
  match d,a with
  |[d0,d1,d2,d3,d4,d5,d6,d7],_=>rfl) rfl rfl rfl
def de.zH(h:de H0 H r b sv bv n ks)(k:Int):∃H',Op.store 1 [.ptr r 16,.int .i64 k] H=B1 (.undef,H')/\de H0 H' r b sv bv {n with code:=k} ks/\Fr (On r) H H' :=
 h.put (n':={n with code:=k}) (o:=16) (m:=1) (u:=.int .i64 k) rfl rfl (by decide) (by
  have⟨core,lines,c,⟨k,co,l,⟨d,a⟩⟩,aL,live,code⟩:=n
  match d,a with
  |[d0,d1,d2,d3,d4,d5,d6,d7],_=>rfl) rfl rfl rfl
def de.CO(h:de H0 H r b sv bv n ks)(m:Mg):∃H',Op.store 11 [.ptr r 3,.agg (ao m)] H=B1 (.undef,H')/\de H0 H' r b sv bv {n with out:=m} ks/\Fr (On r) H H' :=
 h.put (n':={n with out:=m}) (o:=3) (m:=11) (u:=.agg (ao m)) (by rw[zt];exact zj m) (by rw[zt];exact ry m) (by decide) (by
  have⟨core,lines,c,⟨k,co,l,⟨d,f⟩⟩,aL,live,code⟩:=n;have⟨k',co',g,⟨e,a⟩⟩:=m
  match d,f,e,a with
  |[d0,d1,d2,d3,d4,d5,d6,d7],_,[e0,e1,e2,e3,e4,e5,e6,e7],_=>rfl) rfl rfl rfl
def de.iD(h:de H0 H r b sv bv n ks){c:Ca}{H':ar}(d:eh H' b sv c)(f:Fr (nG b sv) H H')(hl:c.sl.length<=40):de H0 H' r b sv bv {n with c:=c} ks :=
 ⟨by rw[f.ah _ h.lt (λ q=>q.elim h.n1 h.n2)];exact h.row,qn h.lt f.au,d,h.bk.vT f (h.bk.fr.trans f λ x q=>q.elim (λ q=>.inr (by rw[q];exact h.lb)) λ q=>.inr (by rw[q];exact h.ls)) (λ x a q=>q.elim (λ q=>h.o2 (q▸a)) λ q=>h.o3 (q▸a)),h.eq,h.lr,h.lb,h.ls,h.n1,h.n2,h.o1,h.o2,h.o3,h.li,hl⟩
def sF.of{n':No}{H':ar}{a:List Nat}(h:de H0 H' r b sv bv n' a)(f:Fr (iK r b sv bv) H H'):sF H0 H r b sv bv n' H':=⟨bv,a,h,f,λ x q=>.inl q⟩
def Nb{H1 a:ar}(f:Fr (On r) H1 a):Fr (iK r b sv bv) H1 a:=f.mono λ _ _ q=>.inl q
def xL{H1 a:ar}(f:Fr (nG b sv) H1 a):Fr (iK r b sv bv) H1 a:=f.mono λ _ _ q=>.inr (.inl q)
def nI{H1 a:ar}(f:Fr Em H1 a):Fr (iK r b sv bv) H1 a:=f.mono λ _ _ q=>q.elim
def jW{H1 a c:ar}(f:Fr (iK r b sv bv) H1 a)(g:Fr (iK r b sv bv) a c):Fr (iK r b sv bv) H1 c:=f.trans g λ _ q=>.inl q
def V9(h:de H0 H r b sv bv n ks)(a:Int):ze M Zz [.ptr r 0,.int .i64 a] H λ v H'=>v=.int .i64 (if n.may a then 0 else 2)/\H'=H:=by
 refine q58 ?_;obtain⟨w0,w2,d⟩:=q59 M ⟨B5,Zz⟩;have hl:=h.li;have f:aj .i64 (n.lines*8)=n.lines*8:=jj (by omega) (by omega)
 by_cases c:a<0
 .have hm:¬n.may a:=λ q=>by have:=q.1;omega
  simp only[aa,bc,w0,w2,yq,c];rw[qy hm]
 by_cases e:n.lines*8<=a
 .have hm:¬n.may a:=λ q=>by have:=q.2;omega
  simp only[aa,bc,w0,w2,yq,c,qt,h.l1,f,e];rw[qy hm]
 .have hm:n.may a:=⟨by omega,by omega⟩
  simp only[aa,bc,w0,w2,yq,c,qt,h.l1,f,e,d];rw[xg hm]
def mZ:[AV.int .i64 0,.int .i64 0,.int .i64 0,.int .u64 0,.int .u64 0,.int .u64 0,.int .u64 0,.int .u64 0,.int .u64 0,.int .u64 0,.int .u64 0]=ao ⟨0,0,0,.zero⟩:=rfl
def T4(k co l:Int):Op.build (ao ⟨0,0,0,.zero⟩) [(0,1),(1,1),(2,1)] [.int .i64 k,.int .i64 co,.int .i64 l]=B1 (.agg (ao ⟨k,co,l,.zero⟩)):=rfl
def F0(h:de H0 H r b sv bv n ks)(k line:Int):ze M qqt [.ptr r 0,.int .i64 k,.int .i64 line] H λ v H'=>v=.agg (ao (n.msg k line))/\Fr Em H H':=by
 refine q6a ?_;obtain⟨H1,e1,a,-,d⟩:=cq H (OR (ao ⟨0,0,0,.zero⟩) xp);have s1:=fG d (zj _) (zj (n.msg k line)) (ry _);have ld:=eH (xf H1 H.au (OR (ao (n.msg k line)) xp)) (zj _);have c:Op.build (ao ⟨0,0,0,.zero⟩) [(0,1),(1,1),(2,1)] [.int .i64 k,.int .i64 n.core,.int .i64 line]=B1 (.agg (ao (n.msg k line))):=T4 ..;simp only[aa,bc,q6b,mZ,<-e1,qt,(h.em a).l0,c,s1,ld];exact a.set (.inr (qm _)) _
def xmt(h:de H0 H r b sv bv n ks):ze M qpj [.ptr r 0] H λ v H'=>v=.bool n.live/\H'=H:=by
 refine q05 ?_;simp only[aa,bc,q06,mh,qt,h.iJ]
def J9(h:de H0 H r b sv bv n ks)(k:Int):ze M qng [.ptr r 0,.int .i64 k] H λ _ H'=>de H0 H' r b sv bv (n.iY k) ks/\Fr (iK r b sv bv) H H':=by
 refine qyg ?_;simp only[aa,bc,qyh,qt,h.l2];refine C3.q (xcq h.ca h.len) λ _ H1⟨g,d⟩=>?_;have a:=h.iD g d (by show(n.c.sl.map back).length<=40;rw[xr];exact h.len);have⟨m,s2,i,e⟩:=a.ub B2;have⟨o,l,j,f⟩:=i.zH k;simp only[aa,bc,qt,s2,l];exact⟨j,jW (jW (xL d) (Nb e)) (Nb f)⟩
def xic(h:de H0 H r b sv bv n ks)(k:Int):ze M Xp [.ptr r 0,.int .i64 k] H λ v H'=>v=.int .i64 (n.abort k).2/\de H0 H' r b sv bv (n.abort k).1 ks/\Fr (iK r b sv bv) H H':=by
 refine qx9 ?_;obtain⟨w0,w2,g,c⟩:=qya M ⟨B5,Xp⟩;have iJ:=h.iJ;cases hl:n.live with
 |false =>
  have a:n.abort k=(n,40):=by unfold No.abort;rw[hl];rfl
  rw[hl]at iJ;rw[a];simp only[aa,bc,w0,w2,yq,qt,iJ];exact⟨h,Fr.refl _⟩
 |true =>
  rw[hl]at iJ
  by_cases d:k<1
  .have a:n.abort k=(n,2):=by unfold No.abort;rw[hl,xg rfl,xg (.inl d)]
   rw[a];simp only[aa,bc,w0,w2,yq,qt,iJ,c,d];exact⟨h,Fr.refl _⟩
  by_cases f:7<k
  .have a:n.abort k=(n,2):=by unfold No.abort;rw[hl,xg rfl,xg (.inr f)]
   rw[a];simp only[aa,bc,w0,w2,yq,qt,iJ,c,d,f];exact⟨h,Fr.refl _⟩
  have a:n.abort k=(n.iY k,0):=by unfold No.abort;rw[hl,xg rfl,qy (by omega)]
  rw[a];simp only[aa,bc,w0,w2,yq,qt,iJ,c,d,f,g];refine C3.q (J9 h k) λ _ H1⟨e,i⟩=>?_;simp only[aa,bc];exact⟨e,i⟩
end
end Go.Am
namespace Go.Am
open Go.Proofs Ca
open Lang (ints)
variable{M:ak}[MK M]
def mL(H H':ar)(v:AV)(ms:List Mg):Prop:=bR ao 11 H' v ms/\(ms≠[]->H.au<=aF v)
def mL.nil(H H':ar):mL H H' .nils []:=⟨⟨rfl,rfl⟩,λ q=>absurd rfl q⟩
def Ba(m:Mg):Op.buildSlice xp 1 (ao ⟨0,0,0,.zero⟩) [(0,11)] [.agg (ao m)]=B1 (OR (ao m) xp,Op.sliceTo 1 1):=VV xp 11 (ao ⟨0,0,0,.zero⟩) (.agg (ao m)) (zj _) (by rw[zt];exact zj m)
def Ky{H:ar}(m:Mg):gW ao xp 11 (H.alloc (OR (ao m) xp)) (Op.sliceTo 1 1 H.au) [m]:=⟨H.au,rfl,by rw[xz];omega,by rw[xq];simp⟩
def K9{H H0:ar}(m:Mg)(h:H0.au<=H.au):mL H0 (H.alloc (OR (ao m) xp)) (Op.sliceTo 1 1 H.au) [m]:=⟨(Ky m).sl zj,λ _=>h⟩
section
variable{H0 H:ar}{r b:Nat}{sv bv:AV}{n:No}{ks:List Nat}
def de.kl(h:de H0 H r b sv bv n ks):n.aL.length=ks.length:=by rw[h.eq];unfold ints;rw[xr]
def U6(h:de H0 H r b sv bv n ks)(hk:n.aL.length<=900000)(k line:Int):ze M Zh [.ptr r 0,.int .i64 k,.int .i64 line] H λ v H'=>mL H H' v (n.ask k line).2/\de H0 H' r b sv bv (n.ask k line).1 ks/\Fr (iK r b sv bv) H H':=by
 refine q56 ?_;obtain⟨w0,w2,i⟩:=q57 M ⟨B5,Zh⟩;have p:=h.kl
 by_cases d:n.out.k=0
 .simp only[aa,bc,w0,w2,qt,h.l3,xb d,h.vX];refine C3.q (qvp h.bk.sl (by omega) line) λ v H1⟨g,o⟩=>?_;rw[g,o,<-h.eq]
  by_cases e:line∈n.aL
  .have a:n.ask k line=(n,[]):=by unfold No.ask;rw[xg (.inr e)]
   rw[a];simp only[aa,bc,xb e];exact⟨mL.nil ..,h,Fr.refl _⟩
  .have a:n.ask k line=({n with out:=n.msg k line},[n.msg k line]):=by unfold No.ask;rw[qy (λ q=>q.elim (λ q=>q d) e)]
   rw[a];simp only[aa,bc,e,i];refine C3.q (F0 h k line) λ v t⟨g,j⟩=>?_;rw[g];have⟨f,s,l,m⟩:=(h.em j).CO (n.msg k line);have lo:=l.lo;have c:Fr (iK r b sv bv) H f:=jW (nI j) (Nb m);simp only[aa,bc,qt,s,lo,mZ,Ba];exact⟨K9 _ c.au,l.em ((Fr.refl f).alloc _),jW c (nI ((Fr.refl f).alloc _))⟩
 .have a:n.ask k line=(n,[]):=by unfold No.ask;rw[xg (.inl d)]
  rw[a];simp only[aa,bc,w0,w2,qt,h.l3,d];exact⟨mL.nil ..,h,Fr.refl _⟩
def jY{H1:ar}(e:En):Op.store 21 [.ptr H1.au 0,.agg (aw e)] (H1.alloc (OR (aw .zero) xk))=B1 (.undef,(H1.alloc (OR (aw .zero) xk)).set H1.au (OR (aw e) xk)):=fG (xq ..) (z4 _) (z4 e) (ux e)
def zR{H1:ar}(o o':bE):Fr Em H1 ((H1.alloc o).set H1.au o'):=((Fr.refl H1).alloc _).set (.inr (qm _)) _
def q87{line:Int}(h:de H0 H r b sv bv n ks)(a:CI n.lines n.c):ze M lh [.ptr r 0,.int .i64 line] H λ v H'=>v=.bool (n.owned line)/\Fr Em H H':=by
 refine qyi ?_;simp only[aa,bc,qyj,qt,h.l2];refine C3.q (Pu h.ca a line) λ v H1⟨g,d⟩=>?_;rw[g];unfold nZ No.owned;cases i:n.c.find line with
 |none =>
  simp only[aa,bc,xj,eZ,jY];exact d.trans (zR _ _) λ _ q=>q.elim
 |some e =>
  have l1:Op.ae [.ptr H1.au 1] ((H1.alloc (OR (aw .zero) xk)).set H1.au (OR (aw e) xk))=B1 (.int .i64 e.st):=zd (xe (xf ..)) 1;have f:Fr Em H ((H1.alloc (OR (aw .zero) xk)).set H1.au (OR (aw e) xk)):=d.trans (zR _ _) λ _ q=>q.elim
  by_cases q:e.st=2
  .simp only[aa,bc,xj,eZ,jY,l1,xb q];exact⟨by rw[q];rfl,f⟩
  .simp only[aa,bc,xj,eZ,jY,l1,q];exact⟨by simp[q],f⟩
def uz(H0 H:ar)(r b:Nat)(sv bv:AV)(n:No)(ks:List Nat)(a:Int)(v:AV)(H':ar):Prop:=(∃ov,v=.tuple [.int .u64 (n.load a).2.1,.bool (n.load a).2.2.1,ov,.int .i64 (n.load a).2.2.2.2]/\mL H H' ov (n.load a).2.2.2.1)/\de H0 H' r b sv bv (n.load a).1 ks/\Fr (iK r b sv bv) H H'
def xmv(h:de H0 H r b sv bv n ks)(j:CI n.lines n.c)(hk:n.aL.length<=900000)(hu:n.c.us+1<=1000000)(a:Int):ze M QI [.ptr r 0,.int .i64 a] H (uz H0 H r b sv bv n ks a):=by
 refine q08 ?_;obtain⟨w0,w2,G,I,z,J⟩:=q09 M ⟨B5,QI⟩;simp only[aa,bc,w0,w2];refine C3.q (V9 h a) λ v H1⟨y,S⟩=>?_;rw[y,S]
 by_cases hm:n.may a
 case neg =>
  have p:n.load a=(n,0,B2,[],2):=by unfold No.load;rw[qy hm]
  have U:¬(2:Int)=0:=by decide
  rw[qy hm];unfold uz;rw[p];simp only[aa,bc,U];exact⟨⟨.nils,rfl,mL.nil ..⟩,h,Fr.refl _⟩
 rw[xg hm];have hl:=h.li;have⟨L,T⟩:=hm;obtain⟨f,rfl⟩:=jk L;have t:f<1000000:=by omega
 have P:No.ln (Int.ofNat f)=((f / 8:Nat):Int):=rfl;have Y:=xb (show(0:Int)=0 from rfl);simp only[aa,bc,G,AB t,I,qt,h.l2];refine C3.q (Pu h.ca j ((f / 8:Nat):Int)) λ v H1⟨y,K⟩=>?_;rw[y];have w:n.may (f:Int):=⟨L,T⟩
 unfold nZ;cases D:n.c.find ((f / 8:Nat):Int)with
 |none =>
  have p:n.load (f:Int)=((n.ask 1 ((f / 8:Nat):Int)).1,0,B2,(n.ask 1 ((f / 8:Nat):Int)).2,0):=by
   unfold No.load;rw[xg w];show(match n.c.find ((f / 8:Nat):Int)with|none=>_|some _=>_)=_;rw[D];rfl
  have l:Fr Em H ((H1.alloc (OR (aw .zero) xk)).set H1.au (OR (aw .zero) xk)):=K.trans (zR _ _) λ _ q=>q.elim;simp only[aa,bc,xj,eZ,jY];refine C3.q (U6 (h.em l) hk 1 ((f / 8:Nat):Int)) λ v V⟨x,hn,o⟩=>?_;unfold uz;rw[p];simp only[aa,bc];refine⟨⟨v,rfl,x.1,λ q=>x9 l.au (x.2 q)⟩,hn,jW (nI l) o⟩
 |some e =>
  obtain⟨i,hp,rfl⟩:=SG D;have l:Fr Em H ((H1.alloc (OR (aw .zero) xk)).set H1.au (OR (aw (n.c.en i)) xk)):=K.trans (zR _ _) λ _ q=>q.elim;obtain⟨Hb,m⟩:∃X,X=(H1.alloc (OR (aw .zero) xk)).set H1.au (OR (aw (n.c.en i)) xk):=⟨_,rfl⟩
  rw[<-m]at l;have hb:=h.em l;have iJ:=hb.iJ
  -- behind the mark
  have fin:∀{A:ar}{c:Ca},de H0 A r b sv bv {n with c:=c} ks->CI n.lines c->c.us+1<=1000000->Fr (iK r b sv bv) H A->c=(if n.live then n.c.mark ((f / 8:Nat):Int) B2 else n.c)->c.pos ((f / 8:Nat):Int)=B1 i -> ∀{E:Env},lk E 0=B1 (.ptr r 0)->lk E 1=B1 (.int .i64 (f:Int)) ->
   W M ⟨B5,QI⟩ (q07 30) B4 (eG M [.tmp 4,.tmp 5,.tmp 6,.tmp 7] (uZ (uz H0 H r b sv bv n ks (f:Int)))) E [] A:=by
   intro A c B u F o O g E Q R;have p:n.load (f:Int)=({n with c:=(c.word f).1},(c.word f).2.getD 0,B4,[],0):=by
    unfold No.load;rw[xg w];show(match n.c.find ((f / 8:Nat):Int)with|none=>_|some _=>_)=_;rw[D,O];rfl
   simp only[aa,bc,J,Q,qt,B.l2,R];refine C3.q (xen B.ca u F t) λ v N⟨y,C,s⟩=>?_;rw[y];have hw:(c.word f).2=B1 ((c.en i).d.get (f % 8)):=by unfold Ca.word;rw[g]
   unfold zO;rw[g];have hlen:(c.word f).1.sl.length<=40:=by
    have:=B.len;unfold Ca.word;rw[g];show(c.sl.set i _).length<=40;rw[xw];exact this
   have hn:=B.iD C s hlen;unfold uz;rw[p,hw];simp only[aa,bc,xj];exact⟨⟨.nils,rfl,mL.nil ..⟩,hn,jW o (xL s)⟩
  cases k:n.live with
  |false =>
   rw[k]at iJ;simp only[aa,bc,xj,eZ,jY,<-m,z,qt,iJ];exact fin (c:=n.c) (by have:({n with c:=n.c}:No)=n:=rfl;rw[this];exact hb) j hu (nI l) (by rw[k];rfl) hp rfl rfl
  |true =>
   rw[k]at iJ;simp only[aa,bc,xj,eZ,jY,<-m,z,qt,iJ,hb.l2];refine C3.q (χ hb.ca j ((f / 8:Nat):Int) B2) λ _ N⟨C,s⟩=>?_;have em:n.c.mark ((f / 8:Nat):Int) B2=n.c.set i {n.c.en i with r:=B4}:=by unfold Ca.mark;rw[qy (by decide),sN,hp]
   have hlen:(n.c.mark ((f / 8:Nat):Int) B2).sl.length<=40:=by rw[em];show(n.c.sl.set i _).length<=40;rw[xw];exact h.len
   have g:(n.c.mark ((f / 8:Nat):Int) B2).pos ((f / 8:Nat):Int)=B1 i:=by
    rw[em];have sh:Gk n.c {n.c.set i {n.c.en i with r:=B4}with us:=n.c.us}:=Gk.set n.c.us rfl rfl;exact(sh.pos _).trans hp
   simp only[aa,bc];exact fin (c:=n.c.mark ((f / 8:Nat):Int) B2) (hb.iD C s hlen) (j.mark _ _) (by rw[em];exact hu) (jW (nI l) (xL s)) (by rw[k];rfl) g rfl rfl
end
end Go.Am
namespace Go.Am
open Go.Proofs Ca
open Lang (ints)
variable{M:ak}[MK M]
section
variable{H0 H:ar}{r b:Nat}{sv bv:AV}{n:No}{ks:List Nat}
def xnd{line:Int}(h:n.owned line=B4):∃i,n.c.pos line=B1 i/\(n.c.en i).st=2:=by
 unfold No.owned at h;cases a:n.c.find line with
 |none=>rw[a]at h;cases h
 |some x =>
  rw[a]at h;obtain⟨i,hp,rfl⟩:=SG a;exact⟨i,hp,by simpa using h⟩
def S0(c:Ca)(line:Int)(wr:Bool):(c.mark line wr).us=c.us/\(c.mark line wr).sl.length=c.sl.length:=by
 unfold Ca.mark;cases wr with
 |true =>
  rw[xg rfl];cases c.lK line 2 with
  |none=>exact⟨rfl,rfl⟩
  |some i =>
   show(if(c.en i).w then c else c.set i _).us=_/\(if(c.en i).w then c else c.set i _).sl.length=_;split
   .exact ⟨rfl,rfl⟩
   .exact ⟨rfl,xw⟩
 |false =>
  rw[qy (by decide)];cases c.lK line 0 with
  |none=>exact⟨rfl,rfl⟩
  |some i=>exact⟨rfl,xw⟩
def S6(c:Ca)(a:Nat)(y:Int):(c.put a y).sl.length=c.sl.length/\((c.put a y).us=c.us\/(c.put a y).us=c.us+1):=by
 unfold Ca.put;cases c.lK ((a / 8:Nat):Int) 2 with
 |none=>exact⟨rfl,.inl rfl⟩
 |some i=>exact⟨xw,.inr rfl⟩
def R4(c:Ca)(a:Nat):(c.word a).1.sl.length=c.sl.length/\((c.word a).1.us=c.us\/(c.word a).1.us=c.us+1):=by
 unfold Ca.word;cases c.pos ((a / 8:Nat):Int)with
 |none=>exact⟨rfl,.inl rfl⟩
 |some i=>exact⟨xw,.inr rfl⟩
def qU(H0 H:ar)(r b:Nat)(sv bv:AV)(n:No)(ks:List Nat)(a y:Int)(v:AV)(H':ar):Prop:=(∃ov,v=.tuple [.bool (n.store a y).2.1,ov,.int .i64 (n.store a y).2.2.2]/\mL H H' ov (n.store a y).2.2.1)/\de H0 H' r b sv bv (n.store a y).1 ks/\Fr (iK r b sv bv) H H'
def xkl(h:de H0 H r b sv bv n ks)(e:CI n.lines n.c)(hk:n.aL.length<=900000)(hu:n.c.us+1<=1000000)(a y:Int):ze M PM [.ptr r 0,.int .i64 a,.int .u64 y] H (qU H0 H r b sv bv n ks a y):=by
 refine qye ?_;obtain⟨w0,w2,B,C,t,D⟩:=qyf M ⟨B5,PM⟩;simp only[aa,bc,w0,w2];refine C3.q (V9 h a) λ v H1⟨x,N⟩=>?_;rw[x,N]
 by_cases hm:n.may a
 case neg =>
  have i:n.store a y=(n,B2,[],2):=by unfold No.store;rw[qy hm]
  have P:¬(2:Int)=0:=by decide
  rw[qy hm];unfold qU;rw[i];simp only[aa,bc,P];exact⟨⟨.nils,rfl,mL.nil ..⟩,h,Fr.refl _⟩
 rw[xg hm];have hl:=h.li;have⟨F,O⟩:=hm;obtain⟨d,rfl⟩:=jk F;have m:d<1000000:=by omega
 have p:n.may (d:Int):=⟨F,O⟩
 have j:No.ln (d:Int)=((d / 8:Nat):Int):=rfl;have R:=xb (show(0:Int)=0 from rfl);simp only[aa,bc,B,AB m,C];refine C3.q (q87 (line:=((d / 8:Nat):Int)) h e) λ v H1⟨x,k⟩=>?_;rw[x];have hb:=h.em k;cases ho:n.owned ((d / 8:Nat):Int)with
 |false =>
  have i:n.store (d:Int) y=((n.ask 2 ((d / 8:Nat):Int)).1,B2,(n.ask 2 ((d / 8:Nat):Int)).2,0):=by
   unfold No.store;rw[xg p,j,ho];rfl
  simp only[aa,bc];refine C3.q (U6 hb hk 2 ((d / 8:Nat):Int)) λ v Q⟨s,hn,g⟩=>?_;unfold qU;rw[i];simp only[aa,bc];exact⟨⟨v,rfl,s.1,λ q=>x9 k.au (s.2 q)⟩,hn,jW (nI k) g⟩
 |true =>
  have iJ:=hb.iJ;have fin:∀{u:ar}{c:Ca},de H0 u r b sv bv {n with c:=c} ks->CI n.lines c->c.us+1<=1000000->Fr (iK r b sv bv) H u->c=(if n.live then n.c.mark ((d / 8:Nat):Int) B4 else n.c) -> ∀{E:Env},lk E 0=B1 (.ptr r 0)->lk E 1=B1 (.int .i64 (d:Int))->lk E 2=B1 (.int .u64 y) ->
   W M ⟨B5,PM⟩ (qyd 28) B4 (eG M [.tmp 6,.tmp 7,.tmp 8] (uZ (qU H0 H r b sv bv n ks (d:Int) y))) E [] u:=by
   intro u c w o A g I E J K L;have i:n.store (d:Int) y=({n with c:=c.put d y},B4,[],0):=by
    unfold No.store;rw[xg p,j,ho,xg rfl,I];rfl
   simp only[aa,bc,D,J,qt,w.l2,K,L];refine C3.q (xh0 w.ca o A m y) λ v G⟨x,z,l⟩=>?_;have hn:=w.iD z l (by rw[(S6 c d y).1];exact w.len);unfold qU;rw[i];simp only[aa,bc];exact⟨⟨.nils,rfl,mL.nil ..⟩,hn,jW g (xL l)⟩
  cases f:n.live with
  |false =>
   rw[f]at iJ;simp only[aa,bc,t,qt,iJ];exact fin (c:=n.c) (by have:({n with c:=n.c}:No)=n:=rfl;rw[this];exact hb) e hu (nI k) (by rw[f];rfl) rfl rfl rfl
  |true =>
   rw[f]at iJ;simp only[aa,bc,t,qt,iJ,hb.l2];refine C3.q (χ hb.ca e ((d / 8:Nat):Int) B4) λ _ G⟨z,l⟩=>?_;simp only[aa,bc];exact fin (c:=n.c.mark ((d / 8:Nat):Int) B4) (hb.iD z l (by rw[(S0 ..).2];exact h.len)) (e.mark _ _) (by rw[(S0 ..).1];exact hu) (jW (nI k) (xL l)) (by rw[f];rfl) rfl rfl rfl
def XO(h:de H0 H r b sv bv n ks)(x:En)(too:Bool):ze M qpk [.ptr r 0,.agg (aw x),.bool too] H λ _ H'=>de H0 H' r b sv bv (n.lost x too) ks/\Fr (iK r b sv bv) H H':=by
 refine q1e ?_;obtain⟨H1,e1,a,-,i⟩:=cq H (OR (aw x) xk);have l0:Op.ae [.ptr H.au 0] H1=B1 (.int .i64 x.line):=zd (xe i) 0;have l2:Op.ae [.ptr H.au 2] H1=B1 (.bool x.r):=zd (xe i) 2;have l3:Op.ae [.ptr H.au 3] H1=B1 (.bool x.w):=zd (xe i) 3;have e:=h.em a;have stay:(x.w ||(x.r && too))=B2->n.lost x too=n:=λ q=>by unfold No.lost;rw[q];rfl
 have go2:(x.w ||(x.r && too))=B4->x.line=0->n.lost x too=n.iY 2:=λ q j=>by unfold No.lost;rw[q,xg rfl,xg j]
 have f:(x.w ||(x.r && too))=B4 -> ¬x.line=0->n.lost x too=n.iY 1:=λ q j=>by unfold No.lost;rw[q,xg rfl,qy j]
 cases hw:x.w with
 |true =>
  rw[hw]at l3
  by_cases q:x.line=0
  .rw [go2 (by rw[hw];rfl) q];simp only[aa,bc,Nr,<-e1,l3,l0,xb q];refine C3.q (J9 e 2) λ _ g⟨d,c⟩=>?_;simp only[aa,bc];exact⟨d,jW (nI a) c⟩
  .rw [f (by rw[hw];rfl) q];simp only[aa,bc,Nr,<-e1,l3,l0,q];refine C3.q (J9 e 1) λ _ g⟨d,c⟩=>?_;simp only[aa,bc];exact⟨d,jW (nI a) c⟩
 |false =>
  rw[hw]at l3;cases hr:x.r with
  |false =>
   rw[hr]at l2;rw[stay (by rw[hw,hr];rfl)];simp only[aa,bc,Nr,<-e1,l3,l2];exact⟨e,nI a⟩
  |true =>
   rw[hr]at l2;cases too with
   |false =>
    rw[stay (by rw[hw,hr];rfl)];simp only[aa,bc,Nr,<-e1,l3,l2];exact⟨e,nI a⟩
   |true =>
    by_cases q:x.line=0
    .rw [go2 (by rw[hw,hr];rfl) q];simp only[aa,bc,Nr,<-e1,l3,l2,l0,xb q];refine C3.q (J9 e 2) λ _ g⟨d,c⟩=>?_;simp only[aa,bc];exact⟨d,jW (nI a) c⟩
    .rw [f (by rw[hw,hr];rfl) q];simp only[aa,bc,Nr,<-e1,l3,l2,l0,q];refine C3.q (J9 e 1) λ _ g⟨d,c⟩=>?_;simp only[aa,bc];exact⟨d,jW (nI a) c⟩
end
end Go.Am
namespace Go.Am
open Go.Proofs Ca
open Lang (ints)
variable{M:ak}[MK M]
def Al(H H':ar)(v:AV)(ms:List Mg):Prop:=(v=.nils/\ms=[]) \/ ∃m a,v=Op.sliceTo 1 1 a/\ms=[m]/\H.au<=a/\a<H'.au/\H'.get a=B1 (OR (ao m) xp)
def Al.ms{H H':ar}{v:AV}{ms:List Mg}(h:Al H H' v ms):mL H H' v ms:=by
 rcases h with⟨rfl,rfl⟩|⟨m,a,rfl,rfl,c,d,f⟩
 .exact mL.nil ..
 .exact ⟨gW.sl (e:=xp) zj ⟨a,rfl,d,by rw[f];simp⟩,λ _=>c⟩
def Al.one{H H0:ar}(m:Mg)(h:H0.au<=H.au):Al H0 (H.alloc (OR (ao m) xp)) (Op.sliceTo 1 1 H.au) [m]:=.inr ⟨m,H.au,rfl,rfl,h,by rw[xz];omega,xq ..⟩
section
variable{H0 H:ar}{r b:Nat}{sv bv:AV}{n:No}{ks:List Nat}
def de.Jz(h:de H0 H r b sv bv n ks){a:AV}{g:List Nat}{H1:ar}(hs:mQ cE H0 H1 a g)(f:Fr (aM bv) H H1)(A:∀x,aM a x->aM bv x\/H.au<=x) :
 ∃j,Op.store 1 [.ptr r 14,a] H1=B1 (.undef,j)/\de H0 j r b sv a {n with aL:=ints g} g/\Fr (iK r b sv bv) H j:=by
 have s:=h.ca.lt;have t:aF sv<H.au:=h.ca.sl.lt;have i:∀x,x<H.au -> ¬aM bv x -> ¬aM a x:=λ x B y q=>(A x q).elim y λ w=>by omega
 have u:H1.get r=B1 (OR (rZ n b bv) Ph):=by rw[f.ah _ h.lt h.o1];exact h.row
 have o1:aB a=true:=by have:=Sl.one hs.sl;exact this
 have hu:AV.cells a=[a]:=by
  rcases hs.own with⟨rfl,_⟩|⟨b,m,rest,rfl,_⟩<;>rfl
 have st:=wK u (o:=14) (n:=1) (v:=a) (by rw[hu];rfl) (by rw[(FE n b bv).2.2.2.2.2.2.2.2];decide) (by rw[hu];simp[vh,o1]);have e:(rZ n b bv).take 14++AV.cells a++(rZ n b bv).drop (14+1)=rZ n b a:=by
  rw[hu];have⟨core,lines,c,⟨k,co,l,⟨d,z⟩⟩,aL,live,code⟩:=n
  match d,z with
  |[d0,d1,d2,d3,d4,d5,d6,d7],_=>rfl
 rw[e]at st;have p:Fr (On r) H1 (H1.set r (OR (rZ n b a) Ph)):=(Fr.refl H1).set (W:=On r) (.inl rfl) _;have fn:=f.au;refine⟨_,st,⟨xf ..,qn h.lt fn,(h.ca.fr f h.o2 h.o3).fr p (λ(q:b=r)=>h.n1 q.symm) (λ(q:aF sv=r)=>h.n2 q.symm),hs.vT p (hs.fr.set (.inr h.lr) _) (λ x hx(q:x=r)=>i r h.lt h.o1 (q▸hx)),rfl,h.lr,h.lb,h.ls,h.n1,h.n2,i _ h.lt h.o1,i _ s h.o2,i _ t h.o3,h.li,h.len⟩,?_⟩;exact(f.mono λ _ _ q=>.inr (.inr q)).trans p λ x q=>.inl (.inl q)
def FA(ks:List Nat)(x:Nat):ints (ks ++ [x])=ints ks ++ [(x:Int)]:=by simp[ints]
def XE(m:Mg)(d:L8):(ao m).take 3++(AV.agg (cu d)).cells++(ao m).drop (3+8)=ao {m with d:=d}:=by
 have⟨k,co,l,⟨e,he⟩⟩:=m;have⟨d,a⟩:=d
 match e,he,d,a with
 |[d0,d1,d2,d3,d4,d5,d6,d7],_,[e0,e1,e2,e3,e4,e5,e6,e7],_=>rfl
def B6(x:En):((aw x).drop 4).take 8=cu x.d:=by
 have⟨line,st,r,w,⟨d,a⟩,⟨o,ho⟩,u⟩:=x
 match d,a,o,ho with
 |[d0,d1,d2,d3,d4,d5,d6,d7],_,[e0,e1,e2,e3,e4,e5,e6,e7],_=>rfl
def rp(H0 H:ar)(r b:Nat)(sv bv:AV)(a:No×List Mg)(v:AV)(H':ar):Prop:=Al H H' v a.2/\sF H0 H r b sv bv a.1 H'
def xc2(h:de H0 H r b sv bv n ks)(hk:n.aL.length<=900000)(x:En)(Q:0<=x.line):ze M X0 [.ptr r 0,.agg (aw x)] H (rp H0 H r b sv bv (n.gone x)):=by
 refine q1c ?_;obtain⟨w0,w2,D⟩:=q1d M ⟨B5,X0⟩;obtain⟨H1,e1,s,-,u⟩:=cq H (OR (aw x) xk);have l0:Op.ae [.ptr H.au 0] H1=B1 (.int .i64 x.line):=zd (xe u) 0;have l1:Op.ae [.ptr H.au 1] H1=B1 (.int .i64 x.st):=zd (xe u) 1;have z:=h.em s;have n1:H.au<H1.au:=by rw[e1,xz];omega
 by_cases q:x.st=2
 case neg =>
  have p:n.gone x=(n,[]):=by unfold No.gone;rw[qy q]
  rw[p];simp only[aa,bc,w0,<-e1,w2,l1,q];exact⟨.inl ⟨rfl,rfl⟩,h.same s⟩
 have p:n.gone x=({n with aL:=n.aL ++ [x.line]},[⟨3,n.core,x.line,x.d⟩]):=by unfold No.gone;rw[xg q]
 rw[p];have⟨ln,c⟩:=jk Q;rw[c]at l0;simp only[aa,bc,w0,<-e1,w2,l1,xb q,D,qt,z.vX,l0];have O:=h.kl;refine z.bk.push (x:=ln) rfl (by omega) (by omega) λ l Y hs L g=>?_;have⟨k,W,G,t⟩:=z.Jz hs L g;have I:k.get H.au=B1 (OR (aw x) xk):=by
  rw[t.ah _ n1 ?_];exact u;rintro(q|q|q)
  .have:=h.lt;omega
  .have Z:=h.ca.lt;have h5:aF sv<H.au:=h.ca.sl.lt;exact q.elim (λ q=>by omega) λ q=>by omega
  .have:=h.bk.fresh _ q;omega
 have U:H.au<k.au:=by have:=t.au;omega
 have l0:Op.ae [.ptr H.au 0] k=B1 (.int .i64 (ln:Int)):=by rw[<-c];exact zd (xe I) 0
 simp only[aa,bc,W,l0];refine C3.q (F0 G 3 (ln:Int)) λ v a⟨P,j⟩=>?_;rw[P];have S:a.get H.au=B1 (OR (aw x) xk):=by rw[j.ah _ U id];exact I
 obtain⟨m,hm⟩:∃m,m=No.msg {n with aL:=ints (ks ++ [ln])} 3 (ln:Int):=⟨_,rfl⟩
 have A:({m with d:=x.d}:Mg)=⟨3,n.core,x.line,x.d⟩:=by rw[hm,c];rfl
 rw[<-hm];have J:=fG (xq a (OR (ao ⟨0,0,0,.zero⟩) xp)) (zj _) (zj m) (ry _);obtain⟨f,i⟩:∃X,X=(a.alloc (OR (ao ⟨0,0,0,.zero⟩) xp)).set a.au (OR (ao m) xp):=⟨_,rfl⟩
 rw[<-i]at J;have E:Fr Em a f:=by rw[i];exact zR _ _
 have N:f.get a.au=B1 (OR (ao m) xp):=by rw[i,xf]
 have V:H.au<a.au:=by have:=j.au;omega
 have T:f.get H.au=B1 (OR (aw x) xk):=by rw[E.ah _ V id];exact S
 have B:Op.aq 8 [.ptr H.au 4] f=B1 (.agg (cu x.d)):=by rw[se (xe T) (by rw[z4];decide),B6]
 have K:=wK N (o:=3) (n:=8) (v:=.agg (cu x.d)) (by rw[zt];exact yk _) (by rw[zj];decide) (by rw[zt];exact uk _);rw[XE,A]at K;have C:=eH (xf f a.au (OR (ao ⟨3,n.core,x.line,x.d⟩) xp)) (zj _);simp only[aa,bc,mZ,J,B,K,C,Ba];have n5:f.au=a.au+1:=by rw[i];rfl
 have F:Fr Em a (f.set a.au (OR (ao ⟨3,n.core,x.line,x.d⟩) xp)):=E.set (.inr (qm _)) _;refine⟨Al.one _ (by rw[tO];omega),l,ks ++ [ln],?_,?_,?_⟩
 .have e:({n with aL:=ints (ks ++ [ln])}:No) = {n with aL:=n.aL ++ [x.line]}:=by rw[FA,c,h.eq]
  rw[<-e];exact(G.em (j.trans F λ _ q=>q.elim)).em ((Fr.refl _).alloc _)
 .exact ((nI s).trans t λ x q=>.inl q).em ((j.trans F λ _ q=>q.elim).alloc _)
 .exact λ y R=>(g y R).imp id λ w=>by omega
end
end Go.Am
namespace Go.Am
open Go.Proofs Ca
open Lang (ints)
variable{M:ak}[MK M]
def zE(off:Nat)(n:Option Nat)(t rest:aR)(x y:List AV):aY (.part off n t rest) (.agg x) (.agg y)=(partAt x off n).bind λ a=>(partAt y off n).bind λ b=>(aY t a b).bind λ q=>cond q (aY rest (.agg x) (.agg y)) (B1 B2):=rfl
def wo(x:List AV)(k:Nat):partAt x k B5=nth x k:=rfl
def iG{k:Nat}{t:aR}{l c:List AV}{K:PJ}{a b:Int}{P:Prop}[Decidable P](h:nth l k=B1 (.int K a))(d:nth c k=B1 (.int K b))(hp:aY t (.agg l) (.agg c)=B1 (decide P)) :
 aY (.part k B5 .int t) (.agg l) (.agg c)=B1 (decide (a=b/\P)):=by
 have q:aY .int (.int K a) (.int K b)=B1 (decide (a=b)):=by
  have e:sO K K=true:=by cases K<;>rfl
  simp only[aY,BV,e,xu];rfl
 rw[zE,wo,wo,h,d,qr,qr,q,qr,hp]
 by_cases e:a=b
 .simp [e]
 .simp [e]
abbrev Uu:aR:=.part 0 B5 .int (.part 1 B5 .int (.part 2 B5 .int (.part 3 B5 .int (.part 4 B5 .int (.part 5 B5 .int (.part 6 B5 .int (.part 7 B5 .int .nil)))))))
def nB(d e:L8):aY Uu (.agg (cu d)) (.agg (cu e))=B1 (decide (d=e)):=by
 have⟨d,m⟩:=d;have⟨e,he⟩:=e
 match d,m,e,he with
 |[d0,d1,d2,d3,d4,d5,d6,d7],_,[e0,e1,e2,e3,e4,e5,e6,e7],_ =>
  rw[iG (P:=d1=e1/\d2=e2/\d3=e3/\d4=e4/\d5=e5/\d6=e6/\d7=e7/\True) (a:=d0) (b:=e0) (K:=.u64) rfl rfl (iG rfl rfl (iG rfl rfl (iG rfl rfl (iG rfl rfl (iG rfl rfl (iG rfl rfl (iG rfl rfl rfl)))))))];congr 1;exact decide_eq_decide.2 ⟨λ q=>by obtain⟨a0,c,f,g,h,i,j,k,-⟩:=q;subst a0 c f g h i j k;rfl,λ q=>by
   have q:=congrArg L8.l q;injection q with o q;injection q with p q;injection q with s q;injection q with t q;injection q with u q;injection q with v q;injection q with w q;injection q with x q
   exact⟨o,p,s,t,u,v,w,x,trivial⟩⟩
abbrev _N:aR:=.part 0 B5 .int (.part 1 B5 .int (.part 2 B5 .int (.part 3 (B1 8) Uu .nil)))
def eqM(m e:Mg):aY _N (.agg (ao m)) (.agg (ao e))=B1 (decide (m=e)):=by
 have f:aY (.part 3 (B1 8) Uu .nil) (.agg (ao m)) (.agg (ao e))=B1 (decide (m.d=e.d)):=by
  have p:∀x:Mg,partAt (ao x) 3 (B1 8)=B1 (.agg (cu x.d)):=λ x=>by
   have⟨k,co,l,⟨d,g⟩⟩:=x
   match d,g with
   |[d0,d1,d2,d3,d4,d5,d6,d7],_=>rfl
  rw[zE,p,p,qr,qr,nB,qr];cases decide (m.d=e.d)<;>rfl
 rw[iG (P:=m.core=e.core/\m.line=e.line/\m.d=e.d) (a:=m.k) (b:=e.k) (K:=.i64) rfl rfl (iG rfl rfl (iG rfl rfl f))];congr 1;refine decide_eq_decide.2 ⟨λ q=>?_,λ q=>by rw[q];exact⟨rfl,rfl,rfl,rfl⟩⟩;have⟨a,b,c,d⟩:=q;cases m;cases e;simp only at a b c d;subst a b c d;rfl
def Pj(m a:Mg)(H:ar):Op.eq (.agg _N) B2 [.agg (ao m),.agg (ao a)] H=B1 (.bool (decide (m=a))):=tg _ _ _ _ _ (eqM m a)
section
variable{H0 H:ar}{r b:Nat}{sv bv:AV}{n:No}{ks:List Nat}
def xdj(h:de H0 H r b sv bv n ks)(hk:n.aL.length<=900000)(m:Mg)(x:En):ze M Wf [.ptr r 0,.agg (ao m),.agg (aw x)] H λ v H'=>v=.bool (decide (n.jV m x))/\Fr Em H H':=by
 refine qun ?_;obtain⟨w0,w2,B,i,j,u⟩:=qup M ⟨B5,Wf⟩;obtain⟨H1,e1,E,n1,-⟩:=cq H (OR (ao m) xp);obtain⟨w,e2,y,-,F⟩:=cq H1 (OR (aw x) xk);have p:Fr Em H w:=E.trans y λ _ q=>q.elim;have D:w.get H.au=B1 (OR (ao m) xp):=by rw[y.ah _ (by omega) id,e1,xq]
 have f:Op.ae [.ptr H.au 0] w=B1 (.int .i64 m.k):=zd (xe D) 0;have t:Op.ae [.ptr H.au 2] w=B1 (.int .i64 m.line):=zd (xe D) 2;have ls:Op.ae [.ptr H1.au 1] w=B1 (.int .i64 x.st):=zd (xe F) 1;have s:=h.em p;have d:∀(P Q:Prop)[Decidable P][Decidable Q],(P↔Q)->AV.bool (decide P)=.bool (decide Q):=λ P Q _ _ q=>by congr 1;exact decide_eq_decide.2 q
 by_cases a:m.k=11
 .simp only[aa,bc,w0,<-e1,<-e2,w2,f,xb a,ls];exact⟨by congr 1;simp[No.jV,a],p⟩
 by_cases c:m.k=12
 .simp only[aa,bc,w0,<-e1,<-e2,w2,f,a,ls,i,xb c,j];exact⟨by congr 1;simp[No.jV,c],p⟩
 by_cases e:m.k=13
 .simp only[aa,bc,w0,<-e1,<-e2,w2,f,a,ls,i,c,xb e,j];exact⟨by congr 1;simp[No.jV,e],p⟩
 by_cases g:m.k=14
 .simp only[aa,bc,w0,<-e1,<-e2,w2,f,a,i,c,e,j,xb g,qt,s.lo,t];refine C3.q (F0 s 1 m.line) λ v C⟨A,z⟩=>?_;rw[A];simp only[aa,bc,(s.em z).lo,Pj];exact⟨by congr 1;simp[No.jV,g],p.trans z λ _ q=>q.elim⟩
 by_cases l:m.k=15
 .simp only[aa,bc,w0,<-e1,<-e2,w2,f,a,i,c,e,j,g,u,xb l,qt,s.lo,t];refine C3.q (F0 s 2 m.line) λ v C⟨A,z⟩=>?_;rw[A];simp only[aa,bc,(s.em z).lo,Pj];exact⟨by congr 1;simp[No.jV,l],p.trans z λ _ q=>q.elim⟩
 by_cases o:m.k=16
 .have I:=h.kl;simp only[aa,bc,w0,<-e1,<-e2,w2,f,a,i,c,e,j,g,u,l,xb o,qt,s.vX,t];refine C3.q (qvp s.bk.sl (by omega) m.line) λ v C⟨A,G⟩=>?_;rw[A,G];simp only[aa,bc];exact⟨by congr 1;simp[No.jV,o,h.eq],p⟩
 .simp only[aa,bc,w0,<-e1,<-e2,w2,f,a,i,c,e,j,g,u,l,o,B];exact⟨by congr 1;simp[No.jV,a,c,e,g,l,o],p⟩
def XM(c:Ca)(line st:Int)(d:L8):(c.fill line st d).1.sl.length=c.sl.length/\((c.fill line st d).1.us=c.us\/(c.fill line st d).1.us=c.us+1):=by
 unfold Ca.fill;cases c.pos line with
 |some i=>exact⟨rfl,.inl rfl⟩
 |none =>
  cases c.room line with
  |none=>exact⟨rfl,.inl rfl⟩
  |some i=>exact⟨xw,.inr rfl⟩
def ae9{lines line st:Int}{c:Ca}{d:L8}(h:CI lines c)(hs:(c.fill line st d).2.1.st≠0):0<=(c.fill line st d).2.1.line:=by
 unfold Ca.fill at hs⊢;cases hp:c.pos line with
 |some i=>rw[hp]at hs;exact absurd rfl hs
 |none =>
  rw[hp]at hs;cases hr:c.room line with
  |none=>rw[hr]at hs;exact absurd rfl hs
  |some i =>
   rw[hr]at hs;have hs:(c.en i).st≠0:=hs;show 0<=(c.en i).line;rcases za i c.sl.length with q|q
   .exact (h.ok i q hs).2.1
   .rw [Vb q]at hs;exact absurd rfl hs
def GB{line st:Int}{c:Ca}{d:L8}(h:(c.fill line st d).2.2=22):(c.fill line st d).1=c:=by
 unfold Ca.fill at h⊢;cases hp:c.pos line with
 |some i=>rfl
 |none =>
  rw[hp]at h;cases hr:c.room line with
  |none=>rfl
  |some i=>rw[hr]at h;exact absurd h (show¬(0:Int)=22 by decide)
def Al.from{H H1 H':ar}{v:AV}{ms:List Mg}(h:Al H1 H' v ms)(f:H.au<=H1.au):Al H H' v ms:=by
 rcases h with q|⟨m,a,c,d,e,g,i⟩
 .exact .inl q
 .exact .inr ⟨m,a,c,d,x9 f e,g,i⟩
def sF.from{n':No}{H1 H':ar}(f:Fr (iK r b sv bv) H H1)(h:sF H0 H1 r b sv bv n' H'):sF H0 H r b sv bv n' H':=by
 have⟨a,c,d,e,g⟩:=h;have fn:=f.au;exact⟨a,c,d,jW f e,λ x q=>(g x q).imp id λ w=>by omega⟩
def sF.em{n':No}{H1 H':ar}(h:sF H0 H r b sv bv n' H1)(f:Fr Em H1 H'):sF H0 H r b sv bv n' H':=by
 have⟨a,c,d,e,g⟩:=h;exact⟨a,c,d.em f,e.em f,g⟩
def de.off{W:Nat->Prop}{H':ar}(h:de H0 H r b sv bv n ks)(f:Fr W H H')(hw:∀x,W x->H0.au<=x /\ ¬iK r b sv bv x):de H0 H' r b sv bv n ks :=
 ⟨by rw[f.ah _ h.lt λ q=>(hw _ q).2 (.inl rfl)];exact h.row,qn h.lt f.au,h.ca.fr f (λ q=>(hw _ q).2 (.inr (.inl (.inl rfl)))) (λ q=>(hw _ q).2 (.inr (.inl (.inr rfl)))),h.bk.vT f (h.bk.fr.trans f λ x q=>.inr (hw x q).1) (λ x a q=>(hw x q).2 (.inr (.inr a))),h.eq,h.lr,h.lb,h.ls,h.n1,h.n2,h.o1,h.o2,h.o3,h.li,h.len⟩
def rp.from{a:No×List Mg}{H1 H':ar}{v:AV}(f:Fr (iK r b sv bv) H H1)(h:rp H0 H1 r b sv bv a v H'):rp H0 H r b sv bv a v H':=⟨h.1.from f.au,h.2.from f⟩
def xjv(h:de H0 H r b sv bv n ks)(i:CI n.lines n.c)(hk:n.aL.length<=900000)(hu:n.c.us+1<=1000000)(m:Mg)(hm:0<=m.line):ze M Ol [.ptr r 0,.agg (ao m)] H (rp H0 H r b sv bv (n.fill m)):=by
 refine q1a ?_;obtain⟨w0,w4,w10,I,J,w28⟩:=q1b M ⟨B5,Ol⟩;have⟨H1,e1,f1,n1,O⟩:=cq H (OR (ao m) xp);have G:Op.ae [.ptr H.au 0] H1=B1 (.int .i64 m.k):=zd (xe O) 0;have T:=h.em f1;have hlr:=h.lt;have hlb:=h.ca.lt;have hls:aF sv<H.au:=h.ca.sl.lt;have V:=h.bk.fresh;have off:∀y,H.au<=y -> ¬iK r b sv bv y:=λ y hy q=>by
  rcases q with q|q|q
  .omega
  .exact q.elim (λ q=>by omega) λ q=>by omega
  .have:=V _ q;omega
 -- the line's words
 have D:∀{w:ar},w.get H.au=B1 (OR (ao m) xp)->Op.aq 8 [.ptr H.au 3] w=B1 (.agg (cu m.d)):=λ g=>by
  rw[se (xe g) (by rw[zj];decide)];have⟨k,co,l,⟨d,hd⟩⟩:=m
  match d,hd with
  |[d0,d1,d2,d3,d4,d5,d6,d7],_=>rfl
 have F:∀{w:ar},w.get H.au=B1 (OR (ao m) xp)->Op.ae [.ptr H.au 2] w=B1 (.int .i64 m.line):=λ g=>zd (xe g) 2
 -- what fK is told
 have fin:∀{n':No}{st:Int}{u:ar}{t:Nat},de H0 u r b sv bv {n' with c:=(n'.c.fill m.line st m.d).1} ks->CI n'.lines n'.c->n'.aL=n.aL->Fr (iK r b sv bv) H u->u.get t=B1 (OR (aw (n'.c.fill m.line st m.d).2.1) xk)->n.fill m=n'.d8 m st ->
  ∀{E:Env},lk E 0=B1 (.ptr r 0)->lk E 6=B1 (.ptr t 0)->lk E 4=B1 .nils->lk E 7=B1 (.bool (decide ((n'.c.fill m.line st m.d).2.2=0/\(n'.c.fill m.line st m.d).2.1.st≠0))) ->
  W M ⟨B5,Ol⟩ (qp0 20) B4 (eG M [.tmp 4] (uZ (rp H0 H r b sv bv (n.fill m)))) E [] u:=by
  intro n' st u t hc B hb hf hg hn E p q6 q4 q7;rw[hn];unfold No.d8
  by_cases q:(n'.c.fill m.line st m.d).2.2=0/\(n'.c.fill m.line st m.d).2.1.st≠0
  .have Q:lk E 7=B1 (.bool B4):=by rw[q7,yj q]
   rw[xg q];have ld:=eH (n:=21) hg (z4 _);simp only[aa,bc,J,Q,w28,p,q6,ld];refine C3.q (xc2 hc (by show n'.aL.length<=_;rw[hb];exact hk) _ (ae9 B q.2)) λ v a U=>?_;simp only[aa,bc];exact U.from hf
  .have Q:lk E 7=B1 (.bool B2):=by rw[q7,ku q]
   rw[qy q];simp only[aa,bc,J,Q];exact⟨.inl ⟨rfl,rfl⟩,sF.of hc hf⟩
 -- put in
 have main:∀{st:Int},st=1\/st=2->n.fill m=n.mW m st -> ∀{E:Env},lk E 0=B1 (.ptr r 0)->lk E 3=B1 (.ptr H.au 0)->lk E 4=B1 .nils->lk E 5=B1 (.int .i64 st)->W M ⟨B5,Ol⟩ (qp0 10) B4 (eG M [.tmp 4] (uZ (rp H0 H r b sv bv (n.fill m)))) E [] H1:=by
  intro st C hn E p q3 q4 q5;simp only[aa,bc,w10,p,q3,q5,qt,T.l2,F O,D O];refine C3.q (xcx T.ca i hu hm C m.d) λ v a⟨hv,U,L⟩=>?_;rw[hv];unfold pJ;have k2:a.get H.au=B1 (OR (ao m) xp):=by rw[L.ah _ (by omega) (λ q=>q.elim (λ q=>by omega) λ q=>by omega)];exact O
  have n2:=L.au;have Y:=T.iD U L (by rw[(XM ..).1];exact h.len);obtain⟨s,z⟩:∃X,X=(a.alloc (OR (aw .zero) xk)).set a.au (OR (aw (n.c.fill m.line st m.d).2.1) xk):=⟨_,rfl⟩
  have R:Fr Em a s:=by rw[z];exact zR _ _
  have g3:s.get a.au=B1 (OR (aw (n.c.fill m.line st m.d).2.1) xk):=by rw[z,xf]
  have n3:s.au=a.au+1:=by rw[z];rfl
  have k3:s.get H.au=B1 (OR (ao m) xp):=by rw[R.ah _ (by omega) id];exact k2
  have o:=Y.em R;have A:Fr (iK r b sv bv) H s:=jW (jW (nI f1) (xL L)) (nI R)
  by_cases q:(n.c.fill m.line st m.d).2.2=22
  case neg =>
   have j:n.fill m=n.d8 m st:=by rw[hn];unfold No.mW;rw[qy q]
   simp only[aa,bc,xj,eZ,jY,<-z,I,q];exact fin o i rfl A g3 j p rfl q4 rfl
  .have j:n.fill m=(n.iY 3).d8 m st:=by rw[hn];unfold No.mW;rw[xg q]
   have ec:({n with c:=(n.c.fill m.line st m.d).1}:No)=n:=by rw[GB q]
   rw[ec]at o;simp only[aa,bc,xj,eZ,jY,<-z,I,xb q,p];refine C3.q (J9 o 3) λ _ H4⟨P,N⟩=>?_;have k4:H4.get H.au=B1 (OR (ao m) xp):=by rw[N.ah _ (by omega) (off _ (qm _))];exact k3
   have g4:H4.get a.au=B1 (OR (aw (n.c.fill m.line st m.d).2.1) xk):=by rw[N.ah _ (by omega) (off _ (by omega))];exact g3
   have n4:=N.au;simp only[aa,bc,q3,q5,qt,P.l2,F k4,D k4];have f:CI n.lines (n.iY 3).c:=i.discard;refine C3.q (xcx P.ca f hu hm C m.d) λ v K⟨hv,h5,S⟩=>?_;rw[hv];unfold pJ;have g5:K.get a.au=B1 (OR (aw (n.c.fill m.line st m.d).2.1) xk):=by rw[S.ah _ (by omega) (λ q=>q.elim (λ q=>by omega) λ q=>by omega)];exact g4
   have s6:=fG g5 (z4 _) (z4 ((n.iY 3).c.fill m.line st m.d).2.1) (ux _);have Z:=P.iD h5 S (by rw[(XM ..).1];exact P.len);have f6:Fr (On a.au) K (K.set a.au (OR (aw ((n.iY 3).c.fill m.line st m.d).2.1) xk)):=(Fr.refl K).set (W:=On a.au) (.inl rfl) _;simp only[aa,bc,xj,s6];refine fin (n':=n.iY 3) (t:=a.au) ?_ f rfl ?_ (xf ..) j p rfl q4 rfl
   .exact Z.off f6 (λ x(hx:x=a.au)=>by rw[hx];exact⟨by have:=h.bk.fr.au;omega,off _ (by omega)⟩)
   .exact (jW (jW A N) (xL S)).set (.inr (by omega)) _
 by_cases e:m.k=15
 .simp only[aa,bc,w0,<-e1,w4,G,xb e];exact main (.inr rfl) (by unfold No.fill;rw[xg e]) rfl rfl rfl rfl
 .simp only[aa,bc,w0,<-e1,w4,G,e];exact main (.inl rfl) (by unfold No.fill;rw[qy e]) rfl rfl rfl rfl
end
end Go.Am
namespace Go.Am
open Go.Proofs Ca
open Lang (ints)
variable{M:ak}[MK M]
def xk8{H:ar}{e size bytes b n:Nat}{cells:List AV}(h:Sl H size (.slice b 0 n n) n cells)(hn:0<n){x:AV}{k:Nat}{new:List AV}(i:Sl H size x k new)(hk:0<k)(d:aN new=B4)(hs:0<size)
 (s:(n+k)*bytes<=140737488355328) (f:n+k<=140737488355328) {K:Bool->AV->ar->Prop} {m:Bool}
 (p:∀j H',Own H' e size j (n+k) (cells++new)->Fr Em H H'->(∀c,aM j c->H.au<=c)->K m j H'):jF m (Op.append e size bytes [.slice b 0 n n,x] H) K:=by
 have a:=T7 s f;have hlen:new.length=k*size:=i.1;have g:=AN hs;have o:Oh (n+k) n=false:=by cases t:Oh (n+k) n with|false=>rfl|true=>rw[uh]at t;omega
 have l:Op.append e size bytes [.slice b 0 n n,x] H=B1 (dC H e size (n+k) (cells++new) (0,0)):=by
  simp only[Op.append,i.eJ,i.first,qr,d,xu,cO,o,zp,a,ye (show n<=n+k by omega),g,z7,h.first,pO]
 rw[l];refine jF.intro rfl (p _ _ ⟨by rw[qv,h.1,hlen,y9],.inr ⟨H.au,rfl,by rw[xz];omega,?_⟩⟩ ((Fr.refl H).alloc _) λ c q=>by rw[q.2];exact qm _);rw[ar.bN,xg rfl]
def Al.em{H H1 H':ar}{v:AV}{ms:List Mg}(h:Al H H1 v ms)(f:Fr Em H1 H'):Al H H' v ms:=by
 rcases h with q|⟨m,a,d,e,g,c,i⟩
 .exact .inl q
 .exact .inr ⟨m,a,d,e,g,qn c f.au,by rw[f.ah _ c id];exact i⟩
def Lp{H H':ar}{v a:AV}{ms:List Mg}{m:Mg}(h:Al H H' v ms)(x:gW ao xp 11 H' a [m])(hl:H.au<=H'.au){K:Bool->AV->ar->Prop}
 (g:∀v2 c,mL H c v2 (ms ++ [m])->Fr Em H' c->K B4 v2 c):jF B4 (Op.append xp 11 88 [v,a] H') K:=by
 have xs:=x.sl zj;have i:aN ([m].flatMap ao)=true:=by rw[j6,List.flatMap_nil,zn];exact ry m
 rcases h with⟨rfl,rfl⟩|⟨l,b,rfl,rfl,s,j,k⟩
 .refine Tl (Own.nil H' xp 11) xs i (by decide) (by simp) (by simp) λ v2 c o f w=>g v2 c ⟨?_,λ _=>?_⟩ (f.mono λ y _ q=>(q.1 rfl).elim)
  .have:=Own.sl o;exact this
  .have d:v2≠ .nils:=λ q=>by
    subst q;have:=Own.sl o;exact absurd this.2 (by intro z;cases z)
   exact(w _ ⟨d,rfl⟩).elim (λ q=>(q.1 rfl).elim) λ q=>by omega
 .have p:bR ao 11 H' (Op.sliceTo 1 1 b) [l]:=gW.sl (e:=xp) zj ⟨b,rfl,j,by rw[k];simp⟩;refine xk8 (b:=b) (n:=1) (e:=xp) p (by decide) xs (by simp) i (by decide) (by simp) (by simp) λ v2 c o f w=>g v2 c ⟨?_,λ _=>?_⟩ f
  .have:=Own.sl o;unfold bR;rw[js];exact this
  .have d:v2≠ .nils:=λ q=>by
    subst q;have:=Own.sl o;exact absurd this.2 (by intro z;cases z)
   have:=w _ ⟨d,rfl⟩;omega
section
variable{H0 H:ar}{r b:Nat}{sv bv:AV}{n:No}{ks:List Nat}
def af2(ks:List Nat)(line:Int):ints (As ks line)=(ints ks).filter (· ≠line):=by
 unfold ints As;rw[List.filter_map];congr 1;refine List.filter_congr λ k _=>?_;show((k:Int) != line)=decide ((k:Int)≠line)
 by_cases q:(k:Int)=line<;>simp[q]
def KF(c:Ca)(line:Int):nZ c line=.tuple [.agg (aw ((c.find line).getD .zero)),.bool (c.find line).isSome]:=by
 unfold nZ;cases c.find line<;>rfl
def fS{x:En}{too:Bool}(h:CI n.lines n.c):CI n.lines (n.lost x too).c:=by
 unfold No.lost;split
 .split
  .exact h.discard
  .exact h.discard
 .exact h
def HS(x:En)(too:Bool):(n.lost x too).aL=n.aL/\(n.lost x too).core=n.core/\(n.lost x too).lines=n.lines/\(n.lost x too).c.us=n.c.us:=by
 unfold No.lost;split
 .split<;>exact⟨rfl,rfl,rfl,rfl⟩
 .exact ⟨rfl,rfl,rfl,rfl⟩
def Ny(c:Ca)(line:Int):(c.drop line).1.sl.length=c.sl.length/\(c.drop line).1.us=c.us:=by
 unfold Ca.drop;cases c.lK line 0 with
 |none=>exact⟨rfl,rfl⟩
 |some i=>exact⟨xw,rfl⟩
def xcn(c:Ca)(line:Int):(c.da line).1.sl.length=c.sl.length/\(c.da line).1.us=c.us:=by
 unfold Ca.da;cases c.lK line 2 with
 |none=>exact⟨rfl,rfl⟩
 |some i=>exact⟨xw,rfl⟩
def q89(c:Ca)(line:Int)(d:L8):(c.cS line d).sl.length=c.sl.length/\(c.cS line d).us=c.us:=by
 unfold Ca.cS;cases c.lK line 1 with
 |none=>exact⟨rfl,rfl⟩
 |some i=>exact⟨xw,rfl⟩
def xmj(n:No)(x:En):(n.gone x).1.core=n.core:=by unfold No.gone;split<;>rfl
def xmg(n:No)(m:Mg):(n.fill m).1.core=n.core:=by
 have e:∀(n:No)(st:Int),(n.d8 m st).1.core=n.core:=λ n st=>by
  unfold No.d8;split
  .exact xmj ..
  .rfl
 unfold No.fill;generalize(if m.k=15 then(2:Int)else 1)=st;unfold No.mW;split
 .exact e (n.iY 3) st
 .exact e n st
def uI(H0 H:ar)(r b:Nat)(sv bv:AV)(a:No×List Mg)(v:AV)(H':ar):Prop:=(∃ov e,v=.tuple [ov,e]/\mL H H' ov a.2)/\sF H0 H r b sv bv a.1 H'
def xku(h:de H0 H r b sv bv n ks)(U:CI n.lines n.c)(hk:n.aL.length<=900000)(hu:n.c.us+1<=1000000)(m:Mg):ze M vd [.ptr r 0,.agg (ao m)] H (uI H0 H r b sv bv (n.bX m)):=by
 refine q03 ?_;obtain⟨w0,w2,w10,w12,Z,w73,w34,w75,w40,w85,w41,w49,w53,w61⟩:=q04 M ⟨B5,vd⟩;have⟨H1,e1,f1,n1,g1⟩:=cq H (OR (ao m) xp);have hlr:=h.lt;have hlb:=h.ca.lt;have hls:aF sv<H.au:=h.ca.sl.lt;have hbf:=h.bk.fresh;have off:∀y,H.au<=y -> ¬iK r b sv bv y:=λ y hy q=>by
  rcases q with q|q|q
  .omega
  .exact q.elim (λ q=>by omega) λ q=>by omega
  .have:=hbf _ q;omega
 have P:∀y,H.au<=y -> ¬nG b sv y:=λ y hy q=>off y hy (.inr (.inl q));have G:∀{D:ar},D.get H.au=B1 (OR (ao m) xp)->Op.ae [.ptr H.au 0] D=B1 (.int .i64 m.k):=λ g=>zd (xe g) 0;have ldc:∀{D:ar},D.get H.au=B1 (OR (ao m) xp)->Op.ae [.ptr H.au 1] D=B1 (.int .i64 m.core):=λ g=>zd (xe g) 1;have p:∀{D:ar},D.get H.au=B1 (OR (ao m) xp)->Op.ae [.ptr H.au 2] D=B1 (.int .i64 m.line):=λ g=>zd (xe g) 2;have ldm:∀{D:ar},D.get H.au=B1 (OR (ao m) xp)->Op.aq 11 [.ptr H.au 0] D=B1 (.agg (ao m)):=λ g=>eH g (zj m);have ldd:∀{D:ar},D.get H.au=B1 (OR (ao m) xp)->Op.aq 8 [.ptr H.au 3] D=B1 (.agg (cu m.d)):=λ g=>by
  rw[se (xe g) (by rw[zj];decide)];have⟨k,co,l,⟨d,hd⟩⟩:=m
  match d,hd with
  |[d0,d1,d2,d3,d4,d5,d6,d7],_=>rfl
 have h1:=h.em f1;simp only[aa,bc,w0,<-e1,w2,yq,w10,qt,h1.l2,p g1];refine C3.q (Pu h1.ca U m.line) λ v I⟨J,f2⟩=>?_;rw[J,KF];obtain⟨x,hx⟩:∃x,x=(n.c.find m.line).getD .zero:=⟨_,rfl⟩
 rw[<-hx];obtain⟨H3,e3⟩:∃X,X=(I.alloc (OR (aw .zero) xk)).set I.au (OR (aw x) xk):=⟨_,rfl⟩
 have f3:Fr Em I H3:=by rw[e3];exact zR _ _
 have f03:Fr Em H H3:=(f1.trans f2 λ _ q=>q.elim).trans f3 λ _ q=>q.elim;have n2:=f2.au;have n3:H3.au=I.au+1:=by rw[e3];rfl
 have x3:H3.get I.au=B1 (OR (aw x) xk):=by rw[e3,xf]
 have g3:H3.get H.au=B1 (OR (ao m) xp):=by rw[f3.ah _ (by omega) id,f2.ah _ (by omega) id];exact g1
 have h3:=h.em f03;have ldx:∀{D:ar},D.get I.au=B1 (OR (aw x) xk)->Op.aq 21 [.ptr I.au 0] D=B1 (.agg (aw x)):=λ g=>eH g (z4 x);simp only[aa,bc,xj,eZ,jY,<-e3]
 -- what is not heard
 have no:∀{e:Int},(m.core≠n.core\/m.line<0\/n.lines<=m.line \/ ¬n.jV m ((n.c.find m.line).getD .zero)) -> ∀{H':ar},Fr Em H H'->uI H0 H r b sv bv (n.bX m) (.tuple [.nils,.int .i64 e]) H':=by
  intro e q H' f;have O:n.bX m=(n,[]):=by unfold No.bX;rw[xg q]
  rw[O];exact⟨⟨.nils,_,rfl,mL.nil ..⟩,h.same f⟩
 by_cases q1:m.core=n.core
 case neg =>
  simp only[aa,bc,w12,ldc g3,qt,h3.l0,q1];exact no (.inl q1) f03
 by_cases q2:m.line<0
 .simp only[aa,bc,w12,ldc g3,qt,h3.l0,xb q1,p g3,q2];exact no (.inr (.inl q2)) f03
 by_cases Y:n.lines<=m.line
 .simp only[aa,bc,w12,ldc g3,qt,h3.l0,xb q1,p g3,q2,h3.l1,Y];exact no (.inr (.inr (.inl Y))) f03
 simp only[aa,bc,w12,ldc g3,qt,h3.l0,xb q1,p g3,q2,h3.l1,Y,ldm g3,ldx x3];refine C3.q (xdj h3 hk m x) λ v H4⟨J,f4⟩=>?_;rw[J];have Q:Fr Em H H4:=f03.trans f4 λ _ q=>q.elim;have n4:=f4.au;have h4:=h.em Q;have R:H4.get H.au=B1 (OR (ao m) xp):=by rw[f4.ah _ (by omega) id];exact g3
 have x4:H4.get I.au=B1 (OR (aw x) xk):=by rw[f4.ah _ (by omega) id];exact x3
 by_cases q4:n.jV m x
 case neg =>
  simp only[aa,bc,ku q4];exact no (.inr (.inr (.inr (by rw[<-hx];exact q4)))) Q
 have hn:¬(m.core≠n.core\/m.line<0\/n.lines<=m.line \/ ¬n.jV m ((n.c.find m.line).getD .zero)):=by
  rw[<-hx];rintro(w|w|w|w)
  .exact w q1
  .exact q2 w
  .exact Y w
  .exact w q4
 rw[yj q4]
 -- the words that a message has
 have S:∀{k line:Int}{d:L8}{D:ar}{a:Nat},D.get a=B1 (OR (ao ⟨k,n.core,line,.zero⟩) xp)->Op.store 8 [.ptr a 3,.agg (cu d)] D=B1 (.undef,D.set a (OR (ao ⟨k,n.core,line,d⟩) xp)):=λ{k line d D a}g=>by
  have s6:=wK g (o:=3) (n:=8) (v:=.agg (cu d)) (by rw[zt];exact yk _) (by rw[zj];decide) (by rw[zt];exact uk _);rw[XE]at s6;exact s6
 by_cases s:m.k=11
 .have O:n.bX m=({n.lost x B4 with c:=((n.lost x B4).c.drop m.line).1},[n.msg 4 m.line]):=by
   unfold No.bX;rw[qy hn,xg s,<-hx]
  rw[O];simp only[aa,bc,Z,G R,xb s,ldx x4];refine C3.q (XO h4 x B4) λ _ j⟨K,A⟩=>?_;have n5:=A.au;have T:j.get H.au=B1 (OR (ao m) xp):=by rw[A.ah _ (by omega) (off _ (by omega))];exact R
  simp only[aa,bc,qt,K.l2,p T];refine C3.q (Vp K.ca (fS U) m.line) λ _ C⟨_,L,z⟩=>?_;have g6:C.get H.au=B1 (OR (ao m) xp):=by rw[z.ah _ (by omega) (P _ (by omega))];exact T
  have hn6:=K.iD L z (by rw[(Ny ..).1];exact K.len);simp only[aa,bc,p g6];refine C3.q (F0 hn6 4 m.line) λ v H7⟨J,F⟩=>?_;rw[J];have n6:=z.au;have n7:=F.au;have em:No.msg {n.lost x B4 with c:=((n.lost x B4).c.drop m.line).1} 4 m.line=n.msg 4 m.line:=by unfold No.msg;rw[show(No.core {n.lost x B4 with c:=((n.lost x B4).c.drop m.line).1})=n.core from(HS (n:=n) x B4).2.1]
  rw[em];simp only[aa,bc,mZ,Ba];exact⟨⟨_,_,rfl,K9 _ (by omega)⟩,sF.of ((hn6.em F).em ((Fr.refl _).alloc _)) (jW (jW (nI Q) A) ((jW (xL z) (nI F)).alloc _))⟩
 by_cases i:m.k=12\/m.k=13
 .have t13:¬(13:Int)=11:=by decide
  -- a recall
  have rec41:∀{E:Env},lk E 0=B1 (.ptr r 0)->lk E 3=B1 (.ptr H.au 0)->lk E 6=B1 (.ptr I.au 0)->lk E 7=B1 (.bool (n.c.find m.line).isSome) ->
   W M ⟨B5,vd⟩ (NB 41) B4 (eY 0 (fm (W M ⟨B5,vd⟩ (NB 73)) (eG M [.tmp 4,.tmp 5] (uZ (uI H0 H r b sv bv (n.bX m)))))) E [] H4:=by
   intro E q0 Y q6 q7;cases hf:n.c.find m.line with
   |none =>
    have O:n.bX m=(n,[n.msg 6 m.line]):=by
     unfold No.bX;rw[qy hn,qy s,xg i,hf]
    rw[O];rw[hf]at q7;have q7:lk E 7=B1 (.bool B2):=q7;simp only[aa,bc,w41,q7,q0,Y,p R];refine C3.q (F0 h4 6 m.line) λ v j⟨J,A⟩=>?_;rw[J];have n5:=A.au;simp only[aa,bc,mZ,Ba];exact⟨⟨_,_,rfl,K9 _ (by omega)⟩,h.same ((Q.trans A λ _ q=>q.elim).alloc _)⟩
   |some x' =>
    have exx:x=x':=by rw[hx,hf];rfl
    subst exx;rw[hf]at q7;have q7:lk E 7=B1 (.bool B4):=q7
    -- behind the loss
    have go:∀{too:Bool}{j:ar},(too=B4↔m.k=13)->de H0 j r b sv bv (n.lost x too) ks->Fr (iK r b sv bv) H4 j -> ∀{E:Env},lk E 0=B1 (.ptr r 0)->lk E 3=B1 (.ptr H.au 0)->lk E 6=B1 (.ptr I.au 0)->lk E 8=B1 (.ptr j.au 0) ->
     ∀{C:ar},C=(j.alloc (OR (ao ⟨0,0,0,.zero⟩) xp)).set j.au (OR (ao (n.msg 5 m.line)) xp) ->
     W M ⟨B5,vd⟩ (NB 53) B4 (eY 0 (fm (W M ⟨B5,vd⟩ (NB 73)) (eG M [.tmp 4,.tmp 5] (uZ (uI H0 H r b sv bv (n.bX m)))))) E [] C:=by
     intro too j ht K A E q0 Y q6 q8 C e6;have n5:=A.au;have z:Fr Em j C:=by rw[e6];exact zR _ _
     have n6:C.au=j.au+1:=by rw[e6];rfl
     have L:=K.em z;have T:j.get H.au=B1 (OR (ao m) xp):=by rw[A.ah _ (by omega) (off _ (by omega))];exact R
     have g6:C.get H.au=B1 (OR (ao m) xp):=by rw[z.ah _ (by omega) id];exact T
     have x5:j.get I.au=B1 (OR (aw x) xk):=by rw[A.ah _ (by omega) (off _ (by omega))];exact x4
     have x6:C.get I.au=B1 (OR (aw x) xk):=by rw[z.ah _ (by omega) id];exact x5
     have b6:C.get j.au=B1 (OR (ao (n.msg 5 m.line)) xp):=by rw[e6,xf]
     have f06:Fr (iK r b sv bv) H C:=jW (jW (nI Q) A) (nI z)
     -- the answer
     have out:∀{d:L8}{n':No}{N:ar},n.bX m=(n',[⟨5,n.core,m.line,d⟩])->de H0 N r b sv bv n' ks->Fr (iK r b sv bv) H N->C.au<=N.au -> ∀{E:Env},lk E 8=B1 (.ptr j.au 0) ->
      W M ⟨B5,vd⟩ (NB 61) B4 (eY 0 (fm (W M ⟨B5,vd⟩ (NB 73)) (eG M [.tmp 4,.tmp 5] (uZ (uI H0 H r b sv bv (n.bX m)))))) E [] (N.set j.au (OR (ao ⟨5,n.core,m.line,d⟩) xp)):=by
      intro d n' N O h8 f8 n8 E q8;rw[O];have ld:=eH (xf N j.au (OR (ao ⟨5,n.core,m.line,d⟩) xp)) (zj _);simp only[aa,bc,w61,q8,ld,mZ,Ba];have f9:Fr (On j.au) N (N.set j.au (OR (ao ⟨5,n.core,m.line,d⟩) xp)):=(Fr.refl N).set (W:=On j.au) (.inl rfl) _;have h9:=h8.off f9 (λ x(hx:x=j.au)=>by rw[hx];exact⟨by have:=h.bk.fr.au;omega,off _ (by omega)⟩);exact⟨⟨_,_,rfl,K9 _ (by rw[tO];omega)⟩,sF.of (h9.em ((Fr.refl _).alloc _)) ((f8.set (.inr (by omega)) _).alloc _)⟩
     by_cases B:m.k=12
     .have et:too=false:=by cases too with|false=>rfl|true=>have:=ht.1 rfl;omega
      subst et;have O:n.bX m=({n.lost x B2 with c:=((n.lost x B2).c.da m.line).1},[⟨5,n.core,m.line,((n.lost x B2).c.da m.line).2⟩]):=by
       unfold No.bX;rw[qy hn,qy s,xg i,hf];show(if m.k=12 then _ else _)=_;rw[xg B]
      simp only[aa,bc,w53,q0,Y,G g6,xb B,qt,L.l2,p g6];refine C3.q (xfd L.ca (fS U) m.line) λ v H7⟨J,h7,F⟩=>?_;rw[J];unfold ua;have n7:=F.au;have b7:H7.get j.au=B1 (OR (ao (n.msg 5 m.line)) xp):=by rw[F.ah _ (by omega) (P _ (by omega))];exact b6
      have hn7:=L.iD h7 F (by rw[(xcn ..).1];exact L.len);simp only[aa,bc,xj,q8,S b7];exact out O hn7 (jW f06 (xL F)) (by omega) q8
     .have u:m.k=13:=by omega
      have et:too=true:=ht.2 u;subst et;have O:n.bX m=({n.lost x B4 with c:=((n.lost x B4).c.drop m.line).1},[⟨5,n.core,m.line,((n.lost x B4).c.drop m.line).2.d⟩]):=by
       unfold No.bX;rw[qy hn,qy s,xg i,hf];show(if m.k=12 then _ else _)=_;rw[qy B]
      simp only[aa,bc,w53,q0,Y,G g6,B,qt,L.l2,p g6];refine C3.q (Vp L.ca (fS U) m.line) λ v H7⟨J,h7,F⟩=>?_;rw[J];unfold yF;have n7:=F.au;have b7:H7.get j.au=B1 (OR (ao (n.msg 5 m.line)) xp):=by rw[F.ah _ (by omega) (P _ (by omega))];exact b6
      have x7:H7.get I.au=B1 (OR (aw x) xk):=by rw[F.ah _ (by omega) (P _ (by omega))];exact x6
      have hn7:=L.iD h7 F (by rw[(Ny ..).1];exact L.len);have s8:=fG x7 (z4 _) (z4 ((n.lost x B4).c.drop m.line).2) (ux _);obtain⟨N,e8⟩:∃X,X=H7.set I.au (OR (aw ((n.lost x B4).c.drop m.line).2) xk):=⟨_,rfl⟩
      rw[<-e8]at s8;have f8:Fr (On I.au) H7 N:=by rw[e8];exact(Fr.refl H7).set (W:=On I.au) (.inl rfl) _
      have x8:N.get I.au=B1 (OR (aw ((n.lost x B4).c.drop m.line).2) xk):=by rw[e8,xf]
      have b8:N.get j.au=B1 (OR (ao (n.msg 5 m.line)) xp):=by rw[f8.ah _ (by omega) (λ(q:j.au=I.au)=>by omega)];exact b7
      have ld8:Op.aq 8 [.ptr I.au 4] N=B1 (.agg (cu ((n.lost x B4).c.drop m.line).2.d)):=by rw[se (xe x8) (by rw[z4];decide),B6]
      have hn8:=hn7.off f8 (λ x(hx:x=I.au)=>by rw[hx];exact⟨by have:=h.bk.fr.au;omega,off _ (by omega)⟩);have f78:Fr (iK r b sv bv) H N:=by rw[e8];exact(jW f06 (xL F)).set (.inr (by omega)) _
      simp only[aa,bc,xj,q6,q8,s8,ld8,S b8];exact out O hn8 f78 (by have:=f8.au;omega) q8
    by_cases B:m.k=12
    .have u:¬m.k=13:=by omega
     simp only[aa,bc,w41,q7,w49,q0,Y,q6,ldx x4,G R,u];refine C3.q (XO h4 x B2) λ _ j⟨K,A⟩=>?_;have n5:=A.au;have T:j.get H.au=B1 (OR (ao m) xp):=by rw[A.ah _ (by omega) (off _ (by omega))];exact R
     simp only[aa,bc,p T];refine C3.q (F0 K 5 m.line) λ v C⟨J,z⟩=>?_;have em:(n.lost x B2).msg 5 m.line=n.msg 5 m.line:=by unfold No.msg;rw[(HS (n:=n) x B2).2.1]
     rw[J,em];have s6:=fG (xq C (OR (ao ⟨0,0,0,.zero⟩) xp)) (zj _) (zj (n.msg 5 m.line)) (ry _);simp only[aa,bc,mZ,s6];refine go (too:=B2) ⟨λ q=>(by cases q),λ q=>absurd q u⟩ (K.em z) (jW A (nI z)) ?_ ?_ ?_ ?_ ?_
     .exact q0
     .exact Y
     .exact q6
     .rfl
     .rfl
    .have u:m.k=13:=by omega
     simp only[aa,bc,w41,q7,w49,q0,Y,q6,ldx x4,G R,xb u];refine C3.q (XO h4 x B4) λ _ j⟨K,A⟩=>?_;have n5:=A.au;have T:j.get H.au=B1 (OR (ao m) xp):=by rw[A.ah _ (by omega) (off _ (by omega))];exact R
     simp only[aa,bc,p T];refine C3.q (F0 K 5 m.line) λ v C⟨J,z⟩=>?_;have em:(n.lost x B4).msg 5 m.line=n.msg 5 m.line:=by unfold No.msg;rw[(HS (n:=n) x B4).2.1]
     rw[J,em];have s6:=fG (xq C (OR (ao ⟨0,0,0,.zero⟩) xp)) (zj _) (zj (n.msg 5 m.line)) (ry _);simp only[aa,bc,mZ,s6];refine go (too:=B4) ⟨λ _=>u,λ _=>rfl⟩ (K.em z) (jW A (nI z)) ?_ ?_ ?_ ?_ ?_
     .exact q0
     .exact Y
     .exact q6
     .rfl
     .rfl
  by_cases B:m.k=12
  .simp only[aa,bc,Z,G R,s,w34,xb B,w40];exact rec41 rfl rfl rfl rfl
  .have u:m.k=13:=by omega
   simp only[aa,bc,Z,G R,s,w34,B,xb u,w40];exact rec41 rfl rfl rfl rfl
 have B:¬m.k=12:=λ q=>i (.inl q);have u:¬m.k=13:=λ q=>i (.inr q)
 by_cases V:m.k=16
 .have O:n.bX m=({n with aL:=n.aL.filter (· ≠m.line)},[]):=by
   unfold No.bX;rw[qy hn,qy s,qy i,xg V]
  rw[O];have hkl:=h.kl;simp only[aa,bc,Z,G R,s,w34,B,u,w40,xb V,qt,h4.vX];refine C3.q (xfc (t:=H.au) (line:=m.line) (λ f=>p (by rw[f.ah _ (by omega) λ q=>by have:=hbf _ q;omega];exact R)) h4.bk (by omega)) λ v j⟨hs,A,w5⟩=>?_;have⟨C,s6,L,z⟩:=h4.Jz hs A (λ x q=>.inl (w5 x q));simp only[aa,bc,s6];rw[af2,<-h.eq]at L;exact⟨⟨_,_,rfl,mL.nil ..⟩,v,_,L,jW (nI Q) z,λ x q=>.inl (w5 x q)⟩
 -- what was asked for
 have⟨j,s5,K,A⟩:=h4.CO ⟨0,0,0,.zero⟩;have n5:=A.au;have T:j.get H.au=B1 (OR (ao m) xp):=by rw[A.ah _ (by omega) (λ(q:H.au=r)=>by omega)];exact R
 have f05:Fr (iK r b sv bv) H j:=jW (nI Q) (Nb A);cases hf:n.c.find m.line with
 |some x' =>
  have O:n.bX m=({n with out:=⟨0,0,0,.zero⟩,c:=n.c.cS m.line m.d},[n.msg 7 m.line]):=by
   unfold No.bX;rw[qy hn,qy s,qy i,qy V,hf]
  rw[O];simp only[aa,bc,Z,G R,s,w34,B,u,w40,V,w73,mZ,EB,qt,s5,w75,vz,K.l2,p T,ldd T];refine C3.q (xdy K.ca U m.line m.d) λ _ C⟨L,z⟩=>?_;have g6:C.get H.au=B1 (OR (ao m) xp):=by rw[z.ah _ (by omega) (P _ (by omega))];exact T
  have hn6:=K.iD L z (by rw[(q89 ..).1];exact K.len);simp only[aa,bc,p g6];refine C3.q (F0 hn6 7 m.line) λ v H7⟨J,F⟩=>?_;rw[J];have n6:=z.au;have n7:=F.au;simp only[aa,bc,Ba];exact⟨⟨_,_,rfl,K9 _ (by omega)⟩,sF.of ((hn6.em F).em ((Fr.refl _).alloc _)) (jW f05 ((jW (xL z) (nI F)).alloc _))⟩
 |none =>
  have O:n.bX m=((No.fill {n with out:=⟨0,0,0,.zero⟩} m).1,(No.fill {n with out:=⟨0,0,0,.zero⟩} m).2 ++ [n.msg 7 m.line]):=by
   unfold No.bX;rw[qy hn,qy s,qy i,qy V,hf]
  rw[O];simp only[aa,bc,Z,G R,s,w34,B,u,w40,V,w73,mZ,EB,qt,s5,w75,N8,w85,ldm T];refine C3.q (xjv K U hk hu m (by omega)) λ v C⟨hm6,bv',ks',L,z,w6⟩=>?_;have n6:=z.au;have g6:C.get H.au=B1 (OR (ao m) xp):=by rw[z.ah _ (by omega) (off _ (by omega))];exact T
  simp only[aa,bc,p g6];refine C3.q (F0 L 7 m.line) λ v H7⟨J,F⟩=>?_;have ec:(No.fill {n with out:=⟨0,0,0,.zero⟩} m).1.core=n.core:=xmg _ m;have em:(No.fill {n with out:=⟨0,0,0,.zero⟩} m).1.msg 7 m.line=n.msg 7 m.line:=by unfold No.msg;rw[ec]
  rw[J,em];simp only[aa,bc,Ba];have n7:=F.au;refine Lp (H:=j) (m:=n.msg 7 m.line) (hm6.em (F.alloc _)) (Ky _) (by rw[xz];omega) λ v2 N hms f8=>?_;simp only[aa,bc];have f68:Fr Em C N:=(F.alloc _).trans f8 λ _ q=>q.elim;exact⟨⟨_,_,rfl,hms.1,λ q=>by have:=hms.2 q;omega⟩,bv',ks',L.em f68,jW f05 (jW z (nI f68)),λ x q=>(w6 x q).imp id λ w=>by omega⟩
end
end Go.Am
namespace Go.Am
open Go.Proofs Ca
open Lang (ints)
variable{M:ak}[MK M]
section
variable{H0 H:ar}{r b:Nat}{sv bv:AV}{n:No}{ks:List Nat}
def EM{lines line:Int}{c:Ca}(h:CI lines c):0<=(c.drop line).2.line:=by
 unfold Ca.drop;cases hp:c.lK line 0 with
 |none=>exact wB _
 |some i =>
  rw[sN]at hp;obtain⟨a,d,e,hl,-⟩:=h.bA hp;show 0<=(c.en i).line;rw[hl];exact a
end
end Go.Am
namespace Go.Am
open Go.Proofs Ca
open Lang (ints)
variable{M:ak}[MK M]
structure Bd(n n':No):Prop where
 bk:n'.aL.length<=n.aL.length+1
 us:n'.c.us<=n.c.us+2
section
variable{n:No}
def xmi(n:No)(x:En):(n.gone x).1.aL.length<=n.aL.length+1/\(n.gone x).1.c=n.c:=by
 unfold No.gone;split
 .exact ⟨by show(n.aL ++ [x.line]).length<=_;rw[qv];exact qm _,rfl⟩
 .exact ⟨jy _,rfl⟩
def xha(n:No)(m:Mg)(st:Int):(n.d8 m st).1.aL.length<=n.aL.length+1/\(n.d8 m st).1.c.us<=n.c.us+1:=by
 have h:=(XM n.c m.line st m.d).2;unfold No.d8;split
 .obtain ⟨a,b⟩:=xmi {n with c:=(n.c.fill m.line st m.d).1} (n.c.fill m.line st m.d).2.1;exact⟨a,by rw[b];show(n.c.fill m.line st m.d).1.us<=_;omega⟩
 .exact ⟨jy _,by show(n.c.fill m.line st m.d).1.us<=_;omega⟩
def Ip(n:No)(m:Mg):Bd n (n.fill m).1:=by
 unfold No.fill;generalize(if m.k=15 then(2:Int)else 1)=st;unfold No.mW;split
 .obtain ⟨a,b⟩:=xha (n.iY 3) m st;have e:(n.iY 3).c.us=n.c.us:=rfl;exact⟨a,by omega⟩
 .obtain ⟨a,b⟩:=xha n m st;exact⟨a,by omega⟩
theorem Bd.refl(n:No):Bd n n:=⟨by omega,by omega⟩
def VB(n:No)(k line:Int):Bd n (n.ask k line).1:=by
 unfold No.ask;split
 .exact Bd.refl n
 .exact ⟨jy _,by show n.c.us<=_;omega⟩
def Gv(n:No)(m:Mg):Bd n (n.bX m).1:=by
 unfold No.bX;split
 .exact Bd.refl n
 split
 .exact ⟨by show(n.lost _ B4).aL.length<=_;rw[(HS _ B4).1];omega,by show(Ca.drop _ _).1.us<=_;rw[(Ny ..).2,(HS _ B4).2.2.2];omega⟩
 split
 .cases n.c.find m.line with
  |none=>exact Bd.refl n
  |some x =>
   show Bd n (Prod.fst (if m.k=12 then _ else _));split
   .exact ⟨by show(n.lost _ B2).aL.length<=_;rw[(HS _ B2).1];omega,by show(Ca.da _ _).1.us<=_;rw[(xcn ..).2,(HS _ B2).2.2.2];omega⟩
   .exact ⟨by show(n.lost _ B4).aL.length<=_;rw[(HS _ B4).1];omega,by show(Ca.drop _ _).1.us<=_;rw[(Ny ..).2,(HS _ B4).2.2.2];omega⟩
 split
 .exact ⟨by show(n.aL.filter _).length<=_;have:=List.length_filter_le (λ x=>decide (x≠m.line)) n.aL;omega,by show n.c.us<=_;omega⟩
 .cases n.c.find m.line with
  |some x=>exact⟨jy _,by show(n.c.cS m.line m.d).us<=_;rw[(q89 ..).2];omega⟩
  |none =>
   obtain⟨a,b⟩:=Ip {n with out:=⟨0,0,0,.zero⟩} m;exact⟨a,b⟩
def Hf(n:No)(line:Int):Bd n (n.di line).1:=by
 unfold No.di;split
 .exact Bd.refl n
 .cases n.c.find line with
  |none=>exact Bd.refl n
  |some x =>
   have e:∀n':No,n'.aL=n.aL->n'.c.us=n.c.us->Bd n (No.gone {n' with c:=(n'.c.drop line).1} (n'.c.drop line).2).1:=λ n' e1 e2=>by
    obtain⟨a,b⟩:=xmi {n' with c:=(n'.c.drop line).1} (n'.c.drop line).2;refine⟨by rw[<-e1];exact a,?_⟩;rw[b];show(n'.c.drop line).1.us<=_;rw[(Ny ..).2,e2];omega
   show Bd n (No.gone _ _).1
   by_cases q:(x.r ||x.w)=B4
   .simp only[xg q];exact e (n.iY 4) rfl rfl
   .simp only[qy q];exact e n rfl rfl
def Ii(n:No)(a:Int):Bd n (n.load a).1:=by
 unfold No.load;split
 .cases n.c.find (No.ln a)with
  |none=>exact VB ..
  |some x =>
   refine⟨jy _,?_⟩;show((if n.live=B4 then n.c.mark (No.ln a) B2 else n.c).word a.toNat).1.us<=_;have d:=(R4 (if n.live=B4 then n.c.mark (No.ln a) B2 else n.c) a.toNat).2;have e:(if n.live=B4 then n.c.mark (No.ln a) B2 else n.c).us=n.c.us:=by split;exact(S0 ..).1;rfl
   omega
 .exact Bd.refl n
def DO(n:No)(a y:Int):Bd n (n.store a y).1:=by
 unfold No.store;split
 .split
  .refine ⟨jy _,?_⟩;show((if n.live=B4 then n.c.mark (No.ln a) B4 else n.c).put a.toNat y).us<=_;have d:=(S6 (if n.live=B4 then n.c.mark (No.ln a) B4 else n.c) a.toNat y).2;have e:(if n.live=B4 then n.c.mark (No.ln a) B4 else n.c).us=n.c.us:=by split;exact(S0 ..).1;rfl
   omega
  .exact VB ..
 .exact Bd.refl n
def Ls(n:No)(a o y:Int):Bd n (n.oI a o y).1:=by
 unfold No.oI;split
 .split
  .exact Bd.refl n
  .split
   .refine ⟨jy _,?_⟩;have d:=(R4 n.c a.toNat).2;show(if(n.c.word a.toNat).2.getD 0=o then(n.c.word a.toNat).1.put a.toNat y else(n.c.word a.toNat).1).us<=_;split
    .have e:=(S6 (n.c.word a.toNat).1 a.toNat y).2;omega
    .omega
   .exact VB ..
 .exact Bd.refl n
end
def pP(core lines s w:Int):No:=⟨core,lines,pR s.toNat w.toNat,⟨0,0,0,.zero⟩,[],B2,0⟩
def wS(core lines cores s w:Int):Prop:=tf s w/\0<=core/\core<cores/\cores<=4/\2<=lines/\lines<=64
def Ff{core lines cores s w:Int}(h:wS core lines cores s w):(pP core lines s w).NI:=by
 obtain⟨⟨a,b,c,d⟩,-⟩:=h;exact⟨af3 lines (by omega) (by omega),λ _=>xf7 s.toNat w.toNat⟩
def eE(lines cores s w:Int):List AV:=[.int .i64 lines,.int .i64 cores,.int .i64 s,.int .i64 w]
def aa6(core lines:Int)(b:Nat)(s w:Int):Op.build [.int .i64 0,.int .i64 0,.nilp,.int .i64 0,.int .i64 0,.int .i64 0,.int .u64 0,.int .u64 0,.int .u64 0,.int .u64 0,.int .u64 0,.int .u64 0,.int .u64 0,.int .u64 0,.nils,.bool B2,.int .i64 0] [(0,1),(1,1),(2,1)] [.int .i64 core,.int .i64 lines,.ptr b 0]=B1 (.agg (rZ (pP core lines s w) b .nils)):=rfl
def Fu(H:ar)(core lines cores s w:Int)(v:AV)(H':ar):Prop:=(¬wS core lines cores s w/\v=.tuple [.nilp,.int .i64 2]/\Fr Em H H')\/wS core lines cores s w /\ ∃r b sv,v=.tuple [.ptr r 0,.int .i64 0]/\de H H' r b sv .nils (pP core lines s w) []
def xds{H:ar}(core lines cores s w:Int):ze M VM [.int .i64 core,.agg (eE lines cores s w)] H (Fu H core lines cores s w):=by
 refine xjy ?_;obtain⟨w0,w4,p⟩:=xjz M ⟨B5,VM⟩;obtain⟨H1,e1,z,n1,l⟩:=cq H (OR (eE lines cores s w) AO);have l2:Op.ae [.ptr H.au 2] H1=B1 (.int .i64 s):=zd (xe l) 2;have l3:Op.ae [.ptr H.au 3] H1=B1 (.int .i64 w):=zd (xe l) 3;simp only[aa,bc,w0,<-e1,l2,l3];refine C3.q (xjn (M:=M) s w) λ v f⟨t,h⟩=>?_;have x:f.get H.au=B1 (OR (eE lines cores s w) AO):=by rw[t.ah _ (by omega) id];exact l
 have l0:Op.ae [.ptr H.au 0] f=B1 (.int .i64 lines):=zd (xe x) 0;have l1:Op.ae [.ptr H.au 1] f=B1 (.int .i64 cores):=zd (xe x) 1;have e:Fr Em H f:=z.trans t λ _ q=>q.elim;have C:¬(2:Int)=0:=by decide
 have E:=xb (show(0:Int)=0 from rfl);rcases h with⟨hn,h⟩|⟨ho,b,sv,h,m,hb,hs⟩
 .rw [h];simp only[aa,bc,xj,w4,C];exact .inl ⟨λ q=>hn q.1,rfl,e⟩
 rw[h]
 by_cases g:core<0
 .simp only[aa,bc,xj,w4,g];exact .inl ⟨λ q=>by have:=q.2.1;omega,rfl,e⟩
 by_cases i:cores<=core
 .simp only[aa,bc,xj,w4,g,l1,i];exact .inl ⟨λ q=>by have:=q.2.2.1;omega,rfl,e⟩
 by_cases j:4<cores
 .simp only[aa,bc,xj,w4,g,l1,i,j];exact .inl ⟨λ q=>by have:=q.2.2.2.1;omega,rfl,e⟩
 by_cases o:lines<2
 .simp only[aa,bc,xj,w4,g,l1,i,j,l0,o];exact .inl ⟨λ q=>by have:=q.2.2.2.2.1;omega,rfl,e⟩
 by_cases y:64<lines
 .simp only[aa,bc,xj,w4,g,l1,i,j,l0,o,y];exact .inl ⟨λ q=>by have:=q.2.2.2.2.2;omega,rfl,e⟩
 obtain⟨D,k,u,-,-⟩:=cq f (OR (rZ (pP core lines s w) b .nils) Ph);simp only[aa,bc,xj,w4,g,l1,i,j,l0,o,y,p,aa6 core lines b s w,<-k];have A:=m.lt;have B:aF sv<f.au:=m.sl.lt;refine .inr ⟨⟨ho,by omega,by omega,by omega,by omega,by omega⟩,f.au,b,sv,rfl,⟨by rw[k,xq],by rw[k,xz];omega,m.em u,⟨.inl ⟨rfl,rfl⟩,e.trans u λ _ q=>q.elim⟩,rfl,e.au,by omega,by omega,by omega,by omega,λ q=>q.1 rfl,λ q=>q.1 rfl,λ q=>q.1 rfl,⟨by show 2<=lines;omega,by show lines<=64;omega⟩,?_⟩⟩;show(Jr (s.toNat*w.toNat) En.zero).length<=40;rw[zy];obtain⟨a,b,c,d⟩:=ho;have:=Nat.mul_le_mul (show s.toNat<=8 by omega) (show w.toNat<=4 by omega);omega
end Go.Am
