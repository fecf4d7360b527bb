import Derived.Test.YtgjdmncoonceaaaGreatDoorAmTZf
import Derived.Test.YtgjdmncoonceaaaGreatDoorAmTZg
set_option linter.defProp false
set_option linter.unusedVariables false
set_option linter.unusedSimpArgs false
set_option linter.unusedSectionVars false
set_option maxRecDepth 100000
open Bool renaming false→B2,true→B4
open Go renaming IntKind→OM
open List renaming replicate→Ji
open Nat renaming beq→JW,ble→Nu,blt→OO
open Option renaming none→B5,some→B1
open Nat renaming reduceEqDiff→bc
namespace Go.Am
open Go.Proofs Ca
open Lang (ints)
variable{M:ak}[MK M]
def pN(ks:List Nat)(z:Int):Int:=match dL (λ i=>(ks[i]?.getD 0:Int) == z) ks.length with
 |some i=>i
 |none=>-1
section
variable{H H0:ar}{v:AV}{ks:List Nat}
def T8(h:bI iz 1 H v ks){i:Nat}(c:i<ks.length):Op.aR 1 [v,.int .i64 (i:Int)]=B1 (.ptr (aE v) (cK 1 v i))/\Op.ae [.ptr (aE v) (cK 1 v i)] H=B1 (.int .i64 (ks[i]?.getD 0:Nat)):=by
 have a:ks[i]? = B1 ks[i]:=by grind
 refine⟨h.idx a rfl .i64,?_⟩;rw[h.ig ET a (by decide),a];rfl
def xil(h:bI iz 1 H v ks)(hl:ks.length<=1000000)(z:Int):zb M Zx [v,.int .i64 z] H λ r H'=>r=.int .i64 (pN ks z)/\H'=H:=by
 refine qwg ?_;obtain⟨w0,w2,o,l,d,g⟩:=qwh M ⟨B5,Zx⟩;simp only[aa,bc,w0,w2,h.len];refine cu.intro (λ n E j=>∃i:Nat,E=[(8,.int .i64 (i:Int)),(7,.int .i64 ((ks.length:Nat):Int)),(0,v),(1,.int .i64 z)]/\n=ks.length-i/\i<=ks.length/\j=H /\ ∀k,k<i->((ks[k]?.getD 0:Int) == z)=B2) ?_ ?_
 .exact ⟨_,_,⟨0,rfl,rfl,xw _,rfl,λ k hk=>by omega⟩,by simp only[aa,bc]⟩
 rintro n E j ⟨i,rfl,rfl,s,rfl,c⟩;rcases xz i ks.length with a|m
 .have f:(i:Int)<((ks.length:Nat):Int):=by omega
  have⟨ix,ld⟩:=T8 h a;have p:aj .i64 ((i:Int)+1)=((i+1:Nat):Int):=by grind [jc]
  by_cases q:z=((ks[i]?.getD 0:Nat):Int)
  .simp only[aa,bc,l,f,d,ix,ld,qv q];unfold pN;rw[NS a (by simp[<-q]) c]
  .simp only[aa,bc,l,f,d,ix,ld,q,g,p];refine⟨_,_,⟨i+1,rfl,rfl,by omega,λ k hk=>?_⟩,by simp only[aa,bc],by omega⟩
   by_cases e:k=i
   .rw [e];simpa using λ w=>q w.symm
   .exact c k (by omega)
 .have f:¬(i:Int)<((ks.length:Nat):Int):=by omega
  have e:i=ks.length:=by omega
  simp_all[aa,pN,Nb]
def HB{z:Int}:0<=pN ks z↔z∈ints ks:=by
 unfold pN;cases d:dL (λ i=>(ks[i]?.getD 0:Int) == z) ks.length with
 |some i =>
  obtain⟨a,b,-⟩:=MH d;refine⟨λ _=>?_,λ _=>by show(0:Int)<=(i:Nat);omega⟩;have c:ks[i]? = B1 ks[i]:=by simp[a]
  rw[c]at b;have b:((ks[i]:Nat):Int)=z:=by simpa using b
  rw[<-b];exact Fx.2 ⟨ks[i],zd c,rfl⟩
 |none =>
  refine⟨λ q=>by grind,λ q=>?_⟩;exfalso;have⟨k,hk,e⟩:=Fx.1 q
  grind [LY,sm]
def b_(h:bI iz 1 H v ks)(hl:ks.length<=1000000)(z:Int):zb M _m [v,.int .i64 z] H λ r H'=>r=.bool (decide (z∈ints ks))/\H'=H:=by
 refine qrr ?_;simp only[aa,bc,qrs];refine C3.q (xil h hl z) λ r H1⟨hr,a⟩=>?_;rw[hr,a];simp only[aa,bc];exact congrArg AV.bool (decide_eq_decide.2 HB)
def q8e{t:Nat}{line:Int}(x:Int)(hl:Op.ae [.ptr t 2] H=B1 (.int .i64 line)):zb M ZB [.int .i64 x,.ptr t 0] H λ r H'=>r=.bool (decide (x=line))/\H'=H:=by
 refine qv9 ?_
 by_cases q:x=line
 .simp only[aa,bc,qmd,hl,qv q]
 .simp only[aa,bc,qmd,hl,q]
abbrev Gf(t:Nat):AV:=.fn (.func ZB) [] [.ptr t 0]
def xe3{t:Nat}{line:Int}(hl:Op.ae [.ptr t 2] H=B1 (.int .i64 line))(h:bI iz 1 H v ks)(hk:ks.length<=1000000):zb M Y5 [v,Gf t] H λ r H'=>r=.int .i64 (pN ks line)/\H'=H:=by
 refine qp1 ?_;obtain⟨w0,w2,o,p,d,f⟩:=qp2 M ⟨B5,Y5⟩;simp only[aa,bc,w0,w2,h.len];refine cu.intro (λ n E g=>∃i:Nat,E=[(8,.int .i64 (i:Int)),(7,.int .i64 ((ks.length:Nat):Int)),(0,v),(1,Gf t)]/\n=ks.length-i/\i<=ks.length/\g=H /\ ∀k,k<i->((ks[k]?.getD 0:Int) == line)=B2) ?_ ?_
 .exact ⟨_,_,⟨0,rfl,rfl,xw _,rfl,λ k hk=>by omega⟩,by simp only[aa,bc]⟩
 rintro n E g ⟨i,rfl,rfl,u,rfl,c⟩;rcases xz i ks.length with a|l
 .have j:(i:Int)<((ks.length:Nat):Int):=by omega
  have⟨ix,ld⟩:=T8 h a;have s:aj .i64 ((i:Int)+1)=((i+1:Nat):Int):=by rw[jc (by omega) (by omega)];omega
  simp only[aa,bc,p,j,d,ix,ld];refine C3.q (q8e _ hl) λ r H1⟨hr,m⟩=>?_;rw[hr,m]
  by_cases q:((ks[i]?.getD 0:Nat):Int)=line
  .simp only[aa,bc,q];unfold pN;rw[NS a (by simp[q]) c]
  .simp only[aa,bc,q,f,s];refine⟨_,_,⟨i+1,rfl,rfl,by omega,λ k hk=>?_⟩,by simp only[aa,bc],by omega⟩
   grind
 .have j:¬(i:Int)<((ks.length:Nat):Int):=by omega
  have e:i=ks.length:=by omega
  simp_all[aa,pN,Nb]
def xli(ks:List Nat)(rest:List AV){i:Nat}(a:i<ks.length)(y:Nat):(ks.flatMap iz++rest).take i ++ [AV.int .i64 (y:Int)]++(ks.flatMap iz++rest).drop (i+1)=(ks.set i y).flatMap iz++rest:=by
 have hl:=xD ks;rw[Ow (by omega),List.drop_append_of_le_length (by omega),<-ku];congr 1;rw[PN,PN,List.map_set,List.set_eq_take_append_cons_drop,xg (by rw[xu];exact a)];simp
def mJ.zU{e:Nat}(h:mJ e H0 H v ks){i:Nat}(d:i<ks.length)(y:Nat):∃H',Op.store 1 [.ptr (aE v) (cK 1 v i),.int .i64 (y:Int)] H=B1 (.undef,H')/\mJ e H0 H' v (ks.set i y)/\Fr (aM v) H H':=by
 rcases h.own with⟨rfl,rfl⟩|⟨b,m,rest,rfl,f,a,j,g⟩
 .grind
 .have st:=Yl g (o:=i) (n:=1) (v:=.int .i64 (y:Int)) rfl (by grind [xD]) rfl;have c:AV.cells (.int .i64 (y:Int))=[.int .i64 (y:Int)]:=rfl;rw[c,xli ks rest d]at st;have ho:cK 1 (AV.gslice b 0 m 1 0 ks.length) i=i:=by simp[cK]
  rw[ho];refine⟨_,st,⟨.inr ⟨b,m,rest,by rw[ze],f,a,by grind,xc ..⟩,h.fr.set (.inr a) _⟩,(Fr.refl H).set (W:=aM (AV.gslice b 0 m 1 0 ks.length)) (.inl ⟨by simp,rfl⟩) _⟩
theorem Sm:∀n:Nat,fY n [AV.int .i64 0]=(Ji n 0).flatMap iz
 |0=>rfl
 |n+1=>by rw[fY,OC,j6,<-Sm n];rfl
theorem mJ.qV{e:Nat}(h:mJ e H0 H v ks){k:Nat}(hk:k<=ks.length):∃v2 H',Op.aA 1 [B1 0,B5,B5] [v,.int .i64 (k:Int)]=B1 v2/\Op.bS [.int .i64 0] [v2] H=B1 (.tuple [],H')/\mJ e H0 H' v (ks.take k++Ji (ks.length-k) 0)/\Fr (aM v) H H':=by
 rcases h.own with⟨rfl,rfl⟩|⟨b,m,rest,rfl,u,j,A,w⟩
 .have:k=0:=by simpa using hk
  subst this;have f:bound B5 0 0=B1 0:=rfl;refine⟨.nils,H,by simp only[Op.aA,arg,jN,zj,qr,dk,f];rfl,rfl,h,Fr.refl _⟩
 .have e1:∀n,JW n n=true:=λ n=>by simp
  have c:∀d m,bound B5 d m=B1 d:=λ _ _=>rfl;refine⟨.gslice b (0+k) m 1 (cond (JW k 0) 0 (0*1)) (ks.length-k),?_⟩;have sl:Op.aA 1 [B1 0,B5,B5] [AV.gslice b 0 m 1 0 ks.length,.int .i64 (k:Int)]=B1 (.gslice b (0+k) m 1 (cond (JW k 0) 0 (0*1)) (ks.length-k)):=by
   simp only[Op.aA,arg,jN,zj,qr,dk,c,tE (z:=(k:Int)) (k:=k) rfl hk .i64,e1,kr (show ks.length<=m-0 by omega),kr (xw m),zx,xt]
  have hle:(ks.take k).length=k:=by grind
  by_cases t:ks.length-k=0
  .refine ⟨H,sl,?_,?_,Fr.refl _⟩
   .rw [t];rfl
   grind [za]
  .have p:eN (.gslice b (0+k) m 1 (cond (JW k 0) 0 (0*1)) (ks.length-k))=B1 (ks.length-k):=rfl;have o:JW (ks.length-k) 0=false:=by grind [jy]
   have g:OO 0 (ks.length-k)=true:=by grind [OO,kr]
   have a:OO (0+k+0) m=true:=by grind [OO,kr]
   have he:elemAt 1 (.gslice b (0+k) m 1 (cond (JW k 0) 0 (0*1)) (ks.length-k)) 0=B1 (b,(0+k)*1+0*1):=by
    simp only[elemAt,g,e1,a,zx,xt]
   have q:H.store b ((0+k)*1+0*1) (fY (ks.length-k) [.int .i64 0])=B1 (H.set b (.grown m 1 ((ks.take k++Ji (ks.length-k) 0).flatMap iz++rest) e (0,0))):=by
    have ha:aL (fY (ks.length-k) [AV.int .i64 0])=true:=by
     grind [Sm,vd,PN,aD]
    have s:dG (0,0) ((0+k)*1+0*1) (cV (fY (ks.length-k) [AV.int .i64 0]))=true:=by simp[dG]
    simp only[ar.store,ha,xt,w,s,AQ];have i:(fY (ks.length-k) [AV.int .i64 0]).length=ks.length-k:=by grind [Sm,xD]
    have l:(0+k)*1+0*1=k:=by omega
    have x:(ks.flatMap iz++rest).take k=(ks.take k).flatMap iz:=by
     grind [PN,List.map_take]
    have y:(ks.flatMap iz++rest).drop (k+(ks.length-k))=rest:=by
     grind [xD,List.drop_left]
    rw[l,xg (by grind [xD]),qr,i,x,y,Sm,<-ki]
   refine⟨H.set b (.grown m 1 ((ks.take k++Ji (ks.length-k) 0).flatMap iz++rest) e (0,0)),sl,?_,⟨.inr ⟨b,m,rest,?_,u,j,?_,xc ..⟩,h.fr.set (.inr j) _⟩,(Fr.refl H).set (W:=aM (AV.gslice b 0 m 1 0 ks.length)) (.inl ⟨by simp,rfl⟩) _⟩
   .simp_all [Op.bS]
   .rw [xe,hle,jg];congr 1;omega
   .rw [xe,hle,jg];omega
def Aw(ks:List Nat)(line:Int):List Nat:=ks.filter λ k=>((k:Nat):Int) != line
def xer{t:Nat}{line:Int}{e:Nat}(hl:∀{f:ar},Fr (aM v) H f->Op.ae [.ptr t 2] f=B1 (.int .i64 line))(h:mJ e H0 H v ks)(hk:ks.length<=1000000) :
 zb M YS [v,Gf t] H λ r H'=>mJ e H0 H' r (Aw ks line)/\Fr (aM v) H H' /\ ∀x,aM r x->aM v x:=by
 refine qoo ?_;obtain⟨w0,w4,J,L,u,K,w⟩:=qop M ⟨B5,YS⟩;simp only[aa,bc,w0];refine C3.q (xe3 (hl (Fr.refl _)) h.sl hk) λ r H1⟨hr,A⟩=>?_;rw[hr,A];cases Z:dL (λ i=>(ks[i]?.getD 0:Int) == line) ks.length with
 |none =>
  have e1:pN ks line = -1:=by grind [pN]
  have e2:Aw ks line=ks:=by
   grind [Aw,List.filter_eq_self,LY,sm]
  rw[e1,e2];have N:=qv (show(-1:Int) = -1 from rfl);simp only[aa,bc,w4];exact⟨h,Fr.refl _,λ x q=>q⟩
 |some a =>
  have⟨a1,y,a3⟩:=MH Z;have e1:pN ks line=(a:Int):=by grind [pN]
  rw[e1];have N:¬(a:Int) = -1:=by omega
  have z:aj .i64 ((a:Int)+1)=((a+1:Nat):Int):=by grind [jc]
  -- what is kept of the first ones
  have ah:∀j,(ks.take (j+1)).filter (λ k=>((k:Nat):Int) != line)=(ks.take j).filter (λ k=>((k:Nat):Int) != line)++(match ks[j]? with|none=>[]|some k=>if((k:Nat):Int)=line then[]else[k]):=λ j=>by
   grind [j7]
  have W:(ks.take a).filter (λ k=>((k:Nat):Int) != line)=ks.take a:=by
   rw[List.filter_eq_self];intro k B;have⟨i,hi⟩:=LY B
   grind
  have p:ks[a]? = B1 ks[a]:=by grind
  have X:(ks.take (a+1)).filter (λ k=>((k:Nat):Int) != line)=ks.take a:=by
   rw[ah,W,p];rw[p]at y;have y:((ks[a]:Nat):Int)=line:=by simpa using y
   simp[y]
  simp only[aa,bc,w4,N,J,z];refine cu.intro (λ n E f=>∃(i j:Nat)(c:List Nat),E=[(6,.int .i64 (j:Int)),(5,.int .i64 (i:Int)),(0,v),(1,Gf t)]/\n=ks.length-j/\i<j/\j<=ks.length/\c.length=ks.length/\c.take i=(ks.take j).filter (λ k=>((k:Nat):Int) != line)/\c.drop j=ks.drop j/\mJ e H0 f v c/\Fr (aM v) H f) ?_ ?_
  .exact ⟨_,_,⟨a,a+1,ks,rfl,rfl,by omega,by omega,rfl,X.symm,rfl,h,Fr.refl _⟩,by simp only[aa,bc]⟩
  rintro n E f ⟨i,j,c,rfl,rfl,hij,hj,s,m,D,hs,d⟩;have g:=hs.sl.len;rw[s]at g;rcases xz j ks.length with hlt|hge
  .have I:(j:Int)<((ks.length:Nat):Int):=by omega
   have⟨ix,ld⟩:=T8 hs.sl (i:=j) (by omega);obtain⟨G,-⟩:=T8 hs.sl (i:=i) (by omega);have F:c[j]? = ks[j]?:=by
    have:=congrArg (λ l=>l[0]?) D
    simpa[wh]using this
   obtain⟨k,o⟩:∃k,ks[j]? = B1 k:=(by grind)
   rw[F,o]at ld;have ld:Op.ae [.ptr (aE v) (cK 1 v j)] f=B1 (.int .i64 (k:Int)):=ld;have z:aj .i64 ((j:Int)+1)=((j+1:Nat):Int):=by grind [jc]
   have wi:aj .i64 ((i:Int)+1)=((i+1:Nat):Int):=by grind [jc]
   have Y:∀l:List Nat,l.drop (j+1)=(l.drop j).drop 1:=λ l=>by rw[FU]
   simp only[aa,bc,u,g,I,K,ix,ld];refine C3.q (q8e _ (hl d)) λ r H2⟨hr,A⟩=>?_;rw[hr,A]
   by_cases q:(k:Int)=line
   .simp only[aa,bc,qv q,w,z];exact⟨_,_,⟨i,j+1,c,rfl,rfl,by omega,by omega,s,by grind,by grind,hs,d⟩,by simp only[aa,bc],by omega⟩
   .have ⟨O,s3,C,V⟩:=hs.zU (i:=i) (by omega) k;simp only[aa,bc,q,G,s3,wi,w,z];refine⟨_,_,⟨i+1,j+1,c.set i k,rfl,rfl,by omega,by omega,by grind,?_,?_,C,d.trans V λ _ q=>.inl q⟩,by simp only[aa,bc],by omega⟩
    .rw [ah,o,<-m,j7,zk (by omega),List.take_set_of_le (qm i)];simp[q]
    grind [List.drop_set_of_lt]
  .have I:¬(j:Int)<((ks.length:Nat):Int):=by omega
   have U:j=ks.length:=by omega
   subst U;rw[za (qm _)]at m;have⟨v2,O,P,Q,R,S⟩:=hs.qV (k:=i) (by omega);have⟨v3,d1,d2,d3⟩:=R.cut (k:=i) (by grind) rfl .i64;have T:(c.take i++Ji (c.length-i) 0).take i=Aw ks line:=by
    rw[Ow (by rw[js];omega),List.take_take,Nat.min_self,m];rfl
   rw[T]at d2;simp only[aa,bc,u,g,I,L,P,Q,d1];exact⟨d2,d.trans S λ _ q=>.inl q,d3⟩
end
end Go.Am
namespace Go.Am
open Go.Proofs Ca
open Lang (ints)
variable{M:ak}[MK M]
def ao(m:Mg):List AV:=.int .i64 m.k::.int .i64 m.core::.int .i64 m.line::cD m.d
theorem zf(m:Mg):(ao m).length=11:=by simp[ao,cD,m.d.h]
theorem rh(m:Mg):aL (ao m)=true:=by simp_all[vd,ao,aD]
def rQ(n:No)(b:Nat)(bv:AV):List AV:=.int .i64 n.core::.int .i64 n.lines::.ptr b 0::(ao n.out ++ [bv,.bool n.live,.int .i64 n.code])
structure di(H0 H:ar)(r b:Nat)(sv bv:AV)(n:No)(ks:List Nat):Prop where
 row:H.get r=B1 (OR (rQ n b bv) Qh)
 lt:r<H.au
 ca:eC H b sv n.c
 bk:mJ cH H0 H bv ks
 eq:n.aS=ints ks
 lr:H0.au<=r
 lb:H0.au<=b
 ls:H0.au<=aE sv
 n1:r≠b
 n2:r≠aE sv
 o1:¬aM bv r
 o2:¬aM bv b
 o3:¬aM bv (aE sv)
 li:2<=n.lines/\n.lines<=64
 len:n.c.sl.length<=40
def iK(r b:Nat)(sv bv:AV):Nat->Prop:=λ x=>x=r\/nE b sv x\/aM bv x
def rZ(H0 H:ar)(r b:Nat)(sv bv:AV)(n':No)(H':ar):Prop:=∃bv' ks',di H0 H' r b sv bv' n' ks'/\Fr (iK r b sv bv) H H' /\ ∀x,aM bv' x->aM bv x\/H.au<=x
section
variable{H0 H:ar}{r b:Nat}{sv bv:AV}{n:No}{ks:List Nat}
def di.em{H':ar}(h:di H0 H r b sv bv n ks)(f:Fr Em H H'):di H0 H' r b sv bv n ks :=
 ⟨by rw[f.ah _ h.lt id];exact h.row,qn h.lt f.au,h.ca.em f,h.bk.em f,h.eq,h.lr,h.lb,h.ls,h.n1,h.n2,h.o1,h.o2,h.o3,h.li,h.len⟩
def di.same(h:di H0 H r b sv bv n ks){H':ar}(f:Fr Em H H'):rZ H0 H r b sv bv n H':=⟨bv,ks,h.em f,f.mono λ _ _ q=>q.elim,λ x q=>.inl q⟩
theorem FQ(n:No)(b:Nat)(bv:AV):(rQ n b bv)[0]? = B1 (.int .i64 n.core)/\(rQ n b bv)[1]? = B1 (.int .i64 n.lines)/\(rQ n b bv)[2]? = B1 (.ptr b 0)/\(rQ n b bv)[3]? = B1 (.int .i64 n.out.k)/\(rQ n b bv)[14]? = B1 bv/\(rQ n b bv)[15]? = B1 (.bool n.live)/\(rQ n b bv)[16]? = B1 (.int .i64 n.code)/\((rQ n b bv).drop 3).take 11=ao n.out/\(rQ n b bv).length=17:=by
 have⟨core,lines,c,⟨k,co,l,⟨d,a⟩⟩,aS,live,code⟩:=n
 match d,a with
 |[d0,d1,d2,d3,d4,d5,d6,d7],_=>exact⟨rfl,rfl,rfl,rfl,rfl,rfl,rfl,rfl,rfl⟩
def di.ld(h:di H0 H r b sv bv n ks)(k:Nat):Op.ae [.ptr r k] H=(rQ n b bv)[k]?:=x9 (xb h.row) k
def di.l0(h:di H0 H r b sv bv n ks):Op.ae [.ptr r 0] H=B1 (.int .i64 n.core):=(h.ld 0).trans (FQ n b bv).1
def di.l1(h:di H0 H r b sv bv n ks):Op.ae [.ptr r 1] H=B1 (.int .i64 n.lines):=(h.ld 1).trans (FQ n b bv).2.1
def di.l2(h:di H0 H r b sv bv n ks):Op.ae [.ptr r 2] H=B1 (.ptr b 0):=(h.ld 2).trans (FQ n b bv).2.2.1
def di.l3(h:di H0 H r b sv bv n ks):Op.ae [.ptr r 3] H=B1 (.int .i64 n.out.k):=(h.ld 3).trans (by grind [FQ])
def di.vN(h:di H0 H r b sv bv n ks):Op.ae [.ptr r 14] H=B1 bv:=(h.ld 14).trans (by grind [FQ])
def di.jG(h:di H0 H r b sv bv n ks):Op.ae [.ptr r 15] H=B1 (.bool n.live):=(h.ld 15).trans (by grind [FQ])
def di.lo(h:di H0 H r b sv bv n ks):Op.aq 11 [.ptr r 3] H=B1 (.agg (ao n.out)):=by
 obtain⟨-,-,-,-,-,-,-,e,l⟩:=FQ n b bv;rw[rS (xb h.row) (by omega),e]
theorem di.put(h:di H0 H r b sv bv n ks){n':No}{o m:Nat}{u:AV}(hu:u.cells.length=m)(ho:aL u.cells=B4)(hm:o+m<=17)(e:(rQ n b bv).take o++u.cells++(rQ n b bv).drop (o+m)=rQ n' b bv)(a:n'.c=n.c)(hb:n'.aS=n.aS)(hl:n'.lines=n.lines) :
 ∃H',Op.store m [.ptr r o,u] H=B1 (.undef,H')/\di H0 H' r b sv bv n' ks/\Fr (On r) H H':=by
 have st:=xK h.row (o:=o) (n:=m) (v:=u) hu (by grind [FQ]) ho;rw[e]at st;have f:Fr (On r) H (H.set r (OR (rQ n' b bv) Qh)):=(Fr.refl H).set (W:=On r) (.inl rfl) _;refine⟨_,st,⟨xc ..,h.lt,by rw[a];exact h.ca.fr f (λ(q:b=r)=>h.n1 q.symm) (λ(q:aE sv=r)=>h.n2 q.symm),h.bk.vX f (h.bk.fr.set (.inr h.lr) _) (λ x hx(q:x=r)=>h.o1 (q▸hx)),by rw[hb];exact h.eq,h.lr,h.lb,h.ls,h.n1,h.n2,h.o1,h.o2,h.o3,by rw[hl];exact h.li,by rw[a];exact h.len⟩,f⟩
def di.tw(h:di H0 H r b sv bv n ks)(q:Bool):∃H',Op.store 1 [.ptr r 15,.bool q] H=B1 (.undef,H')/\di H0 H' r b sv bv {n with live:=q} ks/\Fr (On r) H H' :=
 h.put (n':={n with live:=q}) (o:=15) (m:=1) (u:=.bool q) rfl rfl (by decide) (by
  have⟨core,lines,c,⟨k,co,l,⟨d,a⟩⟩,aS,live,code⟩:=n
  match d,a with
  |[d0,d1,d2,d3,d4,d5,d6,d7],_=>rfl) rfl rfl rfl
def di.xS(h:di H0 H r b sv bv n ks)(k:Int):∃H',Op.store 1 [.ptr r 16,.int .i64 k] H=B1 (.undef,H')/\di H0 H' r b sv bv {n with code:=k} ks/\Fr (On r) H H' :=
 h.put (n':={n with code:=k}) (o:=16) (m:=1) (u:=.int .i64 k) rfl rfl (by decide) (by
  have⟨core,lines,c,⟨k,co,l,⟨d,a⟩⟩,aS,live,code⟩:=n
  match d,a with
  |[d0,d1,d2,d3,d4,d5,d6,d7],_=>rfl) rfl rfl rfl
def di.EL(h:di H0 H r b sv bv n ks)(m:Mg):∃H',Op.store 11 [.ptr r 3,.agg (ao m)] H=B1 (.undef,H')/\di H0 H' r b sv bv {n with out:=m} ks/\Fr (On r) H H' :=
 h.put (n':={n with out:=m}) (o:=3) (m:=11) (u:=.agg (ao m)) (by grind [zo,zf]) (by grind [zo,rh]) (by decide) (by
  have⟨core,lines,c,⟨k,co,l,⟨d,f⟩⟩,aS,live,code⟩:=n;have⟨k',co',g,⟨e,a⟩⟩:=m
  match d,f,e,a with
  |[d0,d1,d2,d3,d4,d5,d6,d7],_,[e0,e1,e2,e3,e4,e5,e6,e7],_=>rfl) rfl rfl rfl
def di.iF(h:di H0 H r b sv bv n ks){c:Ca}{H':ar}(d:eC H' b sv c)(f:Fr (nE b sv) H H')(hl:c.sl.length<=40):di H0 H' r b sv bv {n with c:=c} ks :=
 ⟨by rw[f.ah _ h.lt (λ q=>q.elim h.n1 h.n2)];exact h.row,qn h.lt f.au,d,h.bk.vX f (h.bk.fr.trans f λ x q=>q.elim (λ q=>.inr (by rw[q];exact h.lb)) λ q=>.inr (by rw[q];exact h.ls)) (λ x a q=>q.elim (λ q=>h.o2 (q▸a)) λ q=>h.o3 (q▸a)),h.eq,h.lr,h.lb,h.ls,h.n1,h.n2,h.o1,h.o2,h.o3,h.li,hl⟩
def rZ.of{n':No}{H':ar}{a:List Nat}(h:di H0 H' r b sv bv n' a)(f:Fr (iK r b sv bv) H H'):rZ H0 H r b sv bv n' H':=⟨bv,a,h,f,λ x q=>.inl q⟩
def Mc{H1 a:ar}(f:Fr (On r) H1 a):Fr (iK r b sv bv) H1 a:=f.mono λ _ _ q=>.inl q
theorem xL{H1 a:ar}(f:Fr (nE b sv) H1 a):Fr (iK r b sv bv) H1 a:=f.mono λ _ _ q=>.inr (.inl q)
theorem nD{H1 a:ar}(f:Fr Em H1 a):Fr (iK r b sv bv) H1 a:=f.mono λ _ _ q=>q.elim
theorem jR{H1 a c:ar}(f:Fr (iK r b sv bv) H1 a)(g:Fr (iK r b sv bv) a c):Fr (iK r b sv bv) H1 c:=f.trans g λ _ q=>.inl q
def Yv(h:di H0 H r b sv bv n ks)(a:Int):zb M ZM [.ptr r 0,.int .i64 a] H λ v H'=>v=.int .i64 (if n.may a then 0 else 2)/\H'=H:=by
 refine q5s ?_;obtain⟨w0,w2,d⟩:=q5t M ⟨B5,ZM⟩;have hl:=h.li;have f:aj .i64 (n.lines*8)=n.lines*8:=(by grind [jc])
 by_cases c:a<0
 .have hm:¬n.may a:=λ q=>by have:=q.1;omega
  simp only[aa,bc,w0,w2,yp,c]
  grind
 by_cases e:n.lines*8<=a
 .have hm:¬n.may a:=λ q=>by have:=q.2;omega
  simp only[aa,bc,w0,w2,yp,c,qo,h.l1,f,e]
  grind
 .have hm:n.may a:=⟨by omega,by omega⟩
  simp only[aa,bc,w0,w2,yp,c,qo,h.l1,f,e,d];rw[xg hm]
def mZ:[AV.int .i64 0,.int .i64 0,.int .i64 0,.int .u64 0,.int .u64 0,.int .u64 0,.int .u64 0,.int .u64 0,.int .u64 0,.int .u64 0,.int .u64 0]=ao ⟨0,0,0,.zero⟩:=rfl
def S7(k co l:Int):Op.build (ao ⟨0,0,0,.zero⟩) [(0,1),(1,1),(2,1)] [.int .i64 k,.int .i64 co,.int .i64 l]=B1 (.agg (ao ⟨k,co,l,.zero⟩)):=rfl
def Fm(h:di H0 H r b sv bv n ks)(k line:Int):zb M w_ [.ptr r 0,.int .i64 k,.int .i64 line] H λ v H'=>v=.agg (ao (n.msg k line))/\Fr Em H H':=by
 refine q5u ?_;obtain⟨H1,e1,a,-,d⟩:=bZ H (OR (ao ⟨0,0,0,.zero⟩) xm);have s1:=fK d (zf _) (zf (n.msg k line)) (rh _);have ld:=eJ (xc H1 H.au (OR (ao (n.msg k line)) xm)) (zf _);have c:Op.build (ao ⟨0,0,0,.zero⟩) [(0,1),(1,1),(2,1)] [.int .i64 k,.int .i64 n.core,.int .i64 line]=B1 (.agg (ao (n.msg k line))):=S7 ..;simp only[aa,bc,q5v,mZ,<-e1,qo,(h.em a).l0,c,s1,ld];exact a.set (by omega) _
def xl5(h:di H0 H r b sv bv n ks):zb M sA [.ptr r 0] H λ v H'=>v=.bool n.live/\H'=H:=by
 refine q0t ?_;simp only[aa,bc,q0u,lJ,qo,h.jG]
def IW(h:di H0 H r b sv bv n ks)(k:Int):zb M Z1 [.ptr r 0,.int .i64 k] H λ _ H'=>di H0 H' r b sv bv (n.iN k) ks/\Fr (iK r b sv bv) H H':=by
 refine qx6 ?_;simp only[aa,bc,qx7,qo,h.l2];refine C3.q (xbz h.ca h.len) λ _ H1⟨g,d⟩=>?_;have a:=h.iF g d (by show(n.c.sl.map back).length<=40;rw[xu];exact h.len);have⟨m,s2,i,e⟩:=a.tw B2;have⟨o,l,j,f⟩:=i.xS k;simp only[aa,bc,qo,s2,l];exact⟨j,jR (jR (xL d) (Mc e)) (Mc f)⟩
def xhp(h:di H0 H r b sv bv n ks)(k:Int):zb M UI [.ptr r 0,.int .i64 k] H λ v H'=>v=.int .i64 (n.abort k).2/\di H0 H' r b sv bv (n.abort k).1 ks/\Fr (iK r b sv bv) H H':=by
 refine qxz ?_;obtain⟨w0,w2,e,a⟩:=qx0 M ⟨B5,UI⟩;have jG:=h.jG;cases hl:n.live with
 |false =>
  simp_all[No.abort,aa,yp,qo,Fr.refl]
 |true =>
  rw[hl]at jG
  by_cases f:k<1
  .simp_all [No.abort,aa,yp,qo,Fr.refl]
  by_cases g:7<k
  .have c:n.abort k=(n,2):=by simp_all[No.abort]
   rw[c];simp only[aa,bc,w0,w2,yp,qo,jG,a,f,g]
   grind [Fr.refl]
  have c:n.abort k=(n.iN k,0):=by simp_all[No.abort]
  rw[c];simp only[aa,bc,w0,w2,yp,qo,jG,a,f,g,e];refine C3.q (IW h k) λ _ H1⟨d,i⟩=>?_;simp only[aa,bc];exact⟨d,i⟩
end
end Go.Am
namespace Go.Am
open Go.Proofs Ca
open Lang (ints)
variable{M:ak}[MK M]
def mU(H H':ar)(v:AV)(ms:List Mg):Prop:=bI ao 11 H' v ms/\(ms≠[]->H.au<=aE v)
theorem mU.nil(H H':ar):mU H H' .nils []:=⟨⟨rfl,rfl⟩,λ q=>absurd rfl q⟩
def AX(m:Mg):Op.buildSlice xm 1 (ao ⟨0,0,0,.zero⟩) [(0,11)] [.agg (ao m)]=B1 (OR (ao m) xm,Op.sliceTo 1 1):=Vl xm 11 (ao ⟨0,0,0,.zero⟩) (.agg (ao m)) (zf _) (by grind [zo,zf])
def Mj{H:ar}(m:Mg):gW ao xm 11 (H.alloc (OR (ao m) xm)) (Op.sliceTo 1 1 H.au) [m]:=⟨H.au,rfl,by grind [xy],by rw[xp];simp⟩
def LB{H H0:ar}(m:Mg)(h:H0.au<=H.au):mU H0 (H.alloc (OR (ao m) xm)) (Op.sliceTo 1 1 H.au) [m]:=⟨(Mj m).sl zf,λ _=>h⟩
section
variable{H0 H:ar}{r b:Nat}{sv bv:AV}{n:No}{ks:List Nat}
def di.kl(h:di H0 H r b sv bv n ks):n.aS.length=ks.length:=by rw[h.eq];unfold ints;grind
def YB(h:di H0 H r b sv bv n ks)(hk:n.aS.length<=900000)(k line:Int):zb M Wf [.ptr r 0,.int .i64 k,.int .i64 line] H λ v H'=>mU H H' v (n.ask k line).2/\di H0 H' r b sv bv (n.ask k line).1 ks/\Fr (iK r b sv bv) H H':=by
 refine q5q ?_;obtain⟨w0,w2,f⟩:=q5r M ⟨B5,Wf⟩;have p:=h.kl
 by_cases i:n.out.k=0
 .simp only[aa,bc,w0,w2,qo,h.l3,qv i,h.vN];refine C3.q (b_ h.bk.sl (by omega) line) λ v H1⟨e,o⟩=>?_;rw[e,o,<-h.eq]
  by_cases j:line∈n.aS
  .have a:n.ask k line=(n,[]):=by simp_all[No.ask]
   rw[a];simp only[aa,bc,qv j]
   grind [mU.nil,Fr.refl]
  .have a:n.ask k line=({n with out:=n.msg k line},[n.msg k line]):=by simp_all[No.ask]
   rw[a];simp only[aa,bc,j,f];refine C3.q (Fm h k line) λ v t⟨e,g⟩=>?_;rw[e];have⟨d,s,l,m⟩:=(h.em g).EL (n.msg k line);have lo:=l.lo;have c:Fr (iK r b sv bv) H d:=jR (nD g) (Mc m);simp only[aa,bc,qo,s,lo,mZ,AX];exact⟨LB _ c.au,l.em ((Fr.refl d).alloc _),jR c (nD ((Fr.refl d).alloc _))⟩
 .have a:n.ask k line=(n,[]):=by simp_all[No.ask]
  rw[a];simp only[aa,bc,w0,w2,qo,h.l3,i]
  grind [mU.nil,Fr.refl]
def jZ{H1:ar}(e:En):Op.store 21 [.ptr H1.au 0,.agg (az e)] (H1.alloc (OR (az .zero) xk))=B1 (.undef,(H1.alloc (OR (az .zero) xk)).set H1.au (OR (az e) xk)):=fK (xp ..) (zw _) (zw e) (ud e)
theorem yU{H1:ar}(o o':bE):Fr Em H1 ((H1.alloc o).set H1.au o'):=((Fr.refl H1).alloc _).set (by omega) _
def q8o{line:Int}(h:di H0 H r b sv bv n ks)(a:CI n.lines n.c):zb M qm3 [.ptr r 0,.int .i64 line] H λ v H'=>v=.bool (n.owned line)/\Fr Em H H':=by
 refine qx8 ?_;simp only[aa,bc,qx9,qo,h.l2];refine C3.q (P2 h.ca a line) λ v H1⟨f,d⟩=>?_;rw[f];unfold oe No.owned;cases i:n.c.find line with
 |none =>
  simp only[aa,bc,xj,eZ,jZ];exact d.trans (yU _ _) λ _ q=>q.elim
 |some e =>
  have l1:Op.ae [.ptr H1.au 1] ((H1.alloc (OR (az .zero) xk)).set H1.au (OR (az e) xk))=B1 (.int .i64 e.st):=x9 (xb (xc ..)) 1;have g:Fr Em H ((H1.alloc (OR (az .zero) xk)).set H1.au (OR (az e) xk)):=d.trans (yU _ _) λ _ q=>q.elim
  by_cases q:e.st=2
  .simp only[aa,bc,xj,eZ,jZ,l1,qv q]
   grind
  simp_all[aa,xj,eZ,jZ]
def vB(H0 H:ar)(r b:Nat)(sv bv:AV)(n:No)(ks:List Nat)(a:Int)(v:AV)(H':ar):Prop:=(∃ov,v=.tuple [.int .u64 (n.load a).2.1,.bool (n.load a).2.2.1,ov,.int .i64 (n.load a).2.2.2.2]/\mU H H' ov (n.load a).2.2.2.1)/\di H0 H' r b sv bv (n.load a).1 ks/\Fr (iK r b sv bv) H H'
def xl7(h:di H0 H r b sv bv n ks)(j:CI n.lines n.c)(hk:n.aS.length<=900000)(hu:n.c.us+1<=1000000)(a:Int):zb M PF [.ptr r 0,.int .i64 a] H (vB H0 H r b sv bv n ks a):=by
 refine q0w ?_;obtain⟨w0,w2,F,G,y,I⟩:=q0x M ⟨B5,PF⟩;simp only[aa,bc,w0,w2];refine C3.q (Yv h a) λ v H1⟨x,S⟩=>?_;rw[x,S]
 by_cases hm:n.may a
 case neg =>
  have o:n.load a=(n,0,B2,[],2):=by simp_all[No.load]
  have U:¬(2:Int)=0:=by decide
  rw[qy hm];unfold vB;rw[o];simp only[aa,bc,U]
  grind [mU.nil,Fr.refl]
 rw[xg hm];have hl:=h.li;have⟨L,T⟩:=hm;obtain⟨f,rfl⟩:=ji L;have s:f<1000000:=by omega
 have P:No.ln (Int.ofNat f)=((f / 8:Nat):Int):=rfl;have Y:=qv (show(0:Int)=0 from rfl);simp only[aa,bc,F,Ak s,G,qo,h.l2];refine C3.q (P2 h.ca j ((f / 8:Nat):Int)) λ v H1⟨x,J⟩=>?_;rw[x];have C:n.may (f:Int):=⟨L,T⟩
 unfold oe;cases K:n.c.find ((f / 8:Nat):Int)with
 |none =>
  have o:n.load (f:Int)=((n.ask 1 ((f / 8:Nat):Int)).1,0,B2,(n.ask 1 ((f / 8:Nat):Int)).2,0):=by
   simp_all[No.load]
  have k:Fr Em H ((H1.alloc (OR (az .zero) xk)).set H1.au (OR (az .zero) xk)):=J.trans (yU _ _) λ _ q=>q.elim;simp only[aa,bc,xj,eZ,jZ];refine C3.q (YB (h.em k) hk 1 ((f / 8:Nat):Int)) λ v V⟨w,hn,m⟩=>?_;unfold vB;rw[o];simp only[aa,bc];refine⟨⟨v,rfl,w.1,λ q=>xx k.au (w.2 q)⟩,hn,jR (nD k) m⟩
 |some e =>
  obtain⟨i,hp,rfl⟩:=Ui K;have k:Fr Em H ((H1.alloc (OR (az .zero) xk)).set H1.au (OR (az (n.c.en i)) xk)):=J.trans (yU _ _) λ _ q=>q.elim;obtain⟨Hb,l⟩:∃X,X=(H1.alloc (OR (az .zero) xk)).set H1.au (OR (az (n.c.en i)) xk):=⟨_,rfl⟩
  rw[<-l]at k;have hb:=h.em k;have jG:=hb.jG
  -- behind the mark
  have fin:∀{z:ar}{c:Ca},di H0 z r b sv bv {n with c:=c} ks->CI n.lines c->c.us+1<=1000000->Fr (iK r b sv bv) H z->c=(if n.live then n.c.mark ((f / 8:Nat):Int) B2 else n.c)->c.pos ((f / 8:Nat):Int)=B1 i -> ∀{E:Env},lk E 0=B1 (.ptr r 0)->lk E 1=B1 (.int .i64 (f:Int)) ->
   W M ⟨B5,PF⟩ (q0v 30) B4 (eS M [.tmp 4,.tmp 5,.tmp 6,.tmp 7] (tq (vB H0 H r b sv bv n ks (f:Int)))) E [] z:=by
   intro z c A t D m O g E Q R;have o:n.load (f:Int)=({n with c:=(c.word f).1},(c.word f).2.getD 0,B4,[],0):=by
    unfold No.load;rw[xg C];show(match n.c.find ((f / 8:Nat):Int)with|none=>_|some _=>_)=_;rw[K,O];rfl
   simp only[aa,bc,I,Q,qo,A.l2,R];refine C3.q (xd2 A.ca t D s) λ v N⟨x,B,p⟩=>?_;rw[x];have hw:(c.word f).2=B1 ((c.en i).d.get (f % 8)):=by grind [Ca.word]
   unfold zB;rw[g];have hlen:(c.word f).1.sl.length<=40:=by
    have:=A.len;unfold Ca.word;rw[g];show(c.sl.set i _).length<=40;grind
   have hn:=A.iF B p hlen;unfold vB;rw[o,hw];simp only[aa,bc,xj];exact⟨⟨.nils,rfl,mU.nil ..⟩,hn,jR m (xL p)⟩
  cases u:n.live with
  |false =>
   rw[u]at jG;simp only[aa,bc,xj,eZ,jZ,<-l,y,qo,jG];exact fin (c:=n.c) (by omega) j hu (nD k) (by grind) hp rfl rfl
  |true =>
   rw[u]at jG;simp only[aa,bc,xj,eZ,jZ,<-l,y,qo,jG,hb.l2];refine C3.q (L_ hb.ca j ((f / 8:Nat):Int) B2) λ _ N⟨B,p⟩=>?_;have em:n.c.mark ((f / 8:Nat):Int) B2=n.c.set i {n.c.en i with r:=B4}:=by simp_all[Ca.mark,sX]
   have hlen:(n.c.mark ((f / 8:Nat):Int) B2).sl.length<=40:=by rw[em];show(n.c.sl.set i _).length<=40;rw[ze];exact h.len
   have g:(n.c.mark ((f / 8:Nat):Int) B2).pos ((f / 8:Nat):Int)=B1 i:=by
    rw[em];have sh:AM n.c {n.c.set i {n.c.en i with r:=B4}with us:=n.c.us}:=AM.set n.c.us rfl rfl;exact(sh.pos _).trans hp
   simp only[aa,bc];exact fin (c:=n.c.mark ((f / 8:Nat):Int) B2) (hb.iF B p hlen) (j.mark _ _) (by rw[em];exact hu) (jR (nD k) (xL p)) (by grind) g rfl rfl
end
end Go.Am
namespace Go.Am
open Go.Proofs Ca
open Lang (ints)
variable{M:ak}[MK M]
section
variable{H0 H:ar}{r b:Nat}{sv bv:AV}{n:No}{ks:List Nat}
def xmo{line:Int}(h:n.owned line=B4):∃i,n.c.pos line=B1 i/\(n.c.en i).st=2:=by
 grind [No.owned,Ui]
theorem Uj(c:Ca)(line:Int)(wr:Bool):(c.mark line wr).us=c.us/\(c.mark line wr).sl.length=c.sl.length:=by
 unfold Ca.mark;cases wr with
 |true =>
  rw[xg rfl];cases c.mg line 2 with
  |none=>grind
  |some i =>
   show(if(c.en i).w then c else c.set i _).us=_/\(if(c.en i).w then c else c.set i _).sl.length=_;split
   .omega
   .exact ⟨rfl,ze⟩
 |false =>
  rw[qy (by decide)];cases c.mg line 0 with
  |none=>grind
  |some i=>exact⟨rfl,ze⟩
theorem SC(c:Ca)(a:Nat)(y:Int):(c.put a y).sl.length=c.sl.length/\((c.put a y).us=c.us\/(c.put a y).us=c.us+1):=by
 grind [Ca.put]
def Ro(c:Ca)(a:Nat):(c.word a).1.sl.length=c.sl.length/\((c.word a).1.us=c.us\/(c.word a).1.us=c.us+1):=by
 unfold Ca.word;cases c.pos ((a / 8:Nat):Int)with
 |none=>grind
 |some i=>exact⟨ze,.inr rfl⟩
def rF(H0 H:ar)(r b:Nat)(sv bv:AV)(n:No)(ks:List Nat)(a y:Int)(v:AV)(H':ar):Prop:=(∃ov,v=.tuple [.bool (n.store a y).2.1,ov,.int .i64 (n.store a y).2.2.2]/\mU H H' ov (n.store a y).2.2.1)/\di H0 H' r b sv bv (n.store a y).1 ks/\Fr (iK r b sv bv) H H'
def xjw(h:di H0 H r b sv bv n ks)(e:CI n.lines n.c)(hk:n.aS.length<=900000)(hu:n.c.us+1<=1000000)(a y:Int):zb M Qf [.ptr r 0,.int .i64 a,.int .u64 y] H (rF H0 H r b sv bv n ks a y):=by
 refine qx4 ?_;obtain⟨w0,w2,B,C,p,D⟩:=qx5 M ⟨B5,Qf⟩;simp only[aa,bc,w0,w2];refine C3.q (Yv h a) λ v H1⟨w,N⟩=>?_;rw[w,N]
 by_cases hm:n.may a
 case neg =>
  simp_all[No.store,rF,aa,mU.nil,Fr.refl]
 rw[xg hm];have hl:=h.li;have⟨F,O⟩:=hm;obtain⟨d,rfl⟩:=ji F;have i:d<1000000:=by omega
 have m:n.may (d:Int):=⟨F,O⟩
 have f:No.ln (d:Int)=((d / 8:Nat):Int):=rfl;have Q:=qv (show(0:Int)=0 from rfl);simp only[aa,bc,B,Ak i,C];refine C3.q (q8o (line:=((d / 8:Nat):Int)) h e) λ v H1⟨w,g⟩=>?_;rw[w];have hb:=h.em g;cases ho:n.owned ((d / 8:Nat):Int)with
 |false =>
  have x:n.store (d:Int) y=((n.ask 2 ((d / 8:Nat):Int)).1,B2,(n.ask 2 ((d / 8:Nat):Int)).2,0):=by
   unfold No.store;rw[xg m,f,ho];rfl
  simp only[aa,bc];refine C3.q (YB hb hk 2 ((d / 8:Nat):Int)) λ v P⟨o,hn,k⟩=>?_;unfold rF;rw[x];simp only[aa,bc];exact⟨⟨v,rfl,o.1,λ q=>xx g.au (o.2 q)⟩,hn,jR (nD g) k⟩
 |true =>
  have jG:=hb.jG;have fin:∀{s:ar}{c:Ca},di H0 s r b sv bv {n with c:=c} ks->CI n.lines c->c.us+1<=1000000->Fr (iK r b sv bv) H s->c=(if n.live then n.c.mark ((d / 8:Nat):Int) B4 else n.c) -> ∀{E:Env},lk E 0=B1 (.ptr r 0)->lk E 1=B1 (.int .i64 (d:Int))->lk E 2=B1 (.int .u64 y) ->
   W M ⟨B5,Qf⟩ (qx3 28) B4 (eS M [.tmp 6,.tmp 7,.tmp 8] (tq (rF H0 H r b sv bv n ks (d:Int) y))) E [] s:=by
   intro s c u j A k I E J K L;have x:n.store (d:Int) y=({n with c:=c.put d y},B4,[],0):=by
    unfold No.store;rw[xg m,f,ho,xg rfl,I];rfl
   simp only[aa,bc,D,J,qo,u.l2,K,L];refine C3.q (xhe u.ca j A i y) λ v G⟨w,z,t⟩=>?_;have hn:=u.iF z t (by rw[(SC c d y).1];exact u.len);unfold rF;rw[x];simp only[aa,bc]
   grind [mU.nil,jR,xL]
  cases l:n.live with
  |false =>
   rw[l]at jG;simp only[aa,bc,p,qo,jG];exact fin (c:=n.c) (by omega) e hu (nD g) (by grind) rfl rfl rfl
  |true =>
   rw[l]at jG;simp only[aa,bc,p,qo,jG,hb.l2];refine C3.q (L_ hb.ca e ((d / 8:Nat):Int) B4) λ _ G⟨z,t⟩=>?_;simp only[aa,bc];exact fin (c:=n.c.mark ((d / 8:Nat):Int) B4) (hb.iF z t (by rw[(Uj ..).2];exact h.len)) (e.mark _ _) (by grind [Uj]) (jR (nD g) (xL t)) (by grind) rfl rfl rfl
def UK(h:di H0 H r b sv bv n ks)(x:En)(too:Bool):zb M _p [.ptr r 0,.agg (az x),.bool too] H λ _ H'=>di H0 H' r b sv bv (n.lost x too) ks/\Fr (iK r b sv bv) H H':=by
 refine q02 ?_;obtain⟨H1,e1,d,-,i⟩:=bZ H (OR (az x) xk);have l0:Op.ae [.ptr H.au 0] H1=B1 (.int .i64 x.line):=x9 (xb i) 0;have l2:Op.ae [.ptr H.au 2] H1=B1 (.bool x.r):=x9 (xb i) 2;have l3:Op.ae [.ptr H.au 3] H1=B1 (.bool x.w):=x9 (xb i) 3;have f:=h.em d;have stay:(x.w ||(x.r && too))=B2->n.lost x too=n:=λ q=>by grind [No.lost]
 have go2:(x.w ||(x.r && too))=B4->x.line=0->n.lost x too=n.iN 2:=λ q j=>by simp_all[No.lost]
 have e:(x.w ||(x.r && too))=B4 -> ¬x.line=0->n.lost x too=n.iN 1:=λ q j=>by simp_all[No.lost]
 cases hw:x.w with
 |true =>
  rw[hw]at l3
  by_cases q:x.line=0
  .rw [go2 (by rw[hw];rfl) q];simp only[aa,bc,MZ,<-e1,l3,l0,qv q];refine C3.q (IW f 2) λ _ g⟨c,a⟩=>?_;simp only[aa,bc];exact⟨c,jR (nD d) a⟩
  .rw [e (by rw[hw];rfl) q];simp only[aa,bc,MZ,<-e1,l3,l0,q];refine C3.q (IW f 1) λ _ g⟨c,a⟩=>?_;simp only[aa,bc];exact⟨c,jR (nD d) a⟩
 |false =>
  rw[hw]at l3;cases hr:x.r with
  |false =>
   rw[hr]at l2;rw[stay (by rw[hw,hr];rfl)];simp only[aa,bc,MZ,<-e1,l3,l2]
   grind [nD]
  |true =>
   rw[hr]at l2;cases too with
   |false =>
    rw[stay (by rw[hw,hr];rfl)];simp only[aa,bc,MZ,<-e1,l3,l2]
    grind [nD]
   |true =>
    by_cases q:x.line=0
    .rw [go2 (by rw[hw,hr];rfl) q];simp only[aa,bc,MZ,<-e1,l3,l2,l0,qv q];refine C3.q (IW f 2) λ _ g⟨c,a⟩=>?_;simp only[aa,bc];exact⟨c,jR (nD d) a⟩
    .rw [e (by rw[hw,hr];rfl) q];simp only[aa,bc,MZ,<-e1,l3,l2,l0,q];refine C3.q (IW f 1) λ _ g⟨c,a⟩=>?_;simp only[aa,bc];exact⟨c,jR (nD d) a⟩
end
end Go.Am
namespace Go.Am
open Go.Proofs Ca
open Lang (ints)
variable{M:ak}[MK M]
def Av(H H':ar)(v:AV)(ms:List Mg):Prop:=(v=.nils/\ms=[]) \/ ∃m a,v=Op.sliceTo 1 1 a/\ms=[m]/\H.au<=a/\a<H'.au/\H'.get a=B1 (OR (ao m) xm)
def Av.ms{H H':ar}{v:AV}{ms:List Mg}(h:Av H H' v ms):mU H H' v ms:=by
 rcases h with⟨rfl,rfl⟩|⟨m,a,rfl,rfl,c,d,f⟩
 .exact mU.nil ..
 .exact ⟨gW.sl (e:=xm) zf ⟨a,rfl,d,by rw[f];simp⟩,λ _=>c⟩
def Av.one{H H0:ar}(m:Mg)(h:H0.au<=H.au):Av H0 (H.alloc (OR (ao m) xm)) (Op.sliceTo 1 1 H.au) [m]:=.inr ⟨m,H.au,rfl,rfl,h,by rw[xy];omega,xp ..⟩
section
variable{H0 H:ar}{r b:Nat}{sv bv:AV}{n:No}{ks:List Nat}
def di.JZ(h:di H0 H r b sv bv n ks){a:AV}{g:List Nat}{H1:ar}(hs:mJ cH H0 H1 a g)(f:Fr (aM bv) H H1)(A:∀x,aM a x->aM bv x\/H.au<=x) :
 ∃j,Op.store 1 [.ptr r 14,a] H1=B1 (.undef,j)/\di H0 j r b sv a {n with aS:=ints g} g/\Fr (iK r b sv bv) H j:=by
 have s:=h.ca.lt;have t:aE sv<H.au:=h.ca.sl.lt;have i:∀x,x<H.au -> ¬aM bv x -> ¬aM a x:=λ x y z q=>(by grind)
 have u:H1.get r=B1 (OR (rQ n b bv) Qh):=by rw[f.ah _ h.lt h.o1];exact h.row
 have o1:aD a=true:=by have:=Sl.one hs.sl;exact this
 have hu:AV.cells a=[a]:=by
  rcases hs.own with⟨rfl,_⟩|⟨b,m,rest,rfl,_⟩<;>rfl
 have st:=xK u (o:=14) (n:=1) (v:=a) (by rw[hu];rfl) (by rw[(FQ n b bv).2.2.2.2.2.2.2.2];decide) (by grind [vd]);have e:(rQ n b bv).take 14++AV.cells a++(rQ n b bv).drop (14+1)=rQ n b a:=by
  rw[hu];have⟨core,lines,c,⟨k,co,l,⟨d,w⟩⟩,aS,live,code⟩:=n
  match d,w with
  |[d0,d1,d2,d3,d4,d5,d6,d7],_=>rfl
 rw[e]at st;have p:Fr (On r) H1 (H1.set r (OR (rQ n b a) Qh)):=(Fr.refl H1).set (W:=On r) (.inl rfl) _;have fn:=f.au;refine⟨_,st,⟨xc ..,qn h.lt fn,(h.ca.fr f h.o2 h.o3).fr p (λ(q:b=r)=>h.n1 q.symm) (λ(q:aE sv=r)=>h.n2 q.symm),hs.vX p (hs.fr.set (.inr h.lr) _) (λ x hx(q:x=r)=>i r h.lt h.o1 (q▸hx)),rfl,h.lr,h.lb,h.ls,h.n1,h.n2,i _ h.lt h.o1,i _ s h.o2,i _ t h.o3,h.li,h.len⟩,?_⟩;exact(f.mono λ _ _ q=>.inr (.inr q)).trans p λ x q=>.inl (.inl q)
def af9(ks:List Nat)(x:Nat):ints (ks ++ [x])=ints ks ++ [(x:Int)]:=by simp[ints]
def W7(m:Mg)(d:L8):(ao m).take 3++(AV.agg (cD d)).cells++(ao m).drop (3+8)=ao {m with d:=d}:=by
 have⟨k,co,l,⟨e,he⟩⟩:=m;have⟨d,a⟩:=d
 match e,he,d,a with
 |[d0,d1,d2,d3,d4,d5,d6,d7],_,[e0,e1,e2,e3,e4,e5,e6,e7],_=>rfl
theorem BH(x:En):((az x).drop 4).take 8=cD x.d:=by
 have⟨line,st,r,w,⟨d,a⟩,⟨o,ho⟩,u⟩:=x
 match d,a,o,ho with
 |[d0,d1,d2,d3,d4,d5,d6,d7],_,[e0,e1,e2,e3,e4,e5,e6,e7],_=>rfl
def qN(H0 H:ar)(r b:Nat)(sv bv:AV)(a:No×List Mg)(v:AV)(H':ar):Prop:=Av H H' v a.2/\rZ H0 H r b sv bv a.1 H'
def z6(h:di H0 H r b sv bv n ks)(hk:n.aS.length<=900000)(x:En)(O:0<=x.line):zb M ZP [.ptr r 0,.agg (az x)] H (qN H0 H r b sv bv (n.gone x)):=by
 refine q00 ?_;obtain⟨w0,w2,B⟩:=q01 M ⟨B5,ZP⟩;obtain⟨H1,e1,p,-,t⟩:=bZ H (OR (az x) xk);have l0:Op.ae [.ptr H.au 0] H1=B1 (.int .i64 x.line):=x9 (xb t) 0;have l1:Op.ae [.ptr H.au 1] H1=B1 (.int .i64 x.st):=x9 (xb t) 1;have u:=h.em p;have n1:H.au<H1.au:=by grind [xy]
 by_cases q:x.st=2
 case neg =>
  have l:n.gone x=(n,[]):=by simp_all[No.gone]
  rw[l];simp only[aa,bc,w0,<-e1,w2,l1,q];exact⟨.inl ⟨rfl,rfl⟩,h.same p⟩
 have l:n.gone x=({n with aS:=n.aS ++ [x.line]},[⟨3,n.core,x.line,x.d⟩]):=by simp_all[No.gone]
 rw[l];have⟨ln,c⟩:=ji O;rw[c]at l0;simp only[aa,bc,w0,<-e1,w2,l1,qv q,B,qo,u.vN,l0];have L:=h.kl;refine u.bk.push (x:=ln) rfl (by omega) (by omega) λ j T hs J w=>?_;have⟨i,S,E,s⟩:=u.JZ hs J w;have F:i.get H.au=B1 (OR (az x) xk):=by
  rw[s.ah _ n1 ?_];exact t;rintro(q|q|q)
  .have:=h.lt;omega
  .have U:=h.ca.lt;have V:aE sv<H.au:=h.ca.sl.lt;exact q.elim (by omega) λ q=>by omega
  .have:=h.bk.fresh _ q;omega
 have Q:H.au<i.au:=by have:=s.au;omega
 have l0:Op.ae [.ptr H.au 0] i=B1 (.int .i64 (ln:Int)):=by rw[<-c];exact x9 (xb F) 0
 simp only[aa,bc,S,l0];refine C3.q (Fm E 3 (ln:Int)) λ v a⟨N,g⟩=>?_;rw[N];have P:a.get H.au=B1 (OR (az x) xk):=by rw[g.ah _ Q id];exact F
 obtain⟨m,hm⟩:∃m,m=No.msg {n with aS:=ints (ks ++ [ln])} 3 (ln:Int):=⟨_,rfl⟩
 have y:({m with d:=x.d}:Mg)=⟨3,n.core,x.line,x.d⟩:=by rw[hm,c];rfl
 rw[<-hm];have G:=fK (xp a (OR (ao ⟨0,0,0,.zero⟩) xm)) (zf _) (zf m) (rh _);obtain⟨f,k⟩:∃X,X=(a.alloc (OR (ao ⟨0,0,0,.zero⟩) xm)).set a.au (OR (ao m) xm):=⟨_,rfl⟩
 rw[<-k]at G;have C:Fr Em a f:=by grind [yU]
 have K:f.get a.au=B1 (OR (ao m) xm):=by rw[k,xc]
 have R:H.au<a.au:=by have:=g.au;omega
 have W:f.get H.au=B1 (OR (az x) xk):=by rw[C.ah _ R id];exact P
 have z:Op.aq 8 [.ptr H.au 4] f=B1 (.agg (cD x.d)):=by grind [rS,xb,zw,BH]
 have I:=xK K (o:=3) (n:=8) (v:=.agg (cD x.d)) (by grind [zo,ye]) (by rw[zf];decide) (by grind [zo,ug]);rw[W7,y]at I;have A:=eJ (xc f a.au (OR (ao ⟨3,n.core,x.line,x.d⟩) xm)) (zf _);simp only[aa,bc,mZ,G,z,I,A,AX];have Y:f.au=a.au+1:=by rw[k];rfl
 have D:Fr Em a (f.set a.au (OR (ao ⟨3,n.core,x.line,x.d⟩) xm)):=C.set (by omega) _;refine⟨Av.one _ (by rw[t9];omega),j,ks ++ [ln],?_,?_,?_⟩
 .have e:({n with aS:=ints (ks ++ [ln])}:No) = {n with aS:=n.aS ++ [x.line]}:=by rw[af9,c,h.eq]
  rw[<-e];exact(E.em (g.trans D λ _ q=>q.elim)).em ((Fr.refl _).alloc _)
 .exact ((nD p).trans s λ x q=>.inl q).em ((g.trans D λ _ q=>q.elim).alloc _)
 grind
end
end Go.Am
namespace Go.Am
open Go.Proofs Ca
open Lang (ints)
variable{M:ak}[MK M]
theorem zN(off:Nat)(n:Option Nat)(t rest:aT)(x y:List AV):aY (.part off n t rest) (.agg x) (.agg y)=(partAt x off n).bind λ a=>(partAt y off n).bind λ b=>(aY t a b).bind λ q=>cond q (aY rest (.agg x) (.agg y)) (B1 B2):=rfl
theorem xje(x:List AV)(k:Nat):partAt x k B5=nth x k:=rfl
def iI{k:Nat}{t:aT}{l c:List AV}{K:OM}{a b:Int}{P:Prop}[Decidable P](h:nth l k=B1 (.int K a))(d:nth c k=B1 (.int K b))(hp:aY t (.agg l) (.agg c)=B1 (decide P)) :
 aY (.part k B5 .int t) (.agg l) (.agg c)=B1 (decide (a=b/\P)):=by
 have q:aY .int (.int K a) (.int K b)=B1 (decide (a=b)):=by
  have e:sJ K K=true:=by cases K<;>rfl
  simp only[aY,DC,e,xt];rfl
 grind [zN,xje]
abbrev Sa:aT:=.part 0 B5 .int (.part 1 B5 .int (.part 2 B5 .int (.part 3 B5 .int (.part 4 B5 .int (.part 5 B5 .int (.part 6 B5 .int (.part 7 B5 .int .nil)))))))
def eqL(d e:L8):aY Sa (.agg (cD d)) (.agg (cD e))=B1 (decide (d=e)):=by
 have⟨d,c⟩:=d;have⟨e,he⟩:=e
 match d,c,e,he with
 |[d0,d1,d2,d3,d4,d5,d6,d7],_,[e0,e1,e2,e3,e4,e5,e6,e7],_ =>
  rw[iI (P:=d1=e1/\d2=e2/\d3=e3/\d4=e4/\d5=e5/\d6=e6/\d7=e7/\True) (a:=d0) (b:=e0) (K:=.u64) rfl rfl (iI rfl rfl (iI rfl rfl (iI rfl rfl (iI rfl rfl (iI rfl rfl (iI rfl rfl (iI rfl rfl rfl)))))))];simp_all
abbrev iw:aT:=.part 0 B5 .int (.part 1 B5 .int (.part 2 B5 .int (.part 3 (B1 8) Sa .nil)))
def eqM(m e:Mg):aY iw (.agg (ao m)) (.agg (ao e))=B1 (decide (m=e)):=by
 have f:aY (.part 3 (B1 8) Sa .nil) (.agg (ao m)) (.agg (ao e))=B1 (decide (m.d=e.d)):=by
  have p:∀x:Mg,partAt (ao x) 3 (B1 8)=B1 (.agg (cD x.d)):=λ x=>by
   have⟨k,co,l,⟨d,g⟩⟩:=x
   match d,g with
   |[d0,d1,d2,d3,d4,d5,d6,d7],_=>rfl
  rw[zN,p,p,qr,qr,eqL,qr];cases decide (m.d=e.d)<;>rfl
 rw[iI (P:=m.core=e.core/\m.line=e.line/\m.d=e.d) (a:=m.k) (b:=e.k) (K:=.i64) rfl rfl (iI rfl rfl (iI rfl rfl f))];congr 1;refine decide_eq_decide.2 ⟨λ q=>?_,λ q=>by rw[q];exact⟨rfl,rfl,rfl,rfl⟩⟩;have⟨a,b,c,d⟩:=q;cases m;simp_all
def Pg(m a:Mg)(H:ar):Op.eq (.agg iw) B2 [.agg (ao m),.agg (ao a)] H=B1 (.bool (decide (m=a))):=zW _ _ _ _ _ (eqM m a)
section
variable{H0 H:ar}{r b:Nat}{sv bv:AV}{n:No}{ks:List Nat}
def xcu(h:di H0 H r b sv bv n ks)(hk:n.aS.length<=900000)(m:Mg)(x:En):zb M Us [.ptr r 0,.agg (ao m),.agg (az x)] H λ v H'=>v=.bool (decide (n.jU m x))/\Fr Em H H':=by
 refine que ?_;obtain⟨w0,w2,B,f,g,t⟩:=quf M ⟨B5,Us⟩;obtain⟨H1,e1,E,n1,-⟩:=bZ H (OR (ao m) xm);obtain⟨u,e2,w,-,F⟩:=bZ H1 (OR (az x) xk);have A:Fr Em H u:=E.trans w λ _ q=>q.elim;have D:u.get H.au=B1 (OR (ao m) xm):=by rw[w.ah _ (by omega) id,e1,xp]
 have c:Op.ae [.ptr H.au 0] u=B1 (.int .i64 m.k):=x9 (xb D) 0;have s:Op.ae [.ptr H.au 2] u=B1 (.int .i64 m.line):=x9 (xb D) 2;have ls:Op.ae [.ptr H1.au 1] u=B1 (.int .i64 x.st):=x9 (xb F) 1;have l:=h.em A;have d:∀(P Q:Prop)[Decidable P][Decidable Q],(P↔Q)->AV.bool (decide P)=.bool (decide Q):=λ P Q _ _ q=>by grind
 by_cases a:m.k=11
 .simp only[aa,bc,w0,<-e1,<-e2,w2,c,qv a,ls]
  grind [No.jU]
 by_cases e:m.k=12
 .simp only[aa,bc,w0,<-e1,<-e2,w2,c,a,ls,f,qv e,g]
  grind [No.jU]
 by_cases i:m.k=13
 .simp only[aa,bc,w0,<-e1,<-e2,w2,c,a,ls,f,e,qv i,g]
  grind [No.jU]
 by_cases j:m.k=14
 .simp only[aa,bc,w0,<-e1,<-e2,w2,c,a,f,e,i,g,qv j,qo,l.lo,s];refine C3.q (Fm l 1 m.line) λ v C⟨z,y⟩=>?_;rw[z];simp only[aa,bc,(l.em y).lo,Pg];exact⟨by grind [No.jU],A.trans y λ _ q=>q.elim⟩
 by_cases o:m.k=15
 .simp only[aa,bc,w0,<-e1,<-e2,w2,c,a,f,e,i,g,j,t,qv o,qo,l.lo,s];refine C3.q (Fm l 2 m.line) λ v C⟨z,y⟩=>?_;rw[z];simp only[aa,bc,(l.em y).lo,Pg];exact⟨by grind [No.jU],A.trans y λ _ q=>q.elim⟩
 by_cases p:m.k=16
 .have I:=h.kl;simp only[aa,bc,w0,<-e1,<-e2,w2,c,a,f,e,i,g,j,t,o,qv p,qo,l.vN,s];refine C3.q (b_ l.bk.sl (by omega) m.line) λ v C⟨z,G⟩=>?_;rw[z,G];simp only[aa,bc];exact⟨by congr 1;simp[No.jU,p,h.eq],A⟩
 .simp only[aa,bc,w0,<-e1,<-e2,w2,c,a,f,e,i,g,j,t,o,p,B]
  grind [No.jU]
def Xn(c:Ca)(line st:Int)(d:L8):(c.fill line st d).1.sl.length=c.sl.length/\((c.fill line st d).1.us=c.us\/(c.fill line st d).1.us=c.us+1):=by
 grind [Ca.fill]
def Ea{lines line st:Int}{c:Ca}{d:L8}(h:CI lines c)(hs:(c.fill line st d).2.1.st≠0):0<=(c.fill line st d).2.1.line:=by
 unfold Ca.fill at hs⊢;cases hp:c.pos line with
 |some i=>rw[hp]at hs;exact absurd rfl hs
 |none =>
  rw[hp]at hs;cases hr:c.room line with
  |none=>rw[hr]at hs;exact absurd rfl hs
  |some i =>
   rw[hr]at hs;have hs:(c.en i).st≠0:=hs;show 0<=(c.en i).line;rcases xz i c.sl.length with q|q
   .exact (h.ok i q hs).2.1
   .rw [Vq q]at hs;exact absurd rfl hs
def G8{line st:Int}{c:Ca}{d:L8}(h:(c.fill line st d).2.2=22):(c.fill line st d).1=c:=by
 grind [Ca.fill]
def Av.from{H H1 H':ar}{v:AV}{ms:List Mg}(h:Av H1 H' v ms)(f:H.au<=H1.au):Av H H' v ms:=by
 rcases h with q|⟨m,a,c,d,e,g,i⟩
 .exact .inl q
 .exact .inr ⟨m,a,c,d,xx f e,g,i⟩
def rZ.from{n':No}{H1 H':ar}(f:Fr (iK r b sv bv) H H1)(h:rZ H0 H1 r b sv bv n' H'):rZ H0 H r b sv bv n' H':=by
 have⟨a,c,d,e,g⟩:=h;have fn:=f.au;exact⟨a,c,d,jR f e,λ x q=>(g x q).imp id λ w=>by omega⟩
def rZ.em{n':No}{H1 H':ar}(h:rZ H0 H r b sv bv n' H1)(f:Fr Em H1 H'):rZ H0 H r b sv bv n' H':=by
 have⟨a,c,d,e,g⟩:=h;exact⟨a,c,d.em f,e.em f,g⟩
def di.off{W:Nat->Prop}{H':ar}(h:di H0 H r b sv bv n ks)(f:Fr W H H')(hw:∀x,W x->H0.au<=x /\ ¬iK r b sv bv x):di H0 H' r b sv bv n ks :=
 ⟨by rw[f.ah _ h.lt λ q=>(hw _ q).2 (.inl rfl)];exact h.row,qn h.lt f.au,h.ca.fr f (λ q=>(hw _ q).2 (.inr (.inl (.inl rfl)))) (λ q=>(hw _ q).2 (.inr (.inl (.inr rfl)))),h.bk.vX f (h.bk.fr.trans f λ x q=>(by grind)) (λ x a q=>(hw x q).2 (.inr (.inr a))),h.eq,h.lr,h.lb,h.ls,h.n1,h.n2,h.o1,h.o2,h.o3,h.li,h.len⟩
def qN.from{a:No×List Mg}{H1 H':ar}{v:AV}(f:Fr (iK r b sv bv) H H1)(h:qN H0 H1 r b sv bv a v H'):qN H0 H r b sv bv a v H':=⟨h.1.from f.au,h.2.from f⟩
def xi5(h:di H0 H r b sv bv n ks)(f:CI n.lines n.c)(hk:n.aS.length<=900000)(hu:n.c.us+1<=1000000)(m:Mg)(hm:0<=m.line):zb M NR [.ptr r 0,.agg (ao m)] H (qN H0 H r b sv bv (n.fill m)):=by
 refine q0y ?_;obtain⟨w0,w4,w10,G,I,w28⟩:=q0z M ⟨B5,NR⟩;have⟨H1,e1,f1,n1,O⟩:=bZ H (OR (ao m) xm);have F:Op.ae [.ptr H.au 0] H1=B1 (.int .i64 m.k):=x9 (xb O) 0;have T:=h.em f1;have hlr:=h.lt;have hlb:=h.ca.lt;have hls:aE sv<H.au:=h.ca.sl.lt;have hbf:=h.bk.fresh;have off:∀y,H.au<=y -> ¬iK r b sv bv y:=λ y hy q=>by
  rcases q with q|q|q
  .omega
  .exact q.elim (by omega) λ q=>by omega
  grind
 -- the line's words
 have C:∀{u:ar},u.get H.au=B1 (OR (ao m) xm)->Op.aq 8 [.ptr H.au 3] u=B1 (.agg (cD m.d)):=λ g=>by
  rw[rS (xb g) (by rw[zf];decide)];have⟨k,co,l,⟨d,hd⟩⟩:=m
  match d,hd with
  |[d0,d1,d2,d3,d4,d5,d6,d7],_=>rfl
 have D:∀{u:ar},u.get H.au=B1 (OR (ao m) xm)->Op.ae [.ptr H.au 2] u=B1 (.int .i64 m.line):=λ g=>x9 (xb g) 2
 -- what fN is told
 have fin:∀{n':No}{st:Int}{s:ar}{t:Nat},di H0 s r b sv bv {n' with c:=(n'.c.fill m.line st m.d).1} ks->CI n'.lines n'.c->n'.aS=n.aS->Fr (iK r b sv bv) H s->s.get t=B1 (OR (az (n'.c.fill m.line st m.d).2.1) xk)->n.fill m=n'.d8 m st ->
  ∀{E:Env},lk E 0=B1 (.ptr r 0)->lk E 6=B1 (.ptr t 0)->lk E 4=B1 .nils->lk E 7=B1 (.bool (decide ((n'.c.fill m.line st m.d).2.2=0/\(n'.c.fill m.line st m.d).2.1.st≠0))) ->
  W M ⟨B5,NR⟩ (i_ 20) B4 (eS M [.tmp 4] (tq (qN H0 H r b sv bv (n.fill m)))) E [] s:=by
  intro n' st s t hc z hb hf hg hn E o q6 q4 q7;rw[hn];unfold No.d8
  by_cases q:(n'.c.fill m.line st m.d).2.2=0/\(n'.c.fill m.line st m.d).2.1.st≠0
  .have Q:lk E 7=B1 (.bool B4):=by grind
   rw[xg q];have ld:=eJ (n:=21) hg (zw _);simp only[aa,bc,I,Q,w28,o,q6,ld];refine C3.q (z6 hc (by grind) _ (Ea z q.2)) λ v a U=>?_;simp only[aa,bc];exact U.from hf
  .have Q:lk E 7=B1 (.bool B2):=by grind
   rw[qy q];simp only[aa,bc,I,Q];exact⟨.inl ⟨rfl,rfl⟩,rZ.of hc hf⟩
 -- put in
 have main:∀{st:Int},st=1\/st=2->n.fill m=n.mP m st -> ∀{E:Env},lk E 0=B1 (.ptr r 0)->lk E 3=B1 (.ptr H.au 0)->lk E 4=B1 .nils->lk E 5=B1 (.int .i64 st)->W M ⟨B5,NR⟩ (i_ 10) B4 (eS M [.tmp 4] (tq (qN H0 H r b sv bv (n.fill m)))) E [] H1:=by
  intro st A hn E o q3 q4 q5;simp only[aa,bc,w10,o,q3,q5,qo,T.l2,D O,C O];refine C3.q (xb6 T.ca f hu hm A m.d) λ v a⟨Z,U,L⟩=>?_;rw[Z];unfold pC;have k2:a.get H.au=B1 (OR (ao m) xm):=by rw[L.ah _ (by omega) (λ q=>q.elim (by omega) λ q=>by omega)];exact O
  have n2:=L.au;have V:=T.iF U L (by rw[(Xn ..).1];exact h.len);obtain⟨p,K⟩:∃X,X=(a.alloc (OR (az .zero) xk)).set a.au (OR (az (n.c.fill m.line st m.d).2.1) xk):=⟨_,rfl⟩
  have R:Fr Em a p:=by grind [yU]
  have g3:p.get a.au=B1 (OR (az (n.c.fill m.line st m.d).2.1) xk):=by rw[K,xc]
  have n3:p.au=a.au+1:=by rw[K];rfl
  have k3:p.get H.au=B1 (OR (ao m) xm):=by rw[R.ah _ (by omega) id];exact k2
  have j:=V.em R;have w:Fr (iK r b sv bv) H p:=jR (jR (nD f1) (xL L)) (nD R)
  by_cases q:(n.c.fill m.line st m.d).2.2=22
  case neg =>
   have i:n.fill m=n.d8 m st:=by rw[hn];unfold No.mP;rw[qy q]
   simp only[aa,bc,xj,eZ,jZ,<-K,G,q];exact fin j f rfl w g3 i o rfl q4 rfl
  .have i:n.fill m=(n.iN 3).d8 m st:=by simp_all[No.mP]
   have ec:({n with c:=(n.c.fill m.line st m.d).1}:No)=n:=by rw[G8 q]
   rw[ec]at j;simp only[aa,bc,xj,eZ,jZ,<-K,G,qv q,o];refine C3.q (IW j 3) λ _ H4⟨P,N⟩=>?_;have k4:H4.get H.au=B1 (OR (ao m) xm):=by rw[N.ah _ (by omega) (by grind)];exact k3
   have g4:H4.get a.au=B1 (OR (az (n.c.fill m.line st m.d).2.1) xk):=by rw[N.ah _ (by omega) (by grind)];exact g3
   have n4:=N.au;simp only[aa,bc,q3,q5,qo,P.l2,D k4,C k4];have e:CI n.lines (n.iN 3).c:=f.discard;refine C3.q (xb6 P.ca e hu hm A m.d) λ v J⟨Z,h5,S⟩=>?_;rw[Z];unfold pC;have g5:J.get a.au=B1 (OR (az (n.c.fill m.line st m.d).2.1) xk):=by rw[S.ah _ (by omega) (λ q=>q.elim (by omega) λ q=>by omega)];exact g4
   have s6:=fK g5 (zw _) (zw ((n.iN 3).c.fill m.line st m.d).2.1) (ud _);have Y:=P.iF h5 S (by rw[(Xn ..).1];exact P.len);have f6:Fr (On a.au) J (J.set a.au (OR (az ((n.iN 3).c.fill m.line st m.d).2.1) xk)):=(Fr.refl J).set (W:=On a.au) (.inl rfl) _;simp only[aa,bc,xj,s6];refine fin (n':=n.iN 3) (t:=a.au) ?_ e rfl ?_ (xc ..) i o rfl q4 rfl
   .exact Y.off f6 (λ x(hx:x=a.au)=>by rw[hx];exact⟨by have:=h.bk.fr.au;omega,(by grind)⟩)
   .exact (jR (jR w N) (xL S)).set (.inr (by omega)) _
 by_cases B:m.k=15
 .simp only[aa,bc,w0,<-e1,w4,F,qv B];exact main (.inr rfl) (by unfold No.fill;grind) rfl rfl rfl rfl
 .simp only[aa,bc,w0,<-e1,w4,F,B];exact main (.inl rfl) (by unfold No.fill;grind) rfl rfl rfl rfl
end
end Go.Am
namespace Go.Am
open Go.Proofs Ca
open Lang (ints)
variable{M:ak}[MK M]
def xkj{H:ar}{e size bytes b n:Nat}{cells:List AV}(h:Sl H size (.slice b 0 n n) n cells)(hn:0<n){x:AV}{k:Nat}{new:List AV}(i:Sl H size x k new)(hk:0<k)(d:aL new=B4)(hs:0<size)
 (s:(n+k)*bytes<=140737488355328) (f:n+k<=140737488355328) {K:Bool->AV->ar->Prop} {m:Bool}
 (p:∀j H',Own H' e size j (n+k) (cells++new)->Fr Em H H'->(∀c,aM j c->H.au<=c)->K m j H'):jF m (Op.append e size bytes [.slice b 0 n n,x] H) K:=by
 have a:=SD s f;have hlen:new.length=k*size:=i.1;have g:=AK hs;have o:Nu (n+k) n=false:=by cases t:Nu (n+k) n with|false=>rfl|true=>rw[ub]at t;omega
 have l:Op.append e size bytes [.slice b 0 n n,x] H=B1 (dE H e size (n+k) (cells++new) (0,0)):=by
  simp only[Op.append,i.eN,i.first,qr,d,xt,cS,o,zn,a,kr (show n<=n+k by omega),g,zx,h.first,pq]
 rw[l];refine jF.intro rfl (p _ _ ⟨by rw[xe,h.1,hlen,vz],.inr ⟨H.au,rfl,by rw[xy];omega,?_⟩⟩ ((Fr.refl H).alloc _) λ c q=>by rw[q.2];exact qm _);rw[ar.bO,xg rfl]
def Av.em{H H1 H':ar}{v:AV}{ms:List Mg}(h:Av H H1 v ms)(f:Fr Em H1 H'):Av H H' v ms:=by
 rcases h with q|⟨m,a,d,e,g,c,i⟩
 .exact .inl q
 .exact .inr ⟨m,a,d,e,g,qn c f.au,by rw[f.ah _ c id];exact i⟩
def LQ{H H':ar}{v a:AV}{ms:List Mg}{m:Mg}(h:Av H H' v ms)(x:gW ao xm 11 H' a [m])(hl:H.au<=H'.au){K:Bool->AV->ar->Prop}
 (g:∀v2 c,mU H c v2 (ms ++ [m])->Fr Em H' c->K B4 v2 c):jF B4 (Op.append xm 11 88 [v,a] H') K:=by
 have xs:=x.sl zf;have i:aL ([m].flatMap ao)=true:=by rw[j6,List.flatMap_nil,zp];exact rh m
 rcases h with⟨rfl,rfl⟩|⟨l,b,rfl,rfl,s,j,k⟩
 .refine K3 (Own.nil H' xm 11) xs i (by decide) (by simp) (by simp) λ v2 c o f w=>g v2 c ⟨?_,λ _=>?_⟩ (f.mono λ y _ q=>(q.1 rfl).elim)
  .have:=Own.sl o;exact this
  .have d:v2≠ .nils:=λ q=>by
    subst q;have:=Own.sl o;exact absurd this.2 (by intro z;cases z)
   exact(w _ ⟨d,rfl⟩).elim (λ q=>(q.1 rfl).elim) λ q=>by omega
 .have p:bI ao 11 H' (Op.sliceTo 1 1 b) [l]:=gW.sl (e:=xm) zf ⟨b,rfl,j,by rw[k];simp⟩;refine xkj (b:=b) (n:=1) (e:=xm) p (by decide) xs (by simp) i (by decide) (by simp) (by simp) λ v2 c o f w=>g v2 c ⟨?_,λ _=>?_⟩ f
  .have:=Own.sl o;unfold bI;rw[ki];exact this
  .have d:v2≠ .nils:=λ q=>by
    subst q;have:=Own.sl o;exact absurd this.2 (by intro z;cases z)
   have:=w _ ⟨d,rfl⟩;omega
section
variable{H0 H:ar}{r b:Nat}{sv bv:AV}{n:No}{ks:List Nat}
def EU(ks:List Nat)(line:Int):ints (Aw ks line)=(ints ks).filter (· ≠line):=by
 unfold ints Aw;rw[List.filter_map];congr 1;refine List.filter_congr λ k _=>?_;show((k:Int) != line)=decide ((k:Int)≠line)
 by_cases q:(k:Int)=line<;>simp[q]
def μ(c:Ca)(line:Int):oe c line=.tuple [.agg (az ((c.find line).getD .zero)),.bool (c.find line).isSome]:=by
 unfold oe;cases c.find line<;>rfl
def Xy{x:En}{too:Bool}(h:CI n.lines n.c):CI n.lines (n.lost x too).c:=by
 unfold No.lost;split
 .split
  .exact h.discard
  .exact h.discard
 .exact h
theorem G3(x:En)(too:Bool):(n.lost x too).aS=n.aS/\(n.lost x too).core=n.core/\(n.lost x too).lines=n.lines/\(n.lost x too).c.us=n.c.us:=by
 unfold No.lost;split
 .split<;>exact⟨rfl,rfl,rfl,rfl⟩
 .exact ⟨rfl,rfl,rfl,rfl⟩
theorem MT(c:Ca)(line:Int):(c.drop line).1.sl.length=c.sl.length/\(c.drop line).1.us=c.us:=by
 unfold Ca.drop;cases c.mg line 0 with
 |none=>exact⟨rfl,rfl⟩
 |some i=>exact⟨ze,rfl⟩
def _T(c:Ca)(line:Int):(c.df line).1.sl.length=c.sl.length/\(c.df line).1.us=c.us:=by
 unfold Ca.df;cases c.mg line 2 with
 |none=>exact⟨rfl,rfl⟩
 |some i=>exact⟨ze,rfl⟩
def q8p(c:Ca)(line:Int)(d:L8):(c.cZ line d).sl.length=c.sl.length/\(c.cZ line d).us=c.us:=by
 unfold Ca.cZ;cases c.mg line 1 with
 |none=>exact⟨rfl,rfl⟩
 |some i=>exact⟨ze,rfl⟩
def xlt(n:No)(x:En):(n.gone x).1.core=n.core:=by unfold No.gone;split<;>rfl
def xlo(n:No)(m:Mg):(n.fill m).1.core=n.core:=by
 have e:∀(n:No)(st:Int),(n.d8 m st).1.core=n.core:=λ n st=>by
  unfold No.d8;split
  .exact xlt ..
  .rfl
 unfold No.fill;generalize(if m.k=15 then(2:Int)else 1)=st;unfold No.mP;split
 .exact e (n.iN 3) st
 .exact e n st
def uP(H0 H:ar)(r b:Nat)(sv bv:AV)(a:No×List Mg)(v:AV)(H':ar):Prop:=(∃ov e,v=.tuple [ov,e]/\mU H H' ov a.2)/\rZ H0 H r b sv bv a.1 H'
def xj5(h:di H0 H r b sv bv n ks)(U:CI n.lines n.c)(hk:n.aS.length<=900000)(hu:n.c.us+1<=1000000)(m:Mg):zb M yz [.ptr r 0,.agg (ao m)] H (uP H0 H r b sv bv (n.bT m)):=by
 refine q0r ?_;obtain⟨w0,w2,w10,w12,Z,w73,w34,w75,w40,w85,w41,w49,w53,w61⟩:=q0s M ⟨B5,yz⟩;have⟨H1,e1,f1,n1,g1⟩:=bZ H (OR (ao m) xm);have hlr:=h.lt;have hlb:=h.ca.lt;have hls:aE sv<H.au:=h.ca.sl.lt;have hbf:=h.bk.fresh;have off:∀y,H.au<=y -> ¬iK r b sv bv y:=λ y hy q=>by
  rcases q with q|q|q
  .omega
  .exact q.elim (λ q=>by omega) λ q=>by omega
  .have:=hbf _ q;omega
 have P:∀y,H.au<=y -> ¬nE b sv y:=λ y hy q=>off y hy (.inr (.inl q));have G:∀{D:ar},D.get H.au=B1 (OR (ao m) xm)->Op.ae [.ptr H.au 0] D=B1 (.int .i64 m.k):=λ g=>x9 (xb g) 0;have ldc:∀{D:ar},D.get H.au=B1 (OR (ao m) xm)->Op.ae [.ptr H.au 1] D=B1 (.int .i64 m.core):=λ g=>x9 (xb g) 1;have p:∀{D:ar},D.get H.au=B1 (OR (ao m) xm)->Op.ae [.ptr H.au 2] D=B1 (.int .i64 m.line):=λ g=>x9 (xb g) 2;have ldm:∀{D:ar},D.get H.au=B1 (OR (ao m) xm)->Op.aq 11 [.ptr H.au 0] D=B1 (.agg (ao m)):=λ g=>eJ g (zf m);have ldd:∀{D:ar},D.get H.au=B1 (OR (ao m) xm)->Op.aq 8 [.ptr H.au 3] D=B1 (.agg (cD m.d)):=λ g=>by
  rw[rS (xb g) (by rw[zf];decide)];have⟨k,co,l,⟨d,hd⟩⟩:=m
  match d,hd with
  |[d0,d1,d2,d3,d4,d5,d6,d7],_=>rfl
 have h1:=h.em f1;simp only[aa,bc,w0,<-e1,w2,yp,w10,qo,h1.l2,p g1];refine C3.q (P2 h1.ca U m.line) λ v I⟨J,f2⟩=>?_;rw[J,μ];obtain⟨x,hx⟩:∃x,x=(n.c.find m.line).getD .zero:=⟨_,rfl⟩
 rw[<-hx];obtain⟨H3,e3⟩:∃X,X=(I.alloc (OR (az .zero) xk)).set I.au (OR (az x) xk):=⟨_,rfl⟩
 have f3:Fr Em I H3:=by rw[e3];exact yU _ _
 have f03:Fr Em H H3:=(f1.trans f2 λ _ q=>q.elim).trans f3 λ _ q=>q.elim;have n2:=f2.au;have n3:H3.au=I.au+1:=by rw[e3];rfl
 have x3:H3.get I.au=B1 (OR (az x) xk):=by rw[e3,xc]
 have g3:H3.get H.au=B1 (OR (ao m) xm):=by rw[f3.ah _ (by omega) id,f2.ah _ (by omega) id];exact g1
 have h3:=h.em f03;have ldx:∀{D:ar},D.get I.au=B1 (OR (az x) xk)->Op.aq 21 [.ptr I.au 0] D=B1 (.agg (az x)):=λ g=>eJ g (zw x);simp only[aa,bc,xj,eZ,jZ,<-e3]
 -- what is not heard
 have no:∀{e:Int},(m.core≠n.core\/m.line<0\/n.lines<=m.line \/ ¬n.jU m ((n.c.find m.line).getD .zero)) -> ∀{H':ar},Fr Em H H'->uP H0 H r b sv bv (n.bT m) (.tuple [.nils,.int .i64 e]) H':=by
  intro e q H' f;have O:n.bT m=(n,[]):=by unfold No.bT;rw[xg q]
  rw[O];exact⟨⟨.nils,_,rfl,mU.nil ..⟩,h.same f⟩
 by_cases q1:m.core=n.core
 case neg =>
  simp only[aa,bc,w12,ldc g3,qo,h3.l0,q1];exact no (.inl q1) f03
 by_cases q2:m.line<0
 .simp only[aa,bc,w12,ldc g3,qo,h3.l0,qv q1,p g3,q2];exact no (.inr (.inl q2)) f03
 by_cases Y:n.lines<=m.line
 .simp only[aa,bc,w12,ldc g3,qo,h3.l0,qv q1,p g3,q2,h3.l1,Y];exact no (.inr (.inr (.inl Y))) f03
 simp only[aa,bc,w12,ldc g3,qo,h3.l0,qv q1,p g3,q2,h3.l1,Y,ldm g3,ldx x3];refine C3.q (xcu h3 hk m x) λ v H4⟨J,f4⟩=>?_;rw[J];have Q:Fr Em H H4:=f03.trans f4 λ _ q=>q.elim;have n4:=f4.au;have h4:=h.em Q;have R:H4.get H.au=B1 (OR (ao m) xm):=by rw[f4.ah _ (by omega) id];exact g3
 have x4:H4.get I.au=B1 (OR (az x) xk):=by rw[f4.ah _ (by omega) id];exact x3
 by_cases q4:n.jU m x
 case neg =>
  simp only[aa,bc,ju q4];exact no (.inr (.inr (.inr (by rw[<-hx];exact q4)))) Q
 have hn:¬(m.core≠n.core\/m.line<0\/n.lines<=m.line \/ ¬n.jU m ((n.c.find m.line).getD .zero)):=by
  rw[<-hx];rintro(w|w|w|w)
  .exact w q1
  .exact q2 w
  .exact Y w
  .exact w q4
 rw[ke q4]
 -- the words that a message has
 have S:∀{k line:Int}{d:L8}{D:ar}{a:Nat},D.get a=B1 (OR (ao ⟨k,n.core,line,.zero⟩) xm)->Op.store 8 [.ptr a 3,.agg (cD d)] D=B1 (.undef,D.set a (OR (ao ⟨k,n.core,line,d⟩) xm)):=λ{k line d D a}g=>by
  have s6:=xK g (o:=3) (n:=8) (v:=.agg (cD d)) (by rw[zo];exact ye _) (by rw[zf];decide) (by rw[zo];exact ug _);rw[W7]at s6;exact s6
 by_cases s:m.k=11
 .have O:n.bT m=({n.lost x B4 with c:=((n.lost x B4).c.drop m.line).1},[n.msg 4 m.line]):=by
   unfold No.bT;rw[qy hn,xg s,<-hx]
  rw[O];simp only[aa,bc,Z,G R,qv s,ldx x4];refine C3.q (UK h4 x B4) λ _ j⟨K,A⟩=>?_;have n5:=A.au;have T:j.get H.au=B1 (OR (ao m) xm):=by rw[A.ah _ (by omega) (off _ (by omega))];exact R
  simp only[aa,bc,qo,K.l2,p T];refine C3.q (X6 K.ca (Xy U) m.line) λ _ C⟨_,L,z⟩=>?_;have g6:C.get H.au=B1 (OR (ao m) xm):=by rw[z.ah _ (by omega) (P _ (by omega))];exact T
  have hn6:=K.iF L z (by rw[(MT ..).1];exact K.len);simp only[aa,bc,p g6];refine C3.q (Fm hn6 4 m.line) λ v H7⟨J,F⟩=>?_;rw[J];have n6:=z.au;have n7:=F.au;have em:No.msg {n.lost x B4 with c:=((n.lost x B4).c.drop m.line).1} 4 m.line=n.msg 4 m.line:=by unfold No.msg;rw[show(No.core {n.lost x B4 with c:=((n.lost x B4).c.drop m.line).1})=n.core from(G3 (n:=n) x B4).2.1]
  rw[em];simp only[aa,bc,mZ,AX];exact⟨⟨_,_,rfl,LB _ (by omega)⟩,rZ.of ((hn6.em F).em ((Fr.refl _).alloc _)) (jR (jR (nD Q) A) ((jR (xL z) (nD F)).alloc _))⟩
 by_cases i:m.k=12\/m.k=13
 .have t13:¬(13:Int)=11:=by decide
  -- a recall
  have rec41:∀{E:Env},lk E 0=B1 (.ptr r 0)->lk E 3=B1 (.ptr H.au 0)->lk E 6=B1 (.ptr I.au 0)->lk E 7=B1 (.bool (n.c.find m.line).isSome) ->
   W M ⟨B5,yz⟩ (Ny 41) B4 (fj 0 (fq (W M ⟨B5,yz⟩ (Ny 73)) (eS M [.tmp 4,.tmp 5] (tq (uP H0 H r b sv bv (n.bT m)))))) E [] H4:=by
   intro E q0 Y q6 q7;cases hf:n.c.find m.line with
   |none =>
    have O:n.bT m=(n,[n.msg 6 m.line]):=by
     unfold No.bT;rw[qy hn,qy s,xg i,hf]
    rw[O];rw[hf]at q7;have q7:lk E 7=B1 (.bool B2):=q7;simp only[aa,bc,w41,q7,q0,Y,p R];refine C3.q (Fm h4 6 m.line) λ v j⟨J,A⟩=>?_;rw[J];have n5:=A.au;simp only[aa,bc,mZ,AX];exact⟨⟨_,_,rfl,LB _ (by omega)⟩,h.same ((Q.trans A λ _ q=>q.elim).alloc _)⟩
   |some x' =>
    have exx:x=x':=by rw[hx,hf];rfl
    subst exx;rw[hf]at q7;have q7:lk E 7=B1 (.bool B4):=q7
    -- behind the loss
    have go:∀{too:Bool}{j:ar},(too=B4↔m.k=13)->di H0 j r b sv bv (n.lost x too) ks->Fr (iK r b sv bv) H4 j -> ∀{E:Env},lk E 0=B1 (.ptr r 0)->lk E 3=B1 (.ptr H.au 0)->lk E 6=B1 (.ptr I.au 0)->lk E 8=B1 (.ptr j.au 0) ->
     ∀{C:ar},C=(j.alloc (OR (ao ⟨0,0,0,.zero⟩) xm)).set j.au (OR (ao (n.msg 5 m.line)) xm) ->
     W M ⟨B5,yz⟩ (Ny 53) B4 (fj 0 (fq (W M ⟨B5,yz⟩ (Ny 73)) (eS M [.tmp 4,.tmp 5] (tq (uP H0 H r b sv bv (n.bT m)))))) E [] C:=by
     intro too j ht K A E q0 Y q6 q8 C e6;have n5:=A.au;have z:Fr Em j C:=by rw[e6];exact yU _ _
     have n6:C.au=j.au+1:=by rw[e6];rfl
     have L:=K.em z;have T:j.get H.au=B1 (OR (ao m) xm):=by rw[A.ah _ (by omega) (off _ (by omega))];exact R
     have g6:C.get H.au=B1 (OR (ao m) xm):=by rw[z.ah _ (by omega) id];exact T
     have x5:j.get I.au=B1 (OR (az x) xk):=by rw[A.ah _ (by omega) (off _ (by omega))];exact x4
     have x6:C.get I.au=B1 (OR (az x) xk):=by rw[z.ah _ (by omega) id];exact x5
     have b6:C.get j.au=B1 (OR (ao (n.msg 5 m.line)) xm):=by rw[e6,xc]
     have f06:Fr (iK r b sv bv) H C:=jR (jR (nD Q) A) (nD z)
     -- the answer
     have out:∀{d:L8}{n':No}{N:ar},n.bT m=(n',[⟨5,n.core,m.line,d⟩])->di H0 N r b sv bv n' ks->Fr (iK r b sv bv) H N->C.au<=N.au -> ∀{E:Env},lk E 8=B1 (.ptr j.au 0) ->
      W M ⟨B5,yz⟩ (Ny 61) B4 (fj 0 (fq (W M ⟨B5,yz⟩ (Ny 73)) (eS M [.tmp 4,.tmp 5] (tq (uP H0 H r b sv bv (n.bT m)))))) E [] (N.set j.au (OR (ao ⟨5,n.core,m.line,d⟩) xm)):=by
      intro d n' N O h8 f8 n8 E q8;rw[O];have ld:=eJ (xc N j.au (OR (ao ⟨5,n.core,m.line,d⟩) xm)) (zf _);simp only[aa,bc,w61,q8,ld,mZ,AX];have f9:Fr (On j.au) N (N.set j.au (OR (ao ⟨5,n.core,m.line,d⟩) xm)):=(Fr.refl N).set (W:=On j.au) (.inl rfl) _;have h9:=h8.off f9 (λ x(hx:x=j.au)=>by rw[hx];exact⟨by have:=h.bk.fr.au;omega,off _ (by omega)⟩);exact⟨⟨_,_,rfl,LB _ (by rw[t9];omega)⟩,rZ.of (h9.em ((Fr.refl _).alloc _)) ((f8.set (.inr (by omega)) _).alloc _)⟩
     by_cases B:m.k=12
     .have et:too=false:=by cases too with|false=>rfl|true=>have:=ht.1 rfl;omega
      subst et;have O:n.bT m=({n.lost x B2 with c:=((n.lost x B2).c.df m.line).1},[⟨5,n.core,m.line,((n.lost x B2).c.df m.line).2⟩]):=by
       unfold No.bT;rw[qy hn,qy s,xg i,hf];show(if m.k=12 then _ else _)=_;rw[xg B]
      simp only[aa,bc,w53,q0,Y,G g6,qv B,qo,L.l2,p g6];refine C3.q (xes L.ca (Xy U) m.line) λ v H7⟨J,h7,F⟩=>?_;rw[J];unfold tT;have n7:=F.au;have b7:H7.get j.au=B1 (OR (ao (n.msg 5 m.line)) xm):=by rw[F.ah _ (by omega) (P _ (by omega))];exact b6
      have hn7:=L.iF h7 F (by rw[(_T ..).1];exact L.len);simp only[aa,bc,xj,q8,S b7];exact out O hn7 (jR f06 (xL F)) (by omega) q8
     .have u:m.k=13:=by omega
      have et:too=true:=ht.2 u;subst et;have O:n.bT m=({n.lost x B4 with c:=((n.lost x B4).c.drop m.line).1},[⟨5,n.core,m.line,((n.lost x B4).c.drop m.line).2.d⟩]):=by
       unfold No.bT;rw[qy hn,qy s,xg i,hf];show(if m.k=12 then _ else _)=_;rw[qy B]
      simp only[aa,bc,w53,q0,Y,G g6,B,qo,L.l2,p g6];refine C3.q (X6 L.ca (Xy U) m.line) λ v H7⟨J,h7,F⟩=>?_;rw[J];unfold zF;have n7:=F.au;have b7:H7.get j.au=B1 (OR (ao (n.msg 5 m.line)) xm):=by rw[F.ah _ (by omega) (P _ (by omega))];exact b6
      have x7:H7.get I.au=B1 (OR (az x) xk):=by rw[F.ah _ (by omega) (P _ (by omega))];exact x6
      have hn7:=L.iF h7 F (by rw[(MT ..).1];exact L.len);have s8:=fK x7 (zw _) (zw ((n.lost x B4).c.drop m.line).2) (ud _);obtain⟨N,e8⟩:∃X,X=H7.set I.au (OR (az ((n.lost x B4).c.drop m.line).2) xk):=⟨_,rfl⟩
      rw[<-e8]at s8;have f8:Fr (On I.au) H7 N:=by rw[e8];exact(Fr.refl H7).set (W:=On I.au) (.inl rfl) _
      have x8:N.get I.au=B1 (OR (az ((n.lost x B4).c.drop m.line).2) xk):=by rw[e8,xc]
      have b8:N.get j.au=B1 (OR (ao (n.msg 5 m.line)) xm):=by rw[f8.ah _ (by omega) (λ(q:j.au=I.au)=>by omega)];exact b7
      have ld8:Op.aq 8 [.ptr I.au 4] N=B1 (.agg (cD ((n.lost x B4).c.drop m.line).2.d)):=by rw[rS (xb x8) (by rw[zw];decide),BH]
      have hn8:=hn7.off f8 (λ x(hx:x=I.au)=>by rw[hx];exact⟨by have:=h.bk.fr.au;omega,off _ (by omega)⟩);have f78:Fr (iK r b sv bv) H N:=by rw[e8];exact(jR f06 (xL F)).set (.inr (by omega)) _
      simp only[aa,bc,xj,q6,q8,s8,ld8,S b8];exact out O hn8 f78 (by have:=f8.au;omega) q8
    by_cases B:m.k=12
    .have u:¬m.k=13:=by omega
     simp only[aa,bc,w41,q7,w49,q0,Y,q6,ldx x4,G R,u];refine C3.q (UK h4 x B2) λ _ j⟨K,A⟩=>?_;have n5:=A.au;have T:j.get H.au=B1 (OR (ao m) xm):=by rw[A.ah _ (by omega) (off _ (by omega))];exact R
     simp only[aa,bc,p T];refine C3.q (Fm K 5 m.line) λ v C⟨J,z⟩=>?_;have em:(n.lost x B2).msg 5 m.line=n.msg 5 m.line:=by unfold No.msg;rw[(G3 (n:=n) x B2).2.1]
     rw[J,em];have s6:=fK (xp C (OR (ao ⟨0,0,0,.zero⟩) xm)) (zf _) (zf (n.msg 5 m.line)) (rh _);simp only[aa,bc,mZ,s6];refine go (too:=B2) ⟨λ q=>(by cases q),λ q=>absurd q u⟩ (K.em z) (jR A (nD z)) ?_ ?_ ?_ ?_ ?_
     .exact q0
     .exact Y
     .exact q6
     .rfl
     .rfl
    .have u:m.k=13:=by omega
     simp only[aa,bc,w41,q7,w49,q0,Y,q6,ldx x4,G R,qv u];refine C3.q (UK h4 x B4) λ _ j⟨K,A⟩=>?_;have n5:=A.au;have T:j.get H.au=B1 (OR (ao m) xm):=by rw[A.ah _ (by omega) (off _ (by omega))];exact R
     simp only[aa,bc,p T];refine C3.q (Fm K 5 m.line) λ v C⟨J,z⟩=>?_;have em:(n.lost x B4).msg 5 m.line=n.msg 5 m.line:=by unfold No.msg;rw[(G3 (n:=n) x B4).2.1]
     rw[J,em];have s6:=fK (xp C (OR (ao ⟨0,0,0,.zero⟩) xm)) (zf _) (zf (n.msg 5 m.line)) (rh _);simp only[aa,bc,mZ,s6];refine go (too:=B4) ⟨λ _=>u,λ _=>rfl⟩ (K.em z) (jR A (nD z)) ?_ ?_ ?_ ?_ ?_
     .exact q0
     .exact Y
     .exact q6
     .rfl
     .rfl
  by_cases B:m.k=12
  .simp only[aa,bc,Z,G R,s,w34,qv B,w40];exact rec41 rfl rfl rfl rfl
  .have u:m.k=13:=by omega
   simp only[aa,bc,Z,G R,s,w34,B,qv u,w40];exact rec41 rfl rfl rfl rfl
 have B:¬m.k=12:=λ q=>i (.inl q);have u:¬m.k=13:=λ q=>i (.inr q)
 by_cases V:m.k=16
 .have O:n.bT m=({n with aS:=n.aS.filter (· ≠m.line)},[]):=by
   unfold No.bT;rw[qy hn,qy s,qy i,xg V]
  rw[O];have hkl:=h.kl;simp only[aa,bc,Z,G R,s,w34,B,u,w40,qv V,qo,h4.vN];refine C3.q (xer (t:=H.au) (line:=m.line) (λ f=>p (by rw[f.ah _ (by omega) λ q=>by have:=hbf _ q;omega];exact R)) h4.bk (by omega)) λ v j⟨hs,A,w5⟩=>?_;have⟨C,s6,L,z⟩:=h4.JZ hs A (λ x q=>.inl (w5 x q));simp only[aa,bc,s6];rw[EU,<-h.eq]at L;exact⟨⟨_,_,rfl,mU.nil ..⟩,v,_,L,jR (nD Q) z,λ x q=>.inl (w5 x q)⟩
 -- what was asked for
 have⟨j,s5,K,A⟩:=h4.EL ⟨0,0,0,.zero⟩;have n5:=A.au;have T:j.get H.au=B1 (OR (ao m) xm):=by rw[A.ah _ (by omega) (λ(q:H.au=r)=>by omega)];exact R
 have f05:Fr (iK r b sv bv) H j:=jR (nD Q) (Mc A);cases hf:n.c.find m.line with
 |some x' =>
  have O:n.bT m=({n with out:=⟨0,0,0,.zero⟩,c:=n.c.cZ m.line m.d},[n.msg 7 m.line]):=by
   unfold No.bT;rw[qy hn,qy s,qy i,qy V,hf]
  rw[O];simp only[aa,bc,Z,G R,s,w34,B,u,w40,V,w73,mZ,Eb,qo,s5,w75,vq,K.l2,p T,ldd T];refine C3.q (xda K.ca U m.line m.d) λ _ C⟨L,z⟩=>?_;have g6:C.get H.au=B1 (OR (ao m) xm):=by rw[z.ah _ (by omega) (P _ (by omega))];exact T
  have hn6:=K.iF L z (by rw[(q8p ..).1];exact K.len);simp only[aa,bc,p g6];refine C3.q (Fm hn6 7 m.line) λ v H7⟨J,F⟩=>?_;rw[J];have n6:=z.au;have n7:=F.au;simp only[aa,bc,AX];exact⟨⟨_,_,rfl,LB _ (by omega)⟩,rZ.of ((hn6.em F).em ((Fr.refl _).alloc _)) (jR f05 ((jR (xL z) (nD F)).alloc _))⟩
 |none =>
  have O:n.bT m=((No.fill {n with out:=⟨0,0,0,.zero⟩} m).1,(No.fill {n with out:=⟨0,0,0,.zero⟩} m).2 ++ [n.msg 7 m.line]):=by
   unfold No.bT;rw[qy hn,qy s,qy i,qy V,hf]
  rw[O];simp only[aa,bc,Z,G R,s,w34,B,u,w40,V,w73,mZ,Eb,qo,s5,w75,Nn,w85,ldm T];refine C3.q (xi5 K U hk hu m (by omega)) λ v C⟨hm6,bv',ks',L,z,w6⟩=>?_;have n6:=z.au;have g6:C.get H.au=B1 (OR (ao m) xm):=by rw[z.ah _ (by omega) (off _ (by omega))];exact T
  simp only[aa,bc,p g6];refine C3.q (Fm L 7 m.line) λ v H7⟨J,F⟩=>?_;have ec:(No.fill {n with out:=⟨0,0,0,.zero⟩} m).1.core=n.core:=xlo _ m;have em:(No.fill {n with out:=⟨0,0,0,.zero⟩} m).1.msg 7 m.line=n.msg 7 m.line:=by unfold No.msg;rw[ec]
  rw[J,em];simp only[aa,bc,AX];have n7:=F.au;refine LQ (H:=j) (m:=n.msg 7 m.line) (hm6.em (F.alloc _)) (Mj _) (by rw[xy];omega) λ v2 N hms f8=>?_;simp only[aa,bc];have f68:Fr Em C N:=(F.alloc _).trans f8 λ _ q=>q.elim;exact⟨⟨_,_,rfl,hms.1,λ q=>by have:=hms.2 q;omega⟩,bv',ks',L.em f68,jR f05 (jR z (nD f68)),λ x q=>(w6 x q).imp id λ w=>by omega⟩
end
end Go.Am
namespace Go.Am
open Go.Proofs Ca
open Lang (ints)
variable{M:ak}[MK M]
section
variable{H0 H:ar}{r b:Nat}{sv bv:AV}{n:No}{ks:List Nat}
def ad1{lines line:Int}{c:Ca}(h:CI lines c):0<=(c.drop line).2.line:=by
 unfold Ca.drop;cases hp:c.mg line 0 with
 |none=>exact yP _
 |some i =>
  rw[sX]at hp;obtain⟨a,d,e,hl,-⟩:=h.bD hp
  grind
end
end Go.Am
namespace Go.Am
open Go.Proofs Ca
open Lang (ints)
variable{M:ak}[MK M]
structure Bd(n n':No):Prop where
 bk:n'.aS.length<=n.aS.length+1
 us:n'.c.us<=n.c.us+2
section
variable{n:No}
def xls(n:No)(x:En):(n.gone x).1.aS.length<=n.aS.length+1/\(n.gone x).1.c=n.c:=by
 unfold No.gone
 grind
def xgo(n:No)(m:Mg)(st:Int):(n.d8 m st).1.aS.length<=n.aS.length+1/\(n.d8 m st).1.c.us<=n.c.us+1:=by
 have h:=(Xn n.c m.line st m.d).2;unfold No.d8;split
 .obtain ⟨a,b⟩:=xls {n with c:=(n.c.fill m.line st m.d).1} (n.c.fill m.line st m.d).2.1
  grind
 .exact ⟨kc _,by show(n.c.fill m.line st m.d).1.us<=_;omega⟩
def ID(n:No)(m:Mg):Bd n (n.fill m).1:=by
 unfold No.fill;generalize(if m.k=15 then(2:Int)else 1)=st;unfold No.mP;split
 .obtain ⟨a,b⟩:=xgo (n.iN 3) m st;have e:(n.iN 3).c.us=n.c.us:=rfl;exact⟨a,by omega⟩
 .obtain ⟨a,b⟩:=xgo n m st;exact⟨a,by omega⟩
theorem Bd.refl(n:No):Bd n n:=⟨by omega,by omega⟩
theorem X4(n:No)(k line:Int):Bd n (n.ask k line).1:=by
 unfold No.ask;split
 .exact Bd.refl n
 .exact ⟨kc _,by show n.c.us<=_;omega⟩
def IH(n:No)(m:Mg):Bd n (n.bT m).1:=by
 unfold No.bT;split
 .exact Bd.refl n
 split
 .exact ⟨by grind [G3],by show(Ca.drop _ _).1.us<=_;rw[(MT ..).2,(G3 _ B4).2.2.2];omega⟩
 split
 .cases n.c.find m.line with
  |none=>exact Bd.refl n
  |some x =>
   show Bd n (Prod.fst (if m.k=12 then _ else _));split
   .exact ⟨by grind [G3],by show(Ca.df _ _).1.us<=_;rw[(_T ..).2,(G3 _ B2).2.2.2];omega⟩
   .exact ⟨by grind [G3],by show(Ca.drop _ _).1.us<=_;rw[(MT ..).2,(G3 _ B4).2.2.2];omega⟩
 split
 .exact ⟨by grind,by show n.c.us<=_;omega⟩
 .cases n.c.find m.line with
  |some x=>exact⟨kc _,by show(n.c.cZ m.line m.d).us<=_;rw[(q8p ..).2];omega⟩
  |none =>
   obtain⟨a,b⟩:=ID {n with out:=⟨0,0,0,.zero⟩} m;exact⟨a,b⟩
def HI(n:No)(line:Int):Bd n (n.db line).1:=by
 unfold No.db;split
 .exact Bd.refl n
 .cases n.c.find line with
  |none=>exact Bd.refl n
  |some x =>
   have e:∀n':No,n'.aS=n.aS->n'.c.us=n.c.us->Bd n (No.gone {n' with c:=(n'.c.drop line).1} (n'.c.drop line).2).1:=λ n' e1 e2=>by
    obtain⟨a,b⟩:=xls {n' with c:=(n'.c.drop line).1} (n'.c.drop line).2;refine⟨by grind,?_⟩;rw[b];show(n'.c.drop line).1.us<=_
    grind [MT]
   show Bd n (No.gone _ _).1
   by_cases q:(x.r ||x.w)=B4
   .simp only[xg q];exact e (n.iN 4) rfl rfl
   grind
def Gk(n:No)(a:Int):Bd n (n.load a).1:=by
 unfold No.load;split
 .cases n.c.find (No.ln a)with
  |none=>exact X4 ..
  |some x =>
   refine⟨kc _,?_⟩;show((if n.live=B4 then n.c.mark (No.ln a) B2 else n.c).word a.toNat).1.us<=_;have d:=(Ro (if n.live=B4 then n.c.mark (No.ln a) B2 else n.c) a.toNat).2;have e:(if n.live=B4 then n.c.mark (No.ln a) B2 else n.c).us=n.c.us:=by split;exact(Uj ..).1;rfl
   omega
 .exact Bd.refl n
def EM(n:No)(a y:Int):Bd n (n.store a y).1:=by
 unfold No.store;split
 .split
  .refine ⟨kc _,?_⟩;show((if n.live=B4 then n.c.mark (No.ln a) B4 else n.c).put a.toNat y).us<=_;have d:=(SC (if n.live=B4 then n.c.mark (No.ln a) B4 else n.c) a.toNat y).2;have e:(if n.live=B4 then n.c.mark (No.ln a) B4 else n.c).us=n.c.us:=by split;exact(Uj ..).1;rfl
   omega
  grind [X4]
 .exact Bd.refl n
def Kb(n:No)(a o y:Int):Bd n (n.mV a o y).1:=by
 unfold No.mV;split
 .split
  .exact Bd.refl n
  .split
   .refine ⟨kc _,?_⟩;have d:=(Ro n.c a.toNat).2;show(if(n.c.word a.toNat).2.getD 0=o then(n.c.word a.toNat).1.put a.toNat y else(n.c.word a.toNat).1).us<=_
    grind [SC]
   grind [X4]
 .exact Bd.refl n
end
def pD(core lines s w:Int):No:=⟨core,lines,pJ s.toNat w.toNat,⟨0,0,0,.zero⟩,[],B2,0⟩
def xG(core lines cores s w:Int):Prop:=ta s w/\0<=core/\core<cores/\cores<=4/\2<=lines/\lines<=64
def ac5{core lines cores s w:Int}(h:xG core lines cores s w):(pD core lines s w).NI:=by
 obtain⟨⟨a,b,c,d⟩,-⟩:=h;exact⟨ag5 lines (by omega) (by omega),λ _=>xfm s.toNat w.toNat⟩
def eH(lines cores s w:Int):List AV:=[.int .i64 lines,.int .i64 cores,.int .i64 s,.int .i64 w]
def UO(core lines:Int)(b:Nat)(s w:Int):Op.build [.int .i64 0,.int .i64 0,.nilp,.int .i64 0,.int .i64 0,.int .i64 0,.int .u64 0,.int .u64 0,.int .u64 0,.int .u64 0,.int .u64 0,.int .u64 0,.int .u64 0,.int .u64 0,.nils,.bool B2,.int .i64 0] [(0,1),(1,1),(2,1)] [.int .i64 core,.int .i64 lines,.ptr b 0]=B1 (.agg (rQ (pD core lines s w) b .nils)):=rfl
def ae8(H:ar)(core lines cores s w:Int)(v:AV)(H':ar):Prop:=(¬xG core lines cores s w/\v=.tuple [.nilp,.int .i64 2]/\Fr Em H H')\/xG core lines cores s w /\ ∃r b sv,v=.tuple [.ptr r 0,.int .i64 0]/\di H H' r b sv .nils (pD core lines s w) []
def xc4{H:ar}(core lines cores s w:Int):zb M VL [.int .i64 core,.agg (eH lines cores s w)] H (ae8 H core lines cores s w):=by
 refine xi8 ?_;obtain⟨w0,w4,p⟩:=xi9 M ⟨B5,VL⟩;obtain⟨H1,e1,z,n1,l⟩:=bZ H (OR (eH lines cores s w) AL);have l2:Op.ae [.ptr H.au 2] H1=B1 (.int .i64 s):=x9 (xb l) 2;have l3:Op.ae [.ptr H.au 3] H1=B1 (.int .i64 w):=x9 (xb l) 3;simp only[aa,bc,w0,<-e1,l2,l3];refine C3.q (xix (M:=M) s w) λ v f⟨t,h⟩=>?_;have x:f.get H.au=B1 (OR (eH lines cores s w) AL):=by rw[t.ah _ (by omega) id];exact l
 have l0:Op.ae [.ptr H.au 0] f=B1 (.int .i64 lines):=x9 (xb x) 0;have l1:Op.ae [.ptr H.au 1] f=B1 (.int .i64 cores):=x9 (xb x) 1;have e:Fr Em H f:=z.trans t λ _ q=>q.elim;have C:¬(2:Int)=0:=by decide
 have E:=qv (show(0:Int)=0 from rfl);rcases h with⟨hn,h⟩|⟨ho,b,sv,h,m,hb,hs⟩
 .rw [h];simp only[aa,bc,xj,w4,C];exact .inl ⟨λ q=>hn q.1,rfl,e⟩
 rw[h]
 by_cases g:core<0
 .simp only[aa,bc,xj,w4,g];exact .inl ⟨λ q=>by have:=q.2.1;omega,rfl,e⟩
 by_cases i:cores<=core
 .simp only[aa,bc,xj,w4,g,l1,i];exact .inl ⟨λ q=>by have:=q.2.2.1;omega,rfl,e⟩
 by_cases j:4<cores
 .simp only[aa,bc,xj,w4,g,l1,i,j];exact .inl ⟨λ q=>by have:=q.2.2.2.1;omega,rfl,e⟩
 by_cases o:lines<2
 .simp only[aa,bc,xj,w4,g,l1,i,j,l0,o];exact .inl ⟨λ q=>by have:=q.2.2.2.2.1;omega,rfl,e⟩
 by_cases y:64<lines
 .simp only[aa,bc,xj,w4,g,l1,i,j,l0,o,y];exact .inl ⟨λ q=>by have:=q.2.2.2.2.2;omega,rfl,e⟩
 obtain⟨D,k,u,-,-⟩:=bZ f (OR (rQ (pD core lines s w) b .nils) Qh);simp only[aa,bc,xj,w4,g,l1,i,j,l0,o,y,p,UO core lines b s w,<-k];have A:=m.lt;have B:aE sv<f.au:=m.sl.lt;refine .inr ⟨⟨ho,by omega,by omega,by omega,by omega,by omega⟩,f.au,b,sv,rfl,⟨by rw[k,xp],by rw[k,xy];omega,m.em u,⟨.inl ⟨rfl,rfl⟩,e.trans u λ _ q=>q.elim⟩,rfl,e.au,by omega,by omega,by omega,by omega,λ q=>q.1 rfl,λ q=>q.1 rfl,λ q=>q.1 rfl,⟨by show 2<=lines;omega,by show lines<=64;omega⟩,?_⟩⟩;show(Ji (s.toNat*w.toNat) En.zero).length<=40;rw[jg];obtain⟨a,b,c,d⟩:=ho;have:=Nat.mul_le_mul (show s.toNat<=8 by omega) (show w.toNat<=4 by omega);omega
end Go.Am
