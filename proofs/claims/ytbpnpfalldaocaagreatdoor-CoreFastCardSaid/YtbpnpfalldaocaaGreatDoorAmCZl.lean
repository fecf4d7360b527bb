import Derived.Test.YtbpnpfalldaocaaGreatDoorAmCZk
import Derived.Test.YtbpnpfalldaocaaGreatDoorAmCZf
import Derived.Test.YtbpnpfalldaocaaGreatDoorAmCZi
set_option linter.defProp false
set_option linter.unusedVariables false
set_option linter.unusedSimpArgs false
set_option linter.unusedSectionVars false
set_option maxRecDepth 100000
open Bool renaming false→B2,true→B4
open Go renaming IntKind→KB
open List renaming replicate→Fh
open Option renaming none→B5,some→B1
open Nat renaming reduceEqDiff→bc
namespace Go.Am
open Lang Go.Proofs
variable{M:ak}[MK M]
section
variable{X:SX}{n n':Nat}{s t:CS}{H H':ar}{o:Nat->Nat}{rv ov:AV}{bs:Bs}{own:Nat->Nat}{V:Int->L8}
def DV(h:dt X n s H o rv ov bs own V)(hk:X.k+n<=90000)(hl:s.o.length<=1000):xz M Yl [.ptr X.p 0] H λ _ H'=>jU X (n+1) s.aR H':=by
 refine qs5 ?_;have lr:=(bU.sl h.c.rd).len;have d0:=h.c.w.d0;have rl:=h.c.w.rl;unfold CS.aR;rw[qv d0]
 by_cases q:s.c.done<((s.c.aO.length:Nat):Int)
 .obtain ⟨x,e⟩:∃x,s.c.aO[s.c.done.toNat]? = B1 x:=⟨_,xj (by omega)⟩
  rw[e];have ix:=(bU.sl h.c.rd).idx e (z:=s.c.done) (KL d0).symm .i64;have ld:Op.av 2 [Jc rv s.c.done.toNat] H=B1 (.agg (cm x)):=(bU.sl h.c.rd).av yS (by decide) e;have bx:=Pv (H1:=H) x;obtain⟨H1,j⟩:∃Z,Z=(H.alloc (OR [.int .i64 0,.int .u64 0] yg)).set H.au (OR (cm x) yg):=⟨_,rfl⟩
  rw[<-j]at bx;have B:Fr Em H H1:=by rw[j];exact wN _ _
  have u:H1.get H.au=B1 (OR (cm x) yg):=by rw[j,xb]
  have l0:Op.ae [.ptr H.au 0] H1=B1 (.int .i64 x.a):=lX u 0;have l1:Op.ae [.ptr H.au 1] H1=B1 (.int .u64 x.v):=lX u 1;obtain⟨o1,C,-⟩:=h.loc B;simp only[aa,bc,Nq,aw,h.c.bq,lr,qr q,ix,show∀i,Op.av 2 [AV.ptr (aG rv) (cw 2 rv i)] H=Op.av 2 [Jc rv i] H from λ _=>rfl,ld,bx,l0,l1];refine C3.q (M6 C hk x.a (h.c.w.ru x (xl e))) λ w r⟨hw,o2,m,l,g,f,A,d⟩=>?_;subst hw;cases b:s.sy x.a x.v with
  |true =>
   rw[qv rfl];have wd:aj .i64 (s.c.done+1)=s.c.done+1:=jr (by omega) (by omega);have⟨y,E,D⟩:=d.put 14 (v:=.int .i64 (aj .i64 (s.c.done+1))) {s.c with done:=aj .i64 (s.c.done+1)} rfl (by decide) rfl ⟨rfl,rfl,rfl,rfl⟩ ⟨rfl,rfl⟩ {d.c.w with d0:=by show 0<=aj .i64 (s.c.done+1);rw[wd];omega};have sF:Op.ae [.ptr X.p 14] r=B1 (.int .i64 s.c.done):=d.c.row.ld 14;simp only[aa,bc,Nq,aw,sF,E];exact D.here
  |false =>
   rw[qn (by decide)];simp only[aa,bc,Nq];exact d.here
 .have e:s.c.aO[s.c.done.toNat]? = none:=jf (by omega);rw[e];unfold CS.kE;simp only;simp only[aa,bc,Nq,aw,h.c.bq,lr,q];refine C3.q (M6 h hk 0 (BL _)) λ w r⟨hw,o2,m,l,g,f,A,d⟩=>?_;subst hw;cases b:s.sy 0 (aj .u64 (s.c.seq+2))with
  |true =>
   rw[qv rfl];simp only[aa,bc];refine C3.q (M8 (s:=s.st 0 (aj .u64 (s.c.seq+2))) d.c hl) λ _ y hp=>?_;simp only[aa,bc];exact d.co (t:=(s.st 0 (aj .u64 (s.c.seq+2))).dk) (KH _) (KJ _) hp (qg _)
  |false =>
   rw[qn (by decide)];simp only[aa,bc];exact d.here
def CS.mC(s:CS)(v:Int)(taken:Bool):CS :=
 let t:CS:={s with c:={s.c with so:=s.c.so.gf v taken}}
 let u:=if s.c.so.aI=B4/\t.c.so.aI=B2 then t.az else t
 let w:=if s.c.so.points<u.c.so.points then u.tell 4 0 0 0 else u
 if w.c.so.busy=B4 then w else w.gB
def Y7(s:CS)(v:Int)(tk:Bool):s.given v tk=CS.mC {s with c:={s.c with held:=s.c.held ||tk && decide (s.c.so.want.a=0)}} v tk:=rfl
def Jg(h:dt X n s H o rv ov bs own V)(hl:s.o.length<=1000):xz M XD [.ptr X.p 0] H λ _ H'=>jU X n s.gB H':=by
 refine qrk ?_;unfold CS.gB;have⟨g,fv,hs⟩:=h.c.so
 by_cases a:s.c.so.ended=2
 .rw [qv a];simp only[aa,bc,Ln,aw,h.c.bq,pz hs,qr a];refine C3.q (UZ h.c hl 8) λ _ H1 hp=>?_;simp only[aa,bc];exact h.co (t:=s.abort 8) rfl rfl hp (qg _)
 rw[qn a]
 by_cases d:s.c.want.kind=5
 .rw [qv d];have⟨j,k,b⟩:=h.put 6 (v:=.int .i64 0) {s.c with ph:=0} rfl (by decide) rfl ⟨rfl,rfl,rfl,rfl⟩ ⟨rfl,rfl⟩ {h.c.w with};simp only[aa,bc,Ln,aw,h.c.bq,pz hs,a,qr d,k];exact b.here
 rw[qn d]
 by_cases f:s.c.want.kind=3
 .rw [qv f];have⟨j,k,b⟩:=h.put 6 (v:=.int .i64 0) {s.c with ph:=0} rfl (by decide) rfl ⟨rfl,rfl,rfl,rfl⟩ ⟨rfl,rfl⟩ {h.c.w with};have⟨r,l,e⟩:=b.c.so;simp only[aa,bc,Ln,aw,h.c.bq,pz hs,a,d,qr f,k,b.c.bq,xH e];refine C3.q (Nw (s:=s.ph 0) b.c hl s.c.want h.c.w.wu e.vu) λ _ m hp=>?_;simp only[aa,bc];exact b.co (t:=(s.ph 0).dE s.c.want s.c.so.value) rfl rfl hp (qg _)
 rw[qn f]
 by_cases i:s.c.want.kind=6
 .rw [qv i];simp only[aa,bc,Ln,aw,h.c.bq,pz hs,a,d,f,qr i];refine C3.q (M8 h.c hl) λ _ j hp=>?_;simp only[aa,bc];exact h.co (t:=s.dk) (KH _) (KJ _) hp (qg _)
 rw[qn i];simp only[aa,bc,Ln,aw,h.c.bq,pz hs,a,d,f,i];refine C3.q (SI h.c hl) λ _ j hp=>?_;simp only[aa,bc];exact h.co (t:=s.breaks) rfl rfl hp (qg _)
def Dz(h:dt X n s H o rv ov bs own V)(hk:X.k+n<=90000)(hl:s.o.length<=990):xz M Jh [.ptr X.p 0] H λ _ H'=>jU X (n+1) s.sm H':=by
 refine qs6 ?_;unfold CS.sm;simp only;have⟨g,fv,hs⟩:=h.c.so;simp only[aa,bc,xy,aw,h.c.bq];refine C3.q (Kf hs) λ w H1⟨⟨qb,hw⟩,f1⟩=>?_;subst hw;obtain⟨B,e2⟩:∃Z,Z=(H1.alloc (OR (ib ⟨0,0,0,0⟩) yM)).set H1.au (OR (ib s.c.so.want) yM):=⟨_,rfl⟩
 have s2:Op.store 4 [.ptr H1.au 0,.agg (ib s.c.so.want)] (H1.alloc (OR (ib ⟨0,0,0,0⟩) yM))=B1 (.undef,B):=by
  have:=(At.new H1 (ib ⟨0,0,0,0⟩) yM).ir (k:=0) (n:=4) (v:=.agg (ib s.c.so.want)) rfl (by simp[ib]) rfl;rw[e2];exact this
 have f2:Fr Em H1 B:=e2▸((Fr.refl H1).alloc _).set (.inr (qg _)) _;have n1:=f1.au;have n2:B.au=H1.au+1:=by rw[e2,si,xt]
 have g2:B.get H1.au=B1 (OR (ib s.c.so.want) yM):=by rw[e2,xb]
 have k0:Op.ae [.ptr H1.au 0] B=B1 (.int .i64 s.c.so.want.op):=lX g2 0;have k1:Op.ae [.ptr H1.au 1] B=B1 (.int .i64 s.c.so.want.a):=lX g2 1;have k2:Op.ae [.ptr H1.au 2] B=B1 (.int .u64 s.c.so.want.v):=lX g2 2;have k3:Op.ae [.ptr H1.au 3] B=B1 (.int .u64 s.c.so.want.o):=lX g2 3;have⟨o2,u,lo⟩:=h.loc (f1.em f2);have lo1:=(lo H1.au).1 ⟨n1,by omega⟩;have hr:=u.re;have rest2:∀{H4:ar}{o4:Nat->Nat}{rv4 ov4:AV}{bs4:Bs}{own4:Nat->Nat}{V4:Int->L8}{d:CS}{v:Int}{tk:Bool},fm v->dt (X.at B o2 bs) (n+1) d H4 o4 rv4 ov4 bs4 own4 V4->d.o.length<=990 -> ∀{E:Env}{Q:aE},lk E 0=B1 (.ptr X.p 0)->lk E 4=B1 (.int .u64 v)->lk E 5=B1 (.bool tk)->lk E 7=B1 (.int .i64 d.c.so.points)->lk E 8=B1 (.bool d.c.so.aI)->(∀ex E D H',(ex=.normal\/ex=.ret)->D=[]->jU X (n+1) (d.mC v tk) H'->Q ex E D H')->W M ⟨B5,Jh⟩ (EN Jh 36) B4 Q E [] H4:=λ{H4 o4 rv4 ov4 bs4 own4 V4 d v tk}hu h4 hl{E Q}j E4 Y E7 E8 x=>by
  have⟨g4,fv4,r⟩:=h4.c.so;have c4:dG H4 o4 X.p X.f X.l X.sp X.cv rv4 ov4 X.pv d.c d.o (X.k+(n+1)):=h4.c;simp only[aa,bc,xy,aw,j,E4,Y,c4.bq];refine C3.q (Kk r hu) λ _ H5 hp=>?_;have⟨o5,rv5,ov5,bs5,own5,V5,h5⟩:=h4.co (t:={d with c:={d.c with so:=d.c.so.gf v tk}}) rfl rfl (h4.c.JM hp) (qg _);obtain⟨e,F⟩:∃e:CS,e = {d with c:={d.c with so:=d.c.so.gf v tk}}:=⟨_,rfl⟩
  rw[<-F]at h5;have hl5:e.o.length<=990:=by rw[F];exact hl
  have c5:dG H5 o5 X.p X.f X.l X.sp X.cv rv5 ov5 X.pv e.c e.o (X.k+(n+1)):=h5.c;have⟨g5,fv5,i⟩:=c5.so;have ew:e.c.so.aI=(d.c.so.gf v tk).aI:=by rw[F]
  cases C:d.c.so.aI with
  |true =>
   cases K:e.c.so.aI with
   |true =>
    by_cases q:d.c.so.points<e.c.so.points
    .simp only[aa,bc,xy,aw,j,E7,E8,C,EV i,K,c5.bq,d8 i,qr q];refine C3.q (CR (s:=e) c5 (by omega) 4 0 0 0) λ _ H7 hp=>?_;have⟨o7,U,T,bs7,own7,V7,P⟩:=h5.co (t:=(e).tell 4 0 0 0) rfl rfl hp (qg _);have N:dG H7 o7 X.p X.f X.l X.sp X.cv U T X.pv ((e).tell 4 0 0 0).c ((e).tell 4 0 0 0).o (X.k+(n+1)):=P.c;have⟨g7,fv7,z⟩:=N.so;cases b:((e).tell 4 0 0 0).c.so.busy with
     |true =>
      have m:d.mC v tk=((e).tell 4 0 0 0):=by unfold CS.mC;simp only;rw[<-F,qn (show¬(d.c.so.aI=B4/\(d.c.so.gf v tk).aI=B2)from λ w=>by have:=ew.trans w.2;rw[K]at this;cases this),qv q,qv b]
      simp only[aa,bc,xy,aw,j,N.bq,gG z,b];exact x _ _ _ _ (.inl rfl) rfl (by rw[m];exact u.back P.here)
     |false =>
      have m:d.mC v tk=(((e).tell 4 0 0 0)).gB:=by unfold CS.mC;simp only;rw[<-F,qn (show¬(d.c.so.aI=B4/\(d.c.so.gf v tk).aI=B2)from λ w=>by have:=ew.trans w.2;rw[K]at this;cases this),qv q,qn (by rw[b];decide)]
      simp only[aa,bc,xy,aw,j,N.bq,gG z,b];refine C3.q (Jg (X:=X.at B o2 bs) P (by show(e.o ++ [_]).length<=1000;rw[xk];simp only[zy,j7];omega)) λ _ H9 hp=>?_;simp only[aa,bc];exact x _ _ _ _ (.inl rfl) rfl (by rw[m];exact u.back hp)
    .cases b:e.c.so.busy with
     |true =>
      have m:d.mC v tk=e:=by unfold CS.mC;simp only;rw[<-F,qn (show¬(d.c.so.aI=B4/\(d.c.so.gf v tk).aI=B2)from λ w=>by have:=ew.trans w.2;rw[K]at this;cases this),qn q,qv b]
      simp only[aa,bc,xy,aw,j,E7,E8,C,EV i,K,d8 i,q,c5.bq,gG i,b];exact x _ _ _ _ (.inl rfl) rfl (by rw[m];exact u.back h5.here)
     |false =>
      have m:d.mC v tk=(e).gB:=by unfold CS.mC;simp only;rw[<-F,qn (show¬(d.c.so.aI=B4/\(d.c.so.gf v tk).aI=B2)from λ w=>by have:=ew.trans w.2;rw[K]at this;cases this),qn q,qn (by rw[b];decide)]
      simp only[aa,bc,xy,aw,j,E7,E8,C,EV i,K,d8 i,q,c5.bq,gG i,b];refine C3.q (Jg (X:=X.at B o2 bs) h5 (by omega)) λ _ H9 hp=>?_;simp only[aa,bc];exact x _ _ _ _ (.inl rfl) rfl (by rw[m];exact u.back hp)
   |false =>
    simp only[aa,bc,xy,aw,j,E8,C,c5.bq,EV i,K];refine C3.q (sg (s:=e) c5 (by omega)) λ _ H6 hp=>?_;have⟨o6,rv6,ov6,bs6,own6,V6,h6⟩:=h5.co (t:=e.az) (um _) (Vw _) hp (qg _);have hl6:=q88 e;have c6:dG H6 o6 X.p X.f X.l X.sp X.cv rv6 ov6 X.pv e.az.c e.az.o (X.k+(n+1)):=h6.c;have⟨g6,fv6,S⟩:=c6.so
    by_cases q:d.c.so.points<e.az.c.so.points
    .simp only[aa,bc,xy,aw,j,E7,c6.bq,d8 S,qr q];refine C3.q (CR (s:=e.az) c6 (by omega) 4 0 0 0) λ _ H7 hp=>?_;have⟨o7,U,T,bs7,own7,V7,P⟩:=h6.co (t:=(e.az).tell 4 0 0 0) rfl rfl hp (qg _);have N:dG H7 o7 X.p X.f X.l X.sp X.cv U T X.pv ((e.az).tell 4 0 0 0).c ((e.az).tell 4 0 0 0).o (X.k+(n+1)):=P.c;have⟨g7,fv7,z⟩:=N.so;cases b:((e.az).tell 4 0 0 0).c.so.busy with
     |true =>
      have m:d.mC v tk=((e.az).tell 4 0 0 0):=by unfold CS.mC;simp only;rw[<-F,qv (show d.c.so.aI=B4/\(d.c.so.gf v tk).aI=B2 from⟨C,ew.symm.trans K⟩),qv q,qv b]
      simp only[aa,bc,xy,aw,j,N.bq,gG z,b];exact x _ _ _ _ (.inl rfl) rfl (by rw[m];exact u.back P.here)
     |false =>
      have m:d.mC v tk=(((e.az).tell 4 0 0 0)).gB:=by unfold CS.mC;simp only;rw[<-F,qv (show d.c.so.aI=B4/\(d.c.so.gf v tk).aI=B2 from⟨C,ew.symm.trans K⟩),qv q,qn (by rw[b];decide)]
      simp only[aa,bc,xy,aw,j,N.bq,gG z,b];refine C3.q (Jg (X:=X.at B o2 bs) P (by show(e.az.o ++ [_]).length<=1000;rw[xk];simp only[zy,j7];omega)) λ _ H9 hp=>?_;simp only[aa,bc];exact x _ _ _ _ (.inl rfl) rfl (by rw[m];exact u.back hp)
    .cases b:e.az.c.so.busy with
     |true =>
      have m:d.mC v tk=e.az:=by unfold CS.mC;simp only;rw[<-F,qv (show d.c.so.aI=B4/\(d.c.so.gf v tk).aI=B2 from⟨C,ew.symm.trans K⟩),qn q,qv b]
      simp only[aa,bc,xy,aw,j,E7,d8 S,q,c6.bq,gG S,b];exact x _ _ _ _ (.inl rfl) rfl (by rw[m];exact u.back h6.here)
     |false =>
      have m:d.mC v tk=(e.az).gB:=by unfold CS.mC;simp only;rw[<-F,qv (show d.c.so.aI=B4/\(d.c.so.gf v tk).aI=B2 from⟨C,ew.symm.trans K⟩),qn q,qn (by rw[b];decide)]
      simp only[aa,bc,xy,aw,j,E7,d8 S,q,c6.bq,gG S,b];refine C3.q (Jg (X:=X.at B o2 bs) h6 (by omega)) λ _ H9 hp=>?_;simp only[aa,bc];exact x _ _ _ _ (.inl rfl) rfl (by rw[m];exact u.back hp)
  |false =>
   by_cases q:d.c.so.points<e.c.so.points
   .simp only[aa,bc,xy,aw,j,E7,E8,C,c5.bq,d8 i,qr q];refine C3.q (CR (s:=e) c5 (by omega) 4 0 0 0) λ _ H7 hp=>?_;have⟨o7,U,T,bs7,own7,V7,P⟩:=h5.co (t:=(e).tell 4 0 0 0) rfl rfl hp (qg _);have N:dG H7 o7 X.p X.f X.l X.sp X.cv U T X.pv ((e).tell 4 0 0 0).c ((e).tell 4 0 0 0).o (X.k+(n+1)):=P.c;have⟨g7,fv7,z⟩:=N.so;cases b:((e).tell 4 0 0 0).c.so.busy with
    |true =>
     have m:d.mC v tk=((e).tell 4 0 0 0):=by unfold CS.mC;simp only;rw[<-F,qn (show¬(d.c.so.aI=B4/\(d.c.so.gf v tk).aI=B2)from λ w=>by rw[C]at w;cases w.1),qv q,qv b]
     simp only[aa,bc,xy,aw,j,N.bq,gG z,b];exact x _ _ _ _ (.inl rfl) rfl (by rw[m];exact u.back P.here)
    |false =>
     have m:d.mC v tk=(((e).tell 4 0 0 0)).gB:=by unfold CS.mC;simp only;rw[<-F,qn (show¬(d.c.so.aI=B4/\(d.c.so.gf v tk).aI=B2)from λ w=>by rw[C]at w;cases w.1),qv q,qn (by rw[b];decide)]
     simp only[aa,bc,xy,aw,j,N.bq,gG z,b];refine C3.q (Jg (X:=X.at B o2 bs) P (by show(e.o ++ [_]).length<=1000;rw[xk];simp only[zy,j7];omega)) λ _ H9 hp=>?_;simp only[aa,bc];exact x _ _ _ _ (.inl rfl) rfl (by rw[m];exact u.back hp)
   .cases b:e.c.so.busy with
    |true =>
     have m:d.mC v tk=e:=by unfold CS.mC;simp only;rw[<-F,qn (show¬(d.c.so.aI=B4/\(d.c.so.gf v tk).aI=B2)from λ w=>by rw[C]at w;cases w.1),qn q,qv b]
     simp only[aa,bc,xy,aw,j,E7,E8,C,d8 i,q,c5.bq,gG i,b];exact x _ _ _ _ (.inl rfl) rfl (by rw[m];exact u.back h5.here)
    |false =>
     have m:d.mC v tk=(e).gB:=by unfold CS.mC;simp only;rw[<-F,qn (show¬(d.c.so.aI=B4/\(d.c.so.gf v tk).aI=B2)from λ w=>by rw[C]at w;cases w.1),qn q,qn (by rw[b];decide)]
     simp only[aa,bc,xy,aw,j,E7,E8,C,d8 i,q,c5.bq,gG i,b];refine C3.q (Jg (X:=X.at B o2 bs) h5 (by omega)) λ _ H9 hp=>?_;simp only[aa,bc];exact x _ _ _ _ (.inl rfl) rfl (by rw[m];exact u.back hp)
 have rest:∀{H3:ar}{o3:Nat->Nat}{I G:AV}{L:Bs}{A:Nat->Nat}{V3:Int->L8}{y:CS}{v:Int}{tk:Bool},fm v->dt (X.at B o2 bs) (n+1) y H3 o3 I G L A V3->y.c=s.c->y.o=s.o -> ∀{E:Env}{Q:aE},lk E 0=B1 (.ptr X.p 0)->lk E 2=B1 (.ptr H1.au 0)->lk E 4=B1 (.int .u64 v)->lk E 5=B1 (.bool tk)->lk E 6=B1 (.bool B4)->(∀ex E D H',(ex=.normal\/ex=.ret)->D=[]->jU X (n+1) (y.given v tk) H'->Q ex E D H')->W M ⟨B5,Jh⟩ (EN Jh 26) B4 Q E [] H3:=λ{H3 o3 I G L A V3 y v tk}hu J hc ho{E Q}j E2 E4 Y E6 x=>by
  have c3:dG H3 o3 X.p X.f X.l X.sp X.cv I G X.pv y.c y.o (X.k+(n+1)):=J.c;have m1:Op.ae [.ptr H1.au 1] H3=B1 (.int .i64 s.c.so.want.a):=lX (oa (J.lo lo1).2 g2) 1;obtain⟨R,O⟩:∃R:Bool,R=(y.c.held ||tk && decide (y.c.so.want.a=0)):=⟨_,rfl⟩
  have⟨H4,s4,h4⟩:=J.put 16 (v:=.bool R) {y.c with held:=R} rfl (by decide) rfl ⟨rfl,rfl,rfl,rfl⟩ ⟨rfl,rfl⟩ {J.c.w with};have s4:Op.store 1 [.ptr X.p 16,.bool R] H3=B1 (.undef,H4):=s4;have r2:=λ{E:Env}{Q:aE}=>rest2 (v:=v) (tk:=tk) (E:=E) (Q:=Q) hu h4 (by show y.o.length<=990;rw[ho];exact hl);have m:y.given v tk=CS.mC {y with c:={y.c with held:=R}} v tk:=by rw[Y7,O]
  obtain⟨d,e2'⟩:∃d:CS,d = {y with c:={y.c with held:=R}}:=⟨_,rfl⟩
  rw[<-e2']at r2 m h4;have c4:dG H4 o3 X.p X.f X.l X.sp X.cv I G X.pv d.c d.o (X.k+(n+1)):=h4.c;have⟨g4,fv4,r⟩:=c4.so;rw[m]at x;cases hh:y.c.held with
  |true =>
   have e1:R=true:=by rw[O,hh];rfl
   rw[e1]at s4;simp only[aa,bc,xy,aw,j,E2,Y,E6,c3.bq,hh,s4];simp only[aa,bc,aw,c4.bq,d8 r,EV r];exact r2 j E4 Y rfl rfl x
  |false =>
   cases tk with
   |false =>
    have e1:R=false:=by rw[O,hh];rfl
    rw[e1]at s4;simp only[aa,bc,xy,aw,j,E2,Y,E6,c3.bq,hh,s4];simp only[aa,bc,aw,c4.bq,d8 r,EV r];exact r2 j E4 Y rfl rfl x
   |true =>
    by_cases qa:s.c.so.want.a=0
    .have e1:R=true:=by rw[O,hh,hc,jz qa];rfl
     rw[e1]at s4;simp only[aa,bc,xy,aw,j,E2,Y,E6,c3.bq,hh,s4,m1,qr qa];simp only[aa,bc,aw,c4.bq,d8 r,EV r];exact r2 j E4 Y rfl rfl x
    .have e1:R=false:=by rw[O,hh,hc,jw qa];rfl
     rw[e1]at s4;simp only[aa,bc,xy,aw,j,E2,Y,E6,c3.bq,hh,s4,m1,qa];simp only[aa,bc,aw,c4.bq,d8 r,EV r];exact r2 j E4 Y rfl rfl x
 by_cases q1:s.c.so.want.op=1
 .rw [qv q1];simp only[aa,bc,xy,aw,Jw,s2,k0,k1,qr q1];refine C3.q (J9 hr hk s.c.so.want.a) λ w H3⟨hw,hu,o3,I,G,L,A,V3,J⟩=>?_;subst hw;cases b:(s.iX s.c.so.want.a).2 with
  |true =>
   rw[qv rfl];simp only[aa,bc,aw];exact rest hu J rfl rfl rfl rfl rfl rfl rfl λ ex E D H' he hD hs=>by rcases he with rfl|rfl<;>subst hD<;>exact hs
  |false =>
   rw[qn (by decide)];simp only[aa,bc,xy,aw];exact u.back J.here
 rw[qn q1]
 by_cases q2:s.c.so.want.op=2
 .rw [qv q2];simp only[aa,bc,xy,aw,Jw,s2,k0,k1,k2,q1,qr q2];refine C3.q (M6 hr hk s.c.so.want.a hs.qu) λ w H3⟨hw,o3,I,G,L,A,V3,J⟩=>?_;subst hw;cases b:s.sy s.c.so.want.a s.c.so.want.v with
  |true =>
   rw[qv rfl];simp only[aa,bc];exact rest bI J rfl rfl rfl rfl rfl rfl rfl λ ex E D H' he hD hs=>by rcases he with rfl|rfl<;>subst hD<;>exact hs
  |false =>
   rw[qn (by decide)];simp only[aa,bc,xy];exact u.back J.here
 rw[qn q2]
 by_cases q3:s.c.so.want.op=3
 .rw [qv q3];simp only[aa,bc,xy,aw,Jw,s2,k0,k1,k2,k3,q1,q2,qr q3];refine C3.q (FJ hr hk s.c.so.want.a s.c.so.want.o hs.qu) λ w H3⟨hw,o3,I,G,L,A,V3,J⟩=>?_;subst hw;cases b:(s.u5 s.c.so.want.a s.c.so.want.o).2 with
  |true =>
   rw[qv rfl];simp only[aa,bc,aw];exact rest bI J rfl rfl rfl rfl rfl rfl rfl λ ex E D H' he hD hs=>by rcases he with rfl|rfl<;>subst hD<;>exact hs
  |false =>
   rw[qn (by decide)];simp only[aa,bc,xy,aw];exact u.back J.here
 rw[qn q3];simp only[aa,bc,xy,aw,Jw,s2,k0,q1,q2,q3];exact u.back (u.re.dK (by omega))
end
end Go.Am
namespace Go.Am
open Lang Go.Proofs
variable{M:ak}[MK M]
def DC(o:Nat)(x y:Int):fm (CX o x y):=by unfold CX;(repeat' split)<;>exact BL _
structure Mq(e:lW):Prop where
 v:fm e.value
 a:fm e.addr
 k:e.kind=0\/e.kind=1\/e.kind=2\/e.kind=3\/e.kind=4\/e.kind=5\/e.kind=6\/e.kind=7
def uK{p:Prop}[Decidable p]{x y:lW}(a:Mq x)(b:Mq y):Mq (if p then x else y):=by split;exact a;exact b
def ND(i:iq)(pc:Int)(q:Bool):Mq (lH i pc q):=uK (uK ⟨bI,bI,.inl rfl⟩ ⟨bI,bI,.inr (.inr (.inl rfl))⟩) ⟨bI,bI,.inr (.inr (.inl rfl))⟩
def IA(i:iq){rs:List Int}{pc:Int}(a:rs.length=8)(hr:∀x∈rs,fm x):Mq (i.eM rs pc):=by
 unfold iq.eM;refine uK ⟨bI,bI,.inl rfl⟩ (uK ⟨bI,bI,by simp⟩ (uK ⟨BL _,bI,by simp⟩ (uK ⟨Nd a hr _,bI,by simp⟩ (uK ⟨DC _ _ _,bI,by simp⟩ (uK ⟨bI,BL _,by simp⟩ (uK ⟨Nd a hr _,BL _,by simp⟩ (uK (ND ..) (uK (ND ..) (uK (ND ..) (uK (ND ..) (uK ⟨bI,bI,by simp⟩ ⟨bI,bI,by simp⟩)))))))))))
def ag1(i:iq):(fX i).length=5:=rfl
def CS.mU(s:CS)(f:lW):CS :=
 let is:=CC s.c f.addr
 let a:=8+f.addr
 if(f.kind=3\/f.kind=4)/\is=B2\/f.kind=0\/s.c.la.lane≠0/\f.kind=5\/s.c.la.lane=0/\f.kind=6\/s.c.la.lane≠0/\f.kind=7 then s.cz
 else if f.kind=7 then{s with c:={s.c with halted:=B4}}
 else if f.kind=1 then(s.fi (·.set f.nQ f.value)).ft f.au
 else if f.kind=2 then s.ft f.au
 else if f.kind=3 then s.kC f a
 else if f.kind=4 then s.gU f a
 else if f.kind=5 then let t:=((s.ft f.au).fi .save).la .enter
  {t with c:={t.c with blocks:=aj .i64 (t.c.blocks+1),ph:=1}}
 else s.ends
def ad2(s:CS):s.mj=if(s.c.code.length:Int)<=s.c.fi.pc then if s.c.la.lane=0 then{s with c:={s.c with halted:=B4}}else s.cz else s.mU ((s.c.code.getD s.c.fi.pc.toNat ⟨0,0,0,0,0⟩).eM s.c.fi.rs s.c.fi.pc):=rfl
section
variable{X:SX}{n n':Nat}{s t:CS}{H H':ar}{o:Nat->Nat}{rv ov:AV}{bs:Bs}{own:Nat->Nat}{V:Int->L8}
def EF(h:dt X n s H o rv ov bs own V)(hk:X.k+n<=90000)(hl:s.o.length<=1000)(hS:tO H):xz M WU [.ptr X.p 0] H λ _ H'=>jU X (n+1) s.mj H':=by
 refine qs7 ?_;rw[ad2];have ln:=ia (M:=M) h.c.la;have pc:=UT (M:=M) h.c.fi;have pc0:=h.c.fi.w.pc;have lc:=h.c.cd.len
 by_cases W:(s.c.code.length:Int)<=s.c.fi.pc
 .rw [qv W]
  by_cases b:s.c.la.lane=0
  .rw [qv b];have⟨H1,s1,R⟩:=h.put 20 (v:=.bool B4) {s.c with halted:=B4} rfl (by decide) rfl ⟨rfl,rfl,rfl,rfl⟩ ⟨rfl,rfl⟩ {h.c.w with};simp only[aa,bc,zk,aw,h.c.bq,ln,pc,lc,qr W,qr b,s1];exact R.dK (by omega)
  .rw [qn b];simp only[aa,bc,zk,aw,h.c.bq,ln,pc,lc,qr W,b];refine C3.q (X5 h hk hl) λ _ H1 hp=>?_;simp only[aa,bc,zk];exact hp
 rw[qn W];obtain⟨i,hi⟩:∃i,s.c.code[s.c.fi.pc.toNat]? = B1 i:=⟨_,xj (by omega)⟩
 rw[zi,hi,vr];have ix:=h.c.cd.idx hi (z:=s.c.fi.pc) (KL pc0).symm .i64;have ld:∀{H':ar},eS fX 5 H' X.cv s.c.code->Op.av 5 [.ptr (aG X.cv) (cw 5 X.cv s.c.fi.pc.toNat)] H'=B1 (.agg (fX i)):=λ w=>w.av ag1 (by decide) hi;have uE:=ld h.c.cd;simp only[aa,bc,zk,aw,h.c.bq,ln,pc,lc,W,ix,uE];refine C3.q (QB h.c.fi) λ v H1⟨hv,f1⟩=>?_;subst hv;obtain⟨o1,R,-⟩:=h.loc f1;have l2:Op.ae [.ptr X.p 2] H1=B1 X.cv:=R.c.row.ld 2;have ld1:=ld R.c.cd;simp only[aa,bc,R.c.bq,ld1];refine C3.q (ER (hS.em f1) (i:=i) (pc:=s.c.fi.pc) h.c.fi.w.r8 h.c.fi.w.ru) λ v m⟨hv,f2⟩=>?_;subst hv;have⟨vu,S,kk⟩:=IA i (pc:=s.c.fi.pc) h.c.fi.w.r8 h.c.fi.w.ru;generalize i.eM s.c.fi.rs s.c.fi.pc=e at *;obtain⟨o2,h2,-⟩:=R.loc f2;obtain⟨J,Y⟩:∃Z,Z=(m.alloc (OR (aY gw) zq)).set m.au (OR (aY e) zq):=⟨_,rfl⟩
 have y:Op.store 5 [.ptr m.au 0,.agg (aY e)] (m.alloc (OR (aY gw) zq))=B1 (.undef,J):=by
  have:=(At.new m (aY gw) zq).ir (k:=0) (n:=5) (v:=.agg (aY e)) rfl (by simp[aY]) rfl;rw[Y];exact this
 have f3:Fr Em m J:=Y▸((Fr.refl m).alloc _).set (.inr (qg _)) _;have n3:J.au=m.au+1:=by rw[Y,si,xt]
 have P:J.get m.au=B1 (OR (aY e) zq):=by rw[Y,xb]
 have u:Op.ae [.ptr m.au 0] J=B1 (.int .i64 e.kind):=lX P 0;have k1:Op.ae [.ptr m.au 1] J=B1 (.int .i64 e.au):=lX P 1;have k2:Op.ae [.ptr m.au 2] J=B1 (.int .i64 e.nQ):=lX P 2;have k3:Op.ae [.ptr m.au 3] J=B1 (.int .u64 e.value):=lX P 3;have x:Op.ae [.ptr m.au 4] J=B1 (.int .u64 e.addr):=lX P 4;have k5:=yX P;have⟨o3,g,lo⟩:=h2.loc f3;have U:=(lo m.au).1 ⟨qg _,by omega⟩;have hr:=g.re;have a:=K1 (M:=M) g.c S;have E:xz M Sx [.ptr X.p 0] J λ _ H'=>jU X (n+1) s.cz H':=X5 g hk hl;rcases kk with q|q|q|q|q|q|q|q
 .have B:¬e.kind=1:=by omega
  have F:¬e.kind=2:=by omega
  have j:¬e.kind=3:=by omega
  have r:¬e.kind=4:=by omega
  have G:¬e.kind=5:=by omega
  have I:¬e.kind=6:=by omega
  have A:¬e.kind=7:=by omega
  have d:s.mU e=s.cz:=by unfold CS.mU;simp[q]
  rw[d];simp only[aa,bc,zk,aw,iO,y,u,x,a,j,r,qr q];refine C3.q E λ _ D hp=>?_;simp only[aa,bc];exact hp
 .have a0:¬e.kind=0:=by omega
  have F:¬e.kind=2:=by omega
  have j:¬e.kind=3:=by omega
  have r:¬e.kind=4:=by omega
  have G:¬e.kind=5:=by omega
  have I:¬e.kind=6:=by omega
  have A:¬e.kind=7:=by omega
  have d:s.mU e=(s.fi (·.set e.nQ e.value)).ft e.au:=by unfold CS.mU;simp[q]
  rw[d]
  by_cases b:s.c.la.lane=0
  .simp only[aa,bc,zk,aw,iO,y,u,k2,k3,x,a,g.c.bq,a0,j,r,I,A,qr q,qr b];refine C3.q (Gv g.c.fi e.nQ vu) λ _ D hp=>?_;have⟨o4,O,L,T,Q,V4,C⟩:=hr.co (t:=s.fi (·.set e.nQ e.value)) rfl rfl (g.c.D7 hp) (qg _);have c4:dG D o4 X.p X.f X.l X.sp X.cv O L X.pv (s.fi (·.set e.nQ e.value)).c s.o (X.k+n):=C.c;have m1:Op.ae [.ptr m.au 1] D=B1 (.int .i64 e.au):=lX (oa (C.lo U).2 P) 1;simp only[aa,bc,m1];refine C3.q (G0 (s:=s.fi (·.set e.nQ e.value)) c4 e.au) λ _ K hp=>?_;simp only[aa,bc];exact g.back ((C.co (t:=(s.fi (·.set e.nQ e.value)).ft e.au) rfl rfl hp (qg _)).mono (by omega))
  .simp only[aa,bc,zk,aw,iO,y,u,k2,k3,x,a,g.c.bq,a0,j,r,G,A,qr q,b];refine C3.q (Gv g.c.fi e.nQ vu) λ _ D hp=>?_;have⟨o4,O,L,T,Q,V4,C⟩:=hr.co (t:=s.fi (·.set e.nQ e.value)) rfl rfl (g.c.D7 hp) (qg _);have c4:dG D o4 X.p X.f X.l X.sp X.cv O L X.pv (s.fi (·.set e.nQ e.value)).c s.o (X.k+n):=C.c;have m1:Op.ae [.ptr m.au 1] D=B1 (.int .i64 e.au):=lX (oa (C.lo U).2 P) 1;simp only[aa,bc,m1];refine C3.q (G0 (s:=s.fi (·.set e.nQ e.value)) c4 e.au) λ _ K hp=>?_;simp only[aa,bc];exact g.back ((C.co (t:=(s.fi (·.set e.nQ e.value)).ft e.au) rfl rfl hp (qg _)).mono (by omega))
 .have a0:¬e.kind=0:=by omega
  have B:¬e.kind=1:=by omega
  have j:¬e.kind=3:=by omega
  have r:¬e.kind=4:=by omega
  have G:¬e.kind=5:=by omega
  have I:¬e.kind=6:=by omega
  have A:¬e.kind=7:=by omega
  have d:s.mU e=s.ft e.au:=by unfold CS.mU;simp[q]
  rw[d]
  by_cases b:s.c.la.lane=0
  .simp only[aa,bc,zk,aw,iO,y,u,k1,x,a,a0,B,j,r,I,A,qr q,qr b];refine C3.q (G0 g.c e.au) λ _ K hp=>?_;simp only[aa,bc];exact(g.co (t:=s.ft e.au) rfl rfl hp (qg _)).mono (by omega)
  .simp only[aa,bc,zk,aw,iO,y,u,k1,x,a,a0,B,j,r,G,A,qr q,b];refine C3.q (G0 g.c e.au) λ _ K hp=>?_;simp only[aa,bc];exact(g.co (t:=s.ft e.au) rfl rfl hp (qg _)).mono (by omega)
 .have a0:¬e.kind=0:=by omega
  have B:¬e.kind=1:=by omega
  have F:¬e.kind=2:=by omega
  have r:¬e.kind=4:=by omega
  have G:¬e.kind=5:=by omega
  have I:¬e.kind=6:=by omega
  have A:¬e.kind=7:=by omega
  cases N:CS.CC s.c e.addr with
  |true =>
   have d:s.mU e=s.kC e (8+e.addr):=by unfold CS.mU;simp[q,N]
   rw[d];rw[N,qv rfl]at a
   by_cases b:s.c.la.lane=0
   .simp only[aa,bc,zk,aw,iO,y,u,x,k5,a,a0,B,F,I,A,qr q,qr b];refine C3.q (Zu g hk hl e S (8+e.addr)) λ _ K hp=>?_;simp only[aa,bc];exact hp
   .simp only[aa,bc,zk,aw,iO,y,u,x,k5,a,a0,B,F,G,A,qr q,b];refine C3.q (Zu g hk hl e S (8+e.addr)) λ _ K hp=>?_;simp only[aa,bc];exact hp
  |false =>
   rw[N,qn (by decide)]at a;have d:s.mU e=s.cz:=by unfold CS.mU;simp[q,N]
   rw[d];simp only[aa,bc,zk,aw,iO,y,u,x,a,qr q];refine C3.q E λ _ D hp=>?_;simp only[aa,bc];exact hp
 .have a0:¬e.kind=0:=by omega
  have B:¬e.kind=1:=by omega
  have F:¬e.kind=2:=by omega
  have j:¬e.kind=3:=by omega
  have G:¬e.kind=5:=by omega
  have I:¬e.kind=6:=by omega
  have A:¬e.kind=7:=by omega
  cases N:CS.CC s.c e.addr with
  |true =>
   have d:s.mU e=s.gU e (8+e.addr):=by unfold CS.mU;simp[q,N]
   rw[d];rw[N,qv rfl]at a
   by_cases b:s.c.la.lane=0
   .simp only[aa,bc,zk,aw,iO,y,u,x,k5,a,a0,B,F,j,I,A,qr q,qr b];refine C3.q (qp g hk hl e S vu (8+e.addr)) λ _ K hp=>?_;simp only[aa,bc];exact hp
   .simp only[aa,bc,zk,aw,iO,y,u,x,k5,a,a0,B,F,j,G,A,qr q,b];refine C3.q (qp g hk hl e S vu (8+e.addr)) λ _ K hp=>?_;simp only[aa,bc];exact hp
  |false =>
   rw[N,qn (by decide)]at a;have d:s.mU e=s.cz:=by unfold CS.mU;simp[q,N]
   rw[d];simp only[aa,bc,zk,aw,iO,y,u,x,a,j,qr q];refine C3.q E λ _ D hp=>?_;simp only[aa,bc];exact hp
 .have a0:¬e.kind=0:=by omega
  have B:¬e.kind=1:=by omega
  have F:¬e.kind=2:=by omega
  have j:¬e.kind=3:=by omega
  have r:¬e.kind=4:=by omega
  have I:¬e.kind=6:=by omega
  have A:¬e.kind=7:=by omega
  by_cases b:s.c.la.lane=0
  .have d:s.mU e=(let t:=((s.ft e.au).fi .save).la .enter
    {t with c:={t.c with blocks:=aj .i64 (t.c.blocks+1),ph:=1}}):=by unfold CS.mU;simp[q,b]
   rw[d];simp only[aa,bc,zk,aw,iO,y,u,k1,x,a,a0,B,F,j,r,I,A,qr q,qr b];refine C3.q (G0 g.c e.au) λ _ D hp=>?_;have⟨o4,O,L,T,Q,V4,C⟩:=g.co (t:=s.ft e.au) rfl rfl hp (qg _);simp only[aa,bc,aw,C.c.bq];refine C3.q (LY C.c.fi) λ _ K hp=>?_;have⟨o5,rv5,ov5,bs5,own5,V5,h5⟩:=C.co (t:=(s.ft e.au).fi .save) rfl rfl (C.c.D7 hp) (qg _);simp only[aa,bc,aw,h5.c.bq];refine C3.q (Ht h5.c.la) λ _ H6 hp=>?_;have⟨o6,rv6,ov6,bs6,own6,V6,h6⟩:=h5.co (t:=((s.ft e.au).fi .save).la .enter) rfl rfl (h5.c.TM hp) (qg _);obtain⟨t,ht⟩:∃t:CS,t=((s.ft e.au).fi .save).la .enter:=⟨_,rfl⟩
   rw[<-ht]at h6;rw[<-ht];have⟨H7,s7,h7⟩:=h6.put 18 (v:=.int .i64 (aj .i64 (t.c.blocks+1))) {t.c with blocks:=aj .i64 (t.c.blocks+1)} rfl (by decide) rfl ⟨rfl,rfl,rfl,rfl⟩ ⟨rfl,rfl⟩ {h6.c.w with};have⟨H8,s8,h8⟩:=h7.put 6 (v:=.int .i64 1) {t.c with blocks:=aj .i64 (t.c.blocks+1),ph:=1} rfl (by decide) rfl ⟨rfl,rfl,rfl,rfl⟩ ⟨rfl,rfl⟩ {h7.c.w with};simp only[aa,bc,aw,h6.c.bq,s7,s8];exact h8.dK (by omega)
  .have d:s.mU e=s.cz:=by unfold CS.mU;simp[q,b]
   rw[d];simp only[aa,bc,zk,aw,iO,y,u,x,a,a0,j,r,qr q,b];refine C3.q E λ _ D hp=>?_;simp only[aa,bc];exact hp
 .have a0:¬e.kind=0:=by omega
  have B:¬e.kind=1:=by omega
  have F:¬e.kind=2:=by omega
  have j:¬e.kind=3:=by omega
  have r:¬e.kind=4:=by omega
  have G:¬e.kind=5:=by omega
  have A:¬e.kind=7:=by omega
  by_cases b:s.c.la.lane=0
  .have d:s.mU e=s.cz:=by unfold CS.mU;simp[q,b]
   rw[d];simp only[aa,bc,zk,aw,iO,y,u,x,a,a0,j,r,qr q,qr b];refine C3.q E λ _ D hp=>?_;simp only[aa,bc];exact hp
  .have d:s.mU e=s.ends:=by unfold CS.mU;simp[q,b]
   rw[d];simp only[aa,bc,zk,aw,iO,y,u,x,a,a0,B,F,j,r,G,A,b];refine C3.q (IB g hk hl) λ _ K hp=>?_;simp only[aa,bc];exact hp
 .have a0:¬e.kind=0:=by omega
  have B:¬e.kind=1:=by omega
  have F:¬e.kind=2:=by omega
  have j:¬e.kind=3:=by omega
  have r:¬e.kind=4:=by omega
  have G:¬e.kind=5:=by omega
  have I:¬e.kind=6:=by omega
  by_cases b:s.c.la.lane=0
  .have d:s.mU e = {s with c:={s.c with halted:=B4}}:=by unfold CS.mU;simp[q,b]
   rw[d];have⟨D,s4,C⟩:=g.put 20 (v:=.bool B4) {s.c with halted:=B4} rfl (by decide) rfl ⟨rfl,rfl,rfl,rfl⟩ ⟨rfl,rfl⟩ {g.c.w with};simp only[aa,bc,zk,aw,iO,y,u,x,a,a0,j,r,I,qr q,qr b,s4];exact C.dK (by omega)
  .have d:s.mU e=s.cz:=by unfold CS.mU;simp[q,b]
   rw[d];simp only[aa,bc,zk,aw,iO,y,u,x,a,a0,j,r,G,qr q,b];refine C3.q E λ _ D hp=>?_;simp only[aa,bc];exact hp
end
end Go.Am
namespace Go.Am
open Lang Go.Proofs
variable{M:ak}[MK M]
section
variable{X:SX}{n n':Nat}{s t:CS}{H H':ar}{o:Nat->Nat}{rv ov:AV}{bs:Bs}{own:Nat->Nat}{V:Int->L8}
def ML(h:dt X n s H o rv ov bs own V)(hk:X.k+n+1<=90000)(hl:s.o.length<=990)(P:tO H):xz M SL [.ptr X.p 0] H λ _ H'=>jU X (n+2) s.act H':=by
 refine l_ ?_;have d:X.k+n<=90000:=by omega
 have f:s.o.length<=1000:=by omega
 unfold CS.act;simp only
 by_cases e:s.c.ph=0
 .rw [qv e];simp only[aa,bc,z8,aw,h.c.bq,qr e];refine C3.q (EF h d f P) λ _ H1 hp=>?_;simp only[aa,bc];exact hp.mono (by omega)
 rw[qn e]
 by_cases g:s.c.ph=1
 .rw [qv g];simp only[aa,bc,z8,aw,h.c.bq,e,qr g];refine C3.q (Ci h d f) λ _ H1 hp=>?_;simp only[aa,bc];exact hp.mono (by omega)
 rw[qn g]
 by_cases i:s.c.ph=2
 .rw [qv i];simp only[aa,bc,z8,aw,h.c.bq,e,g,qr i];refine C3.q (J9 h d 1) λ v H1⟨y,hu,o1,u,m,j,lK,G,a⟩=>?_;subst y;cases b:(s.iX 1).2 with
  |false =>
   rw[qn (by decide)];simp only[aa,bc,z8,aw];exact a.dK (by omega)
  |true =>
   rw[qv rfl];have⟨F,s2,l⟩:=a.put 6 (v:=.int .i64 3) {s.c with ph:=3} rfl (by decide) rfl ⟨rfl,rfl,rfl,rfl⟩ ⟨rfl,rfl⟩ {a.c.w with}
   by_cases z:(s.iX 1).1=0
   .rw [qn (λ w=>w z)];simp only[aa,bc,z8,aw,s2,qr z];exact l.dK (by omega)
   .rw [qv z];simp only[aa,bc,z8,aw,s2,z,l.c.bq,SX.pv,tG,Sn];refine C3.q (RD (s:=(s.ld 1).ph 3) l (by omega) 6) λ _ N hp=>?_;simp only[aa,bc];exact hp
 rw[qn i]
 by_cases r:s.c.ph=3
 .rw [qv r];simp only[aa,bc,z8,aw,h.c.bq,e,g,i,qr r];refine C3.q (J9 h d 0) λ v H1⟨y,hu,o1,u,m,j,lK,G,a⟩=>?_;subst y;cases b:(s.iX 0).2 with
  |false =>
   rw[qn (by decide)];simp only[aa,bc,aw];exact a.dK (by omega)
  |true =>
   rw[qv rfl];have⟨F,s2,l⟩:=a.put 12 (v:=.int .u64 (s.iX 0).1) {s.c with seq:=(s.iX 0).1} rfl (by decide) rfl ⟨rfl,rfl,rfl,rfl⟩ ⟨rfl,rfl⟩ {a.c.w with};have⟨N,L,I⟩:=l.put 6 (v:=.int .i64 0) {s.c with seq:=(s.iX 0).1,ph:=0} rfl (by decide) rfl ⟨rfl,rfl,rfl,rfl⟩ ⟨rfl,rfl⟩ {l.c.w with}
   by_cases z:(s.iX 0).1 % 2=1
   .rw [qv z];simp only[aa,bc,z8,aw,s2,L,nN hu,qr z,I.c.bq,SX.pv,tG,Sn];refine C3.q (RD (s:={s.ld 0 with c:={s.c with seq:=(s.iX 0).1,ph:=0}}) I (by omega) 6) λ _ Q hp=>?_;simp only[aa,bc];exact hp
   .rw [qn z];simp only[aa,bc,z8,aw,s2,L,nN hu,z];exact I.dK (by omega)
 rw[qn r]
 by_cases x:s.c.ph=4
 .rw [qv x];simp only[aa,bc,z8,aw,h.c.bq,e,g,i,r,qr x];refine C3.q (J9 h d 0) λ v H1⟨y,hu,o1,u,m,j,lK,G,a⟩=>?_;subst y;cases b:(s.iX 0).2 with
  |false =>
   rw[qn (λ w=>by cases w.1)];simp only[aa,bc,z8,aw];exact a.dK (by omega)
  |true =>
   by_cases z:(s.iX 0).1 % 2=0
   .rw [qv ⟨rfl,z⟩];have⟨F,s2,l⟩:=a.put 12 (v:=.int .u64 (s.iX 0).1) {s.c with seq:=(s.iX 0).1} rfl (by decide) rfl ⟨rfl,rfl,rfl,rfl⟩ ⟨rfl,rfl⟩ {a.c.w with};have⟨N,L,I⟩:=l.put 6 (v:=.int .i64 5) {s.c with seq:=(s.iX 0).1,ph:=5} rfl (by decide) rfl ⟨rfl,rfl,rfl,rfl⟩ ⟨rfl,rfl⟩ {l.c.w with};simp only[aa,bc,z8,aw,nN hu,qr z,s2,L];exact I.dK (by omega)
   .rw [qn (λ w=>z w.2)];simp only[aa,bc,z8,aw,nN hu,z];exact a.dK (by omega)
 rw[qn x]
 by_cases A:s.c.ph=5
 .rw [qv A];simp only[aa,bc,z8,aw,h.c.bq,e,g,i,r,x,qr A];refine C3.q (Dv h d f) λ _ H1 hp=>?_;simp only[aa,bc];exact hp.mono (by omega)
 rw[qn A]
 by_cases C:s.c.ph=6
 .rw [qv C];simp only[aa,bc,z8,aw,h.c.bq,e,g,i,r,x,A,qr C];refine C3.q (Dz h d hl) λ _ H1 hp=>?_;simp only[aa,bc];exact hp.mono (by omega)
 rw[qn C];have O:=M6 (M:=M) h d 0 (BL (s.c.seq+2))
 by_cases D:s.c.ph=7
 .rw [qv D];unfold CS.kE;simp only;simp only[aa,bc,z8,aw,h.c.bq,e,g,i,r,x,A,C,qr D];refine C3.q O λ v H1⟨y,o1,u,m,j,lK,G,a⟩=>?_;subst y;cases b:s.sy 0 (aj .u64 (s.c.seq+2))with
  |false =>
   rw[qn (by decide)];simp only[aa,bc];exact a.dK (by omega)
  |true =>
   rw[qv rfl];have⟨F,s2,l⟩:=a.put 6 (v:=.int .i64 8) {s.c with ph:=8} rfl (by decide) rfl ⟨rfl,rfl,rfl,rfl⟩ ⟨rfl,rfl⟩ {a.c.w with};simp only[aa,bc,aw,s2];exact l.dK (by omega)
 rw[qn D]
 by_cases E:s.c.ph=8
 .rw [qv E];simp only[aa,bc,z8,aw,h.c.bq,e,g,i,r,x,A,C,D,qr E,SX.pv,tG,Sh];refine C3.q (RH h d) λ _ H1⟨o1,u,m,j,lK,G,a⟩=>?_;simp only[aa,bc];refine C3.q (M8 (s:=s.lI 4 0 0 0) a.c f) λ _ F hp=>?_;simp only[aa,bc];exact(a.co (t:=(s.lI 4 0 0 0).dk) (KH _) (KJ _) hp (qg _)).mono (by omega)
 rw[qn E]
 by_cases J:s.c.ph=9
 .rw [qv J];simp only[aa,bc,z8,aw,h.c.bq,e,g,i,r,x,A,C,D,E,qr J];refine C3.q (DV h d f) λ _ H1 hp=>?_;simp only[aa,bc];exact hp.mono (by omega)
 rw[qn J]
 by_cases K:s.c.ph=10
 .rw [qv K];unfold CS.kE;simp only;simp only[aa,bc,z8,aw,h.c.bq,e,g,i,r,x,A,C,D,E,J,qr K];refine C3.q O λ v H1⟨y,o1,u,m,j,lK,G,a⟩=>?_;subst y;cases b:s.sy 0 (aj .u64 (s.c.seq+2))with
  |false =>
   rw[qn (by decide)];simp only[aa,bc];exact a.dK (by omega)
  |true =>
   rw[qv rfl];simp only[aa,bc];refine C3.q (SI (s:=s.st 0 (aj .u64 (s.c.seq+2))) a.c f) λ _ F hp=>?_;simp only[aa,bc];exact(a.co (t:=(s.st 0 (aj .u64 (s.c.seq+2))).breaks) rfl rfl hp (qg _)).mono (by omega)
 rw[qn K];simp only[aa,bc,z8,aw,h.c.bq,e,g,i,r,x,A,C,D,E,J,K];exact h.dK (by omega)
end
end Go.Am
namespace Go.Am
open Lang Go.Proofs
variable{M:ak}[MK M]
section
variable{H H0:ar}{B:Nat}{s:Bs}{b:Bu}{own:Nat->Nat}
def Z_(h:fK H0 H B s b own)(hb:BB b){c:Nat}{n:No}(hn:b.ns[c]? = B1 n):xz M NM [.ptr B 0,.int .i64 (c:Int)] H λ v H'=>v=.int .i64 n.code/\H'=H:=by
 refine W_ ?_;simp only[aa,bc,q12];refine C3.q (Jy h hb.N4 (c:Int)) λ v l⟨a,j,_⟩=>?_;have hl:=(qo.1 hn).1;have⟨A,g,d⟩:=j ⟨by omega,by omega⟩;rw[IJ]at g;rw[d,a];have i:=h.no _ n A hn g;have e:Op.ae [.ptr A.r 16] H=B1 (.int .i64 n.code):=(i.ld 16).trans (CZ n A.b A.bv).2.2.2.2.2.2.1;simp only[aa,bc,xc];refine C3.q (R:=λ v H'=>v=.int .i64 n.code/\H'=H) ?_ λ v m⟨d,a⟩=>?_
 .refine qv4 ?_;obtain⟨w0,k,f⟩:=qv5 M ⟨B5,yh⟩;simp only[aa,bc,w0,k,kw,f,qk,e]
 rw[d,a];simp only[aa,bc]
end
structure uz(X:SX)(n:Nat)(x:Co)(y:Bu)(H:ar)(o:Nat->Nat)(rv:AV)(bs:Bs)(own:Nat->Nat)(V:Int->L8):Prop where
 c:dG H o X.p X.f X.l X.sp X.cv rv .nils .nili x [] (X.k+n)
 b:fK X.Hb H X.B bs y own
 I:BuI y V
 C:BC y (X.k+n)
 U:wM y
 nn:x.id<y.ns.length
 dj:∀z,iV X.B bs z->o z=0
 hb:∀z,z<H.au->o z≠0->X.Hb.au<=z
 go:∀z,z<H.au->o z≠0->(z<X.H.au/\X.o z≠0)\/X.H.au<=z
 gb:∀z,iV X.B bs z->X.W z\/X.H.au<=z
 fr:Fr (λ z=>X.o z≠0\/X.W z) X.H H
section
variable{X:SX}{n n':Nat}{s t:CS}{c:Co}{b:Bu}{H H':ar}{o:Nat->Nat}{rv ov:AV}{bs:Bs}{own:Nat->Nat}{V:Int->L8}
def yW{x:Nat}{Y:ar}(h:o X.p=1)(hr:fK X.Hb H X.B bs b own)(dj:∀z,iV X.B bs z->o z=0)(hb:∀z,z<H.au->o z≠0->X.Hb.au<=z)(hp:X.p<H.au)(f:Fr (On X.p) H Y):fK X.Hb Y X.B bs b own :=
 hr.fr f λ z(q:z=X.p)=>⟨by rw[q];exact hb _ hp (by rw[h];decide),λ e=>by rw[q]at e;have:=dj _ e;omega⟩
def uz.open(h:uz X n c b H o rv bs own V):∃H1 g,Op.store 1 [.ptr X.p 22,.nils] H=B1 (.undef,H1)/\Op.store 1 [.ptr X.p 23,X.pv] H1=B1 (.undef,g)/\dt X n ⟨c,b,[]⟩ g o rv .nils bs own V/\Fr (On X.p) H g/\Fr (On X.p) H H1:=by
 have⟨a,i⟩:=h.c.cell (d:=c) (k':=X.k+n) ⟨rfl,rfl,rfl,rfl⟩ (rv':=rv) (ov':=.nils) (pv':=.nili) (os':=[]) ⟨h.c.rd,h.c.oJ⟩ ⟨Own.nil ..,λ z q=>(q.1 rfl).elim⟩ rfl h.c.w;have s1:=h.c.row.st 22 (v:=.nils) rfl (by simp[cj]);have j:(cj c X.f X.l X.sp X.cv rv .nils .nili).set 22 .nils=cj c X.f X.l X.sp X.cv rv .nils .nili:=rfl;rw[j]at s1;have s2:=a.row.st 23 (v:=X.pv) rfl (by simp[cj]);have⟨u,r⟩:=a.cell (d:=c) (k':=X.k+n) ⟨rfl,rfl,rfl,rfl⟩ (rv':=rv) (ov':=.nils) (pv':=X.pv) (os':=[]) ⟨a.rd,a.oJ⟩ ⟨Own.nil ..,λ z q=>(q.1 rfl).elim⟩ rfl h.c.w;have m:(cj c X.f X.l X.sp X.cv rv .nils .nili).set 23 X.pv=cj c X.f X.l X.sp X.cv rv .nils X.pv:=rfl;rw[m]at s2;have f:=i.trans r λ z q=>.inl q;refine⟨_,_,s1,s2,⟨u,yW (x:=0) h.c.op h.b h.dj h.hb h.c.row.2 f,h.I,h.C,h.U,h.nn,h.dj,h.hb,h.go,h.gb,h.fr.trans f λ z(q:z=X.p)=>?_⟩,f,i⟩;rw[q];exact(h.go X.p h.c.row.2 (by rw[h.c.op];decide)).imp (λ e=>.inl e.2) id
def dt.close(h:dt X n s H o rv ov bs own V):∃H1 a,Op.store 1 [.ptr X.p 22,.nils] H=B1 (.undef,H1)/\Op.store 1 [.ptr X.p 23,.nili] H1=B1 (.undef,a)/\uz X n s.c s.b a o rv bs own V/\bU iW.enc vc 9 a ov s.o/\(∀z,bm ov z->o z=6)/\Fr (On X.p) H a/\Fr (On X.p) H H1:=by
 have⟨g,i⟩:=h.c.cell (d:=s.c) (k':=X.k+n) ⟨rfl,rfl,rfl,rfl⟩ (rv':=rv) (ov':=.nils) (pv':=X.pv) (os':=[]) ⟨h.c.rd,h.c.oJ⟩ ⟨Own.nil ..,λ z q=>(q.1 rfl).elim⟩ rfl h.c.w;have s1:=h.c.row.st 22 (v:=.nils) rfl (by simp[cj]);have j:(cj s.c X.f X.l X.sp X.cv rv ov X.pv).set 22 .nils=cj s.c X.f X.l X.sp X.cv rv .nils X.pv:=rfl;rw[j]at s1;have s2:=g.row.st 23 (v:=.nili) rfl (by simp[cj]);have⟨u,r⟩:=g.cell (d:=s.c) (k':=X.k+n) ⟨rfl,rfl,rfl,rfl⟩ (rv':=rv) (ov':=.nils) (pv':=.nili) (os':=[]) ⟨g.rd,g.oJ⟩ ⟨Own.nil ..,λ z q=>(q.1 rfl).elim⟩ rfl h.c.w;have m:(cj s.c X.f X.l X.sp X.cv rv .nils X.pv).set 23 .nili=cj s.c X.f X.l X.sp X.cv rv .nils .nili:=rfl;rw[m]at s2;have f:=i.trans r λ z q=>.inl q;refine⟨_,_,s1,s2,⟨u,yW (x:=0) h.c.op h.b h.dj h.hb h.c.row.2 f,h.I,h.C,h.U,h.nn,h.dj,h.hb,h.go,h.gb,h.fr.trans f λ z(q:z=X.p)=>?_⟩,Own.fr h.c.ou f λ z q=>h.c.np z (by rw[h.c.oV z q];decide),h.c.oV,f,i⟩;rw[q];exact(h.go X.p h.c.row.2 (by rw[h.c.op];decide)).imp (λ e=>.inl e.2) id
def uz.em(h:uz X n c b H o rv bs own V)(f:Fr Em H H'):uz X n c b H' (bw o H.au 0) rv bs own V:=by
 have ho:∀z,z<H.au->bw o H.au 0 z=o z:=λ z q=>vx q;refine{h with c:=h.c.fr f (λ _ _ _ q=>q) ho (qg _),b:=h.b.em f,dj:=λ z q=>(ho z (h.b.low q)).trans (h.dj z q),hb:=λ z q e=>?_,go:=λ z q e=>?_,fr:=h.fr.em f}
 .rcases xp z H.au with w|w
  .rw [ho z w]at e;exact h.hb z w e
  .rw [mG w]at e;exact(e rfl).elim
 .rcases xp z H.au with w|w
  .rw [ho z w]at e;exact h.go z w e
  .rw [mG w]at e;exact(e rfl).elim
end
end Go.Am
namespace Go.Am
open Lang Go.Proofs
variable{M:ak}[MK M]
section
variable{X:SX}{n n':Nat}{s t:CS}{c:Co}{b:Bu}{H H':ar}{o:Nat->Nat}{rv ov:AV}{bs:Bs}{own:Nat->Nat}{V:Int->L8}
def pP(X:SX)(n:Nat)(s:CS)(H:ar)(ov:AV):Prop:=∃o rv bs own V,uz X n s.c s.b H o rv bs own V/\bU iW.enc vc 9 H ov s.o /\ ∀z,bm ov z->o z=6
def xd6{d:Nat}{H1 a:ar}{p:Nat}(l1:Op.ae [.ptr d 0] H=B1 (.ptr p 0))(s1:Op.store 1 [.ptr p 22,.nils] H=B1 (.undef,H1))(s2:Op.store 1 [.ptr p 23,.nili] H1=B1 (.undef,a)):∃v,iM M jp [.ptr d 0] (B1 []) H (.ret v) (B1 []) a:=by
 obtain⟨e,H',f,v,rfl,rfl⟩:=qrf (M:=M) (up:=B1 []) (a0:=.ptr d 0) (H:=H) (Q:=λ e X=>∃v,e=.ret v/\X=a) (by
  simp only[aa,bc,qrg,aw,l1,s1,s2];exact⟨_,rfl⟩)
 exact⟨v,f⟩
def GO(h:uz X n c b H o rv bs own V)(hk:X.k+n+1<=90000)(hS:tO H)(oG:o kc=0):xz M JV [.ptr X.p 0,X.pv] H λ v H'=>∃ov,v=.tuple [ov,.int .i64 (CS.step ⟨c,b,[]⟩).2]/\pP X (n+2) (CS.step ⟨c,b,[]⟩).1 H' ov:=by
 refine I_ ?_;obtain⟨H1,Y,f1,n1,Z⟩:=de H (OR [.ptr X.p 0] wg);have ca:AV.cells (.ptr X.p 0)=[.ptr X.p 0]:=rfl;have y:=h.em f1;have l1:Op.ae [.ptr H.au 0] H1=B1 (.ptr X.p 0):=lX Z 0;have od:bw o H.au 0 H.au=0:=mG (qg _);have W:=II (M:=M) y.c;have en:∀H,Op.eq .iface B2 [X.pv,.nili] H=B1 (.bool B2):=λ _=>rfl;have N:Op.ae [.ptr X.p 20] H1=B1 (.bool c.halted):=y.c.row.ld 20;have D:Op.ae [.ptr X.p 21] H1=B1 (.bool c.A4):=y.c.row.ld 21;have done:pP X (n+2) ⟨c,b,[]⟩ H1 .nils:=⟨_,_,_,_,_,{y with c:=y.c.fr (Fr.refl _) (λ _ _ _ w=>w) (λ _ _=>rfl) (by omega),C:=y.C.mono (by omega)},Own.nil ..,λ z q=>(q.1 rfl).elim⟩
 unfold CS.step;simp only;cases qb:c.A4 with
 |true =>
  rw[qv rfl];simp only[aa,bc,kh,Yg,aw,ca,<-Y,l1,W,en,D,qb];exact⟨_,rfl,done⟩
 |false =>
 rw[qn (by decide)];cases qh:c.halted with
 |true =>
  rw[qv rfl];simp only[aa,bc,kh,Yg,aw,ca,<-Y,l1,W,en,D,qb,N,qh];exact⟨_,rfl,done⟩
 |false =>
 rw[qn (by decide)];obtain⟨Ha,x,s1,s2,l,P,fa⟩:=y.open;have pd:H.au≠X.p:=λ e=>by have:=y.c.op;rw[<-e,od]at this;cases this
 have la:Op.ae [.ptr H.au 0] Ha=B1 (.ptr X.p 0):=lX (oa (fa.ah _ (by omega) pd) Z) 0;have g2:=oa (P.ah _ (by omega) pd) Z;have l2:Op.ae [.ptr H.au 0] x=B1 (.ptr X.p 0):=lX g2 0;have n2:=P.au;have ld:Ch x (bw o H.au 0) X.B bs H.au:=⟨by omega,od,λ w=>by have:=h.b.low w;omega⟩
 have mk:Op.bS jp 0 [.ptr H.au 0]=B1 (.fn (.func jp) [] [.ptr H.au 0]):=rfl;have hS2:tO x:=by
  have a:tO H1:=hS.em f1;have ne:¬On X.p kc:=λ(e:kc=X.p)=>by have:=h.c.op;rw[<-e,oG]at this;cases this
  exact⟨(P.cells a.2 ne).trans a.1,qj a.2 P.au⟩
 have I:=qL (M:=M) l.c.la;have lv:=ID (M:=M) l (by omega);have id0:=l.node.1;have U:∀K,C3 M B4 (.func NM) [.ptr X.B 0,.int .i64 c.id] x K=K B4 (.int .i64 (CS.node ⟨c,b,[]⟩).code) x:=dX (by
  have:=Z_ (M:=M) l.b (l.bb (by omega)) l.node.2;rw[KL id0]at this;exact this)
 have fin:∀{m:Nat}{S:CS}{i:ar}{o3:Nat->Nat}{G f:AV}{L:Bs}{A:Nat->Nat}{V3:Int->L8},m<=n+2->dt (X.at x (bw o H.au 0) bs) m S i o3 G f L A V3->Op.ae [.ptr H.au 0] i=B1 (.ptr X.p 0)/\Op.ae [.ptr X.p 22] i=B1 f /\ ∃v j,iM M jp [.ptr H.au 0] (B1 []) i (.ret v) (B1 []) j/\pP X (n+2) S j f:=λ hm q=>by
  have l3:=lX (oa (q.lo ld).2 g2) 0;have q':=l.qN q;obtain⟨Hc,j,t1,t2,r,ow,o6,_⟩:=q'.close;obtain⟨v,hv⟩:=xd6 (M:=M) l3 t1 t2;exact⟨l3,q'.c.row.ld 22,v,j,hv,_,_,_,_,_,{r with c:=r.c.fr (Fr.refl _) (λ _ _ _ w=>w) (λ _ _=>rfl) (by omega),C:=r.C.mono (by omega)},ow,o6⟩
 simp only[aa,bc,kh,q8u,aw,ca,<-Y,l1,W,en,D,qb,N,qh,s1,la,s2];refine⟨_,_,_,rfl,?_⟩
 -- the deferred call
 have go:∀{v:AV}{i:ar}{S:CS},pP X (n+2) S i v -> ∀{T:ar}{u:AV},iM M jp [.ptr H.au 0] (B1 []) T (.ret u) (B1 []) i -> ∀{E:Env},lk E 4=B1 v->lk E 5=B1 (.int .i64 0)->eR M [.tmp 4,.tmp 5] (tc λ v H'=>∃ov,v=.tuple [ov,.int .i64 0]/\pP X (n+2) S H' ov) .ret E [.fn (.func jp) [.ptr H.au 0]] T:=λ{v i S}hR{T u}hu{E}E4 E5=>by
  refine⟨u,[],i,hu,bJ.intro (m:=aF) (a:=B5) rfl ?_⟩;show iy E i [.tmp 4,.tmp 5] _;simp only[aa,bc,E4,E5];exact⟨v,rfl,hR⟩
 -- the core acts
 have act:xz M SL [.ptr X.p 0] x λ _ i=>∃f u j,Op.ae [.ptr H.au 0] i=B1 (.ptr X.p 0)/\Op.ae [.ptr X.p 22] i=B1 f/\iM M jp [.ptr H.au 0] (B1 []) i (.ret u) (B1 []) j/\pP X (n+2) (CS.act ⟨c,b,[]⟩) j f:=(ML (M:=M) l.re hk (xu _) hS2).mono λ _ i⟨o3,G,f,L,A,V3,q⟩=>by
  obtain⟨l3,g,u,j,hu,hR⟩:=fin (qg _) q;exact⟨f,u,j,l3,g,hu,hR⟩
 cases J:c.la.og with
 |false =>
  rw[qn (λ w=>by cases w.1)];simp only[aa,bc,aw,l2,l.c.bq,I,J];refine C3.q act λ _ i⟨f,u,j,l3,g,hu,hR⟩=>?_;simp only[aa,bc,kh,aw,l3,g];exact go hR hu rfl rfl
 |true =>
  by_cases F:c.ph=1
  .rw [qn (λ w=>w.2.1 F)];have n1:¬(1:Int)≠1:=λ q=>q rfl;simp only[aa,bc,aw,l2,l.c.bq,I,J,F,n1];refine C3.q act λ _ i⟨f,u,j,l3,g,hu,hR⟩=>?_;simp only[aa,bc,kh,aw,l3,g];exact go hR hu rfl rfl
  cases R:(CS.node ⟨c,b,[]⟩).live with
  |true =>
   rw[qn (λ w=>by cases w.2.2)];simp only[aa,bc,aw,l2,l.c.bq,I,J,F,SX.pv,tG,OS,lv,R];refine C3.q act λ _ i⟨f,u,j,l3,g,hu,hR⟩=>?_;simp only[aa,bc,kh,aw,l3,g];exact go hR hu rfl rfl
  |false =>
   rw[qv ⟨rfl,F,rfl⟩];have ab:∀d,d=CS.pB ⟨c,b,[]⟩->xz M Tj [.ptr X.p 0,.int .i64 d] x λ _ i=>∃f u j,Op.ae [.ptr H.au 0] i=B1 (.ptr X.p 0)/\Op.ae [.ptr X.p 22] i=B1 f/\iM M jp [.ptr H.au 0] (B1 []) i (.ret u) (B1 []) j/\pP X (n+2) (CS.abort ⟨c,b,[]⟩ (CS.pB ⟨c,b,[]⟩)) j f:=λ d e=>(UZ (M:=M) (s:=⟨c,b,[]⟩) l.c (xu _) d).mono λ _ i⟨o3,G,f,h3,a3,f3⟩=>by
    subst e;obtain⟨l3,g,u,j,hu,hR⟩:=fin (by omega) (l.re.DG (t:=CS.abort ⟨c,b,[]⟩ (CS.pB ⟨c,b,[]⟩)) rfl rfl h3 a3 f3 (qg _));exact⟨f,u,j,l3,g,hu,hR⟩
   by_cases O:(CS.node ⟨c,b,[]⟩).code<1
   .simp only[aa,bc,kh,aw,l2,l.c.bq,I,J,F,SX.pv,tG,OS,lv,R,RX,U,O];refine C3.q (ab 5 (by unfold CS.pB;rw[qv (.inl O)])) λ _ i⟨f,u,j,l3,g,hu,hR⟩=>?_;simp only[aa,bc,kh,aw,l3,g];exact go hR hu rfl rfl
   by_cases Q:6<(CS.node ⟨c,b,[]⟩).code
   .simp only[aa,bc,kh,aw,l2,l.c.bq,I,J,F,SX.pv,tG,OS,lv,R,RX,U,O,Q];refine C3.q (ab 5 (by unfold CS.pB;rw[qv (.inr Q)])) λ _ i⟨f,u,j,l3,g,hu,hR⟩=>?_;simp only[aa,bc,kh,aw,l3,g];exact go hR hu rfl rfl
   .simp only[aa,bc,kh,aw,l2,l.c.bq,I,J,F,SX.pv,tG,OS,lv,R,RX,U,O,Q];refine C3.q (ab _ (by unfold CS.pB;rw[qn (λ w=>w.elim O Q)])) λ _ i⟨f,u,j,l3,g,hu,hR⟩=>?_;simp only[aa,bc,kh,aw,l3,g];exact go hR hu rfl rfl
end
end Go.Am
namespace Go.Am
open Lang Go.Proofs
variable{M:ak}[MK M]
def xI:Op.mkMap []=B1 (.map [] 0,.map):=rfl
def Rj{H:ar}{b e n:Nat}{z l:List AV}(g:H.get b=B1 (OR z e))(c:z.length=n)(hl:l.length=n)(a:aP l=B4):∃H',Op.store n [.ptr b 0,.agg l] H=B1 (.undef,H')/\Op.av n [.ptr b 0] H'=B1 (.agg l)/\Fr (On b) H H'/\H'.get b=B1 (OR l e) :=
 ⟨_,ir g c hl a,gn (xb ..) hl,cW ..,xb ..⟩
def okB(f s o:Int):Prop:=(0<=f/\f<=16)/\(0<=s/\s<=16)/\0<=o/\o<=16
instance(f s o:Int):Decidable (okB f s o):=by unfold okB;infer_instance
def xam(b o:Nat):Op.cG 5 1 [(B1 0),(B1 1),B5] [.ptr b o,.int .i64 1,.int .i64 4]=B1 (.slice b (o+1) 3 4):=by
 rfl
def Tl{b o n c i:Nat}{k:KB}(h:i<n):Op.aN 1 [.slice b o n c,.int k (i:Int)]=B1 (.ptr b (o+i)):=by
 have a:=CW h;simp[Op.aN,eL,It (z:=(i:Int)) rfl h,elemAt,a]
def q6r{H:ar}{f s o:Int}:xz M U2 [.agg [.int .i64 f,.int .i64 s,.int .i64 o]] H λ v H'=>v=.tuple [.agg [.int .i64 0,.int .i64 f,.int .i64 s,.int .i64 o,.int .i64 (-1)],.bool (decide (okB f s o))]/\Fr Em H H':=by
 refine q0g ?_;have l1:∀b,Op.dg [.slice b 1 3 4]=B1 (.int .i64 3):=λ _=>rfl;have⟨H1,k,P,n1,R⟩:=de H (OR [.int .i64 f,.int .i64 s,.int .i64 o] Pl);have⟨d,L,D,n2,S⟩:=de H1 (OR [.int .i64 0,.int .i64 0,.int .i64 0,.int .i64 0,.int .i64 0] Jl);have⟨Hz,N,F,n3,T⟩:=de d (OR [.int .i64 0,.int .i64 0,.int .i64 0,.int .i64 0,.int .i64 0] Jl);have u:d.get H.au=B1 (OR [.int .i64 f,.int .i64 s,.int .i64 o] Pl):=(D.ah _ (by omega) id).trans R;have W:Op.ae [.ptr H.au 0] d=B1 (.int .i64 f):=xv (qt u) 0;have X:Op.ae [.ptr H.au 1] d=B1 (.int .i64 s):=xv (qt u) 1;have Y:Op.ae [.ptr H.au 2] d=B1 (.int .i64 o):=xv (qt u) 2;have K:Op.build [.int .i64 0,.int .i64 0,.int .i64 0,.int .i64 0,.int .i64 0] [(1,1),(2,1),(3,1),(4,1)] [.int .i64 f,.int .i64 s,.int .i64 o,.int .i64 (-1)]=B1 (.agg [.int .i64 0,.int .i64 f,.int .i64 s,.int .i64 o,.int .i64 (-1)]):=rfl;have⟨p,Z,l4,w,U⟩:=Rj (n:=5) (l:=[.int .i64 0,.int .i64 f,.int .i64 s,.int .i64 o,.int .i64 (-1)]) T rfl rfl rfl;have n4:=w.au;have I:Fr Em H p:=((P.em D).em F).trans w λ z(q:z=d.au)=>.inr (by omega);have z3:p.get H1.au=B1 (OR [.int .i64 0,.int .i64 0,.int .i64 0,.int .i64 0,.int .i64 0] Jl):=(w.ah _ (by omega) λ q:H1.au=d.au=>by omega).trans ((F.ah _ (by omega) id).trans S);obtain⟨J,A,y,Q,-⟩:=Rj (n:=5) (l:=[.int .i64 0,.int .i64 f,.int .i64 s,.int .i64 o,.int .i64 (-1)]) z3 rfl rfl rfl;have t:Fr Em H J:=I.trans Q λ z(q:z=H1.au)=>.inr (by omega);simp only[aa,bc,M1,<-k,<-L,<-N,W,X,Y,K,Z,xam,l1]
 let g:Nat->Int:=λ i=>if i=0 then f else if i=1 then s else o
 have a:∀i,i<3->Op.ae [.ptr d.au (1+i)] p=B1 (.int .i64 (g i)):=λ i V=>by
  rw[xv (qt U)];have:i=0\/i=1\/i=2:=by omega
  rcases this with rfl|rfl|rfl<;>rfl
 refine dA.intro (λ n E C=>∃i,C=p/\E=[(14,.slice d.au 1 3 4),(15,.int .i64 3),(16,.int .i64 (i:Nat)),(4,.ptr d.au 0),(2,.ptr H1.au 0)]/\n=3-i/\i<=3 /\ ∀j,j<i->0<=g j/\g j<=16) ?_ ?_
 .exact ⟨_,_,⟨0,rfl,rfl,rfl,by omega,λ j G=>by omega⟩,by simp only[aa,bc]⟩
 rintro n E C ⟨i,rfl,rfl,rfl,V,e⟩
 by_cases c:i<3
 .have k:(i:Int)<3:=by omega
  have O:aj .i64 ((i:Int)+1)=((i+1:Nat):Int):=by rw[jr (by omega) (by omega)];omega
  have A4:¬(0<=g i/\g i<=16)->decide (okB f s o)=false:=λ h=>by
   refine jw λ⟨m,r,h3⟩=>h ?_;have:i=0\/i=1\/i=2:=by omega
   rcases this with rfl|rfl|rfl
   .exact m
   .exact r
   .exact h3
  by_cases m:g i<0
  .simp only[aa,bc,M1,k,Tl c,a i c,m,l4,A,y];exact⟨by rw[A4 (by omega)],t⟩
  .by_cases r:16<g i
   .simp only[aa,bc,M1,k,Tl c,a i c,m,r,l4,A,y];exact⟨by rw[A4 (by omega)],t⟩
   .simp only[aa,bc,M1,k,Tl c,a i c,m,r,O];refine⟨_,_,⟨i+1,rfl,rfl,by omega,λ j G=>?_⟩,by simp only[aa,bc],by omega⟩;rcases Nat.lt_succ_iff_lt_or_eq.1 G with q|rfl
    .exact e j q
    .omega
 .have x:i=3:=by omega
  subst x;have k:¬((3:Nat):Int)<3:=by omega
  have hk:decide (okB f s o)=true:=jz ⟨e 0 (by omega),e 1 (by omega),e 2 (by omega)⟩;simp only[aa,bc,M1,k,l4,A,y];exact⟨by rw[hk],t⟩
def ZW(f s o:Int):List AV:=[.int .i64 0,.int .i64 f,.int .i64 s,.int .i64 o,.int .i64 (-1),.int .i64 0,.int .i64 0,.int .i64 0,.int .i64 0,.int .i64 0,.int .i64 0,.bool B4]
def MV(H:ar)(f s o:Int)(v:AV)(H':ar):Prop:=(okB f s o /\ ∃b,v=.tuple [.ptr b 0,.int .i64 0]/\H.au<=b/\b<H'.au/\H'.get b=B1 (OR (ZW f s o) kj))\/(¬okB f s o/\v=.tuple [.nilp,.int .i64 2])
def Θ{H:ar}{f s o:Int}:xz M X2 [.agg [.int .i64 f,.int .i64 s,.int .i64 o]] H λ v H'=>MV H f s o v H'/\Fr Em H H':=by
 refine μ ?_;have a:Fr Em H (H.alloc (OR [.int .i64 f,.int .i64 s,.int .i64 o] Pl)):=(Fr.refl H).alloc _;simp only[aa,bc,P0,Zs H [.int .i64 f,.int .i64 s,.int .i64 o] _ _ _ 3 rfl];refine C3.q (q6r) λ v h⟨u,c⟩=>?_;subst u;have e:=c.au;rw[xt]at e;have⟨w,i,r,x,t⟩:=de h (OR [.int .i64 0,.int .i64 0,.int .i64 0,.int .i64 0,.int .i64 0] Jl);obtain⟨m,k,l4,j,-⟩:=Rj (n:=5) (l:=[.int .i64 0,.int .i64 f,.int .i64 s,.int .i64 o,.int .i64 (-1)]) t rfl rfl rfl;have g:Fr Em H m:=(a.em (c.em r)).trans j λ z(q:z=h.au)=>.inr (by have:=a.au;omega);have y:=j.au;have p:Op.build [.int .i64 0,.int .i64 0,.int .i64 0,.int .i64 0,.int .i64 0,.int .i64 0,.int .i64 0,.int .i64 0,.int .i64 0,.int .i64 0,.int .i64 0,.bool B2] [(0,5),(11,1)] [.agg [.int .i64 0,.int .i64 f,.int .i64 s,.int .i64 o,.int .i64 (-1)],.bool B4]=B1 (.agg (ZW f s o)):=rfl
 by_cases hk:okB f s o
 .have d:decide (okB f s o)=true:=jz hk;simp only[aa,bc,P0,aw,d,<-i,k,l4,p];exact⟨.inl ⟨hk,_,rfl,by omega,by rw[xt];omega,xf ..⟩,g.alloc _⟩
 .have d:decide (okB f s o)=false:=jw hk;simp only[aa,bc,P0,aw,d,<-i,k];exact⟨.inr ⟨hk,rfl⟩,g⟩
def bs0(e:Nat)(zero:List AV):Op.buildSlice e 0 zero [] []=B1 (.row [] e (0,0) B4,Op.sliceTo 0 0):=rfl
def xfs(H:ar):Op.eq .slice B2 [.nils,.nils] H=B1 (.bool B4):=rfl
def zN{H:ar}{size:Nat}{v:AV}{n:Nat}{cells:List AV}(h:Sl H size v n cells)(a:v≠ .nils)(H':ar):Op.eq .slice B2 [v,.nils] H'=B1 (.bool B2):=by
 have⟨_,h⟩:=h;cases v<;>first|exact(a rfl).elim|rfl|exact h.elim
def LG{H:ar}{a:AV}{n:Nat}{cells:List AV}(ha:Sl H 5 a n cells)(d:aP cells=B4)(hl:n*40<=140737488355328){K:Bool->AV->ar->Prop}{m:Bool}
 (hk:∀g H',Own H' CE 5 g n cells->Fr Em H H'->(∀b,bm g b->H.au<=b)->K m g H'):iG m (Op.append CE 5 40 [Op.sliceTo 0 0 H.au,a] (H.alloc (.row [] CE (0,0) B4))) K:=by
 have c:Fr Em H (H.alloc (.row [] CE (0,0) B4)):=(Fr.refl H).alloc _;refine Xe (e:=CE) (n:=0) (cells:=[]) ⟨rfl,.inl ⟨rfl,.inr ⟨H.au,rfl,by rw[xt];omega⟩⟩⟩ (ha.em c) d (by omega) (by omega) (by omega) λ g i f j h=>hk g i ?_ ?_ λ b hb=>?_
 .rw [yu,jh]at f;exact f
 .exact c.trans j λ x k=>.inr (by rw[k.2];exact qg _)
 .exact (h b hb).elim (λ q=>by rw[q.2];exact qg _) λ q=>xm c.au q
def IK:Fi:=⟨Fh 8 0,0,B5⟩
def ON:So:=⟨[],[],⟨0,0,0,0⟩,B5,B2,B2,B2,0,0,0,0⟩
def q8c{H:ar}:xz M Yr [] H λ v H'=>v=.ptr H.au 0/\H'=H.alloc (OR (bX IK .nilp) Ex):=by
 refine xdv ?_;have a:Op.build [.int .u64 0,.int .u64 0,.int .u64 0,.int .u64 0,.int .u64 0,.int .u64 0,.int .u64 0,.int .u64 0,.int .i64 0,.nilp,.bool B2] [(10,1)] [.bool B4]=B1 (.agg (bX IK .nilp)):=rfl;simp only[aa,bc,υ,a]
structure Uc(H H':ar):Prop where
 n:H'.au=H.au+5
 a:H'.get H.au=B1 (.map [] 0)
 b:H'.get (H.au+1)=B1 (OR [.nils,.map H.au] FX)
 c:H'.get (H.au+2)=B1 (.map [] 0)
 d:H'.get (H.au+3)=B1 (OR [.nils,.map (H.au+2)] FX)
 e:H'.get (H.au+4)=B1 (OR [.ptr (H.au+1) 0,.ptr (H.au+3) 0] O9)
 f:Fr Em H H'
def q9x{H:ar}:xz M Vu [] H λ v H'=>v=.ptr (H.au+4) 0/\Uc H H':=by
 refine ω ?_;have a:∀b,Op.build [.nils,.kT] [(1,1)] [.map b]=B1 (.agg [.nils,.map b]):=λ _=>rfl;have c:∀x y,Op.build [.nilp,.nilp] [(0,1),(1,1)] [.ptr x 0,.ptr y 0]=B1 (.agg [.ptr x 0,.ptr y 0]):=λ _ _=>rfl;simp only[aa,bc,xgg,xI,a,c];refine⟨rfl,rfl,?_,?_,?_,?_,?_,(((((Fr.refl H).alloc _).alloc _).alloc _).alloc _).alloc _⟩
 .exact (((yv (by simp only[xt];omega) _).trans (yv (by simp only[xt];omega) _)).trans (yv (by simp only[xt];omega) _)).trans ((yv (by simp only[xt];omega) _).trans (xf ..))
 .exact ((yv (by simp only[xt];omega) _).trans (yv (by simp only[xt];omega) _)).trans ((yv (by simp only[xt];omega) _).trans (xf ..))
 .exact (yv (by simp only[xt];omega) _).trans ((yv (by simp only[xt];omega) _).trans (xf ..))
 .exact (yv (by simp only[xt];omega) _).trans (xf ..)
 .exact xf ..
def Da(o:Nat->Nat)(n:Nat)(z:Nat):Nat:=if z<n then o z else if z=n then 11 else if z=n+1 then 10 else if z=n+2 then 21 else if z=n+3 then 20 else if z=n+4 then 9 else 8
def q8k{H:ar}:xz M E3 [] H λ v H'=>v=.ptr (H.au+5) 0/\H'.au=H.au+6/\Fr Em H H' /\ ∀o,dy H' (Da o H.au) (H.au+5) ON (H.au+4) .nilf:=by
 refine xd2 ?_;have i:∀x,Op.build [.nilp,.int .i64 0,.int .i64 0,.int .u64 0,.int .u64 0,.nilf,.bool B2,.bool B2,.bool B2,.int .u64 0,.int .u64 0,.int .i64 0,.int .i64 0] [(0,1)] [.ptr x 0]=B1 (.agg (di ON x .nilf)):=λ _=>rfl;simp only[aa,bc,xd3];refine C3.q (q9x) λ v H1⟨j,L⟩=>?_;subst j;simp only[aa,bc,i];have n1:=L.n;obtain⟨h,g⟩:∃Z,Z=H1.alloc (OR (di ON (H.au+4) .nilf) xG):=⟨_,rfl⟩
 have n2:h.au=H.au+6:=by rw[g,xt,n1]
 have k:∀z,z<H1.au->h.get z=H1.get z:=λ z q=>by rw[g,yv q]
 rw[<-g];refine⟨by rw[n1],n2,L.f.em (g▸(Fr.refl H1).alloc _),λ o=>⟨⟨by rw[g,<-n1];exact xf ..,by omega⟩,⟨H.au+1,H.au+3,.nils,H.au,0,.nils,H.au+2,0,⟨by rw[k _ (by omega)];exact L.e,by omega⟩,?_,⟨⟨by rw[k _ (by omega)];exact L.b,by omega⟩,Own.nil ..,by rw[k _ (by omega)];exact L.a,by omega,xu _,?_,?_,λ z q=>(q.1 rfl).elim⟩,⟨⟨by rw[k _ (by omega)];exact L.d,by omega⟩,Own.nil ..,by rw[k _ (by omega)];exact L.c,by omega,xu _,?_,?_,λ z q=>(q.1 rfl).elim⟩⟩,rfl,?_,rfl,bI,λ y w=>(List.not_mem_nil w).elim,bI⟩⟩
 all_goals (unfold Da;simp<;>(intro;omega))
end Go.Am
namespace Go.Am
open Lang Go.Proofs
variable{M:ak}[MK M]
def Y6:∀(code:List iq),aP (code.flatMap fX)=B4
 |[]=>rfl
 |i::l=>by rw[jv,ym,List.all_append,<-ym,<-ym,Y6 l];rfl
def n_{H:ar}{a:AV}{code:List iq}(ha:eS fX 5 H a code)(hl:code.length<=1000000):xz M WV [a] H λ v H'=>aC v=B4/\eS fX 5 H' v code/\(code≠[]->H.au<=aG v/\aG v<H'.au)/\Fr Em H H':=by
 refine qk0 ?_
 by_cases hn:a=.nils
 .subst hn;simp only[aa,bc,f0,xfs];have:code.length=0:=by
   have:=ha.len;have q:Op.dg [AV.nils]=B1 (.int .i64 0):=rfl;rw[q]at this;injection this with this;injection this with _ this;omega
  exact⟨rfl,ha,λ q=>(q (j6.1 this)).elim,Fr.refl _⟩
 .simp only[aa,bc,f0,zN ha hn,bs0];refine LG ha (Y6 code) (by omega) λ h f c g e=>?_;simp only[aa,bc];have d:bU fX CE 5 f h code:=c;exact⟨Sl.one c.sl,bU.sl d,λ q=>⟨e _ (uc d q),Own.lt d _ (uc d q)⟩,g⟩
def Pn(id:Int)(n:Nat)(f s o ln:Int):Prop:=okB f s o/\0<=id/\id<4/\n<=1024/\2<=ln/\ln<=64
instance(id:Int)(n:Nat)(f s o ln:Int):Decidable (Pn id n f s o ln):=by unfold Pn;infer_instance
def FG(id ln:Int)(code:List iq)(f s o:Int):Co:=⟨id,ln,code,IK,⟨[0,f,s,o,-1],0,La.gR⟩,ON,0,gw,0,[],0,B2,B2,B2,0,0,B2,B2⟩
def U7(H:ar)(c:Co)(v:AV)(H':ar):Prop:=∃p f l sp cv,v=.tuple [.ptr p 0,.int .i64 0]/\H.au<=p /\ ∀o:Nat->Nat,∃o',(∀z,z<H.au->o' z=o z)/\dG H' o' p f l sp cv .nils .nils .nili c [] 0
def VP(ok:Prop)(H:ar)(c:Co)(v:AV)(H':ar):Prop:=(ok/\U7 H c v H')\/(¬ok/\v=.tuple [.nilp,.int .i64 2])
def q6z{H:ar}{id ln f s o:Int}{a:AV}{code:List iq}(ha:eS fX 5 H a code) :
 xz M lx [.int .i64 id,a,.agg [.int .i64 f,.int .i64 s,.int .i64 o],.int .i64 ln] H λ v H'=>VP (Pn id code.length f s o ln) H (FG id ln code f s o) v H'/\Fr Em H H':=by
 refine Q_ ?_;have L:Fr Em H (H.alloc (OR [.int .i64 f,.int .i64 s,.int .i64 o] Pl)):=(Fr.refl H).alloc _;simp only[aa,bc,Fc,Zs H [.int .i64 f,.int .i64 s,.int .i64 o] _ _ _ 3 rfl];refine C3.q (Θ) λ v S⟨Z,A⟩=>?_;have c:=L.em A;rcases Z with⟨hk,l,rfl,l1,l2,l3⟩|⟨hk,rfl⟩
 .by_cases t:id<0
  .simp only[aa,bc,Fc,xc,t];exact⟨.inr ⟨λ⟨_,q,_⟩=>by omega,rfl⟩,c⟩
  by_cases u:4<=id
  .simp only[aa,bc,Fc,xc,t,u];exact⟨.inr ⟨λ⟨_,_,q,_⟩=>by omega,rfl⟩,c⟩
  by_cases E:(1024:Int)<(code.length:Nat)
  .simp only[aa,bc,Fc,xc,t,u,ha.len,E];exact⟨.inr ⟨λ⟨_,_,_,q,_⟩=>by omega,rfl⟩,c⟩
  by_cases I:ln<2
  .simp only[aa,bc,Fc,xc,t,u,ha.len,E,I];exact⟨.inr ⟨λ⟨_,_,_,_,q,_⟩=>by omega,rfl⟩,c⟩
  by_cases c5:64<ln
  .simp only[aa,bc,Fc,xc,t,u,ha.len,E,I,c5];exact⟨.inr ⟨λ⟨_,_,_,_,_,q⟩=>by omega,rfl⟩,c⟩
  simp only[aa,bc,Fc,xc,t,u,ha.len,E,I,c5];refine C3.q (n_ (ha.em c) (by omega)) λ cv g⟨p,K,J,m⟩=>?_;refine C3.q (q8c) λ v d⟨R,k⟩=>?_;subst R;have n:Fr Em g d:=by rw[k];exact(Fr.refl g).alloc _
  have N:d.get g.au=B1 (OR (bX IK .nilp) Ex):=by rw[k];exact xf ..
  have X:d.au=g.au+1:=by rw[k];rfl
  simp only[aa,bc];refine C3.q (q8k) λ v G⟨R,Y,h,Q⟩=>?_;subst R;have P:=A.au;rw[xt]at P l1;have W:=m.au;have U:Op.build [.int .i64 0,.int .i64 0,.nils,.nilp,.nilp,.nilp,.int .i64 0,.int .i64 0,.int .i64 0,.int .i64 0,.int .u64 0,.int .u64 0,.int .u64 0,.nils,.int .i64 0,.bool B2,.bool B2,.bool B2,.int .i64 0,.int .i64 0,.bool B2,.bool B2,.nils,.nili] [(0,1),(1,1),(2,1),(3,1),(4,1),(5,1)] [.int .i64 id,.int .i64 ln,cv,.ptr g.au 0,.ptr l 0,.ptr (d.au+5) 0]=B1 (.agg (cj (FG id ln code f s o) g.au l (d.au+5) cv .nils .nils .nili)):=by
   cases cv<;>first|rfl|cases p
  simp only[aa,bc,U];obtain⟨H6,T,e,n6,-⟩:=de G (OR (cj (FG id ln code f s o) g.au l (d.au+5) cv .nils .nils .nili) D3);rw[<-T];have fin:=(((c.em m).em n).em h).em e;refine⟨.inl ⟨⟨hk,by omega,by omega,by omega,by omega,by omega⟩,G.au,g.au,l,d.au+5,cv,rfl,by omega,λ o0=>?_⟩,fin⟩;obtain⟨C,j⟩:∃C,C=bw (bw (bw o0 H.au 3) S.au 7) g.au 2:=⟨_,rfl⟩
  obtain⟨F,r⟩:∃F,F=bw (Da C d.au) G.au 1:=⟨_,rfl⟩
  have D:∀z,z<d.au->F z=C z:=λ z q=>by rw[r,vx (by omega)];unfold Da;rw[qv q]
  refine⟨F,λ z q=>by rw[D z (by omega),j,vx (by omega),vx (by omega),vx q],?_⟩;have O:jX S l ⟨[0,f,s,o,-1],0,La.gR⟩:=⟨⟨rfl,rfl,vE _,(show(0:Int)<=4 by decide),(show(-1:Int)≠0 by decide)⟩,l3,l2⟩
  have V:At d g.au Ex (bX IK .nilp):=⟨N,by omega⟩
  refine⟨⟨by rw[T];exact xf ..,by omega⟩,⟨⟨by simp[FG,IK],λ v q=>by rw[jo q];exact bI,vE _⟩,.nilp,(V.em h).em e,rfl⟩,((O.em m).em n |>.em h).em e,⟨d.au+4,.nilf,(Q C).fr e (λ _ _ _ q=>q) λ z q=>by rw[r];exact vx q⟩,((K.em n).em h).em e,Own.nil ..,Own.nil ..,?_,?_,?_,λ z q=>(q.1 rfl).elim,λ z q=>(q.1 rfl).elim,λ q=>?_,rfl,⟨by show 0<=id;omega,by show 2<=ln;omega,by show ln<=64;omega,by show code.length<=1024;omega,λ y w=>(List.not_mem_nil w).elim,xu _,vE _,bI,λ i x w=>by simp[FG]at w⟩⟩
  .rw [r];exact mG (qg _)
  .rw [D _ (by omega),j];exact mG (qg _)
  .rw [D _ (by omega),j,vx (by omega),vx (by omega)];exact mG (by omega)
  .have ⟨q1,q2⟩:=J q;exact⟨by omega,by rw[D _ (by omega),j,vx q2];exact mG q1⟩
 .simp only[aa,bc,Fc,xc];exact⟨.inr ⟨λ q=>hk q.1,rfl⟩,c⟩
end Go.Am
namespace Go.Am
open Go.Proofs Ca
variable{M:ak}[MK M]
section
variable{H0 H:ar}{B:Nat}{s:Bs}{b:Bu}{own:Nat->Nat}
def fK.jP(h:fK H0 H B s b own){ws:List L8}{H':ar}(hm:wK H' s.mp s.lv ws)(hl:ws.length=b.m.length)(f:Fr (On (aG s.lv)) H H'):fK H0 H' B s {b with m:=ws} own:=by
 have j:s.dw (aG s.lv):=.inr (.inr (.inl rfl));have o1:=h.oD _ j;have g:∀{z k:Nat},own z=k->k≠1 -> ¬On (aG s.lv) z:=λ e1 e2(q:_=aG s.lv)=>e2 (by rw[<-e1,q];exact o1);have p:H0.au<=aG s.lv:=h.lo _ (.inr (.inl j));refine⟨by rw[f.ah _ h.lt (g h.oB (by decide))];exact h.row,qj h.lt f.au,⟨?_,qj h.d.lt f.au,hm,h.d.es.fr f λ(q:_=_)=>h.d.d1.2.2.2.2 q.symm,λ i x a o=>(h.d.wt i x a o).fr f λ z e(q:z=_)=>(h.d.d2 i x a o z e).2.2.1 q,h.d.d1,h.d.d2,h.d.d3,h.d.len.trans hl.symm⟩,h.dx,Own.fr h.nv f λ z e=>g (h.oN z e) (by decide),λ c n A hn l=>(h.no c n A hn l).off f λ z(q:z=_)=>⟨by rw[q];exact p,λ w=>g (h.oC c A l z w) (by omega) q⟩,h.al,h.fl.fr f λ z e=>g (h.oF z e) (by decide),h.oB,h.oD,h.oN,h.oF,h.oC,h.lo⟩;rw[f.ah _ h.d.lt λ q=>h.d.d1.2.1 q];exact h.d.row
end
def jP(m:List L8):List L8->Nat->List L8
 |[],_=>m
 |x::r,i=>jP (m.set i x) r (i+1)
def PQ:∀(fs:List L8)(m:List L8)(i:Nat),(jP m fs i).length=m.length
 |[],m,i=>rfl
 |x::r,m,i=>by unfold jP;rw[PQ r];exact xw
def YJ:∀(fs:List L8)(m:List L8)(j i:Nat){x:L8},fs[i]? = B1 x->jP m (fs.take (i+1)) j=(jP m (fs.take i) j).set (j+i) x
 |y::r,m,j,0,x,h=>by cases h;rfl
 |y::r,m,j,i+1,x,h=>by
  show jP (m.set j y) (r.take (i+1)) (j+1)=(jP (m.set j y) (r.take i) (j+1)).set (j+(i+1)) x;rw[YJ r _ (j+1) i (show r[i]? = B1 x from h),show j+1+i=j+(i+1)by omega]
def jR(l c s w:Int)(fs:List L8):Bu:={fC l c s w with m:=jP (fC l c s w).m fs 0}
def q9d{H:ar}{D mp:Nat}{lv ev:AV}{N:Int}{ws:List L8}{xs:List (De×AV)}(h:lj H D mp lv ev N ws xs){n:Int}(f:0<=n)(g:n<ws.length)(x:L8):xz M Ww [.ptr D 0,.int .i64 n,.agg (dO x)] H λ v H'=>wK H' mp lv (ws.set n.toNat x)/\Fr (On (aG lv)) H H':=by
 refine q4r ?_;obtain⟨H1,c,a,-,e⟩:=de H (OR (dO x) js);have ln:=gn e (yp x);have l0:Op.ae [.ptr D 0] H1=B1 (.ptr mp 0):=by rw[xv (qt (h.em a).row)];rfl
 simp only[aa,bc,q4s,<-c,kw,qk,l0,ln];refine C3.q (Ri (h.em a).me f g x) λ v j⟨i,hm,d⟩=>?_;subst i;simp only[aa,bc];exact⟨hm,(a.mono λ _ _ q=>q.elim).trans d λ z q=>.inl q⟩
def Dx(H:ar)(l c s w:Int)(fs:List L8)(v:AV)(H':ar):Prop:=(¬(pZ l c s w/\(fs.length:Int)<=l)/\v=.tuple [.nilp,.int .i64 2]/\Fr Em H H')\/(pZ l c s w/\(fs.length:Int)<=l) /\ ∃B bs own,v=.tuple [.ptr B 0,.int .i64 0]/\fK H H' B bs (jR l c s w fs) own/\Fr Em H H'
def t_{H:ar}(l c s w:Int){fv:AV}{fs:List L8}(hF:eS dO 8 H fv fs)(hfb:fs≠[]->aG fv<H.au):xz M TJ [.agg (iz l c s w),fv] H (Dx H l c s w fs):=by
 refine xe3 ?_;obtain⟨w0,w4,w12,w14,w41,R,w58,w46,w25,-,w40,S,-,w39⟩:=OB M ⟨B5,TJ⟩;have⟨H1,e1,Y,n1,g1⟩:=de H (OR (iz l c s w) Js);have ls:∀{o:ar}(k:Nat),Fr Em H1 o->Op.ae [.ptr H.au k] o=(iz l c s w)[k]?:=λ k f=>xv (qt (by rw[f.ah _ (by omega) id];exact g1)) k;have l0:Op.ae [.ptr H.au 0] H1=B1 (.int .i64 l):=ls 0 (Fr.refl _);have l1:Op.ae [.ptr H.au 1] H1=B1 (.int .i64 c):=ls 1 (Fr.refl _);simp only[aa,bc,w0,<-e1,l0,l1];refine C3.q (q9c l c) λ v j⟨F,hv⟩=>?_;rcases hv with⟨U,rfl⟩|⟨U,D,mp,lv,ev,rfl,dr,lod⟩
 .have t2:¬(2:Int)=0:=by decide
  simp only[aa,bc,xc,w4,t2];exact .inl ⟨λ q=>U q.1.1,rfl,Y.trans F λ _ q=>.inl q⟩
 have t0:=qr (show(0:Int)=0 from rfl);have hd':=U;have⟨⟨m1,m2⟩,T,c2⟩:=hd';have P:Op.ae [.ptr H.au 0] j=B1 (.int .i64 l):=ls 0 F;have t:=hF.len
 by_cases qf:l<((fs.length:Nat):Int)
 .simp only[aa,bc,xc,w4,t,P,qr qf];exact .inl ⟨λ q=>by have:=q.2;omega,rfl,Y.trans F λ _ q=>.inl q⟩
 have q0:=qf;have bd:Op.build [.nilp,.nils,.nils,.int .i64 0] [(0,1),(3,1)] [.ptr D 0,.int .i64 l]=B1 (.agg [.ptr D 0,.nils,.nils,.int .i64 l]):=rfl;have⟨C,e3,f3,n3,g3⟩:=de j (OR [.ptr D 0,.nils,.nils,.int .i64 l] Iw);have p:Fr Em H1 C:=F.trans f3 λ _ q=>q.elim;have pQ:Op.ae [.ptr H.au 1] C=B1 (.int .i64 c):=ls 1 p;have m12:=F.au;have d3:=dr.em f3;have i3:Iq H C j.au D mp lv ev .nils l c s w [] (λ z=>if z=j.au then 0 else 1) :=
  ⟨g3,by omega,d3,Own.nil ..,λ k A hA=>by simp at hA,qv rfl,λ z h=>by rw[qn (by have:=dr.low h;omega)],λ z h=>absurd rfl h.1,λ k A hA=>by simp at hA,by omega,λ z h=>by have:=lod z h;omega,λ z h=>absurd rfl h.1,Y.trans p λ _ q=>q.elim⟩
 simp only[aa,bc,xc,w4,t,P,q0,w12,bd,<-e3,w14,pQ];obtain⟨a,rfl⟩:=jk (show 0<=c by omega)
 -- what the loop leaves of the message's box
 refine dA.intro (λ k E o=>∃(ad:List Na)(nv:AV)(own:Nat->Nat),E=[(38,.int .i64 (ad.length:Int)),(37,.int .i64 ((a:Nat):Int)),(2,.ptr H.au 0),(8,.ptr j.au 0),(1,fv),(6,.ptr D 0)]/\k=a-ad.length/\ad.length<=a/\Iq H o j.au D mp lv ev nv l a s w ad own/\(0<ad.length->qE s w)/\o.get H.au=B1 (OR (iz l a s w) Js)/\C.au<=o.au /\ ∀z,bm nv z->C.au<=z) ?_ ?_
 .exact ⟨_,_,⟨[],.nils,_,rfl,rfl,xu _,i3,λ q=>absurd q (by simp),by rw[p.ah _ (by omega) id];exact g1,qg _,λ z h=>absurd rfl h.1⟩,by simp only[aa,bc];rfl⟩
 rintro k E o ⟨ad,nv,own,rfl,rfl,hi,hI,hok,hg,O,N⟩;rcases xp ad.length a with K|hge
 .have q1:(ad.length:Int)<((a:Nat):Int):=by omega
  have ldS:=gn (e:=Js) hg (show(iz l (a:Int) s w).length=4 from rfl);simp only[aa,bc,R,q1,w25,ldS];refine C3.q (q7z (ad.length:Int) l (a:Int) s w) λ v Ha hv=>?_;rcases hv with⟨u,rfl,fa⟩|⟨u,r,b,sv,rfl,L⟩
  .have t2:¬(2:Int)=0:=by decide
   simp only[aa,bc,xc,S,t2];refine .inl ⟨λ q=>u ⟨q.1.2,by omega,by omega,by omega,m1,m2⟩,rfl,hI.fr.trans fa λ _ q=>.inl q⟩
  .have lB:Op.ae [.ptr j.au 1] Ha=B1 nv:=by
    have fa:=L.bk.fr;rw[xv (qt (by rw[fa.ah _ hI.lt id];exact hI.row))];rfl
   have wj:aj .i64 ((ad.length:Int)+1)=((ad.length+1:Nat):Int):=by rw[jr (by omega) (by omega)];omega
   simp only[aa,bc,xc,S,w39,qk,lB];refine hI.step (by omega) (A:=⟨r,b,sv,.nils,[]⟩) L λ v2 Hb⟨Hc,sc,⟨Q,hc⟩,fc,oc⟩=>?_;have hgc:Hc.get H.au=B1 (OR (iz l (a:Int) s w) Js):=by
    rw[fc.ah _ (by omega) (λ q=>q.elim (λ q=>by omega) λ q=>by have:=N _ q;omega)];exact hg
   simp only[aa,bc,sc,w40,wj];refine⟨_,_,⟨ad ++ [⟨r,b,sv,.nils,[]⟩],v2,Q,rfl,rfl,by rw[xk];simp;omega,hc,λ _=>u.1,hgc,xm O fc.au,λ z h=>(oc z h).elim (N z) λ q=>xm O q⟩,by simp only[aa,bc,xk,zy,j7],by rw[xk];simp;omega⟩
 .have hiw:ad.length=a:=by omega
  have q1:¬(ad.length:Int)<((a:Nat):Int):=by omega
  have y:=hI.done (by omega) (by omega) (by omega);have G:=hI.fr;have hfl:(fs.length:Int)<=l:=by omega
  have ml:(fC l (a:Int) s w).m.length=l.toNat:=by show(Fh l.toNat _).length=_;rw[zt]
  simp only[aa,bc,R,q1,w41,t];refine dA.intro (λ k E g=>∃i:Nat,E=[(62,.int .i64 (i:Int)),(61,.int .i64 ((fs.length:Nat):Int)),(60,fv),(8,.ptr j.au 0),(6,.ptr D 0)]/\k=fs.length-i/\i<=fs.length/\fK H g j.au ⟨D,mp,lv,ev,Fh l.toNat (gV,.nils),nv,.nils,ad⟩ {fC l (a:Int) s w with m:=jP (fC l (a:Int) s w).m (fs.take i) 0} own/\Fr Em H g) ?_ ?_
  .exact ⟨_,_,⟨0,rfl,rfl,xu _,y,G⟩,by simp only[aa,bc]⟩
  rintro k E g ⟨i,rfl,rfl,hi,y,G⟩;rcases xp i fs.length with K|hge
  .have T:(i:Int)<((fs.length:Nat):Int):=by omega
   obtain⟨x,hx⟩:∃x,fs[i]? = B1 x:=⟨_,xj K⟩
   have sl:eS dO 8 g fv fs:=Sl.em hF G;have ix:=sl.idx hx (z:=(i:Int)) rfl .i64;have ld:=sl.av yp (by decide) hx;obtain⟨V,X⟩:∃Z,Z=(g.alloc (OR [.int .u64 0,.int .u64 0,.int .u64 0,.int .u64 0,.int .u64 0,.int .u64 0,.int .u64 0,.int .u64 0] js)).set g.au (OR (dO x) js):=⟨_,rfl⟩
   have st:Op.store 8 [.ptr g.au 0,.agg (dO x)] (g.alloc (OR [.int .u64 0,.int .u64 0,.int .u64 0,.int .u64 0,.int .u64 0,.int .u64 0,.int .u64 0,.int .u64 0] js))=B1 (.undef,V):=by
    rw[X];exact ir (xf g _) rfl (yp x) (vN x)
   have fz:Fr Em g V:=by rw[X];exact((Fr.refl g).alloc _).set (.inr (qg _)) _
   have gz:V.get g.au=B1 (OR (dO x) js):=by rw[X,xb]
   have lz:=gn gz (yp x);have I:=y.em fz;have wj:aj .i64 ((i:Int)+1)=((i+1:Nat):Int):=by rw[jr (by omega) (by omega)];omega
   have sml:(jP (fC l (a:Int) s w).m (fs.take i) 0).length=l.toNat:=by rw[PQ,ml]
   simp only[aa,bc,OB,T,ix,ld,st,lz];refine C3.q (q9d I.d (n:=(i:Int)) (by omega) (by show(i:Int)<((jP (fC l (a:Int) s w).m (fs.take i) 0).length:Int);rw[sml];omega) x) λ v Hw⟨hm,fw⟩=>?_;simp only[aa,bc,OB,wj];have lz':H.au<=aG lv:=y.lo _ (.inr (.inl (.inr (.inr (.inl rfl)))));rw[IJ]at hm;have W:jP (fC l (a:Int) s w).m (fs.take (i+1)) 0=(jP (fC l (a:Int) s w).m (fs.take i) 0).set i x:=by rw[YJ fs _ 0 i hx,yu]
   have hB2:=I.jP hm (by rw[xw]) fw;refine⟨_,_,⟨i+1,rfl,rfl,by omega,by rw[W];exact hB2,(G.em fz).trans fw λ z(q:z=aG lv)=>.inr (by rw[q];exact lz')⟩,by simp only[aa,bc],by omega⟩
  .have J:i=fs.length:=by omega
   have T:¬(i:Int)<((fs.length:Nat):Int):=by omega
   simp only[aa,bc,OB,T];rw[J,List.take_length]at y;exact .inr ⟨⟨⟨U,hok (by omega)⟩,hfl⟩,_,_,own,rfl,y,G⟩
def xe1{l c s w:Int}(fs:List L8){V:Int->L8}(h:pZ l c s w):BuI (jR l c s w fs) V:=u6 h (by show(jP (Fh l.toNat L8.zero) fs 0).length=_;rw[PQ,zt])
def xe0{l c s w:Int}{fs:List L8}:BC (jR l c s w fs) 0:=by
 have h:=ag0 (l:=l) (c:=c) (s:=s) (w:=w);exact⟨h.fl,h.no,h.wt⟩
def AX:∀(fs m:List L8)(i:Nat),(∀x∈m,x.u)->(∀x∈fs,x.u) -> ∀x∈jP m fs i,x.u
 |[],m,i,hm,_=>hm
 |y::r,m,i,hm,hf=>by
  unfold jP;exact AX r _ _ (λ x q=>(uy q).elim (hm x) λ e=>e▸hf y (yd ..)) λ x q=>hf x (List.mem_cons_of_mem _ q)
def xe2{l c s w:Int}{fs:List L8}(a:∀x∈fs,x.u):wM (jR l c s w fs):=by
 refine⟨AX fs _ 0 (λ x q=>?_) a,λ n q=>?_,.nil⟩
 .rw [jo (show x∈Fh l.toNat L8.zero from q)];exact L8.gQ
 .obtain ⟨k,hk,rfl⟩:=CD.1 (show n∈nq l s w c.toNat from q);intro e he;rw[jo (show e∈Fh (s.toNat*w.toNat) En.zero from he)];exact En.mO
end Go.Am
namespace Go.Am
open Lang Go.Proofs
structure Ck where
 p:Nat
 f:Nat
 l:Nat
 sp:Nat
 cv:AV
 rv:AV
 o:Nat->Nat
def Ck.at(A:Ck)(Hb H:ar)(B:Nat)(bs:Bs)(k:Nat):SX:=⟨H,A.o,iV B bs,A.p,A.f,A.l,A.sp,B,A.cv,Hb,k⟩
def EC(b:Bu)(i:Nat):(b.pK i).ns.length=b.ns.length:=by
 unfold Bu.pK
 repeat' split
 all_goals first|rfl|exact xw
def af3(b:Bu)(t:Bt):(b.step t).ns.length=b.ns.length:=by
 unfold Bu.step
 repeat' split
 all_goals first|rfl|exact EC _ _|exact xw
def ar.low(H:ar)(n:Nat):ar:=⟨H.t,n⟩
end Go.Am
namespace Go.Am
open Lang
def XF(b:Bu):Nat×Nat:=(b.ns.length,b.l.length)
structure KN(s t:CS):Prop where
 id:t.c.id=s.c.id
 ns:XF t.b=XF s.b
 cd:t.c.code=s.c.code
 ln:t.c.lines=s.c.lines
def KN.nl{s t:CS}(h:KN s t):t.b.ns.length=s.b.ns.length:=congrArg Prod.fst h.ns
def KN.ll{s t:CS}(h:KN s t):t.b.l.length=s.b.l.length:=congrArg Prod.snd h.ns
namespace CS
theorem KN.trans{s t u:CS}(h:KN s t)(a:KN t u):KN s u:=⟨a.id.trans h.id,a.ns.trans h.ns,a.cd.trans h.cd,a.ln.trans h.ln⟩
def q9u(s:CS):KN s s.az:=by unfold az;simp only;split<;>exact⟨rfl,rfl,rfl,rfl⟩
end CS
end Go.Am
namespace Go.Am
open Lang
def OL(n:Nat)(s t:CS):Prop:=∃l,t.o=s.o++l/\l.length<=n /\ ∀e∈l,e.core=s.c.id
def OL.same{n:Nat}{s t:CS}(e:t.o=s.o):OL n s t:=⟨[],by rw[e,zu],xu _,λ _ h=>by cases h⟩
def OL.one{n:Nat}{s t:CS}{x:iW}(e:t.o=s.o ++ [x])(h:x.core=s.c.id):OL (n+1) s t:=⟨[x],e,by rw[List.length_singleton];omega,λ y q=>by rw[z4.1 q];exact h⟩
def OL.of{n:Nat}{s t u:CS}(h:OL n s t)(e:u.o=t.o):OL n s u:=by unfold OL at *;rw[e];exact h
def OL.le{n m:Nat}{s t:CS}(h:OL n s t)(q:n<=m):OL m s t:=by have⟨l,a,b,c⟩:=h;exact⟨l,a,xm b q,c⟩
theorem OL.trans{n m:Nat}{s t u:CS}(h:OL n s t)(g:OL m t u)(i:t.c.id=s.c.id):OL (n+m) s u:=by
 have⟨l,a,b,c⟩:=h;have⟨j,d,k,f⟩:=g;exact⟨l++j,by rw[d,a,yo],by rw[xk];omega,λ e q=>(zr.1 q).elim (c e) λ q=>(f e q).trans i⟩
namespace CS
def CN(c:Co)(k a v d:Int):(uO c k a v d).core=c.id:=by unfold uO;split<;>rfl
def ZX(s:CS):OL 1 s s.az:=by unfold az;simp only;split;exact OL.same rfl;exact OL.one rfl (CN ..)
def NG(s:CS):OL 1 s s.dk:=(ZX s).of rfl
def WD(s:CS):OL 1 s s.breaks:=OL.one rfl (CN ..)
def xgs(s:CS):OL 1 s s.cz:=by
 unfold cz
 repeat' split
 all_goals first|exact OL.same rfl|exact OL.one rfl (CN ..)
def DE(s:CS)(f:lW)(a:Int):OL 1 s (s.kC f a):=by
 unfold kC;simp only
 repeat' split
 all_goals first|exact OL.same rfl|exact OL.one rfl (CN ..)
def af6(s:CS)(f:lW)(a:Int):OL 1 s (s.gU f a):=by
 unfold gU;simp only
 repeat' split
 all_goals first|exact OL.same rfl|exact OL.one rfl (CN ..)
def GR(s:CS):OL 1 s s.ends:=by
 unfold ends;simp only
 repeat' split
 all_goals first|exact OL.same rfl|exact NG _
def EJ(s:CS):OL 1 s s.mj:=by
 unfold mj;simp only
 repeat' split
 all_goals first|exact OL.same rfl|exact xgs s|exact DE s _ _|exact af6 s _ _|exact GR s
def Cp(s:CS):OL 1 s s.iH:=by
 unfold iH;simp only
 repeat' split
 all_goals exact OL.one rfl (CN ..)
def D6(s:CS):OL 1 s s.rY:=by
 unfold rY;simp only
 repeat' split
 all_goals first|exact OL.same rfl|exact OL.one rfl (CN ..)
def yC(s:CS):OL 1 s s.gB:=by
 unfold gB
 repeat' split
 all_goals first|exact OL.same rfl|exact OL.one rfl (CN ..)|exact NG s|exact WD s
def eE{p:Prop}[Decidable p]{n:Nat}{s a b:CS}(c:OL n s a)(d:OL n s b):OL n s (if p then a else b):=by split;exact c;exact d
def LR(s:CS)(v:Int)(q:Bool):OL 3 s (s.mC v q):=by
 unfold mC;simp only;have a:OL 0 s {s with c:={s.c with so:=s.c.so.gf v q}}:=OL.same rfl;have it:({s with c:={s.c with so:=s.c.so.gf v q}}:CS).c.id=s.c.id:=rfl;generalize({s with c:={s.c with so:=s.c.so.gf v q}}:CS)=t at *;have hu:OL 1 s (if s.c.so.aI=B4/\(s.c.so.gf v q).aI=B2 then t.az else t):=eE (a.trans (ZX _) it) (a.le (by decide));have b:(if s.c.so.aI=B4/\(s.c.so.gf v q).aI=B2 then t.az else t).c.id=s.c.id:=by split;exact(q9u t).id.trans it;exact it
 generalize(if s.c.so.aI=B4/\(s.c.so.gf v q).aI=B2 then t.az else t)=u at *;have hw:OL 2 s (if s.c.so.points<u.c.so.points then u.tell 4 0 0 0 else u):=eE (hu.trans (OL.one (n:=0) rfl (CN ..)) b) (hu.le (by decide));have d:(if s.c.so.points<u.c.so.points then u.tell 4 0 0 0 else u).c.id=s.c.id:=by split<;>exact b
 generalize(if s.c.so.points<u.c.so.points then u.tell 4 0 0 0 else u)=w at *;exact eE (hw.le (by decide)) (hw.trans (yC _) d)
def DT(s:CS)(v:Int)(q:Bool):OL 3 s (s.given v q):=by
 rw[Y7];exact LR {s with c:={s.c with held:=s.c.held ||q && decide (s.c.so.want.a=0)}} v q
def Ew(s:CS):OL 3 s s.sm:=by
 unfold sm;simp only
 repeat' split
 all_goals first|exact OL.same rfl|exact DT (s.lI _ _ _ _) _ _
def DM(s:CS):OL 1 s s.aR:=by
 unfold aR kE;simp only
 repeat' split
 all_goals first|exact OL.same rfl|exact NG (s.lI _ _ _ _)
def xdn(s:CS)(n:Int):OL 1 s (s.kE (·.ph n)):=by
 unfold kE;exact eE (OL.same rfl) (OL.same rfl)
def _Q(s:CS):OL 1 s (s.kE breaks):=by
 unfold kE;exact eE (WD (s.lI 1 0 (aj .u64 (s.c.seq+2)) 0)) (OL.same rfl)
def KO(s:CS):OL 3 s s.act:=by
 unfold act;have d:∀{t:CS},OL 1 s t->OL 3 s t:=λ h=>h.le (by decide);refine eE (d (EJ s)) (eE (d (Cp s)) (eE ?_ (eE ?_ (eE ?_ (eE (d (D6 s)) (eE (Ew s) (eE (d (xdn s 8)) (eE (d (NG (s.lI 4 0 0 0))) (eE (d (DM s)) (eE (d (_Q s)) (OL.same rfl)))))))))))
 .exact eE (eE (OL.same rfl) (OL.same rfl)) (OL.same rfl)
 .exact eE (eE (OL.same rfl) (OL.same rfl)) (OL.same rfl)
 .exact eE (OL.same rfl) (OL.same rfl)
def HT(s:CS):OL 3 s s.step.1:=by
 unfold step;split
 .exact OL.same rfl
 split
 .exact OL.same rfl
 split
 .exact OL.one rfl (CN ..)
 .exact KO s
end CS
end Go.Am
