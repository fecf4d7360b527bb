/- LqM2: StB StC. -/
import Derived.Test.YtbimikjajohflaaGreatDoorAmMLqM1
import Derived.Test.YtbimikjajohflaaGreatDoorAmMLqM0
set_option linter.unusedVariables false
set_option linter.unusedSimpArgs false
set_option linter.unusedSectionVars false
set_option maxRecDepth 100000
open Nat (reduceEqDiff)
namespace Go.Am
open Go.Proofs
variable {M:aO} [MK M]
structure eS (H0 H:AHeap) (v:AV) (xs:List UInt8):Prop where
 own:(v=.nils/\xs=[]) \/ ∃ d fz,v=.gslice d 0 xs.length 1 0 xs.length/\d<H.next/\H0.next<=d/\H.get d=some (.grown xs.length 1 (xs.flatMap np) ph fz)/\fz.2<=xs.length/\fz.1=0
 fr:Fr Em H0 H
section
variable {H0 H H':AHeap} {v:AV} {xs:List UInt8}
theorem eS.nil (f:Fr Em H0 H):eS H0 H .nils []:=⟨.inl ⟨rfl,rfl⟩,f⟩
theorem eS.on (h:eS H0 H v xs):∀ x,bL v x->H0.next<=x/\x<H.next:=by
 rintro x ⟨h1,rfl⟩;rcases h.own with ⟨rfl,_⟩|⟨d,fz,rfl,q1,q2,_⟩
 ·exact (h1 rfl).elim
 ·exact ⟨q2,q1⟩
theorem eS.Ht {W:Nat->Prop} (h:eS H0 H v xs) (f:Fr W H H') (f0:Fr Em H0 H') (hw:∀ x,bL v x -> ¬ W x):eS H0 H' v xs:=by
 refine ⟨?_,f0⟩;rcases h.own with q|⟨d,fz,rfl,q1,q2,q3,q4⟩
 ·exact .inl q
 ·exact .inr ⟨d,fz,rfl,qe q1 f.next,q2,by rw [f.aj d q1 (hw d ⟨by simp,rfl⟩)];exact q3,q4⟩
theorem eS.em (h:eS H0 H v xs) (f:Fr Em H H'):eS H0 H' v xs:=h.Ht f (h.fr.em f) λ _ _ q=>q
theorem eS.gT (h:eS H0 H v xs) {b:Nat} (hb:H0.next<=b) (hn:¬ bL v b) (o:bg):eS H0 (H.set b o) v xs :=
 h.Ht ((Fr.refl H).set (W:=On b) (.inl rfl) o) (h.fr.set (.inr hb) _) λ x hx (q:x=b)=>hn (by rw [<-q];exact hx)
theorem eS.one (h:eS H0 H v xs):aD v=true:=by
 rcases h.own with ⟨rfl,_⟩|⟨d,fz,rfl,_⟩<;>rfl
theorem eS.len (h:eS H0 H v xs):Op.aS [v]=some (.int .i64 (xs.length:Nat)):=by
 rcases h.own with ⟨rfl,rfl⟩|⟨d,fz,rfl,_⟩<;>rfl
theorem eS.app (h:eS H0 H v xs) {s:List UInt8} (hf:xs.length+s.length<=140737488355328) {K:Bool->AV->AHeap->Prop} {m:Bool}
 (hk:∀ v' H',eS H0 H' v' (xs++s)->Fr (bL v) H H'->(∀ b,bL v' b->bL v b\/H.next<=b)->(s=[]->v'=v)->K m v' H'):bA m (Op.append ph 1 1 [v,.str s] H) K:=by
 have hfit:fits (xs.length+s.length) 1=true:=Ox (by omega) (by omega);have ha:bh (s.map λ c=>AV.int .u8 c.toNat)=true:=by rw [mU];simp [aD]
 have e1:∀ n,Nat.beq n n=true:=λ n=>by simp
 have aT:Nat.blt 0 1=true:=rfl
 by_cases hs:s=[]
 ·subst hs;rcases h.own with ⟨rfl,rfl⟩|⟨d,fz,rfl,q1,q2,q3,q4⟩
  ·exact bA.intro (a:=.nils) (b:=H) rfl (hk _ _ h (Fr.refl _) (λ b q=>.inl q) λ _=>rfl)
  ·refine bA.intro (a:=.gslice d 0 xs.length 1 0 xs.length) (b:=H) ?_ (hk _ _ (by simpa using h) (Fr.refl _) (λ b q=>.inl q) λ _=>rfl);have f0:firstCells H 1 0 (.str [])=some []:=rfl;simp only [Op.append,Nj,qw,qd,f0,MH,ql,dk,Nat.beq,x6,mo (qf xs.length)]
 ·have hs0:s.length ≠ 0:=λ q=>hs (FH.1 q);have h0:Nat.beq s.length 0=false:=oQ hs0;rcases h.own with ⟨rfl,rfl⟩|⟨d,fz,rfl,q1,q2,q3,q4,q5⟩
  ·simp only [qw,x6] at hfit;refine bA.intro (a:=.gslice H.next 0 s.length 1 0 s.length) (b:=H.alloc (.grown s.length 1 (s.map λ c=>AV.int .u8 c.toNat) ph (0,0))) ?_ (hk _ _ ⟨.inr ⟨H.next,(0,0),rfl,by rw [xk];omega,h.fr.next,by rw [qp,zn,K9],by simp,rfl⟩,h.fr.alloc _⟩ ((Fr.refl H).alloc _) (λ b q=>.inr (by rw [q.2];exact qf _)) λ q=>(hs q).elim);simp only [Op.append,Nj,qd,q4v,ha,ql,dk,h0,xa,hfit,aT,kp,cX]
  ·have h3:Nat.ble (0+xs.length+s.length) xs.length=false:=by cases hq:Nat.ble (0+xs.length+s.length) xs.length with|false=>rfl|true=>rw [wq] at hq;omega
   have h4:=mo (show 0+xs.length<=xs.length by omega);have h5:=mo (show fz.2<=xs.length*1 by omega);refine bA.intro (a:=.gslice H.next 0 (xs.length+s.length) 1 0 (xs.length+s.length)) (b:=(H.kill d).alloc (.grown (xs.length+s.length) 1 (xs.flatMap np++s.map λ c=>AV.int .u8 c.toNat) ph fz)) ?_ (hk _ _ ⟨.inr ⟨H.next,fz,?_,?_,?_,?_,?_,q5⟩,?_⟩ ?_ (λ b q=>.inr (by rw [q.2];exact qf _)) λ q=>(hs q).elim)
   ·simp only [Op.append,Nj,qd,q4v,ha,ql,dk,h0,xa,e1,h4,aT,kp,h3,hfit,q3,h5,cX,Ap,mb,Nat.beq]
   ·rw [qg]
   ·rw [xk,Ap];omega
   ·have:=h.fr.next;omega
   ·have:=qp (H.kill d) (.grown (xs.length+s.length) 1 (xs.flatMap np++s.map λ c=>AV.int .u8 c.toNat) ph fz);rw [Ap] at this;rw [this,qg,Eo,K9 s]
   ·rw [qg];omega
   ·exact (h.fr.kill (.inr q2)).alloc _
   ·exact (Fr.kill (W:=bL (AV.gslice d 0 xs.length 1 0 xs.length)) (Fr.refl H) (.inl ⟨by simp,rfl⟩)).alloc _
end
theorem CU {H:AHeap} {b T:Nat} {c:List AV} (h:H.get b=some (OR c T)) (hl:fY Tryz.prog 74 T c.length 0=true):Op.fF (fY Tryz.prog 74) [.ptr b 0] H=some (.ptr b 0):=by
 simp only [Op.fF,h];rw [hl];rfl
theorem HE (H:AHeap):Op.eq .ptr false [.nilp,.nilp] H=some (.bool true):=rfl
theorem Ja (H:AHeap) (b o:Nat):Op.eq .ptr false [.ptr b o,.nilp] H=some (.bool false):=rfl
theorem JW (H:AHeap) (b o:Nat):Op.eq .ptr true [.ptr b o,.ptr b o] H=some (.bool false):=by simp [Op.eq,Dx]
theorem JH (x:AV):Op.gS [x]=some x:=rfl
theorem qr6 {H:AHeap} {b T:Nat} {p buf:AV} {rest:List AV} (h:H.get b=some (OR (p::buf::rest) T)) (hp:p=.nilp\/p=.ptr b 0) (hl:fY Tryz.prog 74 T (rest.length+2) 0=true) :
 ye M ya [.ptr b 0] H λ v H'=>H'.get b=some (OR (.ptr b 0::buf::rest) T)/\Fr (On b) H H'/\H'.next=H.next:=by
 refine qm4 ?_;rcases hp with rfl|rfl
 ·simp (maxSteps:=4000000) (disch:=first|(simp only [jq,yj];done) | (simp only [jq,yj];omega) | omega) only [↓qh,qq,sf,qn,qw,zt,z9,xq,zm,su,rO,Nat.reduceAdd,Nat.reduceSub,Nat.reduceLeDiff,Int.reduceLT,Int.reduceLE,Int.reduceEq,reduceIte,reduceEqDiff,qgj,h,HE,CU h hl,JH,qn,Nat.le_add_left];exact (Fr.refl H).set (W:=On b) (.inl rfl) _
 ·simp (maxSteps:=4000000) (disch:=first|(simp only [jq,yj];done) | (simp only [jq,yj];omega) | omega) only [↓qh,qq,sf,qn,qw,zt,z9,xq,zm,su,rO,Nat.reduceAdd,Nat.reduceSub,Nat.reduceLeDiff,Int.reduceLT,Int.reduceLE,Int.reduceEq,reduceIte,reduceEqDiff,qgj,h,Ja,JW];exact Fr.refl _
structure BE (q:Bool) (T:Nat) (H0 H:AHeap) (b:Nat) (xs:List UInt8) (rest:List AV):Prop where
 row:∃ p buf,H.get b=some (OR (p::buf::rest) T)/\(p=.nilp\/p=.ptr b 0)/\eS H0 H buf xs /\ ¬ bL buf b/\(xs=[]->q=false->buf=.nils)
 lo:H0.next<=b
 hi:b<H.next
 ty:fY Tryz.prog 74 T (rest.length+2) 0=true
def iX (H:AHeap) (b:Nat) (x:Nat):Prop:=x=b \/ ∃ p buf rest T,H.get b=some (OR (p::buf::rest) T)/\bL buf x
def BK (b:Nat) (H H':AHeap):Prop:=H.next<=H'.next /\ ∀ c,c<H.next -> ¬ iX H b c->H'.get c=H.get c /\ ¬ iX H' b c
theorem BK.refl (b:Nat) (H:AHeap):BK b H H:=⟨qf _,λ c _ h=>⟨rfl,h⟩⟩
theorem BK.trans {b:Nat} {H H1 H2:AHeap} (h:BK b H H1) (h':BK b H1 H2):BK b H H2 :=
 ⟨xz h.1 h'.1,λ c hc hn=>by
  obtain ⟨q1,q2⟩:=h.2 c hc hn;obtain ⟨r1,r2⟩:=h'.2 c (qe hc h.1) q2;exact ⟨r1.trans q1,r2⟩⟩
theorem iX.iff {T:Nat} {H:AHeap} {b:Nat} {p buf:AV} {rest:List AV} (h:H.get b=some (OR (p::buf::rest) T)) (x:Nat):iX H b x ↔ x=b\/bL buf x:=by
 constructor
 ·rintro (q|⟨p',buf',rest',T',q1,q2⟩)
  ·exact .inl q
  ·rw [h] at q1;injection q1 with q1;injection q1 with q1 _;injection q1 with _ q1;injection q1 with q1 _;subst q1;exact .inr q2
 ·rintro (q|q)
  ·exact .inl q
  ·exact .inr ⟨p,buf,rest,T,h,q⟩
theorem BK.of {T T':Nat} {H H':AHeap} {b:Nat} {p buf p' buf':AV} {rest rest':List AV} (h:H.get b=some (OR (p::buf::rest) T)) (h':H'.get b=some (OR (p'::buf'::rest') T')) (hn:H.next<=H'.next)
 (hk:∀ c,c<H.next->c ≠ b -> ¬ bL buf c->H'.get c=H.get c) (ho:∀ c,bL buf' c->bL buf c\/H.next<=c):BK b H H' :=
 ⟨hn,λ c hc hb=>by
  rw [iX.iff h] at hb;rw [iX.iff h'];exact ⟨hk c hc (λ q=>hb (.inl q)) λ q=>hb (.inr q),λ q=>q.elim (λ q=>hb (.inl q)) λ q=>(ho c q).elim (λ r=>hb (.inr r)) λ r=>by omega⟩⟩
theorem BK.fr {b:Nat} {H H':AHeap} (f:Fr Em H H') (hb:b<H.next):BK b H H' :=
 ⟨f.next,λ c hc hn=>⟨f.aj c hc id,λ q=>hn (q.imp id λ⟨p,buf,rest,T,h1,h2⟩=>⟨p,buf,rest,T,by rw [<-f.aj b hb id];exact h1,h2⟩)⟩⟩
section
variable {q:Bool} {T:Nat} {H0 H H':AHeap} {b:Nat} {xs:List UInt8} {rest:List AV}
theorem BE.em (h:BE q T H0 H b xs rest) (f:Fr Em H H'):BE q T H0 H' b xs rest:=by
 obtain ⟨⟨p,buf,h1,h2,h3,h4,h5⟩,lo,hi,ty⟩:=h;exact ⟨⟨p,buf,by rw [f.aj b hi id,h1],h2,h3.em f,h4,h5⟩,lo,qe hi f.next,ty⟩
theorem BE.fr (h:BE q T H0 H b xs rest):Fr Em H0 H:=by obtain ⟨⟨p,buf,h1,h2,h3,h4,h5⟩,lo,hi,ty⟩:=h;exact h3.fr
theorem BE.off (h:BE q T H0 H b xs rest) {c:Nat} (hc:H.next<=c):¬ iX H b c:=by
 obtain ⟨⟨p,buf,h1,h2,h3,h4,h5⟩,lo,hi,ty⟩:=h;rw [iX.iff h1];rintro (r|r)
 ·omega
 ·have:=(h3.on c r).2;omega
theorem BE.put (h:BE q T H0 H b xs rest) {p buf:AV} {rest':List AV} (hg:H.get b=some (OR (p::buf::rest) T)) (hl:rest'.length=rest.length):BE q T H0 (H.set b (OR (p::buf::rest') T)) b xs rest'/\BK b H (H.set b (OR (p::buf::rest') T)):=by
 obtain ⟨⟨p',buf',h1,h2,h3,h4,h5⟩,lo,hi,ty⟩:=h;rw [hg] at h1;injection h1 with h1;injection h1 with h1 _;injection h1 with e1 h1;injection h1 with e2 _
 subst e1;subst e2;refine ⟨⟨⟨p,buf,xd ..,h2,h3.gT lo h4 _,h4,h5⟩,lo,hi,by rw [hl];exact ty⟩,BK.of hg (xd ..) (qf _) (λ c _ hc _=>by rw [sw (λ q=>hc q.symm)]) λ c q=>.inl q⟩
end
theorem NF {q:Bool} {T:Nat} {H0 H:AHeap} {b:Nat} {xs s:List UInt8} {rest:List AV} (h:BE q T H0 H b xs rest) (hl:xs.length+s.length<=140737488355328) :
 ye M jp [.ptr b 0,.str s] H λ v H'=>BE q T H0 H' b (xs++s) rest/\BK b H H':=by
 obtain ⟨⟨p,buf,h1,h2,h3,h4,h5⟩,lo,hi,ty⟩:=h;refine qkw ?_;simp only [↓qh,qq,reduceIte,reduceEqDiff,Pc];refine C3.q (qr6 (M:=M) h1 h2 ty) λ v H1 ⟨g1,f1,n1⟩=>?_;have h3':eS H0 H1 buf xs:=h3.Ht f1 (h3.fr.trans f1 λ x (r:x=b)=>.inr (by omega)) λ x hx (r:x=b)=>h4 (by rw [<-r];exact hx);simp (maxSteps:=4000000) (disch:=first|(simp only [jq,yj];done) | (simp only [jq,yj];omega) | omega) only [↓qh,qq,sf,qn,qw,zt,z9,xq,zm,su,rO,Nat.reduceAdd,Nat.reduceSub,Nat.reduceLeDiff,Int.reduceLT,Int.reduceLE,Int.reduceEq,reduceIte,reduceEqDiff,Pc,g1];refine h3'.app hl λ v' H2 hv' hf hfr hsv=>?_;have g2:H2.get b=some (OR (.ptr b 0::buf::rest) T):=by rw [hf.aj b (qe hi f1.next) h4,g1]
 have hone:aD v'=true:=hv'.one;have hn:¬ bL v' b:=λ k=>(hfr b k).elim h4 λ r=>by have:=f1.next;omega
 have hcl:AV.cells v'=[v']:=by cases v'<;>first|rfl|cases hone
 simp (maxSteps:=4000000) (disch:=first|(simp only [jq,yj];done) | (simp only [jq,yj];omega) | omega) only [↓qh,qq,sf,qn,qw,zt,z9,xq,zm,su,rO,Nat.reduceAdd,Nat.reduceSub,Nat.reduceLeDiff,Int.reduceLT,Int.reduceLE,Int.reduceEq,reduceIte,reduceEqDiff,Pc,g2,hcl,hone,qn,Nat.le_add_left];have hv2:=hv'.gT (b:=b) lo hn (OR (.ptr b 0::v'::rest) T);refine ⟨⟨⟨_,_,xd ..,.inr rfl,hv2,hn,λ k1 k2=>?_⟩,lo,by rw [FB];have:=f1.next;have:=hf.next;omega,ty⟩,BK.of h1 (xd ..) (by rw [FB];exact xz f1.next hf.next) (λ c hc hcb hco=>?_) λ c q=>(hfr c q).imp id λ r=>by omega⟩
 ·obtain ⟨k3,k4⟩:=List.append_eq_nil_iff.1 k1;rw [hsv k4];exact h5 k3 k2
 rw [sw (λ q=>hcb q.symm),hf.aj c (qe hc f1.next) hco,f1.aj c hc hcb]
theorem DI {n:Nat} (h:n<=140737488355328):Op.makeNoZero ph [.int .i64 (n:Int)]=some (.grown 0 1 [] ph (0,0),Op.fA 0 n):=by
 have e1:kB 0 (n:Int)=true:=by rw [pN];simp
 have e2:kB (n:Int) 140737488355328=true:=by rw [pN];simp;omega
 simp only [Op.makeNoZero,e1,e2,kp,ql,yB]
theorem Mz:fY Tryz.prog 74 Ig 2 0=true:=by kernel_rfl
abbrev BS (H0 H:AHeap) (b:Nat) (xs:List UInt8):Prop:=BE true Ig H0 H b xs []
theorem xcj {H0 H:AHeap} {b n:Nat} (h:H.get b=some (OR [.nilp,.nils] Ig)) (lo:H0.next<=b) (hi:b<H.next) (hf0:Fr Em H0 H) (hn:n<=140737488355328) :
 ye M FX [.ptr b 0,.int .i64 (n:Int)] H λ v H'=>BS H0 H' b []:=by
 refine qpy ?_;simp only [↓qh,qq,reduceIte,reduceEqDiff,KU];refine C3.q (qr6 (M:=M) h (.inl rfl) Mz) λ v H1 ⟨g1,f1,n1⟩=>?_;have ef1:Fr Em H0 H1:=hf0.trans f1 λ x (q:x=b)=>.inr (by omega);have e0:¬ (n:Int)<0:=by omega
 have c0:Op.cap [.nils]=some (.int .i64 0):=rfl;have l0:Op.aS [.nils]=some (.int .i64 0):=rfl;have w0:ae .i64 (0-0)=0:=rfl;have hi1:b<H1.next:=qe hi f1.next
 by_cases hz:(0:Int)<(n:Int)
 ·simp (maxSteps:=4000000) (disch:=first|(simp only [jq,yj];done) | (simp only [jq,yj];omega) | omega) only [↓qh,qq,sf,qn,qw,zt,z9,xq,zm,su,rO,Nat.reduceAdd,Nat.reduceSub,Nat.reduceLeDiff,Int.reduceLT,Int.reduceLE,Int.reduceEq,reduceIte,reduceEqDiff,KU,e0,g1,c0,l0,w0,hz];refine C3.q (R:=λ v H'=>BS H0 H' b []) (qp0 ?_) λ v H' hb=>?_
  ·have w1:ae .i64 (2*0)=0:=rfl;have w2:ae .i64 (0+(n:Int))=(n:Int):=by rw [zk (by omega) (by omega)];omega
   have s0:Op.bc 1 [none,some 0,none] [.gslice H1.next 0 0 1 0 n,.int .i64 0]=some (.gslice H1.next 0 0 1 0 0):=rfl;have k0:Op.fA 0 n H1.next=.gslice H1.next 0 0 1 0 n:=rfl
   have cp:∀ H,Op.copy 1 [.gslice H1.next 0 0 1 0 0,.nils] H=some (.int .i64 0,H):=λ H=>rfl;have hcl:AV.cells (.gslice H1.next 0 0 1 0 0)=[.gslice H1.next 0 0 1 0 0]:=rfl;have hone:aD (.gslice H1.next 0 0 1 0 0)=true:=rfl;simp (maxSteps:=4000000) (disch:=first|(simp only [jq,yj];done) | (simp only [jq,yj];omega) | omega) only [↓qh,qq,sf,qn,qw,zt,z9,xq,zm,su,rO,Nat.reduceAdd,Nat.reduceSub,Nat.reduceLeDiff,Int.reduceLT,Int.reduceLE,Int.reduceEq,reduceIte,reduceEqDiff,qp1,g1,c0,l0,w1,w2,DI hn,k0,s0,cp,hcl,hone];have hnew:eS H0 (H1.alloc (.grown 0 1 [] ph (0,0))) (.gslice H1.next 0 0 1 0 0) [] :=
    ⟨.inr ⟨H1.next,(0,0),rfl,by rw [xk];omega,ef1.next,qp ..,by simp,rfl⟩,ef1.alloc _⟩
   have hnb:¬ bL (.gslice H1.next 0 0 1 0 0) b:=λ q=>by have:b=H1.next:=q.2;omega
   have hv2:=hnew.gT (b:=b) lo hnb (OR [.ptr b 0,.gslice H1.next 0 0 1 0 0] Ig);exact ⟨⟨_,_,xd ..,.inr rfl,hv2,hnb,λ _ k=>nomatch k⟩,lo,by rw [FB,xk];omega,Mz⟩
  ·simp only [↓qh,qq,reduceIte,reduceEqDiff,KU];exact hb
 ·simp (maxSteps:=4000000) (disch:=first|(simp only [jq,yj];done) | (simp only [jq,yj];omega) | omega) only [↓qh,qq,sf,qn,qw,zt,z9,xq,zm,su,rO,Nat.reduceAdd,Nat.reduceSub,Nat.reduceLeDiff,Int.reduceLT,Int.reduceLE,Int.reduceEq,reduceIte,reduceEqDiff,KU,e0,g1,c0,l0,w0,hz];exact ⟨⟨_,_,g1,.inr rfl,eS.nil ef1,λ q=>q.1 rfl,λ _ _=>rfl⟩,lo,hi1,Mz⟩
theorem sW {q:Bool} {T:Nat} {H0 H:AHeap} {b:Nat} {xs:List UInt8} {rest:List AV} (h:BE q T H0 H b xs rest) :
 ye M vi [.ptr b 0] H λ v H'=>v=.int .i64 (xs.length:Nat)/\H'=H:=by
 obtain ⟨⟨p,buf,h1,h2,h3,h4,h5⟩,lo,hi,ty⟩:=h;refine qqt ?_;simp (maxSteps:=4000000) (disch:=first|(simp only [jq,yj];done) | (simp only [jq,yj];omega) | omega) only [↓qh,qq,sf,qn,qw,zt,z9,xq,zm,su,rO,Nat.reduceAdd,Nat.reduceSub,Nat.reduceLeDiff,Int.reduceLT,Int.reduceLE,Int.reduceEq,reduceIte,reduceEqDiff,qqu,h1,h3.len]
theorem xcy (xs:List UInt8):bytesOf (xs.flatMap np)=some xs:=by rw [K9];exact qyj xs
theorem Pp {q:Bool} {T:Nat} {H0 H:AHeap} {b:Nat} {xs:List UInt8} {rest:List AV} (h:BE q T H0 H b xs rest) (hl:xs.length<=140737488355328) (hq:xs ≠ []\/q=false) :
 ye M yd [.ptr b 0] H λ v H'=>v=.str xs/\BE q T H0 H' b xs rest/\BK b H H':=by
 have hbe:=h;obtain ⟨⟨p,buf,h1,h2,h3,h4,h5⟩,lo,hi,ty⟩:=h;refine qot ?_
 by_cases hx:xs=[]
 ·have hb:buf=.nils:=h5 hx (hq.resolve_left λ k=>k hx);subst hb;subst hx;have e1:Op.fg [.nils]=some .nilp:=rfl;have e2:Op.aS [.nils]=some (.int .i64 0):=rfl;have e3:Op.dX ph [.nilp,.int .i64 0] H=some (.str [],H):=rfl;simp (maxSteps:=4000000) (disch:=first|(simp only [jq,yj];done) | (simp only [jq,yj];omega) | omega) only [↓qh,qq,sf,qn,qw,zt,z9,xq,zm,su,rO,Nat.reduceAdd,Nat.reduceSub,Nat.reduceLeDiff,Int.reduceLT,Int.reduceLE,Int.reduceEq,reduceIte,reduceEqDiff,qil,h1,e1,e2,e3];exact ⟨hbe,BK.refl _ _⟩
 have hlen:0<xs.length:=List.length_pos_iff.2 hx;rcases h3.own with ⟨_,k⟩|⟨d,fz,rfl,q1,q2,q3,q4,q5⟩
 ·exact (hx k).elim
 have e1:Op.fg [.gslice d 0 xs.length 1 0 xs.length]=some (.ptr d 0):=by
  show cond (Nat.blt 0 xs.length) (some (AV.ptr d (0*1))) none=_;rw [xP hlen];rfl
 have e2:Op.aS [.gslice d 0 xs.length 1 0 xs.length]=some (.int .i64 (xs.length:Nat)):=rfl;have k4:dL (xs.flatMap np) 0 xs.length=some (xs.flatMap np):=by
  rw [mB,K9,qk (by simp),xq,xo (by simp)]
 have k5:Op.gw fz 0 xs.length=(0,xs.length):=by
  show cond (Nat.beq fz.1 fz.2) _ _=_;cases hb:Nat.beq fz.1 fz.2 with
  | true=>rw [ql];simp
  | false=>rw [xa,q5];simp;omega
 have e3:Op.dX ph [.ptr d 0,.int .i64 (xs.length:Nat)] H=some (.str xs,H.set d (.grown xs.length 1 (xs.flatMap np) ph (0,xs.length))):=by
  have k1:nJ (xs.length:Int) 0=false:=by rw [rH];simp;omega
  have k2:(oC (xs.length:Int) 0 || oC 140737488355328 (xs.length:Int))=false:=by rw [p8,p8];simp;omega
  have k3:∀ n,Nat.beq n n=true:=λ n=>by simp
  simp only [Op.dX,k1,k2,xa,q3,k3,mo (show fz.1<=fz.2 by omega),kp,ql,yB,k4,qd,xcy,k5]
 simp (maxSteps:=4000000) (disch:=first|(simp only [jq,yj];done) | (simp only [jq,yj];omega) | omega) only [↓qh,qq,sf,qn,qw,zt,z9,xq,zm,su,rO,Nat.reduceAdd,Nat.reduceSub,Nat.reduceLeDiff,Int.reduceLT,Int.reduceLE,Int.reduceEq,reduceIte,reduceEqDiff,qil,h1,e1,e2,e3];have hdb:d ≠ b:=λ k=>h4 ⟨by simp,k.symm⟩;have g:(H.set d (.grown xs.length 1 (xs.flatMap np) ph (0,xs.length))).get b=some (OR (p::.gslice d 0 xs.length 1 0 xs.length::rest) T):=by rw [sw hdb,h1]
 exact ⟨⟨⟨p,_,g,h2,⟨.inr ⟨d,(0,xs.length),rfl,q1,q2,xd ..,qf _,rfl⟩,h3.fr.set (.inr q2) _⟩,h4,h5⟩,lo,hi,ty⟩,
  BK.of h1 g (qf _) (λ c _ _ hc=>sw (λ k=>hc ⟨by simp,k.symm⟩) _) λ c k=>.inl k⟩
end Go.Am
namespace Go.Am
open Go.Proofs Lang
variable {M:aO} [MK M]
theorem Mb:EC=List.replicate 128 32:=by decide +kernel
theorem q0c {H:AHeap}:ye M yr [.str EC,.str [32,32]] H λ v H'=>v=.bool true/\H'=H:=by
 refine qtf ?_;simp only [↓qh,qq,reduceIte,reduceEqDiff,qm7];refine C3.q (R:=λ v H'=>v=.bool true/\H'=H) (qja ?_) λ v H1 ⟨hv,hh⟩=>?_
 ·have l1:Op.dj [.str EC]=some (.int .i64 128):=by rw [Mb];rfl
  have l2:Op.dj [.str [32,32]]=some (.int .i64 2):=rfl;have s1:Op.cz [none,some 0] [.str EC,.int .i64 2]=some (.str [32,32]):=by rw [Mb];rfl
  simp only [↓qh,qq,reduceIte,reduceEqDiff,qjb,l1,l2,s1,Int.reduceLE]
 ·subst hv;subst hh;simp only [↓qh,qq,reduceIte,reduceEqDiff,qm7]
theorem Ow {a b c:Nat} (h:a<=c\/b<=c):Op.fy false [.int .i64 (a:Int),.int .i64 (b:Int),.int .i64 (c:Int)]=some (.int .i64 ((min a b:Nat):Int)):=by
 simp only [Op.fy,Op.d8,qd,xa,p8];have e:(cond (decide ((b:Int)<(a:Int))) (b:Int) (a:Int))=((min a b:Nat):Int):=by
  by_cases q:b<a
  ·rw [jd (by omega),ql];omega
  ·rw [jf (by omega),xa];omega
 rw [e,jf (by omega),xa]
theorem qx8 {H:AHeap} {d:Nat} (hd:d<=4000):ye M Cd [.str [32,32],.int .i64 (d:Int)] H λ v H'=>v=.str (ind d)/\Fr Em H H':=by
 refine qxo ?_;obtain ⟨w0,w2,w19,w25,w27,w33,w35,w43,w99,w65,-,w101,w79,-,w113,-,w91,w117,w119,w132,w122,w128⟩:=qxp M ⟨none,Cd⟩
 by_cases d0:d=0
 ·subst d0;have:=j0 (show ((0:Nat):Int)=0 from rfl);simp only [↓qh,qq,reduceIte,reduceEqDiff,w0,w2,this];exact ⟨rfl,Fr.refl _⟩
 have c0:¬ (d:Int)=0:=by omega
 by_cases d1:d=1
 ·subst d1;have h1:=j0 (show ((1:Nat):Int)=1 from rfl);simp only [↓qh,qq,reduceIte,reduceEqDiff,w0,w2,c0,h1];exact ⟨rfl,Fr.refl _⟩
 have c1:¬ (d:Int)=1:=by omega
 have c2:¬ (d:Int)<0:=by omega
 have l2:Op.dj [.str [32,32]]=some (.int .i64 2):=rfl;have wl:ae .u64 2=2:=rfl;have wd:ae .u64 (d:Int)=(d:Int):=ww (by omega) (by omega);simp only [↓qh,qq,reduceIte,reduceEqDiff,w0,w2,w19,w25,c0,c1,c2,l2,wl,wd];refine C3.q (q8l (M:=M) (x:=2) (.inr rfl) (y:=d) (by omega)) λ v H1 ⟨hv,hh⟩=>?_;obtain ⟨n,hn⟩:∃ n,n=2*d:=⟨_,rfl⟩
 rw [<-hn] at hv;subst hv;subst hh;have e1:¬ (9223372036854775807:Int)<(n:Int):=by omega
 have e2:¬ (0:Int)<0:=by decide
 have wi:ae .i64 (n:Int)=(n:Int):=zk (by omega) (by omega);have e3:¬ (2:Int)=0:=by decide
 have ix:Op.aY [.str [32,32],.int .i64 0]=some (.int .u8 32):=rfl;have e4:=j0 (show (32:Int)=32 from rfl);have hind:ind d=List.replicate n 32:=by rw [hn];rfl
 by_cases hs:(n:Int)<=128
 ·simp only [↓qh,qq,reduceIte,reduceEqDiff,w27,w33,w35,w43,w65,zo,e1,e2,wi,l2,e3,ix,hs];refine C3.q q0c λ v H2 ⟨hv,hh⟩=>?_;subst hv;subst hh;have s1:Op.cz [none,some 0] [.str EC,.int .i64 (n:Int)]=some (.str (ind d)):=by
   rw [qzn (by rw [Mb];simp;omega),Mb,List.take_replicate,BO (by omega),hind]
  simp only [↓qh,qq,reduceIte,reduceEqDiff,s1];exact Fr.refl _
 ·have hs2:¬ (n:Int)<=64:=by omega
  have hs3:¬ (8192:Int)<(n:Int):=by omega
  simp only [↓qh,qq,reduceIte,reduceEqDiff,w27,w33,w35,w43,w65,w79,w91,w99,w101,w113,zo,e1,e2,wi,l2,e3,ix,hs,hs2,hs3];refine C3.q (xcj (M:=M) (H0:=H1) (qp ..) (qf _) (by rw [xk];omega) ((Fr.refl H1).alloc _) (by omega)) λ v H2 hb2=>?_;simp only [↓qh,qq,reduceIte,reduceEqDiff,w117];refine C3.q (NF (M:=M) (s:=[32,32]) hb2 (by simp)) λ v H3 ⟨hb3,_⟩=>?_;simp only [↓qh,qq,reduceIte,reduceEqDiff,w119];refine bS.intro (λ k E' H'=>∃ L,E'=[(8,.int .i64 (n:Nat)),(7,.int .i64 (n:Nat)),(9,.ptr H1.next 0)]/\k=n-L/\2<=L/\L<=n/\BS H1 H' H1.next (List.replicate L 32)) ?_ ?_
  ·exact ⟨_,_,⟨2,rfl,rfl,by omega,by omega,hb3⟩,by simp only [↓qh,qq,reduceIte,reduceEqDiff]⟩
  rintro k E' Hc ⟨L,rfl,rfl,hL,hLn,hb⟩;simp only [↓qh,qq,reduceIte,reduceEqDiff,w122];have hlen:=sW (M:=M) hb;rw [List.length_replicate] at hlen;refine C3.q hlen λ v H4 ⟨hv,hh⟩=>?_;subst hv;subst hh;rcases kg L n with aT|hge
  ·have f1:(L:Int)<(n:Nat):=by omega
   simp only [↓qh,qq,reduceIte,reduceEqDiff,f1,w128];refine C3.q hlen λ v H5 ⟨hv,hh⟩=>?_;subst hv;subst hh;have ws:ae .i64 ((n:Int)-(L:Int))=((n-L:Nat):Int):=by rw [zk (by omega) (by omega)];omega
   simp only [↓qh,qq,reduceIte,reduceEqDiff,ws];refine C3.q hlen λ v H6 ⟨hv,hh⟩=>?_;subst hv;subst hh;simp only [↓qh,qq,reduceIte,reduceEqDiff,Ow (show n-L<=n\/L<=n by omega)];refine C3.q (Pp (M:=M) hb (by simp;omega) (.inl (by simp;omega))) λ v H7 ⟨hv,hb7,_⟩=>?_;subst hv;have s1:Op.cz [none,some 0] [.str (List.replicate L 32),.int .i64 ((min (n-L) L:Nat):Int)]=some (.str (List.replicate (min (n-L) L) 32)):=by
    rw [qzn (by simp;omega),List.take_replicate,BO (by omega)]
   simp only [↓qh,qq,reduceIte,reduceEqDiff,s1];refine C3.q (NF (M:=M) hb7 (by simp;omega)) λ v H8 ⟨hb8,_⟩=>?_;rw [List.replicate_append_replicate] at hb8;simp only [↓qh,qq,reduceIte,reduceEqDiff];exact ⟨_,_,⟨L+min (n-L) L,rfl,rfl,by omega,by omega,hb8⟩,by simp only [↓qh,qq,reduceIte,reduceEqDiff],by omega⟩
  ·have hLe:L=n:=by omega
   subst hLe;have f1:¬ (L:Int)<(L:Nat):=by omega
   simp only [↓qh,qq,reduceIte,reduceEqDiff,f1,w132];refine C3.q (Pp (M:=M) hb (by simp;omega) (.inl (by simp;omega))) λ v H7 ⟨hv,hb7,_⟩=>?_;subst hv;simp only [↓qh,qq,reduceIte,reduceEqDiff];exact ⟨by rw [hind],hb7.fr⟩
end Go.Am
