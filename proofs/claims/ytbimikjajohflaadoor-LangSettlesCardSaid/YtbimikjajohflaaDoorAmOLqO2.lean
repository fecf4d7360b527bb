/- LqO2: LpF LpG StB StC. -/
import Derived.Test.YtbimikjajohflaaDoorAmOLqO1
import Derived.Test.YtbimikjajohflaaDoorAmOLqO0
set_option linter.unusedVariables false
set_option linter.unusedSimpArgs false
set_option linter.unusedSectionVars false
set_option maxRecDepth 100000
namespace Go.Am
open Lang Go.Proofs
variable {M:Mac} [MK M]
end Go.Am
namespace Go.Am
open Lang Go.Proofs
variable {M:Mac} [MK M]
end Go.Am
namespace Go.Am
open Go.Proofs
variable {M:Mac} [MK M]
structure BufZ (H0 H:AHeap) (v:AV) (xs:List UInt8):Prop where
 own:(v=.nils/\xs=[]) \/ ∃ d fz,v=.gslice d 0 xs.length 1 0 xs.length/\d<H.next/\H0.next<=d/\H.get d=some (.grown xs.length 1 (xs.flatMap encB) vj fz)/\fz.2<=xs.length/\fz.1=0
 fr:Fr Em H0 H
section
variable {H0 H H':AHeap} {v:AV} {xs:List UInt8}
theorem BufZ.nil (f:Fr Em H0 H):BufZ H0 H .nils []:=⟨.inl ⟨rfl,rfl⟩,f⟩
theorem BufZ.on (h:BufZ H0 H v xs):∀ x,OnS v x->H0.next<=x/\x<H.next:=by
 rintro x ⟨h1,rfl⟩
 rcases h.own with ⟨rfl,_⟩|⟨d,fz,rfl,q1,q2,_⟩
 ·exact (h1 rfl).elim
 ·exact ⟨q2,q1⟩
theorem BufZ.frW {W:Nat->Prop} (h:BufZ H0 H v xs) (f:Fr W H H') (f0:Fr Em H0 H') (hw:∀ x,OnS v x -> ¬ W x):BufZ H0 H' v xs:=by
 refine ⟨?_,f0⟩
 rcases h.own with q|⟨d,fz,rfl,q1,q2,q3,q4⟩
 ·exact .inl q
 ·exact .inr ⟨d,fz,rfl,qi q1 f.next,q2,by rw [f.keep d q1 (hw d ⟨by simp,rfl⟩)];exact q3,q4⟩
theorem BufZ.em (h:BufZ H0 H v xs) (f:Fr Em H H'):BufZ H0 H' v xs:=h.frW f (h.fr.em f) fun _ _ q=>q
theorem BufZ.setOff (h:BufZ H0 H v xs) {b:Nat} (hb:H0.next<=b) (hn:¬ OnS v b) (o:AObj):BufZ H0 (H.set b o) v xs :=
 h.frW ((Fr.refl H).set (W:=On b) (.inl rfl) o) (h.fr.set (.inr hb) _) fun x hx (q:x=b)=>hn (by rw [<-q];exact hx)
theorem BufZ.one (h:BufZ H0 H v xs):oneCell v=true:=by
 rcases h.own with ⟨rfl,_⟩|⟨d,fz,rfl,_⟩<;>rfl
theorem BufZ.len (h:BufZ H0 H v xs):Op.lenSl [v]=some (.int .i64 (xs.length:Nat)):=by
 rcases h.own with ⟨rfl,rfl⟩|⟨d,fz,rfl,_⟩<;>rfl
theorem BufZ.app (h:BufZ H0 H v xs) {s:List UInt8} (hf:xs.length+s.length<=140737488355328) {K:Bool->AV->AHeap->Prop} {m:Bool}
 (hk:∀ v' H',BufZ H0 H' v' (xs++s)->Fr (OnS v) H H'->(∀ b,OnS v' b->OnS v b\/H.next<=b)->(s=[]->v'=v)->K m v' H'):B32 m (Op.append vj 1 1 [v,.str s] H) K:=by
 have hfit:fits (xs.length+s.length) 1=true:=qvn (by omega) (by omega)
 have ha:allOne (s.map fun c=>AV.int .u8 c.toNat)=true:=by rw [qe7];simp [oneCell]
 have e1:∀ n,Nat.beq n n=true:=fun n=>by simp
 have hlt:Nat.blt 0 1=true:=rfl
 by_cases hs:s=[]
 ·subst hs
  rcases h.own with ⟨rfl,rfl⟩|⟨d,fz,rfl,q1,q2,q3,q4⟩
  ·exact B32.intro (a:=.nils) (b:=H) rfl (hk _ _ h (Fr.refl _) (fun b q=>.inl q) fun _=>rfl)
  ·refine B32.intro (a:=.gslice d 0 xs.length 1 0 xs.length) (b:=H) ?_ (hk _ _ (by simpa using h) (Fr.refl _) (fun b q=>.inl q) fun _=>rfl)
   have f0:firstCells H 1 0 (.str [])=some []:=rfl
   simp only [Op.append,qri,qu,qf,f0,qme,qn,appendV,Nat.beq,ja,qap (qg xs.length)]
 ·have hs0:s.length ≠ 0:=fun q=>hs (yi.1 q)
  have h0:Nat.beq s.length 0=false:=qcf hs0
  rcases h.own with ⟨rfl,rfl⟩|⟨d,fz,rfl,q1,q2,q3,q4,q5⟩
  ·simp only [qu,ja] at hfit
   refine B32.intro (a:=.gslice H.next 0 s.length 1 0 s.length) (b:=H.alloc (.grown s.length 1 (s.map fun c=>AV.int .u8 c.toNat) vj (0,0))) ?_ (hk _ _ ⟨.inr ⟨H.next,(0,0),rfl,by rw [ze];omega,h.fr.next,by rw [xr,x8,qj4],by simp,rfl⟩,h.fr.alloc _⟩ ((Fr.refl H).alloc _) (fun b q=>.inr (by rw [q.2];exact qg _)) fun q=>(hs q).elim)
   simp only [Op.append,qri,qf,qse,ha,qn,appendV,h0,qy,hfit,hlt,jt,grownV]
  ·have h3:Nat.ble (0+xs.length+s.length) xs.length=false:=by cases hq:Nat.ble (0+xs.length+s.length) xs.length with|false=>rfl|true=>rw [yq] at hq;omega
   have h4:=qap (show 0+xs.length<=xs.length by omega)
   have h5:=qap (show fz.2<=xs.length*1 by omega)
   refine B32.intro (a:=.gslice H.next 0 (xs.length+s.length) 1 0 (xs.length+s.length)) (b:=(H.kill d).alloc (.grown (xs.length+s.length) 1 (xs.flatMap encB++s.map fun c=>AV.int .u8 c.toNat) vj fz)) ?_ (hk _ _ ⟨.inr ⟨H.next,fz,?_,?_,?_,?_,?_,q5⟩,?_⟩ ?_ (fun b q=>.inr (by rw [q.2];exact qg _)) fun q=>(hs q).elim)
   ·simp only [Op.append,qri,qf,qse,ha,qn,appendV,h0,qy,e1,h4,hlt,jt,h3,hfit,q3,h5,grownV,qf1,qb1,Nat.beq]
   ·rw [qe]
   ·rw [ze,qf1];omega
   ·have:=h.fr.next;omega
   ·have:=xr (H.kill d) (.grown (xs.length+s.length) 1 (xs.flatMap encB++s.map fun c=>AV.int .u8 c.toNat) vj fz)
    rw [qf1] at this
    rw [this,qe,vc,qj4 s]
   ·rw [qe];omega
   ·exact (h.fr.kill (.inr q2)).alloc _
   ·exact (Fr.kill (W:=OnS (AV.gslice d 0 xs.length 1 0 xs.length)) (Fr.refl H) (.inl ⟨by simp,rfl⟩)).alloc _
end
theorem cast_B {H:AHeap} {b T:Nat} {c:List AV} (h:H.get b=some (OR c T)) (hl:liesB Tryd.prog 78 T c.length 0=true):Op.castPtr (liesB Tryd.prog 78) [.ptr b 0] H=some (.ptr b 0):=by
 simp only [Op.castPtr,h]
 rw [hl];rfl
theorem eq_np (H:AHeap):Op.eq .ptr false [.nilp,.nilp] H=some (.bool true):=rfl
theorem eq_pn (H:AHeap) (b o:Nat):Op.eq .ptr false [.ptr b o,.nilp] H=some (.bool false):=rfl
theorem ne_pp (H:AHeap) (b o:Nat):Op.eq .ptr true [.ptr b o,.ptr b o] H=some (.bool false):=by simp [Op.eq,eqV]
theorem noEsc (x:AV):Op.noEscape [x]=some x:=rfl
theorem qm0 {H:AHeap} {b T:Nat} {p buf:AV} {rest:List AV} (h:H.get b=some (OR (p::buf::rest) T)) (hp:p=.nilp\/p=.ptr b 0) (hl:liesB Tryd.prog 78 T (rest.length+2) 0=true) :
 yv M j9 [.ptr b 0] H fun v H'=>H'.get b=some (OR (.ptr b 0::buf::rest) T)/\Fr (On b) H H'/\H'.next=H.next:=by
 refine qi5 ?_
 rcases hp with rfl|rfl
 ·simp (maxSteps:=4000000) (disch:=first|(simp only [jj,km];done) | (simp only [jj,km];omega) | omega) only [↓qh,qx,q33,qk,qu,jx,zr,jw,zq,qam,wy,Nat.reduceAdd,Nat.reduceSub,Nat.reduceLeDiff,Int.reduceLT,Int.reduceLE,Int.reduceEq,reduceIte,Nat.reduceEqDiff,qen,h,eq_np,cast_B h hl,noEsc,qk,Nat.le_add_left]
  exact (Fr.refl H).set (W:=On b) (.inl rfl) _
 ·simp (maxSteps:=4000000) (disch:=first|(simp only [jj,km];done) | (simp only [jj,km];omega) | omega) only [↓qh,qx,q33,qk,qu,jx,zr,jw,zq,qam,wy,Nat.reduceAdd,Nat.reduceSub,Nat.reduceLeDiff,Int.reduceLT,Int.reduceLE,Int.reduceEq,reduceIte,Nat.reduceEqDiff,qen,h,eq_pn,ne_pp]
  exact Fr.refl _
structure BE (q:Bool) (T:Nat) (H0 H:AHeap) (b:Nat) (xs:List UInt8) (rest:List AV):Prop where
 row:∃ p buf,H.get b=some (OR (p::buf::rest) T)/\(p=.nilp\/p=.ptr b 0)/\BufZ H0 H buf xs /\ ¬ OnS buf b/\(xs=[]->q=false->buf=.nils)
 lo:H0.next<=b
 hi:b<H.next
 ty:liesB Tryd.prog 78 T (rest.length+2) 0=true
def BOn (H:AHeap) (b:Nat) (x:Nat):Prop:=x=b \/ ∃ p buf rest T,H.get b=some (OR (p::buf::rest) T)/\OnS buf x
def BK (b:Nat) (H H':AHeap):Prop:=H.next<=H'.next /\ ∀ c,c<H.next -> ¬ BOn H b c->H'.get c=H.get c /\ ¬ BOn H' b c
theorem BK.refl (b:Nat) (H:AHeap):BK b H H:=⟨qg _,fun c _ h=>⟨rfl,h⟩⟩
theorem BK.trans {b:Nat} {H H1 H2:AHeap} (h:BK b H H1) (h':BK b H1 H2):BK b H H2 :=
 ⟨x3 h.1 h'.1,fun c hc hn=>by
  obtain ⟨q1,q2⟩:=h.2 c hc hn
  obtain ⟨r1,r2⟩:=h'.2 c (qi hc h.1) q2
  exact ⟨r1.trans q1,r2⟩⟩
theorem BOn.iff {T:Nat} {H:AHeap} {b:Nat} {p buf:AV} {rest:List AV} (h:H.get b=some (OR (p::buf::rest) T)) (x:Nat):BOn H b x ↔ x=b\/OnS buf x:=by
 constructor
 ·rintro (q|⟨p',buf',rest',T',q1,q2⟩)
  ·exact .inl q
  ·rw [h] at q1;injection q1 with q1;injection q1 with q1 _;injection q1 with _ q1;injection q1 with q1 _;subst q1;exact .inr q2
 ·rintro (q|q)
  ·exact .inl q
  ·exact .inr ⟨p,buf,rest,T,h,q⟩
theorem BK.of {T T':Nat} {H H':AHeap} {b:Nat} {p buf p' buf':AV} {rest rest':List AV} (h:H.get b=some (OR (p::buf::rest) T)) (h':H'.get b=some (OR (p'::buf'::rest') T')) (hn:H.next<=H'.next)
 (hk:∀ c,c<H.next->c ≠ b -> ¬ OnS buf c->H'.get c=H.get c) (ho:∀ c,OnS buf' c->OnS buf c\/H.next<=c):BK b H H' :=
 ⟨hn,fun c hc hb=>by
  rw [BOn.iff h] at hb
  rw [BOn.iff h']
  exact ⟨hk c hc (fun q=>hb (.inl q)) fun q=>hb (.inr q),fun q=>q.elim (fun q=>hb (.inl q)) fun q=>(ho c q).elim (fun r=>hb (.inr r)) fun r=>by omega⟩⟩
theorem BK.fr {b:Nat} {H H':AHeap} (f:Fr Em H H') (hb:b<H.next):BK b H H' :=
 ⟨f.next,fun c hc hn=>⟨f.keep c hc id,fun q=>hn (q.imp id fun ⟨p,buf,rest,T,h1,h2⟩=>⟨p,buf,rest,T,by rw [<-f.keep b hb id];exact h1,h2⟩)⟩⟩
section
variable {q:Bool} {T:Nat} {H0 H H':AHeap} {b:Nat} {xs:List UInt8} {rest:List AV}
theorem BE.em (h:BE q T H0 H b xs rest) (f:Fr Em H H'):BE q T H0 H' b xs rest:=by
 obtain ⟨⟨p,buf,h1,h2,h3,h4,h5⟩,lo,hi,ty⟩:=h
 exact ⟨⟨p,buf,by rw [f.keep b hi id,h1],h2,h3.em f,h4,h5⟩,lo,qi hi f.next,ty⟩
theorem BE.fr (h:BE q T H0 H b xs rest):Fr Em H0 H:=by obtain ⟨⟨p,buf,h1,h2,h3,h4,h5⟩,lo,hi,ty⟩:=h;exact h3.fr
theorem BE.off (h:BE q T H0 H b xs rest) {c:Nat} (hc:H.next<=c):¬ BOn H b c:=by
 obtain ⟨⟨p,buf,h1,h2,h3,h4,h5⟩,lo,hi,ty⟩:=h
 rw [BOn.iff h1]
 rintro (r|r)
 ·omega
 ·have:=(h3.on c r).2;omega
theorem BE.put (h:BE q T H0 H b xs rest) {p buf:AV} {rest':List AV} (hg:H.get b=some (OR (p::buf::rest) T)) (hl:rest'.length=rest.length):BE q T H0 (H.set b (OR (p::buf::rest') T)) b xs rest'/\BK b H (H.set b (OR (p::buf::rest') T)):=by
 obtain ⟨⟨p',buf',h1,h2,h3,h4,h5⟩,lo,hi,ty⟩:=h
 rw [hg] at h1;injection h1 with h1;injection h1 with h1 _;injection h1 with e1 h1;injection h1 with e2 _
 subst e1;subst e2
 refine ⟨⟨⟨p,buf,ji ..,h2,h3.setOff lo h4 _,h4,h5⟩,lo,hi,by rw [hl];exact ty⟩,BK.of hg (ji ..) (qg _) (fun c _ hc _=>by rw [qgt (fun q=>hc q.symm)]) fun c q=>.inl q⟩
end
theorem qna {q:Bool} {T:Nat} {H0 H:AHeap} {b:Nat} {xs s:List UInt8} {rest:List AV} (h:BE q T H0 H b xs rest) (hl:xs.length+s.length<=140737488355328) :
 yv M jh [.ptr b 0,.str s] H fun v H'=>BE q T H0 H' b (xs++s) rest/\BK b H H':=by
 obtain ⟨⟨p,buf,h1,h2,h3,h4,h5⟩,lo,hi,ty⟩:=h
 refine qhk ?_
 simp only [↓qh,qx,reduceIte,Nat.reduceEqDiff,qbx]
 refine C3.q (qm0 (M:=M) h1 h2 ty) fun v H1 ⟨g1,f1,n1⟩=>?_
 have h3':BufZ H0 H1 buf xs:=h3.frW f1 (h3.fr.trans f1 fun x (r:x=b)=>.inr (by omega)) fun x hx (r:x=b)=>h4 (by rw [<-r];exact hx)
 simp (maxSteps:=4000000) (disch:=first|(simp only [jj,km];done) | (simp only [jj,km];omega) | omega) only [↓qh,qx,q33,qk,qu,jx,zr,jw,zq,qam,wy,Nat.reduceAdd,Nat.reduceSub,Nat.reduceLeDiff,Int.reduceLT,Int.reduceLE,Int.reduceEq,reduceIte,Nat.reduceEqDiff,qbx,g1]
 refine h3'.app hl fun v' H2 hv' hf hfr hsv=>?_
 have g2:H2.get b=some (OR (.ptr b 0::buf::rest) T):=by rw [hf.keep b (qi hi f1.next) h4,g1]
 have hone:oneCell v'=true:=hv'.one
 have hn:¬ OnS v' b:=fun k=>(hfr b k).elim h4 fun r=>by have:=f1.next;omega
 have hcl:AV.cells v'=[v']:=by cases v'<;>first|rfl|cases hone
 simp (maxSteps:=4000000) (disch:=first|(simp only [jj,km];done) | (simp only [jj,km];omega) | omega) only [↓qh,qx,q33,qk,qu,jx,zr,jw,zq,qam,wy,Nat.reduceAdd,Nat.reduceSub,Nat.reduceLeDiff,Int.reduceLT,Int.reduceLE,Int.reduceEq,reduceIte,Nat.reduceEqDiff,qbx,g2,hcl,hone,qk,Nat.le_add_left]
 have hv2:=hv'.setOff (b:=b) lo hn (OR (.ptr b 0::v'::rest) T)
 refine ⟨⟨⟨_,_,ji ..,.inr rfl,hv2,hn,fun k1 k2=>?_⟩,lo,by rw [qmo];have:=f1.next;have:=hf.next;omega,ty⟩,BK.of h1 (ji ..) (by rw [qmo];exact x3 f1.next hf.next) (fun c hc hcb hco=>?_) fun c q=>(hfr c q).imp id fun r=>by omega⟩
 ·obtain ⟨k3,k4⟩:=List.append_eq_nil_iff.1 k1
  rw [hsv k4];exact h5 k3 k2
 rw [qgt (fun q=>hcb q.symm),hf.keep c (qi hc f1.next) hco,f1.keep c hc hcb]
theorem makeNZ {n:Nat} (h:n<=140737488355328):Op.makeNoZero vj [.int .i64 (n:Int)]=some (.grown 0 1 [] vj (0,0),Op.gsliceTo 0 n):=by
 have e1:leI 0 (n:Int)=true:=by rw [qju];simp
 have e2:leI (n:Int) 140737488355328=true:=by rw [qju];simp;omega
 simp only [Op.makeNoZero,e1,e2,jt,qn,qc0]
theorem tyB:liesB Tryd.prog 78 qc3 2 0=true:=by kernel_rfl
abbrev BS (H0 H:AHeap) (b:Nat) (xs:List UInt8):Prop:=BE true qc3 H0 H b xs []
theorem q39 {H0 H:AHeap} {b n:Nat} (h:H.get b=some (OR [.nilp,.nils] qc3)) (lo:H0.next<=b) (hi:b<H.next) (hf0:Fr Em H0 H) (hn:n<=140737488355328) :
 yv M wf [.ptr b 0,.int .i64 (n:Int)] H fun v H'=>BS H0 H' b []:=by
 refine qlj ?_
 simp only [↓qh,qx,reduceIte,Nat.reduceEqDiff,qcl]
 refine C3.q (qm0 (M:=M) h (.inl rfl) tyB) fun v H1 ⟨g1,f1,n1⟩=>?_
 have ef1:Fr Em H0 H1:=hf0.trans f1 fun x (q:x=b)=>.inr (by omega)
 have e0:¬ (n:Int)<0:=by omega
 have c0:Op.cap [.nils]=some (.int .i64 0):=rfl
 have l0:Op.lenSl [.nils]=some (.int .i64 0):=rfl
 have w0:wrapI .i64 (0-0)=0:=rfl
 have hi1:b<H1.next:=qi hi f1.next
 by_cases hz:(0:Int)<(n:Int)
 ·simp (maxSteps:=4000000) (disch:=first|(simp only [jj,km];done) | (simp only [jj,km];omega) | omega) only [↓qh,qx,q33,qk,qu,jx,zr,jw,zq,qam,wy,Nat.reduceAdd,Nat.reduceSub,Nat.reduceLeDiff,Int.reduceLT,Int.reduceLE,Int.reduceEq,reduceIte,Nat.reduceEqDiff,qcl,e0,g1,c0,l0,w0,hz]
  refine C3.q (R:=fun v H'=>BS H0 H' b []) (qll ?_) fun v H' hb=>?_
  ·have w1:wrapI .i64 (2*0)=0:=rfl
   have w2:wrapI .i64 (0+(n:Int))=(n:Int):=by rw [jn (by omega) (by omega)];omega
   have s0:Op.sliceSl 1 [none,some 0,none] [.gslice H1.next 0 0 1 0 n,.int .i64 0]=some (.gslice H1.next 0 0 1 0 0):=rfl
   have k0:Op.gsliceTo 0 n H1.next=.gslice H1.next 0 0 1 0 n:=rfl
   have cp:∀ H,Op.copy 1 [.gslice H1.next 0 0 1 0 0,.nils] H=some (.int .i64 0,H):=fun H=>rfl
   have hcl:AV.cells (.gslice H1.next 0 0 1 0 0)=[.gslice H1.next 0 0 1 0 0]:=rfl
   have hone:oneCell (.gslice H1.next 0 0 1 0 0)=true:=rfl
   simp (maxSteps:=4000000) (disch:=first|(simp only [jj,km];done) | (simp only [jj,km];omega) | omega) only [↓qh,qx,q33,qk,qu,jx,zr,jw,zq,qam,wy,Nat.reduceAdd,Nat.reduceSub,Nat.reduceLeDiff,Int.reduceLT,Int.reduceLE,Int.reduceEq,reduceIte,Nat.reduceEqDiff,qlm,g1,c0,l0,w1,w2,makeNZ hn,k0,s0,cp,hcl,hone]
   have hnew:BufZ H0 (H1.alloc (.grown 0 1 [] vj (0,0))) (.gslice H1.next 0 0 1 0 0) [] :=
    ⟨.inr ⟨H1.next,(0,0),rfl,by rw [ze];omega,ef1.next,xr ..,by simp,rfl⟩,ef1.alloc _⟩
   have hnb:¬ OnS (.gslice H1.next 0 0 1 0 0) b:=fun q=>by have:b=H1.next:=q.2;omega
   have hv2:=hnew.setOff (b:=b) lo hnb (OR [.ptr b 0,.gslice H1.next 0 0 1 0 0] qc3)
   exact ⟨⟨_,_,ji ..,.inr rfl,hv2,hnb,fun _ k=>nomatch k⟩,lo,by rw [qmo,ze];omega,tyB⟩
  ·simp only [↓qh,qx,reduceIte,Nat.reduceEqDiff,qcl]
   exact hb
 ·simp (maxSteps:=4000000) (disch:=first|(simp only [jj,km];done) | (simp only [jj,km];omega) | omega) only [↓qh,qx,q33,qk,qu,jx,zr,jw,zq,qam,wy,Nat.reduceAdd,Nat.reduceSub,Nat.reduceLeDiff,Int.reduceLT,Int.reduceLE,Int.reduceEq,reduceIte,Nat.reduceEqDiff,qcl,e0,g1,c0,l0,w0,hz]
  exact ⟨⟨_,_,g1,.inr rfl,BufZ.nil ef1,fun q=>q.1 rfl,fun _ _=>rfl⟩,lo,hi1,tyB⟩
theorem Len_spec {q:Bool} {T:Nat} {H0 H:AHeap} {b:Nat} {xs:List UInt8} {rest:List AV} (h:BE q T H0 H b xs rest) :
 yv M yh [.ptr b 0] H fun v H'=>v=.int .i64 (xs.length:Nat)/\H'=H:=by
 obtain ⟨⟨p,buf,h1,h2,h3,h4,h5⟩,lo,hi,ty⟩:=h
 refine ql8 ?_
 simp (maxSteps:=4000000) (disch:=first|(simp only [jj,km];done) | (simp only [jj,km];omega) | omega) only [↓qh,qx,q33,qk,qu,jx,zr,jw,zq,qam,wy,Nat.reduceAdd,Nat.reduceSub,Nat.reduceLeDiff,Int.reduceLT,Int.reduceLE,Int.reduceEq,reduceIte,Nat.reduceEqDiff,ql9,h1,h3.len]
theorem q4p (xs:List UInt8):bytesOf (xs.flatMap encB)=some xs:=by rw [qj4];exact qnc xs
theorem qm9 {q:Bool} {T:Nat} {H0 H:AHeap} {b:Nat} {xs:List UInt8} {rest:List AV} (h:BE q T H0 H b xs rest) (hl:xs.length<=140737488355328) (hq:xs ≠ []\/q=false) :
 yv M kg [.ptr b 0] H fun v H'=>v=.str xs/\BE q T H0 H' b xs rest/\BK b H H':=by
 have hbe:=h
 obtain ⟨⟨p,buf,h1,h2,h3,h4,h5⟩,lo,hi,ty⟩:=h
 refine qkq ?_
 by_cases hx:xs=[]
 ·have hb:buf=.nils:=h5 hx (hq.resolve_left fun k=>k hx)
  subst hb;subst hx
  have e1:Op.sliceData [.nils]=some .nilp:=rfl
  have e2:Op.lenSl [.nils]=some (.int .i64 0):=rfl
  have e3:Op.strOfPtr vj [.nilp,.int .i64 0] H=some (.str [],H):=rfl
  simp (maxSteps:=4000000) (disch:=first|(simp only [jj,km];done) | (simp only [jj,km];omega) | omega) only [↓qh,qx,q33,qk,qu,jx,zr,jw,zq,qam,wy,Nat.reduceAdd,Nat.reduceSub,Nat.reduceLeDiff,Int.reduceLT,Int.reduceLE,Int.reduceEq,reduceIte,Nat.reduceEqDiff,qfz,h1,e1,e2,e3]
  exact ⟨hbe,BK.refl _ _⟩
 have hlen:0<xs.length:=List.length_pos_iff.2 hx
 rcases h3.own with ⟨_,k⟩|⟨d,fz,rfl,q1,q2,q3,q4,q5⟩
 ·exact (hx k).elim
 have e1:Op.sliceData [.gslice d 0 xs.length 1 0 xs.length]=some (.ptr d 0):=by
  show cond (Nat.blt 0 xs.length) (some (AV.ptr d (0*1))) none=_
  rw [qes hlen];rfl
 have e2:Op.lenSl [.gslice d 0 xs.length 1 0 xs.length]=some (.int .i64 (xs.length:Nat)):=rfl
 have k4:takeAt (xs.flatMap encB) 0 xs.length=some (xs.flatMap encB):=by
  rw [vu,qj4,xi (by simp),jw,zk (by simp)]
 have k5:Op.fzJoin fz 0 xs.length=(0,xs.length):=by
  show cond (Nat.beq fz.1 fz.2) _ _=_
  cases hb:Nat.beq fz.1 fz.2 with
  | true=>rw [qn];simp
  | false=>rw [qy,q5];simp;omega
 have e3:Op.strOfPtr vj [.ptr d 0,.int .i64 (xs.length:Nat)] H=some (.str xs,H.set d (.grown xs.length 1 (xs.flatMap encB) vj (0,xs.length))):=by
  have k1:eqI (xs.length:Int) 0=false:=by rw [qio];simp;omega
  have k2:(ltI (xs.length:Int) 0 || ltI 140737488355328 (xs.length:Int))=false:=by rw [qhq,qhq];simp;omega
  have k3:∀ n,Nat.beq n n=true:=fun n=>by simp
  simp only [Op.strOfPtr,k1,k2,qy,q3,k3,qap (show fz.1<=fz.2 by omega),jt,qn,qc0,k4,qf,q4p,k5]
 simp (maxSteps:=4000000) (disch:=first|(simp only [jj,km];done) | (simp only [jj,km];omega) | omega) only [↓qh,qx,q33,qk,qu,jx,zr,jw,zq,qam,wy,Nat.reduceAdd,Nat.reduceSub,Nat.reduceLeDiff,Int.reduceLT,Int.reduceLE,Int.reduceEq,reduceIte,Nat.reduceEqDiff,qfz,h1,e1,e2,e3]
 have hdb:d ≠ b:=fun k=>h4 ⟨by simp,k.symm⟩
 have g:(H.set d (.grown xs.length 1 (xs.flatMap encB) vj (0,xs.length))).get b=some (OR (p::.gslice d 0 xs.length 1 0 xs.length::rest) T):=by rw [qgt hdb,h1]
 exact ⟨⟨⟨p,_,g,h2,⟨.inr ⟨d,(0,xs.length),rfl,q1,q2,ji ..,qg _,rfl⟩,h3.fr.set (.inr q2) _⟩,h4,h5⟩,lo,hi,ty⟩,
  BK.of h1 g (qg _) (fun c _ _ hc=>qgt (fun k=>hc ⟨by simp,k.symm⟩) _) fun c k=>.inl k⟩
end Go.Am
namespace Go.Am
open Go.Proofs Lang
variable {M:Mac} [MK M]
theorem qn6:qgr=List.replicate 128 32:=by decide +kernel
theorem qts {H:AHeap}:yv M jy [.str qgr,.str [32,32]] H fun v H'=>v=.bool true/\H'=H:=by
 refine qi8 ?_
 simp only [↓qh,qx,reduceIte,Nat.reduceEqDiff,qfl]
 refine C3.q (R:=fun v H'=>v=.bool true/\H'=H) (qcy ?_) fun v H1 ⟨hv,hh⟩=>?_
 ·have l1:Op.lenStr [.str qgr]=some (.int .i64 128):=by rw [qn6];rfl
  have l2:Op.lenStr [.str [32,32]]=some (.int .i64 2):=rfl
  have s1:Op.sliceStr [none,some 0] [.str qgr,.int .i64 2]=some (.str [32,32]):=by rw [qn6];rfl
  simp only [↓qh,qx,reduceIte,Nat.reduceEqDiff,qa2,l1,l2,s1,Int.reduceLE]
 ·subst hv;subst hh
  simp only [↓qh,qx,reduceIte,Nat.reduceEqDiff,qfl]
theorem min3 {a b c:Nat} (h:a<=c\/b<=c):Op.minmax false [.int .i64 (a:Int),.int .i64 (b:Int),.int .i64 (c:Int)]=some (.int .i64 ((min a b:Nat):Int)):=by
 simp only [Op.minmax,Op.minmaxGo,qf,qy,qhq]
 have e:(cond (decide ((b:Int)<(a:Int))) (b:Int) (a:Int))=((min a b:Nat):Int):=by
  by_cases q:b<a
  ·rw [qb8 (by omega),qn];omega
  ·rw [wq (by omega),qy];omega
 rw [e,wq (by omega),qy]
theorem qru {H:AHeap} {d:Nat} (hd:d<=4000):yv M qay [.str [32,32],.int .i64 (d:Int)] H fun v H'=>v=.str (ind d)/\Fr Em H H':=by
 refine qq3 ?_
 obtain ⟨w0,w2,w19,w25,w27,w33,w35,w43,w99,w65,-,w101,w79,-,w113,-,w91,w117,w119,w132,w122,w128⟩:=qq4 M ⟨none,qay⟩
 by_cases d0:d=0
 ·subst d0
  have:=vf (show ((0:Nat):Int)=0 from rfl)
  simp only [↓qh,qx,reduceIte,Nat.reduceEqDiff,w0,w2,this]
  exact ⟨rfl,Fr.refl _⟩
 have c0:¬ (d:Int)=0:=by omega
 by_cases d1:d=1
 ·subst d1
  have h1:=vf (show ((1:Nat):Int)=1 from rfl)
  simp only [↓qh,qx,reduceIte,Nat.reduceEqDiff,w0,w2,c0,h1]
  exact ⟨rfl,Fr.refl _⟩
 have c1:¬ (d:Int)=1:=by omega
 have c2:¬ (d:Int)<0:=by omega
 have l2:Op.lenStr [.str [32,32]]=some (.int .i64 2):=rfl
 have wl:wrapI .u64 2=2:=rfl
 have wd:wrapI .u64 (d:Int)=(d:Int):=qd7 (by omega) (by omega)
 simp only [↓qh,qx,reduceIte,Nat.reduceEqDiff,w0,w2,w19,w25,c0,c1,c2,l2,wl,wd]
 refine C3.q (q07 (M:=M) (x:=2) (.inr rfl) (y:=d) (by omega)) fun v H1 ⟨hv,hh⟩=>?_
 obtain ⟨n,hn⟩:∃ n,n=2*d:=⟨_,rfl⟩
 rw [<-hn] at hv
 subst hv;subst hh
 have e1:¬ (9223372036854775807:Int)<(n:Int):=by omega
 have e2:¬ (0:Int)<0:=by decide
 have wi:wrapI .i64 (n:Int)=(n:Int):=jn (by omega) (by omega)
 have e3:¬ (2:Int)=0:=by decide
 have ix:Op.indexStr [.str [32,32],.int .i64 0]=some (.int .u8 32):=rfl
 have e4:=vf (show (32:Int)=32 from rfl)
 have hind:ind d=List.replicate n 32:=by rw [hn];rfl
 by_cases hs:(n:Int)<=128
 ·simp only [↓qh,qx,reduceIte,Nat.reduceEqDiff,w27,w33,w35,w43,w65,zu,e1,e2,wi,l2,e3,ix,hs]
  refine C3.q qts fun v H2 ⟨hv,hh⟩=>?_
  subst hv;subst hh
  have s1:Op.sliceStr [none,some 0] [.str qgr,.int .i64 (n:Int)]=some (.str (ind d)):=by
   rw [qnq (by rw [qn6];simp;omega),qn6,List.take_replicate,qan (by omega),hind]
  simp only [↓qh,qx,reduceIte,Nat.reduceEqDiff,s1]
  exact Fr.refl _
 ·have hs2:¬ (n:Int)<=64:=by omega
  have hs3:¬ (8192:Int)<(n:Int):=by omega
  simp only [↓qh,qx,reduceIte,Nat.reduceEqDiff,w27,w33,w35,w43,w65,w79,w91,w99,w101,w113,zu,e1,e2,wi,l2,e3,ix,hs,hs2,hs3]
  refine C3.q (q39 (M:=M) (H0:=H1) (xr ..) (qg _) (by rw [ze];omega) ((Fr.refl H1).alloc _) (by omega)) fun v H2 hb2=>?_
  simp only [↓qh,qx,reduceIte,Nat.reduceEqDiff,w117]
  refine C3.q (qna (M:=M) (s:=[32,32]) hb2 (by simp)) fun v H3 ⟨hb3,_⟩=>?_
  simp only [↓qh,qx,reduceIte,Nat.reduceEqDiff,w119]
  refine LOOP3.intro (fun k E' H'=>∃ L,E'=[(8,.int .i64 (n:Nat)),(7,.int .i64 (n:Nat)),(9,.ptr H1.next 0)]/\k=n-L/\2<=L/\L<=n/\BS H1 H' H1.next (List.replicate L 32)) ?_ ?_
  ·exact ⟨_,_,⟨2,rfl,rfl,by omega,by omega,hb3⟩,by simp only [↓qh,qx,reduceIte,Nat.reduceEqDiff]⟩
  rintro k E' Hc ⟨L,rfl,rfl,hL,hLn,hb⟩
  simp only [↓qh,qx,reduceIte,Nat.reduceEqDiff,w122]
  have hlen:=Len_spec (M:=M) hb
  rw [List.length_replicate] at hlen
  refine C3.q hlen fun v H4 ⟨hv,hh⟩=>?_
  subst hv;subst hh
  rcases ke L n with hlt|hge
  ·have f1:(L:Int)<(n:Nat):=by omega
   simp only [↓qh,qx,reduceIte,Nat.reduceEqDiff,f1,w128]
   refine C3.q hlen fun v H5 ⟨hv,hh⟩=>?_
   subst hv;subst hh
   have ws:wrapI .i64 ((n:Int)-(L:Int))=((n-L:Nat):Int):=by rw [jn (by omega) (by omega)];omega
   simp only [↓qh,qx,reduceIte,Nat.reduceEqDiff,ws]
   refine C3.q hlen fun v H6 ⟨hv,hh⟩=>?_
   subst hv;subst hh
   simp only [↓qh,qx,reduceIte,Nat.reduceEqDiff,min3 (show n-L<=n\/L<=n by omega)]
   refine C3.q (qm9 (M:=M) hb (by simp;omega) (.inl (by simp;omega))) fun v H7 ⟨hv,hb7,_⟩=>?_
   subst hv
   have s1:Op.sliceStr [none,some 0] [.str (List.replicate L 32),.int .i64 ((min (n-L) L:Nat):Int)]=some (.str (List.replicate (min (n-L) L) 32)):=by
    rw [qnq (by simp;omega),List.take_replicate,qan (by omega)]
   simp only [↓qh,qx,reduceIte,Nat.reduceEqDiff,s1]
   refine C3.q (qna (M:=M) hb7 (by simp;omega)) fun v H8 ⟨hb8,_⟩=>?_
   rw [List.replicate_append_replicate] at hb8
   simp only [↓qh,qx,reduceIte,Nat.reduceEqDiff]
   exact ⟨_,_,⟨L+min (n-L) L,rfl,rfl,by omega,by omega,hb8⟩,by simp only [↓qh,qx,reduceIte,Nat.reduceEqDiff],by omega⟩
  ·have hLe:L=n:=by omega
   subst hLe
   have f1:¬ (L:Int)<(L:Nat):=by omega
   simp only [↓qh,qx,reduceIte,Nat.reduceEqDiff,f1,w132]
   refine C3.q (qm9 (M:=M) hb (by simp;omega) (.inl (by simp;omega))) fun v H7 ⟨hv,hb7,_⟩=>?_
   subst hv
   simp only [↓qh,qx,reduceIte,Nat.reduceEqDiff]
   exact ⟨by rw [hind],hb7.fr⟩
end Go.Am
