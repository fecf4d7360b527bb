/- LrQ2: LpF LpG StB StC. -/
import Derived.Test.YtbimikjajohflaaDoorAmQLrQ1
import Derived.Test.YtbimikjajohflaaDoorAmQLrQ0
set_option linter.unusedVariables false
set_option linter.unusedSimpArgs false
set_option linter.unusedSectionVars false
set_option maxRecDepth 100000
namespace Go.Am
open Lang Go.Proofs
variable {M:Mac} [MK M]
end Go.Am
namespace Go.Am
open Lang Go.Proofs
variable {M:Mac} [MK M]
end Go.Am
namespace Go.Am
open Go.Proofs
variable {M:Mac} [MK M]
structure BufZ (H0 H:AHeap) (v:AV) (xs:List UInt8):Prop where
 own:(v=.nils/\xs=[]) \/ ∃ d fz,v=.gslice d 0 xs.length 1 0 xs.length/\d<H.next/\H0.next<=d/\H.get d=some (.grown xs.length 1 (xs.flatMap encB) qae fz)/\fz.2<=xs.length/\fz.1=0
 fr:Fr Em H0 H
section
variable {H0 H H':AHeap} {v:AV} {xs:List UInt8}
theorem BufZ.nil (f:Fr Em H0 H):BufZ H0 H .nils []:=⟨.inl ⟨rfl,rfl⟩,f⟩
theorem BufZ.on (h:BufZ H0 H v xs):∀ x,OnS v x->H0.next<=x/\x<H.next:=by
 rintro x ⟨h1,rfl⟩
 rcases h.own with ⟨rfl,_⟩|⟨d,fz,rfl,q1,q2,_⟩
 ·exact (h1 rfl).elim
 ·exact ⟨q2,q1⟩
theorem BufZ.frW {W:Nat->Prop} (h:BufZ H0 H v xs) (f:Fr W H H') (f0:Fr Em H0 H') (hw:∀ x,OnS v x -> ¬ W x):BufZ H0 H' v xs:=by
 refine ⟨?_,f0⟩
 rcases h.own with q|⟨d,fz,rfl,q1,q2,q3,q4⟩
 ·exact .inl q
 ·exact .inr ⟨d,fz,rfl,qj q1 f.next,q2,by rw [f.keep d q1 (hw d ⟨by simp,rfl⟩)];exact q3,q4⟩
theorem BufZ.em (h:BufZ H0 H v xs) (f:Fr Em H H'):BufZ H0 H' v xs:=h.frW f (h.fr.em f) fun _ _ q=>q
theorem BufZ.setOff (h:BufZ H0 H v xs) {b:Nat} (hb:H0.next<=b) (hn:¬ OnS v b) (o:AObj):BufZ H0 (H.set b o) v xs :=
 h.frW ((Fr.refl H).set (W:=On b) (.inl rfl) o) (h.fr.set (.inr hb) _) fun x hx (q:x=b)=>hn (by rw [<-q];exact hx)
theorem BufZ.one (h:BufZ H0 H v xs):oneCell v=true:=by
 rcases h.own with ⟨rfl,_⟩|⟨d,fz,rfl,_⟩<;>rfl
theorem BufZ.len (h:BufZ H0 H v xs):Op.lenSl [v]=some (.int .i64 (xs.length:Nat)):=by
 rcases h.own with ⟨rfl,rfl⟩|⟨d,fz,rfl,_⟩<;>rfl
theorem BufZ.app (h:BufZ H0 H v xs) {s:List UInt8} (hf:xs.length+s.length<=140737488355328) {K:Bool->AV->AHeap->Prop} {m:Bool}
 (hk:∀ v' H',BufZ H0 H' v' (xs++s)->Fr (OnS v) H H'->(∀ b,OnS v' b->OnS v b\/H.next<=b)->(s=[]->v'=v)->K m v' H'):B32 m (Op.append qae 1 1 [v,.str s] H) K:=by
 have hfit:fits (xs.length+s.length) 1=true:=qrd (by omega) (by omega)
 have ha:allOne (s.map fun c=>AV.int .u8 c.toNat)=true:=by rw [qex];simp [oneCell]
 have e1:∀ n,Nat.beq n n=true:=fun n=>by simp
 have hlt:Nat.blt 0 1=true:=rfl
 by_cases hs:s=[]
 ·subst hs
  rcases h.own with ⟨rfl,rfl⟩|⟨d,fz,rfl,q1,q2,q3,q4⟩
  ·exact B32.intro (a:=.nils) (b:=H) rfl (hk _ _ h (Fr.refl _) (fun b q=>.inl q) fun _=>rfl)
  ·refine B32.intro (a:=.gslice d 0 xs.length 1 0 xs.length) (b:=H) ?_ (hk _ _ (by simpa using h) (Fr.refl _) (fun b q=>.inl q) fun _=>rfl)
   have f0:firstCells H 1 0 (.str [])=some []:=rfl
   simp only [Op.append,qnv,js,qh,f0,ql4,qq,appendV,Nat.beq,ju,w5 (qf xs.length)]
 ·have hs0:s.length ≠ 0:=fun q=>hs (jz.1 q)
  have h0:Nat.beq s.length 0=false:=qdu hs0
  rcases h.own with ⟨rfl,rfl⟩|⟨d,fz,rfl,q1,q2,q3,q4,q5⟩
  ·simp only [js,ju] at hfit
   refine B32.intro (a:=.gslice H.next 0 s.length 1 0 s.length) (b:=H.alloc (.grown s.length 1 (s.map fun c=>AV.int .u8 c.toNat) qae (0,0))) ?_ (hk _ _ ⟨.inr ⟨H.next,(0,0),rfl,by rw [jh];omega,h.fr.next,by rw [jb,zo,qkp],by simp,rfl⟩,h.fr.alloc _⟩ ((Fr.refl H).alloc _) (fun b q=>.inr (by rw [q.2];exact qf _)) fun q=>(hs q).elim)
   simp only [Op.append,qnv,qh,qok,ha,qq,appendV,h0,xl,hfit,hlt,kc,grownV]
  ·have h3:Nat.ble (0+xs.length+s.length) xs.length=false:=by cases hq:Nat.ble (0+xs.length+s.length) xs.length with|false=>rfl|true=>rw [km] at hq;omega
   have h4:=w5 (show 0+xs.length<=xs.length by omega)
   have h5:=w5 (show fz.2<=xs.length*1 by omega)
   refine B32.intro (a:=.gslice H.next 0 (xs.length+s.length) 1 0 (xs.length+s.length)) (b:=(H.kill d).alloc (.grown (xs.length+s.length) 1 (xs.flatMap encB++s.map fun c=>AV.int .u8 c.toNat) qae fz)) ?_ (hk _ _ ⟨.inr ⟨H.next,fz,?_,?_,?_,?_,?_,q5⟩,?_⟩ ?_ (fun b q=>.inr (by rw [q.2];exact qf _)) fun q=>(hs q).elim)
   ·simp only [Op.append,qnv,qh,qok,ha,qq,appendV,h0,xl,e1,h4,hlt,kc,h3,hfit,q3,h5,grownV,qdw,qat,Nat.beq]
   ·rw [qe]
   ·rw [jh,qdw];omega
   ·have:=h.fr.next;omega
   ·have:=jb (H.kill d) (.grown (xs.length+s.length) 1 (xs.flatMap encB++s.map fun c=>AV.int .u8 c.toNat) qae fz)
    rw [qdw] at this
    rw [this,qe,vl,qkp s]
   ·rw [qe];omega
   ·exact (h.fr.kill (.inr q2)).alloc _
   ·exact (Fr.kill (W:=OnS (AV.gslice d 0 xs.length 1 0 xs.length)) (Fr.refl H) (.inl ⟨by simp,rfl⟩)).alloc _
end
structure BE (q:Bool) (T:Nat) (H0 H:AHeap) (b:Nat) (xs:List UInt8) (rest:List AV):Prop where
 row:∃ p buf,H.get b=some (OR (p::buf::rest) T)/\(p=.nilp\/p=.ptr b 0)/\BufZ H0 H buf xs /\ ¬ OnS buf b/\(xs=[]->q=false->buf=.nils)
 lo:H0.next<=b
 hi:b<H.next
 ty:liesB Tryd.prog 78 T (rest.length+2) 0=true
def BOn (H:AHeap) (b:Nat) (x:Nat):Prop:=x=b \/ ∃ p buf rest T,H.get b=some (OR (p::buf::rest) T)/\OnS buf x
def BK (b:Nat) (H H':AHeap):Prop:=H.next<=H'.next /\ ∀ c,c<H.next -> ¬ BOn H b c->H'.get c=H.get c /\ ¬ BOn H' b c
theorem BK.refl (b:Nat) (H:AHeap):BK b H H:=⟨qf _,fun c _ h=>⟨rfl,h⟩⟩
theorem BK.trans {b:Nat} {H H1 H2:AHeap} (h:BK b H H1) (h':BK b H1 H2):BK b H H2 :=
 ⟨xw h.1 h'.1,fun c hc hn=>by
  obtain ⟨q1,q2⟩:=h.2 c hc hn
  obtain ⟨r1,r2⟩:=h'.2 c (qj hc h.1) q2
  exact ⟨r1.trans q1,r2⟩⟩
theorem BOn.iff {T:Nat} {H:AHeap} {b:Nat} {p buf:AV} {rest:List AV} (h:H.get b=some (OR (p::buf::rest) T)) (x:Nat):BOn H b x ↔ x=b\/OnS buf x:=by
 constructor
 ·rintro (q|⟨p',buf',rest',T',q1,q2⟩)
  ·exact .inl q
  ·rw [h] at q1;injection q1 with q1;injection q1 with q1 _;injection q1 with _ q1;injection q1 with q1 _;subst q1;exact .inr q2
 ·rintro (q|q)
  ·exact .inl q
  ·exact .inr ⟨p,buf,rest,T,h,q⟩
theorem BK.of {T T':Nat} {H H':AHeap} {b:Nat} {p buf p' buf':AV} {rest rest':List AV} (h:H.get b=some (OR (p::buf::rest) T)) (h':H'.get b=some (OR (p'::buf'::rest') T')) (hn:H.next<=H'.next)
 (hk:∀ c,c<H.next->c ≠ b -> ¬ OnS buf c->H'.get c=H.get c) (ho:∀ c,OnS buf' c->OnS buf c\/H.next<=c):BK b H H' :=
 ⟨hn,fun c hc hb=>by
  rw [BOn.iff h] at hb
  rw [BOn.iff h']
  exact ⟨hk c hc (fun q=>hb (.inl q)) fun q=>hb (.inr q),fun q=>q.elim (fun q=>hb (.inl q)) fun q=>(ho c q).elim (fun r=>hb (.inr r)) fun r=>by omega⟩⟩
theorem BK.fr {b:Nat} {H H':AHeap} (f:Fr Em H H') (hb:b<H.next):BK b H H' :=
 ⟨f.next,fun c hc hn=>⟨f.keep c hc id,fun q=>hn (q.imp id fun ⟨p,buf,rest,T,h1,h2⟩=>⟨p,buf,rest,T,by rw [<-f.keep b hb id];exact h1,h2⟩)⟩⟩
section
variable {q:Bool} {T:Nat} {H0 H H':AHeap} {b:Nat} {xs:List UInt8} {rest:List AV}
theorem BE.em (h:BE q T H0 H b xs rest) (f:Fr Em H H'):BE q T H0 H' b xs rest:=by
 obtain ⟨⟨p,buf,h1,h2,h3,h4,h5⟩,lo,hi,ty⟩:=h
 exact ⟨⟨p,buf,by rw [f.keep b hi id,h1],h2,h3.em f,h4,h5⟩,lo,qj hi f.next,ty⟩
theorem BE.fr (h:BE q T H0 H b xs rest):Fr Em H0 H:=by obtain ⟨⟨p,buf,h1,h2,h3,h4,h5⟩,lo,hi,ty⟩:=h;exact h3.fr
theorem BE.off (h:BE q T H0 H b xs rest) {c:Nat} (hc:H.next<=c):¬ BOn H b c:=by
 obtain ⟨⟨p,buf,h1,h2,h3,h4,h5⟩,lo,hi,ty⟩:=h
 rw [BOn.iff h1]
 rintro (r|r)
 ·omega
 ·have:=(h3.on c r).2;omega
theorem BE.put (h:BE q T H0 H b xs rest) {p buf:AV} {rest':List AV} (hg:H.get b=some (OR (p::buf::rest) T)) (hl:rest'.length=rest.length):BE q T H0 (H.set b (OR (p::buf::rest') T)) b xs rest'/\BK b H (H.set b (OR (p::buf::rest') T)):=by
 obtain ⟨⟨p',buf',h1,h2,h3,h4,h5⟩,lo,hi,ty⟩:=h
 rw [hg] at h1;injection h1 with h1;injection h1 with h1 _;injection h1 with e1 h1;injection h1 with e2 _
 subst e1;subst e2
 refine ⟨⟨⟨p,buf,yk ..,h2,h3.setOff lo h4 _,h4,h5⟩,lo,hi,by rw [hl];exact ty⟩,BK.of hg (yk ..) (qf _) (fun c _ hc _=>by rw [ql5 (fun q=>hc q.symm)]) fun c q=>.inl q⟩
end
end Go.Am
namespace Go.Am
open Go.Proofs Lang
variable {M:Mac} [MK M]
end Go.Am
