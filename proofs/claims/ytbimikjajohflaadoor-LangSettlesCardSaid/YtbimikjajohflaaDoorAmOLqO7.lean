/- LqO7: PkA LsA. -/
import Derived.Test.YtbimikjajohflaaDoorAmOLqO6
import Derived.Test.YtbimikjajohflaaDoorAmOLqO4
import Derived.Test.YtbimikjajohflaaDoorAmOLqOp
import Derived.Test.YtbimikjajohflaaDoorAmOLqO0
import Derived.Test.YtbimikjajohflaaDoorAmOCodeOb
set_option linter.unusedVariables false
set_option linter.unusedSimpArgs false
set_option linter.unusedSectionVars false
set_option maxRecDepth 100000
namespace Go.Am
open Lang Go.Proofs
variable {M:Mac} [MK M]
theorem print0 {p:Ls} (ho:p.ok):(printR p).2=0 ↔ p.dep<=50:=by
 unfold printR
 rw [p.scan 0 0 0 ho (by omega)]
 simp only
 split
 ·exact ⟨fun _=>by omega,fun _=>rfl⟩
 ·exact ⟨fun q=>absurd q (by decide),fun q=>by omega⟩
theorem print1 {p:Ls} (ho:p.ok) (h:p.dep<=50):printR p=(p.txt 0,0):=by
 have h2:(printR p).2=0:=(print0 ho).2 h
 unfold printR at h2 ⊢
 split
 ·rfl
 ·rename_i q;rw [qt q] at h2;exact absurd h2 (by decide)
theorem quu {H:AHeap} {tv:AV} {p:Ls} (h:NdI H tv (p.encL 0)) (ho:p.ok) (hz:p.sz+1<=2000):yv M qcs [tv] H fun v H'=>v=.tuple [.str (printR p).1,.int .i64 (printR p).2]/\Fr Em H H' :=
 q4g h.nd h.kids ((mayB_iff h.lo).2 ⟨p,rfl,ho,hz⟩) ho (Ls.small_of _ 0 fun y hy=>h.hi y (by unfold Ls.encL;exact List.mem_append_left _ hy)) hz h.pow h.pl
theorem q65 {p:Ls} (hs:p.small) (hz:p.sz+1<=2000) (hd:p.dep<=50):(p.txt 0).length<900000:=by
 have h:=p.txt_dep 0 50 hs (by omega)
 omega
theorem Lang.Ex.n_lt:∀ (x:Ex) (b:Nat),x.ok->x.small -> ∀ y ∈ x.enc b,0<=y.n/\y.n<18446744073709551616
 | .num n,b,ho,hs,y,hy=>by
  have hs:n<18446744073709551616:=hs
  simp only [Ex.enc,xb] at hy;subst hy;exact ⟨by show (0:Int)<=(n:Int);omega,by show (n:Int)<_;omega⟩
 | .var v,b,ho,hs,y,hy=>by
  have ho:v<=7:=ho
  simp only [Ex.enc,xb] at hy;subst hy;exact ⟨by show (0:Int)<=(v:Int);omega,by show (v:Int)<_;omega⟩
 | .load a,b,ho,hs,y,hy=>by
  simp only [Ex.enc,xj,xb] at hy
  rcases hy with h|rfl
  ·exact a.n_lt b ho hs y h
  ·exact ⟨by show (0:Int)<=0;decide,by show (0:Int)<_;decide⟩
 | .bin o x z,b,ho,hs,y,hy=>by
  simp only [Ex.enc,xj,xb] at hy
  rcases hy with h|h|rfl
  ·exact x.n_lt b ho.2.2.1 hs.1 y h
  ·exact z.n_lt _ ho.2.2.2 hs.2 y h
  ·exact ⟨by show (0:Int)<=0;decide,by show (0:Int)<_;decide⟩
theorem Lang.Cn.n_lt (c:Cn) (b:Nat) (ho:c.ok) (hs:c.small):∀ y ∈ c.enc b,0<=y.n/\y.n<18446744073709551616:=fun y hy=>by
 simp only [Cn.enc,xj,xb] at hy
 rcases hy with h|h|rfl
 ·exact c.a.n_lt b ho.2.2.1 hs.1 y h
 ·exact c.b.n_lt _ ho.2.2.2 hs.2 y h
 ·exact ⟨by show (0:Int)<=0;decide,by show (0:Int)<_;decide⟩
mutual
theorem Lang.St.n_lt:∀ (x:Lang.St) (b:Nat),x.ok->x.small -> ∀ y ∈ x.enc b,0<=y.n/\y.n<18446744073709551616
 | .set v a,b,ho,hs,y,hy=>by
  have hv:v<=7:=ho.1
  simp only [Lang.St.enc,xj,xb] at hy
  rcases hy with h|rfl
  ·exact a.n_lt b ho.2 hs y h
  ·exact ⟨by show (0:Int)<=(v:Int);omega,by show (v:Int)<_;omega⟩
 | .store x z,b,ho,hs,y,hy=>by
  simp only [Lang.St.enc,xj,xb] at hy
  rcases hy with h|h|rfl
  ·exact x.n_lt b ho.1 hs.1 y h
  ·exact z.n_lt _ ho.2 hs.2 y h
  ·exact ⟨by show (0:Int)<=0;decide,by show (0:Int)<_;decide⟩
 | .ite c l,b,ho,hs,y,hy=>by
  simp only [Lang.St.enc,xj,xb] at hy
  rcases hy with h|h|rfl|rfl
  ·exact c.n_lt b ho.1 hs.1 y h
  ·exact l.n_lt _ ho.2 hs.2 y h
  all_goals exact ⟨by show (0:Int)<=0;decide,by show (0:Int)<_;decide⟩
 | .ites c l m,b,ho,hs,y,hy=>by
  simp only [Lang.St.enc,xj,xb] at hy
  rcases hy with h|h|rfl|h|rfl|rfl
  ·exact c.n_lt b ho.1 hs.1 y h
  ·exact l.n_lt _ ho.2.1 hs.2.1 y h
  ·exact ⟨by show (0:Int)<=0;decide,by show (0:Int)<_;decide⟩
  ·exact m.n_lt _ ho.2.2 hs.2.2 y h
  all_goals exact ⟨by show (0:Int)<=0;decide,by show (0:Int)<_;decide⟩
 | .loop c l,b,ho,hs,y,hy=>by
  simp only [Lang.St.enc,xj,xb] at hy
  rcases hy with h|h|rfl|rfl
  ·exact c.n_lt b ho.1 hs.1 y h
  ·exact l.n_lt _ ho.2 hs.2 y h
  all_goals exact ⟨by show (0:Int)<=0;decide,by show (0:Int)<_;decide⟩
 | .atom l,b,ho,hs,y,hy=>by
  simp only [Lang.St.enc,xj,xb] at hy
  rcases hy with h|rfl|rfl
  ·exact l.n_lt _ ho.1 hs y h
  all_goals exact ⟨by show (0:Int)<=0;decide,by show (0:Int)<_;decide⟩
 | .halt,b,ho,hs,y,hy=>by
  simp only [Lang.St.enc,xb] at hy
  subst hy;exact ⟨by show (0:Int)<=0;decide,by show (0:Int)<_;decide⟩
theorem Lang.Ls.n_lt:∀ (x:Ls) (b:Nat),x.ok->x.small -> ∀ y ∈ x.enc b,0<=y.n/\y.n<18446744073709551616
 | .nil,b,ho,hs,y,hy=>by cases hy
 | .cons s l,b,ho,hs,y,hy=>by
  simp only [Ls.enc,xj] at hy
  rcases hy with h|h
  ·exact s.n_lt b ho.1 hs.1 y h
  ·exact l.n_lt _ ho.2 hs.2 y h
end
theorem ndI_of {H:AHeap} {nv:AV} {p:Ls} (h:Nds H nv (p.encL 0)) (ho:p.ok) (hs:p.small) (hz:p.sz+1<=2000) (hp:PowT H) (hpl:zt<H.next):NdI H nv (p.encL 0):=by
 have key:∀ y ∈ p.encL 0,0<=y.n/\y.n<18446744073709551616:=fun y hy=>by
  unfold Ls.encL at hy
  rcases xj.1 hy with q|q
  ·exact p.n_lt 0 ho hs y q
  ·rw [xb] at q;subst q;exact ⟨by show (0:Int)<=0;decide,by show (0:Int)<_;decide⟩
 refine ⟨h,fun y hy=>?_,fun y hy=>(key y hy).1,fun y hy=>(key y hy).2,hp,hpl⟩
 have:=It.enc_kids (.l p) 0 y hy
 have e:(It.l p).sz=p.sz+1:=rfl
 omega
theorem q3f {H:AHeap} {p:Ls} (hE:Ers H) (ho:p.ok) (hs:p.small) (hz:p.sz+1<=2000) (hd:p.dep<=50):yv M qbi [.str (p.txt 0)] H fun v H'=>Fr Em H H' /\ ∃ nv,v=.tuple [nv,.int .i64 0,.int .i64 0,.int .i64 0]/\Nds H' nv (p.encL 0) :=
 (qt9 (M:=M) (q65 hs hz hd) hE (Ls.back ho hs hd)).mono fun v H' ⟨h1,h2⟩=>⟨h1,h2⟩
theorem x4 (a b c d:AV):Op.extract 0 [.tuple [a,b,c,d]]=some a/\Op.extract 1 [.tuple [a,b,c,d]]=some b/\Op.extract 2 [.tuple [a,b,c,d]]=some c/\Op.extract 3 [.tuple [a,b,c,d]]=some d:=⟨rfl,rfl,rfl,rfl⟩
end Go.Am
namespace Go.Am
open Lang Go.Proofs
variable {M:Mac} [MK M]
theorem qrt {H:AHeap} {text:Tk} (hal:∀ H1,Fr Em H H1->yv M qn3 [] H1 fun v H'=>v=.bool true/\H'=H1) (hE:Ers H) (hp:PowT H) (hpl:zt<H.next) :
 yv M qa7 [.str text] H fun v' _=>v'=.bool true:=by
 refine qnn ?_
 obtain ⟨w0,w4,w12,w14,w22,w26⟩:=qno M ⟨none,qa7⟩
 simp only [↓qh,qx,reduceIte,Nat.reduceEqDiff,w0]
 refine C3.q (hal H (Fr.refl H)) fun va Ha ⟨hva,hha⟩=>?_
 subst hva;subst hha
 have t0:=vf (show (0:Int)=0 from rfl)
 by_cases hl:(1000:Int)<(text.length:Nat)
 ·simp only [↓qh,qx,reduceIte,Nat.reduceEqDiff,w4,hl]
 simp only [↓qh,qx,reduceIte,Nat.reduceEqDiff,w4,hl,w12]
 obtain ⟨p,τ,hP⟩:=(Lang.P.ex (skp false text).length).sts [] (skp false text) 0 false (qg _)
 refine C3.q (qt9 (M:=M) (by omega) hE hP) fun v H1 ⟨f1,hv⟩=>?_
 cases τ with
 | bad L =>
  have hv:v=.tuple [.nils,.int .i64 (lcOf text L).1,.int .i64 (lcOf text L).2,.int .i64 180]:=hv
  subst hv
  have e2:¬ (180:Int)=0:=by decide
  have nil0:Op.lenSl [.nils]=some (.int .i64 0):=rfl
  simp only [↓qh,qx,reduceIte,Nat.reduceEqDiff,x4,w14,e2,nil0,t0]
 | ok L =>
  obtain ⟨nv,hv,hn⟩:=hv
  subst hv
  obtain ⟨q,hq,ho,hs,hd,hz⟩:=hP.whole
  injection hq with hq
  subst hq
  have hz2:p.sz+1<=2000:=by omega
  have h1:=ndI_of hn ho hs hz2 ((f1.cells hpl id).trans hp) (qi hpl f1.next)
  have hlen:(p.encL 0).length<=2000:=by rw [Ls.lenL];omega
  simp only [↓qh,qx,reduceIte,Nat.reduceEqDiff,x4,w14,t0,w22]
  refine C3.q (quu (M:=M) h1 ho hz2) fun v H2 ⟨hv,f2⟩=>?_
  subst hv
  rw [print1 ho hd]
  simp only [↓qh,qx,reduceIte,Nat.reduceEqDiff,x20,x21]
  refine C3.q (q3f (M:=M) ((hE.em f1).em f2) ho hs hz2 hd) fun v H3 ⟨f3,nv2,hv,hn2⟩=>?_
  subst hv
  have f13:=f2.trans f3 fun _ q=>q.elim
  have h3:=ndI_of hn2 ho hs hz2 ((f3.cells (qi h1.pl f2.next) id).trans (h1.em f2).pow) (qi h1.pl f13.next)
  simp only [↓qh,qx,reduceIte,Nat.reduceEqDiff,x4,w26]
  refine C3.q (quu (M:=M) h3 ho hz2) fun v H4 ⟨hv,f4⟩=>?_
  subst hv
  rw [print1 ho hd]
  have te:=vf (show p.txt 0=p.txt 0 from rfl)
  simp only [↓qh,qx,reduceIte,Nat.reduceEqDiff,x20,x21,t0,te]
  refine C3.q (q4l (M:=M) ((h1.em f13).em f4).nd (h3.em f4).nd (by omega) h3.kids) fun v H5 ⟨hv,hh⟩=>?_
  subst hv;subst hh
  simp only [↓qh,qx,reduceIte,Nat.reduceEqDiff]
end Go.Am
