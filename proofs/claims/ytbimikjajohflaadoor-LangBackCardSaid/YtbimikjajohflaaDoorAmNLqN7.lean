/- LqN7: PkA LbA. -/
import Derived.Test.YtbimikjajohflaaDoorAmNLqN6
import Derived.Test.YtbimikjajohflaaDoorAmNLqN4
import Derived.Test.YtbimikjajohflaaDoorAmNLqNp
import Derived.Test.YtbimikjajohflaaDoorAmNLqN0
import Derived.Test.YtbimikjajohflaaDoorAmNCodeNb
set_option linter.unusedVariables false
set_option linter.unusedSimpArgs false
set_option linter.unusedSectionVars false
set_option maxRecDepth 100000
namespace Go.Am
open Lang Go.Proofs
variable {M:Mac} [MK M]
theorem print0 {p:Ls} (ho:p.ok):(printR p).2=0 ↔ p.dep<=50:=by
 unfold printR
 rw [p.scan 0 0 0 ho (by omega)]
 simp only
 split
 ·exact ⟨fun _=>by omega,fun _=>rfl⟩
 ·exact ⟨fun q=>absurd q (by decide),fun q=>by omega⟩
theorem print1 {p:Ls} (ho:p.ok) (h:p.dep<=50):printR p=(p.txt 0,0):=by
 have h2:(printR p).2=0:=(print0 ho).2 h
 unfold printR at h2 ⊢
 split
 ·rfl
 ·rename_i q;rw [qt q] at h2;exact absurd h2 (by decide)
theorem print2 {p:Ls} (h:(printR p).2 ≠ 0):printR p=([],2):=by
 unfold printR at h ⊢
 split
 ·rename_i q;rw [xi q] at h;exact (h rfl).elim
 ·rfl
theorem q4e {H:AHeap} {tv:AV} {p:Ls} (h:NdI H tv (p.encL 0)) (ho:p.ok) (hz:p.sz+1<=2000):yq M qcd [tv] H fun v H'=>v=.tuple [.str (printR p).1,.int .i64 (printR p).2]/\Fr Em H H' :=
 q5d h.nd h.kids ((q2f h.lo).2 ⟨p,rfl,ho,hz⟩) ho (Ls.small_of _ 0 fun y hy=>h.hi y (by unfold Ls.encL;exact List.mem_append_left _ hy)) hz h.pow h.pl
theorem q71 {p:Ls} (hs:p.small) (hz:p.sz+1<=2000) (hd:p.dep<=50):(p.txt 0).length<900000:=by
 have h:=p.txt_dep 0 50 hs (by omega)
 omega
theorem Lang.Ex.n_lt:∀ (x:Ex) (b:Nat),x.ok->x.small -> ∀ y ∈ x.enc b,0<=y.n/\y.n<18446744073709551616
 | .num n,b,ho,hs,y,hy=>by
  have hs:n<18446744073709551616:=hs
  simp only [Ex.enc,xg] at hy;subst hy;exact ⟨by show (0:Int)<=(n:Int);omega,by show (n:Int)<_;omega⟩
 | .var v,b,ho,hs,y,hy=>by
  have ho:v<=7:=ho
  simp only [Ex.enc,xg] at hy;subst hy;exact ⟨by show (0:Int)<=(v:Int);omega,by show (v:Int)<_;omega⟩
 | .load a,b,ho,hs,y,hy=>by
  simp only [Ex.enc,xj,xg] at hy
  rcases hy with h|rfl
  ·exact a.n_lt b ho hs y h
  ·exact ⟨by show (0:Int)<=0;decide,by show (0:Int)<_;decide⟩
 | .bin o x z,b,ho,hs,y,hy=>by
  simp only [Ex.enc,xj,xg] at hy
  rcases hy with h|h|rfl
  ·exact x.n_lt b ho.2.2.1 hs.1 y h
  ·exact z.n_lt _ ho.2.2.2 hs.2 y h
  ·exact ⟨by show (0:Int)<=0;decide,by show (0:Int)<_;decide⟩
theorem Lang.Cn.n_lt (c:Cn) (b:Nat) (ho:c.ok) (hs:c.small):∀ y ∈ c.enc b,0<=y.n/\y.n<18446744073709551616:=fun y hy=>by
 simp only [Cn.enc,xj,xg] at hy
 rcases hy with h|h|rfl
 ·exact c.a.n_lt b ho.2.2.1 hs.1 y h
 ·exact c.b.n_lt _ ho.2.2.2 hs.2 y h
 ·exact ⟨by show (0:Int)<=0;decide,by show (0:Int)<_;decide⟩
mutual
theorem Lang.St.n_lt:∀ (x:Lang.St) (b:Nat),x.ok->x.small -> ∀ y ∈ x.enc b,0<=y.n/\y.n<18446744073709551616
 | .set v a,b,ho,hs,y,hy=>by
  have hv:v<=7:=ho.1
  simp only [Lang.St.enc,xj,xg] at hy
  rcases hy with h|rfl
  ·exact a.n_lt b ho.2 hs y h
  ·exact ⟨by show (0:Int)<=(v:Int);omega,by show (v:Int)<_;omega⟩
 | .store x z,b,ho,hs,y,hy=>by
  simp only [Lang.St.enc,xj,xg] at hy
  rcases hy with h|h|rfl
  ·exact x.n_lt b ho.1 hs.1 y h
  ·exact z.n_lt _ ho.2 hs.2 y h
  ·exact ⟨by show (0:Int)<=0;decide,by show (0:Int)<_;decide⟩
 | .ite c l,b,ho,hs,y,hy=>by
  simp only [Lang.St.enc,xj,xg] at hy
  rcases hy with h|h|rfl|rfl
  ·exact c.n_lt b ho.1 hs.1 y h
  ·exact l.n_lt _ ho.2 hs.2 y h
  all_goals exact ⟨by show (0:Int)<=0;decide,by show (0:Int)<_;decide⟩
 | .ites c l m,b,ho,hs,y,hy=>by
  simp only [Lang.St.enc,xj,xg] at hy
  rcases hy with h|h|rfl|h|rfl|rfl
  ·exact c.n_lt b ho.1 hs.1 y h
  ·exact l.n_lt _ ho.2.1 hs.2.1 y h
  ·exact ⟨by show (0:Int)<=0;decide,by show (0:Int)<_;decide⟩
  ·exact m.n_lt _ ho.2.2 hs.2.2 y h
  all_goals exact ⟨by show (0:Int)<=0;decide,by show (0:Int)<_;decide⟩
 | .loop c l,b,ho,hs,y,hy=>by
  simp only [Lang.St.enc,xj,xg] at hy
  rcases hy with h|h|rfl|rfl
  ·exact c.n_lt b ho.1 hs.1 y h
  ·exact l.n_lt _ ho.2 hs.2 y h
  all_goals exact ⟨by show (0:Int)<=0;decide,by show (0:Int)<_;decide⟩
 | .atom l,b,ho,hs,y,hy=>by
  simp only [Lang.St.enc,xj,xg] at hy
  rcases hy with h|rfl|rfl
  ·exact l.n_lt _ ho.1 hs y h
  all_goals exact ⟨by show (0:Int)<=0;decide,by show (0:Int)<_;decide⟩
 | .halt,b,ho,hs,y,hy=>by
  simp only [Lang.St.enc,xg] at hy
  subst hy;exact ⟨by show (0:Int)<=0;decide,by show (0:Int)<_;decide⟩
theorem Lang.Ls.n_lt:∀ (x:Ls) (b:Nat),x.ok->x.small -> ∀ y ∈ x.enc b,0<=y.n/\y.n<18446744073709551616
 | .nil,b,ho,hs,y,hy=>by cases hy
 | .cons s l,b,ho,hs,y,hy=>by
  simp only [Ls.enc,xj] at hy
  rcases hy with h|h
  ·exact s.n_lt b ho.1 hs.1 y h
  ·exact l.n_lt _ ho.2 hs.2 y h
end
theorem q4b {H:AHeap} {p:Ls} (hE:Ers H) (ho:p.ok) (hs:p.small) (hz:p.sz+1<=2000) (hd:p.dep<=50):yq M qcc [.str (p.txt 0)] H fun v H'=>Fr Em H H' /\ ∃ nv,v=.tuple [nv,.int .i64 0,.int .i64 0,.int .i64 0]/\Nds H' nv (p.encL 0) :=
 (q3b (M:=M) (q71 hs hz hd) hE (Ls.back ho hs hd)).mono fun v H' ⟨h1,h2⟩=>⟨h1,h2⟩
theorem x4 (a b c d:AV):Op.extract 0 [.tuple [a,b,c,d]]=some a/\Op.extract 1 [.tuple [a,b,c,d]]=some b/\Op.extract 2 [.tuple [a,b,c,d]]=some c/\Op.extract 3 [.tuple [a,b,c,d]]=some d:=⟨rfl,rfl,rfl,rfl⟩
end Go.Am
namespace Go.Am
open Lang Go.Proofs
variable {M:Mac} [MK M]
theorem qx7 {H:AHeap} {tv:AV} {t:List Nd} (hn:Nds H tv t) (hl:t.length<=140737488355328):yq M qdk [tv] H fun v H'=>(∃ q,v=.bool q)/\H'=H:=by
 refine qwi ?_
 obtain ⟨w0,w4,w19,w9,w15,w18⟩:=qwj M ⟨none,qdk⟩
 simp only [↓qh,qx,reduceIte,Nat.reduceEqDiff,w0,w4]
 refine LOOP3.intro (fun k E' H'=>∃ j n,H'=H/\E'=[(4,.int .i64 (j:Nat)),(3,.int .i64 n),(0,tv)]/\k=t.length-j/\j<=t.length) ?_ ?_
 ·exact ⟨_,_,⟨0,0,rfl,rfl,rfl,by omega⟩,by simp only [↓qh,qx,reduceIte,Nat.reduceEqDiff]⟩
 rintro k E' H' ⟨j,n,rfl,rfl,rfl,hj⟩
 rcases j8 j t.length with hlt|hge
 ·have q1:(j:Int)<(t.length:Nat):=by omega
  obtain ⟨x,hx⟩:∃ x,t[j]? = some x:=⟨t[j],by simp [hlt]⟩
  obtain ⟨a,ha,_,a1,_,a3,a4,a5⟩:=hn.get hx
  have wj:wrapI .i64 ((j:Int)+1)=((j+1:Nat):Int):=by rw [jn (by omega) (by omega)];omega
  simp only [↓qh,qx,reduceIte,Nat.reduceEqDiff,w9,w15,w18,hn.len,q1,a1,a5,ha.len,wj]
  exact ⟨_,_,⟨j+1,_,rfl,rfl,by omega⟩,by simp only [↓qh,qx,reduceIte,Nat.reduceEqDiff];rfl,by omega⟩
 ·have q1:¬ (j:Int)<(t.length:Nat):=by omega
  simp only [↓qh,qx,reduceIte,Nat.reduceEqDiff,w9,w19,hn.len,q1]
  exact ⟨_,rfl⟩
theorem qxp {H:AHeap} {tv:AV} {t:List Nd} (hal:∀ H1,Fr Em H H1->yq M qod [] H1 fun v H'=>v=.bool true/\H'=H1) (h:NdI H tv t) (hE:Ers H) (ht:t.length<=140737488355328) :
 yq M qcu [tv] H fun v' _=>v'=.bool true:=by
 refine qrg ?_
 obtain ⟨w0,w4,w12,w14,w22⟩:=qrh M ⟨none,qcu⟩
 simp only [↓qh,qx,reduceIte,Nat.reduceEqDiff,w0]
 refine C3.q (hal H (Fr.refl H)) fun va Ha ⟨hva,hha⟩=>?_
 subst hva;subst hha
 simp only [↓qh,qx,reduceIte,Nat.reduceEqDiff,w4]
 refine C3.q (qx7 (M:=M) h.nd ht) fun vg H3 ⟨⟨gq,hg⟩,hh⟩=>?_
 subst hg;subst hh
 have t0:=ve (show (0:Int)=0 from rfl)
 cases gq with
 | true=>simp only [↓qh,qx,reduceIte,Nat.reduceEqDiff]
 | false =>
 simp only [↓qh,qx,reduceIte,Nat.reduceEqDiff,w12]
 have hsm:∀ {p:Ls},t=p.encL 0->p.small:=fun q=>Ls.small_of _ 0 fun y hy=>h.hi y (by rw [q];unfold Ls.encL;exact List.mem_append_left _ hy)
 cases hm:mayB t with
 | false =>
  refine C3.q (Print_no (M:=M) h.nd h.kids hm) fun v H1 ⟨hv,hf⟩=>?_
  subst hv
  have e2:¬ (2:Int)=0:=by decide
  have te:=ve (show ([]:Tk)=[] from rfl)
  simp only [↓qh,qx,reduceIte,Nat.reduceEqDiff,x20,x21,w14,e2,te]
 | true =>
  obtain ⟨p,hp,ho,hz⟩:=(q2f h.lo).1 hm
  have hs:=hsm hp
  subst hp
  refine C3.q (q4e (M:=M) h ho hz) fun v H1 ⟨hv,f1⟩=>?_
  subst hv
  by_cases hd:p.dep<=50
  ·rw [print1 ho hd]
   simp only [↓qh,qx,reduceIte,Nat.reduceEqDiff,x20,x21,w14,t0,w22]
   refine C3.q (q4b (M:=M) (hE.em f1) ho hs hz hd) fun v H2 ⟨f2,nv,hv,hn⟩=>?_
   subst hv
   simp only [↓qh,qx,reduceIte,Nat.reduceEqDiff,x4,t0]
   refine C3.q (q5i (M:=M) hn (h.em (f1.trans f2 fun _ q=>q.elim)).nd ht h.kids) fun v H4 ⟨hv,hh⟩=>?_
   subst hv;subst hh
   simp only [↓qh,qx,reduceIte,Nat.reduceEqDiff]
  ·have h2:(printR p).2 ≠ 0:=fun q=>hd ((print0 ho).1 q)
   rw [print2 h2]
   have e2:¬ (2:Int)=0:=by decide
   have te:=ve (show ([]:Tk)=[] from rfl)
   simp only [↓qh,qx,reduceIte,Nat.reduceEqDiff,x20,x21,w14,e2,te]
end Go.Am
