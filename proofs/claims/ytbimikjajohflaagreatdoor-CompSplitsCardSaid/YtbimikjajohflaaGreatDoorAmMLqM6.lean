/- LqM6: CpZ GrS SpA SpB SpC. -/
import Derived.Test.YtbimikjajohflaaGreatDoorAmMLqM5
import Derived.Test.YtbimikjajohflaaGreatDoorAmMLqM4
import Derived.Test.YtbimikjajohflaaGreatDoorAmMCodeM
import Derived.Test.YtbimikjajohflaaGreatDoorAmMLqM0
set_option linter.unusedVariables false
set_option linter.unusedSimpArgs false
set_option linter.unusedSectionVars false
set_option maxRecDepth 100000
namespace Go.Am
open Lang Go.Proofs
variable {M:Mac} [MK M]
theorem qsy {H:AHeap} {tv:AV} {t:List Nd} (h:NdI H tv t):qac M qc2 [tv] H fun v H'=>Fr Em H H' /\ ∃ b,v=.bool b/\(b=true ↔ OkP t):=by
 refine qqx ?_
 simp only [↓qo,xy,reduceIte,Nat.reduceEqDiff,qqy]
 refine C3.q (qui (M:=M) h) fun v H' ⟨f,s,e,hv,he⟩=>?_
 subst hv
 by_cases h0:e=0
 ·simp only [↓qo,xy,reduceIte,Nat.reduceEqDiff,x20,x21,qbq h0]
  exact ⟨f,true,rfl,by rw [<-he];simp [h0]⟩
 ·simp only [↓qo,xy,reduceIte,Nat.reduceEqDiff,x20,x21,h0]
  exact ⟨f,false,rfl,by rw [<-he];simp [h0]⟩
def Lang.Ls.code (p:Ls) (f:Frm):CW:=p.cmp f ⟨[],false⟩
end Go.Am
namespace Go.Am
open Lang Go.Proofs
variable {M:Mac} [MK M]
theorem qq9 {H:AHeap} {tv:AV} {t:List Nd} (hn:Nds H tv t) (hl:t.length<=140737488355328):qac M qbg [tv] H fun v H'=>(∃ q,v=.bool q)/\H'=H:=by
 refine qpi ?_
 obtain ⟨w0,w4,w19,w9,w15,w18⟩:=qpj M ⟨none,qbg⟩
 simp only [↓qo,xy,reduceIte,Nat.reduceEqDiff,w0,w4]
 refine LOOP3.intro (fun k E' H'=>∃ j n,H'=H/\E'=[(4,.int .i64 (j:Nat)),(3,.int .i64 n),(0,tv)]/\k=t.length-j/\j<=t.length) ?_ ?_
 ·exact ⟨_,_,⟨0,0,rfl,rfl,rfl,by omega⟩,by simp only [↓qo,xy,reduceIte,Nat.reduceEqDiff]⟩
 rintro k E' H' ⟨j,n,rfl,rfl,rfl,hj⟩
 rcases jo j t.length with hlt|hge
 ·have q1:(j:Int)<(t.length:Nat):=by omega
  obtain ⟨x,hx⟩:∃ x,t[j]? = some x:=⟨t[j],by simp [hlt]⟩
  obtain ⟨a,ha,_,a1,_,a3,a4,a5⟩:=hn.get hx
  have wj:wrapI .i64 ((j:Int)+1)=((j+1:Nat):Int):=by rw [js (by omega) (by omega)];omega
  simp only [↓qo,xy,reduceIte,Nat.reduceEqDiff,w9,w15,w18,hn.len,q1,a1,a5,ha.len,wj]
  exact ⟨_,_,⟨j+1,_,rfl,rfl,by omega⟩,by simp only [↓qo,xy,reduceIte,Nat.reduceEqDiff];rfl,by omega⟩
 ·have q1:¬ (j:Int)<(t.length:Nat):=by omega
  simp only [↓qo,xy,reduceIte,Nat.reduceEqDiff,w9,w19,hn.len,q1]
  exact ⟨_,rfl⟩
end Go.Am
namespace Go.Am
open Lang Go.Proofs
variable {M:Mac} [MK M]
theorem Sl.mid {H:AHeap} {size:Nat} {v:AV} {n:Nat} {cells:List AV} (h:Sl H size v n cells) {i k:Nat} (hi:i<=k) (hk:k<=n) {z y:Int} (hz:z=i) (hy:y=k) (k1 k2:IntKind) :
 ∃ v',Op.sliceSl size [some 0,some 1,none] [v,.int k1 z,.int k2 y]=some v'/\Sl H size v' (k-i) ((cells.take (k*size)).drop (i*size)):=by
 obtain ⟨hl,h⟩:=h
 have hkn:k*size<=n*size:=xw _ hk
 have hik:i*size<=k*size:=xw _ hi
 have hsub:(k-i)*size=k*size-i*size:=Nat.sub_mul k i size
 have hlen:((cells.take (k*size)).drop (i*size)).length=(k-i)*size:=by rw [jk,xu,hl,hsub];omega
 split at h
 ·subst h
  have h1:k=0:=by omega
  have h2:i=0:=by omega
  subst h1;subst h2
  refine ⟨.nils,?_,⟨hlen,rfl⟩⟩
  simp [Op.sliceSl,arg,vb,sliceV,y8 hz (qd 0),y8 hy (qd 0)]
 ·rename_i b o m c
  obtain ⟨rfl,hc,h⟩:=h
  have hb1:∀ d m,bound none d m=some d:=fun _ _=>rfl
  refine ⟨.slice b (cond (Nat.beq c i) o (o+i*size)) (k-i) (c-i),by simp only [Op.sliceSl,arg,vb,zi,xl,qc,sliceV,y8 hz hi,y8 hy (show k<=c by omega),hb1],⟨hlen,rfl,by omega,?_⟩⟩
  rcases h with h|⟨hb,all,h1,h2⟩
  ·left;omega
  ·by_cases he:c=i
   ·left;omega
   ·right
    obtain ⟨h3,rfl⟩:=qcb h2
    refine ⟨hb,all,h1,?_⟩
    rw [qad he,qv,yc,xa (by omega),List.take_take,yq (by omega),qcl,qa0,hsub]
 ·rename_i b q m s alt r
  obtain ⟨rfl,rfl,hm,h⟩:=h
  have e1:∀ n,Nat.beq n n=true:=fun n=>by simp
  have hq:=vj (show k<=m-q by omega)
  have him:=vj (show q<=m by omega)
  refine ⟨.gslice b (q+i) m s (cond (Nat.beq i 0) alt (q*s)) (k-i),by simp only [Op.sliceSl,arg,vb,zi,xl,qc,sliceV,y8 hz hi,y8 hy (show k<=m-q by omega),e1,him,hq,zx,qj],⟨hlen,rfl,rfl,by omega,?_⟩⟩
  rcases h with h|⟨hb,all,h1,h2⟩
  ·left;omega
  ·right
   obtain ⟨h3,rfl⟩:=qcb h2
   refine ⟨hb,all,h1,?_⟩
   rw [yc,xa (by rw [j3];omega),List.take_take,yq (by omega),qcl,qa0,j3,hsub]
 ·rename_i b
  obtain ⟨rfl,hb⟩:=h
  have h1:k=0:=by omega
  have h2:i=0:=by omega
  subst h1;subst h2
  refine ⟨.eslice b,?_,⟨hlen,rfl,hb⟩⟩
  simp [Op.sliceSl,arg,vb,sliceV,y8 hz (qd 0),y8 hy (qd 0)]
 ·exact h.elim
theorem SlT.mid {α:Type} {enc:α->List AV} {size:Nat} {H:AHeap} {v:AV} {xs:List α} (hs:∀ x,(enc x).length=size) (h:SlT enc size H v xs) {i k:Nat} (hi:i<=k) (hk:k<=xs.length) {z y:Int} (hz:z=i) (hy:y=k) (k1 k2:IntKind) :
 ∃ v',Op.sliceSl size [some 0,some 1,none] [v,.int k1 z,.int k2 y]=some v'/\SlT enc size H v' ((xs.take k).drop i):=by
 obtain ⟨v',h1,h2⟩:=Sl.mid h hi hk hz hy k1 k2
 refine ⟨v',h1,?_⟩
 unfold SlT
 rw [jk,xu,yq hk,<-qhi hs,<-qhj hs];exact h2
theorem bsI (e:Nat) (zero:List AV):Op.buildSlice e 0 zero [] []=some (.row [] e (0,0) true,Op.sliceTo 0 0):=rfl
theorem nilsI (H:AHeap):Op.eq .slice false [.nils,.nils] H=some (.bool true):=rfl
theorem nilsI' {H:AHeap} {size:Nat} {v:AV} {n:Nat} {cells:List AV} (h:Sl H size v n cells) (hv:v ≠ .nils) (H':AHeap):Op.eq .slice false [v,.nils] H'=some (.bool false):=by
 obtain ⟨_,h⟩:=h
 cases v<;>first|exact (hv rfl).elim|rfl|exact h.elim
theorem flatI (l:List Int):allOne (l.flatMap encI)=true:=by rw [qdc,List.all_flatMap];simp [encI,oneCell]
theorem qsx {H:AHeap} {a:AV} {ws:List Int} (ha:SlT encI 1 H a ws) (hl:ws.length<=500000):qac M wn [a] H fun v H'=>New encI T_int 1 H H' v ws:=by
 refine qjx ?_
 by_cases hn:a=.nils
 ·subst hn
  have:ws=[]:=by obtain ⟨_,h⟩:=ha;exact qaf.1 h
  subst this
  simp only [↓qo,xy,reduceIte,Nat.reduceEqDiff,qdr,nilsI]
  exact New.nil H
 ·simp only [↓qo,xy,reduceIte,Nat.reduceEqDiff,qdr,nilsI' ha hn,bsI]
  have hf1:Fr Em H (H.alloc (.row [] T_int (0,0) true)):=(Fr.refl H).alloc _
  refine append3s (e:=T_int) (n:=0) (cells:=[]) ⟨rfl,.inl ⟨rfl,.inr ⟨H.next,rfl,by rw [zh];omega⟩⟩⟩ (ha.em hf1) (flatI ws) (by omega) (by omega) (by omega) fun v' H2 hv' hf hfr=>?_
  simp only [↓qo,xy,reduceIte,Nat.reduceEqDiff,qdr]
  rw [x7,x9] at hv'
  exact ⟨hv',hf1.trans hf fun x hx=>.inr (by rw [hx.2];exact qd _),fun b hb=>(hfr b hb).elim (fun q=>by rw [q.2];exact qd _) fun q=>ze hf1.next q⟩
def NdsB (H:AHeap) (B:Nat->Prop) (v:AV) (ts:List Nd):Prop:=∃ zs:List (Nd × AV),zs.map (·.1)=ts/\SlT encN 3 H v zs/\(zs.length=0\/B (slB v)) /\ ∀ z ∈ zs,SlT encI 1 H z.2 z.1.kids/\(z.1.kids.length=0\/B (slB z.2))
theorem NdsB.nds {H:AHeap} {B:Nat->Prop} {v:AV} {ts:List Nd} (h:NdsB H B v ts):Nds H v ts:=by
 obtain ⟨zs,h1,h2,_,h3⟩:=h
 exact ⟨zs,h1,h2,fun z hz=>(h3 z hz).1⟩
theorem NdsB.fr {H H':AHeap} {B B' W:Nat->Prop} {v:AV} {ts:List Nd} (h:NdsB H B v ts) (f:Fr W H H') (hw:∀ b,B b -> ¬ W b) (hb:∀ b,B b->B' b):NdsB H' B' v ts:=by
 obtain ⟨zs,h1,h2,h3,h4⟩:=h
 exact ⟨zs,h1,Sl.fr h2 f (h3.imp id (hw _)),h3.imp id (hb _),fun z hz=>⟨Sl.fr (h4 z hz).1 f ((h4 z hz).2.imp id (hw _)),(h4 z hz).2.imp id (hb _)⟩⟩
def encV (v:AV):List AV:=[v]
theorem qs2 {t:List Nd}:∀ (l:Ls) (b j:Nat) (s:Lang.St),(sts l)[j]? = some s->(ints (l.ends b))[j]? = some ((b+szL ((sts l).take j)+s.sz-1:Nat):Int)/\(Seg t b (l.enc b)->Seg t (b+szL ((sts l).take j)) (s.enc (b+szL ((sts l).take j))))
 | .nil,b,j,s,h=>by cases h
 | .cons x l,b,0,s,h=>by
  injection h with h;subst h
  refine ⟨rfl,fun hs=>?_⟩
  simp only [sts,z4,szL,j0]
  exact Seg.left (by simpa [Ls.enc] using hs)
 | .cons x l,b,j+1,s,h=>by
  obtain ⟨h1,h2⟩:=qs2 (t:=t) l (b+x.sz) j s h
  simp only [sts,za,szL]
  rw [<-z7]
  refine ⟨h1,fun hs=>h2 (Seg.right (l:=x.enc b) (by simpa [Ls.enc] using hs) (by rw [St.len]))⟩
end Go.Am
namespace Go.Am
open Lang Go.Proofs
variable {M:Mac} [MK M]
theorem bs1 (e:Nat) (x:Int):Op.buildSlice e 1 [.int .i64 0] [(0,1)] [.int .i64 x]=some (OR [.int .i64 x] e,Op.sliceTo 1 1):=rfl
theorem bdN (b:Nat):Op.build [.int .i64 0,.int .u64 0,.nils] [(0,1),(2,1)] [.int .i64 20,Op.sliceTo 1 1 b]=some (.agg [.int .i64 20,.int .u64 0,.slice b 0 1 1]):=rfl
def SplitR (H:AHeap) (t:List Nd) (p:Ls) (v:AV) (H':AHeap):Prop:=Fr Em H H'/\(¬ OkP t/\v=.nils\/OkP t /\
 ∃ tvs:List AV,SlT encV 1 H' v tvs/\tvs.length=(sts p).length /\ ∀ (i:Nat) (tw:AV) (s:Lang.St),tvs[i]? = some tw->(sts p)[i]? = some s->Nds H' tw (s.one.encL 0))
theorem qor {H:AHeap} {tv:AV} {t:List Nd} (h:NdI H tv t) {p:Ls} (hyes:OkP t->t=p.encL 0/\p.ok/\p.sz+1<=2000):qac M qb3 [tv] H (SplitR H t p):=by
 refine qqu ?_
 obtain ⟨w0,w2,w10,w14,w71,w19,w25,w70,w31,w67,w36,w42,w66,w48,w65,w53,w59,w64⟩:=qqv M ⟨none,qb3⟩
 simp only [↓qo,xy,reduceIte,Nat.reduceEqDiff,w0,w2]
 refine C3.q (qsy (M:=M) h) fun v1 H2 ⟨f2,b,hv1,hb⟩=>?_
 subst hv1
 cases b with
 | false=>simp only [↓qo,xy,reduceIte,Nat.reduceEqDiff];exact ⟨f2,.inl ⟨fun q=>(by have:=hb.2 q;cases this),rfl⟩⟩
 | true =>
 have hok:=hb.1 rfl
 obtain ⟨hp,ho,hz⟩:=hyes hok
 have h2:=h.em f2
 have hln:=h2.nd.len
 have hlen:t.length=p.sz+1:=by rw [hp,Ls.lenL]
 have wl:wrapI .i64 (((t.length:Nat):Int)-1)=((p.sz:Nat):Int):=by rw [js (by omega) (by omega)];omega
 have hse:Seg t 0 (p.enc 0):=by rw [hp];exact Seg.left (m:=[⟨20,0,ints (p.ends 0)⟩]) (Seg.all _)
 have hlast:t[p.sz]? = some ⟨20,0,ints (p.ends 0)⟩:=by
  rw [hp,Ls.encL,qp (by rw [Ls.len];exact qd _),Ls.len,Nat.sub_self];rfl
 obtain ⟨ka,hka,_,i1,_,_,_,i2⟩:=h2.nd.get hlast
 have hka:SlT encI 1 H2 ka (ints (p.ends 0)):=hka
 have hal:=hka.len
 rw [qo8] at hal
 have hsl:=qqh p
 simp only [↓qo,xy,reduceIte,Nat.reduceEqDiff,w10,w14,hln,wl,i1 .i64,i2,hal]
 refine LOOP3.intro (fun k E' Hc=>∃ (j:Nat) (ov:AV) (tvs:List AV),E'=[(22,.int .i64 (j:Nat)),(21,.int .i64 ((sts p).length:Nat)),(20,ka),(4,.int .i64 (szL ((sts p).take j):Nat)),(3,ov),(0,tv)]/\k=(sts p).length-j/\j<=(sts p).length /\
  New encV T__6 1 H2 Hc ov tvs/\tvs.length=j /\ ∀ (i:Nat) (tw:AV) (s:Lang.St),tvs[i]? = some tw->(sts p)[i]? = some s->NdsB Hc (fun b=>b<Hc.next /\ ¬ OnS ov b) tw (s.one.encL 0)) ?_ ?_
 ·exact ⟨_,_,⟨0,.nils,[],rfl,rfl,by omega,New.nil H2,rfl,fun i tw s q=>by simp at q⟩,by simp only [↓qo,xy,reduceIte,Nat.reduceEqDiff];rfl⟩
 rintro k E' Hc ⟨j,ov,tvs,rfl,rfl,hj,hov,htl,hall⟩
 rcases jo j (sts p).length with hlt|hge
 ·have q1:(j:Int)<((sts p).length:Nat):=by omega
  obtain ⟨s,hsj⟩:∃ s,(sts p)[j]? = some s:=⟨(sts p)[j],by simp [hlt]⟩
  obtain ⟨c,hc⟩:∃ c,c=szL ((sts p).take j):=⟨_,rfl⟩
  obtain ⟨hke,hsc⟩:=qs2 (t:=t) p 0 j s hsj
  rw [x7,<-hc] at hke hsc
  have hsc:=hsc hse
  have hsp:=s.pos
  have hslt:=Seg.lt (x:=.s s) hsc
  have hsz:(It.s s).sz=s.sz:=rfl
  rw [hsz] at hslt
  have hc1:szL ((sts p).take (j+1))=c+s.sz:=by
   have e:∀ (l:List Lang.St) (j:Nat) (s:Lang.St),l[j]? = some s->szL (l.take (j+1))=szL (l.take j)+s.sz:=by
    intro l
    induction l with
    | nil=>intro j s h;simp at h
    | cons x l ih =>
     intro j s h
     cases j with
     | zero=>simp at h;subst h;simp [szL]
     | succ j=>simp only [xl] at h;simp only [za,szL,ih j s h];omega
   rw [e _ _ _ hsj,hc]
  obtain ⟨n1,n2⟩:=kid_c hka hov.fr hke (z:=(j:Int)) rfl
  have hN:=(h2.em hov.fr).nd
  obtain ⟨zs,z1,z2,z3⟩:=hN.ex
  have hzl:zs.length=t.length:=by rw [<-z1,jd]
  have wk:wrapI .i64 (((c+s.sz-1:Nat):Int)+1)=((c+s.sz:Nat):Int):=by rw [js (by omega) (by omega)];omega
  obtain ⟨sv,m1,m2⟩:=z2.mid qde (i:=c) (k:=c+s.sz) (by omega) (by omega) (z:=(c:Int)) (y:=((c+s.sz:Nat):Int)) rfl rfl .i64 .i64
  have hml:=m2.len
  rw [show (List.drop c (List.take (c+s.sz) zs)).length=s.sz by rw [jk,xu];omega] at hml
  rw [<-hc]
  simp only [↓qo,xy,reduceIte,Nat.reduceEqDiff,w19,q1,w25,n1 .i64,n2,w31,wk,m1,hml]
  -- the tree's nodes
  refine LOOP3.intro (fun k E' Hd=>∃ (m:Nat) (tw:AV) (ys:List (Nd × AV)),E'=[(32,.int .i64 (m:Nat)),(31,.int .i64 (s.sz:Nat)),(30,sv),(7,tw),(6,.int .i64 (c+s.sz-1:Nat)),(22,.int .i64 (j:Nat)),(21,.int .i64 ((sts p).length:Nat)),(20,ka),(4,.int .i64 (c:Nat)),(3,ov),(0,tv)]/\k=s.sz-m/\m<=s.sz /\
   New encN xh 3 Hc Hd tw ys/\ys.map (·.1)=(s.enc 0).take m /\ ∀ z ∈ ys,SlT encI 1 Hd z.2 z.1.kids/\(z.1.kids.length=0\/(Hc.next<=slB z.2/\slB z.2<Hd.next /\ ¬ OnS tw (slB z.2)))) ?_ ?_
  ·exact ⟨_,_,⟨0,.nils,[],rfl,rfl,by omega,New.nil Hc,rfl,fun z hz=>by cases hz⟩,by simp only [↓qo,xy,reduceIte,Nat.reduceEqDiff]⟩
  rintro k E' Hd ⟨m,tw,ys,rfl,rfl,hm,hT,hym,hyk⟩
  rcases jo m s.sz with hltm|hgem
  ·have q2:(m:Int)<(s.sz:Nat):=by omega
   obtain ⟨y,hy⟩:∃ y,(s.enc 0)[m]? = some y:=⟨(s.enc 0)[m]'(by rw [St.len];exact hltm),by simp⟩
   have hys:t[c+m]? = some (y.sh c):=hsc m _ (by
    have e:=It.enc_sh (.s s) c
    simp only [It.enc] at e
    rw [e,qy,hy];rfl)
   obtain ⟨z,hz,hzy⟩:∃ z,zs[c+m]? = some z/\z.1=y.sh c:=by
    rw [<-z1,qy] at hys
    cases q:zs[c+m]? with
    | none=>rw [q] at hys;cases hys
    | some z=>rw [q] at hys;injection hys with hys;exact ⟨z,rfl,hys⟩
   have hzm:(List.drop c (List.take (c+s.sz) zs))[m]? = some z:=by rw [zy,zz,xa (by omega)];exact hz
   have m2d:=Sl.em m2 hT.fr
   have m2d:SlT encN 3 Hd sv (List.drop c (List.take (c+s.sz) zs)):=m2d
   have ix:=m2d.idx hzm rfl .i64 (z:=(m:Int))
   have ldN:Op.loadN 3 [.ptr (slB sv) (slO 3 sv m)] Hd=some (nodeV z.1 z.2):=m2d.loadN qde (by decide) hzm
   have hkz:=z3 z (xc hz)
   have hone:=hkz.one
   have st:=qpu Hd z.1 hone xh
   obtain ⟨H1,e1⟩:∃ X,X=Hd.alloc (OR [.int .i64 z.1.k,.int .u64 z.1.n,z.2] xh):=⟨_,rfl⟩
   have f1:Fr Em Hd H1:=by rw [e1];exact (Fr.refl Hd).alloc _
   have x1:H1.next=Hd.next+1:=by rw [e1,zh]
   have g1:H1.get Hd.next=some (OR [.int .i64 z.1.k,.int .u64 z.1.n,z.2] xh):=by rw [e1,zg]
   rw [<-e1] at st
   have l1:Op.load1 [.ptr Hd.next 2] H1=some z.2:=qbk (jf g1) 2
   simp only [↓qo,xy,reduceIte,Nat.reduceEqDiff,w36,q2,w42,ix,ldN,st,l1]
   have hkl:z.1.kids.length<=500000:=by
    have:=h.kids (y.sh c) (xc hys)
    rw [hzy]
    have hkk:=It.kids_lt (.s s) 0 y (xc hy)
    have hkl2:y.kids.length<=100000:=by
     have:=It.enc_kids (.s s) 0 y (xc hy)
     rw [hsz] at this;omega
    simp only [Nd.sh,jd];omega
   refine C3.q (qsx (M:=M) (Sl.em hkz (hT.fr.trans f1 fun _ q=>q.elim)) hkl) fun kv H3 hcl=>?_
   have g3:H3.get Hd.next=some (OR [.int .i64 z.1.k,.int .u64 z.1.n,z.2] xh):=by rw [hcl.fr.keep _ (by omega) id];exact g1
   have ok1:=hcl.sl.one
   have kc:kv.cells=[kv]:=by cases kv<;>first|rfl|cases ok1
   have st3:=qee g3 (o:=2) (n:=1) (v:=kv) (by rw [kc];rfl) (by simp) (by rw [kc];exact (by rw [qdc,List.all_cons,ok1];rfl))
   rw [kc] at st3
   obtain ⟨H4,e4⟩:∃ X,X=H3.set Hd.next (OR [.int .i64 z.1.k,.int .u64 z.1.n,kv] xh):=⟨_,rfl⟩
   have st4:Op.store 1 [.ptr Hd.next 2,kv] H3=some (.undef,H4):=by rw [e4];exact st3
   have x3:=hcl.fr.next
   have f4:Fr Em Hd H4:=by rw [e4];exact (f1.trans hcl.fr fun _ q=>q.elim).set (.inr (qd _)) _
   have x4:H4.next=H3.next:=by rw [e4,qgz]
   have g4:H4.get Hd.next=some (OR [.int .i64 z.1.k,.int .u64 z.1.n,kv] xh):=by rw [e4,jj]
   have nk:¬ OnS kv Hd.next:=fun q=>by have:=hcl.fresh _ q;omega
   have o4:OwnT encI T_int 1 H4 kv z.1.kids:=by rw [e4];exact Own.fr hcl.own ((Fr.refl H3).set (W:=On Hd.next) (.inl rfl) _) fun x hx q=>nk (by rw [<-show x=Hd.next from q];exact hx)
   have l4:∀ {Hx:AHeap},Hx.get Hd.next=some (OR [.int .i64 z.1.k,.int .u64 z.1.n,kv] xh)->Op.load1 [.ptr Hd.next 2] Hx=some kv:=fun q=>qbk (jf q) 2
   have hkl4:=o4.sl.len
   simp only [↓qo,xy,reduceIte,Nat.reduceEqDiff,st4,w48,l4 g4,hkl4]
   have hkid:z.1.kids=y.kids.map (·+(c:Int)):=by rw [hzy];rfl
   have hkn:z.1.kids.length=y.kids.length:=by rw [hkid,jd]
   refine LOOP3.intro (fun k E' He=>∃ (i:Nat) (ks:List Int),E'=[(43,.int .i64 (i:Nat)),(42,.int .i64 (z.1.kids.length:Nat)),(9,.ptr Hd.next 0),(32,.int .i64 (m:Nat)),(31,.int .i64 (s.sz:Nat)),(30,sv),(7,tw),(6,.int .i64 (c+s.sz-1:Nat)),(22,.int .i64 (j:Nat)),(21,.int .i64 ((sts p).length:Nat)),(20,ka),(4,.int .i64 (c:Nat)),(3,ov),(0,tv)]/\k=z.1.kids.length-i/\i<=z.1.kids.length /\
    OwnT encI T_int 1 He kv ks/\ks=y.kids.take i++z.1.kids.drop i/\He.get Hd.next=some (OR [.int .i64 z.1.k,.int .u64 z.1.n,kv] xh)/\Fr Em Hd He/\H4.next<=He.next) ?_ ?_
   ·exact ⟨_,_,⟨0,_,rfl,rfl,by omega,o4,by simp,g4,f4,qd _⟩,by simp only [↓qo,xy,reduceIte,Nat.reduceEqDiff]⟩
   rintro k E' He ⟨i,ks,rfl,rfl,hi,hown,hks,ge,fe,hxe⟩
   rcases jo i z.1.kids.length with hlti|hgei
   ·have q3:(i:Int)<(z.1.kids.length:Nat):=by omega
    obtain ⟨yk,hyk1⟩:∃ yk,y.kids[i]? = some yk:=⟨y.kids[i]'(by omega),by simp⟩
    have hzk:z.1.kids[i]? = some (yk+(c:Int)):=by rw [hkid,qy,hyk1];rfl
    have hti:(y.kids.take i).length=i:=by rw [xu];omega
    have hki:ks[i]? = some (yk+(c:Int)):=by rw [hks,qp (by omega),hti,Nat.sub_self,zy,j0];exact hzk
    have hr:=It.kids_lt (.s s) 0 y (xc hy) yk (xc hyk1)
    rw [hsz] at hr
    have wy:wrapI .i64 (yk+(c:Int)-(c:Int))=yk:=by rw [js (by omega) (by omega)];omega
    have hsl2:=hown.sl
    have ixk:=hsl2.idx hki rfl .i64 (z:=(i:Int))
    have ldk:Op.load1 [.ptr (slB kv) (slO 1 kv i)] He=some (.int .i64 (yk+(c:Int))):=hsl2.load0 qo6 hki (by decide)
    obtain ⟨H5,st5,o5,k5⟩:=hown.set1 qo6 hki (j:=0) (by decide) (u:=.int .i64 yk) rfl (y:=yk) rfl
    rw [j0] at st5
    have wi:wrapI .i64 ((i:Int)+1)=((i+1:Nat):Int):=by rw [js (by omega) (by omega)];omega
    simp only [↓qo,xy,reduceIte,Nat.reduceEqDiff,w53,q3,w59,l4 ge,ixk,ldk,wy,st5,w64,wi]
    refine ⟨_,_,⟨i+1,_,rfl,rfl,by omega,o5,?_,?_,?_,ze hxe k5.next⟩,by simp only [↓qo,xy,reduceIte,Nat.reduceEqDiff],by omega⟩
    ·rw [hks]
     apply qa4
     intro r
     rw [List.getElem?_set]
     by_cases hr1:i=r
     ·subst hr1
      have hl2:i<(y.kids.take i++z.1.kids.drop i).length:=by rw [qe,hti,jk];omega
      rw [xa rfl,xa hl2,qr (by rw [xu];omega),zz,xa (by omega),hyk1]
     ·rw [qq hr1]
      rcases jo r i with hr2|hr2
      ·rw [qr (by omega),qr (by rw [xu];omega),zz,xa hr2,zz,xa (by omega)]
      ·have hti2:(y.kids.take (i+1)).length=i+1:=by rw [xu];omega
       rw [qp (by omega),qp (by omega),hti,hti2,zy,zy]
       congr 1;omega
    ·rw [k5.keep _ (by omega) nk];exact ge
    ·exact fe.trans k5 fun x hx=>.inr (by have:=hcl.fresh _ hx;omega)
   ·have q3:¬ (i:Int)<(z.1.kids.length:Nat):=by omega
    have hks2:ks=y.kids:=by rw [hks,kp hgei,jc,xp (by omega)]
    have ldn:Op.loadN 3 [.ptr Hd.next 0] He=some (.agg (encN (y,kv))):=by
     rw [qpm (jf ge) (by simp)]
     have e1:z.1.k=y.k:=by rw [hzy];rfl
     have e2:z.1.n=y.n:=by rw [hzy];rfl
     rw [e1,e2];rfl
    simp only [↓qo,xy,reduceIte,Nat.reduceEqDiff,w53,q3,reduceCtorEq,w65,ldn]
    have hyl:ys.length<=2000:=by have:=congrArg List.length hym;rw [jd,xu] at this;omega
    refine (hT.em fe).app3 (bytes:=40) (a:=(y,kv)) rfl rfl rfl (by simp [encN,qim,qhz,qiu,ok1]) (by decide) (by omega) (by omega) fun v' H6 hv' hf hfr=>?_
    have wm:wrapI .i64 ((m:Int)+1)=((m+1:Nat):Int):=by rw [js (by omega) (by omega)];omega
    simp only [↓qo,xy,reduceIte,Nat.reduceEqDiff,w66,wm]
    have hfe:=fe.next
    refine ⟨_,_,⟨m+1,v',_,rfl,rfl,by omega,hv',by rw [vf,hym,yy,hy];rfl,fun z' hz'=>?_⟩,by simp only [↓qo,xy,reduceIte,Nat.reduceEqDiff],by omega⟩
    have hfn:=hf.next
    have tlt:∀ b,OnS tw b->b<Hd.next:=fun b q=>Own.lt hT.own b q
    rcases xf.1 hz' with q|q
    ·obtain ⟨a1,a2⟩:=hyk z' q
     refine ⟨Sl.fr (Sl.em a1 fe) hf (a2.imp id fun w=>w.2.2),a2.imp id fun w=>⟨w.1,by omega,fun q=>(hfr _ q).elim w.2.2 fun q=>by omega⟩⟩
    ·rw [xj] at q
     subst q
     rw [hks2] at hown
     have hkb:y.kids.length=0\/H1.next<=slB kv:=by
      by_cases hk0:kv=.nils
      ·left
       have hs5:=hown.sl
       rw [hk0] at hs5
       exact hs5.2
      ·exact .inr (hcl.fresh _ ⟨hk0,rfl⟩)
     have hkb2:y.kids.length=0\/slB kv<He.next:=by
      rcases Nat.eq_zero_or_pos y.kids.length with q|q
      ·exact .inl q
      ·exact .inr (Sl.at (by decide) hown.sl q).1
     have htc:=hT.fr.next
     refine ⟨Sl.fr hown.sl hf (hkb.imp id fun w q=>by have q:OnS tw (slB kv):=q;have:=tlt _ q;omega),?_⟩
     rcases hkb with w|w
     ·exact .inl w
     rcases hkb2 with w2|w2
     ·exact .inl w2
     exact .inr ⟨by show Hc.next<=slB kv;omega,by show slB kv<H6.next;omega,fun q=>(hfr _ q).elim (fun q=>by have:=tlt _ q;simp only at this;omega) fun q=>by simp only at q;omega⟩
  ·have q2:¬ (m:Int)<(s.sz:Nat):=by omega
   have hme:m=s.sz:=by omega
   have hyl:ys.length=s.sz:=by have:=congrArg List.length hym;rw [jd,xu,St.len] at this;omega
   have wd:wrapI .i64 (((c+s.sz-1:Nat):Int)-((c:Nat):Int))=((s.sz-1:Nat):Int):=by rw [js (by omega) (by omega)];omega
   simp only [↓qo,xy,reduceIte,Nat.reduceEqDiff,w36,q2,reduceCtorEq,w67,wd,bs1,bdN]
   obtain ⟨H5,e5⟩:∃ X,X=Hd.alloc (OR [.int .i64 ((s.sz-1:Nat):Int)] T_int):=⟨_,rfl⟩
   have f5:Fr Em Hd H5:=by rw [e5];exact (Fr.refl Hd).alloc _
   have x5:H5.next=Hd.next+1:=by rw [e5,zh]
   rw [<-e5]
   have hk5:SlT encI 1 H5 (.slice Hd.next 0 1 1) [((s.sz-1:Nat):Int)]:=⟨rfl,rfl,qd _,.inr ⟨by omega,_,jf (by rw [e5];exact zg ..),rfl⟩⟩
   have htc:=hT.fr.next
   have tlt:∀ b,OnS tw b->b<Hd.next:=fun b q=>Own.lt hT.own b q
   refine (hT.em f5).app3 (bytes:=40) (a:=(⟨20,0,[((s.sz-1:Nat):Int)]⟩,.slice Hd.next 0 1 1)) rfl rfl rfl rfl (by decide) (by omega) (by omega) fun tw' H6 hv' hf hfr=>?_
   have one':=hv'.sl.one
   have tc:tw'.cells=[tw']:=by cases tw'<;>first|rfl|cases one'
   have hxf:=hf.next
   have hov6:=hov.em hv'.fr
   refine hov6.app3 (bytes:=24) (a:=tw') tc rfl rfl (by rw [qdc];simp [encV,one']) (by decide) (by omega) (by omega) fun ov' H7 hov' hf7 hfr7=>?_
   have wj:wrapI .i64 ((j:Int)+1)=((j+1:Nat):Int):=by rw [js (by omega) (by omega)];omega
   simp only [↓qo,xy,reduceIte,Nat.reduceEqDiff,wk,w70,wj]
   have hx7:=hf7.next
   have olt:∀ b,OnS ov b->b<Hc.next:=fun b q=>Own.lt hov.own b q
   have tn:tw' ≠ .nils:=fun q=>by
    have w:=hv'.sl
    rw [q] at w
    have:=w.2
    simp at this
   have tlo:Hc.next<=slB tw':=hv'.fresh _ ⟨tn,rfl⟩
   have thi:slB tw'<H6.next:=Own.lt hv'.own _ ⟨tn,rfl⟩
   have keep:∀ b,Hc.next<=b->b<H6.next->b<H7.next /\ ¬ OnS ov' b:=fun b b1 b2=>⟨by omega,fun q=>(hfr7 b q).elim (fun q=>by have:=olt b q;omega) fun q=>by omega⟩
   refine ⟨_,_,⟨j+1,ov',tvs ++ [tw'],by rw [hc1],rfl,by omega,hov',by rw [qe,htl];rfl,fun i tx sx hi hs=>?_⟩,by simp only [↓qo,xy,reduceIte,Nat.reduceEqDiff],by omega⟩
   rcases jo i j with hij|hij
   ·rw [qr (by omega)] at hi
    have:=hall i tx sx hi hs
    exact (this.fr hv'.fr (fun b _ q=>q) (fun b q=>q)).fr hf7 (fun b q w=>q.2 w) fun b q=>⟨by have:=q.1;have:=hv'.fr.next;omega,fun w=>(hfr7 b w).elim q.2 fun w=>by have:=q.1;have:=hv'.fr.next;omega⟩
   ·rw [qp (by omega),htl] at hi
    have hij:i=j:=by
     rcases Nat.eq_zero_or_pos (i-j) with q|q
     ·omega
     ·rw [ja (by simp;omega)] at hi;cases hi
    subst hij
    rw [Nat.sub_self] at hi
    injection hi with hi
    subst hi
    rw [hsj] at hs
    injection hs with hs
    subst hs
    have base:NdsB H6 (fun b=>Hc.next<=b/\b<H6.next) tw' (s.one.encL 0):=by
     refine ⟨_,?_,hv'.sl,.inr ⟨tlo,thi⟩,fun z hz=>?_⟩
     ·rw [vf,hym,hme,St.one_enc,xp (by rw [St.len];exact qd _)];rfl
     ·rcases xf.1 hz with q|q
      ·obtain ⟨a1,a2⟩:=hyk z q
       exact ⟨Sl.fr (Sl.em a1 f5) hf (a2.imp id fun w=>w.2.2),a2.imp id fun w=>⟨w.1,by omega⟩⟩
      ·rw [xj] at q
       subst q
       exact ⟨Sl.fr hk5 hf (.inr fun q=>by have:=tlt _ q;simp [slB] at this),.inr ⟨htc,by show Hd.next<H6.next;omega⟩⟩
    exact base.fr hf7 (fun b q w=>by have:=olt b w;omega) fun b q=>keep b q.1 q.2
 ·have q1:¬ (j:Int)<((sts p).length:Nat):=by omega
  simp only [↓qo,xy,reduceIte,Nat.reduceEqDiff,w19,q1,reduceCtorEq,w71]
  exact ⟨f2.trans hov.fr fun _ q=>q.elim,.inr ⟨hok,tvs,hov.sl,by omega,fun i tw s a b=>(hall i tw s a b).nds⟩⟩
end Go.Am
namespace Go.Am
open Lang Go.Proofs
variable {M:Mac} [MK M]
theorem qt9:∀ p:Ls,p.txt 0=(sts p).flatMap fun s=>s.one.txt 0
 | .nil=>rfl
 | .cons s l=>by simp only [Ls.txt,sts,x8,qt9 l,St.one_txt];simp [ind]
theorem qxu:∀ (p:Ls),∀ s ∈ sts p,s.dep<=p.dep
 | .nil,s,h=>by cases h
 | .cons x l,s,h=>by
  simp only [Ls.dep]
  rcases xm.1 h with rfl|h
  ·omega
  ·have:=qxu l s h;omega
theorem sz_in:∀ (p:Ls),∀ s ∈ sts p,s.sz<=p.sz
 | .nil,s,h=>by cases h
 | .cons x l,s,h=>by
  simp only [Ls.sz]
  rcases xm.1 h with rfl|h
  ·omega
  ·have:=sz_in l s h;omega
theorem print0 {p:Ls} (ho:p.ok):(printR p).2=0 ↔ p.dep<=50:=by
 unfold printR
 rw [p.scan 0 0 0 ho (by omega)]
 simp only
 split
 ·exact ⟨fun _=>by omega,fun _=>rfl⟩
 ·exact ⟨fun q=>absurd q (by decide),fun q=>by omega⟩
theorem print1 {p:Ls} (ho:p.ok) (h:p.dep<=50):printR p=(p.txt 0,0):=by
 have h2:(printR p).2=0:=(print0 ho).2 h
 unfold printR at h2 ⊢
 split
 ·rfl
 ·rename_i q;rw [qq q] at h2;exact absurd h2 (by decide)
theorem qoi {H:AHeap} {tv:AV} {p:Ls} (h:NdI H tv (p.encL 0)) (ho:p.ok) (hz:p.sz+1<=2000):qac M yz [tv] H fun v H'=>v=.tuple [.str (printR p).1,.int .i64 (printR p).2]/\Fr Em H H' :=
 ql2 h.nd h.kids ((qpo h.lo).2 ⟨p,rfl,ho,hz⟩) ho (Ls.small_of _ 0 fun y hy=>h.hi y (by unfold Ls.encL;exact List.mem_append_left _ hy)) hz h.pow h.pl
theorem qnk {H:AHeap} {tv:AV} {t:List Nd} (hal:∀ H1,Fr Em H H1->qac M qi4 [] H1 fun v H'=>v=.bool true/\H'=H1) (h:NdI H tv t) (ht:t.length<=140737488355328) :
 qac M wh [tv] H fun v' _=>v'=.bool true:=by
 refine qjn ?_
 obtain ⟨w0,w4,w12,w16,w18,w43,w23,w51,w29,w42,w33,w41⟩:=qjo M ⟨none,wh⟩
 simp only [↓qo,xy,reduceIte,Nat.reduceEqDiff,w0]
 refine C3.q (hal H (Fr.refl H)) fun va Ha ⟨hva,hha⟩=>?_
 subst hva;subst hha
 simp only [↓qo,xy,reduceIte,Nat.reduceEqDiff,w4]
 refine C3.q (qq9 (M:=M) h.nd ht) fun vg H3 ⟨⟨gq,hg⟩,hh⟩=>?_
 subst hg;subst hh
 have t0:=qbq (show (0:Int)=0 from rfl)
 cases gq with
 | true=>simp only [↓qo,xy,reduceIte,Nat.reduceEqDiff]
 | false =>
 by_cases hok:OkP t
 ·have hok':=hok
  obtain ⟨p,hp,ho,hz,hpr⟩:=hok'
  have hdep:p.dep<=50:=(print0 ho).1 hpr
  have hI:=h
  rw [hp] at hI
  simp only [↓qo,xy,reduceIte,Nat.reduceEqDiff,w12]
  refine C3.q (qoi (M:=M) hI ho hz) fun v1 H1 ⟨hv1,f1⟩=>?_
  subst hv1
  rw [print1 ho hdep]
  simp only [↓qo,xy,reduceIte,Nat.reduceEqDiff,x20,x21]
  refine C3.q (qor (M:=M) (h.em f1) (p:=p) fun _=>⟨hp,ho,hz⟩) fun lv H2 ⟨f2,hs⟩=>?_
  rcases hs with ⟨hs,_⟩|⟨_,tvs,hsl,htl,htr⟩
  ·exact (hs hok).elim
  have f12:=f1.trans f2 fun _ q=>q.elim
  have hlv:=hsl.len
  rw [htl] at hlv
  have htx:=p.txt_len 0 2000 (Ls.small_of _ 0 fun y hy=>h.hi y (by rw [hp];unfold Ls.encL;exact List.mem_append_left _ hy)) (by omega)
  have htx2:(40+8*2000)*p.sz<=40*2000*2000:=by omega
  have hslen:=qqh p
  simp only [↓qo,xy,reduceIte,Nat.reduceEqDiff,w16,w18]
  refine LOOP3.intro (fun k E' Hc=>∃ (i:Nat),E'=[(8,.int .i64 (i:Nat)),(7,.str (((sts p).take i).flatMap fun s=>s.one.txt 0)),(6,lv),(5,.int .i64 0),(4,.str (p.txt 0)),(3,.bool true),(0,tv)]/\k=(sts p).length-i/\i<=(sts p).length/\Fr Em H2 Hc) ?_ ?_
  ·exact ⟨_,_,⟨0,rfl,rfl,by omega,Fr.refl _⟩,by simp only [↓qo,xy,reduceIte,Nat.reduceEqDiff];rfl⟩
  rintro k E' Hc ⟨i,rfl,rfl,hi,fc⟩
  rcases jo i (sts p).length with hlt|hge
  ·have q1:(i:Int)<((sts p).length:Nat):=by omega
   obtain ⟨s,hsi⟩:∃ s,(sts p)[i]? = some s:=⟨(sts p)[i],by simp [hlt]⟩
   obtain ⟨tw,hti⟩:∃ tw,tvs[i]? = some tw:=⟨tvs[i]'(by omega),by simp⟩
   have hsm:=xc hsi
   have hso:=qze p ho s hsm
   have hsd:=qxu p s hsm
   have hssz:=sz_in p s hsm
   have hnd:=(htr i tw s hti hsi).em fc
   have hsl2:SlT encV 1 Hc lv tvs:=Sl.em hsl fc
   have ix:=hsl2.idx hti rfl .i64 (z:=(i:Int))
   have ld:Op.load1 [.ptr (slB lv) (slO 1 lv i)] Hc=some tw:=hsl2.load0 (show ∀ x,(encV x).length=1 from fun _=>rfl) hti (by decide)
   have hNI:NdI Hc tw (s.one.encL 0):=by
    have hc:=(h.em f12).em fc
    obtain ⟨_,hseg⟩:=qs2 (t:=t) p 0 i s hsi
    have hseg:=hseg (by rw [hp];exact Seg.left (m:=[⟨20,0,ints (p.ends 0)⟩]) (Seg.all _))
    have hn:∀ y ∈ s.enc 0,∃ y' ∈ t,y'.n=y.n:=fun y hy=>by
     obtain ⟨m,hm⟩:=v9.1 hy
     have e:=It.enc_sh (.s s) (0+szL ((sts p).take i))
     simp only [It.enc] at e
     have:=hseg m (y.sh _) (by rw [e,qy,hm];rfl)
     exact ⟨_,xc this,rfl⟩
    refine ⟨hnd,fun y hy=>?_,fun y hy=>?_,fun y hy=>?_,hc.pow,hc.pl⟩<;>rw [St.one_enc] at hy<;>rcases xf.1 hy with q|q
    ·have:=It.enc_kids (.s s) 0 y q
     have e:(It.s s).sz=s.sz:=rfl
     omega
    ·rw [xj] at q;subst q;simp
    ·obtain ⟨y',h1,h2⟩:=hn y q;rw [<-h2];exact h.lo y' h1
    ·rw [xj] at q;subst q;simp
    ·obtain ⟨y',h1,h2⟩:=hn y q;rw [<-h2];exact h.hi y' h1
    ·rw [xj] at q;subst q;simp
   have hoo:s.one.ok:=⟨hso,trivial⟩
   have hod:s.one.dep<=50:=by simp only [St.one,Ls.dep];omega
   have hos:s.one.sz+1<=2000:=by
    have e:p.sz+1<=2000:=hz
    simp only [St.one,Ls.sz];omega
   simp only [↓qo,xy,reduceIte,Nat.reduceEqDiff,w23,hlv,q1,w29,ix,ld]
   refine C3.q (qoi (M:=M) hNI hoo hos) fun v3 H3 ⟨hv3,f3⟩=>?_
   subst hv3
   rw [print1 hoo hod]
   have hcat:(((sts p).take i).flatMap fun s=>s.one.txt 0).length+(s.one.txt 0).length<=140737488355328:=by
    have e:p.txt 0=(((sts p).take i).flatMap fun s=>s.one.txt 0)++(s.one.txt 0++((sts p).drop (i+1)).flatMap fun s=>s.one.txt 0):=by
     rw [qt9]
     conv=>lhs;rw [<-ya i (sts p)]
     rw [k9,qmf hsi,x8]
    have:=congrArg List.length e
    rw [qe,qe] at this
    omega
   have cat:=o_cat _ _ hcat
   have wi:wrapI .i64 ((i:Int)+1)=((i+1:Nat):Int):=by rw [js (by omega) (by omega)];omega
   have hst:(((sts p).take i).flatMap fun s=>s.one.txt 0)++s.one.txt 0=((sts p).take (i+1)).flatMap fun s=>s.one.txt 0:=by
    rw [yy,hsi,k9];simp
   rw [hst] at cat
   simp only [↓qo,xy,reduceIte,Nat.reduceEqDiff,x20,x21,w33,t0,w41,cat,w42,wi]
   exact ⟨_,_,⟨i+1,rfl,rfl,by omega,fc.trans f3 fun _ q=>q.elim⟩,by simp only [↓qo,xy,reduceIte,Nat.reduceEqDiff],by omega⟩
  ·have q1:¬ (i:Int)<((sts p).length:Nat):=by omega
   have hlast:t[p.sz]? = some ⟨20,0,ints (p.ends 0)⟩:=by
    rw [hp,Ls.encL,qp (by rw [Ls.len];exact qd _),Ls.len,Nat.sub_self];rfl
   have hc:=((h.em f12).em fc).nd
   obtain ⟨ka,hka,_,i1,_,_,_,i2⟩:=hc.get hlast
   have hal:=hka.len
   simp only at hal
   rw [qo8] at hal
   have hlen:t.length=p.sz+1:=by rw [hp,Ls.lenL]
   have wl:wrapI .i64 (((t.length:Nat):Int)-1)=((p.sz:Nat):Int):=by rw [js (by omega) (by omega)];omega
   have hu:(((sts p).take i).flatMap fun s=>s.one.txt 0)=p.txt 0:=by rw [xp hge,<-qt9]
   have t1:=qbq (show p.txt 0=p.txt 0 from rfl)
   have t2:=qbq (show (((sts p).length:Nat):Int)=(((sts p).length:Nat):Int) from rfl)
   rw [hu]
   simp only [↓qo,xy,reduceIte,Nat.reduceEqDiff,w23,hlv,q1,reduceCtorEq,w43,t0,w51,t1,hc.len,wl,i1 .i64,i2,hal,t2]
 ·simp only [↓qo,xy,reduceIte,Nat.reduceEqDiff,w12]
  refine C3.q (qui (M:=M) h) fun v1 H1 ⟨f1,s,e,hv1,he⟩=>?_
  subst hv1
  simp only [↓qo,xy,reduceIte,Nat.reduceEqDiff,x20,x21]
  refine C3.q (qor (M:=M) (h.em f1) (p:=.nil) fun q=>(hok q).elim) fun lv H2 ⟨f2,hs⟩=>?_
  rcases hs with ⟨_,rfl⟩|⟨q,_⟩
  ·have e0:¬ e=0:=fun q=>hok (he.1 q)
   have nil0:Op.lenSl [.nils]=some (.int .i64 0):=rfl
   have lt0:¬ (0:Int)<0:=by decide
   simp only [↓qo,xy,reduceIte,Nat.reduceEqDiff,w16,w18]
   refine LOOP3.intro (fun k E' Hc=>k=0/\E'=[(8,.int .i64 0),(7,.str []),(6,.nils),(5,.int .i64 e),(3,.bool true)]) ?_ ?_
   ·exact ⟨_,_,⟨rfl,rfl⟩,by simp only [↓qo,xy,reduceIte,Nat.reduceEqDiff]⟩
   rintro k E' Hc ⟨rfl,rfl⟩
   simp only [↓qo,xy,reduceIte,Nat.reduceEqDiff,w23,nil0,lt0,reduceCtorEq,w43,e0,t0]
  ·exact (hok q).elim
end Go.Am
