import Derived.Test.YtgjdmncoonceaaaGreatDoorAmEZk
import Derived.Test.YtgjdmncoonceaaaGreatDoorAmEZf
set_option linter.defProp false
set_option linter.unusedVariables false
set_option linter.unusedSimpArgs false
set_option linter.unusedSectionVars false
set_option maxRecDepth 100000
open Bool renaming false→B2,true→B4
open False renaming elim→NR
open Option renaming none→B5,some→B1
open Nat renaming reduceEqDiff→bc
namespace Go.Am
open Lang Go.Proofs
variable{M:ak}[MK M]
def yR.wB{b:Bu}(h:yR b)(i:Nat):yR (b.wB i):=by
 unfold Bu.wB;cases hm:b.fl[i]? with
 |none=>exact h
 |some m =>
  have g:=h.f m (ze hm);have d:qG (b.fl.eraseIdx i):=λ x q=>h.f x (List.mem_of_mem_eraseIdx q);simp only;split
  .cases j:b.l[m.line.toNat]? with
   |none=>exact h
   |some x =>
    cases hw:b.m[m.line.toNat]? with
    |none=>exact h
    |some w =>
     have⟨a,c⟩:=De.K5 x (h.m w (ze hw)) g;exact⟨λ y q=>(FN q).elim (h.m y) λ e=>e▸a,h.n,d.app c⟩
  .cases hn:b.ns[m.core.toNat]? with
   |none=>exact h
   |some n =>
    have⟨a,c⟩:=No.U.bT (h.n n (ze hn)) g;exact⟨h.m,λ y q=>(FN q).elim (h.n y) λ e=>e▸a,d.app c⟩
def yR.step{b:Bu}(h:yR b)(x:Bt)(d:fI x.v):yR (b.step x):=by
 unfold Bu.step;split
 .split
  .exact h.wB _
  .exact h
 split
 .cases hn:b.ns[x.c.toNat]? with
  |none=>exact h
  |some n =>
   have a:=h.n n (ze hn);simp only;unfold No.call;split
   .exact h.put _ (No.U.load a _).1 (No.U.load a _).2.2
   split
   .exact h.put _ (No.U.store a _ d).1 (No.U.store a _ d).2
   split
   .exact h.put _ (No.U.nq a _ _ d).1 (No.U.nq a _ _ d).2
   split
   .exact h.put _ (No.U.begin a) .nil
   split
   .exact h.put _ (No.U.bt a) .nil
   split
   .exact h.put _ (No.U.abort a _) .nil
   split
   .exact h.put _ (No.U.da a _).1 (No.U.da a _).2
   .exact h.put _ a .nil
 .exact h
def Xz{b:Bu}{x:Bt}{n:No}(hk:x.k≠7)(a:0<=x.c)(hn:b.ns[x.c.toNat]? = B1 n):b.step x=b.put x.c.toNat (n.call x):=by
 unfold Bu.step;rw[qy hk,xg a,hn]
structure SX where
 H:ar
 o:Nat->Nat
 W:Nat->Prop
 p:Nat
 f:Nat
 l:Nat
 sp:Nat
 B:Nat
 cv:AV
 Hb:ar
 k:Nat
abbrev SX.pv(X:SX):AV:=.iface xM (.ptr X.B 0)
structure dO(X:SX)(n:Nat)(s:CS)(H:ar)(o:Nat->Nat)(rv ov:AV)(bs:Bs)(own:Nat->Nat)(V:Int->L8):Prop where
 c:dP H o X.p X.f X.l X.sp X.cv rv ov X.pv s.c s.o (X.k+n)
 b:eL X.Hb H X.B bs s.b own
 I:BuI s.b V
 C:BC s.b (X.k+n)
 U:yR s.b
 nn:s.c.id<s.b.ns.length
 dj:∀z,gE X.B bs z->o z=0
 hb:∀z,z<H.au->o z≠0->X.Hb.au<=z
 go:∀z,z<H.au->o z≠0->(z<X.H.au/\X.o z≠0)\/X.H.au<=z
 gb:∀z,gE X.B bs z->X.W z\/X.H.au<=z
 fr:Fr (λ z=>X.o z≠0\/X.W z) X.H H
def mh(X:SX)(n:Nat)(s:CS)(H:ar):Prop:=∃o rv ov bs own V,dO X n s H o rv ov bs own V
section
variable{X:SX}{n n':Nat}{s t:CS}{H H':ar}{o:Nat->Nat}{rv ov:AV}{bs:Bs}{own:Nat->Nat}{V:Int->L8}
def dO.hn(h:dO X n s H o rv ov bs own V):X.Hb.au<=H.au:=by
 have:=h.b.lo X.B (.inl rfl);have:=h.b.lt;omega
def dO.Im(h:dO X n s H o rv ov bs own V){o':Nat->Nat}{rv' ov':AV}(hb:t.b=s.b)(d:t.c.id=s.c.id)(g:dP H' o' X.p X.f X.l X.sp X.cv rv' ov' X.pv t.c t.o (X.k+n'))(a:∀z,z<H.au->o' z=o z)(f:Fr (λ z=>o z≠0) H H')(hn:n<=n'):dO X n' t H' o' rv' ov' bs own V:=by
 have i:=h.hn;have fn:=f.au;have j:=h.fr.au;refine⟨g,?_,by rw[hb];exact h.I,by rw[hb];exact h.C.mono (by omega),by rw[hb];exact h.U,by rw[hb,d];exact h.nn,λ z q=>(a z (h.b.low q)).trans (h.dj z q),λ z q e=>?_,λ z q e=>?_,h.gb,h.fr.trans f λ z q=>?_⟩
 .rw [hb];refine h.b.fr (f.mono (W':=λ z=>o z≠0/\z<H.au) λ z w q=>⟨q,w⟩) λ z⟨q,w⟩=>⟨h.hb z w q,λ e=>q (h.dj z e)⟩
 .rcases xz z H.au with w|w
  .rw [a z w]at e;exact h.hb z w e
  .omega
 .rcases xz z H.au with w|w
  .rw [a z w]at e;exact h.go z w e
  .exact .inr (by omega)
 .rcases xz z H.au with w|w
  .exact (h.go z w q).imp (λ e=>.inl e.2) id
  .exact .inr (by omega)
def dO.co(h:dO X n s H o rv ov bs own V)(hb:t.b=s.b)(d:t.c.id=s.c.id)(hp:hC H o X.p X.f X.l X.sp X.cv X.pv t.c t.o (X.k+n') H')(hn:n<=n'):mh X n' t H':=by
 have⟨o',rv',ov',e,a,f⟩:=hp;exact⟨o',rv',ov',bs,own,V,h.Im hb d e a f hn⟩
def mh.mono(h:mh X n s H)(hn:n<=n'):mh X n' s H:=by
 have⟨o,rv,ov,bs,own,V,q⟩:=h;exact⟨o,rv,ov,bs,own,V,{q with c:=q.c.fr (Fr.refl H) (λ _ _ _ w=>w) (λ _ _=>rfl) (by omega),C:=q.C.mono (by omega)}⟩
def dO.em(h:dO X n s H o rv ov bs own V)(f:Fr Em H H'):∃o',dO X n s H' o' rv ov bs own V/\(∀z,z<H.au->o' z=o z) /\ ∀z,H.au<=z->o' z=0:=by
 have ho:∀z,z<H.au->aP o H.au 0 z=o z:=λ z q=>iT q;refine⟨aP o H.au 0,{h with c:=h.c.fr f (λ _ _ _ q=>q) ho (qm _),b:=h.b.em f,dj:=λ z q=>(ho z (h.b.low q)).trans (h.dj z q),hb:=λ z q e=>?_,go:=λ z q e=>?_,fr:=h.fr.em f},ho,λ z q=>nh q⟩
 .rcases xz z H.au with w|w
  .rw [ho z w]at e;exact h.hb z w e
  .rw [nh w]at e;exact(e rfl).elim
 .rcases xz z H.au with w|w
  .rw [ho z w]at e;exact h.go z w e
  .rw [nh w]at e;exact(e rfl).elim
def dO.bu(h:dO X n s H o rv ov bs own V){x:Bt}(p:x.k≠7)(m:fI x.v)(hp:kD X.Hb H X.B bs (s.b.step x) H'):mh X (n+1) {s with b:=s.b.step x} H':=by
 have⟨a,d,j,g,f⟩:=hp;have ho:∀z,z<H.au->Go.Am.aP o H.au 0 z=o z:=λ z q=>iT q;have l:=h.hn;have fn:=f.au;have r:=h.fr.au;have hl:(s.b.step x).ns.length=s.b.ns.length:=by
  unfold Bu.step;rw[qy p];split
  .split
   .rfl
   .show (s.b.ns.set _ _).length=_;rw[zg]
  .rfl
 have i:=Bv h.I x;refine⟨Go.Am.aP o H.au 0,rv,ov,a,d,_,h.c.fr f (λ z q e w=>e (h.dj z w)) ho (by omega),j,i,EZ h.C x,h.U.step x m,by show s.c.id<((s.b.step x).ns.length:Int);rw[hl];exact h.nn,λ z q=>?_,λ z q e=>?_,λ z q e=>?_,λ z q=>?_,h.fr.trans f λ z q=>?_⟩
 .rcases g z q with w|w
  .exact (ho z (h.b.low w)).trans (h.dj z w)
  .exact nh w
 .rcases xz z H.au with w|w
  .rw [ho z w]at e;exact h.hb z w e
  .rw [nh w]at e;exact(e rfl).elim
 .rcases xz z H.au with w|w
  .rw [ho z w]at e;exact h.go z w e
  .rw [nh w]at e;exact(e rfl).elim
 .rcases g z q with w|w
  .exact h.gb z w
  .exact .inr (by omega)
 .exact (h.gb z q).imp .inr id
def SX.at(X:SX)(H:ar)(o:Nat->Nat)(bs:Bs):SX:={X with H:=H,o:=o,W:=gE X.B bs}
def dO.re(h:dO X n s H o rv ov bs own V):dO (X.at H o bs) n s H o rv ov bs own V :=
 {h with go:=λ z q e=>.inl ⟨q,e⟩,gb:=λ z q=>.inl q,fr:=Fr.refl H}
def dO.tc(h:dO X n s H o rv ov bs own V){o2:Nat->Nat}{f d:AV}{c:Bs}{b:Nat->Nat}{i:Int->L8}(q:dO (X.at H o bs) n' t H' o2 f d c b i):dO X n' t H' o2 f d c b i:=by
 have g:=h.fr.au;refine{q with go:=λ z a e=>?_,gb:=λ z a=>?_,fr:=h.fr.trans q.fr λ z a=>?_}
 .rcases q.go z a e with⟨w,r⟩|w
  .exact h.go z w r
  .exact .inr (xx g w)
 .rcases q.gb z a with w|w
  .exact h.gb z w
  .exact .inr (xx g w)
 .rcases a with a|a
  .rcases xz z H.au with w|w
   .exact (h.go z w a).imp (λ r=>.inl r.2) id
   .exact .inr (xx g w)
  .exact (h.gb z a).imp .inr id
theorem dO.back(h:dO X n s H o rv ov bs own V)(f:mh (X.at H o bs) n' t H'):mh X n' t H':=by
 have⟨o2,d,c,b,a,e,q⟩:=f;exact⟨o2,d,c,b,a,e,h.tc q⟩
def EW(H:ar)(o:Nat->Nat)(B:Nat)(bs:Bs)(z:Nat):Prop:=z<H.au/\o z=0 /\ ¬gE B bs z
def dO.lo{b:ar}{o2:Nat->Nat}{a:Bs}(q:dO (X.at H o bs) n' t b o2 rv ov a own V){z:Nat}(h:EW H o X.B bs z):EW b o2 X.B a z/\b.get z=H.get z:=by
 have fn:=q.fr.au;refine⟨⟨qn h.1 fn,?_,λ w=>?_⟩,q.fr.ah z h.1 λ w=>w.elim (λ e=>e h.2.1) h.2.2⟩
 .rcases Nat.eq_zero_or_pos (o2 z)with w|w
  .exact w
  .rcases q.go z (qn h.1 fn) (by omega)with⟨_,r⟩|r
   .exact (r h.2.1).elim
   .have:=h.1;exact absurd r (Nat.not_le.2 this)
 .rcases q.gb z w with r|r
  .exact h.2.2 r
  .have:=h.1;exact absurd r (Nat.not_le.2 this)
def dO.pX(h:dO X n s H o rv ov bs own V){d:Nat}(a:EW H o X.B bs d)(g:X.H.au<=d)(hb:X.Hb.au<=d)(e:bE):dO X n s (H.set d e) o rv ov bs own V:=by
 have f:Fr (On d) H (H.set d e):=(Fr.refl H).set (W:=On d) (.inl rfl) _;exact{h with c:=h.c.fr f (λ z _ q(r:z=d)=>q (by rw[r];exact a.2.1)) (λ _ _=>rfl) (qm _),b:=h.b.fr f λ z(r:z=d)=>⟨by omega,by rw[r];exact a.2.2⟩,fr:=h.fr.trans f λ z(r:z=d)=>.inr (by omega)}
def dO.loc(h:dO X n s H o rv ov bs own V)(f:Fr Em H H'):∃o',dO X n s H' o' rv ov bs own V /\ ∀z,(H.au<=z/\z<H'.au->EW H' o' X.B bs z)/\(EW H o X.B bs z->EW H' o' X.B bs z):=by
 have⟨o',c,a,b⟩:=h.em f;refine⟨o',c,λ z=>⟨λ q=>⟨q.2,b z q.1,λ w=>by have:=h.b.low w;omega⟩,λ q=>⟨qn q.1 f.au,(a z q.1).trans q.2.1,q.2.2⟩⟩⟩
end
def wF(t:Nat)(v:AV):Op.nilCheck [.iface t v]=B1 (.iface t v):=rfl
def K7:M.kI xM "Load" = B1 Tj:=(MK.mt _ _).trans (by kernel_rfl)
def Gx:M.kI xM "Store" = B1 T6:=(MK.mt _ _).trans (by kernel_rfl)
def O0:M.kI xM "Cas" = B1 TQ:=(MK.mt _ _).trans (by kernel_rfl)
def _w:M.kI xM "Begin" = B1 Ue:=(MK.mt _ _).trans (by kernel_rfl)
def Y4:M.kI xM "Commit" = B1 SM:=(MK.mt _ _).trans (by kernel_rfl)
def VJ:M.kI xM "Abort" = B1 Nh:=(MK.mt _ _).trans (by kernel_rfl)
def SC:M.kI xM "Live" = B1 TB:=(MK.mt _ _).trans (by kernel_rfl)
def Za:M.kI xM "Code" = B1 TM:=(MK.mt _ _).trans (by kernel_rfl)
section
variable{X:SX}{n n':Nat}{s t:CS}{H H':ar}{o:Nat->Nat}{rv ov:AV}{bs:Bs}{own:Nat->Nat}{V:Int->L8}
def dO.node(h:dO X n s H o rv ov bs own V):0<=s.c.id/\s.b.ns[s.c.id.toNat]? = B1 s.node:=by
 have a:=h.c.w.id;have hn:=h.nn;refine⟨a,?_⟩;have hl:s.c.id.toNat<s.b.ns.length:=by omega
 unfold CS.node;rw[xf hl];rfl
def dO.bb(h:dO X n s H o rv ov bs own V)(hk:X.k+n<=90000):BB s.b:=h.C.bb h.I (by omega)
def dO.Ba(h:dO X n s H o rv ov bs own V)(k v:Int)(a w:Int)(hk:k≠7):s.b.step ⟨k,s.c.id,a,v,w⟩=s.b.put s.c.id.toNat (s.node.call ⟨k,s.c.id,a,v,w⟩):=Xz hk h.node.1 h.node.2
def OI(h:dO X n s H o rv ov bs own V)(hk:X.k+n<=90000)(a:Int):zb M VV [.ptr X.p 0,.int .i64 a] H λ v H'=>v=.tuple [.int .u64 (s.kY a).1,.bool (s.kY a).2]/\fI (s.kY a).1/\mh X (n+1) (s.ld a) H':=by
 refine q0e ?_;have hu:fI (s.kY a).1:=(No.U.load (h.U.n s.node (ze h.node.2)) a).2.1;simp only[aa,bc,q0f,aw,h.c.bm,SX.pv,wF,K7];refine C3.q (xkv h.b (h.bb hk) h.node.1 h.node.2 a) λ v H1⟨d,hp⟩=>?_;subst d;have e:=h.Ba 0 0 a 0 (by decide);have st:mh X (n+1) (s.ld a) H1:=h.bu (x:=⟨0,s.c.id,a,0,0⟩) (by show(0:Int)≠7;decide) bI (by rw[e];exact hp);cases q:(s.node.load a).2.2.1 with
 |false =>
  have e2:(s.kY a).2=false:=by unfold CS.kY;rw[q];rfl
  have e1:(s.kY a).1=(s.node.load a).2.1:=rfl;simp only[aa,bc,aw,e2,e1];exact⟨hu,st⟩
 |true =>
  have e2:(s.kY a).2=decide ((s.node.load a).2.2.2.2=0):=by unfold CS.kY;rw[q];rfl
  have e1:(s.kY a).1=(s.node.load a).2.1:=rfl;simp only[aa,bc,aw,e2,e1];exact⟨hu,st⟩
def Rc(h:dO X n s H o rv ov bs own V)(hk:X.k+n<=90000)(a:Int){v:Int}(d:fI v):zb M _m [.ptr X.p 0,.int .i64 a,.int .u64 v] H λ w H'=>w=.bool (s.vL a v)/\mh X (n+1) (s.st a v) H':=by
 refine qxq ?_;simp only[aa,bc,qxr,aw,h.c.bm,SX.pv,wF,Gx];refine C3.q (xin h.b (h.bb hk) h.node.1 h.node.2 a v) λ w H1⟨hw,hp⟩=>?_;subst hw;have e:=h.Ba 1 v a 0 (by decide);have st:mh X (n+1) (s.st a v) H1:=h.bu (x:=⟨1,s.c.id,a,v,0⟩) (by show(1:Int)≠7;decide) d (by rw[e];exact hp);cases q:(s.node.store a v).2.1 with
 |false =>
  have e2:s.vL a v=false:=by unfold CS.vL;rw[q];rfl
  simp only[aa,bc,aw,e2];exact st
 |true =>
  have e2:s.vL a v=decide ((s.node.store a v).2.2.2=0):=by unfold CS.vL;rw[q];rfl
  simp only[aa,bc,aw,e2];exact st
def J3(h:dO X n s H o rv ov bs own V)(hk:X.k+n<=90000)(a w:Int){v:Int}(d:fI v):zb M κ [.ptr X.p 0,.int .i64 a,.int .u64 w,.int .u64 v] H λ r H'=>r=.tuple [.bool (s.Ar a w).1,.bool (s.Ar a w).2]/\mh X (n+1) (s.cs a w v) H':=by
 refine q4h ?_;simp only[aa,bc,q4i,aw,h.c.bm,SX.pv,wF,O0];refine C3.q (ad3 h.b (h.bb hk) h.node.1 h.node.2 a w v) λ r H1⟨hr,hp⟩=>?_;subst hr;have e:=h.Ba 2 v a w (by decide);have st:mh X (n+1) (s.cs a w v) H1:=h.bu (x:=⟨2,s.c.id,a,v,w⟩) (by show(2:Int)≠7;decide) d (by rw[e];exact hp);have e1:(s.Ar a w).1=(s.node.jP a w).1:=rfl;cases q:(s.node.jP a w).2.1 with
 |false =>
  have e2:(s.Ar a w).2=false:=by unfold CS.Ar;rw[q];rfl
  simp only[aa,bc,aw,e2,e1];exact st
 |true =>
  have e2:(s.Ar a w).2=decide ((s.node.jP a w).2.2=0):=by unfold CS.Ar;rw[q];rfl
  simp only[aa,bc,aw,e2,e1];exact st
def xk7(h:dO X n s H o rv ov bs own V)(hk:X.k+n<=90000):zb M Ue [.ptr X.B 0,.int .i64 s.c.id] H λ _ H'=>mh X (n+1) (s.lF 3 0 0 0) H' :=
 (xh9 h.b (h.bb hk) h.node.1 h.node.2).mono λ _ H1⟨_,hp⟩=>h.bu (x:=⟨3,s.c.id,0,0,0⟩) (by show(3:Int)≠7;decide) bI (by rw[h.Ba 3 0 0 0 (by decide)];exact hp)
def Xh(h:dO X n s H o rv ov bs own V)(hk:X.k+n<=90000):zb M SM [.ptr X.B 0,.int .i64 s.c.id] H λ _ H'=>mh X (n+1) (s.lF 4 0 0 0) H' :=
 (xen h.b (h.bb hk) h.node.1 h.node.2).mono λ _ H1⟨_,hp⟩=>h.bu (x:=⟨4,s.c.id,0,0,0⟩) (by show(4:Int)≠7;decide) bI (by rw[h.Ba 4 0 0 0 (by decide)];exact hp)
def UJ(h:dO X n s H o rv ov bs own V)(hk:X.k+n<=90000)(c:Int):zb M Nh [.ptr X.B 0,.int .i64 s.c.id,.int .i64 c] H λ _ H'=>mh X (n+1) (s.lF 5 c 0 0) H' :=
 (q9a h.b (h.bb hk) h.node.1 h.node.2 c).mono λ _ H1 hp=>h.bu (x:=⟨5,s.c.id,c,0,0⟩) (by show(5:Int)≠7;decide) bI (by rw[h.Ba 5 0 c 0 (by decide)];exact hp)
def Lr(h:dO X n s H o rv ov bs own V)(hk:X.k+n<=90000):∀K,C3 M B4 (.func TB) [.ptr X.B 0,.int .i64 s.c.id] H K=K B4 (.bool s.node.live) H:=dA (xbs h.b (h.bb hk) h.node.1 h.node.2)
end
end Go.Am
namespace Go.Am
open Lang Go.Proofs
variable{M:ak}[MK M]
section
variable{X:SX}{n n':Nat}{s t:CS}{H H':ar}{o:Nat->Nat}{rv ov:AV}{bs:Bs}{own:Nat->Nat}{V:Int->L8}
def dO.here(h:dO X n s H o rv ov bs own V):mh X n s H:=⟨o,rv,ov,bs,own,V,h⟩
def dO.eD(h:dO X n s H o rv ov bs own V)(hn:n<=n'):mh X n' s H:=h.here.mono hn
def dO.on(h:dO X n s H o rv ov bs own V){d:Co}{rv':AV}(a:d.id=s.c.id)(f:Fr (On X.p) H H')(g:dP H' o X.p X.f X.l X.sp X.cv rv' ov X.pv d s.o (X.k+n)):dO X n {s with c:=d} H' o rv' ov bs own V:=by
 have i:=h.hn;have fn:=f.au;have j:=h.fr.au;have hp:=h.c.op;refine{h with c:=g,b:=?_,nn:=by show d.id<_;rw[a];exact h.nn,hb:=λ z q e=>?_,go:=λ z q e=>?_,fr:=h.fr.trans f λ z(q:z=X.p)=>?_}
 .refine h.b.fr (f.mono (W':=λ z=>o z≠0/\z<H.au) λ z w(q:z=X.p)=>⟨by rw[q,hp];decide,w⟩) λ z⟨q,w⟩=>⟨h.hb z w q,λ e=>q (h.dj z e)⟩
 .rcases xz z H.au with w|w
  .exact h.hb z w e
  .omega
 .rcases xz z H.au with w|w
  .exact h.go z w e
  .exact .inr (by omega)
 .rw [q];exact(h.go X.p h.c.row.2 (by rw[hp];decide)).imp (λ e=>.inl e.2) id
theorem dO.put(h:dO X n s H o rv ov bs own V)(i:Nat){v:AV}(d:Co)(a:aB v=B4)(e:i<24)(he:(cO s.c X.f X.l X.sp X.cv rv ov X.pv).set i v=cO d X.f X.l X.sp X.cv rv ov X.pv)(hs:d.fi=s.c.fi/\d.la=s.c.la/\d.so=s.c.so/\d.code=s.c.code)(hr:d.aU=s.c.aU/\d.id=s.c.id)(hw:I8 d (X.k+n)) :
 ∃H',Op.store 1 [.ptr X.p i,v] H=B1 (.undef,H')/\dO X n {s with c:=d} H' o rv ov bs own V:=by
 have⟨H1,s1,a,b⟩:=h.c.put i d a e he hs hr.1 hw;exact⟨H1,s1,h.on hr.2 b a⟩
def dO.want(h:dO X n s H o rv ov bs own V)(e:py)(he:fI e.addr):∃H',Op.store 5 [.ptr X.p 7,.agg (bj e)] H=B1 (.undef,H')/\dO X n {s with c:={s.c with want:=e}} H' o rv ov bs own V:=by
 have s1:=h.c.row.fH (k:=7) (n:=5) (v:=.agg (bj e)) (by rw[zp];rfl) (by simp[cO]) (by rw[zp];rfl);have e2:(cO s.c X.f X.l X.sp X.cv rv ov X.pv).take 7++AV.cells (.agg (bj e))++(cO s.c X.f X.l X.sp X.cv rv ov X.pv).drop (7+5)=cO {s.c with want:=e} X.f X.l X.sp X.cv rv ov X.pv:=by rw[zp];rfl
 rw[e2]at s1;have⟨a,b⟩:=h.c.cell (d:={s.c with want:=e}) (k':=X.k+n) ⟨rfl,rfl,rfl,rfl⟩ (rv':=rv) ⟨h.c.rd,h.c.qF⟩ ⟨h.c.ou,h.c.rB⟩ h.c.Gb {h.c.w with wu:=he};exact⟨_,s1,h.on rfl b a⟩
def dO.forget(h:dO X n s H o rv ov bs own V):∃H',Op.store 1 [.ptr X.p 13,.nils] H=B1 (.undef,H')/\dO X n {s with c:={s.c with aU:=[]}} H' o .nils ov bs own V:=by
 have s1:=h.c.row.st 13 (v:=.nils) rfl (by simp[cO]);have⟨a,b⟩:=h.c.cell (d:={s.c with aU:=[]}) (k':=X.k+n) ⟨rfl,rfl,rfl,rfl⟩ (rv':=.nils) ⟨Own.nil ..,λ z q=>(q.1 rfl).elim⟩ ⟨h.c.ou,h.c.rB⟩ h.c.Gb {h.c.w with ru:=λ y w=>(List.not_mem_nil w).elim,rl:=xw _,Lp:=λ i x w=>by rw[List.getElem?_nil]at w;cases w};exact⟨_,s1,h.on rfl b a⟩
def jR:[AV.int .i64 0,.int .i64 0,.int .i64 0,.int .u64 0,.int .u64 0]=bj ir:=rfl
def Pg:Op.build (bj ir) [] []=B1 (.agg (bj ir)):=rfl
def Jh(k:Int):Op.build (bj ir) [(0,1)] [.int .i64 k]=B1 (.agg (bj ⟨k,0,0,0,0⟩)):=rfl
def i'(s:CS):s.aD.b=s.b:=by unfold CS.aD;simp only;split<;>rfl
def qzn(s:CS):s.aD.c.id=s.c.id:=by unfold CS.aD;simp only;split<;>rfl
def Q0(s:CS):s.cX.b=s.b:=i' s
def PD(s:CS):s.cX.c.id=s.c.id:=qzn s
def _t(h:dO X n s H o rv ov bs own V)(hk:X.k+n<=90000)(hl:s.o.length<=1000):zb M YB [.ptr X.p 0] H λ _ H'=>mh X (n+1) s.dH H':=by
 refine qt4 ?_;unfold CS.dH
 by_cases b:s.c.la.lane=0
 .rw [xg b];have⟨H1,s1,a⟩:=h.put 20 (v:=.bool B4) {s.c with halted:=B4} rfl (by decide) rfl ⟨rfl,rfl,rfl,rfl⟩ ⟨rfl,rfl⟩ {h.c.w with};have⟨u,s2,e⟩:=a.put 21 (v:=.bool B4) {s.c with halted:=B4,zA:=B4} rfl (by decide) rfl ⟨rfl,rfl,rfl,rfl⟩ ⟨rfl,rfl⟩ {h.c.w with};simp only[aa,bc,TK,aw,h.c.bm,iY h.c.la,qv b,s1,s2];exact e.eD (by omega)
 rw[qy b]
 by_cases d:s.c.la.lane=3
 .rw [xg d];simp only[aa,bc,TK,aw,h.c.bm,iY h.c.la,b,qv d,jR,Pg];have⟨g,fv,hs⟩:=h.c.so;refine C3.q (xkd hs) λ _ H1 hp=>?_;have⟨o1,m,l,i,oH,y,a⟩:=h.co (t:=s.so .Cf) rfl rfl (h.c.MV hp) (qm _);have⟨u,s2,e⟩:=a.want ir bI;have⟨x,r,j⟩:=e.put 6 (v:=.int .i64 6) {(s.so .Cf).c with want:=ir,ph:=6} rfl (by decide) rfl ⟨rfl,rfl,rfl,rfl⟩ ⟨rfl,rfl⟩ {e.c.w with};simp only[aa,bc,aw,s2,r];exact j.eD (by omega)
 rw[qy d]
 by_cases f:s.c.la.lane=4
 .rw [xg f];have⟨x,r,j⟩:=h.put 6 (v:=.int .i64 10) {s.c with ph:=10} rfl (by decide) rfl ⟨rfl,rfl,rfl,rfl⟩ ⟨rfl,rfl⟩ {h.c.w with};simp only[aa,bc,TK,aw,h.c.bm,iY h.c.la,b,d,qv f,r];exact j.eD (by omega)
 rw[qy f];simp only[aa,bc,TK,aw,h.c.bm,iY h.c.la,b,d,f,SX.pv,wF,VJ];refine C3.q (UJ h hk 7) λ _ H1⟨o1,m,l,i,oH,y,a⟩=>?_;simp only[aa,bc];refine C3.q (YK (s:=s.lF 5 7 0 0) a.c hl) λ _ u hp=>?_;simp only[aa,bc];exact a.co (t:=(s.lF 5 7 0 0).breaks) rfl rfl hp (qm _)
def CS._k(s:CS):CS:={s.tell 1 0 0 0 with c:={s.c with aU:=[],done:=0,wrote:=B2,said:=B2}}
def CS.bg1(t:CS):CS :=
 if t.c.la.lane=1 then(t.lF 3 0 0 0).ph 2
 else if t.c.la.lane=2 then(t.lF 3 0 0 0).ph 3
 else if t.c.la.lane=3 then let u:=t.so .begin
  {u with c:={u.c with want:=⟨5,0,0,0,0⟩,ph:=6}}
 else t.ph 4
def xla(s:CS):s.lT=s._k.bg1:=rfl
def Dp(h:dO X n s H o rv ov bs own V)(hk:X.k+n<=90000)(hl:s.o.length<=1000):zb M ql0 [.ptr X.p 0] H λ _ H'=>mh X (n+1) s.lT H':=by
 refine qvo ?_;rw[xla];simp only[aa,bc,Qz];refine C3.q (FA h.c hl 1 0 0 0) λ _ H1 hp=>?_;have⟨o1,Q,C,B,oH,N,O⟩:=h.co (t:=s.tell 1 0 0 0) rfl rfl hp (qm _);have⟨R,s2,F⟩:=O.forget;have⟨S,x,G⟩:=F.put 14 (v:=.int .i64 0) {s.c with aU:=[],done:=0} rfl (by decide) rfl ⟨rfl,rfl,rfl,rfl⟩ ⟨rfl,rfl⟩ {F.c.w with d0:=yE _};have⟨T,y,I⟩:=G.put 15 (v:=.bool B2) {s.c with aU:=[],done:=0,wrote:=B2} rfl (by decide) rfl ⟨rfl,rfl,rfl,rfl⟩ ⟨rfl,rfl⟩ {G.c.w with};have⟨L,z,a⟩:=I.put 17 (v:=.bool B2) {s.c with aU:=[],done:=0,wrote:=B2,said:=B2} rfl (by decide) rfl ⟨rfl,rfl,rfl,rfl⟩ ⟨rfl,rfl⟩ {I.c.w with};obtain⟨t,J⟩:∃t:CS,t=s._k:=⟨_,rfl⟩
 have a:dO X n t L o1 .nils C B oH N:=J▸a;rw[<-J];unfold CS.bg1;simp only;have ln:=iY (M:=M) a.c.la
 by_cases i:t.c.la.lane=1
 .rw [xg i];simp only[aa,bc,Qz,aw,s2,x,y,z,a.c.bm,ln,qv i,SX.pv,wF,_w];refine C3.q (xk7 a hk) λ _ D⟨K,r,l,j,d,E,e⟩=>?_;have⟨A,f,b⟩:=e.put 6 (v:=.int .i64 2) {(t.lF 3 0 0 0).c with ph:=2} rfl (by decide) rfl ⟨rfl,rfl,rfl,rfl⟩ ⟨rfl,rfl⟩ {e.c.w with};simp only[aa,bc,aw,f];exact b.here
 rw[qy i]
 by_cases m:t.c.la.lane=2
 .rw [xg m];simp only[aa,bc,Qz,aw,s2,x,y,z,a.c.bm,ln,i,qv m,SX.pv,wF,_w];refine C3.q (xk7 a hk) λ _ D⟨K,r,l,j,d,E,e⟩=>?_;have⟨A,f,b⟩:=e.put 6 (v:=.int .i64 3) {(t.lF 3 0 0 0).c with ph:=3} rfl (by decide) rfl ⟨rfl,rfl,rfl,rfl⟩ ⟨rfl,rfl⟩ {e.c.w with};simp only[aa,bc,aw,f];exact b.here
 rw[qy m]
 by_cases u:t.c.la.lane=3
 .rw [xg u];simp only[aa,bc,Qz,aw,s2,x,y,z,a.c.bm,ln,i,m,qv u,jR,Jh];have⟨g,fv,hs⟩:=a.c.so;refine C3.q (Lh hs) λ _ D hp=>?_;have⟨K,r,l,j,d,E,e⟩:=a.co (t:=t.so .begin) rfl rfl (a.c.MV hp) (qm _);have⟨A,f,b⟩:=e.want ⟨5,0,0,0,0⟩ bI;have⟨U,s8,P⟩:=b.put 6 (v:=.int .i64 6) {(t.so .begin).c with want:=⟨5,0,0,0,0⟩,ph:=6} rfl (by decide) rfl ⟨rfl,rfl,rfl,rfl⟩ ⟨rfl,rfl⟩ {b.c.w with};simp only[aa,bc,aw,f,s8];exact P.eD (by omega)
 rw[qy u];have⟨A,f,b⟩:=a.put 6 (v:=.int .i64 4) {t.c with ph:=4} rfl (by decide) rfl ⟨rfl,rfl,rfl,rfl⟩ ⟨rfl,rfl⟩ {a.c.w with};simp only[aa,bc,Qz,aw,s2,x,y,z,a.c.bm,ln,i,m,u,f];exact b.eD (by omega)
def GC(h:dO X n s H o rv ov bs own V)(hk:X.k+n<=90000)(hl:s.o.length<=1000):zb M qm5 [.ptr X.p 0] H λ _ H'=>mh X (n+1) s.qW H':=by
 refine qxo ?_;unfold CS.qW;simp only;simp only[aa,bc,qxp,aw,h.c.bm];refine C3.q (J3 h hk 0 s.c.seq (FT _)) λ r H1⟨hr,o1,x,m,i,oH,C,a⟩=>?_;subst hr;cases F:(s.Ar 0 s.c.seq).2 with
 |false =>
  rw[xg rfl];simp only[aa,bc,aw];exact a.here
 |true =>
  rw[qy (by decide)];cases E:(s.Ar 0 s.c.seq).1 with
  |true =>
   rw[xg rfl];simp only[aa,bc,aw];refine C3.q (FA (s:=s.cs 0 s.c.seq (aj .u64 (s.c.seq+1))) a.c hl 4 0 0 0) λ _ A hp=>?_;have⟨o2,y,u,j,f,D,e⟩:=a.co (t:=(s.cs 0 s.c.seq (aj .u64 (s.c.seq+1))).tell 4 0 0 0) rfl rfl hp (qm _);have⟨g,d,b⟩:=e.put 6 (v:=.int .i64 0) {s.c with ph:=0} rfl (by decide) rfl ⟨rfl,rfl,rfl,rfl⟩ ⟨rfl,rfl⟩ {e.c.w with};have⟨B,z,l⟩:=b.put 16 (v:=.bool B4) {s.c with ph:=0,held:=B4} rfl (by decide) rfl ⟨rfl,rfl,rfl,rfl⟩ ⟨rfl,rfl⟩ {b.c.w with};simp only[aa,bc,aw,d,z];exact l.here
  |false =>
   rw[qy (by decide)];have⟨g,d,b⟩:=a.put 6 (v:=.int .i64 4) {s.c with ph:=4} rfl (by decide) rfl ⟨rfl,rfl,rfl,rfl⟩ ⟨rfl,rfl⟩ {a.c.w with};simp only[aa,bc,aw,d];exact b.here
def Kk(h:dO X n s H o rv ov bs own V)(hk:X.k+n<=90000)(hl:s.o.length<=1000):zb M qpa [.ptr X.p 0] H λ _ H'=>mh X (n+1) s.ends H':=by
 refine qz9 ?_;unfold CS.ends;have ln:=iY (M:=M) h.c.la
 by_cases a:s.c.la.lane=3
 .rw [xg a];simp only[aa,bc,QT,aw,h.c.bm,ln,qv a,jR,Jh];have⟨g,fv,hs⟩:=h.c.so;refine C3.q (xd4 hs) λ _ I hp=>?_;have⟨N,F,E,B,u,L,C⟩:=h.co (t:=s.so .bt) rfl rfl (h.c.MV hp) (qm _);have⟨J,G,r⟩:=C.want ⟨6,0,0,0,0⟩ bI;have⟨K,s8,D⟩:=r.put 6 (v:=.int .i64 6) {(s.so .bt).c with want:=⟨6,0,0,0,0⟩,ph:=6} rfl (by decide) rfl ⟨rfl,rfl,rfl,rfl⟩ ⟨rfl,rfl⟩ {r.c.w with};simp only[aa,bc,aw,G,s8];exact D.eD (by omega)
 rw[qy a]
 by_cases b:s.c.la.lane=4
 .rw [xg b];have⟨z,m,i⟩:=h.put 6 (v:=.int .i64 9) {s.c with ph:=9} rfl (by decide) rfl ⟨rfl,rfl,rfl,rfl⟩ ⟨rfl,rfl⟩ {h.c.w with};simp only[aa,bc,QT,aw,h.c.bm,ln,a,qv b,m];exact i.eD (by omega)
 rw[qy b]
 by_cases e:s.c.la.lane=2
 .cases x:s.c.wrote with
  |true =>
   rw[xg ⟨e,rfl⟩];have⟨z,m,i⟩:=h.put 6 (v:=.int .i64 7) {s.c with ph:=7} rfl (by decide) rfl ⟨rfl,rfl,rfl,rfl⟩ ⟨rfl,rfl⟩ {h.c.w with};simp only[aa,bc,QT,aw,h.c.bm,ln,a,b,qv e,x,m];exact i.eD (by omega)
  |false =>
   rw[qy (λ w=>by cases w.2)];simp only[aa,bc,QT,aw,h.c.bm,ln,a,b,qv e,x,SX.pv,wF,Y4];refine C3.q (Xh h hk) λ _ H1⟨o1,l,j,f,oH,A,d⟩=>?_;simp only[aa,bc];refine C3.q (ON (s:=s.lF 4 0 0 0) d.c hl) λ _ y hp=>?_;simp only[aa,bc];exact d.co (t:=(s.lF 4 0 0 0).cX) (Q0 _) (PD _) hp (qm _)
 .rw [qy (λ w=>e w.1)];simp only[aa,bc,QT,aw,h.c.bm,ln,a,b,e,SX.pv,wF,Y4];refine C3.q (Xh h hk) λ _ H1⟨o1,l,j,f,oH,A,d⟩=>?_;simp only[aa,bc];refine C3.q (ON (s:=s.lF 4 0 0 0) d.c hl) λ _ y hp=>?_;simp only[aa,bc];exact d.co (t:=(s.lF 4 0 0 0).cX) (Q0 _) (PD _) hp (qm _)
end
end Go.Am
namespace Go.Am
open Lang Go.Proofs
variable{M:ak}[MK M]
def iG(ps:List Pr)(a:Int):List (List AV):=match iv ps a with
 |some i=>[[.int .i64 (i:Int),.int .u64 (ps.getD i ⟨0,0⟩).v]]
 |none=>[]
def kP(ps:List Pr)(a:Int)(i:Nat):Nat:=match iv ps a with
 |some j=>if j<i then 1 else 0
 |none=>0
def GJ(b:List Pr)(a:Int):kP b a 0=0:=by unfold kP;split<;>simp
def xmh(b:List Pr)(a:Int):kP b a b.length=(iG b a).length:=by
 unfold kP iG;cases h:iv b a with
 |none=>rfl
 |some j=>simp only;rw[xg (pH h).1];rfl
def DI{c:List Pr}{a:Int}{i:Nat}{x:Pr}(f:c[i]? = B1 x)(h:x.a≠a):kP c a (i+1)=kP c a i:=by
 unfold kP;cases q:iv c a with
 |none=>rfl
 |some j =>
  have:j≠i:=λ e=>by
   obtain⟨-,y,b,d⟩:=pH q;rw[e,f]at b;injection b with b;rw[b]at h;exact h d
  simp only
  by_cases w:j<i
  .rw [xg w,xg (by omega)]
  .rw [qy w,qy (by omega)]
def af6{b:List Pr}(d:tt b){i:Nat}{x:Pr}(c:b[i]? = B1 x):kP b x.a (i+1)=kP b x.a i+1/\(iG b x.a)[kP b x.a i]? = B1 [.int .i64 (i:Int),.int .u64 x.v]:=by
 have q:=d i x c;unfold kP iG;rw[q];simp only;rw[xg (by omega),qy (by omega),zw,c];exact⟨rfl,rfl⟩
def sq{H0:ar}{k l p:Nat}{a:Int}{rv:AV}{c:List Pr}(g1:H0.get k=B1 (OR [.ptr p 0] AX))(g2:H0.get l=B1 (OR [.int .i64 a] cF))(l1:k<H0.au)(l2:l<H0.au)(hd:tt c)(hl:c.length<=1000000) :
 ta M Ng [] [.ptr k 0,.ptr l 0] (λ z=>z=k\/z=l) (λ _=>False) (λ _ H=>Op.ae [.ptr p 13] H=B1 rv/\bN cN 2 H rv c) H0 (iG c a):=by
 intro Y R S m H1 hnx U B J loc W hI step;have⟨p1,p2,p3⟩:=U k (.inl (.inl rfl));have⟨q1,O,P⟩:=U l (.inl (.inr rfl))
 suffices h:zb M Ng [.fn (.yield Y) [] [],.ptr k 0,.ptr l 0] H1 (Iv R S m (λ _=>False) H1 (iG c a).length)by
  have⟨v,H',hc,W',q1,O,P⟩:=h.elim;exact⟨v,H',W',hc,q1,O,P⟩
 refine qvs ?_;have lp:Op.ae [.ptr k 0] H1=B1 (.ptr p 0):=by rw[x9 (xc (by rw[p2];exact g1))];rfl
 have Z:∀{d:ar},Fr m H1 d->Op.ae [.ptr l 0] d=B1 (.int .i64 a):=λ f=>by rw[x9 (xc (by rw[f.ah _ (by omega) P,O];exact g2))];rfl
 have⟨lr,s0⟩:=hI 0 m H1 B;simp only[aa,bc,Rk,lp,aw,lr,s0.len];refine b9.intro (λ n E d=>∃(i:Nat)(V:Nat->Prop),E=[(11,.int .i64 (i:Int)),(10,.int .i64 ((c.length:Nat):Int)),(9,rv),(0,.fn (.yield Y) [] []),(1,.ptr k 0),(2,.ptr l 0)]/\n=c.length-i/\i<=c.length/\Jw R m H1 d (kP c a i) V) ?_ ?_
 .exact ⟨_,_,⟨0,m,rfl,rfl,xw _,⟨by rw[GJ];exact B,λ b hb=>⟨J b hb,.inl hb⟩,Fr.refl _⟩⟩,by simp only[aa,bc]⟩
 rintro n E d ⟨i,V,rfl,rfl,hi,g⟩;rcases xz i c.length with L|hge
 .have F:(i:Int)<((c.length:Nat):Int):=by omega
  obtain⟨e,he⟩:∃e,c[i]? = B1 e:=⟨c[i],by simp[L]⟩
  obtain⟨-,sl⟩:=hI _ V d g.hR;have ix:Op.aR 2 [rv,.int .i64 (i:Int)]=B1 (Nm rv i):=sl.idx he rfl .i64;have ld:Op.aq 2 [Nm rv i] d=B1 (.agg (cN e)):=sl.aq ER (by decide) he;have bx:=Uw (H1:=d) e;obtain⟨u,e2⟩:∃X,X=(d.alloc (OR [.int .i64 0,.int .u64 0] vz)).set d.au (OR (cN e) vz):=⟨_,rfl⟩
  rw[<-e2]at bx;have I:Fr Em d u:=by rw[e2];exact zK _ _
  have A:u.get d.au=B1 (OR (cN e) vz):=by rw[e2,xb]
  have yX:Op.ae [.ptr d.au 0] u=B1 (.int .i64 e.a):=x9 (xc A) 0;have N:Op.ae [.ptr d.au 1] u=B1 (.int .u64 e.v):=x9 (xc A) 1;have n2:=I.au;have j:=g.fr.em I;have wj:aj .i64 ((i:Int)+1)=((i+1:Nat):Int):=by rw[jb (by omega) (by omega)];omega
  have T:=loc _ _ _ _ g.hR (λ y r=>I.ah y (g.hV y r).1 id) n2
  by_cases q:e.a=a
  .subst q;have⟨k1,k2⟩:=af6 hd he;have⟨bb,Q,G,hr,hf,D,ht,hs⟩:=step _ _ k2 V u T (λ y r=>⟨by have:=(g.hV y r).1;omega,(g.hV y r).2⟩) (j.mono λ _ _ q=>.inl q);have x:Fr m H1 Q:=j.trans hf λ y q=>(g.hV y q).2;have C:∀y,G y->y<Q.au/\(m y\/H1.au<=y):=λ y q=>⟨(D y q).1,(D y q).2.elim (λ w=>(g.hV y w).2) λ w=>.inr (by have:=g.fr.au;omega)⟩
   simp only[aa,bc,Rk,F,ix,ld,bx,yX,N,Z j];refine C3.tR hr ?_;cases bb with
   |true =>
    simp only[aa,bc,Rk,wj];exact⟨_,_,⟨i+1,G,rfl,rfl,by omega,⟨by rw[k1];exact ht rfl,C,x⟩⟩,by simp only[aa,bc],by omega⟩
   |false =>
    simp only[aa,bc];exact⟨G,x.mono λ _ _ q=>.inl q,C,.inr (hs rfl)⟩
  .simp only[aa,bc,Rk,F,ix,ld,bx,yX,Z j,q,wj];exact⟨_,_,⟨i+1,V,rfl,rfl,by omega,⟨by rw[DI he q];exact T,λ y r=>⟨by have:=(g.hV y r).1;omega,(g.hV y r).2⟩,j⟩⟩,by simp only[aa,bc],by omega⟩
 .have F:¬(i:Int)<((c.length:Nat):Int):=by omega
  have K:i=c.length:=by omega
  simp only[aa,bc,Rk,F];exact⟨V,g.fr.mono λ _ _ q=>.inl q,g.hV,.inl (by rw[<-xmh,<-K];exact g.hR)⟩
end Go.Am
namespace Go.Am
open Lang Go.Proofs
variable{M:ak}[MK M]
def nz{H:ar}(p:Nat)(a:Int):zb M qpb [.ptr p 0,.int .i64 a] H λ v H'=>v=.fn (.func Ng) [] [.ptr H.au 0,.ptr (H.alloc (OR [.ptr p 0] AX)).au 0]/\H'=(H.alloc (OR [.ptr p 0] AX)).alloc (OR [.int .i64 a] cF):=by
 refine q0c ?_;have mk:∀b e,Op.bH Ng 0 [.ptr b 0,.ptr e 0]=B1 (.fn (.func Ng) [] [.ptr b 0,.ptr e 0]):=λ _ _=>rfl;simp only[aa,bc,q0d];rfl
section
variable{X:SX}{n n':Nat}{s t:CS}{H H':ar}{o:Nat->Nat}{rv ov:AV}{bs:Bs}{own:Nat->Nat}{V:Int->L8}
def p9{a:ar}{z t:Nat}{c:List AV}(h:a.get z=H.get z)(g:H.get z=B1 (OR c t)):a.get z=B1 (OR c t):=h.trans g
def y9{z t:Nat}{c:List AV}(g:H.get z=B1 (OR c t))(k:Nat):Op.ae [.ptr z k] H=c[k]?:=x9 (xc g) k
def EP{z t:Nat}{e:py}(g:H.get z=B1 (OR (bj e) t)):Op.aq 5 [.ptr z 0] H=B1 (.agg (bj e)):=rT (xc g) (by simp[bj])
def Kg(X:SX)(n:Nat)(t:CS)(Hx:ar)(ox:Nat->Nat)(bsx:Bs)(Z:ar):Prop:=mh X (n+1) t Z /\ ∀d,EW Hx ox X.B bsx d->X.H.au<=d->X.Hb.au<=d->Z.get d=Hx.get d/\mh X (n+1) t (Z.set d (.deferred B5))
def Kv(H4:ar)(o4:Nat->Nat)(p f l sp:Nat)(cv rv pv:AV)(c:Co)(os:List fh)(k:Nat)(W:Nat->Prop)(Hx:ar):Prop:=∃ox ovx,dP Hx ox p f l sp cv rv ovx pv c os k/\(∀z,z<H4.au->ox z=o4 z)/\(∀z,z<Hx.au->ox z≠0->W z)/\H4.au<=Hx.au
def Kv.loc{e a Hb:ar}{g:Nat->Nat}{p f l sp k:Nat}{cv rv pv:AV}{c:Co}{os:List fh}{W:Nat->Prop}(h:Kv e g p f l sp cv rv pv c os k W a)(hs:∀z,W z->Hb.get z=a.get z)(hn:a.au<=Hb.au):Kv e g p f l sp cv rv pv c os k W Hb:=by
 have⟨m,b,u,v,i,j⟩:=h;refine⟨aP m a.au 0,b,u.fr (W:=λ z=>¬W z) ⟨hn,λ z w q=>hs z (wh.1 q)⟩ (λ z w q r=>r (i z w q)) (λ z q=>iT q) (qm _),λ z w=>?_,λ z w q=>?_,xx j hn⟩
 .rw [iT (qn w j)];exact v z w
 .rcases xz z a.au with r|r
  .rw [iT r]at q;exact i z r q
  .rw [nh r]at q;exact(q rfl).elim
def xlj(h:dO X n s H o rv ov bs own V)(hk:X.k+n<=90000)(hl:s.o.length<=1000)(e:py)(hu:fI e.addr)(a:Int):zb M QK [.ptr X.p 0,.agg (bj e),.int .i64 a] H λ _ H'=>mh X (n+1) (s.oq e a) H':=by
 refine qxn ?_;obtain⟨H1,e1,f1,n1,-⟩:=cq H (OR [.ptr X.p 0] AX);obtain⟨H2,e2,f12,-,g2⟩:=cq H1 (OR (bj e) jm);have n2:H2.au=H.au+2:=by rw[e2,xy,n1]
 have g1:H2.get H.au=B1 (OR [.ptr X.p 0] AX):=by rw[f12.ah _ (by omega) id,e1,xp]
 have⟨o2,L,lo⟩:=h.loc (f1.em f12);have D:=(lo H.au).1 ⟨qm _,by omega⟩;have N:=(lo H1.au).1 ⟨by omega,by omega⟩;have hr:=L.re;have ln:=iY (M:=M) L.c.la;have l1:=y9 g1 0;have l2:=EP g2;unfold CS.oq
 by_cases T:s.c.la.lane=3
 .rw [xg T];simp only;simp only[aa,bc,KH,aw,<-e1,<-e2,l1,L.c.bm,ln,qv T];have⟨g,fv,hs⟩:=L.c.so;refine C3.q (xka hs a) λ _ O hp=>?_;have⟨o3,rv3,ov3,bs3,own3,V3,h3⟩:=hr.co (t:=s.so (·.load a)) rfl rfl (L.c.MV hp) (qm _);have⟨lo1',r1⟩:=h3.lo D;have⟨lo2',r2⟩:=h3.lo N;have c3:dP O o3 X.p X.f X.l X.sp X.cv rv3 ov3 X.pv (s.so (·.load a)).c s.o (X.k+n):=h3.c;have⟨g3,fv3,Q⟩:=c3.so;have m1:=y9 (p9 r1 g1) 0;have m2:=EP (p9 r2 g2);cases b:(s.so (·.load a)).c.so.busy with
  |true =>
   rw[xg rfl];have⟨J,s4,A⟩:=h3.want e hu;have s4:Op.store 5 [.ptr X.p 7,.agg (bj e)] O=B1 (.undef,J):=s4;have⟨_,r4⟩:=A.lo D;have m4:=y9 (p9 r4 g1) 0;have⟨H5,s5,h5⟩:=A.put 6 (v:=.int .i64 6) {(s.so (·.load a)).c with want:=e,ph:=6} rfl (by decide) rfl ⟨rfl,rfl,rfl,rfl⟩ ⟨rfl,rfl⟩ {A.c.w with};have s5:Op.store 1 [.ptr X.p 6,.int .i64 6] J=B1 (.undef,H5):=s5;simp only[aa,bc,KH,aw,m1,c3.bm,ig Q,b,m2,s4,m4,s5];exact L.back (h5.eD (by omega))
  |false =>
   rw[qy (by decide)];simp only[aa,bc,KH,aw,m1,c3.bm,ig Q,b,m2,BO Q];refine C3.q (Se (s:=s.so (·.load a)) c3 hl e hu Q.vu) λ _ J hp=>?_;simp only[aa,bc];exact L.back ((h3.co (t:=(s.so (·.load a)).eW e (s.so (·.load a)).c.so.value) rfl rfl hp (qm _)).mono (by omega))
 rw[qy T];have tail:∀{G:ar}{C:Nat->Nat}{x u:AV}{I:Bs}{ownx:Nat->Nat}{Vx:Int->L8},dO (X.at H2 o2 bs) n s G C x u I ownx Vx->Op.ae [.ptr H.au 0] G=B1 (.ptr X.p 0)/\zb M VV [.ptr X.p 0,.int .i64 a] G λ v J=>v=.tuple [.int .u64 (s.kY a).1,.bool (s.kY a).2]/\Op.ae [.ptr H.au 0] J=B1 (.ptr X.p 0)/\Op.aq 5 [.ptr H1.au 0] J=B1 (.agg (bj e))/\Kg X n (s.ld a) G C I J/\zb M Wp [.ptr X.p 0,.agg (bj e),.int .u64 (s.kY a).1] J λ _ H5=>Kg X n ((s.ld a).eW e (s.kY a).1) G C I H5:=λ{G C x u I ownx Vx}Y=>by
  have fin:∀{t:CS}{Z:ar}{oz:Nat->Nat}{rvz ovz:AV}{bsz:Bs}{ownz:Nat->Nat}{Vz:Int->L8},dO ((X.at H2 o2 bs).at G C I) (n+1) t Z oz rvz ovz bsz ownz Vz->Kg X n t G C I Z:=λ hz =>
   ⟨L.back (Y.back hz.here),λ d hd h1 h2'=>⟨(hz.lo hd).2,((L.tc (Y.tc hz)).pX (hz.lo hd).1 h1 h2' _).here⟩⟩
  refine⟨y9 (p9 (Y.lo D).2 g1) 0,(OI Y.re hk a).mono λ v J⟨U,hu2,o4,rv4,ov4,bs4,own4,V4,A⟩=>?_⟩;have r1:=(Y.lo D).1;have r2:=(Y.lo N).1;refine⟨U,y9 (p9 ((A.lo r1).2.trans (Y.lo D).2) g1) 0,EP (p9 ((A.lo r2).2.trans (Y.lo N).2) g2),fin A,?_⟩;refine(Se (s:=s.ld a) A.c hl e hu hu2).mono λ _ H5⟨o5,rv5,ov5,c5,a5,f5⟩=>?_;exact fin (A.Im (t:=(s.ld a).eW e (s.kY a).1) rfl rfl c5 a5 f5 (qm _))
 by_cases q4:s.c.la.lane=4
 .rw [xg q4];simp only[aa,bc,KH,aw,<-e1,<-e2,l1,L.c.bm,ln,T,qv q4];refine C3.q (nz X.p a) λ v m⟨U,hh⟩=>?_;obtain⟨O,e3,f23,-,-⟩:=cq H2 (OR [.ptr X.p 0] AX);obtain⟨J,e4⟩:∃Z,Z=O.alloc (OR [.int .i64 a] cF):=⟨_,rfl⟩
  rw[<-e3]at U hh;rw[<-e4]at hh;subst U;subst hh;have f34:Fr Em O m:=e4▸(Fr.refl O).alloc _;have n3:O.au=H.au+3:=by rw[e3,xy,n2]
  have n4:m.au=H.au+4:=by rw[e4,xy,n3]
  have g3:m.get H2.au=B1 (OR [.ptr X.p 0] AX):=by rw[f34.ah _ (by omega) id,e3,xp]
  have g4:m.get O.au=B1 (OR [.int .i64 a] cF):=by rw[e4,xp]
  have⟨o4,A,R⟩:=hr.loc (f23.em f34);have k1:=(R H.au).2 D;have k2:=(R H1.au).2 N;have k3:=(R H2.au).1 ⟨qm _,by omega⟩;have k4:=(R O.au).1 ⟨by omega,by omega⟩;have r1:=(A.lo D).2;have r2:=(A.lo N).2;have c4:dP m o4 X.p X.f X.l X.sp X.cv rv ov X.pv s.c s.o (X.k+n):=A.c;have rl:=c4.w.rl;have kL:∀i,iv s.c.aU a=B1 i->(iG s.c.aU a)=[[.int .i64 (i:Int),.int .u64 (s.c.aU.getD i ⟨0,0⟩).v]]:=λ i q=>by unfold iG;rw[q]
  simp only[aa,bc];refine iE.sZ (fn:=SF) (lp:=O3) (pa:=YI 0) (pb:=Y8 0) qvu m8.1 m8.2 (by decide) qt5 qt6
   (sq (rv:=rv) g3 g4 (by omega) (by omega) c4.w.Lp (by omega)) (λ i W G=>i=0/\Kv m o4 X.p X.f X.l X.sp X.cv rv X.pv s.c s.o (X.k+n) W G)
   (λ ex W G=>ex=.ret /\ ∃i,iv s.c.aU a=B1 i /\ ∃x,Kv m o4 X.p X.f X.l X.sp X.cv x X.pv (s.eW e (s.c.aU.getD i ⟨0,0⟩).v).c (s.eW e (s.c.aU.getD i ⟨0,0⟩).v).o (X.k+n) W G)
   (λ z=>o4 z≠0/\z<m.au) (qm _) ?_ ?_ ?_ ?_ ?_ ?_ ?_ ?_ ?_
  .rintro z ((q|q)|q)
   .exact ⟨by omega,rfl,λ w=>w.1 (by rw[q];exact k3.2.1)⟩
   .exact ⟨by omega,rfl,λ w=>w.1 (by rw[q];exact k4.2.1)⟩
   .exact q.elim
  .exact λ z hz=>hz.2
  .exact ⟨rfl,o4,ov,c4,λ _ _=>rfl,λ z w q=>⟨q,w⟩,qm _⟩
  .exact λ i W Ha Hb⟨S,F⟩hs hn=>⟨S,F.loc hs hn⟩
  .exact λ i W Ha Hb⟨S,i,F,x,T⟩hs hn=>⟨S,i,F,x,T.loc hs hn⟩
  .exact λ i W G⟨S,C,u,F,_⟩=>⟨F.row.ld 13,aO.sl F.rd⟩
  .intro E i lr lb y hy hL2 W K ⟨hi,C,u,c6,a6,w6,le6⟩ hb hf6 hnL hL6 hgL;subst hi;obtain⟨j,hj⟩:∃j,iv s.c.aU a=B1 j:=by
    cases q:iv s.c.aU a with
    |some j=>exact⟨j,rfl⟩
    |none=>unfold iG at hy;rw[q]at hy;cases hy
   rw[kL j hj]at hy;cases hy;obtain⟨vv,hvv⟩:∃vv,vv=(s.c.aU.getD j ⟨0,0⟩).v:=⟨_,rfl⟩
   have hvu:fI vv:=by
    obtain⟨S,y,F,-⟩:=pH hj;rw[hvv,zw,F];exact h.c.w.ru y (ze F)
   rw[<-hvv];refine⟨_,rfl,?_⟩;have w:=KH M ⟨B1 E,QK⟩;simp only[aa,bc,w,A9];refine⟨hgL,?_⟩;have fx:Fr (On E) K (K.set E lb):=(Fr.refl K).set (W:=On E) (.inl rfl) _;have gL:(K.set E lb).get E=B1 lb:=xb ..;have nL:(K.set E lb).au=K.au:=rfl;have oL:C E=0:=zz λ q=>hnL (w6 E hL6 q);have c7:dP (K.set E lb) C X.p X.f X.l X.sp X.cv rv u X.pv s.c s.o (X.k+n):=c6.fr fx (λ z _ q(r:z=E)=>q (by rw[r];exact oL)) (λ _ _=>rfl) (qm _);have gk:∀z c t,z<m.au->o4 z=0->m.get z=B1 (OR c t)->(K.set E lb).get z=B1 (OR c t):=λ z c t S F T=>by
    rw[kr (by omega),hf6.ah z S (λ r=>r.elim (λ r=>r.1 F) id)];exact T
   have m1:=y9 (gk H.au _ _ (by omega) k1.2.1 (p9 r1 g1)) 0;have m2:=EP (gk H1.au _ _ (by omega) k2.2.1 (p9 r2 g2));generalize K.set E lb=H7 at *;simp only[aa,bc,m1,m2];refine C3.q (Se c7 hl e hu hvu) λ _ H8⟨o8,rv8,ov8,c8,a8,f8⟩=>?_;simp only[aa,bc];have n8:=f8.au;refine⟨rfl,by rw[f8.ah E (by omega) (λ q=>q oL)];exact gL,λ z=>z<H8.au/\(W z\/K.au<=z),λ z q=>q,?_,.inr ⟨trivial,rfl,j,hj,rv8,o8,ov8,by rw[<-hvv];exact c8,λ z q=>(a8 z (by omega)).trans (a6 z q),λ z S F=>⟨S,?_⟩,by omega⟩⟩
   .refine (fx.mono λ z _ q=>.inr q).trans f8 λ z q=>?_;rcases xz z K.au with r|r
    .exact .inl (.inl (w6 z r q))
    .exact .inr r
   .rcases xz z K.au with r|r
    .rw [a8 z (by omega)]at F;exact .inl (w6 z r F)
    .exact .inr r
  .rintro d W H' hd P hg hf hW ⟨hi,C,u,c6,a6,w6,le6⟩;have hz:iv s.c.aU a=none:=by
    cases q:iv s.c.aU a with
    |none=>rfl
    |some j=>rw[kL j q]at hi;cases hi
   have hlk:dq s.c.aU a=none:=by rw[JB,hz];rfl
   rw[hlk];simp only;have od:C d=0:=zz λ q=>(hW d (w6 d P q)).2.2 rfl;have h9:=A.Im (t:=s) rfl rfl c6 a6 (hf.mono λ z _ q=>q.elim (λ r=>r.1) NR) (qm _);have ld:EW H' C X.B bs d:=⟨P,od,λ w=>by have:=A.b.low w;omega⟩
   have xd:X.H.au<=d:=by have:=h.fr.au;omega
   have bd:X.Hb.au<=d:=by have:=h.hn;omega
   have⟨t1,t2⟩:=tail h9;simp only[aa,bc,KH,t1];refine C3.q t2 λ v J⟨U,m1,m2,m3,m4⟩=>?_;subst U;cases b:(s.kY a).2 with
   |true =>
    rw[xg rfl];simp only[aa,bc,aw,m1,m2];refine C3.q m4 λ _ H5 hp=>?_;simp only[aa,bc];exact⟨(hp.2 d ld xd bd).1.trans hg,(hp.2 d ld xd bd).2⟩
   |false =>
    rw[qy (by decide)];simp only[aa,bc,aw];exact⟨(m3.2 d ld xd bd).1.trans hg,(m3.2 d ld xd bd).2⟩
  .rintro ex d W H' he hd P hg hf hW ⟨rfl,j,hj,x,C,u,c6,a6,w6,le6⟩;have hlk:dq s.c.aU a=B1 (s.c.aU.getD j ⟨0,0⟩).v:=by rw[JB,hj];rfl
   rw[hlk];simp only;have fd:Fr (On d) H' (H'.set d (.deferred B5)):=(Fr.refl H').set (W:=On d) (.inl rfl) _;have od:C d=0:=zz λ q=>(hW d (w6 d P q)).2.2 rfl;have c9:=c6.fr fd (λ z _ q(r:z=d)=>q (by rw[r];exact od)) (λ _ _=>rfl) (qm _);simp only[aa,bc];have fr9:Fr (λ z=>o4 z≠0) m (H'.set d (.deferred B5)):=(hf.mono λ z _ q=>q.elim (λ r=>r.1) NR).trans fd λ z(q:z=d)=>.inr (by omega);exact⟨hg,L.back ((A.co (t:=s.eW e (s.c.aU.getD j ⟨0,0⟩).v) rfl rfl ⟨C,x,u,c9,a6,fr9⟩ (qm _)).mono (by omega))⟩
 rw[qy q4];simp only;have⟨t1,t2⟩:=tail hr;simp only[aa,bc,KH,aw,<-e1,<-e2,l1,L.c.bm,ln,T,q4];refine C3.q t2 λ v J⟨U,m1,m2,m3,m4⟩=>?_;subst U;cases b:(s.kY a).2 with
 |true =>
  rw[xg rfl];simp only[aa,bc,aw,m1,m2];refine C3.q m4 λ _ H5 hp=>?_;simp only[aa,bc];exact hp.1
 |false =>
  rw[qy (by decide)];simp only[aa,bc,aw];exact m3.1
end
end Go.Am
namespace Go.Am
open Lang Go.Proofs
variable{M:ak}[MK M]
def D6:∀(b:List Pr)(x:Pr)(a:Int),iv (b ++ [x]) a=(iv b a).or (if x.a=a then B1 b.length else B5)
 |[],x,a=>by unfold iv;show(if x.a=a then B1 0 else(iv [] a).map _)=_;unfold iv;split<;>rfl
 |y::r,x,a=>by
  show(if y.a=a then B1 0 else(iv (r ++ [x]) a).map (·+1))=Option.or (if y.a=a then B1 0 else(iv r a).map (·+1)) _
  by_cases q:y.a=a
  .rw [xg q,xg q];rfl
  .rw [qy q,qy q,D6 r x a];cases iv r a with
   |some i=>rfl
   |none=>simp only[Option.none_or,Option.map_none];split<;>rfl
def CH:∀{b:List Pr}{i:Nat}{x:Pr}(v a:Int),b[i]? = B1 x->iv (b.set i ⟨x.a,v⟩) a=iv b a
 |y::r,0,x,v,a,h=>by cases h;rfl
 |y::r,i+1,x,v,a,h=>by
  show(if y.a=a then B1 0 else(iv (r.set i ⟨x.a,v⟩) a).map (·+1))=_;rw[CH v a (show r[i]? = B1 x from h)];rfl
def tt.app{g:List Pr}(h:tt g){a v:Int}(hn:iv g a=B5):tt (g ++ [⟨a,v⟩]):=λ i x b=>by
 rw[D6];rcases xz i g.length with q|q
 .rw [yz q]at b;rw[h i x b];rfl
 .rw [z6 q]at b;have e:i=g.length:=by
   have:=(qt.1 b).1;simp only[zt,jo]at this;omega
  subst e;rw[FY]at b;cases b;rw[hn,xg rfl];rfl
theorem tt.set{m:List Pr}(h:tt m){i:Nat}{x:Pr}(g:m[i]? = B1 x)(v:Int):tt (m.set i ⟨x.a,v⟩):=λ j y b=>by
 rw[CH v _ g]
 by_cases q:j=i
 .subst q;rw[zm (by exact(qt.1 g).1)]at b;cases b;exact h j x g
 .rw [zr (λ e=>q e.symm)]at b;exact h j y b
section
variable{H H1 H':ar}{o o1:Nat->Nat}{p f l sp k k':Nat}{cv rv ov pv:AV}{c d:Co}{os os':List fh}
def dP.yO(h:dP H o p f l sp cv rv ov pv c os k){i:Nat}{x:Pr}(A:c.aU[i]? = B1 x){v:Int}(B:fI v):∃H',Op.store 1 [.ptr (aG rv) (cJ 2 rv i+1),.int .u64 v] H=B1 (.undef,H')/\hC H o p f l sp cv pv {c with aU:=c.aU.set i ⟨x.a,v⟩} os k H':=by
 have⟨H1,s1,r,b⟩:=aO.zT ER h.rd A (j:=1) (by decide) (u:=.int .u64 v) rfl (y:=⟨x.a,v⟩) rfl;have⟨g,fv,hs⟩:=h.so;have m:∀z,o z≠5 -> ¬aM rv z:=λ z q w=>q (h.qF z w);refine⟨H1,s1,o,rv,ov,⟨h.row.fr b (m p (by rw[h.op];decide)),h.fi.fr b h.of (λ z q e=>m z (by omega)) λ _ _=>rfl,h.la.fr b (m l (by rw[h.ol];decide)),⟨g,fv,hs.fr b (λ z q e=>m z (by omega)) λ _ _=>rfl⟩,IU h.cd b λ e=>m _ (by rw[(h.mJ e).2];decide),r,Own.fr h.ou b λ z q=>m z (by rw[h.rB z q];decide),h.op,h.of,h.ol,h.qF,h.rB,λ e=>⟨qn (h.mJ e).1 b.au,(h.mJ e).2⟩,h.Gb,{h.w with ru:=λ y w=>(FN w).elim (h.w.ru y) λ w=>by rw[w];exact B,rl:=by show(c.aU.set i _).length<=k;rw[zg];exact h.w.rl,Lp:=h.w.Lp.set A v}⟩,λ _ _=>rfl,b.mono λ z _ q=>by rw[h.qF z q];decide⟩
def dP.Dx(h:dP H o p f l sp cv rv ov pv c os k)(hk:k<=100000){a:Int}(hn:iv c.aU a=B5){K:bE->(Nat->AV)->Bool->AV->ar->Prop}{m:Bool}
 (G:∀i j r,Op.store 1 [.ptr p 13,i] j=B1 (.undef,r)->(∃o',dP r o' p f l sp cv i ov pv {c with aU:=c.aU ++ [⟨a,0⟩]} os (k+1)/\(∀z,z<H.au->o' z=o z)/\Fr (λ z=>o z=5\/o z=1) H r)->K (.row (AV.cells (.agg (cN ⟨a,0⟩))) vz (0,0) B4) (Op.sliceTo 1 1) m i j) :
 jB m (Op.buildSlice vz 1 [.int .i64 0,.int .u64 0] [(0,2)] [.agg (cN ⟨a,0⟩)]) λ g o mk=>jB g (Op.append vz 2 16 [rv,mk H.au] (H.alloc o)) (K o mk):=by
 have rl:=h.w.rl;refine aO.pK (bytes:=16) h.rd (x:=.agg (cN ⟨a,0⟩)) (a:=⟨a,0⟩) rfl rfl rfl rfl (by decide) (by omega) (by omega) λ i j C v I=>?_;have one:aB i=true:=Sl.one (Own.sl C);have J:=λ z(q:aM rv z)=>Own.lt h.rd z q;have ho:∀z,z<H.au->aP o H.au 5 z=o z:=λ z q=>iT q;have B:∀z,o z≠5 -> ¬aM rv z:=λ z q w=>q (h.qF z w);have⟨g,fv,hs⟩:=h.so;have lr:=λ z(q:aM ov z)=>Own.lt h.ou z q;have D:At j p Gj _:=h.row.fr v (B p (by rw[h.op];decide));have st:=D.st 13 one (by simp[cO]);have E:(cO c f l sp cv rv ov pv).set 13 i=cO {c with aU:=c.aU ++ [⟨a,0⟩]} f l sp cv i ov pv:=rfl;rw[E]at st;obtain⟨r,u⟩:∃X,X=j.set p (OR (cO {c with aU:=c.aU ++ [⟨a,0⟩]} f l sp cv i ov pv) Gj):=⟨_,rfl⟩
 rw[<-u]at st;have A:Fr (On p) j r:=u▸cm ..;have b:Fr (λ z=>aM rv z\/z=p) H r:=(v.mono λ z _ q=>.inl q).trans A λ z q=>.inl (.inr q);have nw:∀z,o z≠5->o z≠1 -> ¬(aM rv z\/z=p):=λ z F e1 w=>w.elim (B z F) λ w=>e1 (by rw[w];exact h.op);have no:∀z,aM i z->aP o H.au 5 z=5:=λ z q=>(I z q).elim (λ w=>(ho z (J z w)).trans (h.qF z w)) λ w=>nh w;refine G i j r st ⟨aP o H.au 5,⟨u▸D.set _,h.fi.fr b h.of (λ z q e=>nw z (by omega) (by omega)) ho,h.la.fr b (nw l (by rw[h.ol];decide) (by rw[h.ol];decide)),⟨g,fv,hs.fr b (λ z q e=>nw z (by omega) (by omega)) ho⟩,IU h.cd b λ e=>nw _ (by rw[(h.mJ e).2];decide) (by rw[(h.mJ e).2];decide),Own.fr C A λ z q(w:z=p)=>?_,Own.fr h.ou b λ z q=>nw z (by rw[h.rB z q];decide) (by rw[h.rB z q];decide),
  (ho p h.row.2).trans h.op,(ho f (by obtain⟨pv,q,-⟩:=h.fi.at';exact q.2)).trans h.of,(ho l h.la.at'.2).trans h.ol,no,λ z q=>(ho z (lr z q)).trans (h.rB z q),λ e=>⟨qn (h.mJ e).1 b.au,(ho _ (h.mJ e).1).trans (h.mJ e).2⟩,h.Gb,{h.w with ru:=λ y w=>(jq.1 w).elim (h.w.ru y) λ w=>by rw[vi.1 w];exact bI,rl:=by show(c.aU ++ [_]).length<=k+1;rw[xe];simp only[zt,jo];omega,Lp:=h.w.Lp.app hn}⟩,ho,b.mono λ z _ q=>q.imp (h.qF z) λ q=>by rw[q];exact h.op⟩
 have:=no z q;rw[w,ho p h.row.2,h.op]at this;omega
end
section
variable{X:SX}{n n':Nat}{s t:CS}{H H':ar}{o:Nat->Nat}{rv ov:AV}{bs:Bs}{own:Nat->Nat}{V:Int->L8}
def dO.tag(h:dO X n s H o rv ov bs own V)(f:Fr Em H H')(t:Nat):dO X n s H' (aP o H.au t) rv ov bs own V:=by
 have ho:∀z,z<H.au->aP o H.au t z=o z:=λ z q=>iT q;have hn:=h.hn;have a:=h.fr.au;refine{h with c:=h.c.fr f (λ _ _ _ q=>q) ho (qm _),b:=h.b.em f,dj:=λ z q=>(ho z (h.b.low q)).trans (h.dj z q),hb:=λ z q e=>?_,go:=λ z q e=>?_,fr:=h.fr.em f}
 .rcases xz z H.au with w|w
  .rw [ho z w]at e;exact h.hb z w e
  .omega
 .rcases xz z H.au with w|w
  .rw [ho z w]at e;exact h.go z w e
  .exact .inr (by omega)
def xgz(h:dO X n s H o rv ov bs own V)(hk:X.k+n<=90000)(hl:s.o.length<=1000)(e:py)(hu:fI e.addr)(hv:fI e.value)(a:Int):zb M RO [.ptr X.p 0,.agg (bj e),.int .i64 a] H λ _ H'=>mh X (n+1) (s.kC e a) H':=by
 refine qvx ?_;have⟨H1,e1,f1,n1,P⟩:=cq H (OR (bj e) jm);have⟨o1,A,lo⟩:=h.loc f1;have R:=(lo H.au).1 ⟨qm _,by omega⟩;have hr:=A.re;have ln:=iY (M:=M) A.c.la;have l3:=y9 P 3;have l5:=EP P;have l3:Op.ae [.ptr H.au 3] H1=B1 (.int .u64 e.value):=l3;unfold CS.kC
 by_cases q3:s.c.la.lane=3
 .rw [xg q3];have q0:¬s.c.la.lane=0:=by omega
  simp only;simp only[aa,bc,vj,aw,<-e1,l3,A.c.bm,ln,q0,qv q3];have⟨g,fv,hs⟩:=A.c.so;refine C3.q (xgj hs a hv) λ _ F hp=>?_;have⟨o3,rv3,ov3,bs3,own3,V3,E⟩:=hr.co (t:=s.so (·.store a e.value)) rfl rfl (A.c.MV hp) (qm _);have⟨lo1',r1⟩:=E.lo R;have c3:dP F o3 X.p X.f X.l X.sp X.cv rv3 ov3 X.pv (s.so (·.store a e.value)).c s.o (X.k+n):=E.c;have⟨g3,fv3,hs3⟩:=c3.so;have m2:=EP (p9 r1 P);cases b:(s.so (·.store a e.value)).c.so.busy with
  |true =>
   rw[xg rfl];have⟨H4,s4,I⟩:=E.want e hu;have s4:Op.store 5 [.ptr X.p 7,.agg (bj e)] F=B1 (.undef,H4):=s4;have⟨H5,s5,h5⟩:=I.put 6 (v:=.int .i64 6) {(s.so (·.store a e.value)).c with want:=e,ph:=6} rfl (by decide) rfl ⟨rfl,rfl,rfl,rfl⟩ ⟨rfl,rfl⟩ {I.c.w with};have s5:Op.store 1 [.ptr X.p 6,.int .i64 6] H4=B1 (.undef,H5):=s5;simp only[aa,bc,vj,aw,c3.bm,ig hs3,b,m2,s4,s5];exact A.back (h5.eD (by omega))
  |false =>
   rw[qy (by decide)];simp only[aa,bc,vj,aw,c3.bm,ig hs3,b,m2];refine C3.q (Rb (s:=s.so (·.store a e.value)) c3 hl 3 e a) λ _ H4 hp=>?_;simp only[aa,bc];exact A.back ((E.co (t:=(s.so (·.store a e.value)).stored 3 e a) rfl rfl hp (qm _)).mono (by omega))
 rw[qy q3]
 by_cases q4:s.c.la.lane=4
 .rw [xg q4];have q0:¬s.c.la.lane=0:=by omega
  have lr:=(aO.sl A.c.rd).len;have rl0:=A.c.w.rl;obtain⟨U,e2⟩:∃Z,Z=(H1.alloc (OR [.int .i64 0] cF)).set H1.au (OR [.int .i64 ((s.c.aU.length:Nat):Int)] cF):=⟨_,rfl⟩
  have s2:Op.store 1 [.ptr H1.au 0,.int .i64 ((s.c.aU.length:Nat):Int)] (H1.alloc (OR [.int .i64 0] cF))=B1 (.undef,U):=by rw[e2];exact(At.new H1 _ _).st 0 rfl (by simp)
  have f2:Fr Em H1 U:=e2▸((Fr.refl H1).alloc _).set (.inr (qm _)) _;have n2:U.au=H.au+2:=by rw[e2,tj,xy,n1]
  have g2:U.get H1.au=B1 (OR [.int .i64 ((s.c.aU.length:Nat):Int)] cF):=by rw[e2,xb]
  have h2:=hr.tag f2 4;have t2:aP o1 H1.au 4 H1.au=4:=nh (qm _);simp only[aa,bc,vj,aw,<-e1,A.c.bm,ln,q0,q3,qv q4,lr,s2];refine C3.q (nz X.p a) λ v m⟨hv',hh⟩=>?_;obtain⟨F,e3,f23,-,-⟩:=cq U (OR [.ptr X.p 0] AX);obtain⟨H4,e4⟩:∃Z,Z=F.alloc (OR [.int .i64 a] cF):=⟨_,rfl⟩
  rw[<-e3]at hv' hh;rw[<-e4]at hh;subst hv';subst hh;have f34:Fr Em F m:=e4▸(Fr.refl F).alloc _;have n3:F.au=H.au+3:=by rw[e3,xy,n2]
  have n4:m.au=H.au+4:=by rw[e4,xy,n3]
  have g3:m.get U.au=B1 (OR [.ptr X.p 0] AX):=by rw[f34.ah _ (by omega) id,e3,xp]
  have g4:m.get F.au=B1 (OR [.int .i64 a] cF):=by rw[e4,xp]
  have g2':m.get H1.au=B1 (OR [.int .i64 ((s.c.aU.length:Nat):Int)] cF):=by rw[f34.ah _ (by omega) id,f23.ah _ (by omega) id];exact g2
  have I:=h2.tag (f23.em f34) 0;obtain⟨S,Q⟩:∃S,S=aP (aP o1 H1.au 4) U.au 0:=⟨_,rfl⟩
  rw[<-Q]at I;have t4:S H1.au=4:=by rw[Q,iT (by omega)];exact t2
  have k3:S U.au=0:=by rw[Q];exact nh (qm _)
  have k4:S F.au=0:=by rw[Q];exact nh (by omega)
  have c4:dP m S X.p X.f X.l X.sp X.cv rv ov X.pv s.c s.o (X.k+n):=I.c;have kL:∀i,iv s.c.aU a=B1 i->(iG s.c.aU a)=[[.int .i64 (i:Int),.int .u64 (s.c.aU.getD i ⟨0,0⟩).v]]:=λ i q=>by unfold iG;rw[q]
  obtain⟨vl,hvl⟩:∃vl:Nat->Nat,vl=λ i=>if i=0 then s.c.aU.length else(iv s.c.aU a).getD 0:=⟨_,rfl⟩
  have vl0:vl 0=s.c.aU.length:=by rw[hvl];rfl
  simp only[aa,bc];refine iE.sZ (fn:=R6) (lp:=OH) (pa:=Zq 0) (pb:=Ym 0) qt7 qka.1 qka.2 (by decide) qsn qso
   (sq (rv:=rv) g3 g4 (by omega) (by omega) c4.w.Lp (by omega)) (λ i W Hx=>Kv m S X.p X.f X.l X.sp X.cv rv X.pv s.c s.o (X.k+n) W Hx/\W H1.au/\Hx.get H1.au=B1 (OR [.int .i64 ((vl i:Nat):Int)] cF))
   (λ ex W Hx=>False)
   (λ z=>S z≠0/\z<m.au) (qm _) ?_ ?_ ?_ ?_ ?_ ?_ ?_ ?_ ?_
  .rintro z ((q|q)|q)
   .exact ⟨by omega,rfl,λ w=>w.1 (by rw[q];exact k3)⟩
   .exact ⟨by omega,rfl,λ w=>w.1 (by rw[q];exact k4)⟩
   .exact q.elim
  .exact λ z hz=>hz.2
  .exact ⟨⟨S,ov,c4,λ _ _=>rfl,λ z w q=>⟨q,w⟩,qm _⟩,⟨by rw[t4];decide,by omega⟩,by rw[vl0];exact g2'⟩
  .exact λ i W Ha Hb⟨q1,q2,q3⟩hs hn=>⟨q1.loc hs hn,q2,by rw[hs _ q2];exact q3⟩
  .exact λ i W Ha Hb q hs hn=>q
  .exact λ i W Hx⟨⟨L,T,q2,_⟩,_⟩=>⟨q2.row.ld 13,aO.sl q2.rd⟩
  .intro C i lr lb y hy hL2 W N ⟨⟨L,T,Y,a6,w6,le6⟩,wt,gt⟩ hb hf6 hnL hL6 hgL;obtain⟨j,K⟩:∃j,iv s.c.aU a=B1 j:=by
    cases q:iv s.c.aU a with
    |some j=>exact⟨j,rfl⟩
    |none=>unfold iG at hy;rw[q]at hy;cases hy
   have hv1:vl (i+1)=j:=by rw[hvl];simp only;rw[qy (by omega),K];rfl
   rw[kL j K]at hy;have hi:i=0:=by
    have:=(qt.1 hy).1;simp only[zt,jo]at this;omega
   subst hi;cases hy;refine⟨_,rfl,?_⟩;have w:=vj M ⟨B1 C,RO⟩;simp only[aa,bc,w,A9];refine⟨hgL,?_⟩;have fx:Fr (On C) N (N.set C lb):=(Fr.refl N).set (W:=On C) (.inl rfl) _;have gL:(N.set C lb).get C=B1 lb:=xb ..;have nL:(N.set C lb).au=N.au:=rfl;have oL:L C=0:=zz λ q=>hnL (w6 C hL6 q);have ot:L H1.au=4:=(a6 _ (by omega)).trans t4;have nt:H1.au≠C:=by omega
   have c7:dP (N.set C lb) L X.p X.f X.l X.sp X.cv rv T X.pv s.c s.o (X.k+n):=Y.fr fx (λ z _ q(r:z=C)=>q (by rw[r];exact oL)) (λ _ _=>rfl) (qm _);have a7:At (N.set C lb) H1.au cF [.int .i64 ((vl 0:Nat):Int)]:=⟨by rw[kr nt.symm];exact gt,by rw[nL];omega⟩
   generalize N.set C lb=H7 at *;have s7:=a7.st 0 (v:=.int .i64 (j:Int)) rfl (by simp);have a8:=a7.set [.int .i64 (j:Int)];have f8:Fr (On H1.au) H7 (H7.set H1.au (OR [.int .i64 (j:Int)] cF)):=cm ..;simp only[aa,bc,s7,List.set];refine⟨rfl,by rw[f8.ah C (by omega) λ q:C=H1.au=>nt q.symm];exact gL,W,λ z q=>⟨by have:=(hb z q).1;rw[tj,nL];exact this,.inl q⟩,?_,.inl ⟨rfl,⟨L,T,c7.fr4 f8 (λ z _ q r(u:z=H1.au)=>r (by rw[u];exact ot)) (λ _ _=>rfl) (qm _),a6,λ z q1 q2=>w6 z (by rw[tj,nL]at q1;exact q1) q2,by rw[tj,nL];exact le6⟩,wt,by rw[hv1];exact a8.1⟩⟩;exact(fx.mono λ z _ q=>.inr q).trans f8 λ z(q:z=H1.au)=>.inl (.inl (by rw[q];exact wt))
  .rintro d W H' hd hd2 hg hf hW ⟨⟨L,T,Y,a6,w6,le6⟩,wt,gt⟩;have od:L d=0:=zz λ q=>(hW d (w6 d hd2 q)).2.2 rfl;have h9:=I.Im (t:=s) rfl rfl Y a6 (hf.mono λ z _ q=>q.elim (λ r=>r.1) NR) (qm _);have h9r:=h9.re;have ld:EW H' L X.B bs d:=⟨hd2,od,λ w=>by have:=I.b.low w;omega⟩
   have lb:EW H' L X.B bs H.au/\H'.get H.au=H1.get H.au:=h9.lo R;have xd:X.H.au<=d:=by have:=h.fr.au;omega
   have bd:X.Hb.au<=d:=by have:=h.hn;omega
   have fin:∀{t:CS}{Z:ar}{oz:Nat->Nat}{rvz ovz:AV}{bsz:Bs}{ownz:Nat->Nat}{Vz:Int->L8},dO ((X.at H1 o1 bs).at H' L bs) (n+1) t Z oz rvz ovz bsz ownz Vz->Z.get d=B1 (.deferred (B1 []))/\mh X (n+1) t (Z.set d (.deferred B5)):=λ hz =>
    ⟨(hz.lo ld).2.trans hg,((A.tc (h9.tc hz)).pX (hz.lo ld).1 xd bd _).here⟩
   have lt:=y9 gt 0;have l3':=y9 (p9 lb.2 P) 3;have l3':Op.ae [.ptr H.au 3] H'=B1 (.int .u64 e.value):=l3';have e12:(X.k+n)+1=X.k+(n+1):=by omega
   cases K:iv s.c.aU a with
   |none =>
    have hL:(iG s.c.aU a).length=0:=by unfold iG;rw[K];rfl
    have lt:Op.ae [.ptr H1.au 0] H'=B1 (.int .i64 ((s.c.aU.length:Nat):Int)):=by rw[lt,hL,vl0];rfl
    have bp:Op.build [.int .i64 0,.int .u64 0] [(0,1)] [.int .i64 a]=B1 (.agg (cN ⟨a,0⟩)):=rfl;simp only[aa,bc,vj,aw,lt,Y.bm,lr,bp];refine Y.Dx (by omega) K λ v' H10 H11 st'⟨o11,c11,a11,O⟩=>?_;have lt11:Op.ae [.ptr H1.au 0] H11=B1 (.int .i64 ((s.c.aU.length:Nat):Int)):=by
     rw[<-lt];exact(y9 (p9 (O.ah _ (by omega) λ q=>by rw[(a6 _ (by omega)).trans t4]at q;omega) gt) 0).trans (y9 gt 0).symm
    have l311:Op.ae [.ptr H.au 3] H11=B1 (.int .u64 e.value):=y9 (p9 (O.ah _ lb.1.1 λ q=>by rw[lb.1.2.1]at q;omega) (p9 lb.2 P)) 3;have hx:(s.c.aU ++ [(⟨a,0⟩:Pr)])[s.c.aU.length]? = B1 ⟨a,0⟩:=by rw[z6 (qm _),FY];rfl
    have ix:=(aO.sl c11.rd).idx hx (z:=((s.c.aU.length:Nat):Int)) rfl .i64;have⟨H12,s12,o12,rv12,ov12,G,a12,f12⟩:=c11.yO hx hv;have er:(s.c.aU ++ [(⟨a,0⟩:Pr)]).set s.c.aU.length ⟨a,e.value⟩=fQ s.c.aU a e.value:=by rw[TP K,NX _ _ (qm _),FY];rfl
    rw[er]at G;have D:=h9r.Im (n':=n+1) (t:={s with c:={s.c with aU:=fQ s.c.aU a e.value}}) rfl rfl (G.fr (Fr.refl _) (λ _ _ _ w=>w) (λ _ _=>rfl) (show X.k+n+1<=X.k+(n+1)by omega)) (λ z q=>(a12 z (qn q O.au)).trans (a11 z q)) ((O.mono λ z _ q=>by omega).trans f12 λ z q=>by
     rcases xz z H'.au with w|w
     .exact .inl (by rw[<-a11 z w];exact q)
     .exact .inr w) (by omega)
    have J:=EP (p9 (D.lo lb.1).2 (p9 lb.2 P));simp only[aa,bc,vj,aw,st',c11.bm,lt11,l311,ix,s12,J];refine C3.q (Rb (s:={s with c:={s.c with aU:=fQ s.c.aU a e.value}}) D.c hl 3 e a) λ _ H13⟨o13,rv13,ov13,c13,a13,f13⟩=>?_;simp only[aa,bc];exact fin (D.Im (t:=({s with c:={s.c with aU:=fQ s.c.aU a e.value}}:CS).stored 3 e a) rfl rfl c13 a13 f13 (qm _))
   |some j =>
    have hL:(iG s.c.aU a).length=1:=by rw[kL j K];rfl
    have hv1:vl 1=j:=by rw[hvl];simp only;rw[qy (by omega),K];rfl
    have lt:Op.ae [.ptr H1.au 0] H'=B1 (.int .i64 (j:Int)):=by rw[lt,hL,hv1];rfl
    have⟨jl,x,hx,xa⟩:=pH K;have jn:¬(j:Int)=((s.c.aU.length:Nat):Int):=by omega
    have ix:=(aO.sl Y.rd).idx hx (z:=(j:Int)) rfl .i64;have⟨H12,s12,o12,rv12,ov12,G,a12,f12⟩:=Y.yO hx hv;have er:s.c.aU.set j ⟨x.a,e.value⟩=fQ s.c.aU a e.value:=by rw[Uy K,xa]
    rw[er]at G;have D:=h9r.Im (n':=n) (t:={s with c:={s.c with aU:=fQ s.c.aU a e.value}}) rfl rfl G a12 f12 (qm _);have J:=EP (p9 (D.lo lb.1).2 (p9 lb.2 P));simp only[aa,bc,vj,aw,lt,Y.bm,lr,jn,l3',ix,s12,J];refine C3.q (Rb (s:={s with c:={s.c with aU:=fQ s.c.aU a e.value}}) D.c hl 3 e a) λ _ H13⟨o13,rv13,ov13,c13,a13,f13⟩=>?_;simp only[aa,bc];exact fin (D.Im (n':=n+1) (t:=({s with c:={s.c with aU:=fQ s.c.aU a e.value}}:CS).stored 3 e a) rfl rfl (c13.fr (Fr.refl _) (λ _ _ _ w=>w) (λ _ _=>rfl) (show X.k+n<=X.k+(n+1)by omega)) a13 f13 (by omega))
  .exact λ e d W H' he hd hd2 hg hf hW q=>q.elim
 rw[qy q4];have st:=Rc (M:=M) hr hk a hv
 by_cases q0:s.c.la.lane=0
 .rw [xg q0];simp only[aa,bc,vj,aw,<-e1,l3,A.c.bm,ln,qv q0];refine C3.q st λ w F⟨hw,o3,rv3,ov3,bs3,own3,V3,E⟩=>?_;subst hw;cases b:s.vL a e.value with
  |true =>
   rw[xg rfl];have m2:=EP (p9 (E.lo R).2 P);simp only[aa,bc,m2];refine C3.q (Rb (s:=s.st a e.value) E.c hl 8 e a) λ _ H4 hp=>?_;simp only[aa,bc];exact A.back (E.co (t:=(s.st a e.value).stored 8 e a) rfl rfl hp (qm _))
  |false =>
   rw[qy (by decide)];simp only[aa,bc];exact A.back E.here
 .simp only[aa,bc,vj,aw,<-e1,l3,A.c.bm,ln,q0,q3,q4];refine C3.q st λ w F⟨hw,o3,rv3,ov3,bs3,own3,V3,E⟩=>?_;subst hw;cases b:s.vL a e.value with
  |true =>
   rw[xg rfl];have⟨H4,s4,I⟩:=E.put 15 (v:=.bool B4) {s.c with wrote:=B4} rfl (by decide) rfl ⟨rfl,rfl,rfl,rfl⟩ ⟨rfl,rfl⟩ {E.c.w with};have s4:Op.store 1 [.ptr X.p 15,.bool B4] F=B1 (.undef,H4):=s4;have m2:=EP (p9 (I.lo R).2 P);simp only[aa,bc,aw,s4,m2];refine C3.q (Rb (s:={s.st a e.value with c:={s.c with wrote:=B4}}) I.c hl 3 e a) λ _ H5 hp=>?_;simp only[aa,bc];exact A.back (I.co (t:=({s.st a e.value with c:={s.c with wrote:=B4}}:CS).stored 3 e a) rfl rfl hp (qm _))
  |false =>
   rw[qy (by decide)];simp only[aa,bc];exact A.back E.here
end
end Go.Am
namespace Go.Am
open Lang Go.Proofs
variable{M:ak}[MK M]
section
variable{X:SX}{n n':Nat}{s t:CS}{H H':ar}{o:Nat->Nat}{rv ov:AV}{bs:Bs}{own:Nat->Nat}{V:Int->L8}
def Hv(h:dO X n s H o rv ov bs own V)(hk:X.k+n<=90000)(hl:s.o.length<=1000):zb M qm2 [.ptr X.p 0] H λ _ H'=>mh X (n+1) s.aS H':=by
 refine qxi ?_;have lr:=(aO.sl h.c.rd).len;have d0:=h.c.w.d0;have rl:=h.c.w.rl;unfold CS.aS;rw[xg d0]
 by_cases q:s.c.done<((s.c.aU.length:Nat):Int)
 .obtain ⟨x,e⟩:∃x,s.c.aU[s.c.done.toNat]? = B1 x:=⟨_,xf (by omega)⟩
  rw[e];have ix:=(aO.sl h.c.rd).idx e (z:=s.c.done) (MP d0).symm .i64;have ld:Op.aq 2 [Nm rv s.c.done.toNat] H=B1 (.agg (cN x)):=(aO.sl h.c.rd).aq ER (by decide) e;have bx:=Uw (H1:=H) x;obtain⟨H1,e1⟩:∃Z,Z=(H.alloc (OR [.int .i64 0,.int .u64 0] vz)).set H.au (OR (cN x) vz):=⟨_,rfl⟩
  rw[<-e1]at bx;have A:Fr Em H H1:=by rw[e1];exact zK _ _
  have r:H1.get H.au=B1 (OR (cN x) vz):=by rw[e1,xb]
  have l0:Op.ae [.ptr H.au 0] H1=B1 (.int .i64 x.a):=y9 r 0;have l1:Op.ae [.ptr H.au 1] H1=B1 (.int .u64 x.v):=y9 r 1;obtain⟨o1,B,-⟩:=h.loc A;simp only[aa,bc,Tf,aw,h.c.bm,lr,qv q,ix,show∀i,Op.aq 2 [AV.ptr (aG rv) (cJ 2 rv i)] H=Op.aq 2 [Nm rv i] H from λ _=>rfl,ld,bx,l0,l1];refine C3.q (Rc B hk x.a (h.c.w.ru x (ze e))) λ w m⟨hw,o2,l,j,g,f,y,d⟩=>?_;subst hw;cases b:s.vL x.a x.v with
  |true =>
   rw[xg rfl];have wd:aj .i64 (s.c.done+1)=s.c.done+1:=jb (by omega) (by omega);have⟨u,D,C⟩:=d.put 14 (v:=.int .i64 (aj .i64 (s.c.done+1))) {s.c with done:=aj .i64 (s.c.done+1)} rfl (by decide) rfl ⟨rfl,rfl,rfl,rfl⟩ ⟨rfl,rfl⟩ {d.c.w with d0:=by show 0<=aj .i64 (s.c.done+1);rw[wd];omega};have vR:Op.ae [.ptr X.p 14] m=B1 (.int .i64 s.c.done):=d.c.row.ld 14;simp only[aa,bc,Tf,aw,vR,D];exact C.here
  |false =>
   rw[qy (by decide)];simp only[aa,bc,Tf];exact d.here
 .have e:s.c.aU[s.c.done.toNat]? = none:=jp (by omega);rw[e];unfold CS.iq;simp only;simp only[aa,bc,Tf,aw,h.c.bm,lr,q];refine C3.q (Rc h hk 0 (FT _)) λ w m⟨hw,o2,l,j,g,f,y,d⟩=>?_;subst hw;cases b:s.vL 0 (aj .u64 (s.c.seq+2))with
  |true =>
   rw[xg rfl];simp only[aa,bc];refine C3.q (ON (s:=s.st 0 (aj .u64 (s.c.seq+2))) d.c hl) λ _ u hp=>?_;simp only[aa,bc];exact d.co (t:=(s.st 0 (aj .u64 (s.c.seq+2))).cX) (Q0 _) (PD _) hp (qm _)
  |false =>
   rw[qy (by decide)];simp only[aa,bc];exact d.here
def CS.nD(s:CS)(v:Int)(taken:Bool):CS :=
 let t:CS:={s with c:={s.c with so:=s.c.so.fK v taken}}
 let u:=if s.c.so.aJ=B4/\t.c.so.aJ=B2 then t.aD else t
 let w:=if s.c.so.points<u.c.so.points then u.tell 4 0 0 0 else u
 if w.c.so.busy=B4 then w else w.fJ
def YH(s:CS)(v:Int)(tk:Bool):s.given v tk=CS.nD {s with c:={s.c with held:=s.c.held ||tk && decide (s.c.so.want.a=0)}} v tk:=rfl
def Nl(h:dO X n s H o rv ov bs own V)(hl:s.o.length<=1000):zb M p_ [.ptr X.p 0] H λ _ H'=>mh X n s.fJ H':=by
 refine qvr ?_;unfold CS.fJ;have⟨g,fv,hs⟩:=h.c.so
 by_cases a:s.c.so.ended=2
 .rw [xg a];simp only[aa,bc,RP,aw,h.c.bm,rF hs,qv a];refine C3.q (xlh h.c hl 8) λ _ H1 hp=>?_;simp only[aa,bc];exact h.co (t:=s.abort 8) rfl rfl hp (qm _)
 rw[qy a]
 by_cases d:s.c.want.kind=5
 .rw [xg d];have⟨j,k,b⟩:=h.put 6 (v:=.int .i64 0) {s.c with ph:=0} rfl (by decide) rfl ⟨rfl,rfl,rfl,rfl⟩ ⟨rfl,rfl⟩ {h.c.w with};simp only[aa,bc,RP,aw,h.c.bm,rF hs,a,qv d,k];exact b.here
 rw[qy d]
 by_cases f:s.c.want.kind=3
 .rw [xg f];have⟨j,k,b⟩:=h.put 6 (v:=.int .i64 0) {s.c with ph:=0} rfl (by decide) rfl ⟨rfl,rfl,rfl,rfl⟩ ⟨rfl,rfl⟩ {h.c.w with};have⟨r,l,e⟩:=b.c.so;simp only[aa,bc,RP,aw,h.c.bm,rF hs,a,d,qv f,k,b.c.bm,BO e];refine C3.q (Se (s:=s.ph 0) b.c hl s.c.want h.c.w.wu e.vu) λ _ m hp=>?_;simp only[aa,bc];exact b.co (t:=(s.ph 0).eW s.c.want s.c.so.value) rfl rfl hp (qm _)
 rw[qy f]
 by_cases i:s.c.want.kind=6
 .rw [xg i];simp only[aa,bc,RP,aw,h.c.bm,rF hs,a,d,f,qv i];refine C3.q (ON h.c hl) λ _ j hp=>?_;simp only[aa,bc];exact h.co (t:=s.cX) (Q0 _) (PD _) hp (qm _)
 rw[qy i];simp only[aa,bc,RP,aw,h.c.bm,rF hs,a,d,f,i];refine C3.q (YK h.c hl) λ _ j hp=>?_;simp only[aa,bc];exact h.co (t:=s.breaks) rfl rfl hp (qm _)
def II(h:dO X n s H o rv ov bs own V)(hk:X.k+n<=90000)(hl:s.o.length<=990):zb M Nq [.ptr X.p 0] H λ _ H'=>mh X (n+1) s.rI H':=by
 refine qxj ?_;unfold CS.rI;simp only;have⟨g,fv,hs⟩:=h.c.so;simp only[aa,bc,zj,aw,h.c.bm];refine C3.q (Pl hs) λ w H1⟨⟨qb,hw⟩,f1⟩=>?_;subst hw;obtain⟨B,e2⟩:∃Z,Z=(H1.alloc (OR (iS ⟨0,0,0,0⟩) EK)).set H1.au (OR (iS s.c.so.want) EK):=⟨_,rfl⟩
 have s2:Op.store 4 [.ptr H1.au 0,.agg (iS s.c.so.want)] (H1.alloc (OR (iS ⟨0,0,0,0⟩) EK))=B1 (.undef,B):=by
  have:=(At.new H1 (iS ⟨0,0,0,0⟩) EK).fH (k:=0) (n:=4) (v:=.agg (iS s.c.so.want)) rfl (by simp[iS]) rfl;rw[e2];exact this
 have f2:Fr Em H1 B:=e2▸((Fr.refl H1).alloc _).set (.inr (qm _)) _;have n1:=f1.au;have n2:B.au=H1.au+1:=by rw[e2,tj,xy]
 have g2:B.get H1.au=B1 (OR (iS s.c.so.want) EK):=by rw[e2,xb]
 have k0:Op.ae [.ptr H1.au 0] B=B1 (.int .i64 s.c.so.want.op):=y9 g2 0;have k1:Op.ae [.ptr H1.au 1] B=B1 (.int .i64 s.c.so.want.a):=y9 g2 1;have k2:Op.ae [.ptr H1.au 2] B=B1 (.int .u64 s.c.so.want.v):=y9 g2 2;have k3:Op.ae [.ptr H1.au 3] B=B1 (.int .u64 s.c.so.want.o):=y9 g2 3;have⟨o2,u,lo⟩:=h.loc (f1.em f2);have lo1:=(lo H1.au).1 ⟨n1,by omega⟩;have hr:=u.re;have rest2:∀{H4:ar}{o4:Nat->Nat}{rv4 ov4:AV}{bs4:Bs}{own4:Nat->Nat}{V4:Int->L8}{d:CS}{v:Int}{tk:Bool},fI v->dO (X.at B o2 bs) (n+1) d H4 o4 rv4 ov4 bs4 own4 V4->d.o.length<=990 -> ∀{E:Env}{Q:aF},lk E 0=B1 (.ptr X.p 0)->lk E 4=B1 (.int .u64 v)->lk E 5=B1 (.bool tk)->lk E 7=B1 (.int .i64 d.c.so.points)->lk E 8=B1 (.bool d.c.so.aJ)->(∀ex E D H',(ex=.normal\/ex=.ret)->D=[]->mh X (n+1) (d.nD v tk) H'->Q ex E D H')->W M ⟨B5,Nq⟩ (Hl Nq 36) B4 Q E [] H4:=λ{H4 o4 rv4 ov4 bs4 own4 V4 d v tk}hu h4 hl{E Q}j E4 Y E7 E8 x=>by
  have⟨g4,fv4,r⟩:=h4.c.so;have c4:dP H4 o4 X.p X.f X.l X.sp X.cv rv4 ov4 X.pv d.c d.o (X.k+(n+1)):=h4.c;simp only[aa,bc,zj,aw,j,E4,Y,c4.bm];refine C3.q (PA r hu) λ _ H5 hp=>?_;have⟨o5,rv5,ov5,bs5,own5,V5,h5⟩:=h4.co (t:={d with c:={d.c with so:=d.c.so.fK v tk}}) rfl rfl (h4.c.MV hp) (qm _);obtain⟨e,F⟩:∃e:CS,e = {d with c:={d.c with so:=d.c.so.fK v tk}}:=⟨_,rfl⟩
  rw[<-F]at h5;have hl5:e.o.length<=990:=by rw[F];exact hl
  have c5:dP H5 o5 X.p X.f X.l X.sp X.cv rv5 ov5 X.pv e.c e.o (X.k+(n+1)):=h5.c;have⟨g5,fv5,i⟩:=c5.so;have ew:e.c.so.aJ=(d.c.so.fK v tk).aJ:=by rw[F]
  cases C:d.c.so.aJ with
  |true =>
   cases K:e.c.so.aJ with
   |true =>
    by_cases q:d.c.so.points<e.c.so.points
    .simp only[aa,bc,zj,aw,j,E7,E8,C,JM i,K,c5.bm,eU i,qv q];refine C3.q (FA (s:=e) c5 (by omega) 4 0 0 0) λ _ H7 hp=>?_;have⟨o7,U,T,bs7,own7,V7,P⟩:=h5.co (t:=(e).tell 4 0 0 0) rfl rfl hp (qm _);have N:dP H7 o7 X.p X.f X.l X.sp X.cv U T X.pv ((e).tell 4 0 0 0).c ((e).tell 4 0 0 0).o (X.k+(n+1)):=P.c;have⟨g7,fv7,z⟩:=N.so;cases b:((e).tell 4 0 0 0).c.so.busy with
     |true =>
      have m:d.nD v tk=((e).tell 4 0 0 0):=by unfold CS.nD;simp only;rw[<-F,qy (show¬(d.c.so.aJ=B4/\(d.c.so.fK v tk).aJ=B2)from λ w=>by have:=ew.trans w.2;rw[K]at this;cases this),xg q,xg b]
      simp only[aa,bc,zj,aw,j,N.bm,ig z,b];exact x _ _ _ _ (.inl rfl) rfl (by rw[m];exact u.back P.here)
     |false =>
      have m:d.nD v tk=(((e).tell 4 0 0 0)).fJ:=by unfold CS.nD;simp only;rw[<-F,qy (show¬(d.c.so.aJ=B4/\(d.c.so.fK v tk).aJ=B2)from λ w=>by have:=ew.trans w.2;rw[K]at this;cases this),xg q,qy (by rw[b];decide)]
      simp only[aa,bc,zj,aw,j,N.bm,ig z,b];refine C3.q (Nl (X:=X.at B o2 bs) P (by show(e.o ++ [_]).length<=1000;rw[xe];simp only[zt,jo];omega)) λ _ H9 hp=>?_;simp only[aa,bc];exact x _ _ _ _ (.inl rfl) rfl (by rw[m];exact u.back hp)
    .cases b:e.c.so.busy with
     |true =>
      have m:d.nD v tk=e:=by unfold CS.nD;simp only;rw[<-F,qy (show¬(d.c.so.aJ=B4/\(d.c.so.fK v tk).aJ=B2)from λ w=>by have:=ew.trans w.2;rw[K]at this;cases this),qy q,xg b]
      simp only[aa,bc,zj,aw,j,E7,E8,C,JM i,K,eU i,q,c5.bm,ig i,b];exact x _ _ _ _ (.inl rfl) rfl (by rw[m];exact u.back h5.here)
     |false =>
      have m:d.nD v tk=(e).fJ:=by unfold CS.nD;simp only;rw[<-F,qy (show¬(d.c.so.aJ=B4/\(d.c.so.fK v tk).aJ=B2)from λ w=>by have:=ew.trans w.2;rw[K]at this;cases this),qy q,qy (by rw[b];decide)]
      simp only[aa,bc,zj,aw,j,E7,E8,C,JM i,K,eU i,q,c5.bm,ig i,b];refine C3.q (Nl (X:=X.at B o2 bs) h5 (by omega)) λ _ H9 hp=>?_;simp only[aa,bc];exact x _ _ _ _ (.inl rfl) rfl (by rw[m];exact u.back hp)
   |false =>
    simp only[aa,bc,zj,aw,j,E8,C,c5.bm,JM i,K];refine C3.q (o_ (s:=e) c5 (by omega)) λ _ H6 hp=>?_;have⟨o6,rv6,ov6,bs6,own6,V6,h6⟩:=h5.co (t:=e.aD) (i' _) (qzn _) hp (qm _);have hl6:=xe4 e;have c6:dP H6 o6 X.p X.f X.l X.sp X.cv rv6 ov6 X.pv e.aD.c e.aD.o (X.k+(n+1)):=h6.c;have⟨g6,fv6,S⟩:=c6.so
    by_cases q:d.c.so.points<e.aD.c.so.points
    .simp only[aa,bc,zj,aw,j,E7,c6.bm,eU S,qv q];refine C3.q (FA (s:=e.aD) c6 (by omega) 4 0 0 0) λ _ H7 hp=>?_;have⟨o7,U,T,bs7,own7,V7,P⟩:=h6.co (t:=(e.aD).tell 4 0 0 0) rfl rfl hp (qm _);have N:dP H7 o7 X.p X.f X.l X.sp X.cv U T X.pv ((e.aD).tell 4 0 0 0).c ((e.aD).tell 4 0 0 0).o (X.k+(n+1)):=P.c;have⟨g7,fv7,z⟩:=N.so;cases b:((e.aD).tell 4 0 0 0).c.so.busy with
     |true =>
      have m:d.nD v tk=((e.aD).tell 4 0 0 0):=by unfold CS.nD;simp only;rw[<-F,xg (show d.c.so.aJ=B4/\(d.c.so.fK v tk).aJ=B2 from⟨C,ew.symm.trans K⟩),xg q,xg b]
      simp only[aa,bc,zj,aw,j,N.bm,ig z,b];exact x _ _ _ _ (.inl rfl) rfl (by rw[m];exact u.back P.here)
     |false =>
      have m:d.nD v tk=(((e.aD).tell 4 0 0 0)).fJ:=by unfold CS.nD;simp only;rw[<-F,xg (show d.c.so.aJ=B4/\(d.c.so.fK v tk).aJ=B2 from⟨C,ew.symm.trans K⟩),xg q,qy (by rw[b];decide)]
      simp only[aa,bc,zj,aw,j,N.bm,ig z,b];refine C3.q (Nl (X:=X.at B o2 bs) P (by show(e.aD.o ++ [_]).length<=1000;rw[xe];simp only[zt,jo];omega)) λ _ H9 hp=>?_;simp only[aa,bc];exact x _ _ _ _ (.inl rfl) rfl (by rw[m];exact u.back hp)
    .cases b:e.aD.c.so.busy with
     |true =>
      have m:d.nD v tk=e.aD:=by unfold CS.nD;simp only;rw[<-F,xg (show d.c.so.aJ=B4/\(d.c.so.fK v tk).aJ=B2 from⟨C,ew.symm.trans K⟩),qy q,xg b]
      simp only[aa,bc,zj,aw,j,E7,eU S,q,c6.bm,ig S,b];exact x _ _ _ _ (.inl rfl) rfl (by rw[m];exact u.back h6.here)
     |false =>
      have m:d.nD v tk=(e.aD).fJ:=by unfold CS.nD;simp only;rw[<-F,xg (show d.c.so.aJ=B4/\(d.c.so.fK v tk).aJ=B2 from⟨C,ew.symm.trans K⟩),qy q,qy (by rw[b];decide)]
      simp only[aa,bc,zj,aw,j,E7,eU S,q,c6.bm,ig S,b];refine C3.q (Nl (X:=X.at B o2 bs) h6 (by omega)) λ _ H9 hp=>?_;simp only[aa,bc];exact x _ _ _ _ (.inl rfl) rfl (by rw[m];exact u.back hp)
  |false =>
   by_cases q:d.c.so.points<e.c.so.points
   .simp only[aa,bc,zj,aw,j,E7,E8,C,c5.bm,eU i,qv q];refine C3.q (FA (s:=e) c5 (by omega) 4 0 0 0) λ _ H7 hp=>?_;have⟨o7,U,T,bs7,own7,V7,P⟩:=h5.co (t:=(e).tell 4 0 0 0) rfl rfl hp (qm _);have N:dP H7 o7 X.p X.f X.l X.sp X.cv U T X.pv ((e).tell 4 0 0 0).c ((e).tell 4 0 0 0).o (X.k+(n+1)):=P.c;have⟨g7,fv7,z⟩:=N.so;cases b:((e).tell 4 0 0 0).c.so.busy with
    |true =>
     have m:d.nD v tk=((e).tell 4 0 0 0):=by unfold CS.nD;simp only;rw[<-F,qy (show¬(d.c.so.aJ=B4/\(d.c.so.fK v tk).aJ=B2)from λ w=>by rw[C]at w;cases w.1),xg q,xg b]
     simp only[aa,bc,zj,aw,j,N.bm,ig z,b];exact x _ _ _ _ (.inl rfl) rfl (by rw[m];exact u.back P.here)
    |false =>
     have m:d.nD v tk=(((e).tell 4 0 0 0)).fJ:=by unfold CS.nD;simp only;rw[<-F,qy (show¬(d.c.so.aJ=B4/\(d.c.so.fK v tk).aJ=B2)from λ w=>by rw[C]at w;cases w.1),xg q,qy (by rw[b];decide)]
     simp only[aa,bc,zj,aw,j,N.bm,ig z,b];refine C3.q (Nl (X:=X.at B o2 bs) P (by show(e.o ++ [_]).length<=1000;rw[xe];simp only[zt,jo];omega)) λ _ H9 hp=>?_;simp only[aa,bc];exact x _ _ _ _ (.inl rfl) rfl (by rw[m];exact u.back hp)
   .cases b:e.c.so.busy with
    |true =>
     have m:d.nD v tk=e:=by unfold CS.nD;simp only;rw[<-F,qy (show¬(d.c.so.aJ=B4/\(d.c.so.fK v tk).aJ=B2)from λ w=>by rw[C]at w;cases w.1),qy q,xg b]
     simp only[aa,bc,zj,aw,j,E7,E8,C,eU i,q,c5.bm,ig i,b];exact x _ _ _ _ (.inl rfl) rfl (by rw[m];exact u.back h5.here)
    |false =>
     have m:d.nD v tk=(e).fJ:=by unfold CS.nD;simp only;rw[<-F,qy (show¬(d.c.so.aJ=B4/\(d.c.so.fK v tk).aJ=B2)from λ w=>by rw[C]at w;cases w.1),qy q,qy (by rw[b];decide)]
     simp only[aa,bc,zj,aw,j,E7,E8,C,eU i,q,c5.bm,ig i,b];refine C3.q (Nl (X:=X.at B o2 bs) h5 (by omega)) λ _ H9 hp=>?_;simp only[aa,bc];exact x _ _ _ _ (.inl rfl) rfl (by rw[m];exact u.back hp)
 have rest:∀{H3:ar}{o3:Nat->Nat}{I G:AV}{L:Bs}{A:Nat->Nat}{V3:Int->L8}{y:CS}{v:Int}{tk:Bool},fI v->dO (X.at B o2 bs) (n+1) y H3 o3 I G L A V3->y.c=s.c->y.o=s.o -> ∀{E:Env}{Q:aF},lk E 0=B1 (.ptr X.p 0)->lk E 2=B1 (.ptr H1.au 0)->lk E 4=B1 (.int .u64 v)->lk E 5=B1 (.bool tk)->lk E 6=B1 (.bool B4)->(∀ex E D H',(ex=.normal\/ex=.ret)->D=[]->mh X (n+1) (y.given v tk) H'->Q ex E D H')->W M ⟨B5,Nq⟩ (Hl Nq 26) B4 Q E [] H3:=λ{H3 o3 I G L A V3 y v tk}hu J hc ho{E Q}j E2 E4 Y E6 x=>by
  have c3:dP H3 o3 X.p X.f X.l X.sp X.cv I G X.pv y.c y.o (X.k+(n+1)):=J.c;have m1:Op.ae [.ptr H1.au 1] H3=B1 (.int .i64 s.c.so.want.a):=y9 (p9 (J.lo lo1).2 g2) 1;obtain⟨R,O⟩:∃R:Bool,R=(y.c.held ||tk && decide (y.c.so.want.a=0)):=⟨_,rfl⟩
  have⟨H4,s4,h4⟩:=J.put 16 (v:=.bool R) {y.c with held:=R} rfl (by decide) rfl ⟨rfl,rfl,rfl,rfl⟩ ⟨rfl,rfl⟩ {J.c.w with};have s4:Op.store 1 [.ptr X.p 16,.bool R] H3=B1 (.undef,H4):=s4;have r2:=λ{E:Env}{Q:aF}=>rest2 (v:=v) (tk:=tk) (E:=E) (Q:=Q) hu h4 (by show y.o.length<=990;rw[ho];exact hl);have m:y.given v tk=CS.nD {y with c:={y.c with held:=R}} v tk:=by rw[YH,O]
  obtain⟨d,e2'⟩:∃d:CS,d = {y with c:={y.c with held:=R}}:=⟨_,rfl⟩
  rw[<-e2']at r2 m h4;have c4:dP H4 o3 X.p X.f X.l X.sp X.cv I G X.pv d.c d.o (X.k+(n+1)):=h4.c;have⟨g4,fv4,r⟩:=c4.so;rw[m]at x;cases hh:y.c.held with
  |true =>
   have e1:R=true:=by rw[O,hh];rfl
   rw[e1]at s4;simp only[aa,bc,zj,aw,j,E2,Y,E6,c3.bm,hh,s4];simp only[aa,bc,aw,c4.bm,eU r,JM r];exact r2 j E4 Y rfl rfl x
  |false =>
   cases tk with
   |false =>
    have e1:R=false:=by rw[O,hh];rfl
    rw[e1]at s4;simp only[aa,bc,zj,aw,j,E2,Y,E6,c3.bm,hh,s4];simp only[aa,bc,aw,c4.bm,eU r,JM r];exact r2 j E4 Y rfl rfl x
   |true =>
    by_cases qa:s.c.so.want.a=0
    .have e1:R=true:=by rw[O,hh,hc,ke qa];rfl
     rw[e1]at s4;simp only[aa,bc,zj,aw,j,E2,Y,E6,c3.bm,hh,s4,m1,qv qa];simp only[aa,bc,aw,c4.bm,eU r,JM r];exact r2 j E4 Y rfl rfl x
    .have e1:R=false:=by rw[O,hh,hc,ju qa];rfl
     rw[e1]at s4;simp only[aa,bc,zj,aw,j,E2,Y,E6,c3.bm,hh,s4,m1,qa];simp only[aa,bc,aw,c4.bm,eU r,JM r];exact r2 j E4 Y rfl rfl x
 by_cases q1:s.c.so.want.op=1
 .rw [xg q1];simp only[aa,bc,zj,aw,Nt,s2,k0,k1,qv q1];refine C3.q (OI hr hk s.c.so.want.a) λ w H3⟨hw,hu,o3,I,G,L,A,V3,J⟩=>?_;subst hw;cases b:(s.kY s.c.so.want.a).2 with
  |true =>
   rw[xg rfl];simp only[aa,bc,aw];exact rest hu J rfl rfl rfl rfl rfl rfl rfl λ ex E D H' he hD hs=>by rcases he with rfl|rfl<;>subst hD<;>exact hs
  |false =>
   rw[qy (by decide)];simp only[aa,bc,zj,aw];exact u.back J.here
 rw[qy q1]
 by_cases q2:s.c.so.want.op=2
 .rw [xg q2];simp only[aa,bc,zj,aw,Nt,s2,k0,k1,k2,q1,qv q2];refine C3.q (Rc hr hk s.c.so.want.a hs.qu) λ w H3⟨hw,o3,I,G,L,A,V3,J⟩=>?_;subst hw;cases b:s.vL s.c.so.want.a s.c.so.want.v with
  |true =>
   rw[xg rfl];simp only[aa,bc];exact rest bI J rfl rfl rfl rfl rfl rfl rfl λ ex E D H' he hD hs=>by rcases he with rfl|rfl<;>subst hD<;>exact hs
  |false =>
   rw[qy (by decide)];simp only[aa,bc,zj];exact u.back J.here
 rw[qy q2]
 by_cases q3:s.c.so.want.op=3
 .rw [xg q3];simp only[aa,bc,zj,aw,Nt,s2,k0,k1,k2,k3,q1,q2,qv q3];refine C3.q (J3 hr hk s.c.so.want.a s.c.so.want.o hs.qu) λ w H3⟨hw,o3,I,G,L,A,V3,J⟩=>?_;subst hw;cases b:(s.Ar s.c.so.want.a s.c.so.want.o).2 with
  |true =>
   rw[xg rfl];simp only[aa,bc,aw];exact rest bI J rfl rfl rfl rfl rfl rfl rfl λ ex E D H' he hD hs=>by rcases he with rfl|rfl<;>subst hD<;>exact hs
  |false =>
   rw[qy (by decide)];simp only[aa,bc,zj,aw];exact u.back J.here
 rw[qy q3];simp only[aa,bc,zj,aw,Nt,s2,k0,q1,q2,q3];exact u.back (u.re.eD (by omega))
end
end Go.Am
namespace Go.Am
open Lang Go.Proofs
variable{M:ak}[MK M]
def G0(o:Nat)(x y:Int):fI (FZ o x y):=by unfold FZ;(repeat' split)<;>exact FT _
structure Pk(e:py):Prop where
 v:fI e.value
 a:fI e.addr
 k:e.kind=0\/e.kind=1\/e.kind=2\/e.kind=3\/e.kind=4\/e.kind=5\/e.kind=6\/e.kind=7
def yM{p:Prop}[Decidable p]{x y:py}(a:Pk x)(b:Pk y):Pk (if p then x else y):=by split;exact a;exact b
def SE(i:iQ)(pc:Int)(q:Bool):Pk (nR i pc q):=yM (yM ⟨bI,bI,.inl rfl⟩ ⟨bI,bI,.inr (.inr (.inl rfl))⟩) ⟨bI,bI,.inr (.inr (.inl rfl))⟩
def Kz(i:iQ){rs:List Int}{pc:Int}(a:rs.length=8)(hr:∀x∈rs,fI x):Pk (i.fZ rs pc):=by
 unfold iQ.fZ;refine yM ⟨bI,bI,.inl rfl⟩ (yM ⟨bI,bI,by simp⟩ (yM ⟨FT _,bI,by simp⟩ (yM ⟨OJ a hr _,bI,by simp⟩ (yM ⟨G0 _ _ _,bI,by simp⟩ (yM ⟨bI,FT _,by simp⟩ (yM ⟨OJ a hr _,FT _,by simp⟩ (yM (SE ..) (yM (SE ..) (yM (SE ..) (yM (SE ..) (yM ⟨bI,bI,by simp⟩ ⟨bI,bI,by simp⟩)))))))))))
def af2(i:iQ):(gn i).length=5:=rfl
def CS.pe(s:CS)(f:py):CS :=
 let is:=GA s.c f.addr
 let a:=8+f.addr
 if(f.kind=3\/f.kind=4)/\is=B2\/f.kind=0\/s.c.la.lane≠0/\f.kind=5\/s.c.la.lane=0/\f.kind=6\/s.c.la.lane≠0/\f.kind=7 then s.dH
 else if f.kind=7 then{s with c:={s.c with halted:=B4}}
 else if f.kind=1 then(s.fi (·.set f.pO f.value)).fR f.au
 else if f.kind=2 then s.fR f.au
 else if f.kind=3 then s.oq f a
 else if f.kind=4 then s.kC f a
 else if f.kind=5 then let t:=((s.fR f.au).fi .save).la .enter
  {t with c:={t.c with blocks:=aj .i64 (t.c.blocks+1),ph:=1}}
 else s.ends
def Da(s:CS):s.rh=if(s.c.code.length:Int)<=s.c.fi.pc then if s.c.la.lane=0 then{s with c:={s.c with halted:=B4}}else s.dH else s.pe ((s.c.code.getD s.c.fi.pc.toNat ⟨0,0,0,0,0⟩).fZ s.c.fi.rs s.c.fi.pc):=rfl
section
variable{X:SX}{n n':Nat}{s t:CS}{H H':ar}{o:Nat->Nat}{rv ov:AV}{bs:Bs}{own:Nat->Nat}{V:Int->L8}
def GP(h:dO X n s H o rv ov bs own V)(hk:X.k+n<=90000)(hl:s.o.length<=1000)(hS:pL H):zb M f_ [.ptr X.p 0] H λ _ H'=>mh X (n+1) s.rh H':=by
 refine qxk ?_;rw[Da];have ln:=iY (M:=M) h.c.la;have pc:=U_ (M:=M) h.c.fi;have pc0:=h.c.fi.w.pc;have lc:=h.c.cd.len
 by_cases U:(s.c.code.length:Int)<=s.c.fi.pc
 .rw [xg U]
  by_cases b:s.c.la.lane=0
  .rw [xg b];have⟨H1,s1,Q⟩:=h.put 20 (v:=.bool B4) {s.c with halted:=B4} rfl (by decide) rfl ⟨rfl,rfl,rfl,rfl⟩ ⟨rfl,rfl⟩ {h.c.w with};simp only[aa,bc,jc,aw,h.c.bm,ln,pc,lc,qv U,qv b,s1];exact Q.eD (by omega)
  .rw [qy b];simp only[aa,bc,jc,aw,h.c.bm,ln,pc,lc,qv U,b];refine C3.q (_t h hk hl) λ _ H1 hp=>?_;simp only[aa,bc,jc];exact hp
 rw[qy U];obtain⟨i,hi⟩:∃i,s.c.code[s.c.fi.pc.toNat]? = B1 i:=⟨_,xf (by omega)⟩
 rw[zw,hi,vp];have ix:=h.c.cd.idx hi (z:=s.c.fi.pc) (MP pc0).symm .i64;have ld:∀{H':ar},bN gn 5 H' X.cv s.c.code->Op.aq 5 [.ptr (aG X.cv) (cJ 5 X.cv s.c.fi.pc.toNat)] H'=B1 (.agg (gn i)):=λ w=>w.aq af2 (by decide) hi;have yX:=ld h.c.cd;simp only[aa,bc,jc,aw,h.c.bm,ln,pc,lc,U,ix,yX];refine C3.q (VZ h.c.fi) λ v H1⟨hv,f1⟩=>?_;subst hv;obtain⟨o1,Q,-⟩:=h.loc f1;have l2:Op.ae [.ptr X.p 2] H1=B1 X.cv:=Q.c.row.ld 2;have ld1:=ld Q.c.cd;simp only[aa,bc,Q.c.bm,ld1];refine C3.q (Ge (hS.em f1) (i:=i) (pc:=s.c.fi.pc) h.c.fi.w.r8 h.c.fi.w.ru) λ v j⟨hv,f2⟩=>?_;subst hv;have⟨vu,R,kk⟩:=Kz i (pc:=s.c.fi.pc) h.c.fi.w.r8 h.c.fi.w.ru;generalize i.fZ s.c.fi.rs s.c.fi.pc=e at *;obtain⟨o2,h2,-⟩:=Q.loc f2;obtain⟨I,W⟩:∃Z,Z=(j.alloc (OR (bj ir) jm)).set j.au (OR (bj e) jm):=⟨_,rfl⟩
 have x:Op.store 5 [.ptr j.au 0,.agg (bj e)] (j.alloc (OR (bj ir) jm))=B1 (.undef,I):=by
  have:=(At.new j (bj ir) jm).fH (k:=0) (n:=5) (v:=.agg (bj e)) rfl (by simp[bj]) rfl;rw[W];exact this
 have f3:Fr Em j I:=W▸((Fr.refl j).alloc _).set (.inr (qm _)) _;have n3:I.au=j.au+1:=by rw[W,tj,xy]
 have O:I.get j.au=B1 (OR (bj e) jm):=by rw[W,xb]
 have r:Op.ae [.ptr j.au 0] I=B1 (.int .i64 e.kind):=y9 O 0;have k1:Op.ae [.ptr j.au 1] I=B1 (.int .i64 e.au):=y9 O 1;have k2:Op.ae [.ptr j.au 2] I=B1 (.int .i64 e.pO):=y9 O 2;have k3:Op.ae [.ptr j.au 3] I=B1 (.int .u64 e.value):=y9 O 3;have u:Op.ae [.ptr j.au 4] I=B1 (.int .u64 e.addr):=y9 O 4;have k5:=EP O;have⟨o3,d,lo⟩:=h2.loc f3;have T:=(lo j.au).1 ⟨qm _,by omega⟩;have hr:=d.re;have a:=RJ (M:=M) d.c R;have D:zb M YB [.ptr X.p 0] I λ _ H'=>mh X (n+1) s.dH H':=_t d hk hl;rcases kk with q|q|q|q|q|q|q|q
 .have A:¬e.kind=1:=by omega
  have E:¬e.kind=2:=by omega
  have g:¬e.kind=3:=by omega
  have m:¬e.kind=4:=by omega
  have F:¬e.kind=5:=by omega
  have G:¬e.kind=6:=by omega
  have y:¬e.kind=7:=by omega
  have e1:s.pe e=s.dH:=by unfold CS.pe;simp[q]
  rw[e1];simp only[aa,bc,jc,aw,jR,x,r,u,a,g,m,qv q];refine C3.q D λ _ C hp=>?_;simp only[aa,bc];exact hp
 .have a0:¬e.kind=0:=by omega
  have E:¬e.kind=2:=by omega
  have g:¬e.kind=3:=by omega
  have m:¬e.kind=4:=by omega
  have F:¬e.kind=5:=by omega
  have G:¬e.kind=6:=by omega
  have y:¬e.kind=7:=by omega
  have e1:s.pe e=(s.fi (·.set e.pO e.value)).fR e.au:=by unfold CS.pe;simp[q]
  rw[e1]
  by_cases b:s.c.la.lane=0
  .simp only[aa,bc,jc,aw,jR,x,r,k2,k3,u,a,d.c.bm,a0,g,m,G,y,qv q,qv b];refine C3.q (Le d.c.fi e.pO vu) λ _ C hp=>?_;have⟨o4,N,K,S,P,V4,B⟩:=hr.co (t:=s.fi (·.set e.pO e.value)) rfl rfl (d.c.HH hp) (qm _);have c4:dP C o4 X.p X.f X.l X.sp X.cv N K X.pv (s.fi (·.set e.pO e.value)).c s.o (X.k+n):=B.c;have m1:Op.ae [.ptr j.au 1] C=B1 (.int .i64 e.au):=y9 (p9 (B.lo T).2 O) 1;simp only[aa,bc,m1];refine C3.q (KU (s:=s.fi (·.set e.pO e.value)) c4 e.au) λ _ J hp=>?_;simp only[aa,bc];exact d.back ((B.co (t:=(s.fi (·.set e.pO e.value)).fR e.au) rfl rfl hp (qm _)).mono (by omega))
  .simp only[aa,bc,jc,aw,jR,x,r,k2,k3,u,a,d.c.bm,a0,g,m,F,y,qv q,b];refine C3.q (Le d.c.fi e.pO vu) λ _ C hp=>?_;have⟨o4,N,K,S,P,V4,B⟩:=hr.co (t:=s.fi (·.set e.pO e.value)) rfl rfl (d.c.HH hp) (qm _);have c4:dP C o4 X.p X.f X.l X.sp X.cv N K X.pv (s.fi (·.set e.pO e.value)).c s.o (X.k+n):=B.c;have m1:Op.ae [.ptr j.au 1] C=B1 (.int .i64 e.au):=y9 (p9 (B.lo T).2 O) 1;simp only[aa,bc,m1];refine C3.q (KU (s:=s.fi (·.set e.pO e.value)) c4 e.au) λ _ J hp=>?_;simp only[aa,bc];exact d.back ((B.co (t:=(s.fi (·.set e.pO e.value)).fR e.au) rfl rfl hp (qm _)).mono (by omega))
 .have a0:¬e.kind=0:=by omega
  have A:¬e.kind=1:=by omega
  have g:¬e.kind=3:=by omega
  have m:¬e.kind=4:=by omega
  have F:¬e.kind=5:=by omega
  have G:¬e.kind=6:=by omega
  have y:¬e.kind=7:=by omega
  have e1:s.pe e=s.fR e.au:=by unfold CS.pe;simp[q]
  rw[e1]
  by_cases b:s.c.la.lane=0
  .simp only[aa,bc,jc,aw,jR,x,r,k1,u,a,a0,A,g,m,G,y,qv q,qv b];refine C3.q (KU d.c e.au) λ _ J hp=>?_;simp only[aa,bc];exact(d.co (t:=s.fR e.au) rfl rfl hp (qm _)).mono (by omega)
  .simp only[aa,bc,jc,aw,jR,x,r,k1,u,a,a0,A,g,m,F,y,qv q,b];refine C3.q (KU d.c e.au) λ _ J hp=>?_;simp only[aa,bc];exact(d.co (t:=s.fR e.au) rfl rfl hp (qm _)).mono (by omega)
 .have a0:¬e.kind=0:=by omega
  have A:¬e.kind=1:=by omega
  have E:¬e.kind=2:=by omega
  have m:¬e.kind=4:=by omega
  have F:¬e.kind=5:=by omega
  have G:¬e.kind=6:=by omega
  have y:¬e.kind=7:=by omega
  cases L:CS.GA s.c e.addr with
  |true =>
   have e1:s.pe e=s.oq e (8+e.addr):=by unfold CS.pe;simp[q,L]
   rw[e1];rw[L,xg rfl]at a
   by_cases b:s.c.la.lane=0
   .simp only[aa,bc,jc,aw,jR,x,r,u,k5,a,a0,A,E,G,y,qv q,qv b];refine C3.q (xlj d hk hl e R (8+e.addr)) λ _ J hp=>?_;simp only[aa,bc];exact hp
   .simp only[aa,bc,jc,aw,jR,x,r,u,k5,a,a0,A,E,F,y,qv q,b];refine C3.q (xlj d hk hl e R (8+e.addr)) λ _ J hp=>?_;simp only[aa,bc];exact hp
  |false =>
   rw[L,qy (by decide)]at a;have e1:s.pe e=s.dH:=by unfold CS.pe;simp[q,L]
   rw[e1];simp only[aa,bc,jc,aw,jR,x,r,u,a,qv q];refine C3.q D λ _ C hp=>?_;simp only[aa,bc];exact hp
 .have a0:¬e.kind=0:=by omega
  have A:¬e.kind=1:=by omega
  have E:¬e.kind=2:=by omega
  have g:¬e.kind=3:=by omega
  have F:¬e.kind=5:=by omega
  have G:¬e.kind=6:=by omega
  have y:¬e.kind=7:=by omega
  cases L:CS.GA s.c e.addr with
  |true =>
   have e1:s.pe e=s.kC e (8+e.addr):=by unfold CS.pe;simp[q,L]
   rw[e1];rw[L,xg rfl]at a
   by_cases b:s.c.la.lane=0
   .simp only[aa,bc,jc,aw,jR,x,r,u,k5,a,a0,A,E,g,G,y,qv q,qv b];refine C3.q (xgz d hk hl e R vu (8+e.addr)) λ _ J hp=>?_;simp only[aa,bc];exact hp
   .simp only[aa,bc,jc,aw,jR,x,r,u,k5,a,a0,A,E,g,F,y,qv q,b];refine C3.q (xgz d hk hl e R vu (8+e.addr)) λ _ J hp=>?_;simp only[aa,bc];exact hp
  |false =>
   rw[L,qy (by decide)]at a;have e1:s.pe e=s.dH:=by unfold CS.pe;simp[q,L]
   rw[e1];simp only[aa,bc,jc,aw,jR,x,r,u,a,g,qv q];refine C3.q D λ _ C hp=>?_;simp only[aa,bc];exact hp
 .have a0:¬e.kind=0:=by omega
  have A:¬e.kind=1:=by omega
  have E:¬e.kind=2:=by omega
  have g:¬e.kind=3:=by omega
  have m:¬e.kind=4:=by omega
  have G:¬e.kind=6:=by omega
  have y:¬e.kind=7:=by omega
  by_cases b:s.c.la.lane=0
  .have e1:s.pe e=(let t:=((s.fR e.au).fi .save).la .enter
    {t with c:={t.c with blocks:=aj .i64 (t.c.blocks+1),ph:=1}}):=by unfold CS.pe;simp[q,b]
   rw[e1];simp only[aa,bc,jc,aw,jR,x,r,k1,u,a,a0,A,E,g,m,G,y,qv q,qv b];refine C3.q (KU d.c e.au) λ _ C hp=>?_;have⟨o4,N,K,S,P,V4,B⟩:=d.co (t:=s.fR e.au) rfl rfl hp (qm _);simp only[aa,bc,aw,B.c.bm];refine C3.q (Qf B.c.fi) λ _ J hp=>?_;have⟨o5,rv5,ov5,bs5,own5,V5,Y⟩:=B.co (t:=(s.fR e.au).fi .save) rfl rfl (B.c.HH hp) (qm _);simp only[aa,bc,aw,Y.c.bm];refine C3.q (Kx Y.c.la) λ _ H6 hp=>?_;have⟨o6,rv6,ov6,bs6,own6,V6,h6⟩:=Y.co (t:=((s.fR e.au).fi .save).la .enter) rfl rfl (Y.c.XX hp) (qm _);obtain⟨t,ht⟩:∃t:CS,t=((s.fR e.au).fi .save).la .enter:=⟨_,rfl⟩
   rw[<-ht]at h6;rw[<-ht];have⟨H7,s7,h7⟩:=h6.put 18 (v:=.int .i64 (aj .i64 (t.c.blocks+1))) {t.c with blocks:=aj .i64 (t.c.blocks+1)} rfl (by decide) rfl ⟨rfl,rfl,rfl,rfl⟩ ⟨rfl,rfl⟩ {h6.c.w with};have⟨H8,s8,h8⟩:=h7.put 6 (v:=.int .i64 1) {t.c with blocks:=aj .i64 (t.c.blocks+1),ph:=1} rfl (by decide) rfl ⟨rfl,rfl,rfl,rfl⟩ ⟨rfl,rfl⟩ {h7.c.w with};simp only[aa,bc,aw,h6.c.bm,s7,s8];exact h8.eD (by omega)
  .have e1:s.pe e=s.dH:=by unfold CS.pe;simp[q,b]
   rw[e1];simp only[aa,bc,jc,aw,jR,x,r,u,a,a0,g,m,qv q,b];refine C3.q D λ _ C hp=>?_;simp only[aa,bc];exact hp
 .have a0:¬e.kind=0:=by omega
  have A:¬e.kind=1:=by omega
  have E:¬e.kind=2:=by omega
  have g:¬e.kind=3:=by omega
  have m:¬e.kind=4:=by omega
  have F:¬e.kind=5:=by omega
  have y:¬e.kind=7:=by omega
  by_cases b:s.c.la.lane=0
  .have e1:s.pe e=s.dH:=by unfold CS.pe;simp[q,b]
   rw[e1];simp only[aa,bc,jc,aw,jR,x,r,u,a,a0,g,m,qv q,qv b];refine C3.q D λ _ C hp=>?_;simp only[aa,bc];exact hp
  .have e1:s.pe e=s.ends:=by unfold CS.pe;simp[q,b]
   rw[e1];simp only[aa,bc,jc,aw,jR,x,r,u,a,a0,A,E,g,m,F,y,b];refine C3.q (Kk d hk hl) λ _ J hp=>?_;simp only[aa,bc];exact hp
 .have a0:¬e.kind=0:=by omega
  have A:¬e.kind=1:=by omega
  have E:¬e.kind=2:=by omega
  have g:¬e.kind=3:=by omega
  have m:¬e.kind=4:=by omega
  have F:¬e.kind=5:=by omega
  have G:¬e.kind=6:=by omega
  by_cases b:s.c.la.lane=0
  .have e1:s.pe e = {s with c:={s.c with halted:=B4}}:=by unfold CS.pe;simp[q,b]
   rw[e1];have⟨C,s4,B⟩:=d.put 20 (v:=.bool B4) {s.c with halted:=B4} rfl (by decide) rfl ⟨rfl,rfl,rfl,rfl⟩ ⟨rfl,rfl⟩ {d.c.w with};simp only[aa,bc,jc,aw,jR,x,r,u,a,a0,g,m,G,qv q,qv b,s4];exact B.eD (by omega)
  .have e1:s.pe e=s.dH:=by unfold CS.pe;simp[q,b]
   rw[e1];simp only[aa,bc,jc,aw,jR,x,r,u,a,a0,g,m,F,qv q,b];refine C3.q D λ _ C hp=>?_;simp only[aa,bc];exact hp
end
end Go.Am
namespace Go.Am
open Lang Go.Proofs
variable{M:ak}[MK M]
section
variable{X:SX}{n n':Nat}{s t:CS}{H H':ar}{o:Nat->Nat}{rv ov:AV}{bs:Bs}{own:Nat->Nat}{V:Int->L8}
def QA(h:dO X n s H o rv ov bs own V)(hk:X.k+n+1<=90000)(hl:s.o.length<=990)(P:pL H):zb M W8 [.ptr X.p 0] H λ _ H'=>mh X (n+2) s.act H':=by
 refine q4g ?_;have d:X.k+n<=90000:=by omega
 have f:s.o.length<=1000:=by omega
 unfold CS.act;simp only
 by_cases e:s.c.ph=0
 .rw [xg e];simp only[aa,bc,jv,aw,h.c.bm,qv e];refine C3.q (GP h d f P) λ _ H1 hp=>?_;simp only[aa,bc];exact hp.mono (by omega)
 rw[qy e]
 by_cases g:s.c.ph=1
 .rw [xg g];simp only[aa,bc,jv,aw,h.c.bm,e,qv g];refine C3.q (Dp h d f) λ _ H1 hp=>?_;simp only[aa,bc];exact hp.mono (by omega)
 rw[qy g]
 by_cases i:s.c.ph=2
 .rw [xg i];simp only[aa,bc,jv,aw,h.c.bm,e,g,qv i];refine C3.q (OI h d 1) λ v H1⟨y,hu,o1,u,m,j,oH,G,a⟩=>?_;subst y;cases b:(s.kY 1).2 with
  |false =>
   rw[qy (by decide)];simp only[aa,bc,jv,aw];exact a.eD (by omega)
  |true =>
   rw[xg rfl];have⟨F,s2,l⟩:=a.put 6 (v:=.int .i64 3) {s.c with ph:=3} rfl (by decide) rfl ⟨rfl,rfl,rfl,rfl⟩ ⟨rfl,rfl⟩ {a.c.w with}
   by_cases z:(s.kY 1).1=0
   .rw [qy (λ w=>w z)];simp only[aa,bc,jv,aw,s2,qv z];exact l.eD (by omega)
   .rw [xg z];simp only[aa,bc,jv,aw,s2,z,l.c.bm,SX.pv,wF,VJ];refine C3.q (UJ (s:=(s.ld 1).ph 3) l (by omega) 6) λ _ N hp=>?_;simp only[aa,bc];exact hp
 rw[qy i]
 by_cases r:s.c.ph=3
 .rw [xg r];simp only[aa,bc,jv,aw,h.c.bm,e,g,i,qv r];refine C3.q (OI h d 0) λ v H1⟨y,hu,o1,u,m,j,oH,G,a⟩=>?_;subst y;cases b:(s.kY 0).2 with
  |false =>
   rw[qy (by decide)];simp only[aa,bc,aw];exact a.eD (by omega)
  |true =>
   rw[xg rfl];have⟨F,s2,l⟩:=a.put 12 (v:=.int .u64 (s.kY 0).1) {s.c with seq:=(s.kY 0).1} rfl (by decide) rfl ⟨rfl,rfl,rfl,rfl⟩ ⟨rfl,rfl⟩ {a.c.w with};have⟨N,L,I⟩:=l.put 6 (v:=.int .i64 0) {s.c with seq:=(s.kY 0).1,ph:=0} rfl (by decide) rfl ⟨rfl,rfl,rfl,rfl⟩ ⟨rfl,rfl⟩ {l.c.w with}
   by_cases z:(s.kY 0).1 % 2=1
   .rw [xg z];simp only[aa,bc,jv,aw,s2,L,pB hu,qv z,I.c.bm,SX.pv,wF,VJ];refine C3.q (UJ (s:={s.ld 0 with c:={s.c with seq:=(s.kY 0).1,ph:=0}}) I (by omega) 6) λ _ Q hp=>?_;simp only[aa,bc];exact hp
   .rw [qy z];simp only[aa,bc,jv,aw,s2,L,pB hu,z];exact I.eD (by omega)
 rw[qy r]
 by_cases x:s.c.ph=4
 .rw [xg x];simp only[aa,bc,jv,aw,h.c.bm,e,g,i,r,qv x];refine C3.q (OI h d 0) λ v H1⟨y,hu,o1,u,m,j,oH,G,a⟩=>?_;subst y;cases b:(s.kY 0).2 with
  |false =>
   rw[qy (λ w=>by cases w.1)];simp only[aa,bc,jv,aw];exact a.eD (by omega)
  |true =>
   by_cases z:(s.kY 0).1 % 2=0
   .rw [xg ⟨rfl,z⟩];have⟨F,s2,l⟩:=a.put 12 (v:=.int .u64 (s.kY 0).1) {s.c with seq:=(s.kY 0).1} rfl (by decide) rfl ⟨rfl,rfl,rfl,rfl⟩ ⟨rfl,rfl⟩ {a.c.w with};have⟨N,L,I⟩:=l.put 6 (v:=.int .i64 5) {s.c with seq:=(s.kY 0).1,ph:=5} rfl (by decide) rfl ⟨rfl,rfl,rfl,rfl⟩ ⟨rfl,rfl⟩ {l.c.w with};simp only[aa,bc,jv,aw,pB hu,qv z,s2,L];exact I.eD (by omega)
   .rw [qy (λ w=>z w.2)];simp only[aa,bc,jv,aw,pB hu,z];exact a.eD (by omega)
 rw[qy x]
 by_cases A:s.c.ph=5
 .rw [xg A];simp only[aa,bc,jv,aw,h.c.bm,e,g,i,r,x,qv A];refine C3.q (GC h d f) λ _ H1 hp=>?_;simp only[aa,bc];exact hp.mono (by omega)
 rw[qy A]
 by_cases C:s.c.ph=6
 .rw [xg C];simp only[aa,bc,jv,aw,h.c.bm,e,g,i,r,x,A,qv C];refine C3.q (II h d hl) λ _ H1 hp=>?_;simp only[aa,bc];exact hp.mono (by omega)
 rw[qy C];have O:=Rc (M:=M) h d 0 (FT (s.c.seq+2))
 by_cases D:s.c.ph=7
 .rw [xg D];unfold CS.iq;simp only;simp only[aa,bc,jv,aw,h.c.bm,e,g,i,r,x,A,C,qv D];refine C3.q O λ v H1⟨y,o1,u,m,j,oH,G,a⟩=>?_;subst y;cases b:s.vL 0 (aj .u64 (s.c.seq+2))with
  |false =>
   rw[qy (by decide)];simp only[aa,bc];exact a.eD (by omega)
  |true =>
   rw[xg rfl];have⟨F,s2,l⟩:=a.put 6 (v:=.int .i64 8) {s.c with ph:=8} rfl (by decide) rfl ⟨rfl,rfl,rfl,rfl⟩ ⟨rfl,rfl⟩ {a.c.w with};simp only[aa,bc,aw,s2];exact l.eD (by omega)
 rw[qy D]
 by_cases E:s.c.ph=8
 .rw [xg E];simp only[aa,bc,jv,aw,h.c.bm,e,g,i,r,x,A,C,D,qv E,SX.pv,wF,Y4];refine C3.q (Xh h d) λ _ H1⟨o1,u,m,j,oH,G,a⟩=>?_;simp only[aa,bc];refine C3.q (ON (s:=s.lF 4 0 0 0) a.c f) λ _ F hp=>?_;simp only[aa,bc];exact(a.co (t:=(s.lF 4 0 0 0).cX) (Q0 _) (PD _) hp (qm _)).mono (by omega)
 rw[qy E]
 by_cases J:s.c.ph=9
 .rw [xg J];simp only[aa,bc,jv,aw,h.c.bm,e,g,i,r,x,A,C,D,E,qv J];refine C3.q (Hv h d f) λ _ H1 hp=>?_;simp only[aa,bc];exact hp.mono (by omega)
 rw[qy J]
 by_cases K:s.c.ph=10
 .rw [xg K];unfold CS.iq;simp only;simp only[aa,bc,jv,aw,h.c.bm,e,g,i,r,x,A,C,D,E,J,qv K];refine C3.q O λ v H1⟨y,o1,u,m,j,oH,G,a⟩=>?_;subst y;cases b:s.vL 0 (aj .u64 (s.c.seq+2))with
  |false =>
   rw[qy (by decide)];simp only[aa,bc];exact a.eD (by omega)
  |true =>
   rw[xg rfl];simp only[aa,bc];refine C3.q (YK (s:=s.st 0 (aj .u64 (s.c.seq+2))) a.c f) λ _ F hp=>?_;simp only[aa,bc];exact(a.co (t:=(s.st 0 (aj .u64 (s.c.seq+2))).breaks) rfl rfl hp (qm _)).mono (by omega)
 rw[qy K];simp only[aa,bc,jv,aw,h.c.bm,e,g,i,r,x,A,C,D,E,J,K];exact h.eD (by omega)
end
end Go.Am
namespace Go.Am
open Lang Go.Proofs
variable{M:ak}[MK M]
section
variable{H H0:ar}{B:Nat}{s:Bs}{b:Bu}{own:Nat->Nat}
def xko(h:eL H0 H B s b own)(hb:BB b){c:Nat}{n:No}(hn:b.ns[c]? = B1 n):zb M TM [.ptr B 0,.int .i64 (c:Int)] H λ v H'=>v=.int .i64 n.code/\H'=H:=by
 refine q64 ?_;simp only[aa,bc,q65];refine C3.q (Iu h hb.N4 (c:Int)) λ v k⟨a,j,_⟩=>?_;have hl:=(qt.1 hn).1;have⟨A,g,d⟩:=j ⟨by omega,by omega⟩;rw[G7]at g;rw[d,a];have i:=h.no _ n A hn g;have e:Op.ae [.ptr A.r 16] H=B1 (.int .i64 n.code):=(i.ld 16).trans (Fu n A.b A.bv).2.2.2.2.2.2.1;simp only[aa,bc,xj];refine C3.q (R:=λ v H'=>v=.int .i64 n.code/\H'=H) ?_ λ v l⟨d,a⟩=>?_
 .refine q0t ?_;obtain⟨w0,w2,f⟩:=q0u M ⟨B5,fB⟩;simp only[aa,bc,w0,w2,yr,f,qo,e]
 rw[d,a];simp only[aa,bc]
end
structure Fv(X:SX)(n:Nat)(x:Co)(y:Bu)(H:ar)(o:Nat->Nat)(rv:AV)(bs:Bs)(own:Nat->Nat)(V:Int->L8):Prop where
 c:dP H o X.p X.f X.l X.sp X.cv rv .nils .nili x [] (X.k+n)
 b:eL X.Hb H X.B bs y own
 I:BuI y V
 C:BC y (X.k+n)
 U:yR y
 nn:x.id<y.ns.length
 dj:∀z,gE X.B bs z->o z=0
 hb:∀z,z<H.au->o z≠0->X.Hb.au<=z
 go:∀z,z<H.au->o z≠0->(z<X.H.au/\X.o z≠0)\/X.H.au<=z
 gb:∀z,gE X.B bs z->X.W z\/X.H.au<=z
 fr:Fr (λ z=>X.o z≠0\/X.W z) X.H H
section
variable{X:SX}{n n':Nat}{s t:CS}{c:Co}{b:Bu}{H H':ar}{o:Nat->Nat}{rv ov:AV}{bs:Bs}{own:Nat->Nat}{V:Int->L8}
def CR{x:Nat}{Y:ar}(h:o X.p=1)(hr:eL X.Hb H X.B bs b own)(dj:∀z,gE X.B bs z->o z=0)(hb:∀z,z<H.au->o z≠0->X.Hb.au<=z)(hp:X.p<H.au)(f:Fr (On X.p) H Y):eL X.Hb Y X.B bs b own :=
 hr.fr f λ z(q:z=X.p)=>⟨by rw[q];exact hb _ hp (by rw[h];decide),λ e=>by rw[q]at e;have:=dj _ e;omega⟩
def Fv.open(h:Fv X n c b H o rv bs own V):∃H1 g,Op.store 1 [.ptr X.p 22,.nils] H=B1 (.undef,H1)/\Op.store 1 [.ptr X.p 23,X.pv] H1=B1 (.undef,g)/\dO X n ⟨c,b,[]⟩ g o rv .nils bs own V/\Fr (On X.p) H g/\Fr (On X.p) H H1:=by
 have⟨a,i⟩:=h.c.cell (d:=c) (k':=X.k+n) ⟨rfl,rfl,rfl,rfl⟩ (rv':=rv) (ov':=.nils) (pv':=.nili) (os':=[]) ⟨h.c.rd,h.c.qF⟩ ⟨Own.nil ..,λ z q=>(q.1 rfl).elim⟩ rfl h.c.w;have s1:=h.c.row.st 22 (v:=.nils) rfl (by simp[cO]);have e1:(cO c X.f X.l X.sp X.cv rv .nils .nili).set 22 .nils=cO c X.f X.l X.sp X.cv rv .nils .nili:=rfl;rw[e1]at s1;have s2:=a.row.st 23 (v:=X.pv) rfl (by simp[cO]);have⟨m,j⟩:=a.cell (d:=c) (k':=X.k+n) ⟨rfl,rfl,rfl,rfl⟩ (rv':=rv) (ov':=.nils) (pv':=X.pv) (os':=[]) ⟨a.rd,a.qF⟩ ⟨Own.nil ..,λ z q=>(q.1 rfl).elim⟩ rfl h.c.w;have e2:(cO c X.f X.l X.sp X.cv rv .nils .nili).set 23 X.pv=cO c X.f X.l X.sp X.cv rv .nils X.pv:=rfl;rw[e2]at s2;have f:=i.trans j λ z q=>.inl q;refine⟨_,_,s1,s2,⟨m,CR (x:=0) h.c.op h.b h.dj h.hb h.c.row.2 f,h.I,h.C,h.U,h.nn,h.dj,h.hb,h.go,h.gb,h.fr.trans f λ z(q:z=X.p)=>?_⟩,f,i⟩;rw[q];exact(h.go X.p h.c.row.2 (by rw[h.c.op];decide)).imp (λ e=>.inl e.2) id
def dO.close(h:dO X n s H o rv ov bs own V):∃H1 a,Op.store 1 [.ptr X.p 22,.nils] H=B1 (.undef,H1)/\Op.store 1 [.ptr X.p 23,.nili] H1=B1 (.undef,a)/\Fv X n s.c s.b a o rv bs own V/\aO fh.enc jr 9 a ov s.o/\(∀z,aM ov z->o z=6)/\Fr (On X.p) H a/\Fr (On X.p) H H1:=by
 have⟨g,i⟩:=h.c.cell (d:=s.c) (k':=X.k+n) ⟨rfl,rfl,rfl,rfl⟩ (rv':=rv) (ov':=.nils) (pv':=X.pv) (os':=[]) ⟨h.c.rd,h.c.qF⟩ ⟨Own.nil ..,λ z q=>(q.1 rfl).elim⟩ rfl h.c.w;have s1:=h.c.row.st 22 (v:=.nils) rfl (by simp[cO]);have e1:(cO s.c X.f X.l X.sp X.cv rv ov X.pv).set 22 .nils=cO s.c X.f X.l X.sp X.cv rv .nils X.pv:=rfl;rw[e1]at s1;have s2:=g.row.st 23 (v:=.nili) rfl (by simp[cO]);have⟨m,j⟩:=g.cell (d:=s.c) (k':=X.k+n) ⟨rfl,rfl,rfl,rfl⟩ (rv':=rv) (ov':=.nils) (pv':=.nili) (os':=[]) ⟨g.rd,g.qF⟩ ⟨Own.nil ..,λ z q=>(q.1 rfl).elim⟩ rfl h.c.w;have e2:(cO s.c X.f X.l X.sp X.cv rv .nils X.pv).set 23 .nili=cO s.c X.f X.l X.sp X.cv rv .nils .nili:=rfl;rw[e2]at s2;have f:=i.trans j λ z q=>.inl q;refine⟨_,_,s1,s2,⟨m,CR (x:=0) h.c.op h.b h.dj h.hb h.c.row.2 f,h.I,h.C,h.U,h.nn,h.dj,h.hb,h.go,h.gb,h.fr.trans f λ z(q:z=X.p)=>?_⟩,Own.fr h.c.ou f λ z q=>h.c.np z (by rw[h.c.rB z q];decide),h.c.rB,f,i⟩;rw[q];exact(h.go X.p h.c.row.2 (by rw[h.c.op];decide)).imp (λ e=>.inl e.2) id
def Fv.em(h:Fv X n c b H o rv bs own V)(f:Fr Em H H'):Fv X n c b H' (aP o H.au 0) rv bs own V:=by
 have ho:∀z,z<H.au->aP o H.au 0 z=o z:=λ z q=>iT q;refine{h with c:=h.c.fr f (λ _ _ _ q=>q) ho (qm _),b:=h.b.em f,dj:=λ z q=>(ho z (h.b.low q)).trans (h.dj z q),hb:=λ z q e=>?_,go:=λ z q e=>?_,fr:=h.fr.em f}
 .rcases xz z H.au with w|w
  .rw [ho z w]at e;exact h.hb z w e
  .rw [nh w]at e;exact(e rfl).elim
 .rcases xz z H.au with w|w
  .rw [ho z w]at e;exact h.go z w e
  .rw [nh w]at e;exact(e rfl).elim
end
end Go.Am
namespace Go.Am
open Lang Go.Proofs
variable{M:ak}[MK M]
section
variable{X:SX}{n n':Nat}{s t:CS}{c:Co}{b:Bu}{H H':ar}{o:Nat->Nat}{rv ov:AV}{bs:Bs}{own:Nat->Nat}{V:Int->L8}
def LS(X:SX)(n:Nat)(s:CS)(H:ar)(ov:AV):Prop:=∃o rv bs own V,Fv X n s.c s.b H o rv bs own V/\aO fh.enc jr 9 H ov s.o /\ ∀z,aM ov z->o z=6
def xkf{d:Nat}{H1 a:ar}{p:Nat}(l1:Op.ae [.ptr d 0] H=B1 (.ptr p 0))(s1:Op.store 1 [.ptr p 22,.nils] H=B1 (.undef,H1))(s2:Op.store 1 [.ptr p 23,.nili] H1=B1 (.undef,a)):∃v,jS M ye [.ptr d 0] (B1 []) H (.ret v) (B1 []) a:=by
 obtain⟨e,H',f,v,rfl,rfl⟩:=qvm (M:=M) (up:=B1 []) (a0:=.ptr d 0) (H:=H) (Q:=λ e X=>∃v,e=.ret v/\X=a) (by
  simp only[aa,bc,qvn,aw,l1,s1,s2];exact⟨_,rfl⟩)
 exact⟨v,f⟩
def MO(h:Fv X n c b H o rv bs own V)(hk:X.k+n+1<=90000)(hS:pL H)(oG:o yv=0):zb M L5 [.ptr X.p 0,X.pv] H λ v H'=>∃ov,v=.tuple [ov,.int .i64 (CS.step ⟨c,b,[]⟩).2]/\LS X (n+2) (CS.step ⟨c,b,[]⟩).1 H' ov:=by
 refine qz6 ?_;obtain⟨H1,e1,f1,n1,Y⟩:=cq H (OR [.ptr X.p 0] AX);have ca:AV.cells (.ptr X.p 0)=[.ptr X.p 0]:=rfl;have y:=h.em f1;have l1:Op.ae [.ptr H.au 0] H1=B1 (.ptr X.p 0):=y9 Y 0;have od:aP o H.au 0 H.au=0:=nh (qm _);have W:=C0 (M:=M) y.c;have en:∀H,Op.eq .iface B2 [X.pv,.nili] H=B1 (.bool B2):=λ _=>rfl;have N:Op.ae [.ptr X.p 20] H1=B1 (.bool c.halted):=y.c.row.ld 20;have D:Op.ae [.ptr X.p 21] H1=B1 (.bool c.zA):=y.c.row.ld 21;have done:LS X (n+2) ⟨c,b,[]⟩ H1 .nils:=⟨_,_,_,_,_,{y with c:=y.c.fr (Fr.refl _) (λ _ _ _ w=>w) (λ _ _=>rfl) (by omega),C:=y.C.mono (by omega)},Own.nil ..,λ z q=>(q.1 rfl).elim⟩
 unfold CS.step;simp only;cases qb:c.zA with
 |true =>
  rw[xg rfl];simp only[aa,bc,vd,S_,aw,ca,<-e1,l1,W,en,D,qb];exact⟨_,rfl,done⟩
 |false =>
 rw[qy (by decide)];cases qh:c.halted with
 |true =>
  rw[xg rfl];simp only[aa,bc,vd,S_,aw,ca,<-e1,l1,W,en,D,qb,N,qh];exact⟨_,rfl,done⟩
 |false =>
 rw[qy (by decide)];obtain⟨Ha,x,s1,s2,l,P,fa⟩:=y.open;have pd:H.au≠X.p:=λ e=>by have:=y.c.op;rw[<-e,od]at this;cases this
 have la:Op.ae [.ptr H.au 0] Ha=B1 (.ptr X.p 0):=y9 (p9 (fa.ah _ (by omega) pd) Y) 0;have g2:=p9 (P.ah _ (by omega) pd) Y;have l2:Op.ae [.ptr H.au 0] x=B1 (.ptr X.p 0):=y9 g2 0;have n2:=P.au;have ld:EW x (aP o H.au 0) X.B bs H.au:=⟨by omega,od,λ w=>by have:=h.b.low w;omega⟩
 have mk:Op.bH ye 0 [.ptr H.au 0]=B1 (.fn (.func ye) [] [.ptr H.au 0]):=rfl;have Z:pL x:=by
  have a:pL H1:=hS.em f1;have ne:¬On X.p yv:=λ(e:yv=X.p)=>by have:=h.c.op;rw[<-e,oG]at this;cases this
  exact⟨(P.cells a.2 ne).trans a.1,qn a.2 P.au⟩
 have I:=sY (M:=M) l.c.la;have lv:=Lr (M:=M) l (by omega);have id0:=l.node.1;have U:∀K,C3 M B4 (.func TM) [.ptr X.B 0,.int .i64 c.id] x K=K B4 (.int .i64 (CS.node ⟨c,b,[]⟩).code) x:=dA (by
  have:=xko (M:=M) l.b (l.bb (by omega)) l.node.2;rw[MP id0]at this;exact this)
 have fin:∀{m:Nat}{S:CS}{i:ar}{o3:Nat->Nat}{G f:AV}{L:Bs}{A:Nat->Nat}{V3:Int->L8},m<=n+2->dO (X.at x (aP o H.au 0) bs) m S i o3 G f L A V3->Op.ae [.ptr H.au 0] i=B1 (.ptr X.p 0)/\Op.ae [.ptr X.p 22] i=B1 f /\ ∃v j,jS M ye [.ptr H.au 0] (B1 []) i (.ret v) (B1 []) j/\LS X (n+2) S j f:=λ hm q=>by
  have l3:=y9 (p9 (q.lo ld).2 g2) 0;have q':=l.tc q;obtain⟨Hc,j,t1,t2,r,ow,o6,_⟩:=q'.close;obtain⟨v,hv⟩:=xkf (M:=M) l3 t1 t2;exact⟨l3,q'.c.row.ld 22,v,j,hv,_,_,_,_,_,{r with c:=r.c.fr (Fr.refl _) (λ _ _ _ w=>w) (λ _ _=>rfl) (by omega),C:=r.C.mono (by omega)},ow,o6⟩
 simp only[aa,bc,vd,xeo,aw,ca,<-e1,l1,W,en,D,qb,N,qh,s1,la,s2];refine⟨_,_,_,rfl,?_⟩
 -- the deferred call
 have go:∀{v:AV}{i:ar}{S:CS},LS X (n+2) S i v -> ∀{T:ar}{u:AV},jS M ye [.ptr H.au 0] (B1 []) T (.ret u) (B1 []) i -> ∀{E:Env},lk E 4=B1 v->lk E 5=B1 (.int .i64 0)->eH M [.tmp 4,.tmp 5] (uj λ v H'=>∃ov,v=.tuple [ov,.int .i64 0]/\LS X (n+2) S H' ov) .ret E [.fn (.func ye) [.ptr H.au 0]] T:=λ{v i S}hR{T u}hu{E}E4 E5=>by
  refine⟨u,[],i,hu,bR.intro (m:=aI) (a:=B5) rfl ?_⟩;show i9 E i [.tmp 4,.tmp 5] _;simp only[aa,bc,E4,E5];exact⟨v,rfl,hR⟩
 -- the core acts
 have act:zb M W8 [.ptr X.p 0] x λ _ i=>∃f u j,Op.ae [.ptr H.au 0] i=B1 (.ptr X.p 0)/\Op.ae [.ptr X.p 22] i=B1 f/\jS M ye [.ptr H.au 0] (B1 []) i (.ret u) (B1 []) j/\LS X (n+2) (CS.act ⟨c,b,[]⟩) j f:=(QA (M:=M) l.re hk (xw _) Z).mono λ _ i⟨o3,G,f,L,A,V3,q⟩=>by
  obtain⟨l3,g,u,j,hu,hR⟩:=fin (qm _) q;exact⟨f,u,j,l3,g,hu,hR⟩
 cases J:c.la.rC with
 |false =>
  rw[qy (λ w=>by cases w.1)];simp only[aa,bc,aw,l2,l.c.bm,I,J];refine C3.q act λ _ i⟨f,u,j,l3,g,hu,hR⟩=>?_;simp only[aa,bc,vd,aw,l3,g];exact go hR hu rfl rfl
 |true =>
  by_cases F:c.ph=1
  .rw [qy (λ w=>w.2.1 F)];have n1:¬(1:Int)≠1:=λ q=>q rfl;simp only[aa,bc,aw,l2,l.c.bm,I,J,F,n1];refine C3.q act λ _ i⟨f,u,j,l3,g,hu,hR⟩=>?_;simp only[aa,bc,vd,aw,l3,g];exact go hR hu rfl rfl
  cases R:(CS.node ⟨c,b,[]⟩).live with
  |true =>
   rw[qy (λ w=>by cases w.2.2)];simp only[aa,bc,aw,l2,l.c.bm,I,J,F,SX.pv,wF,SC,lv,R];refine C3.q act λ _ i⟨f,u,j,l3,g,hu,hR⟩=>?_;simp only[aa,bc,vd,aw,l3,g];exact go hR hu rfl rfl
  |false =>
   rw[xg ⟨rfl,F,rfl⟩];have ab:∀d,d=CS.ri ⟨c,b,[]⟩->zb M Wc [.ptr X.p 0,.int .i64 d] x λ _ i=>∃f u j,Op.ae [.ptr H.au 0] i=B1 (.ptr X.p 0)/\Op.ae [.ptr X.p 22] i=B1 f/\jS M ye [.ptr H.au 0] (B1 []) i (.ret u) (B1 []) j/\LS X (n+2) (CS.abort ⟨c,b,[]⟩ (CS.ri ⟨c,b,[]⟩)) j f:=λ d e=>(xlh (M:=M) (s:=⟨c,b,[]⟩) l.c (xw _) d).mono λ _ i⟨o3,G,f,h3,a3,f3⟩=>by
    subst e;obtain⟨l3,g,u,j,hu,hR⟩:=fin (by omega) (l.re.Im (t:=CS.abort ⟨c,b,[]⟩ (CS.ri ⟨c,b,[]⟩)) rfl rfl h3 a3 f3 (qm _));exact⟨f,u,j,l3,g,hu,hR⟩
   by_cases O:(CS.node ⟨c,b,[]⟩).code<1
   .simp only[aa,bc,vd,aw,l2,l.c.bm,I,J,F,SX.pv,wF,SC,lv,R,Za,U,O];refine C3.q (ab 5 (by unfold CS.ri;rw[xg (.inl O)])) λ _ i⟨f,u,j,l3,g,hu,hR⟩=>?_;simp only[aa,bc,vd,aw,l3,g];exact go hR hu rfl rfl
   by_cases Q:6<(CS.node ⟨c,b,[]⟩).code
   .simp only[aa,bc,vd,aw,l2,l.c.bm,I,J,F,SX.pv,wF,SC,lv,R,Za,U,O,Q];refine C3.q (ab 5 (by unfold CS.ri;rw[xg (.inr Q)])) λ _ i⟨f,u,j,l3,g,hu,hR⟩=>?_;simp only[aa,bc,vd,aw,l3,g];exact go hR hu rfl rfl
   .simp only[aa,bc,vd,aw,l2,l.c.bm,I,J,F,SX.pv,wF,SC,lv,R,Za,U,O,Q];refine C3.q (ab _ (by unfold CS.ri;rw[qy (λ w=>w.elim O Q)])) λ _ i⟨f,u,j,l3,g,hu,hR⟩=>?_;simp only[aa,bc,vd,aw,l3,g];exact go hR hu rfl rfl
end
end Go.Am
