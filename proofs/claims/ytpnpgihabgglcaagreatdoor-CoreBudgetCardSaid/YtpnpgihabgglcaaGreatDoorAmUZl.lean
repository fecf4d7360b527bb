import Derived.Test.YtpnpgihabgglcaaGreatDoorAmUZk
import Derived.Test.YtpnpgihabgglcaaGreatDoorAmUZf
set_option linter.defProp false
set_option linter.unusedVariables false
set_option linter.unusedSimpArgs false
set_option linter.unusedSectionVars false
set_option maxRecDepth 100000
open Nat renaming reduceEqDiff→bc
namespace Go.Am
open Lang Go.Proofs
variable{M:ak}[MK M]
def xP.wQ{b:Bu}(h:xP b)(i:Nat):xP (b.wQ i):=by
 unfold Bu.wQ;cases hm:b.fl[i]? with
 |none=>exact h
 |some m =>
  have g:=h.f m (x9 hm);have d:pI (b.fl.eraseIdx i):=λ x q=>h.f x (List.mem_of_mem_eraseIdx q);simp only;split
  .cases j:b.l[m.line.toNat]? with
   |none=>exact h
   |some x =>
    cases hw:b.m[m.line.toNat]? with
    |none=>exact h
    |some w =>
     obtain⟨a,c⟩:=De.J1 x (h.m w (x9 hw)) g;exact⟨λ y q=>(Ey q).elim (h.m y) λ e=>e▸a,h.n,d.app c⟩
  .cases hn:b.ns[m.core.toNat]? with
   |none=>exact h
   |some n =>
    obtain⟨a,c⟩:=No.U.bQ (h.n n (x9 hn)) g;exact⟨h.m,λ y q=>(Ey q).elim (h.n y) λ e=>e▸a,d.app c⟩
def xP.step{b:Bu}(h:xP b)(x:Bt)(d:fM x.v):xP (b.step x):=by
 unfold Bu.step;split
 .split
  .exact h.wQ _
  .exact h
 split
 .cases hn:b.ns[x.c.toNat]? with
  |none=>exact h
  |some n =>
   have a:=h.n n (x9 hn);simp only;unfold No.call;split
   .exact h.put _ (No.U.load a _).1 (No.U.load a _).2.2
   split
   .exact h.put _ (No.U.store a _ d).1 (No.U.store a _ d).2
   split
   .exact h.put _ (No.U.lP a _ _ d).1 (No.U.lP a _ _ d).2
   split
   .exact h.put _ (No.U.begin a) .nil
   split
   .exact h.put _ (No.U.bw a) .nil
   split
   .exact h.put _ (No.U.abort a _) .nil
   split
   .exact h.put _ (No.U.cT a _).1 (No.U.cT a _).2
   .exact h.put _ a .nil
 .exact h
def TN{b:Bu}{x:Bt}{n:No}(hk:x.k≠7)(a:0<=x.c)(hn:b.ns[x.c.toNat]? = some n):b.step x=b.put x.c.toNat (n.call x):=by
 unfold Bu.step;rw[qo hk,qr a,hn]
structure SX where
 H:ar
 o:Nat->Nat
 W:Nat->Prop
 p:Nat
 f:Nat
 l:Nat
 sp:Nat
 B:Nat
 cv:AV
 Hb:ar
 k:Nat
abbrev SX.pv(X:SX):AV:=.iface EH (.ptr X.B 0)
structure dB(X:SX)(n:Nat)(s:CS)(H:ar)(o:Nat->Nat)(rv ov:AV)(bs:Bs)(own:Nat->Nat)(V:Int->L8):Prop where
 c:dH H o X.p X.f X.l X.sp X.cv rv ov X.pv s.c s.o (X.k+n)
 b:eV X.Hb H X.B bs s.b own
 I:BuI s.b V
 C:BC s.b (X.k+n)
 U:xP s.b
 nn:s.c.id<s.b.ns.length
 dj:∀z,i4 X.B bs z->o z=0
 hb:∀z,z<H.au->o z≠0->X.Hb.au<=z
 go:∀z,z<H.au->o z≠0->(z<X.H.au/\X.o z≠0)\/X.H.au<=z
 gb:∀z,i4 X.B bs z->X.W z\/X.H.au<=z
 fr:Fr (λ z=>X.o z≠0\/X.W z) X.H H
def lA(X:SX)(n:Nat)(s:CS)(H:ar):Prop:=∃o rv ov bs own V,dB X n s H o rv ov bs own V
section
variable{X:SX}{n n':Nat}{s t:CS}{H H':ar}{o:Nat->Nat}{rv ov:AV}{bs:Bs}{own:Nat->Nat}{V:Int->L8}
def dB.hn(h:dB X n s H o rv ov bs own V):X.Hb.au<=H.au:=by
 have:=h.b.lo X.B (.inl rfl);have:=h.b.lt;omega
def dB.GM(h:dB X n s H o rv ov bs own V){o':Nat->Nat}{rv' ov':AV}(hb:t.b=s.b)(d:t.c.id=s.c.id)(g:dH H' o' X.p X.f X.l X.sp X.cv rv' ov' X.pv t.c t.o (X.k+n'))(a:∀z,z<H.au->o' z=o z)(f:Fr (λ z=>o z≠0) H H')(hn:n<=n'):dB X n' t H' o' rv' ov' bs own V:=by
 have i:=h.hn;have fn:=f.au
 have j:=h.fr.au
 refine⟨g,?_,by rw[hb];exact h.I,by rw[hb];exact h.C.mono (by omega),by rw[hb];exact h.U,by rw[hb,d];exact h.nn,λ z q=>(a z (h.b.low q)).trans (h.dj z q),λ z q e=>?_,λ z q e=>?_,h.gb,h.fr.trans f λ z q=>?_⟩
 .rw [hb];refine h.b.fr (f.mono (W':=λ z=>o z≠0/\z<H.au) λ z w q=>⟨q,w⟩) λ z⟨q,w⟩=>⟨h.hb z w q,λ e=>q (h.dj z e)⟩
 .rcases xq z H.au with w|w
  .rw [a z w]at e;exact h.hb z w e
  .omega
 .rcases xq z H.au with w|w
  .rw [a z w]at e;exact h.go z w e
  .exact .inr (by omega)
 .rcases xq z H.au with w|w
  .exact (h.go z w q).imp (λ e=>.inl e.2) id
  .exact .inr (by omega)
def dB.co(h:dB X n s H o rv ov bs own V)(hb:t.b=s.b)(d:t.c.id=s.c.id)(hp:gN H o X.p X.f X.l X.sp X.cv X.pv t.c t.o (X.k+n') H')(hn:n<=n'):lA X n' t H':=by
 obtain⟨o',rv',ov',e,a,f⟩:=hp;exact⟨o',rv',ov',bs,own,V,h.GM hb d e a f hn⟩
def lA.mono(h:lA X n s H)(hn:n<=n'):lA X n' s H:=by
 obtain⟨o,rv,ov,bs,own,V,q⟩:=h;exact⟨o,rv,ov,bs,own,V,{q with c:=q.c.fr (Fr.refl H) (λ _ _ _ w=>w) (λ _ _=>rfl) (by omega),C:=q.C.mono (by omega)}⟩
def dB.em(h:dB X n s H o rv ov bs own V)(f:Fr Em H H'):∃o',dB X n s H' o' rv ov bs own V/\(∀z,z<H.au->o' z=o z) /\ ∀z,H.au<=z->o' z=0:=by
 have ho:∀z,z<H.au->aR o H.au 0 z=o z:=λ z q=>i6 q
 refine⟨aR o H.au 0,{h with c:=h.c.fr f (λ _ _ _ q=>q) ho (qg _),b:=h.b.em f,dj:=λ z q=>(ho z (h.b.low q)).trans (h.dj z q),hb:=λ z q e=>?_,go:=λ z q e=>?_,fr:=h.fr.em f},ho,λ z q=>mG q⟩
 .rcases xq z H.au with w|w
  .rw [ho z w]at e;exact h.hb z w e
  .rw [mG w]at e;exact(e rfl).elim
 .rcases xq z H.au with w|w
  .rw [ho z w]at e;exact h.go z w e
  .rw [mG w]at e;exact(e rfl).elim
def dB.bu(h:dB X n s H o rv ov bs own V){x:Bt}(p:x.k≠7)(m:fM x.v)(hp:kG X.Hb H X.B bs (s.b.step x) H'):lA X (n+1) {s with b:=s.b.step x} H':=by
 obtain⟨a,d,j,g,f⟩:=hp;have ho:∀z,z<H.au->Go.Am.aR o H.au 0 z=o z:=λ z q=>i6 q
 have l:=h.hn;have fn:=f.au
 have r:=h.fr.au
 have hl:(s.b.step x).ns.length=s.b.ns.length:=by
  unfold Bu.step;rw[qo p];split
  .split
   .rfl
   .show (s.b.ns.set _ _).length=_;rw[xg]
  .rfl
 have i:=CA h.I x;refine⟨Go.Am.aR o H.au 0,rv,ov,a,d,_,h.c.fr f (λ z q e w=>e (h.dj z w)) ho (by omega),j,i,zL h.C x,h.U.step x m,by show s.c.id<((s.b.step x).ns.length:Int);rw[hl];exact h.nn,λ z q=>?_,λ z q e=>?_,λ z q e=>?_,λ z q=>?_,h.fr.trans f λ z q=>?_⟩
 .rcases g z q with w|w
  .exact (ho z (h.b.low w)).trans (h.dj z w)
  .exact mG w
 .rcases xq z H.au with w|w
  .rw [ho z w]at e;exact h.hb z w e
  .rw [mG w]at e;exact(e rfl).elim
 .rcases xq z H.au with w|w
  .rw [ho z w]at e;exact h.go z w e
  .rw [mG w]at e;exact(e rfl).elim
 .rcases g z q with w|w
  .exact h.gb z w
  .exact .inr (by omega)
 .exact (h.gb z q).imp .inr id
def SX.at(X:SX)(H:ar)(o:Nat->Nat)(bs:Bs):SX:={X with H:=H,o:=o,W:=i4 X.B bs}
def dB.re(h:dB X n s H o rv ov bs own V):dB (X.at H o bs) n s H o rv ov bs own V :=
 {h with go:=λ z q e=>.inl ⟨q,e⟩,gb:=λ z q=>.inl q,fr:=Fr.refl H}
def dB.rR(h:dB X n s H o rv ov bs own V){o2:Nat->Nat}{f d:AV}{c:Bs}{b:Nat->Nat}{i:Int->L8}(q:dB (X.at H o bs) n' t H' o2 f d c b i):dB X n' t H' o2 f d c b i:=by
 have g:=h.fr.au
 refine{q with go:=λ z a e=>?_,gb:=λ z a=>?_,fr:=h.fr.trans q.fr λ z a=>?_}
 .rcases q.go z a e with⟨w,r⟩|w
  .exact h.go z w r
  .exact .inr (xu g w)
 .rcases q.gb z a with w|w
  .exact h.gb z w
  .exact .inr (xu g w)
 .rcases a with a|a
  .rcases xq z H.au with w|w
   .exact (h.go z w a).imp (λ r=>.inl r.2) id
   .exact .inr (xu g w)
  .exact (h.gb z a).imp .inr id
def dB.back(h:dB X n s H o rv ov bs own V)(f:lA (X.at H o bs) n' t H'):lA X n' t H':=by
 obtain⟨o2,d,c,b,a,e,q⟩:=f;exact⟨o2,d,c,b,a,e,h.rR q⟩
def zW(H:ar)(o:Nat->Nat)(B:Nat)(bs:Bs)(z:Nat):Prop:=z<H.au/\o z=0 /\ ¬i4 B bs z
def dB.lo{b:ar}{o2:Nat->Nat}{a:Bs}(q:dB (X.at H o bs) n' t b o2 rv ov a own V){z:Nat}(h:zW H o X.B bs z):zW b o2 X.B a z/\b.get z=H.get z:=by
 have fn:=q.fr.au
 refine⟨⟨qj h.1 fn,?_,λ w=>?_⟩,q.fr.ah z h.1 λ w=>w.elim (λ e=>e h.2.1) h.2.2⟩
 .rcases Nat.eq_zero_or_pos (o2 z)with w|w
  .exact w
  .rcases q.go z (qj h.1 fn) (by omega)with⟨_,r⟩|r
   .exact (r h.2.1).elim
   .have:=h.1;exact absurd r (Nat.not_le.2 this)
 .rcases q.gb z w with r|r
  .exact h.2.2 r
  .have:=h.1;exact absurd r (Nat.not_le.2 this)
def dB.pq(h:dB X n s H o rv ov bs own V){d:Nat}(a:zW H o X.B bs d)(g:X.H.au<=d)(hb:X.Hb.au<=d)(e:bH):dB X n s (H.set d e) o rv ov bs own V:=by
 have f:Fr (On d) H (H.set d e):=(Fr.refl H).set (W:=On d) (.inl rfl) _;exact{h with c:=h.c.fr f (λ z _ q(r:z=d)=>q (by rw[r];exact a.2.1)) (λ _ _=>rfl) (qg _),b:=h.b.fr f λ z(r:z=d)=>⟨by omega,by rw[r];exact a.2.2⟩,fr:=h.fr.trans f λ z(r:z=d)=>.inr (by omega)}
def dB.loc(h:dB X n s H o rv ov bs own V)(f:Fr Em H H'):∃o',dB X n s H' o' rv ov bs own V /\ ∀z,(H.au<=z/\z<H'.au->zW H' o' X.B bs z)/\(zW H o X.B bs z->zW H' o' X.B bs z):=by
 obtain⟨o',c,a,b⟩:=h.em f;refine⟨o',c,λ z=>⟨λ q=>⟨q.2,b z q.1,λ w=>by have:=h.b.low w;omega⟩,λ q=>⟨qj q.1 f.au,(a z q.1).trans q.2.1,q.2.2⟩⟩⟩
end
def uV(t:Nat)(v:AV):Op.nilCheck [.iface t v]=some (.iface t v):=rfl
def Lh:M.jN EH "Load" = some Rv:=(MK.mt _ _).trans (by kernel_rfl)
def EV:M.jN EH "Store" = some SD:=(MK.mt _ _).trans (by kernel_rfl)
def NO:M.jN EH "Cas" = some Qt:=(MK.mt _ _).trans (by kernel_rfl)
def xjo:M.jN EH "Begin" = some SG:=(MK.mt _ _).trans (by kernel_rfl)
def XQ:M.jN EH "Commit" = some Qz:=(MK.mt _ _).trans (by kernel_rfl)
def Xg:M.jN EH "Abort" = some Lw:=(MK.mt _ _).trans (by kernel_rfl)
def RO:M.jN EH "Live" = some Ss:=(MK.mt _ _).trans (by kernel_rfl)
def Wq:M.jN EH "Code" = some RN:=(MK.mt _ _).trans (by kernel_rfl)
section
variable{X:SX}{n n':Nat}{s t:CS}{H H':ar}{o:Nat->Nat}{rv ov:AV}{bs:Bs}{own:Nat->Nat}{V:Int->L8}
def dB.node(h:dB X n s H o rv ov bs own V):0<=s.c.id/\s.b.ns[s.c.id.toNat]? = some s.node:=by
 have a:=h.c.w.id;have hn:=h.nn;refine⟨a,?_⟩;have hl:s.c.id.toNat<s.b.ns.length:=by omega
 unfold CS.node;rw[qt hl];rfl
def dB.bb(h:dB X n s H o rv ov bs own V)(hk:X.k+n<=90000):BB s.b:=h.C.bb h.I (by omega)
def dB.MB(h:dB X n s H o rv ov bs own V)(k v:Int)(a w:Int)(hk:k≠7):s.b.step ⟨k,s.c.id,a,v,w⟩=s.b.put s.c.id.toNat (s.node.call ⟨k,s.c.id,a,v,w⟩):=TN hk h.node.1 h.node.2
def Nj(h:dB X n s H o rv ov bs own V)(hk:X.k+n<=90000)(a:Int):za M TL [.ptr X.p 0,.int .i64 a] H λ v H'=>v=.tuple [.int .u64 (s.jV a).1,.bool (s.jV a).2]/\fM (s.jV a).1/\lA X (n+1) (s.ld a) H':=by
 refine qx5 ?_;have hu:fM (s.jV a).1:=(No.U.load (h.U.n s.node (x9 h.node.2)) a).2.1;simp only[aa,bc,qx6,aA,h.c.bq,SX.pv,uV,Lh];refine C3.q (xho (M:=M) h.b (h.bb hk) h.node.1 h.node.2 a) λ v H1⟨g,hp⟩=>?_;subst g;have e:=h.MB 0 0 a 0 (by decide);have st:lA X (n+1) (s.ld a) H1:=h.bu (x:=⟨0,s.c.id,a,0,0⟩) (by show(0:Int)≠7;decide) bF (by rw[e];exact hp);cases q:(s.node.load a).2.2.1 with
 |false =>
  have f:(s.jV a).2=false:=by unfold CS.jV;rw[q];rfl
  have d:(s.jV a).1=(s.node.load a).2.1:=rfl;simp only[aa,bc,aA,f,d];exact⟨hu,st⟩
 |true =>
  have f:(s.jV a).2=decide ((s.node.load a).2.2.2.2=0):=by unfold CS.jV;rw[q];rfl
  have d:(s.jV a).1=(s.node.load a).2.1:=rfl;simp only[aa,bc,aA,f,d];exact⟨hu,st⟩
def NZ(h:dB X n s H o rv ov bs own V)(hk:X.k+n<=90000)(a:Int){v:Int}(f:fM v):za M Zv [.ptr X.p 0,.int .i64 a,.int .u64 v] H λ w H'=>w=.bool (s.uf a v)/\lA X (n+1) (s.st a v) H':=by
 refine qvm ?_;simp only[aa,bc,qvn,aA,h.c.bq,SX.pv,uV,EV];refine C3.q (xfk (M:=M) h.b (h.bb hk) h.node.1 h.node.2 a v) λ w H1⟨hw,hp⟩=>?_;subst hw;have e:=h.MB 1 v a 0 (by decide);have st:lA X (n+1) (s.st a v) H1:=h.bu (x:=⟨1,s.c.id,a,v,0⟩) (by show(1:Int)≠7;decide) f (by rw[e];exact hp);cases q:(s.node.store a v).2.1 with
 |false =>
  have d:s.uf a v=false:=by unfold CS.uf;rw[q];rfl
  simp only[aa,bc,aA,d];exact st
 |true =>
  have d:s.uf a v=decide ((s.node.store a v).2.2.2=0):=by unfold CS.uf;rw[q];rfl
  simp only[aa,bc,aA,d];exact st
def Ic(h:dB X n s H o rv ov bs own V)(hk:X.k+n<=90000)(a w:Int){v:Int}(g:fM v):za M YZ [.ptr X.p 0,.int .i64 a,.int .u64 w,.int .u64 v] H λ r H'=>r=.tuple [.bool (s.xT a w).1,.bool (s.xT a w).2]/\lA X (n+1) (s.cs a w v) H':=by
 refine q19 ?_;simp only[aa,bc,q2a,aA,h.c.bq,SX.pv,uV,NO];refine C3.q (Df (M:=M) h.b (h.bb hk) h.node.1 h.node.2 a w v) λ r H1⟨hr,hp⟩=>?_;subst hr;have e:=h.MB 2 v a w (by decide);have st:lA X (n+1) (s.cs a w v) H1:=h.bu (x:=⟨2,s.c.id,a,v,w⟩) (by show(2:Int)≠7;decide) g (by rw[e];exact hp);have f:(s.xT a w).1=(s.node.jA a w).1:=rfl;cases q:(s.node.jA a w).2.1 with
 |false =>
  have d:(s.xT a w).2=false:=by unfold CS.xT;rw[q];rfl
  simp only[aa,bc,aA,d,f];exact st
 |true =>
  have d:(s.xT a w).2=decide ((s.node.jA a w).2.2=0):=by unfold CS.xT;rw[q];rfl
  simp only[aa,bc,aA,d,f];exact st
def xhx(h:dB X n s H o rv ov bs own V)(hk:X.k+n<=90000):za M SG [.ptr X.B 0,.int .i64 s.c.id] H λ _ H'=>lA X (n+1) (s.kJ 3 0 0 0) H' :=
 (xe9 (M:=M) h.b (h.bb hk) h.node.1 h.node.2).mono λ _ H1⟨_,hp⟩=>h.bu (x:=⟨3,s.c.id,0,0,0⟩) (by show(3:Int)≠7;decide) bF (by rw[h.MB 3 0 0 0 (by decide)];exact hp)
def V9(h:dB X n s H o rv ov bs own V)(hk:X.k+n<=90000):za M Qz [.ptr X.B 0,.int .i64 s.c.id] H λ _ H'=>lA X (n+1) (s.kJ 4 0 0 0) H' :=
 (xbl (M:=M) h.b (h.bb hk) h.node.1 h.node.2).mono λ _ H1⟨_,hp⟩=>h.bu (x:=⟨4,s.c.id,0,0,0⟩) (by show(4:Int)≠7;decide) bF (by rw[h.MB 4 0 0 0 (by decide)];exact hp)
def VX(h:dB X n s H o rv ov bs own V)(hk:X.k+n<=90000)(c:Int):za M Lw [.ptr X.B 0,.int .i64 s.c.id,.int .i64 c] H λ _ H'=>lA X (n+1) (s.kJ 5 c 0 0) H' :=
 (q6t (M:=M) h.b (h.bb hk) h.node.1 h.node.2 c).mono λ _ H1 hp=>h.bu (x:=⟨5,s.c.id,c,0,0⟩) (by show(5:Int)≠7;decide) bF (by rw[h.MB 5 0 c 0 (by decide)];exact hp)
def KX(h:dB X n s H o rv ov bs own V)(hk:X.k+n<=90000):∀K,C3 M true (.func Ss) [.ptr X.B 0,.int .i64 s.c.id] H K=K true (.bool s.node.live) H:=dW (q85 (M:=M) h.b (h.bb hk) h.node.1 h.node.2)
end
end Go.Am
namespace Go.Am
open Lang Go.Proofs
variable{M:ak}[MK M]
section
variable{X:SX}{n n':Nat}{s t:CS}{H H':ar}{o:Nat->Nat}{rv ov:AV}{bs:Bs}{own:Nat->Nat}{V:Int->L8}
def dB.here(h:dB X n s H o rv ov bs own V):lA X n s H:=⟨o,rv,ov,bs,own,V,h⟩
def dB.dT(h:dB X n s H o rv ov bs own V)(hn:n<=n'):lA X n' s H:=h.here.mono hn
def dB.on(h:dB X n s H o rv ov bs own V){d:Co}{rv':AV}(a:d.id=s.c.id)(f:Fr (On X.p) H H')(g:dH H' o X.p X.f X.l X.sp X.cv rv' ov X.pv d s.o (X.k+n)):dB X n {s with c:=d} H' o rv' ov bs own V:=by
 have i:=h.hn;have fn:=f.au
 have j:=h.fr.au
 have hp:=h.c.op;refine{h with c:=g,b:=?_,nn:=by show d.id<_;rw[a];exact h.nn,hb:=λ z q e=>?_,go:=λ z q e=>?_,fr:=h.fr.trans f λ z(q:z=X.p)=>?_}
 .refine h.b.fr (f.mono (W':=λ z=>o z≠0/\z<H.au) λ z w(q:z=X.p)=>⟨by rw[q,hp];decide,w⟩) λ z⟨q,w⟩=>⟨h.hb z w q,λ e=>q (h.dj z e)⟩
 .rcases xq z H.au with w|w
  .exact h.hb z w e
  .omega
 .rcases xq z H.au with w|w
  .exact h.go z w e
  .exact .inr (by omega)
 .rw [q];exact(h.go X.p h.c.row.2 (by rw[hp];decide)).imp (λ e=>.inl e.2) id
def dB.put(h:dB X n s H o rv ov bs own V)(i:Nat){v:AV}(d:Co)(a:av v=true)(e:i<24)(he:(cu s.c X.f X.l X.sp X.cv rv ov X.pv).set i v=cu d X.f X.l X.sp X.cv rv ov X.pv)(hs:d.fi=s.c.fi/\d.la=s.c.la/\d.so=s.c.so/\d.code=s.c.code)(hr:d.aQ=s.c.aQ/\d.id=s.c.id)(hw:It d (X.k+n)) :
 ∃H',Op.store 1 [.ptr X.p i,v] H=some (.undef,H')/\dB X n {s with c:=d} H' o rv ov bs own V:=by
 obtain⟨H1,s1,a,b⟩:=h.c.put i d a e he hs hr.1 hw;exact⟨H1,s1,h.on hr.2 b a⟩
def dB.want(h:dB X n s H o rv ov bs own V)(e:mE)(he:fM e.addr):∃H',Op.store 5 [.ptr X.p 7,.agg (aZ e)] H=some (.undef,H')/\dB X n {s with c:={s.c with want:=e}} H' o rv ov bs own V:=by
 have s1:=h.c.row.gK (k:=7) (n:=5) (v:=.agg (aZ e)) (by rw[zu];rfl) (by simp[cu]) (by rw[zu];rfl);have a:(cu s.c X.f X.l X.sp X.cv rv ov X.pv).take 7++AV.cells (.agg (aZ e))++(cu s.c X.f X.l X.sp X.cv rv ov X.pv).drop (7+5)=cu {s.c with want:=e} X.f X.l X.sp X.cv rv ov X.pv:=by rw[zu];rfl
 rw[a]at s1;obtain⟨b,g⟩:=h.c.cell (d:={s.c with want:=e}) (k':=X.k+n) ⟨rfl,rfl,rfl,rfl⟩ (rv':=rv) ⟨h.c.rd,h.c.pO⟩ ⟨h.c.ou,h.c.pV⟩ h.c.EC {h.c.w with wu:=he};exact⟨_,s1,h.on rfl g b⟩
def dB.forget(h:dB X n s H o rv ov bs own V):∃H',Op.store 1 [.ptr X.p 13,.nils] H=some (.undef,H')/\dB X n {s with c:={s.c with aQ:=[]}} H' o .nils ov bs own V:=by
 have s1:=h.c.row.st 13 (v:=.nils) rfl (by simp[cu]);obtain⟨a,b⟩:=h.c.cell (d:={s.c with aQ:=[]}) (k':=X.k+n) ⟨rfl,rfl,rfl,rfl⟩ (rv':=.nils) ⟨Own.nil ..,λ z q=>(q.1 rfl).elim⟩ ⟨h.c.ou,h.c.pV⟩ h.c.EC {h.c.w with ru:=λ y w=>(List.not_mem_nil w).elim,rl:=xy _,Jw:=λ i x w=>by rw[List.getElem?_nil]at w;cases w};exact⟨_,s1,h.on rfl b a⟩
def jD:[AV.int .i64 0,.int .i64 0,.int .i64 0,.int .u64 0,.int .u64 0]=aZ hO:=rfl
def P5:Op.build (aZ hO) [] []=some (.agg (aZ hO)):=rfl
def IX(k:Int):Op.build (aZ hO) [(0,1)] [.int .i64 k]=some (.agg (aZ ⟨k,0,0,0,0⟩)):=rfl
def q17(s:CS):s.aw.b=s.b:=by unfold CS.aw;simp only;split<;>rfl
def mo(s:CS):s.aw.c.id=s.c.id:=by unfold CS.aw;simp only;split<;>rfl
def NQ(s:CS):s.cz.b=s.b:=q17 s
def Py(s:CS):s.cz.c.id=s.c.id:=mo s
def q9j(h:dB X n s H o rv ov bs own V)(hk:X.k+n<=90000)(hl:s.o.length<=1000):za M UN [.ptr X.p 0] H λ _ H'=>lA X (n+1) s.cJ H':=by
 refine qry ?_;unfold CS.cJ
 by_cases b:s.c.la.lane=0
 .rw [qr b];obtain⟨H1,s1,a⟩:=h.put 20 (v:=.bool true) {s.c with halted:=true} rfl (by decide) rfl ⟨rfl,rfl,rfl,rfl⟩ ⟨rfl,rfl⟩ {h.c.w with};obtain⟨u,s2,e⟩:=a.put 21 (v:=.bool true) {s.c with halted:=true,lM:=true} rfl (by decide) rfl ⟨rfl,rfl,rfl,rfl⟩ ⟨rfl,rfl⟩ {h.c.w with};simp only[aa,bc,Sf,aA,h.c.bq,ik h.c.la,xb b,s1,s2];exact e.dT (by omega)
 rw[qo b]
 by_cases d:s.c.la.lane=3
 .rw [qr d];simp only[aa,bc,Sf,aA,h.c.bq,ik h.c.la,b,xb d,jD,P5];obtain⟨g,fv,hs⟩:=h.c.so;refine C3.q (xg6 (M:=M) hs) λ _ H1 hp=>?_;obtain⟨o1,m,l,i,nH,y,a⟩:=h.co (t:=s.so .CK) rfl rfl (h.c.MI hp) (qg _);obtain⟨u,s2,e⟩:=a.want hO bF;obtain⟨x,r,j⟩:=e.put 6 (v:=.int .i64 6) {(s.so .CK).c with want:=hO,ph:=6} rfl (by decide) rfl ⟨rfl,rfl,rfl,rfl⟩ ⟨rfl,rfl⟩ {e.c.w with};simp only[aa,bc,aA,s2,r];exact j.dT (by omega)
 rw[qo d]
 by_cases f:s.c.la.lane=4
 .rw [qr f];obtain⟨x,r,j⟩:=h.put 6 (v:=.int .i64 10) {s.c with ph:=10} rfl (by decide) rfl ⟨rfl,rfl,rfl,rfl⟩ ⟨rfl,rfl⟩ {h.c.w with};simp only[aa,bc,Sf,aA,h.c.bq,ik h.c.la,b,d,xb f,r];exact j.dT (by omega)
 rw[qo f];simp only[aa,bc,Sf,aA,h.c.bq,ik h.c.la,b,d,f,SX.pv,uV,Xg];refine C3.q (VX (M:=M) h hk 7) λ _ H1⟨o1,m,l,i,nH,y,a⟩=>?_;simp only[aa,bc];refine C3.q (Vy (M:=M) (s:=s.kJ 5 7 0 0) a.c hl) λ _ u hp=>?_;simp only[aa,bc];exact a.co (t:=(s.kJ 5 7 0 0).breaks) rfl rfl hp (qg _)
def CS.Yp(s:CS):CS:={s.tell 1 0 0 0 with c:={s.c with aQ:=[],done:=0,wrote:=false,said:=false}}
def CS.bg1(t:CS):CS :=
 if t.c.la.lane=1 then(t.kJ 3 0 0 0).ph 2
 else if t.c.la.lane=2 then(t.kJ 3 0 0 0).ph 3
 else if t.c.la.lane=3 then let u:=t.so .begin
  {u with c:={u.c with want:=⟨5,0,0,0,0⟩,ph:=6}}
 else t.ph 4
def xhz(s:CS):s.iZ=s.Yp.bg1:=rfl
def DH(h:dB X n s H o rv ov bs own V)(hk:X.k+n<=90000)(hl:s.o.length<=1000):za M Z2 [.ptr X.p 0] H λ _ H'=>lA X (n+1) s.iZ H':=by
 refine qtj ?_;rw[xhz];simp only[aa,bc,Nz];refine C3.q (D9 (M:=M) h.c hl 1 0 0 0) λ _ H1 hp=>?_;obtain⟨o1,Q,C,B,nH,N,O⟩:=h.co (t:=s.tell 1 0 0 0) rfl rfl hp (qg _);obtain⟨R,s2,F⟩:=O.forget;obtain⟨S,x,G⟩:=F.put 14 (v:=.int .i64 0) {s.c with aQ:=[],done:=0} rfl (by decide) rfl ⟨rfl,rfl,rfl,rfl⟩ ⟨rfl,rfl⟩ {F.c.w with d0:=ya _};obtain⟨T,y,I⟩:=G.put 15 (v:=.bool false) {s.c with aQ:=[],done:=0,wrote:=false} rfl (by decide) rfl ⟨rfl,rfl,rfl,rfl⟩ ⟨rfl,rfl⟩ {G.c.w with};obtain⟨L,z,a⟩:=I.put 17 (v:=.bool false) {s.c with aQ:=[],done:=0,wrote:=false,said:=false} rfl (by decide) rfl ⟨rfl,rfl,rfl,rfl⟩ ⟨rfl,rfl⟩ {I.c.w with};obtain⟨t,J⟩:∃t:CS,t=s.Yp:=⟨_,rfl⟩
 have a:dB X n t L o1 .nils C B nH N:=J▸a;rw[<-J];unfold CS.bg1;simp only;have ln:=ik (M:=M) a.c.la
 by_cases i:t.c.la.lane=1
 .rw [qr i];simp only[aa,bc,Nz,aA,s2,x,y,z,a.c.bq,ln,xb i,SX.pv,uV,xjo];refine C3.q (xhx (M:=M) a hk) λ _ D⟨K,r,l,j,d,E,e⟩=>?_;obtain⟨A,f,b⟩:=e.put 6 (v:=.int .i64 2) {(t.kJ 3 0 0 0).c with ph:=2} rfl (by decide) rfl ⟨rfl,rfl,rfl,rfl⟩ ⟨rfl,rfl⟩ {e.c.w with};simp only[aa,bc,aA,f];exact b.here
 rw[qo i]
 by_cases m:t.c.la.lane=2
 .rw [qr m];simp only[aa,bc,Nz,aA,s2,x,y,z,a.c.bq,ln,i,xb m,SX.pv,uV,xjo];refine C3.q (xhx (M:=M) a hk) λ _ D⟨K,r,l,j,d,E,e⟩=>?_;obtain⟨A,f,b⟩:=e.put 6 (v:=.int .i64 3) {(t.kJ 3 0 0 0).c with ph:=3} rfl (by decide) rfl ⟨rfl,rfl,rfl,rfl⟩ ⟨rfl,rfl⟩ {e.c.w with};simp only[aa,bc,aA,f];exact b.here
 rw[qo m]
 by_cases u:t.c.la.lane=3
 .rw [qr u];simp only[aa,bc,Nz,aA,s2,x,y,z,a.c.bq,ln,i,m,xb u,jD,IX];obtain⟨g,fv,hs⟩:=a.c.so;refine C3.q (Kv (M:=M) hs) λ _ D hp=>?_;obtain⟨K,r,l,j,d,E,e⟩:=a.co (t:=t.so .begin) rfl rfl (a.c.MI hp) (qg _);obtain⟨A,f,b⟩:=e.want ⟨5,0,0,0,0⟩ bF;obtain⟨U,s8,P⟩:=b.put 6 (v:=.int .i64 6) {(t.so .begin).c with want:=⟨5,0,0,0,0⟩,ph:=6} rfl (by decide) rfl ⟨rfl,rfl,rfl,rfl⟩ ⟨rfl,rfl⟩ {b.c.w with};simp only[aa,bc,aA,f,s8];exact P.dT (by omega)
 rw[qo u];obtain⟨A,f,b⟩:=a.put 6 (v:=.int .i64 4) {t.c with ph:=4} rfl (by decide) rfl ⟨rfl,rfl,rfl,rfl⟩ ⟨rfl,rfl⟩ {a.c.w with};simp only[aa,bc,Nz,aA,s2,x,y,z,a.c.bq,ln,i,m,u,f];exact b.dT (by omega)
def FD(h:dB X n s H o rv ov bs own V)(hk:X.k+n<=90000)(hl:s.o.length<=1000):za M ZS [.ptr X.p 0] H λ _ H'=>lA X (n+1) s.nE H':=by
 refine qvk ?_;unfold CS.nE;simp only;simp only[aa,bc,qvl,aA,h.c.bq];refine C3.q (Ic (M:=M) h hk 0 s.c.seq (Ek _)) λ r H1⟨hr,o1,x,m,i,nH,C,a⟩=>?_;subst hr;cases F:(s.xT 0 s.c.seq).2 with
 |false =>
  rw[qr rfl];simp only[aa,bc,aA];exact a.here
 |true =>
  rw[qo (by decide)];cases E:(s.xT 0 s.c.seq).1 with
  |true =>
   rw[qr rfl];simp only[aa,bc,aA];refine C3.q (D9 (M:=M) (s:=s.cs 0 s.c.seq (aj .u64 (s.c.seq+1))) a.c hl 4 0 0 0) λ _ A hp=>?_;obtain⟨o2,y,u,j,f,D,e⟩:=a.co (t:=(s.cs 0 s.c.seq (aj .u64 (s.c.seq+1))).tell 4 0 0 0) rfl rfl hp (qg _);obtain⟨g,d,b⟩:=e.put 6 (v:=.int .i64 0) {s.c with ph:=0} rfl (by decide) rfl ⟨rfl,rfl,rfl,rfl⟩ ⟨rfl,rfl⟩ {e.c.w with};obtain⟨B,z,l⟩:=b.put 16 (v:=.bool true) {s.c with ph:=0,held:=true} rfl (by decide) rfl ⟨rfl,rfl,rfl,rfl⟩ ⟨rfl,rfl⟩ {b.c.w with};simp only[aa,bc,aA,d,z];exact l.here
  |false =>
   rw[qo (by decide)];obtain⟨g,d,b⟩:=a.put 6 (v:=.int .i64 4) {s.c with ph:=4} rfl (by decide) rfl ⟨rfl,rfl,rfl,rfl⟩ ⟨rfl,rfl⟩ {a.c.w with};simp only[aa,bc,aA,d];exact b.here
def JJ(h:dB X n s H o rv ov bs own V)(hk:X.k+n<=90000)(hl:s.o.length<=1000):za M qnw [.ptr X.p 0] H λ _ H'=>lA X (n+1) s.ends H':=by
 refine qx0 ?_;unfold CS.ends;have ln:=ik (M:=M) h.c.la
 by_cases a:s.c.la.lane=3
 .rw [qr a];simp only[aa,bc,OU,aA,h.c.bq,ln,xb a,jD,IX];obtain⟨g,fv,hs⟩:=h.c.so;refine C3.q (xa7 (M:=M) hs) λ _ I hp=>?_;obtain⟨N,F,E,B,u,L,C⟩:=h.co (t:=s.so .bw) rfl rfl (h.c.MI hp) (qg _);obtain⟨J,G,r⟩:=C.want ⟨6,0,0,0,0⟩ bF;obtain⟨K,s8,D⟩:=r.put 6 (v:=.int .i64 6) {(s.so .bw).c with want:=⟨6,0,0,0,0⟩,ph:=6} rfl (by decide) rfl ⟨rfl,rfl,rfl,rfl⟩ ⟨rfl,rfl⟩ {r.c.w with};simp only[aa,bc,aA,G,s8];exact D.dT (by omega)
 rw[qo a]
 by_cases b:s.c.la.lane=4
 .rw [qr b];obtain⟨z,m,i⟩:=h.put 6 (v:=.int .i64 9) {s.c with ph:=9} rfl (by decide) rfl ⟨rfl,rfl,rfl,rfl⟩ ⟨rfl,rfl⟩ {h.c.w with};simp only[aa,bc,OU,aA,h.c.bq,ln,a,xb b,m];exact i.dT (by omega)
 rw[qo b]
 by_cases e:s.c.la.lane=2
 .cases x:s.c.wrote with
  |true =>
   rw[qr ⟨e,rfl⟩];obtain⟨z,m,i⟩:=h.put 6 (v:=.int .i64 7) {s.c with ph:=7} rfl (by decide) rfl ⟨rfl,rfl,rfl,rfl⟩ ⟨rfl,rfl⟩ {h.c.w with};simp only[aa,bc,OU,aA,h.c.bq,ln,a,b,xb e,x,m];exact i.dT (by omega)
  |false =>
   rw[qo (λ w=>by cases w.2)];simp only[aa,bc,OU,aA,h.c.bq,ln,a,b,xb e,x,SX.pv,uV,XQ];refine C3.q (V9 (M:=M) h hk) λ _ H1⟨o1,l,j,f,nH,A,d⟩=>?_;simp only[aa,bc];refine C3.q (N5 (M:=M) (s:=s.kJ 4 0 0 0) d.c hl) λ _ y hp=>?_;simp only[aa,bc];exact d.co (t:=(s.kJ 4 0 0 0).cz) (NQ _) (Py _) hp (qg _)
 .rw [qo (λ w=>e w.1)];simp only[aa,bc,OU,aA,h.c.bq,ln,a,b,e,SX.pv,uV,XQ];refine C3.q (V9 (M:=M) h hk) λ _ H1⟨o1,l,j,f,nH,A,d⟩=>?_;simp only[aa,bc];refine C3.q (N5 (M:=M) (s:=s.kJ 4 0 0 0) d.c hl) λ _ y hp=>?_;simp only[aa,bc];exact d.co (t:=(s.kJ 4 0 0 0).cz) (NQ _) (Py _) hp (qg _)
end
end Go.Am
namespace Go.Am
open Lang Go.Proofs
variable{M:ak}[MK M]
def ib(ps:List Pr)(a:Int):List (List AV):=match hJ ps a with
 |some i=>[[.int .i64 (i:Int),.int .u64 (ps.getD i ⟨0,0⟩).v]]
 |none=>[]
def kC(ps:List Pr)(a:Int)(i:Nat):Nat:=match hJ ps a with
 |some j=>if j<i then 1 else 0
 |none=>0
def Gg(b:List Pr)(a:Int):kC b a 0=0:=by unfold kC;split<;>simp
def xjf(b:List Pr)(a:Int):kC b a b.length=(ib b a).length:=by
 unfold kC ib;cases h:hJ b a with
 |none=>rfl
 |some j=>simp only;rw[qr (oY h).1];rfl
def Be{c:List Pr}{a:Int}{i:Nat}{x:Pr}(f:c[i]? = some x)(h:x.a≠a):kC c a (i+1)=kC c a i:=by
 unfold kC;cases q:hJ c a with
 |none=>rfl
 |some j =>
  have:j≠i:=λ e=>by
   obtain⟨-,y,b,d⟩:=oY q;rw[e,f]at b;injection b with b;rw[b]at h;exact h d
  simp only
  by_cases w:j<i
  .rw [qr w,qr (by omega)]
  .rw [qo w,qo (by omega)]
def AY{b:List Pr}(d:sC b){i:Nat}{x:Pr}(c:b[i]? = some x):kC b x.a (i+1)=kC b x.a i+1/\(ib b x.a)[kC b x.a i]? = some [.int .i64 (i:Int),.int .u64 x.v]:=by
 have q:=d i x c;unfold kC ib;rw[q];simp only;rw[qr (by omega),qo (by omega),zy,c];exact⟨rfl,rfl⟩
def Zu{H0:ar}{k l p:Nat}{a:Int}{rv:AV}{c:List Pr}(g1:H0.get k=some (OR [.ptr p 0] vx))(g2:H0.get l=some (OR [.int .i64 a] cK))(l1:k<H0.au)(l2:l<H0.au)(hd:sC c)(hl:c.length<=1000000) :
 sV M LC [] [.ptr k 0,.ptr l 0] (λ z=>z=k\/z=l) (λ _=>False) (λ H=>Op.ae [.ptr p 13] H=some rv/\dU cw 2 H rv c) H0 (ib c a):=by
 intro Y R S m H1 hnx W B K loc Z hI step;obtain⟨p1,p2,p3⟩:=W k (.inl (.inl rfl));obtain⟨q1,P,Q⟩:=W l (.inl (.inr rfl))
 suffices h:za M LC [.fn (.yield Y) [] [],.ptr k 0,.ptr l 0] H1 (MX R S m (λ _=>False) H1 (ib c a).length)by
  obtain⟨v,H',hc,W',q1,P,Q⟩:=h.elim;exact⟨v,H',W',hc,q1,P,Q⟩
 refine qtn ?_;have lp:Op.ae [.ptr k 0] H1=some (.ptr p 0):=by rw[xz (qy (by rw[p2];exact g1))];rfl
 have lq:∀{d:ar},Fr m H1 d->Op.ae [.ptr l 0] d=some (.int .i64 a):=λ f=>by rw[xz (qy (by rw[f.ah _ (by omega) Q,P];exact g2))];rfl
 obtain⟨lr,s0⟩:=hI 0 m H1 B;simp only[aa,bc,Nb,lp,aA,lr,s0.len];refine de.intro (λ n E d=>∃(i:Nat)(V:Nat->Prop),E=[(11,.int .i64 (i:Int)),(10,.int .i64 ((c.length:Nat):Int)),(9,rv),(0,.fn (.yield Y) [] []),(1,.ptr k 0),(2,.ptr l 0)]/\n=c.length-i/\i<=c.length/\Mq R m H1 d (kC c a i) V) ?_ ?_
 .exact ⟨_,_,⟨0,m,rfl,rfl,xy _,⟨by rw[Gg];exact B,λ b hb=>⟨K b hb,.inl hb⟩,Fr.refl _⟩⟩,by simp only[aa,bc]⟩
 rintro n E d ⟨i,V,rfl,rfl,hi,g⟩;rcases xq i c.length with N|hge
 .have F:(i:Int)<((c.length:Nat):Int):=by omega
  obtain⟨e,he⟩:∃e,c[i]? = some e:=⟨c[i],by simp[N]⟩
  obtain⟨-,sl⟩:=hI _ V d g.hR;have ix:Op.aO 2 [rv,.int .i64 (i:Int)]=some (LD rv i):=sl.idx he rfl .i64;have ld:Op.aq 2 [LD rv i] d=some (.agg (cw e)):=sl.aq C2 (by decide) he;have bx:=QW (H1:=d) e;obtain⟨u,I⟩:∃X,X=(d.alloc (OR [.int .i64 0,.int .u64 0] vz)).set d.au (OR (cw e) vz):=⟨_,rfl⟩
  rw[<-I]at bx;have J:Fr Em d u:=by rw[I];exact wO _ _
  have A:u.get d.au=some (OR (cw e) vz):=by rw[I,xc]
  have wF:Op.ae [.ptr d.au 0] u=some (.int .i64 e.a):=xz (qy A) 0;have O:Op.ae [.ptr d.au 1] u=some (.int .u64 e.v):=xz (qy A) 1;have n2:=J.au
  have j:=g.fr.em J;have wj:aj .i64 ((i:Int)+1)=((i+1:Nat):Int):=by rw[js (by omega) (by omega)];omega
  have U:=loc _ _ _ _ g.hR (λ y r=>J.ah y (g.hV y r).1 id) n2
  by_cases q:e.a=a
  .subst q;obtain⟨k1,k2⟩:=AY hd he;obtain⟨bb,T,G,hr,hf,D,ht,hs⟩:=step _ _ k2 V u U (λ y r=>⟨by have:=(g.hV y r).1;omega,(g.hV y r).2⟩) (j.mono λ _ _ q=>.inl q);have x:Fr m H1 T:=j.trans hf λ y q=>(g.hV y q).2;have C:∀y,G y->y<T.au/\(m y\/H1.au<=y):=λ y q=>⟨(D y q).1,(D y q).2.elim (λ w=>(g.hV y w).2) λ w=>.inr (by have:=g.fr.au;omega)⟩
   simp only[aa,bc,Nb,F,ix,ld,bx,wF,O,lq j];refine C3.xV hr ?_;cases bb with
   |true =>
    simp only[aa,bc,Nb,wj];exact⟨_,_,⟨i+1,G,rfl,rfl,by omega,⟨by rw[k1];exact ht rfl,C,x⟩⟩,by simp only[aa,bc],by omega⟩
   |false =>
    simp only[aa,bc];exact⟨G,x.mono λ _ _ q=>.inl q,C,.inr (hs rfl)⟩
  .simp only[aa,bc,Nb,F,ix,ld,bx,wF,lq j,q,wj];exact⟨_,_,⟨i+1,V,rfl,rfl,by omega,⟨by rw[Be he q];exact U,λ y r=>⟨by have:=(g.hV y r).1;omega,(g.hV y r).2⟩,j⟩⟩,by simp only[aa,bc],by omega⟩
 .have F:¬(i:Int)<((c.length:Nat):Int):=by omega
  have L:i=c.length:=by omega
  simp only[aa,bc,Nb,F];exact⟨V,g.fr.mono λ _ _ q=>.inl q,g.hV,.inl (by rw[<-xjf,<-L];exact g.hR)⟩
end Go.Am
namespace Go.Am
open Lang Go.Proofs
variable{M:ak}[MK M]
def q98{H:ar}(p:Nat)(a:Int):za M qnx [.ptr p 0,.int .i64 a] H λ v H'=>v=.fn (.func LC) [] [.ptr H.au 0,.ptr (H.alloc (OR [.ptr p 0] vx)).au 0]/\H'=(H.alloc (OR [.ptr p 0] vx)).alloc (OR [.int .i64 a] cK):=by
 refine qx3 ?_;have mk:∀b e,Op.bD LC 0 [.ptr b 0,.ptr e 0]=some (.fn (.func LC) [] [.ptr b 0,.ptr e 0]):=λ _ _=>rfl;simp only[aa,bc,qx4];rfl
section
variable{X:SX}{n n':Nat}{s t:CS}{H H':ar}{o:Nat->Nat}{rv ov:AV}{bs:Bs}{own:Nat->Nat}{V:Int->L8}
def pC{a:ar}{z t:Nat}{c:List AV}(h:a.get z=H.get z)(g:H.get z=some (OR c t)):a.get z=some (OR c t):=h.trans g
def vd{z t:Nat}{c:List AV}(g:H.get z=some (OR c t))(k:Nat):Op.ae [.ptr z k] H=c[k]?:=xz (qy g) k
def C5{z t:Nat}{e:mE}(g:H.get z=some (OR (aZ e) t)):Op.aq 5 [.ptr z 0] H=some (.agg (aZ e)):=rq (qy g) (by simp[aZ])
def K4(X:SX)(n:Nat)(t:CS)(Hx:ar)(ox:Nat->Nat)(bsx:Bs)(Z:ar):Prop:=lA X (n+1) t Z /\ ∀d,zW Hx ox X.B bsx d->X.H.au<=d->X.Hb.au<=d->Z.get d=Hx.get d/\lA X (n+1) t (Z.set d (.deferred none))
def J9(H4:ar)(o4:Nat->Nat)(p f l sp:Nat)(cv rv pv:AV)(c:Co)(os:List iq)(k:Nat)(W:Nat->Prop)(Hx:ar):Prop:=∃ox ovx,dH Hx ox p f l sp cv rv ovx pv c os k/\(∀z,z<H4.au->ox z=o4 z)/\(∀z,z<Hx.au->ox z≠0->W z)/\H4.au<=Hx.au
def J9.loc{e a Hb:ar}{g:Nat->Nat}{p f l sp k:Nat}{cv rv pv:AV}{c:Co}{os:List iq}{W:Nat->Prop}(h:J9 e g p f l sp cv rv pv c os k W a)(hs:∀z,W z->Hb.get z=a.get z)(hn:a.au<=Hb.au):J9 e g p f l sp cv rv pv c os k W Hb:=by
 obtain⟨m,b,u,v,i,j⟩:=h;refine⟨aR m a.au 0,b,u.fr (W:=λ z=>¬W z) ⟨hn,λ z w q=>hs z (GA.1 q)⟩ (λ z w q r=>r (i z w q)) (λ z q=>i6 q) (qg _),λ z w=>?_,λ z w q=>?_,xu j hn⟩
 .rw [i6 (qj w j)];exact v z w
 .rcases xq z a.au with r|r
  .rw [i6 r]at q;exact i z r q
  .rw [mG r]at q;exact(q rfl).elim
def u2(h:dB X n s H o rv ov bs own V)(hk:X.k+n<=90000)(hl:s.o.length<=1000)(e:mE)(hu:fM e.addr)(a:Int):za M Oz [.ptr X.p 0,.agg (aZ e),.int .i64 a] H λ _ H'=>lA X (n+1) (s.kY e a) H':=by
 refine qvj ?_;obtain⟨H1,e1,f1,n1,-⟩:=bX H (OR [.ptr X.p 0] vx);obtain⟨H2,e2,f12,-,g2⟩:=bX H1 (OR (aZ e) jg);have n2:H2.au=H.au+2:=by rw[e2,xx,n1]
 have g1:H2.get H.au=some (OR [.ptr X.p 0] vx):=by rw[f12.ah _ (by omega) id,e1,xf]
 obtain⟨o2,L,lo⟩:=h.loc (f1.em f12);have D:=(lo H.au).1 ⟨qg _,by omega⟩;have N:=(lo H1.au).1 ⟨by omega,by omega⟩;have hr:=L.re;have ln:=ik (M:=M) L.c.la;have l1:=vd g1 0;have l2:=C5 g2;unfold CS.kY
 by_cases T:s.c.la.lane=3
 .rw [qr T];simp only;simp only[aa,bc,I6,aA,<-e1,<-e2,l1,L.c.bq,ln,xb T];obtain⟨g,fv,hs⟩:=L.c.so;refine C3.q (xg3 (M:=M) hs a) λ _ O hp=>?_;obtain⟨o3,rv3,ov3,bs3,own3,V3,h3⟩:=hr.co (t:=s.so (·.load a)) rfl rfl (L.c.MI hp) (qg _);obtain⟨lo1',r1⟩:=h3.lo D;obtain⟨lo2',r2⟩:=h3.lo N;have c3:dH O o3 X.p X.f X.l X.sp X.cv rv3 ov3 X.pv (s.so (·.load a)).c s.o (X.k+n):=h3.c;obtain⟨g3,fv3,Q⟩:=c3.so;have m1:=vd (pC r1 g1) 0;have m2:=C5 (pC r2 g2);cases b:(s.so (·.load a)).c.so.busy with
  |true =>
   rw[qr rfl];obtain⟨J,s4,A⟩:=h3.want e hu;have s4:Op.store 5 [.ptr X.p 7,.agg (aZ e)] O=some (.undef,J):=s4;obtain⟨_,r4⟩:=A.lo D;have m4:=vd (pC r4 g1) 0;obtain⟨H5,s5,h5⟩:=A.put 6 (v:=.int .i64 6) {(s.so (·.load a)).c with want:=e,ph:=6} rfl (by decide) rfl ⟨rfl,rfl,rfl,rfl⟩ ⟨rfl,rfl⟩ {A.c.w with};have s5:Op.store 1 [.ptr X.p 6,.int .i64 6] J=some (.undef,H5):=s5;simp only[aa,bc,I6,aA,m1,c3.bq,hC Q,b,m2,s4,m4,s5];exact L.back (h5.dT (by omega))
  |false =>
   rw[qo (by decide)];simp only[aa,bc,I6,aA,m1,c3.bq,hC Q,b,m2,Dp Q];refine C3.q (RI (M:=M) (s:=s.so (·.load a)) c3 hl e hu Q.vu) λ _ J hp=>?_;simp only[aa,bc];exact L.back ((h3.co (t:=(s.so (·.load a)).d9 e (s.so (·.load a)).c.so.value) rfl rfl hp (qg _)).mono (by omega))
 rw[qo T];have tail:∀{G:ar}{C:Nat->Nat}{x u:AV}{I:Bs}{ownx:Nat->Nat}{Vx:Int->L8},dB (X.at H2 o2 bs) n s G C x u I ownx Vx->Op.ae [.ptr H.au 0] G=some (.ptr X.p 0)/\za M TL [.ptr X.p 0,.int .i64 a] G λ v J=>v=.tuple [.int .u64 (s.jV a).1,.bool (s.jV a).2]/\Op.ae [.ptr H.au 0] J=some (.ptr X.p 0)/\Op.aq 5 [.ptr H1.au 0] J=some (.agg (aZ e))/\K4 X n (s.ld a) G C I J/\za M US [.ptr X.p 0,.agg (aZ e),.int .u64 (s.jV a).1] J λ _ H5=>K4 X n ((s.ld a).d9 e (s.jV a).1) G C I H5:=λ{G C x u I ownx Vx}Y=>by
  have fin:∀{t:CS}{Z:ar}{oz:Nat->Nat}{rvz ovz:AV}{bsz:Bs}{ownz:Nat->Nat}{Vz:Int->L8},dB ((X.at H2 o2 bs).at G C I) (n+1) t Z oz rvz ovz bsz ownz Vz->K4 X n t G C I Z:=λ hz =>
   ⟨L.back (Y.back hz.here),λ d hd h1 h2'=>⟨(hz.lo hd).2,((L.rR (Y.rR hz)).pq (hz.lo hd).1 h1 h2' _).here⟩⟩
  refine⟨vd (pC (Y.lo D).2 g1) 0,(Nj (M:=M) Y.re hk a).mono λ v J⟨U,hu2,o4,rv4,ov4,bs4,own4,V4,A⟩=>?_⟩;have r1:=(Y.lo D).1;have r2:=(Y.lo N).1;refine⟨U,vd (pC ((A.lo r1).2.trans (Y.lo D).2) g1) 0,C5 (pC ((A.lo r2).2.trans (Y.lo N).2) g2),fin A,?_⟩;refine(RI (M:=M) (s:=s.ld a) A.c hl e hu hu2).mono λ _ H5⟨o5,rv5,ov5,c5,a5,f5⟩=>?_;exact fin (A.GM (t:=(s.ld a).d9 e (s.jV a).1) rfl rfl c5 a5 f5 (qg _))
 by_cases q4:s.c.la.lane=4
 .rw [qr q4];simp only[aa,bc,I6,aA,<-e1,<-e2,l1,L.c.bq,ln,T,xb q4];refine C3.q (q98 (M:=M) X.p a) λ v m⟨U,hh⟩=>?_;obtain⟨O,e3,f23,-,-⟩:=bX H2 (OR [.ptr X.p 0] vx);obtain⟨J,e4⟩:∃Z,Z=O.alloc (OR [.int .i64 a] cK):=⟨_,rfl⟩
  rw[<-e3]at U hh;rw[<-e4]at hh;subst U;subst hh;have f34:Fr Em O m:=e4▸(Fr.refl O).alloc _;have n3:O.au=H.au+3:=by rw[e3,xx,n2]
  have n4:m.au=H.au+4:=by rw[e4,xx,n3]
  have g3:m.get H2.au=some (OR [.ptr X.p 0] vx):=by rw[f34.ah _ (by omega) id,e3,xf]
  have g4:m.get O.au=some (OR [.int .i64 a] cK):=by rw[e4,xf]
  obtain⟨o4,A,R⟩:=hr.loc (f23.em f34);have k1:=(R H.au).2 D;have k2:=(R H1.au).2 N;have k3:=(R H2.au).1 ⟨qg _,by omega⟩;have k4:=(R O.au).1 ⟨by omega,by omega⟩;have r1:=(A.lo D).2;have r2:=(A.lo N).2;have c4:dH m o4 X.p X.f X.l X.sp X.cv rv ov X.pv s.c s.o (X.k+n):=A.c;have rl:=c4.w.rl;have kL:∀i,hJ s.c.aQ a=some i->(ib s.c.aQ a)=[[.int .i64 (i:Int),.int .u64 (s.c.aQ.getD i ⟨0,0⟩).v]]:=λ i q=>by unfold ib;rw[q]
  simp only[aa,bc];refine jB.tE (fn:=Q8) (lp:=M0) (pa:=Uq 0) (pb:=XU 0) qtp gX.1 gX.2 (by decide) qrz qr0
   (Zu (M:=M) (rv:=rv) g3 g4 (by omega) (by omega) c4.w.Jw (by omega)) (λ i W G=>i=0/\J9 m o4 X.p X.f X.l X.sp X.cv rv X.pv s.c s.o (X.k+n) W G)
   (λ ex W G=>ex=.ret /\ ∃i,hJ s.c.aQ a=some i /\ ∃x,J9 m o4 X.p X.f X.l X.sp X.cv x X.pv (s.d9 e (s.c.aQ.getD i ⟨0,0⟩).v).c (s.d9 e (s.c.aQ.getD i ⟨0,0⟩).v).o (X.k+n) W G)
   (λ z=>o4 z≠0/\z<m.au) (qg _) ?_ ?_ ?_ ?_ ?_ ?_ ?_ ?_ ?_
  .rintro z ((q|q)|q)
   .exact ⟨by omega,rfl,λ w=>w.1 (by rw[q];exact k3.2.1)⟩
   .exact ⟨by omega,rfl,λ w=>w.1 (by rw[q];exact k4.2.1)⟩
   .exact q.elim
  .exact λ z hz=>hz.2
  .exact ⟨rfl,o4,ov,c4,λ _ _=>rfl,λ z w q=>⟨q,w⟩,qg _⟩
  .exact λ i W Ha Hb⟨S,F⟩hs hn=>⟨S,F.loc hs hn⟩
  .exact λ i W Ha Hb⟨S,i,F,x,T⟩hs hn=>⟨S,i,F,x,T.loc hs hn⟩
  .exact λ i W G⟨S,C,u,F,_⟩=>⟨F.row.ld 13,a9.sl F.rd⟩
  .intro E i lr lb y hy hL2 W K ⟨hi,C,u,c6,a6,w6,le6⟩ hb hf6 hnL hL6 hgL;subst hi;obtain⟨j,hj⟩:∃j,hJ s.c.aQ a=some j:=by
    cases q:hJ s.c.aQ a with
    |some j=>exact⟨j,rfl⟩
    |none=>unfold ib at hy;rw[q]at hy;cases hy
   rw[kL j hj]at hy;injection hy with hy;subst hy
   obtain⟨vv,hvv⟩:∃vv,vv=(s.c.aQ.getD j ⟨0,0⟩).v:=⟨_,rfl⟩
   have hvu:fM vv:=by
    obtain⟨S,y,F,-⟩:=oY hj;rw[hvv,zy,F];exact h.c.w.ru y (x9 F)
   rw[<-hvv];refine⟨_,rfl,?_⟩;have w:=I6 M ⟨some E,Oz⟩;simp only[aa,bc,w,Fx];refine⟨hgL,?_⟩;have fx:Fr (On E) K (K.set E lb):=(Fr.refl K).set (W:=On E) (.inl rfl) _;have gL:(K.set E lb).get E=some lb:=xc ..;have nL:(K.set E lb).au=K.au:=rfl
   have oL:C E=0:=zd λ q=>hnL (w6 E hL6 q);have c7:dH (K.set E lb) C X.p X.f X.l X.sp X.cv rv u X.pv s.c s.o (X.k+n):=c6.fr fx (λ z _ q(r:z=E)=>q (by rw[r];exact oL)) (λ _ _=>rfl) (qg _);have gk:∀z c t,z<m.au->o4 z=0->m.get z=some (OR c t)->(K.set E lb).get z=some (OR c t):=λ z c t S F T=>by
    rw[yk (by omega),hf6.ah z S (λ r=>r.elim (λ r=>r.1 F) id)];exact T
   have m1:=vd (gk H.au _ _ (by omega) k1.2.1 (pC r1 g1)) 0;have m2:=C5 (gk H1.au _ _ (by omega) k2.2.1 (pC r2 g2));generalize K.set E lb=H7 at *;simp only[aa,bc,m1,m2];refine C3.q (RI (M:=M) c7 hl e hu hvu) λ _ H8⟨o8,rv8,ov8,c8,a8,f8⟩=>?_;simp only[aa,bc];have n8:=f8.au
   refine⟨rfl,by rw[f8.ah E (by omega) (λ q=>q oL)];exact gL,λ z=>z<H8.au/\(W z\/K.au<=z),λ z q=>q,?_,.inr ⟨trivial,rfl,j,hj,rv8,o8,ov8,by rw[<-hvv];exact c8,λ z q=>(a8 z (by omega)).trans (a6 z q),λ z S F=>⟨S,?_⟩,by omega⟩⟩
   .refine (fx.mono λ z _ q=>.inr q).trans f8 λ z q=>?_;rcases xq z K.au with r|r
    .exact .inl (.inl (w6 z r q))
    .exact .inr r
   .rcases xq z K.au with r|r
    .rw [a8 z (by omega)]at F;exact .inl (w6 z r F)
    .exact .inr r
  .rintro d W H' hd P hg hf hW ⟨hi,C,u,c6,a6,w6,le6⟩;have hz:hJ s.c.aQ a=none:=by
    cases q:hJ s.c.aQ a with
    |none=>rfl
    |some j=>rw[kL j q]at hi;cases hi
   have hlk:da s.c.aQ a=none:=by rw[IK,hz];rfl
   rw[hlk];simp only;have od:C d=0:=zd λ q=>(hW d (w6 d P q)).2.2 rfl;have h9:=A.GM (t:=s) rfl rfl c6 a6 (hf.mono λ z _ q=>q.elim (λ r=>r.1) False.elim) (qg _);have ld:zW H' C X.B bs d:=⟨P,od,λ w=>by have:=A.b.low w;omega⟩
   have xd:X.H.au<=d:=by have:=h.fr.au;omega
   have bd:X.Hb.au<=d:=by have:=h.hn;omega
   obtain⟨t1,t2⟩:=tail h9;simp only[aa,bc,I6,t1];refine C3.q t2 λ v J⟨U,m1,m2,m3,m4⟩=>?_;subst U;cases b:(s.jV a).2 with
   |true =>
    rw[qr rfl];simp only[aa,bc,aA,m1,m2];refine C3.q m4 λ _ H5 hp=>?_;simp only[aa,bc];exact⟨(hp.2 d ld xd bd).1.trans hg,(hp.2 d ld xd bd).2⟩
   |false =>
    rw[qo (by decide)];simp only[aa,bc,aA];exact⟨(m3.2 d ld xd bd).1.trans hg,(m3.2 d ld xd bd).2⟩
  .rintro ex d W H' he hd P hg hf hW ⟨rfl,j,hj,x,C,u,c6,a6,w6,le6⟩;have hlk:da s.c.aQ a=some (s.c.aQ.getD j ⟨0,0⟩).v:=by rw[IK,hj];rfl
   rw[hlk];simp only;have fd:Fr (On d) H' (H'.set d (.deferred none)):=(Fr.refl H').set (W:=On d) (.inl rfl) _;have od:C d=0:=zd λ q=>(hW d (w6 d P q)).2.2 rfl;have c9:=c6.fr fd (λ z _ q(r:z=d)=>q (by rw[r];exact od)) (λ _ _=>rfl) (qg _);simp only[aa,bc];have fr9:Fr (λ z=>o4 z≠0) m (H'.set d (.deferred none)):=(hf.mono λ z _ q=>q.elim (λ r=>r.1) False.elim).trans fd λ z(q:z=d)=>.inr (by omega);exact⟨hg,L.back ((A.co (t:=s.d9 e (s.c.aQ.getD j ⟨0,0⟩).v) rfl rfl ⟨C,x,u,c9,a6,fr9⟩ (qg _)).mono (by omega))⟩
 rw[qo q4];simp only;obtain⟨t1,t2⟩:=tail hr;simp only[aa,bc,I6,aA,<-e1,<-e2,l1,L.c.bq,ln,T,q4];refine C3.q t2 λ v J⟨U,m1,m2,m3,m4⟩=>?_;subst U;cases b:(s.jV a).2 with
 |true =>
  rw[qr rfl];simp only[aa,bc,aA,m1,m2];refine C3.q m4 λ _ H5 hp=>?_;simp only[aa,bc];exact hp.1
 |false =>
  rw[qo (by decide)];simp only[aa,bc,aA];exact m3.1
end
end Go.Am
namespace Go.Am
open Lang Go.Proofs
variable{M:ak}[MK M]
def AA:∀(b:List Pr)(x:Pr)(a:Int),hJ (b ++ [x]) a=(hJ b a).or (if x.a=a then some b.length else none)
 |[],x,a=>by unfold hJ;show(if x.a=a then some 0 else(hJ [] a).map _)=_;unfold hJ;split<;>rfl
 |y::r,x,a=>by
  show(if y.a=a then some 0 else(hJ (r ++ [x]) a).map (·+1))=Option.or (if y.a=a then some 0 else(hJ r a).map (·+1)) _
  by_cases q:y.a=a
  .rw [qr q,qr q];rfl
  .rw [qo q,qo q,AA r x a];cases hJ r a with
   |some i=>rfl
   |none=>simp only[Option.none_or,Option.map_none];split<;>rfl
def Cv:∀{b:List Pr}{i:Nat}{x:Pr}(v a:Int),b[i]? = some x->hJ (b.set i ⟨x.a,v⟩) a=hJ b a
 |y::r,0,x,v,a,h=>by injection h with h;subst h;rfl
 |y::r,i+1,x,v,a,h=>by
  show(if y.a=a then some 0 else(hJ (r.set i ⟨x.a,v⟩) a).map (·+1))=_;rw[Cv v a (show r[i]? = some x from h)];rfl
def sC.app{g:List Pr}(h:sC g){a v:Int}(hn:hJ g a=none):sC (g ++ [⟨a,v⟩]):=λ i x b=>by
 rw[AA];rcases xq i g.length with q|q
 .rw [jd q]at b;rw[h i x b];rfl
 .rw [zh q]at b;have e:i=g.length:=by
   have:=(qk.1 b).1;simp only[z6,yi]at this;omega
  subst e;rw[Nat.sub_self]at b;injection b with b;subst b
  rw[hn,qr rfl];rfl
def sC.set{m:List Pr}(h:sC m){i:Nat}{x:Pr}(g:m[i]? = some x)(v:Int):sC (m.set i ⟨x.a,v⟩):=λ j y b=>by
 rw[Cv v _ g]
 by_cases q:j=i
 .subst q;rw[xr (by exact(qk.1 g).1)]at b;injection b with b;subst b
  exact h j x g
 .rw [xw (λ e=>q e.symm)]at b;exact h j y b
section
variable{H H1 H':ar}{o o1:Nat->Nat}{p f l sp k k':Nat}{cv rv ov pv:AV}{c d:Co}{os os':List iq}
def dH.wE(h:dH H o p f l sp cv rv ov pv c os k){i:Nat}{x:Pr}(A:c.aQ[i]? = some x){v:Int}(B:fM v):∃H',Op.store 1 [.ptr (aH rv) (cG 2 rv i+1),.int .u64 v] H=some (.undef,H')/\gN H o p f l sp cv pv {c with aQ:=c.aQ.set i ⟨x.a,v⟩} os k H':=by
 obtain⟨H1,s1,r,b⟩:=a9.yK C2 h.rd A (j:=1) (by decide) (u:=.int .u64 v) rfl (y:=⟨x.a,v⟩) rfl;obtain⟨g,fv,hs⟩:=h.so;have m:∀z,o z≠5 -> ¬aW rv z:=λ z q w=>q (h.pO z w);refine⟨H1,s1,o,rv,ov,⟨h.row.fr b (m p (by rw[h.op];decide)),h.fi.fr b h.of (λ z q e=>m z (by omega)) λ _ _=>rfl,h.la.fr b (m l (by rw[h.ol];decide)),⟨g,fv,hs.fr b (λ z q e=>m z (by omega)) λ _ _=>rfl⟩,HZ h.cd b λ e=>m _ (by rw[(h.mi e).2];decide),r,Own.fr h.ou b λ z q=>m z (by rw[h.pV z q];decide),h.op,h.of,h.ol,h.pO,h.pV,λ e=>⟨qj (h.mi e).1 b.au,(h.mi e).2⟩,h.EC,{h.w with ru:=λ y w=>(Ey w).elim (h.w.ru y) λ w=>by rw[w];exact B,rl:=by show(c.aQ.set i _).length<=k;rw[xg];exact h.w.rl,Jw:=h.w.Jw.set A v}⟩,λ _ _=>rfl,b.mono λ z _ q=>by rw[h.pO z q];decide⟩
def dH.BQ(h:dH H o p f l sp cv rv ov pv c os k)(hk:k<=100000){a:Int}(hn:hJ c.aQ a=none){K:bH->(Nat->AV)->Bool->AV->ar->Prop}{m:Bool}
 (I:∀i j r,Op.store 1 [.ptr p 13,i] j=some (.undef,r)->(∃o',dH r o' p f l sp cv i ov pv {c with aQ:=c.aQ ++ [⟨a,0⟩]} os (k+1)/\(∀z,z<H.au->o' z=o z)/\Fr (λ z=>o z=5\/o z=1) H r)->K (.row (AV.cells (.agg (cw ⟨a,0⟩))) vz (0,0) true) (Op.sliceTo 1 1) m i j) :
 iS m (Op.buildSlice vz 1 [.int .i64 0,.int .u64 0] [(0,2)] [.agg (cw ⟨a,0⟩)]) λ g o mk=>iS g (Op.append vz 2 16 [rv,mk H.au] (H.alloc o)) (K o mk):=by
 have rl:=h.w.rl;refine a9.oH (bytes:=16) h.rd (x:=.agg (cw ⟨a,0⟩)) (a:=⟨a,0⟩) rfl rfl rfl rfl (by decide) (by omega) (by omega) λ i j C v J=>?_;have one:av i=true:=Sl.one (Own.sl C);have L:=λ z(q:aW rv z)=>Own.lt h.rd z q;have ho:∀z,z<H.au->aR o H.au 5 z=o z:=λ z q=>i6 q
 have B:∀z,o z≠5 -> ¬aW rv z:=λ z q w=>q (h.pO z w);obtain⟨g,fv,hs⟩:=h.so;have lr:=λ z(q:aW ov z)=>Own.lt h.ou z q;have D:At j p Ge _:=h.row.fr v (B p (by rw[h.op];decide));have st:=D.st 13 one (by simp[cu]);have F:(cu c f l sp cv rv ov pv).set 13 i=cu {c with aQ:=c.aQ ++ [⟨a,0⟩]} f l sp cv i ov pv:=rfl;rw[F]at st;obtain⟨r,u⟩:∃X,X=j.set p (OR (cu {c with aQ:=c.aQ ++ [⟨a,0⟩]} f l sp cv i ov pv) Ge):=⟨_,rfl⟩
 rw[<-u]at st;have A:Fr (On p) j r:=u▸cE ..;have b:Fr (λ z=>aW rv z\/z=p) H r:=(v.mono λ z _ q=>.inl q).trans A λ z q=>.inl (.inr q);have nw:∀z,o z≠5->o z≠1 -> ¬(aW rv z\/z=p):=λ z G E w=>w.elim (B z G) λ w=>E (by rw[w];exact h.op);have no:∀z,aW i z->aR o H.au 5 z=5:=λ z q=>(J z q).elim (λ w=>(ho z (L z w)).trans (h.pO z w)) λ w=>mG w
 refine I i j r st ⟨aR o H.au 5,⟨u▸D.set _,h.fi.fr b h.of (λ z q e=>nw z (by omega) (by omega)) ho,h.la.fr b (nw l (by rw[h.ol];decide) (by rw[h.ol];decide)),⟨g,fv,hs.fr b (λ z q e=>nw z (by omega) (by omega)) ho⟩,HZ h.cd b λ e=>nw _ (by rw[(h.mi e).2];decide) (by rw[(h.mi e).2];decide),Own.fr C A λ z q(w:z=p)=>?_,Own.fr h.ou b λ z q=>nw z (by rw[h.pV z q];decide) (by rw[h.pV z q];decide),
  (ho p h.row.2).trans h.op,(ho f (by obtain⟨pv,q,-⟩:=h.fi.at';exact q.2)).trans h.of,(ho l h.la.at'.2).trans h.ol,no,λ z q=>(ho z (lr z q)).trans (h.pV z q),λ e=>⟨qj (h.mi e).1 b.au,(ho _ (h.mi e).1).trans (h.mi e).2⟩,h.EC,{h.w with ru:=λ y w=>(zt.1 w).elim (h.w.ru y) λ w=>by rw[ja.1 w];exact bF,rl:=by show(c.aQ ++ [_]).length<=k+1;rw[qv];simp only[z6,yi];omega,Jw:=h.w.Jw.app hn}⟩,ho,b.mono λ z _ q=>q.imp (h.pO z) λ q=>by rw[q];exact h.op⟩
 have:=no z q;rw[w,ho p h.row.2,h.op]at this;omega
end
section
variable{X:SX}{n n':Nat}{s t:CS}{H H':ar}{o:Nat->Nat}{rv ov:AV}{bs:Bs}{own:Nat->Nat}{V:Int->L8}
def dB.tag(h:dB X n s H o rv ov bs own V)(f:Fr Em H H')(t:Nat):dB X n s H' (aR o H.au t) rv ov bs own V:=by
 have ho:∀z,z<H.au->aR o H.au t z=o z:=λ z q=>i6 q
 have hn:=h.hn;have a:=h.fr.au
 refine{h with c:=h.c.fr f (λ _ _ _ q=>q) ho (qg _),b:=h.b.em f,dj:=λ z q=>(ho z (h.b.low q)).trans (h.dj z q),hb:=λ z q e=>?_,go:=λ z q e=>?_,fr:=h.fr.em f}
 .rcases xq z H.au with w|w
  .rw [ho z w]at e;exact h.hb z w e
  .omega
 .rcases xq z H.au with w|w
  .rw [ho z w]at e;exact h.go z w e
  .exact .inr (by omega)
def ZO(h:dB X n s H o rv ov bs own V)(hk:X.k+n<=90000)(hl:s.o.length<=1000)(e:mE)(hu:fM e.addr)(hv:fM e.value)(a:Int):za M PK [.ptr X.p 0,.agg (aZ e),.int .i64 a] H λ _ H'=>lA X (n+1) (s.ic e a) H':=by
 refine qts ?_;obtain⟨H1,e1,f1,n1,P⟩:=bX H (OR (aZ e) jg);obtain⟨o1,A,lo⟩:=h.loc f1;have R:=(lo H.au).1 ⟨qg _,by omega⟩;have hr:=A.re;have ln:=ik (M:=M) A.c.la;have l3:=vd P 3;have l5:=C5 P;have l3:Op.ae [.ptr H.au 3] H1=some (.int .u64 e.value):=l3;unfold CS.ic
 by_cases q3:s.c.la.lane=3
 .rw [qr q3];have q0:¬s.c.la.lane=0:=by omega
  simp only;simp only[aa,bc,vc,aA,<-e1,l3,A.c.bq,ln,q0,xb q3];obtain⟨g,fv,hs⟩:=A.c.so;refine C3.q (xdk (M:=M) hs a hv) λ _ F hp=>?_;obtain⟨o3,rv3,ov3,bs3,own3,V3,E⟩:=hr.co (t:=s.so (·.store a e.value)) rfl rfl (A.c.MI hp) (qg _);obtain⟨lo1',r1⟩:=E.lo R;have c3:dH F o3 X.p X.f X.l X.sp X.cv rv3 ov3 X.pv (s.so (·.store a e.value)).c s.o (X.k+n):=E.c;obtain⟨g3,fv3,hs3⟩:=c3.so;have m2:=C5 (pC r1 P);cases b:(s.so (·.store a e.value)).c.so.busy with
  |true =>
   rw[qr rfl];obtain⟨H4,s4,I⟩:=E.want e hu;have s4:Op.store 5 [.ptr X.p 7,.agg (aZ e)] F=some (.undef,H4):=s4;obtain⟨H5,s5,h5⟩:=I.put 6 (v:=.int .i64 6) {(s.so (·.store a e.value)).c with want:=e,ph:=6} rfl (by decide) rfl ⟨rfl,rfl,rfl,rfl⟩ ⟨rfl,rfl⟩ {I.c.w with};have s5:Op.store 1 [.ptr X.p 6,.int .i64 6] H4=some (.undef,H5):=s5;simp only[aa,bc,vc,aA,c3.bq,hC hs3,b,m2,s4,s5];exact A.back (h5.dT (by omega))
  |false =>
   rw[qo (by decide)];simp only[aa,bc,vc,aA,c3.bq,hC hs3,b,m2];refine C3.q (PA (M:=M) (s:=s.so (·.store a e.value)) c3 hl 3 e a) λ _ H4 hp=>?_;simp only[aa,bc];exact A.back ((E.co (t:=(s.so (·.store a e.value)).stored 3 e a) rfl rfl hp (qg _)).mono (by omega))
 rw[qo q3]
 by_cases q4:s.c.la.lane=4
 .rw [qr q4];have q0:¬s.c.la.lane=0:=by omega
  have lr:=(a9.sl A.c.rd).len;have rl0:=A.c.w.rl;obtain⟨U,e2⟩:∃Z,Z=(H1.alloc (OR [.int .i64 0] cK)).set H1.au (OR [.int .i64 ((s.c.aQ.length:Nat):Int)] cK):=⟨_,rfl⟩
  have s2:Op.store 1 [.ptr H1.au 0,.int .i64 ((s.c.aQ.length:Nat):Int)] (H1.alloc (OR [.int .i64 0] cK))=some (.undef,U):=by rw[e2];exact(At.new H1 _ _).st 0 rfl (by simp)
  have f2:Fr Em H1 U:=e2▸((Fr.refl H1).alloc _).set (.inr (qg _)) _;have n2:U.au=H.au+2:=by rw[e2,su,xx,n1]
  have g2:U.get H1.au=some (OR [.int .i64 ((s.c.aQ.length:Nat):Int)] cK):=by rw[e2,xc]
  have h2:=hr.tag f2 4;have t2:aR o1 H1.au 4 H1.au=4:=mG (qg _)
  simp only[aa,bc,vc,aA,<-e1,A.c.bq,ln,q0,q3,xb q4,lr,s2];refine C3.q (q98 (M:=M) X.p a) λ v m⟨hv',hh⟩=>?_;obtain⟨F,e3,f23,-,-⟩:=bX U (OR [.ptr X.p 0] vx);obtain⟨H4,e4⟩:∃Z,Z=F.alloc (OR [.int .i64 a] cK):=⟨_,rfl⟩
  rw[<-e3]at hv' hh;rw[<-e4]at hh;subst hv';subst hh;have f34:Fr Em F m:=e4▸(Fr.refl F).alloc _;have n3:F.au=H.au+3:=by rw[e3,xx,n2]
  have n4:m.au=H.au+4:=by rw[e4,xx,n3]
  have g3:m.get U.au=some (OR [.ptr X.p 0] vx):=by rw[f34.ah _ (by omega) id,e3,xf]
  have g4:m.get F.au=some (OR [.int .i64 a] cK):=by rw[e4,xf]
  have g2':m.get H1.au=some (OR [.int .i64 ((s.c.aQ.length:Nat):Int)] cK):=by rw[f34.ah _ (by omega) id,f23.ah _ (by omega) id];exact g2
  have I:=h2.tag (f23.em f34) 0;obtain⟨S,Q⟩:∃S,S=aR (aR o1 H1.au 4) U.au 0:=⟨_,rfl⟩
  rw[<-Q]at I;have t4:S H1.au=4:=by rw[Q,i6 (by omega)];exact t2
  have k3:S U.au=0:=by rw[Q];exact mG (qg _)
  have k4:S F.au=0:=by rw[Q];exact mG (by omega)
  have c4:dH m S X.p X.f X.l X.sp X.cv rv ov X.pv s.c s.o (X.k+n):=I.c;have kL:∀i,hJ s.c.aQ a=some i->(ib s.c.aQ a)=[[.int .i64 (i:Int),.int .u64 (s.c.aQ.getD i ⟨0,0⟩).v]]:=λ i q=>by unfold ib;rw[q]
  obtain⟨vl,hvl⟩:∃vl:Nat->Nat,vl=λ i=>if i=0 then s.c.aQ.length else(hJ s.c.aQ a).getD 0:=⟨_,rfl⟩
  have vl0:vl 0=s.c.aQ.length:=by rw[hvl];rfl
  simp only[aa,bc];refine jB.tE (fn:=Se) (lp:=Pm) (pa:=UG 0) (pb:=Wu 0) qr1 qi7.1 qi7.2 (by decide) qqr qqs
   (Zu (M:=M) (rv:=rv) g3 g4 (by omega) (by omega) c4.w.Jw (by omega)) (λ i W Hx=>J9 m S X.p X.f X.l X.sp X.cv rv X.pv s.c s.o (X.k+n) W Hx/\W H1.au/\Hx.get H1.au=some (OR [.int .i64 ((vl i:Nat):Int)] cK))
   (λ ex W Hx=>False)
   (λ z=>S z≠0/\z<m.au) (qg _) ?_ ?_ ?_ ?_ ?_ ?_ ?_ ?_ ?_
  .rintro z ((q|q)|q)
   .exact ⟨by omega,rfl,λ w=>w.1 (by rw[q];exact k3)⟩
   .exact ⟨by omega,rfl,λ w=>w.1 (by rw[q];exact k4)⟩
   .exact q.elim
  .exact λ z hz=>hz.2
  .exact ⟨⟨S,ov,c4,λ _ _=>rfl,λ z w q=>⟨q,w⟩,qg _⟩,⟨by rw[t4];decide,by omega⟩,by rw[vl0];exact g2'⟩
  .exact λ i W Ha Hb⟨q1,q2,q3⟩hs hn=>⟨q1.loc hs hn,q2,by rw[hs _ q2];exact q3⟩
  .exact λ i W Ha Hb q hs hn=>q
  .exact λ i W Hx⟨⟨L,T,q2,_⟩,_⟩=>⟨q2.row.ld 13,a9.sl q2.rd⟩
  .intro C i lr lb y hy hL2 W N ⟨⟨L,T,Y,a6,w6,le6⟩,wt,gt⟩ hb hf6 hnL hL6 hgL;obtain⟨j,K⟩:∃j,hJ s.c.aQ a=some j:=by
    cases q:hJ s.c.aQ a with
    |some j=>exact⟨j,rfl⟩
    |none=>unfold ib at hy;rw[q]at hy;cases hy
   have hv1:vl (i+1)=j:=by rw[hvl];simp only;rw[qo (by omega),K];rfl
   rw[kL j K]at hy;have hi:i=0:=by
    have:=(qk.1 hy).1;simp only[z6,yi]at this;omega
   subst hi;injection hy with hy;subst hy
   refine⟨_,rfl,?_⟩;have w:=vc M ⟨some C,PK⟩;simp only[aa,bc,w,Fx];refine⟨hgL,?_⟩;have fx:Fr (On C) N (N.set C lb):=(Fr.refl N).set (W:=On C) (.inl rfl) _;have gL:(N.set C lb).get C=some lb:=xc ..;have nL:(N.set C lb).au=N.au:=rfl
   have oL:L C=0:=zd λ q=>hnL (w6 C hL6 q);have ot:L H1.au=4:=(a6 _ (by omega)).trans t4
   have nt:H1.au≠C:=by omega
   have c7:dH (N.set C lb) L X.p X.f X.l X.sp X.cv rv T X.pv s.c s.o (X.k+n):=Y.fr fx (λ z _ q(r:z=C)=>q (by rw[r];exact oL)) (λ _ _=>rfl) (qg _);have a7:At (N.set C lb) H1.au cK [.int .i64 ((vl 0:Nat):Int)]:=⟨by rw[yk nt.symm];exact gt,by rw[nL];omega⟩
   generalize N.set C lb=H7 at *;have s7:=a7.st 0 (v:=.int .i64 (j:Int)) rfl (by simp);have a8:=a7.set [.int .i64 (j:Int)];have f8:Fr (On H1.au) H7 (H7.set H1.au (OR [.int .i64 (j:Int)] cK)):=cE ..;simp only[aa,bc,s7,List.set];refine⟨rfl,by rw[f8.ah C (by omega) λ q:C=H1.au=>nt q.symm];exact gL,W,λ z q=>⟨by have:=(hb z q).1;rw[su,nL];exact this,.inl q⟩,?_,.inl ⟨rfl,⟨L,T,c7.fr4 f8 (λ z _ q r(u:z=H1.au)=>r (by rw[u];exact ot)) (λ _ _=>rfl) (qg _),a6,λ z q1 q2=>w6 z (by rw[su,nL]at q1;exact q1) q2,by rw[su,nL];exact le6⟩,wt,by rw[hv1];exact a8.1⟩⟩;exact(fx.mono λ z _ q=>.inr q).trans f8 λ z(q:z=H1.au)=>.inl (.inl (by rw[q];exact wt))
  .rintro d W H' hd hd2 hg hf hW ⟨⟨L,T,Y,a6,w6,le6⟩,wt,gt⟩;have od:L d=0:=zd λ q=>(hW d (w6 d hd2 q)).2.2 rfl;have h9:=I.GM (t:=s) rfl rfl Y a6 (hf.mono λ z _ q=>q.elim (λ r=>r.1) False.elim) (qg _);have h9r:=h9.re;have ld:zW H' L X.B bs d:=⟨hd2,od,λ w=>by have:=I.b.low w;omega⟩
   have lb:zW H' L X.B bs H.au/\H'.get H.au=H1.get H.au:=h9.lo R
   have xd:X.H.au<=d:=by have:=h.fr.au;omega
   have bd:X.Hb.au<=d:=by have:=h.hn;omega
   have fin:∀{t:CS}{Z:ar}{oz:Nat->Nat}{rvz ovz:AV}{bsz:Bs}{ownz:Nat->Nat}{Vz:Int->L8},dB ((X.at H1 o1 bs).at H' L bs) (n+1) t Z oz rvz ovz bsz ownz Vz->Z.get d=some (.deferred (some []))/\lA X (n+1) t (Z.set d (.deferred none)):=λ hz =>
    ⟨(hz.lo ld).2.trans hg,((A.rR (h9.rR hz)).pq (hz.lo ld).1 xd bd _).here⟩
   have lt:=vd gt 0;have l3':=vd (pC lb.2 P) 3;have l3':Op.ae [.ptr H.au 3] H'=some (.int .u64 e.value):=l3';have e12:(X.k+n)+1=X.k+(n+1):=by omega
   cases K:hJ s.c.aQ a with
   |none =>
    have hL:(ib s.c.aQ a).length=0:=by unfold ib;rw[K];rfl
    have lt:Op.ae [.ptr H1.au 0] H'=some (.int .i64 ((s.c.aQ.length:Nat):Int)):=by rw[lt,hL,vl0];rfl
    have bp:Op.build [.int .i64 0,.int .u64 0] [(0,1)] [.int .i64 a]=some (.agg (cw ⟨a,0⟩)):=rfl;simp only[aa,bc,vc,aA,lt,Y.bq,lr,bp];refine Y.BQ (by omega) K λ v' H10 H11 st'⟨o11,c11,a11,O⟩=>?_;have lt11:Op.ae [.ptr H1.au 0] H11=some (.int .i64 ((s.c.aQ.length:Nat):Int)):=by
     rw[<-lt];exact(vd (pC (O.ah _ (by omega) λ q=>by rw[(a6 _ (by omega)).trans t4]at q;omega) gt) 0).trans (vd gt 0).symm
    have l311:Op.ae [.ptr H.au 3] H11=some (.int .u64 e.value):=vd (pC (O.ah _ lb.1.1 λ q=>by rw[lb.1.2.1]at q;omega) (pC lb.2 P)) 3;have hx:(s.c.aQ ++ [(⟨a,0⟩:Pr)])[s.c.aQ.length]? = some ⟨a,0⟩:=by rw[zh (qg _),Nat.sub_self];rfl
    have ix:=(a9.sl c11.rd).idx hx (z:=((s.c.aQ.length:Nat):Int)) rfl .i64;obtain⟨H12,s12,o12,rv12,ov12,G,a12,f12⟩:=c11.wE hx hv;have er:(s.c.aQ ++ [(⟨a,0⟩:Pr)]).set s.c.aQ.length ⟨a,e.value⟩=fk s.c.aQ a e.value:=by rw[SN K,Lq _ _ (qg _),Nat.sub_self];rfl
    rw[er]at G;have D:=h9r.GM (n':=n+1) (t:={s with c:={s.c with aQ:=fk s.c.aQ a e.value}}) rfl rfl (G.fr (Fr.refl _) (λ _ _ _ w=>w) (λ _ _=>rfl) (show X.k+n+1<=X.k+(n+1)by omega)) (λ z q=>(a12 z (qj q O.au)).trans (a11 z q)) ((O.mono λ z _ q=>by omega).trans f12 λ z q=>by
     rcases xq z H'.au with w|w
     .exact .inl (by rw[<-a11 z w];exact q)
     .exact .inr w) (by omega)
    have J:=C5 (pC (D.lo lb.1).2 (pC lb.2 P));simp only[aa,bc,vc,aA,st',c11.bq,lt11,l311,ix,s12,J];refine C3.q (PA (M:=M) (s:={s with c:={s.c with aQ:=fk s.c.aQ a e.value}}) D.c hl 3 e a) λ _ H13⟨o13,rv13,ov13,c13,a13,f13⟩=>?_;simp only[aa,bc];exact fin (D.GM (t:=({s with c:={s.c with aQ:=fk s.c.aQ a e.value}}:CS).stored 3 e a) rfl rfl c13 a13 f13 (qg _))
   |some j =>
    have hL:(ib s.c.aQ a).length=1:=by rw[kL j K];rfl
    have hv1:vl 1=j:=by rw[hvl];simp only;rw[qo (by omega),K];rfl
    have lt:Op.ae [.ptr H1.au 0] H'=some (.int .i64 (j:Int)):=by rw[lt,hL,hv1];rfl
    obtain⟨jl,x,hx,xa⟩:=oY K;have jn:¬(j:Int)=((s.c.aQ.length:Nat):Int):=by omega
    have ix:=(a9.sl Y.rd).idx hx (z:=(j:Int)) rfl .i64;obtain⟨H12,s12,o12,rv12,ov12,G,a12,f12⟩:=Y.wE hx hv;have er:s.c.aQ.set j ⟨x.a,e.value⟩=fk s.c.aQ a e.value:=by rw[Rr K,xa]
    rw[er]at G;have D:=h9r.GM (n':=n) (t:={s with c:={s.c with aQ:=fk s.c.aQ a e.value}}) rfl rfl G a12 f12 (qg _);have J:=C5 (pC (D.lo lb.1).2 (pC lb.2 P));simp only[aa,bc,vc,aA,lt,Y.bq,lr,jn,l3',ix,s12,J];refine C3.q (PA (M:=M) (s:={s with c:={s.c with aQ:=fk s.c.aQ a e.value}}) D.c hl 3 e a) λ _ H13⟨o13,rv13,ov13,c13,a13,f13⟩=>?_;simp only[aa,bc];exact fin (D.GM (n':=n+1) (t:=({s with c:={s.c with aQ:=fk s.c.aQ a e.value}}:CS).stored 3 e a) rfl rfl (c13.fr (Fr.refl _) (λ _ _ _ w=>w) (λ _ _=>rfl) (show X.k+n<=X.k+(n+1)by omega)) a13 f13 (by omega))
  .exact λ e d W H' he hd hd2 hg hf hW q=>q.elim
 rw[qo q4];have st:=NZ (M:=M) hr hk a hv
 by_cases q0:s.c.la.lane=0
 .rw [qr q0];simp only[aa,bc,vc,aA,<-e1,l3,A.c.bq,ln,xb q0];refine C3.q st λ w F⟨hw,o3,rv3,ov3,bs3,own3,V3,E⟩=>?_;subst hw;cases b:s.uf a e.value with
  |true =>
   rw[qr rfl];have m2:=C5 (pC (E.lo R).2 P);simp only[aa,bc,m2];refine C3.q (PA (M:=M) (s:=s.st a e.value) E.c hl 8 e a) λ _ H4 hp=>?_;simp only[aa,bc];exact A.back (E.co (t:=(s.st a e.value).stored 8 e a) rfl rfl hp (qg _))
  |false =>
   rw[qo (by decide)];simp only[aa,bc];exact A.back E.here
 .simp only[aa,bc,vc,aA,<-e1,l3,A.c.bq,ln,q0,q3,q4];refine C3.q st λ w F⟨hw,o3,rv3,ov3,bs3,own3,V3,E⟩=>?_;subst hw;cases b:s.uf a e.value with
  |true =>
   rw[qr rfl];obtain⟨H4,s4,I⟩:=E.put 15 (v:=.bool true) {s.c with wrote:=true} rfl (by decide) rfl ⟨rfl,rfl,rfl,rfl⟩ ⟨rfl,rfl⟩ {E.c.w with};have s4:Op.store 1 [.ptr X.p 15,.bool true] F=some (.undef,H4):=s4;have m2:=C5 (pC (I.lo R).2 P);simp only[aa,bc,aA,s4,m2];refine C3.q (PA (M:=M) (s:={s.st a e.value with c:={s.c with wrote:=true}}) I.c hl 3 e a) λ _ H5 hp=>?_;simp only[aa,bc];exact A.back (I.co (t:=({s.st a e.value with c:={s.c with wrote:=true}}:CS).stored 3 e a) rfl rfl hp (qg _))
  |false =>
   rw[qo (by decide)];simp only[aa,bc];exact A.back E.here
end
end Go.Am
namespace Go.Am
open Lang Go.Proofs
variable{M:ak}[MK M]
section
variable{X:SX}{n n':Nat}{s t:CS}{H H':ar}{o:Nat->Nat}{rv ov:AV}{bs:Bs}{own:Nat->Nat}{V:Int->L8}
def GX(h:dB X n s H o rv ov bs own V)(hk:X.k+n<=90000)(hl:s.o.length<=1000):za M ZE [.ptr X.p 0] H λ _ H'=>lA X (n+1) s.aK H':=by
 refine qve ?_;have lr:=(a9.sl h.c.rd).len;have d0:=h.c.w.d0;have rl:=h.c.w.rl;unfold CS.aK;rw[qr d0]
 by_cases q:s.c.done<((s.c.aQ.length:Nat):Int)
 .obtain ⟨x,e⟩:∃x,s.c.aQ[s.c.done.toNat]? = some x:=⟨_,qt (by omega)⟩
  rw[e];have ix:=(a9.sl h.c.rd).idx e (z:=s.c.done) (Lx d0).symm .i64;have ld:Op.aq 2 [LD rv s.c.done.toNat] H=some (.agg (cw x)):=(a9.sl h.c.rd).aq C2 (by decide) e;have bx:=QW (H1:=H) x;obtain⟨H1,j⟩:∃Z,Z=(H.alloc (OR [.int .i64 0,.int .u64 0] vz)).set H.au (OR (cw x) vz):=⟨_,rfl⟩
  rw[<-j]at bx;have B:Fr Em H H1:=by rw[j];exact wO _ _
  have u:H1.get H.au=some (OR (cw x) vz):=by rw[j,xc]
  have l0:Op.ae [.ptr H.au 0] H1=some (.int .i64 x.a):=vd u 0;have l1:Op.ae [.ptr H.au 1] H1=some (.int .u64 x.v):=vd u 1;obtain⟨o1,C,-⟩:=h.loc B;simp only[aa,bc,Q7,aA,h.c.bq,lr,xb q,ix,show∀i,Op.aq 2 [AV.ptr (aH rv) (cG 2 rv i)] H=Op.aq 2 [LD rv i] H from λ _=>rfl,ld,bx,l0,l1];refine C3.q (NZ (M:=M) C hk x.a (h.c.w.ru x (x9 e))) λ w r⟨hw,o2,m,l,g,f,A,d⟩=>?_;subst hw;cases b:s.uf x.a x.v with
  |true =>
   rw[qr rfl];have wd:aj .i64 (s.c.done+1)=s.c.done+1:=js (by omega) (by omega);obtain⟨y,E,D⟩:=d.put 14 (v:=.int .i64 (aj .i64 (s.c.done+1))) {s.c with done:=aj .i64 (s.c.done+1)} rfl (by decide) rfl ⟨rfl,rfl,rfl,rfl⟩ ⟨rfl,rfl⟩ {d.c.w with d0:=by show 0<=aj .i64 (s.c.done+1);rw[wd];omega};have ui:Op.ae [.ptr X.p 14] r=some (.int .i64 s.c.done):=d.c.row.ld 14;simp only[aa,bc,Q7,aA,ui,E];exact D.here
  |false =>
   rw[qo (by decide)];simp only[aa,bc,Q7];exact d.here
 .have e:s.c.aQ[s.c.done.toNat]? = none:=zz (by omega);rw[e];unfold CS.gG;simp only;simp only[aa,bc,Q7,aA,h.c.bq,lr,q];refine C3.q (NZ (M:=M) h hk 0 (Ek _)) λ w r⟨hw,o2,m,l,g,f,A,d⟩=>?_;subst hw;cases b:s.uf 0 (aj .u64 (s.c.seq+2))with
  |true =>
   rw[qr rfl];simp only[aa,bc];refine C3.q (N5 (M:=M) (s:=s.st 0 (aj .u64 (s.c.seq+2))) d.c hl) λ _ y hp=>?_;simp only[aa,bc];exact d.co (t:=(s.st 0 (aj .u64 (s.c.seq+2))).cz) (NQ _) (Py _) hp (qg _)
  |false =>
   rw[qo (by decide)];simp only[aa,bc];exact d.here
def CS.mr(s:CS)(v:Int)(taken:Bool):CS :=
 let t:CS:={s with c:={s.c with so:=s.c.so.eO v taken}}
 let u:=if s.c.so.aC=true/\t.c.so.aC=false then t.aw else t
 let w:=if s.c.so.points<u.c.so.points then u.tell 4 0 0 0 else u
 if w.c.so.busy=true then w else w.eL
def Xv(s:CS)(v:Int)(tk:Bool):s.given v tk=CS.mr {s with c:={s.c with held:=s.c.held ||tk && decide (s.c.so.want.a=0)}} v tk:=rfl
def Ma(h:dB X n s H o rv ov bs own V)(hl:s.o.length<=1000):za M YQ [.ptr X.p 0] H λ _ H'=>lA X n s.eL H':=by
 refine qtm ?_;unfold CS.eL;obtain⟨g,fv,hs⟩:=h.c.so
 by_cases a:s.c.so.ended=2
 .rw [qr a];simp only[aa,bc,NF,aA,h.c.bq,p5 hs,xb a];refine C3.q (YL (M:=M) h.c hl 8) λ _ H1 hp=>?_;simp only[aa,bc];exact h.co (t:=s.abort 8) rfl rfl hp (qg _)
 rw[qo a]
 by_cases d:s.c.want.kind=5
 .rw [qr d];obtain⟨j,k,b⟩:=h.put 6 (v:=.int .i64 0) {s.c with ph:=0} rfl (by decide) rfl ⟨rfl,rfl,rfl,rfl⟩ ⟨rfl,rfl⟩ {h.c.w with};simp only[aa,bc,NF,aA,h.c.bq,p5 hs,a,xb d,k];exact b.here
 rw[qo d]
 by_cases f:s.c.want.kind=3
 .rw [qr f];obtain⟨j,k,b⟩:=h.put 6 (v:=.int .i64 0) {s.c with ph:=0} rfl (by decide) rfl ⟨rfl,rfl,rfl,rfl⟩ ⟨rfl,rfl⟩ {h.c.w with};obtain⟨r,l,e⟩:=b.c.so;simp only[aa,bc,NF,aA,h.c.bq,p5 hs,a,d,xb f,k,b.c.bq,Dp e];refine C3.q (RI (M:=M) (s:=s.ph 0) b.c hl s.c.want h.c.w.wu e.vu) λ _ m hp=>?_;simp only[aa,bc];exact b.co (t:=(s.ph 0).d9 s.c.want s.c.so.value) rfl rfl hp (qg _)
 rw[qo f]
 by_cases i:s.c.want.kind=6
 .rw [qr i];simp only[aa,bc,NF,aA,h.c.bq,p5 hs,a,d,f,xb i];refine C3.q (N5 (M:=M) h.c hl) λ _ j hp=>?_;simp only[aa,bc];exact h.co (t:=s.cz) (NQ _) (Py _) hp (qg _)
 rw[qo i];simp only[aa,bc,NF,aA,h.c.bq,p5 hs,a,d,f,i];refine C3.q (Vy (M:=M) h.c hl) λ _ j hp=>?_;simp only[aa,bc];exact h.co (t:=s.breaks) rfl rfl hp (qg _)
def FV(h:dB X n s H o rv ov bs own V)(hk:X.k+n<=90000)(hl:s.o.length<=990):za M LY [.ptr X.p 0] H λ _ H'=>lA X (n+1) s.mJ H':=by
 refine qvf ?_;unfold CS.mJ;simp only;obtain⟨g,fv,hs⟩:=h.c.so;simp only[aa,bc,zf,aA,h.c.bq];refine C3.q (NM (M:=M) hs) λ w H1⟨⟨qb,hw⟩,f1⟩=>?_;subst hw;obtain⟨B,e2⟩:∃Z,Z=(H1.alloc (OR (iL ⟨0,0,0,0⟩) zY)).set H1.au (OR (iL s.c.so.want) zY):=⟨_,rfl⟩
 have s2:Op.store 4 [.ptr H1.au 0,.agg (iL s.c.so.want)] (H1.alloc (OR (iL ⟨0,0,0,0⟩) zY))=some (.undef,B):=by
  have:=(At.new H1 (iL ⟨0,0,0,0⟩) zY).gK (k:=0) (n:=4) (v:=.agg (iL s.c.so.want)) rfl (by simp[iL]) rfl;rw[e2];exact this
 have f2:Fr Em H1 B:=e2▸((Fr.refl H1).alloc _).set (.inr (qg _)) _;have n1:=f1.au
 have n2:B.au=H1.au+1:=by rw[e2,su,xx]
 have g2:B.get H1.au=some (OR (iL s.c.so.want) zY):=by rw[e2,xc]
 have k0:Op.ae [.ptr H1.au 0] B=some (.int .i64 s.c.so.want.op):=vd g2 0;have k1:Op.ae [.ptr H1.au 1] B=some (.int .i64 s.c.so.want.a):=vd g2 1;have k2:Op.ae [.ptr H1.au 2] B=some (.int .u64 s.c.so.want.v):=vd g2 2;have k3:Op.ae [.ptr H1.au 3] B=some (.int .u64 s.c.so.want.o):=vd g2 3;obtain⟨o2,u,lo⟩:=h.loc (f1.em f2);have lo1:=(lo H1.au).1 ⟨n1,by omega⟩;have hr:=u.re;have rest2:∀{H4:ar}{o4:Nat->Nat}{rv4 ov4:AV}{bs4:Bs}{own4:Nat->Nat}{V4:Int->L8}{d:CS}{v:Int}{tk:Bool},fM v->dB (X.at B o2 bs) (n+1) d H4 o4 rv4 ov4 bs4 own4 V4->d.o.length<=990 -> ∀{E:Env}{Q:aF},lk E 0=some (.ptr X.p 0)->lk E 4=some (.int .u64 v)->lk E 5=some (.bool tk)->lk E 7=some (.int .i64 d.c.so.points)->lk E 8=some (.bool d.c.so.aC)->(∀ex E D H',(ex=.normal\/ex=.ret)->D=[]->lA X (n+1) (d.mr v tk) H'->Q ex E D H')->W M ⟨none,LY⟩ (Gh LY 36) true Q E [] H4:=λ{H4 o4 rv4 ov4 bs4 own4 V4 d v tk}hu h4 hl{E Q}j E4 Y E7 E8 x=>by
  obtain⟨g4,fv4,r⟩:=h4.c.so;have c4:dH H4 o4 X.p X.f X.l X.sp X.cv rv4 ov4 X.pv d.c d.o (X.k+(n+1)):=h4.c;simp only[aa,bc,zf,aA,j,E4,Y,c4.bq];refine C3.q (O5 (M:=M) r hu) λ _ H5 hp=>?_;obtain⟨o5,rv5,ov5,bs5,own5,V5,h5⟩:=h4.co (t:={d with c:={d.c with so:=d.c.so.eO v tk}}) rfl rfl (h4.c.MI hp) (qg _);obtain⟨e,F⟩:∃e:CS,e = {d with c:={d.c with so:=d.c.so.eO v tk}}:=⟨_,rfl⟩
  rw[<-F]at h5;have hl5:e.o.length<=990:=by rw[F];exact hl
  have c5:dH H5 o5 X.p X.f X.l X.sp X.cv rv5 ov5 X.pv e.c e.o (X.k+(n+1)):=h5.c;obtain⟨g5,fv5,i⟩:=c5.so;have ew:e.c.so.aC=(d.c.so.eO v tk).aC:=by rw[F]
  cases C:d.c.so.aC with
  |true =>
   cases K:e.c.so.aC with
   |true =>
    by_cases q:d.c.so.points<e.c.so.points
    .simp only[aa,bc,zf,aA,j,E7,E8,C,HB i,K,c5.bq,eE i,xb q];refine C3.q (D9 (M:=M) (s:=e) c5 (by omega) 4 0 0 0) λ _ H7 hp=>?_;obtain⟨o7,U,T,bs7,own7,V7,P⟩:=h5.co (t:=(e).tell 4 0 0 0) rfl rfl hp (qg _);have N:dH H7 o7 X.p X.f X.l X.sp X.cv U T X.pv ((e).tell 4 0 0 0).c ((e).tell 4 0 0 0).o (X.k+(n+1)):=P.c;obtain⟨g7,fv7,z⟩:=N.so;cases b:((e).tell 4 0 0 0).c.so.busy with
     |true =>
      have m:d.mr v tk=((e).tell 4 0 0 0):=by unfold CS.mr;simp only;rw[<-F,qo (show¬(d.c.so.aC=true/\(d.c.so.eO v tk).aC=false)from λ w=>by have:=ew.trans w.2;rw[K]at this;cases this),qr q,qr b]
      simp only[aa,bc,zf,aA,j,N.bq,hC z,b];exact x _ _ _ _ (.inl rfl) rfl (by rw[m];exact u.back P.here)
     |false =>
      have m:d.mr v tk=(((e).tell 4 0 0 0)).eL:=by unfold CS.mr;simp only;rw[<-F,qo (show¬(d.c.so.aC=true/\(d.c.so.eO v tk).aC=false)from λ w=>by have:=ew.trans w.2;rw[K]at this;cases this),qr q,qo (by rw[b];decide)]
      simp only[aa,bc,zf,aA,j,N.bq,hC z,b];refine C3.q (Ma (M:=M) (X:=X.at B o2 bs) P (by show(e.o ++ [_]).length<=1000;rw[qv];simp only[z6,yi];omega)) λ _ H9 hp=>?_;simp only[aa,bc];exact x _ _ _ _ (.inl rfl) rfl (by rw[m];exact u.back hp)
    .cases b:e.c.so.busy with
     |true =>
      have m:d.mr v tk=e:=by unfold CS.mr;simp only;rw[<-F,qo (show¬(d.c.so.aC=true/\(d.c.so.eO v tk).aC=false)from λ w=>by have:=ew.trans w.2;rw[K]at this;cases this),qo q,qr b]
      simp only[aa,bc,zf,aA,j,E7,E8,C,HB i,K,eE i,q,c5.bq,hC i,b];exact x _ _ _ _ (.inl rfl) rfl (by rw[m];exact u.back h5.here)
     |false =>
      have m:d.mr v tk=(e).eL:=by unfold CS.mr;simp only;rw[<-F,qo (show¬(d.c.so.aC=true/\(d.c.so.eO v tk).aC=false)from λ w=>by have:=ew.trans w.2;rw[K]at this;cases this),qo q,qo (by rw[b];decide)]
      simp only[aa,bc,zf,aA,j,E7,E8,C,HB i,K,eE i,q,c5.bq,hC i,b];refine C3.q (Ma (M:=M) (X:=X.at B o2 bs) h5 (by omega)) λ _ H9 hp=>?_;simp only[aa,bc];exact x _ _ _ _ (.inl rfl) rfl (by rw[m];exact u.back hp)
   |false =>
    simp only[aa,bc,zf,aA,j,E8,C,c5.bq,HB i,K];refine C3.q (q11 (M:=M) (s:=e) c5 (by omega)) λ _ H6 hp=>?_;obtain⟨o6,rv6,ov6,bs6,own6,V6,h6⟩:=h5.co (t:=e.aw) (q17 _) (mo _) hp (qg _);have hl6:=xbz e;have c6:dH H6 o6 X.p X.f X.l X.sp X.cv rv6 ov6 X.pv e.aw.c e.aw.o (X.k+(n+1)):=h6.c;obtain⟨g6,fv6,S⟩:=c6.so
    by_cases q:d.c.so.points<e.aw.c.so.points
    .simp only[aa,bc,zf,aA,j,E7,c6.bq,eE S,xb q];refine C3.q (D9 (M:=M) (s:=e.aw) c6 (by omega) 4 0 0 0) λ _ H7 hp=>?_;obtain⟨o7,U,T,bs7,own7,V7,P⟩:=h6.co (t:=(e.aw).tell 4 0 0 0) rfl rfl hp (qg _);have N:dH H7 o7 X.p X.f X.l X.sp X.cv U T X.pv ((e.aw).tell 4 0 0 0).c ((e.aw).tell 4 0 0 0).o (X.k+(n+1)):=P.c;obtain⟨g7,fv7,z⟩:=N.so;cases b:((e.aw).tell 4 0 0 0).c.so.busy with
     |true =>
      have m:d.mr v tk=((e.aw).tell 4 0 0 0):=by unfold CS.mr;simp only;rw[<-F,qr (show d.c.so.aC=true/\(d.c.so.eO v tk).aC=false from⟨C,ew.symm.trans K⟩),qr q,qr b]
      simp only[aa,bc,zf,aA,j,N.bq,hC z,b];exact x _ _ _ _ (.inl rfl) rfl (by rw[m];exact u.back P.here)
     |false =>
      have m:d.mr v tk=(((e.aw).tell 4 0 0 0)).eL:=by unfold CS.mr;simp only;rw[<-F,qr (show d.c.so.aC=true/\(d.c.so.eO v tk).aC=false from⟨C,ew.symm.trans K⟩),qr q,qo (by rw[b];decide)]
      simp only[aa,bc,zf,aA,j,N.bq,hC z,b];refine C3.q (Ma (M:=M) (X:=X.at B o2 bs) P (by show(e.aw.o ++ [_]).length<=1000;rw[qv];simp only[z6,yi];omega)) λ _ H9 hp=>?_;simp only[aa,bc];exact x _ _ _ _ (.inl rfl) rfl (by rw[m];exact u.back hp)
    .cases b:e.aw.c.so.busy with
     |true =>
      have m:d.mr v tk=e.aw:=by unfold CS.mr;simp only;rw[<-F,qr (show d.c.so.aC=true/\(d.c.so.eO v tk).aC=false from⟨C,ew.symm.trans K⟩),qo q,qr b]
      simp only[aa,bc,zf,aA,j,E7,eE S,q,c6.bq,hC S,b];exact x _ _ _ _ (.inl rfl) rfl (by rw[m];exact u.back h6.here)
     |false =>
      have m:d.mr v tk=(e.aw).eL:=by unfold CS.mr;simp only;rw[<-F,qr (show d.c.so.aC=true/\(d.c.so.eO v tk).aC=false from⟨C,ew.symm.trans K⟩),qo q,qo (by rw[b];decide)]
      simp only[aa,bc,zf,aA,j,E7,eE S,q,c6.bq,hC S,b];refine C3.q (Ma (M:=M) (X:=X.at B o2 bs) h6 (by omega)) λ _ H9 hp=>?_;simp only[aa,bc];exact x _ _ _ _ (.inl rfl) rfl (by rw[m];exact u.back hp)
  |false =>
   by_cases q:d.c.so.points<e.c.so.points
   .simp only[aa,bc,zf,aA,j,E7,E8,C,c5.bq,eE i,xb q];refine C3.q (D9 (M:=M) (s:=e) c5 (by omega) 4 0 0 0) λ _ H7 hp=>?_;obtain⟨o7,U,T,bs7,own7,V7,P⟩:=h5.co (t:=(e).tell 4 0 0 0) rfl rfl hp (qg _);have N:dH H7 o7 X.p X.f X.l X.sp X.cv U T X.pv ((e).tell 4 0 0 0).c ((e).tell 4 0 0 0).o (X.k+(n+1)):=P.c;obtain⟨g7,fv7,z⟩:=N.so;cases b:((e).tell 4 0 0 0).c.so.busy with
    |true =>
     have m:d.mr v tk=((e).tell 4 0 0 0):=by unfold CS.mr;simp only;rw[<-F,qo (show¬(d.c.so.aC=true/\(d.c.so.eO v tk).aC=false)from λ w=>by rw[C]at w;cases w.1),qr q,qr b]
     simp only[aa,bc,zf,aA,j,N.bq,hC z,b];exact x _ _ _ _ (.inl rfl) rfl (by rw[m];exact u.back P.here)
    |false =>
     have m:d.mr v tk=(((e).tell 4 0 0 0)).eL:=by unfold CS.mr;simp only;rw[<-F,qo (show¬(d.c.so.aC=true/\(d.c.so.eO v tk).aC=false)from λ w=>by rw[C]at w;cases w.1),qr q,qo (by rw[b];decide)]
     simp only[aa,bc,zf,aA,j,N.bq,hC z,b];refine C3.q (Ma (M:=M) (X:=X.at B o2 bs) P (by show(e.o ++ [_]).length<=1000;rw[qv];simp only[z6,yi];omega)) λ _ H9 hp=>?_;simp only[aa,bc];exact x _ _ _ _ (.inl rfl) rfl (by rw[m];exact u.back hp)
   .cases b:e.c.so.busy with
    |true =>
     have m:d.mr v tk=e:=by unfold CS.mr;simp only;rw[<-F,qo (show¬(d.c.so.aC=true/\(d.c.so.eO v tk).aC=false)from λ w=>by rw[C]at w;cases w.1),qo q,qr b]
     simp only[aa,bc,zf,aA,j,E7,E8,C,eE i,q,c5.bq,hC i,b];exact x _ _ _ _ (.inl rfl) rfl (by rw[m];exact u.back h5.here)
    |false =>
     have m:d.mr v tk=(e).eL:=by unfold CS.mr;simp only;rw[<-F,qo (show¬(d.c.so.aC=true/\(d.c.so.eO v tk).aC=false)from λ w=>by rw[C]at w;cases w.1),qo q,qo (by rw[b];decide)]
     simp only[aa,bc,zf,aA,j,E7,E8,C,eE i,q,c5.bq,hC i,b];refine C3.q (Ma (M:=M) (X:=X.at B o2 bs) h5 (by omega)) λ _ H9 hp=>?_;simp only[aa,bc];exact x _ _ _ _ (.inl rfl) rfl (by rw[m];exact u.back hp)
 have rest:∀{H3:ar}{o3:Nat->Nat}{I G:AV}{L:Bs}{A:Nat->Nat}{V3:Int->L8}{y:CS}{v:Int}{tk:Bool},fM v->dB (X.at B o2 bs) (n+1) y H3 o3 I G L A V3->y.c=s.c->y.o=s.o -> ∀{E:Env}{Q:aF},lk E 0=some (.ptr X.p 0)->lk E 2=some (.ptr H1.au 0)->lk E 4=some (.int .u64 v)->lk E 5=some (.bool tk)->lk E 6=some (.bool true)->(∀ex E D H',(ex=.normal\/ex=.ret)->D=[]->lA X (n+1) (y.given v tk) H'->Q ex E D H')->W M ⟨none,LY⟩ (Gh LY 26) true Q E [] H3:=λ{H3 o3 I G L A V3 y v tk}hu J hc ho{E Q}j E2 E4 Y E6 x=>by
  have c3:dH H3 o3 X.p X.f X.l X.sp X.cv I G X.pv y.c y.o (X.k+(n+1)):=J.c;have m1:Op.ae [.ptr H1.au 1] H3=some (.int .i64 s.c.so.want.a):=vd (pC (J.lo lo1).2 g2) 1;obtain⟨R,O⟩:∃R:Bool,R=(y.c.held ||tk && decide (y.c.so.want.a=0)):=⟨_,rfl⟩
  obtain⟨H4,s4,h4⟩:=J.put 16 (v:=.bool R) {y.c with held:=R} rfl (by decide) rfl ⟨rfl,rfl,rfl,rfl⟩ ⟨rfl,rfl⟩ {J.c.w with};have s4:Op.store 1 [.ptr X.p 16,.bool R] H3=some (.undef,H4):=s4;have r2:=λ{E:Env}{Q:aF}=>rest2 (v:=v) (tk:=tk) (E:=E) (Q:=Q) hu h4 (by show y.o.length<=990;rw[ho];exact hl);have m:y.given v tk=CS.mr {y with c:={y.c with held:=R}} v tk:=by rw[Xv,O]
  obtain⟨d,e2'⟩:∃d:CS,d = {y with c:={y.c with held:=R}}:=⟨_,rfl⟩
  rw[<-e2']at r2 m h4;have c4:dH H4 o3 X.p X.f X.l X.sp X.cv I G X.pv d.c d.o (X.k+(n+1)):=h4.c;obtain⟨g4,fv4,r⟩:=c4.so;rw[m]at x;cases hh:y.c.held with
  |true =>
   have e1:R=true:=by rw[O,hh];rfl
   rw[e1]at s4;simp only[aa,bc,zf,aA,j,E2,Y,E6,c3.bq,hh,s4];simp only[aa,bc,aA,c4.bq,eE r,HB r];exact r2 j E4 Y rfl rfl x
  |false =>
   cases tk with
   |false =>
    have e1:R=false:=by rw[O,hh];rfl
    rw[e1]at s4;simp only[aa,bc,zf,aA,j,E2,Y,E6,c3.bq,hh,s4];simp only[aa,bc,aA,c4.bq,eE r,HB r];exact r2 j E4 Y rfl rfl x
   |true =>
    by_cases qa:s.c.so.want.a=0
    .have e1:R=true:=by rw[O,hh,hc,kj qa];rfl
     rw[e1]at s4;simp only[aa,bc,zf,aA,j,E2,Y,E6,c3.bq,hh,s4,m1,xb qa];simp only[aa,bc,aA,c4.bq,eE r,HB r];exact r2 j E4 Y rfl rfl x
    .have e1:R=false:=by rw[O,hh,hc,j9 qa];rfl
     rw[e1]at s4;simp only[aa,bc,zf,aA,j,E2,Y,E6,c3.bq,hh,s4,m1,qa];simp only[aa,bc,aA,c4.bq,eE r,HB r];exact r2 j E4 Y rfl rfl x
 by_cases q1:s.c.so.want.op=1
 .rw [qr q1];simp only[aa,bc,zf,aA,MS,s2,k0,k1,xb q1];refine C3.q (Nj (M:=M) hr hk s.c.so.want.a) λ w H3⟨hw,hu,o3,I,G,L,A,V3,J⟩=>?_;subst hw;cases b:(s.jV s.c.so.want.a).2 with
  |true =>
   rw[qr rfl];simp only[aa,bc,aA];exact rest hu J rfl rfl rfl rfl rfl rfl rfl λ ex E D H' he hD hs=>by rcases he with rfl|rfl<;>subst hD<;>exact hs
  |false =>
   rw[qo (by decide)];simp only[aa,bc,zf,aA];exact u.back J.here
 rw[qo q1]
 by_cases q2:s.c.so.want.op=2
 .rw [qr q2];simp only[aa,bc,zf,aA,MS,s2,k0,k1,k2,q1,xb q2];refine C3.q (NZ (M:=M) hr hk s.c.so.want.a hs.qu) λ w H3⟨hw,o3,I,G,L,A,V3,J⟩=>?_;subst hw;cases b:s.uf s.c.so.want.a s.c.so.want.v with
  |true =>
   rw[qr rfl];simp only[aa,bc];exact rest bF J rfl rfl rfl rfl rfl rfl rfl λ ex E D H' he hD hs=>by rcases he with rfl|rfl<;>subst hD<;>exact hs
  |false =>
   rw[qo (by decide)];simp only[aa,bc,zf];exact u.back J.here
 rw[qo q2]
 by_cases q3:s.c.so.want.op=3
 .rw [qr q3];simp only[aa,bc,zf,aA,MS,s2,k0,k1,k2,k3,q1,q2,xb q3];refine C3.q (Ic (M:=M) hr hk s.c.so.want.a s.c.so.want.o hs.qu) λ w H3⟨hw,o3,I,G,L,A,V3,J⟩=>?_;subst hw;cases b:(s.xT s.c.so.want.a s.c.so.want.o).2 with
  |true =>
   rw[qr rfl];simp only[aa,bc,aA];exact rest bF J rfl rfl rfl rfl rfl rfl rfl λ ex E D H' he hD hs=>by rcases he with rfl|rfl<;>subst hD<;>exact hs
  |false =>
   rw[qo (by decide)];simp only[aa,bc,zf,aA];exact u.back J.here
 rw[qo q3];simp only[aa,bc,zf,aA,MS,s2,k0,q1,q2,q3];exact u.back (u.re.dT (by omega))
end
end Go.Am
namespace Go.Am
open Lang Go.Proofs
variable{M:ak}[MK M]
def Gr(o:Nat)(x y:Int):fM (Ew o x y):=by unfold Ew;(repeat' split)<;>exact Ek _
structure N7(e:mE):Prop where
 v:fM e.value
 a:fM e.addr
 k:e.kind=0\/e.kind=1\/e.kind=2\/e.kind=3\/e.kind=4\/e.kind=5\/e.kind=6\/e.kind=7
def wP{p:Prop}[Decidable p]{x y:mE}(a:N7 x)(b:N7 y):N7 (if p then x else y):=by split;exact a;exact b
def QH(i:gO)(pc:Int)(q:Bool):N7 (mP i pc q):=wP (wP ⟨bF,bF,.inl rfl⟩ ⟨bF,bF,.inr (.inr (.inl rfl))⟩) ⟨bF,bF,.inr (.inr (.inl rfl))⟩
def J2(i:gO){rs:List Int}{pc:Int}(a:rs.length=8)(hr:∀x∈rs,fM x):N7 (i.fO rs pc):=by
 unfold gO.fO;refine wP ⟨bF,bF,.inl rfl⟩ (wP ⟨bF,bF,by simp⟩ (wP ⟨Ek _,bF,by simp⟩ (wP ⟨PT a hr _,bF,by simp⟩ (wP ⟨Gr _ _ _,bF,by simp⟩ (wP ⟨bF,Ek _,by simp⟩ (wP ⟨PT a hr _,Ek _,by simp⟩ (wP (QH ..) (wP (QH ..) (wP (QH ..) (wP (QH ..) (wP ⟨bF,bF,by simp⟩ ⟨bF,bF,by simp⟩)))))))))))
def An(i:gO):(fh i).length=5:=rfl
def CS.nN(s:CS)(f:mE):CS :=
 let is:=G5 s.c f.addr
 let a:=8+f.addr
 if(f.kind=3\/f.kind=4)/\is=false\/f.kind=0\/s.c.la.lane≠0/\f.kind=5\/s.c.la.lane=0/\f.kind=6\/s.c.la.lane≠0/\f.kind=7 then s.cJ
 else if f.kind=7 then{s with c:={s.c with halted:=true}}
 else if f.kind=1 then(s.fi (·.set f.nQ f.value)).fm f.au
 else if f.kind=2 then s.fm f.au
 else if f.kind=3 then s.kY f a
 else if f.kind=4 then s.ic f a
 else if f.kind=5 then let t:=((s.fm f.au).fi .save).la .enter
  {t with c:={t.c with blocks:=aj .i64 (t.c.blocks+1),ph:=1}}
 else s.ends
def Ay(s:CS):s.mY=if(s.c.code.length:Int)<=s.c.fi.pc then if s.c.la.lane=0 then{s with c:={s.c with halted:=true}}else s.cJ else s.nN ((s.c.code.getD s.c.fi.pc.toNat ⟨0,0,0,0,0⟩).fO s.c.fi.rs s.c.fi.pc):=rfl
section
variable{X:SX}{n n':Nat}{s t:CS}{H H':ar}{o:Nat->Nat}{rv ov:AV}{bs:Bs}{own:Nat->Nat}{V:Int->L8}
def FN(h:dB X n s H o rv ov bs own V)(hk:X.k+n<=90000)(hl:s.o.length<=1000)(hS:u6 H):za M ql0 [.ptr X.p 0] H λ _ H'=>lA X (n+1) s.mY H':=by
 refine qvg ?_;rw[Ay];have ln:=ik (M:=M) h.c.la;have pc:=fpc (M:=M) h.c.fi;have pc0:=h.c.fi.w.pc;have lc:=h.c.cd.len
 by_cases W:(s.c.code.length:Int)<=s.c.fi.pc
 .rw [qr W]
  by_cases b:s.c.la.lane=0
  .rw [qr b];obtain⟨H1,s1,R⟩:=h.put 20 (v:=.bool true) {s.c with halted:=true} rfl (by decide) rfl ⟨rfl,rfl,rfl,rfl⟩ ⟨rfl,rfl⟩ {h.c.w with};simp only[aa,bc,z7,aA,h.c.bq,ln,pc,lc,xb W,xb b,s1];exact R.dT (by omega)
  .rw [qo b];simp only[aa,bc,z7,aA,h.c.bq,ln,pc,lc,xb W,b];refine C3.q (q9j (M:=M) h hk hl) λ _ H1 hp=>?_;simp only[aa,bc,z7];exact hp
 rw[qo W];obtain⟨i,hi⟩:∃i,s.c.code[s.c.fi.pc.toNat]? = some i:=⟨_,qt (by omega)⟩
 rw[zy,hi,vi];have ix:=h.c.cd.idx hi (z:=s.c.fi.pc) (Lx pc0).symm .i64;have ld:∀{H':ar},dU fh 5 H' X.cv s.c.code->Op.aq 5 [.ptr (aH X.cv) (cG 5 X.cv s.c.fi.pc.toNat)] H'=some (.agg (fh i)):=λ w=>w.aq An (by decide) hi;have wF:=ld h.c.cd;simp only[aa,bc,z7,aA,h.c.bq,ln,pc,lc,W,ix,wF];refine C3.q (XZ (M:=M) h.c.fi) λ v H1⟨hv,f1⟩=>?_;subst hv;obtain⟨o1,R,-⟩:=h.loc f1;have l2:Op.ae [.ptr X.p 2] H1=some X.cv:=R.c.row.ld 2;have ld1:=ld R.c.cd;simp only[aa,bc,R.c.bq,ld1];refine C3.q (FA (M:=M) (hS.em f1) (i:=i) (pc:=s.c.fi.pc) h.c.fi.w.r8 h.c.fi.w.ru) λ v m⟨hv,f2⟩=>?_;subst hv;obtain⟨vu,S,kk⟩:=J2 i (pc:=s.c.fi.pc) h.c.fi.w.r8 h.c.fi.w.ru;generalize i.fO s.c.fi.rs s.c.fi.pc=e at *;obtain⟨o2,h2,-⟩:=R.loc f2;obtain⟨J,Y⟩:∃Z,Z=(m.alloc (OR (aZ hO) jg)).set m.au (OR (aZ e) jg):=⟨_,rfl⟩
 have y:Op.store 5 [.ptr m.au 0,.agg (aZ e)] (m.alloc (OR (aZ hO) jg))=some (.undef,J):=by
  have:=(At.new m (aZ hO) jg).gK (k:=0) (n:=5) (v:=.agg (aZ e)) rfl (by simp[aZ]) rfl;rw[Y];exact this
 have f3:Fr Em m J:=Y▸((Fr.refl m).alloc _).set (.inr (qg _)) _;have n3:J.au=m.au+1:=by rw[Y,su,xx]
 have P:J.get m.au=some (OR (aZ e) jg):=by rw[Y,xc]
 have u:Op.ae [.ptr m.au 0] J=some (.int .i64 e.kind):=vd P 0;have k1:Op.ae [.ptr m.au 1] J=some (.int .i64 e.au):=vd P 1;have k2:Op.ae [.ptr m.au 2] J=some (.int .i64 e.nQ):=vd P 2;have k3:Op.ae [.ptr m.au 3] J=some (.int .u64 e.value):=vd P 3;have x:Op.ae [.ptr m.au 4] J=some (.int .u64 e.addr):=vd P 4;have k5:=C5 P;obtain⟨o3,g,lo⟩:=h2.loc f3;have U:=(lo m.au).1 ⟨qg _,by omega⟩;have hr:=g.re;have a:=M5 (M:=M) g.c S;have E:za M UN [.ptr X.p 0] J λ _ H'=>lA X (n+1) s.cJ H':=q9j (M:=M) g hk hl;rcases kk with q|q|q|q|q|q|q|q
 .have B:¬e.kind=1:=by omega
  have F:¬e.kind=2:=by omega
  have j:¬e.kind=3:=by omega
  have r:¬e.kind=4:=by omega
  have G:¬e.kind=5:=by omega
  have I:¬e.kind=6:=by omega
  have A:¬e.kind=7:=by omega
  have d:s.nN e=s.cJ:=by unfold CS.nN;simp[q]
  rw[d];simp only[aa,bc,z7,aA,jD,y,u,x,a,j,r,xb q];refine C3.q E λ _ D hp=>?_;simp only[aa,bc];exact hp
 .have a0:¬e.kind=0:=by omega
  have F:¬e.kind=2:=by omega
  have j:¬e.kind=3:=by omega
  have r:¬e.kind=4:=by omega
  have G:¬e.kind=5:=by omega
  have I:¬e.kind=6:=by omega
  have A:¬e.kind=7:=by omega
  have d:s.nN e=(s.fi (·.set e.nQ e.value)).fm e.au:=by unfold CS.nN;simp[q]
  rw[d]
  by_cases b:s.c.la.lane=0
  .simp only[aa,bc,z7,aA,jD,y,u,k2,k3,x,a,g.c.bq,a0,j,r,I,A,xb q,xb b];refine C3.q (Lc (M:=M) g.c.fi e.nQ vu) λ _ D hp=>?_;obtain⟨o4,O,L,T,Q,V4,C⟩:=hr.co (t:=s.fi (·.set e.nQ e.value)) rfl rfl (g.c.Gy hp) (qg _);have c4:dH D o4 X.p X.f X.l X.sp X.cv O L X.pv (s.fi (·.set e.nQ e.value)).c s.o (X.k+n):=C.c;have m1:Op.ae [.ptr m.au 1] D=some (.int .i64 e.au):=vd (pC (C.lo U).2 P) 1;simp only[aa,bc,m1];refine C3.q (I2 (M:=M) (s:=s.fi (·.set e.nQ e.value)) c4 e.au) λ _ K hp=>?_;simp only[aa,bc];exact g.back ((C.co (t:=(s.fi (·.set e.nQ e.value)).fm e.au) rfl rfl hp (qg _)).mono (by omega))
  .simp only[aa,bc,z7,aA,jD,y,u,k2,k3,x,a,g.c.bq,a0,j,r,G,A,xb q,b];refine C3.q (Lc (M:=M) g.c.fi e.nQ vu) λ _ D hp=>?_;obtain⟨o4,O,L,T,Q,V4,C⟩:=hr.co (t:=s.fi (·.set e.nQ e.value)) rfl rfl (g.c.Gy hp) (qg _);have c4:dH D o4 X.p X.f X.l X.sp X.cv O L X.pv (s.fi (·.set e.nQ e.value)).c s.o (X.k+n):=C.c;have m1:Op.ae [.ptr m.au 1] D=some (.int .i64 e.au):=vd (pC (C.lo U).2 P) 1;simp only[aa,bc,m1];refine C3.q (I2 (M:=M) (s:=s.fi (·.set e.nQ e.value)) c4 e.au) λ _ K hp=>?_;simp only[aa,bc];exact g.back ((C.co (t:=(s.fi (·.set e.nQ e.value)).fm e.au) rfl rfl hp (qg _)).mono (by omega))
 .have a0:¬e.kind=0:=by omega
  have B:¬e.kind=1:=by omega
  have j:¬e.kind=3:=by omega
  have r:¬e.kind=4:=by omega
  have G:¬e.kind=5:=by omega
  have I:¬e.kind=6:=by omega
  have A:¬e.kind=7:=by omega
  have d:s.nN e=s.fm e.au:=by unfold CS.nN;simp[q]
  rw[d]
  by_cases b:s.c.la.lane=0
  .simp only[aa,bc,z7,aA,jD,y,u,k1,x,a,a0,B,j,r,I,A,xb q,xb b];refine C3.q (I2 (M:=M) g.c e.au) λ _ K hp=>?_;simp only[aa,bc];exact(g.co (t:=s.fm e.au) rfl rfl hp (qg _)).mono (by omega)
  .simp only[aa,bc,z7,aA,jD,y,u,k1,x,a,a0,B,j,r,G,A,xb q,b];refine C3.q (I2 (M:=M) g.c e.au) λ _ K hp=>?_;simp only[aa,bc];exact(g.co (t:=s.fm e.au) rfl rfl hp (qg _)).mono (by omega)
 .have a0:¬e.kind=0:=by omega
  have B:¬e.kind=1:=by omega
  have F:¬e.kind=2:=by omega
  have r:¬e.kind=4:=by omega
  have G:¬e.kind=5:=by omega
  have I:¬e.kind=6:=by omega
  have A:¬e.kind=7:=by omega
  cases N:CS.G5 s.c e.addr with
  |true =>
   have d:s.nN e=s.kY e (8+e.addr):=by unfold CS.nN;simp[q,N]
   rw[d];rw[N,qr rfl]at a
   by_cases b:s.c.la.lane=0
   .simp only[aa,bc,z7,aA,jD,y,u,x,k5,a,a0,B,F,I,A,xb q,xb b];refine C3.q (u2 (M:=M) g hk hl e S (8+e.addr)) λ _ K hp=>?_;simp only[aa,bc];exact hp
   .simp only[aa,bc,z7,aA,jD,y,u,x,k5,a,a0,B,F,G,A,xb q,b];refine C3.q (u2 (M:=M) g hk hl e S (8+e.addr)) λ _ K hp=>?_;simp only[aa,bc];exact hp
  |false =>
   rw[N,qo (by decide)]at a;have d:s.nN e=s.cJ:=by unfold CS.nN;simp[q,N]
   rw[d];simp only[aa,bc,z7,aA,jD,y,u,x,a,xb q];refine C3.q E λ _ D hp=>?_;simp only[aa,bc];exact hp
 .have a0:¬e.kind=0:=by omega
  have B:¬e.kind=1:=by omega
  have F:¬e.kind=2:=by omega
  have j:¬e.kind=3:=by omega
  have G:¬e.kind=5:=by omega
  have I:¬e.kind=6:=by omega
  have A:¬e.kind=7:=by omega
  cases N:CS.G5 s.c e.addr with
  |true =>
   have d:s.nN e=s.ic e (8+e.addr):=by unfold CS.nN;simp[q,N]
   rw[d];rw[N,qr rfl]at a
   by_cases b:s.c.la.lane=0
   .simp only[aa,bc,z7,aA,jD,y,u,x,k5,a,a0,B,F,j,I,A,xb q,xb b];refine C3.q (ZO (M:=M) g hk hl e S vu (8+e.addr)) λ _ K hp=>?_;simp only[aa,bc];exact hp
   .simp only[aa,bc,z7,aA,jD,y,u,x,k5,a,a0,B,F,j,G,A,xb q,b];refine C3.q (ZO (M:=M) g hk hl e S vu (8+e.addr)) λ _ K hp=>?_;simp only[aa,bc];exact hp
  |false =>
   rw[N,qo (by decide)]at a;have d:s.nN e=s.cJ:=by unfold CS.nN;simp[q,N]
   rw[d];simp only[aa,bc,z7,aA,jD,y,u,x,a,j,xb q];refine C3.q E λ _ D hp=>?_;simp only[aa,bc];exact hp
 .have a0:¬e.kind=0:=by omega
  have B:¬e.kind=1:=by omega
  have F:¬e.kind=2:=by omega
  have j:¬e.kind=3:=by omega
  have r:¬e.kind=4:=by omega
  have I:¬e.kind=6:=by omega
  have A:¬e.kind=7:=by omega
  by_cases b:s.c.la.lane=0
  .have d:s.nN e=(let t:=((s.fm e.au).fi .save).la .enter
    {t with c:={t.c with blocks:=aj .i64 (t.c.blocks+1),ph:=1}}):=by unfold CS.nN;simp[q,b]
   rw[d];simp only[aa,bc,z7,aA,jD,y,u,k1,x,a,a0,B,F,j,r,I,A,xb q,xb b];refine C3.q (I2 (M:=M) g.c e.au) λ _ D hp=>?_;obtain⟨o4,O,L,T,Q,V4,C⟩:=g.co (t:=s.fm e.au) rfl rfl hp (qg _);simp only[aa,bc,aA,C.c.bq];refine C3.q (OX (M:=M) C.c.fi) λ _ K hp=>?_;obtain⟨o5,rv5,ov5,bs5,own5,V5,h5⟩:=C.co (t:=(s.fm e.au).fi .save) rfl rfl (C.c.Gy hp) (qg _);simp only[aa,bc,aA,h5.c.bq];refine C3.q (I0 (M:=M) h5.c.la) λ _ H6 hp=>?_;obtain⟨o6,rv6,ov6,bs6,own6,V6,h6⟩:=h5.co (t:=((s.fm e.au).fi .save).la .enter) rfl rfl (h5.c.S6 hp) (qg _);obtain⟨t,ht⟩:∃t:CS,t=((s.fm e.au).fi .save).la .enter:=⟨_,rfl⟩
   rw[<-ht]at h6;rw[<-ht];obtain⟨H7,s7,h7⟩:=h6.put 18 (v:=.int .i64 (aj .i64 (t.c.blocks+1))) {t.c with blocks:=aj .i64 (t.c.blocks+1)} rfl (by decide) rfl ⟨rfl,rfl,rfl,rfl⟩ ⟨rfl,rfl⟩ {h6.c.w with};obtain⟨H8,s8,h8⟩:=h7.put 6 (v:=.int .i64 1) {t.c with blocks:=aj .i64 (t.c.blocks+1),ph:=1} rfl (by decide) rfl ⟨rfl,rfl,rfl,rfl⟩ ⟨rfl,rfl⟩ {h7.c.w with};simp only[aa,bc,aA,h6.c.bq,s7,s8];exact h8.dT (by omega)
  .have d:s.nN e=s.cJ:=by unfold CS.nN;simp[q,b]
   rw[d];simp only[aa,bc,z7,aA,jD,y,u,x,a,a0,j,r,xb q,b];refine C3.q E λ _ D hp=>?_;simp only[aa,bc];exact hp
 .have a0:¬e.kind=0:=by omega
  have B:¬e.kind=1:=by omega
  have F:¬e.kind=2:=by omega
  have j:¬e.kind=3:=by omega
  have r:¬e.kind=4:=by omega
  have G:¬e.kind=5:=by omega
  have A:¬e.kind=7:=by omega
  by_cases b:s.c.la.lane=0
  .have d:s.nN e=s.cJ:=by unfold CS.nN;simp[q,b]
   rw[d];simp only[aa,bc,z7,aA,jD,y,u,x,a,a0,j,r,xb q,xb b];refine C3.q E λ _ D hp=>?_;simp only[aa,bc];exact hp
  .have d:s.nN e=s.ends:=by unfold CS.nN;simp[q,b]
   rw[d];simp only[aa,bc,z7,aA,jD,y,u,x,a,a0,B,F,j,r,G,A,b];refine C3.q (JJ (M:=M) g hk hl) λ _ K hp=>?_;simp only[aa,bc];exact hp
 .have a0:¬e.kind=0:=by omega
  have B:¬e.kind=1:=by omega
  have F:¬e.kind=2:=by omega
  have j:¬e.kind=3:=by omega
  have r:¬e.kind=4:=by omega
  have G:¬e.kind=5:=by omega
  have I:¬e.kind=6:=by omega
  by_cases b:s.c.la.lane=0
  .have d:s.nN e = {s with c:={s.c with halted:=true}}:=by unfold CS.nN;simp[q,b]
   rw[d];obtain⟨D,s4,C⟩:=g.put 20 (v:=.bool true) {s.c with halted:=true} rfl (by decide) rfl ⟨rfl,rfl,rfl,rfl⟩ ⟨rfl,rfl⟩ {g.c.w with};simp only[aa,bc,z7,aA,jD,y,u,x,a,a0,j,r,I,xb q,xb b,s4];exact C.dT (by omega)
  .have d:s.nN e=s.cJ:=by unfold CS.nN;simp[q,b]
   rw[d];simp only[aa,bc,z7,aA,jD,y,u,x,a,a0,j,r,G,xb q,b];refine C3.q E λ _ D hp=>?_;simp only[aa,bc];exact hp
end
end Go.Am
namespace Go.Am
open Lang Go.Proofs
variable{M:ak}[MK M]
section
variable{X:SX}{n n':Nat}{s t:CS}{H H':ar}{o:Nat->Nat}{rv ov:AV}{bs:Bs}{own:Nat->Nat}{V:Int->L8}
def N6(h:dB X n s H o rv ov bs own V)(hk:X.k+n+1<=90000)(hl:s.o.length<=990)(P:u6 H):za M WM [.ptr X.p 0] H λ _ H'=>lA X (n+2) s.act H':=by
 refine q18 ?_;have d:X.k+n<=90000:=by omega
 have f:s.o.length<=1000:=by omega
 unfold CS.act;simp only
 by_cases e:s.c.ph=0
 .rw [qr e];simp only[aa,bc,jq,aA,h.c.bq,xb e];refine C3.q (FN (M:=M) h d f P) λ _ H1 hp=>?_;simp only[aa,bc];exact hp.mono (by omega)
 rw[qo e]
 by_cases g:s.c.ph=1
 .rw [qr g];simp only[aa,bc,jq,aA,h.c.bq,e,xb g];refine C3.q (DH (M:=M) h d f) λ _ H1 hp=>?_;simp only[aa,bc];exact hp.mono (by omega)
 rw[qo g]
 by_cases i:s.c.ph=2
 .rw [qr i];simp only[aa,bc,jq,aA,h.c.bq,e,g,xb i];refine C3.q (Nj (M:=M) h d 1) λ v H1⟨y,hu,o1,u,m,j,nH,G,a⟩=>?_;subst y;cases b:(s.jV 1).2 with
  |false =>
   rw[qo (by decide)];simp only[aa,bc,jq,aA];exact a.dT (by omega)
  |true =>
   rw[qr rfl];obtain⟨F,s2,l⟩:=a.put 6 (v:=.int .i64 3) {s.c with ph:=3} rfl (by decide) rfl ⟨rfl,rfl,rfl,rfl⟩ ⟨rfl,rfl⟩ {a.c.w with}
   by_cases z:(s.jV 1).1=0
   .rw [qo (λ w=>w z)];simp only[aa,bc,jq,aA,s2,xb z];exact l.dT (by omega)
   .rw [qr z];simp only[aa,bc,jq,aA,s2,z,l.c.bq,SX.pv,uV,Xg];refine C3.q (VX (M:=M) (s:=(s.ld 1).ph 3) l (by omega) 6) λ _ N hp=>?_;simp only[aa,bc];exact hp
 rw[qo i]
 by_cases r:s.c.ph=3
 .rw [qr r];simp only[aa,bc,jq,aA,h.c.bq,e,g,i,xb r];refine C3.q (Nj (M:=M) h d 0) λ v H1⟨y,hu,o1,u,m,j,nH,G,a⟩=>?_;subst y;cases b:(s.jV 0).2 with
  |false =>
   rw[qo (by decide)];simp only[aa,bc,aA];exact a.dT (by omega)
  |true =>
   rw[qr rfl];obtain⟨F,s2,l⟩:=a.put 12 (v:=.int .u64 (s.jV 0).1) {s.c with seq:=(s.jV 0).1} rfl (by decide) rfl ⟨rfl,rfl,rfl,rfl⟩ ⟨rfl,rfl⟩ {a.c.w with};obtain⟨N,L,I⟩:=l.put 6 (v:=.int .i64 0) {s.c with seq:=(s.jV 0).1,ph:=0} rfl (by decide) rfl ⟨rfl,rfl,rfl,rfl⟩ ⟨rfl,rfl⟩ {l.c.w with}
   by_cases z:(s.jV 0).1 % 2=1
   .rw [qr z];simp only[aa,bc,jq,aA,s2,L,oi hu,xb z,I.c.bq,SX.pv,uV,Xg];refine C3.q (VX (M:=M) (s:={s.ld 0 with c:={s.c with seq:=(s.jV 0).1,ph:=0}}) I (by omega) 6) λ _ Q hp=>?_;simp only[aa,bc];exact hp
   .rw [qo z];simp only[aa,bc,jq,aA,s2,L,oi hu,z];exact I.dT (by omega)
 rw[qo r]
 by_cases x:s.c.ph=4
 .rw [qr x];simp only[aa,bc,jq,aA,h.c.bq,e,g,i,r,xb x];refine C3.q (Nj (M:=M) h d 0) λ v H1⟨y,hu,o1,u,m,j,nH,G,a⟩=>?_;subst y;cases b:(s.jV 0).2 with
  |false =>
   rw[qo (λ w=>by cases w.1)];simp only[aa,bc,jq,aA];exact a.dT (by omega)
  |true =>
   by_cases z:(s.jV 0).1 % 2=0
   .rw [qr ⟨rfl,z⟩];obtain⟨F,s2,l⟩:=a.put 12 (v:=.int .u64 (s.jV 0).1) {s.c with seq:=(s.jV 0).1} rfl (by decide) rfl ⟨rfl,rfl,rfl,rfl⟩ ⟨rfl,rfl⟩ {a.c.w with};obtain⟨N,L,I⟩:=l.put 6 (v:=.int .i64 5) {s.c with seq:=(s.jV 0).1,ph:=5} rfl (by decide) rfl ⟨rfl,rfl,rfl,rfl⟩ ⟨rfl,rfl⟩ {l.c.w with};simp only[aa,bc,jq,aA,oi hu,xb z,s2,L];exact I.dT (by omega)
   .rw [qo (λ w=>z w.2)];simp only[aa,bc,jq,aA,oi hu,z];exact a.dT (by omega)
 rw[qo x]
 by_cases A:s.c.ph=5
 .rw [qr A];simp only[aa,bc,jq,aA,h.c.bq,e,g,i,r,x,xb A];refine C3.q (FD (M:=M) h d f) λ _ H1 hp=>?_;simp only[aa,bc];exact hp.mono (by omega)
 rw[qo A]
 by_cases C:s.c.ph=6
 .rw [qr C];simp only[aa,bc,jq,aA,h.c.bq,e,g,i,r,x,A,xb C];refine C3.q (FV (M:=M) h d hl) λ _ H1 hp=>?_;simp only[aa,bc];exact hp.mono (by omega)
 rw[qo C];have O:=NZ (M:=M) h d 0 (Ek (s.c.seq+2))
 by_cases D:s.c.ph=7
 .rw [qr D];unfold CS.gG;simp only;simp only[aa,bc,jq,aA,h.c.bq,e,g,i,r,x,A,C,xb D];refine C3.q O λ v H1⟨y,o1,u,m,j,nH,G,a⟩=>?_;subst y;cases b:s.uf 0 (aj .u64 (s.c.seq+2))with
  |false =>
   rw[qo (by decide)];simp only[aa,bc];exact a.dT (by omega)
  |true =>
   rw[qr rfl];obtain⟨F,s2,l⟩:=a.put 6 (v:=.int .i64 8) {s.c with ph:=8} rfl (by decide) rfl ⟨rfl,rfl,rfl,rfl⟩ ⟨rfl,rfl⟩ {a.c.w with};simp only[aa,bc,aA,s2];exact l.dT (by omega)
 rw[qo D]
 by_cases E:s.c.ph=8
 .rw [qr E];simp only[aa,bc,jq,aA,h.c.bq,e,g,i,r,x,A,C,D,xb E,SX.pv,uV,XQ];refine C3.q (V9 (M:=M) h d) λ _ H1⟨o1,u,m,j,nH,G,a⟩=>?_;simp only[aa,bc];refine C3.q (N5 (M:=M) (s:=s.kJ 4 0 0 0) a.c f) λ _ F hp=>?_;simp only[aa,bc];exact(a.co (t:=(s.kJ 4 0 0 0).cz) (NQ _) (Py _) hp (qg _)).mono (by omega)
 rw[qo E]
 by_cases J:s.c.ph=9
 .rw [qr J];simp only[aa,bc,jq,aA,h.c.bq,e,g,i,r,x,A,C,D,E,xb J];refine C3.q (GX (M:=M) h d f) λ _ H1 hp=>?_;simp only[aa,bc];exact hp.mono (by omega)
 rw[qo J]
 by_cases K:s.c.ph=10
 .rw [qr K];unfold CS.gG;simp only;simp only[aa,bc,jq,aA,h.c.bq,e,g,i,r,x,A,C,D,E,J,xb K];refine C3.q O λ v H1⟨y,o1,u,m,j,nH,G,a⟩=>?_;subst y;cases b:s.uf 0 (aj .u64 (s.c.seq+2))with
  |false =>
   rw[qo (by decide)];simp only[aa,bc];exact a.dT (by omega)
  |true =>
   rw[qr rfl];simp only[aa,bc];refine C3.q (Vy (M:=M) (s:=s.st 0 (aj .u64 (s.c.seq+2))) a.c f) λ _ F hp=>?_;simp only[aa,bc];exact(a.co (t:=(s.st 0 (aj .u64 (s.c.seq+2))).breaks) rfl rfl hp (qg _)).mono (by omega)
 rw[qo K];simp only[aa,bc,jq,aA,h.c.bq,e,g,i,r,x,A,C,D,E,J,K];exact h.dT (by omega)
end
end Go.Am
namespace Go.Am
open Lang Go.Proofs
variable{M:ak}[MK M]
section
variable{H H0:ar}{B:Nat}{s:Bs}{b:Bu}{own:Nat->Nat}
def xhh(h:eV H0 H B s b own)(hb:BB b){c:Nat}{n:No}(hn:b.ns[c]? = some n):za M RN [.ptr B 0,.int .i64 (c:Int)] H λ v H'=>v=.int .i64 n.code/\H'=H:=by
 refine q4q ?_;simp only[aa,bc,q4r];refine C3.q (Gn (M:=M) h hb.N4 (c:Int)) λ v l⟨a,j,_⟩=>?_;have hl:=(qk.1 hn).1;obtain⟨A,g,d⟩:=j ⟨by omega,by omega⟩;rw[EM]at g;rw[d,a];have i:=h.no _ n A hn g;have e:Op.ae [.ptr A.r 16] H=some (.int .i64 n.code):=(i.ld 16).trans (Ex n A.b A.bv).2.2.2.2.2.2.1;simp only[aa,bc,xe];refine C3.q (R:=λ v H'=>v=.int .i64 n.code/\H'=H) ?_ λ v m⟨d,a⟩=>?_
 .refine qyk ?_;obtain⟨w0,k,f⟩:=qyl M ⟨none,i2⟩;simp only[aa,bc,w0,k,yq,f,qn,e]
 rw[d,a];simp only[aa,bc]
end
structure Hg(X:SX)(n:Nat)(x:Co)(y:Bu)(H:ar)(o:Nat->Nat)(rv:AV)(bs:Bs)(own:Nat->Nat)(V:Int->L8):Prop where
 c:dH H o X.p X.f X.l X.sp X.cv rv .nils .nili x [] (X.k+n)
 b:eV X.Hb H X.B bs y own
 I:BuI y V
 C:BC y (X.k+n)
 U:xP y
 nn:x.id<y.ns.length
 dj:∀z,i4 X.B bs z->o z=0
 hb:∀z,z<H.au->o z≠0->X.Hb.au<=z
 go:∀z,z<H.au->o z≠0->(z<X.H.au/\X.o z≠0)\/X.H.au<=z
 gb:∀z,i4 X.B bs z->X.W z\/X.H.au<=z
 fr:Fr (λ z=>X.o z≠0\/X.W z) X.H H
section
variable{X:SX}{n n':Nat}{s t:CS}{c:Co}{b:Bu}{H H':ar}{o:Nat->Nat}{rv ov:AV}{bs:Bs}{own:Nat->Nat}{V:Int->L8}
def Cq{x:Nat}{Y:ar}(h:o X.p=1)(hr:eV X.Hb H X.B bs b own)(dj:∀z,i4 X.B bs z->o z=0)(hb:∀z,z<H.au->o z≠0->X.Hb.au<=z)(hp:X.p<H.au)(f:Fr (On X.p) H Y):eV X.Hb Y X.B bs b own :=
 hr.fr f λ z(q:z=X.p)=>⟨by rw[q];exact hb _ hp (by rw[h];decide),λ e=>by rw[q]at e;have:=dj _ e;omega⟩
def Hg.open(h:Hg X n c b H o rv bs own V):∃H1 g,Op.store 1 [.ptr X.p 22,.nils] H=some (.undef,H1)/\Op.store 1 [.ptr X.p 23,X.pv] H1=some (.undef,g)/\dB X n ⟨c,b,[]⟩ g o rv .nils bs own V/\Fr (On X.p) H g/\Fr (On X.p) H H1:=by
 obtain⟨a,i⟩:=h.c.cell (d:=c) (k':=X.k+n) ⟨rfl,rfl,rfl,rfl⟩ (rv':=rv) (ov':=.nils) (pv':=.nili) (os':=[]) ⟨h.c.rd,h.c.pO⟩ ⟨Own.nil ..,λ z q=>(q.1 rfl).elim⟩ rfl h.c.w;have s1:=h.c.row.st 22 (v:=.nils) rfl (by simp[cu]);have j:(cu c X.f X.l X.sp X.cv rv .nils .nili).set 22 .nils=cu c X.f X.l X.sp X.cv rv .nils .nili:=rfl;rw[j]at s1;have s2:=a.row.st 23 (v:=X.pv) rfl (by simp[cu]);obtain⟨u,r⟩:=a.cell (d:=c) (k':=X.k+n) ⟨rfl,rfl,rfl,rfl⟩ (rv':=rv) (ov':=.nils) (pv':=X.pv) (os':=[]) ⟨a.rd,a.pO⟩ ⟨Own.nil ..,λ z q=>(q.1 rfl).elim⟩ rfl h.c.w;have m:(cu c X.f X.l X.sp X.cv rv .nils .nili).set 23 X.pv=cu c X.f X.l X.sp X.cv rv .nils X.pv:=rfl;rw[m]at s2;have f:=i.trans r λ z q=>.inl q;refine⟨_,_,s1,s2,⟨u,Cq (x:=0) h.c.op h.b h.dj h.hb h.c.row.2 f,h.I,h.C,h.U,h.nn,h.dj,h.hb,h.go,h.gb,h.fr.trans f λ z(q:z=X.p)=>?_⟩,f,i⟩;rw[q];exact(h.go X.p h.c.row.2 (by rw[h.c.op];decide)).imp (λ e=>.inl e.2) id
def dB.close(h:dB X n s H o rv ov bs own V):∃H1 a,Op.store 1 [.ptr X.p 22,.nils] H=some (.undef,H1)/\Op.store 1 [.ptr X.p 23,.nili] H1=some (.undef,a)/\Hg X n s.c s.b a o rv bs own V/\a9 iq.enc yv 9 a ov s.o/\(∀z,aW ov z->o z=6)/\Fr (On X.p) H a/\Fr (On X.p) H H1:=by
 obtain⟨g,i⟩:=h.c.cell (d:=s.c) (k':=X.k+n) ⟨rfl,rfl,rfl,rfl⟩ (rv':=rv) (ov':=.nils) (pv':=X.pv) (os':=[]) ⟨h.c.rd,h.c.pO⟩ ⟨Own.nil ..,λ z q=>(q.1 rfl).elim⟩ rfl h.c.w;have s1:=h.c.row.st 22 (v:=.nils) rfl (by simp[cu]);have j:(cu s.c X.f X.l X.sp X.cv rv ov X.pv).set 22 .nils=cu s.c X.f X.l X.sp X.cv rv .nils X.pv:=rfl;rw[j]at s1;have s2:=g.row.st 23 (v:=.nili) rfl (by simp[cu]);obtain⟨u,r⟩:=g.cell (d:=s.c) (k':=X.k+n) ⟨rfl,rfl,rfl,rfl⟩ (rv':=rv) (ov':=.nils) (pv':=.nili) (os':=[]) ⟨g.rd,g.pO⟩ ⟨Own.nil ..,λ z q=>(q.1 rfl).elim⟩ rfl h.c.w;have m:(cu s.c X.f X.l X.sp X.cv rv .nils X.pv).set 23 .nili=cu s.c X.f X.l X.sp X.cv rv .nils .nili:=rfl;rw[m]at s2;have f:=i.trans r λ z q=>.inl q;refine⟨_,_,s1,s2,⟨u,Cq (x:=0) h.c.op h.b h.dj h.hb h.c.row.2 f,h.I,h.C,h.U,h.nn,h.dj,h.hb,h.go,h.gb,h.fr.trans f λ z(q:z=X.p)=>?_⟩,Own.fr h.c.ou f λ z q=>h.c.np z (by rw[h.c.pV z q];decide),h.c.pV,f,i⟩;rw[q];exact(h.go X.p h.c.row.2 (by rw[h.c.op];decide)).imp (λ e=>.inl e.2) id
def Hg.em(h:Hg X n c b H o rv bs own V)(f:Fr Em H H'):Hg X n c b H' (aR o H.au 0) rv bs own V:=by
 have ho:∀z,z<H.au->aR o H.au 0 z=o z:=λ z q=>i6 q
 refine{h with c:=h.c.fr f (λ _ _ _ q=>q) ho (qg _),b:=h.b.em f,dj:=λ z q=>(ho z (h.b.low q)).trans (h.dj z q),hb:=λ z q e=>?_,go:=λ z q e=>?_,fr:=h.fr.em f}
 .rcases xq z H.au with w|w
  .rw [ho z w]at e;exact h.hb z w e
  .rw [mG w]at e;exact(e rfl).elim
 .rcases xq z H.au with w|w
  .rw [ho z w]at e;exact h.go z w e
  .rw [mG w]at e;exact(e rfl).elim
end
end Go.Am
namespace Go.Am
open Lang Go.Proofs
variable{M:ak}[MK M]
section
variable{X:SX}{n n':Nat}{s t:CS}{c:Co}{b:Bu}{H H':ar}{o:Nat->Nat}{rv ov:AV}{bs:Bs}{own:Nat->Nat}{V:Int->L8}
def Kn(X:SX)(n:Nat)(s:CS)(H:ar)(ov:AV):Prop:=∃o rv bs own V,Hg X n s.c s.b H o rv bs own V/\a9 iq.enc yv 9 H ov s.o /\ ∀z,aW ov z->o z=6
def xg8{d:Nat}{H1 a:ar}{p:Nat}(l1:Op.ae [.ptr d 0] H=some (.ptr p 0))(s1:Op.store 1 [.ptr p 22,.nils] H=some (.undef,H1))(s2:Op.store 1 [.ptr p 23,.nili] H1=some (.undef,a)):∃v,jJ M ke [.ptr d 0] (some []) H (.ret v) (some []) a:=by
 obtain⟨e,H',f,v,rfl,rfl⟩:=qth (M:=M) (up:=some []) (a0:=.ptr d 0) (H:=H) (Q:=λ e X=>∃v,e=.ret v/\X=a) (by
  simp only[aa,bc,qti,aA,l1,s1,s2];exact⟨_,rfl⟩)
 exact⟨v,f⟩
def Jq(h:Hg X n c b H o rv bs own V)(hk:X.k+n+1<=90000)(hS:u6 H)(oG:o wZ=0):za M Ll [.ptr X.p 0,X.pv] H λ v H'=>∃ov,v=.tuple [ov,.int .i64 (CS.step ⟨c,b,[]⟩).2]/\Kn X (n+2) (CS.step ⟨c,b,[]⟩).1 H' ov:=by
 refine qxx ?_;obtain⟨H1,Y,f1,n1,Z⟩:=bX H (OR [.ptr X.p 0] vx);have ca:AV.cells (.ptr X.p 0)=[.ptr X.p 0]:=rfl;have y:=h.em f1;have l1:Op.ae [.ptr H.au 0] H1=some (.ptr X.p 0):=vd Z 0;have od:aR o H.au 0 H.au=0:=mG (qg _)
 have W:=QX (M:=M) y.c;have en:∀H,Op.eq .iface false [X.pv,.nili] H=some (.bool false):=λ _=>rfl;have N:Op.ae [.ptr X.p 20] H1=some (.bool c.halted):=y.c.row.ld 20;have D:Op.ae [.ptr X.p 21] H1=some (.bool c.lM):=y.c.row.ld 21;have done:Kn X (n+2) ⟨c,b,[]⟩ H1 .nils:=⟨_,_,_,_,_,{y with c:=y.c.fr (Fr.refl _) (λ _ _ _ w=>w) (λ _ _=>rfl) (by omega),C:=y.C.mono (by omega)},Own.nil ..,λ z q=>(q.1 rfl).elim⟩
 unfold CS.step;simp only;cases qb:c.lM with
 |true =>
  rw[qr rfl];simp only[aa,bc,yt,ql,aA,ca,<-Y,l1,W,en,D,qb];exact⟨_,rfl,done⟩
 |false =>
 rw[qo (by decide)];cases qh:c.halted with
 |true =>
  rw[qr rfl];simp only[aa,bc,yt,ql,aA,ca,<-Y,l1,W,en,D,qb,N,qh];exact⟨_,rfl,done⟩
 |false =>
 rw[qo (by decide)];obtain⟨Ha,x,s1,s2,l,P,fa⟩:=y.open;have pd:H.au≠X.p:=λ e=>by have:=y.c.op;rw[<-e,od]at this;cases this
 have la:Op.ae [.ptr H.au 0] Ha=some (.ptr X.p 0):=vd (pC (fa.ah _ (by omega) pd) Z) 0;have g2:=pC (P.ah _ (by omega) pd) Z;have l2:Op.ae [.ptr H.au 0] x=some (.ptr X.p 0):=vd g2 0;have n2:=P.au
 have ld:zW x (aR o H.au 0) X.B bs H.au:=⟨by omega,od,λ w=>by have:=h.b.low w;omega⟩
 have mk:Op.bD ke 0 [.ptr H.au 0]=some (.fn (.func ke) [] [.ptr H.au 0]):=rfl;have hS2:u6 x:=by
  have a:u6 H1:=hS.em f1;have ne:¬On X.p wZ:=λ(e:wZ=X.p)=>by have:=h.c.op;rw[<-e,oG]at this;cases this
  exact⟨(P.cells a.2 ne).trans a.1,qj a.2 P.au⟩
 have I:=rP (M:=M) l.c.la;have lv:=KX (M:=M) l (by omega);have id0:=l.node.1;have U:∀K,C3 M true (.func RN) [.ptr X.B 0,.int .i64 c.id] x K=K true (.int .i64 (CS.node ⟨c,b,[]⟩).code) x:=dW (by
  have:=xhh (M:=M) l.b (l.bb (by omega)) l.node.2;rw[Lx id0]at this;exact this)
 have fin:∀{m:Nat}{S:CS}{i:ar}{o3:Nat->Nat}{G f:AV}{L:Bs}{A:Nat->Nat}{V3:Int->L8},m<=n+2->dB (X.at x (aR o H.au 0) bs) m S i o3 G f L A V3->Op.ae [.ptr H.au 0] i=some (.ptr X.p 0)/\Op.ae [.ptr X.p 22] i=some f /\ ∃v j,jJ M ke [.ptr H.au 0] (some []) i (.ret v) (some []) j/\Kn X (n+2) S j f:=λ hm q=>by
  have l3:=vd (pC (q.lo ld).2 g2) 0;have q':=l.rR q;obtain⟨Hc,j,t1,t2,r,ow,o6,_⟩:=q'.close;obtain⟨v,hv⟩:=xg8 (M:=M) l3 t1 t2;exact⟨l3,q'.c.row.ld 22,v,j,hv,_,_,_,_,_,{r with c:=r.c.fr (Fr.refl _) (λ _ _ _ w=>w) (λ _ _=>rfl) (by omega),C:=r.C.mono (by omega)},ow,o6⟩
 simp only[aa,bc,yt,xbm,aA,ca,<-Y,l1,W,en,D,qb,N,qh,s1,la,s2];refine⟨_,_,_,rfl,?_⟩
 -- the deferred call
 have go:∀{v:AV}{i:ar}{S:CS},Kn X (n+2) S i v -> ∀{T:ar}{u:AV},jJ M ke [.ptr H.au 0] (some []) T (.ret u) (some []) i -> ∀{E:Env},lk E 4=some v->lk E 5=some (.int .i64 0)->fj M [.tmp 4,.tmp 5] (ug λ v H'=>∃ov,v=.tuple [ov,.int .i64 0]/\Kn X (n+2) S H' ov) .ret E [.fn (.func ke) [.ptr H.au 0]] T:=λ{v i S}hR{T u}hu{E}E4 E5=>by
  refine⟨u,[],i,hu,bM.intro (m:=aG) (a:=none) rfl ?_⟩;show iQ E i [.tmp 4,.tmp 5] _;simp only[aa,bc,E4,E5];exact⟨v,rfl,hR⟩
 -- the core acts
 have act:za M WM [.ptr X.p 0] x λ _ i=>∃f u j,Op.ae [.ptr H.au 0] i=some (.ptr X.p 0)/\Op.ae [.ptr X.p 22] i=some f/\jJ M ke [.ptr H.au 0] (some []) i (.ret u) (some []) j/\Kn X (n+2) (CS.act ⟨c,b,[]⟩) j f:=(N6 (M:=M) l.re hk (xy _) hS2).mono λ _ i⟨o3,G,f,L,A,V3,q⟩=>by
  obtain⟨l3,g,u,j,hu,hR⟩:=fin (qg _) q;exact⟨f,u,j,l3,g,hu,hR⟩
 cases J:c.la.pG with
 |false =>
  rw[qo (λ w=>by cases w.1)];simp only[aa,bc,aA,l2,l.c.bq,I,J];refine C3.q act λ _ i⟨f,u,j,l3,g,hu,hR⟩=>?_;simp only[aa,bc,yt,aA,l3,g];exact go hR hu rfl rfl
 |true =>
  by_cases F:c.ph=1
  .rw [qo (λ w=>w.2.1 F)];have n1:¬(1:Int)≠1:=λ q=>q rfl;simp only[aa,bc,aA,l2,l.c.bq,I,J,F,n1];refine C3.q act λ _ i⟨f,u,j,l3,g,hu,hR⟩=>?_;simp only[aa,bc,yt,aA,l3,g];exact go hR hu rfl rfl
  cases R:(CS.node ⟨c,b,[]⟩).live with
  |true =>
   rw[qo (λ w=>by cases w.2.2)];simp only[aa,bc,aA,l2,l.c.bq,I,J,F,SX.pv,uV,RO,lv,R];refine C3.q act λ _ i⟨f,u,j,l3,g,hu,hR⟩=>?_;simp only[aa,bc,yt,aA,l3,g];exact go hR hu rfl rfl
  |false =>
   rw[qr ⟨rfl,F,rfl⟩];have ab:∀d,d=CS.oq ⟨c,b,[]⟩->za M VS [.ptr X.p 0,.int .i64 d] x λ _ i=>∃f u j,Op.ae [.ptr H.au 0] i=some (.ptr X.p 0)/\Op.ae [.ptr X.p 22] i=some f/\jJ M ke [.ptr H.au 0] (some []) i (.ret u) (some []) j/\Kn X (n+2) (CS.abort ⟨c,b,[]⟩ (CS.oq ⟨c,b,[]⟩)) j f:=λ d e=>(YL (M:=M) (s:=⟨c,b,[]⟩) l.c (xy _) d).mono λ _ i⟨o3,G,f,h3,a3,f3⟩=>by
    subst e;obtain⟨l3,g,u,j,hu,hR⟩:=fin (by omega) (l.re.GM (t:=CS.abort ⟨c,b,[]⟩ (CS.oq ⟨c,b,[]⟩)) rfl rfl h3 a3 f3 (qg _));exact⟨f,u,j,l3,g,hu,hR⟩
   by_cases O:(CS.node ⟨c,b,[]⟩).code<1
   .simp only[aa,bc,yt,aA,l2,l.c.bq,I,J,F,SX.pv,uV,RO,lv,R,Wq,U,O];refine C3.q (ab 5 (by unfold CS.oq;rw[qr (.inl O)])) λ _ i⟨f,u,j,l3,g,hu,hR⟩=>?_;simp only[aa,bc,yt,aA,l3,g];exact go hR hu rfl rfl
   by_cases Q:6<(CS.node ⟨c,b,[]⟩).code
   .simp only[aa,bc,yt,aA,l2,l.c.bq,I,J,F,SX.pv,uV,RO,lv,R,Wq,U,O,Q];refine C3.q (ab 5 (by unfold CS.oq;rw[qr (.inr Q)])) λ _ i⟨f,u,j,l3,g,hu,hR⟩=>?_;simp only[aa,bc,yt,aA,l3,g];exact go hR hu rfl rfl
   .simp only[aa,bc,yt,aA,l2,l.c.bq,I,J,F,SX.pv,uV,RO,lv,R,Wq,U,O,Q];refine C3.q (ab _ (by unfold CS.oq;rw[qo (λ w=>w.elim O Q)])) λ _ i⟨f,u,j,l3,g,hu,hR⟩=>?_;simp only[aa,bc,yt,aA,l3,g];exact go hR hu rfl rfl
end
end Go.Am
