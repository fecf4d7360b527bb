import Derived.Test.YtpnpgihabgglcaaGreatDoorAmBZk
import Derived.Test.YtpnpgihabgglcaaGreatDoorAmBZf
set_option linter.defProp false
set_option linter.unusedVariables false
set_option linter.unusedSimpArgs false
set_option linter.unusedSectionVars false
set_option maxRecDepth 100000
open Nat renaming reduceEqDiff→bc
namespace Go.Am
open Lang Go.Proofs
variable{M:ak}[MK M]
def yQ.wT{b:Bu}(h:yQ b)(i:Nat):yQ (b.wT i):=by
 unfold Bu.wT;cases hm:b.fl[i]? with
 |none=>exact h
 |some m =>
  have g:=h.f m (za hm);have d:pQ (b.fl.eraseIdx i):=λ x q=>h.f x (List.mem_of_mem_eraseIdx q);simp only;split
  .cases j:b.l[m.line.toNat]? with
   |none=>exact h
   |some x =>
    cases hw:b.m[m.line.toNat]? with
    |none=>exact h
    |some w =>
     obtain⟨a,c⟩:=De.Kq x (h.m w (za hw)) g;exact⟨λ y q=>(EJ q).elim (h.m y) λ e=>e▸a,h.n,d.app c⟩
  .cases hn:b.ns[m.core.toNat]? with
   |none=>exact h
   |some n =>
    obtain⟨a,c⟩:=No.U.bN (h.n n (za hn)) g;exact⟨h.m,λ y q=>(EJ q).elim (h.n y) λ e=>e▸a,d.app c⟩
def yQ.step{b:Bu}(h:yQ b)(x:Bt)(d:fM x.v):yQ (b.step x):=by
 unfold Bu.step;split
 .split
  .exact h.wT _
  .exact h
 split
 .cases hn:b.ns[x.c.toNat]? with
  |none=>exact h
  |some n =>
   have a:=h.n n (za hn);simp only;unfold No.call;split
   .exact h.put _ (No.U.load a _).1 (No.U.load a _).2.2
   split
   .exact h.put _ (No.U.store a _ d).1 (No.U.store a _ d).2
   split
   .exact h.put _ (No.U.mF a _ _ d).1 (No.U.mF a _ _ d).2
   split
   .exact h.put _ (No.U.begin a) .nil
   split
   .exact h.put _ (No.U.bw a) .nil
   split
   .exact h.put _ (No.U.abort a _) .nil
   split
   .exact h.put _ (No.U.cS a _).1 (No.U.cS a _).2
   .exact h.put _ a .nil
 .exact h
def VL{b:Bu}{x:Bt}{n:No}(hk:x.k≠7)(a:0<=x.c)(hn:b.ns[x.c.toNat]? = some n):b.step x=b.put x.c.toNat (n.call x):=by
 unfold Bu.step;rw[qo hk,qr a,hn]
structure SX where
 H:ar
 o:Nat->Nat
 W:Nat->Prop
 p:Nat
 f:Nat
 l:Nat
 sp:Nat
 B:Nat
 cv:AV
 Hb:ar
 k:Nat
abbrev SX.pv(X:SX):AV:=.iface Ep (.ptr X.B 0)
structure dI(X:SX)(n:Nat)(s:CS)(H:ar)(o:Nat->Nat)(rv ov:AV)(bs:Bs)(own:Nat->Nat)(V:Int->L8):Prop where
 c:dA H o X.p X.f X.l X.sp X.cv rv ov X.pv s.c s.o (X.k+n)
 b:eV X.Hb H X.B bs s.b own
 I:BuI s.b V
 C:BC s.b (X.k+n)
 U:yQ s.b
 nn:s.c.id<s.b.ns.length
 dj:∀z,i5 X.B bs z->o z=0
 hb:∀z,z<H.au->o z≠0->X.Hb.au<=z
 go:∀z,z<H.au->o z≠0->(z<X.H.au/\X.o z≠0)\/X.H.au<=z
 gb:∀z,i5 X.B bs z->X.W z\/X.H.au<=z
 fr:Fr (λ z=>X.o z≠0\/X.W z) X.H H
def kZ(X:SX)(n:Nat)(s:CS)(H:ar):Prop:=∃o rv ov bs own V,dI X n s H o rv ov bs own V
section
variable{X:SX}{n n':Nat}{s t:CS}{H H':ar}{o:Nat->Nat}{rv ov:AV}{bs:Bs}{own:Nat->Nat}{V:Int->L8}
def dI.hn(h:dI X n s H o rv ov bs own V):X.Hb.au<=H.au:=by
 have:=h.b.lo X.B (.inl rfl);have:=h.b.lt;omega
def dI.G0(h:dI X n s H o rv ov bs own V){o':Nat->Nat}{rv' ov':AV}(hb:t.b=s.b)(d:t.c.id=s.c.id)(g:dA H' o' X.p X.f X.l X.sp X.cv rv' ov' X.pv t.c t.o (X.k+n'))(a:∀z,z<H.au->o' z=o z)(f:Fr (λ z=>o z≠0) H H')(hn:n<=n'):dI X n' t H' o' rv' ov' bs own V:=by
 have i:=h.hn;have fn:=f.au
 have j:=h.fr.au
 refine⟨g,?_,by rw[hb];exact h.I,by rw[hb];exact h.C.mono (by omega),by rw[hb];exact h.U,by rw[hb,d];exact h.nn,λ z q=>(a z (h.b.low q)).trans (h.dj z q),λ z q e=>?_,λ z q e=>?_,h.gb,h.fr.trans f λ z q=>?_⟩
 .rw [hb];refine h.b.fr (f.mono (W':=λ z=>o z≠0/\z<H.au) λ z w q=>⟨q,w⟩) λ z⟨q,w⟩=>⟨h.hb z w q,λ e=>q (h.dj z e)⟩
 .rcases xr z H.au with w|w
  .rw [a z w]at e;exact h.hb z w e
  .omega
 .rcases xr z H.au with w|w
  .rw [a z w]at e;exact h.go z w e
  .exact .inr (by omega)
 .rcases xr z H.au with w|w
  .exact (h.go z w q).imp (λ e=>.inl e.2) id
  .exact .inr (by omega)
def dI.co(h:dI X n s H o rv ov bs own V)(hb:t.b=s.b)(d:t.c.id=s.c.id)(hp:gK H o X.p X.f X.l X.sp X.cv X.pv t.c t.o (X.k+n') H')(hn:n<=n'):kZ X n' t H':=by
 obtain⟨o',rv',ov',e,a,f⟩:=hp;exact⟨o',rv',ov',bs,own,V,h.G0 hb d e a f hn⟩
def kZ.mono(h:kZ X n s H)(hn:n<=n'):kZ X n' s H:=by
 obtain⟨o,rv,ov,bs,own,V,q⟩:=h;exact⟨o,rv,ov,bs,own,V,{q with c:=q.c.fr (Fr.refl H) (λ _ _ _ w=>w) (λ _ _=>rfl) (by omega),C:=q.C.mono (by omega)}⟩
def dI.em(h:dI X n s H o rv ov bs own V)(f:Fr Em H H'):∃o',dI X n s H' o' rv ov bs own V/\(∀z,z<H.au->o' z=o z) /\ ∀z,H.au<=z->o' z=0:=by
 have ho:∀z,z<H.au->aS o H.au 0 z=o z:=λ z q=>i4 q
 refine⟨aS o H.au 0,{h with c:=h.c.fr f (λ _ _ _ q=>q) ho (qg _),b:=h.b.em f,dj:=λ z q=>(ho z (h.b.low q)).trans (h.dj z q),hb:=λ z q e=>?_,go:=λ z q e=>?_,fr:=h.fr.em f},ho,λ z q=>mH q⟩
 .rcases xr z H.au with w|w
  .rw [ho z w]at e;exact h.hb z w e
  .rw [mH w]at e;exact(e rfl).elim
 .rcases xr z H.au with w|w
  .rw [ho z w]at e;exact h.go z w e
  .rw [mH w]at e;exact(e rfl).elim
def dI.bu(h:dI X n s H o rv ov bs own V){x:Bt}(p:x.k≠7)(m:fM x.v)(hp:kE X.Hb H X.B bs (s.b.step x) H'):kZ X (n+1) {s with b:=s.b.step x} H':=by
 obtain⟨a,d,j,g,f⟩:=hp;have ho:∀z,z<H.au->Go.Am.aS o H.au 0 z=o z:=λ z q=>i4 q
 have l:=h.hn;have fn:=f.au
 have r:=h.fr.au
 have hl:(s.b.step x).ns.length=s.b.ns.length:=by
  unfold Bu.step;rw[qo p];split
  .split
   .rfl
   .show (s.b.ns.set _ _).length=_;rw[xg]
  .rfl
 have i:=A9 h.I x;refine⟨Go.Am.aS o H.au 0,rv,ov,a,d,_,h.c.fr f (λ z q e w=>e (h.dj z w)) ho (by omega),j,i,DT h.C x,h.U.step x m,by show s.c.id<((s.b.step x).ns.length:Int);rw[hl];exact h.nn,λ z q=>?_,λ z q e=>?_,λ z q e=>?_,λ z q=>?_,h.fr.trans f λ z q=>?_⟩
 .rcases g z q with w|w
  .exact (ho z (h.b.low w)).trans (h.dj z w)
  .exact mH w
 .rcases xr z H.au with w|w
  .rw [ho z w]at e;exact h.hb z w e
  .rw [mH w]at e;exact(e rfl).elim
 .rcases xr z H.au with w|w
  .rw [ho z w]at e;exact h.go z w e
  .rw [mH w]at e;exact(e rfl).elim
 .rcases g z q with w|w
  .exact h.gb z w
  .exact .inr (by omega)
 .exact (h.gb z q).imp .inr id
def SX.at(X:SX)(H:ar)(o:Nat->Nat)(bs:Bs):SX:={X with H:=H,o:=o,W:=i5 X.B bs}
def dI.re(h:dI X n s H o rv ov bs own V):dI (X.at H o bs) n s H o rv ov bs own V :=
 {h with go:=λ z q e=>.inl ⟨q,e⟩,gb:=λ z q=>.inl q,fr:=Fr.refl H}
def dI.sn(h:dI X n s H o rv ov bs own V){o2:Nat->Nat}{f d:AV}{c:Bs}{b:Nat->Nat}{i:Int->L8}(q:dI (X.at H o bs) n' t H' o2 f d c b i):dI X n' t H' o2 f d c b i:=by
 have g:=h.fr.au
 refine{q with go:=λ z a e=>?_,gb:=λ z a=>?_,fr:=h.fr.trans q.fr λ z a=>?_}
 .rcases q.go z a e with⟨w,r⟩|w
  .exact h.go z w r
  .exact .inr (xv g w)
 .rcases q.gb z a with w|w
  .exact h.gb z w
  .exact .inr (xv g w)
 .rcases a with a|a
  .rcases xr z H.au with w|w
   .exact (h.go z w a).imp (λ r=>.inl r.2) id
   .exact .inr (xv g w)
  .exact (h.gb z a).imp .inr id
def dI.back(h:dI X n s H o rv ov bs own V)(f:kZ (X.at H o bs) n' t H'):kZ X n' t H':=by
 obtain⟨o2,d,c,b,a,e,q⟩:=f;exact⟨o2,d,c,b,a,e,h.sn q⟩
def zS(H:ar)(o:Nat->Nat)(B:Nat)(bs:Bs)(z:Nat):Prop:=z<H.au/\o z=0 /\ ¬i5 B bs z
def dI.lo{b:ar}{o2:Nat->Nat}{a:Bs}(q:dI (X.at H o bs) n' t b o2 rv ov a own V){z:Nat}(h:zS H o X.B bs z):zS b o2 X.B a z/\b.get z=H.get z:=by
 have fn:=q.fr.au
 refine⟨⟨qj h.1 fn,?_,λ w=>?_⟩,q.fr.ah z h.1 λ w=>w.elim (λ e=>e h.2.1) h.2.2⟩
 .rcases Nat.eq_zero_or_pos (o2 z)with w|w
  .exact w
  .rcases q.go z (qj h.1 fn) (by omega)with⟨_,r⟩|r
   .exact (r h.2.1).elim
   .have:=h.1;exact absurd r (Nat.not_le.2 this)
 .rcases q.gb z w with r|r
  .exact h.2.2 r
  .have:=h.1;exact absurd r (Nat.not_le.2 this)
def dI.pq(h:dI X n s H o rv ov bs own V){d:Nat}(a:zS H o X.B bs d)(g:X.H.au<=d)(hb:X.Hb.au<=d)(e:bH):dI X n s (H.set d e) o rv ov bs own V:=by
 have f:Fr (On d) H (H.set d e):=(Fr.refl H).set (W:=On d) (.inl rfl) _;exact{h with c:=h.c.fr f (λ z _ q(r:z=d)=>q (by rw[r];exact a.2.1)) (λ _ _=>rfl) (qg _),b:=h.b.fr f λ z(r:z=d)=>⟨by omega,by rw[r];exact a.2.2⟩,fr:=h.fr.trans f λ z(r:z=d)=>.inr (by omega)}
def dI.loc(h:dI X n s H o rv ov bs own V)(f:Fr Em H H'):∃o',dI X n s H' o' rv ov bs own V /\ ∀z,(H.au<=z/\z<H'.au->zS H' o' X.B bs z)/\(zS H o X.B bs z->zS H' o' X.B bs z):=by
 obtain⟨o',c,a,b⟩:=h.em f;refine⟨o',c,λ z=>⟨λ q=>⟨q.2,b z q.1,λ w=>by have:=h.b.low w;omega⟩,λ q=>⟨qj q.1 f.au,(a z q.1).trans q.2.1,q.2.2⟩⟩⟩
end
def u5(t:Nat)(v:AV):Op.nilCheck [.iface t v]=some (.iface t v):=rfl
def Ky:M.jL Ep "Load" = some RW:=(MK.mt _ _).trans (by kernel_rfl)
def Hq:M.jL Ep "Store" = some Q2:=(MK.mt _ _).trans (by kernel_rfl)
def NS:M.jL Ep "Cas" = some Q4:=(MK.mt _ _).trans (by kernel_rfl)
def t8:M.jL Ep "Begin" = some SO:=(MK.mt _ _).trans (by kernel_rfl)
def TZ:M.jL Ep "Commit" = some SC:=(MK.mt _ _).trans (by kernel_rfl)
def X9:M.jL Ep "Abort" = some MS:=(MK.mt _ _).trans (by kernel_rfl)
def RQ:M.jL Ep "Live" = some Sw:=(MK.mt _ _).trans (by kernel_rfl)
def Vi:M.jL Ep "Code" = some SL:=(MK.mt _ _).trans (by kernel_rfl)
section
variable{X:SX}{n n':Nat}{s t:CS}{H H':ar}{o:Nat->Nat}{rv ov:AV}{bs:Bs}{own:Nat->Nat}{V:Int->L8}
def dI.node(h:dI X n s H o rv ov bs own V):0<=s.c.id/\s.b.ns[s.c.id.toNat]? = some s.node:=by
 have a:=h.c.w.id;have hn:=h.nn;refine⟨a,?_⟩;have hl:s.c.id.toNat<s.b.ns.length:=by omega
 unfold CS.node;rw[qt hl];rfl
def dI.bb(h:dI X n s H o rv ov bs own V)(hk:X.k+n<=90000):BB s.b:=h.C.bb h.I (by omega)
def dI.MM(h:dI X n s H o rv ov bs own V)(k v:Int)(a w:Int)(hk:k≠7):s.b.step ⟨k,s.c.id,a,v,w⟩=s.b.put s.c.id.toNat (s.node.call ⟨k,s.c.id,a,v,w⟩):=VL hk h.node.1 h.node.2
def Qn(h:dI X n s H o rv ov bs own V)(hk:X.k+n<=90000)(a:Int):zd M Yk [.ptr X.p 0,.int .i64 a] H λ v H'=>v=.tuple [.int .u64 (s.kG a).1,.bool (s.kG a).2]/\fM (s.kG a).1/\kZ X (n+1) (s.ld a) H':=by
 refine qyl ?_;have hu:fM (s.kG a).1:=(No.U.load (h.U.n s.node (za h.node.2)) a).2.1;simp only[aa,bc,qym,aA,h.c.bq,SX.pv,u5,Ky];refine C3.q (xh8 (M:=M) h.b (h.bb hk) h.node.1 h.node.2 a) λ v H1⟨g,hp⟩=>?_;subst g;have e:=h.MM 0 0 a 0 (by decide);have st:kZ X (n+1) (s.ld a) H1:=h.bu (x:=⟨0,s.c.id,a,0,0⟩) (by show(0:Int)≠7;decide) bF (by rw[e];exact hp);cases q:(s.node.load a).2.2.1 with
 |false =>
  have f:(s.kG a).2=false:=by unfold CS.kG;rw[q];rfl
  have d:(s.kG a).1=(s.node.load a).2.1:=rfl;simp only[aa,bc,aA,f,d];exact⟨hu,st⟩
 |true =>
  have f:(s.kG a).2=decide ((s.node.load a).2.2.2.2=0):=by unfold CS.kG;rw[q];rfl
  have d:(s.kG a).1=(s.node.load a).2.1:=rfl;simp only[aa,bc,aA,f,d];exact⟨hu,st⟩
def PI(h:dI X n s H o rv ov bs own V)(hk:X.k+n<=90000)(a:Int){v:Int}(f:fM v):zd M ql9 [.ptr X.p 0,.int .i64 a,.int .u64 v] H λ w H'=>w=.bool (s.uy a v)/\kZ X (n+1) (s.st a v) H':=by
 refine qvz ?_;simp only[aa,bc,qv0,aA,h.c.bq,SX.pv,u5,Hq];refine C3.q (xf5 (M:=M) h.b (h.bb hk) h.node.1 h.node.2 a v) λ w H1⟨hw,hp⟩=>?_;subst hw;have e:=h.MM 1 v a 0 (by decide);have st:kZ X (n+1) (s.st a v) H1:=h.bu (x:=⟨1,s.c.id,a,v,0⟩) (by show(1:Int)≠7;decide) f (by rw[e];exact hp);cases q:(s.node.store a v).2.1 with
 |false =>
  have d:s.uy a v=false:=by unfold CS.uy;rw[q];rfl
  simp only[aa,bc,aA,d];exact st
 |true =>
  have d:s.uy a v=decide ((s.node.store a v).2.2.2=0):=by unfold CS.uy;rw[q];rfl
  simp only[aa,bc,aA,d];exact st
def IM(h:dI X n s H o rv ov bs own V)(hk:X.k+n<=90000)(a w:Int){v:Int}(g:fM v):zd M Yx [.ptr X.p 0,.int .i64 a,.int .u64 w,.int .u64 v] H λ r H'=>r=.tuple [.bool (s.xZ a w).1,.bool (s.xZ a w).2]/\kZ X (n+1) (s.cs a w v) H':=by
 refine q2r ?_;simp only[aa,bc,q2s,aA,h.c.bq,SX.pv,u5,NS];refine C3.q (Bh (M:=M) h.b (h.bb hk) h.node.1 h.node.2 a w v) λ r H1⟨hr,hp⟩=>?_;subst hr;have e:=h.MM 2 v a w (by decide);have st:kZ X (n+1) (s.cs a w v) H1:=h.bu (x:=⟨2,s.c.id,a,v,w⟩) (by show(2:Int)≠7;decide) g (by rw[e];exact hp);have f:(s.xZ a w).1=(s.node.i7 a w).1:=rfl;cases q:(s.node.i7 a w).2.1 with
 |false =>
  have d:(s.xZ a w).2=false:=by unfold CS.xZ;rw[q];rfl
  simp only[aa,bc,aA,d,f];exact st
 |true =>
  have d:(s.xZ a w).2=decide ((s.node.i7 a w).2.2=0):=by unfold CS.xZ;rw[q];rfl
  simp only[aa,bc,aA,d,f];exact st
def yh(h:dI X n s H o rv ov bs own V)(hk:X.k+n<=90000):zd M SO [.ptr X.B 0,.int .i64 s.c.id] H λ _ H'=>kZ X (n+1) (s.kK 3 0 0 0) H' :=
 (xfu (M:=M) h.b (h.bb hk) h.node.1 h.node.2).mono λ _ H1⟨_,hp⟩=>h.bu (x:=⟨3,s.c.id,0,0,0⟩) (by show(3:Int)≠7;decide) bF (by rw[h.MM 3 0 0 0 (by decide)];exact hp)
def U7(h:dI X n s H o rv ov bs own V)(hk:X.k+n<=90000):zd M SC [.ptr X.B 0,.int .i64 s.c.id] H λ _ H'=>kZ X (n+1) (s.kK 4 0 0 0) H' :=
 (xb6 (M:=M) h.b (h.bb hk) h.node.1 h.node.2).mono λ _ H1⟨_,hp⟩=>h.bu (x:=⟨4,s.c.id,0,0,0⟩) (by show(4:Int)≠7;decide) bF (by rw[h.MM 4 0 0 0 (by decide)];exact hp)
def Wj(h:dI X n s H o rv ov bs own V)(hk:X.k+n<=90000)(c:Int):zd M MS [.ptr X.B 0,.int .i64 s.c.id,.int .i64 c] H λ _ H'=>kZ X (n+1) (s.kK 5 c 0 0) H' :=
 (q7f (M:=M) h.b (h.bb hk) h.node.1 h.node.2 c).mono λ _ H1 hp=>h.bu (x:=⟨5,s.c.id,c,0,0⟩) (by show(5:Int)≠7;decide) bF (by rw[h.MM 5 0 c 0 (by decide)];exact hp)
def K4(h:dI X n s H o rv ov bs own V)(hk:X.k+n<=90000):∀K,C3 M true (.func Sw) [.ptr X.B 0,.int .i64 s.c.id] H K=K true (.bool s.node.live) H:=dP (q9o (M:=M) h.b (h.bb hk) h.node.1 h.node.2)
end
end Go.Am
namespace Go.Am
open Lang Go.Proofs
variable{M:ak}[MK M]
section
variable{X:SX}{n n':Nat}{s t:CS}{H H':ar}{o:Nat->Nat}{rv ov:AV}{bs:Bs}{own:Nat->Nat}{V:Int->L8}
def dI.here(h:dI X n s H o rv ov bs own V):kZ X n s H:=⟨o,rv,ov,bs,own,V,h⟩
def dI.dV(h:dI X n s H o rv ov bs own V)(hn:n<=n'):kZ X n' s H:=h.here.mono hn
def dI.on(h:dI X n s H o rv ov bs own V){d:Co}{rv':AV}(a:d.id=s.c.id)(f:Fr (On X.p) H H')(g:dA H' o X.p X.f X.l X.sp X.cv rv' ov X.pv d s.o (X.k+n)):dI X n {s with c:=d} H' o rv' ov bs own V:=by
 have i:=h.hn;have fn:=f.au
 have j:=h.fr.au
 have hp:=h.c.op;refine{h with c:=g,b:=?_,nn:=by show d.id<_;rw[a];exact h.nn,hb:=λ z q e=>?_,go:=λ z q e=>?_,fr:=h.fr.trans f λ z(q:z=X.p)=>?_}
 .refine h.b.fr (f.mono (W':=λ z=>o z≠0/\z<H.au) λ z w(q:z=X.p)=>⟨by rw[q,hp];decide,w⟩) λ z⟨q,w⟩=>⟨h.hb z w q,λ e=>q (h.dj z e)⟩
 .rcases xr z H.au with w|w
  .exact h.hb z w e
  .omega
 .rcases xr z H.au with w|w
  .exact h.go z w e
  .exact .inr (by omega)
 .rw [q];exact(h.go X.p h.c.row.2 (by rw[hp];decide)).imp (λ e=>.inl e.2) id
def dI.put(h:dI X n s H o rv ov bs own V)(i:Nat){v:AV}(d:Co)(a:av v=true)(e:i<24)(he:(cu s.c X.f X.l X.sp X.cv rv ov X.pv).set i v=cu d X.f X.l X.sp X.cv rv ov X.pv)(hs:d.fi=s.c.fi/\d.la=s.c.la/\d.so=s.c.so/\d.code=s.c.code)(hr:d.aR=s.c.aR/\d.id=s.c.id)(hw:HZ d (X.k+n)) :
 ∃H',Op.store 1 [.ptr X.p i,v] H=some (.undef,H')/\dI X n {s with c:=d} H' o rv ov bs own V:=by
 obtain⟨H1,s1,a,b⟩:=h.c.put i d a e he hs hr.1 hw;exact⟨H1,s1,h.on hr.2 b a⟩
def dI.want(h:dI X n s H o rv ov bs own V)(e:mI)(he:fM e.addr):∃H',Op.store 5 [.ptr X.p 7,.agg (aZ e)] H=some (.undef,H')/\dI X n {s with c:={s.c with want:=e}} H' o rv ov bs own V:=by
 have s1:=h.c.row.gI (k:=7) (n:=5) (v:=.agg (aZ e)) (by rw[zw];rfl) (by simp[cu]) (by rw[zw];rfl);have a:(cu s.c X.f X.l X.sp X.cv rv ov X.pv).take 7++AV.cells (.agg (aZ e))++(cu s.c X.f X.l X.sp X.cv rv ov X.pv).drop (7+5)=cu {s.c with want:=e} X.f X.l X.sp X.cv rv ov X.pv:=by rw[zw];rfl
 rw[a]at s1;obtain⟨b,g⟩:=h.c.cell (d:={s.c with want:=e}) (k':=X.k+n) ⟨rfl,rfl,rfl,rfl⟩ (rv':=rv) ⟨h.c.rd,h.c.pP⟩ ⟨h.c.ou,h.c.qG⟩ h.c.Er {h.c.w with wu:=he};exact⟨_,s1,h.on rfl g b⟩
def dI.forget(h:dI X n s H o rv ov bs own V):∃H',Op.store 1 [.ptr X.p 13,.nils] H=some (.undef,H')/\dI X n {s with c:={s.c with aR:=[]}} H' o .nils ov bs own V:=by
 have s1:=h.c.row.st 13 (v:=.nils) rfl (by simp[cu]);obtain⟨a,b⟩:=h.c.cell (d:={s.c with aR:=[]}) (k':=X.k+n) ⟨rfl,rfl,rfl,rfl⟩ (rv':=.nils) ⟨Own.nil ..,λ z q=>(q.1 rfl).elim⟩ ⟨h.c.ou,h.c.qG⟩ h.c.Er {h.c.w with ru:=λ y w=>(List.not_mem_nil w).elim,rl:=xy _,JU:=λ i x w=>by rw[List.getElem?_nil]at w;cases w};exact⟨_,s1,h.on rfl b a⟩
def jD:[AV.int .i64 0,.int .i64 0,.int .i64 0,.int .u64 0,.int .u64 0]=aZ gZ:=rfl
def P8:Op.build (aZ gZ) [] []=some (.agg (aZ gZ)):=rfl
def IV(k:Int):Op.build (aZ gZ) [(0,1)] [.int .i64 k]=some (.agg (aZ ⟨k,0,0,0,0⟩)):=rfl
def ZH(s:CS):s.aw.b=s.b:=by unfold CS.aw;simp only;split<;>rfl
def YC(s:CS):s.aw.c.id=s.c.id:=by unfold CS.aw;simp only;split<;>rfl
def Qg(s:CS):s.cD.b=s.b:=ZH s
def QF(s:CS):s.cD.c.id=s.c.id:=YC s
def q93(h:dI X n s H o rv ov bs own V)(hk:X.k+n<=90000)(hl:s.o.length<=1000):zd M Xb [.ptr X.p 0] H λ _ H'=>kZ X (n+1) s.cU H':=by
 refine qsb ?_;unfold CS.cU
 by_cases b:s.c.la.lane=0
 .rw [qr b];obtain⟨H1,s1,a⟩:=h.put 20 (v:=.bool true) {s.c with halted:=true} rfl (by decide) rfl ⟨rfl,rfl,rfl,rfl⟩ ⟨rfl,rfl⟩ {h.c.w with};obtain⟨u,s2,e⟩:=a.put 21 (v:=.bool true) {s.c with halted:=true,Ax:=true} rfl (by decide) rfl ⟨rfl,rfl,rfl,rfl⟩ ⟨rfl,rfl⟩ {h.c.w with};simp only[aa,bc,Q3,aA,h.c.bq,ia h.c.la,xb b,s1,s2];exact e.dV (by omega)
 rw[qo b]
 by_cases d:s.c.la.lane=3
 .rw [qr d];simp only[aa,bc,Q3,aA,h.c.bq,ia h.c.la,b,xb d,jD,P8];obtain⟨g,fv,hs⟩:=h.c.so;refine C3.q (xhq (M:=M) hs) λ _ H1 hp=>?_;obtain⟨o1,m,l,i,mU,y,a⟩:=h.co (t:=s.so .Cn) rfl rfl (h.c.MO hp) (qg _);obtain⟨u,s2,e⟩:=a.want gZ bF;obtain⟨x,r,j⟩:=e.put 6 (v:=.int .i64 6) {(s.so .Cn).c with want:=gZ,ph:=6} rfl (by decide) rfl ⟨rfl,rfl,rfl,rfl⟩ ⟨rfl,rfl⟩ {e.c.w with};simp only[aa,bc,aA,s2,r];exact j.dV (by omega)
 rw[qo d]
 by_cases f:s.c.la.lane=4
 .rw [qr f];obtain⟨x,r,j⟩:=h.put 6 (v:=.int .i64 10) {s.c with ph:=10} rfl (by decide) rfl ⟨rfl,rfl,rfl,rfl⟩ ⟨rfl,rfl⟩ {h.c.w with};simp only[aa,bc,Q3,aA,h.c.bq,ia h.c.la,b,d,xb f,r];exact j.dV (by omega)
 rw[qo f];simp only[aa,bc,Q3,aA,h.c.bq,ia h.c.la,b,d,f,SX.pv,u5,X9];refine C3.q (Wj (M:=M) h hk 7) λ _ H1⟨o1,m,l,i,mU,y,a⟩=>?_;simp only[aa,bc];refine C3.q (XN (M:=M) (s:=s.kK 5 7 0 0) a.c hl) λ _ u hp=>?_;simp only[aa,bc];exact a.co (t:=(s.kK 5 7 0 0).breaks) rfl rfl hp (qg _)
def CS.bg0(s:CS):CS:={s.tell 1 0 0 0 with c:={s.c with aR:=[],done:=0,wrote:=false,said:=false}}
def CS.bg1(t:CS):CS :=
 if t.c.la.lane=1 then(t.kK 3 0 0 0).ph 2
 else if t.c.la.lane=2 then(t.kK 3 0 0 0).ph 3
 else if t.c.la.lane=3 then let u:=t.so .begin
  {u with c:={u.c with want:=⟨5,0,0,0,0⟩,ph:=6}}
 else t.ph 4
def xij(s:CS):s.iS=s.bg0.bg1:=rfl
def zV(h:dI X n s H o rv ov bs own V)(hk:X.k+n<=90000)(hl:s.o.length<=1000):zd M qk7 [.ptr X.p 0] H λ _ H'=>kZ X (n+1) s.iS H':=by
 refine qtt ?_;rw[xij];simp only[aa,bc,PG];refine C3.q (ES (M:=M) h.c hl 1 0 0 0) λ _ H1 hp=>?_;obtain⟨o1,Q,C,B,mU,N,O⟩:=h.co (t:=s.tell 1 0 0 0) rfl rfl hp (qg _);obtain⟨R,s2,F⟩:=O.forget;obtain⟨S,x,G⟩:=F.put 14 (v:=.int .i64 0) {s.c with aR:=[],done:=0} rfl (by decide) rfl ⟨rfl,rfl,rfl,rfl⟩ ⟨rfl,rfl⟩ {F.c.w with d0:=wn _};obtain⟨T,y,I⟩:=G.put 15 (v:=.bool false) {s.c with aR:=[],done:=0,wrote:=false} rfl (by decide) rfl ⟨rfl,rfl,rfl,rfl⟩ ⟨rfl,rfl⟩ {G.c.w with};obtain⟨L,z,a⟩:=I.put 17 (v:=.bool false) {s.c with aR:=[],done:=0,wrote:=false,said:=false} rfl (by decide) rfl ⟨rfl,rfl,rfl,rfl⟩ ⟨rfl,rfl⟩ {I.c.w with};obtain⟨t,J⟩:∃t:CS,t=s.bg0:=⟨_,rfl⟩
 have a:dI X n t L o1 .nils C B mU N:=J▸a;rw[<-J];unfold CS.bg1;simp only;have ln:=ia (M:=M) a.c.la
 by_cases i:t.c.la.lane=1
 .rw [qr i];simp only[aa,bc,PG,aA,s2,x,y,z,a.c.bq,ln,xb i,SX.pv,u5,t8];refine C3.q (yh (M:=M) a hk) λ _ D⟨K,r,l,j,d,E,e⟩=>?_;obtain⟨A,f,b⟩:=e.put 6 (v:=.int .i64 2) {(t.kK 3 0 0 0).c with ph:=2} rfl (by decide) rfl ⟨rfl,rfl,rfl,rfl⟩ ⟨rfl,rfl⟩ {e.c.w with};simp only[aa,bc,aA,f];exact b.here
 rw[qo i]
 by_cases m:t.c.la.lane=2
 .rw [qr m];simp only[aa,bc,PG,aA,s2,x,y,z,a.c.bq,ln,i,xb m,SX.pv,u5,t8];refine C3.q (yh (M:=M) a hk) λ _ D⟨K,r,l,j,d,E,e⟩=>?_;obtain⟨A,f,b⟩:=e.put 6 (v:=.int .i64 3) {(t.kK 3 0 0 0).c with ph:=3} rfl (by decide) rfl ⟨rfl,rfl,rfl,rfl⟩ ⟨rfl,rfl⟩ {e.c.w with};simp only[aa,bc,aA,f];exact b.here
 rw[qo m]
 by_cases u:t.c.la.lane=3
 .rw [qr u];simp only[aa,bc,PG,aA,s2,x,y,z,a.c.bq,ln,i,m,xb u,jD,IV];obtain⟨g,fv,hs⟩:=a.c.so;refine C3.q (Ld (M:=M) hs) λ _ D hp=>?_;obtain⟨K,r,l,j,d,E,e⟩:=a.co (t:=t.so .begin) rfl rfl (a.c.MO hp) (qg _);obtain⟨A,f,b⟩:=e.want ⟨5,0,0,0,0⟩ bF;obtain⟨U,s8,P⟩:=b.put 6 (v:=.int .i64 6) {(t.so .begin).c with want:=⟨5,0,0,0,0⟩,ph:=6} rfl (by decide) rfl ⟨rfl,rfl,rfl,rfl⟩ ⟨rfl,rfl⟩ {b.c.w with};simp only[aa,bc,aA,f,s8];exact P.dV (by omega)
 rw[qo u];obtain⟨A,f,b⟩:=a.put 6 (v:=.int .i64 4) {t.c with ph:=4} rfl (by decide) rfl ⟨rfl,rfl,rfl,rfl⟩ ⟨rfl,rfl⟩ {a.c.w with};simp only[aa,bc,PG,aA,s2,x,y,z,a.c.bq,ln,i,m,u,f];exact b.dV (by omega)
def Fm(h:dI X n s H o rv ov bs own V)(hk:X.k+n<=90000)(hl:s.o.length<=1000):zd M ql8 [.ptr X.p 0] H λ _ H'=>kZ X (n+1) s.nI H':=by
 refine qvx ?_;unfold CS.nI;simp only;simp only[aa,bc,qvy,aA,h.c.bq];refine C3.q (IM (M:=M) h hk 0 s.c.seq (EK _)) λ r H1⟨hr,o1,x,m,i,mU,C,a⟩=>?_;subst hr;cases F:(s.xZ 0 s.c.seq).2 with
 |false =>
  rw[qr rfl];simp only[aa,bc,aA];exact a.here
 |true =>
  rw[qo (by decide)];cases E:(s.xZ 0 s.c.seq).1 with
  |true =>
   rw[qr rfl];simp only[aa,bc,aA];refine C3.q (ES (M:=M) (s:=s.cs 0 s.c.seq (aj .u64 (s.c.seq+1))) a.c hl 4 0 0 0) λ _ A hp=>?_;obtain⟨o2,y,u,j,f,D,e⟩:=a.co (t:=(s.cs 0 s.c.seq (aj .u64 (s.c.seq+1))).tell 4 0 0 0) rfl rfl hp (qg _);obtain⟨g,d,b⟩:=e.put 6 (v:=.int .i64 0) {s.c with ph:=0} rfl (by decide) rfl ⟨rfl,rfl,rfl,rfl⟩ ⟨rfl,rfl⟩ {e.c.w with};obtain⟨B,z,l⟩:=b.put 16 (v:=.bool true) {s.c with ph:=0,held:=true} rfl (by decide) rfl ⟨rfl,rfl,rfl,rfl⟩ ⟨rfl,rfl⟩ {b.c.w with};simp only[aa,bc,aA,d,z];exact l.here
  |false =>
   rw[qo (by decide)];obtain⟨g,d,b⟩:=a.put 6 (v:=.int .i64 4) {s.c with ph:=4} rfl (by decide) rfl ⟨rfl,rfl,rfl,rfl⟩ ⟨rfl,rfl⟩ {a.c.w with};simp only[aa,bc,aA,d];exact b.here
def Kf(h:dI X n s H o rv ov bs own V)(hk:X.k+n<=90000)(hl:s.o.length<=1000):zd M E3 [.ptr X.p 0] H λ _ H'=>kZ X (n+1) s.ends H':=by
 refine qyg ?_;unfold CS.ends;have ln:=ia (M:=M) h.c.la
 by_cases a:s.c.la.lane=3
 .rw [qr a];simp only[aa,bc,Pa,aA,h.c.bq,ln,xb a,jD,IV];obtain⟨g,fv,hs⟩:=h.c.so;refine C3.q (xbs (M:=M) hs) λ _ I hp=>?_;obtain⟨N,F,E,B,u,L,C⟩:=h.co (t:=s.so .bw) rfl rfl (h.c.MO hp) (qg _);obtain⟨J,G,r⟩:=C.want ⟨6,0,0,0,0⟩ bF;obtain⟨K,s8,D⟩:=r.put 6 (v:=.int .i64 6) {(s.so .bw).c with want:=⟨6,0,0,0,0⟩,ph:=6} rfl (by decide) rfl ⟨rfl,rfl,rfl,rfl⟩ ⟨rfl,rfl⟩ {r.c.w with};simp only[aa,bc,aA,G,s8];exact D.dV (by omega)
 rw[qo a]
 by_cases b:s.c.la.lane=4
 .rw [qr b];obtain⟨z,m,i⟩:=h.put 6 (v:=.int .i64 9) {s.c with ph:=9} rfl (by decide) rfl ⟨rfl,rfl,rfl,rfl⟩ ⟨rfl,rfl⟩ {h.c.w with};simp only[aa,bc,Pa,aA,h.c.bq,ln,a,xb b,m];exact i.dV (by omega)
 rw[qo b]
 by_cases e:s.c.la.lane=2
 .cases x:s.c.wrote with
  |true =>
   rw[qr ⟨e,rfl⟩];obtain⟨z,m,i⟩:=h.put 6 (v:=.int .i64 7) {s.c with ph:=7} rfl (by decide) rfl ⟨rfl,rfl,rfl,rfl⟩ ⟨rfl,rfl⟩ {h.c.w with};simp only[aa,bc,Pa,aA,h.c.bq,ln,a,b,xb e,x,m];exact i.dV (by omega)
  |false =>
   rw[qo (λ w=>by cases w.2)];simp only[aa,bc,Pa,aA,h.c.bq,ln,a,b,xb e,x,SX.pv,u5,TZ];refine C3.q (U7 (M:=M) h hk) λ _ H1⟨o1,l,j,f,mU,A,d⟩=>?_;simp only[aa,bc];refine C3.q (Oa (M:=M) (s:=s.kK 4 0 0 0) d.c hl) λ _ y hp=>?_;simp only[aa,bc];exact d.co (t:=(s.kK 4 0 0 0).cD) (Qg _) (QF _) hp (qg _)
 .rw [qo (λ w=>e w.1)];simp only[aa,bc,Pa,aA,h.c.bq,ln,a,b,e,SX.pv,u5,TZ];refine C3.q (U7 (M:=M) h hk) λ _ H1⟨o1,l,j,f,mU,A,d⟩=>?_;simp only[aa,bc];refine C3.q (Oa (M:=M) (s:=s.kK 4 0 0 0) d.c hl) λ _ y hp=>?_;simp only[aa,bc];exact d.co (t:=(s.kK 4 0 0 0).cD) (Qg _) (QF _) hp (qg _)
end
end Go.Am
namespace Go.Am
open Lang Go.Proofs
variable{M:ak}[MK M]
def hJ(ps:List Pr)(a:Int):List (List AV):=match gY ps a with
 |some i=>[[.int .i64 (i:Int),.int .u64 (ps.getD i ⟨0,0⟩).v]]
 |none=>[]
def kF(ps:List Pr)(a:Int)(i:Nat):Nat:=match gY ps a with
 |some j=>if j<i then 1 else 0
 |none=>0
def Hf(b:List Pr)(a:Int):kF b a 0=0:=by unfold kF;split<;>simp
def xj1(b:List Pr)(a:Int):kF b a b.length=(hJ b a).length:=by
 unfold kF hJ;cases h:gY b a with
 |none=>rfl
 |some j=>simp only;rw[qr (pj h).1];rfl
def CO{c:List Pr}{a:Int}{i:Nat}{x:Pr}(f:c[i]? = some x)(h:x.a≠a):kF c a (i+1)=kF c a i:=by
 unfold kF;cases q:gY c a with
 |none=>rfl
 |some j =>
  have:j≠i:=λ e=>by
   obtain⟨-,y,b,d⟩:=pj q;rw[e,f]at b;injection b with b;rw[b]at h;exact h d
  simp only
  by_cases w:j<i
  .rw [qr w,qr (by omega)]
  .rw [qo w,qo (by omega)]
def AN{b:List Pr}(d:sX b){i:Nat}{x:Pr}(c:b[i]? = some x):kF b x.a (i+1)=kF b x.a i+1/\(hJ b x.a)[kF b x.a i]? = some [.int .i64 (i:Int),.int .u64 x.v]:=by
 have q:=d i x c;unfold kF hJ;rw[q];simp only;rw[qr (by omega),qo (by omega),zy,c];exact⟨rfl,rfl⟩
def YO{H0:ar}{k l p:Nat}{a:Int}{rv:AV}{c:List Pr}(g1:H0.get k=some (OR [.ptr p 0] we))(g2:H0.get l=some (OR [.int .i64 a] cN))(l1:k<H0.au)(l2:l<H0.au)(hd:sX c)(hl:c.length<=1000000) :
 tD M Mj [] [.ptr k 0,.ptr l 0] (λ z=>z=k\/z=l) (λ _=>False) (λ H=>Op.ae [.ptr p 13] H=some rv/\dU cz 2 H rv c) H0 (hJ c a):=by
 intro Y R S m H1 hnx W B K loc Z hI step;obtain⟨p1,p2,p3⟩:=W k (.inl (.inl rfl));obtain⟨q1,P,Q⟩:=W l (.inl (.inr rfl))
 suffices h:zd M Mj [.fn (.yield Y) [] [],.ptr k 0,.ptr l 0] H1 (M0 R S m (λ _=>False) H1 (hJ c a).length)by
  obtain⟨v,H',hc,W',q1,P,Q⟩:=h.elim;exact⟨v,H',W',hc,q1,P,Q⟩
 refine qtx ?_;have lp:Op.ae [.ptr k 0] H1=some (.ptr p 0):=by rw[x9 (qy (by rw[p2];exact g1))];rfl
 have lq:∀{d:ar},Fr m H1 d->Op.ae [.ptr l 0] d=some (.int .i64 a):=λ f=>by rw[x9 (qy (by rw[f.ah _ (by omega) Q,P];exact g2))];rfl
 obtain⟨lr,s0⟩:=hI 0 m H1 B;simp only[aa,bc,Og,lp,aA,lr,s0.len];refine dg.intro (λ n E d=>∃(i:Nat)(V:Nat->Prop),E=[(11,.int .i64 (i:Int)),(10,.int .i64 ((c.length:Nat):Int)),(9,rv),(0,.fn (.yield Y) [] []),(1,.ptr k 0),(2,.ptr l 0)]/\n=c.length-i/\i<=c.length/\M5 R m H1 d (kF c a i) V) ?_ ?_
 .exact ⟨_,_,⟨0,m,rfl,rfl,xy _,⟨by rw[Hf];exact B,λ b hb=>⟨K b hb,.inl hb⟩,Fr.refl _⟩⟩,by simp only[aa,bc]⟩
 rintro n E d ⟨i,V,rfl,rfl,hi,g⟩;rcases xr i c.length with N|hge
 .have F:(i:Int)<((c.length:Nat):Int):=by omega
  obtain⟨e,he⟩:∃e,c[i]? = some e:=⟨c[i],by simp[N]⟩
  obtain⟨-,sl⟩:=hI _ V d g.hR;have ix:Op.aO 2 [rv,.int .i64 (i:Int)]=some (M1 rv i):=sl.idx he rfl .i64;have ld:Op.aq 2 [M1 rv i] d=some (.agg (cz e)):=sl.aq Ae (by decide) he;have bx:=RR (H1:=d) e;obtain⟨u,I⟩:∃X,X=(d.alloc (OR [.int .i64 0,.int .u64 0] wh)).set d.au (OR (cz e) wh):=⟨_,rfl⟩
  rw[<-I]at bx;have J:Fr Em d u:=by rw[I];exact wQ _ _
  have A:u.get d.au=some (OR (cz e) wh):=by rw[I,xc]
  have vX:Op.ae [.ptr d.au 0] u=some (.int .i64 e.a):=x9 (qy A) 0;have O:Op.ae [.ptr d.au 1] u=some (.int .u64 e.v):=x9 (qy A) 1;have n2:=J.au
  have j:=g.fr.em J;have wj:aj .i64 ((i:Int)+1)=((i+1:Nat):Int):=by rw[jw (by omega) (by omega)];omega
  have U:=loc _ _ _ _ g.hR (λ y r=>J.ah y (g.hV y r).1 id) n2
  by_cases q:e.a=a
  .subst q;obtain⟨k1,k2⟩:=AN hd he;obtain⟨bb,T,G,hr,hf,D,ht,hs⟩:=step _ _ k2 V u U (λ y r=>⟨by have:=(g.hV y r).1;omega,(g.hV y r).2⟩) (j.mono λ _ _ q=>.inl q);have x:Fr m H1 T:=j.trans hf λ y q=>(g.hV y q).2;have C:∀y,G y->y<T.au/\(m y\/H1.au<=y):=λ y q=>⟨(D y q).1,(D y q).2.elim (λ w=>(g.hV y w).2) λ w=>.inr (by have:=g.fr.au;omega)⟩
   simp only[aa,bc,Og,F,ix,ld,bx,vX,O,lq j];refine C3.yE hr ?_;cases bb with
   |true =>
    simp only[aa,bc,Og,wj];exact⟨_,_,⟨i+1,G,rfl,rfl,by omega,⟨by rw[k1];exact ht rfl,C,x⟩⟩,by simp only[aa,bc],by omega⟩
   |false =>
    simp only[aa,bc];exact⟨G,x.mono λ _ _ q=>.inl q,C,.inr (hs rfl)⟩
  .simp only[aa,bc,Og,F,ix,ld,bx,vX,lq j,q,wj];exact⟨_,_,⟨i+1,V,rfl,rfl,by omega,⟨by rw[CO he q];exact U,λ y r=>⟨by have:=(g.hV y r).1;omega,(g.hV y r).2⟩,j⟩⟩,by simp only[aa,bc],by omega⟩
 .have F:¬(i:Int)<((c.length:Nat):Int):=by omega
  have L:i=c.length:=by omega
  simp only[aa,bc,Og,F];exact⟨V,g.fr.mono λ _ _ q=>.inl q,g.hV,.inl (by rw[<-xj1,<-L];exact g.hR)⟩
end Go.Am
namespace Go.Am
open Lang Go.Proofs
variable{M:ak}[MK M]
def xat{H:ar}(p:Nat)(a:Int):zd M qn6 [.ptr p 0,.int .i64 a] H λ v H'=>v=.fn (.func Mj) [] [.ptr H.au 0,.ptr (H.alloc (OR [.ptr p 0] we)).au 0]/\H'=(H.alloc (OR [.ptr p 0] we)).alloc (OR [.int .i64 a] cN):=by
 refine qyj ?_;have mk:∀b e,Op.bC Mj 0 [.ptr b 0,.ptr e 0]=some (.fn (.func Mj) [] [.ptr b 0,.ptr e 0]):=λ _ _=>rfl;simp only[aa,bc,qyk];rfl
section
variable{X:SX}{n n':Nat}{s t:CS}{H H':ar}{o:Nat->Nat}{rv ov:AV}{bs:Bs}{own:Nat->Nat}{V:Int->L8}
def pB{a:ar}{z t:Nat}{c:List AV}(h:a.get z=H.get z)(g:H.get z=some (OR c t)):a.get z=some (OR c t):=h.trans g
def iq{z t:Nat}{c:List AV}(g:H.get z=some (OR c t))(k:Nat):Op.ae [.ptr z k] H=c[k]?:=x9 (qy g) k
def AO{z t:Nat}{e:mI}(g:H.get z=some (OR (aZ e) t)):Op.aq 5 [.ptr z 0] H=some (.agg (aZ e)):=rD (qy g) (by simp[aZ])
def Lf(X:SX)(n:Nat)(t:CS)(Hx:ar)(ox:Nat->Nat)(bsx:Bs)(Z:ar):Prop:=kZ X (n+1) t Z /\ ∀d,zS Hx ox X.B bsx d->X.H.au<=d->X.Hb.au<=d->Z.get d=Hx.get d/\kZ X (n+1) t (Z.set d (.deferred none))
def J4(H4:ar)(o4:Nat->Nat)(p f l sp:Nat)(cv rv pv:AV)(c:Co)(os:List ic)(k:Nat)(W:Nat->Prop)(Hx:ar):Prop:=∃ox ovx,dA Hx ox p f l sp cv rv ovx pv c os k/\(∀z,z<H4.au->ox z=o4 z)/\(∀z,z<Hx.au->ox z≠0->W z)/\H4.au<=Hx.au
def J4.loc{e a Hb:ar}{g:Nat->Nat}{p f l sp k:Nat}{cv rv pv:AV}{c:Co}{os:List ic}{W:Nat->Prop}(h:J4 e g p f l sp cv rv pv c os k W a)(hs:∀z,W z->Hb.get z=a.get z)(hn:a.au<=Hb.au):J4 e g p f l sp cv rv pv c os k W Hb:=by
 obtain⟨m,b,u,v,i,j⟩:=h;refine⟨aS m a.au 0,b,u.fr (W:=λ z=>¬W z) ⟨hn,λ z w q=>hs z (Gs.1 q)⟩ (λ z w q r=>r (i z w q)) (λ z q=>i4 q) (qg _),λ z w=>?_,λ z w q=>?_,xv j hn⟩
 .rw [i4 (qj w j)];exact v z w
 .rcases xr z a.au with r|r
  .rw [i4 r]at q;exact i z r q
  .rw [mH r]at q;exact(q rfl).elim
def S2(h:dI X n s H o rv ov bs own V)(hk:X.k+n<=90000)(hl:s.o.length<=1000)(e:mI)(hu:fM e.addr)(a:Int):zd M O7 [.ptr X.p 0,.agg (aZ e),.int .i64 a] H λ _ H'=>kZ X (n+1) (s.kR e a) H':=by
 refine qvw ?_;obtain⟨H1,e1,f1,n1,-⟩:=bX H (OR [.ptr X.p 0] we);obtain⟨H2,e2,f12,-,g2⟩:=bX H1 (OR (aZ e) jh);have n2:H2.au=H.au+2:=by rw[e2,xx,n1]
 have g1:H2.get H.au=some (OR [.ptr X.p 0] we):=by rw[f12.ah _ (by omega) id,e1,xf]
 obtain⟨o2,L,lo⟩:=h.loc (f1.em f12);have D:=(lo H.au).1 ⟨qg _,by omega⟩;have N:=(lo H1.au).1 ⟨by omega,by omega⟩;have hr:=L.re;have ln:=ia (M:=M) L.c.la;have l1:=iq g1 0;have l2:=AO g2;unfold CS.kR
 by_cases T:s.c.la.lane=3
 .rw [qr T];simp only;simp only[aa,bc,Le,aA,<-e1,<-e2,l1,L.c.bq,ln,xb T];obtain⟨g,fv,hs⟩:=L.c.so;refine C3.q (xhn (M:=M) hs a) λ _ O hp=>?_;obtain⟨o3,rv3,ov3,bs3,own3,V3,h3⟩:=hr.co (t:=s.so (·.load a)) rfl rfl (L.c.MO hp) (qg _);obtain⟨lo1',r1⟩:=h3.lo D;obtain⟨lo2',r2⟩:=h3.lo N;have c3:dA O o3 X.p X.f X.l X.sp X.cv rv3 ov3 X.pv (s.so (·.load a)).c s.o (X.k+n):=h3.c;obtain⟨g3,fv3,Q⟩:=c3.so;have m1:=iq (pB r1 g1) 0;have m2:=AO (pB r2 g2);cases b:(s.so (·.load a)).c.so.busy with
  |true =>
   rw[qr rfl];obtain⟨J,s4,A⟩:=h3.want e hu;have s4:Op.store 5 [.ptr X.p 7,.agg (aZ e)] O=some (.undef,J):=s4;obtain⟨_,r4⟩:=A.lo D;have m4:=iq (pB r4 g1) 0;obtain⟨H5,s5,h5⟩:=A.put 6 (v:=.int .i64 6) {(s.so (·.load a)).c with want:=e,ph:=6} rfl (by decide) rfl ⟨rfl,rfl,rfl,rfl⟩ ⟨rfl,rfl⟩ {A.c.w with};have s5:Op.store 1 [.ptr X.p 6,.int .i64 6] J=some (.undef,H5):=s5;simp only[aa,bc,Le,aA,m1,c3.bq,gR Q,b,m2,s4,m4,s5];exact L.back (h5.dV (by omega))
  |false =>
   rw[qo (by decide)];simp only[aa,bc,Le,aA,m1,c3.bq,gR Q,b,m2,DM Q];refine C3.q (QY (M:=M) (s:=s.so (·.load a)) c3 hl e hu Q.vu) λ _ J hp=>?_;simp only[aa,bc];exact L.back ((h3.co (t:=(s.so (·.load a)).ey e (s.so (·.load a)).c.so.value) rfl rfl hp (qg _)).mono (by omega))
 rw[qo T];have tail:∀{G:ar}{C:Nat->Nat}{x u:AV}{I:Bs}{ownx:Nat->Nat}{Vx:Int->L8},dI (X.at H2 o2 bs) n s G C x u I ownx Vx->Op.ae [.ptr H.au 0] G=some (.ptr X.p 0)/\zd M Yk [.ptr X.p 0,.int .i64 a] G λ v J=>v=.tuple [.int .u64 (s.kG a).1,.bool (s.kG a).2]/\Op.ae [.ptr H.au 0] J=some (.ptr X.p 0)/\Op.aq 5 [.ptr H1.au 0] J=some (.agg (aZ e))/\Lf X n (s.ld a) G C I J/\zd M Vq [.ptr X.p 0,.agg (aZ e),.int .u64 (s.kG a).1] J λ _ H5=>Lf X n ((s.ld a).ey e (s.kG a).1) G C I H5:=λ{G C x u I ownx Vx}Y=>by
  have fin:∀{t:CS}{Z:ar}{oz:Nat->Nat}{rvz ovz:AV}{bsz:Bs}{ownz:Nat->Nat}{Vz:Int->L8},dI ((X.at H2 o2 bs).at G C I) (n+1) t Z oz rvz ovz bsz ownz Vz->Lf X n t G C I Z:=λ hz =>
   ⟨L.back (Y.back hz.here),λ d hd h1 h2'=>⟨(hz.lo hd).2,((L.sn (Y.sn hz)).pq (hz.lo hd).1 h1 h2' _).here⟩⟩
  refine⟨iq (pB (Y.lo D).2 g1) 0,(Qn (M:=M) Y.re hk a).mono λ v J⟨U,hu2,o4,rv4,ov4,bs4,own4,V4,A⟩=>?_⟩;have r1:=(Y.lo D).1;have r2:=(Y.lo N).1;refine⟨U,iq (pB ((A.lo r1).2.trans (Y.lo D).2) g1) 0,AO (pB ((A.lo r2).2.trans (Y.lo N).2) g2),fin A,?_⟩;refine(QY (M:=M) (s:=s.ld a) A.c hl e hu hu2).mono λ _ H5⟨o5,rv5,ov5,c5,a5,f5⟩=>?_;exact fin (A.G0 (t:=(s.ld a).ey e (s.kG a).1) rfl rfl c5 a5 f5 (qg _))
 by_cases q4:s.c.la.lane=4
 .rw [qr q4];simp only[aa,bc,Le,aA,<-e1,<-e2,l1,L.c.bq,ln,T,xb q4];refine C3.q (xat (M:=M) X.p a) λ v m⟨U,hh⟩=>?_;obtain⟨O,e3,f23,-,-⟩:=bX H2 (OR [.ptr X.p 0] we);obtain⟨J,e4⟩:∃Z,Z=O.alloc (OR [.int .i64 a] cN):=⟨_,rfl⟩
  rw[<-e3]at U hh;rw[<-e4]at hh;subst U;subst hh;have f34:Fr Em O m:=e4▸(Fr.refl O).alloc _;have n3:O.au=H.au+3:=by rw[e3,xx,n2]
  have n4:m.au=H.au+4:=by rw[e4,xx,n3]
  have g3:m.get H2.au=some (OR [.ptr X.p 0] we):=by rw[f34.ah _ (by omega) id,e3,xf]
  have g4:m.get O.au=some (OR [.int .i64 a] cN):=by rw[e4,xf]
  obtain⟨o4,A,R⟩:=hr.loc (f23.em f34);have k1:=(R H.au).2 D;have k2:=(R H1.au).2 N;have k3:=(R H2.au).1 ⟨qg _,by omega⟩;have k4:=(R O.au).1 ⟨by omega,by omega⟩;have r1:=(A.lo D).2;have r2:=(A.lo N).2;have c4:dA m o4 X.p X.f X.l X.sp X.cv rv ov X.pv s.c s.o (X.k+n):=A.c;have rl:=c4.w.rl;have kL:∀i,gY s.c.aR a=some i->(hJ s.c.aR a)=[[.int .i64 (i:Int),.int .u64 (s.c.aR.getD i ⟨0,0⟩).v]]:=λ i q=>by unfold hJ;rw[q]
  simp only[aa,bc];refine jC.tt (fn:=R6) (lp:=O4) (pa:=XZ 0) (pb:=XX 0) qtz sy.1 sy.2 (by decide) qsc qsd
   (YO (M:=M) (rv:=rv) g3 g4 (by omega) (by omega) c4.w.JU (by omega)) (λ i W G=>i=0/\J4 m o4 X.p X.f X.l X.sp X.cv rv X.pv s.c s.o (X.k+n) W G)
   (λ ex W G=>ex=.ret /\ ∃i,gY s.c.aR a=some i /\ ∃x,J4 m o4 X.p X.f X.l X.sp X.cv x X.pv (s.ey e (s.c.aR.getD i ⟨0,0⟩).v).c (s.ey e (s.c.aR.getD i ⟨0,0⟩).v).o (X.k+n) W G)
   (λ z=>o4 z≠0/\z<m.au) (qg _) ?_ ?_ ?_ ?_ ?_ ?_ ?_ ?_ ?_
  .rintro z ((q|q)|q)
   .exact ⟨by omega,rfl,λ w=>w.1 (by rw[q];exact k3.2.1)⟩
   .exact ⟨by omega,rfl,λ w=>w.1 (by rw[q];exact k4.2.1)⟩
   .exact q.elim
  .exact λ z hz=>hz.2
  .exact ⟨rfl,o4,ov,c4,λ _ _=>rfl,λ z w q=>⟨q,w⟩,qg _⟩
  .exact λ i W Ha Hb⟨S,F⟩hs hn=>⟨S,F.loc hs hn⟩
  .exact λ i W Ha Hb⟨S,i,F,x,T⟩hs hn=>⟨S,i,F,x,T.loc hs hn⟩
  .exact λ i W G⟨S,C,u,F,_⟩=>⟨F.row.ld 13,a9.sl F.rd⟩
  .intro E i lr lb y hy hL2 W K ⟨hi,C,u,c6,a6,w6,le6⟩ hb hf6 hnL hL6 hgL;subst hi;obtain⟨j,hj⟩:∃j,gY s.c.aR a=some j:=by
    cases q:gY s.c.aR a with
    |some j=>exact⟨j,rfl⟩
    |none=>unfold hJ at hy;rw[q]at hy;cases hy
   rw[kL j hj]at hy;injection hy with hy;subst hy
   obtain⟨vv,hvv⟩:∃vv,vv=(s.c.aR.getD j ⟨0,0⟩).v:=⟨_,rfl⟩
   have hvu:fM vv:=by
    obtain⟨S,y,F,-⟩:=pj hj;rw[hvv,zy,F];exact h.c.w.ru y (za F)
   rw[<-hvv];refine⟨_,rfl,?_⟩;have w:=Le M ⟨some E,O7⟩;simp only[aa,bc,w,Fb];refine⟨hgL,?_⟩;have fx:Fr (On E) K (K.set E lb):=(Fr.refl K).set (W:=On E) (.inl rfl) _;have gL:(K.set E lb).get E=some lb:=xc ..;have nL:(K.set E lb).au=K.au:=rfl
   have oL:C E=0:=xz λ q=>hnL (w6 E hL6 q);have c7:dA (K.set E lb) C X.p X.f X.l X.sp X.cv rv u X.pv s.c s.o (X.k+n):=c6.fr fx (λ z _ q(r:z=E)=>q (by rw[r];exact oL)) (λ _ _=>rfl) (qg _);have gk:∀z c t,z<m.au->o4 z=0->m.get z=some (OR c t)->(K.set E lb).get z=some (OR c t):=λ z c t S F T=>by
    rw[yo (by omega),hf6.ah z S (λ r=>r.elim (λ r=>r.1 F) id)];exact T
   have m1:=iq (gk H.au _ _ (by omega) k1.2.1 (pB r1 g1)) 0;have m2:=AO (gk H1.au _ _ (by omega) k2.2.1 (pB r2 g2));generalize K.set E lb=H7 at *;simp only[aa,bc,m1,m2];refine C3.q (QY (M:=M) c7 hl e hu hvu) λ _ H8⟨o8,rv8,ov8,c8,a8,f8⟩=>?_;simp only[aa,bc];have n8:=f8.au
   refine⟨rfl,by rw[f8.ah E (by omega) (λ q=>q oL)];exact gL,λ z=>z<H8.au/\(W z\/K.au<=z),λ z q=>q,?_,.inr ⟨trivial,rfl,j,hj,rv8,o8,ov8,by rw[<-hvv];exact c8,λ z q=>(a8 z (by omega)).trans (a6 z q),λ z S F=>⟨S,?_⟩,by omega⟩⟩
   .refine (fx.mono λ z _ q=>.inr q).trans f8 λ z q=>?_;rcases xr z K.au with r|r
    .exact .inl (.inl (w6 z r q))
    .exact .inr r
   .rcases xr z K.au with r|r
    .rw [a8 z (by omega)]at F;exact .inl (w6 z r F)
    .exact .inr r
  .rintro d W H' hd P hg hf hW ⟨hi,C,u,c6,a6,w6,le6⟩;have hz:gY s.c.aR a=none:=by
    cases q:gY s.c.aR a with
    |none=>rfl
    |some j=>rw[kL j q]at hi;cases hi
   have hlk:da s.c.aR a=none:=by rw[HO,hz];rfl
   rw[hlk];simp only;have od:C d=0:=xz λ q=>(hW d (w6 d P q)).2.2 rfl;have h9:=A.G0 (t:=s) rfl rfl c6 a6 (hf.mono λ z _ q=>q.elim (λ r=>r.1) False.elim) (qg _);have ld:zS H' C X.B bs d:=⟨P,od,λ w=>by have:=A.b.low w;omega⟩
   have xd:X.H.au<=d:=by have:=h.fr.au;omega
   have bd:X.Hb.au<=d:=by have:=h.hn;omega
   obtain⟨t1,t2⟩:=tail h9;simp only[aa,bc,Le,t1];refine C3.q t2 λ v J⟨U,m1,m2,m3,m4⟩=>?_;subst U;cases b:(s.kG a).2 with
   |true =>
    rw[qr rfl];simp only[aa,bc,aA,m1,m2];refine C3.q m4 λ _ H5 hp=>?_;simp only[aa,bc];exact⟨(hp.2 d ld xd bd).1.trans hg,(hp.2 d ld xd bd).2⟩
   |false =>
    rw[qo (by decide)];simp only[aa,bc,aA];exact⟨(m3.2 d ld xd bd).1.trans hg,(m3.2 d ld xd bd).2⟩
  .rintro ex d W H' he hd P hg hf hW ⟨rfl,j,hj,x,C,u,c6,a6,w6,le6⟩;have hlk:da s.c.aR a=some (s.c.aR.getD j ⟨0,0⟩).v:=by rw[HO,hj];rfl
   rw[hlk];simp only;have fd:Fr (On d) H' (H'.set d (.deferred none)):=(Fr.refl H').set (W:=On d) (.inl rfl) _;have od:C d=0:=xz λ q=>(hW d (w6 d P q)).2.2 rfl;have c9:=c6.fr fd (λ z _ q(r:z=d)=>q (by rw[r];exact od)) (λ _ _=>rfl) (qg _);simp only[aa,bc];have fr9:Fr (λ z=>o4 z≠0) m (H'.set d (.deferred none)):=(hf.mono λ z _ q=>q.elim (λ r=>r.1) False.elim).trans fd λ z(q:z=d)=>.inr (by omega);exact⟨hg,L.back ((A.co (t:=s.ey e (s.c.aR.getD j ⟨0,0⟩).v) rfl rfl ⟨C,x,u,c9,a6,fr9⟩ (qg _)).mono (by omega))⟩
 rw[qo q4];simp only;obtain⟨t1,t2⟩:=tail hr;simp only[aa,bc,Le,aA,<-e1,<-e2,l1,L.c.bq,ln,T,q4];refine C3.q t2 λ v J⟨U,m1,m2,m3,m4⟩=>?_;subst U;cases b:(s.kG a).2 with
 |true =>
  rw[qr rfl];simp only[aa,bc,aA,m1,m2];refine C3.q m4 λ _ H5 hp=>?_;simp only[aa,bc];exact hp.1
 |false =>
  rw[qo (by decide)];simp only[aa,bc,aA];exact m3.1
end
end Go.Am
namespace Go.Am
open Lang Go.Proofs
variable{M:ak}[MK M]
def DW:∀(b:List Pr)(x:Pr)(a:Int),gY (b ++ [x]) a=(gY b a).or (if x.a=a then some b.length else none)
 |[],x,a=>by unfold gY;show(if x.a=a then some 0 else(gY [] a).map _)=_;unfold gY;split<;>rfl
 |y::r,x,a=>by
  show(if y.a=a then some 0 else(gY (r ++ [x]) a).map (·+1))=Option.or (if y.a=a then some 0 else(gY r a).map (·+1)) _
  by_cases q:y.a=a
  .rw [qr q,qr q];rfl
  .rw [qo q,qo q,DW r x a];cases gY r a with
   |some i=>rfl
   |none=>simp only[Option.none_or,Option.map_none];split<;>rfl
def Bp:∀{b:List Pr}{i:Nat}{x:Pr}(v a:Int),b[i]? = some x->gY (b.set i ⟨x.a,v⟩) a=gY b a
 |y::r,0,x,v,a,h=>by injection h with h;subst h;rfl
 |y::r,i+1,x,v,a,h=>by
  show(if y.a=a then some 0 else(gY (r.set i ⟨x.a,v⟩) a).map (·+1))=_;rw[Bp v a (show r[i]? = some x from h)];rfl
def sX.app{g:List Pr}(h:sX g){a v:Int}(hn:gY g a=none):sX (g ++ [⟨a,v⟩]):=λ i x b=>by
 rw[DW];rcases xr i g.length with q|q
 .rw [je q]at b;rw[h i x b];rfl
 .rw [zh q]at b;have e:i=g.length:=by
   have:=(qk.1 b).1;simp only[z7,ym]at this;omega
  subst e;rw[Nat.sub_self]at b;injection b with b;subst b
  rw[hn,qr rfl];rfl
def sX.set{m:List Pr}(h:sX m){i:Nat}{x:Pr}(g:m[i]? = some x)(v:Int):sX (m.set i ⟨x.a,v⟩):=λ j y b=>by
 rw[Bp v _ g]
 by_cases q:j=i
 .subst q;rw[xp (by exact(qk.1 g).1)]at b;injection b with b;subst b
  exact h j x g
 .rw [xu (λ e=>q e.symm)]at b;exact h j y b
section
variable{H H1 H':ar}{o o1:Nat->Nat}{p f l sp k k':Nat}{cv rv ov pv:AV}{c d:Co}{os os':List ic}
def dA.wY(h:dA H o p f l sp cv rv ov pv c os k){i:Nat}{x:Pr}(A:c.aR[i]? = some x){v:Int}(B:fM v):∃H',Op.store 1 [.ptr (aH rv) (cF 2 rv i+1),.int .u64 v] H=some (.undef,H')/\gK H o p f l sp cv pv {c with aR:=c.aR.set i ⟨x.a,v⟩} os k H':=by
 obtain⟨H1,s1,r,b⟩:=a9.xU Ae h.rd A (j:=1) (by decide) (u:=.int .u64 v) rfl (y:=⟨x.a,v⟩) rfl;obtain⟨g,fv,hs⟩:=h.so;have m:∀z,o z≠5 -> ¬aW rv z:=λ z q w=>q (h.pP z w);refine⟨H1,s1,o,rv,ov,⟨h.row.fr b (m p (by rw[h.op];decide)),h.fi.fr b h.of (λ z q e=>m z (by omega)) λ _ _=>rfl,h.la.fr b (m l (by rw[h.ol];decide)),⟨g,fv,hs.fr b (λ z q e=>m z (by omega)) λ _ _=>rfl⟩,HN h.cd b λ e=>m _ (by rw[(h.mh e).2];decide),r,Own.fr h.ou b λ z q=>m z (by rw[h.qG z q];decide),h.op,h.of,h.ol,h.pP,h.qG,λ e=>⟨qj (h.mh e).1 b.au,(h.mh e).2⟩,h.Er,{h.w with ru:=λ y w=>(EJ w).elim (h.w.ru y) λ w=>by rw[w];exact B,rl:=by show(c.aR.set i _).length<=k;rw[xg];exact h.w.rl,JU:=h.w.JU.set A v}⟩,λ _ _=>rfl,b.mono λ z _ q=>by rw[h.pP z q];decide⟩
def dA.B6(h:dA H o p f l sp cv rv ov pv c os k)(hk:k<=100000){a:Int}(hn:gY c.aR a=none){K:bH->(Nat->AV)->Bool->AV->ar->Prop}{m:Bool}
 (I:∀i j r,Op.store 1 [.ptr p 13,i] j=some (.undef,r)->(∃o',dA r o' p f l sp cv i ov pv {c with aR:=c.aR ++ [⟨a,0⟩]} os (k+1)/\(∀z,z<H.au->o' z=o z)/\Fr (λ z=>o z=5\/o z=1) H r)->K (.row (AV.cells (.agg (cz ⟨a,0⟩))) wh (0,0) true) (Op.sliceTo 1 1) m i j) :
 iW m (Op.buildSlice wh 1 [.int .i64 0,.int .u64 0] [(0,2)] [.agg (cz ⟨a,0⟩)]) λ g o mk=>iW g (Op.append wh 2 16 [rv,mk H.au] (H.alloc o)) (K o mk):=by
 have rl:=h.w.rl;refine a9.oR (bytes:=16) h.rd (x:=.agg (cz ⟨a,0⟩)) (a:=⟨a,0⟩) rfl rfl rfl rfl (by decide) (by omega) (by omega) λ i j C v J=>?_;have one:av i=true:=Sl.one (Own.sl C);have L:=λ z(q:aW rv z)=>Own.lt h.rd z q;have ho:∀z,z<H.au->aS o H.au 5 z=o z:=λ z q=>i4 q
 have B:∀z,o z≠5 -> ¬aW rv z:=λ z q w=>q (h.pP z w);obtain⟨g,fv,hs⟩:=h.so;have lr:=λ z(q:aW ov z)=>Own.lt h.ou z q;have D:At j p Fg _:=h.row.fr v (B p (by rw[h.op];decide));have st:=D.st 13 one (by simp[cu]);have F:(cu c f l sp cv rv ov pv).set 13 i=cu {c with aR:=c.aR ++ [⟨a,0⟩]} f l sp cv i ov pv:=rfl;rw[F]at st;obtain⟨r,u⟩:∃X,X=j.set p (OR (cu {c with aR:=c.aR ++ [⟨a,0⟩]} f l sp cv i ov pv) Fg):=⟨_,rfl⟩
 rw[<-u]at st;have A:Fr (On p) j r:=u▸cE ..;have b:Fr (λ z=>aW rv z\/z=p) H r:=(v.mono λ z _ q=>.inl q).trans A λ z q=>.inl (.inr q);have nw:∀z,o z≠5->o z≠1 -> ¬(aW rv z\/z=p):=λ z G E w=>w.elim (B z G) λ w=>E (by rw[w];exact h.op);have no:∀z,aW i z->aS o H.au 5 z=5:=λ z q=>(J z q).elim (λ w=>(ho z (L z w)).trans (h.pP z w)) λ w=>mH w
 refine I i j r st ⟨aS o H.au 5,⟨u▸D.set _,h.fi.fr b h.of (λ z q e=>nw z (by omega) (by omega)) ho,h.la.fr b (nw l (by rw[h.ol];decide) (by rw[h.ol];decide)),⟨g,fv,hs.fr b (λ z q e=>nw z (by omega) (by omega)) ho⟩,HN h.cd b λ e=>nw _ (by rw[(h.mh e).2];decide) (by rw[(h.mh e).2];decide),Own.fr C A λ z q(w:z=p)=>?_,Own.fr h.ou b λ z q=>nw z (by rw[h.qG z q];decide) (by rw[h.qG z q];decide),
  (ho p h.row.2).trans h.op,(ho f (by obtain⟨pv,q,-⟩:=h.fi.at';exact q.2)).trans h.of,(ho l h.la.at'.2).trans h.ol,no,λ z q=>(ho z (lr z q)).trans (h.qG z q),λ e=>⟨qj (h.mh e).1 b.au,(ho _ (h.mh e).1).trans (h.mh e).2⟩,h.Er,{h.w with ru:=λ y w=>(zu.1 w).elim (h.w.ru y) λ w=>by rw[jr.1 w];exact bF,rl:=by show(c.aR ++ [_]).length<=k+1;rw[qv];simp only[z7,ym];omega,JU:=h.w.JU.app hn}⟩,ho,b.mono λ z _ q=>q.imp (h.pP z) λ q=>by rw[q];exact h.op⟩
 have:=no z q;rw[w,ho p h.row.2,h.op]at this;omega
end
section
variable{X:SX}{n n':Nat}{s t:CS}{H H':ar}{o:Nat->Nat}{rv ov:AV}{bs:Bs}{own:Nat->Nat}{V:Int->L8}
def dI.tag(h:dI X n s H o rv ov bs own V)(f:Fr Em H H')(t:Nat):dI X n s H' (aS o H.au t) rv ov bs own V:=by
 have ho:∀z,z<H.au->aS o H.au t z=o z:=λ z q=>i4 q
 have hn:=h.hn;have a:=h.fr.au
 refine{h with c:=h.c.fr f (λ _ _ _ q=>q) ho (qg _),b:=h.b.em f,dj:=λ z q=>(ho z (h.b.low q)).trans (h.dj z q),hb:=λ z q e=>?_,go:=λ z q e=>?_,fr:=h.fr.em f}
 .rcases xr z H.au with w|w
  .rw [ho z w]at e;exact h.hb z w e
  .omega
 .rcases xr z H.au with w|w
  .rw [ho z w]at e;exact h.go z w e
  .exact .inr (by omega)
def ZD(h:dI X n s H o rv ov bs own V)(hk:X.k+n<=90000)(hl:s.o.length<=1000)(e:mI)(hu:fM e.addr)(hv:fM e.value)(a:Int):zd M PQ [.ptr X.p 0,.agg (aZ e),.int .i64 a] H λ _ H'=>kZ X (n+1) (s.ib e a) H':=by
 refine qt2 ?_;obtain⟨H1,e1,f1,n1,P⟩:=bX H (OR (aZ e) jh);obtain⟨o1,A,lo⟩:=h.loc f1;have R:=(lo H.au).1 ⟨qg _,by omega⟩;have hr:=A.re;have ln:=ia (M:=M) A.c.la;have l3:=iq P 3;have l5:=AO P;have l3:Op.ae [.ptr H.au 3] H1=some (.int .u64 e.value):=l3;unfold CS.ib
 by_cases q3:s.c.la.lane=3
 .rw [qr q3];have q0:¬s.c.la.lane=0:=by omega
  simp only;simp only[aa,bc,vf,aA,<-e1,l3,A.c.bq,ln,q0,xb q3];obtain⟨g,fv,hs⟩:=A.c.so;refine C3.q (xd6 (M:=M) hs a hv) λ _ F hp=>?_;obtain⟨o3,rv3,ov3,bs3,own3,V3,E⟩:=hr.co (t:=s.so (·.store a e.value)) rfl rfl (A.c.MO hp) (qg _);obtain⟨lo1',r1⟩:=E.lo R;have c3:dA F o3 X.p X.f X.l X.sp X.cv rv3 ov3 X.pv (s.so (·.store a e.value)).c s.o (X.k+n):=E.c;obtain⟨g3,fv3,hs3⟩:=c3.so;have m2:=AO (pB r1 P);cases b:(s.so (·.store a e.value)).c.so.busy with
  |true =>
   rw[qr rfl];obtain⟨H4,s4,I⟩:=E.want e hu;have s4:Op.store 5 [.ptr X.p 7,.agg (aZ e)] F=some (.undef,H4):=s4;obtain⟨H5,s5,h5⟩:=I.put 6 (v:=.int .i64 6) {(s.so (·.store a e.value)).c with want:=e,ph:=6} rfl (by decide) rfl ⟨rfl,rfl,rfl,rfl⟩ ⟨rfl,rfl⟩ {I.c.w with};have s5:Op.store 1 [.ptr X.p 6,.int .i64 6] H4=some (.undef,H5):=s5;simp only[aa,bc,vf,aA,c3.bq,gR hs3,b,m2,s4,s5];exact A.back (h5.dV (by omega))
  |false =>
   rw[qo (by decide)];simp only[aa,bc,vf,aA,c3.bq,gR hs3,b,m2];refine C3.q (Nv (M:=M) (s:=s.so (·.store a e.value)) c3 hl 3 e a) λ _ H4 hp=>?_;simp only[aa,bc];exact A.back ((E.co (t:=(s.so (·.store a e.value)).stored 3 e a) rfl rfl hp (qg _)).mono (by omega))
 rw[qo q3]
 by_cases q4:s.c.la.lane=4
 .rw [qr q4];have q0:¬s.c.la.lane=0:=by omega
  have lr:=(a9.sl A.c.rd).len;have rl0:=A.c.w.rl;obtain⟨U,e2⟩:∃Z,Z=(H1.alloc (OR [.int .i64 0] cN)).set H1.au (OR [.int .i64 ((s.c.aR.length:Nat):Int)] cN):=⟨_,rfl⟩
  have s2:Op.store 1 [.ptr H1.au 0,.int .i64 ((s.c.aR.length:Nat):Int)] (H1.alloc (OR [.int .i64 0] cN))=some (.undef,U):=by rw[e2];exact(At.new H1 _ _).st 0 rfl (by simp)
  have f2:Fr Em H1 U:=e2▸((Fr.refl H1).alloc _).set (.inr (qg _)) _;have n2:U.au=H.au+2:=by rw[e2,sT,xx,n1]
  have g2:U.get H1.au=some (OR [.int .i64 ((s.c.aR.length:Nat):Int)] cN):=by rw[e2,xc]
  have h2:=hr.tag f2 4;have t2:aS o1 H1.au 4 H1.au=4:=mH (qg _)
  simp only[aa,bc,vf,aA,<-e1,A.c.bq,ln,q0,q3,xb q4,lr,s2];refine C3.q (xat (M:=M) X.p a) λ v m⟨hv',hh⟩=>?_;obtain⟨F,e3,f23,-,-⟩:=bX U (OR [.ptr X.p 0] we);obtain⟨H4,e4⟩:∃Z,Z=F.alloc (OR [.int .i64 a] cN):=⟨_,rfl⟩
  rw[<-e3]at hv' hh;rw[<-e4]at hh;subst hv';subst hh;have f34:Fr Em F m:=e4▸(Fr.refl F).alloc _;have n3:F.au=H.au+3:=by rw[e3,xx,n2]
  have n4:m.au=H.au+4:=by rw[e4,xx,n3]
  have g3:m.get U.au=some (OR [.ptr X.p 0] we):=by rw[f34.ah _ (by omega) id,e3,xf]
  have g4:m.get F.au=some (OR [.int .i64 a] cN):=by rw[e4,xf]
  have g2':m.get H1.au=some (OR [.int .i64 ((s.c.aR.length:Nat):Int)] cN):=by rw[f34.ah _ (by omega) id,f23.ah _ (by omega) id];exact g2
  have I:=h2.tag (f23.em f34) 0;obtain⟨S,Q⟩:∃S,S=aS (aS o1 H1.au 4) U.au 0:=⟨_,rfl⟩
  rw[<-Q]at I;have t4:S H1.au=4:=by rw[Q,i4 (by omega)];exact t2
  have k3:S U.au=0:=by rw[Q];exact mH (qg _)
  have k4:S F.au=0:=by rw[Q];exact mH (by omega)
  have c4:dA m S X.p X.f X.l X.sp X.cv rv ov X.pv s.c s.o (X.k+n):=I.c;have kL:∀i,gY s.c.aR a=some i->(hJ s.c.aR a)=[[.int .i64 (i:Int),.int .u64 (s.c.aR.getD i ⟨0,0⟩).v]]:=λ i q=>by unfold hJ;rw[q]
  obtain⟨vl,hvl⟩:∃vl:Nat->Nat,vl=λ i=>if i=0 then s.c.aR.length else(gY s.c.aR a).getD 0:=⟨_,rfl⟩
  have vl0:vl 0=s.c.aR.length:=by rw[hvl];rfl
  simp only[aa,bc];refine jC.tt (fn:=RM) (lp:=PO) (pa:=VM 0) (pb:=W6 0) qse ZZ.1 ZZ.2 (by decide) qq2 qq3
   (YO (M:=M) (rv:=rv) g3 g4 (by omega) (by omega) c4.w.JU (by omega)) (λ i W Hx=>J4 m S X.p X.f X.l X.sp X.cv rv X.pv s.c s.o (X.k+n) W Hx/\W H1.au/\Hx.get H1.au=some (OR [.int .i64 ((vl i:Nat):Int)] cN))
   (λ ex W Hx=>False)
   (λ z=>S z≠0/\z<m.au) (qg _) ?_ ?_ ?_ ?_ ?_ ?_ ?_ ?_ ?_
  .rintro z ((q|q)|q)
   .exact ⟨by omega,rfl,λ w=>w.1 (by rw[q];exact k3)⟩
   .exact ⟨by omega,rfl,λ w=>w.1 (by rw[q];exact k4)⟩
   .exact q.elim
  .exact λ z hz=>hz.2
  .exact ⟨⟨S,ov,c4,λ _ _=>rfl,λ z w q=>⟨q,w⟩,qg _⟩,⟨by rw[t4];decide,by omega⟩,by rw[vl0];exact g2'⟩
  .exact λ i W Ha Hb⟨q1,q2,q3⟩hs hn=>⟨q1.loc hs hn,q2,by rw[hs _ q2];exact q3⟩
  .exact λ i W Ha Hb q hs hn=>q
  .exact λ i W Hx⟨⟨L,T,q2,_⟩,_⟩=>⟨q2.row.ld 13,a9.sl q2.rd⟩
  .intro C i lr lb y hy hL2 W N ⟨⟨L,T,Y,a6,w6,le6⟩,wt,gt⟩ hb hf6 hnL hL6 hgL;obtain⟨j,K⟩:∃j,gY s.c.aR a=some j:=by
    cases q:gY s.c.aR a with
    |some j=>exact⟨j,rfl⟩
    |none=>unfold hJ at hy;rw[q]at hy;cases hy
   have hv1:vl (i+1)=j:=by rw[hvl];simp only;rw[qo (by omega),K];rfl
   rw[kL j K]at hy;have hi:i=0:=by
    have:=(qk.1 hy).1;simp only[z7,ym]at this;omega
   subst hi;injection hy with hy;subst hy
   refine⟨_,rfl,?_⟩;have w:=vf M ⟨some C,PQ⟩;simp only[aa,bc,w,Fb];refine⟨hgL,?_⟩;have fx:Fr (On C) N (N.set C lb):=(Fr.refl N).set (W:=On C) (.inl rfl) _;have gL:(N.set C lb).get C=some lb:=xc ..;have nL:(N.set C lb).au=N.au:=rfl
   have oL:L C=0:=xz λ q=>hnL (w6 C hL6 q);have ot:L H1.au=4:=(a6 _ (by omega)).trans t4
   have nt:H1.au≠C:=by omega
   have c7:dA (N.set C lb) L X.p X.f X.l X.sp X.cv rv T X.pv s.c s.o (X.k+n):=Y.fr fx (λ z _ q(r:z=C)=>q (by rw[r];exact oL)) (λ _ _=>rfl) (qg _);have a7:At (N.set C lb) H1.au cN [.int .i64 ((vl 0:Nat):Int)]:=⟨by rw[yo nt.symm];exact gt,by rw[nL];omega⟩
   generalize N.set C lb=H7 at *;have s7:=a7.st 0 (v:=.int .i64 (j:Int)) rfl (by simp);have a8:=a7.set [.int .i64 (j:Int)];have f8:Fr (On H1.au) H7 (H7.set H1.au (OR [.int .i64 (j:Int)] cN)):=cE ..;simp only[aa,bc,s7,List.set];refine⟨rfl,by rw[f8.ah C (by omega) λ q:C=H1.au=>nt q.symm];exact gL,W,λ z q=>⟨by have:=(hb z q).1;rw[sT,nL];exact this,.inl q⟩,?_,.inl ⟨rfl,⟨L,T,c7.m0 f8 (λ z _ q r(u:z=H1.au)=>r (by rw[u];exact ot)) (λ _ _=>rfl) (qg _),a6,λ z q1 q2=>w6 z (by rw[sT,nL]at q1;exact q1) q2,by rw[sT,nL];exact le6⟩,wt,by rw[hv1];exact a8.1⟩⟩;exact(fx.mono λ z _ q=>.inr q).trans f8 λ z(q:z=H1.au)=>.inl (.inl (by rw[q];exact wt))
  .rintro d W H' hd hd2 hg hf hW ⟨⟨L,T,Y,a6,w6,le6⟩,wt,gt⟩;have od:L d=0:=xz λ q=>(hW d (w6 d hd2 q)).2.2 rfl;have h9:=I.G0 (t:=s) rfl rfl Y a6 (hf.mono λ z _ q=>q.elim (λ r=>r.1) False.elim) (qg _);have h9r:=h9.re;have ld:zS H' L X.B bs d:=⟨hd2,od,λ w=>by have:=I.b.low w;omega⟩
   have lb:zS H' L X.B bs H.au/\H'.get H.au=H1.get H.au:=h9.lo R
   have xd:X.H.au<=d:=by have:=h.fr.au;omega
   have bd:X.Hb.au<=d:=by have:=h.hn;omega
   have fin:∀{t:CS}{Z:ar}{oz:Nat->Nat}{rvz ovz:AV}{bsz:Bs}{ownz:Nat->Nat}{Vz:Int->L8},dI ((X.at H1 o1 bs).at H' L bs) (n+1) t Z oz rvz ovz bsz ownz Vz->Z.get d=some (.deferred (some []))/\kZ X (n+1) t (Z.set d (.deferred none)):=λ hz =>
    ⟨(hz.lo ld).2.trans hg,((A.sn (h9.sn hz)).pq (hz.lo ld).1 xd bd _).here⟩
   have lt:=iq gt 0;have l3':=iq (pB lb.2 P) 3;have l3':Op.ae [.ptr H.au 3] H'=some (.int .u64 e.value):=l3';have e12:(X.k+n)+1=X.k+(n+1):=by omega
   cases K:gY s.c.aR a with
   |none =>
    have hL:(hJ s.c.aR a).length=0:=by unfold hJ;rw[K];rfl
    have lt:Op.ae [.ptr H1.au 0] H'=some (.int .i64 ((s.c.aR.length:Nat):Int)):=by rw[lt,hL,vl0];rfl
    have bp:Op.build [.int .i64 0,.int .u64 0] [(0,1)] [.int .i64 a]=some (.agg (cz ⟨a,0⟩)):=rfl;simp only[aa,bc,vf,aA,lt,Y.bq,lr,bp];refine Y.B6 (by omega) K λ v' H10 H11 st'⟨o11,c11,a11,O⟩=>?_;have lt11:Op.ae [.ptr H1.au 0] H11=some (.int .i64 ((s.c.aR.length:Nat):Int)):=by
     rw[<-lt];exact(iq (pB (O.ah _ (by omega) λ q=>by rw[(a6 _ (by omega)).trans t4]at q;omega) gt) 0).trans (iq gt 0).symm
    have l311:Op.ae [.ptr H.au 3] H11=some (.int .u64 e.value):=iq (pB (O.ah _ lb.1.1 λ q=>by rw[lb.1.2.1]at q;omega) (pB lb.2 P)) 3;have hx:(s.c.aR ++ [(⟨a,0⟩:Pr)])[s.c.aR.length]? = some ⟨a,0⟩:=by rw[zh (qg _),Nat.sub_self];rfl
    have ix:=(a9.sl c11.rd).idx hx (z:=((s.c.aR.length:Nat):Int)) rfl .i64;obtain⟨H12,s12,o12,rv12,ov12,G,a12,f12⟩:=c11.wY hx hv;have er:(s.c.aR ++ [(⟨a,0⟩:Pr)]).set s.c.aR.length ⟨a,e.value⟩=ft s.c.aR a e.value:=by rw[Tg K,MD _ _ (qg _),Nat.sub_self];rfl
    rw[er]at G;have D:=h9r.G0 (n':=n+1) (t:={s with c:={s.c with aR:=ft s.c.aR a e.value}}) rfl rfl (G.fr (Fr.refl _) (λ _ _ _ w=>w) (λ _ _=>rfl) (show X.k+n+1<=X.k+(n+1)by omega)) (λ z q=>(a12 z (qj q O.au)).trans (a11 z q)) ((O.mono λ z _ q=>by omega).trans f12 λ z q=>by
     rcases xr z H'.au with w|w
     .exact .inl (by rw[<-a11 z w];exact q)
     .exact .inr w) (by omega)
    have J:=AO (pB (D.lo lb.1).2 (pB lb.2 P));simp only[aa,bc,vf,aA,st',c11.bq,lt11,l311,ix,s12,J];refine C3.q (Nv (M:=M) (s:={s with c:={s.c with aR:=ft s.c.aR a e.value}}) D.c hl 3 e a) λ _ H13⟨o13,rv13,ov13,c13,a13,f13⟩=>?_;simp only[aa,bc];exact fin (D.G0 (t:=({s with c:={s.c with aR:=ft s.c.aR a e.value}}:CS).stored 3 e a) rfl rfl c13 a13 f13 (qg _))
   |some j =>
    have hL:(hJ s.c.aR a).length=1:=by rw[kL j K];rfl
    have hv1:vl 1=j:=by rw[hvl];simp only;rw[qo (by omega),K];rfl
    have lt:Op.ae [.ptr H1.au 0] H'=some (.int .i64 (j:Int)):=by rw[lt,hL,hv1];rfl
    obtain⟨jl,x,hx,xa⟩:=pj K;have jn:¬(j:Int)=((s.c.aR.length:Nat):Int):=by omega
    have ix:=(a9.sl Y.rd).idx hx (z:=(j:Int)) rfl .i64;obtain⟨H12,s12,o12,rv12,ov12,G,a12,f12⟩:=Y.wY hx hv;have er:s.c.aR.set j ⟨x.a,e.value⟩=ft s.c.aR a e.value:=by rw[Q9 K,xa]
    rw[er]at G;have D:=h9r.G0 (n':=n) (t:={s with c:={s.c with aR:=ft s.c.aR a e.value}}) rfl rfl G a12 f12 (qg _);have J:=AO (pB (D.lo lb.1).2 (pB lb.2 P));simp only[aa,bc,vf,aA,lt,Y.bq,lr,jn,l3',ix,s12,J];refine C3.q (Nv (M:=M) (s:={s with c:={s.c with aR:=ft s.c.aR a e.value}}) D.c hl 3 e a) λ _ H13⟨o13,rv13,ov13,c13,a13,f13⟩=>?_;simp only[aa,bc];exact fin (D.G0 (n':=n+1) (t:=({s with c:={s.c with aR:=ft s.c.aR a e.value}}:CS).stored 3 e a) rfl rfl (c13.fr (Fr.refl _) (λ _ _ _ w=>w) (λ _ _=>rfl) (show X.k+n<=X.k+(n+1)by omega)) a13 f13 (by omega))
  .exact λ e d W H' he hd hd2 hg hf hW q=>q.elim
 rw[qo q4];have st:=PI (M:=M) hr hk a hv
 by_cases q0:s.c.la.lane=0
 .rw [qr q0];simp only[aa,bc,vf,aA,<-e1,l3,A.c.bq,ln,xb q0];refine C3.q st λ w F⟨hw,o3,rv3,ov3,bs3,own3,V3,E⟩=>?_;subst hw;cases b:s.uy a e.value with
  |true =>
   rw[qr rfl];have m2:=AO (pB (E.lo R).2 P);simp only[aa,bc,m2];refine C3.q (Nv (M:=M) (s:=s.st a e.value) E.c hl 8 e a) λ _ H4 hp=>?_;simp only[aa,bc];exact A.back (E.co (t:=(s.st a e.value).stored 8 e a) rfl rfl hp (qg _))
  |false =>
   rw[qo (by decide)];simp only[aa,bc];exact A.back E.here
 .simp only[aa,bc,vf,aA,<-e1,l3,A.c.bq,ln,q0,q3,q4];refine C3.q st λ w F⟨hw,o3,rv3,ov3,bs3,own3,V3,E⟩=>?_;subst hw;cases b:s.uy a e.value with
  |true =>
   rw[qr rfl];obtain⟨H4,s4,I⟩:=E.put 15 (v:=.bool true) {s.c with wrote:=true} rfl (by decide) rfl ⟨rfl,rfl,rfl,rfl⟩ ⟨rfl,rfl⟩ {E.c.w with};have s4:Op.store 1 [.ptr X.p 15,.bool true] F=some (.undef,H4):=s4;have m2:=AO (pB (I.lo R).2 P);simp only[aa,bc,aA,s4,m2];refine C3.q (Nv (M:=M) (s:={s.st a e.value with c:={s.c with wrote:=true}}) I.c hl 3 e a) λ _ H5 hp=>?_;simp only[aa,bc];exact A.back (I.co (t:=({s.st a e.value with c:={s.c with wrote:=true}}:CS).stored 3 e a) rfl rfl hp (qg _))
  |false =>
   rw[qo (by decide)];simp only[aa,bc];exact A.back E.here
end
end Go.Am
namespace Go.Am
open Lang Go.Proofs
variable{M:ak}[MK M]
section
variable{X:SX}{n n':Nat}{s t:CS}{H H':ar}{o:Nat->Nat}{rv ov:AV}{bs:Bs}{own:Nat->Nat}{V:Int->L8}
def GF(h:dI X n s H o rv ov bs own V)(hk:X.k+n<=90000)(hl:s.o.length<=1000):zd M ql5 [.ptr X.p 0] H λ _ H'=>kZ X (n+1) s.aK H':=by
 refine qvr ?_;have lr:=(a9.sl h.c.rd).len;have d0:=h.c.w.d0;have rl:=h.c.w.rl;unfold CS.aK;rw[qr d0]
 by_cases q:s.c.done<((s.c.aR.length:Nat):Int)
 .obtain ⟨x,e⟩:∃x,s.c.aR[s.c.done.toNat]? = some x:=⟨_,qt (by omega)⟩
  rw[e];have ix:=(a9.sl h.c.rd).idx e (z:=s.c.done) (Mr d0).symm .i64;have ld:Op.aq 2 [M1 rv s.c.done.toNat] H=some (.agg (cz x)):=(a9.sl h.c.rd).aq Ae (by decide) e;have bx:=RR (H1:=H) x;obtain⟨H1,j⟩:∃Z,Z=(H.alloc (OR [.int .i64 0,.int .u64 0] wh)).set H.au (OR (cz x) wh):=⟨_,rfl⟩
  rw[<-j]at bx;have B:Fr Em H H1:=by rw[j];exact wQ _ _
  have u:H1.get H.au=some (OR (cz x) wh):=by rw[j,xc]
  have l0:Op.ae [.ptr H.au 0] H1=some (.int .i64 x.a):=iq u 0;have l1:Op.ae [.ptr H.au 1] H1=some (.int .u64 x.v):=iq u 1;obtain⟨o1,C,-⟩:=h.loc B;simp only[aa,bc,SI,aA,h.c.bq,lr,xb q,ix,show∀i,Op.aq 2 [AV.ptr (aH rv) (cF 2 rv i)] H=Op.aq 2 [M1 rv i] H from λ _=>rfl,ld,bx,l0,l1];refine C3.q (PI (M:=M) C hk x.a (h.c.w.ru x (za e))) λ w r⟨hw,o2,m,l,g,f,A,d⟩=>?_;subst hw;cases b:s.uy x.a x.v with
  |true =>
   rw[qr rfl];have wd:aj .i64 (s.c.done+1)=s.c.done+1:=jw (by omega) (by omega);obtain⟨y,E,D⟩:=d.put 14 (v:=.int .i64 (aj .i64 (s.c.done+1))) {s.c with done:=aj .i64 (s.c.done+1)} rfl (by decide) rfl ⟨rfl,rfl,rfl,rfl⟩ ⟨rfl,rfl⟩ {d.c.w with d0:=by show 0<=aj .i64 (s.c.done+1);rw[wd];omega};have uh:Op.ae [.ptr X.p 14] r=some (.int .i64 s.c.done):=d.c.row.ld 14;simp only[aa,bc,SI,aA,uh,E];exact D.here
  |false =>
   rw[qo (by decide)];simp only[aa,bc,SI];exact d.here
 .have e:s.c.aR[s.c.done.toNat]? = none:=zz (by omega);rw[e];unfold CS.gB;simp only;simp only[aa,bc,SI,aA,h.c.bq,lr,q];refine C3.q (PI (M:=M) h hk 0 (EK _)) λ w r⟨hw,o2,m,l,g,f,A,d⟩=>?_;subst hw;cases b:s.uy 0 (aj .u64 (s.c.seq+2))with
  |true =>
   rw[qr rfl];simp only[aa,bc];refine C3.q (Oa (M:=M) (s:=s.st 0 (aj .u64 (s.c.seq+2))) d.c hl) λ _ y hp=>?_;simp only[aa,bc];exact d.co (t:=(s.st 0 (aj .u64 (s.c.seq+2))).cD) (Qg _) (QF _) hp (qg _)
  |false =>
   rw[qo (by decide)];simp only[aa,bc];exact d.here
def CS.mB(s:CS)(v:Int)(taken:Bool):CS :=
 let t:CS:={s with c:={s.c with so:=s.c.so.eM v taken}}
 let u:=if s.c.so.aC=true/\t.c.so.aC=false then t.aw else t
 let w:=if s.c.so.points<u.c.so.points then u.tell 4 0 0 0 else u
 if w.c.so.busy=true then w else w.eL
def Xg(s:CS)(v:Int)(tk:Bool):s.given v tk=CS.mB {s with c:={s.c with held:=s.c.held ||tk && decide (s.c.so.want.a=0)}} v tk:=rfl
def MZ(h:dI X n s H o rv ov bs own V)(hl:s.o.length<=1000):zd M qk9 [.ptr X.p 0] H λ _ H'=>kZ X n s.eL H':=by
 refine qtw ?_;unfold CS.eL;obtain⟨g,fv,hs⟩:=h.c.so
 by_cases a:s.c.so.ended=2
 .rw [qr a];simp only[aa,bc,NK,aA,h.c.bq,p9 hs,xb a];refine C3.q (hH (M:=M) h.c hl 8) λ _ H1 hp=>?_;simp only[aa,bc];exact h.co (t:=s.abort 8) rfl rfl hp (qg _)
 rw[qo a]
 by_cases d:s.c.want.kind=5
 .rw [qr d];obtain⟨j,k,b⟩:=h.put 6 (v:=.int .i64 0) {s.c with ph:=0} rfl (by decide) rfl ⟨rfl,rfl,rfl,rfl⟩ ⟨rfl,rfl⟩ {h.c.w with};simp only[aa,bc,NK,aA,h.c.bq,p9 hs,a,xb d,k];exact b.here
 rw[qo d]
 by_cases f:s.c.want.kind=3
 .rw [qr f];obtain⟨j,k,b⟩:=h.put 6 (v:=.int .i64 0) {s.c with ph:=0} rfl (by decide) rfl ⟨rfl,rfl,rfl,rfl⟩ ⟨rfl,rfl⟩ {h.c.w with};obtain⟨r,l,e⟩:=b.c.so;simp only[aa,bc,NK,aA,h.c.bq,p9 hs,a,d,xb f,k,b.c.bq,DM e];refine C3.q (QY (M:=M) (s:=s.ph 0) b.c hl s.c.want h.c.w.wu e.vu) λ _ m hp=>?_;simp only[aa,bc];exact b.co (t:=(s.ph 0).ey s.c.want s.c.so.value) rfl rfl hp (qg _)
 rw[qo f]
 by_cases i:s.c.want.kind=6
 .rw [qr i];simp only[aa,bc,NK,aA,h.c.bq,p9 hs,a,d,f,xb i];refine C3.q (Oa (M:=M) h.c hl) λ _ j hp=>?_;simp only[aa,bc];exact h.co (t:=s.cD) (Qg _) (QF _) hp (qg _)
 rw[qo i];simp only[aa,bc,NK,aA,h.c.bq,p9 hs,a,d,f,i];refine C3.q (XN (M:=M) h.c hl) λ _ j hp=>?_;simp only[aa,bc];exact h.co (t:=s.breaks) rfl rfl hp (qg _)
def Fe(h:dI X n s H o rv ov bs own V)(hk:X.k+n<=90000)(hl:s.o.length<=990):zd M MH [.ptr X.p 0] H λ _ H'=>kZ X (n+1) s.nC H':=by
 refine qvs ?_;unfold CS.nC;simp only;obtain⟨g,fv,hs⟩:=h.c.so;simp only[aa,bc,ze,aA,h.c.bq];refine C3.q (QT (M:=M) hs) λ w H1⟨⟨qb,hw⟩,f1⟩=>?_;subst hw;obtain⟨B,e2⟩:∃Z,Z=(H1.alloc (OR (iH ⟨0,0,0,0⟩) CP)).set H1.au (OR (iH s.c.so.want) CP):=⟨_,rfl⟩
 have s2:Op.store 4 [.ptr H1.au 0,.agg (iH s.c.so.want)] (H1.alloc (OR (iH ⟨0,0,0,0⟩) CP))=some (.undef,B):=by
  have:=(At.new H1 (iH ⟨0,0,0,0⟩) CP).gI (k:=0) (n:=4) (v:=.agg (iH s.c.so.want)) rfl (by simp[iH]) rfl;rw[e2];exact this
 have f2:Fr Em H1 B:=e2▸((Fr.refl H1).alloc _).set (.inr (qg _)) _;have n1:=f1.au
 have n2:B.au=H1.au+1:=by rw[e2,sT,xx]
 have g2:B.get H1.au=some (OR (iH s.c.so.want) CP):=by rw[e2,xc]
 have k0:Op.ae [.ptr H1.au 0] B=some (.int .i64 s.c.so.want.op):=iq g2 0;have k1:Op.ae [.ptr H1.au 1] B=some (.int .i64 s.c.so.want.a):=iq g2 1;have k2:Op.ae [.ptr H1.au 2] B=some (.int .u64 s.c.so.want.v):=iq g2 2;have k3:Op.ae [.ptr H1.au 3] B=some (.int .u64 s.c.so.want.o):=iq g2 3;obtain⟨o2,u,lo⟩:=h.loc (f1.em f2);have lo1:=(lo H1.au).1 ⟨n1,by omega⟩;have hr:=u.re;have rest2:∀{H4:ar}{o4:Nat->Nat}{rv4 ov4:AV}{bs4:Bs}{own4:Nat->Nat}{V4:Int->L8}{d:CS}{v:Int}{tk:Bool},fM v->dI (X.at B o2 bs) (n+1) d H4 o4 rv4 ov4 bs4 own4 V4->d.o.length<=990 -> ∀{E:Env}{Q:aF},lk E 0=some (.ptr X.p 0)->lk E 4=some (.int .u64 v)->lk E 5=some (.bool tk)->lk E 7=some (.int .i64 d.c.so.points)->lk E 8=some (.bool d.c.so.aC)->(∀ex E D H',(ex=.normal\/ex=.ret)->D=[]->kZ X (n+1) (d.mB v tk) H'->Q ex E D H')->W M ⟨none,MH⟩ (FB MH 36) true Q E [] H4:=λ{H4 o4 rv4 ov4 bs4 own4 V4 d v tk}hu h4 hl{E Q}j E4 Y E7 E8 x=>by
  obtain⟨g4,fv4,r⟩:=h4.c.so;have c4:dA H4 o4 X.p X.f X.l X.sp X.cv rv4 ov4 X.pv d.c d.o (X.k+(n+1)):=h4.c;simp only[aa,bc,ze,aA,j,E4,Y,c4.bq];refine C3.q (Om (M:=M) r hu) λ _ H5 hp=>?_;obtain⟨o5,rv5,ov5,bs5,own5,V5,h5⟩:=h4.co (t:={d with c:={d.c with so:=d.c.so.eM v tk}}) rfl rfl (h4.c.MO hp) (qg _);obtain⟨e,F⟩:∃e:CS,e = {d with c:={d.c with so:=d.c.so.eM v tk}}:=⟨_,rfl⟩
  rw[<-F]at h5;have hl5:e.o.length<=990:=by rw[F];exact hl
  have c5:dA H5 o5 X.p X.f X.l X.sp X.cv rv5 ov5 X.pv e.c e.o (X.k+(n+1)):=h5.c;obtain⟨g5,fv5,i⟩:=c5.so;have ew:e.c.so.aC=(d.c.so.eM v tk).aC:=by rw[F]
  cases C:d.c.so.aC with
  |true =>
   cases K:e.c.so.aC with
   |true =>
    by_cases q:d.c.so.points<e.c.so.points
    .simp only[aa,bc,ze,aA,j,E7,E8,C,Iy i,K,c5.bq,eH i,xb q];refine C3.q (ES (M:=M) (s:=e) c5 (by omega) 4 0 0 0) λ _ H7 hp=>?_;obtain⟨o7,U,T,bs7,own7,V7,P⟩:=h5.co (t:=(e).tell 4 0 0 0) rfl rfl hp (qg _);have N:dA H7 o7 X.p X.f X.l X.sp X.cv U T X.pv ((e).tell 4 0 0 0).c ((e).tell 4 0 0 0).o (X.k+(n+1)):=P.c;obtain⟨g7,fv7,z⟩:=N.so;cases b:((e).tell 4 0 0 0).c.so.busy with
     |true =>
      have m:d.mB v tk=((e).tell 4 0 0 0):=by unfold CS.mB;simp only;rw[<-F,qo (show¬(d.c.so.aC=true/\(d.c.so.eM v tk).aC=false)from λ w=>by have:=ew.trans w.2;rw[K]at this;cases this),qr q,qr b]
      simp only[aa,bc,ze,aA,j,N.bq,gR z,b];exact x _ _ _ _ (.inl rfl) rfl (by rw[m];exact u.back P.here)
     |false =>
      have m:d.mB v tk=(((e).tell 4 0 0 0)).eL:=by unfold CS.mB;simp only;rw[<-F,qo (show¬(d.c.so.aC=true/\(d.c.so.eM v tk).aC=false)from λ w=>by have:=ew.trans w.2;rw[K]at this;cases this),qr q,qo (by rw[b];decide)]
      simp only[aa,bc,ze,aA,j,N.bq,gR z,b];refine C3.q (MZ (M:=M) (X:=X.at B o2 bs) P (by show(e.o ++ [_]).length<=1000;rw[qv];simp only[z7,ym];omega)) λ _ H9 hp=>?_;simp only[aa,bc];exact x _ _ _ _ (.inl rfl) rfl (by rw[m];exact u.back hp)
    .cases b:e.c.so.busy with
     |true =>
      have m:d.mB v tk=e:=by unfold CS.mB;simp only;rw[<-F,qo (show¬(d.c.so.aC=true/\(d.c.so.eM v tk).aC=false)from λ w=>by have:=ew.trans w.2;rw[K]at this;cases this),qo q,qr b]
      simp only[aa,bc,ze,aA,j,E7,E8,C,Iy i,K,eH i,q,c5.bq,gR i,b];exact x _ _ _ _ (.inl rfl) rfl (by rw[m];exact u.back h5.here)
     |false =>
      have m:d.mB v tk=(e).eL:=by unfold CS.mB;simp only;rw[<-F,qo (show¬(d.c.so.aC=true/\(d.c.so.eM v tk).aC=false)from λ w=>by have:=ew.trans w.2;rw[K]at this;cases this),qo q,qo (by rw[b];decide)]
      simp only[aa,bc,ze,aA,j,E7,E8,C,Iy i,K,eH i,q,c5.bq,gR i,b];refine C3.q (MZ (M:=M) (X:=X.at B o2 bs) h5 (by omega)) λ _ H9 hp=>?_;simp only[aa,bc];exact x _ _ _ _ (.inl rfl) rfl (by rw[m];exact u.back hp)
   |false =>
    simp only[aa,bc,ze,aA,j,E8,C,c5.bq,Iy i,K];refine C3.q (k9 (M:=M) (s:=e) c5 (by omega)) λ _ H6 hp=>?_;obtain⟨o6,rv6,ov6,bs6,own6,V6,h6⟩:=h5.co (t:=e.aw) (ZH _) (YC _) hp (qg _);have hl6:=xck e;have c6:dA H6 o6 X.p X.f X.l X.sp X.cv rv6 ov6 X.pv e.aw.c e.aw.o (X.k+(n+1)):=h6.c;obtain⟨g6,fv6,S⟩:=c6.so
    by_cases q:d.c.so.points<e.aw.c.so.points
    .simp only[aa,bc,ze,aA,j,E7,c6.bq,eH S,xb q];refine C3.q (ES (M:=M) (s:=e.aw) c6 (by omega) 4 0 0 0) λ _ H7 hp=>?_;obtain⟨o7,U,T,bs7,own7,V7,P⟩:=h6.co (t:=(e.aw).tell 4 0 0 0) rfl rfl hp (qg _);have N:dA H7 o7 X.p X.f X.l X.sp X.cv U T X.pv ((e.aw).tell 4 0 0 0).c ((e.aw).tell 4 0 0 0).o (X.k+(n+1)):=P.c;obtain⟨g7,fv7,z⟩:=N.so;cases b:((e.aw).tell 4 0 0 0).c.so.busy with
     |true =>
      have m:d.mB v tk=((e.aw).tell 4 0 0 0):=by unfold CS.mB;simp only;rw[<-F,qr (show d.c.so.aC=true/\(d.c.so.eM v tk).aC=false from⟨C,ew.symm.trans K⟩),qr q,qr b]
      simp only[aa,bc,ze,aA,j,N.bq,gR z,b];exact x _ _ _ _ (.inl rfl) rfl (by rw[m];exact u.back P.here)
     |false =>
      have m:d.mB v tk=(((e.aw).tell 4 0 0 0)).eL:=by unfold CS.mB;simp only;rw[<-F,qr (show d.c.so.aC=true/\(d.c.so.eM v tk).aC=false from⟨C,ew.symm.trans K⟩),qr q,qo (by rw[b];decide)]
      simp only[aa,bc,ze,aA,j,N.bq,gR z,b];refine C3.q (MZ (M:=M) (X:=X.at B o2 bs) P (by show(e.aw.o ++ [_]).length<=1000;rw[qv];simp only[z7,ym];omega)) λ _ H9 hp=>?_;simp only[aa,bc];exact x _ _ _ _ (.inl rfl) rfl (by rw[m];exact u.back hp)
    .cases b:e.aw.c.so.busy with
     |true =>
      have m:d.mB v tk=e.aw:=by unfold CS.mB;simp only;rw[<-F,qr (show d.c.so.aC=true/\(d.c.so.eM v tk).aC=false from⟨C,ew.symm.trans K⟩),qo q,qr b]
      simp only[aa,bc,ze,aA,j,E7,eH S,q,c6.bq,gR S,b];exact x _ _ _ _ (.inl rfl) rfl (by rw[m];exact u.back h6.here)
     |false =>
      have m:d.mB v tk=(e.aw).eL:=by unfold CS.mB;simp only;rw[<-F,qr (show d.c.so.aC=true/\(d.c.so.eM v tk).aC=false from⟨C,ew.symm.trans K⟩),qo q,qo (by rw[b];decide)]
      simp only[aa,bc,ze,aA,j,E7,eH S,q,c6.bq,gR S,b];refine C3.q (MZ (M:=M) (X:=X.at B o2 bs) h6 (by omega)) λ _ H9 hp=>?_;simp only[aa,bc];exact x _ _ _ _ (.inl rfl) rfl (by rw[m];exact u.back hp)
  |false =>
   by_cases q:d.c.so.points<e.c.so.points
   .simp only[aa,bc,ze,aA,j,E7,E8,C,c5.bq,eH i,xb q];refine C3.q (ES (M:=M) (s:=e) c5 (by omega) 4 0 0 0) λ _ H7 hp=>?_;obtain⟨o7,U,T,bs7,own7,V7,P⟩:=h5.co (t:=(e).tell 4 0 0 0) rfl rfl hp (qg _);have N:dA H7 o7 X.p X.f X.l X.sp X.cv U T X.pv ((e).tell 4 0 0 0).c ((e).tell 4 0 0 0).o (X.k+(n+1)):=P.c;obtain⟨g7,fv7,z⟩:=N.so;cases b:((e).tell 4 0 0 0).c.so.busy with
    |true =>
     have m:d.mB v tk=((e).tell 4 0 0 0):=by unfold CS.mB;simp only;rw[<-F,qo (show¬(d.c.so.aC=true/\(d.c.so.eM v tk).aC=false)from λ w=>by rw[C]at w;cases w.1),qr q,qr b]
     simp only[aa,bc,ze,aA,j,N.bq,gR z,b];exact x _ _ _ _ (.inl rfl) rfl (by rw[m];exact u.back P.here)
    |false =>
     have m:d.mB v tk=(((e).tell 4 0 0 0)).eL:=by unfold CS.mB;simp only;rw[<-F,qo (show¬(d.c.so.aC=true/\(d.c.so.eM v tk).aC=false)from λ w=>by rw[C]at w;cases w.1),qr q,qo (by rw[b];decide)]
     simp only[aa,bc,ze,aA,j,N.bq,gR z,b];refine C3.q (MZ (M:=M) (X:=X.at B o2 bs) P (by show(e.o ++ [_]).length<=1000;rw[qv];simp only[z7,ym];omega)) λ _ H9 hp=>?_;simp only[aa,bc];exact x _ _ _ _ (.inl rfl) rfl (by rw[m];exact u.back hp)
   .cases b:e.c.so.busy with
    |true =>
     have m:d.mB v tk=e:=by unfold CS.mB;simp only;rw[<-F,qo (show¬(d.c.so.aC=true/\(d.c.so.eM v tk).aC=false)from λ w=>by rw[C]at w;cases w.1),qo q,qr b]
     simp only[aa,bc,ze,aA,j,E7,E8,C,eH i,q,c5.bq,gR i,b];exact x _ _ _ _ (.inl rfl) rfl (by rw[m];exact u.back h5.here)
    |false =>
     have m:d.mB v tk=(e).eL:=by unfold CS.mB;simp only;rw[<-F,qo (show¬(d.c.so.aC=true/\(d.c.so.eM v tk).aC=false)from λ w=>by rw[C]at w;cases w.1),qo q,qo (by rw[b];decide)]
     simp only[aa,bc,ze,aA,j,E7,E8,C,eH i,q,c5.bq,gR i,b];refine C3.q (MZ (M:=M) (X:=X.at B o2 bs) h5 (by omega)) λ _ H9 hp=>?_;simp only[aa,bc];exact x _ _ _ _ (.inl rfl) rfl (by rw[m];exact u.back hp)
 have rest:∀{H3:ar}{o3:Nat->Nat}{I G:AV}{L:Bs}{A:Nat->Nat}{V3:Int->L8}{y:CS}{v:Int}{tk:Bool},fM v->dI (X.at B o2 bs) (n+1) y H3 o3 I G L A V3->y.c=s.c->y.o=s.o -> ∀{E:Env}{Q:aF},lk E 0=some (.ptr X.p 0)->lk E 2=some (.ptr H1.au 0)->lk E 4=some (.int .u64 v)->lk E 5=some (.bool tk)->lk E 6=some (.bool true)->(∀ex E D H',(ex=.normal\/ex=.ret)->D=[]->kZ X (n+1) (y.given v tk) H'->Q ex E D H')->W M ⟨none,MH⟩ (FB MH 26) true Q E [] H3:=λ{H3 o3 I G L A V3 y v tk}hu J hc ho{E Q}j E2 E4 Y E6 x=>by
  have c3:dA H3 o3 X.p X.f X.l X.sp X.cv I G X.pv y.c y.o (X.k+(n+1)):=J.c;have m1:Op.ae [.ptr H1.au 1] H3=some (.int .i64 s.c.so.want.a):=iq (pB (J.lo lo1).2 g2) 1;obtain⟨R,O⟩:∃R:Bool,R=(y.c.held ||tk && decide (y.c.so.want.a=0)):=⟨_,rfl⟩
  obtain⟨H4,s4,h4⟩:=J.put 16 (v:=.bool R) {y.c with held:=R} rfl (by decide) rfl ⟨rfl,rfl,rfl,rfl⟩ ⟨rfl,rfl⟩ {J.c.w with};have s4:Op.store 1 [.ptr X.p 16,.bool R] H3=some (.undef,H4):=s4;have r2:=λ{E:Env}{Q:aF}=>rest2 (v:=v) (tk:=tk) (E:=E) (Q:=Q) hu h4 (by show y.o.length<=990;rw[ho];exact hl);have m:y.given v tk=CS.mB {y with c:={y.c with held:=R}} v tk:=by rw[Xg,O]
  obtain⟨d,e2'⟩:∃d:CS,d = {y with c:={y.c with held:=R}}:=⟨_,rfl⟩
  rw[<-e2']at r2 m h4;have c4:dA H4 o3 X.p X.f X.l X.sp X.cv I G X.pv d.c d.o (X.k+(n+1)):=h4.c;obtain⟨g4,fv4,r⟩:=c4.so;rw[m]at x;cases hh:y.c.held with
  |true =>
   have e1:R=true:=by rw[O,hh];rfl
   rw[e1]at s4;simp only[aa,bc,ze,aA,j,E2,Y,E6,c3.bq,hh,s4];simp only[aa,bc,aA,c4.bq,eH r,Iy r];exact r2 j E4 Y rfl rfl x
  |false =>
   cases tk with
   |false =>
    have e1:R=false:=by rw[O,hh];rfl
    rw[e1]at s4;simp only[aa,bc,ze,aA,j,E2,Y,E6,c3.bq,hh,s4];simp only[aa,bc,aA,c4.bq,eH r,Iy r];exact r2 j E4 Y rfl rfl x
   |true =>
    by_cases qa:s.c.so.want.a=0
    .have e1:R=true:=by rw[O,hh,hc,ke qa];rfl
     rw[e1]at s4;simp only[aa,bc,ze,aA,j,E2,Y,E6,c3.bq,hh,s4,m1,xb qa];simp only[aa,bc,aA,c4.bq,eH r,Iy r];exact r2 j E4 Y rfl rfl x
    .have e1:R=false:=by rw[O,hh,hc,kj qa];rfl
     rw[e1]at s4;simp only[aa,bc,ze,aA,j,E2,Y,E6,c3.bq,hh,s4,m1,qa];simp only[aa,bc,aA,c4.bq,eH r,Iy r];exact r2 j E4 Y rfl rfl x
 by_cases q1:s.c.so.want.op=1
 .rw [qr q1];simp only[aa,bc,ze,aA,Nc,s2,k0,k1,xb q1];refine C3.q (Qn (M:=M) hr hk s.c.so.want.a) λ w H3⟨hw,hu,o3,I,G,L,A,V3,J⟩=>?_;subst hw;cases b:(s.kG s.c.so.want.a).2 with
  |true =>
   rw[qr rfl];simp only[aa,bc,aA];exact rest hu J rfl rfl rfl rfl rfl rfl rfl λ ex E D H' he hD hs=>by rcases he with rfl|rfl<;>subst hD<;>exact hs
  |false =>
   rw[qo (by decide)];simp only[aa,bc,ze,aA];exact u.back J.here
 rw[qo q1]
 by_cases q2:s.c.so.want.op=2
 .rw [qr q2];simp only[aa,bc,ze,aA,Nc,s2,k0,k1,k2,q1,xb q2];refine C3.q (PI (M:=M) hr hk s.c.so.want.a hs.qu) λ w H3⟨hw,o3,I,G,L,A,V3,J⟩=>?_;subst hw;cases b:s.uy s.c.so.want.a s.c.so.want.v with
  |true =>
   rw[qr rfl];simp only[aa,bc];exact rest bF J rfl rfl rfl rfl rfl rfl rfl λ ex E D H' he hD hs=>by rcases he with rfl|rfl<;>subst hD<;>exact hs
  |false =>
   rw[qo (by decide)];simp only[aa,bc,ze];exact u.back J.here
 rw[qo q2]
 by_cases q3:s.c.so.want.op=3
 .rw [qr q3];simp only[aa,bc,ze,aA,Nc,s2,k0,k1,k2,k3,q1,q2,xb q3];refine C3.q (IM (M:=M) hr hk s.c.so.want.a s.c.so.want.o hs.qu) λ w H3⟨hw,o3,I,G,L,A,V3,J⟩=>?_;subst hw;cases b:(s.xZ s.c.so.want.a s.c.so.want.o).2 with
  |true =>
   rw[qr rfl];simp only[aa,bc,aA];exact rest bF J rfl rfl rfl rfl rfl rfl rfl λ ex E D H' he hD hs=>by rcases he with rfl|rfl<;>subst hD<;>exact hs
  |false =>
   rw[qo (by decide)];simp only[aa,bc,ze,aA];exact u.back J.here
 rw[qo q3];simp only[aa,bc,ze,aA,Nc,s2,k0,q1,q2,q3];exact u.back (u.re.dV (by omega))
end
end Go.Am
namespace Go.Am
open Lang Go.Proofs
variable{M:ak}[MK M]
def FZ(o:Nat)(x y:Int):fM (EL o x y):=by unfold EL;(repeat' split)<;>exact EK _
structure Ot(e:mI):Prop where
 v:fM e.value
 a:fM e.addr
 k:e.kind=0\/e.kind=1\/e.kind=2\/e.kind=3\/e.kind=4\/e.kind=5\/e.kind=6\/e.kind=7
def wK{p:Prop}[Decidable p]{x y:mI}(a:Ot x)(b:Ot y):Ot (if p then x else y):=by split;exact a;exact b
def Td(i:gP)(pc:Int)(q:Bool):Ot (mN i pc q):=wK (wK ⟨bF,bF,.inl rfl⟩ ⟨bF,bF,.inr (.inr (.inl rfl))⟩) ⟨bF,bF,.inr (.inr (.inl rfl))⟩
def Lj(i:gP){rs:List Int}{pc:Int}(a:rs.length=8)(hr:∀x∈rs,fM x):Ot (i.fJ rs pc):=by
 unfold gP.fJ;refine wK ⟨bF,bF,.inl rfl⟩ (wK ⟨bF,bF,by simp⟩ (wK ⟨EK _,bF,by simp⟩ (wK ⟨QM a hr _,bF,by simp⟩ (wK ⟨FZ _ _ _,bF,by simp⟩ (wK ⟨bF,EK _,by simp⟩ (wK ⟨QM a hr _,EK _,by simp⟩ (wK (Td ..) (wK (Td ..) (wK (Td ..) (wK (Td ..) (wK ⟨bF,bF,by simp⟩ ⟨bF,bF,by simp⟩)))))))))))
def Dz(i:gP):(fk i).length=5:=rfl
def CS.oh(s:CS)(f:mI):CS :=
 let is:=Ek s.c f.addr
 let a:=8+f.addr
 if(f.kind=3\/f.kind=4)/\is=false\/f.kind=0\/s.c.la.lane≠0/\f.kind=5\/s.c.la.lane=0/\f.kind=6\/s.c.la.lane≠0/\f.kind=7 then s.cU
 else if f.kind=7 then{s with c:={s.c with halted:=true}}
 else if f.kind=1 then(s.fi (·.set f.oA f.value)).fp f.au
 else if f.kind=2 then s.fp f.au
 else if f.kind=3 then s.kR f a
 else if f.kind=4 then s.ib f a
 else if f.kind=5 then let t:=((s.fp f.au).fi .save).la .enter
  {t with c:={t.c with blocks:=aj .i64 (t.c.blocks+1),ph:=1}}
 else s.ends
def CG(s:CS):s.lP=if(s.c.code.length:Int)<=s.c.fi.pc then if s.c.la.lane=0 then{s with c:={s.c with halted:=true}}else s.cU else s.oh ((s.c.code.getD s.c.fi.pc.toNat ⟨0,0,0,0,0⟩).fJ s.c.fi.rs s.c.fi.pc):=rfl
section
variable{X:SX}{n n':Nat}{s t:CS}{H H':ar}{o:Nat->Nat}{rv ov:AV}{bs:Bs}{own:Nat->Nat}{V:Int->L8}
def Gu(h:dI X n s H o rv ov bs own V)(hk:X.k+n<=90000)(hl:s.o.length<=1000)(hS:uQ H):zd M ql6 [.ptr X.p 0] H λ _ H'=>kZ X (n+1) s.lP H':=by
 refine qvt ?_;rw[CG];have ln:=ia (M:=M) h.c.la;have pc:=X6 (M:=M) h.c.fi;have pc0:=h.c.fi.w.pc;have lc:=h.c.cd.len
 by_cases U:(s.c.code.length:Int)<=s.c.fi.pc
 .rw [qr U]
  by_cases a:s.c.la.lane=0
  .rw [qr a];obtain⟨H1,s1,Q⟩:=h.put 20 (v:=.bool true) {s.c with halted:=true} rfl (by decide) rfl ⟨rfl,rfl,rfl,rfl⟩ ⟨rfl,rfl⟩ {h.c.w with};simp only[aa,bc,ja,aA,h.c.bq,ln,pc,lc,xb U,xb a,s1];exact Q.dV (by omega)
  .rw [qo a];simp only[aa,bc,ja,aA,h.c.bq,ln,pc,lc,xb U,a];refine C3.q (q93 (M:=M) h hk hl) λ _ H1 hp=>?_;simp only[aa,bc,ja];exact hp
 rw[qo U];obtain⟨i,hi⟩:∃i,s.c.code[s.c.fi.pc.toNat]? = some i:=⟨_,qt (by omega)⟩
 rw[zy,hi,vk];have ix:=h.c.cd.idx hi (z:=s.c.fi.pc) (Mr pc0).symm .i64;have ld:∀{H':ar},dU fk 5 H' X.cv s.c.code->Op.aq 5 [.ptr (aH X.cv) (cF 5 X.cv s.c.fi.pc.toNat)] H'=some (.agg (fk i)):=λ w=>w.aq Dz (by decide) hi;have vX:=ld h.c.cd;simp only[aa,bc,ja,aA,h.c.bq,ln,pc,lc,U,ix,vX];refine C3.q (OY (M:=M) h.c.fi) λ v H1⟨hv,f1⟩=>?_;subst hv;obtain⟨o1,Q,-⟩:=h.loc f1;have l2:Op.ae [.ptr X.p 2] H1=some X.cv:=Q.c.row.ld 2;have ld1:=ld Q.c.cd;simp only[aa,bc,Q.c.bq,ld1];refine C3.q (Fa (M:=M) (hS.em f1) (i:=i) (pc:=s.c.fi.pc) h.c.fi.w.r8 h.c.fi.w.ru) λ v j⟨hv,f2⟩=>?_;subst hv;obtain⟨vu,R,kk⟩:=Lj i (pc:=s.c.fi.pc) h.c.fi.w.r8 h.c.fi.w.ru;generalize i.fJ s.c.fi.rs s.c.fi.pc=e at *;obtain⟨o2,h2,-⟩:=Q.loc f2;obtain⟨I,W⟩:∃Z,Z=(j.alloc (OR (aZ gZ) jh)).set j.au (OR (aZ e) jh):=⟨_,rfl⟩
 have x:Op.store 5 [.ptr j.au 0,.agg (aZ e)] (j.alloc (OR (aZ gZ) jh))=some (.undef,I):=by
  have:=(At.new j (aZ gZ) jh).gI (k:=0) (n:=5) (v:=.agg (aZ e)) rfl (by simp[aZ]) rfl;rw[W];exact this
 have f3:Fr Em j I:=W▸((Fr.refl j).alloc _).set (.inr (qg _)) _;have n3:I.au=j.au+1:=by rw[W,sT,xx]
 have O:I.get j.au=some (OR (aZ e) jh):=by rw[W,xc]
 have r:Op.ae [.ptr j.au 0] I=some (.int .i64 e.kind):=iq O 0;have k1:Op.ae [.ptr j.au 1] I=some (.int .i64 e.au):=iq O 1;have k2:Op.ae [.ptr j.au 2] I=some (.int .i64 e.oA):=iq O 2;have k3:Op.ae [.ptr j.au 3] I=some (.int .u64 e.value):=iq O 3;have u:Op.ae [.ptr j.au 4] I=some (.int .u64 e.addr):=iq O 4;have k5:=AO O;obtain⟨o3,d,lo⟩:=h2.loc f3;have T:=(lo j.au).1 ⟨qg _,by omega⟩;have hr:=d.re;have pk:=NZ (M:=M) d.c R;have D:zd M Xb [.ptr X.p 0] I λ _ H'=>kZ X (n+1) s.cU H':=q93 (M:=M) d hk hl;rcases kk with q|q|q|q|q|q|q|q
 .have A:¬e.kind=1:=by omega
  have E:¬e.kind=2:=by omega
  have g:¬e.kind=3:=by omega
  have m:¬e.kind=4:=by omega
  have F:¬e.kind=5:=by omega
  have G:¬e.kind=6:=by omega
  have y:¬e.kind=7:=by omega
  have b:s.oh e=s.cU:=by unfold CS.oh;simp[q]
  rw[b];simp only[aa,bc,ja,aA,jD,x,r,u,pk,g,m,xb q];refine C3.q D λ _ C hp=>?_;simp only[aa,bc];exact hp
 .have a0:¬e.kind=0:=by omega
  have E:¬e.kind=2:=by omega
  have g:¬e.kind=3:=by omega
  have m:¬e.kind=4:=by omega
  have F:¬e.kind=5:=by omega
  have G:¬e.kind=6:=by omega
  have y:¬e.kind=7:=by omega
  have b:s.oh e=(s.fi (·.set e.oA e.value)).fp e.au:=by unfold CS.oh;simp[q]
  rw[b]
  by_cases a:s.c.la.lane=0
  .simp only[aa,bc,ja,aA,jD,x,r,k2,k3,u,pk,d.c.bq,a0,g,m,G,y,xb q,xb a];refine C3.q (Kw (M:=M) d.c.fi e.oA vu) λ _ C hp=>?_;obtain⟨o4,N,K,S,P,V4,B⟩:=hr.co (t:=s.fi (·.set e.oA e.value)) rfl rfl (d.c.F9 hp) (qg _);have c4:dA C o4 X.p X.f X.l X.sp X.cv N K X.pv (s.fi (·.set e.oA e.value)).c s.o (X.k+n):=B.c;have m1:Op.ae [.ptr j.au 1] C=some (.int .i64 e.au):=iq (pB (B.lo T).2 O) 1;simp only[aa,bc,m1];refine C3.q (Kz (M:=M) (s:=s.fi (·.set e.oA e.value)) c4 e.au) λ _ J hp=>?_;simp only[aa,bc];exact d.back ((B.co (t:=(s.fi (·.set e.oA e.value)).fp e.au) rfl rfl hp (qg _)).mono (by omega))
  .simp only[aa,bc,ja,aA,jD,x,r,k2,k3,u,pk,d.c.bq,a0,g,m,F,y,xb q,a];refine C3.q (Kw (M:=M) d.c.fi e.oA vu) λ _ C hp=>?_;obtain⟨o4,N,K,S,P,V4,B⟩:=hr.co (t:=s.fi (·.set e.oA e.value)) rfl rfl (d.c.F9 hp) (qg _);have c4:dA C o4 X.p X.f X.l X.sp X.cv N K X.pv (s.fi (·.set e.oA e.value)).c s.o (X.k+n):=B.c;have m1:Op.ae [.ptr j.au 1] C=some (.int .i64 e.au):=iq (pB (B.lo T).2 O) 1;simp only[aa,bc,m1];refine C3.q (Kz (M:=M) (s:=s.fi (·.set e.oA e.value)) c4 e.au) λ _ J hp=>?_;simp only[aa,bc];exact d.back ((B.co (t:=(s.fi (·.set e.oA e.value)).fp e.au) rfl rfl hp (qg _)).mono (by omega))
 .have a0:¬e.kind=0:=by omega
  have A:¬e.kind=1:=by omega
  have g:¬e.kind=3:=by omega
  have m:¬e.kind=4:=by omega
  have F:¬e.kind=5:=by omega
  have G:¬e.kind=6:=by omega
  have y:¬e.kind=7:=by omega
  have b:s.oh e=s.fp e.au:=by unfold CS.oh;simp[q]
  rw[b]
  by_cases a:s.c.la.lane=0
  .simp only[aa,bc,ja,aA,jD,x,r,k1,u,pk,a0,A,g,m,G,y,xb q,xb a];refine C3.q (Kz (M:=M) d.c e.au) λ _ J hp=>?_;simp only[aa,bc];exact(d.co (t:=s.fp e.au) rfl rfl hp (qg _)).mono (by omega)
  .simp only[aa,bc,ja,aA,jD,x,r,k1,u,pk,a0,A,g,m,F,y,xb q,a];refine C3.q (Kz (M:=M) d.c e.au) λ _ J hp=>?_;simp only[aa,bc];exact(d.co (t:=s.fp e.au) rfl rfl hp (qg _)).mono (by omega)
 .have a0:¬e.kind=0:=by omega
  have A:¬e.kind=1:=by omega
  have E:¬e.kind=2:=by omega
  have m:¬e.kind=4:=by omega
  have F:¬e.kind=5:=by omega
  have G:¬e.kind=6:=by omega
  have y:¬e.kind=7:=by omega
  cases L:CS.Ek s.c e.addr with
  |true =>
   have b:s.oh e=s.kR e (8+e.addr):=by unfold CS.oh;simp[q,L]
   rw[b];rw[L,qr rfl]at pk
   by_cases a:s.c.la.lane=0
   .simp only[aa,bc,ja,aA,jD,x,r,u,k5,pk,a0,A,E,G,y,xb q,xb a];refine C3.q (S2 (M:=M) d hk hl e R (8+e.addr)) λ _ J hp=>?_;simp only[aa,bc];exact hp
   .simp only[aa,bc,ja,aA,jD,x,r,u,k5,pk,a0,A,E,F,y,xb q,a];refine C3.q (S2 (M:=M) d hk hl e R (8+e.addr)) λ _ J hp=>?_;simp only[aa,bc];exact hp
  |false =>
   rw[L,qo (by decide)]at pk;have b:s.oh e=s.cU:=by unfold CS.oh;simp[q,L]
   rw[b];simp only[aa,bc,ja,aA,jD,x,r,u,pk,xb q];refine C3.q D λ _ C hp=>?_;simp only[aa,bc];exact hp
 .have a0:¬e.kind=0:=by omega
  have A:¬e.kind=1:=by omega
  have E:¬e.kind=2:=by omega
  have g:¬e.kind=3:=by omega
  have F:¬e.kind=5:=by omega
  have G:¬e.kind=6:=by omega
  have y:¬e.kind=7:=by omega
  cases L:CS.Ek s.c e.addr with
  |true =>
   have b:s.oh e=s.ib e (8+e.addr):=by unfold CS.oh;simp[q,L]
   rw[b];rw[L,qr rfl]at pk
   by_cases a:s.c.la.lane=0
   .simp only[aa,bc,ja,aA,jD,x,r,u,k5,pk,a0,A,E,g,G,y,xb q,xb a];refine C3.q (ZD (M:=M) d hk hl e R vu (8+e.addr)) λ _ J hp=>?_;simp only[aa,bc];exact hp
   .simp only[aa,bc,ja,aA,jD,x,r,u,k5,pk,a0,A,E,g,F,y,xb q,a];refine C3.q (ZD (M:=M) d hk hl e R vu (8+e.addr)) λ _ J hp=>?_;simp only[aa,bc];exact hp
  |false =>
   rw[L,qo (by decide)]at pk;have b:s.oh e=s.cU:=by unfold CS.oh;simp[q,L]
   rw[b];simp only[aa,bc,ja,aA,jD,x,r,u,pk,g,xb q];refine C3.q D λ _ C hp=>?_;simp only[aa,bc];exact hp
 .have a0:¬e.kind=0:=by omega
  have A:¬e.kind=1:=by omega
  have E:¬e.kind=2:=by omega
  have g:¬e.kind=3:=by omega
  have m:¬e.kind=4:=by omega
  have G:¬e.kind=6:=by omega
  have y:¬e.kind=7:=by omega
  by_cases a:s.c.la.lane=0
  .have b:s.oh e=(let t:=((s.fp e.au).fi .save).la .enter
    {t with c:={t.c with blocks:=aj .i64 (t.c.blocks+1),ph:=1}}):=by unfold CS.oh;simp[q,a]
   rw[b];simp only[aa,bc,ja,aA,jD,x,r,k1,u,pk,a0,A,E,g,m,G,y,xb q,xb a];refine C3.q (Kz (M:=M) d.c e.au) λ _ C hp=>?_;obtain⟨o4,N,K,S,P,V4,B⟩:=d.co (t:=s.fp e.au) rfl rfl hp (qg _);simp only[aa,bc,aA,B.c.bq];refine C3.q (PD (M:=M) B.c.fi) λ _ J hp=>?_;obtain⟨o5,rv5,ov5,bs5,own5,V5,Y⟩:=B.co (t:=(s.fp e.au).fi .save) rfl rfl (B.c.F9 hp) (qg _);simp only[aa,bc,aA,Y.c.bq];refine C3.q (LP (M:=M) Y.c.la) λ _ H6 hp=>?_;obtain⟨o6,rv6,ov6,bs6,own6,V6,h6⟩:=Y.co (t:=((s.fp e.au).fi .save).la .enter) rfl rfl (Y.c.VB hp) (qg _);obtain⟨t,ht⟩:∃t:CS,t=((s.fp e.au).fi .save).la .enter:=⟨_,rfl⟩
   rw[<-ht]at h6;rw[<-ht];obtain⟨H7,s7,h7⟩:=h6.put 18 (v:=.int .i64 (aj .i64 (t.c.blocks+1))) {t.c with blocks:=aj .i64 (t.c.blocks+1)} rfl (by decide) rfl ⟨rfl,rfl,rfl,rfl⟩ ⟨rfl,rfl⟩ {h6.c.w with};obtain⟨H8,s8,h8⟩:=h7.put 6 (v:=.int .i64 1) {t.c with blocks:=aj .i64 (t.c.blocks+1),ph:=1} rfl (by decide) rfl ⟨rfl,rfl,rfl,rfl⟩ ⟨rfl,rfl⟩ {h7.c.w with};simp only[aa,bc,aA,h6.c.bq,s7,s8];exact h8.dV (by omega)
  .have b:s.oh e=s.cU:=by unfold CS.oh;simp[q,a]
   rw[b];simp only[aa,bc,ja,aA,jD,x,r,u,pk,a0,g,m,xb q,a];refine C3.q D λ _ C hp=>?_;simp only[aa,bc];exact hp
 .have a0:¬e.kind=0:=by omega
  have A:¬e.kind=1:=by omega
  have E:¬e.kind=2:=by omega
  have g:¬e.kind=3:=by omega
  have m:¬e.kind=4:=by omega
  have F:¬e.kind=5:=by omega
  have y:¬e.kind=7:=by omega
  by_cases a:s.c.la.lane=0
  .have b:s.oh e=s.cU:=by unfold CS.oh;simp[q,a]
   rw[b];simp only[aa,bc,ja,aA,jD,x,r,u,pk,a0,g,m,xb q,xb a];refine C3.q D λ _ C hp=>?_;simp only[aa,bc];exact hp
  .have b:s.oh e=s.ends:=by unfold CS.oh;simp[q,a]
   rw[b];simp only[aa,bc,ja,aA,jD,x,r,u,pk,a0,A,E,g,m,F,y,a];refine C3.q (Kf (M:=M) d hk hl) λ _ J hp=>?_;simp only[aa,bc];exact hp
 .have a0:¬e.kind=0:=by omega
  have A:¬e.kind=1:=by omega
  have E:¬e.kind=2:=by omega
  have g:¬e.kind=3:=by omega
  have m:¬e.kind=4:=by omega
  have F:¬e.kind=5:=by omega
  have G:¬e.kind=6:=by omega
  by_cases a:s.c.la.lane=0
  .have b:s.oh e = {s with c:={s.c with halted:=true}}:=by unfold CS.oh;simp[q,a]
   rw[b];obtain⟨C,s4,B⟩:=d.put 20 (v:=.bool true) {s.c with halted:=true} rfl (by decide) rfl ⟨rfl,rfl,rfl,rfl⟩ ⟨rfl,rfl⟩ {d.c.w with};simp only[aa,bc,ja,aA,jD,x,r,u,pk,a0,g,m,G,xb q,xb a,s4];exact B.dV (by omega)
  .have b:s.oh e=s.cU:=by unfold CS.oh;simp[q,a]
   rw[b];simp only[aa,bc,ja,aA,jD,x,r,u,pk,a0,g,m,F,xb q,a];refine C3.q D λ _ C hp=>?_;simp only[aa,bc];exact hp
end
end Go.Am
namespace Go.Am
open Lang Go.Proofs
variable{M:ak}[MK M]
section
variable{X:SX}{n n':Nat}{s t:CS}{H H':ar}{o:Nat->Nat}{rv ov:AV}{bs:Bs}{own:Nat->Nat}{V:Int->L8}
def Od(h:dI X n s H o rv ov bs own V)(hk:X.k+n+1<=90000)(hl:s.o.length<=990)(P:uQ H):zd M TS [.ptr X.p 0] H λ _ H'=>kZ X (n+2) s.act H':=by
 refine q2q ?_;have d:X.k+n<=90000:=by omega
 have f:s.o.length<=1000:=by omega
 unfold CS.act;simp only
 by_cases e:s.c.ph=0
 .rw [qr e];simp only[aa,bc,jt,aA,h.c.bq,xb e];refine C3.q (Gu (M:=M) h d f P) λ _ H1 hp=>?_;simp only[aa,bc];exact hp.mono (by omega)
 rw[qo e]
 by_cases g:s.c.ph=1
 .rw [qr g];simp only[aa,bc,jt,aA,h.c.bq,e,xb g];refine C3.q (zV (M:=M) h d f) λ _ H1 hp=>?_;simp only[aa,bc];exact hp.mono (by omega)
 rw[qo g]
 by_cases i:s.c.ph=2
 .rw [qr i];simp only[aa,bc,jt,aA,h.c.bq,e,g,xb i];refine C3.q (Qn (M:=M) h d 1) λ v H1⟨y,hu,o1,u,m,j,mU,G,a⟩=>?_;subst y;cases b:(s.kG 1).2 with
  |false =>
   rw[qo (by decide)];simp only[aa,bc,jt,aA];exact a.dV (by omega)
  |true =>
   rw[qr rfl];obtain⟨F,s2,l⟩:=a.put 6 (v:=.int .i64 3) {s.c with ph:=3} rfl (by decide) rfl ⟨rfl,rfl,rfl,rfl⟩ ⟨rfl,rfl⟩ {a.c.w with}
   by_cases z:(s.kG 1).1=0
   .rw [qo (λ w=>w z)];simp only[aa,bc,jt,aA,s2,xb z];exact l.dV (by omega)
   .rw [qr z];simp only[aa,bc,jt,aA,s2,z,l.c.bq,SX.pv,u5,X9];refine C3.q (Wj (M:=M) (s:=(s.ld 1).ph 3) l (by omega) 6) λ _ N hp=>?_;simp only[aa,bc];exact hp
 rw[qo i]
 by_cases r:s.c.ph=3
 .rw [qr r];simp only[aa,bc,jt,aA,h.c.bq,e,g,i,xb r];refine C3.q (Qn (M:=M) h d 0) λ v H1⟨y,hu,o1,u,m,j,mU,G,a⟩=>?_;subst y;cases b:(s.kG 0).2 with
  |false =>
   rw[qo (by decide)];simp only[aa,bc,aA];exact a.dV (by omega)
  |true =>
   rw[qr rfl];obtain⟨F,s2,l⟩:=a.put 12 (v:=.int .u64 (s.kG 0).1) {s.c with seq:=(s.kG 0).1} rfl (by decide) rfl ⟨rfl,rfl,rfl,rfl⟩ ⟨rfl,rfl⟩ {a.c.w with};obtain⟨N,L,I⟩:=l.put 6 (v:=.int .i64 0) {s.c with seq:=(s.kG 0).1,ph:=0} rfl (by decide) rfl ⟨rfl,rfl,rfl,rfl⟩ ⟨rfl,rfl⟩ {l.c.w with}
   by_cases z:(s.kG 0).1 % 2=1
   .rw [qr z];simp only[aa,bc,jt,aA,s2,L,oU hu,xb z,I.c.bq,SX.pv,u5,X9];refine C3.q (Wj (M:=M) (s:={s.ld 0 with c:={s.c with seq:=(s.kG 0).1,ph:=0}}) I (by omega) 6) λ _ Q hp=>?_;simp only[aa,bc];exact hp
   .rw [qo z];simp only[aa,bc,jt,aA,s2,L,oU hu,z];exact I.dV (by omega)
 rw[qo r]
 by_cases x:s.c.ph=4
 .rw [qr x];simp only[aa,bc,jt,aA,h.c.bq,e,g,i,r,xb x];refine C3.q (Qn (M:=M) h d 0) λ v H1⟨y,hu,o1,u,m,j,mU,G,a⟩=>?_;subst y;cases b:(s.kG 0).2 with
  |false =>
   rw[qo (λ w=>by cases w.1)];simp only[aa,bc,jt,aA];exact a.dV (by omega)
  |true =>
   by_cases z:(s.kG 0).1 % 2=0
   .rw [qr ⟨rfl,z⟩];obtain⟨F,s2,l⟩:=a.put 12 (v:=.int .u64 (s.kG 0).1) {s.c with seq:=(s.kG 0).1} rfl (by decide) rfl ⟨rfl,rfl,rfl,rfl⟩ ⟨rfl,rfl⟩ {a.c.w with};obtain⟨N,L,I⟩:=l.put 6 (v:=.int .i64 5) {s.c with seq:=(s.kG 0).1,ph:=5} rfl (by decide) rfl ⟨rfl,rfl,rfl,rfl⟩ ⟨rfl,rfl⟩ {l.c.w with};simp only[aa,bc,jt,aA,oU hu,xb z,s2,L];exact I.dV (by omega)
   .rw [qo (λ w=>z w.2)];simp only[aa,bc,jt,aA,oU hu,z];exact a.dV (by omega)
 rw[qo x]
 by_cases A:s.c.ph=5
 .rw [qr A];simp only[aa,bc,jt,aA,h.c.bq,e,g,i,r,x,xb A];refine C3.q (Fm (M:=M) h d f) λ _ H1 hp=>?_;simp only[aa,bc];exact hp.mono (by omega)
 rw[qo A]
 by_cases C:s.c.ph=6
 .rw [qr C];simp only[aa,bc,jt,aA,h.c.bq,e,g,i,r,x,A,xb C];refine C3.q (Fe (M:=M) h d hl) λ _ H1 hp=>?_;simp only[aa,bc];exact hp.mono (by omega)
 rw[qo C];have O:=PI (M:=M) h d 0 (EK (s.c.seq+2))
 by_cases D:s.c.ph=7
 .rw [qr D];unfold CS.gB;simp only;simp only[aa,bc,jt,aA,h.c.bq,e,g,i,r,x,A,C,xb D];refine C3.q O λ v H1⟨y,o1,u,m,j,mU,G,a⟩=>?_;subst y;cases b:s.uy 0 (aj .u64 (s.c.seq+2))with
  |false =>
   rw[qo (by decide)];simp only[aa,bc];exact a.dV (by omega)
  |true =>
   rw[qr rfl];obtain⟨F,s2,l⟩:=a.put 6 (v:=.int .i64 8) {s.c with ph:=8} rfl (by decide) rfl ⟨rfl,rfl,rfl,rfl⟩ ⟨rfl,rfl⟩ {a.c.w with};simp only[aa,bc,aA,s2];exact l.dV (by omega)
 rw[qo D]
 by_cases E:s.c.ph=8
 .rw [qr E];simp only[aa,bc,jt,aA,h.c.bq,e,g,i,r,x,A,C,D,xb E,SX.pv,u5,TZ];refine C3.q (U7 (M:=M) h d) λ _ H1⟨o1,u,m,j,mU,G,a⟩=>?_;simp only[aa,bc];refine C3.q (Oa (M:=M) (s:=s.kK 4 0 0 0) a.c f) λ _ F hp=>?_;simp only[aa,bc];exact(a.co (t:=(s.kK 4 0 0 0).cD) (Qg _) (QF _) hp (qg _)).mono (by omega)
 rw[qo E]
 by_cases J:s.c.ph=9
 .rw [qr J];simp only[aa,bc,jt,aA,h.c.bq,e,g,i,r,x,A,C,D,E,xb J];refine C3.q (GF (M:=M) h d f) λ _ H1 hp=>?_;simp only[aa,bc];exact hp.mono (by omega)
 rw[qo J]
 by_cases K:s.c.ph=10
 .rw [qr K];unfold CS.gB;simp only;simp only[aa,bc,jt,aA,h.c.bq,e,g,i,r,x,A,C,D,E,J,xb K];refine C3.q O λ v H1⟨y,o1,u,m,j,mU,G,a⟩=>?_;subst y;cases b:s.uy 0 (aj .u64 (s.c.seq+2))with
  |false =>
   rw[qo (by decide)];simp only[aa,bc];exact a.dV (by omega)
  |true =>
   rw[qr rfl];simp only[aa,bc];refine C3.q (XN (M:=M) (s:=s.st 0 (aj .u64 (s.c.seq+2))) a.c f) λ _ F hp=>?_;simp only[aa,bc];exact(a.co (t:=(s.st 0 (aj .u64 (s.c.seq+2))).breaks) rfl rfl hp (qg _)).mono (by omega)
 rw[qo K];simp only[aa,bc,jt,aA,h.c.bq,e,g,i,r,x,A,C,D,E,J,K];exact h.dV (by omega)
end
end Go.Am
namespace Go.Am
open Lang Go.Proofs
variable{M:ak}[MK M]
section
variable{H H0:ar}{B:Nat}{s:Bs}{b:Bu}{own:Nat->Nat}
def xh1(h:eV H0 H B s b own)(hb:BB b){c:Nat}{n:No}(hn:b.ns[c]? = some n):zd M SL [.ptr B 0,.int .i64 (c:Int)] H λ v H'=>v=.int .i64 n.code/\H'=H:=by
 refine q47 ?_;simp only[aa,bc,q48];refine C3.q (FV (M:=M) h hb.N4 (c:Int)) λ v l⟨a,j,_⟩=>?_;have hl:=(qk.1 hn).1;obtain⟨A,g,d⟩:=j ⟨by omega,by omega⟩;rw[Fv]at g;rw[d,a];have i:=h.no _ n A hn g;have e:Op.ae [.ptr A.r 16] H=some (.int .i64 n.code):=(i.ld 16).trans (EF n A.b A.bv).2.2.2.2.2.2.1;simp only[aa,bc,xe];refine C3.q (R:=λ v H'=>v=.int .i64 n.code/\H'=H) ?_ λ v m⟨d,a⟩=>?_
 .refine qy1 ?_;obtain⟨w0,k,f⟩:=qy2 M ⟨none,YY⟩;simp only[aa,bc,w0,k,yv,f,qn,e]
 rw[d,a];simp only[aa,bc]
end
structure GY(X:SX)(n:Nat)(x:Co)(y:Bu)(H:ar)(o:Nat->Nat)(rv:AV)(bs:Bs)(own:Nat->Nat)(V:Int->L8):Prop where
 c:dA H o X.p X.f X.l X.sp X.cv rv .nils .nili x [] (X.k+n)
 b:eV X.Hb H X.B bs y own
 I:BuI y V
 C:BC y (X.k+n)
 U:yQ y
 nn:x.id<y.ns.length
 dj:∀z,i5 X.B bs z->o z=0
 hb:∀z,z<H.au->o z≠0->X.Hb.au<=z
 go:∀z,z<H.au->o z≠0->(z<X.H.au/\X.o z≠0)\/X.H.au<=z
 gb:∀z,i5 X.B bs z->X.W z\/X.H.au<=z
 fr:Fr (λ z=>X.o z≠0\/X.W z) X.H H
section
variable{X:SX}{n n':Nat}{s t:CS}{c:Co}{b:Bu}{H H':ar}{o:Nat->Nat}{rv ov:AV}{bs:Bs}{own:Nat->Nat}{V:Int->L8}
def Cc{x:Nat}{Y:ar}(h:o X.p=1)(hr:eV X.Hb H X.B bs b own)(dj:∀z,i5 X.B bs z->o z=0)(hb:∀z,z<H.au->o z≠0->X.Hb.au<=z)(hp:X.p<H.au)(f:Fr (On X.p) H Y):eV X.Hb Y X.B bs b own :=
 hr.fr f λ z(q:z=X.p)=>⟨by rw[q];exact hb _ hp (by rw[h];decide),λ e=>by rw[q]at e;have:=dj _ e;omega⟩
def GY.open(h:GY X n c b H o rv bs own V):∃H1 g,Op.store 1 [.ptr X.p 22,.nils] H=some (.undef,H1)/\Op.store 1 [.ptr X.p 23,X.pv] H1=some (.undef,g)/\dI X n ⟨c,b,[]⟩ g o rv .nils bs own V/\Fr (On X.p) H g/\Fr (On X.p) H H1:=by
 obtain⟨a,i⟩:=h.c.cell (d:=c) (k':=X.k+n) ⟨rfl,rfl,rfl,rfl⟩ (rv':=rv) (ov':=.nils) (pv':=.nili) (os':=[]) ⟨h.c.rd,h.c.pP⟩ ⟨Own.nil ..,λ z q=>(q.1 rfl).elim⟩ rfl h.c.w;have s1:=h.c.row.st 22 (v:=.nils) rfl (by simp[cu]);have j:(cu c X.f X.l X.sp X.cv rv .nils .nili).set 22 .nils=cu c X.f X.l X.sp X.cv rv .nils .nili:=rfl;rw[j]at s1;have s2:=a.row.st 23 (v:=X.pv) rfl (by simp[cu]);obtain⟨u,r⟩:=a.cell (d:=c) (k':=X.k+n) ⟨rfl,rfl,rfl,rfl⟩ (rv':=rv) (ov':=.nils) (pv':=X.pv) (os':=[]) ⟨a.rd,a.pP⟩ ⟨Own.nil ..,λ z q=>(q.1 rfl).elim⟩ rfl h.c.w;have m:(cu c X.f X.l X.sp X.cv rv .nils .nili).set 23 X.pv=cu c X.f X.l X.sp X.cv rv .nils X.pv:=rfl;rw[m]at s2;have f:=i.trans r λ z q=>.inl q;refine⟨_,_,s1,s2,⟨u,Cc (x:=0) h.c.op h.b h.dj h.hb h.c.row.2 f,h.I,h.C,h.U,h.nn,h.dj,h.hb,h.go,h.gb,h.fr.trans f λ z(q:z=X.p)=>?_⟩,f,i⟩;rw[q];exact(h.go X.p h.c.row.2 (by rw[h.c.op];decide)).imp (λ e=>.inl e.2) id
def dI.close(h:dI X n s H o rv ov bs own V):∃H1 a,Op.store 1 [.ptr X.p 22,.nils] H=some (.undef,H1)/\Op.store 1 [.ptr X.p 23,.nili] H1=some (.undef,a)/\GY X n s.c s.b a o rv bs own V/\a9 ic.enc vx 9 a ov s.o/\(∀z,aW ov z->o z=6)/\Fr (On X.p) H a/\Fr (On X.p) H H1:=by
 obtain⟨g,i⟩:=h.c.cell (d:=s.c) (k':=X.k+n) ⟨rfl,rfl,rfl,rfl⟩ (rv':=rv) (ov':=.nils) (pv':=X.pv) (os':=[]) ⟨h.c.rd,h.c.pP⟩ ⟨Own.nil ..,λ z q=>(q.1 rfl).elim⟩ rfl h.c.w;have s1:=h.c.row.st 22 (v:=.nils) rfl (by simp[cu]);have j:(cu s.c X.f X.l X.sp X.cv rv ov X.pv).set 22 .nils=cu s.c X.f X.l X.sp X.cv rv .nils X.pv:=rfl;rw[j]at s1;have s2:=g.row.st 23 (v:=.nili) rfl (by simp[cu]);obtain⟨u,r⟩:=g.cell (d:=s.c) (k':=X.k+n) ⟨rfl,rfl,rfl,rfl⟩ (rv':=rv) (ov':=.nils) (pv':=.nili) (os':=[]) ⟨g.rd,g.pP⟩ ⟨Own.nil ..,λ z q=>(q.1 rfl).elim⟩ rfl h.c.w;have m:(cu s.c X.f X.l X.sp X.cv rv .nils X.pv).set 23 .nili=cu s.c X.f X.l X.sp X.cv rv .nils .nili:=rfl;rw[m]at s2;have f:=i.trans r λ z q=>.inl q;refine⟨_,_,s1,s2,⟨u,Cc (x:=0) h.c.op h.b h.dj h.hb h.c.row.2 f,h.I,h.C,h.U,h.nn,h.dj,h.hb,h.go,h.gb,h.fr.trans f λ z(q:z=X.p)=>?_⟩,Own.fr h.c.ou f λ z q=>h.c.np z (by rw[h.c.qG z q];decide),h.c.qG,f,i⟩;rw[q];exact(h.go X.p h.c.row.2 (by rw[h.c.op];decide)).imp (λ e=>.inl e.2) id
def GY.em(h:GY X n c b H o rv bs own V)(f:Fr Em H H'):GY X n c b H' (aS o H.au 0) rv bs own V:=by
 have ho:∀z,z<H.au->aS o H.au 0 z=o z:=λ z q=>i4 q
 refine{h with c:=h.c.fr f (λ _ _ _ q=>q) ho (qg _),b:=h.b.em f,dj:=λ z q=>(ho z (h.b.low q)).trans (h.dj z q),hb:=λ z q e=>?_,go:=λ z q e=>?_,fr:=h.fr.em f}
 .rcases xr z H.au with w|w
  .rw [ho z w]at e;exact h.hb z w e
  .rw [mH w]at e;exact(e rfl).elim
 .rcases xr z H.au with w|w
  .rw [ho z w]at e;exact h.go z w e
  .rw [mH w]at e;exact(e rfl).elim
end
end Go.Am
namespace Go.Am
open Lang Go.Proofs
variable{M:ak}[MK M]
section
variable{X:SX}{n n':Nat}{s t:CS}{c:Co}{b:Bu}{H H':ar}{o:Nat->Nat}{rv ov:AV}{bs:Bs}{own:Nat->Nat}{V:Int->L8}
def JX(X:SX)(n:Nat)(s:CS)(H:ar)(ov:AV):Prop:=∃o rv bs own V,GY X n s.c s.b H o rv bs own V/\a9 ic.enc vx 9 H ov s.o /\ ∀z,aW ov z->o z=6
def xhs{d:Nat}{H1 a:ar}{p:Nat}(l1:Op.ae [.ptr d 0] H=some (.ptr p 0))(s1:Op.store 1 [.ptr p 22,.nils] H=some (.undef,H1))(s2:Op.store 1 [.ptr p 23,.nili] H1=some (.undef,a)):∃v,i6 M kr [.ptr d 0] (some []) H (.ret v) (some []) a:=by
 obtain⟨e,H',f,v,rfl,rfl⟩:=qtr (M:=M) (up:=some []) (a0:=.ptr d 0) (H:=H) (Q:=λ e X=>∃v,e=.ret v/\X=a) (by
  simp only[aa,bc,qts,aA,l1,s1,s2];exact⟨_,rfl⟩)
 exact⟨v,f⟩
def Lv(h:GY X n c b H o rv bs own V)(hk:X.k+n+1<=90000)(hS:uQ H)(oG:o xL=0):zd M JE [.ptr X.p 0,X.pv] H λ v H'=>∃ov,v=.tuple [ov,.int .i64 (CS.step ⟨c,b,[]⟩).2]/\JX X (n+2) (CS.step ⟨c,b,[]⟩).1 H' ov:=by
 refine qyd ?_;obtain⟨H1,Y,f1,n1,Z⟩:=bX H (OR [.ptr X.p 0] we);have ca:AV.cells (.ptr X.p 0)=[.ptr X.p 0]:=rfl;have y:=h.em f1;have l1:Op.ae [.ptr H.au 0] H1=some (.ptr X.p 0):=iq Z 0;have od:aS o H.au 0 H.au=0:=mH (qg _)
 have W:=MV (M:=M) y.c;have en:∀H,Op.eq .iface false [X.pv,.nili] H=some (.bool false):=λ _=>rfl;have N:Op.ae [.ptr X.p 20] H1=some (.bool c.halted):=y.c.row.ld 20;have D:Op.ae [.ptr X.p 21] H1=some (.bool c.Ax):=y.c.row.ld 21;have done:JX X (n+2) ⟨c,b,[]⟩ H1 .nils:=⟨_,_,_,_,_,{y with c:=y.c.fr (Fr.refl _) (λ _ _ _ w=>w) (λ _ _=>rfl) (by omega),C:=y.C.mono (by omega)},Own.nil ..,λ z q=>(q.1 rfl).elim⟩
 unfold CS.step;simp only;cases qb:c.Ax with
 |true =>
  rw[qr rfl];simp only[aa,bc,yz,xeb,aA,ca,<-Y,l1,W,en,D,qb];exact⟨_,rfl,done⟩
 |false =>
 rw[qo (by decide)];cases qh:c.halted with
 |true =>
  rw[qr rfl];simp only[aa,bc,yz,xeb,aA,ca,<-Y,l1,W,en,D,qb,N,qh];exact⟨_,rfl,done⟩
 |false =>
 rw[qo (by decide)];obtain⟨Ha,x,s1,s2,l,P,fa⟩:=y.open;have pd:H.au≠X.p:=λ e=>by have:=y.c.op;rw[<-e,od]at this;cases this
 have la:Op.ae [.ptr H.au 0] Ha=some (.ptr X.p 0):=iq (pB (fa.ah _ (by omega) pd) Z) 0;have g2:=pB (P.ah _ (by omega) pd) Z;have l2:Op.ae [.ptr H.au 0] x=some (.ptr X.p 0):=iq g2 0;have n2:=P.au
 have ld:zS x (aS o H.au 0) X.B bs H.au:=⟨by omega,od,λ w=>by have:=h.b.low w;omega⟩
 have mk:Op.bC kr 0 [.ptr H.au 0]=some (.fn (.func kr) [] [.ptr H.au 0]):=rfl;have hS2:uQ x:=by
  have a:uQ H1:=hS.em f1;have ne:¬On X.p xL:=λ(e:xL=X.p)=>by have:=h.c.op;rw[<-e,oG]at this;cases this
  exact⟨(P.cells a.2 ne).trans a.1,qj a.2 P.au⟩
 have I:=rM (M:=M) l.c.la;have lv:=K4 (M:=M) l (by omega);have id0:=l.node.1;have U:∀K,C3 M true (.func SL) [.ptr X.B 0,.int .i64 c.id] x K=K true (.int .i64 (CS.node ⟨c,b,[]⟩).code) x:=dP (by
  have:=xh1 (M:=M) l.b (l.bb (by omega)) l.node.2;rw[Mr id0]at this;exact this)
 have fin:∀{m:Nat}{S:CS}{i:ar}{o3:Nat->Nat}{G f:AV}{L:Bs}{A:Nat->Nat}{V3:Int->L8},m<=n+2->dI (X.at x (aS o H.au 0) bs) m S i o3 G f L A V3->Op.ae [.ptr H.au 0] i=some (.ptr X.p 0)/\Op.ae [.ptr X.p 22] i=some f /\ ∃v j,i6 M kr [.ptr H.au 0] (some []) i (.ret v) (some []) j/\JX X (n+2) S j f:=λ hm q=>by
  have l3:=iq (pB (q.lo ld).2 g2) 0;have q':=l.sn q;obtain⟨Hc,j,t1,t2,r,ow,o6,_⟩:=q'.close;obtain⟨v,hv⟩:=xhs (M:=M) l3 t1 t2;exact⟨l3,q'.c.row.ld 22,v,j,hv,_,_,_,_,_,{r with c:=r.c.fr (Fr.refl _) (λ _ _ _ w=>w) (λ _ _=>rfl) (by omega),C:=r.C.mono (by omega)},ow,o6⟩
 simp only[aa,bc,yz,xb7,aA,ca,<-Y,l1,W,en,D,qb,N,qh,s1,la,s2];refine⟨_,_,_,rfl,?_⟩
 -- the deferred call
 have go:∀{v:AV}{i:ar}{S:CS},JX X (n+2) S i v -> ∀{T:ar}{u:AV},i6 M kr [.ptr H.au 0] (some []) T (.ret u) (some []) i -> ∀{E:Env},lk E 4=some v->lk E 5=some (.int .i64 0)->eY M [.tmp 4,.tmp 5] (uz λ v H'=>∃ov,v=.tuple [ov,.int .i64 0]/\JX X (n+2) S H' ov) .ret E [.fn (.func kr) [.ptr H.au 0]] T:=λ{v i S}hR{T u}hu{E}E4 E5=>by
  refine⟨u,[],i,hu,bM.intro (m:=aG) (a:=none) rfl ?_⟩;show iX E i [.tmp 4,.tmp 5] _;simp only[aa,bc,E4,E5];exact⟨v,rfl,hR⟩
 -- the core acts
 have act:zd M TS [.ptr X.p 0] x λ _ i=>∃f u j,Op.ae [.ptr H.au 0] i=some (.ptr X.p 0)/\Op.ae [.ptr X.p 22] i=some f/\i6 M kr [.ptr H.au 0] (some []) i (.ret u) (some []) j/\JX X (n+2) (CS.act ⟨c,b,[]⟩) j f:=(Od (M:=M) l.re hk (xy _) hS2).mono λ _ i⟨o3,G,f,L,A,V3,q⟩=>by
  obtain⟨l3,g,u,j,hu,hR⟩:=fin (qg _) q;exact⟨f,u,j,l3,g,hu,hR⟩
 cases J:c.la.py with
 |false =>
  rw[qo (λ w=>by cases w.1)];simp only[aa,bc,aA,l2,l.c.bq,I,J];refine C3.q act λ _ i⟨f,u,j,l3,g,hu,hR⟩=>?_;simp only[aa,bc,yz,aA,l3,g];exact go hR hu rfl rfl
 |true =>
  by_cases F:c.ph=1
  .rw [qo (λ w=>w.2.1 F)];have n1:¬(1:Int)≠1:=λ q=>q rfl;simp only[aa,bc,aA,l2,l.c.bq,I,J,F,n1];refine C3.q act λ _ i⟨f,u,j,l3,g,hu,hR⟩=>?_;simp only[aa,bc,yz,aA,l3,g];exact go hR hu rfl rfl
  cases R:(CS.node ⟨c,b,[]⟩).live with
  |true =>
   rw[qo (λ w=>by cases w.2.2)];simp only[aa,bc,aA,l2,l.c.bq,I,J,F,SX.pv,u5,RQ,lv,R];refine C3.q act λ _ i⟨f,u,j,l3,g,hu,hR⟩=>?_;simp only[aa,bc,yz,aA,l3,g];exact go hR hu rfl rfl
  |false =>
   rw[qr ⟨rfl,F,rfl⟩];have ab:∀d,d=CS.pT ⟨c,b,[]⟩->zd M VQ [.ptr X.p 0,.int .i64 d] x λ _ i=>∃f u j,Op.ae [.ptr H.au 0] i=some (.ptr X.p 0)/\Op.ae [.ptr X.p 22] i=some f/\i6 M kr [.ptr H.au 0] (some []) i (.ret u) (some []) j/\JX X (n+2) (CS.abort ⟨c,b,[]⟩ (CS.pT ⟨c,b,[]⟩)) j f:=λ d e=>(hH (M:=M) (s:=⟨c,b,[]⟩) l.c (xy _) d).mono λ _ i⟨o3,G,f,h3,a3,f3⟩=>by
    subst e;obtain⟨l3,g,u,j,hu,hR⟩:=fin (by omega) (l.re.G0 (t:=CS.abort ⟨c,b,[]⟩ (CS.pT ⟨c,b,[]⟩)) rfl rfl h3 a3 f3 (qg _));exact⟨f,u,j,l3,g,hu,hR⟩
   by_cases O:(CS.node ⟨c,b,[]⟩).code<1
   .simp only[aa,bc,yz,aA,l2,l.c.bq,I,J,F,SX.pv,u5,RQ,lv,R,Vi,U,O];refine C3.q (ab 5 (by unfold CS.pT;rw[qr (.inl O)])) λ _ i⟨f,u,j,l3,g,hu,hR⟩=>?_;simp only[aa,bc,yz,aA,l3,g];exact go hR hu rfl rfl
   by_cases Q:6<(CS.node ⟨c,b,[]⟩).code
   .simp only[aa,bc,yz,aA,l2,l.c.bq,I,J,F,SX.pv,u5,RQ,lv,R,Vi,U,O,Q];refine C3.q (ab 5 (by unfold CS.pT;rw[qr (.inr Q)])) λ _ i⟨f,u,j,l3,g,hu,hR⟩=>?_;simp only[aa,bc,yz,aA,l3,g];exact go hR hu rfl rfl
   .simp only[aa,bc,yz,aA,l2,l.c.bq,I,J,F,SX.pv,u5,RQ,lv,R,Vi,U,O,Q];refine C3.q (ab _ (by unfold CS.pT;rw[qo (λ w=>w.elim O Q)])) λ _ i⟨f,u,j,l3,g,hu,hR⟩=>?_;simp only[aa,bc,yz,aA,l3,g];exact go hR hu rfl rfl
end
end Go.Am
