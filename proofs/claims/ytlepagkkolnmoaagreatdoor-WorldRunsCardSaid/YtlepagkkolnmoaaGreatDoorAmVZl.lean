import Derived.Test.YtlepagkkolnmoaaGreatDoorAmVZk
import Derived.Test.YtlepagkkolnmoaaGreatDoorAmVZf
set_option linter.defProp false
set_option linter.unusedVariables false
set_option linter.unusedSimpArgs false
set_option linter.unusedSectionVars false
set_option maxRecDepth 100000
open Bool renaming false→B2,true→B4
open False renaming elim→NT
open Option renaming none→B5,some→B1
open Nat renaming reduceEqDiff→bc
namespace Go.Am
open Lang Go.Proofs
variable{M:ao}[MK M]
def yG.uf{b:Bu}(h:yG b)(i:Nat):yG (b.uf i):=by
 unfold Bu.uf;cases hm:b.fl[i]? with
 |none=>exact h
 |some m =>
  have g:=h.f m (zh hm);have d:qL (b.fl.eraseIdx i):=λ x q=>h.f x (List.mem_of_mem_eraseIdx q);simp only;split
  .cases j:b.l[m.line.toNat]? with
   |none=>exact h
   |some x =>
    cases hw:b.m[m.line.toNat]? with
    |none=>exact h
    |some w =>
     have⟨a,c⟩:=De.Me x (h.m w (zh hw)) g;exact⟨λ y q=>(FU q).elim (h.m y) λ e=>e▸a,h.n,d.app c⟩
  .cases hn:b.ns[m.core.toNat]? with
   |none=>exact h
   |some n =>
    have⟨a,c⟩:=No.U.bS (h.n n (zh hn)) g;exact⟨h.m,λ y q=>(FU q).elim (h.n y) λ e=>e▸a,d.app c⟩
def yG.step{b:Bu}(h:yG b)(x:Bt)(d:fJ x.v):yG (b.step x):=by
 unfold Bu.step;split
 .split
  .exact h.uf _
  .exact h
 split
 .cases hn:b.ns[x.c.toNat]? with
  |none=>exact h
  |some n =>
   have a:=h.n n (zh hn);simp only;unfold No.call;split
   .exact h.put _ (No.U.load a _).1 (No.U.load a _).2.2
   split
   .exact h.put _ (No.U.store a _ d).1 (No.U.store a _ d).2
   split
   .exact h.put _ (No.U.nD a _ _ d).1 (No.U.nD a _ _ d).2
   split
   .exact h.put _ (No.U.begin a) .nil
   split
   .exact h.put _ (No.U.bt a) .nil
   split
   .exact h.put _ (No.U.abort a _) .nil
   split
   .exact h.put _ (No.U.da a _).1 (No.U.da a _).2
   .exact h.put _ a .nil
 .exact h
def YO{b:Bu}{x:Bt}{n:No}(hk:x.k≠7)(a:0<=x.c)(hn:b.ns[x.c.toNat]? = B1 n):b.step x=b.put x.c.toNat (n.call x):=by
 unfold Bu.step;rw[qv hk,xb a,hn]
structure SX where
 H:ar
 o:Nat->Nat
 W:Nat->Prop
 p:Nat
 f:Nat
 l:Nat
 sp:Nat
 B:Nat
 cv:AV
 Hb:ar
 k:Nat
abbrev SX.pv(X:SX):AV:=.iface FK (.ptr X.B 0)
structure dP(X:SX)(n:Nat)(s:CS)(H:ar)(o:Nat->Nat)(rv ov:AV)(bs:Bs)(own:Nat->Nat)(V:Int->L8):Prop where
 c:dW H o X.p X.f X.l X.sp X.cv rv ov X.pv s.c s.o (X.k+n)
 b:fD X.Hb H X.B bs s.b own
 I:BuI s.b V
 C:BC s.b (X.k+n)
 U:yG s.b
 nn:s.c.id<s.b.ns.length
 dj:∀z,ib X.B bs z->o z=0
 hb:∀z,z<H.au->o z≠0->X.Hb.au<=z
 go:∀z,z<H.au->o z≠0->(z<X.H.au/\X.o z≠0)\/X.H.au<=z
 gb:∀z,ib X.B bs z->X.W z\/X.H.au<=z
 fr:Fr (λ z=>X.o z≠0\/X.W z) X.H H
def lJ(X:SX)(n:Nat)(s:CS)(H:ar):Prop:=∃o rv ov bs own V,dP X n s H o rv ov bs own V
section
variable{X:SX}{n n':Nat}{s t:CS}{H H':ar}{o:Nat->Nat}{rv ov:AV}{bs:Bs}{own:Nat->Nat}{V:Int->L8}
def dP.hn(h:dP X n s H o rv ov bs own V):X.Hb.au<=H.au:=by
 have:=h.b.lo X.B (.inl rfl);have:=h.b.lt;omega
def dP.HI(h:dP X n s H o rv ov bs own V){o':Nat->Nat}{rv' ov':AV}(hb:t.b=s.b)(d:t.c.id=s.c.id)(g:dW H' o' X.p X.f X.l X.sp X.cv rv' ov' X.pv t.c t.o (X.k+n'))(a:∀z,z<H.au->o' z=o z)(f:Fr (λ z=>o z≠0) H H')(hn:n<=n'):dP X n' t H' o' rv' ov' bs own V:=by
 have i:=h.hn;have fn:=f.au;have j:=h.fr.au;refine⟨g,?_,by rw[hb];exact h.I,by rw[hb];exact h.C.mono (by omega),by rw[hb];exact h.U,by rw[hb,d];exact h.nn,λ z q=>(a z (h.b.low q)).trans (h.dj z q),λ z q e=>?_,λ z q e=>?_,h.gb,h.fr.trans f λ z q=>?_⟩
 .rw [hb];refine h.b.fr (f.mono (W':=λ z=>o z≠0/\z<H.au) λ z w q=>⟨q,w⟩) λ z⟨q,w⟩=>⟨h.hb z w q,λ e=>q (h.dj z e)⟩
 .rcases xw z H.au with w|w
  .rw [a z w]at e;exact h.hb z w e
  .omega
 .rcases xw z H.au with w|w
  .rw [a z w]at e;exact h.go z w e
  .exact .inr (by omega)
 .rcases xw z H.au with w|w
  .exact (h.go z w q).imp (λ e=>.inl e.2) id
  .exact .inr (by omega)
def dP.co(h:dP X n s H o rv ov bs own V)(hb:t.b=s.b)(d:t.c.id=s.c.id)(hp:ia H o X.p X.f X.l X.sp X.cv X.pv t.c t.o (X.k+n') H')(hn:n<=n'):lJ X n' t H':=by
 have⟨o',rv',ov',e,a,f⟩:=hp;exact⟨o',rv',ov',bs,own,V,h.HI hb d e a f hn⟩
def lJ.mono(h:lJ X n s H)(hn:n<=n'):lJ X n' s H:=by
 have⟨o,rv,ov,bs,own,V,q⟩:=h;exact⟨o,rv,ov,bs,own,V,{q with c:=q.c.fr (Fr.refl H) (λ _ _ _ w=>w) (λ _ _=>rfl) (by omega),C:=q.C.mono (by omega)}⟩
def dP.em(h:dP X n s H o rv ov bs own V)(f:Fr Em H H'):∃o',dP X n s H' o' rv ov bs own V/\(∀z,z<H.au->o' z=o z) /\ ∀z,H.au<=z->o' z=0:=by
 have ho:∀z,z<H.au->aP o H.au 0 z=o z:=λ z q=>iZ q;refine⟨aP o H.au 0,{h with c:=h.c.fr f (λ _ _ _ q=>q) ho (qm _),b:=h.b.em f,dj:=λ z q=>(ho z (h.b.low q)).trans (h.dj z q),hb:=λ z q e=>?_,go:=λ z q e=>?_,fr:=h.fr.em f},ho,λ z q=>nj q⟩
 .rcases xw z H.au with w|w
  .rw [ho z w]at e;exact h.hb z w e
  .rw [nj w]at e;exact(e rfl).elim
 .rcases xw z H.au with w|w
  .rw [ho z w]at e;exact h.go z w e
  .rw [nj w]at e;exact(e rfl).elim
def dP.bu(h:dP X n s H o rv ov bs own V){x:Bt}(p:x.k≠7)(m:fJ x.v)(hp:lj X.Hb H X.B bs (s.b.step x) H'):lJ X (n+1) {s with b:=s.b.step x} H':=by
 have⟨a,d,j,g,f⟩:=hp;have ho:∀z,z<H.au->Go.Am.aP o H.au 0 z=o z:=λ z q=>iZ q;have l:=h.hn;have fn:=f.au;have r:=h.fr.au;have hl:(s.b.step x).ns.length=s.b.ns.length:=by
  unfold Bu.step;rw[qv p];split
  .split
   .rfl
   .show (s.b.ns.set _ _).length=_;rw[xq]
  .rfl
 have i:=Cz h.I x;refine⟨Go.Am.aP o H.au 0,rv,ov,a,d,_,h.c.fr f (λ z q e w=>e (h.dj z w)) ho (by omega),j,i,BK h.C x,h.U.step x m,by show s.c.id<((s.b.step x).ns.length:Int);rw[hl];exact h.nn,λ z q=>?_,λ z q e=>?_,λ z q e=>?_,λ z q=>?_,h.fr.trans f λ z q=>?_⟩
 .rcases g z q with w|w
  .exact (ho z (h.b.low w)).trans (h.dj z w)
  .exact nj w
 .rcases xw z H.au with w|w
  .rw [ho z w]at e;exact h.hb z w e
  .rw [nj w]at e;exact(e rfl).elim
 .rcases xw z H.au with w|w
  .rw [ho z w]at e;exact h.go z w e
  .rw [nj w]at e;exact(e rfl).elim
 .rcases g z q with w|w
  .exact h.gb z w
  .exact .inr (by omega)
 .exact (h.gb z q).imp .inr id
def SX.at(X:SX)(H:ar)(o:Nat->Nat)(bs:Bs):SX:={X with H:=H,o:=o,W:=ib X.B bs}
def dP.re(h:dP X n s H o rv ov bs own V):dP (X.at H o bs) n s H o rv ov bs own V :=
 {h with go:=λ z q e=>.inl ⟨q,e⟩,gb:=λ z q=>.inl q,fr:=Fr.refl H}
def dP.ta(h:dP X n s H o rv ov bs own V){o2:Nat->Nat}{f d:AV}{c:Bs}{b:Nat->Nat}{i:Int->L8}(q:dP (X.at H o bs) n' t H' o2 f d c b i):dP X n' t H' o2 f d c b i:=by
 have g:=h.fr.au;refine{q with go:=λ z a e=>?_,gb:=λ z a=>?_,fr:=h.fr.trans q.fr λ z a=>?_}
 .rcases q.go z a e with⟨w,r⟩|w
  .exact h.go z w r
  .exact .inr (zd g w)
 .rcases q.gb z a with w|w
  .exact h.gb z w
  .exact .inr (zd g w)
 .rcases a with a|a
  .rcases xw z H.au with w|w
   .exact (h.go z w a).imp (λ r=>.inl r.2) id
   .exact .inr (zd g w)
  .exact (h.gb z a).imp .inr id
def dP.back(h:dP X n s H o rv ov bs own V)(f:lJ (X.at H o bs) n' t H'):lJ X n' t H':=by
 have⟨o2,d,c,b,a,e,q⟩:=f;exact⟨o2,d,c,b,a,e,h.ta q⟩
def B8(H:ar)(o:Nat->Nat)(B:Nat)(bs:Bs)(z:Nat):Prop:=z<H.au/\o z=0 /\ ¬ib B bs z
def dP.lo{b:ar}{o2:Nat->Nat}{a:Bs}(q:dP (X.at H o bs) n' t b o2 rv ov a own V){z:Nat}(h:B8 H o X.B bs z):B8 b o2 X.B a z/\b.get z=H.get z:=by
 have fn:=q.fr.au;refine⟨⟨qn h.1 fn,?_,λ w=>?_⟩,q.fr.ai z h.1 λ w=>w.elim (λ e=>e h.2.1) h.2.2⟩
 .rcases Nat.eq_zero_or_pos (o2 z)with w|w
  .exact w
  .rcases q.go z (qn h.1 fn) (by omega)with⟨_,r⟩|r
   .exact (r h.2.1).elim
   .have:=h.1;exact absurd r (Nat.not_le.2 this)
 .rcases q.gb z w with r|r
  .exact h.2.2 r
  .have:=h.1;exact absurd r (Nat.not_le.2 this)
def dP.qE(h:dP X n s H o rv ov bs own V){d:Nat}(a:B8 H o X.B bs d)(g:X.H.au<=d)(hb:X.Hb.au<=d)(e:bF):dP X n s (H.set d e) o rv ov bs own V:=by
 have f:Fr (On d) H (H.set d e):=(Fr.refl H).set (W:=On d) (.inl rfl) _;exact{h with c:=h.c.fr f (λ z _ q(r:z=d)=>q (by rw[r];exact a.2.1)) (λ _ _=>rfl) (qm _),b:=h.b.fr f λ z(r:z=d)=>⟨by omega,by rw[r];exact a.2.2⟩,fr:=h.fr.trans f λ z(r:z=d)=>.inr (by omega)}
def dP.loc(h:dP X n s H o rv ov bs own V)(f:Fr Em H H'):∃o',dP X n s H' o' rv ov bs own V /\ ∀z,(H.au<=z/\z<H'.au->B8 H' o' X.B bs z)/\(B8 H o X.B bs z->B8 H' o' X.B bs z):=by
 have⟨o',c,a,b⟩:=h.em f;refine⟨o',c,λ z=>⟨λ q=>⟨q.2,b z q.1,λ w=>by have:=h.b.low w;omega⟩,λ q=>⟨qn q.1 f.au,(a z q.1).trans q.2.1,q.2.2⟩⟩⟩
end
def wM(t:Nat)(v:AV):Op.nilCheck [.iface t v]=B1 (.iface t v):=rfl
def K3:M.kG FK "Load" = B1 TJ:=(MK.mt _ _).trans (by kernel_rfl)
def GG:M.kG FK "Store" = B1 Td:=(MK.mt _ _).trans (by kernel_rfl)
def Rz:M.kG FK "Cas" = B1 Tb:=(MK.mt _ _).trans (by kernel_rfl)
def xme:M.kG FK "Begin" = B1 Tf:=(MK.mt _ _).trans (by kernel_rfl)
def Yw:M.kG FK "Commit" = B1 SB:=(MK.mt _ _).trans (by kernel_rfl)
def VK:M.kG FK "Abort" = B1 NX:=(MK.mt _ _).trans (by kernel_rfl)
def SN:M.kG FK "Live" = B1 TU:=(MK.mt _ _).trans (by kernel_rfl)
def Xd:M.kG FK "Code" = B1 Tt:=(MK.mt _ _).trans (by kernel_rfl)
section
variable{X:SX}{n n':Nat}{s t:CS}{H H':ar}{o:Nat->Nat}{rv ov:AV}{bs:Bs}{own:Nat->Nat}{V:Int->L8}
def dP.node(h:dP X n s H o rv ov bs own V):0<=s.c.id/\s.b.ns[s.c.id.toNat]? = B1 s.node:=by
 have a:=h.c.w.id;have hn:=h.nn;refine⟨a,?_⟩;have hl:s.c.id.toNat<s.b.ns.length:=by omega
 unfold CS.node;rw[qy hl];rfl
def dP.bb(h:dP X n s H o rv ov bs own V)(hk:X.k+n<=90000):BB s.b:=h.C.bb h.I (by omega)
def dP.zZ(h:dP X n s H o rv ov bs own V)(k v:Int)(a w:Int)(hk:k≠7):s.b.step ⟨k,s.c.id,a,v,w⟩=s.b.put s.c.id.toNat (s.node.call ⟨k,s.c.id,a,v,w⟩):=YO hk h.node.1 h.node.2
def Pc(h:dP X n s H o rv ov bs own V)(hk:X.k+n<=90000)(a:Int):zj M Zr [.ptr X.p 0,.int .i64 a] H λ v H'=>v=.tuple [.int .u64 (s.kF a).1,.bool (s.kF a).2]/\fJ (s.kF a).1/\lJ X (n+1) (s.ld a) H':=by
 refine qz2 ?_;have hu:fJ (s.kF a).1:=(No.U.load (h.U.n s.node (zh h.node.2)) a).2.1;simp only[ae,bc,qz3,aB,h.c.bq,SX.pv,wM,K3];refine C3.q (xkd h.b (h.bb hk) h.node.1 h.node.2 a) λ v H1⟨d,hp⟩=>?_;subst d;have e:=h.zZ 0 0 a 0 (by decide);have st:lJ X (n+1) (s.ld a) H1:=h.bu (x:=⟨0,s.c.id,a,0,0⟩) (by show(0:Int)≠7;decide) bK (by rw[e];exact hp);cases q:(s.node.load a).2.2.1 with
 |false =>
  have e2:(s.kF a).2=false:=by unfold CS.kF;rw[q];rfl
  have e1:(s.kF a).1=(s.node.load a).2.1:=rfl;simp only[ae,bc,aB,e2,e1];exact⟨hu,st⟩
 |true =>
  have e2:(s.kF a).2=decide ((s.node.load a).2.2.2.2=0):=by unfold CS.kF;rw[q];rfl
  have e1:(s.kF a).1=(s.node.load a).2.1:=rfl;simp only[ae,bc,aB,e2,e1];exact⟨hu,st⟩
def Ro(h:dP X n s H o rv ov bs own V)(hk:X.k+n<=90000)(a:Int){v:Int}(d:fJ v):zj M qnc [.ptr X.p 0,.int .i64 a,.int .u64 v] H λ w H'=>w=.bool (s.vN a v)/\lJ X (n+1) (s.st a v) H':=by
 refine qxm ?_;simp only[ae,bc,qxn,aB,h.c.bq,SX.pv,wM,GG];refine C3.q (xh7 h.b (h.bb hk) h.node.1 h.node.2 a v) λ w H1⟨hw,hp⟩=>?_;subst hw;have e:=h.zZ 1 v a 0 (by decide);have st:lJ X (n+1) (s.st a v) H1:=h.bu (x:=⟨1,s.c.id,a,v,0⟩) (by show(1:Int)≠7;decide) d (by rw[e];exact hp);cases q:(s.node.store a v).2.1 with
 |false =>
  have e2:s.vN a v=false:=by unfold CS.vN;rw[q];rfl
  simp only[ae,bc,aB,e2];exact st
 |true =>
  have e2:s.vN a v=decide ((s.node.store a v).2.2.2=0):=by unfold CS.vN;rw[q];rfl
  simp only[ae,bc,aB,e2];exact st
def Jc(h:dP X n s H o rv ov bs own V)(hk:X.k+n<=90000)(a w:Int){v:Int}(d:fJ v):zj M qqh [.ptr X.p 0,.int .i64 a,.int .u64 w,.int .u64 v] H λ r H'=>r=.tuple [.bool (s.Ay a w).1,.bool (s.Ay a w).2]/\lJ X (n+1) (s.cs a w v) H':=by
 refine q34 ?_;simp only[ae,bc,q35,aB,h.c.bq,SX.pv,wM,Rz];refine C3.q (ad7 h.b (h.bb hk) h.node.1 h.node.2 a w v) λ r H1⟨hr,hp⟩=>?_;subst hr;have e:=h.zZ 2 v a w (by decide);have st:lJ X (n+1) (s.cs a w v) H1:=h.bu (x:=⟨2,s.c.id,a,v,w⟩) (by show(2:Int)≠7;decide) d (by rw[e];exact hp);have e1:(s.Ay a w).1=(s.node.jQ a w).1:=rfl;cases q:(s.node.jQ a w).2.1 with
 |false =>
  have e2:(s.Ay a w).2=false:=by unfold CS.Ay;rw[q];rfl
  simp only[ae,bc,aB,e2,e1];exact st
 |true =>
  have e2:(s.Ay a w).2=decide ((s.node.jQ a w).2.2=0):=by unfold CS.Ay;rw[q];rfl
  simp only[ae,bc,aB,e2,e1];exact st
def _g(h:dP X n s H o rv ov bs own V)(hk:X.k+n<=90000):zj M Tf [.ptr X.B 0,.int .i64 s.c.id] H λ _ H'=>lJ X (n+1) (s.iy 3 0 0 0) H' :=
 (xht h.b (h.bb hk) h.node.1 h.node.2).mono λ _ H1⟨_,hp⟩=>h.bu (x:=⟨3,s.c.id,0,0,0⟩) (by show(3:Int)≠7;decide) bK (by rw[h.zZ 3 0 0 0 (by decide)];exact hp)
def Wj(h:dP X n s H o rv ov bs own V)(hk:X.k+n<=90000):zj M SB [.ptr X.B 0,.int .i64 s.c.id] H λ _ H'=>lJ X (n+1) (s.iy 4 0 0 0) H' :=
 (xd6 h.b (h.bb hk) h.node.1 h.node.2).mono λ _ H1⟨_,hp⟩=>h.bu (x:=⟨4,s.c.id,0,0,0⟩) (by show(4:Int)≠7;decide) bK (by rw[h.zZ 4 0 0 0 (by decide)];exact hp)
def XN(h:dP X n s H o rv ov bs own V)(hk:X.k+n<=90000)(c:Int):zj M NX [.ptr X.B 0,.int .i64 s.c.id,.int .i64 c] H λ _ H'=>lJ X (n+1) (s.iy 5 c 0 0) H' :=
 (q8y h.b (h.bb hk) h.node.1 h.node.2 c).mono λ _ H1 hp=>h.bu (x:=⟨5,s.c.id,c,0,0⟩) (by show(5:Int)≠7;decide) bK (by rw[h.zZ 5 0 c 0 (by decide)];exact hp)
def Kx(h:dP X n s H o rv ov bs own V)(hk:X.k+n<=90000):∀K,C3 M B4 (.func TU) [.ptr X.B 0,.int .i64 s.c.id] H K=K B4 (.bool s.node.live) H:=eB (xbi h.b (h.bb hk) h.node.1 h.node.2)
end
end Go.Am
namespace Go.Am
open Lang Go.Proofs
variable{M:ao}[MK M]
section
variable{X:SX}{n n':Nat}{s t:CS}{H H':ar}{o:Nat->Nat}{rv ov:AV}{bs:Bs}{own:Nat->Nat}{V:Int->L8}
def dP.here(h:dP X n s H o rv ov bs own V):lJ X n s H:=⟨o,rv,ov,bs,own,V,h⟩
def dP.eD(h:dP X n s H o rv ov bs own V)(hn:n<=n'):lJ X n' s H:=h.here.mono hn
def dP.on(h:dP X n s H o rv ov bs own V){d:Co}{rv':AV}(a:d.id=s.c.id)(f:Fr (On X.p) H H')(g:dW H' o X.p X.f X.l X.sp X.cv rv' ov X.pv d s.o (X.k+n)):dP X n {s with c:=d} H' o rv' ov bs own V:=by
 have i:=h.hn;have fn:=f.au;have j:=h.fr.au;have hp:=h.c.op;refine{h with c:=g,b:=?_,nn:=by show d.id<_;rw[a];exact h.nn,hb:=λ z q e=>?_,go:=λ z q e=>?_,fr:=h.fr.trans f λ z(q:z=X.p)=>?_}
 .refine h.b.fr (f.mono (W':=λ z=>o z≠0/\z<H.au) λ z w(q:z=X.p)=>⟨by rw[q,hp];decide,w⟩) λ z⟨q,w⟩=>⟨h.hb z w q,λ e=>q (h.dj z e)⟩
 .rcases xw z H.au with w|w
  .exact h.hb z w e
  .omega
 .rcases xw z H.au with w|w
  .exact h.go z w e
  .exact .inr (by omega)
 .rw [q];exact(h.go X.p h.c.row.2 (by rw[hp];decide)).imp (λ e=>.inl e.2) id
def dP.put(h:dP X n s H o rv ov bs own V)(i:Nat){v:AV}(d:Co)(a:aA v=B4)(e:i<24)(he:(cE s.c X.f X.l X.sp X.cv rv ov X.pv).set i v=cE d X.f X.l X.sp X.cv rv ov X.pv)(hs:d.fi=s.c.fi/\d.la=s.c.la/\d.so=s.c.so/\d.code=s.c.code)(hr:d.aV=s.c.aV/\d.id=s.c.id)(hw:Jw d (X.k+n)) :
 ∃H',Op.store 1 [.ptr X.p i,v] H=B1 (.undef,H')/\dP X n {s with c:=d} H' o rv ov bs own V:=by
 have⟨H1,s1,a,b⟩:=h.c.put i d a e he hs hr.1 hw;exact⟨H1,s1,h.on hr.2 b a⟩
def dP.want(h:dP X n s H o rv ov bs own V)(e:oK)(he:fJ e.addr):∃H',Op.store 5 [.ptr X.p 7,.agg (bn e)] H=B1 (.undef,H')/\dP X n {s with c:={s.c with want:=e}} H' o rv ov bs own V:=by
 have s1:=h.c.row.ij (k:=7) (n:=5) (v:=.agg (bn e)) (by rw[z6];rfl) (by simp[cE]) (by rw[z6];rfl);have e2:(cE s.c X.f X.l X.sp X.cv rv ov X.pv).take 7++AV.cells (.agg (bn e))++(cE s.c X.f X.l X.sp X.cv rv ov X.pv).drop (7+5)=cE {s.c with want:=e} X.f X.l X.sp X.cv rv ov X.pv:=by rw[z6];rfl
 rw[e2]at s1;have⟨a,b⟩:=h.c.cell (d:={s.c with want:=e}) (k':=X.k+n) ⟨rfl,rfl,rfl,rfl⟩ (rv':=rv) ⟨h.c.rd,h.c.qI⟩ ⟨h.c.ou,h.c.pG⟩ h.c.FJ {h.c.w with wu:=he};exact⟨_,s1,h.on rfl b a⟩
def dP.forget(h:dP X n s H o rv ov bs own V):∃H',Op.store 1 [.ptr X.p 13,.nils] H=B1 (.undef,H')/\dP X n {s with c:={s.c with aV:=[]}} H' o .nils ov bs own V:=by
 have s1:=h.c.row.st 13 (v:=.nils) rfl (by simp[cE]);have⟨a,b⟩:=h.c.cell (d:={s.c with aV:=[]}) (k':=X.k+n) ⟨rfl,rfl,rfl,rfl⟩ (rv':=.nils) ⟨Own.nil ..,λ z q=>(q.1 rfl).elim⟩ ⟨h.c.ou,h.c.pG⟩ h.c.FJ {h.c.w with ru:=λ y w=>(List.not_mem_nil w).elim,rl:=x9 _,LC:=λ i x w=>by rw[List.getElem?_nil]at w;cases w};exact⟨_,s1,h.on rfl b a⟩
def jT:[AV.int .i64 0,.int .i64 0,.int .i64 0,.int .u64 0,.int .u64 0]=bn iD:=rfl
def QI:Op.build (bn iD) [] []=B1 (.agg (bn iD)):=rfl
def Jt(k:Int):Op.build (bn iD) [(0,1)] [.int .i64 k]=B1 (.agg (bn ⟨k,0,0,0,0⟩)):=rfl
def q32(s:CS):s.av.b=s.b:=by unfold CS.av;simp only;split<;>rfl
def g_(s:CS):s.av.c.id=s.c.id:=by unfold CS.av;simp only;split<;>rfl
def Qz(s:CS):s.bH.b=s.b:=q32 s
def RV(s:CS):s.bH.c.id=s.c.id:=g_ s
def χ(h:dP X n s H o rv ov bs own V)(hk:X.k+n<=90000)(hl:s.o.length<=1000):zj M VJ [.ptr X.p 0] H λ _ H'=>lJ X (n+1) s.cP H':=by
 refine qtv ?_;unfold CS.cP
 by_cases b:s.c.la.lane=0
 .rw [xb b];have⟨H1,s1,a⟩:=h.put 20 (v:=.bool B4) {s.c with halted:=B4} rfl (by decide) rfl ⟨rfl,rfl,rfl,rfl⟩ ⟨rfl,rfl⟩ {h.c.w with};have⟨u,s2,e⟩:=a.put 21 (v:=.bool B4) {s.c with halted:=B4,Cl:=B4} rfl (by decide) rfl ⟨rfl,rfl,rfl,rfl⟩ ⟨rfl,rfl⟩ {h.c.w with};simp only[ae,bc,Tg,aB,h.c.bq,iP h.c.la,xf b,s1,s2];exact e.eD (by omega)
 rw[qv b]
 by_cases d:s.c.la.lane=3
 .rw [xb d];simp only[ae,bc,Tg,aB,h.c.bq,iP h.c.la,b,xf d,jT,QI];have⟨g,fv,hs⟩:=h.c.so;refine C3.q (xjv hs) λ _ H1 hp=>?_;have⟨o1,m,l,i,og,y,a⟩:=h.co (t:=s.so .Fm) rfl rfl (h.c.Oo hp) (qm _);have⟨u,s2,e⟩:=a.want iD bK;have⟨x,r,j⟩:=e.put 6 (v:=.int .i64 6) {(s.so .Fm).c with want:=iD,ph:=6} rfl (by decide) rfl ⟨rfl,rfl,rfl,rfl⟩ ⟨rfl,rfl⟩ {e.c.w with};simp only[ae,bc,aB,s2,r];exact j.eD (by omega)
 rw[qv d]
 by_cases f:s.c.la.lane=4
 .rw [xb f];have⟨x,r,j⟩:=h.put 6 (v:=.int .i64 10) {s.c with ph:=10} rfl (by decide) rfl ⟨rfl,rfl,rfl,rfl⟩ ⟨rfl,rfl⟩ {h.c.w with};simp only[ae,bc,Tg,aB,h.c.bq,iP h.c.la,b,d,xf f,r];exact j.eD (by omega)
 rw[qv f];simp only[ae,bc,Tg,aB,h.c.bq,iP h.c.la,b,d,f,SX.pv,wM,VK];refine C3.q (XN h hk 7) λ _ H1⟨o1,m,l,i,og,y,a⟩=>?_;simp only[ae,bc];refine C3.q (U7 (s:=s.iy 5 7 0 0) a.c hl) λ _ u hp=>?_;simp only[ae,bc];exact a.co (t:=(s.iy 5 7 0 0).breaks) rfl rfl hp (qm _)
def CS.bg0(s:CS):CS:={s.tell 1 0 0 0 with c:={s.c with aV:=[],done:=0,wrote:=B2,said:=B2}}
def CS.bg1(t:CS):CS :=
 if t.c.la.lane=1 then(t.iy 3 0 0 0).ph 2
 else if t.c.la.lane=2 then(t.iy 3 0 0 0).ph 3
 else if t.c.la.lane=3 then let u:=t.so .begin
  {u with c:={u.c with want:=⟨5,0,0,0,0⟩,ph:=6}}
 else t.ph 4
def xkq(s:CS):s.jL=s.bg0.bg1:=rfl
def ae2(h:dP X n s H o rv ov bs own V)(hk:X.k+n<=90000)(hl:s.o.length<=1000):zj M T' [.ptr X.p 0] H λ _ H'=>lJ X (n+1) s.jL H':=by
 refine qvm ?_;rw[xkq];simp only[ae,bc,RA];refine C3.q (FF h.c hl 1 0 0 0) λ _ H1 hp=>?_;have⟨o1,Q,C,B,og,N,O⟩:=h.co (t:=s.tell 1 0 0 0) rfl rfl hp (qm _);have⟨R,s2,F⟩:=O.forget;have⟨S,x,G⟩:=F.put 14 (v:=.int .i64 0) {s.c with aV:=[],done:=0} rfl (by decide) rfl ⟨rfl,rfl,rfl,rfl⟩ ⟨rfl,rfl⟩ {F.c.w with d0:=uj _};have⟨T,y,I⟩:=G.put 15 (v:=.bool B2) {s.c with aV:=[],done:=0,wrote:=B2} rfl (by decide) rfl ⟨rfl,rfl,rfl,rfl⟩ ⟨rfl,rfl⟩ {G.c.w with};have⟨L,z,a⟩:=I.put 17 (v:=.bool B2) {s.c with aV:=[],done:=0,wrote:=B2,said:=B2} rfl (by decide) rfl ⟨rfl,rfl,rfl,rfl⟩ ⟨rfl,rfl⟩ {I.c.w with};obtain⟨t,J⟩:∃t:CS,t=s.bg0:=⟨_,rfl⟩
 have a:dP X n t L o1 .nils C B og N:=J▸a;rw[<-J];unfold CS.bg1;simp only;have ln:=iP (M:=M) a.c.la
 by_cases i:t.c.la.lane=1
 .rw [xb i];simp only[ae,bc,RA,aB,s2,x,y,z,a.c.bq,ln,xf i,SX.pv,wM,xme];refine C3.q (_g a hk) λ _ D⟨K,r,l,j,d,E,e⟩=>?_;have⟨A,f,b⟩:=e.put 6 (v:=.int .i64 2) {(t.iy 3 0 0 0).c with ph:=2} rfl (by decide) rfl ⟨rfl,rfl,rfl,rfl⟩ ⟨rfl,rfl⟩ {e.c.w with};simp only[ae,bc,aB,f];exact b.here
 rw[qv i]
 by_cases m:t.c.la.lane=2
 .rw [xb m];simp only[ae,bc,RA,aB,s2,x,y,z,a.c.bq,ln,i,xf m,SX.pv,wM,xme];refine C3.q (_g a hk) λ _ D⟨K,r,l,j,d,E,e⟩=>?_;have⟨A,f,b⟩:=e.put 6 (v:=.int .i64 3) {(t.iy 3 0 0 0).c with ph:=3} rfl (by decide) rfl ⟨rfl,rfl,rfl,rfl⟩ ⟨rfl,rfl⟩ {e.c.w with};simp only[ae,bc,aB,f];exact b.here
 rw[qv m]
 by_cases u:t.c.la.lane=3
 .rw [xb u];simp only[ae,bc,RA,aB,s2,x,y,z,a.c.bq,ln,i,m,xf u,jT,Jt];have⟨g,fv,hs⟩:=a.c.so;refine C3.q (LU hs) λ _ D hp=>?_;have⟨K,r,l,j,d,E,e⟩:=a.co (t:=t.so .begin) rfl rfl (a.c.Oo hp) (qm _);have⟨A,f,b⟩:=e.want ⟨5,0,0,0,0⟩ bK;have⟨U,s8,P⟩:=b.put 6 (v:=.int .i64 6) {(t.so .begin).c with want:=⟨5,0,0,0,0⟩,ph:=6} rfl (by decide) rfl ⟨rfl,rfl,rfl,rfl⟩ ⟨rfl,rfl⟩ {b.c.w with};simp only[ae,bc,aB,f,s8];exact P.eD (by omega)
 rw[qv u];have⟨A,f,b⟩:=a.put 6 (v:=.int .i64 4) {t.c with ph:=4} rfl (by decide) rfl ⟨rfl,rfl,rfl,rfl⟩ ⟨rfl,rfl⟩ {a.c.w with};simp only[ae,bc,RA,aB,s2,x,y,z,a.c.bq,ln,i,m,u,f];exact b.eD (by omega)
def GU(h:dP X n s H o rv ov bs own V)(hk:X.k+n<=90000)(hl:s.o.length<=1000):zj M _s [.ptr X.p 0] H λ _ H'=>lJ X (n+1) s.oA H':=by
 refine qxk ?_;unfold CS.oA;simp only;simp only[ae,bc,qxl,aB,h.c.bq];refine C3.q (Jc h hk 0 s.c.seq (FN _)) λ r H1⟨hr,o1,x,m,i,og,C,a⟩=>?_;subst hr;cases F:(s.Ay 0 s.c.seq).2 with
 |false =>
  rw[xb rfl];simp only[ae,bc,aB];exact a.here
 |true =>
  rw[qv (by decide)];cases E:(s.Ay 0 s.c.seq).1 with
  |true =>
   rw[xb rfl];simp only[ae,bc,aB];refine C3.q (FF (s:=s.cs 0 s.c.seq (ak .u64 (s.c.seq+1))) a.c hl 4 0 0 0) λ _ A hp=>?_;have⟨o2,y,u,j,f,D,e⟩:=a.co (t:=(s.cs 0 s.c.seq (ak .u64 (s.c.seq+1))).tell 4 0 0 0) rfl rfl hp (qm _);have⟨g,d,b⟩:=e.put 6 (v:=.int .i64 0) {s.c with ph:=0} rfl (by decide) rfl ⟨rfl,rfl,rfl,rfl⟩ ⟨rfl,rfl⟩ {e.c.w with};have⟨B,z,l⟩:=b.put 16 (v:=.bool B4) {s.c with ph:=0,held:=B4} rfl (by decide) rfl ⟨rfl,rfl,rfl,rfl⟩ ⟨rfl,rfl⟩ {b.c.w with};simp only[ae,bc,aB,d,z];exact l.here
  |false =>
   rw[qv (by decide)];have⟨g,d,b⟩:=a.put 6 (v:=.int .i64 4) {s.c with ph:=4} rfl (by decide) rfl ⟨rfl,rfl,rfl,rfl⟩ ⟨rfl,rfl⟩ {a.c.w with};simp only[ae,bc,aB,d];exact b.here
def LG(h:dP X n s H o rv ov bs own V)(hk:X.k+n<=90000)(hl:s.o.length<=1000):zj M He [.ptr X.p 0] H λ _ H'=>lJ X (n+1) s.ends H':=by
 refine qzx ?_;unfold CS.ends;have ln:=iP (M:=M) h.c.la
 by_cases a:s.c.la.lane=3
 .rw [xb a];simp only[ae,bc,PZ,aB,h.c.bq,ln,xf a,jT,Jt];have⟨g,fv,hs⟩:=h.c.so;refine C3.q (xdr hs) λ _ I hp=>?_;have⟨N,F,E,B,u,L,C⟩:=h.co (t:=s.so .bt) rfl rfl (h.c.Oo hp) (qm _);have⟨J,G,r⟩:=C.want ⟨6,0,0,0,0⟩ bK;have⟨K,s8,D⟩:=r.put 6 (v:=.int .i64 6) {(s.so .bt).c with want:=⟨6,0,0,0,0⟩,ph:=6} rfl (by decide) rfl ⟨rfl,rfl,rfl,rfl⟩ ⟨rfl,rfl⟩ {r.c.w with};simp only[ae,bc,aB,G,s8];exact D.eD (by omega)
 rw[qv a]
 by_cases b:s.c.la.lane=4
 .rw [xb b];have⟨z,m,i⟩:=h.put 6 (v:=.int .i64 9) {s.c with ph:=9} rfl (by decide) rfl ⟨rfl,rfl,rfl,rfl⟩ ⟨rfl,rfl⟩ {h.c.w with};simp only[ae,bc,PZ,aB,h.c.bq,ln,a,xf b,m];exact i.eD (by omega)
 rw[qv b]
 by_cases e:s.c.la.lane=2
 .cases x:s.c.wrote with
  |true =>
   rw[xb ⟨e,rfl⟩];have⟨z,m,i⟩:=h.put 6 (v:=.int .i64 7) {s.c with ph:=7} rfl (by decide) rfl ⟨rfl,rfl,rfl,rfl⟩ ⟨rfl,rfl⟩ {h.c.w with};simp only[ae,bc,PZ,aB,h.c.bq,ln,a,b,xf e,x,m];exact i.eD (by omega)
  |false =>
   rw[qv (λ w=>by cases w.2)];simp only[ae,bc,PZ,aB,h.c.bq,ln,a,b,xf e,x,SX.pv,wM,Yw];refine C3.q (Wj h hk) λ _ H1⟨o1,l,j,f,og,A,d⟩=>?_;simp only[ae,bc];refine C3.q (Rg (s:=s.iy 4 0 0 0) d.c hl) λ _ y hp=>?_;simp only[ae,bc];exact d.co (t:=(s.iy 4 0 0 0).bH) (Qz _) (RV _) hp (qm _)
 .rw [qv (λ w=>e w.1)];simp only[ae,bc,PZ,aB,h.c.bq,ln,a,b,e,SX.pv,wM,Yw];refine C3.q (Wj h hk) λ _ H1⟨o1,l,j,f,og,A,d⟩=>?_;simp only[ae,bc];refine C3.q (Rg (s:=s.iy 4 0 0 0) d.c hl) λ _ y hp=>?_;simp only[ae,bc];exact d.co (t:=(s.iy 4 0 0 0).bH) (Qz _) (RV _) hp (qm _)
end
end Go.Am
namespace Go.Am
open Lang Go.Proofs
variable{M:ao}[MK M]
def iG(ps:List Pr)(a:Int):List (List AV):=match iB ps a with
 |some i=>[[.int .i64 (i:Int),.int .u64 (ps.getD i ⟨0,0⟩).v]]
 |none=>[]
def kT(ps:List Pr)(a:Int)(i:Nat):Nat:=match iB ps a with
 |some j=>if j<i then 1 else 0
 |none=>0
def GF(b:List Pr)(a:Int):kT b a 0=0:=by unfold kT;split<;>simp
def xl5(b:List Pr)(a:Int):kT b a b.length=(iG b a).length:=by
 unfold kT iG;cases h:iB b a with
 |none=>rfl
 |some j=>simp only;rw[xb (pJ h).1];rfl
def Cw{c:List Pr}{a:Int}{i:Nat}{x:Pr}(f:c[i]? = B1 x)(h:x.a≠a):kT c a (i+1)=kT c a i:=by
 unfold kT;cases q:iB c a with
 |none=>rfl
 |some j =>
  have:j≠i:=λ e=>by
   obtain⟨-,y,b,d⟩:=pJ q;rw[e,f]at b;injection b with b;rw[b]at h;exact h d
  simp only
  by_cases w:j<i
  .rw [xb w,xb (by omega)]
  .rw [qv w,qv (by omega)]
def DB{b:List Pr}(d:tj b){i:Nat}{x:Pr}(c:b[i]? = B1 x):kT b x.a (i+1)=kT b x.a i+1/\(iG b x.a)[kT b x.a i]? = B1 [.int .i64 (i:Int),.int .u64 x.v]:=by
 have q:=d i x c;unfold kT iG;rw[q];simp only;rw[xb (by omega),qv (by omega),z8,c];exact⟨rfl,rfl⟩
def q8e{H0:ar}{k l p:Nat}{a:Int}{rv:AV}{c:List Pr}(g1:H0.get k=B1 (OR [.ptr p 0] AE))(g2:H0.get l=B1 (OR [.int .i64 a] bY))(l1:k<H0.au)(l2:l<H0.au)(hd:tj c)(hl:c.length<=1000000) :
 vA M Ny [] [.ptr k 0,.ptr l 0] (λ z=>z=k\/z=l) (λ _=>False) (λ H=>Op.ah [.ptr p 13] H=B1 rv/\bM cG 2 H rv c) H0 (iG c a):=by
 intro Y R S m H1 hnx U B J loc W hI step;have⟨p1,p2,p3⟩:=U k (.inl (.inl rfl));have⟨q1,O,P⟩:=U l (.inl (.inr rfl))
 suffices h:zj M Ny [.fn (.yield Y) [] [],.ptr k 0,.ptr l 0] H1 (Ic R S m (λ _=>False) H1 (iG c a).length)by
  have⟨v,H',hc,W',q1,O,P⟩:=h.elim;exact⟨v,H',W',hc,q1,O,P⟩
 refine qvq ?_;have lp:Op.ah [.ptr k 0] H1=B1 (.ptr p 0):=by rw[zg (xe (by rw[p2];exact g1))];rfl
 have Z:∀{d:ar},Fr m H1 d->Op.ah [.ptr l 0] d=B1 (.int .i64 a):=λ f=>by rw[zg (xe (by rw[f.ai _ (by omega) P,O];exact g2))];rfl
 have⟨lr,s0⟩:=hI 0 m H1 B;simp only[ae,bc,Rp,lp,aB,lr,s0.len];refine dm.intro (λ n E d=>∃(i:Nat)(V:Nat->Prop),E=[(11,.int .i64 (i:Int)),(10,.int .i64 ((c.length:Nat):Int)),(9,rv),(0,.fn (.yield Y) [] []),(1,.ptr k 0),(2,.ptr l 0)]/\n=c.length-i/\i<=c.length/\Ov R m H1 d (kT c a i) V) ?_ ?_
 .exact ⟨_,_,⟨0,m,rfl,rfl,x9 _,⟨by rw[GF];exact B,λ b hb=>⟨J b hb,.inl hb⟩,Fr.refl _⟩⟩,by simp only[ae,bc]⟩
 rintro n E d ⟨i,V,rfl,rfl,hi,g⟩;rcases xw i c.length with L|hge
 .have F:(i:Int)<((c.length:Nat):Int):=by omega
  obtain⟨e,he⟩:∃e,c[i]? = B1 e:=⟨c[i],by simp[L]⟩
  obtain⟨-,sl⟩:=hI _ V d g.hR;have ix:Op.aT 2 [rv,.int .i64 (i:Int)]=B1 (NR rv i):=sl.idx he rfl .i64;have ld:Op.aw 2 [NR rv i] d=B1 (.agg (cG e)):=sl.aw BF (by decide) he;have bx:=Su (H1:=d) e;obtain⟨u,e2⟩:∃X,X=(d.alloc (OR [.int .i64 0,.int .u64 0] wx)).set d.au (OR (cG e) wx):=⟨_,rfl⟩
  rw[<-e2]at bx;have I:Fr Em d u:=by rw[e2];exact yB _ _
  have A:u.get d.au=B1 (OR (cG e) wx):=by rw[e2,xg]
  have xR:Op.ah [.ptr d.au 0] u=B1 (.int .i64 e.a):=zg (xe A) 0;have N:Op.ah [.ptr d.au 1] u=B1 (.int .u64 e.v):=zg (xe A) 1;have n2:=I.au;have j:=g.fr.em I;have wj:ak .i64 ((i:Int)+1)=((i+1:Nat):Int):=by rw[ju (by omega) (by omega)];omega
  have T:=loc _ _ _ _ g.hR (λ y r=>I.ai y (g.hV y r).1 id) n2
  by_cases q:e.a=a
  .subst q;have⟨k1,k2⟩:=DB hd he;have⟨bb,Q,G,hr,hf,D,ht,hs⟩:=step _ _ k2 V u T (λ y r=>⟨by have:=(g.hV y r).1;omega,(g.hV y r).2⟩) (j.mono λ _ _ q=>.inl q);have x:Fr m H1 Q:=j.trans hf λ y q=>(g.hV y q).2;have C:∀y,G y->y<Q.au/\(m y\/H1.au<=y):=λ y q=>⟨(D y q).1,(D y q).2.elim (λ w=>(g.hV y w).2) λ w=>.inr (by have:=g.fr.au;omega)⟩
   simp only[ae,bc,Rp,F,ix,ld,bx,xR,N,Z j];refine C3.tZ hr ?_;cases bb with
   |true =>
    simp only[ae,bc,Rp,wj];exact⟨_,_,⟨i+1,G,rfl,rfl,by omega,⟨by rw[k1];exact ht rfl,C,x⟩⟩,by simp only[ae,bc],by omega⟩
   |false =>
    simp only[ae,bc];exact⟨G,x.mono λ _ _ q=>.inl q,C,.inr (hs rfl)⟩
  .simp only[ae,bc,Rp,F,ix,ld,bx,xR,Z j,q,wj];exact⟨_,_,⟨i+1,V,rfl,rfl,by omega,⟨by rw[Cw he q];exact T,λ y r=>⟨by have:=(g.hV y r).1;omega,(g.hV y r).2⟩,j⟩⟩,by simp only[ae,bc],by omega⟩
 .have F:¬(i:Int)<((c.length:Nat):Int):=by omega
  have K:i=c.length:=by omega
  simp only[ae,bc,Rp,F];exact⟨V,g.fr.mono λ _ _ q=>.inl q,g.hV,.inl (by rw[<-xl5,<-K];exact g.hR)⟩
end Go.Am
namespace Go.Am
open Lang Go.Proofs
variable{M:ao}[MK M]
def u'{H:ar}(p:Nat)(a:Int):zj M Φ [.ptr p 0,.int .i64 a] H λ v H'=>v=.fn (.func Ny) [] [.ptr H.au 0,.ptr (H.alloc (OR [.ptr p 0] AE)).au 0]/\H'=(H.alloc (OR [.ptr p 0] AE)).alloc (OR [.int .i64 a] bY):=by
 refine qz0 ?_;have mk:∀b e,Op.bB Ny 0 [.ptr b 0,.ptr e 0]=B1 (.fn (.func Ny) [] [.ptr b 0,.ptr e 0]):=λ _ _=>rfl;simp only[ae,bc,qz1];rfl
section
variable{X:SX}{n n':Nat}{s t:CS}{H H':ar}{o:Nat->Nat}{rv ov:AV}{bs:Bs}{own:Nat->Nat}{V:Int->L8}
def pS{a:ar}{z t:Nat}{c:List AV}(h:a.get z=H.get z)(g:H.get z=B1 (OR c t)):a.get z=B1 (OR c t):=h.trans g
def vd{z t:Nat}{c:List AV}(g:H.get z=B1 (OR c t))(k:Nat):Op.ah [.ptr z k] H=c[k]?:=zg (xe g) k
def Ex{z t:Nat}{e:oK}(g:H.get z=B1 (OR (bn e) t)):Op.aw 5 [.ptr z 0] H=B1 (.agg (bn e)):=tD (xe g) (by simp[bn])
def LW(X:SX)(n:Nat)(t:CS)(Hx:ar)(ox:Nat->Nat)(bsx:Bs)(Z:ar):Prop:=lJ X (n+1) t Z /\ ∀d,B8 Hx ox X.B bsx d->X.H.au<=d->X.Hb.au<=d->Z.get d=Hx.get d/\lJ X (n+1) t (Z.set d (.deferred B5))
def MB(H4:ar)(o4:Nat->Nat)(p f l sp:Nat)(cv rv pv:AV)(c:Co)(os:List eF)(k:Nat)(W:Nat->Prop)(Hx:ar):Prop:=∃ox ovx,dW Hx ox p f l sp cv rv ovx pv c os k/\(∀z,z<H4.au->ox z=o4 z)/\(∀z,z<Hx.au->ox z≠0->W z)/\H4.au<=Hx.au
def MB.loc{e a Hb:ar}{g:Nat->Nat}{p f l sp k:Nat}{cv rv pv:AV}{c:Co}{os:List eF}{W:Nat->Prop}(h:MB e g p f l sp cv rv pv c os k W a)(hs:∀z,W z->Hb.get z=a.get z)(hn:a.au<=Hb.au):MB e g p f l sp cv rv pv c os k W Hb:=by
 have⟨m,b,u,v,i,j⟩:=h;refine⟨aP m a.au 0,b,u.fr (W:=λ z=>¬W z) ⟨hn,λ z w q=>hs z (kj.1 q)⟩ (λ z w q r=>r (i z w q)) (λ z q=>iZ q) (qm _),λ z w=>?_,λ z w q=>?_,zd j hn⟩
 .rw [iZ (qn w j)];exact v z w
 .rcases xw z a.au with r|r
  .rw [iZ r]at q;exact i z r q
  .rw [nj r]at q;exact(q rfl).elim
def xkz(h:dP X n s H o rv ov bs own V)(hk:X.k+n<=90000)(hl:s.o.length<=1000)(e:oK)(hu:fJ e.addr)(a:Int):zj M P7 [.ptr X.p 0,.agg (bn e),.int .i64 a] H λ _ H'=>lJ X (n+1) (s.mh e a) H':=by
 refine qxj ?_;obtain⟨H1,e1,f1,n1,-⟩:=cI H (OR [.ptr X.p 0] AE);obtain⟨H2,e2,f12,-,g2⟩:=cI H1 (OR (bn e) jr);have n2:H2.au=H.au+2:=by rw[e2,xz,n1]
 have g1:H2.get H.au=B1 (OR [.ptr X.p 0] AE):=by rw[f12.ai _ (by omega) id,e1,xr]
 have⟨o2,L,lo⟩:=h.loc (f1.em f12);have D:=(lo H.au).1 ⟨qm _,by omega⟩;have N:=(lo H1.au).1 ⟨by omega,by omega⟩;have hr:=L.re;have ln:=iP (M:=M) L.c.la;have l1:=vd g1 0;have l2:=Ex g2;unfold CS.mh
 by_cases T:s.c.la.lane=3
 .rw [xb T];simp only;simp only[ae,bc,LY,aB,<-e1,<-e2,l1,L.c.bq,ln,xf T];have⟨g,fv,hs⟩:=L.c.so;refine C3.q (xjs hs a) λ _ O hp=>?_;have⟨o3,rv3,ov3,bs3,own3,V3,h3⟩:=hr.co (t:=s.so (·.load a)) rfl rfl (L.c.Oo hp) (qm _);have⟨lo1',r1⟩:=h3.lo D;have⟨lo2',r2⟩:=h3.lo N;have c3:dW O o3 X.p X.f X.l X.sp X.cv rv3 ov3 X.pv (s.so (·.load a)).c s.o (X.k+n):=h3.c;have⟨g3,fv3,Q⟩:=c3.so;have m1:=vd (pS r1 g1) 0;have m2:=Ex (pS r2 g2);cases b:(s.so (·.load a)).c.so.busy with
  |true =>
   rw[xb rfl];have⟨J,s4,A⟩:=h3.want e hu;have s4:Op.store 5 [.ptr X.p 7,.agg (bn e)] O=B1 (.undef,J):=s4;have⟨_,r4⟩:=A.lo D;have m4:=vd (pS r4 g1) 0;have⟨H5,s5,h5⟩:=A.put 6 (v:=.int .i64 6) {(s.so (·.load a)).c with want:=e,ph:=6} rfl (by decide) rfl ⟨rfl,rfl,rfl,rfl⟩ ⟨rfl,rfl⟩ {A.c.w with};have s5:Op.store 1 [.ptr X.p 6,.int .i64 6] J=B1 (.undef,H5):=s5;simp only[ae,bc,LY,aB,m1,c3.bq,ig Q,b,m2,s4,m4,s5];exact L.back (h5.eD (by omega))
  |false =>
   rw[qv (by decide)];simp only[ae,bc,LY,aB,m1,c3.bq,ig Q,b,m2,Fa Q];refine C3.q (Sj (s:=s.so (·.load a)) c3 hl e hu Q.vu) λ _ J hp=>?_;simp only[ae,bc];exact L.back ((h3.co (t:=(s.so (·.load a)).eV e (s.so (·.load a)).c.so.value) rfl rfl hp (qm _)).mono (by omega))
 rw[qv T];have tail:∀{G:ar}{C:Nat->Nat}{x u:AV}{I:Bs}{ownx:Nat->Nat}{Vx:Int->L8},dP (X.at H2 o2 bs) n s G C x u I ownx Vx->Op.ah [.ptr H.au 0] G=B1 (.ptr X.p 0)/\zj M Zr [.ptr X.p 0,.int .i64 a] G λ v J=>v=.tuple [.int .u64 (s.kF a).1,.bool (s.kF a).2]/\Op.ah [.ptr H.au 0] J=B1 (.ptr X.p 0)/\Op.aw 5 [.ptr H1.au 0] J=B1 (.agg (bn e))/\LW X n (s.ld a) G C I J/\zj M XK [.ptr X.p 0,.agg (bn e),.int .u64 (s.kF a).1] J λ _ H5=>LW X n ((s.ld a).eV e (s.kF a).1) G C I H5:=λ{G C x u I ownx Vx}Y=>by
  have fin:∀{t:CS}{Z:ar}{oz:Nat->Nat}{rvz ovz:AV}{bsz:Bs}{ownz:Nat->Nat}{Vz:Int->L8},dP ((X.at H2 o2 bs).at G C I) (n+1) t Z oz rvz ovz bsz ownz Vz->LW X n t G C I Z:=λ hz =>
   ⟨L.back (Y.back hz.here),λ d hd h1 h2'=>⟨(hz.lo hd).2,((L.ta (Y.ta hz)).qE (hz.lo hd).1 h1 h2' _).here⟩⟩
  refine⟨vd (pS (Y.lo D).2 g1) 0,(Pc Y.re hk a).mono λ v J⟨U,hu2,o4,rv4,ov4,bs4,own4,V4,A⟩=>?_⟩;have r1:=(Y.lo D).1;have r2:=(Y.lo N).1;refine⟨U,vd (pS ((A.lo r1).2.trans (Y.lo D).2) g1) 0,Ex (pS ((A.lo r2).2.trans (Y.lo N).2) g2),fin A,?_⟩;refine(Sj (s:=s.ld a) A.c hl e hu hu2).mono λ _ H5⟨o5,rv5,ov5,c5,a5,f5⟩=>?_;exact fin (A.HI (t:=(s.ld a).eV e (s.kF a).1) rfl rfl c5 a5 f5 (qm _))
 by_cases q4:s.c.la.lane=4
 .rw [xb q4];simp only[ae,bc,LY,aB,<-e1,<-e2,l1,L.c.bq,ln,T,xf q4];refine C3.q (u' X.p a) λ v m⟨U,hh⟩=>?_;obtain⟨O,e3,f23,-,-⟩:=cI H2 (OR [.ptr X.p 0] AE);obtain⟨J,e4⟩:∃Z,Z=O.alloc (OR [.int .i64 a] bY):=⟨_,rfl⟩
  rw[<-e3]at U hh;rw[<-e4]at hh;subst U;subst hh;have f34:Fr Em O m:=e4▸(Fr.refl O).alloc _;have n3:O.au=H.au+3:=by rw[e3,xz,n2]
  have n4:m.au=H.au+4:=by rw[e4,xz,n3]
  have g3:m.get H2.au=B1 (OR [.ptr X.p 0] AE):=by rw[f34.ai _ (by omega) id,e3,xr]
  have g4:m.get O.au=B1 (OR [.int .i64 a] bY):=by rw[e4,xr]
  have⟨o4,A,R⟩:=hr.loc (f23.em f34);have k1:=(R H.au).2 D;have k2:=(R H1.au).2 N;have k3:=(R H2.au).1 ⟨qm _,by omega⟩;have k4:=(R O.au).1 ⟨by omega,by omega⟩;have r1:=(A.lo D).2;have r2:=(A.lo N).2;have c4:dW m o4 X.p X.f X.l X.sp X.cv rv ov X.pv s.c s.o (X.k+n):=A.c;have rl:=c4.w.rl;have kL:∀i,iB s.c.aV a=B1 i->(iG s.c.aV a)=[[.int .i64 (i:Int),.int .u64 (s.c.aV.getD i ⟨0,0⟩).v]]:=λ i q=>by unfold iG;rw[q]
  simp only[ae,bc];refine iA.u5 (fn:=SO) (lp:=Qc) (pa:=Vd 0) (pb:=UU 0) qvs c_.1 c_.2 (by decide) qtw qtx
   (q8e (rv:=rv) g3 g4 (by omega) (by omega) c4.w.LC (by omega)) (λ i W G=>i=0/\MB m o4 X.p X.f X.l X.sp X.cv rv X.pv s.c s.o (X.k+n) W G)
   (λ ex W G=>ex=.ret /\ ∃i,iB s.c.aV a=B1 i /\ ∃x,MB m o4 X.p X.f X.l X.sp X.cv x X.pv (s.eV e (s.c.aV.getD i ⟨0,0⟩).v).c (s.eV e (s.c.aV.getD i ⟨0,0⟩).v).o (X.k+n) W G)
   (λ z=>o4 z≠0/\z<m.au) (qm _) ?_ ?_ ?_ ?_ ?_ ?_ ?_ ?_ ?_
  .rintro z ((q|q)|q)
   .exact ⟨by omega,rfl,λ w=>w.1 (by rw[q];exact k3.2.1)⟩
   .exact ⟨by omega,rfl,λ w=>w.1 (by rw[q];exact k4.2.1)⟩
   .exact q.elim
  .exact λ z hz=>hz.2
  .exact ⟨rfl,o4,ov,c4,λ _ _=>rfl,λ z w q=>⟨q,w⟩,qm _⟩
  .exact λ i W Ha Hb⟨S,F⟩hs hn=>⟨S,F.loc hs hn⟩
  .exact λ i W Ha Hb⟨S,i,F,x,T⟩hs hn=>⟨S,i,F,x,T.loc hs hn⟩
  .exact λ i W G⟨S,C,u,F,_⟩=>⟨F.row.ld 13,aL.sl F.rd⟩
  .intro E i lr lb y hy hL2 W K ⟨hi,C,u,c6,a6,w6,le6⟩ hb hf6 hnL hL6 hgL;subst hi;obtain⟨j,hj⟩:∃j,iB s.c.aV a=B1 j:=by
    cases q:iB s.c.aV a with
    |some j=>exact⟨j,rfl⟩
    |none=>unfold iG at hy;rw[q]at hy;cases hy
   rw[kL j hj]at hy;cases hy;obtain⟨vv,hvv⟩:∃vv,vv=(s.c.aV.getD j ⟨0,0⟩).v:=⟨_,rfl⟩
   have hvu:fJ vv:=by
    obtain⟨S,y,F,-⟩:=pJ hj;rw[hvv,z8,F];exact h.c.w.ru y (zh F)
   rw[<-hvv];refine⟨_,rfl,?_⟩;have w:=LY M ⟨B1 E,P7⟩;simp only[ae,bc,w,zT];refine⟨hgL,?_⟩;have fx:Fr (On E) K (K.set E lb):=(Fr.refl K).set (W:=On E) (.inl rfl) _;have gL:(K.set E lb).get E=B1 lb:=xg ..;have nL:(K.set E lb).au=K.au:=rfl;have oL:C E=0:=zi λ q=>hnL (w6 E hL6 q);have c7:dW (K.set E lb) C X.p X.f X.l X.sp X.cv rv u X.pv s.c s.o (X.k+n):=c6.fr fx (λ z _ q(r:z=E)=>q (by rw[r];exact oL)) (λ _ _=>rfl) (qm _);have gk:∀z c t,z<m.au->o4 z=0->m.get z=B1 (OR c t)->(K.set E lb).get z=B1 (OR c t):=λ z c t S F T=>by
    rw[jv (by omega),hf6.ai z S (λ r=>r.elim (λ r=>r.1 F) id)];exact T
   have m1:=vd (gk H.au _ _ (by omega) k1.2.1 (pS r1 g1)) 0;have m2:=Ex (gk H1.au _ _ (by omega) k2.2.1 (pS r2 g2));generalize K.set E lb=H7 at *;simp only[ae,bc,m1,m2];refine C3.q (Sj c7 hl e hu hvu) λ _ H8⟨o8,rv8,ov8,c8,a8,f8⟩=>?_;simp only[ae,bc];have n8:=f8.au;refine⟨rfl,by rw[f8.ai E (by omega) (λ q=>q oL)];exact gL,λ z=>z<H8.au/\(W z\/K.au<=z),λ z q=>q,?_,.inr ⟨trivial,rfl,j,hj,rv8,o8,ov8,by rw[<-hvv];exact c8,λ z q=>(a8 z (by omega)).trans (a6 z q),λ z S F=>⟨S,?_⟩,by omega⟩⟩
   .refine (fx.mono λ z _ q=>.inr q).trans f8 λ z q=>?_;rcases xw z K.au with r|r
    .exact .inl (.inl (w6 z r q))
    .exact .inr r
   .rcases xw z K.au with r|r
    .rw [a8 z (by omega)]at F;exact .inl (w6 z r F)
    .exact .inr r
  .rintro d W H' hd P hg hf hW ⟨hi,C,u,c6,a6,w6,le6⟩;have hz:iB s.c.aV a=none:=by
    cases q:iB s.c.aV a with
    |none=>rfl
    |some j=>rw[kL j q]at hi;cases hi
   have hlk:dk s.c.aV a=none:=by rw[JG,hz];rfl
   rw[hlk];simp only;have od:C d=0:=zi λ q=>(hW d (w6 d P q)).2.2 rfl;have h9:=A.HI (t:=s) rfl rfl c6 a6 (hf.mono λ z _ q=>q.elim (λ r=>r.1) NT) (qm _);have ld:B8 H' C X.B bs d:=⟨P,od,λ w=>by have:=A.b.low w;omega⟩
   have xd:X.H.au<=d:=by have:=h.fr.au;omega
   have bd:X.Hb.au<=d:=by have:=h.hn;omega
   have⟨t1,t2⟩:=tail h9;simp only[ae,bc,LY,t1];refine C3.q t2 λ v J⟨U,m1,m2,m3,m4⟩=>?_;subst U;cases b:(s.kF a).2 with
   |true =>
    rw[xb rfl];simp only[ae,bc,aB,m1,m2];refine C3.q m4 λ _ H5 hp=>?_;simp only[ae,bc];exact⟨(hp.2 d ld xd bd).1.trans hg,(hp.2 d ld xd bd).2⟩
   |false =>
    rw[qv (by decide)];simp only[ae,bc,aB];exact⟨(m3.2 d ld xd bd).1.trans hg,(m3.2 d ld xd bd).2⟩
  .rintro ex d W H' he hd P hg hf hW ⟨rfl,j,hj,x,C,u,c6,a6,w6,le6⟩;have hlk:dk s.c.aV a=B1 (s.c.aV.getD j ⟨0,0⟩).v:=by rw[JG,hj];rfl
   rw[hlk];simp only;have fd:Fr (On d) H' (H'.set d (.deferred B5)):=(Fr.refl H').set (W:=On d) (.inl rfl) _;have od:C d=0:=zi λ q=>(hW d (w6 d P q)).2.2 rfl;have c9:=c6.fr fd (λ z _ q(r:z=d)=>q (by rw[r];exact od)) (λ _ _=>rfl) (qm _);simp only[ae,bc];have fr9:Fr (λ z=>o4 z≠0) m (H'.set d (.deferred B5)):=(hf.mono λ z _ q=>q.elim (λ r=>r.1) NT).trans fd λ z(q:z=d)=>.inr (by omega);exact⟨hg,L.back ((A.co (t:=s.eV e (s.c.aV.getD j ⟨0,0⟩).v) rfl rfl ⟨C,x,u,c9,a6,fr9⟩ (qm _)).mono (by omega))⟩
 rw[qv q4];simp only;have⟨t1,t2⟩:=tail hr;simp only[ae,bc,LY,aB,<-e1,<-e2,l1,L.c.bq,ln,T,q4];refine C3.q t2 λ v J⟨U,m1,m2,m3,m4⟩=>?_;subst U;cases b:(s.kF a).2 with
 |true =>
  rw[xb rfl];simp only[ae,bc,aB,m1,m2];refine C3.q m4 λ _ H5 hp=>?_;simp only[ae,bc];exact hp.1
 |false =>
  rw[qv (by decide)];simp only[ae,bc,aB];exact m3.1
end
end Go.Am
namespace Go.Am
open Lang Go.Proofs
variable{M:ao}[MK M]
def BE:∀(b:List Pr)(x:Pr)(a:Int),iB (b ++ [x]) a=(iB b a).or (if x.a=a then B1 b.length else B5)
 |[],x,a=>by unfold iB;show(if x.a=a then B1 0 else(iB [] a).map _)=_;unfold iB;split<;>rfl
 |y::r,x,a=>by
  show(if y.a=a then B1 0 else(iB (r ++ [x]) a).map (·+1))=Option.or (if y.a=a then B1 0 else(iB r a).map (·+1)) _
  by_cases q:y.a=a
  .rw [xb q,xb q];rfl
  .rw [qv q,qv q,BE r x a];cases iB r a with
   |some i=>rfl
   |none=>simp only[Option.none_or,Option.map_none];split<;>rfl
def Eu:∀{b:List Pr}{i:Nat}{x:Pr}(v a:Int),b[i]? = B1 x->iB (b.set i ⟨x.a,v⟩) a=iB b a
 |y::r,0,x,v,a,h=>by cases h;rfl
 |y::r,i+1,x,v,a,h=>by
  show(if y.a=a then B1 0 else(iB (r.set i ⟨x.a,v⟩) a).map (·+1))=_;rw[Eu v a (show r[i]? = B1 x from h)];rfl
def tj.app{g:List Pr}(h:tj g){a v:Int}(hn:iB g a=B5):tj (g ++ [⟨a,v⟩]):=λ i x b=>by
 rw[BE];rcases xw i g.length with q|q
 .rw [jw q]at b;rw[h i x b];rfl
 .rw [zw q]at b;have e:i=g.length:=by
   have:=(qo.1 b).1;simp only[zr,yw]at this;omega
  subst e;rw[Nat.sub_self]at b;cases b;rw[hn,xb rfl];rfl
def tj.set{m:List Pr}(h:tj m){i:Nat}{x:Pr}(g:m[i]? = B1 x)(v:Int):tj (m.set i ⟨x.a,v⟩):=λ j y b=>by
 rw[Eu v _ g]
 by_cases q:j=i
 .subst q;rw[xx (by exact(qo.1 g).1)]at b;cases b;exact h j x g
 .rw [xy (λ e=>q e.symm)]at b;exact h j y b
section
variable{H H1 H':ar}{o o1:Nat->Nat}{p f l sp k k':Nat}{cv rv ov pv:AV}{c d:Co}{os os':List eF}
def dW.xV(h:dW H o p f l sp cv rv ov pv c os k){i:Nat}{x:Pr}(A:c.aV[i]? = B1 x){v:Int}(B:fJ v):∃H',Op.store 1 [.ptr (aD rv) (cM 2 rv i+1),.int .u64 v] H=B1 (.undef,H')/\ia H o p f l sp cv pv {c with aV:=c.aV.set i ⟨x.a,v⟩} os k H':=by
 have⟨H1,s1,r,b⟩:=aL.Au BF h.rd A (j:=1) (by decide) (u:=.int .u64 v) rfl (y:=⟨x.a,v⟩) rfl;have⟨g,fv,hs⟩:=h.so;have m:∀z,o z≠5 -> ¬aM rv z:=λ z q w=>q (h.qI z w);refine⟨H1,s1,o,rv,ov,⟨h.row.fr b (m p (by rw[h.op];decide)),h.fi.fr b h.of (λ z q e=>m z (by omega)) λ _ _=>rfl,h.la.fr b (m l (by rw[h.ol];decide)),⟨g,fv,hs.fr b (λ z q e=>m z (by omega)) λ _ _=>rfl⟩,Iq h.cd b λ e=>m _ (by rw[(h.mG e).2];decide),r,Own.fr h.ou b λ z q=>m z (by rw[h.pG z q];decide),h.op,h.of,h.ol,h.qI,h.pG,λ e=>⟨qn (h.mG e).1 b.au,(h.mG e).2⟩,h.FJ,{h.w with ru:=λ y w=>(FU w).elim (h.w.ru y) λ w=>by rw[w];exact B,rl:=by show(c.aV.set i _).length<=k;rw[xq];exact h.w.rl,LC:=h.w.LC.set A v}⟩,λ _ _=>rfl,b.mono λ z _ q=>by rw[h.qI z q];decide⟩
def dW.Cu(h:dW H o p f l sp cv rv ov pv c os k)(hk:k<=100000){a:Int}(hn:iB c.aV a=B5){K:bF->(Nat->AV)->Bool->AV->ar->Prop}{m:Bool}
 (G:∀i j r,Op.store 1 [.ptr p 13,i] j=B1 (.undef,r)->(∃o',dW r o' p f l sp cv i ov pv {c with aV:=c.aV ++ [⟨a,0⟩]} os (k+1)/\(∀z,z<H.au->o' z=o z)/\Fr (λ z=>o z=5\/o z=1) H r)->K (.row (AV.cells (.agg (cG ⟨a,0⟩))) wx (0,0) B4) (Op.sliceTo 1 1) m i j) :
 jN m (Op.buildSlice wx 1 [.int .i64 0,.int .u64 0] [(0,2)] [.agg (cG ⟨a,0⟩)]) λ g o mk=>jN g (Op.append wx 2 16 [rv,mk H.au] (H.alloc o)) (K o mk):=by
 have rl:=h.w.rl;refine aL.mO (bytes:=16) h.rd (x:=.agg (cG ⟨a,0⟩)) (a:=⟨a,0⟩) rfl rfl rfl rfl (by decide) (by omega) (by omega) λ i j C v I=>?_;have one:aA i=true:=Sl.one (Own.sl C);have J:=λ z(q:aM rv z)=>Own.lt h.rd z q;have ho:∀z,z<H.au->aP o H.au 5 z=o z:=λ z q=>iZ q;have B:∀z,o z≠5 -> ¬aM rv z:=λ z q w=>q (h.qI z w);have⟨g,fv,hs⟩:=h.so;have lr:=λ z(q:aM ov z)=>Own.lt h.ou z q;have D:At j p Gv _:=h.row.fr v (B p (by rw[h.op];decide));have st:=D.st 13 one (by simp[cE]);have E:(cE c f l sp cv rv ov pv).set 13 i=cE {c with aV:=c.aV ++ [⟨a,0⟩]} f l sp cv i ov pv:=rfl;rw[E]at st;obtain⟨r,u⟩:∃X,X=j.set p (OR (cE {c with aV:=c.aV ++ [⟨a,0⟩]} f l sp cv i ov pv) Gv):=⟨_,rfl⟩
 rw[<-u]at st;have A:Fr (On p) j r:=u▸cm ..;have b:Fr (λ z=>aM rv z\/z=p) H r:=(v.mono λ z _ q=>.inl q).trans A λ z q=>.inl (.inr q);have nw:∀z,o z≠5->o z≠1 -> ¬(aM rv z\/z=p):=λ z F e1 w=>w.elim (B z F) λ w=>e1 (by rw[w];exact h.op);have no:∀z,aM i z->aP o H.au 5 z=5:=λ z q=>(I z q).elim (λ w=>(ho z (J z w)).trans (h.qI z w)) λ w=>nj w;refine G i j r st ⟨aP o H.au 5,⟨u▸D.set _,h.fi.fr b h.of (λ z q e=>nw z (by omega) (by omega)) ho,h.la.fr b (nw l (by rw[h.ol];decide) (by rw[h.ol];decide)),⟨g,fv,hs.fr b (λ z q e=>nw z (by omega) (by omega)) ho⟩,Iq h.cd b λ e=>nw _ (by rw[(h.mG e).2];decide) (by rw[(h.mG e).2];decide),Own.fr C A λ z q(w:z=p)=>?_,Own.fr h.ou b λ z q=>nw z (by rw[h.pG z q];decide) (by rw[h.pG z q];decide),
  (ho p h.row.2).trans h.op,(ho f (by obtain⟨pv,q,-⟩:=h.fi.at';exact q.2)).trans h.of,(ho l h.la.at'.2).trans h.ol,no,λ z q=>(ho z (lr z q)).trans (h.pG z q),λ e=>⟨qn (h.mG e).1 b.au,(ho _ (h.mG e).1).trans (h.mG e).2⟩,h.FJ,{h.w with ru:=λ y w=>(zt.1 w).elim (h.w.ru y) λ w=>by rw[jz.1 w];exact bK,rl:=by show(c.aV ++ [_]).length<=k+1;rw[xc];simp only[zr,yw];omega,LC:=h.w.LC.app hn}⟩,ho,b.mono λ z _ q=>q.imp (h.qI z) λ q=>by rw[q];exact h.op⟩
 have:=no z q;rw[w,ho p h.row.2,h.op]at this;omega
end
section
variable{X:SX}{n n':Nat}{s t:CS}{H H':ar}{o:Nat->Nat}{rv ov:AV}{bs:Bs}{own:Nat->Nat}{V:Int->L8}
def dP.tag(h:dP X n s H o rv ov bs own V)(f:Fr Em H H')(t:Nat):dP X n s H' (aP o H.au t) rv ov bs own V:=by
 have ho:∀z,z<H.au->aP o H.au t z=o z:=λ z q=>iZ q;have hn:=h.hn;have a:=h.fr.au;refine{h with c:=h.c.fr f (λ _ _ _ q=>q) ho (qm _),b:=h.b.em f,dj:=λ z q=>(ho z (h.b.low q)).trans (h.dj z q),hb:=λ z q e=>?_,go:=λ z q e=>?_,fr:=h.fr.em f}
 .rcases xw z H.au with w|w
  .rw [ho z w]at e;exact h.hb z w e
  .omega
 .rcases xw z H.au with w|w
  .rw [ho z w]at e;exact h.go z w e
  .exact .inr (by omega)
def xgj(h:dP X n s H o rv ov bs own V)(hk:X.k+n<=90000)(hl:s.o.length<=1000)(e:oK)(hu:fJ e.addr)(hv:fJ e.value)(a:Int):zj M Rm [.ptr X.p 0,.agg (bn e),.int .i64 a] H λ _ H'=>lJ X (n+1) (s.iJ e a) H':=by
 refine qvv ?_;have⟨H1,e1,f1,n1,P⟩:=cI H (OR (bn e) jr);have⟨o1,A,lo⟩:=h.loc f1;have R:=(lo H.au).1 ⟨qm _,by omega⟩;have hr:=A.re;have ln:=iP (M:=M) A.c.la;have l3:=vd P 3;have l5:=Ex P;have l3:Op.ah [.ptr H.au 3] H1=B1 (.int .u64 e.value):=l3;unfold CS.iJ
 by_cases q3:s.c.la.lane=3
 .rw [xb q3];have q0:¬s.c.la.lane=0:=by omega
  simp only;simp only[ae,bc,vp,aB,<-e1,l3,A.c.bq,ln,q0,xf q3];have⟨g,fv,hs⟩:=A.c.so;refine C3.q (xf1 hs a hv) λ _ F hp=>?_;have⟨o3,rv3,ov3,bs3,own3,V3,E⟩:=hr.co (t:=s.so (·.store a e.value)) rfl rfl (A.c.Oo hp) (qm _);have⟨lo1',r1⟩:=E.lo R;have c3:dW F o3 X.p X.f X.l X.sp X.cv rv3 ov3 X.pv (s.so (·.store a e.value)).c s.o (X.k+n):=E.c;have⟨g3,fv3,hs3⟩:=c3.so;have m2:=Ex (pS r1 P);cases b:(s.so (·.store a e.value)).c.so.busy with
  |true =>
   rw[xb rfl];have⟨H4,s4,I⟩:=E.want e hu;have s4:Op.store 5 [.ptr X.p 7,.agg (bn e)] F=B1 (.undef,H4):=s4;have⟨H5,s5,h5⟩:=I.put 6 (v:=.int .i64 6) {(s.so (·.store a e.value)).c with want:=e,ph:=6} rfl (by decide) rfl ⟨rfl,rfl,rfl,rfl⟩ ⟨rfl,rfl⟩ {I.c.w with};have s5:Op.store 1 [.ptr X.p 6,.int .i64 6] H4=B1 (.undef,H5):=s5;simp only[ae,bc,vp,aB,c3.bq,ig hs3,b,m2,s4,s5];exact A.back (h5.eD (by omega))
  |false =>
   rw[qv (by decide)];simp only[ae,bc,vp,aB,c3.bq,ig hs3,b,m2];refine C3.q (Sf (s:=s.so (·.store a e.value)) c3 hl 3 e a) λ _ H4 hp=>?_;simp only[ae,bc];exact A.back ((E.co (t:=(s.so (·.store a e.value)).stored 3 e a) rfl rfl hp (qm _)).mono (by omega))
 rw[qv q3]
 by_cases q4:s.c.la.lane=4
 .rw [xb q4];have q0:¬s.c.la.lane=0:=by omega
  have lr:=(aL.sl A.c.rd).len;have rl0:=A.c.w.rl;obtain⟨U,e2⟩:∃Z,Z=(H1.alloc (OR [.int .i64 0] bY)).set H1.au (OR [.int .i64 ((s.c.aV.length:Nat):Int)] bY):=⟨_,rfl⟩
  have s2:Op.store 1 [.ptr H1.au 0,.int .i64 ((s.c.aV.length:Nat):Int)] (H1.alloc (OR [.int .i64 0] bY))=B1 (.undef,U):=by rw[e2];exact(At.new H1 _ _).st 0 rfl (by simp)
  have f2:Fr Em H1 U:=e2▸((Fr.refl H1).alloc _).set (.inr (qm _)) _;have n2:U.au=H.au+2:=by rw[e2,oO,xz,n1]
  have g2:U.get H1.au=B1 (OR [.int .i64 ((s.c.aV.length:Nat):Int)] bY):=by rw[e2,xg]
  have h2:=hr.tag f2 4;have t2:aP o1 H1.au 4 H1.au=4:=nj (qm _);simp only[ae,bc,vp,aB,<-e1,A.c.bq,ln,q0,q3,xf q4,lr,s2];refine C3.q (u' X.p a) λ v m⟨hv',hh⟩=>?_;obtain⟨F,e3,f23,-,-⟩:=cI U (OR [.ptr X.p 0] AE);obtain⟨H4,e4⟩:∃Z,Z=F.alloc (OR [.int .i64 a] bY):=⟨_,rfl⟩
  rw[<-e3]at hv' hh;rw[<-e4]at hh;subst hv';subst hh;have f34:Fr Em F m:=e4▸(Fr.refl F).alloc _;have n3:F.au=H.au+3:=by rw[e3,xz,n2]
  have n4:m.au=H.au+4:=by rw[e4,xz,n3]
  have g3:m.get U.au=B1 (OR [.ptr X.p 0] AE):=by rw[f34.ai _ (by omega) id,e3,xr]
  have g4:m.get F.au=B1 (OR [.int .i64 a] bY):=by rw[e4,xr]
  have g2':m.get H1.au=B1 (OR [.int .i64 ((s.c.aV.length:Nat):Int)] bY):=by rw[f34.ai _ (by omega) id,f23.ai _ (by omega) id];exact g2
  have I:=h2.tag (f23.em f34) 0;obtain⟨S,Q⟩:∃S,S=aP (aP o1 H1.au 4) U.au 0:=⟨_,rfl⟩
  rw[<-Q]at I;have t4:S H1.au=4:=by rw[Q,iZ (by omega)];exact t2
  have k3:S U.au=0:=by rw[Q];exact nj (qm _)
  have k4:S F.au=0:=by rw[Q];exact nj (by omega)
  have c4:dW m S X.p X.f X.l X.sp X.cv rv ov X.pv s.c s.o (X.k+n):=I.c;have kL:∀i,iB s.c.aV a=B1 i->(iG s.c.aV a)=[[.int .i64 (i:Int),.int .u64 (s.c.aV.getD i ⟨0,0⟩).v]]:=λ i q=>by unfold iG;rw[q]
  obtain⟨vl,hvl⟩:∃vl:Nat->Nat,vl=λ i=>if i=0 then s.c.aV.length else(iB s.c.aV a).getD 0:=⟨_,rfl⟩
  have vl0:vl 0=s.c.aV.length:=by rw[hvl];rfl
  simp only[ae,bc];refine iA.u5 (fn:=Tl) (lp:=QM) (pa:=VC 0) (pb:=Yt 0) qty qkg.1 qkg.2 (by decide) qsk qsl
   (q8e (rv:=rv) g3 g4 (by omega) (by omega) c4.w.LC (by omega)) (λ i W Hx=>MB m S X.p X.f X.l X.sp X.cv rv X.pv s.c s.o (X.k+n) W Hx/\W H1.au/\Hx.get H1.au=B1 (OR [.int .i64 ((vl i:Nat):Int)] bY))
   (λ ex W Hx=>False)
   (λ z=>S z≠0/\z<m.au) (qm _) ?_ ?_ ?_ ?_ ?_ ?_ ?_ ?_ ?_
  .rintro z ((q|q)|q)
   .exact ⟨by omega,rfl,λ w=>w.1 (by rw[q];exact k3)⟩
   .exact ⟨by omega,rfl,λ w=>w.1 (by rw[q];exact k4)⟩
   .exact q.elim
  .exact λ z hz=>hz.2
  .exact ⟨⟨S,ov,c4,λ _ _=>rfl,λ z w q=>⟨q,w⟩,qm _⟩,⟨by rw[t4];decide,by omega⟩,by rw[vl0];exact g2'⟩
  .exact λ i W Ha Hb⟨q1,q2,q3⟩hs hn=>⟨q1.loc hs hn,q2,by rw[hs _ q2];exact q3⟩
  .exact λ i W Ha Hb q hs hn=>q
  .exact λ i W Hx⟨⟨L,T,q2,_⟩,_⟩=>⟨q2.row.ld 13,aL.sl q2.rd⟩
  .intro C i lr lb y hy hL2 W N ⟨⟨L,T,Y,a6,w6,le6⟩,wt,gt⟩ hb hf6 hnL hL6 hgL;obtain⟨j,K⟩:∃j,iB s.c.aV a=B1 j:=by
    cases q:iB s.c.aV a with
    |some j=>exact⟨j,rfl⟩
    |none=>unfold iG at hy;rw[q]at hy;cases hy
   have hv1:vl (i+1)=j:=by rw[hvl];simp only;rw[qv (by omega),K];rfl
   rw[kL j K]at hy;have hi:i=0:=by
    have:=(qo.1 hy).1;simp only[zr,yw]at this;omega
   subst hi;cases hy;refine⟨_,rfl,?_⟩;have w:=vp M ⟨B1 C,Rm⟩;simp only[ae,bc,w,zT];refine⟨hgL,?_⟩;have fx:Fr (On C) N (N.set C lb):=(Fr.refl N).set (W:=On C) (.inl rfl) _;have gL:(N.set C lb).get C=B1 lb:=xg ..;have nL:(N.set C lb).au=N.au:=rfl;have oL:L C=0:=zi λ q=>hnL (w6 C hL6 q);have ot:L H1.au=4:=(a6 _ (by omega)).trans t4;have nt:H1.au≠C:=by omega
   have c7:dW (N.set C lb) L X.p X.f X.l X.sp X.cv rv T X.pv s.c s.o (X.k+n):=Y.fr fx (λ z _ q(r:z=C)=>q (by rw[r];exact oL)) (λ _ _=>rfl) (qm _);have a7:At (N.set C lb) H1.au bY [.int .i64 ((vl 0:Nat):Int)]:=⟨by rw[jv nt.symm];exact gt,by rw[nL];omega⟩
   generalize N.set C lb=H7 at *;have s7:=a7.st 0 (v:=.int .i64 (j:Int)) rfl (by simp);have a8:=a7.set [.int .i64 (j:Int)];have f8:Fr (On H1.au) H7 (H7.set H1.au (OR [.int .i64 (j:Int)] bY)):=cm ..;simp only[ae,bc,s7,List.set];refine⟨rfl,by rw[f8.ai C (by omega) λ q:C=H1.au=>nt q.symm];exact gL,W,λ z q=>⟨by have:=(hb z q).1;rw[oO,nL];exact this,.inl q⟩,?_,.inl ⟨rfl,⟨L,T,c7.fr4 f8 (λ z _ q r(u:z=H1.au)=>r (by rw[u];exact ot)) (λ _ _=>rfl) (qm _),a6,λ z q1 q2=>w6 z (by rw[oO,nL]at q1;exact q1) q2,by rw[oO,nL];exact le6⟩,wt,by rw[hv1];exact a8.1⟩⟩;exact(fx.mono λ z _ q=>.inr q).trans f8 λ z(q:z=H1.au)=>.inl (.inl (by rw[q];exact wt))
  .rintro d W H' hd hd2 hg hf hW ⟨⟨L,T,Y,a6,w6,le6⟩,wt,gt⟩;have od:L d=0:=zi λ q=>(hW d (w6 d hd2 q)).2.2 rfl;have h9:=I.HI (t:=s) rfl rfl Y a6 (hf.mono λ z _ q=>q.elim (λ r=>r.1) NT) (qm _);have h9r:=h9.re;have ld:B8 H' L X.B bs d:=⟨hd2,od,λ w=>by have:=I.b.low w;omega⟩
   have lb:B8 H' L X.B bs H.au/\H'.get H.au=H1.get H.au:=h9.lo R;have xd:X.H.au<=d:=by have:=h.fr.au;omega
   have bd:X.Hb.au<=d:=by have:=h.hn;omega
   have fin:∀{t:CS}{Z:ar}{oz:Nat->Nat}{rvz ovz:AV}{bsz:Bs}{ownz:Nat->Nat}{Vz:Int->L8},dP ((X.at H1 o1 bs).at H' L bs) (n+1) t Z oz rvz ovz bsz ownz Vz->Z.get d=B1 (.deferred (B1 []))/\lJ X (n+1) t (Z.set d (.deferred B5)):=λ hz =>
    ⟨(hz.lo ld).2.trans hg,((A.ta (h9.ta hz)).qE (hz.lo ld).1 xd bd _).here⟩
   have lt:=vd gt 0;have l3':=vd (pS lb.2 P) 3;have l3':Op.ah [.ptr H.au 3] H'=B1 (.int .u64 e.value):=l3';have e12:(X.k+n)+1=X.k+(n+1):=by omega
   cases K:iB s.c.aV a with
   |none =>
    have hL:(iG s.c.aV a).length=0:=by unfold iG;rw[K];rfl
    have lt:Op.ah [.ptr H1.au 0] H'=B1 (.int .i64 ((s.c.aV.length:Nat):Int)):=by rw[lt,hL,vl0];rfl
    have bp:Op.build [.int .i64 0,.int .u64 0] [(0,1)] [.int .i64 a]=B1 (.agg (cG ⟨a,0⟩)):=rfl;simp only[ae,bc,vp,aB,lt,Y.bq,lr,bp];refine Y.Cu (by omega) K λ v' H10 H11 st'⟨o11,c11,a11,O⟩=>?_;have lt11:Op.ah [.ptr H1.au 0] H11=B1 (.int .i64 ((s.c.aV.length:Nat):Int)):=by
     rw[<-lt];exact(vd (pS (O.ai _ (by omega) λ q=>by rw[(a6 _ (by omega)).trans t4]at q;omega) gt) 0).trans (vd gt 0).symm
    have l311:Op.ah [.ptr H.au 3] H11=B1 (.int .u64 e.value):=vd (pS (O.ai _ lb.1.1 λ q=>by rw[lb.1.2.1]at q;omega) (pS lb.2 P)) 3;have hx:(s.c.aV ++ [(⟨a,0⟩:Pr)])[s.c.aV.length]? = B1 ⟨a,0⟩:=by rw[zw (qm _),Nat.sub_self];rfl
    have ix:=(aL.sl c11.rd).idx hx (z:=((s.c.aV.length:Nat):Int)) rfl .i64;have⟨H12,s12,o12,rv12,ov12,G,a12,f12⟩:=c11.xV hx hv;have er:(s.c.aV ++ [(⟨a,0⟩:Pr)]).set s.c.aV.length ⟨a,e.value⟩=fN s.c.aV a e.value:=by rw[TG K,Og _ _ (qm _),Nat.sub_self];rfl
    rw[er]at G;have D:=h9r.HI (n':=n+1) (t:={s with c:={s.c with aV:=fN s.c.aV a e.value}}) rfl rfl (G.fr (Fr.refl _) (λ _ _ _ w=>w) (λ _ _=>rfl) (show X.k+n+1<=X.k+(n+1)by omega)) (λ z q=>(a12 z (qn q O.au)).trans (a11 z q)) ((O.mono λ z _ q=>by omega).trans f12 λ z q=>by
     rcases xw z H'.au with w|w
     .exact .inl (by rw[<-a11 z w];exact q)
     .exact .inr w) (by omega)
    have J:=Ex (pS (D.lo lb.1).2 (pS lb.2 P));simp only[ae,bc,vp,aB,st',c11.bq,lt11,l311,ix,s12,J];refine C3.q (Sf (s:={s with c:={s.c with aV:=fN s.c.aV a e.value}}) D.c hl 3 e a) λ _ H13⟨o13,rv13,ov13,c13,a13,f13⟩=>?_;simp only[ae,bc];exact fin (D.HI (t:=({s with c:={s.c with aV:=fN s.c.aV a e.value}}:CS).stored 3 e a) rfl rfl c13 a13 f13 (qm _))
   |some j =>
    have hL:(iG s.c.aV a).length=1:=by rw[kL j K];rfl
    have hv1:vl 1=j:=by rw[hvl];simp only;rw[qv (by omega),K];rfl
    have lt:Op.ah [.ptr H1.au 0] H'=B1 (.int .i64 (j:Int)):=by rw[lt,hL,hv1];rfl
    have⟨jl,x,hx,xa⟩:=pJ K;have jn:¬(j:Int)=((s.c.aV.length:Nat):Int):=by omega
    have ix:=(aL.sl Y.rd).idx hx (z:=(j:Int)) rfl .i64;have⟨H12,s12,o12,rv12,ov12,G,a12,f12⟩:=Y.xV hx hv;have er:s.c.aV.set j ⟨x.a,e.value⟩=fN s.c.aV a e.value:=by rw[Uu K,xa]
    rw[er]at G;have D:=h9r.HI (n':=n) (t:={s with c:={s.c with aV:=fN s.c.aV a e.value}}) rfl rfl G a12 f12 (qm _);have J:=Ex (pS (D.lo lb.1).2 (pS lb.2 P));simp only[ae,bc,vp,aB,lt,Y.bq,lr,jn,l3',ix,s12,J];refine C3.q (Sf (s:={s with c:={s.c with aV:=fN s.c.aV a e.value}}) D.c hl 3 e a) λ _ H13⟨o13,rv13,ov13,c13,a13,f13⟩=>?_;simp only[ae,bc];exact fin (D.HI (n':=n+1) (t:=({s with c:={s.c with aV:=fN s.c.aV a e.value}}:CS).stored 3 e a) rfl rfl (c13.fr (Fr.refl _) (λ _ _ _ w=>w) (λ _ _=>rfl) (show X.k+n<=X.k+(n+1)by omega)) a13 f13 (by omega))
  .exact λ e d W H' he hd hd2 hg hf hW q=>q.elim
 rw[qv q4];have st:=Ro (M:=M) hr hk a hv
 by_cases q0:s.c.la.lane=0
 .rw [xb q0];simp only[ae,bc,vp,aB,<-e1,l3,A.c.bq,ln,xf q0];refine C3.q st λ w F⟨hw,o3,rv3,ov3,bs3,own3,V3,E⟩=>?_;subst hw;cases b:s.vN a e.value with
  |true =>
   rw[xb rfl];have m2:=Ex (pS (E.lo R).2 P);simp only[ae,bc,m2];refine C3.q (Sf (s:=s.st a e.value) E.c hl 8 e a) λ _ H4 hp=>?_;simp only[ae,bc];exact A.back (E.co (t:=(s.st a e.value).stored 8 e a) rfl rfl hp (qm _))
  |false =>
   rw[qv (by decide)];simp only[ae,bc];exact A.back E.here
 .simp only[ae,bc,vp,aB,<-e1,l3,A.c.bq,ln,q0,q3,q4];refine C3.q st λ w F⟨hw,o3,rv3,ov3,bs3,own3,V3,E⟩=>?_;subst hw;cases b:s.vN a e.value with
  |true =>
   rw[xb rfl];have⟨H4,s4,I⟩:=E.put 15 (v:=.bool B4) {s.c with wrote:=B4} rfl (by decide) rfl ⟨rfl,rfl,rfl,rfl⟩ ⟨rfl,rfl⟩ {E.c.w with};have s4:Op.store 1 [.ptr X.p 15,.bool B4] F=B1 (.undef,H4):=s4;have m2:=Ex (pS (I.lo R).2 P);simp only[ae,bc,aB,s4,m2];refine C3.q (Sf (s:={s.st a e.value with c:={s.c with wrote:=B4}}) I.c hl 3 e a) λ _ H5 hp=>?_;simp only[ae,bc];exact A.back (I.co (t:=({s.st a e.value with c:={s.c with wrote:=B4}}:CS).stored 3 e a) rfl rfl hp (qm _))
  |false =>
   rw[qv (by decide)];simp only[ae,bc];exact A.back E.here
end
end Go.Am
namespace Go.Am
open Lang Go.Proofs
variable{M:ao}[MK M]
section
variable{X:SX}{n n':Nat}{s t:CS}{H H':ar}{o:Nat->Nat}{rv ov:AV}{bs:Bs}{own:Nat->Nat}{V:Int->L8}
def IW(h:dP X n s H o rv ov bs own V)(hk:X.k+n<=90000)(hl:s.o.length<=1000):zj M _Y [.ptr X.p 0] H λ _ H'=>lJ X (n+1) s.aN H':=by
 refine qxe ?_;have lr:=(aL.sl h.c.rd).len;have d0:=h.c.w.d0;have rl:=h.c.w.rl;unfold CS.aN;rw[xb d0]
 by_cases q:s.c.done<((s.c.aV.length:Nat):Int)
 .obtain ⟨x,e⟩:∃x,s.c.aV[s.c.done.toNat]? = B1 x:=⟨_,qy (by omega)⟩
  rw[e];have ix:=(aL.sl h.c.rd).idx e (z:=s.c.done) (KC d0).symm .i64;have ld:Op.aw 2 [NR rv s.c.done.toNat] H=B1 (.agg (cG x)):=(aL.sl h.c.rd).aw BF (by decide) e;have bx:=Su (H1:=H) x;obtain⟨H1,e1⟩:∃Z,Z=(H.alloc (OR [.int .i64 0,.int .u64 0] wx)).set H.au (OR (cG x) wx):=⟨_,rfl⟩
  rw[<-e1]at bx;have A:Fr Em H H1:=by rw[e1];exact yB _ _
  have r:H1.get H.au=B1 (OR (cG x) wx):=by rw[e1,xg]
  have l0:Op.ah [.ptr H.au 0] H1=B1 (.int .i64 x.a):=vd r 0;have l1:Op.ah [.ptr H.au 1] H1=B1 (.int .u64 x.v):=vd r 1;obtain⟨o1,B,-⟩:=h.loc A;simp only[ae,bc,SL,aB,h.c.bq,lr,xf q,ix,show∀i,Op.aw 2 [AV.ptr (aD rv) (cM 2 rv i)] H=Op.aw 2 [NR rv i] H from λ _=>rfl,ld,bx,l0,l1];refine C3.q (Ro B hk x.a (h.c.w.ru x (zh e))) λ w m⟨hw,o2,l,j,g,f,y,d⟩=>?_;subst hw;cases b:s.vN x.a x.v with
  |true =>
   rw[xb rfl];have wd:ak .i64 (s.c.done+1)=s.c.done+1:=ju (by omega) (by omega);have⟨u,D,C⟩:=d.put 14 (v:=.int .i64 (ak .i64 (s.c.done+1))) {s.c with done:=ak .i64 (s.c.done+1)} rfl (by decide) rfl ⟨rfl,rfl,rfl,rfl⟩ ⟨rfl,rfl⟩ {d.c.w with d0:=by show 0<=ak .i64 (s.c.done+1);rw[wd];omega};have vP:Op.ah [.ptr X.p 14] m=B1 (.int .i64 s.c.done):=d.c.row.ld 14;simp only[ae,bc,SL,aB,vP,D];exact C.here
  |false =>
   rw[qv (by decide)];simp only[ae,bc,SL];exact d.here
 .have e:s.c.aV[s.c.done.toNat]? = none:=z4 (by omega);rw[e];unfold CS.gq;simp only;simp only[ae,bc,SL,aB,h.c.bq,lr,q];refine C3.q (Ro h hk 0 (FN _)) λ w m⟨hw,o2,l,j,g,f,y,d⟩=>?_;subst hw;cases b:s.vN 0 (ak .u64 (s.c.seq+2))with
  |true =>
   rw[xb rfl];simp only[ae,bc];refine C3.q (Rg (s:=s.st 0 (ak .u64 (s.c.seq+2))) d.c hl) λ _ u hp=>?_;simp only[ae,bc];exact d.co (t:=(s.st 0 (ak .u64 (s.c.seq+2))).bH) (Qz _) (RV _) hp (qm _)
  |false =>
   rw[qv (by decide)];simp only[ae,bc];exact d.here
def CS.mX(s:CS)(v:Int)(taken:Bool):CS :=
 let t:CS:={s with c:={s.c with so:=s.c.so.eX v taken}}
 let u:=if s.c.so.aF=B4/\t.c.so.aF=B2 then t.av else t
 let w:=if s.c.so.points<u.c.so.points then u.tell 4 0 0 0 else u
 if w.c.so.busy=B4 then w else w.eW
def Y7(s:CS)(v:Int)(tk:Bool):s.given v tk=CS.mX {s with c:={s.c with held:=s.c.held ||tk && decide (s.c.so.want.a=0)}} v tk:=rfl
def Nm(h:dP X n s H o rv ov bs own V)(hl:s.o.length<=1000):zj M Ξ [.ptr X.p 0] H λ _ H'=>lJ X n s.eW H':=by
 refine qvp ?_;unfold CS.eW;have⟨g,fv,hs⟩:=h.c.so
 by_cases a:s.c.so.ended=2
 .rw [xb a];simp only[ae,bc,RX,aB,h.c.bq,qY hs,xf a];refine C3.q (J' h.c hl 8) λ _ H1 hp=>?_;simp only[ae,bc];exact h.co (t:=s.abort 8) rfl rfl hp (qm _)
 rw[qv a]
 by_cases d:s.c.want.kind=5
 .rw [xb d];have⟨j,k,b⟩:=h.put 6 (v:=.int .i64 0) {s.c with ph:=0} rfl (by decide) rfl ⟨rfl,rfl,rfl,rfl⟩ ⟨rfl,rfl⟩ {h.c.w with};simp only[ae,bc,RX,aB,h.c.bq,qY hs,a,xf d,k];exact b.here
 rw[qv d]
 by_cases f:s.c.want.kind=3
 .rw [xb f];have⟨j,k,b⟩:=h.put 6 (v:=.int .i64 0) {s.c with ph:=0} rfl (by decide) rfl ⟨rfl,rfl,rfl,rfl⟩ ⟨rfl,rfl⟩ {h.c.w with};have⟨r,l,e⟩:=b.c.so;simp only[ae,bc,RX,aB,h.c.bq,qY hs,a,d,xf f,k,b.c.bq,Fa e];refine C3.q (Sj (s:=s.ph 0) b.c hl s.c.want h.c.w.wu e.vu) λ _ m hp=>?_;simp only[ae,bc];exact b.co (t:=(s.ph 0).eV s.c.want s.c.so.value) rfl rfl hp (qm _)
 rw[qv f]
 by_cases i:s.c.want.kind=6
 .rw [xb i];simp only[ae,bc,RX,aB,h.c.bq,qY hs,a,d,f,xf i];refine C3.q (Rg h.c hl) λ _ j hp=>?_;simp only[ae,bc];exact h.co (t:=s.bH) (Qz _) (RV _) hp (qm _)
 rw[qv i];simp only[ae,bc,RX,aB,h.c.bq,qY hs,a,d,f,i];refine C3.q (U7 h.c hl) λ _ j hp=>?_;simp only[ae,bc];exact h.co (t:=s.breaks) rfl rfl hp (qm _)
def Gp(h:dP X n s H o rv ov bs own V)(hk:X.k+n<=90000)(hl:s.o.length<=990):zj M M8 [.ptr X.p 0] H λ _ H'=>lJ X (n+1) s.nP H':=by
 refine qxf ?_;unfold CS.nP;simp only;have⟨g,fv,hs⟩:=h.c.so;simp only[ae,bc,zm,aB,h.c.bq];refine C3.q (R7 hs) λ w H1⟨⟨qb,hw⟩,f1⟩=>?_;subst hw;obtain⟨B,e2⟩:∃Z,Z=(H1.alloc (OR (iW ⟨0,0,0,0⟩) Di)).set H1.au (OR (iW s.c.so.want) Di):=⟨_,rfl⟩
 have s2:Op.store 4 [.ptr H1.au 0,.agg (iW s.c.so.want)] (H1.alloc (OR (iW ⟨0,0,0,0⟩) Di))=B1 (.undef,B):=by
  have:=(At.new H1 (iW ⟨0,0,0,0⟩) Di).ij (k:=0) (n:=4) (v:=.agg (iW s.c.so.want)) rfl (by simp[iW]) rfl;rw[e2];exact this
 have f2:Fr Em H1 B:=e2▸((Fr.refl H1).alloc _).set (.inr (qm _)) _;have n1:=f1.au;have n2:B.au=H1.au+1:=by rw[e2,oO,xz]
 have g2:B.get H1.au=B1 (OR (iW s.c.so.want) Di):=by rw[e2,xg]
 have k0:Op.ah [.ptr H1.au 0] B=B1 (.int .i64 s.c.so.want.op):=vd g2 0;have k1:Op.ah [.ptr H1.au 1] B=B1 (.int .i64 s.c.so.want.a):=vd g2 1;have k2:Op.ah [.ptr H1.au 2] B=B1 (.int .u64 s.c.so.want.v):=vd g2 2;have k3:Op.ah [.ptr H1.au 3] B=B1 (.int .u64 s.c.so.want.o):=vd g2 3;have⟨o2,u,lo⟩:=h.loc (f1.em f2);have lo1:=(lo H1.au).1 ⟨n1,by omega⟩;have hr:=u.re;have rest2:∀{H4:ar}{o4:Nat->Nat}{rv4 ov4:AV}{bs4:Bs}{own4:Nat->Nat}{V4:Int->L8}{d:CS}{v:Int}{tk:Bool},fJ v->dP (X.at B o2 bs) (n+1) d H4 o4 rv4 ov4 bs4 own4 V4->d.o.length<=990 -> ∀{E:Env}{Q:aJ},lk E 0=B1 (.ptr X.p 0)->lk E 4=B1 (.int .u64 v)->lk E 5=B1 (.bool tk)->lk E 7=B1 (.int .i64 d.c.so.points)->lk E 8=B1 (.bool d.c.so.aF)->(∀ex E D H',(ex=.normal\/ex=.ret)->D=[]->lJ X (n+1) (d.mX v tk) H'->Q ex E D H')->W M ⟨B5,M8⟩ (IK M8 36) B4 Q E [] H4:=λ{H4 o4 rv4 ov4 bs4 own4 V4 d v tk}hu h4 hl{E Q}j E4 Y E7 E8 x=>by
  have⟨g4,fv4,r⟩:=h4.c.so;have c4:dW H4 o4 X.p X.f X.l X.sp X.cv rv4 ov4 X.pv d.c d.o (X.k+(n+1)):=h4.c;simp only[ae,bc,zm,aB,j,E4,Y,c4.bq];refine C3.q (Py r hu) λ _ H5 hp=>?_;have⟨o5,rv5,ov5,bs5,own5,V5,h5⟩:=h4.co (t:={d with c:={d.c with so:=d.c.so.eX v tk}}) rfl rfl (h4.c.Oo hp) (qm _);obtain⟨e,F⟩:∃e:CS,e = {d with c:={d.c with so:=d.c.so.eX v tk}}:=⟨_,rfl⟩
  rw[<-F]at h5;have hl5:e.o.length<=990:=by rw[F];exact hl
  have c5:dW H5 o5 X.p X.f X.l X.sp X.cv rv5 ov5 X.pv e.c e.o (X.k+(n+1)):=h5.c;have⟨g5,fv5,i⟩:=c5.so;have ew:e.c.so.aF=(d.c.so.eX v tk).aF:=by rw[F]
  cases C:d.c.so.aF with
  |true =>
   cases K:e.c.so.aF with
   |true =>
    by_cases q:d.c.so.points<e.c.so.points
    .simp only[ae,bc,zm,aB,j,E7,E8,C,J7 i,K,c5.bq,eS i,xf q];refine C3.q (FF (s:=e) c5 (by omega) 4 0 0 0) λ _ H7 hp=>?_;have⟨o7,U,T,bs7,own7,V7,P⟩:=h5.co (t:=(e).tell 4 0 0 0) rfl rfl hp (qm _);have N:dW H7 o7 X.p X.f X.l X.sp X.cv U T X.pv ((e).tell 4 0 0 0).c ((e).tell 4 0 0 0).o (X.k+(n+1)):=P.c;have⟨g7,fv7,z⟩:=N.so;cases b:((e).tell 4 0 0 0).c.so.busy with
     |true =>
      have m:d.mX v tk=((e).tell 4 0 0 0):=by unfold CS.mX;simp only;rw[<-F,qv (show¬(d.c.so.aF=B4/\(d.c.so.eX v tk).aF=B2)from λ w=>by have:=ew.trans w.2;rw[K]at this;cases this),xb q,xb b]
      simp only[ae,bc,zm,aB,j,N.bq,ig z,b];exact x _ _ _ _ (.inl rfl) rfl (by rw[m];exact u.back P.here)
     |false =>
      have m:d.mX v tk=(((e).tell 4 0 0 0)).eW:=by unfold CS.mX;simp only;rw[<-F,qv (show¬(d.c.so.aF=B4/\(d.c.so.eX v tk).aF=B2)from λ w=>by have:=ew.trans w.2;rw[K]at this;cases this),xb q,qv (by rw[b];decide)]
      simp only[ae,bc,zm,aB,j,N.bq,ig z,b];refine C3.q (Nm (X:=X.at B o2 bs) P (by show(e.o ++ [_]).length<=1000;rw[xc];simp only[zr,yw];omega)) λ _ H9 hp=>?_;simp only[ae,bc];exact x _ _ _ _ (.inl rfl) rfl (by rw[m];exact u.back hp)
    .cases b:e.c.so.busy with
     |true =>
      have m:d.mX v tk=e:=by unfold CS.mX;simp only;rw[<-F,qv (show¬(d.c.so.aF=B4/\(d.c.so.eX v tk).aF=B2)from λ w=>by have:=ew.trans w.2;rw[K]at this;cases this),qv q,xb b]
      simp only[ae,bc,zm,aB,j,E7,E8,C,J7 i,K,eS i,q,c5.bq,ig i,b];exact x _ _ _ _ (.inl rfl) rfl (by rw[m];exact u.back h5.here)
     |false =>
      have m:d.mX v tk=(e).eW:=by unfold CS.mX;simp only;rw[<-F,qv (show¬(d.c.so.aF=B4/\(d.c.so.eX v tk).aF=B2)from λ w=>by have:=ew.trans w.2;rw[K]at this;cases this),qv q,qv (by rw[b];decide)]
      simp only[ae,bc,zm,aB,j,E7,E8,C,J7 i,K,eS i,q,c5.bq,ig i,b];refine C3.q (Nm (X:=X.at B o2 bs) h5 (by omega)) λ _ H9 hp=>?_;simp only[ae,bc];exact x _ _ _ _ (.inl rfl) rfl (by rw[m];exact u.back hp)
   |false =>
    simp only[ae,bc,zm,aB,j,E8,C,c5.bq,J7 i,K];refine C3.q (q3w (s:=e) c5 (by omega)) λ _ H6 hp=>?_;have⟨o6,rv6,ov6,bs6,own6,V6,h6⟩:=h5.co (t:=e.av) (q32 _) (g_ _) hp (qm _);have hl6:=xen e;have c6:dW H6 o6 X.p X.f X.l X.sp X.cv rv6 ov6 X.pv e.av.c e.av.o (X.k+(n+1)):=h6.c;have⟨g6,fv6,S⟩:=c6.so
    by_cases q:d.c.so.points<e.av.c.so.points
    .simp only[ae,bc,zm,aB,j,E7,c6.bq,eS S,xf q];refine C3.q (FF (s:=e.av) c6 (by omega) 4 0 0 0) λ _ H7 hp=>?_;have⟨o7,U,T,bs7,own7,V7,P⟩:=h6.co (t:=(e.av).tell 4 0 0 0) rfl rfl hp (qm _);have N:dW H7 o7 X.p X.f X.l X.sp X.cv U T X.pv ((e.av).tell 4 0 0 0).c ((e.av).tell 4 0 0 0).o (X.k+(n+1)):=P.c;have⟨g7,fv7,z⟩:=N.so;cases b:((e.av).tell 4 0 0 0).c.so.busy with
     |true =>
      have m:d.mX v tk=((e.av).tell 4 0 0 0):=by unfold CS.mX;simp only;rw[<-F,xb (show d.c.so.aF=B4/\(d.c.so.eX v tk).aF=B2 from⟨C,ew.symm.trans K⟩),xb q,xb b]
      simp only[ae,bc,zm,aB,j,N.bq,ig z,b];exact x _ _ _ _ (.inl rfl) rfl (by rw[m];exact u.back P.here)
     |false =>
      have m:d.mX v tk=(((e.av).tell 4 0 0 0)).eW:=by unfold CS.mX;simp only;rw[<-F,xb (show d.c.so.aF=B4/\(d.c.so.eX v tk).aF=B2 from⟨C,ew.symm.trans K⟩),xb q,qv (by rw[b];decide)]
      simp only[ae,bc,zm,aB,j,N.bq,ig z,b];refine C3.q (Nm (X:=X.at B o2 bs) P (by show(e.av.o ++ [_]).length<=1000;rw[xc];simp only[zr,yw];omega)) λ _ H9 hp=>?_;simp only[ae,bc];exact x _ _ _ _ (.inl rfl) rfl (by rw[m];exact u.back hp)
    .cases b:e.av.c.so.busy with
     |true =>
      have m:d.mX v tk=e.av:=by unfold CS.mX;simp only;rw[<-F,xb (show d.c.so.aF=B4/\(d.c.so.eX v tk).aF=B2 from⟨C,ew.symm.trans K⟩),qv q,xb b]
      simp only[ae,bc,zm,aB,j,E7,eS S,q,c6.bq,ig S,b];exact x _ _ _ _ (.inl rfl) rfl (by rw[m];exact u.back h6.here)
     |false =>
      have m:d.mX v tk=(e.av).eW:=by unfold CS.mX;simp only;rw[<-F,xb (show d.c.so.aF=B4/\(d.c.so.eX v tk).aF=B2 from⟨C,ew.symm.trans K⟩),qv q,qv (by rw[b];decide)]
      simp only[ae,bc,zm,aB,j,E7,eS S,q,c6.bq,ig S,b];refine C3.q (Nm (X:=X.at B o2 bs) h6 (by omega)) λ _ H9 hp=>?_;simp only[ae,bc];exact x _ _ _ _ (.inl rfl) rfl (by rw[m];exact u.back hp)
  |false =>
   by_cases q:d.c.so.points<e.c.so.points
   .simp only[ae,bc,zm,aB,j,E7,E8,C,c5.bq,eS i,xf q];refine C3.q (FF (s:=e) c5 (by omega) 4 0 0 0) λ _ H7 hp=>?_;have⟨o7,U,T,bs7,own7,V7,P⟩:=h5.co (t:=(e).tell 4 0 0 0) rfl rfl hp (qm _);have N:dW H7 o7 X.p X.f X.l X.sp X.cv U T X.pv ((e).tell 4 0 0 0).c ((e).tell 4 0 0 0).o (X.k+(n+1)):=P.c;have⟨g7,fv7,z⟩:=N.so;cases b:((e).tell 4 0 0 0).c.so.busy with
    |true =>
     have m:d.mX v tk=((e).tell 4 0 0 0):=by unfold CS.mX;simp only;rw[<-F,qv (show¬(d.c.so.aF=B4/\(d.c.so.eX v tk).aF=B2)from λ w=>by rw[C]at w;cases w.1),xb q,xb b]
     simp only[ae,bc,zm,aB,j,N.bq,ig z,b];exact x _ _ _ _ (.inl rfl) rfl (by rw[m];exact u.back P.here)
    |false =>
     have m:d.mX v tk=(((e).tell 4 0 0 0)).eW:=by unfold CS.mX;simp only;rw[<-F,qv (show¬(d.c.so.aF=B4/\(d.c.so.eX v tk).aF=B2)from λ w=>by rw[C]at w;cases w.1),xb q,qv (by rw[b];decide)]
     simp only[ae,bc,zm,aB,j,N.bq,ig z,b];refine C3.q (Nm (X:=X.at B o2 bs) P (by show(e.o ++ [_]).length<=1000;rw[xc];simp only[zr,yw];omega)) λ _ H9 hp=>?_;simp only[ae,bc];exact x _ _ _ _ (.inl rfl) rfl (by rw[m];exact u.back hp)
   .cases b:e.c.so.busy with
    |true =>
     have m:d.mX v tk=e:=by unfold CS.mX;simp only;rw[<-F,qv (show¬(d.c.so.aF=B4/\(d.c.so.eX v tk).aF=B2)from λ w=>by rw[C]at w;cases w.1),qv q,xb b]
     simp only[ae,bc,zm,aB,j,E7,E8,C,eS i,q,c5.bq,ig i,b];exact x _ _ _ _ (.inl rfl) rfl (by rw[m];exact u.back h5.here)
    |false =>
     have m:d.mX v tk=(e).eW:=by unfold CS.mX;simp only;rw[<-F,qv (show¬(d.c.so.aF=B4/\(d.c.so.eX v tk).aF=B2)from λ w=>by rw[C]at w;cases w.1),qv q,qv (by rw[b];decide)]
     simp only[ae,bc,zm,aB,j,E7,E8,C,eS i,q,c5.bq,ig i,b];refine C3.q (Nm (X:=X.at B o2 bs) h5 (by omega)) λ _ H9 hp=>?_;simp only[ae,bc];exact x _ _ _ _ (.inl rfl) rfl (by rw[m];exact u.back hp)
 have rest:∀{H3:ar}{o3:Nat->Nat}{I G:AV}{L:Bs}{A:Nat->Nat}{V3:Int->L8}{y:CS}{v:Int}{tk:Bool},fJ v->dP (X.at B o2 bs) (n+1) y H3 o3 I G L A V3->y.c=s.c->y.o=s.o -> ∀{E:Env}{Q:aJ},lk E 0=B1 (.ptr X.p 0)->lk E 2=B1 (.ptr H1.au 0)->lk E 4=B1 (.int .u64 v)->lk E 5=B1 (.bool tk)->lk E 6=B1 (.bool B4)->(∀ex E D H',(ex=.normal\/ex=.ret)->D=[]->lJ X (n+1) (y.given v tk) H'->Q ex E D H')->W M ⟨B5,M8⟩ (IK M8 26) B4 Q E [] H3:=λ{H3 o3 I G L A V3 y v tk}hu J hc ho{E Q}j E2 E4 Y E6 x=>by
  have c3:dW H3 o3 X.p X.f X.l X.sp X.cv I G X.pv y.c y.o (X.k+(n+1)):=J.c;have m1:Op.ah [.ptr H1.au 1] H3=B1 (.int .i64 s.c.so.want.a):=vd (pS (J.lo lo1).2 g2) 1;obtain⟨R,O⟩:∃R:Bool,R=(y.c.held ||tk && decide (y.c.so.want.a=0)):=⟨_,rfl⟩
  have⟨H4,s4,h4⟩:=J.put 16 (v:=.bool R) {y.c with held:=R} rfl (by decide) rfl ⟨rfl,rfl,rfl,rfl⟩ ⟨rfl,rfl⟩ {J.c.w with};have s4:Op.store 1 [.ptr X.p 16,.bool R] H3=B1 (.undef,H4):=s4;have r2:=λ{E:Env}{Q:aJ}=>rest2 (v:=v) (tk:=tk) (E:=E) (Q:=Q) hu h4 (by show y.o.length<=990;rw[ho];exact hl);have m:y.given v tk=CS.mX {y with c:={y.c with held:=R}} v tk:=by rw[Y7,O]
  obtain⟨d,e2'⟩:∃d:CS,d = {y with c:={y.c with held:=R}}:=⟨_,rfl⟩
  rw[<-e2']at r2 m h4;have c4:dW H4 o3 X.p X.f X.l X.sp X.cv I G X.pv d.c d.o (X.k+(n+1)):=h4.c;have⟨g4,fv4,r⟩:=c4.so;rw[m]at x;cases hh:y.c.held with
  |true =>
   have e1:R=true:=by rw[O,hh];rfl
   rw[e1]at s4;simp only[ae,bc,zm,aB,j,E2,Y,E6,c3.bq,hh,s4];simp only[ae,bc,aB,c4.bq,eS r,J7 r];exact r2 j E4 Y rfl rfl x
  |false =>
   cases tk with
   |false =>
    have e1:R=false:=by rw[O,hh];rfl
    rw[e1]at s4;simp only[ae,bc,zm,aB,j,E2,Y,E6,c3.bq,hh,s4];simp only[ae,bc,aB,c4.bq,eS r,J7 r];exact r2 j E4 Y rfl rfl x
   |true =>
    by_cases qa:s.c.so.want.a=0
    .have e1:R=true:=by rw[O,hh,hc,yq qa];rfl
     rw[e1]at s4;simp only[ae,bc,zm,aB,j,E2,Y,E6,c3.bq,hh,s4,m1,xf qa];simp only[ae,bc,aB,c4.bq,eS r,J7 r];exact r2 j E4 Y rfl rfl x
    .have e1:R=false:=by rw[O,hh,hc,yo qa];rfl
     rw[e1]at s4;simp only[ae,bc,zm,aB,j,E2,Y,E6,c3.bq,hh,s4,m1,qa];simp only[ae,bc,aB,c4.bq,eS r,J7 r];exact r2 j E4 Y rfl rfl x
 by_cases q1:s.c.so.want.op=1
 .rw [xb q1];simp only[ae,bc,zm,aB,NZ,s2,k0,k1,xf q1];refine C3.q (Pc hr hk s.c.so.want.a) λ w H3⟨hw,hu,o3,I,G,L,A,V3,J⟩=>?_;subst hw;cases b:(s.kF s.c.so.want.a).2 with
  |true =>
   rw[xb rfl];simp only[ae,bc,aB];exact rest hu J rfl rfl rfl rfl rfl rfl rfl λ ex E D H' he hD hs=>by rcases he with rfl|rfl<;>subst hD<;>exact hs
  |false =>
   rw[qv (by decide)];simp only[ae,bc,zm,aB];exact u.back J.here
 rw[qv q1]
 by_cases q2:s.c.so.want.op=2
 .rw [xb q2];simp only[ae,bc,zm,aB,NZ,s2,k0,k1,k2,q1,xf q2];refine C3.q (Ro hr hk s.c.so.want.a hs.qu) λ w H3⟨hw,o3,I,G,L,A,V3,J⟩=>?_;subst hw;cases b:s.vN s.c.so.want.a s.c.so.want.v with
  |true =>
   rw[xb rfl];simp only[ae,bc];exact rest bK J rfl rfl rfl rfl rfl rfl rfl λ ex E D H' he hD hs=>by rcases he with rfl|rfl<;>subst hD<;>exact hs
  |false =>
   rw[qv (by decide)];simp only[ae,bc,zm];exact u.back J.here
 rw[qv q2]
 by_cases q3:s.c.so.want.op=3
 .rw [xb q3];simp only[ae,bc,zm,aB,NZ,s2,k0,k1,k2,k3,q1,q2,xf q3];refine C3.q (Jc hr hk s.c.so.want.a s.c.so.want.o hs.qu) λ w H3⟨hw,o3,I,G,L,A,V3,J⟩=>?_;subst hw;cases b:(s.Ay s.c.so.want.a s.c.so.want.o).2 with
  |true =>
   rw[xb rfl];simp only[ae,bc,aB];exact rest bK J rfl rfl rfl rfl rfl rfl rfl λ ex E D H' he hD hs=>by rcases he with rfl|rfl<;>subst hD<;>exact hs
  |false =>
   rw[qv (by decide)];simp only[ae,bc,zm,aB];exact u.back J.here
 rw[qv q3];simp only[ae,bc,zm,aB,NZ,s2,k0,q1,q2,q3];exact u.back (u.re.eD (by omega))
end
end Go.Am
namespace Go.Am
open Lang Go.Proofs
variable{M:ao}[MK M]
def IP(o:Nat)(x y:Int):fJ (F1 o x y):=by unfold F1;(repeat' split)<;>exact FN _
structure R6(e:oK):Prop where
 v:fJ e.value
 a:fJ e.addr
 k:e.kind=0\/e.kind=1\/e.kind=2\/e.kind=3\/e.kind=4\/e.kind=5\/e.kind=6\/e.kind=7
def zH{p:Prop}[Decidable p]{x y:oK}(a:R6 x)(b:R6 y):R6 (if p then x else y):=by split;exact a;exact b
def Ux(i:i9)(pc:Int)(q:Bool):R6 (oq i pc q):=zH (zH ⟨bK,bK,.inl rfl⟩ ⟨bK,bK,.inr (.inr (.inl rfl))⟩) ⟨bK,bK,.inr (.inr (.inl rfl))⟩
def KG(i:i9){rs:List Int}{pc:Int}(a:rs.length=8)(hr:∀x∈rs,fJ x):R6 (i.fV rs pc):=by
 unfold i9.fV;refine zH ⟨bK,bK,.inl rfl⟩ (zH ⟨bK,bK,by simp⟩ (zH ⟨FN _,bK,by simp⟩ (zH ⟨RY a hr _,bK,by simp⟩ (zH ⟨IP _ _ _,bK,by simp⟩ (zH ⟨bK,FN _,by simp⟩ (zH ⟨RY a hr _,FN _,by simp⟩ (zH (Ux ..) (zH (Ux ..) (zH (Ux ..) (zH (Ux ..) (zH ⟨bK,bK,by simp⟩ ⟨bK,bK,by simp⟩)))))))))))
def ae6(i:i9):(fZ i).length=5:=rfl
def CS.oZ(s:CS)(f:oK):CS :=
 let is:=HO s.c f.addr
 let a:=8+f.addr
 if(f.kind=3\/f.kind=4)/\is=B2\/f.kind=0\/s.c.la.lane≠0/\f.kind=5\/s.c.la.lane=0/\f.kind=6\/s.c.la.lane≠0/\f.kind=7 then s.cP
 else if f.kind=7 then{s with c:={s.c with halted:=B4}}
 else if f.kind=1 then(s.fi (·.set f.pO f.value)).fG f.au
 else if f.kind=2 then s.fG f.au
 else if f.kind=3 then s.mh f a
 else if f.kind=4 then s.iJ f a
 else if f.kind=5 then let t:=((s.fG f.au).fi .save).la .enter
  {t with c:={t.c with blocks:=ak .i64 (t.c.blocks+1),ph:=1}}
 else s.ends
def EB(s:CS):s.nV=if(s.c.code.length:Int)<=s.c.fi.pc then if s.c.la.lane=0 then{s with c:={s.c with halted:=B4}}else s.cP else s.oZ ((s.c.code.getD s.c.fi.pc.toNat ⟨0,0,0,0,0⟩).fV s.c.fi.rs s.c.fi.pc):=rfl
section
variable{X:SX}{n n':Nat}{s t:CS}{H H':ar}{o:Nat->Nat}{rv ov:AV}{bs:Bs}{own:Nat->Nat}{V:Int->L8}
def Gx(h:dP X n s H o rv ov bs own V)(hk:X.k+n<=90000)(hl:s.o.length<=1000)(hS:pQ H):zj M _j [.ptr X.p 0] H λ _ H'=>lJ X (n+1) s.nV H':=by
 refine qxg ?_;rw[EB];have ln:=iP (M:=M) h.c.la;have pc:=fpc (M:=M) h.c.fi;have pc0:=h.c.fi.w.pc;have lc:=h.c.cd.len
 by_cases U:(s.c.code.length:Int)<=s.c.fi.pc
 .rw [xb U]
  by_cases b:s.c.la.lane=0
  .rw [xb b];have⟨H1,s1,Q⟩:=h.put 20 (v:=.bool B4) {s.c with halted:=B4} rfl (by decide) rfl ⟨rfl,rfl,rfl,rfl⟩ ⟨rfl,rfl⟩ {h.c.w with};simp only[ae,bc,je,aB,h.c.bq,ln,pc,lc,xf U,xf b,s1];exact Q.eD (by omega)
  .rw [qv b];simp only[ae,bc,je,aB,h.c.bq,ln,pc,lc,xf U,b];refine C3.q (χ h hk hl) λ _ H1 hp=>?_;simp only[ae,bc,je];exact hp
 rw[qv U];obtain⟨i,hi⟩:∃i,s.c.code[s.c.fi.pc.toNat]? = B1 i:=⟨_,qy (by omega)⟩
 rw[z8,hi,vz];have ix:=h.c.cd.idx hi (z:=s.c.fi.pc) (KC pc0).symm .i64;have ld:∀{H':ar},bM fZ 5 H' X.cv s.c.code->Op.aw 5 [.ptr (aD X.cv) (cM 5 X.cv s.c.fi.pc.toNat)] H'=B1 (.agg (fZ i)):=λ w=>w.aw ae6 (by decide) hi;have xR:=ld h.c.cd;simp only[ae,bc,je,aB,h.c.bq,ln,pc,lc,U,ix,xR];refine C3.q (WG h.c.fi) λ v H1⟨hv,f1⟩=>?_;subst hv;obtain⟨o1,Q,-⟩:=h.loc f1;have l2:Op.ah [.ptr X.p 2] H1=B1 X.cv:=Q.c.row.ld 2;have ld1:=ld Q.c.cd;simp only[ae,bc,Q.c.bq,ld1];refine C3.q (GV (hS.em f1) (i:=i) (pc:=s.c.fi.pc) h.c.fi.w.r8 h.c.fi.w.ru) λ v j⟨hv,f2⟩=>?_;subst hv;have⟨vu,R,kk⟩:=KG i (pc:=s.c.fi.pc) h.c.fi.w.r8 h.c.fi.w.ru;generalize i.fV s.c.fi.rs s.c.fi.pc=e at *;obtain⟨o2,h2,-⟩:=Q.loc f2;obtain⟨I,W⟩:∃Z,Z=(j.alloc (OR (bn iD) jr)).set j.au (OR (bn e) jr):=⟨_,rfl⟩
 have x:Op.store 5 [.ptr j.au 0,.agg (bn e)] (j.alloc (OR (bn iD) jr))=B1 (.undef,I):=by
  have:=(At.new j (bn iD) jr).ij (k:=0) (n:=5) (v:=.agg (bn e)) rfl (by simp[bn]) rfl;rw[W];exact this
 have f3:Fr Em j I:=W▸((Fr.refl j).alloc _).set (.inr (qm _)) _;have n3:I.au=j.au+1:=by rw[W,oO,xz]
 have O:I.get j.au=B1 (OR (bn e) jr):=by rw[W,xg]
 have r:Op.ah [.ptr j.au 0] I=B1 (.int .i64 e.kind):=vd O 0;have k1:Op.ah [.ptr j.au 1] I=B1 (.int .i64 e.au):=vd O 1;have k2:Op.ah [.ptr j.au 2] I=B1 (.int .i64 e.pO):=vd O 2;have k3:Op.ah [.ptr j.au 3] I=B1 (.int .u64 e.value):=vd O 3;have u:Op.ah [.ptr j.au 4] I=B1 (.int .u64 e.addr):=vd O 4;have k5:=Ex O;have⟨o3,d,lo⟩:=h2.loc f3;have T:=(lo j.au).1 ⟨qm _,by omega⟩;have hr:=d.re;have a:=QP (M:=M) d.c R;have D:zj M VJ [.ptr X.p 0] I λ _ H'=>lJ X (n+1) s.cP H':=χ d hk hl;rcases kk with q|q|q|q|q|q|q|q
 .have A:¬e.kind=1:=by omega
  have E:¬e.kind=2:=by omega
  have g:¬e.kind=3:=by omega
  have m:¬e.kind=4:=by omega
  have F:¬e.kind=5:=by omega
  have G:¬e.kind=6:=by omega
  have y:¬e.kind=7:=by omega
  have e1:s.oZ e=s.cP:=by unfold CS.oZ;simp[q]
  rw[e1];simp only[ae,bc,je,aB,jT,x,r,u,a,g,m,xf q];refine C3.q D λ _ C hp=>?_;simp only[ae,bc];exact hp
 .have a0:¬e.kind=0:=by omega
  have E:¬e.kind=2:=by omega
  have g:¬e.kind=3:=by omega
  have m:¬e.kind=4:=by omega
  have F:¬e.kind=5:=by omega
  have G:¬e.kind=6:=by omega
  have y:¬e.kind=7:=by omega
  have e1:s.oZ e=(s.fi (·.set e.pO e.value)).fG e.au:=by unfold CS.oZ;simp[q]
  rw[e1]
  by_cases b:s.c.la.lane=0
  .simp only[ae,bc,je,aB,jT,x,r,k2,k3,u,a,d.c.bq,a0,g,m,G,y,xf q,xf b];refine C3.q (Ki d.c.fi e.pO vu) λ _ C hp=>?_;have⟨o4,N,K,S,P,V4,B⟩:=hr.co (t:=s.fi (·.set e.pO e.value)) rfl rfl (d.c.GZ hp) (qm _);have c4:dW C o4 X.p X.f X.l X.sp X.cv N K X.pv (s.fi (·.set e.pO e.value)).c s.o (X.k+n):=B.c;have m1:Op.ah [.ptr j.au 1] C=B1 (.int .i64 e.au):=vd (pS (B.lo T).2 O) 1;simp only[ae,bc,m1];refine C3.q (KY (s:=s.fi (·.set e.pO e.value)) c4 e.au) λ _ J hp=>?_;simp only[ae,bc];exact d.back ((B.co (t:=(s.fi (·.set e.pO e.value)).fG e.au) rfl rfl hp (qm _)).mono (by omega))
  .simp only[ae,bc,je,aB,jT,x,r,k2,k3,u,a,d.c.bq,a0,g,m,F,y,xf q,b];refine C3.q (Ki d.c.fi e.pO vu) λ _ C hp=>?_;have⟨o4,N,K,S,P,V4,B⟩:=hr.co (t:=s.fi (·.set e.pO e.value)) rfl rfl (d.c.GZ hp) (qm _);have c4:dW C o4 X.p X.f X.l X.sp X.cv N K X.pv (s.fi (·.set e.pO e.value)).c s.o (X.k+n):=B.c;have m1:Op.ah [.ptr j.au 1] C=B1 (.int .i64 e.au):=vd (pS (B.lo T).2 O) 1;simp only[ae,bc,m1];refine C3.q (KY (s:=s.fi (·.set e.pO e.value)) c4 e.au) λ _ J hp=>?_;simp only[ae,bc];exact d.back ((B.co (t:=(s.fi (·.set e.pO e.value)).fG e.au) rfl rfl hp (qm _)).mono (by omega))
 .have a0:¬e.kind=0:=by omega
  have A:¬e.kind=1:=by omega
  have g:¬e.kind=3:=by omega
  have m:¬e.kind=4:=by omega
  have F:¬e.kind=5:=by omega
  have G:¬e.kind=6:=by omega
  have y:¬e.kind=7:=by omega
  have e1:s.oZ e=s.fG e.au:=by unfold CS.oZ;simp[q]
  rw[e1]
  by_cases b:s.c.la.lane=0
  .simp only[ae,bc,je,aB,jT,x,r,k1,u,a,a0,A,g,m,G,y,xf q,xf b];refine C3.q (KY d.c e.au) λ _ J hp=>?_;simp only[ae,bc];exact(d.co (t:=s.fG e.au) rfl rfl hp (qm _)).mono (by omega)
  .simp only[ae,bc,je,aB,jT,x,r,k1,u,a,a0,A,g,m,F,y,xf q,b];refine C3.q (KY d.c e.au) λ _ J hp=>?_;simp only[ae,bc];exact(d.co (t:=s.fG e.au) rfl rfl hp (qm _)).mono (by omega)
 .have a0:¬e.kind=0:=by omega
  have A:¬e.kind=1:=by omega
  have E:¬e.kind=2:=by omega
  have m:¬e.kind=4:=by omega
  have F:¬e.kind=5:=by omega
  have G:¬e.kind=6:=by omega
  have y:¬e.kind=7:=by omega
  cases L:CS.HO s.c e.addr with
  |true =>
   have e1:s.oZ e=s.mh e (8+e.addr):=by unfold CS.oZ;simp[q,L]
   rw[e1];rw[L,xb rfl]at a
   by_cases b:s.c.la.lane=0
   .simp only[ae,bc,je,aB,jT,x,r,u,k5,a,a0,A,E,G,y,xf q,xf b];refine C3.q (xkz d hk hl e R (8+e.addr)) λ _ J hp=>?_;simp only[ae,bc];exact hp
   .simp only[ae,bc,je,aB,jT,x,r,u,k5,a,a0,A,E,F,y,xf q,b];refine C3.q (xkz d hk hl e R (8+e.addr)) λ _ J hp=>?_;simp only[ae,bc];exact hp
  |false =>
   rw[L,qv (by decide)]at a;have e1:s.oZ e=s.cP:=by unfold CS.oZ;simp[q,L]
   rw[e1];simp only[ae,bc,je,aB,jT,x,r,u,a,xf q];refine C3.q D λ _ C hp=>?_;simp only[ae,bc];exact hp
 .have a0:¬e.kind=0:=by omega
  have A:¬e.kind=1:=by omega
  have E:¬e.kind=2:=by omega
  have g:¬e.kind=3:=by omega
  have F:¬e.kind=5:=by omega
  have G:¬e.kind=6:=by omega
  have y:¬e.kind=7:=by omega
  cases L:CS.HO s.c e.addr with
  |true =>
   have e1:s.oZ e=s.iJ e (8+e.addr):=by unfold CS.oZ;simp[q,L]
   rw[e1];rw[L,xb rfl]at a
   by_cases b:s.c.la.lane=0
   .simp only[ae,bc,je,aB,jT,x,r,u,k5,a,a0,A,E,g,G,y,xf q,xf b];refine C3.q (xgj d hk hl e R vu (8+e.addr)) λ _ J hp=>?_;simp only[ae,bc];exact hp
   .simp only[ae,bc,je,aB,jT,x,r,u,k5,a,a0,A,E,g,F,y,xf q,b];refine C3.q (xgj d hk hl e R vu (8+e.addr)) λ _ J hp=>?_;simp only[ae,bc];exact hp
  |false =>
   rw[L,qv (by decide)]at a;have e1:s.oZ e=s.cP:=by unfold CS.oZ;simp[q,L]
   rw[e1];simp only[ae,bc,je,aB,jT,x,r,u,a,g,xf q];refine C3.q D λ _ C hp=>?_;simp only[ae,bc];exact hp
 .have a0:¬e.kind=0:=by omega
  have A:¬e.kind=1:=by omega
  have E:¬e.kind=2:=by omega
  have g:¬e.kind=3:=by omega
  have m:¬e.kind=4:=by omega
  have G:¬e.kind=6:=by omega
  have y:¬e.kind=7:=by omega
  by_cases b:s.c.la.lane=0
  .have e1:s.oZ e=(let t:=((s.fG e.au).fi .save).la .enter
    {t with c:={t.c with blocks:=ak .i64 (t.c.blocks+1),ph:=1}}):=by unfold CS.oZ;simp[q,b]
   rw[e1];simp only[ae,bc,je,aB,jT,x,r,k1,u,a,a0,A,E,g,m,G,y,xf q,xf b];refine C3.q (KY d.c e.au) λ _ C hp=>?_;have⟨o4,N,K,S,P,V4,B⟩:=d.co (t:=s.fG e.au) rfl rfl hp (qm _);simp only[ae,bc,aB,B.c.bq];refine C3.q (OY B.c.fi) λ _ J hp=>?_;have⟨o5,rv5,ov5,bs5,own5,V5,Y⟩:=B.co (t:=(s.fG e.au).fi .save) rfl rfl (B.c.GZ hp) (qm _);simp only[ae,bc,aB,Y.c.bq];refine C3.q (MF Y.c.la) λ _ H6 hp=>?_;have⟨o6,rv6,ov6,bs6,own6,V6,h6⟩:=Y.co (t:=((s.fG e.au).fi .save).la .enter) rfl rfl (Y.c.Vs hp) (qm _);obtain⟨t,ht⟩:∃t:CS,t=((s.fG e.au).fi .save).la .enter:=⟨_,rfl⟩
   rw[<-ht]at h6;rw[<-ht];have⟨H7,s7,h7⟩:=h6.put 18 (v:=.int .i64 (ak .i64 (t.c.blocks+1))) {t.c with blocks:=ak .i64 (t.c.blocks+1)} rfl (by decide) rfl ⟨rfl,rfl,rfl,rfl⟩ ⟨rfl,rfl⟩ {h6.c.w with};have⟨H8,s8,h8⟩:=h7.put 6 (v:=.int .i64 1) {t.c with blocks:=ak .i64 (t.c.blocks+1),ph:=1} rfl (by decide) rfl ⟨rfl,rfl,rfl,rfl⟩ ⟨rfl,rfl⟩ {h7.c.w with};simp only[ae,bc,aB,h6.c.bq,s7,s8];exact h8.eD (by omega)
  .have e1:s.oZ e=s.cP:=by unfold CS.oZ;simp[q,b]
   rw[e1];simp only[ae,bc,je,aB,jT,x,r,u,a,a0,g,m,xf q,b];refine C3.q D λ _ C hp=>?_;simp only[ae,bc];exact hp
 .have a0:¬e.kind=0:=by omega
  have A:¬e.kind=1:=by omega
  have E:¬e.kind=2:=by omega
  have g:¬e.kind=3:=by omega
  have m:¬e.kind=4:=by omega
  have F:¬e.kind=5:=by omega
  have y:¬e.kind=7:=by omega
  by_cases b:s.c.la.lane=0
  .have e1:s.oZ e=s.cP:=by unfold CS.oZ;simp[q,b]
   rw[e1];simp only[ae,bc,je,aB,jT,x,r,u,a,a0,g,m,xf q,xf b];refine C3.q D λ _ C hp=>?_;simp only[ae,bc];exact hp
  .have e1:s.oZ e=s.ends:=by unfold CS.oZ;simp[q,b]
   rw[e1];simp only[ae,bc,je,aB,jT,x,r,u,a,a0,A,E,g,m,F,y,b];refine C3.q (LG d hk hl) λ _ J hp=>?_;simp only[ae,bc];exact hp
 .have a0:¬e.kind=0:=by omega
  have A:¬e.kind=1:=by omega
  have E:¬e.kind=2:=by omega
  have g:¬e.kind=3:=by omega
  have m:¬e.kind=4:=by omega
  have F:¬e.kind=5:=by omega
  have G:¬e.kind=6:=by omega
  by_cases b:s.c.la.lane=0
  .have e1:s.oZ e = {s with c:={s.c with halted:=B4}}:=by unfold CS.oZ;simp[q,b]
   rw[e1];have⟨C,s4,B⟩:=d.put 20 (v:=.bool B4) {s.c with halted:=B4} rfl (by decide) rfl ⟨rfl,rfl,rfl,rfl⟩ ⟨rfl,rfl⟩ {d.c.w with};simp only[ae,bc,je,aB,jT,x,r,u,a,a0,g,m,G,xf q,xf b,s4];exact B.eD (by omega)
  .have e1:s.oZ e=s.cP:=by unfold CS.oZ;simp[q,b]
   rw[e1];simp only[ae,bc,je,aB,jT,x,r,u,a,a0,g,m,F,xf q,b];refine C3.q D λ _ C hp=>?_;simp only[ae,bc];exact hp
end
end Go.Am
namespace Go.Am
open Lang Go.Proofs
variable{M:ao}[MK M]
section
variable{X:SX}{n n':Nat}{s t:CS}{H H':ar}{o:Nat->Nat}{rv ov:AV}{bs:Bs}{own:Nat->Nat}{V:Int->L8}
def Q4(h:dP X n s H o rv ov bs own V)(hk:X.k+n+1<=90000)(hl:s.o.length<=990)(P:pQ H):zj M Vv [.ptr X.p 0] H λ _ H'=>lJ X (n+2) s.act H':=by
 refine q33 ?_;have d:X.k+n<=90000:=by omega
 have f:s.o.length<=1000:=by omega
 unfold CS.act;simp only
 by_cases e:s.c.ph=0
 .rw [xb e];simp only[ae,bc,j5,aB,h.c.bq,xf e];refine C3.q (Gx h d f P) λ _ H1 hp=>?_;simp only[ae,bc];exact hp.mono (by omega)
 rw[qv e]
 by_cases g:s.c.ph=1
 .rw [xb g];simp only[ae,bc,j5,aB,h.c.bq,e,xf g];refine C3.q (ae2 h d f) λ _ H1 hp=>?_;simp only[ae,bc];exact hp.mono (by omega)
 rw[qv g]
 by_cases i:s.c.ph=2
 .rw [xb i];simp only[ae,bc,j5,aB,h.c.bq,e,g,xf i];refine C3.q (Pc h d 1) λ v H1⟨y,hu,o1,u,m,j,og,G,a⟩=>?_;subst y;cases b:(s.kF 1).2 with
  |false =>
   rw[qv (by decide)];simp only[ae,bc,j5,aB];exact a.eD (by omega)
  |true =>
   rw[xb rfl];have⟨F,s2,l⟩:=a.put 6 (v:=.int .i64 3) {s.c with ph:=3} rfl (by decide) rfl ⟨rfl,rfl,rfl,rfl⟩ ⟨rfl,rfl⟩ {a.c.w with}
   by_cases z:(s.kF 1).1=0
   .rw [qv (λ w=>w z)];simp only[ae,bc,j5,aB,s2,xf z];exact l.eD (by omega)
   .rw [xb z];simp only[ae,bc,j5,aB,s2,z,l.c.bq,SX.pv,wM,VK];refine C3.q (XN (s:=(s.ld 1).ph 3) l (by omega) 6) λ _ N hp=>?_;simp only[ae,bc];exact hp
 rw[qv i]
 by_cases r:s.c.ph=3
 .rw [xb r];simp only[ae,bc,j5,aB,h.c.bq,e,g,i,xf r];refine C3.q (Pc h d 0) λ v H1⟨y,hu,o1,u,m,j,og,G,a⟩=>?_;subst y;cases b:(s.kF 0).2 with
  |false =>
   rw[qv (by decide)];simp only[ae,bc,aB];exact a.eD (by omega)
  |true =>
   rw[xb rfl];have⟨F,s2,l⟩:=a.put 12 (v:=.int .u64 (s.kF 0).1) {s.c with seq:=(s.kF 0).1} rfl (by decide) rfl ⟨rfl,rfl,rfl,rfl⟩ ⟨rfl,rfl⟩ {a.c.w with};have⟨N,L,I⟩:=l.put 6 (v:=.int .i64 0) {s.c with seq:=(s.kF 0).1,ph:=0} rfl (by decide) rfl ⟨rfl,rfl,rfl,rfl⟩ ⟨rfl,rfl⟩ {l.c.w with}
   by_cases z:(s.kF 0).1 % 2=1
   .rw [xb z];simp only[ae,bc,j5,aB,s2,L,pR hu,xf z,I.c.bq,SX.pv,wM,VK];refine C3.q (XN (s:={s.ld 0 with c:={s.c with seq:=(s.kF 0).1,ph:=0}}) I (by omega) 6) λ _ Q hp=>?_;simp only[ae,bc];exact hp
   .rw [qv z];simp only[ae,bc,j5,aB,s2,L,pR hu,z];exact I.eD (by omega)
 rw[qv r]
 by_cases x:s.c.ph=4
 .rw [xb x];simp only[ae,bc,j5,aB,h.c.bq,e,g,i,r,xf x];refine C3.q (Pc h d 0) λ v H1⟨y,hu,o1,u,m,j,og,G,a⟩=>?_;subst y;cases b:(s.kF 0).2 with
  |false =>
   rw[qv (λ w=>by cases w.1)];simp only[ae,bc,j5,aB];exact a.eD (by omega)
  |true =>
   by_cases z:(s.kF 0).1 % 2=0
   .rw [xb ⟨rfl,z⟩];have⟨F,s2,l⟩:=a.put 12 (v:=.int .u64 (s.kF 0).1) {s.c with seq:=(s.kF 0).1} rfl (by decide) rfl ⟨rfl,rfl,rfl,rfl⟩ ⟨rfl,rfl⟩ {a.c.w with};have⟨N,L,I⟩:=l.put 6 (v:=.int .i64 5) {s.c with seq:=(s.kF 0).1,ph:=5} rfl (by decide) rfl ⟨rfl,rfl,rfl,rfl⟩ ⟨rfl,rfl⟩ {l.c.w with};simp only[ae,bc,j5,aB,pR hu,xf z,s2,L];exact I.eD (by omega)
   .rw [qv (λ w=>z w.2)];simp only[ae,bc,j5,aB,pR hu,z];exact a.eD (by omega)
 rw[qv x]
 by_cases A:s.c.ph=5
 .rw [xb A];simp only[ae,bc,j5,aB,h.c.bq,e,g,i,r,x,xf A];refine C3.q (GU h d f) λ _ H1 hp=>?_;simp only[ae,bc];exact hp.mono (by omega)
 rw[qv A]
 by_cases C:s.c.ph=6
 .rw [xb C];simp only[ae,bc,j5,aB,h.c.bq,e,g,i,r,x,A,xf C];refine C3.q (Gp h d hl) λ _ H1 hp=>?_;simp only[ae,bc];exact hp.mono (by omega)
 rw[qv C];have O:=Ro (M:=M) h d 0 (FN (s.c.seq+2))
 by_cases D:s.c.ph=7
 .rw [xb D];unfold CS.gq;simp only;simp only[ae,bc,j5,aB,h.c.bq,e,g,i,r,x,A,C,xf D];refine C3.q O λ v H1⟨y,o1,u,m,j,og,G,a⟩=>?_;subst y;cases b:s.vN 0 (ak .u64 (s.c.seq+2))with
  |false =>
   rw[qv (by decide)];simp only[ae,bc];exact a.eD (by omega)
  |true =>
   rw[xb rfl];have⟨F,s2,l⟩:=a.put 6 (v:=.int .i64 8) {s.c with ph:=8} rfl (by decide) rfl ⟨rfl,rfl,rfl,rfl⟩ ⟨rfl,rfl⟩ {a.c.w with};simp only[ae,bc,aB,s2];exact l.eD (by omega)
 rw[qv D]
 by_cases E:s.c.ph=8
 .rw [xb E];simp only[ae,bc,j5,aB,h.c.bq,e,g,i,r,x,A,C,D,xf E,SX.pv,wM,Yw];refine C3.q (Wj h d) λ _ H1⟨o1,u,m,j,og,G,a⟩=>?_;simp only[ae,bc];refine C3.q (Rg (s:=s.iy 4 0 0 0) a.c f) λ _ F hp=>?_;simp only[ae,bc];exact(a.co (t:=(s.iy 4 0 0 0).bH) (Qz _) (RV _) hp (qm _)).mono (by omega)
 rw[qv E]
 by_cases J:s.c.ph=9
 .rw [xb J];simp only[ae,bc,j5,aB,h.c.bq,e,g,i,r,x,A,C,D,E,xf J];refine C3.q (IW h d f) λ _ H1 hp=>?_;simp only[ae,bc];exact hp.mono (by omega)
 rw[qv J]
 by_cases K:s.c.ph=10
 .rw [xb K];unfold CS.gq;simp only;simp only[ae,bc,j5,aB,h.c.bq,e,g,i,r,x,A,C,D,E,J,xf K];refine C3.q O λ v H1⟨y,o1,u,m,j,og,G,a⟩=>?_;subst y;cases b:s.vN 0 (ak .u64 (s.c.seq+2))with
  |false =>
   rw[qv (by decide)];simp only[ae,bc];exact a.eD (by omega)
  |true =>
   rw[xb rfl];simp only[ae,bc];refine C3.q (U7 (s:=s.st 0 (ak .u64 (s.c.seq+2))) a.c f) λ _ F hp=>?_;simp only[ae,bc];exact(a.co (t:=(s.st 0 (ak .u64 (s.c.seq+2))).breaks) rfl rfl hp (qm _)).mono (by omega)
 rw[qv K];simp only[ae,bc,j5,aB,h.c.bq,e,g,i,r,x,A,C,D,E,J,K];exact h.eD (by omega)
end
end Go.Am
namespace Go.Am
open Lang Go.Proofs
variable{M:ao}[MK M]
section
variable{H H0:ar}{B:Nat}{s:Bs}{b:Bu}{own:Nat->Nat}
def xj6(h:fD H0 H B s b own)(hb:BB b){c:Nat}{n:No}(hn:b.ns[c]? = B1 n):zj M Tt [.ptr B 0,.int .i64 (c:Int)] H λ v H'=>v=.int .i64 n.code/\H'=H:=by
 refine q6o ?_;simp only[ae,bc,q6p];refine C3.q (IX h hb.N4 (c:Int)) λ v k⟨a,j,_⟩=>?_;have hl:=(qo.1 hn).1;have⟨A,g,d⟩:=j ⟨by omega,by omega⟩;rw[FB]at g;rw[d,a];have i:=h.no _ n A hn g;have e:Op.ah [.ptr A.r 16] H=B1 (.int .i64 n.code):=(i.ld 16).trans (Gc n A.b A.bv).2.2.2.2.2.2.1;simp only[ae,bc,xm];refine C3.q (R:=λ v H'=>v=.int .i64 n.code/\H'=H) ?_ λ v l⟨d,a⟩=>?_
 .refine q0h ?_;obtain⟨w0,w2,f⟩:=q0i M ⟨B5,ζ⟩;simp only[ae,bc,w0,w2,y9,f,qt,e]
 rw[d,a];simp only[ae,bc]
end
structure FZ(X:SX)(n:Nat)(x:Co)(y:Bu)(H:ar)(o:Nat->Nat)(rv:AV)(bs:Bs)(own:Nat->Nat)(V:Int->L8):Prop where
 c:dW H o X.p X.f X.l X.sp X.cv rv .nils .nili x [] (X.k+n)
 b:fD X.Hb H X.B bs y own
 I:BuI y V
 C:BC y (X.k+n)
 U:yG y
 nn:x.id<y.ns.length
 dj:∀z,ib X.B bs z->o z=0
 hb:∀z,z<H.au->o z≠0->X.Hb.au<=z
 go:∀z,z<H.au->o z≠0->(z<X.H.au/\X.o z≠0)\/X.H.au<=z
 gb:∀z,ib X.B bs z->X.W z\/X.H.au<=z
 fr:Fr (λ z=>X.o z≠0\/X.W z) X.H H
section
variable{X:SX}{n n':Nat}{s t:CS}{c:Co}{b:Bu}{H H':ar}{o:Nat->Nat}{rv ov:AV}{bs:Bs}{own:Nat->Nat}{V:Int->L8}
def BI{x:Nat}{Y:ar}(h:o X.p=1)(hr:fD X.Hb H X.B bs b own)(dj:∀z,ib X.B bs z->o z=0)(hb:∀z,z<H.au->o z≠0->X.Hb.au<=z)(hp:X.p<H.au)(f:Fr (On X.p) H Y):fD X.Hb Y X.B bs b own :=
 hr.fr f λ z(q:z=X.p)=>⟨by rw[q];exact hb _ hp (by rw[h];decide),λ e=>by rw[q]at e;have:=dj _ e;omega⟩
def FZ.open(h:FZ X n c b H o rv bs own V):∃H1 g,Op.store 1 [.ptr X.p 22,.nils] H=B1 (.undef,H1)/\Op.store 1 [.ptr X.p 23,X.pv] H1=B1 (.undef,g)/\dP X n ⟨c,b,[]⟩ g o rv .nils bs own V/\Fr (On X.p) H g/\Fr (On X.p) H H1:=by
 have⟨a,i⟩:=h.c.cell (d:=c) (k':=X.k+n) ⟨rfl,rfl,rfl,rfl⟩ (rv':=rv) (ov':=.nils) (pv':=.nili) (os':=[]) ⟨h.c.rd,h.c.qI⟩ ⟨Own.nil ..,λ z q=>(q.1 rfl).elim⟩ rfl h.c.w;have s1:=h.c.row.st 22 (v:=.nils) rfl (by simp[cE]);have e1:(cE c X.f X.l X.sp X.cv rv .nils .nili).set 22 .nils=cE c X.f X.l X.sp X.cv rv .nils .nili:=rfl;rw[e1]at s1;have s2:=a.row.st 23 (v:=X.pv) rfl (by simp[cE]);have⟨m,j⟩:=a.cell (d:=c) (k':=X.k+n) ⟨rfl,rfl,rfl,rfl⟩ (rv':=rv) (ov':=.nils) (pv':=X.pv) (os':=[]) ⟨a.rd,a.qI⟩ ⟨Own.nil ..,λ z q=>(q.1 rfl).elim⟩ rfl h.c.w;have e2:(cE c X.f X.l X.sp X.cv rv .nils .nili).set 23 X.pv=cE c X.f X.l X.sp X.cv rv .nils X.pv:=rfl;rw[e2]at s2;have f:=i.trans j λ z q=>.inl q;refine⟨_,_,s1,s2,⟨m,BI (x:=0) h.c.op h.b h.dj h.hb h.c.row.2 f,h.I,h.C,h.U,h.nn,h.dj,h.hb,h.go,h.gb,h.fr.trans f λ z(q:z=X.p)=>?_⟩,f,i⟩;rw[q];exact(h.go X.p h.c.row.2 (by rw[h.c.op];decide)).imp (λ e=>.inl e.2) id
def dP.close(h:dP X n s H o rv ov bs own V):∃H1 a,Op.store 1 [.ptr X.p 22,.nils] H=B1 (.undef,H1)/\Op.store 1 [.ptr X.p 23,.nili] H1=B1 (.undef,a)/\FZ X n s.c s.b a o rv bs own V/\aL eF.enc j9 9 a ov s.o/\(∀z,aM ov z->o z=6)/\Fr (On X.p) H a/\Fr (On X.p) H H1:=by
 have⟨g,i⟩:=h.c.cell (d:=s.c) (k':=X.k+n) ⟨rfl,rfl,rfl,rfl⟩ (rv':=rv) (ov':=.nils) (pv':=X.pv) (os':=[]) ⟨h.c.rd,h.c.qI⟩ ⟨Own.nil ..,λ z q=>(q.1 rfl).elim⟩ rfl h.c.w;have s1:=h.c.row.st 22 (v:=.nils) rfl (by simp[cE]);have e1:(cE s.c X.f X.l X.sp X.cv rv ov X.pv).set 22 .nils=cE s.c X.f X.l X.sp X.cv rv .nils X.pv:=rfl;rw[e1]at s1;have s2:=g.row.st 23 (v:=.nili) rfl (by simp[cE]);have⟨m,j⟩:=g.cell (d:=s.c) (k':=X.k+n) ⟨rfl,rfl,rfl,rfl⟩ (rv':=rv) (ov':=.nils) (pv':=.nili) (os':=[]) ⟨g.rd,g.qI⟩ ⟨Own.nil ..,λ z q=>(q.1 rfl).elim⟩ rfl h.c.w;have e2:(cE s.c X.f X.l X.sp X.cv rv .nils X.pv).set 23 .nili=cE s.c X.f X.l X.sp X.cv rv .nils .nili:=rfl;rw[e2]at s2;have f:=i.trans j λ z q=>.inl q;refine⟨_,_,s1,s2,⟨m,BI (x:=0) h.c.op h.b h.dj h.hb h.c.row.2 f,h.I,h.C,h.U,h.nn,h.dj,h.hb,h.go,h.gb,h.fr.trans f λ z(q:z=X.p)=>?_⟩,Own.fr h.c.ou f λ z q=>h.c.np z (by rw[h.c.pG z q];decide),h.c.pG,f,i⟩;rw[q];exact(h.go X.p h.c.row.2 (by rw[h.c.op];decide)).imp (λ e=>.inl e.2) id
def FZ.em(h:FZ X n c b H o rv bs own V)(f:Fr Em H H'):FZ X n c b H' (aP o H.au 0) rv bs own V:=by
 have ho:∀z,z<H.au->aP o H.au 0 z=o z:=λ z q=>iZ q;refine{h with c:=h.c.fr f (λ _ _ _ q=>q) ho (qm _),b:=h.b.em f,dj:=λ z q=>(ho z (h.b.low q)).trans (h.dj z q),hb:=λ z q e=>?_,go:=λ z q e=>?_,fr:=h.fr.em f}
 .rcases xw z H.au with w|w
  .rw [ho z w]at e;exact h.hb z w e
  .rw [nj w]at e;exact(e rfl).elim
 .rcases xw z H.au with w|w
  .rw [ho z w]at e;exact h.go z w e
  .rw [nj w]at e;exact(e rfl).elim
end
end Go.Am
namespace Go.Am
open Lang Go.Proofs
variable{M:ao}[MK M]
section
variable{X:SX}{n n':Nat}{s t:CS}{c:Co}{b:Bu}{H H':ar}{o:Nat->Nat}{rv ov:AV}{bs:Bs}{own:Nat->Nat}{V:Int->L8}
def KT(X:SX)(n:Nat)(s:CS)(H:ar)(ov:AV):Prop:=∃o rv bs own V,FZ X n s.c s.b H o rv bs own V/\aL eF.enc j9 9 H ov s.o /\ ∀z,aM ov z->o z=6
def xjx{d:Nat}{H1 a:ar}{p:Nat}(l1:Op.ah [.ptr d 0] H=B1 (.ptr p 0))(s1:Op.store 1 [.ptr p 22,.nils] H=B1 (.undef,H1))(s2:Op.store 1 [.ptr p 23,.nili] H1=B1 (.undef,a)):∃v,kC M yi [.ptr d 0] (B1 []) H (.ret v) (B1 []) a:=by
 obtain⟨e,H',f,v,rfl,rfl⟩:=qvk (M:=M) (up:=B1 []) (a0:=.ptr d 0) (H:=H) (Q:=λ e X=>∃v,e=.ret v/\X=a) (by
  simp only[ae,bc,qvl,aB,l1,s1,s2];exact⟨_,rfl⟩)
 exact⟨v,f⟩
def LM(h:FZ X n c b H o rv bs own V)(hk:X.k+n+1<=90000)(hS:pQ H)(oG:o jq=0):zj M LV [.ptr X.p 0,X.pv] H λ v H'=>∃ov,v=.tuple [ov,.int .i64 (CS.step ⟨c,b,[]⟩).2]/\KT X (n+2) (CS.step ⟨c,b,[]⟩).1 H' ov:=by
 refine qzu ?_;obtain⟨H1,e1,f1,n1,Y⟩:=cI H (OR [.ptr X.p 0] AE);have ca:AV.cells (.ptr X.p 0)=[.ptr X.p 0]:=rfl;have y:=h.em f1;have l1:Op.ah [.ptr H.au 0] H1=B1 (.ptr X.p 0):=vd Y 0;have od:aP o H.au 0 H.au=0:=nj (qm _);have W:=MI (M:=M) y.c;have en:∀H,Op.eq .iface B2 [X.pv,.nili] H=B1 (.bool B2):=λ _=>rfl;have N:Op.ah [.ptr X.p 20] H1=B1 (.bool c.halted):=y.c.row.ld 20;have D:Op.ah [.ptr X.p 21] H1=B1 (.bool c.Cl):=y.c.row.ld 21;have done:KT X (n+2) ⟨c,b,[]⟩ H1 .nils:=⟨_,_,_,_,_,{y with c:=y.c.fr (Fr.refl _) (λ _ _ _ w=>w) (λ _ _=>rfl) (by omega),C:=y.C.mono (by omega)},Own.nil ..,λ z q=>(q.1 rfl).elim⟩
 unfold CS.step;simp only;cases qb:c.Cl with
 |true =>
  rw[xb rfl];simp only[ae,bc,vf,xf9,aB,ca,<-e1,l1,W,en,D,qb];exact⟨_,rfl,done⟩
 |false =>
 rw[qv (by decide)];cases qh:c.halted with
 |true =>
  rw[xb rfl];simp only[ae,bc,vf,xf9,aB,ca,<-e1,l1,W,en,D,qb,N,qh];exact⟨_,rfl,done⟩
 |false =>
 rw[qv (by decide)];obtain⟨Ha,x,s1,s2,l,P,fa⟩:=y.open;have pd:H.au≠X.p:=λ e=>by have:=y.c.op;rw[<-e,od]at this;cases this
 have la:Op.ah [.ptr H.au 0] Ha=B1 (.ptr X.p 0):=vd (pS (fa.ai _ (by omega) pd) Y) 0;have g2:=pS (P.ai _ (by omega) pd) Y;have l2:Op.ah [.ptr H.au 0] x=B1 (.ptr X.p 0):=vd g2 0;have n2:=P.au;have ld:B8 x (aP o H.au 0) X.B bs H.au:=⟨by omega,od,λ w=>by have:=h.b.low w;omega⟩
 have mk:Op.bB yi 0 [.ptr H.au 0]=B1 (.fn (.func yi) [] [.ptr H.au 0]):=rfl;have Z:pQ x:=by
  have a:pQ H1:=hS.em f1;have ne:¬On X.p jq:=λ(e:jq=X.p)=>by have:=h.c.op;rw[<-e,oG]at this;cases this
  exact⟨(P.cells a.2 ne).trans a.1,qn a.2 P.au⟩
 have I:=sD (M:=M) l.c.la;have lv:=Kx (M:=M) l (by omega);have id0:=l.node.1;have U:∀K,C3 M B4 (.func Tt) [.ptr X.B 0,.int .i64 c.id] x K=K B4 (.int .i64 (CS.node ⟨c,b,[]⟩).code) x:=eB (by
  have:=xj6 (M:=M) l.b (l.bb (by omega)) l.node.2;rw[KC id0]at this;exact this)
 have fin:∀{m:Nat}{S:CS}{i:ar}{o3:Nat->Nat}{G f:AV}{L:Bs}{A:Nat->Nat}{V3:Int->L8},m<=n+2->dP (X.at x (aP o H.au 0) bs) m S i o3 G f L A V3->Op.ah [.ptr H.au 0] i=B1 (.ptr X.p 0)/\Op.ah [.ptr X.p 22] i=B1 f /\ ∃v j,kC M yi [.ptr H.au 0] (B1 []) i (.ret v) (B1 []) j/\KT X (n+2) S j f:=λ hm q=>by
  have l3:=vd (pS (q.lo ld).2 g2) 0;have q':=l.ta q;obtain⟨Hc,j,t1,t2,r,ow,o6,_⟩:=q'.close;obtain⟨v,hv⟩:=xjx (M:=M) l3 t1 t2;exact⟨l3,q'.c.row.ld 22,v,j,hv,_,_,_,_,_,{r with c:=r.c.fr (Fr.refl _) (λ _ _ _ w=>w) (λ _ _=>rfl) (by omega),C:=r.C.mono (by omega)},ow,o6⟩
 simp only[ae,bc,vf,xd7,aB,ca,<-e1,l1,W,en,D,qb,N,qh,s1,la,s2];refine⟨_,_,_,rfl,?_⟩
 -- the deferred call
 have go:∀{v:AV}{i:ar}{S:CS},KT X (n+2) S i v -> ∀{T:ar}{u:AV},kC M yi [.ptr H.au 0] (B1 []) T (.ret u) (B1 []) i -> ∀{E:Env},lk E 4=B1 v->lk E 5=B1 (.int .i64 0)->eU M [.tmp 4,.tmp 5] (uI λ v H'=>∃ov,v=.tuple [ov,.int .i64 0]/\KT X (n+2) S H' ov) .ret E [.fn (.func yi) [.ptr H.au 0]] T:=λ{v i S}hR{T u}hu{E}E4 E5=>by
  refine⟨u,[],i,hu,bR.intro (m:=aI) (a:=B5) rfl ?_⟩;show jF E i [.tmp 4,.tmp 5] _;simp only[ae,bc,E4,E5];exact⟨v,rfl,hR⟩
 -- the core acts
 have act:zj M Vv [.ptr X.p 0] x λ _ i=>∃f u j,Op.ah [.ptr H.au 0] i=B1 (.ptr X.p 0)/\Op.ah [.ptr X.p 22] i=B1 f/\kC M yi [.ptr H.au 0] (B1 []) i (.ret u) (B1 []) j/\KT X (n+2) (CS.act ⟨c,b,[]⟩) j f:=(Q4 (M:=M) l.re hk (x9 _) Z).mono λ _ i⟨o3,G,f,L,A,V3,q⟩=>by
  obtain⟨l3,g,u,j,hu,hR⟩:=fin (qm _) q;exact⟨f,u,j,l3,g,hu,hR⟩
 cases J:c.la.qO with
 |false =>
  rw[qv (λ w=>by cases w.1)];simp only[ae,bc,aB,l2,l.c.bq,I,J];refine C3.q act λ _ i⟨f,u,j,l3,g,hu,hR⟩=>?_;simp only[ae,bc,vf,aB,l3,g];exact go hR hu rfl rfl
 |true =>
  by_cases F:c.ph=1
  .rw [qv (λ w=>w.2.1 F)];have n1:¬(1:Int)≠1:=λ q=>q rfl;simp only[ae,bc,aB,l2,l.c.bq,I,J,F,n1];refine C3.q act λ _ i⟨f,u,j,l3,g,hu,hR⟩=>?_;simp only[ae,bc,vf,aB,l3,g];exact go hR hu rfl rfl
  cases R:(CS.node ⟨c,b,[]⟩).live with
  |true =>
   rw[qv (λ w=>by cases w.2.2)];simp only[ae,bc,aB,l2,l.c.bq,I,J,F,SX.pv,wM,SN,lv,R];refine C3.q act λ _ i⟨f,u,j,l3,g,hu,hR⟩=>?_;simp only[ae,bc,vf,aB,l3,g];exact go hR hu rfl rfl
  |false =>
   rw[xb ⟨rfl,F,rfl⟩];have ab:∀d,d=CS.qR ⟨c,b,[]⟩->zj M YZ [.ptr X.p 0,.int .i64 d] x λ _ i=>∃f u j,Op.ah [.ptr H.au 0] i=B1 (.ptr X.p 0)/\Op.ah [.ptr X.p 22] i=B1 f/\kC M yi [.ptr H.au 0] (B1 []) i (.ret u) (B1 []) j/\KT X (n+2) (CS.abort ⟨c,b,[]⟩ (CS.qR ⟨c,b,[]⟩)) j f:=λ d e=>(J' (M:=M) (s:=⟨c,b,[]⟩) l.c (x9 _) d).mono λ _ i⟨o3,G,f,h3,a3,f3⟩=>by
    subst e;obtain⟨l3,g,u,j,hu,hR⟩:=fin (by omega) (l.re.HI (t:=CS.abort ⟨c,b,[]⟩ (CS.qR ⟨c,b,[]⟩)) rfl rfl h3 a3 f3 (qm _));exact⟨f,u,j,l3,g,hu,hR⟩
   by_cases O:(CS.node ⟨c,b,[]⟩).code<1
   .simp only[ae,bc,vf,aB,l2,l.c.bq,I,J,F,SX.pv,wM,SN,lv,R,Xd,U,O];refine C3.q (ab 5 (by unfold CS.qR;rw[xb (.inl O)])) λ _ i⟨f,u,j,l3,g,hu,hR⟩=>?_;simp only[ae,bc,vf,aB,l3,g];exact go hR hu rfl rfl
   by_cases Q:6<(CS.node ⟨c,b,[]⟩).code
   .simp only[ae,bc,vf,aB,l2,l.c.bq,I,J,F,SX.pv,wM,SN,lv,R,Xd,U,O,Q];refine C3.q (ab 5 (by unfold CS.qR;rw[xb (.inr Q)])) λ _ i⟨f,u,j,l3,g,hu,hR⟩=>?_;simp only[ae,bc,vf,aB,l3,g];exact go hR hu rfl rfl
   .simp only[ae,bc,vf,aB,l2,l.c.bq,I,J,F,SX.pv,wM,SN,lv,R,Xd,U,O,Q];refine C3.q (ab _ (by unfold CS.qR;rw[qv (λ w=>w.elim O Q)])) λ _ i⟨f,u,j,l3,g,hu,hR⟩=>?_;simp only[ae,bc,vf,aB,l3,g];exact go hR hu rfl rfl
end
end Go.Am
