import Derived.Test.YtgjdmncoonceaaaGreatDoorAmTZk
import Derived.Test.YtgjdmncoonceaaaGreatDoorAmTZf
set_option linter.defProp false
set_option linter.unusedVariables false
set_option linter.unusedSimpArgs false
set_option linter.unusedSectionVars false
set_option maxRecDepth 100000
open Bool renaming false→B2,true→B4
open False renaming elim→ND
open Option renaming none→B5,some→B1
open Nat renaming reduceEqDiff→bc
namespace Go.Am
open Lang Go.Proofs
variable{M:ak}[MK M]
def yK.wQ{b:Bu}(h:yK b)(i:Nat):yK (b.wQ i):=by
 unfold Bu.wQ;cases hm:b.fl[i]? with
 |none=>exact h
 |some m =>
  have g:=h.f m (zd hm);have d:qF (b.fl.eraseIdx i):=λ x q=>h.f x (List.mem_of_mem_eraseIdx q);simp only;split
  .cases j:b.l[m.line.toNat]? with
   |none=>exact h
   |some x =>
    cases hw:b.m[m.line.toNat]? with
    |none=>exact h
    |some w =>
     have⟨a,c⟩:=De.Kz x (h.m w (zd hw)) g;exact⟨λ y q=>(FV q).elim (h.m y) λ e=>e▸a,h.n,d.app c⟩
  .cases hn:b.ns[m.core.toNat]? with
   |none=>exact h
   |some n =>
    have⟨a,c⟩:=No.U.bT (h.n n (zd hn)) g;exact⟨h.m,λ y q=>(FV q).elim (h.n y) λ e=>e▸a,d.app c⟩
def yK.step{b:Bu}(h:yK b)(x:Bt)(d:fL x.v):yK (b.step x):=by
 unfold Bu.step;split
 .split
  .exact h.wQ _
  .exact h
 split
 .cases hn:b.ns[x.c.toNat]? with
  |none=>exact h
  |some n =>
   have a:=h.n n (zd hn);simp only;unfold No.call;split
   .exact h.put _ (No.U.load a _).1 (No.U.load a _).2.2
   split
   .exact h.put _ (No.U.store a _ d).1 (No.U.store a _ d).2
   split
   .exact h.put _ (No.U.mV a _ _ d).1 (No.U.mV a _ _ d).2
   split
   .exact h.put _ (No.U.begin a) .nil
   split
   .exact h.put _ (No.U.bt a) .nil
   split
   .exact h.put _ (No.U.abort a _) .nil
   split
   .exact h.put _ (No.U.db a _).1 (No.U.db a _).2
   .exact h.put _ a .nil
 .exact h
def Yc{b:Bu}{x:Bt}{n:No}(hk:x.k≠7)(a:0<=x.c)(hn:b.ns[x.c.toNat]? = B1 n):b.step x=b.put x.c.toNat (n.call x):=by
 unfold Bu.step;rw[qy hk,xg a,hn]
structure SX where
 H:ar
 o:Nat->Nat
 W:Nat->Prop
 p:Nat
 f:Nat
 l:Nat
 sp:Nat
 B:Nat
 cv:AV
 Hb:ar
 k:Nat
abbrev SX.pv(X:SX):AV:=.iface wN (.ptr X.B 0)
structure dP(X:SX)(n:Nat)(s:CS)(H:ar)(o:Nat->Nat)(rv ov:AV)(bs:Bs)(own:Nat->Nat)(V:Int->L8):Prop where
 c:dU H o X.p X.f X.l X.sp X.cv rv ov X.pv s.c s.o (X.k+n)
 b:eL X.Hb H X.B bs s.b own
 I:BuI s.b V
 C:BC s.b (X.k+n)
 U:yK s.b
 nn:s.c.id<s.b.ns.length
 dj:∀z,gJ X.B bs z->o z=0
 hb:∀z,z<H.au->o z≠0->X.Hb.au<=z
 go:∀z,z<H.au->o z≠0->(z<X.H.au/\X.o z≠0)\/X.H.au<=z
 gb:∀z,gJ X.B bs z->X.W z\/X.H.au<=z
 fr:Fr (λ z=>X.o z≠0\/X.W z) X.H H
def mi(X:SX)(n:Nat)(s:CS)(H:ar):Prop:=∃o rv ov bs own V,dP X n s H o rv ov bs own V
section
variable{X:SX}{n n':Nat}{s t:CS}{H H':ar}{o:Nat->Nat}{rv ov:AV}{bs:Bs}{own:Nat->Nat}{V:Int->L8}
def dP.hn(h:dP X n s H o rv ov bs own V):X.Hb.au<=H.au:=by
 have:=h.b.lo X.B (.inl rfl);have:=h.b.lt;omega
def dP.HD(h:dP X n s H o rv ov bs own V){o':Nat->Nat}{rv' ov':AV}(hb:t.b=s.b)(d:t.c.id=s.c.id)(g:dU H' o' X.p X.f X.l X.sp X.cv rv' ov' X.pv t.c t.o (X.k+n'))(a:∀z,z<H.au->o' z=o z)(f:Fr (λ z=>o z≠0) H H')(hn:n<=n'):dP X n' t H' o' rv' ov' bs own V:=by
 have i:=h.hn;have fn:=f.au;have j:=h.fr.au;refine⟨g,?_,by rw[hb];exact h.I,by rw[hb];exact h.C.mono (by omega),by rw[hb];exact h.U,by rw[hb,d];exact h.nn,λ z q=>(a z (h.b.low q)).trans (h.dj z q),λ z q e=>?_,λ z q e=>?_,h.gb,h.fr.trans f λ z q=>?_⟩
 .rw [hb];refine h.b.fr (f.mono (W':=λ z=>o z≠0/\z<H.au) λ z w q=>⟨q,w⟩) λ z⟨q,w⟩=>⟨h.hb z w q,λ e=>q (h.dj z e)⟩
 .rcases xz z H.au with w|w
  .rw [a z w]at e;exact h.hb z w e
  .omega
 .rcases xz z H.au with w|w
  .rw [a z w]at e;exact h.go z w e
  .exact .inr (by omega)
 .rcases xz z H.au with w|w
  .exact (h.go z w q).imp (λ e=>.inl e.2) id
  .exact .inr (by omega)
def dP.co(h:dP X n s H o rv ov bs own V)(hb:t.b=s.b)(d:t.c.id=s.c.id)(hp:hO H o X.p X.f X.l X.sp X.cv X.pv t.c t.o (X.k+n') H')(hn:n<=n'):mi X n' t H':=by
 have⟨o',rv',ov',e,a,f⟩:=hp;exact⟨o',rv',ov',bs,own,V,h.HD hb d e a f hn⟩
def mi.mono(h:mi X n s H)(hn:n<=n'):mi X n' s H:=by
 have⟨o,rv,ov,bs,own,V,q⟩:=h;exact⟨o,rv,ov,bs,own,V,{q with c:=q.c.fr (Fr.refl H) (λ _ _ _ w=>w) (λ _ _=>rfl) (by omega),C:=q.C.mono (by omega)}⟩
def dP.em(h:dP X n s H o rv ov bs own V)(f:Fr Em H H'):∃o',dP X n s H' o' rv ov bs own V/\(∀z,z<H.au->o' z=o z) /\ ∀z,H.au<=z->o' z=0:=by
 have ho:∀z,z<H.au->aQ o H.au 0 z=o z:=λ z q=>ww q;refine⟨aQ o H.au 0,{h with c:=h.c.fr f (λ _ _ _ q=>q) ho (qm _),b:=h.b.em f,dj:=λ z q=>(ho z (h.b.low q)).trans (h.dj z q),hb:=λ z q e=>?_,go:=λ z q e=>?_,fr:=h.fr.em f},ho,λ z q=>ny q⟩
 .rcases xz z H.au with w|w
  .rw [ho z w]at e;exact h.hb z w e
  .rw [ny w]at e;exact(e rfl).elim
 .rcases xz z H.au with w|w
  .rw [ho z w]at e;exact h.go z w e
  .rw [ny w]at e;exact(e rfl).elim
def dP.bu(h:dP X n s H o rv ov bs own V){x:Bt}(p:x.k≠7)(m:fL x.v)(hp:kC X.Hb H X.B bs (s.b.step x) H'):mi X (n+1) {s with b:=s.b.step x} H':=by
 have⟨a,d,j,g,f⟩:=hp;have ho:∀z,z<H.au->Go.Am.aQ o H.au 0 z=o z:=λ z q=>ww q;have l:=h.hn;have fn:=f.au;have r:=h.fr.au;have hl:(s.b.step x).ns.length=s.b.ns.length:=by
  unfold Bu.step;rw[qy p];split
  .split
   .rfl
   .show (s.b.ns.set _ _).length=_;rw[ze]
  .rfl
 have i:=EC h.I x;refine⟨Go.Am.aQ o H.au 0,rv,ov,a,d,_,h.c.fr f (λ z q e w=>e (h.dj z w)) ho (by omega),j,i,Bc h.C x,h.U.step x m,by show s.c.id<((s.b.step x).ns.length:Int);rw[hl];exact h.nn,λ z q=>?_,λ z q e=>?_,λ z q e=>?_,λ z q=>?_,h.fr.trans f λ z q=>?_⟩
 .rcases g z q with w|w
  .exact (ho z (h.b.low w)).trans (h.dj z w)
  .exact ny w
 .rcases xz z H.au with w|w
  .rw [ho z w]at e;exact h.hb z w e
  .rw [ny w]at e;exact(e rfl).elim
 .rcases xz z H.au with w|w
  .rw [ho z w]at e;exact h.go z w e
  .rw [ny w]at e;exact(e rfl).elim
 .rcases g z q with w|w
  .exact h.gb z w
  .exact .inr (by omega)
 .exact (h.gb z q).imp .inr id
def SX.at(X:SX)(H:ar)(o:Nat->Nat)(bs:Bs):SX:={X with H:=H,o:=o,W:=gJ X.B bs}
def dP.re(h:dP X n s H o rv ov bs own V):dP (X.at H o bs) n s H o rv ov bs own V :=
 {h with go:=λ z q e=>.inl ⟨q,e⟩,gb:=λ z q=>.inl q,fr:=Fr.refl H}
def dP.sD(h:dP X n s H o rv ov bs own V){o2:Nat->Nat}{f d:AV}{c:Bs}{b:Nat->Nat}{i:Int->L8}(q:dP (X.at H o bs) n' t H' o2 f d c b i):dP X n' t H' o2 f d c b i:=by
 have g:=h.fr.au;refine{q with go:=λ z a e=>?_,gb:=λ z a=>?_,fr:=h.fr.trans q.fr λ z a=>?_}
 .rcases q.go z a e with⟨w,r⟩|w
  .exact h.go z w r
  .exact .inr (xx g w)
 .rcases q.gb z a with w|w
  .exact h.gb z w
  .exact .inr (xx g w)
 .rcases a with a|a
  .rcases xz z H.au with w|w
   .exact (h.go z w a).imp (λ r=>.inl r.2) id
   .exact .inr (xx g w)
  .exact (h.gb z a).imp .inr id
theorem dP.back(h:dP X n s H o rv ov bs own V)(f:mi (X.at H o bs) n' t H'):mi X n' t H':=by
 have⟨o2,d,c,b,a,e,q⟩:=f;exact⟨o2,d,c,b,a,e,h.sD q⟩
def EE(H:ar)(o:Nat->Nat)(B:Nat)(bs:Bs)(z:Nat):Prop:=z<H.au/\o z=0 /\ ¬gJ B bs z
def dP.lo{b:ar}{o2:Nat->Nat}{a:Bs}(q:dP (X.at H o bs) n' t b o2 rv ov a own V){z:Nat}(h:EE H o X.B bs z):EE b o2 X.B a z/\b.get z=H.get z:=by
 have fn:=q.fr.au;refine⟨⟨qn h.1 fn,?_,λ w=>?_⟩,q.fr.ah z h.1 λ w=>w.elim (λ e=>e h.2.1) h.2.2⟩
 .rcases Nat.eq_zero_or_pos (o2 z)with w|w
  .exact w
  .rcases q.go z (qn h.1 fn) (by omega)with⟨_,r⟩|r
   .exact (r h.2.1).elim
   .have:=h.1;exact absurd r (Nat.not_le.2 this)
 .rcases q.gb z w with r|r
  .exact h.2.2 r
  .have:=h.1;exact absurd r (Nat.not_le.2 this)
def dP.pY(h:dP X n s H o rv ov bs own V){d:Nat}(a:EE H o X.B bs d)(g:X.H.au<=d)(hb:X.Hb.au<=d)(e:bE):dP X n s (H.set d e) o rv ov bs own V:=by
 have f:Fr (On d) H (H.set d e):=(Fr.refl H).set (W:=On d) (.inl rfl) _;exact{h with c:=h.c.fr f (λ z _ q(r:z=d)=>q (by rw[r];exact a.2.1)) (λ _ _=>rfl) (qm _),b:=h.b.fr f λ z(r:z=d)=>⟨by omega,by rw[r];exact a.2.2⟩,fr:=h.fr.trans f λ z(r:z=d)=>.inr (by omega)}
def dP.loc(h:dP X n s H o rv ov bs own V)(f:Fr Em H H'):∃o',dP X n s H' o' rv ov bs own V /\ ∀z,(H.au<=z/\z<H'.au->EE H' o' X.B bs z)/\(EE H o X.B bs z->EE H' o' X.B bs z):=by
 have⟨o',c,a,b⟩:=h.em f;refine⟨o',c,λ z=>⟨λ q=>⟨q.2,b z q.1,λ w=>by have:=h.b.low w;omega⟩,λ q=>⟨qn q.1 f.au,(a z q.1).trans q.2.1,q.2.2⟩⟩⟩
end
def wH(t:Nat)(v:AV):Op.nilCheck [.iface t v]=B1 (.iface t v):=rfl
def Kg:M.kI wN "Load" = B1 T1:=(MK.mt _ _).trans (by kernel_rfl)
def Ge:M.kI wN "Store" = B1 S0:=(MK.mt _ _).trans (by kernel_rfl)
def Pz:M.kI wN "Cas" = B1 Uq:=(MK.mt _ _).trans (by kernel_rfl)
def xmb:M.kI wN "Begin" = B1 Tl:=(MK.mt _ _).trans (by kernel_rfl)
def XH:M.kI wN "Commit" = B1 T6:=(MK.mt _ _).trans (by kernel_rfl)
def XS:M.kI wN "Abort" = B1 NL:=(MK.mt _ _).trans (by kernel_rfl)
def TU:M.kI wN "Live" = B1 R3:=(MK.mt _ _).trans (by kernel_rfl)
def Zl:M.kI wN "Code" = B1 Tm:=(MK.mt _ _).trans (by kernel_rfl)
section
variable{X:SX}{n n':Nat}{s t:CS}{H H':ar}{o:Nat->Nat}{rv ov:AV}{bs:Bs}{own:Nat->Nat}{V:Int->L8}
def dP.node(h:dP X n s H o rv ov bs own V):0<=s.c.id/\s.b.ns[s.c.id.toNat]? = B1 s.node:=by
 have a:=h.c.w.id;have hn:=h.nn;refine⟨a,?_⟩;have hl:s.c.id.toNat<s.b.ns.length:=by omega
 unfold CS.node;rw[xf hl];rfl
def dP.bb(h:dP X n s H o rv ov bs own V)(hk:X.k+n<=90000):BB s.b:=h.C.bb h.I (by omega)
def dP.AH(h:dP X n s H o rv ov bs own V)(k v:Int)(a w:Int)(hk:k≠7):s.b.step ⟨k,s.c.id,a,v,w⟩=s.b.put s.c.id.toNat (s.node.call ⟨k,s.c.id,a,v,w⟩):=Yc hk h.node.1 h.node.2
def PD(h:dP X n s H o rv ov bs own V)(hk:X.k+n<=90000)(a:Int):zb M VI [.ptr X.p 0,.int .i64 a] H λ v H'=>v=.tuple [.int .u64 (s.kW a).1,.bool (s.kW a).2]/\fL (s.kW a).1/\mi X (n+1) (s.ld a) H':=by
 refine qz5 ?_;have hu:fL (s.kW a).1:=(No.U.load (h.U.n s.node (zd h.node.2)) a).2.1;simp only[aa,bc,qz6,aw,h.c.bm,SX.pv,wH,Kg];refine C3.q (xka h.b (h.bb hk) h.node.1 h.node.2 a) λ v H1⟨d,hp⟩=>?_;subst d;have e:=h.AH 0 0 a 0 (by decide);have st:mi X (n+1) (s.ld a) H1:=h.bu (x:=⟨0,s.c.id,a,0,0⟩) (by show(0:Int)≠7;decide) bJ (by rw[e];exact hp);cases q:(s.node.load a).2.2.1 with
 |false =>
  have e2:(s.kW a).2=false:=by unfold CS.kW;rw[q];rfl
  have e1:(s.kW a).1=(s.node.load a).2.1:=rfl;simp only[aa,bc,aw,e2,e1];exact⟨hu,st⟩
 |true =>
  have e2:(s.kW a).2=decide ((s.node.load a).2.2.2.2=0):=by unfold CS.kW;rw[q];rfl
  have e1:(s.kW a).1=(s.node.load a).2.1:=rfl;simp only[aa,bc,aw,e2,e1];exact⟨hu,st⟩
def Qo(h:dP X n s H o rv ov bs own V)(hk:X.k+n<=90000)(a:Int){v:Int}(d:fL v):zb M qmz [.ptr X.p 0,.int .i64 a,.int .u64 v] H λ w H'=>w=.bool (s.vZ a v)/\mi X (n+1) (s.st a v) H':=by
 refine qxk ?_;simp only[aa,bc,qxl,aw,h.c.bm,SX.pv,wH,Ge];refine C3.q (xh3 h.b (h.bb hk) h.node.1 h.node.2 a v) λ w H1⟨hw,hp⟩=>?_;subst hw;have e:=h.AH 1 v a 0 (by decide);have st:mi X (n+1) (s.st a v) H1:=h.bu (x:=⟨1,s.c.id,a,v,0⟩) (by show(1:Int)≠7;decide) d (by rw[e];exact hp);cases q:(s.node.store a v).2.1 with
 |false =>
  have e2:s.vZ a v=false:=by unfold CS.vZ;rw[q];rfl
  simp only[aa,bc,aw,e2];exact st
 |true =>
  have e2:s.vZ a v=decide ((s.node.store a v).2.2.2=0):=by unfold CS.vZ;rw[q];rfl
  simp only[aa,bc,aw,e2];exact st
def J3(h:dP X n s H o rv ov bs own V)(hk:X.k+n<=90000)(a w:Int){v:Int}(d:fL v):zb M ν [.ptr X.p 0,.int .i64 a,.int .u64 w,.int .u64 v] H λ r H'=>r=.tuple [.bool (s.Ac a w).1,.bool (s.Ac a w).2]/\mi X (n+1) (s.cs a w v) H':=by
 refine q37 ?_;simp only[aa,bc,q38,aw,h.c.bm,SX.pv,wH,Pz];refine C3.q (ae2 h.b (h.bb hk) h.node.1 h.node.2 a w v) λ r H1⟨hr,hp⟩=>?_;subst hr;have e:=h.AH 2 v a w (by decide);have st:mi X (n+1) (s.cs a w v) H1:=h.bu (x:=⟨2,s.c.id,a,v,w⟩) (by show(2:Int)≠7;decide) d (by rw[e];exact hp);have e1:(s.Ac a w).1=(s.node.jP a w).1:=rfl;cases q:(s.node.jP a w).2.1 with
 |false =>
  have e2:(s.Ac a w).2=false:=by unfold CS.Ac;rw[q];rfl
  simp only[aa,bc,aw,e2,e1];exact st
 |true =>
  have e2:(s.Ac a w).2=decide ((s.node.jP a w).2.2=0):=by unfold CS.Ac;rw[q];rfl
  simp only[aa,bc,aw,e2,e1];exact st
def nz(h:dP X n s H o rv ov bs own V)(hk:X.k+n<=90000):zb M Tl [.ptr X.B 0,.int .i64 s.c.id] H λ _ H'=>mi X (n+1) (s.lG 3 0 0 0) H' :=
 (xhr h.b (h.bb hk) h.node.1 h.node.2).mono λ _ H1⟨_,hp⟩=>h.bu (x:=⟨3,s.c.id,0,0,0⟩) (by show(3:Int)≠7;decide) bJ (by rw[h.AH 3 0 0 0 (by decide)];exact hp)
def Vg(h:dP X n s H o rv ov bs own V)(hk:X.k+n<=90000):zb M T6 [.ptr X.B 0,.int .i64 s.c.id] H λ _ H'=>mi X (n+1) (s.lG 4 0 0 0) H' :=
 (xd8 h.b (h.bb hk) h.node.1 h.node.2).mono λ _ H1⟨_,hp⟩=>h.bu (x:=⟨4,s.c.id,0,0,0⟩) (by show(4:Int)≠7;decide) bJ (by rw[h.AH 4 0 0 0 (by decide)];exact hp)
def XT(h:dP X n s H o rv ov bs own V)(hk:X.k+n<=90000)(c:Int):zb M NL [.ptr X.B 0,.int .i64 s.c.id,.int .i64 c] H λ _ H'=>mi X (n+1) (s.lG 5 c 0 0) H' :=
 (q8z h.b (h.bb hk) h.node.1 h.node.2 c).mono λ _ H1 hp=>h.bu (x:=⟨5,s.c.id,c,0,0⟩) (by show(5:Int)≠7;decide) bJ (by rw[h.AH 5 0 c 0 (by decide)];exact hp)
def MJ(h:dP X n s H o rv ov bs own V)(hk:X.k+n<=90000):∀K,C3 M B4 (.func R3) [.ptr X.B 0,.int .i64 s.c.id] H K=K B4 (.bool s.node.live) H:=dC (xbd h.b (h.bb hk) h.node.1 h.node.2)
end
end Go.Am
namespace Go.Am
open Lang Go.Proofs
variable{M:ak}[MK M]
section
variable{X:SX}{n n':Nat}{s t:CS}{H H':ar}{o:Nat->Nat}{rv ov:AV}{bs:Bs}{own:Nat->Nat}{V:Int->L8}
def dP.here(h:dP X n s H o rv ov bs own V):mi X n s H:=⟨o,rv,ov,bs,own,V,h⟩
def dP.eF(h:dP X n s H o rv ov bs own V)(hn:n<=n'):mi X n' s H:=h.here.mono hn
def dP.on(h:dP X n s H o rv ov bs own V){d:Co}{rv':AV}(a:d.id=s.c.id)(f:Fr (On X.p) H H')(g:dU H' o X.p X.f X.l X.sp X.cv rv' ov X.pv d s.o (X.k+n)):dP X n {s with c:=d} H' o rv' ov bs own V:=by
 have i:=h.hn;have fn:=f.au;have j:=h.fr.au;have hp:=h.c.op;refine{h with c:=g,b:=?_,nn:=by show d.id<_;rw[a];exact h.nn,hb:=λ z q e=>?_,go:=λ z q e=>?_,fr:=h.fr.trans f λ z(q:z=X.p)=>?_}
 .refine h.b.fr (f.mono (W':=λ z=>o z≠0/\z<H.au) λ z w(q:z=X.p)=>⟨by rw[q,hp];decide,w⟩) λ z⟨q,w⟩=>⟨h.hb z w q,λ e=>q (h.dj z e)⟩
 .rcases xz z H.au with w|w
  .exact h.hb z w e
  .omega
 .rcases xz z H.au with w|w
  .exact h.go z w e
  .exact .inr (by omega)
 .rw [q];exact(h.go X.p h.c.row.2 (by rw[hp];decide)).imp (λ e=>.inl e.2) id
theorem dP.put(h:dP X n s H o rv ov bs own V)(i:Nat){v:AV}(d:Co)(a:aD v=B4)(e:i<24)(he:(cQ s.c X.f X.l X.sp X.cv rv ov X.pv).set i v=cQ d X.f X.l X.sp X.cv rv ov X.pv)(hs:d.fi=s.c.fi/\d.la=s.c.la/\d.so=s.c.so/\d.code=s.c.code)(hr:d.aU=s.c.aU/\d.id=s.c.id)(hw:JR d (X.k+n)) :
 ∃H',Op.store 1 [.ptr X.p i,v] H=B1 (.undef,H')/\dP X n {s with c:=d} H' o rv ov bs own V:=by
 have⟨H1,s1,a,b⟩:=h.c.put i d a e he hs hr.1 hw;exact⟨H1,s1,h.on hr.2 b a⟩
def dP.want(h:dP X n s H o rv ov bs own V)(e:pI)(he:fL e.addr):∃H',Op.store 5 [.ptr X.p 7,.agg (bj e)] H=B1 (.undef,H')/\dP X n {s with c:={s.c with want:=e}} H' o rv ov bs own V:=by
 have s1:=h.c.row.fK (k:=7) (n:=5) (v:=.agg (bj e)) (by rw[zo];rfl) (by simp[cQ]) (by rw[zo];rfl);have e2:(cQ s.c X.f X.l X.sp X.cv rv ov X.pv).take 7++AV.cells (.agg (bj e))++(cQ s.c X.f X.l X.sp X.cv rv ov X.pv).drop (7+5)=cQ {s.c with want:=e} X.f X.l X.sp X.cv rv ov X.pv:=by rw[zo];rfl
 rw[e2]at s1;have⟨a,b⟩:=h.c.cell (d:={s.c with want:=e}) (k':=X.k+n) ⟨rfl,rfl,rfl,rfl⟩ (rv':=rv) ⟨h.c.rd,h.c.qB⟩ ⟨h.c.ou,h.c.qY⟩ h.c.FR {h.c.w with wu:=he};exact⟨_,s1,h.on rfl b a⟩
def dP.forget(h:dP X n s H o rv ov bs own V):∃H',Op.store 1 [.ptr X.p 13,.nils] H=B1 (.undef,H')/\dP X n {s with c:={s.c with aU:=[]}} H' o .nils ov bs own V:=by
 have s1:=h.c.row.st 13 (v:=.nils) rfl (by simp[cQ]);have⟨a,b⟩:=h.c.cell (d:={s.c with aU:=[]}) (k':=X.k+n) ⟨rfl,rfl,rfl,rfl⟩ (rv':=.nils) ⟨Own.nil ..,λ z q=>(q.1 rfl).elim⟩ ⟨h.c.ou,h.c.qY⟩ h.c.FR {h.c.w with ru:=λ y w=>(List.not_mem_nil w).elim,rl:=xw _,K7:=λ i x w=>by rw[List.getElem?_nil]at w;cases w};exact⟨_,s1,h.on rfl b a⟩
def jV:[AV.int .i64 0,.int .i64 0,.int .i64 0,.int .u64 0,.int .u64 0]=bj iy:=rfl
def RF:Op.build (bj iy) [] []=B1 (.agg (bj iy)):=rfl
def Jy(k:Int):Op.build (bj iy) [(0,1)] [.int .i64 k]=B1 (.agg (bj ⟨k,0,0,0,0⟩)):=rfl
def qq(s:CS):s.aC.b=s.b:=by unfold CS.aC;simp only;split<;>rfl
def yc(s:CS):s.aC.c.id=s.c.id:=by unfold CS.aC;simp only;split<;>rfl
def RJ(s:CS):s.dc.b=s.b:=qq s
def Pl(s:CS):s.dc.c.id=s.c.id:=yc s
def Ψ(h:dP X n s H o rv ov bs own V)(hk:X.k+n<=90000)(hl:s.o.length<=1000):zb M Xi [.ptr X.p 0] H λ _ H'=>mi X (n+1) s.dI H':=by
 refine qtx ?_;unfold CS.dI
 by_cases b:s.c.la.lane=0
 .rw [xg b];have⟨H1,s1,a⟩:=h.put 20 (v:=.bool B4) {s.c with halted:=B4} rfl (by decide) rfl ⟨rfl,rfl,rfl,rfl⟩ ⟨rfl,rfl⟩ {h.c.w with};have⟨u,s2,e⟩:=a.put 21 (v:=.bool B4) {s.c with halted:=B4,xV:=B4} rfl (by decide) rfl ⟨rfl,rfl,rfl,rfl⟩ ⟨rfl,rfl⟩ {h.c.w with};simp only[aa,bc,Sx,aw,h.c.bm,i9 h.c.la,qv b,s1,s2];exact e.eF (by omega)
 rw[qy b]
 by_cases d:s.c.la.lane=3
 .rw [xg d];simp only[aa,bc,Sx,aw,h.c.bm,i9 h.c.la,b,qv d,jV,RF];have⟨g,fv,hs⟩:=h.c.so;refine C3.q (xjs hs) λ _ H1 hp=>?_;have⟨o1,m,l,i,nN,y,a⟩:=h.co (t:=s.so .CY) rfl rfl (h.c.MY hp) (qm _);have⟨u,s2,e⟩:=a.want iy bJ;have⟨x,r,j⟩:=e.put 6 (v:=.int .i64 6) {(s.so .CY).c with want:=iy,ph:=6} rfl (by decide) rfl ⟨rfl,rfl,rfl,rfl⟩ ⟨rfl,rfl⟩ {e.c.w with};simp only[aa,bc,aw,s2,r];exact j.eF (by omega)
 rw[qy d]
 by_cases f:s.c.la.lane=4
 .rw [xg f];have⟨x,r,j⟩:=h.put 6 (v:=.int .i64 10) {s.c with ph:=10} rfl (by decide) rfl ⟨rfl,rfl,rfl,rfl⟩ ⟨rfl,rfl⟩ {h.c.w with};simp only[aa,bc,Sx,aw,h.c.bm,i9 h.c.la,b,d,qv f,r];exact j.eF (by omega)
 rw[qy f];simp only[aa,bc,Sx,aw,h.c.bm,i9 h.c.la,b,d,f,SX.pv,wH,XS];refine C3.q (XT h hk 7) λ _ H1⟨o1,m,l,i,nN,y,a⟩=>?_;simp only[aa,bc];refine C3.q (VZ (s:=s.lG 5 7 0 0) a.c hl) λ _ u hp=>?_;simp only[aa,bc];exact a.co (t:=(s.lG 5 7 0 0).breaks) rfl rfl hp (qm _)
def CS.Y_(s:CS):CS:={s.tell 1 0 0 0 with c:={s.c with aU:=[],done:=0,wrote:=B2,said:=B2}}
def CS.bg1(t:CS):CS :=
 if t.c.la.lane=1 then(t.lG 3 0 0 0).ph 2
 else if t.c.la.lane=2 then(t.lG 3 0 0 0).ph 3
 else if t.c.la.lane=3 then let u:=t.so .begin
  {u with c:={u.c with want:=⟨5,0,0,0,0⟩,ph:=6}}
 else t.ph 4
def xko(s:CS):s.lV=s.Y_.bg1:=rfl
def Eg(h:dP X n s H o rv ov bs own V)(hk:X.k+n<=90000)(hl:s.o.length<=1000):zb M Z2 [.ptr X.p 0] H λ _ H'=>mi X (n+1) s.lV H':=by
 refine qvi ?_;rw[xko];simp only[aa,bc,QC];refine C3.q (FE h.c hl 1 0 0 0) λ _ H1 hp=>?_;have⟨o1,Q,C,B,nN,N,O⟩:=h.co (t:=s.tell 1 0 0 0) rfl rfl hp (qm _);have⟨R,s2,F⟩:=O.forget;have⟨S,x,G⟩:=F.put 14 (v:=.int .i64 0) {s.c with aU:=[],done:=0} rfl (by decide) rfl ⟨rfl,rfl,rfl,rfl⟩ ⟨rfl,rfl⟩ {F.c.w with d0:=yP _};have⟨T,y,I⟩:=G.put 15 (v:=.bool B2) {s.c with aU:=[],done:=0,wrote:=B2} rfl (by decide) rfl ⟨rfl,rfl,rfl,rfl⟩ ⟨rfl,rfl⟩ {G.c.w with};have⟨L,z,a⟩:=I.put 17 (v:=.bool B2) {s.c with aU:=[],done:=0,wrote:=B2,said:=B2} rfl (by decide) rfl ⟨rfl,rfl,rfl,rfl⟩ ⟨rfl,rfl⟩ {I.c.w with};obtain⟨t,J⟩:∃t:CS,t=s.Y_:=⟨_,rfl⟩
 have a:dP X n t L o1 .nils C B nN N:=J▸a;rw[<-J];unfold CS.bg1;simp only;have ln:=i9 (M:=M) a.c.la
 by_cases i:t.c.la.lane=1
 .rw [xg i];simp only[aa,bc,QC,aw,s2,x,y,z,a.c.bm,ln,qv i,SX.pv,wH,xmb];refine C3.q (nz a hk) λ _ D⟨K,r,l,j,d,E,e⟩=>?_;have⟨A,f,b⟩:=e.put 6 (v:=.int .i64 2) {(t.lG 3 0 0 0).c with ph:=2} rfl (by decide) rfl ⟨rfl,rfl,rfl,rfl⟩ ⟨rfl,rfl⟩ {e.c.w with};simp only[aa,bc,aw,f];exact b.here
 rw[qy i]
 by_cases m:t.c.la.lane=2
 .rw [xg m];simp only[aa,bc,QC,aw,s2,x,y,z,a.c.bm,ln,i,qv m,SX.pv,wH,xmb];refine C3.q (nz a hk) λ _ D⟨K,r,l,j,d,E,e⟩=>?_;have⟨A,f,b⟩:=e.put 6 (v:=.int .i64 3) {(t.lG 3 0 0 0).c with ph:=3} rfl (by decide) rfl ⟨rfl,rfl,rfl,rfl⟩ ⟨rfl,rfl⟩ {e.c.w with};simp only[aa,bc,aw,f];exact b.here
 rw[qy m]
 by_cases u:t.c.la.lane=3
 .rw [xg u];simp only[aa,bc,QC,aw,s2,x,y,z,a.c.bm,ln,i,m,qv u,jV,Jy];have⟨g,fv,hs⟩:=a.c.so;refine C3.q (Mw hs) λ _ D hp=>?_;have⟨K,r,l,j,d,E,e⟩:=a.co (t:=t.so .begin) rfl rfl (a.c.MY hp) (qm _);have⟨A,f,b⟩:=e.want ⟨5,0,0,0,0⟩ bJ;have⟨U,s8,P⟩:=b.put 6 (v:=.int .i64 6) {(t.so .begin).c with want:=⟨5,0,0,0,0⟩,ph:=6} rfl (by decide) rfl ⟨rfl,rfl,rfl,rfl⟩ ⟨rfl,rfl⟩ {b.c.w with};simp only[aa,bc,aw,f,s8];exact P.eF (by omega)
 rw[qy u];have⟨A,f,b⟩:=a.put 6 (v:=.int .i64 4) {t.c with ph:=4} rfl (by decide) rfl ⟨rfl,rfl,rfl,rfl⟩ ⟨rfl,rfl⟩ {a.c.w with};simp only[aa,bc,QC,aw,s2,x,y,z,a.c.bm,ln,i,m,u,f];exact b.eF (by omega)
def GD(h:dP X n s H o rv ov bs own V)(hk:X.k+n<=90000)(hl:s.o.length<=1000):zb M qmy [.ptr X.p 0] H λ _ H'=>mi X (n+1) s.rp H':=by
 refine qxi ?_;unfold CS.rp;simp only;simp only[aa,bc,qxj,aw,h.c.bm];refine C3.q (J3 h hk 0 s.c.seq (Fz _)) λ r H1⟨hr,o1,x,m,i,nN,C,a⟩=>?_;subst hr;cases F:(s.Ac 0 s.c.seq).2 with
 |false =>
  rw[xg rfl];simp only[aa,bc,aw];exact a.here
 |true =>
  rw[qy (by decide)];cases E:(s.Ac 0 s.c.seq).1 with
  |true =>
   rw[xg rfl];simp only[aa,bc,aw];refine C3.q (FE (s:=s.cs 0 s.c.seq (aj .u64 (s.c.seq+1))) a.c hl 4 0 0 0) λ _ A hp=>?_;have⟨o2,y,u,j,f,D,e⟩:=a.co (t:=(s.cs 0 s.c.seq (aj .u64 (s.c.seq+1))).tell 4 0 0 0) rfl rfl hp (qm _);have⟨g,d,b⟩:=e.put 6 (v:=.int .i64 0) {s.c with ph:=0} rfl (by decide) rfl ⟨rfl,rfl,rfl,rfl⟩ ⟨rfl,rfl⟩ {e.c.w with};have⟨B,z,l⟩:=b.put 16 (v:=.bool B4) {s.c with ph:=0,held:=B4} rfl (by decide) rfl ⟨rfl,rfl,rfl,rfl⟩ ⟨rfl,rfl⟩ {b.c.w with};simp only[aa,bc,aw,d,z];exact l.here
  |false =>
   rw[qy (by decide)];have⟨g,d,b⟩:=a.put 6 (v:=.int .i64 4) {s.c with ph:=4} rfl (by decide) rfl ⟨rfl,rfl,rfl,rfl⟩ ⟨rfl,rfl⟩ {a.c.w with};simp only[aa,bc,aw,d];exact b.here
def L6(h:dP X n s H o rv ov bs own V)(hk:X.k+n<=90000)(hl:s.o.length<=1000):zb M f_ [.ptr X.p 0] H λ _ H'=>mi X (n+1) s.ends H':=by
 refine qz0 ?_;unfold CS.ends;have ln:=i9 (M:=M) h.c.la
 by_cases a:s.c.la.lane=3
 .rw [xg a];simp only[aa,bc,Qw,aw,h.c.bm,ln,qv a,jV,Jy];have⟨g,fv,hs⟩:=h.c.so;refine C3.q (xdp hs) λ _ I hp=>?_;have⟨N,F,E,B,u,L,C⟩:=h.co (t:=s.so .bt) rfl rfl (h.c.MY hp) (qm _);have⟨J,G,r⟩:=C.want ⟨6,0,0,0,0⟩ bJ;have⟨K,s8,D⟩:=r.put 6 (v:=.int .i64 6) {(s.so .bt).c with want:=⟨6,0,0,0,0⟩,ph:=6} rfl (by decide) rfl ⟨rfl,rfl,rfl,rfl⟩ ⟨rfl,rfl⟩ {r.c.w with};simp only[aa,bc,aw,G,s8];exact D.eF (by omega)
 rw[qy a]
 by_cases b:s.c.la.lane=4
 .rw [xg b];have⟨z,m,i⟩:=h.put 6 (v:=.int .i64 9) {s.c with ph:=9} rfl (by decide) rfl ⟨rfl,rfl,rfl,rfl⟩ ⟨rfl,rfl⟩ {h.c.w with};simp only[aa,bc,Qw,aw,h.c.bm,ln,a,qv b,m];exact i.eF (by omega)
 rw[qy b]
 by_cases e:s.c.la.lane=2
 .cases x:s.c.wrote with
  |true =>
   rw[xg ⟨e,rfl⟩];have⟨z,m,i⟩:=h.put 6 (v:=.int .i64 7) {s.c with ph:=7} rfl (by decide) rfl ⟨rfl,rfl,rfl,rfl⟩ ⟨rfl,rfl⟩ {h.c.w with};simp only[aa,bc,Qw,aw,h.c.bm,ln,a,b,qv e,x,m];exact i.eF (by omega)
  |false =>
   rw[qy (λ w=>by cases w.2)];simp only[aa,bc,Qw,aw,h.c.bm,ln,a,b,qv e,x,SX.pv,wH,XH];refine C3.q (Vg h hk) λ _ H1⟨o1,l,j,f,nN,A,d⟩=>?_;simp only[aa,bc];refine C3.q (Rr (s:=s.lG 4 0 0 0) d.c hl) λ _ y hp=>?_;simp only[aa,bc];exact d.co (t:=(s.lG 4 0 0 0).dc) (RJ _) (Pl _) hp (qm _)
 .rw [qy (λ w=>e w.1)];simp only[aa,bc,Qw,aw,h.c.bm,ln,a,b,e,SX.pv,wH,XH];refine C3.q (Vg h hk) λ _ H1⟨o1,l,j,f,nN,A,d⟩=>?_;simp only[aa,bc];refine C3.q (Rr (s:=s.lG 4 0 0 0) d.c hl) λ _ y hp=>?_;simp only[aa,bc];exact d.co (t:=(s.lG 4 0 0 0).dc) (RJ _) (Pl _) hp (qm _)
end
end Go.Am
namespace Go.Am
open Lang Go.Proofs
variable{M:ak}[MK M]
def iE(ps:List Pr)(a:Int):List (List AV):=match iA ps a with
 |some i=>[[.int .i64 (i:Int),.int .u64 (ps.getD i ⟨0,0⟩).v]]
 |none=>[]
def kV(ps:List Pr)(a:Int)(i:Nat):Nat:=match iA ps a with
 |some j=>if j<i then 1 else 0
 |none=>0
def HH(b:List Pr)(a:Int):kV b a 0=0:=by unfold kV;split<;>simp
def xlz(b:List Pr)(a:Int):kV b a b.length=(iE b a).length:=by
 unfold kV iE;cases h:iA b a with
 |none=>rfl
 |some j=>simp only;rw[xg (pL h).1];rfl
def DA{c:List Pr}{a:Int}{i:Nat}{x:Pr}(f:c[i]? = B1 x)(h:x.a≠a):kV c a (i+1)=kV c a i:=by
 unfold kV;cases q:iA c a with
 |none=>rfl
 |some j =>
  have:j≠i:=λ e=>by
   obtain⟨-,y,b,d⟩:=pL q;rw[e,f]at b;injection b with b;rw[b]at h;exact h d
  simp only
  by_cases w:j<i
  .rw [xg w,xg (by omega)]
  .rw [qy w,qy (by omega)]
def EK{b:List Pr}(d:tj b){i:Nat}{x:Pr}(c:b[i]? = B1 x):kV b x.a (i+1)=kV b x.a i+1/\(iE b x.a)[kV b x.a i]? = B1 [.int .i64 (i:Int),.int .u64 x.v]:=by
 have q:=d i x c;unfold kV iE;rw[q];simp only;rw[xg (by omega),qy (by omega),zt,c];exact⟨rfl,rfl⟩
def q8h{H0:ar}{k l p:Nat}{a:Int}{rv:AV}{c:List Pr}(g1:H0.get k=B1 (OR [.ptr p 0] AU))(g2:H0.get l=B1 (OR [.int .i64 a] cH))(l1:k<H0.au)(l2:l<H0.au)(hd:tj c)(hl:c.length<=1000000) :
 uT M Nw [] [.ptr k 0,.ptr l 0] (λ z=>z=k\/z=l) (λ _=>False) (λ _ H=>Op.ae [.ptr p 13] H=B1 rv/\bI cO 2 H rv c) H0 (iE c a):=by
 intro Y R S m H1 hnx U B J loc W hI step;have⟨p1,p2,p3⟩:=U k (.inl (.inl rfl));have⟨q1,O,P⟩:=U l (.inl (.inr rfl))
 suffices h:zb M Nw [.fn (.yield Y) [] [],.ptr k 0,.ptr l 0] H1 (I4 R S m (λ _=>False) H1 (iE c a).length)by
  have⟨v,H',hc,W',q1,O,P⟩:=h.elim;exact⟨v,H',W',hc,q1,O,P⟩
 refine qvm ?_;have lp:Op.ae [.ptr k 0] H1=B1 (.ptr p 0):=by rw[x9 (xb (by rw[p2];exact g1))];rfl
 have Z:∀{d:ar},Fr m H1 d->Op.ae [.ptr l 0] d=B1 (.int .i64 a):=λ f=>by rw[x9 (xb (by rw[f.ah _ (by omega) P,O];exact g2))];rfl
 have⟨lr,s0⟩:=hI 0 m H1 B;simp only[aa,bc,RK,lp,aw,lr,s0.len];refine cu.intro (λ n E d=>∃(i:Nat)(V:Nat->Prop),E=[(11,.int .i64 (i:Int)),(10,.int .i64 ((c.length:Nat):Int)),(9,rv),(0,.fn (.yield Y) [] []),(1,.ptr k 0),(2,.ptr l 0)]/\n=c.length-i/\i<=c.length/\LH R m H1 d (kV c a i) V) ?_ ?_
 .exact ⟨_,_,⟨0,m,rfl,rfl,xw _,⟨by rw[HH];exact B,λ b hb=>⟨J b hb,.inl hb⟩,Fr.refl _⟩⟩,by simp only[aa,bc]⟩
 rintro n E d ⟨i,V,rfl,rfl,hi,g⟩;rcases xz i c.length with L|hge
 .have F:(i:Int)<((c.length:Nat):Int):=by omega
  obtain⟨e,he⟩:∃e,c[i]? = B1 e:=⟨c[i],by simp[L]⟩
  obtain⟨-,sl⟩:=hI _ V d g.hR;have ix:Op.aR 2 [rv,.int .i64 (i:Int)]=B1 (NC rv i):=sl.idx he rfl .i64;have ld:Op.aq 2 [NC rv i] d=B1 (.agg (cO e)):=sl.aq D9 (by decide) he;have bx:=S6 (H1:=d) e;obtain⟨u,e2⟩:∃X,X=(d.alloc (OR [.int .i64 0,.int .u64 0] vx)).set d.au (OR (cO e) vx):=⟨_,rfl⟩
  rw[<-e2]at bx;have I:Fr Em d u:=by rw[e2];exact yU _ _
  have A:u.get d.au=B1 (OR (cO e) vx):=by rw[e2,xc]
  have yH:Op.ae [.ptr d.au 0] u=B1 (.int .i64 e.a):=x9 (xb A) 0;have N:Op.ae [.ptr d.au 1] u=B1 (.int .u64 e.v):=x9 (xb A) 1;have n2:=I.au;have j:=g.fr.em I;have wj:aj .i64 ((i:Int)+1)=((i+1:Nat):Int):=by rw[jc (by omega) (by omega)];omega
  have T:=loc _ _ _ _ g.hR (λ y r=>I.ah y (g.hV y r).1 id) n2
  by_cases q:e.a=a
  .subst q;have⟨k1,k2⟩:=EK hd he;have⟨bb,Q,G,hr,hf,D,ht,hs⟩:=step _ _ k2 V u T (λ y r=>⟨by have:=(g.hV y r).1;omega,(g.hV y r).2⟩) (j.mono λ _ _ q=>.inl q);have x:Fr m H1 Q:=j.trans hf λ y q=>(g.hV y q).2;have C:∀y,G y->y<Q.au/\(m y\/H1.au<=y):=λ y q=>⟨(D y q).1,(D y q).2.elim (λ w=>(g.hV y w).2) λ w=>.inr (by have:=g.fr.au;omega)⟩
   simp only[aa,bc,RK,F,ix,ld,bx,yH,N,Z j];refine C3.uZ hr ?_;cases bb with
   |true =>
    simp only[aa,bc,RK,wj];exact⟨_,_,⟨i+1,G,rfl,rfl,by omega,⟨by rw[k1];exact ht rfl,C,x⟩⟩,by simp only[aa,bc],by omega⟩
   |false =>
    simp only[aa,bc];exact⟨G,x.mono λ _ _ q=>.inl q,C,.inr (hs rfl)⟩
  .simp only[aa,bc,RK,F,ix,ld,bx,yH,Z j,q,wj];exact⟨_,_,⟨i+1,V,rfl,rfl,by omega,⟨by rw[DA he q];exact T,λ y r=>⟨by have:=(g.hV y r).1;omega,(g.hV y r).2⟩,j⟩⟩,by simp only[aa,bc],by omega⟩
 .have F:¬(i:Int)<((c.length:Nat):Int):=by omega
  have K:i=c.length:=by omega
  simp only[aa,bc,RK,F];exact⟨V,g.fr.mono λ _ _ q=>.inl q,g.hV,.inl (by rw[<-xlz,<-K];exact g.hR)⟩
end Go.Am
namespace Go.Am
open Lang Go.Proofs
variable{M:ak}[MK M]
def xcl{H:ar}(p:Nat)(a:Int):zb M Z' [.ptr p 0,.int .i64 a] H λ v H'=>v=.fn (.func Nw) [] [.ptr H.au 0,.ptr (H.alloc (OR [.ptr p 0] AU)).au 0]/\H'=(H.alloc (OR [.ptr p 0] AU)).alloc (OR [.int .i64 a] cH):=by
 refine qz3 ?_;have mk:∀b e,Op.bK Nw 0 [.ptr b 0,.ptr e 0]=B1 (.fn (.func Nw) [] [.ptr b 0,.ptr e 0]):=λ _ _=>rfl;simp only[aa,bc,qz4];rfl
section
variable{X:SX}{n n':Nat}{s t:CS}{H H':ar}{o:Nat->Nat}{rv ov:AV}{bs:Bs}{own:Nat->Nat}{V:Int->L8}
def p5{a:ar}{z t:Nat}{c:List AV}(h:a.get z=H.get z)(g:H.get z=B1 (OR c t)):a.get z=B1 (OR c t):=h.trans g
def vg{z t:Nat}{c:List AV}(g:H.get z=B1 (OR c t))(k:Nat):Op.ae [.ptr z k] H=c[k]?:=x9 (xb g) k
def Ex{z t:Nat}{e:pI}(g:H.get z=B1 (OR (bj e) t)):Op.aq 5 [.ptr z 0] H=B1 (.agg (bj e)):=rS (xb g) (by simp[bj])
def LA(X:SX)(n:Nat)(t:CS)(Hx:ar)(ox:Nat->Nat)(bsx:Bs)(Z:ar):Prop:=mi X (n+1) t Z /\ ∀d,EE Hx ox X.B bsx d->X.H.au<=d->X.Hb.au<=d->Z.get d=Hx.get d/\mi X (n+1) t (Z.set d (.deferred B5))
def KU(H4:ar)(o4:Nat->Nat)(p f l sp:Nat)(cv rv pv:AV)(c:Co)(os:List fk)(k:Nat)(W:Nat->Prop)(Hx:ar):Prop:=∃ox ovx,dU Hx ox p f l sp cv rv ovx pv c os k/\(∀z,z<H4.au->ox z=o4 z)/\(∀z,z<Hx.au->ox z≠0->W z)/\H4.au<=Hx.au
def KU.loc{e a Hb:ar}{g:Nat->Nat}{p f l sp k:Nat}{cv rv pv:AV}{c:Co}{os:List fk}{W:Nat->Prop}(h:KU e g p f l sp cv rv pv c os k W a)(hs:∀z,W z->Hb.get z=a.get z)(hn:a.au<=Hb.au):KU e g p f l sp cv rv pv c os k W Hb:=by
 have⟨m,b,u,v,i,j⟩:=h;refine⟨aQ m a.au 0,b,u.fr (W:=λ z=>¬W z) ⟨hn,λ z w q=>hs z (we.1 q)⟩ (λ z w q r=>r (i z w q)) (λ z q=>ww q) (qm _),λ z w=>?_,λ z w q=>?_,xx j hn⟩
 .rw [ww (qn w j)];exact v z w
 .rcases xz z a.au with r|r
  .rw [ww r]at q;exact i z r q
  .rw [ny r]at q;exact(q rfl).elim
def xkx(h:dP X n s H o rv ov bs own V)(hk:X.k+n<=90000)(hl:s.o.length<=1000)(e:pI)(hu:fL e.addr)(a:Int):zb M OK [.ptr X.p 0,.agg (bj e),.int .i64 a] H λ _ H'=>mi X (n+1) (s.oh e a) H':=by
 refine qxh ?_;obtain⟨H1,e1,f1,n1,-⟩:=bZ H (OR [.ptr X.p 0] AU);obtain⟨H2,e2,f12,-,g2⟩:=bZ H1 (OR (bj e) jk);have n2:H2.au=H.au+2:=by rw[e2,xy,n1]
 have g1:H2.get H.au=B1 (OR [.ptr X.p 0] AU):=by rw[f12.ah _ (by omega) id,e1,xp]
 have⟨o2,L,lo⟩:=h.loc (f1.em f12);have D:=(lo H.au).1 ⟨qm _,by omega⟩;have N:=(lo H1.au).1 ⟨by omega,by omega⟩;have hr:=L.re;have ln:=i9 (M:=M) L.c.la;have l1:=vg g1 0;have l2:=Ex g2;unfold CS.oh
 by_cases T:s.c.la.lane=3
 .rw [xg T];simp only;simp only[aa,bc,Lk,aw,<-e1,<-e2,l1,L.c.bm,ln,qv T];have⟨g,fv,hs⟩:=L.c.so;refine C3.q (xjp hs a) λ _ O hp=>?_;have⟨o3,rv3,ov3,bs3,own3,V3,h3⟩:=hr.co (t:=s.so (·.load a)) rfl rfl (L.c.MY hp) (qm _);have⟨lo1',r1⟩:=h3.lo D;have⟨lo2',r2⟩:=h3.lo N;have c3:dU O o3 X.p X.f X.l X.sp X.cv rv3 ov3 X.pv (s.so (·.load a)).c s.o (X.k+n):=h3.c;have⟨g3,fv3,Q⟩:=c3.so;have m1:=vg (p5 r1 g1) 0;have m2:=Ex (p5 r2 g2);cases b:(s.so (·.load a)).c.so.busy with
  |true =>
   rw[xg rfl];have⟨J,s4,A⟩:=h3.want e hu;have s4:Op.store 5 [.ptr X.p 7,.agg (bj e)] O=B1 (.undef,J):=s4;have⟨_,r4⟩:=A.lo D;have m4:=vg (p5 r4 g1) 0;have⟨H5,s5,h5⟩:=A.put 6 (v:=.int .i64 6) {(s.so (·.load a)).c with want:=e,ph:=6} rfl (by decide) rfl ⟨rfl,rfl,rfl,rfl⟩ ⟨rfl,rfl⟩ {A.c.w with};have s5:Op.store 1 [.ptr X.p 6,.int .i64 6] J=B1 (.undef,H5):=s5;simp only[aa,bc,Lk,aw,m1,c3.bm,im Q,b,m2,s4,m4,s5];exact L.back (h5.eF (by omega))
  |false =>
   rw[qy (by decide)];simp only[aa,bc,Lk,aw,m1,c3.bm,im Q,b,m2,CP Q];refine C3.q (Ue (s:=s.so (·.load a)) c3 hl e hu Q.vu) λ _ J hp=>?_;simp only[aa,bc];exact L.back ((h3.co (t:=(s.so (·.load a)).fh e (s.so (·.load a)).c.so.value) rfl rfl hp (qm _)).mono (by omega))
 rw[qy T];have tail:∀{G:ar}{C:Nat->Nat}{x u:AV}{I:Bs}{ownx:Nat->Nat}{Vx:Int->L8},dP (X.at H2 o2 bs) n s G C x u I ownx Vx->Op.ae [.ptr H.au 0] G=B1 (.ptr X.p 0)/\zb M VI [.ptr X.p 0,.int .i64 a] G λ v J=>v=.tuple [.int .u64 (s.kW a).1,.bool (s.kW a).2]/\Op.ae [.ptr H.au 0] J=B1 (.ptr X.p 0)/\Op.aq 5 [.ptr H1.au 0] J=B1 (.agg (bj e))/\LA X n (s.ld a) G C I J/\zb M ZC [.ptr X.p 0,.agg (bj e),.int .u64 (s.kW a).1] J λ _ H5=>LA X n ((s.ld a).fh e (s.kW a).1) G C I H5:=λ{G C x u I ownx Vx}Y=>by
  have fin:∀{t:CS}{Z:ar}{oz:Nat->Nat}{rvz ovz:AV}{bsz:Bs}{ownz:Nat->Nat}{Vz:Int->L8},dP ((X.at H2 o2 bs).at G C I) (n+1) t Z oz rvz ovz bsz ownz Vz->LA X n t G C I Z:=λ hz =>
   ⟨L.back (Y.back hz.here),λ d hd h1 h2'=>⟨(hz.lo hd).2,((L.sD (Y.sD hz)).pY (hz.lo hd).1 h1 h2' _).here⟩⟩
  refine⟨vg (p5 (Y.lo D).2 g1) 0,(PD Y.re hk a).mono λ v J⟨U,hu2,o4,rv4,ov4,bs4,own4,V4,A⟩=>?_⟩;have r1:=(Y.lo D).1;have r2:=(Y.lo N).1;refine⟨U,vg (p5 ((A.lo r1).2.trans (Y.lo D).2) g1) 0,Ex (p5 ((A.lo r2).2.trans (Y.lo N).2) g2),fin A,?_⟩;refine(Ue (s:=s.ld a) A.c hl e hu hu2).mono λ _ H5⟨o5,rv5,ov5,c5,a5,f5⟩=>?_;exact fin (A.HD (t:=(s.ld a).fh e (s.kW a).1) rfl rfl c5 a5 f5 (qm _))
 by_cases q4:s.c.la.lane=4
 .rw [xg q4];simp only[aa,bc,Lk,aw,<-e1,<-e2,l1,L.c.bm,ln,T,qv q4];refine C3.q (xcl X.p a) λ v m⟨U,hh⟩=>?_;obtain⟨O,e3,f23,-,-⟩:=bZ H2 (OR [.ptr X.p 0] AU);obtain⟨J,e4⟩:∃Z,Z=O.alloc (OR [.int .i64 a] cH):=⟨_,rfl⟩
  rw[<-e3]at U hh;rw[<-e4]at hh;subst U;subst hh;have f34:Fr Em O m:=e4▸(Fr.refl O).alloc _;have n3:O.au=H.au+3:=by rw[e3,xy,n2]
  have n4:m.au=H.au+4:=by rw[e4,xy,n3]
  have g3:m.get H2.au=B1 (OR [.ptr X.p 0] AU):=by rw[f34.ah _ (by omega) id,e3,xp]
  have g4:m.get O.au=B1 (OR [.int .i64 a] cH):=by rw[e4,xp]
  have⟨o4,A,R⟩:=hr.loc (f23.em f34);have k1:=(R H.au).2 D;have k2:=(R H1.au).2 N;have k3:=(R H2.au).1 ⟨qm _,by omega⟩;have k4:=(R O.au).1 ⟨by omega,by omega⟩;have r1:=(A.lo D).2;have r2:=(A.lo N).2;have c4:dU m o4 X.p X.f X.l X.sp X.cv rv ov X.pv s.c s.o (X.k+n):=A.c;have rl:=c4.w.rl;have kL:∀i,iA s.c.aU a=B1 i->(iE s.c.aU a)=[[.int .i64 (i:Int),.int .u64 (s.c.aU.getD i ⟨0,0⟩).v]]:=λ i q=>by unfold iE;rw[q]
  simp only[aa,bc];refine iP.uv (fn:=Un) (lp:=Qv) (pa:=XE 0) (pb:=YR 0) qvo qlf.1 qlf.2 (by decide) qty qtz
   (q8h (rv:=rv) g3 g4 (by omega) (by omega) c4.w.K7 (by omega)) (λ i W G=>i=0/\KU m o4 X.p X.f X.l X.sp X.cv rv X.pv s.c s.o (X.k+n) W G)
   (λ ex W G=>ex=.ret /\ ∃i,iA s.c.aU a=B1 i /\ ∃x,KU m o4 X.p X.f X.l X.sp X.cv x X.pv (s.fh e (s.c.aU.getD i ⟨0,0⟩).v).c (s.fh e (s.c.aU.getD i ⟨0,0⟩).v).o (X.k+n) W G)
   (λ z=>o4 z≠0/\z<m.au) (qm _) ?_ ?_ ?_ ?_ ?_ ?_ ?_ ?_ ?_
  .rintro z ((q|q)|q)
   .exact ⟨by omega,rfl,λ w=>w.1 (by rw[q];exact k3.2.1)⟩
   .exact ⟨by omega,rfl,λ w=>w.1 (by rw[q];exact k4.2.1)⟩
   .exact q.elim
  .exact λ z hz=>hz.2
  .exact ⟨rfl,o4,ov,c4,λ _ _=>rfl,λ z w q=>⟨q,w⟩,qm _⟩
  .exact λ i W Ha Hb⟨S,F⟩hs hn=>⟨S,F.loc hs hn⟩
  .exact λ i W Ha Hb⟨S,i,F,x,T⟩hs hn=>⟨S,i,F,x,T.loc hs hn⟩
  .exact λ i W G⟨S,C,u,F,_⟩=>⟨F.row.ld 13,aO.sl F.rd⟩
  .intro E i lr lb y hy hL2 W K ⟨hi,C,u,c6,a6,w6,le6⟩ hb hf6 hnL hL6 hgL;subst hi;obtain⟨j,hj⟩:∃j,iA s.c.aU a=B1 j:=by
    cases q:iA s.c.aU a with
    |some j=>exact⟨j,rfl⟩
    |none=>unfold iE at hy;rw[q]at hy;cases hy
   rw[kL j hj]at hy;cases hy;obtain⟨vv,hvv⟩:∃vv,vv=(s.c.aU.getD j ⟨0,0⟩).v:=⟨_,rfl⟩
   have hvu:fL vv:=by
    obtain⟨S,y,F,-⟩:=pL hj;rw[hvv,zt,F];exact h.c.w.ru y (zd F)
   rw[<-hvv];refine⟨_,rfl,?_⟩;have w:=Lk M ⟨B1 E,OK⟩;simp only[aa,bc,w,Ct];refine⟨hgL,?_⟩;have fx:Fr (On E) K (K.set E lb):=(Fr.refl K).set (W:=On E) (.inl rfl) _;have gL:(K.set E lb).get E=B1 lb:=xc ..;have nL:(K.set E lb).au=K.au:=rfl;have oL:C E=0:=zy λ q=>hnL (w6 E hL6 q);have c7:dU (K.set E lb) C X.p X.f X.l X.sp X.cv rv u X.pv s.c s.o (X.k+n):=c6.fr fx (λ z _ q(r:z=E)=>q (by rw[r];exact oL)) (λ _ _=>rfl) (qm _);have gk:∀z c t,z<m.au->o4 z=0->m.get z=B1 (OR c t)->(K.set E lb).get z=B1 (OR c t):=λ z c t S F T=>by
    rw[yd (by omega),hf6.ah z S (λ r=>r.elim (λ r=>r.1 F) id)];exact T
   have m1:=vg (gk H.au _ _ (by omega) k1.2.1 (p5 r1 g1)) 0;have m2:=Ex (gk H1.au _ _ (by omega) k2.2.1 (p5 r2 g2));generalize K.set E lb=H7 at *;simp only[aa,bc,m1,m2];refine C3.q (Ue c7 hl e hu hvu) λ _ H8⟨o8,rv8,ov8,c8,a8,f8⟩=>?_;simp only[aa,bc];have n8:=f8.au;refine⟨rfl,by rw[f8.ah E (by omega) (λ q=>q oL)];exact gL,λ z=>z<H8.au/\(W z\/K.au<=z),λ z q=>q,?_,.inr ⟨trivial,rfl,j,hj,rv8,o8,ov8,by rw[<-hvv];exact c8,λ z q=>(a8 z (by omega)).trans (a6 z q),λ z S F=>⟨S,?_⟩,by omega⟩⟩
   .refine (fx.mono λ z _ q=>.inr q).trans f8 λ z q=>?_;rcases xz z K.au with r|r
    .exact .inl (.inl (w6 z r q))
    .exact .inr r
   .rcases xz z K.au with r|r
    .rw [a8 z (by omega)]at F;exact .inl (w6 z r F)
    .exact .inr r
  .rintro d W H' hd P hg hf hW ⟨hi,C,u,c6,a6,w6,le6⟩;have hz:iA s.c.aU a=none:=by
    cases q:iA s.c.aU a with
    |none=>rfl
    |some j=>rw[kL j q]at hi;cases hi
   have hlk:dy s.c.aU a=none:=by rw[J5,hz];rfl
   rw[hlk];simp only;have od:C d=0:=zy λ q=>(hW d (w6 d P q)).2.2 rfl;have h9:=A.HD (t:=s) rfl rfl c6 a6 (hf.mono λ z _ q=>q.elim (λ r=>r.1) ND) (qm _);have ld:EE H' C X.B bs d:=⟨P,od,λ w=>by have:=A.b.low w;omega⟩
   have xd:X.H.au<=d:=by have:=h.fr.au;omega
   have bd:X.Hb.au<=d:=by have:=h.hn;omega
   have⟨t1,t2⟩:=tail h9;simp only[aa,bc,Lk,t1];refine C3.q t2 λ v J⟨U,m1,m2,m3,m4⟩=>?_;subst U;cases b:(s.kW a).2 with
   |true =>
    rw[xg rfl];simp only[aa,bc,aw,m1,m2];refine C3.q m4 λ _ H5 hp=>?_;simp only[aa,bc];exact⟨(hp.2 d ld xd bd).1.trans hg,(hp.2 d ld xd bd).2⟩
   |false =>
    rw[qy (by decide)];simp only[aa,bc,aw];exact⟨(m3.2 d ld xd bd).1.trans hg,(m3.2 d ld xd bd).2⟩
  .rintro ex d W H' he hd P hg hf hW ⟨rfl,j,hj,x,C,u,c6,a6,w6,le6⟩;have hlk:dy s.c.aU a=B1 (s.c.aU.getD j ⟨0,0⟩).v:=by rw[J5,hj];rfl
   rw[hlk];simp only;have fd:Fr (On d) H' (H'.set d (.deferred B5)):=(Fr.refl H').set (W:=On d) (.inl rfl) _;have od:C d=0:=zy λ q=>(hW d (w6 d P q)).2.2 rfl;have c9:=c6.fr fd (λ z _ q(r:z=d)=>q (by rw[r];exact od)) (λ _ _=>rfl) (qm _);simp only[aa,bc];have fr9:Fr (λ z=>o4 z≠0) m (H'.set d (.deferred B5)):=(hf.mono λ z _ q=>q.elim (λ r=>r.1) ND).trans fd λ z(q:z=d)=>.inr (by omega);exact⟨hg,L.back ((A.co (t:=s.fh e (s.c.aU.getD j ⟨0,0⟩).v) rfl rfl ⟨C,x,u,c9,a6,fr9⟩ (qm _)).mono (by omega))⟩
 rw[qy q4];simp only;have⟨t1,t2⟩:=tail hr;simp only[aa,bc,Lk,aw,<-e1,<-e2,l1,L.c.bm,ln,T,q4];refine C3.q t2 λ v J⟨U,m1,m2,m3,m4⟩=>?_;subst U;cases b:(s.kW a).2 with
 |true =>
  rw[xg rfl];simp only[aa,bc,aw,m1,m2];refine C3.q m4 λ _ H5 hp=>?_;simp only[aa,bc];exact hp.1
 |false =>
  rw[qy (by decide)];simp only[aa,bc,aw];exact m3.1
end
end Go.Am
namespace Go.Am
open Lang Go.Proofs
variable{M:ak}[MK M]
def DE:∀(b:List Pr)(x:Pr)(a:Int),iA (b ++ [x]) a=(iA b a).or (if x.a=a then B1 b.length else B5)
 |[],x,a=>by unfold iA;show(if x.a=a then B1 0 else(iA [] a).map _)=_;unfold iA;split<;>rfl
 |y::r,x,a=>by
  show(if y.a=a then B1 0 else(iA (r ++ [x]) a).map (·+1))=Option.or (if y.a=a then B1 0 else(iA r a).map (·+1)) _
  by_cases q:y.a=a
  .rw [xg q,xg q];rfl
  .rw [qy q,qy q,DE r x a];cases iA r a with
   |some i=>rfl
   |none=>simp only[Option.none_or,Option.map_none];split<;>rfl
def Bz:∀{b:List Pr}{i:Nat}{x:Pr}(v a:Int),b[i]? = B1 x->iA (b.set i ⟨x.a,v⟩) a=iA b a
 |y::r,0,x,v,a,h=>by cases h;rfl
 |y::r,i+1,x,v,a,h=>by
  show(if y.a=a then B1 0 else(iA (r.set i ⟨x.a,v⟩) a).map (·+1))=_;rw[Bz v a (show r[i]? = B1 x from h)];rfl
def tj.app{g:List Pr}(h:tj g){a v:Int}(hn:iA g a=B5):tj (g ++ [⟨a,v⟩]):=λ i x b=>by
 rw[DE];rcases xz i g.length with q|q
 .rw [yx q]at b;rw[h i x b];rfl
 .rw [z4 q]at b;have e:i=g.length:=by
   have:=(qt.1 b).1;simp only[zu,jq]at this;omega
  subst e;rw[Ia]at b;cases b;rw[hn,xg rfl];rfl
theorem tj.set{m:List Pr}(h:tj m){i:Nat}{x:Pr}(g:m[i]? = B1 x)(v:Int):tj (m.set i ⟨x.a,v⟩):=λ j y b=>by
 rw[Bz v _ g]
 by_cases q:j=i
 .subst q;rw[zk (by exact(qt.1 g).1)]at b;cases b;exact h j x g
 .rw [zq (λ e=>q e.symm)]at b;exact h j y b
section
variable{H H1 H':ar}{o o1:Nat->Nat}{p f l sp k k':Nat}{cv rv ov pv:AV}{c d:Co}{os os':List fk}
def dU.yD(h:dU H o p f l sp cv rv ov pv c os k){i:Nat}{x:Pr}(A:c.aU[i]? = B1 x){v:Int}(B:fL v):∃H',Op.store 1 [.ptr (aE rv) (cK 2 rv i+1),.int .u64 v] H=B1 (.undef,H')/\hO H o p f l sp cv pv {c with aU:=c.aU.set i ⟨x.a,v⟩} os k H':=by
 have⟨H1,s1,r,b⟩:=aO.zU D9 h.rd A (j:=1) (by decide) (u:=.int .u64 v) rfl (y:=⟨x.a,v⟩) rfl;have⟨g,fv,hs⟩:=h.so;have m:∀z,o z≠5 -> ¬aM rv z:=λ z q w=>q (h.qB z w);refine⟨H1,s1,o,rv,ov,⟨h.row.fr b (m p (by rw[h.op];decide)),h.fi.fr b h.of (λ z q e=>m z (by omega)) λ _ _=>rfl,h.la.fr b (m l (by rw[h.ol];decide)),⟨g,fv,hs.fr b (λ z q e=>m z (by omega)) λ _ _=>rfl⟩,Jk h.cd b λ e=>m _ (by rw[(h.mS e).2];decide),r,Own.fr h.ou b λ z q=>m z (by rw[h.qY z q];decide),h.op,h.of,h.ol,h.qB,h.qY,λ e=>⟨qn (h.mS e).1 b.au,(h.mS e).2⟩,h.FR,{h.w with ru:=λ y w=>(FV w).elim (h.w.ru y) λ w=>by rw[w];exact B,rl:=by show(c.aU.set i _).length<=k;rw[ze];exact h.w.rl,K7:=h.w.K7.set A v}⟩,λ _ _=>rfl,b.mono λ z _ q=>by rw[h.qB z q];decide⟩
def dU.Cr(h:dU H o p f l sp cv rv ov pv c os k)(hk:k<=100000){a:Int}(hn:iA c.aU a=B5){K:bE->(Nat->AV)->Bool->AV->ar->Prop}{m:Bool}
 (G:∀i j r,Op.store 1 [.ptr p 13,i] j=B1 (.undef,r)->(∃o',dU r o' p f l sp cv i ov pv {c with aU:=c.aU ++ [⟨a,0⟩]} os (k+1)/\(∀z,z<H.au->o' z=o z)/\Fr (λ z=>o z=5\/o z=1) H r)->K (.row (AV.cells (.agg (cO ⟨a,0⟩))) vx (0,0) B4) (Op.sliceTo 1 1) m i j) :
 jF m (Op.buildSlice vx 1 [.int .i64 0,.int .u64 0] [(0,2)] [.agg (cO ⟨a,0⟩)]) λ g o mk=>jF g (Op.append vx 2 16 [rv,mk H.au] (H.alloc o)) (K o mk):=by
 have rl:=h.w.rl;refine aO.oi (bytes:=16) h.rd (x:=.agg (cO ⟨a,0⟩)) (a:=⟨a,0⟩) rfl rfl rfl rfl (by decide) (by omega) (by omega) λ i j C v I=>?_;have one:aD i=true:=Sl.one (Own.sl C);have J:=λ z(q:aM rv z)=>Own.lt h.rd z q;have ho:∀z,z<H.au->aQ o H.au 5 z=o z:=λ z q=>ww q;have B:∀z,o z≠5 -> ¬aM rv z:=λ z q w=>q (h.qB z w);have⟨g,fv,hs⟩:=h.so;have lr:=λ z(q:aM ov z)=>Own.lt h.ou z q;have D:At j p Gl _:=h.row.fr v (B p (by rw[h.op];decide));have st:=D.st 13 one (by simp[cQ]);have E:(cQ c f l sp cv rv ov pv).set 13 i=cQ {c with aU:=c.aU ++ [⟨a,0⟩]} f l sp cv i ov pv:=rfl;rw[E]at st;obtain⟨r,u⟩:∃X,X=j.set p (OR (cQ {c with aU:=c.aU ++ [⟨a,0⟩]} f l sp cv i ov pv) Gl):=⟨_,rfl⟩
 rw[<-u]at st;have A:Fr (On p) j r:=u▸cI ..;have b:Fr (λ z=>aM rv z\/z=p) H r:=(v.mono λ z _ q=>.inl q).trans A λ z q=>.inl (.inr q);have nw:∀z,o z≠5->o z≠1 -> ¬(aM rv z\/z=p):=λ z F e1 w=>w.elim (B z F) λ w=>e1 (by rw[w];exact h.op);have no:∀z,aM i z->aQ o H.au 5 z=5:=λ z q=>(I z q).elim (λ w=>(ho z (J z w)).trans (h.qB z w)) λ w=>ny w;refine G i j r st ⟨aQ o H.au 5,⟨u▸D.set _,h.fi.fr b h.of (λ z q e=>nw z (by omega) (by omega)) ho,h.la.fr b (nw l (by rw[h.ol];decide) (by rw[h.ol];decide)),⟨g,fv,hs.fr b (λ z q e=>nw z (by omega) (by omega)) ho⟩,Jk h.cd b λ e=>nw _ (by rw[(h.mS e).2];decide) (by rw[(h.mS e).2];decide),Own.fr C A λ z q(w:z=p)=>?_,Own.fr h.ou b λ z q=>nw z (by rw[h.qY z q];decide) (by rw[h.qY z q];decide),
  (ho p h.row.2).trans h.op,(ho f (by obtain⟨pv,q,-⟩:=h.fi.at';exact q.2)).trans h.of,(ho l h.la.at'.2).trans h.ol,no,λ z q=>(ho z (lr z q)).trans (h.qY z q),λ e=>⟨qn (h.mS e).1 b.au,(ho _ (h.mS e).1).trans (h.mS e).2⟩,h.FR,{h.w with ru:=λ y w=>(jm.1 w).elim (h.w.ru y) λ w=>by rw[ve.1 w];exact bJ,rl:=by show(c.aU ++ [_]).length<=k+1;rw[xe];simp only[zu,jq];omega,K7:=h.w.K7.app hn}⟩,ho,b.mono λ z _ q=>q.imp (h.qB z) λ q=>by rw[q];exact h.op⟩
 have:=no z q;rw[w,ho p h.row.2,h.op]at this;omega
end
section
variable{X:SX}{n n':Nat}{s t:CS}{H H':ar}{o:Nat->Nat}{rv ov:AV}{bs:Bs}{own:Nat->Nat}{V:Int->L8}
def dP.tag(h:dP X n s H o rv ov bs own V)(f:Fr Em H H')(t:Nat):dP X n s H' (aQ o H.au t) rv ov bs own V:=by
 have ho:∀z,z<H.au->aQ o H.au t z=o z:=λ z q=>ww q;have hn:=h.hn;have a:=h.fr.au;refine{h with c:=h.c.fr f (λ _ _ _ q=>q) ho (qm _),b:=h.b.em f,dj:=λ z q=>(ho z (h.b.low q)).trans (h.dj z q),hb:=λ z q e=>?_,go:=λ z q e=>?_,fr:=h.fr.em f}
 .rcases xz z H.au with w|w
  .rw [ho z w]at e;exact h.hb z w e
  .omega
 .rcases xz z H.au with w|w
  .rw [ho z w]at e;exact h.go z w e
  .exact .inr (by omega)
def sB(h:dP X n s H o rv ov bs own V)(hk:X.k+n<=90000)(hl:s.o.length<=1000)(e:pI)(hu:fL e.addr)(hv:fL e.value)(a:Int):zb M PJ [.ptr X.p 0,.agg (bj e),.int .i64 a] H λ _ H'=>mi X (n+1) (s.kK e a) H':=by
 refine qvr ?_;have⟨H1,e1,f1,n1,P⟩:=bZ H (OR (bj e) jk);have⟨o1,A,lo⟩:=h.loc f1;have R:=(lo H.au).1 ⟨qm _,by omega⟩;have hr:=A.re;have ln:=i9 (M:=M) A.c.la;have l3:=vg P 3;have l5:=Ex P;have l3:Op.ae [.ptr H.au 3] H1=B1 (.int .u64 e.value):=l3;unfold CS.kK
 by_cases q3:s.c.la.lane=3
 .rw [xg q3];have q0:¬s.c.la.lane=0:=by omega
  simp only;simp only[aa,bc,vf,aw,<-e1,l3,A.c.bm,ln,q0,qv q3];have⟨g,fv,hs⟩:=A.c.so;refine C3.q (xf3 hs a hv) λ _ F hp=>?_;have⟨o3,rv3,ov3,bs3,own3,V3,E⟩:=hr.co (t:=s.so (·.store a e.value)) rfl rfl (A.c.MY hp) (qm _);have⟨lo1',r1⟩:=E.lo R;have c3:dU F o3 X.p X.f X.l X.sp X.cv rv3 ov3 X.pv (s.so (·.store a e.value)).c s.o (X.k+n):=E.c;have⟨g3,fv3,hs3⟩:=c3.so;have m2:=Ex (p5 r1 P);cases b:(s.so (·.store a e.value)).c.so.busy with
  |true =>
   rw[xg rfl];have⟨H4,s4,I⟩:=E.want e hu;have s4:Op.store 5 [.ptr X.p 7,.agg (bj e)] F=B1 (.undef,H4):=s4;have⟨H5,s5,h5⟩:=I.put 6 (v:=.int .i64 6) {(s.so (·.store a e.value)).c with want:=e,ph:=6} rfl (by decide) rfl ⟨rfl,rfl,rfl,rfl⟩ ⟨rfl,rfl⟩ {I.c.w with};have s5:Op.store 1 [.ptr X.p 6,.int .i64 6] H4=B1 (.undef,H5):=s5;simp only[aa,bc,vf,aw,c3.bm,im hs3,b,m2,s4,s5];exact A.back (h5.eF (by omega))
  |false =>
   rw[qy (by decide)];simp only[aa,bc,vf,aw,c3.bm,im hs3,b,m2];refine C3.q (Rg (s:=s.so (·.store a e.value)) c3 hl 3 e a) λ _ H4 hp=>?_;simp only[aa,bc];exact A.back ((E.co (t:=(s.so (·.store a e.value)).stored 3 e a) rfl rfl hp (qm _)).mono (by omega))
 rw[qy q3]
 by_cases q4:s.c.la.lane=4
 .rw [xg q4];have q0:¬s.c.la.lane=0:=by omega
  have lr:=(aO.sl A.c.rd).len;have rl0:=A.c.w.rl;obtain⟨U,e2⟩:∃Z,Z=(H1.alloc (OR [.int .i64 0] cH)).set H1.au (OR [.int .i64 ((s.c.aU.length:Nat):Int)] cH):=⟨_,rfl⟩
  have s2:Op.store 1 [.ptr H1.au 0,.int .i64 ((s.c.aU.length:Nat):Int)] (H1.alloc (OR [.int .i64 0] cH))=B1 (.undef,U):=by rw[e2];exact(At.new H1 _ _).st 0 rfl (by simp)
  have f2:Fr Em H1 U:=e2▸((Fr.refl H1).alloc _).set (.inr (qm _)) _;have n2:U.au=H.au+2:=by rw[e2,t9,xy,n1]
  have g2:U.get H1.au=B1 (OR [.int .i64 ((s.c.aU.length:Nat):Int)] cH):=by rw[e2,xc]
  have h2:=hr.tag f2 4;have t2:aQ o1 H1.au 4 H1.au=4:=ny (qm _);simp only[aa,bc,vf,aw,<-e1,A.c.bm,ln,q0,q3,qv q4,lr,s2];refine C3.q (xcl X.p a) λ v m⟨hv',hh⟩=>?_;obtain⟨F,e3,f23,-,-⟩:=bZ U (OR [.ptr X.p 0] AU);obtain⟨H4,e4⟩:∃Z,Z=F.alloc (OR [.int .i64 a] cH):=⟨_,rfl⟩
  rw[<-e3]at hv' hh;rw[<-e4]at hh;subst hv';subst hh;have f34:Fr Em F m:=e4▸(Fr.refl F).alloc _;have n3:F.au=H.au+3:=by rw[e3,xy,n2]
  have n4:m.au=H.au+4:=by rw[e4,xy,n3]
  have g3:m.get U.au=B1 (OR [.ptr X.p 0] AU):=by rw[f34.ah _ (by omega) id,e3,xp]
  have g4:m.get F.au=B1 (OR [.int .i64 a] cH):=by rw[e4,xp]
  have g2':m.get H1.au=B1 (OR [.int .i64 ((s.c.aU.length:Nat):Int)] cH):=by rw[f34.ah _ (by omega) id,f23.ah _ (by omega) id];exact g2
  have I:=h2.tag (f23.em f34) 0;obtain⟨S,Q⟩:∃S,S=aQ (aQ o1 H1.au 4) U.au 0:=⟨_,rfl⟩
  rw[<-Q]at I;have t4:S H1.au=4:=by rw[Q,ww (by omega)];exact t2
  have k3:S U.au=0:=by rw[Q];exact ny (qm _)
  have k4:S F.au=0:=by rw[Q];exact ny (by omega)
  have c4:dU m S X.p X.f X.l X.sp X.cv rv ov X.pv s.c s.o (X.k+n):=I.c;have kL:∀i,iA s.c.aU a=B1 i->(iE s.c.aU a)=[[.int .i64 (i:Int),.int .u64 (s.c.aU.getD i ⟨0,0⟩).v]]:=λ i q=>by unfold iE;rw[q]
  obtain⟨vl,hvl⟩:∃vl:Nat->Nat,vl=λ i=>if i=0 then s.c.aU.length else(iA s.c.aU a).getD 0:=⟨_,rfl⟩
  have vl0:vl 0=s.c.aU.length:=by rw[hvl];rfl
  simp only[aa,bc];refine iP.uv (fn:=TZ) (lp:=PA) (pa:=W9 0) (pb:=Yb 0) qt0 qj4.1 qj4.2 (by decide) qsg qsh
   (q8h (rv:=rv) g3 g4 (by omega) (by omega) c4.w.K7 (by omega)) (λ i W Hx=>KU m S X.p X.f X.l X.sp X.cv rv X.pv s.c s.o (X.k+n) W Hx/\W H1.au/\Hx.get H1.au=B1 (OR [.int .i64 ((vl i:Nat):Int)] cH))
   (λ ex W Hx=>False)
   (λ z=>S z≠0/\z<m.au) (qm _) ?_ ?_ ?_ ?_ ?_ ?_ ?_ ?_ ?_
  .rintro z ((q|q)|q)
   .exact ⟨by omega,rfl,λ w=>w.1 (by rw[q];exact k3)⟩
   .exact ⟨by omega,rfl,λ w=>w.1 (by rw[q];exact k4)⟩
   .exact q.elim
  .exact λ z hz=>hz.2
  .exact ⟨⟨S,ov,c4,λ _ _=>rfl,λ z w q=>⟨q,w⟩,qm _⟩,⟨by rw[t4];decide,by omega⟩,by rw[vl0];exact g2'⟩
  .exact λ i W Ha Hb⟨q1,q2,q3⟩hs hn=>⟨q1.loc hs hn,q2,by rw[hs _ q2];exact q3⟩
  .exact λ i W Ha Hb q hs hn=>q
  .exact λ i W Hx⟨⟨L,T,q2,_⟩,_⟩=>⟨q2.row.ld 13,aO.sl q2.rd⟩
  .intro C i lr lb y hy hL2 W N ⟨⟨L,T,Y,a6,w6,le6⟩,wt,gt⟩ hb hf6 hnL hL6 hgL;obtain⟨j,K⟩:∃j,iA s.c.aU a=B1 j:=by
    cases q:iA s.c.aU a with
    |some j=>exact⟨j,rfl⟩
    |none=>unfold iE at hy;rw[q]at hy;cases hy
   have hv1:vl (i+1)=j:=by rw[hvl];simp only;rw[qy (by omega),K];rfl
   rw[kL j K]at hy;have hi:i=0:=by
    have:=(qt.1 hy).1;simp only[zu,jq]at this;omega
   subst hi;cases hy;refine⟨_,rfl,?_⟩;have w:=vf M ⟨B1 C,PJ⟩;simp only[aa,bc,w,Ct];refine⟨hgL,?_⟩;have fx:Fr (On C) N (N.set C lb):=(Fr.refl N).set (W:=On C) (.inl rfl) _;have gL:(N.set C lb).get C=B1 lb:=xc ..;have nL:(N.set C lb).au=N.au:=rfl;have oL:L C=0:=zy λ q=>hnL (w6 C hL6 q);have ot:L H1.au=4:=(a6 _ (by omega)).trans t4;have nt:H1.au≠C:=by omega
   have c7:dU (N.set C lb) L X.p X.f X.l X.sp X.cv rv T X.pv s.c s.o (X.k+n):=Y.fr fx (λ z _ q(r:z=C)=>q (by rw[r];exact oL)) (λ _ _=>rfl) (qm _);have a7:At (N.set C lb) H1.au cH [.int .i64 ((vl 0:Nat):Int)]:=⟨by rw[yd nt.symm];exact gt,by rw[nL];omega⟩
   generalize N.set C lb=H7 at *;have s7:=a7.st 0 (v:=.int .i64 (j:Int)) rfl (by simp);have a8:=a7.set [.int .i64 (j:Int)];have f8:Fr (On H1.au) H7 (H7.set H1.au (OR [.int .i64 (j:Int)] cH)):=cI ..;simp only[aa,bc,s7,List.set];refine⟨rfl,by rw[f8.ah C (by omega) λ q:C=H1.au=>nt q.symm];exact gL,W,λ z q=>⟨by have:=(hb z q).1;rw[t9,nL];exact this,.inl q⟩,?_,.inl ⟨rfl,⟨L,T,c7._U f8 (λ z _ q r(u:z=H1.au)=>r (by rw[u];exact ot)) (λ _ _=>rfl) (qm _),a6,λ z q1 q2=>w6 z (by rw[t9,nL]at q1;exact q1) q2,by rw[t9,nL];exact le6⟩,wt,by rw[hv1];exact a8.1⟩⟩;exact(fx.mono λ z _ q=>.inr q).trans f8 λ z(q:z=H1.au)=>.inl (.inl (by rw[q];exact wt))
  .rintro d W H' hd hd2 hg hf hW ⟨⟨L,T,Y,a6,w6,le6⟩,wt,gt⟩;have od:L d=0:=zy λ q=>(hW d (w6 d hd2 q)).2.2 rfl;have h9:=I.HD (t:=s) rfl rfl Y a6 (hf.mono λ z _ q=>q.elim (λ r=>r.1) ND) (qm _);have h9r:=h9.re;have ld:EE H' L X.B bs d:=⟨hd2,od,λ w=>by have:=I.b.low w;omega⟩
   have lb:EE H' L X.B bs H.au/\H'.get H.au=H1.get H.au:=h9.lo R;have xd:X.H.au<=d:=by have:=h.fr.au;omega
   have bd:X.Hb.au<=d:=by have:=h.hn;omega
   have fin:∀{t:CS}{Z:ar}{oz:Nat->Nat}{rvz ovz:AV}{bsz:Bs}{ownz:Nat->Nat}{Vz:Int->L8},dP ((X.at H1 o1 bs).at H' L bs) (n+1) t Z oz rvz ovz bsz ownz Vz->Z.get d=B1 (.deferred (B1 []))/\mi X (n+1) t (Z.set d (.deferred B5)):=λ hz =>
    ⟨(hz.lo ld).2.trans hg,((A.sD (h9.sD hz)).pY (hz.lo ld).1 xd bd _).here⟩
   have lt:=vg gt 0;have l3':=vg (p5 lb.2 P) 3;have l3':Op.ae [.ptr H.au 3] H'=B1 (.int .u64 e.value):=l3';have e12:(X.k+n)+1=X.k+(n+1):=by omega
   cases K:iA s.c.aU a with
   |none =>
    have hL:(iE s.c.aU a).length=0:=by unfold iE;rw[K];rfl
    have lt:Op.ae [.ptr H1.au 0] H'=B1 (.int .i64 ((s.c.aU.length:Nat):Int)):=by rw[lt,hL,vl0];rfl
    have bp:Op.build [.int .i64 0,.int .u64 0] [(0,1)] [.int .i64 a]=B1 (.agg (cO ⟨a,0⟩)):=rfl;simp only[aa,bc,vf,aw,lt,Y.bm,lr,bp];refine Y.Cr (by omega) K λ v' H10 H11 st'⟨o11,c11,a11,O⟩=>?_;have lt11:Op.ae [.ptr H1.au 0] H11=B1 (.int .i64 ((s.c.aU.length:Nat):Int)):=by
     rw[<-lt];exact(vg (p5 (O.ah _ (by omega) λ q=>by rw[(a6 _ (by omega)).trans t4]at q;omega) gt) 0).trans (vg gt 0).symm
    have l311:Op.ae [.ptr H.au 3] H11=B1 (.int .u64 e.value):=vg (p5 (O.ah _ lb.1.1 λ q=>by rw[lb.1.2.1]at q;omega) (p5 lb.2 P)) 3;have hx:(s.c.aU ++ [(⟨a,0⟩:Pr)])[s.c.aU.length]? = B1 ⟨a,0⟩:=by rw[z4 (qm _),Ia];rfl
    have ix:=(aO.sl c11.rd).idx hx (z:=((s.c.aU.length:Nat):Int)) rfl .i64;have⟨H12,s12,o12,rv12,ov12,G,a12,f12⟩:=c11.yD hx hv;have er:(s.c.aU ++ [(⟨a,0⟩:Pr)]).set s.c.aU.length ⟨a,e.value⟩=fV s.c.aU a e.value:=by rw[T5 K,M3 _ _ (qm _),Ia];rfl
    rw[er]at G;have D:=h9r.HD (n':=n+1) (t:={s with c:={s.c with aU:=fV s.c.aU a e.value}}) rfl rfl (G.fr (Fr.refl _) (λ _ _ _ w=>w) (λ _ _=>rfl) (show X.k+n+1<=X.k+(n+1)by omega)) (λ z q=>(a12 z (qn q O.au)).trans (a11 z q)) ((O.mono λ z _ q=>by omega).trans f12 λ z q=>by
     rcases xz z H'.au with w|w
     .exact .inl (by rw[<-a11 z w];exact q)
     .exact .inr w) (by omega)
    have J:=Ex (p5 (D.lo lb.1).2 (p5 lb.2 P));simp only[aa,bc,vf,aw,st',c11.bm,lt11,l311,ix,s12,J];refine C3.q (Rg (s:={s with c:={s.c with aU:=fV s.c.aU a e.value}}) D.c hl 3 e a) λ _ H13⟨o13,rv13,ov13,c13,a13,f13⟩=>?_;simp only[aa,bc];exact fin (D.HD (t:=({s with c:={s.c with aU:=fV s.c.aU a e.value}}:CS).stored 3 e a) rfl rfl c13 a13 f13 (qm _))
   |some j =>
    have hL:(iE s.c.aU a).length=1:=by rw[kL j K];rfl
    have hv1:vl 1=j:=by rw[hvl];simp only;rw[qy (by omega),K];rfl
    have lt:Op.ae [.ptr H1.au 0] H'=B1 (.int .i64 (j:Int)):=by rw[lt,hL,hv1];rfl
    have⟨jl,x,hx,xa⟩:=pL K;have jn:¬(j:Int)=((s.c.aU.length:Nat):Int):=by omega
    have ix:=(aO.sl Y.rd).idx hx (z:=(j:Int)) rfl .i64;have⟨H12,s12,o12,rv12,ov12,G,a12,f12⟩:=Y.yD hx hv;have er:s.c.aU.set j ⟨x.a,e.value⟩=fV s.c.aU a e.value:=by rw[Ua K,xa]
    rw[er]at G;have D:=h9r.HD (n':=n) (t:={s with c:={s.c with aU:=fV s.c.aU a e.value}}) rfl rfl G a12 f12 (qm _);have J:=Ex (p5 (D.lo lb.1).2 (p5 lb.2 P));simp only[aa,bc,vf,aw,lt,Y.bm,lr,jn,l3',ix,s12,J];refine C3.q (Rg (s:={s with c:={s.c with aU:=fV s.c.aU a e.value}}) D.c hl 3 e a) λ _ H13⟨o13,rv13,ov13,c13,a13,f13⟩=>?_;simp only[aa,bc];exact fin (D.HD (n':=n+1) (t:=({s with c:={s.c with aU:=fV s.c.aU a e.value}}:CS).stored 3 e a) rfl rfl (c13.fr (Fr.refl _) (λ _ _ _ w=>w) (λ _ _=>rfl) (show X.k+n<=X.k+(n+1)by omega)) a13 f13 (by omega))
  .exact λ e d W H' he hd hd2 hg hf hW q=>q.elim
 rw[qy q4];have st:=Qo (M:=M) hr hk a hv
 by_cases q0:s.c.la.lane=0
 .rw [xg q0];simp only[aa,bc,vf,aw,<-e1,l3,A.c.bm,ln,qv q0];refine C3.q st λ w F⟨hw,o3,rv3,ov3,bs3,own3,V3,E⟩=>?_;subst hw;cases b:s.vZ a e.value with
  |true =>
   rw[xg rfl];have m2:=Ex (p5 (E.lo R).2 P);simp only[aa,bc,m2];refine C3.q (Rg (s:=s.st a e.value) E.c hl 8 e a) λ _ H4 hp=>?_;simp only[aa,bc];exact A.back (E.co (t:=(s.st a e.value).stored 8 e a) rfl rfl hp (qm _))
  |false =>
   rw[qy (by decide)];simp only[aa,bc];exact A.back E.here
 .simp only[aa,bc,vf,aw,<-e1,l3,A.c.bm,ln,q0,q3,q4];refine C3.q st λ w F⟨hw,o3,rv3,ov3,bs3,own3,V3,E⟩=>?_;subst hw;cases b:s.vZ a e.value with
  |true =>
   rw[xg rfl];have⟨H4,s4,I⟩:=E.put 15 (v:=.bool B4) {s.c with wrote:=B4} rfl (by decide) rfl ⟨rfl,rfl,rfl,rfl⟩ ⟨rfl,rfl⟩ {E.c.w with};have s4:Op.store 1 [.ptr X.p 15,.bool B4] F=B1 (.undef,H4):=s4;have m2:=Ex (p5 (I.lo R).2 P);simp only[aa,bc,aw,s4,m2];refine C3.q (Rg (s:={s.st a e.value with c:={s.c with wrote:=B4}}) I.c hl 3 e a) λ _ H5 hp=>?_;simp only[aa,bc];exact A.back (I.co (t:=({s.st a e.value with c:={s.c with wrote:=B4}}:CS).stored 3 e a) rfl rfl hp (qm _))
  |false =>
   rw[qy (by decide)];simp only[aa,bc];exact A.back E.here
end
end Go.Am
namespace Go.Am
open Lang Go.Proofs
variable{M:ak}[MK M]
section
variable{X:SX}{n n':Nat}{s t:CS}{H H':ar}{o:Nat->Nat}{rv ov:AV}{bs:Bs}{own:Nat->Nat}{V:Int->L8}
def It(h:dP X n s H o rv ov bs own V)(hk:X.k+n<=90000)(hl:s.o.length<=1000):zb M kn [.ptr X.p 0] H λ _ H'=>mi X (n+1) s.aS H':=by
 refine qxc ?_;have lr:=(aO.sl h.c.rd).len;have d0:=h.c.w.d0;have rl:=h.c.w.rl;unfold CS.aS;rw[xg d0]
 by_cases q:s.c.done<((s.c.aU.length:Nat):Int)
 .obtain ⟨x,e⟩:∃x,s.c.aU[s.c.done.toNat]? = B1 x:=⟨_,xf (by omega)⟩
  rw[e];have ix:=(aO.sl h.c.rd).idx e (z:=s.c.done) (LW d0).symm .i64;have ld:Op.aq 2 [NC rv s.c.done.toNat] H=B1 (.agg (cO x)):=(aO.sl h.c.rd).aq D9 (by decide) e;have bx:=S6 (H1:=H) x;obtain⟨H1,e1⟩:∃Z,Z=(H.alloc (OR [.int .i64 0,.int .u64 0] vx)).set H.au (OR (cO x) vx):=⟨_,rfl⟩
  rw[<-e1]at bx;have A:Fr Em H H1:=by rw[e1];exact yU _ _
  have r:H1.get H.au=B1 (OR (cO x) vx):=by rw[e1,xc]
  have l0:Op.ae [.ptr H.au 0] H1=B1 (.int .i64 x.a):=vg r 0;have l1:Op.ae [.ptr H.au 1] H1=B1 (.int .u64 x.v):=vg r 1;obtain⟨o1,B,-⟩:=h.loc A;simp only[aa,bc,SO,aw,h.c.bm,lr,qv q,ix,show∀i,Op.aq 2 [AV.ptr (aE rv) (cK 2 rv i)] H=Op.aq 2 [NC rv i] H from λ _=>rfl,ld,bx,l0,l1];refine C3.q (Qo B hk x.a (h.c.w.ru x (zd e))) λ w m⟨hw,o2,l,j,g,f,y,d⟩=>?_;subst hw;cases b:s.vZ x.a x.v with
  |true =>
   rw[xg rfl];have wd:aj .i64 (s.c.done+1)=s.c.done+1:=jc (by omega) (by omega);have⟨u,D,C⟩:=d.put 14 (v:=.int .i64 (aj .i64 (s.c.done+1))) {s.c with done:=aj .i64 (s.c.done+1)} rfl (by decide) rfl ⟨rfl,rfl,rfl,rfl⟩ ⟨rfl,rfl⟩ {d.c.w with d0:=by show 0<=aj .i64 (s.c.done+1);rw[wd];omega};have vN:Op.ae [.ptr X.p 14] m=B1 (.int .i64 s.c.done):=d.c.row.ld 14;simp only[aa,bc,SO,aw,vN,D];exact C.here
  |false =>
   rw[qy (by decide)];simp only[aa,bc,SO];exact d.here
 .have e:s.c.aU[s.c.done.toNat]? = none:=jp (by omega);rw[e];unfold CS.iv;simp only;simp only[aa,bc,SO,aw,h.c.bm,lr,q];refine C3.q (Qo h hk 0 (Fz _)) λ w m⟨hw,o2,l,j,g,f,y,d⟩=>?_;subst hw;cases b:s.vZ 0 (aj .u64 (s.c.seq+2))with
  |true =>
   rw[xg rfl];simp only[aa,bc];refine C3.q (Rr (s:=s.st 0 (aj .u64 (s.c.seq+2))) d.c hl) λ _ u hp=>?_;simp only[aa,bc];exact d.co (t:=(s.st 0 (aj .u64 (s.c.seq+2))).dc) (RJ _) (Pl _) hp (qm _)
  |false =>
   rw[qy (by decide)];simp only[aa,bc];exact d.here
def CS.nj(s:CS)(v:Int)(taken:Bool):CS :=
 let t:CS:={s with c:={s.c with so:=s.c.so.fX v taken}}
 let u:=if s.c.so.aH=B4/\t.c.so.aH=B2 then t.aC else t
 let w:=if s.c.so.points<u.c.so.points then u.tell 4 0 0 0 else u
 if w.c.so.busy=B4 then w else w.fM
def Vu(s:CS)(v:Int)(tk:Bool):s.given v tk=CS.nj {s with c:={s.c with held:=s.c.held ||tk && decide (s.c.so.want.a=0)}} v tk:=rfl
def M4(h:dP X n s H o rv ov bs own V)(hl:s.o.length<=1000):zb M qlw [.ptr X.p 0] H λ _ H'=>mi X n s.fM H':=by
 refine qvl ?_;unfold CS.fM;have⟨g,fv,hs⟩:=h.c.so
 by_cases a:s.c.so.ended=2
 .rw [xg a];simp only[aa,bc,RX,aw,h.c.bm,qU hs,qv a];refine C3.q (Z5 h.c hl 8) λ _ H1 hp=>?_;simp only[aa,bc];exact h.co (t:=s.abort 8) rfl rfl hp (qm _)
 rw[qy a]
 by_cases d:s.c.want.kind=5
 .rw [xg d];have⟨j,k,b⟩:=h.put 6 (v:=.int .i64 0) {s.c with ph:=0} rfl (by decide) rfl ⟨rfl,rfl,rfl,rfl⟩ ⟨rfl,rfl⟩ {h.c.w with};simp only[aa,bc,RX,aw,h.c.bm,qU hs,a,qv d,k];exact b.here
 rw[qy d]
 by_cases f:s.c.want.kind=3
 .rw [xg f];have⟨j,k,b⟩:=h.put 6 (v:=.int .i64 0) {s.c with ph:=0} rfl (by decide) rfl ⟨rfl,rfl,rfl,rfl⟩ ⟨rfl,rfl⟩ {h.c.w with};have⟨r,l,e⟩:=b.c.so;simp only[aa,bc,RX,aw,h.c.bm,qU hs,a,d,qv f,k,b.c.bm,CP e];refine C3.q (Ue (s:=s.ph 0) b.c hl s.c.want h.c.w.wu e.vu) λ _ m hp=>?_;simp only[aa,bc];exact b.co (t:=(s.ph 0).fh s.c.want s.c.so.value) rfl rfl hp (qm _)
 rw[qy f]
 by_cases i:s.c.want.kind=6
 .rw [xg i];simp only[aa,bc,RX,aw,h.c.bm,qU hs,a,d,f,qv i];refine C3.q (Rr h.c hl) λ _ j hp=>?_;simp only[aa,bc];exact h.co (t:=s.dc) (RJ _) (Pl _) hp (qm _)
 rw[qy i];simp only[aa,bc,RX,aw,h.c.bm,qU hs,a,d,f,i];refine C3.q (VZ h.c hl) λ _ j hp=>?_;simp only[aa,bc];exact h.co (t:=s.breaks) rfl rfl hp (qm _)
def HY(h:dP X n s H o rv ov bs own V)(hk:X.k+n<=90000)(hl:s.o.length<=990):zb M M9 [.ptr X.p 0] H λ _ H'=>mi X (n+1) s.qM H':=by
 refine qxd ?_;unfold CS.qM;simp only;have⟨g,fv,hs⟩:=h.c.so;simp only[aa,bc,zi,aw,h.c.bm];refine C3.q (RC hs) λ w H1⟨⟨qb,hw⟩,f1⟩=>?_;subst hw;obtain⟨B,e2⟩:∃Z,Z=(H1.alloc (OR (iU ⟨0,0,0,0⟩) BG)).set H1.au (OR (iU s.c.so.want) BG):=⟨_,rfl⟩
 have s2:Op.store 4 [.ptr H1.au 0,.agg (iU s.c.so.want)] (H1.alloc (OR (iU ⟨0,0,0,0⟩) BG))=B1 (.undef,B):=by
  have:=(At.new H1 (iU ⟨0,0,0,0⟩) BG).fK (k:=0) (n:=4) (v:=.agg (iU s.c.so.want)) rfl (by simp[iU]) rfl;rw[e2];exact this
 have f2:Fr Em H1 B:=e2▸((Fr.refl H1).alloc _).set (.inr (qm _)) _;have n1:=f1.au;have n2:B.au=H1.au+1:=by rw[e2,t9,xy]
 have g2:B.get H1.au=B1 (OR (iU s.c.so.want) BG):=by rw[e2,xc]
 have k0:Op.ae [.ptr H1.au 0] B=B1 (.int .i64 s.c.so.want.op):=vg g2 0;have k1:Op.ae [.ptr H1.au 1] B=B1 (.int .i64 s.c.so.want.a):=vg g2 1;have k2:Op.ae [.ptr H1.au 2] B=B1 (.int .u64 s.c.so.want.v):=vg g2 2;have k3:Op.ae [.ptr H1.au 3] B=B1 (.int .u64 s.c.so.want.o):=vg g2 3;have⟨o2,u,lo⟩:=h.loc (f1.em f2);have lo1:=(lo H1.au).1 ⟨n1,by omega⟩;have hr:=u.re;have rest2:∀{H4:ar}{o4:Nat->Nat}{rv4 ov4:AV}{bs4:Bs}{own4:Nat->Nat}{V4:Int->L8}{d:CS}{v:Int}{tk:Bool},fL v->dP (X.at B o2 bs) (n+1) d H4 o4 rv4 ov4 bs4 own4 V4->d.o.length<=990 -> ∀{E:Env}{Q:aG},lk E 0=B1 (.ptr X.p 0)->lk E 4=B1 (.int .u64 v)->lk E 5=B1 (.bool tk)->lk E 7=B1 (.int .i64 d.c.so.points)->lk E 8=B1 (.bool d.c.so.aH)->(∀ex E D H',(ex=.normal\/ex=.ret)->D=[]->mi X (n+1) (d.nj v tk) H'->Q ex E D H')->W M ⟨B5,M9⟩ (Gx M9 36) B4 Q E [] H4:=λ{H4 o4 rv4 ov4 bs4 own4 V4 d v tk}hu h4 hl{E Q}j E4 Y E7 E8 x=>by
  have⟨g4,fv4,r⟩:=h4.c.so;have c4:dU H4 o4 X.p X.f X.l X.sp X.cv rv4 ov4 X.pv d.c d.o (X.k+(n+1)):=h4.c;simp only[aa,bc,zi,aw,j,E4,Y,c4.bm];refine C3.q (Qt r hu) λ _ H5 hp=>?_;have⟨o5,rv5,ov5,bs5,own5,V5,h5⟩:=h4.co (t:={d with c:={d.c with so:=d.c.so.fX v tk}}) rfl rfl (h4.c.MY hp) (qm _);obtain⟨e,F⟩:∃e:CS,e = {d with c:={d.c with so:=d.c.so.fX v tk}}:=⟨_,rfl⟩
  rw[<-F]at h5;have hl5:e.o.length<=990:=by rw[F];exact hl
  have c5:dU H5 o5 X.p X.f X.l X.sp X.cv rv5 ov5 X.pv e.c e.o (X.k+(n+1)):=h5.c;have⟨g5,fv5,i⟩:=c5.so;have ew:e.c.so.aH=(d.c.so.fX v tk).aH:=by rw[F]
  cases C:d.c.so.aH with
  |true =>
   cases K:e.c.so.aH with
   |true =>
    by_cases q:d.c.so.points<e.c.so.points
    .simp only[aa,bc,zi,aw,j,E7,E8,C,J1 i,K,c5.bm,eW i,qv q];refine C3.q (FE (s:=e) c5 (by omega) 4 0 0 0) λ _ H7 hp=>?_;have⟨o7,U,T,bs7,own7,V7,P⟩:=h5.co (t:=(e).tell 4 0 0 0) rfl rfl hp (qm _);have N:dU H7 o7 X.p X.f X.l X.sp X.cv U T X.pv ((e).tell 4 0 0 0).c ((e).tell 4 0 0 0).o (X.k+(n+1)):=P.c;have⟨g7,fv7,z⟩:=N.so;cases b:((e).tell 4 0 0 0).c.so.busy with
     |true =>
      have m:d.nj v tk=((e).tell 4 0 0 0):=by unfold CS.nj;simp only;rw[<-F,qy (show¬(d.c.so.aH=B4/\(d.c.so.fX v tk).aH=B2)from λ w=>by have:=ew.trans w.2;rw[K]at this;cases this),xg q,xg b]
      simp only[aa,bc,zi,aw,j,N.bm,im z,b];exact x _ _ _ _ (.inl rfl) rfl (by rw[m];exact u.back P.here)
     |false =>
      have m:d.nj v tk=(((e).tell 4 0 0 0)).fM:=by unfold CS.nj;simp only;rw[<-F,qy (show¬(d.c.so.aH=B4/\(d.c.so.fX v tk).aH=B2)from λ w=>by have:=ew.trans w.2;rw[K]at this;cases this),xg q,qy (by rw[b];decide)]
      simp only[aa,bc,zi,aw,j,N.bm,im z,b];refine C3.q (M4 (X:=X.at B o2 bs) P (by show(e.o ++ [_]).length<=1000;rw[xe];simp only[zu,jq];omega)) λ _ H9 hp=>?_;simp only[aa,bc];exact x _ _ _ _ (.inl rfl) rfl (by rw[m];exact u.back hp)
    .cases b:e.c.so.busy with
     |true =>
      have m:d.nj v tk=e:=by unfold CS.nj;simp only;rw[<-F,qy (show¬(d.c.so.aH=B4/\(d.c.so.fX v tk).aH=B2)from λ w=>by have:=ew.trans w.2;rw[K]at this;cases this),qy q,xg b]
      simp only[aa,bc,zi,aw,j,E7,E8,C,J1 i,K,eW i,q,c5.bm,im i,b];exact x _ _ _ _ (.inl rfl) rfl (by rw[m];exact u.back h5.here)
     |false =>
      have m:d.nj v tk=(e).fM:=by unfold CS.nj;simp only;rw[<-F,qy (show¬(d.c.so.aH=B4/\(d.c.so.fX v tk).aH=B2)from λ w=>by have:=ew.trans w.2;rw[K]at this;cases this),qy q,qy (by rw[b];decide)]
      simp only[aa,bc,zi,aw,j,E7,E8,C,J1 i,K,eW i,q,c5.bm,im i,b];refine C3.q (M4 (X:=X.at B o2 bs) h5 (by omega)) λ _ H9 hp=>?_;simp only[aa,bc];exact x _ _ _ _ (.inl rfl) rfl (by rw[m];exact u.back hp)
   |false =>
    simp only[aa,bc,zi,aw,j,E8,C,c5.bm,J1 i,K];refine C3.q (q3z (s:=e) c5 (by omega)) λ _ H6 hp=>?_;have⟨o6,rv6,ov6,bs6,own6,V6,h6⟩:=h5.co (t:=e.aC) (qq _) (yc _) hp (qm _);have hl6:=xep e;have c6:dU H6 o6 X.p X.f X.l X.sp X.cv rv6 ov6 X.pv e.aC.c e.aC.o (X.k+(n+1)):=h6.c;have⟨g6,fv6,S⟩:=c6.so
    by_cases q:d.c.so.points<e.aC.c.so.points
    .simp only[aa,bc,zi,aw,j,E7,c6.bm,eW S,qv q];refine C3.q (FE (s:=e.aC) c6 (by omega) 4 0 0 0) λ _ H7 hp=>?_;have⟨o7,U,T,bs7,own7,V7,P⟩:=h6.co (t:=(e.aC).tell 4 0 0 0) rfl rfl hp (qm _);have N:dU H7 o7 X.p X.f X.l X.sp X.cv U T X.pv ((e.aC).tell 4 0 0 0).c ((e.aC).tell 4 0 0 0).o (X.k+(n+1)):=P.c;have⟨g7,fv7,z⟩:=N.so;cases b:((e.aC).tell 4 0 0 0).c.so.busy with
     |true =>
      have m:d.nj v tk=((e.aC).tell 4 0 0 0):=by unfold CS.nj;simp only;rw[<-F,xg (show d.c.so.aH=B4/\(d.c.so.fX v tk).aH=B2 from⟨C,ew.symm.trans K⟩),xg q,xg b]
      simp only[aa,bc,zi,aw,j,N.bm,im z,b];exact x _ _ _ _ (.inl rfl) rfl (by rw[m];exact u.back P.here)
     |false =>
      have m:d.nj v tk=(((e.aC).tell 4 0 0 0)).fM:=by unfold CS.nj;simp only;rw[<-F,xg (show d.c.so.aH=B4/\(d.c.so.fX v tk).aH=B2 from⟨C,ew.symm.trans K⟩),xg q,qy (by rw[b];decide)]
      simp only[aa,bc,zi,aw,j,N.bm,im z,b];refine C3.q (M4 (X:=X.at B o2 bs) P (by show(e.aC.o ++ [_]).length<=1000;rw[xe];simp only[zu,jq];omega)) λ _ H9 hp=>?_;simp only[aa,bc];exact x _ _ _ _ (.inl rfl) rfl (by rw[m];exact u.back hp)
    .cases b:e.aC.c.so.busy with
     |true =>
      have m:d.nj v tk=e.aC:=by unfold CS.nj;simp only;rw[<-F,xg (show d.c.so.aH=B4/\(d.c.so.fX v tk).aH=B2 from⟨C,ew.symm.trans K⟩),qy q,xg b]
      simp only[aa,bc,zi,aw,j,E7,eW S,q,c6.bm,im S,b];exact x _ _ _ _ (.inl rfl) rfl (by rw[m];exact u.back h6.here)
     |false =>
      have m:d.nj v tk=(e.aC).fM:=by unfold CS.nj;simp only;rw[<-F,xg (show d.c.so.aH=B4/\(d.c.so.fX v tk).aH=B2 from⟨C,ew.symm.trans K⟩),qy q,qy (by rw[b];decide)]
      simp only[aa,bc,zi,aw,j,E7,eW S,q,c6.bm,im S,b];refine C3.q (M4 (X:=X.at B o2 bs) h6 (by omega)) λ _ H9 hp=>?_;simp only[aa,bc];exact x _ _ _ _ (.inl rfl) rfl (by rw[m];exact u.back hp)
  |false =>
   by_cases q:d.c.so.points<e.c.so.points
   .simp only[aa,bc,zi,aw,j,E7,E8,C,c5.bm,eW i,qv q];refine C3.q (FE (s:=e) c5 (by omega) 4 0 0 0) λ _ H7 hp=>?_;have⟨o7,U,T,bs7,own7,V7,P⟩:=h5.co (t:=(e).tell 4 0 0 0) rfl rfl hp (qm _);have N:dU H7 o7 X.p X.f X.l X.sp X.cv U T X.pv ((e).tell 4 0 0 0).c ((e).tell 4 0 0 0).o (X.k+(n+1)):=P.c;have⟨g7,fv7,z⟩:=N.so;cases b:((e).tell 4 0 0 0).c.so.busy with
    |true =>
     have m:d.nj v tk=((e).tell 4 0 0 0):=by unfold CS.nj;simp only;rw[<-F,qy (show¬(d.c.so.aH=B4/\(d.c.so.fX v tk).aH=B2)from λ w=>by rw[C]at w;cases w.1),xg q,xg b]
     simp only[aa,bc,zi,aw,j,N.bm,im z,b];exact x _ _ _ _ (.inl rfl) rfl (by rw[m];exact u.back P.here)
    |false =>
     have m:d.nj v tk=(((e).tell 4 0 0 0)).fM:=by unfold CS.nj;simp only;rw[<-F,qy (show¬(d.c.so.aH=B4/\(d.c.so.fX v tk).aH=B2)from λ w=>by rw[C]at w;cases w.1),xg q,qy (by rw[b];decide)]
     simp only[aa,bc,zi,aw,j,N.bm,im z,b];refine C3.q (M4 (X:=X.at B o2 bs) P (by show(e.o ++ [_]).length<=1000;rw[xe];simp only[zu,jq];omega)) λ _ H9 hp=>?_;simp only[aa,bc];exact x _ _ _ _ (.inl rfl) rfl (by rw[m];exact u.back hp)
   .cases b:e.c.so.busy with
    |true =>
     have m:d.nj v tk=e:=by unfold CS.nj;simp only;rw[<-F,qy (show¬(d.c.so.aH=B4/\(d.c.so.fX v tk).aH=B2)from λ w=>by rw[C]at w;cases w.1),qy q,xg b]
     simp only[aa,bc,zi,aw,j,E7,E8,C,eW i,q,c5.bm,im i,b];exact x _ _ _ _ (.inl rfl) rfl (by rw[m];exact u.back h5.here)
    |false =>
     have m:d.nj v tk=(e).fM:=by unfold CS.nj;simp only;rw[<-F,qy (show¬(d.c.so.aH=B4/\(d.c.so.fX v tk).aH=B2)from λ w=>by rw[C]at w;cases w.1),qy q,qy (by rw[b];decide)]
     simp only[aa,bc,zi,aw,j,E7,E8,C,eW i,q,c5.bm,im i,b];refine C3.q (M4 (X:=X.at B o2 bs) h5 (by omega)) λ _ H9 hp=>?_;simp only[aa,bc];exact x _ _ _ _ (.inl rfl) rfl (by rw[m];exact u.back hp)
 have rest:∀{H3:ar}{o3:Nat->Nat}{I G:AV}{L:Bs}{A:Nat->Nat}{V3:Int->L8}{y:CS}{v:Int}{tk:Bool},fL v->dP (X.at B o2 bs) (n+1) y H3 o3 I G L A V3->y.c=s.c->y.o=s.o -> ∀{E:Env}{Q:aG},lk E 0=B1 (.ptr X.p 0)->lk E 2=B1 (.ptr H1.au 0)->lk E 4=B1 (.int .u64 v)->lk E 5=B1 (.bool tk)->lk E 6=B1 (.bool B4)->(∀ex E D H',(ex=.normal\/ex=.ret)->D=[]->mi X (n+1) (y.given v tk) H'->Q ex E D H')->W M ⟨B5,M9⟩ (Gx M9 26) B4 Q E [] H3:=λ{H3 o3 I G L A V3 y v tk}hu J hc ho{E Q}j E2 E4 Y E6 x=>by
  have c3:dU H3 o3 X.p X.f X.l X.sp X.cv I G X.pv y.c y.o (X.k+(n+1)):=J.c;have m1:Op.ae [.ptr H1.au 1] H3=B1 (.int .i64 s.c.so.want.a):=vg (p5 (J.lo lo1).2 g2) 1;obtain⟨R,O⟩:∃R:Bool,R=(y.c.held ||tk && decide (y.c.so.want.a=0)):=⟨_,rfl⟩
  have⟨H4,s4,h4⟩:=J.put 16 (v:=.bool R) {y.c with held:=R} rfl (by decide) rfl ⟨rfl,rfl,rfl,rfl⟩ ⟨rfl,rfl⟩ {J.c.w with};have s4:Op.store 1 [.ptr X.p 16,.bool R] H3=B1 (.undef,H4):=s4;have r2:=λ{E:Env}{Q:aG}=>rest2 (v:=v) (tk:=tk) (E:=E) (Q:=Q) hu h4 (by show y.o.length<=990;rw[ho];exact hl);have m:y.given v tk=CS.nj {y with c:={y.c with held:=R}} v tk:=by rw[Vu,O]
  obtain⟨d,e2'⟩:∃d:CS,d = {y with c:={y.c with held:=R}}:=⟨_,rfl⟩
  rw[<-e2']at r2 m h4;have c4:dU H4 o3 X.p X.f X.l X.sp X.cv I G X.pv d.c d.o (X.k+(n+1)):=h4.c;have⟨g4,fv4,r⟩:=c4.so;rw[m]at x;cases hh:y.c.held with
  |true =>
   have e1:R=true:=by rw[O,hh];rfl
   rw[e1]at s4;simp only[aa,bc,zi,aw,j,E2,Y,E6,c3.bm,hh,s4];simp only[aa,bc,aw,c4.bm,eW r,J1 r];exact r2 j E4 Y rfl rfl x
  |false =>
   cases tk with
   |false =>
    have e1:R=false:=by rw[O,hh];rfl
    rw[e1]at s4;simp only[aa,bc,zi,aw,j,E2,Y,E6,c3.bm,hh,s4];simp only[aa,bc,aw,c4.bm,eW r,J1 r];exact r2 j E4 Y rfl rfl x
   |true =>
    by_cases qa:s.c.so.want.a=0
    .have e1:R=true:=by rw[O,hh,hc,ke qa];rfl
     rw[e1]at s4;simp only[aa,bc,zi,aw,j,E2,Y,E6,c3.bm,hh,s4,m1,qv qa];simp only[aa,bc,aw,c4.bm,eW r,J1 r];exact r2 j E4 Y rfl rfl x
    .have e1:R=false:=by rw[O,hh,hc,ju qa];rfl
     rw[e1]at s4;simp only[aa,bc,zi,aw,j,E2,Y,E6,c3.bm,hh,s4,m1,qa];simp only[aa,bc,aw,c4.bm,eW r,J1 r];exact r2 j E4 Y rfl rfl x
 by_cases q1:s.c.so.want.op=1
 .rw [xg q1];simp only[aa,bc,zi,aw,MU,s2,k0,k1,qv q1];refine C3.q (PD hr hk s.c.so.want.a) λ w H3⟨hw,hu,o3,I,G,L,A,V3,J⟩=>?_;subst hw;cases b:(s.kW s.c.so.want.a).2 with
  |true =>
   rw[xg rfl];simp only[aa,bc,aw];exact rest hu J rfl rfl rfl rfl rfl rfl rfl λ ex E D H' he hD hs=>by rcases he with rfl|rfl<;>subst hD<;>exact hs
  |false =>
   rw[qy (by decide)];simp only[aa,bc,zi,aw];exact u.back J.here
 rw[qy q1]
 by_cases q2:s.c.so.want.op=2
 .rw [xg q2];simp only[aa,bc,zi,aw,MU,s2,k0,k1,k2,q1,qv q2];refine C3.q (Qo hr hk s.c.so.want.a hs.qu) λ w H3⟨hw,o3,I,G,L,A,V3,J⟩=>?_;subst hw;cases b:s.vZ s.c.so.want.a s.c.so.want.v with
  |true =>
   rw[xg rfl];simp only[aa,bc];exact rest bJ J rfl rfl rfl rfl rfl rfl rfl λ ex E D H' he hD hs=>by rcases he with rfl|rfl<;>subst hD<;>exact hs
  |false =>
   rw[qy (by decide)];simp only[aa,bc,zi];exact u.back J.here
 rw[qy q2]
 by_cases q3:s.c.so.want.op=3
 .rw [xg q3];simp only[aa,bc,zi,aw,MU,s2,k0,k1,k2,k3,q1,q2,qv q3];refine C3.q (J3 hr hk s.c.so.want.a s.c.so.want.o hs.qu) λ w H3⟨hw,o3,I,G,L,A,V3,J⟩=>?_;subst hw;cases b:(s.Ac s.c.so.want.a s.c.so.want.o).2 with
  |true =>
   rw[xg rfl];simp only[aa,bc,aw];exact rest bJ J rfl rfl rfl rfl rfl rfl rfl λ ex E D H' he hD hs=>by rcases he with rfl|rfl<;>subst hD<;>exact hs
  |false =>
   rw[qy (by decide)];simp only[aa,bc,zi,aw];exact u.back J.here
 rw[qy q3];simp only[aa,bc,zi,aw,MU,s2,k0,q1,q2,q3];exact u.back (u.re.eF (by omega))
end
end Go.Am
namespace Go.Am
open Lang Go.Proofs
variable{M:ak}[MK M]
def GV(o:Nat)(x y:Int):fL (FC o x y):=by unfold FC;(repeat' split)<;>exact Fz _
structure Pv(e:pI):Prop where
 v:fL e.value
 a:fL e.addr
 k:e.kind=0\/e.kind=1\/e.kind=2\/e.kind=3\/e.kind=4\/e.kind=5\/e.kind=6\/e.kind=7
def yA{p:Prop}[Decidable p]{x y:pI}(a:Pv x)(b:Pv y):Pv (if p then x else y):=by split;exact a;exact b
def Sj(i:iV)(pc:Int)(q:Bool):Pv (nT i pc q):=yA (yA ⟨bJ,bJ,.inl rfl⟩ ⟨bJ,bJ,.inr (.inr (.inl rfl))⟩) ⟨bJ,bJ,.inr (.inr (.inl rfl))⟩
def LR(i:iV){rs:List Int}{pc:Int}(a:rs.length=8)(hr:∀x∈rs,fL x):Pv (i.gh rs pc):=by
 unfold iV.gh;refine yA ⟨bJ,bJ,.inl rfl⟩ (yA ⟨bJ,bJ,by simp⟩ (yA ⟨Fz _,bJ,by simp⟩ (yA ⟨P9 a hr _,bJ,by simp⟩ (yA ⟨GV _ _ _,bJ,by simp⟩ (yA ⟨bJ,Fz _,by simp⟩ (yA ⟨P9 a hr _,Fz _,by simp⟩ (yA (Sj ..) (yA (Sj ..) (yA (Sj ..) (yA (Sj ..) (yA ⟨bJ,bJ,by simp⟩ ⟨bJ,bJ,by simp⟩)))))))))))
def ae1(i:iV):(gn i).length=5:=rfl
def CS.oX(s:CS)(f:pI):CS :=
 let is:=Ik s.c f.addr
 let a:=8+f.addr
 if(f.kind=3\/f.kind=4)/\is=B2\/f.kind=0\/s.c.la.lane≠0/\f.kind=5\/s.c.la.lane=0/\f.kind=6\/s.c.la.lane≠0/\f.kind=7 then s.dI
 else if f.kind=7 then{s with c:={s.c with halted:=B4}}
 else if f.kind=1 then(s.fi (·.set f.pG f.value)).fN f.au
 else if f.kind=2 then s.fN f.au
 else if f.kind=3 then s.oh f a
 else if f.kind=4 then s.kK f a
 else if f.kind=5 then let t:=((s.fN f.au).fi .save).la .enter
  {t with c:={t.c with blocks:=aj .i64 (t.c.blocks+1),ph:=1}}
 else s.ends
def Eo(s:CS):s.rK=if(s.c.code.length:Int)<=s.c.fi.pc then if s.c.la.lane=0 then{s with c:={s.c with halted:=B4}}else s.dI else s.oX ((s.c.code.getD s.c.fi.pc.toNat ⟨0,0,0,0,0⟩).gh s.c.fi.rs s.c.fi.pc):=rfl
section
variable{X:SX}{n n':Nat}{s t:CS}{H H':ar}{o:Nat->Nat}{rv ov:AV}{bs:Bs}{own:Nat->Nat}{V:Int->L8}
def GQ(h:dP X n s H o rv ov bs own V)(hk:X.k+n<=90000)(hl:s.o.length<=1000)(hS:oJ H):zb M υ [.ptr X.p 0] H λ _ H'=>mi X (n+1) s.rK H':=by
 refine qxe ?_;rw[Eo];have ln:=i9 (M:=M) h.c.la;have pc:=fpc (M:=M) h.c.fi;have pc0:=h.c.fi.w.pc;have lc:=h.c.cd.len
 by_cases U:(s.c.code.length:Int)<=s.c.fi.pc
 .rw [xg U]
  by_cases b:s.c.la.lane=0
  .rw [xg b];have⟨H1,s1,Q⟩:=h.put 20 (v:=.bool B4) {s.c with halted:=B4} rfl (by decide) rfl ⟨rfl,rfl,rfl,rfl⟩ ⟨rfl,rfl⟩ {h.c.w with};simp only[aa,bc,jb,aw,h.c.bm,ln,pc,lc,qv U,qv b,s1];exact Q.eF (by omega)
  .rw [qy b];simp only[aa,bc,jb,aw,h.c.bm,ln,pc,lc,qv U,b];refine C3.q (Ψ h hk hl) λ _ H1 hp=>?_;simp only[aa,bc,jb];exact hp
 rw[qy U];obtain⟨i,hi⟩:∃i,s.c.code[s.c.fi.pc.toNat]? = B1 i:=⟨_,xf (by omega)⟩
 rw[zt,hi,vk];have ix:=h.c.cd.idx hi (z:=s.c.fi.pc) (LW pc0).symm .i64;have ld:∀{H':ar},bI gn 5 H' X.cv s.c.code->Op.aq 5 [.ptr (aE X.cv) (cK 5 X.cv s.c.fi.pc.toNat)] H'=B1 (.agg (gn i)):=λ w=>w.aq ae1 (by decide) hi;have yH:=ld h.c.cd;simp only[aa,bc,jb,aw,h.c.bm,ln,pc,lc,U,ix,yH];refine C3.q (Yt h.c.fi) λ v H1⟨hv,f1⟩=>?_;subst hv;obtain⟨o1,Q,-⟩:=h.loc f1;have l2:Op.ae [.ptr X.p 2] H1=B1 X.cv:=Q.c.row.ld 2;have ld1:=ld Q.c.cd;simp only[aa,bc,Q.c.bm,ld1];refine C3.q (Hg (hS.em f1) (i:=i) (pc:=s.c.fi.pc) h.c.fi.w.r8 h.c.fi.w.ru) λ v j⟨hv,f2⟩=>?_;subst hv;have⟨vu,R,kk⟩:=LR i (pc:=s.c.fi.pc) h.c.fi.w.r8 h.c.fi.w.ru;generalize i.gh s.c.fi.rs s.c.fi.pc=e at *;obtain⟨o2,h2,-⟩:=Q.loc f2;obtain⟨I,W⟩:∃Z,Z=(j.alloc (OR (bj iy) jk)).set j.au (OR (bj e) jk):=⟨_,rfl⟩
 have x:Op.store 5 [.ptr j.au 0,.agg (bj e)] (j.alloc (OR (bj iy) jk))=B1 (.undef,I):=by
  have:=(At.new j (bj iy) jk).fK (k:=0) (n:=5) (v:=.agg (bj e)) rfl (by simp[bj]) rfl;rw[W];exact this
 have f3:Fr Em j I:=W▸((Fr.refl j).alloc _).set (.inr (qm _)) _;have n3:I.au=j.au+1:=by rw[W,t9,xy]
 have O:I.get j.au=B1 (OR (bj e) jk):=by rw[W,xc]
 have r:Op.ae [.ptr j.au 0] I=B1 (.int .i64 e.kind):=vg O 0;have k1:Op.ae [.ptr j.au 1] I=B1 (.int .i64 e.au):=vg O 1;have k2:Op.ae [.ptr j.au 2] I=B1 (.int .i64 e.pG):=vg O 2;have k3:Op.ae [.ptr j.au 3] I=B1 (.int .u64 e.value):=vg O 3;have u:Op.ae [.ptr j.au 4] I=B1 (.int .u64 e.addr):=vg O 4;have k5:=Ex O;have⟨o3,d,lo⟩:=h2.loc f3;have T:=(lo j.au).1 ⟨qm _,by omega⟩;have hr:=d.re;have a:=P1 (M:=M) d.c R;have D:zb M Xi [.ptr X.p 0] I λ _ H'=>mi X (n+1) s.dI H':=Ψ d hk hl;rcases kk with q|q|q|q|q|q|q|q
 .have A:¬e.kind=1:=by omega
  have E:¬e.kind=2:=by omega
  have g:¬e.kind=3:=by omega
  have m:¬e.kind=4:=by omega
  have F:¬e.kind=5:=by omega
  have G:¬e.kind=6:=by omega
  have y:¬e.kind=7:=by omega
  have e1:s.oX e=s.dI:=by unfold CS.oX;simp[q]
  rw[e1];simp only[aa,bc,jb,aw,jV,x,r,u,a,g,m,qv q];refine C3.q D λ _ C hp=>?_;simp only[aa,bc];exact hp
 .have a0:¬e.kind=0:=by omega
  have E:¬e.kind=2:=by omega
  have g:¬e.kind=3:=by omega
  have m:¬e.kind=4:=by omega
  have F:¬e.kind=5:=by omega
  have G:¬e.kind=6:=by omega
  have y:¬e.kind=7:=by omega
  have e1:s.oX e=(s.fi (·.set e.pG e.value)).fN e.au:=by unfold CS.oX;simp[q]
  rw[e1]
  by_cases b:s.c.la.lane=0
  .simp only[aa,bc,jb,aw,jV,x,r,k2,k3,u,a,d.c.bm,a0,g,m,G,y,qv q,qv b];refine C3.q (Ky d.c.fi e.pG vu) λ _ C hp=>?_;have⟨o4,N,K,S,P,V4,B⟩:=hr.co (t:=s.fi (·.set e.pG e.value)) rfl rfl (d.c.G0 hp) (qm _);have c4:dU C o4 X.p X.f X.l X.sp X.cv N K X.pv (s.fi (·.set e.pG e.value)).c s.o (X.k+n):=B.c;have m1:Op.ae [.ptr j.au 1] C=B1 (.int .i64 e.au):=vg (p5 (B.lo T).2 O) 1;simp only[aa,bc,m1];refine C3.q (KS (s:=s.fi (·.set e.pG e.value)) c4 e.au) λ _ J hp=>?_;simp only[aa,bc];exact d.back ((B.co (t:=(s.fi (·.set e.pG e.value)).fN e.au) rfl rfl hp (qm _)).mono (by omega))
  .simp only[aa,bc,jb,aw,jV,x,r,k2,k3,u,a,d.c.bm,a0,g,m,F,y,qv q,b];refine C3.q (Ky d.c.fi e.pG vu) λ _ C hp=>?_;have⟨o4,N,K,S,P,V4,B⟩:=hr.co (t:=s.fi (·.set e.pG e.value)) rfl rfl (d.c.G0 hp) (qm _);have c4:dU C o4 X.p X.f X.l X.sp X.cv N K X.pv (s.fi (·.set e.pG e.value)).c s.o (X.k+n):=B.c;have m1:Op.ae [.ptr j.au 1] C=B1 (.int .i64 e.au):=vg (p5 (B.lo T).2 O) 1;simp only[aa,bc,m1];refine C3.q (KS (s:=s.fi (·.set e.pG e.value)) c4 e.au) λ _ J hp=>?_;simp only[aa,bc];exact d.back ((B.co (t:=(s.fi (·.set e.pG e.value)).fN e.au) rfl rfl hp (qm _)).mono (by omega))
 .have a0:¬e.kind=0:=by omega
  have A:¬e.kind=1:=by omega
  have g:¬e.kind=3:=by omega
  have m:¬e.kind=4:=by omega
  have F:¬e.kind=5:=by omega
  have G:¬e.kind=6:=by omega
  have y:¬e.kind=7:=by omega
  have e1:s.oX e=s.fN e.au:=by unfold CS.oX;simp[q]
  rw[e1]
  by_cases b:s.c.la.lane=0
  .simp only[aa,bc,jb,aw,jV,x,r,k1,u,a,a0,A,g,m,G,y,qv q,qv b];refine C3.q (KS d.c e.au) λ _ J hp=>?_;simp only[aa,bc];exact(d.co (t:=s.fN e.au) rfl rfl hp (qm _)).mono (by omega)
  .simp only[aa,bc,jb,aw,jV,x,r,k1,u,a,a0,A,g,m,F,y,qv q,b];refine C3.q (KS d.c e.au) λ _ J hp=>?_;simp only[aa,bc];exact(d.co (t:=s.fN e.au) rfl rfl hp (qm _)).mono (by omega)
 .have a0:¬e.kind=0:=by omega
  have A:¬e.kind=1:=by omega
  have E:¬e.kind=2:=by omega
  have m:¬e.kind=4:=by omega
  have F:¬e.kind=5:=by omega
  have G:¬e.kind=6:=by omega
  have y:¬e.kind=7:=by omega
  cases L:CS.Ik s.c e.addr with
  |true =>
   have e1:s.oX e=s.oh e (8+e.addr):=by unfold CS.oX;simp[q,L]
   rw[e1];rw[L,xg rfl]at a
   by_cases b:s.c.la.lane=0
   .simp only[aa,bc,jb,aw,jV,x,r,u,k5,a,a0,A,E,G,y,qv q,qv b];refine C3.q (xkx d hk hl e R (8+e.addr)) λ _ J hp=>?_;simp only[aa,bc];exact hp
   .simp only[aa,bc,jb,aw,jV,x,r,u,k5,a,a0,A,E,F,y,qv q,b];refine C3.q (xkx d hk hl e R (8+e.addr)) λ _ J hp=>?_;simp only[aa,bc];exact hp
  |false =>
   rw[L,qy (by decide)]at a;have e1:s.oX e=s.dI:=by unfold CS.oX;simp[q,L]
   rw[e1];simp only[aa,bc,jb,aw,jV,x,r,u,a,qv q];refine C3.q D λ _ C hp=>?_;simp only[aa,bc];exact hp
 .have a0:¬e.kind=0:=by omega
  have A:¬e.kind=1:=by omega
  have E:¬e.kind=2:=by omega
  have g:¬e.kind=3:=by omega
  have F:¬e.kind=5:=by omega
  have G:¬e.kind=6:=by omega
  have y:¬e.kind=7:=by omega
  cases L:CS.Ik s.c e.addr with
  |true =>
   have e1:s.oX e=s.kK e (8+e.addr):=by unfold CS.oX;simp[q,L]
   rw[e1];rw[L,xg rfl]at a
   by_cases b:s.c.la.lane=0
   .simp only[aa,bc,jb,aw,jV,x,r,u,k5,a,a0,A,E,g,G,y,qv q,qv b];refine C3.q (sB d hk hl e R vu (8+e.addr)) λ _ J hp=>?_;simp only[aa,bc];exact hp
   .simp only[aa,bc,jb,aw,jV,x,r,u,k5,a,a0,A,E,g,F,y,qv q,b];refine C3.q (sB d hk hl e R vu (8+e.addr)) λ _ J hp=>?_;simp only[aa,bc];exact hp
  |false =>
   rw[L,qy (by decide)]at a;have e1:s.oX e=s.dI:=by unfold CS.oX;simp[q,L]
   rw[e1];simp only[aa,bc,jb,aw,jV,x,r,u,a,g,qv q];refine C3.q D λ _ C hp=>?_;simp only[aa,bc];exact hp
 .have a0:¬e.kind=0:=by omega
  have A:¬e.kind=1:=by omega
  have E:¬e.kind=2:=by omega
  have g:¬e.kind=3:=by omega
  have m:¬e.kind=4:=by omega
  have G:¬e.kind=6:=by omega
  have y:¬e.kind=7:=by omega
  by_cases b:s.c.la.lane=0
  .have e1:s.oX e=(let t:=((s.fN e.au).fi .save).la .enter
    {t with c:={t.c with blocks:=aj .i64 (t.c.blocks+1),ph:=1}}):=by unfold CS.oX;simp[q,b]
   rw[e1];simp only[aa,bc,jb,aw,jV,x,r,k1,u,a,a0,A,E,g,m,G,y,qv q,qv b];refine C3.q (KS d.c e.au) λ _ C hp=>?_;have⟨o4,N,K,S,P,V4,B⟩:=d.co (t:=s.fN e.au) rfl rfl hp (qm _);simp only[aa,bc,aw,B.c.bm];refine C3.q (PU B.c.fi) λ _ J hp=>?_;have⟨o5,rv5,ov5,bs5,own5,V5,Y⟩:=B.co (t:=(s.fN e.au).fi .save) rfl rfl (B.c.G0 hp) (qm _);simp only[aa,bc,aw,Y.c.bm];refine C3.q (KT Y.c.la) λ _ H6 hp=>?_;have⟨o6,rv6,ov6,bs6,own6,V6,h6⟩:=Y.co (t:=((s.fN e.au).fi .save).la .enter) rfl rfl (Y.c.Ut hp) (qm _);obtain⟨t,ht⟩:∃t:CS,t=((s.fN e.au).fi .save).la .enter:=⟨_,rfl⟩
   rw[<-ht]at h6;rw[<-ht];have⟨H7,s7,h7⟩:=h6.put 18 (v:=.int .i64 (aj .i64 (t.c.blocks+1))) {t.c with blocks:=aj .i64 (t.c.blocks+1)} rfl (by decide) rfl ⟨rfl,rfl,rfl,rfl⟩ ⟨rfl,rfl⟩ {h6.c.w with};have⟨H8,s8,h8⟩:=h7.put 6 (v:=.int .i64 1) {t.c with blocks:=aj .i64 (t.c.blocks+1),ph:=1} rfl (by decide) rfl ⟨rfl,rfl,rfl,rfl⟩ ⟨rfl,rfl⟩ {h7.c.w with};simp only[aa,bc,aw,h6.c.bm,s7,s8];exact h8.eF (by omega)
  .have e1:s.oX e=s.dI:=by unfold CS.oX;simp[q,b]
   rw[e1];simp only[aa,bc,jb,aw,jV,x,r,u,a,a0,g,m,qv q,b];refine C3.q D λ _ C hp=>?_;simp only[aa,bc];exact hp
 .have a0:¬e.kind=0:=by omega
  have A:¬e.kind=1:=by omega
  have E:¬e.kind=2:=by omega
  have g:¬e.kind=3:=by omega
  have m:¬e.kind=4:=by omega
  have F:¬e.kind=5:=by omega
  have y:¬e.kind=7:=by omega
  by_cases b:s.c.la.lane=0
  .have e1:s.oX e=s.dI:=by unfold CS.oX;simp[q,b]
   rw[e1];simp only[aa,bc,jb,aw,jV,x,r,u,a,a0,g,m,qv q,qv b];refine C3.q D λ _ C hp=>?_;simp only[aa,bc];exact hp
  .have e1:s.oX e=s.ends:=by unfold CS.oX;simp[q,b]
   rw[e1];simp only[aa,bc,jb,aw,jV,x,r,u,a,a0,A,E,g,m,F,y,b];refine C3.q (L6 d hk hl) λ _ J hp=>?_;simp only[aa,bc];exact hp
 .have a0:¬e.kind=0:=by omega
  have A:¬e.kind=1:=by omega
  have E:¬e.kind=2:=by omega
  have g:¬e.kind=3:=by omega
  have m:¬e.kind=4:=by omega
  have F:¬e.kind=5:=by omega
  have G:¬e.kind=6:=by omega
  by_cases b:s.c.la.lane=0
  .have e1:s.oX e = {s with c:={s.c with halted:=B4}}:=by unfold CS.oX;simp[q,b]
   rw[e1];have⟨C,s4,B⟩:=d.put 20 (v:=.bool B4) {s.c with halted:=B4} rfl (by decide) rfl ⟨rfl,rfl,rfl,rfl⟩ ⟨rfl,rfl⟩ {d.c.w with};simp only[aa,bc,jb,aw,jV,x,r,u,a,a0,g,m,G,qv q,qv b,s4];exact B.eF (by omega)
  .have e1:s.oX e=s.dI:=by unfold CS.oX;simp[q,b]
   rw[e1];simp only[aa,bc,jb,aw,jV,x,r,u,a,a0,g,m,F,qv q,b];refine C3.q D λ _ C hp=>?_;simp only[aa,bc];exact hp
end
end Go.Am
namespace Go.Am
open Lang Go.Proofs
variable{M:ak}[MK M]
section
variable{X:SX}{n n':Nat}{s t:CS}{H H':ar}{o:Nat->Nat}{rv ov:AV}{bs:Bs}{own:Nat->Nat}{V:Int->L8}
def Qj(h:dP X n s H o rv ov bs own V)(hk:X.k+n+1<=90000)(hl:s.o.length<=990)(P:oJ H):zb M Xw [.ptr X.p 0] H λ _ H'=>mi X (n+2) s.act H':=by
 refine q36 ?_;have d:X.k+n<=90000:=by omega
 have f:s.o.length<=1000:=by omega
 unfold CS.act;simp only
 by_cases e:s.c.ph=0
 .rw [xg e];simp only[aa,bc,jv,aw,h.c.bm,qv e];refine C3.q (GQ h d f P) λ _ H1 hp=>?_;simp only[aa,bc];exact hp.mono (by omega)
 rw[qy e]
 by_cases g:s.c.ph=1
 .rw [xg g];simp only[aa,bc,jv,aw,h.c.bm,e,qv g];refine C3.q (Eg h d f) λ _ H1 hp=>?_;simp only[aa,bc];exact hp.mono (by omega)
 rw[qy g]
 by_cases i:s.c.ph=2
 .rw [xg i];simp only[aa,bc,jv,aw,h.c.bm,e,g,qv i];refine C3.q (PD h d 1) λ v H1⟨y,hu,o1,u,m,j,nN,G,a⟩=>?_;subst y;cases b:(s.kW 1).2 with
  |false =>
   rw[qy (by decide)];simp only[aa,bc,jv,aw];exact a.eF (by omega)
  |true =>
   rw[xg rfl];have⟨F,s2,l⟩:=a.put 6 (v:=.int .i64 3) {s.c with ph:=3} rfl (by decide) rfl ⟨rfl,rfl,rfl,rfl⟩ ⟨rfl,rfl⟩ {a.c.w with}
   by_cases z:(s.kW 1).1=0
   .rw [qy (λ w=>w z)];simp only[aa,bc,jv,aw,s2,qv z];exact l.eF (by omega)
   .rw [xg z];simp only[aa,bc,jv,aw,s2,z,l.c.bm,SX.pv,wH,XS];refine C3.q (XT (s:=(s.ld 1).ph 3) l (by omega) 6) λ _ N hp=>?_;simp only[aa,bc];exact hp
 rw[qy i]
 by_cases r:s.c.ph=3
 .rw [xg r];simp only[aa,bc,jv,aw,h.c.bm,e,g,i,qv r];refine C3.q (PD h d 0) λ v H1⟨y,hu,o1,u,m,j,nN,G,a⟩=>?_;subst y;cases b:(s.kW 0).2 with
  |false =>
   rw[qy (by decide)];simp only[aa,bc,aw];exact a.eF (by omega)
  |true =>
   rw[xg rfl];have⟨F,s2,l⟩:=a.put 12 (v:=.int .u64 (s.kW 0).1) {s.c with seq:=(s.kW 0).1} rfl (by decide) rfl ⟨rfl,rfl,rfl,rfl⟩ ⟨rfl,rfl⟩ {a.c.w with};have⟨N,L,I⟩:=l.put 6 (v:=.int .i64 0) {s.c with seq:=(s.kW 0).1,ph:=0} rfl (by decide) rfl ⟨rfl,rfl,rfl,rfl⟩ ⟨rfl,rfl⟩ {l.c.w with}
   by_cases z:(s.kW 0).1 % 2=1
   .rw [xg z];simp only[aa,bc,jv,aw,s2,L,po hu,qv z,I.c.bm,SX.pv,wH,XS];refine C3.q (XT (s:={s.ld 0 with c:={s.c with seq:=(s.kW 0).1,ph:=0}}) I (by omega) 6) λ _ Q hp=>?_;simp only[aa,bc];exact hp
   .rw [qy z];simp only[aa,bc,jv,aw,s2,L,po hu,z];exact I.eF (by omega)
 rw[qy r]
 by_cases x:s.c.ph=4
 .rw [xg x];simp only[aa,bc,jv,aw,h.c.bm,e,g,i,r,qv x];refine C3.q (PD h d 0) λ v H1⟨y,hu,o1,u,m,j,nN,G,a⟩=>?_;subst y;cases b:(s.kW 0).2 with
  |false =>
   rw[qy (λ w=>by cases w.1)];simp only[aa,bc,jv,aw];exact a.eF (by omega)
  |true =>
   by_cases z:(s.kW 0).1 % 2=0
   .rw [xg ⟨rfl,z⟩];have⟨F,s2,l⟩:=a.put 12 (v:=.int .u64 (s.kW 0).1) {s.c with seq:=(s.kW 0).1} rfl (by decide) rfl ⟨rfl,rfl,rfl,rfl⟩ ⟨rfl,rfl⟩ {a.c.w with};have⟨N,L,I⟩:=l.put 6 (v:=.int .i64 5) {s.c with seq:=(s.kW 0).1,ph:=5} rfl (by decide) rfl ⟨rfl,rfl,rfl,rfl⟩ ⟨rfl,rfl⟩ {l.c.w with};simp only[aa,bc,jv,aw,po hu,qv z,s2,L];exact I.eF (by omega)
   .rw [qy (λ w=>z w.2)];simp only[aa,bc,jv,aw,po hu,z];exact a.eF (by omega)
 rw[qy x]
 by_cases A:s.c.ph=5
 .rw [xg A];simp only[aa,bc,jv,aw,h.c.bm,e,g,i,r,x,qv A];refine C3.q (GD h d f) λ _ H1 hp=>?_;simp only[aa,bc];exact hp.mono (by omega)
 rw[qy A]
 by_cases C:s.c.ph=6
 .rw [xg C];simp only[aa,bc,jv,aw,h.c.bm,e,g,i,r,x,A,qv C];refine C3.q (HY h d hl) λ _ H1 hp=>?_;simp only[aa,bc];exact hp.mono (by omega)
 rw[qy C];have O:=Qo (M:=M) h d 0 (Fz (s.c.seq+2))
 by_cases D:s.c.ph=7
 .rw [xg D];unfold CS.iv;simp only;simp only[aa,bc,jv,aw,h.c.bm,e,g,i,r,x,A,C,qv D];refine C3.q O λ v H1⟨y,o1,u,m,j,nN,G,a⟩=>?_;subst y;cases b:s.vZ 0 (aj .u64 (s.c.seq+2))with
  |false =>
   rw[qy (by decide)];simp only[aa,bc];exact a.eF (by omega)
  |true =>
   rw[xg rfl];have⟨F,s2,l⟩:=a.put 6 (v:=.int .i64 8) {s.c with ph:=8} rfl (by decide) rfl ⟨rfl,rfl,rfl,rfl⟩ ⟨rfl,rfl⟩ {a.c.w with};simp only[aa,bc,aw,s2];exact l.eF (by omega)
 rw[qy D]
 by_cases E:s.c.ph=8
 .rw [xg E];simp only[aa,bc,jv,aw,h.c.bm,e,g,i,r,x,A,C,D,qv E,SX.pv,wH,XH];refine C3.q (Vg h d) λ _ H1⟨o1,u,m,j,nN,G,a⟩=>?_;simp only[aa,bc];refine C3.q (Rr (s:=s.lG 4 0 0 0) a.c f) λ _ F hp=>?_;simp only[aa,bc];exact(a.co (t:=(s.lG 4 0 0 0).dc) (RJ _) (Pl _) hp (qm _)).mono (by omega)
 rw[qy E]
 by_cases J:s.c.ph=9
 .rw [xg J];simp only[aa,bc,jv,aw,h.c.bm,e,g,i,r,x,A,C,D,E,qv J];refine C3.q (It h d f) λ _ H1 hp=>?_;simp only[aa,bc];exact hp.mono (by omega)
 rw[qy J]
 by_cases K:s.c.ph=10
 .rw [xg K];unfold CS.iv;simp only;simp only[aa,bc,jv,aw,h.c.bm,e,g,i,r,x,A,C,D,E,J,qv K];refine C3.q O λ v H1⟨y,o1,u,m,j,nN,G,a⟩=>?_;subst y;cases b:s.vZ 0 (aj .u64 (s.c.seq+2))with
  |false =>
   rw[qy (by decide)];simp only[aa,bc];exact a.eF (by omega)
  |true =>
   rw[xg rfl];simp only[aa,bc];refine C3.q (VZ (s:=s.st 0 (aj .u64 (s.c.seq+2))) a.c f) λ _ F hp=>?_;simp only[aa,bc];exact(a.co (t:=(s.st 0 (aj .u64 (s.c.seq+2))).breaks) rfl rfl hp (qm _)).mono (by omega)
 rw[qy K];simp only[aa,bc,jv,aw,h.c.bm,e,g,i,r,x,A,C,D,E,J,K];exact h.eF (by omega)
end
end Go.Am
namespace Go.Am
open Lang Go.Proofs
variable{M:ak}[MK M]
section
variable{H H0:ar}{B:Nat}{s:Bs}{b:Bu}{own:Nat->Nat}
def xj3(h:eL H0 H B s b own)(hb:BB b){c:Nat}{n:No}(hn:b.ns[c]? = B1 n):zb M Tm [.ptr B 0,.int .i64 (c:Int)] H λ v H'=>v=.int .i64 n.code/\H'=H:=by
 refine q6s ?_;simp only[aa,bc,q6t];refine C3.q (Gu h hb.N4 (c:Int)) λ v k⟨a,j,_⟩=>?_;have hl:=(qt.1 hn).1;have⟨A,g,d⟩:=j ⟨by omega,by omega⟩;rw[Ho]at g;rw[d,a];have i:=h.no _ n A hn g;have e:Op.ae [.ptr A.r 16] H=B1 (.int .i64 n.code):=(i.ld 16).trans (FQ n A.b A.bv).2.2.2.2.2.2.1;simp only[aa,bc,xj];refine C3.q (R:=λ v H'=>v=.int .i64 n.code/\H'=H) ?_ λ v l⟨d,a⟩=>?_
 .refine q0k ?_;obtain⟨w0,w2,f⟩:=q0l M ⟨B5,qo6⟩;simp only[aa,bc,w0,w2,yp,f,qo,e]
 rw[d,a];simp only[aa,bc]
end
structure FG(X:SX)(n:Nat)(x:Co)(y:Bu)(H:ar)(o:Nat->Nat)(rv:AV)(bs:Bs)(own:Nat->Nat)(V:Int->L8):Prop where
 c:dU H o X.p X.f X.l X.sp X.cv rv .nils .nili x [] (X.k+n)
 b:eL X.Hb H X.B bs y own
 I:BuI y V
 C:BC y (X.k+n)
 U:yK y
 nn:x.id<y.ns.length
 dj:∀z,gJ X.B bs z->o z=0
 hb:∀z,z<H.au->o z≠0->X.Hb.au<=z
 go:∀z,z<H.au->o z≠0->(z<X.H.au/\X.o z≠0)\/X.H.au<=z
 gb:∀z,gJ X.B bs z->X.W z\/X.H.au<=z
 fr:Fr (λ z=>X.o z≠0\/X.W z) X.H H
section
variable{X:SX}{n n':Nat}{s t:CS}{c:Co}{b:Bu}{H H':ar}{o:Nat->Nat}{rv ov:AV}{bs:Bs}{own:Nat->Nat}{V:Int->L8}
def DZ{x:Nat}{Y:ar}(h:o X.p=1)(hr:eL X.Hb H X.B bs b own)(dj:∀z,gJ X.B bs z->o z=0)(hb:∀z,z<H.au->o z≠0->X.Hb.au<=z)(hp:X.p<H.au)(f:Fr (On X.p) H Y):eL X.Hb Y X.B bs b own :=
 hr.fr f λ z(q:z=X.p)=>⟨by rw[q];exact hb _ hp (by rw[h];decide),λ e=>by rw[q]at e;have:=dj _ e;omega⟩
def FG.open(h:FG X n c b H o rv bs own V):∃H1 g,Op.store 1 [.ptr X.p 22,.nils] H=B1 (.undef,H1)/\Op.store 1 [.ptr X.p 23,X.pv] H1=B1 (.undef,g)/\dP X n ⟨c,b,[]⟩ g o rv .nils bs own V/\Fr (On X.p) H g/\Fr (On X.p) H H1:=by
 have⟨a,i⟩:=h.c.cell (d:=c) (k':=X.k+n) ⟨rfl,rfl,rfl,rfl⟩ (rv':=rv) (ov':=.nils) (pv':=.nili) (os':=[]) ⟨h.c.rd,h.c.qB⟩ ⟨Own.nil ..,λ z q=>(q.1 rfl).elim⟩ rfl h.c.w;have s1:=h.c.row.st 22 (v:=.nils) rfl (by simp[cQ]);have e1:(cQ c X.f X.l X.sp X.cv rv .nils .nili).set 22 .nils=cQ c X.f X.l X.sp X.cv rv .nils .nili:=rfl;rw[e1]at s1;have s2:=a.row.st 23 (v:=X.pv) rfl (by simp[cQ]);have⟨m,j⟩:=a.cell (d:=c) (k':=X.k+n) ⟨rfl,rfl,rfl,rfl⟩ (rv':=rv) (ov':=.nils) (pv':=X.pv) (os':=[]) ⟨a.rd,a.qB⟩ ⟨Own.nil ..,λ z q=>(q.1 rfl).elim⟩ rfl h.c.w;have e2:(cQ c X.f X.l X.sp X.cv rv .nils .nili).set 23 X.pv=cQ c X.f X.l X.sp X.cv rv .nils X.pv:=rfl;rw[e2]at s2;have f:=i.trans j λ z q=>.inl q;refine⟨_,_,s1,s2,⟨m,DZ (x:=0) h.c.op h.b h.dj h.hb h.c.row.2 f,h.I,h.C,h.U,h.nn,h.dj,h.hb,h.go,h.gb,h.fr.trans f λ z(q:z=X.p)=>?_⟩,f,i⟩;rw[q];exact(h.go X.p h.c.row.2 (by rw[h.c.op];decide)).imp (λ e=>.inl e.2) id
def dP.close(h:dP X n s H o rv ov bs own V):∃H1 a,Op.store 1 [.ptr X.p 22,.nils] H=B1 (.undef,H1)/\Op.store 1 [.ptr X.p 23,.nili] H1=B1 (.undef,a)/\FG X n s.c s.b a o rv bs own V/\aO fk.enc jr 9 a ov s.o/\(∀z,aM ov z->o z=6)/\Fr (On X.p) H a/\Fr (On X.p) H H1:=by
 have⟨g,i⟩:=h.c.cell (d:=s.c) (k':=X.k+n) ⟨rfl,rfl,rfl,rfl⟩ (rv':=rv) (ov':=.nils) (pv':=X.pv) (os':=[]) ⟨h.c.rd,h.c.qB⟩ ⟨Own.nil ..,λ z q=>(q.1 rfl).elim⟩ rfl h.c.w;have s1:=h.c.row.st 22 (v:=.nils) rfl (by simp[cQ]);have e1:(cQ s.c X.f X.l X.sp X.cv rv ov X.pv).set 22 .nils=cQ s.c X.f X.l X.sp X.cv rv .nils X.pv:=rfl;rw[e1]at s1;have s2:=g.row.st 23 (v:=.nili) rfl (by simp[cQ]);have⟨m,j⟩:=g.cell (d:=s.c) (k':=X.k+n) ⟨rfl,rfl,rfl,rfl⟩ (rv':=rv) (ov':=.nils) (pv':=.nili) (os':=[]) ⟨g.rd,g.qB⟩ ⟨Own.nil ..,λ z q=>(q.1 rfl).elim⟩ rfl h.c.w;have e2:(cQ s.c X.f X.l X.sp X.cv rv .nils X.pv).set 23 .nili=cQ s.c X.f X.l X.sp X.cv rv .nils .nili:=rfl;rw[e2]at s2;have f:=i.trans j λ z q=>.inl q;refine⟨_,_,s1,s2,⟨m,DZ (x:=0) h.c.op h.b h.dj h.hb h.c.row.2 f,h.I,h.C,h.U,h.nn,h.dj,h.hb,h.go,h.gb,h.fr.trans f λ z(q:z=X.p)=>?_⟩,Own.fr h.c.ou f λ z q=>h.c.np z (by rw[h.c.qY z q];decide),h.c.qY,f,i⟩;rw[q];exact(h.go X.p h.c.row.2 (by rw[h.c.op];decide)).imp (λ e=>.inl e.2) id
def FG.em(h:FG X n c b H o rv bs own V)(f:Fr Em H H'):FG X n c b H' (aQ o H.au 0) rv bs own V:=by
 have ho:∀z,z<H.au->aQ o H.au 0 z=o z:=λ z q=>ww q;refine{h with c:=h.c.fr f (λ _ _ _ q=>q) ho (qm _),b:=h.b.em f,dj:=λ z q=>(ho z (h.b.low q)).trans (h.dj z q),hb:=λ z q e=>?_,go:=λ z q e=>?_,fr:=h.fr.em f}
 .rcases xz z H.au with w|w
  .rw [ho z w]at e;exact h.hb z w e
  .rw [ny w]at e;exact(e rfl).elim
 .rcases xz z H.au with w|w
  .rw [ho z w]at e;exact h.go z w e
  .rw [ny w]at e;exact(e rfl).elim
end
end Go.Am
namespace Go.Am
open Lang Go.Proofs
variable{M:ak}[MK M]
section
variable{X:SX}{n n':Nat}{s t:CS}{c:Co}{b:Bu}{H H':ar}{o:Nat->Nat}{rv ov:AV}{bs:Bs}{own:Nat->Nat}{V:Int->L8}
def KZ(X:SX)(n:Nat)(s:CS)(H:ar)(ov:AV):Prop:=∃o rv bs own V,FG X n s.c s.b H o rv bs own V/\aO fk.enc jr 9 H ov s.o /\ ∀z,aM ov z->o z=6
def xju{d:Nat}{H1 a:ar}{p:Nat}(l1:Op.ae [.ptr d 0] H=B1 (.ptr p 0))(s1:Op.store 1 [.ptr p 22,.nils] H=B1 (.undef,H1))(s2:Op.store 1 [.ptr p 23,.nili] H1=B1 (.undef,a)):∃v,jX M kz [.ptr d 0] (B1 []) H (.ret v) (B1 []) a:=by
 obtain⟨e,H',f,v,rfl,rfl⟩:=qvg (M:=M) (up:=B1 []) (a0:=.ptr d 0) (H:=H) (Q:=λ e X=>∃v,e=.ret v/\X=a) (by
  simp only[aa,bc,qvh,aw,l1,s1,s2];exact⟨_,rfl⟩)
 exact⟨v,f⟩
def KL(h:FG X n c b H o rv bs own V)(hk:X.k+n+1<=90000)(hS:oJ H)(oG:o yt=0):zb M L9 [.ptr X.p 0,X.pv] H λ v H'=>∃ov,v=.tuple [ov,.int .i64 (CS.step ⟨c,b,[]⟩).2]/\KZ X (n+2) (CS.step ⟨c,b,[]⟩).1 H' ov:=by
 refine qzx ?_;obtain⟨H1,e1,f1,n1,Y⟩:=bZ H (OR [.ptr X.p 0] AU);have ca:AV.cells (.ptr X.p 0)=[.ptr X.p 0]:=rfl;have y:=h.em f1;have l1:Op.ae [.ptr H.au 0] H1=B1 (.ptr X.p 0):=vg Y 0;have od:aQ o H.au 0 H.au=0:=ny (qm _);have W:=Bo (M:=M) y.c;have en:∀H,Op.eq .iface B2 [X.pv,.nili] H=B1 (.bool B2):=λ _=>rfl;have N:Op.ae [.ptr X.p 20] H1=B1 (.bool c.halted):=y.c.row.ld 20;have D:Op.ae [.ptr X.p 21] H1=B1 (.bool c.xV):=y.c.row.ld 21;have done:KZ X (n+2) ⟨c,b,[]⟩ H1 .nils:=⟨_,_,_,_,_,{y with c:=y.c.fr (Fr.refl _) (λ _ _ _ w=>w) (λ _ _=>rfl) (by omega),C:=y.C.mono (by omega)},Own.nil ..,λ z q=>(q.1 rfl).elim⟩
 unfold CS.step;simp only;cases qb:c.xV with
 |true =>
  rw[xg rfl];simp only[aa,bc,y8,_4,aw,ca,<-e1,l1,W,en,D,qb];exact⟨_,rfl,done⟩
 |false =>
 rw[qy (by decide)];cases qh:c.halted with
 |true =>
  rw[xg rfl];simp only[aa,bc,y8,_4,aw,ca,<-e1,l1,W,en,D,qb,N,qh];exact⟨_,rfl,done⟩
 |false =>
 rw[qy (by decide)];obtain⟨Ha,x,s1,s2,l,P,fa⟩:=y.open;have pd:H.au≠X.p:=λ e=>by have:=y.c.op;rw[<-e,od]at this;cases this
 have la:Op.ae [.ptr H.au 0] Ha=B1 (.ptr X.p 0):=vg (p5 (fa.ah _ (by omega) pd) Y) 0;have g2:=p5 (P.ah _ (by omega) pd) Y;have l2:Op.ae [.ptr H.au 0] x=B1 (.ptr X.p 0):=vg g2 0;have n2:=P.au;have ld:EE x (aQ o H.au 0) X.B bs H.au:=⟨by omega,od,λ w=>by have:=h.b.low w;omega⟩
 have mk:Op.bK kz 0 [.ptr H.au 0]=B1 (.fn (.func kz) [] [.ptr H.au 0]):=rfl;have Z:oJ x:=by
  have a:oJ H1:=hS.em f1;have ne:¬On X.p yt:=λ(e:yt=X.p)=>by have:=h.c.op;rw[<-e,oG]at this;cases this
  exact⟨(P.cells a.2 ne).trans a.1,qn a.2 P.au⟩
 have I:=sQ (M:=M) l.c.la;have lv:=MJ (M:=M) l (by omega);have id0:=l.node.1;have U:∀K,C3 M B4 (.func Tm) [.ptr X.B 0,.int .i64 c.id] x K=K B4 (.int .i64 (CS.node ⟨c,b,[]⟩).code) x:=dC (by
  have:=xj3 (M:=M) l.b (l.bb (by omega)) l.node.2;rw[LW id0]at this;exact this)
 have fin:∀{m:Nat}{S:CS}{i:ar}{o3:Nat->Nat}{G f:AV}{L:Bs}{A:Nat->Nat}{V3:Int->L8},m<=n+2->dP (X.at x (aQ o H.au 0) bs) m S i o3 G f L A V3->Op.ae [.ptr H.au 0] i=B1 (.ptr X.p 0)/\Op.ae [.ptr X.p 22] i=B1 f /\ ∃v j,jX M kz [.ptr H.au 0] (B1 []) i (.ret v) (B1 []) j/\KZ X (n+2) S j f:=λ hm q=>by
  have l3:=vg (p5 (q.lo ld).2 g2) 0;have q':=l.sD q;obtain⟨Hc,j,t1,t2,r,ow,o6,_⟩:=q'.close;obtain⟨v,hv⟩:=xju (M:=M) l3 t1 t2;exact⟨l3,q'.c.row.ld 22,v,j,hv,_,_,_,_,_,{r with c:=r.c.fr (Fr.refl _) (λ _ _ _ w=>w) (λ _ _=>rfl) (by omega),C:=r.C.mono (by omega)},ow,o6⟩
 simp only[aa,bc,y8,xd9,aw,ca,<-e1,l1,W,en,D,qb,N,qh,s1,la,s2];refine⟨_,_,_,rfl,?_⟩
 -- the deferred call
 have go:∀{v:AV}{i:ar}{S:CS},KZ X (n+2) S i v -> ∀{T:ar}{u:AV},jX M kz [.ptr H.au 0] (B1 []) T (.ret u) (B1 []) i -> ∀{E:Env},lk E 4=B1 v->lk E 5=B1 (.int .i64 0)->eS M [.tmp 4,.tmp 5] (tq λ v H'=>∃ov,v=.tuple [ov,.int .i64 0]/\KZ X (n+2) S H' ov) .ret E [.fn (.func kz) [.ptr H.au 0]] T:=λ{v i S}hR{T u}hu{E}E4 E5=>by
  refine⟨u,[],i,hu,bR.intro (m:=aJ) (a:=B5) rfl ?_⟩;show jE E i [.tmp 4,.tmp 5] _;simp only[aa,bc,E4,E5];exact⟨v,rfl,hR⟩
 -- the core acts
 have act:zb M Xw [.ptr X.p 0] x λ _ i=>∃f u j,Op.ae [.ptr H.au 0] i=B1 (.ptr X.p 0)/\Op.ae [.ptr X.p 22] i=B1 f/\jX M kz [.ptr H.au 0] (B1 []) i (.ret u) (B1 []) j/\KZ X (n+2) (CS.act ⟨c,b,[]⟩) j f:=(Qj (M:=M) l.re hk (xw _) Z).mono λ _ i⟨o3,G,f,L,A,V3,q⟩=>by
  obtain⟨l3,g,u,j,hu,hR⟩:=fin (qm _) q;exact⟨f,u,j,l3,g,hu,hR⟩
 cases J:c.la.rP with
 |false =>
  rw[qy (λ w=>by cases w.1)];simp only[aa,bc,aw,l2,l.c.bm,I,J];refine C3.q act λ _ i⟨f,u,j,l3,g,hu,hR⟩=>?_;simp only[aa,bc,y8,aw,l3,g];exact go hR hu rfl rfl
 |true =>
  by_cases F:c.ph=1
  .rw [qy (λ w=>w.2.1 F)];have n1:¬(1:Int)≠1:=λ q=>q rfl;simp only[aa,bc,aw,l2,l.c.bm,I,J,F,n1];refine C3.q act λ _ i⟨f,u,j,l3,g,hu,hR⟩=>?_;simp only[aa,bc,y8,aw,l3,g];exact go hR hu rfl rfl
  cases R:(CS.node ⟨c,b,[]⟩).live with
  |true =>
   rw[qy (λ w=>by cases w.2.2)];simp only[aa,bc,aw,l2,l.c.bm,I,J,F,SX.pv,wH,TU,lv,R];refine C3.q act λ _ i⟨f,u,j,l3,g,hu,hR⟩=>?_;simp only[aa,bc,y8,aw,l3,g];exact go hR hu rfl rfl
  |false =>
   rw[xg ⟨rfl,F,rfl⟩];have ab:∀d,d=CS.qZ ⟨c,b,[]⟩->zb M XO [.ptr X.p 0,.int .i64 d] x λ _ i=>∃f u j,Op.ae [.ptr H.au 0] i=B1 (.ptr X.p 0)/\Op.ae [.ptr X.p 22] i=B1 f/\jX M kz [.ptr H.au 0] (B1 []) i (.ret u) (B1 []) j/\KZ X (n+2) (CS.abort ⟨c,b,[]⟩ (CS.qZ ⟨c,b,[]⟩)) j f:=λ d e=>(Z5 (M:=M) (s:=⟨c,b,[]⟩) l.c (xw _) d).mono λ _ i⟨o3,G,f,h3,a3,f3⟩=>by
    subst e;obtain⟨l3,g,u,j,hu,hR⟩:=fin (by omega) (l.re.HD (t:=CS.abort ⟨c,b,[]⟩ (CS.qZ ⟨c,b,[]⟩)) rfl rfl h3 a3 f3 (qm _));exact⟨f,u,j,l3,g,hu,hR⟩
   by_cases O:(CS.node ⟨c,b,[]⟩).code<1
   .simp only[aa,bc,y8,aw,l2,l.c.bm,I,J,F,SX.pv,wH,TU,lv,R,Zl,U,O];refine C3.q (ab 5 (by unfold CS.qZ;rw[xg (.inl O)])) λ _ i⟨f,u,j,l3,g,hu,hR⟩=>?_;simp only[aa,bc,y8,aw,l3,g];exact go hR hu rfl rfl
   by_cases Q:6<(CS.node ⟨c,b,[]⟩).code
   .simp only[aa,bc,y8,aw,l2,l.c.bm,I,J,F,SX.pv,wH,TU,lv,R,Zl,U,O,Q];refine C3.q (ab 5 (by unfold CS.qZ;rw[xg (.inr Q)])) λ _ i⟨f,u,j,l3,g,hu,hR⟩=>?_;simp only[aa,bc,y8,aw,l3,g];exact go hR hu rfl rfl
   .simp only[aa,bc,y8,aw,l2,l.c.bm,I,J,F,SX.pv,wH,TU,lv,R,Zl,U,O,Q];refine C3.q (ab _ (by unfold CS.qZ;rw[qy (λ w=>w.elim O Q)])) λ _ i⟨f,u,j,l3,g,hu,hR⟩=>?_;simp only[aa,bc,y8,aw,l3,g];exact go hR hu rfl rfl
end
end Go.Am
