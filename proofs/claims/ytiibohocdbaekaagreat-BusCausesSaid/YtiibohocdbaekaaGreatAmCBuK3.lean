/- BuK3: BuF BuG BuH. -/
import Derived.Test.YtiibohocdbaekaaGreatAmCBuK2
set_option linter.unusedVariables false
set_option linter.unusedSimpArgs false
namespace Go.Am
structure ES (x:De) (w:L8) (N l:Int) (V:L8) (f:List Mg) (s ot:Int->Int) (bk:Int->Nat):Prop where
 xi:XI x N l
 w0:x.ph=0->x.wt=[]
 lc:∀ c,0<=c->c<N->LC x c (s c) (ot c) (bk c) (qs f c l) 0 0
 dw:x.ow = -1\/0<(qs f x.ow l).b5->w=V
 dm:∀ m ∈ f,m.line=l->m.k=3\/m.k=5\/m.k=14\/m.k=15->m.d=V
theorem uK (m:Mg) (l:List Mg) (c k:Int):wn (l ++ [m]) c k=wn l c k+wu m.core m.k c k:=by
 rw [DY,q7w];unfold wu wn;rw [List.countP_nil,jy]
theorem Da (m:Mg) (l:List Mg) (c k:Int):wn (m::l) c k=wn l c k+wu m.core m.k c k:=by
 rw [q7w];rfl
theorem Ja {l:List Mg} {N li:Int} (h:∀ w ∈ l,(w.k=1\/w.k=2)/\0<=w.core/\w.core<N/\w.line=li) {c:Int} (h1:wn l c 1=0) (h2:wn l c 2=0):∀ w ∈ l,w.core ≠ c:=by
 intro w hw e;unfold wn at h1 h2;rw [List.countP_eq_zero] at h1 h2;rcases (h w hw).1 with q|q
 ·exact h1 w hw (by simp [e,q])
 ·exact h2 w hw (by simp [e,q])
section
variable {x:De} {m:Mg} {w:L8} {N l:Int} {V:L8} {A B:List Mg} {s ot:Int->Int} {bk:Int->Nat}
theorem CC (f:List Mg) (m:Mg) (c l:Int) (hl:m.line=l):qs (A++m::B) c l=(qs (A++B) c l).add m.k (cE m.core c):=by
 rw [IF];subst hl;unfold sZ cE;simp
theorem ES.kI {y:De} {w':L8} {f:List Mg} (hx:XR y N l) (hr:∀ c,0<=c->c<N->RGd y c (s c) (ot c) (bk c) (qs f c l)) (hw:w'=V) (hm:∀ m ∈ f,m.line=l->m.k=3\/m.k=5\/m.k=14\/m.k=15->m.d=V):ES (y.bD w').1 w' N l V (f ++ [(y.bD w').2]) s ot bk:=by
 obtain ⟨a,b,c,d,e⟩:=Oz (w:=w') hx;refine ⟨a,λ q=>?_,λ c c0 c1=>?_,λ _=>hw,λ o ho q1 q2=>?_⟩
 ·unfold De.bD at q;split at q<;>exact absurd (show (4:Int)=0 from q) (by decide)
 ·rw [ED];exact q1y (hr c c0 c1) hx c0 c1
 ·rcases xw.1 ho with ho|ho
  ·exact hm o ho q1 q2
  ·rw [xl.1 ho,e];exact hw
theorem ES.pE {y:De} {n:Mg} {f:List Mg} (hx:XB y n N l) (hl:∀ c,0<=c->c<N->LC y c (s c) (ot c) (bk c) (qs f c l) (wu n.core n.k c 1) (wu n.core n.k c 2)) (hw:y.ow = -1->w=V) (hm:∀ m ∈ f,m.line=l->m.k=3\/m.k=5\/m.k=14\/m.k=15->m.d=V):ES (y.begin n w).1 w N l V (f++(y.begin n w).2) s ot bk:=by
 refine ⟨uS hx,λ q=>?_,λ c c0 c1=>uH hx (hl c c0 c1) c0 c1,λ q=>?_,λ o ho q1 q2=>?_⟩
 ·unfold De.begin at q;split at q
  ·exact absurd (show (2:Int)=0 from q) (by decide)
  ·split at q
   ·unfold De.bD at q;split at q<;>exact absurd (show (4:Int)=0 from q) (by decide)
   ·exact absurd (show (1:Int)=0 from q) (by decide)
 ·by_cases r:0<=y.ow
  ·exfalso;have e:(y.begin n w).1.ow=y.ow:=by unfold De.begin;rw [ql r]
   have e2:(qs (f++(y.begin n w).2) y.ow l).b5=(qs f y.ow l).b5:=by
    unfold De.begin;rw [ql r,ED];have:(if n.k=2 then (13:Int) else 12) ≠ 15:=by split<;>decide
    simp only [Qs.add];rw [qg this];rfl
   rw [e,e2] at q;have:=(hl y.ow r hx.ow.2).idle hx.ph;omega
  ·exact hw (by have:=hx.ow;omega)
 ·rcases xw.1 ho with ho|ho
  ·exact hm o ho q1 q2
  ·unfold De.begin at ho;split at ho
   ·rw [xl.1 ho] at q2;simp only at q2;split at q2<;>exact absurd q2 (by decide)
   ·rename_i r;split at ho
    ·rw [xl.1 ho,(Oz (w:=w) (hx.xr r _)).2.2.2.2];exact hw (by have:=hx.ow;omega)
    ·obtain ⟨d,-,rfl⟩:=DD.1 ho;rcases q2 with q|q|q|q<;>exact absurd (show (11:Int)=_ from q) (by decide)
theorem ES.rest (h:ES x w N l V (A++m::B) s ot bk):∀ o ∈ A++B,o.line=l->o.k=3\/o.k=5\/o.k=14\/o.k=15->o.d=V:=λ o ho=>h.dm o (by rcases xw.1 ho with q|q<;>simp [q])
theorem ES.xK (h:ES x w N l V (A++m::B) s ot bk) (hk:m.k=1\/m.k=2) (hc:0<=m.core/\m.core<N) (hl:m.line=l):ES (x.az w m).1 (x.az w m).2.1 N l V (A++B++(x.az w m).2.2) s ot bk:=by
 have hq:=λ c=>CC (A:=A) (B:=B) [] m c l hl;have lc:=h.lc;simp only [hq] at lc;have hx:=h.xi;have hm0:=lc m.core hc.1 hc.2;have hmay:x.may m:=by
  unfold De.may;rw [ql hk];have e1:=lT (rfl:m.core=m.core);have o1:=hm0.o1;have o2:=hm0.o2;have l1:=zU (ot m.core) 1;have l2:=zU (ot m.core) 2;have hot:ot m.core=m.k/\(qs (A++B) m.core l).b4=0/\(qs (A++B) m.core l).b5=0/\rB x.ph x.un.core x.un.k m.core 1=0/\rB x.ph x.un.core x.un.k m.core 2=0/\wn x.wt m.core 1=0/\wn x.wt m.core 2=0:=by
   rcases hk with k|k
   ·rw [k] at o1 o2;simp (config:={ decide:=true }) only [Qs.add,xa,qo,e1] at o1 o2;have h1:=vH (a:=ot m.core) (b:=1) (by omega);rw [h1] at o2;rw [oe (by decide:(1:Int) ≠ 2)] at o2;exact ⟨by omega,by omega,by omega,by omega,by omega,by omega,by omega⟩
   ·rw [k] at o1 o2;simp (config:={ decide:=true }) only [Qs.add,xa,qo,e1] at o1 o2;have h1:=vH (a:=ot m.core) (b:=2) (by omega);rw [h1] at o1;rw [oe (by decide:(2:Int) ≠ 1)] at o1;exact ⟨by omega,by omega,by omega,by omega,by omega,by omega,by omega⟩
  obtain ⟨a1,a2,a3,a4,a5,a6,a7⟩:=hot;refine ⟨?_,?_,?_⟩
  ·rintro ⟨p0,p4,pu⟩;have hu:=(hx.un p0).1;have hp:=hx.ph;have hb:x.ph=1\/x.ph=2\/x.ph=3:=by omega
   rw [ib hb] at a4 a5;rcases hu with u|u
   ·rw [oZ u,lT pu] at a4;cases a4
   ·rw [oZ u,lT pu] at a5;cases a5
  ·by_cases p2:x.ph=2
   ·exact .inr p2
   ·refine .inl λ how=>?_;have ow:=hm0.ow;have rc:=hm0.rc;have t1:=hm0.t1;have t2:=hm0.t2;have bh:=hm0.bh;have bs:=hm0.bks;rw [lT how] at ow;have r0:mW x.ph 2 (hb x.ask m.core)=0:=qg p2;rw [r0] at rc;have i2:cE (s m.core) 2=0:=oe (by rcases hk with k|k<;>omega);rw [i2] at ow;rcases hk with k|k<;>rw [k] at ow rc bs<;>simp (config:={ decide:=true }) only [Qs.add,xa,qo] at ow rc bs
    ·have:=(bh (by omega)).2;omega
    ·have:=(bh (by omega)).2;omega
  ·rintro ⟨v,hv,e⟩;exact Ja hx.wt a6 a7 v hv e
 unfold De.az;rw [qg (λ q=>q hmay),ql hk]
 by_cases hp:x.ph ≠ 0
 ·rw [ql hp];simp only [xt];refine ⟨⟨hx.N4,hx.ph,hx.ow,hx.sb,hx.ab,hx.np,hx.un,hx.p1,hx.p2,hx.p3,hx.p4,hx.os,λ v hv=>?_⟩,λ q=>absurd q hp,λ c c0 c1=>?_,λ q=>h.dw ?_,h.rest⟩
  ·rcases xw.1 hv with hv|hv
   ·exact hx.wt v hv
   ·rw [xl.1 hv];exact ⟨hk,hc.1,hc.2,hl⟩
  ·have k:=lc c c0 c1;have w1:=uK { m with d:=.zero } x.wt c 1;have w2:=uK { m with d:=.zero } x.wt c 2;have o1:=k.o1;have o2:=k.o2;have b:=k.bks;have ac:=k.ac;have rc:=k.rc;have r1:=k.r1;have r2:=k.r2;have gr:=k.gr;have g1:=k.g1;have g2:=k.g2;have ow:=k.ow;have sh:=k.sh;have pt:=k.pt;have ia:=k.ia;have gs:=k.gs;rcases hk with q|q
   ·simp only [oZ q,sM (show m.k ≠ 2 by omega)] at w1 w2;rw [q] at o1 o2 b ac rc r1 r2 gr g1 g2 ow sh pt ia gs;simp (config:={ decide:=true }) only [Qs.add,xa,qo,qh] at o1 o2 b ac rc r1 r2 gr g1 g2 ow sh pt ia gs;exact ⟨by dsimp only;omega,by dsimp only;omega,b,ac,rc,r1,r2,gr,g1,g2,ow,sh,k.t1,k.t2,k.bh,pt,ia,gs,k.s2,k.ot2,k.bk1⟩
   ·simp only [oZ q,sM (show m.k ≠ 1 by omega)] at w1 w2;rw [q] at o1 o2 b ac rc r1 r2 gr g1 g2 ow sh pt ia gs;simp (config:={ decide:=true }) only [Qs.add,xa,qo,qh] at o1 o2 b ac rc r1 r2 gr g1 g2 ow sh pt ia gs;exact ⟨by dsimp only;omega,by dsimp only;omega,b,ac,rc,r1,r2,gr,g1,g2,ow,sh,k.t1,k.t2,k.bh,pt,ia,gs,k.s2,k.ot2,k.bk1⟩
  ·rw [hq];rcases q with q|q
   ·exact .inl q
   ·refine .inr ?_;exact qk q (wh _ _)
 ·rw [qg hp];have hp:x.ph=0:=vg.1 hp;refine ES.pE ⟨hx.N4,hp,⟨hk,hc.1,hc.2,hl⟩,hx.ow,hx.sb,hx.np,hx.os,hx.wt⟩ (λ c c0 c1=>?_) (λ q=>h.dw (.inl q)) h.rest;have k:=lc c c0 c1;have o1:=k.o1;have o2:=k.o2;have b:=k.bks;have ac:=k.ac;have rc:=k.rc;have r1:=k.r1;have r2:=k.r2;have gr:=k.gr;have g1:=k.g1;have g2:=k.g2;have ow:=k.ow;have sh:=k.sh;have pt:=k.pt;have ia:=k.ia;have gs:=k.gs;rcases hk with q|q
  ·rw [q] at o1 o2 b ac rc r1 r2 gr g1 g2 ow sh pt ia gs;simp (config:={ decide:=true }) only [Qs.add,xa,qo,qh] at o1 o2 b ac rc r1 r2 gr g1 g2 ow sh pt ia gs;exact ⟨by rw [oZ (show m.k=1 from q)];dsimp only;omega,by rw [sM (show m.k ≠ 2 by omega)];omega,b,ac,rc,r1,r2,gr,g1,g2,ow,sh,k.t1,k.t2,k.bh,pt,ia,gs,k.s2,k.ot2,k.bk1⟩
  ·rw [q] at o1 o2 b ac rc r1 r2 gr g1 g2 ow sh pt ia gs;simp (config:={ decide:=true }) only [Qs.add,xa,qo,qh] at o1 o2 b ac rc r1 r2 gr g1 g2 ow sh pt ia gs;exact ⟨by rw [sM (show m.k ≠ 1 by omega)];omega,by rw [oZ (show m.k=2 from q)];dsimp only;omega,b,ac,rc,r1,r2,gr,g1,g2,ow,sh,k.t1,k.t2,k.bh,pt,ia,gs,k.s2,k.ot2,k.bk1⟩
end
end Go.Am
namespace Go.Am
section
variable {x:De} {m:Mg} {w:L8} {N l:Int} {V:L8} {A B:List Mg} {s ot:Int->Int} {bk:Int->Nat}
theorem jQ {ph k:Int} {n:Nat} (h:ph ≠ k):mW ph k n=0:=qg h
theorem qM {ph k:Int} {n:Nat} (h:ph=k):mW ph k n=n:=ql h
theorem ES.wR (h:ES x w N l V (A++m::B) s ot bk) (hk:m.k=4) (hc:0<=m.core/\m.core<N) (hl:m.line=l):ES (x.az w m).1 (x.az w m).2.1 N l V (A++B++(x.az w m).2.2) s ot bk:=by
 have lc:∀ c,0<=c->c<N->LC x c (s c) (ot c) (bk c) ((qs (A++B) c l).add 4 (cE m.core c)) 0 0:=λ c c0 c1=>by have:=h.lc c c0 c1;rw [CC [] m c l hl,hk] at this;exact this
 have hx:=h.xi;have N4:=hx.N4;have e1:=lT (rfl:m.core=m.core);have hm0:=lc m.core hc.1 hc.2;have ac0:=hm0.ac;simp (config:={ decide:=true }) only [Qs.add,xa,qo,e1,qh] at ac0;have hph:x.ph=1:=zl λ q=>by rw [jQ q] at ac0;omega
 rw [qM hph] at ac0;have hle:=gW x.ask m.core;have hask:hb x.ask m.core=1:=by omega
 obtain ⟨how,hun,-,hau,hsu,haN⟩:=hx.p1 hph;have hu:=hx.un (by omega);have hmay:x.may m:=by
  unfold De.may;rw [qg (by omega),ql hk];exact ⟨hph,hask⟩
 have ds:=λ d d0 d1=>Lc hx.sb (c:=m.core) (d:=d) hc.1 (by omega) d0 d1;have da:=λ d d0 d1=>Lc hx.ab (c:=m.core) (d:=d) hc.1 (by omega) d0 d1;have ls:=(FT hx.sb (c:=m.core) (d:=0) hc.1 (by omega) (by decide) (by decide)).1;have la:=(FT hx.ab (c:=m.core) (d:=0) hc.1 (by omega) (by decide) (by decide)).1;unfold De.az;rw [qg (λ q=>q hmay),qg (by omega),ql hk];unfold De.pU
 by_cases hz:aU x.ask m.core=0
 ·rw [ql hz];have hz0:∀ c,0<=c->c<N->hb (aU x.ask m.core) c=0:=λ c c0 c1=>by rw [hz];exact sV c
  refine ES.kI (y:={ x with sh:=aU x.sh m.core,ask:=aU x.ask m.core }) ⟨N4,hu,how,ls,λ c c0 c1 q=>hx.np c c0 c1 ?_,hx.wt⟩ (λ c c0 c1=>?_) (h.dw (.inl how)) h.rest
  ·have q:hb (aU x.sh m.core) c=1:=q;rcases ds c c0 c1 with ⟨-,e⟩|⟨-,e⟩<;>rw [e] at q
   ·cases q
   ·exact q
  ·have k:=lc c c0 c1;have c4:c<4:=by omega
   have o1:=k.o1;have o2:=k.o2;have b:=k.bks;have ac:=k.ac;have rc:=k.rc;have gr:=k.gr;have ow:=k.ow;have sh:=k.sh;have ia:=k.ia;have gs:=k.gs;rw [ib (.inl hph)] at o1 o2;rw [qM hph] at ac;rw [jQ (by omega)] at rc gr;rw [how,oe (show (-1:Int) ≠ c by omega)] at ow;simp (config:={ decide:=true }) only [Qs.add,xa,qo,qh] at o1 o2 b ac rc gr ow sh ia gs;have z0:=hz0 c c0 c1;have dc:=da c c0 c4;have sc:=ds c c0 c4;have hcc:=Lb m.core c;have hl1:=gW x.ask c;have zz:(qs (A++B) c l).b1=0/\(qs (A++B) c l).a4=0:=by
    rcases dc with ⟨q,-⟩|⟨q,e⟩
    ·rw [q] at ac ⊢;omega
    ·rw [oe (yt q)] at ac;omega
   have s2:s c ≠ 2:=λ q=>by rw [lT q] at ow;omega
   refine ⟨by dsimp only;omega,by dsimp only;omega,by omega,?_,k.t1,k.bh,k.ot2,k.bk1⟩;have r2:=k.s2;rcases (show s c=0\/s c=1 by omega) with q|q
   ·exact .inl q
   ·refine .inr ⟨q,λ k1=>?_,λ _=>?_⟩
    ·have k1:x.un.k=1:=k1;omega
    ·have h1:hb x.sh c=1:=by rcases sh q with w|w|w<;>omega
     rcases sc with ⟨e,-⟩|⟨e,-⟩
     ·have:cE m.core c=1:=lT e.symm;have:=ia (by omega);omega
     ·rcases hsu c c0 c4 h1 with w|w
      ·rcases dc with ⟨e2,-⟩|⟨-,e2⟩
       ·exact absurd e2 e
       ·omega
      ·exact w
 ·rw [qg hz];simp only [xt];refine ⟨⟨N4,hx.ph,hx.ow,ls,la,λ c c0 c1 q=>hx.np c c0 c1 ?_,hx.un,λ _=>⟨how,hun,hz,?_,λ c c0 c1 q=>?_,λ c c0 c1 q=>haN c c0 c1 ?_⟩,λ q=>?_,λ q=>?_,λ q=>?_,λ q=>?_,hx.wt⟩,λ q=>?_,λ c c0 c1=>?_,λ _=>h.dw (.inl how),h.rest⟩
  ·have q:hb (aU x.sh m.core) c=1:=q;rcases ds c c0 c1 with ⟨-,e⟩|⟨-,e⟩<;>rw [e] at q
   ·cases q
   ·exact q
  ·show hb (aU x.ask m.core) x.un.core=0;rcases da x.un.core hu.2.1 (by omega) with ⟨-,e⟩|⟨-,e⟩<;>rw [e]
   exact hau
  ·show hb (aU x.ask m.core) c=1\/c=x.un.core;have q:hb (aU x.sh m.core) c=1:=q;have sc:=ds c c0 c1;have dc:=da c c0 c1;have h1:c ≠ m.core/\hb x.sh c=1:=by
    rcases sc with ⟨e,e2⟩|⟨e,e2⟩<;>rw [e2] at q
    ·cases q
    ·exact ⟨e,q⟩
   rcases hsu c c0 c1 h1.2 with w|w
   ·rcases dc with ⟨e,-⟩|⟨-,e⟩
    ·exact absurd e h1.1
    ·exact .inl (by rw [e];exact w)
   ·exact .inr w
  ·have q:hb (aU x.ask m.core) c=1:=q;rcases da c c0 c1 with ⟨-,e⟩|⟨-,e⟩<;>rw [e] at q
   ·cases q
   ·exact q
  ·have q:x.ph=2:=q;omega
  ·have q:x.ph=3:=q;omega
  ·have q:x.ph=4:=q;omega
  ·have q:0<=x.ow:=q;omega
  ·have q:x.ph=0:=q;omega
  ·have k:=lc c c0 c1;have c4:c<4:=by omega
   have o1:=k.o1;have o2:=k.o2;have b:=k.bks;have ac:=k.ac;have rc:=k.rc;have r1:=k.r1;have r2:=k.r2;have gr:=k.gr;have g1:=k.g1;have g2:=k.g2;have ow:=k.ow;have sh:=k.sh;have pt:=k.pt;have ia:=k.ia;have gs:=k.gs;rw [qM hph] at ac;rw [jQ (by omega)] at rc;simp (config:={ decide:=true }) only [Qs.add,xa,qo,qh] at o1 o2 b ac rc r1 r2 gr g1 g2 ow sh pt ia gs;have dc:=da c c0 c4;have sc:=ds c c0 c4;have hl1:=gW x.ask c;refine ⟨o1,o2,b,?_,?_,r1,r2,gr,g1,g2,ow,λ q=>?_,k.t1,k.t2,k.bh,pt,λ q=>ia (by omega),λ q=>by have:=gr;rw [jQ (by omega)] at this;omega,k.s2,k.ot2,k.bk1⟩
   ·show _=mW x.ph 1 (hb (aU x.ask m.core) c);rw [qM hph];rcases dc with ⟨e,e2⟩|⟨e,e2⟩<;>rw [e2]
    ·rw [lT e.symm] at ac;omega
    ·rw [oe (yt e)] at ac;omega
   ·show _=mW x.ph 2 (hb (aU x.ask m.core) c);rw [jQ (by omega)];exact rc
   ·show hb (aU x.sh m.core) c=1\/_;rcases sc with ⟨e,-⟩|⟨-,e⟩
    ·have:cE m.core c=1:=lT e.symm;have:=ia (by omega);omega
    ·rw [e];exact sh q
theorem ES.sH (h:ES x w N l V (A++m::B) s ot bk) (hk:m.k=5) (hc:0<=m.core/\m.core<N) (hl:m.line=l):ES (x.az w m).1 (x.az w m).2.1 N l V (A++B++(x.az w m).2.2) s ot bk:=by
 have lc:∀ c,0<=c->c<N->LC x c (s c) (ot c) (bk c) ((qs (A++B) c l).add 5 (cE m.core c)) 0 0:=λ c c0 c1=>by have:=h.lc c c0 c1;rw [CC [] m c l hl,hk] at this;exact this
 have hx:=h.xi;have N4:=hx.N4;have e1:=lT (rfl:m.core=m.core);have hm0:=lc m.core hc.1 hc.2;have rc0:=hm0.rc;have ow0:=hm0.ow;simp (config:={ decide:=true }) only [Qs.add,xa,qo,e1,qh] at rc0 ow0;have hph:x.ph=2:=zl λ q=>by rw [jQ q] at rc0;omega
 have hle:=zU x.ow m.core;have how:x.ow=m.core:=vH (by omega);obtain ⟨hsh,a,a0,a1,hask,-⟩:=hx.p2 hph;rw [qM hph] at rc0;have hl0:=gW x.ask m.core;have ham:a=m.core:=by
  rw [hask,Ge a0 (by omega) hc.1 (by omega)] at rc0 hl0;exact vH (by omega)
 have hu:=hx.un (by omega);have hmay:x.may m:=by
  unfold De.may;rw [qg (by omega),qg (by omega),ql hk];exact ⟨hph,how⟩
 have hV:m.d=V:=h.dm m (by simp) hl (.inr (.inl hk));unfold De.az;rw [qg (λ q=>q hmay),qg (by omega),qg (by omega),ql hk];unfold De.pU;rw [ql trivial];have hs16:(if x.un.k=1 then jC x.sh m.core else x.sh)<16:=by
  split
  ·exact (EJ hx.sb (c:=m.core) (d:=0) hc.1 (by omega) (by decide) (by decide)).1
  ·exact hx.sb
 refine ES.kI (y:={ x with ow:=-1,sh:=if x.un.k=1 then jC x.sh m.core else x.sh }) ⟨N4,hu,rfl,hs16,λ c c0 c1 q=>?_,hx.wt⟩ (λ c c0 c1=>?_) hV h.rest
 ·have q:hb (if x.un.k=1 then jC x.sh m.core else x.sh) c=1:=q;split at q
  ·rw [(EJ hx.sb hc.1 (by omega) c0 c1).2] at q;split at q
   ·omega
   ·exact hx.np c c0 c1 q
  ·exact hx.np c c0 c1 q
 ·have k:=lc c c0 c1;have c4:c<4:=by omega
  have o1:=k.o1;have o2:=k.o2;have b:=k.bks;have ac:=k.ac;have rc:=k.rc;have gr:=k.gr;have ow:=k.ow;have sh:=k.sh;rw [ib (.inr (.inl hph))] at o1 o2;rw [qM hph,hask,Ge a0 (by omega) c0 c4,ham] at rc;rw [jQ (by omega)] at ac gr;rw [how] at ow;have hb0:hb x.sh c=0:=by rw [hsh];exact sV c
  simp (config:={ decide:=true }) only [Qs.add,xa,qo,qh] at o1 o2 b ac rc gr ow sh;have s2:s c ≠ 2:=λ q=>by rw [lT q] at ow;omega
  refine ⟨by dsimp only;omega,by dsimp only;omega,by omega,?_,k.t1,k.bh,k.ot2,k.bk1⟩;have r2:=k.s2;rcases (show s c=0\/s c=1 by omega) with q|q
  ·exact .inl q
  ·have hcm:0<cE m.core c/\x.un.k=1:=by rcases sh q with w|⟨w,w2⟩|w<;>omega
   have hle2:=zU m.core c;have e:m.core=c:=vH (by omega);refine .inr ⟨q,λ _=>?_,λ k2=>?_⟩
   ·show hb (if x.un.k=1 then jC x.sh m.core else x.sh) c=1;rw [ql hcm.2,(EJ hx.sb hc.1 (by omega) c0 c4).2,ql e.symm]
   ·have k2:x.un.k=2:=k2;omega
theorem ES.kK (h:ES x w N l V (A++m::B) s ot bk) (hk:m.k=6) (hc:0<=m.core/\m.core<N) (hl:m.line=l):ES (x.az w m).1 (x.az w m).2.1 N l V (A++B++(x.az w m).2.2) s ot bk:=by
 have lc:∀ c,0<=c->c<N->LC x c (s c) (ot c) (bk c) ((qs (A++B) c l).add 6 (cE m.core c)) 0 0:=λ c c0 c1=>by have:=h.lc c c0 c1;rw [CC [] m c l hl,hk] at this;exact this
 have hx:=h.xi;have N4:=hx.N4;have e1:=lT (rfl:m.core=m.core);have hm0:=lc m.core hc.1 hc.2;have rc0:=hm0.rc;have pt0:=hm0.pt;simp (config:={ decide:=true }) only [Qs.add,xa,qo,e1,qh] at rc0 pt0;have hph:x.ph=2:=zl λ q=>by rw [jQ q] at rc0;omega
 obtain ⟨hsh,a,a0,a1,hask,hoa⟩:=hx.p2 hph;rw [qM hph] at rc0;have hl0:=gW x.ask m.core;have hbm:hb x.ask m.core=1:=by omega
 have ham:a=m.core:=by
  rw [hask,Ge a0 (by omega) hc.1 (by omega)] at hbm;exact vH hbm
 have hu:=hx.un (by omega);have hmay:x.may m:=by
  unfold De.may;rw [qg (by omega),qg (by omega),qg (by omega),ql hk];exact ⟨hph,hbm⟩
 unfold De.az;rw [qg (λ q=>q hmay),qg (by omega),qg (by omega),qg (by omega),ql hk];unfold De.pU
 by_cases ho:x.ow<0
 ·rw [ql ho];have how:x.ow = -1:=by omega
  refine ES.kI (y:={ x with ph:=3 }) ⟨N4,hu,how,hx.sb,hx.np,hx.wt⟩ (λ c c0 c1=>?_) (h.dw (.inl how)) h.rest;have k:=lc c c0 c1;have c4:c<4:=by omega
  have o1:=k.o1;have o2:=k.o2;have b:=k.bks;have ac:=k.ac;have rc:=k.rc;have gr:=k.gr;have ow:=k.ow;have sh:=k.sh;rw [ib (.inr (.inl hph))] at o1 o2;rw [qM hph,hask,Ge a0 (by omega) c0 c4,ham] at rc;rw [jQ (by omega)] at ac gr;rw [how,oe (show (-1:Int) ≠ c by omega)] at ow;have hb0:hb x.sh c=0:=by rw [hsh];exact sV c
  simp (config:={ decide:=true }) only [Qs.add,xa,qo,qh] at o1 o2 b ac rc gr ow sh;have s2:s c ≠ 2:=λ q=>by rw [lT q] at ow;omega
  have s1:s c ≠ 1:=λ q=>by rcases sh q with w|⟨w,w2⟩|w<;>omega
  have r2:=k.s2;exact ⟨by dsimp only;omega,by dsimp only;omega,by omega,.inl (by omega),k.t1,k.bh,k.ot2,k.bk1⟩
 ·rw [qg ho];simp only [xt];refine ⟨⟨N4,by show (0:Int)<=3/\(3:Int)<=4;decide,hx.ow,hx.sb,hx.ab,hx.np,λ _=>hu,λ q=>?_,λ q=>?_,λ _=>by show 0<=x.ow;omega,λ q=>?_,hx.os,hx.wt⟩,λ q=>?_,λ c c0 c1=>?_,λ q=>h.dw ?_,h.rest⟩
  ·exact absurd (show (3:Int)=1 from q) (by decide)
  ·exact absurd (show (3:Int)=2 from q) (by decide)
  ·exact absurd (show (3:Int)=4 from q) (by decide)
  ·exact absurd (show (3:Int)=0 from q) (by decide)
  ·have k:=lc c c0 c1;have c4:c<4:=by omega
   have o1:=k.o1;have o2:=k.o2;have b:=k.bks;have ac:=k.ac;have rc:=k.rc;have r1:=k.r1;have r2:=k.r2;have gr:=k.gr;have g1:=k.g1;have g2:=k.g2;have ow:=k.ow;have sh:=k.sh;have pt:=k.pt;have ia:=k.ia;have gs:=k.gs;rw [ib (.inr (.inl hph))] at o1 o2;rw [qM hph,hask,Ge a0 (by omega) c0 c4,ham] at rc;rw [jQ (by omega)] at ac gr;simp (config:={ decide:=true }) only [Qs.add,xa,qo,qh] at o1 o2 b ac rc r1 r2 gr g1 g2 ow sh pt ia gs;refine ⟨?_,?_,b,?_,?_,r1,r2,?_,g1,g2,ow,sh,k.t1,k.t2,k.bh,λ _ q=>?_,ia,gs,k.s2,k.ot2,k.bk1⟩
   ·show _+rB 3 _ _ _ _+_+_=_;rw [ib (.inr (.inr rfl))];exact o1
   ·show _+rB 3 _ _ _ _+_+_=_;rw [ib (.inr (.inr rfl))];exact o2
   ·show _=mW 3 1 _;rw [jQ (by decide)];exact ac
   ·show _=mW 3 2 _;rw [jQ (by decide)];omega
   ·show _=mW 3 4 _;rw [jQ (by decide)];exact gr
   ·have q:x.ow=c:=q;have e:m.core=c:=by omega
    subst e;exact pt0 (by omega) q
  ·have q:x.ow = -1\/0<(qs (A++B) x.ow l).b5:=q;rcases q with q|q
   ·exact .inl q
   ·refine .inr ?_;rw [CC [] m _ l hl];exact qk q (wh _ _)
theorem ES.jY (h:ES x w N l V (A++m::B) s ot bk) (hk:m.k=3) (hc:0<=m.core/\m.core<N) (hl:m.line=l):ES (x.az w m).1 (x.az w m).2.1 N l V (A++B++(x.az w m).2.2) s ot bk:=by
 have lc:∀ c,0<=c->c<N->LC x c (s c) (ot c) (bk c) ((qs (A++B) c l).add 3 (cE m.core c)) 0 0:=λ c c0 c1=>by have:=h.lc c c0 c1;rw [CC [] m c l hl,hk] at this;exact this
 have hx:=h.xi;have N4:=hx.N4;have e1:=lT (rfl:m.core=m.core);have hm0:=lc m.core hc.1 hc.2;have ow0:=hm0.ow;simp (config:={ decide:=true }) only [Qs.add,xa,qo,e1,qh] at ow0;have hle:=zU x.ow m.core;have how:x.ow=m.core:=vH (by omega);have hmay:x.may m:=by
  unfold De.may;rw [qg (by omega),qg (by omega),qg (by omega),qg (by omega),ql hk];exact how
 have hV:m.d=V:=h.dm m (by simp) hl (.inl hk);have hdm:∀ o ∈ A++B ++ [(⟨16,m.core,m.line,.zero⟩:Mg)],o.line=l->o.k=3\/o.k=5\/o.k=14\/o.k=15->o.d=V:=λ o ho q1 q2=>by
  rcases xw.1 ho with ho|ho
  ·exact h.rest o ho q1 q2
  ·rw [xl.1 ho] at q2;rcases q2 with q|q|q|q<;>exact absurd (show (16:Int)=_ from q) (by decide)
 unfold De.az;rw [qg (λ q=>q hmay),qg (by omega),qg (by omega),qg (by omega),qg (by omega),ql hk];unfold De.pU
 by_cases hp:x.ph=3
 ·rw [ql hp];have hu:=hx.un (by omega);rw [<-zf];refine ES.kI (y:={ x with ow:=-1 }) ⟨N4,hu,rfl,hx.sb,hx.np,hx.wt⟩ (λ c c0 c1=>?_) hV hdm;rw [ED];subst hl;rw [Ic];have k:=lc c c0 c1;have o1:=k.o1;have o2:=k.o2;have b:=k.bks;have ac:=k.ac;have rc:=k.rc;have gr:=k.gr;have ow:=k.ow;have sh:=k.sh;rw [ib (.inr (.inr hp))] at o1 o2;rw [jQ (by omega)] at ac gr rc;rw [how] at ow;have hb0:hb x.sh c=0:=by rw [hx.os (by omega)];exact sV c
  simp (config:={ decide:=true }) only [Qs.add,xa,qo,qh] at o1 o2 b ac rc gr ow sh ⊢;have s2:s c ≠ 2:=λ q=>by rw [lT q] at ow;omega
  have s1:s c ≠ 1:=λ q=>by rcases sh q with w|⟨w,w2⟩|w<;>omega
  have r2:=k.s2;exact ⟨by dsimp only;omega,by dsimp only;omega,by dsimp only;omega,.inl (by omega),k.t1,k.bh,k.ot2,k.bk1⟩
 ·rw [qg hp];refine ⟨⟨N4,hx.ph,by show -1<=(-1:Int)/\(-1:Int)<N;omega,hx.sb,hx.ab,hx.np,hx.un,λ q=>?_,λ q=>?_,λ q=>absurd q hp,λ _ _=>rfl,λ q=>?_,hx.wt⟩,h.w0,λ c c0 c1=>?_,λ _=>hV,hdm⟩
  ·have:=(hx.p1 q).1;omega
  ·obtain ⟨a,b,c,d,e,f⟩:=hx.p2 q;exact ⟨a,b,c,d,e,.inl rfl⟩
  ·exact absurd (show (0:Int) <= -1 from q) (by decide)
  ·rw [ED];subst hl;rw [Ic];have k:=lc c c0 c1;have o1:=k.o1;have o2:=k.o2;have b:=k.bks;have ac:=k.ac;have rc:=k.rc;have r1:=k.r1;have r2:=k.r2;have gr:=k.gr;have g1:=k.g1;have g2:=k.g2;have ow:=k.ow;have sh:=k.sh;have ia:=k.ia;have gs:=k.gs;rw [how] at ow;simp (config:={ decide:=true }) only [Qs.add,xa,qo,qh] at o1 o2 b ac rc r1 r2 gr g1 g2 ow sh ia gs ⊢;have en:cE (-1) c=0:=oe (by omega);exact ⟨o1,o2,by dsimp only;omega,ac,rc,r1,r2,gr,g1,g2,by show _=cE (-1) c;rw [en];dsimp only;omega,sh,k.t1,k.t2,k.bh,λ _ q=>absurd (show (-1:Int)=c from q) (by omega),ia,gs,k.s2,k.ot2,k.bk1⟩
theorem ES.Bc (h:ES x w N l V (A++m::B) s ot bk) (hk:m.k=7) (hc:0<=m.core/\m.core<N) (hl:m.line=l):ES (x.az w m).1 (x.az w m).2.1 N l V (A++B++(x.az w m).2.2) s ot bk:=by
 have lc:∀ c,0<=c->c<N->LC x c (s c) (ot c) (bk c) ((qs (A++B) c l).add 7 (cE m.core c)) 0 0:=λ c c0 c1=>by have:=h.lc c c0 c1;rw [CC [] m c l hl,hk] at this;exact this
 have hx:=h.xi;have N4:=hx.N4;have e1:=lT (rfl:m.core=m.core);have hm0:=lc m.core hc.1 hc.2;have gr0:=hm0.gr;simp (config:={ decide:=true }) only [Qs.add,xa,qo,e1,qh] at gr0;have hph:x.ph=4:=zl λ q=>by rw [jQ q] at gr0;omega
 rw [qM hph] at gr0;have hle:=zU x.un.core m.core;have hum:x.un.core=m.core:=vH (by omega);have hmay:x.may m:=by
  unfold De.may;rw [qg (by omega),qg (by omega),qg (by omega),qg (by omega),qg (by omega)];exact ⟨hk,hph,hum⟩
 have hdw:x.ow = -1->w=V:=λ q=>h.dw (.inl q);have key:∀ (r:List Mg) (p1 p2:Int->Nat),(∀ c,wn x.wt c 1=wn r c 1+p1 c)->(∀ c,wn x.wt c 2=wn r c 2+p2 c) -> ∀ c,0<=c->c<N->LC { x with ph:=0,un:=⟨0,0,0,.zero⟩,wt:=r } c (s c) (ot c) (bk c) (qs (A++B) c l) (p1 c) (p2 c):=by
  intro r p1 p2 hp1 hp2 c c0 c1;have k:=lc c c0 c1;have o1:=k.o1;have o2:=k.o2;have b:=k.bks;have ac:=k.ac;have rc:=k.rc;have gr:=k.gr;have ow:=k.ow;have sh:=k.sh;have pt:=k.pt;have ia:=k.ia;have gs:=k.gs;rw [hph,Ar,hp1] at o1;rw [hph,Ar,hp2] at o2;rw [jQ (by omega)] at ac rc;rw [qM hph,hum] at gr;simp (config:={ decide:=true }) only [Qs.add,xa,qo,qh] at o1 o2 b ac rc gr ow sh pt ia gs;refine ⟨?_,?_,b,?_,?_,λ q=>?_,λ q=>?_,?_,λ q=>?_,λ q=>?_,ow,λ q=>?_,k.t1,k.t2,k.bh,λ q=>?_,ia,gs,k.s2,k.ot2,k.bk1⟩
  ·show _+rB 0 _ _ _ _+_+_=_;rw [EE];dsimp only;omega
  ·show _+rB 0 _ _ _ _+_+_=_;rw [EE];dsimp only;omega
  ·show _=mW 0 1 _;rw [jQ (by decide)];exact ac
  ·show _=mW 0 2 _;rw [jQ (by decide)];exact rc
  ·omega
  ·omega
  ·show _=mW 0 4 _;rw [jQ (by decide)];omega
  ·omega
  ·omega
  ·rcases sh q with w|⟨w,-⟩|w
   ·exact .inl w
   ·omega
   ·omega
  ·rcases q with q|q
   ·omega
   ·exact absurd (show (0:Int)=3 from q) (by decide)
 unfold De.az;rw [qg (λ q=>q hmay),qg (by omega),qg (by omega),qg (by omega),qg (by omega),qg (by omega)];cases hw:x.wt with
 | nil =>
  simp only [xt];have hl0:=key [] (λ _=>0) (λ _=>0) (λ c=>by rw [hw];rfl) (λ c=>by rw [hw];rfl);refine ⟨⟨N4,by show (0:Int)<=0/\(0:Int)<=4;decide,hx.ow,hx.sb,hx.ab,hx.np,λ q=>absurd rfl q,λ q=>?_,λ q=>?_,λ q=>?_,λ q=>?_,hx.os,λ v hv=>by cases hv⟩,λ _=>rfl,hl0,λ q=>?_,h.rest⟩
  ·exact absurd (show (0:Int)=1 from q) (by decide)
  ·exact absurd (show (0:Int)=2 from q) (by decide)
  ·exact absurd (show (0:Int)=3 from q) (by decide)
  ·exact absurd (show (0:Int)=4 from q) (by decide)
  ·rcases q with q|q
   ·exact hdw q
   ·refine h.dw (.inr ?_);rw [CC [] m _ l hl];exact qk q (wh _ _)
 | cons n r =>
  simp only;have hn:=hx.wt n (by rw [hw];simp);refine ES.pE (y:={ x with ph:=0,un:=⟨0,0,0,.zero⟩,wt:=r }) ⟨N4,rfl,hn,hx.ow,hx.sb,hx.np,hx.os,λ v hv=>hx.wt v (by rw [hw];simp [hv])⟩ (key r (λ c=>wu n.core n.k c 1) (λ c=>wu n.core n.k c 2) (λ c=>by rw [hw,Da]) (λ c=>by rw [hw,Da])) hdw h.rest
theorem ES.az (h:ES x w N l V (A++m::B) s ot bk) (hk:1<=m.k/\m.k<=7) (hc:0<=m.core/\m.core<N) (hl:m.line=l):ES (x.az w m).1 (x.az w m).2.1 N l V (A++B++(x.az w m).2.2) s ot bk:=by
 rcases (show (m.k=1\/m.k=2)\/m.k=3\/m.k=4\/m.k=5\/m.k=6\/m.k=7 by omega) with q|q|q|q|q|q
 ·exact h.xK q hc hl
 ·exact h.jY q hc hl
 ·exact h.wR q hc hl
 ·exact h.sH q hc hl
 ·exact h.kK q hc hl
 ·exact h.Bc q hc hl
end
end Go.Am
namespace Go.Am
section
variable {x:De} {c s ot N l:Int} {bk:Nat} {q:Qs}
theorem LC.ask (h:LC x c s 0 bk q 0 0) {k:Int} (hk:k=1/\s=0\/k=2/\s ≠ 2) (hb:bk=0):LC x c s k bk (q.add k 1) 0 0:=by
 have o1:=h.o1;have o2:=h.o2;have b:=h.bks;have ac:=h.ac;have rc:=h.rc;have r1:=h.r1;have r2:=h.r2;have gr:=h.gr;have g1:=h.g1;have g2:=h.g2;have ow:=h.ow;have sh:=h.sh;have pt:=h.pt;have ia:=h.ia;have gs:=h.gs;rw [oe (by decide)] at o1 o2;rcases hk with ⟨rfl,hs⟩|⟨rfl,hs⟩
 ·refine ⟨?_,?_,?_,?_,?_,?_,?_,?_,?_,?_,?_,?_,λ _=>hs,by omega,λ w=>by omega,?_,?_,?_,h.s2,by omega,h.bk1⟩<;>simp (config:={ decide:=true }) only [Qs.add,xa,qo,qh]
  case refine_1=>rw [lT rfl];omega
  case refine_2=>rw [oe (by decide)];omega
  all_goals assumption
 ·refine ⟨?_,?_,?_,?_,?_,?_,?_,?_,?_,?_,?_,?_,by omega,λ _=>hs,λ w=>by omega,?_,?_,?_,h.s2,by omega,h.bk1⟩<;>simp (config:={ decide:=true }) only [Qs.add,xa,qo,qh]
  case refine_1=>rw [oe (by decide)];omega
  case refine_2=>rw [lT rfl];omega
  all_goals assumption
theorem LC.Og (h:LC x c s ot bk q 0 0) (hq:0<q.b1):x.ph=1/\hb x.ask c=1/\q.b1=1/\q.a4=0:=by
 have a:=h.ac;have:=gW x.ask c;have hp:x.ph=1:=zl λ w=>by rw [jQ w] at a;omega
 rw [qM hp] at a;exact ⟨hp,by omega,by omega,by omega⟩
theorem LC.C0 {h1 h2:Nat} (h:LC x c s ot bk q h1 h2) (hq:0<q.b4+q.b5):q.a4=0:=by
 have a:=h.ac;have g:=h.gr;have hp:x.ph=4:=zl λ w=>by rw [jQ w] at g;omega
 rw [jQ (by omega)] at a;omega
theorem LC.inv (h:LC x c s ot bk (q.add 11 1) 0 0) (hs:s ≠ 2):LC x c 0 ot bk (q.add 4 1) 0 0:=by
 have o1:=h.o1;have o2:=h.o2;have b:=h.bks;have ac:=h.ac;have rc:=h.rc;have r1:=h.r1;have r2:=h.r2;have gr:=h.gr;have g1:=h.g1;have g2:=h.g2;have ow:=h.ow;have sh:=h.sh;have t1:=h.t1;have t2:=h.t2;have pt:=h.pt;have ia:=h.ia;have gs:=h.gs;have bh:=h.bh;have s2:=h.s2;have ot2:=h.ot2;have bk1:=h.bk1;simp (config:={ decide:=true }) only [Qs.add,xa,qo,qh] at o1 o2 b ac rc r1 r2 gr g1 g2 ow sh pt ia gs;rw [oe hs] at ow;have ez:cE 0 2=0:=rfl;have e1:cE 1 2=0:=rfl;have e2:cE 2 2=1:=rfl;constructor
 case o1=>(try simp (config:={ decide:=true }) only [Qs.add,xa,qo,qh]);exact o1
 case o2=>(try simp (config:={ decide:=true }) only [Qs.add,xa,qo,qh]);exact o2
 case bks=>(try simp (config:={ decide:=true }) only [Qs.add,xa,qo,qh]);exact b
 case ac=>(try simp (config:={ decide:=true }) only [Qs.add,xa,qo,qh]);omega
 case rc=>(try simp (config:={ decide:=true }) only [Qs.add,xa,qo,qh]);exact rc
 case r1=>(try simp (config:={ decide:=true }) only [Qs.add,xa,qo,qh]);exact r1
 case r2=>(try simp (config:={ decide:=true }) only [Qs.add,xa,qo,qh]);exact r2
 case gr=>(try simp (config:={ decide:=true }) only [Qs.add,xa,qo,qh]);exact gr
 case g1=>(try simp (config:={ decide:=true }) only [Qs.add,xa,qo,qh]);exact g1
 case g2=>(try simp (config:={ decide:=true }) only [Qs.add,xa,qo,qh]);exact g2
 case ow=>(try simp (config:={ decide:=true }) only [Qs.add,xa,qo,qh]);(rw [ez];exact ow)
 case sh=>exact λ w=>absurd w (by decide)
 case t1=>exact λ _=>rfl
 case t2=>exact λ _=>by decide
 case bh=>exact λ w=>⟨rfl,(bh w).2⟩
 case pt=>(try simp (config:={ decide:=true }) only [Qs.add,xa,qo,qh]);exact pt
 case ia=>exact λ _=>rfl
 case gs=>(try simp (config:={ decide:=true }) only [Qs.add,xa,qo,qh]);exact gs
 case s2=>decide
 case ot2=>(try simp (config:={ decide:=true }) only [Qs.add,xa,qo,qh]);exact ot2
 case bk1=>(try simp (config:={ decide:=true }) only [Qs.add,xa,qo,qh]);exact bk1
theorem LC.Ms {k:Int} (h:LC x c 0 ot bk (q.add k 1) 0 0) (hk:k=12\/k=13):LC x c 0 ot bk (q.add 6 1) 0 0:=by
 have o1:=h.o1;have o2:=h.o2;have b:=h.bks;have ac:=h.ac;have rc:=h.rc;have r1:=h.r1;have r2:=h.r2;have gr:=h.gr;have g1:=h.g1;have g2:=h.g2;have ow:=h.ow;have sh:=h.sh;have t1:=h.t1;have t2:=h.t2;have pt:=h.pt;have ia:=h.ia;have gs:=h.gs;have bh:=h.bh;have s2:=h.s2;have ot2:=h.ot2;have bk1:=h.bk1;have rc0:0<(q.add k 1).b2+(q.add k 1).b3:=by rcases hk with rfl|rfl<;>(simp (config:={ decide:=true }) only [Qs.add,xa,qo];omega)
 have hp:x.ph=2:=zl λ w=>by rw [jQ w] at rc;omega
 have hle:=gW x.ask c;rw [qM hp] at rc;rw [jQ (by omega)] at gr;rcases hk with rfl|rfl<;>simp (config:={ decide:=true }) only [Qs.add,xa,qo,qh] at o1 o2 b ac rc r1 r2 gr g1 g2 ow sh pt ia gs
 all_goals have gr0:q.b4=0/\q.b5=0/\q.a7=0:=by omega
 all_goals have gr1:q.b4+q.b5+q.a7=mW x.ph 4 (cE x.un.core c):=by rw [jQ (by omega)];omega
 all_goals have rc1:q.b2+q.b3+q.a5+(q.a6+1)=mW x.ph 2 (hb x.ask c):=by rw [qM hp];omega
 all_goals have pt1:x.ow=c->0<q.a3:=λ w=>by rw [lT w,show cE 0 2=0 from rfl] at ow;omega
 all_goals have r1':0<q.b2->x.un.k=1:=by omega
 all_goals have r2':0<q.b3->x.un.k=2:=by omega
 all_goals
  refine ⟨?_,?_,?_,?_,?_,?_,?_,?_,?_,?_,?_,?_,t1,t2,bh,λ _=>pt1,?_,?_,s2,ot2,bk1⟩<;>simp (config:={ decide:=true }) only [Qs.add,xa,qo,qh]<;>assumption
theorem LC.dem (h:LC x c 2 ot bk (q.add 12 1) 0 0):LC x c 1 ot bk (q.add 5 1) 0 0:=by
 have o1:=h.o1;have o2:=h.o2;have b:=h.bks;have ac:=h.ac;have rc:=h.rc;have r1:=h.r1;have r2:=h.r2;have gr:=h.gr;have g1:=h.g1;have g2:=h.g2;have ow:=h.ow;have sh:=h.sh;have t1:=h.t1;have t2:=h.t2;have pt:=h.pt;have ia:=h.ia;have gs:=h.gs;have bh:=h.bh;have s2:=h.s2;have ot2:=h.ot2;have bk1:=h.bk1;simp (config:={ decide:=true }) only [Qs.add,xa,qo,qh] at o1 o2 b ac rc r1 r2 gr g1 g2 ow sh pt ia gs;have k1:=r1 (by omega);rw [show cE 2 2=1 from rfl] at ow;have ez:cE 0 2=0:=rfl;have e1:cE 1 2=0:=rfl;have e2:cE 2 2=1:=rfl;constructor
 case o1=>(try simp (config:={ decide:=true }) only [Qs.add,xa,qo,qh]);exact o1
 case o2=>(try simp (config:={ decide:=true }) only [Qs.add,xa,qo,qh]);exact o2
 case bks=>(try simp (config:={ decide:=true }) only [Qs.add,xa,qo,qh]);exact b
 case ac=>(try simp (config:={ decide:=true }) only [Qs.add,xa,qo,qh]);exact ac
 case rc=>(try simp (config:={ decide:=true }) only [Qs.add,xa,qo,qh]);omega
 case r1=>exact λ _=>k1
 case r2=>(try simp (config:={ decide:=true }) only [Qs.add,xa,qo,qh]);exact r2
 case gr=>(try simp (config:={ decide:=true }) only [Qs.add,xa,qo,qh]);exact gr
 case g1=>(try simp (config:={ decide:=true }) only [Qs.add,xa,qo,qh]);exact g1
 case g2=>(try simp (config:={ decide:=true }) only [Qs.add,xa,qo,qh]);exact g2
 case ow=>(try simp (config:={ decide:=true }) only [Qs.add,xa,qo,qh]);(rw [e1];omega)
 case sh=>exact λ _=>.inr (.inl ⟨by simp (config:={ decide:=true }) only [Qs.add,xa];omega,k1⟩)
 case t1=>exact λ w=>absurd (t1 w) (by decide)
 case t2=>exact λ _=>by decide
 case bh=>exact λ w=>absurd (bh w).1 (by decide)
 case pt=>(try simp (config:={ decide:=true }) only [Qs.add,xa,qo,qh]);exact pt
 case ia=>exact λ w=>absurd (ia (by simpa (config:={ decide:=true }) only [Qs.add,qo,qh] using w)) (by decide)
 case gs=>(try simp (config:={ decide:=true }) only [Qs.add,xa,qo,qh]);exact gs
 case s2=>decide
 case ot2=>(try simp (config:={ decide:=true }) only [Qs.add,xa,qo,qh]);exact ot2
 case bk1=>(try simp (config:={ decide:=true }) only [Qs.add,xa,qo,qh]);exact bk1
theorem LC.rcl (h:LC x c 2 ot bk (q.add 13 1) 0 0):LC x c 0 ot bk (q.add 5 1) 0 0:=by
 have o1:=h.o1;have o2:=h.o2;have b:=h.bks;have ac:=h.ac;have rc:=h.rc;have r1:=h.r1;have r2:=h.r2;have gr:=h.gr;have g1:=h.g1;have g2:=h.g2;have ow:=h.ow;have sh:=h.sh;have t1:=h.t1;have t2:=h.t2;have pt:=h.pt;have ia:=h.ia;have gs:=h.gs;have bh:=h.bh;have s2:=h.s2;have ot2:=h.ot2;have bk1:=h.bk1;simp (config:={ decide:=true }) only [Qs.add,xa,qo,qh] at o1 o2 b ac rc r1 r2 gr g1 g2 ow sh pt ia gs;rw [show cE 2 2=1 from rfl] at ow;have ez:cE 0 2=0:=rfl;have e1:cE 1 2=0:=rfl;have e2:cE 2 2=1:=rfl;constructor
 case o1=>(try simp (config:={ decide:=true }) only [Qs.add,xa,qo,qh]);exact o1
 case o2=>(try simp (config:={ decide:=true }) only [Qs.add,xa,qo,qh]);exact o2
 case bks=>(try simp (config:={ decide:=true }) only [Qs.add,xa,qo,qh]);exact b
 case ac=>(try simp (config:={ decide:=true }) only [Qs.add,xa,qo,qh]);exact ac
 case rc=>(try simp (config:={ decide:=true }) only [Qs.add,xa,qo,qh]);omega
 case r1=>(try simp (config:={ decide:=true }) only [Qs.add,xa,qo,qh]);exact r1
 case r2=>exact λ w=>r2 (by simp (config:={ decide:=true }) only [Qs.add,xa,qo] at w ⊢;omega)
 case gr=>(try simp (config:={ decide:=true }) only [Qs.add,xa,qo,qh]);exact gr
 case g1=>(try simp (config:={ decide:=true }) only [Qs.add,xa,qo,qh]);exact g1
 case g2=>(try simp (config:={ decide:=true }) only [Qs.add,xa,qo,qh]);exact g2
 case ow=>(try simp (config:={ decide:=true }) only [Qs.add,xa,qo,qh]);(rw [ez];omega)
 case sh=>exact λ w=>absurd w (by decide)
 case t1=>exact λ w=>rfl
 case t2=>exact λ _=>by decide
 case bh=>exact λ w=>absurd (bh w).1 (by decide)
 case pt=>(try simp (config:={ decide:=true }) only [Qs.add,xa,qo,qh]);exact pt
 case ia=>exact λ _=>rfl
 case gs=>(try simp (config:={ decide:=true }) only [Qs.add,xa,qo,qh]);exact gs
 case s2=>decide
 case ot2=>(try simp (config:={ decide:=true }) only [Qs.add,xa,qo,qh]);exact ot2
 case bk1=>(try simp (config:={ decide:=true }) only [Qs.add,xa,qo,qh]);exact bk1
theorem LC.pack (h:LC x c s ot 1 (q.add 16 1) 0 0):LC x c s ot 0 q 0 0:=by
 have o1:=h.o1;have o2:=h.o2;have b:=h.bks;have ac:=h.ac;have rc:=h.rc;have r1:=h.r1;have r2:=h.r2;have gr:=h.gr;have g1:=h.g1;have g2:=h.g2;have ow:=h.ow;have sh:=h.sh;have t1:=h.t1;have t2:=h.t2;have pt:=h.pt;have ia:=h.ia;have gs:=h.gs;have bh:=h.bh;have s2:=h.s2;have ot2:=h.ot2;have bk1:=h.bk1;simp (config:={ decide:=true }) only [Qs.add,xa,qo,qh] at o1 o2 b ac rc r1 r2 gr g1 g2 ow sh pt ia gs;have ez:cE 0 2=0:=rfl;have e1:cE 1 2=0:=rfl;have e2:cE 2 2=1:=rfl;constructor
 case o1=>(try simp (config:={ decide:=true }) only [Qs.add,xa,qo,qh]);exact o1
 case o2=>(try simp (config:={ decide:=true }) only [Qs.add,xa,qo,qh]);exact o2
 case bks=>(try simp (config:={ decide:=true }) only [Qs.add,xa,qo,qh]);omega
 case ac=>(try simp (config:={ decide:=true }) only [Qs.add,xa,qo,qh]);exact ac
 case rc=>(try simp (config:={ decide:=true }) only [Qs.add,xa,qo,qh]);exact rc
 case r1=>(try simp (config:={ decide:=true }) only [Qs.add,xa,qo,qh]);exact r1
 case r2=>(try simp (config:={ decide:=true }) only [Qs.add,xa,qo,qh]);exact r2
 case gr=>(try simp (config:={ decide:=true }) only [Qs.add,xa,qo,qh]);exact gr
 case g1=>(try simp (config:={ decide:=true }) only [Qs.add,xa,qo,qh]);exact g1
 case g2=>(try simp (config:={ decide:=true }) only [Qs.add,xa,qo,qh]);exact g2
 case ow=>(try simp (config:={ decide:=true }) only [Qs.add,xa,qo,qh]);exact ow
 case sh=>(try simp (config:={ decide:=true }) only [Qs.add,xa,qo,qh]);exact sh
 case t1=>(try simp (config:={ decide:=true }) only [Qs.add,xa,qo,qh]);exact t1
 case t2=>(try simp (config:={ decide:=true }) only [Qs.add,xa,qo,qh]);exact t2
 case bh=>exact λ w=>absurd w (by decide)
 case pt=>(try simp (config:={ decide:=true }) only [Qs.add,xa,qo,qh]);exact pt
 case ia=>(try simp (config:={ decide:=true }) only [Qs.add,xa,qo,qh]);exact ia
 case gs=>(try simp (config:={ decide:=true }) only [Qs.add,xa,qo,qh]);exact gs
 case s2=>(try simp (config:={ decide:=true }) only [Qs.add,xa,qo,qh]);exact s2
 case ot2=>(try simp (config:={ decide:=true }) only [Qs.add,xa,qo,qh]);exact ot2
 case bk1=>decide
theorem LC.gS (h:LC x c 0 1 bk (q.add 14 1) 0 0):LC x c 1 0 bk (q.add 7 1) 0 0:=by
 have o1:=h.o1;have o2:=h.o2;have b:=h.bks;have ac:=h.ac;have rc:=h.rc;have r1:=h.r1;have r2:=h.r2;have gr:=h.gr;have g1:=h.g1;have g2:=h.g2;have ow:=h.ow;have sh:=h.sh;have t1:=h.t1;have t2:=h.t2;have pt:=h.pt;have ia:=h.ia;have gs:=h.gs;have bh:=h.bh;have s2:=h.s2;have ot2:=h.ot2;have bk1:=h.bk1;simp (config:={ decide:=true }) only [Qs.add,xa,qo,qh] at o1 o2 b ac rc r1 r2 gr g1 g2 ow sh pt ia gs;rw [show cE 1 1=1 from rfl] at o1;rw [show cE 1 2=0 from rfl] at o2;rw [show cE 0 2=0 from rfl] at ow;have a40:q.a4=0:=by
  have:=h.C0 (by simp (config:={ decide:=true }) only [Qs.add,xa,qo];omega)
  simpa (config:={ decide:=true }) only [Qs.add,qo,qh] using this
 have ez:cE 0 2=0:=rfl;have e1:cE 1 2=0:=rfl;have e2:cE 2 2=1:=rfl;constructor
 case o1=>(try simp (config:={ decide:=true }) only [Qs.add,xa,qo,qh]);(rw [show cE 0 1=0 from rfl];omega)
 case o2=>(try simp (config:={ decide:=true }) only [Qs.add,xa,qo,qh]);(rw [show cE 0 2=0 from rfl];omega)
 case bks=>(try simp (config:={ decide:=true }) only [Qs.add,xa,qo,qh]);exact b
 case ac=>(try simp (config:={ decide:=true }) only [Qs.add,xa,qo,qh]);exact ac
 case rc=>(try simp (config:={ decide:=true }) only [Qs.add,xa,qo,qh]);exact rc
 case r1=>(try simp (config:={ decide:=true }) only [Qs.add,xa,qo,qh]);exact r1
 case r2=>(try simp (config:={ decide:=true }) only [Qs.add,xa,qo,qh]);exact r2
 case gr=>(try simp (config:={ decide:=true }) only [Qs.add,xa,qo,qh]);omega
 case g1=>exact λ w=>g1 (by simp (config:={ decide:=true }) only [Qs.add,xa,qo] at w ⊢;omega)
 case g2=>(try simp (config:={ decide:=true }) only [Qs.add,xa,qo,qh]);exact g2
 case ow=>(try simp (config:={ decide:=true }) only [Qs.add,xa,qo,qh]);(rw [e1];exact ow)
 case sh=>exact λ _=>.inl (gs (by omega))
 case t1=>exact λ w=>absurd w (by decide)
 case t2=>exact λ w=>absurd w (by decide)
 case bh=>exact λ w=>absurd (bh w).2 (by decide)
 case pt=>(try simp (config:={ decide:=true }) only [Qs.add,xa,qo,qh]);exact pt
 case ia=>exact λ w=>absurd w (by simp (config:={ decide:=true }) only [Qs.add,qo,qh];omega)
 case gs=>exact λ w=>gs (by omega)
 case s2=>decide
 case ot2=>decide
 case bk1=>(try simp (config:={ decide:=true }) only [Qs.add,xa,qo,qh]);exact bk1
theorem LC.gM (h:LC x c s 2 bk (q.add 15 1) 0 0) (hs:s ≠ 2):LC x c 2 0 bk (q.add 7 1) 0 0:=by
 have o1:=h.o1;have o2:=h.o2;have b:=h.bks;have ac:=h.ac;have rc:=h.rc;have r1:=h.r1;have r2:=h.r2;have gr:=h.gr;have g1:=h.g1;have g2:=h.g2;have ow:=h.ow;have sh:=h.sh;have t1:=h.t1;have t2:=h.t2;have pt:=h.pt;have ia:=h.ia;have gs:=h.gs;have bh:=h.bh;have s2:=h.s2;have ot2:=h.ot2;have bk1:=h.bk1;simp (config:={ decide:=true }) only [Qs.add,xa,qo,qh] at o1 o2 b ac rc r1 r2 gr g1 g2 ow sh pt ia gs;rw [show cE 2 1=0 from rfl] at o1;rw [show cE 2 2=1 from rfl] at o2;rw [oe hs] at ow;have a40:q.a4=0:=by
  have:=h.C0 (by simp (config:={ decide:=true }) only [Qs.add,xa,qo];omega)
  simpa (config:={ decide:=true }) only [Qs.add,qo,qh] using this
 have ez:cE 0 2=0:=rfl;have e1:cE 1 2=0:=rfl;have e2:cE 2 2=1:=rfl;constructor
 case o1=>(try simp (config:={ decide:=true }) only [Qs.add,xa,qo,qh]);(rw [show cE 0 1=0 from rfl];omega)
 case o2=>(try simp (config:={ decide:=true }) only [Qs.add,xa,qo,qh]);(rw [show cE 0 2=0 from rfl];omega)
 case bks=>(try simp (config:={ decide:=true }) only [Qs.add,xa,qo,qh]);exact b
 case ac=>(try simp (config:={ decide:=true }) only [Qs.add,xa,qo,qh]);exact ac
 case rc=>(try simp (config:={ decide:=true }) only [Qs.add,xa,qo,qh]);exact rc
 case r1=>(try simp (config:={ decide:=true }) only [Qs.add,xa,qo,qh]);exact r1
 case r2=>(try simp (config:={ decide:=true }) only [Qs.add,xa,qo,qh]);exact r2
 case gr=>(try simp (config:={ decide:=true }) only [Qs.add,xa,qo,qh]);omega
 case g1=>(try simp (config:={ decide:=true }) only [Qs.add,xa,qo,qh]);exact g1
 case g2=>exact λ w=>g2 (by simp (config:={ decide:=true }) only [Qs.add,xa,qo] at w ⊢;omega)
 case ow=>(try simp (config:={ decide:=true }) only [Qs.add,xa,qo,qh]);(rw [e2];omega)
 case sh=>exact λ w=>absurd w (by decide)
 case t1=>exact λ w=>absurd w (by decide)
 case t2=>exact λ w=>absurd w (by decide)
 case bh=>exact λ w=>absurd (bh w).2 (by decide)
 case pt=>(try simp (config:={ decide:=true }) only [Qs.add,xa,qo,qh]);exact pt
 case ia=>exact λ w=>absurd w (by simp (config:={ decide:=true }) only [Qs.add,qo,qh];omega)
 case gs=>(try simp (config:={ decide:=true }) only [Qs.add,xa,qo,qh]);exact gs
 case s2=>decide
 case ot2=>decide
 case bk1=>(try simp (config:={ decide:=true }) only [Qs.add,xa,qo,qh]);exact bk1
theorem LC.off (h:LC x c 1 ot bk q 0 0):LC x c 0 ot bk q 0 0:=by
 have o1:=h.o1;have o2:=h.o2;have b:=h.bks;have ac:=h.ac;have rc:=h.rc;have r1:=h.r1;have r2:=h.r2;have gr:=h.gr;have g1:=h.g1;have g2:=h.g2;have ow:=h.ow;have sh:=h.sh;have t1:=h.t1;have t2:=h.t2;have pt:=h.pt;have ia:=h.ia;have gs:=h.gs;have bh:=h.bh;have s2:=h.s2;have ot2:=h.ot2;have bk1:=h.bk1;rw [show cE 1 2=0 from rfl] at ow;have ez:cE 0 2=0:=rfl;have e1:cE 1 2=0:=rfl;have e2:cE 2 2=1:=rfl;constructor
 case o1=>(try simp (config:={ decide:=true }) only [Qs.add,xa,qo,qh]);exact o1
 case o2=>(try simp (config:={ decide:=true }) only [Qs.add,xa,qo,qh]);exact o2
 case bks=>(try simp (config:={ decide:=true }) only [Qs.add,xa,qo,qh]);exact b
 case ac=>(try simp (config:={ decide:=true }) only [Qs.add,xa,qo,qh]);exact ac
 case rc=>(try simp (config:={ decide:=true }) only [Qs.add,xa,qo,qh]);exact rc
 case r1=>(try simp (config:={ decide:=true }) only [Qs.add,xa,qo,qh]);exact r1
 case r2=>(try simp (config:={ decide:=true }) only [Qs.add,xa,qo,qh]);exact r2
 case gr=>(try simp (config:={ decide:=true }) only [Qs.add,xa,qo,qh]);exact gr
 case g1=>(try simp (config:={ decide:=true }) only [Qs.add,xa,qo,qh]);exact g1
 case g2=>(try simp (config:={ decide:=true }) only [Qs.add,xa,qo,qh]);exact g2
 case ow=>(try simp (config:={ decide:=true }) only [Qs.add,xa,qo,qh]);(rw [ez];exact ow)
 case sh=>exact λ w=>absurd w (by decide)
 case t1=>exact λ _=>rfl
 case t2=>exact λ _=>by decide
 case bh=>exact λ w=>⟨rfl,(bh w).2⟩
 case pt=>(try simp (config:={ decide:=true }) only [Qs.add,xa,qo,qh]);exact pt
 case ia=>exact λ _=>rfl
 case gs=>(try simp (config:={ decide:=true }) only [Qs.add,xa,qo,qh]);exact gs
 case s2=>decide
 case ot2=>(try simp (config:={ decide:=true }) only [Qs.add,xa,qo,qh]);exact ot2
 case bk1=>(try simp (config:={ decide:=true }) only [Qs.add,xa,qo,qh]);exact bk1
theorem LC.put (h:LC x c 2 ot bk q 0 0):LC x c 0 0 1 (q.add 3 1) 0 0/\ot=0/\bk=0:=by
 have o1:=h.o1;have o2:=h.o2;have b:=h.bks;have ac:=h.ac;have rc:=h.rc;have r1:=h.r1;have r2:=h.r2;have gr:=h.gr;have g1:=h.g1;have g2:=h.g2;have ow:=h.ow;have sh:=h.sh;have t1:=h.t1;have t2:=h.t2;have pt:=h.pt;have ia:=h.ia;have gs:=h.gs;have bh:=h.bh;have s2:=h.s2;have ot2:=h.ot2;have bk1:=h.bk1;rw [show cE 2 2=1 from rfl] at ow;have hot:ot=0:=by
  have a1:ot ≠ 1:=λ w=>absurd (t1 w) (by decide);have a2:ot ≠ 2:=λ w=>absurd rfl (t2 w);omega
 have hbk:bk=0:=zl λ w=>absurd (bh (by omega)).1 (by decide);subst hot hbk;refine ⟨?_,rfl,rfl⟩;have ez:cE 0 2=0:=rfl;have e1:cE 1 2=0:=rfl;have e2:cE 2 2=1:=rfl;constructor
 case o1=>(try simp (config:={ decide:=true }) only [Qs.add,xa,qo,qh]);exact o1
 case o2=>(try simp (config:={ decide:=true }) only [Qs.add,xa,qo,qh]);exact o2
 case bks=>(try simp (config:={ decide:=true }) only [Qs.add,xa,qo,qh]);omega
 case ac=>(try simp (config:={ decide:=true }) only [Qs.add,xa,qo,qh]);exact ac
 case rc=>(try simp (config:={ decide:=true }) only [Qs.add,xa,qo,qh]);exact rc
 case r1=>(try simp (config:={ decide:=true }) only [Qs.add,xa,qo,qh]);exact r1
 case r2=>(try simp (config:={ decide:=true }) only [Qs.add,xa,qo,qh]);exact r2
 case gr=>(try simp (config:={ decide:=true }) only [Qs.add,xa,qo,qh]);exact gr
 case g1=>(try simp (config:={ decide:=true }) only [Qs.add,xa,qo,qh]);exact g1
 case g2=>(try simp (config:={ decide:=true }) only [Qs.add,xa,qo,qh]);exact g2
 case ow=>(try simp (config:={ decide:=true }) only [Qs.add,xa,qo,qh]);(rw [ez];omega)
 case sh=>exact λ w=>absurd w (by decide)
 case t1=>exact λ _=>rfl
 case t2=>exact λ _=>by decide
 case bh=>exact λ w=>⟨rfl,rfl⟩
 case pt=>exact λ w w2=>by simp (config:={ decide:=true }) only [Qs.add,xa];omega
 case ia=>exact λ _=>rfl
 case gs=>(try simp (config:={ decide:=true }) only [Qs.add,xa,qo,qh]);exact gs
 case s2=>decide
 case ot2=>decide
 case bk1=>decide
end
end Go.Am
