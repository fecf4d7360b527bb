/- LqMc: CmpS CmpT CmpU CmpV. -/
import Derived.Test.YtbimikjajohflaaGreatDoorAmMLqMb
set_option linter.unusedVariables false
set_option linter.unusedSimpArgs false
namespace Go.Am
namespace Lang
theorem q84 {C:List bB} {m:SM} {p a:Nat} {i:bB} {y:Int} (h:Rn m p) (hi:C[p]? = some i) (hl:m.left ≠ 0) (hf:i.bZ m.rs (p:Int)=⟨4,((p+1:Nat):Int),0,y,(a:Nat)⟩) (ha:a<m.w.length):SM.Go C 1 m (({ m with w:=m.w.set a y }:SM).mv m.rs (p+1) 1):=by
 refine CS h hi hl hf ?_;unfold SM.bQ;rw [qc (show ¬ (4:Int)=1 by decide),qc (show ¬ (4:Int)=2 by decide),qc (show ¬ (4:Int)=3 by decide),qk rfl];refine Eq.trans (qk (by show ((a:Nat):Int)<(m.w.length:Nat);omega)) ?_;rfl
section
variable {C:List bB} {f:cF} {m m1:SM} {s s':MS} {p q:Nat} {i:Bool}
theorem gN.out (h:s.left=0):gN C f m s s.bx q:=.inl (Ba h)
theorem gN.oe (h:nn f m s p i) (hl:s.left ≠ 0) {k:Nat} {rs:List Int} {q':Nat} (hk:k<=1100) (hg:SM.Go C k m ((m.mv rs q' k).fin 111)):gN C f m s { s.bx with err:=111 } q:=by
 rw [nO hl];refine .inr ⟨k,_,hg,?_,?_,SM.ik _ _,?_,Lx.die (s':={ ({ s with left:=s.left-1 }:MS) with err:=111 }) h rfl rfl rfl ⟨rfl,rfl,rfl⟩⟩
 ·show k<=1100*(s.left-(s.left-1));omega
 ·show s.left-1<=s.left;omega
 ·rw [ML];rfl
theorem gN.wrap (h:nn f m s p i) (hl:s.left ≠ 0) {k:Nat} {rs:List Int} {q1 t:Nat} (hk:k+1<=1100) (hg:SM.Go C k m (m.mv rs q1 k)) (hr:gN C f (m.mv rs q1 k) { s with left:=s.left-1 } s' q)
 (hj:t=q\/t<=1024/\q<1024/\C[q]? = some ⟨13,0,0,0,(t:Nat)⟩):gN C f m s s' t:=by
 rcases hr with hr|⟨k2,x,g2,kb,sl,xl,xb,he⟩
 ·exact .inl hr
 have hfu:=h.fuel;have sl:s'.left<=s.left-1:=sl;have kb:k2<=1100*(s.left-1-s'.left):=kb;have xl:x.left=m.left-k-k2:=xl;have e1:1100*(s.left-s'.left)=1100*(s.left-1-s'.left)+1100:=by
  rw [show s.left-s'.left=(s.left-1-s'.left)+1 by omega,pF]
 have e2:1100*s.left=1100*(s.left-s'.left)+1100*s'.left:=by rw [<-pF];congr 1;omega
 cases he with
 | gE a b c d e=>exact .inr ⟨k+k2,x,hg.trans g2,by omega,by omega,by omega,xb,.gE a b c d e⟩
 | aT a b c d e f'=>exact .inr ⟨k+k2,x,hg.trans g2,by omega,by omega,by omega,xb,.aT a b c d e f'⟩
 | on a r l hv hw ib bb =>
  rcases hj with rfl|⟨t1,t2,hj⟩
  ·exact .inr ⟨k+k2,x,hg.trans g2,by omega,by omega,by omega,xb,.on a r l hv hw ib bb⟩
  ·have s3:=pS r hj (by omega) (wS t2 t1);exact .inr ⟨k+k2+1,_,(hg.trans g2).trans s3,by omega,by omega,by rw [px];omega,xb,.on a (r.mv r.r8 r.r7 t 1) l hv hw ib bb⟩
theorem nn.part (h:nn f m s p i) (hl:s.left ≠ 0) {k:Nat} {rs:List Int} {q1:Nat} (hk:k<=1100) (h8:rs.length=8) (h7:rs[7]? = some 0):nn f (m.mv rs q1 k) { s with left:=s.left-1 } q1 i:=by
 have:=h.fuel;exact ⟨h.rn.mv h8 h7 q1 k,h.lay,h.hv,h.hw,h.on,h.cr,by rw [px];show 1100*(s.left-1)+1100<=m.left-k;omega⟩
end
end Lang
end Go.Am
namespace Go.Am
namespace Lang
theorem q9c {l:List Int} {k:Nat} {v:Int} (hl:∀ x ∈ l,l9 x) (hv:l9 v):∀ x ∈ l.set k v,l9 x:=λ x h=>(List.mem_or_eq_of_mem_set h).elim (hl x) λ q=>by rw [q];exact hv
theorem St.tc:∀ (x:St),0<x.cl
 | .set _ a=>CF _
 | .store a b=>CF _
 | .ite c l=>by simp only [St.cl,Cn.cl];omega
 | .cG c l e=>by simp only [St.cl,Cn.cl];omega
 | .loop c l=>by simp only [St.cl,Cn.cl];omega
 | .atom l=>by simp only [St.cl];omega
 | .halt=>Nat.one_pos
section
variable {C:List bB} {f:cF} (hF:nu f) (hC:C.length<=1024)
theorem St.lT {x:St} {p:Nat} (hA:At C p (x.de f p)):p+x.cl<=C.length:=by
 have:=hA.le (by rw [St.aA];exact x.tc)
 rwa [St.aA] at this
theorem DK (hF:nu f) (hC:C.length<=1024) {v:Nat} {a:Ex} {i:Bool} {p:Nat} {m:SM} {s:MS} (ho:(St.set v a).ok) (hs:(St.set v a).small) (hf:(St.set v a).fits) (hA:At C p ((St.set v a).de f p)) (h:nn f m s p i):gN C f m s ((St.set v a).run i s) (p+(St.set v a).cl):=by
 have hle:=St.lT hA;obtain ⟨hv,ha⟩:=ho;have hcl:(St.set v a).cl=a.cl+1:=rfl;have hfu:=h.fuel;unfold St.run
 by_cases h0:s.left=0
 ·rw [qk h0];exact gN.out h0
 rw [qc h0];obtain ⟨hA1,hA2⟩:=hA.app;rw [Ex.aA] at hA2;have ih:=Ex.go hF hC h.hv h.hw a 0 p m ha hs hf hA1 h.rn h.lay (by omega);cases hu:a.val s.w s.v with
 | none =>
  rw [hu] at ih;obtain ⟨k,rs',q,hk,hgo⟩:=ih;exact gN.oe h h0 (by omega) hgo
 | some u =>
  rw [hu] at ih;obtain ⟨k,rs1,hk,hgo,h8,hru,hkeep⟩:=ih;have h7:rs1[7]? = some 0:=by rw [hkeep 7 (.inr rfl)];exact h.rn.r7
  have n1:=h.rn.mv h8 h7 (p+a.cl) k;obtain ⟨i1,_⟩:=hA2.hd;have ru:=Ex.KC h.hw h.hv (x:=a) hs hu;have:=hF.v0;have:=hF.v1;have d1:=xdb (rs:=rs1) (a:=0) (b:=7) (p:=p+a.cl) (by decide) (by decide) (by omega) (f.vars+(v:Nat));rw [qR h7,qR hru,ww (n:=f.vars+(v:Nat)) (by omega) (by omega),Int.zero_add,ww (by omega) (by omega),show f.vars+((v:Nat):Int)=((f.vars.toNat+v:Nat):Int) by omega] at d1;have i1':C[p+a.cl]? = some ⟨12,((0:Nat):Int),((7:Nat):Int),0,((f.vars.toNat+v:Nat):Int)⟩:=by rw [i1,show f.vars+((v:Nat):Int)=((f.vars.toNat+v:Nat):Int) by omega];rfl
  have s1:=q84 n1 i1' (by rw [px];omega) d1 (by show f.vars.toNat+v<m.w.length;rw [h.lay.len];unfold cF.all;omega);rw [nO h0];refine .inr ⟨k+1,_,hgo.trans s1,?_,?_,?_,rfl,.on h.on ⟨h.rn.ov,?_,h8,h7⟩ (h.lay.M6 hF (by omega) u) (q9c h.hv ru) h.hw rfl λ _=>rfl⟩
  ·show k+1<=1100*(s.left-(s.left-1));omega
  ·show s.left-1<=s.left;omega
  ·show m.left-k-1=m.left-(k+1);omega
  ·show ((p+a.cl+1:Nat):Int)=((p+(a.cl+1):Nat):Int);rfl
theorem uO (hF:nu f) (hC:C.length<=1024) {a b:Ex} {i:Bool} {p:Nat} {m:SM} {s:MS} (ho:(St.store a b).ok) (hs:(St.store a b).small) (hf:(St.store a b).fits) (hA:At C p ((St.store a b).de f p)) (h:nn f m s p i):gN C f m s ((St.store a b).run i s) (p+(St.store a b).cl):=by
 have hle:=St.lT hA;obtain ⟨ha,hb⟩:=ho;have hcl:(St.store a b).cl=a.cl+b.cl+4:=rfl;have hfu:=h.fuel;unfold St.run
 by_cases h0:s.left=0
 ·rw [qk h0];exact gN.out h0
 rw [qc h0];obtain ⟨hA1,hA2⟩:=hA.app;rw [Ex.aA] at hA2;obtain ⟨hA3,hA4⟩:=hA2.app;rw [Ex.aA] at hA4;obtain ⟨hA5,hA6⟩:=hA4.app;have hA6:At C (p+a.cl+b.cl+3) [⟨12,1,0,0,f.base⟩]:=hA6;have ih:=Ex.go hF hC h.hv h.hw a 0 p m ha hs.1 hf.1 hA1 h.rn h.lay (by omega);cases hu:a.val s.w s.v with
 | none =>
  rw [hu] at ih;obtain ⟨k,rs',q,hk,hgo⟩:=ih;exact gN.oe h h0 (by omega) hgo
 | some u =>
  rw [hu] at ih;obtain ⟨k,rs1,hk,hgo,h8,hru,hkeep⟩:=ih;have h7:rs1[7]? = some 0:=by rw [hkeep 7 (.inr rfl)];exact h.rn.r7
  have n1:=h.rn.mv h8 h7 (p+a.cl) k;have ih2:=Ex.go hF hC h.hv h.hw b 1 (p+a.cl) _ hb hs.2 hf.2 hA3 n1 h.lay (by rw [px];omega);simp only;cases hy:b.val s.w s.v with
  | none =>
   rw [hy] at ih2;obtain ⟨k2,rs',q,hk2,hgo2⟩:=ih2;rw [fk] at hgo2;exact gN.oe h h0 (by omega) (hgo.trans hgo2)
  | some y =>
   rw [hy] at ih2;obtain ⟨k2,rs2,hk2,hgo2,h82,hry,hkeep2⟩:=ih2;rw [fk] at hgo2;have h72:rs2[7]? = some 0:=by rw [hkeep2 7 (.inr rfl)];exact h7
   have n2:=h.rn.mv h82 h72 (p+a.cl+b.cl) (k+k2);have ru:=Ex.KC h.hw h.hv (x:=a) hs.1 hu;have ry:=Ex.KC h.hw h.hv (x:=b) hs.2 hy;have h20:rs2[0]? = some u:=by rw [hkeep2 0 (.inl (by decide))];exact hru
   obtain ⟨b1,b2⟩:=tV hF hC hA5 n2 (r:=0) (by decide) (y:=u) h20 (by rw [px];omega) (by omega);have ru0:=ru.1;have:=hF.m0;have:=hF.m1;have:=hF.b0;have:=hF.b1;have hwl:=h.lay.wl;simp only
   by_cases aT:u<f.many
   ·rw [qk (by omega)];have b1:=b1 aT;rw [fk,show (m.mv rs2 (p+a.cl+b.cl) (k+k2)).rs=rs2 from rfl] at b1;have h83:(rs2.set 6 f.many).length=8:=by rw [xm];exact h82
    have h73:(rs2.set 6 f.many)[7]? = some 0:=AG (by decide) h72;have n3:=h.rn.mv h83 h73 (p+a.cl+b.cl+3) (k+k2+2);obtain ⟨i4,_⟩:=hA6.hd;have e0:(rs2.set 6 f.many).getD 0 0=u:=qR (by rw [xu (by decide)];exact h20);have e1:(rs2.set 6 f.many).getD 1 0=y:=qR (by rw [xu (by decide)];exact hry);have d4:=xdb (rs:=rs2.set 6 f.many) (a:=1) (b:=0) (p:=p+a.cl+b.cl+3) (by decide) (by decide) (by omega) f.base;rw [e0,e1,ww (n:=f.base) (by omega) (by omega),ww (by omega) (by omega),show u+f.base=((f.base.toNat+u.toNat:Nat):Int) by omega] at d4;have s4:=q84 n3 i4 (by rw [px];omega) d4 (by show f.base.toNat+u.toNat<m.w.length;rw [h.lay.len];unfold cF.all;omega);rw [nO h0];refine .inr ⟨k+k2+2+1,_,((hgo.trans hgo2).trans b1).trans s4,?_,?_,?_,rfl,.on h.on ⟨h.rn.ov,?_,h83,h73⟩ (h.lay.C6 hF (by omega) y) h.hv (q9c h.hw ry) rfl λ _=>rfl⟩
    ·show k+k2+2+1<=1100*(s.left-(s.left-1));omega
    ·show s.left-1<=s.left;omega
    ·show m.left-(k+k2+2)-1=m.left-(k+k2+2+1);omega
    ·show ((p+a.cl+b.cl+3+1:Nat):Int)=((p+(a.cl+b.cl+4):Nat):Int);omega
   ·rw [qc (by omega)];have b2:=b2 aT;rw [fk] at b2;exact gN.oe h h0 (by omega) ((hgo.trans hgo2).trans b2)
end
end Lang
end Go.Am
namespace Go.Am
namespace Lang
def FP (C:List bB) (f:cF) (l:Ls):Prop:=∀ (i:Bool) (p:Nat) (m:SM) (s:MS),(i=true->l.dq=false)->At C p (l.de f p)->p+l.cl<=C.length->nn f m s p i->gN C f m s (l.run i s) (p+l.cl)
section
variable {C:List bB} {f:cF} {i:Bool} {p:Nat} {m:SM} {s:MS}
theorem C1 (hF:nu f) (hC:C.length<=1024) {c:Cn} {l:Ls} (ho:(St.ite c l).ok) (hs:(St.ite c l).small) (hf:(St.ite c l).fits) (ha:i=true->l.dq=false) (hl:FP C f l) (hA:At C p ((St.ite c l).de f p)) (h:nn f m s p i):gN C f m s ((St.ite c l).run i s) (p+(St.ite c l).cl):=by
 have hle:=St.lT hA;have hcl:(St.ite c l).cl=c.cl+l.cl:=rfl;have hfu:=h.fuel;unfold St.run
 by_cases h0:s.left=0
 ·rw [qk h0];exact gN.out h0
 rw [qc h0];obtain ⟨hA1,hA2⟩:=hA.app;rw [Cn.aA] at hA2;have ih:=Cn.go hF hC h.hv h.hw c (t:=p+c.cl+l.cl) ho.1 hs.1 hf.1 (by omega) hA1 h.rn h.lay (by omega);cases hu:c.so s.w s.v with
 | none =>
  rw [hu] at ih;obtain ⟨k,rs',q,hk,hgo⟩:=ih;exact gN.oe h h0 (by omega) hgo
 | some b =>
  rw [hu] at ih;obtain ⟨k,rs1,hk,hgo,h8,h7⟩:=ih;cases b with
  | true =>
   rw [qk rfl] at hgo;have hp:=h.part (q1:=p+c.cl) h0 (k:=k) (by omega) h8 h7;have hr:=hl i (p+c.cl) _ _ ha hA2 (by omega) hp;simp only;rw [nO h0];exact gN.wrap h h0 (by omega) hgo hr (.inl (by omega))
  | false =>
   rw [qc (by decide)] at hgo;have hp:=h.part (q1:=p+c.cl+l.cl) h0 (k:=k) (by omega) h8 h7;simp only;rw [nO h0];exact .inr ⟨k,_,hgo,by show k<=1100*(s.left-(s.left-1));omega,by show s.left-1<=s.left;omega,rfl,rfl,.on h.on (by rw [hcl,show p+(c.cl+l.cl)=p+c.cl+l.cl by omega];exact hp.rn) h.lay h.hv h.hw rfl λ _=>rfl⟩
theorem zC (hF:nu f) (hC:C.length<=1024) {c:Cn} {l e:Ls} (ho:(St.cG c l e).ok) (hs:(St.cG c l e).small) (hf:(St.cG c l e).fits) (ha:i=true->l.dq=false) (hae:i=true->e.dq=false) (hl:FP C f l) (he:FP C f e) (hA:At C p ((St.cG c l e).de f p)) (h:nn f m s p i):gN C f m s ((St.cG c l e).run i s) (p+(St.cG c l e).cl):=by
 have hle:=St.lT hA;have hcl:(St.cG c l e).cl=c.cl+l.cl+1+e.cl:=rfl;have hfu:=h.fuel;unfold St.run
 by_cases h0:s.left=0
 ·rw [qk h0];exact gN.out h0
 rw [qc h0];obtain ⟨hA1,hA2⟩:=hA.app;rw [Cn.aA] at hA2;obtain ⟨hA3,hA4⟩:=hA2.app;rw [Ls.aA] at hA4;obtain ⟨j1,hA5⟩:=hA4.hd;have ih:=Cn.go hF hC h.hv h.hw c (t:=p+c.cl+l.cl+1) ho.1 hs.1 hf.1 (by omega) hA1 h.rn h.lay (by omega);cases hu:c.so s.w s.v with
 | none =>
  rw [hu] at ih;obtain ⟨k,rs',q,hk,hgo⟩:=ih;exact gN.oe h h0 (by omega) hgo
 | some b =>
  rw [hu] at ih;obtain ⟨k,rs1,hk,hgo,h8,h7⟩:=ih;cases b with
  | true =>
   rw [qk rfl] at hgo;have hp:=h.part (q1:=p+c.cl) h0 (k:=k) (by omega) h8 h7;have hr:=hl i (p+c.cl) _ _ ha hA3 (by omega) hp;simp only;rw [nO h0];exact gN.wrap h h0 (by omega) hgo hr (.inr ⟨by omega,by omega,by rw [j1,hcl,show p+(c.cl+l.cl+1+e.cl)=p+c.cl+l.cl+1+e.cl by omega]⟩)
  | false =>
   rw [qc (by decide)] at hgo;have hp:=h.part (q1:=p+c.cl+l.cl+1) h0 (k:=k) (by omega) h8 h7;have hr:=he i (p+c.cl+l.cl+1) _ _ hae hA5 (by omega) hp;simp only;rw [nO h0];exact gN.wrap h h0 (by omega) hgo hr (.inl (by omega))
theorem xd3 (hF:nu f) (hC:C.length<=1024) {c:Cn} {l:Ls} (ho:(St.loop c l).ok) (hs:(St.loop c l).small) (hf:(St.loop c l).fits) (ha:i=true->l.dq=false) (hl:FP C f l) (hA:At C p ((St.loop c l).de f p)):∀ (n:Nat) (m:SM) (s:MS),s.left<n->nn f m s p i->gN C f m s (eX c.so (l.run i) n s) (p+(St.loop c l).cl)
 | 0,m,s,hn,h=>absurd hn (by omega)
 | n+1,m,s,hn,h=>by
  have hle:=St.lT hA;have hcl:(St.loop c l).cl=c.cl+l.cl+1:=rfl;have hfu:=h.fuel;obtain ⟨hA1,hA2⟩:=hA.app;rw [Cn.aA] at hA2;obtain ⟨hA3,hA4⟩:=hA2.app;rw [Ls.aA] at hA4;obtain ⟨j1,_⟩:=hA4.hd;unfold eX;rw [qk h.on]
  by_cases h0:s.left=0
  ·rw [qk h0];exact gN.out h0
  rw [qc h0];have ih:=Cn.go hF hC h.hv h.hw c (t:=p+c.cl+l.cl+1) ho.1 hs.1 hf.1 (by omega) hA1 h.rn h.lay (by omega);cases hu:c.so s.w s.v with
  | none =>
   rw [hu] at ih;obtain ⟨k,rs',q,hk,hgo⟩:=ih;exact gN.oe h h0 (by omega) hgo
  | some b =>
   rw [hu] at ih;obtain ⟨k,rs1,hk,hgo,h8,h7⟩:=ih;cases b with
   | false =>
    rw [qc (by decide)] at hgo;have hp:=h.part (q1:=p+c.cl+l.cl+1) h0 (k:=k) (by omega) h8 h7;simp only;rw [nO h0];exact .inr ⟨k,_,hgo,by show k<=1100*(s.left-(s.left-1));omega,by show s.left-1<=s.left;omega,rfl,rfl,.on h.on (by rw [hcl,show p+(c.cl+l.cl+1)=p+c.cl+l.cl+1 by omega];exact hp.rn) h.lay h.hv h.hw rfl λ _=>rfl⟩
   | true =>
    rw [qk rfl] at hgo;have hp:=h.part (q1:=p+c.cl) h0 (k:=k) (by omega) h8 h7;have hr:=hl i (p+c.cl) _ _ ha hA3 (by omega) hp;simp only;rw [nO h0];have hw:=gN.wrap h h0 (by omega) hgo hr (t:=p) (.inr ⟨by omega,by omega,j1⟩);obtain ⟨s1,hs1⟩:∃ s1,s1=l.run i { s with left:=s.left-1 }:=⟨_,rfl⟩
    rw [<-hs1] at hw ⊢;have hless:s1.left<=s.left-1:=by rw [hs1];exact (l.tX i _).left
    rcases hw with hw|⟨k2,x,g2,kb,sl,xl,xb,he⟩
    ·have:¬ s1.on:=λ q=>by have:=q.2;omega
     have e:eX c.so (l.run i) n s1=s1:=by
      cases n with
      | zero=>rfl
      | succ n=>unfold eX;rw [qc this]
     rw [e];exact .inl hw
    have stop:¬ s1.on->eX c.so (l.run i) n s1=s1:=λ q=>by
     cases n with
     | zero=>rfl
     | succ n=>unfold eX;rw [qc q]
    have e1:1100*s.left=1100*(s.left-s1.left)+1100*s1.left:=by rw [<-pF];congr 1;omega
    cases he with
    | gE a b' c' d e =>
     rw [stop λ q=>by have:=q.2;omega];exact .inr ⟨k2,x,g2,kb,sl,xl,xb,.gE a b' c' d e⟩
    | aT a b' c' d e f' =>
     rw [stop λ q=>by have:=q.1;rw [a] at this;cases this];exact .inr ⟨k2,x,g2,kb,sl,xl,xb,.aT a b' c' d e f'⟩
    | on a r lay hv hw2 ib bb =>
     have hP:nn f x s1 p i:=⟨r,lay,hv,hw2,a,by rw [ib];exact h.cr,by omega⟩
     have hrec:=xd3 hF hC ho hs hf ha hl hA n x s1 (by omega) hP;rcases hrec with hrec|⟨k3,y,g3,kb3,sl3,yl,yb,he3⟩
     ·exact .inl hrec
     obtain ⟨s2,hs2⟩:∃ s2,s2=eX c.so (l.run i) n s1:=⟨_,rfl⟩
     rw [<-hs2] at kb3 sl3 yb he3 ⊢;have e2:1100*(s.left-s2.left)=1100*(s.left-s1.left)+1100*(s1.left-s2.left):=by rw [<-pF];congr 1;omega
     refine .inr ⟨k2+k3,y,g2.trans g3,by omega,by omega,by omega,by omega,?_⟩;cases he3 with
     | on a3 r3 l3 v3 w3 i3 b3=>exact .on a3 r3 l3 v3 w3 (i3.trans ib) λ q=>(b3 (by rw [ib];exact q)).trans (bb q)
     | gE a3 b3 c3 d3 e3=>exact .gE a3 b3 c3 (λ q=>(d3 (by rw [ib];exact q)).trans (bb q)) λ q=>e3 (by rw [ib];exact q)
     | aT a3 b3 c3 d3 e3 f3=>exact .aT a3 b3 (by rw [<-ib];exact c3) d3 e3 f3
end
end Lang
end Go.Am
namespace Go.Am
namespace Lang
section
variable {C:List bB} {f:cF} {i:Bool} {p:Nat} {m:SM} {s:MS}
theorem Ay (hC:C.length<=1024) (hA:At C p (St.halt.de f p)) (h:nn f m s p i):gN C f m s (St.halt.run i s) (p+St.halt.cl):=by
 have hle:=St.lT hA;have hcl:St.halt.cl=1:=rfl;have hfu:=h.fuel;unfold St.run
 by_cases h0:s.left=0
 ·rw [qk h0];exact gN.out h0
 rw [qc h0];obtain ⟨i0,_⟩:=hA.hd;have d0:=C5 (rs:=m.rs) (p:=p) (by omega);have hlm:m.left ≠ 0:=by omega
 by_cases hi:i=true
 ·rw [qk hi];have s1:=HB h.rn i0 hlm d0 (by
   unfold SM.bQ;rw [qc (show ¬ (7:Int)=1 by decide),qc (show ¬ (7:Int)=2 by decide),qc (show ¬ (7:Int)=3 by decide),qc (show ¬ (7:Int)=4 by decide),qc (show ¬ (7:Int)=5 by decide),qc (show ¬ (7:Int)=6 by decide),qk rfl];exact qk (by show m.cr=true;rw [h.cr];exact hi))
  have e:m.bx=m.mv m.rs p 1:=by unfold SM.bx SM.mv;rw [h.rn.pc.symm]
  rw [e] at s1;exact gN.oe h h0 (by decide) s1
 ·rw [qc hi];have hi:m.cr=false:=by rw [h.cr];simpa using hi
  have s1:=CS (x:=m.bx.fin 0) h.rn i0 hlm d0 (by
   unfold SM.bQ;rw [qc (show ¬ (7:Int)=1 by decide),qc (show ¬ (7:Int)=2 by decide),qc (show ¬ (7:Int)=3 by decide),qc (show ¬ (7:Int)=4 by decide),qc (show ¬ (7:Int)=5 by decide),qc (show ¬ (7:Int)=6 by decide),qk rfl];exact qc (by show ¬ m.cr=true;rw [hi];decide))
  rw [nO h0];refine .inr ⟨1,_,s1,?_,?_,SM.ik _ _,?_,.aT rfl h.on.2 hi (SM.iY _ _) (SM.nK _ _) ?_⟩
  ·show 1<=1100*(s.left-(s.left-1));omega
  ·show s.left-1<=s.left;omega
  ·rw [ML];rfl
  ·rw [(Na (m:=m.bx) hi 0).1];exact h.lay
theorem Ao (hC:C.length<=1024) {l:Ls} (ho:(St.atom l).ok) (hi:i=false) (hl:FP C f l) (hA:At C p ((St.atom l).de f p)) (h:nn f m s p i):gN C f m s ((St.atom l).run i s) (p+(St.atom l).cl):=by
 have hle:=St.lT hA;have hcl:(St.atom l).cl=l.cl+2:=rfl;have hfu:=h.fuel;unfold St.run
 by_cases h0:s.left=0
 ·rw [qk h0];exact gN.out h0
 rw [qc h0];obtain ⟨i0,hA1⟩:=hA.hd;obtain ⟨hA2,hA3⟩:=hA1.app;rw [Ls.aA] at hA3;obtain ⟨i3,_⟩:=hA3.hd;have hin:m.cr=false:=by rw [h.cr];exact hi
 have d0:=zW (rs:=m.rs) (p:=p) (by omega);have hlm:m.left ≠ 0:=by omega
 obtain ⟨m1,hm1⟩:∃ m1:SM,m1 = { m.bx with cr:=true,pc:=((p+1:Nat):Int),bw:=m.w,mD:=m.rs,nX:=((p+1:Nat):Int) }:=⟨_,rfl⟩
 have s1:SM.Go C 1 m m1:=CS h.rn i0 hlm d0 (by
  unfold SM.bQ;rw [qc (show ¬ (5:Int)=1 by decide),qc (show ¬ (5:Int)=2 by decide),qc (show ¬ (5:Int)=3 by decide),qc (show ¬ (5:Int)=4 by decide),qk rfl];refine Eq.trans (qc (by show ¬ m.cr=true;rw [hin];decide)) ?_;rw [hm1];rfl)
 have hl1:m1.left=m.left-1:=by rw [hm1];rfl
 have hP:nn f m1 { s with left:=s.left-1 } (p+1) true:=by
  rw [hm1];refine ⟨⟨h.rn.ov,rfl,h.rn.r8,h.rn.r7⟩,h.lay,h.hv,h.hw,h.on,rfl,?_⟩;show 1100*(s.left-1)+1100<=m.left-1;omega
 have hr:=hl true (p+1) m1 _ (λ _=>ho.2) hA2 (by omega) hP;rw [nO h0];obtain ⟨s1',hs1⟩:∃ s1',s1'=l.run true { s with left:=s.left-1 }:=⟨_,rfl⟩
 rw [<-hs1] at hr ⊢;have hin1:m1.cr=true:=by rw [hm1]
 have hbw:m1.bw=m.w:=by rw [hm1]
 have hblk:m1.aN=m.aN:=by rw [hm1];rfl
 rcases hr with hr|⟨k,x,g,kb,sl,xl,xb,he⟩
 ·rw [qc (by omega)];exact .inl hr
 have sl:s1'.left<=s.left-1:=sl;have kb:k<=1100*(s.left-1-s1'.left):=kb;have xb:x.aN+s.aN=m1.aN+s1'.aN:=xb;have e1:1100*(s.left-s1'.left)=1100*(s.left-1-s1'.left)+1100:=by
  rw [show s.left-s1'.left=(s.left-1-s1'.left)+1 by omega,pF]
 have e2:1100*s.left=1100*(s.left-s1'.left)+1100*s1'.left:=by rw [<-pF];congr 1;omega
 cases he with
 | aT a b c d e f'=>rw [hin1] at c;cases c
 | gE a b c d e =>
  rw [qc (by omega)];refine .inr ⟨1+k,x,s1.trans g,?_,?_,by omega,?_,.gE a b c (λ q=>by rw [hin] at q;cases q) λ _=>?_⟩
  ·show 1+k<=1100*(s.left-s1'.left);omega
  ·show s1'.left<=s.left;omega
  ·show x.aN+s.aN=m.aN+s1'.aN;omega
  ·rw [d hin1,hbw];exact h.lay
 | on a r lay hv hw ib bb =>
  rw [qk a.2];have hx:x.cr=true:=by rw [ib];exact hin1
  have d3:=HA (rs:=x.rs) (p:=p+1+l.cl) (by omega);have s3:=CS (x:={ x.bx with cr:=false,aN:=x.aN+1,pc:=((p+1+l.cl+1:Nat):Int) }) r i3 (by omega) d3 (by
   unfold SM.bQ;rw [qc (show ¬ (6:Int)=1 by decide),qc (show ¬ (6:Int)=2 by decide),qc (show ¬ (6:Int)=3 by decide),qc (show ¬ (6:Int)=4 by decide),qc (show ¬ (6:Int)=5 by decide),qk rfl];exact qk hx)
  refine .inr ⟨1+k+1,_,(s1.trans g).trans s3,?_,?_,?_,?_,.on a ⟨r.ov,?_,r.r8,r.r7⟩ lay hv hw ?_ λ q=>by rw [hin] at q;cases q⟩
  ·show 1+k+1<=1100*(s.left-s1'.left);omega
  ·show s1'.left<=s.left;omega
  ·show x.left-1=m.left-(1+k+1);omega
  ·show x.aN+1+s.aN=m.aN+(s1'.aN+1);omega
  ·show ((p+1+l.cl+1:Nat):Int)=((p+(l.cl+2):Nat):Int);omega
  ·show false=m.cr;exact hin.symm
end
mutual
theorem St.AN {C:List bB} {f:cF} (hF:nu f) (hC:C.length<=1024):∀ (x:St),x.ok->x.small->x.fits -> ∀ (i:Bool) (p:Nat) (m:SM) (s:MS),(i=true->x.dq=false)->At C p (x.de f p)->nn f m s p i->gN C f m s (x.run i s) (p+x.cl)
 | .set v a,ho,hs,hf,i,p,m,s,ha,hA,h=>DK hF hC ho hs hf hA h
 | .store a b,ho,hs,hf,i,p,m,s,ha,hA,h=>uO hF hC ho hs hf hA h
 | .ite c l,ho,hs,hf,i,p,m,s,ha,hA,h=>C1 hF hC ho hs hf ha (l.AN hF hC ho.2 hs.2 hf.2) hA h
 | .cG c l e,ho,hs,hf,i,p,m,s,ha,hA,h =>
  zC hF hC ho hs hf (λ q=>by have:=ha q;simp only [St.dq,BL] at this;exact this.1) (λ q=>by have:=ha q;simp only [St.dq,BL] at this;exact this.2) (l.AN hF hC ho.2.1 hs.2.1 hf.2.1) (e.AN hF hC ho.2.2 hs.2.2 hf.2.2) hA h
 | .loop c l,ho,hs,hf,i,p,m,s,ha,hA,h=>xd3 hF hC ho hs hf ha (l.AN hF hC ho.2 hs.2 hf.2) hA (s.left+1) m s (x9 _) h
 | .atom l,ho,hs,hf,i,p,m,s,ha,hA,h=>Ao hC ho (by cases i with|false=>rfl|true=>exact absurd (ha rfl) (by simp [St.dq])) (l.AN hF hC ho.1 hs hf) hA h
 | .halt,ho,hs,hf,i,p,m,s,ha,hA,h=>Ay hC hA h
theorem Ls.AN {C:List bB} {f:cF} (hF:nu f) (hC:C.length<=1024):∀ (x:Ls),x.ok->x.small->x.fits->FP C f x
 | .nil,ho,hs,hf,i,p,m,s,ha,hA,hle,h=>.inr ⟨0,m,rfl,ja _,qf _,rfl,rfl,.on h.on h.rn h.lay h.hv h.hw rfl λ _=>rfl⟩
 | .cons x l,ho,hs,hf,i,p,m,s,ha,hA,hle,h=>by
  have hax:i=true->x.dq=false:=λ q=>by have:=ha q;simp only [Ls.dq,BL] at this;exact this.1
  have hal:i=true->l.dq=false:=λ q=>by have:=ha q;simp only [Ls.dq,BL] at this;exact this.2
  obtain ⟨hA1,hA2⟩:=hA.app;rw [St.aA] at hA2;have hcl:(Ls.cons x l).cl=x.cl+l.cl:=rfl;have hr:=x.AN hF hC ho.1 hs.1 hf.1 i p m s hax hA1 h;show gN C f m s (if s.on then l.run i (x.run i s) else s) (p+(x.cl+l.cl));rw [qk h.on];obtain ⟨s1,hs1⟩:∃ s1,s1=x.run i s:=⟨_,rfl⟩
  rw [<-hs1] at hr ⊢;rcases hr with hr|⟨k,y,g,kb,sl,yl,yb,he⟩
  ·rw [Ls.nC l i λ q=>by have:=q.2;omega];exact .inl hr
  have hfu:=h.fuel;have e1:1100*s.left=1100*(s.left-s1.left)+1100*s1.left:=by rw [<-pF];congr 1;omega
  cases he with
  | gE a b c d e =>
   rw [Ls.nC l i λ q=>by have:=q.2;omega];exact .inr ⟨k,y,g,kb,sl,yl,yb,.gE a b c d e⟩
  | aT a b c d e f' =>
   rw [Ls.nC l i λ q=>by have:=q.1;rw [a] at this;cases this];exact .inr ⟨k,y,g,kb,sl,yl,yb,.aT a b c d e f'⟩
  | on a r lay hv hw ib bb =>
   have hP:nn f y s1 (p+x.cl) i:=⟨r,lay,hv,hw,a,by rw [ib];exact h.cr,by omega⟩
   have hr2:=l.AN hF hC ho.2 hs.2 hf.2 i (p+x.cl) y s1 hal hA2 (by omega) hP;rcases hr2 with hr2|⟨k3,z,g3,kb3,sl3,zl,zb,he3⟩
   ·exact .inl hr2
   obtain ⟨s2,hs2⟩:∃ s2,s2=l.run i s1:=⟨_,rfl⟩
   rw [<-hs2] at kb3 sl3 zb he3 ⊢;have e2:1100*(s.left-s2.left)=1100*(s.left-s1.left)+1100*(s1.left-s2.left):=by rw [<-pF];congr 1;omega
   refine .inr ⟨k+k3,z,g.trans g3,by omega,by omega,by omega,by omega,?_⟩;rw [show p+(x.cl+l.cl)=p+x.cl+l.cl by omega];cases he3 with
   | on a3 r3 l3 v3 w3 i3 b3=>exact .on a3 r3 l3 v3 w3 (i3.trans ib) λ q=>(b3 (by rw [ib];exact q)).trans (bb q)
   | gE a3 b3 c3 d3 e3=>exact .gE a3 b3 c3 (λ q=>(d3 (by rw [ib];exact q)).trans (bb q)) λ q=>e3 (by rw [ib];exact q)
   | aT a3 b3 c3 d3 e3 f3=>exact .aT a3 b3 (by rw [<-ib];exact c3) d3 e3 f3
end
theorem JF {f:cF} (hF:nu f) {l:Ls} (ho:l.ok) (hs:l.small) (hf:l.fits) {C:List bB} (hCe:C=l.de f 0) (hC:C.length<=1024) {W v w:List Int} (hL:lA f W v w) (hv:∀ x ∈ v,l9 x) (hw:∀ x ∈ w,l9 x) {n L:Nat} (hn:1100*n+1100<=L) {s':MS}
 (hs':s'=l.run false ⟨w,v,n,0,false,0⟩) (he:s'.err ≠ 190) {y:SM} (hy:y=(SM.init W [0,0,0,0,0,0,0,0] 0 L).runs C):y.err=s'.err/\y.aN=s'.aN/\lA f y.w s'.v s'.w:=by
 have hP:nn f (SM.init W [0,0,0,0,0,0,0,0] 0 L) ⟨w,v,n,0,false,0⟩ 0 false:=⟨⟨rfl,rfl,rfl,rfl⟩,hL,hv,hw,⟨rfl,rfl⟩,rfl,hn⟩
 have hA:At C 0 (l.de f 0):=λ i x hx=>by rw [x6,hCe];exact hx
 have hlen:C.length=l.cl:=by rw [hCe,Ls.aA]
 have hr:=l.AN hF hC ho hs hf false 0 _ _ (λ q=>by cases q) hA (by omega) hP;rw [<-hs'] at hr;rcases hr with hr|⟨k,x,g,kb,sl,xl,xb,hE⟩
 ·exact (he hr).elim
 have hrx:=g.runs;rw [hrx] at hy;have xb:x.aN+0=0+s'.aN:=xb;cases hE with
 | gE a b c d e =>
  rw [show x.runs C=x from SM.lX b _] at hy;rw [hy];exact ⟨c.trans a.symm,by omega,e rfl⟩
 | aT a b c d e f' =>
  rw [show x.runs C=x from SM.lX d _] at hy;rw [hy];exact ⟨e.trans b.symm,by omega,f'⟩
 | on a r lay v2 w2 ib bb =>
  have hin:x.cr=false:=ib;have hst:x.stop C=some (x.fin 0):=by
   unfold SM.stop;rw [qc (by rw [r.ov];decide),qk ⟨by rw [r.pc];omega,hin⟩]
  have e:x.runs C=x.fin 0:=by unfold SM.runs;simp only [SM.run,hst]
  rw [e] at hy;rw [hy];exact ⟨(SM.nK _ _).trans a.2.symm,by rw [ML];omega,by rw [(Na hin 0).1];exact lay⟩
end Lang
end Go.Am
