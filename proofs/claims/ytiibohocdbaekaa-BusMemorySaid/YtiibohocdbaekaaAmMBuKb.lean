/- BuKb: GhX GhF BoC. -/
import Derived.Test.YtiibohocdbaekaaAmMBuKa
import Derived.Test.YtiibohocdbaekaaAmMCodeK
set_option linter.unusedVariables false
set_option linter.unusedSimpArgs false
set_option linter.unusedSectionVars false
set_option maxRecDepth 100000
open Nat (reduceEqDiff)
namespace Go.Am
open Go.Proofs Ca
open Lang (ints)
variable {M:aL} [MK M]
section
variable {H0 H:AHeap} {B:Nat} {s:Bs} {b:Bu} {own:Nat->Nat}
theorem cR.xs (h:cR H0 H B s b own) {i:Nat} {x:De} (hx:b.l[i]? = some x):∃ a,s.xs[i]? = some (x,a):=by
 rw [<-h.dx,xj,xh] at hx;obtain ⟨⟨y,a⟩,h1,h2⟩:=hx;exact ⟨a,by rw [h1];exact congrArg some (Prod.ext h2 rfl)⟩
theorem q8l (h:cR H0 H B s b own) {i:Nat} {w:L8} (hw:b.m[i]? = some w):jx M Cs [.ptr s.D 0,.int .i64 (i:Int)] H λ v H'=>v=.tuple [.agg (bS w),.int .i64 0]/\Fr Em H H':=by
 refine qtb ?_;obtain ⟨w0,w2,w10⟩:=qtc M ⟨none,Cs⟩;obtain ⟨H2,e2⟩:∃ X,X=H.alloc (OR (bS .zero) zf):=⟨_,rfl⟩
 have f2:Fr Em H H2:=by rw [e2];exact (Fr.refl H).alloc _
 have g2:H2.get H.next=some (OR (bS .zero) zf):=by rw [e2,qy]
 have d2:=h.d.em f2;have n2:H2.next=H.next+1:=by rw [e2,xp]
 have lm:Op.aa [.ptr s.D 0] H2=some (.ptr s.mp 0):=ze (xb d2.row) 0;simp only [↓qi,xd,reduceIte,reduceEqDiff,w0,lZ,<-e2,w2,yh,w10,qg,lm];refine C3.q (qqq (M:=M) (w:=w) d2.me (n:=(i:Int)) (by omega) (by rw [zl];exact hw)) λ v H3 ⟨hv,f3⟩=>?_;rw [hv];have g3:H3.get H.next=some (OR (bS .zero) zf):=by rw [f3.ae _ (by omega) id];exact g2
 have st:=fG g3 (ku _) (ku w) (nN w);have ln:=fm (xe H3 H.next (OR (bS w) zf)) (ku w);simp only [↓qi,xd,reduceIte,reduceEqDiff,qr,st,ln];exact (f2.trans f3 λ _ q=>q.elim).set (.inr (qh _)) _
theorem q60 {r nb:Nat} {sv bv:AV} {n:No} {ks:List Nat} (h:bY H0 H r nb sv bv n ks) (hc:CI n.lines n.c) (line:Int):jx M Da [.ptr r 0,.int .i64 line] H λ v H'=>v=iC n.c line/\Fr Em H H':=by
 refine qtp ?_;obtain ⟨w0,w2,w10⟩:=qtq M ⟨none,Da⟩;obtain ⟨H1,e1⟩:∃ X,X=H.alloc (OR (aq .zero) qt):=⟨_,rfl⟩
 have f1:Fr Em H H1:=by rw [e1];exact (Fr.refl H).alloc _
 have g1:H1.get H.next=some (OR (aq .zero) qt):=by rw [e1,qy]
 have n1:H1.next=H.next+1:=by rw [e1,xp]
 have h1:=h.em f1;simp only [↓qi,xd,reduceIte,reduceEqDiff,w0,eZ,<-e1,w2,yh,w10,qg,h1.l2];refine C3.q (Iz (M:=M) h1.ca hc line) λ v H2 ⟨hv,f2⟩=>?_;rw [hv];have g2:H2.get H.next=some (OR (aq .zero) qt):=by rw [f2.ae _ (by omega) id];exact g1
 unfold iC;cases n.c.find line with
 | none =>
  have st:=fG g2 (zt _) (zt .zero) (mQ _);have ln:=fm (xe H2 H.next (OR (aq .zero) qt)) (zt .zero);simp only [↓qi,xd,reduceIte,reduceEqDiff,qr,st,ln];exact (f1.trans f2 λ _ q=>q.elim).set (.inr (qh _)) _
 | some e =>
  have st:=fG g2 (zt _) (zt e) (mQ e);have ln:=fm (xe H2 H.next (OR (aq e) qt)) (zt e);simp only [↓qi,xd,reduceIte,reduceEqDiff,qr,st,ln];exact (f1.trans f2 λ _ q=>q.elim).set (.inr (qh _)) _
end
end Go.Am
namespace Go.Am
open Go.Proofs Ca
open Lang (ints)
variable {M:aL} [MK M]
theorem cR.base {H0 H1 H:AHeap} {B:Nat} {s:Bs} {b:Bu} {own:Nat->Nat} (h:cR H1 H B s b own) (f:Fr Em H0 H1):cR H0 H B s b own :=
 ⟨h.row,h.lt,h.d,h.dx,h.nv,λ c n A hn hA=>(h.no c n A hn hA).base f,h.al,h.fl,h.oB,h.oD,h.oN,h.oF,h.oC,λ z hz=>xu f.next (h.lo z hz)⟩
def ie (l:Int):Gh:=⟨List.replicate (8*l.toNat) 0,λ _=>[],λ _=>false⟩
theorem vH (l c s w:Int) (k:Nat):(di l c s w).lv k=false:=by
 unfold Bu.lv;cases hn:(di l c s w).ns[k]? with
 | none=>rfl
 | some n=>obtain ⟨-,rfl⟩:=DV hn;rfl
theorem wY {l c s w:Int} (h:gW l c s w):GI (di l c s w) (ie l) 0:=by
 refine ⟨?_,λ c p hp=>(nomatch hp),λ c=>qh _,λ k=>(vH l c s w k).symm,λ c _=>rfl⟩;show (((List.replicate (8*l.toNat) (0:Int)).length:Nat):Int)=8*((List.replicate l.toNat eL).length:Nat);rw [zj,zj];omega
def sS (H:AHeap) (l c s w:Int) (n:Nat) (v:AV) (H':AHeap):Prop :=
 Fr Em H H'/\(¬ (gW l c s w/\n<=300)/\v=.tuple [.nilp,.nilp,.bool false]\/(gW l c s w/\n<=300) /\ ∃ B bs own G gs tg,v=.tuple [.ptr B 0,.ptr G 0,.bool true]/\i4 H H' B bs (di l c s w) own G gs (ie l) tg)
theorem q6a {H:AHeap} (l c s w:Int) {lv:AV} {xs:List Bt} (hl:eJ fA 5 H lv xs):jx M DG [.agg (cB l c s w),lv] H (sS H l c s w xs.length):=by
 refine qz1 ?_;obtain ⟨w0,w4,w12⟩:=qz2 M ⟨none,DG⟩;obtain ⟨H1,e1⟩:∃ X,X=H.alloc (OR (cB l c s w) vx):=⟨_,rfl⟩
 have f1:Fr Em H H1:=by rw [e1];exact (Fr.refl H).alloc _
 have n1:H1.next=H.next+1:=by rw [e1,xp]
 have g1:H1.get H.next=some (OR (cB l c s w) vx):=by rw [e1,qy]
 have ld:=fm (e:=vx) g1 (show (cB l c s w).length=4 from rfl);have hln:=hl.len;simp only [↓qi,xd,reduceIte,reduceEqDiff,w0,x9,<-e1,ld];refine C3.q (q3h (M:=M) l c s w) λ v H2 hv=>?_;rcases hv with ⟨ho,rfl,f2⟩|⟨ho,B,bs,own,rfl,hB,f2⟩
 ·have t2:¬ (2:Int)=0:=by decide
  simp only [↓qi,xd,reduceIte,reduceEqDiff,qr,w4,t2];exact ⟨f1.trans f2 λ _ q=>q.elim,.inl ⟨λ q=>ho q.1,rfl⟩⟩
 have t0:=xf (show (0:Int)=0 from rfl)
 by_cases q:(300:Int)<(xs.length:Nat)
 ·simp only [↓qi,xd,reduceIte,reduceEqDiff,qr,w4,t0,hln,q];exact ⟨f1.trans f2 λ _ q=>q.elim,.inl ⟨λ q2=>by omega,rfl⟩⟩
 obtain ⟨⟨⟨l0,l1⟩,c0,c1⟩,hs⟩:=id ho;have l64:l<=64:=l1;have l2:0<=l:=by have:(2:Int)<=l:=l0;omega
 have lo:Op.aa [.ptr H.next 0] H2=some (.int .i64 l):=ze (xb (show H2.get H.next=_ by rw [f2.ae _ (by omega) id];exact g1)) 0;have wm:aW .i64 (8*l)=((8*l.toNat:Nat):Int):=by rw [vl (by omega) (by omega)];omega
 have mk:=JS Ik 8 [.int .u64 0] (8*l.toNat) .i64 .i64 (by omega) (by omega);rw [show dh (8*l.toNat) [AV.int .u64 0]=(List.replicate (8*l.toNat) (0:Int)).flatMap mj from (Je mj 0 _).symm] at mk;obtain ⟨H3,e3⟩:∃ X,X=H2.alloc (OR ((List.replicate (8*l.toNat) (0:Int)).flatMap mj) Ik):=⟨_,rfl⟩
 have f3:Fr Em H2 H3:=by rw [e3];exact (Fr.refl H2).alloc _
 have n3:H3.next=H2.next+1:=by rw [e3,xp]
 obtain ⟨sv,hsv⟩:∃ sv:AV,sv=.slice H2.next 0 (8*l.toNat) (8*l.toNat):=⟨_,rfl⟩
 have hst:Op.sliceTo (8*l.toNat) (8*l.toNat) H2.next=sv:=by rw [hsv];rfl
 have hsb:aN sv=H2.next:=by rw [hsv];rfl
 have bd:Op.build [.nils,.nils,.nils,.nils,.nils,.bool false,.bool false,.bool false,.bool false] [(0,1)] [sv]=some (.agg (gC ⟨sv,λ _=>.nils⟩ (ie l))):=by rw [hsv];rfl
 obtain ⟨H4,e4⟩:∃ X,X=H3.alloc (OR (gC ⟨sv,λ _=>.nils⟩ (ie l)) wy):=⟨_,rfl⟩
 have f4:Fr Em H3 H4:=by rw [e4];exact (Fr.refl H3).alloc _
 have n4:H4.next=H3.next+1:=by rw [e4,xp]
 have g4:H4.get H3.next=some (OR (gC ⟨sv,λ _=>.nils⟩ (ie l)) wy):=by rw [e4,qy]
 have F:Fr Em H H4:=((f1.trans f2 λ _ q=>q.elim).trans f3 λ _ q=>q.elim).trans f4 λ _ q=>q.elim;have m2:=f2.next
 simp only [↓qi,xd,reduceIte,reduceEqDiff,qr,w4,t0,hln,q,w12,lo,wm,mk,hst,<-e3,bd,x9,<-e4];have hr:dp mj Ik 1 H4 sv (ie l).w:=by
  refine ⟨H2.next,?_,by omega,?_⟩
  ·rw [hsv];show _=AV.slice _ 0 (List.replicate _ _).length (List.replicate _ _).length;rw [zj]
  ·rw [f4.ae _ (by omega) id,e3,qy];rfl
 have hg:gQ H H4 H3.next ⟨sv,λ _=>.nils⟩ (ie l) (λ z=>if z=H3.next then 4 else 5):=by
  refine ⟨g4,by omega,hr,λ c _=>Own.nil ..,qm rfl,qe (by rw [hsb];omega),λ c _ z hz=>absurd rfl hz.1,λ z hz=>?_⟩;rcases hz with rfl|rfl|⟨c,-,hz⟩
  ·omega
  ·show H.next<=aN sv;rw [hsb];omega
  ·exact absurd rfl hz.1
 have hB4:cR H H4 B bs (di l c s w) own:=((hB.base f1).em f3).em f4;refine ⟨F,.inr ⟨⟨ho,by omega⟩,B,bs,own,H3.next,_,_,rfl,hB4,hg,λ z hz w=>?_⟩⟩;have lz:=hB.low hz;rcases w with rfl|rfl|⟨c,-,w⟩
 ·omega
 ·have lz:aN sv<H2.next:=lz
  omega
 ·exact absurd rfl w.1
end Go.Am
namespace Go.Am
open Go.Proofs Ca
open Lang (ints)
variable {M:aL} [MK M]
structure r9 (Hb H:AHeap) (B G:Nat) (l c:Int) (i:Nat) (bs:Bs) (own:Nat->Nat) (gs:Gs) (tg:Nat->Nat) (b:Bu) (g:Gh) (V:Int->L8):Prop where
 r:i4 Hb H B bs b own G gs g tg
 I:BuI b V
 C:BC b i
 g:GI b g i
 ns:(b.ns.length:Int)=c
 l:(b.l.length:Int)=l
 fr:Fr Em Hb H
theorem q8r (x:Bt):(fA x).length=5:=rfl
section
variable {Hb H:AHeap} {B G:Nat} {l c:Int} {i:Nat} {bs:Bs} {own tg:Nat->Nat} {gs:Gs} {b:Bu} {g:Gh} {V:Int->L8}
theorem r9.em {H':AHeap} (h:r9 Hb H B G l c i bs own gs tg b g V) (f:Fr Em H H'):r9 Hb H' B G l c i bs own gs tg b g V:=⟨h.r.em f,h.I,h.C,h.g,h.ns,h.l,h.fr.trans f λ _ q=>q.elim⟩
theorem r9.bb (h:r9 Hb H B G l c i bs own gs tg b g V) (hi:i<=1000):BB b:=h.C.bb h.I (by omega)
theorem r9.step (h:r9 Hb H B G l c i bs own gs tg b g V) (hi:i<=1000) (x:Bt):jx M jc [.ptr G 0,.ptr B 0,.agg (fA x)] H λ v H'=>v=.bool (g.eI b x).2 /\ ∃ bs' eh gs' tg',r9 Hb H' B G l c (i+1) bs' eh gs' tg' (b.step x) (g.lJ b x) (if x.k=7 then V else fw b V x):=by
 refine (q9n (M:=M) h.r h.I h.C h.g hi x).mono λ v H' ⟨hv,hp⟩=>⟨hv,?_⟩
 obtain ⟨s2,o2,gs2,t2,h2,sub2,f2⟩:=hp;obtain ⟨z1,z2⟩:=q2w b x;exact ⟨s2,o2,gs2,t2,h2,tj h.I x,t9 h.C x,Cj h.I h.g x,by rw [z1];exact h.ns,by rw [z2];exact h.l,h.fr.trans f2 λ z q=>.inr (q.elim (h.r.jO.lo z) (h.r.gh.lo z))⟩
end
theorem yX {H H':AHeap} {l c s w:Int} {n:Nat} {v:AV} (h:sS H l c s w n v H'):¬ (gW l c s w/\n<=300)/\v=.tuple [.nilp,.nilp,.bool false]\/(gW l c s w/\n<=300) /\ ∃ B G bs own gs tg,v=.tuple [.ptr B 0,.ptr G 0,.bool true]/\r9 H H' B G l c 0 bs own gs tg (di l c s w) (ie l) λ _=>.zero:=by
 obtain ⟨f,h|⟨hok,B,bs,own,G,gs,tg,hv,hr⟩⟩:=h
 ·exact .inl h
 obtain ⟨⟨⟨l0,l1⟩,c0,c1⟩,hs⟩:=id hok.1;have l0':(2:Int)<=l:=l0;have c0':0<=c:=by omega
 refine .inr ⟨hok,B,G,bs,own,gs,tg,hv,hr,tw hok.1,sR,wY hok.1,?_,?_,f⟩
 ·show ((jE l s w c.toNat).length:Int)=c;rw [I3];omega
 ·show ((List.replicate l.toNat eL).length:Int)=l;rw [zj];omega
end Go.Am
