/- BuKb: GhX GhF BoC. -/
import Derived.Test.YtiibohocdbaekaaAmHBuKa
import Derived.Test.YtiibohocdbaekaaAmHCodeK
set_option linter.unusedVariables false
set_option linter.unusedSimpArgs false
set_option linter.unusedSectionVars false
set_option maxRecDepth 100000
open Nat (reduceEqDiff)
namespace Go.Am
open Go.Proofs Ca
open Lang (ints)
variable {M:aL} [MK M]
theorem NQ (e:Nat) (zero:List AV):Op.buildSlice e 0 zero [] []=some (.row [] e (0,0) true,Op.sliceTo 0 0):=rfl
theorem It (H:AHeap):Op.eq .slice false [.nils,.nils] H=some (.bool true):=rfl
theorem Di {H:AHeap} {size:Nat} {v:AV} {n:Nat} {cells:List AV} (h:Sl H size v n cells) (hv:v ≠ .nils) (H':AHeap):Op.eq .slice false [v,.nils] H'=some (.bool false):=by
 obtain ⟨_,h⟩:=h;cases v<;>first|exact (hv rfl).elim|rfl|exact h.elim
section
variable {H0 H:AHeap} {B:Nat} {s:Bs} {b:Bu} {own:Nat->Nat}
theorem q3r {H:AHeap} {a:AV} {ms:List Mg} (ha:dZ ai 11 H a ms) (hl:ms.length<=900000):jr M ve [a] H λ v H'=>pe ai qn 11 H H' v ms:=by
 refine qmo ?_;obtain ⟨w0,w2,w10⟩:=qmp M ⟨none,ve⟩
 by_cases hn:a=.nils
 ·subst hn;have:ms=[]:=by obtain ⟨_,h⟩:=ha;exact yb.1 h
  subst this;simp only [↓qg,xe,reduceIte,reduceEqDiff,w0,w2,It];exact pe.nil H
 ·simp only [↓qg,xe,reduceIte,reduceEqDiff,w0,w2,Di ha hn,w10,NQ];have hf1:Fr Em H (H.alloc (.row [] qn (0,0) true)):=(Fr.refl H).alloc _;refine q40 (e:=qn) (bytes:=88) (n:=0) (cells:=[]) ⟨rfl,.inl ⟨rfl,.inr ⟨H.next,rfl,by rw [xn];omega⟩⟩⟩ (ha.em hf1) (q47 ms) (by omega) (by omega) (by omega) λ v' H2 hv' hf hfr=>?_;simp only [↓qg,xe,reduceIte,reduceEqDiff];rw [ko,zy] at hv';exact ⟨hv',hf1.trans hf λ x hx=>.inr (by rw [hx.2];exact qh _),λ b hb=>(hfr b hb).elim (λ q=>by rw [q.2];exact qh _) λ q=>xy hf1.next q⟩
theorem q3d (h:cY H0 H B s b own) (hb:BB b):jr M BS [.ptr B 0] H λ v H'=>pe ai qn 11 H H' v b.fl:=by
 refine qtb ?_;obtain ⟨w0,w2,w10⟩:=qtc M ⟨none,BS⟩;simp only [↓qg,xe,reduceIte,reduceEqDiff,w0,w2,yj,w10,qf,h.l2];exact C3.q (q3r (M:=M) (h.fl.sl zb) hb.fl) λ v H1 hv=>by simp only [↓qg,xe,reduceIte,reduceEqDiff];exact hv
theorem q8r (h:cY H0 H B s b own):jr M CW [.ptr B 0] H λ v H'=>v=.ptr s.D 0/\H'=H:=by
 refine qxm ?_;obtain ⟨w0,w2,w10⟩:=qxn M ⟨none,CW⟩;simp only [↓qg,xe,reduceIte,reduceEqDiff,w0,w2,yj,w10,qf,h.l0]
theorem cY.xs (h:cY H0 H B s b own) {i:Nat} {x:De} (hx:b.l[i]? = some x):∃ a,s.xs[i]? = some (x,a):=by
 rw [<-h.dx,xt,xk] at hx;obtain ⟨⟨y,a⟩,h1,h2⟩:=hx;exact ⟨a,by rw [h1];exact congrArg some (Prod.ext h2 rfl)⟩
theorem q3e (h:cY H0 H B s b own) {i:Nat} {w:L8} (hw:b.m[i]? = some w):jr M Fq [.ptr B 0,.int .i64 (i:Int)] H λ v H'=>v=.tuple [.agg (bS w),.int .i64 0]/\Fr Em H H':=by
 refine qte ?_;obtain ⟨H1,e1⟩:∃ X,X=H.alloc (OR (bS .zero) zh):=⟨_,rfl⟩
 have f1:Fr Em H H1:=by rw [e1];exact (Fr.refl H).alloc _
 have n1:H1.next=H.next+1:=by rw [e1,xn]
 have g1:H1.get H.next=some (OR (bS .zero) zh):=by rw [e1,qx]
 have h1:=h.em f1;simp only [↓qg,xe,reduceIte,reduceEqDiff,qtf,lZ,<-e1];refine C3.q (q8r (M:=M) h1) λ v H2 ⟨hv,hh⟩=>?_;rw [hv,hh];simp only [↓qg,xe,reduceIte,reduceEqDiff];refine C3.q (show jr M EC [.ptr s.D 0,.int .i64 (i:Int)] H1 λ v H'=>v=.tuple [.agg (bS w),.int .i64 0]/\Fr Em H1 H' from ?_) λ v H3 ⟨hv,f3⟩=>?_
 ·refine qth ?_;obtain ⟨w0,w2,w10⟩:=qti M ⟨none,EC⟩;obtain ⟨H2,e2⟩:∃ X,X=H1.alloc (OR (bS .zero) zh):=⟨_,rfl⟩
  have f2:Fr Em H1 H2:=by rw [e2];exact (Fr.refl H1).alloc _
  have g2:H2.get H1.next=some (OR (bS .zero) zh):=by rw [e2,qx]
  have d2:=h1.d.em f2;have n2:H2.next=H1.next+1:=by rw [e2,xn]
  have lm:Op.aa [.ptr s.D 0] H2=some (.ptr s.mp 0):=ze (xc d2.row) 0;simp only [↓qg,xe,reduceIte,reduceEqDiff,w0,lZ,<-e2,w2,yj,w10,qf,lm];refine C3.q (qqu (M:=M) (w:=w) d2.me (n:=(i:Int)) (by omega) (by rw [zj];exact hw)) λ v H3 ⟨hv,f3⟩=>?_;rw [hv];have g3:H3.get H1.next=some (OR (bS .zero) zh):=by rw [f3.ae _ (by omega) id];exact g2
  have st:=fX g3 (yh _) (yh w) (nY w);have ln:=eJ (xf H3 H1.next (OR (bS w) zh)) (yh w);simp only [↓qg,xe,reduceIte,reduceEqDiff,qo,st,ln];exact (f2.trans f3 λ _ q=>q.elim).set (.inr (qh _)) _
 rw [hv];have g3:H3.get H.next=some (OR (bS .zero) zh):=by rw [f3.ae _ (by omega) id];exact g1
 have st:=fX g3 (yh _) (yh w) (nY w);have ln:=eJ (xf H3 H.next (OR (bS w) zh)) (yh w);simp only [↓qg,xe,reduceIte,reduceEqDiff,qo,st,ln];exact (f1.trans f3 λ _ q=>q.elim).set (.inr (qh _)) _
theorem q67 {r nb:Nat} {sv bv:AV} {n:No} {ks:List Nat} (h:bX H0 H r nb sv bv n ks) (hc:CI n.lines n.c) (line:Int):jr M Dz [.ptr r 0,.int .i64 line] H λ v H'=>v=fq n.c line/\Fr Em H H':=by
 refine qtv ?_;obtain ⟨w0,w2,w10⟩:=qtw M ⟨none,Dz⟩;obtain ⟨H1,e1⟩:∃ X,X=H.alloc (OR (aq .zero) qp):=⟨_,rfl⟩
 have f1:Fr Em H H1:=by rw [e1];exact (Fr.refl H).alloc _
 have g1:H1.get H.next=some (OR (aq .zero) qp):=by rw [e1,qx]
 have n1:H1.next=H.next+1:=by rw [e1,xn]
 have h1:=h.em f1;simp only [↓qg,xe,reduceIte,reduceEqDiff,w0,eZ,<-e1,w2,yj,w10,qf,h1.l2];refine C3.q (GO (M:=M) h1.ca hc line) λ v H2 ⟨hv,f2⟩=>?_;rw [hv];have g2:H2.get H.next=some (OR (aq .zero) qp):=by rw [f2.ae _ (by omega) id];exact g1
 unfold fq;cases n.c.find line with
 | none =>
  have st:=fX g2 (zl _) (zl .zero) (mI _);have ln:=eJ (xf H2 H.next (OR (aq .zero) qp)) (zl .zero);simp only [↓qg,xe,reduceIte,reduceEqDiff,qo,st,ln];exact (f1.trans f2 λ _ q=>q.elim).set (.inr (qh _)) _
 | some e =>
  have st:=fX g2 (zl _) (zl e) (mI e);have ln:=eJ (xf H2 H.next (OR (aq e) qp)) (zl e);simp only [↓qg,xe,reduceIte,reduceEqDiff,qo,st,ln];exact (f1.trans f2 λ _ q=>q.elim).set (.inr (qh _)) _
theorem q1c (h:cY H0 H B s b own) (hb:BB b) {c:Nat} {n:No} (hn:b.ns[c]? = some n) (line:Int):jr M Dm [.ptr B 0,.int .i64 (c:Int),.int .i64 line] H λ v H'=>v=fq n.c line/\Fr Em H H':=by
 refine qxg ?_;obtain ⟨H1,e1⟩:∃ X,X=H.alloc (OR (aq .zero) qp):=⟨_,rfl⟩
 have f1:Fr Em H H1:=by rw [e1];exact (Fr.refl H).alloc _
 have g1:H1.get H.next=some (OR (aq .zero) qp):=by rw [e1,qx]
 have n1:H1.next=H.next+1:=by rw [e1,xn]
 have h1:=h.em f1;simp only [↓qg,xe,reduceIte,reduceEqDiff,qxh,eZ,<-e1];refine C3.q (qR (M:=M) h1 hb.N4 (c:Int)) λ v H2 ⟨hh,q1,_⟩=>?_;have hl:=(qi.1 hn).1;obtain ⟨A,hA,hv⟩:=q1 ⟨by omega,by omega⟩;rw [zj] at hA;rw [hv,hh];have nr:=h1.no _ n A hn hA;obtain ⟨ni,-,-⟩:=hb.no _ n hn;simp only [↓qg,xe,reduceIte,reduceEqDiff,qo];refine C3.q (q67 (M:=M) nr ni.ci line) λ v H2 ⟨hv,f2⟩=>?_;rw [hv];have g2:H2.get H.next=some (OR (aq .zero) qp):=by rw [f2.ae _ (by omega) id];exact g1
 unfold fq;cases n.c.find line with
 | none =>
  have st:=fX g2 (zl _) (zl .zero) (mI _);have ln:=eJ (xf H2 H.next (OR (aq .zero) qp)) (zl .zero);simp only [↓qg,xe,reduceIte,reduceEqDiff,qo,st,ln];exact (f1.trans f2 λ _ q=>q.elim).set (.inr (qh _)) _
 | some e =>
  have st:=fX g2 (zl _) (zl e) (mI e);have ln:=eJ (xf H2 H.next (OR (aq e) qp)) (zl e);simp only [↓qg,xe,reduceIte,reduceEqDiff,qo,st,ln];exact (f1.trans f2 λ _ q=>q.elim).set (.inr (qh _)) _
end
end Go.Am
namespace Go.Am
open Go.Proofs Ca
open Lang (ints)
variable {M:aL} [MK M]
theorem cY.base {H0 H1 H:AHeap} {B:Nat} {s:Bs} {b:Bu} {own:Nat->Nat} (h:cY H1 H B s b own) (f:Fr Em H0 H1):cY H0 H B s b own :=
 ⟨h.row,h.lt,h.d,h.dx,h.nv,λ c n A hn hA=>(h.no c n A hn hA).base f,h.al,h.fl,h.oB,h.oD,h.oN,h.oF,h.oC,λ z hz=>xy f.next (h.lo z hz)⟩
def jB (l:Int):Gh:=⟨List.replicate (8*l.toNat) 0,λ _=>[],λ _=>false⟩
theorem sL (l c s w:Int) (k:Nat):(cT l c s w).lv k=false:=by
 unfold Bu.lv;cases hn:(cT l c s w).ns[k]? with
 | none=>rfl
 | some n=>obtain ⟨-,rfl⟩:=CU hn;rfl
theorem Au {l c s w:Int} (h:gN l c s w):GI (cT l c s w) (jB l) 0:=by
 refine ⟨?_,λ c p hp=>(nomatch hp),λ c=>qh _,λ k=>(sL l c s w k).symm,λ c _=>rfl⟩;show (((List.replicate (8*l.toNat) (0:Int)).length:Nat):Int)=8*((List.replicate l.toNat ew).length:Nat);rw [xx,xx];omega
def tC (H:AHeap) (l c s w:Int) (n:Nat) (v:AV) (H':AHeap):Prop :=
 Fr Em H H'/\(¬ (gN l c s w/\n<=300)/\v=.tuple [.nilp,.nilp,.bool false]\/(gN l c s w/\n<=300) /\ ∃ B bs own G gs tg,v=.tuple [.ptr B 0,.ptr G 0,.bool true]/\iS H H' B bs (cT l c s w) own G gs (jB l) tg)
theorem q6h {H:AHeap} (l c s w:Int) {lv:AV} {xs:List Bt} (hl:dZ eO 5 H lv xs):jr M Du [.agg (cm l c s w),lv] H (tC H l c s w xs.length):=by
 refine qz3 ?_;obtain ⟨w0,w4,w12⟩:=qz4 M ⟨none,Du⟩;obtain ⟨H1,e1⟩:∃ X,X=H.alloc (OR (cm l c s w) yu):=⟨_,rfl⟩
 have f1:Fr Em H H1:=by rw [e1];exact (Fr.refl H).alloc _
 have n1:H1.next=H.next+1:=by rw [e1,xn]
 have g1:H1.get H.next=some (OR (cm l c s w) yu):=by rw [e1,qx]
 have ld:=eJ (e:=yu) g1 (show (cm l c s w).length=4 from rfl);have hln:=hl.len;simp only [↓qg,xe,reduceIte,reduceEqDiff,w0,xz,<-e1,ld];refine C3.q (q3o (M:=M) l c s w) λ v H2 hv=>?_;rcases hv with ⟨ho,rfl,f2⟩|⟨ho,B,bs,own,rfl,hB,f2⟩
 ·have t2:¬ (2:Int)=0:=by decide
  simp only [↓qg,xe,reduceIte,reduceEqDiff,qo,w4,t2];exact ⟨f1.trans f2 λ _ q=>q.elim,.inl ⟨λ q=>ho q.1,rfl⟩⟩
 have t0:=xj (show (0:Int)=0 from rfl)
 by_cases q:(300:Int)<(xs.length:Nat)
 ·simp only [↓qg,xe,reduceIte,reduceEqDiff,qo,w4,t0,hln,q];exact ⟨f1.trans f2 λ _ q=>q.elim,.inl ⟨λ q2=>by omega,rfl⟩⟩
 obtain ⟨⟨⟨l0,l1⟩,c0,c1⟩,hs⟩:=id ho;have l64:l<=64:=l1;have l2:0<=l:=by have:(2:Int)<=l:=l0;omega
 have lo:Op.aa [.ptr H.next 0] H2=some (.int .i64 l):=ze (xc (show H2.get H.next=_ by rw [f2.ae _ (by omega) id];exact g1)) 0;have wm:aW .i64 (8*l)=((8*l.toNat:Nat):Int):=by rw [vl (by omega) (by omega)];omega
 have mk:=I4 G6 8 [.int .u64 0] (8*l.toNat) .i64 .i64 (by omega) (by omega);rw [show dh (8*l.toNat) [AV.int .u64 0]=(List.replicate (8*l.toNat) (0:Int)).flatMap lT from (Ju lT 0 _).symm] at mk;obtain ⟨H3,e3⟩:∃ X,X=H2.alloc (OR ((List.replicate (8*l.toNat) (0:Int)).flatMap lT) G6):=⟨_,rfl⟩
 have f3:Fr Em H2 H3:=by rw [e3];exact (Fr.refl H2).alloc _
 have n3:H3.next=H2.next+1:=by rw [e3,xn]
 obtain ⟨sv,hsv⟩:∃ sv:AV,sv=.slice H2.next 0 (8*l.toNat) (8*l.toNat):=⟨_,rfl⟩
 have hst:Op.sliceTo (8*l.toNat) (8*l.toNat) H2.next=sv:=by rw [hsv];rfl
 have hsb:aN sv=H2.next:=by rw [hsv];rfl
 have bd:Op.build [.nils,.nils,.nils,.nils,.nils,.bool false,.bool false,.bool false,.bool false] [(0,1)] [sv]=some (.agg (gC ⟨sv,λ _=>.nils⟩ (jB l))):=by rw [hsv];rfl
 obtain ⟨H4,e4⟩:∃ X,X=H3.alloc (OR (gC ⟨sv,λ _=>.nils⟩ (jB l)) wy):=⟨_,rfl⟩
 have f4:Fr Em H3 H4:=by rw [e4];exact (Fr.refl H3).alloc _
 have n4:H4.next=H3.next+1:=by rw [e4,xn]
 have g4:H4.get H3.next=some (OR (gC ⟨sv,λ _=>.nils⟩ (jB l)) wy):=by rw [e4,qx]
 have F:Fr Em H H4:=((f1.trans f2 λ _ q=>q.elim).trans f3 λ _ q=>q.elim).trans f4 λ _ q=>q.elim;have m2:=f2.next
 simp only [↓qg,xe,reduceIte,reduceEqDiff,qo,w4,t0,hln,q,w12,lo,wm,mk,hst,<-e3,bd,xz,<-e4];have hr:db lT G6 1 H4 sv (jB l).w:=by
  refine ⟨H2.next,?_,by omega,?_⟩
  ·rw [hsv];show _=AV.slice _ 0 (List.replicate _ _).length (List.replicate _ _).length;rw [xx]
  ·rw [f4.ae _ (by omega) id,e3,qx];rfl
 have hg:gR H H4 H3.next ⟨sv,λ _=>.nils⟩ (jB l) (λ z=>if z=H3.next then 4 else 5):=by
  refine ⟨g4,by omega,hr,λ c _=>Own.nil ..,qr rfl,qd (by rw [hsb];omega),λ c _ z hz=>absurd rfl hz.1,λ z hz=>?_⟩;rcases hz with rfl|rfl|⟨c,-,hz⟩
  ·omega
  ·show H.next<=aN sv;rw [hsb];omega
  ·exact absurd rfl hz.1
 have hB4:cY H H4 B bs (cT l c s w) own:=((hB.base f1).em f3).em f4;refine ⟨F,.inr ⟨⟨ho,by omega⟩,B,bs,own,H3.next,_,_,rfl,hB4,hg,λ z hz w=>?_⟩⟩;have lz:=hB.low hz;rcases w with rfl|rfl|⟨c,-,w⟩
 ·omega
 ·have lz:aN sv<H2.next:=lz
  omega
 ·exact absurd rfl w.1
end Go.Am
namespace Go.Am
open Go.Proofs Ca
open Lang (ints)
variable {M:aL} [MK M]
structure nq (Hb H:AHeap) (B G:Nat) (l c:Int) (i:Nat) (bs:Bs) (own:Nat->Nat) (gs:Gs) (tg:Nat->Nat) (b:Bu) (g:Gh) (V:Int->L8):Prop where
 r:iS Hb H B bs b own G gs g tg
 I:BuI b V
 C:BC b i
 g:GI b g i
 ns:(b.ns.length:Int)=c
 l:(b.l.length:Int)=l
 fr:Fr Em Hb H
theorem q8z (x:Bt):(eO x).length=5:=rfl
section
variable {Hb H:AHeap} {B G:Nat} {l c:Int} {i:Nat} {bs:Bs} {own tg:Nat->Nat} {gs:Gs} {b:Bu} {g:Gh} {V:Int->L8}
theorem nq.em {H':AHeap} (h:nq Hb H B G l c i bs own gs tg b g V) (f:Fr Em H H'):nq Hb H' B G l c i bs own gs tg b g V:=⟨h.r.em f,h.I,h.C,h.g,h.ns,h.l,h.fr.trans f λ _ q=>q.elim⟩
theorem nq.bb (h:nq Hb H B G l c i bs own gs tg b g V) (hi:i<=1000):BB b:=h.C.bb h.I (by omega)
theorem nq.step (h:nq Hb H B G l c i bs own gs tg b g V) (hi:i<=1000) (x:Bt):jr M zw [.ptr G 0,.ptr B 0,.agg (eO x)] H λ v H'=>v=.bool (g.eU b x).2 /\ ∃ bs' eI gs' tg',nq Hb H' B G l c (i+1) bs' eI gs' tg' (b.step x) (g.mG b x) (if x.k=7 then V else nD b V x):=by
 refine (q2p (M:=M) h.r h.I h.C h.g hi x).mono λ v H' ⟨hv,hp⟩=>⟨hv,?_⟩
 obtain ⟨s2,o2,gs2,t2,h2,sub2,f2⟩:=hp;obtain ⟨z1,z2⟩:=Is b x;exact ⟨s2,o2,gs2,t2,h2,M7 h.I x,Nr h.C x,uF h.I h.g x,by rw [z1];exact h.ns,by rw [z2];exact h.l,h.fr.trans f2 λ z q=>.inr (q.elim (h.r.iw.lo z) (h.r.gh.lo z))⟩
end
theorem Aj {H H':AHeap} {l c s w:Int} {n:Nat} {v:AV} (h:tC H l c s w n v H'):¬ (gN l c s w/\n<=300)/\v=.tuple [.nilp,.nilp,.bool false]\/(gN l c s w/\n<=300) /\ ∃ B G bs own gs tg,v=.tuple [.ptr B 0,.ptr G 0,.bool true]/\nq H H' B G l c 0 bs own gs tg (cT l c s w) (jB l) λ _=>.zero:=by
 obtain ⟨f,h|⟨hok,B,bs,own,G,gs,tg,hv,hr⟩⟩:=h
 ·exact .inl h
 obtain ⟨⟨⟨l0,l1⟩,c0,c1⟩,hs⟩:=id hok.1;have l0':(2:Int)<=l:=l0;have c0':0<=c:=by omega
 refine .inr ⟨hok,B,G,bs,own,gs,tg,hv,hr,vY hok.1,sk,Au hok.1,?_,?_,f⟩
 ·show ((iY l s w c.toNat).length:Int)=c;rw [Jc];omega
 ·show ((List.replicate l.toNat ew).length:Int)=l;rw [xx];omega
end Go.Am
