/- BuKb: GhX GhF BoC. -/
import Derived.Test.YtiibohocdbaekaaAmRBuKa
import Derived.Test.YtiibohocdbaekaaAmRCodeK
set_option linter.unusedVariables false
set_option linter.unusedSimpArgs false
set_option linter.unusedSectionVars false
set_option maxRecDepth 100000
open Nat (reduceEqDiff)
namespace Go.Am
open Go.Proofs Ca
open Lang (ints)
variable {M:aO} [MK M]
theorem L9 (e:Nat) (zero:List AV):Op.buildSlice e 0 zero [] []=some (.row [] e (0,0) true,Op.sliceTo 0 0):=rfl
theorem Hi (H:AHeap):Op.eq .slice false [.nils,.nils] H=some (.bool true):=rfl
theorem Cu {H:AHeap} {size:Nat} {v:AV} {n:Nat} {cells:List AV} (h:Sl H size v n cells) (hv:v ≠ .nils) (H':AHeap):Op.eq .slice false [v,.nils] H'=some (.bool false):=by
 obtain ⟨_,h⟩:=h;cases v<;>first|exact (hv rfl).elim|rfl|exact h.elim
section
variable {H0 H:AHeap} {B:Nat} {s:Bs} {b:Bu} {own:Nat->Nat}
theorem q3d {H:AHeap} {a:AV} {ms:List Mg} (ha:ep ai 11 H a ms) (hl:ms.length<=900000):jv M vf [a] H λ v H'=>o9 ai qk 11 H H' v ms:=by
 refine qme ?_;obtain ⟨w0,w2,w10⟩:=qmf M ⟨none,vf⟩
 by_cases hn:a=.nils
 ·subst hn;have:ms=[]:=by obtain ⟨_,h⟩:=ha;exact yc.1 h
  subst this;simp only [↓qh,xa,reduceIte,reduceEqDiff,w0,w2,Hi];exact o9.nil H
 ·simp only [↓qh,xa,reduceIte,reduceEqDiff,w0,w2,Cu ha hn,w10,L9];have hf1:Fr Em H (H.alloc (.row [] qk (0,0) true)):=(Fr.refl H).alloc _;refine q4m (e:=qk) (bytes:=88) (n:=0) (cells:=[]) ⟨rfl,.inl ⟨rfl,.inr ⟨H.next,rfl,by rw [xn];omega⟩⟩⟩ (ha.em hf1) (q4w ms) (by omega) (by omega) (by omega) λ v' H2 hv' hf hfr=>?_;simp only [↓qh,xa,reduceIte,reduceEqDiff];rw [yf,zt] at hv';exact ⟨hv',hf1.trans hf λ x hx=>.inr (by rw [hx.2];exact qg _),λ b hb=>(hfr b hb).elim (λ q=>by rw [q.2];exact qg _) λ q=>xt hf1.next q⟩
theorem qud (h:c6 H0 H B s b own) (hb:BB b):jv M Bx [.ptr B 0] H λ v H'=>o9 ai qk 11 H H' v b.fl:=by
 refine qs0 ?_;obtain ⟨w0,w2,w10⟩:=qs1 M ⟨none,Bx⟩;simp only [↓qh,xa,reduceIte,reduceEqDiff,w0,w2,yk,w10,qf,h.l2];exact C3.q (q3d (M:=M) (h.fl.sl xu) hb.fl) λ v H1 hv=>by simp only [↓qh,xa,reduceIte,reduceEqDiff];exact hv
theorem c6.xs (h:c6 H0 H B s b own) {i:Nat} {x:De} (hx:b.l[i]? = some x):∃ a,s.xs[i]? = some (x,a):=by
 rw [<-h.dx,xm,xf] at hx;obtain ⟨⟨y,a⟩,h1,h2⟩:=hx;exact ⟨a,by rw [h1];exact congrArg some (Prod.ext h2 rfl)⟩
end
end Go.Am
namespace Go.Am
open Go.Proofs Ca
open Lang (ints)
variable {M:aO} [MK M]
theorem c6.base {H0 H1 H:AHeap} {B:Nat} {s:Bs} {b:Bu} {own:Nat->Nat} (h:c6 H1 H B s b own) (f:Fr Em H0 H1):c6 H0 H B s b own :=
 ⟨h.row,h.lt,h.d,h.dx,h.nv,λ c n A hn hA=>(h.no c n A hn hA).base f,h.al,h.fl,h.oB,h.oD,h.oN,h.oF,h.oC,λ z hz=>xt f.next (h.lo z hz)⟩
def jC (l:Int):Gh:=⟨List.replicate (8*l.toNat) 0,λ _=>[],λ _=>false⟩
theorem th (l c s w:Int) (k:Nat):(cw l c s w).lv k=false:=by
 unfold Bu.lv;cases hn:(cw l c s w).ns[k]? with
 | none=>rfl
 | some n=>obtain ⟨-,rfl⟩:=EK hn;rfl
theorem zM {l c s w:Int} (h:ib l c s w):GI (cw l c s w) (jC l) 0:=by
 refine ⟨?_,λ c p hp=>(nomatch hp),λ c=>qg _,λ k=>(th l c s w k).symm,λ c _=>rfl⟩;show (((List.replicate (8*l.toNat) (0:Int)).length:Nat):Int)=8*((List.replicate l.toNat eC).length:Nat);rw [za,za];omega
def uE (H:AHeap) (l c s w:Int) (n:Nat) (v:AV) (H':AHeap):Prop :=
 Fr Em H H'/\(¬ (ib l c s w/\n<=300)/\v=.tuple [.nilp,.nilp,.bool false]\/(ib l c s w/\n<=300) /\ ∃ B bs own G gs tg,v=.tuple [.ptr B 0,.ptr G 0,.bool true]/\i5 H H' B bs (cw l c s w) own G gs (jC l) tg)
theorem q59 {H:AHeap} (l c s w:Int) {lv:AV} {xs:List Bt} (hl:ep fH 5 H lv xs):jv M DT [.agg (cA l c s w),lv] H (uE H l c s w xs.length):=by
 refine qzt ?_;obtain ⟨w0,w4,w12⟩:=qzu M ⟨none,DT⟩;obtain ⟨H1,e1⟩:∃ X,X=H.alloc (OR (cA l c s w) vh):=⟨_,rfl⟩
 have f1:Fr Em H H1:=by rw [e1];exact (Fr.refl H).alloc _
 have n1:H1.next=H.next+1:=by rw [e1,xn]
 have g1:H1.get H.next=some (OR (cA l c s w) vh):=by rw [e1,qx]
 have ld:=fQ (e:=vh) g1 (show (cA l c s w).length=4 from rfl);have hln:=hl.len;simp only [↓qh,xa,reduceIte,reduceEqDiff,w0,xw,<-e1,ld];refine C3.q (q3a (M:=M) l c s w) λ v H2 hv=>?_;rcases hv with ⟨ho,rfl,f2⟩|⟨ho,B,bs,own,rfl,hB,f2⟩
 ·have t2:¬ (2:Int)=0:=by decide
  simp only [↓qh,xa,reduceIte,reduceEqDiff,qp,w4,t2];exact ⟨f1.trans f2 λ _ q=>q.elim,.inl ⟨λ q=>ho q.1,rfl⟩⟩
 have t0:=xj (show (0:Int)=0 from rfl)
 by_cases q:(300:Int)<(xs.length:Nat)
 ·simp only [↓qh,xa,reduceIte,reduceEqDiff,qp,w4,t0,hln,q];exact ⟨f1.trans f2 λ _ q=>q.elim,.inl ⟨λ q2=>by omega,rfl⟩⟩
 obtain ⟨⟨⟨l0,l1⟩,c0,c1⟩,hs⟩:=id ho;have l64:l<=64:=l1;have l2:0<=l:=by have:(2:Int)<=l:=l0;omega
 have lo:Op.aa [.ptr H.next 0] H2=some (.int .i64 l):=zf (xb (show H2.get H.next=_ by rw [f2.ae _ (by omega) id];exact g1)) 0;have wm:aZ .i64 (8*l)=((8*l.toNat:Nat):Int):=by rw [wx (by omega) (by omega)];omega
 have mk:=J4 HH 8 [.int .u64 0] (8*l.toNat) .i64 .i64 (by omega) (by omega);rw [show dq (8*l.toNat) [AV.int .u64 0]=(List.replicate (8*l.toNat) (0:Int)).flatMap mq from (Jn mq 0 _).symm] at mk;obtain ⟨H3,e3⟩:∃ X,X=H2.alloc (OR ((List.replicate (8*l.toNat) (0:Int)).flatMap mq) HH):=⟨_,rfl⟩
 have f3:Fr Em H2 H3:=by rw [e3];exact (Fr.refl H2).alloc _
 have n3:H3.next=H2.next+1:=by rw [e3,xn]
 obtain ⟨sv,hsv⟩:∃ sv:AV,sv=.slice H2.next 0 (8*l.toNat) (8*l.toNat):=⟨_,rfl⟩
 have hst:Op.sliceTo (8*l.toNat) (8*l.toNat) H2.next=sv:=by rw [hsv];rfl
 have hsb:aM sv=H2.next:=by rw [hsv];rfl
 have bd:Op.build [.nils,.nils,.nils,.nils,.nils,.bool false,.bool false,.bool false,.bool false] [(0,1)] [sv]=some (.agg (gC ⟨sv,λ _=>.nils⟩ (jC l))):=by rw [hsv];rfl
 obtain ⟨H4,e4⟩:∃ X,X=H3.alloc (OR (gC ⟨sv,λ _=>.nils⟩ (jC l)) A0):=⟨_,rfl⟩
 have f4:Fr Em H3 H4:=by rw [e4];exact (Fr.refl H3).alloc _
 have n4:H4.next=H3.next+1:=by rw [e4,xn]
 have g4:H4.get H3.next=some (OR (gC ⟨sv,λ _=>.nils⟩ (jC l)) A0):=by rw [e4,qx]
 have F:Fr Em H H4:=((f1.trans f2 λ _ q=>q.elim).trans f3 λ _ q=>q.elim).trans f4 λ _ q=>q.elim;have m2:=f2.next
 simp only [↓qh,xa,reduceIte,reduceEqDiff,qp,w4,t0,hln,q,w12,lo,wm,mk,hst,<-e3,bd,xw,<-e4];have hr:dA mq HH 1 H4 sv (jC l).w:=by
  refine ⟨H2.next,?_,by omega,?_⟩
  ·rw [hsv];show _=AV.slice _ 0 (List.replicate _ _).length (List.replicate _ _).length;rw [za]
  ·rw [f4.ae _ (by omega) id,e3,qx];rfl
 have hg:gQ H H4 H3.next ⟨sv,λ _=>.nils⟩ (jC l) (λ z=>if z=H3.next then 4 else 5):=by
  refine ⟨g4,by omega,hr,λ c _=>Own.nil ..,qm rfl,qd (by rw [hsb];omega),λ c _ z hz=>absurd rfl hz.1,λ z hz=>?_⟩;rcases hz with rfl|rfl|⟨c,-,hz⟩
  ·omega
  ·show H.next<=aM sv;rw [hsb];omega
  ·exact absurd rfl hz.1
 have hB4:c6 H H4 B bs (cw l c s w) own:=((hB.base f1).em f3).em f4;refine ⟨F,.inr ⟨⟨ho,by omega⟩,B,bs,own,H3.next,_,_,rfl,hB4,hg,λ z hz w=>?_⟩⟩;have lz:=hB.low hz;rcases w with rfl|rfl|⟨c,-,w⟩
 ·omega
 ·have lz:aM sv<H2.next:=lz
  omega
 ·exact absurd rfl w.1
end Go.Am
namespace Go.Am
open Go.Proofs Ca
open Lang (ints)
variable {M:aO} [MK M]
structure vZ (Hb H:AHeap) (B G:Nat) (l c:Int) (i:Nat) (bs:Bs) (own:Nat->Nat) (gs:Gs) (tg:Nat->Nat) (b:Bu) (g:Gh) (V:Int->L8):Prop where
 r:i5 Hb H B bs b own G gs g tg
 I:BuI b V
 C:BC b i
 g:GI b g i
 ns:(b.ns.length:Int)=c
 l:(b.l.length:Int)=l
 fr:Fr Em Hb H
theorem q8q (x:Bt):(fH x).length=5:=rfl
section
variable {Hb H:AHeap} {B G:Nat} {l c:Int} {i:Nat} {bs:Bs} {own tg:Nat->Nat} {gs:Gs} {b:Bu} {g:Gh} {V:Int->L8}
theorem vZ.em {H':AHeap} (h:vZ Hb H B G l c i bs own gs tg b g V) (f:Fr Em H H'):vZ Hb H' B G l c i bs own gs tg b g V:=⟨h.r.em f,h.I,h.C,h.g,h.ns,h.l,h.fr.trans f λ _ q=>q.elim⟩
theorem vZ.bb (h:vZ Hb H B G l c i bs own gs tg b g V) (hi:i<=1000):BB b:=h.C.bb h.I (by omega)
theorem vZ.step (h:vZ Hb H B G l c i bs own gs tg b g V) (hi:i<=1000) (x:Bt):jv M zx [.ptr G 0,.ptr B 0,.agg (fH x)] H λ v H'=>v=.bool (g.fq b x).2 /\ ∃ bs' eR gs' tg',vZ Hb H' B G l c (i+1) bs' eR gs' tg' (b.step x) (g.oM b x) (if x.k=7 then V else sG b V x):=by
 refine (q9s (M:=M) h.r h.I h.C h.g hi x).mono λ v H' ⟨hv,hp⟩=>⟨hv,?_⟩
 obtain ⟨s2,o2,gs2,t2,h2,sub2,f2⟩:=hp;obtain ⟨z1,z2⟩:=N1 b x;exact ⟨s2,o2,gs2,t2,h2,tD h.I x,uh h.C x,Cp h.I h.g x,by rw [z1];exact h.ns,by rw [z2];exact h.l,h.fr.trans f2 λ z q=>.inr (q.elim (h.r.jT.lo z) (h.r.gh.lo z))⟩
end
theorem Ak {H H':AHeap} {l c s w:Int} {n:Nat} {v:AV} (h:uE H l c s w n v H'):¬ (ib l c s w/\n<=300)/\v=.tuple [.nilp,.nilp,.bool false]\/(ib l c s w/\n<=300) /\ ∃ B G bs own gs tg,v=.tuple [.ptr B 0,.ptr G 0,.bool true]/\vZ H H' B G l c 0 bs own gs tg (cw l c s w) (jC l) λ _=>.zero:=by
 obtain ⟨f,h|⟨hok,B,bs,own,G,gs,tg,hv,hr⟩⟩:=h
 ·exact .inl h
 obtain ⟨⟨⟨l0,l1⟩,c0,c1⟩,hs⟩:=id hok.1;have l0':(2:Int)<=l:=l0;have c0':0<=c:=by omega
 refine .inr ⟨hok,B,G,bs,own,gs,tg,hv,hr,q4o hok.1,rF,zM hok.1,?_,?_,f⟩
 ·show ((jJ l s w c.toNat).length:Int)=c;rw [I9];omega
 ·show ((List.replicate l.toNat eC).length:Int)=l;rw [za];omega
end Go.Am
