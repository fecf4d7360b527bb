/- BuKb: GhX GhF BoC. -/
import Derived.Test.YtiibohocdbaekaaGreatAmCBuKa
import Derived.Test.YtiibohocdbaekaaGreatAmCCodeK
set_option linter.unusedVariables false
set_option linter.unusedSimpArgs false
set_option linter.unusedSectionVars false
set_option maxRecDepth 100000
open Nat (reduceEqDiff)
namespace Go.Am
open Go.Proofs Ca
open Lang (ints)
variable {M:aA} [MK M]
theorem MG (e:Nat) (zero:List AV):Op.buildSlice e 0 zero [] []=some (.row [] e (0,0) true,Op.sliceTo 0 0):=rfl
theorem I3 (H:AHeap):Op.eq .slice false [.nils,.nils] H=some (.bool true):=rfl
theorem EZ {H:AHeap} {size:Nat} {v:AV} {n:Nat} {cells:List AV} (h:Sl H size v n cells) (hv:v ≠ .nils) (H':AHeap):Op.eq .slice false [v,.nils] H'=some (.bool false):=by
 obtain ⟨_,h⟩:=h;cases v<;>first|exact (hv rfl).elim|rfl|exact h.elim
section
variable {H0 H:AHeap} {B:Nat} {s:Bs} {b:Bu} {own:Nat->Nat}
theorem qz6 {H:AHeap} {a:AV} {ms:List Mg} (ha:du ai 11 H a ms) (hl:ms.length<=900000):zq M Qm [a] H λ v H'=>qH ai qt 11 H H' v ms:=by
 refine qj6 ?_;obtain ⟨w0,w2,w10⟩:=qj7 M ⟨none,Qm⟩
 by_cases hn:a=.nils
 ·subst hn;have:ms=[]:=by obtain ⟨_,h⟩:=ha;exact jm.1 h
  subst this;simp only [↓qd,qp,aa,reduceIte,reduceEqDiff,w0,w2,I3];exact qH.nil H
 ·simp only [↓qd,qp,aa,reduceIte,reduceEqDiff,w0,w2,EZ ha hn,w10,MG];have hf1:Fr Em H (H.alloc (.row [] qt (0,0) true)):=(Fr.refl H).alloc _;refine q1h (e:=qt) (bytes:=88) (n:=0) (cells:=[]) ⟨rfl,.inl ⟨rfl,.inr ⟨H.next,rfl,by rw [xd];omega⟩⟩⟩ (ha.em hf1) (q1o ms) (by omega) (by omega) (by omega) λ v' H2 hv' hf hfr=>?_;simp only [↓qd,qp,aa,reduceIte,reduceEqDiff];rw [jy,zn] at hv';exact ⟨hv',hf1.trans hf λ x hx=>.inr (by rw [hx.2];exact qf _),λ b hb=>(hfr b hb).elim (λ q=>by rw [q.2];exact qf _) λ q=>xj hf1.next q⟩
theorem qzt (h:dg H0 H B s b own) (hb:BB b):zq M PM [.ptr B 0] H λ v H'=>qH ai qt 11 H H' v b.fl:=by
 refine qpn ?_;obtain ⟨w0,w2,w10⟩:=qpo M ⟨none,PM⟩;simp only [↓qd,qp,aa,reduceIte,reduceEqDiff,w0,w2,kv,w10,qi,h.l2];exact C3.q (qz6 (M:=M) (h.fl.sl xq) hb.fl) λ v H1 hv=>by simp only [↓qd,qp,aa,reduceIte,reduceEqDiff];exact hv
end
end Go.Am
namespace Go.Am
open Go.Proofs Ca
open Lang (ints)
variable {M:aA} [MK M]
theorem dg.base {H0 H1 H:AHeap} {B:Nat} {s:Bs} {b:Bu} {own:Nat->Nat} (h:dg H1 H B s b own) (f:Fr Em H0 H1):dg H0 H B s b own :=
 ⟨h.row,h.lt,h.d,h.dx,h.nv,λ c n A hn hA=>(h.no c n A hn hA).base f,h.al,h.fl,h.oB,h.oD,h.oN,h.oF,h.oC,λ z hz=>xj f.next (h.lo z hz)⟩
def kV (l:Int):Gh:=⟨List.replicate (8*l.toNat) 0,λ _=>[],λ _=>false⟩
theorem vW (l c s w:Int) (k:Nat):(dJ l c s w).lv k=false:=by
 unfold Bu.lv;cases hn:(dJ l c s w).ns[k]? with
 | none=>rfl
 | some n=>obtain ⟨-,rfl⟩:=Fh hn;rfl
theorem BH {l c s w:Int} (h:kD l c s w):GI (dJ l c s w) (kV l) 0:=by
 refine ⟨?_,λ c p hp=>(nomatch hp),λ c=>qf _,λ k=>(vW l c s w k).symm,λ c _=>rfl⟩;show (((List.replicate (8*l.toNat) (0:Int)).length:Nat):Int)=8*((List.replicate l.toNat fA).length:Nat);rw [zb,zb];omega
def xC (H:AHeap) (l c s w:Int) (n:Nat) (v:AV) (H':AHeap):Prop :=
 Fr Em H H'/\(¬ (kD l c s w/\n<=300)/\v=.tuple [.nilp,.nilp,.bool false]\/(kD l c s w/\n<=300) /\ ∃ B bs own G gs tg,v=.tuple [.ptr B 0,.ptr G 0,.bool true]/\kS H H' B bs (dJ l c s w) own G gs (kV l) tg)
theorem q26 {H:AHeap} (l c s w:Int) {lv:AV} {xs:List Bt} (hl:du cV 5 H lv xs):zq M Pe [.agg (bo l c s w),lv] H (xC H l c s w xs.length):=by
 refine qwg ?_;obtain ⟨w0,w4,w12⟩:=qwh M ⟨none,Pe⟩;obtain ⟨H1,e1⟩:∃ X,X=H.alloc (OR (bo l c s w) yf):=⟨_,rfl⟩
 have f1:Fr Em H H1:=by rw [e1];exact (Fr.refl H).alloc _
 have n1:H1.next=H.next+1:=by rw [e1,xd]
 have g1:H1.get H.next=some (OR (bo l c s w) yf):=by rw [e1,qw]
 have ld:=fU (e:=yf) g1 (show (bo l c s w).length=4 from rfl);have hln:=hl.len;simp only [↓qd,qp,aa,reduceIte,reduceEqDiff,w0,xk,<-e1,ld];refine C3.q (qz3 (M:=M) l c s w) λ v H2 hv=>?_;rcases hv with ⟨ho,rfl,f2⟩|⟨ho,B,bs,own,rfl,hB,f2⟩
 ·have t2:¬ (2:Int)=0:=by decide
  simp only [↓qd,qp,aa,reduceIte,reduceEqDiff,qn,w4,t2];exact ⟨f1.trans f2 λ _ q=>q.elim,.inl ⟨λ q=>ho q.1,rfl⟩⟩
 have t0:=xc (show (0:Int)=0 from rfl)
 by_cases q:(300:Int)<(xs.length:Nat)
 ·simp only [↓qd,qp,aa,reduceIte,reduceEqDiff,qn,w4,t0,hln,q];exact ⟨f1.trans f2 λ _ q=>q.elim,.inl ⟨λ q2=>by omega,rfl⟩⟩
 obtain ⟨⟨⟨l0,l1⟩,c0,c1⟩,hs⟩:=id ho;have l64:l<=64:=l1;have l2:0<=l:=by have:(2:Int)<=l:=l0;omega
 have lo:Op.ae [.ptr H.next 0] H2=some (.int .i64 l):=xp (qz (show H2.get H.next=_ by rw [f2.ah _ (by omega) id];exact g1)) 0;have wm:ak .i64 (8*l)=((8*l.toNat:Nat):Int):=by rw [xm (by omega) (by omega)];omega
 have mk:=Ls KH 8 [.int .u64 0] (8*l.toNat) .i64 .i64 (by omega) (by omega);rw [show dG (8*l.toNat) [AV.int .u64 0]=(List.replicate (8*l.toNat) (0:Int)).flatMap nD from (KC nD 0 _).symm] at mk;obtain ⟨H3,e3⟩:∃ X,X=H2.alloc (OR ((List.replicate (8*l.toNat) (0:Int)).flatMap nD) KH):=⟨_,rfl⟩
 have f3:Fr Em H2 H3:=by rw [e3];exact (Fr.refl H2).alloc _
 have n3:H3.next=H2.next+1:=by rw [e3,xd]
 obtain ⟨sv,hsv⟩:∃ sv:AV,sv=.slice H2.next 0 (8*l.toNat) (8*l.toNat):=⟨_,rfl⟩
 have hst:Op.sliceTo (8*l.toNat) (8*l.toNat) H2.next=sv:=by rw [hsv];rfl
 have hsb:aF sv=H2.next:=by rw [hsv];rfl
 have bd:Op.build [.nils,.nils,.nils,.nils,.nils,.bool false,.bool false,.bool false,.bool false] [(0,1)] [sv]=some (.agg (gC ⟨sv,λ _=>.nils⟩ (kV l))):=by rw [hsv];rfl
 obtain ⟨H4,e4⟩:∃ X,X=H3.alloc (OR (gC ⟨sv,λ _=>.nils⟩ (kV l)) vz):=⟨_,rfl⟩
 have f4:Fr Em H3 H4:=by rw [e4];exact (Fr.refl H3).alloc _
 have n4:H4.next=H3.next+1:=by rw [e4,xd]
 have g4:H4.get H3.next=some (OR (gC ⟨sv,λ _=>.nils⟩ (kV l)) vz):=by rw [e4,qw]
 have F:Fr Em H H4:=((f1.trans f2 λ _ q=>q.elim).trans f3 λ _ q=>q.elim).trans f4 λ _ q=>q.elim;have m2:=f2.next
 simp only [↓qd,qp,aa,reduceIte,reduceEqDiff,qn,w4,t0,hln,q,w12,lo,wm,mk,hst,<-e3,bd,xk,<-e4];have hr:dR nD KH 1 H4 sv (kV l).w:=by
  refine ⟨H2.next,?_,by omega,?_⟩
  ·rw [hsv];show _=AV.slice _ 0 (List.replicate _ _).length (List.replicate _ _).length;rw [zb]
  ·rw [f4.ah _ (by omega) id,e3,qw];rfl
 have hg:iG H H4 H3.next ⟨sv,λ _=>.nils⟩ (kV l) (λ z=>if z=H3.next then 4 else 5):=by
  refine ⟨g4,by omega,hr,λ c _=>Own.nil ..,ql rfl,qg (by rw [hsb];omega),λ c _ z hz=>absurd rfl hz.1,λ z hz=>?_⟩;rcases hz with rfl|rfl|⟨c,-,hz⟩
  ·omega
  ·show H.next<=aF sv;rw [hsb];omega
  ·exact absurd rfl hz.1
 have hB4:dg H H4 B bs (dJ l c s w) own:=((hB.base f1).em f3).em f4;refine ⟨F,.inr ⟨⟨ho,by omega⟩,B,bs,own,H3.next,_,_,rfl,hB4,hg,λ z hz w=>?_⟩⟩;have lz:=hB.low hz;rcases w with rfl|rfl|⟨c,-,w⟩
 ·omega
 ·have lz:aF sv<H2.next:=lz
  omega
 ·exact absurd rfl w.1
end Go.Am
namespace Go.Am
open Go.Proofs Ca
open Lang (ints)
variable {M:aA} [MK M]
structure pK (Hb H:AHeap) (B G:Nat) (l c:Int) (i:Nat) (bs:Bs) (own:Nat->Nat) (gs:Gs) (tg:Nat->Nat) (b:Bu) (g:Gh) (V:Int->L8):Prop where
 r:kS Hb H B bs b own G gs g tg
 I:BuI b V
 C:BC b i
 g:GI b g i
 ns:(b.ns.length:Int)=c
 l:(b.l.length:Int)=l
 fr:Fr Em Hb H
theorem Gf (x:Bt):(cV x).length=5:=rfl
section
variable {Hb H:AHeap} {B G:Nat} {l c:Int} {i:Nat} {bs:Bs} {own tg:Nat->Nat} {gs:Gs} {b:Bu} {g:Gh} {V:Int->L8}
theorem pK.em {H':AHeap} (h:pK Hb H B G l c i bs own gs tg b g V) (f:Fr Em H H'):pK Hb H' B G l c i bs own gs tg b g V:=⟨h.r.em f,h.I,h.C,h.g,h.ns,h.l,h.fr.trans f λ _ q=>q.elim⟩
theorem pK.bb (h:pK Hb H B G l c i bs own gs tg b g V) (hi:i<=1000):BB b:=h.C.bb h.I (by omega)
theorem pK.step (h:pK Hb H B G l c i bs own gs tg b g V) (hi:i<=1000) (x:Bt):zq M zw [.ptr G 0,.ptr B 0,.agg (cV x)] H λ v H'=>v=.bool (g.bT b x).2 /\ ∃ bs' c7 gs' tg',pK Hb H' B G l c (i+1) bs' c7 gs' tg' (b.step x) (g.oU b x) (if x.k=7 then V else ry b V x):=by
 refine (qy1 (M:=M) h.r h.I h.C h.g hi x).mono λ v H' ⟨hv,hp⟩=>⟨hv,?_⟩
 obtain ⟨s2,o2,gs2,t2,h2,sub2,f2⟩:=hp;obtain ⟨z1,z2⟩:=Kb b x;exact ⟨s2,o2,gs2,t2,h2,LV h.I x,Nm h.C x,zP h.I h.g x,by rw [z1];exact h.ns,by rw [z2];exact h.l,h.fr.trans f2 λ z q=>.inr (q.elim (h.r.jL.lo z) (h.r.gh.lo z))⟩
end
theorem Au {H H':AHeap} {l c s w:Int} {n:Nat} {v:AV} (h:xC H l c s w n v H'):¬ (kD l c s w/\n<=300)/\v=.tuple [.nilp,.nilp,.bool false]\/(kD l c s w/\n<=300) /\ ∃ B G bs own gs tg,v=.tuple [.ptr B 0,.ptr G 0,.bool true]/\pK H H' B G l c 0 bs own gs tg (dJ l c s w) (kV l) λ _=>.zero:=by
 obtain ⟨f,h|⟨hok,B,bs,own,G,gs,tg,hv,hr⟩⟩:=h
 ·exact .inl h
 obtain ⟨⟨⟨l0,l1⟩,c0,c1⟩,hs⟩:=id hok.1;have l0':(2:Int)<=l:=l0;have c0':0<=c:=by omega
 refine .inr ⟨hok,B,G,bs,own,gs,tg,hv,hr,uA hok.1,wS,BH hok.1,?_,?_,f⟩
 ·show ((lE l s w c.toNat).length:Int)=c;rw [KP];omega
 ·show ((List.replicate l.toNat fA).length:Int)=l;rw [zb];omega
end Go.Am
