/- LqM1: LpA LpB LpC LpD LpE. -/
import Derived.Test.YtbimikjajohflaaGreatDoorAmMCodeM
import Derived.Test.YtbimikjajohflaaGreatDoorAmMLqM0
set_option linter.unusedVariables false
set_option linter.unusedSimpArgs false
set_option linter.unusedSectionVars false
set_option maxRecDepth 100000
open Nat (reduceEqDiff)
namespace Go.Am
open Lang Go.Proofs
variable {M:aO} [MK M]
theorem xam (k:Int) {H:AHeap}:ye M Gu [.int .i64 k] H λ v H'=>v=.int .i64 (cls k)/\H'=H:=by
 refine q47 ?_;unfold cls
 by_cases h1:1<=k
 ·by_cases h2:k<=10
  ·rw [qk ⟨h1,h2⟩];simp only [↓qh,qq,reduceIte,reduceEqDiff,Ho,h1,h2]
  rw [qc (λ q=>h2 q.2)];have h3:11<=k:=by omega
  by_cases h4:k<=13
  ·rw [qk ⟨h3,h4⟩];simp only [↓qh,qq,reduceIte,reduceEqDiff,Ho,h1,h2,h3,h4]
  rw [qc (λ q=>h4 q.2)];have h5:14<=k:=by omega
  by_cases h6:k<=19
  ·rw [qk ⟨h5,h6⟩];simp only [↓qh,qq,reduceIte,reduceEqDiff,Ho,h1,h2,h3,h4,h5,h6]
  rw [qc (λ q=>h6 q.2)]
  by_cases h7:k=20
  ·rw [qk h7];simp only [↓qh,qq,reduceIte,reduceEqDiff,Ho,h1,h2,h3,h4,h5,h6,j0 h7]
  ·rw [qc h7];simp only [↓qh,qq,reduceIte,reduceEqDiff,Ho,h1,h2,h3,h4,h5,h6,h7]
 ·have h3:¬ 11<=k:=by omega
  have h5:¬ 14<=k:=by omega
  have h7:¬ k=20:=by omega
  rw [qc (λ q=>h1 q.1),qc (λ q=>h3 q.1),qc (λ q=>h5 q.1),qc h7];simp only [↓qh,qq,reduceIte,reduceEqDiff,Ho,h1,h3,h5,h7]
end Go.Am
namespace Go.Am
open Lang Go.Proofs
variable {M:aO} [MK M]
theorem uX (n:Nat) (h:n<18446744073709551616):(BitVec.ofInt 64 (n:Int) &&& BitVec.ofInt 64 4294967295).toNat=n % 4294967296:=by
 have e1:BitVec.ofInt 64 (n:Int)=BitVec.ofNat 64 n:=by simp
 have e2:BitVec.ofInt 64 4294967295=BitVec.ofNat 64 4294967295:=rfl;rw [e1,e2,BitVec.toNat_and,BitVec.toNat_ofNat,BitVec.toNat_ofNat,Gm h];exact Nat.and_two_pow_sub_one_eq_mod n 32
theorem OX (n:Nat) (h:n<18446744073709551616):Op.bin .and [.int .u64 (n:Int),.int .u64 4294967295]=some (.int .u64 ((n % 4294967296:Nat):Int)):=by
 have e:Op.bin .and [.int .u64 (n:Int),.int .u64 4294967295]=some (.int .u64 (ae .u64 ((BitVec.ofInt 64 (n:Int) &&& BitVec.ofInt 64 4294967295).toNat:Int))):=rfl;rw [e,uX n h,ww (by omega) (by omega)]
theorem Jl (n:Nat) (h:n<18446744073709551616):Op.bin .shr [.int .u64 (n:Int),.int .u64 32]=some (.int .u64 ((n / 4294967296:Nat):Int)):=by
 have:=pO .u64 .u64 (n:Int) 32;rw [show ((32:Nat):Int)=32 from rfl] at this;rw [this];have e:min 32 (IntKind.bits .u64)=32:=by decide
 rw [e];congr 2;rw [K3 _ (by decide)];rfl
theorem q95 {x y:Nat} (hx:x=1\/x=2) (hy:y<140737488355329) {H:AHeap}:ye M F8 [.int .u64 (x:Int),.int .u64 (y:Int)] H λ v H'=>v=.tuple [.int .u64 0,.int .u64 ((x*y:Nat):Int)]/\H'=H:=by
 refine qv5 ?_;have hx4:x<4294967296:=by omega
 have a1:=OX x (by omega);have a2:=Jl x (by omega);have a3:=OX y (by omega);have a4:=Jl y (by omega);rw [Gm hx4] at a1;rw [Nat.div_eq_of_lt hx4] at a2;obtain ⟨y0,e0⟩:∃ z,z=y % 4294967296:=⟨_,rfl⟩
 obtain ⟨y1,e1⟩:∃ z,z=y / 4294967296:=⟨_,rfl⟩
 rw [<-e0] at a3;rw [<-e1] at a4;have hxy0:x*y0<8589934592:=by rcases hx with rfl|rfl<;>omega
 have hxy1:x*y1<65538:=by rcases hx with rfl|rfl<;>omega
 have hxy:x*y<18446744073709551616:=by rcases hx with rfl|rfl<;>omega
 have w1:ae .u64 ((x:Int)*(y0:Int))=((x*y0:Nat):Int):=by rw [<-Int.natCast_mul];exact ww (by omega) (by omega)
 have w2:ae .u64 (((0:Nat):Int)*(y0:Int))=((0:Nat):Int):=by rw [show ((0:Nat):Int)*(y0:Int)=0 by simp];rfl
 have s1:=Jl (x*y0) (by omega);obtain ⟨t,et⟩:∃ z,z=x*y0 / 4294967296:=⟨_,rfl⟩
 rw [<-et] at s1;have ht:t<=1:=by omega
 have w3:ae .u64 (((0:Nat):Int)+(t:Int))=(t:Int):=by rw [ww (by omega) (by omega)];omega
 have a5:=OX t (by omega);have s2:=Jl t (by omega);rw [Gm (by omega)] at a5;rw [Nat.div_eq_of_lt (by omega)] at s2;have w4:ae .u64 ((x:Int)*(y1:Int))=((x*y1:Nat):Int):=by rw [<-Int.natCast_mul];exact ww (by omega) (by omega)
 have w5:ae .u64 ((t:Int)+((x*y1:Nat):Int))=((t+x*y1:Nat):Int):=by rw [ww (by omega) (by omega)];omega
 have s3:=Jl (t+x*y1) (by omega);rw [Nat.div_eq_of_lt (by omega)] at s3;have w6:ae .u64 (((0:Nat):Int)*(y1:Int))=((0:Nat):Int):=by rw [show ((0:Nat):Int)*(y1:Int)=0 by simp];rfl
 have w7:ae .u64 (((0:Nat):Int)+((0:Nat):Int))=((0:Nat):Int):=rfl;have w8:ae .u64 ((x:Int)*(y:Int))=((x*y:Nat):Int):=by rw [<-Int.natCast_mul];exact ww (by omega) (by omega)
 obtain ⟨z,hz⟩:∃ z:Int,z=((0:Nat):Int):=⟨_,rfl⟩
 rw [<-hz] at a2 w2 w3 s2 s3 w6 w7;simp only [↓qh,qq,reduceIte,reduceEqDiff,qv6,a1,a2,a3,a4,a5,w1,w2,s1,w3,s2,w4,w5,s3,w6,w7,w8];rw [hz];rfl
theorem q8l {x y:Nat} (hx:x=1\/x=2) (hy:y<140737488355329) {H:AHeap}:ye M Dr [.int .u64 (x:Int),.int .u64 (y:Int)] H λ v H'=>v=.tuple [.int .u64 0,.int .u64 ((x*y:Nat):Int)]/\H'=H:=by
 refine qy7 ?_;simp only [↓qh,qq,reduceIte,reduceEqDiff,qqg];refine C3.q (q95 (M:=M) hx hy) λ v H1 ⟨hv,hh⟩=>?_;subst hv;subst hh;simp only [↓qh,qq,reduceIte,reduceEqDiff,qqg,zo]
theorem xc9 {H:AHeap} {b n r:Nat} {x z:AV} {e:Nat} (hg:H.get b=some (OR (List.replicate n x++List.replicate r z) e)) (h0:0<n) (h1:0<r) (hx:aD x=true) :
 Op.copy 1 [.slice b n r r,.slice b 0 n (n+r)] H=some (.int .i64 ((min n r:Nat):Int),H.set b (OR (List.replicate (n+min n r) x++List.replicate (r-min n r) z) e)):=by
 obtain ⟨k,hk⟩:∃ k,k=min n r:=⟨_,rfl⟩
 have hk0:k ≠ 0:=by omega
 have f1:firstCells H 1 k (.slice b 0 n (n+r))=some (List.replicate k x):=by
  simp only [firstCells,oQ hk0,xa];rw [q87 (qy hg) (by simp;omega),xq,oK,Jh (by simp;omega),List.take_replicate,BO (by omega)]
 have ha:bh (List.replicate k x)=true:=by rw [mU];simp [hx]
 have e1:elemAt 1 (.slice b n r r) 0=some (b,n):=by
  simp only [elemAt,xP h1,ql];simp
 have hst:H.store b n (List.replicate k x)=some (H.set b (OR (List.replicate (n+k) x++List.replicate (r-k) z) e)):=by
  have ht:cC (0,0) n (bW (List.replicate k x))=true:=by simp [cC]
  simp only [AHeap.store,ha,ql,hg,ht,sd];rw [qk (by simp;omega),qd];congr 4
  ·rw [Jh (by simp),xo (by simp),List.replicate_append_replicate]
  ·rw [Cr,kc (by simp),zn,List.drop_replicate];congr 1;simp
 rw [<-hk];simp only [Op.copy,dE,qd];rw [show min n r=k from hk.symm,f1,qd,oQ hk0,xa,e1,qd,hst];show some (AV.int .i64 (min (n:Int) (r:Int)),_)=_;rw [show min (n:Int) (r:Int)=(k:Int) by omega]
theorem vL (n:Nat) (z:AV):lh n [z]=List.replicate n z:=by
 rw [zP];induction n with
 | zero=>rfl
 | succ n ih=>rw [wz,jl,ih];rfl
theorem xao {H:AHeap} {a:AV} {m:Nat} {e:Nat} {x z:AV} (ha:Sl H 1 a 1 [x]) (hx:aD x=true) :
 Op.copy 1 [Op.sliceTo m m H.next,a] (H.alloc (OR (List.replicate m z) e))=some (.int .i64 ((min 1 m:Nat):Int),H.alloc (OR (List.replicate (min 1 m) x++List.replicate (m-min 1 m) z) e)):=by
 have hfr:Fr Em H (H.alloc (OR (List.replicate m z) e)):=(Fr.refl H).alloc _;have ha1:=ha.em hfr;have lv:dE (.slice H.next 0 m m)=some m:=rfl;simp only [Op.copy,Op.sliceTo,lv,qd,ha.dE]
 by_cases h0:m=0
 ·subst h0;have f0:firstCells (H.alloc (OR (List.replicate 0 z) e)) 1 (min 1 0) a=some []:=by
   cases a<;>first|rfl|exact ha.2.elim
  rw [f0];rfl
 ·have hm:min 1 m=1:=by omega
  rw [hm,ha1.first,qd];have h10:Nat.beq 1 0=false:=rfl;have e1:elemAt 1 (.slice H.next 0 m m) 0=some (H.next,0):=by
   simp only [elemAt,xP (show 0<m by omega),ql]
  have hst:(H.alloc (OR (List.replicate m z) e)).store H.next 0 [x]=some (H.alloc (OR (List.replicate 1 x++List.replicate (m-1) z) e)):=by
   have ht:cC (0,0) 0 (bW [x])=true:=by simp [cC]
   have ho:bh [x]=true:=by rw [mU];simp [hx]
   simp only [AHeap.store,ho,ql,qp,ht,sd];rw [qk (by simp;omega),qd,q4d];congr 3;simp
  rw [h10,xa,e1,qd,hst];show some (AV.int .i64 (min ((1:Nat):Int) (m:Int)),_)=_;rw [show min ((1:Nat):Int) (m:Int)=((1:Nat):Int) by omega]
theorem xcr {H:AHeap} {a:AV} {m:Nat} (ha:cU eB 1 H a [3]) (hm:m*8<=140737488355328) :
 ye M Fb [a,.int .i64 (m:Int)] H λ v H'=>cU eB 1 H' v (List.replicate m 3)/\Fr Em H H' /\ ∀ b,bL v b->H.next<=b:=by
 refine qs0 ?_;obtain ⟨w0,w2,w8,w10,w16,w20,w31,w23,w29⟩:=qs1 M ⟨none,Fb⟩;have e0:¬ (m:Int)<0:=by omega
 have hl:Op.aS [a]=some (.int .i64 1):=ha.len;have wl:ae .u64 1=1:=rfl;have wm:ae .u64 (m:Int)=(m:Int):=ww (by omega) (by omega);simp only [↓qh,qq,reduceIte,reduceEqDiff,w0,w2,w8,e0,hl,wl,wm];refine C3.q (q8l (M:=M) (x:=1) (.inl rfl) (y:=m) (by omega)) λ v H1 ⟨hv,hh⟩=>?_;rw [Nat.one_mul] at hv;subst hv;subst hh;have e1:¬ (9223372036854775807:Int)<(m:Int):=by omega
 have wi:ae .i64 (m:Int)=(m:Int):=zk (by omega) (by omega);have ho:bh [AV.int .i64 3]=true:=rfl;have e2:¬ (0:Int)<0:=by decide
 have hmk:=O0 bu 8 [.int .i64 0] m .i64 .i64 (by omega) (by omega);rw [vL] at hmk;have hcp:=xao (m:=m) (e:=bu) (x:=.int .i64 3) (z:=.int .i64 0) ha rfl;simp only [↓qh,qq,reduceIte,reduceEqDiff,w10,w16,zo,e1,e2,wi,hmk,hcp,w20];have hn:(Op.sliceTo m m H1.next)=.slice H1.next 0 m m:=rfl
 refine bS.intro (λ k E' H'=>∃ n,E'=[(8,.int .i64 (n:Nat)),(7,.slice H1.next 0 m m)]/\k=m-n/\n<=m/\(m=0\/0<n)/\H'.get H1.next=some (OR (List.replicate n (.int .i64 3)++List.replicate (m-n) (.int .i64 0)) bu)/\Fr Em H1 H'/\H'.next=H1.next+1) ?_ ?_
 ·exact ⟨_,_,⟨min 1 m,rfl,rfl,by omega,by omega,qp ..,(Fr.refl _).alloc _,rfl⟩,by simp only [↓qh,qq,reduceIte,reduceEqDiff];rfl⟩
 rintro k E' H' ⟨n,rfl,rfl,hn,hz,hg,hf,hnx⟩;have lenS:Op.aS [.slice H1.next 0 m m]=some (.int .i64 (m:Nat)):=rfl;rcases kg n m with aT|hge
 ·have e3:(n:Int)<(m:Nat):=by omega
  have hb1:∀ d m,bound none d m=some d:=λ _ _=>rfl;have s1:Op.bc 1 [some 0,none,none] [.slice H1.next 0 m m,.int .i64 (n:Nat)]=some (.slice H1.next n (m-n) (m-n)):=by
   simp only [Op.bc,arg,gM,kq,qd,du,hb1,sg rfl hn,oQ (show m ≠ n by omega),xa];simp
  have hb0:∀ h,bound none 0 h=some 0:=λ h=>rfl;have s2:Op.bc 1 [none,some 0,none] [.slice H1.next 0 m m,.int .i64 (n:Nat)]=some (.slice H1.next 0 n (n+(m-n))):=by
   simp only [Op.bc,arg,gM,kq,qd,du,hb1,hb0,sg rfl hn];have:cond (Nat.beq m 0) 0 (0+0*1)=0:=by cases Nat.beq m 0<;>rfl
   rw [this];congr 2;omega
  have hcp:=xc9 hg (by omega) (show 0<m-n by omega) rfl;have w3:ae .i64 ((n:Int)+((min n (m-n):Nat):Int))=((n+min n (m-n):Nat):Int):=by rw [zk (by omega) (by omega)];omega
  simp only [↓qh,qq,reduceIte,reduceEqDiff,w23,w29,lenS,e3,s1,s2,hcp,w3];refine ⟨_,_,⟨n+min n (m-n),rfl,rfl,by omega,by omega,?_,hf.set (.inr (qf _)) _,hnx⟩,by simp only [↓qh,qq,reduceIte,reduceEqDiff],by omega⟩;rw [xd];congr 3
  ·congr 1;omega
 ·have hnm:n=m:=by omega
  subst hnm;have e3:¬ (n:Int)<(n:Nat):=by omega
  simp only [↓qh,qq,reduceIte,reduceEqDiff,w23,w31,lenS,e3];refine ⟨?_,hf,λ b q=>by rw [q.2];exact qf _⟩;have hg':H'.get H1.next=some (OR (List.replicate n (.int .i64 3)) bu):=by rw [hg];simp
  refine ⟨by rw [MY];simp,by simp,by simp,.inr ⟨by omega,_,qy hg',?_⟩⟩;rw [MY,mB,qk (by simp)];simp
end Go.Am
namespace Go.Am
open Lang Go.Proofs
variable {M:aO} [MK M]
def oZ (H:AHeap) (o:Option (List Int)) (v:AV) (H':AHeap):Prop:=Fr Em H H'/\match o with
 | none=>v=.tuple [.nils,.bool false]
 | some w=>∃ u,v=.tuple [u,.bool true]/\cU eB 1 H' u w /\ ∀ b,bL u b->H.next<=b
theorem oZ.gE {H H':AHeap} (f:Fr Em H H'):oZ H none (.tuple [.nils,.bool false]) H':=⟨f,rfl⟩
theorem Al {H:AHeap} {l:List Int} {c:List AV} {e n:Nat} (hc:c=l.map λ x=>AV.int .i64 x) (hn:n=l.length):cU eB 1 (H.alloc (OR c e)) (Op.sliceTo n n H.next) l:=by
 subst hc;subst hn;have:=ub H (l.map λ x=>AV.int .i64 x) e (0,0) true;rw [vo] at this;unfold cU;rw [MY];exact this
theorem xb1 {H:AHeap} {a:AV} {k n:Int} {kids:List Int} (ha:cU eB 1 H a kids) (hb:kids.length*8<=140737488355328) :
 ye M FU [.agg [.int .i64 k,.int .u64 n,a]] H (oZ H (Lang.shape k n kids.length)):=by
 refine q49 ?_;have hf1:Fr Em H (H.alloc (OR [.int .i64 k,.int .u64 n,a] xf)):=(Fr.refl H).alloc _;have ha1:=ha.em hf1
 by_cases k2:k=2
 ·subst k2
  by_cases h7:7<n
  ·rw [show Lang.shape 2 n kids.length=none by unfold Lang.shape;rw [qk (.inl ⟨.inl rfl,h7⟩)]];simp only [↓qh,qq,reduceIte,reduceEqDiff,yq,nD,Int.reduceEq,h7];exact .gE hf1
  ·rw [show Lang.shape 2 n kids.length=some [] by unfold Lang.shape;rw [qc (by omega),qk (by omega)]];simp only [↓qh,qq,reduceIte,reduceEqDiff,yq,nD,Int.reduceEq,h7];exact ⟨hf1,_,rfl,⟨by simp,rfl⟩,λ b q=>(q.1 rfl).elim⟩
 by_cases k14:k=14
 ·subst k14
  by_cases h7:7<n
  ·rw [show Lang.shape 14 n kids.length=none by unfold Lang.shape;rw [qk (.inl ⟨.inr rfl,h7⟩)]];simp only [↓qh,qq,reduceIte,reduceEqDiff,yq,nD,Int.reduceEq,h7];exact .gE hf1
  ·rw [show Lang.shape 14 n kids.length=some [1] by unfold Lang.shape;rw [qc (by omega),qc (by omega),qk (by omega)]];simp only [↓qh,qq,reduceIte,reduceEqDiff,yq,nD,Int.reduceEq,h7];have e0:Op.buildSlice bu 1 [.int .i64 0] [(0,1)] [.int .i64 1]=some (OR [.int .i64 1] bu,Op.sliceTo 1 1):=rfl;simp only [↓qh,qq,reduceIte,reduceEqDiff,yq,e0];exact ⟨hf1.alloc _,_,rfl,Al rfl rfl,λ b q=>by rw [q.2];show H.next<=H.next+1;omega⟩
 by_cases k1:k=1
 ·subst k1;rw [show Lang.shape 1 n kids.length=some [] by unfold Lang.shape;rw [qc (by omega),qk (by omega)]];simp only [↓qh,qq,reduceIte,reduceEqDiff,yq,nD,Int.reduceEq];exact ⟨hf1,_,rfl,⟨by simp,rfl⟩,λ b q=>(q.1 rfl).elim⟩
 by_cases h0:n=0
 ·subst h0
  by_cases k19:k=19
  ·subst k19;rw [show Lang.shape 19 0 kids.length=some [] by unfold Lang.shape;rw [qc (by omega),qk (by omega)]];simp only [↓qh,qq,reduceIte,reduceEqDiff,yq,nD,Int.reduceEq];exact ⟨hf1,_,rfl,⟨by simp,rfl⟩,λ b q=>(q.1 rfl).elim⟩
  by_cases k3:k=3
  ·subst k3;rw [show Lang.shape 3 0 kids.length=some [1] by unfold Lang.shape;rw [qc (by omega),qc (by omega),qk (by omega)]];have e0:Op.buildSlice bu 1 [.int .i64 0] [(0,1)] [.int .i64 1]=some (OR [.int .i64 1] bu,Op.sliceTo 1 1):=rfl;simp only [↓qh,qq,reduceIte,reduceEqDiff,yq,nD,Int.reduceEq,e0];exact ⟨hf1.alloc _,_,rfl,Al rfl rfl,λ b q=>by rw [q.2];show H.next<=H.next+1;omega⟩
  have e2:Op.buildSlice bu 2 [.int .i64 0] [(0,1),(1,1)] [.int .i64 1,.int .i64 1]=some (OR [.int .i64 1,.int .i64 1] bu,Op.sliceTo 2 2):=rfl
  by_cases k4:4<=k/\k<=13
  ·obtain ⟨h4,h13⟩:=k4;rw [show Lang.shape k 0 kids.length=some [1,1] by unfold Lang.shape;rw [qc (by omega),qc (by omega),qc (by omega),qk (by omega)]];simp only [↓qh,qq,reduceIte,reduceEqDiff,yq,nD,k2,k14,k1,k19,k3,h4,h13,e2];exact ⟨hf1.alloc _,_,rfl,Al rfl rfl,λ b q=>by rw [q.2];show H.next<=H.next+1;omega⟩
  by_cases k15:k=15
  ·subst k15;rw [show Lang.shape 15 0 kids.length=some [1,1] by unfold Lang.shape;rw [qc (by omega),qc (by omega),qc (by omega),qk (by omega)]];simp only [↓qh,qq,reduceIte,reduceEqDiff,yq,nD,Int.reduceEq,Int.reduceLE,e2];exact ⟨hf1.alloc _,_,rfl,Al rfl rfl,λ b q=>by rw [q.2];show H.next<=H.next+1;omega⟩
  have e3:Op.buildSlice bu 3 [.int .i64 0] [(0,1),(1,1),(2,1)] [.int .i64 2,.int .i64 4,.int .i64 4]=some (OR [.int .i64 2,.int .i64 4,.int .i64 4] bu,Op.sliceTo 3 3):=rfl;have e4:Op.buildSlice bu 2 [.int .i64 0] [(0,1),(1,1)] [.int .i64 2,.int .i64 4]=some (OR [.int .i64 2,.int .i64 4] bu,Op.sliceTo 2 2):=rfl
  by_cases k16:k=16
  ·subst k16
   by_cases hl:kids.length=3
   ·have hl':((kids.length:Nat):Int)=3:=by omega
    rw [show Lang.shape 16 0 kids.length=some [2,4,4] by unfold Lang.shape;rw [qc (by omega),qc (by omega),qc (by omega),qc (by omega),qk (by omega)]];simp only [↓qh,qq,reduceIte,reduceEqDiff,yq,nD,Int.reduceEq,Int.reduceLE,ha1.len,j0 hl',e3];exact ⟨hf1.alloc _,_,rfl,Al rfl rfl,λ b q=>by rw [q.2];show H.next<=H.next+1;omega⟩
   ·have hl':¬ ((kids.length:Nat):Int)=3:=by omega
    rw [show Lang.shape 16 0 kids.length=some [2,4] by unfold Lang.shape;rw [qc (by omega),qc (by omega),qc (by omega),qc (by omega),qc (by omega),qk (by omega)]];simp only [↓qh,qq,reduceIte,reduceEqDiff,yq,nD,Int.reduceEq,Int.reduceLE,ha1.len,hl',e4];exact ⟨hf1.alloc _,_,rfl,Al rfl rfl,λ b q=>by rw [q.2];show H.next<=H.next+1;omega⟩
  by_cases k17:k=17
  ·subst k17;rw [show Lang.shape 17 0 kids.length=some [2,4] by unfold Lang.shape;rw [qc (by omega),qc (by omega),qc (by omega),qc (by omega),qc (by omega),qk (by omega)]];simp only [↓qh,qq,reduceIte,reduceEqDiff,yq,nD,Int.reduceEq,Int.reduceLE,e4];exact ⟨hf1.alloc _,_,rfl,Al rfl rfl,λ b q=>by rw [q.2];show H.next<=H.next+1;omega⟩
  by_cases k18:k=18
  ·subst k18;have e5:Op.buildSlice bu 1 [.int .i64 0] [(0,1)] [.int .i64 4]=some (OR [.int .i64 4] bu,Op.sliceTo 1 1):=rfl;rw [show Lang.shape 18 0 kids.length=some [4] by unfold Lang.shape;rw [qc (by omega),qc (by omega),qc (by omega),qc (by omega),qc (by omega),qc (by omega),qk (by omega)]];simp only [↓qh,qq,reduceIte,reduceEqDiff,yq,nD,Int.reduceEq,Int.reduceLE,e5];exact ⟨hf1.alloc _,_,rfl,Al rfl rfl,λ b q=>by rw [q.2];show H.next<=H.next+1;omega⟩
  by_cases k20:k=20
  ·subst k20;have e5:Op.buildSlice bu 1 [.int .i64 0] [(0,1)] [.int .i64 3]=some (OR [.int .i64 3] bu,Op.sliceTo 1 1):=rfl;rw [show Lang.shape 20 0 kids.length=some (List.replicate kids.length 3) by unfold Lang.shape;rw [qc (by omega),qc (by omega),qc (by omega),qc (by omega),qc (by omega),qc (by omega),qc (by omega),qk (by omega)]];have ha2:=ha1.em ((Fr.refl _).alloc (OR [.int .i64 3] bu));have l2:Op.aa [.ptr H.next 2] ((H.alloc (OR [.int .i64 20,.int .u64 0,a] xf)).alloc (OR [.int .i64 3] bu))=some a:=by
    rw [xd6,rN (by rw [xk];omega),qp];rfl
   simp only [↓qh,qq,reduceIte,reduceEqDiff,yq,nD,Int.reduceEq,Int.reduceLE,e5,l2,ha2.len];refine C3.q (xcr (M:=M) (Al rfl rfl) hb) λ v H2 ⟨hv,hf,hfr⟩=>?_;simp only [↓qh,qq,reduceIte,reduceEqDiff,yq];exact ⟨(hf1.alloc _).em hf,_,rfl,hv,λ b q=>by have:=hfr b q;rw [xk,xk] at this;omega⟩
  ·rw [show Lang.shape k 0 kids.length=none by unfold Lang.shape;rw [qc (by omega),qc (by omega),qc (by omega),qc (by omega),qc (by omega),qc (by omega),qc (by omega),qc (by omega)]]
   by_cases h4:4<=k
   ·have h13:¬ k<=13:=λ q=>k4 ⟨h4,q⟩;simp only [↓qh,qq,reduceIte,reduceEqDiff,yq,nD,k2,k14,k1,k19,k3,h4,h13,k15,k16,k17,k18,k20];exact .gE hf1
   ·simp only [↓qh,qq,reduceIte,reduceEqDiff,yq,nD,k2,k14,k1,k19,k3,h4,k15,k16,k17,k18,k20];exact .gE hf1
 ·rw [show Lang.shape k n kids.length=none by unfold Lang.shape;rw [qk (by omega)]];simp only [↓qh,qq,reduceIte,reduceEqDiff,yq,nD,k2,k14,k1,h0];exact .gE hf1
end Go.Am
namespace Go.Am
open Lang Go.Proofs
variable {M:aO} [MK M]
theorem cU.P1 {α:Type} {enc:α->List AV} {size:Nat} {H H':AHeap} {W:Nat->Prop} {v:AV} {xs:List α} (h:cU enc size H v xs) (f:Fr W H H') (hw:∀ b,bL v b -> ¬ W b):cU enc size H' v xs:=by
 by_cases hv:v=.nils
 ·subst hv;have h0:xs.length=0:=h.2;exact Sl.fr h f (.inl h0)
 ·exact Sl.fr h f (.inr (hw _ ⟨hv,rfl⟩))
def qV (fl:List Bool):List AV:=fl.map AV.bool
theorem Bb (fl:List Bool):(qV fl).length=fl.length:=by simp [qV]
structure eQ (H Hc:AHeap) (tv:AV) (t:List Nd) (B:Nat) (sv:AV) (st:List Nat) (fl:List Bool):Prop where
 nd:eT H tv t
 mu:nA bu H Hc sv st
 row:Hc.get B=some (OR (qV fl) Ki)
 lo:H.next<=B
 hi:B<Hc.next
 nb:¬ bL sv B
section
variable {H Hc Hd:AHeap} {tv:AV} {t:List Nd} {B:Nat} {sv:AV} {st:List Nat} {fl:List Bool}
theorem eQ.em (h:eQ H Hc tv t B sv st fl) (f:Fr Em Hc Hd):eQ H Hd tv t B sv st fl :=
 ⟨h.nd,h.mu.em f,by rw [f.aj B h.hi id,h.row],h.lo,qe h.hi f.next,h.nb⟩
theorem eQ.IA (h:eQ H Hc tv t B sv st fl):eT Hc tv t:=h.nd.em h.mu.fr
theorem eQ.ix (h:eQ H Hc tv t B sv st fl) (n:Nat) {j:Nat} (hj:j<n) (k:IntKind):Op.aJ 1 [.slice B 0 n n,.int k (j:Int)]=some (.ptr B j):=by
 simp only [Op.aJ,dE,qd,xZ rfl hj,elemAt,xP hj,ql];simp
theorem eQ.ld (h:eQ H Hc tv t B sv st fl) {j:Nat} {q:Bool} (hq:fl[j]? = some q):Op.aa [.ptr B j] Hc=some (.bool q):=by
 rw [j8 (qy h.row),qV,xj,hq];rfl
theorem eQ.put (h:eQ H Hc tv t B sv st fl) {j:Nat} (hj:j<fl.length) (q:Bool):∃ Hd,Op.store 1 [.ptr B j,.bool q] Hc=some (.undef,Hd)/\eQ H Hd tv t B sv st (fl.set j q)/\Fr (On B) Hc Hd:=by
 have e:(qV fl).take j++(AV.bool q).cells++(qV fl).drop (j+1)=qV (fl.set j q):=by
  show (qV fl).take j ++ [AV.bool q]++(qV fl).drop (j+1)=_;rw [qV,qV,List.map_set,ym,qk (by simpa using hj)];simp
 have hs:=y9 h.row (o:=j) (n:=1) (v:=.bool q) rfl (by rw [Bb];omega) rfl;rw [e] at hs;have hf:Fr (On B) Hc (Hc.set B (OR (qV (fl.set j q)) Ki)):=(Fr.refl Hc).set (W:=On B) (.inl rfl) _;exact ⟨_,hs,⟨h.nd,h.mu.Ht hf (h.mu.fr.set (.inr h.lo) _) λ b hb q=>h.nb (by rw [<-q];exact hb),xd ..,h.lo,h.hi,h.nb⟩,hf⟩
theorem eQ.top (h:eQ H Hc tv t B sv st fl) {m:Nat} (hm:m<=st.length) {tp:AV} (htp:Op.bc 1 [some 0,none,none] [sv,.int .i64 ((st.length-m:Nat):Int)]=some tp):cU kC 1 Hc tp (st.drop (st.length-m)):=by
 obtain ⟨v',h1,h2,_⟩:=h.mu.sl.from ND (k:=st.length-m) (by omega) rfl .i64
 rw [htp] at h1;injection h1 with h1;subst h1;exact h2
end
theorem Lj {α:Type} {l:List α} {i:Nat} {x:α} (h:l[i]? = some x):l.drop i=x::l.drop (i+1):=by
 have hi:=(qv.1 h).1;rw [List.drop_eq_getElem_cons hi];congr 1;simpa [hi] using h
theorem Dp {fl r:List Bool} {a:Bool} {j:Nat} (hj:j<fl.length):(fl++a::r)[j]? = some (fl.getD j false):=by
 rw [xi hj,za hj,yf,za hj];rfl
theorem Bl (fl r:List Bool) (a:Bool):(fl++a::r)[fl.length]? = some a:=by simp
theorem vK (fl r:List Bool) (a b:Bool):(fl++a::r).set fl.length b=fl++b::r:=by simp
theorem xd9 {H Hc:AHeap} {tv sv tp wv kv:AV} {t:List Nd} {B c i m:Nat} {st:List Nat} {fl r:List Bool} {kids want:List Int} {Q:aK} {E:Env}
 (hs:eQ H Hc tv t B sv st (fl++false::r)) (hi:fl.length=i) (hn:t.length=i+1+r.length) (hn2:t.length<=2000) (hm:kids.length=m) (hw:want.length=m) (hms:m<=st.length) (hst:∀ s ∈ st,s<i) (hsl:st.length<=2000)
 (htp:Op.bc 1 [some 0,none,none] [sv,.int .i64 ((st.length-m:Nat):Int)]=some tp) (hwv:cU eB 1 Hc wv want) (hwB:∀ b,bL wv b->b ≠ B) (hkv:cU eB 1 H kv kids)
 (e9:lk E 9=some tp) (e7:lk E 7=some wv) (e0:lk E 0=some tv) (e4:lk E 4=some (.slice B 0 t.length t.length)) (e5:lk E 5=some (.int .i64 (i:Int))) (e3:lk E 3=some sv) (e6:lk E 6=some (.ptr c 0)) (e33:lk E 33=some tv) (e34:lk E 34=some (.int .i64 (t.length:Nat))) (e35:lk E 35=some (.int .i64 (i:Int)))
 (hbad:∀ E' H',lk E' 2=some (.bool false)->Fr Em H H' -> ¬ (kids=ints (st.drop (st.length-m))/\(st.drop (st.length-m)).map (Lang.dN t)=want)->Q .ret E' [] H')
 (hok:∀ H',eQ H H' tv t B sv st (fl++((st.drop (st.length-m)).any λ j=>fl.getD j false)::r)->Fr (On B) Hc H'->kids=ints (st.drop (st.length-m))->(st.drop (st.length-m)).map (Lang.dN t)=want ->
  W M ⟨none,p6⟩ (x7 66) true Q [(72,.int .i64 (m:Nat)),(71,.int .i64 (m:Nat)),(70,kv),(9,tp),(7,wv),(0,tv),(4,.slice B 0 t.length t.length),(5,.int .i64 (i:Int)),(3,sv),(6,.ptr c 0),(33,tv),(34,.int .i64 (t.length:Nat)),(35,.int .i64 (i:Int))] [] H') :
 bS (W M ⟨none,p6⟩ (x7 46)) (aR 2 (aw (W M ⟨none,p6⟩ (x7 66)) Q)) ((72,.int .i64 0)::(71,.int .i64 (m:Nat))::(70,kv)::E) [] Hc:=by
 obtain ⟨-,-,-,-,-,-,-,-,-,-,-,-,w46,-,-,w52,-,w65,w56,w64⟩:=q1j M ⟨none,p6⟩;have htl:(st.drop (st.length-m)).length=m:=by rw [tY];omega
 refine bS.intro (λ k E' H'=>∃ j,E'=[(72,.int .i64 (j:Nat)),(71,.int .i64 (m:Nat)),(70,kv),(9,tp),(7,wv),(0,tv),(4,.slice B 0 t.length t.length),(5,.int .i64 (i:Int)),(3,sv),(6,.ptr c 0),(33,tv),(34,.int .i64 (t.length:Nat)),(35,.int .i64 (i:Int))]/\k=m-j/\j<=m /\
  eQ H H' tv t B sv st (fl++(((st.drop (st.length-m)).take j).any λ j=>fl.getD j false)::r)/\Fr (On B) Hc H'/\kids.take j=ints ((st.drop (st.length-m)).take j)/\((st.drop (st.length-m)).take j).map (Lang.dN t)=want.take j) ?_ ?_
 ·exact ⟨_,_,⟨0,rfl,rfl,by omega,hs,Fr.refl _,rfl,rfl⟩,by simp only [↓qh,qq,reduceIte,reduceEqDiff,e9,e7,e0,e4,e5,e3,e6,e33,e34,e35]⟩
 rintro k E' H' ⟨j,rfl,rfl,hj,hs',hf,hk1,hk2⟩;rcases kg j m with aT|hge
 ·have c1:(j:Int)<(m:Nat):=by omega
  obtain ⟨kid,hkid⟩:∃ x,kids[j]? = some x:=⟨kids[j]'(by omega),by simp [show j<kids.length by omega]⟩
  obtain ⟨tj,htj⟩:∃ x,(st.drop (st.length-m))[j]? = some x:=⟨(st.drop (st.length-m))[j]'(by omega),by simp [show j<(st.drop (st.length-m)).length by omega]⟩
  obtain ⟨wj,hwj⟩:∃ x,want[j]? = some x:=⟨want[j]'(by omega),by simp [show j<want.length by omega]⟩
  have htop:=hs'.top hms htp;have hkv':=hkv.em hs'.mu.fr;obtain ⟨ki,kl⟩:=hkv'.tE hkid;have ti:=htop.idx htj (z:=(j:Int)) rfl .i64;have tl:Op.aa [.ptr (dK tp) (eU 1 tp j)] H'=some (.int .i64 (tj:Nat)):=by rw [htop.gU ND htj (by decide)];rfl
  have htjm:tj ∈ st:=List.mem_of_mem_drop (xv htj);have htji:=hst tj htjm;have hstep:∀ {x:Int},kid=x->x=(tj:Int)->kids.take (j+1)=ints ((st.drop (st.length-m)).take (j+1)):=by
   intro x h1 h2;rw [Dj,hkid,Dj,htj,hk1,h1,h2];simp [ints]
  have wt:ae .i64 ((j:Int)+1)=((j+1:Nat):Int):=by rw [zk (by omega) (by omega)];omega
  by_cases hkt:(tj:Int)=kid
  ·subst hkt;obtain ⟨x,hx⟩:∃ x,t[tj]? = some x:=⟨t[tj]'(by omega),by simp [show tj<t.length by omega]⟩
   obtain ⟨a,_,_,nix,_,nl0,_,_⟩:=hs'.IA.get hx;have hcls:Lang.dN t tj=Lang.cls x.k:=by unfold Lang.dN;rw [hx]
   have hwv':=hwv.P1 hf hwB;obtain ⟨wi,wl⟩:=hwv'.tE hwj;simp only [↓qh,qq,reduceIte,reduceEqDiff,w46,w52,w56,c1,ki,kl,ti,tl,nix,nl0,wi,wl];refine C3.q (xam (M:=M) x.k) λ v H2 ⟨hv,hh⟩=>?_;subst hv;subst hh
   by_cases hcw:Lang.cls x.k=wj
   ·simp only [↓qh,qq,reduceIte,reduceEqDiff,wl,hcw];have l1:=hs'.ld (Bl fl r _);have l2:=hs'.ld (Dp (a:=((st.drop (st.length-m)).take j).any λ j=>fl.getD j false) (r:=r) (j:=tj) (by omega));have i1:=hs'.ix t.length (j:=i) (by omega) .i64;have i2:=hs'.ix t.length (j:=tj) (by omega) .i64;rw [hi] at l1;have any1:(((st.drop (st.length-m)).take (j+1)).any λ j=>fl.getD j false)=((((st.drop (st.length-m)).take j).any λ j=>fl.getD j false) || fl.getD tj false):=by
     rw [Dj,htj];simp
    have fin:∀ (q:Bool),q=(((st.drop (st.length-m)).take (j+1)).any λ j=>fl.getD j false) -> ∃ Hd,Op.store 1 [.ptr B i,.bool q] H2=some (.undef,Hd)/\eQ H Hd tv t B sv st (fl++(((st.drop (st.length-m)).take (j+1)).any λ j=>fl.getD j false)::r)/\Fr (On B) H2 Hd:=λ q hq=>by
     obtain ⟨Hd,s1,s2,s3⟩:=hs'.put (j:=i) (by simp;omega) q;refine ⟨Hd,s1,?_,s3⟩;rw [<-hi,vK,hq] at s2;exact s2
    have htk:((st.drop (st.length-m)).take (j+1)).map (Lang.dN t)=want.take (j+1):=by
     rw [Dj,htj,Dj,hwj,Ce,hk2];simp [hcls,hcw]
    cases hq:((st.drop (st.length-m)).take j).any λ j=>fl.getD j false with
    | true =>
     rw [hq] at l1 any1;obtain ⟨Hd,s1,s2,s3⟩:=fin true (by rw [any1];rfl);simp only [↓qh,qq,reduceIte,reduceEqDiff,w64,w65,i1,l1,s1,wt];exact ⟨_,_,⟨j+1,rfl,rfl,by omega,s2,hf.trans s3 (λ x h=>.inl h),hstep rfl rfl,htk⟩,by simp only [↓qh,qq,reduceIte,reduceEqDiff],by omega⟩
    | false =>
     rw [hq] at l1 any1;obtain ⟨Hd,s1,s2,s3⟩:=fin (fl.getD tj false) (by rw [any1];rfl);simp only [↓qh,qq,reduceIte,reduceEqDiff,w64,w65,i1,l1,i2,l2,s1,wt];exact ⟨_,_,⟨j+1,rfl,rfl,by omega,s2,hf.trans s3 (λ x h=>.inl h),hstep rfl rfl,htk⟩,by simp only [↓qh,qq,reduceIte,reduceEqDiff],by omega⟩
   ·simp only [↓qh,qq,reduceIte,reduceEqDiff,wl,hcw];refine hbad _ _ rfl hs'.mu.fr λ q=>hcw ?_;have:=congrArg (λ l=>l[j]?) q.2;simp only [xj,htj,hwj,AM,hcls] at this;exact yn this
  ·simp only [↓qh,qq,reduceIte,reduceEqDiff,w46,w52,w56,c1,ki,kl,ti,tl,hkt];refine hbad _ _ rfl hs'.mu.fr λ q=>hkt ?_;have:=congrArg (λ l=>l[j]?) q.1;simp only [hkid,ints,xj,htj,AM] at this;exact (yn this).symm
 ·have hjm:j=m:=by omega
  subst hjm;have c1:¬ (j:Int)<(j:Nat):=by omega
  rw [xo (l:=st.drop (st.length-j)) (by omega)] at hs' hk1 hk2;rw [xo (l:=kids) (by omega)] at hk1;rw [xo (l:=want) (by omega)] at hk2;simp only [↓qh,qq,reduceIte,reduceEqDiff,w46,c1];exact hok _ hs' hf hk1 hk2
end Go.Am
namespace Go.Am
open Lang Go.Proofs
variable {M:aO} [MK M]
theorem Nl {t:List Nd} (h:¬ (1<=t.length/\t.length<=2000/\kU t=20)):lu t=false:=by
 unfold lu;rw [jf h];rfl
theorem zO {t:List Nd} (h:1<=t.length/\t.length<=2000/\kU t=20):lu t=lW t t 0 [] []:=by
 unfold lu;rw [jd h];rfl
theorem HY {t r:List Nd} {x:Nd} {i:Nat} {st:List Nat} {fl:List Bool} (h:eD t x i st fl=none):lW t (x::r) i st fl=false:=by
 rw [lW,h]
theorem tR {t r:List Nd} {x:Nd} {i:Nat} {st st':List Nat} {fl fl':List Bool} (h:eD t x i st fl=some (st',fl')):lW t (x::r) i st fl=lW t r (i+1) st' fl':=by
 rw [lW,h]
theorem uz {n i:Nat} (h:i<n):List.replicate (n-i) false=false::List.replicate (n-i-1) false:=by
 rw [show n-i=(n-i-1)+1 by omega,wz];simp
theorem uA {H Hc:AHeap} {tv:AV} {t:List Nd} {B i m:Nat} {sv:AV} {st:List Nat} {fl:List Bool} (h:eQ H Hc tv t B sv st fl) (hm:m<=st.length) (hl:st.length<=2000) {z:Int} (hz:z=((st.length-m:Nat):Int)) :
 ∃ v',Op.bc 1 [none,some 0,none] [sv,.int .i64 z]=some v' /\ ∀ {K:bg->(Nat->AV)->Bool->AV->AHeap->Prop} {g:Bool},
  (∀ sv' H',eQ H H' tv t B sv' (st.take (st.length-m) ++ [i]) fl->K (.row [.int .i64 (i:Int)] bu (0,0) true) (Op.sliceTo 1 1) g sv' H') ->
  bA g (Op.buildSlice bu 1 [.int .i64 0] [(0,1)] [.int .i64 (i:Int)]) λ g o mk=>bA g (Op.append bu 1 8 [v',mk Hc.next] (Hc.alloc o)) (K o mk):=by
 obtain ⟨v',h1,h2,h3⟩:=h.mu.cut (k:=st.length-m) (by omega) hz .i64;refine ⟨v',h1,λ {K g} hk=>h2.push (zero:=[.int .i64 0]) (bytes:=8) rfl (by rw [ky];omega) (by rw [ky];omega) λ sv' H' q1 q2 q3=>hk sv' H' ⟨h.nd,q1,?_,h.lo,qe h.hi q2.next,?_⟩⟩
 ·rw [q2.aj B h.hi λ q=>h.nb (h3 B q),h.row]
 ·intro q;rcases q3 B q with q|q
  ·exact h.nb (h3 B q)
  ·have:=h.hi;omega
theorem q9a {H:AHeap} {tv:AV} {t:List Nd} (hn:eT H tv t) (hz:∀ x ∈ t,x.kids.length*8<=140737488355328):ye M p6 [tv] H λ v H'=>v=.bool (lu t)/\Fr Em H H':=by
 refine xa9 ?_;obtain ⟨w0,w2,w10,w14,w82,w19,w25,w81,w31,w39,w41,w66,-,w80,w70,-,w78,-,-,-⟩:=q1j M ⟨none,p6⟩
 by_cases c1:((t.length:Nat):Int)<1
 ·rw [Nl (by omega)];simp only [↓qh,qq,reduceIte,reduceEqDiff,w0,w2,hn.len,c1];exact Fr.refl _
 by_cases c2:(2000:Int)<((t.length:Nat):Int)
 ·rw [Nl (by omega)];simp only [↓qh,qq,reduceIte,reduceEqDiff,w0,w2,hn.len,c1,c2];exact Fr.refl _
 obtain ⟨x0,hx0⟩:∃ x,t[t.length-1]? = some x:=⟨t[t.length-1]'(by omega),by simp [show t.length-1<t.length by omega]⟩
 have wl:ae .i64 (((t.length:Nat):Int)-1)=((t.length-1:Nat):Int):=by rw [zk (by omega) (by omega)];omega
 have hkl:kU t=x0.k:=by unfold kU;rw [hx0]
 obtain ⟨a0,_,_,n1,_,n2,_,_⟩:=hn.get hx0
 by_cases c3:x0.k=20
 ·have c3':=j0 c3;have hmk:=O0 Ki 1 [.bool false] t.length .i64 .i64 (by omega) (by omega);rw [vL] at hmk;simp only [↓qh,qq,reduceIte,reduceEqDiff,w0,w2,w10,w14,hn.len,c1,c2,wl,n1,n2,c3',hmk];rw [zO (by omega)];have hB:(Op.sliceTo t.length t.length H.next)=.slice H.next 0 t.length t.length:=rfl
  have hm0:eQ H (H.alloc (OR (List.replicate t.length (.bool false)) Ki)) tv t H.next .nils [] ([]++List.replicate (t.length-0) false) :=
   ⟨hn,⟨.inl ⟨rfl,rfl⟩,(Fr.refl H).alloc _⟩,by rw [qp];simp [qV],qf _,by rw [xk];omega,λ q=>q.1 rfl⟩
  refine bS.intro (λ k E' H'=>∃ i sv st fl,E'=[(35,.int .i64 (i:Nat)),(34,.int .i64 (t.length:Nat)),(33,tv),(4,.slice H.next 0 t.length t.length),(3,sv),(0,tv)]/\k=t.length-i/\i<=t.length/\fl.length=i/\(∀ s ∈ st,s<i)/\st.length<=i /\
   eQ H H' tv t H.next sv st (fl++List.replicate (t.length-i) false)/\lW t (t.drop i) i st fl=lW t t 0 [] []) ?_ ?_
  ·exact ⟨_,_,⟨0,.nils,[],[],rfl,rfl,by omega,rfl,by simp,by simp,hm0,rfl⟩,by simp only [↓qh,qq,reduceIte,reduceEqDiff];rfl⟩
  rintro k E' Hc ⟨i,sv,st,fl,rfl,rfl,hi,hfl,hst,hsl,hs,hgo⟩;rcases kg i t.length with aT|hge
  ·have d1:(i:Int)<(t.length:Nat):=by omega
   obtain ⟨x,hx⟩:∃ x,t[i]? = some x:=⟨t[i],by simp [aT]⟩
   obtain ⟨a,ha,ha1,m1,m2,m3,m4,m5⟩:=hs.IA.get hx;rw [Lj hx] at hgo;rw [uz aT] at hs;have hst0:=JI Hc x ha1 xf;have hld:=vU Hc x a xf;have hs1:=hs.em ((Fr.refl Hc).alloc (OR [.int .i64 x.k,.int .u64 x.n,a] xf));have hkb:=hz x (xv hx);simp only [↓qh,qq,reduceIte,reduceEqDiff,w19,w25,d1,m1,m2,hst0,hld];have hkv0:cU eB 1 H a x.kids:=by
    obtain ⟨a',q1,_,_,q2,_⟩:=hn.get hx;have:=hs.mu.fr;obtain ⟨a'',r1,_,_,r2,_⟩:=(hn.em this).get hx;have e1:=m2.symm.trans r2;injection e1 with e1;injection e1 with e1;injection e1 with _ e1;injection e1 with _ e1;injection e1 with e1 _
    obtain ⟨zs,z1,z2,z3⟩:=hn.ex;have hz2:=z2.em this;obtain ⟨z,hz,hzx⟩:∃ z,zs[i]? = some z/\z.1=x:=by
     rw [<-z1,xj] at hx;cases hq:zs[i]? with
     | none=>rw [hq] at hx;cases hx
     | some z=>rw [hq] at hx;injection hx with hx;exact ⟨z,rfl,hx⟩
    have e2:=hz2.au zM (by decide) hz;have e3:=m2.symm.trans e2;injection e3 with e3;injection e3 with e3;injection e3 with _ e3;injection e3 with _ e3;injection e3 with e3 _
    rw [e3,<-hzx];exact z3 z (xv hz)
   refine C3.q (xb1 (M:=M) (k:=x.k) (n:=x.n) (ha.em ((Fr.refl Hc).alloc _)) hkb) λ v H2 ⟨hf2,hv⟩=>?_;have hs2:=hs1.em hf2;have hrow:H2.get Hc.next=some (OR [.int .i64 x.k,.int .u64 x.n,a] xf):=by rw [hf2.aj _ (by rw [xk];omega) id,qp]
   have hc2:Hc.next<H2.next:=by have:=hf2.next;rw [xk] at this;omega
   have l2:∀ o,Op.aa [.ptr Hc.next o] H2=[AV.int .i64 x.k,.int .u64 x.n,a][o]?:=λ o=>j8 (qy hrow) o;cases hsh:Lang.shape x.k x.n x.kids.length with
   | none =>
    rw [hsh] at hv;have hv:v=.tuple [.nils,.bool false]:=hv;subst hv;have hms:eD t x i st fl=none:=by unfold eD;rw [hsh]
    rw [HY hms] at hgo;simp only [↓qh,qq,reduceIte,reduceEqDiff,zo,w31];exact ⟨by rw [<-hgo],hs2.mu.fr⟩
   | some want =>
    rw [hsh] at hv;obtain ⟨u,rfl,hu,hun⟩:=hv;have hkl2:=(hkv0.em hs2.mu.fr).len;have hstl:=hs2.mu.sl.len
    by_cases e1:want.length=x.kids.length
    ·by_cases e2:want.length<=st.length
     ·have f1:¬ ((want.length:Nat):Int) ≠ ((x.kids.length:Nat):Int):=by omega
      have f2:¬ ((st.length:Nat):Int)<((want.length:Nat):Int):=by omega
      have f1':((want.length:Nat):Int)=((x.kids.length:Nat):Int):=by omega
      have ws:ae .i64 (((st.length:Nat):Int)-((want.length:Nat):Int))=((st.length-x.kids.length:Nat):Int):=by rw [zk (by omega) (by omega)];omega
      obtain ⟨tp,htp,_,_⟩:=hs2.mu.sl.from ND (k:=st.length-x.kids.length) (by omega) rfl .i64
      rw [f1'] at f2 ws;have hul:=hu.len;rw [e1] at hul;simp only [↓qh,qq,reduceIte,reduceEqDiff,zo,w31,w39,w41,hul,l2,hkl2,hstl,f2,ws,htp];refine xd9 (M:=M) (c:=Hc.next) (want:=want) hs2 hfl (by simp;omega) (by omega) rfl e1 (by omega) hst (by omega) htp hu (λ b hb q=>?_) hkv0 rfl rfl rfl rfl rfl rfl rfl rfl rfl rfl (λ E' H' q2 hf hne=>?_) λ H3 hs3 hf3 hk1 hk2=>?_
      ·have:=hun b hb;rw [xk] at this;have:=hs.hi;omega
      ·have hms:eD t x i st fl=none:=by
        unfold eD;rw [hsh];simp only;rw [qc (λ q=>hne (by rw [<-e1];exact ⟨q.2.2.1,q.2.2.2⟩))]
       rw [HY hms] at hgo;simp only [↓qh,qq,reduceIte,reduceEqDiff,q2];exact ⟨by rw [<-hgo],hf⟩
      ·have hrow3:H3.get Hc.next=some (OR [.int .i64 x.k,.int .u64 x.n,a] xf):=by rw [hf3.aj _ hc2 (λ q=>by have:Hc.next=H.next:=q;have:=hs.hi;omega),hrow]
       have l3:∀ o,Op.aa [.ptr Hc.next o] H3=[AV.int .i64 x.k,.int .u64 x.n,a][o]?:=λ o=>j8 (qy hrow3) o;have hcond:want.length=x.kids.length/\want.length<=st.length/\x.kids=ints (st.drop (st.length-want.length))/\(st.drop (st.length-want.length)).map (Lang.dN t)=want:=⟨e1,e2,by rw [e1];exact hk1,by rw [e1];exact hk2⟩
       have hms:eD t x i st fl=if x.k=18/\((st.drop (st.length-x.kids.length)).any λ j=>fl.getD j false)=true then none else some (st.take (st.length-x.kids.length) ++ [i],fl ++ [((st.drop (st.length-x.kids.length)).any λ j=>fl.getD j false) || decide (x.k=18)]):=by
        unfold eD;rw [hsh];simp only;rw [qk hcond,e1]
       generalize ((st.drop (st.length-x.kids.length)).any λ j=>fl.getD j false)=q at hms hs3;have i1:=hs3.ix t.length (j:=i) (by omega) .i64;have fa:=hs3.ld (Bl fl (List.replicate (t.length-i-1) false) q);rw [hfl] at fa;have hstl3:=hs3.mu.sl.len;have wi:ae .i64 ((i:Int)+1)=((i+1:Nat):Int):=by rw [zk (by omega) (by omega)];omega
       have fin:∀ (q':Bool) (H4:AHeap) (E':Env),eD t x i st fl=some (st.take (st.length-x.kids.length) ++ [i],fl ++ [q'])->eQ H H4 tv t H.next sv st (fl++q'::List.replicate (t.length-i-1) false)->cU eB 1 H4 u want ->
        lk E' 3=some sv->lk E' 7=some u->lk E' 5=some (.int .i64 (i:Int))->lk E' 35=some (.int .i64 (i:Int))->lk E' 34=some (.int .i64 (t.length:Nat))->lk E' 33=some tv->lk E' 4=some (.slice H.next 0 t.length t.length)->lk E' 0=some tv ->
        W M ⟨none,p6⟩ (x7 80) true (aR 1 (aw (W M ⟨none,p6⟩ (x7 81)) (rS (λ k E' H'=>∃ i sv st fl,E'=[(35,.int .i64 (i:Nat)),(34,.int .i64 (t.length:Nat)),(33,tv),(4,.slice H.next 0 t.length t.length),(3,sv),(0,tv)]/\k=t.length-i/\i<=t.length/\fl.length=i/\(∀ s ∈ st,s<i)/\st.length<=i /\
         eQ H H' tv t H.next sv st (fl++List.replicate (t.length-i) false)/\lW t (t.drop i) i st fl=lW t t 0 [] []) [] (t.length-i) (aR 0 (aw (W M ⟨none,p6⟩ (x7 82)) (aU M [.tmp 2] (rL λ v H'=>v=.bool (lW t t 0 [] [])/\Fr Em H H'))))))) E' [] H4:=by
        intro q' H4 E' hm4 hs4 hu4 r3 r7 r5 r35 r34 r33 r4 r0;rw [tR hm4] at hgo;obtain ⟨sv',p1,p2⟩:=uA (i:=i) (m:=x.kids.length) hs4 (by omega) (by omega) (z:=((st.length-x.kids.length:Nat):Int)) rfl;have hul4:=hu4.len;rw [e1] at hul4;simp only [↓qh,qq,reduceIte,reduceEqDiff,w80,r3,r7,r5,hs4.mu.sl.len,hul4,ws,p1];refine p2 λ sv2 H5 hs5=>?_;simp only [↓qh,qq,reduceIte,reduceEqDiff,w81,r35,wi];refine ⟨_,_,⟨i+1,sv2,st.take (st.length-x.kids.length) ++ [i],fl ++ [q'],rfl,rfl,by omega,by simp;omega,λ s hs=>?_,?_,?_,hgo⟩,by simp only [↓qh,qq,reduceIte,reduceEqDiff,r34,r33,r4,r0],by omega⟩
        ·rcases zy.1 hs with hs|hs
         ·have:=hst s (List.mem_of_mem_take hs);omega
         ·rw [yk.1 hs];omega
        ·rw [qg,ky];simp;omega
        ·rw [show t.length-(i+1)=t.length-i-1 by omega,qt];exact hs5
       have hu3:cU eB 1 H3 u want:=hu.P1 hf3 λ b hb q=>by
        have:=hun b hb;rw [xk] at this;have:=hs.hi;have:b=H.next:=q;omega
       by_cases k18:x.k=18
       ·cases q with
        | true =>
         rw [qk ⟨k18,rfl⟩] at hms;rw [HY hms] at hgo;simp only [↓qh,qq,reduceIte,reduceEqDiff,w66,w70,l3,j0 k18,i1,fa];exact ⟨by rw [<-hgo],hs3.mu.fr⟩
        | false =>
         rw [qc (λ q=>nomatch q.2),jd k18] at hms;obtain ⟨H4,s1,s2,s3⟩:=hs3.put (j:=i) (by simp;omega) true;have s2':eQ H H4 tv t H.next sv st (fl++true::List.replicate (t.length-i-1) false):=by rw [<-hfl,vK] at s2;rw [<-hfl];exact s2
         simp only [↓qh,qq,reduceIte,reduceEqDiff,w66,w70,w78,l3,j0 k18,i1,fa,s1];exact fin true H4 _ hms s2' (hu3.P1 s3 λ b hb q=>by have:=hun b hb;rw [xk] at this;have:=hs.hi;have:b=H.next:=q;omega) rfl rfl rfl rfl rfl rfl rfl rfl
       ·rw [qc (λ q=>k18 q.1),jf k18,rR] at hms;simp only [↓qh,qq,reduceIte,reduceEqDiff,w66,l3,k18];exact fin q H3 _ hms hs3 hu3 rfl rfl rfl rfl rfl rfl rfl rfl
     ·have f1':((want.length:Nat):Int)=((x.kids.length:Nat):Int):=by omega
      have f2:((st.length:Nat):Int)<((want.length:Nat):Int):=by omega
      have hms:eD t x i st fl=none:=by
       unfold eD;rw [hsh];simp only;rw [qc (λ q=>e2 q.2.1)]
      rw [HY hms] at hgo;rw [f1'] at f2;have hul:=hu.len;rw [e1] at hul;simp only [↓qh,qq,reduceIte,reduceEqDiff,zo,w31,hul,l2,hkl2,hstl,f2];exact ⟨by rw [<-hgo],hs2.mu.fr⟩
    ·have f1:¬ ((want.length:Nat):Int)=((x.kids.length:Nat):Int):=by omega
     have hms:eD t x i st fl=none:=by
      unfold eD;rw [hsh];simp only;rw [qc (λ q=>e1 q.1)]
     rw [HY hms] at hgo;simp only [↓qh,qq,reduceIte,reduceEqDiff,zo,w31,hu.len,l2,hkl2,f1];exact ⟨by rw [<-hgo],hs2.mu.fr⟩
  ·have hin:i=t.length:=by omega
   subst hin;have d1:¬ ((t.length:Nat):Int)<(t.length:Nat):=by omega
   rw [List.drop_length] at hgo;simp only [↓qh,qq,reduceIte,reduceEqDiff,w19,w82,d1,hs.mu.sl.len];refine ⟨?_,hs.mu.fr⟩;rw [<-hgo,lW];congr 1;exact decide_eq_decide.2 (by omega)
 ·rw [Nl (by omega)];simp only [↓qh,qq,reduceIte,reduceEqDiff,w0,w2,hn.len,c1,c2,wl,n1,n2,c3];exact Fr.refl _
end Go.Am
