/- LqO1: LpA LpB LpC LpD LpE. -/
import Derived.Test.YtbimikjajohflaaDoorAmOCodeO
import Derived.Test.YtbimikjajohflaaDoorAmOLqO0
set_option linter.unusedVariables false
set_option linter.unusedSimpArgs false
set_option linter.unusedSectionVars false
set_option maxRecDepth 100000
namespace Go.Am
open Lang Go.Proofs
variable {M:Mac} [MK M]
theorem q2t (k:Int) {H:AHeap}:yv M qfn [.int .i64 k] H fun v H'=>v=.int .i64 (cls k)/\H'=H:=by
 refine qxw ?_
 unfold cls
 by_cases h1:1<=k
 ·by_cases h2:k<=10
  ·rw [xi ⟨h1,h2⟩];simp only [↓qh,qx,reduceIte,Nat.reduceEqDiff,qfv,h1,h2]
  rw [qt (fun q=>h2 q.2)]
  have h3:11<=k:=by omega
  by_cases h4:k<=13
  ·rw [xi ⟨h3,h4⟩];simp only [↓qh,qx,reduceIte,Nat.reduceEqDiff,qfv,h1,h2,h3,h4]
  rw [qt (fun q=>h4 q.2)]
  have h5:14<=k:=by omega
  by_cases h6:k<=19
  ·rw [xi ⟨h5,h6⟩];simp only [↓qh,qx,reduceIte,Nat.reduceEqDiff,qfv,h1,h2,h3,h4,h5,h6]
  rw [qt (fun q=>h6 q.2)]
  by_cases h7:k=20
  ·rw [xi h7];simp only [↓qh,qx,reduceIte,Nat.reduceEqDiff,qfv,h1,h2,h3,h4,h5,h6,vf h7]
  ·rw [qt h7];simp only [↓qh,qx,reduceIte,Nat.reduceEqDiff,qfv,h1,h2,h3,h4,h5,h6,h7]
 ·have h3:¬ 11<=k:=by omega
  have h5:¬ 14<=k:=by omega
  have h7:¬ k=20:=by omega
  rw [qt (fun q=>h1 q.1),qt (fun q=>h3 q.1),qt (fun q=>h5 q.1),qt h7]
  simp only [↓qh,qx,reduceIte,Nat.reduceEqDiff,qfv,h1,h3,h5,h7]
end Go.Am
namespace Go.Am
open Lang Go.Proofs
variable {M:Mac} [MK M]
theorem bv_and32 (n:Nat) (h:n<18446744073709551616):(BitVec.ofInt 64 (n:Int) &&& BitVec.ofInt 64 4294967295).toNat=n % 4294967296:=by
 have e1:BitVec.ofInt 64 (n:Int)=BitVec.ofNat 64 n:=by simp
 have e2:BitVec.ofInt 64 4294967295=BitVec.ofNat 64 4294967295:=rfl
 rw [e1,e2,BitVec.toNat_and,BitVec.toNat_ofNat,BitVec.toNat_ofNat,qcn h]
 exact Nat.and_two_pow_sub_one_eq_mod n 32
theorem qzz (n:Nat) (h:n<18446744073709551616):Op.bin .and [.int .u64 (n:Int),.int .u64 4294967295]=some (.int .u64 ((n % 4294967296:Nat):Int)):=by
 have e:Op.bin .and [.int .u64 (n:Int),.int .u64 4294967295]=some (.int .u64 (wrapI .u64 ((BitVec.ofInt 64 (n:Int) &&& BitVec.ofInt 64 4294967295).toNat:Int))):=rfl
 rw [e,bv_and32 n h,qd7 (by omega) (by omega)]
theorem qs3 (n:Nat) (h:n<18446744073709551616):Op.bin .shr [.int .u64 (n:Int),.int .u64 32]=some (.int .u64 ((n / 4294967296:Nat):Int)):=by
 have:=o_shr .u64 .u64 (n:Int) 32
 rw [show ((32:Nat):Int)=32 from rfl] at this
 rw [this]
 have e:min 32 (IntKind.bits .u64)=32:=by decide
 rw [e]
 congr 2
 rw [Int.fdiv_eq_ediv_of_nonneg _ (by decide)];rfl
theorem q2g {x y:Nat} (hx:x=1\/x=2) (hy:y<140737488355329) {H:AHeap}:yv M qca [.int .u64 (x:Int),.int .u64 (y:Int)] H fun v H'=>v=.tuple [.int .u64 0,.int .u64 ((x*y:Nat):Int)]/\H'=H:=by
 refine qpz ?_
 have hx4:x<4294967296:=by omega
 have a1:=qzz x (by omega)
 have a2:=qs3 x (by omega)
 have a3:=qzz y (by omega)
 have a4:=qs3 y (by omega)
 rw [qcn hx4] at a1
 rw [Nat.div_eq_of_lt hx4] at a2
 obtain ⟨y0,e0⟩:∃ z,z=y % 4294967296:=⟨_,rfl⟩
 obtain ⟨y1,e1⟩:∃ z,z=y / 4294967296:=⟨_,rfl⟩
 rw [<-e0] at a3;rw [<-e1] at a4
 have hxy0:x*y0<8589934592:=by rcases hx with rfl|rfl<;>omega
 have hxy1:x*y1<65538:=by rcases hx with rfl|rfl<;>omega
 have hxy:x*y<18446744073709551616:=by rcases hx with rfl|rfl<;>omega
 have w1:wrapI .u64 ((x:Int)*(y0:Int))=((x*y0:Nat):Int):=by rw [<-Int.natCast_mul];exact qd7 (by omega) (by omega)
 have w2:wrapI .u64 (((0:Nat):Int)*(y0:Int))=((0:Nat):Int):=by rw [show ((0:Nat):Int)*(y0:Int)=0 by simp];rfl
 have s1:=qs3 (x*y0) (by omega)
 obtain ⟨t,et⟩:∃ z,z=x*y0 / 4294967296:=⟨_,rfl⟩
 rw [<-et] at s1
 have ht:t<=1:=by omega
 have w3:wrapI .u64 (((0:Nat):Int)+(t:Int))=(t:Int):=by rw [qd7 (by omega) (by omega)];omega
 have a5:=qzz t (by omega)
 have s2:=qs3 t (by omega)
 rw [qcn (by omega)] at a5
 rw [Nat.div_eq_of_lt (by omega)] at s2
 have w4:wrapI .u64 ((x:Int)*(y1:Int))=((x*y1:Nat):Int):=by rw [<-Int.natCast_mul];exact qd7 (by omega) (by omega)
 have w5:wrapI .u64 ((t:Int)+((x*y1:Nat):Int))=((t+x*y1:Nat):Int):=by rw [qd7 (by omega) (by omega)];omega
 have s3:=qs3 (t+x*y1) (by omega)
 rw [Nat.div_eq_of_lt (by omega)] at s3
 have w6:wrapI .u64 (((0:Nat):Int)*(y1:Int))=((0:Nat):Int):=by rw [show ((0:Nat):Int)*(y1:Int)=0 by simp];rfl
 have w7:wrapI .u64 (((0:Nat):Int)+((0:Nat):Int))=((0:Nat):Int):=rfl
 have w8:wrapI .u64 ((x:Int)*(y:Int))=((x*y:Nat):Int):=by rw [<-Int.natCast_mul];exact qd7 (by omega) (by omega)
 obtain ⟨z,hz⟩:∃ z:Int,z=((0:Nat):Int):=⟨_,rfl⟩
 rw [<-hz] at a2 w2 w3 s2 s3 w6 w7
 simp only [↓qh,qx,reduceIte,Nat.reduceEqDiff,qp0,a1,a2,a3,a4,a5,w1,w2,s1,w3,s2,w4,w5,s3,w6,w7,w8]
 rw [hz];rfl
theorem q07 {x y:Nat} (hx:x=1\/x=2) (hy:y<140737488355329) {H:AHeap}:yv M qce [.int .u64 (x:Int),.int .u64 (y:Int)] H fun v H'=>v=.tuple [.int .u64 0,.int .u64 ((x*y:Nat):Int)]/\H'=H:=by
 refine qsx ?_
 simp only [↓qh,qx,reduceIte,Nat.reduceEqDiff,ql1]
 refine C3.q (q2g (M:=M) hx hy) fun v H1 ⟨hv,hh⟩=>?_
 subst hv;subst hh
 simp only [↓qh,qx,reduceIte,Nat.reduceEqDiff,ql1,zu]
theorem q4u {H:AHeap} {b n r:Nat} {x z:AV} {e:Nat} (hg:H.get b=some (OR (List.replicate n x++List.replicate r z) e)) (h0:0<n) (h1:0<r) (hx:oneCell x=true) :
 Op.copy 1 [.slice b n r r,.slice b 0 n (n+r)] H=some (.int .i64 ((min n r:Nat):Int),H.set b (OR (List.replicate (n+min n r) x++List.replicate (r-min n r) z) e)):=by
 obtain ⟨k,hk⟩:∃ k,k=min n r:=⟨_,rfl⟩
 have hk0:k ≠ 0:=by omega
 have f1:firstCells H 1 k (.slice b 0 n (n+r))=some (List.replicate k x):=by
  simp only [firstCells,qcf hk0,qy]
  rw [q1m (jk hg) (by simp;omega),jw,yu,qaa (by simp;omega),List.take_replicate,qan (by omega)]
 have ha:allOne (List.replicate k x)=true:=by rw [qe7];simp [hx]
 have e1:elemAt 1 (.slice b n r r) 0=some (b,n):=by
  simp only [elemAt,qes h1,qn];simp
 have hst:H.store b n (List.replicate k x)=some (H.set b (OR (List.replicate (n+k) x++List.replicate (r-k) z) e)):=by
  have ht:thawed (0,0) n (lenL (List.replicate k x))=true:=by simp [thawed]
  simp only [AHeap.store,ha,qn,hg,ht,qdi]
  rw [xi (by simp;omega),qf]
  congr 4
  ·rw [qaa (by simp),zk (by simp),List.replicate_append_replicate]
  ·rw [qbs,jv (by simp),x8,List.drop_replicate]
   congr 1;simp
 rw [<-hk]
 simp only [Op.copy,lenV,qf]
 rw [show min n r=k from hk.symm,f1,qf,qcf hk0,qy,e1,qf,hst]
 show some (AV.int .i64 (min (n:Int) (r:Int)),_)=_
 rw [show min (n:Int) (r:Int)=(k:Int) by omega]
theorem repl1 (n:Nat) (z:AV):repl n [z]=List.replicate n z:=by
 rw [repl_eq];induction n with
 | zero=>rfl
 | succ n ih=>rw [qad,jf,ih];rfl
theorem q2u {H:AHeap} {a:AV} {m:Nat} {e:Nat} {x z:AV} (ha:Sl H 1 a 1 [x]) (hx:oneCell x=true) :
 Op.copy 1 [Op.sliceTo m m H.next,a] (H.alloc (OR (List.replicate m z) e))=some (.int .i64 ((min 1 m:Nat):Int),H.alloc (OR (List.replicate (min 1 m) x++List.replicate (m-min 1 m) z) e)):=by
 have hfr:Fr Em H (H.alloc (OR (List.replicate m z) e)):=(Fr.refl H).alloc _
 have ha1:=ha.em hfr
 have lv:lenV (.slice H.next 0 m m)=some m:=rfl
 simp only [Op.copy,Op.sliceTo,lv,qf,ha.lenV]
 by_cases h0:m=0
 ·subst h0
  have f0:firstCells (H.alloc (OR (List.replicate 0 z) e)) 1 (min 1 0) a=some []:=by
   cases a<;>first|rfl|exact ha.2.elim
  rw [f0];rfl
 ·have hm:min 1 m=1:=by omega
  rw [hm,ha1.first,qf]
  have h10:Nat.beq 1 0=false:=rfl
  have e1:elemAt 1 (.slice H.next 0 m m) 0=some (H.next,0):=by
   simp only [elemAt,qes (show 0<m by omega),qn]
  have hst:(H.alloc (OR (List.replicate m z) e)).store H.next 0 [x]=some (H.alloc (OR (List.replicate 1 x++List.replicate (m-1) z) e)):=by
   have ht:thawed (0,0) 0 (lenL [x])=true:=by simp [thawed]
   have ho:allOne [x]=true:=by rw [qe7];simp [hx]
   simp only [AHeap.store,ho,qn,xr,ht,qdi]
   rw [xi (by simp;omega),qf,qrz]
   congr 3
   simp
  rw [h10,qy,e1,qf,hst]
  show some (AV.int .i64 (min ((1:Nat):Int) (m:Int)),_)=_
  rw [show min ((1:Nat):Int) (m:Int)=((1:Nat):Int) by omega]
theorem q4h {H:AHeap} {a:AV} {m:Nat} (ha:SlT encI 1 H a [3]) (hm:m*8<=140737488355328) :
 yv M qae [a,.int .i64 (m:Int)] H fun v H'=>SlT encI 1 H' v (List.replicate m 3)/\Fr Em H H' /\ ∀ b,OnS v b->H.next<=b:=by
 refine qnv ?_
 obtain ⟨w0,w2,w8,w10,w16,w20,w31,w23,w29⟩:=qnw M ⟨none,qae⟩
 have e0:¬ (m:Int)<0:=by omega
 have hl:Op.lenSl [a]=some (.int .i64 1):=ha.len
 have wl:wrapI .u64 1=1:=rfl
 have wm:wrapI .u64 (m:Int)=(m:Int):=qd7 (by omega) (by omega)
 simp only [↓qh,qx,reduceIte,Nat.reduceEqDiff,w0,w2,w8,e0,hl,wl,wm]
 refine C3.q (q07 (M:=M) (x:=1) (.inl rfl) (y:=m) (by omega)) fun v H1 ⟨hv,hh⟩=>?_
 rw [Nat.one_mul] at hv
 subst hv;subst hh
 have e1:¬ (9223372036854775807:Int)<(m:Int):=by omega
 have wi:wrapI .i64 (m:Int)=(m:Int):=jn (by omega) (by omega)
 have ho:allOne [AV.int .i64 3]=true:=rfl
 have e2:¬ (0:Int)<0:=by decide
 have hmk:=qs2 T_int 8 [.int .i64 0] m .i64 .i64 (by omega) (by omega)
 rw [repl1] at hmk
 have hcp:=q2u (m:=m) (e:=T_int) (x:=.int .i64 3) (z:=.int .i64 0) ha rfl
 simp only [↓qh,qx,reduceIte,Nat.reduceEqDiff,w10,w16,zu,e1,e2,wi,hmk,hcp,w20]
 have hn:(Op.sliceTo m m H1.next)=.slice H1.next 0 m m:=rfl
 refine LOOP3.intro (fun k E' H'=>∃ n,E'=[(8,.int .i64 (n:Nat)),(7,.slice H1.next 0 m m)]/\k=m-n/\n<=m/\(m=0\/0<n)/\H'.get H1.next=some (OR (List.replicate n (.int .i64 3)++List.replicate (m-n) (.int .i64 0)) T_int)/\Fr Em H1 H'/\H'.next=H1.next+1) ?_ ?_
 ·exact ⟨_,_,⟨min 1 m,rfl,rfl,by omega,by omega,xr ..,(Fr.refl _).alloc _,rfl⟩,by simp only [↓qh,qx,reduceIte,Nat.reduceEqDiff];rfl⟩
 rintro k E' H' ⟨n,rfl,rfl,hn,hz,hg,hf,hnx⟩
 have lenS:Op.lenSl [.slice H1.next 0 m m]=some (.int .i64 (m:Nat)):=rfl
 rcases ke n m with hlt|hge
 ·have e3:(n:Int)<(m:Nat):=by omega
  have hb1:∀ d m,bound none d m=some d:=fun _ _=>rfl
  have s1:Op.sliceSl 1 [some 0,none,none] [.slice H1.next 0 m m,.int .i64 (n:Nat)]=some (.slice H1.next n (m-n) (m-n)):=by
   simp only [Op.sliceSl,arg,qbe,j0,qf,sliceV,hb1,qdm rfl hn,qcf (show m ≠ n by omega),qy]
   simp
  have hb0:∀ h,bound none 0 h=some 0:=fun h=>rfl
  have s2:Op.sliceSl 1 [none,some 0,none] [.slice H1.next 0 m m,.int .i64 (n:Nat)]=some (.slice H1.next 0 n (n+(m-n))):=by
   simp only [Op.sliceSl,arg,qbe,j0,qf,sliceV,hb1,hb0,qdm rfl hn]
   have:cond (Nat.beq m 0) 0 (0+0*1)=0:=by cases Nat.beq m 0<;>rfl
   rw [this];congr 2;omega
  have hcp:=q4u hg (by omega) (show 0<m-n by omega) rfl
  have w3:wrapI .i64 ((n:Int)+((min n (m-n):Nat):Int))=((n+min n (m-n):Nat):Int):=by rw [jn (by omega) (by omega)];omega
  simp only [↓qh,qx,reduceIte,Nat.reduceEqDiff,w23,w29,lenS,e3,s1,s2,hcp,w3]
  refine ⟨_,_,⟨n+min n (m-n),rfl,rfl,by omega,by omega,?_,hf.set (.inr (qg _)) _,hnx⟩,by simp only [↓qh,qx,reduceIte,Nat.reduceEqDiff],by omega⟩
  rw [ji]
  congr 3
  ·congr 1;omega
 ·have hnm:n=m:=by omega
  subst hnm
  have e3:¬ (n:Int)<(n:Nat):=by omega
  simp only [↓qh,qx,reduceIte,Nat.reduceEqDiff,w23,w31,lenS,e3]
  refine ⟨?_,hf,fun b q=>by rw [q.2];exact qg _⟩
  have hg':H'.get H1.next=some (OR (List.replicate n (.int .i64 3)) T_int):=by rw [hg];simp
  refine ⟨by rw [qr7];simp,by simp,by simp,.inr ⟨by omega,_,jk hg',?_⟩⟩
  rw [qr7,vu,xi (by simp)]
  simp
end Go.Am
namespace Go.Am
open Lang Go.Proofs
variable {M:Mac} [MK M]
def ShapeQ (H:AHeap) (o:Option (List Int)) (v:AV) (H':AHeap):Prop:=Fr Em H H'/\match o with
 | none=>v=.tuple [.nils,.bool false]
 | some w=>∃ u,v=.tuple [u,.bool true]/\SlT encI 1 H' u w /\ ∀ b,OnS u b->H.next<=b
theorem ShapeQ.bad {H H':AHeap} (f:Fr Em H H'):ShapeQ H none (.tuple [.nils,.bool false]) H':=⟨f,rfl⟩
theorem qk9 {H:AHeap} {l:List Int} {c:List AV} {e n:Nat} (hc:c=l.map fun x=>AV.int .i64 x) (hn:n=l.length):SlT encI 1 (H.alloc (OR c e)) (Op.sliceTo n n H.next) l:=by
 subst hc;subst hn
 have:=q6n H (l.map fun x=>AV.int .i64 x) e (0,0) true
 rw [xf] at this
 unfold SlT;rw [qr7];exact this
theorem q3s {H:AHeap} {a:AV} {k n:Int} {kids:List Int} (ha:SlT encI 1 H a kids) (hb:kids.length*8<=140737488355328) :
 yv M qfo [.agg [.int .i64 k,.int .u64 n,a]] H (ShapeQ H (Lang.shape k n kids.length)):=by
 refine qxy ?_
 have hf1:Fr Em H (H.alloc (OR [.int .i64 k,.int .u64 n,a] zj)):=(Fr.refl H).alloc _
 have ha1:=ha.em hf1
 by_cases k2:k=2
 ·subst k2
  by_cases h7:7<n
  ·rw [show Lang.shape 2 n kids.length=none by unfold Lang.shape;rw [xi (.inl ⟨.inl rfl,h7⟩)]]
   simp only [↓qh,qx,reduceIte,Nat.reduceEqDiff,kr,qa5,Int.reduceEq,h7]
   exact .bad hf1
  ·rw [show Lang.shape 2 n kids.length=some [] by unfold Lang.shape;rw [qt (by omega),xi (by omega)]]
   simp only [↓qh,qx,reduceIte,Nat.reduceEqDiff,kr,qa5,Int.reduceEq,h7]
   exact ⟨hf1,_,rfl,⟨by simp,rfl⟩,fun b q=>(q.1 rfl).elim⟩
 by_cases k14:k=14
 ·subst k14
  by_cases h7:7<n
  ·rw [show Lang.shape 14 n kids.length=none by unfold Lang.shape;rw [xi (.inl ⟨.inr rfl,h7⟩)]]
   simp only [↓qh,qx,reduceIte,Nat.reduceEqDiff,kr,qa5,Int.reduceEq,h7]
   exact .bad hf1
  ·rw [show Lang.shape 14 n kids.length=some [1] by unfold Lang.shape;rw [qt (by omega),qt (by omega),xi (by omega)]]
   simp only [↓qh,qx,reduceIte,Nat.reduceEqDiff,kr,qa5,Int.reduceEq,h7]
   have e0:Op.buildSlice T_int 1 [.int .i64 0] [(0,1)] [.int .i64 1]=some (OR [.int .i64 1] T_int,Op.sliceTo 1 1):=rfl
   simp only [↓qh,qx,reduceIte,Nat.reduceEqDiff,kr,e0]
   exact ⟨hf1.alloc _,_,rfl,qk9 rfl rfl,fun b q=>by rw [q.2];show H.next<=H.next+1;omega⟩
 by_cases k1:k=1
 ·subst k1
  rw [show Lang.shape 1 n kids.length=some [] by unfold Lang.shape;rw [qt (by omega),xi (by omega)]]
  simp only [↓qh,qx,reduceIte,Nat.reduceEqDiff,kr,qa5,Int.reduceEq]
  exact ⟨hf1,_,rfl,⟨by simp,rfl⟩,fun b q=>(q.1 rfl).elim⟩
 by_cases h0:n=0
 ·subst h0
  by_cases k19:k=19
  ·subst k19
   rw [show Lang.shape 19 0 kids.length=some [] by unfold Lang.shape;rw [qt (by omega),xi (by omega)]]
   simp only [↓qh,qx,reduceIte,Nat.reduceEqDiff,kr,qa5,Int.reduceEq]
   exact ⟨hf1,_,rfl,⟨by simp,rfl⟩,fun b q=>(q.1 rfl).elim⟩
  by_cases k3:k=3
  ·subst k3
   rw [show Lang.shape 3 0 kids.length=some [1] by unfold Lang.shape;rw [qt (by omega),qt (by omega),xi (by omega)]]
   have e0:Op.buildSlice T_int 1 [.int .i64 0] [(0,1)] [.int .i64 1]=some (OR [.int .i64 1] T_int,Op.sliceTo 1 1):=rfl
   simp only [↓qh,qx,reduceIte,Nat.reduceEqDiff,kr,qa5,Int.reduceEq,e0]
   exact ⟨hf1.alloc _,_,rfl,qk9 rfl rfl,fun b q=>by rw [q.2];show H.next<=H.next+1;omega⟩
  have e2:Op.buildSlice T_int 2 [.int .i64 0] [(0,1),(1,1)] [.int .i64 1,.int .i64 1]=some (OR [.int .i64 1,.int .i64 1] T_int,Op.sliceTo 2 2):=rfl
  by_cases k4:4<=k/\k<=13
  ·obtain ⟨h4,h13⟩:=k4
   rw [show Lang.shape k 0 kids.length=some [1,1] by unfold Lang.shape;rw [qt (by omega),qt (by omega),qt (by omega),xi (by omega)]]
   simp only [↓qh,qx,reduceIte,Nat.reduceEqDiff,kr,qa5,k2,k14,k1,k19,k3,h4,h13,e2]
   exact ⟨hf1.alloc _,_,rfl,qk9 rfl rfl,fun b q=>by rw [q.2];show H.next<=H.next+1;omega⟩
  by_cases k15:k=15
  ·subst k15
   rw [show Lang.shape 15 0 kids.length=some [1,1] by unfold Lang.shape;rw [qt (by omega),qt (by omega),qt (by omega),xi (by omega)]]
   simp only [↓qh,qx,reduceIte,Nat.reduceEqDiff,kr,qa5,Int.reduceEq,Int.reduceLE,e2]
   exact ⟨hf1.alloc _,_,rfl,qk9 rfl rfl,fun b q=>by rw [q.2];show H.next<=H.next+1;omega⟩
  have e3:Op.buildSlice T_int 3 [.int .i64 0] [(0,1),(1,1),(2,1)] [.int .i64 2,.int .i64 4,.int .i64 4]=some (OR [.int .i64 2,.int .i64 4,.int .i64 4] T_int,Op.sliceTo 3 3):=rfl
  have e4:Op.buildSlice T_int 2 [.int .i64 0] [(0,1),(1,1)] [.int .i64 2,.int .i64 4]=some (OR [.int .i64 2,.int .i64 4] T_int,Op.sliceTo 2 2):=rfl
  by_cases k16:k=16
  ·subst k16
   by_cases hl:kids.length=3
   ·have hl':((kids.length:Nat):Int)=3:=by omega
    rw [show Lang.shape 16 0 kids.length=some [2,4,4] by unfold Lang.shape;rw [qt (by omega),qt (by omega),qt (by omega),qt (by omega),xi (by omega)]]
    simp only [↓qh,qx,reduceIte,Nat.reduceEqDiff,kr,qa5,Int.reduceEq,Int.reduceLE,ha1.len,vf hl',e3]
    exact ⟨hf1.alloc _,_,rfl,qk9 rfl rfl,fun b q=>by rw [q.2];show H.next<=H.next+1;omega⟩
   ·have hl':¬ ((kids.length:Nat):Int)=3:=by omega
    rw [show Lang.shape 16 0 kids.length=some [2,4] by unfold Lang.shape;rw [qt (by omega),qt (by omega),qt (by omega),qt (by omega),qt (by omega),xi (by omega)]]
    simp only [↓qh,qx,reduceIte,Nat.reduceEqDiff,kr,qa5,Int.reduceEq,Int.reduceLE,ha1.len,hl',e4]
    exact ⟨hf1.alloc _,_,rfl,qk9 rfl rfl,fun b q=>by rw [q.2];show H.next<=H.next+1;omega⟩
  by_cases k17:k=17
  ·subst k17
   rw [show Lang.shape 17 0 kids.length=some [2,4] by unfold Lang.shape;rw [qt (by omega),qt (by omega),qt (by omega),qt (by omega),qt (by omega),xi (by omega)]]
   simp only [↓qh,qx,reduceIte,Nat.reduceEqDiff,kr,qa5,Int.reduceEq,Int.reduceLE,e4]
   exact ⟨hf1.alloc _,_,rfl,qk9 rfl rfl,fun b q=>by rw [q.2];show H.next<=H.next+1;omega⟩
  by_cases k18:k=18
  ·subst k18
   have e5:Op.buildSlice T_int 1 [.int .i64 0] [(0,1)] [.int .i64 4]=some (OR [.int .i64 4] T_int,Op.sliceTo 1 1):=rfl
   rw [show Lang.shape 18 0 kids.length=some [4] by unfold Lang.shape;rw [qt (by omega),qt (by omega),qt (by omega),qt (by omega),qt (by omega),qt (by omega),xi (by omega)]]
   simp only [↓qh,qx,reduceIte,Nat.reduceEqDiff,kr,qa5,Int.reduceEq,Int.reduceLE,e5]
   exact ⟨hf1.alloc _,_,rfl,qk9 rfl rfl,fun b q=>by rw [q.2];show H.next<=H.next+1;omega⟩
  by_cases k20:k=20
  ·subst k20
   have e5:Op.buildSlice T_int 1 [.int .i64 0] [(0,1)] [.int .i64 3]=some (OR [.int .i64 3] T_int,Op.sliceTo 1 1):=rfl
   rw [show Lang.shape 20 0 kids.length=some (List.replicate kids.length 3) by unfold Lang.shape;rw [qt (by omega),qt (by omega),qt (by omega),qt (by omega),qt (by omega),qt (by omega),qt (by omega),xi (by omega)]]
   have ha2:=ha1.em ((Fr.refl _).alloc (OR [.int .i64 3] T_int))
   have l2:Op.load1 [.ptr H.next 2] ((H.alloc (OR [.int .i64 20,.int .u64 0,a] zj)).alloc (OR [.int .i64 3] T_int))=some a:=by
    rw [q5p,qfq (by rw [ze];omega),xr];rfl
   simp only [↓qh,qx,reduceIte,Nat.reduceEqDiff,kr,qa5,Int.reduceEq,Int.reduceLE,e5,l2,ha2.len]
   refine C3.q (q4h (M:=M) (qk9 rfl rfl) hb) fun v H2 ⟨hv,hf,hfr⟩=>?_
   simp only [↓qh,qx,reduceIte,Nat.reduceEqDiff,kr]
   exact ⟨(hf1.alloc _).em hf,_,rfl,hv,fun b q=>by have:=hfr b q;rw [ze,ze] at this;omega⟩
  ·rw [show Lang.shape k 0 kids.length=none by unfold Lang.shape;rw [qt (by omega),qt (by omega),qt (by omega),qt (by omega),qt (by omega),qt (by omega),qt (by omega),qt (by omega)]]
   by_cases h4:4<=k
   ·have h13:¬ k<=13:=fun q=>k4 ⟨h4,q⟩
    simp only [↓qh,qx,reduceIte,Nat.reduceEqDiff,kr,qa5,k2,k14,k1,k19,k3,h4,h13,k15,k16,k17,k18,k20]
    exact .bad hf1
   ·simp only [↓qh,qx,reduceIte,Nat.reduceEqDiff,kr,qa5,k2,k14,k1,k19,k3,h4,k15,k16,k17,k18,k20]
    exact .bad hf1
 ·rw [show Lang.shape k n kids.length=none by unfold Lang.shape;rw [xi (by omega)]]
  simp only [↓qh,qx,reduceIte,Nat.reduceEqDiff,kr,qa5,k2,k14,k1,h0]
  exact .bad hf1
end Go.Am
namespace Go.Am
open Lang Go.Proofs
variable {M:Mac} [MK M]
theorem SlT.frS {α:Type} {enc:α->List AV} {size:Nat} {H H':AHeap} {W:Nat->Prop} {v:AV} {xs:List α} (h:SlT enc size H v xs) (f:Fr W H H') (hw:∀ b,OnS v b -> ¬ W b):SlT enc size H' v xs:=by
 by_cases hv:v=.nils
 ·subst hv
  have h0:xs.length=0:=h.2
  exact Sl.fr h f (.inl h0)
 ·exact Sl.fr h f (.inr (hw _ ⟨hv,rfl⟩))
def bls (fl:List Bool):List AV:=fl.map AV.bool
theorem bls_len (fl:List Bool):(bls fl).length=fl.length:=by simp [bls]
structure MayS (H Hc:AHeap) (tv:AV) (t:List Nd) (B:Nat) (sv:AV) (st:List Nat) (fl:List Bool):Prop where
 nd:Nds H tv t
 stk:Stk T_int H Hc sv st
 row:Hc.get B=some (OR (bls fl) qw5)
 lo:H.next<=B
 hi:B<Hc.next
 nb:¬ OnS sv B
section
variable {H Hc Hd:AHeap} {tv:AV} {t:List Nd} {B:Nat} {sv:AV} {st:List Nat} {fl:List Bool}
theorem MayS.em (h:MayS H Hc tv t B sv st fl) (f:Fr Em Hc Hd):MayS H Hd tv t B sv st fl :=
 ⟨h.nd,h.stk.em f,by rw [f.keep B h.hi id,h.row],h.lo,qi h.hi f.next,h.nb⟩
theorem MayS.nds (h:MayS H Hc tv t B sv st fl):Nds Hc tv t:=h.nd.em h.stk.fr
theorem MayS.ix (h:MayS H Hc tv t B sv st fl) (n:Nat) {j:Nat} (hj:j<n) (k:IntKind):Op.indexSl 1 [.slice B 0 n n,.int k (j:Int)]=some (.ptr B j):=by
 simp only [Op.indexSl,lenV,qf,qin rfl hj,elemAt,qes hj,qn];simp
theorem MayS.ld (h:MayS H Hc tv t B sv st fl) {j:Nat} {q:Bool} (hq:fl[j]? = some q):Op.load1 [.ptr B j] Hc=some (.bool q):=by
 rw [vo (jk h.row),bls,xh,hq];rfl
theorem MayS.put (h:MayS H Hc tv t B sv st fl) {j:Nat} (hj:j<fl.length) (q:Bool):∃ Hd,Op.store 1 [.ptr B j,.bool q] Hc=some (.undef,Hd)/\MayS H Hd tv t B sv st (fl.set j q)/\Fr (On B) Hc Hd:=by
 have e:(bls fl).take j++(AV.bool q).cells++(bls fl).drop (j+1)=bls (fl.set j q):=by
  show (bls fl).take j ++ [AV.bool q]++(bls fl).drop (j+1)=_
  rw [bls,bls,List.map_set,yw,xi (by simpa using hj)]
  simp
 have hs:=qda h.row (o:=j) (n:=1) (v:=.bool q) rfl (by rw [bls_len];omega) rfl
 rw [e] at hs
 have hf:Fr (On B) Hc (Hc.set B (OR (bls (fl.set j q)) qw5)):=(Fr.refl Hc).set (W:=On B) (.inl rfl) _
 exact ⟨_,hs,⟨h.nd,h.stk.frW hf (h.stk.fr.set (.inr h.lo) _) fun b hb q=>h.nb (by rw [<-q];exact hb),ji ..,h.lo,h.hi,h.nb⟩,hf⟩
theorem MayS.top (h:MayS H Hc tv t B sv st fl) {m:Nat} (hm:m<=st.length) {tp:AV} (htp:Op.sliceSl 1 [some 0,none,none] [sv,.int .i64 ((st.length-m:Nat):Int)]=some tp):SlT encZ 1 Hc tp (st.drop (st.length-m)):=by
 obtain ⟨v',h1,h2,_⟩:=h.stk.sl.from qvj (k:=st.length-m) (by omega) rfl .i64
 rw [htp] at h1;injection h1 with h1;subst h1;exact h2
end
theorem qxd {α:Type} {l:List α} {i:Nat} {x:α} (h:l[i]? = some x):l.drop i=x::l.drop (i+1):=by
 have hi:=(xa.1 h).1
 rw [qcv hi];congr 1;simpa [hi] using h
theorem fl_get {fl r:List Bool} {a:Bool} {j:Nat} (hj:j<fl.length):(fl++a::r)[j]? = some (fl.getD j false):=by
 rw [xp hj,yd hj,List.getD_eq_getElem?_getD,yd hj];rfl
theorem fl_at (fl r:List Bool) (a:Bool):(fl++a::r)[fl.length]? = some a:=by simp
theorem fl_set (fl r:List Bool) (a b:Bool):(fl++a::r).set fl.length b=fl++b::r:=by simp
theorem q5q {H Hc:AHeap} {tv sv tp wv kv:AV} {t:List Nd} {B c i m:Nat} {st:List Nat} {fl r:List Bool} {kids want:List Int} {Q:Post3} {E:Env}
 (hs:MayS H Hc tv t B sv st (fl++false::r)) (hi:fl.length=i) (hn:t.length=i+1+r.length) (hn2:t.length<=2000) (hm:kids.length=m) (hw:want.length=m) (hms:m<=st.length) (hst:∀ s ∈ st,s<i) (hsl:st.length<=2000)
 (htp:Op.sliceSl 1 [some 0,none,none] [sv,.int .i64 ((st.length-m:Nat):Int)]=some tp) (hwv:SlT encI 1 Hc wv want) (hwB:∀ b,OnS wv b->b ≠ B) (hkv:SlT encI 1 H kv kids)
 (e9:lk E 9=some tp) (e7:lk E 7=some wv) (e0:lk E 0=some tv) (e4:lk E 4=some (.slice B 0 t.length t.length)) (e5:lk E 5=some (.int .i64 (i:Int))) (e3:lk E 3=some sv) (e6:lk E 6=some (.ptr c 0)) (e33:lk E 33=some tv) (e34:lk E 34=some (.int .i64 (t.length:Nat))) (e35:lk E 35=some (.int .i64 (i:Int)))
 (hbad:∀ E' H',lk E' 2=some (.bool false)->Fr Em H H' -> ¬ (kids=ints (st.drop (st.length-m))/\(st.drop (st.length-m)).map (Lang.clsAt t)=want)->Q .ret E' [] H')
 (hok:∀ H',MayS H H' tv t B sv st (fl++((st.drop (st.length-m)).any fun j=>fl.getD j false)::r)->Fr (On B) Hc H'->kids=ints (st.drop (st.length-m))->(st.drop (st.length-m)).map (Lang.clsAt t)=want ->
  W M ⟨none,qbm⟩ (xo 66) true Q [(72,.int .i64 (m:Nat)),(71,.int .i64 (m:Nat)),(70,kv),(9,tp),(7,wv),(0,tv),(4,.slice B 0 t.length t.length),(5,.int .i64 (i:Int)),(3,sv),(6,.ptr c 0),(33,tv),(34,.int .i64 (t.length:Nat)),(35,.int .i64 (i:Int))] [] H') :
 LOOP3 (W M ⟨none,qbm⟩ (xo 46)) (BLK3 2 (SEQ3 (W M ⟨none,qbm⟩ (xo 66)) Q)) ((72,.int .i64 0)::(71,.int .i64 (m:Nat))::(70,kv)::E) [] Hc:=by
 obtain ⟨-,-,-,-,-,-,-,-,-,-,-,-,w46,-,-,w52,-,w65,w56,w64⟩:=qum M ⟨none,qbm⟩
 have htl:(st.drop (st.length-m)).length=m:=by rw [ym];omega
 refine LOOP3.intro (fun k E' H'=>∃ j,E'=[(72,.int .i64 (j:Nat)),(71,.int .i64 (m:Nat)),(70,kv),(9,tp),(7,wv),(0,tv),(4,.slice B 0 t.length t.length),(5,.int .i64 (i:Int)),(3,sv),(6,.ptr c 0),(33,tv),(34,.int .i64 (t.length:Nat)),(35,.int .i64 (i:Int))]/\k=m-j/\j<=m /\
  MayS H H' tv t B sv st (fl++(((st.drop (st.length-m)).take j).any fun j=>fl.getD j false)::r)/\Fr (On B) Hc H'/\kids.take j=ints ((st.drop (st.length-m)).take j)/\((st.drop (st.length-m)).take j).map (Lang.clsAt t)=want.take j) ?_ ?_
 ·exact ⟨_,_,⟨0,rfl,rfl,by omega,hs,Fr.refl _,rfl,rfl⟩,by simp only [↓qh,qx,reduceIte,Nat.reduceEqDiff,e9,e7,e0,e4,e5,e3,e6,e33,e34,e35]⟩
 rintro k E' H' ⟨j,rfl,rfl,hj,hs',hf,hk1,hk2⟩
 rcases ke j m with hlt|hge
 ·have c1:(j:Int)<(m:Nat):=by omega
  obtain ⟨kid,hkid⟩:∃ x,kids[j]? = some x:=⟨kids[j]'(by omega),by simp [show j<kids.length by omega]⟩
  obtain ⟨tj,htj⟩:∃ x,(st.drop (st.length-m))[j]? = some x:=⟨(st.drop (st.length-m))[j]'(by omega),by simp [show j<(st.drop (st.length-m)).length by omega]⟩
  obtain ⟨wj,hwj⟩:∃ x,want[j]? = some x:=⟨want[j]'(by omega),by simp [show j<want.length by omega]⟩
  have htop:=hs'.top hms htp
  have hkv':=hkv.em hs'.stk.fr
  obtain ⟨ki,kl⟩:=hkv'.getI hkid
  have ti:=htop.idx htj (z:=(j:Int)) rfl .i64
  have tl:Op.load1 [.ptr (slB tp) (slO 1 tp j)] H'=some (.int .i64 (tj:Nat)):=by rw [htop.load0 qvj htj (by decide)];rfl
  have htjm:tj ∈ st:=List.mem_of_mem_drop (zh htj)
  have htji:=hst tj htjm
  have hstep:∀ {x:Int},kid=x->x=(tj:Int)->kids.take (j+1)=ints ((st.drop (st.length-m)).take (j+1)):=by
   intro x h1 h2
   rw [vk,hkid,vk,htj,hk1,h1,h2];simp [ints]
  have wt:wrapI .i64 ((j:Int)+1)=((j+1:Nat):Int):=by rw [jn (by omega) (by omega)];omega
  by_cases hkt:(tj:Int)=kid
  ·subst hkt
   obtain ⟨x,hx⟩:∃ x,t[tj]? = some x:=⟨t[tj]'(by omega),by simp [show tj<t.length by omega]⟩
   obtain ⟨a,_,_,nix,_,nl0,_,_⟩:=hs'.nds.get hx
   have hcls:Lang.clsAt t tj=Lang.cls x.k:=by unfold Lang.clsAt;rw [hx]
   have hwv':=hwv.frS hf hwB
   obtain ⟨wi,wl⟩:=hwv'.getI hwj
   simp only [↓qh,qx,reduceIte,Nat.reduceEqDiff,w46,w52,w56,c1,ki,kl,ti,tl,nix,nl0,wi,wl]
   refine C3.q (q2t (M:=M) x.k) fun v H2 ⟨hv,hh⟩=>?_
   subst hv;subst hh
   by_cases hcw:Lang.cls x.k=wj
   ·simp only [↓qh,qx,reduceIte,Nat.reduceEqDiff,wl,hcw]
    have l1:=hs'.ld (fl_at fl r _)
    have l2:=hs'.ld (fl_get (a:=((st.drop (st.length-m)).take j).any fun j=>fl.getD j false) (r:=r) (j:=tj) (by omega))
    have i1:=hs'.ix t.length (j:=i) (by omega) .i64
    have i2:=hs'.ix t.length (j:=tj) (by omega) .i64
    rw [hi] at l1
    have any1:(((st.drop (st.length-m)).take (j+1)).any fun j=>fl.getD j false)=((((st.drop (st.length-m)).take j).any fun j=>fl.getD j false) || fl.getD tj false):=by
     rw [vk,htj];simp
    have fin:∀ (q:Bool),q=(((st.drop (st.length-m)).take (j+1)).any fun j=>fl.getD j false) -> ∃ Hd,Op.store 1 [.ptr B i,.bool q] H2=some (.undef,Hd)/\MayS H Hd tv t B sv st (fl++(((st.drop (st.length-m)).take (j+1)).any fun j=>fl.getD j false)::r)/\Fr (On B) H2 Hd:=fun q hq=>by
     obtain ⟨Hd,s1,s2,s3⟩:=hs'.put (j:=i) (by simp;omega) q
     refine ⟨Hd,s1,?_,s3⟩
     rw [<-hi,fl_set,hq] at s2;exact s2
    have htk:((st.drop (st.length-m)).take (j+1)).map (Lang.clsAt t)=want.take (j+1):=by
     rw [vk,htj,vk,hwj,ve,hk2];simp [hcls,hcw]
    cases hq:((st.drop (st.length-m)).take j).any fun j=>fl.getD j false with
    | true =>
     rw [hq] at l1 any1
     obtain ⟨Hd,s1,s2,s3⟩:=fin true (by rw [any1];rfl)
     simp only [↓qh,qx,reduceIte,Nat.reduceEqDiff,w64,w65,i1,l1,s1,wt]
     exact ⟨_,_,⟨j+1,rfl,rfl,by omega,s2,hf.trans s3 (fun x h=>.inl h),hstep rfl rfl,htk⟩,by simp only [↓qh,qx,reduceIte,Nat.reduceEqDiff],by omega⟩
    | false =>
     rw [hq] at l1 any1
     obtain ⟨Hd,s1,s2,s3⟩:=fin (fl.getD tj false) (by rw [any1];rfl)
     simp only [↓qh,qx,reduceIte,Nat.reduceEqDiff,w64,w65,i1,l1,i2,l2,s1,wt]
     exact ⟨_,_,⟨j+1,rfl,rfl,by omega,s2,hf.trans s3 (fun x h=>.inl h),hstep rfl rfl,htk⟩,by simp only [↓qh,qx,reduceIte,Nat.reduceEqDiff],by omega⟩
   ·simp only [↓qh,qx,reduceIte,Nat.reduceEqDiff,wl,hcw]
    refine hbad _ _ rfl hs'.stk.fr fun q=>hcw ?_
    have:=congrArg (fun l=>l[j]?) q.2
    simp only [xh,htj,hwj,wn,hcls] at this
    exact kp this
  ·simp only [↓qh,qx,reduceIte,Nat.reduceEqDiff,w46,w52,w56,c1,ki,kl,ti,tl,hkt]
   refine hbad _ _ rfl hs'.stk.fr fun q=>hkt ?_
   have:=congrArg (fun l=>l[j]?) q.1
   simp only [hkid,ints,xh,htj,wn] at this
   exact (kp this).symm
 ·have hjm:j=m:=by omega
  subst hjm
  have c1:¬ (j:Int)<(j:Nat):=by omega
  rw [zk (l:=st.drop (st.length-j)) (by omega)] at hs' hk1 hk2
  rw [zk (l:=kids) (by omega)] at hk1
  rw [zk (l:=want) (by omega)] at hk2
  simp only [↓qh,qx,reduceIte,Nat.reduceEqDiff,w46,c1]
  exact hok _ hs' hf hk1 hk2
end Go.Am
namespace Go.Am
open Lang Go.Proofs
variable {M:Mac} [MK M]
theorem qzw {t:List Nd} (h:¬ (1<=t.length/\t.length<=2000/\kLast t=20)):mayB t=false:=by
 unfold mayB;rw [wq h];rfl
theorem mayB_go {t:List Nd} (h:1<=t.length/\t.length<=2000/\kLast t=20):mayB t=mgo t t 0 [] []:=by
 unfold mayB;rw [qb8 h];rfl
theorem qo5 {t r:List Nd} {x:Nd} {i:Nat} {st:List Nat} {fl:List Bool} (h:mstep t x i st fl=none):mgo t (x::r) i st fl=false:=by
 rw [mgo,h]
theorem mgo_some {t r:List Nd} {x:Nd} {i:Nat} {st st':List Nat} {fl fl':List Bool} (h:mstep t x i st fl=some (st',fl')):mgo t (x::r) i st fl=mgo t r (i+1) st' fl':=by
 rw [mgo,h]
theorem rep_cons {n i:Nat} (h:i<n):List.replicate (n-i) false=false::List.replicate (n-i-1) false:=by
 rw [show n-i=(n-i-1)+1 by omega,qad];simp
theorem may_push {H Hc:AHeap} {tv:AV} {t:List Nd} {B i m:Nat} {sv:AV} {st:List Nat} {fl:List Bool} (h:MayS H Hc tv t B sv st fl) (hm:m<=st.length) (hl:st.length<=2000) {z:Int} (hz:z=((st.length-m:Nat):Int)) :
 ∃ v',Op.sliceSl 1 [none,some 0,none] [sv,.int .i64 z]=some v' /\ ∀ {K:AObj->(Nat->AV)->Bool->AV->AHeap->Prop} {g:Bool},
  (∀ sv' H',MayS H H' tv t B sv' (st.take (st.length-m) ++ [i]) fl->K (.row [.int .i64 (i:Int)] T_int (0,0) true) (Op.sliceTo 1 1) g sv' H') ->
  B32 g (Op.buildSlice T_int 1 [.int .i64 0] [(0,1)] [.int .i64 (i:Int)]) fun g o mk=>B32 g (Op.append T_int 1 8 [v',mk Hc.next] (Hc.alloc o)) (K o mk):=by
 obtain ⟨v',h1,h2,h3⟩:=h.stk.cut (k:=st.length-m) (by omega) hz .i64
 refine ⟨v',h1,fun {K g} hk=>h2.push (zero:=[.int .i64 0]) (bytes:=8) rfl (by rw [z9];omega) (by rw [z9];omega) fun sv' H' q1 q2 q3=>hk sv' H' ⟨h.nd,q1,?_,h.lo,qi h.hi q2.next,?_⟩⟩
 ·rw [q2.keep B h.hi fun q=>h.nb (h3 B q),h.row]
 ·intro q
  rcases q3 B q with q|q
  ·exact h.nb (h3 B q)
  ·have:=h.hi;omega
theorem may_spec {H:AHeap} {tv:AV} {t:List Nd} (hn:Nds H tv t) (hz:∀ x ∈ t,x.kids.length*8<=140737488355328):yv M qbm [tv] H fun v H'=>v=.bool (mayB t)/\Fr Em H H':=by
 refine q23 ?_
 obtain ⟨w0,w2,w10,w14,w82,w19,w25,w81,w31,w39,w41,w66,-,w80,w70,-,w78,-,-,-⟩:=qum M ⟨none,qbm⟩
 by_cases c1:((t.length:Nat):Int)<1
 ·rw [qzw (by omega)]
  simp only [↓qh,qx,reduceIte,Nat.reduceEqDiff,w0,w2,hn.len,c1]
  exact Fr.refl _
 by_cases c2:(2000:Int)<((t.length:Nat):Int)
 ·rw [qzw (by omega)]
  simp only [↓qh,qx,reduceIte,Nat.reduceEqDiff,w0,w2,hn.len,c1,c2]
  exact Fr.refl _
 obtain ⟨x0,hx0⟩:∃ x,t[t.length-1]? = some x:=⟨t[t.length-1]'(by omega),by simp [show t.length-1<t.length by omega]⟩
 have wl:wrapI .i64 (((t.length:Nat):Int)-1)=((t.length-1:Nat):Int):=by rw [jn (by omega) (by omega)];omega
 have hkl:kLast t=x0.k:=by unfold kLast;rw [hx0]
 obtain ⟨a0,_,_,n1,_,n2,_,_⟩:=hn.get hx0
 by_cases c3:x0.k=20
 ·have c3':=vf c3
  have hmk:=qs2 qw5 1 [.bool false] t.length .i64 .i64 (by omega) (by omega)
  rw [repl1] at hmk
  simp only [↓qh,qx,reduceIte,Nat.reduceEqDiff,w0,w2,w10,w14,hn.len,c1,c2,wl,n1,n2,c3',hmk]
  rw [mayB_go (by omega)]
  have hB:(Op.sliceTo t.length t.length H.next)=.slice H.next 0 t.length t.length:=rfl
  have hm0:MayS H (H.alloc (OR (List.replicate t.length (.bool false)) qw5)) tv t H.next .nils [] ([]++List.replicate (t.length-0) false) :=
   ⟨hn,⟨.inl ⟨rfl,rfl⟩,(Fr.refl H).alloc _⟩,by rw [xr];simp [bls],qg _,by rw [ze];omega,fun q=>q.1 rfl⟩
  refine LOOP3.intro (fun k E' H'=>∃ i sv st fl,E'=[(35,.int .i64 (i:Nat)),(34,.int .i64 (t.length:Nat)),(33,tv),(4,.slice H.next 0 t.length t.length),(3,sv),(0,tv)]/\k=t.length-i/\i<=t.length/\fl.length=i/\(∀ s ∈ st,s<i)/\st.length<=i /\
   MayS H H' tv t H.next sv st (fl++List.replicate (t.length-i) false)/\mgo t (t.drop i) i st fl=mgo t t 0 [] []) ?_ ?_
  ·exact ⟨_,_,⟨0,.nils,[],[],rfl,rfl,by omega,rfl,by simp,by simp,hm0,rfl⟩,by simp only [↓qh,qx,reduceIte,Nat.reduceEqDiff];rfl⟩
  rintro k E' Hc ⟨i,sv,st,fl,rfl,rfl,hi,hfl,hst,hsl,hs,hgo⟩
  rcases ke i t.length with hlt|hge
  ·have d1:(i:Int)<(t.length:Nat):=by omega
   obtain ⟨x,hx⟩:∃ x,t[i]? = some x:=⟨t[i],by simp [hlt]⟩
   obtain ⟨a,ha,ha1,m1,m2,m3,m4,m5⟩:=hs.nds.get hx
   rw [qxd hx] at hgo
   rw [rep_cons hlt] at hs
   have hst0:=q1p Hc x ha1 zj
   have hld:=node_ldN Hc x a zj
   have hs1:=hs.em ((Fr.refl Hc).alloc (OR [.int .i64 x.k,.int .u64 x.n,a] zj))
   have hkb:=hz x (zh hx)
   simp only [↓qh,qx,reduceIte,Nat.reduceEqDiff,w19,w25,d1,m1,m2,hst0,hld]
   have hkv0:SlT encI 1 H a x.kids:=by
    obtain ⟨a',q1,_,_,q2,_⟩:=hn.get hx
    have:=hs.stk.fr
    obtain ⟨a'',r1,_,_,r2,_⟩:=(hn.em this).get hx
    have e1:=m2.symm.trans r2
    injection e1 with e1;injection e1 with e1;injection e1 with _ e1;injection e1 with _ e1;injection e1 with e1 _
    obtain ⟨zs,z1,z2,z3⟩:=hn.ex
    have hz2:=z2.em this
    obtain ⟨z,hz,hzx⟩:∃ z,zs[i]? = some z/\z.1=x:=by
     rw [<-z1,xh] at hx
     cases hq:zs[i]? with
     | none=>rw [hq] at hx;cases hx
     | some z=>rw [hq] at hx;injection hx with hx;exact ⟨z,rfl,hx⟩
    have e2:=hz2.loadN qhy (by decide) hz
    have e3:=m2.symm.trans e2
    injection e3 with e3;injection e3 with e3;injection e3 with _ e3;injection e3 with _ e3;injection e3 with e3 _
    rw [e3,<-hzx];exact z3 z (zh hz)
   refine C3.q (q3s (M:=M) (k:=x.k) (n:=x.n) (ha.em ((Fr.refl Hc).alloc _)) hkb) fun v H2 ⟨hf2,hv⟩=>?_
   have hs2:=hs1.em hf2
   have hrow:H2.get Hc.next=some (OR [.int .i64 x.k,.int .u64 x.n,a] zj):=by rw [hf2.keep _ (by rw [ze];omega) id,xr]
   have hc2:Hc.next<H2.next:=by have:=hf2.next;rw [ze] at this;omega
   have l2:∀ o,Op.load1 [.ptr Hc.next o] H2=[AV.int .i64 x.k,.int .u64 x.n,a][o]?:=fun o=>vo (jk hrow) o
   cases hsh:Lang.shape x.k x.n x.kids.length with
   | none =>
    rw [hsh] at hv
    have hv:v=.tuple [.nils,.bool false]:=hv
    subst hv
    have hms:mstep t x i st fl=none:=by unfold mstep;rw [hsh]
    rw [qo5 hms] at hgo
    simp only [↓qh,qx,reduceIte,Nat.reduceEqDiff,zu,w31]
    exact ⟨by rw [<-hgo],hs2.stk.fr⟩
   | some want =>
    rw [hsh] at hv
    obtain ⟨u,rfl,hu,hun⟩:=hv
    have hkl2:=(hkv0.em hs2.stk.fr).len
    have hstl:=hs2.stk.sl.len
    by_cases e1:want.length=x.kids.length
    ·by_cases e2:want.length<=st.length
     ·have f1:¬ ((want.length:Nat):Int) ≠ ((x.kids.length:Nat):Int):=by omega
      have f2:¬ ((st.length:Nat):Int)<((want.length:Nat):Int):=by omega
      have f1':((want.length:Nat):Int)=((x.kids.length:Nat):Int):=by omega
      have ws:wrapI .i64 (((st.length:Nat):Int)-((want.length:Nat):Int))=((st.length-x.kids.length:Nat):Int):=by rw [jn (by omega) (by omega)];omega
      obtain ⟨tp,htp,_,_⟩:=hs2.stk.sl.from qvj (k:=st.length-x.kids.length) (by omega) rfl .i64
      rw [f1'] at f2 ws
      have hul:=hu.len
      rw [e1] at hul
      simp only [↓qh,qx,reduceIte,Nat.reduceEqDiff,zu,w31,w39,w41,hul,l2,hkl2,hstl,f2,ws,htp]
      refine q5q (M:=M) (c:=Hc.next) (want:=want) hs2 hfl (by simp;omega) (by omega) rfl e1 (by omega) hst (by omega) htp hu (fun b hb q=>?_) hkv0 rfl rfl rfl rfl rfl rfl rfl rfl rfl rfl (fun E' H' q2 hf hne=>?_) fun H3 hs3 hf3 hk1 hk2=>?_
      ·have:=hun b hb;rw [ze] at this;have:=hs.hi;omega
      ·have hms:mstep t x i st fl=none:=by
        unfold mstep;rw [hsh];simp only;rw [qt (fun q=>hne (by rw [<-e1];exact ⟨q.2.2.1,q.2.2.2⟩))]
       rw [qo5 hms] at hgo
       simp only [↓qh,qx,reduceIte,Nat.reduceEqDiff,q2]
       exact ⟨by rw [<-hgo],hf⟩
      ·have hrow3:H3.get Hc.next=some (OR [.int .i64 x.k,.int .u64 x.n,a] zj):=by rw [hf3.keep _ hc2 (fun q=>by have:Hc.next=H.next:=q;have:=hs.hi;omega),hrow]
       have l3:∀ o,Op.load1 [.ptr Hc.next o] H3=[AV.int .i64 x.k,.int .u64 x.n,a][o]?:=fun o=>vo (jk hrow3) o
       have hcond:want.length=x.kids.length/\want.length<=st.length/\x.kids=ints (st.drop (st.length-want.length))/\(st.drop (st.length-want.length)).map (Lang.clsAt t)=want:=⟨e1,e2,by rw [e1];exact hk1,by rw [e1];exact hk2⟩
       have hms:mstep t x i st fl=if x.k=18/\((st.drop (st.length-x.kids.length)).any fun j=>fl.getD j false)=true then none else some (st.take (st.length-x.kids.length) ++ [i],fl ++ [((st.drop (st.length-x.kids.length)).any fun j=>fl.getD j false) || decide (x.k=18)]):=by
        unfold mstep;rw [hsh];simp only;rw [xi hcond,e1]
       generalize ((st.drop (st.length-x.kids.length)).any fun j=>fl.getD j false)=q at hms hs3
       have i1:=hs3.ix t.length (j:=i) (by omega) .i64
       have fa:=hs3.ld (fl_at fl (List.replicate (t.length-i-1) false) q)
       rw [hfl] at fa
       have hstl3:=hs3.stk.sl.len
       have wi:wrapI .i64 ((i:Int)+1)=((i+1:Nat):Int):=by rw [jn (by omega) (by omega)];omega
       have fin:∀ (q':Bool) (H4:AHeap) (E':Env),mstep t x i st fl=some (st.take (st.length-x.kids.length) ++ [i],fl ++ [q'])->MayS H H4 tv t H.next sv st (fl++q'::List.replicate (t.length-i-1) false)->SlT encI 1 H4 u want ->
        lk E' 3=some sv->lk E' 7=some u->lk E' 5=some (.int .i64 (i:Int))->lk E' 35=some (.int .i64 (i:Int))->lk E' 34=some (.int .i64 (t.length:Nat))->lk E' 33=some tv->lk E' 4=some (.slice H.next 0 t.length t.length)->lk E' 0=some tv ->
        W M ⟨none,qbm⟩ (xo 80) true (BLK3 1 (SEQ3 (W M ⟨none,qbm⟩ (xo 81)) (LQ3 (fun k E' H'=>∃ i sv st fl,E'=[(35,.int .i64 (i:Nat)),(34,.int .i64 (t.length:Nat)),(33,tv),(4,.slice H.next 0 t.length t.length),(3,sv),(0,tv)]/\k=t.length-i/\i<=t.length/\fl.length=i/\(∀ s ∈ st,s<i)/\st.length<=i /\
         MayS H H' tv t H.next sv st (fl++List.replicate (t.length-i) false)/\mgo t (t.drop i) i st fl=mgo t t 0 [] []) [] (t.length-i) (BLK3 0 (SEQ3 (W M ⟨none,qbm⟩ (xo 82)) (FIN3 M [.tmp 2] (RT3 fun v H'=>v=.bool (mgo t t 0 [] [])/\Fr Em H H'))))))) E' [] H4:=by
        intro q' H4 E' hm4 hs4 hu4 r3 r7 r5 r35 r34 r33 r4 r0
        rw [mgo_some hm4] at hgo
        obtain ⟨sv',p1,p2⟩:=may_push (i:=i) (m:=x.kids.length) hs4 (by omega) (by omega) (z:=((st.length-x.kids.length:Nat):Int)) rfl
        have hul4:=hu4.len
        rw [e1] at hul4
        simp only [↓qh,qx,reduceIte,Nat.reduceEqDiff,w80,r3,r7,r5,hs4.stk.sl.len,hul4,ws,p1]
        refine p2 fun sv2 H5 hs5=>?_
        simp only [↓qh,qx,reduceIte,Nat.reduceEqDiff,w81,r35,wi]
        refine ⟨_,_,⟨i+1,sv2,st.take (st.length-x.kids.length) ++ [i],fl ++ [q'],rfl,rfl,by omega,by simp;omega,fun s hs=>?_,?_,?_,hgo⟩,by simp only [↓qh,qx,reduceIte,Nat.reduceEqDiff,r34,r33,r4,r0],by omega⟩
        ·rcases xj.1 hs with hs|hs
         ·have:=hst s (List.mem_of_mem_take hs);omega
         ·rw [xb.1 hs];omega
        ·rw [qe,z9];simp;omega
        ·rw [show t.length-(i+1)=t.length-i-1 by omega,qo];exact hs5
       have hu3:SlT encI 1 H3 u want:=hu.frS hf3 fun b hb q=>by
        have:=hun b hb;rw [ze] at this;have:=hs.hi;have:b=H.next:=q;omega
       by_cases k18:x.k=18
       ·cases q with
        | true =>
         rw [xi ⟨k18,rfl⟩] at hms
         rw [qo5 hms] at hgo
         simp only [↓qh,qx,reduceIte,Nat.reduceEqDiff,w66,w70,l3,vf k18,i1,fa]
         exact ⟨by rw [<-hgo],hs3.stk.fr⟩
        | false =>
         rw [qt (fun q=>nomatch q.2),qb8 k18] at hms
         obtain ⟨H4,s1,s2,s3⟩:=hs3.put (j:=i) (by simp;omega) true
         have s2':MayS H H4 tv t H.next sv st (fl++true::List.replicate (t.length-i-1) false):=by rw [<-hfl,fl_set] at s2;rw [<-hfl];exact s2
         simp only [↓qh,qx,reduceIte,Nat.reduceEqDiff,w66,w70,w78,l3,vf k18,i1,fa,s1]
         exact fin true H4 _ hms s2' (hu3.frS s3 fun b hb q=>by have:=hun b hb;rw [ze] at this;have:=hs.hi;have:b=H.next:=q;omega) rfl rfl rfl rfl rfl rfl rfl rfl
       ·rw [qt (fun q=>k18 q.1),wq k18,Bool.or_false] at hms
        simp only [↓qh,qx,reduceIte,Nat.reduceEqDiff,w66,l3,k18]
        exact fin q H3 _ hms hs3 hu3 rfl rfl rfl rfl rfl rfl rfl rfl
     ·have f1':((want.length:Nat):Int)=((x.kids.length:Nat):Int):=by omega
      have f2:((st.length:Nat):Int)<((want.length:Nat):Int):=by omega
      have hms:mstep t x i st fl=none:=by
       unfold mstep;rw [hsh];simp only;rw [qt (fun q=>e2 q.2.1)]
      rw [qo5 hms] at hgo
      rw [f1'] at f2
      have hul:=hu.len
      rw [e1] at hul
      simp only [↓qh,qx,reduceIte,Nat.reduceEqDiff,zu,w31,hul,l2,hkl2,hstl,f2]
      exact ⟨by rw [<-hgo],hs2.stk.fr⟩
    ·have f1:¬ ((want.length:Nat):Int)=((x.kids.length:Nat):Int):=by omega
     have hms:mstep t x i st fl=none:=by
      unfold mstep;rw [hsh];simp only;rw [qt (fun q=>e1 q.1)]
     rw [qo5 hms] at hgo
     simp only [↓qh,qx,reduceIte,Nat.reduceEqDiff,zu,w31,hu.len,l2,hkl2,f1]
     exact ⟨by rw [<-hgo],hs2.stk.fr⟩
  ·have hin:i=t.length:=by omega
   subst hin
   have d1:¬ ((t.length:Nat):Int)<(t.length:Nat):=by omega
   rw [List.drop_length] at hgo
   simp only [↓qh,qx,reduceIte,Nat.reduceEqDiff,w19,w82,d1,hs.stk.sl.len]
   refine ⟨?_,hs.stk.fr⟩
   rw [<-hgo,mgo];congr 1;exact decide_eq_decide.2 (by omega)
 ·rw [qzw (by omega)]
  simp only [↓qh,qx,reduceIte,Nat.reduceEqDiff,w0,w2,hn.len,c1,c2,wl,n1,n2,c3]
  exact Fr.refl _
end Go.Am
