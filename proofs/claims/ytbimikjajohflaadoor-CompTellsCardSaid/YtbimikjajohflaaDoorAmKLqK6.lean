/- LqK6: LpM LpN LpO LpR. -/
import Derived.Test.YtbimikjajohflaaDoorAmKLqK4
set_option linter.unusedVariables false
set_option linter.unusedSimpArgs false
set_option linter.unusedSectionVars false
set_option maxRecDepth 100000
namespace Go.Am
open Lang Go.Proofs
variable {M:Mac} [MK M]
theorem qcv {a b:List UInt8} (h:a.length+b.length<=140737488355328):Op.bin .add [.str a,.str b]=some (.str (a++b)):=o_cat a b h
theorem qtp (H:AHeap) (n:Nat) (hn:n<256):Op.buildSlice qbd 1 [.int .u8 0] [(0,1)] [.int .u8 (n:Int)]=some (.row [.int .u8 (n:Int)] qbd (0,0) true,Op.sliceTo 1 1) /\
 Op.strOfBytes [Op.sliceTo 1 1 H.next] (H.alloc (.row [.int .u8 (n:Int)] qbd (0,0) true))=some (.str [UInt8.ofNat n]):=by
 refine ⟨rfl,?_⟩
 have e:((n:Nat):Int)=((UInt8.ofNat n).toNat:Nat):=by rw [qa2,qba hn]
 have hs:=q5a H ([UInt8.ofNat n].map fun c=>AV.int .u8 (c.toNat:Nat)) qbd (0,0) true
 have hfc:=hs.first
 have hlv:=hs.lenV
 simp only [xd,jq,<-e,qg,qi,x9] at hfc hlv
 have e2:Op.strOfBytes [Op.sliceTo 1 1 H.next] (H.alloc (.row [.int .u8 (n:Int)] qbd (0,0) true))=(lenV (Op.sliceTo 1 1 H.next)).bind fun m=>(firstCells (H.alloc (.row [.int .u8 (n:Int)] qbd (0,0) true)) 1 m (Op.sliceTo 1 1 H.next)).bind fun l=>(bytesOf l).bind fun s=>some (.str s):=rfl
 rw [e2]
 have hn':Op.sliceTo 1 1 H.next=.slice H.next 0 1 1:=rfl
 rw [hn',hlv,qd,hfc,qd]
 have:=qlx [UInt8.ofNat n]
 simp only [xd,jq,<-e] at this
 rw [this];rfl
theorem qx7 {H:AHeap} {n:Nat} (hn:n<18446744073709551616):yg M qcg [.int .u64 (n:Int)] H fun v H'=>v=.str (dec n)/\Fr Em H H':=by
 refine qsg ?_
 obtain ⟨w0,w4,w25,w7,w13,w18⟩:=qsh M ⟨none,qcg⟩
 simp only [↓qe,qq,reduceIte,Nat.reduceEqDiff,w0,w4]
 have hl20:=qqs hn
 refine LOOP3.intro (fun k E' H'=>∃ m s,E'=[(0,.int .u64 (m:Nat)),(3,.str s)]/\k=m+(if s=[] then 1 else 0)/\dec n=dec m++s/\m<18446744073709551616/\(s=[]\/0<m)/\Fr Em H H') ?_ ?_
 ·exact ⟨_,_,⟨n,[],rfl,rfl,by simp,hn,.inl rfl,Fr.refl _⟩,by simp only [↓qe,qq,reduceIte,Nat.reduceEqDiff]⟩
 rintro k E' H' ⟨m,s,rfl,rfl,hdec,hm,hz,hf⟩
 have hsl:s.length<=20:=by have:=congrArg List.length hdec;rw [qc] at this;omega
 by_cases h9:9<m\/s=[]
 ·have r1:Op.bin .rem [.int .u64 (m:Int),.int .u64 10]=some (.int .u64 ((m % 10:Nat):Int)):=by
   rw [o_rem .u64 _ _ (by decide),Int.tmod_eq_emod_of_nonneg (by omega)];rfl
  have r2:Op.bin .quo [.int .u64 (m:Int),.int .u64 10]=some (.int .u64 ((m / 10:Nat):Int)):=by
   rw [o_quo .u64 _ _ (by decide),Int.tdiv_eq_ediv_of_nonneg (by omega)]
   have:(m:Int) / 10=((m / 10:Nat):Int):=by rw [Int.natCast_ediv];rfl
   rw [this,qc7 (by omega) (by omega)]
  have w1:wrapI .u64 (48+((m % 10:Nat):Int))=((48+m % 10:Nat):Int):=by rw [qc7 (by omega) (by omega)];omega
  have w2:wrapI .u8 ((48+m % 10:Nat):Int)=((48+m % 10:Nat):Int):=qzp (by omega) (by omega)
  obtain ⟨b1,b2⟩:=qtp H' (48+m % 10) (by omega)
  have hcat:Op.bin .add [.str [UInt8.ofNat (48+m % 10)],.str s]=some (.str (UInt8.ofNat (48+m % 10)::s)):=o_cat [_] s (by simp;omega)
  have hf2:Fr Em H (H'.alloc (.row [.int .u8 ((48+m % 10:Nat):Int)] qbd (0,0) true)):=hf.alloc _
  have cond:∀ {A B:Bool->Prop},A true->IF3 true (.bool (cond (decide ((9:Int)<(m:Int))) true (decide (s=[])))) A B:=by
   intro A B h
   have:cond (decide ((9:Int)<(m:Int))) true (decide (s=[]))=true:=by
    rcases h9 with q|q
    ·rw [zn (by omega)];rfl
    ·rw [zn q];cases decide ((9:Int)<(m:Int))<;>rfl
   rw [this];exact h
  by_cases g9:(9:Int)<(m:Int)
  ·have hm10:10<=m:=by omega
   have z:¬ ((m / 10:Nat):Int)=0:=by omega
   simp only [↓qe,qq,reduceIte,Nat.reduceEqDiff,w7,w13,w18,g9,r1,w1,w2,b1,b2,hcat,r2,z]
   refine ⟨_,_,⟨m / 10,UInt8.ofNat (48+m % 10)::s,rfl,rfl,?_,by omega,.inr (by omega),hf2⟩,by simp only [↓qe,qq,reduceIte,Nat.reduceEqDiff],by simp only [List.cons_ne_nil,kq];split<;>omega⟩
   rw [hdec,dec_ge hm10];simp
  ·have hs:s=[]:=h9.resolve_left (by omega)
   have hm9:m<10:=by omega
   have z:=zj (show ((m / 10:Nat):Int)=0 by omega)
   simp only [↓qe,qq,reduceIte,Nat.reduceEqDiff,w7,w13,w18,g9,zj hs,r1,w1,w2,b1,b2,hcat,r2,z]
   refine ⟨?_,hf2⟩
   rw [hdec,dec_lt hm9,hs,qba hm9];rfl
 ·have g9:¬ (9:Int)<(m:Int):=by omega
  have gs:¬ s=[]:=fun q=>h9 (.inr q)
  have w1:wrapI .u64 (48+(m:Int))=((48+m:Nat):Int):=by rw [qc7 (by omega) (by omega)];omega
  have w2:wrapI .u8 ((48+m:Nat):Int)=((48+m:Nat):Int):=qzp (by omega) (by omega)
  obtain ⟨b1,b2⟩:=qtp H' (48+m) (by omega)
  have hcat:Op.bin .add [.str [UInt8.ofNat (48+m)],.str s]=some (.str (UInt8.ofNat (48+m)::s)):=o_cat [_] s (by simp;omega)
  simp only [↓qe,qq,reduceIte,Nat.reduceEqDiff,w7,w25,g9,gs,w1,w2,b1,b2,hcat]
  refine ⟨?_,hf.alloc _⟩
  rw [hdec,dec_lt (by omega)];rfl
theorem qpc {H:AHeap} {v:Nat} (hv:v<=7):yg M qch [.int .u64 (v:Int)] H fun r H'=>r=.str (letter v)/\Fr Em H H':=by
 refine qsj ?_
 have w1:wrapI .u64 (97+(v:Int))=((97+v:Nat):Int):=by rw [qc7 (by omega) (by omega)];omega
 have w2:wrapI .u8 ((97+v:Nat):Int)=((97+v:Nat):Int):=qzp (by omega) (by omega)
 obtain ⟨b1,b2⟩:=qtp H (97+v) (by omega)
 simp only [↓qe,qq,reduceIte,Nat.reduceEqDiff,qsk,w1,w2,b1,b2]
 exact ⟨rfl,(Fr.refl H).alloc _⟩
theorem qxo {H:AHeap} {o:Nat} (h1:4<=o) (h2:o<=10):yg M qdf [.int .i64 (o:Int)] H fun v H'=>v=.tuple [.str (sgn o),.int .i64 (rowOf o:Int)]/\Fr Em H H':=by
 refine qsm ?_
 have hb:Op.buildSlice yv 7 [.str []] [(0,1),(1,1),(2,1),(3,1),(4,1),(5,1),(6,1)] [.str [43],.str [45],.str [42],.str [38],.str [94],.str [60,60],.str [62,62]]=some (.row ([[43],[45],[42],[38],[94],[60,60],[62,62]].map AV.str) yv (0,0) true,Op.sliceTo 7 7):=rfl
 have hw:=qnl H [[43],[45],[42],[38],[94],[60,60],[62,62]] yv 7 (0,0) true rfl
 have hi:([[43],[45],[42],[38],[94],[60,60],[62,62]]:List (List UInt8))[o-4]? = some (sgn o):=by
  rcases (show o=4\/o=5\/o=6\/o=7\/o=8\/o=9\/o=10 by omega) with rfl|rfl|rfl|rfl|rfl|rfl|rfl<;>rfl
 have ws:wrapI .i64 ((o:Int)-4)=((o-4:Nat):Int):=by rw [xz (by omega) (by omega)];omega
 have e1:=hw.idx hi (z:=((o-4:Nat):Int)) rfl .i64
 have e2:=hw.load0 qmt hi (by decide)
 have hn:Op.sliceTo 7 7 H.next=.slice H.next 0 7 7:=rfl
 have hf:=(Fr.refl (W:=Em) H).alloc (.row ([[43],[45],[42],[38],[94],[60,60],[62,62]].map AV.str) yv (0,0) true)
 by_cases q:o=4\/o=5\/o=8
 ·have hr:rowOf o=1:=by unfold rowOf;rw [qu q]
  rcases q with q|q|q
  ·have q1:=zj (show (o:Int)=4 by omega)
   simp only [↓qe,qq,reduceIte,Nat.reduceEqDiff,qf8,hb,ws,hn,e1,e2,encS,q1]
   exact ⟨by rw [hr];rfl,hf⟩
  ·have q1:¬ (o:Int)=4:=by omega
   have q2:=zj (show (o:Int)=5 by omega)
   simp only [↓qe,qq,reduceIte,Nat.reduceEqDiff,qf8,hb,ws,hn,e1,e2,encS,q1,q2]
   exact ⟨by rw [hr];rfl,hf⟩
  ·have q1:¬ (o:Int)=4:=by omega
   have q2:¬ (o:Int)=5:=by omega
   have q3:=zj (show (o:Int)=8 by omega)
   simp only [↓qe,qq,reduceIte,Nat.reduceEqDiff,qf8,hb,ws,hn,e1,e2,encS,q1,q2,q3]
   exact ⟨by rw [hr];rfl,hf⟩
 ·have hr:rowOf o=2:=by unfold rowOf;rw [qj q]
  have q1:¬ (o:Int)=4:=by omega
  have q2:¬ (o:Int)=5:=by omega
  have q3:¬ (o:Int)=8:=by omega
  simp only [↓qe,qq,reduceIte,Nat.reduceEqDiff,qf8,hb,ws,hn,e1,e2,encS,q1,q2,q3]
  exact ⟨by rw [hr];rfl,hf⟩
theorem qe1 {H0:AHeap} {tv:AV} {ts:List Nd} (hn:Nds H0 tv ts) (h2k:ts.length<=2000):∀ (x:Ex) {H:AHeap} {bb d:Nat},Fr Em H0 H->Seg ts bb (x.enc bb)->x.ok->x.small->d<=100 ->
 yg M wo [tv,.int .i64 ((bb+x.sz-1:Nat):Int),.int .i64 (d:Int)] H fun v H'=>v=.str (x.txt d)/\Fr Em H H'
 | .num n,H,bb,d,hf,hs,ho,hsm,hd=>by
  refine qic ?_
  obtain ⟨hnd,-⟩:=Seg.nd (x:=.e (.num n)) hs
  have hsm:n<18446744073709551616:=hsm
  obtain ⟨a,ha,a1,e2,e3,_⟩:=hn.getF hnd hf
  have e4:=qf7 H ((It.e (.num n)).nd bb) a1 qo
  simp only [It.nd,It.kn,It.ks,endsF,It.sz,ints,jq] at e2 e3 e4
  have t1:=zj (show (1:Int)=1 from rfl)
  simp only [↓qe,qq,reduceIte,Nat.reduceEqDiff,qa1,e2,e3,e4,zd,t1]
  refine C3.q (qx7 (M:=M) hsm) fun v H2 ⟨hv,hf2⟩=>?_
  subst hv
  simp only [↓qe,qq,reduceIte,Nat.reduceEqDiff,qa1]
  exact ⟨rfl,((Fr.refl H).alloc _).em hf2⟩
 | .var w,H,bb,d,hf,hs,ho,hsm,hd=>by
  refine qic ?_
  obtain ⟨hnd,-⟩:=Seg.nd (x:=.e (.var w)) hs
  have ho:w<=7:=ho
  obtain ⟨a,ha,a1,e2,e3,_⟩:=hn.getF hnd hf
  have e4:=qf7 H ((It.e (.var w)).nd bb) a1 qo
  simp only [It.nd,It.kn,It.ks,endsF,It.sz,ints,jq] at e2 e3 e4
  simp only [↓qe,qq,reduceIte,Nat.reduceEqDiff,qa1,e2,e3,e4,zd,Int.reduceEq]
  refine C3.q (qpc (M:=M) ho) fun v H2 ⟨hv,hf2⟩=>?_
  subst hv
  simp only [↓qe,qq,reduceIte,Nat.reduceEqDiff,qa1]
  exact ⟨rfl,((Fr.refl H).alloc _).em hf2⟩
 | .load x,H,bb,d,hf,hs,ho,hsm,hd=>by
  refine qic ?_
  obtain ⟨hnd,hks⟩:=Seg.nd (x:=.e (.load x)) hs
  have hsx:Seg ts bb (x.enc bb):=hks.cons.1
  have hxz:x.sz<=2000:=by have:=Seg.lt (x:=.e x) hsx;simp only [It.sz] at this;omega
  have hxt:=x.txt_len 0 hsm
  have hnd':(It.e (.load x)).nd bb=⟨3,0,[((bb+x.sz-1:Nat):Int)]⟩:=by simp [It.nd,It.kn,It.ks,endsF,ints,It.sz]
  rw [hnd'] at hnd
  obtain ⟨a,ha,a1,e2,e3,_⟩:=hn.getF hnd hf
  have e4:=qf7 H ⟨3,0,[((bb+x.sz-1:Nat):Int)]⟩ a1 qo
  simp only [It.sz] at e2 e3
  simp only at e4
  have hf1:Fr Em H (H.alloc (OR [.int .i64 3,.int .u64 0,a] qo)):=(Fr.refl H).alloc _
  obtain ⟨i1,i2⟩:=qel ha (hf.em hf1) (i:=0) rfl (z:=0) rfl
  simp only [↓qe,qq,reduceIte,Nat.reduceEqDiff,qa1,e2,e3,e4,zd,Int.reduceEq,i1 .i64,i2]
  refine C3.q (qe1 hn h2k x (d:=0) (hf.em hf1) hsx ho hsm (by omega)) fun v H2 ⟨hv,hf2⟩=>?_
  subst hv
  simp (disch:=first|omega|(simp only [qc,qg,qi,j8];omega)) only [↓qe,qq,qcv,reduceIte,Nat.reduceEqDiff,qa1]
  exact ⟨by simp [Ex.txt],hf1.em hf2⟩
 | .bin o x y,H,bb,d,hf,hs,ho,hsm,hd=>by
  refine qic ?_
  obtain ⟨hnd,hks⟩:=Seg.nd (x:=.e (.bin o x y)) hs
  have hsx:Seg ts bb (x.enc bb):=hks.cons.1
  have hsy:Seg ts (bb+x.sz) (y.enc (bb+x.sz)):=hks.cons.2.cons.1
  have hxz:x.sz<=2000:=by have:=Seg.lt (x:=.e x) hsx;simp only [It.sz] at this;omega
  have hyz:y.sz<=2000:=by have:=Seg.lt (x:=.e y) hsy;simp only [It.sz] at this;omega
  obtain ⟨o4,o10,hox,hoy⟩:=ho
  have hxt:=x.txt_len (rowOf o) hsm.1
  have hyt:=y.txt_len (rowOf o+1) hsm.2
  have hsl:=qzf o
  have hrw:=q0i o
  have hnd':(It.e (.bin o x y)).nd bb=⟨o,0,[((bb+x.sz-1:Nat):Int),((bb+x.sz+y.sz-1:Nat):Int)]⟩:=by simp [It.nd,It.kn,It.ks,endsF,ints,It.sz]
  rw [hnd'] at hnd
  obtain ⟨a,ha,a1,e2,e3,_⟩:=hn.getF hnd hf
  have e4:=qf7 H ⟨o,0,[((bb+x.sz-1:Nat):Int),((bb+x.sz+y.sz-1:Nat):Int)]⟩ a1 qo
  simp only [It.sz] at e2 e3
  simp only at e4
  have hf1:Fr Em H (H.alloc (OR [.int .i64 (o:Nat),.int .u64 0,a] qo)):=(Fr.refl H).alloc _
  have g1:=xk H (OR [.int .i64 (o:Nat),.int .u64 0,a] qo)
  have n1:H.next<(H.alloc (OR [.int .i64 (o:Nat),.int .u64 0,a] qo)).next:=by rw [x4];omega
  have L1:∀ k,Op.load1 [.ptr H.next k] (H.alloc (OR [.int .i64 (o:Nat),.int .u64 0,a] qo))=[AV.int .i64 (o:Nat),.int .u64 0,a][k]?:=fun k=>qae (x8 g1) k
  generalize H.alloc (OR [.int .i64 (o:Nat),.int .u64 0,a] qo)=H1 at *
  have t1:¬ (o:Int)=1:=by omega
  have t2:¬ (o:Int)=2:=by omega
  have t3:¬ (o:Int)=3:=by omega
  have wr:wrapI .i64 ((rowOf o:Int)+1)=((rowOf o+1:Nat):Int):=by rw [xz (by omega) (by omega)];omega
  simp only [↓qe,qq,reduceIte,Nat.reduceEqDiff,qa1,e2,e3,e4,L1,t1,t2,t3]
  refine C3.q (qxo (M:=M) o4 o10) fun v H2 ⟨hv,hf2⟩=>?_
  subst hv
  have g2:H2.get H.next=some (OR [.int .i64 (o:Nat),.int .u64 0,a] qo):=by rw [hf2.keep _ n1 id,g1]
  have n2:=qk n1 hf2.next
  have L2:∀ k,Op.load1 [.ptr H.next k] H2=[AV.int .i64 (o:Nat),.int .u64 0,a][k]?:=fun k=>qae (x8 g2) k
  have hf02:=(hf.em hf1).em hf2
  obtain ⟨i1,i2⟩:=qel ha hf02 (i:=0) rfl (z:=0) rfl
  simp only [↓qe,qq,reduceIte,Nat.reduceEqDiff,qa1,jo,L2,i1 .i64,i2]
  refine C3.q (qe1 hn h2k x (d:=rowOf o) hf02 hsx hox hsm.1 (by omega)) fun v H3 ⟨hv,hf3⟩=>?_
  subst hv
  have g3:H3.get H.next=some (OR [.int .i64 (o:Nat),.int .u64 0,a] qo):=by rw [hf3.keep _ n2 id,g2]
  have L3:∀ k,Op.load1 [.ptr H.next k] H3=[AV.int .i64 (o:Nat),.int .u64 0,a][k]?:=fun k=>qae (x8 g3) k
  have hf03:=hf02.em hf3
  obtain ⟨j1,j2⟩:=qel ha hf03 (i:=1) rfl (z:=1) rfl
  simp only [↓qe,qq,reduceIte,Nat.reduceEqDiff,qa1,L3,j1 .i64,j2,wr]
  refine C3.q (qe1 hn h2k y (d:=rowOf o+1) hf03 hsy hoy hsm.2 (by omega)) fun v H4 ⟨hv,hf4⟩=>?_
  subst hv
  have hff:=((hf1.em hf2).em hf3).em hf4
  by_cases hlt:rowOf o<d
  ·have q1:(rowOf o:Int)<(d:Int):=by omega
   simp (disch:=first|omega|(simp only [qc,qg,qi,j8];omega)) only [↓qe,qq,qcv,reduceIte,Nat.reduceEqDiff,qa1,q1]
   exact ⟨by simp [Ex.txt,par,hlt],hff⟩
  ·have q1:¬ (rowOf o:Int)<(d:Int):=by omega
   simp (disch:=first|omega|(simp only [qc,qg,qi,j8];omega)) only [↓qe,qq,qcv,reduceIte,Nat.reduceEqDiff,qa1,q1]
   exact ⟨by simp [Ex.txt,par,hlt],hff⟩
theorem qof {H0 H:AHeap} {tv:AV} {ts:List Nd} (hn:Nds H0 tv ts) (h2k:ts.length<=2000) (x:Cn) {bb:Nat} (hf:Fr Em H0 H) (hs:Seg ts bb (x.enc bb)) (ho:x.ok) (hsm:x.small) :
 yg M qdu [tv,.int .i64 ((bb+x.sz-1:Nat):Int)] H fun v H'=>v=.str x.txt/\Fr Em H H':=by
 refine qxd ?_
 obtain ⟨hnd,hks⟩:=Seg.nd (x:=.c x) hs
 have hsx:Seg ts bb (x.a.enc bb):=hks.cons.1
 have hsy:Seg ts (bb+x.a.sz) (x.b.enc (bb+x.a.sz)):=hks.cons.2.cons.1
 have hxz:x.a.sz<=2000:=by have:=Seg.lt (x:=.e x.a) hsx;simp only [It.sz] at this;omega
 have hyz:x.b.sz<=2000:=by have:=Seg.lt (x:=.e x.b) hsy;simp only [It.sz] at this;omega
 obtain ⟨o4,o10,hox,hoy⟩:=ho
 have hxt:=x.a.txt_len 0 hsm.1
 have hyt:=x.b.txt_len 0 hsm.2
 have hcl:=qtr x.k
 have hnd':(It.c x).nd bb=⟨x.k,0,[((bb+x.a.sz-1:Nat):Int),((bb+x.a.sz+x.b.sz-1:Nat):Int)]⟩:=by simp [It.nd,It.kn,It.ks,endsF,ints,It.sz]
 rw [hnd'] at hnd
 have hbs:Op.buildSlice yv 3 [.str []] [(0,1),(1,1),(2,1)] [.str [32,61,61,32],.str [32,33,61,32],.str [32,60,32]]=some (.row ([[32,61,61,32],[32,33,61,32],[32,60,32]].map AV.str) yv (0,0) true,Op.sliceTo 3 3):=rfl
 have hf1:Fr Em H (H.alloc (.row ([[32,61,61,32],[32,33,61,32],[32,60,32]].map AV.str) yv (0,0) true)):=(Fr.refl H).alloc _
 have hw:=qnl H [[32,61,61,32],[32,33,61,32],[32,60,32]] yv 3 (0,0) true rfl
 have hi:([[32,61,61,32],[32,33,61,32],[32,60,32]]:List (List UInt8))[x.k-11]? = some (csgn x.k):=by
  rcases (show x.k=11\/x.k=12\/x.k=13 by omega) with q|q|q<;>rw [q]<;>rfl
 have ws:wrapI .i64 ((x.k:Int)-11)=((x.k-11:Nat):Int):=by rw [xz (by omega) (by omega)];omega
 have f1:=hw.idx hi (z:=((x.k-11:Nat):Int)) rfl .i64
 have f2:=hw.load0 qmt hi (by decide)
 have sn:Op.sliceTo 3 3 H.next=.slice H.next 0 3 3:=rfl
 obtain ⟨H1,hH1⟩:∃ H1,H.alloc (.row ([[32,61,61,32],[32,33,61,32],[32,60,32]].map AV.str) yv (0,0) true)=H1:=⟨_,rfl⟩
 rw [hH1] at hf1 hw f2
 obtain ⟨a,ha,a1,e2,_,e3,_,e4⟩:=hn.getF hnd (hf.em hf1)
 simp only [It.sz] at e2 e3 e4
 obtain ⟨i1,i2⟩:=qel ha (hf.em hf1) (i:=0) rfl (z:=0) rfl
 obtain ⟨j1,j2⟩:=qel ha (hf.em hf1) (i:=1) rfl (z:=1) rfl
 simp only [↓qe,qq,reduceIte,Nat.reduceEqDiff,qki,hbs,hH1,sn,e2,e3,e4,i1 .i64,i2,ws,f1,f2,encS,j1 .i64,j2]
 refine C3.q (qe1 (M:=M) hn h2k x.a (d:=0) (hf.em hf1) hsx hox hsm.1 (by omega)) fun v H2 ⟨hv,hf2⟩=>?_
 subst hv
 have hf02:=(hf.em hf1).em hf2
 have chk:∀ {H2:AHeap},Fr Em H1 H2->Op.load1 [.ptr (slB tv) (slO 3 tv (bb+x.sz-1))] H2=some (.int .i64 (x.k:Nat))/\Op.load1 [.ptr (slB tv) (slO 3 tv (bb+x.sz-1)+2)] H2=some a/\Op.load1 [.ptr (slB a) (slO 1 a 1)] H2=some (.int .i64 ((bb+x.a.sz+x.b.sz-1:Nat):Int)) /\
  Op.load1 [.ptr (slB (.slice H.next 0 3 3)) (slO 1 (.slice H.next 0 3 3) (x.k-11))] H2=some (.str (csgn x.k)):=by
  intro H2 f
  have ff:=(hf.em hf1).em f
  obtain ⟨zs,z1,z2,z3⟩:=hn.ex
  obtain ⟨z,hz,hzx⟩:∃ z,zs[bb+x.sz-1]? = some z/\z.1=⟨x.k,0,[((bb+x.a.sz-1:Nat):Int),((bb+x.a.sz+x.b.sz-1:Nat):Int)]⟩:=by
   rw [<-z1,qx] at hnd
   cases hq:zs[bb+(It.c x).sz-1]? with
   | none=>rw [hq] at hnd;cases hnd
   | some z=>rw [hq] at hnd;injection hnd with hx;exact ⟨z,hq,hx⟩
  have z2':=z2.em ff
  have z2'':=z2.em (hf.em hf1)
  have l2:=z2''.load1 qen hz (j:=2) (by decide)
  have:z.2=a:=by
   have e:Op.load1 [.ptr (slB tv) (slO 3 tv (bb+x.sz-1)+2)] H1=some z.2:=l2
   rw [e4] at e;exact (jf e).symm
  refine ⟨by rw [z2'.load0 qen hz (by decide)];show some (AV.int .i64 z.1.k)=_;rw [hzx],by rw [z2'.load1 qen hz (j:=2) (by decide)];show some z.2=_;rw [this],(qel ha ff (i:=1) rfl (z:=1) rfl).2,?_⟩
  rw [(hw.em f).load0 qmt hi (by decide)];rfl
 obtain ⟨c1,c2,c3,c4⟩:=chk hf2
 simp (disch:=first|omega|(simp only [qc,qg,qi,j8];omega)) only [↓qe,qq,qcv,reduceIte,Nat.reduceEqDiff,qki,c1,c2,c3,c4]
 refine C3.q (qe1 (M:=M) hn h2k x.b (d:=0) hf02 hsy hoy hsm.2 (by omega)) fun v H3 ⟨hv,hf3⟩=>?_
 subst hv
 obtain ⟨d1,d2,d3,d4⟩:=chk (hf2.em hf3)
 simp (disch:=first|omega|(simp only [qc,qg,qi,j8];omega)) only [↓qe,qq,qcv,reduceIte,Nat.reduceEqDiff,qki,d1,d2,d3,d4]
 exact ⟨by simp [Cn.txt],(hf1.em hf2).em hf3⟩
end Go.Am
namespace Go.Am
open Lang Go.Proofs
variable {M:Mac} [MK M]
theorem ind_succ (d:Nat):ind d ++ [32,32]=ind (d+1):=by
 unfold ind;rw [show 2*(d+1)=2*d+2 by omega,<-List.replicate_append_replicate];rfl
def RP (M:Mac) (H0:AHeap) (tv:AV) (ts:List Nd) (l:Ls):Prop:=∀ (H:AHeap) (bb d:Nat),Fr Em H0 H->Seg ts bb (l.encL bb)->l.ok->l.small->d+l.sz<=4000->(l.txt d).length<=1000000000 ->
 yg M vl [tv,.int .i64 ((bb+l.sz:Nat):Int),.str (ind d)] H fun v H'=>v=.str (l.txt d)/\Fr Em H H'
def SL (M:Mac) (H0:AHeap) (tv:AV) (ts:List Nd):Lang.St->Prop
 | .ite _ l=>RP M H0 tv ts l
 | .ites _ l m=>RP M H0 tv ts l/\RP M H0 tv ts m
 | .loop _ l=>RP M H0 tv ts l
 | .atom l=>RP M H0 tv ts l
 | _=>True
structure RdC (H0:AHeap) (tv:AV) (ts:List Nd):Prop where
 nd:Nds H0 tv ts
 len:ts.length<=2000
theorem RdC.szle {ts:List Nd} {H0:AHeap} {tv:AV} (hc:RdC H0 tv ts) {b:Nat} {x:It} (h:Seg ts b (x.enc b)):x.sz<=2000:=by
 have:=h.lt;have:=hc.len;omega
theorem rstmt {H0 H:AHeap} {tv a:AV} {ts:List Nd} (hc:RdC H0 tv ts) (s:Lang.St) (hsl:SL M H0 tv ts s) {c d p:Nat} {acc:List UInt8} {Q:Post3} {E:Env} {k n:Int} {kids:List Int} (hf:Fr Em H0 H) (hs:Seg ts c (s.enc c)) (ho:s.ok) (hsm:s.small) (hd:d+s.sz<=4000) (hl:acc.length+(s.txt d).length<=2000000000) (hl2:(s.txt d).length<=1000000000)
 (hnd:(It.s s).nd c=⟨k,n,kids⟩) (ha:SlT encI 1 H0 a kids) (hrow:H.get p=some (OR [.int .i64 k,.int .u64 n,a] qo)) (hp:p<H.next)
 (e9:lk E 9=some (.ptr p 0)) (e7:lk E 7=some (.str acc)) (e0:lk E 0=some tv) (e2:lk E 2=some (.str (ind d)))
 (hq:∀ H' E',lk E' 7=some (.str (acc++s.txt d))->lk E' 8=lk E 8->lk E' 0=lk E 0->lk E' 1=lk E 1->lk E' 2=lk E 2->Fr Em H H'->W M ⟨none,vl⟩ (zg 56) true (BLK3 1 Q) E' [] H') :
 W M ⟨none,vl⟩ (zg 21) true (BLK3 1 Q) E [] H:=by
 obtain ⟨-,-,-,-,-,-,w21,-,w33,w38,w46,w47⟩:=qpa M ⟨none,vl⟩
 have L:∀ {H'},Fr Em H H' -> ∀ o,Op.load1 [.ptr p o] H'=[AV.int .i64 k,.int .u64 n,a][o]?:=fun {H'} f o=>qae (x8 (by rw [f.keep p hp id,hrow])) o
 have L0:=L (Fr.refl H)
 have K:∀ {H'},Fr Em H H' -> ∀ {i:Nat} {x:Int},kids[i]? = some x -> ∀ {z:Int},z=(i:Int)->(∀ k,Op.indexSl 1 [a,.int k z]=some (.ptr (slB a) (slO 1 a i)))/\Op.load1 [.ptr (slB a) (slO 1 a i)] H'=some (.int .i64 x):=fun {H'} f {i x} hx {z} hz=>qel ha (hf.em f) hx hz
 have hin:Op.bin .add [.str (ind d),.str [32,32]]=some (.str (ind (d+1))):=by rw [qcv (by rw [j8];simp;omega),ind_succ]
 cases s with
 | set w x =>
  have hnd':(It.s (.set w x)).nd c=⟨14,w,[((c+x.sz-1:Nat):Int)]⟩:=by simp [It.nd,It.kn,It.ks,endsF,ints,It.sz]
  rw [hnd'] at hnd;injection hnd with q1 q2 q3;subst q1;subst q2;subst q3
  have hsx:Seg ts c (x.enc c):=(Seg.nd (x:=.s (.set w x)) hs).2.cons.1
  obtain ⟨tx,htx⟩:∃ tx,tx=St.txt (.set w x) d:=⟨_,rfl⟩
  rw [<-htx] at hq
  have hlx:(St.txt (.set w x) d).length=1+3+(x.txt 0).length+1:=by simp [St.txt,letter];omega
  obtain ⟨i1,i2⟩:=K (Fr.refl H) (i:=0) rfl (z:=0) rfl
  have t1:=zj (show (14:Int)=14 from rfl)
  simp only [↓qe,qq,reduceIte,Nat.reduceEqDiff,w21,e9,e7,e0,L0,t1,i1 .i64,i2]
  refine C3.q (qpc (M:=M) ho.1) fun v H2 ⟨hv,hf2⟩=>?_
  subst hv
  have hll:(letter w).length=1:=rfl
  obtain ⟨-,i3⟩:=K hf2 (i:=0) rfl (z:=0) rfl
  simp (disch:=first|omega|(simp only [qc,qg,qi,j8];omega)) only [↓qe,qq,qcv,reduceIte,Nat.reduceEqDiff,L hf2,i3,hll]
  refine C3.q (qe1 (M:=M) hc.nd hc.len x (d:=0) (hf.em hf2) hsx ho.2 hsm (by omega)) fun v H3 ⟨hv,hf3⟩=>?_
  subst hv
  simp (disch:=first|omega|(simp only [qc,qg,qi,j8];omega)) only [↓qe,qq,qcv,reduceIte,Nat.reduceEqDiff,hll]
  exact hq H3 _ (by rw [htx];simp [St.txt,qb6]) rfl rfl rfl rfl (hf2.em hf3)
 | store x y =>
  have hnd':(It.s (.store x y)).nd c=⟨15,0,[((c+x.sz-1:Nat):Int),((c+x.sz+y.sz-1:Nat):Int)]⟩:=by simp [It.nd,It.kn,It.ks,endsF,ints,It.sz]
  rw [hnd'] at hnd;injection hnd with q1 q2 q3;subst q1;subst q2;subst q3
  have hks:=(Seg.nd (x:=.s (.store x y)) hs).2
  have hsx:Seg ts c (x.enc c):=hks.cons.1
  have hsy:Seg ts (c+x.sz) (y.enc (c+x.sz)):=hks.cons.2.cons.1
  obtain ⟨tx,htx⟩:∃ tx,tx=St.txt (.store x y) d:=⟨_,rfl⟩
  rw [<-htx] at hq
  have hlx:(St.txt (.store x y) d).length=6+(x.txt 0).length+2+(y.txt 0).length+2:=by simp [St.txt];omega
  obtain ⟨i1,i2⟩:=K (Fr.refl H) (i:=0) rfl (z:=0) rfl
  obtain ⟨j1,j2⟩:=K (Fr.refl H) (i:=1) rfl (z:=1) rfl
  simp (disch:=first|omega|(simp only [qc,qg,qi,j8];omega)) only [↓qe,qq,qcv,reduceIte,Nat.reduceEqDiff,w21,e9,e7,e0,L0,Int.reduceEq,i1 .i64,i2,j1 .i64,j2]
  refine C3.q (qe1 (M:=M) hc.nd hc.len x (d:=0) hf hsx ho.1 hsm.1 (by omega)) fun v H2 ⟨hv,hf2⟩=>?_
  subst hv
  obtain ⟨-,j3⟩:=K hf2 (i:=1) rfl (z:=1) rfl
  simp (disch:=first|omega|(simp only [qc,qg,qi,j8];omega)) only [↓qe,qq,qcv,reduceIte,Nat.reduceEqDiff,L hf2,j3]
  refine C3.q (qe1 (M:=M) hc.nd hc.len y (d:=0) (hf.em hf2) hsy ho.2 hsm.2 (by omega)) fun v H3 ⟨hv,hf3⟩=>?_
  subst hv
  simp (disch:=first|omega|(simp only [qc,qg,qi,j8];omega)) only [↓qe,qq,qcv,reduceIte,Nat.reduceEqDiff]
  exact hq H3 _ (by rw [htx];simp [St.txt,qb6]) rfl rfl rfl rfl (hf2.em hf3)
 | ite q l =>
  have hnd':(It.s (.ite q l)).nd c=⟨16,0,[((c+q.sz-1:Nat):Int),((c+q.sz+l.sz:Nat):Int)]⟩:=by simp [It.nd,It.kn,It.ks,endsF,ints,It.sz]
  rw [hnd'] at hnd;injection hnd with q1 q2 q3;subst q1;subst q2;subst q3
  have hks:=(Seg.nd (x:=.s (.ite q l)) hs).2
  have hsx:Seg ts c (q.enc c):=hks.cons.1
  have hsy:Seg ts (c+q.sz) (l.encL (c+q.sz)):=hks.cons.2.cons.1
  obtain ⟨tx,htx⟩:∃ tx,tx=St.txt (.ite q l) d:=⟨_,rfl⟩
  rw [<-htx] at hq
  simp only [St.sz] at hd
  have hlx:(St.txt (.ite q l) d).length=4+q.txt.length+2+2+(l.txt (d+1)).length+2*d+1:=by simp [St.txt,j8];omega
  obtain ⟨i1,i2⟩:=K (Fr.refl H) (i:=0) rfl (z:=0) rfl
  obtain ⟨j1,j2⟩:=K (Fr.refl H) (i:=1) rfl (z:=1) rfl
  simp (disch:=first|omega|(simp only [qc,qg,qi,j8];omega)) only [↓qe,qq,qcv,reduceIte,Nat.reduceEqDiff,w21,w33,e9,e7,e0,e2,L0,Int.reduceEq,i1 .i64,i2,j1 .i64,j2,hin]
  refine C3.q (qof (M:=M) hc.nd hc.len q hf hsx ho.1 hsm.1) fun v H2 ⟨hv,hf2⟩=>?_
  subst hv
  obtain ⟨-,j3⟩:=K hf2 (i:=1) rfl (z:=1) rfl
  simp (disch:=first|omega|(simp only [qc,qg,qi,j8];omega)) only [↓qe,qq,qcv,reduceIte,Nat.reduceEqDiff,L hf2,j3]
  refine C3.q (hsl H2 _ _ (hf.em hf2) hsy ho.2 hsm.2 (by omega) (by omega)) fun v H3 ⟨hv,hf3⟩=>?_
  subst hv
  have t1:¬ (([((c+q.sz-1:Nat):Int),((c+q.sz+l.sz:Nat):Int)].length:Nat):Int)=3:=by simp
  have hal:=(ha.em (hf.em (hf2.em hf3))).len
  simp (disch:=first|omega|(simp only [qc,qg,qi,j8];omega)) only [↓qe,qq,qcv,reduceIte,Nat.reduceEqDiff,w38,e9,e2,L (hf2.em hf3),hal,t1]
  exact hq H3 _ (by rw [htx];simp [St.txt,qb6]) rfl rfl rfl rfl (hf2.em hf3)
 | ites q l m =>
  have hnd':(It.s (.ites q l m)).nd c=⟨16,0,[((c+q.sz-1:Nat):Int),((c+q.sz+l.sz:Nat):Int),((c+q.sz+(l.sz+1)+m.sz:Nat):Int)]⟩:=by
   simp [It.nd,It.kn,It.ks,endsF,ints,It.sz]
  rw [hnd'] at hnd;injection hnd with q1 q2 q3;subst q1;subst q2;subst q3
  have hks:=(Seg.nd (x:=.s (.ites q l m)) hs).2
  have hsx:Seg ts c (q.enc c):=hks.cons.1
  have hsy:Seg ts (c+q.sz) (l.encL (c+q.sz)):=hks.cons.2.cons.1
  have hsz:Seg ts (c+q.sz+(l.sz+1)) (m.encL (c+q.sz+(l.sz+1))):=hks.cons.2.cons.2.cons.1
  obtain ⟨tx,htx⟩:∃ tx,tx=St.txt (.ites q l m) d:=⟨_,rfl⟩
  rw [<-htx] at hq
  simp only [St.sz] at hd
  have hlx:(St.txt (.ites q l m) d).length=4+q.txt.length+2+2+(l.txt (d+1)).length+2*d+1+6+2+(m.txt (d+1)).length+2*d+1:=by simp [St.txt,j8];omega
  obtain ⟨i1,i2⟩:=K (Fr.refl H) (i:=0) rfl (z:=0) rfl
  obtain ⟨j1,j2⟩:=K (Fr.refl H) (i:=1) rfl (z:=1) rfl
  simp (disch:=first|omega|(simp only [qc,qg,qi,j8];omega)) only [↓qe,qq,qcv,reduceIte,Nat.reduceEqDiff,w21,w33,e9,e7,e0,e2,L0,Int.reduceEq,i1 .i64,i2,j1 .i64,j2,hin]
  refine C3.q (qof (M:=M) hc.nd hc.len q hf hsx ho.1 hsm.1) fun v H2 ⟨hv,hf2⟩=>?_
  subst hv
  obtain ⟨-,j3⟩:=K hf2 (i:=1) rfl (z:=1) rfl
  simp (disch:=first|omega|(simp only [qc,qg,qi,j8];omega)) only [↓qe,qq,qcv,reduceIte,Nat.reduceEqDiff,L hf2,j3]
  refine C3.q (hsl.1 H2 _ _ (hf.em hf2) hsy ho.2.1 hsm.2.1 (by omega) (by omega)) fun v H3 ⟨hv,hf3⟩=>?_
  subst hv
  have hff:=hf2.em hf3
  have t1:=zj (show (([((c+q.sz-1:Nat):Int),((c+q.sz+l.sz:Nat):Int),((c+q.sz+(l.sz+1)+m.sz:Nat):Int)].length:Nat):Int)=3 by simp)
  have hal:=(ha.em (hf.em hff)).len
  obtain ⟨k1,k2⟩:=K hff (i:=2) rfl (z:=2) rfl
  simp (disch:=first|omega|(simp only [qc,qg,qi,j8];omega)) only [↓qe,qq,qcv,reduceIte,Nat.reduceEqDiff,w38,e9,e0,e2,L hff,hal,t1,k1 .i64,k2,hin]
  refine C3.q (hsl.2 H3 _ _ (hf.em hff) hsz ho.2.2 hsm.2.2 (by omega) (by omega)) fun v H4 ⟨hv,hf4⟩=>?_
  subst hv
  simp (disch:=first|omega|(simp only [qc,qg,qi,j8];omega)) only [↓qe,qq,qcv,reduceIte,Nat.reduceEqDiff,e2]
  exact hq H4 _ (by rw [htx];simp [St.txt,qb6]) rfl rfl rfl rfl (hff.em hf4)
 | loop q l =>
  have hnd':(It.s (.loop q l)).nd c=⟨17,0,[((c+q.sz-1:Nat):Int),((c+q.sz+l.sz:Nat):Int)]⟩:=by simp [It.nd,It.kn,It.ks,endsF,ints,It.sz]
  rw [hnd'] at hnd;injection hnd with q1 q2 q3;subst q1;subst q2;subst q3
  have hks:=(Seg.nd (x:=.s (.loop q l)) hs).2
  have hsx:Seg ts c (q.enc c):=hks.cons.1
  have hsy:Seg ts (c+q.sz) (l.encL (c+q.sz)):=hks.cons.2.cons.1
  obtain ⟨tx,htx⟩:∃ tx,tx=St.txt (.loop q l) d:=⟨_,rfl⟩
  rw [<-htx] at hq
  simp only [St.sz] at hd
  have hlx:(St.txt (.loop q l) d).length=7+q.txt.length+2+2+(l.txt (d+1)).length+2*d+1:=by simp [St.txt,j8];omega
  obtain ⟨i1,i2⟩:=K (Fr.refl H) (i:=0) rfl (z:=0) rfl
  obtain ⟨j1,j2⟩:=K (Fr.refl H) (i:=1) rfl (z:=1) rfl
  simp (disch:=first|omega|(simp only [qc,qg,qi,j8];omega)) only [↓qe,qq,qcv,reduceIte,Nat.reduceEqDiff,w21,w33,w46,e9,e7,e0,e2,L0,Int.reduceEq,i1 .i64,i2,j1 .i64,j2,hin]
  refine C3.q (qof (M:=M) hc.nd hc.len q hf hsx ho.1 hsm.1) fun v H2 ⟨hv,hf2⟩=>?_
  subst hv
  obtain ⟨-,j3⟩:=K hf2 (i:=1) rfl (z:=1) rfl
  simp (disch:=first|omega|(simp only [qc,qg,qi,j8];omega)) only [↓qe,qq,qcv,reduceIte,Nat.reduceEqDiff,L hf2,j3]
  refine C3.q (hsl H2 _ _ (hf.em hf2) hsy ho.2 hsm.2 (by omega) (by omega)) fun v H3 ⟨hv,hf3⟩=>?_
  subst hv
  simp (disch:=first|omega|(simp only [qc,qg,qi,j8];omega)) only [↓qe,qq,qcv,reduceIte,Nat.reduceEqDiff]
  exact hq H3 _ (by rw [htx];simp [St.txt,qb6]) rfl rfl rfl rfl (hf2.em hf3)
 | atom l =>
  have hnd':(It.s (.atom l)).nd c=⟨18,0,[((c+l.sz:Nat):Int)]⟩:=by simp [It.nd,It.kn,It.ks,endsF,ints,It.sz]
  rw [hnd'] at hnd;injection hnd with q1 q2 q3;subst q1;subst q2;subst q3
  have hsy:Seg ts c (l.encL c):=(Seg.nd (x:=.s (.atom l)) hs).2.cons.1
  obtain ⟨tx,htx⟩:∃ tx,tx=St.txt (.atom l) d:=⟨_,rfl⟩
  rw [<-htx] at hq
  simp only [St.sz] at hd
  have hlx:(St.txt (.atom l) d).length=7+2+(l.txt (d+1)).length+2*d+1:=by simp [St.txt,j8];omega
  obtain ⟨i1,i2⟩:=K (Fr.refl H) (i:=0) rfl (z:=0) rfl
  simp (disch:=first|omega|(simp only [qc,qg,qi,j8];omega)) only [↓qe,qq,qcv,reduceIte,Nat.reduceEqDiff,w21,w33,w47,e9,e7,e0,e2,L0,Int.reduceEq,i1 .i64,i2,hin]
  refine C3.q (hsl H _ _ hf hsy ho.1 hsm (by omega) (by omega)) fun v H3 ⟨hv,hf3⟩=>?_
  subst hv
  simp (disch:=first|omega|(simp only [qc,qg,qi,j8];omega)) only [↓qe,qq,qcv,reduceIte,Nat.reduceEqDiff,e2]
  exact hq H3 _ (by rw [htx];simp [St.txt,qb6]) rfl rfl rfl rfl hf3
 | halt =>
  have hnd':(It.s .halt).nd c=⟨19,0,[]⟩:=by simp [It.nd,It.kn,It.ks,endsF,ints]
  rw [hnd'] at hnd;injection hnd with q1 q2 q3;subst q1;subst q2;subst q3
  have hlx:(St.txt .halt d).length=5:=rfl
  simp (disch:=first|omega|(simp only [qc,qg,qi,j8];omega)) only [↓qe,qq,qcv,reduceIte,Nat.reduceEqDiff,w21,w33,w47,e9,e7,e0,L0,Int.reduceEq]
  exact hq H _ (by simp [St.txt,qb6]) rfl rfl rfl rfl (Fr.refl _)
theorem qk2 {H0:AHeap} {tv:AV} {ts:List Nd} (hc:RdC H0 tv ts) (l:Ls) (hsl:∀ s ∈ sts l,SL M H0 tv ts s):RP M H0 tv ts l:=by
 intro H bb d hf hs ho hsm hd hl
 refine qxi ?_
 obtain ⟨w0,w4,w58,w9,w15,w57,-,w56,-,-,-,-⟩:=qpa M ⟨none,vl⟩
 obtain ⟨hnd,-⟩:=Seg.nd (x:=.l l) hs
 have hse:Seg ts bb (l.enc bb):=hs.left
 have hsz:(It.l l).sz=l.sz+1:=rfl
 rw [hsz,show bb+(l.sz+1)-1=bb+l.sz by omega] at hnd
 have hnd':(It.l l).nd bb=⟨20,0,ints (l.ends bb)⟩:=by simp [It.nd,It.kn,It.ks,Ls.its_ends]
 rw [hnd'] at hnd
 have hlen:=qvb l
 rw [qzk] at hl ⊢
 simp only [↓qe,qq,reduceIte,Nat.reduceEqDiff,w0,w4]
 refine LOOP3.intro (fun k E' H'=>∃ j,E'=[(8,.int .i64 (j:Nat)),(7,.str (((sts l).take j).flatMap (lineT d))),(0,tv),(1,.int .i64 ((bb+l.sz:Nat):Int)),(2,.str (ind d))]/\k=(sts l).length-j/\j<=(sts l).length/\Fr Em H H') ?_ ?_
 ·exact ⟨_,_,⟨0,rfl,rfl,by omega,Fr.refl _⟩,by simp only [↓qe,qq,reduceIte,Nat.reduceEqDiff];rfl⟩
 rintro k E' Hc ⟨j,rfl,rfl,hj,hfc⟩
 obtain ⟨a,ha,_,n1,_,_,_,n4⟩:=hc.nd.getF hnd (hf.em hfc)
 have hal:=(ha.em (hf.em hfc)).len
 rw [qtv] at hal
 rcases zy j (sts l).length with hlt|hge
 ·have q1:(j:Int)<((sts l).length:Nat):=by omega
  obtain ⟨s,hsj⟩:∃ s,(sts l)[j]? = some s:=⟨(sts l)[j],by simp [hlt]⟩
  have hm:=xo hsj
  obtain ⟨c,hkc,hsc⟩:=q5e hse hsj
  obtain ⟨i1,i2⟩:=qel ha (hf.em hfc) hkc (z:=(j:Int)) rfl
  have hfl:=qmu (lineT d) (sts l) j hsj
  have hll:(lineT d s).length=2*d+(s.txt d).length+1:=by simp [lineT,j8];omega
  have hszs:=q5f l s hm
  obtain ⟨hnds,-⟩:=Seg.nd (x:=.s s) hsc
  have hss:(It.s s).sz=s.sz:=rfl
  rw [hss] at hnds
  obtain ⟨b,hb,b1,m1,m2,_⟩:=hc.nd.getF hnds (hf.em hfc)
  have hst:=qf7 Hc ((It.s s).nd c) b1 qo
  have wj:wrapI .i64 ((j:Int)+1)=((j+1:Nat):Int):=by rw [xz (by omega) (by omega)];omega
  have hcat:Op.bin .add [.str (((sts l).take j).flatMap (lineT d)),.str (ind d)]=some (.str (((sts l).take j).flatMap (lineT d)++ind d)):=qcv (by rw [j8];omega)
  simp only [↓qe,qq,reduceIte,Nat.reduceEqDiff,w9,w15,n1,n4,hal,q1,i1 .i64,i2,m1,m2,hst,hcat]
  have hf1:Fr Em Hc (Hc.alloc (OR [.int .i64 ((It.s s).nd c).k,.int .u64 ((It.s s).nd c).n,b] qo)):=(Fr.refl Hc).alloc _
  refine rstmt hc s (hsl s hm) (hf.em (hfc.em hf1)) hsc (q0j l ho s hm) (qrz l hsm s hm) (by omega) (by rw [qc,j8];omega) (by omega) rfl hb (xk ..) (by rw [x4];omega) rfl rfl rfl rfl fun H2 E2 r7 r8 r0 r1 r2 hf2=>?_
  have hcat2:Op.bin .add [.str (((sts l).take j).flatMap (lineT d)++ind d++s.txt d),.str [10]]=some (.str (((sts l).take (j+1)).flatMap (lineT d))):=by
   rw [qcv (by simp only [qc,j8,qg,qi];omega),jw,hsj,v9]
   simp [lineT]
  simp only [↓qe,qq,reduceIte,Nat.reduceEqDiff,w56,w57,r7,hcat2,r8,wj]
  exact ⟨_,_,⟨j+1,rfl,rfl,by omega,(hfc.em hf1).em hf2⟩,by simp only [↓qe,qq,reduceIte,Nat.reduceEqDiff,r0,r1,r2],by omega⟩
 ·have hje:j=(sts l).length:=by omega
  subst hje
  have q1:¬ (((sts l).length:Nat):Int)<((sts l).length:Nat):=by omega
  rw [qb7]
  simp only [↓qe,qq,reduceIte,Nat.reduceEqDiff,w9,w58,n1,n4,hal,q1]
  exact hfc
def LsS (M:Mac) (H0:AHeap) (tv:AV) (ts:List Nd) (l:Ls):Prop:=∀ s ∈ sts l,SL M H0 tv ts s
mutual
theorem St_sl {H0:AHeap} {tv:AV} {ts:List Nd} (hc:RdC H0 tv ts):∀ x:Lang.St,SL M H0 tv ts x
 | .set w x=>trivial
 | .store x y=>trivial
 | .ite c l=>qk2 hc l (Ls_sl hc l)
 | .ites c l m=>⟨qk2 hc l (Ls_sl hc l),qk2 hc m (Ls_sl hc m)⟩
 | .loop c l=>qk2 hc l (Ls_sl hc l)
 | .atom l=>qk2 hc l (Ls_sl hc l)
 | .halt=>trivial
theorem Ls_sl {H0:AHeap} {tv:AV} {ts:List Nd} (hc:RdC H0 tv ts):∀ (l:Ls),LsS M H0 tv ts l
 | .nil=>fun s h=>by cases h
 | .cons x l=>fun s h=>by
  rcases xr.1 h with h|h
  ·rw [h];exact St_sl hc x
  ·exact Ls_sl hc l s h
end
end Go.Am
namespace Go.Am
open Lang Go.Proofs
variable {M:Mac} [MK M]
theorem q4y {H:AHeap} {tv:AV} {t:List Nd} (hn:Nds H tv t) (hz:∀ x ∈ t,x.kids.length*8<=140737488355328) (hm:mayB t=false):yg M yb [tv] H fun v H'=>v=.tuple [.str [],.int .i64 2]/\Fr Em H H':=by
 refine qna ?_
 obtain ⟨w0,w4,-,-,-,-,-,-,-,-⟩:=qjg M ⟨none,yb⟩
 simp only [↓qe,qq,reduceIte,Nat.reduceEqDiff,w0]
 refine C3.q (qxn (M:=M) hn hz) fun v H1 ⟨hv,hf⟩=>?_
 rw [hm] at hv;subst hv
 simp only [↓qe,qq,reduceIte,Nat.reduceEqDiff,w4]
 exact hf
theorem q46 {s:List UInt8} {j:Nat} {c:UInt8} (h:s[j]? = some c):scan (s.take (j+1)) (0,0)=brk c (scan (s.take j) (0,0)).1 (scan (s.take j) (0,0)).2:=by
 rw [jw,h,qu4];rfl
theorem scan_le {s:List UInt8} {j:Nat}:(scan (s.take j) (0,0)).2<=(scan s (0,0)).2:=by
 have:=qu4 (s.take j) (s.drop j) (0,0)
 rw [yw] at this
 rw [this];exact q45 _ _
theorem rcount {H:AHeap} {s:List UInt8} {E:Env} (hl:s.length<=1000000000) (e5:lk E 5=some (.str s)) {P:AV->AHeap->Prop} (e6:lk E 6=some (.int .i64 0))
 (hP:P (.tuple [.str (if (scan s (0,0)).2<=50 then (s,(0:Int)) else ([],2)).1,.int .i64 (if (scan s (0,0)).2<=50 then (s,(0:Int)) else ([],2)).2]) H) :
 W M ⟨none,yb⟩ (xx 16) true (FIN3 M [.tmp 2,.tmp 3] (RT3 P)) E [] H:=by
 obtain ⟨-,-,-,w16,w49,w21,w27,w48,w35,w41⟩:=qjg M ⟨none,yb⟩
 simp only [↓qe,qq,reduceIte,Nat.reduceEqDiff,w16]
 refine LOOP3.intro (fun k E' H'=>∃ j,H'=H/\E'=[(7,.int .i64 (j:Nat)),(6,.int .i64 (scan (s.take j) (0,0)).1),(5,.str s)]/\k=s.length-j/\j<=s.length/\(scan (s.take j) (0,0)).1<=50/\(scan (s.take j) (0,0)).2<=50) ?_ ?_
 ·exact ⟨_,_,⟨0,rfl,rfl,rfl,by omega,by simp [scan],by simp [scan]⟩,by simp only [↓qe,qq,reduceIte,Nat.reduceEqDiff,e5,e6];rfl⟩
 rintro k E' H' ⟨j,rfl,rfl,rfl,hj,ho,hp⟩
 rcases zy j s.length with hlt|hge
 ·have q1:(j:Int)<(s.length:Nat):=by omega
  obtain ⟨c,hc⟩:∃ c,s[j]? = some c:=⟨s[j],by simp [hlt]⟩
  have hst:=q46 hc
  obtain ⟨ha1,ha2⟩:=q26 c ho hp
  have hb:=qu5 (s.take j) 0 0
  rw [jj] at hb
  have ix:Op.indexStr [.str s,.int .i64 (j:Int)]=some (.int .u8 c.toNat):=qkz rfl hc
  have wj:wrapI .i64 ((j:Int)+1)=((j+1:Nat):Int):=by rw [xz (by omega) (by omega)];omega
  obtain ⟨o,hoe⟩:∃ o,o=(scan (s.take j) (0,0)).1:=⟨_,rfl⟩
  rw [<-hoe] at hst ha1 ha2 ho hb ⊢
  have fin:∀ (E':Env),lk E' 6=some (.int .i64 (brk c o (scan (s.take j) (0,0)).2).1)->lk E' 7=some (.int .i64 (j:Nat))->lk E' 5=some (.str s) ->
   W M ⟨none,yb⟩ (xx 41) true (BLK3 1 (SEQ3 (W M ⟨none,yb⟩ (xx 48)) (LQ3 (fun k E' H_1=>∃ j,H_1=H'/\E'=[(7,.int .i64 (j:Nat)),(6,.int .i64 (scan (s.take j) (0,0)).1),(5,.str s)]/\k=s.length-j/\j<=s.length/\(scan (s.take j) (0,0)).1<=50/\(scan (s.take j) (0,0)).2<=50) [] (s.length-j) (BLK3 0 (SEQ3 (W M ⟨none,yb⟩ (xx 49)) (FIN3 M [.tmp 2,.tmp 3] (RT3 P))))))) E' [] H':=by
   intro E' r6 r7 r5
   by_cases q:(50:Int)<(brk c o (scan (s.take j) (0,0)).2).1
   ·have q2:¬ (scan s (0,0)).2<=50:=by
     have h1:=ha1.1 q
     have h2:=scan_le (s:=s) (j:=j+1)
     rw [hst] at h2;omega
    rw [qj q2] at hP
    simp only [↓qe,qq,reduceIte,Nat.reduceEqDiff,w41,r6,q]
    exact hP
   ·have q2:(brk c o (scan (s.take j) (0,0)).2).2<=50:=by
     have:=mt ha1.2 (by omega);omega
    simp only [↓qe,qq,reduceIte,Nat.reduceEqDiff,w41,w48,r6,r7,q,wj]
    exact ⟨_,_,⟨j+1,rfl,rfl,by omega,by rw [hst];omega,by rw [hst];exact q2⟩,by simp only [↓qe,qq,reduceIte,Nat.reduceEqDiff,r6,r5,hst],by omega⟩
  by_cases c40:c.toNat=40\/c.toNat=123
  ·have hbr:brk c o (scan (s.take j) (0,0)).2=(o+1,max (scan (s.take j) (0,0)).2 (o+1)):=by unfold brk;rw [qu (c40.imp (u40 c).2 (u123 c).2)]
   have w:wrapI .i64 (o+1)=o+1:=xz (by omega) (by omega)
   have n3:¬ ((c.toNat:Nat):Int)=41:=by omega
   have n4:¬ ((c.toNat:Nat):Int)=125:=by omega
   by_cases q:c.toNat=40
   ·have t1:=zj (show ((c.toNat:Nat):Int)=40 by omega)
    simp only [↓qe,qq,reduceIte,Nat.reduceEqDiff,w21,w27,w35,q1,ix,t1,w,n3,n4]
    exact fin _ (by rw [hbr];rfl) rfl rfl
   ·have t1:¬ ((c.toNat:Nat):Int)=40:=by omega
    have t2:=zj (show ((c.toNat:Nat):Int)=123 by omega)
    simp only [↓qe,qq,reduceIte,Nat.reduceEqDiff,w21,w27,w35,q1,ix,t1,t2,w,n3,n4]
    exact fin _ (by rw [hbr];rfl) rfl rfl
  ·have n1:¬ ((c.toNat:Nat):Int)=40:=by omega
   have n2:¬ ((c.toNat:Nat):Int)=123:=by omega
   have b1:¬ (c=40\/c=123):=fun q=>c40 (q.imp (u40 c).1 (u123 c).1)
   by_cases c41:c.toNat=41\/c.toNat=125
   ·have hbr:brk c o (scan (s.take j) (0,0)).2=(o-1,(scan (s.take j) (0,0)).2):=by unfold brk;rw [qj b1,qu (c41.imp (u41 c).2 (u125 c).2)]
    have w:wrapI .i64 (o-1)=o-1:=xz (by omega) (by omega)
    by_cases q:c.toNat=41
    ·have t1:=zj (show ((c.toNat:Nat):Int)=41 by omega)
     simp only [↓qe,qq,reduceIte,Nat.reduceEqDiff,w21,w27,w35,q1,ix,n1,n2,t1,w]
     exact fin _ (by rw [hbr];rfl) rfl rfl
    ·have t1:¬ ((c.toNat:Nat):Int)=41:=by omega
     have t2:=zj (show ((c.toNat:Nat):Int)=125 by omega)
     simp only [↓qe,qq,reduceIte,Nat.reduceEqDiff,w21,w27,w35,q1,ix,n1,n2,t1,t2,w]
     exact fin _ (by rw [hbr];rfl) rfl rfl
   ·have n3:¬ ((c.toNat:Nat):Int)=41:=by omega
    have n4:¬ ((c.toNat:Nat):Int)=125:=by omega
    have hbr:brk c o (scan (s.take j) (0,0)).2=(o,(scan (s.take j) (0,0)).2):=by unfold brk;rw [qj b1,qj (fun q=>c41 (q.imp (u41 c).1 (u125 c).1))]
    simp only [↓qe,qq,reduceIte,Nat.reduceEqDiff,w21,w27,w35,q1,ix,n1,n2,n3,n4]
    exact fin _ (by rw [hbr];rfl) rfl rfl
 ·have hje:j=s.length:=by omega
  subst hje
  have q1:¬ ((s.length:Nat):Int)<(s.length:Nat):=by omega
  rw [qb7] at hp
  rw [qu hp] at hP
  simp only [↓qe,qq,reduceIte,Nat.reduceEqDiff,w21,w49,q1]
  exact hP
theorem qs8 {H:AHeap} {tv:AV} {p:Ls} (hn:Nds H tv (p.encL 0)) (hz:∀ x ∈ p.encL 0,x.kids.length*8<=140737488355328) (hm:mayB (p.encL 0)=true) (ho:p.ok) (hs:p.small) (hl:p.sz+1<=2000) :
 yg M yb [tv] H fun v H'=>v=.tuple [.str (printR p).1,.int .i64 (printR p).2]/\Fr Em H H':=by
 refine qna ?_
 obtain ⟨w0,w4,w12,-,-,-,-,-,-,-⟩:=qjg M ⟨none,yb⟩
 simp only [↓qe,qq,reduceIte,Nat.reduceEqDiff,w0]
 refine C3.q (qxn (M:=M) hn hz) fun v H1 ⟨hv,hf⟩=>?_
 rw [hm] at hv;subst hv
 have hn1:=hn.em hf
 have hc:RdC H1 tv (p.encL 0):=⟨hn1,by rw [Ls.lenL];omega⟩
 have wl:wrapI .i64 (((p.encL 0).length:Nat)-1:Int)=(p.sz:Int):=by rw [Ls.lenL,xz (by omega) (by omega)];omega
 have htl:=qxu hs hl
 simp only [↓qe,qq,reduceIte,Nat.reduceEqDiff,w4,w12,hn1.len,wl]
 have hlo:=qk2 (M:=M) hc p (Ls_sl hc p) H1 0 0 (Fr.refl _) (Seg.all _) ho hs (by omega) (by omega)
 rw [x9] at hlo
 refine C3.q hlo fun v H2 ⟨hv,hf2⟩=>?_
 subst hv
 exact rcount (by omega) rfl rfl ⟨rfl,hf.em hf2⟩
end Go.Am
namespace Go.Am
open Lang Go.Proofs
variable {M:Mac} [MK M]
theorem q4z {H:AHeap} {tv:AV} {t:List Nd} (h:NdI H tv t):yg M yb [tv] H fun v H'=>Fr Em H H' /\ ∃ s e,v=.tuple [.str s,.int .i64 e]/\(e=0 ↔ OkP t):=by
 have hsm:∀ {p:Ls},t=p.encL 0->p.small:=fun q=>Ls.small_of _ 0 fun y hy=>h.hi y (by rw [q];unfold Ls.encL;exact List.mem_append_left _ hy)
 by_cases hok:OkP t
 ·have hok':=hok
  obtain ⟨p,rfl,ho,hz,hp⟩:=hok'
  refine (qs8 h.nd h.kids ((qp6 h.lo).2 ⟨p,rfl,ho,hz⟩) ho (hsm rfl) hz).mono fun v H' ⟨hv,hf⟩=>⟨hf,_,_,hv,?_⟩
  exact ⟨fun _=>hok,fun _=>hp⟩
 ·cases hm:mayB t with
  | false =>
   refine (q4y h.nd h.kids hm).mono fun v H' ⟨hv,hf⟩=>⟨hf,[],2,hv,?_⟩
   exact ⟨fun q=>absurd q (by decide),fun q=>(hok q).elim⟩
  | true =>
   obtain ⟨p,rfl,ho,hz⟩:=(qp6 h.lo).1 hm
   refine (qs8 h.nd h.kids hm ho (hsm rfl) hz).mono fun v H' ⟨hv,hf⟩=>⟨hf,_,_,hv,?_⟩
   exact ⟨fun q=>(hok ⟨p,rfl,ho,hz,q⟩).elim,fun q=>(hok q).elim⟩
end Go.Am
