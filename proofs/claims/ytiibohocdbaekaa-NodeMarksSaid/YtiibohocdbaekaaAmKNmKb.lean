/- NmKb: NiL. -/
import Derived.Test.YtiibohocdbaekaaAmKNmKa
import Derived.Test.YtiibohocdbaekaaAmKNmK2
set_option linter.unusedVariables false
set_option linter.unusedSimpArgs false
set_option linter.unusedSectionVars false
set_option maxRecDepth 100000
namespace Go.Am
open Go.Proofs Ca No
open Lang (ints)
variable {M:Mac} [MK M]
section
variable {α:Type} {enc:α->List AV} {size:Nat} {H H':AHeap} {v:AV} {xs:List α}
theorem SlT.part (hs:∀ x,(enc x).length=size) (h:SlT enc size H v xs) {i:Nat} {x:α} (hx:xs[i]? = some x) {j n:Nat} (hj:j+n<=size) (h0:0<size):Op.loadN n [.ptr (slB v) (slO size v i+j)] H=some (.agg (((enc x).drop j).take n)):=by
 obtain ⟨_,all,h1,h2,h3⟩:=Sl.at h0 h (qe7 hx)
 rw [qhv h1 (by omega)]
 congr 2
 refine qbp fun k=>?_
 by_cases hk:k<n
 ·rw [jz,xb hk,ke,jz,xb hk,ke,yi,h3 _ (by omega),qe6 hs xs hx (by omega)]
 ·rw [z8 (by rw [jh];omega),z8 (by rw [jh];omega)]
theorem SlT.frW {W:Nat->Prop} (h:SlT enc size H v xs) (f:Fr W H H') (hw:∀ b,OnS v b -> ¬ W b):SlT enc size H' v xs:=by
 by_cases hn:v=.nils
 ·subst hn;exact ⟨h.1,h.2⟩
 ·exact Sl.fr h f (.inr (hw _ ⟨hn,rfl⟩))
end
theorem encM_d (m:Mg):((encM m).drop 3).take 8=enL m.d:=by
 obtain ⟨k,co,l,⟨d,hd⟩⟩:=m
 match d,hd with
 | [d0,d1,d2,d3,d4,d5,d6,d7],_=>rfl
theorem encE_o (x:En):((encE x).drop 12).take 8=enL x.o:=by
 obtain ⟨line,st,r,w,⟨d,hd⟩,⟨o,ho⟩,u⟩:=x
 match d,hd,o,ho with
 | [d0,d1,d2,d3,d4,d5,d6,d7],_,[e0,e1,e2,e3,e4,e5,e6,e7],_=>rfl
theorem neL (d e:L8) (H:AHeap):Op.eq (.agg L8T) true [.agg (enL d),.agg (enL e)] H=some (.bool (!decide (d=e))):=eqTy_agg _ _ _ H _ (eqL d e)
section
variable {n:No}
theorem q4u (n:No) (k line:Int):(n.ask k line).2.length<=2:=by unfold No.ask;split;exact xl _;exact kh _
theorem q5f (n:No) (x:En):(n.gone x).2.length<=1:=by
 unfold No.gone;split
 ·exact qe _
 ·exact xl _
theorem fill_ln (n:No) (m:Mg):(n.fill m).2.length<=1:=by
 have e:∀ (n:No) (st:Int),(n.fillE m st).2.length<=1:=fun n st=>by
  unfold No.fillE
  split
  ·exact q5f ..
  ·exact xl _
 unfold No.fill
 generalize (if m.k=15 then (2:Int) else 1)=st
 unfold No.fillS
 split
 ·exact e (n.abt 3) st
 ·exact e n st
theorem hear_ln (n:No) (m:Mg):(n.hear m).2.length<=2:=by
 unfold No.hear
 split
 ·exact xl _
 split
 ·exact kh _
 split
 ·cases n.c.find m.line with
  | none=>exact kh _
  | some x =>
   show List.length (Prod.snd (if m.k=12 then ((_,[_]):No × List Mg) else (_,[_])))<=2
   split<;>exact kh _
 split
 ·exact xl _
 ·cases n.c.find m.line with
  | some x=>exact kh _
  | none =>
   show ((No.fill _ m).2 ++ [n.msg 7 m.line]).length<=2
   rw [qu]
   exact Nat.succ_le_succ (fill_ln ..)
theorem drop_ln (n:No) (line:Int):(n.dropL line).2.length<=2:=by
 unfold No.dropL
 split
 ·exact xl _
 ·cases n.c.find line with
  | none=>exact xl _
  | some x=>exact Nat.le_succ_of_le (q5f ..)
theorem load_ln (n:No) (a:Int):(n.load a).2.2.2.1.length<=2:=by
 unfold No.load
 split
 ·cases n.c.find (No.ln a) with
  | none=>exact q4u ..
  | some x=>exact xl _
 ·exact xl _
theorem store_ln (n:No) (a y:Int):(n.store a y).2.2.1.length<=2:=by
 unfold No.store
 split
 ·split
  ·exact xl _
  ·exact q4u ..
 ·exact xl _
theorem cas_ln (n:No) (a o y:Int):(n.cas a o y).2.length<=2:=by
 unfold No.cas
 split
 ·split
  ·exact xl _
  ·split
   ·exact xl _
   ·exact q4u ..
 ·exact xl _
theorem play_ln (n:No) (x:Sp):(n.play x).2.length<=2:=by
 unfold No.play
 split;· exact load_ln ..
 split;· exact store_ln ..
 split;· exact cas_ln ..
 split;· exact xl _
 split;· exact xl _
 split;· exact xl _
 split;· exact hear_ln ..
 split;· exact drop_ln ..
 exact xl _
end
structure StR (H H3:AHeap) (r b:Nat) (sv:AV) (i:Nat) (Hx:AHeap) (bv:AV) (ks:List Nat) (n:No):Prop where
 no:NoR H3 Hx r b sv bv n ks
 ni:n.NI
 bk:n.backs.length<=i
 us:n.c.us<=2*i
theorem StR.play {H H3 Hx:AHeap} {r b:Nat} {sv bv:AV} {ks:List Nat} {n:No} {i:Nat} (h:StR H H3 r b sv i Hx bv ks n) {x:Sp} {H2:AHeap} {bv2:AV} {ks2:List Nat} (h2:NoR H3 H2 r b sv bv2 (n.play x).1 ks2):StR H H3 r b sv (i+1) H2 bv2 ks2 (n.play x).1:=by
 obtain ⟨a,c⟩:=play_bd n x
 have h1:=h.bk;have h3:=h.us
 exact ⟨h2,h.ni.play x,by omega,by omega⟩
theorem qww {H:AHeap} {lines cores s w:Int} {xv:AV} {xs:List Sp} (hal:∀ H1,Fr Em H H1->k9 M qoq [] H1 fun v H'=>v=.bool true/\H'=H1) (hx:SlT encSp 15 H xv xs):k9 M qbu [.agg (encSet lines cores s w),xv] H fun v _=>v=.bool true:=by
 refine qqf ?_
 obtain ⟨w0,w4,w6,w14,w100,w19,w25,w99,w31,w35,w37,w45,w66,w50,w70,w56,w76,w65,w98,w82,w88,w97⟩:=qqg M ⟨none,qbu⟩
 obtain ⟨H1,e1⟩:∃ X,X=H.alloc (OR (encSet lines cores s w) qf7):=⟨_,rfl⟩
 have f1:Fr Em H H1:=by rw [e1];exact (Fr.refl H).alloc _
 have n1:H1.next=H.next+1:=by rw [e1,xz]
 have g1:H1.get H.next=some (OR (encSet lines cores s w) qf7):=by rw [e1,xh]
 have ld4:Op.loadN 4 [.ptr H.next 0] H1=some (.agg (encSet lines cores s w)):=ldN g1 rfl
 simp only [↓qi,xe,reduceIte,Nat.reduceEqDiff,w0,xu,<-e1]
 refine C3.q (hal H1 f1) fun v H2 ⟨hv,hh⟩=>?_
 rw [hv,hh]
 simp only [↓qi,xe,reduceIte,Nat.reduceEqDiff,w4,ld4]
 refine C3.q (qzz (M:=M) 0 lines cores s w) fun v H3 hv=>?_
 have t2:¬ (2:Int)=0:=by decide
 have t0:=z5 (show (0:Int)=0 from rfl)
 rcases hv with ⟨_,hv,f3⟩|⟨ho,r,b,sv,hv,hno⟩
 ·rw [hv]
  simp only [↓qi,xe,reduceIte,Nat.reduceEqDiff,xa,w6,t2]
 rw [hv]
 have hx1:=hx.em f1
 have hx3:=hx1.em hno.bk.fr
 by_cases hl:400<xs.length
 ·have q1:(400:Int)<((xs.length:Nat):Int):=by omega
  simp only [↓qi,xe,reduceIte,Nat.reduceEqDiff,xa,w6,t0,hx3.len,q1]
 have q1:¬ (400:Int)<((xs.length:Nat):Int):=by omega
 simp only [↓qi,xe,reduceIte,Nat.reduceEqDiff,xa,w6,t0,hx3.len,q1,w14]
 refine LOOP3.intro (fun m E Hx=>∃ (i:Nat) (bv:AV) (ks:List Nat) (n:No),E=[(8,.int .i64 (i:Int)),(6,.ptr r 0),(5,.bool true),(1,xv)]/\m=xs.length-i/\i<=xs.length/\StR H1 H1 r b sv i Hx bv ks n) ?_ ?_
 ·exact ⟨_,_,⟨0,.nils,[],_,rfl,rfl,xl _,hno,newNo_ni ho,qe _,Int.le_refl _⟩,by simp only [↓qi,xe,reduceIte,Nat.reduceEqDiff]⟩
 rintro m E Hx ⟨i,bv,ks,n,rfl,rfl,hi,hI⟩
 have hxx:=hx1.em hI.no.bk.fr
 rcases jc i xs.length with hlt|hge
 case inr =>
  have c1:¬ (i:Int)<((xs.length:Nat):Int):=by omega
  simp only [↓qi,xe,reduceIte,Nat.reduceEqDiff,w19,hxx.len,c1,w100]
 have c1:(i:Int)<((xs.length:Nat):Int):=by omega
 obtain ⟨x,hxi⟩:∃ x,xs[i]? = some x:=⟨xs[i],by simp [hlt]⟩
 have wj:wrapI .i64 ((i:Int)+1)=((i+1:Nat):Int):=by rw [xr (by omega) (by omega)];omega
 have hbk:=hI.bk
 have hus:=hI.us
 simp only [↓qi,xe,reduceIte,Nat.reduceEqDiff,w19,hxx.len,c1,w25]
 refine C3.q (qzx (M:=M) hI.no) fun pv H4 ⟨ys,hp,hpa,f4,hpn⟩=>?_
 have h4:=hI.no.em f4
 simp only [↓qi,xe,reduceIte,Nat.reduceEqDiff]
 refine C3.q (qpb (M:=M) h4) fun v H5 ⟨hv,hh⟩=>?_
 rw [hv,hh]
 have hx4:=hxx.em f4
 have ix:=hx4.idx hxi (z:=(i:Int)) rfl .i64
 have lx:=hx4.loadN qy4 (by decide) hxi
 simp only [↓qi,xe,reduceIte,Nat.reduceEqDiff,w31,ix,lx]
 refine C3.q (q5x (M:=M) h4 hI.ni.ci (by omega) (by omega) x) fun ov H6 ⟨hm,bv2,ks2,h6,f6,w6'⟩=>?_
 have hst:StR H1 H1 r b sv (i+1) H6 bv2 ks2 (n.play x).1:=hI.play h6
 have hp6:SlT encE 21 H6 pv ys:=(OwnT.sl hp).frW f6 fun y hy q=>by
  have h1:=hpn y hy
  rcases q with q|q|q
  ·have:=hI.no.lt;omega
  ·have h2:=hI.no.ca.lt
   have h3:slB sv<Hx.next:=hI.no.ca.sl.lt
   exact q.elim (fun q=>by omega) fun q=>by omega
  ·have:=hI.no.bk.fresh _ q;omega
 simp only [↓qi,xe,reduceIte,Nat.reduceEqDiff]
 refine C3.q (qzx (M:=M) h6) fun nv H7 ⟨zs,hz,hza,f7,hzn⟩=>?_
 have h7:=h6.em f7
 have hp7:=hp6.em f7
 have hz7:=OwnT.sl hz
 have hm7:=hm.1.em f7
 have hzl:zs.length<=40:=zm hza.len h6.len
 have hyl:ys.length<=40:=zm hpa.len h4.len
 simp only [↓qi,xe,reduceIte,Nat.reduceEqDiff,w35]
 refine C3.q (q3c (M:=M) hz7 (by omega)) fun v H8 ⟨⟨z,hv,hzc⟩,hh⟩=>?_
 rw [hv,hh]
 simp only [↓qi,xe,reduceIte,Nat.reduceEqDiff,w37]
 refine C3.q (qpb (M:=M) h7) fun v H8 ⟨hv,hh⟩=>?_
 rw [hv,hh]
 have hni:=hst.ni
 -- what is there is held rightly
 have hzok:∀ e ∈ zs,e.w=true->e.st=2:=fun e he hw=>by
  obtain ⟨j,hj,ej,vj⟩:=hza.mem he
  have:=(hni.ci.ok j hj vj).2.2.2.2
  rw [ej] at this
  exact this hw
 have hclean:(n.play x).1.live=false->z=true:=fun hlv=>hzc fun e he=>by
  obtain ⟨j,hj,ej,vj⟩:=hza.mem he
  have:=hni.pl hlv j hj vj
  rw [ej] at this
  exact this
 have hout:=hI.ni.play_outs x
 have hmln:=play_ln n x
 have tail:∀ {Q:Post3} {E:Env},lk E 8=some (.int .i64 (i:Int))->lk E 6=some (.ptr r 0)->lk E 5=some (.bool true)->lk E 1=some xv->lk E 9=some pv->lk E 10=some (.bool n.live)->lk E 11=some ov->lk E 12=some nv ->
  (∀ {E':Env},lk E' 8=some (.int .i64 (i:Int))->lk E' 6=some (.ptr r 0)->lk E' 5=some (.bool true)->lk E' 1=some xv->Q .normal E' [] H7)->W M ⟨none,qbu⟩ (qo 45) true Q E [] H7:=by
  intro Q E q8 q6 q5 q1 q9 q10 q11 q12 hQ
  simp only [↓qi,xe,reduceIte,Nat.reduceEqDiff,w45]
  refine LOOP3.intro (fun m E Hx=>∃ k:Nat,E=[(14,.int .i64 (k:Int)),(12,nv),(8,.int .i64 (i:Int)),(6,.ptr r 0),(5,.bool true),(1,xv),(9,pv),(10,.bool n.live),(11,ov)]/\m=zs.length-k/\k<=zs.length/\Hx=H7) ?_ ?_
  ·exact ⟨_,_,⟨0,rfl,rfl,xl _,rfl⟩,by simp only [↓qi,xe,reduceIte,Nat.reduceEqDiff,q8,q6,q5,q1,q9,q10,q11,q12]⟩
  rintro m E2 Hx2 ⟨k,rfl,rfl,hk,rfl⟩
  rcases jc k zs.length with klt|kge
  ·have d1:(k:Int)<((zs.length:Nat):Int):=by omega
   obtain ⟨e,he⟩:∃ e,zs[k]? = some e:=⟨zs[k],by simp [klt]⟩
   have ie:Op.indexSl 21 [nv,.int .i64 (k:Int)]=some (eA nv k):=hz7.idx he rfl .i64
   have l1:Op.load1 [.ptr (slB nv) (slO 21 nv k+1)] Hx2=some (.int .i64 e.st):=(hz7.load1 xy he (by decide)).trans rfl
   have l3:Op.load1 [.ptr (slB nv) (slO 21 nv k+3)] Hx2=some (.bool e.w):=(hz7.load1 xy he (by decide)).trans rfl
   have wk:wrapI .i64 ((k:Int)+1)=((k+1:Nat):Int):=by rw [xr (by omega) (by omega)];omega
   cases hw:e.w with
   | false =>
    rw [hw] at l3
    simp only [↓qi,xe,reduceIte,Nat.reduceEqDiff,w50,hz7.len,d1,w56,ie,l3,w65,wk]
    exact ⟨_,_,⟨k+1,rfl,rfl,by omega⟩,by simp only [↓qi,xe,reduceIte,Nat.reduceEqDiff],by omega⟩
   | true =>
    rw [hw] at l3
    have hs2:=hzok e (z7 he) hw
    simp only [↓qi,xe,reduceIte,Nat.reduceEqDiff,w50,hz7.len,d1,w56,ie,l3,l1,z5 hs2,w65,wk]
    exact ⟨_,_,⟨k+1,rfl,rfl,by omega⟩,by simp only [↓qi,xe,reduceIte,Nat.reduceEqDiff],by omega⟩
  have d1:¬ (k:Int)<((zs.length:Nat):Int):=by omega
  simp only [↓qi,xe,reduceIte,Nat.reduceEqDiff,w50,hz7.len,d1,w66]
  refine LOOP3.intro (fun m E Hx=>∃ k:Nat,E=[(15,.int .i64 (k:Int)),(8,.int .i64 (i:Int)),(6,.ptr r 0),(5,.bool true),(1,xv),(9,pv),(10,.bool n.live),(11,ov)]/\m=(n.play x).2.length-k/\k<=(n.play x).2.length/\Hx=Hx2) ?_ ?_
  ·exact ⟨_,_,⟨0,rfl,rfl,xl _,rfl⟩,by simp only [↓qi,xe,reduceIte,Nat.reduceEqDiff]⟩
  rintro m E3 Hx3 ⟨j,rfl,rfl,hj,rfl⟩
  rcases jc j (n.play x).2.length with jlt|jge
  case inr =>
   have d2:¬ (j:Int)<(((n.play x).2.length:Nat):Int):=by omega
   simp only [↓qi,xe,reduceIte,Nat.reduceEqDiff,w70,hm7.len,d2]
   exact hQ rfl rfl rfl rfl
  have d2:(j:Int)<(((n.play x).2.length:Nat):Int):=by omega
  obtain ⟨y,hy⟩:∃ y,(n.play x).2[j]? = some y:=⟨(n.play x).2[j],by simp [jlt]⟩
  have iy:Op.indexSl 11 [ov,.int .i64 (j:Int)]=some (.ptr (slB ov) (slO 11 ov j)):=hm7.idx hy rfl .i64
  have y0:Op.load1 [.ptr (slB ov) (slO 11 ov j)] Hx3=some (.int .i64 y.k):=(hm7.load0 vi hy (by decide)).trans rfl
  have y2:Op.load1 [.ptr (slB ov) (slO 11 ov j+2)] Hx3=some (.int .i64 y.line):=(hm7.load1 vi hy (by decide)).trans rfl
  have y3:Op.loadN 8 [.ptr (slB ov) (slO 11 ov j+3)] Hx3=some (.agg (enL y.d)):=by rw [hm7.part vi hy (by decide) (by decide),encM_d]
  have wk:wrapI .i64 ((j:Int)+1)=((j+1:Nat):Int):=by rw [xr (by omega) (by omega)];omega
  simp only [↓qi,xe,reduceIte,Nat.reduceEqDiff,w70,hm7.len,d2,w76]
  refine LOOP3.intro (fun m E Hx=>∃ k:Nat,E=[(16,.int .i64 (k:Int)),(15,.int .i64 (j:Int)),(8,.int .i64 (i:Int)),(6,.ptr r 0),(5,.bool true),(1,xv),(9,pv),(10,.bool n.live),(11,ov)]/\m=ys.length-k/\k<=ys.length/\Hx=Hx3) ?_ ?_
  ·exact ⟨_,_,⟨0,rfl,rfl,xl _,rfl⟩,by simp only [↓qi,xe,reduceIte,Nat.reduceEqDiff]⟩
  rintro m E4 Hx4 ⟨k,rfl,rfl,hk,rfl⟩
  rcases jc k ys.length with klt|kge
  case inr =>
   have d3:¬ (k:Int)<((ys.length:Nat):Int):=by omega
   simp only [↓qi,xe,reduceIte,Nat.reduceEqDiff,w82,hp7.len,d3,w98,wk]
   exact ⟨_,_,⟨j+1,rfl,rfl,by omega⟩,by simp only [↓qi,xe,reduceIte,Nat.reduceEqDiff],by omega⟩
  have d3:(k:Int)<((ys.length:Nat):Int):=by omega
  cases hlv:n.live with
  | false =>
   simp only [↓qi,xe,reduceIte,Nat.reduceEqDiff,w82,hp7.len,d3,w98,wk]
   exact ⟨_,_,⟨j+1,rfl,rfl,by omega⟩,by simp only [↓qi,xe,reduceIte,Nat.reduceEqDiff,hlv],by omega⟩
  | true =>
   obtain ⟨e,he⟩:∃ e,ys[k]? = some e:=⟨ys[k],by simp [klt]⟩
   have ie:Op.indexSl 21 [pv,.int .i64 (k:Int)]=some (eA pv k):=hp7.idx he rfl .i64
   have l0:Op.load1 [.ptr (slB pv) (slO 21 pv k)] Hx4=some (.int .i64 e.line):=(hp7.load0 xy he (by decide)).trans rfl
   have l3:Op.load1 [.ptr (slB pv) (slO 21 pv k+3)] Hx4=some (.bool e.w):=(hp7.load1 xy he (by decide)).trans rfl
   have l12:Op.loadN 8 [.ptr (slB pv) (slO 21 pv k+12)] Hx4=some (.agg (enL e.o)):=by rw [hp7.part xy he (by decide) (by decide),encE_o]
   have wk4:wrapI .i64 ((k:Int)+1)=((k+1:Nat):Int):=by rw [xr (by omega) (by omega)];omega
   by_cases c1:e.line=y.line
   case neg =>
    simp only [↓qi,xe,reduceIte,Nat.reduceEqDiff,w82,hp7.len,d3,w88,ie,l0,iy,y2,c1,w97,wk4]
    exact ⟨_,_,⟨k+1,rfl,rfl,by omega⟩,by simp only [↓qi,xe,reduceIte,Nat.reduceEqDiff,hlv],by omega⟩
   cases hw:e.w with
   | false =>
    rw [hw] at l3
    simp only [↓qi,xe,reduceIte,Nat.reduceEqDiff,w82,hp7.len,d3,w88,ie,l0,iy,y2,z5 c1,l3,w97,wk4]
    exact ⟨_,_,⟨k+1,rfl,rfl,by omega⟩,by simp only [↓qi,xe,reduceIte,Nat.reduceEqDiff,hlv],by omega⟩
   | true =>
    rw [hw] at l3
    have said:y.k=3\/y.k=5->y.d=e.o/\(n.play x).1.live=false:=fun q=>by
     obtain ⟨p,hp',ep,vp⟩:=hpa.mem (z7 he)
     have:=hout hlv y (z7 hy) q p hp' vp (by rw [ep];exact c1) (by rw [ep];exact hw)
     rw [ep] at this
     exact this
    by_cases k3:y.k=3
    ·obtain ⟨s1,s2⟩:=said (.inl k3)
     simp only [↓qi,xe,reduceIte,Nat.reduceEqDiff,w82,hp7.len,d3,w88,ie,l0,iy,y2,z5 c1,l3,y0,z5 k3,y3,l12,neL,qdm s1]
     refine C3.q (qpb (M:=M) h7) fun v H9 ⟨hv,hh⟩=>?_
     rw [hv,hh,s2]
     simp only [↓qi,xe,reduceIte,Nat.reduceEqDiff,w97,wk4]
     exact ⟨_,_,⟨k+1,rfl,rfl,by omega⟩,by simp only [↓qi,xe,reduceIte,Nat.reduceEqDiff,hlv],by omega⟩
    by_cases k5:y.k=5
    ·obtain ⟨s1,s2⟩:=said (.inr k5)
     simp only [↓qi,xe,reduceIte,Nat.reduceEqDiff,w82,hp7.len,d3,w88,ie,l0,iy,y2,z5 c1,l3,y0,k3,z5 k5,y3,l12,neL,qdm s1]
     refine C3.q (qpb (M:=M) h7) fun v H9 ⟨hv,hh⟩=>?_
     rw [hv,hh,s2]
     simp only [↓qi,xe,reduceIte,Nat.reduceEqDiff,w97,wk4]
     exact ⟨_,_,⟨k+1,rfl,rfl,by omega⟩,by simp only [↓qi,xe,reduceIte,Nat.reduceEqDiff,hlv],by omega⟩
    ·simp only [↓qi,xe,reduceIte,Nat.reduceEqDiff,w82,hp7.len,d3,w88,ie,l0,iy,y2,z5 c1,l3,y0,k3,k5,w97,wk4]
     exact ⟨_,_,⟨k+1,rfl,rfl,by omega⟩,by simp only [↓qi,xe,reduceIte,Nat.reduceEqDiff,hlv],by omega⟩
 have st7:StR H1 H1 r b sv (i+1) H7 bv2 ks2 (n.play x).1:=⟨h7,hst.ni,hst.bk,hst.us⟩
 cases hlv:(n.play x).1.live with
 | false =>
  have hz1:=hclean hlv
  rw [hz1]
  simp only [↓qi,xe,reduceIte,Nat.reduceEqDiff]
  refine tail rfl rfl rfl rfl rfl rfl rfl rfl fun {E'} q8 q6 q5 q1=>?_
  simp only [↓qi,xe,reduceIte,Nat.reduceEqDiff,w99,q8,wj]
  exact ⟨_,_,⟨i+1,bv2,ks2,_,rfl,rfl,by omega,st7⟩,by simp only [↓qi,xe,reduceIte,Nat.reduceEqDiff,q6,q5,q1],by omega⟩
 | true =>
  simp only [↓qi,xe,reduceIte,Nat.reduceEqDiff]
  refine tail rfl rfl rfl rfl rfl rfl rfl rfl fun {E'} q8 q6 q5 q1=>?_
  simp only [↓qi,xe,reduceIte,Nat.reduceEqDiff,w99,q8,wj]
  exact ⟨_,_,⟨i+1,bv2,ks2,_,rfl,rfl,by omega,st7⟩,by simp only [↓qi,xe,reduceIte,Nat.reduceEqDiff,q6,q5,q1],by omega⟩
end Go.Am
