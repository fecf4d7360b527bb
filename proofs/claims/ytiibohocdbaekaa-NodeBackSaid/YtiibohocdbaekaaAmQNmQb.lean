/- NmQb: NiL NiM. -/
import Derived.Test.YtiibohocdbaekaaAmQNmQa
import Derived.Test.YtiibohocdbaekaaAmQNmQ2
import Derived.Test.YtiibohocdbaekaaAmQCodeQ
set_option linter.unusedVariables false
set_option linter.unusedSimpArgs false
set_option linter.unusedSectionVars false
set_option maxRecDepth 100000
namespace Go.Am
open Go.Proofs Ca No
open Lang (ints)
variable {M:Mac} [MK M]
section
variable {α:Type} {enc:α->List AV} {size:Nat} {H H':AHeap} {v:AV} {xs:List α}
theorem SlT.part (hs:∀ x,(enc x).length=size) (h:SlT enc size H v xs) {i:Nat} {x:α} (hx:xs[i]? = some x) {j n:Nat} (hj:j+n<=size) (h0:0<size):Op.loadN n [.ptr (slB v) (slO size v i+j)] H=some (.agg (((enc x).drop j).take n)):=by
 obtain ⟨_,all,h1,h2,h3⟩:=Sl.at h0 h (qdq hx)
 rw [qhz h1 (by omega)]
 congr 2
 refine vz fun k=>?_
 by_cases hk:k<n
 ·rw [j6,xc hk,j5,j6,xc hk,j5,yj,h3 _ (by omega),qfb hs xs hx (by omega)]
 ·rw [zr (by rw [zm];omega),zr (by rw [zm];omega)]
theorem SlT.frW {W:Nat->Prop} (h:SlT enc size H v xs) (f:Fr W H H') (hw:∀ b,OnS v b -> ¬ W b):SlT enc size H' v xs:=by
 by_cases hn:v=.nils
 ·subst hn;exact ⟨h.1,h.2⟩
 ·exact Sl.fr h f (.inr (hw _ ⟨hn,rfl⟩))
end
theorem neL (d e:L8) (H:AHeap):Op.eq (.agg L8T) true [.agg (enL d),.agg (enL e)] H=some (.bool (!decide (d=e))):=eqTy_agg _ _ _ H _ (eqL d e)
section
variable {n:No}
end
structure StR (H H3:AHeap) (r b:Nat) (sv:AV) (i:Nat) (Hx:AHeap) (bv:AV) (ks:List Nat) (n:No):Prop where
 no:NoR H3 Hx r b sv bv n ks
 ni:n.NI
 bk:n.backs.length<=i
 us:n.c.us<=2*i
theorem StR.play {H H3 Hx:AHeap} {r b:Nat} {sv bv:AV} {ks:List Nat} {n:No} {i:Nat} (h:StR H H3 r b sv i Hx bv ks n) {x:Sp} {H2:AHeap} {bv2:AV} {ks2:List Nat} (h2:NoR H3 H2 r b sv bv2 (n.play x).1 ks2):StR H H3 r b sv (i+1) H2 bv2 ks2 (n.play x).1:=by
 obtain ⟨a,c⟩:=play_bd n x
 have h1:=h.bk;have h3:=h.us
 exact ⟨h2,h.ni.play x,by omega,by omega⟩
end Go.Am
namespace Go.Am
open Go.Proofs Ca No
open Lang (ints)
variable {M:Mac} [MK M]
def encP (p:Int × Int):List AV:=[.int .i64 p.1,.int .u64 p.2]
theorem q2h (p:Int × Int):(encP p).length=2:=rfl
structure EndL (L zs:List En):Prop where
 len:zs.length=L.length
 at_:∀ (k:Nat) (x y:En),L[k]? = some x->zs[k]? = some y->y.line=x.line/\y.d=x.d/\y.st=x.st/\y.r=false/\y.w=false
theorem q5l {n1 n:No} {old zs:List En} {k:Int} (h:NB n1 n) (hc:CI n1.lines n1.c) (a:AllOf n1.c old) (z:AllOf (n.abt k).c zs):EndL old zs:=by
 obtain ⟨sh,hd⟩:=h.abt k
 obtain ⟨h1,h2⟩:=AllOf.both hc sh a z
 refine ⟨h1,fun j x y hx hy=>?_⟩
 obtain ⟨i,hi,vi,rfl,rfl⟩:=h2 j x y hx hy
 obtain ⟨d1,d2,d3⟩:=hd i vi
 exact ⟨sh.line i,d1,sh.st i,d2,d3⟩
theorem end_cmt {n1 n:No} {was W zs:List En} (h:NB n1 n) (hc:CI n1.lines n1.c) (a:AllOf n1.c was) (w:WR n1 n was W) (z:AllOf n.commit.c zs):EndL W zs:=by
 obtain ⟨sh,-,hd⟩:=h.cmt
 obtain ⟨h1,h2⟩:=AllOf.both hc sh a z
 refine ⟨by rw [w.len];exact h1,fun j x y hx hy=>?_⟩
 have hj:j<was.length:=by rw [<-w.len];exact (qi.1 hx).1
 obtain ⟨i,hi,vi,e1,rfl⟩:=h2 j was[j] y (by simp [hj]) hy
 obtain ⟨i',hi',vi',e1',l,s,d⟩:=w.at_ j was[j] x (by simp [hj]) hx
 have:i=i':=hc.uq i i' hi hi' vi vi' (by rw [<-e1,<-e1'])
 subst this
 obtain ⟨d1,d2,d3⟩:=hd i vi
 exact ⟨by rw [sh.line,l,e1],by rw [d1,d],by rw [sh.st,s,e1],d2,d3⟩
theorem enc_put (e:En) (k:Nat) (hk:k<8) (y:Int):encE { e with d:=e.d.put k y } = (encE e).set (4+k) (.int .u64 y):=enc_d e k hk y
structure BkR (Hb:AHeap) (r b:Nat) (sv bv wv pv:AV) (ks:List Nat) (n1 n:No) (W old:List En) (j:Nat) (Hx:AHeap):Prop where
 no:NoR Hb Hx r b sv bv n ks
 nb:NB n1 n
 dw:Dt Hx wv W
 dp:Dt Hx pv old
 ow:∀ x,OnS wv x->Hb.next<=x /\ ¬ NoW r b sv bv x /\ ¬ OnS pv x
 op:∀ x,OnS pv x -> ¬ NoW r b sv bv x
 bk:n.backs.length<=300+2*j
 us:n.c.us<=600+4*j
section
variable {Hb:AHeap} {r b:Nat} {sv bv wv pv:AV} {ks:List Nat} {n1 n:No} {W old:List En} {j:Nat} {Hx:AHeap}
theorem BkR.step (h:BkR Hb r b sv bv wv pv ks n1 n W old j Hx) {n':No} {H':AHeap} (hn:NoR Hb H' r b sv bv n' ks) (f:Fr (NoW r b sv bv) Hx H') (hb:NB n1 n') {j':Nat} (h1:n'.backs.length<=300+2*j') (h2:n'.c.us<=600+4*j'):BkR Hb r b sv bv wv pv ks n1 n' W old j' H' :=
 ⟨hn,hb,Own.fr h.dw f fun x hx=>(h.ow x hx).2.1,Own.fr h.dp f h.op,h.ow,h.op,h1,h2⟩
theorem BkR.put (h:BkR Hb r b sv bv wv pv ks n1 n W old j Hx) {k:Nat} {e:En} (he:W[k]? = some e) {q:Nat} (hq:q<8) (y:Int):∃ H',Op.store 1 [.ptr (slB wv) (slO 21 wv k+(4+q)),.int .u64 y] Hx=some (.undef,H')/\BkR Hb r b sv bv wv pv ks n1 n (W.set k { e with d:=e.d.put q y }) old j H':=by
 obtain ⟨H',s1,d1,f1⟩:=h.dw.set1 x9 he (j:=4+q) (by omega) (u:=.int .u64 y) rfl (enc_put e q hq y)
 exact ⟨H',s1,h.no.off f1 fun x hx=>⟨(h.ow x hx).1,(h.ow x hx).2.1⟩,h.nb,d1,Own.fr h.dp f1 fun x hx q=>(h.ow x q).2.2 hx,h.ow,h.op,h.bk,h.us⟩
end
def wsof (a y:Int) (W:List En) (k:Nat):List En:=(W.take k).map (wput a y)++W.drop k
theorem wsof_all (a y:Int) (W:List En):wsof a y W W.length=W.map (wput a y):=by unfold wsof;rw [List.take_length,List.drop_length,jb]
theorem wsof_len (a y:Int) (W:List En) (k:Nat):(wsof a y W k).length=W.length:=by unfold wsof;rw [qu,zd,zm,vx];omega
theorem q60 {a y:Int} {W:List En} {k:Nat} {e:En} (h:W[k]? = some e):(wsof a y W k)[k]? = some e:=by
 have hk:=(qi.1 h).1
 unfold wsof
 rw [js (by rw [zd,zm];omega),j5,zd,zm]
 rw [show k+(k-min k W.length)=k by omega,h]
theorem q3c {a y:Int} {W:List En} {k:Nat} {e:En} (h:W[k]? = some e):wsof a y W (k+1)=(wsof a y W k).set k (wput a y e):=by
 have hk:=(qi.1 h).1
 have hd:W.drop k=e::W.drop (k+1):=by
  rw [List.drop_eq_getElem_cons hk]
  rw [xu hk] at h
  injection h with h
  rw [h]
 unfold wsof
 rw [qd6,h,hd,qc0,List.set_append_right _ _ (by rw [zd,zm];omega),zd,zm,show k-min k W.length=0 by omega,List.set_cons_zero]
 simp
theorem q61 {a y:Int} {W:List En} {k:Nat} {e:En} (h:W[k]? = some e) (he:e.line ≠ ln a):wsof a y W (k+1)=wsof a y W k:=by
 rw [q3c h]
 have:wput a y e=e:=by unfold wput;rw [qo he]
 rw [this]
 exact List.set_getElem_self' (q60 h)
where
 List.set_getElem_self' {l:List En} {k:Nat} {e:En} (h:l[k]? = some e):l.set k e=l:=by
  refine vz fun i=>?_
  by_cases q:k=i
  ·subst q
   rw [xn (qi.1 h).1,h]
  ·rw [qw q]
theorem qy0 {H:AHeap} {lines cores s w code:Int} {cm:Bool} {xv tv:AV} {xs:List Sp} {ps:List (Int × Int)} (hal:∀ H1,Fr Em H H1->yf M qow [] H1 fun v H'=>v=.bool true/\H'=H1) (hx:SlT encSp 15 H xv xs) (ht:SlT encP 2 H tv ps) :
 yf M qbn [.agg (encSet lines cores s w),xv,.agg [tv,.int .i64 code,.bool cm]] H fun v _=>v=.bool true:=by
 refine qrt ?_
 obtain ⟨w0,w4,w6,w14,w29,w19,w33,w25,w37,w28,w83,w42,w85,w48,w97,w91,w82,w54,w99,w73,w59,w107,w65,w128,w112,w72,w118,w127⟩:=qru M ⟨none,qbn⟩
 obtain ⟨H1,e1⟩:∃ X,X=H.alloc (OR (encSet lines cores s w) qga):=⟨_,rfl⟩
 obtain ⟨H2,e2⟩:∃ X,X=H1.alloc (OR [tv,.int .i64 code,.bool cm] qiu):=⟨_,rfl⟩
 have f1:Fr Em H H1:=by rw [e1];exact (Fr.refl H).alloc _
 have f12:Fr Em H1 H2:=by rw [e2];exact (Fr.refl H1).alloc _
 have f2:Fr Em H H2:=f1.trans f12 fun _ q=>q.elim
 have n1':H1.next=H.next+1:=by rw [e1,za]
 have n2':H2.next=H.next+2:=by rw [e2,za,n1']
 have g1:H2.get H.next=some (OR (encSet lines cores s w) qga):=by rw [f12.keep _ (by omega) id,e1,xg]
 have g2:H2.get H1.next=some (OR [tv,.int .i64 code,.bool cm] qiu):=by rw [e2,xg]
 have ld4:Op.loadN 4 [.ptr H.next 0] H2=some (.agg (encSet lines cores s w)):=ldN g1 rfl
 simp only [↓qj,xh,reduceIte,Nat.reduceEqDiff,w0,xx,<-e1,<-e2]
 refine C3.q (hal H2 f2) fun v H3 ⟨hv,hh⟩=>?_
 rw [hv,hh]
 simp only [↓qj,xh,reduceIte,Nat.reduceEqDiff,w4,ld4]
 refine C3.q (qz2 (M:=M) 0 lines cores s w) fun v H3 hv=>?_
 have t2:¬ (2:Int)=0:=by decide
 have t0:=ja (show (0:Int)=0 from rfl)
 rcases hv with ⟨_,hv,f3⟩|⟨ho,r,b,sv,hv,hno⟩
 ·rw [hv]
  simp only [↓qj,xh,reduceIte,Nat.reduceEqDiff,xa,w6,t2]
 rw [hv]
 have hx2:=hx.em f2
 have ht2:=ht.em f2
 -- what was handed in,at any time
 have txb:∀ {Hx:AHeap},Fr Em H2 Hx->Op.load1 [.ptr H1.next 0] Hx=some tv/\Op.load1 [.ptr H1.next 1] Hx=some (.int .i64 code)/\Op.load1 [.ptr H1.next 2] Hx=some (.bool cm):=fun f=>by
  have g:=(f.keep _ (show H1.next<H2.next by omega) id).trans g2
  exact ⟨zw (xd g) 0,zw (xd g) 1,zw (xd g) 2⟩
 have hf3:=hno.bk.fr
 obtain ⟨tx0,-,-⟩:=txb hf3
 by_cases hl:300<xs.length
 ·have q1:(300:Int)<((xs.length:Nat):Int):=by omega
  simp only [↓qj,xh,reduceIte,Nat.reduceEqDiff,xa,w6,t0,(hx2.em hf3).len,q1]
 have q1:¬ (300:Int)<((xs.length:Nat):Int):=by omega
 by_cases hl2:200<ps.length
 ·have q2:(200:Int)<((ps.length:Nat):Int):=by omega
  simp only [↓qj,xh,reduceIte,Nat.reduceEqDiff,xa,w6,t0,(hx2.em hf3).len,q1,tx0,(ht2.em hf3).len,q2]
 have q2:¬ (200:Int)<((ps.length:Nat):Int):=by omega
 simp only [↓qj,xh,reduceIte,Nat.reduceEqDiff,xa,w6,t0,(hx2.em hf3).len,q1,tx0,(ht2.em hf3).len,q2,w14]
 refine LOOP3.intro (fun m E Hx=>∃ (i:Nat) (bv:AV) (ks:List Nat) (n:No),E=[(10,.int .i64 (i:Int)),(8,.ptr r 0),(7,.bool true),(5,.ptr H1.next 0),(1,xv)]/\m=xs.length-i/\i<=xs.length/\StR H2 H2 r b sv i Hx bv ks n) ?_ ?_
 ·exact ⟨_,_,⟨0,.nils,[],_,rfl,rfl,zl _,hno,newNo_ni ho,qe _,Int.le_refl _⟩,by simp only [↓qj,xh,reduceIte,Nat.reduceEqDiff]⟩
 rintro m E Hx ⟨i,bv,ks,n,rfl,rfl,hi,hI⟩
 have hxx:=hx2.em hI.no.bk.fr
 rcases z8 i xs.length with hlt|hge
 ·have c1:(i:Int)<((xs.length:Nat):Int):=by omega
  obtain ⟨x,hxi⟩:∃ x,xs[i]? = some x:=⟨xs[i],by simp [hlt]⟩
  have wj:wrapI .i64 ((i:Int)+1)=((i+1:Nat):Int):=by rw [xr (by omega) (by omega)];omega
  have hbk:=hI.bk
  have hus:=hI.us
  have ix:=hxx.idx hxi (z:=(i:Int)) rfl .i64
  have lx:=hxx.loadN qy9 (by decide) hxi
  simp only [↓qj,xh,reduceIte,Nat.reduceEqDiff,w19,hxx.len,c1,w25,ix,lx]
  refine C3.q (q6a (M:=M) hI.no hI.ni.ci (by omega) (by omega) x) fun ov H6 ⟨hm,bv2,ks2,h6,f6,w6'⟩=>?_
  simp only [↓qj,xh,reduceIte,Nat.reduceEqDiff,w28,wj]
  exact ⟨_,_,⟨i+1,bv2,ks2,_,rfl,rfl,by omega,hI.play h6⟩,by simp only [↓qj,xh,reduceIte,Nat.reduceEqDiff],by omega⟩
 have c1:¬ (i:Int)<((xs.length:Nat):Int):=by omega
 have hi':i=xs.length:=by omega
 have hbk:=hI.bk
 have hus:=hI.us
 simp only [↓qj,xh,reduceIte,Nat.reduceEqDiff,w19,hxx.len,c1,w29]
 refine C3.q (qju (M:=M) hI.no) fun v H4 ⟨h4,f4⟩=>?_
 obtain ⟨n0,hn0⟩:∃ n0,n0=n.commit:=⟨_,rfl⟩
 have ni0:n0.NI:=by rw [hn0];exact hI.ni.play ⟨4,0,0,0,⟨0,0,0,.zero⟩⟩
 have c0:n0.live=false/\n0.backs=n.backs/\n0.c.us=n.c.us:=by
  rw [hn0];unfold No.commit
  cases hlv:n.live with
  | true=>exact ⟨rfl,rfl,rfl⟩
  | false=>exact ⟨hlv,rfl,rfl⟩
 rw [<-hn0] at h4
 simp only [↓qj,xh,reduceIte,Nat.reduceEqDiff]
 refine C3.q (qum (M:=M) h4) fun pv H5 ⟨ys,hp,hpa,f5,hpn⟩=>?_
 have h5:=h4.em f5
 simp only [↓qj,xh,reduceIte,Nat.reduceEqDiff,w33]
 refine C3.q (qwd (M:=M) h5) fun v H6 ⟨h6,f6⟩=>?_
 obtain ⟨n1,hn1⟩:∃ n1,n1=n0.begin:=⟨_,rfl⟩
 have en1:n1 = { n0 with live:=true,code:=0 }:=by rw [hn1];unfold No.begin;rw [qo (by rw [c0.1];decide)]
 have ni1:n1.NI:=by rw [hn1];exact ni0.play ⟨3,0,0,0,⟨0,0,0,.zero⟩⟩
 rw [<-hn1] at h6
 have ec:n1.c=n0.c:=by rw [en1]
 have nb1:NB n1 n1:=⟨ni1,by rw [en1],rfl,Shp.refl _,fun i hi=>by
  rw [ec] at hi ⊢
  rcases z8 i n0.c.sl.length with q|q
  ·have:=(ni0.pl c0.1 i q hi).2
   unfold base;rw [this];rfl
  ·rw [qo4 q] at hi;exact absurd rfl hi⟩
 simp only [↓qj,xh,reduceIte,Nat.reduceEqDiff]
 refine C3.q (qum (M:=M) h6) fun wv H7 ⟨zs,hz,hza,f7,hzn⟩=>?_
 have h7:=h6.em f7
 have low:∀ x,NoW r b sv bv x->x<H4.next:=fun x q=>by
  rcases q with q|q|q
  ·have:=h4.lt;omega
  ·have a1:=h4.ca.lt
   have a2:slB sv<H4.next:=h4.ca.sl.lt
   exact q.elim (fun q=>by omega) fun q=>by omega
  ·exact (h4.bk.fresh _ q).2
 have m5:=f5.next
 have m6:=f6.next
 have m7:=f7.next
 have m4:=h4.bk.fr.next
 have hpo:∀ x,OnS pv x -> ¬ NoW r b sv bv x:=fun x q q'=>by have:=hpn x q;have:=low x q';omega
 have bk0:BkR H2 r b sv bv wv pv ks n1 n1 zs ys 0 H7:=by
  refine ⟨h7,nb1,hz,Own.em (Own.fr hp f6 hpo) f7,fun x q=>⟨by have:=hzn x q;omega,fun q'=>by have:=hzn x q;have:=low x q';omega,fun q'=>by have:=hzn x q;have:=Own.lt hp x q';omega⟩,hpo,?_,?_⟩
  ·rw [show n1.backs=n0.backs by rw [en1],c0.2.1];omega
  ·rw [ec,c0.2.2];omega
 have wr0:WR n1 n1 zs zs:=⟨rfl,fun k x y hx' hy'=>by
  rw [hx'] at hy';injection hy' with hy';subst hy'
  obtain ⟨i,hi,ei,vi⟩:=hza.mem (jf hx')
  exact ⟨i,hi,vi,ei.symm,rfl,rfl,by rw [ei]⟩⟩
 have hyl:ys.length<=40:=zn hpa.len h4.len
 have hzl:zs.length<=40:=zn hza.len h6.len
 have hci1:CI n1.lines n1.c:=ni1.ci
 rw [<-ec] at hpa
 -- the end
 have fin:∀ {E:Env} {Hc:AHeap} {nC:No} {L:List En} {lv:AV},NoR H2 Hc r b sv bv nC ks->nC.live=false->Dt Hc lv L->L.length<=40->(∀ zs,AllOf nC.c zs->EndL L zs)->lk E 8=some (.ptr r 0)->lk E 11=some lv->lk E 7=some (.bool true) ->
  W M ⟨none,qbn⟩ (qm 97) true (FIN3 M [.tmp 6] (RT3 fun v _=>v=.bool true)) E [] Hc:=by
  intro E Hc nC L lv hc hlv hdL hLl hend q8 q11 q7
  simp only [↓qj,xh,reduceIte,Nat.reduceEqDiff,w97,q8]
  refine C3.q (qum (M:=M) hc) fun zv H9 ⟨us,hu,hua,f9,hun⟩=>?_
  have hE:=hend us hua
  simp only [↓qj,xh,reduceIte,Nat.reduceEqDiff,w99,q8]
  refine C3.q (q5v (M:=M) (hc.em f9)) fun v H10 ⟨hv,hh⟩=>?_
  rw [hv,hh,hlv]
  have hL9:SlT encE 21 H9 lv L:=OwnT.sl (Own.em hdL f9)
  have hu9:=OwnT.sl hu
  have el:=hE.len
  have eq1:=ja (show ((us.length:Nat):Int)=((L.length:Nat):Int) by omega)
  simp only [↓qj,xh,reduceIte,Nat.reduceEqDiff,hu9.len,hL9.len,eq1,q11,w107]
  refine LOOP3.intro (fun m E Hx=>∃ k:Nat,E=[(25,.int .i64 (k:Int)),(24,zv),(11,lv),(7,.bool true)]/\m=us.length-k/\k<=us.length/\Hx=H9) ?_ ?_
  ·exact ⟨_,_,⟨0,rfl,rfl,zl _,rfl⟩,by simp only [↓qj,xh,reduceIte,Nat.reduceEqDiff,q11,q7]⟩
  rintro m E2 Hx2 ⟨k,rfl,rfl,hk,rfl⟩
  rcases z8 k us.length with klt|kge
  case inr =>
   have d1:¬ (k:Int)<((us.length:Nat):Int):=by omega
   simp only [↓qj,xh,reduceIte,Nat.reduceEqDiff,w112,hu9.len,d1,w128]
  have d1:(k:Int)<((us.length:Nat):Int):=by omega
  obtain ⟨y,hy⟩:∃ y,us[k]? = some y:=⟨us[k],by simp [klt]⟩
  obtain ⟨x,hx'⟩:∃ x,L[k]? = some x:=⟨L[k]'(by omega),by simp [show k<L.length by omega]⟩
  obtain ⟨e1',e2',e3',e4',e5'⟩:=hE.at_ k x y hx' hy
  have iy:Op.indexSl 21 [zv,.int .i64 (k:Int)]=some (eA zv k):=hu9.idx hy rfl .i64
  have ixx:Op.indexSl 21 [lv,.int .i64 (k:Int)]=some (eA lv k):=hL9.idx hx' rfl .i64
  have y0:Op.load1 [.ptr (slB zv) (slO 21 zv k)] Hx2=some (.int .i64 x.line):=by rw [<-e1'];exact (hu9.load0 x9 hy (by decide)).trans rfl
  have y1:Op.load1 [.ptr (slB zv) (slO 21 zv k+1)] Hx2=some (.int .i64 x.st):=by rw [<-e3'];exact (hu9.load1 x9 hy (by decide)).trans rfl
  have y2:Op.load1 [.ptr (slB zv) (slO 21 zv k+2)] Hx2=some (.bool false):=by rw [<-e4'];exact (hu9.load1 x9 hy (by decide)).trans rfl
  have y3:Op.load1 [.ptr (slB zv) (slO 21 zv k+3)] Hx2=some (.bool false):=by rw [<-e5'];exact (hu9.load1 x9 hy (by decide)).trans rfl
  have y4:Op.loadN 8 [.ptr (slB zv) (slO 21 zv k+4)] Hx2=some (.agg (enL x.d)):=by rw [hu9.part x9 hy (by decide) (by decide),q2g,e2']
  have x0:Op.load1 [.ptr (slB lv) (slO 21 lv k)] Hx2=some (.int .i64 x.line):=(hL9.load0 x9 hx' (by decide)).trans rfl
  have x1:Op.load1 [.ptr (slB lv) (slO 21 lv k+1)] Hx2=some (.int .i64 x.st):=(hL9.load1 x9 hx' (by decide)).trans rfl
  have x4:Op.loadN 8 [.ptr (slB lv) (slO 21 lv k+4)] Hx2=some (.agg (enL x.d)):=by rw [hL9.part x9 hx' (by decide) (by decide),q2g]
  have wk:wrapI .i64 ((k:Int)+1)=((k+1:Nat):Int):=by rw [xr (by omega) (by omega)];omega
  have z1:=ja (show x.line=x.line from rfl)
  have z2:=ja (show x.st=x.st from rfl)
  simp only [↓qj,xh,reduceIte,Nat.reduceEqDiff,w112,hu9.len,d1,w118,iy,ixx,y0,x0,z1,y4,x4,neL,qew (show x.d=x.d from rfl),y1,x1,z2,y2,y3,w127,wk]
  exact ⟨_,_,⟨k+1,rfl,rfl,by omega⟩,by simp only [↓qj,xh,reduceIte,Nat.reduceEqDiff],by omega⟩
 simp only [↓qj,xh,reduceIte,Nat.reduceEqDiff,w37]
 refine LOOP3.intro (fun m E Hx=>∃ (j:Nat) (n:No) (W:List En),E=[(13,.int .i64 (j:Int)),(12,wv),(11,pv),(8,.ptr r 0),(7,.bool true),(5,.ptr H1.next 0)]/\m=ps.length-j/\j<=ps.length/\BkR H2 r b sv bv wv pv ks n1 n W ys j Hx/\WR n1 n zs W) ?_ ?_
 ·exact ⟨_,_,⟨0,n1,zs,rfl,rfl,zl _,bk0,wr0⟩,by simp only [↓qj,xh,reduceIte,Nat.reduceEqDiff]⟩
 rintro m E Hx ⟨j,n2,W,rfl,rfl,hj,hB,hW⟩
 obtain ⟨tx0,tx1,tx2⟩:=txb hB.no.bk.fr
 have htx:=ht2.em hB.no.bk.fr
 have hb1:=hB.bk
 have hu1:=hB.us
 rcases z8 j ps.length with jlt|jge
 case inr =>
  have c1:¬ (j:Int)<((ps.length:Nat):Int):=by omega
  simp only [↓qj,xh,reduceIte,Nat.reduceEqDiff,w42,tx0,htx.len,c1,w83,tx1]
  refine C3.q (qv8 (M:=M) hB.no code) fun v H8 ⟨hv,h8,f8⟩=>?_
  rw [hv]
  have hlv2:=hB.nb.live
  have dp8:Dt H8 pv ys:=Own.fr hB.dp f8 hB.op
  have dw8:Dt H8 wv W:=Own.fr hB.dw f8 fun x hx=>(hB.ow x hx).2.1
  have tx8:=(txb h8.bk.fr).2.2
  have hWl:W.length<=40:=by rw [hW.len];exact hzl
  by_cases q:code<1\/7<code
  ·have ea:n2.abort code=(n2,2):=by unfold No.abort;rw [xc hlv2,xc q]
   rw [ea] at h8
   rw [ea]
   simp only [↓qj,xh,reduceIte,Nat.reduceEqDiff,w85,t2]
   refine C3.q (qju (M:=M) h8) fun v H9 ⟨h9,f9⟩=>?_
   simp only [↓qj,xh,reduceIte,Nat.reduceEqDiff,w91,t2]
   refine fin h9 (hB.nb.cmt).2.1 (Own.fr dw8 f9 fun x hx=>(hB.ow x hx).2.1) hWl (fun us hu=>end_cmt hB.nb hci1 hza hW hu) ?_ ?_ ?_
   ·rfl
   ·rfl
   ·rfl
  ·have ea:n2.abort code=(n2.abt code,0):=by unfold No.abort;rw [xc hlv2,qo q]
   rw [ea] at h8
   rw [ea]
   cases hcm:cm with
   | true =>
    rw [hcm] at tx8
    simp only [↓qj,xh,reduceIte,Nat.reduceEqDiff,w85,t0,tx8]
    refine C3.q (qju (M:=M) h8) fun v H9 ⟨h9,f9⟩=>?_
    have ecm:(n2.abt code).commit=n2.abt code:=by unfold No.commit;rw [qo];exact fun q=>by cases q
    rw [ecm] at h9
    simp only [↓qj,xh,reduceIte,Nat.reduceEqDiff,w91,t0]
    refine fin h9 rfl (Own.fr dp8 f9 hB.op) hyl (fun us hu=>q5l hB.nb hci1 hpa hu) ?_ ?_ ?_
    ·rfl
    ·rfl
    ·rfl
   | false =>
    rw [hcm] at tx8
    simp only [↓qj,xh,reduceIte,Nat.reduceEqDiff,w85,t0,tx8]
    refine fin h8 rfl dp8 hyl (fun us hu=>q5l hB.nb hci1 hpa hu) ?_ ?_ ?_
    ·rfl
    ·rfl
    ·rfl
 have c1:(j:Int)<((ps.length:Nat):Int):=by omega
 obtain ⟨⟨a,y⟩,hpj⟩:∃ p,ps[j]? = some p:=⟨ps[j],by simp [jlt]⟩
 have wj:wrapI .i64 ((j:Int)+1)=((j+1:Nat):Int):=by rw [xr (by omega) (by omega)];omega
 have ld:∀ {Hy:AHeap},Fr Em H2 Hy->Op.load1 [.ptr (slB tv) (slO 2 tv j)] Hy=some (.int .i64 a)/\Op.load1 [.ptr (slB tv) (slO 2 tv j+1)] Hy=some (.int .u64 y):=fun f =>
  ⟨((ht2.em f).load0 q2h hpj (by decide)).trans rfl,((ht2.em f).load1 q2h hpj (by decide)).trans rfl⟩
 have ixp:Op.indexSl 2 [tv,.int .i64 (j:Int)]=some (.ptr (slB tv) (slO 2 tv j)):=htx.idx hpj rfl .i64
 obtain ⟨l0,l1⟩:=ld hB.no.bk.fr
 simp only [↓qj,xh,reduceIte,Nat.reduceEqDiff,w42,tx0,htx.len,c1,w48,ixp,l0,l1]
 refine C3.q (qw2 (M:=M) hB.no hB.nb.ni.ci (by omega) (by omega) a y) fun v H8 ⟨⟨ov,hv,_⟩,h8,f8⟩=>?_
 rw [hv]
 obtain ⟨nbS,dS,kS⟩:=hB.nb.store a y
 obtain ⟨bdb,bdu⟩:=q28 n2 a y
 obtain ⟨n3,hn3⟩:∃ n3,n3=(n2.store a y).1:=⟨_,rfl⟩
 rw [<-hn3] at h8 nbS bdb bdu
 -- then it is read
 have rd:∀ {E:Env} {Hy:AHeap} {W':List En},NoR H2 Hy r b sv bv n3 ks->Dt Hy wv W'->Dt Hy pv ys->WR n1 n3 zs W'->lk E 14=some (.int .i64 a)->lk E 15=some (.bool (n2.store a y).2.1)->lk E 13=some (.int .i64 (j:Int))->lk E 12=some wv->lk E 11=some pv->lk E 8=some (.ptr r 0)->lk E 7=some (.bool true)->lk E 5=some (.ptr H1.next 0) ->
  ∀ {Q:Post3},(∀ {E':Env} {H':AHeap} {n':No},BkR H2 r b sv bv wv pv ks n1 n' W' ys (j+1) H'->WR n1 n' zs W'->lk E' 13=some (.int .i64 (j:Int))->lk E' 12=some wv->lk E' 11=some pv->lk E' 8=some (.ptr r 0)->lk E' 7=some (.bool true)->lk E' 5=some (.ptr H1.next 0)->Q .normal E' [] H') ->
  Go.Am.W M ⟨none,qbn⟩ (qm 73) true Q E [] Hy:=by
  intro E Hy W' hy dw dp hW' q14 q15 q13 q12 q11 q8 q7 q5 Q hQ
  simp only [↓qj,xh,reduceIte,Nat.reduceEqDiff,w73,q8,q14]
  refine C3.q (qzr (M:=M) hy nbS.ni.ci (by omega) (by omega) a) fun v H9 ⟨⟨ov,hv,_⟩,h9,f9⟩=>?_
  rw [hv]
  obtain ⟨nbL,dL,-⟩:=nbS.load a
  obtain ⟨bdb',bdu'⟩:=q5x n3 a
  obtain ⟨tx0,-,-⟩:=txb h9.bk.fr
  obtain ⟨-,l1⟩:=ld h9.bk.fr
  have go:∀ {E':Env},lk E' 13=some (.int .i64 (j:Int))->lk E' 12=some wv->lk E' 11=some pv->lk E' 8=some (.ptr r 0)->lk E' 7=some (.bool true)->lk E' 5=some (.ptr H1.next 0)->Q .normal E' [] H9 :=
   hQ ⟨h9,nbL,Own.fr dw f9 fun x hx=>(hB.ow x hx).2.1,Own.fr dp f9 hB.op,hB.ow,hB.op,by omega,by omega⟩ (hW'.keep dL)
  cases hd:(n2.store a y).2.1 with
  | false =>
   rw [hd] at q15
   simp only [↓qj,xh,reduceIte,Nat.reduceEqDiff,xa,q15]
   refine go ?_ ?_ ?_ ?_ ?_ ?_
   ·exact q13
   ·exact q12
   ·exact q11
   ·exact q8
   ·exact q7
   ·exact q5
  | true =>
   rw [hd] at q15
   obtain ⟨r1,r2⟩:=NB.read hB.nb hd
   rw [<-hn3] at r1 r2
   have z3:=ja (show y=y from rfl)
   simp only [↓qj,xh,reduceIte,Nat.reduceEqDiff,xa,q15,r1,r2,q5,tx0,q13,ixp,l1,z3]
   refine go ?_ ?_ ?_ ?_ ?_ ?_
   ·exact q13
   ·exact q12
   ·exact q11
   ·exact q8
   ·exact q7
   ·exact q5
 have hB8:BkR H2 r b sv bv wv pv ks n1 n3 W ys (j+1) H8:=hB.step h8 f8 nbS (by omega) (by omega)
 simp only [↓qj,xh,reduceIte,Nat.reduceEqDiff,xa,w54]
 cases hd:(n2.store a y).2.1 with
 | false =>
  rw [hd] at rd
  have hW3:WR n1 n3 zs W:=hW.keep fun i=>by rw [hn3,kS hd]
  refine LOOP3.intro (fun m E Hx=>E=[(18,.int .i64 0),(15,.bool false),(14,.int .i64 a),(13,.int .i64 (j:Int)),(12,wv),(11,pv),(8,.ptr r 0),(7,.bool true),(5,.ptr H1.next 0)]/\m=0/\Hx=H8) ?_ ?_
  ·exact ⟨_,_,⟨rfl,rfl,rfl⟩,by simp only [↓qj,xh,reduceIte,Nat.reduceEqDiff]⟩
  rintro m E2 Hx2 ⟨rfl,rfl,rfl⟩
  have hdw:=OwnT.sl hB8.dw
  by_cases d1:(0:Int)<((W.length:Nat):Int)
  ·simp only [↓qj,xh,reduceIte,Nat.reduceEqDiff,w59,hdw.len,d1]
   refine rd h8 hB8.dw hB8.dp hW3 ?_ ?_ ?_ ?_ ?_ ?_ ?_ ?_ (fun {E' H' n'} hb' hw' q13 q12 q11 q8 q7 q5=>?_)
   ·rfl
   ·rfl
   ·rfl
   ·rfl
   ·rfl
   ·rfl
   ·rfl
   ·rfl
   simp only [↓qj,xh,reduceIte,Nat.reduceEqDiff,w82,q13,wj]
   exact ⟨_,_,⟨j+1,n',W,rfl,rfl,by omega,hb',hw'⟩,by simp only [↓qj,xh,reduceIte,Nat.reduceEqDiff,q12,q11,q8,q7,q5],by omega⟩
  ·simp only [↓qj,xh,reduceIte,Nat.reduceEqDiff,w59,hdw.len,d1]
   refine rd h8 hB8.dw hB8.dp hW3 ?_ ?_ ?_ ?_ ?_ ?_ ?_ ?_ (fun {E' H' n'} hb' hw' q13 q12 q11 q8 q7 q5=>?_)
   ·rfl
   ·rfl
   ·rfl
   ·rfl
   ·rfl
   ·rfl
   ·rfl
   ·rfl
   simp only [↓qj,xh,reduceIte,Nat.reduceEqDiff,w82,q13,wj]
   exact ⟨_,_,⟨j+1,n',W,rfl,rfl,by omega,hb',hw'⟩,by simp only [↓qj,xh,reduceIte,Nat.reduceEqDiff,q12,q11,q8,q7,q5],by omega⟩
 | true =>
  rw [hd] at rd
  have hW3:WR n1 n3 zs (W.map (wput a y)):=by rw [hn3];exact hW.store hB.nb hd
  obtain ⟨⟨am,aM⟩,-⟩:=dS hd
  have hli:=hB.no.li
  obtain ⟨a',rfl⟩:=ji am
  have hal:a'<1000000:=by omega
  have hWl:W.length<=40:=by rw [hW.len];exact hzl
  refine LOOP3.intro (fun m E Hx=>∃ k:Nat,E=[(18,.int .i64 (k:Int)),(15,.bool true),(14,.int .i64 (a':Int)),(13,.int .i64 (j:Int)),(12,wv),(11,pv),(8,.ptr r 0),(7,.bool true),(5,.ptr H1.next 0)]/\m=W.length-k/\k<=W.length/\BkR H2 r b sv bv wv pv ks n1 n3 (wsof (a':Int) y W k) ys (j+1) Hx) ?_ ?_
  ·exact ⟨_,_,⟨0,rfl,rfl,zl _,hB8⟩,by simp only [↓qj,xh,reduceIte,Nat.reduceEqDiff]⟩
  rintro m E2 Hx2 ⟨k,rfl,rfl,hk,hB2⟩
  have hdw:=OwnT.sl hB2.dw
  have lw:=hdw.len
  rw [wsof_len] at lw
  rcases z8 k W.length with klt|kge
  case inr =>
   have d1:¬ (k:Int)<((W.length:Nat):Int):=by omega
   have ek:k=W.length:=by omega
   rw [ek,wsof_all] at hB2
   simp only [↓qj,xh,reduceIte,Nat.reduceEqDiff,w59,lw,d1]
   refine rd hB2.no hB2.dw hB2.dp hW3 ?_ ?_ ?_ ?_ ?_ ?_ ?_ ?_ (fun {E' H' n'} hb' hw' q13 q12 q11 q8 q7 q5=>?_)
   ·rfl
   ·rfl
   ·rfl
   ·rfl
   ·rfl
   ·rfl
   ·rfl
   ·rfl
   simp only [↓qj,xh,reduceIte,Nat.reduceEqDiff,w82,q13,wj]
   exact ⟨_,_,⟨j+1,n',_,rfl,rfl,by omega,hb',hw'⟩,by simp only [↓qj,xh,reduceIte,Nat.reduceEqDiff,q12,q11,q8,q7,q5],by omega⟩
  have d1:(k:Int)<((W.length:Nat):Int):=by omega
  obtain ⟨e,he⟩:∃ e,W[k]? = some e:=⟨W[k],by simp [klt]⟩
  have he2:(wsof (a':Int) y W k)[k]? = some e:=q60 he
  have ie:Op.indexSl 21 [wv,.int .i64 (k:Int)]=some (eA wv k):=hdw.idx he2 rfl .i64
  have le0:Op.load1 [.ptr (slB wv) (slO 21 wv k)] Hx2=some (.int .i64 e.line):=(hdw.load0 x9 he2 (by decide)).trans rfl
  have wk:wrapI .i64 ((k:Int)+1)=((k+1:Nat):Int):=by rw [xr (by omega) (by omega)];omega
  obtain ⟨tx0,-,-⟩:=txb hB2.no.bk.fr
  obtain ⟨-,l1⟩:=ld hB2.no.bk.fr
  by_cases c2:e.line=((a' / 8:Nat):Int)
  ·have hm8:a' % 8<8:=qhc _ (by decide)
   obtain ⟨H9,s9,hB9⟩:=hB2.put he2 hm8 y
   have hset:wsof (a':Int) y W (k+1)=(wsof (a':Int) y W k).set k { e with d:=e.d.put (a' % 8) y }:=by
    rw [q3c he]
    have:wput (a':Int) y e = { e with d:=e.d.put (a' % 8) y }:=by unfold wput;rw [xc (show e.line=ln (a':Int) from c2)];rfl
    rw [this]
   rw [<-hset] at hB9
   simp only [↓qj,xh,reduceIte,Nat.reduceEqDiff,w59,lw,d1,w65,ie,le0,quo8 hal,ja c2,rem8 hal,tx0,ixp,l1,ixA k (a' % 8) hm8,s9,w72,wk]
   exact ⟨_,_,⟨k+1,rfl,rfl,by omega,hB9⟩,by simp only [↓qj,xh,reduceIte,Nat.reduceEqDiff],by omega⟩
  ·have hsame:wsof (a':Int) y W (k+1)=wsof (a':Int) y W k:=q61 he (show e.line ≠ ln (a':Int) from c2)
   simp only [↓qj,xh,reduceIte,Nat.reduceEqDiff,w59,lw,d1,w65,ie,le0,quo8 hal,c2,w72,wk]
   exact ⟨_,_,⟨k+1,rfl,rfl,by omega,by rw [hsame];exact hB2⟩,by simp only [↓qj,xh,reduceIte,Nat.reduceEqDiff],by omega⟩
end Go.Am
