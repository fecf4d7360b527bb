/- NmQa: NiH NiJ NiK. -/
import Derived.Test.YtiibohocdbaekaaAmQNmQ9
import Derived.Test.YtiibohocdbaekaaAmQCodeQ
set_option linter.unusedVariables false
set_option linter.unusedSimpArgs false
set_option linter.unusedSectionVars false
set_option maxRecDepth 100000
namespace Go.Am
open Go.Proofs Ca
open Lang (ints)
variable {M:Mac} [MK M]
section
variable {H0 H:AHeap} {r b:Nat} {sv bv:AV} {n:No} {ks:List Nat}
theorem drop_old {lines line:Int} {c:Ca} (h:CI lines c):0<=(c.drop line).2.line:=by
 unfold Ca.drop
 cases hp:c.inS line 0 with
 | none=>exact Int.le_refl _
 | some i =>
  rw [inS_0] at hp
  obtain ⟨h0,hi,hv,hl,-⟩:=h.pos_some hp
  show 0<=(c.en i).line
  rw [hl];exact h0
theorem q4u (h:NoR H0 H r b sv bv n ks) (hci:CI n.lines n.c) (hk:n.backs.length<=900000) (line:Int):yf M qbo [.ptr r 0,.int .i64 line] H (HearR H0 H r b sv bv (n.dropL line)):=by
 refine qrx ?_
 obtain ⟨w0,w2,w17,w19,w27,w33⟩:=qry M ⟨none,qbo⟩
 by_cases q1:line<0
 ·have ea:n.dropL line=(n,[]):=by unfold No.dropL;rw [xc (.inl q1)]
  rw [ea]
  simp only [↓qj,xh,reduceIte,Nat.reduceEqDiff,w0,w2,qau,q1]
  exact ⟨⟨.nils,_,rfl,MsR.nil ..⟩,h.same (Fr.refl _)⟩
 by_cases q2:n.lines<=line
 ·have ea:n.dropL line=(n,[]):=by unfold No.dropL;rw [xc (.inr q2)]
  rw [ea]
  simp only [↓qj,xh,reduceIte,Nat.reduceEqDiff,w0,w2,qau,q1,qn,h.l1,q2]
  exact ⟨⟨.nils,_,rfl,MsR.nil ..⟩,h.same (Fr.refl _)⟩
 have hn:¬ (line<0\/n.lines<=line):=fun q=>q.elim q1 q2
 simp only [↓qj,xh,reduceIte,Nat.reduceEqDiff,w0,w2,qau,q1,qn,h.l1,q2,w17,h.l2]
 refine C3.q (qo6 (M:=M) h.ca hci line) fun v H1 ⟨hv,f1⟩=>?_
 rw [hv,q2n]
 have n1:=f1.next
 cases hf:n.c.find line with
 | none =>
  have ea:n.dropL line=(n,[]):=by unfold No.dropL;rw [qo hn,hf]
  rw [ea]
  have fb:Fr Em H ((H1.alloc (OR (encE .zero) qk)).set H1.next (OR (encE .zero) qk)):=f1.trans (qls _ _) fun _ q=>q.elim
  simp only [↓qj,xh,reduceIte,Nat.reduceEqDiff,xa,Option.getD_none,qe3,eZ,box_E,w19]
  exact ⟨⟨.nils,_,rfl,MsR.nil ..⟩,h.same fb⟩
 | some x =>
  obtain ⟨n',en⟩:∃ n',n'=(if x.r || x.w then n.abt 4 else n):=⟨_,rfl⟩
  have ea:n.dropL line=No.gone { n' with c:=(n'.c.drop line).1 } (n'.c.drop line).2:=by
   unfold No.dropL;rw [qo hn,hf,en]
  rw [ea]
  obtain ⟨H2,e2⟩:∃ X,X=(H1.alloc (OR (encE .zero) qk)).set H1.next (OR (encE x) qk):=⟨_,rfl⟩
  have f2:Fr Em H1 H2:=by rw [e2];exact qls _ _
  have f02:Fr Em H H2:=f1.trans f2 fun _ q=>q.elim
  have n2:H2.next=H1.next+1:=by rw [e2];rfl
  have g2:H2.get H1.next=some (OR (encE x) qk):=by rw [e2,xj]
  have h2:=h.em f02
  have lr:Op.load1 [.ptr H1.next 2] H2=some (.bool x.r):=zw (xd g2) 2
  have lw:Op.load1 [.ptr H1.next 3] H2=some (.bool x.w):=zw (xd g2) 3
  have hlr:=h.lt
  have hlb:=h.ca.lt
  have hls:slB sv<H.next:=h.ca.sl.lt
  have hbf:=h.bk.fresh
  have off:∀ y,H.next<=y -> ¬ NoW r b sv bv y:=fun y hy q=>by
   rcases q with q|q|q
   ·omega
   ·exact q.elim (fun q=>by omega) fun q=>by omega
   ·have:=hbf _ q;omega
  -- behind the loss
  have fin:∀ {Hc:AHeap},NoR H0 Hc r b sv bv n' ks->CI n.lines n'.c->n'.backs=n.backs->Fr (NoW r b sv bv) H2 Hc -> ∀ {E:Env},lk E 0=some (.ptr r 0)->lk E 1=some (.int .i64 line)->lk E 6=some (.ptr H1.next 0) ->
   W M ⟨none,qbo⟩ (jo 33) true (FIN3 M [.tmp 4,.tmp 5] (RT3 (HearR H0 H r b sv bv (No.gone { n' with c:=(n'.c.drop line).1 } (n'.c.drop line).2)))) E [] Hc:=by
   intro Hc hc hci' hb hfc E q0 q1 q6
   simp only [↓qj,xh,reduceIte,Nat.reduceEqDiff,w33,q0,q1,q6,qn,hc.l2]
   refine C3.q (qtc (M:=M) hc.ca hci' line) fun v H4 ⟨hv,h4,f4⟩=>?_
   rw [hv]
   unfold dropV
   have n4:=f4.next
   have nc:=hfc.next
   have gc:Hc.get H1.next=some (OR (encE x) qk):=by rw [hfc.keep _ (by omega) (off _ (by omega))];exact g2
   have g4:H4.get H1.next=some (OR (encE x) qk):=by rw [f4.keep _ (by omega) (fun q=>off H1.next (by omega) (.inr (.inl q)))];exact gc
   have s5:=stN g4 (x9 _) (x9 (n'.c.drop line).2) (qdp _)
   have ld5:=ldN (xj H4 H1.next (OR (encE (n'.c.drop line).2) qk)) (x9 _)
   have f5:Fr (On H1.next) H4 (H4.set H1.next (OR (encE (n'.c.drop line).2) qk)):=(Fr.refl H4).set (W:=On H1.next) (.inl rfl) _
   have hn4:=hc.putCa h4 f4 (by rw [(qp5 ..).1];exact hc.len)
   have hn5:=hn4.off f5 (fun x (hx:x=H1.next)=>by rw [hx];exact ⟨by have:=h.bk.fr.next;omega,off _ (by omega)⟩)
   have f05:Fr (NoW r b sv bv) H (H4.set H1.next (OR (encE (n'.c.drop line).2) qk)):=(fwT (fwT (fwE f02) hfc) (fwC f4)).set (.inr (by omega)) _
   simp only [↓qj,xh,reduceIte,Nat.reduceEqDiff,xa,q6,q0,s5,ld5]
   refine C3.q (qzi (M:=M) hn5 (by show n'.backs.length<=_;rw [hb];exact hk) _ (drop_old hci')) fun v H6 ⟨hm,ht⟩=>?_
   simp only [↓qj,xh,reduceIte,Nat.reduceEqDiff]
   exact ⟨⟨_,_,rfl,(hm.from f05.next).ms⟩,ht.from f05⟩
  cases hr:x.r with
  | true =>
   rw [hr] at lr en
   have en:n'=n.abt 4:=en
   simp only [↓qj,xh,reduceIte,Nat.reduceEqDiff,xa,qeq,qcg,eZ,box_E,<-e2,w19,w27,lr]
   refine C3.q (qfd (M:=M) h2 4) fun _ H3 ⟨h3,f3⟩=>?_
   simp only [↓qj,xh,reduceIte,Nat.reduceEqDiff]
   refine fin (by rw [en];exact h3) (by rw [en];exact hci.discard) (by rw [en];rfl) f3 ?_ ?_ ?_
   ·rfl
   ·rfl
   ·rfl
  | false =>
   rw [hr] at lr
   cases hw:x.w with
   | true =>
    rw [hr,hw] at en
    rw [hw] at lw
    have en:n'=n.abt 4:=en
    simp only [↓qj,xh,reduceIte,Nat.reduceEqDiff,xa,qeq,qcg,eZ,box_E,<-e2,w19,w27,lr,lw]
    refine C3.q (qfd (M:=M) h2 4) fun _ H3 ⟨h3,f3⟩=>?_
    simp only [↓qj,xh,reduceIte,Nat.reduceEqDiff]
    refine fin (by rw [en];exact h3) (by rw [en];exact hci.discard) (by rw [en];rfl) f3 ?_ ?_ ?_
    ·rfl
    ·rfl
    ·rfl
   | false =>
    rw [hr,hw] at en
    rw [hw] at lw
    have en:n'=n:=en
    simp only [↓qj,xh,reduceIte,Nat.reduceEqDiff,xa,qeq,qcg,eZ,box_E,<-e2,w19,w27,lr,lw]
    refine fin (by rw [en];exact h2) (by rw [en];exact hci) (by rw [en]) (Fr.refl _) ?_ ?_ ?_
    ·rfl
    ·rfl
    ·rfl
end
theorem q0q {H0:AHeap} {p:Nat} {v:AV} {ys:List En} (hv:Dt H0 v ys) (hp:H0.get p=some (OR [v] T__11)) (hpl:p<H0.next) (hl:ys.length<=1000000) :
 ITERO M jc [] [.ptr p 0] (fun x=>x=p\/OnS v x) (fun _=>False) H0 (ys.map fun e=>[.agg (encE e)]):=by
 intro Y R S W0 H1 hnx hN hR0 hW0 loc locS step
 obtain ⟨p1,p2,p3⟩:=hN p (.inl (.inl rfl))
 suffices h:yf M jc [.fn (.yield Y) [] [],.ptr p 0] H1 (ItQ R S W0 (fun _=>False) H1 (ys.map fun e=>[AV.agg (encE e)]).length) by
  obtain ⟨v,H',hc,W',q1,q2,q3⟩:=h.elim
  exact ⟨v,H',W',hc,q1,q2,q3⟩
 refine qjj ?_
 obtain ⟨w0,w4,w10,w19⟩:=qjk M ⟨none,jc⟩
 have lp:Op.load1 [.ptr p 0] H1=some v:=by rw [zw (xd (by rw [p2];exact hp))];rfl
 have hx:∀ {Hx:AHeap},Fr W0 H1 Hx->Dt Hx v ys:=fun {Hx} f =>
  Own.fr hv (⟨zn hnx f.next,fun y hy hw=>by
   obtain ⟨y1,y2,y3⟩:=hN y (.inl (Classical.not_not.1 hw))
   rw [f.keep y (by omega) y3,y2]⟩:Fr (fun y=>¬ (y=p\/OnS v y)) H0 Hx) fun y hy w=>w (.inr hy)
 rw [zd]
 simp only [↓qj,xh,reduceIte,Nat.reduceEqDiff,w0,lp,(OwnT.sl (hx (Fr.refl _))).len]
 refine LOOP3.intro (fun n E Hx=>∃ (i:Nat) (V:Nat->Prop),E=[(7,.int .i64 (i:Int)),(6,.int .i64 ((ys.length:Nat):Int)),(5,v),(0,.fn (.yield Y) [] []),(1,.ptr p 0)]/\n=ys.length-i/\i<=ys.length/\LpI R W0 H1 Hx i V) ?_ ?_
 ·exact ⟨_,_,⟨0,W0,rfl,rfl,zl _,⟨hR0,fun b hb=>⟨hW0 b hb,.inl hb⟩,Fr.refl _⟩⟩,by simp only [↓qj,xh,reduceIte,Nat.reduceEqDiff]⟩
 rintro n E Hx ⟨i,V,rfl,rfl,hi,hI⟩
 rcases z8 i ys.length with hlt|hge
 ·have c1:(i:Int)<((ys.length:Nat):Int):=by omega
  obtain ⟨e,he⟩:∃ e,ys[i]? = some e:=⟨ys[i],by simp [hlt]⟩
  have sl:=OwnT.sl (hx hI.fr)
  have ix:Op.indexSl 21 [v,.int .i64 (i:Int)]=some (eA v i):=sl.idx he rfl .i64
  have ld:Op.loadN 21 [eA v i] Hx=some (.agg (encE e)):=sl.loadN x9 (by decide) he
  have bx:=box_E (H1:=Hx) e
  obtain ⟨H2,e2⟩:∃ X,X=(Hx.alloc (OR (encE .zero) qk)).set Hx.next (OR (encE e) qk):=⟨_,rfl⟩
  rw [<-e2] at bx
  have f2:Fr Em Hx H2:=by rw [e2];exact qls _ _
  have g2:H2.get Hx.next=some (OR (encE e) qk):=by rw [e2,xj]
  have ld2:=ldN g2 (x9 e)
  have n2:=f2.next
  obtain ⟨bb,H3,W2,hr,hf,hW2,ht,hs⟩:=step i [.agg (encE e)] (by rw [xf,he];rfl) V H2 (loc _ _ _ _ hI.hR (fun y hy=>f2.keep y (hI.hV y hy).1 id) n2) (fun y hy=>⟨by have:=(hI.hV y hy).1;omega,(hI.hV y hy).2⟩) ((hI.fr.em f2).mono fun _ _ q=>.inl q)
  have fr3:Fr W0 H1 H3:=(hI.fr.em f2).trans hf fun y q=>(hI.hV y q).2
  have hV2:∀ y,W2 y->y<H3.next/\(W0 y\/H1.next<=y):=fun y q=>⟨(hW2 y q).1,(hW2 y q).2.elim (fun w=>(hI.hV y w).2) fun w=>.inr (by have:=hI.fr.next;omega)⟩
  have wj:wrapI .i64 ((i:Int)+1)=((i+1:Nat):Int):=by rw [xr (by omega) (by omega)];omega
  simp only [↓qj,xh,reduceIte,Nat.reduceEqDiff,w4,c1,w10,ix,ld,eZ,bx,ld2]
  refine C3.yret hr ?_
  cases bb with
  | true =>
   simp only [↓qj,xh,reduceIte,Nat.reduceEqDiff,w19,wj]
   exact ⟨_,_,⟨i+1,W2,rfl,rfl,by omega,⟨ht rfl,hV2,fr3⟩⟩,by simp only [↓qj,xh,reduceIte,Nat.reduceEqDiff],by omega⟩
  | false =>
   simp only [↓qj,xh,reduceIte,Nat.reduceEqDiff]
   exact ⟨W2,fr3.mono fun _ _ q=>.inl q,hV2,.inr (hs rfl)⟩
 ·have c1:¬ (i:Int)<((ys.length:Nat):Int):=by omega
  have hiw:i=ys.length:=by omega
  simp only [↓qj,xh,reduceIte,Nat.reduceEqDiff,w4,c1]
  exact ⟨V,hI.fr.mono fun _ _ q=>.inl q,hI.hV,.inl (by rw [<-hiw];exact hI.hR)⟩
section
variable {H0 H:AHeap} {r b:Nat} {sv bv:AV} {n:No} {ks:List Nat}
structure EntR (H:AHeap) (c:Ca) (v:AV) (H':AHeap) (p:Nat) (lv:AV) (ys:List En):Prop where
 eq:v=.fn (.func jc) [] [.ptr p 0]
 row:H'.get p=some (OR [lv] T__11)
 lt:p<H'.next
 le:H.next<=p
 dt:Dt H' lv ys
 all:AllOf c ys
 fr:Fr Em H H'
 nw:∀ x,OnS lv x->H.next<=x
theorem qzb (h:NoR H0 H r b sv bv n ks):yf M qaq [.ptr r 0] H fun v H'=>∃ p lv ys,EntR H n.c v H' p lv ys:=by
 refine qol ?_
 obtain ⟨w0,w2,w10⟩:=qom M ⟨none,qaq⟩
 simp only [↓qj,xh,reduceIte,Nat.reduceEqDiff,w0,w2,qau,w10,qn,h.l2]
 refine C3.q (all_spec (M:=M) h.ca h.len) fun lv H1 ⟨ys,hd,ha,f1,hn⟩=>?_
 have hs:yf M yt [lv] H1 fun v H'=>v=.fn (.func jc) [] [.ptr H1.next 0]/\H'=H1.alloc (OR [lv] T__11):=by
  refine qj7 ?_
  have hc:AV.cells lv=[lv]:=by
   obtain ⟨_,⟨_,rfl|⟨_,rfl,_⟩⟩|⟨_,rfl,_,_⟩⟩:=hd<;>rfl
  simp only [↓qj,xh,reduceIte,Nat.reduceEqDiff,qj8,hc]
  rfl
 refine C3.q hs fun v H2 ⟨hv,e2⟩=>?_
 simp only [↓qj,xh,reduceIte,Nat.reduceEqDiff]
 have f2:Fr Em H1 H2:=by rw [e2];exact (Fr.refl H1).alloc _
 exact ⟨H1.next,lv,ys,⟨hv,by rw [e2,xg],by rw [e2,za];omega,f1.next,Own.em hd f2,ha,f1.trans f2 fun _ q=>q.elim,hn⟩⟩
end
end Go.Am
namespace Go.Am
open Go.Proofs Ca
open Lang (ints)
variable {M:Mac} [MK M]
structure GaI (ys:List En) (t:Nat) (i:Nat) (V:Nat->Prop) (Hx:AHeap):Prop where
 vt:V t
 lt:t<Hx.next
 ls:∃ lv,Hx.get t=some (OR [lv] T__11)/\Dt Hx lv (ys.take i) /\ ∀ a,OnS lv a->V a/\t<a
theorem GaI.loc {ys:List En} {t i:Nat} {V:Nat->Prop} {Ha Hb:AHeap} (h:GaI ys t i V Ha) (hs:∀ x,V x->Hb.get x=Ha.get x) (hn:Ha.next<=Hb.next):GaI ys t i V Hb:=by
 obtain ⟨lv,l1,l2,l3⟩:=h.ls
 refine ⟨h.vt,ql h.lt hn,lv,by rw [hs _ h.vt];exact l1,?_,l3⟩
 exact Own.fr l2 (⟨hn,fun b _ hw=>hs b (Classical.not_not.1 hw)⟩:Fr (fun b=>¬ V b) Ha Hb) fun x hx w=>w (l3 x hx).1
section
variable {H0 H:AHeap} {r b:Nat} {sv bv:AV} {n:No} {ks:List Nat}
theorem AllOf.len {c:Ca} {ys:List En} (h:AllOf c ys):ys.length<=c.sl.length:=by
 rw [h.perm.length_eq];exact List.length_filter_le ..
theorem qum (h:NoR H0 H r b sv bv n ks):yf M vp [.ptr r 0] H (AllR H n.c):=by
 refine qun ?_
 obtain ⟨w0,wa,wb,w4,w9⟩:=qnb M ⟨none,vp⟩
 obtain ⟨H1,e1⟩:∃ X,X=H.alloc (OR [.nils] T__11):=⟨_,rfl⟩
 have f1:Fr Em H H1:=by rw [e1];exact (Fr.refl H).alloc _
 have n1:H1.next=H.next+1:=by rw [e1,za]
 have g1:H1.get H.next=some (OR [.nils] T__11):=by rw [e1,xg]
 simp only [↓qj,xh,reduceIte,Nat.reduceEqDiff,w0,<-e1,w4]
 refine C3.q (qzb (M:=M) (h.em f1)) fun v H2 ⟨p,lv,ys,he⟩=>?_
 rw [he.eq]
 have f2:Fr Em H H2:=f1.trans he.fr fun _ q=>q.elim
 have n2:=he.fr.next
 have n3:=he.le
 have n4:=he.lt
 have hl:ys.length<=40:=zn he.all.len h.len
 have g2t:H2.get H.next=some (OR [.nils] T__11):=by rw [he.fr.keep _ (by omega) id];exact g1
 refine RNG3.iter (fn:=qdb) (lp:=qcm) (pa:=qlz 0) (pb:=ql0 0) qrv qku.1 qku.2 (by decide) ⟨rfl,qeb qcm.assign⟩ ⟨rfl,qeb qcm.body⟩
  (q0q (M:=M) he.dt he.row he.lt (by omega)) (fun i V Hx=>GaI ys H.next i V Hx) (fun _ _ _=>False) (fun x=>x=H.next) (qe _) ?_ ?_ ?_ ?_ ?_ ?_ ?_ ?_
 ·rintro x ((q|q) | q)
  ·exact ⟨by omega,rfl,fun w=>by omega⟩
  ·exact ⟨Own.lt he.dt x q,rfl,fun w=>by have:=he.nw x q;omega⟩
  ·exact q.elim
 ·exact fun x hx=>by omega
 ·exact ⟨rfl,by omega,.nils,g2t,Own.nil ..,fun x q=>(q.1 rfl).elim⟩
 ·exact fun i V Ha Hb h hs hn=>h.loc hs hn
 ·exact fun e V Ha Hb h _ _=>h
 ·intro L i lr lb x hx hL V H6 hP hV hf6 hnL hL6 hgL
  rw [xf,qv] at hx
  obtain ⟨e,hk,rfl⟩:=hx
  refine ⟨_,rfl,?_⟩
  obtain ⟨-,wa,wb,-⟩:=qnb M ⟨some L,vp⟩
  have bx:=box_E (H1:=H6) e
  obtain ⟨H7,e7⟩:∃ X,X=(H6.alloc (OR (encE .zero) qk)).set H6.next (OR (encE e) qk):=⟨_,rfl⟩
  rw [<-e7] at bx
  have f7:Fr Em H6 H7:=by rw [e7];exact qls _ _
  have n7:H7.next=H6.next+1:=by rw [e7];rfl
  have g7:H7.get H6.next=some (OR (encE e) qk):=by rw [e7,xj]
  simp only [↓qj,xh,reduceIte,Nat.reduceEqDiff,wa,eZ,bx,qin]
  refine ⟨by rw [f7.keep L hL6 id];exact hgL,?_⟩
  have gL:(H7.set L lb).get L=some lb:=xj ..
  have g8:(H7.set L lb).get H6.next=some (OR (encE e) qk):=by rw [qae (by omega)];exact g7
  have f8:Fr (fun y=>V y\/y=L) H6 (H7.set L lb):=(f7.mono fun _ _ q=>q.elim).set (.inl (.inr rfl)) _
  have hP8:=hP.loc (Hb:=H7.set L lb) (fun y hy=>by rw [qae (fun q:L=y=>hnL (by rw [q];exact hy)),f7.keep y (hV y hy).1 id]) (by rw [qpq];omega)
  have n8:(H7.set L lb).next=H6.next+1:=by rw [qpq,n7]
  generalize H7.set L lb=H8 at *
  obtain ⟨lv',l1,l2,l3⟩:=hP8.ls
  have lq:Op.load1 [.ptr H.next 0] H8=some lv':=zw (xd l1) 0
  have ld:=ldN g8 (x9 e)
  have hit:(ys.take i).length<=40:=by rw [zm];omega
  simp only [↓qj,xh,reduceIte,Nat.reduceEqDiff,wb,lq,ld]
  refine append3 (e:=qk) (size:=21) (bytes:=160) l2 (x:=.agg (encE e)) rfl (by rw [xx];exact x9 _) (by rw [xx];exact qdp _) (by decide) (by omega) (by omega) fun lv2 H9 hlv hf hfr=>?_
  rw [xx] at hlv
  have q9:H9.get H.next=some (OR [lv'] T__11):=by rw [hf.keep _ hP8.lt fun q=>by have:=(l3 _ q).2;omega];exact l1
  have o1:oneCell lv2=true:=by have:=Sl.one (Own.sl hlv);exact this
  have st:=qee q9 o1
  obtain ⟨H10,e10⟩:∃ X,X=H9.set H.next (OR [lv2] T__11):=⟨_,rfl⟩
  rw [<-e10] at st
  have f10:Fr (On H.next) H9 H10:=by rw [e10];exact (Fr.refl H9).set (W:=On H.next) (.inl rfl) _
  simp only [↓qj,xh,reduceIte,Nat.reduceEqDiff,st]
  have lo':∀ y,OnS lv2 y->H.next<y:=fun y q=>(hfr y q).elim (fun q=>(l3 y q).2) fun q=>by have:=hP.lt;omega
  have nf:=hf.next
  have n10:H10.next=H9.next:=by rw [e10];rfl
  refine ⟨rfl,?_,fun y=>V y\/OnS lv2 y,?_,?_,.inl ⟨rfl,.inl hP.vt,by have:=hP.lt;omega,lv2,by rw [e10,xj],?_,fun y q=>⟨.inr q,lo' y q⟩⟩⟩
  ·rw [f10.keep L (by omega) (fun (q:L=H.next)=>hnL (by rw [q];exact hP.vt)),hf.keep L (by omega) fun q=>hnL (l3 _ q).1];exact gL
  ·rintro y (q|q)
   ·exact ⟨by have:=(hV y q).1;omega,.inl q⟩
   ·refine ⟨by rw [n10];exact Own.lt hlv y q,?_⟩
    rcases hfr y q with w|w
    ·exact .inl (l3 y w).1
    ·exact .inr (by omega)
  ·exact (f8.trans hf fun x hx=>.inl (.inl (l3 x hx).1)).trans f10 fun x hx=>.inl (.inl (by rw [show x=H.next from hx];exact hP.vt))
  ·have hx2:ys.take (i+1)=ys.take i ++ [e]:=by rw [qd6,hk];rfl
   rw [hx2]
   have ow:OwnT encE qk 21 H9 lv2 (ys.take i ++ [e]):=by
    unfold OwnT
    rw [qu,qbv,j4,List.flatMap_nil,jb]
    exact hlv
   exact Own.fr ow f10 fun x hx (q:x=H.next)=>by have:=lo' x hx;omega
 ·intro d V Hd hd1 hd2 hgd hfd hVd hP
  obtain ⟨lv',l1,l2,l3⟩:=hP.ls
  rw [zd,zb (qe _)] at l2
  have lq:Op.load1 [.ptr H.next 0] Hd=some lv':=zw (xd l1) 0
  have fo:Fr (On d) Hd (Hd.set d (.deferred none)):=(Fr.refl Hd).set (W:=On d) (.inl rfl) _
  have fE:Fr Em H Hd:=f2.trans hfd fun y q=>.inr (q.elim (fun q=>by omega) False.elim)
  simp only [↓qj,xh,reduceIte,Nat.reduceEqDiff,w9,lq,qh1]
  refine ⟨hgd,ys,Own.fr l2 fo (fun x hx (q:x=d)=>(hVd x (l3 x hx).1).2.2 q),he.all,fE.set (.inr (by omega)) _,fun x hx=>by have:=(l3 x hx).2;omega⟩
 ·exact fun e d V Hd _ _ _ _ _ _ h=>h.elim
end
end Go.Am
namespace Go.Am
open Go.Proofs Ca
open Lang (ints)
variable {M:Mac} [MK M]
structure Bd (n n':No):Prop where
 bk:n'.backs.length<=n.backs.length+1
 us:n'.c.us<=n.c.us+2
section
variable {n:No}
theorem q5r (n:No) (x:En):(n.gone x).1.backs.length<=n.backs.length+1/\(n.gone x).1.c=n.c:=by
 unfold No.gone
 split
 ·exact ⟨by show (n.backs ++ [x.line]).length<=_;rw [qu];exact qe _,rfl⟩
 ·exact ⟨yx _,rfl⟩
theorem q2l (n:No) (m:Mg) (st:Int):(n.fillE m st).1.backs.length<=n.backs.length+1/\(n.fillE m st).1.c.us<=n.c.us+1:=by
 have h:=(q09 n.c m.line st m.d).2
 unfold No.fillE
 split
 ·obtain ⟨a,b⟩:=q5r { n with c:=(n.c.fill m.line st m.d).1 } (n.c.fill m.line st m.d).2.1
  exact ⟨a,by rw [b];show (n.c.fill m.line st m.d).1.us<=_;omega⟩
 ·exact ⟨yx _,by show (n.c.fill m.line st m.d).1.us<=_;omega⟩
theorem fill_bd (n:No) (m:Mg):Bd n (n.fill m).1:=by
 unfold No.fill
 generalize (if m.k=15 then (2:Int) else 1)=st
 unfold No.fillS
 split
 ·obtain ⟨a,b⟩:=q2l (n.abt 3) m st
  have e:(n.abt 3).c.us=n.c.us:=rfl
  exact ⟨a,by omega⟩
 ·obtain ⟨a,b⟩:=q2l n m st
  exact ⟨a,by omega⟩
theorem Bd.refl (n:No):Bd n n:=⟨by omega,by omega⟩
theorem q48 (n:No) (k line:Int):Bd n (n.ask k line).1:=by
 unfold No.ask
 split
 ·exact Bd.refl n
 ·exact ⟨yx _,by show n.c.us<=_;omega⟩
theorem hear_bd (n:No) (m:Mg):Bd n (n.hear m).1:=by
 unfold No.hear
 split
 ·exact Bd.refl n
 split
 ·exact ⟨by show (n.lost _ true).backs.length<=_;rw [(qij _ true).1];omega,by show (Ca.drop _ _).1.us<=_;rw [(qp5 ..).2,(qij _ true).2.2.2];omega⟩
 split
 ·cases n.c.find m.line with
  | none=>exact Bd.refl n
  | some x =>
   show Bd n (Prod.fst (if m.k=12 then _ else _))
   split
   ·exact ⟨by show (n.lost _ false).backs.length<=_;rw [(qij _ false).1];omega,by show (Ca.demote _ _).1.us<=_;rw [(qy3 ..).2,(qij _ false).2.2.2];omega⟩
   ·exact ⟨by show (n.lost _ true).backs.length<=_;rw [(qij _ true).1];omega,by show (Ca.drop _ _).1.us<=_;rw [(qp5 ..).2,(qij _ true).2.2.2];omega⟩
 split
 ·exact ⟨by show (n.backs.filter _).length<=_;have:=List.length_filter_le (fun x=>decide (x ≠ m.line)) n.backs;omega,by show n.c.us<=_;omega⟩
 ·cases n.c.find m.line with
  | some x=>exact ⟨yx _,by show (n.c.promote m.line m.d).us<=_;rw [(qwt ..).2];omega⟩
  | none =>
   obtain ⟨a,b⟩:=fill_bd { n with out:=⟨0,0,0,.zero⟩ } m
   exact ⟨a,b⟩
theorem drop_bd (n:No) (line:Int):Bd n (n.dropL line).1:=by
 unfold No.dropL
 split
 ·exact Bd.refl n
 ·cases n.c.find line with
  | none=>exact Bd.refl n
  | some x =>
   have e:∀ n':No,n'.backs=n.backs->n'.c.us=n.c.us->Bd n (No.gone { n' with c:=(n'.c.drop line).1 } (n'.c.drop line).2).1:=fun n' e1 e2=>by
    obtain ⟨a,b⟩:=q5r { n' with c:=(n'.c.drop line).1 } (n'.c.drop line).2
    refine ⟨by rw [<-e1];exact a,?_⟩
    rw [b]
    show (n'.c.drop line).1.us<=_
    rw [(qp5 ..).2,e2];omega
   show Bd n (No.gone _ _).1
   by_cases q:(x.r || x.w)=true
   ·simp only [xc q];exact e (n.abt 4) rfl rfl
   ·simp only [qo q];exact e n rfl rfl
theorem q5x (n:No) (a:Int):Bd n (n.load a).1:=by
 unfold No.load
 split
 ·cases n.c.find (No.ln a) with
  | none=>exact q48 ..
  | some x =>
   refine ⟨yx _,?_⟩
   show ((if n.live=true then n.c.mark (No.ln a) false else n.c).word a.toNat).1.us<=_
   have h1:=(qvk (if n.live=true then n.c.mark (No.ln a) false else n.c) a.toNat).2
   have h2:(if n.live=true then n.c.mark (No.ln a) false else n.c).us=n.c.us:=by split;exact (qxx ..).1;rfl
   omega
 ·exact Bd.refl n
theorem q28 (n:No) (a y:Int):Bd n (n.store a y).1:=by
 unfold No.store
 split
 ·split
  ·refine ⟨yx _,?_⟩
   show ((if n.live=true then n.c.mark (No.ln a) true else n.c).put a.toNat y).us<=_
   have h1:=(q21 (if n.live=true then n.c.mark (No.ln a) true else n.c) a.toNat y).2
   have h2:(if n.live=true then n.c.mark (No.ln a) true else n.c).us=n.c.us:=by split;exact (qxx ..).1;rfl
   omega
  ·exact q48 ..
 ·exact Bd.refl n
theorem cas_bd (n:No) (a o y:Int):Bd n (n.cas a o y).1:=by
 unfold No.cas
 split
 ·split
  ·exact Bd.refl n
  ·split
   ·refine ⟨yx _,?_⟩
    have h1:=(qvk n.c a.toNat).2
    show (if (n.c.word a.toNat).2.getD 0=o then (n.c.word a.toNat).1.put a.toNat y else (n.c.word a.toNat).1).us<=_
    split
    ·have h2:=(q21 (n.c.word a.toNat).1 a.toNat y).2
     omega
    ·omega
   ·exact q48 ..
 ·exact Bd.refl n
theorem play_bd (n:No) (x:Sp):Bd n (n.play x).1:=by
 unfold No.play
 split;· exact q5x ..
 split;· exact q28 ..
 split;· exact cas_bd ..
 split
 ·unfold No.begin;split
  ·exact Bd.refl n
  ·exact ⟨yx _,by show n.c.us<=_;omega⟩
 split
 ·unfold No.commit;split
  ·exact ⟨yx _,by show n.c.us<=_;omega⟩
  ·exact Bd.refl n
 split
 ·unfold No.abort;split
  ·split
   ·exact Bd.refl n
   ·exact ⟨yx _,by show n.c.us<=_;omega⟩
  ·exact Bd.refl n
 split;· exact hear_bd ..
 split;· exact drop_bd ..
 exact Bd.refl n
end
def newNo (core lines s w:Int):No:=⟨core,lines,newCa s.toNat w.toNat,⟨0,0,0,.zero⟩,[],false,0⟩
def nodeOk (core lines cores s w:Int):Prop:=newOk s w/\0<=core/\core<cores/\cores<=4/\2<=lines/\lines<=64
theorem newNo_ni {core lines cores s w:Int} (h:nodeOk core lines cores s w):(newNo core lines s w).NI:=by
 obtain ⟨⟨a,b,c,d⟩,-⟩:=h
 exact ⟨newCa_ci lines (by omega) (by omega),fun _=>q1h s.toNat w.toNat⟩
def encSet (lines cores s w:Int):List AV:=[.int .i64 lines,.int .i64 cores,.int .i64 s,.int .i64 w]
theorem bdNo (core lines:Int) (b:Nat) (s w:Int):Op.build [.int .i64 0,.int .i64 0,.nilp,.int .i64 0,.int .i64 0,.int .i64 0,.int .u64 0,.int .u64 0,.int .u64 0,.int .u64 0,.int .u64 0,.int .u64 0,.int .u64 0,.int .u64 0,.nils,.bool false,.int .i64 0] [(0,1),(1,1),(2,1)] [.int .i64 core,.int .i64 lines,.ptr b 0]=some (.agg (noC (newNo core lines s w) b .nils)):=rfl
def NodeNewR (H:AHeap) (core lines cores s w:Int) (v:AV) (H':AHeap):Prop:=(¬ nodeOk core lines cores s w/\v=.tuple [.nilp,.int .i64 2]/\Fr Em H H')\/nodeOk core lines cores s w /\ ∃ r b sv,v=.tuple [.ptr r 0,.int .i64 0]/\NoR H H' r b sv .nils (newNo core lines s w) []
theorem qz2 {H:AHeap} (core lines cores s w:Int):yf M qhe [.int .i64 core,.agg (encSet lines cores s w)] H (NodeNewR H core lines cores s w):=by
 refine q4a ?_
 obtain ⟨w0,w4,w12⟩:=q4b M ⟨none,qhe⟩
 obtain ⟨H1,e1⟩:∃ X,X=H.alloc (OR (encSet lines cores s w) qga):=⟨_,rfl⟩
 have f1:Fr Em H H1:=by rw [e1];exact (Fr.refl H).alloc _
 have n1:H1.next=H.next+1:=by rw [e1,za]
 have g1:H1.get H.next=some (OR (encSet lines cores s w) qga):=by rw [e1,xg]
 have l2:Op.load1 [.ptr H.next 2] H1=some (.int .i64 s):=zw (xd g1) 2
 have l3:Op.load1 [.ptr H.next 3] H1=some (.int .i64 w):=zw (xd g1) 3
 simp only [↓qj,xh,reduceIte,Nat.reduceEqDiff,w0,xx,<-e1,l2,l3]
 refine C3.q (q32 (M:=M) s w) fun v H2 ⟨f2,hv⟩=>?_
 have g2:H2.get H.next=some (OR (encSet lines cores s w) qga):=by rw [f2.keep _ (by omega) id];exact g1
 have l0:Op.load1 [.ptr H.next 0] H2=some (.int .i64 lines):=zw (xd g2) 0
 have l1:Op.load1 [.ptr H.next 1] H2=some (.int .i64 cores):=zw (xd g2) 1
 have f02:Fr Em H H2:=f1.trans f2 fun _ q=>q.elim
 have t2:¬ (2:Int)=0:=by decide
 have t0:=ja (show (0:Int)=0 from rfl)
 rcases hv with ⟨hn,hv⟩|⟨ho,b,sv,hv,hc,hb,hs⟩
 ·rw [hv]
  simp only [↓qj,xh,reduceIte,Nat.reduceEqDiff,xa,w4,t2]
  exact .inl ⟨fun q=>hn q.1,rfl,f02⟩
 rw [hv]
 by_cases q1:core<0
 ·simp only [↓qj,xh,reduceIte,Nat.reduceEqDiff,xa,w4,t0,q1]
  exact .inl ⟨fun q=>by have:=q.2.1;omega,rfl,f02⟩
 by_cases q2:cores<=core
 ·simp only [↓qj,xh,reduceIte,Nat.reduceEqDiff,xa,w4,t0,q1,l1,q2]
  exact .inl ⟨fun q=>by have:=q.2.2.1;omega,rfl,f02⟩
 by_cases q3:4<cores
 ·simp only [↓qj,xh,reduceIte,Nat.reduceEqDiff,xa,w4,t0,q1,l1,q2,q3]
  exact .inl ⟨fun q=>by have:=q.2.2.2.1;omega,rfl,f02⟩
 by_cases q4:lines<2
 ·simp only [↓qj,xh,reduceIte,Nat.reduceEqDiff,xa,w4,t0,q1,l1,q2,q3,l0,q4]
  exact .inl ⟨fun q=>by have:=q.2.2.2.2.1;omega,rfl,f02⟩
 by_cases q5:64<lines
 ·simp only [↓qj,xh,reduceIte,Nat.reduceEqDiff,xa,w4,t0,q1,l1,q2,q3,l0,q4,q5]
  exact .inl ⟨fun q=>by have:=q.2.2.2.2.2;omega,rfl,f02⟩
 obtain ⟨H3,e3⟩:∃ X,X=H2.alloc (OR (noC (newNo core lines s w) b .nils) qhf):=⟨_,rfl⟩
 have f3:Fr Em H2 H3:=by rw [e3];exact (Fr.refl H2).alloc _
 simp only [↓qj,xh,reduceIte,Nat.reduceEqDiff,xa,w4,t0,q1,l1,q2,q3,l0,q4,q5,w12,bdNo core lines b s w,xx,<-e3]
 have hlt:=hc.lt
 have hsl:slB sv<H2.next:=hc.sl.lt
 refine .inr ⟨⟨ho,by omega,by omega,by omega,by omega,by omega⟩,H2.next,b,sv,rfl,⟨by rw [e3,xg],by rw [e3,za];omega,hc.em f3,⟨.inl ⟨rfl,rfl⟩,f02.trans f3 fun _ q=>q.elim⟩,rfl,f02.next,by omega,by omega,by omega,by omega,fun q=>q.1 rfl,fun q=>q.1 rfl,fun q=>q.1 rfl,⟨by show 2<=lines;omega,by show lines<=64;omega⟩,?_⟩⟩
 show (List.replicate (s.toNat*w.toNat) En.zero).length<=40
 rw [qaw]
 obtain ⟨a,b,c,d⟩:=ho
 have:=Nat.mul_le_mul (show s.toNat<=8 by omega) (show w.toNat<=4 by omega)
 omega
def encSp (x:Sp):List AV:=.int .i64 x.k::.int .i64 x.n::.int .u64 x.v::.int .u64 x.o::encM x.m
theorem qy9 (x:Sp):(encSp x).length=15:=by simp [encSp,qan]
theorem encSp_m (x:Sp):((encSp x).drop 4).take 11=encM x.m:=by
 show (encM x.m).take 11=_
 rw [zb (by rw [qan];decide)]
section
variable {H0 H:AHeap} {r b:Nat} {sv bv:AV} {n:No} {ks:List Nat}
def PlayR (H0 H:AHeap) (r b:Nat) (sv bv:AV) (a:No × List Mg) (v:AV) (H':AHeap):Prop:=MsR H H' v a.2/\NoT H0 H r b sv bv a.1 H'
theorem q6a (h:NoR H0 H r b sv bv n ks) (hci:CI n.lines n.c) (hk:n.backs.length<=900000) (hu:n.c.us+2<=1000000) (x:Sp):yf M qe8 [.ptr r 0,.agg (encSp x)] H (PlayR H0 H r b sv bv (n.play x)):=by
 refine qzo ?_
 obtain ⟨w0,w4,w41,w16,w24,w32⟩:=qzp M ⟨none,qe8⟩
 obtain ⟨H1,e1⟩:∃ X,X=H.alloc (OR (encSp x) qhg):=⟨_,rfl⟩
 have f1:Fr Em H H1:=by rw [e1];exact (Fr.refl H).alloc _
 have g1:H1.get H.next=some (OR (encSp x) qhg):=by rw [e1,xg]
 have l0:Op.load1 [.ptr H.next 0] H1=some (.int .i64 x.k):=zw (xd g1) 0
 have l1:Op.load1 [.ptr H.next 1] H1=some (.int .i64 x.n):=zw (xd g1) 1
 have l2:Op.load1 [.ptr H.next 2] H1=some (.int .u64 x.v):=zw (xd g1) 2
 have l3:Op.load1 [.ptr H.next 3] H1=some (.int .u64 x.o):=zw (xd g1) 3
 have l4:Op.loadN 11 [.ptr H.next 4] H1=some (.agg (encM x.m)):=by rw [qhz (xd g1) (by rw [qy9];decide),encSp_m]
 have h1:=h.em f1
 have n1:=f1.next
 by_cases k0:x.k=0
 ·have ea:n.play x=((n.load x.n).1,(n.load x.n).2.2.2.1):=by unfold No.play;rw [xc k0]
  rw [ea]
  simp only [↓qj,xh,reduceIte,Nat.reduceEqDiff,w0,xx,<-e1,w4,l0,ja k0,l1]
  refine C3.q (qzr (M:=M) h1 hci hk (by omega) x.n) fun v H2 ⟨⟨ov,hv,hm⟩,h2,f2⟩=>?_
  rw [hv]
  simp only [↓qj,xh,reduceIte,Nat.reduceEqDiff,xa,w41]
  exact ⟨⟨hm.1,fun q=>by have:=hm.2 q;omega⟩,NoT.of h2 (fwT (fwE f1) f2)⟩
 by_cases k1:x.k=1
 ·have ea:n.play x=((n.store x.n x.v).1,(n.store x.n x.v).2.2.1):=by unfold No.play;rw [qo k0,xc k1]
  rw [ea]
  simp only [↓qj,xh,reduceIte,Nat.reduceEqDiff,w0,xx,<-e1,w4,l0,k0,ja k1,l1,l2]
  refine C3.q (qw2 (M:=M) h1 hci hk (by omega) x.n x.v) fun v H2 ⟨⟨ov,hv,hm⟩,h2,f2⟩=>?_
  rw [hv]
  simp only [↓qj,xh,reduceIte,Nat.reduceEqDiff,xa,w41]
  exact ⟨⟨hm.1,fun q=>by have:=hm.2 q;omega⟩,NoT.of h2 (fwT (fwE f1) f2)⟩
 by_cases k2:x.k=2
 ·have ea:n.play x=n.cas x.n x.o x.v:=by unfold No.play;rw [qo k0,qo k1,xc k2]
  rw [ea]
  simp only [↓qj,xh,reduceIte,Nat.reduceEqDiff,w0,xx,<-e1,w4,l0,k0,k1,w16,ja k2,l1,l2,l3]
  refine C3.q (cas_spec (M:=M) h1 hci hk hu x.n x.o x.v) fun v H2 ⟨⟨t,d,ov,e,hv,hm⟩,h2,f2⟩=>?_
  rw [hv]
  simp only [↓qj,xh,reduceIte,Nat.reduceEqDiff,xa,w41]
  exact ⟨⟨hm.1,fun q=>by have:=hm.2 q;omega⟩,NoT.of h2 (fwT (fwE f1) f2)⟩
 by_cases k3:x.k=3
 ·have ea:n.play x=(n.begin,[]):=by unfold No.play;rw [qo k0,qo k1,qo k2,xc k3]
  rw [ea]
  simp only [↓qj,xh,reduceIte,Nat.reduceEqDiff,w0,xx,<-e1,w4,l0,k0,k1,w16,k2,ja k3]
  refine C3.q (qwd (M:=M) h1) fun v H2 ⟨h2,f2⟩=>?_
  simp only [↓qj,xh,reduceIte,Nat.reduceEqDiff,w41]
  exact ⟨MsR.nil ..,NoT.of h2 (fwT (fwE f1) f2)⟩
 by_cases k4:x.k=4
 ·have ea:n.play x=(n.commit,[]):=by unfold No.play;rw [qo k0,qo k1,qo k2,qo k3,xc k4]
  rw [ea]
  simp only [↓qj,xh,reduceIte,Nat.reduceEqDiff,w0,xx,<-e1,w4,l0,k0,k1,w16,k2,k3,w24,ja k4]
  refine C3.q (qju (M:=M) h1) fun v H2 ⟨h2,f2⟩=>?_
  simp only [↓qj,xh,reduceIte,Nat.reduceEqDiff,w41]
  exact ⟨MsR.nil ..,NoT.of h2 (fwT (fwE f1) f2)⟩
 by_cases k5:x.k=5
 ·have ea:n.play x=((n.abort x.n).1,[]):=by unfold No.play;rw [qo k0,qo k1,qo k2,qo k3,qo k4,xc k5]
  rw [ea]
  simp only [↓qj,xh,reduceIte,Nat.reduceEqDiff,w0,xx,<-e1,w4,l0,k0,k1,w16,k2,k3,w24,k4,ja k5,l1]
  refine C3.q (qv8 (M:=M) h1 x.n) fun v H2 ⟨hv,h2,f2⟩=>?_
  simp only [↓qj,xh,reduceIte,Nat.reduceEqDiff,w41]
  exact ⟨MsR.nil ..,NoT.of h2 (fwT (fwE f1) f2)⟩
 by_cases k6:x.k=6
 ·have ea:n.play x=n.hear x.m:=by unfold No.play;rw [qo k0,qo k1,qo k2,qo k3,qo k4,qo k5,xc k6]
  rw [ea]
  simp only [↓qj,xh,reduceIte,Nat.reduceEqDiff,w0,xx,<-e1,w4,l0,k0,k1,w16,k2,k3,w24,k4,k5,w32,ja k6,l4]
  refine C3.q (q4v (M:=M) h1 hci hk (by omega) x.m) fun v H2 ⟨⟨ov,e,hv,hm⟩,h2⟩=>?_
  rw [hv]
  simp only [↓qj,xh,reduceIte,Nat.reduceEqDiff,xa,w41]
  exact ⟨⟨hm.1,fun q=>by have:=hm.2 q;omega⟩,h2.from (fwE f1)⟩
 by_cases k7:x.k=7
 ·have ea:n.play x=n.dropL x.n:=by unfold No.play;rw [qo k0,qo k1,qo k2,qo k3,qo k4,qo k5,qo k6,xc k7]
  rw [ea]
  simp only [↓qj,xh,reduceIte,Nat.reduceEqDiff,w0,xx,<-e1,w4,l0,k0,k1,w16,k2,k3,w24,k4,k5,w32,k6,ja k7,l1]
  refine C3.q (q4u (M:=M) h1 hci hk x.n) fun v H2 ⟨⟨ov,e,hv,hm⟩,h2⟩=>?_
  rw [hv]
  simp only [↓qj,xh,reduceIte,Nat.reduceEqDiff,xa,w41]
  exact ⟨⟨hm.1,fun q=>by have:=hm.2 q;omega⟩,h2.from (fwE f1)⟩
 ·have ea:n.play x=(n,[]):=by unfold No.play;rw [qo k0,qo k1,qo k2,qo k3,qo k4,qo k5,qo k6,qo k7]
  rw [ea]
  simp only [↓qj,xh,reduceIte,Nat.reduceEqDiff,w0,xx,<-e1,w4,l0,k0,k1,w16,k2,k3,w24,k4,k5,w32,k6,k7,w41]
  exact ⟨MsR.nil ..,h.same f1⟩
end
end Go.Am
