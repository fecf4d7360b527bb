/- LqM7: MnT MnA MnB. -/
import Derived.Test.YtbimikjajohflaaGreatDoorAmMCodeMQ
import Derived.Test.YtbimikjajohflaaGreatDoorAmMLqM0
set_option linter.unusedVariables false
set_option linter.unusedSimpArgs false
set_option linter.unusedSectionVars false
set_option maxRecDepth 100000
open Nat (reduceEqDiff)
namespace Go.Am
open Go.Proofs
variable {M:aO} [MK M]
abbrev fw (c:Nat):AV:=.iface yg (.agg [.int .i64 (c:Nat)])
theorem xfe (e:Nat) (H:AHeap):∃ v,iU M AO [.ptr e 0] (some []) H (.ret v) (some []) H:=by
 have h:∃ e' up' H',iU M AO [.ptr e 0] (some []) H e' up' H'/\((∃ v,e'=.ret v)/\up'=some []/\H'=H):=by
  refine Mk (MK.at (by decide) qol) ?_;have e1:Op.eq .iface false [AV.nili,AV.nili] H=some (.bool true):=rfl;simp only [EM,Fq,G0,GD,Gk,Hl,Hs,F4,Gz,GI,F2,Fu,mY,Hp,Gx,FO,Gn,Hq,Hv,Hf,Hm,FV,G8,Gr,Gb,fe,Fx,Gj,mX,Fp,mI,qQ,T.aI,rE,GV,GA,Gl,FK,F7,GR,D4,CY,Dk,oU,pJ,pe,GZ,kR,qd,Dl,Fi,Dm,ql,xa,reduceIte,reduceEqDiff,GF,CZ,D6,lQ,lO,lL,lP,lV,kV,kS,lF,lK,EG,kX,Fa,EL,CB,EV,ED,DD,DU,Fo,mN,aq.body,aq.results,aq.loops,cP.params,cP.assign,cP.body,zt,xq,jv,x6,ne_eq,mQ,kr,false_and,xA,rW,rP,Bt,Ch,zG,yG,qmn,qjg,qmr,qjj,qmq,qji,qk5,qiy,qk4,qix,qmp,qmo,qjh,qmm,qml,qjf,qmk,qmj,qje,MV,BB,e1];exact ⟨_,rfl⟩
 obtain ⟨e',up',H',h1,⟨v,rfl⟩,rfl,rfl⟩:=h;exact ⟨v,h1⟩
theorem xff {e c z t:Nat} {H:AHeap} (he:H.get e=some (OR [.int .i64 (z:Nat)] t)) (aT:e<H.next):∃ v H',iU M AO [.ptr e 0] (some [(fw c,false)]) H (.ret v) (some [(fw c,true)]) H'/\H'.get e=some (OR [.int .i64 (c:Nat)] t)/\Fr (λ x=>x=e) H H':=by
 have h:∃ e' up' H',iU M AO [.ptr e 0] (some [(fw c,false)]) H e' up' H'/\((∃ v,e'=.ret v)/\up'=some [(fw c,true)]/\H'.get e=some (OR [.int .i64 (c:Nat)] t)/\Fr (λ x=>x=e) H H'):=by
  refine Mk (MK.at (by decide) qol) ?_;have e1:Op.eq .iface false [fw c,AV.nili] H=some (.bool false):=rfl;have e2:Op.typeAssert yg true (.agg [(.int .i64 0)]) [fw c]=some (.tuple [.agg [.int .i64 (c:Nat)],.bool true]):=rfl;have e3:Op.extract 1 [.tuple [.agg [.int .i64 (c:Nat)],.bool true]]=some (.bool true):=rfl;have e4:Op.extract 0 [.tuple [.agg [.int .i64 (c:Nat)],.bool true]]=some (.agg [.int .i64 (c:Nat)]):=rfl;have e5:Op.store 1 [AV.ptr H.next 0,AV.agg [AV.int .i64 (c:Nat)]] (H.alloc (OR [AV.int .i64 0] yg))=some (.undef,H.alloc (OR [.int .i64 (c:Nat)] yg)):=JK H [.int .i64 0] yg 1 (.agg [.int .i64 (c:Nat)]) rfl rfl rfl;have e6:Op.aa [AV.ptr H.next 0] (H.alloc (OR [.int .i64 (c:Nat)] yg))=some (.int .i64 (c:Nat)):=nD H [.int .i64 (c:Nat)] yg (0,0) true 0;have he':(H.alloc (OR [.int .i64 (c:Nat)] yg)).get e=some (OR [.int .i64 (z:Nat)] t):=by rw [rN aT];exact he
  have e7:Op.store 1 [.ptr e 0,.int .i64 (c:Nat)] (H.alloc (OR [.int .i64 (c:Nat)] yg))=some (.undef,(H.alloc (OR [.int .i64 (c:Nat)] yg)).set e (OR [.int .i64 (c:Nat)] t)):=y9 he' (o:=0) (n:=1) (v:=.int .i64 (c:Nat)) rfl (by simp) rfl;simp only [EM,Fq,G0,GD,Gk,Hl,Hs,F4,Gz,GI,F2,Fu,mY,Hp,Gx,FO,Gn,Hq,Hv,Hf,Hm,FV,G8,Gr,Gb,fe,Fx,Gj,mX,Fp,mI,qQ,T.aI,rE,GV,GA,Gl,FK,F7,GR,D4,CY,Dk,oU,pJ,pe,GZ,kR,qd,Dl,Fi,Dm,ql,xa,reduceIte,reduceEqDiff,GF,CZ,D6,lQ,lO,lL,lP,lV,kV,kS,lF,lK,EG,kX,Fa,EL,CB,EV,ED,DD,DU,Fo,mN,aq.body,aq.results,aq.loops,cP.params,cP.assign,cP.body,zt,xq,jv,x6,ne_eq,mQ,kr,false_and,xA,rW,rP,Bt,Ch,zG,yG,qmn,qjg,qmr,qjj,qmq,qji,qk5,qiy,qk4,qix,qmp,qmo,qjh,qmm,qml,qjf,qmk,qmj,qje,MV,BB,e1,e2,e3,e4,e5,e6,e7];exact ⟨⟨_,rfl⟩,xd ..,Fr.set (W:=λ x=>x=e) ((Fr.refl H).alloc _) (.inl rfl) _⟩
 obtain ⟨e',up',H',h1,⟨v,rfl⟩,rfl,h2,h3⟩:=h;exact ⟨v,H',h1,h2,h3⟩
def HU (P:Nat->AHeap->Prop) (e:bE) (H:AHeap):Prop:=(∃ u,e=.ret u)/\P 0 H \/ ∃ c,e=.panic [(fw c,false)]/\P c H
theorem q9p {g:Nat} {first cap:List AV} {rv:AV} {H:AHeap} {P:Nat->AHeap->Prop}
 (h:kj M g (first++cap) (H.alloc (OR [.int .i64 0] yt)) (HU λ c H1=>H1.get H.next=some (OR [.int .i64 0] yt)/\H.next<H1.next/\P c H1)) :
 ye M Ix [rv,.fn (.func g) first cap] H λ v H'=>∃ c H1,v=.int .i64 ((c:Nat):Int)/\P c H1/\Fr (λ x=>x=H.next) H1 H':=by
 have h:∃ e' H',CALL M Ix [rv,.fn (.func g) first cap] H e' H' /\ ∃ c H1,e'=.ret (.int .i64 ((c:Nat):Int))/\P c H1/\Fr (λ x=>x=H.next) H1 H':=by
  obtain ⟨e,H1,hc,hq⟩:=h;have e1:Op.bm AO 0 [.ptr H.next 0]=some (.fn (.func AO) [] [.ptr H.next 0]):=rfl;refine q03 (MK.at (by decide) qza) ?_;simp only [EM,Fq,G0,GD,Gk,Hl,Hs,F4,Gz,GI,F2,Fu,mY,Hp,Gx,FO,Gn,Hq,Hv,Hf,Hm,FV,G8,Gr,Gb,fe,Fx,Gj,mX,Fp,mI,qQ,T.aI,rE,GV,GA,Gl,FK,F7,GR,D4,CY,Dk,oU,pJ,pe,GZ,kR,qd,Dl,Fi,Dm,ql,xa,reduceIte,reduceEqDiff,GF,CZ,D6,lQ,lO,lL,lP,lV,kV,kS,lF,lK,EG,kX,Fa,EL,CB,EV,ED,DD,DU,Fo,mN,aq.body,aq.results,aq.loops,cP.params,cP.assign,cP.body,zt,xq,jv,x6,ne_eq,mQ,kr,false_and,xA,rW,rP,Bt,Ch,zG,yG,qoq,qk9,qop,qk8,qoo,qk7,qon,qk6,qsb,Js,e1,kh,zn];rcases hq with ⟨⟨u,rfl⟩,h1,h2,h3⟩|⟨c,rfl,h1,h2,h3⟩
  ·refine CA.ret hc ?_;have e2:Op.store 1 [AV.ptr H.next 0,AV.int .i64 0] H1=some (.undef,H1.set H.next (OR [.int .i64 ((0:Nat):Int)] yt)):=y9 h1 (o:=0) (n:=1) (v:=.int .i64 0) rfl (by simp) rfl;simp only [EM,Fq,G0,GD,Gk,Hl,Hs,F4,Gz,GI,F2,Fu,mY,Hp,Gx,FO,Gn,Hq,Hv,Hf,Hm,FV,G8,Gr,Gb,fe,Fx,Gj,mX,Fp,mI,qQ,T.aI,rE,GV,GA,Gl,FK,F7,GR,D4,CY,Dk,oU,pJ,pe,GZ,kR,qd,Dl,Fi,Dm,ql,xa,reduceIte,reduceEqDiff,GF,CZ,D6,lQ,lO,lL,lP,lV,kV,kS,lF,lK,EG,kX,Fa,EL,CB,EV,ED,DD,DU,Fo,mN,aq.body,aq.results,aq.loops,cP.params,cP.assign,cP.body,zt,xq,jv,x6,ne_eq,mQ,kr,false_and,xA,rW,rP,Bt,Ch,zG,yG,qoq,qk9,qop,qk8,qoo,qk7,qon,qk6,e2];obtain ⟨v,hv⟩:=xfe (M:=M) H.next (H1.set H.next (OR [.int .i64 ((0:Nat):Int)] yt))
   refine ⟨v,[],_,hv,?_⟩;refine bJ.intro (m:=ai) (a:=none) rfl ?_;have e3:Op.aa [.ptr H.next 0] (H1.set H.next (OR [.int .i64 ((0:Nat):Int)] yt))=some (.int .i64 ((0:Nat):Int)):=j8 (qy (xd ..)) 0;refine bJ.intro (m:=ai) (a:=[.int .i64 ((0:Nat):Int)]) ?_ ⟨rfl,0,H1,rfl,h3,Fr.set (W:=λ x=>x=H.next) (Fr.refl H1) (.inl rfl) _⟩;simp only [EM,Fq,G0,GD,Gk,Hl,Hs,F4,Gz,GI,F2,Fu,mY,Hp,Gx,FO,Gn,Hq,Hv,Hf,Hm,FV,G8,Gr,Gb,fe,Fx,Gj,mX,Fp,mI,qQ,T.aI,rE,GV,GA,Gl,FK,F7,GR,D4,CY,Dk,oU,pJ,pe,GZ,kR,qd,Dl,Fi,Dm,ql,xa,reduceIte,reduceEqDiff,GF,CZ,D6,lQ,lO,lL,lP,lV,kV,kS,lF,lK,EG,kX,Fa,EL,CB,EV,ED,DD,DU,Fo,mN,aq.body,aq.results,aq.loops,cP.params,cP.assign,cP.body,zt,xq,jv,x6,ne_eq,mQ,kr,false_and,xA,rW,rP,Bt,Ch,zG,yG,e3]
  ·refine CA.panic hc ?_;obtain ⟨v,H2,hv,g1,g2⟩:=xff (M:=M) (c:=c) h1 h2;refine ⟨v,[(fw c,true)],H2,hv,?_⟩;refine bJ.intro (m:=ai) (a:=none) rfl ?_;have e3:Op.aa [.ptr H.next 0] H2=some (.int .i64 ((c:Nat):Int)):=j8 (qy g1) 0;refine bJ.intro (m:=ai) (a:=[.int .i64 ((c:Nat):Int)]) ?_ ⟨rfl,c,H1,rfl,h3,g2⟩;simp only [EM,Fq,G0,GD,Gk,Hl,Hs,F4,Gz,GI,F2,Fu,mY,Hp,Gx,FO,Gn,Hq,Hv,Hf,Hm,FV,G8,Gr,Gb,fe,Fx,Gj,mX,Fp,mI,qQ,T.aI,rE,GV,GA,Gl,FK,F7,GR,D4,CY,Dk,oU,pJ,pe,GZ,kR,qd,Dl,Fi,Dm,ql,xa,reduceIte,reduceEqDiff,GF,CZ,D6,lQ,lO,lL,lP,lV,kV,kS,lF,lK,EG,kX,Fa,EL,CB,EV,ED,DD,DU,Fo,mN,aq.body,aq.results,aq.loops,cP.params,cP.assign,cP.body,zt,xq,jv,x6,ne_eq,mQ,kr,false_and,xA,rW,rP,Bt,Ch,zG,yG,e3,forget]
 obtain ⟨e',H',h1,c,H1,rfl,h2,h3⟩:=h;exact ye.intro h1 ⟨c,H1,rfl,h2,h3⟩
end Go.Am
namespace Go.Am
open Lang Go.Proofs
variable {M:aO} [MK M]
abbrev gO (x:Int):List AV:=[.int .u64 x]
theorem q8y (x:Int):(gO x).length=1:=rfl
def EQ (R:AV->AHeap->Prop) (X:Nat->AHeap->Prop) (e:bE) (H:AHeap):Prop:=match e with
 | .ret v=>R v H
 | .panic c=>∃ k,c=[(fw k,false)]/\X k H
theorem iO (R:AV->AHeap->Prop) (X:Nat->AHeap->Prop) (v:AV) (H:AHeap):EQ R X (.ret v) H=R v H:=rfl
theorem jF (R:AV->AHeap->Prop) (X:Nat->AHeap->Prop) (k:Nat) (H:AHeap):EQ R X (.panic [(fw k,false)]) H=X k H :=
 propext ⟨λ⟨k',h,hx⟩=>by simp only [xc,qu,kr,AV.iface.injEq,AV.agg.injEq,AV.int.injEq,mQ] at h;rw [show k=k' from by omega];exact hx,λ h=>⟨k,rfl,h⟩⟩
theorem P3.e {f:Nat} {vs:List AV} {H:AHeap} {R:AV->AHeap->Prop} {X':Nat->AHeap->Prop} {m:Bool} {X:ah->AHeap->Prop} {K:Bool->AV->AHeap->Prop} (h:kj M f vs H (EQ R X')) (hk:∀ v H',R v H'->K m v H') (hx:∀ k H',X' k H'->X [(fw k,false)] H'):P3 M m X (.func f) vs H K:=by
 obtain ⟨e,H',h1,h2⟩:=h;refine ⟨e,H',h1,?_⟩;cases e with
 | ret v=>exact hk v H' h2
 | panic c=>obtain ⟨k,rfl,h2⟩:=h2;exact hx k H' h2
theorem jA (ds ks:List Nat) (Q:aK) (E:Env) (D:List aC) (c:ah) (H:AHeap):PX (some ds) ks Q E D c H=Q (.panic c) (jS ds (jS ks E)) D H:=rfl
theorem EQ.mono {R R':AV->AHeap->Prop} {X X':Nat->AHeap->Prop} {f:Nat} {vs:List AV} {H:AHeap} (h:kj M f vs H (EQ R X)) (hr:∀ v H',R v H'->R' v H') (hx:∀ k H',X k H'->X' k H'):kj M f vs H (EQ R' X'):=by
 obtain ⟨e,H',h1,h2⟩:=h;refine ⟨e,H',h1,?_⟩;cases e with
 | ret v=>exact hr v H' h2
 | panic c=>obtain ⟨k,rfl,h2⟩:=h2;exact ⟨k,rfl,hx k H' h2⟩
abbrev u64 (x:Int):Prop:=0<=x/\x<18446744073709551616
def aP (v:List Int):List AV:=v.map λ x=>.int .u64 x
def aG (tv wv:AV) (a:Bool) (s:MS):List AV:=tv::wv::(aP s.v ++ [.int .i64 0,.int .i64 (s.left:Nat),.int .i64 (s.aN:Nat),.int .i64 0,.bool a,.bool s.aT])
def MW (r:Nat) (wv:AV):Nat->Prop:=λ c=>c=r\/bL wv c
structure dD (H0 H:AHeap) (r:Nat) (tv wv:AV) (a:Bool) (s:MS):Prop where
 row:H.get r=some (OR (aG tv wv a s) vt)
 lo:H0.next<=r
 hi:r<H.next
 nw:iN gO vq 1 H0 H wv s.w
 off:¬ bL wv r
 v8:s.v.length=8
 wl:s.w.length<=4096
 wr:∀ x ∈ s.w,u64 x
 vr:∀ x ∈ s.v,u64 x
 fl:s.left+s.aN<=1048576
section
variable {H0 H H':AHeap} {r:Nat} {tv wv:AV} {a:Bool} {s:MS}
theorem dD.em (h:dD H0 H r tv wv a s) (f:Fr Em H H'):dD H0 H' r tv wv a s :=
 { h with row:=by rw [f.aj r h.hi id];exact h.row,hi:=qe h.hi f.next,nw:=h.nw.em f }
theorem dD.fr (h:dD H0 H r tv wv a s):Fr Em H0 H:=h.nw.fr
theorem dD.ld (h:dD H0 H r tv wv a s) (o:Nat):Op.aa [.ptr r o] H=(aG tv wv a s)[o]?:=j8 (qy h.row) o
theorem dD.l0 (h:dD H0 H r tv wv a s):Op.aa [.ptr r 0] H=some tv:=by rw [h.ld];rfl
theorem dD.l1 (h:dD H0 H r tv wv a s):Op.aa [.ptr r 1] H=some wv:=by rw [h.ld];rfl
theorem rC {tv wv:AV} {a:Bool} {s:MS} (h:s.v.length=8):∃ v0 v1 v2 v3 v4 v5 v6 v7,s.v=[v0,v1,v2,v3,v4,v5,v6,v7]:=by
 match s.v,h with
 | [a,b,c,d,e,f,g,i],_=>exact ⟨a,b,c,d,e,f,g,i,rfl⟩
theorem Hj {s:MS} {v0 v1 v2 v3 v4 v5 v6 v7:Int} (h:s.v=[v0,v1,v2,v3,v4,v5,v6,v7]) (tv wv:AV) (a:Bool):aG tv wv a s=[tv,wv,.int .u64 v0,.int .u64 v1,.int .u64 v2,.int .u64 v3,.int .u64 v4,.int .u64 v5,.int .u64 v6,.int .u64 v7,.int .i64 0,.int .i64 (s.left:Nat),.int .i64 (s.aN:Nat),.int .i64 0,.bool a,.bool s.aT]:=by
 unfold aG aP;rw [h];rfl
theorem dD.l11 (h:dD H0 H r tv wv a s):Op.aa [.ptr r 11] H=some (.int .i64 (s.left:Nat)):=by
 obtain ⟨v0,v1,v2,v3,v4,v5,v6,v7,e⟩:=rC (tv:=tv) (wv:=wv) (a:=a) h.v8;rw [h.ld,Hj e];rfl
theorem dD.l12 (h:dD H0 H r tv wv a s):Op.aa [.ptr r 12] H=some (.int .i64 (s.aN:Nat)):=by
 obtain ⟨v0,v1,v2,v3,v4,v5,v6,v7,e⟩:=rC (tv:=tv) (wv:=wv) (a:=a) h.v8;rw [h.ld,Hj e];rfl
theorem dD.K8 (h:dD H0 H r tv wv a s):Op.aa [.ptr r 14] H=some (.bool a):=by
 obtain ⟨v0,v1,v2,v3,v4,v5,v6,v7,e⟩:=rC (tv:=tv) (wv:=wv) (a:=a) h.v8;rw [h.ld,Hj e];rfl
theorem dD.qE (h:dD H0 H r tv wv a s):Op.aa [.ptr r 15] H=some (.bool s.aT):=by
 obtain ⟨v0,v1,v2,v3,v4,v5,v6,v7,e⟩:=rC (tv:=tv) (wv:=wv) (a:=a) h.v8;rw [h.ld,Hj e];rfl
end
structure oO (H0 H:AHeap) (r:Nat) (tv wv:AV) (a:Bool) (s:MS):Prop where
 row:H.get r=some (OR (aG tv wv a s) vt)
 hi:r<H.next
 fr:Fr Em H0 H
 sl:cU gO 1 H wv s.w
 v8:s.v.length=8
 wl:s.w.length<=4096
 wr:∀ x ∈ s.w,u64 x
 vr:∀ x ∈ s.v,u64 x
section
variable {H0 H H':AHeap} {r:Nat} {tv wv:AV} {a:Bool} {s:MS}
theorem oO.em (h:oO H0 H r tv wv a s) (f:Fr Em H H'):oO H0 H' r tv wv a s :=
 { h with row:=by rw [f.aj r h.hi id];exact h.row,hi:=qe h.hi f.next,sl:=h.sl.em f,fr:=h.fr.trans f λ _ q=>q.elim }
theorem oO.ld (h:oO H0 H r tv wv a s) (o:Nat):Op.aa [.ptr r o] H=(aG tv wv a s)[o]?:=j8 (qy h.row) o
theorem oO.l0 (h:oO H0 H r tv wv a s):Op.aa [.ptr r 0] H=some tv:=by rw [h.ld];rfl
theorem oO.l1 (h:oO H0 H r tv wv a s):Op.aa [.ptr r 1] H=some wv:=by rw [h.ld];rfl
theorem oO.lv (h:oO H0 H r tv wv a s) {w:Nat} {x:Int} (hx:s.v[w]? = some x):Op.aa [.ptr r (2+w)] H=some (.int .u64 x):=by
 rw [h.ld];unfold aG aP;have hw:=(qv.1 hx).1;rw [Dc,zd,zd,xi (by simpa using hw),xj,hx];rfl
theorem dD.O9 (h:dD H0 H r tv wv a s):oO H0 H r tv wv a s:=⟨h.row,h.hi,h.nw.fr,h.nw.sl,h.v8,h.wl,h.wr,h.vr⟩
theorem dD.lv (h:dD H0 H r tv wv a s) {w:Nat} {x:Int} (hx:s.v[w]? = some x):Op.aa [.ptr r (2+w)] H=some (.int .u64 x):=h.O9.lv hx
theorem dD.put {s':MS} {a':Bool} (h:dD H0 H r tv wv a s) (e1:s'.w=s.w) (e2:s'.v.length=8) (e3:∀ x ∈ s'.v,u64 x) (e4:s'.left+s'.aN<=1048576) :
 dD H0 (H.set r (OR (aG tv wv a' s') vt)) r tv wv a' s'/\Fr (MW r wv) H (H.set r (OR (aG tv wv a' s') vt)):=by
 have f:Fr (λ x=>x=r) H (H.set r (OR (aG tv wv a' s') vt)):=(Fr.refl H).set (W:=λ x=>x=r) (.inl rfl) _;refine ⟨⟨xd ..,h.lo,h.hi,⟨?_,h.nw.fr.trans f (λ x hx=>by subst hx;exact .inr h.lo),h.nw.fresh⟩,h.off,e2,by rw [e1];exact h.wl,by rw [e1];exact h.wr,e3,e4⟩,f.mono λ x _ hx=>.inl hx⟩;rw [e1];exact Own.fr h.nw.own f λ x hx q=>h.off (by subst q;exact hx)
theorem dD.rf {s':MS} {a':Bool} {c:List AV} (h:dD H0 H r tv wv a s) (hc:c=aG tv wv a' s') (e1:s'.w=s.w) (e2:s'.v.length=8) (e3:∀ x ∈ s'.v,u64 x) (e4:s'.left+s'.aN<=1048576) :
 dD H0 (H.set r (OR c vt)) r tv wv a' s'/\Fr (MW r wv) H (H.set r (OR c vt)):=by subst hc;exact h.put e1 e2 e3 e4
theorem MW.lt (h:dD H0 H r tv wv a s) {c:Nat} (hc:MW r wv c):c<H.next:=hc.elim (λ q=>by rw [q];exact h.hi) λ q=>Own.lt h.nw.own c q
end
theorem dD.err {H0 H:AHeap} {r:Nat} {tv wv:AV} {a:Bool} {s:MS} (h:dD H0 H r tv wv a s) (e:Nat):dD H0 H r tv wv a { s with err:=e }:=⟨h.row,h.lo,h.hi,h.nw,h.off,h.v8,h.wl,h.wr,h.vr,h.fl⟩
theorem q9h {H0 H:AHeap} {r:Nat} {tv wv:AV} {a:Bool} {s:MS} (h:dD H0 H r tv wv a s):kj M DM [.ptr r 0] H (EQ (λ _ H'=>s.left ≠ 0/\dD H0 H' r tv wv a s.bx/\Fr (MW r wv) H H') (λ k H'=>s.left=0/\k=190/\H'=H)):=by
 refine q0l ?_
 by_cases h0:s.left=0
 ·have t1:((s.left:Nat):Int)=0:=by omega
  have e1:Op.build [(.int .i64 0)] [(0,1)] [.int .i64 190]=some (.agg [.int .i64 ((190:Nat):Int)]):=rfl;have e2:Op.cM yg [.agg [.int .i64 ((190:Nat):Int)]]=some (fw 190):=rfl;simp only [↓qh,qq,reduceIte,reduceEqDiff,qsa,qi,h.l11,j0 t1,e1,e2,Kz,jA,jF];exact h0
 ·have t1:¬ ((s.left:Nat):Int)=0:=by omega
  have hf:=h.fl;have w1:ae .i64 (((s.left:Nat):Int)-1)=((s.left-1:Nat):Int):=by rw [zk (by omega) (by omega)];omega
  have hs:s.bx = { s with left:=s.left-1 }:=by unfold MS.bx;rw [qc h0]
  have st:=y9 h.row (o:=11) (n:=1) (v:=.int .i64 ((s.left-1:Nat):Int)) rfl (by simp [aG,aP,h.v8]) rfl;obtain ⟨h2,hf2⟩:=h.rf (s':=s.bx) (a':=a) (c:=(aG tv wv a s).take 11++(AV.int .i64 ((s.left-1:Nat):Int)).cells++(aG tv wv a s).drop (11+1)) (by
   obtain ⟨v0,v1,v2,v3,v4,v5,v6,v7,e⟩:=rC (tv:=tv) (wv:=wv) (a:=a) h.v8;rw [Hj e,hs,Hj (s:={ s with left:=s.left-1 }) e];rfl) (by rw [hs]) (by rw [hs];exact h.v8) (by rw [hs];exact h.vr) (by rw [hs];simp only;omega)
  simp only [↓qh,qq,reduceIte,reduceEqDiff,qsa,qi,h.l11,t1,w1,st,iO];exact ⟨h0,h2,hf2⟩
theorem q2a {H0 H:AHeap} {r:Nat} {tv wv:AV} {a:Bool} {s:MS} (h:oO H0 H r tv wv a s) {u:Int} (hu:u64 u):kj M B9 [.ptr r 0,.int .u64 u] H (EQ (λ v H'=>u.toNat<s.w.length/\v=.int .i64 ((u.toNat:Nat):Int)/\H'=H) (λ k H'=>s.w.length<=u.toNat/\k=111/\H'=H)):=by
 refine qzc ?_;obtain ⟨u0,u1⟩:=hu;have hwl:=h.wl;have hl:=h.sl.len;have w1:ae .u64 ((s.w.length:Nat):Int)=(s.w.length:Nat):=ww (by omega) (by omega)
 by_cases hq:s.w.length<=u.toNat
 ·have t1:((s.w.length:Nat):Int)<=u:=by omega
  have e1:Op.build [(.int .i64 0)] [(0,1)] [.int .i64 111]=some (.agg [.int .i64 ((111:Nat):Int)]):=rfl;have e2:Op.cM yg [.agg [.int .i64 ((111:Nat):Int)]]=some (fw 111):=rfl;simp only [↓qh,qq,reduceIte,reduceEqDiff,qqj,qi,h.l1,hl,w1,t1,e1,e2,Kz,jA,jF];exact hq
 ·have t1:¬ ((s.w.length:Nat):Int)<=u:=by omega
  have w2:ae .i64 u=((u.toNat:Nat):Int):=by rw [zk (by omega) (by omega)];omega
  simp only [↓qh,qq,reduceIte,reduceEqDiff,qqj,qi,h.l1,hl,w1,t1,w2,iO];omega
theorem xfk {H0 H:AHeap} {r:Nat} {tv wv:AV} {a:Bool} {s:MS} (h:dD H0 H r tv wv a s) {u:Int} (hu:u64 u):kj M B9 [.ptr r 0,.int .u64 u] H (EQ (λ v H'=>u.toNat<s.w.length/\v=.int .i64 ((u.toNat:Nat):Int)/\H'=H) (λ k H'=>s.w.length<=u.toNat/\k=111/\H'=H)):=q2a h.O9 hu
end Go.Am
namespace Go.Am
open Lang Go.Proofs
variable {M:aO} [MK M]
theorem uc (n:Int):u64 (ae .u64 n):=by rw [BV];constructor<;>omega
theorem AQ (o:Nat) (x y:Int):u64 (jX o x y):=by unfold jX;(repeat' split)<;>exact uc _
theorem Lang.Ex.FA {w v:List Int} (hw:∀ x ∈ w,u64 x) (hv:∀ x ∈ v,u64 x):∀ {x:Ex} {y:Int},x.small->x.val w v=some y->u64 y
 | .num n,y,hs,h=>by
  have hs:n<18446744073709551616:=hs;injection h with h;subst h;constructor<;>omega
 | .var n,y,hs,h=>hv y (xv h)
 | .load a,y,hs,h=>by
  simp only [Ex.val] at h;split at h
  ·exact hw y (xv h)
  ·cases h
 | .bin o a b,y,hs,h=>by
  simp only [Ex.val] at h;split at h
  ·split at h
   ·injection h with h;subst h;exact AQ _ _ _
   ·cases h
  ·cases h
structure Lc (H:AHeap) (r:Nat) (wv:AV) (p:Nat) (row:List AV) (e:Nat):Prop where
 get:H.get p=some (OR row e)
 lt:p<H.next
 nr:p ≠ r
 ns:¬ bL wv p
section
variable {H0 H H':AHeap} {r p e:Nat} {wv tv:AV} {row:List AV} {a:Bool} {s:MS}
theorem Lc.em (h:Lc H r wv p row e) (f:Fr Em H H'):Lc H' r wv p row e:=⟨by rw [f.aj p h.lt id];exact h.get,qe h.lt f.next,h.nr,h.ns⟩
theorem Lc.mv (h:Lc H r wv p row e) (f:Fr (MW r wv) H H'):Lc H' r wv p row e:=⟨by rw [f.aj p h.lt λ q=>q.elim h.nr h.ns];exact h.get,qe h.lt f.next,h.nr,h.ns⟩
theorem Lc.ld (h:Lc H r wv p row e) (o:Nat):Op.aa [.ptr p o] H=row[o]?:=j8 (qy h.get) o
theorem Lc.new (h:dD H0 H r tv wv a s) (row:List AV) (e:Nat):Lc (H.alloc (OR row e)) r wv H.next row e :=
 ⟨qp ..,by rw [xk];omega,λ q=>by have:=h.hi;omega,λ q=>by have:=Own.lt h.nw.own _ q;omega⟩
end
theorem Kv {H0 H:AHeap} {r i:Nat} {tv wv:AV} {ts:List Nd} {a:Bool} {s:MS} {x:Nd} (hn:eT H0 tv ts) (h:dD H0 H r tv wv a s) (hx:ts[i]? = some x):∃ ka,cU eB 1 H0 ka x.kids /\
 (∀ k,Op.aJ 3 [tv,.int k (i:Int)]=some (.ptr (dK tv) (eU 3 tv i)))/\Op.au 3 [.ptr (dK tv) (eU 3 tv i)] H=some (gj x ka) /\
 Op.store 3 [.ptr H.next 0,gj x ka] (H.alloc (OR [.int .i64 0,.int .u64 0,.nils] xf))=some (.undef,H.alloc (OR [.int .i64 x.k,.int .u64 x.n,ka] xf)) /\
 dD H0 (H.alloc (OR [.int .i64 x.k,.int .u64 x.n,ka] xf)) r tv wv a s/\Lc (H.alloc (OR [.int .i64 x.k,.int .u64 x.n,ka] xf)) r wv H.next [.int .i64 x.k,.int .u64 x.n,ka] xf/\Fr Em H (H.alloc (OR [.int .i64 x.k,.int .u64 x.n,ka] xf)):=by
 obtain ⟨ka,h1,h2,h3,h4,_⟩:=hn.vP hx h.fr;have f:Fr Em H (H.alloc (OR [.int .i64 x.k,.int .u64 x.n,ka] xf)):=(Fr.refl H).alloc _;exact ⟨ka,h1,h3,h4,JI H x h2 xf,h.em f,Lc.new h _ _,f⟩
structure Lv (H:AHeap) (p:Nat) (row:List AV) (e:Nat):Prop where
 get:H.get p=some (OR row e)
 lt:p<H.next
theorem Lv.em {H H':AHeap} {p e:Nat} {row:List AV} (h:Lv H p row e) (f:Fr Em H H'):Lv H' p row e:=⟨by rw [f.aj p h.lt id];exact h.get,qe h.lt f.next⟩
theorem Lv.ld {H:AHeap} {p e:Nat} {row:List AV} (h:Lv H p row e) (o:Nat):Op.aa [.ptr p o] H=row[o]?:=j8 (qy h.get) o
theorem Lv.new (H:AHeap) (row:List AV) (e:Nat):Lv (H.alloc (OR row e)) H.next row e:=⟨qp ..,by rw [xk];omega⟩
theorem KM {H0 H:AHeap} {r i:Nat} {tv wv:AV} {ts:List Nd} {a:Bool} {s:MS} {x:Nd} (hn:eT H0 tv ts) (h:oO H0 H r tv wv a s) (hx:ts[i]? = some x):∃ ka,cU eB 1 H0 ka x.kids /\
 (∀ k,Op.aJ 3 [tv,.int k (i:Int)]=some (.ptr (dK tv) (eU 3 tv i)))/\Op.au 3 [.ptr (dK tv) (eU 3 tv i)] H=some (gj x ka) /\
 Op.store 3 [.ptr H.next 0,gj x ka] (H.alloc (OR [.int .i64 0,.int .u64 0,.nils] xf))=some (.undef,H.alloc (OR [.int .i64 x.k,.int .u64 x.n,ka] xf)) /\
 oO H0 (H.alloc (OR [.int .i64 x.k,.int .u64 x.n,ka] xf)) r tv wv a s/\Lv (H.alloc (OR [.int .i64 x.k,.int .u64 x.n,ka] xf)) H.next [.int .i64 x.k,.int .u64 x.n,ka] xf/\Fr Em H (H.alloc (OR [.int .i64 x.k,.int .u64 x.n,ka] xf)):=by
 obtain ⟨ka,h1,h2,h3,h4,_⟩:=hn.vP hx h.fr;have f:Fr Em H (H.alloc (OR [.int .i64 x.k,.int .u64 x.n,ka] xf)):=(Fr.refl H).alloc _;exact ⟨ka,h1,h3,h4,JI H x h2 xf,h.em f,Lv.new _ _ _,f⟩
theorem dQ {H0 H:AHeap} {a:AV} {kids:List Int} (h:cU eB 1 H0 a kids) (f:Fr Em H0 H) {i:Nat} {x:Int} (hx:kids[i]? = some x) {z:Int} (hz:z=(i:Int)):(∀ k,Op.aJ 1 [a,.int k z]=some (.ptr (dK a) (eU 1 a i)))/\Op.aa [.ptr (dK a) (eU 1 a i)] H=some (.int .i64 x):=by subst hz;exact (h.em f).tE hx
theorem q8h (x y:Int):ae .u64 (x+ae .u64 (0-y))=ae .u64 (x-y):=by rw [BV,BV,BV];omega
theorem I7 {y:Int} (h:0<=y):y.tmod 64=(((y % 64).toNat:Nat):Int):=by rw [FJ h];omega
theorem BJ (y:Int):min (y % 64).toNat 64=(y % 64).toNat:=by omega
theorem Cz {x:Int} (hx:u64 x) (n:Nat):x.fdiv (2 ^ n)=ae .u64 (x / 2 ^ n):=by
 obtain ⟨h0,h1⟩:=hx;have hp:(0:Int)<2 ^ n:=Int.pow_pos (by decide);rw [K3 _ (Int.le_of_lt hp),ww (Int.ediv_nonneg h0 (Int.le_of_lt hp))];exact Int.lt_of_le_of_lt (Int.ediv_le_self _ h0) h1
abbrev VQ (H:AHeap) (o:Option Int):bE->AHeap->Prop:=EQ (λ v H'=>∃ y,o=some y/\v=.int .u64 y/\Fr Em H H') (λ k H'=>k=111/\o=none/\Fr Em H H')
theorem KL {H0:AHeap} {r:Nat} {tv wv:AV} {ts:List Nd} {a:Bool} {s:MS} (hn:eT H0 tv ts):∀ (x:Ex) {H:AHeap} {bb:Nat},bj ts bb (x.enc bb)->x.ok->x.small->oO H0 H r tv wv a s ->
 kj M ke [.ptr r 0,.int .i64 ((bb+x.sz-1:Nat):Int)] H (VQ H (x.val s.w s.v))
 | .num n,H,bb,hs,ho,hsm,h=>by
  refine LB ?_;obtain ⟨hnd,-⟩:=bj.nd (x:=.e (.num n)) hs;obtain ⟨ka,-,e2,e3,e4,h1,l1,k1⟩:=KM hn h hnd;simp only [It.nd,It.kn,It.ks,aH,It.sz,Ex.sz,ints,kw] at e2 e3 e4 h1 l1 k1;generalize H.alloc (OR [.int .i64 1,.int .u64 (n:Nat),ka] xf)=H1 at *;have t1:=j0 (show (1:Int)=1 from rfl);simp only [↓qh,qq,reduceIte,reduceEqDiff,jr,Ex.sz,qi,h.l0,e2,e3,e4,l1.ld,t1,iO];exact ⟨_,rfl,rfl,k1⟩
 | .var w,H,bb,hs,ho,hsm,h=>by
  refine LB ?_;obtain ⟨hnd,-⟩:=bj.nd (x:=.e (.var w)) hs;have ho:w<=7:=ho;obtain ⟨ka,-,e2,e3,e4,h1,l1,k1⟩:=KM hn h hnd;simp only [It.nd,It.kn,It.ks,aH,It.sz,Ex.sz,ints,kw] at e2 e3 e4 h1 l1 k1;generalize H.alloc (OR [.int .i64 2,.int .u64 (w:Nat),ka] xf)=H1 at *;have h8:=h.v8;obtain ⟨y,hy⟩:∃ y,s.v[w]? = some y:=⟨s.v[w],by simp⟩
  have ei:Op.bp 8 1 [.ptr r 2,.int .u64 (w:Int)]=some (.ptr r (2+w)):=by have:=Ma (len:=8) (size:=1) (b:=r) (o:=2) (k:=.u64) (j:=(w:Int)) (i:=w) rfl (by omega);rwa [oK] at this
  simp only [↓qh,qq,reduceIte,reduceEqDiff,jr,Ex.sz,qi,h.l0,e2,e3,e4,l1.ld,Int.reduceEq,ei,h1.lv hy,iO];exact ⟨y,hy,rfl,k1⟩
 | .load x,H,bb,hs,ho,hsm,h=>by
  refine LB ?_;obtain ⟨hnd,hks⟩:=bj.nd (x:=.e (.load x)) hs;have hsx:bj ts bb (x.enc bb):=hks.cons.1;obtain ⟨ka,ha,e2,e3,e4,h1,l1,k1⟩:=KM hn h hnd;have hnd':(It.e (.load x)).nd bb=⟨3,0,[((bb+x.sz-1:Nat):Int)]⟩:=by simp [It.nd,It.kn,It.ks,aH,ints,It.sz]
  rw [hnd'] at ha e3 e4 h1 l1 k1;simp only [It.sz] at e2 e3;simp only at e4 h1 l1 k1;generalize H.alloc (OR [.int .i64 3,.int .u64 0,ka] xf)=H1 at *;obtain ⟨i2,i3⟩:=dQ ha h1.fr (i:=0) rfl (z:=0) rfl;simp only [↓qh,qq,reduceIte,reduceEqDiff,jr,qi,h.l0,h1.l1,e2,e3,e4,l1.ld,Int.reduceEq,i2 .i64,i3];refine P3.e (KL hn x hsx ho hsm h1) (λ v H2 ⟨u,hu,hv,f2⟩=>?_) λ k H2 ⟨hk,hu,f2⟩=>?_
  ·subst hv;have h2:=h1.em f2;simp only [↓qh,qq,reduceIte,reduceEqDiff,jr,h2.l1];refine P3.e (q2a h2 (Lang.Ex.FA (x:=x) h.wr h.vr hsm hu)) (λ v H3 ⟨hl,hv,hh⟩=>?_) λ k H3 ⟨hl,hk,hh⟩=>?_
   ·subst hv;subst hh;obtain ⟨y,hy⟩:∃ y,s.w[u.toNat]? = some y:=⟨s.w[u.toNat],by simp⟩
    have q1:=h2.sl.idx hy rfl .i64;have q2:=h2.sl.gU q8y hy (by decide);have q2:Op.aa [.ptr (dK wv) (eU 1 wv u.toNat)] H3=some (.int .u64 y):=q2;simp only [↓qh,qq,reduceIte,reduceEqDiff,jr,h2.l1,q1,q2,iO];exact ⟨y,by simp only [Ex.val,hu,hy],rfl,k1.trans f2 λ _ q=>q.elim⟩
   ·subst hk;subst hh;simp only [↓qh,qq,reduceIte,reduceEqDiff,jr,jA,jF];exact ⟨by simp only [Ex.val,hu];simpa using hl,k1.trans f2 λ _ q=>q.elim⟩
  ·subst hk;simp only [↓qh,qq,reduceIte,reduceEqDiff,jr,jA,jF];exact ⟨by simp only [Ex.val,hu],k1.trans f2 λ _ q=>q.elim⟩
 | .bin o x y,H,bb,hs,ho,hsm,h=>by
  refine LB ?_;obtain ⟨hnd,hks⟩:=bj.nd (x:=.e (.bin o x y)) hs;have hsx:bj ts bb (x.enc bb):=hks.cons.1;have hsy:bj ts (bb+x.sz) (y.enc (bb+x.sz)):=hks.cons.2.cons.1;obtain ⟨o4,o10,hox,hoy⟩:=ho;obtain ⟨ka,ha,e2,e3,e4,h1,l1,k1⟩:=KM hn h hnd;have hnd':(It.e (.bin o x y)).nd bb=⟨o,0,[((bb+x.sz-1:Nat):Int),((bb+x.sz+y.sz-1:Nat):Int)]⟩:=by simp [It.nd,It.kn,It.ks,aH,ints,It.sz]
  rw [hnd'] at ha e3 e4 h1 l1 k1;simp only [It.sz] at e2 e3;simp only at e4 h1 l1 k1;generalize H.alloc (OR [.int .i64 (o:Nat),.int .u64 0,ka] xf)=H1 at *;have t1:¬ (o:Int)=1:=by omega
  have t2:¬ (o:Int)=2:=by omega
  have t3:¬ (o:Int)=3:=by omega
  obtain ⟨w0,w4,w27,w20,w29,-,-,-,-,-,-,-,-,-,-,-,-,-,-,-,-,-,-,-⟩:=jr M ⟨none,ke⟩;obtain ⟨i2,i3⟩:=dQ ha h1.fr (i:=0) rfl (z:=0) rfl;obtain ⟨j2,j3⟩:=dQ ha h1.fr (i:=1) rfl (z:=1) rfl;simp only [↓qh,qq,reduceIte,reduceEqDiff,w0,w4,w20,w27,qi,h.l0,e2,e3,e4,l1.ld,t1,t2,t3,i2 .i64,i3,j2 .i64,j3];refine P3.e (KL hn x hsx hox hsm.1 h1) (λ v H2 ⟨u,hu,hv,f2⟩=>?_) λ k H2 ⟨hk,hu,f2⟩=>?_
  ·subst hv;have h2:=h1.em f2;have l2:=l1.em f2;obtain ⟨j4,j5⟩:=dQ ha h2.fr (i:=1) rfl (z:=1) rfl;simp only [↓qh,qq,reduceIte,reduceEqDiff,l2.ld,j5];refine P3.e (KL hn y hsy hoy hsm.2 h2) (λ v H3 ⟨u',hu',hv,f3⟩=>?_) λ k H3 ⟨hk,hu',f3⟩=>?_
   ·subst hv;have l3:=l2.em f3;have f13:Fr Em H H3:=(k1.trans f2 λ _ q=>q.elim).trans f3 λ _ q=>q.elim;have ru:=Lang.Ex.FA h.wr h.vr hsm.1 hu;have ru':=Lang.Ex.FA h.wr h.vr hsm.2 hu';have hr:=I7 ru'.1;have hfin:∀ z,z=jX o u u'->(∃ y',(Ex.bin o x y).val s.w s.v=some y'/\AV.int .u64 z=.int .u64 y'/\Fr Em H H3):=λ z hz=>⟨jX o u u',by simp only [Ex.val,hu,hu'],by rw [hz],f13⟩
    simp only [↓qh,qq,reduceIte,reduceEqDiff,w29,l3.ld];rcases (show o=4\/o=5\/o=6\/o=7\/o=8\/o=9\/o=10 by omega) with rfl|rfl|rfl|rfl|rfl|rfl|rfl
    ·simp only [↓qh,qq,reduceIte,reduceEqDiff,jr,Int.reduceEq,Es,iO];exact hfin _ rfl
    ·simp only [↓qh,qq,reduceIte,reduceEqDiff,jr,Int.reduceEq,Es,Kj,q8h,iO];exact hfin _ rfl
    ·simp only [↓qh,qq,reduceIte,reduceEqDiff,jr,Int.reduceEq,Es,iO];exact hfin _ rfl
    ·have q:Op.bin .and [.int .u64 u,.int .u64 u']=some (.int .u64 (jX 7 u u')):=rfl;simp only [↓qh,qq,reduceIte,reduceEqDiff,jr,Int.reduceEq,Es,q,iO];exact hfin _ rfl
    ·have q:Op.bin .xor [.int .u64 u,.int .u64 u']=some (.int .u64 (jX 8 u u')):=rfl;simp only [↓qh,qq,reduceIte,reduceEqDiff,jr,Int.reduceEq,Es,q,iO];exact hfin _ rfl
    ·have q:Op.bin .rem [.int .u64 u',.int .u64 64]=some (.int .u64 (((u' % 64).toNat:Nat):Int)):=by rw [<-hr];rfl
     have q2:=BQ .u64 .u64 u (u' % 64).toNat;rw [show IntKind.u64.bits=64 from rfl,BJ] at q2;simp only [↓qh,qq,reduceIte,reduceEqDiff,jr,Int.reduceEq,Es,q,q2,iO];exact hfin _ rfl
    ·have q:Op.bin .rem [.int .u64 u',.int .u64 64]=some (.int .u64 (((u' % 64).toNat:Nat):Int)):=by rw [<-hr];rfl
     have q2:=pO .u64 .u64 u (u' % 64).toNat;rw [show IntKind.u64.bits=64 from rfl,BJ,Cz ru] at q2;simp only [↓qh,qq,reduceIte,reduceEqDiff,jr,Int.reduceEq,Es,q,q2,iO];exact hfin _ rfl
   ·subst hk;simp only [↓qh,qq,reduceIte,reduceEqDiff,jr,jA,jF];exact ⟨by simp only [Ex.val,hu,hu'],(k1.trans f2 λ _ q=>q.elim).trans f3 λ _ q=>q.elim⟩
  ·subst hk;simp only [↓qh,qq,reduceIte,reduceEqDiff,jr,jA,jF];exact ⟨by simp only [Ex.val,hu],k1.trans f2 λ _ q=>q.elim⟩
theorem HP {H0:AHeap} {r:Nat} {tv wv:AV} {ts:List Nd} {a:Bool} {s:MS} (hn:eT H0 tv ts):∀ (x:Ex) {H:AHeap} {bb:Nat},bj ts bb (x.enc bb)->x.ok->x.small->dD H0 H r tv wv a s ->
 kj M ke [.ptr r 0,.int .i64 ((bb+x.sz-1:Nat):Int)] H (VQ H (x.val s.w s.v)) :=
 λ x _ _ hs ho hsm h=>KL hn x hs ho hsm h.O9
abbrev SQ (H:AHeap) (o:Option Bool):bE->AHeap->Prop:=EQ (λ v H'=>∃ y,o=some y/\v=.bool y/\Fr Em H H') (λ k H'=>k=111/\o=none/\Fr Em H H')
theorem Oi {H0 H:AHeap} {r bb:Nat} {tv wv:AV} {ts:List Nd} {a:Bool} {s:MS} (hn:eT H0 tv ts) (c:Cn) (hs:bj ts bb (c.enc bb)) (ho:c.ok) (hsm:c.small) (h:dD H0 H r tv wv a s) :
 kj M Dz [.ptr r 0,.int .i64 ((bb+c.sz-1:Nat):Int)] H (SQ H (c.so s.w s.v)):=by
 refine q3c ?_;obtain ⟨hnd,hks⟩:=bj.nd (x:=.c c) hs;have hsx:bj ts bb (c.a.enc bb):=hks.cons.1;have hsy:bj ts (bb+c.a.sz) (c.b.enc (bb+c.a.sz)):=hks.cons.2.cons.1;obtain ⟨o4,o10,hox,hoy⟩:=ho;obtain ⟨ka,ha,e2,e3,e4,h1,l1,k1⟩:=Kv hn h hnd;have hnd':(It.c c).nd bb=⟨c.k,0,[((bb+c.a.sz-1:Nat):Int),((bb+c.a.sz+c.b.sz-1:Nat):Int)]⟩:=by simp [It.nd,It.kn,It.ks,aH,ints,It.sz]
 rw [hnd'] at ha e3 e4 h1 l1 k1;simp only [It.sz] at e2 e3;simp only at e4 h1 l1 k1;generalize H.alloc (OR [.int .i64 (c.k:Nat),.int .u64 0,ka] xf)=H1 at *;obtain ⟨i2,i3⟩:=dQ ha h1.fr (i:=0) rfl (z:=0) rfl;obtain ⟨j2,j3⟩:=dQ ha h1.fr (i:=1) rfl (z:=1) rfl;simp only [↓qh,qq,reduceIte,reduceEqDiff,Ei,qi,h.l0,e2,e3,e4,l1.ld,i2 .i64,i3,j2 .i64,j3];refine P3.e (HP hn c.a hsx hox hsm.1 h1) (λ v H2 ⟨u,hu,hv,f2⟩=>?_) λ k H2 ⟨hk,hu,f2⟩=>?_
 ·subst hv;have h2:=h1.em f2;have l2:=l1.em f2;obtain ⟨j4,j5⟩:=dQ ha h2.fr (i:=1) rfl (z:=1) rfl;simp only [↓qh,qq,reduceIte,reduceEqDiff,Ei,l2.ld,j5];refine P3.e (HP hn c.b hsy hoy hsm.2 h2) (λ v H3 ⟨u',hu',hv,f3⟩=>?_) λ k H3 ⟨hk,hu',f3⟩=>?_
  ·subst hv;have l3:=l2.em f3;have f13:Fr Em H H3:=(k1.trans f2 λ _ q=>q.elim).trans f3 λ _ q=>q.elim
   by_cases q1:c.k=11
   ·have t1:=j0 (show ((c.k:Nat):Int)=11 by omega);simp only [↓qh,qq,reduceIte,reduceEqDiff,Ei,l3.ld,t1,iO];exact ⟨_,by simp only [Cn.so,hu,hu',q1,qk],rfl,f13⟩
   have t1:¬ ((c.k:Nat):Int)=11:=by omega
   by_cases q2:c.k=12
   ·have t2:=j0 (show ((c.k:Nat):Int)=12 by omega);simp only [↓qh,qq,reduceIte,reduceEqDiff,Ei,l3.ld,t1,t2,iO];exact ⟨decide (u ≠ u'),by simp only [Cn.so,hu,hu',qc q1,qk q2],by simp,f13⟩
   have t2:¬ ((c.k:Nat):Int)=12:=by omega
   simp only [↓qh,qq,reduceIte,reduceEqDiff,Ei,l3.ld,t1,t2,iO];exact ⟨_,by simp only [Cn.so,hu,hu',qc q1,qc q2],rfl,f13⟩
  ·subst hk;simp only [↓qh,qq,reduceIte,reduceEqDiff,Ei,jA,jF];exact ⟨by simp only [Cn.so,hu,hu'],(k1.trans f2 λ _ q=>q.elim).trans f3 λ _ q=>q.elim⟩
 ·subst hk;simp only [↓qh,qq,reduceIte,reduceEqDiff,Ei,jA,jF];exact ⟨by simp only [Cn.so,hu],k1.trans f2 λ _ q=>q.elim⟩
end Go.Am
