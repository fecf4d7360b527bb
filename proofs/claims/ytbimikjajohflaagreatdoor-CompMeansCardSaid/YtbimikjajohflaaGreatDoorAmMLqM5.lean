/- LqM5: CpA CpB CpC CpD. -/
import Derived.Test.YtbimikjajohflaaGreatDoorAmMCodeM
import Derived.Test.YtbimikjajohflaaGreatDoorAmMLqM0
import Derived.Test.YtbimikjajohflaaGreatDoorAmMLqM3
set_option linter.unusedVariables false
set_option linter.unusedSimpArgs false
set_option linter.unusedSectionVars false
set_option maxRecDepth 100000
open Nat (reduceEqDiff)
namespace Go.Am
open Lang Go.Proofs
variable {M:aO} [MK M]
theorem fX {b c:Nat} {H:AHeap} {es:List (AV × AV × Nat)} {k:AV} (v:AV) (hg:H.get b=some (.map es c)) (ho:ct .int k=true) (hk:findKey .int k es 0=some none) :
 ∃ H',Op.mapUpdate .int [.map b,k,v] H=some (.undef,H')/\H'.get b=some (.map (es ++ [(k,v,c)]) (c+1))/\Fr (λ x=>x=b) H H':=by
 refine ⟨H.set b (.map (es ++ [(k,v,c)]) (c+1)),?_,xd ..,(Fr.refl H).set (W:=λ x=>x=b) (.inl rfl) _⟩;have hm:H.dZ b=some (es,c):=by unfold AHeap.dZ;rw [hg]
 show cond (ct .int k) _ none=_;rw [ho,ql,hm,qd];show (findKey .int k es 0).bind _=_;rw [hk];rfl
theorem DC {b c:Nat} {H:AHeap} {es:List (AV × AV × Nat)} {k v:AV} {i:Nat} (hg:H.get b=some (.map es c)) (ho:ct .int k=true) (hk:findKey .int k es 0=some (some (i,v))) :
 Op.lookup .int (.int .i64 0) false [.map b,k] H=some v:=by
 have hm:H.dZ b=some (es,c):=by unfold AHeap.dZ;rw [hg]
 show cond (ct .int k) _ none=_;rw [ho,ql,hm,qd];show (findKey .int k es 0).bind _=_;rw [hk];rfl
def yN (k:Nat):Nat:=if k<=10 then k else k+3
theorem xeh {k:Nat} (h4:4<=k) (h13:k<=13) {H:AHeap}:ye M Ek [.int .i64 (k:Int)] H λ v H'=>v=.int .i64 ((yN k:Nat):Int)/\Fr Em H H':=by
 refine xc6 ?_;have m0:Op.mkMap []=some (.map [] 0,.map):=rfl;have g0:(H.alloc (.map [] 0)).get H.next=some (.map [] 0):=qp ..
 obtain ⟨H1,m1,g1,f1⟩:=fX (k:=.int .i64 4) (.int .i64 4) g0 rfl rfl;obtain ⟨H2,m2,g2,f2⟩:=fX (k:=.int .i64 5) (.int .i64 5) g1 rfl rfl;obtain ⟨H3,m3,g3,f3⟩:=fX (k:=.int .i64 6) (.int .i64 6) g2 rfl rfl;obtain ⟨H4,m4,g4,f4⟩:=fX (k:=.int .i64 7) (.int .i64 7) g3 rfl rfl;obtain ⟨H5,m5,g5,f5⟩:=fX (k:=.int .i64 8) (.int .i64 8) g4 rfl rfl;obtain ⟨H6,m6,g6,f6⟩:=fX (k:=.int .i64 9) (.int .i64 9) g5 rfl rfl;obtain ⟨H7,m7,g7,f7⟩:=fX (k:=.int .i64 10) (.int .i64 10) g6 rfl rfl;obtain ⟨H8,m8,g8,f8⟩:=fX (k:=.int .i64 11) (.int .i64 14) g7 rfl rfl;obtain ⟨H9,m9,g9,f9⟩:=fX (k:=.int .i64 12) (.int .i64 15) g8 rfl rfl;obtain ⟨Ha,ma,ga,fa⟩:=fX (k:=.int .i64 13) (.int .i64 16) g9 rfl rfl;have up:∀ {A B:AHeap},Fr (λ x=>x=H.next) (H.alloc (.map [] 0)) A->Fr (λ x=>x=H.next) A B->Fr (λ x=>x=H.next) (H.alloc (.map [] 0)) B:=λ a b=>a.trans b λ _ q=>.inl q;have ff:Fr Em H Ha:=((Fr.refl H).alloc _).trans (up (up (up (up (up (up (up (up (up f1 f2) f3) f4) f5) f6) f7) f8) f9) fa) λ x q=>.inr (by rw [q];exact qf _);obtain ⟨i,hk⟩:∃ i,findKey .int (.int .i64 (k:Int)) [(.int .i64 4,.int .i64 4,0),(.int .i64 5,.int .i64 5,1),(.int .i64 6,.int .i64 6,2),(.int .i64 7,.int .i64 7,3),(.int .i64 8,.int .i64 8,4),(.int .i64 9,.int .i64 9,5),(.int .i64 10,.int .i64 10,6),(.int .i64 11,.int .i64 14,7),(.int .i64 12,.int .i64 15,8),(.int .i64 13,.int .i64 16,9)] 0=some (some (i,.int .i64 ((yN k:Nat):Int))):=by
  have:k=4\/k=5\/k=6\/k=7\/k=8\/k=9\/k=10\/k=11\/k=12\/k=13:=by omega
  rcases this with rfl|rfl|rfl|rfl|rfl|rfl|rfl|rfl|rfl|rfl<;>exact ⟨_,rfl⟩
 have l:=DC ga rfl hk;simp only [↓qh,qq,reduceIte,reduceEqDiff,xc7,m0,m1,m2,m3,m4,m5,m6,m7,m8,m9,ma,l];exact ff
def nh (x:bB):List AV:=[.int .i64 x.op,.int .i64 x.a,.int .i64 x.b,.int .i64 x.c,.int .i64 x.mA]
theorem uB (x:bB):(nh x).length=5:=rfl
theorem sS (x:bB):bh (nh x)=true:=rfl
structure iP (H0 H:AHeap) (r:Nat) (tv lv:AV) (f:cF) (w:CW):Prop where
 row:H.get r=some (OR [tv,.int .i64 f.vars,.int .i64 f.base,.int .i64 f.many,lv,.bool w.d] IC)
 lo:H0.next<=r
 hi:r<H.next
 nw:iN nh z6 5 H0 H lv w.l
 off:¬ bL lv r
structure KW (r:Nat) (lv:AV) (H:AHeap) (lv':AV) (H':AHeap):Prop where
 fr:Fr (λ c=>c=r\/bL lv c) H H'
 on:∀ b,bL lv' b->bL lv b\/H.next<=b
structure Lk (H:AHeap) (r:Nat) (lv:AV) (p:Nat) (row:List AV) (e:Nat):Prop where
 get:H.get p=some (OR row e)
 lt:p<H.next
 nr:p ≠ r
 ns:¬ bL lv p
section
variable {H0 H H' H2:AHeap} {r p e:Nat} {tv lv lv' lv2:AV} {f:cF} {w:CW} {row:List AV}
theorem iP.em (h:iP H0 H r tv lv f w) (k:Fr Em H H'):iP H0 H' r tv lv f w:=⟨by rw [k.aj r h.hi id];exact h.row,h.lo,qe h.hi k.next,h.nw.em k,h.off⟩
theorem iP.fr (h:iP H0 H r tv lv f w):Fr Em H0 H:=h.nw.fr
theorem iP.ld (h:iP H0 H r tv lv f w) (o:Nat):Op.aa [.ptr r o] H=[tv,.int .i64 f.vars,.int .i64 f.base,.int .i64 f.many,lv,.bool w.d][o]?:=j8 (qy h.row) o
theorem KW.em (f:Fr Em H H'):KW r lv H lv H':=⟨f.mono λ _ _ q=>q.elim,λ b q=>.inl q⟩
theorem KW.refl:KW r lv H lv H:=KW.em (Fr.refl H)
theorem KW.trans (h:KW r lv H lv' H') (g:KW r lv' H' lv2 H2):KW r lv H lv2 H2 :=
 ⟨h.fr.trans g.fr λ x q=>q.elim (λ q=>.inl (.inl q)) λ q=>(h.on x q).imp (λ q=>.inr q) id,λ b q=>(g.on b q).elim (h.on b) λ q=>.inr (xz h.fr.next q)⟩
theorem Lk.step (h:Lk H r lv p row e) (k:KW r lv H lv' H'):Lk H' r lv' p row e :=
 ⟨by rw [k.fr.aj p h.lt λ q=>q.elim h.nr h.ns];exact h.get,qe h.lt k.fr.next,h.nr,λ q=>(k.on p q).elim h.ns λ q=>by have:=h.lt;omega⟩
theorem Lk.em (h:Lk H r lv p row e) (f:Fr Em H H'):Lk H' r lv p row e:=h.step (KW.em f)
theorem Lk.ld (h:Lk H r lv p row e) (o:Nat):Op.aa [.ptr p o] H=row[o]?:=j8 (qy h.get) o
theorem Lk.new (h:iP H0 H r tv lv f w) (row:List AV) (e:Nat):Lk (H.alloc (OR row e)) r lv H.next row e :=
 ⟨qp ..,by rw [xk];omega,λ q=>by have:=h.hi;omega,λ q=>by have:=Own.lt h.nw.own _ q;omega⟩
end
def CQ (H0 H:AHeap) (r:Nat) (tv lv:AV) (f:cF) (w:CW) (H':AHeap):Prop:=∃ lv',iP H0 H' r tv lv' f w/\KW r lv H lv' H'
theorem CQ.pre {H0 H H1 H':AHeap} {r:Nat} {tv lv l1:AV} {f:cF} {w:CW} (k:KW r lv H l1 H1) (h:CQ H0 H1 r tv l1 f w H'):CQ H0 H r tv lv f w H':=by
 obtain ⟨lv',h1,h2⟩:=h;exact ⟨lv',h1,k.trans h2⟩
theorem iP.Om {H0 H H1:AHeap} {r:Nat} {tv lv lv':AV} {f:cF} {w w':CW} (h:iP H0 H r tv lv f w) (hd:w'.d=w.d) (n:iN nh z6 5 H0 H1 lv' w'.l) (k1:Fr (bL lv) H H1) (k2:∀ b,bL lv' b->bL lv b\/H.next<=b) :
 ∃ H2,Op.store 1 [.ptr r 4,lv'] H1=some (.undef,H2)/\CQ H0 H r tv lv f w' H2:=by
 have hr:H1.get r=some (OR [tv,.int .i64 f.vars,.int .i64 f.base,.int .i64 f.many,lv,.bool w.d] IC):=by rw [k1.aj r h.hi h.off];exact h.row
 have hn:=k1.next
 have hi:=h.hi;have o1:=n.sl.one;have nr:¬ bL lv' r:=λ q=>(k2 r q).elim h.off λ q=>by omega
 have oc:lv'.cells=[lv']:=by cases lv'<;>first|rfl|cases o1
 have st:=y9 hr (o:=4) (n:=1) (v:=lv') (by rw [oc];rfl) (by simp) (by rw [oc];exact (by rw [mU,C2,o1];rfl));rw [oc] at st;refine ⟨_,st,lv',⟨?_,h.lo,qe hi hn,⟨Own.fr n.own ((Fr.refl H1).set (W:=λ x=>x=r) (.inl rfl) _) λ x hx q=>nr (by rw [<-q];exact hx),n.fr.set (.inr h.lo) _,n.fresh⟩,nr⟩,⟨Fr.set (k1.mono λ x _ q=>.inr q) (.inl (.inl rfl)) _,k2⟩⟩;rw [xd,hd];rfl
theorem xG {H0 H:AHeap} {r:Nat} {tv lv sv:AV} {f:cF} {w:CW} {x:bB} (h:iP H0 H r tv lv f w) (hs:cU nh 5 H sv [x]) (hl:w.l.length<=100000) :
 ye M zx [.ptr r 0,sv] H λ _ H'=>CQ H0 H r tv lv f (w.put x) H':=by
 refine qvo ?_;simp only [↓qh,qq,reduceIte,reduceEqDiff,qvp,qi,h.ld];refine kN.to3 (m:=true) (h.nw.P8 (bytes:=40) hs sS (by decide) (by simp;omega) (by simp;omega) λ v' H1 h1 h2 h3=>?_);obtain ⟨H2,st,hq⟩:=h.Om (w':=w.put x) rfl h1 h2 h3;simp only [↓qh,qq,reduceIte,reduceEqDiff,qi,st];exact hq
theorem qS (o a b c i:Int):Op.buildSlice z6 1 [.int .i64 0,.int .i64 0,.int .i64 0,.int .i64 0,.int .i64 0] [(0,5)] [.agg [.int .i64 o,.int .i64 a,.int .i64 b,.int .i64 c,.int .i64 i]]=some (OR [.int .i64 o,.int .i64 a,.int .i64 b,.int .i64 c,.int .i64 i] z6,Op.sliceTo 1 1):=rfl
theorem rp {H0 H:AHeap} {r:Nat} {tv lv:AV} {f:cF} {w:CW} {o a b c i:Int} (h:iP H0 H r tv lv f w) (hl:w.l.length<=100000) :
 ye M zx [.ptr r 0,Op.sliceTo 1 1 H.next] (H.alloc (OR [.int .i64 o,.int .i64 a,.int .i64 b,.int .i64 c,.int .i64 i] z6)) λ _ H'=>CQ H0 H r tv lv f (w.put ⟨o,a,b,c,i⟩) H':=by
 have f1:Fr Em H (H.alloc (OR [.int .i64 o,.int .i64 a,.int .i64 b,.int .i64 c,.int .i64 i] z6)):=(Fr.refl H).alloc _;refine (xG (M:=M) (x:=⟨o,a,b,c,i⟩) (h.em f1) ?_ hl).mono λ v H' hq=>CQ.pre (KW.em f1) hq;refine ⟨by simp [nh],?_⟩;exact ⟨rfl,qf _,.inr ⟨by rw [xk];omega,[.int .i64 o,.int .i64 a,.int .i64 b,.int .i64 c,.int .i64 i],qy (qp ..),rfl⟩⟩
end Go.Am
namespace Go.Am
open Lang Go.Proofs
variable {M:aO} [MK M]
abbrev i64 (n:Int):AV:=.int .i64 n
theorem IF (x:Int):Op.build [i64 0,i64 0,i64 0,i64 0,i64 0] [(0,1)] [i64 x]=some (.agg [i64 x,i64 0,i64 0,i64 0,i64 0]):=rfl
theorem bd2 (x y:Int):Op.build [i64 0,i64 0,i64 0,i64 0,i64 0] [(0,1),(4,1)] [i64 x,i64 y]=some (.agg [i64 x,i64 0,i64 0,i64 0,i64 y]):=rfl
theorem bd3 (x y z:Int):Op.build [i64 0,i64 0,i64 0,i64 0,i64 0] [(0,1),(1,1),(2,1)] [i64 x,i64 y,i64 z]=some (.agg [i64 x,i64 y,i64 z,i64 0,i64 0]):=rfl
theorem bd4 (x y z:Int):Op.build [i64 0,i64 0,i64 0,i64 0,i64 0] [(0,1),(1,1),(4,1)] [i64 x,i64 y,i64 z]=some (.agg [i64 x,i64 y,i64 0,i64 0,i64 z]):=rfl
theorem Ks (x y z u:Int):Op.build [i64 0,i64 0,i64 0,i64 0,i64 0] [(0,1),(1,1),(2,1),(4,1)] [i64 x,i64 y,i64 z,i64 u]=some (.agg [i64 x,i64 y,i64 z,i64 0,i64 u]):=rfl
theorem bd6 (x y z u:Int):Op.build [i64 0,i64 0,i64 0,i64 0,i64 0] [(0,1),(1,1),(2,1),(3,1)] [i64 x,i64 y,i64 z,i64 u]=some (.agg [i64 x,i64 y,i64 z,i64 u,i64 0]):=rfl
theorem bd0:Op.build [i64 0,i64 0,i64 0,i64 0,i64 0] [] []=some (.agg [i64 0,i64 0,i64 0,i64 0,i64 0]):=rfl
theorem iP.len {H0 H:AHeap} {r:Nat} {tv lv:AV} {f:cF} {w:CW} (h:iP H0 H r tv lv f w):Op.aS [lv]=some (.int .i64 ((w.l.length:Nat):Int)):=h.nw.len
theorem xbm {l:List bB} {i:Nat} {x:bB} (h:l[i]? = some x) (g:bB->bB):l.modify i g=l.set i (g x):=by
 apply Df;intro j;rw [List.getElem?_modify,List.getElem?_set]
 by_cases q:i=j
 ·subst q;obtain ⟨hl,hx⟩:=qv.1 h;simp [hl,hx]
 ·simp [q]
def GU (H:AHeap) (r:Nat) (lv v:AV) (i:Nat):Prop:=∃ p q,v=.fn (.func vv) [] [.ptr p 0,.ptr q 0]/\Lk H r lv p [.ptr r 0] KJ/\Lk H r lv q [.int .i64 (i:Int)] bu
theorem GU.step {H H':AHeap} {r i:Nat} {lv lv' v:AV} (h:GU H r lv v i) (k:KW r lv H lv' H'):GU H' r lv' v i:=by
 obtain ⟨p,q,e,h1,h2⟩:=h;exact ⟨p,q,e,h1.step k,h2.step k⟩
theorem GY {H0 H:AHeap} {r i:Nat} {tv lv v:AV} {f:cF} {w:CW} (h:iP H0 H r tv lv f w) (hj:GU H r lv v i) (hi:i<w.l.length) {K:Bool->AV->AHeap->Prop} (hk:∀ u H',CQ H0 H r tv lv f (w.goto i) H'->K true u H') :
 V3 true [v] λ g fn vs=>C3 M g fn vs H K:=by
 obtain ⟨p,q,rfl,lp,lq⟩:=hj;simp only [↓qh,qq,reduceIte,reduceEqDiff];refine C3.q (R:=λ _ H'=>CQ H0 H r tv lv f (w.goto i) H') ?_ hk;refine qro ?_;obtain ⟨x,hx⟩:∃ x,w.l[i]? = some x:=⟨w.l[i],by simp [hi]⟩
 obtain ⟨H1,st,o1,k1⟩:=h.nw.own.pj uB hx (j:=4) (by decide) (u:=.int .i64 ((w.l.length:Nat):Int)) rfl (y:={ x with mA:=((w.l.length:Nat):Int) }) rfl;have ix:=h.nw.sl.idx hx rfl .i64;simp only [↓qh,qq,reduceIte,reduceEqDiff,qrp,qi,lp.ld,lq.ld,h.ld,h.len,ix,st];refine ⟨lv,⟨by rw [k1.aj r h.hi h.off];exact h.row,h.lo,qe h.hi k1.next,⟨?_,h.nw.fr.trans k1 λ x hx=>.inr (h.nw.fresh x hx),h.nw.fresh⟩,h.off⟩,⟨k1.mono λ _ _ q=>.inr q,λ b q=>.inl q⟩⟩;unfold CW.goto;rw [xbm hx];exact o1
theorem KB {H0 H:AHeap} {r:Nat} {tv lv:AV} {f:cF} {w:CW} (h:iP H0 H r tv lv f w) (hl:w.l.length<=99990) (o a b c i:Int) :
 ye M vy [.ptr r 0,.agg [i64 o,i64 a,i64 b,i64 c,i64 i]] H λ v H'=>∃ lv',iP H0 H' r tv lv' f (w.put ⟨o,a,b,c,i⟩)/\KW r lv H lv' H'/\GU H' r lv' v w.l.length:=by
 refine qtu ?_;obtain ⟨H1,e1⟩:∃ X,X=H.alloc (OR [.ptr r 0] KJ):=⟨_,rfl⟩
 obtain ⟨H2,e2⟩:∃ X,X=H1.alloc (OR [i64 o,i64 a,i64 b,i64 c,i64 i] z6):=⟨_,rfl⟩
 obtain ⟨H3,e3⟩:∃ X,X=H2.alloc (OR [i64 ((w.l.length:Nat):Int)] bu):=⟨_,rfl⟩
 have f1:Fr Em H H1:=by rw [e1];exact (Fr.refl H).alloc _
 have f2:Fr Em H1 H2:=by rw [e2];exact (Fr.refl H1).alloc _
 have f3:Fr Em H2 H3:=by rw [e3];exact (Fr.refl H2).alloc _
 have h1:=h.em f1;have h2:=h1.em f2;have h3:=h2.em f3;have l1:Lk H1 r lv H.next [.ptr r 0] KJ:=by rw [e1];exact Lk.new h _ _
 have l2:Lk H2 r lv H1.next [i64 o,i64 a,i64 b,i64 c,i64 i] z6:=by rw [e2];exact Lk.new h1 _ _
 have l3:Lk H3 r lv H2.next [i64 ((w.l.length:Nat):Int)] bu:=by rw [e3];exact Lk.new h2 _ _
 have st:Op.store 1 [.ptr H2.next 0,.int .i64 ((w.l.length:Nat):Int)] (H2.alloc (OR [.int .i64 0] bu))=some (.undef,H3):=by rw [e3];exact JK H2 [.int .i64 0] bu 1 (.int .i64 ((w.l.length:Nat):Int)) rfl rfl rfl
 have ld1:=(l1.em f2)
 have ld3:=ld1.em f3;have ldn:Op.au 5 [.ptr H1.next 0] H3=some (.agg [i64 o,i64 a,i64 b,i64 c,i64 i]):=by rw [mg (qy (l2.em f3).get) (by simp)];rfl
 simp only [↓qh,qq,reduceIte,reduceEqDiff,qtv,z7,<-e1,<-e2,qi,ld1.ld,h2.ld,h2.len,st,ld3.ld,ldn,qS];refine C3.q (rp (M:=M) h3 (by omega)) λ v H4 ⟨lv',h4,k4⟩=>?_;have mf:Op.bm vv 0 [.ptr H.next 0,.ptr H2.next 0]=some (.fn (.func vv) [] [.ptr H.next 0,.ptr H2.next 0]):=rfl;simp only [↓qh,qq,reduceIte,reduceEqDiff,mf];exact ⟨lv',h4,(KW.em ((f1.trans f2 λ _ q=>q.elim).trans f3 λ _ q=>q.elim)).trans k4,_,_,rfl,ld3.step k4,l3.step k4⟩
theorem qyi {H0 H:AHeap} {r:Nat} {tv lv:AV} {f:cF} {w:CW} (h:iP H0 H r tv lv f w) (hl:w.l.length<=99980) (g:Nat) :
 ye M Fc [.ptr r 0,.int .i64 (g:Int)] H λ _ H'=>CQ H0 H r tv lv f (w.bounds f g) H':=by
 refine qrl ?_;simp only [↓qh,qq,reduceIte,reduceEqDiff,qrm,qi,Nat.reduceAdd,h.ld,bd4,qS];refine C3.q (rp (M:=M) h (by omega)) λ v H1 ⟨l1,h1,k1⟩=>?_;simp only [↓qh,qq,reduceIte,reduceEqDiff,bd3];refine C3.q (KB (M:=M) h1 (by rw [CW.aZ];omega) ..) λ v H2 ⟨l2,h2,k2,j2⟩=>?_;simp only [↓qh,qq,reduceIte,reduceEqDiff,bd0,qS];refine C3.q (rp (M:=M) h2 (by rw [CW.aZ,CW.aZ];omega)) λ u H3 ⟨l3,h3,k3⟩=>?_;refine GY h3 (j2.step k3) (by simp only [CW.aZ];omega) λ u H4 q4=>?_;simp only [↓qh,qq,reduceIte,reduceEqDiff];rw [CW.aZ] at q4;exact CQ.pre ((k1.trans k2).trans k3) q4
end Go.Am
namespace Go.Am
open Lang Go.Proofs
variable {M:aO} [MK M]
theorem ri {H0 H:AHeap} {r i:Nat} {tv lv:AV} {ts:List Nd} {f:cF} {w:CW} {x:Nd} (hn:eT H0 tv ts) (h:iP H0 H r tv lv f w) (hx:ts[i]? = some x):∃ ka p H1,cU eB 1 H0 ka x.kids /\
 (∀ k,Op.aJ 3 [tv,.int k (i:Int)]=some (.ptr (dK tv) (eU 3 tv i)))/\Op.au 3 [.ptr (dK tv) (eU 3 tv i)] H=some (gj x ka)/\p=H.next/\H1=H.alloc (OR [.int .i64 x.k,.int .u64 x.n,ka] xf) /\
 Op.store 3 [.ptr H.next 0,gj x ka] (H.alloc (OR [.int .i64 0,.int .u64 0,.nils] xf))=some (.undef,H1) /\
 iP H0 H1 r tv lv f w/\Lk H1 r lv p [.int .i64 x.k,.int .u64 x.n,ka] xf/\KW r lv H lv H1:=by
 obtain ⟨ka,h1,h2,h3,h4,_⟩:=hn.vP hx h.fr;have f:Fr Em H (H.alloc (OR [.int .i64 x.k,.int .u64 x.n,ka] xf)):=(Fr.refl H).alloc _;exact ⟨ka,_,_,h1,h3,h4,rfl,rfl,JI H x h2 xf,h.em f,Lk.new h _ _,KW.em f⟩
theorem eL {H0 H:AHeap} {a:AV} {kids:List Int} (h:cU eB 1 H0 a kids) (f:Fr Em H0 H) {i:Nat} {x:Int} (hx:kids[i]? = some x) {z:Int} (hz:z=(i:Int)):(∀ k,Op.aJ 1 [a,.int k z]=some (.ptr (dK a) (eU 1 a i)))/\Op.aa [.ptr (dK a) (eU 1 a i)] H=some (.int .i64 x):=by subst hz;exact (h.em f).tE hx
theorem Je {H0:AHeap} {r:Nat} {tv:AV} {ts:List Nd} {f:cF} (hf:f.ok) (hn:eT H0 tv ts):∀ (x:Ex) {H:AHeap} {bb g:Nat} {lv:AV} {w:CW},bj ts bb (x.enc bb)->x.ok->g<=6->w.l.length+4*x.sz<=90000->iP H0 H r tv lv f w ->
 ye M ji [.ptr r 0,.int .i64 ((bb+x.sz-1:Nat):Int),.int .i64 (g:Int)] H λ _ H'=>CQ H0 H r tv lv f (x.cmp f g w) H':=by
 have deep:∀ {x:Ex} {n:Int} {H:AHeap} {g:Nat} {lv:AV} {w:CW},6<=g->iP H0 H r tv lv f w->x.cmp f g w=⟨w.l,true⟩->ye M ji [.ptr r 0,.int .i64 n,.int .i64 (g:Int)] H λ _ H'=>CQ H0 H r tv lv f (x.cmp f g w) H':=by
  intro x n H g lv w hg h e;refine Kd ?_;have t1:(6:Int)<=(g:Int):=by omega
  have st:=y9 h.row (o:=5) (n:=1) (v:=.bool true) rfl (by simp) rfl;simp only [↓qh,qq,reduceIte,reduceEqDiff,Jv,t1,qi,st];rw [e];refine ⟨lv,⟨?_,h.lo,h.hi,⟨Own.fr h.nw.own ((Fr.refl H).set (W:=λ x=>x=r) (.inl rfl) _) λ x hx q=>h.off (by rw [<-q];exact hx),h.nw.fr.set (.inr h.lo) _,h.nw.fresh⟩,h.off⟩,⟨(Fr.refl H).set (.inl (.inl rfl)) _,λ b q=>.inl q⟩⟩;rw [xd];rfl
 intro x
 induction x with
 | num n =>
  intro H bb g lv w hs ho hg hl h
  by_cases h6:6<=g
  ·exact deep h6 h (by rw [Ex.cmp,qk h6])
  refine Kd ?_;obtain ⟨hnd,-⟩:=bj.nd (x:=.e (.num n)) hs;obtain ⟨ka,p,H1,-,e2,e3,rfl,eh,e4,h1,l1,k1⟩:=ri hn h hnd;simp only [It.nd,It.kn,It.ks,aH,It.sz,Ex.sz,ints,kw] at e2 e3 e4 l1;clear eh;have t0:¬ (6:Int)<=(g:Int):=by omega
  have t1:=j0 (show (1:Int)=1 from rfl);simp only [Ex.sz] at hl;simp only [↓qh,qq,reduceIte,reduceEqDiff,Jv,Ex.sz,t0,qi,h.ld,e2,e3,e4,l1.ld,t1,bd4,qS];refine C3.q (rp (M:=M) h1 (by omega)) λ v H2 hq=>?_;simp only [↓qh,qq,reduceIte,reduceEqDiff];rw [Ex.cmp,qc h6];exact CQ.pre k1 hq
 | var v =>
  intro H bb g lv w hs ho hg hl h
  by_cases h6:6<=g
  ·exact deep h6 h (by rw [Ex.cmp,qk h6])
  refine Kd ?_;obtain ⟨hnd,-⟩:=bj.nd (x:=.e (.var v)) hs;obtain ⟨ka,p,H1,-,e2,e3,rfl,eh,e4,h1,l1,k1⟩:=ri hn h hnd;simp only [It.nd,It.kn,It.ks,aH,It.sz,Ex.sz,ints,kw] at e2 e3 e4 l1;clear eh;have ho:v<=7:=ho;obtain ⟨f0,f1,_⟩:=hf;have t0:¬ (6:Int)<=(g:Int):=by omega
  have t1:=j0 (show (2:Int)=2 from rfl);have wa:ae .i64 ((v:Nat):Int)=((v:Nat):Int):=zk (by omega) (by omega);have wb:ae .i64 (f.vars+((v:Nat):Int))=f.vars+((v:Nat):Int):=zk (by omega) (by omega);simp only [Ex.sz] at hl;simp only [↓qh,qq,reduceIte,reduceEqDiff,Jv,Ex.sz,t0,qi,h.ld,h1.ld,e2,e3,e4,l1.ld,Int.reduceEq,Nat.reduceAdd,wa,wb,Ks,qS];refine C3.q (rp (M:=M) h1 (by omega)) λ v H2 hq=>?_;simp only [↓qh,qq,reduceIte,reduceEqDiff];rw [Ex.cmp,qc h6];exact CQ.pre k1 hq
 | load x ih =>
  intro H bb g lv w hs ho hg hl h
  by_cases h6:6<=g
  ·exact deep h6 h (by rw [Ex.cmp,qk h6])
  refine Kd ?_;obtain ⟨hnd,hks⟩:=bj.nd (x:=.e (.load x)) hs;have hsx:bj ts bb (x.enc bb):=hks.cons.1;have hnd':(It.e (.load x)).nd bb=⟨3,0,[((bb+x.sz-1:Nat):Int)]⟩:=by simp [It.nd,It.kn,It.ks,aH,ints,It.sz]
  obtain ⟨ka,p,H1,ha,e2,e3,rfl,eh,e4,h1,l1,k1⟩:=ri hn h hnd;rw [hnd'] at ha e3 e4 l1;simp only [It.sz] at e2 e3;simp only at e4 l1;clear eh;have t0:¬ (6:Int)<=(g:Int):=by omega
  obtain ⟨i2,i3⟩:=eL ha h1.fr (i:=0) rfl (z:=0) rfl;simp only [Ex.sz] at hl;have cl:=x.aV f g w;simp only [↓qh,qq,reduceIte,reduceEqDiff,Jv,t0,qi,h.ld,e2,e3,e4,l1.ld,Int.reduceEq,i2 .i64,i3];refine C3.q (ih hsx ho hg (by omega) h1) λ v H2 ⟨l2,h2,k2⟩=>?_;simp only [↓qh,qq,reduceIte,reduceEqDiff];refine C3.q (qyi (M:=M) h2 (by omega) g) λ v H3 ⟨l3,h3,k3⟩=>?_;simp only [↓qh,qq,reduceIte,reduceEqDiff,qi,Nat.reduceAdd,h3.ld,Ks,qS];refine C3.q (rp (M:=M) h3 (by rw [CW.gx];omega)) λ v H4 hq=>?_;simp only [↓qh,qq,reduceIte,reduceEqDiff];rw [Ex.cmp,qc h6];exact CQ.pre ((k1.trans k2).trans k3) hq
 | bin o x y ihx ihy =>
  intro H bb g lv w hs ho hg hl h
  by_cases h6:6<=g
  ·exact deep h6 h (by rw [Ex.cmp,qk h6])
  refine Kd ?_;obtain ⟨hnd,hks⟩:=bj.nd (x:=.e (.bin o x y)) hs;have hsx:bj ts bb (x.enc bb):=hks.cons.1;have hsy:bj ts (bb+x.sz) (y.enc (bb+x.sz)):=hks.cons.2.cons.1;obtain ⟨o4,o10,hox,hoy⟩:=ho;have hnd':(It.e (.bin o x y)).nd bb=⟨o,0,[((bb+x.sz-1:Nat):Int),((bb+x.sz+y.sz-1:Nat):Int)]⟩:=by simp [It.nd,It.kn,It.ks,aH,ints,It.sz]
  obtain ⟨ka,p,H1,ha,e2,e3,rfl,eh,e4,h1,l1,k1⟩:=ri hn h hnd;rw [hnd'] at ha e3 e4 l1;simp only [It.sz] at e2 e3;simp only at e4 l1;clear eh;have t0:¬ (6:Int)<=(g:Int):=by omega
  have t1:¬ (o:Int)=1:=by omega
  have t2:¬ (o:Int)=2:=by omega
  have t3:¬ (o:Int)=3:=by omega
  have wg:ae .i64 ((g:Int)+1)=((g+1:Nat):Int):=by rw [zk (by omega) (by omega)];omega
  obtain ⟨i2,i3⟩:=eL ha h1.fr (i:=0) rfl (z:=0) rfl;simp only [Ex.sz] at hl;have cl:=x.aV f g w;have cm:=y.aV f (g+1) (x.cmp f g w);simp only [↓qh,qq,reduceIte,reduceEqDiff,Jv,t0,t1,t2,t3,qi,h.ld,e2,e3,e4,l1.ld,i2 .i64,i3];refine C3.q (ihx hsx hox hg (by omega) h1) λ v H2 ⟨l2,h2,k2⟩=>?_;have q2:=l1.step k2;obtain ⟨j2,j3⟩:=eL ha h2.fr (i:=1) rfl (z:=1) rfl;simp only [↓qh,qq,reduceIte,reduceEqDiff,q2.ld,j2 .i64,j3,wg];refine C3.q (ihy hsy hoy (by omega) (by omega) h2) λ v H3 ⟨l3,h3,k3⟩=>?_;have q3:=q2.step k3;simp only [↓qh,qq,reduceIte,reduceEqDiff,q3.ld];refine C3.q (xeh (M:=M) (k:=o) o4 (by omega)) λ v H4 ⟨hv,f4⟩=>?_;subst hv;have h4:=h3.em f4;simp only [↓qh,qq,reduceIte,reduceEqDiff,wg,bd6,qS];refine C3.q (rp (M:=M) h4 (by omega)) λ v H5 hq=>?_;simp only [↓qh,qq,reduceIte,reduceEqDiff];rw [Ex.cmp,qc h6];have eo:yN o=o:=qk o10;rw [eo] at hq;exact CQ.pre (((k1.trans k2).trans k3).trans (KW.em f4)) hq
theorem OJ {H0:AHeap} {r:Nat} {tv:AV} {ts:List Nd} {f:cF} (hf:f.ok) (hn:eT H0 tv ts) (c:Cn) {H:AHeap} {bb:Nat} {lv:AV} {w:CW} (hs:bj ts bb (c.enc bb)) (ho:c.ok) (hl:w.l.length+4*c.sz<=90000) (h:iP H0 H r tv lv f w) :
 ye M EW [.ptr r 0,.int .i64 ((bb+c.sz-1:Nat):Int)] H λ v H'=>∃ lv',iP H0 H' r tv lv' f (c.cmp f w)/\KW r lv H lv' H'/\GU H' r lv' v ((c.cmp f w).l.length-1):=by
 refine qrr ?_;obtain ⟨hnd,hks⟩:=bj.nd (x:=.c c) hs;have hsx:bj ts bb (c.a.enc bb):=hks.cons.1;have hsy:bj ts (bb+c.a.sz) (c.b.enc (bb+c.a.sz)):=hks.cons.2.cons.1;obtain ⟨o4,o10,hox,hoy⟩:=ho;have hnd':(It.c c).nd bb=⟨c.k,0,[((bb+c.a.sz-1:Nat):Int),((bb+c.a.sz+c.b.sz-1:Nat):Int)]⟩:=by simp [It.nd,It.kn,It.ks,aH,ints,It.sz]
 obtain ⟨ka,p,H1,ha,e2,e3,rfl,eh,e4,h1,l1,k1⟩:=ri hn h hnd;rw [hnd'] at ha e3 e4 l1;simp only [It.sz] at e2 e3;simp only at e4 l1;clear eh;obtain ⟨i2,i3⟩:=eL ha h1.fr (i:=0) rfl (z:=0) rfl;simp only [Cn.sz] at hl;have cl:=c.a.aV f 0 w;have cm:=c.b.aV f 1 (c.a.cmp f 0 w);simp only [↓qh,qq,reduceIte,reduceEqDiff,qrs,qi,h.ld,e2,e3,e4,l1.ld,i2 .i64,i3];refine C3.q (Je (M:=M) hf hn c.a (g:=0) hsx hox (by omega) (by omega) h1) λ v H2 ⟨l2,h2,k2⟩=>?_;have q2:=l1.step k2;obtain ⟨j2,j3⟩:=eL ha h2.fr (i:=1) rfl (z:=1) rfl;simp only [↓qh,qq,reduceIte,reduceEqDiff,q2.ld,j2 .i64,j3];refine C3.q (Je (M:=M) hf hn c.b (g:=1) hsy hoy (by omega) (by omega) h2) λ v H3 ⟨l3,h3,k3⟩=>?_;have q3:=q2.step k3;simp only [↓qh,qq,reduceIte,reduceEqDiff,q3.ld];refine C3.q (xeh (M:=M) (k:=c.k) (by omega) (by omega)) λ v H4 ⟨hv,f4⟩=>?_;subst hv;have h4:=h3.em f4;have eo:yN c.k=c.k+3:=qc (by omega);simp only [↓qh,qq,reduceIte,reduceEqDiff,bd3,eo];refine C3.q (KB (M:=M) h4 (by omega) ..) λ v H5 ⟨l5,h5,k5,j5⟩=>?_;simp only [↓qh,qq,reduceIte,reduceEqDiff,IF];refine C3.q (KB (M:=M) h5 (by rw [CW.aZ];omega) ..) λ v H6 ⟨l6,h6,k6,j6⟩=>?_;refine GY h6 (j5.step k6) (by simp only [CW.aZ];omega) λ u H7 ⟨l7,h7,k7⟩=>?_;simp only [↓qh,qq,reduceIte,reduceEqDiff];refine ⟨l7,h7,(((((k1.trans k2).trans k3).trans (KW.em f4)).trans k5).trans k6).trans k7,?_⟩;have e:(c.cmp f w).l.length-1=((c.b.cmp f 1 (c.a.cmp f 0 w)).put ⟨((c.k+3:Nat):Int),0,1,0,0⟩).l.length:=by simp only [Cn.cmp,CW.dI,CW.aZ];omega
 rw [e];exact j6.step k7
end Go.Am
namespace Go.Am
open Lang Go.Proofs
variable {M:aO} [MK M]
def cmpL (f:cF):List Lang.St->CW->CW
 | [],w=>w
 | s::r,w=>cmpL f r (s.cmp f w)
def Jz:List Lang.St->Nat
 | []=>0
 | s::r=>s.sz+Jz r
theorem xc4 (f:cF):∀ (l:Ls) (w:CW),l.cmp f w=cmpL f (av l) w
 | .nil,w=>rfl
 | .cons s l,w=>by simp only [Ls.cmp,av,cmpL,xc4 f l]
theorem vY:∀ l:Ls,l.sz=Jz (av l)
 | .nil=>rfl
 | .cons s l=>by simp only [Ls.sz,av,Jz,vY l]
def yI (M:aO) (H0:AHeap) (r:Nat) (tv:AV) (ts:List Nd) (f:cF) (s:Lang.St):Prop:=∀ (H:AHeap) (bb:Nat) (lv:AV) (w:CW),bj ts bb (s.enc bb)->s.ok->w.l.length+4*s.sz<=90000->iP H0 H r tv lv f w ->
 ye M z4 [.ptr r 0,.int .i64 ((bb+s.sz-1:Nat):Int)] H λ _ H'=>CQ H0 H r tv lv f (s.cmp f w) H'
def Hu (M:aO) (H0:AHeap) (r:Nat) (tv:AV) (ts:List Nd) (f:cF) (l:Ls):Prop:=∀ (H:AHeap) (bb:Nat) (lv:AV) (w:CW),bj ts bb (l.cu bb)->l.ok->w.l.length+4*l.sz<=90000->iP H0 H r tv lv f w ->
 ye M z4 [.ptr r 0,.int .i64 ((bb+l.sz:Nat):Int)] H λ _ H'=>CQ H0 H r tv lv f (l.cmp f w) H'
section
variable {H0:AHeap} {r:Nat} {tv:AV} {ts:List Nd} {f:cF}
theorem Hn (hf:f.ok) (hn:eT H0 tv ts) (ht:ts.length<=1000000) (l:Ls) (hsp:∀ s ∈ av l,yI M H0 r tv ts f s):Hu M H0 r tv ts f l:=by
 intro H bb lv w hs ho hl h;refine BP ?_;obtain ⟨hnd,-⟩:=bj.nd (x:=.l l) hs;have hse:bj ts bb (l.enc bb):=hs.left;have hsz:(It.l l).sz=l.sz+1:=rfl;rw [hsz,show bb+(l.sz+1)-1=bb+l.sz by omega] at hnd;have hnd':(It.l l).nd bb=⟨20,0,ints (l.ends bb)⟩:=by simp [It.nd,It.kn,It.ks,Ls.fv]
 obtain ⟨ka,p,H1,ha,e2,e3,rfl,eh,e4,h1,l1,k1⟩:=ri hn h hnd;rw [hnd'] at ha e3 e4 l1;simp only at e4 l1;clear eh;have hlen:=KX l;have aT:=bj.lt (x:=.l l) hs;rw [hsz] at aT;have t20:=j0 (show (20:Int)=20 from rfl);have hal:=(ha.em h1.fr).len;rw [Nw] at hal;obtain ⟨w0,w8,-,w12,-,w18,-,-,-,w23⟩:=BG M ⟨none,z4⟩;simp only [↓qh,qq,reduceIte,reduceEqDiff,w0,w8,qi,h.ld,e2,e3,e4,l1.ld,t20,hal];refine bS.intro (λ k E' H'=>∃ j wj lj,E'=[(25,.int .i64 (j:Nat)),(24,.int .i64 ((av l).length:Nat)),(23,ka),(0,.ptr r 0)]/\k=(av l).length-j/\j<=(av l).length/\iP H0 H' r tv lj f wj/\KW r lv H1 lj H' /\
  wj.l.length+4*Jz ((av l).drop j)<=90000/\cmpL f ((av l).drop j) wj=cmpL f (av l) w) ?_ ?_
 ·exact ⟨_,_,⟨0,w,lv,rfl,rfl,by omega,h1,KW.refl,by rw [xq,<-vY];exact hl,rfl⟩,by simp only [↓qh,qq,reduceIte,reduceEqDiff]⟩
 rintro k E' Hc ⟨j,wj,lj,rfl,rfl,hj,hw,hk,hz,hrun⟩;rw [xc4];rcases kg j (av l).length with aT|hge
 ·have q1:(j:Int)<((av l).length:Nat):=by omega
  obtain ⟨x,hsj⟩:∃ x,(av l)[j]? = some x:=⟨(av l)[j],by simp [aT]⟩
  have hm:=xv hsj;obtain ⟨c,hkc,hsc⟩:=MI hse hsj;obtain ⟨i1,i2⟩:=eL ha hw.fr hkc (z:=(j:Int)) rfl;rw [Lj hsj] at hrun hz;simp only [cmpL,Jz] at hrun hz;have xl:=x.aV f wj;have wj1:ae .i64 ((j:Int)+1)=((j+1:Nat):Int):=by rw [zk (by omega) (by omega)];omega
  simp only [↓qh,qq,reduceIte,reduceEqDiff,w12,w18,q1,i1 .i64,i2];refine C3.q (hsp x hm Hc c lj wj hsc (Lb l ho x hm) (by omega) hw) λ v H3 ⟨l3,h3,k3⟩=>?_;simp only [↓qh,qq,reduceIte,reduceEqDiff,w23,wj1];exact ⟨_,_,⟨j+1,x.cmp f wj,l3,rfl,rfl,by omega,h3,hk.trans k3,by omega,hrun⟩,by simp only [↓qh,qq,reduceIte,reduceEqDiff],by omega⟩
 ·have q1:¬ (j:Int)<((av l).length:Nat):=by omega
  rw [kc hge,cmpL] at hrun;simp only [↓qh,qq,reduceIte,reduceEqDiff,w12,w18,q1,reduceCtorEq,qk];rw [<-hrun];exact ⟨lj,hw,k1.trans hk⟩
theorem xda (hf:f.ok) (hn:eT H0 tv ts) (v:Nat) (x:Ex):yI M H0 r tv ts f (.set v x):=by
 intro H bb lv w hs ho hl h;refine BP ?_;obtain ⟨hnd,hks⟩:=bj.nd (x:=.s (.set v x)) hs;have hsx:bj ts bb (x.enc bb):=hks.cons.1;have hnd':(It.s (.set v x)).nd bb=⟨14,v,[((bb+x.sz-1:Nat):Int)]⟩:=by simp [It.nd,It.kn,It.ks,aH,ints,It.sz]
 obtain ⟨ka,p,H1,ha,e2,e3,rfl,eh,e4,h1,l1,k1⟩:=ri hn h hnd;rw [hnd'] at ha e3 e4 l1;simp only [It.sz] at e2 e3;simp only at e4 l1;clear eh;obtain ⟨hv7,hox⟩:=ho;have hf':=hf;obtain ⟨f0,f1,_⟩:=hf';have t14:=j0 (show (14:Int)=14 from rfl);have wa:ae .i64 ((v:Nat):Int)=((v:Nat):Int):=zk (by omega) (by omega);have wb:ae .i64 (f.vars+((v:Nat):Int))=f.vars+((v:Nat):Int):=zk (by omega) (by omega);obtain ⟨i2,i3⟩:=eL ha h1.fr (i:=0) rfl (z:=0) rfl;simp only [St.sz] at hl;have cl:=x.aV f 0 w;obtain ⟨w0,-,w24,-,-,-,-,-,-,-⟩:=BG M ⟨none,z4⟩;simp only [↓qh,qq,reduceIte,reduceEqDiff,w0,w24,qi,h.ld,e2,e3,e4,l1.ld,Int.reduceEq,t14,i2 .i64,i3];refine C3.q (Je (M:=M) hf hn x (g:=0) hsx hox (by omega) (by omega) h1) λ u H2 ⟨l2,h2,k2⟩=>?_;have q2:=l1.step k2;simp only [↓qh,qq,reduceIte,reduceEqDiff,qi,Nat.reduceAdd,h2.ld,q2.ld,wa,wb,Ks,qS];refine C3.q (rp (M:=M) h2 (by omega)) λ u H3 hq=>?_;simp only [↓qh,qq,reduceIte,reduceEqDiff];exact CQ.pre (k1.trans k2) hq
theorem q6r (hf:f.ok) (hn:eT H0 tv ts) (x y:Ex):yI M H0 r tv ts f (.store x y):=by
 intro H bb lv w hs ho hl h;refine BP ?_;obtain ⟨hnd,hks⟩:=bj.nd (x:=.s (.store x y)) hs;have hsx:bj ts bb (x.enc bb):=hks.cons.1;have hsy:bj ts (bb+x.sz) (y.enc (bb+x.sz)):=hks.cons.2.cons.1;have hnd':(It.s (.store x y)).nd bb=⟨15,0,[((bb+x.sz-1:Nat):Int),((bb+x.sz+y.sz-1:Nat):Int)]⟩:=by simp [It.nd,It.kn,It.ks,aH,ints,It.sz]
 obtain ⟨ka,p,H1,ha,e2,e3,rfl,eh,e4,h1,l1,k1⟩:=ri hn h hnd;rw [hnd'] at ha e3 e4 l1;simp only [It.sz] at e2 e3;simp only at e4 l1;clear eh;obtain ⟨hox,hoy⟩:=ho;have t15:=j0 (show (15:Int)=15 from rfl);obtain ⟨i2,i3⟩:=eL ha h1.fr (i:=0) rfl (z:=0) rfl;simp only [St.sz] at hl;have cl:=x.aV f 0 w;have cm:=y.aV f 1 (x.cmp f 0 w);obtain ⟨w0,-,w24,-,-,-,-,-,-,-⟩:=BG M ⟨none,z4⟩;simp only [↓qh,qq,reduceIte,reduceEqDiff,w0,w24,qi,h.ld,e2,e3,e4,l1.ld,Int.reduceEq,t15,i2 .i64,i3];refine C3.q (Je (M:=M) hf hn x (g:=0) hsx hox (by omega) (by omega) h1) λ u H2 ⟨l2,h2,k2⟩=>?_;have q2:=l1.step k2;obtain ⟨j2,j3⟩:=eL ha h2.fr (i:=1) rfl (z:=1) rfl;simp only [↓qh,qq,reduceIte,reduceEqDiff,q2.ld,j2 .i64,j3];refine C3.q (Je (M:=M) hf hn y (g:=1) hsy hoy (by omega) (by omega) h2) λ u H3 ⟨l3,h3,k3⟩=>?_;simp only [↓qh,qq,reduceIte,reduceEqDiff];refine C3.q (qyi (M:=M) h3 (by omega) 0) λ u H4 ⟨l4,h4,k4⟩=>?_;simp only [↓qh,qq,reduceIte,reduceEqDiff,qi,Nat.reduceAdd,h4.ld,Ks,qS];refine C3.q (rp (M:=M) h4 (by rw [CW.gx];omega)) λ u H5 hq=>?_;simp only [↓qh,qq,reduceIte,reduceEqDiff];exact CQ.pre (((k1.trans k2).trans k3).trans k4) hq
theorem xc3 (hf:f.ok) (hn:eT H0 tv ts) (c:Cn) (l:Ls) (hl':Hu M H0 r tv ts f l):yI M H0 r tv ts f (.ite c l):=by
 intro H bb lv w hs ho hl h;refine BP ?_;obtain ⟨hnd,hks⟩:=bj.nd (x:=.s (.ite c l)) hs;have hsc:bj ts bb (c.enc bb):=hks.cons.1;have hsl:bj ts (bb+c.sz) (l.cu (bb+c.sz)):=hks.cons.2.cons.1;have hnd':(It.s (.ite c l)).nd bb=⟨16,0,[((bb+c.sz-1:Nat):Int),((bb+c.sz+l.sz:Nat):Int)]⟩:=by simp [It.nd,It.kn,It.ks,aH,ints,It.sz]
 obtain ⟨ka,p,H1,ha,e2,e3,rfl,eh,e4,h1,l1,k1⟩:=ri hn h hnd;rw [hnd'] at ha e3 e4 l1;simp only [It.sz] at e2 e3;simp only at e4 l1;clear eh;have t16:=j0 (show (16:Int)=16 from rfl);obtain ⟨i2,i3⟩:=eL ha h1.fr (i:=0) rfl (z:=0) rfl;simp only [St.sz] at hl;have cl:=c.aV f w;have cm:=l.aV f (c.cmp f w);obtain ⟨w0,-,w24,-,w40,-,w45,-,-,-⟩:=BG M ⟨none,z4⟩;simp only [↓qh,qq,reduceIte,reduceEqDiff,w0,w24,w40,qi,h.ld,e2,e3,e4,l1.ld,Int.reduceEq,t16,i2 .i64,i3];refine C3.q (OJ (M:=M) hf hn c hsc ho.1 (by omega) h1) λ u H2 ⟨l2,h2,k2,j2⟩=>?_;have q2:=l1.step k2;obtain ⟨m2,m3⟩:=eL ha h2.fr (i:=1) rfl (z:=1) rfl;simp only [↓qh,qq,reduceIte,reduceEqDiff,w45,q2.ld,m2 .i64,m3];refine C3.q (hl' H2 _ l2 _ hsl ho.2 (by omega) h2) λ u2 H3 ⟨l3,h3,k3⟩=>?_;have q3:=q2.step k3;have hal:=(ha.em h3.fr).len;have t1:¬ (([((bb+c.sz-1:Nat):Int),((bb+c.sz+l.sz:Nat):Int)].length:Nat):Int)=3:=by simp
 simp only [↓qh,qq,reduceIte,reduceEqDiff,q3.ld,hal,t1];refine GY h3 (j2.step k3) (by omega) λ u3 H4 q4=>?_;simp only [↓qh,qq,reduceIte,reduceEqDiff];exact CQ.pre ((k1.trans k2).trans k3) q4
theorem xal (hf:f.ok) (hn:eT H0 tv ts) (c:Cn) (l m:Ls) (hl':Hu M H0 r tv ts f l) (hm':Hu M H0 r tv ts f m):yI M H0 r tv ts f (.cG c l m):=by
 intro H bb lv w hs ho hl h;refine BP ?_;obtain ⟨hnd,hks⟩:=bj.nd (x:=.s (.cG c l m)) hs;have hsc:bj ts bb (c.enc bb):=hks.cons.1;have hsl:bj ts (bb+c.sz) (l.cu (bb+c.sz)):=hks.cons.2.cons.1;have hsm:bj ts (bb+c.sz+(l.sz+1)) (m.cu (bb+c.sz+(l.sz+1))):=hks.cons.2.cons.2.cons.1;have hnd':(It.s (.cG c l m)).nd bb=⟨16,0,[((bb+c.sz-1:Nat):Int),((bb+c.sz+l.sz:Nat):Int),((bb+c.sz+(l.sz+1)+m.sz:Nat):Int)]⟩:=by simp [It.nd,It.kn,It.ks,aH,ints,It.sz]
 obtain ⟨ka,p,H1,ha,e2,e3,rfl,eh,e4,h1,l1,k1⟩:=ri hn h hnd;rw [hnd'] at ha e3 e4 l1;simp only [It.sz] at e2 e3;simp only at e4 l1;clear eh;have t16:=j0 (show (16:Int)=16 from rfl);obtain ⟨i2,i3⟩:=eL ha h1.fr (i:=0) rfl (z:=0) rfl;simp only [St.sz] at hl;have cl:=c.aV f w;have cm:=l.aV f (c.cmp f w);obtain ⟨w0,-,w24,-,w40,-,w45,-,-,-⟩:=BG M ⟨none,z4⟩;simp only [↓qh,qq,reduceIte,reduceEqDiff,w0,w24,w40,qi,h.ld,e2,e3,e4,l1.ld,Int.reduceEq,t16,i2 .i64,i3];refine C3.q (OJ (M:=M) hf hn c hsc ho.1 (by omega) h1) λ u H2 ⟨l2,h2,k2,j2⟩=>?_;have q2:=l1.step k2;obtain ⟨m2,m3⟩:=eL ha h2.fr (i:=1) rfl (z:=1) rfl;simp only [↓qh,qq,reduceIte,reduceEqDiff,w45,q2.ld,m2 .i64,m3];refine C3.q (hl' H2 _ l2 _ hsl ho.2.1 (by omega) h2) λ u2 H3 ⟨l3,h3,k3⟩=>?_;have q3:=q2.step k3;have hal:=(ha.em h3.fr).len;have t1:(([((bb+c.sz-1:Nat):Int),((bb+c.sz+l.sz:Nat):Int),((bb+c.sz+(l.sz+1)+m.sz:Nat):Int)].length:Nat):Int)=3:=by simp
 simp only [↓qh,qq,reduceIte,reduceEqDiff,q3.ld,hal,j0 t1,IF];refine C3.q (KB (M:=M) h3 (by omega) ..) λ u3 H4 ⟨l4,h4,k4,j4⟩=>?_;refine GY h4 ((j2.step k3).step k4) (by rw [CW.aZ];omega) λ u4 H5 ⟨l5,h5,k5⟩=>?_;have q5:=(q3.step k4).step k5;obtain ⟨n2,n3⟩:=eL ha h5.fr (i:=2) rfl (z:=2) rfl;have ml:=m.aV f (((l.cmp f (c.cmp f w)).put ⟨13,0,0,0,0⟩).goto ((c.cmp f w).l.length-1));simp only [CW.dI,CW.aZ] at ml;simp only [↓qh,qq,reduceIte,reduceEqDiff,q5.ld,n2 .i64,n3];refine C3.q (hm' H5 _ l5 _ hsm ho.2.2 (by rw [CW.dI,CW.aZ];omega) h5) λ u5 H6 ⟨l6,h6,k6⟩=>?_;refine GY h6 ((j4.step k5).step k6) (by omega) λ u6 H7 q7=>?_;simp only [↓qh,qq,reduceIte,reduceEqDiff];exact CQ.pre (((((k1.trans k2).trans k3).trans k4).trans k5).trans k6) q7
theorem xan (hf:f.ok) (hn:eT H0 tv ts) (c:Cn) (l:Ls) (hl':Hu M H0 r tv ts f l):yI M H0 r tv ts f (.loop c l):=by
 intro H bb lv w hs ho hl h;refine BP ?_;obtain ⟨hnd,hks⟩:=bj.nd (x:=.s (.loop c l)) hs;have hsc:bj ts bb (c.enc bb):=hks.cons.1;have hsl:bj ts (bb+c.sz) (l.cu (bb+c.sz)):=hks.cons.2.cons.1;have hnd':(It.s (.loop c l)).nd bb=⟨17,0,[((bb+c.sz-1:Nat):Int),((bb+c.sz+l.sz:Nat):Int)]⟩:=by simp [It.nd,It.kn,It.ks,aH,ints,It.sz]
 obtain ⟨ka,p,H1,ha,e2,e3,rfl,eh,e4,h1,l1,k1⟩:=ri hn h hnd;rw [hnd'] at ha e3 e4 l1;simp only [It.sz] at e2 e3;simp only at e4 l1;clear eh;have t17:=j0 (show (17:Int)=17 from rfl);obtain ⟨i2,i3⟩:=eL ha h1.fr (i:=0) rfl (z:=0) rfl;simp only [St.sz] at hl;have cl:=c.aV f w;have cm:=l.aV f (c.cmp f w);obtain ⟨w0,-,w24,-,w40,-,-,w61,-,-⟩:=BG M ⟨none,z4⟩;simp only [↓qh,qq,reduceIte,reduceEqDiff,w0,w24,w40,w61,qi,h.ld,h1.ld,h1.len,e2,e3,e4,l1.ld,Int.reduceEq,t17,i2 .i64,i3];refine C3.q (OJ (M:=M) hf hn c hsc ho.1 (by omega) h1) λ u H2 ⟨l2,h2,k2,j2⟩=>?_;have q2:=l1.step k2;obtain ⟨m2,m3⟩:=eL ha h2.fr (i:=1) rfl (z:=1) rfl;simp only [↓qh,qq,reduceIte,reduceEqDiff,q2.ld,m2 .i64,m3];refine C3.q (hl' H2 _ l2 _ hsl ho.2 (by omega) h2) λ u2 H3 ⟨l3,h3,k3⟩=>?_;simp only [↓qh,qq,reduceIte,reduceEqDiff,bd2,qS];refine C3.q (rp (M:=M) h3 (by omega)) λ u3 H4 ⟨l4,h4,k4⟩=>?_;refine GY h4 ((j2.step k3).step k4) (by rw [CW.aZ];omega) λ u4 H5 q5=>?_;simp only [↓qh,qq,reduceIte,reduceEqDiff];exact CQ.pre (((k1.trans k2).trans k3).trans k4) q5
theorem xah (hf:f.ok) (hn:eT H0 tv ts) (l:Ls) (hl':Hu M H0 r tv ts f l):yI M H0 r tv ts f (.atom l):=by
 intro H bb lv w hs ho hl h;refine BP ?_;obtain ⟨hnd,hks⟩:=bj.nd (x:=.s (.atom l)) hs;have hsl:bj ts bb (l.cu bb):=hks.cons.1;have hnd':(It.s (.atom l)).nd bb=⟨18,0,[((bb+l.sz:Nat):Int)]⟩:=by simp [It.nd,It.kn,It.ks,aH,ints,It.sz]
 obtain ⟨ka,p,H1,ha,e2,e3,rfl,eh,e4,h1,l1,k1⟩:=ri hn h hnd;rw [hnd'] at ha e3 e4 l1;simp only [It.sz] at e2 e3;simp only at e4 l1;clear eh;have t18:=j0 (show (18:Int)=18 from rfl);simp only [St.sz] at hl;have cl:=l.aV f (w.put ⟨17,0,0,0,0⟩);rw [CW.aZ] at cl;obtain ⟨w0,-,w24,-,w40,-,-,-,w70,-⟩:=BG M ⟨none,z4⟩;simp only [↓qh,qq,reduceIte,reduceEqDiff,w0,w24,w40,w70,qi,h.ld,e2,e3,e4,l1.ld,Int.reduceEq,t18,IF,qS];refine C3.q (rp (M:=M) h1 (by omega)) λ u H2 ⟨l2,h2,k2⟩=>?_;have q2:=l1.step k2;obtain ⟨m2,m3⟩:=eL ha h2.fr (i:=0) rfl (z:=0) rfl;simp only [↓qh,qq,reduceIte,reduceEqDiff,q2.ld,m2 .i64,m3];refine C3.q (hl' H2 _ l2 _ hsl ho.1 (by rw [CW.aZ];omega) h2) λ u2 H3 ⟨l3,h3,k3⟩=>?_;simp only [↓qh,qq,reduceIte,reduceEqDiff,IF,qS];refine C3.q (rp (M:=M) h3 (by omega)) λ u3 H4 q4=>?_;simp only [↓qh,qq,reduceIte,reduceEqDiff];exact CQ.pre ((k1.trans k2).trans k3) q4
theorem xak (hf:f.ok) (hn:eT H0 tv ts):yI M H0 r tv ts f .halt:=by
 intro H bb lv w hs ho hl h;refine BP ?_;obtain ⟨hnd,hks⟩:=bj.nd (x:=.s .halt) hs;have hnd':(It.s .halt).nd bb=⟨19,0,[]⟩:=by simp [It.nd,It.kn,It.ks,aH,ints,It.sz]
 obtain ⟨ka,p,H1,ha,e2,e3,rfl,eh,e4,h1,l1,k1⟩:=ri hn h hnd;rw [hnd'] at ha e3 e4 l1;simp only [It.sz] at e2 e3;simp only at e4 l1;clear eh;have t19:=j0 (show (19:Int)=19 from rfl);obtain ⟨w0,-,w24,-,w40,-,-,-,w70,-⟩:=BG M ⟨none,z4⟩;simp only [↓qh,qq,reduceIte,reduceEqDiff,w0,w24,w40,w70,qi,h.ld,e2,e3,e4,l1.ld,Int.reduceEq,t19,IF,qS];refine C3.q (rp (M:=M) h1 (by omega)) λ u H2 hq=>?_;simp only [↓qh,qq,reduceIte,reduceEqDiff];exact CQ.pre k1 hq
mutual
theorem Dv (hf:f.ok) (hn:eT H0 tv ts) (ht:ts.length<=1000000):∀ (s:Lang.St),yI M H0 r tv ts f s
 | .set v x=>xda hf hn v x
 | .store x y=>q6r hf hn x y
 | .ite c l=>xc3 hf hn c l (Hn hf hn ht l (CJ hf hn ht l))
 | .cG c l m=>xal hf hn c l m (Hn hf hn ht l (CJ hf hn ht l)) (Hn hf hn ht m (CJ hf hn ht m))
 | .loop c l=>xan hf hn c l (Hn hf hn ht l (CJ hf hn ht l))
 | .atom l=>xah hf hn l (Hn hf hn ht l (CJ hf hn ht l))
 | .halt=>xak hf hn
theorem CJ (hf:f.ok) (hn:eT H0 tv ts) (ht:ts.length<=1000000):∀ (l:Ls),∀ s ∈ av l,yI M H0 r tv ts f s
 | .nil,s,h=>by cases h
 | .cons x l,s,h=>by
  rcases x8.1 h with q|h
  ·rw [q];exact Dv hf hn ht x
  ·exact CJ hf hn ht l s h
end
end
end Go.Am
