/- LqM9: MnF MnG MnH. -/
import Derived.Test.YtbimikjajohflaaGreatDoorAmMLqM8
import Derived.Test.YtbimikjajohflaaGreatDoorAmMLqM0
import Derived.Test.YtbimikjajohflaaGreatDoorAmMLqM4
set_option linter.unusedVariables false
set_option linter.unusedSimpArgs false
set_option linter.unusedSectionVars false
set_option maxRecDepth 100000
open Nat (reduceEqDiff)
namespace Go.Am
open Lang Go.Proofs
variable {M:aO} [MK M]
theorem bsU (e:Nat) (zero:List AV):Op.buildSlice e 0 zero [] []=some (.row [] e (0,0) true,Op.sliceTo 0 0):=rfl
theorem Ii (H:AHeap):Op.eq .slice false [.nils,.nils] H=some (.bool true):=rfl
theorem EY {H:AHeap} {size:Nat} {v:AV} {n:Nat} {cells:List AV} (h:Sl H size v n cells) (hv:v ≠ .nils) (H':AHeap):Op.eq .slice false [v,.nils] H'=some (.bool false):=by
 obtain ⟨_,h⟩:=h;cases v<;>first|exact (hv rfl).elim|rfl|exact h.elim
theorem IM (l:List Int):bh (l.flatMap gO)=true:=by rw [mU,List.all_flatMap];simp;intro x _;rfl
theorem qyl {H:AHeap} {a:AV} {ws:List Int} (ha:cU gO 1 H a ws) (hl:ws.length<=5000):ye M kx [a] H λ v H'=>iN gO vq 1 H H' v ws:=by
 refine qkg ?_
 by_cases hn:a=.nils
 ·subst hn;have:ws=[]:=by obtain ⟨_,h⟩:=ha;exact FH.1 h
  subst this;simp only [↓qh,qq,reduceIte,reduceEqDiff,FQ,Ii];exact iN.nil H
 ·simp only [↓qh,qq,reduceIte,reduceEqDiff,FQ,EY ha hn,bsU];have hf1:Fr Em H (H.alloc (.row [] vq (0,0) true)):=(Fr.refl H).alloc _;refine q8r (e:=vq) (n:=0) (cells:=[]) ⟨rfl,.inl ⟨rfl,.inr ⟨H.next,rfl,by rw [xk];omega⟩⟩⟩ (ha.em hf1) (IM ws) (by omega) (by omega) (by omega) λ v' H2 hv' hf hfr=>?_;simp only [↓qh,qq,reduceIte,reduceEqDiff,FQ];rw [x6,zn] at hv';exact ⟨hv',hf1.trans hf λ x hx=>.inr (by rw [hx.2];exact qf _),λ b hb=>(hfr b hb).elim (λ q=>by rw [q.2];exact qf _) λ q=>xz hf1.next q⟩
theorem dD.only {H0 H H':AHeap} {r e:Nat} {tv wv:AV} {a:Bool} {s:MS} (h:dD H0 H r tv wv a s) (f:Fr (λ x=>x=e) H H') (h1:e ≠ r) (h2:¬ bL wv e) (h3:H0.next<=e):dD H0 H' r tv wv a s :=
 { h with row:=by rw [f.aj r h.hi (λ q=>h1 q.symm)];exact h.row,hi:=qe h.hi f.next,nw:=⟨Own.fr h.nw.own f (λ x hx q=>h2 (by subst q;exact hx)),h.nw.fr.trans f λ x hx=>.inr (by rw [hx];exact h3),h.nw.fresh⟩ }
theorem Lc.only {H H':AHeap} {r p e k:Nat} {wv:AV} {row:List AV} (h:Lc H r wv p row e) (f:Fr (λ x=>x=k) H H') (hk:p ≠ k):Lc H' r wv p row e:=⟨by rw [f.aj p h.lt hk];exact h.get,qe h.lt f.next,h.nr,h.ns⟩
theorem q6q {H0 H:AHeap} {tv wv:AV} {ts:List Nd} {l:Ls} (hl:LD M H0 tv ts l) {r bb p q:Nat} {a:Bool} {s:MS} (hs:bj ts bb (l.cu bb)) (ho:l.ok) (hsm:l.small) (hat:a=true->l.dq=false) (he:s.err=0) (h:dD H0 H r tv wv a s)
 (hp:Op.aa [.ptr p 0] H=some (.ptr r 0)) (hq:Op.aa [.ptr q 0] H=some (.int .i64 ((bb+l.sz:Nat):Int))):kj M vz [.ptr p 0,.ptr q 0] H (DQ H0 H r tv wv a (l.run a s)):=by
 refine qug ?_;simp only [↓qh,qq,reduceIte,reduceEqDiff,quh,hp,hq];refine P3.e (hl H r bb wv a s hs ho hsm hat he h) (λ v H2 h2=>?_) λ k H2 hx=>?_
 ·simp only [↓qh,qq,reduceIte,reduceEqDiff,iO];exact h2
 ·simp only [↓qh,qq,reduceIte,reduceEqDiff,jA,jF];exact hx
def wL (s f:MS):MS:=if f.err=0 then { f with aN:=f.aN+1 } else { f with w:=s.w,v:=s.v }
def AtP (H0 H:AHeap) (r:Nat) (tv wv:AV) (f:MS) (c:Nat) (H':AHeap):Prop:=c=0/\DR H0 H r tv wv true f .undef H'\/c ≠ 0/\DX H0 H r tv wv f c H'
theorem xR {H0 H:AHeap} {tv wv:AV} {ts:List Nd} {l:Ls} (hl:LD M H0 tv ts l) {r bb:Nat} {s:MS} (hs:bj ts bb (l.cu bb)) (ho:l.ok) (hsm:l.small) (hat:l.dq=false) (he:s.err=0) (h:dD H0 H r tv wv false s) (hsum:s.left+s.aN+1<=1048576) :
 kj M EE [.ptr r 0,.int .i64 ((bb+l.sz:Nat):Int)] H (DQ H0 H r tv wv false (wL s (l.run true s))):=by
 refine qxi ?_;have hni:(l.run true s).left+(l.run true s).aN<=s.left+s.aN:=l.sm true s;generalize hfin:l.run true s=fin at *;obtain ⟨w0,w4,w8,w10,w18⟩:=qxj M ⟨none,EE⟩
 -- the boxes
 have f1:Fr Em H (H.alloc (OR [.ptr r 0] rj)):=(Fr.refl H).alloc _;have h1:=h.em f1;have c1:=Lc.new h [.ptr r 0] rj;obtain ⟨H1,e1⟩:∃ X,X=H.alloc (OR [.ptr r 0] rj):=⟨_,rfl⟩
 rw [<-e1] at f1 h1 c1;have f2:Fr Em H1 (H1.alloc (OR [.int .i64 ((bb+l.sz:Nat):Int)] bu)):=(Fr.refl H1).alloc _;have h2:=h1.em f2;have c2:=Lc.new h1 [.int .i64 ((bb+l.sz:Nat):Int)] bu;have c1:=c1.em f2;obtain ⟨H2,e2⟩:∃ X,X=H1.alloc (OR [.int .i64 ((bb+l.sz:Nat):Int)] bu):=⟨_,rfl⟩
 rw [<-e2] at f2 h2 c1 c2;have hv8:=h.v8;have ldv:∀ {Hx:AHeap} {wv':AV} {a':Bool} {s':MS},dD H0 Hx r tv wv' a' s'->s'.v.length=8->Op.au 8 [.ptr r 2] Hx=some (.agg (aP s'.v)):=by
  intro Hx wv' a' s' hx h8;rw [mg (qy hx.row) (by simp [aG,aP,h8])];obtain ⟨v0,v1,v2,v3,v4,v5,v6,v7,e⟩:=rC (tv:=tv) (wv:=wv) (a:=a') h8;unfold aG aP;simp only [e];rfl
 simp only [↓qh,qq,reduceIte,reduceEqDiff,w0,AV.cells,<-e1,<-e2,c1.ld,qi,h2.l1,ldv h2 hv8];have hwl:=h.wl;refine P3.q (qyl (M:=M) h2.nw.sl (by omega)) (λ w' H3 hw'=>?_) λ c H' q=>q.elim;have hw':iN gO vq 1 H2 H3 w' s.w:=hw';have f3:=hw'.fr;have h3:=h2.em f3;have c1:=c1.em f3;have c2:=c2.em f3;have e4:Op.store 8 [AV.ptr H3.next 0,AV.agg (aP s.v)] (H3.alloc (OR [.int .u64 0,.int .u64 0,.int .u64 0,.int .u64 0,.int .u64 0,.int .u64 0,.int .u64 0,.int .u64 0] cQ))=some (.undef,H3.alloc (OR (aP s.v) cQ)) :=
  JK H3 _ cQ 8 (.agg (aP s.v)) rfl (by simp [AV.cells,aP,hv8]) (by rw [mU];simp [AV.cells,aP,aD])
 have f5:Fr Em H3 (H3.alloc (OR (aP s.v) cQ)):=(Fr.refl H3).alloc _;have h5:=h3.em f5;have c5:=Lc.new h3 (aP s.v) cQ;have d1:=c1.em f5;have d2:=c2.em f5;have hw5:=hw'.em f5;obtain ⟨p5,hp5⟩:∃ p,p=H3.next:=⟨_,rfl⟩
 have n12:=f1.next
 have n23:=f2.next
 have n34:=f3.next
 have n45:=f5.next
 have lt1:=c1.lt;have lt2:=c2.lt;have lt5:=c5.lt;obtain ⟨H5,e5⟩:∃ X,X=H3.alloc (OR (aP s.v) cQ):=⟨_,rfl⟩
 rw [<-e5] at f5 h5 c5 d1 d2 hw5 e4 lt5 n45;rw [<-hp5] at c5 e4 lt5
 -- the mark
 have st6:=y9 h5.row (o:=14) (n:=1) (v:=.bool true) rfl (by simp [aG,aP,hv8]) rfl;obtain ⟨h6,f6⟩:=h5.rf (s':=s) (a':=true) (c:=(aG tv wv false s).take 14++(AV.bool true).cells++(aG tv wv false s).drop (14+1)) (by
  obtain ⟨v0,v1,v2,v3,v4,v5,v6,v7,e⟩:=rC (tv:=tv) (wv:=wv) (a:=false) hv8;unfold aG aP;simp only [e];rfl) rfl hv8 h.vr h.fl
 obtain ⟨H6,e6⟩:∃ X,X=H5.set r (OR ((aG tv wv false s).take 14++(AV.bool true).cells++(aG tv wv false s).drop (14+1)) vt):=⟨_,rfl⟩
 rw [<-e6] at h6 f6 st6;have g1:=d1.mv f6;have g2:=d2.mv f6;have g5:=c5.mv f6;have n56:=f6.next
 have mf:Op.bm vz 0 [.ptr H.next 0,.ptr H1.next 0]=some (.fn (.func vz) [] [.ptr H.next 0,.ptr H1.next 0]):=rfl;simp only [↓qh,qq,reduceIte,reduceEqDiff,c1.ld,ldv h3 hv8,<-hp5,e4,w4,d1.ld,qi,st6,g1.ld,mf]
 -- the list,up to where it stops
 have f7:Fr Em H6 (H6.alloc (OR [.int .i64 0] yt)):=(Fr.refl H6).alloc _;have h7:=h6.em f7;have c7:=Lc.new h6 [.int .i64 0] yt;have b1:=g1.em f7;have b2:=g2.em f7;have b5:=g5.em f7;have hblk:=q6q (M:=M) hl hs ho hsm (a:=true) (λ _=>hat) he h7 (b1.ld 0) (b2.ld 0);rw [hfin] at hblk;have htry:=q9p (M:=M) (g:=vz) (first:=[]) (cap:=[.ptr H.next 0,.ptr H1.next 0]) (rv:=.ptr r 0) (H:=H6) (P:=AtP H0 (H6.alloc (OR [.int .i64 0] yt)) r tv wv fin) (by
  obtain ⟨e,Hx,q1,q2⟩:=hblk;refine ⟨e,Hx,q1,?_⟩;cases e with
  | ret v=>exact .inl ⟨⟨v,rfl⟩,(c7.mv q2.2.2).get,(c7.mv q2.2.2).lt,.inl ⟨rfl,q2⟩⟩
  | panic c =>
   obtain ⟨k,rfl,q2⟩:=q2;have q2':=q2;obtain ⟨_,_,wv',a',_,q3,_⟩:=q2';exact .inr ⟨k,rfl,(c7.mv q3).get,(c7.mv q3).lt,.inr ⟨q2.2.1,q2⟩⟩)
 refine P3.q htry (λ v H9 hv=>?_) λ c H' q=>q.elim;obtain ⟨c,H8,hv,hat8,f9⟩:∃ c H1',v=.int .i64 ((c:Nat):Int)/\AtP H0 (H6.alloc (OR [.int .i64 0] yt)) r tv wv fin c H1'/\Fr (λ x=>x=H6.next) H1' H9:=hv;subst hv;obtain ⟨wv2,a2,h8,f8,hon8,hc⟩:∃ wv2 a2,dD H0 H8 r tv wv2 a2 fin/\Fr (MW r wv) (H6.alloc (OR [.int .i64 0] yt)) H8/\(∀ b,bL wv2 b->bL wv b\/(H6.alloc (OR [.int .i64 0] yt)).next<=b)/\(c=0/\fin.err=0/\wv2=wv\/c ≠ 0/\fin.err=c):=by
  rcases hat8 with ⟨q1,q2,q3,q4⟩|⟨q1,q2,_,wv',a',q3,q4,q5⟩
  ·exact ⟨wv,true,q3,q4,λ b hb=>.inl hb,.inl ⟨q1,q2,rfl⟩⟩
  ·exact ⟨wv',a',q3,q4,q5,.inr ⟨q1,q2⟩⟩
 have n67:(H6.alloc (OR [.int .i64 0] yt)).next=H6.next+1:=xk ..
 have n06:=h6.fr.next
 have n02:=h2.fr.next
 have h6hi:=h6.hi;have h9:dD H0 H9 r tv wv2 a2 fin:=h8.only f9 (by omega) (λ q=>(hon8 _ q).elim (λ q=>by have:=Own.lt h6.nw.own _ q;omega) λ q=>by omega) (by omega);have lt61:=g1.lt;have k1:=(b1.mv f8).only f9 (show H.next ≠ H6.next by omega);have k5:=(b5.mv f8).only f9 (show p5 ≠ H6.next by omega);have hdis:∀ x,bL w' x -> ¬ MW r wv x:=λ x hx q=>by have:=hw'.fresh x hx;have:=MW.lt h2 q;omega
 have hlt5:=Own.lt hw5.own;have o6:dH gO vq 1 H6 w' s.w:=Own.fr hw5.own f6 hdis;have o8:dH gO vq 1 H8 w' s.w:=Own.fr (Own.em o6 f7) f8 hdis;have o9:dH gO vq 1 H9 w' s.w:=Own.fr o8 f9 λ x hx q=>by have:=hlt5 x hx;omega
 have fH9:Fr (MW r wv) H H9:=by
  have q1:Fr (MW r wv) H H8:=im.trans (im.trans (Fr.lf ((((f1.trans f2 λ _ q=>q.elim).trans f3 λ _ q=>q.elim)).trans f5 λ _ q=>q.elim)) f6) (im.trans (Fr.lf f7) f8);exact q1.trans f9 λ x hx=>.inr (by omega)
 -- the mark goes
 have st10:=y9 h9.row (o:=14) (n:=1) (v:=.bool false) rfl (by simp [aG,aP,h9.v8]) rfl;obtain ⟨h10,f10⟩:=h9.rf (s':=fin) (a':=false) (c:=(aG tv wv2 a2 fin).take 14++(AV.bool false).cells++(aG tv wv2 a2 fin).drop (14+1)) (by
  obtain ⟨v0,v1,v2,v3,v4,v5,v6,v7,e⟩:=rC (tv:=tv) (wv:=wv2) (a:=a2) h9.v8;unfold aG aP;simp only [e];rfl) rfl h9.v8 h9.vr h9.fl
 have f10':Fr (λ x=>x=r) H9 (H9.set r (OR ((aG tv wv2 a2 fin).take 14++(AV.bool false).cells++(aG tv wv2 a2 fin).drop (14+1)) vt)):=(Fr.refl H9).set (W:=λ x=>x=r) (.inl rfl) _;obtain ⟨H10,e10⟩:∃ X,X=H9.set r (OR ((aG tv wv2 a2 fin).take 14++(AV.bool false).cells++(aG tv wv2 a2 fin).drop (14+1)) vt):=⟨_,rfl⟩
 rw [<-e10] at h10 f10 f10' st10;have m1:=k1.only f10' (λ q=>k1.nr q);have m5:=k5.only f10' (λ q=>k5.nr q);have fH10:Fr (MW r wv) H H10:=fH9.trans f10' λ x hx=>.inl (.inl hx);rcases hc with ⟨rfl,he0,rfl⟩|⟨hc0,hce⟩
 ·have hb:fin.aN<4611686018427387904:=by omega
  have wb:ae .i64 (((fin.aN:Nat):Int)+1)=((fin.aN+1:Nat):Int):=by rw [zk (by omega) (by omega)];omega
  have st11:=y9 h10.row (o:=12) (n:=1) (v:=.int .i64 ((fin.aN+1:Nat):Int)) rfl (by simp [aG,aP,h10.v8]) rfl;obtain ⟨h11,f11⟩:=h10.rf (s':={ fin with aN:=fin.aN+1 }) (a':=false) (c:=(aG tv wv2 false fin).take 12++(AV.int .i64 ((fin.aN+1:Nat):Int)).cells++(aG tv wv2 false fin).drop (12+1)) (by
   obtain ⟨v0,v1,v2,v3,v4,v5,v6,v7,e⟩:=rC (tv:=tv) (wv:=wv2) (a:=false) h10.v8;unfold aG aP;simp only [e];rfl) rfl h10.v8 h10.vr (by simp only;omega)
  have t0:=j0 (show ((0:Nat):Int)=0 from rfl);simp only [↓qh,qq,reduceIte,reduceEqDiff,w8,w10,w18,k1.ld,m1.ld,qi,st10,t0,h10.l12,wb,st11,iO];unfold wL;rw [qk he0];exact ⟨he0,h11,im.trans fH10 f11⟩
 ·have t0:¬ ((c:Nat):Int)=0:=by omega
  have oc:aD w'=true:=Sl.one (Own.sl o9);have ocells:w'.cells=[w']:=by
   have:=oc;revert this;cases w'<;>intro q<;>first|rfl|cases q
  have e8:=hv8;have st11:=y9 h10.row (o:=1) (n:=1) (v:=w') (by rw [ocells];rfl) (by simp [aG,aP,h10.v8]) (by rw [ocells,mU];simp [oc]);have ce1:(aG tv wv2 false fin).take 1++w'.cells++(aG tv wv2 false fin).drop (1+1)=aG tv w' false fin:=by rw [ocells];rfl
  rw [ce1] at st11;have f11:Fr (λ x=>x=r) H10 (H10.set r (OR (aG tv w' false fin) vt)):=(Fr.refl H10).set (W:=λ x=>x=r) (.inl rfl) _;have r11:=xd H10 r (OR (aG tv w' false fin) vt);obtain ⟨H11,e11⟩:∃ X,X=H10.set r (OR (aG tv w' false fin) vt):=⟨_,rfl⟩
  rw [<-e11] at f11 r11 st11;have x1:=m1.only f11 (λ q=>m1.nr q);have x5:=m5.only f11 (λ q=>m5.nr q);have st12:=y9 r11 (o:=2) (n:=8) (v:=.agg (aP s.v)) (by simp [AV.cells,aP,hv8]) (by simp [aG,aP,h10.v8]) (by rw [mU];simp [AV.cells,aP,aD]);have ce2:(aG tv w' false fin).take 2++(AV.agg (aP s.v)).cells++(aG tv w' false fin).drop (2+8)=aG tv w' false { fin with w:=s.w,v:=s.v }:=by
   obtain ⟨v0,v1,v2,v3,v4,v5,v6,v7,e⟩:=rC (tv:=tv) (wv:=wv2) (a:=false) h10.v8;unfold aG;simp only [aP,e];simp [AV.cells]
  rw [ce2] at st12;have f12:Fr (λ x=>x=r) H11 (H11.set r (OR (aG tv w' false { fin with w:=s.w,v:=s.v }) vt)):=(Fr.refl H11).set (W:=λ x=>x=r) (.inl rfl) _;have r12:=xd H11 r (OR (aG tv w' false { fin with w:=s.w,v:=s.v }) vt);obtain ⟨H12,e12⟩:∃ X,X=H11.set r (OR (aG tv w' false { fin with w:=s.w,v:=s.v }) vt):=⟨_,rfl⟩
  rw [<-e12] at f12 r12 st12;have b1:Op.build [(.int .i64 0)] [(0,1)] [.int .i64 ((c:Nat):Int)]=some (.agg [.int .i64 ((c:Nat):Int)]):=rfl;have b2:Op.cM yg [.agg [.int .i64 ((c:Nat):Int)]]=some (fw c):=rfl;have lv5:∀ {Hx:AHeap},Lc Hx r wv p5 (aP s.v) cQ->Op.au 8 [.ptr p5 0] Hx=some (.agg (aP s.v)):=by
   intro Hx hx;rw [mg (qy hx.get) (by simp [aP,hv8])];rw [xq,xo (by simp [aP,hv8])]
  simp only [↓qh,qq,reduceIte,reduceEqDiff,w8,w10,k1.ld,m1.ld,x1.ld,qi,st10,t0,lv5 m5,lv5 x5,st11,st12,b1,b2,Kz,jA,jF];unfold wL;have hne:¬ fin.err=0:=by omega
  rw [qc hne];have hr:∀ x,bL w' x->x ≠ r:=λ x hx q=>by have:=hw'.fresh x hx;have:=h2.hi;omega
  have o12:dH gO vq 1 H12 w' s.w:=Own.fr (Own.fr (Own.fr o9 f10' hr) f11 hr) f12 hr;have fH12:Fr (MW r wv) H H12:=(fH10.trans f11 λ x hx=>.inl (.inl hx)).trans f12 λ x hx=>.inl (.inl hx);have hlo:=h.lo;have hi12:r<H12.next:=qe h.hi fH12.next
  refine ⟨hce,hc0,w',false,⟨r12,hlo,hi12,⟨o12,h.nw.fr.trans fH12 λ x hx=>.inr ?_,λ b hb=>by have:=hw'.fresh b hb;omega⟩,λ q=>hr r q rfl,hv8,hwl,h.wr,h.vr,by have:=h10.fl;simp only;omega⟩,fH12,λ b hb=>.inr (by have:=hw'.fresh b hb;omega)⟩;rcases hx with q|q
  ·rw [q];exact hlo
  ·exact h.nw.fresh x q
theorem zT {H0:AHeap} {tv:AV} {ts:List Nd} (hn:eT H0 tv ts) (l:Ls) (hl':LD M H0 tv ts l):SD M H0 tv ts (.atom l):=by
 intro H r bb wv a s hs ho hsm hat hon h;obtain ⟨hnd,hks⟩:=bj.nd (x:=.s (.atom l)) hs;have hsl:bj ts bb (l.cu bb):=hks.cons.1;have hnd':(It.s (.atom l)).nd bb=⟨18,0,[((bb+l.sz:Nat):Int)]⟩:=by simp [It.nd,It.kn,It.ks,aH,ints,It.sz]
 rw [hnd'] at hnd;have ha:a=false:=by cases a with
  | false=>rfl
  | true=>have:=hat rfl;simp [St.dq] at this
 subst ha;refine FN hn h hnd (show (18:Int) ≠ 20 by decide) (show (18:Int) ≠ 17 by decide) (λ q=>by simp only [St.run,qk q]) λ hl ka p H2 ha h2 l2 f2=>?_;simp only [St.run,qc hl];rw [nO hl] at h2 ⊢;obtain ⟨i1,i2⟩:=dQ ha h2.fr (i:=0) rfl (z:=0) rfl;have t18:=j0 (show (18:Int)=18 from rfl);simp only [↓qh,qq,reduceIte,reduceEqDiff,zh,qi,l2.ld,Int.reduceEq,t18,i1 .i64,i2];have hfl:=h.fl;refine P3.e (xR (s:={ s with left:=s.left-1 }) hl' hsl ho.1 hsm ho.2 hon.2 h2 (by simp only;omega)) (λ v H3 ⟨q1,q2,q3⟩=>?_) λ k H3 hx=>?_
 ·simp only [↓qh,qq,reduceIte,reduceEqDiff,zh,iO];exact ⟨q1,q2,im.trans f2 q3⟩
 ·simp only [↓qh,qq,reduceIte,reduceEqDiff,zh,jA,jF];exact DX.up hx f2
def LsD (M:aO) (H0:AHeap) (tv:AV) (ts:List Nd) (l:Ls):Prop:=∀ s ∈ av l,SD M H0 tv ts s
mutual
theorem Ct {H0:AHeap} {tv:AV} {ts:List Nd} (hn:eT H0 tv ts) (ht:ts.length<=2000):∀ x:Lang.St,SD M H0 tv ts x
 | .set w x=>EA hn w x
 | .store x y=>wP hn x y
 | .ite c l=>Ea hn c l (FM hn ht l (lN hn ht l))
 | .cG c l m=>A2 hn c l m (FM hn ht l (lN hn ht l)) (FM hn ht m (lN hn ht m))
 | .loop c l=>Ab hn c l (FM hn ht l (lN hn ht l))
 | .atom l=>zT hn l (FM hn ht l (lN hn ht l))
 | .halt=>Az hn
theorem lN {H0:AHeap} {tv:AV} {ts:List Nd} (hn:eT H0 tv ts) (ht:ts.length<=2000):∀ l:Ls,LsD M H0 tv ts l
 | .nil=>by intro s h;cases h
 | .cons x l=>by
  intro s h;rcases x8.1 h with q|q
  ·rw [q];exact Ct hn ht x
  ·exact lN hn ht l s q
end
end Go.Am
namespace Go.Am
open Lang Go.Proofs
variable {M:aO} [MK M]
def rA (t:List Nd) (n:Nat) (fuel:Int):Prop:=n<=4096/\0<=fuel/\fuel<=1048576/\EB t
theorem q5g {H:AHeap} {tv wv:AV} {t:List Nd} {ws:List Int} {fuel:Int} (h:uW H tv t) (hw:cU gO 1 H wv ws):ye M Da [tv,wv,.int .i64 fuel] H λ v H'=>Fr Em H H' /\ ∃ q,v=.bool q/\(q=true ↔ rA t ws.length fuel):=by
 refine xbk ?_;obtain ⟨w0,w2,w10⟩:=xbl M ⟨none,Da⟩
 by_cases h1:ws.length<=4096
 ·have t1:¬ (4096:Int)<(ws.length:Nat):=by omega
  by_cases h2:0<=fuel
  ·have t2:¬ fuel<0:=by omega
   by_cases h3:fuel<=1048576
   ·have t3:¬ (1048576:Int)<fuel:=by omega
    simp only [↓qh,qq,reduceIte,reduceEqDiff,w0,w2,w10,hw.len,t1,t2,t3];refine C3.q (q8n (M:=M) h) λ v H1 ⟨hf,s,e,hv,he⟩=>?_;subst hv;simp only [↓qh,qq,reduceIte,reduceEqDiff,EN,Ed];exact ⟨hf,decide (e=0),rfl,by simp only [yh,he];exact ⟨λ q=>⟨h1,h2,h3,q⟩,λ q=>q.2.2.2⟩⟩
   ·have t3:(1048576:Int)<fuel:=by omega
    simp only [↓qh,qq,reduceIte,reduceEqDiff,w0,w2,hw.len,t1,t2,t3];exact ⟨Fr.refl _,false,rfl,⟨λ q=>(by cases q),λ q=>(h3 q.2.2.1).elim⟩⟩
  ·have t2:fuel<0:=by omega
   simp only [↓qh,qq,reduceIte,reduceEqDiff,w0,w2,hw.len,t1,t2];exact ⟨Fr.refl _,false,rfl,⟨λ q=>(by cases q),λ q=>(h2 q.2.1).elim⟩⟩
 ·have t1:(4096:Int)<(ws.length:Nat):=by omega
  simp only [↓qh,qq,reduceIte,reduceEqDiff,w0,w2,hw.len,t1];exact ⟨Fr.refl _,false,rfl,⟨λ q=>(by cases q),λ q=>(h1 q.1).elim⟩⟩
def eK (w':AV) (r:MS):List AV:=w'::(aP r.v ++ [.int .i64 0,.int .i64 (r.left:Nat),.int .i64 (r.aN:Nat),.int .i64 (r.err:Nat)])
def Lang.It.run:It->MS->MS
 | .s x,m=>x.run false m
 | .l y,m=>y.run false m
 | _,m=>m
def wG (t:List Nd) (n:Int) (nw:Nat) (fuel:Int):Prop:=rA t nw fuel/\0<=n/\n<(t.length:Nat) /\ ∀ x,t[n.toNat]? = some x->14<=x.k
abbrev tW:List AV:=[.nils,.int .u64 0,.int .u64 0,.int .u64 0,.int .u64 0,.int .u64 0,.int .u64 0,.int .u64 0,.int .u64 0,.int .i64 0,.int .i64 0,.int .i64 0,.int .i64 0]
structure yW (H H':AHeap) (p q r:Nat) (n:Int) (v:List Int):Prop where
 fr:Fr Em H H'
 gp:H'.get p=some (OR [.int .i64 n] bu)
 gq:H'.get q=some (OR (aP v) cQ)
 gr:H'.get r=some (OR tW jh)
 lp:H.next<=p/\p<q
 lq:q<r
 lr:r<H'.next
theorem yW.em {H H1 H2:AHeap} {p q r:Nat} {n:Int} {v:List Int} (h:yW H H1 p q r n v) (f:Fr Em H1 H2):yW H H2 p q r n v:=by
 obtain ⟨h1,h2,h3,h4,h5,h6,h7⟩:=h;exact ⟨h1.em f,by rw [f.aj p (by omega) id];exact h2,by rw [f.aj q (by omega) id];exact h3,by rw [f.aj r (by omega) id];exact h4,h5,h6,qe h7 f.next⟩
theorem xe7 {H:AHeap} {tv wv:AV} {v:List Int} {n fuel:Int} {Q:AV->AHeap->Prop} (hk:∀ H' p q r,yW H H' p q r n v ->
 W M ⟨none,tq⟩ (BA 2) true (aU M [.dA 13 10,.tmp 11] (rL Q)) [(11,.int .i64 0),(10,.ptr r 0),(8,.ptr q 0),(6,.ptr p 0),(0,tv),(1,.int .i64 n),(2,wv),(3,.agg (aP v)),(4,.int .i64 fuel)] [] H') :
 ye M tq [tv,.int .i64 n,wv,.agg (aP v),.int .i64 fuel] H Q:=by
 refine q7g ?_;obtain ⟨w0,-,-⟩:=qy9 M ⟨none,tq⟩;obtain ⟨H1,e1⟩:∃ X,X=H.alloc (OR [.int .i64 n] bu):=⟨_,rfl⟩
 obtain ⟨H2,e2⟩:∃ X,X=H1.alloc (OR (aP v) cQ):=⟨_,rfl⟩
 obtain ⟨H3,e3⟩:∃ X,X=H2.alloc (OR tW jh):=⟨_,rfl⟩
 simp only [↓qh,qq,reduceIte,reduceEqDiff,w0,AV.cells,<-e1,<-e2,<-e3];have n1:H1.next=H.next+1:=by rw [e1,xk]
 have n2:H2.next=H1.next+1:=by rw [e2,xk]
 have n3:H3.next=H2.next+1:=by rw [e3,xk]
 refine hk H3 _ _ _ ⟨?_,?_,?_,?_,⟨qf _,by omega⟩,by omega,by omega⟩
 ·rw [e3,e2,e1];exact (((Fr.refl H).alloc _).alloc _).alloc _
 ·rw [e3,rN (by omega),e2,rN (by omega),e1,qp]
 ·rw [e3,rN (by omega),e2,qp]
 ·rw [e3,qp]
end Go.Am
namespace Go.Am
open Lang Go.Proofs
variable {M:aO} [MK M]
def Lang.It.xL:It->Prop
 | .s _=>True
 | .l _=>True
 | _=>False
theorem AH {t:List Nd} {c:Nat} {l:List Nd} (h:bj t c l):∀ y ∈ l,y ∈ t:=λ y hy=>by
 obtain ⟨i,hi⟩:=List.getElem?_of_mem hy;exact xv (h i y hi)
theorem Jy {H0 H:AHeap} {tv wv:AV} {t:List Nd} (hn:eT H0 tv t) (ht:t.length<=2000) (aT:jZ t) (x:It) (hx:x.xL) {c r:Nat} {s:MS} (hs:bj t c (x.enc c)) (ho:x.ok) (hon:s.on) (h:dD H0 H r tv wv false s) :
 kj M yc [.ptr r 0,.int .i64 ((c+x.sz-1:Nat):Int)] H (DQ H0 H r tv wv false (x.run s)):=by
 have hl:jZ (x.enc c):=λ y hy=>aT y (AH hs y hy);cases x with
 | s x=>exact Ct hn ht x H r c wv false s hs ho (St.bn x c hl) (λ q=>by cases q) hon h
 | l x=>exact FM hn ht x (lN hn ht x) H r c wv false s hs ho (Ls.bn x c λ y hy=>hl y (List.mem_append_left _ hy)) (λ q=>by cases q) hon.2 h
 | e x=>exact hx.elim
 | c x=>exact hx.elim
theorem xb9 {H0 H:AHeap} {tv wv:AV} {t:List Nd} (hn:eT H0 tv t) (ht:t.length<=2000) (aT:jZ t) (x:It) (hx:x.xL) {c r p q:Nat} {s:MS} (hs:bj t c (x.enc c)) (ho:x.ok) (hon:s.on) (h:dD H0 H r tv wv false s)
 (hp:Op.aa [.ptr p 0] H=some (.ptr r 0)) (hq:Op.aa [.ptr q 0] H=some (.int .i64 ((c+x.sz-1:Nat):Int))):kj M zD [.ptr p 0,.ptr q 0] H (DQ H0 H r tv wv false (x.run s)):=by
 refine q28 ?_;simp only [↓qh,qq,reduceIte,reduceEqDiff,q29,hp,hq];refine P3.e (Jy hn ht aT x hx hs ho hon h) (λ v H2 h2=>?_) λ k H2 hx=>?_
 ·simp only [↓qh,qq,reduceIte,reduceEqDiff,iO];exact h2
 ·simp only [↓qh,qq,reduceIte,reduceEqDiff,jA,jF];exact hx
structure IH (H:AHeap) (r:MS) (v':AV) (H':AHeap):Prop where
 ex:∃ w',v'=.tuple [.agg (eK w' r),.int .i64 0]/\iN gO vq 1 H H' w' r.w
 v8:r.v.length=8
 wr:∀ x ∈ r.w,u64 x
 vr:∀ x ∈ r.v,u64 x
 wl:r.w.length<=4096
 fl:r.left+r.aN<=1048576
theorem q4i {v:AV} (h:aD v=true):v.cells=[v]:=by cases v<;>first|rfl|cases h
theorem M5 {w':AV} {r:MS} (h:aD w'=true):bh (eK w' r)=true:=by
 rw [mU,eK,C2,h,aP];simp;exact ⟨λ x _=>rfl,rfl,rfl,rfl,rfl⟩
theorem uo {H:AHeap} {tv wv:AV} {t:List Nd} {ws v:List Int} {n:Int} {F c:Nat} (h:uW H tv t) (hw:cU gO 1 H wv ws) (hv:v.length=8) (hwr:∀ x ∈ ws,u64 x) (hvr:∀ x ∈ v,u64 x) (hmay:rA t ws.length F) (x:It) (hx:x.xL) (hs:bj t c (x.enc c)) (ho:x.ok) (hn:n=((c+x.sz-1:Nat):Int)) :
 ye M tq [tv,.int .i64 n,wv,.agg (aP v),.int .i64 (F:Nat)] H (IH H (x.run ⟨ws,v,F,0,false,0⟩)):=by
 subst hn;have hwl:ws.length<=4096:=hmay.1;have hF:F<=1048576:=by have:=hmay.2.2.1;omega
 have ht:t.length<=2000:=by obtain ⟨p,rfl,_,hz,_⟩:=hmay.2.2.2;rw [Ls.bW];omega
 refine xe7 λ H1 p q r hr=>?_;obtain ⟨-,w2,w10⟩:=qy9 M ⟨none,tq⟩;simp only [↓qh,qq,reduceIte,reduceEqDiff,w2];refine C3.q (q5g (M:=M) (h.em hr.fr) (hw.em hr.fr)) λ v1 H2 ⟨f2,b,hv1,hb⟩=>?_;subst hv1;have hb:=hb.2 hmay;subst hb;have hr2:=hr.em f2;have lp:Op.aa [.ptr p 0] H2=some (.int .i64 ((c+x.sz-1:Nat):Int)):=j8 (qy hr2.gp) 0;have hslt:=bj.lt hs;have hpos:=x.pos;have h1:¬ ((c+x.sz-1:Nat):Int)<0:=by omega
 have hln:=(h.em hr.fr).nd.len;have h2:¬ ((t.length:Nat):Int)<=((c+x.sz-1:Nat):Int):=by omega
 obtain ⟨hnd,-⟩:=bj.nd hs;obtain ⟨ka,_,_,q1,_,q2,_⟩:=(h.em hr2.fr).nd.get hnd;have h3:¬ (x.nd c).k<14:=by
  cases x with
  | s x=>cases x<;>(simp only [It.nd,It.kn];omega)
  | l x=>simp only [It.nd,It.kn];omega
  | e x=>exact hx.elim
  | c x=>exact hx.elim
 have ldq:∀ {Hx:AHeap},Hx.get q=some (OR (aP v) cQ)->Op.au 8 [.ptr q 0] Hx=some (.agg (aP v)):=by
  intro Hx hg;rw [mg (qy hg) (by simp [aP,hv]),xq,xo (by simp [aP,hv])]
 simp only [↓qh,qq,reduceIte,reduceEqDiff,w10,lp,h1,hln,h2,q1,q2,h3,ldq hr2.gq];refine C3.q (qyl (M:=M) ((hw.em hr.fr).em f2) (by omega)) λ w' H3 hw'=>?_;have f3:=hw'.fr;have hr3:=hr2.em f3;have oc:w'.cells=[w']:=q4i hw'.sl.one;have ot:tv.cells=[tv]:=by obtain ⟨zs,_,q,_⟩:=h.nd.ex;exact q4i q.one
 obtain ⟨s0,hs0⟩:∃ s0:MS,s0=⟨ws,v,F,0,false,0⟩:=⟨_,rfl⟩
 have eb1:Op.build tW [(0,1),(1,8),(10,1)] [w',.agg (aP v),.int .i64 (F:Nat)]=some (.agg (w'::(aP v ++ [.int .i64 0,.int .i64 (F:Nat),.int .i64 0,.int .i64 0]))):=by
  match v,hv with
  | [a,b,c,d,e,f,g,i],_=>simp only [DP,Db,CI,oc];rfl
 have eb2:Op.build [.nils,.nils,.int .u64 0,.int .u64 0,.int .u64 0,.int .u64 0,.int .u64 0,.int .u64 0,.int .u64 0,.int .u64 0,.int .i64 0,.int .i64 0,.int .i64 0,.int .i64 0,.bool false,.bool false] [(0,1),(1,13)] [tv,.agg (w'::(aP v ++ [.int .i64 0,.int .i64 (F:Nat),.int .i64 0,.int .i64 0]))]=some (.agg (aG tv w' false s0)):=by
  subst hs0
  match v,hv with
  | [a,b,c,d,e,f,g,i],_=>simp only [DP,Db,CI,ot];rfl
 -- the run
 have lpq:=hr3.lp;have lqr:=hr3.lq;have n23:=f3.next
 have l2r:=hr2.lr;obtain ⟨H4,e4⟩:∃ X,X=H3.alloc (OR (aG tv w' false s0) vt):=⟨_,rfl⟩
 have f4:Fr Em H3 H4:=by rw [e4];exact (Fr.refl H3).alloc _
 have n4:H4.next=H3.next+1:=by rw [e4,xk]
 have g4:H4.get H3.next=some (OR (aG tv w' false s0) vt):=by rw [e4,qp]
 have hst:H4.alloc (OR [AV.nilp] rj)=H4.alloc (OR [AV.nilp] rj):=rfl;have st5:=JK H4 [.nilp] rj 1 (.ptr H3.next 0) rfl rfl rfl;obtain ⟨H5,e5⟩:∃ X,X=H4.alloc (OR [.ptr H3.next 0] rj):=⟨_,rfl⟩
 have st5:Op.store 1 [AV.ptr H4.next 0,AV.ptr H3.next 0] (H4.alloc (OR [AV.nilp] rj))=some (.undef,H5):=by rw [st5,e5];rfl
 have f5:Fr Em H4 H5:=by rw [e5];exact (Fr.refl H4).alloc _
 have n5:H5.next=H4.next+1:=by rw [e5,xk]
 have g5:H5.get H4.next=some (OR [.ptr H3.next 0] rj):=by rw [e5,qp]
 have f25:Fr Em H2 H5:=(f3.trans f4 λ _ q=>q.elim).trans f5 λ _ q=>q.elim;have f05:Fr Em H H5:=hr2.fr.trans f25 λ _ q=>q.elim;have n02:=hr2.fr.next
 have h5:dD H H5 H3.next tv w' false s0:=by
  subst hs0;exact ⟨by rw [f5.aj _ (by omega) id];exact g4,by omega,by omega,⟨Own.em (Own.em hw'.own f4) f5,f05,λ b hb=>by have:=hw'.fresh b hb;omega⟩,λ q=>by have:=Own.lt hw'.own _ q;omega,hv,hwl,hwr,hvr,by simp only;omega⟩
 have hr5:=hr2.em f25;have lr5:∀ {Hx:AHeap} {b e:Nat} {row:List AV} (o:Nat),Hx.get b=some (OR row e)->Op.aa [.ptr b o] Hx=row[o]?:=λ o hg=>j8 (qy hg) o;have mf:Op.bm zD 0 [.ptr H4.next 0,.ptr p 0]=some (.fn (.func zD) [] [.ptr H4.next 0,.ptr p 0]):=rfl;have eb1':Op.build [.nils,.int .u64 0,.int .u64 0,.int .u64 0,.int .u64 0,.int .u64 0,.int .u64 0,.int .u64 0,.int .u64 0,.int .i64 0,.int .i64 0,.int .i64 0,.int .i64 0] [(0,1),(1,8),(10,1)] [w',.agg (aP v),.int .i64 (F:Nat)]=_:=eb1;simp only [↓qh,qq,reduceIte,reduceEqDiff,ldq hr3.gq,eb1',eb2,z7,<-e4,st5,lr5 _ g5,lr5 _ hr5.gp,mf]
 -- the statement,up to where it stops
 have f6:Fr Em H5 (H5.alloc (OR [.int .i64 0] yt)):=(Fr.refl H5).alloc _;have h6:=h5.em f6;have c6:=Lc.new h5 [.int .i64 0] yt;have n6:(H5.alloc (OR [.int .i64 0] yt)).next=H5.next+1:=xk ..
 have hr6:=hr5.em f6;have g6:(H5.alloc (OR [.int .i64 0] yt)).get H4.next=some (OR [.ptr H3.next 0] rj):=by rw [rN (by omega)];exact g5
 have hstep:=xb9 (M:=M) h.nd ht h.hi x hx (p:=H4.next) (q:=p) hs ho (by subst hs0;exact ⟨rfl,rfl⟩) h6 (lr5 0 g6) (lr5 0 hr6.gp);rw [hs0] at hstep;generalize hfin:x.run ⟨ws,v,F,0,false,0⟩=fin at *;have htry:=q9p (M:=M) (g:=zD) (first:=[]) (cap:=[.ptr H4.next 0,.ptr p 0]) (rv:=.ptr H3.next 0) (H:=H5) (P:=λ k Hx=>k=fin.err /\ ∃ w2 a2,dD H Hx H3.next tv w2 a2 fin/\Fr (MW H3.next w') (H5.alloc (OR [.int .i64 0] yt)) Hx /\ ∀ b,bL w2 b->bL w' b\/(H5.alloc (OR [.int .i64 0] yt)).next<=b) (by
  obtain ⟨e,Hx,q1,q2⟩:=hstep;refine ⟨e,Hx,q1,?_⟩;cases e with
  | ret v=>exact .inl ⟨⟨v,rfl⟩,(c6.mv q2.2.2).get,(c6.mv q2.2.2).lt,q2.1.symm,w',false,q2.2.1,q2.2.2,λ b hb=>.inl hb⟩
  | panic c =>
   obtain ⟨k,rfl,q2⟩:=q2;obtain ⟨q1,_,wv',a',q4,q3,q5⟩:=q2;exact .inr ⟨k,rfl,(c6.mv q3).get,(c6.mv q3).lt,q1.symm,wv',a',q4,q3,q5⟩)
 refine C3.q htry λ v2 H8 ⟨k,H7,hv2,⟨hk,w2,a2,h7,f7,hon7⟩,f8⟩=>?_;subst hv2;subst hk;have hold:∀ b,b<H2.next -> ¬ bL w2 b:=λ b hb q=>(hon7 b q).elim (λ q=>by have:=hw'.fresh b q;omega) λ q=>by omega
 have h8:dD H H8 H3.next tv w2 a2 fin:=h7.only f8 (by omega) (λ q=>(hon7 _ q).elim (λ q=>by have:=Own.lt h5.nw.own _ q;omega) λ q=>by omega) (by omega)
 have n67:=f7.next
 have n78:=f8.next
 have aj:∀ b row e,b<H2.next\/b=H4.next->(H5.alloc (OR [.int .i64 0] yt)).get b=some (OR row e)->H8.get b=some (OR row e):=λ b row e hb hg=>by
  have q1:¬ MW H3.next w' b:=λ q=>by
   rcases q with q|q
   ·omega
   ·have:=hw'.fresh b q;have:=Own.lt hw'.own b q;omega
  rw [f8.aj b (by omega) (by omega),f7.aj b (by omega) q1];exact hg
 have g8:=aj _ _ _ (.inr rfl) g6;have gr8:=aj _ _ _ (.inl hr2.lr) hr6.gr
 -- the error goes in,the end comes out
 have st9:=y9 h8.row (o:=13) (n:=1) (v:=.int .i64 (fin.err:Nat)) rfl (by simp [aG,aP,h8.v8]) rfl;have ce:(aG tv w2 a2 fin).take 13++(AV.int .i64 (fin.err:Nat)).cells++(aG tv w2 a2 fin).drop (13+1)=tv::(eK w2 fin ++ [.bool a2,.bool fin.aT]):=by
  obtain ⟨v0,v1,v2,v3,v4,v5,v6,v7,e⟩:=rC (tv:=tv) (wv:=w2) (a:=a2) h8.v8;unfold aG eK aP;simp only [e];rfl
 rw [ce] at st9;obtain ⟨H9,e9⟩:∃ X,X=H8.set H3.next (OR (tv::(eK w2 fin ++ [.bool a2,.bool fin.aT])) vt):=⟨_,rfl⟩
 have f9:Fr (λ x=>x=H3.next) H8 H9:=by rw [e9];exact (Fr.refl H8).set (W:=λ x=>x=H3.next) (.inl rfl) _
 have g9:H9.get H3.next=some (OR (tv::(eK w2 fin ++ [.bool a2,.bool fin.aT])) vt):=by rw [e9];exact xd ..
 rw [<-e9] at st9;have g9p:H9.get H4.next=some (OR [.ptr H3.next 0] rj):=by rw [f9.aj _ (by omega) (by omega)];exact g8
 have gr9:H9.get r=some (OR tW jh):=by rw [f9.aj _ (by omega) (by omega)];exact gr8
 have hel:(eK w2 fin).length=13:=by simp [eK,aP,h8.v8]
 have ld9:Op.au 13 [.ptr H3.next 1] H9=some (.agg (eK w2 fin)):=by
  rw [mg (qy g9) (by simp [hel]),zm,xq,List.take_left' hel]
 have o2:=h8.nw.sl.one;have st10:=y9 gr9 (o:=0) (n:=13) (v:=.agg (eK w2 fin)) hel (by simp) (by
  rw [z7];exact M5 o2)
 have ce2:tW.take 0++(AV.agg (eK w2 fin)).cells++tW.drop (0+13)=eK w2 fin:=by rw [z7];simp
 rw [ce2] at st10;have ld10:Op.au 13 [.ptr r 0] (H9.set r (OR (eK w2 fin) jh))=some (.agg (eK w2 fin)):=by
  rw [mg (qy (xd ..)) (by omega),xq,xo (by omega)]
 simp only [↓qh,qq,reduceIte,reduceEqDiff,lr5 _ g8,lr5 _ g9p,qi,st9,ld9,st10,ld10];have f10:Fr (λ x=>x=r) H9 (H9.set r (OR (eK w2 fin) jh)):=(Fr.refl H9).set (W:=λ x=>x=r) (.inl rfl) _;refine ⟨⟨w2,rfl,⟨Own.fr (Own.fr h8.nw.own f9 λ x hx q=>h8.off (by subst q;exact hx)) f10 λ x hx q=>hold r hr2.lr (by subst q;exact hx),?_,h8.nw.fresh⟩⟩,h8.v8,h8.wr,h8.vr,h8.wl,h8.fl⟩;exact (h8.nw.fr.trans f9 λ x hx=>.inr (by omega)).trans f10 λ x hx=>.inr (by omega)
theorem xJ {H:AHeap} {tv wv:AV} {t:List Nd} {v:List Int} {fuel:Int} {Q:AV->AHeap->Prop} (hn:eT H tv t) (ht:t.length<=140737488355328) (hv:v.length=8)
 (h:∀ H1,Fr Em H H1->ye M tq [tv,.int .i64 ((t.length:Nat)-1:Int),wv,.agg (aP v),.int .i64 fuel] H1 λ v' H2=>Fr Em H1 H2 /\ ∃ l e,v'=.tuple [.agg l,.int .i64 e]/\l.length=13/\bh l=true /\ ∀ H3,Fr (λ x=>H.next<=x/\x<H1.next) H2 H3->Q (.tuple [.agg l,.int .i64 e]) H3) :
 ye M ER [tv,wv,.agg (aP v),.int .i64 fuel] H Q:=by
 refine xbi ?_;obtain ⟨H1,e1⟩:∃ X,X=H.alloc (OR (aP v) cQ):=⟨_,rfl⟩
 obtain ⟨H2,e2⟩:∃ X,X=H1.alloc (OR tW jh):=⟨_,rfl⟩
 have n1:H1.next=H.next+1:=by rw [e1,xk]
 have n2:H2.next=H1.next+1:=by rw [e2,xk]
 have f2:Fr Em H H2:=by rw [e2,e1];exact ((Fr.refl H).alloc _).alloc _
 have g1:H2.get H.next=some (OR (aP v) cQ):=by rw [e2,rN (by omega),e1,qp]
 have g2:H2.get H1.next=some (OR tW jh):=by rw [e2,qp]
 have wl:ae .i64 (((t.length:Nat):Int)-1)=((t.length:Nat):Int)-1:=zk (by omega) (by omega);have ld:Op.au 8 [.ptr H.next 0] H2=some (.agg (aP v)):=by
  rw [mg (qy g1) (by simp [aP,hv]),xq,xo (by simp [aP,hv])]
 simp only [↓qh,qq,reduceIte,reduceEqDiff,q1n,z7,<-e1,<-e2,hn.len,wl,ld];refine C3.q (h H2 f2) λ v' H3 ⟨f3,l,e,hv',hl,ho,hq⟩=>?_;subst hv';have g3:H3.get H1.next=some (OR tW jh):=by rw [f3.aj _ (by omega) id];exact g2
 have st:=y9 g3 (o:=0) (n:=13) (v:=.agg l) hl (by simp) (by rw [z7];exact ho);have ce2:tW.take 0++(AV.agg l).cells++tW.drop (0+13)=l:=by rw [z7];simp
 rw [ce2] at st;have ld10:Op.au 13 [.ptr H1.next 0] (H3.set H1.next (OR l jh))=some (.agg l):=by
  rw [mg (qy (xd ..)) (by omega),xq,xo (by omega)]
 simp only [↓qh,qq,reduceIte,reduceEqDiff,q1n,EN,Ed,st,ld10];exact hq _ ((Fr.refl H3).set (W:=λ x=>H.next<=x/\x<H2.next) (.inl ⟨by omega,by omega⟩) _)
theorem wG.of {t:List Nd} {n:Nat} {fuel:Int} (h:wG t (((t.length:Nat):Int)-1) n fuel):rA t n fuel:=h.1
theorem zB {H:AHeap} {tv wv:AV} {t:List Nd} {ws v:List Int} {F:Nat} (h:uW H tv t) (hw:cU gO 1 H wv ws) (hv:v.length=8) (hwr:∀ x ∈ ws,u64 x) (hvr:∀ x ∈ v,u64 x) (hmay:rA t ws.length F) {p:Ls} (hp:t=p.cu 0) (ho:p.ok) :
 ye M ER [tv,wv,.agg (aP v),.int .i64 (F:Nat)] H (IH H (p.run false ⟨ws,v,F,0,false,0⟩)):=by
 subst hp;have ht:(p.cu 0).length<=2000:=by obtain ⟨p',e,_,hz,_⟩:=hmay.2.2.2;rw [e,Ls.bW];omega
 refine xJ h.nd (by omega) hv λ H1 f1=>?_;have hsz:(It.l p).sz=p.sz+1:=rfl;refine (uo (M:=M) (h.em f1) (hw.em f1) hv hwr hvr hmay (.l p) trivial (c:=0) (bj.all _) ho (by rw [Ls.bW,hsz];omega)).mono λ v' H2 hq=>?_;obtain ⟨w',hv',hw'⟩:=hq.ex;refine ⟨hw'.fr,_,_,hv',by simp [eK,aP,hq.v8],M5 hw'.sl.one,λ H3 f3=>⟨⟨w',rfl,Own.fr hw'.own f3 (λ x hx q=>by have:=hw'.fresh x hx;omega),?_,λ b hb=>xz f1.next (hw'.fresh b hb)⟩,hq.v8,hq.wr,hq.vr,hq.wl,hq.fl⟩⟩;exact (f1.trans hw'.fr λ _ q=>q.elim).trans f3 λ x hx=>.inr hx.1
end Go.Am
