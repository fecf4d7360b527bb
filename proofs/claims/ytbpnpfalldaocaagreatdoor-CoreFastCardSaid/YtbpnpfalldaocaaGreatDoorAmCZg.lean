import Derived.Test.YtbpnpfalldaocaaGreatDoorAmCZf
import Derived.Test.YtbpnpfalldaocaaGreatDoorAmCZe
set_option linter.defProp false
set_option linter.unusedVariables false
set_option linter.unusedSimpArgs false
set_option linter.unusedSectionVars false
set_option maxRecDepth 100000
open Bool renaming false→B2,true→B4
open False renaming elim→Ja
open List renaming range→Ig,replicate→Fh
open Nat renaming beq→FW,blt→KI
open Option renaming none→B5,some→B1
open Nat renaming reduceEqDiff→bc
namespace Go.Am
open Go.Proofs Ca
variable{M:ak}[MK M]
abbrev uW(x:Int):AV:=.int .u64 x
def aD(e:En):List AV:=.int .i64 e.line::.int .i64 e.st::.bool e.r::.bool e.w::(e.d.l.map uW++(e.o.l.map uW ++ [.int .i64 e.u]))
theorem jc(e:En):(aD e).length=21:=by simp[aD,e.d.h,e.o.h]
def wI(e:En):aP (aD e)=true:=by
 rw[ym];unfold aD;simp[aC]
def JL{H:ar}{s e:Nat}{a:AV}(h:H.get s=B1 (OR [a] e)){u:AV}(hu:aC u=B4):Op.store 1 [.ptr s 0,u] H=B1 (.undef,H.set s (OR [u] e)):=by
 have d:u.cells=[u]:=by cases u<;>first|rfl|cases hu
 have:=ta h (o:=0) (n:=1) (v:=u) (by rw[d];rfl) (by simp) (by rw[d,ym];simpa using hu);rw[this,d];rfl
def K9(b:ai)(Q:aE)(E:Env)(D:List aK)(H:ar):jO b Q .normal E D H=Q .normal E D H:=rfl
def B6(b:ai)(Q:aE)(E:Env)(D:List aK)(H:ar):jO b Q .ret E D H=Q .ret E D H:=rfl
def CA(c:Ca)(sv:AV):List AV:=[.int .i64 (c.cu:Int),.int .i64 (c.ways:Int),sv,.int .i64 c.us]
abbrev eA(sv:AV)(i:Nat):AV:=.ptr (aG sv) (cw 21 sv i)
structure dF(H:ar)(b:Nat)(sv:AV)(c:Ca):Prop where
 row:H.get b=B1 (OR (CA c sv) R6)
 lt:b<H.au
 sl:fU aD xe 21 H sv c.sl
 ne:aG sv≠b
 s8:c.cu<=8
 w4:c.ways<=4
 us:0<=c.us/\c.us<=1000000
def dF.em{H H':ar}{b:Nat}{sv:AV}{c:Ca}(h:dF H b sv c)(f:Fr Em H H'):dF H' b sv c:=⟨by rw[f.ah _ h.lt id];exact h.row,qj h.lt f.au,h.sl.fr f id,h.ne,h.s8,h.w4,h.us⟩
def dF.fr{H H':ar}{W:Nat->Prop}{b:Nat}{sv:AV}{c:Ca}(h:dF H b sv c)(f:Fr W H H')(a:¬W b)(d:¬W (aG sv)):dF H' b sv c:=⟨by rw[f.ah _ h.lt a];exact h.row,qj h.lt f.au,h.sl.fr f d,h.ne,h.s8,h.w4,h.us⟩
def dF.ix{H:ar}{b:Nat}{sv:AV}{c:Ca}(h:dF H b sv c){i:Nat}(a:i<c.sl.length):Op.aN 21 [sv,.int .i64 (i:Int)]=B1 (eA sv i):=(h.sl.sl jc).idx (C0 a) rfl .i64
def dF.ld{H:ar}{b:Nat}{sv:AV}{c:Ca}(h:dF H b sv c){i:Nat}(a:i<c.sl.length){k:Nat}(hk:k<21):Op.ae [.ptr (aG sv) (cw 21 sv i+k)] H=(aD (c.en i))[k]?:=(h.sl.sl jc).ae jc (C0 a) hk
def dF.uE{H:ar}{b:Nat}{sv:AV}{c:Ca}(h:dF H b sv c){i:Nat}(a:i<c.sl.length):Op.ae [.ptr (aG sv) (cw 21 sv i)] H=B1 (.int .i64 (c.en i).line):=(h.sl.sl jc).nj jc (C0 a) (by decide)
def kw(b o:Nat)(H:ar):Op.eq .ptr B2 [.ptr b o,.nilp] H=B1 (.bool B2):=rfl
def jV(b o:Nat)(H:ar):Op.eq .ptr B4 [.ptr b o,.nilp] H=B1 (.bool B4):=rfl
def JZ(H:ar):Op.eq .ptr B2 [.nilp,.nilp] H=B1 (.bool B4):=rfl
def rM(H:ar):Op.eq .ptr B4 [.nilp,.nilp] H=B1 (.bool B2):=rfl
def Jp(R:Nat->(Nat->Prop)->ar->Prop)(S:(Nat->Prop)->ar->Prop)(W0 O:Nat->Prop)(H:ar)(n:Nat)(v:AV)(H':ar):Prop:=∃W':Nat->Prop,Fr (λ b=>W0 b\/O b) H H'/\(∀b,W' b->b<H'.au/\(W0 b\/H.au<=b))/\(R n W' H'\/S W' H')
def nR(c:Ca)(sv:AV)(line:Int):List (List AV):=if line<0 then[]else(Ig c.ways).map λ k=>[eA sv (c.fr line+k)]
structure JU(R:Nat->(Nat->Prop)->ar->Prop)(W0:Nat->Prop)(H1 Hx:ar)(i:Nat)(V:Nat->Prop):Prop where
 hR:R i V Hx
 hV:∀b,V b->b<Hx.au/\(W0 b\/H1.au<=b)
 fr:Fr W0 H1 Hx
def mu{H0:ar}{p q b:Nat}{sv:AV}{c:Ca}{lines line:Int}(o:dF H0 b sv c)(e:CI lines c)(hp:H0.get p=B1 (OR [.ptr b 0] ww))(hq:H0.get q=B1 (OR [.int .i64 line] cM))(hpl:p<H0.au)(hql:q<H0.au) :
 sk M Kg [] [.ptr p 0,.ptr q 0] (λ x=>x=p\/x=q\/x=b) (λ _=>False) H0 (nR c sv line):=by
 intro Y R S d H1 hnx y z U loc K step;have⟨p1,p2,p3⟩:=y p (.inl (.inl rfl));have⟨q1,N,O⟩:=y q (.inl (.inr (.inl rfl)));have⟨b1,P,Q⟩:=y b (.inl (.inr (.inr rfl)))
 suffices h:xz M Kg [.fn (.yield Y) [] [],.ptr p 0,.ptr q 0] H1 (Jp R S d (λ _=>False) H1 (nR c sv line).length)by
  have⟨v,H',o,W',q1,N,O⟩:=h.elim
  grind
 refine qvw ?_;obtain⟨w0,w6,s,D,F⟩:=qvx M ⟨B5,Kg⟩;have lp:∀{a:ar},Fr d H1 a->Op.ae [.ptr p 0] a=B1 (.ptr b 0):=λ f=>by rw[xv (qt (by rw[f.ah _ (by omega) p3,p2];exact hp))];rfl
 have L:∀{a:ar},Fr d H1 a->Op.ae [.ptr q 0] a=B1 (.int .i64 line):=λ f=>by rw[xv (qt (by rw[f.ah _ (by omega) O,N];exact hq))];rfl
 have lb:∀{a:ar}(k:Nat),Fr d H1 a->Op.ae [.ptr b k] a=(CA c sv)[k]?:=λ k f=>xv (qt (by rw[f.ah _ (by omega) Q,P];exact o.row)) k;have g:=Fr.refl (W:=d) H1
 by_cases hl:line<0
 .simp only[aa,bc,w0,lp g,kw,L g,hl];exact⟨d,Fr.refl _,λ b hb=>(by grind),(by simp_all[nR])⟩
 have C:(nR c sv line)=(Ig c.ways).map λ k=>[eA sv (c.fr line+k)]:=by simp_all[nR,qn]
 rw[C]at step⊢;rw[zj,j4];have l0:Op.ae [.ptr b 0] H1=B1 (.int .i64 (c.cu:Int)):=lb 0 g;have l1:Op.ae [.ptr b 1] H1=B1 (.int .i64 (c.ways:Int)):=lb 1 g;have rm:Op.bin .rem [.int .i64 line,.int .i64 (c.cu:Int)]=B1 (.int .i64 ((line.toNat % c.cu:Nat):Int)):=by
  have:=e.s0
  grind [rA]
 have J:line.toNat % c.cu<c.cu:=Nat.mod_lt _ e.s0;have h8:=o.s8;have T:=o.w4;have A:(line.toNat % c.cu)*c.ways<=7*4:=Nat.mul_le_mul (by omega) T;have wm:aj .i64 (((line.toNat % c.cu:Nat):Int)*(c.ways:Int))=((c.fr line:Nat):Int):=by
  rw[<-Int.natCast_mul];exact jr (by omega) (by omega)
 have I:c.fr line<=28:=A;simp only[aa,bc,w0,lp g,kw,qk,L g,hl,w6,l0,l1,rm,wm];refine dA.intro (λ n E a=>∃(i:Nat)(V:Nat->Prop),E=[(27,.int .i64 (i:Int)),(26,.int .i64 (c.ways:Int)),(4,.int .i64 ((c.fr line:Nat):Int)),(0,.fn (.yield Y) [] []),(1,.ptr p 0)]/\n=c.ways-i/\i<=c.ways/\JU R d H1 a i V) ?_ ?_
 .exact ⟨_,_,⟨0,d,rfl,rfl,xu _,⟨z,λ b hb=>(by grind),Fr.refl _⟩⟩,by simp only[aa,bc]⟩
 rintro n E a ⟨i,V,rfl,rfl,hi,hI⟩;rcases xp i c.ways with r|Z
 .have u:(i:Int)<(c.ways:Int):=by omega
  have l2:Op.ae [.ptr b 2] a=B1 sv:=lb 2 hI.fr;have wi:aj .i64 (((c.fr line:Nat):Int)+(i:Int))=((c.fr line+i:Nat):Int):=by grind [jr]
  have ix:=o.ix (e.gI line r);have⟨bb,G,t,hr,X,m,ht,hs⟩:=step i [eA sv (c.fr line+i)] (by rw[xr,yj r];rfl) V a hI.hR hI.hV (hI.fr.mono λ _ _ q=>.inl q);have j:Fr d H1 G:=hI.fr.trans X λ b q=>(hI.hV b q).2;have l:∀b,t b->b<G.au/\(d b\/H1.au<=b):=λ b q=>⟨(m b q).1,(m b q).2.elim (λ w=>(hI.hV b w).2) λ w=>.inr (xm hI.fr.au w)⟩
  have wj:aj .i64 ((i:Int)+1)=((i+1:Nat):Int):=by rw[jr (by omega) (by omega)];omega
  simp only[aa,bc,s,u,D,lp hI.fr,qk,l2,wi,ix];refine C3.vM hr ?_;cases bb with
  |true =>
   simp only[aa,bc,F,wj];exact⟨_,_,⟨i+1,t,rfl,rfl,by omega,⟨ht rfl,l,j⟩⟩,by simp only[aa,bc],by omega⟩
  |false =>
   simp only[aa,bc];exact⟨t,j.mono λ _ _ q=>.inl q,l,.inr (hs rfl)⟩
 .have u:¬(i:Int)<(c.ways:Int):=by omega
  have B:i=c.ways:=by omega
  simp only[aa,bc,s,u];exact⟨V,hI.fr.mono λ _ _ q=>.inl q,hI.hV,.inl (by rw[<-B];exact hI.hR)⟩
def WS{H:ar}(b:Nat)(line:Int):xz M Xj [.ptr b 0,.int .i64 line] H λ v H'=>v=.fn (.func Kg) [] [.ptr H.au 0,.ptr (H.au+1) 0]/\H'=(H.alloc (OR [.ptr b 0] ww)).alloc (OR [.int .i64 line] cM):=by
 refine _K ?_;obtain⟨H1,a,-,n1,-⟩:=de H (OR [.ptr b 0] ww);simp_all[aa,q2j]
structure hY(c:Ca)(line:Int)(t:Nat)(i:Nat)(V:Nat->Prop)(Hx:ar):Prop where
 vt:V t
 g:Hx.get t=B1 (OR [.nilp] jq)
 lt:t<Hx.au
 no:∀k,k<i->c.mK line k=B2
structure D1(c:Ca)(sv:AV)(line:Int)(t:Nat)(V:Nat->Prop)(Hx:ar):Prop where
 vt:V t
 ex:∃k,k<c.ways/\cY (c.mK line) c.ways=B1 k/\Hx.get t=B1 (OR [eA sv (c.fr line+k)] jq)
 lt:t<Hx.au
def sL(c:Ca)(sv:AV)(line:Int):AV:=match c.pos line with
 |none=>.nilp
 |some i=>eA sv i
def Qq{H:ar}{b:Nat}{sv:AV}{c:Ca}{lines line:Int}(Z:dF H b sv c)(p:CI lines c):xz M JW [.ptr b 0,.int .i64 line] H λ v H'=>v=sL c sv line/\Fr Em H H':=by
 refine q45 ?_;have⟨w0,wa,P,w2,w7⟩:=qc M ⟨B5,JW⟩;obtain⟨H1,e1,f1,n1,-⟩:=de H (OR [.int .i64 line] cM);obtain⟨m,e2,D,-,-⟩:=de H1 (OR [.nilp] jq);have f2:Fr Em H m:=f1.trans D λ _ q=>q.elim;have n2:m.au=H.au+2:=by grind [xt]
 have U:m.get H.au=B1 (OR [.int .i64 line] cM):=by rw[D.ah _ (by omega) id,e1,xf]
 have g2:m.get (H.au+1)=B1 (OR [.nilp] jq):=by grind [xf]
 have cl:AV.cells (.int .i64 line)=[.int .i64 line]:=rfl;have l1:Op.ae [.ptr H.au 0] m=B1 (.int .i64 line):=xv (qt U) 0;simp only[aa,bc,w0,cl,<-e1,<-e2,n1,w2,l1];refine C3.q (WS b line) λ v H5⟨hv,hh⟩=>?_;obtain⟨H3,e3,R,-,-⟩:=de m (OR [.ptr b 0] ww);obtain⟨C,e4,E,-,-⟩:=de H3 (OR [.int .i64 line] cM);rw[<-e3,<-e4]at hh;rw[hv,hh];have n:Fr Em m C:=R.trans E λ _ q=>q.elim;have S:Fr Em H C:=f2.trans n λ _ q=>q.elim;have n3:H3.au=H.au+3:=by grind [xt]
 have n4:C.au=H.au+4:=by grind [xt]
 have g3:C.get m.au=B1 (OR [.ptr b 0] ww):=by rw[E.ah _ (by omega) id,e3,xf]
 have g4:C.get (m.au+1)=B1 (OR [.int .i64 line] cM):=by grind [xf]
 have F:=Z.em S;have hlt:=Z.lt;have hsb:aG sv<H.au:=Z.sl.lt;have kp:∀{j:ar},Fr (λ x=>(x=H.au+1)\/False) C j->dF j b sv c/\Op.ae [.ptr H.au 0] j=B1 (.int .i64 line):=λ f =>
  ⟨F.fr f (by grind) (by grind),xv (qt (by rw[f.ah H.au (by omega) (by grind),n.ah _ (by omega) id];exact U)) 0⟩
 have res:∀{d:Nat}{j:ar}{x:AV},j.get (H.au+1)=B1 (OR [x] jq)->d≠H.au+1->Op.ae [.ptr (H.au+1) 0] (j.set d (.deferred B5))=B1 x:=λ g hd=>by
  rw[xv (qt (by rw[jx hd];exact g))];rfl
 refine iL.iter (fn:=Oi) (lp:=Lj) (pa:=QE 0) (pb:=QF 0) q2h Xu.1 Xu.2 (by decide) b_ q0c
  (mu F p g3 g4 (by omega) (by omega)) (λ i V j=>hY c line (H.au+1) i V j) (λ e V j=>e=.ret/\D1 c sv line (H.au+1) V j) (λ x=>x=H.au+1) (qg _) ?_ ?_ ?_ ?_ ?_ ?_ ?_ ?_
 .grind
 .omega
 .exact ⟨rfl,by rw[n.ah _ (by omega) id];exact g2,by omega,λ k hk=>by omega⟩
 .exact λ i V Ha Hb h hs hn=>⟨h.vt,by rw[hs _ h.vt];exact h.g,qj h.lt hn,h.no⟩
 .rintro e V Ha Hb ⟨he,h⟩ hs hn;have⟨k,k1,O,k3⟩:=h.ex;exact⟨he,h.vt,⟨k,k1,O,by rw[hs _ h.vt];exact k3⟩,qj h.lt hn⟩
 .intro a i lr lb x N hL2 V l o hV G hnL hL6 hgL;unfold nR at N;split at N
  .grind
  rename_i hl;rw[xr,xh]at N;obtain⟨y,hy,rfl⟩:=N;have r:i<c.ways:=by grind
  rw[yj r]at hy;cases hy;refine⟨_,rfl,?_⟩;obtain⟨-,wa,P,-⟩:=qc M ⟨B1 a,JW⟩;simp only[aa,bc,wa,DQ];refine⟨hgL,?_⟩;have T:Fr (On a) l (l.set a lb):=(Fr.refl l).set (W:=On a) (.inl rfl) _;have gL:(l.set a lb).get a=B1 lb:=xb ..;have nL:(l.set a lb).au=l.au:=rfl;have⟨hc6,lq6⟩:=kp G;have h7:dF (l.set a lb) b sv c:=hc6.fr T (λ(q:b=a)=>by omega) (λ(q:aG sv=a)=>by omega);have K:Op.ae [.ptr H.au 0] (l.set a lb)=B1 (.int .i64 line):=by
   have hg:(l.set a lb).get H.au=l.get H.au:=by grind [jx]
   exact xv (qt (by rw[hg,G.ah H.au (by omega) (by grind),n.ah _ (by omega) id];exact U)) 0
  have X:a≠H.au+1:=λ q=>(by omega)
  have J:(l.set a lb).get (H.au+1)=B1 (OR [.nilp] jq):=by rw[jx X];exact o.g
  generalize l.set a lb=H7 at *;have hi:=p.gI line r;obtain⟨e,he⟩:∃e,e=c.en (c.fr line+i):=⟨_,rfl⟩
  have l0:Op.ae [.ptr (aG sv) (cw 21 sv (c.fr line+i))] H7=B1 (.int .i64 e.line):=by rw[he];exact h7.uE hi
  have l1:Op.ae [.ptr (aG sv) (cw 21 sv (c.fr line+i)+1)] H7=B1 (.int .i64 e.st):=by rw[he];exact h7.ld hi (k:=1) (by decide)
  have s:c.mK line i=(e.st != 0 && e.line == line):=by rw[he];rfl
  have stay:c.mK line i=B2->M9 (λ V j=>hY c line (H.au+1) (i+1) V j) (λ e V j=>e=.ret/\D1 c sv line (H.au+1) V j) a lb V l .normal [] [] H7:=λ hh =>
   ⟨rfl,gL,V,λ b hb=>(by grind),T.mono λ x _ q=>.inr q,.inl ⟨rfl,o.vt,J,by omega,λ k hk=>by
    by_cases q:k=i
    .grind
    .exact o.no k (by omega)⟩⟩
  by_cases L:e.st=0
  .simp only[aa,bc,P,qk,l1,qr L];exact stay (by rw[s,L];rfl)
  by_cases B:e.line=line
  .have st:=JL J (u:=eA sv (c.fr line+i)) rfl;simp only[aa,bc,P,qk,l1,L,l0,K,qr B,st];refine⟨rfl,?_,V,?_,?_,.inr ⟨trivial,rfl,o.vt,⟨i,r,Ji r (by grind) o.no,xb ..⟩,?_⟩⟩
   .simp_all [jx,pT]
   .exact λ b hb=>⟨by show b<H7.au;grind,.inl hb⟩
   .exact (T.mono λ x _ q=>.inr q).set (.inl (.inl o.vt)) _
   .show H.au+1<H7.au;omega
  .simp only[aa,bc,P,qk,l1,L,l0,K,B];exact stay (by rw[s];simp[B])
 .intro d V Q hd1 hd2 I z Y o;have st:=JL o.g (u:=.nilp) rfl;have w:d≠H.au+1:=λ q=>by omega
  have gd:(Q.set (H.au+1) (OR [.nilp] jq)).get d=B1 (.deferred (B1 [])):=by simp_all[jx,pT]
  have rd:=res (d:=d) (xb Q (H.au+1) (OR [.nilp] jq)) w;have t:c.pos line=none:=by
   unfold Ca.pos;split
   .rfl
   .rename_i hl;have A:=o.no;unfold nR at A;rw[qn hl,zj,j4]at A;rw[IX A];rfl
  simp only[aa,bc,w7,st,Gd,rd];refine⟨gd,?_,?_⟩
  .grind [sL]
  .exact (((S.trans (W':=λ x=>x=H.au+1\/False) z λ x q=>(by grind)).set (by omega) _).set (by omega) _)
 .rintro e d V Q hj hd1 hd2 I z Y ⟨he,hS⟩;subst he;have⟨k,k1,O,k3⟩:=hS.ex;have w:d≠H.au+1:=λ q=>by omega
  have rd:=res (d:=d) k3 w;have t:sL c sv line=eA sv (c.fr line+k):=by
   unfold sL Ca.pos
   by_cases hl:line<0
   .exfalso;obtain⟨L,B,-⟩:=Fp O;unfold Ca.mK at B;simp only[xq,bne_iff_ne,ne_eq,beq_iff_eq]at B;have:=(p.ok _ (p.gI line k1) B.1).2.1;omega
   .rw [qn hl,O];rfl
  simp only[aa,bc,Gd,rd];refine⟨I,t.symm,?_⟩;exact((S.trans (W':=λ x=>x=H.au+1\/False) z λ x q=>(by grind)).set (.inr (by omega)) _)
end Go.Am
namespace Go.Am
open Go.Proofs Ca
variable{M:ak}[MK M]
def ir{H:ar}{b e n:Nat}{l x:List AV}(h:H.get b=B1 (OR l e))(hl:l.length=n)(d:x.length=n)(a:aP x=B4):Op.store n [.ptr b 0,.agg x] H=B1 (.undef,H.set b (OR x e)):=by
 have st:=ta h (o:=0) (n:=n) (v:=.agg x) (by rw[zb];exact d) (by omega) (by rw[zb];exact a);rw[st,zb,yn,jh,jd (by omega),zu]
def gn{H:ar}{b e n:Nat}{l:List AV}(h:H.get b=B1 (OR l e))(hl:l.length=n):Op.av n [.ptr b 0] H=B1 (.agg l):=by
 rw[sf (qt h) (by omega),kq,zh (by omega)]
def Ee(l:List AV):Op.build l [] []=B1 (.agg l):=rfl
def eZ:[AV.int .i64 0,.int .i64 0,.bool B2,.bool B2,.int .u64 0,.int .u64 0,.int .u64 0,.int .u64 0,.int .u64 0,.int .u64 0,.int .u64 0,.int .u64 0,.int .u64 0,.int .u64 0,.int .u64 0,.int .u64 0,.int .u64 0,.int .u64 0,.int .u64 0,.int .u64 0,.int .i64 0]=aD .zero:=rfl
abbrev dO(d:L8):List AV:=d.l.map uW
theorem yp(d:L8):(dO d).length=8:=by simp[dO,d.h]
theorem vN(d:L8):aP (dO d)=true:=by simp_all[ym,aC]
def lZ:[AV.int .u64 0,.int .u64 0,.int .u64 0,.int .u64 0,.int .u64 0,.int .u64 0,.int .u64 0,.int .u64 0]=dO .zero:=rfl
def lV(b:Nat)(sv:AV):Nat->Prop:=λ x=>x=b\/x=aG sv
section
variable{H:ar}{b:Nat}{sv:AV}{c:Ca}{lines line:Int}
theorem dF.set(h:dF H b sv c){i:Nat}{e:En}{H':ar}(hs:fU aD xe 21 H' sv (c.sl.set i e))(f:Fr (On (aG sv)) H H'):dF H' b sv (c.set i e) :=
 ⟨by rw[f.ah _ h.lt (λ q:b=aG sv=>h.ne q.symm)];exact h.row,qj h.lt f.au,hs,h.ne,h.s8,h.w4,h.us⟩
def dF.cQ(h:dF H b sv c){i:Nat}(g:i<c.sl.length){j:Nat}(k:j<21){u:AV}(hu:aC u=B4){e:En}(he:aD e=(aD (c.en i)).set j u):∃H',Op.store 1 [.ptr (aG sv) (cw 21 sv i+j),u] H=B1 (.undef,H')/\dF H' b sv (c.set i e)/\Fr (On (aG sv)) H H':=by
 have⟨H',d,f,a⟩:=h.sl.u9 jc (C0 g) k hu he;exact⟨H',d,h.set f a,a⟩
def dF.Pg(h:dF H b sv c){i:Nat}(g:i<c.sl.length){j n:Nat}{u:AV}(hu:u.cells.length=n)(ho:aP u.cells=B4)(k:j+n<=21){e:En}(he:aD e=(aD (c.en i)).take j++u.cells++(aD (c.en i)).drop (j+n)):∃H',Op.store n [.ptr (aG sv) (cw 21 sv i+j),u] H=B1 (.undef,H')/\dF H' b sv (c.set i e)/\Fr (On (aG sv)) H H':=by
 have⟨H',d,f,a⟩:=h.sl.C5 jc (C0 g) hu ho k he;exact⟨H',d,h.set f a,a⟩
def dF.Cz(h:dF H b sv c){i:Nat}(g:i<c.sl.length)(e:En):∃H',Op.store 21 [.ptr (aG sv) (cw 21 sv i),.agg (aD e)] H=B1 (.undef,H')/\dF H' b sv (c.set i e)/\Fr (On (aG sv)) H H':=by
 have⟨H',d,f,a⟩:=h.sl.M5 jc wI (C0 g) e;exact⟨H',d,h.set f a,a⟩
def dF.O'(h:dF H b sv c){u:Int}(hu:0<=u/\u<=1000000):∃H',Op.store 1 [.ptr b 3,.int .i64 u] H=B1 (.undef,H')/\dF H' b sv {c with us:=u}/\Fr (On b) H H':=by
 have st:=ta h.row (o:=3) (n:=1) (v:=.int .i64 u) rfl (by simp[CA]) rfl;have e:(CA c sv).take 3++(AV.int .i64 u).cells++(CA c sv).drop (3+1)=CA {c with us:=u} sv:=rfl;rw[e]at st;have f:Fr (On b) H (H.set b (OR (CA {c with us:=u} sv) R6)):=(Fr.refl H).set (W:=On b) (.inl rfl) _;exact⟨_,st,⟨xb ..,h.lt,h.sl.fr f λ(q:aG sv=b)=>h.ne q,h.ne,h.s8,h.w4,hu⟩,f⟩
def dF.Og(h:dF H b sv c)(k:Nat):Op.ae [.ptr b k] H=(CA c sv)[k]?:=xv (qt h.row) k
def dF.FH(h:dF H b sv c){i:Nat}(a:i<c.sl.length):Op.av 21 [.ptr (aG sv) (cw 21 sv i)] H=B1 (.agg (aD (c.en i))):=(h.sl.sl jc).av jc (by decide) (C0 a)
def dF.cells(h:dF H b sv c){i:Nat}(a:i<c.sl.length){j n:Nat}(m:j+n<=21):Op.av n [.ptr (aG sv) (cw 21 sv i+j)] H=B1 (.agg (((aD (c.en i)).drop j).take n)):=by
 have⟨sb,e,l,d⟩:=h.sl;have hb:aG sv=sb:=by rw[e];rfl
 have ho:cw 21 sv i=i*21:=by grind [cw]
 have g:(i+1)*21<=c.sl.length*21:=jy _ a;have hl:=DA jc c.sl;rw[hb,ho,sf (qt d) (by omega)];have hm:=Wa (L:=c.sl.flatMap aD) (E:=aD (c.en i)) (p:=i*21) (size:=21) (jc _) (by omega) (λ r hr=>FD jc c.sl (C0 a) hr);have f:((c.sl.flatMap aD).take (i*21)).length=i*21:=by grind
 have k:(c.sl.flatMap aD).drop (i*21+j)=(aD (c.en i)).drop j++(c.sl.flatMap aD).drop (i*21+21):=by
  conv=>lhs;rw[hm]
  rw[vp,f,jd (by omega),jh,vj,List.drop_append_of_le_length (by rw[jc];omega)]
 grind
def dF.YU(h:dF H b sv c){i:Nat}(a:i<c.sl.length):Op.av 8 [.ptr (aG sv) (cw 21 sv i+4)] H=B1 (.agg (dO (c.en i).d)):=by
 rw[h.cells a (by decide)];have:((aD (c.en i)).drop 4).take 8=dO (c.en i).d:=by
  show((dO (c.en i).d++(dO (c.en i).o ++ [AV.int .i64 (c.en i).u]))).take 8=_
  grind [yp]
 rw[this]
def dF.ldO(h:dF H b sv c){i:Nat}(a:i<c.sl.length):Op.av 8 [.ptr (aG sv) (cw 21 sv i+12)] H=B1 (.agg (dO (c.en i).o)):=by
 rw[h.cells a (by decide)];have:((aD (c.en i)).drop 12).take 8=dO (c.en i).o:=by
  have e:(aD (c.en i)).drop 12=(dO (c.en i).d++(dO (c.en i).o ++ [AV.int .i64 (c.en i).u])).drop 8:=rfl
  grind [yp]
 rw[this]
def ED(c:Ca)(sv:AV)(line st:Int):AV:=match c.kG line st with
 |none=>.tuple [.nilp,.int .i64 20]
 |some i=>.tuple [eA sv i,.int .i64 0]
def GN(k:dF H b sv c)(e:CI lines c)(line st:Int):xz M SD [.ptr b 0,.int .i64 line,.int .i64 st] H λ v H'=>v=ED c sv line st/\Fr Em H H':=by
 refine q46 ?_;obtain⟨w0,n,h,a,f⟩:=q47 M ⟨B5,SD⟩;simp only[aa,bc,w0,n,kw,h];refine C3.q (Qq (line:=line) k e) λ v H1⟨m,d⟩=>?_;rw[m];unfold sL ED kG;cases hp:c.pos line with
 |none =>
  simp only[aa,bc,a,JZ];exact d
 |some i =>
  obtain⟨-,l,-⟩:=e.aX hp;have l1:Op.ae [.ptr (aG sv) (cw 21 sv i+1)] H1=B1 (.int .i64 (c.en i).st):=(k.em d).ld l (by decide)
  by_cases g:st=0
  .subst g;simp only[aa,bc,a,kw,f];exact d
  by_cases j:(c.en i).st=st
  .simp only[aa,bc,a,kw,g,qk,l1,qr j,f];exact d
  .simp only[aa,bc,a,kw,g,qk,l1,j];exact d
abbrev Zw(H:ar)(b:Nat)(sv:AV)(c':Ca)(r:AV):AV->ar->Prop:=λ v H'=>v=r/\dF H' b sv c'/\Fr (lV b sv) H H'
def sr{H1 a:ar}(f:Fr (On (aG sv)) H1 a):Fr (lV b sv) H1 a:=f.mono λ _ _ q=>.inr q
def ξ{H1 a:ar}(f:Fr (On b) H1 a):Fr (lV b sv) H1 a:=f.mono λ _ _ q=>.inl q
theorem pW{H1 a:ar}(f:Fr Em H1 a):Fr (lV b sv) H1 a:=f.mono λ _ _ q=>q.elim
def sD{H1 a d:ar}(f:Fr (lV b sv) H1 a)(g:Fr (lV b sv) a d):Fr (lV b sv) H1 d:=f.trans g λ _ q=>.inl q
def SE(a:dF H b sv c)(hu:c.us+1<=1000000){i:Nat}(n:i<c.sl.length):xz M YD [.ptr b 0,eA sv i] H λ _ H'=>dF H' b sv (c.use i)/\Fr (lV b sv) H H':=by
 refine q2k ?_;have l3:Op.ae [.ptr b 3] H=B1 (.int .i64 c.us):=a.Og 3;have:=a.us;have p:aj .i64 (c.us+1)=c.us+1:=(by grind [jr])
 have⟨H1,s1,g,h⟩:=a.O' (u:=c.us+1) (by omega);have f:Op.ae [.ptr b 3] H1=B1 (.int .i64 (c.us+1)):=g.Og 3;have⟨q,s2,l,k⟩:=g.cQ n (j:=20) (by decide) (u:=.int .i64 (c.us+1)) rfl (e:={c.en i with u:=c.us+1}) (by
  show aD {c.en i with u:=c.us+1} = (aD (c.en i)).set 20 _;have⟨line,st,r,w,⟨d,m⟩,⟨o,ho⟩,u⟩:=c.en i
  match d,m,o,ho with
  |[d0,d1,d2,d3,d4,d5,d6,d7],_,[o0,o1,o2,o3,o4,o5,o6,o7],_=>rfl)
 simp only[aa,bc,q2l,qk,l3,p,s1,f,s2];exact⟨l,sD (ξ h) (sr k)⟩
def p9(c:Ca)(line:Int):AV:=match c.find line with
 |none=>.tuple [.agg (aD .zero),.bool B2]
 |some e=>.tuple [.agg (aD e),.bool B4]
def Ru(k:dF H b sv c)(d:CI lines c)(line:Int):xz M SP [.ptr b 0,.int .i64 line] H λ v H'=>v=p9 c line/\Fr Em H H':=by
 refine qz5 ?_;obtain⟨w0,w4,f⟩:=qz6 M ⟨B5,SP⟩;have⟨H1,l,g,n1,m⟩:=de H (OR (aD .zero) xe);simp only[aa,bc,w0,eZ,<-l];refine C3.q (Qq (line:=line) (k.em g) d) λ v e⟨o,h⟩=>?_;rw[o];have j:e.get H.au=B1 (OR (aD .zero) xe):=by rw[h.ah _ (by omega) id];exact m
 have a:Fr Em H e:=g.trans h λ _ q=>q.elim;unfold sL p9 Ca.find;cases hp:c.pos line with
 |none =>
  have st:=ir j (jc _) (jc .zero) (wI _);have ld:=gn (xb e H.au (OR (aD .zero) xe)) (jc _);simp only[aa,bc,w4,JZ,eZ,Ee,st,ld];exact⟨rfl,a.set (by omega) _⟩
 |some i =>
  obtain⟨-,n,-⟩:=d.aX hp;have le:=(k.em a).FH n;have st:=ir j (jc _) (jc (c.en i)) (wI _);have ld:=gn (xb e H.au (OR (aD (c.en i)) xe)) (jc _);simp only[aa,bc,w4,kw,f,qk,le,st,ld];exact⟨rfl,a.set (by omega) _⟩
end
end Go.Am
namespace Go.Am
open Go.Proofs Ca
variable{M:ak}[MK M]
def Mb(e:En)(k:Nat)(hk:k<8)(y:Int):aD {e with d:=e.d.put k y} = (aD e).set (4+k) (uW y):=by
 have⟨line,st,r,w,⟨d,a⟩,⟨o,ho⟩,u⟩:=e
 match d,a,o,ho with
 |[d0,d1,d2,d3,d4,d5,d6,d7],_,[o0,o1,o2,o3,o4,o5,o6,o7],_ =>
  rcases(show k=0\/k=1\/k=2\/k=3\/k=4\/k=5\/k=6\/k=7 by omega)with rfl|rfl|rfl|rfl|rfl|rfl|rfl|rfl<;>rfl
def GW(e:En)(k:Nat)(hk:k<8):(aD e)[4+k]? = B1 (uW (e.d.get k)):=by
 have⟨line,st,r,w,⟨d,a⟩,⟨o,ho⟩,u⟩:=e
 match d,a,o,ho with
 |[d0,d1,d2,d3,d4,d5,d6,d7],_,[o0,o1,o2,o3,o4,o5,o6,o7],_ =>
  rcases(show k=0\/k=1\/k=2\/k=3\/k=4\/k=5\/k=6\/k=7 by omega)with rfl|rfl|rfl|rfl|rfl|rfl|rfl|rfl<;>rfl
def Fb(e:En)(x:L8):aD {e with d:=x} = (aD e).take 4++(AV.agg (dO x)).cells++(aD e).drop (4+8):=by
 have⟨line,st,r,w,⟨d,a⟩,⟨o,ho⟩,u⟩:=e
 match d,a,o,ho with
 |[d0,d1,d2,d3,d4,d5,d6,d7],_,[o0,o1,o2,o3,o4,o5,o6,o7],_=>rfl
def FV(e:En)(x:L8):aD {e with o:=x} = (aD e).take 12++(AV.agg (dO x)).cells++(aD e).drop (12+8):=by
 have⟨line,st,r,w,⟨d,a⟩,⟨o,ho⟩,u⟩:=e
 match d,a,o,ho with
 |[d0,d1,d2,d3,d4,d5,d6,d7],_,[o0,o1,o2,o3,o4,o5,o6,o7],_ =>
  have⟨x,f⟩:=x
  match x,f with
  |[x0,x1,x2,x3,x4,x5,x6,x7],_=>rfl
section
variable{H:ar}{b:Nat}{sv:AV}{c:Ca}{lines line:Int}
def Bw{a:Nat}(h:a<1000000):Op.bin .quo [.int .i64 (a:Int),.int .i64 8]=B1 (.int .i64 ((a / 8:Nat):Int)):=by
 grind [Kh,jr]
def Mw{a:Nat}(h:a<1000000):Op.bin .rem [.int .i64 (a:Int),.int .i64 8]=B1 (.int .i64 ((a % 8:Nat):Int)):=Lu (by decide)
def XQ(i k:Nat)(hk:k<8):Op.aW 8 1 [.ptr (aG sv) (cw 21 sv i+4),.int .i64 (k:Int)]=B1 (.ptr (aG sv) (cw 21 sv i+(4+k))):=by
 have:=NZ (len:=8) (size:=1) (b:=aG sv) (o:=cw 21 sv i+4) (k:=.i64) (j:=(k:Int)) (i:=k) rfl hk
 grind
theorem HO{i:Nat}(a:i<c.sl.length)(e:En):(c.set i e).en i=e:=by rw[Bq a,qv rfl]
def NA(c:Ca)(i:Nat)(e e':En):(c.set i e).set i e'=c.set i e':=by grind [Ca.set,List.set_set]
theorem zS{i:Nat}(a:i<c.sl.length):(c.use i).en i = {c.en i with u:=c.us+1}:=by
 show(c.set i {c.en i with u:=c.us+1}).en i=_;exact HO a _
def ui(c:Ca)(a:Nat):AV:=match c.pos ((a / 8:Nat):Int)with
 |none=>.tuple [.int .u64 0,.int .i64 20]
 |some i=>.tuple [.int .u64 ((c.en i).d.get (a % 8)),.int .i64 0]
def hQ(n:dF H b sv c)(e:CI lines c)(hu:c.us+1<=1000000){a:Nat}(ha:a<1000000):xz M Sd [.ptr b 0,.int .i64 (a:Int)] H (Zw H b sv (c.word a).1 (ui c a)):=by
 refine qz9 ?_;obtain⟨w0,u,j,f,k⟩:=q0a M ⟨B5,Sd⟩;have n0:¬(a:Int)<0:=by omega
 have hk:a % 8<8:=Nat.mod_lt _ (by decide);simp only[aa,bc,w0,u,jV,n0,j,Bw ha];refine C3.q (GN n e ((a / 8:Nat):Int) 0) λ v H1⟨t,l⟩=>?_;rw[t];have s:=n.em l;unfold ED ui Ca.word;rw[rz];cases hp:c.pos ((a / 8:Nat):Int)with
 |none =>
  have h:¬(20:Int)=0:=by decide
  simp only[aa,bc,xc,f,h]
  grind [pW]
 |some i =>
  obtain⟨-,o,-⟩:=e.aX hp;have w:=qr (show(0:Int)=0 from rfl);simp only[aa,bc,xc,f,k];refine C3.q (SE s hu o) λ _ p⟨m,r⟩=>?_;have g:i<(c.use i).sl.length:=by show i<(c.sl.set i _).length;grind
  have ld:Op.ae [.ptr (aG sv) (cw 21 sv i+(4+a % 8))] p=B1 (uW ((c.en i).d.get (a % 8))):=by
   rw[m.ld g (by omega),zS o,GW _ _ hk]
  simp only[aa,bc,Mw ha,qk,XQ i (a % 8) hk,ld];exact⟨rfl,m,sD (pW l) r⟩
def Mp(c:Ca)(a:Nat):AV:=match c.kG ((a / 8:Nat):Int) 2 with
 |none=>.int .i64 20
 |some _=>.int .i64 0
def ZC(p:dF H b sv c)(f:CI lines c)(hu:c.us+1<=1000000){a:Nat}(ha:a<1000000)(y:Int):xz M R3 [.ptr b 0,.int .i64 (a:Int),.int .u64 y] H (Zw H b sv (c.put a y) (Mp c a)):=by
 refine q2f ?_;obtain⟨w0,B,l,g,m⟩:=q2g M ⟨B5,R3⟩;have n0:¬(a:Int)<0:=by omega
 have hk:a % 8<8:=Nat.mod_lt _ (by decide);simp only[aa,bc,w0,B,jV,n0,l,Bw ha];refine C3.q (GN p f ((a / 8:Nat):Int) 2) λ v H1⟨z,n⟩=>?_;rw[z];have t:=p.em n;unfold ED Mp Ca.put;cases hp:c.kG ((a / 8:Nat):Int) 2 with
 |none =>
  have k:¬(20:Int)=0:=by decide
  simp only[aa,bc,xc,g,k]
  grind [pW]
 |some i =>
  obtain⟨-,x,-⟩:=f.aX (sE hp).1;have E:=qr (show(0:Int)=0 from rfl);simp only[aa,bc,xc,g,m];refine C3.q (SE t hu x) λ _ C⟨w,r⟩=>?_;have h:i<(c.use i).sl.length:=by show i<(c.sl.set i _).length;grind
  have⟨D,A,o,s⟩:=w.cQ h (j:=4+a % 8) (by omega) (u:=.int .u64 y) rfl (e:={(c.use i).en i with d:=((c.use i).en i).d.put (a % 8) y}) (Mb _ _ hk y);have e:(c.use i).set i {(c.use i).en i with d:=((c.use i).en i).d.put (a % 8) y} = {c with us:=c.us+1,sl:=c.sl.set i {c.en i with u:=c.us+1,d:=(c.en i).d.put (a % 8) y}}:=by
   grind [zS,Ca.use,Ca.set,List.set_set]
  rw[e]at o;simp only[aa,bc,Mw ha,qk,XQ i (a % 8) hk,A];exact⟨rfl,o,sD (sD (pW n) r) (sr s)⟩
def YI(s:dF H b sv c)(a:CI lines c)(line:Int)(wr:Bool):xz M Uq [.ptr b 0,.int .i64 line,.bool wr] H λ _ H'=>dF H' b sv (c.mark line wr)/\Fr (lV b sv) H H':=by
 refine qz7 ?_;obtain⟨w0,D,B,E,f,p,g⟩:=qz8 M ⟨B5,Uq⟩;have m:¬(20:Int)=0:=by decide
 have K:=qr (show(0:Int)=0 from rfl);cases wr with
 |false =>
  simp only[aa,bc,w0,D];refine C3.q (GN s a line 0) λ v H1⟨z,k⟩=>?_;rw[z];have l:=s.em k;unfold ED Ca.mark;rw[qn (by decide)];cases hp:c.kG line 0 with
  |none =>
   simp only[aa,bc,xc,E,m,p]
   grind [pW]
  |some i =>
   obtain⟨-,h,-⟩:=a.aX (sE hp).1;have⟨F,A,x,t⟩:=l.cQ h (j:=2) (by decide) (u:=.bool B4) rfl (e:={c.en i with r:=B4}) rfl;simp only[aa,bc,xc,E,qk,A,p];exact⟨x,sD (pW k) (sr t)⟩
 |true =>
  simp only[aa,bc,w0,D,B];refine C3.q (GN s a line 2) λ v H1⟨z,k⟩=>?_;rw[z];have l:=s.em k;unfold ED Ca.mark;rw[qv rfl];cases hp:c.kG line 2 with
  |none =>
   simp only[aa,bc,xc,f,m,g]
   grind [pW]
  |some i =>
   obtain⟨-,h,-⟩:=a.aX (sE hp).1;have l3:Op.ae [.ptr (aG sv) (cw 21 sv i+3)] H1=B1 (.bool (c.en i).w):=l.ld h (by decide);dsimp only;cases hw:(c.en i).w with
   |true =>
    rw[qv rfl];rw[hw]at l3;simp only[aa,bc,xc,f,qk,l3,g]
    grind [pW]
   |false =>
    rw[qn (by decide)];rw[hw]at l3;have⟨F,A,x,t⟩:=l.cQ h (j:=3) (by decide) (u:=.bool B4) rfl (e:={c.en i with w:=B4}) rfl;have y:i<(c.set i {c.en i with w:=B4}).sl.length:=by show i<(c.sl.set i _).length;grind
    have⟨J,I,C,G⟩:=x.Pg y (j:=12) (n:=8) (u:=.agg (dO (c.en i).d)) (by grind [zb,yp]) (by grind [zb,vN]) (by decide) (e:={(c.set i {c.en i with w:=B4}).en i with o:=(c.en i).d}) (FV _ _);rw[HO h,NA]at C;simp only[aa,bc,xc,f,qk,l3,l.YU h,A,I,g];exact⟨C,sD (sD (pW k) (sr t)) (sr G)⟩
def qY(c:Ca)(line:Int):AV:=.tuple [.agg (dO (c.cE line).2),match c.kG line 2 with|none=>.int .i64 20|some _=>.int .i64 0]
def q9b(g:dF H b sv c)(h:CI lines c)(line:Int):xz M T4 [.ptr b 0,.int .i64 line] H λ v H'=>v=qY c line/\dF H' b sv (c.cE line).1/\Fr (lV b sv) H H':=by
 refine qtk ?_;obtain⟨w0,w4,o⟩:=qtl M ⟨B5,T4⟩;have n:¬(20:Int)=0:=by decide
 have G:=qr (show(0:Int)=0 from rfl);have⟨H1,x,p,n1,z⟩:=de H (OR (dO .zero) js);have C:=g.lt;have D:aG sv<H.au:=g.sl.lt;simp only[aa,bc,w0,lZ,<-x];refine C3.q (GN (g.em p) h line 2) λ v k⟨E,l⟩=>?_;rw[E];have a:Fr Em H k:=p.trans l λ _ q=>q.elim;have B:=g.em a;have s:k.get H.au=B1 (OR (dO .zero) js):=by rw[l.ah _ (by omega) id];exact z
 unfold ED qY Ca.cE;cases hp:c.kG line 2 with
 |none =>
  have st:=ir s (yp _) (yp .zero) (vN _);have ld:=gn (xb k H.au (OR (dO .zero) js)) (yp _);have fs:Fr Em H (k.set H.au (OR (dO .zero) js)):=a.set (by omega) _;simp only[aa,bc,xc,w4,n,lZ,Ee,st,ld];exact⟨g.em fs,pW fs⟩
 |some i =>
  obtain⟨-,w,-⟩:=h.aX (sE hp).1;have⟨f,F,t,r⟩:=B.cQ w (j:=1) (by decide) (u:=.int .i64 1) rfl (e:={c.en i with st:=1}) rfl;have m:i<(c.set i {c.en i with st:=1}).sl.length:=by show i<(c.sl.set i _).length;grind
  have l3:=t.YU m;rw[HO w]at l3;have n2:=l.au;have A:f.get H.au=B1 (OR (dO .zero) js):=by rw[r.ah _ (by omega) (λ(q:H.au=aG sv)=>by omega)];exact s
  have st:=ir A (yp _) (yp (c.en i).d) (vN _);have ld:=gn (xb f H.au (OR (dO (c.en i).d) js)) (yp _);have y:Fr (On H.au) f (f.set H.au (OR (dO (c.en i).d) js)):=(Fr.refl f).set (W:=On H.au) (.inl rfl) _;simp only[aa,bc,xc,w4,o,qk,F,l3,st,ld];exact⟨t.fr y (λ(q:b=H.au)=>by omega) (λ(q:aG sv=H.au)=>by omega),(sD (pW a) (sr r)).set (.inr (qg _)) _⟩
def q74(h:dF H b sv c)(f:CI lines c)(line:Int)(x:L8):xz M P1 [.ptr b 0,.int .i64 line,.agg (dO x)] H λ _ H'=>dF H' b sv (c.bn line x)/\Fr (lV b sv) H H':=by
 refine qr0 ?_;obtain⟨w0,w4,g⟩:=a_ M ⟨B5,P1⟩;have m:¬(20:Int)=0:=by decide
 have N:=qr (show(0:Int)=0 from rfl);have⟨H1,A,p,n1,C⟩:=de H (OR (dO x) js);have F:=h.lt;have G:aG sv<H.au:=h.sl.lt;simp only[aa,bc,w0,<-A];refine C3.q (GN (h.em p) f line 1) λ v o⟨I,k⟩=>?_;rw[I];have a:Fr Em H o:=p.trans k λ _ q=>q.elim;have t:=h.em a;have s:o.get H.au=B1 (OR (dO x) js):=by rw[k.ah _ (by omega) id];exact C
 unfold ED Ca.bn;cases hp:c.kG line 1 with
 |none =>
  simp only[aa,bc,xc,w4,m,g];exact⟨t,pW a⟩
 |some i =>
  obtain⟨-,y,-⟩:=f.aX (sE hp).1;have⟨z,J,E,r⟩:=t.cQ y (j:=1) (by decide) (u:=.int .i64 2) rfl (e:={c.en i with st:=2}) rfl;have l:i<(c.set i {c.en i with st:=2}).sl.length:=by show i<(c.sl.set i _).length;grind
  have⟨L,K,w,B⟩:=E.Pg l (j:=4) (n:=8) (u:=.agg (dO x)) (by grind [zb,yp]) (by grind [zb,vN]) (by decide) (e:={(c.set i {c.en i with st:=2}).en i with d:=x}) (Fb _ _);rw[HO y,NA]at w;have n2:=k.au;have D:z.get H.au=B1 (OR (dO x) js):=by rw[r.ah _ (by omega) (λ(q:H.au=aG sv)=>by omega)];exact s
  simp only[aa,bc,xc,w4,qk,gn s (yp x),J,gn D (yp x),K,g];exact⟨w,sD (sD (pW a) (sr r)) (sr B)⟩
def BI(c:Ca)(line:Int):AV:=.tuple [.agg (aD (c.drop line).2),match c.kG line 0 with|none=>.int .i64 20|some _=>.int .i64 0]
def X6(h:dF H b sv c)(j:CI lines c)(line:Int):xz M T3 [.ptr b 0,.int .i64 line] H λ v H'=>v=BI c line/\dF H' b sv (c.drop line).1/\Fr (lV b sv) H H':=by
 refine k_ ?_;obtain⟨w0,w4,s⟩:=qz2 M ⟨B5,T3⟩;have r:¬(20:Int)=0:=by decide
 have S:=qr (show(0:Int)=0 from rfl);have⟨H1,B,u,n1,E⟩:=de H (OR (aD .zero) xe);have K:=h.lt;have L:aG sv<H.au:=h.sl.lt;simp only[aa,bc,w0,eZ,<-B];refine C3.q (GN (h.em u) j line 0) λ v a⟨N,l⟩=>?_;rw[N];have d:Fr Em H a:=u.trans l λ _ q=>q.elim;have y:=h.em d;have n2:=l.au;have w:a.get H.au=B1 (OR (aD .zero) xe):=by rw[l.ah _ (by omega) id];exact E
 unfold ED BI Ca.drop;cases hp:c.kG line 0 with
 |none =>
  have st:=ir w (jc _) (jc .zero) (wI _);have ld:=gn (xb a H.au (OR (aD .zero) xe)) (jc _);have fs:Fr Em H (a.set H.au (OR (aD .zero) xe)):=d.set (by omega) _;simp only[aa,bc,xc,w4,r,eZ,Ee,st,ld];exact⟨h.em fs,pW fs⟩
 |some i =>
  obtain⟨-,z,-⟩:=j.aX (sE hp).1;have⟨f,C,m,R,F⟩:=de a (OR (aD .zero) xe);have A:=ir F (jc _) (jc (c.en i)) (wI _);obtain⟨t,g⟩:∃X,X=f.set a.au (OR (aD (c.en i)) xe):=⟨_,rfl⟩
  rw[<-g]at A;have n:Fr (On a.au) f t:=by rw[g];exact(Fr.refl f).set (W:=On a.au) (.inl rfl) _
  have I:=(y.em m).fr n (λ(q:b=a.au)=>by omega) (λ(q:aG sv=a.au)=>by omega);have⟨e,P,J,o⟩:=I.Cz z .zero;have G:e.get a.au=B1 (OR (aD (c.en i)) xe):=by rw[o.ah _ (by rw[g];show a.au<f.au;omega) (λ(q:a.au=aG sv)=>by omega),g,xb]
  have O:=gn G (jc (c.en i));have p:e.get H.au=B1 (OR (aD .zero) xe):=by rw[o.ah _ (by rw[g];show H.au<f.au;omega) (λ(q:H.au=aG sv)=>by omega),n.ah _ (by omega) (λ(q:H.au=a.au)=>by omega),m.ah _ (by omega) id];exact w
  have Q:=ir p (jc _) (jc (c.en i)) (wI _);have ld:=gn (xb e H.au (OR (aD (c.en i)) xe)) (jc _);have D:Fr (On H.au) e (e.set H.au (OR (aD (c.en i)) xe)):=(Fr.refl e).set (W:=On H.au) (.inl rfl) _;have k:Fr (lV b sv) H t:=(sD (pW d) (pW m)).trans n λ x(q:x=a.au)=>.inr (by omega);simp only[aa,bc,xc,w4,s,qk,y.FH z,eZ,<-C,A,Ee,P,O,Q,ld];exact⟨J.fr D (λ(q:b=H.au)=>by omega) (λ(q:aG sv=H.au)=>by omega),(sD k (sr o)).set (.inr (qg _)) _⟩
end
end Go.Am
namespace Go.Am
open Go.Proofs Ca
variable{M:ak}[MK M]
def nU(sv:AV)(o:Option Nat):AV:=match o with
 |none=>.nilp
 |some i=>eA sv i
def ae4(sv:AV)(o:Option Nat):aC (nU sv o)=true:=by cases o<;>rfl
def zX{a:ar}{t d e:Nat}{x:AV}{o:bB}(g:a.get t=B1 (OR [x] e))(h:d≠t):Op.ae [.ptr t 0] (a.set d o)=B1 x:=by
 have f:(a.set d o).get t=B1 (OR [x] e):=by grind [jx]
 exact xv (qt f) 0
structure Se(c:Ca)(sv:AV)(line:Int)(t u:Nat)(i:Nat)(V:Nat->Prop)(Hx:ar):Prop where
 vt:V t
 vu:V u
 g:Hx.get t=B1 (OR [.nilp] jq)
 gu:Hx.get u=B1 (OR [nU sv ((c.gW line i).map (c.fr line + ·))] jq)
 lt:t<Hx.au
 ltu:u<Hx.au
 no:∀k,k<i->c.free line k=B2
structure UC(c:Ca)(sv:AV)(line:Int)(t:Nat)(V:Nat->Prop)(Hx:ar):Prop where
 vt:V t
 ex:∃k,k<c.ways/\cY (c.free line) c.ways=B1 k/\Hx.get t=B1 (OR [eA sv (c.fr line+k)] jq)
 lt:t<Hx.au
section
variable{H:ar}{b:Nat}{sv:AV}{c:Ca}{lines line:Int}
def xha(hc:dF H b sv c)(J:CI lines c)(hl:0<=line):xz M Jt [.ptr b 0,.int .i64 line] H λ v H'=>v=nU sv (c.room line)/\Fr Em H H':=by
 refine q0f ?_;have⟨w0,wa,N,w2,s,w3,n,w5,w7,w12⟩:=z0 M ⟨B5,Jt⟩;obtain⟨H1,e1,f1,n1,-⟩:=de H (OR [.nilp] jq);obtain⟨D,e2,Q,-,-⟩:=de H1 (OR [.nilp] jq);have f2:Fr Em H D:=f1.trans Q λ _ q=>q.elim;have n2:D.au=H.au+2:=by grind [xt]
 have g1:D.get H.au=B1 (OR [.nilp] jq):=by rw[Q.ah _ (by omega) id,e1,xf]
 have g2:D.get (H.au+1)=B1 (OR [.nilp] jq):=by rw[e2,<-n1,xf]
 simp only[aa,bc,w0,<-e1,w2,w3,<-e2,n1,w5,w7];refine C3.q (WS b line) λ v H5⟨hv,hh⟩=>?_;obtain⟨H3,e3,f23,-,-⟩:=de D (OR [.ptr b 0] ww);obtain⟨O,e4,R,-,-⟩:=de H3 (OR [.int .i64 line] cM);rw[<-e3,<-e4]at hh;rw[hv,hh];have I:Fr Em D O:=f23.trans R λ _ q=>q.elim;have f4:Fr Em H O:=f2.trans I λ _ q=>q.elim;have n3:H3.au=H.au+3:=by grind [xt]
 have n4:O.au=H.au+4:=by grind [xt]
 have g3:O.get D.au=B1 (OR [.ptr b 0] ww):=by rw[R.ah _ (by omega) id,e3,xf]
 have g4:O.get (D.au+1)=B1 (OR [.int .i64 line] cM):=by grind [xf]
 have U:=hc.em f4;have hlt:=hc.lt;have hsb:aG sv<H.au:=hc.sl.lt;have E:nR c sv line=(Ig c.ways).map λ k=>[eA sv (c.fr line+k)]:=by simp_all[nR,qn]
 refine iL.iter (fn:=OJ) (lp:=LF) (pa:=RI 0) (pb:=Ud 0) qvv v8.1 v8.2 (by decide) _6 qtp
  (mu U J g3 g4 (by omega) (by omega)) (λ i V z=>Se c sv line H.au (H.au+1) i V z) (λ e V z=>e=.ret/\UC c sv line H.au V z) (λ x=>x=H.au\/x=H.au+1) (qg _) ?_ ?_ ?_ ?_ ?_ ?_ ?_ ?_
 .grind
 .omega
 .exact ⟨.inl rfl,.inr rfl,by rw[I.ah _ (by omega) id];exact g1,by rw[I.ah _ (by omega) id];exact g2,by omega,by omega,λ k hk=>by omega⟩
 .exact λ i V Ha Hb h hs hn=>⟨h.vt,h.vu,by rw[hs _ h.vt];exact h.g,by rw[hs _ h.vu];exact h.gu,qj h.lt hn,qj h.ltu hn,h.no⟩
 .rintro e V Ha Hb ⟨he,h⟩ hs hn;have⟨k,k1,k2,k3⟩:=h.ex;exact⟨he,h.vt,⟨k,k1,k2,by rw[hs _ h.vt];exact k3⟩,qj h.lt hn⟩
 .intro a i lr lb x hx hL2 V p l hV hf6 hnL hL6 hgL;rw[E,xr,xh]at hx;obtain⟨y,hy,rfl⟩:=hx;have C:i<c.ways:=by grind
  rw[yj C]at hy;cases hy;refine⟨_,rfl,?_⟩;obtain⟨-,wa,N,-,s,-,n,-⟩:=z0 M ⟨B1 a,Jt⟩;simp only[aa,bc,wa,DQ];refine⟨hgL,?_⟩;have fx:Fr (On a) p (p.set a lb):=(Fr.refl p).set (W:=On a) (.inl rfl) _;have gL:(p.set a lb).get a=B1 lb:=xb ..;have nL:(p.set a lb).au=p.au:=rfl;have hc6:dF p b sv c:=U.fr hf6 (by grind) (by grind);have h7:dF (p.set a lb) b sv c:=hc6.fr fx (λ(q:b=a)=>by omega) (λ(q:aG sv=a)=>by omega);have S:a≠H.au:=λ q=>(by omega)
  have T:a≠H.au+1:=λ q=>(by omega)
  have Z:(p.set a lb).get H.au=B1 (OR [.nilp] jq):=by rw[jx S];exact l.g
  have A:(p.set a lb).get (H.au+1)=B1 (OR [nU sv ((c.gW line i).map (c.fr line + ·))] jq):=by rw[jx T];exact l.gu
  generalize p.set a lb=H7 at *;have hi:=J.gI line C;obtain⟨e,he⟩:∃e,e=c.en (c.fr line+i):=⟨_,rfl⟩
  have l1:Op.ae [.ptr (aG sv) (cw 21 sv (c.fr line+i)+1)] H7=B1 (.int .i64 e.st):=by rw[he];exact h7.ld hi (k:=1) (by decide)
  have l2:Op.ae [.ptr (aG sv) (cw 21 sv (c.fr line+i)+2)] H7=B1 (.bool e.r):=by rw[he];exact h7.ld hi (k:=2) (by decide)
  have l3:Op.ae [.ptr (aG sv) (cw 21 sv (c.fr line+i)+3)] H7=B1 (.bool e.w):=by rw[he];exact h7.ld hi (k:=3) (by decide)
  have G:∀e:En,(aD e)[20]? = B1 (.int .i64 e.u):=λ e=>by
   have⟨line,st,r,w,⟨d,hd⟩,⟨o,ho⟩,u⟩:=e
   match d,hd,o,ho with
   |[d0,d1,d2,d3,d4,d5,d6,d7],_,[o0,o1,o2,o3,o4,o5,o6,o7],_=>rfl
  have l20:∀k,c.fr line+k<c.sl.length->Op.ae [.ptr (aG sv) (cw 21 sv (c.fr line+k)+20)] H7=B1 (.int .i64 (c.en (c.fr line+k)).u):=λ k hk=>by rw[h7.ld hk (k:=20) (by decide),G]
  have hfree:c.free line i=(e.st == 0):=by rw[he];rfl
  have no':e.st≠0 -> ∀k,k<i+1->c.free line k=false:=λ h0 k hk=>by
   by_cases q:k=i
   .grind
   .exact l.no k (by omega)
  have t:Op.ae [.ptr (H.au+1) 0] H7=B1 (nU sv ((c.gW line i).map (c.fr line + ·))):=xv (qt A) 0;have f:c.gW line (i+1)=if e.r ||e.w then c.gW line i else match c.gW line i with
   |none=>B1 i
   |some j=>if e.u<(c.en (c.fr line+j)).u then B1 i else B1 j:=by rw[he];rfl
  -- it stays as it is
  have stay:e.st≠0->c.gW line (i+1)=c.gW line i->M9 (λ V z=>Se c sv line H.au (H.au+1) (i+1) V z) (λ e V z=>e=.ret/\UC c sv line H.au V z) a lb V p .normal [] [] H7:=λ h0 hb =>
   ⟨rfl,gL,V,λ b hb=>(by grind),fx.mono λ x _ q=>.inr q,.inl ⟨rfl,l.vt,l.vu,Z,by grind,by omega,by omega,no' h0⟩⟩
  -- this one is taken
  obtain⟨H8,F⟩:∃X,X=H7.set (H.au+1) (OR [eA sv (c.fr line+i)] jq):=⟨_,rfl⟩
  have st:=JL A (u:=eA sv (c.fr line+i)) rfl;rw[<-F]at st;have take:e.st≠0->c.gW line (i+1)=B1 i->M9 (λ V z=>Se c sv line H.au (H.au+1) (i+1) V z) (λ e V z=>e=.ret/\UC c sv line H.au V z) a lb V p .normal [] [] H8:=λ h0 hb =>
   ⟨rfl,by rw[F,jx (pT T)];exact gL,V,λ b hb=>⟨by rw[F];show b<H7.au;grind,.inl hb⟩,by rw[F];exact(fx.mono λ x _ q=>.inr q).set (.inl (.inl l.vu)) _,.inl ⟨rfl,l.vt,l.vu,by grind [jx],by rw[F,xb,hb];rfl,by rw[F];show H.au<H7.au;omega,by rw[F];show H.au+1<H7.au;omega,no' h0⟩⟩
  by_cases B:e.st=0
  .have stt:=JL Z (u:=eA sv (c.fr line+i)) rfl;simp only[aa,bc,N,qk,l1,qr B,stt];refine⟨rfl,?_,V,?_,?_,.inr ⟨trivial,rfl,l.vt,⟨i,C,Ji C (by grind) l.no,xb ..⟩,?_⟩⟩
   .rw [jx (pT S)];exact gL
   .exact λ b hb=>⟨by show b<H7.au;grind,.inl hb⟩
   .exact (fx.mono λ x _ q=>.inr q).set (.inl (.inl l.vt)) _
   .show H.au<H7.au;omega
  cases hr:e.r with
  |true =>
   rw[hr]at l2;simp only[aa,bc,N,qk,l1,B,s,l2];exact stay B (by rw[f,hr];rfl)
  |false =>
   rw[hr]at l2;cases hw:e.w with
   |true =>
    rw[hw]at l3;simp only[aa,bc,N,qk,l1,B,s,l2,l3];exact stay B (by rw[f,hr,hw];rfl)
   |false =>
    rw[hw]at l3;rw[hr,hw]at f;cases hb:c.gW line i with
    |none =>
     rw[hb]at t f;have t:Op.ae [.ptr (H.au+1) 0] H7=B1 .nilp:=t;simp only[aa,bc,N,qk,l1,B,s,l2,l3,n,t,JZ,st];exact take B f
    |some j =>
     rw[hb]at t f;have t:Op.ae [.ptr (H.au+1) 0] H7=B1 (eA sv (c.fr line+j)):=t;have hj:=(OI hb).1;have a1:=l20 i hi;rw[<-he]at a1;have a2:=l20 j (J.gI line (by omega))
     by_cases q:e.u<(c.en (c.fr line+j)).u
     .simp only[aa,bc,N,qk,l1,B,s,l2,l3,n,t,kw,a1,a2,q,st];exact take B (by rw[f];simp[q])
     .simp only[aa,bc,N,qk,l1,B,s,l2,l3,n,t,kw,a1,a2,q];exact stay B (by rw[f,hb];simp[q])
 .intro d V P hd1 hd2 Y L hVd l;have hno:=l.no;have A:=l.gu;rw[E,zj,j4]at hno A;have t:Op.ae [.ptr (H.au+1) 0] P=B1 (nU sv ((c.gW line c.ways).map (c.fr line + ·))):=xv (qt A) 0;have st:=JL l.g (u:=nU sv ((c.gW line c.ways).map (c.fr line + ·))) (ae4 ..);have K:d≠H.au:=λ q=>by omega
  have gd:(P.set H.au (OR [nU sv ((c.gW line c.ways).map (c.fr line + ·))] jq)).get d=B1 (.deferred (B1 [])):=by simp_all[jx,pT]
  have rd:Op.ae [.ptr H.au 0] ((P.set H.au (OR [nU sv ((c.gW line c.ways).map (c.fr line + ·))] jq)).set d (.deferred B5))=B1 (nU sv ((c.gW line c.ways).map (c.fr line + ·))):=zX (xb ..) K;have m:c.room line=(c.gW line c.ways).map (c.fr line + ·):=by
   grind [Ca.room,IX]
  rw[<-m]at t st gd rd;simp only[aa,bc,w12,t,st,B6,Gd,rd];refine⟨gd,?_⟩;exact(((f4.trans (W':=λ x=>(x=H.au\/x=H.au+1)\/False) L λ x q=>(by grind)).set (by omega) _).set (by omega) _)
 .rintro e d V P hj hd1 hd2 Y L hVd ⟨he,hS⟩;subst he;have⟨k,k1,k2,k3⟩:=hS.ex;have K:d≠H.au:=λ q=>by omega
  have rd:Op.ae [.ptr H.au 0] (P.set d (.deferred B5))=B1 (eA sv (c.fr line+k)):=zX k3 K;have m:c.room line=B1 (c.fr line+k):=by unfold Ca.room;rw[k2]
  simp only[aa,bc,B6,Gd,rd];refine⟨Y,by rw[m];rfl,?_⟩;exact((f4.trans (W':=λ x=>(x=H.au\/x=H.au+1)\/False) L λ x q=>(by grind)).set (by omega) _)
end
end Go.Am
namespace Go.Am
open Go.Proofs Ca
variable{M:ak}[MK M]
def bdE(line st:Int)(x:L8):Op.build (aD .zero) [(0,1),(1,1),(4,8)] [.int .i64 line,.int .i64 st,.agg (dO x)]=B1 (.agg (aD ⟨line,st,B2,B2,x,.zero,0⟩)):=by
 have⟨x,a⟩:=x
 match x,a with
 |[x0,x1,x2,x3,x4,x5,x6,x7],_=>rfl
def nC(c:Ca)(line st:Int)(x:L8):AV:=.tuple [.agg (aD (c.fill line st x).2.1),.bool (decide ((c.fill line st x).2.2=0/\(c.fill line st x).2.1.st≠0)),.int .i64 (c.fill line st x).2.2]
section
variable{H:ar}{b:Nat}{sv:AV}{c:Ca}{lines line:Int}
def Xc(n:dF H b sv c)(l:CI lines c)(hu:c.us+1<=1000000)(hl:0<=line){st:Int}(N:st=1\/st=2)(x:L8) :
 xz M I4 [.ptr b 0,.int .i64 line,.int .i64 st,.agg (dO x)] H λ v H'=>v=nC c line st x/\dF H' b sv (c.fill line st x).1/\Fr (lV b sv) H H':=by
 refine qz3 ?_;obtain⟨w0,w2,R,Q,u,S⟩:=qz4 M ⟨B5,I4⟩;obtain⟨H1,D,f1,n1,-⟩:=de H (OR (dO x) js);obtain⟨m,T,p,-,-⟩:=de H1 (OR (aD .zero) xe);have z:Fr Em H m:=f1.trans p λ _ q=>q.elim;have n2:m.au=H.au+2:=by grind [xt]
 have g1:m.get H.au=B1 (OR (dO x) js):=by rw[p.ah _ (by omega) id,D,xf]
 have U:m.get (H.au+1)=B1 (OR (aD .zero) xe):=by grind [xf]
 have nl:¬line<0:=by omega
 have hlt:=n.lt;have hsb:aG sv<H.au:=n.sl.lt
 -- an error
 have err:∀{g:ar}(k:Int),Fr Em m g->k≠0->(c.fill line st x).2.2=k->(c.fill line st x).1=c->(c.fill line st x).2.1=.zero ->
  Op.store 21 [.ptr (H.au+1) 0,.agg (aD .zero)] g=B1 (.undef,g.set (H.au+1) (OR (aD .zero) xe))/\Op.av 21 [.ptr (H.au+1) 0] (g.set (H.au+1) (OR (aD .zero) xe))=B1 (.agg (aD .zero)) /\
  (AV.tuple [.agg (aD .zero),.bool B2,.int .i64 k]=nC c line st x/\dF (g.set (H.au+1) (OR (aD .zero) xe)) b sv (c.fill line st x).1/\Fr (lV b sv) H (g.set (H.au+1) (OR (aD .zero) xe))):=by
  intro g k f hk h1 h2 h3;have gx:g.get (H.au+1)=B1 (OR (aD .zero) xe):=by rw[f.ah _ (by omega) id];exact U
  have fs:Fr Em H (g.set (H.au+1) (OR (aD .zero) xe)):=(z.trans f λ _ q=>q.elim).set (by omega) _;refine⟨ir gx (jc _) (jc .zero) (wI _),gn (xb ..) (jc _),?_,by rw[h2];exact n.em fs,pW fs⟩
  grind [nC]
 have r:∀{q:AV},W M ⟨B5,I4⟩ (Wi 16) B4 (eD 0 (ey (W M ⟨B5,I4⟩ (Wi 23)) (eR M [.dq 21 8,.tmp 9,.tmp 10] (tc λ v H'=>v=nC c line st x/\dF H' b sv (c.fill line st x).1/\Fr (lV b sv) H H'))))
  [(21,q),(10,.int .i64 0),(9,.bool B2),(8,.ptr (H.au+1) 0),(7,.ptr H.au 0),(0,.ptr b 0),(1,.int .i64 line),(2,.int .i64 st),(3,.agg (dO x))] [] m:=by
  intro q;simp only[aa,bc,Q];refine C3.q (Qq (line:=line) (n.em z) l) λ v H3⟨O,G⟩=>?_;rw[O];unfold sL;cases hp:c.pos line with
  |some i =>
   have⟨s1,s2,P⟩:=err 21 G (by decide) (by unfold Ca.fill;rw[hp]) (by unfold Ca.fill;rw[hp]) (by unfold Ca.fill;rw[hp]);simp only[aa,bc,jV,eZ,Ee,s1,s2];exact P
  |none =>
   simp only[aa,bc,rM,R];have E:=z.trans G λ _ q=>q.elim;refine C3.q (xha (n.em E) l hl) λ v a⟨O,f4⟩=>?_;rw[O];have e:=G.trans f4 λ _ q=>q.elim;cases hr:c.room line with
   |none =>
    have⟨s1,s2,P⟩:=err 22 e (by decide) (by unfold Ca.fill;rw[hp,hr]) (by unfold Ca.fill;rw[hp,hr]) (by unfold Ca.fill;rw[hp,hr]);unfold nU;simp only[aa,bc,u,JZ,eZ,Ee,s1,s2];exact P
   |some i =>
    obtain⟨k,k1,k2,-⟩:=Oz hr;have hi:i<c.sl.length:=by rw[k2];exact l.gI line k1
    have o:=z.trans e λ _ q=>q.elim;have Z:=n.em o;have n4:=e.au;have⟨C,e5,A,n5,g5⟩:=de a (OR (aD .zero) xe);have s6:=ir g5 (jc _) (jc (c.en i)) (wI _);obtain⟨h,w⟩:∃X,X=C.set a.au (OR (aD (c.en i)) xe):=⟨_,rfl⟩
    rw[<-w]at s6;have B:Fr (On a.au) C h:=by rw[w];exact(Fr.refl C).set (W:=On a.au) (.inl rfl) _
    have n6:h.au=a.au+1:=by rw[w];exact n5
    have g6:h.get a.au=B1 (OR (aD (c.en i)) xe):=by rw[w,xb]
    have h6:dF h b sv c:=(Z.em A).fr B (λ(q:b=a.au)=>by omega) (λ(q:aG sv=a.au)=>by omega);have I:h.get H.au=B1 (OR (dO x) js):=by rw[B.ah _ (by omega) (λ(q:H.au=a.au)=>by omega),A.ah _ (by omega) id,e.ah _ (by omega) id];exact g1
    have J:h.get (H.au+1)=B1 (OR (aD .zero) xe):=by rw[B.ah _ (by omega) (λ(q:H.au+1=a.au)=>by omega),A.ah _ (by omega) id,e.ah _ (by omega) id];exact U
    have⟨H7,s7,h7,f7⟩:=h6.Cz hi ⟨line,st,B2,B2,x,.zero,0⟩;have L:i<(c.set i ⟨line,st,B2,B2,x,.zero,0⟩).sl.length:=by show i<(c.sl.set i _).length;grind
    have l6:=gn I (yp x);unfold nU;simp only[aa,bc,u,kw,S,qk,Z.FH hi,eZ,<-e5,s6,l6,bdE,s7];refine C3.q (SE h7 hu L) λ _ d⟨h8,f8⟩=>?_;have j:Fr (lV b sv) h d:=sD (sr f7) f8;have nW:∀y,H.au<=y -> ¬lV b sv y:=λ y hy q=>q.elim (by omega) λ q=>by omega
    have V:d.get a.au=B1 (OR (aD (c.en i)) xe):=by rw[j.ah _ (by omega) (by grind)];exact g6
    have K:d.get (H.au+1)=B1 (OR (aD .zero) xe):=by rw[j.ah _ (by omega) (by grind)];exact J
    have l8:=gn V (jc (c.en i));have s:Op.ae [.ptr a.au 1] d=B1 (.int .i64 (c.en i).st):=xv (qt V) 1;have s9:=ir K (jc _) (jc (c.en i)) (wI _);have g9:(d.set (H.au+1) (OR (aD (c.en i)) xe)).get a.au=B1 (OR (aD (c.en i)) xe):=by grind [jx]
    have t:Op.ae [.ptr a.au 1] (d.set (H.au+1) (OR (aD (c.en i)) xe))=B1 (.int .i64 (c.en i).st):=xv (qt g9) 1;have l9:=gn (xb d (H.au+1) (OR (aD (c.en i)) xe)) (jc (c.en i));have ef:c.fill line st x=({c with us:=c.us+1,sl:=c.sl.set i ⟨line,st,B2,B2,x,.zero,c.us+1⟩},c.en i,0):=by grind [Ca.fill]
    have eu:(c.set i ⟨line,st,B2,B2,x,.zero,0⟩).use i = {c with us:=c.us+1,sl:=c.sl.set i ⟨line,st,B2,B2,x,.zero,c.us+1⟩}:=by
     grind [Ca.use,HO,Ca.set,List.set_set]
    rw[eu]at h8;have fo:Fr (On (H.au+1)) d (d.set (H.au+1) (OR (aD (c.en i)) xe)):=(Fr.refl d).set (W:=On (H.au+1)) (.inl rfl) _;have F:Fr (lV b sv) H d:=sD ((sD (pW o) (pW A)).trans B λ y(q:y=a.au)=>(by omega)) j;have end_:dF (d.set (H.au+1) (OR (aD (c.en i)) xe)) b sv (c.fill line st x).1/\Fr (lV b sv) H (d.set (H.au+1) (OR (aD (c.en i)) xe)):=by
     rw[ef];exact⟨h8.fr fo (λ(q:b=H.au+1)=>by omega) (λ(q:aG sv=H.au+1)=>by omega),F.set (.inr (by omega)) _⟩
    by_cases Y:(c.en i).st=0
    .simp only[aa,bc,l8,s,qr Y,s9,t,l9]
     grind [nC]
    .simp only[aa,bc,l8,s,Y,s9,t,l9]
     grind [nC]
 rcases N with rfl|rfl
 .have t1:=qr (show(1:Int)=1 from rfl);simp only[aa,bc,w0,<-D,n1,eZ,<-T,w2,kw,nl];exact r
 .have t1:¬(2:Int)=1:=by decide
  have t2:=qr (show(2:Int)=2 from rfl);simp only[aa,bc,w0,<-D,n1,eZ,<-T,w2,kw,nl,t1];exact r
end
end Go.Am
namespace Go.Am
open Go.Proofs Ca
variable{M:ak}[MK M]
theorem Mr(p:Nat->Bool)(k:Nat):(Ig (k+1)).filter p=(Ig k).filter p++(if p k then[k]else[]):=by
 grind [List.range_succ]
def Xt(p:Nat->Bool){k:Nat}:∀m:Nat,∃X,(Ig (k+m)).filter p=(Ig k).filter p++X
 |0=>⟨[],by simp⟩
 |m+1=>by
  obtain⟨X,a⟩:=Xt p m;rw[<-yz,Mr,a]
  grind
theorem Us(p:Nat->Bool){n k:Nat}(hk:k<n)(hp:p k=B4):((Ig n).filter p)[((Ig k).filter p).length]? = B1 k:=by
 obtain⟨m,rfl⟩:∃m,n=k+1+m:=⟨n-(k+1),by omega⟩
 have⟨X,a⟩:=Xt p (k:=k+1) m
 grind [Mr]
def kF(c:Ca):List Nat:=(Ig c.sl.length).filter λ k=>(c.en k).st != 0
def jF(c:Ca)(sv:AV):List (List AV):=(kF c).map λ k=>[eA sv k]
def YG(b:Nat)(sv:AV)(c:Ca)(Hx:ar):Prop:=∃c',dF Hx b sv c'/\c'.sl.length=c.sl.length /\ ∀k,(c'.en k).st=(c.en k).st
def VF{H0:ar}{p b:Nat}{sv:AV}{c:Ca}(hp:H0.get p=B1 (OR [.ptr b 0] ww))(hpl:p<H0.au)(hl:c.sl.length<=40) :
 rC M Nc [] [.ptr p 0] (λ x=>x=p) (λ _=>False) (λ _=>YG b sv c) H0 (jF c sv):=by
 intro Y R S g H1 hnx X m Z loc P hI step;have⟨p1,p2,p3⟩:=X p (.inl rfl)
 suffices h:xz M Nc [.fn (.yield Y) [] [],.ptr p 0] H1 (Jp R S g (λ _=>False) H1 (jF c sv).length)by
  have⟨v,H',hc,W',y,q2,q3⟩:=h.elim
  grind
 refine qtm ?_;obtain⟨w0,w1,w7,w9,j,z,B,A,K⟩:=Γ M ⟨B5,Nc⟩;have lp:∀{d:ar},Fr g H1 d->Op.ae [.ptr p 0] d=B1 (.ptr b 0):=λ f=>by rw[xv (qt (by rw[f.ah _ (by omega) p3,p2];exact hp))];rfl
 have r0:=Fr.refl (W:=g) H1;have⟨c1,N,G,U⟩:=hI 0 g H1 m;have l2:Op.ae [.ptr b 2] H1=B1 sv:=N.Og 2;have ln:Op.dg [sv]=B1 (.int .i64 ((c.sl.length:Nat):Int)):=by rw[<-G];exact(N.sl.sl jc).len
 simp only[aa,bc,w0,w1,lp r0,kw,w7,w9,qk,l2,ln];refine dA.intro (λ n E d=>∃(i:Nat)(V:Nat->Prop),E=[(11,.int .i64 (i:Int)),(10,.int .i64 ((c.sl.length:Nat):Int)),(0,.fn (.yield Y) [] []),(1,.ptr p 0)]/\n=c.sl.length-i/\i<=c.sl.length/\JU R g H1 d ((Ig i).filter λ k=>(c.en k).st != 0).length V) ?_ ?_
 .exact ⟨_,_,⟨0,g,rfl,rfl,xu _,⟨m,λ b hb=>(by grind),Fr.refl _⟩⟩,by simp only[aa,bc]⟩
 rintro n E d ⟨i,V,rfl,rfl,hi,a⟩;rcases xp i c.sl.length with hlt|hge
 .have y:(i:Int)<((c.sl.length:Nat):Int):=by omega
  have⟨T,F,hl',J⟩:=hI _ V d a.hR;have u:Op.ae [.ptr b 2] d=B1 sv:=F.Og 2;have t:i<T.sl.length:=by omega
  have ix:=F.ix t;have ls:Op.ae [.ptr (aG sv) (cw 21 sv i+1)] d=B1 (.int .i64 (c.en i).st):=by rw[<-J i];exact F.ld t (k:=1) (by decide)
  have Q:aj .i64 ((i:Int)+1)=((i+1:Nat):Int):=by grind [jr]
  have O:=Mr (λ k=>(c.en k).st != 0) i
  by_cases C:(c.en i).st=0
  .have s:((Ig (i+1)).filter λ k=>(c.en k).st != 0).length=((Ig i).filter λ k=>(c.en k).st != 0).length:=by rw[O];simp[C]
   simp only[aa,bc,j,y,z,A,lp a.fr,qk,u,ix,ls,qr C,B,Q];exact⟨_,_,⟨i+1,V,rfl,rfl,by omega,by rw[s];exact a⟩,by simp only[aa,bc],by omega⟩
  .have s:((Ig (i+1)).filter λ k=>(c.en k).st != 0).length=((Ig i).filter λ k=>(c.en k).st != 0).length+1:=by rw[O];simp[C]
   have hg:(jF c sv)[((Ig i).filter λ k=>(c.en k).st != 0).length]? = B1 [eA sv i]:=by
    grind [jF,kF,Us]
   have⟨bb,L,D,hr,I,r,ht,hs⟩:=step _ _ hg V d a.hR a.hV (a.fr.mono λ _ _ q=>.inl q);have l:Fr g H1 L:=a.fr.trans I λ b q=>(a.hV b q).2;have o:∀b,D b->b<L.au/\(g b\/H1.au<=b):=λ b q=>⟨(r b q).1,(r b q).2.elim (λ w=>(a.hV b w).2) λ w=>.inr (xm a.fr.au w)⟩
   simp only[aa,bc,j,y,z,A,lp a.fr,qk,u,ix,ls,C,K];refine C3.vM hr ?_;cases bb with
   |true =>
    simp only[aa,bc,B,Q];exact⟨_,_,⟨i+1,D,rfl,rfl,by omega,⟨by grind,o,l⟩⟩,by simp only[aa,bc],by omega⟩
   |false =>
    simp only[aa,bc,B6];exact⟨D,l.mono λ _ _ q=>.inl q,o,.inr (hs rfl)⟩
 .have y:¬(i:Int)<((c.sl.length:Nat):Int):=by omega
  have hiw:i=c.sl.length:=by omega
  simp only[aa,bc,j,y,K9];refine⟨V,a.fr.mono λ _ _ q=>.inl q,a.hV,.inl ?_⟩;have e:(jF c sv).length=((Ig i).filter λ k=>(c.en k).st != 0).length:=by grind [jF,kF]
  rw[e];exact a.hR
def VL{H:ar}(b:Nat):xz M VH [.ptr b 0] H λ v H'=>v=.fn (.func Nc) [] [.ptr H.au 0]/\H'=H.alloc (OR [.ptr b 0] ww):=by
 refine q0d ?_;simp_all[aa,q0e]
structure CL(c:Ca)(g:En->En)(i:Nat)(c':Ca):Prop where
 cu:c'.cu=c.cu
 ways:c'.ways=c.ways
 us:c'.us=c.us
 len:c'.sl.length=c.sl.length
 en:∀k,k<c.sl.length->c'.en k=if k∈(kF c).take i then g (c.en k)else c.en k
def CL.zero(c:Ca)(g:En->En):CL c g 0 c:=⟨rfl,rfl,rfl,rfl,λ k hk=>by simp⟩
def q9l(c:Ca):(kF c).Nodup:=List.Nodup.sublist (List.filter_sublist) List.nodup_range
def NH{c:Ca}{k:Nat}:k∈kF c↔k<c.sl.length/\(c.en k).st≠0:=by
 grind [kF]
def xdl{l:List Nat}(h:l.Nodup){i k:Nat}(hk:l[i]? = B1 k):k∉l.take i:=by
 grind [vn,List.pairwise_iff_getElem]
def CL.step{c a:Ca}{g:En->En}{i k:Nat}(h:CL c g i a)(hk:(kF c)[i]? = B1 k):a.en k=c.en k/\CL c g (i+1) (a.set k (g (c.en k))):=by
 have hm:=NH.1 (xl hk);have hn:=xdl (q9l c) hk;have he:a.en k=c.en k:=by rw[h.en k hm.1,qn hn]
 refine⟨he,h.cu,h.ways,h.us,by show(a.sl.set k _).length=_;rw[xw];exact h.len,λ j d=>?_⟩;rw[Bq (by rw[h.len];omega),I6,hk]
 by_cases q:k=j
 .grind
 .rw [qn q,h.en j d]
  grind
def CL.done{c a:Ca}{g:En->En}(h:CL c g (kF c).length a)(hg:∀e:En,e.st=0->g e=e):a = {c with sl:=c.sl.map g}:=by
 have d:a.sl=c.sl.map g:=by
  refine j0 λ k=>?_;rcases xp k c.sl.length with q|q
  .rw [C0 (by rw[h.len];exact q),xr,C0 q,h.en k q,zh (qg _)];simp_all[NH]
  .rw [jf (by rw[h.len];exact q),jf (by rw[zj];exact q)]
 have⟨s,w,l,u⟩:=a;have f:=h.cu;have i:=h.ways;have j:=h.us
 grind
structure IC(c:Ca)(g:En->En)(b:Nat)(sv:AV)(i:Nat)(V:Nat->Prop)(Hx:ar):Prop where
 vb:V b
 vs:V (aG sv)
 ex:∃c',dF Hx b sv c'/\CL c g i c'
def dF.loc{a Hb:ar}{b:Nat}{sv:AV}{c:Ca}(h:dF a b sv c)(j:Hb.get b=a.get b)(e:Hb.get (aG sv)=a.get (aG sv))(hn:a.au<=Hb.au):dF Hb b sv c :=
 ⟨by rw[j];exact h.row,qj h.lt hn,by
  have⟨sb,d,f,g⟩:=h.sl;have i:aG sv=sb:=by rw[d];rfl
  rw[i]at e;exact⟨sb,d,qj f hn,by rw[e];exact g⟩,h.ne,h.s8,h.w4,h.us⟩
def IC.loc{c:Ca}{g:En->En}{b:Nat}{sv:AV}{i:Nat}{V:Nat->Prop}{a Hb:ar}(h:IC c g b sv i V a)(hs:∀x,V x->Hb.get x=a.get x)(hn:a.au<=Hb.au):IC c g b sv i V Hb:=by
 have⟨d,e,f⟩:=h.ex;exact⟨h.vb,h.vs,d,e.loc (hs _ h.vb) (hs _ h.vs) hn,f⟩
def IC.hI{c:Ca}{g:En->En}(hg:∀e:En,(g e).st=e.st){b:Nat}{sv:AV}{i:Nat}{V:Nat->Prop}{d:ar}(h:IC c g b sv i V d):YG b sv c d:=by
 have⟨f,j,a⟩:=h.ex;refine⟨f,j,a.len,λ k=>?_⟩;rcases xp k c.sl.length with q|q
 .rw [a.en k q];split
  .exact hg _
  .rfl
 .rw [TG q,TG (by rw[a.len];exact q)]
section
variable{H:ar}{b:Nat}{sv:AV}{c:Ca}{lines line:Int}
def yc(E:dF H b sv c)(hl:c.sl.length<=40):xz M Jr [.ptr b 0] H λ _ H'=>dF H' b sv c.aT/\Fr (lV b sv) H H':=by
 refine qtj ?_;have⟨w0,wa,wb,w2,R,S⟩:=Vl M ⟨B5,Jr⟩;simp only[aa,bc,w0,w2,kw,R];refine C3.q (VL b) λ v H5⟨hv,hh⟩=>?_;have⟨H1,e1,U,n1,g1⟩:=de H (OR [.ptr b 0] ww);rw[<-e1]at hh;rw[hv,hh];have F:=E.em U;have hlt:=E.lt;have hsb:aG sv<H.au:=E.sl.lt;refine iL.rG (fn:=Ok) (lp:=Mj) (pa:=SU 0) (pb:=QS 0) qry wz.1 wz.2 (by decide) Ω qqf
  (VF (b:=b) (sv:=sv) (c:=c) g1 (by omega) hl) (λ i V T=>IC c nO b sv i V T) (λ _ _ _=>False) (lV b sv) (qg _) ?_ ?_ ?_ ?_ ?_ ?_ ?_ ?_ ?_
 .rintro x (q|q)
  .exact ⟨by omega,rfl,λ w=>w.elim (by omega) λ w=>by omega⟩
  grind
 .exact λ x z=>z.elim (by omega) λ q=>by omega
 .exact ⟨.inl rfl,.inr rfl,c,F,CL.zero c nO⟩
 .exact λ i V Ha Hb h hs hn=>h.loc hs hn
 .grind
 .exact λ i V T h=>h.hI PN
 .intro f i lr lb x z hL2 V l s hV hf6 hnL hL6 K;unfold jF at z;rw[xr,xh]at z;obtain⟨k,hk,rfl⟩:=z;refine⟨_,rfl,?_⟩;obtain⟨-,wa,wb,-⟩:=Vl M ⟨B1 f,Jr⟩;simp only[aa,bc,wa,DQ];refine⟨K,?_⟩;have fx:Fr (On f) l (l.set f lb):=(Fr.refl l).set (W:=On f) (.inl rfl) _;have gL:(l.set f lb).get f=B1 lb:=xb ..;have nL:(l.set f lb).au=l.au:=rfl;have D:=s.loc (Hb:=l.set f lb) (by grind [jx]) (qg _);generalize l.set f lb=H7 at *;have⟨a,h7,ht⟩:=D.ex;have⟨hek,P⟩:=ht.step hk;have hm:=NH.1 (xl hk);have p:k<a.sl.length:=by rw[ht.len];omega
  have⟨H8,s8,h8,f8⟩:=h7.cQ p (j:=2) (by decide) (u:=.bool B2) rfl (e:={a.en k with r:=B2}) rfl;have N:k<(a.set k {a.en k with r:=B2}).sl.length:=by show k<(a.sl.set k _).length;grind
  have⟨H9,s9,Z,f9⟩:=h8.cQ N (j:=3) (by decide) (u:=.bool B2) rfl (e:={(a.set k {a.en k with r:=B2}).en k with w:=B2}) rfl;rw[HO p,NA]at Z;have O:k<(a.set k {a.en k with r:=B2,w:=B2}).sl.length:=by show k<(a.sl.set k _).length;grind
  have⟨t,Q,m,B⟩:=Z.Pg O (j:=12) (n:=8) (u:=.agg (dO .zero)) (by grind [zb,yp]) (by grind [zb,vN]) (by decide) (e:={(a.set k {a.en k with r:=B2,w:=B2}).en k with o:=.zero}) (FV _ _);rw[HO p,NA]at m;have ec:({a.en k with r:=B2,w:=B2,o:=.zero}:En)=nO (c.en k):=by simp_all[nO]
  have m:dF t b sv (a.set k (nO (c.en k))):=by grind
  have g:Fr (On (aG sv)) H7 t:=(f8.trans f9 λ _ q=>.inl q).trans B λ _ q=>.inl q;have C:f≠aG sv:=λ q=>(by omega)
  have n710:=g.au;simp only[aa,bc,wb,lZ,Ee,qk,s8,s9,Q];refine⟨rfl,by rw[g.ah f (by omega) (λ(q:f=aG sv)=>C q)];exact gL,V,λ y hy=>⟨by have:=(hV y hy).1;omega,.inl hy⟩,(fx.mono λ y _ q=>.inr q).trans g λ y(q:y=aG sv)=>.inl (.inl (by rw[q];exact s.vs)),.inl ⟨rfl,s.vb,s.vs,_,m,P⟩⟩
 .intro d V A hd1 hd2 L J hVd s;have⟨a,X,Y⟩:=s.ex;have el:(jF c sv).length=(kF c).length:=by grind [jF]
  rw[el]at Y;have e:a=c.aT:=Y.done λ e h=>by simp_all[nO]
  rw[e]at X;have G:d≠b:=by omega
  have I:d≠aG sv:=by omega
  have fo:Fr (On d) A (A.set d (.deferred B5)):=(Fr.refl A).set (W:=On d) (.inl rfl) _;have fW:Fr (lV b sv) H A:=(pW U).trans J λ y q=>q.elim (λ w=>.inl w) Ja;simp only[aa,bc,S,Gd];exact⟨L,X.fr fo (λ(q:b=d)=>G q.symm) (λ(q:aG sv=d)=>I q.symm),fW.set (.inr (by omega)) _⟩
 grind
end
end Go.Am
namespace Go.Am
open Go.Proofs Ca
variable{M:ak}[MK M]
def kU(e:En):En:=if e.st≠0/\e.w=B4 then{e with d:=e.o}else e
def A2(e:En):(kU e).st=e.st:=by grind [kU]
def Cj(e:En):nO (kU e)=back e:=by
 unfold nO back;rw[A2]
 by_cases h:e.st=0
 .simp_all [kU]
 .rw [qn h,qn h];unfold kU
  grind
def xct(c:Ca):Ca.aT {c with sl:=c.sl.map kU} = c.discard:=by
 unfold Ca.aT Ca.discard;simp only[Ep];congr 1;exact List.map_congr_left λ e _=>Cj e
section
variable{H:ar}{b:Nat}{sv:AV}{c:Ca}{lines line:Int}
def q63(F:dF H b sv c)(hl:c.sl.length<=40):xz M JE [.ptr b 0] H λ _ H'=>dF H' b sv c.discard/\Fr (lV b sv) H H':=by
 refine qrz ?_;have⟨w0,wa,R,w2,P,Q⟩:=UX M ⟨B5,JE⟩;simp only[aa,bc,w0,w2,kw,P];refine C3.q (VL b) λ v H5⟨hv,hh⟩=>?_;have⟨H1,e1,X,n1,g1⟩:=de H (OR [.ptr b 0] ww);rw[<-e1]at hh;rw[hv,hh];have G:=F.em X;have hlt:=F.lt;have hsb:aG sv<H.au:=F.sl.lt;refine iL.rG (fn:=O2) (lp:=Mu) (pa:=TD 0) (pb:=Rv 0) qqg WH.1 WH.2 (by decide) _M _n
  (VF (b:=b) (sv:=sv) (c:=c) g1 (by omega) hl) (λ i V T=>IC c kU b sv i V T) (λ _ _ _=>False) (lV b sv) (qg _) ?_ ?_ ?_ ?_ ?_ ?_ ?_ ?_ ?_
 .rintro x (q|q)
  .exact ⟨by omega,rfl,λ w=>w.elim (by omega) λ w=>by omega⟩
  grind
 .exact λ x t=>t.elim (by omega) λ q=>by omega
 .exact ⟨.inl rfl,.inr rfl,c,G,CL.zero c kU⟩
 .exact λ i V Ha Hb h hs hn=>h.loc hs hn
 .grind
 .exact λ i V T h=>h.hI A2
 .intro f i lr lb x t hL2 V g l hV hf6 hnL hL6 K;unfold jF at t;rw[xr,xh]at t;obtain⟨k,hk,rfl⟩:=t;refine⟨_,rfl,?_⟩;obtain⟨-,wa,R,-⟩:=UX M ⟨B1 f,JE⟩;simp only[aa,bc,wa,DQ];refine⟨K,?_⟩;have Z:Fr (On f) g (g.set f lb):=(Fr.refl g).set (W:=On f) (.inl rfl) _;have gL:(g.set f lb).get f=B1 lb:=xb ..;have nL:(g.set f lb).au=g.au:=rfl;have E:=l.loc (Hb:=g.set f lb) (by grind [jx]) (qg _);generalize g.set f lb=H7 at *;have⟨a,A,ht⟩:=E.ex;have⟨hek,p⟩:=ht.step hk;have hm:=NH.1 (xl hk);have m:k<a.sl.length:=by rw[ht.len];omega
  have D:f≠aG sv:=λ q=>(by omega)
  have lw:Op.ae [.ptr (aG sv) (cw 21 sv k+3)] H7=B1 (.bool (a.en k).w):=A.ld m (k:=3) (by decide);cases hw:(a.en k).w with
  |true =>
   rw[hw]at lw;have⟨H8,s8,h8,B⟩:=A.Pg m (j:=4) (n:=8) (u:=.agg (dO (a.en k).o)) (by grind [zb,yp]) (by grind [zb,vN]) (by decide) (e:={a.en k with d:=(a.en k).o}) (Fb _ _);have U:({a.en k with d:=(a.en k).o}:En)=kU (c.en k):=by
    simp_all[kU]
   have h8:dF H8 b sv (a.set k (kU (c.en k))):=by grind
   have n78:=B.au;simp only[aa,bc,R,qk,lw,A.ldO m,s8];exact⟨rfl,by rw[B.ah f (by omega) (λ(q:f=aG sv)=>D q)];exact gL,V,λ y O=>⟨by have:=(hV y O).1;omega,.inl O⟩,(Z.mono λ y _ q=>.inr q).trans B λ y(q:y=aG sv)=>.inl (.inl (by rw[q];exact l.vs)),.inl ⟨rfl,l.vb,l.vs,_,h8,p⟩⟩
  |false =>
   rw[hw]at lw;have U:a.set k (kU (c.en k))=a:=by
    have hu:kU (c.en k)=a.en k:=by
     simp_all[kU]
    rw[hu];unfold Ca.set Ca.en;simp_all
   rw[U]at p;simp only[aa,bc,R,qk,lw];exact⟨rfl,gL,V,λ y O=>(by grind),Z.mono λ y _ q=>.inr q,.inl ⟨rfl,l.vb,l.vs,_,A,p⟩⟩
 .intro d V S hd1 I L J hVd l;have⟨a,h1,C⟩:=l.ex;have el:(jF c sv).length=(kF c).length:=by grind [jF]
  rw[el]at C;have e:a = {c with sl:=c.sl.map kU}:=C.done λ e h=>by simp_all[kU]
  have r:d≠b:=by omega
  have s:d≠aG sv:=by omega
  have fW:Fr (lV b sv) H S:=(pW X).trans J λ y q=>q.elim (λ w=>.inl w) Ja;simp only[aa,bc,Q];refine C3.q (yc h1 (by rw[C.len];exact hl)) λ _ z⟨h3,Y⟩=>?_;rw[e,xct]at h3;have N:z.get d=B1 (.deferred (B1 [])):=by rw[Y.ah d I (λ q=>q.elim r s)];exact L
  have fo:Fr (On d) z (z.set d (.deferred B5)):=(Fr.refl z).set (W:=On d) (.inl rfl) _;simp only[aa,bc,Gd];exact⟨N,h3.fr fo (λ(q:b=d)=>r q.symm) (λ(q:aG sv=d)=>s q.symm),(sD fW Y).set (.inr (by omega)) _⟩
 .exact λ e d V S _ _ _ _ _ _ h=>h.elim
end
end Go.Am
namespace Go.Am
open Go.Proofs Ca
variable{M:ak}[MK M]
def nE(s w:Nat):Ca:=⟨s,w,Fh (s*w) .zero,0⟩
def SH(s w k:Nat):(nE s w).en k=.zero:=by
 grind [Ca.en,nE]
def ad3(lines:Int){s w:Nat}(hs:0<s)(hw:0<w):CI lines (nE s w) :=
 ⟨zt ..,hs,hw,λ i _ h=>by rw[SH]at h;exact absurd rfl h,λ i j _ _ h=>by rw[SH]at h;exact absurd rfl h⟩
def π(s w:Nat):(nE s w).plain:=λ i _ h=>by rw[SH]at h;exact absurd rfl h
def YQ:∀n:Nat,(Fh n En.zero).flatMap aD=fp n (aD .zero)
 |0=>rfl
 |n+1=>by rw[LW,jv,YQ n];rfl
def qE(s w:Int):Prop:=1<=s/\s<=8/\1<=w/\w<=4
instance(s w:Int):Decidable (qE s w):=inferInstanceAs (Decidable (_/\_))
def P6(H:ar)(s w:Int)(v:AV)(H':ar):Prop:=Fr Em H H'/\(¬qE s w/\v=.tuple [.nilp,.int .i64 2]\/qE s w /\ ∃b sv,v=.tuple [.ptr b 0,.int .i64 0]/\dF H' b sv (nE s.toNat w.toNat)/\H.au<=b/\H.au<=aG sv)
def e_{H:ar}(s w:Int):xz M Tx [.int .i64 s,.int .i64 w] H (P6 H s w):=by
 refine af9 ?_;obtain⟨w0,g,k⟩:=Bp M ⟨B5,Tx⟩
 by_cases f:s<1
 .simp only[aa,bc,w0,g,f];exact⟨Fr.refl _,.inl ⟨λ q=>by have:=q.1;omega,rfl⟩⟩
 by_cases h:8<s
 .simp only[aa,bc,w0,g,f,h];exact⟨Fr.refl _,.inl ⟨λ q=>by have:=q.2.1;omega,rfl⟩⟩
 by_cases i:w<1
 .simp only[aa,bc,w0,g,f,h,i];exact⟨Fr.refl _,.inl ⟨λ q=>by have:=q.2.2.1;omega,rfl⟩⟩
 by_cases o:4<w
 .simp only[aa,bc,w0,g,f,h,i,o];exact⟨Fr.refl _,.inl ⟨λ q=>by have:=q.2.2.2;omega,rfl⟩⟩
 obtain⟨a,rfl⟩:=jk (show 0<=s by omega);obtain⟨d,rfl⟩:=jk (show 0<=w by omega);have u:a*d<=8*4:=Nat.mul_le_mul (by omega) (by omega);have x:aj .i64 ((a:Int)*(d:Int))=((a*d:Nat):Int):=by grind [jr]
 have mk:=RV xe 160 (aD .zero) (a*d) .i64 .i64 (by omega) (by omega);rw[<-YQ]at mk;obtain⟨H1,l,r,n1,-⟩:=de H (OR ((Fh (a*d) En.zero).flatMap aD) xe);obtain⟨sv,e⟩:∃sv:AV,sv=.slice H.au 0 (a*d) (a*d):=⟨_,rfl⟩
 have j:Op.sliceTo (a*d) (a*d) H.au=sv:=by rw[e];rfl
 have v:aG sv=H.au:=by rw[e];rfl
 have p:Op.build [.int .i64 0,.int .i64 0,.nils,.int .i64 0] [(0,1),(1,1),(2,1)] [.int .i64 (a:Int),.int .i64 (d:Int),sv]=B1 (.agg (CA (nE a d) sv)):=by rw[e];rfl
 obtain⟨y,m,n,-,t⟩:=de H1 (OR (CA (nE a d) sv) R6);simp only[aa,bc,w0,g,f,h,i,o,k,x,eZ,mk,j,<-l,p,<-m];refine⟨r.trans n λ _ q=>q.elim,.inr ⟨⟨by omega,by omega,by omega,by omega⟩,_,sv,rfl,⟨t,by rw[m,xt];omega,⟨H.au,?_,?_,?_⟩,by omega,by show a<=8;omega,by show d<=4;omega,⟨vE _,by show(0:Int)<=1000000;decide⟩⟩,by omega,by omega⟩⟩
 .show sv=.slice H.au 0 (Fh (a*d) En.zero).length (Fh (a*d) En.zero).length
  grind
 .grind [xt]
 .rw [n.ah _ (by omega) id,l,xf];rfl
end Go.Am
namespace Go.Am
open Go.Proofs Ca
open Lang (ints)
variable{M:ak}[MK M]
def oe(ks:List Nat)(z:Int):Int:=match cY (λ i=>(ks[i]?.getD 0:Int) == z) ks.length with
 |some i=>i
 |none=>-1
section
variable{H H0:ar}{v:AV}{ks:List Nat}
def O6(h:eS gJ 1 H v ks){i:Nat}(c:i<ks.length):Op.aN 1 [v,.int .i64 (i:Int)]=B1 (.ptr (aG v) (cw 1 v i))/\Op.ae [.ptr (aG v) (cw 1 v i)] H=B1 (.int .i64 (ks[i]?.getD 0:Nat)):=by
 have a:ks[i]? = B1 ks[i]:=by grind
 refine⟨h.idx a rfl .i64,?_⟩;rw[h.nj yV a (by decide),a];rfl
def G_(h:eS gJ 1 H v ks)(hl:ks.length<=1000000)(z:Int):xz M RR [v,.int .i64 z] H λ r H'=>r=.int .i64 (oe ks z)/\H'=H:=by
 refine qsb ?_;obtain⟨w0,o,p,l,d,g⟩:=qsc M ⟨B5,RR⟩;simp only[aa,bc,w0,o,h.len];refine dA.intro (λ n E j=>∃i:Nat,E=[(8,.int .i64 (i:Int)),(7,.int .i64 ((ks.length:Nat):Int)),(0,v),(1,.int .i64 z)]/\n=ks.length-i/\i<=ks.length/\j=H /\ ∀k,k<i->((ks[k]?.getD 0:Int) == z)=B2) ?_ ?_
 .exact ⟨_,_,⟨0,rfl,rfl,xu _,rfl,λ k hk=>by omega⟩,by simp only[aa,bc]⟩
 rintro n E j ⟨i,rfl,rfl,t,rfl,c⟩;rcases xp i ks.length with a|m
 .have f:(i:Int)<((ks.length:Nat):Int):=by omega
  have⟨ix,ld⟩:=O6 h a;have s:aj .i64 ((i:Int)+1)=((i+1:Nat):Int):=by grind [jr]
  by_cases q:z=((ks[i]?.getD 0:Nat):Int)
  .simp only[aa,bc,l,f,d,ix,ld,qr q];unfold oe;rw[Ji a (by simp[<-q]) c]
  .simp only[aa,bc,l,f,d,ix,ld,q,g,s];refine⟨_,_,⟨i+1,rfl,rfl,by omega,λ k hk=>?_⟩,by simp only[aa,bc],by omega⟩
   by_cases e:k=i
   .rw [e];simpa using λ w=>q w.symm
   .exact c k (by omega)
 .have f:¬(i:Int)<((ks.length:Nat):Int):=by omega
  have e:i=ks.length:=by omega
  simp_all[aa,oe,IX]
def Df{z:Int}:0<=oe ks z↔z∈ints ks:=by
 unfold oe;cases d:cY (λ i=>(ks[i]?.getD 0:Int) == z) ks.length with
 |some i =>
  obtain⟨a,b,-⟩:=Fp d;refine⟨λ _=>?_,λ _=>by show(0:Int)<=(i:Nat);omega⟩;have c:ks[i]? = B1 ks[i]:=by simp[a]
  rw[c]at b;have b:((ks[i]:Nat):Int)=z:=by simpa using b
  rw[<-b];exact CD.2 ⟨ks[i],xl c,rfl⟩
 |none =>
  refine⟨λ q=>by grind,λ q=>?_⟩;exfalso;have⟨k,hk,e⟩:=CD.1 q
  grind [vn,QP]
def Xn(h:eS gJ 1 H v ks)(hl:ks.length<=1000000)(z:Int):xz M VA [v,.int .i64 z] H λ r H'=>r=.bool (decide (z∈ints ks))/\H'=H:=by
 refine qoh ?_;simp only[aa,bc,Ξ];refine C3.q (G_ h hl z) λ r H1⟨hr,a⟩=>?_;rw[hr,a];simp only[aa,bc];exact congrArg AV.bool (decide_eq_decide.2 Df)
def Yn{t:Nat}{line:Int}(x:Int)(hl:Op.ae [.ptr t 2] H=B1 (.int .i64 line)):xz M TB [.int .i64 x,.ptr t 0] H λ r H'=>r=.bool (decide (x=line))/\H'=H:=by
 refine qr5 ?_
 by_cases q:x=line
 .simp only[aa,bc,Ys,hl,qr q]
 .simp only[aa,bc,Ys,hl,q]
abbrev EP(t:Nat):AV:=.fn (.func TB) [] [.ptr t 0]
def _w{t:Nat}{line:Int}(hl:Op.ae [.ptr t 2] H=B1 (.int .i64 line))(h:eS gJ 1 H v ks)(hk:ks.length<=1000000):xz M P5 [v,EP t] H λ r H'=>r=.int .i64 (oe ks line)/\H'=H:=by
 refine C_ ?_;obtain⟨w0,o,p,s,d,f⟩:=Z6 M ⟨B5,P5⟩;simp only[aa,bc,w0,o,h.len];refine dA.intro (λ n E g=>∃i:Nat,E=[(8,.int .i64 (i:Int)),(7,.int .i64 ((ks.length:Nat):Int)),(0,v),(1,EP t)]/\n=ks.length-i/\i<=ks.length/\g=H /\ ∀k,k<i->((ks[k]?.getD 0:Int) == line)=B2) ?_ ?_
 .exact ⟨_,_,⟨0,rfl,rfl,xu _,rfl,λ k hk=>by omega⟩,by simp only[aa,bc]⟩
 rintro n E g ⟨i,rfl,rfl,w,rfl,c⟩;rcases xp i ks.length with a|l
 .have j:(i:Int)<((ks.length:Nat):Int):=by omega
  have⟨ix,ld⟩:=O6 h a;have u:aj .i64 ((i:Int)+1)=((i+1:Nat):Int):=by rw[jr (by omega) (by omega)];omega
  simp only[aa,bc,s,j,d,ix,ld];refine C3.q (Yn _ hl) λ r H1⟨hr,m⟩=>?_;rw[hr,m]
  by_cases q:((ks[i]?.getD 0:Nat):Int)=line
  .simp only[aa,bc,q];unfold oe;rw[Ji a (by simp[q]) c]
  .simp only[aa,bc,q,f,u];refine⟨_,_,⟨i+1,rfl,rfl,by omega,λ k hk=>?_⟩,by simp only[aa,bc],by omega⟩
   grind
 .have j:¬(i:Int)<((ks.length:Nat):Int):=by omega
  have e:i=ks.length:=by omega
  simp_all[aa,oe,IX]
def ο(ks:List Nat)(rest:List AV){i:Nat}(a:i<ks.length)(y:Nat):(ks.flatMap gJ++rest).take i ++ [AV.int .i64 (y:Int)]++(ks.flatMap gJ++rest).drop (i+1)=(ks.set i y).flatMap gJ++rest:=by
 have hl:=sQ ks;rw[yx (by omega),List.drop_append_of_le_length (by omega),<-yo];congr 1;rw[MZ,MZ,List.map_set,List.set_eq_take_append_cons_drop,qv (by rw[zj];exact a)];simp
def mD.u9{e:Nat}(h:mD e H0 H v ks){i:Nat}(d:i<ks.length)(y:Nat):∃H',Op.store 1 [.ptr (aG v) (cw 1 v i),.int .i64 (y:Int)] H=B1 (.undef,H')/\mD e H0 H' v (ks.set i y)/\Fr (bm v) H H':=by
 rcases h.own with⟨rfl,rfl⟩|⟨b,m,rest,rfl,f,a,j,g⟩
 .grind
 .have st:=ql g (o:=i) (n:=1) (v:=.int .i64 (y:Int)) rfl (by grind [sQ]) rfl;have c:AV.cells (.int .i64 (y:Int))=[.int .i64 (y:Int)]:=rfl;rw[c,ο ks rest d]at st;have ho:cw 1 (AV.gslice b 0 m 1 0 ks.length) i=i:=by simp[cw]
  rw[ho];refine⟨_,st,⟨.inr ⟨b,m,rest,by rw[xw],f,a,by grind,xb ..⟩,h.fr.set (.inr a) _⟩,(Fr.refl H).set (W:=bm (AV.gslice b 0 m 1 0 ks.length)) (.inl ⟨by simp,rfl⟩) _⟩
theorem Px:∀n:Nat,fp n [AV.int .i64 0]=(Fh n 0).flatMap gJ
 |0=>rfl
 |n+1=>by rw[fp,LW,jv,<-Px n];rfl
theorem mD.nO{e:Nat}(h:mD e H0 H v ks){k:Nat}(hk:k<=ks.length):∃v2 H',Op.aJ 1 [B1 0,B5,B5] [v,.int .i64 (k:Int)]=B1 v2/\Op.bW [.int .i64 0] [v2] H=B1 (.tuple [],H')/\mD e H0 H' v (ks.take k++Fh (ks.length-k) 0)/\Fr (bm v) H H':=by
 rcases h.own with⟨rfl,rfl⟩|⟨b,m,rest,rfl,w,l,B,x⟩
 .have:k=0:=by simpa using hk
  subst this;have f:bound B5 0 0=B1 0:=rfl;refine⟨.nils,H,by simp only[Op.aJ,arg,kX,zx,qm,ei,f];rfl,rfl,h,Fr.refl _⟩
 .have j:∀n,FW n n=true:=λ n=>by simp
  have c:∀d m,bound B5 d m=B1 d:=λ _ _=>rfl;refine⟨.gslice b (0+k) m 1 (cond (FW k 0) 0 (0*1)) (ks.length-k),?_⟩;have sl:Op.aJ 1 [B1 0,B5,B5] [AV.gslice b 0 m 1 0 ks.length,.int .i64 (k:Int)]=B1 (.gslice b (0+k) m 1 (cond (FW k 0) 0 (0*1)) (ks.length-k)):=by
   simp only[Op.aJ,arg,kX,zx,qm,ei,c,ug (z:=(k:Int)) (k:=k) rfl hk .i64,j,kr (show ks.length<=m-0 by omega),kr (xu m),jb,xg]
  have hle:(ks.take k).length=k:=by grind
  by_cases u:ks.length-k=0
  .refine ⟨H,sl,?_,?_,Fr.refl _⟩
   .rw [u];rfl
   grind [zh]
  .have q:eL (.gslice b (0+k) m 1 (cond (FW k 0) 0 (0*1)) (ks.length-k))=B1 (ks.length-k):=rfl;have p:FW (ks.length-k) 0=false:=by grind [je]
   have g:KI 0 (ks.length-k)=true:=by grind [KI,kr]
   have a:KI (0+k+0) m=true:=by grind [KI,kr]
   have he:elemAt 1 (.gslice b (0+k) m 1 (cond (FW k 0) 0 (0*1)) (ks.length-k)) 0=B1 (b,(0+k)*1+0*1):=by
    simp only[elemAt,g,j,a,jb,xg]
   have s:H.store b ((0+k)*1+0*1) (fp (ks.length-k) [.int .i64 0])=B1 (H.set b (.grown m 1 ((ks.take k++Fh (ks.length-k) 0).flatMap gJ++rest) e (0,0))):=by
    have ha:aP (fp (ks.length-k) [AV.int .i64 0])=true:=by
     grind [Px,ym,MZ,aC]
    have t:dS (0,0) ((0+k)*1+0*1) (cF (fp (ks.length-k) [AV.int .i64 0]))=true:=by simp[dS]
    simp only[ar.store,ha,xg,x,t,Ct];have i:(fp (ks.length-k) [AV.int .i64 0]).length=ks.length-k:=by grind [Px,sQ]
    have o:(0+k)*1+0*1=k:=by omega
    have y:(ks.flatMap gJ++rest).take k=(ks.take k).flatMap gJ:=by
     grind [MZ,List.map_take]
    have A:(ks.flatMap gJ++rest).drop (k+(ks.length-k))=rest:=by
     grind [sQ,List.drop_left]
    rw[o,qv (by grind [sQ]),qm,i,y,A,Px,<-yi]
   refine⟨H.set b (.grown m 1 ((ks.take k++Fh (ks.length-k) 0).flatMap gJ++rest) e (0,0)),sl,?_,⟨.inr ⟨b,m,rest,?_,w,l,?_,xb ..⟩,h.fr.set (.inr l) _⟩,(Fr.refl H).set (W:=bm (AV.gslice b 0 m 1 0 ks.length)) (.inl ⟨by simp,rfl⟩) _⟩
   .simp_all [Op.bW]
   .rw [xk,hle,zt];congr 1;omega
   .rw [xk,hle,zt];omega
def vO(ks:List Nat)(line:Int):List Nat:=ks.filter λ k=>((k:Nat):Int) != line
def q9a{t:Nat}{line:Int}{e:Nat}(hl:∀{f:ar},Fr (bm v) H f->Op.ae [.ptr t 2] f=B1 (.int .i64 line))(h:mD e H0 H v ks)(hk:ks.length<=1000000) :
 xz M Qj [v,EP t] H λ r H'=>mD e H0 H' r (vO ks line)/\Fr (bm v) H H' /\ ∀x,bm r x->bm v x:=by
 refine _s ?_;obtain⟨w0,w4,K,N,u,L,w⟩:=qlr M ⟨B5,Qj⟩;simp only[aa,bc,w0];refine C3.q (_w (hl (Fr.refl _)) h.sl hk) λ r H1⟨hr,B⟩=>?_;rw[hr,B];cases hf:cY (λ i=>(ks[i]?.getD 0:Int) == line) ks.length with
 |none =>
  have A:oe ks line = -1:=by grind [oe]
  have U:vO ks line=ks:=by
   grind [vO,List.filter_eq_self,vn,QP]
  rw[A,U];have O:=qr (show(-1:Int) = -1 from rfl);simp only[aa,bc,w4];exact⟨h,Fr.refl _,λ x q=>q⟩
 |some a =>
  have⟨a1,y,a3⟩:=Fp hf;have A:oe ks line=(a:Int):=by grind [oe]
  rw[A];have O:¬(a:Int) = -1:=by omega
  have z:aj .i64 ((a:Int)+1)=((a+1:Nat):Int):=by grind [jr]
  -- what is kept of the first ones
  have ah:∀j,(ks.take (j+1)).filter (λ k=>((k:Nat):Int) != line)=(ks.take j).filter (λ k=>((k:Nat):Int) != line)++(match ks[j]? with|none=>[]|some k=>if((k:Nat):Int)=line then[]else[k]):=λ j=>by
   grind [I6]
  have Y:(ks.take a).filter (λ k=>((k:Nat):Int) != line)=ks.take a:=by
   rw[List.filter_eq_self];intro k C;have⟨i,hi⟩:=vn C
   grind
  have p:ks[a]? = B1 ks[a]:=by grind
  have Z:(ks.take (a+1)).filter (λ k=>((k:Nat):Int) != line)=ks.take a:=by
   rw[ah,Y,p];rw[p]at y;have y:((ks[a]:Nat):Int)=line:=by simpa using y
   simp[y]
  simp only[aa,bc,w4,O,K,z];refine dA.intro (λ n E f=>∃(i j:Nat)(c:List Nat),E=[(6,.int .i64 (j:Int)),(5,.int .i64 (i:Int)),(0,v),(1,EP t)]/\n=ks.length-j/\i<j/\j<=ks.length/\c.length=ks.length/\c.take i=(ks.take j).filter (λ k=>((k:Nat):Int) != line)/\c.drop j=ks.drop j/\mD e H0 f v c/\Fr (bm v) H f) ?_ ?_
  .exact ⟨_,_,⟨a,a+1,ks,rfl,rfl,by omega,by omega,rfl,Z.symm,rfl,h,Fr.refl _⟩,by simp only[aa,bc]⟩
  rintro n E f ⟨i,j,c,rfl,rfl,hij,hj,s,m,F,hs,d⟩;have g:=hs.sl.len;rw[s]at g;rcases xp j ks.length with hlt|hge
  .have J:(j:Int)<((ks.length:Nat):Int):=by omega
   have⟨ix,ld⟩:=O6 hs.sl (i:=j) (by omega);obtain⟨I,-⟩:=O6 hs.sl (i:=i) (by omega);have G:c[j]? = ks[j]?:=by
    have:=congrArg (λ l=>l[0]?) F
    simpa[yt]using this
   obtain⟨k,o⟩:∃k,ks[j]? = B1 k:=(by grind)
   rw[G,o]at ld;have ld:Op.ae [.ptr (aG v) (cw 1 v j)] f=B1 (.int .i64 (k:Int)):=ld;have z:aj .i64 ((j:Int)+1)=((j+1:Nat):Int):=by grind [jr]
   have wi:aj .i64 ((i:Int)+1)=((i+1:Nat):Int):=by grind [jr]
   have hd2:∀l:List Nat,l.drop (j+1)=(l.drop j).drop 1:=λ l=>by rw[FU]
   simp only[aa,bc,u,g,J,L,ix,ld];refine C3.q (Yn _ (hl d)) λ r H2⟨hr,B⟩=>?_;rw[hr,B]
   by_cases q:(k:Int)=line
   .simp only[aa,bc,qr q,w,z];exact⟨_,_,⟨i,j+1,c,rfl,rfl,by omega,by omega,s,by grind,by grind,hs,d⟩,by simp only[aa,bc],by omega⟩
   .have ⟨P,s3,D,X⟩:=hs.u9 (i:=i) (by omega) k;simp only[aa,bc,q,I,s3,wi,w,z];refine⟨_,_,⟨i+1,j+1,c.set i k,rfl,rfl,by omega,by omega,by grind,?_,?_,D,d.trans X λ _ q=>.inl q⟩,by simp only[aa,bc],by omega⟩
    .rw [ah,o,<-m,I6,zf (by omega),List.take_set_of_le (qg i)];simp[q]
    grind [List.drop_set_of_lt]
  .have J:¬(j:Int)<((ks.length:Nat):Int):=by omega
   have W:j=ks.length:=by omega
   subst W;rw[zh (qg _)]at m;have⟨v2,P,Q,R,S,T⟩:=hs.nO (k:=i) (by omega);have⟨v3,d1,d2,d3⟩:=S.cut (k:=i) (by grind) rfl .i64;have V:(c.take i++Fh (c.length-i) 0).take i=vO ks line:=by
    rw[yx (by rw[Is];omega),List.take_take,Nat.min_self,m];rfl
   rw[V]at d2;simp only[aa,bc,u,g,J,N,Q,R,d1];exact⟨d2,d.trans T λ _ q=>.inl q,d3⟩
end
end Go.Am
namespace Go.Am
open Go.Proofs Ca
open Lang (ints)
variable{M:ak}[MK M]
def ao(m:Mg):List AV:=.int .i64 m.k::.int .i64 m.core::.int .i64 m.line::dO m.d
theorem x9(m:Mg):(ao m).length=11:=by simp[ao,dO,m.d.h]
theorem wh(m:Mg):aP (ao m)=true:=by simp_all[ym,ao,aC]
def pO(n:No)(b:Nat)(bv:AV):List AV:=.int .i64 n.core::.int .i64 n.lines::.ptr b 0::(ao n.out ++ [bv,.bool n.live,.int .i64 n.code])
structure cN(H0 H:ar)(r b:Nat)(sv bv:AV)(n:No)(ks:List Nat):Prop where
 row:H.get r=B1 (OR (pO n b bv) Ni)
 lt:r<H.au
 ca:dF H b sv n.c
 bk:mD cM H0 H bv ks
 eq:n.aR=ints ks
 lr:H0.au<=r
 lb:H0.au<=b
 ls:H0.au<=aG sv
 n1:r≠b
 n2:r≠aG sv
 o1:¬bm bv r
 o2:¬bm bv b
 o3:¬bm bv (aG sv)
 li:2<=n.lines/\n.lines<=64
 len:n.c.sl.length<=40
def iI(r b:Nat)(sv bv:AV):Nat->Prop:=λ x=>x=r\/lV b sv x\/bm bv x
def qM(H0 H:ar)(r b:Nat)(sv bv:AV)(n':No)(H':ar):Prop:=∃bv' ks',cN H0 H' r b sv bv' n' ks'/\Fr (iI r b sv bv) H H' /\ ∀x,bm bv' x->bm bv x\/H.au<=x
section
variable{H0 H:ar}{r b:Nat}{sv bv:AV}{n:No}{ks:List Nat}
def cN.em{H':ar}(h:cN H0 H r b sv bv n ks)(f:Fr Em H H'):cN H0 H' r b sv bv n ks :=
 ⟨by rw[f.ah _ h.lt id];exact h.row,qj h.lt f.au,h.ca.em f,h.bk.em f,h.eq,h.lr,h.lb,h.ls,h.n1,h.n2,h.o1,h.o2,h.o3,h.li,h.len⟩
def cN.same(h:cN H0 H r b sv bv n ks){H':ar}(f:Fr Em H H'):qM H0 H r b sv bv n H':=⟨bv,ks,h.em f,f.mono λ _ _ q=>q.elim,λ x q=>.inl q⟩
theorem CZ(n:No)(b:Nat)(bv:AV):(pO n b bv)[0]? = B1 (.int .i64 n.core)/\(pO n b bv)[1]? = B1 (.int .i64 n.lines)/\(pO n b bv)[2]? = B1 (.ptr b 0)/\(pO n b bv)[3]? = B1 (.int .i64 n.out.k)/\(pO n b bv)[14]? = B1 bv/\(pO n b bv)[15]? = B1 (.bool n.live)/\(pO n b bv)[16]? = B1 (.int .i64 n.code)/\((pO n b bv).drop 3).take 11=ao n.out/\(pO n b bv).length=17:=by
 have⟨core,lines,c,⟨k,co,l,⟨d,a⟩⟩,aR,live,code⟩:=n
 match d,a with
 |[d0,d1,d2,d3,d4,d5,d6,d7],_=>exact⟨rfl,rfl,rfl,rfl,rfl,rfl,rfl,rfl,rfl⟩
def cN.ld(h:cN H0 H r b sv bv n ks)(k:Nat):Op.ae [.ptr r k] H=(pO n b bv)[k]?:=xv (qt h.row) k
def cN.l0(h:cN H0 H r b sv bv n ks):Op.ae [.ptr r 0] H=B1 (.int .i64 n.core):=(h.ld 0).trans (CZ n b bv).1
def cN.l1(h:cN H0 H r b sv bv n ks):Op.ae [.ptr r 1] H=B1 (.int .i64 n.lines):=(h.ld 1).trans (CZ n b bv).2.1
def cN.l2(h:cN H0 H r b sv bv n ks):Op.ae [.ptr r 2] H=B1 (.ptr b 0):=(h.ld 2).trans (CZ n b bv).2.2.1
def cN.l3(h:cN H0 H r b sv bv n ks):Op.ae [.ptr r 3] H=B1 (.int .i64 n.out.k):=(h.ld 3).trans (by grind [CZ])
def cN.sF(h:cN H0 H r b sv bv n ks):Op.ae [.ptr r 14] H=B1 bv:=(h.ld 14).trans (by grind [CZ])
def cN.ij(h:cN H0 H r b sv bv n ks):Op.ae [.ptr r 15] H=B1 (.bool n.live):=(h.ld 15).trans (by grind [CZ])
def cN.lo(h:cN H0 H r b sv bv n ks):Op.av 11 [.ptr r 3] H=B1 (.agg (ao n.out)):=by
 obtain⟨-,-,-,-,-,-,-,e,l⟩:=CZ n b bv;rw[sf (qt h.row) (by omega),e]
theorem cN.put(h:cN H0 H r b sv bv n ks){n':No}{o m:Nat}{u:AV}(hu:u.cells.length=m)(ho:aP u.cells=B4)(hm:o+m<=17)(e:(pO n b bv).take o++u.cells++(pO n b bv).drop (o+m)=pO n' b bv)(a:n'.c=n.c)(hb:n'.aR=n.aR)(hl:n'.lines=n.lines) :
 ∃H',Op.store m [.ptr r o,u] H=B1 (.undef,H')/\cN H0 H' r b sv bv n' ks/\Fr (On r) H H':=by
 have st:=ta h.row (o:=o) (n:=m) (v:=u) hu (by grind [CZ]) ho;rw[e]at st;have f:Fr (On r) H (H.set r (OR (pO n' b bv) Ni)):=(Fr.refl H).set (W:=On r) (.inl rfl) _;refine⟨_,st,⟨xb ..,h.lt,by rw[a];exact h.ca.fr f (λ(q:b=r)=>h.n1 q.symm) (λ(q:aG sv=r)=>h.n2 q.symm),h.bk.sr f (h.bk.fr.set (.inr h.lr) _) (λ x hx(q:x=r)=>h.o1 (q▸hx)),by rw[hb];exact h.eq,h.lr,h.lb,h.ls,h.n1,h.n2,h.o1,h.o2,h.o3,by rw[hl];exact h.li,by rw[a];exact h.len⟩,f⟩
def cN.qU(h:cN H0 H r b sv bv n ks)(q:Bool):∃H',Op.store 1 [.ptr r 15,.bool q] H=B1 (.undef,H')/\cN H0 H' r b sv bv {n with live:=q} ks/\Fr (On r) H H' :=
 h.put (n':={n with live:=q}) (o:=15) (m:=1) (u:=.bool q) rfl rfl (by decide) (by
  have⟨core,lines,c,⟨k,co,l,⟨d,a⟩⟩,aR,live,code⟩:=n
  match d,a with
  |[d0,d1,d2,d3,d4,d5,d6,d7],_=>rfl) rfl rfl rfl
def cN.tZ(h:cN H0 H r b sv bv n ks)(k:Int):∃H',Op.store 1 [.ptr r 16,.int .i64 k] H=B1 (.undef,H')/\cN H0 H' r b sv bv {n with code:=k} ks/\Fr (On r) H H' :=
 h.put (n':={n with code:=k}) (o:=16) (m:=1) (u:=.int .i64 k) rfl rfl (by decide) (by
  have⟨core,lines,c,⟨k,co,l,⟨d,a⟩⟩,aR,live,code⟩:=n
  match d,a with
  |[d0,d1,d2,d3,d4,d5,d6,d7],_=>rfl) rfl rfl rfl
def cN.zO(h:cN H0 H r b sv bv n ks)(m:Mg):∃H',Op.store 11 [.ptr r 3,.agg (ao m)] H=B1 (.undef,H')/\cN H0 H' r b sv bv {n with out:=m} ks/\Fr (On r) H H' :=
 h.put (n':={n with out:=m}) (o:=3) (m:=11) (u:=.agg (ao m)) (by grind [zb,x9]) (by grind [zb,wh]) (by decide) (by
  have⟨core,lines,c,⟨k,co,l,⟨d,f⟩⟩,aR,live,code⟩:=n;have⟨k',co',g,⟨e,a⟩⟩:=m
  match d,f,e,a with
  |[d0,d1,d2,d3,d4,d5,d6,d7],_,[e0,e1,e2,e3,e4,e5,e6,e7],_=>rfl) rfl rfl rfl
def cN.hC(h:cN H0 H r b sv bv n ks){c:Ca}{H':ar}(d:dF H' b sv c)(f:Fr (lV b sv) H H')(hl:c.sl.length<=40):cN H0 H' r b sv bv {n with c:=c} ks :=
 ⟨by rw[f.ah _ h.lt (λ q=>q.elim h.n1 h.n2)];exact h.row,qj h.lt f.au,d,h.bk.sr f (h.bk.fr.trans f λ x q=>q.elim (λ q=>.inr (by rw[q];exact h.lb)) λ q=>.inr (by rw[q];exact h.ls)) (λ x a q=>q.elim (λ q=>h.o2 (q▸a)) λ q=>h.o3 (q▸a)),h.eq,h.lr,h.lb,h.ls,h.n1,h.n2,h.o1,h.o2,h.o3,h.li,hl⟩
def qM.of{n':No}{H':ar}{a:List Nat}(h:cN H0 H' r b sv bv n' a)(f:Fr (iI r b sv bv) H H'):qM H0 H r b sv bv n' H':=⟨bv,a,h,f,λ x q=>.inl q⟩
def IH{H1 a:ar}(f:Fr (On r) H1 a):Fr (iI r b sv bv) H1 a:=f.mono λ _ _ q=>.inl q
theorem uk{H1 a:ar}(f:Fr (lV b sv) H1 a):Fr (iI r b sv bv) H1 a:=f.mono λ _ _ q=>.inr (.inl q)
theorem mf{H1 a:ar}(f:Fr Em H1 a):Fr (iI r b sv bv) H1 a:=f.mono λ _ _ q=>q.elim
theorem i5{H1 a c:ar}(f:Fr (iI r b sv bv) H1 a)(g:Fr (iI r b sv bv) a c):Fr (iI r b sv bv) H1 c:=f.trans g λ _ q=>.inl q
def RC(h:cN H0 H r b sv bv n ks)(a:Int):xz M QJ [.ptr r 0,.int .i64 a] H λ v H'=>v=.int .i64 (if n.may a then 0 else 2)/\H'=H:=by
 refine q03 ?_;obtain⟨w0,e,d⟩:=_H M ⟨B5,QJ⟩;have hl:=h.li;have g:aj .i64 (n.lines*8)=n.lines*8:=(by grind [jr])
 by_cases c:a<0
 .have hm:¬n.may a:=λ q=>by have:=q.1;omega
  simp only[aa,bc,w0,e,kw,c]
  grind
 by_cases f:n.lines*8<=a
 .have hm:¬n.may a:=λ q=>by have:=q.2;omega
  simp only[aa,bc,w0,e,kw,c,qk,h.l1,g,f]
  grind
 .have hm:n.may a:=⟨by omega,by omega⟩
  simp only[aa,bc,w0,e,kw,c,qk,h.l1,g,f,d];rw[qv hm]
def mZ:[AV.int .i64 0,.int .i64 0,.int .i64 0,.int .u64 0,.int .u64 0,.int .u64 0,.int .u64 0,.int .u64 0,.int .u64 0,.int .u64 0,.int .u64 0]=ao ⟨0,0,0,.zero⟩:=rfl
def OM(k co l:Int):Op.build (ao ⟨0,0,0,.zero⟩) [(0,1),(1,1),(2,1)] [.int .i64 k,.int .i64 co,.int .i64 l]=B1 (.agg (ao ⟨k,co,l,.zero⟩)):=rfl
def CP(h:cN H0 H r b sv bv n ks)(k line:Int):xz M Vj [.ptr r 0,.int .i64 k,.int .i64 line] H λ v H'=>v=.agg (ao (n.msg k line))/\Fr Em H H':=by
 refine q05 ?_;obtain⟨H1,d,a,-,e⟩:=de H (OR (ao ⟨0,0,0,.zero⟩) qy);have s1:=ir e (x9 _) (x9 (n.msg k line)) (wh _);have ld:=gn (xb H1 H.au (OR (ao (n.msg k line)) qy)) (x9 _);have c:Op.build (ao ⟨0,0,0,.zero⟩) [(0,1),(1,1),(2,1)] [.int .i64 k,.int .i64 n.core,.int .i64 line]=B1 (.agg (ao (n.msg k line))):=OM ..;simp only[aa,bc,q06,mZ,<-d,qk,(h.em a).l0,c,s1,ld];exact a.set (by omega) _
def xgc(h:cN H0 H r b sv bv n ks):xz M VV [.ptr r 0] H λ v H'=>v=.bool n.live/\H'=H:=by
 refine qv8 ?_;simp only[aa,bc,qv9,jV,qk,h.ij]
def I3(h:cN H0 H r b sv bv n ks)(k:Int):xz M WL [.ptr r 0,.int .i64 k] H λ _ H'=>cN H0 H' r b sv bv (n.iJ k) ks/\Fr (iI r b sv bv) H H':=by
 refine F' ?_;simp only[aa,bc,qtz,qk,h.l2];refine C3.q (q63 h.ca h.len) λ _ H1⟨g,d⟩=>?_;have a:=h.hC g d (by show(n.c.sl.map back).length<=40;rw[zj];exact h.len);have⟨m,s2,i,e⟩:=a.qU B2;have⟨o,l,j,f⟩:=i.tZ k;simp only[aa,bc,qk,s2,l];exact⟨j,i5 (i5 (uk d) (IH e)) (IH f)⟩
def xb8(h:cN H0 H r b sv bv n ks)(k:Int):xz M Qc [.ptr r 0,.int .i64 k] H λ v H'=>v=.int .i64 (n.abort k).2/\cN H0 H' r b sv bv (n.abort k).1 ks/\Fr (iI r b sv bv) H H':=by
 refine T' ?_;obtain⟨w0,i,e,a⟩:=qts M ⟨B5,Qc⟩;have ij:=h.ij;cases hl:n.live with
 |false =>
  simp_all[No.abort,aa,kw,qk,Fr.refl]
 |true =>
  rw[hl]at ij
  by_cases f:k<1
  .simp_all [No.abort,aa,kw,qk,Fr.refl]
  by_cases g:7<k
  .have c:n.abort k=(n,2):=by simp_all[No.abort]
   rw[c];simp only[aa,bc,w0,i,kw,qk,ij,a,f,g]
   grind [Fr.refl]
  have c:n.abort k=(n.iJ k,0):=by simp_all[No.abort]
  rw[c];simp only[aa,bc,w0,i,kw,qk,ij,a,f,g,e];refine C3.q (I3 h k) λ _ H1⟨d,j⟩=>?_;simp only[aa,bc];exact⟨d,j⟩
end
end Go.Am
namespace Go.Am
open Go.Proofs Ca
open Lang (ints)
variable{M:ak}[MK M]
def mM(H H':ar)(v:AV)(ms:List Mg):Prop:=eS ao 11 H' v ms/\(ms≠[]->H.au<=aG v)
theorem mM.nil(H H':ar):mM H H' .nils []:=⟨⟨rfl,rfl⟩,λ q=>absurd rfl q⟩
def wJ(m:Mg):Op.buildSlice qy 1 (ao ⟨0,0,0,.zero⟩) [(0,11)] [.agg (ao m)]=B1 (OR (ao m) qy,Op.sliceTo 1 1):=Uz qy 11 (ao ⟨0,0,0,.zero⟩) (.agg (ao m)) (x9 _) (by grind [zb,x9])
def GD{H:ar}(m:Mg):fU ao qy 11 (H.alloc (OR (ao m) qy)) (Op.sliceTo 1 1 H.au) [m]:=⟨H.au,rfl,by grind [xt],by rw[xf];simp⟩
def GG{H H0:ar}(m:Mg)(h:H0.au<=H.au):mM H0 (H.alloc (OR (ao m) qy)) (Op.sliceTo 1 1 H.au) [m]:=⟨(GD m).sl x9,λ _=>h⟩
section
variable{H0 H:ar}{r b:Nat}{sv bv:AV}{n:No}{ks:List Nat}
def cN.kl(h:cN H0 H r b sv bv n ks):n.aR.length=ks.length:=by rw[h.eq];unfold ints;grind
def T8(h:cN H0 H r b sv bv n ks)(hk:n.aR.length<=900000)(k line:Int):xz M TO [.ptr r 0,.int .i64 k,.int .i64 line] H λ v H'=>mM H H' v (n.ask k line).2/\cN H0 H' r b sv bv (n.ask k line).1 ks/\Fr (iI r b sv bv) H H':=by
 refine _A ?_;obtain⟨w0,m,f⟩:=Λ M ⟨B5,TO⟩;have s:=h.kl
 by_cases i:n.out.k=0
 .simp only[aa,bc,w0,m,qk,h.l3,qr i,h.sF];refine C3.q (Xn h.bk.sl (by omega) line) λ v H1⟨e,p⟩=>?_;rw[e,p,<-h.eq]
  by_cases j:line∈n.aR
  .have a:n.ask k line=(n,[]):=by simp_all[No.ask]
   rw[a];simp only[aa,bc,qr j]
   grind [mM.nil,Fr.refl]
  .have a:n.ask k line=({n with out:=n.msg k line},[n.msg k line]):=by simp_all[No.ask]
   rw[a];simp only[aa,bc,j,f];refine C3.q (CP h k line) λ v u⟨e,g⟩=>?_;rw[e];have⟨d,t,l,o⟩:=(h.em g).zO (n.msg k line);have lo:=l.lo;have c:Fr (iI r b sv bv) H d:=i5 (mf g) (IH o);simp only[aa,bc,qk,t,lo,mZ,wJ];exact⟨GG _ c.au,l.em ((Fr.refl d).alloc _),i5 c (mf ((Fr.refl d).alloc _))⟩
 .have a:n.ask k line=(n,[]):=by simp_all[No.ask]
  rw[a];simp only[aa,bc,w0,m,qk,h.l3,i]
  grind [mM.nil,Fr.refl]
def mg{H1:ar}(e:En):Op.store 21 [.ptr H1.au 0,.agg (aD e)] (H1.alloc (OR (aD .zero) xe))=B1 (.undef,(H1.alloc (OR (aD .zero) xe)).set H1.au (OR (aD e) xe)):=ir (xf ..) (jc _) (jc e) (wI e)
theorem wN{H1:ar}(o o':bB):Fr Em H1 ((H1.alloc o).set H1.au o'):=((Fr.refl H1).alloc _).set (by omega) _
def Vo{line:Int}(h:cN H0 H r b sv bv n ks)(a:CI n.lines n.c):xz M Wq [.ptr r 0,.int .i64 line] H λ v H'=>v=.bool (n.owned line)/\Fr Em H H':=by
 refine qt0 ?_;simp only[aa,bc,qt1,qk,h.l2];refine C3.q (Ru h.ca a line) λ v H1⟨f,d⟩=>?_;rw[f];unfold p9 No.owned;cases i:n.c.find line with
 |none =>
  simp only[aa,bc,xc,eZ,mg];exact d.trans (wN _ _) λ _ q=>q.elim
 |some e =>
  have l1:Op.ae [.ptr H1.au 1] ((H1.alloc (OR (aD .zero) xe)).set H1.au (OR (aD e) xe))=B1 (.int .i64 e.st):=xv (qt (xb ..)) 1;have g:Fr Em H ((H1.alloc (OR (aD .zero) xe)).set H1.au (OR (aD e) xe)):=d.trans (wN _ _) λ _ q=>q.elim
  by_cases q:e.st=2
  .simp only[aa,bc,xc,eZ,mg,l1,qr q]
   grind
  simp_all[aa,xc,eZ,mg]
def rU(H0 H:ar)(r b:Nat)(sv bv:AV)(n:No)(ks:List Nat)(a:Int)(v:AV)(H':ar):Prop:=(∃ov,v=.tuple [.int .u64 (n.load a).2.1,.bool (n.load a).2.2.1,ov,.int .i64 (n.load a).2.2.2.2]/\mM H H' ov (n.load a).2.2.2.1)/\cN H0 H' r b sv bv (n.load a).1 ks/\Fr (iI r b sv bv) H H'
def Z7(h:cN H0 H r b sv bv n ks)(j:CI n.lines n.c)(hk:n.aR.length<=900000)(hu:n.c.us+1<=1000000)(a:Int):xz M Mn [.ptr r 0,.int .i64 a] H (rU H0 H r b sv bv n ks a):=by
 refine qwb ?_;obtain⟨w0,V,F,G,y,I⟩:=qwc M ⟨B5,Mn⟩;simp only[aa,bc,w0,V];refine C3.q (RC h a) λ v H1⟨x,S⟩=>?_;rw[x,S]
 by_cases hm:n.may a
 case neg =>
  have o:n.load a=(n,0,B2,[],2):=by simp_all[No.load]
  have U:¬(2:Int)=0:=by decide
  rw[qn hm];unfold rU;rw[o];simp only[aa,bc,U]
  grind [mM.nil,Fr.refl]
 rw[qv hm];have hl:=h.li;have⟨L,T⟩:=hm;obtain⟨f,rfl⟩:=jk L;have s:f<1000000:=by omega
 have P:No.ln (Int.ofNat f)=((f / 8:Nat):Int):=rfl;have Z:=qr (show(0:Int)=0 from rfl);simp only[aa,bc,F,Bw s,G,qk,h.l2];refine C3.q (Ru h.ca j ((f / 8:Nat):Int)) λ v H1⟨x,J⟩=>?_;rw[x];have C:n.may (f:Int):=⟨L,T⟩
 unfold p9;cases K:n.c.find ((f / 8:Nat):Int)with
 |none =>
  have o:n.load (f:Int)=((n.ask 1 ((f / 8:Nat):Int)).1,0,B2,(n.ask 1 ((f / 8:Nat):Int)).2,0):=by
   simp_all[No.load]
  have k:Fr Em H ((H1.alloc (OR (aD .zero) xe)).set H1.au (OR (aD .zero) xe)):=J.trans (wN _ _) λ _ q=>q.elim;simp only[aa,bc,xc,eZ,mg];refine C3.q (T8 (h.em k) hk 1 ((f / 8:Nat):Int)) λ v Y⟨w,hn,m⟩=>?_;unfold rU;rw[o];simp only[aa,bc];refine⟨⟨v,rfl,w.1,λ q=>xm k.au (w.2 q)⟩,hn,i5 (mf k) m⟩
 |some e =>
  obtain⟨i,hp,rfl⟩:=Om K;have k:Fr Em H ((H1.alloc (OR (aD .zero) xe)).set H1.au (OR (aD (n.c.en i)) xe)):=J.trans (wN _ _) λ _ q=>q.elim;obtain⟨Hb,l⟩:∃X,X=(H1.alloc (OR (aD .zero) xe)).set H1.au (OR (aD (n.c.en i)) xe):=⟨_,rfl⟩
  rw[<-l]at k;have hb:=h.em k;have ij:=hb.ij
  -- behind the mark
  have fin:∀{z:ar}{c:Ca},cN H0 z r b sv bv {n with c:=c} ks->CI n.lines c->c.us+1<=1000000->Fr (iI r b sv bv) H z->c=(if n.live then n.c.mark ((f / 8:Nat):Int) B2 else n.c)->c.pos ((f / 8:Nat):Int)=B1 i -> ∀{E:Env},lk E 0=B1 (.ptr r 0)->lk E 1=B1 (.int .i64 (f:Int)) ->
   W M ⟨B5,Mn⟩ (qwa 30) B4 (eR M [.tmp 4,.tmp 5,.tmp 6,.tmp 7] (tc (rU H0 H r b sv bv n ks (f:Int)))) E [] z:=by
   intro z c A t D m O g E Q R;have o:n.load (f:Int)=({n with c:=(c.word f).1},(c.word f).2.getD 0,B4,[],0):=by
    unfold No.load;rw[qv C];show(match n.c.find ((f / 8:Nat):Int)with|none=>_|some _=>_)=_;rw[K,O];rfl
   simp only[aa,bc,I,Q,qk,A.l2,R];refine C3.q (hQ A.ca t D s) λ v N⟨x,B,p⟩=>?_;rw[x];have hw:(c.word f).2=B1 ((c.en i).d.get (f % 8)):=by grind [Ca.word]
   unfold ui;rw[g];have hlen:(c.word f).1.sl.length<=40:=by
    have:=A.len;unfold Ca.word;rw[g];show(c.sl.set i _).length<=40;grind
   have hn:=A.hC B p hlen;unfold rU;rw[o,hw];simp only[aa,bc,xc];exact⟨⟨.nils,rfl,mM.nil ..⟩,hn,i5 m (uk p)⟩
  cases u:n.live with
  |false =>
   rw[u]at ij;simp only[aa,bc,xc,eZ,mg,<-l,y,qk,ij];exact fin (c:=n.c) (by omega) j hu (mf k) (by grind) hp rfl rfl
  |true =>
   rw[u]at ij;simp only[aa,bc,xc,eZ,mg,<-l,y,qk,ij,hb.l2];refine C3.q (YI hb.ca j ((f / 8:Nat):Int) B2) λ _ N⟨B,p⟩=>?_;have em:n.c.mark ((f / 8:Nat):Int) B2=n.c.set i {n.c.en i with r:=B4}:=by simp_all[Ca.mark,rz]
   have hlen:(n.c.mark ((f / 8:Nat):Int) B2).sl.length<=40:=by rw[em];show(n.c.sl.set i _).length<=40;rw[xw];exact h.len
   have g:(n.c.mark ((f / 8:Nat):Int) B2).pos ((f / 8:Nat):Int)=B1 i:=by
    rw[em];have sh:CJ n.c {n.c.set i {n.c.en i with r:=B4}with us:=n.c.us}:=CJ.set n.c.us rfl rfl;exact(sh.pos _).trans hp
   simp only[aa,bc];exact fin (c:=n.c.mark ((f / 8:Nat):Int) B2) (hb.hC B p hlen) (j.mark _ _) (by rw[em];exact hu) (i5 (mf k) (uk p)) (by grind) g rfl rfl
end
end Go.Am
namespace Go.Am
open Go.Proofs Ca
open Lang (ints)
variable{M:ak}[MK M]
section
variable{H0 H:ar}{r b:Nat}{sv bv:AV}{n:No}{ks:List Nat}
def xgw{line:Int}(h:n.owned line=B4):∃i,n.c.pos line=B1 i/\(n.c.en i).st=2:=by
 grind [No.owned,Om]
theorem Pd(c:Ca)(line:Int)(wr:Bool):(c.mark line wr).us=c.us/\(c.mark line wr).sl.length=c.sl.length:=by
 unfold Ca.mark;cases wr with
 |true =>
  rw[qv rfl];cases c.kG line 2 with
  |none=>grind
  |some i =>
   show(if(c.en i).w then c else c.set i _).us=_/\(if(c.en i).w then c else c.set i _).sl.length=_;split
   .omega
   .exact ⟨rfl,xw⟩
 |false =>
  rw[qn (by decide)];cases c.kG line 0 with
  |none=>grind
  |some i=>exact⟨rfl,xw⟩
theorem O5(c:Ca)(a:Nat)(y:Int):(c.put a y).sl.length=c.sl.length/\((c.put a y).us=c.us\/(c.put a y).us=c.us+1):=by
 grind [Ca.put]
def L4(c:Ca)(a:Nat):(c.word a).1.sl.length=c.sl.length/\((c.word a).1.us=c.us\/(c.word a).1.us=c.us+1):=by
 unfold Ca.word;cases c.pos ((a / 8:Nat):Int)with
 |none=>grind
 |some i=>exact⟨xw,.inr rfl⟩
def oR(H0 H:ar)(r b:Nat)(sv bv:AV)(n:No)(ks:List Nat)(a y:Int)(v:AV)(H':ar):Prop:=(∃ov,v=.tuple [.bool (n.store a y).2.1,ov,.int .i64 (n.store a y).2.2.2]/\mM H H' ov (n.store a y).2.2.1)/\cN H0 H' r b sv bv (n.store a y).1 ks/\Fr (iI r b sv bv) H H'
def L_(h:cN H0 H r b sv bv n ks)(e:CI n.lines n.c)(hk:n.aR.length<=900000)(hu:n.c.us+1<=1000000)(a y:Int):xz M KD [.ptr r 0,.int .i64 a,.int .u64 y] H (oR H0 H r b sv bv n ks a y):=by
 refine qtw ?_;obtain⟨w0,P,B,C,p,D⟩:=qtx M ⟨B5,KD⟩;simp only[aa,bc,w0,P];refine C3.q (RC h a) λ v H1⟨w,N⟩=>?_;rw[w,N]
 by_cases hm:n.may a
 case neg =>
  simp_all[No.store,oR,aa,mM.nil,Fr.refl]
 rw[qv hm];have hl:=h.li;have⟨F,O⟩:=hm;obtain⟨d,rfl⟩:=jk F;have i:d<1000000:=by omega
 have m:n.may (d:Int):=⟨F,O⟩
 have f:No.ln (d:Int)=((d / 8:Nat):Int):=rfl;have R:=qr (show(0:Int)=0 from rfl);simp only[aa,bc,B,Bw i,C];refine C3.q (Vo (line:=((d / 8:Nat):Int)) h e) λ v H1⟨w,g⟩=>?_;rw[w];have hb:=h.em g;cases ho:n.owned ((d / 8:Nat):Int)with
 |false =>
  have x:n.store (d:Int) y=((n.ask 2 ((d / 8:Nat):Int)).1,B2,(n.ask 2 ((d / 8:Nat):Int)).2,0):=by
   unfold No.store;rw[qv m,f,ho];rfl
  simp only[aa,bc];refine C3.q (T8 hb hk 2 ((d / 8:Nat):Int)) λ v Q⟨o,hn,k⟩=>?_;unfold oR;rw[x];simp only[aa,bc];exact⟨⟨v,rfl,o.1,λ q=>xm g.au (o.2 q)⟩,hn,i5 (mf g) k⟩
 |true =>
  have ij:=hb.ij;have fin:∀{s:ar}{c:Ca},cN H0 s r b sv bv {n with c:=c} ks->CI n.lines c->c.us+1<=1000000->Fr (iI r b sv bv) H s->c=(if n.live then n.c.mark ((d / 8:Nat):Int) B4 else n.c) -> ∀{E:Env},lk E 0=B1 (.ptr r 0)->lk E 1=B1 (.int .i64 (d:Int))->lk E 2=B1 (.int .u64 y) ->
   W M ⟨B5,KD⟩ (i_ 28) B4 (eR M [.tmp 6,.tmp 7,.tmp 8] (tc (oR H0 H r b sv bv n ks (d:Int) y))) E [] s:=by
   intro s c u j A k I E J K L;have x:n.store (d:Int) y=({n with c:=c.put d y},B4,[],0):=by
    unfold No.store;rw[qv m,f,ho,qv rfl,I];rfl
   simp only[aa,bc,D,J,qk,u.l2,K,L];refine C3.q (ZC u.ca j A i y) λ v G⟨w,z,t⟩=>?_;have hn:=u.hC z t (by rw[(O5 c d y).1];exact u.len);unfold oR;rw[x];simp only[aa,bc]
   grind [mM.nil,i5,uk]
  cases l:n.live with
  |false =>
   rw[l]at ij;simp only[aa,bc,p,qk,ij];exact fin (c:=n.c) (by omega) e hu (mf g) (by grind) rfl rfl rfl
  |true =>
   rw[l]at ij;simp only[aa,bc,p,qk,ij,hb.l2];refine C3.q (YI hb.ca e ((d / 8:Nat):Int) B4) λ _ G⟨z,t⟩=>?_;simp only[aa,bc];exact fin (c:=n.c.mark ((d / 8:Nat):Int) B4) (hb.hC z t (by rw[(Pd ..).2];exact h.len)) (e.mark _ _) (by grind [Pd]) (i5 (mf g) (uk t)) (by grind) rfl rfl rfl
def Q1(h:cN H0 H r b sv bv n ks)(x:En)(too:Bool):xz M Zj [.ptr r 0,.agg (aD x),.bool too] H λ _ H'=>cN H0 H' r b sv bv (n.lost x too) ks/\Fr (iI r b sv bv) H H':=by
 refine qwh ?_;obtain⟨H1,d,e,-,j⟩:=de H (OR (aD x) xe);have l0:Op.ae [.ptr H.au 0] H1=B1 (.int .i64 x.line):=xv (qt j) 0;have l2:Op.ae [.ptr H.au 2] H1=B1 (.bool x.r):=xv (qt j) 2;have l3:Op.ae [.ptr H.au 3] H1=B1 (.bool x.w):=xv (qt j) 3;have g:=h.em e;have stay:(x.w ||(x.r && too))=B2->n.lost x too=n:=λ q=>by grind [No.lost]
 have go2:(x.w ||(x.r && too))=B4->x.line=0->n.lost x too=n.iJ 2:=λ q k=>by simp_all[No.lost]
 have f:(x.w ||(x.r && too))=B4 -> ¬x.line=0->n.lost x too=n.iJ 1:=λ q k=>by simp_all[No.lost]
 cases hw:x.w with
 |true =>
  rw[hw]at l3
  by_cases q:x.line=0
  .rw [go2 (by rw[hw];rfl) q];simp only[aa,bc,JO,<-d,l3,l0,qr q];refine C3.q (I3 g 2) λ _ i⟨c,a⟩=>?_;simp only[aa,bc];exact⟨c,i5 (mf e) a⟩
  .rw [f (by rw[hw];rfl) q];simp only[aa,bc,JO,<-d,l3,l0,q];refine C3.q (I3 g 1) λ _ i⟨c,a⟩=>?_;simp only[aa,bc];exact⟨c,i5 (mf e) a⟩
 |false =>
  rw[hw]at l3;cases hr:x.r with
  |false =>
   rw[hr]at l2;rw[stay (by rw[hw,hr];rfl)];simp only[aa,bc,JO,<-d,l3,l2]
   grind [mf]
  |true =>
   rw[hr]at l2;cases too with
   |false =>
    rw[stay (by rw[hw,hr];rfl)];simp only[aa,bc,JO,<-d,l3,l2]
    grind [mf]
   |true =>
    by_cases q:x.line=0
    .rw [go2 (by rw[hw,hr];rfl) q];simp only[aa,bc,JO,<-d,l3,l2,l0,qr q];refine C3.q (I3 g 2) λ _ i⟨c,a⟩=>?_;simp only[aa,bc];exact⟨c,i5 (mf e) a⟩
    .rw [f (by rw[hw,hr];rfl) q];simp only[aa,bc,JO,<-d,l3,l2,l0,q];refine C3.q (I3 g 1) λ _ i⟨c,a⟩=>?_;simp only[aa,bc];exact⟨c,i5 (mf e) a⟩
end
end Go.Am
