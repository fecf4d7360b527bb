import Derived.Test.YtbpnpfalldaocaaGreatDoorAmCZf
import Derived.Test.YtbpnpfalldaocaaGreatDoorAmCZi
import Derived.Test.YtbpnpfalldaocaaGreatDoorAmCZg
import Derived.Test.YtbpnpfalldaocaaGreatDoorAmCZh
set_option linter.defProp false
set_option linter.unusedVariables false
set_option linter.unusedSimpArgs false
set_option linter.unusedSectionVars false
set_option maxRecDepth 100000
open Bool renaming false→B2,true→B4
open False renaming elim→Ja
open List renaming range→Ig,replicate→Fh
open Nat renaming beq→FW
open Option renaming isSome→AG,none→B5,some→B1
open Nat renaming reduceEqDiff→bc
namespace Go.Am
open Lang Go.Proofs
def At(H:ar)(p t:Nat)(c:List AV):Prop:=H.get p=B1 (OR c t)/\p<H.au
section
variable{H H':ar}{p t:Nat}{c:List AV}
def At.ld(h:At H p t c)(k:Nat):Op.ae [.ptr p k] H=c[k]?:=xv (qt h.1) k
def At.gn(h:At H p t c){k n:Nat}(hn:k+n<=c.length):Op.av n [.ptr p k] H=B1 (.agg ((c.drop k).take n)):=sf (qt h.1) hn
def At.ir(h:At H p t c){k n:Nat}{v:AV}(b:v.cells.length=n)(hn:k+n<=c.length)(a:aP v.cells=B4):Op.store n [.ptr p k,v] H=B1 (.undef,H.set p (OR (c.take k++v.cells++c.drop (k+n)) t)):=ta h.1 b hn a
def zE{α:Type}:∀(c:List α)(k:Nat)(v:α),k<c.length->c.take k ++ [v]++c.drop (k+1)=c.set k v
 |[],k,v,h=>absurd h (Nat.not_lt_zero _)
 |x::c,0,v,_=>rfl
 |x::c,k+1,v,h=>congrArg (x :: ·) (zE c k v (Nat.lt_of_succ_lt_succ h))
def C4{v:AV}(h:aC v=B4):v.cells=[v]:=by
 cases v<;>first|rfl|cases h
def At.st(h:At H p t c)(k:Nat){v:AV}(a:aC v=B4)(hk:k<c.length):Op.store 1 [.ptr p k,v] H=B1 (.undef,H.set p (OR (c.set k v) t)):=by
 have e:=C4 a;rw[h.ir (n:=1) (by rw[e];rfl) hk (by rw[e,ym];simp[a]),e,zE c k v hk]
theorem At.set(h:At H p t c)(a:List AV):At (H.set p (OR a t)) p t a:=⟨xb ..,h.2⟩
def At.fr{W:Nat->Prop}(h:At H p t c)(f:Fr W H H')(hw:¬W p):At H' p t c:=⟨(f.ah p h.2 hw).trans h.1,qj h.2 f.au⟩
def At.em(h:At H p t c)(f:Fr Em H H'):At H' p t c:=h.fr f id
def At.new(H:ar)(c:List AV)(t:Nat):At (H.alloc (OR c t)) H.au t c:=⟨xf ..,zd _⟩
def cW(H:ar)(p:Nat)(o:bB):Fr (On p) H (H.set p o):=(Fr.refl H).set (W:=On p) (.inl rfl) o
end
variable{M:ak}[MK M]
def dX{f:Nat}{vs:List AV}{H:ar}{v:AV}(h:xz M f vs H λ w X=>w=v/\X=H)(K:Bool->AV->ar->Prop):C3 M B4 (.func f) vs H K=K B4 v H:=by
 obtain⟨w,X,⟨n1,d⟩,rfl,rfl⟩:=h.elim;refine propext ⟨?_,λ k=>⟨w,X,⟨n1,d⟩,k⟩⟩;rintro⟨e,X',⟨n2,g⟩,k⟩;have a:=d (max n1 n2) (by omega);rw[g (max n1 n2) (by omega)]at a;injection a with a
 injection a with a b
 injection b with _ b
 injection a with a
 subst a;subst b;exact k
def aw:(∀b o H,Op.eq .ptr B2 [.ptr b o,.nilp] H=B1 (.bool B2))/\(∀b o H,Op.eq .ptr B4 [.ptr b o,.nilp] H=B1 (.bool B4))/\(∀H,Op.eq .ptr B2 [.nilp,.nilp] H=B1 (.bool B4))/\(∀H,Op.eq .ptr B4 [.nilp,.nilp] H=B1 (.bool B2))/\(∀b o,Op.nilCheck [.ptr b o]=B1 (.ptr b o))/\(∀i l,Op.extract i [.tuple l]=l[i]?):=⟨kw,jV,JZ,rM,qk,xc⟩
def vx{o:Nat->Nat}{n k z:Nat}(h:z<n):bw o n k z=o z:=qv h
def mG{o:Nat->Nat}{n k z:Nat}(h:n<=z):bw o n k z=k:=qn (by omega)
def bX(x:Fi)(pv:AV):List AV:=x.rs.map uC ++ [.int .i64 x.pc,pv,.bool B4]
def fD(x:List Int×Int):List AV:=x.1.map uC ++ [.int .i64 x.2]
structure Tu(x:List Int×Int):Prop where
 r8:x.1.length=8
 ru:∀v∈x.1,fm v
 pc:0<=x.2
def Mx(H:ar)(o:Nat->Nat)(f:Nat)(pv:AV):Option (List Int×Int)->Prop
 |none=>pv=.nilp
 |some x=>Tu x /\ ∃b,pv=.ptr b 0/\At H b LO (fD x)/\o b=2/\b≠f
structure oP(H:ar)(o:Nat->Nat)(f:Nat)(x:Fi):Prop where
 w:Tu (x.rs,x.pc)
 at':∃pv,At H f Ex (bX x pv)/\Mx H o f pv x.pt
section
variable{H H':ar}{o o':Nat->Nat}{f:Nat}{x:Fi}
def Jf{rs:List Int}(h:rs.length=8)(k:Nat)(l:List AV):(rs.map uC++l)[8+k]? = l[k]?:=by
 rw[z7 (by simp[h])];simp[h]
def EW{rs:List Int}(h:rs.length=8)(l:List AV):(rs.map uC++l).length=8+l.length:=by simp[h]
def Pu{rs:List Int}(h:rs.length=8)(l:List AV)(n:Nat):(rs.map uC++l).take (8+n)=rs.map uC++l.take n:=by
 rw[show 8+n=(rs.map uC).length+n by simp[h],List.take_length_add_append]
def HY{rs:List Int}(h:rs.length=8)(l:List AV)(n:Nat):(rs.map uC++l).drop (8+n)=l.drop n:=by
 rw[show 8+n=(rs.map uC).length+n by simp[h],vi]
def Mx.fr{W:Nat->Prop}{pv:AV}{x:Option (List Int×Int)}(h:Mx H o f pv x)(a:Fr W H H')(hw:∀z,z<H.au->o z=2->z≠f -> ¬W z)(ho:∀z,z<H.au->o' z=o z):Mx H' o' f pv x:=by
 cases x with
 |none=>exact h
 |some x =>
  have⟨i,b,j,d,e,g⟩:=h;exact⟨i,b,j,d.fr a (hw b d.2 e g),(ho b d.2).trans e,g⟩
def oP.fr{W:Nat->Prop}(h:oP H o f x)(a:Fr W H H')(e:o f=2)(hw:∀z,z<H.au->o z=2 -> ¬W z)(ho:∀z,z<H.au->o' z=o z):oP H' o' f x:=by
 have⟨pv,b,d⟩:=h.at';exact⟨h.w,pv,b.fr a (hw f b.2 e),d.fr a (λ z q w _=>hw z q w) ho⟩
def oP.em(h:oP H o f x)(a:Fr Em H H'):oP H' o f x:=by
 have⟨pv,b,d⟩:=h.at';exact⟨h.w,pv,b.em a,d.fr a (λ _ _ _ _ q=>q) λ _ _=>rfl⟩
def oP.row(h:oP H o f x){pv:AV}(a:At H f Ex (bX x pv))(b:Mx H o f pv x.pt){y:Fi}(d:Tu (y.rs,y.pc))(hp:y.pt=x.pt):oP (H.set f (OR (bX y pv) Ex)) (bw o H.au 2) f y :=
 ⟨d,pv,a.set _,hp▸b.fr (cW H f _) (λ z _ _ q=>q) λ z q=>vx q⟩
def oP.same(h:oP H o f x):oP H (bw o H.au 2) f x:=by
 have⟨pv,a,b⟩:=h.at';exact⟨h.w,pv,a,b.fr (Fr.refl H) (λ z _ _ _ q=>q) λ z q=>vx q⟩
def lA(h:oP H o f x):∀K,C3 M B4 (.func ZR) [.ptr f 0] H K=K B4 (.bool B2) H:=by
 obtain⟨pv,a,-⟩:=h.at';have l:=(a.ld 10).trans (Jf h.w.r8 2 _);refine dX (_D ?_);simp only[aa,bc,qwo,aw,l]
def kQ(h:oP H o f x):∀K,C3 M B4 (.func U9) [.ptr f 0] H K=K B4 (.int .i64 (if x.pt.isSome then 0 else 60)) H:=by
 have⟨pv,d,a⟩:=h.at';have l:=(d.ld 9).trans (Jf h.w.r8 1 _);refine dX (qr9 ?_);cases q:x.pt with
 |none =>
  rw[q]at a;have a:pv=.nilp:=a;subst a;simp only[aa,bc,Wg,aw,lA h,l,AG,za]
 |some y =>
  rw[q]at a;obtain⟨-,b,rfl,-⟩:=a;simp only[aa,bc,Wg,aw,lA h,l,AG]
def xD(h:oP H o f x)(i:Int):∀K,C3 M B4 (.func KF) [.ptr f 0,.int .i64 i] H K=K B4 (.int .i64 (if 0<=i/\i<8 then 0 else 2)) H:=by
 refine dX (_h ?_)
 by_cases a:i<0
 .simp only[aa,bc,Ta,lA h,a,qn (λ q:0<=i/\i<8=>Int.not_lt.2 q.1 a)]
 by_cases b:(8:Int)<=i
 .simp only[aa,bc,Ta,lA h,a,b,qn (λ q:0<=i/\i<8=>Int.not_lt.2 b q.2)]
 .simp only[aa,bc,Ta,lA h,a,b,qv (show 0<=i/\i<8 by omega)]
def HB(H:ar)(o:Nat->Nat)(f:Nat)(y:Fi)(H':ar):Prop:=oP H' (bw o H.au 2) f y/\Fr (On f) H H'
def Gv(h:oP H o f x)(i:Int){v:Int}(k:fm v):xz M QI [.ptr f 0,.int .i64 i,.int .u64 v] H λ _ H'=>HB H o f (x.set i v) H':=by
 refine q1i ?_;unfold Fi.set
 by_cases b:0<=i/\i<8
 .rw [qv b];have⟨pv,g,j⟩:=h.at';have d:=h.w.r8;obtain⟨a,rfl⟩:=jk b.1;have ha:a<8:=by omega
  have ix:Op.aW 8 1 [.ptr f 0,.int .i64 (a:Int)]=B1 (.ptr f a):=by rw[NZ rfl ha];simp
  have e:(bX x pv).set a (.int .u64 v)=bX {x with rs:=x.rs.set a v} pv:=by
   unfold bX;rw[List.set_append_left _ _ (by simp[d];exact ha),List.map_set];rfl
  have st:=g.st a (v:=.int .u64 v) rfl (by unfold bX;rw[EW d];omega);rw[e]at st;simp only[aa,bc,XS,aw,xD h,qv b,ix,st];refine⟨h.row g j ⟨by simp[d],λ y q=>(uy q).elim (h.w.ru y) λ e=>e▸k,h.w.pc⟩ rfl,cW ..⟩
 .rw [qn b];have m:¬(2:Int)=0:=by decide
  simp only[aa,bc,XS,xD h,qn b,m];exact⟨h.same,Fr.refl _⟩
def FT(h:oP H o f x)(i:Int):xz M U6 [.ptr f 0,.int .i64 i] H λ _ H'=>HB H o f (x.jump i) H':=by
 refine _Y ?_;unfold Fi.jump
 by_cases a:i<0
 .rw [qv a];simp only[aa,bc,XR,lA h,a];exact⟨h.same,Fr.refl _⟩
 .rw [qn a];have⟨pv,d,g⟩:=h.at';have b:=h.w.r8;have e:(bX x pv).set 8 (.int .i64 i)=bX {x with pc:=i} pv:=by
   unfold bX;rw[wn _ _ (by simp[b])];simp[b]
  have st:=d.st 8 (v:=.int .i64 i) rfl (by unfold bX;rw[EW b];simp);rw[e]at st;simp only[aa,bc,XR,aw,lA h,a,st];exact⟨h.row d g ⟨b,h.w.ru,Int.not_lt.1 a⟩ rfl,cW ..⟩
def UT(h:oP H o f x):∀K,C3 M B4 (.func WQ) [.ptr f 0] H K=K B4 (.int .i64 x.pc) H:=by
 obtain⟨pv,a,-⟩:=h.at';have l:=(a.ld 8).trans (Jf h.w.r8 0 _);refine dX (_R ?_);simp only[aa,bc,q20,aw,lA h,l]
def QB(h:oP H o f x):xz M Z2 [.ptr f 0] H λ v H'=>v=.agg (x.rs.map uC)/\Fr Em H H':=by
 refine q1g ?_;obtain⟨H1,e,b,-,-⟩:=de H (OR (Fh 8 (.int .u64 0)) tY);have d:At H1 H.au tY _:=e▸At.new H _ _;obtain⟨pv,i,-⟩:=(h.em b).at';have a:=h.w.r8;have l:=i.gn (k:=0) (n:=8) (by unfold bX;rw[EW a];simp);rw[kq,show 8=8+0 from rfl,bX,Pu a,yn,zu]at l;have s:=d.ir (k:=0) (n:=8) (v:=.agg (x.rs.map uC)) (by simp[zb,a]) (by simp) (by rw[zb,ym];simp[uC,aC]);rw[zb,yn,jh,jd (by simp),zu]at s;have l2:=((d.set (x.rs.map uC)).gn (k:=0) (n:=8) (by simp[a]))
 rw[kq,zh (by simp[a])]at l2;have g:[AV.int .u64 0,.int .u64 0,.int .u64 0,.int .u64 0,.int .u64 0,.int .u64 0,.int .u64 0,.int .u64 0]=Fh 8 (.int .u64 0):=rfl;simp only[aa,bc,q1h,aw,g,<-e,lA (h.em b),l,s,l2];exact b.set (.inr (qg _)) _
def Hf{pv:AV}(b:At H f Ex (bX x pv))(a:x.rs.length=8):Op.av 9 [.ptr f 0] H=B1 (.agg (fD (x.rs,x.pc))):=by
 have l:=b.gn (k:=0) (n:=9) (by unfold bX;rw[EW a];simp);rw[kq,show 9=8+1 from rfl,bX,Pu a]at l;exact l
def Qn{pv:AV}(b:At H f Ex (bX x pv))(a:x.rs.length=8):Op.av 8 [.ptr f 0] H=B1 (.agg (x.rs.map uC)):=by
 have l:=b.gn (k:=0) (n:=8) (by unfold bX;rw[EW a];simp);rw[kq,show 8=8+0 from rfl,bX,Pu a,yn,zu]at l;exact l
def Bf(y:List Int×Int):aP (fD y)=true:=by unfold fD;rw[ym];simp[uC,aC]
def LQ{y:List Int×Int}(h:y.1.length=8):(fD y).length=9:=by simp[fD,h]
def z9:[AV.int .u64 0,.int .u64 0,.int .u64 0,.int .u64 0,.int .u64 0,.int .u64 0,.int .u64 0,.int .u64 0,.int .i64 0]=fD (Fh 8 0,0):=rfl
def LY(h:oP H o f x):xz M Yy [.ptr f 0] H λ _ H'=>HB H o f x.save H':=by
 refine qwl ?_;have⟨pv,d,B⟩:=h.at';have a:=h.w.r8;obtain⟨H1,j,A,-,-⟩:=de H (OR (fD (Fh 8 0,0)) LO);have i:At H1 H.au LO _:=j▸At.new H _ _;have s:=i.ir (k:=0) (n:=9) (v:=.agg (fD (x.rs,x.pc))) (by rw[zb];exact LQ a) (by simp[fD]) (by rw[zb];exact Bf _);rw[zb,yn,jh,jd (by simp[fD]),zu]at s;obtain⟨g,b⟩:∃X,X=H1.set H.au (OR (fD (x.rs,x.pc)) LO):=⟨_,rfl⟩
 rw[<-b]at s;have y:At g H.au LO (fD (x.rs,x.pc)):=b▸i.set _;have m:Fr Em H g:=b▸A.set (.inr (qg _)) _;have r:=d.em m;have e:(bX x pv).set 9 (.ptr H.au 0)=bX x.save (.ptr H.au 0):=by
  unfold bX;rw[wn _ _ (by simp[a])];simp[a,Fi.save]
 have st:=r.st 9 (v:=.ptr H.au 0) rfl (by unfold bX;rw[EW a];simp);rw[e]at st;simp only[aa,bc,_i,aw,lA h,Hf d a,z9,<-j,s,st];have u:H.au≠f:=λ q=>by have:=d.2;omega
 exact⟨⟨h.w,_,r.set _,h.w,_,rfl,y.fr (cW ..) (λ q=>u q),mG (qg _),u⟩,(m.mono (W':=On f) λ _ _ q=>q.elim).trans (cW ..) λ z q=>.inl q⟩
def Lx(h:oP H o f x):xz M S1 [.ptr f 0] H λ _ H'=>HB H o f x.drop H':=by
 refine qwj ?_;have⟨pv,b,g⟩:=h.at';have a:=h.w.r8;cases q:x.pt with
 |none =>
  have e:x.drop=x:=by unfold Fi.drop;cases x;simp only at q;rw[q]
  rw[e];have d:¬(60:Int)=0:=by decide
  simp only[aa,bc,YM,kQ h,q,AG,za,d];exact⟨h.same,Fr.refl _⟩
 |some y =>
  have e:(bX x pv).set 9 .nilp=bX x.drop .nilp:=by
   unfold bX;rw[wn _ _ (by simp[a])];simp[a,Fi.drop]
  have st:=b.st 9 (v:=.nilp) rfl (by unfold bX;rw[EW a];simp);rw[e]at st;simp only[aa,bc,YM,aw,kQ h,q,AG,st];exact⟨⟨h.w,_,b.set _,rfl⟩,cW ..⟩
def S7{a b:List Int}(ha:a.length=8)(hb:b.length=8)(H:ar):Op.eq (.agg (.part 0 B5 .int (.part 1 B5 .int (.part 2 B5 .int (.part 3 B5 .int (.part 4 B5 .int (.part 5 B5 .int (.part 6 B5 .int (.part 7 B5 .int .nil))))))))) B4 [.agg (a.map uC),.agg (b.map uC)] H=B1 (.bool (decide (a≠b))):=by
 match a,ha,b,hb with
 |[a0,a1,a2,a3,a4,a5,a6,a7],_,[b0,b1,b2,b3,b4,b5,b6,b7],_ =>
  refine(ah2 _ _ _ _ (decide ([a0,a1,a2,a3,a4,a5,a6,a7]=[b0,b1,b2,b3,b4,b5,b6,b7])) ?_).trans (by simp);simp only[jm,G6,uC,aZ,partAt,kX,zx,zw,qm,ry,jG,FW,xg,VT,zg,rp]
  by_cases d:a0=b0<;>by_cases e:a1=b1<;>by_cases g:a2=b2<;>by_cases h:a3=b3<;>simp only[d,e,g,h,decide_true,Il,xg,ze,Cu,false_and,and_false]<;>by_cases i:a4=b4<;>by_cases j:a5=b5<;>by_cases k:a6=b6<;>by_cases m:a7=b7<;>simp only[i,j,k,m,decide_true,Il,xg,ze,Cu,false_and,and_false]
def UR(h:oP H o f x):xz M UN [.ptr f 0] H λ _ H'=>HB H o f x.restore H':=by
 refine _C ?_;have⟨pv,g,j⟩:=h.at';have a:=h.w.r8;cases q:x.pt with
 |none =>
  have e:x.restore=x:=by unfold Fi.restore;rw[q]
  rw[e];have G:¬(60:Int)=0:=by decide
  simp only[aa,bc,Pc,kQ h,q,AG,za,G];exact⟨h.same,Fr.refl _⟩
 |some y =>
  rw[q]at j;have m:=j;obtain⟨d,b,rfl,hb,J,I⟩:=j;have e:x.restore=⟨y.1,y.2,B1 y⟩:=by unfold Fi.restore;rw[q]
  have r:=(g.ld 9).trans (Jf a 1 _);have A:=(g.ld 8).trans (Jf a 0 _);have B:=(hb.ld 8).trans (Jf d.r8 0 _);have u:Op.av 8 [.ptr b 0] H=B1 (.agg (y.1.map uC)):=by
   have l:=hb.gn (k:=0) (n:=8) (by rw[LQ d.r8];decide);rw[kq,show 8=8+0 from rfl,fD,Pu d.r8,yn,zu]at l;exact l
  have C:Op.av 9 [.ptr b 0] H=B1 (.agg (fD y)):=by
   have l:=hb.gn (k:=0) (n:=9) (by rw[LQ d.r8];decide);rw[kq,zh (by rw[LQ d.r8];decide)]at l;exact l
  have s:=g.ir (k:=0) (n:=9) (v:=.agg (fD y)) (by rw[zb];exact LQ d.r8) (by unfold bX;rw[EW a];simp) (by rw[zb];exact Bf _);have D:(bX x (.ptr b 0)).take 0++fD y++(bX x (.ptr b 0)).drop (0+9)=bX ⟨y.1,y.2,B1 y⟩ (.ptr b 0):=by
   rw[yn,jh,bX,show 0+9=8+1 from rfl,HY a,fD,yo];rfl
  rw[zb,D]at s
  by_cases i:x.rs=y.1/\x.pc=y.2
  .have E:x.restore=x:=by rw[e,<-i.1,<-i.2,<-q]
   rw[E];simp only[aa,bc,Pc,aw,kQ h,q,AG,Qn g a,r,u,S7 a d.r8,qr i.1,A,B,qr i.2];exact⟨h.same,Fr.refl _⟩
  .rw [e];have fin:HB H o f ⟨y.1,y.2,B1 y⟩ (H.set f (OR (bX ⟨y.1,y.2,B1 y⟩ (.ptr b 0)) Ex)):=⟨h.row g (q▸m) d q.symm,cW ..⟩
   by_cases z:x.rs=y.1
   .have F:¬x.pc=y.2:=λ w=>i ⟨z,w⟩;simp only[aa,bc,Pc,aw,kQ h,q,AG,Qn g a,r,u,S7 a d.r8,qr z,A,B,F,C,s];exact fin
   .simp only[aa,bc,Pc,aw,kQ h,q,AG,Qn g a,r,u,S7 a d.r8,z,C,s];exact fin
end
end Go.Am
namespace Go.Am
open Lang Go.Proofs
variable{M:ak}[MK M]
def iC(x:Int):AV:=.int .i64 x
def du(x:La):List AV:=x.eh.map iC++(iC x.lane::(x.gN.map iC ++ [.bool B4]))
structure φ(x:La):Prop where
 b5:x.eh.length=5
 c5:x.gN.length=5
 l0:0<=x.lane
 l4:x.lane<=4
 b4:x.eh.getD 4 0≠0
structure jX(H:ar)(l:Nat)(x:La):Prop where
 w:φ x
 at':At H l kj (du x)
section
variable{H H':ar}{l:Nat}{x:La}
def jX.fr{W:Nat->Prop}(h:jX H l x)(a:Fr W H H')(hw:¬W l):jX H' l x:=⟨h.w,h.at'.fr a hw⟩
def jX.em(h:jX H l x)(a:Fr Em H H'):jX H' l x:=h.fr a id
def Kz(h:jX H l x){k:Nat}(hk:k<5):Op.ae [.ptr l k] H=B1 (iC (x.eh.getD k 0)):=by
 rw[h.at'.ld,du,ya (by simp[h.w.b5];exact hk),xr,zi];have:k<x.eh.length:=by rw[h.w.b5];exact hk
 rw[xj this];rfl
def gY(h:jX H l x):Op.ae [.ptr l 5] H=B1 (.int .i64 x.lane):=by
 rw[h.at'.ld,du,z7 (by simp[h.w.b5])];simp[h.w.b5,iC]
def MD(h:jX H l x){k:Nat}(hk:k<5):Op.ae [.ptr l (6+k)] H=B1 (iC (x.gN.getD k 0)):=by
 rw[h.at'.ld,du,z7 (by simp[h.w.b5];omega),zj,h.w.b5,show 6+k-5=k+1 by omega,zw,ya (by simp[h.w.c5];exact hk),xr,zi];have:k<x.gN.length:=by rw[h.w.c5];exact hk
 rw[xj this];rfl
def KC(h:jX H l x):Op.ae [.ptr l 11] H=B1 (.bool B4):=by
 rw[h.at'.ld,du,z7 (by simp[h.w.b5])];simp[h.w.b5,h.w.c5]
def Ma(h:jX H l x):Op.av 5 [.ptr l 6] H=B1 (.agg (x.gN.map iC)):=by
 rw[h.at'.gn (by simp[du,h.w.b5,h.w.c5]),du,show 6=(x.eh.map iC).length+1 by simp[h.w.b5],vi,List.drop_succ_cons,kq,yx (by simp[h.w.c5]),zh (by simp[h.w.c5])]
def EY(h:jX H l x){v:Int}(a:0<=v)(b:v<=4):Op.store 1 [.ptr l 5,.int .i64 v] H=B1 (.undef,H.set l (OR (du {x with lane:=v}) kj))/\jX (H.set l (OR (du {x with lane:=v}) kj)) l {x with lane:=v}:=by
 refine⟨?_,⟨h.w.b5,h.w.c5,a,b,h.w.b4⟩,h.at'.set _⟩;rw[h.at'.st 5 rfl (by simp[du,h.w.b5]),du,wn _ _ (by simp[h.w.b5])];simp[h.w.b5,du,iC]
def Lc(h:jX H l x){k:Nat}(hk:k<5)(v:Int):Op.store 1 [.ptr l (6+k),.int .i64 v] H=B1 (.undef,H.set l (OR (du {x with gN:=x.gN.set k v}) kj))/\jX (H.set l (OR (du {x with gN:=x.gN.set k v}) kj)) l {x with gN:=x.gN.set k v}:=by
 refine⟨?_,⟨h.w.b5,by simp[h.w.c5],h.w.l0,h.w.l4,h.w.b4⟩,h.at'.set _⟩;rw[h.at'.st (6+k) rfl (by simp[du,h.w.b5,h.w.c5];omega),du,wn _ _ (by simp[h.w.b5];omega),zj,h.w.b5,show 6+k-5=k+1 by omega,List.set_cons_succ,List.set_append_left _ _ (by simp[h.w.c5];exact hk)];simp[du,iC,List.map_set]
def FQ(h:jX H l x):Op.store 5 [.ptr l 6,.agg (La.gR.map iC)] H=B1 (.undef,H.set l (OR (du {x with gN:=La.gR}) kj))/\jX (H.set l (OR (du {x with gN:=La.gR}) kj)) l {x with gN:=La.gR}:=by
 refine⟨?_,⟨h.w.b5,rfl,h.w.l0,h.w.l4,h.w.b4⟩,h.at'.set _⟩;rw[h.at'.ir (n:=5) rfl (by simp[du,h.w.b5,h.w.c5]) rfl,du,show 6=(x.eh.map iC).length+1 by simp[h.w.b5],List.take_length_add_append,yz,vi];simp[du,h.w.c5,zb]
def fF(h:jX H l x):∀K,C3 M B4 (.func ZJ) [.ptr l 0] H K=K B4 (.bool B2) H:=by
 refine dX (_1 ?_);simp only[aa,bc,qpb,aw,KC h]
def ia(h:jX H l x):∀K,C3 M B4 (.func j1) [.ptr l 0] H K=K B4 (.int .i64 x.lane) H:=by
 refine dX (qo7 ?_);simp only[aa,bc,_p,aw,fF h,gY h]
def qL(h:jX H l x):∀K,C3 M B4 (.func Yt) [.ptr l 0] H K=K B4 (.bool x.og) H:=by
 refine dX (qo6 ?_);unfold La.og
 by_cases q:x.lane=1
 .simp only[aa,bc,Vg,aw,fF h,gY h,q,Bool.true_or]
 .simp only[aa,bc,Vg,aw,fF h,gY h,q,Bool.false_or]
def z5:[AV.int .i64 0,.int .i64 0,.int .i64 0,.int .i64 0,.int .i64 0]=La.gR.map iC:=rfl
def LU(l:List Int):aP (l.map iC)=true:=by rw[ym];simp[iC,aC]
def Er(h:jX H l x):xz M WZ [.ptr l 0] H λ v H'=>v=.agg (x.gN.map iC)/\Fr Em H H':=by
 refine qmx ?_;obtain⟨H1,b,d,-,-⟩:=de H (OR (La.gR.map iC) Jl);have a:At H1 H.au Jl _:=b▸At.new H _ _;have e:=h.em d;have s:=a.ir (k:=0) (n:=5) (v:=.agg (x.gN.map iC)) (by rw[zb,zj];exact h.w.c5) (by decide) (by rw[zb];exact LU _);rw[zb,yn,jh,jd (by decide),zu]at s;have l2:=((a.set (x.gN.map iC)).gn (k:=0) (n:=5) (by simp[h.w.c5]))
 rw[kq,zh (by simp[h.w.c5])]at l2;simp only[aa,bc,qmy,aw,z5,<-b,fF e,Ma e,s,l2];exact d.set (.inr (qg _)) _
def Td(h:jX H l x):xz M X3 [.ptr l 0] H λ v H'=>v=.int .i64 x.tries/\Fr Em H H':=by
 refine qqh ?_;simp only[aa,bc,TU];refine C3.q (Er h) λ v H1⟨r,j⟩=>?_;subst r;simp only[aa,bc];have u:=h.w.c5;have ix:∀{i:Nat},i<5->Op.bD 5 1 B5 [.agg (x.gN.map iC),.int .i64 (i:Int)]=B1 (.int .i64 (x.gN.getD i 0)):=λ{i}g=>by
  have hl:i<x.gN.length:=by omega
  simp only[Op.bD,It rfl g,qm,Nat.mul_one,partAt,kX,xr,zi,xj hl];rfl
 refine dA.intro (λ n E d=>∃i:Nat,E=[(8,.int .i64 (i:Int)),(7,.agg (x.gN.map iC)),(3,.int .i64 ((x.gN.take i).foldl (λ n k=>aj .i64 (n+k)) 0)),(2,.int .i64 0),(0,.ptr l 0)]/\n=5-i/\i<=5/\d=H1) ?_ ?_
 .exact ⟨_,_,⟨0,rfl,rfl,xu _,rfl⟩,by simp only[aa,bc];rfl⟩
 rintro n E d ⟨i,rfl,rfl,g,rfl⟩;rcases xp i 5 with b|m
 .have a:(i:Int)<5:=by omega
  have s:aj .i64 ((i:Int)+1)=((i+1:Nat):Int):=by rw[jr (by omega) (by omega)];omega
  simp only[aa,bc,TU,a,ix b,s];have hl:i<x.gN.length:=by omega
  refine⟨_,_,⟨i+1,rfl,rfl,by omega⟩,?_,by omega⟩;rw[I6,List.foldl_append,xj hl,zi,xj hl];simp only[aa,bc];rfl
 .have a:¬(i:Int)<5:=by omega
  have e:x.gN.take i=x.gN:=zh (by omega);simp only[aa,bc,TU,a,e];exact⟨rfl,j⟩
def vT(eh:List Int)(k j:Nat):Bool:=eh.getD (k+1+j) 0 != 0
def nF(eh:List Int)(k:Nat):List (List AV):=((Ig (4-k)).filter (vT eh k)).map λ j=>[.int .i64 ((k+1+j:Nat):Int)]
def _8{H0:ar}{p q l k:Nat}{eh:List Int}(hp:H0.get p=B1 (OR [.ptr l 0] LH))(hq:H0.get q=B1 (OR [.int .i64 (k:Int)] cM))(Z:p<H0.au)(hql:q<H0.au)(hk:k<=3) :
 rC M yw [] [.ptr q 0,.ptr p 0] (λ z=>z=p\/z=q) (λ _=>False) (λ _ H=>∃y,jX H l y/\y.eh=eh) H0 (nF eh k):=by
 intro Y R S j H1 X L C D loc O hI step;have⟨p1,p2,p3⟩:=L p (.inl (.inl rfl));have⟨P,J,Q⟩:=L q (.inl (.inr rfl))
 suffices h:xz M yw [.fn (.yield Y) [] [],.ptr q 0,.ptr p 0] H1 (Jp R S j (λ _=>False) H1 (nF eh k).length)by
  have⟨v,H',U,W',P,J,Q⟩:=h.elim;exact⟨v,H',W',U,P,J,Q⟩
 refine qm1 ?_;have lp:∀{d:ar},Fr j H1 d->Op.ae [.ptr p 0] d=B1 (.ptr l 0):=λ f=>by rw[xv (qt (by rw[f.ah _ (by omega) p3,p2];exact hp))];rfl
 have lq:Op.ae [.ptr q 0] H1=B1 (.int .i64 (k:Int)):=by rw[xv (qt (by rw[J];exact hq))];rfl
 have wk:aj .i64 ((k:Int)+1)=((k+1+0:Nat):Int):=by rw[jr (by omega) (by omega)];omega
 simp only[aa,bc,vw,lq,wk];refine dA.intro (λ n E d=>∃(i:Nat)(V:Nat->Prop),E=[(4,.int .i64 ((k+1+i:Nat):Int)),(0,.fn (.yield Y) [] []),(1,.ptr q 0),(2,.ptr p 0)]/\n=4-k-i/\i<=4-k/\JU R j H1 d ((Ig i).filter (vT eh k)).length V) ?_ ?_
 .exact ⟨_,_,⟨0,j,rfl,rfl,xu _,⟨C,λ b hb=>⟨D b hb,.inl hb⟩,Fr.refl _⟩⟩,by simp only[aa,bc]⟩
 rintro n E d ⟨i,V,rfl,rfl,hi,a⟩;rcases xp i (4-k)with I|W
 .have A:((k+1+i:Nat):Int)<5:=by omega
  obtain⟨y,hy,rfl⟩:=hI _ V d a.hR;have ix:Op.aW 5 1 [.ptr l 0,.int .i64 ((k+1+i:Nat):Int)]=B1 (.ptr l (k+1+i)):=by rw[NZ rfl (by omega)];simp
  have ls:=Kz hy (k:=k+1+i) (by omega);have T:aj .i64 (((k+1+i:Nat):Int)+1)=((k+1+(i+1):Nat):Int):=by rw[jr (by omega) (by omega)];omega
  have N:=Mr (vT y.eh k) i
  by_cases r:y.eh.getD (k+1+i) 0=0
  .have g:((Ig (i+1)).filter (vT y.eh k)).length=((Ig i).filter (vT y.eh k)).length:=by rw[N,show vT y.eh k i=B2 from bne_eq_false_iff_eq.2 r];simp
   simp only[aa,bc,vw,A,lp a.fr,aw,ix,ls,iC,qr r,T];exact⟨_,_,⟨i+1,V,rfl,rfl,by omega,by rw[g];exact a⟩,by simp only[aa,bc],by omega⟩
  .have g:((Ig (i+1)).filter (vT y.eh k)).length=((Ig i).filter (vT y.eh k)).length+1:=by rw[N,show vT y.eh k i=B4 from bne_iff_ne.2 r];simp
   have hg:(nF y.eh k)[((Ig i).filter (vT y.eh k)).length]? = B1 [.int .i64 ((k+1+i:Nat):Int)]:=by
    unfold nF;rw[xr,Us _ I (show vT y.eh k i=B4 from bne_iff_ne.2 r)];rfl
   have⟨bb,K,B,hr,F,u,ht,hs⟩:=step _ _ hg V d a.hR a.hV (a.fr.mono λ _ _ q=>.inl q);have m:Fr j H1 K:=a.fr.trans F λ b q=>(a.hV b q).2;have s:∀b,B b->b<K.au/\(j b\/H1.au<=b):=λ b q=>⟨(u b q).1,(u b q).2.elim (λ w=>(a.hV b w).2) λ w=>.inr (xm a.fr.au w)⟩
   simp only[aa,bc,vw,A,lp a.fr,aw,ix,ls,iC,r];refine C3.vM hr ?_;cases bb with
   |true =>
    simp only[aa,bc,vw,T];exact⟨_,_,⟨i+1,B,rfl,rfl,by omega,⟨by rw[g];exact ht rfl,s,m⟩⟩,by simp only[aa,bc],by omega⟩
   |false =>
    simp only[aa,bc];exact⟨B,m.mono λ _ _ q=>.inl q,s,.inr (hs rfl)⟩
 .have A:¬((k+1+i:Nat):Int)<5:=by omega
  have G:i=4-k:=by omega
  simp only[aa,bc,vw,A];refine⟨V,a.fr.mono λ _ _ q=>.inl q,a.hV,.inl ?_⟩;have e:(nF eh k).length=((Ig i).filter (vT eh k)).length:=by unfold nF;rw[zj,G]
  rw[e];exact a.hR
def ZI{eh:List Int}(a:eh.getD 4 0≠0){k:Nat}(hk:k<=3):(nF eh k)[0]? = B1 [.int .i64 (La.after eh (k:Int))]:=by
 unfold nF La.after;rw[xr];have key:∀b:Int,(b != 0)=decide (b≠0):=λ b=>by by_cases q:b=0<;>simp[q]
 rcases(by omega:k=0\/k=1\/k=2\/k=3)with rfl|rfl|rfl|rfl
 all_goals
  simp only[show Ig (4-0)=[0,1,2,3]from rfl,show Ig (4-1)=[0,1,2]from rfl,show Ig (4-2)=[0,1]from rfl,show Ig (4-3)=[0]from rfl,List.filter,vT,Nat.reduceAdd,key,jz a];generalize eh.getD 1 0=b1;generalize eh.getD 2 0=b2;generalize eh.getD 3 0=b3
  by_cases x:b1=0<;>by_cases y:b2=0<;>by_cases z:b3=0<;>simp[x,y,z]
def uT(h:jX H l x){k:Nat}(hk:k<=3):xz M yr [.ptr l 0,.int .i64 (k:Int)] H λ _ H'=>jX H' l {x with lane:=La.after x.eh k}/\Fr (On l) H H':=by
 refine qo9 ?_;obtain⟨H1,C,Y,n1,-⟩:=de H (OR [.ptr l 0] LH);obtain⟨m,D,E,-,-⟩:=de H1 (OR [.ptr l 0] LH);obtain⟨A,L,s,-,g3⟩:=de m (OR [.int .i64 (k:Int)] cM);have r:=E.em s;have N:=Y.em r;have n2:m.au=H.au+2:=by rw[D,xt,n1]
 have n3:A.au=H.au+3:=by rw[L,xt,n2]
 have g1:A.get H.au=B1 (OR [.ptr l 0] LH):=by rw[r.ah _ (by omega) id,C,xf]
 have g2:A.get H1.au=B1 (OR [.ptr l 0] LH):=by rw[s.ah _ (by omega) id,D,xf]
 have l1:Op.ae [.ptr H.au 0] H1=B1 (.ptr l 0):=xv (qt (C▸xf H _)) 0;have ca:∀b,AV.cells (.ptr b 0)=[.ptr b 0]:=λ _=>rfl;have ci:∀n,AV.cells (.int .i64 n)=[.int .i64 n]:=λ _=>rfl;have op:xz M XC [.ptr l 0,.int .i64 (k:Int)] H1 λ v H'=>v=.fn (.func yw) [] [.ptr m.au 0,.ptr H1.au 0]/\H'=A:=by
  refine _g ?_;have mk:Op.bS yw 0 [.ptr m.au 0,.ptr H1.au 0]=B1 (.fn (.func yw) [] [.ptr m.au 0,.ptr H1.au 0]):=rfl;simp only[aa,bc,δ,ca,ci,<-D,<-L];rfl
 simp only[aa,bc,j2,ca,<-C,l1];refine C3.q op λ v H'⟨R,hh⟩=>?_;subst R;subst hh;simp only[aa,bc];have I:=h.em N;have hlt:=h.at'.2;refine iL.rG (fn:=NR) (lp:=wy) (pa:=Ti 0) (pb:=SN 0) _W qw.1 qw.2 (by decide) _2 qm0
  (_8 (eh:=x.eh) g2 g3 (by omega) (by omega) hk) (λ i V B=>i=0/\jX B l x/\V l) (λ e V B=>e=.ret/\jX B l {x with lane:=La.after x.eh k}/\V l) (On l) (qg _) ?_ ?_ ?_ ?_ ?_ ?_ ?_ ?_ ?_
 .rintro z ((q|q)|q)
  .exact ⟨by omega,rfl,λ(w:z=l)=>by omega⟩
  .exact ⟨by omega,rfl,λ(w:z=l)=>by omega⟩
  .exact q.elim
 .exact λ z(J:z=l)=>by omega
 .exact ⟨rfl,I,rfl⟩
 .exact λ i V U Hb⟨K,j,u⟩hs hn=>⟨K,⟨j.w,by rw[hs l u];exact j.at'.1,qj j.at'.2 hn⟩,u⟩
 .exact λ i V U Hb⟨K,j,u⟩hs hn=>⟨K,⟨j.w,by rw[hs l u];exact j.at'.1,qj j.at'.2 hn⟩,u⟩
 .exact λ i V B⟨_,q,_⟩=>⟨_,q,rfl⟩
 .intro a i lr lb y S hL2 V g ⟨Q,hP,hV⟩ hb hf6 hnL hL6 hgL;subst Q;rw[ZI h.w.b4 hk]at S;cases S;refine⟨_,rfl,?_⟩;obtain⟨-,wa,wb⟩:=j2 M ⟨B1 a,yr⟩;simp only[aa,bc,wa,DQ];refine⟨hgL,?_⟩;have O:Fr (On a) g (g.set a lb):=(Fr.refl g).set (W:=On a) (.inl rfl) _;have gL:(g.set a lb).get a=B1 lb:=xb ..;have nL:(g.set a lb).au=g.au:=rfl;have T:a≠l:=λ q=>hnL (by rw[q];exact hV);have h7:jX (g.set a lb) l x:=hP.fr O (λ q:l=a=>T q.symm);have lq:Op.ae [.ptr H.au 0] (g.set a lb)=B1 (.ptr l 0):=by
   rw[xv (qt (by rw[jx (by omega),hf6.ah H.au (by omega) (λ q=>q.elim (λ q:H.au=l=>by omega) id)];exact g1))];rfl
  generalize g.set a lb=H7 at *;obtain⟨a0,X⟩:0<=La.after x.eh (k:Int)/\La.after x.eh (k:Int)<=4:=by unfold La.after;repeat' split<;>omega
  have⟨s8,h8⟩:=EY h7 a0 X;simp only[aa,bc,wb,lq,aw,s8];have Z:Fr (On l) H7 (H7.set l (OR (du {x with lane:=La.after x.eh k}) kj)):=cW ..;refine⟨rfl,by rw[jx (λ q=>T q.symm)];exact gL,V,λ z J=>⟨by have:=(hb z J).1;rw[si,nL];exact this,.inl J⟩,(O.mono λ z _ q=>.inr q).trans Z λ z(q:z=l)=>.inl (.inl (by rw[q];exact hV)),.inr ⟨trivial,rfl,h8,hV⟩⟩
 .rintro d V H' hd G hg P hV ⟨Q,-⟩;exfalso;have:=(qo.1 (ZI h.w.b4 hk)).1;omega
 .rintro e d V H' he hd G hg P hV ⟨rfl,hl,R⟩;have F:d≠l:=λ q=>by omega
  have fd:Fr (On d) H' (H'.set d (.deferred B5)):=(Fr.refl H').set (W:=On d) (.inl rfl) _;simp only[aa,bc];refine⟨hg,hl.fr fd (λ q:l=d=>F q.symm),?_⟩;exact((N.mono (W':=On l) λ _ _ q=>q.elim).trans (P.mono λ z _ q=>q.elim id Ja) λ z q=>.inl q).trans fd λ z(q:z=d)=>.inr (by omega)
def LS(H:ar)(l:Nat)(y:La)(H':ar):Prop:=jX H' l y/\Fr (On l) H H'
def GQ(h:jX H l x):xz M XE [.ptr l 0] H λ _ H'=>LS H l x.leave H':=by
 refine qn6 ?_;unfold La.leave
 by_cases q:x.lane=0
 .rw [qv q];simp only[aa,bc,Yc,aw,fF h,gY h,qr q];exact⟨h,Fr.refl _⟩
 .rw [qn q];have⟨s1,b⟩:=EY h (v:=0) (by decide) (by decide);have⟨s2,d⟩:=FQ b;have a:Op.build [.int .i64 0,.int .i64 0,.int .i64 0,.int .i64 0,.int .i64 0] [] []=B1 (.agg (La.gR.map iC)):=rfl;simp only[aa,bc,Yc,aw,fF h,gY h,q,a,s1,s2];exact⟨d,(cW ..).trans (cW ..) λ z q=>.inl q⟩
def Ht(h:jX H l x):xz M m8 [.ptr l 0] H λ _ H'=>LS H l x.enter H':=by
 refine qn5 ?_;unfold La.enter
 by_cases q:x.lane=0
 .rw [qv q];have⟨s2,e⟩:=FQ h;have b:Op.build [.int .i64 0,.int .i64 0,.int .i64 0,.int .i64 0,.int .i64 0] [] []=B1 (.agg (La.gR.map iC)):=rfl;simp only[aa,bc,lL,aw,fF h,gY h,qr q,b,s2];refine C3.q (uT e (k:=0) (by decide)) λ v g⟨a,d⟩=>?_;simp only[aa,bc,aw,gY a];exact⟨a,(cW ..).trans d λ z q=>.inl q⟩
 .rw [qn q];simp only[aa,bc,lL,aw,fF h,gY h,q];exact⟨h,Fr.refl _⟩
def Gl(h:jX H l x)(c:Int):xz M U8 [.ptr l 0,.int .i64 c] H λ _ H'=>LS H l (x.abort c) H':=by
 refine _e ?_;unfold La.abort;have U:=h.w.l0;have V:=h.w.l4
 by_cases g:x.lane=0
 .rw [qv (.inl g)];simp only[aa,bc,ja,aw,fF h,gY h,qr g];exact⟨h,Fr.refl _⟩
 by_cases i:x.lane=4
 .rw [qv (.inr (.inl i))];simp only[aa,bc,ja,aw,fF h,gY h,g,qr i];exact⟨h,Fr.refl _⟩
 by_cases n:c<1
 .rw [qv (.inr (.inr (.inl n)))];simp only[aa,bc,ja,aw,fF h,gY h,g,i,n];exact⟨h,Fr.refl _⟩
 by_cases s:8<c
 .rw [qv (.inr (.inr (.inr (.inl s))))];simp only[aa,bc,ja,aw,fF h,gY h,g,i,n,s];exact⟨h,Fr.refl _⟩
 by_cases A:c=7
 .rw [qv (.inr (.inr (.inr (.inr A))))];simp only[aa,bc,ja,aw,fF h,gY h,g,i,n,s,qr A];exact⟨h,Fr.refl _⟩
 rw[qn (by omega)];have⟨k,hk⟩:=jk U;have E:k<=3:=by omega
 have ix:∀o,Op.aW 5 1 [.ptr l o,.int .i64 x.lane]=B1 (.ptr l (o+k)):=λ o=>by rw[hk,NZ rfl (by omega)];simp
 have lc:=MD h (k:=k) (by omega);have⟨s1,d⟩:=Lc h (k:=k) (by omega) (aj .i64 (x.gN.getD k 0+1));have N:x.lane.toNat=k:=by omega
 have T:x.count=x.gN.getD k 0:=by unfold La.count;rw[N]
 obtain⟨y,F⟩:∃y:La,y = {x with gN:=x.gN.set k (aj .i64 (x.gN.getD k 0+1))}:=⟨_,rfl⟩
 rw[<-F]at d s1;rw[T,N];simp only[<-F];have Q:y.lane=x.lane:=by rw[F]
 have I:y.eh=x.eh:=by rw[F]
 have P:y.gN=x.gN.set k (aj .i64 (x.gN.getD k 0+1)):=by rw[F]
 have J:y.og=x.og:=by unfold La.og;rw[Q]
 have S:Fr (On l) H (H.set l (OR (du y) kj)):=cW ..
 by_cases C:x.og=B4/\c=3
 .rw [qv C];simp only[aa,bc,ja,aw,fF h,gY h,g,i,n,s,A,ix,lc,iC,s1,qL d,J,qr C.2,C.1];refine C3.q (uT d (k:=2) (by decide)) λ v B⟨e,D⟩=>?_;simp only[aa,bc,ja,aw,gY e];rw[I,P]at e;exact⟨e,S.trans D λ z q=>.inl q⟩
 rw[qn C];have K:=(gY d).trans (by rw[Q]);have m:=MD d (k:=k) (by omega);have j:=Kz d (k:=k) (by omega);have R:y.count=y.gN.getD k 0:=by unfold La.count;rw[Q,N]
 have O:=ix 0;rw[yu]at O;have cont:C3 M B4 (.func yr) [.ptr l 0,.int .i64 x.lane] (H.set l (OR (du y) kj))=C3 M B4 (.func yr) [.ptr l 0,.int .i64 (k:Int)] (H.set l (OR (du y) kj)):=by rw[hk]
 have fin:∀{z:La}{B:ar},jX B l z->Fr (On l) (H.set l (OR (du y) kj)) B->LS H l z B:=λ a b=>⟨a,S.trans b λ z q=>.inl q⟩
 by_cases L:y.count=x.eh.getD k 0
 .rw [qv L];have G:y.gN.getD k 0=y.eh.getD k 0:=by rw[<-R,L,I]
  by_cases r:x.og=B4
  .have u:¬c=3:=λ w=>C ⟨r,w⟩;simp only[aa,bc,ja,aw,fF h,gY h,g,i,n,s,A,ix,lc,iC,s1,qL d,J,r,u,K,m,j,qr G,cont];refine C3.q (uT d (k:=k) E) λ v B⟨e,D⟩=>?_;simp only[aa,bc,ja,aw,gY e];rw[I,<-hk,P]at e;exact fin e D
  .rw [Bool.not_eq_true]at r;simp only[aa,bc,ja,aw,fF h,gY h,g,i,n,s,A,ix,lc,iC,s1,qL d,J,r,K,m,j,qr G,cont];refine C3.q (uT d (k:=k) E) λ v B⟨e,D⟩=>?_;simp only[aa,bc,ja,aw,gY e];rw[I,<-hk,P]at e;exact fin e D
 .rw [qn L];have G:¬y.gN.getD k 0=y.eh.getD k 0:=λ w=>L (by rw[R,w,I])
  by_cases r:x.og=B4
  .have u:¬c=3:=λ w=>C ⟨r,w⟩;simp only[aa,bc,ja,aw,fF h,gY h,g,i,n,s,A,ix,lc,iC,s1,qL d,J,r,u,K,m,j,G];exact fin d (Fr.refl _)
  .rw [Bool.not_eq_true]at r;simp only[aa,bc,ja,aw,fF h,gY h,g,i,n,s,A,ix,lc,iC,s1,qL d,J,r,K,m,j,G];exact fin d (Fr.refl _)
end
end Go.Am
namespace Go.Am
open Lang Go.Proofs
variable{M:ak}[MK M]
def cm(p:Pr):List AV:=[.int .i64 p.a,.int .u64 p.v]
def yS(p:Pr):(cm p).length=2:=rfl
abbrev AH(H:ar)(v:AV)(ps:List Pr):Prop:=bU cm yg 2 H v ps
def bU.tX{α:Type}{enc:α->List AV}{e size:Nat}{H:ar}{v:AV}{xs:List α}(h:bU enc e size H v xs){bytes:Nat}{zero:List AV}{x:AV}{a:α}(j:x.cells=enc a)(hs:(enc a).length=size)(q:zero.length=size)(f:aP (enc a)=B4)(k:0<size)
 (p:(xs.length+1)*bytes<=140737488355328) (i:xs.length+1<=140737488355328) {K:bB->(Nat->AV)->Bool->AV->ar->Prop} {m:Bool}
 (hk:∀d H',bU enc e size H' d (xs ++ [a])->Fr (bm v) H H'->(∀b,bm d b->bm v b\/H.au<=b)->K (.row x.cells e (0,0) B4) (Op.sliceTo 1 1) m d H') :
 iG m (Op.buildSlice e 1 zero [(0,size)] [x]) λ g o mk=>iG g (Op.append e size bytes [v,mk H.au] (H.alloc o)) (K o mk):=by
 refine mI h q (by rw[j];exact hs) (by rw[j];exact f) k p i λ d H' f l n=>hk d H' ?_ l n;unfold bU;rw[yi,xk]
 simpa[j]using f
def gM:List Pr->Int->Option Nat
 |[],_=>B5
 |x::r,a=>if x.a=a then B1 0 else(gM r a).map (·+1)
def Fa:∀(ps:List Pr)(a:Int),cR ps a=(gM ps a).map λ i=>(ps.getD i ⟨0,0⟩).v
 |[],a=>rfl
 |x::r,a=>by
  unfold cR gM;split
  .rfl
  .rw [Fa r a];cases gM r a<;>rfl
def nM:∀{ps:List Pr}{a:Int}{i:Nat},gM ps a=B1 i->i<ps.length /\ ∃x,ps[i]? = B1 x/\x.a=a
 |x::r,a,i,h=>by
  unfold gM at h;split at h
  .cases h;exact⟨Nat.zero_lt_succ _,x,rfl,by assumption⟩
  .obtain ⟨j,f,rfl⟩:=xh.1 h;have⟨b,y,d,e⟩:=nM f;exact⟨Nat.succ_lt_succ b,y,d,e⟩
def Ou:∀{ps:List Pr}{a v:Int},gM ps a=B5->eU ps a v=ps ++ [⟨a,v⟩]
 |[],a,v,_=>rfl
 |x::r,a,v,h=>by
  unfold gM at h;split at h
  .cases h
  .rename_i q;rw[Option.map_eq_none_iff]at h;unfold eU;rw[qn q,Ou h];rfl
def Ox:∀{ps:List Pr}{a v:Int}{i:Nat},gM ps a=B1 i->eU ps a v=ps.set i ⟨a,v⟩
 |x::r,a,v,i,h=>by
  unfold gM at h;unfold eU;split at h
  .rename_i q;cases h;rw[qv q];rfl
  .rename_i q;obtain⟨j,b,rfl⟩:=xh.1 h;rw[qn q,Ox b];rfl
def iS:List Pr->Nat->Nat->List (AV×AV×Nat)
 |[],_,_=>[]
 |x::r,i,c=>(.int .i64 x.a,.int .i64 (i:Int),c)::iS r (i+1) (c+1)
def QW:∀(ps:List Pr)(a:Int)(i c j:Nat),findKey .int (.int .i64 a) (iS ps i c) j=B1 ((gM ps a).map λ n=>(j+n,.int .i64 ((i+n:Nat):Int)))
 |[],a,i,c,j=>rfl
 |x::r,a,i,c,j=>by
  have e:aZ .int (.int .i64 a) (.int .i64 x.a)=B1 (decide (a=x.a)):=by simp only[aZ,ry,jG,FW,xg,VT]
  unfold iS findKey gM;rw[e,qm]
  by_cases q:x.a=a
  .rw [jz q.symm,qv q];rfl
  .rw [jw (λ w=>q w.symm),qn q,ze,QW r a (i+1) (c+1) (j+1)];cases gM r a with
   |none=>rfl
   |some n=>simp only[wq];rw[show j+1+n=j+(n+1)by omega,show i+1+n=i+(n+1)by omega]
def ZZ:∀(ps:List Pr)(x:Pr)(i c:Nat),iS (ps ++ [x]) i c=iS ps i c ++ [(.int .i64 x.a,.int .i64 ((i+ps.length:Nat):Int),c+ps.length)]
 |[],x,i,c=>rfl
 |y::r,x,i,c=>by
  show _::iS (r ++ [x]) (i+1) (c+1)=_::(iS r (i+1) (c+1)++_);rw[ZZ r x,zy];congr 3;simp only[xx,AV.int.injEq,Cu];constructor<;>omega
def Wb:∀(ps:List Pr)(n:Nat)(v:Int)(i c:Nat){x:Pr},ps[n]? = B1 x->iS (ps.set n ⟨x.a,v⟩) i c=iS ps i c
 |y::r,0,v,i,c,x,h=>by cases h;rfl
 |y::r,n+1,v,i,c,x,h=>by
  show _::iS (r.set n _) (i+1) (c+1)=_;rw[Wb r n v (i+1) (c+1) h];rfl
structure sH(H:ar)(o:Nat->Nat)(t r:Nat)(ps:List Pr)(pv:AV)(mb c:Nat):Prop where
 row:At H r FX [pv,.map mb]
 ow:AH H pv ps
 mp:H.get mb=B1 (.map (iS ps 0 c) (c+ps.length))
 ml:mb<H.au
 le:ps.length<=128
 o0:o r=t
 o1:o mb=t+1
 o2:∀z,bm pv z->o z=t+2
section
variable{H H':ar}{o o':Nat->Nat}{t r mb c:Nat}{ps:List Pr}{pv:AV}
def sH.fr{W:Nat->Prop}(h:sH H o t r ps pv mb c)(a:Fr W H H')(hw:∀z,z<H.au->(o z=t\/o z=t+1\/o z=t+2) -> ¬W z)(ho:∀z,z<H.au->o' z=o z):sH H' o' t r ps pv mb c :=
 ⟨h.row.fr a (hw r h.row.2 (.inl h.o0)),Own.fr h.ow a λ z q=>hw z (Own.lt h.ow z q) (.inr (.inr (h.o2 z q))),(a.ah mb h.ml (hw mb h.ml (.inr (.inl h.o1)))).trans h.mp,qj h.ml a.au,h.le,(ho r h.row.2).trans h.o0,(ho mb h.ml).trans h.o1,λ z q=>(ho z (Own.lt h.ow z q)).trans (h.o2 z q)⟩
def R9{b:Nat}{es:List (AV×AV×Nat)}{k:Nat}(h:H.get b=B1 (.map es k)):H.fR b=B1 (es,k):=by unfold ar.fR;rw[h]
def ZK(h:sH H o t r ps pv mb c)(a:Int):Op.lookup .int (.int .i64 0) B4 [.map mb,.int .i64 a] H=B1 (match gM ps a with|some i=>.tuple [.int .i64 (i:Int),.bool B4]|none=>.tuple [.int .i64 0,.bool B2]):=by
 simp only[Op.lookup,cP,xg,R9 h.mp,qm,QW];cases gM ps a<;>simp
def BH(h:sH H o t r ps pv mb c):eS cm 2 H pv ps:=bU.sl h.ow
def ub(h:sH H o t r ps pv mb c)(a:Int):∀K,C3 M B4 (.func YT) [.ptr r 0,.int .i64 a] H K=K B4 (.tuple [.int .u64 ((cR ps a).getD 0),.bool (cR ps a).isSome]) H:=by
 refine dX (N' ?_);have l0:=h.row.ld 0;have l1:=h.row.ld 1;rw[Fa];have f:=ZK h a;cases q:gM ps a with
 |none =>
  rw[q]at f;simp only[aa,bc,ZF,aw,l1,f];rfl
 |some i =>
  rw[q]at f;obtain⟨d,x,b,-⟩:=nM q;have sl:=BH h;have ix:=sl.idx b (z:=(i:Int)) rfl .i64;have ld:Op.ae [.ptr (aG pv) (cw 2 pv i+1)] H=B1 (.int .u64 x.v):=sl.ae yS b (j:=1) (by decide);simp only[aa,bc,ZF,aw,l0,l1,f,ix,ld];simp only[wq,vr,HG,zi,b]
def Ol(H:ar)(o:Nat->Nat)(t r:Nat)(ps:List Pr)(H':ar):Prop:=∃o' pv mb c,sH H' o' t r ps pv mb c/\(∀z,z<H.au->o' z=o z)/\Fr (λ z=>o z=t\/o z=t+1\/o z=t+2) H H'
def yR(h:sH H o t r ps pv mb c):xz M Zc [.ptr r 0] H λ _ H'=>Ol H o t r [] H':=by
 refine qv2 ?_;have l1:=h.row.ld 1;have s1:Op.bP [.map mb] H=B1 (.tuple [],H.set mb (.map [] (c+ps.length))):=by simp only[Op.bP,R9 h.mp,qm]
 have d:r≠mb:=λ q=>by have a:=h.o0;have b:=h.o1;rw[q]at a;omega
 have e:At (H.set mb (.map [] (c+ps.length))) r FX [pv,.map mb]:=h.row.fr (cW H mb _) d;have s2:=e.st 0 (v:=.nils) rfl (by simp);simp only[aa,bc,Δ,aw,l1,s1,s2];refine⟨o,.nils,mb,c+ps.length,⟨e.set _,Own.nil ..,?_,h.ml,xu _,h.o0,h.o1,λ z q=>(q.1 rfl).elim⟩,λ _ _=>rfl,?_⟩
 .rw [jx d,xb];rfl
 .exact ((cW H mb _).mono λ z _ q=>.inr (.inl ((congrArg o q).trans h.o1))).trans (cW _ r _) λ z q=>.inl (.inl ((congrArg o q).trans h.o0))
def LA(h:sH H o t r ps pv mb c)(a v:Int)(hn:gM ps a=B5):xz M Ve [.ptr r 0,.int .i64 a,.int .u64 v] H λ w H'=>w=.int .i64 (if ps.length=128 then 70 else 0)/\Ol H o t r (if ps.length=128 then ps else ps ++ [⟨a,v⟩]) H':=by
 refine q2v ?_;have l0:=h.row.ld 0;have l1:=h.row.ld 1;have ln:=(BH h).len;have hle:=h.le
 by_cases q:ps.length=128
 .have s:((ps.length:Nat):Int)=128:=by omega
  rw[qv q,qv q];simp only[aa,bc,Zf,aw,l0,ln,qr s];exact⟨o,pv,mb,c,h,λ _ _=>rfl,Fr.refl _⟩
 .have s:¬((ps.length:Nat):Int)=128:=by omega
  rw[qn q,qn q];have s1:Op.mapUpdate .int [.map mb,.int .i64 a,.int .i64 ((ps.length:Nat):Int)] H=B1 (.undef,H.set mb (.map (iS (ps ++ [⟨a,v⟩]) 0 c) (c+(ps ++ [(⟨a,v⟩:Pr)]).length))):=by
   simp only[Op.mapUpdate,cP,xg,R9 h.mp,qm,QW,hn,Option.map_none,ZZ,yu,xk,zy,j7];rfl
  obtain⟨H1,j⟩:∃X,X=H.set mb (.map (iS (ps ++ [⟨a,v⟩]) 0 c) (c+(ps ++ [(⟨a,v⟩:Pr)]).length)):=⟨_,rfl⟩
  rw[<-j]at s1;have k:Fr (On mb) H H1:=j▸cW H mb _;have x:r≠mb:=λ q=>by have a:=h.o0;have b:=h.o1;rw[q]at a;omega
  have y:At H1 r FX [pv,.map mb]:=h.row.fr k x;have np:∀z,bm pv z->z≠mb/\z≠r:=λ z w=>⟨λ e=>by have a:=h.o2 z w;have b:=h.o1;rw[e]at a;omega,λ e=>by have a:=h.o2 z w;have b:=h.o0;rw[e]at a;omega⟩
  have p:AH H1 pv ps:=Own.fr h.ow k λ z w=>(np z w).1;have n:=y.ld 0;have B:Op.build [.int .i64 0,.int .u64 0] [(0,1),(1,1)] [.int .i64 a,.int .u64 v]=B1 (.agg (cm ⟨a,v⟩)):=rfl;simp only[aa,bc,Zf,aw,l0,ln,s,l1,s1,n,B];refine bU.tX (bytes:=16) p (a:=⟨a,v⟩) rfl rfl rfl rfl (by decide) (by omega) (by omega) λ pv' d i f u=>?_;have A:At d r FX [pv,.map mb]:=y.fr f λ w=>(np r w).2 rfl;have one:aC pv'=true:=by have:=Sl.one (Own.sl i);exact this
  have C:=A.st 0 one (by simp);simp only[aa,bc,C];have l:Fr (On r) d (d.set r (OR [pv',.map mb] FX)):=cW ..;have n1:H1.au=H.au:=by rw[j];rfl
  have m:∀z,bm pv' z->z≠r/\z≠mb:=λ z w=>(u z w).elim (λ w=>⟨(np z w).2,(np z w).1⟩) λ w=>⟨λ e=>by have:=h.row.2;omega,λ e=>by have:=h.ml;omega⟩
  refine⟨bw o H.au (t+2),pv',mb,c,⟨A.set _,Own.fr i l λ z w=>(m z w).1,?_,?_,?_,(vx h.row.2).trans h.o0,(vx h.ml).trans h.o1,λ z w=>?_⟩,λ z w=>vx w,?_⟩
  .show (d.set r (OR [pv',.map mb] FX)).get mb=_;rw[l.ah mb (by have:=f.au;have:=h.ml;omega) (λ w=>x (show mb=r from w).symm),f.ah mb (by have:=h.ml;omega) λ w=>(np mb w).1 rfl,j,xb]
  .have:=f.au;have:=h.ml;show mb<d.au;omega
  .rw [xk];simp only[zy,j7];omega
  .rcases u z w with w|w
   .exact (vx (by have:=Own.lt h.ow z w;exact this)).trans (h.o2 z w)
   .exact mG (by omega)
  .exact ((k.mono λ z _ q=>.inr (.inl ((congrArg o q).trans h.o1))).trans f λ z q=>.inl (.inr (.inr (h.o2 z q)))).trans l λ z q=>.inl (.inl ((congrArg o q).trans h.o0))
end
def nP(H:ar)(o:Nat->Nat)(g:Nat)(rd wr:List Pr):Prop:=∃r w v1 m1 c1 v2 m2 c2,At H g O9 [.ptr r 0,.ptr w 0]/\o g=9/\sH H o 10 r rd v1 m1 c1/\sH H o 20 w wr v2 m2 c2
def su(H:ar)(o:Nat->Nat)(g:Nat)(rd wr:List Pr)(H':ar):Prop:=∃o',nP H' o' g rd wr/\(∀z,z<H.au->o' z=o z)/\Fr (λ z=>9<=o z/\o z<=22) H H'
section
variable{H H':ar}{o o':Nat->Nat}{g:Nat}{rd wr:List Pr}
def nP.fr{W:Nat->Prop}(h:nP H o g rd wr)(a:Fr W H H')(hw:∀z,z<H.au->9<=o z -> ¬W z)(ho:∀z,z<H.au->o' z=o z):nP H' o' g rd wr:=by
 have⟨r,w,v1,l,d,v2,m,f,b,i,j,k⟩:=h;exact⟨r,w,v1,l,d,v2,m,f,b.fr a (hw g b.2 (by omega)),(ho g b.2).trans i,j.fr a (λ z q e=>hw z q (by omega)) ho,k.fr a (λ z q e=>hw z q (by omega)) ho⟩
def nP.C1{W:Nat->Prop}(h:nP H o g rd wr)(a:Fr W H H')(hw:∀z,z<H.au->9<=o z/\o z<=22 -> ¬W z):nP H' o g rd wr:=by
 have⟨r,w,v1,l,d,v2,m,f,b,i,j,k⟩:=h;exact⟨r,w,v1,l,d,v2,m,f,b.fr a (hw g b.2 (by omega)),i,j.fr a (λ z q e=>hw z q (by omega)) λ _ _=>rfl,k.fr a (λ z q e=>hw z q (by omega)) λ _ _=>rfl⟩
def nP.same(h:nP H o g rd wr):su H o g rd wr H:=⟨o,h,λ _ _=>rfl,Fr.refl _⟩
def mB(h:nP H o g rd wr):∀K,C3 M B4 (.func ZD) [.ptr g 0] H K=K B4 (.bool B2) H:=by
 obtain⟨r,w,v1,e,b,v2,f,d,a,-⟩:=h;have l0:=a.ld 0;refine dX (q2r ?_);simp only[aa,bc,q2s,aw,l0]
def QH(h:nP H o g rd wr)(a:Int):∀K,C3 M B4 (.func hT) [.ptr g 0,.int .i64 a] H K=K B4 (.tuple [.int .u64 ((cR rd a).getD 0),.bool (cR rd a).isSome]) H:=by
 have b:=h;have⟨r,w,v1,l,f,v2,m,i,d,j,e,k⟩:=h;have l0:=d.ld 0;refine dX (q5c ?_);simp only[aa,bc,_N,aw,mB b,l0,ub e]
def Ld(h:nP H o g rd wr)(a:Int):∀K,C3 M B4 (.func sS) [.ptr g 0,.int .i64 a] H K=K B4 (.tuple [.int .u64 ((cR wr a).getD 0),.bool (cR wr a).isSome]) H:=by
 have b:=h;have⟨r,w,v1,l,f,v2,m,i,d,j,k,e⟩:=h;have l1:=d.ld 1;refine dX (q2o ?_);simp only[aa,bc,Z3,aw,mB b,l1,ub e]
def nP.gX{H1:ar}{g r w:Nat}{v1 v2:AV}{n j i f:Nat}{a:List Pr}(h:At H g O9 [.ptr r 0,.ptr w 0])(k:o g=9)(q:sH H o 10 r rd v1 n j)(l:sH H o 20 w wr v2 i f)(p:Ol H o 10 r a H1):su H o g a wr H1:=by
 have⟨o',pv,mb,c,m,b,d⟩:=p;exact⟨o',⟨r,w,pv,mb,c,v2,i,f,h.fr d (by omega),(b g h.2).trans k,m,l.fr d (λ z _ e=>by omega) b⟩,b,d.mono λ z _ e=>by omega⟩
def nP.Q8{H1:ar}{g r w:Nat}{v1 v2:AV}{i f n j:Nat}{a:List Pr}(h:At H g O9 [.ptr r 0,.ptr w 0])(k:o g=9)(l:sH H o 10 r rd v1 i f)(q:sH H o 20 w wr v2 n j)(p:Ol H o 20 w a H1):su H o g rd a H1:=by
 have⟨o',pv,mb,c,m,b,d⟩:=p;exact⟨o',⟨r,w,v1,i,f,pv,mb,c,h.fr d (by omega),(b g h.2).trans k,l.fr d (λ z _ e=>by omega) b,m⟩,b,d.mono λ z _ e=>by omega⟩
def su.then{H1 a:ar}{e h f i:List Pr}(p:su H o g e h H1)(k:∀o1,nP H1 o1 g e h->su H1 o1 g f i a):su H o g f i a:=by
 have⟨o1,j,b,d⟩:=p;have⟨o2,l,m,n⟩:=k o1 j;refine⟨o2,l,λ z q=>(m z (qj q d.au)).trans (b z q),d.trans n λ z q=>?_⟩;rcases xp z H.au with w|w
 .rw [b z w]at q;exact .inl q
 .exact .inr w
def G4(H:ar)(o:Nat->Nat)(g:Nat)(ps:List Pr)(a:Int)(e:AV)(A:Prop)(B:Prop):Prop:=(cR ps a=B5/\ps.length=128/\e=.int .i64 70/\A)\/(¬(cR ps a=B5/\ps.length=128)/\e=.int .i64 0/\B)
def FR(h:nP H o g rd wr){a:Int}(ha:0<=a)(v:Int):xz M YN [.ptr g 0,.int .i64 a,.int .u64 v] H λ e H'=>G4 H o g rd a e (su H o g rd wr H') (su H o g (if cR rd a=B5 then rd ++ [⟨a,v⟩]else rd) wr H'):=by
 refine q2q ?_;have f:=h;have⟨r,w,v1,p,m,v2,s,n,i,j,b,k⟩:=h;have l0:=i.ld 0;have l:¬a<0:=Int.not_lt.2 ha;cases q:cR rd a with
 |some y =>
  simp only[aa,bc,tb,aw,mB f,l,l0,ub b,q,AG];refine .inr ⟨λ w=>?_,rfl,?_⟩
  .rw [q]at w;cases w.1
  .rw [qn (by simp)];exact f.same
 |none =>
  have hn:gM rd a=none:=by rw[Fa]at q;exact Option.map_eq_none_iff.1 q
  simp only[aa,bc,tb,aw,mB f,l,l0,ub b,q,AG];refine C3.q (LA b a v hn) λ e H1⟨he,hp⟩=>?_;subst he;simp only[aa,bc]
  by_cases d:rd.length=128
  .rw [qv d]at hp⊢;exact .inl ⟨q,d,rfl,nP.gX i j b k hp⟩
  .rw [qn d]at hp⊢;exact .inr ⟨λ w=>d w.2,rfl,nP.gX i j b k hp⟩
def HA(h:nP H o g rd wr):xz M yl [.ptr g 0] H λ _ H'=>su H o g [] [] H':=by
 refine q0i ?_;have x:=h;have⟨r,w,v1,F,E,v2,C,v,d,k,y,A⟩:=h;have l0:=d.ld 0;simp only[aa,bc,q0j,aw,mB x,l0];refine C3.q (yR y) λ _ H1 hp=>?_;have⟨o',pv,mb,c,u,b,i⟩:=hp;have f:=A.fr i (λ z _ e=>by omega) b;have a:=d.fr i (by omega);have l1:=a.ld 1;simp only[aa,bc,aw,l1];refine C3.q (yR f) λ _ D l=>?_;simp only[aa,bc];have G:su H o g [] wr H1:=⟨o',⟨r,w,pv,mb,c,v2,C,v,a,(b g d.2).trans k,u,f⟩,b,i.mono λ z _ e=>by omega⟩
 have⟨o2,s,p,j,B,m,n⟩:=l;refine⟨o2,⟨r,w,pv,mb,c,s,p,j,a.fr n (by have:=(b g d.2).trans k;omega),(m g a.2).trans ((b g d.2).trans k),u.fr n (λ z _ e=>by omega) m,B⟩,λ z q=>(m z (qj q i.au)).trans (b z q),(i.mono λ z _ e=>by omega).trans n λ z q=>?_⟩;rcases xp z H.au with w|w
 .rw [b z w]at q;exact .inl (by omega)
 .exact .inr w
def G7(h:nP H o g rd wr){a:Int}(ha:0<=a)(v:Int):xz M YV [.ptr g 0,.int .i64 a,.int .u64 v] H λ e H'=>G4 H o g wr a e (su H o g rd wr H') (su H o g rd (eU wr a v) H'):=by
 refine q0m ?_;have C:=h;have⟨r,w,v1,L,J,v2,l,B,k,n,p,b⟩:=h;have l1:=k.ld 1;have E:¬a<0:=Int.not_lt.2 ha;have D:=b.row.ld 1;have F:=b.row.ld 0;have f:=ZK b a;cases q:gM wr a with
 |some i =>
  rw[q]at f;have⟨K,x,s,I⟩:=nM q;have sl:=BH b;have ix:=sl.idx s (z:=(i:Int)) rfl .i64;have⟨H1,s1,A,d⟩:=bU.u9 yS b.ow s (j:=1) (by decide) (u:=.int .u64 v) rfl (y:=⟨x.a,v⟩) rfl;simp only[aa,bc,XJ,aw,mB C,E,l1,D,f,F,ix,s1];refine .inr ⟨λ w=>(by rw[Fa,q]at w;cases w.1),rfl,?_⟩;rw[Ox q,<-I];have n1:¬bm v2 w:=λ e=>by have:=b.o2 w e;have:=b.o0;omega
  have n2:¬bm v2 l:=λ e=>by have:=b.o2 l e;have:=b.o1;omega
  refine nP.Q8 k n p b ⟨o,v2,l,B,⟨b.row.fr d n1,A,?_,qj b.ml d.au,by rw[xw];exact b.le,b.o0,b.o1,b.o2⟩,λ _ _=>rfl,d.mono λ z _ q=>.inr (.inr (b.o2 z q))⟩;rw[Wb wr i v 0 B s,xw,d.ah l b.ml n2];exact b.mp
 |none =>
  have G:cR wr a=none:=by rw[Fa,q];rfl
  rw[q]at f;simp only[aa,bc,XJ,aw,mB C,E,l1,D,f];refine C3.q (LA b a v q) λ e H1⟨he,hp⟩=>?_;subst he;simp only[aa,bc]
  by_cases m:wr.length=128
  .rw [qv m]at hp⊢;exact .inl ⟨G,m,rfl,nP.Q8 k n p b hp⟩
  .rw [qn m]at hp⊢;rw[Ou q];exact .inr ⟨λ w=>m w.2,rfl,nP.Q8 k n p b hp⟩
end
end Go.Am
namespace Go.Am
open Lang Go.Proofs
variable{M:ak}[MK M]
def Jc(v:AV)(i:Nat):AV:=.ptr (aG v) (cw 2 v i)
def Pv{H1:ar}(e:Pr):Op.store 2 [.ptr H1.au 0,.agg (cm e)] (H1.alloc (OR [.int .i64 0,.int .u64 0] yg))=B1 (.undef,(H1.alloc (OR [.int .i64 0,.int .u64 0] yg)).set H1.au (OR (cm e) yg)):=(At.new H1 _ _).ir (k:=0) (n:=2) rfl (by decide) rfl
def xep{H0:ar}{p:Nat}{v:AV}{ys:List Pr}(hv:AH H0 v ys)(hp:H0.get p=B1 (OR [v] mE))(W:p<H0.au)(hl:ys.length<=1000000) :
 sk M k9 [] [.ptr p 0] (λ x=>x=p\/bm v x) (λ _=>False) H0 ((Ig ys.length).map λ(i:Nat)=>[.int .i64 (i:Int),.agg (cm (ys.getD i ⟨0,0⟩))]):=by
 intro Y R S j H1 I L D F loc O step;have⟨p1,p2,p3⟩:=L p (.inl (.inl rfl))
 suffices h:xz M k9 [.fn (.yield Y) [] [],.ptr p 0] H1 (Jp R S j (λ _=>False) H1 ((Ig ys.length).map λ(i:Nat)=>[AV.int .i64 (i:Int),AV.agg (cm (ys.getD i ⟨0,0⟩))]).length)by
  have⟨v,H',Q,W',q1,q2,q3⟩:=h.elim;exact⟨v,H',W',Q,q1,q2,q3⟩
 refine qlp ?_;have lp:Op.ae [.ptr p 0] H1=B1 v:=by rw[xv (qt (by rw[p2];exact hp))];rfl
 have N:∀{a:ar},Fr j H1 a->AH a v ys:=λ{a}f =>
  Own.fr hv (⟨xm I f.au,λ y d hw=>by
   have⟨y1,y2,y3⟩:=L y (.inl (vy.1 hw));rw[f.ah y (by omega) y3,y2]⟩:Fr (λ y=>¬(y=p\/bm v y)) H0 a) λ y d w=>w (.inr d)
 rw[zj,j4];simp only[aa,bc,Pa,lp,(bU.sl (N (Fr.refl _))).len];refine dA.intro (λ n E a=>∃(i:Nat)(V:Nat->Prop),E=[(7,.int .i64 (i:Int)),(6,.int .i64 ((ys.length:Nat):Int)),(5,v),(0,.fn (.yield Y) [] []),(1,.ptr p 0)]/\n=ys.length-i/\i<=ys.length/\JU R j H1 a i V) ?_ ?_
 .exact ⟨_,_,⟨0,j,rfl,rfl,xu _,⟨D,λ b hb=>⟨F b hb,.inl hb⟩,Fr.refl _⟩⟩,by simp only[aa,bc]⟩
 rintro n E a ⟨i,V,rfl,rfl,hi,hI⟩;rcases xp i ys.length with s|U
 .have B:(i:Int)<((ys.length:Nat):Int):=by omega
  obtain⟨e,he⟩:∃e,ys[i]? = B1 e:=⟨ys[i],by simp[s]⟩
  have sl:=bU.sl (N hI.fr);have ix:Op.aN 2 [v,.int .i64 (i:Int)]=B1 (Jc v i):=sl.idx he rfl .i64;have ld:Op.av 2 [Jc v i] a=B1 (.agg (cm e)):=sl.av yS (by decide) he;have bx:=Pv (H1:=a) e;obtain⟨u,C⟩:∃X,X=(a.alloc (OR [.int .i64 0,.int .u64 0] yg)).set a.au (OR (cm e) yg):=⟨_,rfl⟩
  rw[<-C]at bx;have z:Fr Em a u:=by rw[C];exact wN _ _
  have P:u.get a.au=B1 (OR (cm e) yg):=by rw[C,xb]
  have J:Op.av 2 [.ptr a.au 0] u=B1 (.agg (cm e)):=sf (qt P) (by simp[cm]);have n2:=z.au;have⟨bb,K,A,hr,T,m,Z,hs⟩:=step i [.int .i64 (i:Int),.agg (cm e)] (by rw[xr,yj s,wq,zi,he];rfl) V u (loc _ _ _ _ hI.hR (λ y d=>z.ah y (hI.hV y d).1 id) n2) (λ y d=>⟨by have:=(hI.hV y d).1;omega,(hI.hV y d).2⟩) ((hI.fr.em z).mono λ _ _ q=>.inl q);have k:Fr j H1 K:=(hI.fr.em z).trans T λ y q=>(hI.hV y q).2;have l:∀y,A y->y<K.au/\(j y\/H1.au<=y):=λ y q=>⟨(m y q).1,(m y q).2.elim (λ w=>(hI.hV y w).2) λ w=>.inr (by have:=hI.fr.au;omega)⟩
  have wj:aj .i64 ((i:Int)+1)=((i+1:Nat):Int):=by rw[jr (by omega) (by omega)];omega
  simp only[aa,bc,Pa,B,ix,ld,bx,J];refine C3.vM hr ?_;cases bb with
  |true =>
   simp only[aa,bc,Pa,wj];exact⟨_,_,⟨i+1,A,rfl,rfl,by omega,⟨Z rfl,l,k⟩⟩,by simp only[aa,bc],by omega⟩
  |false =>
   simp only[aa,bc];exact⟨A,k.mono λ _ _ q=>.inl q,l,.inr (hs rfl)⟩
 .have B:¬(i:Int)<((ys.length:Nat):Int):=by omega
  have G:i=ys.length:=by omega
  simp only[aa,bc,Pa,B];exact⟨V,hI.fr.mono λ _ _ q=>.inl q,hI.hV,.inl (by rw[<-G];exact hI.hR)⟩
structure OH(ys:List Pr)(t:Nat)(i:Nat)(V:Nat->Prop)(Hx:ar):Prop where
 vt:V t
 lt:t<Hx.au
 ls:∃lv,Hx.get t=B1 (OR [lv] mE)/\AH Hx lv (ys.take i) /\ ∀a,bm lv a->V a/\t<a
def OH.loc{ys:List Pr}{t i:Nat}{V:Nat->Prop}{a Hb:ar}(h:OH ys t i V a)(hs:∀x,V x->Hb.get x=a.get x)(hn:a.au<=Hb.au):OH ys t i V Hb:=by
 have⟨lv,l1,l2,l3⟩:=h.ls;refine⟨h.vt,qj h.lt hn,lv,by rw[hs _ h.vt];exact l1,?_,l3⟩;exact Own.fr l2 (⟨hn,λ b _ hw=>hs b (vy.1 hw)⟩:Fr (λ b=>¬V b) a Hb) λ x d w=>w (l3 x d).1
section
variable{H H':ar}{o o':Nat->Nat}{t r mb c:Nat}{ps:List Pr}{pv:AV}
def d_{α:Type}{enc:α->List AV}{e size:Nat}{H:ar}{v:AV}{xs:List α}(h:bU enc e size H v xs):AV.cells v=[v]:=by
 obtain⟨_,⟨_,rfl|⟨_,rfl,_⟩⟩|⟨_,rfl,_,_⟩⟩:=h<;>rfl
def uc{α:Type}{enc:α->List AV}{e size:Nat}{H:ar}{v:AV}{xs:List α}(h:bU enc e size H v xs)(a:xs≠[]):bm v (aG v):=⟨λ w=>by
 subst w;have:=(bU.sl h).len;have q:Op.dg [AV.nils]=B1 (.int .i64 0):=rfl;rw[q]at this;injection this with this;injection this with _ this
 exact a (j6.1 (by omega)),rfl⟩
def FL(h:sH H o t r ps pv mb c):xz M Le [.ptr r 0] H λ v H'=>AH H' v ps/\(∀z,bm v z->H.au<=z)/\Fr Em H H':=by
 refine xdc ?_;have⟨H1,e1,f1,n1,g1⟩:=de H (OR [.nils] mE);obtain⟨D,e2,E,-,g2⟩:=de H1 (OR [pv] mE);have n2:D.au=H.au+2:=by rw[e2,xt,n1]
 have O:D.get H.au=B1 (OR [.nils] mE):=by rw[E.ah _ (by omega) id];exact g1
 have f2:=f1.em E;have ow2:AH D pv ps:=Own.em h.ow f2;have l0:=(h.row.em f1).ld 0;have al:xz M Ym [.ptr r 0] H1 λ v H'=>v=.fn (.func k9) [] [.ptr H1.au 0]/\H'=D:=by
  refine q2t ?_;simp only[aa,bc,q2u,aw,l0];refine C3.q (R:=λ v H'=>v=.fn (.func k9) [] [.ptr H1.au 0]/\H'=D) ?_ λ v H' q=>?_
  .refine _S ?_;have mk:Op.bS k9 0 [.ptr H1.au 0]=B1 (.fn (.func k9) [] [.ptr H1.au 0]):=rfl;simp only[aa,bc,qog,d_ h.ow,<-e2];rfl
  .simp only[aa,bc];exact q
 simp only[aa,bc,Qa,<-e1];refine C3.q al λ v H'⟨hv,hh⟩=>?_;subst hv;subst hh;simp only[aa,bc];have hl:=h.le;have lv:∀z,bm pv z->z<H.au:=λ z q=>Own.lt h.ow z q;refine iL.iter (fn:=Pm) (lp:=Ka) (pa:=Rb 0) (pb:=QK 0) q9y Vf.1 Vf.2 (by decide) q7m Z'
  (xep ow2 g2 (by omega) (by omega)) (λ i V Hx=>OH ps H.au i V Hx) (λ _ _ _=>False) (λ x=>x=H.au) (qg _) ?_ ?_ ?_ ?_ ?_ ?_ ?_ ?_
 .rintro x ((q|q)|q)
  .exact ⟨by omega,rfl,λ w=>by omega⟩
  .have:=lv x q;exact⟨by omega,rfl,λ w=>by omega⟩
  .exact q.elim
 .exact λ x U=>by omega
 .exact ⟨rfl,by omega,.nils,O,Own.nil ..,λ x q=>(q.1 rfl).elim⟩
 .exact λ i V Ha Hb h hs hn=>h.loc hs hn
 .exact λ e V Ha Hb h _ _=>h
 .intro L i lr lb x U hL V l b hV hf6 B P S;rw[xr,xh]at U;obtain⟨j,T,rfl⟩:=U;have G:i<ps.length:=by have:=(qo.1 T).1;rw[j4]at this;exact this
  rw[yj G]at T;cases T;obtain⟨e,hk⟩:∃e,ps[i]? = B1 e:=⟨ps[i],by simp[G]⟩
  have he:ps.getD i ⟨0,0⟩=e:=by rw[zi,hk];rfl
  rw[he];refine⟨_,rfl,?_⟩;obtain⟨-,wa,wb,-⟩:=Qa M ⟨B1 L,Le⟩;have bx:=Pv (H1:=l) e;obtain⟨m,K⟩:∃X,X=(l.alloc (OR [.int .i64 0,.int .u64 0] yg)).set l.au (OR (cm e) yg):=⟨_,rfl⟩
  rw[<-K]at bx;have N:Fr Em l m:=by rw[K];exact wN _ _
  have n7:m.au=l.au+1:=by rw[K];rfl
  have g7:m.get l.au=B1 (OR (cm e) yg):=by rw[K,xb]
  simp only[aa,bc,wa,bx,DQ];refine⟨by rw[N.ah L P id];exact S,?_⟩;have gL:(m.set L lb).get L=B1 lb:=xb ..;have g8:(m.set L lb).get l.au=B1 (OR (cm e) yg):=by rw[jx (by omega)];exact g7
  have f8:Fr (λ y=>V y\/y=L) l (m.set L lb):=(N.mono λ _ _ q=>q.elim).set (.inl (.inr rfl)) _;have u:=b.loc (Hb:=m.set L lb) (λ y hy=>by rw[jx (λ q:L=y=>B (by rw[q];exact hy)),N.ah y (hV y hy).1 id]) (by rw[si];omega);have n8:(m.set L lb).au=l.au+1:=by rw[si,n7]
  generalize m.set L lb=H8 at *;have⟨f,l1,l2,l3⟩:=u.ls;have Y:Op.ae [.ptr H.au 0] H8=B1 f:=xv (qt l1) 0;have ld:Op.av 2 [.ptr l.au 0] H8=B1 (.agg (cm e)):=sf (qt g8) (by simp[cm]);have mK:(ps.take i).length<=128:=by rw[Is];omega
  simp only[aa,bc,wb,Y,ld];refine bU.tX (bytes:=16) l2 (a:=e) rfl rfl rfl rfl (by decide) (by omega) (by omega) λ k J A p F=>?_;have q9:At J H.au mE [f]:=⟨by rw[p.ah _ u.lt λ q=>by have:=(l3 _ q).2;omega];exact l1,qj u.lt p.au⟩
  have o1:aC k=true:=by have:=Sl.one (Own.sl A);exact this
  have st:=q9.st 0 o1 (by simp);obtain⟨C,n⟩:∃X,X=J.set H.au (OR ([f].set 0 k) mE):=⟨_,rfl⟩
  rw[<-n]at st;have s:Fr (On H.au) J C:=by rw[n];exact cW ..
  simp only[aa,bc,st];have I:∀y,bm k y->H.au<y:=λ y q=>(F y q).elim (λ q=>(l3 y q).2) λ q=>by have:=b.lt;omega
  have nf:=p.au;have Z:C.au=J.au:=by rw[n];rfl
  have tk:ps.take (i+1)=ps.take i ++ [e]:=by rw[I6,hk];rfl
  refine⟨rfl,?_,λ y=>V y\/bm k y,?_,?_,.inl ⟨rfl,.inl b.vt,by have:=b.lt;omega,k,by rw[n,xb];rfl,?_,λ y q=>⟨.inr q,I y q⟩⟩⟩
  .rw [s.ah L (by omega) (λ(q:L=H.au)=>B (by rw[q];exact b.vt)),p.ah L (by omega) λ q=>B (l3 _ q).1];exact gL
  .rintro y (q|q)
   .exact ⟨by have:=(hV y q).1;omega,.inl q⟩
   .refine ⟨by rw[Z];exact Own.lt A y q,?_⟩;rcases F y q with w|w
    .exact .inl (l3 y w).1
    .exact .inr (by omega)
  .exact ((f8.trans p λ y q=>.inl (.inl (l3 y q).1)).trans s λ y(q:y=H.au)=>.inl (.inl (by rw[q];exact b.vt)))
  .rw [tk];exact Own.fr A s λ y q(w:y=H.au)=>by have:=I y q;omega
 .rintro d V H' hd Q hg p hV b;rw[zj,j4]at b;have⟨f,l1,l2,l3⟩:=b.ls;rw[List.take_length]at l2;have hd':d≠H.au:=by omega
  have fd:Fr (On d) H' (H'.set d (.deferred B5)):=(Fr.refl H').set (W:=On d) (.inl rfl) _;have Y:Op.ae [.ptr H.au 0] H'=B1 f:=xv (qt l1) 0;simp only[aa,bc,Qa,Y];refine⟨hg,Own.fr l2 fd λ z q(w:z=d)=>(hV z (l3 z q).1).2.2 w,λ z q=>?_,?_⟩
  .have:=(l3 z q).2;omega
  .exact (f2.trans (p.mono λ z _ q=>q.elim id Ja) λ z q=>.inr (by omega)).trans fd λ z(q:z=d)=>.inr (by omega)
 .rintro e d V H' he hd Q hg p hV b;exact b.elim
end
section
variable{H H':ar}{o o':Nat->Nat}{g:Nat}{rd wr:List Pr}
def Iz(h:nP H o g rd wr):xz M UY [.ptr g 0] H λ v H'=>AH H' v rd/\(∀z,bm v z->H.au<=z)/\Fr Em H H':=by
 refine q0k ?_;have a:=h;have⟨r,w,v1,k,e,v2,l,f,b,i,d,j⟩:=h;have l0:=b.ld 0;simp only[aa,bc,q0l,aw,mB a,l0];refine C3.q (FL d) λ v H1 hp=>?_;simp only[aa,bc];exact hp
def uX(h:nP H o g rd wr):xz M WI [.ptr g 0] H λ v H'=>AH H' v wr/\(∀z,bm v z->H.au<=z)/\Fr Em H H':=by
 refine qv0 ?_;have a:=h;have⟨r,w,v1,k,e,v2,l,f,b,i,j,d⟩:=h;have l1:=b.ld 1;simp only[aa,bc,qv1,aw,mB a,l1];refine C3.q (FL d) λ v H1 hp=>?_;simp only[aa,bc];exact hp
end
end Go.Am
namespace Go.Am
open Lang Go.Proofs
variable{M:ak}[MK M]
def Bx(H:ar)(o:Nat->Nat)(b:Nat)(v:AV):Prop:=H.bM b=B1 [v]/\b<H.au/\o b=30
def By(H:ar)(o:Nat->Nat)(b:Nat)(v:AV):Prop:=(∃t,H.get b=B1 (OR [v] t))/\b<H.au/\o b=31
def kM(f:Nat)(l:List Nat):AV:=.fn (.func f) [] (l.map λ b=>.ptr b 0)
def qI(H:ar)(o:Nat->Nat)(p:Nat)(kv:AV):K0->Prop
 | .wait=>kv=.fn (.func Rp) [.ptr p 0] []
 | .left how=>∃b1 b2,kv=kM Su [b1,b2]/\Bx H o b1 (.int .i64 how)/\Bx H o b2 (.ptr p 0)
 | .jH a=>0<=a /\ ∃b1 b2,kv=kM QD [b1,b2]/\Bx H o b1 (.ptr p 0)/\Bx H o b2 (.int .i64 a)
 | .take=>kv=.fn (.func Rd) [.ptr p 0] []
 | .back l=>(∀x∈l,fm x.v) /\ ∃b1 b2 lv y,kv=kM SM [b1,b2]/\Bx H o b1 (.ptr p 0)/\Bx H o b2 lv/\eS cm 2 H lv (y::l)/\aG lv<H.au/\o (aG lv)=30
 | .fin=>∃b1,kv=kM Q6 [b1]/\Bx H o b1 (.ptr p 0)
def FN(H:ar)(o:Nat->Nat)(p:Nat)(gv:AV):Option K0->Prop
 |none=>gv=.fn (.func PW) [.ptr p 0] []
 |some k=>∃b1 b2 kv,gv=kM R1 [b1,b2]/\Bx H o b1 (.ptr p 0)/\Bx H o b2 kv/\qI H o p kv k
structure Gj(H:ar)(o:Nat->Nat)(p:Nat)(k:K0)(g:Int)(rd:List Pr)(bi bg bp bk br bs bl ba:Nat):Prop where
 hg:Bx H o bg (.int .u64 g)
 hp:Bx H o bp (.ptr p 0)
 hk:∃kv,Bx H o bk kv/\qI H o p kv k/\aC kv=B4
 hr:∃rv,Bx H o br rv/\eS cm 2 H rv rd/\(rd≠[]->aG rv<H.au/\o (aG rv)=30)/\aC rv=B4
 hs:By H o bs (kM Od [bi,br,bp,bl,ba])
 hl:Bx H o bl (kM Nt [br,bi,bp,bs])
 ha:Bx H o ba (kM Oj [bg,bp,bk])
 hn:rd.length<=128
def CB(H:ar)(o:Nat->Nat)(p:Nat)(tv:AV):Nx->Prop
 | .sY n k=>∃b1 b2 b3 kv,tv=kM hK [b1,b2,b3]/\Bx H o b1 (.ptr p 0)/\Bx H o b2 (.int .u64 n)/\Bx H o b3 kv/\qI H o p kv k
 | .rN n k=>∃b1 b2 b3 kv,tv=kM VC [b1,b2,b3]/\Bx H o b1 (.ptr p 0)/\Bx H o b2 (.int .u64 n)/\Bx H o b3 kv/\qI H o p kv k
 | .tA=>∃b1 b2 gv,tv=kM N7 [b1,b2]/\Bx H o b1 (.ptr p 0)/\Bx H o b2 gv/\FN H o p gv B5
 | .tP k=>∃b1 b2 gv,tv=kM N7 [b1,b2]/\Bx H o b1 (.ptr p 0)/\Bx H o b2 gv/\FN H o p gv (B1 k)
 | .look k g rd i=>∃bi bg bp bk br bs bl ba,tv=kM Nt [br,bi,bp,bs]/\By H o bi (.int .i64 (i:Int))/\i<rd.length/\Gj H o p k g rd bi bg bp bk br bs bl ba
 | .again k g=>∃bg bp bk kv,tv=kM Oj [bg,bp,bk]/\Bx H o bg (.int .u64 g)/\Bx H o bp (.ptr p 0)/\Bx H o bk kv/\qI H o p kv k
 | .tQ a=>0<=a /\ ∃b1 b2,tv=kM Wz [b1,b2]/\Bx H o b1 (.ptr p 0)/\Bx H o b2 (.int .i64 a)
 | .mr a v=>(0<=a/\fm v) /\ ∃b1 b2 b3,tv=kM nu [b1,b2,b3]/\Bx H o b1 (.ptr p 0)/\Bx H o b2 (.int .i64 a)/\Bx H o b3 (.int .u64 v)
 | .rI=>∃b1,tv=kM Yq [b1]/\Bx H o b1 (.ptr p 0)
 | .CG k=>qI H o p tv k
def CO:Nx->Nat
 | .rN _ _=>Me
 | .rI=>Me
 | .CG _=>Wh
 |_=>KT
def JG(H:ar)(o:Nat->Nat)(p:Nat)(fv:AV):Option Nx->Prop
 |none=>fv=.nilf
 |some n=>∃b tv,fv=kM (CO n) [b]/\Bx H o b tv/\CB H o p tv n
def ib(r:Rq):List AV:=[.int .i64 r.op,.int .i64 r.a,.int .u64 r.v,.int .u64 r.o]
def di(x:So)(g:Nat)(fv:AV):List AV:=.ptr g 0::(ib x.want ++ [fv,.bool x.busy,.bool x.live,.bool x.aI,.int .u64 x.snap,.int .u64 x.value,.int .i64 x.ended,.int .i64 x.points])
structure dy(H:ar)(o:Nat->Nat)(p:Nat)(x:So)(g:Nat)(fv:AV):Prop where
 row:At H p xG (di x g fv)
 lg:nP H o g x.rd x.wr
 nx:JG H o p fv x.au
 op:o p=8
 one:aC fv=B4
 vu:fm x.value
 wu:∀y∈x.wr,fm y.v
 qu:fm x.want.v
def dU(H:ar)(o:Nat->Nat)(p:Nat)(x:So)(H':ar):Prop:=∃o' g fv,dy H' o' p x g fv/\(∀z,z<H.au->o' z=o z)/\Fr (λ z=>8<=o z) H H'
section
variable{H H':ar}{o o':Nat->Nat}{p g:Nat}{x y:So}{fv kv gv tv:AV}{k:K0}{n:Nx}
structure CH(H:ar)(o:Nat->Nat)(H':ar)(o':Nat->Nat):Prop where
 ah:∀z,z<H.au->o z=30->H'.get z=H.get z
 own:∀z,z<H.au->o' z=o z
 au:H.au<=H'.au
structure ny(H:ar)(o:Nat->Nat)(H':ar)(o':Nat->Nat):Prop where
 m:CH H o H' o'
 ah:∀z,z<H.au->o z=31->H'.get z=H.get z
def CH.of{W:Nat->Prop}(a:Fr W H H')(hw:∀z,z<H.au->o z=30 -> ¬W z)(ho:∀z,z<H.au->o' z=o z):CH H o H' o':=⟨λ z h q=>a.ah z h (hw z h q),ho,a.au⟩
def ny.of{W:Nat->Prop}(a:Fr W H H')(hw:∀z,z<H.au->30<=o z -> ¬W z)(ho:∀z,z<H.au->o' z=o z):ny H o H' o':=⟨CH.of a (λ z h q=>hw z h (by omega)) ho,λ z h q=>a.ah z h (hw z h (by omega))⟩
def ny.own(a:ny H o H' o'):∀z,z<H.au->o' z=o z:=a.m.own
def Bx.km{b:Nat}{v:AV}(h:Bx H o b v)(a:CH H o H' o'):Bx H' o' b v:=⟨(VX (a.ah b h.2.1 h.2.2)).trans h.1,qj h.2.1 a.au,(a.own b h.2.1).trans h.2.2⟩
def Bx.ky{b:Nat}{v:AV}(h:Bx H o b v)(a:ny H o H' o'):Bx H' o' b v:=h.km a.m
def By.ky{b:Nat}{v:AV}(h:By H o b v)(a:ny H o H' o'):By H' o' b v:=⟨by rw[a.ah b h.2.1 h.2.2];exact h.1,qj h.2.1 a.m.au,(a.own b h.2.1).trans h.2.2⟩
def By.ld{b:Nat}{v:AV}(h:By H o b v):Op.ae [.ptr b 0] H=B1 v:=by have⟨t,q⟩:=h.1;exact xv (qt q) 0
def Bx.ld{b:Nat}{v:AV}(h:Bx H o b v):Op.ae [.ptr b 0] H=B1 v:=xv h.1 0
def CH.sl{lv:AV}{b:List Pr}(a:CH H o H' o')(h:eS cm 2 H lv b)(c:b≠[]->aG lv<H.au/\o (aG lv)=30):eS cm 2 H' lv b:=by
 cases b with
 |nil=>exact Sl.fr (W:=λ _=>True) h ⟨a.au,λ _ _ q=>(q trivial).elim⟩ (.inl rfl)
 |cons y l =>
  have⟨d,e⟩:=c (by simp);exact Sl.fr (W:=λ z=>z≠aG lv) h ⟨a.au,λ z _ q=>by rw[vy.1 q];exact a.ah _ d e⟩ (.inr λ q=>q rfl)
def qI.km(h:qI H o p kv k)(a:CH H o H' o'):qI H' o' p kv k:=by
 cases k with
 |wait=>exact h
 |left how=>have⟨b,e,c,d,f⟩:=h;exact⟨b,e,c,d.km a,f.km a⟩
 |jH z=>have⟨i,b,e,c,d,f⟩:=h;exact⟨i,b,e,c,d.km a,f.km a⟩
 |take=>exact h
 |back l=>have⟨i,b,e,lv,y,c,d,f,q,j,m⟩:=h;exact⟨i,b,e,lv,y,c,d.km a,f.km a,a.sl q λ _=>⟨j,m⟩,qj j a.au,(a.own _ j).trans m⟩
 |fin=>have⟨b,c,d⟩:=h;exact⟨b,c,d.km a⟩
def qI.ky(h:qI H o p kv k)(a:ny H o H' o'):qI H' o' p kv k:=h.km a.m
def qI.one(h:qI H o p kv k):aC kv=true:=by
 cases k with
 |wait=>rw[show kv=_ from h];rfl
 |left how=>have⟨b,d,a,c,f⟩:=h;rw[a];rfl
 |jH z=>have⟨e,b,d,a,c,f⟩:=h;rw[a];rfl
 |take=>rw[show kv=_ from h];rfl
 |back l=>have⟨e,b,d,lv,y,a,c⟩:=h;rw[a];rfl
 |fin=>have⟨b,a,c⟩:=h;rw[a];rfl
def FN.ky{ko:Option K0}(h:FN H o p gv ko)(a:ny H o H' o'):FN H' o' p gv ko:=by
 cases ko with
 |none=>exact h
 |some k=>have⟨b,c,kv,d,e,f,i⟩:=h;exact⟨b,c,kv,d,e.ky a,f.ky a,i.ky a⟩
def Gj.ky{g:Int}{rd:List Pr}{bi d f bk i bs e c:Nat}(h:Gj H o p k g rd bi d f bk i bs e c)(a:ny H o H' o'):Gj H' o' p k g rd bi d f bk i bs e c:=by
 have⟨kv,j,l,r⟩:=h.hk;have⟨rv,s,t,b,u⟩:=h.hr;exact⟨h.hg.ky a,h.hp.ky a,⟨kv,j.ky a,l.ky a,r⟩,⟨rv,s.ky a,a.m.sl t b,λ q=>⟨qj (b q).1 a.m.au,(a.own _ (b q).1).trans (b q).2⟩,u⟩,h.hs.ky a,h.hl.ky a,h.ha.ky a,h.hn⟩
def CB.ky(h:CB H o p tv n)(a:ny H o H' o'):CB H' o' p tv n:=by
 cases n with
 |sY m k=>have⟨d,f,l,kv,b,c,e,j,q⟩:=h;exact⟨d,f,l,kv,b,c.ky a,e.ky a,j.ky a,q.ky a⟩
 |rN m k=>have⟨d,f,l,kv,b,c,e,j,q⟩:=h;exact⟨d,f,l,kv,b,c.ky a,e.ky a,j.ky a,q.ky a⟩
 |tA=>have⟨d,f,gv,b,c,e,j⟩:=h;exact⟨d,f,gv,b,c.ky a,e.ky a,j.ky a⟩
 |tP k=>have⟨d,f,gv,b,c,e,j⟩:=h;exact⟨d,f,gv,b,c.ky a,e.ky a,j.ky a⟩
 |look k g rd i=>have⟨bi,t,w,bk,A,bs,u,s,b,c,e,j⟩:=h;exact⟨bi,t,w,bk,A,bs,u,s,b,c.ky a,e,j.ky a⟩
 |again k g=>have⟨d,f,l,kv,b,c,e,j,q⟩:=h;exact⟨d,f,l,kv,b,c.ky a,e.ky a,j.ky a,q.ky a⟩
 |tQ z=>have⟨r,d,f,b,c,e⟩:=h;exact⟨r,d,f,b,c.ky a,e.ky a⟩
 |mr z v=>have⟨r,d,f,l,b,c,e,j⟩:=h;exact⟨r,d,f,l,b,c.ky a,e.ky a,j.ky a⟩
 |rI=>have⟨d,b,c⟩:=h;exact⟨d,b,c.ky a⟩
 |CG k=>exact qI.ky h a
def JG.ky{no:Option Nx}(h:JG H o p fv no)(a:ny H o H' o'):JG H' o' p fv no:=by
 cases no with
 |none=>exact h
 |some n=>have⟨b,tv,c,d,e⟩:=h;exact⟨b,tv,c,d.ky a,e.ky a⟩
def dy.fr{W:Nat->Prop}(h:dy H o p x g fv)(a:Fr W H H')(hw:∀z,z<H.au->8<=o z -> ¬W z)(ho:∀z,z<H.au->o' z=o z):dy H' o' p x g fv :=
 ⟨h.row.fr a (hw p h.row.2 (by rw[h.op];decide)),h.lg.fr a (λ z q w=>hw z q (by omega)) ho,h.nx.ky (ny.of a (λ z q w=>hw z q (by omega)) ho),(ho p h.row.2).trans h.op,h.one,h.vu,h.wu,h.qu⟩
def dy.same(h:dy H o p x g fv):dU H o p x H:=⟨o,g,fv,h,λ _ _=>rfl,Fr.refl _⟩
def dy.box(h:dy H o p x g fv)(v:AV)(t:Nat):dy (H.alloc (OR [v] t)) (bw o H.au 30) p x g fv/\Bx (H.alloc (OR [v] t)) (bw o H.au 30) H.au v/\ny H o (H.alloc (OR [v] t)) (bw o H.au 30):=by
 have f:Fr Em H (H.alloc (OR [v] t)):=(Fr.refl H).alloc _;have ho:∀z,z<H.au->bw o H.au 30 z=o z:=λ z q=>vx q;exact⟨h.fr f (λ _ _ _ q=>q) ho,⟨qt (xf ..),by rw[xt];omega,mG (qg _)⟩,ny.of f (λ _ _ _ q=>q) ho⟩
theorem dU.pre{H1:ar}{o1:Nat->Nat}(a:Fr Em H H1)(ho:∀z,z<H.au->o1 z=o z)(h:dU H1 o1 p y H'):dU H o p y H':=by
 have⟨o2,c,b,d,e,f⟩:=h;refine⟨o2,c,b,d,λ z q=>(e z (qj q a.au)).trans (ho z q),(a.mono λ _ _ q=>q.elim).trans f λ z q=>?_⟩;rcases xp z H.au with w|w
 .exact .inl (by rw[<-ho z w];exact q)
 .exact .inr w
def dU.then{H1:ar}(a:dU H o p x H1)(b:∀o1 e c,dy H1 o1 p x e c->dU H1 o1 p y H'):dU H o p y H':=by
 have⟨o1,e,c,j,f,h⟩:=a;have⟨o2,i,d,l,m,r⟩:=b o1 e c j;refine⟨o2,i,d,l,λ z q=>(m z (qj q h.au)).trans (f z q),h.trans r λ z q=>?_⟩;rcases xp z H.au with w|w
 .exact .inl (by rw[<-f z w];exact q)
 .exact .inr w
def dy.bq(h:dy H o p x g fv):Op.ae [.ptr p 0] H=B1 (.ptr g 0)/\Op.ae [.ptr p 5] H=B1 fv/\Op.ae [.ptr p 6] H=B1 (.bool x.busy)/\Op.ae [.ptr p 7] H=B1 (.bool x.live)/\Op.ae [.ptr p 8] H=B1 (.bool x.aI)/\Op.ae [.ptr p 9] H=B1 (.int .u64 x.snap)/\Op.ae [.ptr p 10] H=B1 (.int .u64 x.value)/\Op.ae [.ptr p 11] H=B1 (.int .i64 x.ended)/\Op.ae [.ptr p 12] H=B1 (.int .i64 x.points) :=
 ⟨h.row.ld 0,h.row.ld 5,h.row.ld 6,h.row.ld 7,h.row.ld 8,h.row.ld 9,h.row.ld 10,h.row.ld 11,h.row.ld 12⟩
theorem dy.put(h:dy H o p x g fv)(i:Nat){v:AV}(e:aC v=B4)(j:i<13)(he:(di x g fv).set i v=di y g fv)(hs:y.rd=x.rd/\y.wr=x.wr/\y.au=x.au/\y.want=x.want)(hu:fm y.value) :
 ∃H',Op.store 1 [.ptr p i,v] H=B1 (.undef,H')/\dy H' o p y g fv/\Fr (On p) H H':=by
 refine⟨_,h.row.st i e j,?_,cW ..⟩;rw[he];have f:Fr (On p) H (H.set p (OR (di y g fv) xG)):=cW ..;have np:∀z,9<=o z -> ¬On p z:=λ z q(w:z=p)=>by rw[w,h.op]at q;omega
 have⟨b,a,c,d⟩:=hs;exact⟨h.row.set _,by rw[b,a];exact h.lg.fr f (λ z _ q=>np z q) λ _ _=>rfl,by rw[c];exact h.nx.ky (ny.of f (λ z _ q=>np z (by omega)) λ _ _=>rfl),h.op,h.one,hu,by rw[a];exact h.wu,by rw[d];exact h.qu⟩
def dy.xP(h:dy H o p x g fv){H1:ar}(f:Fr (On p) H H1)(a:dy H1 o p y g fv):dU H o p y H1:=⟨o,g,fv,a,λ _ _=>rfl,f.mono λ z _(q:z=p)=>by rw[q,h.op];decide⟩
def Hk(h:dy H o p x g fv){r:Rq}(hr:fm r.v){nv:AV}(hn:JG H o p nv (B1 n)):xz M Zg [.ptr p 0,.agg (ib r),nv] H λ _ H'=>dU H o p (x.ask r n) H':=by
 refine q1m ?_;obtain⟨H1,d,e,-,-⟩:=de H (OR (ib r) yM);have l:At H1 H.au yM (ib r):=d▸At.new H _ _;have i:=h.fr e (λ _ _ _ q=>q) λ _ _=>rfl;have l4:=l.gn (k:=0) (n:=4) (by simp[ib]);have one:aC nv=true:=by obtain⟨b,tv,q,-⟩:=hn;rw[q];rfl
 have s1:=i.row.ir (k:=1) (n:=4) (v:=.agg (ib r)) rfl (by simp[di,ib]) rfl;have s:(di x g fv).take 1++AV.cells (.agg (ib r))++(di x g fv).drop (1+4)=di {x with want:=r} g fv:=rfl;rw[s]at s1;obtain⟨H2,a⟩:∃X,X=H1.set p (OR (di {x with want:=r} g fv) xG):=⟨_,rfl⟩
 rw[<-a]at s1;have j:At H2 p xG (di {x with want:=r} g fv):=a▸i.row.set _;have s2:=j.st 5 one (by simp[di,ib]);have t:(di {x with want:=r} g fv).set 5 nv=di (x.ask r n) g nv:=rfl;rw[t]at s2;have m:AV.cells (.agg (ib r))=ib r:=zb _;have c:Op.av 4 [.ptr H.au 0] H1=B1 (.agg (ib r)):=l4;simp only[aa,bc,q1n,aw,m,<-d,c,s1,s2];have u:Fr (On p) H1 H2:=a▸cW ..;have A:Fr (On p) H2 (H2.set p (OR (di (x.ask r n) g nv) xG)):=cW ..;have f:Fr (On p) H (H2.set p (OR (di (x.ask r n) g nv) xG)):=((e.mono λ _ _ q=>q.elim).trans u λ z q=>.inl q).trans A λ z q=>.inl q;have np:∀z,9<=o z -> ¬On p z:=λ z q(w:z=p)=>by rw[w,h.op]at q;omega
 exact⟨o,g,nv,⟨j.set _,h.lg.fr f (λ z _ q=>np z q) λ _ _=>rfl,JG.ky hn (ny.of f (λ z _ q=>np z (by omega)) λ _ _=>rfl),h.op,one,h.vu,h.wu,hr⟩,λ _ _=>rfl,f.mono λ z _(q:z=p)=>by rw[q,h.op];decide⟩
end
end Go.Am
namespace Go.Am
open Lang Go.Proofs
variable{M:ak}[MK M]
structure Mk(H:ar)(o:Nat->Nat)(H':ar)(o':Nat->Nat):Prop where
 f:Fr Em H H'
 ho:∀z,z<H.au->o' z=o z
section
variable{H H1 H2 H':ar}{o o1 o2 o':Nat->Nat}{p g:Nat}{x y:So}{fv kv gv tv:AV}{k:K0}{n:Nx}
def Mk.bk(m:Mk H o H1 o1):ny H o H1 o1:=ny.of m.f (λ _ _ _ q=>q) m.ho
theorem Mk.trans(m:Mk H o H1 o1)(w:Mk H1 o1 H2 o2):Mk H o H2 o2:=⟨m.f.em w.f,λ z q=>(w.ho z (qj q m.f.au)).trans (m.ho z q)⟩
theorem Mk.pre(m:Mk H o H1 o1)(h:dU H1 o1 p y H'):dU H o p y H':=dU.pre m.f m.ho h
def dy.bx(h:dy H o p x g fv)(v:AV)(t:Nat):∃H1 o1,H.alloc (OR [v] t)=H1/\dy H1 o1 p x g fv/\Bx H1 o1 H.au v/\Mk H o H1 o1:=by
 have⟨a,b,c⟩:=h.box v t;exact⟨_,_,rfl,a,b,(Fr.refl H).alloc _,c.own⟩
def dy.bz(h:dy H o p x g fv)(z:AV){v:AV}(a:aC v=B4)(t:Nat):∃H1 o1,Op.store 1 [.ptr H.au 0,v] (H.alloc (OR [z] t))=B1 (.undef,H1)/\dy H1 o1 p x g fv/\Bx H1 o1 H.au v/\Mk H o H1 o1:=by
 have s:=(At.new H [z] t).st 0 a (by simp);have f:Fr Em H ((H.alloc (OR [z] t)).set H.au (OR [v] t)):=((Fr.refl H).alloc _).set (.inr (qg _)) _;have ho:∀z,z<H.au->bw o H.au 30 z=o z:=λ z q=>vx q;exact⟨_,bw o H.au 30,s,h.fr f (λ _ _ _ q=>q) ho,⟨qt (xb ..),by rw[si,xt];omega,mG (qg _)⟩,f,ho⟩
def dy.by0(h:dy H o p x g fv)(v:AV)(t:Nat):∃H1 o1,H.alloc (OR [v] t)=H1/\dy H1 o1 p x g fv/\By H1 o1 H.au v/\Mk H o H1 o1:=by
 have f:Fr Em H (H.alloc (OR [v] t)):=(Fr.refl H).alloc _;have ho:∀z,z<H.au->bw o H.au 31 z=o z:=λ z q=>vx q;exact⟨_,bw o H.au 31,rfl,h.fr f (λ _ _ _ q=>q) ho,⟨⟨t,xf ..⟩,by rw[xt];omega,mG (qg _)⟩,f,ho⟩
def dy.Z4(h:dy H o p x g fv)(z:AV){v:AV}(a:aC v=B4)(t:Nat):∃H1 o1,Op.store 1 [.ptr H.au 0,v] (H.alloc (OR [z] t))=B1 (.undef,H1)/\dy H1 o1 p x g fv/\By H1 o1 H.au v/\Mk H o H1 o1:=by
 have s:=(At.new H [z] t).st 0 a (by simp);have f:Fr Em H ((H.alloc (OR [z] t)).set H.au (OR [v] t)):=((Fr.refl H).alloc _).set (.inr (qg _)) _;have ho:∀z,z<H.au->bw o H.au 31 z=o z:=λ z q=>vx q;exact⟨_,bw o H.au 31,s,h.fr f (λ _ _ _ q=>q) ho,⟨⟨t,xb ..⟩,by rw[si,xt];omega,mG (qg _)⟩,f,ho⟩
def dy.U5{b:Nat}{w v:AV}(h:dy H o p x g fv)(hn:x.au=B5)(hb:By H o b w)(j:aC v=B4):∃H1,Op.store 1 [.ptr b 0,v] H=B1 (.undef,H1)/\dy H1 o p x g fv/\By H1 o b v/\CH H o H1 o/\Fr (On b) H H1:=by
 have⟨⟨t,l⟩,d,i⟩:=hb;have a:At H b t [w]:=⟨l,d⟩
 have f:Fr (On b) H (H.set b (OR [v] t)):=cW ..;have c:∀z,o z≠31 -> ¬On b z:=λ z e(w:z=b)=>e (by rw[w];exact i);have nx:=h.nx;rw[hn]at nx;refine⟨_,a.st 0 j (by simp),⟨h.row.fr f (c p (by rw[h.op];decide)),h.lg.C1 f (λ z _ e=>c z (by omega)),by rw[hn];exact nx,h.op,h.one,h.vu,h.wu,h.qu⟩,⟨⟨t,xb ..⟩,d,i⟩,CH.of f (λ z _ e=>c z (by omega)) λ _ _=>rfl,f⟩
def CB.one(h:CB H o p tv n):aC tv=true:=by
 cases n with
 |sY m k=>have⟨c,d,e,kv,a,b⟩:=h;rw[a];rfl
 |rN m k=>have⟨c,d,e,kv,a,b⟩:=h;rw[a];rfl
 |tA=>have⟨c,d,gv,a,b⟩:=h;rw[a];rfl
 |tP k=>have⟨c,d,gv,a,b⟩:=h;rw[a];rfl
 |look k g rd i=>have⟨bi,l,r,bk,s,bs,q,j,a,b⟩:=h;rw[a];rfl
 |again k g=>have⟨c,d,e,kv,a,b⟩:=h;rw[a];rfl
 |tQ z=>have⟨f,c,d,a,b⟩:=h;rw[a];rfl
 |mr z v=>have⟨f,c,d,e,a,b⟩:=h;rw[a];rfl
 |rI=>have⟨c,a,b⟩:=h;rw[a];rfl
 |CG k=>exact qI.one h
def FN.one{ko:Option K0}(h:FN H o p gv ko):aC gv=true:=by
 cases ko with
 |none=>rw[show gv=_ from h];rfl
 |some k=>have⟨b,c,kv,a,d⟩:=h;rw[a];rfl
def qA(h:dy H o p x g fv)(a:Int)(b:CB H o p tv n)(hk:CO n=KT):xz M nz [.ptr p 0,.int .i64 a,tv] H λ _ H'=>dU H o p (x.ask ⟨1,a,0,0⟩ n) H':=by
 refine _t ?_;have⟨H1,o1,f,i,d,c⟩:=h.bx tv O0;have e:Op.build [.int .i64 0,.int .i64 0,.int .u64 0,.int .u64 0] [(0,1),(1,1)] [.int .i64 1,.int .i64 a]=B1 (.agg (ib ⟨1,a,0,0⟩)):=rfl;simp only[aa,bc,qw1,C4 b.one,f,e];refine C3.q (Hk i bI (n:=n) ⟨_,tv,by rw[hk];rfl,d,b.ky c.bk⟩) λ _ H2 hp=>?_;simp only[aa,bc];exact c.pre hp
def Kl(h:dy H o p x g fv)(a w:Int){v:Int}(j:fm v)(b:CB H o p tv n)(hk:CO n=Me):xz M E1 [.ptr p 0,.int .i64 a,.int .u64 w,.int .u64 v,tv] H λ _ H'=>dU H o p (x.ask ⟨3,a,v,w⟩ n) H':=by
 refine q1o ?_;have⟨H1,o1,f,i,d,c⟩:=h.bx tv Ix;have e:Op.build [.int .i64 0,.int .i64 0,.int .u64 0,.int .u64 0] [(0,1),(1,1),(2,1),(3,1)] [.int .i64 3,.int .i64 a,.int .u64 v,.int .u64 w]=B1 (.agg (ib ⟨3,a,v,w⟩)):=rfl;simp only[aa,bc,q1p,C4 b.one,f,e];refine C3.q (Hk i (r:=⟨3,a,v,w⟩) j (n:=n) ⟨_,tv,by rw[hk];rfl,d,b.ky c.bk⟩) λ _ H2 hp=>?_;simp only[aa,bc];exact c.pre hp
def xL(h:dy H o p x g fv)(a:Int){v:Int}(j:fm v)(b:qI H o p tv k):xz M Ws [.ptr p 0,.int .i64 a,.int .u64 v,tv] H λ _ H'=>dU H o p (x.ask ⟨2,a,v,0⟩ (.CG k)) H':=by
 refine quv ?_;have⟨H1,o1,f,i,d,c⟩:=h.bx tv Ez;have e:Op.build [.int .i64 0,.int .i64 0,.int .u64 0,.int .u64 0] [(0,1),(1,1),(2,1)] [.int .i64 2,.int .i64 a,.int .u64 v]=B1 (.agg (ib ⟨2,a,v,0⟩)):=rfl;simp only[aa,bc,_L,C4 b.one,f,e];refine C3.q (Hk i (r:=⟨2,a,v,0⟩) j (n:=.CG k) ⟨_,tv,rfl,d,b.ky c.bk⟩) λ _ H2 hp=>?_;simp only[aa,bc];exact c.pre hp
def td(h:dy H o p x g fv)(z:Int)(hk:qI H o p kv k):xz M VM [.ptr p 0,.int .u64 z,kv] H λ _ H'=>dU H o p (x.count z k) H':=by
 refine quk ?_;have⟨H1,o1,j,r,e,c⟩:=h.bx (.ptr p 0) Hu;have⟨H2,o2,l,s,f,u⟩:=r.bx (.int .u64 z) Sv;have⟨v,o3,m,t,i,d⟩:=s.bx kv Ez;have a:=u.trans d;have b:=e.ky a.bk;simp only[aa,bc,qul,C4 hk.one,j,l,m,b.ld];refine C3.q (qA t 1 (n:=.sY z k) ⟨_,_,_,kv,rfl,b,f.ky d.bk,i,hk.ky (c.trans a).bk⟩ rfl) λ _ w hp=>?_;simp only[aa,bc];exact(c.trans a).pre hp
def mX(h:dy H o p x g fv)(a:Int):xz M PA [.ptr p 0,.int .i64 a] H λ _ H'=>dU H o p (x.leave a) H':=by
 refine qup ?_;have⟨H1,o1,f,j,d,m⟩:=h.bx (.ptr p 0) Hu;have⟨H2,o2,i,l,e,c⟩:=j.bx (.int .i64 a) cM;have b:=d.ky c.bk;simp only[aa,bc,quq,f,i,b.ld];refine C3.q (td l 18446744073709551615 (k:=.left a) ⟨_,_,rfl,e,b⟩) λ _ r hp=>?_;simp only[aa,bc];exact(m.trans c).pre hp
def Hp:Option K0->Nx
 |none=>.tA
 |some k=>.tP k
def oM(h:dy H o p x g fv){ko:Option K0}(hg:FN H o p gv ko):xz M XY [.ptr p 0,gv] H λ _ H'=>dU H o p (x.ask ⟨1,0,0,0⟩ (Hp ko)) H':=by
 refine qsm ?_;have⟨H1,o1,i,l,f,e⟩:=h.bx (.ptr p 0) Hu;have⟨H2,o2,j,m,d,c⟩:=l.bx gv O0;have b:=f.ky c.bk;have a:=hg.ky (e.trans c).bk;have r:CB H2 o2 p (kM N7 [H.au,H1.au]) (Hp ko):=by
  cases ko with
  |none=>exact⟨_,_,gv,rfl,b,d,a⟩
  |some k=>exact⟨_,_,gv,rfl,b,d,a⟩
 have hk:CO (Hp ko)=KT:=by cases ko<;>rfl
 simp only[aa,bc,qsn,C4 hg.one,i,j,b.ld];refine C3.q (qA m 0 r hk) λ _ s hp=>?_;simp only[aa,bc];exact(e.trans c).pre hp
def P9(h:dy H o p x g fv)(hk:qI H o p kv k):xz M Vs [.ptr p 0,kv] H λ _ H'=>dU H o p (x.validate k) H':=by
 refine γ ?_;have⟨H1,o1,f,j,d,c⟩:=h.bx (.ptr p 0) Hu;have⟨H2,o2,i,l,e,a⟩:=j.bx kv Ez;have b:=d.ky a.bk;simp only[aa,bc,s_,C4 hk.one,f,i,b.ld];refine C3.q (oM l (ko:=B1 k) ⟨_,_,kv,rfl,b,e,hk.ky (c.trans a).bk⟩) λ _ m hp=>?_;simp only[aa,bc];exact(c.trans a).pre hp
def Cg(h:dy H o p x g fv){a:Int}(ha:0<=a):xz M Vi [.ptr p 0,.int .i64 a] H λ _ H'=>dU H o p (x.jH a) H':=by
 refine qum ?_;have⟨H1,o1,f,j,e,m⟩:=h.bx (.ptr p 0) Hu;have⟨H2,o2,i,l,b,d⟩:=j.bx (.int .i64 a) cM;have c:=e.ky d.bk;simp only[aa,bc,qun,f,i,c.ld,b.ld];refine C3.q (qA l a (n:=.tQ a) ⟨ha,_,_,rfl,c,b⟩ rfl) λ _ r hp=>?_;simp only[aa,bc];exact(m.trans d).pre hp
def FB(h:dy H o p x g fv):xz M Rd [.ptr p 0] H λ _ H'=>dU H o p x.take H':=by
 refine u_ ?_;have⟨H1,o1,c,b,a,d⟩:=h.bx (.ptr p 0) Hu;simp only[aa,bc,qw5,aw,c,a.ld,b.bq];refine C3.q (Kl b 0 x.snap (BL _) (n:=.rI) ⟨_,rfl,a⟩ rfl) λ _ e hp=>?_;simp only[aa,bc];exact d.pre hp
def K5(h:dy H o p x g fv):xz M Rp [.ptr p 0] H λ _ H'=>dU H o p x.rh H':=by
 refine qw6 ?_;simp only[aa,bc,qw7];refine C3.q (oM h (ko:=B5) rfl) λ _ a hp=>?_;simp only[aa,bc];exact hp
def FO(h:dy H o p x g fv){lv:AV}{l:List Pr}(hl:eS cm 2 H lv l)(hu:∀y∈l,fm y.v)(hb:l≠[]->aG lv<H.au/\o (aG lv)=30)(one:aC lv=B4):xz M Yh [.ptr p 0,lv] H λ _ H'=>dU H o p (x.back l) H':=by
 refine qwx ?_;have⟨H1,o1,t,D,C,F⟩:=h.bx (.ptr p 0) Hu;have⟨H2,o2,u,s,r,w⟩:=D.bx lv mE;have e:=C.ky w.bk;have d:=F.trans w;have b:=d.bk.m.sl hl hb;have ln:=b.len;cases l with
 |nil =>
  have c:¬(0:Int)<(([]:List Pr).length:Int):=by decide
  simp only[aa,bc,YH,aw,C4 one,t,u,e.ld,r.ld,ln,c,s.bq];refine C3.q (xL s 0 (BL _) (k:=.fin) ⟨_,rfl,e⟩) λ _ B hp=>?_;simp only[aa,bc];exact d.pre hp
 |cons y l =>
  have c:(0:Int)<((y::l).length:Int):=by rw[zy];omega
  have ix:Op.aN 2 [lv,.int .i64 0]=B1 (.ptr (aG lv) (cw 2 lv 0)):=b.idx (i:=0) rfl rfl .i64;have l0:Op.ae [.ptr (aG lv) (cw 2 lv 0)] H2=B1 (.int .i64 y.a):=b.nj yS (i:=0) rfl (by decide);have l1:Op.ae [.ptr (aG lv) (cw 2 lv 0+1)] H2=B1 (.int .u64 y.v):=b.ae yS (i:=0) rfl (j:=1) (by decide);have⟨A,G⟩:=hb (by simp);simp only[aa,bc,YH,C4 one,t,u,e.ld,r.ld,ln,c,ix,l0,l1];refine C3.q (xL s y.a (hu y (by simp)) (k:=.back l) ⟨λ z E=>hu z (by simp[E]),_,_,lv,y,rfl,e,r,b,qj A d.f.au,(d.ho _ A).trans G⟩) λ _ B hp=>?_;simp only[aa,bc];exact d.pre hp
end
end Go.Am
namespace Go.Am
open Lang Go.Proofs
variable{M:ak}[MK M]
section
variable{H H1 H2 H':ar}{o o1 o2 o':Nat->Nat}{p g:Nat}{x y:So}{fv kv gv tv:AV}{k:K0}{n:Nx}
def dy.on(h:dy H o p x g fv)(f:Fr (On p) H H1):ny H o H1 o:=ny.of f (λ z _ q(w:z=p)=>by rw[w,h.op]at q;omega) λ _ _=>rfl
def dy.w0(h:dy H o p x g fv){W:Nat->Prop}(f:Fr W H H1)(hw:∀z,W z->z=p):Fr (λ z=>8<=o z) H H1:=f.mono λ z _ q=>by rw[hw z q,h.op];decide
def dU.step(h:dy H o p x g fv)(f:Fr (On p) H H1)(b:dU H1 o p y H'):dU H o p y H':=by
 have⟨o2,c,a,d,e,i⟩:=b;exact⟨o2,c,a,d,λ z q=>e z (qj q f.au),(h.w0 f λ _ q=>q).trans i λ z q=>.inl q⟩
def dy.log{rd wr:List Pr}(h:dy H o p x g fv)(hp:su H o g rd wr H1)(hu:∀y∈wr,fm y.v):∃o1,dy H1 o1 p {x with rd:=rd,wr:=wr} g fv/\ny H o H1 o1/\Fr (λ z=>8<=o z) H H1:=by
 have⟨o1,c,b,a⟩:=hp;have bk:ny H o H1 o1:=ny.of a (λ z _ q w=>by omega) b;exact⟨o1,⟨h.row.fr a (λ w=>by have:=h.op;omega),c,h.nx.ky bk,(b p h.row.2).trans h.op,h.one,h.vu,hu,h.qu⟩,bk,a.mono λ z _ q=>by omega⟩
def dU.after(c:∀z,z<H.au->o1 z=o z)(f:Fr (λ z=>8<=o z) H H1)(b:dU H1 o1 p y H'):dU H o p y H':=by
 have⟨o2,d,a,e,h,i⟩:=b;refine⟨o2,d,a,e,λ z q=>(h z (qj q f.au)).trans (c z q),f.trans i λ z q=>?_⟩;rcases xp z H.au with w|w
 .exact .inl (by rw[<-c z w];exact q)
 .exact .inr w
def BE(h:dy H o p x g fv):xz M NS [.ptr p 0] H λ _ H'=>dy H' o p {x with busy:=B2} g fv/\Fr (On p) H H':=by
 refine qwy ?_;have⟨H1,s1,b,a⟩:=h.put 6 (v:=.bool B2) (y:={x with busy:=B2}) rfl (by decide) rfl ⟨rfl,rfl,rfl,rfl⟩ h.vu;simp only[aa,bc,qwz,aw,s1];exact⟨b,a⟩
def tJ(h:dy H o p x g fv)(v:Int):xz M Ps [.ptr p 0,.int .u64 v] H λ _ H'=>dy H' o p (x.nH v) g fv/\Fr (On p) H H':=by
 refine qur ?_;have⟨H1,s1,c,a⟩:=h.put 9 (v:=.int .u64 v) (y:={x with snap:=v}) rfl (by decide) rfl ⟨rfl,rfl,rfl,rfl⟩ h.vu;have⟨H2,s2,d,b⟩:=c.put 12 (v:=.int .i64 (aj .i64 (x.points+1))) (y:=x.nH v) rfl (by decide) rfl ⟨rfl,rfl,rfl,rfl⟩ h.vu;simp only[aa,bc,qus,aw,h.bq,s1,s2];exact⟨d,a.trans b λ z q=>.inl q⟩
def IE(h:dy H o p x g fv)(v:Int):xz M PW [.ptr p 0,.int .u64 v] H λ _ H'=>dU H o p {x.nH v with live:=B4,busy:=B2} H':=by
 refine qug ?_;simp only[aa,bc,quh];refine C3.q (tJ h v) λ _ H1⟨d,a⟩=>?_;have⟨H2,s2,e,b⟩:=d.put 7 (v:=.bool B4) (y:={x.nH v with live:=B4}) rfl (by decide) rfl ⟨rfl,rfl,rfl,rfl⟩ h.vu;simp only[aa,bc,aw,s2];refine C3.q (BE e) λ _ i⟨f,c⟩=>?_;simp only[aa,bc];exact h.xP ((a.trans b λ z q=>.inl q).trans c λ z q=>.inl q) f
def yB(h:dy H o p x g fv)(hk:qI H o p kv k):∃f a c,kv=.fn (.func f) a c/\xz M f (a++c) H λ _ H'=>dU H o p (x.DH k) H':=by
 cases k with
 |wait=>exact⟨_,_,_,hk,K5 h⟩
 |take=>exact⟨_,_,_,hk,FB h⟩
 |left how =>
  obtain⟨d,r,rfl,b,j⟩:=hk;refine⟨_,_,_,rfl,?_⟩;show xz M Su [.ptr d 0,.ptr r 0] H _;refine _3 ?_;have⟨H1,s1,t,m⟩:=h.put 7 (v:=.bool B2) (y:={x with live:=B2}) rfl (by decide) rfl ⟨rfl,rfl,rfl,rfl⟩ h.vu;have d1:=b.ky (h.on m);have d2:=j.ky (h.on m);have⟨H2,s2,E,C⟩:=t.put 11 (v:=.int .i64 how) (y:={x with live:=B2,ended:=how}) rfl (by decide) rfl ⟨rfl,rfl,rfl,rfl⟩ h.vu;have A:=d2.ky (t.on C);simp only[aa,bc,x_,aw,b.ld,j.ld,s1,d1.ld,d2.ld,s2,A.ld];refine C3.q (BE E) λ _ u⟨F,D⟩=>?_;simp only[aa,bc];exact h.xP ((m.trans C λ z q=>.inl q).trans D λ z q=>.inl q) F
 |jH a =>
  obtain⟨B,d,r,rfl,b,j⟩:=hk;refine⟨_,_,_,rfl,?_⟩;show xz M QD [.ptr d 0,.ptr r 0] H _;refine qlu ?_;simp only[aa,bc,qlv,b.ld,j.ld];refine C3.q (Cg h B) λ _ u hp=>?_;simp only[aa,bc];exact hp
 |back l =>
  obtain⟨B,d,r,lv,y,rfl,b,j,hl,I,J⟩:=hk;refine⟨_,_,_,rfl,?_⟩;show xz M SM [.ptr d 0,.ptr r 0] H _;refine qsg ?_;have⟨s,s1,i,hb⟩:=hl.from yS (k:=1) (by simp) (z:=1) rfl .i64;simp only[aa,bc,qsh,b.ld,j.ld,s1];have G:l≠[]->aG s<H.au/\o (aG s)=30:=λ e=>by
   rcases hb with w|w
   .subst w;have:=i.len;have A:l.length=0:=by
     have q:Op.dg [AV.nils]=B1 (.int .i64 0):=rfl;rw[q]at this;injection this with this;injection this with _ this
     simp only[List.drop_succ_cons,kq]at this;omega
    exact(e (j6.1 A)).elim
   .rw [w];exact⟨I,J⟩
  refine C3.q (FO h (l:=l) i B G i.one) λ _ u hp=>?_;simp only[aa,bc];exact hp
 |fin =>
  obtain⟨d,rfl,b⟩:=hk;refine⟨_,_,_,rfl,?_⟩;show xz M Q6 [.ptr d 0] H _;refine z_ ?_;have⟨H1,s1,t,m⟩:=h.put 8 (v:=.bool B2) (y:={x with aI:=B2}) rfl (by decide) rfl ⟨rfl,rfl,rfl,rfl⟩ h.vu;have d1:=b.ky (h.on m);simp only[aa,bc,qsj,aw,b.ld,s1,d1.ld];refine C3.q (mX t 1) λ _ u hp=>?_;simp only[aa,bc];exact dU.step h m hp
def EU{i:Nat}{e:Int}{rd:List Pr}{bi j d bk m bs l f:Nat}(h:dy H o p x g fv)(r:By H o bi (.int .i64 (i:Int)))(hle:i<=rd.length)(v:Gj H o p k e rd bi j d bk m bs l f) :
 xz M Od [.ptr bi 0,.ptr m 0,.ptr d 0,.ptr l 0,.ptr f 0] H λ _ H'=>dU H o p (x.step k e rd i) H':=by
 refine qk3 ?_;have⟨kv,w,z,A⟩:=v.hk;have⟨rv,t,s,B,C⟩:=v.hr;have ln:=s.len;unfold So.step;rcases xp i rd.length with q|q
 .have c:(i:Int)<(rd.length:Int):=by omega
  obtain⟨y,b⟩:∃y,rd[i]? = B1 y:=⟨rd[i],by simp[q]⟩
  have ix:Op.aN 2 [rv,.int .i64 (i:Int)]=B1 (.ptr (aG rv) (cw 2 rv i)):=s.idx b rfl .i64;have l0:Op.ae [.ptr (aG rv) (cw 2 rv i)] H=B1 (.int .i64 y.a):=s.nj yS b (by decide);simp only[aa,bc,XK,r.ld,t.ld,ln,c,v.hp.ld,ix,l0,v.hl.ld,b];refine C3.q (qA h y.a (n:=.look k e rd i) ⟨bi,j,d,bk,m,bs,l,f,rfl,r,q,v⟩ rfl) λ _ u hp=>?_;simp only[aa,bc];exact hp
 .have c:¬(i:Int)<(rd.length:Int):=by omega
  have b:rd[i]? = none:=jf q;simp only[aa,bc,XK,r.ld,t.ld,ln,c,v.hp.ld,v.ha.ld,b];refine C3.q (qA h 0 (n:=.again k e) ⟨j,d,bk,kv,rfl,v.hg,v.hp,w,z⟩ rfl) λ _ u hp=>?_;simp only[aa,bc];exact hp
end
end Go.Am
namespace Go.Am
open Lang Go.Proofs
variable{M:ak}[MK M]
section
variable{H H1 H2 H':ar}{o o1 o2 o':Nat->Nat}{p g b f:Nat}{x y:So}{fv kv gv tv:AV}{k:K0}{n:Nx}{l:List Nat}{v:Int}{ok:Bool}{R:AV->ar->Prop}
def Hi(hb:Bx H o b (kM f l))(a:xz M f (.int .u64 v::l.map λ b=>.ptr b 0) H λ _ H'=>R .undef H'):xz M KT [.int .u64 v,.bool ok,.ptr b 0] H λ _ H'=>R .undef H':=by
 refine qsk ?_;simp only[aa,bc,qsl,hb.ld,kM];refine C3.q a λ _ c hp=>?_;simp only[aa,bc];exact hp
def hZ(hb:Bx H o b (kM f l))(a:xz M f (.bool ok::l.map λ b=>.ptr b 0) H λ _ H'=>R .undef H'):xz M Me [.int .u64 v,.bool ok,.ptr b 0] H λ _ H'=>R .undef H':=by
 refine qui ?_;simp only[aa,bc,ac5,hb.ld,kM];refine C3.q a λ _ c hp=>?_;simp only[aa,bc];exact hp
def nN{v:Int}(a:fm v):Op.bin .rem [.int .u64 v,.int .u64 2]=B1 (.int .u64 (v % 2)):=by
 rw[rA .u64 _ _ (by decide),Int.tmod_eq_emod_of_nonneg a.1]
def _E(h:dy H o p x g fv)(hn:x.au=B5)(hv:fm v)(hb:Bx H o b tv)(O:CB H o p tv n):xz M (CO n) [.int .u64 v,.bool ok,.ptr b 0] H λ _ H'=>dU H o p (x.on v ok n) H':=by
 cases n with
 |sY m k =>
  obtain⟨E,Z,J,kv,rfl,r,A,G,hk⟩:=O;refine Hi (R:=λ _ H'=>dU H o p _ H') hb ?_;refine qqu ?_;simp only[aa,bc,j',r.ld,A.ld];refine C3.q (Kl h 1 v (BL _) (n:=.rN m k) ⟨_,_,_,kv,rfl,r,A,G,hk⟩ rfl) λ _ d hp=>?_;simp only[aa,bc];exact hp
 |rN m k =>
  obtain⟨E,Z,J,kv,rfl,r,A,G,hk⟩:=O;refine hZ (R:=λ _ H'=>dU H o p _ H') hb ?_;refine qoj ?_;unfold So.on;cases ok with
  |true =>
   obtain⟨N,a,c,rfl,K⟩:=yB (M:=M) h hk;simp only[aa,bc,Vd,G.ld];refine C3.q K λ _ d hp=>?_;simp only[aa,bc];exact hp
  |false =>
   simp only[aa,bc,Vd,r.ld,A.ld,G.ld,za];refine C3.q (td h m hk) λ _ d hp=>?_;simp only[aa,bc];exact hp
 |tA =>
  obtain⟨E,Z,gv,rfl,r,A,hg⟩:=O;refine Hi (R:=λ _ H'=>dU H o p _ H') hb ?_;refine Vt ?_;unfold So.on
  by_cases q:v % 2=1
  .simp only[aa,bc,NQ,nN hv,qr q,r.ld,A.ld];refine C3.q (oM h (ko:=B5) hg) λ _ d hp=>?_;simp only[aa,bc];exact hp
  .have hg:gv=_:=hg;subst hg;simp only[aa,bc,NQ,nN hv,q,A.ld];refine C3.q (IE h v) λ _ d hp=>?_;simp only[aa,bc];exact hp
 |tP k =>
  obtain⟨E,Z,gv,rfl,r,A,hg⟩:=O;refine Hi (R:=λ _ H'=>dU H o p _ H') hb ?_;refine Vt ?_;unfold So.on
  by_cases q:v % 2=1
  .simp only[aa,bc,NQ,nN hv,qr q,r.ld,A.ld];refine C3.q (oM h (ko:=B1 k) hg) λ _ d hp=>?_;simp only[aa,bc];exact hp
  .obtain ⟨J,b4,kv,rfl,d1,d2,hk⟩:=hg;simp only[aa,bc,NQ,nN hv,q,A.ld,kM,jm,G6];refine C3.q (R:=λ _ H'=>dU H o p (x.step k v x.rd 0) H') ?_ λ _ d hp=>?_
   .refine qm4 ?_;have⟨H1,o1,Q,s,bg,C⟩:=h.bx (.int .u64 v) Sv;have d11:=d1.ky C.bk;simp only[aa,bc,U_,aw,Q,d11.ld,s.bq];refine C3.q (Iz s.lg) λ rv H2⟨t,D,F⟩=>?_;have one:aC rv=true:=Sl.one (Own.sl t)
    -- what is made since
    have Y:Mk H1 o1 H2 (bw o1 H1.au 30):=⟨F,λ z q=>vx q⟩
    have U:=s.fr F (λ _ _ _ q=>q) Y.ho;have hr:x.rd≠[]->aG rv<H2.au/\bw o1 H1.au 30 (aG rv)=30:=λ e=>by
     have on:=uc t e;exact⟨Own.lt t _ on,mG (D _ on)⟩
    have rt:∀{Hx ox},Mk H2 (bw o1 H1.au 30) Hx ox->eS cm 2 Hx rv x.rd/\(x.rd≠[]->aG rv<Hx.au/\ox (aG rv)=30):=λ m=>⟨m.bk.m.sl (bU.sl t) hr,λ e=>⟨qj (hr e).1 m.f.au,(m.ho _ (hr e).1).trans (hr e).2⟩⟩
    have⟨d,o3,s3,h3,br,m3⟩:=U.bz .nils one mE;have⟨u,o4,s4,h4,bi,m4⟩:=h3.Z4 (.int .i64 0) (v:=.int .i64 0) rfl cM;have⟨H5,o5,e5,h5,bs,m5⟩:=h4.by0 .nilf Ez;have⟨H6,o6,s6,h6,bl,m6⟩:=h5.bz .nilf (v:=kM Nt [H2.au,d.au,J,u.au]) rfl O0;have⟨H7,o7,s7,h7,ba,m7⟩:=h6.bz .nilf (v:=kM Oj [H.au,J,b4]) rfl O0;have m13:=Y.trans m3;have X:=((m4.trans m5).trans m6).trans m7;have m57:=(m5.trans m6).trans m7;have m67:=m6.trans m7;have m37:=m3.trans X;have m17:=m13.trans X;have S:=C.trans m17;have⟨H8,s8,h8,W,V,f8⟩:=h7.U5 hn (bs.ky m67.bk) (v:=kM Od [d.au,H2.au,J,H5.au,H6.au]) rfl;have P:=bi.ky m57.bk;have nb:d.au≠u.au:=by have:=m4.f.au;have:=bi.2.1;omega
    have bi8:By H8 o7 d.au (.int .i64 ((0:Nat):Int)):=⟨by rw[f8.ah _ P.2.1 nb];exact P.1,qj P.2.1 f8.au,P.2.2⟩
    have⟨t1,t2⟩:=rt m37;have n8:=f8.au;have one':=hk.one;have ln:=(bU.sl t).len;have B:Gj H8 o7 p k v x.rd d.au H.au J b4 H2.au u.au H5.au H6.au :=
     ⟨(bg.ky m17.bk).km V,(d1.ky S.bk).km V,⟨kv,(d2.ky S.bk).km V,(hk.ky S.bk).km V,one'⟩,⟨rv,(br.ky X.bk).km V,V.sl t1 t2,λ e=>⟨qj (t2 e).1 n8,(t2 e).2⟩,one⟩,W,(bl.ky m7.bk).km V,ba.km V,by have:=h.lg;have⟨_,_,_,_,_,_,_,_,_,_,q,_⟩:=this;exact q.le⟩
    have T:=W.ld;simp only[kM,jm,G6]at s6 s7 s8 T;simp only[aa,bc,s3,s4,e5,yn,kq,s6,s7,s8,T];refine C3.q (EU h8 bi8 (xu _) B) λ _ H9 hp=>?_;simp only[aa,bc];refine S.pre ?_;have⟨o9,g9,fv9,w1,w2,w3⟩:=hp;exact⟨o9,g9,fv9,w1,λ z e=>w2 z (qj e n8),(f8.mono λ z _(e:z=u.au)=>by rw[e,W.2.2];decide).trans w3 λ z e=>.inl e⟩
   .simp only[aa,bc];exact hp
 |look k gg rd i =>
  obtain⟨bi,bg,bp,bk,br,bs,bl,ba,rfl,r,hi,B⟩:=O;refine Hi (R:=λ _ H'=>dU H o p _ H') hb ?_;refine qk1 ?_;have⟨rv,t,D,F,r4⟩:=B.hr;obtain⟨y,hy⟩:∃y,rd[i]? = B1 y:=⟨rd[i],by simp[hi]⟩
  have hyd:rd.getD i ⟨0,0⟩=y:=by rw[zi,hy];rfl
  have ix:Op.aN 2 [rv,.int .i64 (i:Int)]=B1 (.ptr (aG rv) (cw 2 rv i)):=D.idx hy rfl .i64;have l1:Op.ae [.ptr (aG rv) (cw 2 rv i+1)] H=B1 (.int .u64 y.v):=D.ae yS hy (j:=1) (by decide);have eo:x.on v ok (.look k gg rd i)=if v≠y.v then x.leave 2 else x.step k gg rd (i+1):=by show(if v≠(rd.getD i ⟨0,0⟩).v then _ else _)=_;rw[hyd]
  rw[eo]
  by_cases q:v=y.v
  .have wj:aj .i64 ((i:Int)+1)=((i+1:Nat):Int):=by have:=B.hn;rw[jr (by omega) (by omega)];omega
   have⟨H1,s1,s,d1,C,I⟩:=h.U5 hn r (v:=.int .i64 ((i+1:Nat):Int)) rfl;have nb:bs≠bi:=λ e=>by
    have a1:=B.hs.ld;have a2:=r.ld;rw[e,a2]at a1;injection a1 with a1;cases a1
   have ds:By H1 o bs _:=⟨by rw[I.ah bs B.hs.2.1 nb];exact B.hs.1,qj B.hs.2.1 I.au,B.hs.2.2⟩
   have⟨kv,k1,k2,k3⟩:=B.hk;have va1:Gj H1 o p k gg rd bi bg bp bk br bs bl ba:=⟨B.hg.km C,B.hp.km C,⟨kv,k1.km C,k2.km C,k3⟩,⟨rv,t.km C,C.sl D F,λ e=>⟨qj (F e).1 I.au,(F e).2⟩,r4⟩,ds,B.hl.km C,B.ha.km C,B.hn⟩
   simp only[aa,bc,Wr,t.ld,r.ld,ix,l1,qr q,wj,s1,ds.ld,kM,jm,G6];refine C3.q (EU s d1 hi va1) λ _ d hp=>?_;simp only[aa,bc];have⟨o2,g2,fv2,w1,w2,w3⟩:=hp;exact⟨o2,g2,fv2,w1,λ z e=>w2 z (qj e I.au),(I.mono λ z _(e:z=bi)=>by rw[e,r.2.2];decide).trans w3 λ z e=>.inl e⟩
  .simp only[aa,bc,Wr,t.ld,r.ld,ix,l1,q,B.hp.ld];refine C3.q (mX h 2) λ _ d hp=>?_;simp only[aa,bc];exact hp
 |again k gg =>
  obtain⟨bg,bp,bk,kv,rfl,r,A,G,hk⟩:=O;refine Hi (R:=λ _ H'=>dU H o p _ H') hb ?_;refine qk2 ?_;unfold So.on
  by_cases q:v=gg
  .simp only[aa,bc,UO,r.ld,A.ld,qr q];refine C3.q (tJ h gg) λ _ H1⟨s,I⟩=>?_;have c31:=G.ky (h.on I);obtain⟨N,a,c,rfl,K⟩:=yB (M:=M) s (hk.ky (h.on I));simp only[aa,bc,c31.ld];refine C3.q K λ _ d hp=>?_;simp only[aa,bc];exact dU.step h I hp
  .simp only[aa,bc,UO,r.ld,A.ld,G.ld,q];refine C3.q (P9 h hk) λ _ d hp=>?_;simp only[aa,bc];exact hp
 |tQ a =>
  obtain⟨ha,E,Z,rfl,r,A⟩:=O;refine Hi (R:=λ _ H'=>dU H o p _ H') hb ?_;refine qqw ?_;have⟨H1,o1,Q,s,J,C⟩:=h.bx (.int .u64 v) Sv;have d1:=r.ky C.bk;have d2:=A.ky C.bk;simp only[aa,bc,qqx,Q,d1.ld];refine C3.q (qA s 0 (n:=.mr a v) ⟨⟨ha,hv⟩,_,_,_,rfl,d1,d2,J⟩ rfl) λ _ d hp=>?_;simp only[aa,bc];exact C.pre hp
 |mr a w =>
  obtain⟨⟨ha,hw⟩,E,Z,J,rfl,r,A,G⟩:=O;refine Hi (R:=λ _ H'=>dU H o p _ H') hb ?_;refine _4 ?_
  by_cases q:v=x.snap
  .have lw:=QH (M:=M) h.lg a;have go:∀(l:List Pr){H1:ar}{o1:Nat->Nat},x.ah a w=B1 l->(cR x.rd a).getD w=w->dy H1 o1 p {x with rd:=l} g fv->ny H o H1 o1->Fr (λ z=>8<=o z) H H1 ->
    ∃H2,Op.store 1 [.ptr p 10,.int .u64 w] H1=B1 (.undef,H2)/\Op.ae [.ptr E 0] H1=B1 (.ptr p 0)/\Op.ae [.ptr J 0] H1=B1 (.int .u64 w)/\Op.ae [.ptr E 0] H2=B1 (.ptr p 0)/\xz M Ps [.ptr p 0,.int .u64 v] H2 λ _ d=>Op.ae [.ptr E 0] d=B1 (.ptr p 0)/\xz M NS [.ptr p 0] d λ _ u=>dU H o p (x.on v ok (.mr a w)) u:=λ l{H1 o1}ek L s bk N=>by
    have⟨H2,s2,U,f2⟩:=s.put 10 (v:=.int .u64 w) (y:={x with rd:=l,value:=w}) rfl (by decide) rfl ⟨rfl,rfl,rfl,rfl⟩ hw;have d1:=r.ky bk;have d3:=G.ky bk;have Q:=d1.ky (s.on f2);refine⟨H2,s2,d1.ld,d3.ld,Q.ld,(tJ U v).mono λ _ d⟨h3,f3⟩=>⟨(Q.ky (U.on f3)).ld,(BE h3).mono λ _ u⟨h4,f4⟩=>?_⟩⟩;have e:x.on v ok (.mr a w) = {({x with rd:=l,value:=w}:So).nH v with busy:=B2}:=by
     show(if v≠x.snap then _ else if(cR x.rd a).getD w≠w then _ else match x.ah a w with|none=>_|some l=>_)=_;rw[qn (λ e=>e q),qn (λ e=>e L),ek]
    rw[e];exact dU.after bk.own N (s.xP ((f2.trans f3 λ z q=>.inl q).trans f4 λ z q=>.inl q) h4)
   have lv:∀{H1:ar}{o1:Nat->Nat},(cR x.rd a).getD w≠w\/(cR x.rd a).getD w=w/\x.ah a w=B5->dy H1 o1 p x g fv->ny H o H1 o1->Fr (λ z=>8<=o z) H H1->Op.ae [.ptr E 0] H1=B1 (.ptr p 0)/\xz M PA [.ptr p 0,.int .i64 2] H1 λ _ u=>dU H o p (x.on v ok (.mr a w)) u:=λ{H1 o1}L s bk N=>by
    refine⟨(r.ky bk).ld,(mX s 2).mono λ _ u hp=>?_⟩;have e:x.on v ok (.mr a w)=x.leave 2:=by
     show(if v≠x.snap then _ else if(cR x.rd a).getD w≠w then _ else match x.ah a w with|none=>_|some l=>_)=_;rw[qn (λ e=>e q)];rcases L with L|⟨L,ek⟩
     .rw [qv L]
     .rw [qn (λ e=>e L),ek]
    rw[e];exact dU.after bk.own N hp
   have bk0:ny H o H o:=⟨⟨λ _ _ _=>rfl,λ _ _=>rfl,qg _⟩,λ _ _ _=>rfl⟩
   have rest:∀{e:AV}{H1:ar},(cR x.rd a).getD w=w->G4 H o g x.rd a e (su H o g x.rd x.wr H1) (su H o g (if cR x.rd a=B5 then x.rd ++ [⟨a,w⟩]else x.rd) x.wr H1)->(e=.int .i64 70/\Op.ae [.ptr E 0] H1=B1 (.ptr p 0)/\xz M PA [.ptr p 0,.int .i64 2] H1 λ _ u=>dU H o p (x.on v ok (.mr a w)) u)\/e=.int .i64 0 /\ ∃H2,Op.store 1 [.ptr p 10,.int .u64 w] H1=B1 (.undef,H2)/\Op.ae [.ptr E 0] H1=B1 (.ptr p 0)/\Op.ae [.ptr J 0] H1=B1 (.int .u64 w)/\Op.ae [.ptr E 0] H2=B1 (.ptr p 0)/\xz M Ps [.ptr p 0,.int .u64 v] H2 λ _ d=>Op.ae [.ptr E 0] d=B1 (.ptr p 0)/\xz M NS [.ptr p 0] d λ _ u=>dU H o p (x.on v ok (.mr a w)) u:=λ L K=>by
    rcases K with⟨l1,l2,rfl,hp⟩|⟨l1,rfl,hp⟩
    .have ⟨o1,s,bk,N⟩:=h.log hp h.wu;exact .inl ⟨rfl,lv (.inr ⟨L,by unfold So.ah;rw[l1];simp only;rw[qv l2]⟩) s bk N⟩
    .have ⟨o1,s,bk,N⟩:=h.log hp h.wu;refine .inr ⟨rfl,go _ ?_ L s bk N⟩;unfold So.ah;cases hl:cR x.rd a with
     |some z=>simp only;rw[qn (by simp)]
     |none=>simp only;rw[qn λ e=>l1 ⟨hl,e⟩,qv trivial]
   cases hl:cR x.rd a with
   |some z =>
    rw[hl]at lw
    by_cases qz:z=w
    .subst qz;simp only[aa,bc,vg,aw,r.ld,h.bq,qr q,A.ld,lw,G.ld,vr,HG];refine C3.q (FR h.lg ha z) λ e H1 K=>?_;rcases rest (by rw[hl];rfl) K with⟨rfl,t,D⟩|⟨rfl,H2,t,D,F,r4,r5⟩
     .have t7:¬(70:Int)=0:=by decide
      simp only[aa,bc,t7,t];refine C3.q D λ _ u hp=>?_;simp only[aa,bc];exact hp
     .simp only[aa,bc,vg,aw,t,D,F,r4];refine C3.q r5 λ _ d⟨r6,r7⟩=>?_;simp only[aa,bc,r6];refine C3.q r7 λ _ u hp=>?_;simp only[aa,bc];exact hp
    .simp only[aa,bc,vg,aw,r.ld,h.bq,qr q,A.ld,lw,G.ld,vr,HG,qz];refine C3.q (lv (.inl (by rw[hl];exact qz)) h bk0 (Fr.refl _)).2 λ _ u hp=>?_;simp only[aa,bc];exact hp
   |none =>
    rw[hl]at lw;simp only[aa,bc,vg,aw,r.ld,h.bq,qr q,A.ld,lw,G.ld,Option.getD_none,KV];refine C3.q (FR h.lg ha w) λ e H1 K=>?_;rcases rest (by rw[hl];rfl) K with⟨rfl,t,D⟩|⟨rfl,H2,t,D,F,r4,r5⟩
    .have t7:¬(70:Int)=0:=by decide
     simp only[aa,bc,t7,t];refine C3.q D λ _ u hp=>?_;simp only[aa,bc];exact hp
    .simp only[aa,bc,vg,aw,t,D,F,r4];refine C3.q r5 λ _ d⟨r6,r7⟩=>?_;simp only[aa,bc,r6];refine C3.q r7 λ _ u hp=>?_;simp only[aa,bc];exact hp
  .have e:x.on v ok (.mr a w)=x.validate (.jH a):=qv q;rw[e];simp only[aa,bc,vg,aw,r.ld,h.bq,q];refine C3.q (P9 h (k:=.jH a) ⟨ha,_,_,rfl,r,A⟩) λ _ d hp=>?_;simp only[aa,bc];exact hp
 |rI =>
  obtain⟨E,rfl,r⟩:=O;refine hZ (R:=λ _ H'=>dU H o p _ H') hb ?_;refine qso ?_;unfold So.on;cases ok with
  |true =>
   have⟨H1,s1,s,I⟩:=h.put 12 (v:=.int .i64 (aj .i64 (x.points+1))) (y:={x with points:=aj .i64 (x.points+1)}) rfl (by decide) rfl ⟨rfl,rfl,rfl,rfl⟩ h.vu;have d1:=r.ky (h.on I);have⟨H2,s2,U,f2⟩:=s.put 8 (v:=.bool B4) (y:={x with points:=aj .i64 (x.points+1),aI:=B4}) rfl (by decide) rfl ⟨rfl,rfl,rfl,rfl⟩ h.vu;have Q:=d1.ky (s.on f2);simp only[aa,bc,t6,aw,r.ld,h.bq,s1,d1.ld,s2,Q.ld,U.bq];refine C3.q (uX U.lg) λ lv d⟨t,D,F⟩=>?_;have one:aC lv=true:=Sl.one (Own.sl t);have Y:Mk H2 o d (bw o H2.au 30):=⟨F,λ z q=>vx q⟩
   have h3:=U.fr F (λ _ _ _ q=>q) Y.ho;have e3:=Q.ky Y.bk;have hr:x.wr≠[]->aG lv<d.au/\bw o H2.au 30 (aG lv)=30:=λ e=>by
    have on:=uc t e;exact⟨Own.lt t _ on,mG (D _ on)⟩
   simp only[aa,bc,e3.ld];refine C3.q (FO h3 (bU.sl t) h.wu hr one) λ _ u hp=>?_;simp only[aa,bc];exact dU.step h (I.trans f2 λ z q=>.inl q) (Y.pre hp)
  |false =>
   simp only[aa,bc,t6,r.ld,za];refine C3.q (P9 h (k:=.take) rfl) λ _ d hp=>?_;simp only[aa,bc];exact hp
 |CG k =>
  refine qq0 ?_;obtain⟨N,a,c,rfl,K⟩:=yB (M:=M) h O;simp only[aa,bc,qq1,hb.ld];refine C3.q K λ _ d hp=>?_;simp only[aa,bc];exact hp
end
end Go.Am
namespace Go.Am
open Lang Go.Proofs
variable{M:ak}[MK M]
section
variable{H H1 H2 H':ar}{o o1 o2 o':Nat->Nat}{p g b f:Nat}{x y:So}{fv kv gv tv:AV}{v:Int}{ok:Bool}
def jI(h:dy H o p x g fv):∀K,C3 M B4 (.func Yx) [.ptr p 0] H K=K B4 (.bool B2) H:=by
 refine dX (qw2 ?_);simp only[aa,bc,qw3,aw,h.bq]
def gG(h:dy H o p x g fv):∀K,C3 M B4 (.func V2) [.ptr p 0] H K=K B4 (.bool x.busy) H:=by
 refine dX (qwq ?_);simp only[aa,bc,Y',aw,jI h,h.bq]
def EV(h:dy H o p x g fv):∀K,C3 M B4 (.func Z0) [.ptr p 0] H K=K B4 (.bool x.aI) H:=by
 refine dX (qqs ?_);simp only[aa,bc,qqt,aw,jI h,h.bq]
def xH(h:dy H o p x g fv):∀K,C3 M B4 (.func XU) [.ptr p 0] H K=K B4 (.int .u64 x.value) H:=by
 refine dX (que ?_);simp only[aa,bc,quf,aw,jI h,h.bq]
def pz(h:dy H o p x g fv):∀K,C3 M B4 (.func Zi) [.ptr p 0] H K=K B4 (.int .i64 x.ended) H:=by
 refine dX (qub ?_);simp only[aa,bc,R_,aw,jI h,h.bq]
def d8(h:dy H o p x g fv):∀K,C3 M B4 (.func mo) [.ptr p 0] H K=K B4 (.int .i64 x.points) H:=by
 refine dX (qse ?_);simp only[aa,bc,qsf,aw,jI h,h.bq]
def lQ(h:dy H o p x g fv):∀K,C3 M B4 (.func YX) [.ptr p 0] H K=K B4 (.int .i64 (if x.ready=B4 then 0 else 80)) H:=by
 refine dX (qut ?_);unfold So.ready;cases q:x.busy<;>cases r:x.live<;>simp only[aa,bc,quu,aw,jI h,h.bq,q,r,za,Bool.true_and,Bool.false_and]
def Hj(h:dy H o p x g fv)(a:Int):∀K,C3 M B4 (.func VI) [.ptr p 0,.int .i64 a] H K=K B4 (.int .i64 (if x.ready=B4 then if 8<=a then 0 else 2 else 80)) H:=by
 refine dX (qq2 ?_);have d:¬(80:Int)=0:=by decide
 cases q:x.ready
 .simp only[aa,bc,PL,lQ h,q,za,d]
 .by_cases r:8<=a
  .have c:¬a<8:=Int.not_lt.2 r;simp only[aa,bc,PL,lQ h,q,c,qr r]
  .have c:a<8:=Int.not_le.1 r;simp only[aa,bc,PL,lQ h,q,qr c,r]
def Jw:[AV.int .i64 0,.int .i64 0,.int .u64 0,.int .u64 0]=ib ⟨0,0,0,0⟩:=rfl
def Kf(h:dy H o p x g fv):xz M va [.ptr p 0] H λ w H'=>(∃q,w=.tuple [.agg (ib x.want),.bool q])/\Fr Em H H':=by
 refine qwv ?_;obtain⟨H1,i,j,-,-⟩:=de H (OR (ib ⟨0,0,0,0⟩) yM);have d:At H1 H.au yM _:=i▸At.new H _ _;have c:=h.fr j (λ _ _ _ q=>q) λ _ _=>rfl;have l4:Op.av 4 [.ptr p 1] H1=B1 (.agg (ib x.want)):=c.row.gn (k:=1) (n:=4) (by simp[di,ib]);have s1:=d.ir (k:=0) (n:=4) (v:=.agg (ib x.want)) rfl (by simp[ib]) rfl;have s:(ib ⟨0,0,0,0⟩).take 0++AV.cells (.agg (ib x.want))++(ib ⟨0,0,0,0⟩).drop (0+4)=ib x.want:=rfl;rw[s]at s1;obtain⟨H2,a⟩:∃X,X=H1.set H.au (OR (ib x.want) yM):=⟨_,rfl⟩
 rw[<-a]at s1;have m:Fr Em H H2:=a▸j.set (.inr (qg _)) _;have r:At H2 H.au yM (ib x.want):=a▸d.set _;have t:=h.fr m (λ _ _ _ q=>q) λ _ _=>rfl;have z:Op.av 4 [.ptr H.au 0] H2=B1 (.agg (ib x.want)):=r.gn (k:=0) (n:=4) (by simp[ib]);obtain⟨q,u⟩:∃q:Bool,∀H,Op.eq .func B4 [fv,.nilf] H=B1 (.bool q):=by
  have:=h.nx;cases e:x.au with
  |none=>rw[e]at this;rw[show fv=_ from this];exact⟨B2,λ _=>rfl⟩
  |some n=>rw[e]at this;obtain⟨b,tv,rfl,-⟩:=this;exact⟨B4,λ _=>rfl⟩
 simp only[aa,bc,qww,aw,Jw,<-i,jI c,l4,c.bq,t.bq,u,s1,z];exact⟨⟨q,rfl⟩,m⟩
def Kk(h:dy H o p x g fv)(s:fm v):xz M Zt [.ptr p 0,.int .u64 v,.bool ok] H λ _ H'=>dU H o p (x.gf v ok) H':=by
 refine _G ?_;unfold So.gf;have nx:=h.nx;cases e:x.au with
 |none =>
  rw[e]at nx;have nx:fv=.nilf:=nx;subst nx;have q:∀H,Op.eq .func B2 [.nilf,.nilf] H=B1 (.bool B4):=λ _=>rfl;simp only[aa,bc,WK,aw,jI h,h.bq,q];exact h.same
 |some n =>
  rw[e]at nx;obtain⟨b,tv,rfl,hb,r⟩:=nx;have q:∀f l H,Op.eq .func B2 [.fn f [] l,.nilf] H=B1 (.bool B2):=λ _ _ _=>rfl;have d:Op.build (ib ⟨0,0,0,0⟩) [] []=B1 (.agg (ib ⟨0,0,0,0⟩)):=rfl;have s1:=h.row.ir (k:=1) (n:=4) (v:=.agg (ib ⟨0,0,0,0⟩)) rfl (by simp[di,ib]) rfl;have i:(di x g (kM (CO n) [b])).take 1++AV.cells (.agg (ib ⟨0,0,0,0⟩))++(di x g (kM (CO n) [b])).drop (1+4)=di {x with want:=⟨0,0,0,0⟩} g (kM (CO n) [b]):=rfl;rw[i]at s1;obtain⟨H1,a⟩:∃X,X=H.set p (OR (di {x with want:=⟨0,0,0,0⟩} g (kM (CO n) [b])) xG):=⟨_,rfl⟩
  rw[<-a]at s1;have c:At H1 p xG _:=a▸h.row.set _;have s2:=c.st 5 (v:=.nilf) rfl (by simp[di,ib]);have j:(di {x with want:=⟨0,0,0,0⟩} g (kM (CO n) [b])).set 5 .nilf=di {x with want:=⟨0,0,0,0⟩,au:=B5} g .nilf:=rfl;rw[j]at s2;have f:Fr (On p) H (H1.set p (OR (di {x with want:=⟨0,0,0,0⟩,au:=B5} g .nilf) xG)):=(a▸cW H p _:Fr (On p) H H1).trans (cW ..) λ z q=>.inl q;have bk:=h.on f;have m:dy (H1.set p (OR (di {x with want:=⟨0,0,0,0⟩,au:=B5} g .nilf) xG)) o p {x with want:=⟨0,0,0,0⟩,au:=B5} g .nilf:=⟨c.set _,h.lg.fr f (λ z _ w(e:z=p)=>by rw[e,h.op]at w;omega) λ _ _=>rfl,rfl,h.op,rfl,h.vu,h.wu,bI⟩
  simp only[aa,bc,WK,aw,jI h,h.bq,q,Jw,d,s1,s2,kM,jm,G6];refine C3.q (_E m rfl s (hb.ky bk) (r.ky bk)) λ _ t hp=>?_;simp only[aa,bc];exact dU.step h f hp
def HH(h:dy H o p x g fv):xz M Xb [.ptr p 0] H λ _ H'=>dU H o p x.begin H':=by
 refine qua ?_;unfold So.begin
 by_cases q:x.busy=B4\/x.live=B4
 .rw [qv q];cases b:x.busy
  .have l:x.live=true:=q.resolve_left (by rw[b];simp);simp only[aa,bc,Qu,aw,jI h,h.bq,b,l];exact h.same
  .simp only[aa,bc,Qu,aw,jI h,h.bq,b];exact h.same
 .rw [qn q];have b:x.busy=false:=by cases r:x.busy;rfl;exact(q (.inl r)).elim
  have l:x.live=false:=by cases r:x.live;rfl;exact(q (.inr r)).elim
  simp only[aa,bc,Qu,aw,jI h,h.bq,b,l];refine C3.q (HA h.lg) λ _ H1 hp=>?_;have⟨o1,a,bk,i⟩:=h.log hp (λ y w=>by cases w);have⟨H2,s2,j,c⟩:=a.put 10 (v:=.int .u64 0) (y:={x with rd:=[],wr:=[],value:=0}) rfl (by decide) rfl ⟨rfl,rfl,rfl,rfl⟩ bI;have⟨A,t,m,d⟩:=j.put 11 (v:=.int .i64 0) (y:={x with rd:=[],wr:=[],value:=0,ended:=0}) rfl (by decide) rfl ⟨rfl,rfl,rfl,rfl⟩ bI;have⟨B,u,s,e⟩:=m.put 6 (v:=.bool B4) (y:={x with rd:=[],wr:=[],value:=0,ended:=0,busy:=B4}) rfl (by decide) rfl ⟨rfl,rfl,rfl,rfl⟩ bI;simp only[aa,bc,aw,s2,t,u];refine C3.q (td s 1 (k:=.wait) rfl) λ _ C hp=>?_;simp only[aa,bc];simp only[l]at hp;exact dU.after bk.own i (dU.step a ((c.trans d λ z q=>.inl q).trans e λ z q=>.inl q) hp)
def _x(h:dy H o p x g fv)(a:Int):xz M W2 [.ptr p 0,.int .i64 a] H λ _ H'=>dU H o p (x.load a) H':=by
 refine qwt ?_;unfold So.load;have A:¬(80:Int)=0:=by decide
 have u:¬(2:Int)=0:=by decide
 by_cases q:x.ready=B4/\8<=a
 .rw [qv q];have lk:=Ld (M:=M) h.lg a;cases e:cR x.wr a with
  |some z =>
   rw[e]at lk;have s:fm z:=by
    rw[Fa]at e;obtain⟨i,m,rfl⟩:=xh.1 e;obtain⟨c,y,j,-⟩:=nM m;rw[zi,j];exact h.wu y (xl j)
   have⟨H1,s1,c,d⟩:=h.put 10 (v:=.int .u64 z) (y:={x with value:=z}) rfl (by decide) rfl ⟨rfl,rfl,rfl,rfl⟩ s;simp only[aa,bc,OK,aw,Hj h,q.1,qr q.2,h.bq,lk,vr,HG,s1];exact h.xP d c
  |none =>
   rw[e]at lk;have⟨H1,s1,c,d⟩:=h.put 6 (v:=.bool B4) (y:={x with busy:=B4}) rfl (by decide) rfl ⟨rfl,rfl,rfl,rfl⟩ h.vu;simp only[aa,bc,OK,aw,Hj h,q.1,qr q.2,h.bq,lk,Option.getD_none,KV,s1];refine C3.q (Cg c (a:=a) (by omega)) λ _ B hp=>?_;simp only[aa,bc];exact dU.step h d hp
 .rw [qn q]
  by_cases r:x.ready=B4
  .have t:¬8<=a:=λ w=>q ⟨r,w⟩;simp only[aa,bc,OK,Hj h,r,t,u];exact h.same
  .simp only[aa,bc,OK,Hj h,qn r,A];exact h.same
def P_(h:dy H o p x g fv)(a:Int)(j:fm v):xz M Zx [.ptr p 0,.int .i64 a,.int .u64 v] H λ _ H'=>dU H o p (x.store a v) H':=by
 refine η ?_;unfold So.store;have B:¬(80:Int)=0:=by decide
 have z:¬(2:Int)=0:=by decide
 have A:¬(70:Int)=0:=by decide
 by_cases q:x.ready=B4/\8<=a
 .rw [qv q];simp only[aa,bc,KM,aw,Hj h,q.1,qr q.2,h.bq];refine C3.q (G7 h.lg (a:=a) (by omega) v) λ e H1 t=>?_;rcases t with⟨l1,l2,rfl,hp⟩|⟨l1,rfl,hp⟩
  .rw [qv ⟨l1,l2⟩];have⟨o1,c,bk,d⟩:=h.log hp h.wu;have⟨H2,s2,s,m⟩:=c.put 6 (v:=.bool B4) (y:={x with busy:=B4}) rfl (by decide) rfl ⟨rfl,rfl,rfl,rfl⟩ h.vu;simp only[aa,bc,aw,A,s2];refine C3.q (mX s 2) λ _ C hp=>?_;simp only[aa,bc,KM];exact dU.after bk.own d (dU.step c m hp)
  .rw [qn l1];have hu:∀y∈eU x.wr a v,fm y.v:=λ y w=>by
    cases e:gM x.wr a with
    |none=>rw[Ou e]at w;exact(zr.1 w).elim (h.wu y) λ w=>by rw[z4.1 w];exact j
    |some i=>rw[Ox e]at w;exact(uy w).elim (h.wu y) λ w=>by rw[w];exact j
   have⟨o1,c,bk,d⟩:=h.log hp hu;simp only[aa,bc,KM];exact⟨o1,_,_,c,bk.own,d⟩
 .rw [qn q]
  by_cases r:x.ready=B4
  .have u:¬8<=a:=λ w=>q ⟨r,w⟩;simp only[aa,bc,KM,Hj h,r,u,z];exact h.same
  .simp only[aa,bc,KM,Hj h,qn r,B];exact h.same
def q8g(h:dy H o p x g fv):xz M Va [.ptr p 0] H λ _ H'=>dU H o p x.aT H':=by
 refine qsd ?_;unfold So.aT;have s:¬(80:Int)=0:=by decide
 by_cases r:x.ready=B4
 .rw [qv r];have⟨H1,s1,a,e⟩:=h.put 6 (v:=.bool B4) (y:={x with busy:=B4}) rfl (by decide) rfl ⟨rfl,rfl,rfl,rfl⟩ h.vu;simp only[aa,bc,Tt,aw,lQ h,r,s1,a.bq];refine C3.q (uX a.lg) λ lv H2⟨m,t,d⟩=>?_;have ln:=(bU.sl m).len;have i:=a.fr d (λ _ _ _ q=>q) λ _ _=>rfl
  by_cases q:x.wr.length=0
  .have c:((x.wr.length:Nat):Int)=0:=by omega
   rw[qv q];simp only[aa,bc,ln,qr c];refine C3.q (mX i 1) λ _ j hp=>?_;simp only[aa,bc];exact dU.step h e (dU.pre d (λ _ _=>rfl) hp)
  .have c:¬((x.wr.length:Nat):Int)=0:=by omega
   rw[qn q];simp only[aa,bc,Tt,ln,c];refine C3.q (FB i) λ _ j hp=>?_;simp only[aa,bc];exact dU.step h e (dU.pre d (λ _ _=>rfl) hp)
 .rw [qn r];simp only[aa,bc,Tt,lQ h,qn r,s];exact h.same
def xd4(h:dy H o p x g fv):xz M YO [.ptr p 0] H λ _ H'=>dU H o p x.Ae H':=by
 refine B_ ?_;unfold So.Ae;have d:¬(80:Int)=0:=by decide
 by_cases r:x.ready=B4
 .rw [qv r];have⟨H1,s1,c,a⟩:=h.put 6 (v:=.bool B4) (y:={x with busy:=B4}) rfl (by decide) rfl ⟨rfl,rfl,rfl,rfl⟩ h.vu;simp only[aa,bc,PM,aw,lQ h,r,s1];refine C3.q (mX c 3) λ _ e hp=>?_;simp only[aa,bc,PM];exact dU.step h a hp
 .rw [qn r];simp only[aa,bc,PM,lQ h,qn r,d];exact h.same
end
end Go.Am
