import Derived.Test.YtgjdmncoonceaaaGreatDoorAmTZb
import Derived.Test.YtgjdmncoonceaaaGreatDoorAmTZa
set_option linter.unusedVariables false
set_option linter.unusedSimpArgs false
set_option linter.defProp false
open And renaming intro→HX
open Bool renaming rec→O5,false→B2,true→B4
open False renaming elim→ND
open Go renaming IntKind→OM,Program→Jl
open List renaming rec→B7
open Nat renaming beq→JW,ble→Nu,blt→OO
open Option renaming rec→PZ,none→B5,some→B1
namespace Go.Am
def aJ:Bool:=B4
def bR{α:Type}(m:Bool)(o:Option α)(K:α->Prop):Prop:=match o with
 |some a=>K a
 |none=>False
def iY{α β:Type}(m:Bool)(o:Option (α×β))(K:α -> β->Prop):Prop:=match o with
 |some a=>K a.1 a.2
 |none=>False
def HA(m:Bool)(q:Bool)(A B:Prop):Prop:=match q with
 |true=>A
 |false=>B
@[congr]def aa4{α:Type}{m c:Bool}{o o':Option α}{K:α->Prop}(hm:m=c)(h:o=o'):bR m o K=bR c o' K:=by rw[h,hm]
@[congr]def aa3{α β:Type}{m c:Bool}{o o':Option (α×β)}{K:α -> β->Prop}(hm:m=c)(h:o=o'):iY m o K=iY c o' K:=by rw[h,hm]
@[congr]def ab3{m c q d:Bool}{A B:Prop}(hm:m=c)(h:q=d):HA m q A B=HA c d A B:=by rw[h,hm]
def bR.elim{α:Type}{m:Bool}{o:Option α}{K:α->Prop}(h:bR m o K):∃a,o=B1 a/\K a:=by
 cases o with
 |none=>exact ND h
 |some a=>exact⟨a,rfl,h⟩
def iY.elim{α β:Type}{m:Bool}{o:Option (α×β)}{K:α -> β->Prop}(h:iY m o K):∃a b,o=B1 (a,b)/\K a b:=by
 cases o with
 |none=>exact ND h
 |some a=>exact⟨a.1,a.2,rfl,h⟩
theorem bR.intro{α:Type}{m:Bool}{o:Option α}{K:α->Prop}{a:α}(h:o=B1 a)(hk:K a):bR m o K:=by subst h;exact hk
theorem iY.intro{α β:Type}{m:Bool}{o:Option (α×β)}{K:α -> β->Prop}{a:α}{b:β}(h:o=B1 (a,b))(hk:K a b):iY m o K:=by subst h;exact hk
def HA.dec{m:Bool}{p:Prop}[Decidable p]{A B:Prop}(c:p->A)(d:¬p->B):HA m (decide p) A B:=by
 by_cases h:p
 .rw [ke h];exact c h
 .rw [ju h];exact d h
def HA.cases{m:Bool}{q:Bool}{A B:Prop}(c:q=B4->A)(d:q=B2->B):HA m q A B:=by
 cases q with
 |true=>exact c rfl
 |false=>exact d rfl
def asBool:AV->Option Bool
 | .bool q=>B1 q
 |_=>B5
noncomputable section
structure ak where
 prog:jW
 told:b9
 mute:Nat->Bool
 ok:∀f vs up H,mute f=B2->told f vs up H=B5
def ak.call(M:ak)(n:Nat):b9:=nA M.prog M.told n
def ak.func(M:ak)(f:Nat):Option cj:=cond (M.mute f) B5 (M.prog.func f)
def ak.kI(M:ak):Nat->String->Option Nat:=M.prog.kI
def ak.zA{M:ak}{f:Nat}{fn:cj}(h:M.func f=B1 fn):M.mute f=B2/\M.prog.func f=B1 fn:=by
 unfold ak.func at h;cases hm:M.mute f with
 |true=>rw[hm]at h;cases h
 |false=>rw[hm]at h;exact⟨rfl,h⟩
def ak.Az{M:ak}{f:Nat}(h:M.mute f=B2)(n:Nat)(vs:List AV)(up:Option aI)(H:ar):M.call (n+1) f vs up H=Gh M.prog (M.call n) n f vs up H:=by
 show(match M.told f vs up H with|some r=>B1 r|none=>Gh M.prog (nA M.prog M.told n) n f vs up H)=_;rw[M.ok f vs up H h];rfl
variable(AP:ak)
def zC(n k:Nat)(ctx:Ctx):RT:=⟨AP.prog,AP.call n,rounds AP.prog (AP.call n) n k,n,ctx⟩
def jX(f:Nat)(vs:List AV)(up:Option aI)(H:ar)(e:bP)(up':Option aI)(H':ar):Prop:=∃n0,∀n,n0<=n->AP.call n f vs up H=B1 (e,up',H')
def CALL(f:Nat)(vs:List AV)(H:ar)(e:bP)(H':ar):Prop:=jX AP f vs B5 H e B5 H'
def tc(l:Nat)(vs:List AV)(H:ar)(e:bP)(H':ar):Prop:=∃n0,∀n k,n0<=n->n0<=k->rounds AP.prog (AP.call n) n k vs l H=B1 (e,H')
def uR:mE->List AV->ar->bP->ar->Prop
 | .func g=>CALL AP g
 | .yield l=>tc AP l
def nZ(m:Bool)(f:mE)(vs:List AV)(H:ar)(K:AV->ar->Prop)(E:aI->ar->Prop):Prop :=
 ∃e H',uR AP f vs H e H'/\match e with
  | .ret v=>K v H'
  | .panic c=>E c H'
@[congr]def aa1{AP:ak}{m d:Bool}{f:mE}{vs c:List AV}{H:ar}{K:AV->ar->Prop}{E:aI->ar->Prop}(hm:m=d)(h:vs=c):nZ AP m f vs H K E=nZ AP d f c H K E:=by rw[h,hm]
def N8(m:Bool)(vs:List AV)(K:mE->List AV->Prop):Prop:=match vs with
 | .fn (.func g) first cap::args=>K (.func g) (first++(args++cap))
 | .fn (.yield l) first []::args=>K (.yield l) (first++args)
 |_=>False
@[congr]def ab2{m d:Bool}{vs c:List AV}{K:mE->List AV->Prop}(hm:m=d)(h:vs=c):N8 m vs K=N8 d c K:=by rw[h,hm]
def N5(m:Bool)(name:String)(vs:List AV)(K:mE->List AV->Prop):Prop:=match vs with
 | .iface t v::args=>bR aJ (AP.kI t name) λ g=>K (.func g) (v::args)
 |_=>False
@[congr]def ab0{AP:ak}{m d:Bool}{name:String}{vs c:List AV}{K:mE->List AV->Prop}(hm:m=d)(h:vs=c):N5 AP m name vs K=N5 AP d name c K:=by rw[h,hm]
def qA(tm:T AV):List bM->(List AV->Prop)->Prop
 |[],K=>K []
 | .tmp t::xs,K=>bR aJ (tm.get t) λ v=>qA tm xs λ vs=>K (v::vs)
 | .const v::xs,K=>qA tm xs λ vs=>K (v::vs)
 | .eO g::xs,K=>qA tm xs λ vs=>K (.ptr g 0::vs)
 | .func f::xs,K=>qA tm xs λ vs=>K (.fn (.func f) [] []::vs)
def qA.elim{tm:T AV}:∀{l:List bM}{K:List AV->Prop},qA tm l K -> ∃vs,mF tm l=B1 vs/\K vs
 |[],K,h=>⟨[],rfl,h⟩
 | .tmp t::xs,K,h=>by
  obtain⟨v,f,h⟩:=bR.elim (m:=aJ) h;obtain⟨vs,c,d⟩:=qA.elim h;exact⟨v::vs,by simp[mF,rR,f,c],d⟩
 | .const v::xs,K,h=>by
  obtain⟨vs,c,d⟩:=qA.elim (l:=xs) h;exact⟨v::vs,by simp[mF,rR,c],d⟩
 | .eO v::xs,K,h=>by
  obtain⟨vs,c,d⟩:=qA.elim (l:=xs) h;exact⟨_,by simp[mF,rR,c],d⟩
 | .func v::xs,K,h=>by
  obtain⟨vs,c,d⟩:=qA.elim (l:=xs) h;exact⟨_,by simp[mF,rR,c],d⟩
def Fk(tm:T AV)(x:bM)(K:AV->Prop):Prop:=match x with
 | .tmp t=>bR aJ (tm.get t) K
 | .const v=>K v
 | .eO g=>K (.ptr g 0)
 | .func f=>K (.fn (.func f) [] [])
def Fk.elim{tm:T AV}{x:bM}{K:AV->Prop}(h:Fk tm x K):∃v,rR tm x=B1 v/\K v:=by
 cases x with
 |tmp t=>exact bR.elim (m:=aJ) h
 |const v=>exact⟨v,rfl,h⟩
 |eO v=>exact⟨_,rfl,h⟩
 |func v=>exact⟨_,rfl,h⟩
abbrev cR:=aX->St->Prop
def AJ(ps:Option (List Nat))(tm:T AV)(aZ:List aN)(up:Option aI)(Q:cR)(c:aI)(H:ar):Prop:=match ps with
 |some ds=>Q (.panic c) ⟨forget ds tm,aZ,up,H⟩
 |none=>False
def xR(m:Bool)(ctx:Ctx)(up:Option aI)(K:AV->Option aI->Prop):Prop:=ctx.round=B5/\match up with
 |some ((v,B2)::older)=>K v (B1 ((v,B4)::older))
 |_=>K .nili up
@[congr]def aa2{m d:Bool}{ctx:Ctx}{up c:Option aI}{K:AV->Option aI->Prop}(hm:m=d)(h:up=c):xR m ctx up K=xR d ctx c K:=by rw[h,hm]
def HW(m:Bool)(ctx:Ctx)(vs:List AV)(aZ:List aN)(K:List aN->Prop):Prop:=ctx.round=B5/\match vs with
 | .fn (.func f) first cap::args=>K (.fn (.func f) (first++(args++cap))::aZ)
 |_=>False
@[congr]def aa5{m d:Bool}{ctx:Ctx}{vs c:List AV}{aZ:List aN}{K:List aN->Prop}(hm:m=d)(h:vs=c):HW m ctx vs aZ K=HW d ctx c aZ K:=by rw[h,hm]
def gH(vs:List AV)(H:ar)(E:aI->ar->Prop):Prop:=match vs with
 |[.iface t v]=>E [(.iface t v,B2)] H
 |_=>False
@[congr]def aa0{vs c:List AV}{H:ar}{E:aI->ar->Prop}(h:vs=c):gH vs H E=gH c H E:=by rw[h]
def pX(ctx:Ctx)(dst:Option Nat)(ps:Option (List Nat))(st:St)(Q:cR)(K:St->Prop)(vs:List AV):fP->Prop
 | .pure f=>bR aJ (f vs) λ v=>K ⟨eM dst v st.tm,st.aZ,st.up,st.H⟩
 | .read f=>bR aJ (f vs st.H) λ v=>K ⟨eM dst v st.tm,st.aZ,st.up,st.H⟩
 | .alloc f=>iY aJ (f vs) λ o mk=>K ⟨eM dst (mk st.H.au) st.tm,st.aZ,st.up,st.H.alloc o⟩
 | .gT f=>iY aJ (f vs st.H) λ v H=>K ⟨eM dst v st.tm,st.aZ,st.up,H⟩
 | .ij g=>nZ AP aJ (.func g) vs st.H (λ v H=>K ⟨eM dst v st.tm,st.aZ,st.up,H⟩) (AJ ps st.tm st.aZ st.up Q)
 | .iq=>N8 aJ vs λ f vs=>nZ AP aJ f vs st.H (λ v H=>K ⟨eM dst v st.tm,st.aZ,st.up,H⟩) (AJ ps st.tm st.aZ st.up Q)
 | .invoke name=>N5 AP aJ name vs λ f vs=>nZ AP aJ f vs st.H (λ v H=>K ⟨eM dst v st.tm,st.aZ,st.up,H⟩) (AJ ps st.tm st.aZ st.up Q)
 | .recover=>match vs with
  |[]=>xR aJ ctx st.up λ v up=>K ⟨eM dst v st.tm,st.aZ,up,st.H⟩
  |_=>False
 | .defer=>HW aJ ctx vs st.aZ λ aZ=>K ⟨eM dst .undef st.tm,aZ,st.up,st.H⟩
 | .panic=>gH vs st.H (AJ ps st.tm st.aZ st.up Q)
def OY(dst:Option Nat)(st:St)(vs:List AV):fP->Prop
 | .read f=>match dst with
  |some d=>bR aJ (f vs st.H) λ v=>bR aJ (st.tm.get d) λ v'=>v=v'
  |none=>False
 |_=>False
def rq(ctx:Ctx)(s:aP)(st:St)(Q:cR)(K:St->Prop):Prop :=
 match s.iB with
 |false=>match s.guard with
  |none=>qA st.tm s.args λ vs=>pX AP ctx s.dst s.cP st Q K vs s.op
  |some g=>bR aJ (cX g.2 (st.tm.get g.1)) λ w=>HA aJ w (qA st.tm s.args λ vs=>pX AP ctx s.dst s.cP st Q K vs s.op) (K ⟨eM s.dst .undef st.tm,st.aZ,st.up,st.H⟩)
 |true=>match s.guard with
  |none=>qA st.tm s.args λ vs=>OY s.dst st vs s.op/\K st
  |some g=>bR aJ (cX g.2 (st.tm.get g.1)) λ w=>HA aJ w (qA st.tm s.args λ vs=>OY s.dst st vs s.op/\K st) (s.dst.isSome=B4/\K st)
def oI(ctx:Ctx):List aP->St->cR->Prop
 |[],st,Q=>Q .normal st
 |s::rest,st,Q=>rq AP ctx s st Q λ st'=>oI ctx rest st' Q
def DW(W:St->cR->Prop)(Q:cR):cR:=λ e st=>match e with
 | .normal=>W st Q
 |e=>Q e st
def BLK(id:Nat)(Q:cR):cR:=λ e st=>match e with
 | .exit id'=>Q (cond (JW id id') .normal (.exit id')) st
 |e=>Q e st
def SCP(b:ai)(Q:cR):cR:=λ e st=>match e with
 | .goto l=>FF b l=B2/\Q (.goto l) st
 |e=>Q e st
def lj(ah:Option (List Nat))(st:St):St:=match ah with
 |none=>st
 |some ks=>{st with tm:=VM st.tm ks .nil}
def Mu(W:St->cR->Prop)(ah:Option (List Nat))(st:St)(Q:cR):Prop :=
 ∃I:Nat->St->Prop,(∃n,I n st) /\ ∀n st,I n st->W (lj ah st) λ e st'=>match e with
  | .normal=>∃m,m<n/\I m st'
  |e=>Q e st'
def V9(st:St)(aZ:List aN)(l:Nat)(Q:cR)(e:bP)(H:ar):Prop:=match e with
 | .panic c=>Q (.panic c) {st with aZ:=aZ,H:=H}
 | .ret _=>∃s p f k tm d,H.get l=B1 (.loop s p f k tm d)/\s≠ .busy/\Q (rO p) {st with aZ:=aZ,H:=H.set l (.loop .exhausted p f k tm d)}
def mN(ctx:Ctx)(st:St)(k:Nat)(H0:ar)(aZ:List aN)(d:Nat)(Q:cR):AV->Prop
 | .fn (.func g) first cap=>∃e H',CALL AP g (first++(.fn (.yield H0.au) [] []::cap)) (H0.alloc (.loop .ready B5 ctx.fn k st.tm d)) e H'/\V9 st aZ H0.au Q e H'
 |_=>False
def J4(ctx:Ctx)(k:Nat)(st:St)(Q:cR)(v:AV):Prop:=match ctx.round with
 |none=>mN AP ctx st k (st.H.alloc (.deferred (B1 []))) (.jC st.H.au::st.aZ) st.H.au Q v
 |some l=>bR aJ (Cs st.H l) λ d=>mN AP ctx st k st.H st.aZ d Q v
def WP(ctx:Ctx):ai->St->cR->Prop
 | .skip,st,Q=>Q .normal st
 | .label _,st,Q=>Q .normal st
 | .region steps,st,Q=>oI AP ctx steps st Q
 | .seq a b,st,Q=>WP ctx a st (DW (WP ctx b) Q)
 | .cond c a b,st,Q=>Fk st.tm c λ v=>bR aJ (asBool v) λ q=>HA aJ q (WP ctx a st Q) (WP ctx b st Q)
 | .block id b,st,Q=>WP ctx b st (BLK id Q)
 | .loop ah b,st,Q=>Mu (WP ctx b) ah st Q
 | .exit id,st,Q=>Q (.exit id) st
 | .goto l,st,Q=>Q (.goto l) st
 | .ret,st,Q=>Q .ret st
 | .stuck,_,_=>False
 | .scope b,st,Q=>WP ctx b st (SCP b Q)
 | .rangeFunc f k,st,Q=>Fk st.tm f λ v=>J4 AP ctx k st Q v
section
variable(ctx:Ctx)(st:St)(Q:cR)
def ZI(s:aP)(l:List aP):oI AP ctx (s::l) st Q=rq AP ctx s st Q λ c=>oI AP ctx l c Q:=propext j9
end
def EX(ctx:Ctx)(c:ai)(st:St)(r:aX×St):Prop:=∃n0,∀n k,n0<=n->n0<=k->(bH c).run (zC AP n k ctx) st=B1 r
def EXS(ctx:Ctx)(l:List aP)(st:St)(r:aX×St):Prop:=∃n0,∀n k,n0<=n->n0<=k->(ic l).run (zC AP n k ctx) st=B1 r
def uR.run{AP:ak}{f:mE}{vs:List AV}{H:ar}{e:bP}{H':ar}(h:uR AP f vs H e H') :
 ∃n0,∀n k,n0<=n->n0<=k->dg (AP.call n) (rounds AP.prog (AP.call n) n k) f vs H=B1 (e,H'):=by
 cases f with
 |func g=>obtain⟨n0,h⟩:=h;exact⟨n0,λ n k hn _=>by simp[dg,h n hn]⟩
 |yield l=>obtain⟨n0,h⟩:=h;exact⟨n0,λ n k hn hk=>by simp[dg,h n k hn hk]⟩
def q7u:(∀v,cF v v=B4)/\(∀l,fp l l=B4):=by
 have e1:∀n,JW n n=true:=λ n=>by simp
 have e2:∀k,sJ k k=true:=λ k=>by cases k<;>rfl
 have c:∀i,ux i i=true:=λ i=>by rw[DC];simp
 have d:∀s,A4 s s=true:=λ s=>by rw[K5];simp
 refine⟨λ v=>?_,λ l=>?_⟩
 .refine AV.rec (motive_1:=λ v=>cF v v=B4) (motive_2:=λ l=>fp l l=B4) ?_ ?_ ?_ ?_ ?_ ?_ ?_ ?_ ?_ ?_ ?_ ?_ ?_ ?_ ?_ ?_ ?_ ?_ ?_ v
  all_goals (intros;first|rfl|(simp only[cF,fp,zx,beq_self_eq_true, *];done)|(rename_i f _ _ _ _;cases f<;>simp only[cF,zx, *]))
 .refine AV.rec_1 (motive_1:=λ v=>cF v v=B4) (motive_2:=λ l=>fp l l=B4) ?_ ?_ ?_ ?_ ?_ ?_ ?_ ?_ ?_ ?_ ?_ ?_ ?_ ?_ ?_ ?_ ?_ ?_ ?_ l
  all_goals (intros;first|rfl|(simp only[cF,fp,zx,beq_self_eq_true, *];done)|(rename_i f _ _ _ _;cases f<;>simp only[cF,zx, *]))
def xjo(v:AV):cF v v=true:=q7u.1 v
def OY.run{d:Option Nat}{st:St}{vs:List AV}{op:fP}(h:OY d st vs op):∃t,d=B1 t/\rk (T.oK (T.path t)).run st vs op=true:=by
 cases op with
 |read f =>
  cases d with
  |none=>exact ND h
  |some t =>
   refine⟨t,rfl,?_⟩;obtain⟨v,g,h⟩:=bR.elim (m:=aJ) h;obtain⟨j,i,h⟩:=bR.elim (m:=aJ) h;subst h;have c:(T.oK (T.path t)).run st.tm=B1 v:=by rw[T.jO];exact i
   simp[rk,g,c,xjo]
 |_=>exact ND h
def pX.run{AP:ak}{ctx:Ctx}{dst:Option Nat}{t:Option (List Nat)}{st:St}{Q:cR}{K:St->Prop}{vs:List AV}{op:fP}(h:pX AP ctx dst t st Q K vs op)
 {kk:Nat->Nat->St->gY} (p:∀st,K st -> ∃e d,Q e d /\ ∃n0,∀n k,n0<=n->n0<=k->kk n k st=B1 (e,d)) :
 ∃e d,Q e d /\ ∃n0,∀n k,n0<=n->n0<=k->(rB (lW dst).run t op).run (zC AP n k ctx) st (kk n k) vs=B1 (e,d):=by
 have hp:∀v tm,(lW dst).run v tm=eM dst v tm:=WN dst;have call:∀{f vs},nZ AP aJ f vs st.H (λ v H=>K ⟨eM dst v st.tm,st.aZ,st.up,H⟩) (AJ t st.tm st.aZ st.up Q) ->
  ∃e d,Q e d /\ ∃n0,∀n k,n0<=n->n0<=k->((dg (AP.call n) (rounds AP.prog (AP.call n) n k) f vs st.H).bind λ r=>fR (lW dst).run t st (kk n k) r)=B1 (e,d):=by
  rintro f vs ⟨e,H',l,h⟩;obtain⟨n0,l⟩:=l.run;cases e with
  |ret v =>
   obtain⟨e,d,j,n1,i⟩:=p _ h;refine⟨e,d,j,max n0 n1,λ n k hn hk=>?_⟩;rw[l n k (by omega) (by omega)]
   simpa[fR,hp]using i n k (by omega) (by omega)
  |panic c =>
   cases t with
   |none=>exact ND h
   |some ds =>
    refine⟨_,_,h,n0,λ n k hn hk=>?_⟩;rw[l n k (by omega) (by omega)];simp[fR]
 cases op with
 |pure f =>
  obtain⟨v,l,h⟩:=bR.elim (m:=aJ) h;obtain⟨e,d,j,n1,i⟩:=p _ h;exact⟨e,d,j,n1,λ n k hn hk=>by simp[rB,EP,l,hp,i n k hn hk]⟩
 |read f =>
  obtain⟨v,l,h⟩:=bR.elim (m:=aJ) h;obtain⟨e,d,j,n1,i⟩:=p _ h;exact⟨e,d,j,n1,λ n k hn hk=>by simp[rB,Ds,l,hp,i n k hn hk]⟩
 |alloc f =>
  simp only[pX]at h;obtain⟨o,mk,l,h⟩:=iY.elim (m:=aJ) h;obtain⟨e,d,j,n1,i⟩:=p _ h;exact⟨e,d,j,n1,λ n k hn hk=>by simp[rB,wG,l,hp,i n k hn hk]⟩
 |gT f =>
  simp only[pX]at h;obtain⟨o,mk,l,h⟩:=iY.elim (m:=aJ) h;obtain⟨e,d,j,n1,i⟩:=p _ h;exact⟨e,d,j,n1,λ n k hn hk=>by simp[rB,Lp,l,hp,i n k hn hk]⟩
 |ij f=>exact call h
 |iq =>
  simp only[pX,N8]at h;split at h
  .exact call h
  .exact call h
  .exact ND h
 |invoke name =>
  simp only[pX,N5]at h;split at h
  .obtain ⟨g,hg,h⟩:=bR.elim (m:=aJ) h;obtain⟨e,d,j,n1,i⟩:=call h;exact⟨e,d,j,n1,λ n k hn hk=>by simpa[rB,ti,zC,(show AP.prog.kI _ name=B1 g from hg)]using i n k hn hk⟩
  .exact ND h
 |recover =>
  simp only[pX]at h;split at h
  .obtain ⟨hr,h⟩:=h;split at h
   .rename_i v s q;obtain⟨e,d,j,n1,i⟩:=p _ h;exact⟨e,d,j,n1,λ n k hn hk=>by simpa[rB,SF,zC,hr,PI,q,hp]using i n k hn hk⟩
   .rename_i q;obtain⟨e,d,j,n1,i⟩:=p _ h;refine⟨e,d,j,n1,λ n k hn hk=>?_⟩;have:PI (lW dst).run st=⟨eM dst .nili st.tm,st.aZ,st.up,st.H⟩:=by
     unfold PI;split
     .rename_i v s hu;exact(q _ _ hu).elim
     .rw [hp]
    simpa[rB,SF,zC,hr,this]using i n k hn hk
  .exact ND h
 |defer =>
  obtain⟨hr,h⟩:=h;split at h
  .obtain ⟨e,d,j,n1,i⟩:=p _ h;exact⟨e,d,j,n1,λ n k hn hk=>by simpa[rB,wD,zC,hr,hp]using i n k hn hk⟩
  .exact ND h
 |panic =>
  simp only[pX,gH]at h;split at h
  .cases t with
   |none=>exact ND h
   |some ds=>exact⟨_,_,h,0,λ n k hn hk=>by simp[rB,wC,fR]⟩
  .exact ND h
def rq.run{AP:ak}{ctx:Ctx}{s:aP}{st:St}{Q:cR}{K:St->Prop}(h:rq AP ctx s st Q K)
 {kk:Nat->Nat->St->gY} (o:∀st,K st -> ∃e c,Q e c /\ ∃n0,∀n k,n0<=n->n0<=k->kk n k st=B1 (e,c)) :
 ∃e c,Q e c /\ ∃n0,∀n k,n0<=n->n0<=k->(gZ s).run (zC AP n k ctx) (kk n k) st=B1 (e,c):=by
 obtain⟨iB,dst,guard,args,op,u⟩:=s;have hp:∀v tm,(lW dst).run v tm=eM dst v tm:=WN dst;have p:∀g,(T.oK (T.path g)).run st.tm=st.tm.get g:=λ g=>by rw[T.jO];rfl
 cases iB with
 |false =>
  cases guard with
  |none =>
   obtain⟨vs,l,h⟩:=qA.elim h;obtain⟨e,c,j,n0,f⟩:=h.run o;exact⟨e,c,j,n0,λ n k hn hk=>by simpa[gZ,HZ,l]using f n k hn hk⟩
  |some g =>
   obtain⟨w,hw,h⟩:=bR.elim (m:=aJ) h;cases w with
   |true =>
    obtain⟨vs,l,h⟩:=qA.elim h;obtain⟨e,c,j,n0,f⟩:=h.run o;exact⟨e,c,j,n0,λ n k hn hk=>by simpa[gZ,p,hw,HZ,l]using f n k hn hk⟩
   |false =>
    obtain⟨e,c,j,n0,f⟩:=o _ h;exact⟨e,c,j,n0,λ n k hn hk=>by simpa[gZ,p,hw,hp]using f n k hn hk⟩
 |true =>
  cases guard with
  |none =>
   obtain⟨vs,l,hk,q⟩:=qA.elim h;obtain⟨t,rfl,hk⟩:=hk.run;obtain⟨e,c,j,n0,f⟩:=o _ q;exact⟨e,c,j,n0,λ n k hn i=>by simpa[gZ,HZ,l,hk]using f n k hn i⟩
  |some g =>
   obtain⟨w,hw,h⟩:=bR.elim (m:=aJ) h;cases w with
   |true =>
    obtain⟨vs,l,hk,q⟩:=qA.elim h;obtain⟨t,rfl,hk⟩:=hk.run;obtain⟨e,c,j,n0,f⟩:=o _ q;exact⟨e,c,j,n0,λ n k hn i=>by simpa[gZ,p,hw,HZ,l,hk]using f n k hn i⟩
   |false =>
    obtain⟨r,h⟩:=h;obtain⟨e,c,j,n0,f⟩:=o _ h;cases dst with
    |none=>cases r
    |some d=>exact⟨e,c,j,n0,λ n k hn i=>by simpa[gZ,p,hw]using f n k hn i⟩
def oI.run{AP:ak}{ctx:Ctx}:∀{l:List aP}{st:St}{Q:cR},oI AP ctx l st Q -> ∃e c,Q e c/\EXS AP ctx l st (e,c)
 |[],st,Q,h=>⟨_,_,h,0,λ _ _ _ _=>rfl⟩
 |s::rest,st,Q,h=>by
  obtain⟨e,c,d,n0,h⟩:=rq.run (kk:=λ n k=>(ic rest).run (zC AP n k ctx)) h λ c hs=>oI.run hs;exact⟨e,c,d,n0,h⟩
def Ec{AP:ak}{ctx:Ctx}{ah:Option (List Nat)}{b:ai}{Q:cR}{I:Nat->St->Prop}
 (hb:∀n st,I n st -> ∃e f,(match e with| .normal=>∃m,m<n/\I m f|e=>Q e f)/\EX AP ctx b (lj ah st) (e,f)) :
 ∀m n,n<=m -> ∀st,I n st -> ∃e f,Q e f /\ ∃n0 c,∀n k,n0<=n->n0<=k -> ∀d,c<=d->gV ah ((bH b).run (zC AP n k ctx)) d st=B1 (e,f):=by
 intro m
 induction m with
 |zero =>
  intro n hn st q;obtain⟨e,f,h,n0,g⟩:=hb n st q;cases e with
  |normal=>obtain⟨j,w,_⟩:=h;omega
  |exit id=>exact⟨_,_,h,n0,1,λ n k hn hk d i=>by obtain⟨c,rfl⟩:∃c,d=c+1:=⟨d-1,by omega⟩;have:=g n k hn hk;cases ah<;>simp[gV,lj]at this⊢<;>simp[this]⟩
  |goto l=>exact⟨_,_,h,n0,1,λ n k hn hk d i=>by obtain⟨c,rfl⟩:∃c,d=c+1:=⟨d-1,by omega⟩;have:=g n k hn hk;cases ah<;>simp[gV,lj]at this⊢<;>simp[this]⟩
  |ret=>exact⟨_,_,h,n0,1,λ n k hn hk d i=>by obtain⟨c,rfl⟩:∃c,d=c+1:=⟨d-1,by omega⟩;have:=g n k hn hk;cases ah<;>simp[gV,lj]at this⊢<;>simp[this]⟩
  |panic p=>exact⟨_,_,h,n0,1,λ n k hn hk d i=>by obtain⟨c,rfl⟩:∃c,d=c+1:=⟨d-1,by omega⟩;have:=g n k hn hk;cases ah<;>simp[gV,lj]at this⊢<;>simp[this]⟩
 |succ m ih =>
  intro n hn st q;obtain⟨e,f,h,n0,g⟩:=hb n st q;cases e with
  |normal =>
   obtain⟨j,w,r⟩:=h;obtain⟨e,s,x,n1,c,t⟩:=ih j (by omega) f r;refine⟨e,s,x,max n0 n1,c+1,λ n k hn hk d i=>?_⟩;obtain⟨o,rfl⟩:∃c,d=c+1:=⟨d-1,by omega⟩
   have:=g n k (by omega) (by omega);have u:=t n k (by omega) (by omega) o (by omega);cases ah<;>simp[gV,lj]at this⊢<;>simp[this,u]
  |exit id=>exact⟨_,_,h,n0,1,λ n k hn hk d i=>by obtain⟨c,rfl⟩:∃c,d=c+1:=⟨d-1,by omega⟩;have:=g n k hn hk;cases ah<;>simp[gV,lj]at this⊢<;>simp[this]⟩
  |goto l=>exact⟨_,_,h,n0,1,λ n k hn hk d i=>by obtain⟨c,rfl⟩:∃c,d=c+1:=⟨d-1,by omega⟩;have:=g n k hn hk;cases ah<;>simp[gV,lj]at this⊢<;>simp[this]⟩
  |ret=>exact⟨_,_,h,n0,1,λ n k hn hk d i=>by obtain⟨c,rfl⟩:∃c,d=c+1:=⟨d-1,by omega⟩;have:=g n k hn hk;cases ah<;>simp[gV,lj]at this⊢<;>simp[this]⟩
  |panic p=>exact⟨_,_,h,n0,1,λ n k hn hk d i=>by obtain⟨c,rfl⟩:∃c,d=c+1:=⟨d-1,by omega⟩;have:=g n k hn hk;cases ah<;>simp[gV,lj]at this⊢<;>simp[this]⟩
def mN.run{AP:ak}{ctx:Ctx}{st:St}{j:Nat}{H0:ar}{aZ:List aN}{d:Nat}{Q:cR}{v:AV}(h:mN AP ctx st j H0 aZ d Q v) :
 ∃e g,Q e g /\ ∃n0,∀n k,n0<=n->n0<=k->jJ (AP.call n) (rounds AP.prog (AP.call n) n k) ctx st j H0 aZ d v=B1 (e,g):=by
 unfold mN at h;split at h
 .obtain ⟨e,H',⟨n0,i⟩,h⟩:=h;cases e with
  |panic c=>exact⟨_,_,h,n0,λ n k hn hk=>by simp[jJ,dg,i n hn,Nt]⟩
  |ret v =>
   obtain⟨s,p,f,k,tm,d,hg,hs,h⟩:=h;refine⟨_,_,h,n0,λ n k hn hk=>?_⟩;simp only[jJ,dg,i n hn,Nt,qr,hg]
 .exact ND h
def WP.run{AP:ak}{ctx:Ctx}:∀{c:ai}{st:St}{Q:cR},WP AP ctx c st Q -> ∃e j,Q e j/\EX AP ctx c st (e,j)
 | .skip,st,Q,h=>⟨_,_,h,0,λ _ _ _ _=>rfl⟩
 | .label _,st,Q,h=>⟨_,_,h,0,λ _ _ _ _=>rfl⟩
 | .exit _,st,Q,h=>⟨_,_,h,0,λ _ _ _ _=>rfl⟩
 | .goto _,st,Q,h=>⟨_,_,h,0,λ _ _ _ _=>rfl⟩
 | .ret,st,Q,h=>⟨_,_,h,0,λ _ _ _ _=>rfl⟩
 | .stuck,st,Q,h=>ND h
 | .region steps,st,Q,h=>oI.run h
 | .seq a b,st,Q,h=>by
  obtain⟨e,dp,i,n0,g⟩:=WP.run (c:=a) h;cases e with
  |normal =>
   obtain⟨e,t,o,n1,x⟩:=WP.run (c:=b) i;exact⟨e,t,o,max n0 n1,λ n k hn hk=>by simp[bH,g n k (by omega) (by omega),uO,x n k (by omega) (by omega)]⟩
  |exit id=>exact⟨_,_,i,n0,λ n k hn hk=>by simp[bH,g n k hn hk,uO]⟩
  |goto id=>exact⟨_,_,i,n0,λ n k hn hk=>by simp[bH,g n k hn hk,uO]⟩
  |ret=>exact⟨_,_,i,n0,λ n k hn hk=>by simp[bH,g n k hn hk,uO]⟩
  |panic p=>exact⟨_,_,i,n0,λ n k hn hk=>by simp[bH,g n k hn hk,uO]⟩
 | .cond c a b,st,Q,h=>by
  obtain⟨v,r,h⟩:=Fk.elim h;obtain⟨q,o,h⟩:=bR.elim (m:=aJ) h;have hv':v=.bool q:=by
   unfold asBool at o;split at o
   .injection o with o;rw[o]
   .cases o
  subst hv';cases q with
  |true =>
   obtain⟨e,dp,i,n0,g⟩:=WP.run (c:=a) h;exact⟨e,dp,i,n0,λ n k hn hk=>by simp[bH,JU,r,uz,g n k hn hk]⟩
  |false =>
   obtain⟨e,dp,i,n0,g⟩:=WP.run (c:=b) h;exact⟨e,dp,i,n0,λ n k hn hk=>by simp[bH,JU,r,uz,g n k hn hk]⟩
 | .block id b,st,Q,h=>by
  obtain⟨e,dp,i,n0,g⟩:=WP.run (c:=b) h;cases e with
  |exit id'=>exact⟨_,_,i,n0,λ n k hn hk=>by simp[bH,g n k hn hk,kJ]⟩
  |normal=>exact⟨_,_,i,n0,λ n k hn hk=>by simp[bH,g n k hn hk,kJ]⟩
  |goto id=>exact⟨_,_,i,n0,λ n k hn hk=>by simp[bH,g n k hn hk,kJ]⟩
  |ret=>exact⟨_,_,i,n0,λ n k hn hk=>by simp[bH,g n k hn hk,kJ]⟩
  |panic p=>exact⟨_,_,i,n0,λ n k hn hk=>by simp[bH,g n k hn hk,kJ]⟩
 | .scope b,st,Q,h=>by
  obtain⟨e,dp,i,n0,g⟩:=WP.run (c:=b) h;cases e with
  |exit id'=>exact⟨_,_,i,n0,λ n k hn hk=>by simp[bH,g n k hn hk,mq]⟩
  |normal=>exact⟨_,_,i,n0,λ n k hn hk=>by simp[bH,g n k hn hk,mq]⟩
  |goto id=>exact⟨_,_,i.2,n0,λ n k hn hk=>by simp[bH,g n k hn hk,mq,i.1]⟩
  |ret=>exact⟨_,_,i,n0,λ n k hn hk=>by simp[bH,g n k hn hk,mq]⟩
  |panic p=>exact⟨_,_,i,n0,λ n k hn hk=>by simp[bH,g n k hn hk,mq]⟩
 | .loop ah b,st,Q,⟨I,⟨n,s⟩,h⟩=>by
  obtain⟨e,j,o,n0,c,g⟩:=Ec (AP:=AP) (ctx:=ctx) (ah:=ah) (b:=b) (Q:=Q) (I:=I) (λ n st s=>by
   obtain⟨e,j,i,u⟩:=WP.run (c:=b) (h n st s);exact⟨e,j,i,u⟩) n n (qm n) st s
  exact⟨e,j,o,max n0 c,λ n k hn hk=>g n k (by omega) (by omega) n (by omega)⟩
 | .rangeFunc f k0,st,Q,h=>by
  obtain⟨v,r,h⟩:=Fk.elim h;unfold J4 at h;cases hr:ctx.round with
  |none =>
   rw[hr]at h;obtain⟨e,j,o,n0,g⟩:=mN.run h;exact⟨e,j,o,n0,λ n k hn hk=>by simpa[bH,JU,r,ri,zC,hr]using g n k hn hk⟩
  |some l =>
   rw[hr]at h;obtain⟨d,w,h⟩:=bR.elim (m:=aJ) h;obtain⟨e,j,o,n0,g⟩:=mN.run h;exact⟨e,j,o,n0,λ n k hn hk=>by simpa[bH,JU,r,ri,zC,hr,w]using g n k hn hk⟩
def Ay(AP:ak)(rs:List eE)(tm:T AV)(Q:bP->ar->Prop):List aN->Option aI->ar->Prop
 |[],B5,H=>bR aJ (eD H tm rs) λ l=>Q (.ret (jK l)) H
 |[],B1 c,H=>Q (.panic c) H
 | .jC b::ds,m,H=>H.get b=B1 (.deferred (B1 []))/\Ay AP rs tm Q ds m (H.set b (.deferred B5))
 | .fn (.func f) args::ds,m,H=>∃v up' H',jX AP f args (B1 (m.getD [])) H (.ret v) (B1 up') H'/\bR aJ (nH m up') λ m'=>Ay AP rs tm Q ds m' H'
 | .fn (.yield _) _::_,_,_=>False
def Ay.run{AP:ak}{rs:List eE}{tm:T AV}{Q:bP->ar->Prop}:∀{ds:List aN}{m:Option aI}{H:ar},Ay AP rs tm Q ds m H ->
 ∃e H',Q e H' /\ ∃n0,∀n,n0<=n->cz (AP.call n) rs tm ds m H=B1 (e,H')
 |[],B5,H,h=>by
  obtain⟨l,hl,h⟩:=bR.elim (m:=aJ) h;exact⟨_,_,h,0,λ n _=>by simp[cz,hl]⟩
 |[],B1 c,H,h=>⟨_,_,h,0,λ n _=>by simp[cz]⟩
 | .jC b::ds,m,H,⟨hb,h⟩=>by
  obtain⟨e,H',d,n0,g⟩:=Ay.run h;exact⟨e,H',d,n0,λ n hn=>by simp[cz,hb,g n hn]⟩
 | .fn (.func f) args::ds,m,H,⟨v,up',H',⟨n0,hc⟩,h⟩=>by
  obtain⟨j,hm,h⟩:=bR.elim (m:=aJ) h;obtain⟨e,i,d,n1,g⟩:=Ay.run h;exact⟨e,i,d,max n0 n1,λ n hn=>by simp[cz,hc n (by omega),hm,g n (by omega)]⟩
 | .fn (.yield _) _::_,_,_,h=>ND h
def Xq(AP:ak)(rs:List eE)(Q:bP->Option aI->ar->Prop):cR:=λ e st=>match e with
 | .normal=>Ay AP rs st.tm (λ e H=>Q e st.up H) st.aZ B5 st.H
 | .ret=>Ay AP rs st.tm (λ e H=>Q e st.up H) st.aZ B5 st.H
 | .panic c=>Ay AP rs st.tm (λ e H=>Q e st.up H) st.aZ (B1 c) st.H
 |_=>False
def ζ{AP:ak}{f:Nat}{fn:cj}(i:AP.func f=B1 fn){vs:List AV}{up:Option aI}{H:ar}{Q:bP->Option aI->ar->Prop}
 (h:WP AP ⟨B5,f⟩ fn.body ⟨jY 0 vs .nil,[],up,H⟩ (Xq AP fn.results Q)):∃e d H',jX AP f vs up H e d H'/\Q e d H':=by
 obtain⟨l,i⟩:=ak.zA i;obtain⟨e,st,g,n0,p⟩:=h.run;have key:∀m,Ay AP fn.results st.tm (λ e H=>Q e st.up H) st.aZ m st.H->(∀call,qC call fn (e,st)=(cz call fn.results st.tm st.aZ m st.H).bind λ q=>B1 (q.1,st.up,q.2)) ->
  ∃e d H',jX AP f vs up H e d H'/\Q e d H':=by
  intro m g he;obtain⟨e',H',o,n1,r⟩:=g.run;refine⟨e',st.up,H',⟨max n0 n1+1,λ n hn=>?_⟩,o⟩;obtain⟨n,rfl⟩:∃j,n=j+1:=⟨n-1,by omega⟩
  have:=p n n (by omega) (by omega);simp only[zC]at this;rw[ak.Az l];simp only[Gh,i,qr,exec,this,he,r n (by omega)]
 cases e with
 |normal=>exact key B5 g λ _=>rfl
 |ret=>exact key B5 g λ _=>rfl
 |panic c=>exact key (B1 c) g λ _=>rfl
 |exit _=>exact ND g
 |goto _=>exact ND g
def C_{AP:ak}{f:Nat}{fn:cj}(g:AP.func f=B1 fn){vs:List AV}{H:ar}{Q:bP->ar->Prop}
 (h:WP AP ⟨B5,f⟩ fn.body ⟨jY 0 vs .nil,[],B5,H⟩ (Xq AP fn.results λ e up H=>up=B5/\Q e H)):∃e H',CALL AP f vs H e H'/\Q e H':=by
 obtain⟨e,i,H',c,rfl,d⟩:=ζ g h;exact⟨e,H',c,d⟩
def RE(l:Nat)(Q:bP->ar->Prop):cR:=λ e st=>st.aZ=[]/\match e with
 | .panic c=>Q (.panic c) st.H
 |e=>bR aJ (da st.H l (cond (Ap e) .ready .done) (kS e)) λ H=>Q (.ret (.bool (Ap e))) H
def RB(W:St->cR->Prop)(l:Nat)(Q:bP->ar->Prop):cR:=λ e st=>match e with
 | .normal=>bR aJ (beginRound st.H l) λ H=>W {st with H:=H} (RE l Q)
 |_=>False
def s_{AP:ak}{l:Nat}{H:ar}{s:ng}{p:Option ik}{f k:Nat}{tm:T AV}{d:Nat}{fn:cj}{lp:dZ}{vs:List AV}{u:T AV}{Q:bP->ar->Prop}
 (hl:H.get l=B1 (.loop s p f k tm d)) (y:AP.func f=B1 fn) (hk:nth fn.loops k=B1 lp) (hb:Li tm lp.params vs=B1 u)
 (h:WP AP ⟨B1 l,f⟩ lp.assign ⟨u,[],B5,H⟩ (RB (WP AP ⟨B1 l,f⟩ lp.body) l Q)):∃e H',tc AP l vs H e H'/\Q e H':=by
 obtain⟨F,y⟩:=ak.zA y;obtain⟨e,st,o,n0,J⟩:=h.run;cases e with
 |normal =>
  obtain⟨N,x,o⟩:=bR.elim (m:=aJ) o;obtain⟨e,z,⟨C,g⟩,n1,L⟩:=WP.run o;have key:∀e' H',Q e' H'->GN l (e,z)=B1 (e',H') -> ∃e H',tc AP l vs H e H'/\Q e H':=by
   intro e' H' G he;refine⟨e',H',⟨max n0 n1+1,λ n j hn O=>?_⟩,G⟩;obtain⟨j,rfl⟩:∃i,j=i+1:=⟨j-1,by omega⟩
   have r:=J n j (by omega) (by omega);have t:=L n j (by omega) (by omega);simp only[zC]at r t;simp only[rounds,roundOf,hl,y,qr,hk,hb,exec,r,x,t,C,roundOf.noDefs,xt,he]
  cases e with
  |panic c=>exact key _ _ g rfl
  |normal=>obtain⟨w,q,g⟩:=bR.elim (m:=aJ) g;exact key _ _ g (by simp[GN,q])
  |exit id=>obtain⟨w,q,g⟩:=bR.elim (m:=aJ) g;exact key _ _ g (by simp[GN,q])
  |goto id=>obtain⟨w,q,g⟩:=bR.elim (m:=aJ) g;exact key _ _ g (by simp[GN,q])
  |ret=>obtain⟨w,q,g⟩:=bR.elim (m:=aJ) g;exact key _ _ g (by simp[GN,q])
 |exit _=>exact ND o
 |goto _=>exact ND o
 |ret=>exact ND o
 |panic _=>exact ND o
def CALL.Es{AP:ak}{f:Nat}{vs:List AV}{H:ar}{e:bP}{H':ar}(h:CALL AP f vs H e H'):∃n,AP.call n f vs B5 H=B1 (e,B5,H'):=by
 obtain⟨n,h⟩:=h;exact⟨n,h n (qm n)⟩
end
end Go.Am
namespace Go.Am
abbrev Env:=List (Nat×AV)
def lI(dst:Option Nat)(v:AV)(E:Env):Env:=match dst with
 |some d=>(d,v)::E
 |none=>E
def tt{α β:Type}(m:Bool)(o:Option (α×β))(K:Bool -> α -> β->Prop):Prop:=match o with
 |some a=>K aJ a.1 a.2
 |none=>False
def LK{α:Type}(m:Bool)(o:Option α)(K:Bool -> α->Prop):Prop:=match o with
 |some a=>K m a
 |none=>False
def GU{α:Type}(a:α)(K:Bool -> α->Prop):LK B4 (B1 a) K=K B4 a:=propext j9
@[congr]def ab8{α:Type}{m c:Bool}{o o':Option α}{K:Bool -> α->Prop}(hm:m=c)(h:o=o'):LK m o K=LK c o' K:=by grind
@[congr]def aa6{α β:Type}{m c:Bool}{o o':Option (α×β)}{K:Bool -> α -> β->Prop}(hm:m=c)(h:o=o'):tt m o K=tt c o' K:=by grind
theorem tt.intro{α β:Type}{m:Bool}{o:Option (α×β)}{K:Bool -> α -> β->Prop}{a:α}{b:β}(h:o=B1 (a,b))(hk:K aJ a b):tt m o K:=by subst h;exact hk
noncomputable section
variable(AP:ak)
end
end Go.Am
namespace Go.Am
def xnl(n:Int):aj .i64 n=(n+9223372036854775808) % 18446744073709551616-9223372036854775808:=by
 simp[aj,IntKind.wrap,IntKind.bits,IntKind.signed];split<;>omega
def xd5(n:Int):aj .u64 n=n % 18446744073709551616:=by simp[aj,IntKind.wrap,IntKind.bits,IntKind.signed]
theorem jc{n:Int}(h:-9223372036854775808<=n)(c:n<9223372036854775808):aj .i64 n=n:=by rw[xnl];omega
def xho{n:Int}(h:0<=n)(c:n<18446744073709551616):aj .u64 n=n:=by rw[xd5];omega
section
variable(k:OM)(a b:Int)
def Lr(v:AV):Op.move [v]=B1 v:=rfl
def Kx(q:Bool)(a b:AV):Op.pick [.bool q,a,b]=B1 (cond q a b):=rfl
def Ot:Op.bin .add [.int k a,.int k b]=B1 (.int k (aj k (a+b))):=by cases k<;>rfl
def Rp:Op.bin .sub [.int k a,.int k b]=B1 (.int k (aj k (a-b))):=by cases k<;>rfl
def PL:Op.bin .mul [.int k a,.int k b]=B1 (.int k (aj k (a*b))):=by cases k<;>rfl
theorem Pn(hb:b≠0):Op.bin .quo [.int k a,.int k b]=B1 (.int k (aj k (a.tdiv b))):=by
 have:ux b 0=false:=by rw[DC];simpa using hb
 cases k<;>simp[Op.bin,nV,eB,sJ,jQ,gK,this]
theorem uI(hb:b≠0):Op.bin .rem [.int k a,.int k b]=B1 (.int k (a.tmod b)):=by
 have:ux b 0=false:=by rw[DC];simpa using hb
 cases k<;>simp[Op.bin,nV,eB,sJ,jQ,gK,this]
def Qz:Op.bin .eql [.int k a,.int k b]=B1 (.bool (decide (a=b))):=by
 have:ux a b=decide (a=b):=by rw[DC];rfl
 cases k<;>simp[Op.bin,nV,eB,sJ,jQ,gK,this]
def Qn:Op.bin .neq [.int k a,.int k b]=B1 (.bool (decide (a≠b))):=by
 have:ux a b=decide (a=b):=by rw[DC];rfl
 cases k<;>simp[Op.bin,nV,eB,sJ,jQ,gK,this]
def RD:Op.bin .lss [.int k a,.int k b]=B1 (.bool (decide (a<b))):=by
 cases k<;>simp[Op.bin,nV,eB,sJ,jQ,gK,Kk]
def OB:Op.bin .leq [.int k a,.int k b]=B1 (.bool (decide (a<=b))):=by
 cases k<;>simp[Op.bin,nV,eB,sJ,jQ,gK,Nl]
def QG:Op.bin .gtr [.int k a,.int k b]=B1 (.bool (decide (b<a))):=by
 cases k<;>simp[Op.bin,nV,eB,sJ,jQ,gK,Kk]
def RA:Op.bin .geq [.int k a,.int k b]=B1 (.bool (decide (b<=a))):=by
 cases k<;>simp[Op.bin,nV,eB,sJ,jQ,gK,Nl]
def KG(k':OM):Op.wrap k [.int k' a]=B1 (.int k (aj k a)):=rfl
def Pk(q:Bool):Op.un .not [.bool q]=B1 (.bool (!q)):=rfl
def _x(a b:List UInt8):A4 a b=decide (a=b):=by
 by_cases h:a=b
 .subst h;simp[K5]
 .simp [K5,h]
def KW(a b:List UInt8):Op.bin .eql [.str a,.str b]=B1 (.bool (decide (a=b))):=by
 simp only[Op.bin,nV,qT,_x]
def KY(a b:List UInt8):Op.bin .neq [.str a,.str b]=B1 (.bool (decide (a≠b))):=by
 simp[Op.bin,nV,qT,_x]
def ad4(s:List UInt8):Op.fF [.str s]=B1 (.int .i64 s.length):=by simp[Op.fF,eY,Ie]
def xmj(i:Nat)(l:List AV):Op.extract i [.tuple l]=l[i]?:=by simp[Op.extract,jN]
def ac6(f n:Nat)(l:List AV):Op.bK f n l=B1 (.fn (.func f) (l.take n) (l.drop n)):=rfl
def xml(t:Nat)(v:AV):Op.dJ t [v]=B1 (.iface t v):=rfl
def xfo(off b o:Nat):Op.fieldAddr off [.ptr b o]=B1 (.ptr b (o+off)):=rfl
def DK(off:Nat)(l:List AV):Op.field off B5 [.agg l]=l[off]?:=by simp[Op.field,partAt,jN]
def KO(q:Bool):cX B4 (B1 (.bool q))=B1 q:=by cases q<;>rfl
def Hn(q:Bool):cX B2 (B1 (.bool q))=B1 (!q):=by cases q<;>rfl
def Hm(b:Bool):cX b (B1 .undef)=B1 false:=rfl
end
structure Fr(W:Nat->Prop)(H H':ar):Prop where
 au:H.au<=H'.au
 ah:∀b,b<H.au -> ¬W b->H'.get b=H.get b
def Em:Nat->Prop:=λ _=>False
def On(b:Nat):Nat->Prop:=λ x=>x=b
theorem Fr.refl{W:Nat->Prop}(H:ar):Fr W H H:=⟨qm _,λ _ _ _=>rfl⟩
theorem Fr.trans{W W':Nat->Prop}{H H1 d:ar}(a:Fr W H H1)(b:Fr W' H1 d)(h:∀x,W' x->W x\/H.au<=x):Fr W H d :=
 ⟨xx a.au b.au,λ x f hw=>by
  rw[b.ah x (qn f a.au) (λ c=>(h x c).elim hw (λ q=>by omega)),a.ah x f hw]⟩
def Fr.em{W:Nat->Prop}{H H1 c:ar}(a:Fr W H H1)(b:Fr Em H1 c):Fr W H c:=a.trans b λ _ h=>h.elim
def Fr.mono{W W':Nat->Prop}{H H':ar}(a:Fr W H H')(h:∀x,x<H.au->W x->W' x):Fr W' H H':=⟨a.au,λ x c hw=>a.ah x c λ q=>hw (h x c q)⟩
theorem xy(H:ar)(o:bE):(H.alloc o).au=H.au+1:=rfl
theorem t9(H:ar)(b:Nat)(o:bE):(H.set b o).au=H.au:=rfl
theorem Ix(H:ar)(b:Nat):(H.kill b).au=H.au:=rfl
theorem Fr.alloc{W:Nat->Prop}{H H1:ar}(a:Fr W H H1)(o:bE):Fr W H (H1.alloc o) :=
 ⟨Nat.le_succ_of_le a.au,λ x c hw=>by rw[ar.bO,qy (by have:=a.au;omega),a.ah x c hw]⟩
theorem Fr.set{W:Nat->Prop}{H H1:ar}(a:Fr W H H1){b:Nat}(h:W b\/H.au<=b)(o:bE):Fr W H (H1.set b o) :=
 ⟨a.au,λ x c hw=>by rw[ar.aK,qy (by rintro rfl;exact h.elim hw (λ q=>by omega)),a.ah x c hw]⟩
def Fr.kill{W:Nat->Prop}{H H1:ar}(a:Fr W H H1){b:Nat}(h:W b\/H.au<=b):Fr W H (H1.kill b) :=
 ⟨a.au,λ x c hw=>by rw[ar.qH,qy (by rintro rfl;exact h.elim hw (λ q=>by omega)),a.ah x c hw]⟩
theorem xb{H:ar}{b:Nat}{c:List AV}{e:Nat}{fz:Nat×Nat}{ow:Bool}(h:H.get b=B1 (.row c e fz ow)):H.bX b=B1 c:=by simp[ar.bX,h]
def Ra{H:ar}{b m s:Nat}{c:List AV}{e:Nat}{fz:Nat×Nat}(h:H.get b=B1 (.grown m s c e fz)):H.bX b=B1 c:=by simp[ar.bX,h]
def tN{H H':ar}{b:Nat}(h:H'.get b=H.get b):H'.bX b=H.bX b:=by simp[ar.bX,h]
def Fr.cells{W:Nat->Prop}{H H':ar}(a:Fr W H H'){b:Nat}(hb:b<H.au)(hw:¬W b):H'.bX b=H.bX b:=tN (a.ah b hb hw)
def x9{H:ar}{b:Nat}{c:List AV}(h:H.bX b=B1 c)(o:Nat):Op.ae [.ptr b o] H=c[o]?:=by simp[Op.ae,ar.ae,h,jN]
theorem rS{H:ar}{b:Nat}{c:List AV}(h:H.bX b=B1 c){o n:Nat}(hn:o+n<=c.length):Op.aq n [.ptr b o] H=B1 (.agg ((c.drop o).take n)):=by
 simp only[Op.aq,ar.aq,h,qr,tR];rw[xg (by omega)];rfl
def Sl(H:ar)(size:Nat)(v:AV)(n:Nat)(cells:List AV):Prop :=
 cells.length=n*size/\match v with
 | .nils=>n=0
 | .slice b o m c=>m=n/\n<=c/\(n=0\/b<H.au /\ ∃all,H.bX b=B1 all/\fZ all o (n*size)=B1 cells)
 | .gslice b i m s alt k=>k=n/\s=size/\i+n<=m/\(n=0\/b<H.au /\ ∃all,H.bX b=B1 all/\fZ all (i*size) (n*size)=B1 cells)
 | .eslice b=>n=0/\b<H.au
 |_=>False
def aE:AV->Nat
 | .slice b _ _ _=>b
 | .gslice b _ _ _ _ _=>b
 | .eslice b=>b
 |_=>0
def cK(size:Nat):AV->Nat->Nat
 | .slice _ o _ _,j=>o+j*size
 | .gslice _ i _ s _ _,j=>i*s+j*s
 |_,_=>0
def Sl.eN{H:ar}{size:Nat}{v:AV}{n:Nat}{cells:List AV}(h:Sl H size v n cells):eN v=B1 n:=by
 obtain⟨_,h⟩:=h;split at h
 .subst h;rfl
 .obtain ⟨rfl,_⟩:=h;rfl
 .obtain ⟨rfl,_⟩:=h;rfl
 .obtain ⟨rfl,_⟩:=h;rfl
 .exact h.elim
def Sl.len{H:ar}{size:Nat}{v:AV}{n:Nat}{cells:List AV}(h:Sl H size v n cells):Op.cG [v]=B1 (.int .i64 n):=by
 obtain⟨_,h⟩:=h;split at h
 .subst h;rfl
 .obtain ⟨rfl,_⟩:=h;rfl
 .obtain ⟨rfl,_⟩:=h;rfl
 .obtain ⟨rfl,_⟩:=h;rfl
 .exact h.elim
def J7{z:Int}{i n:Nat}(c:z=i)(h:i<n):within z n=B1 i:=by
 subst c;show cond (OO i n) (B1 i) B5=B1 i;have:OO i n=true:=by simpa[A6]using h
 rw[this];rfl
def FB{i j:Nat}(h:i≠j):JW i j=false:=by
 cases q:JW i j with
 |false=>rfl
 |true=>exact(h (Mh q)).elim
def AK{i n:Nat}(h:i<n):OO i n=true:=by simpa[A6]using h
theorem kr{i n:Nat}(h:i<=n):Nu i n=true:=by simpa using h
def Sl.idx{H:ar}{size:Nat}{v:AV}{n:Nat}{cells:List AV}(h:Sl H size v n cells){i:Nat}(d:i<n){z:Int}(g:z=i)(k:OM) :
 Op.aR size [v,.int k z]=B1 (.ptr (aE v) (cK size v i)):=by
 obtain⟨hl,h⟩:=h;split at h
 .omega
 .rename_i b o m c;obtain⟨rfl,p,h⟩:=h;have f:=AK d;simp[Op.aR,Am.eN,J7 g d,elemAt,f,aE,cK]
 .rename_i b j m s alt k;obtain⟨rfl,rfl,hm,h⟩:=h;have f:=AK d;have l:=AK (show j+i<m by omega);simp[Op.aR,Am.eN,J7 g d,elemAt,f,l,aE,cK]
 .omega
 .exact h.elim
def M0{α:Type}{l r:List α}{o n:Nat}(h:fZ l o n=B1 r):n<=l.length-o/\r=(l.drop o).take n:=by
 rw[tR]at h;split at h
 .rename_i hn;injection h with h;exact⟨hn,h.symm⟩
 .cases h
def Sl.at{H:ar}{size:Nat}{v:AV}{n:Nat}{cells:List AV}(g:0<size)(h:Sl H size v n cells){i:Nat}(p:i<n) :
 aE v<H.au /\ ∃all,H.bX (aE v)=B1 all/\cK size v i+size<=all.length /\ ∀j,j<size->all[cK size v i+j]? = cells[i*size+j]?:=by
 obtain⟨hl,h⟩:=h;have t:0<n*size:=Nat.mul_pos (by omega) g;have u:i*size+size<=n*size:=by rw[<-vi];exact j8 _ p
 split at h
 .omega
 .rename_i b o m c;obtain⟨rfl,w,h⟩:=h;rcases h with h|⟨hb,all,d,f⟩
  .omega
  obtain⟨l,rfl⟩:=M0 f;refine⟨hb,all,d,?_,λ j r=>?_⟩
  .simp only[cK];simp at hl;omega
  .simp only[cK];rw[N0,xg (by omega),wh];congr 1;omega
 .rename_i b q m s alt k;obtain⟨rfl,rfl,hm,h⟩:=h;rcases h with h|⟨hb,all,d,f⟩
  .omega
  obtain⟨l,rfl⟩:=M0 f;refine⟨hb,all,d,?_,λ j r=>?_⟩
  .simp only[cK];simp at hl;omega
  .simp only[cK];rw[N0,xg (by omega),wh];congr 1;omega
 .omega
 .exact h.elim
def Sl.fr{H H':ar}{W:Nat->Prop}{size:Nat}{v:AV}{n:Nat}{cells:List AV}(h:Sl H size v n cells)(f:Fr W H H')(hw:n=0 \/ ¬W (aE v)):Sl H' size v n cells:=by
 obtain⟨hl,h⟩:=h;refine⟨hl,?_⟩;split at h
 .exact h
 .obtain ⟨d,g,c⟩:=h;refine⟨d,g,?_⟩;rcases c with c|⟨hb,all,c,i⟩
  .exact .inl c
  .rcases hw with hw|hw
   .exact .inl hw
   .exact .inr ⟨qn hb f.au,all,by rw[f.cells hb hw];exact c,i⟩
 .obtain ⟨d,g,j,c⟩:=h;refine⟨d,g,j,?_⟩;rcases c with c|⟨hb,all,c,i⟩
  .exact .inl c
  .rcases hw with hw|hw
   .exact .inl hw
   .exact .inr ⟨qn hb f.au,all,by rw[f.cells hb hw];exact c,i⟩
 .exact ⟨h.1,qn h.2 f.au⟩
 .exact h.elim
def Sl.em{H H':ar}{size:Nat}{v:AV}{n:Nat}{cells:List AV}(h:Sl H size v n cells)(f:Fr Em H H'):Sl H' size v n cells:=h.fr f (.inr id)
def Sl.first{H:ar}{size:Nat}{v:AV}{n:Nat}{cells:List AV}(h:Sl H size v n cells):firstCells H size n v=B1 cells:=by
 obtain⟨hl,h⟩:=h;split at h
 .subst h;simp at hl;subst hl;rfl
 .rename_i b o m c;obtain⟨rfl,j,h⟩:=h;rcases h with rfl|⟨hb,all,d,f⟩
  .simp at hl;subst hl;rfl
  .by_cases hn:m=0
   .subst hn;simp at hl;subst hl;rfl
   .have:JW m 0=false:=FB hn;simp only[firstCells,this,zn,ar.aq,d,qr,f]
 .rename_i b i m s alt k;obtain⟨rfl,rfl,hm,h⟩:=h;rcases h with rfl|⟨hb,all,d,f⟩
  .simp at hl;subst hl;rfl
  .by_cases hn:k=0
   .subst hn;simp at hl;subst hl;rfl
   .have:JW k 0=false:=FB hn;have g:=AK (show i<m by omega);simp[firstCells,this,g,ar.aq,d,f]
 .obtain ⟨rfl,_⟩:=h;simp at hl;subst hl;rfl
 .exact h.elim
def bI{α:Type}(enc:α->List AV)(size:Nat)(H:ar)(v:AV)(xs:List α):Prop:=Sl H size v xs.length (xs.flatMap enc)
section
variable{α:Type}{enc:α->List AV}{size:Nat}{H H':ar}{v:AV}{xs:List α}
def bI.len(h:bI enc size H v xs):Op.cG [v]=B1 (.int .i64 xs.length):=Sl.len h
def bI.fr{W:Nat->Prop}(h:bI enc size H v xs)(f:Fr W H H')(hw:¬W (aE v)):bI enc size H' v xs:=Sl.fr h f (.inr hw)
def bI.em(h:bI enc size H v xs)(f:Fr Em H H'):bI enc size H' v xs:=Sl.em h f
theorem J0(hs:∀x,(enc x).length=size):∀(xs:List α){i:Nat}{x:α},xs[i]? = B1 x -> ∀{j:Nat},j<size->(xs.flatMap enc)[i*size+j]? = (enc x)[j]?
 |[],i,x,h,j,hj=>by simp at h
 |y::ys,0,x,h,j,hj=>by
  simp at h;subst h;rw[j6,yx (by rw[hs];omega)];simp
 |y::ys,i+1,x,h,j,hj=>by
  simp only[z8]at h;rw[j6,z4 (by rw[hs,vi];omega),hs,<-J0 hs ys h hj];congr 1;rw[vi];omega
def Jf{i:Nat}{x:α}(h:xs[i]? = B1 x):i<xs.length:=(qt.1 h).1
def bI.idx(h:bI enc size H v xs){i:Nat}{x:α}(c:xs[i]? = B1 x){z:Int}(d:z=i)(k:OM):Op.aR size [v,.int k z]=B1 (.ptr (aE v) (cK size v i)) :=
 Sl.idx h (Jf c) d k
def bI.ae(hs:∀x,(enc x).length=size)(h:bI enc size H v xs){i:Nat}{x:α}(d:xs[i]? = B1 x){j:Nat}(c:j<size):Op.ae [.ptr (aE v) (cK size v i+j)] H=(enc x)[j]?:=by
 obtain⟨_,all,f,l,g⟩:=Sl.at (by omega) h (Jf d);rw[x9 f,g j c,J0 hs xs d c]
def bI.ig(hs:∀x,(enc x).length=size)(h:bI enc size H v xs){i:Nat}{x:α}(d:xs[i]? = B1 x)(c:0<size):Op.ae [.ptr (aE v) (cK size v i)] H=(enc x)[0]?:=h.ae hs d c
def bI.aq(hs:∀x,(enc x).length=size)(d:0<size)(h:bI enc size H v xs){i:Nat}{x:α}(f:xs[i]? = B1 x):Op.aq size [.ptr (aE v) (cK size v i)] H=B1 (.agg (enc x)):=by
 obtain⟨_,all,g,l,m⟩:=Sl.at d h (Jf f);rw[rS g l];congr 2;refine yj λ j=>?_
 by_cases c:j<size
 .rw [N0,xg c,wh,m j c,J0 hs xs f c]
 .rw [jp (by simp;omega),jp (by rw[hs];omega)]
end
def Own(H:ar)(e size:Nat)(v:AV)(n:Nat)(cells:List AV):Prop :=
 cells.length=n*size/\(n=0/\(v=.nils \/ ∃b,v=.slice b 0 0 0/\b<H.au) \/ ∃b,v=.gslice b 0 n size 0 n/\b<H.au/\H.get b=B1 (.grown n size cells e (0,0)))
def aM(v:AV):Nat->Prop:=λ x=>v≠ .nils/\x=aE v
theorem Own.nil(H:ar)(e size:Nat):Own H e size .nils 0 []:=⟨by simp,.inl ⟨rfl,.inl rfl⟩⟩
def Own.sl{H:ar}{e size:Nat}{v:AV}{n:Nat}{cells:List AV}(h:Own H e size v n cells):Sl H size v n cells:=by
 obtain⟨hl,⟨rfl,rfl|⟨b,rfl,hb⟩⟩|⟨b,rfl,c,d⟩⟩:=h
 .exact ⟨hl,rfl⟩
 .exact ⟨hl,rfl,qm _,.inl rfl⟩
 .refine ⟨hl,rfl,rfl,by omega,.inr ⟨c,cells,Ra d,?_⟩⟩;rw[tR,xg (by simp[hl])];simp[<-hl]
def Own.fr{H H':ar}{W:Nat->Prop}{e size:Nat}{v:AV}{n:Nat}{cells:List AV}(h:Own H e size v n cells)(f:Fr W H H')(hw:∀x,aM v x -> ¬W x):Own H' e size v n cells:=by
 obtain⟨hl,⟨c,h|⟨b,rfl,hb⟩⟩|⟨b,rfl,d,g⟩⟩:=h
 .exact ⟨hl,.inl ⟨c,.inl h⟩⟩
 .exact ⟨hl,.inl ⟨c,.inr ⟨b,rfl,qn hb f.au⟩⟩⟩
 .exact ⟨hl,.inr ⟨b,rfl,qn d f.au,by rw[f.ah b d (hw b ⟨by simp,rfl⟩)];exact g⟩⟩
def Own.em{H H':ar}{e size:Nat}{v:AV}{n:Nat}{cells:List AV}(h:Own H e size v n cells)(f:Fr Em H H'):Own H' e size v n cells:=h.fr f λ _ _ h=>h
def Own.lt{H:ar}{e size:Nat}{v:AV}{n:Nat}{cells:List AV}(h:Own H e size v n cells):∀x,aM v x->x<H.au:=by
 rintro x ⟨c,rfl⟩;obtain⟨hl,⟨d,h|⟨b,rfl,hb⟩⟩|⟨b,rfl,c,f⟩⟩:=h
 .exact (c h).elim
 .exact hb
 .exact c
def Sl.one{H:ar}{size:Nat}{v:AV}{n:Nat}{cells:List AV}(h:Sl H size v n cells):aD v=true:=by
 obtain⟨_,h⟩:=h;cases v<;>first|rfl|exact h.elim
def SD{n bytes:Nat}(c:n*bytes<=140737488355328)(d:n<=140737488355328):fits n bytes=true:=by
 simp[fits,c,d]
theorem q74{H:ar}{e size bytes:Nat}{v:AV}{n:Nat}{cells:List AV}(h:Own H e size v n cells){x:AV}{k:Nat}{new:List AV}(p:Sl H size x k new)(g:aL new=B4)(hs:0<size)
 (u:(n+k)*bytes<=140737488355328) (l:n+k<=140737488355328) {K:Bool->AV->ar->Prop} {m:Bool}
 (hk:∀q H',Own H' e size q (n+k) (cells++new)->Fr (aM v) H H'->(∀b,aM q b->aM v b\/H.au<=b)->K aJ q H'):tt m (Op.append e size bytes [v,x] H) K:=by
 have c:=SD u l;have hlen:new.length=k*size:=p.1;have f:=AK hs;have e1:∀n,JW n n=true:=λ n=>by simp
 simp only[Op.append,p.eN,p.first,qr,g,xt];obtain⟨hl,⟨rfl,rfl|⟨b,rfl,hb⟩⟩|⟨b,rfl,s,r⟩⟩:=h
 .simp only[AN,jz]at hl;subst hl
  by_cases d:k=0
  .subst d;simp at hlen;subst hlen;exact hk .nils H (Own.nil H e size) (Fr.refl H) λ b hb=>.inl hb
  .have i:JW k 0=false:=FB d;simp only[cS,i,zn,yg]at c⊢;simp only[c,f,zx,xt,dE,tt];refine hk _ _ ⟨by simpa using hlen,.inr ⟨H.au,by simp,by rw[xy];omega,?_⟩⟩ ((Fr.refl H).alloc _) λ b hb=>.inr (by rw[hb.2];exact qm _);rw[ar.bO,xg rfl];simp
 .simp only[AN,jz]at hl;subst hl
  by_cases d:k=0
  .subst d;simp at hlen;subst hlen;simp only[cS,Ah,kr (qm 0),xt,e1,tt];exact hk _ H ⟨by simp,.inl ⟨rfl,.inr ⟨b,rfl,hb⟩⟩⟩ (Fr.refl H) λ b hb=>.inl hb
  .have i:JW k 0=false:=FB d;have j:Nu k 0=false:=by cases o:Nu k 0 with|false=>rfl|true=>rw[ub]at o;omega
   have t:firstCells H size 0 (.slice b 0 0 0)=B1 []:=rfl;simp only[cS,yg,j,zn]at c⊢;simp only[c,kr (xw k),f,zx,xt,t,qr,pq,jo,dE,tt];refine hk _ _ ⟨by simpa using hlen,.inr ⟨H.au,by simp,by rw[xy];omega,?_⟩⟩ ((Fr.refl H).alloc _) λ b hb=>.inr (by rw[hb.2];exact qm _);rw[ar.bO,xg rfl];simp
 .by_cases d:k=0
  .subst d;simp at hlen;subst hlen;simp only[cS,JW,xt,yg,kr (qm n),tt];refine hk _ _ ⟨by simpa using hl,.inr ⟨b,rfl,s,by simpa using r⟩⟩ (Fr.refl H) λ b hb=>.inl hb
  .have i:JW k 0=false:=FB d;have j:Nu (0+n+k) n=false:=by cases o:Nu (0+n+k) n with|false=>rfl|true=>rw[ub]at o;omega
   simp only[cS,i,zn,e1,yg,kr (qm n),f,zx,xt]at j⊢;simp only[j,zn,c,xt,r,e1,zx,JW,kr (xw (n*size)),dE,tt];refine hk _ _ ⟨by simp[hl,hlen,vz],.inr ⟨H.au,by simp[Ix],by rw[xy,Ix];omega,?_⟩⟩ (((Fr.refl H).kill (.inl ⟨by simp,rfl⟩)).alloc _) λ b hb=>.inr (by rw[hb.2];exact qm _);rw[ar.bO,Ix,xg rfl,pq]
def Vl(e n:Nat)(zero:List AV)(v:AV)(d:zero.length=n)(c:v.cells.length=n):Op.buildSlice e 1 zero [(0,n)] [v]=B1 (.row v.cells e (0,0) B4,Op.sliceTo 1 1):=by
 have e1:∀n,JW n n=true:=λ n=>by simp
 simp only[Op.buildSlice,fY,pq,zp,jH,Ie,c,e1,xt,AQ,yg,d,xg (qm n),yf,jo,qr];rw[jh (by omega)];simp
def B6{H:ar}{size e:Nat}{cells:List AV}(c:cells.length=size):Sl (H.alloc (.row cells e (0,0) B4)) size (Op.sliceTo 1 1 H.au) 1 cells:=by
 refine⟨by simp[c],rfl,qm 1,.inr ⟨by rw[xy];omega,cells,xb (by rw[ar.bO,xg rfl]),?_⟩⟩;rw[tR,xg (by simp[c])];simp[<-c]
def GB{H:ar}{e size bytes:Nat}{v:AV}{n:Nat}{cells:List AV}(h:Own H e size v n cells){zero:List AV}{x:AV}(t:zero.length=size)(l:x.cells.length=size)(d:aL x.cells=B4)(hs:0<size)
 (s:(n+1)*bytes<=140737488355328) (i:n+1<=140737488355328) {K:bE->(Nat->AV)->Bool->AV->ar->Prop} {m:Bool}
 (hk:∀f H',Own H' e size f (n+1) (cells++x.cells)->Fr (aM v) H H'->(∀b,aM f b->aM v b\/H.au<=b)->K (.row x.cells e (0,0) B4) (Op.sliceTo 1 1) aJ f H') :
 tt m (Op.buildSlice e 1 zero [(0,size)] [x]) λ g o mk=>tt g (Op.append e size bytes [v,mk H.au] (H.alloc o)) (K o mk):=by
 rw[Vl e size zero x t l];have c:Fr Em H (H.alloc (.row x.cells e (0,0) B4)):=(Fr.refl H).alloc _;refine tt.intro rfl ?_;refine q74 (m:=aJ) (h.em c) (B6 l) d hs s i λ f H' p j r=>hk f H' p ?_ λ b hb=>?_
 .exact ⟨xx c.au j.au,λ b hb hw=>by rw[j.ah b (qn hb c.au) hw,c.ah b hb (λ q=>q)]⟩
 .exact (r b hb).imp id λ q=>xx c.au q
theorem Mu.intro{W:St->cR->Prop}{ah:Option (List Nat)}{st:St}{Q:cR}(I:Nat->St->Prop)(n:Nat)(d:I n st)
 (h:∀n st,I n st->W (lj ah st) λ e c=>match e with
  | .normal=>∃m,m<n/\I m c
  |e=>Q e c):Mu W ah st Q:=⟨I,⟨n,d⟩,h⟩
end Go.Am
namespace Go.Am
def HE(H:ar)(tm:T AV)(t:Nat)(rs:List eE):eD H tm (.tmp t::rs)=(tm.get t).bind λ v=>(eD H tm rs).bind λ vs=>B1 (v::vs):=rfl
def xm0(H:ar)(tm:T AV)(t:Nat)(rs:List eE):eD H tm (.kT t::rs)=(((tm.get t).bind λ v=>Op.ae [v] H)).bind λ v=>(eD H tm rs).bind λ vs=>B1 (v::vs):=by
 simp only[eD,Nk];congr 1;cases tm.get t with
 |none=>rfl
 |some v=>cases v<;>rfl
def xm1(H:ar)(tm:T AV)(n t:Nat)(rs:List eE):eD H tm (.de n t::rs)=(((tm.get t).bind λ v=>Op.aq n [v] H)).bind λ v=>(eD H tm rs).bind λ vs=>B1 (v::vs):=by
 simp only[eD,Nk];congr 1;cases tm.get t with
 |none=>rfl
 |some v=>cases v<;>rfl
def Zs(v:AV):jK [v]=v:=rfl
def Xb:jK []=.tuple []:=rfl
def VD(a b:AV)(l:List AV):jK (a::b::l)=.tuple (a::b::l):=rfl
def PH(b:Nat):Op.ptrTo b=.ptr b 0:=rfl
def Vm(t:aT)(x y:AV)(H:ar)(q:Bool)(h:aY t x y=B1 q):Op.eq (.agg t) B4 [x,y] H=B1 (.bool (!q)):=by simp[Op.eq,IJ,h]
def zW(t:aT)(x y:AV)(H:ar)(q:Bool)(h:aY t x y=B1 q):Op.eq (.agg t) B2 [x,y] H=B1 (.bool q):=by simp[Op.eq,IJ,h]
structure fk where
 kind:Int
 time:Int
 core:Int
 block:Int
 Xe:Int
 lane:Int
 addr:Int
 value:Int
 code:Int
deriving DecidableEq
def fk.enc(x:fk):List AV:=[.int .i64 x.kind,.int .i64 x.time,.int .i64 x.core,.int .i64 x.block,.int .i64 x.Xe,.int .i64 x.lane,.int .i64 x.addr,.int .u64 x.value,.int .i64 x.code]
def fk.len(x:fk):x.enc.length=9:=rfl
def Sc(a b:Int):ux a b=decide (a=b):=by rw[DC];rfl
end Go.Am
namespace Go.Am
theorem T.tf{α:Type}(v c:Option α):∀(p:List Bool)(t:T α),T.fV v p (T.fV c p t)=T.fV v p t
 |[],t=>rfl
 |b::p,t=>by cases b<;>simp[T.fV,T.l,T.r,T.val,T.tf v c p]
def Oh(H:ar)(o o':bE):(H.alloc o).set H.au o'=H.alloc o':=by
 grind [ar.alloc,ar.set,T.set,T.put,T.tf]
theorem xp(H:ar)(o:bE):(H.alloc o).get H.au=B1 o:=by rw[ar.bO,xg rfl]
def bZ(H:ar)(o:bE):∃Z,Z=H.alloc o/\Fr Em H Z/\Z.au=H.au+1/\Z.get H.au=B1 o:=⟨_,rfl,(Fr.refl H).alloc _,xy ..,xp ..⟩
theorem wq{H:ar}{b:Nat}(h:b<H.au)(o:bE):(H.alloc o).get b=H.get b:=by rw[ar.bO,qy (by omega)]
theorem xc(H:ar)(b:Nat)(o:bE):(H.set b o).get b=B1 o:=by rw[ar.aK,xg rfl]
theorem yd{H:ar}{b c:Nat}(h:b≠c)(o:bE):(H.set b o).get c=H.get c:=by rw[ar.aK,qy h]
def xK{H:ar}{b:Nat}{c:List AV}{e:Nat}(h:H.get b=B1 (.row c e (0,0) B4)){o n:Nat}{v:AV}(f:v.cells.length=n)(hn:o+n<=c.length)(d:aL v.cells=B4) :
 Op.store n [.ptr b o,v] H=B1 (.undef,H.set b (.row (c.take o++v.cells++c.drop (o+n)) e (0,0) B4)):=by
 have e1:∀n,JW n n=true:=λ n=>by simp
 simp only[Op.store,Ie,f,e1,xt,ar.store,d,h];have:dG (0,0) o n=true:=by simp[dG]
 simp_all[AQ]
def Yl{H:ar}{b m s:Nat}{c:List AV}{e:Nat}(h:H.get b=B1 (.grown m s c e (0,0))){o n:Nat}{v:AV}(f:v.cells.length=n)(hn:o+n<=c.length)(d:aL v.cells=B4) :
 Op.store n [.ptr b o,v] H=B1 (.undef,H.set b (.grown m s (c.take o++v.cells++c.drop (o+n)) e (0,0))):=by
 have e1:∀n,JW n n=true:=λ n=>by simp
 simp only[Op.store,Ie,f,e1,xt,ar.store,d,h];have:dG (0,0) o n=true:=by simp[dG]
 simp_all[AQ]
def F1(H:ar)(c:List AV)(e:Nat)(fz:Nat×Nat)(ow:Bool)(n:Nat)(hn:c.length=n):Op.aq n [.ptr H.au 0] (H.alloc (.row c e fz ow))=B1 (.agg c):=by
 rw[rS (xb (xp H _)) (by omega)];simp[<-hn]
def aO{α:Type}(enc:α->List AV)(e size:Nat)(H:ar)(v:AV)(xs:List α):Prop:=Own H e size v xs.length (xs.flatMap enc)
structure AZ{α:Type}(enc:α->List AV)(e size:Nat)(H0 H:ar)(v:AV)(xs:List α):Prop where
 own:aO enc e size H v xs
 fr:Fr Em H0 H
 fresh:∀b,aM v b->H0.au<=b
section
variable{α:Type}{enc:α->List AV}{e size:Nat}{H0 H H':ar}{v:AV}{xs:List α}
def bI.one(h:bI enc size H v xs):aD v=true:=Sl.one h
theorem AZ.nil(H:ar):AZ enc e size H H .nils ([]:List α):=⟨Own.nil H e size,Fr.refl H,λ b h=>(h.1 rfl).elim⟩
def AZ.sl(h:AZ enc e size H0 H v xs):bI enc size H v xs:=Own.sl h.own
def aO.sl(h:aO enc e size H v xs):bI enc size H v xs:=Own.sl h
def AZ.em(h:AZ enc e size H0 H v xs)(f:Fr Em H H'):AZ enc e size H0 H' v xs:=⟨Own.em h.own f,h.fr.em f,h.fresh⟩
def AZ.len(h:AZ enc e size H0 H v xs):Op.cG [v]=B1 (.int .i64 xs.length):=h.sl.len
def AZ.step(h:AZ enc e size H0 H v xs){c:AV}{ys:List α}(d:aO enc e size H' c ys)(f:Fr (aM v) H H')(g:∀b,aM c b->aM v b\/H.au<=b):AZ enc e size H0 H' c ys :=
 ⟨d,h.fr.trans f λ x i=>.inr (h.fresh x i),λ b hb=>(g b hb).elim (h.fresh b) λ q=>xx h.fr.au q⟩
def TP{f:α->List AV}(hs:∀x,(f x).length=size):∀(xs:List α){i:Nat}{x:α},xs[i]? = B1 x -> ∀(y:α),(xs.set i y).flatMap f=(xs.flatMap f).take (i*size)++f y++(xs.flatMap f).drop (i*size+size)
 |[],i,x,h,y=>by grind
 |z::zs,0,x,h,y=>by
  grind
 |z::zs,i+1,x,h,y=>by
  simp only[z8]at h;have e1:(f z++zs.flatMap f).take ((i+1)*size)=f z++(zs.flatMap f).take (i*size):=by
   grind [vi]
  have e2:(f z++zs.flatMap f).drop ((i+1)*size+size)=(zs.flatMap f).drop (i*size+size):=by
   rw[show(i+1)*size+size=(f z).length+(i*size+size)from by rw[hs,vi];omega,vy]
  rw[List.set_cons_succ,j6,j6,TP hs zs h y,e1,e2]
  grind
theorem FZ(hs:∀x,(enc x).length=size)(l:List α):(l.flatMap enc).length=l.length*size:=by
 induction l with
 |nil=>simp
 |cons a l ih=>grind
def h_{L E:List AV}{c j:Nat}{u:AV}(d:E.length=size)(f:j<size)(hk:c+size<=L.length)(h:∀r,r<size->L[c+r]? = E[r]?) :
 L.take c++E.set j u++L.drop (c+size)=L.set (c+j) u:=by
 refine yj λ k=>?_
 grind
def aO.zU(hs:∀x,(enc x).length=size)(h:aO enc e size H v xs){i:Nat}{x y:α}(d:xs[i]? = B1 x){j:Nat}(p:j<size){u:AV}(hu:aD u=B4)(q:enc y=(enc x).set j u) :
 ∃H',Op.store 1 [.ptr (aE v) (cK size v i+j),u] H=B1 (.undef,H')/\aO enc e size H' v (xs.set i y)/\Fr (aM v) H H':=by
 obtain⟨hl,h|⟨b,rfl,f,g⟩⟩:=h
 .grind
 .have m:=Jf d;have hb:(i+1)*size<=xs.length*size:=j8 _ m;rw[vi]at hb;have l:u.cells=[u]:=by cases u<;>first|rfl|cases hu
  have c:=Yl g (o:=i*size+j) (n:=1) (v:=u) (by grind) (by omega) (by grind [vd]);have ho:cK size (AV.gslice b 0 xs.length size 0 xs.length) i=i*size:=by simp[cK]
  rw[ho];refine⟨_,c,⟨?_,.inr ⟨b,?_,f,?_⟩⟩,(Fr.refl H).set (.inl ⟨by simp,rfl⟩) _⟩
  .grind [FZ]
  .grind
  .rw [ze,xc,TP hs xs d,q,l,h_ (L:=xs.flatMap enc) (E:=enc x) (hs x) p (by omega) (λ r hr=>J0 hs xs d hr),List.set_eq_take_append_cons_drop,xg (by omega)];simp
end
abbrev OR(c:List AV)(e:Nat):bE:=.row c e (0,0) B4
end Go.Am
namespace Go.Am
def tE{k mx d:Nat}{z:Int}(c:z=k)(h:k<=mx)(kk:OM):bound (B1 (.int kk z)) d mx=B1 k:=by
 subst c;show cond (Nu k mx) (B1 k) B5=B1 k;rw[kr h];rfl
def Sl.from{H:ar}{size:Nat}{v:AV}{n:Nat}{cells:List AV}(h:Sl H size v n cells){k:Nat}(hk:k<=n){z:Int}(j:z=k)(kk:OM) :
 ∃l,Op.aA size [B1 0,B5,B5] [v,.int kk z]=B1 l/\Sl H size l (n-k) (cells.drop (k*size))/\(l=.nils\/aE l=aE v):=by
 obtain⟨hl,h⟩:=h;have hlen:(cells.drop (k*size)).length=(n-k)*size:=by grind [Nat.sub_mul]
 have x:k*size<=n*size:=j8 _ hk;have u:(n-k)*size=n*size-k*size:=Nat.sub_mul n k size;split at h
 .subst h;have:k=0:=by omega
  subst this;refine⟨.nils,?_,⟨hlen,rfl⟩,.inl rfl⟩;have g:bound B5 0 0=B1 0:=rfl;simp[Op.aA,arg,jN,dk,g,tE j (qm 0)]
 .rename_i b o m c;obtain⟨rfl,C,h⟩:=h;have f:∀d m,bound B5 d m=B1 d:=λ _ _=>rfl;refine⟨.slice b (cond (JW c k) o (o+k*size)) (m-k) (c-k),by simp[Op.aA,arg,jN,dk,f,tE j hk],⟨hlen,rfl,by omega,?_⟩,.inr rfl⟩;rcases h with h|⟨hb,all,p,r⟩
  .omega
  .by_cases he:c=k
   .omega
   .right;obtain⟨w,rfl⟩:=M0 r;refine⟨hb,all,p,?_⟩;rw[FB he,zn,tR,xg (by omega),List.drop_take,FU]
    grind
 .rename_i b i m s alt q;obtain⟨rfl,rfl,hm,h⟩:=h;have e1:∀n,JW n n=true:=λ n=>by simp
  have f:∀d m,bound B5 d m=B1 d:=λ _ _=>rfl;have y:=kr (show q<=m-i by omega);have t:=kr (show i<=m by omega);refine⟨.gslice b (i+k) m s (cond (JW k 0) alt (i*s)) (q-k),by simp only[Op.aA,arg,jN,zj,qr,dk,f,tE j hk,e1,t,y,zx,xt],⟨hlen,rfl,rfl,by omega,?_⟩,.inr rfl⟩;rcases h with h|⟨hb,all,p,r⟩
  .omega
  .right;obtain⟨w,rfl⟩:=M0 r;refine⟨hb,all,p,?_⟩;rw[tR,xg (by rw[vz];omega),List.drop_take,FU,vz]
   grind
 .rename_i b;obtain⟨rfl,hb⟩:=h;have:k=0:=by omega
  subst this;have g:bound B5 0 0=B1 0:=rfl;refine⟨.eslice b,?_,⟨hlen,rfl,hb⟩,.inr rfl⟩;simp[Op.aA,arg,jN,dk,g,tE j (qm 0)]
 grind
def Sl.upto{H:ar}{size:Nat}{v:AV}{n:Nat}{cells:List AV}(h:Sl H size v n cells){k:Nat}(hk:k<=n){z:Int}(l:z=k)(kk:OM) :
 ∃p,Op.aA size [B5,B1 0,B5] [v,.int kk z]=B1 p/\Sl H size p k (cells.take (k*size))/\(p=.nils\/aE p=aE v):=by
 obtain⟨hl,h⟩:=h;have j:k*size<=n*size:=j8 _ hk;have hlen:(cells.take (k*size)).length=k*size:=by grind
 split at h
 .subst h;have:k=0:=by omega
  subst this;refine⟨.nils,?_,⟨hlen,rfl⟩,.inl rfl⟩;have g:bound B5 0 0=B1 0:=rfl;simp[Op.aA,arg,jN,dk,g,tE l (qm 0)]
 .rename_i b o m c;obtain⟨rfl,C,h⟩:=h;have u:∀h,bound B5 0 h=B1 0:=λ h=>rfl;have f:∀d m,bound B5 d m=B1 d:=λ _ _=>rfl;refine⟨.slice b (cond (JW c 0) o (o+0*size)) (k-0) (c-0),by simp only[Op.aA,arg,jN,zj,qr,dk,tE l (show k<=c by omega),u,f],⟨hlen,by omega,by omega,?_⟩,.inr rfl⟩;rcases h with h|⟨hb,all,r,t⟩
  .omega
  .right;obtain⟨x,rfl⟩:=M0 t;refine⟨hb,all,r,?_⟩;have:cond (JW c 0) o (o+0*size)=o:=by grind
   rw[this,tR,xg (by omega),List.take_take,Nat.min_eq_left j]
 .rename_i b i m s alt q;obtain⟨rfl,rfl,hm,h⟩:=h;have e1:∀n,JW n n=true:=λ n=>by simp
  have f:∀d m,bound B5 d m=B1 d:=λ _ _=>rfl;have y:=kr (show k<=m-i by omega);have w:=kr (show i<=m by omega);refine⟨.gslice b (i+0) m s (cond (JW 0 0) alt (i*s)) (k-0),by simp only[Op.aA,arg,jN,zj,qr,dk,f,tE l (show k<=m-i by omega),e1,w,y,zx,xt],⟨hlen,by omega,rfl,by omega,?_⟩,.inr rfl⟩;rcases h with h|⟨hb,all,r,t⟩
  .omega
  .right;obtain⟨x,rfl⟩:=M0 t;refine⟨hb,all,r,?_⟩;rw[Ah,tR,xg (by omega),List.take_take,Nat.min_eq_left j]
 .rename_i b;obtain⟨rfl,hb⟩:=h;have:k=0:=by omega
  subst this;have g:bound B5 0 0=B1 0:=rfl;refine⟨.eslice b,?_,⟨hlen,rfl,hb⟩,.inr rfl⟩;simp[Op.aA,arg,jN,dk,g,tE l (qm 0)]
 grind
section
variable{α:Type}{enc:α->List AV}{size:Nat}{H H':ar}{v:AV}{xs:List α}
theorem _b(hs:∀x,(enc x).length=size):∀(xs:List α)(k:Nat),(xs.flatMap enc).drop (k*size)=(xs.drop k).flatMap enc
 |[],k=>by simp
 |x::xs,0=>by simp
 |x::xs,k+1=>by
  rw[j6,show(k+1)*size=(enc x).length+k*size from by rw[hs,vi];omega,vy,_b hs xs k];rfl
theorem qzj(hs:∀x,(enc x).length=size):∀(xs:List α)(k:Nat),(xs.flatMap enc).take (k*size)=(xs.take k).flatMap enc
 |[],k=>by simp
 |x::xs,0=>by simp
 |x::xs,k+1=>by
  rw[j6,show(k+1)*size=(enc x).length+k*size from by rw[hs,vi];omega,List.take_length_add_append,qzj hs xs k];rfl
def bI.from(hs:∀x,(enc x).length=size)(h:bI enc size H v xs){k:Nat}(hk:k<=xs.length){z:Int}(d:z=k)(kk:OM) :
 ∃c,Op.aA size [B1 0,B5,B5] [v,.int kk z]=B1 c/\bI enc size H c (xs.drop k)/\(c=.nils\/aE c=aE v):=by
 obtain⟨c,f,g,i⟩:=Sl.from h hk d kk
 grind [bI,_b]
def bI.upto(hs:∀x,(enc x).length=size)(h:bI enc size H v xs){k:Nat}(hk:k<=xs.length){z:Int}(d:z=k)(kk:OM) :
 ∃c,Op.aA size [B5,B1 0,B5] [v,.int kk z]=B1 c/\bI enc size H c (xs.take k)/\(c=.nils\/aE c=aE v):=by
 obtain⟨c,f,g,i⟩:=Sl.upto h hk d kk
 grind [bI,qzj]
def gW(enc:α->List AV)(e size:Nat)(H:ar)(v:AV)(xs:List α):Prop:=∃b,v=.slice b 0 xs.length xs.length/\b<H.au/\H.get b=B1 (.row (xs.flatMap enc) e (0,0) B4)
def gW.sl{e:Nat}(hs:∀x,(enc x).length=size)(h:gW enc e size H v xs):bI enc size H v xs:=by
 obtain⟨b,rfl,c,d⟩:=h;refine⟨FZ hs xs,rfl,qm _,.inr ⟨c,_,xb d,?_⟩⟩;rw[tR,xg (by grind [FZ]),yw,za (by grind [FZ])]
def gW.fr{e:Nat}{W:Nat->Prop}(h:gW enc e size H v xs)(f:Fr W H H')(hw:¬W (aE v)):gW enc e size H' v xs:=by
 obtain⟨b,rfl,c,d⟩:=h;exact⟨b,rfl,qn c f.au,by rw[f.ah b c hw];exact d⟩
def gW.lt{e:Nat}(h:gW enc e size H v xs):aE v<H.au:=by
 obtain⟨b,rfl,c,d⟩:=h;exact c
def gW.zU{e:Nat}(hs:∀x,(enc x).length=size)(h:gW enc e size H v xs){i:Nat}{x y:α}(d:xs[i]? = B1 x){j:Nat}(p:j<size){u:AV}(hu:aD u=B4)(q:enc y=(enc x).set j u) :
 ∃H',Op.store 1 [.ptr (aE v) (cK size v i+j),u] H=B1 (.undef,H')/\gW enc e size H' v (xs.set i y)/\Fr (On (aE v)) H H':=by
 obtain⟨b,rfl,f,g⟩:=h;have m:=Jf d;have hl:=FZ hs xs;have hb:(i+1)*size<=xs.length*size:=j8 _ m;rw[vi]at hb;have l:u.cells=[u]:=by cases u<;>first|rfl|cases hu
 have c:=xK g (o:=i*size+j) (n:=1) (v:=u) (by grind) (by omega) (by grind [vd]);have ho:cK size (AV.slice b 0 xs.length xs.length) i=i*size:=by simp[cK]
 rw[ho];refine⟨_,c,⟨b,?_,f,?_⟩,(Fr.refl H).set (W:=On b) (.inl rfl) _⟩
 .grind
 .rw [xc,TP hs xs d,q,l,h_ (L:=xs.flatMap enc) (E:=enc x) (hs x) p (by omega) (λ r hr=>J0 hs xs d hr),List.set_eq_take_append_cons_drop,xg (by omega)];simp
end
def UG(e bytes:Nat)(z:List AV)(n:Nat)(k k':OM)(h:n*bytes<=140737488355328)(c:n<=140737488355328) :
 Op.mkSlice e bytes z [.int k n,.int k' n]=B1 (.row (fY n z) e (0,0) B4,Op.sliceTo n n):=by
 grind [Nl,Op.mkSlice]
end Go.Am
namespace Go.Am
def _d{tm:T AV}{x:bM}{K K':AV->Prop}(h:Fk tm x K)(hk:∀v,K v->K' v):Fk tm x K':=by
 have⟨v,d,f⟩:=h.elim;cases x with
 |tmp t=>grind [rR,Fk,bR]
 |const c=>cases d;exact hk _ f
 |eO c=>cases d;exact hk _ f
 |func c=>cases d;exact hk _ f
def Jr{tm:T AV}:∀{l:List bM}{K K':List AV->Prop},qA tm l K->(∀v,K v->K' v)->qA tm l K'
 |[],K,K',h,hk=>hk _ h
 | .tmp t::xs,K,K',h,hk=>by
  simp only[qA]at h⊢;unfold bR at h⊢;split at h
  .exact Jr h λ vs=>hk _
  omega
 | .const v::xs,K,K',h,hk=>Jr (l:=xs) h λ vs=>hk _
 | .eO v::xs,K,K',h,hk=>Jr (l:=xs) h λ vs=>hk _
 | .func v::xs,K,K',h,hk=>Jr (l:=xs) h λ vs=>hk _
theorem Ga{α:Type}{m:Bool}{o:Option α}{K K':α->Prop}(h:bR m o K)(hk:∀a,K a->K' a):bR m o K':=by
 cases o with
 |none=>exact h
 |some a=>exact hk a h
theorem _H{α β:Type}{m:Bool}{o:Option (α×β)}{K K':α -> β->Prop}(h:iY m o K)(hk:∀a b,K a b->K' a b):iY m o K':=by
 cases o with
 |none=>exact h
 |some a=>exact hk a.1 a.2 h
section
variable{AP:ak}
theorem WY{m:Bool}{f:mE}{vs:List AV}{H:ar}{K K':AV->ar->Prop}{E d:aI->ar->Prop}(h:nZ AP m f vs H K E)(hk:∀v H,K v H->K' v H)(he:∀c H,E c H->d c H):nZ AP m f vs H K' d:=by
 have⟨e,H',i,g⟩:=h;refine⟨e,H',i,?_⟩;cases e with
 |ret v=>exact hk _ _ g
 |panic c=>exact he _ _ g
theorem Sy{d:Option (List Nat)}{tm:T AV}{aZ:List aN}{up:Option aI}{Q Q':cR}(f:∀e st,Q e st->Q' e st)(c:aI)(H:ar)(h:AJ d tm aZ up Q c H):AJ d tm aZ up Q' c H:=by
 cases d with
 |none=>exact h
 |some ds=>exact f _ _ h
def _6{ctx:Ctx}{dst:Option Nat}{c:Option (List Nat)}{st:St}{Q Q':cR}{K K':St->Prop}{vs:List AV}{op:fP}(h:pX AP ctx dst c st Q K vs op)(d:∀e st,Q e st->Q' e st)(hk:∀st,K st->K' st):pX AP ctx dst c st Q' K' vs op:=by
 cases op with
 |pure f=>exact Ga (m:=aJ) h λ _=>hk _
 |read f=>exact Ga (m:=aJ) h λ _=>hk _
 |alloc f=>grind [pX,_H]
 |gT f=>grind [pX,_H]
 |ij f=>exact WY (m:=aJ) h (by grind) (Sy d)
 |iq =>
  simp only[pX,N8]at h⊢
  grind [WY,Sy]
 |invoke n =>
  simp only[pX,N5]at h⊢;split at h
  .grind [Ga,WY,Sy]
  omega
 |recover =>
  simp only[pX,xR]at h⊢
  grind
 |defer =>
  simp only[pX,HW]at h⊢
  grind
 |panic =>
  simp only[pX,gH]at h⊢
  grind [Sy]
def xbi{ctx:Ctx}{s:aP}{st:St}{Q Q':cR}{K K':St->Prop}(h:rq AP ctx s st Q K)(c:∀e st,Q e st->Q' e st)(hk:∀st,K st->K' st):rq AP ctx s st Q' K':=by
 have⟨iB,dst,guard,args,op,d⟩:=s;cases iB with
 |false =>
  cases guard with
  |none=>exact Jr h λ _ q=>_6 q c hk
  |some g =>
   refine Ga (m:=aJ) h λ w q=>?_;cases w with
   |true=>exact Jr (K:=_) q λ _ q=>_6 q c hk
   |false=>exact hk _ q
 |true =>
  cases guard with
  |none=>exact Jr h λ _ q=>(by grind)
  |some g =>
   refine Ga (m:=aJ) h λ w q=>?_;cases w with
   |true=>exact Jr (K:=_) q λ _ q=>(by grind)
   |false=>exact⟨q.1,hk _ q.2⟩
def ZY{ctx:Ctx}:∀{l:List aP}{st:St}{Q Q':cR},oI AP ctx l st Q->(∀e st,Q e st->Q' e st)->oI AP ctx l st Q'
 |[],st,Q,Q',h,hq=>hq _ _ h
 |s::rest,st,Q,Q',h,hq=>xbi h hq λ d c=>ZY c hq
theorem OA{ctx:Ctx}{st:St}{k:Nat}{H0:ar}{aZ:List aN}{d:Nat}{Q Q':cR}{v:AV}(h:mN AP ctx st k H0 aZ d Q v)(i:∀e st,Q e st->Q' e st):mN AP ctx st k H0 aZ d Q' v:=by
 unfold mN at h⊢;split at h
 .have ⟨e,H',j,g⟩:=h;refine⟨e,H',j,?_⟩;cases e with
  |panic c=>exact i _ _ g
  |ret v=>have⟨s,p,f,k,tm,d,l,m,o⟩:=g;exact⟨s,p,f,k,tm,d,l,m,i _ _ o⟩
 omega
def pW{ctx:Ctx}:∀{c:ai}{st:St}{Q Q':cR},WP AP ctx c st Q->(∀e st,Q e st->Q' e st)->WP AP ctx c st Q'
 | .skip,st,Q,Q',h,hq=>hq _ _ h
 | .label _,st,Q,Q',h,hq=>hq _ _ h
 | .exit _,st,Q,Q',h,hq=>hq _ _ h
 | .goto _,st,Q,Q',h,hq=>hq _ _ h
 | .ret,st,Q,Q',h,hq=>hq _ _ h
 | .stuck,st,Q,Q',h,hq=>h.elim
 | .region l,st,Q,Q',h,hq=>ZY h hq
 | .seq a b,st,Q,Q',h,hq=>pW (c:=a) h λ e g d=>by
  cases e with
  |normal=>exact pW (c:=b) d hq
  |exit _=>exact hq _ _ d
  |goto _=>exact hq _ _ d
  |ret=>exact hq _ _ d
  |panic _=>exact hq _ _ d
 | .cond c a b,st,Q,Q',h,hq=>_d h λ v q=>Ga (m:=aJ) q λ w q=>by
  cases w with
  |true=>exact pW (c:=a) q hq
  |false=>exact pW (c:=b) q hq
 | .block id b,st,Q,Q',h,hq=>pW (c:=b) h λ e g d=>by cases e<;>exact hq _ _ d
 | .scope b,st,Q,Q',h,hq=>pW (c:=b) h λ e g d=>by
  cases e with
  |goto l=>exact⟨d.1,hq _ _ d.2⟩
  |normal=>exact hq _ _ d
  |exit _=>exact hq _ _ d
  |ret=>exact hq _ _ d
  |panic _=>exact hq _ _ d
 | .loop ah b,st,Q,Q',⟨I,h0,h⟩,hq=>⟨I,h0,λ n st i=>pW (c:=b) (h n st i) λ e g d=>by grind⟩
 | .rangeFunc f k,st,Q,Q',h,hq=>_d h λ v q=>by
  grind [J4,OA,Ga]
def gP:aX->Prop
 | .exit _=>True
 | .goto _=>True
 | .ret=>True
 |_=>False
end
end Go.Am
namespace Go.Am
noncomputable section
abbrev aG:=aX->Env->List aN->ar->Prop
def lk(E:Env)(t:Nat):Option AV:=B7 (motive:=λ _=>Option AV) B5 (λ p _ ih=>cond (JW p.1 t) (B1 p.2) ih) E
def Dv(t:Nat):lk [] t=none:=rfl
def xM(k t:Nat)(v:AV)(E:Env):lk ((k,v)::E) t=if k=t then B1 v else lk E t:=by
 show cond (JW k t) (B1 v) (lk E t)=_;simp_all
def bL(t:Nat)(l:List Nat):Bool:=B7 (motive:=λ _=>Bool) B2 (λ x _ ih=>cond (JW x t) B4 ih) l
def gw(ks:List Nat)(E:Env)(tm:T AV):Prop:=∀t v,lk E t=B1 v->tm.get t=B1 v/\bL t ks=B4
def yM:Env->Env->Prop
 |[],_=>True
 |(k,v)::r,E=>lk E k=B1 v/\yM r E
def IE(E:Env):yM [] E=True:=rfl
def ae3(k:Nat)(v:AV)(r E:Env):yM ((k,v)::r) E=(lk E k=B1 v/\yM r E):=rfl
def yM.look:∀{A E:Env},yM A E -> ∀{t:Nat}{v:AV},lk A t=B1 v->lk E t=B1 v
 |[],E,_,t,v,h=>by cases h
 |(k,w)::r,E,h,t,v,hl=>by
  rw[xM]at hl;split at hl
  .rename_i e;subst e;cases hl;exact h.1
  .exact yM.look h.2 hl
def yM.sub{ks:List Nat}{A E:Env}(h:yM A E){tm:T AV}(he:gw ks E tm):gw ks A tm:=λ t v hl=>he t v (h.look hl)
def SS(A E:Env):Prop:=∀t v,lk A t=B1 v->lk E t=B1 v
def yM.ss{A E:Env}(h:yM A E):SS A E:=λ t v hl=>h.look hl
def SS.sub{ks:List Nat}{A E:Env}(h:SS A E){tm:T AV}(he:gw ks E tm):gw ks A tm:=λ t v hl=>he t v (h t v hl)
theorem SS.refl(E:Env):SS E E:=λ _ _ h=>h
def B3{α:Type}(m:Bool)(o:Option α)(K:Bool -> α->Prop):Prop:=match o with
 |some a=>K m a
 |none=>False
def jF{α β:Type}(m:Bool)(o:Option (α×β))(K:Bool -> α -> β->Prop):Prop:=match o with
 |some a=>K m a.1 a.2
 |none=>False
def mL(m:Bool)(v:AV)(A B:Bool->Prop):Prop:=match v with
 | .bool q=>match q with
  |true=>A m
  |false=>B m
 |_=>False
def vE(m:Bool)(q:Bool)(A B:Bool->Prop):Prop:=match q with
 |true=>A m
 |false=>B m
def NF(m:Bool)(o o':Option AV)(K:Bool->Prop):Prop:=(∃v,o=B1 v/\o'=B1 v)/\K m
def A3(m:Bool)(e:Nat)(z:List AV)(H:ar)(K:Bool->AV->ar->Prop):Prop:=K m (.ptr H.au 0) (H.alloc (.row z e (0,0) B4))
def JN{α:Type}(F:α->Prop)(K:α):Prop:=F K
def rG(m:Bool)(Q:aG)(e:aX)(E:Env)(D:List aN)(H:ar):Prop:=Q e E D H
def Hk{α:Type}(a:α)(K:Bool -> α->Prop):B3 B4 (B1 a) K=K B4 a:=propext j9
def E9{α β:Type}(a:α)(b:β)(K:Bool -> α -> β->Prop):jF B4 (B1 (a,b)) K=K B4 a b:=propext j9
def ag1(A B:Bool->Prop):mL B4 (.bool B4) A B=A true:=propext j9
def xj6(A B:Bool->Prop):mL B4 (.bool B2) A B=B true:=propext j9
def EI(A B:Bool->Prop):vE B4 B4 A B=A true:=propext j9
def xj7(A B:Bool->Prop):vE B4 B2 A B=B true:=propext j9
def Dy(v:AV)(K:Bool->Prop):NF B4 (B1 v) (B1 v) K=K true:=propext ⟨λ h=>h.2,λ h=>⟨⟨v,rfl,rfl⟩,h⟩⟩
def PQ(e:Nat)(z:List AV)(H:ar)(K:Bool->AV->ar->Prop):A3 B4 e z H K=K B4 (.ptr H.au 0) (H.alloc (.row z e (0,0) B4)):=propext j9
def JO{α:Type}(F:α->Prop)(K:α):JN F K=F K:=propext j9
def ae0(Q:aG)(e:aX)(E:Env)(D:List aN)(H:ar):rG B4 Q e E D H=Q e E D H:=propext j9
@[congr]def ab9{α:Type}{F:α->Prop}{K:α}:JN F K=JN F K:=rfl
@[congr]def ac1{α:Type}{m c:Bool}{o o':Option α}{K:Bool -> α->Prop}(hm:m=c)(h:o=o'):B3 m o K=B3 c o' K:=by grind
@[congr]def aa7{α β:Type}{m c:Bool}{o o':Option (α×β)}{K:Bool -> α -> β->Prop}(hm:m=c)(h:o=o'):jF m o K=jF c o' K:=by grind
@[congr]def aa9{m c:Bool}{v d:AV}{A B:Bool->Prop}(hm:m=c)(h:v=d):mL m v A B=mL c d A B:=by grind
@[congr]def aa8{m c:Bool}{v d:Bool}{A B:Bool->Prop}(hm:m=c)(h:v=d):vE m v A B=vE c d A B:=by grind
@[congr]def ab4{m c:Bool}{o o' p p':Option AV}{K:Bool->Prop}(hm:m=c)(h:o=o')(d:p=p'):NF m o p K=NF c o' p' K:=by grind
@[congr]def ab6{m c:Bool}{e:Nat}{z d:List AV}{H H':ar}{K:Bool->AV->ar->Prop}(hm:m=c)(h:z=d)(f:H=H'):A3 m e z H K=A3 c e d H' K:=by grind
def B3.elim{α:Type}{m:Bool}{o:Option α}{K:Bool -> α->Prop}(h:B3 m o K):∃a,o=B1 a/\K m a:=by
 cases o with
 |none=>exact ND h
 |some a=>exact⟨a,rfl,h⟩
def jF.elim{α β:Type}{m:Bool}{o:Option (α×β)}{K:Bool -> α -> β->Prop}(h:jF m o K):∃a b,o=B1 (a,b)/\K m a b:=by
 cases o with
 |none=>exact ND h
 |some a=>exact⟨a.1,a.2,rfl,h⟩
def LK.elim{α:Type}{m:Bool}{o:Option α}{K:Bool -> α->Prop}(h:LK m o K):∃a,o=B1 a/\K m a:=by
 cases o with
 |none=>exact ND h
 |some a=>exact⟨a,rfl,h⟩
theorem B3.intro{α:Type}{m:Bool}{o:Option α}{K:Bool -> α->Prop}{a:α}(h:o=B1 a)(hk:K m a):B3 m o K:=by subst h;exact hk
theorem jF.intro{α β:Type}{m:Bool}{o:Option (α×β)}{K:Bool -> α -> β->Prop}{a:α}{b:β}(h:o=B1 (a,b))(hk:K m a b):jF m o K:=by subst h;exact hk
def mL.dec{m:Bool}{p:Prop}[Decidable p]{A B:Bool->Prop}(c:p->A m)(d:¬p->B m):mL m (.bool (decide p)) A B:=by
 by_cases h:p
 .rw [ke h];exact c h
 .rw [ju h];exact d h
def mL.cases{m:Bool}{q:Bool}{A B:Bool->Prop}(c:q=B4->A m)(d:q=B2->B m):mL m (.bool q) A B:=by
 cases q with
 |true=>exact c rfl
 |false=>exact d rfl
def vE.dec{m:Bool}{p:Prop}[Decidable p]{A B:Bool->Prop}(c:p->A m)(d:¬p->B m):vE m (decide p) A B:=by
 by_cases h:p
 .rw [ke h];exact c h
 .rw [ju h];exact d h
def vE.cases{m:Bool}{q:Bool}{A B:Bool->Prop}(c:q=B4->A m)(d:q=B2->B m):vE m q A B:=by
 cases q with
 |true=>exact c rfl
 |false=>exact d rfl
def mL.elim{m:Bool}{v:AV}{A B:Bool->Prop}(h:mL m v A B):∃q,v=.bool q/\(match q with|true=>A m|false=>B m):=by
 unfold mL at h
 grind
section
variable(M:ak)
structure Kp where
 ah:List Nat
 dm:Bool
 named:List Nat
def dM(K:List Nat)(E L:Env):Env:=B7 (motive:=λ _=>Env) E (λ p _ ih=>cond (bL p.1 K) (p::ih) ih) L
def sO(ds:List Nat)(E:Env):Env:=B7 (motive:=λ _=>Env) [] (λ p _ ih=>cond (bL p.1 ds) ih (p::ih)) E
def mf(L:Env):List Nat:=B7 (motive:=λ _=>List Nat) [] (λ p _ ih=>p.1::ih) L
abbrev KR:=Bool->Env->Env->ar->Prop
def TV(E L R:Env)(t:Nat)(g:Bool)(K:Bool->Env->AV->Prop):Prop :=
 PZ (motive:=λ _=>Prop) (PZ (motive:=λ _=>Prop) (LK g (lk E t) λ g v=>K g ((t,v)::R) v) (λ v=>K g R v) (lk R t)) (λ v=>K g R v) (lk L t)
def yC(E L:Env)(l:List bM):Bool->Env->(Bool->Env->List AV->Prop)->Prop:=B7 (motive:=λ _=>Bool->Env->(Bool->Env->List AV->Prop)->Prop) (λ g R K=>K g R [])
 (λ x _ ih g R K=>bM.casesOn x (λ t=>TV E L R t g λ g R v=>ih g R λ g R vs=>K g R (v::vs)) (λ v=>ih g R λ g R vs=>K g R (v::vs)) (λ b=>ih g R λ g R vs=>K g R (.ptr b 0::vs)) (λ f=>ih g R λ g R vs=>K g R (.fn (.func f) [] []::vs))) l
def C3(m:Bool)(f:mE)(vs:List AV)(H:ar)(K:Bool->AV->ar->Prop):Prop:=∃v H',uR M f vs H (.ret v) H'/\K m v H'
def P3(m:Bool)(X:aI->ar->Prop)(f:mE)(vs:List AV)(H:ar)(K:Bool->AV->ar->Prop):Prop:=∃e H',uR M f vs H e H'/\match e with
 | .ret v=>K m v H'
 | .panic c=>X c H'
@[congr]def ab7{M:ak}{m d:Bool}{f f':mE}{vs c:List AV}{H H':ar}{K:Bool->AV->ar->Prop}(hm:m=d)(i:f=f')(h:vs=c)(g:H=H'):C3 M m f vs H K=C3 M d f' c H' K:=by grind
@[congr]def ac2{M:ak}{m d:Bool}{X:aI->ar->Prop}{f f':mE}{vs c:List AV}{H H':ar}{K:Bool->AV->ar->Prop}(hm:m=d)(i:f=f')(h:vs=c)(g:H=H'):P3 M m X f vs H K=P3 M d X f' c H' K:=by grind
def V3(m:Bool)(vs:List AV)(K:Bool->mE->List AV->Prop):Prop:=match vs with
 | .fn (.func g) first cap::args=>K m (.func g) (first++(args++cap))
 | .fn (.yield l) first []::args=>K m (.yield l) (first++args)
 |_=>False
@[congr]def ab5{m d:Bool}{vs c:List AV}{K:Bool->mE->List AV->Prop}(hm:m=d)(h:vs=c):V3 m vs K=V3 d c K:=by grind
def GJ(g:Nat)(first cap args:List AV)(K:Bool->mE->List AV->Prop):V3 B4 (.fn (.func g) first cap::args) K=K B4 (.func g) (first++(args++cap)):=propext j9
def ac7(l:Nat)(first args:List AV)(K:Bool->mE->List AV->Prop):V3 B4 (.fn (.yield l) first []::args) K=K B4 (.yield l) (first++args):=propext j9
def N3(m:Bool)(name:String)(vs:List AV)(K:Bool->mE->List AV->Prop):Prop:=match vs with
 | .iface t v::args=>B3 m (M.kI t name) λ m g=>K m (.func g) (v::args)
 |_=>False
@[congr]def ac0{M:ak}{m d:Bool}{name:String}{vs c:List AV}{K:Bool->mE->List AV->Prop}(hm:m=d)(h:vs=c):N3 M m name vs K=N3 M d name c K:=by grind
def ad8(name:String)(t:Nat)(v:AV)(args:List AV)(K:Bool->mE->List AV->Prop):N3 M B4 name (.iface t v::args) K=B3 B4 (M.kI t name) λ m g=>K m (.func g) (v::args):=propext j9
def PX(ps:Option (List Nat))(ks:List Nat)(Q:aG)(E:Env)(D:List aN)(c:aI)(H:ar):Prop:=match ps with
 |some ds=>Q (.panic c) (sO ds (sO ks E)) D H
 |none=>False
def Fq(dm:Bool)(ps:Option (List Nat))(L:Env)(Q:aG)(E:Env)(D:List aN)(g:Bool)(f:mE)(vs:List AV)(H:ar)(K:Bool->AV->ar->Prop):Prop :=
 cond dm (P3 M g (PX ps (mf L) Q E D) f vs H K) (C3 M g f vs H K)
def vT(dm:Bool)(dst:Option Nat)(ps:Option (List Nat))(Q:aG)(E:Env)(D:List aN)(L R:Env)(H:ar)(K:KR)(g:Bool)(vs:List AV):fP->Prop
 | .pure f=>B3 g (f vs) λ g v=>K g (lI dst v L) R H
 | .read f=>B3 g (f vs H) λ g v=>K g (lI dst v L) R H
 | .alloc f=>jF g (f vs) λ g o mk=>K g (lI dst (mk H.au) L) R (H.alloc o)
 | .gT f=>jF g (f vs H) λ g v H=>K g (lI dst v L) R H
 | .ij f=>Fq M dm ps L Q E D g (.func f) vs H (λ g v H=>K g (lI dst v L) R H)
 | .iq=>V3 g vs λ g f vs=>Fq M dm ps L Q E D g f vs H (λ g v H=>K g (lI dst v L) R H)
 | .invoke name=>N3 M g name vs λ g f vs=>Fq M dm ps L Q E D g f vs H (λ g v H=>K g (lI dst v L) R H)
 | .panic=>cond dm (gH vs H (PX ps (mf L) Q E D)) False
 |_=>False
def Yr(L E:Env)(d:Nat):Option AV:=PZ (motive:=λ _=>Option AV) (lk E d) (λ v=>B1 v) (lk L d)
def Tg(dst:Option Nat)(E L R:Env)(H:ar)(K:KR)(g:Bool)(vs:List AV):fP->Prop
 | .read f=>match dst with
  |some d=>NF g (f vs H) (Yr L E d) λ g=>K g L R H
  |none=>False
 |_=>False
def IA(dm:Bool)(s:aP)(Q:aG)(E:Env)(D:List aN)(K:KR):KR:=λ g L R H =>
 yC E L s.args g R λ g R vs=>match s.iB with
  |false=>vT M dm s.dst s.cP Q E D L R H K g vs s.op
  |true=>Tg s.dst E L R H K g vs s.op
def pT(dm:Bool)(Q:aG)(E:Env)(D:List aN)(K:KR)(l:List aP):KR:=B7 (motive:=λ _=>KR) K (λ s _ ih=>IA M dm s Q E D ih) l
abbrev FW:=Option (Nat×Bool)×List aP
def sN:Option (Nat×Bool)->Option (Nat×Bool)->Bool
 |none,B5=>B4
 |some (t,b),B1 (u,c)=>cond (JW t u) (cond b c (!c)) B2
 |_,_=>B2
def Jj(l:List aP):List FW:=B7 (motive:=λ _=>List FW) [] (λ s _ ih=>List.casesOn (motive:=λ _=>List FW) ih [(s.guard,[s])] λ g r=>cond (sN g.1 s.guard) ((g.1,s::g.2)::r) ((s.guard,[s])::g::r)) l
def Q0(o:Option Nat)(t:Nat):Bool:=PZ (motive:=λ _=>Bool) B2 (λ d=>JW d t) o
def vS(t:Nat)(l:List aP):Bool:=B7 (motive:=λ _=>Bool) B4 (λ s _ ih=>cond (Q0 s.dst t) B2 (cond s.iB (cond s.dst.isSome ih B2) ih)) l
def CT(n:Nat):Type:=Nat.rec (motive:=λ _=>Type) (ar->Prop) (λ _ T=>AV->T) n
def rL(n:Nat):(List AV->ar->Prop)->CT n:=Nat.rec (motive:=λ n=>(List AV->ar->Prop)->CT n) (λ f=>f []) (λ _ ih f v=>ih λ l=>f (v::l)) n
def pQ(n:Nat):CT n->List AV->ar->Prop:=Nat.rec (motive:=λ n=>CT n->List AV->ar->Prop) (λ k _=>k) (λ _ ih k l=>List.casesOn (motive:=λ _=>ar->Prop) l (λ _=>False) λ v l=>ih (k v) l) n
def bA(l:List aP):List Nat->List Nat:=B7 (motive:=λ _=>List Nat->List Nat) (λ acc=>acc) (λ s _ ih acc=>ih (cond s.iB acc (PZ (motive:=λ _=>List Nat) acc (λ d=>d::acc) s.dst))) l
def lE(ks:List Nat)(L:Env):List AV->Env:=B7 (motive:=λ _=>List AV->Env) (λ _=>L) (λ k _ ih l=>List.casesOn (motive:=λ _=>Env) l L λ v l=>(k,v)::ih l) ks
def qL(n:Nat):Env->List AV:=Nat.rec (motive:=λ _=>Env->List AV) (λ _=>[]) (λ _ ih L=>List.casesOn (motive:=λ _=>List AV) L [] λ p L=>p.2::ih L) n
def sk(n:Nat):List AV:=Nat.rec (motive:=λ _=>List AV) [] (λ _ ih=>.undef::ih) n
def Sr(dm:Bool)(Q:aG)(E:Env)(D:List aN)(x:FW)(K:KR):KR:=λ g L R H=>match x.1 with
 |none=>pT M dm Q E D K x.2 g L R H
 |some q=>cond (vS q.1 x.2) (TV E L R q.1 g λ g R v=>JN (α:=Bool->CT (cV (bA x.2 [])))
  (λ k=>B3 g (cX q.2 (B1 v)) λ g w=>vE g w (λ g=>pT M dm Q E D (λ g L _ H=>pQ (cV (bA x.2 [])) (k g) (qL (cV (bA x.2 [])) L) H) x.2 g L R H) (λ g=>pQ (cV (bA x.2 [])) (k g) (sk (cV (bA x.2 []))) H))
  (λ g=>rL (cV (bA x.2 [])) λ vs H=>K g (lE (bA x.2 []) L vs) R H)) False
def xY(dm:Bool)(Q:aG)(E:Env)(D:List aN)(K:KR)(l:List FW):KR:=B7 (motive:=λ _=>KR) K (λ x _ ih=>Sr M dm Q E D x ih) l
def qR(dm:Bool)(Q:aG)(E:Env)(D:List aN)(l:List aP)(g:Bool)(H:ar)(K:KR):Prop:=xY M dm Q E D K (Jj l) g [] [] H
abbrev WX:=Bool->aG->Env->List aN->ar->Prop
def fq(X:WX)(Q:aG):aG:=λ e E D H=>match e with
 | .normal=>X B4 Q E D H
 |e=>Q e E D H
def fj(id:Nat)(Q:aG):aG:=λ e E D H=>match e with
 | .exit id'=>Q (cond (JW id id') .normal (.exit id')) E D H
 |e=>Q e E D H
def kM(b:ai)(Q:aG):aG:=λ e E D H=>match e with
 | .goto l=>FF b l=B2/\Q (.goto l) E D H
 |e=>Q e E D H
abbrev MG:=Nat->Env->List aN->ar->Prop
def LP3(I:MG)(n:Nat)(Q:aG):aG:=λ e E D H=>match e with
 | .normal=>∃m E',I m E' D H/\SS E' E/\m<n
 |e=>Q e E D H
def cu(X:WX)(Q:aG)(E:Env)(D:List aN)(H:ar):Prop :=
 ∃I:MG,(∃n E0,I n E0 D H/\SS E0 E) /\ ∀n E D H,I n E D H->X B4 (LP3 I n Q) E D H
def iP(ks:List Nat)(ctx:Ctx)(k:Nat)(E:Env)(D:List aN)(H:ar)(Q:aG)(v:AV):Prop :=
 ∀tm up,gw ks E tm->J4 M ctx k ⟨tm,D,up,H⟩ (λ e st=>st.up=up/\st.tm=tm/\Q e E st.aZ st.H) v
def OV(E:Env)(x:bM)(g:Bool)(K:Bool->AV->Prop):Prop:=match x with
 | .tmp t=>LK g (lk E t) K
 | .const v=>K g v
 | .eO b=>K g (.ptr b 0)
 | .func f=>K g (.fn (.func f) [] [])
def CV(E L R:Env)(x:bM)(g:Bool)(K:Bool->AV->Prop):Prop:=match x with
 | .tmp t=>TV E L R t g λ g _ v=>K g v
 | .const v=>K g v
 | .eO b=>K g (.ptr b 0)
 | .func f=>K g (.fn (.func f) [] [])
def W3(ctx:Ctx)(K:Kp):ai->Bool->aG->Env->List aN->ar->Prop
 | .skip,g,Q,E,D,H=>rG g Q .normal E D H
 | .label _,g,Q,E,D,H=>rG g Q .normal E D H
 | .exit id,g,Q,E,D,H=>rG g Q (.exit id) E D H
 | .goto l,g,Q,E,D,H=>rG g Q (.goto l) E D H
 | .ret,g,Q,E,D,H=>rG g Q .ret E D H
 | .stuck,_,_,_,_,_=>False
 | .region l,g,Q,E,D,H=>qR M K.dm Q E D l g H λ g L _ H=>rG g Q .normal (dM K.ah E L) D H
 | .seq a b,g,Q,E,D,H=>match a,b with
  | .region l,.cond c x y=>qR M K.dm Q E D l g H λ g L R H=>CV E L R c g λ g v=>mL g v (λ g=>W3 ctx K x g Q (dM K.ah E L) D H) (λ g=>W3 ctx K y g Q (dM K.ah E L) D H)
  | .region l,.seq (.cond c x y) r=>qR M K.dm Q E D l g H λ g L R H=>CV E L R c g λ g v=>mL g v (λ g=>W3 ctx K x g (fq (W3 ctx K r) Q) (dM K.ah E L) D H) (λ g=>W3 ctx K y g (fq (W3 ctx K r) Q) (dM K.ah E L) D H)
  | .region l,b=>qR M K.dm Q E D l g H λ g L _ H=>W3 ctx K b g Q (dM K.ah E L) D H
  |a,b=>W3 ctx K a g (fq (W3 ctx K b) Q) E D H
 | .cond c x y,g,Q,E,D,H=>OV E c g λ g v=>mL g v (λ g=>W3 ctx K x g Q E D H) (λ g=>W3 ctx K y g Q E D H)
 | .block id b,g,Q,E,D,H=>W3 ctx K b g (fj id Q) E D H
 | .scope b,g,Q,E,D,H=>W3 ctx K b g (kM b Q) E D H
 | .loop (B1 _) _,_,_,_,_,_=>False
 | .loop B5 b,g,Q,E,D,H=>cu (W3 ctx K b) Q E D H
 | .rangeFunc f k,g,Q,E,D,H=>OV E f g λ g v=>iP M K.ah ctx k E D H Q v
end
structure lS(E L R:Env)(tm:T AV):Prop where
 l:∀t v,lk L t=B1 v->tm.get t=B1 v
 r:∀t v,lk L t=B5->lk R t=B1 v->tm.get t=B1 v
 e:∀t v,lk L t=B5->lk E t=B1 v->tm.get t=B1 v
def lS.first{ks:List Nat}{E:Env}{tm:T AV}(h:gw ks E tm):lS E [] [] tm:=⟨λ _ _ h=>(by cases h),λ _ _ _ h=>(by cases h),λ t v _ c=>(h t v c).1⟩
theorem lS.put{E L R:Env}{tm:T AV}(h:lS E L R tm)(dst:Option Nat)(v:AV):lS E (lI dst v L) R (eM dst v tm):=by
 cases dst with
 |none=>exact h
 |some d =>
  show lS E ((d,v)::L) R (tm.set d v);refine⟨λ t w hw=>?_,λ t w hn hw=>?_,λ t w hn hw=>?_⟩
  .rw [xM]at hw;rw[T.aK];split at hw
   .grind
   .rename_i e;rw[qy e];exact h.l t w hw
  .rw [xM]at hn;rw[T.aK];split at hn
   .cases hn
   .rename_i e;rw[qy e];exact h.r t w hn hw
  .rw [xM]at hn;rw[T.aK];split at hn
   .cases hn
   .rename_i e;rw[qy e];exact h.e t w hn hw
def TV.elim{E L R:Env}{t:Nat}{g:Bool}{K:Bool->Env->AV->Prop}{tm:T AV}(hr:lS E L R tm)(h:TV E L R t g K):∃v d,tm.get t=B1 v/\lS E L d tm/\K g d v:=by
 unfold TV at h;cases hl:lk L t with
 |some v=>rw[hl]at h;exact⟨v,R,hr.l t v hl,hr,h⟩
 |none =>
  rw[hl]at h;cases c:lk R t with
  |some v=>rw[c]at h;exact⟨v,R,hr.r t v hl c,hr,h⟩
  |none =>
   rw[c]at h;have⟨v,f,h⟩:=LK.elim h;refine⟨v,_,hr.e t v hl f,⟨hr.l,λ u w hn hw=>?_,hr.e⟩,h⟩;rw[xM]at hw;split at hw
   .rename_i e;subst e;cases hw;exact hr.e t v hl f
   .exact hr.r u w hn hw
def NB{tm:T AV}:∀{l:List bM}{vs:List AV}{K:List AV->Prop},mF tm l=B1 vs->K vs->qA tm l K
 |[],vs,K,h,hk=>by cases h;exact hk
 |x::xs,vs,K,h,hk=>by
  simp only[mF,qj]at h;have⟨v,d,ws,f,g⟩:=h;cases g;cases x with
  |tmp t=>exact bR.intro (m:=aJ) d (NB f hk)
  |const c=>injection d with d;subst d;exact NB (K:=λ vs=>K (c::vs)) f hk
  |eO c=>cases d;exact NB (K:=λ vs=>K (_::vs)) f hk
  |func c=>cases d;exact NB (K:=λ vs=>K (_::vs)) f hk
def yC.elim{E L:Env}{tm:T AV}{g:Bool}:∀{l:List bM}{R:Env}{K:Bool->Env->List AV->Prop},lS E L R tm->yC E L l g R K -> ∃vs j,mF tm l=B1 vs/\lS E L j tm/\K g j vs
 |[],R,K,hr,h=>⟨[],R,rfl,hr,h⟩
 | .tmp t::xs,R,K,hr,h=>by
  have⟨v,o,m,i,h⟩:=TV.elim hr (show TV E L R t g (λ g R v=>yC E L xs g R λ g R vs=>K g R (v::vs))from h);have⟨vs,d,f,c,h⟩:=yC.elim i h;exact⟨v::vs,d,by simp[mF,rR,m,f],c,h⟩
 | .const v::xs,R,K,hr,h=>by
  have⟨vs,d,f,c,h⟩:=yC.elim (l:=xs) hr h;exact⟨v::vs,d,by simp[mF,rR,f],c,h⟩
 | .eO v::xs,R,K,hr,h=>by
  have⟨vs,d,f,c,h⟩:=yC.elim (l:=xs) hr h;exact⟨_,d,by simp[mF,rR,f],c,h⟩
 | .func v::xs,R,K,hr,h=>by
  have⟨vs,d,f,c,h⟩:=yC.elim (l:=xs) hr h;exact⟨_,d,by simp[mF,rR,f],c,h⟩
def Sg(ds:List Nat):∀(E:Env)(t:Nat),lk (sO ds E) t=if bL t ds then B5 else lk E t
 |[],t=>by simp[sO,Dv]
 |(k,v)::r,t=>by
  show lk (cond (bL k ds) (sO ds r) ((k,v)::sO ds r)) t=_;cases hm:bL k ds with
  |true =>
   rw[xt,Sg ds r,xM]
   grind
  |false =>
   rw[zn,xM,Sg ds r,xM]
   grind
def g_:∀(L:Env)(t:Nat),bL t (mf L)=B2->lk L t=B5
 |[],t,_=>rfl
 |(k,v)::r,t,h=>by
  have h:cond (JW k t) B4 (bL t (mf r))=false:=h;rw[xM];cases hb:JW k t with
  |true=>grind
  |false=>rw[hb,zn]at h;rw[qy (Nat.ne_of_beq_eq_false hb)];exact g_ r t h
def Z7{t:Nat}:∀{l:List Nat},t∈l->bL t l=B4
 |x::r,h=>by
  show cond (JW x t) B4 (bL t r)=B4;cases hb:JW x t with
  |true=>rfl
  |false =>
   rw[zn];rcases kw.1 h with e|h
   .simp_all
   .exact Z7 h
def q4n:∀(ds:List Nat)(tm:T AV)(t:Nat),t∉ds->(forget ds tm).get t=tm.get t
 |[],tm,t,_=>rfl
 |d::ds,tm,t,h=>by
  show(forget ds (tm.put d B5)).get t=_;rw[q4n ds _ t (by grind),T.kO,qy (λ e=>h (by rw[e];exact I7 ..))]
def QQ(ks:List Nat)(Q:aG)(up:Option aI):cR:=λ e st=>st.up=up /\ ∃E',gw ks E' st.tm/\Q e E' st.aZ st.H
section
variable{M:ak}{ctx:Ctx}{dm:Bool}{Q:aG}{E:Env}{D:List aN}{up:Option aI}
theorem PX.Jg{Z:cR}(hp:∀c tm H g,(∀t v,lk g t=B1 v->tm.get t=B1 v/\lk E t=B1 v)->Q (.panic c) g D H->Z (.panic c) ⟨tm,D,up,H⟩){f:Option (List Nat)}{L R:Env}{tm:T AV}(hr:lS E L R tm){c:aI}{H:ar}(h:PX f (mf L) Q E D c H):AJ f tm D up Z c H:=by
 cases f with
 |none=>exact h
 |some ds =>
  refine hp _ _ _ _ (λ t v d=>?_) h;rw[Sg,Sg]at d;split at d
  .cases d
  .rename_i i;split at d
   .cases d
   .rename_i j;rw[q4n ds tm t (λ q=>i (Z7 q))];exact⟨hr.e t v (g_ L t (by simpa using j)) d,d⟩
theorem Fq.EB{Z:cR}(hp:∀c tm H j,(∀t v,lk j t=B1 v->tm.get t=B1 v/\lk E t=B1 v)->Q (.panic c) j D H->Z (.panic c) ⟨tm,D,up,H⟩){i:Option (List Nat)}{L R:Env}{tm:T AV}(hr:lS E L R tm){g:Bool}{f:mE}{vs:List AV}{H:ar}{K:Bool->AV->ar->Prop}{K':AV->ar->Prop}
 (h:Fq M dm i L Q E D g f vs H K) (hk:∀v H,K g v H->K' v H):nZ M aJ f vs H K' (AJ i tm D up Z):=by
 cases dm with
 |false =>
  have⟨v,H',d,l⟩:=(show C3 M g f vs H K from h)
  exact⟨_,H',d,hk _ _ l⟩
 |true =>
  have⟨e,H',d,l⟩:=(show P3 M g (PX i (mf L) Q E D) f vs H K from h)
  refine⟨_,H',d,?_⟩
  grind [PX.Jg]
def IA.body{Z:cR}(hp:∀c tm H x,(∀t v,lk x t=B1 v->tm.get t=B1 v/\lk E t=B1 v)->Q (.panic c) x D H->Z (.panic c) ⟨tm,D,up,H⟩){s:aP}{K:KR}{g:Bool}{L R R0:Env}{tm:T AV}{H:ar}(hr:lS E L R tm)(r:lS E L R0 tm)(h:IA M dm s Q E D K g L R H){KK:St->Prop}
 (C:∀j y i H',(s.iB=B4/\j=L/\i=tm \/ ∃v,s.iB=B2/\j=lI s.dst v L/\i=eM s.dst v tm)->lS E j y i->lS E j R0 i->K g j y H'->KK ⟨i,D,up,H'⟩) :
 match s.iB with
 |false=>qA tm s.args λ vs=>pX M ctx s.dst s.cP ⟨tm,D,up,H⟩ Z KK vs s.op
 |true=>qA tm s.args λ vs=>OY s.dst ⟨tm,D,up,H⟩ vs s.op/\KK ⟨tm,D,up,H⟩:=by
 have⟨iB,dst,guard,args,op,u⟩:=s;have⟨vs,p,z,q,h⟩:=yC.elim hr h;cases iB with
 |true =>
  refine NB z ?_;have h:Tg dst E L p H K g vs op:=h;cases op with
  |read f =>
   cases dst with
   |none=>exact h.elim
   |some d =>
    have h:NF g (f vs H) (Yr L E d) (λ g=>K g L p H):=h;have⟨⟨v,e1,e2⟩,h⟩:=h;refine⟨?_,(by grind)⟩;refine bR.intro (m:=aJ) e1 (bR.intro (m:=aJ) (a:=v) ?_ rfl);unfold Yr at e2;cases hl:lk L d with
    |some w=>rw[hl]at e2;injection e2 with e2;subst e2;exact hr.l d w hl
    |none=>rw[hl]at e2;exact hr.e d v hl e2
  |_=>exact h.elim
 |false =>
  have put:∀v H',K g (lI dst v L) p H'->KK ⟨eM dst v tm,D,up,H'⟩:=λ v H' hk=>C _ p _ H' (by grind) (q.put dst v) (r.put dst v) hk;refine NB z ?_;have h:vT M dm dst u Q E D L p H K g vs op:=h;cases op with
  |pure f=>simp only[vT]at h;have⟨v,e,h⟩:=B3.elim h;exact bR.intro (m:=aJ) e (put _ _ h)
  |read f=>simp only[vT]at h;have⟨v,e,h⟩:=B3.elim h;exact bR.intro (m:=aJ) e (put _ _ h)
  |alloc f=>simp only[vT]at h;simp only[pX];have⟨o,mk,e,h⟩:=jF.elim h;exact iY.intro (m:=aJ) e (put _ _ h)
  |gT f=>simp only[vT]at h;simp only[pX];have⟨v,H',e,h⟩:=jF.elim h;exact iY.intro (m:=aJ) e (put _ _ h)
  |ij f=>exact Fq.EB hp q h λ v H' hk=>put v H' hk
  |iq =>
   simp only[vT,V3]at h
   grind [pX,N8,Fq.EB]
  |invoke n =>
   simp only[vT,N3]at h;simp only[pX,N5];split at h
   .have ⟨f,e,h⟩:=B3.elim h;exact bR.intro (m:=aJ) e ((by grind [Fq.EB]))
   grind
  |recover=>exact ND h
  |defer=>exact ND h
  |panic =>
   cases dm with
   |false=>exact ND h
   |true =>
    have h:gH vs H (PX u (mf L) Q E D):=h;show gH vs H (AJ u tm D up Z);unfold gH at h⊢
    grind [PX.Jg]
def Np(g:Option (Nat×Bool))(l:List aP):Prop:=∀s∈l,s.guard=g
def pT.free{Z:cR}(hp:∀c tm H f,(∀t v,lk f t=B1 v->tm.get t=B1 v/\lk E t=B1 v)->Q (.panic c) f D H->Z (.panic c) ⟨tm,D,up,H⟩){K:KR}{g:Bool}{R0:Env}{rest:List aP}(i:∀L R tm H,lS E L R tm->lS E L R0 tm->K g L R H->oI M ctx rest ⟨tm,D,up,H⟩ Z) :
 ∀{l:List aP}{L R:Env}{tm:T AV}{H:ar},Np B5 l->lS E L R tm->lS E L R0 tm->pT M dm Q E D K l g L R H->oI M ctx (l++rest) ⟨tm,D,up,H⟩ Z
 |[],L,R,tm,H,_,hr,hr0,h=>i _ _ _ _ hr hr0 h
 |s::l,L,R,tm,H,hg,hr,hr0,h=>by
  rw[Jo,ZI];have hs:s.guard=none:=hg s (I7 ..);have:=IA.body hp (ctx:=ctx) (up:=up) (KK:=λ d=>oI M ctx (l++rest) d Z) hr hr0 (show IA M dm s Q E D (pT M dm Q E D K l) g L R H from h)
   λ r u q H' _ m o p=>pT.free hp i (λ x j=>hg x (List.mem_cons_of_mem _ j)) m o p
  have⟨iB,dst,guard,args,op,w⟩:=s;subst hs;cases iB<;>exact this
theorem Yi:∀(n:Nat)(f:List AV->ar->Prop)(l:List AV)(H:ar),l.length=n->pQ n (rL n f) l H=f l H
 |0,f,[],H,_=>rfl
 |n+1,f,v::l,H,h=>Yi n (λ l=>f (v::l)) l H (by simpa using h)
 |0,f,_::_,H,h=>by cases h
 |n+1,f,[],H,h=>by cases h
def af1{α:Type}(l:List α):cV l=l.length:=by
 induction l with
 |nil=>rfl
 |cons x l ih=>grind [cV]
theorem xhm:∀(ks:List Nat)(L:Env)(vs:List AV),vs.length=ks.length->qL ks.length (lE ks L vs)=vs
 |[],L,[],_=>rfl
 |k::ks,L,v::vs,h=>by
  show v::qL ks.length (lE ks L vs)=_;rw[xhm ks L vs (by simpa using h)]
 |[],L,_::_,h=>by cases h
 |_::_,L,[],h=>by cases h
def _s:∀n,(sk n).length=n
 |0=>rfl
 |n+1=>by show(sk n).length+1=_;rw[_s n]
def pT.under{Z:cR}(hp:∀c tm H u,(∀t v,lk u t=B1 v->tm.get t=B1 v/\lk E t=B1 v)->Q (.panic c) u D H->Z (.panic c) ⟨tm,D,up,H⟩){K:KR}{g:Bool}{R0:Env}{rest:List aP}{t:Nat}{b:Bool}{v:AV}(hw:cX b (B1 v)=B1 B4){kf:List Nat}{L0:Env}(y:∀vs R tm H,vs.length=kf.length->lS E (lE kf L0 vs) R tm->lS E (lE kf L0 vs) R0 tm->K g (lE kf L0 vs) R H->oI M ctx rest ⟨tm,D,up,H⟩ Z) :
 ∀{l:List aP}{acc:List Nat}{us:List AV}{L R:Env}{tm:T AV}{H:ar},bA l acc=kf->us.length=acc.length->L=lE acc L0 us->Np (B1 (t,b)) l->vS t l=B4->tm.get t=B1 v->lS E L R tm->lS E L R0 tm->pT M dm Q E D K l g L R H->oI M ctx (l++rest) ⟨tm,D,up,H⟩ Z
 |[],acc,us,L,R,tm,H,e1,e2,e3,_,_,_,hr,hr0,h=>by
  have e1:acc=kf:=e1;subst e1;subst e3;exact y _ _ _ _ e2 hr hr0 h
 |s::l,acc,us,L,R,tm,H,e1,e2,e3,hg,ho,ht,hr,hr0,h=>by
  rw[Jo,ZI];have hs:s.guard=B1 (t,b):=hg s (I7 ..);have ho:cond (Q0 s.dst t) B2 (cond s.iB (cond s.dst.isSome (vS t l) B2) (vS t l))=true:=ho;have o:Q0 s.dst t=false:=by grind
  rw[o,zn]at ho;have q:vS t l=true:=by
   grind
  have:=IA.body hp (ctx:=ctx) (up:=up) (KK:=λ r=>oI M ctx (l++rest) r Z) hr hr0 (show IA M dm s Q E D (pT M dm Q E D K l) g L R H from h)
   λ F U S H' C J N O=>by
    have e1:bA l (cond s.iB acc (PZ (motive:=λ _=>List Nat) acc (λ d=>d::acc) s.dst))=kf:=e1;obtain⟨f,i,j⟩:∃f,f.length=(cond s.iB acc (PZ (motive:=λ _=>List Nat) acc (λ d=>d::acc) s.dst)).length/\F=lE (cond s.iB acc (PZ (motive:=λ _=>List Nat) acc (λ d=>d::acc) s.dst)) L0 f:=by
     rcases C with⟨z,rfl,_⟩|⟨w,z,rfl,_⟩
     .grind
     .rw [z];cases s.dst with
      |none=>exact⟨us,e2,e3⟩
      |some d=>exact⟨w::us,by simpa using e2,by rw[e3];rfl⟩
    exact pT.under hp hw y e1 i j (λ x G=>hg x (List.mem_cons_of_mem _ G)) q (by
     rcases C with⟨_,_,rfl⟩|⟨w,_,_,rfl⟩
     .exact ht
     .cases p:s.dst with
      |none=>exact ht
      |some d =>
       rw[p]at o;show(tm.set d w).get t=_;rw[T.aK,qy (Nat.ne_of_beq_eq_false o)];exact ht) J N O
  have⟨iB,dst,guard,args,op,V⟩:=s;subst hs;have e:cX b (tm.get t)=B1 true:=by grind
  cases iB with
  |false=>exact bR.intro (m:=aJ) e this
  |true=>exact bR.intro (m:=aJ) e this
def pT.over{Z:cR}{R0:Env}{rest:List aP}{t:Nat}{b:Bool}{v:AV}(hw:cX b (B1 v)=B1 B2){kf:List Nat}{L0:Env}{H:ar}(j:∀tm,lS E (lE kf L0 (sk kf.length)) R0 tm->oI M ctx rest ⟨tm,D,up,H⟩ Z) :
 ∀{l:List aP}{acc:List Nat}{tm:T AV},bA l acc=kf->Np (B1 (t,b)) l->vS t l=B4->tm.get t=B1 v->lS E (lE acc L0 (sk acc.length)) R0 tm->oI M ctx (l++rest) ⟨tm,D,up,H⟩ Z
 |[],acc,tm,e1,_,_,_,hr0=>by
  have e1:acc=kf:=e1
  grind
 |s::l,acc,tm,e1,hg,ho,ht,hr0=>by
  rw[Jo,ZI];have hs:s.guard=B1 (t,b):=hg s (I7 ..);have ho:cond (Q0 s.dst t) B2 (cond s.iB (cond s.dst.isSome (vS t l) B2) (vS t l))=true:=ho;have i:Q0 s.dst t=false:=by grind
  rw[i,zn]at ho;have e:cX b (tm.get t)=B1 false:=by grind
  have g:Np (B1 (t,b)) l:=λ x o=>hg x (List.mem_cons_of_mem _ o);have e1:bA l (cond s.iB acc (PZ (motive:=λ _=>List Nat) acc (λ d=>d::acc) s.dst))=kf:=e1;cases h:s.iB with
  |true =>
   rw[h]at ho e1;cases f:s.dst.isSome with
   |false=>grind
   |true =>
    rw[f]at ho;have:=pT.over hw j e1 g ho ht hr0;have⟨iB,dst,guard,args,op,p⟩:=s;subst hs;subst h;exact bR.intro (m:=aJ) e ⟨f,this⟩
  |false =>
   rw[h]at ho e1;have:=pT.over hw j (tm:=eM s.dst .undef tm) e1 g ho (by
    cases c:s.dst with
     |none=>exact ht
     |some d =>
      rw[c]at i;show(tm.set d _).get t=_;rw[T.aK,qy (Nat.ne_of_beq_eq_false i)];exact ht) (by
    have:=hr0.put s.dst .undef;cases c:s.dst with
     |none=>rw[c]at this;exact this
     |some d=>rw[c]at this;exact this)
   have⟨iB,dst,guard,args,op,p⟩:=s;subst hs;subst h;exact bR.intro (m:=aJ) e this
theorem af4{a b:Option (Nat×Bool)}(h:sN a b=B4):a=b:=by
 cases a with
 |none=>cases b with
  |none=>rfl
  |some _=>cases h
 |some p=>cases b with
  |none=>cases h
  |some q =>
   have⟨t,x⟩:=p;have⟨u,y⟩:=q;have h:cond (JW t u) (cond x y (!y)) B2=true:=h
   grind [Mh]
def Cl:∀(l:List aP),(Jj l).flatMap (·.2)=l /\ ∀x∈Jj l,Np x.1 x.2
 |[]=>⟨rfl,λ x c=>by cases c⟩
 |s::l=>by
  have⟨d,h⟩:=Cl l;have e:Jj (s::l)=List.casesOn (motive:=λ _=>List FW) (Jj l) [(s.guard,[s])] λ g r=>cond (sN g.1 s.guard) ((g.1,s::g.2)::r) ((s.guard,[s])::g::r):=rfl;rw[e];cases hg:Jj l with
  |nil =>
   rw[hg]at d;exact⟨by simpa using d,λ x c=>by simp at c;subst c;intro y f;grind⟩
  |cons g r =>
   rw[hg]at d h;show(cond (sN g.1 s.guard) ((g.1,s::g.2)::r) ((s.guard,[s])::g::r)).flatMap _=_ /\ ∀x∈cond (sN g.1 s.guard) ((g.1,s::g.2)::r) ((s.guard,[s])::g::r),_;cases hs:sN g.1 s.guard with
   |true =>
    refine⟨by simpa using d,λ x c=>?_⟩;rcases kw.1 c with rfl|c
    .intro y f;rcases kw.1 f with rfl|f
     .grind [af4]
     .exact h g (I7 ..) y f
    grind
   |false =>
    refine⟨by simpa using d,λ x c=>?_⟩;rcases kw.1 c with rfl|c
    .intro y f;grind
    grind
def xY.Ql{Z:cR}(hp:∀c tm H j,(∀t v,lk j t=B1 v->tm.get t=B1 v/\lk E t=B1 v)->Q (.panic c) j D H->Z (.panic c) ⟨tm,D,up,H⟩){K:KR}{g:Bool}(m:∀L R tm H,lS E L R tm->K g L R H->Z .normal ⟨tm,D,up,H⟩):∀{gs:List FW}{L R:Env}{tm:T AV}{H:ar},(∀x∈gs,Np x.1 x.2)->lS E L R tm->xY M dm Q E D K gs g L R H ->
 oI M ctx (gs.flatMap (·.2)) ⟨tm,D,up,H⟩ Z
 |[],L,R,tm,H,_,hr,h=>m _ _ _ _ hr h
 |x::gs,L,R,tm,H,hg,hr,h=>by
  rw[j6];have r:∀L R tm H,lS E L R tm->xY M dm Q E D K gs g L R H->oI M ctx (gs.flatMap (·.2)) ⟨tm,D,up,H⟩ Z:=λ L R tm H hr h=>xY.Ql hp m (by grind) hr h;have i:=hg x (I7 ..);have⟨q,l⟩:=x;cases q with
  |none=>exact pT.free hp (R0:=R) (by grind) i hr hr (show pT M dm Q E D (xY M dm Q E D K gs) l g L R H from h)
  |some q =>
   have⟨t,b⟩:=q;cases ho:vS t l with
   |false =>
    have h:cond (vS t l) _ False:=h
    grind
   |true =>
    have h:cond (vS t l) _ False:=h;rw[ho,xt]at h;have⟨v,f,o,d,h⟩:=TV.elim hr h;have kl:cV (bA l [])=(bA l []).length:=af1 _;have h:B3 g (cX b (B1 v)) λ g w=>vE g w (λ g=>pT M dm Q E D (λ g p _ H=>pQ (cV (bA l [])) (rL (cV (bA l [])) λ vs H=>xY M dm Q E D K gs g (lE (bA l []) L vs) f H) (qL (cV (bA l [])) p) H) l g L f H)
     (λ g=>pQ (cV (bA l [])) (rL (cV (bA l [])) λ vs H=>xY M dm Q E D K gs g (lE (bA l []) L vs) f H) (sk (cV (bA l []))) H):=h
    have⟨w,hw,h⟩:=B3.elim h;cases w with
    |true =>
     refine pT.under hp (R0:=f) hw (kf:=bA l []) (L0:=L) (λ vs R tm H q u s y=>?_) (acc:=[]) (us:=[]) rfl rfl rfl i ho o d d h
     grind [xhm,Yi]
    |false =>
     have h:pQ (cV (bA l [])) (rL (cV (bA l [])) λ vs H=>xY M dm Q E D K gs g (lE (bA l []) L vs) f H) (sk (cV (bA l []))) H:=h;rw[kl,Yi _ _ _ _ (_s _)]at h;exact pT.over hw (kf:=bA l []) (L0:=L) (by grind) (acc:=[]) rfl i ho o d
def qR.Ql{Z:cR}(hp:∀c tm H d,(∀t v,lk d t=B1 v->tm.get t=B1 v/\lk E t=B1 v)->Q (.panic c) d D H->Z (.panic c) ⟨tm,D,up,H⟩){l:List aP}{g:Bool}{H:ar}{K:KR}{tm:T AV}{ks:List Nat}(he:gw ks E tm)(h:qR M dm Q E D l g H K)(i:∀L R tm H,lS E L R tm->K g L R H->Z .normal ⟨tm,D,up,H⟩):oI M ctx l ⟨tm,D,up,H⟩ Z:=by
 have⟨j,f⟩:=Cl l;have:=xY.Ql hp (ctx:=ctx) i f (lS.first he) h
 grind
end
end
end Go.Am
namespace Go.Am
noncomputable section
variable{M:ak}{ctx:Ctx}{K:Kp}
def Y6(ks:List Nat)(E:Env):∀(L:Env)(t:Nat)(v:AV),bL t ks=B4->lk (dM ks E L) t=B1 v->lk L t=B1 v\/lk L t=B5/\lk E t=B1 v
 |[],t,v,_,h=>.inr ⟨rfl,h⟩
 |(k,w)::r,t,v,ht,h=>by
  have h:lk (cond (bL k ks) ((k,w)::dM ks E r) (dM ks E r)) t=B1 v:=h;rw[xM];cases hm:bL k ks with
  |true =>
   rw[hm,xt,xM]at h;split at h
   .grind
   .rename_i e;rw[qy e];exact Y6 ks E r t v ht h
  |false =>
   rw[hm,zn]at h
   by_cases e:k=t
   .grind
   .rw [qy e];exact Y6 ks E r t v ht h
def XW(ks:List Nat)(E:Env)(c:∀t v,lk E t=B1 v->bL t ks=B4):∀(L:Env)(t:Nat)(v:AV),lk (dM ks E L) t=B1 v->bL t ks=B4
 |[],t,v,h=>c t v h
 |(k,w)::r,t,v,h=>by
  have h:lk (cond (bL k ks) ((k,w)::dM ks E r) (dM ks E r)) t=B1 v:=h;cases hm:bL k ks with
  |true =>
   rw[hm,xt,xM]at h;split at h
   .grind
   .exact XW ks E c r t v h
  |false=>rw[hm,zn]at h;exact XW ks E c r t v h
def lS.ah{E L R:Env}{tm:T AV}(h:lS E L R tm){ks:List Nat}(d:∀t v,lk E t=B1 v->bL t ks=B4):gw ks (dM ks E L) tm:=λ t v c=>by
 have hm:=XW ks E d L t v c;refine⟨?_,hm⟩;rcases Y6 ks E L t v hm c with q|⟨f,g⟩
 .exact h.l t v q
 .exact h.e t v f g
def gw.keys{ks:List Nat}{E:Env}{tm:T AV}(h:gw ks E tm):∀t v,lk E t=B1 v->bL t ks=true:=λ t v c=>(h t v c).2
def gw.dm{ks:List Nat}{E d:Env}{tm c:T AV}(h:gw ks E tm)(f:∀t v,lk d t=B1 v->c.get t=B1 v/\lk E t=B1 v):gw ks d c:=λ t v g=>⟨(f t v g).1,(h t v (f t v g).2).2⟩
def TV.cv{E L R:Env}{x:bM}{g:Bool}{P:Bool->AV->Prop}{tm:T AV}(hr:lS E L R tm)(h:CV E L R x g P):∃v,rR tm x=B1 v/\P g v:=by
 cases x with
 |tmp t=>have⟨v,_,c,_,d⟩:=TV.elim hr (show TV E L R t g (λ g _ v=>P g v)from h);exact⟨v,c,d⟩
 |const v=>exact⟨v,rfl,h⟩
 |eO v=>exact⟨_,rfl,h⟩
 |func v=>exact⟨_,rfl,h⟩
def OV.elim{ks:List Nat}{E:Env}{x:bM}{g:Bool}{P:Bool->AV->Prop}{tm:T AV}(hr:gw ks E tm)(h:OV E x g P):∃v,rR tm x=B1 v/\P g v:=by
 cases x with
 |tmp t=>have⟨v,c,d⟩:=LK.elim (show LK g (lk E t) P from h);exact⟨v,(hr t v c).1,d⟩
 |const v=>exact⟨v,rfl,h⟩
 |eO v=>exact⟨_,rfl,h⟩
 |func v=>exact⟨_,rfl,h⟩
def xbf{tm:T AV}{x:bM}{v:AV}{P:AV->Prop}(h:rR tm x=B1 v)(hp:P v):Fk tm x P:=by
 cases x with
 |tmp t=>exact bR.intro (m:=aJ) h hp
 |const c=>cases h;exact hp
 |eO c=>cases h;exact hp
 |func c=>cases h;exact hp
def mL.wp{a b:ai}{g:Bool}{v:AV}{A B:Bool->Prop}{tm:T AV}{c:bM}{st:St}{Q:cR}(d:rR st.tm c=B1 v)(h:mL g v A B)(ha:A g->WP M ctx a st Q)(hb:B g->WP M ctx b st Q):WP M ctx (.cond c a b) st Q:=by
 obtain⟨q,rfl,h⟩:=h.elim;refine xbf d ?_;cases q with
 |true=>exact ha h
 |false=>exact hb h
def fD:ai->Nat
 | .seq a b=>fD a+fD b+1
 | .cond _ a b=>fD a+fD b+1
 | .block _ b=>fD b+1
 | .loop _ b=>fD b+1
 | .scope b=>fD b+1
 |_=>0
def W3.wp:∀(n:Nat)(c:ai),fD c<=n -> ∀{g:Bool}{Q:aG}{E:Env}{D:List aN}{H:ar}{tm:T AV}{up:Option aI},W3 M ctx K c g Q E D H->gw K.ah E tm->WP M ctx c ⟨tm,D,up,H⟩ (QQ K.ah Q up):=by
 intro n
 induction n with
 |zero =>
  intro c hc g Q E D H tm up h he;cases c with
  |skip=>exact⟨rfl,E,he,h⟩
  |label _=>exact⟨rfl,E,he,h⟩
  |exit _=>exact⟨rfl,E,he,h⟩
  |goto _=>exact⟨rfl,E,he,h⟩
  |ret=>exact⟨rfl,E,he,h⟩
  |stuck=>exact ND h
  |region l=>exact qR.Ql (λ c w H' j p i=>⟨rfl,j,he.dm p,i⟩) he (show qR M K.dm Q E D l g H _ from h) λ L R tm H hr hk=>⟨rfl,_,hr.ah he.keys,hk⟩
  |rangeFunc f k =>
   have⟨v,s,h⟩:=OV.elim he (show OV E f g _ from h);exact xbf s (by
    have:=h tm up he;unfold J4 at this⊢;split
    .rename_i hr;rw[hr]at this;exact OA this λ e st⟨p,i,o⟩=>⟨p,E,by rw[i];exact he,o⟩
    .rename_i l hr;rw[hr]at this;exact Ga (m:=aJ) this λ d q=>OA q λ e st⟨p,i,o⟩=>⟨p,E,by rw[i];exact he,o⟩)
  |seq _ _=>grind [fD]
  |cond _ _ _=>grind [fD]
  |block _ _=>grind [fD]
  |loop _ _=>grind [fD]
  |scope _=>grind [fD]
 |succ n ih =>
  intro c hc g Q E D H tm up h he;have t:∀{a b:ai}{tm:T AV}{H:ar},fD b<=n->WP M ctx a ⟨tm,D,up,H⟩ (QQ K.ah (fq (W3 M ctx K b) Q) up)->WP M ctx a ⟨tm,D,up,H⟩ (DW (WP M ctx b) (QQ K.ah Q up)):=λ{a b tm H}hb h=>pW h λ e st⟨p,j,i,o⟩=>by
   have⟨w,D',U,H'⟩:=st;subst p;cases e with
   |normal=>exact ih b hb o i
   |exit _=>exact⟨rfl,j,i,o⟩
   |goto _=>exact⟨rfl,j,i,o⟩
   |ret=>exact⟨rfl,j,i,o⟩
   |panic _=>exact⟨rfl,j,i,o⟩
  have z:∀{c:bM}{x y:ai}{E:Env}{tm:T AV}{v:AV}{g:Bool}{Q:aG}{H:ar},fD x<=n->fD y<=n->rR tm c=B1 v->gw K.ah E tm->mL g v (λ g=>W3 M ctx K x g Q E D H) (λ g=>W3 M ctx K y g Q E D H)->WP M ctx (.cond c x y) ⟨tm,D,up,H⟩ (QQ K.ah Q up) :=
   λ{c x y E tm v g Q H}hx hy s he h=>mL.wp (tm:=tm) (st:=⟨tm,D,up,H⟩) s h (by grind) (by grind)
  cases c with
  |seq a b =>
   have O:fD a+fD b<=n:=by grind [fD]
   have gen:W3 M ctx K a g (fq (W3 M ctx K b) Q) E D H->WP M ctx (.seq a b) ⟨tm,D,up,H⟩ (QQ K.ah Q up):=λ h=>t (a:=a) (b:=b) (by omega) (ih a (by omega) h he);have pG:∀(l:List aP)(N:KR),a=.region l->qR M K.dm Q E D l g H N->(∀L R tm H,lS E L R tm->N g L R H->WP M ctx b ⟨tm,D,up,H⟩ (QQ K.ah Q up))->WP M ctx (.seq a b) ⟨tm,D,up,H⟩ (QQ K.ah Q up):=λ l N e Y hk=>by
    subst e;exact qR.Ql (Z:=DW (WP M ctx b) (QQ K.ah Q up)) (λ c w H' j p i=>⟨rfl,j,he.dm p,i⟩) he Y hk
   cases a with
   |region l =>
    have plain:(qR M K.dm Q E D l g H λ g L _ H=>W3 M ctx K b g Q (dM K.ah E L) D H)->WP M ctx (.seq (.region l) b) ⟨tm,D,up,H⟩ (QQ K.ah Q up):=λ h=>pG l _ rfl h λ L R tm H hr hk=>ih b (by omega) hk (hr.ah he.keys);cases b with
    |cond c x y =>
     have S:fD x+fD y+1<=n:=by grind [fD]
     refine pG l _ rfl h λ L R tm H hr hk=>?_;have⟨v,s,hk⟩:=TV.cv hr hk;exact z (by omega) (by omega) s (hr.ah he.keys) hk
    |seq b1 r =>
     cases b1 with
     |cond c x y =>
      have S:fD x+fD y+1+fD r+1<=n:=by grind [fD]
      refine pG l _ rfl h λ L R tm H hr hk=>?_;have⟨v,s,hk⟩:=TV.cv hr hk;exact t (by omega) (z (by omega) (by omega) s (hr.ah he.keys) hk)
     |_=>exact plain h
    |_=>exact plain h
   |_=>exact gen h
  |cond c x y =>
   have O:fD x+fD y<=n:=by grind [fD]
   have⟨v,s,h⟩:=OV.elim he (show OV E c g _ from h)
   grind
  |block id b =>
   have hb:fD b<=n:=by grind [fD]
   exact pW (c:=b) (ih b hb (show W3 M ctx K b g (fj id Q) E D H from h) he) λ e st⟨p,j,i,o⟩=>by cases e<;>exact⟨p,j,i,o⟩
  |scope b =>
   have hb:fD b<=n:=by grind [fD]
   refine pW (c:=b) (ih b hb (show W3 M ctx K b g (kM b Q) E D H from h) he) λ e st⟨p,j,i,o⟩=>?_;cases e with
   |goto l=>exact⟨o.1,p,j,i,o.2⟩
   |normal=>exact⟨p,j,i,o⟩
   |exit _=>exact⟨p,j,i,o⟩
   |ret=>exact⟨p,j,i,o⟩
   |panic _=>exact⟨p,j,i,o⟩
  |loop ah b =>
   have hb:fD b<=n:=by grind [fD]
   cases ah with
   |some _=>exact ND h
   |none =>
    have⟨I,⟨n0,V,h0,hs⟩,u⟩:=(show cu (W3 M ctx K b) Q E D H from h)
    refine⟨λ n st=>st.up=up /\ ∃j,gw K.ah j st.tm/\I n j st.aZ st.H,⟨n0,rfl,V,hs.sub he,h0⟩,λ n st⟨p,j,i,o⟩=>?_⟩;have⟨w,D',U,H'⟩:=st;subst p;refine pW (c:=b) (ih b hb (u n j D' H' o) i) λ e st⟨C,J,F,G⟩=>?_;cases e with
    |normal=>have⟨m,W,q1,q2,q3⟩:=G;exact⟨m,q3,C,W,q2.sub F,q1⟩
    |exit _=>exact⟨C,J,F,G⟩
    |goto _=>exact⟨C,J,F,G⟩
    |ret=>exact⟨C,J,F,G⟩
    |panic _=>exact⟨C,J,F,G⟩
  |skip=>exact⟨rfl,E,he,h⟩
  |label _=>exact⟨rfl,E,he,h⟩
  |exit _=>exact⟨rfl,E,he,h⟩
  |goto _=>exact⟨rfl,E,he,h⟩
  |ret=>exact⟨rfl,E,he,h⟩
  |stuck=>exact ND h
  |region l=>exact ih _ (xw _) h he
  |rangeFunc f k=>exact ih _ (xw _) h he
def jE(E:Env)(H:ar):List eE->(List AV->Prop)->Prop
 |[],P=>P []
 | .tmp t::rs,P=>LK B4 (lk E t) λ _ v=>jE E H rs λ vs=>P (v::vs)
 | .kT a::rs,P=>LK B4 (lk E a) λ _ v=>B3 B4 (Op.ae [v] H) λ _ v=>jE E H rs λ vs=>P (v::vs)
 | .de n a::rs,P=>LK B4 (lk E a) λ _ v=>B3 B4 (Op.aq n [v] H) λ _ v=>jE E H rs λ vs=>P (v::vs)
def nO(M:ak)(rs:List eE)(E:Env)(Q:bP->ar->Prop):List aN->Option aI->ar->Prop
 |[],B5,H=>jE E H rs λ l=>Q (.ret (jK l)) H
 |[],B1 c,H=>Q (.panic c) H
 | .jC b::ds,m,H=>H.get b=B1 (.deferred (B1 []))/\nO M rs E Q ds m (H.set b (.deferred B5))
 | .fn (.func f) args::ds,m,H=>∃v up' H',jX M f args (B1 (m.getD [])) H (.ret v) (B1 up') H'/\bR aJ (nH m up') λ m'=>nO M rs E Q ds m' H'
 | .fn (.yield _) _::_,_,_=>False
def jE.elim{ks:List Nat}{E:Env}{tm:T AV}(he:gw ks E tm){H:ar}:∀{rs:List eE}{P:List AV->Prop},jE E H rs P -> ∃l,eD H tm rs=B1 l/\P l
 |[],P,h=>⟨[],rfl,h⟩
 | .tmp t::rs,P,h=>by
  have⟨v,c,h⟩:=LK.elim (show LK B4 (lk E t) _ from h);have⟨l,d,h⟩:=jE.elim he h;exact⟨v::l,by rw[HE,(he t v c).1,d];rfl,h⟩
 | .kT t::rs,P,h=>by
  have⟨v,c,h⟩:=LK.elim (show LK B4 (lk E t) _ from h);have⟨w,d,h⟩:=B3.elim h;have⟨l,f,h⟩:=jE.elim he h;exact⟨w::l,by rw[xm0,(he t v c).1,qr,d,qr,f];rfl,h⟩
 | .de n t::rs,P,h=>by
  have⟨v,c,h⟩:=LK.elim (show LK B4 (lk E t) _ from h);have⟨w,d,h⟩:=B3.elim h;have⟨l,f,h⟩:=jE.elim he h;exact⟨w::l,by rw[xm1,(he t v c).1,qr,d,qr,f];rfl,h⟩
theorem nO.Tc{ks:List Nat}{E:Env}{tm:T AV}(he:gw ks E tm){rs:List eE}{Q:bP->ar->Prop}:∀{D:List aN}{m:Option aI}{H:ar},nO M rs E Q D m H->Ay M rs tm Q D m H
 |[],B5,H,h=>by have⟨l,d,g⟩:=jE.elim he h;exact bR.intro (m:=aJ) d g
 |[],B1 c,H,h=>h
 | .jC b::ds,m,H,⟨d,g⟩=>⟨d,nO.Tc he g⟩
 | .fn (.func f) args::ds,m,H,⟨v,up',H',d,g⟩=>⟨v,up',H',d,Ga g λ i h=>nO.Tc he h⟩
 | .fn (.yield _) _::_,_,_,h=>h
def eS(M:ak)(rs:List eE)(Q:bP->ar->Prop):aG:=λ e E D H=>match e with
 | .normal=>nO M rs E Q D B5 H
 | .ret=>nO M rs E Q D B5 H
 | .panic c=>nO M rs E Q D (B1 c) H
 |_=>False
def FK(M:ak)(f:Nat)(vs:List AV)(H:ar)(Q:bP->ar->Prop):Prop:=∃e H',CALL M f vs H e H'/\Q e H'
def tq(Q:AV->ar->Prop)(e:bP)(H:ar):Prop:=match e with
 | .ret v=>Q v H
 | .panic _=>False
def zb(M:ak)(f:Nat)(vs:List AV)(H:ar)(Q:AV->ar->Prop):Prop:=FK M f vs H (tq Q)
def zb.elim{f:Nat}{vs:List AV}{H:ar}{Q:AV->ar->Prop}(h:zb M f vs H Q):∃v H',CALL M f vs H (.ret v) H'/\Q v H':=by
 have⟨e,H',d,c⟩:=h;cases e with
 |ret v=>exact⟨v,H',d,c⟩
 |panic _=>exact c.elim
theorem zb.intro{f:Nat}{vs:List AV}{H:ar}{Q:AV->ar->Prop}{v:AV}{H':ar}(h:CALL M f vs H (.ret v) H')(c:Q v H'):zb M f vs H Q:=⟨_,H',h,c⟩
def zb.mono{f:Nat}{vs:List AV}{H:ar}{Q Q':AV->ar->Prop}(h:zb M f vs H Q)(g:∀v H',Q v H'->Q' v H'):zb M f vs H Q':=by
 have⟨v,H',c,d⟩:=h.elim;exact⟨_,H',c,g _ _ d⟩
def C3.q{m:Bool}{f:Nat}{vs:List AV}{H:ar}{R:AV->ar->Prop}{P:Bool->AV->ar->Prop}(h:zb M f vs H R)(hk:∀v H',R v H'->P m v H'):C3 M m (.func f) vs H P:=by
 have⟨v,H',c,d⟩:=h.elim;exact⟨v,H',c,hk v H' d⟩
def C3.ret{m:Bool}{f:Nat}{vs:List AV}{H:ar}{P:Bool->AV->ar->Prop}{v:AV}{H':ar}(h:CALL M f vs H (.ret v) H')(hk:P m v H'):C3 M m (.func f) vs H P:=⟨v,H',h,hk⟩
def C3.uZ{m:Bool}{l:Nat}{vs:List AV}{H:ar}{P:Bool->AV->ar->Prop}{v:AV}{H':ar}(h:tc M l vs H (.ret v) H')(hk:P m v H'):C3 M m (.yield l) vs H P:=⟨v,H',h,hk⟩
def P3.q{m:Bool}{X:aI->ar->Prop}{f:Nat}{vs:List AV}{H:ar}{R:bP->ar->Prop}{P:Bool->AV->ar->Prop}(h:FK M f vs H R)(hk:∀v H',R (.ret v) H'->P m v H')(i:∀c H',R (.panic c) H'->X c H'):P3 M m X (.func f) vs H P:=by
 have⟨e,H',d,g⟩:=h;refine⟨e,H',d,?_⟩
 grind
def kP:Nat->List AV->Env
 |_,[]=>[]
 |i,v::vs=>(i,v)::kP (i+1) vs
def jT:Nat->Nat->List Nat->Bool
 |_,0,_=>B4
 |i,n+1,ks=>bL i ks && jT (i+1) n ks
def iu:∀(vs:List AV)(i t:Nat)(tm:T AV),(jY i vs tm).get t=if i<=t then(match vs[t-i]? with|some v=>B1 v|none=>tm.get t)else tm.get t
 |[],i,t,tm=>by simp[jY]
 |v::vs,i,t,tm=>by
  rw[jY,iu vs (i+1) t,T.aK]
  grind
def xl6:∀(vs:List AV)(i t:Nat)(v:AV),lk (kP i vs) t=B1 v->i<=t/\vs[t-i]? = B1 v
 |[],i,t,v,h=>by cases h
 |w::vs,i,t,v,h=>by
  rw[kP,xM]at h;split at h
  .grind
  .have ⟨c,d⟩:=xl6 vs (i+1) t v h
   grind
def xck:∀(n i:Nat)(ks:List Nat),jT i n ks=B4 -> ∀t,i<=t->t<i+n->bL t ks=B4
 |0,i,ks,_,t,h1,h2=>by omega
 |n+1,i,ks,h,t,h1,h2=>by
  simp only[jT,zm]at h
  by_cases e:i=t
  .grind
  .exact xck n (i+1) ks h.2 t (by omega) (by omega)
def W6{ks:List Nat}{vs:List AV}(h:jT 0 vs.length ks=B4):gw ks (kP 0 vs) (jY 0 vs .nil):=λ t v d=>by
 have⟨_,c⟩:=xl6 vs 0 t v d;rw[Nat.sub_zero]at c;refine⟨by simp_all[iu],xck _ 0 ks h t (xw _) ?_⟩
 grind
structure Fn3 where
 n:Nat
 F:cj
 K:Kp
def pre:ai->List ai
 | .seq a b=>.seq a b::kE (pre a) (pre b)
 | .cond c a b=>.cond c a b::kE (pre a) (pre b)
 | .block i b=>.block i b::pre b
 | .loop k b=>.loop k b::pre b
 | .scope b=>.scope b::pre b
 |c=>[c]
def part(c:ai)(k:Nat):ai:=PZ (motive:=λ _=>ai) .stuck (λ c=>c) (nth (pre c) k)
def dF:ai->Nat
 | .seq a b=>dF a+dF b+1
 | .cond _ a b=>dF a+dF b+1
 | .block _ b=>dF b+1
 | .loop _ b=>dF b+1
 | .scope b=>dF b+1
 |_=>1
def HF:∀(c:ai),(pre c).length=dF c
 | .seq a b=>by simp[pre,dF,pq,HF a,HF b]
 | .cond _ a b=>by simp[pre,dF,pq,HF a,HF b]
 | .block _ b=>by simp[pre,dF,HF b]
 | .loop _ b=>by simp[pre,dF,HF b]
 | .scope b=>by simp[pre,dF,HF b]
 | .skip=>rfl
 | .label _=>rfl
 | .exit _=>rfl
 | .goto _=>rfl
 | .ret=>rfl
 | .stuck=>rfl
 | .region _=>rfl
 | .rangeFunc _ _=>rfl
def Xx(c:ai):∃l,pre c=c::l:=by cases c<;>exact⟨_,rfl⟩
def YI{α:Type}:∀(l:List α)(i:Nat),nth l i=l[i]?
 |[],i=>rfl
 |x::l,0=>rfl
 |x::l,i+1=>by rw[z8,<-YI l i];rfl
def LO:∀(r:ai)(k:Nat)(c:ai),(pre r)[k]? = B1 c -> ∃l,(pre r).drop k=pre c++l:=by
 intro r
 induction r with
 |seq a b iha ihb =>
  intro k c h;cases k with
  |zero=>simp[pre]at h;simp_all
  |succ k =>
   simp only[pre,pq,z8]at h
   grind [pre,pq,Ij,jh]
 |cond x a b iha ihb =>
  intro k c h;cases k with
  |zero=>simp[pre]at h;simp_all
  |succ k =>
   simp only[pre,pq,z8]at h
   grind [pre,pq,Ij,jh]
 |block i b ih =>
  intro k c h;cases k with
  |zero=>simp[pre]at h;simp_all
  |succ k=>grind [pre]
 |loop i b ih =>
  intro k c h;cases k with
  |zero=>simp[pre]at h;simp_all
  |succ k=>grind [pre]
 |scope b ih =>
  intro k c h;cases k with
  |zero=>simp[pre]at h;simp_all
  |succ k=>grind [pre]
 |_ =>
  intro k c h;cases k with
  |zero=>simp[pre]at h;simp_all
  |succ k=>grind [pre]
def A0{r:ai}{k:Nat}{c:ai}(h:(pre r)[k]? = B1 c):part r k=c:=by
 simp_all[part,YI]
def j'{r:ai}{k:Nat}{c:ai}(h:part r k=c)(i:c≠ .stuck):∀(j:Nat)(d:ai),(pre c)[j]? = B1 d->part r (k+j)=d:=λ j d f=>by
 have g:(pre r)[k]? = B1 c:=by
  unfold part at h;rw[YI]at h;cases m:(pre r)[k]? with
  |none=>simp_all
  |some x=>simp_all
 have⟨l,hl⟩:=LO r k c g;refine A0 ?_;rw[<-wh,hl,yx (qt.1 f).1,f]
def ae6(c:ai):(pre c)[0]? = B1 c:=by have⟨l,h⟩:=Xx c;grind
def Gy{r:ai}{k:Nat}{c a b:ai}(h:part r k=c)(d:c≠ .stuck)(e:∃x l,pre c=x::(pre a++l)):part r (k+1)=a:=by
 have⟨x,l,e⟩:=e;have⟨f,e'⟩:=Xx a;simp_all[j']
def NQ{r:ai}{k:Nat}{c a b:ai}(h:part r k=c)(d:c≠ .stuck)(e:∃x,pre c=x::(pre a++pre b)):part r (k+1+dF a)=b:=by
 have⟨x,e⟩:=e;have⟨f,e'⟩:=Xx b;rw[Ad];exact j' h d (1+dF a) b (by rw[e,Nat.add_comm,z8,z4 (by rw[HF];exact qm _),HF,Ia,e'];rfl)
def U(M:ak)(ctx:Ctx)(K:Kp)(X:Nat->WX):ai->Nat->WX
 | .skip,_,g,Q,E,D,H=>rG g Q .normal E D H
 | .label _,_,g,Q,E,D,H=>rG g Q .normal E D H
 | .exit id,_,g,Q,E,D,H=>rG g Q (.exit id) E D H
 | .goto l,_,g,Q,E,D,H=>rG g Q (.goto l) E D H
 | .ret,_,g,Q,E,D,H=>rG g Q .ret E D H
 | .stuck,_,_,_,_,_,_=>False
 | .region l,_,g,Q,E,D,H=>qR M K.dm Q E D l g H λ g L _ H=>rG g Q .normal (dM K.ah E L) D H
 | .seq a b,k,g,Q,E,D,H=>match a,b with
  | .region l,.cond c x y=>qR M K.dm Q E D l g H λ g L R H=>CV E L R c g λ g v=>mL g v (λ g=>(O5 (motive:=λ _=>WX) (U M ctx K X x (k+3)) (X (k+3)) (bL (k+3) K.named)) g Q (dM K.ah E L) D H) (λ g=>(O5 (motive:=λ _=>WX) (U M ctx K X y (k+3+dF x)) (X (k+3+dF x)) (bL (k+3+dF x) K.named)) g Q (dM K.ah E L) D H)
  | .region l,.seq (.cond c x y) r=>qR M K.dm Q E D l g H λ g L R H=>CV E L R c g λ g v=>mL g v (λ g=>(O5 (motive:=λ _=>WX) (U M ctx K X x (k+4)) (X (k+4)) (bL (k+4) K.named)) g (fq (O5 (motive:=λ _=>WX) (U M ctx K X r (k+4+dF x+dF y)) (X (k+4+dF x+dF y)) (bL (k+4+dF x+dF y) K.named)) Q) (dM K.ah E L) D H)
   (λ g=>(O5 (motive:=λ _=>WX) (U M ctx K X y (k+4+dF x)) (X (k+4+dF x)) (bL (k+4+dF x) K.named)) g (fq (O5 (motive:=λ _=>WX) (U M ctx K X r (k+4+dF x+dF y)) (X (k+4+dF x+dF y)) (bL (k+4+dF x+dF y) K.named)) Q) (dM K.ah E L) D H)
  | .region l,b=>qR M K.dm Q E D l g H λ g L _ H=>(O5 (motive:=λ _=>WX) (U M ctx K X b (k+2)) (X (k+2)) (bL (k+2) K.named)) g Q (dM K.ah E L) D H
  |a,b=>(O5 (motive:=λ _=>WX) (U M ctx K X a (k+1)) (X (k+1)) (bL (k+1) K.named)) g (fq (O5 (motive:=λ _=>WX) (U M ctx K X b (k+1+dF a)) (X (k+1+dF a)) (bL (k+1+dF a) K.named)) Q) E D H
 | .cond c x y,k,g,Q,E,D,H=>OV E c g λ g v=>mL g v (λ g=>(O5 (motive:=λ _=>WX) (U M ctx K X x (k+1)) (X (k+1)) (bL (k+1) K.named)) g Q E D H) (λ g=>(O5 (motive:=λ _=>WX) (U M ctx K X y (k+1+dF x)) (X (k+1+dF x)) (bL (k+1+dF x) K.named)) g Q E D H)
 | .block id b,k,g,Q,E,D,H=>(O5 (motive:=λ _=>WX) (U M ctx K X b (k+1)) (X (k+1)) (bL (k+1) K.named)) g (fj id Q) E D H
 | .scope b,k,g,Q,E,D,H=>(O5 (motive:=λ _=>WX) (U M ctx K X b (k+1)) (X (k+1)) (bL (k+1) K.named)) g (kM b Q) E D H
 | .loop (B1 _) _,_,_,_,_,_,_=>False
 | .loop B5 b,k,g,Q,E,D,H=>cu (O5 (motive:=λ _=>WX) (U M ctx K X b (k+1)) (X (k+1)) (bL (k+1) K.named)) Q E D H
 | .rangeFunc f n,_,g,Q,E,D,H=>OV E f g λ g v=>iP M K.ah ctx n E D H Q v
def X3(r:ai):∀(n:Nat)(c:ai),dF c<=n -> ∀k,part r k=c->U M ctx K (λ j=>W3 M ctx K (part r j)) c k=W3 M ctx K c:=by
 intro n
 induction n with
 |zero=>intro c p;cases c<;>simp[dF]at p
 |succ n ih =>
  intro c p k hk;have sub:∀(d:ai)(j:Nat),dF d<=n->part r j=d->O5 (motive:=λ _=>WX) (U M ctx K (λ j=>W3 M ctx K (part r j)) d j) (W3 M ctx K (part r j)) (bL j K.named)=W3 M ctx K d:=λ d j t u=>by
   cases bL j K.named with
   |true=>grind
   |false=>grind
  have pl:=@Gy r;have w:=@NQ r;cases c with
  |seq a b =>
   have e:pre (.seq a b)=.seq a b::(pre a++pre b):=by simp[pre,pq]
   have ha:=Gy (b:=b) hk (by simp) ⟨_,_,e⟩;have hb:=NQ hk (by simp) ⟨_,e⟩;have hs:dF a+dF b<=n:=by grind [dF]
   have gen:(O5 (motive:=λ _=>WX) (U M ctx K (λ j=>W3 M ctx K (part r j)) a (k+1)) (W3 M ctx K (part r (k+1))) (bL (k+1) K.named))=W3 M ctx K a/\(O5 (motive:=λ _=>WX) (U M ctx K (λ j=>W3 M ctx K (part r j)) b (k+1+dF a)) (W3 M ctx K (part r (k+1+dF a))) (bL (k+1+dF a) K.named))=W3 M ctx K b :=
    ⟨sub a _ (by omega) ha,sub b _ (by omega) hb⟩
   cases a with
   |region l =>
    have plain:(O5 (motive:=λ _=>WX) (U M ctx K (λ j=>W3 M ctx K (part r j)) b (k+2)) (W3 M ctx K (part r (k+2))) (bL (k+2) K.named))=W3 M ctx K b:=sub b _ (by omega) hb;cases b with
    |cond c x y =>
     have e2:pre (.cond c x y)=.cond c x y::(pre x++pre y):=by simp[pre,pq]
     have h:=Gy (b:=y) hb (by simp) ⟨_,_,e2⟩;have o:=NQ hb (by simp) ⟨_,e2⟩;have m:dF x+dF y+1<=n:=by grind [dF]
     have s1:=sub x (k+3) (by omega) h;have s2:=sub y (k+3+dF x) (by omega) o;funext g Q E D H;simp only[U,W3,s1,s2]
    |seq b1 q =>
     cases b1 with
     |cond c x y =>
      have e1:pre (.seq (.cond c x y) q)=.seq (.cond c x y) q::(pre (.cond c x y)++pre q):=by simp[pre,pq]
      have e2:pre (.cond c x y)=.cond c x y::(pre x++pre y):=by simp[pre,pq]
      have f:=Gy (b:=q) hb (by simp) ⟨_,_,e1⟩;have s:=NQ hb (by simp) ⟨_,e1⟩;have h:=Gy (b:=y) f (by simp) ⟨_,_,e2⟩;have o:=NQ f (by simp) ⟨_,e2⟩;have m:dF x+dF y+1+dF q+1<=n:=by grind [dF]
      have s1:=sub x (k+4) (by omega) h;have s2:=sub y (k+4+dF x) (by omega) o;have z:=sub q (k+4+dF x+dF y) (by omega) (by rw[<-s];simp only[dF];congr 1;omega);simp_all[U,W3]
     |_=>simp_all[U,W3]
    |_=>simp_all[U,W3]
   |_=>funext g Q E D H;simp only[U,W3]at gen⊢;simp only[gen.1,gen.2]
  |cond c x y =>
   have e2:pre (.cond c x y)=.cond c x y::(pre x++pre y):=by simp[pre,pq]
   have h:=Gy (b:=y) hk (by simp) ⟨_,_,e2⟩;have o:=NQ hk (by simp) ⟨_,e2⟩;have m:dF x+dF y<=n:=by grind [dF]
   have s1:=sub x (k+1) (by omega) h;have s2:=sub y (k+1+dF x) (by omega) o;simp_all[U,W3]
  |block i b =>
   have s1:=sub b (k+1) (by grind [dF]) (Gy (b:=b) hk (by simp) (by simp_all[pre]));simp_all[U,W3]
  |scope b =>
   have s1:=sub b (k+1) (by grind [dF]) (Gy (b:=b) hk (by simp) (by simp_all[pre]));simp_all[U,W3]
  |loop i b =>
   have s1:=sub b (k+1) (by grind [dF]) (Gy (b:=b) hk (by simp) (by simp_all[pre]));funext g Q E D H;cases i with
   |none=>grind [U,W3]
   |some _=>rfl
  |_=>funext g Q E D H;rfl
def OP:∃F:ak->Ctx->Kp×ai->WX,F=λ M ctx p=>W3 M ctx p.1 p.2:=⟨_,rfl⟩
def W:ak->Ctx->Kp×ai->WX:=Classical.choose OP
theorem mj(M:ak)(ctx:Ctx)(p:Kp×ai):W M ctx p=W3 M ctx p.1 p.2:=congrFun (congrFun (congrFun (Classical.choose_spec OP) M) ctx) p
def funcAt(P:Jl)(n:Nat):cj:=PZ (motive:=λ _=>cj) ⟨[],.stuck,[]⟩ (λ f=>f) ((bq P).func n)
def iG(F:cj)(i:Nat):dZ:=PZ (motive:=λ _=>dZ) ⟨[],.stuck,.stuck⟩ (λ l=>l) (nth F.loops i)
def DI{M:ak}{ctx:Ctx}{K:Kp}{r:ai}{k:Nat}{g:Bool}{Q:aG}{E:Env}{D:List aN}{H:ar}{R:Prop}(h:U M ctx K (λ j=>W M ctx (K,part r j)) (part r k) k g Q E D H=R):W M ctx (K,part r k) g Q E D H=R:=by
 rw[<-h];have e:(λ j=>W M ctx (K,part r j))=λ j=>W3 M ctx K (part r j):=by grind [mj]
 rw[e,X3 (ctx:=ctx) (K:=K) r _ (part r k) (qm _) k rfl,mj]
abbrev uu:AV:=.undef
def TM(c:ai):part c 0=c:=A0 (ae6 c)
def χ{α β:Type}{a b:α}{x y:β}(h:(a,x)=(b,y)):a=b/\x=y:=by grind
def OZ{M:ak}{f:Nat}{fn:cj}(j:M.func f=B1 fn){ks:Kp}{vs:List AV}(hk:jT 0 vs.length ks.ah=B4){H:ar}{Q:bP->ar->Prop}
 (h:W M ⟨B5,f⟩ (ks,part fn.body 0) B4 (eS M fn.results Q) (kP 0 vs) [] H):FK M f vs H Q:=by
 rw[mj,TM]at h;refine C_ j (pW (W3.wp (fD fn.body) fn.body (qm _) (up:=B5) h (W6 hk)) λ e st⟨g,i,o,d⟩=>?_);have⟨tm,D,up,H'⟩:=st;have g:up=none:=g;subst g;have mono:∀{m:Option aI},nO M fn.results i Q D m H'->Ay M fn.results tm (λ e H=>(B5:Option aI)=B5/\Q e H) D m H':=λ{m}h=>by
  have l:nO M fn.results i (λ e H=>(B5:Option aI)=B5/\Q e H) D m H':=by
   grind
  grind [nO.Tc]
 cases e with
 |normal=>exact mono d
 |ret=>exact mono d
 |panic c=>exact mono d
 |exit _=>exact d.elim
 |goto _=>exact d.elim
section
variable(E:Env)(H:ar)(K:Bool->AV->Prop)(K2:Bool->AV->ar->Prop)(A B:Bool->Prop)
def Lz(E:Env)(n:Nat)(K:Bool->AV->Prop):Prop:=LK B4 (lk E n) K
def Ly(g:Bool)(E:Env)(n:Nat)(K:Bool->AV->Prop):Prop:=LK g (lk E n) K
def Fl(g:Bool)(i:Nat)(a:AV)(H:ar)(K:Bool->AV->Prop):Prop:=B3 g (Op.fieldAddr i [a]) λ g x=>B3 g (Op.ae [x] H) K
def Nf(g:Bool)(i:Nat)(a:AV)(H:ar)(K:Bool->AV->Prop):Prop:=B3 g (Op.nilCheck [a]) λ g x=>Fl g i x H K
def Fs(g:Bool)(i:Nat)(a b:AV)(H:ar)(K:Bool->AV->ar->Prop):Prop:=B3 g (Op.fieldAddr i [a]) λ g x=>jF g (Op.store 1 [x,b] H) K
def Ns(g:Bool)(i:Nat)(a b:AV)(H:ar)(K:Bool->AV->ar->Prop):Prop:=B3 g (Op.nilCheck [a]) λ g x=>Fs g i x b H K
def Xl(g:Bool)(a b:AV)(H:ar)(K:Bool->AV->Prop):Prop:=B3 g (Op.aR 1 [a,b]) λ g x=>B3 g (Op.ae [x] H) K
def Xs(g:Bool)(a b c:AV)(H:ar)(K:Bool->AV->ar->Prop):Prop:=B3 g (Op.aR 1 [a,b]) λ g x=>jF g (Op.store 1 [x,c] H) K
def Bn(g:Bool)(o:BinOp)(a b:AV)(K:Bool->AV->Prop):Prop:=B3 g (Op.bin o [a,b]) K
def Cb(g:Bool)(o:BinOp)(a b:AV)(A B:Bool->Prop):Prop:=B3 g (Op.bin o [a,b]) λ g v=>mL g v A B
def Gt(g:Bool)(M:ak)(c:Ctx)(p:Kp×ai)(Q:aG)(E:Env)(D:List aN)(H:ar):Prop:=rG g (fq (W M c p) Q) .normal E D H
def UM(n:Nat):Lz E n K=LK B4 (lk E n) K:=propext j9
def Wk(n:Nat):Ly B4 E n K=LK B4 (lk E n) K:=propext j9
def XX(i:Nat)(a:AV):Fl B4 i a H K=B3 B4 (Op.fieldAddr i [a]) λ g x=>B3 g (Op.ae [x] H) K:=propext j9
def Wj(i:Nat)(a:AV):Nf B4 i a H K=B3 B4 (Op.nilCheck [a]) λ g x=>Fl g i x H K:=propext j9
def Xh(i:Nat)(a b:AV):Fs B4 i a b H K2=B3 B4 (Op.fieldAddr i [a]) λ g x=>jF g (Op.store 1 [x,b] H) K2:=propext j9
def WQ(i:Nat)(a b:AV):Ns B4 i a b H K2=B3 B4 (Op.nilCheck [a]) λ g x=>Fs g i x b H K2:=propext j9
def Yy(a b:AV):Xl B4 a b H K=B3 B4 (Op.aR 1 [a,b]) λ g x=>B3 g (Op.ae [x] H) K:=propext j9
def Xf(a b c:AV):Xs B4 a b c H K2=B3 B4 (Op.aR 1 [a,b]) λ g x=>jF g (Op.store 1 [x,c] H) K2:=propext j9
def UU(o:BinOp)(a b:AV):Bn B4 o a b K=B3 B4 (Op.bin o [a,b]) K:=propext j9
def Wr(o:BinOp)(a b:AV):Cb B4 o a b A B=B3 B4 (Op.bin o [a,b]) λ g v=>mL g v A B:=propext j9
def XK(M:ak)(c:Ctx)(p:Kp×ai)(Q:aG)(D:List aN):Gt B4 M c p Q E D H=rG B4 (fq (W M c p) Q) .normal E D H:=propext j9
end
end
end Go.Am
namespace Go.Am
end Go.Am
namespace Go.Am
section
variable{M:ak}{ctx:Ctx}{dm:Bool}{Q Q':aG}{E:Env}{D:List aN}
theorem Ud{α:Type}{m:Bool}{o:Option α}{K K':Bool -> α->Prop}(h:B3 m o K)(hk:∀a,K m a->K' m a):B3 m o K':=by
 cases o with
 |none=>exact h
 |some a=>exact hk a h
theorem xf9{α β:Type}{m:Bool}{o:Option (α×β)}{K K':Bool -> α -> β->Prop}(h:jF m o K)(hk:∀a b,K m a b->K' m a b):jF m o K':=by
 cases o with
 |none=>exact h
 |some a=>exact hk a.1 a.2 h
theorem _Z{α:Type}{m:Bool}{o:Option α}{K K':Bool -> α->Prop}(h:LK m o K)(hk:∀a,K m a->K' m a):LK m o K':=by
 cases o with
 |none=>exact h
 |some a=>exact hk a h
theorem _j{m:Bool}{v:AV}{A B c d:Bool->Prop}(h:mL m v A B)(ha:A m->c m)(hb:B m->d m):mL m v c d:=by
 obtain⟨q,rfl,h⟩:=h.elim;cases q with
 |true=>exact ha h
 |false=>exact hb h
theorem Wd{L R:Env}{t:Nat}{g:Bool}{K K':Bool->Env->AV->Prop}(h:TV E L R t g K)(hk:∀R v,K g R v->K' g R v):TV E L R t g K':=by
 unfold TV at h⊢;cases hl:lk L t with
 |some v=>simp_all
 |none =>
  rw[hl]at h;cases c:lk R t with
  |some v=>simp_all
  |none=>rw[c]at h;grind [_Z]
def Z4{x:bM}{g:Bool}{K K':Bool->AV->Prop}(h:OV E x g K)(hk:∀v,K g v->K' g v):OV E x g K':=by
 cases x with
 |tmp t=>grind [OV,_Z]
 |const v=>exact hk _ h
 |eO b=>exact hk _ h
 |func f=>exact hk _ h
theorem Hq{L R:Env}{x:bM}{g:Bool}{K K':Bool->AV->Prop}(h:CV E L R x g K)(hk:∀v,K g v->K' g v):CV E L R x g K':=by
 cases x with
 |tmp t=>grind [CV,Wd]
 |const v=>exact hk _ h
 |eO b=>exact hk _ h
 |func f=>exact hk _ h
def O7{L:Env}{g:Bool}:∀{l:List bM}{R:Env}{K K':Bool->Env->List AV->Prop},yC E L l g R K->(∀R vs,K g R vs->K' g R vs)->yC E L l g R K'
 |[],R,K,K',h,hk=>hk _ _ h
 | .tmp t::xs,R,K,K',h,hk=>Wd (K:=λ g R v=>yC E L xs g R λ g R vs=>K g R (v::vs)) (K':=λ g R v=>yC E L xs g R λ g R vs=>K' g R (v::vs)) h λ R v q=>O7 (K:=λ g R vs=>K g R (v::vs)) (K':=λ g R vs=>K' g R (v::vs)) q λ R vs=>hk _ _
 | .const v::xs,R,K,K',h,hk=>O7 (l:=xs) (K:=λ g R vs=>K g R (v::vs)) (K':=λ g R vs=>K' g R (v::vs)) h λ R vs=>hk _ _
 | .eO v::xs,R,K,K',h,hk=>O7 (l:=xs) (K:=λ g R vs=>K g R (.ptr v 0::vs)) (K':=λ g R vs=>K' g R (.ptr v 0::vs)) h λ R vs=>hk _ _
 | .func v::xs,R,K,K',h,hk=>O7 (l:=xs) (K:=λ g R vs=>K g R (.fn (.func v) [] []::vs)) (K':=λ g R vs=>K' g R (.fn (.func v) [] []::vs)) h λ R vs=>hk _ _
theorem u'(f:∀e E D H,Q e E D H->Q' e E D H){d:Option (List Nat)}{ks:List Nat}{c:aI}{H:ar}(h:PX d ks Q E D c H):PX d ks Q' E D c H:=by
 cases d with
 |none=>exact h
 |some _=>exact f _ _ _ _ h
theorem Yh(j:∀e E D H,Q e E D H->Q' e E D H){i:Option (List Nat)}{L:Env}{g:Bool}{f:mE}{vs:List AV}{H:ar}{K K':Bool->AV->ar->Prop}(h:Fq M dm i L Q E D g f vs H K)(hk:∀v H,K g v H->K' g v H):Fq M dm i L Q' E D g f vs H K':=by
 cases dm with
 |false=>obtain⟨v,H',c,d⟩:=h;exact⟨v,H',c,hk _ _ d⟩
 |true =>
  obtain⟨e,H',c,d⟩:=h;refine⟨e,H',c,?_⟩
  grind [u']
def Dp(i:∀e E D H,Q e E D H->Q' e E D H){s:aP}{K K':KR}{g:Bool}{L R:Env}{H:ar}(h:IA M dm s Q E D K g L R H)(hk:∀L R H,K g L R H->K' g L R H):IA M dm s Q' E D K' g L R H:=by
 refine O7 (show yC E L s.args g R _ from h) λ R vs h=>?_;obtain⟨iB,dst,guard,args,op,c⟩:=s;cases iB with
 |true =>
  have h:Tg dst E L R H K g vs op:=h;show Tg dst E L R H K' g vs op;cases op with
  |read f =>
   cases dst with
   |none=>exact h
   |some d=>exact⟨h.1,hk _ _ _ h.2⟩
  |_=>exact h
 |false =>
  have h:vT M dm dst c Q E D L R H K g vs op:=h;show vT M dm dst c Q' E D L R H K' g vs op;cases op with
  |pure f=>grind [vT,Ud]
  |read f=>grind [vT,Ud]
  |alloc f=>grind [vT,xf9]
  |gT f=>grind [vT,xf9]
  |ij f=>exact Yh i h λ v H=>hk _ _ _
  |iq =>
   simp only[vT,V3]at h⊢
   grind [Yh]
  |invoke n =>
   simp only[vT,N3]at h⊢;split at h
   .grind [Ud,Yh]
   omega
  |recover=>exact h
  |defer=>exact h
  |panic =>
   cases dm with
   |false=>exact h
   |true =>
    have h:gH vs H (PX c (mf L) Q E D):=h;show gH vs H (PX c (mf L) Q' E D);unfold gH at h⊢
    grind [u']
def VB(c:∀e E D H,Q e E D H->Q' e E D H){K K':KR}{g:Bool}(hk:∀L R H,K g L R H->K' g L R H):∀{l:List aP}{L R:Env}{H:ar},pT M dm Q E D K l g L R H->pT M dm Q' E D K' l g L R H
 |[],L,R,H,h=>hk _ _ _ h
 |s::l,L,R,H,h=>Dp c (by simp_all[pT]) λ L R H=>VB c hk
theorem Yn:∀(n:Nat){f f':List AV->ar->Prop},(∀vs H,f vs H->f' vs H) -> ∀(l:List AV)(H:ar),pQ n (rL n f) l H->pQ n (rL n f') l H
 |0,f,f',hf,l,H,h=>hf [] H h
 |n+1,f,f',hf,[],H,h=>h
 |n+1,f,f',hf,v::l,H,h=>Yn n (f:=λ l=>f (v::l)) (f':=λ l=>f' (v::l)) (by grind) l H h
def Fb(f:∀e E D H,Q e E D H->Q' e E D H){x:FW}{K K':KR}{g:Bool}(hk:∀L R H,K g L R H->K' g L R H){L R:Env}{H:ar}(h:Sr M dm Q E D x K g L R H):Sr M dm Q' E D x K' g L R H:=by
 obtain⟨q,l⟩:=x;cases q with
 |none=>exact VB f hk (show pT M dm Q E D K l g L R H from h)
 |some q =>
  cases ho:vS q.1 l with
  |false =>
   have h:cond (vS q.1 l) _ False:=h
   grind
  |true =>
   have h:cond (vS q.1 l) _ False:=h;rw[ho,xt]at h;show cond (vS q.1 l) _ False;rw[ho,xt];refine Wd h λ c v h=>?_;have h:B3 g (cX q.2 (B1 v)) λ g w=>vE g w (λ g=>pT M dm Q E D (λ g d _ H=>pQ (cV (bA l [])) (rL (cV (bA l [])) λ vs H=>K g (lE (bA l []) L vs) c H) (qL (cV (bA l [])) d) H) l g L c H)
    (λ g=>pQ (cV (bA l [])) (rL (cV (bA l [])) λ vs H=>K g (lE (bA l []) L vs) c H) (sk (cV (bA l []))) H):=h
   refine Ud (K':=λ g w=>vE g w (λ g=>pT M dm Q' E D (λ g d _ H=>pQ (cV (bA l [])) (rL (cV (bA l [])) λ vs H=>K' g (lE (bA l []) L vs) c H) (qL (cV (bA l [])) d) H) l g L c H)
    (λ g=>pQ (cV (bA l [])) (rL (cV (bA l [])) λ vs H=>K' g (lE (bA l []) L vs) c H) (sk (cV (bA l []))) H)) h λ w h=>?_
   cases w with
   |true=>exact VB f (by grind [Yn]) (show pT M dm Q E D _ l g L c H from h)
   |false=>exact Yn _ (by grind) _ _ h
theorem SG(c:∀e E D H,Q e E D H->Q' e E D H){l:List aP}{K K':KR}{g:Bool}(hk:∀L R H,K g L R H->K' g L R H){H:ar}(h:qR M dm Q E D l g H K):qR M dm Q' E D l g H K':=by
 unfold qR at h⊢;generalize Jj l=gs at h⊢;generalize([]:Env)=L at h⊢;have key:∀(gs:List FW)(L R:Env)(H:ar),xY M dm Q E D K gs g L R H->xY M dm Q' E D K' gs g L R H:=by
  intro gs
  induction gs with
  |nil=>exact λ L R H h=>hk _ _ _ h
  |cons x gs ih=>exact λ L R H h=>Fb c ih (by simp_all[xY])
 grind
def HU{K:Kp}:∀(n:Nat)(c:ai),fD c<=n -> ∀{g:Bool}{Q Q':aG}{E:Env}{D:List aN}{H:ar},(∀e E D H,Q e E D H->Q' e E D H)->W3 M ctx K c g Q E D H->W3 M ctx K c g Q' E D H:=by
 intro n
 induction n with
 |zero =>
  intro c s g Q Q' E D H d h;cases c with
  |region l=>exact SG d (λ L R H h=>d _ _ _ _ h) h
  |rangeFunc f k =>
   have h:OV E f g λ g v=>iP M K.ah ctx k E D H Q v:=h;show OV E f g λ g v=>iP M K.ah ctx k E D H Q' v;have key:∀v,iP M K.ah ctx k E D H Q v->iP M K.ah ctx k E D H Q' v:=λ v h tm up he=>by
    have:=h tm up he;unfold J4 at this⊢;split
    .grind [OA]
    grind [Ga,OA]
   exact Z4 h key
  |skip=>exact d _ _ _ _ h
  |label _=>exact d _ _ _ _ h
  |exit _=>exact d _ _ _ _ h
  |goto _=>exact d _ _ _ _ h
  |ret=>exact d _ _ _ _ h
  |stuck=>exact h
  |seq _ _=>grind [fD]
  |cond _ _ _=>grind [fD]
  |block _ _=>grind [fD]
  |loop _ _=>grind [fD]
  |scope _=>grind [fD]
 |succ n ih =>
  intro c s g Q Q' E D H d h;have u:∀{b:ai},fD b<=n -> ∀e E D H,fq (W3 M ctx K b) Q e E D H->fq (W3 M ctx K b) Q' e E D H:=λ hb e E D H h=>by
   cases e with
   |normal=>exact ih _ hb d h
   |_=>exact d _ _ _ _ h
  cases c with
  |seq a b =>
   have m:fD a+fD b<=n:=by grind [fD]
   have gen:W3 M ctx K a g (fq (W3 M ctx K b) Q) E D H->W3 M ctx K a g (fq (W3 M ctx K b) Q') E D H:=λ h=>(by grind)
   cases a with
   |region l =>
    have plain:(qR M K.dm Q E D l g H λ g L _ H=>W3 M ctx K b g Q (dM K.ah E L) D H)->qR M K.dm Q' E D l g H λ g L _ H=>W3 M ctx K b g Q' (dM K.ah E L) D H:=λ h=>(by grind [SG])
    have cv:∀{L R:Env}{c:bM}{A B i j:Bool->Prop},CV E L R c g (λ g v=>mL g v A B)->(A g->i g)->(B g->j g)->CV E L R c g (λ g v=>mL g v i j):=λ{L R c A B i j}h ha hb=>by
     grind [Hq,_j]
    cases b with
    |cond c x y =>
     have o:fD x+fD y+1<=n:=by grind [fD]
     exact SG d (λ L R H h=>cv h (by grind) (by grind)) h
    |seq b1 r =>
     cases b1 with
     |cond c x y =>
      have o:fD x+fD y+1+fD r+1<=n:=by grind [fD]
      exact SG d (λ L R H h=>cv h (by grind) (by grind)) h
     |_=>exact plain h
    |_=>exact plain h
   |_=>exact gen h
  |cond c x y =>
   have m:fD x+fD y<=n:=by grind [fD]
   have h:OV E c g λ g v=>mL g v (λ g=>W3 M ctx K x g Q E D H) (λ g=>W3 M ctx K y g Q E D H):=h;exact Z4 (K':=λ g v=>mL g v (λ g=>W3 M ctx K x g Q' E D H) (λ g=>W3 M ctx K y g Q' E D H)) h λ v h=>_j h (by grind) (by grind)
  |block id b =>
   have hb:fD b<=n:=by grind [fD]
   exact ih b hb (λ e E D H h=>by cases e<;>exact d _ _ _ _ h) h
  |scope b =>
   have hb:fD b<=n:=by grind [fD]
   exact ih b hb (λ e E D H h=>by cases e<;>first|exact d _ _ _ _ h|exact⟨h.1,d _ _ _ _ h.2⟩) h
  |loop ah b =>
   have hb:fD b<=n:=by grind [fD]
   cases ah with
   |some _=>exact h
   |none =>
    obtain⟨I,p,q⟩:=h;exact⟨I,p,λ n E D H t=>ih b hb (λ e E D H h=>by cases e<;>first|exact h|exact d _ _ _ _ h) (q n E D H t)⟩
  |_=>exact ih _ (xw _) d h
end
def W.mono{M:ak}{ctx:Ctx}{p:Kp×ai}{g:Bool}{Q Q':aG}{E:Env}{D:List aN}{H:ar}(h:W M ctx p g Q E D H)(c:∀e E D H,Q e E D H->Q' e E D H):W M ctx p g Q' E D H:=by
 rw[mj]at h⊢;exact HU _ p.2 (qm _) c h
end Go.Am
namespace Go.Am
universe u
noncomputable section
variable(X:WX)(Q:aG)(E:Env)(D:List aN)(H:ar)(I:MG)(n:Nat)
def xec:fq X Q .normal E D H=X B4 Q E D H:=propext j9
def EF:fq X Q .ret E D H=Q .ret E D H:=propext j9
def xkd(l:Nat):fq X Q (.exit l) E D H=Q (.exit l) E D H:=propext j9
def xke(l:Nat):fq X Q (.goto l) E D H=Q (.goto l) E D H:=propext j9
def xh2(c:aI):fq X Q (.panic c) E D H=Q (.panic c) E D H:=propext j9
def xd6(i:Nat):fj i Q .normal E D H=Q .normal E D H:=propext j9
def ac8(i:Nat):fj i Q .ret E D H=Q .ret E D H:=propext j9
def xj0(i l:Nat):fj i Q (.goto l) E D H=Q (.goto l) E D H:=propext j9
def xhq(i:Nat)(c:aI):fj i Q (.panic c) E D H=Q (.panic c) E D H:=propext j9
def xjz(i l:Nat):fj i Q (.exit l) E D H=if i=l then Q .normal E D H else Q (.exit l) E D H:=by
 show Q (cond (JW i l) .normal (.exit l)) E D H=_
 by_cases h:i=l
 .simp_all
 simp_all[FB]
section
variable(M:ak)(rs:List eE)(Q:bP->ar->Prop)(P:List AV->Prop)(R:AV->ar->Prop)
def Fc:eS M rs Q .ret E [] H=jE E H rs λ l=>Q (.ret (jK l)) H:=propext j9
def xeb:eS M rs Q .normal E [] H=jE E H rs λ l=>Q (.ret (jK l)) H:=propext j9
def xhv(c:aI):eS M rs Q (.panic c) E [] H=Q (.panic c) H:=propext j9
def Dc:jE E H [] P=P []:=propext j9
def EO(t:Nat):jE E H (.tmp t::rs) P=LK B4 (lk E t) λ _ v=>jE E H rs λ vs=>P (v::vs):=propext j9
def xh0(t:Nat):jE E H (.kT t::rs) P=LK B4 (lk E t) λ _ v=>B3 B4 (Op.ae [v] H) λ _ v=>jE E H rs λ vs=>P (v::vs):=propext j9
def xh1(n t:Nat):jE E H (.de n t::rs) P=LK B4 (lk E t) λ _ v=>B3 B4 (Op.aq n [v] H) λ _ v=>jE E H rs λ vs=>P (v::vs):=propext j9
def Iy(v:AV):tq R (.ret v) H=R v H:=propext j9
end
def II:((0:Nat):Int)=0:=rfl
theorem zo(l:List AV):AV.cells (.agg l)=l:=rfl
def xk0(k:OM)(n:Int):AV.cells (.int k n)=[.int k n]:=rfl
def xia(b:Bool):AV.cells (.bool b)=[.bool b]:=rfl
def xk3(s:List UInt8):AV.cells (.str s)=[.str s]:=rfl
def xk2(b o:Nat):AV.cells (.ptr b o)=[.ptr b o]:=rfl
def NP(I:Nat->Env->ar->Prop)(D:List aN)(n:Nat)(Q:aG):aG:=λ e E D' H=>match e with
 | .normal=>D'=D /\ ∃m E',I m E' H/\yM E' E/\m<n
 |e=>Q e E D' H
theorem cu.intro{M:ak}{ctx:Ctx}{p:Kp×ai}{Q:aG}{E:Env}{D:List aN}{H:ar}(I:Nat->Env->ar->Prop)(j:∃n d,I n d H/\yM d E)(h:∀n E H,I n E H->W M ctx p B4 (NP I D n Q) E D H):cu (W M ctx p) Q E D H:=by
 obtain⟨n,d,l,o⟩:=j;refine⟨λ n E D' H=>D'=D/\I n E H,⟨n,d,⟨rfl,l⟩,o.ss⟩,λ n E D' H⟨e,r⟩=>?_⟩;subst e;refine W.mono (h n E H r) λ e E g H f=>?_;cases e with
 |normal=>obtain⟨q,m,i,a,b,c⟩:=f;exact⟨m,i,⟨q,a⟩,b.ss,c⟩
 |_=>exact f
def QY(P:Env->List aN->ar->Prop)(Q:aG):aG:=λ e E D H=>match e with
 | .normal=>P E D H
 |e=>Q e E D H
def xhx(P:Env->List aN->ar->Prop)(Q:aG)(E:Env)(D:List aN)(H:ar):QY P Q .normal E D H=P E D H:=propext j9
def HV(P:Env->List aN->ar->Prop)(Q:aG)(E:Env)(D:List aN)(H:ar):QY P Q .ret E D H=Q .ret E D H:=propext j9
def ah1(P:Env->List aN->ar->Prop)(Q:aG)(E:Env)(D:List aN)(H:ar)(l:Nat):QY P Q (.exit l) E D H=Q (.exit l) E D H:=propext j9
def LN(X:WX)(Q:aG):Nat->Env->List aN->ar->Prop
 |0,_,_,_=>False
 |n+1,E,D,H=>X B4 (QY (LN X Q n) Q) E D H
def Hv(X:WX)(Q:aG)(n:Nat)(E:Env)(D:List aN)(H:ar):LN X Q (n+1) E D H=X B4 (QY (LN X Q n) Q) E D H:=propext j9
def xhy(I:Nat->Env->ar->Prop)(D:List aN)(n:Nat)(Q:aG)(E:Env)(H:ar):NP I D n Q .normal E D H = ∃m c,I m c H/\yM c E/\m<n:=propext ⟨λ h=>h.2,λ h=>⟨rfl,h⟩⟩
def Hp(I:Nat->Env->ar->Prop)(D D':List aN)(n:Nat)(Q:aG)(E:Env)(H:ar):NP I D n Q .ret E D' H=Q .ret E D' H:=propext j9
def ae5(I:Nat->Env->ar->Prop)(D D':List aN)(n:Nat)(Q:aG)(E:Env)(H:ar)(l:Nat):NP I D n Q (.exit l) E D' H=Q (.exit l) E D' H:=propext j9
def ad3(I:Nat->Env->ar->Prop)(D D':List aN)(n:Nat)(Q:aG)(E:Env)(H:ar)(l:Nat):NP I D n Q (.goto l) E D' H=Q (.goto l) E D' H:=propext j9
def xj9(I:Nat->Env->ar->Prop)(D D':List aN)(n:Nat)(Q:aG)(E:Env)(H:ar)(c:aI):NP I D n Q (.panic c) E D' H=Q (.panic c) E D' H:=propext j9
def sw{α:Sort u}(b:Bool)(x y:α):α:=cond b x y
@[congr]def ac3{α:Sort u}{b c:Bool}{x y:α}(h:b=c):sw b x y=sw c x y:=by rw[h]
def PT{α:Sort u}(x y:α):sw B4 x y=x:=rfl
def PK{α:Sort u}(x y:α):sw B2 x y=y:=rfl
def JP{α:Sort u}(p:Prop)[Decidable p](x y:α):(if p then x else y)=sw (decide p) x y:=by grind [sw]
def RM(k t:Nat)(v:AV)(E:Env):lk ((k,v)::E) t=sw (decide (k=t)) (B1 v) (lk E t):=(xM ..).trans (JP ..)
def Gs(Q:aG)(E:Env)(D:List aN)(H:ar)(i l:Nat):fj i Q (.exit l) E D H=sw (decide (i=l)) (Q .normal E D H) (Q (.exit l) E D H):=(xjz ..).trans (JP ..)
def Vo(α:Type)(h:Decidable True)(x y:α):@ite α True h x y=x:=xg trivial
def WW(α:Type)(h:Decidable False)(x y:α):@ite α False h x y=y:=qy id
def O3(h:Decidable True)(x y:Prop):@ite Prop True h x y=x:=xg trivial
def Pp(h:Decidable False)(x y:Prop):@ite Prop False h x y=y:=qy id
def Rf:=HX @GU<|HX @Hk<|HX @E9<|HX ag1<|HX xj6<|HX EI<|HX xj7<|HX Dy<|HX PQ<|HX @JO<|HX ae0 <|
 HX GJ<|HX ac7<|HX ad8<|HX RM<|HX Dv<|HX ae3<|HX IE <|
 HX xec<|HX EF<|HX xkd<|HX xke<|HX xh2<|HX xd6<|HX ac8<|HX xj0<|HX xhq<|HX Gs <|
 HX xhx<|HX HV<|HX ah1<|HX Hv<|HX xhy<|HX Hp<|HX ae5<|HX ad3<|HX xj9<|HX Fc<|HX xeb<|HX xhv<|HX Dc<|HX EO<|HX xh0<|HX xh1 <|
 HX Iy<|HX UM<|HX Wk<|HX XX<|HX Wj<|HX Xh<|HX WQ<|HX Yy<|HX Xf<|HX UU<|HX Wr<|HX XK<|HX Xb<|HX Zs VD
def Qe:=HX Vo<|HX WW<|HX O3<|HX Pp<|HX @PT.{1}<|HX @PK.{1}<|HX @PT.{0}<|HX @PK.{0}<|HX Lr<|HX Kx<|HX @Ot<|HX @Rp<|HX @PL<|HX @Qz<|HX @Qn<|HX @RD<|HX @OB<|HX @QG<|HX @RA<|HX @KG<|HX Pk <|
 HX KW<|HX KY<|HX ad4<|HX ac6<|HX xml<|HX xfo<|HX DK<|HX KO<|HX Hn<|HX Hm<|HX PH <|
 HX zo<|HX xk0<|HX xia<|HX xk3<|HX xk2<|HX @decide_true<|HX @JJ<|HX Bool.not_true<|HX Bool.not_false<|HX not_true_eq_false<|HX not_false_eq_true<|HX @ne_eq.{1}<|HX FO<|HX uj<|HX false_and<|HX and_false <|
 HX @xt.{1}<|HX @zn.{1}<|HX @qr.{0,0}<|HX Ah<|HX yg<|HX @zj.{0}<|HX @z8.{0}<|HX @jo.{0} @Jo.{0}
def QZ:type_of% II/\type_of% Rf/\type_of% Qe:=⟨II,Rf,Qe⟩
section
variable{α:Type}{enc:α->List AV}{e size:Nat}{H0 H H':ar}{v:AV}{xs:List α}
def tt.to3{α β:Type}{m g:Bool}{o:Option (α×β)}{K:Bool -> α -> β->Prop}(h:tt m o λ _ a b=>K g a b):jF g o K:=by
 cases o with
 |none=>exact ND h
 |some a=>exact h
def K3{H:ar}{e size bytes:Nat}{v:AV}{n:Nat}{cells:List AV}(h:Own H e size v n cells){x:AV}{k:Nat}{new:List AV}(i:Sl H size x k new)(d:aL new=B4)(hs:0<size)
 (g:(n+k)*bytes<=140737488355328) (f:n+k<=140737488355328) {K:Bool->AV->ar->Prop} {m:Bool}
 (hk:∀c H',Own H' e size c (n+k) (cells++new)->Fr (aM v) H H'->(∀b,aM c b->aM v b\/H.au<=b)->K m c H'):jF m (Op.append e size bytes [v,x] H) K :=
 tt.to3 (m:=m) (by grind [q74])
def nR{H:ar}{e size bytes:Nat}{v:AV}{n:Nat}{cells:List AV}(h:Own H e size v n cells){zero:List AV}{x:AV}(q:zero.length=size)(p:x.cells.length=size)(c:aL x.cells=B4)(hs:0<size)
 (l:(n+1)*bytes<=140737488355328) (d:n+1<=140737488355328) {K:bE->(Nat->AV)->Bool->AV->ar->Prop} {m:Bool}
 (hk:∀f H',Own H' e size f (n+1) (cells++x.cells)->Fr (aM v) H H'->(∀b,aM f b->aM v b\/H.au<=b)->K (.row x.cells e (0,0) B4) (Op.sliceTo 1 1) m f H') :
 jF m (Op.buildSlice e 1 zero [(0,size)] [x]) λ g o mk=>jF g (Op.append e size bytes [v,mk H.au] (H.alloc o)) (K o mk):=by
 have:=GB (m:=m) h q p c hs l d (K:=λ o mk _ v H=>K o mk m v H) hk;obtain⟨o,mk,i,j⟩:∃o mk,Op.buildSlice e 1 zero [(0,size)] [x]=B1 (o,mk)/\tt B4 (Op.append e size bytes [v,mk H.au] (H.alloc o)) (λ _ v H=>K o mk m v H):=by
  unfold tt at this;split at this
  .rename_i a ha;exact⟨a.1,a.2,ha,this⟩
  grind
 refine jF.intro i ?_;unfold tt at j
 grind [jF.intro]
end
end
def qo(b o:Nat):Op.nilCheck [.ptr b o]=B1 (.ptr b o):=rfl
def xj(i:Nat)(l:List AV):Op.extract i [.tuple l]=l[i]?:=xmj i l
end Go.Am
namespace Go.Am
def JK:List bM->Option Nat
 |[.tmp t]=>B1 t
 |_=>B5
def KC(s:aP):Option Nat:=match s.op,s.iB,s.guard,s.dst with
 | .defer,B2,B5,B5=>JK s.args
 |_,_,_,_=>B5
def G4:List aP->Option (List aP×Nat×List aP)
 |[]=>B5
 |s::r=>match KC s with
  |some t=>B1 ([],t,r)
  |none=>(G4 r).map λ q=>(s::q.1,q.2.1,q.2.2)
def su:ai->Option (ai×Nat×ai)
 | .region l=>(G4 l).map λ q=>(.region q.1,q.2.1,.region q.2.2)
 | .seq a b=>match su a with
  |some q=>B1 (q.1,q.2.1,.seq q.2.2 b)
  |none=>(su b).map λ q=>(.seq a q.1,q.2.1,q.2.2)
 |_=>B5
noncomputable def Ax(c:ai):ai:=PZ (motive:=λ _=>ai) .stuck (λ q=>q.1) (su c)
noncomputable def wK(c:ai):ai:=PZ (motive:=λ _=>ai) .stuck (λ q=>q.2.2) (su c)
section
variable{M:ak}{ctx:Ctx}
def DX(W:St->cR->Prop)(t:Nat)(st:St)(Q:cR):Prop:=∃g first cap,st.tm.get t=B1 (.fn (.func g) first cap)/\W ⟨st.tm,.fn (.func g) (first++cap)::st.aZ,st.up,st.H⟩ Q
def ER{s:aP}{st:St}{Q Q':cR}{K:St->Prop}(h:∀c st,Q (.panic c) st=Q' (.panic c) st):rq M ctx s st Q K=rq M ctx s st Q' K:=by
 have e:∀d tm aZ up,AJ d tm aZ up Q=AJ d tm aZ up Q':=λ d tm aZ up=>by
  funext c H;cases d with
  |none=>rfl
  |some ds=>exact h _ _
 simp_all[pX,rq]
def xk6(hr:ctx.round=B5):∀{l l1 l2:List aP}{t:Nat},G4 l=B1 (l1,t,l2) -> ∀{st:St}{Q:cR},oI M ctx l1 st (DW (DX (oI M ctx l2) t) Q)->oI M ctx l st Q
 |s::r,l1,l2,t,h,st,Q,w=>by
  unfold G4 at h;cases c:KC s with
  |some t' =>
   rw[c]at h;injection h with h;injection h with i h;injection h with j p
   subst i;subst j;subst p;have⟨iB,dst,guard,args,op,x⟩:=s;unfold KC at c;split at c
   .rename_i e1 e2 f o;subst e1;subst e2;subst f;subst o;unfold JK at c;split at c
    .rename_i e;simp only at e;subst e;cases c;have⟨g,first,cap,i,j⟩:=w;exact bR.intro (m:=aJ) i ⟨hr,j⟩
    grind
   grind
  |none =>
   rw[c]at h;have⟨q,u,e⟩:=xr.1 h;injection e with e1 e;injection e with e2 f
   subst e1;subst e2;subst f;have w:rq M ctx s st (DW (DX (oI M ctx q.2.2) q.2.1) Q) λ d=>oI M ctx q.1 d (DW (DX (oI M ctx q.2.2) q.2.1) Q):=w;rw[ER (Q:=DW (DX (oI M ctx q.2.2) q.2.1) Q) (Q':=Q) (λ _ _=>rfl)]at w;exact xbi w (by grind) λ d h=>xk6 hr u h
def Wu(hr:ctx.round=B5):∀{c x y:ai}{t:Nat},su c=B1 (x,t,y) -> ∀{st:St}{Q:cR},WP M ctx x st (DW (DX (WP M ctx y) t) Q)->WP M ctx c st Q
 | .region l,x,y,t,h,st,Q,w=>by
  unfold su at h;have⟨q,f,e⟩:=xr.1 h;injection e with e1 e;injection e with e2 d
  subst e1;subst e2;subst d;exact xk6 hr f w
 | .seq a b,x,y,t,h,st,Q,w=>by
  unfold su at h;cases ha:su a with
  |some q =>
   rw[ha]at h;injection h with h;injection h with i h;injection h with j m
   subst i;subst j;subst m;refine Wu hr (c:=a) ha (pW w λ e g h=>?_);cases e with
   |normal=>exact h
   |_=>exact h
  |none =>
   rw[ha]at h;have⟨q,f,e⟩:=xr.1 h;injection e with e1 e;injection e with e2 d
   subst e1;subst e2;subst d;show WP M ctx a st (DW (WP M ctx b) Q);refine pW (show WP M ctx a st (DW (WP M ctx q.1) (DW (DX (WP M ctx q.2.2) q.2.1) Q))from w) λ e g h=>?_;cases e with
   |normal=>exact Wu hr (c:=b) f h
   |_=>exact h
end
def Fe(M:ak)(ctx:Ctx)(p:Kp×ai)(t:Nat)(Q:aG):aG:=λ e E D H=>match e with
 | .normal=>LK B4 (lk E t) λ _ v=>∃g first cap,v=.fn (.func g) first cap/\W M ctx p B4 Q E (.fn (.func g) (first++cap)::D) H
 |e=>Q e E D H
def xd9{M:ak}{ctx:Ctx}{p:Kp×ai}{t:Nat}{Q:aG}{E:Env}{D:List aN}{H:ar}:Fe M ctx p t Q .normal E D H=LK B4 (lk E t) λ _ v=>∃g first cap,v=.fn (.func g) first cap/\W M ctx p B4 Q E (.fn (.func g) (first++cap)::D) H:=rfl
def _4{M:ak}{ctx:Ctx}{p:Kp×ai}{t:Nat}{Q:aG}{E:Env}{D:List aN}{H:ar}:Fe M ctx p t Q .ret E D H=Q .ret E D H:=rfl
def Nr{M:ak}{rs:List eE}{ks:List Nat}{Q:bP->ar->Prop}{up:Option aI}{e:aX}{st:St}(h:QQ ks (eS M rs Q) up e st):Xq M rs (λ e u H=>u=up/\Q e H) e st:=by
 have⟨f,g,i,d⟩:=h;have⟨tm,D,u,H'⟩:=st;have f:u=up:=f;subst f;have mono:∀{m:Option aI},nO M rs g Q D m H'->Ay M rs tm (λ e H=>u=u/\Q e H) D m H':=λ{m}h=>by
  grind [nO.Tc]
 cases e with
 |normal=>exact mono d
 |ret=>exact mono d
 |panic c=>exact mono d
 |exit _=>exact d.elim
 |goto _=>exact d.elim
def Ir{M:ak}{f:Nat}{fn:cj}(u:M.func f=B1 fn){p ky:Kp}(hk:p.ah=ky.ah){t:Nat}(s:su fn.body=B1 (Ax fn.body,t,wK fn.body)){vs:List AV}(r:jT 0 vs.length p.ah=B4){H:ar}{Q:bP->ar->Prop}
 (h:W M ⟨B5,f⟩ (p,part (Ax fn.body) 0) B4 (Fe M ⟨B5,f⟩ (ky,part (wK fn.body) 0) t (eS M fn.results Q)) (kP 0 vs) [] H):FK M f vs H Q:=by
 rw[mj,TM]at h;refine C_ u (Wu rfl s (pW (W3.wp (fD (Ax fn.body)) _ (qm _) (up:=B5) h (W6 r)) λ e st h=>?_));cases e with
 |normal =>
  have⟨d,i,j,l⟩:=h;have⟨tm,D,up,H'⟩:=st;have d:up=none:=d;subst d;obtain⟨v,w,g,first,cap,rfl,q⟩:=LK.elim (m:=B4) (o:=lk i t) (K:=λ _ v=>∃g first cap,v=.fn (.func g) first cap/\W M ⟨B5,f⟩ (ky,part (wK fn.body) 0) B4 (eS M fn.results Q) i (.fn (.func g) (first++cap)::D) H') l;rw[mj,TM]at q;exact⟨g,first,cap,(j t _ w).1,pW (W3.wp (fD (wK fn.body)) _ (qm _) (up:=B5) q (hk▸j)) λ e st h=>Nr h⟩
 |ret=>have⟨d,i,j,l⟩:=h;exact Nr (e:=aX.ret) (rs:=fn.results) (ks:=p.ah) (Q:=Q) (up:=B5) ⟨d,i,j,l⟩
 |panic c=>have⟨d,i,j,l⟩:=h;exact Nr (e:=aX.panic c) (rs:=fn.results) (ks:=p.ah) (Q:=Q) (up:=B5) ⟨d,i,j,l⟩
 |exit k=>obtain⟨d,i,j,l⟩:=h;exact Nr (M:=M) (e:=aX.exit k) (rs:=fn.results) (ks:=p.ah) (Q:=Q) (up:=B5) ⟨d,i,j,l⟩
 |goto k=>obtain⟨d,i,j,l⟩:=h;exact Nr (M:=M) (e:=aX.goto k) (rs:=fn.results) (ks:=p.ah) (Q:=Q) (up:=B5) ⟨d,i,j,l⟩
def HG{M:ak}{f:Nat}{fn:cj}(c:M.func f=B1 fn){ks:Kp}{vs:List AV}(hk:jT 0 vs.length ks.ah=B4){up:Option aI}{H:ar}{Q:bP->ar->Prop}
 (h:W M ⟨B5,f⟩ (ks,part fn.body 0) B4 (eS M fn.results Q) (kP 0 vs) [] H):∃e H',jX M f vs up H e up H'/\Q e H':=by
 rw[mj,TM]at h;obtain⟨e,d,H',g,rfl,i⟩:=ζ c (pW (W3.wp (fD fn.body) fn.body (qm _) (up:=up) h (W6 hk)) λ e st h=>Nr h)
 grind
abbrev WE(M:ak)(c:Ctx)(p:Kp×ai)(R:aG->Env->List aN->ar->Prop):Prop:=∀Q E D H,W M c p B4 Q E D H=R Q E D H
end Go.Am
