import Derived.Test.YtgjdmncoonceaaaGreatDoorAmEZb
import Derived.Test.YtgjdmncoonceaaaGreatDoorAmEZa
set_option linter.unusedVariables false
set_option linter.unusedSimpArgs false
set_option linter.defProp false
open And renaming intro→Gf
open Bool renaming rec→O8,false→B2,true→B4
open False renaming elim→NR
open Go renaming IntKind→OA,Program→Jg
open List renaming rec→Ap
open Nat renaming beq→I4,ble→Nz,blt→Oz
open Option renaming rec→QY,none→B5,some→B1
namespace Go.Am
def aI:Bool:=B4
def bR{α:Type}(m:Bool)(o:Option α)(K:α->Prop):Prop:=match o with
 |some a=>K a
 |none=>False
def iP{α β:Type}(m:Bool)(o:Option (α×β))(K:α -> β->Prop):Prop:=match o with
 |some a=>K a.1 a.2
 |none=>False
def GG(m:Bool)(q:Bool)(A B:Prop):Prop:=match q with
 |true=>A
 |false=>B
@[congr]def aa4{α:Type}{m c:Bool}{o o':Option α}{K:α->Prop}(hm:m=c)(h:o=o'):bR m o K=bR c o' K:=by rw[h,hm]
@[congr]def aa1{α β:Type}{m c:Bool}{o o':Option (α×β)}{K:α -> β->Prop}(hm:m=c)(h:o=o'):iP m o K=iP c o' K:=by rw[h,hm]
@[congr]def aa9{m c q d:Bool}{A B:Prop}(hm:m=c)(h:q=d):GG m q A B=GG c d A B:=by rw[h,hm]
def bR.elim{α:Type}{m:Bool}{o:Option α}{K:α->Prop}(h:bR m o K):∃a,o=B1 a/\K a:=by
 cases o with
 |none=>exact NR h
 |some a=>exact⟨a,rfl,h⟩
def iP.elim{α β:Type}{m:Bool}{o:Option (α×β)}{K:α -> β->Prop}(h:iP m o K):∃a b,o=B1 (a,b)/\K a b:=by
 cases o with
 |none=>exact NR h
 |some a=>exact⟨a.1,a.2,rfl,h⟩
theorem bR.intro{α:Type}{m:Bool}{o:Option α}{K:α->Prop}{a:α}(h:o=B1 a)(hk:K a):bR m o K:=by subst h;exact hk
theorem iP.intro{α β:Type}{m:Bool}{o:Option (α×β)}{K:α -> β->Prop}{a:α}{b:β}(h:o=B1 (a,b))(hk:K a b):iP m o K:=by subst h;exact hk
def GG.dec{m:Bool}{p:Prop}[Decidable p]{A B:Prop}(c:p->A)(d:¬p->B):GG m (decide p) A B:=by
 by_cases h:p
 .rw [ke h];exact c h
 .rw [ju h];exact d h
def GG.cases{m:Bool}{q:Bool}{A B:Prop}(c:q=B4->A)(d:q=B2->B):GG m q A B:=by
 cases q with
 |true=>exact c rfl
 |false=>exact d rfl
def asBool:AV->Option Bool
 | .bool q=>B1 q
 |_=>B5
noncomputable section
structure ak where
 prog:jU
 told:cj
 mute:Nat->Bool
 ok:∀f vs up H,mute f=B2->told f vs up H=B5
def ak.call(M:ak)(n:Nat):cj:=ny M.prog M.told n
def ak.func(M:ak)(f:Nat):Option bZ:=cond (M.mute f) B5 (M.prog.func f)
def ak.kI(M:ak):Nat->String->Option Nat:=M.prog.kI
def ak.zF{M:ak}{f:Nat}{fn:bZ}(h:M.func f=B1 fn):M.mute f=B2/\M.prog.func f=B1 fn:=by
 unfold ak.func at h;cases hm:M.mute f with
 |true=>rw[hm]at h;cases h
 |false=>rw[hm]at h;exact⟨rfl,h⟩
def ak.Aa{M:ak}{f:Nat}(h:M.mute f=B2)(n:Nat)(vs:List AV)(up:Option aH)(H:ar):M.call (n+1) f vs up H=HG M.prog (M.call n) n f vs up H:=by
 show(match M.told f vs up H with|some r=>B1 r|none=>HG M.prog (ny M.prog M.told n) n f vs up H)=_;rw[M.ok f vs up H h];rfl
variable(AP:ak)
def yI(n k:Nat)(ctx:Ctx):RT:=⟨AP.prog,AP.call n,rounds AP.prog (AP.call n) n k,n,ctx⟩
def jS(f:Nat)(vs:List AV)(up:Option aH)(H:ar)(e:bM)(up':Option aH)(H':ar):Prop:=∃n0,∀n,n0<=n->AP.call n f vs up H=B1 (e,up',H')
def CALL(f:Nat)(vs:List AV)(H:ar)(e:bM)(H':ar):Prop:=jS AP f vs B5 H e B5 H'
def sI(l:Nat)(vs:List AV)(H:ar)(e:bM)(H':ar):Prop:=∃n0,∀n k,n0<=n->n0<=k->rounds AP.prog (AP.call n) n k vs l H=B1 (e,H')
def uz:mG->List AV->ar->bM->ar->Prop
 | .func g=>CALL AP g
 | .yield l=>sI AP l
def nQ(m:Bool)(f:mG)(vs:List AV)(H:ar)(K:AV->ar->Prop)(E:aH->ar->Prop):Prop :=
 ∃e H',uz AP f vs H e H'/\match e with
  | .ret v=>K v H'
  | .panic c=>E c H'
@[congr]def aa2{AP:ak}{m d:Bool}{f:mG}{vs c:List AV}{H:ar}{K:AV->ar->Prop}{E:aH->ar->Prop}(hm:m=d)(h:vs=c):nQ AP m f vs H K E=nQ AP d f c H K E:=by rw[h,hm]
def ND(m:Bool)(vs:List AV)(K:mG->List AV->Prop):Prop:=match vs with
 | .fn (.func g) first cap::args=>K (.func g) (first++(args++cap))
 | .fn (.yield l) first []::args=>K (.yield l) (first++args)
 |_=>False
@[congr]def ab0{m d:Bool}{vs c:List AV}{K:mG->List AV->Prop}(hm:m=d)(h:vs=c):ND m vs K=ND d c K:=by rw[h,hm]
def NY(m:Bool)(name:String)(vs:List AV)(K:mG->List AV->Prop):Prop:=match vs with
 | .iface t v::args=>bR aI (AP.kI t name) λ g=>K (.func g) (v::args)
 |_=>False
@[congr]def aa7{AP:ak}{m d:Bool}{name:String}{vs c:List AV}{K:mG->List AV->Prop}(hm:m=d)(h:vs=c):NY AP m name vs K=NY AP d name c K:=by rw[h,hm]
def qB(tm:T AV):List bL->(List AV->Prop)->Prop
 |[],K=>K []
 | .tmp t::xs,K=>bR aI (tm.get t) λ v=>qB tm xs λ vs=>K (v::vs)
 | .const v::xs,K=>qB tm xs λ vs=>K (v::vs)
 | .eR g::xs,K=>qB tm xs λ vs=>K (.ptr g 0::vs)
 | .func f::xs,K=>qB tm xs λ vs=>K (.fn (.func f) [] []::vs)
def qB.elim{tm:T AV}:∀{l:List bL}{K:List AV->Prop},qB tm l K -> ∃vs,mF tm l=B1 vs/\K vs
 |[],K,h=>⟨[],rfl,h⟩
 | .tmp t::xs,K,h=>by
  obtain⟨v,f,h⟩:=bR.elim (m:=aI) h;obtain⟨vs,c,d⟩:=qB.elim h;exact⟨v::vs,by simp[mF,rV,f,c],d⟩
 | .const v::xs,K,h=>by
  obtain⟨vs,c,d⟩:=qB.elim (l:=xs) h;exact⟨v::vs,by simp[mF,rV,c],d⟩
 | .eR v::xs,K,h=>by
  obtain⟨vs,c,d⟩:=qB.elim (l:=xs) h;exact⟨_,by simp[mF,rV,c],d⟩
 | .func v::xs,K,h=>by
  obtain⟨vs,c,d⟩:=qB.elim (l:=xs) h;exact⟨_,by simp[mF,rV,c],d⟩
def FV(tm:T AV)(x:bL)(K:AV->Prop):Prop:=match x with
 | .tmp t=>bR aI (tm.get t) K
 | .const v=>K v
 | .eR g=>K (.ptr g 0)
 | .func f=>K (.fn (.func f) [] [])
def FV.elim{tm:T AV}{x:bL}{K:AV->Prop}(h:FV tm x K):∃v,rV tm x=B1 v/\K v:=by
 cases x with
 |tmp t=>exact bR.elim (m:=aI) h
 |const v=>exact⟨v,rfl,h⟩
 |eR v=>exact⟨_,rfl,h⟩
 |func v=>exact⟨_,rfl,h⟩
abbrev cP:=aX->St->Prop
def AW(ps:Option (List Nat))(tm:T AV)(aZ:List aL)(up:Option aH)(Q:cP)(c:aH)(H:ar):Prop:=match ps with
 |some ds=>Q (.panic c) ⟨forget ds tm,aZ,up,H⟩
 |none=>False
def yQ(m:Bool)(ctx:Ctx)(up:Option aH)(K:AV->Option aH->Prop):Prop:=ctx.round=B5/\match up with
 |some ((v,B2)::older)=>K v (B1 ((v,B4)::older))
 |_=>K .nili up
@[congr]def aa3{m d:Bool}{ctx:Ctx}{up c:Option aH}{K:AV->Option aH->Prop}(hm:m=d)(h:up=c):yQ m ctx up K=yQ d ctx c K:=by rw[h,hm]
def Iw(m:Bool)(ctx:Ctx)(vs:List AV)(aZ:List aL)(K:List aL->Prop):Prop:=ctx.round=B5/\match vs with
 | .fn (.func f) first cap::args=>K (.fn (.func f) (first++(args++cap))::aZ)
 |_=>False
@[congr]def aa5{m d:Bool}{ctx:Ctx}{vs c:List AV}{aZ:List aL}{K:List aL->Prop}(hm:m=d)(h:vs=c):Iw m ctx vs aZ K=Iw d ctx c aZ K:=by rw[h,hm]
def gJ(vs:List AV)(H:ar)(E:aH->ar->Prop):Prop:=match vs with
 |[.iface t v]=>E [(.iface t v,B2)] H
 |_=>False
@[congr]def aa0{vs c:List AV}{H:ar}{E:aH->ar->Prop}(h:vs=c):gJ vs H E=gJ c H E:=by rw[h]
def pW(ctx:Ctx)(dst:Option Nat)(ps:Option (List Nat))(st:St)(Q:cP)(K:St->Prop)(vs:List AV):fN->Prop
 | .pure f=>bR aI (f vs) λ v=>K ⟨eK dst v st.tm,st.aZ,st.up,st.H⟩
 | .read f=>bR aI (f vs st.H) λ v=>K ⟨eK dst v st.tm,st.aZ,st.up,st.H⟩
 | .alloc f=>iP aI (f vs) λ o mk=>K ⟨eK dst (mk st.H.au) st.tm,st.aZ,st.up,st.H.alloc o⟩
 | .gY f=>iP aI (f vs st.H) λ v H=>K ⟨eK dst v st.tm,st.aZ,st.up,H⟩
 | .ik g=>nQ AP aI (.func g) vs st.H (λ v H=>K ⟨eK dst v st.tm,st.aZ,st.up,H⟩) (AW ps st.tm st.aZ st.up Q)
 | .im=>ND aI vs λ f vs=>nQ AP aI f vs st.H (λ v H=>K ⟨eK dst v st.tm,st.aZ,st.up,H⟩) (AW ps st.tm st.aZ st.up Q)
 | .invoke name=>NY AP aI name vs λ f vs=>nQ AP aI f vs st.H (λ v H=>K ⟨eK dst v st.tm,st.aZ,st.up,H⟩) (AW ps st.tm st.aZ st.up Q)
 | .recover=>match vs with
  |[]=>yQ aI ctx st.up λ v up=>K ⟨eK dst v st.tm,st.aZ,up,st.H⟩
  |_=>False
 | .defer=>Iw aI ctx vs st.aZ λ aZ=>K ⟨eK dst .undef st.tm,aZ,st.up,st.H⟩
 | .panic=>gJ vs st.H (AW ps st.tm st.aZ st.up Q)
def RU(dst:Option Nat)(st:St)(vs:List AV):fN->Prop
 | .read f=>match dst with
  |some d=>bR aI (f vs st.H) λ v=>bR aI (st.tm.get d) λ v'=>v=v'
  |none=>False
 |_=>False
def rN(ctx:Ctx)(s:aQ)(st:St)(Q:cP)(K:St->Prop):Prop :=
 match s.iA with
 |false=>match s.guard with
  |none=>qB st.tm s.args λ vs=>pW AP ctx s.dst s.cM st Q K vs s.op
  |some g=>bR aI (cV g.2 (st.tm.get g.1)) λ w=>GG aI w (qB st.tm s.args λ vs=>pW AP ctx s.dst s.cM st Q K vs s.op) (K ⟨eK s.dst .undef st.tm,st.aZ,st.up,st.H⟩)
 |true=>match s.guard with
  |none=>qB st.tm s.args λ vs=>RU s.dst st vs s.op/\K st
  |some g=>bR aI (cV g.2 (st.tm.get g.1)) λ w=>GG aI w (qB st.tm s.args λ vs=>RU s.dst st vs s.op/\K st) (s.dst.isSome=B4/\K st)
def oI(ctx:Ctx):List aQ->St->cP->Prop
 |[],st,Q=>Q .normal st
 |s::rest,st,Q=>rN AP ctx s st Q λ st'=>oI ctx rest st' Q
def ES(W:St->cP->Prop)(Q:cP):cP:=λ e st=>match e with
 | .normal=>W st Q
 |e=>Q e st
def BLK(id:Nat)(Q:cP):cP:=λ e st=>match e with
 | .exit id'=>Q (cond (I4 id id') .normal (.exit id')) st
 |e=>Q e st
def SCP(b:ai)(Q:cP):cP:=λ e st=>match e with
 | .goto l=>FJ b l=B2/\Q (.goto l) st
 |e=>Q e st
def kZ(ah:Option (List Nat))(st:St):St:=match ah with
 |none=>st
 |some ks=>{st with tm:=YR st.tm ks .nil}
def Ke(W:St->cP->Prop)(ah:Option (List Nat))(st:St)(Q:cP):Prop :=
 ∃I:Nat->St->Prop,(∃n,I n st) /\ ∀n st,I n st->W (kZ ah st) λ e st'=>match e with
  | .normal=>∃m,m<n/\I m st'
  |e=>Q e st'
def Vi(st:St)(aZ:List aL)(l:Nat)(Q:cP)(e:bM)(H:ar):Prop:=match e with
 | .panic c=>Q (.panic c) {st with aZ:=aZ,H:=H}
 | .ret _=>∃s p f k tm d,H.get l=B1 (.loop s p f k tm d)/\s≠ .busy/\Q (rG p) {st with aZ:=aZ,H:=H.set l (.loop .exhausted p f k tm d)}
def mT(ctx:Ctx)(st:St)(k:Nat)(H0:ar)(aZ:List aL)(d:Nat)(Q:cP):AV->Prop
 | .fn (.func g) first cap=>∃e H',CALL AP g (first++(.fn (.yield H0.au) [] []::cap)) (H0.alloc (.loop .ready B5 ctx.fn k st.tm d)) e H'/\Vi st aZ H0.au Q e H'
 |_=>False
def Jr(ctx:Ctx)(k:Nat)(st:St)(Q:cP)(v:AV):Prop:=match ctx.round with
 |none=>mT AP ctx st k (st.H.alloc (.deferred (B1 []))) (.iy st.H.au::st.aZ) st.H.au Q v
 |some l=>bR aI (DB st.H l) λ d=>mT AP ctx st k st.H st.aZ d Q v
def WP(ctx:Ctx):ai->St->cP->Prop
 | .skip,st,Q=>Q .normal st
 | .label _,st,Q=>Q .normal st
 | .region steps,st,Q=>oI AP ctx steps st Q
 | .seq a b,st,Q=>WP ctx a st (ES (WP ctx b) Q)
 | .cond c a b,st,Q=>FV st.tm c λ v=>bR aI (asBool v) λ q=>GG aI q (WP ctx a st Q) (WP ctx b st Q)
 | .block id b,st,Q=>WP ctx b st (BLK id Q)
 | .loop ah b,st,Q=>Ke (WP ctx b) ah st Q
 | .exit id,st,Q=>Q (.exit id) st
 | .goto l,st,Q=>Q (.goto l) st
 | .ret,st,Q=>Q .ret st
 | .stuck,_,_=>False
 | .scope b,st,Q=>WP ctx b st (SCP b Q)
 | .rangeFunc f k,st,Q=>FV st.tm f λ v=>Jr AP ctx k st Q v
section
variable(ctx:Ctx)(st:St)(Q:cP)
def XL(s:aQ)(l:List aQ):oI AP ctx (s::l) st Q=rN AP ctx s st Q λ c=>oI AP ctx l c Q:=propext kc
end
def EX(ctx:Ctx)(c:ai)(st:St)(r:aX×St):Prop:=∃n0,∀n k,n0<=n->n0<=k->(bJ c).run (yI AP n k ctx) st=B1 r
def EXS(ctx:Ctx)(l:List aQ)(st:St)(r:aX×St):Prop:=∃n0,∀n k,n0<=n->n0<=k->(ib l).run (yI AP n k ctx) st=B1 r
def uz.run{AP:ak}{f:mG}{vs:List AV}{H:ar}{e:bM}{H':ar}(h:uz AP f vs H e H') :
 ∃n0,∀n k,n0<=n->n0<=k->df (AP.call n) (rounds AP.prog (AP.call n) n k) f vs H=B1 (e,H'):=by
 cases f with
 |func g=>obtain⟨n0,h⟩:=h;exact⟨n0,λ n k hn _=>by simp[df,h n hn]⟩
 |yield l=>obtain⟨n0,h⟩:=h;exact⟨n0,λ n k hn hk=>by simp[df,h n k hn hk]⟩
def q76:(∀v,cD v v=B4)/\(∀l,fq l l=B4):=by
 have e1:∀n,I4 n n=true:=λ n=>by simp
 have e2:∀k,sF k k=true:=λ k=>by cases k<;>rfl
 have c:∀i,vD i i=true:=λ i=>by rw[DM];simp
 have d:∀s,A8 s s=true:=λ s=>by rw[ML];simp
 refine⟨λ v=>?_,λ l=>?_⟩
 .refine AV.rec (motive_1:=λ v=>cD v v=B4) (motive_2:=λ l=>fq l l=B4) ?_ ?_ ?_ ?_ ?_ ?_ ?_ ?_ ?_ ?_ ?_ ?_ ?_ ?_ ?_ ?_ ?_ ?_ ?_ v
  all_goals (intros;first|rfl|(simp only[cD,fq,zy,beq_self_eq_true, *];done)|(rename_i f _ _ _ _;cases f<;>simp only[cD,zy, *]))
 .refine AV.rec_1 (motive_1:=λ v=>cD v v=B4) (motive_2:=λ l=>fq l l=B4) ?_ ?_ ?_ ?_ ?_ ?_ ?_ ?_ ?_ ?_ ?_ ?_ ?_ ?_ ?_ ?_ ?_ ?_ ?_ l
  all_goals (intros;first|rfl|(simp only[cD,fq,zy,beq_self_eq_true, *];done)|(rename_i f _ _ _ _;cases f<;>simp only[cD,zy, *]))
def xj9(v:AV):cD v v=true:=q76.1 v
def RU.run{d:Option Nat}{st:St}{vs:List AV}{op:fN}(h:RU d st vs op):∃t,d=B1 t/\qX (T.oY (T.path t)).run st vs op=true:=by
 cases op with
 |read f =>
  cases d with
  |none=>exact NR h
  |some t =>
   refine⟨t,rfl,?_⟩;obtain⟨v,g,h⟩:=bR.elim (m:=aI) h;obtain⟨j,i,h⟩:=bR.elim (m:=aI) h;subst h;have c:(T.oY (T.path t)).run st.tm=B1 v:=by rw[T.jW];exact i
   simp[qX,g,c,xj9]
 |_=>exact NR h
def pW.run{AP:ak}{ctx:Ctx}{dst:Option Nat}{t:Option (List Nat)}{st:St}{Q:cP}{K:St->Prop}{vs:List AV}{op:fN}(h:pW AP ctx dst t st Q K vs op)
 {kk:Nat->Nat->St->gZ} (p:∀st,K st -> ∃e d,Q e d /\ ∃n0,∀n k,n0<=n->n0<=k->kk n k st=B1 (e,d)) :
 ∃e d,Q e d /\ ∃n0,∀n k,n0<=n->n0<=k->(qY (lJ dst).run t op).run (yI AP n k ctx) st (kk n k) vs=B1 (e,d):=by
 have hp:∀v tm,(lJ dst).run v tm=eK dst v tm:=VK dst;have call:∀{f vs},nQ AP aI f vs st.H (λ v H=>K ⟨eK dst v st.tm,st.aZ,st.up,H⟩) (AW t st.tm st.aZ st.up Q) ->
  ∃e d,Q e d /\ ∃n0,∀n k,n0<=n->n0<=k->((df (AP.call n) (rounds AP.prog (AP.call n) n k) f vs st.H).bind λ r=>fV (lJ dst).run t st (kk n k) r)=B1 (e,d):=by
  rintro f vs ⟨e,H',l,h⟩;obtain⟨n0,l⟩:=l.run;cases e with
  |ret v =>
   obtain⟨e,d,j,n1,i⟩:=p _ h;refine⟨e,d,j,max n0 n1,λ n k hn hk=>?_⟩;rw[l n k (by omega) (by omega)]
   simpa[fV,hp]using i n k (by omega) (by omega)
  |panic c =>
   cases t with
   |none=>exact NR h
   |some ds =>
    refine⟨_,_,h,n0,λ n k hn hk=>?_⟩;rw[l n k (by omega) (by omega)];simp[fV]
 cases op with
 |pure f =>
  obtain⟨v,l,h⟩:=bR.elim (m:=aI) h;obtain⟨e,d,j,n1,i⟩:=p _ h;exact⟨e,d,j,n1,λ n k hn hk=>by simp[qY,Eg,l,hp,i n k hn hk]⟩
 |read f =>
  obtain⟨v,l,h⟩:=bR.elim (m:=aI) h;obtain⟨e,d,j,n1,i⟩:=p _ h;exact⟨e,d,j,n1,λ n k hn hk=>by simp[qY,DV,l,hp,i n k hn hk]⟩
 |alloc f =>
  simp only[pW]at h;obtain⟨o,mk,l,h⟩:=iP.elim (m:=aI) h;obtain⟨e,d,j,n1,i⟩:=p _ h;exact⟨e,d,j,n1,λ n k hn hk=>by simp[qY,xL,l,hp,i n k hn hk]⟩
 |gY f =>
  simp only[pW]at h;obtain⟨o,mk,l,h⟩:=iP.elim (m:=aI) h;obtain⟨e,d,j,n1,i⟩:=p _ h;exact⟨e,d,j,n1,λ n k hn hk=>by simp[qY,Ks,l,hp,i n k hn hk]⟩
 |ik f=>exact call h
 |im =>
  simp only[pW,ND]at h;split at h
  .exact call h
  .exact call h
  .exact NR h
 |invoke name =>
  simp only[pW,NY]at h;split at h
  .obtain ⟨g,hg,h⟩:=bR.elim (m:=aI) h;obtain⟨e,d,j,n1,i⟩:=call h;exact⟨e,d,j,n1,λ n k hn hk=>by simpa[qY,tH,yI,(show AP.prog.kI _ name=B1 g from hg)]using i n k hn hk⟩
  .exact NR h
 |recover =>
  simp only[pW]at h;split at h
  .obtain ⟨hr,h⟩:=h;split at h
   .rename_i v s q;obtain⟨e,d,j,n1,i⟩:=p _ h;exact⟨e,d,j,n1,λ n k hn hk=>by simpa[qY,Tg,yI,hr,Ru,q,hp]using i n k hn hk⟩
   .rename_i q;obtain⟨e,d,j,n1,i⟩:=p _ h;refine⟨e,d,j,n1,λ n k hn hk=>?_⟩;have:Ru (lJ dst).run st=⟨eK dst .nili st.tm,st.aZ,st.up,st.H⟩:=by
     unfold Ru;split
     .rename_i v s hu;exact(q _ _ hu).elim
     .rw [hp]
    simpa[qY,Tg,yI,hr,this]using i n k hn hk
  .exact NR h
 |defer =>
  obtain⟨hr,h⟩:=h;split at h
  .obtain ⟨e,d,j,n1,i⟩:=p _ h;exact⟨e,d,j,n1,λ n k hn hk=>by simpa[qY,wN,yI,hr,hp]using i n k hn hk⟩
  .exact NR h
 |panic =>
  simp only[pW,gJ]at h;split at h
  .cases t with
   |none=>exact NR h
   |some ds=>exact⟨_,_,h,0,λ n k hn hk=>by simp[qY,xN,fV]⟩
  .exact NR h
def rN.run{AP:ak}{ctx:Ctx}{s:aQ}{st:St}{Q:cP}{K:St->Prop}(h:rN AP ctx s st Q K)
 {kk:Nat->Nat->St->gZ} (o:∀st,K st -> ∃e c,Q e c /\ ∃n0,∀n k,n0<=n->n0<=k->kk n k st=B1 (e,c)) :
 ∃e c,Q e c /\ ∃n0,∀n k,n0<=n->n0<=k->(gQ s).run (yI AP n k ctx) (kk n k) st=B1 (e,c):=by
 obtain⟨iA,dst,guard,args,op,u⟩:=s;have hp:∀v tm,(lJ dst).run v tm=eK dst v tm:=VK dst;have p:∀g,(T.oY (T.path g)).run st.tm=st.tm.get g:=λ g=>by rw[T.jW];rfl
 cases iA with
 |false =>
  cases guard with
  |none =>
   obtain⟨vs,l,h⟩:=qB.elim h;obtain⟨e,c,j,n0,f⟩:=h.run o;exact⟨e,c,j,n0,λ n k hn hk=>by simpa[gQ,Ia,l]using f n k hn hk⟩
  |some g =>
   obtain⟨w,hw,h⟩:=bR.elim (m:=aI) h;cases w with
   |true =>
    obtain⟨vs,l,h⟩:=qB.elim h;obtain⟨e,c,j,n0,f⟩:=h.run o;exact⟨e,c,j,n0,λ n k hn hk=>by simpa[gQ,p,hw,Ia,l]using f n k hn hk⟩
   |false =>
    obtain⟨e,c,j,n0,f⟩:=o _ h;exact⟨e,c,j,n0,λ n k hn hk=>by simpa[gQ,p,hw,hp]using f n k hn hk⟩
 |true =>
  cases guard with
  |none =>
   obtain⟨vs,l,hk,q⟩:=qB.elim h;obtain⟨t,rfl,hk⟩:=hk.run;obtain⟨e,c,j,n0,f⟩:=o _ q;exact⟨e,c,j,n0,λ n k hn i=>by simpa[gQ,Ia,l,hk]using f n k hn i⟩
  |some g =>
   obtain⟨w,hw,h⟩:=bR.elim (m:=aI) h;cases w with
   |true =>
    obtain⟨vs,l,hk,q⟩:=qB.elim h;obtain⟨t,rfl,hk⟩:=hk.run;obtain⟨e,c,j,n0,f⟩:=o _ q;exact⟨e,c,j,n0,λ n k hn i=>by simpa[gQ,p,hw,Ia,l,hk]using f n k hn i⟩
   |false =>
    obtain⟨r,h⟩:=h;obtain⟨e,c,j,n0,f⟩:=o _ h;cases dst with
    |none=>cases r
    |some d=>exact⟨e,c,j,n0,λ n k hn i=>by simpa[gQ,p,hw]using f n k hn i⟩
def oI.run{AP:ak}{ctx:Ctx}:∀{l:List aQ}{st:St}{Q:cP},oI AP ctx l st Q -> ∃e c,Q e c/\EXS AP ctx l st (e,c)
 |[],st,Q,h=>⟨_,_,h,0,λ _ _ _ _=>rfl⟩
 |s::rest,st,Q,h=>by
  obtain⟨e,c,d,n0,h⟩:=rN.run (kk:=λ n k=>(ib rest).run (yI AP n k ctx)) h λ c hs=>oI.run hs;exact⟨e,c,d,n0,h⟩
def Fh{AP:ak}{ctx:Ctx}{ah:Option (List Nat)}{b:ai}{Q:cP}{I:Nat->St->Prop}
 (hb:∀n st,I n st -> ∃e f,(match e with| .normal=>∃m,m<n/\I m f|e=>Q e f)/\EX AP ctx b (kZ ah st) (e,f)) :
 ∀m n,n<=m -> ∀st,I n st -> ∃e f,Q e f /\ ∃n0 c,∀n k,n0<=n->n0<=k -> ∀d,c<=d->gR ah ((bJ b).run (yI AP n k ctx)) d st=B1 (e,f):=by
 intro m
 induction m with
 |zero =>
  intro n hn st q;obtain⟨e,f,h,n0,g⟩:=hb n st q;cases e with
  |normal=>obtain⟨j,w,_⟩:=h;omega
  |exit id=>exact⟨_,_,h,n0,1,λ n k hn hk d i=>by obtain⟨c,rfl⟩:∃c,d=c+1:=⟨d-1,by omega⟩;have:=g n k hn hk;cases ah<;>simp[gR,kZ]at this⊢<;>simp[this]⟩
  |goto l=>exact⟨_,_,h,n0,1,λ n k hn hk d i=>by obtain⟨c,rfl⟩:∃c,d=c+1:=⟨d-1,by omega⟩;have:=g n k hn hk;cases ah<;>simp[gR,kZ]at this⊢<;>simp[this]⟩
  |ret=>exact⟨_,_,h,n0,1,λ n k hn hk d i=>by obtain⟨c,rfl⟩:∃c,d=c+1:=⟨d-1,by omega⟩;have:=g n k hn hk;cases ah<;>simp[gR,kZ]at this⊢<;>simp[this]⟩
  |panic p=>exact⟨_,_,h,n0,1,λ n k hn hk d i=>by obtain⟨c,rfl⟩:∃c,d=c+1:=⟨d-1,by omega⟩;have:=g n k hn hk;cases ah<;>simp[gR,kZ]at this⊢<;>simp[this]⟩
 |succ m ih =>
  intro n hn st q;obtain⟨e,f,h,n0,g⟩:=hb n st q;cases e with
  |normal =>
   obtain⟨j,w,r⟩:=h;obtain⟨e,s,x,n1,c,t⟩:=ih j (by omega) f r;refine⟨e,s,x,max n0 n1,c+1,λ n k hn hk d i=>?_⟩;obtain⟨o,rfl⟩:∃c,d=c+1:=⟨d-1,by omega⟩
   have:=g n k (by omega) (by omega);have u:=t n k (by omega) (by omega) o (by omega);cases ah<;>simp[gR,kZ]at this⊢<;>simp[this,u]
  |exit id=>exact⟨_,_,h,n0,1,λ n k hn hk d i=>by obtain⟨c,rfl⟩:∃c,d=c+1:=⟨d-1,by omega⟩;have:=g n k hn hk;cases ah<;>simp[gR,kZ]at this⊢<;>simp[this]⟩
  |goto l=>exact⟨_,_,h,n0,1,λ n k hn hk d i=>by obtain⟨c,rfl⟩:∃c,d=c+1:=⟨d-1,by omega⟩;have:=g n k hn hk;cases ah<;>simp[gR,kZ]at this⊢<;>simp[this]⟩
  |ret=>exact⟨_,_,h,n0,1,λ n k hn hk d i=>by obtain⟨c,rfl⟩:∃c,d=c+1:=⟨d-1,by omega⟩;have:=g n k hn hk;cases ah<;>simp[gR,kZ]at this⊢<;>simp[this]⟩
  |panic p=>exact⟨_,_,h,n0,1,λ n k hn hk d i=>by obtain⟨c,rfl⟩:∃c,d=c+1:=⟨d-1,by omega⟩;have:=g n k hn hk;cases ah<;>simp[gR,kZ]at this⊢<;>simp[this]⟩
def mT.run{AP:ak}{ctx:Ctx}{st:St}{j:Nat}{H0:ar}{aZ:List aL}{d:Nat}{Q:cP}{v:AV}(h:mT AP ctx st j H0 aZ d Q v) :
 ∃e g,Q e g /\ ∃n0,∀n k,n0<=n->n0<=k->jC (AP.call n) (rounds AP.prog (AP.call n) n k) ctx st j H0 aZ d v=B1 (e,g):=by
 unfold mT at h;split at h
 .obtain ⟨e,H',⟨n0,i⟩,h⟩:=h;cases e with
  |panic c=>exact⟨_,_,h,n0,λ n k hn hk=>by simp[jC,df,i n hn,M8]⟩
  |ret v =>
   obtain⟨s,p,f,k,tm,d,hg,hs,h⟩:=h;refine⟨_,_,h,n0,λ n k hn hk=>?_⟩;simp only[jC,df,i n hn,M8,qr,hg]
 .exact NR h
def WP.run{AP:ak}{ctx:Ctx}:∀{c:ai}{st:St}{Q:cP},WP AP ctx c st Q -> ∃e j,Q e j/\EX AP ctx c st (e,j)
 | .skip,st,Q,h=>⟨_,_,h,0,λ _ _ _ _=>rfl⟩
 | .label _,st,Q,h=>⟨_,_,h,0,λ _ _ _ _=>rfl⟩
 | .exit _,st,Q,h=>⟨_,_,h,0,λ _ _ _ _=>rfl⟩
 | .goto _,st,Q,h=>⟨_,_,h,0,λ _ _ _ _=>rfl⟩
 | .ret,st,Q,h=>⟨_,_,h,0,λ _ _ _ _=>rfl⟩
 | .stuck,st,Q,h=>NR h
 | .region steps,st,Q,h=>oI.run h
 | .seq a b,st,Q,h=>by
  obtain⟨e,dk,i,n0,g⟩:=WP.run (c:=a) h;cases e with
  |normal =>
   obtain⟨e,t,o,n1,x⟩:=WP.run (c:=b) i;exact⟨e,t,o,max n0 n1,λ n k hn hk=>by simp[bJ,g n k (by omega) (by omega),uJ,x n k (by omega) (by omega)]⟩
  |exit id=>exact⟨_,_,i,n0,λ n k hn hk=>by simp[bJ,g n k hn hk,uJ]⟩
  |goto id=>exact⟨_,_,i,n0,λ n k hn hk=>by simp[bJ,g n k hn hk,uJ]⟩
  |ret=>exact⟨_,_,i,n0,λ n k hn hk=>by simp[bJ,g n k hn hk,uJ]⟩
  |panic p=>exact⟨_,_,i,n0,λ n k hn hk=>by simp[bJ,g n k hn hk,uJ]⟩
 | .cond c a b,st,Q,h=>by
  obtain⟨v,r,h⟩:=FV.elim h;obtain⟨q,o,h⟩:=bR.elim (m:=aI) h;have hv':v=.bool q:=by
   unfold asBool at o;split at o
   .injection o with o;rw[o]
   .cases o
  subst hv';cases q with
  |true =>
   obtain⟨e,dk,i,n0,g⟩:=WP.run (c:=a) h;exact⟨e,dk,i,n0,λ n k hn hk=>by simp[bJ,J1,r,vB,g n k hn hk]⟩
  |false =>
   obtain⟨e,dk,i,n0,g⟩:=WP.run (c:=b) h;exact⟨e,dk,i,n0,λ n k hn hk=>by simp[bJ,J1,r,vB,g n k hn hk]⟩
 | .block id b,st,Q,h=>by
  obtain⟨e,dk,i,n0,g⟩:=WP.run (c:=b) h;cases e with
  |exit id'=>exact⟨_,_,i,n0,λ n k hn hk=>by simp[bJ,g n k hn hk,kK]⟩
  |normal=>exact⟨_,_,i,n0,λ n k hn hk=>by simp[bJ,g n k hn hk,kK]⟩
  |goto id=>exact⟨_,_,i,n0,λ n k hn hk=>by simp[bJ,g n k hn hk,kK]⟩
  |ret=>exact⟨_,_,i,n0,λ n k hn hk=>by simp[bJ,g n k hn hk,kK]⟩
  |panic p=>exact⟨_,_,i,n0,λ n k hn hk=>by simp[bJ,g n k hn hk,kK]⟩
 | .scope b,st,Q,h=>by
  obtain⟨e,dk,i,n0,g⟩:=WP.run (c:=b) h;cases e with
  |exit id'=>exact⟨_,_,i,n0,λ n k hn hk=>by simp[bJ,g n k hn hk,mj]⟩
  |normal=>exact⟨_,_,i,n0,λ n k hn hk=>by simp[bJ,g n k hn hk,mj]⟩
  |goto id=>exact⟨_,_,i.2,n0,λ n k hn hk=>by simp[bJ,g n k hn hk,mj,i.1]⟩
  |ret=>exact⟨_,_,i,n0,λ n k hn hk=>by simp[bJ,g n k hn hk,mj]⟩
  |panic p=>exact⟨_,_,i,n0,λ n k hn hk=>by simp[bJ,g n k hn hk,mj]⟩
 | .loop ah b,st,Q,⟨I,⟨n,s⟩,h⟩=>by
  obtain⟨e,j,o,n0,c,g⟩:=Fh (AP:=AP) (ctx:=ctx) (ah:=ah) (b:=b) (Q:=Q) (I:=I) (λ n st s=>by
   obtain⟨e,j,i,u⟩:=WP.run (c:=b) (h n st s);exact⟨e,j,i,u⟩) n n (qm n) st s
  exact⟨e,j,o,max n0 c,λ n k hn hk=>g n k (by omega) (by omega) n (by omega)⟩
 | .rangeFunc f k0,st,Q,h=>by
  obtain⟨v,r,h⟩:=FV.elim h;unfold Jr at h;cases hr:ctx.round with
  |none =>
   rw[hr]at h;obtain⟨e,j,o,n0,g⟩:=mT.run h;exact⟨e,j,o,n0,λ n k hn hk=>by simpa[bJ,J1,r,rp,yI,hr]using g n k hn hk⟩
  |some l =>
   rw[hr]at h;obtain⟨d,w,h⟩:=bR.elim (m:=aI) h;obtain⟨e,j,o,n0,g⟩:=mT.run h;exact⟨e,j,o,n0,λ n k hn hk=>by simpa[bJ,J1,r,rp,yI,hr,w]using g n k hn hk⟩
def zS(AP:ak)(rs:List eC)(tm:T AV)(Q:bM->ar->Prop):List aL->Option aH->ar->Prop
 |[],B5,H=>bR aI (eB H tm rs) λ l=>Q (.ret (jH l)) H
 |[],B1 c,H=>Q (.panic c) H
 | .iy b::ds,m,H=>H.get b=B1 (.deferred (B1 []))/\zS AP rs tm Q ds m (H.set b (.deferred B5))
 | .fn (.func f) args::ds,m,H=>∃v up' H',jS AP f args (B1 (m.getD [])) H (.ret v) (B1 up') H'/\bR aI (oh m up') λ m'=>zS AP rs tm Q ds m' H'
 | .fn (.yield _) _::_,_,_=>False
def zS.run{AP:ak}{rs:List eC}{tm:T AV}{Q:bM->ar->Prop}:∀{ds:List aL}{m:Option aH}{H:ar},zS AP rs tm Q ds m H ->
 ∃e H',Q e H' /\ ∃n0,∀n,n0<=n->cz (AP.call n) rs tm ds m H=B1 (e,H')
 |[],B5,H,h=>by
  obtain⟨l,hl,h⟩:=bR.elim (m:=aI) h;exact⟨_,_,h,0,λ n _=>by simp[cz,hl]⟩
 |[],B1 c,H,h=>⟨_,_,h,0,λ n _=>by simp[cz]⟩
 | .iy b::ds,m,H,⟨hb,h⟩=>by
  obtain⟨e,H',d,n0,g⟩:=zS.run h;exact⟨e,H',d,n0,λ n hn=>by simp[cz,hb,g n hn]⟩
 | .fn (.func f) args::ds,m,H,⟨v,up',H',⟨n0,hc⟩,h⟩=>by
  obtain⟨j,hm,h⟩:=bR.elim (m:=aI) h;obtain⟨e,i,d,n1,g⟩:=zS.run h;exact⟨e,i,d,max n0 n1,λ n hn=>by simp[cz,hc n (by omega),hm,g n (by omega)]⟩
 | .fn (.yield _) _::_,_,_,h=>NR h
def Yi(AP:ak)(rs:List eC)(Q:bM->Option aH->ar->Prop):cP:=λ e st=>match e with
 | .normal=>zS AP rs st.tm (λ e H=>Q e st.up H) st.aZ B5 st.H
 | .ret=>zS AP rs st.tm (λ e H=>Q e st.up H) st.aZ B5 st.H
 | .panic c=>zS AP rs st.tm (λ e H=>Q e st.up H) st.aZ (B1 c) st.H
 |_=>False
def q4b{AP:ak}{f:Nat}{fn:bZ}(i:AP.func f=B1 fn){vs:List AV}{up:Option aH}{H:ar}{Q:bM->Option aH->ar->Prop}
 (h:WP AP ⟨B5,f⟩ fn.body ⟨jM 0 vs .nil,[],up,H⟩ (Yi AP fn.results Q)):∃e d H',jS AP f vs up H e d H'/\Q e d H':=by
 obtain⟨l,i⟩:=ak.zF i;obtain⟨e,st,g,n0,p⟩:=h.run;have key:∀m,zS AP fn.results st.tm (λ e H=>Q e st.up H) st.aZ m st.H->(∀call,qE call fn (e,st)=(cz call fn.results st.tm st.aZ m st.H).bind λ q=>B1 (q.1,st.up,q.2)) ->
  ∃e d H',jS AP f vs up H e d H'/\Q e d H':=by
  intro m g he;obtain⟨e',H',o,n1,r⟩:=g.run;refine⟨e',st.up,H',⟨max n0 n1+1,λ n hn=>?_⟩,o⟩;obtain⟨n,rfl⟩:∃j,n=j+1:=⟨n-1,by omega⟩
  have:=p n n (by omega) (by omega);simp only[yI]at this;rw[ak.Aa l];simp only[HG,i,qr,exec,this,he,r n (by omega)]
 cases e with
 |normal=>exact key B5 g λ _=>rfl
 |ret=>exact key B5 g λ _=>rfl
 |panic c=>exact key (B1 c) g λ _=>rfl
 |exit _=>exact NR g
 |goto _=>exact NR g
def sW{AP:ak}{f:Nat}{fn:bZ}(g:AP.func f=B1 fn){vs:List AV}{H:ar}{Q:bM->ar->Prop}
 (h:WP AP ⟨B5,f⟩ fn.body ⟨jM 0 vs .nil,[],B5,H⟩ (Yi AP fn.results λ e up H=>up=B5/\Q e H)):∃e H',CALL AP f vs H e H'/\Q e H':=by
 obtain⟨e,i,H',c,rfl,d⟩:=q4b g h;exact⟨e,H',c,d⟩
def RE(l:Nat)(Q:bM->ar->Prop):cP:=λ e st=>st.aZ=[]/\match e with
 | .panic c=>Q (.panic c) st.H
 |e=>bR aI (cW st.H l (cond (AA e) .ready .done) (kV e)) λ H=>Q (.ret (.bool (AA e))) H
def RB(W:St->cP->Prop)(l:Nat)(Q:bM->ar->Prop):cP:=λ e st=>match e with
 | .normal=>bR aI (beginRound st.H l) λ H=>W {st with H:=H} (RE l Q)
 |_=>False
def q6l{AP:ak}{l:Nat}{H:ar}{s:nC}{p:Option ic}{f k:Nat}{tm:T AV}{d:Nat}{fn:bZ}{lp:dV}{vs:List AV}{u:T AV}{Q:bM->ar->Prop}
 (hl:H.get l=B1 (.loop s p f k tm d)) (y:AP.func f=B1 fn) (hk:nth fn.loops k=B1 lp) (hb:Mi tm lp.params vs=B1 u)
 (h:WP AP ⟨B1 l,f⟩ lp.assign ⟨u,[],B5,H⟩ (RB (WP AP ⟨B1 l,f⟩ lp.body) l Q)):∃e H',sI AP l vs H e H'/\Q e H':=by
 obtain⟨F,y⟩:=ak.zF y;obtain⟨e,st,o,n0,J⟩:=h.run;cases e with
 |normal =>
  obtain⟨N,x,o⟩:=bR.elim (m:=aI) o;obtain⟨e,z,⟨C,g⟩,n1,L⟩:=WP.run o;have key:∀e' H',Q e' H'->Gm l (e,z)=B1 (e',H') -> ∃e H',sI AP l vs H e H'/\Q e H':=by
   intro e' H' G he;refine⟨e',H',⟨max n0 n1+1,λ n j hn O=>?_⟩,G⟩;obtain⟨j,rfl⟩:∃i,j=i+1:=⟨j-1,by omega⟩
   have r:=J n j (by omega) (by omega);have t:=L n j (by omega) (by omega);simp only[yI]at r t;simp only[rounds,roundOf,hl,y,qr,hk,hb,exec,r,x,t,C,roundOf.noDefs,xt,he]
  cases e with
  |panic c=>exact key _ _ g rfl
  |normal=>obtain⟨w,q,g⟩:=bR.elim (m:=aI) g;exact key _ _ g (by simp[Gm,q])
  |exit id=>obtain⟨w,q,g⟩:=bR.elim (m:=aI) g;exact key _ _ g (by simp[Gm,q])
  |goto id=>obtain⟨w,q,g⟩:=bR.elim (m:=aI) g;exact key _ _ g (by simp[Gm,q])
  |ret=>obtain⟨w,q,g⟩:=bR.elim (m:=aI) g;exact key _ _ g (by simp[Gm,q])
 |exit _=>exact NR o
 |goto _=>exact NR o
 |ret=>exact NR o
 |panic _=>exact NR o
def CALL.Fm{AP:ak}{f:Nat}{vs:List AV}{H:ar}{e:bM}{H':ar}(h:CALL AP f vs H e H'):∃n,AP.call n f vs B5 H=B1 (e,B5,H'):=by
 obtain⟨n,h⟩:=h;exact⟨n,h n (qm n)⟩
end
end Go.Am
namespace Go.Am
abbrev Env:=List (Nat×AV)
def lH(dst:Option Nat)(v:AV)(E:Env):Env:=match dst with
 |some d=>(d,v)::E
 |none=>E
def tX{α β:Type}(m:Bool)(o:Option (α×β))(K:Bool -> α -> β->Prop):Prop:=match o with
 |some a=>K aI a.1 a.2
 |none=>False
def LK{α:Type}(m:Bool)(o:Option α)(K:Bool -> α->Prop):Prop:=match o with
 |some a=>K m a
 |none=>False
def GI{α:Type}(a:α)(K:Bool -> α->Prop):LK B4 (B1 a) K=K B4 a:=propext kc
@[congr]def ac2{α:Type}{m c:Bool}{o o':Option α}{K:Bool -> α->Prop}(hm:m=c)(h:o=o'):LK m o K=LK c o' K:=by grind
@[congr]def ab3{α β:Type}{m c:Bool}{o o':Option (α×β)}{K:Bool -> α -> β->Prop}(hm:m=c)(h:o=o'):tX m o K=tX c o' K:=by grind
theorem tX.intro{α β:Type}{m:Bool}{o:Option (α×β)}{K:Bool -> α -> β->Prop}{a:α}{b:β}(h:o=B1 (a,b))(hk:K aI a b):tX m o K:=by subst h;exact hk
noncomputable section
variable(AP:ak)
end
end Go.Am
namespace Go.Am
def xn6(n:Int):aj .i64 n=(n+9223372036854775808) % 18446744073709551616-9223372036854775808:=by
 simp[aj,IntKind.wrap,IntKind.bits,IntKind.signed];split<;>omega
def xek(n:Int):aj .u64 n=n % 18446744073709551616:=by simp[aj,IntKind.wrap,IntKind.bits,IntKind.signed]
theorem jb{n:Int}(h:-9223372036854775808<=n)(c:n<9223372036854775808):aj .i64 n=n:=by rw[xn6];omega
def xh6{n:Int}(h:0<=n)(c:n<18446744073709551616):aj .u64 n=n:=by rw[xek];omega
section
variable(k:OA)(a b:Int)
def Ms(v:AV):Op.move [v]=B1 v:=rfl
def Mb(q:Bool)(a b:AV):Op.pick [.bool q,a,b]=B1 (cond q a b):=rfl
def Qe:Op.bin .add [.int k a,.int k b]=B1 (.int k (aj k (a+b))):=by cases k<;>rfl
def RR:Op.bin .sub [.int k a,.int k b]=B1 (.int k (aj k (a-b))):=by cases k<;>rfl
def P4:Op.bin .mul [.int k a,.int k b]=B1 (.int k (aj k (a*b))):=by cases k<;>rfl
theorem Q9(hb:b≠0):Op.bin .quo [.int k a,.int k b]=B1 (.int k (aj k (a.tdiv b))):=by
 have:vD b 0=false:=by rw[DM];simpa using hb
 cases k<;>simp[Op.bin,nN,eh,sF,jN,gF,this]
theorem uR(hb:b≠0):Op.bin .rem [.int k a,.int k b]=B1 (.int k (a.tmod b)):=by
 have:vD b 0=false:=by rw[DM];simpa using hb
 cases k<;>simp[Op.bin,nN,eh,sF,jN,gF,this]
def QX:Op.bin .eql [.int k a,.int k b]=B1 (.bool (decide (a=b))):=by
 have:vD a b=decide (a=b):=by rw[DM];rfl
 cases k<;>simp[Op.bin,nN,eh,sF,jN,gF,this]
def PH:Op.bin .neq [.int k a,.int k b]=B1 (.bool (decide (a≠b))):=by
 have:vD a b=decide (a=b):=by rw[DM];rfl
 cases k<;>simp[Op.bin,nN,eh,sF,jN,gF,this]
def Pu:Op.bin .lss [.int k a,.int k b]=B1 (.bool (decide (a<b))):=by
 cases k<;>simp[Op.bin,nN,eh,sF,jN,gF,LZ]
def Q4:Op.bin .leq [.int k a,.int k b]=B1 (.bool (decide (a<=b))):=by
 cases k<;>simp[Op.bin,nN,eh,sF,jN,gF,NP]
def PL:Op.bin .gtr [.int k a,.int k b]=B1 (.bool (decide (b<a))):=by
 cases k<;>simp[Op.bin,nN,eh,sF,jN,gF,LZ]
def OP:Op.bin .geq [.int k a,.int k b]=B1 (.bool (decide (b<=a))):=by
 cases k<;>simp[Op.bin,nN,eh,sF,jN,gF,NP]
def KZ(k':OA):Op.wrap k [.int k' a]=B1 (.int k (aj k a)):=rfl
def O1(q:Bool):Op.un .not [.bool q]=B1 (.bool (!q)):=rfl
def Z9(a b:List UInt8):A8 a b=decide (a=b):=by
 by_cases h:a=b
 .subst h;simp[ML]
 .simp [ML,h]
def Kq(a b:List UInt8):Op.bin .eql [.str a,.str b]=B1 (.bool (decide (a=b))):=by
 simp only[Op.bin,nN,rk,Z9]
def LA(a b:List UInt8):Op.bin .neq [.str a,.str b]=B1 (.bool (decide (a≠b))):=by
 simp[Op.bin,nN,rk,Z9]
def Ea(s:List UInt8):Op.fD [.str s]=B1 (.int .i64 s.length):=by simp[Op.fD,fg,HC]
def xm2(i:Nat)(l:List AV):Op.extract i [.tuple l]=l[i]?:=by simp[Op.extract,jL]
def ae2(f n:Nat)(l:List AV):Op.bH f n l=B1 (.fn (.func f) (l.take n) (l.drop n)):=rfl
def xm4(t:Nat)(v:AV):Op.dF t [v]=B1 (.iface t v):=rfl
def xf3(off b o:Nat):Op.fieldAddr off [.ptr b o]=B1 (.ptr b (o+off)):=rfl
def ad9(off:Nat)(l:List AV):Op.field off B5 [.agg l]=l[off]?:=by simp[Op.field,partAt,jL]
def Kc(q:Bool):cV B4 (B1 (.bool q))=B1 q:=by cases q<;>rfl
def G4(q:Bool):cV B2 (B1 (.bool q))=B1 (!q):=by cases q<;>rfl
def G3(b:Bool):cV b (B1 .undef)=B1 false:=rfl
end
structure Fr(W:Nat->Prop)(H H':ar):Prop where
 au:H.au<=H'.au
 ah:∀b,b<H.au -> ¬W b->H'.get b=H.get b
def Em:Nat->Prop:=λ _=>False
def On(b:Nat):Nat->Prop:=λ x=>x=b
theorem Fr.refl{W:Nat->Prop}(H:ar):Fr W H H:=⟨qm _,λ _ _ _=>rfl⟩
theorem Fr.trans{W W':Nat->Prop}{H H1 d:ar}(a:Fr W H H1)(b:Fr W' H1 d)(h:∀x,W' x->W x\/H.au<=x):Fr W H d :=
 ⟨xx a.au b.au,λ x f hw=>by
  rw[b.ah x (qn f a.au) (λ c=>(h x c).elim hw (λ q=>by omega)),a.ah x f hw]⟩
def Fr.em{W:Nat->Prop}{H H1 c:ar}(a:Fr W H H1)(b:Fr Em H1 c):Fr W H c:=a.trans b λ _ h=>h.elim
def Fr.mono{W W':Nat->Prop}{H H':ar}(a:Fr W H H')(h:∀x,x<H.au->W x->W' x):Fr W' H H':=⟨a.au,λ x c hw=>a.ah x c λ q=>hw (h x c q)⟩
theorem xy(H:ar)(o:bE):(H.alloc o).au=H.au+1:=rfl
theorem tj(H:ar)(b:Nat)(o:bE):(H.set b o).au=H.au:=rfl
theorem GK(H:ar)(b:Nat):(H.kill b).au=H.au:=rfl
theorem Fr.alloc{W:Nat->Prop}{H H1:ar}(a:Fr W H H1)(o:bE):Fr W H (H1.alloc o) :=
 ⟨Nat.le_succ_of_le a.au,λ x c hw=>by rw[ar.bO,qy (by have:=a.au;omega),a.ah x c hw]⟩
theorem Fr.set{W:Nat->Prop}{H H1:ar}(a:Fr W H H1){b:Nat}(h:W b\/H.au<=b)(o:bE):Fr W H (H1.set b o) :=
 ⟨a.au,λ x c hw=>by rw[ar.aK,qy (by rintro rfl;exact h.elim hw (λ q=>by omega)),a.ah x c hw]⟩
def Fr.kill{W:Nat->Prop}{H H1:ar}(a:Fr W H H1){b:Nat}(h:W b\/H.au<=b):Fr W H (H1.kill b) :=
 ⟨a.au,λ x c hw=>by rw[ar.rE,qy (by rintro rfl;exact h.elim hw (λ q=>by omega)),a.ah x c hw]⟩
theorem xc{H:ar}{b:Nat}{c:List AV}{e:Nat}{fz:Nat×Nat}{ow:Bool}(h:H.get b=B1 (.row c e fz ow)):H.bX b=B1 c:=by simp[ar.bX,h]
def Oo{H:ar}{b m s:Nat}{c:List AV}{e:Nat}{fz:Nat×Nat}(h:H.get b=B1 (.grown m s c e fz)):H.bX b=B1 c:=by simp[ar.bX,h]
def q8j{H H':ar}{b:Nat}(h:H'.get b=H.get b):H'.bX b=H.bX b:=by simp[ar.bX,h]
def Fr.cells{W:Nat->Prop}{H H':ar}(a:Fr W H H'){b:Nat}(hb:b<H.au)(hw:¬W b):H'.bX b=H.bX b:=q8j (a.ah b hb hw)
def x9{H:ar}{b:Nat}{c:List AV}(h:H.bX b=B1 c)(o:Nat):Op.ae [.ptr b o] H=c[o]?:=by simp[Op.ae,ar.ae,h,jL]
theorem rT{H:ar}{b:Nat}{c:List AV}(h:H.bX b=B1 c){o n:Nat}(hn:o+n<=c.length):Op.aq n [.ptr b o] H=B1 (.agg ((c.drop o).take n)):=by
 simp only[Op.aq,ar.aq,h,qr,tV];rw[xg (by omega)];rfl
def Sl(H:ar)(size:Nat)(v:AV)(n:Nat)(cells:List AV):Prop :=
 cells.length=n*size/\match v with
 | .nils=>n=0
 | .slice b o m c=>m=n/\n<=c/\(n=0\/b<H.au /\ ∃all,H.bX b=B1 all/\fO all o (n*size)=B1 cells)
 | .gslice b i m s alt k=>k=n/\s=size/\i+n<=m/\(n=0\/b<H.au /\ ∃all,H.bX b=B1 all/\fO all (i*size) (n*size)=B1 cells)
 | .eslice b=>n=0/\b<H.au
 |_=>False
def aG:AV->Nat
 | .slice b _ _ _=>b
 | .gslice b _ _ _ _ _=>b
 | .eslice b=>b
 |_=>0
def cJ(size:Nat):AV->Nat->Nat
 | .slice _ o _ _,j=>o+j*size
 | .gslice _ i _ s _ _,j=>i*s+j*s
 |_,_=>0
def Sl.eJ{H:ar}{size:Nat}{v:AV}{n:Nat}{cells:List AV}(h:Sl H size v n cells):eJ v=B1 n:=by
 obtain⟨_,h⟩:=h;split at h
 .subst h;rfl
 .obtain ⟨rfl,_⟩:=h;rfl
 .obtain ⟨rfl,_⟩:=h;rfl
 .obtain ⟨rfl,_⟩:=h;rfl
 .exact h.elim
def Sl.len{H:ar}{size:Nat}{v:AV}{n:Nat}{cells:List AV}(h:Sl H size v n cells):Op.cw [v]=B1 (.int .i64 n):=by
 obtain⟨_,h⟩:=h;split at h
 .subst h;rfl
 .obtain ⟨rfl,_⟩:=h;rfl
 .obtain ⟨rfl,_⟩:=h;rfl
 .obtain ⟨rfl,_⟩:=h;rfl
 .exact h.elim
def ME{z:Int}{i n:Nat}(c:z=i)(h:i<n):within z n=B1 i:=by
 subst c;show cond (Oz i n) (B1 i) B5=B1 i;have:Oz i n=true:=by simpa[AZ]using h
 rw[this];rfl
def FG{i j:Nat}(h:i≠j):I4 i j=false:=by
 cases q:I4 i j with
 |false=>rfl
 |true=>exact(h (Ln q)).elim
def Bc{i n:Nat}(h:i<n):Oz i n=true:=by simpa[AZ]using h
theorem kz{i n:Nat}(h:i<=n):Nz i n=true:=by simpa using h
def Sl.idx{H:ar}{size:Nat}{v:AV}{n:Nat}{cells:List AV}(h:Sl H size v n cells){i:Nat}(d:i<n){z:Int}(g:z=i)(k:OA) :
 Op.aR size [v,.int k z]=B1 (.ptr (aG v) (cJ size v i)):=by
 obtain⟨hl,h⟩:=h;split at h
 .omega
 .rename_i b o m c;obtain⟨rfl,p,h⟩:=h;have f:=Bc d;simp[Op.aR,Am.eJ,ME g d,elemAt,f,aG,cJ]
 .rename_i b j m s alt k;obtain⟨rfl,rfl,hm,h⟩:=h;have f:=Bc d;have l:=Bc (show j+i<m by omega);simp[Op.aR,Am.eJ,ME g d,elemAt,f,l,aG,cJ]
 .omega
 .exact h.elim
def MT{α:Type}{l r:List α}{o n:Nat}(h:fO l o n=B1 r):n<=l.length-o/\r=(l.drop o).take n:=by
 rw[tV]at h;split at h
 .rename_i hn;injection h with h;exact⟨hn,h.symm⟩
 .cases h
def Sl.at{H:ar}{size:Nat}{v:AV}{n:Nat}{cells:List AV}(g:0<size)(h:Sl H size v n cells){i:Nat}(p:i<n) :
 aG v<H.au /\ ∃all,H.bX (aG v)=B1 all/\cJ size v i+size<=all.length /\ ∀j,j<size->all[cJ size v i+j]? = cells[i*size+j]?:=by
 obtain⟨hl,h⟩:=h;have t:0<n*size:=Nat.mul_pos (by omega) g;have u:i*size+size<=n*size:=by rw[<-vm];exact j9 _ p
 split at h
 .omega
 .rename_i b o m c;obtain⟨rfl,w,h⟩:=h;rcases h with h|⟨hb,all,d,f⟩
  .omega
  obtain⟨l,rfl⟩:=MT f;refine⟨hb,all,d,?_,λ j r=>?_⟩
  .simp only[cJ];simp at hl;omega
  .simp only[cJ];rw[Ob,xg (by omega),wn];congr 1;omega
 .rename_i b q m s alt k;obtain⟨rfl,rfl,hm,h⟩:=h;rcases h with h|⟨hb,all,d,f⟩
  .omega
  obtain⟨l,rfl⟩:=MT f;refine⟨hb,all,d,?_,λ j r=>?_⟩
  .simp only[cJ];simp at hl;omega
  .simp only[cJ];rw[Ob,xg (by omega),wn];congr 1;omega
 .omega
 .exact h.elim
def Sl.fr{H H':ar}{W:Nat->Prop}{size:Nat}{v:AV}{n:Nat}{cells:List AV}(h:Sl H size v n cells)(f:Fr W H H')(hw:n=0 \/ ¬W (aG v)):Sl H' size v n cells:=by
 obtain⟨hl,h⟩:=h;refine⟨hl,?_⟩;split at h
 .exact h
 .obtain ⟨d,g,c⟩:=h;refine⟨d,g,?_⟩;rcases c with c|⟨hb,all,c,i⟩
  .exact .inl c
  .rcases hw with hw|hw
   .exact .inl hw
   .exact .inr ⟨qn hb f.au,all,by rw[f.cells hb hw];exact c,i⟩
 .obtain ⟨d,g,j,c⟩:=h;refine⟨d,g,j,?_⟩;rcases c with c|⟨hb,all,c,i⟩
  .exact .inl c
  .rcases hw with hw|hw
   .exact .inl hw
   .exact .inr ⟨qn hb f.au,all,by rw[f.cells hb hw];exact c,i⟩
 .exact ⟨h.1,qn h.2 f.au⟩
 .exact h.elim
def Sl.em{H H':ar}{size:Nat}{v:AV}{n:Nat}{cells:List AV}(h:Sl H size v n cells)(f:Fr Em H H'):Sl H' size v n cells:=h.fr f (.inr id)
def Sl.first{H:ar}{size:Nat}{v:AV}{n:Nat}{cells:List AV}(h:Sl H size v n cells):firstCells H size n v=B1 cells:=by
 obtain⟨hl,h⟩:=h;split at h
 .subst h;simp at hl;subst hl;rfl
 .rename_i b o m c;obtain⟨rfl,j,h⟩:=h;rcases h with rfl|⟨hb,all,d,f⟩
  .simp at hl;subst hl;rfl
  .by_cases hn:m=0
   .subst hn;simp at hl;subst hl;rfl
   .have:I4 m 0=false:=FG hn;simp only[firstCells,this,zo,ar.aq,d,qr,f]
 .rename_i b i m s alt k;obtain⟨rfl,rfl,hm,h⟩:=h;rcases h with rfl|⟨hb,all,d,f⟩
  .simp at hl;subst hl;rfl
  .by_cases hn:k=0
   .subst hn;simp at hl;subst hl;rfl
   .have:I4 k 0=false:=FG hn;have g:=Bc (show i<m by omega);simp[firstCells,this,g,ar.aq,d,f]
 .obtain ⟨rfl,_⟩:=h;simp at hl;subst hl;rfl
 .exact h.elim
def bN{α:Type}(enc:α->List AV)(size:Nat)(H:ar)(v:AV)(xs:List α):Prop:=Sl H size v xs.length (xs.flatMap enc)
section
variable{α:Type}{enc:α->List AV}{size:Nat}{H H':ar}{v:AV}{xs:List α}
def bN.len(h:bN enc size H v xs):Op.cw [v]=B1 (.int .i64 xs.length):=Sl.len h
def bN.fr{W:Nat->Prop}(h:bN enc size H v xs)(f:Fr W H H')(hw:¬W (aG v)):bN enc size H' v xs:=Sl.fr h f (.inr hw)
def bN.em(h:bN enc size H v xs)(f:Fr Em H H'):bN enc size H' v xs:=Sl.em h f
theorem J2(hs:∀x,(enc x).length=size):∀(xs:List α){i:Nat}{x:α},xs[i]? = B1 x -> ∀{j:Nat},j<size->(xs.flatMap enc)[i*size+j]? = (enc x)[j]?
 |[],i,x,h,j,hj=>by simp at h
 |y::ys,0,x,h,j,hj=>by
  simp at h;subst h;rw[j8,yz (by rw[hs];omega)];simp
 |y::ys,i+1,x,h,j,hj=>by
  simp only[z8]at h;rw[j8,z6 (by rw[hs,vm];omega),hs,<-J2 hs ys h hj];congr 1;rw[vm];omega
def Js{i:Nat}{x:α}(h:xs[i]? = B1 x):i<xs.length:=(qt.1 h).1
def bN.idx(h:bN enc size H v xs){i:Nat}{x:α}(c:xs[i]? = B1 x){z:Int}(d:z=i)(k:OA):Op.aR size [v,.int k z]=B1 (.ptr (aG v) (cJ size v i)) :=
 Sl.idx h (Js c) d k
def bN.ae(hs:∀x,(enc x).length=size)(h:bN enc size H v xs){i:Nat}{x:α}(d:xs[i]? = B1 x){j:Nat}(c:j<size):Op.ae [.ptr (aG v) (cJ size v i+j)] H=(enc x)[j]?:=by
 obtain⟨_,all,f,l,g⟩:=Sl.at (by omega) h (Js d);rw[x9 f,g j c,J2 hs xs d c]
def bN.iR(hs:∀x,(enc x).length=size)(h:bN enc size H v xs){i:Nat}{x:α}(d:xs[i]? = B1 x)(c:0<size):Op.ae [.ptr (aG v) (cJ size v i)] H=(enc x)[0]?:=h.ae hs d c
def bN.aq(hs:∀x,(enc x).length=size)(d:0<size)(h:bN enc size H v xs){i:Nat}{x:α}(f:xs[i]? = B1 x):Op.aq size [.ptr (aG v) (cJ size v i)] H=B1 (.agg (enc x)):=by
 obtain⟨_,all,g,l,m⟩:=Sl.at d h (Js f);rw[rT g l];congr 2;refine yk λ j=>?_
 by_cases c:j<size
 .rw [Ob,xg c,wn,m j c,J2 hs xs f c]
 .rw [jp (by simp;omega),jp (by rw[hs];omega)]
end
def Own(H:ar)(e size:Nat)(v:AV)(n:Nat)(cells:List AV):Prop :=
 cells.length=n*size/\(n=0/\(v=.nils \/ ∃b,v=.slice b 0 0 0/\b<H.au) \/ ∃b,v=.gslice b 0 n size 0 n/\b<H.au/\H.get b=B1 (.grown n size cells e (0,0)))
def aM(v:AV):Nat->Prop:=λ x=>v≠ .nils/\x=aG v
theorem Own.nil(H:ar)(e size:Nat):Own H e size .nils 0 []:=⟨by simp,.inl ⟨rfl,.inl rfl⟩⟩
def Own.sl{H:ar}{e size:Nat}{v:AV}{n:Nat}{cells:List AV}(h:Own H e size v n cells):Sl H size v n cells:=by
 obtain⟨hl,⟨rfl,rfl|⟨b,rfl,hb⟩⟩|⟨b,rfl,c,d⟩⟩:=h
 .exact ⟨hl,rfl⟩
 .exact ⟨hl,rfl,qm _,.inl rfl⟩
 .refine ⟨hl,rfl,rfl,by omega,.inr ⟨c,cells,Oo d,?_⟩⟩;rw[tV,xg (by simp[hl])];simp[<-hl]
def Own.fr{H H':ar}{W:Nat->Prop}{e size:Nat}{v:AV}{n:Nat}{cells:List AV}(h:Own H e size v n cells)(f:Fr W H H')(hw:∀x,aM v x -> ¬W x):Own H' e size v n cells:=by
 obtain⟨hl,⟨c,h|⟨b,rfl,hb⟩⟩|⟨b,rfl,d,g⟩⟩:=h
 .exact ⟨hl,.inl ⟨c,.inl h⟩⟩
 .exact ⟨hl,.inl ⟨c,.inr ⟨b,rfl,qn hb f.au⟩⟩⟩
 .exact ⟨hl,.inr ⟨b,rfl,qn d f.au,by rw[f.ah b d (hw b ⟨by simp,rfl⟩)];exact g⟩⟩
def Own.em{H H':ar}{e size:Nat}{v:AV}{n:Nat}{cells:List AV}(h:Own H e size v n cells)(f:Fr Em H H'):Own H' e size v n cells:=h.fr f λ _ _ h=>h
def Own.lt{H:ar}{e size:Nat}{v:AV}{n:Nat}{cells:List AV}(h:Own H e size v n cells):∀x,aM v x->x<H.au:=by
 rintro x ⟨c,rfl⟩;obtain⟨hl,⟨d,h|⟨b,rfl,hb⟩⟩|⟨b,rfl,c,f⟩⟩:=h
 .exact (c h).elim
 .exact hb
 .exact c
def Sl.one{H:ar}{size:Nat}{v:AV}{n:Nat}{cells:List AV}(h:Sl H size v n cells):aB v=true:=by
 obtain⟨_,h⟩:=h;cases v<;>first|rfl|exact h.elim
def Td{n bytes:Nat}(c:n*bytes<=140737488355328)(d:n<=140737488355328):fits n bytes=true:=by
 simp[fits,c,d]
theorem q8f{H:ar}{e size bytes:Nat}{v:AV}{n:Nat}{cells:List AV}(h:Own H e size v n cells){x:AV}{k:Nat}{new:List AV}(p:Sl H size x k new)(g:aN new=B4)(hs:0<size)
 (u:(n+k)*bytes<=140737488355328) (l:n+k<=140737488355328) {K:Bool->AV->ar->Prop} {m:Bool}
 (hk:∀q H',Own H' e size q (n+k) (cells++new)->Fr (aM v) H H'->(∀b,aM q b->aM v b\/H.au<=b)->K aI q H'):tX m (Op.append e size bytes [v,x] H) K:=by
 have c:=Td u l;have hlen:new.length=k*size:=p.1;have f:=Bc hs;have e1:∀n,I4 n n=true:=λ n=>by simp
 simp only[Op.append,p.eJ,p.first,qr,g,xt];obtain⟨hl,⟨rfl,rfl|⟨b,rfl,hb⟩⟩|⟨b,rfl,s,r⟩⟩:=h
 .simp only[AG,js]at hl;subst hl
  by_cases d:k=0
  .subst d;simp at hlen;subst hlen;exact hk .nils H (Own.nil H e size) (Fr.refl H) λ b hb=>.inl hb
  .have i:I4 k 0=false:=FG d;simp only[cQ,i,zo,ya]at c⊢;simp only[c,f,zy,xt,dC,tX];refine hk _ _ ⟨by simpa using hlen,.inr ⟨H.au,by simp,by rw[xy];omega,?_⟩⟩ ((Fr.refl H).alloc _) λ b hb=>.inr (by rw[hb.2];exact qm _);rw[ar.bO,xg rfl];simp
 .simp only[AG,js]at hl;subst hl
  by_cases d:k=0
  .subst d;simp at hlen;subst hlen;simp only[cQ,Ae,kz (qm 0),xt,e1,tX];exact hk _ H ⟨by simp,.inl ⟨rfl,.inr ⟨b,rfl,hb⟩⟩⟩ (Fr.refl H) λ b hb=>.inl hb
  .have i:I4 k 0=false:=FG d;have j:Nz k 0=false:=by cases o:Nz k 0 with|false=>rfl|true=>rw[uo]at o;omega
   have t:firstCells H size 0 (.slice b 0 0 0)=B1 []:=rfl;simp only[cQ,ya,j,zo]at c⊢;simp only[c,kz (xw k),f,zy,xt,t,qr,px,ji,dC,tX];refine hk _ _ ⟨by simpa using hlen,.inr ⟨H.au,by simp,by rw[xy];omega,?_⟩⟩ ((Fr.refl H).alloc _) λ b hb=>.inr (by rw[hb.2];exact qm _);rw[ar.bO,xg rfl];simp
 .by_cases d:k=0
  .subst d;simp at hlen;subst hlen;simp only[cQ,I4,xt,ya,kz (qm n),tX];refine hk _ _ ⟨by simpa using hl,.inr ⟨b,rfl,s,by simpa using r⟩⟩ (Fr.refl H) λ b hb=>.inl hb
  .have i:I4 k 0=false:=FG d;have j:Nz (0+n+k) n=false:=by cases o:Nz (0+n+k) n with|false=>rfl|true=>rw[uo]at o;omega
   simp only[cQ,i,zo,e1,ya,kz (qm n),f,zy,xt]at j⊢;simp only[j,zo,c,xt,r,e1,zy,I4,kz (xw (n*size)),dC,tX];refine hk _ _ ⟨by simp[hl,hlen,wg],.inr ⟨H.au,by simp[GK],by rw[xy,GK];omega,?_⟩⟩ (((Fr.refl H).kill (.inl ⟨by simp,rfl⟩)).alloc _) λ b hb=>.inr (by rw[hb.2];exact qm _);rw[ar.bO,GK,xg rfl,px]
def Xd(e n:Nat)(zero:List AV)(v:AV)(d:zero.length=n)(c:v.cells.length=n):Op.buildSlice e 1 zero [(0,n)] [v]=B1 (.row v.cells e (0,0) B4,Op.sliceTo 1 1):=by
 have e1:∀n,I4 n n=true:=λ n=>by simp
 simp only[Op.buildSlice,fP,px,zq,jF,HC,c,e1,xt,AF,ya,d,xg (qm n),yo,ji,qr];rw[jj (by omega)];simp
def Cr{H:ar}{size e:Nat}{cells:List AV}(c:cells.length=size):Sl (H.alloc (.row cells e (0,0) B4)) size (Op.sliceTo 1 1 H.au) 1 cells:=by
 refine⟨by simp[c],rfl,qm 1,.inr ⟨by rw[xy];omega,cells,xc (by rw[ar.bO,xg rfl]),?_⟩⟩;rw[tV,xg (by simp[c])];simp[<-c]
def Gv{H:ar}{e size bytes:Nat}{v:AV}{n:Nat}{cells:List AV}(h:Own H e size v n cells){zero:List AV}{x:AV}(t:zero.length=size)(l:x.cells.length=size)(d:aN x.cells=B4)(hs:0<size)
 (s:(n+1)*bytes<=140737488355328) (i:n+1<=140737488355328) {K:bE->(Nat->AV)->Bool->AV->ar->Prop} {m:Bool}
 (hk:∀f H',Own H' e size f (n+1) (cells++x.cells)->Fr (aM v) H H'->(∀b,aM f b->aM v b\/H.au<=b)->K (.row x.cells e (0,0) B4) (Op.sliceTo 1 1) aI f H') :
 tX m (Op.buildSlice e 1 zero [(0,size)] [x]) λ g o mk=>tX g (Op.append e size bytes [v,mk H.au] (H.alloc o)) (K o mk):=by
 rw[Xd e size zero x t l];have c:Fr Em H (H.alloc (.row x.cells e (0,0) B4)):=(Fr.refl H).alloc _;refine tX.intro rfl ?_;refine q8f (m:=aI) (h.em c) (Cr l) d hs s i λ f H' p j r=>hk f H' p ?_ λ b hb=>?_
 .exact ⟨xx c.au j.au,λ b hb hw=>by rw[j.ah b (qn hb c.au) hw,c.ah b hb (λ q=>q)]⟩
 .exact (r b hb).imp id λ q=>xx c.au q
theorem Ke.intro{W:St->cP->Prop}{ah:Option (List Nat)}{st:St}{Q:cP}(I:Nat->St->Prop)(n:Nat)(d:I n st)
 (h:∀n st,I n st->W (kZ ah st) λ e c=>match e with
  | .normal=>∃m,m<n/\I m c
  |e=>Q e c):Ke W ah st Q:=⟨I,⟨n,d⟩,h⟩
end Go.Am
namespace Go.Am
def GW(H:ar)(tm:T AV)(t:Nat)(rs:List eC):eB H tm (.tmp t::rs)=(tm.get t).bind λ v=>(eB H tm rs).bind λ vs=>B1 (v::vs):=rfl
def xnj(H:ar)(tm:T AV)(t:Nat)(rs:List eC):eB H tm (.kT t::rs)=(((tm.get t).bind λ v=>Op.ae [v] H)).bind λ v=>(eB H tm rs).bind λ vs=>B1 (v::vs):=by
 simp only[eB,Oh];congr 1;cases tm.get t with
 |none=>rfl
 |some v=>cases v<;>rfl
def xnk(H:ar)(tm:T AV)(n t:Nat)(rs:List eC):eB H tm (.cZ n t::rs)=(((tm.get t).bind λ v=>Op.aq n [v] H)).bind λ v=>(eB H tm rs).bind λ vs=>B1 (v::vs):=by
 simp only[eB,Oh];congr 1;cases tm.get t with
 |none=>rfl
 |some v=>cases v<;>rfl
def XD(v:AV):jH [v]=v:=rfl
def VW:jH []=.tuple []:=rfl
def UF(a b:AV)(l:List AV):jH (a::b::l)=.tuple (a::b::l):=rfl
def RH(b:Nat):Op.ptrTo b=.ptr b 0:=rfl
def U8(t:aT)(x y:AV)(H:ar)(q:Bool)(h:aY t x y=B1 q):Op.eq (.agg t) B4 [x,y] H=B1 (.bool (!q)):=by simp[Op.eq,IX,h]
def ac4(t:aT)(x y:AV)(H:ar)(q:Bool)(h:aY t x y=B1 q):Op.eq (.agg t) B2 [x,y] H=B1 (.bool q):=by simp[Op.eq,IX,h]
structure fh where
 kind:Int
 time:Int
 core:Int
 block:Int
 Xo:Int
 lane:Int
 addr:Int
 value:Int
 code:Int
deriving DecidableEq
def fh.enc(x:fh):List AV:=[.int .i64 x.kind,.int .i64 x.time,.int .i64 x.core,.int .i64 x.block,.int .i64 x.Xo,.int .i64 x.lane,.int .i64 x.addr,.int .u64 x.value,.int .i64 x.code]
def fh.len(x:fh):x.enc.length=9:=rfl
def Tv(a b:Int):vD a b=decide (a=b):=by rw[DM];rfl
end Go.Am
namespace Go.Am
theorem T.tG{α:Type}(v c:Option α):∀(p:List Bool)(t:T α),T.fQ v p (T.fQ c p t)=T.fQ v p t
 |[],t=>rfl
 |b::p,t=>by cases b<;>simp[T.fQ,T.l,T.r,T.val,T.tG v c p]
def Lk(H:ar)(o o':bE):(H.alloc o).set H.au o'=H.alloc o':=by
 grind [ar.alloc,ar.set,T.set,T.put,T.tG]
theorem xp(H:ar)(o:bE):(H.alloc o).get H.au=B1 o:=by rw[ar.bO,xg rfl]
def cq(H:ar)(o:bE):∃Z,Z=H.alloc o/\Fr Em H Z/\Z.au=H.au+1/\Z.get H.au=B1 o:=⟨_,rfl,(Fr.refl H).alloc _,xy ..,xp ..⟩
theorem wx{H:ar}{b:Nat}(h:b<H.au)(o:bE):(H.alloc o).get b=H.get b:=by rw[ar.bO,qy (by omega)]
theorem xb(H:ar)(b:Nat)(o:bE):(H.set b o).get b=B1 o:=by rw[ar.aK,xg rfl]
theorem kr{H:ar}{b c:Nat}(h:b≠c)(o:bE):(H.set b o).get c=H.get c:=by rw[ar.aK,qy h]
def xC{H:ar}{b:Nat}{c:List AV}{e:Nat}(h:H.get b=B1 (.row c e (0,0) B4)){o n:Nat}{v:AV}(f:v.cells.length=n)(hn:o+n<=c.length)(d:aN v.cells=B4) :
 Op.store n [.ptr b o,v] H=B1 (.undef,H.set b (.row (c.take o++v.cells++c.drop (o+n)) e (0,0) B4)):=by
 have e1:∀n,I4 n n=true:=λ n=>by simp
 simp only[Op.store,HC,f,e1,xt,ar.store,d,h];have:dD (0,0) o n=true:=by simp[dD]
 simp_all[AF]
def Te{H:ar}{b m s:Nat}{c:List AV}{e:Nat}(h:H.get b=B1 (.grown m s c e (0,0))){o n:Nat}{v:AV}(f:v.cells.length=n)(hn:o+n<=c.length)(d:aN v.cells=B4) :
 Op.store n [.ptr b o,v] H=B1 (.undef,H.set b (.grown m s (c.take o++v.cells++c.drop (o+n)) e (0,0))):=by
 have e1:∀n,I4 n n=true:=λ n=>by simp
 simp only[Op.store,HC,f,e1,xt,ar.store,d,h];have:dD (0,0) o n=true:=by simp[dD]
 simp_all[AF]
def xc5(H:ar)(c:List AV)(e:Nat)(fz:Nat×Nat)(ow:Bool)(n:Nat)(hn:c.length=n):Op.aq n [.ptr H.au 0] (H.alloc (.row c e fz ow))=B1 (.agg c):=by
 rw[rT (xc (xp H _)) (by omega)];simp[<-hn]
def aO{α:Type}(enc:α->List AV)(e size:Nat)(H:ar)(v:AV)(xs:List α):Prop:=Own H e size v xs.length (xs.flatMap enc)
structure A6{α:Type}(enc:α->List AV)(e size:Nat)(H0 H:ar)(v:AV)(xs:List α):Prop where
 own:aO enc e size H v xs
 fr:Fr Em H0 H
 fresh:∀b,aM v b->H0.au<=b
section
variable{α:Type}{enc:α->List AV}{e size:Nat}{H0 H H':ar}{v:AV}{xs:List α}
def bN.one(h:bN enc size H v xs):aB v=true:=Sl.one h
theorem A6.nil(H:ar):A6 enc e size H H .nils ([]:List α):=⟨Own.nil H e size,Fr.refl H,λ b h=>(h.1 rfl).elim⟩
def A6.sl(h:A6 enc e size H0 H v xs):bN enc size H v xs:=Own.sl h.own
def aO.sl(h:aO enc e size H v xs):bN enc size H v xs:=Own.sl h
def A6.em(h:A6 enc e size H0 H v xs)(f:Fr Em H H'):A6 enc e size H0 H' v xs:=⟨Own.em h.own f,h.fr.em f,h.fresh⟩
def A6.len(h:A6 enc e size H0 H v xs):Op.cw [v]=B1 (.int .i64 xs.length):=h.sl.len
def A6.step(h:A6 enc e size H0 H v xs){c:AV}{ys:List α}(d:aO enc e size H' c ys)(f:Fr (aM v) H H')(g:∀b,aM c b->aM v b\/H.au<=b):A6 enc e size H0 H' c ys :=
 ⟨d,h.fr.trans f λ x i=>.inr (h.fresh x i),λ b hb=>(g b hb).elim (h.fresh b) λ q=>xx h.fr.au q⟩
def Tn{f:α->List AV}(hs:∀x,(f x).length=size):∀(xs:List α){i:Nat}{x:α},xs[i]? = B1 x -> ∀(y:α),(xs.set i y).flatMap f=(xs.flatMap f).take (i*size)++f y++(xs.flatMap f).drop (i*size+size)
 |[],i,x,h,y=>by grind
 |z::zs,0,x,h,y=>by
  grind
 |z::zs,i+1,x,h,y=>by
  simp only[z8]at h;have e1:(f z++zs.flatMap f).take ((i+1)*size)=f z++(zs.flatMap f).take (i*size):=by
   grind [vm]
  have e2:(f z++zs.flatMap f).drop ((i+1)*size+size)=(zs.flatMap f).drop (i*size+size):=by
   rw[show(i+1)*size+size=(f z).length+(i*size+size)from by rw[hs,vm];omega,we]
  rw[List.set_cons_succ,j8,j8,Tn hs zs h y,e1,e2]
  grind
theorem FO(hs:∀x,(enc x).length=size)(l:List α):(l.flatMap enc).length=l.length*size:=by
 induction l with
 |nil=>simp
 |cons a l ih=>grind
def x_{L E:List AV}{c j:Nat}{u:AV}(d:E.length=size)(f:j<size)(hk:c+size<=L.length)(h:∀r,r<size->L[c+r]? = E[r]?) :
 L.take c++E.set j u++L.drop (c+size)=L.set (c+j) u:=by
 refine yk λ k=>?_
 grind
def aO.zT(hs:∀x,(enc x).length=size)(h:aO enc e size H v xs){i:Nat}{x y:α}(d:xs[i]? = B1 x){j:Nat}(p:j<size){u:AV}(hu:aB u=B4)(q:enc y=(enc x).set j u) :
 ∃H',Op.store 1 [.ptr (aG v) (cJ size v i+j),u] H=B1 (.undef,H')/\aO enc e size H' v (xs.set i y)/\Fr (aM v) H H':=by
 obtain⟨hl,h|⟨b,rfl,f,g⟩⟩:=h
 .grind
 .have m:=Js d;have hb:(i+1)*size<=xs.length*size:=j9 _ m;rw[vm]at hb;have l:u.cells=[u]:=by cases u<;>first|rfl|cases hu
  have c:=Te g (o:=i*size+j) (n:=1) (v:=u) (by grind) (by omega) (by grind [vh]);have ho:cJ size (AV.gslice b 0 xs.length size 0 xs.length) i=i*size:=by simp[cJ]
  rw[ho];refine⟨_,c,⟨?_,.inr ⟨b,?_,f,?_⟩⟩,(Fr.refl H).set (.inl ⟨by simp,rfl⟩) _⟩
  .grind [FO]
  .grind
  .rw [zg,xb,Tn hs xs d,q,l,x_ (L:=xs.flatMap enc) (E:=enc x) (hs x) p (by omega) (λ r hr=>J2 hs xs d hr),List.set_eq_take_append_cons_drop,xg (by omega)];simp
end
abbrev OR(c:List AV)(e:Nat):bE:=.row c e (0,0) B4
end Go.Am
namespace Go.Am
def ti{k mx d:Nat}{z:Int}(c:z=k)(h:k<=mx)(kk:OA):bound (B1 (.int kk z)) d mx=B1 k:=by
 subst c;show cond (Nz k mx) (B1 k) B5=B1 k;rw[kz h];rfl
def Sl.from{H:ar}{size:Nat}{v:AV}{n:Nat}{cells:List AV}(h:Sl H size v n cells){k:Nat}(hk:k<=n){z:Int}(j:z=k)(kk:OA) :
 ∃l,Op.aA size [B1 0,B5,B5] [v,.int kk z]=B1 l/\Sl H size l (n-k) (cells.drop (k*size))/\(l=.nils\/aG l=aG v):=by
 obtain⟨hl,h⟩:=h;have hlen:(cells.drop (k*size)).length=(n-k)*size:=by grind [Nat.sub_mul]
 have x:k*size<=n*size:=j9 _ hk;have u:(n-k)*size=n*size-k*size:=Nat.sub_mul n k size;split at h
 .subst h;have:k=0:=by omega
  subst this;refine⟨.nils,?_,⟨hlen,rfl⟩,.inl rfl⟩;have g:bound B5 0 0=B1 0:=rfl;simp[Op.aA,arg,jL,dh,g,ti j (qm 0)]
 .rename_i b o m c;obtain⟨rfl,C,h⟩:=h;have f:∀d m,bound B5 d m=B1 d:=λ _ _=>rfl;refine⟨.slice b (cond (I4 c k) o (o+k*size)) (m-k) (c-k),by simp[Op.aA,arg,jL,dh,f,ti j hk],⟨hlen,rfl,by omega,?_⟩,.inr rfl⟩;rcases h with h|⟨hb,all,p,r⟩
  .omega
  .by_cases he:c=k
   .omega
   .right;obtain⟨w,rfl⟩:=MT r;refine⟨hb,all,p,?_⟩;rw[FG he,zo,tV,xg (by omega),List.drop_take,Fy]
    grind
 .rename_i b i m s alt q;obtain⟨rfl,rfl,hm,h⟩:=h;have e1:∀n,I4 n n=true:=λ n=>by simp
  have f:∀d m,bound B5 d m=B1 d:=λ _ _=>rfl;have y:=kz (show q<=m-i by omega);have t:=kz (show i<=m by omega);refine⟨.gslice b (i+k) m s (cond (I4 k 0) alt (i*s)) (q-k),by simp only[Op.aA,arg,jL,zk,qr,dh,f,ti j hk,e1,t,y,zy,xt],⟨hlen,rfl,rfl,by omega,?_⟩,.inr rfl⟩;rcases h with h|⟨hb,all,p,r⟩
  .omega
  .right;obtain⟨w,rfl⟩:=MT r;refine⟨hb,all,p,?_⟩;rw[tV,xg (by rw[wg];omega),List.drop_take,Fy,wg]
   grind
 .rename_i b;obtain⟨rfl,hb⟩:=h;have:k=0:=by omega
  subst this;have g:bound B5 0 0=B1 0:=rfl;refine⟨.eslice b,?_,⟨hlen,rfl,hb⟩,.inr rfl⟩;simp[Op.aA,arg,jL,dh,g,ti j (qm 0)]
 grind
def Sl.upto{H:ar}{size:Nat}{v:AV}{n:Nat}{cells:List AV}(h:Sl H size v n cells){k:Nat}(hk:k<=n){z:Int}(l:z=k)(kk:OA) :
 ∃p,Op.aA size [B5,B1 0,B5] [v,.int kk z]=B1 p/\Sl H size p k (cells.take (k*size))/\(p=.nils\/aG p=aG v):=by
 obtain⟨hl,h⟩:=h;have j:k*size<=n*size:=j9 _ hk;have hlen:(cells.take (k*size)).length=k*size:=by grind
 split at h
 .subst h;have:k=0:=by omega
  subst this;refine⟨.nils,?_,⟨hlen,rfl⟩,.inl rfl⟩;have g:bound B5 0 0=B1 0:=rfl;simp[Op.aA,arg,jL,dh,g,ti l (qm 0)]
 .rename_i b o m c;obtain⟨rfl,C,h⟩:=h;have u:∀h,bound B5 0 h=B1 0:=λ h=>rfl;have f:∀d m,bound B5 d m=B1 d:=λ _ _=>rfl;refine⟨.slice b (cond (I4 c 0) o (o+0*size)) (k-0) (c-0),by simp only[Op.aA,arg,jL,zk,qr,dh,ti l (show k<=c by omega),u,f],⟨hlen,by omega,by omega,?_⟩,.inr rfl⟩;rcases h with h|⟨hb,all,r,t⟩
  .omega
  .right;obtain⟨x,rfl⟩:=MT t;refine⟨hb,all,r,?_⟩;have:cond (I4 c 0) o (o+0*size)=o:=by grind
   rw[this,tV,xg (by omega),List.take_take,Nat.min_eq_left j]
 .rename_i b i m s alt q;obtain⟨rfl,rfl,hm,h⟩:=h;have e1:∀n,I4 n n=true:=λ n=>by simp
  have f:∀d m,bound B5 d m=B1 d:=λ _ _=>rfl;have y:=kz (show k<=m-i by omega);have w:=kz (show i<=m by omega);refine⟨.gslice b (i+0) m s (cond (I4 0 0) alt (i*s)) (k-0),by simp only[Op.aA,arg,jL,zk,qr,dh,f,ti l (show k<=m-i by omega),e1,w,y,zy,xt],⟨hlen,by omega,rfl,by omega,?_⟩,.inr rfl⟩;rcases h with h|⟨hb,all,r,t⟩
  .omega
  .right;obtain⟨x,rfl⟩:=MT t;refine⟨hb,all,r,?_⟩;rw[Ae,tV,xg (by omega),List.take_take,Nat.min_eq_left j]
 .rename_i b;obtain⟨rfl,hb⟩:=h;have:k=0:=by omega
  subst this;have g:bound B5 0 0=B1 0:=rfl;refine⟨.eslice b,?_,⟨hlen,rfl,hb⟩,.inr rfl⟩;simp[Op.aA,arg,jL,dh,g,ti l (qm 0)]
 grind
section
variable{α:Type}{enc:α->List AV}{size:Nat}{H H':ar}{v:AV}{xs:List α}
theorem g_(hs:∀x,(enc x).length=size):∀(xs:List α)(k:Nat),(xs.flatMap enc).drop (k*size)=(xs.drop k).flatMap enc
 |[],k=>by simp
 |x::xs,0=>by simp
 |x::xs,k+1=>by
  rw[j8,show(k+1)*size=(enc x).length+k*size from by rw[hs,vm];omega,we,g_ hs xs k];rfl
theorem qzr(hs:∀x,(enc x).length=size):∀(xs:List α)(k:Nat),(xs.flatMap enc).take (k*size)=(xs.take k).flatMap enc
 |[],k=>by simp
 |x::xs,0=>by simp
 |x::xs,k+1=>by
  rw[j8,show(k+1)*size=(enc x).length+k*size from by rw[hs,vm];omega,List.take_length_add_append,qzr hs xs k];rfl
def bN.from(hs:∀x,(enc x).length=size)(h:bN enc size H v xs){k:Nat}(hk:k<=xs.length){z:Int}(d:z=k)(kk:OA) :
 ∃c,Op.aA size [B1 0,B5,B5] [v,.int kk z]=B1 c/\bN enc size H c (xs.drop k)/\(c=.nils\/aG c=aG v):=by
 obtain⟨c,f,g,i⟩:=Sl.from h hk d kk
 grind [bN,g_]
def bN.upto(hs:∀x,(enc x).length=size)(h:bN enc size H v xs){k:Nat}(hk:k<=xs.length){z:Int}(d:z=k)(kk:OA) :
 ∃c,Op.aA size [B5,B1 0,B5] [v,.int kk z]=B1 c/\bN enc size H c (xs.take k)/\(c=.nils\/aG c=aG v):=by
 obtain⟨c,f,g,i⟩:=Sl.upto h hk d kk
 grind [bN,qzr]
def gV(enc:α->List AV)(e size:Nat)(H:ar)(v:AV)(xs:List α):Prop:=∃b,v=.slice b 0 xs.length xs.length/\b<H.au/\H.get b=B1 (.row (xs.flatMap enc) e (0,0) B4)
def gV.sl{e:Nat}(hs:∀x,(enc x).length=size)(h:gV enc e size H v xs):bN enc size H v xs:=by
 obtain⟨b,rfl,c,d⟩:=h;refine⟨FO hs xs,rfl,qm _,.inr ⟨c,_,xc d,?_⟩⟩;rw[tV,xg (by grind [FO]),yx,zd (by grind [FO])]
def gV.fr{e:Nat}{W:Nat->Prop}(h:gV enc e size H v xs)(f:Fr W H H')(hw:¬W (aG v)):gV enc e size H' v xs:=by
 obtain⟨b,rfl,c,d⟩:=h;exact⟨b,rfl,qn c f.au,by rw[f.ah b c hw];exact d⟩
def gV.lt{e:Nat}(h:gV enc e size H v xs):aG v<H.au:=by
 obtain⟨b,rfl,c,d⟩:=h;exact c
def gV.zT{e:Nat}(hs:∀x,(enc x).length=size)(h:gV enc e size H v xs){i:Nat}{x y:α}(d:xs[i]? = B1 x){j:Nat}(p:j<size){u:AV}(hu:aB u=B4)(q:enc y=(enc x).set j u) :
 ∃H',Op.store 1 [.ptr (aG v) (cJ size v i+j),u] H=B1 (.undef,H')/\gV enc e size H' v (xs.set i y)/\Fr (On (aG v)) H H':=by
 obtain⟨b,rfl,f,g⟩:=h;have m:=Js d;have hl:=FO hs xs;have hb:(i+1)*size<=xs.length*size:=j9 _ m;rw[vm]at hb;have l:u.cells=[u]:=by cases u<;>first|rfl|cases hu
 have c:=xC g (o:=i*size+j) (n:=1) (v:=u) (by grind) (by omega) (by grind [vh]);have ho:cJ size (AV.slice b 0 xs.length xs.length) i=i*size:=by simp[cJ]
 rw[ho];refine⟨_,c,⟨b,?_,f,?_⟩,(Fr.refl H).set (W:=On b) (.inl rfl) _⟩
 .grind
 .rw [xb,Tn hs xs d,q,l,x_ (L:=xs.flatMap enc) (E:=enc x) (hs x) p (by omega) (λ r hr=>J2 hs xs d hr),List.set_eq_take_append_cons_drop,xg (by omega)];simp
end
def X5(e bytes:Nat)(z:List AV)(n:Nat)(k k':OA)(h:n*bytes<=140737488355328)(c:n<=140737488355328) :
 Op.mkSlice e bytes z [.int k n,.int k' n]=B1 (.row (fP n z) e (0,0) B4,Op.sliceTo n n):=by
 grind [NP,Op.mkSlice]
end Go.Am
namespace Go.Am
def FX{tm:T AV}{x:bL}{K K':AV->Prop}(h:FV tm x K)(hk:∀v,K v->K' v):FV tm x K':=by
 have⟨v,d,f⟩:=h.elim;cases x with
 |tmp t=>grind [rV,FV,bR]
 |const c=>cases d;exact hk _ f
 |eR c=>cases d;exact hk _ f
 |func c=>cases d;exact hk _ f
def J5{tm:T AV}:∀{l:List bL}{K K':List AV->Prop},qB tm l K->(∀v,K v->K' v)->qB tm l K'
 |[],K,K',h,hk=>hk _ h
 | .tmp t::xs,K,K',h,hk=>by
  simp only[qB]at h⊢;unfold bR at h⊢;split at h
  .exact J5 h λ vs=>hk _
  omega
 | .const v::xs,K,K',h,hk=>J5 (l:=xs) h λ vs=>hk _
 | .eR v::xs,K,K',h,hk=>J5 (l:=xs) h λ vs=>hk _
 | .func v::xs,K,K',h,hk=>J5 (l:=xs) h λ vs=>hk _
theorem Fz{α:Type}{m:Bool}{o:Option α}{K K':α->Prop}(h:bR m o K)(hk:∀a,K a->K' a):bR m o K':=by
 cases o with
 |none=>exact h
 |some a=>exact hk a h
theorem Z'{α β:Type}{m:Bool}{o:Option (α×β)}{K K':α -> β->Prop}(h:iP m o K)(hk:∀a b,K a b->K' a b):iP m o K':=by
 cases o with
 |none=>exact h
 |some a=>exact hk a.1 a.2 h
section
variable{AP:ak}
theorem Zt{m:Bool}{f:mG}{vs:List AV}{H:ar}{K K':AV->ar->Prop}{E d:aH->ar->Prop}(h:nQ AP m f vs H K E)(hk:∀v H,K v H->K' v H)(he:∀c H,E c H->d c H):nQ AP m f vs H K' d:=by
 have⟨e,H',i,g⟩:=h;refine⟨e,H',i,?_⟩;cases e with
 |ret v=>exact hk _ _ g
 |panic c=>exact he _ _ g
theorem TJ{d:Option (List Nat)}{tm:T AV}{aZ:List aL}{up:Option aH}{Q Q':cP}(f:∀e st,Q e st->Q' e st)(c:aH)(H:ar)(h:AW d tm aZ up Q c H):AW d tm aZ up Q' c H:=by
 cases d with
 |none=>exact h
 |some ds=>exact f _ _ h
def _E{ctx:Ctx}{dst:Option Nat}{c:Option (List Nat)}{st:St}{Q Q':cP}{K K':St->Prop}{vs:List AV}{op:fN}(h:pW AP ctx dst c st Q K vs op)(d:∀e st,Q e st->Q' e st)(hk:∀st,K st->K' st):pW AP ctx dst c st Q' K' vs op:=by
 cases op with
 |pure f=>exact Fz (m:=aI) h λ _=>hk _
 |read f=>exact Fz (m:=aI) h λ _=>hk _
 |alloc f=>grind [pW,Z']
 |gY f=>grind [pW,Z']
 |ik f=>exact Zt (m:=aI) h (by grind) (TJ d)
 |im =>
  simp only[pW,ND]at h⊢
  grind [Zt,TJ]
 |invoke n =>
  simp only[pW,NY]at h⊢;split at h
  .grind [Fz,Zt,TJ]
  omega
 |recover =>
  simp only[pW,yQ]at h⊢
  grind
 |defer =>
  simp only[pW,Iw]at h⊢
  grind
 |panic =>
  simp only[pW,gJ]at h⊢
  grind [TJ]
def L'{ctx:Ctx}{s:aQ}{st:St}{Q Q':cP}{K K':St->Prop}(h:rN AP ctx s st Q K)(c:∀e st,Q e st->Q' e st)(hk:∀st,K st->K' st):rN AP ctx s st Q' K':=by
 have⟨iA,dst,guard,args,op,d⟩:=s;cases iA with
 |false =>
  cases guard with
  |none=>exact J5 h λ _ q=>_E q c hk
  |some g =>
   refine Fz (m:=aI) h λ w q=>?_;cases w with
   |true=>exact J5 (K:=_) q λ _ q=>_E q c hk
   |false=>exact hk _ q
 |true =>
  cases guard with
  |none=>exact J5 h λ _ q=>(by grind)
  |some g =>
   refine Fz (m:=aI) h λ w q=>?_;cases w with
   |true=>exact J5 (K:=_) q λ _ q=>(by grind)
   |false=>exact⟨q.1,hk _ q.2⟩
def xgv{ctx:Ctx}:∀{l:List aQ}{st:St}{Q Q':cP},oI AP ctx l st Q->(∀e st,Q e st->Q' e st)->oI AP ctx l st Q'
 |[],st,Q,Q',h,hq=>hq _ _ h
 |s::rest,st,Q,Q',h,hq=>L' h hq λ d c=>xgv c hq
theorem Pn{ctx:Ctx}{st:St}{k:Nat}{H0:ar}{aZ:List aL}{d:Nat}{Q Q':cP}{v:AV}(h:mT AP ctx st k H0 aZ d Q v)(i:∀e st,Q e st->Q' e st):mT AP ctx st k H0 aZ d Q' v:=by
 unfold mT at h⊢;split at h
 .have ⟨e,H',j,g⟩:=h;refine⟨e,H',j,?_⟩;cases e with
  |panic c=>exact i _ _ g
  |ret v=>have⟨s,p,f,k,tm,d,l,m,o⟩:=g;exact⟨s,p,f,k,tm,d,l,m,i _ _ o⟩
 omega
def pY{ctx:Ctx}:∀{c:ai}{st:St}{Q Q':cP},WP AP ctx c st Q->(∀e st,Q e st->Q' e st)->WP AP ctx c st Q'
 | .skip,st,Q,Q',h,hq=>hq _ _ h
 | .label _,st,Q,Q',h,hq=>hq _ _ h
 | .exit _,st,Q,Q',h,hq=>hq _ _ h
 | .goto _,st,Q,Q',h,hq=>hq _ _ h
 | .ret,st,Q,Q',h,hq=>hq _ _ h
 | .stuck,st,Q,Q',h,hq=>h.elim
 | .region l,st,Q,Q',h,hq=>xgv h hq
 | .seq a b,st,Q,Q',h,hq=>pY (c:=a) h λ e g d=>by
  cases e with
  |normal=>exact pY (c:=b) d hq
  |exit _=>exact hq _ _ d
  |goto _=>exact hq _ _ d
  |ret=>exact hq _ _ d
  |panic _=>exact hq _ _ d
 | .cond c a b,st,Q,Q',h,hq=>FX h λ v q=>Fz (m:=aI) q λ w q=>by
  cases w with
  |true=>exact pY (c:=a) q hq
  |false=>exact pY (c:=b) q hq
 | .block id b,st,Q,Q',h,hq=>pY (c:=b) h λ e g d=>by cases e<;>exact hq _ _ d
 | .scope b,st,Q,Q',h,hq=>pY (c:=b) h λ e g d=>by
  cases e with
  |goto l=>exact⟨d.1,hq _ _ d.2⟩
  |normal=>exact hq _ _ d
  |exit _=>exact hq _ _ d
  |ret=>exact hq _ _ d
  |panic _=>exact hq _ _ d
 | .loop ah b,st,Q,Q',⟨I,h0,h⟩,hq=>⟨I,h0,λ n st i=>pY (c:=b) (h n st i) λ e g d=>by grind⟩
 | .rangeFunc f k,st,Q,Q',h,hq=>FX h λ v q=>by
  grind [Jr,Pn,Fz]
def gH:aX->Prop
 | .exit _=>True
 | .goto _=>True
 | .ret=>True
 |_=>False
end
end Go.Am
namespace Go.Am
noncomputable section
abbrev aF:=aX->Env->List aL->ar->Prop
def lk(E:Env)(t:Nat):Option AV:=Ap (motive:=λ _=>Option AV) B5 (λ p _ ih=>cond (I4 p.1 t) (B1 p.2) ih) E
def CP(t:Nat):lk [] t=none:=rfl
def wC(k t:Nat)(v:AV)(E:Env):lk ((k,v)::E) t=if k=t then B1 v else lk E t:=by
 show cond (I4 k t) (B1 v) (lk E t)=_;simp_all
def bK(t:Nat)(l:List Nat):Bool:=Ap (motive:=λ _=>Bool) B2 (λ x _ ih=>cond (I4 x t) B4 ih) l
def fX(ks:List Nat)(E:Env)(tm:T AV):Prop:=∀t v,lk E t=B1 v->tm.get t=B1 v/\bK t ks=B4
def vG:Env->Env->Prop
 |[],_=>True
 |(k,v)::r,E=>lk E k=B1 v/\vG r E
def HU(E:Env):vG [] E=True:=rfl
def ac6(k:Nat)(v:AV)(r E:Env):vG ((k,v)::r) E=(lk E k=B1 v/\vG r E):=rfl
def vG.look:∀{A E:Env},vG A E -> ∀{t:Nat}{v:AV},lk A t=B1 v->lk E t=B1 v
 |[],E,_,t,v,h=>by cases h
 |(k,w)::r,E,h,t,v,hl=>by
  rw[wC]at hl;split at hl
  .rename_i e;subst e;cases hl;exact h.1
  .exact vG.look h.2 hl
def vG.sub{ks:List Nat}{A E:Env}(h:vG A E){tm:T AV}(he:fX ks E tm):fX ks A tm:=λ t v hl=>he t v (h.look hl)
def SS(A E:Env):Prop:=∀t v,lk A t=B1 v->lk E t=B1 v
def vG.ss{A E:Env}(h:vG A E):SS A E:=λ t v hl=>h.look hl
def SS.sub{ks:List Nat}{A E:Env}(h:SS A E){tm:T AV}(he:fX ks E tm):fX ks A tm:=λ t v hl=>he t v (h t v hl)
theorem SS.refl(E:Env):SS E E:=λ _ _ h=>h
def B3{α:Type}(m:Bool)(o:Option α)(K:Bool -> α->Prop):Prop:=match o with
 |some a=>K m a
 |none=>False
def jB{α β:Type}(m:Bool)(o:Option (α×β))(K:Bool -> α -> β->Prop):Prop:=match o with
 |some a=>K m a.1 a.2
 |none=>False
def mU(m:Bool)(v:AV)(A B:Bool->Prop):Prop:=match v with
 | .bool q=>match q with
  |true=>A m
  |false=>B m
 |_=>False
def vE(m:Bool)(q:Bool)(A B:Bool->Prop):Prop:=match q with
 |true=>A m
 |false=>B m
def N0(m:Bool)(o o':Option AV)(K:Bool->Prop):Prop:=(∃v,o=B1 v/\o'=B1 v)/\K m
def A3(m:Bool)(e:Nat)(z:List AV)(H:ar)(K:Bool->AV->ar->Prop):Prop:=K m (.ptr H.au 0) (H.alloc (.row z e (0,0) B4))
def JN{α:Type}(F:α->Prop)(K:α):Prop:=F K
def qQ(m:Bool)(Q:aF)(e:aX)(E:Env)(D:List aL)(H:ar):Prop:=Q e E D H
def HY{α:Type}(a:α)(K:Bool -> α->Prop):B3 B4 (B1 a) K=K B4 a:=propext kc
def DH{α β:Type}(a:α)(b:β)(K:Bool -> α -> β->Prop):jB B4 (B1 (a,b)) K=K B4 a b:=propext kc
def Eh(A B:Bool->Prop):mU B4 (.bool B4) A B=A true:=propext kc
def xkr(A B:Bool->Prop):mU B4 (.bool B2) A B=B true:=propext kc
def af9(A B:Bool->Prop):vE B4 B4 A B=A true:=propext kc
def xks(A B:Bool->Prop):vE B4 B2 A B=B true:=propext kc
def Dq(v:AV)(K:Bool->Prop):N0 B4 (B1 v) (B1 v) K=K true:=propext ⟨λ h=>h.2,λ h=>⟨⟨v,rfl,rfl⟩,h⟩⟩
def PZ(e:Nat)(z:List AV)(H:ar)(K:Bool->AV->ar->Prop):A3 B4 e z H K=K B4 (.ptr H.au 0) (H.alloc (.row z e (0,0) B4)):=propext kc
def Ja{α:Type}(F:α->Prop)(K:α):JN F K=F K:=propext kc
def ac7(Q:aF)(e:aX)(E:Env)(D:List aL)(H:ar):qQ B4 Q e E D H=Q e E D H:=propext kc
@[congr]def ab6{α:Type}{F:α->Prop}{K:α}:JN F K=JN F K:=rfl
@[congr]def ac3{α:Type}{m c:Bool}{o o':Option α}{K:Bool -> α->Prop}(hm:m=c)(h:o=o'):B3 m o K=B3 c o' K:=by grind
@[congr]def aa8{α β:Type}{m c:Bool}{o o':Option (α×β)}{K:Bool -> α -> β->Prop}(hm:m=c)(h:o=o'):jB m o K=jB c o' K:=by grind
@[congr]def ab4{m c:Bool}{v d:AV}{A B:Bool->Prop}(hm:m=c)(h:v=d):mU m v A B=mU c d A B:=by grind
@[congr]def aa6{m c:Bool}{v d:Bool}{A B:Bool->Prop}(hm:m=c)(h:v=d):vE m v A B=vE c d A B:=by grind
@[congr]def ab1{m c:Bool}{o o' p p':Option AV}{K:Bool->Prop}(hm:m=c)(h:o=o')(d:p=p'):N0 m o p K=N0 c o' p' K:=by grind
@[congr]def ab9{m c:Bool}{e:Nat}{z d:List AV}{H H':ar}{K:Bool->AV->ar->Prop}(hm:m=c)(h:z=d)(f:H=H'):A3 m e z H K=A3 c e d H' K:=by grind
def B3.elim{α:Type}{m:Bool}{o:Option α}{K:Bool -> α->Prop}(h:B3 m o K):∃a,o=B1 a/\K m a:=by
 cases o with
 |none=>exact NR h
 |some a=>exact⟨a,rfl,h⟩
def jB.elim{α β:Type}{m:Bool}{o:Option (α×β)}{K:Bool -> α -> β->Prop}(h:jB m o K):∃a b,o=B1 (a,b)/\K m a b:=by
 cases o with
 |none=>exact NR h
 |some a=>exact⟨a.1,a.2,rfl,h⟩
def LK.elim{α:Type}{m:Bool}{o:Option α}{K:Bool -> α->Prop}(h:LK m o K):∃a,o=B1 a/\K m a:=by
 cases o with
 |none=>exact NR h
 |some a=>exact⟨a,rfl,h⟩
theorem B3.intro{α:Type}{m:Bool}{o:Option α}{K:Bool -> α->Prop}{a:α}(h:o=B1 a)(hk:K m a):B3 m o K:=by subst h;exact hk
theorem jB.intro{α β:Type}{m:Bool}{o:Option (α×β)}{K:Bool -> α -> β->Prop}{a:α}{b:β}(h:o=B1 (a,b))(hk:K m a b):jB m o K:=by subst h;exact hk
def mU.dec{m:Bool}{p:Prop}[Decidable p]{A B:Bool->Prop}(c:p->A m)(d:¬p->B m):mU m (.bool (decide p)) A B:=by
 by_cases h:p
 .rw [ke h];exact c h
 .rw [ju h];exact d h
def mU.cases{m:Bool}{q:Bool}{A B:Bool->Prop}(c:q=B4->A m)(d:q=B2->B m):mU m (.bool q) A B:=by
 cases q with
 |true=>exact c rfl
 |false=>exact d rfl
def vE.dec{m:Bool}{p:Prop}[Decidable p]{A B:Bool->Prop}(c:p->A m)(d:¬p->B m):vE m (decide p) A B:=by
 by_cases h:p
 .rw [ke h];exact c h
 .rw [ju h];exact d h
def vE.cases{m:Bool}{q:Bool}{A B:Bool->Prop}(c:q=B4->A m)(d:q=B2->B m):vE m q A B:=by
 cases q with
 |true=>exact c rfl
 |false=>exact d rfl
def mU.elim{m:Bool}{v:AV}{A B:Bool->Prop}(h:mU m v A B):∃q,v=.bool q/\(match q with|true=>A m|false=>B m):=by
 unfold mU at h
 grind
section
variable(M:ak)
structure Kp where
 ah:List Nat
 di:Bool
 named:List Nat
def dK(K:List Nat)(E L:Env):Env:=Ap (motive:=λ _=>Env) E (λ p _ ih=>cond (bK p.1 K) (p::ih) ih) L
def sT(ds:List Nat)(E:Env):Env:=Ap (motive:=λ _=>Env) [] (λ p _ ih=>cond (bK p.1 ds) ih (p::ih)) E
def lK(L:Env):List Nat:=Ap (motive:=λ _=>List Nat) [] (λ p _ ih=>p.1::ih) L
abbrev KR:=Bool->Env->Env->ar->Prop
def TV(E L R:Env)(t:Nat)(g:Bool)(K:Bool->Env->AV->Prop):Prop :=
 QY (motive:=λ _=>Prop) (QY (motive:=λ _=>Prop) (LK g (lk E t) λ g v=>K g ((t,v)::R) v) (λ v=>K g R v) (lk R t)) (λ v=>K g R v) (lk L t)
def zI(E L:Env)(l:List bL):Bool->Env->(Bool->Env->List AV->Prop)->Prop:=Ap (motive:=λ _=>Bool->Env->(Bool->Env->List AV->Prop)->Prop) (λ g R K=>K g R [])
 (λ x _ ih g R K=>bL.casesOn x (λ t=>TV E L R t g λ g R v=>ih g R λ g R vs=>K g R (v::vs)) (λ v=>ih g R λ g R vs=>K g R (v::vs)) (λ b=>ih g R λ g R vs=>K g R (.ptr b 0::vs)) (λ f=>ih g R λ g R vs=>K g R (.fn (.func f) [] []::vs))) l
def C3(m:Bool)(f:mG)(vs:List AV)(H:ar)(K:Bool->AV->ar->Prop):Prop:=∃v H',uz M f vs H (.ret v) H'/\K m v H'
def P3(m:Bool)(X:aH->ar->Prop)(f:mG)(vs:List AV)(H:ar)(K:Bool->AV->ar->Prop):Prop:=∃e H',uz M f vs H e H'/\match e with
 | .ret v=>K m v H'
 | .panic c=>X c H'
@[congr]def ab8{M:ak}{m d:Bool}{f f':mG}{vs c:List AV}{H H':ar}{K:Bool->AV->ar->Prop}(hm:m=d)(i:f=f')(h:vs=c)(g:H=H'):C3 M m f vs H K=C3 M d f' c H' K:=by grind
@[congr]def ab7{M:ak}{m d:Bool}{X:aH->ar->Prop}{f f':mG}{vs c:List AV}{H H':ar}{K:Bool->AV->ar->Prop}(hm:m=d)(i:f=f')(h:vs=c)(g:H=H'):P3 M m X f vs H K=P3 M d X f' c H' K:=by grind
def V3(m:Bool)(vs:List AV)(K:Bool->mG->List AV->Prop):Prop:=match vs with
 | .fn (.func g) first cap::args=>K m (.func g) (first++(args++cap))
 | .fn (.yield l) first []::args=>K m (.yield l) (first++args)
 |_=>False
@[congr]def ac1{m d:Bool}{vs c:List AV}{K:Bool->mG->List AV->Prop}(hm:m=d)(h:vs=c):V3 m vs K=V3 d c K:=by grind
def HN(g:Nat)(first cap args:List AV)(K:Bool->mG->List AV->Prop):V3 B4 (.fn (.func g) first cap::args) K=K B4 (.func g) (first++(args++cap)):=propext kc
def ad7(l:Nat)(first args:List AV)(K:Bool->mG->List AV->Prop):V3 B4 (.fn (.yield l) first []::args) K=K B4 (.yield l) (first++args):=propext kc
def N3(m:Bool)(name:String)(vs:List AV)(K:Bool->mG->List AV->Prop):Prop:=match vs with
 | .iface t v::args=>B3 m (M.kI t name) λ m g=>K m (.func g) (v::args)
 |_=>False
@[congr]def ab5{M:ak}{m d:Bool}{name:String}{vs c:List AV}{K:Bool->mG->List AV->Prop}(hm:m=d)(h:vs=c):N3 M m name vs K=N3 M d name c K:=by grind
def EH(name:String)(t:Nat)(v:AV)(args:List AV)(K:Bool->mG->List AV->Prop):N3 M B4 name (.iface t v::args) K=B3 B4 (M.kI t name) λ m g=>K m (.func g) (v::args):=propext kc
def PX(ps:Option (List Nat))(ks:List Nat)(Q:aF)(E:Env)(D:List aL)(c:aH)(H:ar):Prop:=match ps with
 |some ds=>Q (.panic c) (sT ds (sT ks E)) D H
 |none=>False
def FI(di:Bool)(ps:Option (List Nat))(L:Env)(Q:aF)(E:Env)(D:List aL)(g:Bool)(f:mG)(vs:List AV)(H:ar)(K:Bool->AV->ar->Prop):Prop :=
 cond di (P3 M g (PX ps (lK L) Q E D) f vs H K) (C3 M g f vs H K)
def vM(di:Bool)(dst:Option Nat)(ps:Option (List Nat))(Q:aF)(E:Env)(D:List aL)(L R:Env)(H:ar)(K:KR)(g:Bool)(vs:List AV):fN->Prop
 | .pure f=>B3 g (f vs) λ g v=>K g (lH dst v L) R H
 | .read f=>B3 g (f vs H) λ g v=>K g (lH dst v L) R H
 | .alloc f=>jB g (f vs) λ g o mk=>K g (lH dst (mk H.au) L) R (H.alloc o)
 | .gY f=>jB g (f vs H) λ g v H=>K g (lH dst v L) R H
 | .ik f=>FI M di ps L Q E D g (.func f) vs H (λ g v H=>K g (lH dst v L) R H)
 | .im=>V3 g vs λ g f vs=>FI M di ps L Q E D g f vs H (λ g v H=>K g (lH dst v L) R H)
 | .invoke name=>N3 M g name vs λ g f vs=>FI M di ps L Q E D g f vs H (λ g v H=>K g (lH dst v L) R H)
 | .panic=>cond di (gJ vs H (PX ps (lK L) Q E D)) False
 |_=>False
def X7(L E:Env)(d:Nat):Option AV:=QY (motive:=λ _=>Option AV) (lk E d) (λ v=>B1 v) (lk L d)
def SK(dst:Option Nat)(E L R:Env)(H:ar)(K:KR)(g:Bool)(vs:List AV):fN->Prop
 | .read f=>match dst with
  |some d=>N0 g (f vs H) (X7 L E d) λ g=>K g L R H
  |none=>False
 |_=>False
def GR(di:Bool)(s:aQ)(Q:aF)(E:Env)(D:List aL)(K:KR):KR:=λ g L R H =>
 zI E L s.args g R λ g R vs=>match s.iA with
  |false=>vM M di s.dst s.cM Q E D L R H K g vs s.op
  |true=>SK s.dst E L R H K g vs s.op
def pR(di:Bool)(Q:aF)(E:Env)(D:List aL)(K:KR)(l:List aQ):KR:=Ap (motive:=λ _=>KR) K (λ s _ ih=>GR M di s Q E D ih) l
abbrev F0:=Option (Nat×Bool)×List aQ
def sJ:Option (Nat×Bool)->Option (Nat×Bool)->Bool
 |none,B5=>B4
 |some (t,b),B1 (u,c)=>cond (I4 t u) (cond b c (!c)) B2
 |_,_=>B2
def JE(l:List aQ):List F0:=Ap (motive:=λ _=>List F0) [] (λ s _ ih=>List.casesOn (motive:=λ _=>List F0) ih [(s.guard,[s])] λ g r=>cond (sJ g.1 s.guard) ((g.1,s::g.2)::r) ((s.guard,[s])::g::r)) l
def Qs(o:Option Nat)(t:Nat):Bool:=QY (motive:=λ _=>Bool) B2 (λ d=>I4 d t) o
def vW(t:Nat)(l:List aQ):Bool:=Ap (motive:=λ _=>Bool) B4 (λ s _ ih=>cond (Qs s.dst t) B2 (cond s.iA (cond s.dst.isSome ih B2) ih)) l
def CT(n:Nat):Type:=Nat.rec (motive:=λ _=>Type) (ar->Prop) (λ _ T=>AV->T) n
def qM(n:Nat):(List AV->ar->Prop)->CT n:=Nat.rec (motive:=λ n=>(List AV->ar->Prop)->CT n) (λ f=>f []) (λ _ ih f v=>ih λ l=>f (v::l)) n
def pZ(n:Nat):CT n->List AV->ar->Prop:=Nat.rec (motive:=λ n=>CT n->List AV->ar->Prop) (λ k _=>k) (λ _ ih k l=>List.casesOn (motive:=λ _=>ar->Prop) l (λ _=>False) λ v l=>ih (k v) l) n
def bA(l:List aQ):List Nat->List Nat:=Ap (motive:=λ _=>List Nat->List Nat) (λ acc=>acc) (λ s _ ih acc=>ih (cond s.iA acc (QY (motive:=λ _=>List Nat) acc (λ d=>d::acc) s.dst))) l
def lj(ks:List Nat)(L:Env):List AV->Env:=Ap (motive:=λ _=>List AV->Env) (λ _=>L) (λ k _ ih l=>List.casesOn (motive:=λ _=>Env) l L λ v l=>(k,v)::ih l) ks
def qZ(n:Nat):Env->List AV:=Nat.rec (motive:=λ _=>Env->List AV) (λ _=>[]) (λ _ ih L=>List.casesOn (motive:=λ _=>List AV) L [] λ p L=>p.2::ih L) n
def sD(n:Nat):List AV:=Nat.rec (motive:=λ _=>List AV) [] (λ _ ih=>.undef::ih) n
def Sr(di:Bool)(Q:aF)(E:Env)(D:List aL)(x:F0)(K:KR):KR:=λ g L R H=>match x.1 with
 |none=>pR M di Q E D K x.2 g L R H
 |some q=>cond (vW q.1 x.2) (TV E L R q.1 g λ g R v=>JN (α:=Bool->CT (cR (bA x.2 [])))
  (λ k=>B3 g (cV q.2 (B1 v)) λ g w=>vE g w (λ g=>pR M di Q E D (λ g L _ H=>pZ (cR (bA x.2 [])) (k g) (qZ (cR (bA x.2 [])) L) H) x.2 g L R H) (λ g=>pZ (cR (bA x.2 [])) (k g) (sD (cR (bA x.2 []))) H))
  (λ g=>qM (cR (bA x.2 [])) λ vs H=>K g (lj (bA x.2 []) L vs) R H)) False
def yT(di:Bool)(Q:aF)(E:Env)(D:List aL)(K:KR)(l:List F0):KR:=Ap (motive:=λ _=>KR) K (λ x _ ih=>Sr M di Q E D x ih) l
def rH(di:Bool)(Q:aF)(E:Env)(D:List aL)(l:List aQ)(g:Bool)(H:ar)(K:KR):Prop:=yT M di Q E D K (JE l) g [] [] H
abbrev WX:=Bool->aF->Env->List aL->ar->Prop
def fm(X:WX)(Q:aF):aF:=λ e E D H=>match e with
 | .normal=>X B4 Q E D H
 |e=>Q e E D H
def eX(id:Nat)(Q:aF):aF:=λ e E D H=>match e with
 | .exit id'=>Q (cond (I4 id id') .normal (.exit id')) E D H
 |e=>Q e E D H
def kH(b:ai)(Q:aF):aF:=λ e E D H=>match e with
 | .goto l=>FJ b l=B2/\Q (.goto l) E D H
 |e=>Q e E D H
abbrev Lf:=Nat->Env->List aL->ar->Prop
def LP3(I:Lf)(n:Nat)(Q:aF):aF:=λ e E D H=>match e with
 | .normal=>∃m E',I m E' D H/\SS E' E/\m<n
 |e=>Q e E D H
def b9(X:WX)(Q:aF)(E:Env)(D:List aL)(H:ar):Prop :=
 ∃I:Lf,(∃n E0,I n E0 D H/\SS E0 E) /\ ∀n E D H,I n E D H->X B4 (LP3 I n Q) E D H
def iE(ks:List Nat)(ctx:Ctx)(k:Nat)(E:Env)(D:List aL)(H:ar)(Q:aF)(v:AV):Prop :=
 ∀tm up,fX ks E tm->Jr M ctx k ⟨tm,D,up,H⟩ (λ e st=>st.up=up/\st.tm=tm/\Q e E st.aZ st.H) v
def OV(E:Env)(x:bL)(g:Bool)(K:Bool->AV->Prop):Prop:=match x with
 | .tmp t=>LK g (lk E t) K
 | .const v=>K g v
 | .eR b=>K g (.ptr b 0)
 | .func f=>K g (.fn (.func f) [] [])
def CV(E L R:Env)(x:bL)(g:Bool)(K:Bool->AV->Prop):Prop:=match x with
 | .tmp t=>TV E L R t g λ g _ v=>K g v
 | .const v=>K g v
 | .eR b=>K g (.ptr b 0)
 | .func f=>K g (.fn (.func f) [] [])
def W3(ctx:Ctx)(K:Kp):ai->Bool->aF->Env->List aL->ar->Prop
 | .skip,g,Q,E,D,H=>qQ g Q .normal E D H
 | .label _,g,Q,E,D,H=>qQ g Q .normal E D H
 | .exit id,g,Q,E,D,H=>qQ g Q (.exit id) E D H
 | .goto l,g,Q,E,D,H=>qQ g Q (.goto l) E D H
 | .ret,g,Q,E,D,H=>qQ g Q .ret E D H
 | .stuck,_,_,_,_,_=>False
 | .region l,g,Q,E,D,H=>rH M K.di Q E D l g H λ g L _ H=>qQ g Q .normal (dK K.ah E L) D H
 | .seq a b,g,Q,E,D,H=>match a,b with
  | .region l,.cond c x y=>rH M K.di Q E D l g H λ g L R H=>CV E L R c g λ g v=>mU g v (λ g=>W3 ctx K x g Q (dK K.ah E L) D H) (λ g=>W3 ctx K y g Q (dK K.ah E L) D H)
  | .region l,.seq (.cond c x y) r=>rH M K.di Q E D l g H λ g L R H=>CV E L R c g λ g v=>mU g v (λ g=>W3 ctx K x g (fm (W3 ctx K r) Q) (dK K.ah E L) D H) (λ g=>W3 ctx K y g (fm (W3 ctx K r) Q) (dK K.ah E L) D H)
  | .region l,b=>rH M K.di Q E D l g H λ g L _ H=>W3 ctx K b g Q (dK K.ah E L) D H
  |a,b=>W3 ctx K a g (fm (W3 ctx K b) Q) E D H
 | .cond c x y,g,Q,E,D,H=>OV E c g λ g v=>mU g v (λ g=>W3 ctx K x g Q E D H) (λ g=>W3 ctx K y g Q E D H)
 | .block id b,g,Q,E,D,H=>W3 ctx K b g (eX id Q) E D H
 | .scope b,g,Q,E,D,H=>W3 ctx K b g (kH b Q) E D H
 | .loop (B1 _) _,_,_,_,_,_=>False
 | .loop B5 b,g,Q,E,D,H=>b9 (W3 ctx K b) Q E D H
 | .rangeFunc f k,g,Q,E,D,H=>OV E f g λ g v=>iE M K.ah ctx k E D H Q v
end
structure lX(E L R:Env)(tm:T AV):Prop where
 l:∀t v,lk L t=B1 v->tm.get t=B1 v
 r:∀t v,lk L t=B5->lk R t=B1 v->tm.get t=B1 v
 e:∀t v,lk L t=B5->lk E t=B1 v->tm.get t=B1 v
def lX.first{ks:List Nat}{E:Env}{tm:T AV}(h:fX ks E tm):lX E [] [] tm:=⟨λ _ _ h=>(by cases h),λ _ _ _ h=>(by cases h),λ t v _ c=>(h t v c).1⟩
theorem lX.put{E L R:Env}{tm:T AV}(h:lX E L R tm)(dst:Option Nat)(v:AV):lX E (lH dst v L) R (eK dst v tm):=by
 cases dst with
 |none=>exact h
 |some d =>
  show lX E ((d,v)::L) R (tm.set d v);refine⟨λ t w hw=>?_,λ t w hn hw=>?_,λ t w hn hw=>?_⟩
  .rw [wC]at hw;rw[T.aK];split at hw
   .grind
   .rename_i e;rw[qy e];exact h.l t w hw
  .rw [wC]at hn;rw[T.aK];split at hn
   .cases hn
   .rename_i e;rw[qy e];exact h.r t w hn hw
  .rw [wC]at hn;rw[T.aK];split at hn
   .cases hn
   .rename_i e;rw[qy e];exact h.e t w hn hw
def TV.elim{E L R:Env}{t:Nat}{g:Bool}{K:Bool->Env->AV->Prop}{tm:T AV}(hr:lX E L R tm)(h:TV E L R t g K):∃v d,tm.get t=B1 v/\lX E L d tm/\K g d v:=by
 unfold TV at h;cases hl:lk L t with
 |some v=>rw[hl]at h;exact⟨v,R,hr.l t v hl,hr,h⟩
 |none =>
  rw[hl]at h;cases c:lk R t with
  |some v=>rw[c]at h;exact⟨v,R,hr.r t v hl c,hr,h⟩
  |none =>
   rw[c]at h;have⟨v,f,h⟩:=LK.elim h;refine⟨v,_,hr.e t v hl f,⟨hr.l,λ u w hn hw=>?_,hr.e⟩,h⟩;rw[wC]at hw;split at hw
   .rename_i e;subst e;cases hw;exact hr.e t v hl f
   .exact hr.r u w hn hw
def Nr{tm:T AV}:∀{l:List bL}{vs:List AV}{K:List AV->Prop},mF tm l=B1 vs->K vs->qB tm l K
 |[],vs,K,h,hk=>by cases h;exact hk
 |x::xs,vs,K,h,hk=>by
  simp only[mF,qj]at h;have⟨v,d,ws,f,g⟩:=h;cases g;cases x with
  |tmp t=>exact bR.intro (m:=aI) d (Nr f hk)
  |const c=>injection d with d;subst d;exact Nr (K:=λ vs=>K (c::vs)) f hk
  |eR c=>cases d;exact Nr (K:=λ vs=>K (_::vs)) f hk
  |func c=>cases d;exact Nr (K:=λ vs=>K (_::vs)) f hk
def zI.elim{E L:Env}{tm:T AV}{g:Bool}:∀{l:List bL}{R:Env}{K:Bool->Env->List AV->Prop},lX E L R tm->zI E L l g R K -> ∃vs j,mF tm l=B1 vs/\lX E L j tm/\K g j vs
 |[],R,K,hr,h=>⟨[],R,rfl,hr,h⟩
 | .tmp t::xs,R,K,hr,h=>by
  have⟨v,o,m,i,h⟩:=TV.elim hr (show TV E L R t g (λ g R v=>zI E L xs g R λ g R vs=>K g R (v::vs))from h);have⟨vs,d,f,c,h⟩:=zI.elim i h;exact⟨v::vs,d,by simp[mF,rV,m,f],c,h⟩
 | .const v::xs,R,K,hr,h=>by
  have⟨vs,d,f,c,h⟩:=zI.elim (l:=xs) hr h;exact⟨v::vs,d,by simp[mF,rV,f],c,h⟩
 | .eR v::xs,R,K,hr,h=>by
  have⟨vs,d,f,c,h⟩:=zI.elim (l:=xs) hr h;exact⟨_,d,by simp[mF,rV,f],c,h⟩
 | .func v::xs,R,K,hr,h=>by
  have⟨vs,d,f,c,h⟩:=zI.elim (l:=xs) hr h;exact⟨_,d,by simp[mF,rV,f],c,h⟩
def Sa(ds:List Nat):∀(E:Env)(t:Nat),lk (sT ds E) t=if bK t ds then B5 else lk E t
 |[],t=>by simp[sT,CP]
 |(k,v)::r,t=>by
  show lk (cond (bK k ds) (sT ds r) ((k,v)::sT ds r)) t=_;cases hm:bK k ds with
  |true =>
   rw[xt,Sa ds r,wC]
   grind
  |false =>
   rw[zo,wC,Sa ds r,wC]
   grind
def ζ:∀(L:Env)(t:Nat),bK t (lK L)=B2->lk L t=B5
 |[],t,_=>rfl
 |(k,v)::r,t,h=>by
  have h:cond (I4 k t) B4 (bK t (lK r))=false:=h;rw[wC];cases hb:I4 k t with
  |true=>grind
  |false=>rw[hb,zo]at h;rw[qy (Nat.ne_of_beq_eq_false hb)];exact ζ r t h
def _C{t:Nat}:∀{l:List Nat},t∈l->bK t l=B4
 |x::r,h=>by
  show cond (I4 x t) B4 (bK t r)=B4;cases hb:I4 x t with
  |true=>rfl
  |false =>
   rw[zo];rcases kw.1 h with e|h
   .simp_all
   .exact _C h
def q4x:∀(ds:List Nat)(tm:T AV)(t:Nat),t∉ds->(forget ds tm).get t=tm.get t
 |[],tm,t,_=>rfl
 |d::ds,tm,t,h=>by
  show(forget ds (tm.put d B5)).get t=_;rw[q4x ds _ t (by grind),T.kN,qy (λ e=>h (by rw[e];exact wq ..))]
def QQ(ks:List Nat)(Q:aF)(up:Option aH):cP:=λ e st=>st.up=up /\ ∃E',fX ks E' st.tm/\Q e E' st.aZ st.H
section
variable{M:ak}{ctx:Ctx}{di:Bool}{Q:aF}{E:Env}{D:List aL}{up:Option aH}
theorem PX.I0{Z:cP}(hp:∀c tm H g,(∀t v,lk g t=B1 v->tm.get t=B1 v/\lk E t=B1 v)->Q (.panic c) g D H->Z (.panic c) ⟨tm,D,up,H⟩){f:Option (List Nat)}{L R:Env}{tm:T AV}(hr:lX E L R tm){c:aH}{H:ar}(h:PX f (lK L) Q E D c H):AW f tm D up Z c H:=by
 cases f with
 |none=>exact h
 |some ds =>
  refine hp _ _ _ _ (λ t v d=>?_) h;rw[Sa,Sa]at d;split at d
  .cases d
  .rename_i i;split at d
   .cases d
   .rename_i j;rw[q4x ds tm t (λ q=>i (_C q))];exact⟨hr.e t v (ζ L t (by simpa using j)) d,d⟩
theorem FI.Ex{Z:cP}(hp:∀c tm H j,(∀t v,lk j t=B1 v->tm.get t=B1 v/\lk E t=B1 v)->Q (.panic c) j D H->Z (.panic c) ⟨tm,D,up,H⟩){i:Option (List Nat)}{L R:Env}{tm:T AV}(hr:lX E L R tm){g:Bool}{f:mG}{vs:List AV}{H:ar}{K:Bool->AV->ar->Prop}{K':AV->ar->Prop}
 (h:FI M di i L Q E D g f vs H K) (hk:∀v H,K g v H->K' v H):nQ M aI f vs H K' (AW i tm D up Z):=by
 cases di with
 |false =>
  have⟨v,H',d,l⟩:=(show C3 M g f vs H K from h)
  exact⟨_,H',d,hk _ _ l⟩
 |true =>
  have⟨e,H',d,l⟩:=(show P3 M g (PX i (lK L) Q E D) f vs H K from h)
  refine⟨_,H',d,?_⟩
  grind [PX.I0]
def GR.body{Z:cP}(hp:∀c tm H x,(∀t v,lk x t=B1 v->tm.get t=B1 v/\lk E t=B1 v)->Q (.panic c) x D H->Z (.panic c) ⟨tm,D,up,H⟩){s:aQ}{K:KR}{g:Bool}{L R R0:Env}{tm:T AV}{H:ar}(hr:lX E L R tm)(r:lX E L R0 tm)(h:GR M di s Q E D K g L R H){KK:St->Prop}
 (C:∀j y i H',(s.iA=B4/\j=L/\i=tm \/ ∃v,s.iA=B2/\j=lH s.dst v L/\i=eK s.dst v tm)->lX E j y i->lX E j R0 i->K g j y H'->KK ⟨i,D,up,H'⟩) :
 match s.iA with
 |false=>qB tm s.args λ vs=>pW M ctx s.dst s.cM ⟨tm,D,up,H⟩ Z KK vs s.op
 |true=>qB tm s.args λ vs=>RU s.dst ⟨tm,D,up,H⟩ vs s.op/\KK ⟨tm,D,up,H⟩:=by
 have⟨iA,dst,guard,args,op,u⟩:=s;have⟨vs,p,z,q,h⟩:=zI.elim hr h;cases iA with
 |true =>
  refine Nr z ?_;have h:SK dst E L p H K g vs op:=h;cases op with
  |read f =>
   cases dst with
   |none=>exact h.elim
   |some d =>
    have h:N0 g (f vs H) (X7 L E d) (λ g=>K g L p H):=h;have⟨⟨v,e1,e2⟩,h⟩:=h;refine⟨?_,(by grind)⟩;refine bR.intro (m:=aI) e1 (bR.intro (m:=aI) (a:=v) ?_ rfl);unfold X7 at e2;cases hl:lk L d with
    |some w=>rw[hl]at e2;injection e2 with e2;subst e2;exact hr.l d w hl
    |none=>rw[hl]at e2;exact hr.e d v hl e2
  |_=>exact h.elim
 |false =>
  have put:∀v H',K g (lH dst v L) p H'->KK ⟨eK dst v tm,D,up,H'⟩:=λ v H' hk=>C _ p _ H' (by grind) (q.put dst v) (r.put dst v) hk;refine Nr z ?_;have h:vM M di dst u Q E D L p H K g vs op:=h;cases op with
  |pure f=>simp only[vM]at h;have⟨v,e,h⟩:=B3.elim h;exact bR.intro (m:=aI) e (put _ _ h)
  |read f=>simp only[vM]at h;have⟨v,e,h⟩:=B3.elim h;exact bR.intro (m:=aI) e (put _ _ h)
  |alloc f=>simp only[vM]at h;simp only[pW];have⟨o,mk,e,h⟩:=jB.elim h;exact iP.intro (m:=aI) e (put _ _ h)
  |gY f=>simp only[vM]at h;simp only[pW];have⟨v,H',e,h⟩:=jB.elim h;exact iP.intro (m:=aI) e (put _ _ h)
  |ik f=>exact FI.Ex hp q h λ v H' hk=>put v H' hk
  |im =>
   simp only[vM,V3]at h
   grind [pW,ND,FI.Ex]
  |invoke n =>
   simp only[vM,N3]at h;simp only[pW,NY];split at h
   .have ⟨f,e,h⟩:=B3.elim h;exact bR.intro (m:=aI) e ((by grind [FI.Ex]))
   grind
  |recover=>exact NR h
  |defer=>exact NR h
  |panic =>
   cases di with
   |false=>exact NR h
   |true =>
    have h:gJ vs H (PX u (lK L) Q E D):=h;show gJ vs H (AW u tm D up Z);unfold gJ at h⊢
    grind [PX.I0]
def NM(g:Option (Nat×Bool))(l:List aQ):Prop:=∀s∈l,s.guard=g
def pR.free{Z:cP}(hp:∀c tm H f,(∀t v,lk f t=B1 v->tm.get t=B1 v/\lk E t=B1 v)->Q (.panic c) f D H->Z (.panic c) ⟨tm,D,up,H⟩){K:KR}{g:Bool}{R0:Env}{rest:List aQ}(i:∀L R tm H,lX E L R tm->lX E L R0 tm->K g L R H->oI M ctx rest ⟨tm,D,up,H⟩ Z) :
 ∀{l:List aQ}{L R:Env}{tm:T AV}{H:ar},NM B5 l->lX E L R tm->lX E L R0 tm->pR M di Q E D K l g L R H->oI M ctx (l++rest) ⟨tm,D,up,H⟩ Z
 |[],L,R,tm,H,_,hr,hr0,h=>i _ _ _ _ hr hr0 h
 |s::l,L,R,tm,H,hg,hr,hr0,h=>by
  rw[Jk,XL];have hs:s.guard=none:=hg s (wq ..);have:=GR.body hp (ctx:=ctx) (up:=up) (KK:=λ d=>oI M ctx (l++rest) d Z) hr hr0 (show GR M di s Q E D (pR M di Q E D K l) g L R H from h)
   λ r u q H' _ m o p=>pR.free hp i (λ x j=>hg x (M3 _ j)) m o p
  have⟨iA,dst,guard,args,op,w⟩:=s;subst hs;cases iA<;>exact this
theorem Wg:∀(n:Nat)(f:List AV->ar->Prop)(l:List AV)(H:ar),l.length=n->pZ n (qM n f) l H=f l H
 |0,f,[],H,_=>rfl
 |n+1,f,v::l,H,h=>Wg n (λ l=>f (v::l)) l H (by simpa using h)
 |0,f,_::_,H,h=>by cases h
 |n+1,f,[],H,h=>by cases h
def ag7{α:Type}(l:List α):cR l=l.length:=by
 induction l with
 |nil=>rfl
 |cons x l ih=>grind [cR]
theorem nu:∀(ks:List Nat)(L:Env)(vs:List AV),vs.length=ks.length->qZ ks.length (lj ks L vs)=vs
 |[],L,[],_=>rfl
 |k::ks,L,v::vs,h=>by
  show v::qZ ks.length (lj ks L vs)=_;rw[nu ks L vs (by simpa using h)]
 |[],L,_::_,h=>by cases h
 |_::_,L,[],h=>by cases h
def kx:∀n,(sD n).length=n
 |0=>rfl
 |n+1=>by show(sD n).length+1=_;rw[kx n]
def pR.under{Z:cP}(hp:∀c tm H u,(∀t v,lk u t=B1 v->tm.get t=B1 v/\lk E t=B1 v)->Q (.panic c) u D H->Z (.panic c) ⟨tm,D,up,H⟩){K:KR}{g:Bool}{R0:Env}{rest:List aQ}{t:Nat}{b:Bool}{v:AV}(hw:cV b (B1 v)=B1 B4){kf:List Nat}{L0:Env}(y:∀vs R tm H,vs.length=kf.length->lX E (lj kf L0 vs) R tm->lX E (lj kf L0 vs) R0 tm->K g (lj kf L0 vs) R H->oI M ctx rest ⟨tm,D,up,H⟩ Z) :
 ∀{l:List aQ}{acc:List Nat}{us:List AV}{L R:Env}{tm:T AV}{H:ar},bA l acc=kf->us.length=acc.length->L=lj acc L0 us->NM (B1 (t,b)) l->vW t l=B4->tm.get t=B1 v->lX E L R tm->lX E L R0 tm->pR M di Q E D K l g L R H->oI M ctx (l++rest) ⟨tm,D,up,H⟩ Z
 |[],acc,us,L,R,tm,H,e1,e2,e3,_,_,_,hr,hr0,h=>by
  have e1:acc=kf:=e1;subst e1;subst e3;exact y _ _ _ _ e2 hr hr0 h
 |s::l,acc,us,L,R,tm,H,e1,e2,e3,hg,ho,ht,hr,hr0,h=>by
  rw[Jk,XL];have hs:s.guard=B1 (t,b):=hg s (wq ..);have ho:cond (Qs s.dst t) B2 (cond s.iA (cond s.dst.isSome (vW t l) B2) (vW t l))=true:=ho;have o:Qs s.dst t=false:=by grind
  rw[o,zo]at ho;have q:vW t l=true:=by
   grind
  have:=GR.body hp (ctx:=ctx) (up:=up) (KK:=λ r=>oI M ctx (l++rest) r Z) hr hr0 (show GR M di s Q E D (pR M di Q E D K l) g L R H from h)
   λ F U S H' C J N O=>by
    have e1:bA l (cond s.iA acc (QY (motive:=λ _=>List Nat) acc (λ d=>d::acc) s.dst))=kf:=e1;obtain⟨f,i,j⟩:∃f,f.length=(cond s.iA acc (QY (motive:=λ _=>List Nat) acc (λ d=>d::acc) s.dst)).length/\F=lj (cond s.iA acc (QY (motive:=λ _=>List Nat) acc (λ d=>d::acc) s.dst)) L0 f:=by
     rcases C with⟨z,rfl,_⟩|⟨w,z,rfl,_⟩
     .grind
     .rw [z];cases s.dst with
      |none=>exact⟨us,e2,e3⟩
      |some d=>exact⟨w::us,by simpa using e2,by rw[e3];rfl⟩
    exact pR.under hp hw y e1 i j (λ x G=>hg x (M3 _ G)) q (by
     rcases C with⟨_,_,rfl⟩|⟨w,_,_,rfl⟩
     .exact ht
     .cases p:s.dst with
      |none=>exact ht
      |some d =>
       rw[p]at o;show(tm.set d w).get t=_;rw[T.aK,qy (Nat.ne_of_beq_eq_false o)];exact ht) J N O
  have⟨iA,dst,guard,args,op,V⟩:=s;subst hs;have e:cV b (tm.get t)=B1 true:=by grind
  cases iA with
  |false=>exact bR.intro (m:=aI) e this
  |true=>exact bR.intro (m:=aI) e this
def pR.over{Z:cP}{R0:Env}{rest:List aQ}{t:Nat}{b:Bool}{v:AV}(hw:cV b (B1 v)=B1 B2){kf:List Nat}{L0:Env}{H:ar}(j:∀tm,lX E (lj kf L0 (sD kf.length)) R0 tm->oI M ctx rest ⟨tm,D,up,H⟩ Z) :
 ∀{l:List aQ}{acc:List Nat}{tm:T AV},bA l acc=kf->NM (B1 (t,b)) l->vW t l=B4->tm.get t=B1 v->lX E (lj acc L0 (sD acc.length)) R0 tm->oI M ctx (l++rest) ⟨tm,D,up,H⟩ Z
 |[],acc,tm,e1,_,_,_,hr0=>by
  have e1:acc=kf:=e1
  grind
 |s::l,acc,tm,e1,hg,ho,ht,hr0=>by
  rw[Jk,XL];have hs:s.guard=B1 (t,b):=hg s (wq ..);have ho:cond (Qs s.dst t) B2 (cond s.iA (cond s.dst.isSome (vW t l) B2) (vW t l))=true:=ho;have i:Qs s.dst t=false:=by grind
  rw[i,zo]at ho;have e:cV b (tm.get t)=B1 false:=by grind
  have g:NM (B1 (t,b)) l:=λ x o=>hg x (M3 _ o);have e1:bA l (cond s.iA acc (QY (motive:=λ _=>List Nat) acc (λ d=>d::acc) s.dst))=kf:=e1;cases h:s.iA with
  |true =>
   rw[h]at ho e1;cases f:s.dst.isSome with
   |false=>grind
   |true =>
    rw[f]at ho;have:=pR.over hw j e1 g ho ht hr0;have⟨iA,dst,guard,args,op,p⟩:=s;subst hs;subst h;exact bR.intro (m:=aI) e ⟨f,this⟩
  |false =>
   rw[h]at ho e1;have:=pR.over hw j (tm:=eK s.dst .undef tm) e1 g ho (by
    cases c:s.dst with
     |none=>exact ht
     |some d =>
      rw[c]at i;show(tm.set d _).get t=_;rw[T.aK,qy (Nat.ne_of_beq_eq_false i)];exact ht) (by
    have:=hr0.put s.dst .undef;cases c:s.dst with
     |none=>rw[c]at this;exact this
     |some d=>rw[c]at this;exact this)
   have⟨iA,dst,guard,args,op,p⟩:=s;subst hs;subst h;exact bR.intro (m:=aI) e this
theorem DK{a b:Option (Nat×Bool)}(h:sJ a b=B4):a=b:=by
 cases a with
 |none=>cases b with
  |none=>rfl
  |some _=>cases h
 |some p=>cases b with
  |none=>cases h
  |some q =>
   have⟨t,x⟩:=p;have⟨u,y⟩:=q;have h:cond (I4 t u) (cond x y (!y)) B2=true:=h
   grind [Ln]
def Cm:∀(l:List aQ),(JE l).flatMap (·.2)=l /\ ∀x∈JE l,NM x.1 x.2
 |[]=>⟨rfl,λ x c=>by cases c⟩
 |s::l=>by
  have⟨d,h⟩:=Cm l;have e:JE (s::l)=List.casesOn (motive:=λ _=>List F0) (JE l) [(s.guard,[s])] λ g r=>cond (sJ g.1 s.guard) ((g.1,s::g.2)::r) ((s.guard,[s])::g::r):=rfl;rw[e];cases hg:JE l with
  |nil =>
   rw[hg]at d;exact⟨by simpa using d,λ x c=>by simp at c;subst c;intro y f;grind⟩
  |cons g r =>
   rw[hg]at d h;show(cond (sJ g.1 s.guard) ((g.1,s::g.2)::r) ((s.guard,[s])::g::r)).flatMap _=_ /\ ∀x∈cond (sJ g.1 s.guard) ((g.1,s::g.2)::r) ((s.guard,[s])::g::r),_;cases hs:sJ g.1 s.guard with
   |true =>
    refine⟨by simpa using d,λ x c=>?_⟩;rcases kw.1 c with rfl|c
    .intro y f;rcases kw.1 f with rfl|f
     .grind [DK]
     .exact h g (wq ..) y f
    grind
   |false =>
    refine⟨by simpa using d,λ x c=>?_⟩;rcases kw.1 c with rfl|c
    .intro y f;grind
    grind
def yT.RW{Z:cP}(hp:∀c tm H j,(∀t v,lk j t=B1 v->tm.get t=B1 v/\lk E t=B1 v)->Q (.panic c) j D H->Z (.panic c) ⟨tm,D,up,H⟩){K:KR}{g:Bool}(m:∀L R tm H,lX E L R tm->K g L R H->Z .normal ⟨tm,D,up,H⟩):∀{gs:List F0}{L R:Env}{tm:T AV}{H:ar},(∀x∈gs,NM x.1 x.2)->lX E L R tm->yT M di Q E D K gs g L R H ->
 oI M ctx (gs.flatMap (·.2)) ⟨tm,D,up,H⟩ Z
 |[],L,R,tm,H,_,hr,h=>m _ _ _ _ hr h
 |x::gs,L,R,tm,H,hg,hr,h=>by
  rw[j8];have r:∀L R tm H,lX E L R tm->yT M di Q E D K gs g L R H->oI M ctx (gs.flatMap (·.2)) ⟨tm,D,up,H⟩ Z:=λ L R tm H hr h=>yT.RW hp m (by grind) hr h;have i:=hg x (wq ..);have⟨q,l⟩:=x;cases q with
  |none=>exact pR.free hp (R0:=R) (by grind) i hr hr (show pR M di Q E D (yT M di Q E D K gs) l g L R H from h)
  |some q =>
   have⟨t,b⟩:=q;cases ho:vW t l with
   |false =>
    have h:cond (vW t l) _ False:=h
    grind
   |true =>
    have h:cond (vW t l) _ False:=h;rw[ho,xt]at h;have⟨v,f,o,d,h⟩:=TV.elim hr h;have kl:cR (bA l [])=(bA l []).length:=ag7 _;have h:B3 g (cV b (B1 v)) λ g w=>vE g w (λ g=>pR M di Q E D (λ g p _ H=>pZ (cR (bA l [])) (qM (cR (bA l [])) λ vs H=>yT M di Q E D K gs g (lj (bA l []) L vs) f H) (qZ (cR (bA l [])) p) H) l g L f H)
     (λ g=>pZ (cR (bA l [])) (qM (cR (bA l [])) λ vs H=>yT M di Q E D K gs g (lj (bA l []) L vs) f H) (sD (cR (bA l []))) H):=h
    have⟨w,hw,h⟩:=B3.elim h;cases w with
    |true =>
     refine pR.under hp (R0:=f) hw (kf:=bA l []) (L0:=L) (λ vs R tm H q u s y=>?_) (acc:=[]) (us:=[]) rfl rfl rfl i ho o d d h
     grind [nu,Wg]
    |false =>
     have h:pZ (cR (bA l [])) (qM (cR (bA l [])) λ vs H=>yT M di Q E D K gs g (lj (bA l []) L vs) f H) (sD (cR (bA l []))) H:=h;rw[kl,Wg _ _ _ _ (kx _)]at h;exact pR.over hw (kf:=bA l []) (L0:=L) (by grind) (acc:=[]) rfl i ho o d
def rH.RW{Z:cP}(hp:∀c tm H d,(∀t v,lk d t=B1 v->tm.get t=B1 v/\lk E t=B1 v)->Q (.panic c) d D H->Z (.panic c) ⟨tm,D,up,H⟩){l:List aQ}{g:Bool}{H:ar}{K:KR}{tm:T AV}{ks:List Nat}(he:fX ks E tm)(h:rH M di Q E D l g H K)(i:∀L R tm H,lX E L R tm->K g L R H->Z .normal ⟨tm,D,up,H⟩):oI M ctx l ⟨tm,D,up,H⟩ Z:=by
 have⟨j,f⟩:=Cm l;have:=yT.RW hp (ctx:=ctx) i f (lX.first he) h
 grind
end
end
end Go.Am
namespace Go.Am
noncomputable section
variable{M:ak}{ctx:Ctx}{K:Kp}
def Vo(ks:List Nat)(E:Env):∀(L:Env)(t:Nat)(v:AV),bK t ks=B4->lk (dK ks E L) t=B1 v->lk L t=B1 v\/lk L t=B5/\lk E t=B1 v
 |[],t,v,_,h=>.inr ⟨rfl,h⟩
 |(k,w)::r,t,v,ht,h=>by
  have h:lk (cond (bK k ks) ((k,w)::dK ks E r) (dK ks E r)) t=B1 v:=h;rw[wC];cases hm:bK k ks with
  |true =>
   rw[hm,xt,wC]at h;split at h
   .grind
   .rename_i e;rw[qy e];exact Vo ks E r t v ht h
  |false =>
   rw[hm,zo]at h
   by_cases e:k=t
   .grind
   .rw [qy e];exact Vo ks E r t v ht h
def Yg(ks:List Nat)(E:Env)(c:∀t v,lk E t=B1 v->bK t ks=B4):∀(L:Env)(t:Nat)(v:AV),lk (dK ks E L) t=B1 v->bK t ks=B4
 |[],t,v,h=>c t v h
 |(k,w)::r,t,v,h=>by
  have h:lk (cond (bK k ks) ((k,w)::dK ks E r) (dK ks E r)) t=B1 v:=h;cases hm:bK k ks with
  |true =>
   rw[hm,xt,wC]at h;split at h
   .grind
   .exact Yg ks E c r t v h
  |false=>rw[hm,zo]at h;exact Yg ks E c r t v h
def lX.ah{E L R:Env}{tm:T AV}(h:lX E L R tm){ks:List Nat}(d:∀t v,lk E t=B1 v->bK t ks=B4):fX ks (dK ks E L) tm:=λ t v c=>by
 have hm:=Yg ks E d L t v c;refine⟨?_,hm⟩;rcases Vo ks E L t v hm c with q|⟨f,g⟩
 .exact h.l t v q
 .exact h.e t v f g
def fX.keys{ks:List Nat}{E:Env}{tm:T AV}(h:fX ks E tm):∀t v,lk E t=B1 v->bK t ks=true:=λ t v c=>(h t v c).2
def fX.di{ks:List Nat}{E d:Env}{tm c:T AV}(h:fX ks E tm)(f:∀t v,lk d t=B1 v->c.get t=B1 v/\lk E t=B1 v):fX ks d c:=λ t v g=>⟨(f t v g).1,(h t v (f t v g).2).2⟩
def TV.cv{E L R:Env}{x:bL}{g:Bool}{P:Bool->AV->Prop}{tm:T AV}(hr:lX E L R tm)(h:CV E L R x g P):∃v,rV tm x=B1 v/\P g v:=by
 cases x with
 |tmp t=>have⟨v,_,c,_,d⟩:=TV.elim hr (show TV E L R t g (λ g _ v=>P g v)from h);exact⟨v,c,d⟩
 |const v=>exact⟨v,rfl,h⟩
 |eR v=>exact⟨_,rfl,h⟩
 |func v=>exact⟨_,rfl,h⟩
def OV.elim{ks:List Nat}{E:Env}{x:bL}{g:Bool}{P:Bool->AV->Prop}{tm:T AV}(hr:fX ks E tm)(h:OV E x g P):∃v,rV tm x=B1 v/\P g v:=by
 cases x with
 |tmp t=>have⟨v,c,d⟩:=LK.elim (show LK g (lk E t) P from h);exact⟨v,(hr t v c).1,d⟩
 |const v=>exact⟨v,rfl,h⟩
 |eR v=>exact⟨_,rfl,h⟩
 |func v=>exact⟨_,rfl,h⟩
def xbu{tm:T AV}{x:bL}{v:AV}{P:AV->Prop}(h:rV tm x=B1 v)(hp:P v):FV tm x P:=by
 cases x with
 |tmp t=>exact bR.intro (m:=aI) h hp
 |const c=>cases h;exact hp
 |eR c=>cases h;exact hp
 |func c=>cases h;exact hp
def mU.wp{a b:ai}{g:Bool}{v:AV}{A B:Bool->Prop}{tm:T AV}{c:bL}{st:St}{Q:cP}(d:rV st.tm c=B1 v)(h:mU g v A B)(ha:A g->WP M ctx a st Q)(hb:B g->WP M ctx b st Q):WP M ctx (.cond c a b) st Q:=by
 obtain⟨q,rfl,h⟩:=h.elim;refine xbu d ?_;cases q with
 |true=>exact ha h
 |false=>exact hb h
def fj:ai->Nat
 | .seq a b=>fj a+fj b+1
 | .cond _ a b=>fj a+fj b+1
 | .block _ b=>fj b+1
 | .loop _ b=>fj b+1
 | .scope b=>fj b+1
 |_=>0
def W3.wp:∀(n:Nat)(c:ai),fj c<=n -> ∀{g:Bool}{Q:aF}{E:Env}{D:List aL}{H:ar}{tm:T AV}{up:Option aH},W3 M ctx K c g Q E D H->fX K.ah E tm->WP M ctx c ⟨tm,D,up,H⟩ (QQ K.ah Q up):=by
 intro n
 induction n with
 |zero =>
  intro c hc g Q E D H tm up h he;cases c with
  |skip=>exact⟨rfl,E,he,h⟩
  |label _=>exact⟨rfl,E,he,h⟩
  |exit _=>exact⟨rfl,E,he,h⟩
  |goto _=>exact⟨rfl,E,he,h⟩
  |ret=>exact⟨rfl,E,he,h⟩
  |stuck=>exact NR h
  |region l=>exact rH.RW (λ c w H' j p i=>⟨rfl,j,he.di p,i⟩) he (show rH M K.di Q E D l g H _ from h) λ L R tm H hr hk=>⟨rfl,_,hr.ah he.keys,hk⟩
  |rangeFunc f k =>
   have⟨v,s,h⟩:=OV.elim he (show OV E f g _ from h);exact xbu s (by
    have:=h tm up he;unfold Jr at this⊢;split
    .rename_i hr;rw[hr]at this;exact Pn this λ e st⟨p,i,o⟩=>⟨p,E,by rw[i];exact he,o⟩
    .rename_i l hr;rw[hr]at this;exact Fz (m:=aI) this λ d q=>Pn q λ e st⟨p,i,o⟩=>⟨p,E,by rw[i];exact he,o⟩)
  |seq _ _=>grind [fj]
  |cond _ _ _=>grind [fj]
  |block _ _=>grind [fj]
  |loop _ _=>grind [fj]
  |scope _=>grind [fj]
 |succ n ih =>
  intro c hc g Q E D H tm up h he;have t:∀{a b:ai}{tm:T AV}{H:ar},fj b<=n->WP M ctx a ⟨tm,D,up,H⟩ (QQ K.ah (fm (W3 M ctx K b) Q) up)->WP M ctx a ⟨tm,D,up,H⟩ (ES (WP M ctx b) (QQ K.ah Q up)):=λ{a b tm H}hb h=>pY h λ e st⟨p,j,i,o⟩=>by
   have⟨w,D',U,H'⟩:=st;subst p;cases e with
   |normal=>exact ih b hb o i
   |exit _=>exact⟨rfl,j,i,o⟩
   |goto _=>exact⟨rfl,j,i,o⟩
   |ret=>exact⟨rfl,j,i,o⟩
   |panic _=>exact⟨rfl,j,i,o⟩
  have z:∀{c:bL}{x y:ai}{E:Env}{tm:T AV}{v:AV}{g:Bool}{Q:aF}{H:ar},fj x<=n->fj y<=n->rV tm c=B1 v->fX K.ah E tm->mU g v (λ g=>W3 M ctx K x g Q E D H) (λ g=>W3 M ctx K y g Q E D H)->WP M ctx (.cond c x y) ⟨tm,D,up,H⟩ (QQ K.ah Q up) :=
   λ{c x y E tm v g Q H}hx hy s he h=>mU.wp (tm:=tm) (st:=⟨tm,D,up,H⟩) s h (by grind) (by grind)
  cases c with
  |seq a b =>
   have O:fj a+fj b<=n:=by grind [fj]
   have gen:W3 M ctx K a g (fm (W3 M ctx K b) Q) E D H->WP M ctx (.seq a b) ⟨tm,D,up,H⟩ (QQ K.ah Q up):=λ h=>t (a:=a) (b:=b) (by omega) (ih a (by omega) h he);have pO:∀(l:List aQ)(N:KR),a=.region l->rH M K.di Q E D l g H N->(∀L R tm H,lX E L R tm->N g L R H->WP M ctx b ⟨tm,D,up,H⟩ (QQ K.ah Q up))->WP M ctx (.seq a b) ⟨tm,D,up,H⟩ (QQ K.ah Q up):=λ l N e Y hk=>by
    subst e;exact rH.RW (Z:=ES (WP M ctx b) (QQ K.ah Q up)) (λ c w H' j p i=>⟨rfl,j,he.di p,i⟩) he Y hk
   cases a with
   |region l =>
    have plain:(rH M K.di Q E D l g H λ g L _ H=>W3 M ctx K b g Q (dK K.ah E L) D H)->WP M ctx (.seq (.region l) b) ⟨tm,D,up,H⟩ (QQ K.ah Q up):=λ h=>pO l _ rfl h λ L R tm H hr hk=>ih b (by omega) hk (hr.ah he.keys);cases b with
    |cond c x y =>
     have S:fj x+fj y+1<=n:=by grind [fj]
     refine pO l _ rfl h λ L R tm H hr hk=>?_;have⟨v,s,hk⟩:=TV.cv hr hk;exact z (by omega) (by omega) s (hr.ah he.keys) hk
    |seq b1 r =>
     cases b1 with
     |cond c x y =>
      have S:fj x+fj y+1+fj r+1<=n:=by grind [fj]
      refine pO l _ rfl h λ L R tm H hr hk=>?_;have⟨v,s,hk⟩:=TV.cv hr hk;exact t (by omega) (z (by omega) (by omega) s (hr.ah he.keys) hk)
     |_=>exact plain h
    |_=>exact plain h
   |_=>exact gen h
  |cond c x y =>
   have O:fj x+fj y<=n:=by grind [fj]
   have⟨v,s,h⟩:=OV.elim he (show OV E c g _ from h)
   grind
  |block id b =>
   have hb:fj b<=n:=by grind [fj]
   exact pY (c:=b) (ih b hb (show W3 M ctx K b g (eX id Q) E D H from h) he) λ e st⟨p,j,i,o⟩=>by cases e<;>exact⟨p,j,i,o⟩
  |scope b =>
   have hb:fj b<=n:=by grind [fj]
   refine pY (c:=b) (ih b hb (show W3 M ctx K b g (kH b Q) E D H from h) he) λ e st⟨p,j,i,o⟩=>?_;cases e with
   |goto l=>exact⟨o.1,p,j,i,o.2⟩
   |normal=>exact⟨p,j,i,o⟩
   |exit _=>exact⟨p,j,i,o⟩
   |ret=>exact⟨p,j,i,o⟩
   |panic _=>exact⟨p,j,i,o⟩
  |loop ah b =>
   have hb:fj b<=n:=by grind [fj]
   cases ah with
   |some _=>exact NR h
   |none =>
    have⟨I,⟨n0,V,h0,hs⟩,u⟩:=(show b9 (W3 M ctx K b) Q E D H from h)
    refine⟨λ n st=>st.up=up /\ ∃j,fX K.ah j st.tm/\I n j st.aZ st.H,⟨n0,rfl,V,hs.sub he,h0⟩,λ n st⟨p,j,i,o⟩=>?_⟩;have⟨w,D',U,H'⟩:=st;subst p;refine pY (c:=b) (ih b hb (u n j D' H' o) i) λ e st⟨C,J,F,G⟩=>?_;cases e with
    |normal=>have⟨m,W,q1,q2,q3⟩:=G;exact⟨m,q3,C,W,q2.sub F,q1⟩
    |exit _=>exact⟨C,J,F,G⟩
    |goto _=>exact⟨C,J,F,G⟩
    |ret=>exact⟨C,J,F,G⟩
    |panic _=>exact⟨C,J,F,G⟩
  |skip=>exact⟨rfl,E,he,h⟩
  |label _=>exact⟨rfl,E,he,h⟩
  |exit _=>exact⟨rfl,E,he,h⟩
  |goto _=>exact⟨rfl,E,he,h⟩
  |ret=>exact⟨rfl,E,he,h⟩
  |stuck=>exact NR h
  |region l=>exact ih _ (xw _) h he
  |rangeFunc f k=>exact ih _ (xw _) h he
def i9(E:Env)(H:ar):List eC->(List AV->Prop)->Prop
 |[],P=>P []
 | .tmp t::rs,P=>LK B4 (lk E t) λ _ v=>i9 E H rs λ vs=>P (v::vs)
 | .kT a::rs,P=>LK B4 (lk E a) λ _ v=>B3 B4 (Op.ae [v] H) λ _ v=>i9 E H rs λ vs=>P (v::vs)
 | .cZ n a::rs,P=>LK B4 (lk E a) λ _ v=>B3 B4 (Op.aq n [v] H) λ _ v=>i9 E H rs λ vs=>P (v::vs)
def om(M:ak)(rs:List eC)(E:Env)(Q:bM->ar->Prop):List aL->Option aH->ar->Prop
 |[],B5,H=>i9 E H rs λ l=>Q (.ret (jH l)) H
 |[],B1 c,H=>Q (.panic c) H
 | .iy b::ds,m,H=>H.get b=B1 (.deferred (B1 []))/\om M rs E Q ds m (H.set b (.deferred B5))
 | .fn (.func f) args::ds,m,H=>∃v up' H',jS M f args (B1 (m.getD [])) H (.ret v) (B1 up') H'/\bR aI (oh m up') λ m'=>om M rs E Q ds m' H'
 | .fn (.yield _) _::_,_,_=>False
def i9.elim{ks:List Nat}{E:Env}{tm:T AV}(he:fX ks E tm){H:ar}:∀{rs:List eC}{P:List AV->Prop},i9 E H rs P -> ∃l,eB H tm rs=B1 l/\P l
 |[],P,h=>⟨[],rfl,h⟩
 | .tmp t::rs,P,h=>by
  have⟨v,c,h⟩:=LK.elim (show LK B4 (lk E t) _ from h);have⟨l,d,h⟩:=i9.elim he h;exact⟨v::l,by rw[GW,(he t v c).1,d];rfl,h⟩
 | .kT t::rs,P,h=>by
  have⟨v,c,h⟩:=LK.elim (show LK B4 (lk E t) _ from h);have⟨w,d,h⟩:=B3.elim h;have⟨l,f,h⟩:=i9.elim he h;exact⟨w::l,by rw[xnj,(he t v c).1,qr,d,qr,f];rfl,h⟩
 | .cZ n t::rs,P,h=>by
  have⟨v,c,h⟩:=LK.elim (show LK B4 (lk E t) _ from h);have⟨w,d,h⟩:=B3.elim h;have⟨l,f,h⟩:=i9.elim he h;exact⟨w::l,by rw[xnk,(he t v c).1,qr,d,qr,f];rfl,h⟩
theorem om.R4{ks:List Nat}{E:Env}{tm:T AV}(he:fX ks E tm){rs:List eC}{Q:bM->ar->Prop}:∀{D:List aL}{m:Option aH}{H:ar},om M rs E Q D m H->zS M rs tm Q D m H
 |[],B5,H,h=>by have⟨l,d,g⟩:=i9.elim he h;exact bR.intro (m:=aI) d g
 |[],B1 c,H,h=>h
 | .iy b::ds,m,H,⟨d,g⟩=>⟨d,om.R4 he g⟩
 | .fn (.func f) args::ds,m,H,⟨v,up',H',d,g⟩=>⟨v,up',H',d,Fz g λ i h=>om.R4 he h⟩
 | .fn (.yield _) _::_,_,_,h=>h
def eH(M:ak)(rs:List eC)(Q:bM->ar->Prop):aF:=λ e E D H=>match e with
 | .normal=>om M rs E Q D B5 H
 | .ret=>om M rs E Q D B5 H
 | .panic c=>om M rs E Q D (B1 c) H
 |_=>False
def FW(M:ak)(f:Nat)(vs:List AV)(H:ar)(Q:bM->ar->Prop):Prop:=∃e H',CALL M f vs H e H'/\Q e H'
def uj(Q:AV->ar->Prop)(e:bM)(H:ar):Prop:=match e with
 | .ret v=>Q v H
 | .panic _=>False
def zb(M:ak)(f:Nat)(vs:List AV)(H:ar)(Q:AV->ar->Prop):Prop:=FW M f vs H (uj Q)
def zb.elim{f:Nat}{vs:List AV}{H:ar}{Q:AV->ar->Prop}(h:zb M f vs H Q):∃v H',CALL M f vs H (.ret v) H'/\Q v H':=by
 have⟨e,H',d,c⟩:=h;cases e with
 |ret v=>exact⟨v,H',d,c⟩
 |panic _=>exact c.elim
theorem zb.intro{f:Nat}{vs:List AV}{H:ar}{Q:AV->ar->Prop}{v:AV}{H':ar}(h:CALL M f vs H (.ret v) H')(c:Q v H'):zb M f vs H Q:=⟨_,H',h,c⟩
def zb.mono{f:Nat}{vs:List AV}{H:ar}{Q Q':AV->ar->Prop}(h:zb M f vs H Q)(g:∀v H',Q v H'->Q' v H'):zb M f vs H Q':=by
 have⟨v,H',c,d⟩:=h.elim;exact⟨_,H',c,g _ _ d⟩
def C3.q{m:Bool}{f:Nat}{vs:List AV}{H:ar}{R:AV->ar->Prop}{P:Bool->AV->ar->Prop}(h:zb M f vs H R)(hk:∀v H',R v H'->P m v H'):C3 M m (.func f) vs H P:=by
 have⟨v,H',c,d⟩:=h.elim;exact⟨v,H',c,hk v H' d⟩
def C3.ret{m:Bool}{f:Nat}{vs:List AV}{H:ar}{P:Bool->AV->ar->Prop}{v:AV}{H':ar}(h:CALL M f vs H (.ret v) H')(hk:P m v H'):C3 M m (.func f) vs H P:=⟨v,H',h,hk⟩
def C3.tR{m:Bool}{l:Nat}{vs:List AV}{H:ar}{P:Bool->AV->ar->Prop}{v:AV}{H':ar}(h:sI M l vs H (.ret v) H')(hk:P m v H'):C3 M m (.yield l) vs H P:=⟨v,H',h,hk⟩
def P3.q{m:Bool}{X:aH->ar->Prop}{f:Nat}{vs:List AV}{H:ar}{R:bM->ar->Prop}{P:Bool->AV->ar->Prop}(h:FW M f vs H R)(hk:∀v H',R (.ret v) H'->P m v H')(i:∀c H',R (.panic c) H'->X c H'):P3 M m X (.func f) vs H P:=by
 have⟨e,H',d,g⟩:=h;refine⟨e,H',d,?_⟩
 grind
def kF:Nat->List AV->Env
 |_,[]=>[]
 |i,v::vs=>(i,v)::kF (i+1) vs
def jX:Nat->Nat->List Nat->Bool
 |_,0,_=>B4
 |i,n+1,ks=>bK i ks && jX (i+1) n ks
def q8g:∀(vs:List AV)(i t:Nat)(tm:T AV),(jM i vs tm).get t=if i<=t then(match vs[t-i]? with|some v=>B1 v|none=>tm.get t)else tm.get t
 |[],i,t,tm=>by simp[jM]
 |v::vs,i,t,tm=>by
  rw[jM,q8g vs (i+1) t,T.aK]
  grind
def _L:∀(vs:List AV)(i t:Nat)(v:AV),lk (kF i vs) t=B1 v->i<=t/\vs[t-i]? = B1 v
 |[],i,t,v,h=>by cases h
 |w::vs,i,t,v,h=>by
  rw[kF,wC]at h;split at h
  .grind
  .have ⟨c,d⟩:=_L vs (i+1) t v h
   grind
def xc1:∀(n i:Nat)(ks:List Nat),jX i n ks=B4 -> ∀t,i<=t->t<i+n->bK t ks=B4
 |0,i,ks,_,t,h1,h2=>by omega
 |n+1,i,ks,h,t,h1,h2=>by
  simp only[jX,zn]at h
  by_cases e:i=t
  .grind
  .exact xc1 n (i+1) ks h.2 t (by omega) (by omega)
def Z5{ks:List Nat}{vs:List AV}(h:jX 0 vs.length ks=B4):fX ks (kF 0 vs) (jM 0 vs .nil):=λ t v d=>by
 have⟨_,c⟩:=_L vs 0 t v d;rw[Nat.sub_zero]at c;refine⟨by simp_all[q8g],xc1 _ 0 ks h t (xw _) ?_⟩
 grind
structure Fn3 where
 n:Nat
 F:bZ
 K:Kp
def pre:ai->List ai
 | .seq a b=>.seq a b::kG (pre a) (pre b)
 | .cond c a b=>.cond c a b::kG (pre a) (pre b)
 | .block i b=>.block i b::pre b
 | .loop k b=>.loop k b::pre b
 | .scope b=>.scope b::pre b
 |c=>[c]
def part(c:ai)(k:Nat):ai:=QY (motive:=λ _=>ai) .stuck (λ c=>c) (nth (pre c) k)
def dE:ai->Nat
 | .seq a b=>dE a+dE b+1
 | .cond _ a b=>dE a+dE b+1
 | .block _ b=>dE b+1
 | .loop _ b=>dE b+1
 | .scope b=>dE b+1
 |_=>1
def IJ:∀(c:ai),(pre c).length=dE c
 | .seq a b=>by simp[pre,dE,px,IJ a,IJ b]
 | .cond _ a b=>by simp[pre,dE,px,IJ a,IJ b]
 | .block _ b=>by simp[pre,dE,IJ b]
 | .loop _ b=>by simp[pre,dE,IJ b]
 | .scope b=>by simp[pre,dE,IJ b]
 | .skip=>rfl
 | .label _=>rfl
 | .exit _=>rfl
 | .goto _=>rfl
 | .ret=>rfl
 | .stuck=>rfl
 | .region _=>rfl
 | .rangeFunc _ _=>rfl
def ZQ(c:ai):∃l,pre c=c::l:=by cases c<;>exact⟨_,rfl⟩
def Zd{α:Type}:∀(l:List α)(i:Nat),nth l i=l[i]?
 |[],i=>rfl
 |x::l,0=>rfl
 |x::l,i+1=>by rw[z8,<-Zd l i];rfl
def My:∀(r:ai)(k:Nat)(c:ai),(pre r)[k]? = B1 c -> ∃l,(pre r).drop k=pre c++l:=by
 intro r
 induction r with
 |seq a b iha ihb =>
  intro k c h;cases k with
  |zero=>simp[pre]at h;simp_all
  |succ k =>
   simp only[pre,px,z8]at h
   grind [pre,px,G2,jj]
 |cond x a b iha ihb =>
  intro k c h;cases k with
  |zero=>simp[pre]at h;simp_all
  |succ k =>
   simp only[pre,px,z8]at h
   grind [pre,px,G2,jj]
 |block i b ih =>
  intro k c h;cases k with
  |zero=>simp[pre]at h;simp_all
  |succ k=>grind [pre]
 |loop i b ih =>
  intro k c h;cases k with
  |zero=>simp[pre]at h;simp_all
  |succ k=>grind [pre]
 |scope b ih =>
  intro k c h;cases k with
  |zero=>simp[pre]at h;simp_all
  |succ k=>grind [pre]
 |_ =>
  intro k c h;cases k with
  |zero=>simp[pre]at h;simp_all
  |succ k=>grind [pre]
def xdo{r:ai}{k:Nat}{c:ai}(h:(pre r)[k]? = B1 c):part r k=c:=by
 simp_all[part,Zd]
def E3{r:ai}{k:Nat}{c:ai}(h:part r k=c)(i:c≠ .stuck):∀(j:Nat)(d:ai),(pre c)[j]? = B1 d->part r (k+j)=d:=λ j d f=>by
 have g:(pre r)[k]? = B1 c:=by
  unfold part at h;rw[Zd]at h;cases m:(pre r)[k]? with
  |none=>simp_all
  |some x=>simp_all
 have⟨l,hl⟩:=My r k c g;refine xdo ?_;rw[<-wn,hl,yz (qt.1 f).1,f]
def DT(c:ai):(pre c)[0]? = B1 c:=by have⟨l,h⟩:=ZQ c;grind
def Is{r:ai}{k:Nat}{c a b:ai}(h:part r k=c)(d:c≠ .stuck)(e:∃x l,pre c=x::(pre a++l)):part r (k+1)=a:=by
 have⟨x,l,e⟩:=e;have⟨f,e'⟩:=ZQ a;simp_all[E3]
def NN{r:ai}{k:Nat}{c a b:ai}(h:part r k=c)(d:c≠ .stuck)(e:∃x,pre c=x::(pre a++pre b)):part r (k+1+dE a)=b:=by
 have⟨x,e⟩:=e;have⟨f,e'⟩:=ZQ b;rw[Ad];exact E3 h d (1+dE a) b (by rw[e,Nat.add_comm,z8,z6 (by rw[IJ];exact qm _),IJ,FY,e'];rfl)
def U(M:ak)(ctx:Ctx)(K:Kp)(X:Nat->WX):ai->Nat->WX
 | .skip,_,g,Q,E,D,H=>qQ g Q .normal E D H
 | .label _,_,g,Q,E,D,H=>qQ g Q .normal E D H
 | .exit id,_,g,Q,E,D,H=>qQ g Q (.exit id) E D H
 | .goto l,_,g,Q,E,D,H=>qQ g Q (.goto l) E D H
 | .ret,_,g,Q,E,D,H=>qQ g Q .ret E D H
 | .stuck,_,_,_,_,_,_=>False
 | .region l,_,g,Q,E,D,H=>rH M K.di Q E D l g H λ g L _ H=>qQ g Q .normal (dK K.ah E L) D H
 | .seq a b,k,g,Q,E,D,H=>match a,b with
  | .region l,.cond c x y=>rH M K.di Q E D l g H λ g L R H=>CV E L R c g λ g v=>mU g v (λ g=>(O8 (motive:=λ _=>WX) (U M ctx K X x (k+3)) (X (k+3)) (bK (k+3) K.named)) g Q (dK K.ah E L) D H) (λ g=>(O8 (motive:=λ _=>WX) (U M ctx K X y (k+3+dE x)) (X (k+3+dE x)) (bK (k+3+dE x) K.named)) g Q (dK K.ah E L) D H)
  | .region l,.seq (.cond c x y) r=>rH M K.di Q E D l g H λ g L R H=>CV E L R c g λ g v=>mU g v (λ g=>(O8 (motive:=λ _=>WX) (U M ctx K X x (k+4)) (X (k+4)) (bK (k+4) K.named)) g (fm (O8 (motive:=λ _=>WX) (U M ctx K X r (k+4+dE x+dE y)) (X (k+4+dE x+dE y)) (bK (k+4+dE x+dE y) K.named)) Q) (dK K.ah E L) D H)
   (λ g=>(O8 (motive:=λ _=>WX) (U M ctx K X y (k+4+dE x)) (X (k+4+dE x)) (bK (k+4+dE x) K.named)) g (fm (O8 (motive:=λ _=>WX) (U M ctx K X r (k+4+dE x+dE y)) (X (k+4+dE x+dE y)) (bK (k+4+dE x+dE y) K.named)) Q) (dK K.ah E L) D H)
  | .region l,b=>rH M K.di Q E D l g H λ g L _ H=>(O8 (motive:=λ _=>WX) (U M ctx K X b (k+2)) (X (k+2)) (bK (k+2) K.named)) g Q (dK K.ah E L) D H
  |a,b=>(O8 (motive:=λ _=>WX) (U M ctx K X a (k+1)) (X (k+1)) (bK (k+1) K.named)) g (fm (O8 (motive:=λ _=>WX) (U M ctx K X b (k+1+dE a)) (X (k+1+dE a)) (bK (k+1+dE a) K.named)) Q) E D H
 | .cond c x y,k,g,Q,E,D,H=>OV E c g λ g v=>mU g v (λ g=>(O8 (motive:=λ _=>WX) (U M ctx K X x (k+1)) (X (k+1)) (bK (k+1) K.named)) g Q E D H) (λ g=>(O8 (motive:=λ _=>WX) (U M ctx K X y (k+1+dE x)) (X (k+1+dE x)) (bK (k+1+dE x) K.named)) g Q E D H)
 | .block id b,k,g,Q,E,D,H=>(O8 (motive:=λ _=>WX) (U M ctx K X b (k+1)) (X (k+1)) (bK (k+1) K.named)) g (eX id Q) E D H
 | .scope b,k,g,Q,E,D,H=>(O8 (motive:=λ _=>WX) (U M ctx K X b (k+1)) (X (k+1)) (bK (k+1) K.named)) g (kH b Q) E D H
 | .loop (B1 _) _,_,_,_,_,_,_=>False
 | .loop B5 b,k,g,Q,E,D,H=>b9 (O8 (motive:=λ _=>WX) (U M ctx K X b (k+1)) (X (k+1)) (bK (k+1) K.named)) Q E D H
 | .rangeFunc f n,_,g,Q,E,D,H=>OV E f g λ g v=>iE M K.ah ctx n E D H Q v
def YN(r:ai):∀(n:Nat)(c:ai),dE c<=n -> ∀k,part r k=c->U M ctx K (λ j=>W3 M ctx K (part r j)) c k=W3 M ctx K c:=by
 intro n
 induction n with
 |zero=>intro c p;cases c<;>simp[dE]at p
 |succ n ih =>
  intro c p k hk;have sub:∀(d:ai)(j:Nat),dE d<=n->part r j=d->O8 (motive:=λ _=>WX) (U M ctx K (λ j=>W3 M ctx K (part r j)) d j) (W3 M ctx K (part r j)) (bK j K.named)=W3 M ctx K d:=λ d j t u=>by
   cases bK j K.named with
   |true=>grind
   |false=>grind
  have pl:=@Is r;have w:=@NN r;cases c with
  |seq a b =>
   have e:pre (.seq a b)=.seq a b::(pre a++pre b):=by simp[pre,px]
   have ha:=Is (b:=b) hk (by simp) ⟨_,_,e⟩;have hb:=NN hk (by simp) ⟨_,e⟩;have hs:dE a+dE b<=n:=by grind [dE]
   have gen:(O8 (motive:=λ _=>WX) (U M ctx K (λ j=>W3 M ctx K (part r j)) a (k+1)) (W3 M ctx K (part r (k+1))) (bK (k+1) K.named))=W3 M ctx K a/\(O8 (motive:=λ _=>WX) (U M ctx K (λ j=>W3 M ctx K (part r j)) b (k+1+dE a)) (W3 M ctx K (part r (k+1+dE a))) (bK (k+1+dE a) K.named))=W3 M ctx K b :=
    ⟨sub a _ (by omega) ha,sub b _ (by omega) hb⟩
   cases a with
   |region l =>
    have plain:(O8 (motive:=λ _=>WX) (U M ctx K (λ j=>W3 M ctx K (part r j)) b (k+2)) (W3 M ctx K (part r (k+2))) (bK (k+2) K.named))=W3 M ctx K b:=sub b _ (by omega) hb;cases b with
    |cond c x y =>
     have e2:pre (.cond c x y)=.cond c x y::(pre x++pre y):=by simp[pre,px]
     have h:=Is (b:=y) hb (by simp) ⟨_,_,e2⟩;have o:=NN hb (by simp) ⟨_,e2⟩;have m:dE x+dE y+1<=n:=by grind [dE]
     have s1:=sub x (k+3) (by omega) h;have s2:=sub y (k+3+dE x) (by omega) o;funext g Q E D H;simp only[U,W3,s1,s2]
    |seq b1 q =>
     cases b1 with
     |cond c x y =>
      have e1:pre (.seq (.cond c x y) q)=.seq (.cond c x y) q::(pre (.cond c x y)++pre q):=by simp[pre,px]
      have e2:pre (.cond c x y)=.cond c x y::(pre x++pre y):=by simp[pre,px]
      have f:=Is (b:=q) hb (by simp) ⟨_,_,e1⟩;have s:=NN hb (by simp) ⟨_,e1⟩;have h:=Is (b:=y) f (by simp) ⟨_,_,e2⟩;have o:=NN f (by simp) ⟨_,e2⟩;have m:dE x+dE y+1+dE q+1<=n:=by grind [dE]
      have s1:=sub x (k+4) (by omega) h;have s2:=sub y (k+4+dE x) (by omega) o;have z:=sub q (k+4+dE x+dE y) (by omega) (by rw[<-s];simp only[dE];congr 1;omega);simp_all[U,W3]
     |_=>simp_all[U,W3]
    |_=>simp_all[U,W3]
   |_=>funext g Q E D H;simp only[U,W3]at gen⊢;simp only[gen.1,gen.2]
  |cond c x y =>
   have e2:pre (.cond c x y)=.cond c x y::(pre x++pre y):=by simp[pre,px]
   have h:=Is (b:=y) hk (by simp) ⟨_,_,e2⟩;have o:=NN hk (by simp) ⟨_,e2⟩;have m:dE x+dE y<=n:=by grind [dE]
   have s1:=sub x (k+1) (by omega) h;have s2:=sub y (k+1+dE x) (by omega) o;simp_all[U,W3]
  |block i b =>
   have s1:=sub b (k+1) (by grind [dE]) (Is (b:=b) hk (by simp) (by simp_all[pre]));simp_all[U,W3]
  |scope b =>
   have s1:=sub b (k+1) (by grind [dE]) (Is (b:=b) hk (by simp) (by simp_all[pre]));simp_all[U,W3]
  |loop i b =>
   have s1:=sub b (k+1) (by grind [dE]) (Is (b:=b) hk (by simp) (by simp_all[pre]));funext g Q E D H;cases i with
   |none=>grind [U,W3]
   |some _=>rfl
  |_=>funext g Q E D H;rfl
def Qw:∃F:ak->Ctx->Kp×ai->WX,F=λ M ctx p=>W3 M ctx p.1 p.2:=⟨_,rfl⟩
def W:ak->Ctx->Kp×ai->WX:=Classical.choose Qw
theorem lM(M:ak)(ctx:Ctx)(p:Kp×ai):W M ctx p=W3 M ctx p.1 p.2:=congrFun (congrFun (congrFun (Classical.choose_spec Qw) M) ctx) p
def funcAt(P:Jg)(n:Nat):bZ:=QY (motive:=λ _=>bZ) ⟨[],.stuck,[]⟩ (λ f=>f) ((bq P).func n)
def ia(F:bZ)(i:Nat):dV:=QY (motive:=λ _=>dV) ⟨[],.stuck,.stuck⟩ (λ l=>l) (nth F.loops i)
def Ey{M:ak}{ctx:Ctx}{K:Kp}{r:ai}{k:Nat}{g:Bool}{Q:aF}{E:Env}{D:List aL}{H:ar}{R:Prop}(h:U M ctx K (λ j=>W M ctx (K,part r j)) (part r k) k g Q E D H=R):W M ctx (K,part r k) g Q E D H=R:=by
 rw[<-h];have e:(λ j=>W M ctx (K,part r j))=λ j=>W3 M ctx K (part r j):=by grind [lM]
 rw[e,YN (ctx:=ctx) (K:=K) r _ (part r k) (qm _) k rfl,lM]
abbrev uu:AV:=.undef
def T1(c:ai):part c 0=c:=xdo (DT c)
def xhs{α β:Type}{a b:α}{x y:β}(h:(a,x)=(b,y)):a=b/\x=y:=by grind
def RA{M:ak}{f:Nat}{fn:bZ}(j:M.func f=B1 fn){ks:Kp}{vs:List AV}(hk:jX 0 vs.length ks.ah=B4){H:ar}{Q:bM->ar->Prop}
 (h:W M ⟨B5,f⟩ (ks,part fn.body 0) B4 (eH M fn.results Q) (kF 0 vs) [] H):FW M f vs H Q:=by
 rw[lM,T1]at h;refine sW j (pY (W3.wp (fj fn.body) fn.body (qm _) (up:=B5) h (Z5 hk)) λ e st⟨g,i,o,d⟩=>?_);have⟨tm,D,up,H'⟩:=st;have g:up=none:=g;subst g;have mono:∀{m:Option aH},om M fn.results i Q D m H'->zS M fn.results tm (λ e H=>(B5:Option aH)=B5/\Q e H) D m H':=λ{m}h=>by
  have l:om M fn.results i (λ e H=>(B5:Option aH)=B5/\Q e H) D m H':=by
   grind
  grind [om.R4]
 cases e with
 |normal=>exact mono d
 |ret=>exact mono d
 |panic c=>exact mono d
 |exit _=>exact d.elim
 |goto _=>exact d.elim
section
variable(E:Env)(H:ar)(K:Bool->AV->Prop)(K2:Bool->AV->ar->Prop)(A B:Bool->Prop)
def Lz(E:Env)(n:Nat)(K:Bool->AV->Prop):Prop:=LK B4 (lk E n) K
def Ly(g:Bool)(E:Env)(n:Nat)(K:Bool->AV->Prop):Prop:=LK g (lk E n) K
def Fl(g:Bool)(i:Nat)(a:AV)(H:ar)(K:Bool->AV->Prop):Prop:=B3 g (Op.fieldAddr i [a]) λ g x=>B3 g (Op.ae [x] H) K
def Nf(g:Bool)(i:Nat)(a:AV)(H:ar)(K:Bool->AV->Prop):Prop:=B3 g (Op.nilCheck [a]) λ g x=>Fl g i x H K
def Fs(g:Bool)(i:Nat)(a b:AV)(H:ar)(K:Bool->AV->ar->Prop):Prop:=B3 g (Op.fieldAddr i [a]) λ g x=>jB g (Op.store 1 [x,b] H) K
def Ns(g:Bool)(i:Nat)(a b:AV)(H:ar)(K:Bool->AV->ar->Prop):Prop:=B3 g (Op.nilCheck [a]) λ g x=>Fs g i x b H K
def Xl(g:Bool)(a b:AV)(H:ar)(K:Bool->AV->Prop):Prop:=B3 g (Op.aR 1 [a,b]) λ g x=>B3 g (Op.ae [x] H) K
def Xs(g:Bool)(a b c:AV)(H:ar)(K:Bool->AV->ar->Prop):Prop:=B3 g (Op.aR 1 [a,b]) λ g x=>jB g (Op.store 1 [x,c] H) K
def Bn(g:Bool)(o:BinOp)(a b:AV)(K:Bool->AV->Prop):Prop:=B3 g (Op.bin o [a,b]) K
def Cb(g:Bool)(o:BinOp)(a b:AV)(A B:Bool->Prop):Prop:=B3 g (Op.bin o [a,b]) λ g v=>mU g v A B
def Gt(g:Bool)(M:ak)(c:Ctx)(p:Kp×ai)(Q:aF)(E:Env)(D:List aL)(H:ar):Prop:=qQ g (fm (W M c p) Q) .normal E D H
def XO(n:Nat):Lz E n K=LK B4 (lk E n) K:=propext kc
def U9(n:Nat):Ly B4 E n K=LK B4 (lk E n) K:=propext kc
def UE(i:Nat)(a:AV):Fl B4 i a H K=B3 B4 (Op.fieldAddr i [a]) λ g x=>B3 g (Op.ae [x] H) K:=propext kc
def Ww(i:Nat)(a:AV):Nf B4 i a H K=B3 B4 (Op.nilCheck [a]) λ g x=>Fl g i x H K:=propext kc
def Z6(i:Nat)(a b:AV):Fs B4 i a b H K2=B3 B4 (Op.fieldAddr i [a]) λ g x=>jB g (Op.store 1 [x,b] H) K2:=propext kc
def UM(i:Nat)(a b:AV):Ns B4 i a b H K2=B3 B4 (Op.nilCheck [a]) λ g x=>Fs g i x b H K2:=propext kc
def WU(a b:AV):Xl B4 a b H K=B3 B4 (Op.aR 1 [a,b]) λ g x=>B3 g (Op.ae [x] H) K:=propext kc
def Ye(a b c:AV):Xs B4 a b c H K2=B3 B4 (Op.aR 1 [a,b]) λ g x=>jB g (Op.store 1 [x,c] H) K2:=propext kc
def ZW(o:BinOp)(a b:AV):Bn B4 o a b K=B3 B4 (Op.bin o [a,b]) K:=propext kc
def Xc(o:BinOp)(a b:AV):Cb B4 o a b A B=B3 B4 (Op.bin o [a,b]) λ g v=>mU g v A B:=propext kc
def ZX(M:ak)(c:Ctx)(p:Kp×ai)(Q:aF)(D:List aL):Gt B4 M c p Q E D H=qQ B4 (fm (W M c p) Q) .normal E D H:=propext kc
end
end
end Go.Am
namespace Go.Am
end Go.Am
namespace Go.Am
section
variable{M:ak}{ctx:Ctx}{di:Bool}{Q Q':aF}{E:Env}{D:List aL}
theorem Ss{α:Type}{m:Bool}{o:Option α}{K K':Bool -> α->Prop}(h:B3 m o K)(hk:∀a,K m a->K' m a):B3 m o K':=by
 cases o with
 |none=>exact h
 |some a=>exact hk a h
theorem d_{α β:Type}{m:Bool}{o:Option (α×β)}{K K':Bool -> α -> β->Prop}(h:jB m o K)(hk:∀a b,K m a b->K' m a b):jB m o K':=by
 cases o with
 |none=>exact h
 |some a=>exact hk a.1 a.2 h
theorem xkt{α:Type}{m:Bool}{o:Option α}{K K':Bool -> α->Prop}(h:LK m o K)(hk:∀a,K m a->K' m a):LK m o K':=by
 cases o with
 |none=>exact h
 |some a=>exact hk a h
theorem xgs{m:Bool}{v:AV}{A B c d:Bool->Prop}(h:mU m v A B)(ha:A m->c m)(hb:B m->d m):mU m v c d:=by
 obtain⟨q,rfl,h⟩:=h.elim;cases q with
 |true=>exact ha h
 |false=>exact hb h
theorem XJ{L R:Env}{t:Nat}{g:Bool}{K K':Bool->Env->AV->Prop}(h:TV E L R t g K)(hk:∀R v,K g R v->K' g R v):TV E L R t g K':=by
 unfold TV at h⊢;cases hl:lk L t with
 |some v=>simp_all
 |none =>
  rw[hl]at h;cases c:lk R t with
  |some v=>simp_all
  |none=>rw[c]at h;grind [xkt]
def xkw{x:bL}{g:Bool}{K K':Bool->AV->Prop}(h:OV E x g K)(hk:∀v,K g v->K' g v):OV E x g K':=by
 cases x with
 |tmp t=>grind [OV,xkt]
 |const v=>exact hk _ h
 |eR b=>exact hk _ h
 |func f=>exact hk _ h
theorem GX{L R:Env}{x:bL}{g:Bool}{K K':Bool->AV->Prop}(h:CV E L R x g K)(hk:∀v,K g v->K' g v):CV E L R x g K':=by
 cases x with
 |tmp t=>grind [CV,XJ]
 |const v=>exact hk _ h
 |eR b=>exact hk _ h
 |func f=>exact hk _ h
def OU{L:Env}{g:Bool}:∀{l:List bL}{R:Env}{K K':Bool->Env->List AV->Prop},zI E L l g R K->(∀R vs,K g R vs->K' g R vs)->zI E L l g R K'
 |[],R,K,K',h,hk=>hk _ _ h
 | .tmp t::xs,R,K,K',h,hk=>XJ (K:=λ g R v=>zI E L xs g R λ g R vs=>K g R (v::vs)) (K':=λ g R v=>zI E L xs g R λ g R vs=>K' g R (v::vs)) h λ R v q=>OU (K:=λ g R vs=>K g R (v::vs)) (K':=λ g R vs=>K' g R (v::vs)) q λ R vs=>hk _ _
 | .const v::xs,R,K,K',h,hk=>OU (l:=xs) (K:=λ g R vs=>K g R (v::vs)) (K':=λ g R vs=>K' g R (v::vs)) h λ R vs=>hk _ _
 | .eR v::xs,R,K,K',h,hk=>OU (l:=xs) (K:=λ g R vs=>K g R (.ptr v 0::vs)) (K':=λ g R vs=>K' g R (.ptr v 0::vs)) h λ R vs=>hk _ _
 | .func v::xs,R,K,K',h,hk=>OU (l:=xs) (K:=λ g R vs=>K g R (.fn (.func v) [] []::vs)) (K':=λ g R vs=>K' g R (.fn (.func v) [] []::vs)) h λ R vs=>hk _ _
theorem _l(f:∀e E D H,Q e E D H->Q' e E D H){d:Option (List Nat)}{ks:List Nat}{c:aH}{H:ar}(h:PX d ks Q E D c H):PX d ks Q' E D c H:=by
 cases d with
 |none=>exact h
 |some _=>exact f _ _ _ _ h
theorem UD(j:∀e E D H,Q e E D H->Q' e E D H){i:Option (List Nat)}{L:Env}{g:Bool}{f:mG}{vs:List AV}{H:ar}{K K':Bool->AV->ar->Prop}(h:FI M di i L Q E D g f vs H K)(hk:∀v H,K g v H->K' g v H):FI M di i L Q' E D g f vs H K':=by
 cases di with
 |false=>obtain⟨v,H',c,d⟩:=h;exact⟨v,H',c,hk _ _ d⟩
 |true =>
  obtain⟨e,H',c,d⟩:=h;refine⟨e,H',c,?_⟩
  grind [_l]
def ae9(i:∀e E D H,Q e E D H->Q' e E D H){s:aQ}{K K':KR}{g:Bool}{L R:Env}{H:ar}(h:GR M di s Q E D K g L R H)(hk:∀L R H,K g L R H->K' g L R H):GR M di s Q' E D K' g L R H:=by
 refine OU (show zI E L s.args g R _ from h) λ R vs h=>?_;obtain⟨iA,dst,guard,args,op,c⟩:=s;cases iA with
 |true =>
  have h:SK dst E L R H K g vs op:=h;show SK dst E L R H K' g vs op;cases op with
  |read f =>
   cases dst with
   |none=>exact h
   |some d=>exact⟨h.1,hk _ _ _ h.2⟩
  |_=>exact h
 |false =>
  have h:vM M di dst c Q E D L R H K g vs op:=h;show vM M di dst c Q' E D L R H K' g vs op;cases op with
  |pure f=>grind [vM,Ss]
  |read f=>grind [vM,Ss]
  |alloc f=>grind [vM,d_]
  |gY f=>grind [vM,d_]
  |ik f=>exact UD i h λ v H=>hk _ _ _
  |im =>
   simp only[vM,V3]at h⊢
   grind [UD]
  |invoke n =>
   simp only[vM,N3]at h⊢;split at h
   .grind [Ss,UD]
   omega
  |recover=>exact h
  |defer=>exact h
  |panic =>
   cases di with
   |false=>exact h
   |true =>
    have h:gJ vs H (PX c (lK L) Q E D):=h;show gJ vs H (PX c (lK L) Q' E D);unfold gJ at h⊢
    grind [_l]
def WJ(c:∀e E D H,Q e E D H->Q' e E D H){K K':KR}{g:Bool}(hk:∀L R H,K g L R H->K' g L R H):∀{l:List aQ}{L R:Env}{H:ar},pR M di Q E D K l g L R H->pR M di Q' E D K' l g L R H
 |[],L,R,H,h=>hk _ _ _ h
 |s::l,L,R,H,h=>ae9 c (by simp_all[pR]) λ L R H=>WJ c hk
theorem We:∀(n:Nat){f f':List AV->ar->Prop},(∀vs H,f vs H->f' vs H) -> ∀(l:List AV)(H:ar),pZ n (qM n f) l H->pZ n (qM n f') l H
 |0,f,f',hf,l,H,h=>hf [] H h
 |n+1,f,f',hf,[],H,h=>h
 |n+1,f,f',hf,v::l,H,h=>We n (f:=λ l=>f (v::l)) (f':=λ l=>f' (v::l)) (by grind) l H h
def ad4(f:∀e E D H,Q e E D H->Q' e E D H){x:F0}{K K':KR}{g:Bool}(hk:∀L R H,K g L R H->K' g L R H){L R:Env}{H:ar}(h:Sr M di Q E D x K g L R H):Sr M di Q' E D x K' g L R H:=by
 obtain⟨q,l⟩:=x;cases q with
 |none=>exact WJ f hk (show pR M di Q E D K l g L R H from h)
 |some q =>
  cases ho:vW q.1 l with
  |false =>
   have h:cond (vW q.1 l) _ False:=h
   grind
  |true =>
   have h:cond (vW q.1 l) _ False:=h;rw[ho,xt]at h;show cond (vW q.1 l) _ False;rw[ho,xt];refine XJ h λ c v h=>?_;have h:B3 g (cV q.2 (B1 v)) λ g w=>vE g w (λ g=>pR M di Q E D (λ g d _ H=>pZ (cR (bA l [])) (qM (cR (bA l [])) λ vs H=>K g (lj (bA l []) L vs) c H) (qZ (cR (bA l [])) d) H) l g L c H)
    (λ g=>pZ (cR (bA l [])) (qM (cR (bA l [])) λ vs H=>K g (lj (bA l []) L vs) c H) (sD (cR (bA l []))) H):=h
   refine Ss (K':=λ g w=>vE g w (λ g=>pR M di Q' E D (λ g d _ H=>pZ (cR (bA l [])) (qM (cR (bA l [])) λ vs H=>K' g (lj (bA l []) L vs) c H) (qZ (cR (bA l [])) d) H) l g L c H)
    (λ g=>pZ (cR (bA l [])) (qM (cR (bA l [])) λ vs H=>K' g (lj (bA l []) L vs) c H) (sD (cR (bA l []))) H)) h λ w h=>?_
   cases w with
   |true=>exact WJ f (by grind [We]) (show pR M di Q E D _ l g L c H from h)
   |false=>exact We _ (by grind) _ _ h
theorem T8(c:∀e E D H,Q e E D H->Q' e E D H){l:List aQ}{K K':KR}{g:Bool}(hk:∀L R H,K g L R H->K' g L R H){H:ar}(h:rH M di Q E D l g H K):rH M di Q' E D l g H K':=by
 unfold rH at h⊢;generalize JE l=gs at h⊢;generalize([]:Env)=L at h⊢;have key:∀(gs:List F0)(L R:Env)(H:ar),yT M di Q E D K gs g L R H->yT M di Q' E D K' gs g L R H:=by
  intro gs
  induction gs with
  |nil=>exact λ L R H h=>hk _ _ _ h
  |cons x gs ih=>exact λ L R H h=>ad4 c ih (by simp_all[yT])
 grind
def HJ{K:Kp}:∀(n:Nat)(c:ai),fj c<=n -> ∀{g:Bool}{Q Q':aF}{E:Env}{D:List aL}{H:ar},(∀e E D H,Q e E D H->Q' e E D H)->W3 M ctx K c g Q E D H->W3 M ctx K c g Q' E D H:=by
 intro n
 induction n with
 |zero =>
  intro c s g Q Q' E D H d h;cases c with
  |region l=>exact T8 d (λ L R H h=>d _ _ _ _ h) h
  |rangeFunc f k =>
   have h:OV E f g λ g v=>iE M K.ah ctx k E D H Q v:=h;show OV E f g λ g v=>iE M K.ah ctx k E D H Q' v;have key:∀v,iE M K.ah ctx k E D H Q v->iE M K.ah ctx k E D H Q' v:=λ v h tm up he=>by
    have:=h tm up he;unfold Jr at this⊢;split
    .grind [Pn]
    grind [Fz,Pn]
   exact xkw h key
  |skip=>exact d _ _ _ _ h
  |label _=>exact d _ _ _ _ h
  |exit _=>exact d _ _ _ _ h
  |goto _=>exact d _ _ _ _ h
  |ret=>exact d _ _ _ _ h
  |stuck=>exact h
  |seq _ _=>grind [fj]
  |cond _ _ _=>grind [fj]
  |block _ _=>grind [fj]
  |loop _ _=>grind [fj]
  |scope _=>grind [fj]
 |succ n ih =>
  intro c s g Q Q' E D H d h;have u:∀{b:ai},fj b<=n -> ∀e E D H,fm (W3 M ctx K b) Q e E D H->fm (W3 M ctx K b) Q' e E D H:=λ hb e E D H h=>by
   cases e with
   |normal=>exact ih _ hb d h
   |_=>exact d _ _ _ _ h
  cases c with
  |seq a b =>
   have m:fj a+fj b<=n:=by grind [fj]
   have gen:W3 M ctx K a g (fm (W3 M ctx K b) Q) E D H->W3 M ctx K a g (fm (W3 M ctx K b) Q') E D H:=λ h=>(by grind)
   cases a with
   |region l =>
    have plain:(rH M K.di Q E D l g H λ g L _ H=>W3 M ctx K b g Q (dK K.ah E L) D H)->rH M K.di Q' E D l g H λ g L _ H=>W3 M ctx K b g Q' (dK K.ah E L) D H:=λ h=>(by grind [T8])
    have cv:∀{L R:Env}{c:bL}{A B i j:Bool->Prop},CV E L R c g (λ g v=>mU g v A B)->(A g->i g)->(B g->j g)->CV E L R c g (λ g v=>mU g v i j):=λ{L R c A B i j}h ha hb=>by
     grind [GX,xgs]
    cases b with
    |cond c x y =>
     have o:fj x+fj y+1<=n:=by grind [fj]
     exact T8 d (λ L R H h=>cv h (by grind) (by grind)) h
    |seq b1 r =>
     cases b1 with
     |cond c x y =>
      have o:fj x+fj y+1+fj r+1<=n:=by grind [fj]
      exact T8 d (λ L R H h=>cv h (by grind) (by grind)) h
     |_=>exact plain h
    |_=>exact plain h
   |_=>exact gen h
  |cond c x y =>
   have m:fj x+fj y<=n:=by grind [fj]
   have h:OV E c g λ g v=>mU g v (λ g=>W3 M ctx K x g Q E D H) (λ g=>W3 M ctx K y g Q E D H):=h;exact xkw (K':=λ g v=>mU g v (λ g=>W3 M ctx K x g Q' E D H) (λ g=>W3 M ctx K y g Q' E D H)) h λ v h=>xgs h (by grind) (by grind)
  |block id b =>
   have hb:fj b<=n:=by grind [fj]
   exact ih b hb (λ e E D H h=>by cases e<;>exact d _ _ _ _ h) h
  |scope b =>
   have hb:fj b<=n:=by grind [fj]
   exact ih b hb (λ e E D H h=>by cases e<;>first|exact d _ _ _ _ h|exact⟨h.1,d _ _ _ _ h.2⟩) h
  |loop ah b =>
   have hb:fj b<=n:=by grind [fj]
   cases ah with
   |some _=>exact h
   |none =>
    obtain⟨I,p,q⟩:=h;exact⟨I,p,λ n E D H t=>ih b hb (λ e E D H h=>by cases e<;>first|exact h|exact d _ _ _ _ h) (q n E D H t)⟩
  |_=>exact ih _ (xw _) d h
end
def W.mono{M:ak}{ctx:Ctx}{p:Kp×ai}{g:Bool}{Q Q':aF}{E:Env}{D:List aL}{H:ar}(h:W M ctx p g Q E D H)(c:∀e E D H,Q e E D H->Q' e E D H):W M ctx p g Q' E D H:=by
 rw[lM]at h⊢;exact HJ _ p.2 (qm _) c h
end Go.Am
namespace Go.Am
universe u
noncomputable section
variable(X:WX)(Q:aF)(E:Env)(D:List aL)(H:ar)(I:Lf)(n:Nat)
def xer:fm X Q .normal E D H=X B4 Q E D H:=propext kc
def EG:fm X Q .ret E D H=Q .ret E D H:=propext kc
def xky(l:Nat):fm X Q (.exit l) E D H=Q (.exit l) E D H:=propext kc
def xkz(l:Nat):fm X Q (.goto l) E D H=Q (.goto l) E D H:=propext kc
def xim(c:aH):fm X Q (.panic c) E D H=Q (.panic c) E D H:=propext kc
def xel(i:Nat):eX i Q .normal E D H=Q .normal E D H:=propext kc
def Di(i:Nat):eX i Q .ret E D H=Q .ret E D H:=propext kc
def xkl(i l:Nat):eX i Q (.goto l) E D H=Q (.goto l) E D H:=propext kc
def xh8(i:Nat)(c:aH):eX i Q (.panic c) E D H=Q (.panic c) E D H:=propext kc
def xkk(i l:Nat):eX i Q (.exit l) E D H=if i=l then Q .normal E D H else Q (.exit l) E D H:=by
 show Q (cond (I4 i l) .normal (.exit l)) E D H=_
 by_cases h:i=l
 .simp_all
 simp_all[FG]
section
variable(M:ak)(rs:List eC)(Q:bM->ar->Prop)(P:List AV->Prop)(R:AV->ar->Prop)
def ae5:eH M rs Q .ret E [] H=i9 E H rs λ l=>Q (.ret (jH l)) H:=propext kc
def xeq:eH M rs Q .normal E [] H=i9 E H rs λ l=>Q (.ret (jH l)) H:=propext kc
def xie(c:aH):eH M rs Q (.panic c) E [] H=Q (.panic c) H:=propext kc
def xid(b:Nat):eH M rs Q .ret E (.iy b::D) H=(H.get b=B1 (.deferred (B1 []))/\eH M rs Q .ret E D (H.set b (.deferred B5))):=propext kc
def ae4:i9 E H [] P=P []:=propext kc
def Dt(t:Nat):i9 E H (.tmp t::rs) P=LK B4 (lk E t) λ _ v=>i9 E H rs λ vs=>P (v::vs):=propext kc
def xik(t:Nat):i9 E H (.kT t::rs) P=LK B4 (lk E t) λ _ v=>B3 B4 (Op.ae [v] H) λ _ v=>i9 E H rs λ vs=>P (v::vs):=propext kc
def xil(n t:Nat):i9 E H (.cZ n t::rs) P=LK B4 (lk E t) λ _ v=>B3 B4 (Op.aq n [v] H) λ _ v=>i9 E H rs λ vs=>P (v::vs):=propext kc
def GY(v:AV):uj R (.ret v) H=R v H:=propext kc
end
def Ju:((0:Nat):Int)=0:=rfl
theorem zp(l:List AV):AV.cells (.agg l)=l:=rfl
def _j(k:OA)(n:Int):AV.cells (.int k n)=[.int k n]:=rfl
def xiv(b:Bool):AV.cells (.bool b)=[.bool b]:=rfl
def xlo(s:List UInt8):AV.cells (.str s)=[.str s]:=rfl
def xln(b o:Nat):AV.cells (.ptr b o)=[.ptr b o]:=rfl
def Ok(I:Nat->Env->ar->Prop)(D:List aL)(n:Nat)(Q:aF):aF:=λ e E D' H=>match e with
 | .normal=>D'=D /\ ∃m E',I m E' H/\vG E' E/\m<n
 |e=>Q e E D' H
theorem b9.intro{M:ak}{ctx:Ctx}{p:Kp×ai}{Q:aF}{E:Env}{D:List aL}{H:ar}(I:Nat->Env->ar->Prop)(j:∃n d,I n d H/\vG d E)(h:∀n E H,I n E H->W M ctx p B4 (Ok I D n Q) E D H):b9 (W M ctx p) Q E D H:=by
 obtain⟨n,d,l,o⟩:=j;refine⟨λ n E D' H=>D'=D/\I n E H,⟨n,d,⟨rfl,l⟩,o.ss⟩,λ n E D' H⟨e,r⟩=>?_⟩;subst e;refine W.mono (h n E H r) λ e E g H f=>?_;cases e with
 |normal=>obtain⟨q,m,i,a,b,c⟩:=f;exact⟨m,i,⟨q,a⟩,b.ss,c⟩
 |_=>exact f
def OY(P:Env->List aL->ar->Prop)(Q:aF):aF:=λ e E D H=>match e with
 | .normal=>P E D H
 |e=>Q e E D H
def xig(P:Env->List aL->ar->Prop)(Q:aF)(E:Env)(D:List aL)(H:ar):OY P Q .normal E D H=P E D H:=propext kc
def Gh(P:Env->List aL->ar->Prop)(Q:aF)(E:Env)(D:List aL)(H:ar):OY P Q .ret E D H=Q .ret E D H:=propext kc
def ag3(P:Env->List aL->ar->Prop)(Q:aF)(E:Env)(D:List aL)(H:ar)(l:Nat):OY P Q (.exit l) E D H=Q (.exit l) E D H:=propext kc
def LN(X:WX)(Q:aF):Nat->Env->List aL->ar->Prop
 |0,_,_,_=>False
 |n+1,E,D,H=>X B4 (OY (LN X Q n) Q) E D H
def Hp(X:WX)(Q:aF)(n:Nat)(E:Env)(D:List aL)(H:ar):LN X Q (n+1) E D H=X B4 (OY (LN X Q n) Q) E D H:=propext kc
def xih(I:Nat->Env->ar->Prop)(D:List aL)(n:Nat)(Q:aF)(E:Env)(H:ar):Ok I D n Q .normal E D H = ∃m c,I m c H/\vG c E/\m<n:=propext ⟨λ h=>h.2,λ h=>⟨rfl,h⟩⟩
def HW(I:Nat->Env->ar->Prop)(D D':List aL)(n:Nat)(Q:aF)(E:Env)(H:ar):Ok I D n Q .ret E D' H=Q .ret E D' H:=propext kc
def ae1(I:Nat->Env->ar->Prop)(D D':List aL)(n:Nat)(Q:aF)(E:Env)(H:ar)(l:Nat):Ok I D n Q (.exit l) E D' H=Q (.exit l) E D' H:=propext kc
def ad8(I:Nat->Env->ar->Prop)(D D':List aL)(n:Nat)(Q:aF)(E:Env)(H:ar)(l:Nat):Ok I D n Q (.goto l) E D' H=Q (.goto l) E D' H:=propext kc
def xku(I:Nat->Env->ar->Prop)(D D':List aL)(n:Nat)(Q:aF)(E:Env)(H:ar)(c:aH):Ok I D n Q (.panic c) E D' H=Q (.panic c) E D' H:=propext kc
def sw{α:Sort u}(b:Bool)(x y:α):α:=cond b x y
@[congr]def ac0{α:Sort u}{b c:Bool}{x y:α}(h:b=c):sw b x y=sw c x y:=by rw[h]
def RK{α:Sort u}(x y:α):sw B4 x y=x:=rfl
def Ro{α:Sort u}(x y:α):sw B2 x y=y:=rfl
def IM{α:Sort u}(p:Prop)[Decidable p](x y:α):(if p then x else y)=sw (decide p) x y:=by grind [sw]
def OX(k t:Nat)(v:AV)(E:Env):lk ((k,v)::E) t=sw (decide (k=t)) (B1 v) (lk E t):=(wC ..).trans (IM ..)
def Hq(Q:aF)(E:Env)(D:List aL)(H:ar)(i l:Nat):eX i Q (.exit l) E D H=sw (decide (i=l)) (Q .normal E D H) (Q (.exit l) E D H):=(xkk ..).trans (IM ..)
def ZG(α:Type)(h:Decidable True)(x y:α):@ite α True h x y=x:=xg trivial
def W6(α:Type)(h:Decidable False)(x y:α):@ite α False h x y=y:=qy id
def Ri(h:Decidable True)(x y:Prop):@ite Prop True h x y=x:=xg trivial
def OZ(h:Decidable False)(x y:Prop):@ite Prop False h x y=y:=qy id
def OQ:=Gf @GI<|Gf @HY<|Gf @DH<|Gf Eh<|Gf xkr<|Gf af9<|Gf xks<|Gf Dq<|Gf PZ<|Gf @Ja<|Gf ac7 <|
 Gf HN<|Gf ad7<|Gf EH<|Gf OX<|Gf CP<|Gf ac6<|Gf HU <|
 Gf xer<|Gf EG<|Gf xky<|Gf xkz<|Gf xim<|Gf xel<|Gf Di<|Gf xkl<|Gf xh8<|Gf Hq <|
 Gf xig<|Gf Gh<|Gf ag3<|Gf Hp<|Gf xih<|Gf HW<|Gf ae1<|Gf ad8<|Gf xku<|Gf ae5<|Gf xeq<|Gf xie<|Gf ae4<|Gf Dt<|Gf xik<|Gf xil <|
 Gf GY<|Gf XO<|Gf U9<|Gf UE<|Gf Ww<|Gf Z6<|Gf UM<|Gf WU<|Gf Ye<|Gf ZW<|Gf Xc<|Gf ZX<|Gf VW<|Gf XD UF
def PT:=Gf ZG<|Gf W6<|Gf Ri<|Gf OZ<|Gf @RK.{1}<|Gf @Ro.{1}<|Gf @RK.{0}<|Gf @Ro.{0}<|Gf Ms<|Gf Mb<|Gf @Qe<|Gf @RR<|Gf @P4<|Gf @QX<|Gf @PH<|Gf @Pu<|Gf @Q4<|Gf @PL<|Gf @OP<|Gf @KZ<|Gf O1 <|
 Gf Kq<|Gf LA<|Gf Ea<|Gf ae2<|Gf xm4<|Gf xf3<|Gf ad9<|Gf Kc<|Gf G4<|Gf G3<|Gf RH <|
 Gf zp<|Gf _j<|Gf xiv<|Gf xlo<|Gf xln<|Gf @decide_true<|Gf @JP<|Gf Bool.not_true<|Gf Bool.not_false<|Gf not_true_eq_false<|Gf not_false_eq_true<|Gf @ne_eq.{1}<|Gf Gc<|Gf ug<|Gf false_and<|Gf and_false <|
 Gf @xt.{1}<|Gf @zo.{1}<|Gf @qr.{0,0}<|Gf Ae<|Gf ya<|Gf @zk.{0}<|Gf @z8.{0}<|Gf @ji.{0} @Jk.{0}
def P5:type_of% Ju/\type_of% OQ/\type_of% PT:=⟨Ju,OQ,PT⟩
section
variable{α:Type}{enc:α->List AV}{e size:Nat}{H0 H H':ar}{v:AV}{xs:List α}
def tX.to3{α β:Type}{m g:Bool}{o:Option (α×β)}{K:Bool -> α -> β->Prop}(h:tX m o λ _ a b=>K g a b):jB g o K:=by
 cases o with
 |none=>exact NR h
 |some a=>exact h
def Jo{H:ar}{e size bytes:Nat}{v:AV}{n:Nat}{cells:List AV}(h:Own H e size v n cells){x:AV}{k:Nat}{new:List AV}(i:Sl H size x k new)(d:aN new=B4)(hs:0<size)
 (g:(n+k)*bytes<=140737488355328) (f:n+k<=140737488355328) {K:Bool->AV->ar->Prop} {m:Bool}
 (hk:∀c H',Own H' e size c (n+k) (cells++new)->Fr (aM v) H H'->(∀b,aM c b->aM v b\/H.au<=b)->K m c H'):jB m (Op.append e size bytes [v,x] H) K :=
 tX.to3 (m:=m) (by grind [q8f])
def nH{H:ar}{e size bytes:Nat}{v:AV}{n:Nat}{cells:List AV}(h:Own H e size v n cells){zero:List AV}{x:AV}(q:zero.length=size)(p:x.cells.length=size)(c:aN x.cells=B4)(hs:0<size)
 (l:(n+1)*bytes<=140737488355328) (d:n+1<=140737488355328) {K:bE->(Nat->AV)->Bool->AV->ar->Prop} {m:Bool}
 (hk:∀f H',Own H' e size f (n+1) (cells++x.cells)->Fr (aM v) H H'->(∀b,aM f b->aM v b\/H.au<=b)->K (.row x.cells e (0,0) B4) (Op.sliceTo 1 1) m f H') :
 jB m (Op.buildSlice e 1 zero [(0,size)] [x]) λ g o mk=>jB g (Op.append e size bytes [v,mk H.au] (H.alloc o)) (K o mk):=by
 have:=Gv (m:=m) h q p c hs l d (K:=λ o mk _ v H=>K o mk m v H) hk;obtain⟨o,mk,i,j⟩:∃o mk,Op.buildSlice e 1 zero [(0,size)] [x]=B1 (o,mk)/\tX B4 (Op.append e size bytes [v,mk H.au] (H.alloc o)) (λ _ v H=>K o mk m v H):=by
  unfold tX at this;split at this
  .rename_i a ha;exact⟨a.1,a.2,ha,this⟩
  grind
 refine jB.intro i ?_;unfold tX at j
 grind [jB.intro]
end
end
def qo(b o:Nat):Op.nilCheck [.ptr b o]=B1 (.ptr b o):=rfl
def xj(i:Nat)(l:List AV):Op.extract i [.tuple l]=l[i]?:=xm2 i l
end Go.Am
namespace Go.Am
def Jn:List bL->Option Nat
 |[.tmp t]=>B1 t
 |_=>B5
def KY(s:aQ):Option Nat:=match s.op,s.iA,s.guard,s.dst with
 | .defer,B2,B5,B5=>Jn s.args
 |_,_,_,_=>B5
def G5:List aQ->Option (List aQ×Nat×List aQ)
 |[]=>B5
 |s::r=>match KY s with
  |some t=>B1 ([],t,r)
  |none=>(G5 r).map λ q=>(s::q.1,q.2.1,q.2.2)
def sC:ai->Option (ai×Nat×ai)
 | .region l=>(G5 l).map λ q=>(.region q.1,q.2.1,.region q.2.2)
 | .seq a b=>match sC a with
  |some q=>B1 (q.1,q.2.1,.seq q.2.2 b)
  |none=>(sC b).map λ q=>(.seq a q.1,q.2.1,q.2.2)
 |_=>B5
noncomputable def zQ(c:ai):ai:=QY (motive:=λ _=>ai) .stuck (λ q=>q.1) (sC c)
noncomputable def wX(c:ai):ai:=QY (motive:=λ _=>ai) .stuck (λ q=>q.2.2) (sC c)
section
variable{M:ak}{ctx:Ctx}
def DX(W:St->cP->Prop)(t:Nat)(st:St)(Q:cP):Prop:=∃g first cap,st.tm.get t=B1 (.fn (.func g) first cap)/\W ⟨st.tm,.fn (.func g) (first++cap)::st.aZ,st.up,st.H⟩ Q
def EO{s:aQ}{st:St}{Q Q':cP}{K:St->Prop}(h:∀c st,Q (.panic c) st=Q' (.panic c) st):rN M ctx s st Q K=rN M ctx s st Q' K:=by
 have e:∀d tm aZ up,AW d tm aZ up Q=AW d tm aZ up Q':=λ d tm aZ up=>by
  funext c H;cases d with
  |none=>rfl
  |some ds=>exact h _ _
 simp_all[pW,rN]
def F_(hr:ctx.round=B5):∀{l l1 l2:List aQ}{t:Nat},G5 l=B1 (l1,t,l2) -> ∀{st:St}{Q:cP},oI M ctx l1 st (ES (DX (oI M ctx l2) t) Q)->oI M ctx l st Q
 |s::r,l1,l2,t,h,st,Q,w=>by
  unfold G5 at h;cases c:KY s with
  |some t' =>
   rw[c]at h;injection h with h;injection h with i h;injection h with j p
   subst i;subst j;subst p;have⟨iA,dst,guard,args,op,x⟩:=s;unfold KY at c;split at c
   .rename_i e1 e2 f o;subst e1;subst e2;subst f;subst o;unfold Jn at c;split at c
    .rename_i e;simp only at e;subst e;cases c;have⟨g,first,cap,i,j⟩:=w;exact bR.intro (m:=aI) i ⟨hr,j⟩
    grind
   grind
  |none =>
   rw[c]at h;have⟨q,u,e⟩:=xr.1 h;injection e with e1 e;injection e with e2 f
   subst e1;subst e2;subst f;have w:rN M ctx s st (ES (DX (oI M ctx q.2.2) q.2.1) Q) λ d=>oI M ctx q.1 d (ES (DX (oI M ctx q.2.2) q.2.1) Q):=w;rw[EO (Q:=ES (DX (oI M ctx q.2.2) q.2.1) Q) (Q':=Q) (λ _ _=>rfl)]at w;exact L' w (by grind) λ d h=>F_ hr u h
def YZ(hr:ctx.round=B5):∀{c x y:ai}{t:Nat},sC c=B1 (x,t,y) -> ∀{st:St}{Q:cP},WP M ctx x st (ES (DX (WP M ctx y) t) Q)->WP M ctx c st Q
 | .region l,x,y,t,h,st,Q,w=>by
  unfold sC at h;have⟨q,f,e⟩:=xr.1 h;injection e with e1 e;injection e with e2 d
  subst e1;subst e2;subst d;exact F_ hr f w
 | .seq a b,x,y,t,h,st,Q,w=>by
  unfold sC at h;cases ha:sC a with
  |some q =>
   rw[ha]at h;injection h with h;injection h with i h;injection h with j m
   subst i;subst j;subst m;refine YZ hr (c:=a) ha (pY w λ e g h=>?_);cases e with
   |normal=>exact h
   |_=>exact h
  |none =>
   rw[ha]at h;have⟨q,f,e⟩:=xr.1 h;injection e with e1 e;injection e with e2 d
   subst e1;subst e2;subst d;show WP M ctx a st (ES (WP M ctx b) Q);refine pY (show WP M ctx a st (ES (WP M ctx q.1) (ES (DX (WP M ctx q.2.2) q.2.1) Q))from w) λ e g h=>?_;cases e with
   |normal=>exact YZ hr (c:=b) f h
   |_=>exact h
end
def BE(M:ak)(ctx:Ctx)(p:Kp×ai)(t:Nat)(Q:aF):aF:=λ e E D H=>match e with
 | .normal=>LK B4 (lk E t) λ _ v=>∃g first cap,v=.fn (.func g) first cap/\W M ctx p B4 Q E (.fn (.func g) (first++cap)::D) H
 |e=>Q e E D H
def xeo{M:ak}{ctx:Ctx}{p:Kp×ai}{t:Nat}{Q:aF}{E:Env}{D:List aL}{H:ar}:BE M ctx p t Q .normal E D H=LK B4 (lk E t) λ _ v=>∃g first cap,v=.fn (.func g) first cap/\W M ctx p B4 Q E (.fn (.func g) (first++cap)::D) H:=rfl
def S_{M:ak}{ctx:Ctx}{p:Kp×ai}{t:Nat}{Q:aF}{E:Env}{D:List aL}{H:ar}:BE M ctx p t Q .ret E D H=Q .ret E D H:=rfl
def NT{M:ak}{rs:List eC}{ks:List Nat}{Q:bM->ar->Prop}{up:Option aH}{e:aX}{st:St}(h:QQ ks (eH M rs Q) up e st):Yi M rs (λ e u H=>u=up/\Q e H) e st:=by
 have⟨f,g,i,d⟩:=h;have⟨tm,D,u,H'⟩:=st;have f:u=up:=f;subst f;have mono:∀{m:Option aH},om M rs g Q D m H'->zS M rs tm (λ e H=>u=u/\Q e H) D m H':=λ{m}h=>by
  grind [om.R4]
 cases e with
 |normal=>exact mono d
 |ret=>exact mono d
 |panic c=>exact mono d
 |exit _=>exact d.elim
 |goto _=>exact d.elim
def IB{M:ak}{f:Nat}{fn:bZ}(u:M.func f=B1 fn){p ky:Kp}(hk:p.ah=ky.ah){t:Nat}(s:sC fn.body=B1 (zQ fn.body,t,wX fn.body)){vs:List AV}(r:jX 0 vs.length p.ah=B4){H:ar}{Q:bM->ar->Prop}
 (h:W M ⟨B5,f⟩ (p,part (zQ fn.body) 0) B4 (BE M ⟨B5,f⟩ (ky,part (wX fn.body) 0) t (eH M fn.results Q)) (kF 0 vs) [] H):FW M f vs H Q:=by
 rw[lM,T1]at h;refine sW u (YZ rfl s (pY (W3.wp (fj (zQ fn.body)) _ (qm _) (up:=B5) h (Z5 r)) λ e st h=>?_));cases e with
 |normal =>
  have⟨d,i,j,l⟩:=h;have⟨tm,D,up,H'⟩:=st;have d:up=none:=d;subst d;obtain⟨v,w,g,first,cap,rfl,q⟩:=LK.elim (m:=B4) (o:=lk i t) (K:=λ _ v=>∃g first cap,v=.fn (.func g) first cap/\W M ⟨B5,f⟩ (ky,part (wX fn.body) 0) B4 (eH M fn.results Q) i (.fn (.func g) (first++cap)::D) H') l;rw[lM,T1]at q;exact⟨g,first,cap,(j t _ w).1,pY (W3.wp (fj (wX fn.body)) _ (qm _) (up:=B5) q (hk▸j)) λ e st h=>NT h⟩
 |ret=>have⟨d,i,j,l⟩:=h;exact NT (e:=aX.ret) (rs:=fn.results) (ks:=p.ah) (Q:=Q) (up:=B5) ⟨d,i,j,l⟩
 |panic c=>have⟨d,i,j,l⟩:=h;exact NT (e:=aX.panic c) (rs:=fn.results) (ks:=p.ah) (Q:=Q) (up:=B5) ⟨d,i,j,l⟩
 |exit k=>obtain⟨d,i,j,l⟩:=h;exact NT (M:=M) (e:=aX.exit k) (rs:=fn.results) (ks:=p.ah) (Q:=Q) (up:=B5) ⟨d,i,j,l⟩
 |goto k=>obtain⟨d,i,j,l⟩:=h;exact NT (M:=M) (e:=aX.goto k) (rs:=fn.results) (ks:=p.ah) (Q:=Q) (up:=B5) ⟨d,i,j,l⟩
def Ir{M:ak}{f:Nat}{fn:bZ}(c:M.func f=B1 fn){ks:Kp}{vs:List AV}(hk:jX 0 vs.length ks.ah=B4){up:Option aH}{H:ar}{Q:bM->ar->Prop}
 (h:W M ⟨B5,f⟩ (ks,part fn.body 0) B4 (eH M fn.results Q) (kF 0 vs) [] H):∃e H',jS M f vs up H e up H'/\Q e H':=by
 rw[lM,T1]at h;obtain⟨e,d,H',g,rfl,i⟩:=q4b c (pY (W3.wp (fj fn.body) fn.body (qm _) (up:=up) h (Z5 hk)) λ e st h=>NT h)
 grind
abbrev WE(M:ak)(c:Ctx)(p:Kp×ai)(R:aF->Env->List aL->ar->Prop):Prop:=∀Q E D H,W M c p B4 Q E D H=R Q E D H
end Go.Am
