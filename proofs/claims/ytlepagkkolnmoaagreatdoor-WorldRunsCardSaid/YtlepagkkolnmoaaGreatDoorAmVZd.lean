import Derived.Test.YtlepagkkolnmoaaGreatDoorAmVZb
import Derived.Test.YtlepagkkolnmoaaGreatDoorAmVZa
set_option linter.unusedVariables false
set_option linter.unusedSimpArgs false
set_option linter.defProp false
open And renaming intro→Hu
open Bool renaming rec→Ox,false→B2,true→B4
open False renaming elim→NT
open Go renaming IntKind→PD,Program→Jy
open List renaming rec→A8
open Nat renaming beq→J8,ble→OZ,blt→Pk
open Option renaming rec→R3,none→B5,some→B1
namespace Go.Am
def aI:Bool:=B4
def bR{α:Type}(m:Bool)(o:Option α)(K:α->Prop):Prop:=match o with
 |some a=>K a
 |none=>False
def iU{α β:Type}(m:Bool)(o:Option (α×β))(K:α -> β->Prop):Prop:=match o with
 |some a=>K a.1 a.2
 |none=>False
def Mb(m:Bool)(q:Bool)(A B:Prop):Prop:=match q with
 |true=>A
 |false=>B
@[congr]def aa6{α:Type}{m c:Bool}{o o':Option α}{K:α->Prop}(hm:m=c)(h:o=o'):bR m o K=bR c o' K:=by rw[h,hm]
@[congr]def aa3{α β:Type}{m c:Bool}{o o':Option (α×β)}{K:α -> β->Prop}(hm:m=c)(h:o=o'):iU m o K=iU c o' K:=by rw[h,hm]
@[congr]def aa9{m c q d:Bool}{A B:Prop}(hm:m=c)(h:q=d):Mb m q A B=Mb c d A B:=by rw[h,hm]
def bR.elim{α:Type}{m:Bool}{o:Option α}{K:α->Prop}(h:bR m o K):∃a,o=B1 a/\K a:=by
 cases o with
 |none=>exact NT h
 |some a=>exact⟨a,rfl,h⟩
def iU.elim{α β:Type}{m:Bool}{o:Option (α×β)}{K:α -> β->Prop}(h:iU m o K):∃a b,o=B1 (a,b)/\K a b:=by
 cases o with
 |none=>exact NT h
 |some a=>exact⟨a.1,a.2,rfl,h⟩
def bR.intro{α:Type}{m:Bool}{o:Option α}{K:α->Prop}{a:α}(h:o=B1 a)(hk:K a):bR m o K:=by subst h;exact hk
def iU.intro{α β:Type}{m:Bool}{o:Option (α×β)}{K:α -> β->Prop}{a:α}{b:β}(h:o=B1 (a,b))(hk:K a b):iU m o K:=by subst h;exact hk
def Mb.cases{m:Bool}{q:Bool}{A B:Prop}(c:q=B4->A)(d:q=B2->B):Mb m q A B:=by
 cases q with
 |true=>exact c rfl
 |false=>exact d rfl
def asBool:AV->Option Bool
 | .bool q=>B1 q
 |_=>B5
noncomputable section
structure ao where
 prog:jV
 told:b9
 mute:Nat->Bool
 ok:∀f vs up H,mute f=B2->told f vs up H=B5
def ao.call(M:ao)(n:Nat):b9:=kI M.prog M.told n
def ao.func(M:ao)(f:Nat):Option bT:=cond (M.mute f) B5 (M.prog.func f)
def ao.kG(M:ao):Nat->String->Option Nat:=M.prog.kG
def ao.yY{M:ao}{f:Nat}{fn:bT}(h:M.func f=B1 fn):M.mute f=B2/\M.prog.func f=B1 fn:=by
 unfold ao.func at h;cases hm:M.mute f with
 |true=>rw[hm]at h;cases h
 |false=>rw[hm]at h;exact⟨rfl,h⟩
def ao.zW{M:ao}{f:Nat}(h:M.mute f=B2)(n:Nat)(vs:List AV)(up:Option aH)(H:ar):M.call (n+1) f vs up H=GI M.prog (M.call n) n f vs up H:=by
 show(match M.told f vs up H with|some r=>B1 r|none=>GI M.prog (kI M.prog M.told n) n f vs up H)=_;rw[M.ok f vs up H h];rfl
variable(AP:ao)
def yK(n k:Nat)(ctx:Ctx):RT:=⟨AP.prog,AP.call n,rounds AP.prog (AP.call n) n k,n,ctx⟩
def kC(f:Nat)(vs:List AV)(up:Option aH)(H:ar)(e:bJ)(up':Option aH)(H':ar):Prop:=∃n0,∀n,n0<=n->AP.call n f vs up H=B1 (e,up',H')
def CALL(f:Nat)(vs:List AV)(H:ar)(e:bJ)(H':ar):Prop:=kC AP f vs B5 H e B5 H'
def sX(l:Nat)(vs:List AV)(H:ar)(e:bJ)(H':ar):Prop:=∃n0,∀n k,n0<=n->n0<=k->rounds AP.prog (AP.call n) n k vs l H=B1 (e,H')
def u9:mC->List AV->ar->bJ->ar->Prop
 | .func g=>CALL AP g
 | .yield l=>sX AP l
def oi(m:Bool)(f:mC)(vs:List AV)(H:ar)(K:AV->ar->Prop)(E:aH->ar->Prop):Prop :=
 ∃e H',u9 AP f vs H e H'/\match e with
  | .ret v=>K v H'
  | .panic c=>E c H'
@[congr]def aa1{AP:ao}{m d:Bool}{f:mC}{vs c:List AV}{H:ar}{K:AV->ar->Prop}{E:aH->ar->Prop}(hm:m=d)(h:vs=c):oi AP m f vs H K E=oi AP d f c H K E:=by rw[h,hm]
def M7(m:Bool)(vs:List AV)(K:mC->List AV->Prop):Prop:=match vs with
 | .fn (.func g) first cap::args=>K (.func g) (first++(args++cap))
 | .fn (.yield l) first []::args=>K (.yield l) (first++args)
 |_=>False
@[congr]def ab1{m d:Bool}{vs c:List AV}{K:mC->List AV->Prop}(hm:m=d)(h:vs=c):M7 m vs K=M7 d c K:=by rw[h,hm]
def Ng(m:Bool)(name:String)(vs:List AV)(K:mC->List AV->Prop):Prop:=match vs with
 | .iface t v::args=>bR aI (AP.kG t name) λ g=>K (.func g) (v::args)
 |_=>False
@[congr]def ab5{AP:ao}{m d:Bool}{name:String}{vs c:List AV}{K:mC->List AV->Prop}(hm:m=d)(h:vs=c):Ng AP m name vs K=Ng AP d name c K:=by rw[h,hm]
def qN(tm:T AV):List bL->(List AV->Prop)->Prop
 |[],K=>K []
 | .tmp t::xs,K=>bR aI (tm.get t) λ v=>qN tm xs λ vs=>K (v::vs)
 | .const v::xs,K=>qN tm xs λ vs=>K (v::vs)
 | .eJ g::xs,K=>qN tm xs λ vs=>K (.ptr g 0::vs)
 | .func f::xs,K=>qN tm xs λ vs=>K (.fn (.func f) [] []::vs)
def qN.elim{tm:T AV}:∀{l:List bL}{K:List AV->Prop},qN tm l K -> ∃vs,mF tm l=B1 vs/\K vs
 |[],K,h=>⟨[],rfl,h⟩
 | .tmp t::xs,K,h=>by
  obtain⟨v,f,h⟩:=bR.elim (m:=aI) h;obtain⟨vs,c,d⟩:=qN.elim h;exact⟨v::vs,by simp[mF,rO,f,c],d⟩
 | .const v::xs,K,h=>by
  obtain⟨vs,c,d⟩:=qN.elim (l:=xs) h;exact⟨v::vs,by simp[mF,rO,c],d⟩
 | .eJ v::xs,K,h=>by
  obtain⟨vs,c,d⟩:=qN.elim (l:=xs) h;exact⟨_,by simp[mF,rO,c],d⟩
 | .func v::xs,K,h=>by
  obtain⟨vs,c,d⟩:=qN.elim (l:=xs) h;exact⟨_,by simp[mF,rO,c],d⟩
def FW(tm:T AV)(x:bL)(K:AV->Prop):Prop:=match x with
 | .tmp t=>bR aI (tm.get t) K
 | .const v=>K v
 | .eJ g=>K (.ptr g 0)
 | .func f=>K (.fn (.func f) [] [])
def FW.elim{tm:T AV}{x:bL}{K:AV->Prop}(h:FW tm x K):∃v,rO tm x=B1 v/\K v:=by
 cases x with
 |tmp t=>exact bR.elim (m:=aI) h
 |const v=>exact⟨v,rfl,h⟩
 |eJ v=>exact⟨_,rfl,h⟩
 |func v=>exact⟨_,rfl,h⟩
abbrev cH:=aZ->St->Prop
def AJ(ps:Option (List Nat))(tm:T AV)(bj:List aQ)(up:Option aH)(Q:cH)(c:aH)(H:ar):Prop:=match ps with
 |some ds=>Q (.panic c) ⟨forget ds tm,bj,up,H⟩
 |none=>False
def yV(m:Bool)(ctx:Ctx)(up:Option aH)(K:AV->Option aH->Prop):Prop:=ctx.round=B5/\match up with
 |some ((v,B2)::older)=>K v (B1 ((v,B4)::older))
 |_=>K .nili up
@[congr]def aa5{m d:Bool}{ctx:Ctx}{up c:Option aH}{K:AV->Option aH->Prop}(hm:m=d)(h:up=c):yV m ctx up K=yV d ctx c K:=by rw[h,hm]
def GB(m:Bool)(ctx:Ctx)(vs:List AV)(bj:List aQ)(K:List aQ->Prop):Prop:=ctx.round=B5/\match vs with
 | .fn (.func f) first cap::args=>K (.fn (.func f) (first++(args++cap))::bj)
 |_=>False
@[congr]def aa7{m d:Bool}{ctx:Ctx}{vs c:List AV}{bj:List aQ}{K:List aQ->Prop}(hm:m=d)(h:vs=c):GB m ctx vs bj K=GB d ctx c bj K:=by rw[h,hm]
def gE(vs:List AV)(H:ar)(E:aH->ar->Prop):Prop:=match vs with
 |[.iface t v]=>E [(.iface t v,B2)] H
 |_=>False
@[congr]def aa0{vs c:List AV}{H:ar}{E:aH->ar->Prop}(h:vs=c):gE vs H E=gE c H E:=by rw[h]
def pe(ctx:Ctx)(dst:Option Nat)(ps:Option (List Nat))(st:St)(Q:cH)(K:St->Prop)(vs:List AV):fL->Prop
 | .pure f=>bR aI (f vs) λ v=>K ⟨eK dst v st.tm,st.bj,st.up,st.H⟩
 | .read f=>bR aI (f vs st.H) λ v=>K ⟨eK dst v st.tm,st.bj,st.up,st.H⟩
 | .alloc f=>iU aI (f vs) λ o mk=>K ⟨eK dst (mk st.H.au) st.tm,st.bj,st.up,st.H.alloc o⟩
 | .gY f=>iU aI (f vs st.H) λ v H=>K ⟨eK dst v st.tm,st.bj,st.up,H⟩
 | .ir g=>oi AP aI (.func g) vs st.H (λ v H=>K ⟨eK dst v st.tm,st.bj,st.up,H⟩) (AJ ps st.tm st.bj st.up Q)
 | .im=>M7 aI vs λ f vs=>oi AP aI f vs st.H (λ v H=>K ⟨eK dst v st.tm,st.bj,st.up,H⟩) (AJ ps st.tm st.bj st.up Q)
 | .invoke name=>Ng AP aI name vs λ f vs=>oi AP aI f vs st.H (λ v H=>K ⟨eK dst v st.tm,st.bj,st.up,H⟩) (AJ ps st.tm st.bj st.up Q)
 | .recover=>match vs with
  |[]=>yV aI ctx st.up λ v up=>K ⟨eK dst v st.tm,st.bj,up,st.H⟩
  |_=>False
 | .defer=>GB aI ctx vs st.bj λ bj=>K ⟨eK dst .undef st.tm,bj,st.up,st.H⟩
 | .panic=>gE vs st.H (AJ ps st.tm st.bj st.up Q)
def PB(dst:Option Nat)(st:St)(vs:List AV):fL->Prop
 | .read f=>match dst with
  |some d=>bR aI (f vs st.H) λ v=>bR aI (st.tm.get d) λ v'=>v=v'
  |none=>False
 |_=>False
def qX(ctx:Ctx)(s:aR)(st:St)(Q:cH)(K:St->Prop):Prop :=
 match s.iq with
 |false=>match s.guard with
  |none=>qN st.tm s.args λ vs=>pe AP ctx s.dst s.cF st Q K vs s.op
  |some g=>bR aI (cQ g.2 (st.tm.get g.1)) λ w=>Mb aI w (qN st.tm s.args λ vs=>pe AP ctx s.dst s.cF st Q K vs s.op) (K ⟨eK s.dst .undef st.tm,st.bj,st.up,st.H⟩)
 |true=>match s.guard with
  |none=>qN st.tm s.args λ vs=>PB s.dst st vs s.op/\K st
  |some g=>bR aI (cQ g.2 (st.tm.get g.1)) λ w=>Mb aI w (qN st.tm s.args λ vs=>PB s.dst st vs s.op/\K st) (s.dst.isSome=B4/\K st)
def oJ(ctx:Ctx):List aR->St->cH->Prop
 |[],st,Q=>Q .normal st
 |s::rest,st,Q=>qX AP ctx s st Q λ st'=>oJ ctx rest st' Q
def C8(W:St->cH->Prop)(Q:cH):cH:=λ e st=>match e with
 | .normal=>W st Q
 |e=>Q e st
def BLK(id:Nat)(Q:cH):cH:=λ e st=>match e with
 | .exit id'=>Q (cond (J8 id id') .normal (.exit id')) st
 |e=>Q e st
def SCP(b:aj)(Q:cH):cH:=λ e st=>match e with
 | .goto l=>Gd b l=B2/\Q (.goto l) st
 |e=>Q e st
def kZ(ai:Option (List Nat))(st:St):St:=match ai with
 |none=>st
 |some ks=>{st with tm:=Y8 st.tm ks .nil}
def KX(W:St->cH->Prop)(ai:Option (List Nat))(st:St)(Q:cH):Prop :=
 ∃I:Nat->St->Prop,(∃n,I n st) /\ ∀n st,I n st->W (kZ ai st) λ e st'=>match e with
  | .normal=>∃m,m<n/\I m st'
  |e=>Q e st'
def Zq(st:St)(bj:List aQ)(l:Nat)(Q:cH)(e:bJ)(H:ar):Prop:=match e with
 | .panic c=>Q (.panic c) {st with bj:=bj,H:=H}
 | .ret _=>∃s p f k tm d,H.get l=B1 (.loop s p f k tm d)/\s≠ .busy/\Q (ri p) {st with bj:=bj,H:=H.set l (.loop .exhausted p f k tm d)}
def mU(ctx:Ctx)(st:St)(k:Nat)(H0:ar)(bj:List aQ)(d:Nat)(Q:cH):AV->Prop
 | .fn (.func g) first cap=>∃e H',CALL AP g (first++(.fn (.yield H0.au) [] []::cap)) (H0.alloc (.loop .ready B5 ctx.fn k st.tm d)) e H'/\Zq st bj H0.au Q e H'
 |_=>False
def JR(ctx:Ctx)(k:Nat)(st:St)(Q:cH)(v:AV):Prop:=match ctx.round with
 |none=>mU AP ctx st k (st.H.alloc (.deferred (B1 []))) (.jJ st.H.au::st.bj) st.H.au Q v
 |some l=>bR aI (Ec st.H l) λ d=>mU AP ctx st k st.H st.bj d Q v
def WP(ctx:Ctx):aj->St->cH->Prop
 | .skip,st,Q=>Q .normal st
 | .label _,st,Q=>Q .normal st
 | .region steps,st,Q=>oJ AP ctx steps st Q
 | .seq a b,st,Q=>WP ctx a st (C8 (WP ctx b) Q)
 | .cond c a b,st,Q=>FW st.tm c λ v=>bR aI (asBool v) λ q=>Mb aI q (WP ctx a st Q) (WP ctx b st Q)
 | .block id b,st,Q=>WP ctx b st (BLK id Q)
 | .loop ai b,st,Q=>KX (WP ctx b) ai st Q
 | .exit id,st,Q=>Q (.exit id) st
 | .goto l,st,Q=>Q (.goto l) st
 | .ret,st,Q=>Q .ret st
 | .stuck,_,_=>False
 | .scope b,st,Q=>WP ctx b st (SCP b Q)
 | .rangeFunc f k,st,Q=>FW st.tm f λ v=>JR AP ctx k st Q v
section
variable(ctx:Ctx)(st:St)(Q:cH)
def UL(s:aR)(l:List aR):oJ AP ctx (s::l) st Q=qX AP ctx s st Q λ c=>oJ AP ctx l c Q:=propext ki
end
def EX(ctx:Ctx)(c:aj)(st:St)(r:aZ×St):Prop:=∃n0,∀n k,n0<=n->n0<=k->(bI c).run (yK AP n k ctx) st=B1 r
def EXS(ctx:Ctx)(l:List aR)(st:St)(r:aZ×St):Prop:=∃n0,∀n k,n0<=n->n0<=k->(hC l).run (yK AP n k ctx) st=B1 r
def u9.run{AP:ao}{f:mC}{vs:List AV}{H:ar}{e:bJ}{H':ar}(h:u9 AP f vs H e H') :
 ∃n0,∀n k,n0<=n->n0<=k->cR (AP.call n) (rounds AP.prog (AP.call n) n k) f vs H=B1 (e,H'):=by
 cases f with
 |func g=>obtain⟨n0,h⟩:=h;exact⟨n0,λ n k hn _=>by simp[cR,h n hn]⟩
 |yield l=>obtain⟨n0,h⟩:=h;exact⟨n0,λ n k hn hk=>by simp[cR,h n k hn hk]⟩
def q7n:(∀v,cu v v=B4)/\(∀l,fq l l=B4):=by
 have e1:∀n,J8 n n=true:=λ n=>by simp
 have e2:∀k,rT k k=true:=λ k=>by cases k<;>rfl
 have c:∀i,u7 i i=true:=λ i=>by rw[DG];simp
 have d:∀s,A5 s s=true:=λ s=>by rw[Mi];simp
 refine⟨λ v=>?_,λ l=>?_⟩
 .refine AV.rec (motive_1:=λ v=>cu v v=B4) (motive_2:=λ l=>fq l l=B4) ?_ ?_ ?_ ?_ ?_ ?_ ?_ ?_ ?_ ?_ ?_ ?_ ?_ ?_ ?_ ?_ ?_ ?_ ?_ v
  all_goals (intros;first|rfl|(simp only[cu,fq,jp,beq_self_eq_true, *];done)|(rename_i f _ _ _ _;cases f<;>simp only[cu,jp, *]))
 .refine AV.rec_1 (motive_1:=λ v=>cu v v=B4) (motive_2:=λ l=>fq l l=B4) ?_ ?_ ?_ ?_ ?_ ?_ ?_ ?_ ?_ ?_ ?_ ?_ ?_ ?_ ?_ ?_ ?_ ?_ ?_ l
  all_goals (intros;first|rfl|(simp only[cu,fq,jp,beq_self_eq_true, *];done)|(rename_i f _ _ _ _;cases f<;>simp only[cu,jp, *]))
def xjr(v:AV):cu v v=true:=q7n.1 v
def PB.run{d:Option Nat}{st:St}{vs:List AV}{op:fL}(h:PB d st vs op):∃t,d=B1 t/\rh (T.oY (T.path t)).run st vs op=true:=by
 cases op with
 |read f =>
  cases d with
  |none=>exact NT h
  |some t =>
   refine⟨t,rfl,?_⟩;obtain⟨v,g,h⟩:=bR.elim (m:=aI) h;obtain⟨j,i,h⟩:=bR.elim (m:=aI) h;subst h;have c:(T.oY (T.path t)).run st.tm=B1 v:=by rw[T.jS];exact i
   simp[rh,g,c,xjr]
 |_=>exact NT h
def pe.run{AP:ao}{ctx:Ctx}{dst:Option Nat}{t:Option (List Nat)}{st:St}{Q:cH}{K:St->Prop}{vs:List AV}{op:fL}(h:pe AP ctx dst t st Q K vs op)
 {kk:Nat->Nat->St->gV} (p:∀st,K st -> ∃e d,Q e d /\ ∃n0,∀n k,n0<=n->n0<=k->kk n k st=B1 (e,d)) :
 ∃e d,Q e d /\ ∃n0,∀n k,n0<=n->n0<=k->(qV (lW dst).run t op).run (yK AP n k ctx) st (kk n k) vs=B1 (e,d):=by
 have hp:∀v tm,(lW dst).run v tm=eK dst v tm:=Yg dst;have call:∀{f vs},oi AP aI f vs st.H (λ v H=>K ⟨eK dst v st.tm,st.bj,st.up,H⟩) (AJ t st.tm st.bj st.up Q) ->
  ∃e d,Q e d /\ ∃n0,∀n k,n0<=n->n0<=k->((cR (AP.call n) (rounds AP.prog (AP.call n) n k) f vs st.H).bind λ r=>fR (lW dst).run t st (kk n k) r)=B1 (e,d):=by
  rintro f vs ⟨e,H',l,h⟩;obtain⟨n0,l⟩:=l.run;cases e with
  |ret v =>
   obtain⟨e,d,j,n1,i⟩:=p _ h;refine⟨e,d,j,max n0 n1,λ n k hn hk=>?_⟩;rw[l n k (by omega) (by omega)]
   simpa[fR,hp]using i n k (by omega) (by omega)
  |panic c =>
   cases t with
   |none=>exact NT h
   |some ds =>
    refine⟨_,_,h,n0,λ n k hn hk=>?_⟩;rw[l n k (by omega) (by omega)];simp[fR]
 cases op with
 |pure f =>
  obtain⟨v,l,h⟩:=bR.elim (m:=aI) h;obtain⟨e,d,j,n1,i⟩:=p _ h;exact⟨e,d,j,n1,λ n k hn hk=>by simp[qV,Ep,l,hp,i n k hn hk]⟩
 |read f =>
  obtain⟨v,l,h⟩:=bR.elim (m:=aI) h;obtain⟨e,d,j,n1,i⟩:=p _ h;exact⟨e,d,j,n1,λ n k hn hk=>by simp[qV,EV,l,hp,i n k hn hk]⟩
 |alloc f =>
  simp only[pe]at h;obtain⟨o,mk,l,h⟩:=iU.elim (m:=aI) h;obtain⟨e,d,j,n1,i⟩:=p _ h;exact⟨e,d,j,n1,λ n k hn hk=>by simp[qV,wJ,l,hp,i n k hn hk]⟩
 |gY f =>
  simp only[pe]at h;obtain⟨o,mk,l,h⟩:=iU.elim (m:=aI) h;obtain⟨e,d,j,n1,i⟩:=p _ h;exact⟨e,d,j,n1,λ n k hn hk=>by simp[qV,Mq,l,hp,i n k hn hk]⟩
 |ir f=>exact call h
 |im =>
  simp only[pe,M7]at h;split at h
  .exact call h
  .exact call h
  .exact NT h
 |invoke name =>
  simp only[pe,Ng]at h;split at h
  .obtain ⟨g,hg,h⟩:=bR.elim (m:=aI) h;obtain⟨e,d,j,n1,i⟩:=call h;exact⟨e,d,j,n1,λ n k hn hk=>by simpa[qV,tV,yK,(show AP.prog.kG _ name=B1 g from hg)]using i n k hn hk⟩
  .exact NT h
 |recover =>
  simp only[pe]at h;split at h
  .obtain ⟨hr,h⟩:=h;split at h
   .rename_i v s q;obtain⟨e,d,j,n1,i⟩:=p _ h;exact⟨e,d,j,n1,λ n k hn hk=>by simpa[qV,Ub,yK,hr,O4,q,hp]using i n k hn hk⟩
   .rename_i q;obtain⟨e,d,j,n1,i⟩:=p _ h;refine⟨e,d,j,n1,λ n k hn hk=>?_⟩;have:O4 (lW dst).run st=⟨eK dst .nili st.tm,st.bj,st.up,st.H⟩:=by
     unfold O4;split
     .rename_i v s hu;exact(q _ _ hu).elim
     .rw [hp]
    simpa[qV,Ub,yK,hr,this]using i n k hn hk
  .exact NT h
 |defer =>
  obtain⟨hr,h⟩:=h;split at h
  .obtain ⟨e,d,j,n1,i⟩:=p _ h;exact⟨e,d,j,n1,λ n k hn hk=>by simpa[qV,wT,yK,hr,hp]using i n k hn hk⟩
  .exact NT h
 |panic =>
  simp only[pe,gE]at h;split at h
  .cases t with
   |none=>exact NT h
   |some ds=>exact⟨_,_,h,0,λ n k hn hk=>by simp[qV,wU,fR]⟩
  .exact NT h
def qX.run{AP:ao}{ctx:Ctx}{s:aR}{st:St}{Q:cH}{K:St->Prop}(h:qX AP ctx s st Q K)
 {kk:Nat->Nat->St->gV} (o:∀st,K st -> ∃e c,Q e c /\ ∃n0,∀n k,n0<=n->n0<=k->kk n k st=B1 (e,c)) :
 ∃e c,Q e c /\ ∃n0,∀n k,n0<=n->n0<=k->(gR s).run (yK AP n k ctx) (kk n k) st=B1 (e,c):=by
 obtain⟨iq,dst,guard,args,op,u⟩:=s;have hp:∀v tm,(lW dst).run v tm=eK dst v tm:=Yg dst;have p:∀g,(T.oY (T.path g)).run st.tm=st.tm.get g:=λ g=>by rw[T.jS];rfl
 cases iq with
 |false =>
  cases guard with
  |none =>
   obtain⟨vs,l,h⟩:=qN.elim h;obtain⟨e,c,j,n0,f⟩:=h.run o;exact⟨e,c,j,n0,λ n k hn hk=>by simpa[gR,GW,l]using f n k hn hk⟩
  |some g =>
   obtain⟨w,hw,h⟩:=bR.elim (m:=aI) h;cases w with
   |true =>
    obtain⟨vs,l,h⟩:=qN.elim h;obtain⟨e,c,j,n0,f⟩:=h.run o;exact⟨e,c,j,n0,λ n k hn hk=>by simpa[gR,p,hw,GW,l]using f n k hn hk⟩
   |false =>
    obtain⟨e,c,j,n0,f⟩:=o _ h;exact⟨e,c,j,n0,λ n k hn hk=>by simpa[gR,p,hw,hp]using f n k hn hk⟩
 |true =>
  cases guard with
  |none =>
   obtain⟨vs,l,hk,q⟩:=qN.elim h;obtain⟨t,rfl,hk⟩:=hk.run;obtain⟨e,c,j,n0,f⟩:=o _ q;exact⟨e,c,j,n0,λ n k hn i=>by simpa[gR,GW,l,hk]using f n k hn i⟩
  |some g =>
   obtain⟨w,hw,h⟩:=bR.elim (m:=aI) h;cases w with
   |true =>
    obtain⟨vs,l,hk,q⟩:=qN.elim h;obtain⟨t,rfl,hk⟩:=hk.run;obtain⟨e,c,j,n0,f⟩:=o _ q;exact⟨e,c,j,n0,λ n k hn i=>by simpa[gR,p,hw,GW,l,hk]using f n k hn i⟩
   |false =>
    obtain⟨r,h⟩:=h;obtain⟨e,c,j,n0,f⟩:=o _ h;cases dst with
    |none=>cases r
    |some d=>exact⟨e,c,j,n0,λ n k hn i=>by simpa[gR,p,hw]using f n k hn i⟩
def oJ.run{AP:ao}{ctx:Ctx}:∀{l:List aR}{st:St}{Q:cH},oJ AP ctx l st Q -> ∃e c,Q e c/\EXS AP ctx l st (e,c)
 |[],st,Q,h=>⟨_,_,h,0,λ _ _ _ _=>rfl⟩
 |s::rest,st,Q,h=>by
  obtain⟨e,c,d,n0,h⟩:=qX.run (kk:=λ n k=>(hC rest).run (yK AP n k ctx)) h λ c hs=>oJ.run hs;exact⟨e,c,d,n0,h⟩
def DO{AP:ao}{ctx:Ctx}{ai:Option (List Nat)}{b:aj}{Q:cH}{I:Nat->St->Prop}
 (hb:∀n st,I n st -> ∃e f,(match e with| .normal=>∃m,m<n/\I m f|e=>Q e f)/\EX AP ctx b (kZ ai st) (e,f)) :
 ∀m n,n<=m -> ∀st,I n st -> ∃e f,Q e f /\ ∃n0 c,∀n k,n0<=n->n0<=k -> ∀d,c<=d->gT ai ((bI b).run (yK AP n k ctx)) d st=B1 (e,f):=by
 intro m
 induction m with
 |zero =>
  intro n hn st q;obtain⟨e,f,h,n0,g⟩:=hb n st q;cases e with
  |normal=>obtain⟨j,w,_⟩:=h;omega
  |exit id=>exact⟨_,_,h,n0,1,λ n k hn hk d i=>by obtain⟨c,rfl⟩:∃c,d=c+1:=⟨d-1,by omega⟩;have:=g n k hn hk;cases ai<;>simp[gT,kZ]at this⊢<;>simp[this]⟩
  |goto l=>exact⟨_,_,h,n0,1,λ n k hn hk d i=>by obtain⟨c,rfl⟩:∃c,d=c+1:=⟨d-1,by omega⟩;have:=g n k hn hk;cases ai<;>simp[gT,kZ]at this⊢<;>simp[this]⟩
  |ret=>exact⟨_,_,h,n0,1,λ n k hn hk d i=>by obtain⟨c,rfl⟩:∃c,d=c+1:=⟨d-1,by omega⟩;have:=g n k hn hk;cases ai<;>simp[gT,kZ]at this⊢<;>simp[this]⟩
  |panic p=>exact⟨_,_,h,n0,1,λ n k hn hk d i=>by obtain⟨c,rfl⟩:∃c,d=c+1:=⟨d-1,by omega⟩;have:=g n k hn hk;cases ai<;>simp[gT,kZ]at this⊢<;>simp[this]⟩
 |succ m ih =>
  intro n hn st q;obtain⟨e,f,h,n0,g⟩:=hb n st q;cases e with
  |normal =>
   obtain⟨j,w,r⟩:=h;obtain⟨e,s,x,n1,c,t⟩:=ih j (by omega) f r;refine⟨e,s,x,max n0 n1,c+1,λ n k hn hk d i=>?_⟩;obtain⟨o,rfl⟩:∃c,d=c+1:=⟨d-1,by omega⟩
   have:=g n k (by omega) (by omega);have u:=t n k (by omega) (by omega) o (by omega);cases ai<;>simp[gT,kZ]at this⊢<;>simp[this,u]
  |exit id=>exact⟨_,_,h,n0,1,λ n k hn hk d i=>by obtain⟨c,rfl⟩:∃c,d=c+1:=⟨d-1,by omega⟩;have:=g n k hn hk;cases ai<;>simp[gT,kZ]at this⊢<;>simp[this]⟩
  |goto l=>exact⟨_,_,h,n0,1,λ n k hn hk d i=>by obtain⟨c,rfl⟩:∃c,d=c+1:=⟨d-1,by omega⟩;have:=g n k hn hk;cases ai<;>simp[gT,kZ]at this⊢<;>simp[this]⟩
  |ret=>exact⟨_,_,h,n0,1,λ n k hn hk d i=>by obtain⟨c,rfl⟩:∃c,d=c+1:=⟨d-1,by omega⟩;have:=g n k hn hk;cases ai<;>simp[gT,kZ]at this⊢<;>simp[this]⟩
  |panic p=>exact⟨_,_,h,n0,1,λ n k hn hk d i=>by obtain⟨c,rfl⟩:∃c,d=c+1:=⟨d-1,by omega⟩;have:=g n k hn hk;cases ai<;>simp[gT,kZ]at this⊢<;>simp[this]⟩
def mU.run{AP:ao}{ctx:Ctx}{st:St}{j:Nat}{H0:ar}{bj:List aQ}{d:Nat}{Q:cH}{v:AV}(h:mU AP ctx st j H0 bj d Q v) :
 ∃e g,Q e g /\ ∃n0,∀n k,n0<=n->n0<=k->jD (AP.call n) (rounds AP.prog (AP.call n) n k) ctx st j H0 bj d v=B1 (e,g):=by
 unfold mU at h;split at h
 .obtain ⟨e,H',⟨n0,i⟩,h⟩:=h;cases e with
  |panic c=>exact⟨_,_,h,n0,λ n k hn hk=>by simp[jD,cR,i n hn,NN]⟩
  |ret v =>
   obtain⟨s,p,f,k,tm,d,hg,hs,h⟩:=h;refine⟨_,_,h,n0,λ n k hn hk=>?_⟩;simp only[jD,cR,i n hn,NN,qr,hg]
 .exact NT h
def WP.run{AP:ao}{ctx:Ctx}:∀{c:aj}{st:St}{Q:cH},WP AP ctx c st Q -> ∃e j,Q e j/\EX AP ctx c st (e,j)
 | .skip,st,Q,h=>⟨_,_,h,0,λ _ _ _ _=>rfl⟩
 | .label _,st,Q,h=>⟨_,_,h,0,λ _ _ _ _=>rfl⟩
 | .exit _,st,Q,h=>⟨_,_,h,0,λ _ _ _ _=>rfl⟩
 | .goto _,st,Q,h=>⟨_,_,h,0,λ _ _ _ _=>rfl⟩
 | .ret,st,Q,h=>⟨_,_,h,0,λ _ _ _ _=>rfl⟩
 | .stuck,st,Q,h=>NT h
 | .region steps,st,Q,h=>oJ.run h
 | .seq a b,st,Q,h=>by
  obtain⟨e,cZ,i,n0,g⟩:=WP.run (c:=a) h;cases e with
  |normal =>
   obtain⟨e,t,o,n1,x⟩:=WP.run (c:=b) i;exact⟨e,t,o,max n0 n1,λ n k hn hk=>by simp[bI,g n k (by omega) (by omega),vC,x n k (by omega) (by omega)]⟩
  |exit id=>exact⟨_,_,i,n0,λ n k hn hk=>by simp[bI,g n k hn hk,vC]⟩
  |goto id=>exact⟨_,_,i,n0,λ n k hn hk=>by simp[bI,g n k hn hk,vC]⟩
  |ret=>exact⟨_,_,i,n0,λ n k hn hk=>by simp[bI,g n k hn hk,vC]⟩
  |panic p=>exact⟨_,_,i,n0,λ n k hn hk=>by simp[bI,g n k hn hk,vC]⟩
 | .cond c a b,st,Q,h=>by
  obtain⟨v,r,h⟩:=FW.elim h;obtain⟨q,o,h⟩:=bR.elim (m:=aI) h;have hv':v=.bool q:=by
   unfold asBool at o;split at o
   .injection o with o;rw[o]
   .cases o
  subst hv';cases q with
  |true =>
   obtain⟨e,cZ,i,n0,g⟩:=WP.run (c:=a) h;exact⟨e,cZ,i,n0,λ n k hn hk=>by simp[bI,Jp,r,uV,g n k hn hk]⟩
  |false =>
   obtain⟨e,cZ,i,n0,g⟩:=WP.run (c:=b) h;exact⟨e,cZ,i,n0,λ n k hn hk=>by simp[bI,Jp,r,uV,g n k hn hk]⟩
 | .block id b,st,Q,h=>by
  obtain⟨e,cZ,i,n0,g⟩:=WP.run (c:=b) h;cases e with
  |exit id'=>exact⟨_,_,i,n0,λ n k hn hk=>by simp[bI,g n k hn hk,kP]⟩
  |normal=>exact⟨_,_,i,n0,λ n k hn hk=>by simp[bI,g n k hn hk,kP]⟩
  |goto id=>exact⟨_,_,i,n0,λ n k hn hk=>by simp[bI,g n k hn hk,kP]⟩
  |ret=>exact⟨_,_,i,n0,λ n k hn hk=>by simp[bI,g n k hn hk,kP]⟩
  |panic p=>exact⟨_,_,i,n0,λ n k hn hk=>by simp[bI,g n k hn hk,kP]⟩
 | .scope b,st,Q,h=>by
  obtain⟨e,cZ,i,n0,g⟩:=WP.run (c:=b) h;cases e with
  |exit id'=>exact⟨_,_,i,n0,λ n k hn hk=>by simp[bI,g n k hn hk,lX]⟩
  |normal=>exact⟨_,_,i,n0,λ n k hn hk=>by simp[bI,g n k hn hk,lX]⟩
  |goto id=>exact⟨_,_,i.2,n0,λ n k hn hk=>by simp[bI,g n k hn hk,lX,i.1]⟩
  |ret=>exact⟨_,_,i,n0,λ n k hn hk=>by simp[bI,g n k hn hk,lX]⟩
  |panic p=>exact⟨_,_,i,n0,λ n k hn hk=>by simp[bI,g n k hn hk,lX]⟩
 | .loop ai b,st,Q,⟨I,⟨n,s⟩,h⟩=>by
  obtain⟨e,j,o,n0,c,g⟩:=DO (AP:=AP) (ctx:=ctx) (ai:=ai) (b:=b) (Q:=Q) (I:=I) (λ n st s=>by
   obtain⟨e,j,i,u⟩:=WP.run (c:=b) (h n st s);exact⟨e,j,i,u⟩) n n (qm n) st s
  exact⟨e,j,o,max n0 c,λ n k hn hk=>g n k (by omega) (by omega) n (by omega)⟩
 | .rangeFunc f k0,st,Q,h=>by
  obtain⟨v,r,h⟩:=FW.elim h;unfold JR at h;cases hr:ctx.round with
  |none =>
   rw[hr]at h;obtain⟨e,j,o,n0,g⟩:=mU.run h;exact⟨e,j,o,n0,λ n k hn hk=>by simpa[bI,Jp,r,qW,yK,hr]using g n k hn hk⟩
  |some l =>
   rw[hr]at h;obtain⟨d,w,h⟩:=bR.elim (m:=aI) h;obtain⟨e,j,o,n0,g⟩:=mU.run h;exact⟨e,j,o,n0,λ n k hn hk=>by simpa[bI,Jp,r,qW,yK,hr,w]using g n k hn hk⟩
def zP(AP:ao)(rs:List eE)(tm:T AV)(Q:bJ->ar->Prop):List aQ->Option aH->ar->Prop
 |[],B5,H=>bR aI (ep H tm rs) λ l=>Q (.ret (jE l)) H
 |[],B1 c,H=>Q (.panic c) H
 | .jJ b::ds,m,H=>H.get b=B1 (.deferred (B1 []))/\zP AP rs tm Q ds m (H.set b (.deferred B5))
 | .fn (.func f) args::ds,m,H=>∃v up' H',kC AP f args (B1 (m.getD [])) H (.ret v) (B1 up') H'/\bR aI (nU m up') λ m'=>zP AP rs tm Q ds m' H'
 | .fn (.yield _) _::_,_,_=>False
def zP.run{AP:ao}{rs:List eE}{tm:T AV}{Q:bJ->ar->Prop}:∀{ds:List aQ}{m:Option aH}{H:ar},zP AP rs tm Q ds m H ->
 ∃e H',Q e H' /\ ∃n0,∀n,n0<=n->ct (AP.call n) rs tm ds m H=B1 (e,H')
 |[],B5,H,h=>by
  obtain⟨l,hl,h⟩:=bR.elim (m:=aI) h;exact⟨_,_,h,0,λ n _=>by simp[ct,hl]⟩
 |[],B1 c,H,h=>⟨_,_,h,0,λ n _=>by simp[ct]⟩
 | .jJ b::ds,m,H,⟨hb,h⟩=>by
  obtain⟨e,H',d,n0,g⟩:=zP.run h;exact⟨e,H',d,n0,λ n hn=>by simp[ct,hb,g n hn]⟩
 | .fn (.func f) args::ds,m,H,⟨v,up',H',⟨n0,hc⟩,h⟩=>by
  obtain⟨j,hm,h⟩:=bR.elim (m:=aI) h;obtain⟨e,i,d,n1,g⟩:=zP.run h;exact⟨e,i,d,max n0 n1,λ n hn=>by simp[ct,hc n (by omega),hm,g n (by omega)]⟩
 | .fn (.yield _) _::_,_,_,h=>NT h
def Yl(AP:ao)(rs:List eE)(Q:bJ->Option aH->ar->Prop):cH:=λ e st=>match e with
 | .normal=>zP AP rs st.tm (λ e H=>Q e st.up H) st.bj B5 st.H
 | .ret=>zP AP rs st.tm (λ e H=>Q e st.up H) st.bj B5 st.H
 | .panic c=>zP AP rs st.tm (λ e H=>Q e st.up H) st.bj (B1 c) st.H
 |_=>False
def q3z{AP:ao}{f:Nat}{fn:bT}(i:AP.func f=B1 fn){vs:List AV}{up:Option aH}{H:ar}{Q:bJ->Option aH->ar->Prop}
 (h:WP AP ⟨B5,f⟩ fn.body ⟨jZ 0 vs .nil,[],up,H⟩ (Yl AP fn.results Q)):∃e d H',kC AP f vs up H e d H'/\Q e d H':=by
 obtain⟨l,i⟩:=ao.yY i;obtain⟨e,st,g,n0,p⟩:=h.run;have key:∀m,zP AP fn.results st.tm (λ e H=>Q e st.up H) st.bj m st.H->(∀call,qG call fn (e,st)=(ct call fn.results st.tm st.bj m st.H).bind λ q=>B1 (q.1,st.up,q.2)) ->
  ∃e d H',kC AP f vs up H e d H'/\Q e d H':=by
  intro m g he;obtain⟨e',H',o,n1,r⟩:=g.run;refine⟨e',st.up,H',⟨max n0 n1+1,λ n hn=>?_⟩,o⟩;obtain⟨n,rfl⟩:∃j,n=j+1:=⟨n-1,by omega⟩
  have:=p n n (by omega) (by omega);simp only[yK]at this;rw[ao.zW l];simp only[GI,i,qr,exec,this,he,r n (by omega)]
 cases e with
 |normal=>exact key B5 g λ _=>rfl
 |ret=>exact key B5 g λ _=>rfl
 |panic c=>exact key (B1 c) g λ _=>rfl
 |exit _=>exact NT g
 |goto _=>exact NT g
def q72{AP:ao}{f:Nat}{fn:bT}(g:AP.func f=B1 fn){vs:List AV}{H:ar}{Q:bJ->ar->Prop}
 (h:WP AP ⟨B5,f⟩ fn.body ⟨jZ 0 vs .nil,[],B5,H⟩ (Yl AP fn.results λ e up H=>up=B5/\Q e H)):∃e H',CALL AP f vs H e H'/\Q e H':=by
 obtain⟨e,i,H',c,rfl,d⟩:=q3z g h;exact⟨e,H',c,d⟩
def RE(l:Nat)(Q:bJ->ar->Prop):cH:=λ e st=>st.bj=[]/\match e with
 | .panic c=>Q (.panic c) st.H
 |e=>bR aI (cO st.H l (cond (zX e) .ready .done) (kX e)) λ H=>Q (.ret (.bool (zX e))) H
def RB(W:St->cH->Prop)(l:Nat)(Q:bJ->ar->Prop):cH:=λ e st=>match e with
 | .normal=>bR aI (beginRound st.H l) λ H=>W {st with H:=H} (RE l Q)
 |_=>False
def xi{AP:ao}{l:Nat}{H:ar}{s:mV}{p:Option iv}{f k:Nat}{tm:T AV}{d:Nat}{fn:bT}{lp:dI}{vs:List AV}{u:T AV}{Q:bJ->ar->Prop}
 (hl:H.get l=B1 (.loop s p f k tm d)) (y:AP.func f=B1 fn) (hk:nth fn.loops k=B1 lp) (hb:L7 tm lp.params vs=B1 u)
 (h:WP AP ⟨B1 l,f⟩ lp.assign ⟨u,[],B5,H⟩ (RB (WP AP ⟨B1 l,f⟩ lp.body) l Q)):∃e H',sX AP l vs H e H'/\Q e H':=by
 obtain⟨F,y⟩:=ao.yY y;obtain⟨e,st,o,n0,J⟩:=h.run;cases e with
 |normal =>
  obtain⟨N,x,o⟩:=bR.elim (m:=aI) o;obtain⟨e,z,⟨C,g⟩,n1,L⟩:=WP.run o;have key:∀e' H',Q e' H'->Il l (e,z)=B1 (e',H') -> ∃e H',sX AP l vs H e H'/\Q e H':=by
   intro e' H' G he;refine⟨e',H',⟨max n0 n1+1,λ n j hn O=>?_⟩,G⟩;obtain⟨j,rfl⟩:∃i,j=i+1:=⟨j-1,by omega⟩
   have r:=J n j (by omega) (by omega);have t:=L n j (by omega) (by omega);simp only[yK]at r t;simp only[rounds,roundOf,hl,y,qr,hk,hb,exec,r,x,t,C,roundOf.noDefs,xv,he]
  cases e with
  |panic c=>exact key _ _ g rfl
  |normal=>obtain⟨w,q,g⟩:=bR.elim (m:=aI) g;exact key _ _ g (by simp[Il,q])
  |exit id=>obtain⟨w,q,g⟩:=bR.elim (m:=aI) g;exact key _ _ g (by simp[Il,q])
  |goto id=>obtain⟨w,q,g⟩:=bR.elim (m:=aI) g;exact key _ _ g (by simp[Il,q])
  |ret=>obtain⟨w,q,g⟩:=bR.elim (m:=aI) g;exact key _ _ g (by simp[Il,q])
 |exit _=>exact NT o
 |goto _=>exact NT o
 |ret=>exact NT o
 |panic _=>exact NT o
def CALL.Dm{AP:ao}{f:Nat}{vs:List AV}{H:ar}{e:bJ}{H':ar}(h:CALL AP f vs H e H'):∃n,AP.call n f vs B5 H=B1 (e,B5,H'):=by
 obtain⟨n,h⟩:=h;exact⟨n,h n (qm n)⟩
end
end Go.Am
namespace Go.Am
abbrev Env:=List (Nat×AV)
def lO(dst:Option Nat)(v:AV)(E:Env):Env:=match dst with
 |some d=>(d,v)::E
 |none=>E
def tX{α β:Type}(m:Bool)(o:Option (α×β))(K:Bool -> α -> β->Prop):Prop:=match o with
 |some a=>K aI a.1 a.2
 |none=>False
def LK{α:Type}(m:Bool)(o:Option α)(K:Bool -> α->Prop):Prop:=match o with
 |some a=>K m a
 |none=>False
def GX{α:Type}(a:α)(K:Bool -> α->Prop):LK B4 (B1 a) K=K B4 a:=propext ki
@[congr]def ac2{α:Type}{m c:Bool}{o o':Option α}{K:Bool -> α->Prop}(hm:m=c)(h:o=o'):LK m o K=LK c o' K:=by subst hm;subst h;rfl
@[congr]def ab4{α β:Type}{m c:Bool}{o o':Option (α×β)}{K:Bool -> α -> β->Prop}(hm:m=c)(h:o=o'):tX m o K=tX c o' K:=by subst hm;subst h;rfl
def tX.intro{α β:Type}{m:Bool}{o:Option (α×β)}{K:Bool -> α -> β->Prop}{a:α}{b:β}(h:o=B1 (a,b))(hk:K aI a b):tX m o K:=by subst h;exact hk
noncomputable section
variable(AP:ao)
end
end Go.Am
namespace Go.Am
def xnl(n:Int):ak .i64 n=(n+9223372036854775808) % 18446744073709551616-9223372036854775808:=by
 simp[ak,IntKind.wrap,IntKind.bits,IntKind.signed];split<;>omega
def qq(n:Int):ak .u64 n=n % 18446744073709551616:=by simp[ak,IntKind.wrap,IntKind.bits,IntKind.signed]
def ju{n:Int}(h:-9223372036854775808<=n)(c:n<9223372036854775808):ak .i64 n=n:=by rw[xnl];omega
def oy{n:Int}(h:0<=n)(c:n<18446744073709551616):ak .u64 n=n:=by rw[qq];omega
section
variable(k:PD)(a b:Int)
def Kn(v:AV):Op.move [v]=B1 v:=rfl
def LD(q:Bool)(a b:AV):Op.pick [.bool q,a,b]=B1 (cond q a b):=rfl
def PY:Op.bin .add [.int k a,.int k b]=B1 (.int k (ak k (a+b))):=by cases k<;>rfl
def OO:Op.bin .sub [.int k a,.int k b]=B1 (.int k (ak k (a-b))):=by cases k<;>rfl
def Q5:Op.bin .mul [.int k a,.int k b]=B1 (.int k (ak k (a*b))):=by cases k<;>rfl
def J6(hb:b≠0):Op.bin .quo [.int k a,.int k b]=B1 (.int k (ak k (a.tdiv b))):=by
 have:u7 b 0=false:=by rw[DG];simpa using hb
 cases k<;>simp[Op.bin,oH,dZ,rT,iY,gH,this]
def sI(hb:b≠0):Op.bin .rem [.int k a,.int k b]=B1 (.int k (a.tmod b)):=by
 have:u7 b 0=false:=by rw[DG];simpa using hb
 cases k<;>simp[Op.bin,oH,dZ,rT,iY,gH,this]
def Pt:Op.bin .eql [.int k a,.int k b]=B1 (.bool (decide (a=b))):=by
 have:u7 a b=decide (a=b):=by rw[DG];rfl
 cases k<;>simp[Op.bin,oH,dZ,rT,iY,gH,this]
def RN:Op.bin .neq [.int k a,.int k b]=B1 (.bool (decide (a≠b))):=by
 have:u7 a b=decide (a=b):=by rw[DG];rfl
 cases k<;>simp[Op.bin,oH,dZ,rT,iY,gH,this]
def O7:Op.bin .lss [.int k a,.int k b]=B1 (.bool (decide (a<b))):=by
 cases k<;>simp[Op.bin,oH,dZ,rT,iY,gH,Js]
def Qp:Op.bin .leq [.int k a,.int k b]=B1 (.bool (decide (a<=b))):=by
 cases k<;>simp[Op.bin,oH,dZ,rT,iY,gH,HG]
def Rv:Op.bin .gtr [.int k a,.int k b]=B1 (.bool (decide (b<a))):=by
 cases k<;>simp[Op.bin,oH,dZ,rT,iY,gH,Js]
def Ph:Op.bin .geq [.int k a,.int k b]=B1 (.bool (decide (b<=a))):=by
 cases k<;>simp[Op.bin,oH,dZ,rT,iY,gH,HG]
def Mv(k':PD):Op.wrap k [.int k' a]=B1 (.int k (ak k a)):=rfl
def QV(q:Bool):Op.un .not [.bool q]=B1 (.bool (!q)):=rfl
def xln(a b:List UInt8):A5 a b=decide (a=b):=by
 by_cases h:a=b
 .subst h;simp[Mi]
 .simp [Mi,h]
def KU(a b:List UInt8):Op.bin .eql [.str a,.str b]=B1 (.bool (decide (a=b))):=by
 simp only[Op.bin,oH,rA,xln]
def L4(a b:List UInt8):Op.bin .neq [.str a,.str b]=B1 (.bool (decide (a≠b))):=by
 simp[Op.bin,oH,rA,xln]
def DW(s:List UInt8):Op.fF [.str s]=B1 (.int .i64 s.length):=by simp[Op.fF,fg,Ij]
def xmm(i:Nat)(l:List AV):Op.extract i [.tuple l]=l[i]?:=by simp[Op.extract,kD]
def ad5(f n:Nat)(l:List AV):Op.bB f n l=B1 (.fn (.func f) (l.take n) (l.drop n)):=rfl
def xmo(t:Nat)(v:AV):Op.du t [v]=B1 (.iface t v):=rfl
def xfl(off b o:Nat):Op.fieldAddr off [.ptr b o]=B1 (.ptr b (o+off)):=rfl
def af9(off:Nat)(l:List AV):Op.field off B5 [.agg l]=l[off]?:=by simp[Op.field,partAt,kD]
def MC(q:Bool):cQ B4 (B1 (.bool q))=B1 q:=by cases q<;>rfl
def GN(q:Bool):cQ B2 (B1 (.bool q))=B1 (!q):=by cases q<;>rfl
def Ix(b:Bool):cQ b (B1 .undef)=B1 false:=rfl
end
structure Fr(W:Nat->Prop)(H H':ar):Prop where
 au:H.au<=H'.au
 ai:∀b,b<H.au -> ¬W b->H'.get b=H.get b
def Em:Nat->Prop:=λ _=>False
def On(b:Nat):Nat->Prop:=λ x=>x=b
def Fr.refl{W:Nat->Prop}(H:ar):Fr W H H:=⟨qm _,λ _ _ _=>rfl⟩
def Fr.trans{W W':Nat->Prop}{H H1 d:ar}(a:Fr W H H1)(b:Fr W' H1 d)(h:∀x,W' x->W x\/H.au<=x):Fr W H d :=
 ⟨zd a.au b.au,λ x f hw=>by
  rw[b.ai x (qn f a.au) (λ c=>(h x c).elim hw (λ q=>by omega)),a.ai x f hw]⟩
def Fr.em{W:Nat->Prop}{H H1 c:ar}(a:Fr W H H1)(b:Fr Em H1 c):Fr W H c:=a.trans b λ _ h=>h.elim
def Fr.mono{W W':Nat->Prop}{H H':ar}(a:Fr W H H')(h:∀x,x<H.au->W x->W' x):Fr W' H H':=⟨a.au,λ x c hw=>a.ai x c λ q=>hw (h x c q)⟩
def xz(H:ar)(o:bF):(H.alloc o).au=H.au+1:=rfl
def oO(H:ar)(b:Nat)(o:bF):(H.set b o).au=H.au:=rfl
def Iv(H:ar)(b:Nat):(H.kill b).au=H.au:=rfl
theorem Fr.alloc{W:Nat->Prop}{H H1:ar}(a:Fr W H H1)(o:bF):Fr W H (H1.alloc o) :=
 ⟨Nat.le_succ_of_le a.au,λ x c hw=>by rw[ar.bO,qv (by have:=a.au;omega),a.ai x c hw]⟩
def Fr.set{W:Nat->Prop}{H H1:ar}(a:Fr W H H1){b:Nat}(h:W b\/H.au<=b)(o:bF):Fr W H (H1.set b o) :=
 ⟨a.au,λ x c hw=>by rw[ar.aK,qv (by rintro rfl;exact h.elim hw (λ q=>by omega)),a.ai x c hw]⟩
def Fr.kill{W:Nat->Prop}{H H1:ar}(a:Fr W H H1){b:Nat}(h:W b\/H.au<=b):Fr W H (H1.kill b) :=
 ⟨a.au,λ x c hw=>by rw[ar.rF,qv (by rintro rfl;exact h.elim hw (λ q=>by omega)),a.ai x c hw]⟩
def xe{H:ar}{b:Nat}{c:List AV}{e:Nat}{fz:Nat×Nat}{ow:Bool}(h:H.get b=B1 (.row c e fz ow)):H.bQ b=B1 c:=by simp[ar.bQ,h]
def UW{H:ar}{b m s:Nat}{c:List AV}{e:Nat}{fz:Nat×Nat}(h:H.get b=B1 (.grown m s c e fz)):H.bQ b=B1 c:=by simp[ar.bQ,h]
def q73{H H':ar}{b:Nat}(h:H'.get b=H.get b):H'.bQ b=H.bQ b:=by simp[ar.bQ,h]
def Fr.cells{W:Nat->Prop}{H H':ar}(a:Fr W H H'){b:Nat}(hb:b<H.au)(hw:¬W b):H'.bQ b=H.bQ b:=q73 (a.ai b hb hw)
def zg{H:ar}{b:Nat}{c:List AV}(h:H.bQ b=B1 c)(o:Nat):Op.ah [.ptr b o] H=c[o]?:=by simp[Op.ah,ar.ah,h,kD]
def tD{H:ar}{b:Nat}{c:List AV}(h:H.bQ b=B1 c){o n:Nat}(hn:o+n<=c.length):Op.aw n [.ptr b o] H=B1 (.agg ((c.drop o).take n)):=by
 simp only[Op.aw,ar.aw,h,qr,sV];rw[xb (by omega)];rfl
def Sl(H:ar)(size:Nat)(v:AV)(n:Nat)(cells:List AV):Prop :=
 cells.length=n*size/\match v with
 | .nils=>n=0
 | .slice b o m c=>m=n/\n<=c/\(n=0\/b<H.au /\ ∃all,H.bQ b=B1 all/\fP all o (n*size)=B1 cells)
 | .gslice b i m s alt k=>k=n/\s=size/\i+n<=m/\(n=0\/b<H.au /\ ∃all,H.bQ b=B1 all/\fP all (i*size) (n*size)=B1 cells)
 | .eslice b=>n=0/\b<H.au
 |_=>False
def aD:AV->Nat
 | .slice b _ _ _=>b
 | .gslice b _ _ _ _ _=>b
 | .eslice b=>b
 |_=>0
def cM(size:Nat):AV->Nat->Nat
 | .slice _ o _ _,j=>o+j*size
 | .gslice _ i _ s _ _,j=>i*s+j*s
 |_,_=>0
def Sl.fI{H:ar}{size:Nat}{v:AV}{n:Nat}{cells:List AV}(h:Sl H size v n cells):fI v=B1 n:=by
 obtain⟨_,h⟩:=h;split at h
 .subst h;rfl
 .obtain ⟨rfl,_⟩:=h;rfl
 .obtain ⟨rfl,_⟩:=h;rfl
 .obtain ⟨rfl,_⟩:=h;rfl
 .exact h.elim
def Sl.len{H:ar}{size:Nat}{v:AV}{n:Nat}{cells:List AV}(h:Sl H size v n cells):Op.dp [v]=B1 (.int .i64 n):=by
 obtain⟨_,h⟩:=h;split at h
 .subst h;rfl
 .obtain ⟨rfl,_⟩:=h;rfl
 .obtain ⟨rfl,_⟩:=h;rfl
 .obtain ⟨rfl,_⟩:=h;rfl
 .exact h.elim
def Mc{z:Int}{i n:Nat}(c:z=i)(h:i<n):within z n=B1 i:=by
 subst c;show cond (Pk i n) (B1 i) B5=B1 i;have:Pk i n=true:=by simpa[vX]using h
 rw[this];rfl
def GH{i j:Nat}(h:i≠j):J8 i j=false:=by
 cases q:J8 i j with
 |false=>rfl
 |true=>exact(h (I6 q)).elim
def Fz{i n:Nat}(h:i<n):Pk i n=true:=by simpa[vX]using h
def y8{i n:Nat}(h:i<=n):OZ i n=true:=by simpa using h
def Sl.idx{H:ar}{size:Nat}{v:AV}{n:Nat}{cells:List AV}(h:Sl H size v n cells){i:Nat}(d:i<n){z:Int}(g:z=i)(k:PD) :
 Op.aT size [v,.int k z]=B1 (.ptr (aD v) (cM size v i)):=by
 obtain⟨hl,h⟩:=h;split at h
 .omega
 .rename_i b o m c;obtain⟨rfl,p,h⟩:=h;have f:=Fz d;simp[Op.aT,Am.fI,Mc g d,elemAt,f,aD,cM]
 .rename_i b j m s alt k;obtain⟨rfl,rfl,hm,h⟩:=h;have f:=Fz d;have l:=Fz (show j+i<m by omega);simp[Op.aT,Am.fI,Mc g d,elemAt,f,l,aD,cM]
 .omega
 .exact h.elim
def Jm{α:Type}{l r:List α}{o n:Nat}(h:fP l o n=B1 r):n<=l.length-o/\r=(l.drop o).take n:=by
 rw[sV]at h;split at h
 .rename_i hn;injection h with h;exact⟨hn,h.symm⟩
 .cases h
def Sl.at{H:ar}{size:Nat}{v:AV}{n:Nat}{cells:List AV}(g:0<size)(h:Sl H size v n cells){i:Nat}(p:i<n) :
 aD v<H.au /\ ∃all,H.bQ (aD v)=B1 all/\cM size v i+size<=all.length /\ ∀j,j<size->all[cM size v i+j]? = cells[i*size+j]?:=by
 obtain⟨hl,h⟩:=h;have t:0<n*size:=Nat.mul_pos (by omega) g;have u:i*size+size<=n*size:=by rw[<-vO];exact jk _ p
 split at h
 .omega
 .rename_i b o m c;obtain⟨rfl,w,h⟩:=h;rcases h with h|⟨hb,all,d,f⟩
  .omega
  obtain⟨l,rfl⟩:=Jm f;refine⟨hb,all,d,?_,λ j r=>?_⟩
  .simp only[cM];simp at hl;omega
  .simp only[cM];rw[yv,xb (by omega),yu];congr 1;omega
 .rename_i b q m s alt k;obtain⟨rfl,rfl,hm,h⟩:=h;rcases h with h|⟨hb,all,d,f⟩
  .omega
  obtain⟨l,rfl⟩:=Jm f;refine⟨hb,all,d,?_,λ j r=>?_⟩
  .simp only[cM];simp at hl;omega
  .simp only[cM];rw[yv,xb (by omega),yu];congr 1;omega
 .omega
 .exact h.elim
def Sl.fr{H H':ar}{W:Nat->Prop}{size:Nat}{v:AV}{n:Nat}{cells:List AV}(h:Sl H size v n cells)(f:Fr W H H')(hw:n=0 \/ ¬W (aD v)):Sl H' size v n cells:=by
 obtain⟨hl,h⟩:=h;refine⟨hl,?_⟩;split at h
 .exact h
 .obtain ⟨d,g,c⟩:=h;refine⟨d,g,?_⟩;rcases c with c|⟨hb,all,c,i⟩
  .exact .inl c
  .rcases hw with hw|hw
   .exact .inl hw
   .exact .inr ⟨qn hb f.au,all,by rw[f.cells hb hw];exact c,i⟩
 .obtain ⟨d,g,j,c⟩:=h;refine⟨d,g,j,?_⟩;rcases c with c|⟨hb,all,c,i⟩
  .exact .inl c
  .rcases hw with hw|hw
   .exact .inl hw
   .exact .inr ⟨qn hb f.au,all,by rw[f.cells hb hw];exact c,i⟩
 .exact ⟨h.1,qn h.2 f.au⟩
 .exact h.elim
def Sl.em{H H':ar}{size:Nat}{v:AV}{n:Nat}{cells:List AV}(h:Sl H size v n cells)(f:Fr Em H H'):Sl H' size v n cells:=h.fr f (.inr id)
def Sl.first{H:ar}{size:Nat}{v:AV}{n:Nat}{cells:List AV}(h:Sl H size v n cells):firstCells H size n v=B1 cells:=by
 obtain⟨hl,h⟩:=h;split at h
 .subst h;simp at hl;subst hl;rfl
 .rename_i b o m c;obtain⟨rfl,j,h⟩:=h;rcases h with rfl|⟨hb,all,d,f⟩
  .simp at hl;subst hl;rfl
  .by_cases hn:m=0
   .subst hn;simp at hl;subst hl;rfl
   .have:J8 m 0=false:=GH hn;simp only[firstCells,this,zo,ar.aw,d,qr,f]
 .rename_i b i m s alt k;obtain⟨rfl,rfl,hm,h⟩:=h;rcases h with rfl|⟨hb,all,d,f⟩
  .simp at hl;subst hl;rfl
  .by_cases hn:k=0
   .subst hn;simp at hl;subst hl;rfl
   .have:J8 k 0=false:=GH hn;have g:=Fz (show i<m by omega);simp[firstCells,this,g,ar.aw,d,f]
 .obtain ⟨rfl,_⟩:=h;simp at hl;subst hl;rfl
 .exact h.elim
def bM{α:Type}(enc:α->List AV)(size:Nat)(H:ar)(v:AV)(xs:List α):Prop:=Sl H size v xs.length (xs.flatMap enc)
section
variable{α:Type}{enc:α->List AV}{size:Nat}{H H':ar}{v:AV}{xs:List α}
def bM.len(h:bM enc size H v xs):Op.dp [v]=B1 (.int .i64 xs.length):=Sl.len h
def bM.fr{W:Nat->Prop}(h:bM enc size H v xs)(f:Fr W H H')(hw:¬W (aD v)):bM enc size H' v xs:=Sl.fr h f (.inr hw)
def bM.em(h:bM enc size H v xs)(f:Fr Em H H'):bM enc size H' v xs:=Sl.em h f
def Jj(hs:∀x,(enc x).length=size):∀(xs:List α){i:Nat}{x:α},xs[i]? = B1 x -> ∀{j:Nat},j<size->(xs.flatMap enc)[i*size+j]? = (enc x)[j]?
 |[],i,x,h,j,hj=>by simp at h
 |y::ys,0,x,h,j,hj=>by
  simp at h;subst h;rw[j0,jw (by rw[hs];omega)];simp
 |y::ys,i+1,x,h,j,hj=>by
  simp only[zp]at h;rw[j0,zw (by rw[hs,vO];omega),hs,<-Jj hs ys h hj];congr 1;rw[vO];omega
def Fv{i:Nat}{x:α}(h:xs[i]? = B1 x):i<xs.length:=(qo.1 h).1
def bM.idx(h:bM enc size H v xs){i:Nat}{x:α}(c:xs[i]? = B1 x){z:Int}(d:z=i)(k:PD):Op.aT size [v,.int k z]=B1 (.ptr (aD v) (cM size v i)) :=
 Sl.idx h (Fv c) d k
def bM.ah(hs:∀x,(enc x).length=size)(h:bM enc size H v xs){i:Nat}{x:α}(d:xs[i]? = B1 x){j:Nat}(c:j<size):Op.ah [.ptr (aD v) (cM size v i+j)] H=(enc x)[j]?:=by
 obtain⟨_,all,f,l,g⟩:=Sl.at (by omega) h (Fv d);rw[zg f,g j c,Jj hs xs d c]
def bM.jA(hs:∀x,(enc x).length=size)(h:bM enc size H v xs){i:Nat}{x:α}(d:xs[i]? = B1 x)(c:0<size):Op.ah [.ptr (aD v) (cM size v i)] H=(enc x)[0]?:=h.ah hs d c
def bM.aw(hs:∀x,(enc x).length=size)(d:0<size)(h:bM enc size H v xs){i:Nat}{x:α}(f:xs[i]? = B1 x):Op.aw size [.ptr (aD v) (cM size v i)] H=B1 (.agg (enc x)):=by
 obtain⟨_,all,g,l,m⟩:=Sl.at d h (Fv f);rw[tD g l];congr 2;refine yr λ j=>?_
 by_cases c:j<size
 .rw [yv,xb c,yu,m j c,Jj hs xs f c]
 .rw [z4 (by simp;omega),z4 (by rw[hs];omega)]
end
def Own(H:ar)(e size:Nat)(v:AV)(n:Nat)(cells:List AV):Prop :=
 cells.length=n*size/\(n=0/\(v=.nils \/ ∃b,v=.slice b 0 0 0/\b<H.au) \/ ∃b,v=.gslice b 0 n size 0 n/\b<H.au/\H.get b=B1 (.grown n size cells e (0,0)))
def aM(v:AV):Nat->Prop:=λ x=>v≠ .nils/\x=aD v
def Own.nil(H:ar)(e size:Nat):Own H e size .nils 0 []:=⟨by simp,.inl ⟨rfl,.inl rfl⟩⟩
def Own.sl{H:ar}{e size:Nat}{v:AV}{n:Nat}{cells:List AV}(h:Own H e size v n cells):Sl H size v n cells:=by
 obtain⟨hl,⟨rfl,rfl|⟨b,rfl,hb⟩⟩|⟨b,rfl,c,d⟩⟩:=h
 .exact ⟨hl,rfl⟩
 .exact ⟨hl,rfl,qm _,.inl rfl⟩
 .refine ⟨hl,rfl,rfl,by omega,.inr ⟨c,cells,UW d,?_⟩⟩;rw[sV,xb (by simp[hl])];simp[<-hl]
def Own.fr{H H':ar}{W:Nat->Prop}{e size:Nat}{v:AV}{n:Nat}{cells:List AV}(h:Own H e size v n cells)(f:Fr W H H')(hw:∀x,aM v x -> ¬W x):Own H' e size v n cells:=by
 obtain⟨hl,⟨c,h|⟨b,rfl,hb⟩⟩|⟨b,rfl,d,g⟩⟩:=h
 .exact ⟨hl,.inl ⟨c,.inl h⟩⟩
 .exact ⟨hl,.inl ⟨c,.inr ⟨b,rfl,qn hb f.au⟩⟩⟩
 .exact ⟨hl,.inr ⟨b,rfl,qn d f.au,by rw[f.ai b d (hw b ⟨by simp,rfl⟩)];exact g⟩⟩
def Own.em{H H':ar}{e size:Nat}{v:AV}{n:Nat}{cells:List AV}(h:Own H e size v n cells)(f:Fr Em H H'):Own H' e size v n cells:=h.fr f λ _ _ h=>h
def Own.lt{H:ar}{e size:Nat}{v:AV}{n:Nat}{cells:List AV}(h:Own H e size v n cells):∀x,aM v x->x<H.au:=by
 rintro x ⟨c,rfl⟩;obtain⟨hl,⟨d,h|⟨b,rfl,hb⟩⟩|⟨b,rfl,c,f⟩⟩:=h
 .exact (c h).elim
 .exact hb
 .exact c
def Sl.one{H:ar}{size:Nat}{v:AV}{n:Nat}{cells:List AV}(h:Sl H size v n cells):aA v=true:=by
 obtain⟨_,h⟩:=h;cases v<;>first|rfl|exact h.elim
def S7{n bytes:Nat}(c:n*bytes<=140737488355328)(d:n<=140737488355328):fits n bytes=true:=by
 simp[fits,c,d]
def q7z{H:ar}{e size bytes:Nat}{v:AV}{n:Nat}{cells:List AV}(h:Own H e size v n cells){x:AV}{k:Nat}{new:List AV}(p:Sl H size x k new)(g:aS new=B4)(hs:0<size)
 (u:(n+k)*bytes<=140737488355328) (l:n+k<=140737488355328) {K:Bool->AV->ar->Prop} {m:Bool}
 (hk:∀q H',Own H' e size q (n+k) (cells++new)->Fr (aM v) H H'->(∀b,aM q b->aM v b\/H.au<=b)->K aI q H'):tX m (Op.append e size bytes [v,x] H) K:=by
 have c:=S7 u l;have hlen:new.length=k*size:=p.1;have f:=Fz hs;have e1:∀n,J8 n n=true:=λ n=>by simp
 simp only[Op.append,p.fI,p.first,qr,g,xv];obtain⟨hl,⟨rfl,rfl|⟨b,rfl,hb⟩⟩|⟨b,rfl,s,r⟩⟩:=h
 .simp only[wh,jf]at hl;subst hl
  by_cases d:k=0
  .subst d;simp at hlen;subst hlen;exact hk .nils H (Own.nil H e size) (Fr.refl H) λ b hb=>.inl hb
  .have i:J8 k 0=false:=GH d;simp only[df,i,zo,yf]at c⊢;simp only[c,f,jp,xv,dD,tX];refine hk _ _ ⟨by simpa using hlen,.inr ⟨H.au,by simp,by rw[xz];omega,?_⟩⟩ ((Fr.refl H).alloc _) λ b hb=>.inr (by rw[hb.2];exact qm _);rw[ar.bO,xb rfl];simp
 .simp only[wh,jf]at hl;subst hl
  by_cases d:k=0
  .subst d;simp at hlen;subst hlen;simp only[df,vc,y8 (qm 0),xv,e1,tX];exact hk _ H ⟨by simp,.inl ⟨rfl,.inr ⟨b,rfl,hb⟩⟩⟩ (Fr.refl H) λ b hb=>.inl hb
  .have i:J8 k 0=false:=GH d;have j:OZ k 0=false:=by cases o:OZ k 0 with|false=>rfl|true=>rw[uh]at o;omega
   have t:firstCells H size 0 (.slice b 0 0 0)=B1 []:=rfl;simp only[df,yf,j,zo]at c⊢;simp only[c,y8 (x9 k),f,jp,xv,t,qr,py,z7,dD,tX];refine hk _ _ ⟨by simpa using hlen,.inr ⟨H.au,by simp,by rw[xz];omega,?_⟩⟩ ((Fr.refl H).alloc _) λ b hb=>.inr (by rw[hb.2];exact qm _);rw[ar.bO,xb rfl];simp
 .by_cases d:k=0
  .subst d;simp at hlen;subst hlen;simp only[df,J8,xv,yf,y8 (qm n),tX];refine hk _ _ ⟨by simpa using hl,.inr ⟨b,rfl,s,by simpa using r⟩⟩ (Fr.refl H) λ b hb=>.inl hb
  .have i:J8 k 0=false:=GH d;have j:OZ (0+n+k) n=false:=by cases o:OZ (0+n+k) n with|false=>rfl|true=>rw[uh]at o;omega
   simp only[df,i,zo,e1,yf,y8 (qm n),f,jp,xv]at j⊢;simp only[j,zo,c,xv,r,e1,jp,J8,y8 (x9 (n*size)),dD,tX];refine hk _ _ ⟨by simp[hl,hlen,ye],.inr ⟨H.au,by simp[Iv],by rw[xz,Iv];omega,?_⟩⟩ (((Fr.refl H).kill (.inl ⟨by simp,rfl⟩)).alloc _) λ b hb=>.inr (by rw[hb.2];exact qm _);rw[ar.bO,Iv,xb rfl,py]
def Xt(e n:Nat)(zero:List AV)(v:AV)(d:zero.length=n)(c:v.cells.length=n):Op.buildSlice e 1 zero [(0,n)] [v]=B1 (.row v.cells e (0,0) B4,Op.sliceTo 1 1):=by
 have e1:∀n,J8 n n=true:=λ n=>by simp
 simp only[Op.buildSlice,gf,py,zn,jH,Ij,c,e1,xv,Fy,yf,d,xb (qm n),kz,z7,qr];rw[jo (by omega)];simp
def DK{H:ar}{size e:Nat}{cells:List AV}(c:cells.length=size):Sl (H.alloc (.row cells e (0,0) B4)) size (Op.sliceTo 1 1 H.au) 1 cells:=by
 refine⟨by simp[c],rfl,qm 1,.inr ⟨by rw[xz];omega,cells,xe (by rw[ar.bO,xb rfl]),?_⟩⟩;rw[sV,xb (by simp[c])];simp[<-c]
def HH{H:ar}{e size bytes:Nat}{v:AV}{n:Nat}{cells:List AV}(h:Own H e size v n cells){zero:List AV}{x:AV}(t:zero.length=size)(l:x.cells.length=size)(d:aS x.cells=B4)(hs:0<size)
 (s:(n+1)*bytes<=140737488355328) (i:n+1<=140737488355328) {K:bF->(Nat->AV)->Bool->AV->ar->Prop} {m:Bool}
 (hk:∀f H',Own H' e size f (n+1) (cells++x.cells)->Fr (aM v) H H'->(∀b,aM f b->aM v b\/H.au<=b)->K (.row x.cells e (0,0) B4) (Op.sliceTo 1 1) aI f H') :
 tX m (Op.buildSlice e 1 zero [(0,size)] [x]) λ g o mk=>tX g (Op.append e size bytes [v,mk H.au] (H.alloc o)) (K o mk):=by
 rw[Xt e size zero x t l];have c:Fr Em H (H.alloc (.row x.cells e (0,0) B4)):=(Fr.refl H).alloc _;refine tX.intro rfl ?_;refine q7z (m:=aI) (h.em c) (DK l) d hs s i λ f H' p j r=>hk f H' p ?_ λ b hb=>?_
 .exact ⟨zd c.au j.au,λ b hb hw=>by rw[j.ai b (qn hb c.au) hw,c.ai b hb (λ q=>q)]⟩
 .exact (r b hb).imp id λ q=>zd c.au q
def KX.intro{W:St->cH->Prop}{ai:Option (List Nat)}{st:St}{Q:cH}(I:Nat->St->Prop)(n:Nat)(d:I n st)
 (h:∀n st,I n st->W (kZ ai st) λ e c=>match e with
  | .normal=>∃m,m<n/\I m c
  |e=>Q e c):KX W ai st Q:=⟨I,⟨n,d⟩,h⟩
end Go.Am
namespace Go.Am
def GR(H:ar)(tm:T AV)(t:Nat)(rs:List eE):ep H tm (.tmp t::rs)=(tm.get t).bind λ v=>(ep H tm rs).bind λ vs=>B1 (v::vs):=rfl
def xm1(H:ar)(tm:T AV)(t:Nat)(rs:List eE):ep H tm (.lC t::rs)=(((tm.get t).bind λ v=>Op.ah [v] H)).bind λ v=>(ep H tm rs).bind λ vs=>B1 (v::vs):=by
 simp only[ep,NB];congr 1;cases tm.get t with
 |none=>rfl
 |some v=>cases v<;>rfl
def xm2(H:ar)(tm:T AV)(n t:Nat)(rs:List eE):ep H tm (.dg n t::rs)=(((tm.get t).bind λ v=>Op.aw n [v] H)).bind λ v=>(ep H tm rs).bind λ vs=>B1 (v::vs):=by
 simp only[ep,NB];congr 1;cases tm.get t with
 |none=>rfl
 |some v=>cases v<;>rfl
def Zs(v:AV):jE [v]=v:=rfl
def VP:jE []=.tuple []:=rfl
def Zi(a b:AV)(l:List AV):jE (a::b::l)=.tuple (a::b::l):=rfl
def PF(b:Nat):Op.ptrTo b=.ptr b 0:=rfl
def TI(t:aU)(x y:AV)(H:ar)(q:Bool)(h:aX t x y=B1 q):Op.eq (.agg t) B4 [x,y] H=B1 (.bool (!q)):=by simp[Op.eq,JI,h]
def ad1(t:aU)(x y:AV)(H:ar)(q:Bool)(h:aX t x y=B1 q):Op.eq (.agg t) B2 [x,y] H=B1 (.bool q):=by simp[Op.eq,JI,h]
structure eF where
 kind:Int
 time:Int
 core:Int
 block:Int
 XR:Int
 lane:Int
 addr:Int
 value:Int
 code:Int
deriving DecidableEq
def eF.enc(x:eF):List AV:=[.int .i64 x.kind,.int .i64 x.time,.int .i64 x.core,.int .i64 x.block,.int .i64 x.XR,.int .i64 x.lane,.int .i64 x.addr,.int .u64 x.value,.int .i64 x.code]
def eF.len(x:eF):x.enc.length=9:=rfl
def PH(a b:Int):u7 a b=decide (a=b):=by rw[DG];rfl
end Go.Am
namespace Go.Am
def T.tR{α:Type}(v c:Option α):∀(p:List Bool)(t:T α),T.fN v p (T.fN c p t)=T.fN v p t
 |[],t=>rfl
 |b::p,t=>by cases b<;>simp[T.fN,T.l,T.r,T.val,T.tR v c p]
def N2(H:ar)(o o':bF):(H.alloc o).set H.au o'=H.alloc o':=by
 simp only[ar.alloc,ar.set,T.set,T.put,T.tR]
def xr(H:ar)(o:bF):(H.alloc o).get H.au=B1 o:=by rw[ar.bO,xb rfl]
def cI(H:ar)(o:bF):∃Z,Z=H.alloc o/\Fr Em H Z/\Z.au=H.au+1/\Z.get H.au=B1 o:=⟨_,rfl,(Fr.refl H).alloc _,xz ..,xr ..⟩
def xF{H:ar}{b:Nat}(h:b<H.au)(o:bF):(H.alloc o).get b=H.get b:=by rw[ar.bO,qv (by omega)]
def xg(H:ar)(b:Nat)(o:bF):(H.set b o).get b=B1 o:=by rw[ar.aK,xb rfl]
def jv{H:ar}{b c:Nat}(h:b≠c)(o:bF):(H.set b o).get c=H.get c:=by rw[ar.aK,qv h]
def wF{H:ar}{b:Nat}{c:List AV}{e:Nat}(h:H.get b=B1 (.row c e (0,0) B4)){o n:Nat}{v:AV}(d:v.cells.length=n)(hn:o+n<=c.length)(f:aS v.cells=B4) :
 Op.store n [.ptr b o,v] H=B1 (.undef,H.set b (.row (c.take o++v.cells++c.drop (o+n)) e (0,0) B4)):=by
 have e1:∀n,J8 n n=true:=λ n=>by simp
 simp only[Op.store,Ij,d,e1,xv,ar.store,f,h];have:eI (0,0) o n=true:=by simp[eI]
 simp only[this,xv,Fy,d,xb hn,qr]
def q6e{H:ar}{b m s:Nat}{c:List AV}{e:Nat}(h:H.get b=B1 (.grown m s c e (0,0))){o n:Nat}{v:AV}(d:v.cells.length=n)(hn:o+n<=c.length)(f:aS v.cells=B4) :
 Op.store n [.ptr b o,v] H=B1 (.undef,H.set b (.grown m s (c.take o++v.cells++c.drop (o+n)) e (0,0))):=by
 have e1:∀n,J8 n n=true:=λ n=>by simp
 simp only[Op.store,Ij,d,e1,xv,ar.store,f,h];have:eI (0,0) o n=true:=by simp[eI]
 simp only[this,xv,Fy,d,xb hn,qr]
def mn(H:ar)(c:List AV)(e:Nat)(fz:Nat×Nat)(ow:Bool)(n:Nat)(hn:c.length=n):Op.aw n [.ptr H.au 0] (H.alloc (.row c e fz ow))=B1 (.agg c):=by
 rw[tD (xe (xr H _)) (by omega)];simp[<-hn]
def aL{α:Type}(enc:α->List AV)(e size:Nat)(H:ar)(v:AV)(xs:List α):Prop:=Own H e size v xs.length (xs.flatMap enc)
structure AN{α:Type}(enc:α->List AV)(e size:Nat)(H0 H:ar)(v:AV)(xs:List α):Prop where
 own:aL enc e size H v xs
 fr:Fr Em H0 H
 fresh:∀b,aM v b->H0.au<=b
section
variable{α:Type}{enc:α->List AV}{e size:Nat}{H0 H H':ar}{v:AV}{xs:List α}
def bM.one(h:bM enc size H v xs):aA v=true:=Sl.one h
def AN.nil(H:ar):AN enc e size H H .nils ([]:List α):=⟨Own.nil H e size,Fr.refl H,λ b h=>(h.1 rfl).elim⟩
def AN.sl(h:AN enc e size H0 H v xs):bM enc size H v xs:=Own.sl h.own
def aL.sl(h:aL enc e size H v xs):bM enc size H v xs:=Own.sl h
def AN.em(h:AN enc e size H0 H v xs)(f:Fr Em H H'):AN enc e size H0 H' v xs:=⟨Own.em h.own f,h.fr.em f,h.fresh⟩
def AN.len(h:AN enc e size H0 H v xs):Op.dp [v]=B1 (.int .i64 xs.length):=h.sl.len
def AN.step(h:AN enc e size H0 H v xs){c:AV}{ys:List α}(d:aL enc e size H' c ys)(f:Fr (aM v) H H')(g:∀b,aM c b->aM v b\/H.au<=b):AN enc e size H0 H' c ys :=
 ⟨d,h.fr.trans f λ x i=>.inr (h.fresh x i),λ b hb=>(g b hb).elim (h.fresh b) λ q=>zd h.fr.au q⟩
def Uz{f:α->List AV}(hs:∀x,(f x).length=size):∀(xs:List α){i:Nat}{x:α},xs[i]? = B1 x -> ∀(y:α),(xs.set i y).flatMap f=(xs.flatMap f).take (i*size)++f y++(xs.flatMap f).drop (i*size+size)
 |[],i,x,h,y=>by simp at h
 |z::zs,0,x,h,y=>by
  simp at h;subst h;simp only[List.set_cons_zero,j0,wh,kz,z7,yf];rw[vy (by rw[hs];omega),jo (by rw[hs];omega),z7]
 |z::zs,i+1,x,h,y=>by
  simp only[zp]at h;have e1:(f z++zs.flatMap f).take ((i+1)*size)=f z++(zs.flatMap f).take (i*size):=by
   rw[show(i+1)*size=(f z).length+i*size from by rw[hs,vO];omega,Uy]
  have e2:(f z++zs.flatMap f).drop ((i+1)*size+size)=(zs.flatMap f).drop (i*size+size):=by
   rw[show(i+1)*size+size=(f z).length+(i*size+size)from by rw[hs,vO];omega,Rj]
  rw[List.set_cons_succ,j0,j0,Uz hs zs h y,e1,e2];simp only[jb]
def Ih(hs:∀x,(enc x).length=size)(l:List α):(l.flatMap enc).length=l.length*size:=by
 induction l with
 |nil=>simp
 |cons a l ih=>rw[j0,xc,hs,ih,zr,vO];omega
def lh{L E:List AV}{c j:Nat}{u:AV}(i:E.length=size)(l:j<size)(hk:c+size<=L.length)(h:∀r,r<size->L[c+r]? = E[r]?) :
 L.take c++E.set j u++L.drop (c+size)=L.set (c+j) u:=by
 refine yr λ k=>?_;have g:(L.take c).length=c:=by rw[zx];omega
 rw[jb,List.getElem?_set];rcases xw k c with q|q
 .rw [jw (by omega),yv,xb q,qv (by omega)]
 .rw [zw (by omega),g];obtain⟨r,rfl⟩:∃r,k=c+r:=⟨k-c,by omega⟩
  rw[show c+r-c=r from by omega];rcases xw r size with f|f
  .rw [jw (by rw[xq];omega),List.getElem?_set]
   by_cases d:j=r
   .subst d;rw[xb rfl,xb rfl,xb (by omega),xb (by omega)]
   .rw [qv d,qv (by omega),h r f]
  .rw [zw (by rw[xq];omega),xq,yu,qv (by omega)];congr 1;omega
def aL.Au(hs:∀x,(enc x).length=size)(h:aL enc e size H v xs){i:Nat}{x y:α}(c:xs[i]? = B1 x){j:Nat}(p:j<size){u:AV}(hu:aA u=B4)(q:enc y=(enc x).set j u) :
 ∃H',Op.store 1 [.ptr (aD v) (cM size v i+j),u] H=B1 (.undef,H')/\aL enc e size H' v (xs.set i y)/\Fr (aM v) H H':=by
 obtain⟨hl,h|⟨b,rfl,g,l⟩⟩:=h
 .rw [jf.1 h.1]at c;simp at c
 .have m:=Fv c;have hb:(i+1)*size<=xs.length*size:=jk _ m;rw[vO]at hb;have d:u.cells=[u]:=by cases u<;>first|rfl|cases hu
  have f:=q6e l (o:=i*size+j) (n:=1) (v:=u) (by rw[d];rfl) (by omega) (by rw[d,vk];simpa using hu);have ho:cM size (AV.gslice b 0 xs.length size 0 xs.length) i=i*size:=by simp[cM]
  rw[ho];refine⟨_,f,⟨?_,.inr ⟨b,?_,g,?_⟩⟩,(Fr.refl H).set (.inl ⟨by simp,rfl⟩) _⟩
  .rw [xq,Ih hs,xq]
  .rw [xq]
  .rw [xq,xg,Uz hs xs c,q,d,lh (L:=xs.flatMap enc) (E:=enc x) (hs x) p (by omega) (λ r hr=>Jj hs xs c hr),List.set_eq_take_append_cons_drop,xb (by omega)];simp
end
abbrev OR(c:List AV)(e:Nat):bF:=.row c e (0,0) B4
end Go.Am
namespace Go.Am
def wv{k mx d:Nat}{z:Int}(c:z=k)(h:k<=mx)(kk:PD):bound (B1 (.int kk z)) d mx=B1 k:=by
 subst c;show cond (OZ k mx) (B1 k) B5=B1 k;rw[y8 h];rfl
def Sl.from{H:ar}{size:Nat}{v:AV}{n:Nat}{cells:List AV}(h:Sl H size v n cells){k:Nat}(hk:k<=n){z:Int}(l:z=k)(kk:PD) :
 ∃p,Op.aC size [B1 0,B5,B5] [v,.int kk z]=B1 p/\Sl H size p (n-k) (cells.drop (k*size))/\(p=.nils\/aD p=aD v):=by
 obtain⟨hl,h⟩:=h;have hlen:(cells.drop (k*size)).length=(n-k)*size:=by rw[jg,hl,Mw]
 have x:k*size<=n*size:=jk _ hk;have f:(n-k)*size=n*size-k*size:=Mw n k size;split at h
 .subst h;have:k=0:=by omega
  subst this;refine⟨.nils,?_,⟨hlen,rfl⟩,.inl rfl⟩;have j:bound B5 0 0=B1 0:=rfl;simp[Op.aC,arg,kD,dC,j,wv l (qm 0)]
 .rename_i b o m c;obtain⟨rfl,C,h⟩:=h;have g:∀d m,bound B5 d m=B1 d:=λ _ _=>rfl;refine⟨.slice b (cond (J8 c k) o (o+k*size)) (m-k) (c-k),by simp[Op.aC,arg,kD,dC,g,wv l hk],⟨hlen,rfl,by omega,?_⟩,.inr rfl⟩;rcases h with h|⟨hb,all,r,t⟩
  .left;omega
  .by_cases he:c=k
   .left;omega
   .right;obtain⟨w,rfl⟩:=Jm t;refine⟨hb,all,r,?_⟩;rw[GH he,zo,sV,xb (by omega),List.drop_take,AF];simp[f]
 .rename_i b i m s alt q;obtain⟨rfl,rfl,hm,h⟩:=h;have e1:∀n,J8 n n=true:=λ n=>by simp
  have g:∀d m,bound B5 d m=B1 d:=λ _ _=>rfl;have y:=y8 (show q<=m-i by omega);have u:=y8 (show i<=m by omega);refine⟨.gslice b (i+k) m s (cond (J8 k 0) alt (i*s)) (q-k),by simp only[Op.aC,arg,kD,ja,qr,dC,g,wv l hk,e1,u,y,jp,xv],⟨hlen,rfl,rfl,by omega,?_⟩,.inr rfl⟩;rcases h with h|⟨hb,all,r,t⟩
  .left;omega
  .right;obtain⟨w,rfl⟩:=Jm t;refine⟨hb,all,r,?_⟩;rw[sV,xb (by rw[ye];omega),List.drop_take,AF,ye];simp[f]
 .rename_i b;obtain⟨rfl,hb⟩:=h;have:k=0:=by omega
  subst this;have j:bound B5 0 0=B1 0:=rfl;refine⟨.eslice b,?_,⟨hlen,rfl,hb⟩,.inr rfl⟩;simp[Op.aC,arg,kD,dC,j,wv l (qm 0)]
 .exact h.elim
def Sl.upto{H:ar}{size:Nat}{v:AV}{n:Nat}{cells:List AV}(h:Sl H size v n cells){k:Nat}(hk:k<=n){z:Int}(l:z=k)(kk:PD) :
 ∃p,Op.aC size [B5,B1 0,B5] [v,.int kk z]=B1 p/\Sl H size p k (cells.take (k*size))/\(p=.nils\/aD p=aD v):=by
 obtain⟨hl,h⟩:=h;have j:k*size<=n*size:=jk _ hk;have hlen:(cells.take (k*size)).length=k*size:=by rw[zx,hl];omega
 split at h
 .subst h;have:k=0:=by omega
  subst this;refine⟨.nils,?_,⟨hlen,rfl⟩,.inl rfl⟩;have g:bound B5 0 0=B1 0:=rfl;simp[Op.aC,arg,kD,dC,g,wv l (qm 0)]
 .rename_i b o m c;obtain⟨rfl,C,h⟩:=h;have u:∀h,bound B5 0 h=B1 0:=λ h=>rfl;have f:∀d m,bound B5 d m=B1 d:=λ _ _=>rfl;refine⟨.slice b (cond (J8 c 0) o (o+0*size)) (k-0) (c-0),by simp only[Op.aC,arg,kD,ja,qr,dC,wv l (show k<=c by omega),u,f],⟨hlen,by omega,by omega,?_⟩,.inr rfl⟩;rcases h with h|⟨hb,all,r,t⟩
  .left;omega
  .right;obtain⟨x,rfl⟩:=Jm t;refine⟨hb,all,r,?_⟩;have:cond (J8 c 0) o (o+0*size)=o:=by cases J8 c 0<;>simp
   rw[this,sV,xb (by omega),List.take_take,LH j]
 .rename_i b i m s alt q;obtain⟨rfl,rfl,hm,h⟩:=h;have e1:∀n,J8 n n=true:=λ n=>by simp
  have f:∀d m,bound B5 d m=B1 d:=λ _ _=>rfl;have y:=y8 (show k<=m-i by omega);have w:=y8 (show i<=m by omega);refine⟨.gslice b (i+0) m s (cond (J8 0 0) alt (i*s)) (k-0),by simp only[Op.aC,arg,kD,ja,qr,dC,f,wv l (show k<=m-i by omega),e1,w,y,jp,xv],⟨hlen,by omega,rfl,by omega,?_⟩,.inr rfl⟩;rcases h with h|⟨hb,all,r,t⟩
  .left;omega
  .right;obtain⟨x,rfl⟩:=Jm t;refine⟨hb,all,r,?_⟩;rw[vc,sV,xb (by omega),List.take_take,LH j]
 .rename_i b;obtain⟨rfl,hb⟩:=h;have:k=0:=by omega
  subst this;have g:bound B5 0 0=B1 0:=rfl;refine⟨.eslice b,?_,⟨hlen,rfl,hb⟩,.inr rfl⟩;simp[Op.aC,arg,kD,dC,g,wv l (qm 0)]
 .exact h.elim
section
variable{α:Type}{enc:α->List AV}{size:Nat}{H H':ar}{v:AV}{xs:List α}
def VQ(hs:∀x,(enc x).length=size):∀(xs:List α)(k:Nat),(xs.flatMap enc).drop (k*size)=(xs.drop k).flatMap enc
 |[],k=>by simp
 |x::xs,0=>by simp
 |x::xs,k+1=>by
  rw[j0,show(k+1)*size=(enc x).length+k*size from by rw[hs,vO];omega,Rj,VQ hs xs k];rfl
def Yu(hs:∀x,(enc x).length=size):∀(xs:List α)(k:Nat),(xs.flatMap enc).take (k*size)=(xs.take k).flatMap enc
 |[],k=>by simp
 |x::xs,0=>by simp
 |x::xs,k+1=>by
  rw[j0,show(k+1)*size=(enc x).length+k*size from by rw[hs,vO];omega,Uy,Yu hs xs k];rfl
def bM.from(hs:∀x,(enc x).length=size)(h:bM enc size H v xs){k:Nat}(hk:k<=xs.length){z:Int}(i:z=k)(kk:PD) :
 ∃c,Op.aC size [B1 0,B5,B5] [v,.int kk z]=B1 c/\bM enc size H c (xs.drop k)/\(c=.nils\/aD c=aD v):=by
 obtain⟨c,d,f,g⟩:=Sl.from h hk i kk;refine⟨c,d,?_,g⟩;unfold bM;rw[jg,<-VQ hs];exact f
def bM.upto(hs:∀x,(enc x).length=size)(h:bM enc size H v xs){k:Nat}(hk:k<=xs.length){z:Int}(i:z=k)(kk:PD) :
 ∃c,Op.aC size [B5,B1 0,B5] [v,.int kk z]=B1 c/\bM enc size H c (xs.take k)/\(c=.nils\/aD c=aD v):=by
 obtain⟨c,d,f,g⟩:=Sl.upto h hk i kk;refine⟨c,d,?_,g⟩;unfold bM;rw[zx,LH hk,<-Yu hs];exact f
def gW(enc:α->List AV)(e size:Nat)(H:ar)(v:AV)(xs:List α):Prop:=∃b,v=.slice b 0 xs.length xs.length/\b<H.au/\H.get b=B1 (.row (xs.flatMap enc) e (0,0) B4)
def gW.sl{e:Nat}(hs:∀x,(enc x).length=size)(h:gW enc e size H v xs):bM enc size H v xs:=by
 obtain⟨b,rfl,c,d⟩:=h;refine⟨Ih hs xs,rfl,qm _,.inr ⟨c,_,xe d,?_⟩⟩;rw[sV,xb (by rw[Ih hs];omega),yt,zq (by rw[Ih hs];omega)]
def gW.fr{e:Nat}{W:Nat->Prop}(h:gW enc e size H v xs)(f:Fr W H H')(hw:¬W (aD v)):gW enc e size H' v xs:=by
 obtain⟨b,rfl,c,d⟩:=h;exact⟨b,rfl,qn c f.au,by rw[f.ai b c hw];exact d⟩
def gW.lt{e:Nat}(h:gW enc e size H v xs):aD v<H.au:=by
 obtain⟨b,rfl,c,d⟩:=h;exact c
def gW.Au{e:Nat}(hs:∀x,(enc x).length=size)(h:gW enc e size H v xs){i:Nat}{x y:α}(f:xs[i]? = B1 x){j:Nat}(p:j<size){u:AV}(hu:aA u=B4)(q:enc y=(enc x).set j u) :
 ∃H',Op.store 1 [.ptr (aD v) (cM size v i+j),u] H=B1 (.undef,H')/\gW enc e size H' v (xs.set i y)/\Fr (On (aD v)) H H':=by
 obtain⟨b,rfl,g,l⟩:=h;have m:=Fv f;have hl:=Ih hs xs;have hb:(i+1)*size<=xs.length*size:=jk _ m;rw[vO]at hb;have c:u.cells=[u]:=by cases u<;>first|rfl|cases hu
 have d:=wF l (o:=i*size+j) (n:=1) (v:=u) (by rw[c];rfl) (by omega) (by rw[c,vk];simpa using hu);have ho:cM size (AV.slice b 0 xs.length xs.length) i=i*size:=by simp[cM]
 rw[ho];refine⟨_,d,⟨b,?_,g,?_⟩,(Fr.refl H).set (W:=On b) (.inl rfl) _⟩
 .rw [xq]
 .rw [xg,Uz hs xs f,q,c,lh (L:=xs.flatMap enc) (E:=enc x) (hs x) p (by omega) (λ r hr=>Jj hs xs f hr),List.set_eq_take_append_cons_drop,xb (by omega)];simp
end
def iu(e bytes:Nat)(z:List AV)(n:Nat)(k k':PD)(h:n*bytes<=140737488355328)(i:n<=140737488355328) :
 Op.mkSlice e bytes z [.int k n,.int k' n]=B1 (.row (gf n z) e (0,0) B4,Op.sliceTo n n):=by
 have c:sY 0 (n:Int)=true:=by rw[HG];simp
 have d:sY (n:Int) n=true:=by rw[HG];simp
 have f:sY ((n:Int)*(bytes:Int)) 140737488355328=true:=by rw[HG];simp;omega
 have g:sY (n:Int) 140737488355328=true:=by rw[HG];simp;omega
 simp[Op.mkSlice,c,d,f,g]
end Go.Am
namespace Go.Am
def xga{tm:T AV}{x:bL}{K K':AV->Prop}(h:FW tm x K)(hk:∀v,K v->K' v):FW tm x K':=by
 have⟨v,d,f⟩:=h.elim;cases x with
 |tmp t=>simp only[rO]at d;simp only[FW,bR,d];exact hk v f
 |const c=>cases d;exact hk _ f
 |eJ c=>cases d;exact hk _ f
 |func c=>cases d;exact hk _ f
def Kc{tm:T AV}:∀{l:List bL}{K K':List AV->Prop},qN tm l K->(∀v,K v->K' v)->qN tm l K'
 |[],K,K',h,hk=>hk _ h
 | .tmp t::xs,K,K',h,hk=>by
  simp only[qN]at h⊢;unfold bR at h⊢;split at h
  .exact Kc h λ vs=>hk _
  .exact h.elim
 | .const v::xs,K,K',h,hk=>Kc (l:=xs) h λ vs=>hk _
 | .eJ v::xs,K,K',h,hk=>Kc (l:=xs) h λ vs=>hk _
 | .func v::xs,K,K',h,hk=>Kc (l:=xs) h λ vs=>hk _
def FI{α:Type}{m:Bool}{o:Option α}{K K':α->Prop}(h:bR m o K)(hk:∀a,K a->K' a):bR m o K':=by
 cases o with
 |none=>exact h
 |some a=>exact hk a h
def q7s{α β:Type}{m:Bool}{o:Option (α×β)}{K K':α -> β->Prop}(h:iU m o K)(hk:∀a b,K a b->K' a b):iU m o K':=by
 cases o with
 |none=>exact h
 |some a=>exact hk a.1 a.2 h
section
variable{AP:ao}
def S9{m:Bool}{f:mC}{vs:List AV}{H:ar}{K K':AV->ar->Prop}{E d:aH->ar->Prop}(h:oi AP m f vs H K E)(hk:∀v H,K v H->K' v H)(he:∀c H,E c H->d c H):oi AP m f vs H K' d:=by
 have⟨e,H',i,g⟩:=h;refine⟨e,H',i,?_⟩;cases e with
 |ret v=>exact hk _ _ g
 |panic c=>exact he _ _ g
def Q0{d:Option (List Nat)}{tm:T AV}{bj:List aQ}{up:Option aH}{Q Q':cH}(f:∀e st,Q e st->Q' e st)(c:aH)(H:ar)(h:AJ d tm bj up Q c H):AJ d tm bj up Q' c H:=by
 cases d with
 |none=>exact h
 |some ds=>exact f _ _ h
def xgc{ctx:Ctx}{dst:Option Nat}{g:Option (List Nat)}{st:St}{Q Q':cH}{K K':St->Prop}{vs:List AV}{op:fL}(h:pe AP ctx dst g st Q K vs op)(d:∀e st,Q e st->Q' e st)(hk:∀st,K st->K' st):pe AP ctx dst g st Q' K' vs op:=by
 cases op with
 |pure f=>exact FI (m:=aI) h λ _=>hk _
 |read f=>exact FI (m:=aI) h λ _=>hk _
 |alloc f=>simp only[pe]at h⊢;exact q7s h λ _ _=>hk _
 |gY f=>simp only[pe]at h⊢;exact q7s h λ _ _=>hk _
 |ir f=>exact S9 (m:=aI) h (λ _ _=>hk _) (Q0 d)
 |im =>
  simp only[pe,M7]at h⊢;split at h
  .exact S9 h (λ _ _=>hk _) (Q0 d)
  .exact S9 h (λ _ _=>hk _) (Q0 d)
  .exact h.elim
 |invoke n =>
  simp only[pe,Ng]at h⊢;split at h
  .exact FI h λ _ q=>S9 q (λ _ _=>hk _) (Q0 d)
  .exact h.elim
 |recover =>
  simp only[pe,yV]at h⊢;split at h
  .refine ⟨h.1,?_⟩;have c:=h.2;split at c<;>exact hk _ c
  .exact h.elim
 |defer =>
  simp only[pe,GB]at h⊢;refine⟨h.1,?_⟩;have c:=h.2;split at c
  .exact hk _ c
  .exact c.elim
 |panic =>
  simp only[pe,gE]at h⊢;split at h
  .exact Q0 d _ _ h
  .exact h.elim
def m0{ctx:Ctx}{s:aR}{st:St}{Q Q':cH}{K K':St->Prop}(h:qX AP ctx s st Q K)(c:∀e st,Q e st->Q' e st)(hk:∀st,K st->K' st):qX AP ctx s st Q' K':=by
 have⟨iq,dst,guard,args,op,d⟩:=s;cases iq with
 |false =>
  cases guard with
  |none=>exact Kc h λ _ q=>xgc q c hk
  |some g =>
   refine FI (m:=aI) h λ w q=>?_;cases w with
   |true=>exact Kc (K:=_) q λ _ q=>xgc q c hk
   |false=>exact hk _ q
 |true =>
  cases guard with
  |none=>exact Kc h λ _ q=>⟨q.1,hk _ q.2⟩
  |some g =>
   refine FI (m:=aI) h λ w q=>?_;cases w with
   |true=>exact Kc (K:=_) q λ _ q=>⟨q.1,hk _ q.2⟩
   |false=>exact⟨q.1,hk _ q.2⟩
def _1{ctx:Ctx}:∀{l:List aR}{st:St}{Q Q':cH},oJ AP ctx l st Q->(∀e st,Q e st->Q' e st)->oJ AP ctx l st Q'
 |[],st,Q,Q',h,hq=>hq _ _ h
 |s::rest,st,Q,Q',h,hq=>m0 h hq λ d c=>_1 c hq
def NK{ctx:Ctx}{st:St}{k:Nat}{H0:ar}{bj:List aQ}{d:Nat}{Q Q':cH}{v:AV}(h:mU AP ctx st k H0 bj d Q v)(i:∀e st,Q e st->Q' e st):mU AP ctx st k H0 bj d Q' v:=by
 unfold mU at h⊢;split at h
 .have ⟨e,H',j,g⟩:=h;refine⟨e,H',j,?_⟩;cases e with
  |panic c=>exact i _ _ g
  |ret v=>have⟨s,p,f,k,tm,d,l,m,o⟩:=g;exact⟨s,p,f,k,tm,d,l,m,i _ _ o⟩
 .exact h.elim
def pV{ctx:Ctx}:∀{c:aj}{st:St}{Q Q':cH},WP AP ctx c st Q->(∀e st,Q e st->Q' e st)->WP AP ctx c st Q'
 | .skip,st,Q,Q',h,hq=>hq _ _ h
 | .label _,st,Q,Q',h,hq=>hq _ _ h
 | .exit _,st,Q,Q',h,hq=>hq _ _ h
 | .goto _,st,Q,Q',h,hq=>hq _ _ h
 | .ret,st,Q,Q',h,hq=>hq _ _ h
 | .stuck,st,Q,Q',h,hq=>h.elim
 | .region l,st,Q,Q',h,hq=>_1 h hq
 | .seq a b,st,Q,Q',h,hq=>pV (c:=a) h λ e i g=>by
  cases e with
  |normal=>exact pV (c:=b) g hq
  |exit _=>exact hq _ _ g
  |goto _=>exact hq _ _ g
  |ret=>exact hq _ _ g
  |panic _=>exact hq _ _ g
 | .cond c a b,st,Q,Q',h,hq=>xga h λ v q=>FI (m:=aI) q λ w q=>by
  cases w with
  |true=>exact pV (c:=a) q hq
  |false=>exact pV (c:=b) q hq
 | .block id b,st,Q,Q',h,hq=>pV (c:=b) h λ e i g=>by cases e<;>exact hq _ _ g
 | .scope b,st,Q,Q',h,hq=>pV (c:=b) h λ e i g=>by
  cases e with
  |goto l=>exact⟨g.1,hq _ _ g.2⟩
  |normal=>exact hq _ _ g
  |exit _=>exact hq _ _ g
  |ret=>exact hq _ _ g
  |panic _=>exact hq _ _ g
 | .loop ai b,st,Q,Q',⟨I,h0,h⟩,hq=>⟨I,h0,λ n st j=>pV (c:=b) (h n st j) λ e i g=>by cases e<;>first|exact g|exact hq _ _ g⟩
 | .rangeFunc f k,st,Q,Q',h,hq=>xga h λ v q=>by
  unfold JR at q⊢;split at q
  .exact NK q hq
  .exact FI (m:=aI) q λ d q=>NK q hq
def gI:aZ->Prop
 | .exit _=>True
 | .goto _=>True
 | .ret=>True
 |_=>False
end
end Go.Am
namespace Go.Am
noncomputable section
abbrev aJ:=aZ->Env->List aQ->ar->Prop
def lk(E:Env)(t:Nat):Option AV:=A8 (motive:=λ _=>Option AV) B5 (λ p _ ih=>cond (J8 p.1 t) (B1 p.2) ih) E
def CO(t:Nat):lk [] t=none:=rfl
def wY(k t:Nat)(v:AV)(E:Env):lk ((k,v)::E) t=if k=t then B1 v else lk E t:=by
 show cond (J8 k t) (B1 v) (lk E t)=_;cases hb:J8 k t with
 |true=>rw[xb (I6 hb)];rfl
 |false=>rw[qv (OJ hb)];rfl
def bG(t:Nat)(l:List Nat):Bool:=A8 (motive:=λ _=>Bool) B2 (λ x _ ih=>cond (J8 x t) B4 ih) l
def gj(ks:List Nat)(E:Env)(tm:T AV):Prop:=∀t v,lk E t=B1 v->tm.get t=B1 v/\bG t ks=B4
def yJ:Env->Env->Prop
 |[],_=>True
 |(k,v)::r,E=>lk E k=B1 v/\yJ r E
def Ii(E:Env):yJ [] E=True:=rfl
def E9(k:Nat)(v:AV)(r E:Env):yJ ((k,v)::r) E=(lk E k=B1 v/\yJ r E):=rfl
def yJ.look:∀{A E:Env},yJ A E -> ∀{t:Nat}{v:AV},lk A t=B1 v->lk E t=B1 v
 |[],E,_,t,v,h=>by cases h
 |(k,w)::r,E,h,t,v,hl=>by
  rw[wY]at hl;split at hl
  .rename_i e;subst e;cases hl;exact h.1
  .exact yJ.look h.2 hl
def yJ.sub{ks:List Nat}{A E:Env}(h:yJ A E){tm:T AV}(he:gj ks E tm):gj ks A tm:=λ t v hl=>he t v (h.look hl)
def SS(A E:Env):Prop:=∀t v,lk A t=B1 v->lk E t=B1 v
def yJ.ss{A E:Env}(h:yJ A E):SS A E:=λ t v hl=>h.look hl
def SS.sub{ks:List Nat}{A E:Env}(h:SS A E){tm:T AV}(he:gj ks E tm):gj ks A tm:=λ t v hl=>he t v (h t v hl)
def B3{α:Type}(m:Bool)(o:Option α)(K:Bool -> α->Prop):Prop:=match o with
 |some a=>K m a
 |none=>False
def jN{α β:Type}(m:Bool)(o:Option (α×β))(K:Bool -> α -> β->Prop):Prop:=match o with
 |some a=>K m a.1 a.2
 |none=>False
def nC(m:Bool)(v:AV)(A B:Bool->Prop):Prop:=match v with
 | .bool q=>match q with
  |true=>A m
  |false=>B m
 |_=>False
def xI(m:Bool)(q:Bool)(A B:Bool->Prop):Prop:=match q with
 |true=>A m
 |false=>B m
def Oh(m:Bool)(o o':Option AV)(K:Bool->Prop):Prop:=(∃v,o=B1 v/\o'=B1 v)/\K m
def A3(m:Bool)(e:Nat)(z:List AV)(H:ar)(K:Bool->AV->ar->Prop):Prop:=K m (.ptr H.au 0) (H.alloc (.row z e (0,0) B4))
def JN{α:Type}(F:α->Prop)(K:α):Prop:=F K
def qM(m:Bool)(Q:aJ)(e:aZ)(E:Env)(D:List aQ)(H:ar):Prop:=Q e E D H
def Ig{α:Type}(a:α)(K:Bool -> α->Prop):B3 B4 (B1 a) K=K B4 a:=propext ki
def Dt{α β:Type}(a:α)(b:β)(K:Bool -> α -> β->Prop):jN B4 (B1 (a,b)) K=K B4 a b:=propext ki
def ad0(A B:Bool->Prop):nC B4 (.bool B4) A B=A true:=propext ki
def xj9(A B:Bool->Prop):nC B4 (.bool B2) A B=B true:=propext ki
def ah6(A B:Bool->Prop):xI B4 B4 A B=A true:=propext ki
def xka(A B:Bool->Prop):xI B4 B2 A B=B true:=propext ki
def Du(v:AV)(K:Bool->Prop):Oh B4 (B1 v) (B1 v) K=K true:=propext ⟨λ h=>h.2,λ h=>⟨⟨v,rfl,rfl⟩,h⟩⟩
def QX(e:Nat)(z:List AV)(H:ar)(K:Bool->AV->ar->Prop):A3 B4 e z H K=K B4 (.ptr H.au 0) (H.alloc (.row z e (0,0) B4)):=propext ki
def JB{α:Type}(F:α->Prop)(K:α):JN F K=F K:=propext ki
def Dp(Q:aJ)(e:aZ)(E:Env)(D:List aQ)(H:ar):qM B4 Q e E D H=Q e E D H:=propext ki
@[congr]def ac0{α:Type}{F:α->Prop}{K:α}:JN F K=JN F K:=rfl
@[congr]def ac6{α:Type}{m c:Bool}{o o':Option α}{K:Bool -> α->Prop}(hm:m=c)(h:o=o'):B3 m o K=B3 c o' K:=by subst hm;subst h;rfl
@[congr]def ab6{α β:Type}{m c:Bool}{o o':Option (α×β)}{K:Bool -> α -> β->Prop}(hm:m=c)(h:o=o'):jN m o K=jN c o' K:=by subst hm;subst h;rfl
@[congr]def ab2{m c:Bool}{v d:AV}{A B:Bool->Prop}(hm:m=c)(h:v=d):nC m v A B=nC c d A B:=by subst hm;subst h;rfl
@[congr]def ab8{m c:Bool}{v d:Bool}{A B:Bool->Prop}(hm:m=c)(h:v=d):xI m v A B=xI c d A B:=by subst hm;subst h;rfl
@[congr]def ab9{m c:Bool}{o o' p p':Option AV}{K:Bool->Prop}(hm:m=c)(h:o=o')(d:p=p'):Oh m o p K=Oh c o' p' K:=by subst hm;subst h;subst d;rfl
@[congr]def ac5{m c:Bool}{e:Nat}{z d:List AV}{H H':ar}{K:Bool->AV->ar->Prop}(hm:m=c)(h:z=d)(f:H=H'):A3 m e z H K=A3 c e d H' K:=by subst hm;subst h;subst f;rfl
def B3.elim{α:Type}{m:Bool}{o:Option α}{K:Bool -> α->Prop}(h:B3 m o K):∃a,o=B1 a/\K m a:=by
 cases o with
 |none=>exact NT h
 |some a=>exact⟨a,rfl,h⟩
def jN.elim{α β:Type}{m:Bool}{o:Option (α×β)}{K:Bool -> α -> β->Prop}(h:jN m o K):∃a b,o=B1 (a,b)/\K m a b:=by
 cases o with
 |none=>exact NT h
 |some a=>exact⟨a.1,a.2,rfl,h⟩
def LK.elim{α:Type}{m:Bool}{o:Option α}{K:Bool -> α->Prop}(h:LK m o K):∃a,o=B1 a/\K m a:=by
 cases o with
 |none=>exact NT h
 |some a=>exact⟨a,rfl,h⟩
def B3.intro{α:Type}{m:Bool}{o:Option α}{K:Bool -> α->Prop}{a:α}(h:o=B1 a)(hk:K m a):B3 m o K:=by subst h;exact hk
def jN.intro{α β:Type}{m:Bool}{o:Option (α×β)}{K:Bool -> α -> β->Prop}{a:α}{b:β}(h:o=B1 (a,b))(hk:K m a b):jN m o K:=by subst h;exact hk
def nC.cases{m:Bool}{q:Bool}{A B:Bool->Prop}(c:q=B4->A m)(d:q=B2->B m):nC m (.bool q) A B:=by
 cases q with
 |true=>exact c rfl
 |false=>exact d rfl
def xI.cases{m:Bool}{q:Bool}{A B:Bool->Prop}(c:q=B4->A m)(d:q=B2->B m):xI m q A B:=by
 cases q with
 |true=>exact c rfl
 |false=>exact d rfl
def nC.elim{m:Bool}{v:AV}{A B:Bool->Prop}(h:nC m v A B):∃q,v=.bool q/\(match q with|true=>A m|false=>B m):=by
 unfold nC at h;split at h
 .exact ⟨_,rfl,h⟩
 .exact h.elim
section
variable(M:ao)
structure Kp where
 ai:List Nat
 cX:Bool
 named:List Nat
def dJ(K:List Nat)(E L:Env):Env:=A8 (motive:=λ _=>Env) E (λ p _ ih=>cond (bG p.1 K) (p::ih) ih) L
def sT(ds:List Nat)(E:Env):Env:=A8 (motive:=λ _=>Env) [] (λ p _ ih=>cond (bG p.1 ds) ih (p::ih)) E
def lM(L:Env):List Nat:=A8 (motive:=λ _=>List Nat) [] (λ p _ ih=>p.1::ih) L
abbrev KR:=Bool->Env->Env->ar->Prop
def TV(E L R:Env)(t:Nat)(g:Bool)(K:Bool->Env->AV->Prop):Prop :=
 R3 (motive:=λ _=>Prop) (R3 (motive:=λ _=>Prop) (LK g (lk E t) λ g v=>K g ((t,v)::R) v) (λ v=>K g R v) (lk R t)) (λ v=>K g R v) (lk L t)
def zO(E L:Env)(l:List bL):Bool->Env->(Bool->Env->List AV->Prop)->Prop:=A8 (motive:=λ _=>Bool->Env->(Bool->Env->List AV->Prop)->Prop) (λ g R K=>K g R [])
 (λ x _ ih g R K=>bL.casesOn x (λ t=>TV E L R t g λ g R v=>ih g R λ g R vs=>K g R (v::vs)) (λ v=>ih g R λ g R vs=>K g R (v::vs)) (λ b=>ih g R λ g R vs=>K g R (.ptr b 0::vs)) (λ f=>ih g R λ g R vs=>K g R (.fn (.func f) [] []::vs))) l
def C3(m:Bool)(f:mC)(vs:List AV)(H:ar)(K:Bool->AV->ar->Prop):Prop:=∃v H',u9 M f vs H (.ret v) H'/\K m v H'
def P3(m:Bool)(X:aH->ar->Prop)(f:mC)(vs:List AV)(H:ar)(K:Bool->AV->ar->Prop):Prop:=∃e H',u9 M f vs H e H'/\match e with
 | .ret v=>K m v H'
 | .panic c=>X c H'
@[congr]def ac7{M:ao}{m d:Bool}{f f':mC}{vs c:List AV}{H H':ar}{K:Bool->AV->ar->Prop}(hm:m=d)(i:f=f')(h:vs=c)(g:H=H'):C3 M m f vs H K=C3 M d f' c H' K:=by subst hm;subst h;subst i;subst g;rfl
@[congr]def ac3{M:ao}{m d:Bool}{X:aH->ar->Prop}{f f':mC}{vs c:List AV}{H H':ar}{K:Bool->AV->ar->Prop}(hm:m=d)(i:f=f')(h:vs=c)(g:H=H'):P3 M m X f vs H K=P3 M d X f' c H' K:=by subst hm;subst h;subst i;subst g;rfl
def V3(m:Bool)(vs:List AV)(K:Bool->mC->List AV->Prop):Prop:=match vs with
 | .fn (.func g) first cap::args=>K m (.func g) (first++(args++cap))
 | .fn (.yield l) first []::args=>K m (.yield l) (first++args)
 |_=>False
@[congr]def ac4{m d:Bool}{vs c:List AV}{K:Bool->mC->List AV->Prop}(hm:m=d)(h:vs=c):V3 m vs K=V3 d c K:=by subst hm;subst h;rfl
def G8(g:Nat)(first cap args:List AV)(K:Bool->mC->List AV->Prop):V3 B4 (.fn (.func g) first cap::args) K=K B4 (.func g) (first++(args++cap)):=propext ki
def ad8(l:Nat)(first args:List AV)(K:Bool->mC->List AV->Prop):V3 B4 (.fn (.yield l) first []::args) K=K B4 (.yield l) (first++args):=propext ki
def N3(m:Bool)(name:String)(vs:List AV)(K:Bool->mC->List AV->Prop):Prop:=match vs with
 | .iface t v::args=>B3 m (M.kG t name) λ m g=>K m (.func g) (v::args)
 |_=>False
@[congr]def ac1{M:ao}{m d:Bool}{name:String}{vs c:List AV}{K:Bool->mC->List AV->Prop}(hm:m=d)(h:vs=c):N3 M m name vs K=N3 M d name c K:=by subst hm;subst h;rfl
def ae0(name:String)(t:Nat)(v:AV)(args:List AV)(K:Bool->mC->List AV->Prop):N3 M B4 name (.iface t v::args) K=B3 B4 (M.kG t name) λ m g=>K m (.func g) (v::args):=propext ki
def PX(ps:Option (List Nat))(ks:List Nat)(Q:aJ)(E:Env)(D:List aQ)(c:aH)(H:ar):Prop:=match ps with
 |some ds=>Q (.panic c) (sT ds (sT ks E)) D H
 |none=>False
def Dl(cX:Bool)(ps:Option (List Nat))(L:Env)(Q:aJ)(E:Env)(D:List aQ)(g:Bool)(f:mC)(vs:List AV)(H:ar)(K:Bool->AV->ar->Prop):Prop :=
 cond cX (P3 M g (PX ps (lM L) Q E D) f vs H K) (C3 M g f vs H K)
def vV(cX:Bool)(dst:Option Nat)(ps:Option (List Nat))(Q:aJ)(E:Env)(D:List aQ)(L R:Env)(H:ar)(K:KR)(g:Bool)(vs:List AV):fL->Prop
 | .pure f=>B3 g (f vs) λ g v=>K g (lO dst v L) R H
 | .read f=>B3 g (f vs H) λ g v=>K g (lO dst v L) R H
 | .alloc f=>jN g (f vs) λ g o mk=>K g (lO dst (mk H.au) L) R (H.alloc o)
 | .gY f=>jN g (f vs H) λ g v H=>K g (lO dst v L) R H
 | .ir f=>Dl M cX ps L Q E D g (.func f) vs H (λ g v H=>K g (lO dst v L) R H)
 | .im=>V3 g vs λ g f vs=>Dl M cX ps L Q E D g f vs H (λ g v H=>K g (lO dst v L) R H)
 | .invoke name=>N3 M g name vs λ g f vs=>Dl M cX ps L Q E D g f vs H (λ g v H=>K g (lO dst v L) R H)
 | .panic=>cond cX (gE vs H (PX ps (lM L) Q E D)) False
 |_=>False
def Zk(L E:Env)(d:Nat):Option AV:=R3 (motive:=λ _=>Option AV) (lk E d) (λ v=>B1 v) (lk L d)
def Sg(dst:Option Nat)(E L R:Env)(H:ar)(K:KR)(g:Bool)(vs:List AV):fL->Prop
 | .read f=>match dst with
  |some d=>Oh g (f vs H) (Zk L E d) λ g=>K g L R H
  |none=>False
 |_=>False
def FO(cX:Bool)(s:aR)(Q:aJ)(E:Env)(D:List aQ)(K:KR):KR:=λ g L R H =>
 zO E L s.args g R λ g R vs=>match s.iq with
  |false=>vV M cX s.dst s.cF Q E D L R H K g vs s.op
  |true=>Sg s.dst E L R H K g vs s.op
def pT(cX:Bool)(Q:aJ)(E:Env)(D:List aQ)(K:KR)(l:List aR):KR:=A8 (motive:=λ _=>KR) K (λ s _ ih=>FO M cX s Q E D ih) l
abbrev Ge:=Option (Nat×Bool)×List aR
def sy:Option (Nat×Bool)->Option (Nat×Bool)->Bool
 |none,B5=>B4
 |some (t,b),B1 (u,c)=>cond (J8 t u) (cond b c (!c)) B2
 |_,_=>B2
def Jn(l:List aR):List Ge:=A8 (motive:=λ _=>List Ge) [] (λ s _ ih=>List.casesOn (motive:=λ _=>List Ge) ih [(s.guard,[s])] λ g r=>cond (sy g.1 s.guard) ((g.1,s::g.2)::r) ((s.guard,[s])::g::r)) l
def LZ(o:Option Nat)(t:Nat):Bool:=R3 (motive:=λ _=>Bool) B2 (λ d=>J8 d t) o
def vQ(t:Nat)(l:List aR):Bool:=A8 (motive:=λ _=>Bool) B4 (λ s _ ih=>cond (LZ s.dst t) B2 (cond s.iq (cond s.dst.isSome ih B2) ih)) l
def CT(n:Nat):Type:=Nat.rec (motive:=λ _=>Type) (ar->Prop) (λ _ T=>AV->T) n
def rJ(n:Nat):(List AV->ar->Prop)->CT n:=Nat.rec (motive:=λ n=>(List AV->ar->Prop)->CT n) (λ f=>f []) (λ _ ih f v=>ih λ l=>f (v::l)) n
def pY(n:Nat):CT n->List AV->ar->Prop:=Nat.rec (motive:=λ n=>CT n->List AV->ar->Prop) (λ k _=>k) (λ _ ih k l=>List.casesOn (motive:=λ _=>ar->Prop) l (λ _=>False) λ v l=>ih (k v) l) n
def bA(l:List aR):List Nat->List Nat:=A8 (motive:=λ _=>List Nat->List Nat) (λ acc=>acc) (λ s _ ih acc=>ih (cond s.iq acc (R3 (motive:=λ _=>List Nat) acc (λ d=>d::acc) s.dst))) l
def lG(ks:List Nat)(L:Env):List AV->Env:=A8 (motive:=λ _=>List AV->Env) (λ _=>L) (λ k _ ih l=>List.casesOn (motive:=λ _=>Env) l L λ v l=>(k,v)::ih l) ks
def rL(n:Nat):Env->List AV:=Nat.rec (motive:=λ _=>Env->List AV) (λ _=>[]) (λ _ ih L=>List.casesOn (motive:=λ _=>List AV) L [] λ p L=>p.2::ih L) n
def rV(n:Nat):List AV:=Nat.rec (motive:=λ _=>List AV) [] (λ _ ih=>.undef::ih) n
def P5(cX:Bool)(Q:aJ)(E:Env)(D:List aQ)(x:Ge)(K:KR):KR:=λ g L R H=>match x.1 with
 |none=>pT M cX Q E D K x.2 g L R H
 |some q=>cond (vQ q.1 x.2) (TV E L R q.1 g λ g R v=>JN (α:=Bool->CT (cW (bA x.2 [])))
  (λ k=>B3 g (cQ q.2 (B1 v)) λ g w=>xI g w (λ g=>pT M cX Q E D (λ g L _ H=>pY (cW (bA x.2 [])) (k g) (rL (cW (bA x.2 [])) L) H) x.2 g L R H) (λ g=>pY (cW (bA x.2 [])) (k g) (rV (cW (bA x.2 []))) H))
  (λ g=>rJ (cW (bA x.2 [])) λ vs H=>K g (lG (bA x.2 []) L vs) R H)) False
def zE(cX:Bool)(Q:aJ)(E:Env)(D:List aQ)(K:KR)(l:List Ge):KR:=A8 (motive:=λ _=>KR) K (λ x _ ih=>P5 M cX Q E D x ih) l
def qP(cX:Bool)(Q:aJ)(E:Env)(D:List aQ)(l:List aR)(g:Bool)(H:ar)(K:KR):Prop:=zE M cX Q E D K (Jn l) g [] [] H
abbrev WX:=Bool->aJ->Env->List aQ->ar->Prop
def fj(X:WX)(Q:aJ):aJ:=λ e E D H=>match e with
 | .normal=>X B4 Q E D H
 |e=>Q e E D H
def eY(id:Nat)(Q:aJ):aJ:=λ e E D H=>match e with
 | .exit id'=>Q (cond (J8 id id') .normal (.exit id')) E D H
 |e=>Q e E D H
def kE(b:aj)(Q:aJ):aJ:=λ e E D H=>match e with
 | .goto l=>Gd b l=B2/\Q (.goto l) E D H
 |e=>Q e E D H
abbrev Kl:=Nat->Env->List aQ->ar->Prop
def LP3(I:Kl)(n:Nat)(Q:aJ):aJ:=λ e E D H=>match e with
 | .normal=>∃m E',I m E' D H/\SS E' E/\m<n
 |e=>Q e E D H
def dm(X:WX)(Q:aJ)(E:Env)(D:List aQ)(H:ar):Prop :=
 ∃I:Kl,(∃n E0,I n E0 D H/\SS E0 E) /\ ∀n E D H,I n E D H->X B4 (LP3 I n Q) E D H
def iA(ks:List Nat)(ctx:Ctx)(k:Nat)(E:Env)(D:List aQ)(H:ar)(Q:aJ)(v:AV):Prop :=
 ∀tm up,gj ks E tm->JR M ctx k ⟨tm,D,up,H⟩ (λ e st=>st.up=up/\st.tm=tm/\Q e E st.bj st.H) v
def OV(E:Env)(x:bL)(g:Bool)(K:Bool->AV->Prop):Prop:=match x with
 | .tmp t=>LK g (lk E t) K
 | .const v=>K g v
 | .eJ b=>K g (.ptr b 0)
 | .func f=>K g (.fn (.func f) [] [])
def CV(E L R:Env)(x:bL)(g:Bool)(K:Bool->AV->Prop):Prop:=match x with
 | .tmp t=>TV E L R t g λ g _ v=>K g v
 | .const v=>K g v
 | .eJ b=>K g (.ptr b 0)
 | .func f=>K g (.fn (.func f) [] [])
def W3(ctx:Ctx)(K:Kp):aj->Bool->aJ->Env->List aQ->ar->Prop
 | .skip,g,Q,E,D,H=>qM g Q .normal E D H
 | .label _,g,Q,E,D,H=>qM g Q .normal E D H
 | .exit id,g,Q,E,D,H=>qM g Q (.exit id) E D H
 | .goto l,g,Q,E,D,H=>qM g Q (.goto l) E D H
 | .ret,g,Q,E,D,H=>qM g Q .ret E D H
 | .stuck,_,_,_,_,_=>False
 | .region l,g,Q,E,D,H=>qP M K.cX Q E D l g H λ g L _ H=>qM g Q .normal (dJ K.ai E L) D H
 | .seq a b,g,Q,E,D,H=>match a,b with
  | .region l,.cond c x y=>qP M K.cX Q E D l g H λ g L R H=>CV E L R c g λ g v=>nC g v (λ g=>W3 ctx K x g Q (dJ K.ai E L) D H) (λ g=>W3 ctx K y g Q (dJ K.ai E L) D H)
  | .region l,.seq (.cond c x y) r=>qP M K.cX Q E D l g H λ g L R H=>CV E L R c g λ g v=>nC g v (λ g=>W3 ctx K x g (fj (W3 ctx K r) Q) (dJ K.ai E L) D H) (λ g=>W3 ctx K y g (fj (W3 ctx K r) Q) (dJ K.ai E L) D H)
  | .region l,b=>qP M K.cX Q E D l g H λ g L _ H=>W3 ctx K b g Q (dJ K.ai E L) D H
  |a,b=>W3 ctx K a g (fj (W3 ctx K b) Q) E D H
 | .cond c x y,g,Q,E,D,H=>OV E c g λ g v=>nC g v (λ g=>W3 ctx K x g Q E D H) (λ g=>W3 ctx K y g Q E D H)
 | .block id b,g,Q,E,D,H=>W3 ctx K b g (eY id Q) E D H
 | .scope b,g,Q,E,D,H=>W3 ctx K b g (kE b Q) E D H
 | .loop (B1 _) _,_,_,_,_,_=>False
 | .loop B5 b,g,Q,E,D,H=>dm (W3 ctx K b) Q E D H
 | .rangeFunc f k,g,Q,E,D,H=>OV E f g λ g v=>iA M K.ai ctx k E D H Q v
end
structure lQ(E L R:Env)(tm:T AV):Prop where
 l:∀t v,lk L t=B1 v->tm.get t=B1 v
 r:∀t v,lk L t=B5->lk R t=B1 v->tm.get t=B1 v
 e:∀t v,lk L t=B5->lk E t=B1 v->tm.get t=B1 v
def lQ.first{ks:List Nat}{E:Env}{tm:T AV}(h:gj ks E tm):lQ E [] [] tm:=⟨λ _ _ h=>(by cases h),λ _ _ _ h=>(by cases h),λ t v _ c=>(h t v c).1⟩
def lQ.put{E L R:Env}{tm:T AV}(h:lQ E L R tm)(dst:Option Nat)(v:AV):lQ E (lO dst v L) R (eK dst v tm):=by
 cases dst with
 |none=>exact h
 |some d =>
  show lQ E ((d,v)::L) R (tm.set d v);refine⟨λ t w hw=>?_,λ t w hn hw=>?_,λ t w hn hw=>?_⟩
  .rw [wY]at hw;rw[T.aK];split at hw
   .rename_i e;rw[xb e];exact hw
   .rename_i e;rw[qv e];exact h.l t w hw
  .rw [wY]at hn;rw[T.aK];split at hn
   .cases hn
   .rename_i e;rw[qv e];exact h.r t w hn hw
  .rw [wY]at hn;rw[T.aK];split at hn
   .cases hn
   .rename_i e;rw[qv e];exact h.e t w hn hw
def TV.elim{E L R:Env}{t:Nat}{g:Bool}{K:Bool->Env->AV->Prop}{tm:T AV}(hr:lQ E L R tm)(h:TV E L R t g K):∃v d,tm.get t=B1 v/\lQ E L d tm/\K g d v:=by
 unfold TV at h;cases hl:lk L t with
 |some v=>rw[hl]at h;exact⟨v,R,hr.l t v hl,hr,h⟩
 |none =>
  rw[hl]at h;cases c:lk R t with
  |some v=>rw[c]at h;exact⟨v,R,hr.r t v hl c,hr,h⟩
  |none =>
   rw[c]at h;have⟨v,f,h⟩:=LK.elim h;refine⟨v,_,hr.e t v hl f,⟨hr.l,λ u w hn hw=>?_,hr.e⟩,h⟩;rw[wY]at hw;split at hw
   .rename_i e;subst e;cases hw;exact hr.e t v hl f
   .exact hr.r u w hn hw
def Nj{tm:T AV}:∀{l:List bL}{vs:List AV}{K:List AV->Prop},mF tm l=B1 vs->K vs->qN tm l K
 |[],vs,K,h,hk=>by cases h;exact hk
 |x::xs,vs,K,h,hk=>by
  simp only[mF,qj]at h;have⟨v,d,ws,f,g⟩:=h;cases g;cases x with
  |tmp t=>exact bR.intro (m:=aI) d (Nj f hk)
  |const c=>injection d with d;subst d;exact Nj (K:=λ vs=>K (c::vs)) f hk
  |eJ c=>cases d;exact Nj (K:=λ vs=>K (_::vs)) f hk
  |func c=>cases d;exact Nj (K:=λ vs=>K (_::vs)) f hk
def zO.elim{E L:Env}{tm:T AV}{g:Bool}:∀{l:List bL}{R:Env}{K:Bool->Env->List AV->Prop},lQ E L R tm->zO E L l g R K -> ∃vs j,mF tm l=B1 vs/\lQ E L j tm/\K g j vs
 |[],R,K,hr,h=>⟨[],R,rfl,hr,h⟩
 | .tmp t::xs,R,K,hr,h=>by
  have⟨v,o,m,i,h⟩:=TV.elim hr (show TV E L R t g (λ g R v=>zO E L xs g R λ g R vs=>K g R (v::vs))from h);have⟨vs,d,f,c,h⟩:=zO.elim i h;exact⟨v::vs,d,by simp[mF,rO,m,f],c,h⟩
 | .const v::xs,R,K,hr,h=>by
  have⟨vs,d,f,c,h⟩:=zO.elim (l:=xs) hr h;exact⟨v::vs,d,by simp[mF,rO,f],c,h⟩
 | .eJ v::xs,R,K,hr,h=>by
  have⟨vs,d,f,c,h⟩:=zO.elim (l:=xs) hr h;exact⟨_,d,by simp[mF,rO,f],c,h⟩
 | .func v::xs,R,K,hr,h=>by
  have⟨vs,d,f,c,h⟩:=zO.elim (l:=xs) hr h;exact⟨_,d,by simp[mF,rO,f],c,h⟩
def Sz(ds:List Nat):∀(E:Env)(t:Nat),lk (sT ds E) t=if bG t ds then B5 else lk E t
 |[],t=>by simp[sT,CO]
 |(k,v)::r,t=>by
  show lk (cond (bG k ds) (sT ds r) ((k,v)::sT ds r)) t=_;cases hm:bG k ds with
  |true =>
   rw[xv,Sz ds r,wY]
   by_cases e:k=t
   .subst e;rw[hm];rfl
   .rw [qv e]
  |false =>
   rw[zo,wY,Sz ds r,wY]
   by_cases e:k=t
   .subst e;rw[hm];simp
   .rw [qv e,qv e]
def xc0:∀(L:Env)(t:Nat),bG t (lM L)=B2->lk L t=B5
 |[],t,_=>rfl
 |(k,v)::r,t,h=>by
  have h:cond (J8 k t) B4 (bG t (lM r))=false:=h;rw[wY];cases hb:J8 k t with
  |true=>rw[hb]at h;cases h
  |false=>rw[hb,zo]at h;rw[qv (OJ hb)];exact xc0 r t h
def xg6{t:Nat}:∀{l:List Nat},t∈l->bG t l=B4
 |x::r,h=>by
  show cond (J8 x t) B4 (bG t r)=B4;cases hb:J8 x t with
  |true=>rfl
  |false =>
   rw[zo];rcases jj.1 h with e|h
   .exact (OJ hb e.symm).elim
   .exact xg6 h
def _a:∀(ds:List Nat)(tm:T AV)(t:Nat),t∉ds->(forget ds tm).get t=tm.get t
 |[],tm,t,_=>rfl
 |d::ds,tm,t,h=>by
  show(forget ds (tm.put d B5)).get t=_;rw[_a ds _ t (λ q=>h (wg _ q)),T.kK,qv (λ e=>h (by rw[e];exact Je ..))]
def QQ(ks:List Nat)(Q:aJ)(up:Option aH):cH:=λ e st=>st.up=up /\ ∃E',gj ks E' st.tm/\Q e E' st.bj st.H
section
variable{M:ao}{ctx:Ctx}{cX:Bool}{Q:aJ}{E:Env}{D:List aQ}{up:Option aH}
def PX.JJ{Z:cH}(hp:∀c tm H g,(∀t v,lk g t=B1 v->tm.get t=B1 v/\lk E t=B1 v)->Q (.panic c) g D H->Z (.panic c) ⟨tm,D,up,H⟩){f:Option (List Nat)}{L R:Env}{tm:T AV}(hr:lQ E L R tm){c:aH}{H:ar}(h:PX f (lM L) Q E D c H):AJ f tm D up Z c H:=by
 cases f with
 |none=>exact h
 |some ds =>
  refine hp _ _ _ _ (λ t v d=>?_) h;rw[Sz,Sz]at d;split at d
  .cases d
  .rename_i i;split at d
   .cases d
   .rename_i j;rw[_a ds tm t (λ q=>i (xg6 q))];exact⟨hr.e t v (xc0 L t (by simpa using j)) d,d⟩
def Dl.yD{Z:cH}(hp:∀c tm H l,(∀t v,lk l t=B1 v->tm.get t=B1 v/\lk E t=B1 v)->Q (.panic c) l D H->Z (.panic c) ⟨tm,D,up,H⟩){j:Option (List Nat)}{L R:Env}{tm:T AV}(hr:lQ E L R tm){g:Bool}{f:mC}{vs:List AV}{H:ar}{K:Bool->AV->ar->Prop}{K':AV->ar->Prop}
 (h:Dl M cX j L Q E D g f vs H K) (hk:∀v H,K g v H->K' v H):oi M aI f vs H K' (AJ j tm D up Z):=by
 cases cX with
 |false =>
  have⟨v,H',i,d⟩:=(show C3 M g f vs H K from h)
  exact⟨_,H',i,hk _ _ d⟩
 |true =>
  have⟨e,H',i,d⟩:=(show P3 M g (PX j (lM L) Q E D) f vs H K from h)
  refine⟨_,H',i,?_⟩;cases e with
  |ret v=>exact hk _ _ d
  |panic c=>exact PX.JJ hp hr d
def FO.body{Z:cH}(hp:∀c tm H x,(∀t v,lk x t=B1 v->tm.get t=B1 v/\lk E t=B1 v)->Q (.panic c) x D H->Z (.panic c) ⟨tm,D,up,H⟩){s:aR}{K:KR}{g:Bool}{L R R0:Env}{tm:T AV}{H:ar}(hr:lQ E L R tm)(r:lQ E L R0 tm)(h:FO M cX s Q E D K g L R H){KK:St->Prop}
 (C:∀q y j H',(s.iq=B4/\q=L/\j=tm \/ ∃v,s.iq=B2/\q=lO s.dst v L/\j=eK s.dst v tm)->lQ E q y j->lQ E q R0 j->K g q y H'->KK ⟨j,D,up,H'⟩) :
 match s.iq with
 |false=>qN tm s.args λ vs=>pe M ctx s.dst s.cF ⟨tm,D,up,H⟩ Z KK vs s.op
 |true=>qN tm s.args λ vs=>PB s.dst ⟨tm,D,up,H⟩ vs s.op/\KK ⟨tm,D,up,H⟩:=by
 have⟨iq,dst,guard,args,op,u⟩:=s;have⟨vs,p,z,i,h⟩:=zO.elim hr h;cases iq with
 |true =>
  refine Nj z ?_;have h:Sg dst E L p H K g vs op:=h;cases op with
  |read f =>
   cases dst with
   |none=>exact h.elim
   |some d =>
    have h:Oh g (f vs H) (Zk L E d) (λ g=>K g L p H):=h;have⟨⟨v,e1,e2⟩,h⟩:=h;refine⟨?_,C L p tm H (.inl ⟨rfl,rfl,rfl⟩) i r h⟩;refine bR.intro (m:=aI) e1 (bR.intro (m:=aI) (a:=v) ?_ rfl);unfold Zk at e2;cases hl:lk L d with
    |some w=>rw[hl]at e2;injection e2 with e2;subst e2;exact hr.l d w hl
    |none=>rw[hl]at e2;exact hr.e d v hl e2
  |_=>exact h.elim
 |false =>
  have put:∀v H',K g (lO dst v L) p H'->KK ⟨eK dst v tm,D,up,H'⟩:=λ v H' hk=>C _ p _ H' (.inr ⟨v,rfl,rfl,rfl⟩) (i.put dst v) (r.put dst v) hk;refine Nj z ?_;have h:vV M cX dst u Q E D L p H K g vs op:=h;cases op with
  |pure f=>simp only[vV]at h;have⟨v,e,h⟩:=B3.elim h;exact bR.intro (m:=aI) e (put _ _ h)
  |read f=>simp only[vV]at h;have⟨v,e,h⟩:=B3.elim h;exact bR.intro (m:=aI) e (put _ _ h)
  |alloc f=>simp only[vV]at h;simp only[pe];have⟨o,mk,e,h⟩:=jN.elim h;exact iU.intro (m:=aI) e (put _ _ h)
  |gY f=>simp only[vV]at h;simp only[pe];have⟨v,H',e,h⟩:=jN.elim h;exact iU.intro (m:=aI) e (put _ _ h)
  |ir f=>exact Dl.yD hp i h λ v H' hk=>put v H' hk
  |im =>
   simp only[vV,V3]at h;simp only[pe,M7];split at h
   .exact Dl.yD hp i h λ v H' hk=>put v H' hk
   .exact Dl.yD hp i h λ v H' hk=>put v H' hk
   .exact h.elim
  |invoke n =>
   simp only[vV,N3]at h;simp only[pe,Ng];split at h
   .have ⟨f,e,h⟩:=B3.elim h;exact bR.intro (m:=aI) e (Dl.yD hp i h λ v H' hk=>put v H' hk)
   .exact h.elim
  |recover=>exact NT h
  |defer=>exact NT h
  |panic =>
   cases cX with
   |false=>exact NT h
   |true =>
    have h:gE vs H (PX u (lM L) Q E D):=h;show gE vs H (AJ u tm D up Z);unfold gE at h⊢;split at h
    .exact PX.JJ hp i h
    .exact h.elim
def Nq(g:Option (Nat×Bool))(l:List aR):Prop:=∀s∈l,s.guard=g
def pT.free{Z:cH}(hp:∀c tm H f,(∀t v,lk f t=B1 v->tm.get t=B1 v/\lk E t=B1 v)->Q (.panic c) f D H->Z (.panic c) ⟨tm,D,up,H⟩){K:KR}{g:Bool}{R0:Env}{rest:List aR}(i:∀L R tm H,lQ E L R tm->lQ E L R0 tm->K g L R H->oJ M ctx rest ⟨tm,D,up,H⟩ Z) :
 ∀{l:List aR}{L R:Env}{tm:T AV}{H:ar},Nq B5 l->lQ E L R tm->lQ E L R0 tm->pT M cX Q E D K l g L R H->oJ M ctx (l++rest) ⟨tm,D,up,H⟩ Z
 |[],L,R,tm,H,_,hr,hr0,h=>i _ _ _ _ hr hr0 h
 |s::l,L,R,tm,H,hg,hr,hr0,h=>by
  rw[vx,UL];have hs:s.guard=none:=hg s (Je ..);have:=FO.body hp (ctx:=ctx) (up:=up) (KK:=λ d=>oJ M ctx (l++rest) d Z) hr hr0 (show FO M cX s Q E D (pT M cX Q E D K l) g L R H from h)
   λ r u q H' _ m o p=>pT.free hp i (λ x j=>hg x (wg _ j)) m o p
  have⟨iq,dst,guard,args,op,w⟩:=s;subst hs;cases iq<;>exact this
def VI:∀(n:Nat)(f:List AV->ar->Prop)(l:List AV)(H:ar),l.length=n->pY n (rJ n f) l H=f l H
 |0,f,[],H,_=>rfl
 |n+1,f,v::l,H,h=>VI n (λ l=>f (v::l)) l H (by simpa using h)
 |0,f,_::_,H,h=>by cases h
 |n+1,f,[],H,h=>by cases h
def ag1{α:Type}(l:List α):cW l=l.length:=by
 induction l with
 |nil=>rfl
 |cons x l ih=>show cW l+1=_;rw[ih];rfl
def t5:∀(ks:List Nat)(L:Env)(vs:List AV),vs.length=ks.length->rL ks.length (lG ks L vs)=vs
 |[],L,[],_=>rfl
 |k::ks,L,v::vs,h=>by
  show v::rL ks.length (lG ks L vs)=_;rw[t5 ks L vs (by simpa using h)]
 |[],L,_::_,h=>by cases h
 |_::_,L,[],h=>by cases h
def xne:∀n,(rV n).length=n
 |0=>rfl
 |n+1=>by show(rV n).length+1=_;rw[xne n]
def pT.under{Z:cH}(hp:∀c tm H z,(∀t v,lk z t=B1 v->tm.get t=B1 v/\lk E t=B1 v)->Q (.panic c) z D H->Z (.panic c) ⟨tm,D,up,H⟩){K:KR}{g:Bool}{R0:Env}{rest:List aR}{t:Nat}{b:Bool}{v:AV}(hw:cQ b (B1 v)=B1 B4){kf:List Nat}{L0:Env}(C:∀vs R tm H,vs.length=kf.length->lQ E (lG kf L0 vs) R tm->lQ E (lG kf L0 vs) R0 tm->K g (lG kf L0 vs) R H->oJ M ctx rest ⟨tm,D,up,H⟩ Z) :
 ∀{l:List aR}{acc:List Nat}{us:List AV}{L R:Env}{tm:T AV}{H:ar},bA l acc=kf->us.length=acc.length->L=lG acc L0 us->Nq (B1 (t,b)) l->vQ t l=B4->tm.get t=B1 v->lQ E L R tm->lQ E L R0 tm->pT M cX Q E D K l g L R H->oJ M ctx (l++rest) ⟨tm,D,up,H⟩ Z
 |[],acc,us,L,R,tm,H,e1,e2,e3,_,_,_,hr,hr0,h=>by
  have e1:acc=kf:=e1;subst e1;subst e3;exact C _ _ _ _ e2 hr hr0 h
 |s::l,acc,us,L,R,tm,H,e1,e2,e3,hg,ho,ht,hr,hr0,h=>by
  rw[vx,UL];have hs:s.guard=B1 (t,b):=hg s (Je ..);have ho:cond (LZ s.dst t) B2 (cond s.iq (cond s.dst.isSome (vQ t l) B2) (vQ t l))=true:=ho;have j:LZ s.dst t=false:=by cases q:LZ s.dst t with
   |true=>rw[q]at ho;cases ho
   |false=>rfl
  rw[j,zo]at ho;have u:vQ t l=true:=by
   cases i:s.iq with
   |false=>rw[i]at ho;exact ho
   |true=>rw[i]at ho;cases j:s.dst.isSome with
    |true=>rw[j]at ho;exact ho
    |false=>rw[j]at ho;cases ho
  have:=FO.body hp (ctx:=ctx) (up:=up) (KK:=λ y=>oJ M ctx (l++rest) y Z) hr hr0 (show FO M cX s Q E D (pT M cX Q E D K l) g L R H from h)
   λ G V U H' F N O S=>by
    have e1:bA l (cond s.iq acc (R3 (motive:=λ _=>List Nat) acc (λ d=>d::acc) s.dst))=kf:=e1;obtain⟨f,o,p⟩:∃f,f.length=(cond s.iq acc (R3 (motive:=λ _=>List Nat) acc (λ d=>d::acc) s.dst)).length/\G=lG (cond s.iq acc (R3 (motive:=λ _=>List Nat) acc (λ d=>d::acc) s.dst)) L0 f:=by
     rcases F with⟨i,rfl,_⟩|⟨w,i,rfl,_⟩
     .rw [i];exact⟨us,e2,e3⟩
     .rw [i];cases s.dst with
      |none=>exact⟨us,e2,e3⟩
      |some d=>exact⟨w::us,by simpa using e2,by rw[e3];rfl⟩
    exact pT.under hp hw C e1 o p (λ x J=>hg x (wg _ J)) u (by
     rcases F with⟨_,_,rfl⟩|⟨w,_,_,rfl⟩
     .exact ht
     .cases r:s.dst with
      |none=>exact ht
      |some d =>
       rw[r]at j;show(tm.set d w).get t=_;rw[T.aK,qv (OJ j)];exact ht) N O S
  have⟨iq,dst,guard,args,op,W⟩:=s;subst hs;have e:cQ b (tm.get t)=B1 true:=by rw[ht];exact hw
  cases iq with
  |false=>exact bR.intro (m:=aI) e this
  |true=>exact bR.intro (m:=aI) e this
def pT.over{Z:cH}{R0:Env}{rest:List aR}{t:Nat}{b:Bool}{v:AV}(hw:cQ b (B1 v)=B1 B2){kf:List Nat}{L0:Env}{H:ar}(i:∀tm,lQ E (lG kf L0 (rV kf.length)) R0 tm->oJ M ctx rest ⟨tm,D,up,H⟩ Z) :
 ∀{l:List aR}{acc:List Nat}{tm:T AV},bA l acc=kf->Nq (B1 (t,b)) l->vQ t l=B4->tm.get t=B1 v->lQ E (lG acc L0 (rV acc.length)) R0 tm->oJ M ctx (l++rest) ⟨tm,D,up,H⟩ Z
 |[],acc,tm,e1,_,_,_,hr0=>by
  have e1:acc=kf:=e1;subst e1;exact i _ hr0
 |s::l,acc,tm,e1,hg,ho,ht,hr0=>by
  rw[vx,UL];have hs:s.guard=B1 (t,b):=hg s (Je ..);have ho:cond (LZ s.dst t) B2 (cond s.iq (cond s.dst.isSome (vQ t l) B2) (vQ t l))=true:=ho;have j:LZ s.dst t=false:=by cases q:LZ s.dst t with
   |true=>rw[q]at ho;cases ho
   |false=>rfl
  rw[j,zo]at ho;have e:cQ b (tm.get t)=B1 false:=by rw[ht];exact hw
  have g:Nq (B1 (t,b)) l:=λ x o=>hg x (wg _ o);have e1:bA l (cond s.iq acc (R3 (motive:=λ _=>List Nat) acc (λ d=>d::acc) s.dst))=kf:=e1;cases h:s.iq with
  |true =>
   rw[h]at ho e1;cases f:s.dst.isSome with
   |false=>rw[f]at ho;cases ho
   |true =>
    rw[f]at ho;have:=pT.over hw i e1 g ho ht hr0;have⟨iq,dst,guard,args,op,p⟩:=s;subst hs;subst h;exact bR.intro (m:=aI) e ⟨f,this⟩
  |false =>
   rw[h]at ho e1;have:=pT.over hw i (tm:=eK s.dst .undef tm) e1 g ho (by
    cases c:s.dst with
     |none=>exact ht
     |some d =>
      rw[c]at j;show(tm.set d _).get t=_;rw[T.aK,qv (OJ j)];exact ht) (by
    have:=hr0.put s.dst .undef;cases c:s.dst with
     |none=>rw[c]at this;exact this
     |some d=>rw[c]at this;exact this)
   have⟨iq,dst,guard,args,op,p⟩:=s;subst hs;subst h;exact bR.intro (m:=aI) e this
def EI{a b:Option (Nat×Bool)}(h:sy a b=B4):a=b:=by
 cases a with
 |none=>cases b with
  |none=>rfl
  |some _=>cases h
 |some p=>cases b with
  |none=>cases h
  |some q =>
   have⟨t,x⟩:=p;have⟨u,y⟩:=q;have h:cond (J8 t u) (cond x y (!y)) B2=true:=h;cases hb:J8 t u with
   |false=>rw[hb]at h;cases h
   |true =>
    rw[hb]at h;rw[I6 hb];cases x<;>cases y<;>first|rfl|cases h
def Ba:∀(l:List aR),(Jn l).flatMap (·.2)=l /\ ∀x∈Jn l,Nq x.1 x.2
 |[]=>⟨rfl,λ x c=>by cases c⟩
 |s::l=>by
  have⟨f,h⟩:=Ba l;have e:Jn (s::l)=List.casesOn (motive:=λ _=>List Ge) (Jn l) [(s.guard,[s])] λ g r=>cond (sy g.1 s.guard) ((g.1,s::g.2)::r) ((s.guard,[s])::g::r):=rfl;rw[e];cases hg:Jn l with
  |nil =>
   rw[hg]at f;exact⟨by simpa using f,λ x c=>by simp at c;subst c;intro y d;simp at d;subst d;rfl⟩
  |cons g r =>
   rw[hg]at f h;show(cond (sy g.1 s.guard) ((g.1,s::g.2)::r) ((s.guard,[s])::g::r)).flatMap _=_ /\ ∀x∈cond (sy g.1 s.guard) ((g.1,s::g.2)::r) ((s.guard,[s])::g::r),_;cases hs:sy g.1 s.guard with
   |true =>
    refine⟨by simpa using f,λ x c=>?_⟩;rcases jj.1 c with rfl|c
    .intro y d;rcases jj.1 d with rfl|d
     .exact (EI hs).symm
     .exact h g (Je ..) y d
    .exact h x (wg _ c)
   |false =>
    refine⟨by simpa using f,λ x c=>?_⟩;rcases jj.1 c with rfl|c
    .intro y d;simp at d;subst d;rfl
    .exact h x c
def zE.O3{Z:cH}(hp:∀c tm H o,(∀t v,lk o t=B1 v->tm.get t=B1 v/\lk E t=B1 v)->Q (.panic c) o D H->Z (.panic c) ⟨tm,D,up,H⟩){K:KR}{g:Bool}(p:∀L R tm H,lQ E L R tm->K g L R H->Z .normal ⟨tm,D,up,H⟩):∀{gs:List Ge}{L R:Env}{tm:T AV}{H:ar},(∀x∈gs,Nq x.1 x.2)->lQ E L R tm->zE M cX Q E D K gs g L R H ->
 oJ M ctx (gs.flatMap (·.2)) ⟨tm,D,up,H⟩ Z
 |[],L,R,tm,H,_,hr,h=>p _ _ _ _ hr h
 |x::gs,L,R,tm,H,hg,hr,h=>by
  rw[j0];have m:∀L R tm H,lQ E L R tm->zE M cX Q E D K gs g L R H->oJ M ctx (gs.flatMap (·.2)) ⟨tm,D,up,H⟩ Z:=λ L R tm H hr h=>zE.O3 hp p (λ x i=>hg x (wg _ i)) hr h;have i:=hg x (Je ..);have⟨q,l⟩:=x;cases q with
  |none=>exact pT.free hp (R0:=R) (λ L R tm H s _ j=>m L R tm H s j) i hr hr (show pT M cX Q E D (zE M cX Q E D K gs) l g L R H from h)
  |some q =>
   have⟨t,b⟩:=q;cases ho:vQ t l with
   |false =>
    have h:cond (vQ t l) _ False:=h;rw[ho]at h;exact h.elim
   |true =>
    have h:cond (vQ t l) _ False:=h;rw[ho,xv]at h;have⟨v,d,r,f,h⟩:=TV.elim hr h;have kl:cW (bA l [])=(bA l []).length:=ag1 _;have h:B3 g (cQ b (B1 v)) λ g w=>xI g w (λ g=>pT M cX Q E D (λ g u _ H=>pY (cW (bA l [])) (rJ (cW (bA l [])) λ vs H=>zE M cX Q E D K gs g (lG (bA l []) L vs) d H) (rL (cW (bA l [])) u) H) l g L d H)
     (λ g=>pY (cW (bA l [])) (rJ (cW (bA l [])) λ vs H=>zE M cX Q E D K gs g (lG (bA l []) L vs) d H) (rV (cW (bA l []))) H):=h
    have⟨w,hw,h⟩:=B3.elim h;cases w with
    |true =>
     refine pT.under hp (R0:=d) hw (kf:=bA l []) (L0:=L) (λ vs R tm H q s z j=>?_) (acc:=[]) (us:=[]) rfl rfl rfl i ho r f f h;rw[kl,t5 _ _ _ q,VI _ _ _ _ q]at j;exact m _ d tm H z j
    |false =>
     have h:pY (cW (bA l [])) (rJ (cW (bA l [])) λ vs H=>zE M cX Q E D K gs g (lG (bA l []) L vs) d H) (rV (cW (bA l []))) H:=h;rw[kl,VI _ _ _ _ (xne _)]at h;exact pT.over hw (kf:=bA l []) (L0:=L) (λ tm y=>m _ d tm H y h) (acc:=[]) rfl i ho r f
def qP.O3{Z:cH}(hp:∀c tm H d,(∀t v,lk d t=B1 v->tm.get t=B1 v/\lk E t=B1 v)->Q (.panic c) d D H->Z (.panic c) ⟨tm,D,up,H⟩){l:List aR}{g:Bool}{H:ar}{K:KR}{tm:T AV}{ks:List Nat}(he:gj ks E tm)(h:qP M cX Q E D l g H K)(j:∀L R tm H,lQ E L R tm->K g L R H->Z .normal ⟨tm,D,up,H⟩):oJ M ctx l ⟨tm,D,up,H⟩ Z:=by
 have⟨f,i⟩:=Ba l;have:=zE.O3 hp (ctx:=ctx) j i (lQ.first he) h
 rwa [f]at this
end
end
end Go.Am
namespace Go.Am
noncomputable section
variable{M:ao}{ctx:Ctx}{K:Kp}
def Vr(ks:List Nat)(E:Env):∀(L:Env)(t:Nat)(v:AV),bG t ks=B4->lk (dJ ks E L) t=B1 v->lk L t=B1 v\/lk L t=B5/\lk E t=B1 v
 |[],t,v,_,h=>.inr ⟨rfl,h⟩
 |(k,w)::r,t,v,ht,h=>by
  have h:lk (cond (bG k ks) ((k,w)::dJ ks E r) (dJ ks E r)) t=B1 v:=h;rw[wY];cases hm:bG k ks with
  |true =>
   rw[hm,xv,wY]at h;split at h
   .rename_i e;rw[xb e];exact .inl h
   .rename_i e;rw[qv e];exact Vr ks E r t v ht h
  |false =>
   rw[hm,zo]at h
   by_cases e:k=t
   .subst e;rw[hm]at ht;cases ht
   .rw [qv e];exact Vr ks E r t v ht h
def VD(ks:List Nat)(E:Env)(c:∀t v,lk E t=B1 v->bG t ks=B4):∀(L:Env)(t:Nat)(v:AV),lk (dJ ks E L) t=B1 v->bG t ks=B4
 |[],t,v,h=>c t v h
 |(k,w)::r,t,v,h=>by
  have h:lk (cond (bG k ks) ((k,w)::dJ ks E r) (dJ ks E r)) t=B1 v:=h;cases hm:bG k ks with
  |true =>
   rw[hm,xv,wY]at h;split at h
   .rename_i e;subst e;exact hm
   .exact VD ks E c r t v h
  |false=>rw[hm,zo]at h;exact VD ks E c r t v h
def lQ.ai{E L R:Env}{tm:T AV}(h:lQ E L R tm){ks:List Nat}(d:∀t v,lk E t=B1 v->bG t ks=B4):gj ks (dJ ks E L) tm:=λ t v c=>by
 have hm:=VD ks E d L t v c;refine⟨?_,hm⟩;rcases Vr ks E L t v hm c with q|⟨f,g⟩
 .exact h.l t v q
 .exact h.e t v f g
def gj.keys{ks:List Nat}{E:Env}{tm:T AV}(h:gj ks E tm):∀t v,lk E t=B1 v->bG t ks=true:=λ t v c=>(h t v c).2
def gj.cX{ks:List Nat}{E d:Env}{tm c:T AV}(h:gj ks E tm)(f:∀t v,lk d t=B1 v->c.get t=B1 v/\lk E t=B1 v):gj ks d c:=λ t v g=>⟨(f t v g).1,(h t v (f t v g).2).2⟩
def TV.cv{E L R:Env}{x:bL}{g:Bool}{P:Bool->AV->Prop}{tm:T AV}(hr:lQ E L R tm)(h:CV E L R x g P):∃v,rO tm x=B1 v/\P g v:=by
 cases x with
 |tmp t=>have⟨v,_,c,_,d⟩:=TV.elim hr (show TV E L R t g (λ g _ v=>P g v)from h);exact⟨v,c,d⟩
 |const v=>exact⟨v,rfl,h⟩
 |eJ v=>exact⟨_,rfl,h⟩
 |func v=>exact⟨_,rfl,h⟩
def OV.elim{ks:List Nat}{E:Env}{x:bL}{g:Bool}{P:Bool->AV->Prop}{tm:T AV}(hr:gj ks E tm)(h:OV E x g P):∃v,rO tm x=B1 v/\P g v:=by
 cases x with
 |tmp t=>have⟨v,c,d⟩:=LK.elim (show LK g (lk E t) P from h);exact⟨v,(hr t v c).1,d⟩
 |const v=>exact⟨v,rfl,h⟩
 |eJ v=>exact⟨_,rfl,h⟩
 |func v=>exact⟨_,rfl,h⟩
def j1{tm:T AV}{x:bL}{v:AV}{P:AV->Prop}(h:rO tm x=B1 v)(hp:P v):FW tm x P:=by
 cases x with
 |tmp t=>exact bR.intro (m:=aI) h hp
 |const c=>cases h;exact hp
 |eJ c=>cases h;exact hp
 |func c=>cases h;exact hp
def nC.wp{a b:aj}{g:Bool}{v:AV}{A B:Bool->Prop}{tm:T AV}{c:bL}{st:St}{Q:cH}(d:rO st.tm c=B1 v)(h:nC g v A B)(ha:A g->WP M ctx a st Q)(hb:B g->WP M ctx b st Q):WP M ctx (.cond c a b) st Q:=by
 obtain⟨q,rfl,h⟩:=h.elim;refine j1 d ?_;cases q with
 |true=>exact ha h
 |false=>exact hb h
def fy:aj->Nat
 | .seq a b=>fy a+fy b+1
 | .cond _ a b=>fy a+fy b+1
 | .block _ b=>fy b+1
 | .loop _ b=>fy b+1
 | .scope b=>fy b+1
 |_=>0
def W3.wp:∀(n:Nat)(c:aj),fy c<=n -> ∀{g:Bool}{Q:aJ}{E:Env}{D:List aQ}{H:ar}{tm:T AV}{up:Option aH},W3 M ctx K c g Q E D H->gj K.ai E tm->WP M ctx c ⟨tm,D,up,H⟩ (QQ K.ai Q up):=by
 intro n
 induction n with
 |zero =>
  intro c s g Q E D H tm up h he;cases c with
  |skip=>exact⟨rfl,E,he,h⟩
  |label _=>exact⟨rfl,E,he,h⟩
  |exit _=>exact⟨rfl,E,he,h⟩
  |goto _=>exact⟨rfl,E,he,h⟩
  |ret=>exact⟨rfl,E,he,h⟩
  |stuck=>exact NT h
  |region l=>exact qP.O3 (λ c F H' j p i=>⟨rfl,j,he.cX p,i⟩) he (show qP M K.cX Q E D l g H _ from h) λ L R tm H hr hk=>⟨rfl,_,hr.ai he.keys,hk⟩
  |rangeFunc f k =>
   have⟨v,t,h⟩:=OV.elim he (show OV E f g _ from h);exact j1 t (by
    have:=h tm up he;unfold JR at this⊢;split
    .rename_i hr;rw[hr]at this;exact NK this λ e st⟨p,i,o⟩=>⟨p,E,by rw[i];exact he,o⟩
    .rename_i l hr;rw[hr]at this;exact FI (m:=aI) this λ d q=>NK q λ e st⟨p,i,o⟩=>⟨p,E,by rw[i];exact he,o⟩)
  |seq _ _=>simp[fy]at s
  |cond _ _ _=>simp[fy]at s
  |block _ _=>simp[fy]at s
  |loop _ _=>simp[fy]at s
  |scope _=>simp[fy]at s
 |succ n ih =>
  intro c s g Q E D H tm up h he;have u:∀{a b:aj}{tm:T AV}{H:ar},fy b<=n->WP M ctx a ⟨tm,D,up,H⟩ (QQ K.ai (fj (W3 M ctx K b) Q) up)->WP M ctx a ⟨tm,D,up,H⟩ (C8 (WP M ctx b) (QQ K.ai Q up)):=λ{a b tm H}hb h=>pV h λ e st⟨p,j,i,o⟩=>by
   have⟨F,D',V,H'⟩:=st;subst p;cases e with
   |normal=>exact ih b hb o i
   |exit _=>exact⟨rfl,j,i,o⟩
   |goto _=>exact⟨rfl,j,i,o⟩
   |ret=>exact⟨rfl,j,i,o⟩
   |panic _=>exact⟨rfl,j,i,o⟩
  have w:∀{c:bL}{x y:aj}{E:Env}{tm:T AV}{v:AV}{g:Bool}{Q:aJ}{H:ar},fy x<=n->fy y<=n->rO tm c=B1 v->gj K.ai E tm->nC g v (λ g=>W3 M ctx K x g Q E D H) (λ g=>W3 M ctx K y g Q E D H)->WP M ctx (.cond c x y) ⟨tm,D,up,H⟩ (QQ K.ai Q up) :=
   λ{c x y E tm v g Q H}hx hy t he h=>nC.wp (tm:=tm) (st:=⟨tm,D,up,H⟩) t h (λ h=>ih x hx h he) (λ h=>ih y hy h he)
  cases c with
  |seq a b =>
   have z:fy a+fy b<=n:=by simp only[fy]at s;omega
   have gen:W3 M ctx K a g (fj (W3 M ctx K b) Q) E D H->WP M ctx (.seq a b) ⟨tm,D,up,H⟩ (QQ K.ai Q up):=λ h=>u (a:=a) (b:=b) (by omega) (ih a (by omega) h he);have pO:∀(l:List aR)(S:KR),a=.region l->qP M K.cX Q E D l g H S->(∀L R tm H,lQ E L R tm->S g L R H->WP M ctx b ⟨tm,D,up,H⟩ (QQ K.ai Q up))->WP M ctx (.seq a b) ⟨tm,D,up,H⟩ (QQ K.ai Q up):=λ l S e h' hk=>by
    subst e;exact qP.O3 (Z:=C8 (WP M ctx b) (QQ K.ai Q up)) (λ c F H' j p i=>⟨rfl,j,he.cX p,i⟩) he h' hk
   cases a with
   |region l =>
    have plain:(qP M K.cX Q E D l g H λ g L _ H=>W3 M ctx K b g Q (dJ K.ai E L) D H)->WP M ctx (.seq (.region l) b) ⟨tm,D,up,H⟩ (QQ K.ai Q up):=λ h=>pO l _ rfl h λ L R tm H hr hk=>ih b (by omega) hk (hr.ai he.keys);cases b with
    |cond c x y =>
     have U:fy x+fy y+1<=n:=by simp only[fy]at z;omega
     refine pO l _ rfl h λ L R tm H hr hk=>?_;have⟨v,t,hk⟩:=TV.cv hr hk;exact w (by omega) (by omega) t (hr.ai he.keys) hk
    |seq b1 r =>
     cases b1 with
     |cond c x y =>
      have U:fy x+fy y+1+fy r+1<=n:=by simp only[fy]at z;omega
      refine pO l _ rfl h λ L R tm H hr hk=>?_;have⟨v,t,hk⟩:=TV.cv hr hk;exact u (by omega) (w (by omega) (by omega) t (hr.ai he.keys) hk)
     |_=>exact plain h
    |_=>exact plain h
   |_=>exact gen h
  |cond c x y =>
   have z:fy x+fy y<=n:=by simp only[fy]at s;omega
   have⟨v,t,h⟩:=OV.elim he (show OV E c g _ from h);exact w (by omega) (by omega) t he h
  |block id b =>
   have hb:fy b<=n:=by simp only[fy]at s;omega
   exact pV (c:=b) (ih b hb (show W3 M ctx K b g (eY id Q) E D H from h) he) λ e st⟨p,j,i,o⟩=>by cases e<;>exact⟨p,j,i,o⟩
  |scope b =>
   have hb:fy b<=n:=by simp only[fy]at s;omega
   refine pV (c:=b) (ih b hb (show W3 M ctx K b g (kE b Q) E D H from h) he) λ e st⟨p,j,i,o⟩=>?_;cases e with
   |goto l=>exact⟨o.1,p,j,i,o.2⟩
   |normal=>exact⟨p,j,i,o⟩
   |exit _=>exact⟨p,j,i,o⟩
   |ret=>exact⟨p,j,i,o⟩
   |panic _=>exact⟨p,j,i,o⟩
  |loop ai b =>
   have hb:fy b<=n:=by simp only[fy]at s;omega
   cases ai with
   |some _=>exact NT h
   |none =>
    have⟨I,⟨n0,W,h0,hs⟩,C⟩:=(show dm (W3 M ctx K b) Q E D H from h)
    refine⟨λ n st=>st.up=up /\ ∃j,gj K.ai j st.tm/\I n j st.bj st.H,⟨n0,rfl,W,hs.sub he,h0⟩,λ n st⟨p,j,i,o⟩=>?_⟩;have⟨F,D',V,H'⟩:=st;subst p;refine pV (c:=b) (ih b hb (C n j D' H' o) i) λ e st⟨G,O,J,N⟩=>?_;cases e with
    |normal=>have⟨m,Y,q1,q2,q3⟩:=N;exact⟨m,q3,G,Y,q2.sub J,q1⟩
    |exit _=>exact⟨G,O,J,N⟩
    |goto _=>exact⟨G,O,J,N⟩
    |ret=>exact⟨G,O,J,N⟩
    |panic _=>exact⟨G,O,J,N⟩
  |skip=>exact⟨rfl,E,he,h⟩
  |label _=>exact⟨rfl,E,he,h⟩
  |exit _=>exact⟨rfl,E,he,h⟩
  |goto _=>exact⟨rfl,E,he,h⟩
  |ret=>exact⟨rfl,E,he,h⟩
  |stuck=>exact NT h
  |region l=>exact ih _ (x9 _) h he
  |rangeFunc f k=>exact ih _ (x9 _) h he
def jF(E:Env)(H:ar):List eE->(List AV->Prop)->Prop
 |[],P=>P []
 | .tmp t::rs,P=>LK B4 (lk E t) λ _ v=>jF E H rs λ vs=>P (v::vs)
 | .lC a::rs,P=>LK B4 (lk E a) λ _ v=>B3 B4 (Op.ah [v] H) λ _ v=>jF E H rs λ vs=>P (v::vs)
 | .dg n a::rs,P=>LK B4 (lk E a) λ _ v=>B3 B4 (Op.aw n [v] H) λ _ v=>jF E H rs λ vs=>P (v::vs)
def ny(M:ao)(rs:List eE)(E:Env)(Q:bJ->ar->Prop):List aQ->Option aH->ar->Prop
 |[],B5,H=>jF E H rs λ l=>Q (.ret (jE l)) H
 |[],B1 c,H=>Q (.panic c) H
 | .jJ b::ds,m,H=>H.get b=B1 (.deferred (B1 []))/\ny M rs E Q ds m (H.set b (.deferred B5))
 | .fn (.func f) args::ds,m,H=>∃v up' H',kC M f args (B1 (m.getD [])) H (.ret v) (B1 up') H'/\bR aI (nU m up') λ m'=>ny M rs E Q ds m' H'
 | .fn (.yield _) _::_,_,_=>False
def jF.elim{ks:List Nat}{E:Env}{tm:T AV}(he:gj ks E tm){H:ar}:∀{rs:List eE}{P:List AV->Prop},jF E H rs P -> ∃l,ep H tm rs=B1 l/\P l
 |[],P,h=>⟨[],rfl,h⟩
 | .tmp t::rs,P,h=>by
  have⟨v,c,h⟩:=LK.elim (show LK B4 (lk E t) _ from h);have⟨l,d,h⟩:=jF.elim he h;exact⟨v::l,by rw[GR,(he t v c).1,d];rfl,h⟩
 | .lC t::rs,P,h=>by
  have⟨v,c,h⟩:=LK.elim (show LK B4 (lk E t) _ from h);have⟨w,d,h⟩:=B3.elim h;have⟨l,f,h⟩:=jF.elim he h;exact⟨w::l,by rw[xm1,(he t v c).1,qr,d,qr,f];rfl,h⟩
 | .dg n t::rs,P,h=>by
  have⟨v,c,h⟩:=LK.elim (show LK B4 (lk E t) _ from h);have⟨w,d,h⟩:=B3.elim h;have⟨l,f,h⟩:=jF.elim he h;exact⟨w::l,by rw[xm2,(he t v c).1,qr,d,qr,f];rfl,h⟩
def ny.SQ{ks:List Nat}{E:Env}{tm:T AV}(he:gj ks E tm){rs:List eE}{Q:bJ->ar->Prop}:∀{D:List aQ}{m:Option aH}{H:ar},ny M rs E Q D m H->zP M rs tm Q D m H
 |[],B5,H,h=>by have⟨l,d,g⟩:=jF.elim he h;exact bR.intro (m:=aI) d g
 |[],B1 c,H,h=>h
 | .jJ b::ds,m,H,⟨d,g⟩=>⟨d,ny.SQ he g⟩
 | .fn (.func f) args::ds,m,H,⟨v,up',H',d,g⟩=>⟨v,up',H',d,FI g λ i h=>ny.SQ he h⟩
 | .fn (.yield _) _::_,_,_,h=>h
def eU(M:ao)(rs:List eE)(Q:bJ->ar->Prop):aJ:=λ e E D H=>match e with
 | .normal=>ny M rs E Q D B5 H
 | .ret=>ny M rs E Q D B5 H
 | .panic c=>ny M rs E Q D (B1 c) H
 |_=>False
def Dq(M:ao)(f:Nat)(vs:List AV)(H:ar)(Q:bJ->ar->Prop):Prop:=∃e H',CALL M f vs H e H'/\Q e H'
def uI(Q:AV->ar->Prop)(e:bJ)(H:ar):Prop:=match e with
 | .ret v=>Q v H
 | .panic _=>False
def zj(M:ao)(f:Nat)(vs:List AV)(H:ar)(Q:AV->ar->Prop):Prop:=Dq M f vs H (uI Q)
def zj.elim{f:Nat}{vs:List AV}{H:ar}{Q:AV->ar->Prop}(h:zj M f vs H Q):∃v H',CALL M f vs H (.ret v) H'/\Q v H':=by
 have⟨e,H',d,c⟩:=h;cases e with
 |ret v=>exact⟨v,H',d,c⟩
 |panic _=>exact c.elim
def zj.intro{f:Nat}{vs:List AV}{H:ar}{Q:AV->ar->Prop}{v:AV}{H':ar}(h:CALL M f vs H (.ret v) H')(c:Q v H'):zj M f vs H Q:=⟨_,H',h,c⟩
def zj.mono{f:Nat}{vs:List AV}{H:ar}{Q Q':AV->ar->Prop}(h:zj M f vs H Q)(g:∀v H',Q v H'->Q' v H'):zj M f vs H Q':=by
 have⟨v,H',c,d⟩:=h.elim;exact⟨_,H',c,g _ _ d⟩
def C3.q{m:Bool}{f:Nat}{vs:List AV}{H:ar}{R:AV->ar->Prop}{P:Bool->AV->ar->Prop}(h:zj M f vs H R)(hk:∀v H',R v H'->P m v H'):C3 M m (.func f) vs H P:=by
 have⟨v,H',c,d⟩:=h.elim;exact⟨v,H',c,hk v H' d⟩
def C3.ret{m:Bool}{f:Nat}{vs:List AV}{H:ar}{P:Bool->AV->ar->Prop}{v:AV}{H':ar}(h:CALL M f vs H (.ret v) H')(hk:P m v H'):C3 M m (.func f) vs H P:=⟨v,H',h,hk⟩
def C3.tZ{m:Bool}{l:Nat}{vs:List AV}{H:ar}{P:Bool->AV->ar->Prop}{v:AV}{H':ar}(h:sX M l vs H (.ret v) H')(hk:P m v H'):C3 M m (.yield l) vs H P:=⟨v,H',h,hk⟩
def P3.q{m:Bool}{X:aH->ar->Prop}{f:Nat}{vs:List AV}{H:ar}{R:bJ->ar->Prop}{P:Bool->AV->ar->Prop}(h:Dq M f vs H R)(hk:∀v H',R (.ret v) H'->P m v H')(i:∀c H',R (.panic c) H'->X c H'):P3 M m X (.func f) vs H P:=by
 have⟨e,H',g,d⟩:=h;refine⟨e,H',g,?_⟩;cases e with
 |ret v=>exact hk _ _ d
 |panic c=>exact i _ _ d
def kM:Nat->List AV->Env
 |_,[]=>[]
 |i,v::vs=>(i,v)::kM (i+1) vs
def kB:Nat->Nat->List Nat->Bool
 |_,0,_=>B4
 |i,n+1,ks=>bG i ks && kB (i+1) n ks
def _I:∀(vs:List AV)(i t:Nat)(tm:T AV),(jZ i vs tm).get t=if i<=t then(match vs[t-i]? with|some v=>B1 v|none=>tm.get t)else tm.get t
 |[],i,t,tm=>by simp[jZ]
 |v::vs,i,t,tm=>by
  rw[jZ,_I vs (i+1) t,T.aK]
  by_cases h:i=t
  .subst h;simp;intro h;omega
  .by_cases c:i<=t
   .have e:t-i=(t-(i+1))+1:=by omega
    rw[xb (show i+1<=t by omega),xb c,qv h,e,zp]
   .rw [qv (by omega),qv c,qv h]
def _r:∀(vs:List AV)(i t:Nat)(v:AV),lk (kM i vs) t=B1 v->i<=t/\vs[t-i]? = B1 v
 |[],i,t,v,h=>by cases h
 |w::vs,i,t,v,h=>by
  rw[kM,wY]at h;split at h
  .rename_i e;subst e;cases h;simp
  .have ⟨d,c⟩:=_r vs (i+1) t v h;refine⟨by omega,?_⟩;have e:t-i=(t-(i+1))+1:=by omega
   rw[e,zp,c]
def X_:∀(n i:Nat)(ks:List Nat),kB i n ks=B4 -> ∀t,i<=t->t<i+n->bG t ks=B4
 |0,i,ks,_,t,h1,h2=>by omega
 |n+1,i,ks,h,t,h1,h2=>by
  simp only[kB,zf]at h
  by_cases e:i=t
  .subst e;exact h.1
  .exact X_ n (i+1) ks h.2 t (by omega) (by omega)
def Wm{ks:List Nat}{vs:List AV}(h:kB 0 vs.length ks=B4):gj ks (kM 0 vs) (jZ 0 vs .nil):=λ t v d=>by
 have⟨_,c⟩:=_r vs 0 t v d;rw[Kv]at c;refine⟨by rw[_I,xb (x9 _),Kv,c],X_ _ 0 ks h t (x9 _) ?_⟩;rw[yf];exact(qo.1 c).1
structure Fn3 where
 n:Nat
 F:bT
 K:Kp
def pre:aj->List aj
 | .seq a b=>.seq a b::kJ (pre a) (pre b)
 | .cond c a b=>.cond c a b::kJ (pre a) (pre b)
 | .block i b=>.block i b::pre b
 | .loop k b=>.loop k b::pre b
 | .scope b=>.scope b::pre b
 |c=>[c]
def part(c:aj)(k:Nat):aj:=R3 (motive:=λ _=>aj) .stuck (λ c=>c) (nth (pre c) k)
def dB:aj->Nat
 | .seq a b=>dB a+dB b+1
 | .cond _ a b=>dB a+dB b+1
 | .block _ b=>dB b+1
 | .loop _ b=>dB b+1
 | .scope b=>dB b+1
 |_=>1
def Hl:∀(c:aj),(pre c).length=dB c
 | .seq a b=>by simp[pre,dB,py,Hl a,Hl b]
 | .cond _ a b=>by simp[pre,dB,py,Hl a,Hl b]
 | .block _ b=>by simp[pre,dB,Hl b]
 | .loop _ b=>by simp[pre,dB,Hl b]
 | .scope b=>by simp[pre,dB,Hl b]
 | .skip=>rfl
 | .label _=>rfl
 | .exit _=>rfl
 | .goto _=>rfl
 | .ret=>rfl
 | .stuck=>rfl
 | .region _=>rfl
 | .rangeFunc _ _=>rfl
def Z1(c:aj):∃l,pre c=c::l:=by cases c<;>exact⟨_,rfl⟩
def WV{α:Type}:∀(l:List α)(i:Nat),nth l i=l[i]?
 |[],i=>rfl
 |x::l,0=>rfl
 |x::l,i+1=>by rw[zp,<-WV l i];rfl
def Mm:∀(r:aj)(k:Nat)(c:aj),(pre r)[k]? = B1 c -> ∃l,(pre r).drop k=pre c++l:=by
 intro r
 induction r with
 |seq a b iha ihb =>
  intro k c h;cases k with
  |zero=>simp[pre]at h;subst h;exact⟨[],by simp⟩
  |succ k =>
   simp only[pre,py,zp]at h;simp only[pre,py,LI]
   by_cases hk:k<(pre a).length
   .rw [jw hk]at h;have⟨l,hl⟩:=iha k c h;exact⟨l++pre b,by rw[vy (by omega),hl,jb]⟩
   .rw [zw (by omega)]at h;have⟨l,hl⟩:=ihb _ c h;refine⟨l,?_⟩;rw[I3,jo (by omega),z7,hl]
 |cond x a b iha ihb =>
  intro k c h;cases k with
  |zero=>simp[pre]at h;subst h;exact⟨[],by simp⟩
  |succ k =>
   simp only[pre,py,zp]at h;simp only[pre,py,LI]
   by_cases hk:k<(pre a).length
   .rw [jw hk]at h;have⟨l,hl⟩:=iha k c h;exact⟨l++pre b,by rw[vy (by omega),hl,jb]⟩
   .rw [zw (by omega)]at h;have⟨l,hl⟩:=ihb _ c h;refine⟨l,?_⟩;rw[I3,jo (by omega),z7,hl]
 |block i b ih =>
  intro k c h;cases k with
  |zero=>simp[pre]at h;subst h;exact⟨[],by simp⟩
  |succ k=>simp only[pre,zp]at h;simpa only[pre,LI]using ih k c h
 |loop i b ih =>
  intro k c h;cases k with
  |zero=>simp[pre]at h;subst h;exact⟨[],by simp⟩
  |succ k=>simp only[pre,zp]at h;simpa only[pre,LI]using ih k c h
 |scope b ih =>
  intro k c h;cases k with
  |zero=>simp[pre]at h;subst h;exact⟨[],by simp⟩
  |succ k=>simp only[pre,zp]at h;simpa only[pre,LI]using ih k c h
 |_ =>
  intro k c h;cases k with
  |zero=>simp[pre]at h;subst h;exact⟨[],by simp[pre]⟩
  |succ k=>simp[pre]at h
def xdc{r:aj}{k:Nat}{c:aj}(h:(pre r)[k]? = B1 c):part r k=c:=by
 unfold part;rw[WV,h]
def xdb{r:aj}{k:Nat}{c:aj}(h:part r k=c)(m:c≠ .stuck):∀(j:Nat)(d:aj),(pre c)[j]? = B1 d->part r (k+j)=d:=λ j d f=>by
 have i:(pre r)[k]? = B1 c:=by
  unfold part at h;rw[WV]at h;cases g:(pre r)[k]? with
  |none=>rw[g]at h;exact(m h.symm).elim
  |some x=>rw[g]at h;exact congrArg B1 h
 have⟨l,hl⟩:=Mm r k c i;refine xdc ?_;rw[<-yu,hl,jw (qo.1 f).1,f]
def DT(c:aj):(pre c)[0]? = B1 c:=by have⟨l,h⟩:=Z1 c;rw[h];rfl
def HF{r:aj}{k:Nat}{c a b:aj}(h:part r k=c)(d:c≠ .stuck)(e:∃x l,pre c=x::(pre a++l)):part r (k+1)=a:=by
 have⟨x,l,e⟩:=e;have⟨f,e'⟩:=Z1 a;exact xdb h d 1 a (by rw[e,e'];rfl)
def ND{r:aj}{k:Nat}{c a b:aj}(h:part r k=c)(d:c≠ .stuck)(e:∃x,pre c=x::(pre a++pre b)):part r (k+1+dB a)=b:=by
 have⟨x,e⟩:=e;have⟨f,e'⟩:=Z1 b;rw[wq];exact xdb h d (1+dB a) b (by rw[e,Nat.add_comm,zp,zw (by rw[Hl];exact qm _),Hl,Nat.sub_self,e'];rfl)
def U(M:ao)(ctx:Ctx)(K:Kp)(X:Nat->WX):aj->Nat->WX
 | .skip,_,g,Q,E,D,H=>qM g Q .normal E D H
 | .label _,_,g,Q,E,D,H=>qM g Q .normal E D H
 | .exit id,_,g,Q,E,D,H=>qM g Q (.exit id) E D H
 | .goto l,_,g,Q,E,D,H=>qM g Q (.goto l) E D H
 | .ret,_,g,Q,E,D,H=>qM g Q .ret E D H
 | .stuck,_,_,_,_,_,_=>False
 | .region l,_,g,Q,E,D,H=>qP M K.cX Q E D l g H λ g L _ H=>qM g Q .normal (dJ K.ai E L) D H
 | .seq a b,k,g,Q,E,D,H=>match a,b with
  | .region l,.cond c x y=>qP M K.cX Q E D l g H λ g L R H=>CV E L R c g λ g v=>nC g v (λ g=>(Ox (motive:=λ _=>WX) (U M ctx K X x (k+3)) (X (k+3)) (bG (k+3) K.named)) g Q (dJ K.ai E L) D H) (λ g=>(Ox (motive:=λ _=>WX) (U M ctx K X y (k+3+dB x)) (X (k+3+dB x)) (bG (k+3+dB x) K.named)) g Q (dJ K.ai E L) D H)
  | .region l,.seq (.cond c x y) r=>qP M K.cX Q E D l g H λ g L R H=>CV E L R c g λ g v=>nC g v (λ g=>(Ox (motive:=λ _=>WX) (U M ctx K X x (k+4)) (X (k+4)) (bG (k+4) K.named)) g (fj (Ox (motive:=λ _=>WX) (U M ctx K X r (k+4+dB x+dB y)) (X (k+4+dB x+dB y)) (bG (k+4+dB x+dB y) K.named)) Q) (dJ K.ai E L) D H)
   (λ g=>(Ox (motive:=λ _=>WX) (U M ctx K X y (k+4+dB x)) (X (k+4+dB x)) (bG (k+4+dB x) K.named)) g (fj (Ox (motive:=λ _=>WX) (U M ctx K X r (k+4+dB x+dB y)) (X (k+4+dB x+dB y)) (bG (k+4+dB x+dB y) K.named)) Q) (dJ K.ai E L) D H)
  | .region l,b=>qP M K.cX Q E D l g H λ g L _ H=>(Ox (motive:=λ _=>WX) (U M ctx K X b (k+2)) (X (k+2)) (bG (k+2) K.named)) g Q (dJ K.ai E L) D H
  |a,b=>(Ox (motive:=λ _=>WX) (U M ctx K X a (k+1)) (X (k+1)) (bG (k+1) K.named)) g (fj (Ox (motive:=λ _=>WX) (U M ctx K X b (k+1+dB a)) (X (k+1+dB a)) (bG (k+1+dB a) K.named)) Q) E D H
 | .cond c x y,k,g,Q,E,D,H=>OV E c g λ g v=>nC g v (λ g=>(Ox (motive:=λ _=>WX) (U M ctx K X x (k+1)) (X (k+1)) (bG (k+1) K.named)) g Q E D H) (λ g=>(Ox (motive:=λ _=>WX) (U M ctx K X y (k+1+dB x)) (X (k+1+dB x)) (bG (k+1+dB x) K.named)) g Q E D H)
 | .block id b,k,g,Q,E,D,H=>(Ox (motive:=λ _=>WX) (U M ctx K X b (k+1)) (X (k+1)) (bG (k+1) K.named)) g (eY id Q) E D H
 | .scope b,k,g,Q,E,D,H=>(Ox (motive:=λ _=>WX) (U M ctx K X b (k+1)) (X (k+1)) (bG (k+1) K.named)) g (kE b Q) E D H
 | .loop (B1 _) _,_,_,_,_,_,_=>False
 | .loop B5 b,k,g,Q,E,D,H=>dm (Ox (motive:=λ _=>WX) (U M ctx K X b (k+1)) (X (k+1)) (bG (k+1) K.named)) Q E D H
 | .rangeFunc f n,_,g,Q,E,D,H=>OV E f g λ g v=>iA M K.ai ctx n E D H Q v
def Y3(r:aj):∀(n:Nat)(c:aj),dB c<=n -> ∀k,part r k=c->U M ctx K (λ j=>W3 M ctx K (part r j)) c k=W3 M ctx K c:=by
 intro n
 induction n with
 |zero=>intro c f;cases c<;>simp[dB]at f
 |succ n ih =>
  intro c f k hk;have sub:∀(d:aj)(j:Nat),dB d<=n->part r j=d->Ox (motive:=λ _=>WX) (U M ctx K (λ j=>W3 M ctx K (part r j)) d j) (W3 M ctx K (part r j)) (bG j K.named)=W3 M ctx K d:=λ d j t s=>by
   cases bG j K.named with
   |true=>show W3 M ctx K (part r j)=_;rw[s]
   |false=>exact ih d t j s
  have pl:=@HF r;have z:=@ND r;cases c with
  |seq a b =>
   have e:pre (.seq a b)=.seq a b::(pre a++pre b):=by simp[pre,py]
   have ha:=HF (b:=b) hk (by simp) ⟨_,_,e⟩;have hb:=ND hk (by simp) ⟨_,e⟩;have hs:dB a+dB b<=n:=by simp only[dB]at f;omega
   have gen:(Ox (motive:=λ _=>WX) (U M ctx K (λ j=>W3 M ctx K (part r j)) a (k+1)) (W3 M ctx K (part r (k+1))) (bG (k+1) K.named))=W3 M ctx K a/\(Ox (motive:=λ _=>WX) (U M ctx K (λ j=>W3 M ctx K (part r j)) b (k+1+dB a)) (W3 M ctx K (part r (k+1+dB a))) (bG (k+1+dB a) K.named))=W3 M ctx K b :=
    ⟨sub a _ (by omega) ha,sub b _ (by omega) hb⟩
   cases a with
   |region l =>
    have plain:(Ox (motive:=λ _=>WX) (U M ctx K (λ j=>W3 M ctx K (part r j)) b (k+2)) (W3 M ctx K (part r (k+2))) (bG (k+2) K.named))=W3 M ctx K b:=sub b _ (by omega) hb;cases b with
    |cond c x y =>
     have e2:pre (.cond c x y)=.cond c x y::(pre x++pre y):=by simp[pre,py]
     have m:=HF (b:=y) hb (by simp) ⟨_,_,e2⟩;have p:=ND hb (by simp) ⟨_,e2⟩;have o:dB x+dB y+1<=n:=by simp only[dB]at hs;omega
     have s1:=sub x (k+3) (by omega) m;have s2:=sub y (k+3+dB x) (by omega) p;funext g Q E D H;simp only[U,W3,s1,s2]
    |seq b1 q =>
     cases b1 with
     |cond c x y =>
      have e1:pre (.seq (.cond c x y) q)=.seq (.cond c x y) q::(pre (.cond c x y)++pre q):=by simp[pre,py]
      have e2:pre (.cond c x y)=.cond c x y::(pre x++pre y):=by simp[pre,py]
      have h:=HF (b:=q) hb (by simp) ⟨_,_,e1⟩;have u:=ND hb (by simp) ⟨_,e1⟩;have m:=HF (b:=y) h (by simp) ⟨_,_,e2⟩;have p:=ND h (by simp) ⟨_,e2⟩;have o:dB x+dB y+1+dB q+1<=n:=by simp only[dB]at hs;omega
      have s1:=sub x (k+4) (by omega) m;have s2:=sub y (k+4+dB x) (by omega) p;have w:=sub q (k+4+dB x+dB y) (by omega) (by rw[<-u];simp only[dB];congr 1;omega);funext g Q E D H;simp only[U,W3,s1,s2,w]
     |_=>funext g Q E D H;simp only[U,W3]at plain⊢;simp only[plain]
    |_=>funext g Q E D H;simp only[U,W3]at plain⊢;simp only[plain]
   |_=>funext g Q E D H;simp only[U,W3]at gen⊢;simp only[gen.1,gen.2]
  |cond c x y =>
   have e2:pre (.cond c x y)=.cond c x y::(pre x++pre y):=by simp[pre,py]
   have m:=HF (b:=y) hk (by simp) ⟨_,_,e2⟩;have p:=ND hk (by simp) ⟨_,e2⟩;have o:dB x+dB y<=n:=by simp only[dB]at f;omega
   have s1:=sub x (k+1) (by omega) m;have s2:=sub y (k+1+dB x) (by omega) p;funext g Q E D H;simp only[U,W3,s1,s2]
  |block i b =>
   have s1:=sub b (k+1) (by simp only[dB]at f;omega) (HF (b:=b) hk (by simp) ⟨.block i b,[],by simp[pre]⟩);funext g Q E D H;simp only[U,W3,s1]
  |scope b =>
   have s1:=sub b (k+1) (by simp only[dB]at f;omega) (HF (b:=b) hk (by simp) ⟨.scope b,[],by simp[pre]⟩);funext g Q E D H;simp only[U,W3,s1]
  |loop i b =>
   have s1:=sub b (k+1) (by simp only[dB]at f;omega) (HF (b:=b) hk (by simp) ⟨.loop i b,[],by simp[pre]⟩);funext g Q E D H;cases i with
   |none=>simp only[U,W3,s1]
   |some _=>rfl
  |_=>funext g Q E D H;rfl
def QO:∃F:ao->Ctx->Kp×aj->WX,F=λ M ctx p=>W3 M ctx p.1 p.2:=⟨_,rfl⟩
def W:ao->Ctx->Kp×aj->WX:=Classical.choose QO
def mi(M:ao)(ctx:Ctx)(p:Kp×aj):W M ctx p=W3 M ctx p.1 p.2:=congrFun (congrFun (congrFun (Classical.choose_spec QO) M) ctx) p
def funcAt(P:Jy)(n:Nat):bT:=R3 (motive:=λ _=>bT) ⟨[],.stuck,[]⟩ (λ f=>f) ((aY P).func n)
def gK(F:bT)(i:Nat):dI:=R3 (motive:=λ _=>dI) ⟨[],.stuck,.stuck⟩ (λ l=>l) (nth F.loops i)
def yW{M:ao}{ctx:Ctx}{K:Kp}{r:aj}{k:Nat}{g:Bool}{Q:aJ}{E:Env}{D:List aQ}{H:ar}{R:Prop}(h:U M ctx K (λ j=>W M ctx (K,part r j)) (part r k) k g Q E D H=R):W M ctx (K,part r k) g Q E D H=R:=by
 rw[<-h];have e:(λ j=>W M ctx (K,part r j))=λ j=>W3 M ctx K (part r j):=by funext j;exact mi ..
 rw[e,Y3 (ctx:=ctx) (K:=K) r _ (part r k) (qm _) k rfl,mi]
abbrev uu:AV:=.undef
def TY(c:aj):part c 0=c:=xdc (DT c)
def XO{α β:Type}{a b:α}{x y:β}(h:(a,x)=(b,y)):a=b/\x=y:=by injection h with c d;exact⟨c,d⟩
def PQ{M:ao}{f:Nat}{fn:bT}(o:M.func f=B1 fn){ks:Kp}{vs:List AV}(hk:kB 0 vs.length ks.ai=B4){H:ar}{Q:bJ->ar->Prop}
 (h:W M ⟨B5,f⟩ (ks,part fn.body 0) B4 (eU M fn.results Q) (kM 0 vs) [] H):Dq M f vs H Q:=by
 rw[mi,TY]at h;refine q72 o (pV (W3.wp (fy fn.body) fn.body (qm _) (up:=B5) h (Wm hk)) λ e st⟨g,i,l,d⟩=>?_);have⟨tm,D,up,H'⟩:=st;have g:up=none:=g;subst g;have mono:∀{m:Option aH},ny M fn.results i Q D m H'->zP M fn.results tm (λ e H=>(B5:Option aH)=B5/\Q e H) D m H':=λ{m}h=>by
  have j:ny M fn.results i (λ e H=>(B5:Option aH)=B5/\Q e H) D m H':=by
   have e:(λ e H=>(B5:Option aH)=B5/\Q e H)=Q:=by funext e H;simp
   rw[e];exact h
  exact ny.SQ l j
 cases e with
 |normal=>exact mono d
 |ret=>exact mono d
 |panic c=>exact mono d
 |exit _=>exact d.elim
 |goto _=>exact d.elim
section
variable(E:Env)(H:ar)(K:Bool->AV->Prop)(K2:Bool->AV->ar->Prop)(A B:Bool->Prop)
def Lz(E:Env)(n:Nat)(K:Bool->AV->Prop):Prop:=LK B4 (lk E n) K
def Ly(g:Bool)(E:Env)(n:Nat)(K:Bool->AV->Prop):Prop:=LK g (lk E n) K
def Fl(g:Bool)(i:Nat)(a:AV)(H:ar)(K:Bool->AV->Prop):Prop:=B3 g (Op.fieldAddr i [a]) λ g x=>B3 g (Op.ah [x] H) K
def Nf(g:Bool)(i:Nat)(a:AV)(H:ar)(K:Bool->AV->Prop):Prop:=B3 g (Op.nilCheck [a]) λ g x=>Fl g i x H K
def Fs(g:Bool)(i:Nat)(a b:AV)(H:ar)(K:Bool->AV->ar->Prop):Prop:=B3 g (Op.fieldAddr i [a]) λ g x=>jN g (Op.store 1 [x,b] H) K
def Ns(g:Bool)(i:Nat)(a b:AV)(H:ar)(K:Bool->AV->ar->Prop):Prop:=B3 g (Op.nilCheck [a]) λ g x=>Fs g i x b H K
def Xl(g:Bool)(a b:AV)(H:ar)(K:Bool->AV->Prop):Prop:=B3 g (Op.aT 1 [a,b]) λ g x=>B3 g (Op.ah [x] H) K
def Xs(g:Bool)(a b c:AV)(H:ar)(K:Bool->AV->ar->Prop):Prop:=B3 g (Op.aT 1 [a,b]) λ g x=>jN g (Op.store 1 [x,c] H) K
def Bn(g:Bool)(o:BinOp)(a b:AV)(K:Bool->AV->Prop):Prop:=B3 g (Op.bin o [a,b]) K
def Cb(g:Bool)(o:BinOp)(a b:AV)(A B:Bool->Prop):Prop:=B3 g (Op.bin o [a,b]) λ g v=>nC g v A B
def Gt(g:Bool)(M:ao)(c:Ctx)(p:Kp×aj)(Q:aJ)(E:Env)(D:List aQ)(H:ar):Prop:=qM g (fj (W M c p) Q) .normal E D H
def Z8(n:Nat):Lz E n K=LK B4 (lk E n) K:=propext ki
def Vq(n:Nat):Ly B4 E n K=LK B4 (lk E n) K:=propext ki
def ZO(i:Nat)(a:AV):Fl B4 i a H K=B3 B4 (Op.fieldAddr i [a]) λ g x=>B3 g (Op.ah [x] H) K:=propext ki
def We(i:Nat)(a:AV):Nf B4 i a H K=B3 B4 (Op.nilCheck [a]) λ g x=>Fl g i x H K:=propext ki
def ab0(i:Nat)(a b:AV):Fs B4 i a b H K2=B3 B4 (Op.fieldAddr i [a]) λ g x=>jN g (Op.store 1 [x,b] H) K2:=propext ki
def ZU(i:Nat)(a b:AV):Ns B4 i a b H K2=B3 B4 (Op.nilCheck [a]) λ g x=>Fs g i x b H K2:=propext ki
def aa2(a b:AV):Xl B4 a b H K=B3 B4 (Op.aT 1 [a,b]) λ g x=>B3 g (Op.ah [x] H) K:=propext ki
def ab3(a b c:AV):Xs B4 a b c H K2=B3 B4 (Op.aT 1 [a,b]) λ g x=>jN g (Op.store 1 [x,c] H) K2:=propext ki
def Xu(o:BinOp)(a b:AV):Bn B4 o a b K=B3 B4 (Op.bin o [a,b]) K:=propext ki
def Vh(o:BinOp)(a b:AV):Cb B4 o a b A B=B3 B4 (Op.bin o [a,b]) λ g v=>nC g v A B:=propext ki
def WY(M:ao)(c:Ctx)(p:Kp×aj)(Q:aJ)(D:List aQ):Gt B4 M c p Q E D H=qM B4 (fj (W M c p) Q) .normal E D H:=propext ki
end
end
end Go.Am
namespace Go.Am
end Go.Am
namespace Go.Am
section
variable{M:ao}{ctx:Ctx}{cX:Bool}{Q Q':aJ}{E:Env}{D:List aQ}
def Ti{α:Type}{m:Bool}{o:Option α}{K K':Bool -> α->Prop}(h:B3 m o K)(hk:∀a,K m a->K' m a):B3 m o K':=by
 cases o with
 |none=>exact h
 |some a=>exact hk a h
def xf8{α β:Type}{m:Bool}{o:Option (α×β)}{K K':Bool -> α -> β->Prop}(h:jN m o K)(hk:∀a b,K m a b->K' m a b):jN m o K':=by
 cases o with
 |none=>exact h
 |some a=>exact hk a.1 a.2 h
def _x{α:Type}{m:Bool}{o:Option α}{K K':Bool -> α->Prop}(h:LK m o K)(hk:∀a,K m a->K' m a):LK m o K':=by
 cases o with
 |none=>exact h
 |some a=>exact hk a h
def ι{m:Bool}{v:AV}{A B c d:Bool->Prop}(h:nC m v A B)(ha:A m->c m)(hb:B m->d m):nC m v c d:=by
 obtain⟨q,rfl,h⟩:=h.elim;cases q with
 |true=>exact ha h
 |false=>exact hb h
def YQ{L R:Env}{t:Nat}{g:Bool}{K K':Bool->Env->AV->Prop}(h:TV E L R t g K)(hk:∀R v,K g R v->K' g R v):TV E L R t g K':=by
 unfold TV at h⊢;cases hl:lk L t with
 |some v=>rw[hl]at h;exact hk _ _ h
 |none =>
  rw[hl]at h;cases c:lk R t with
  |some v=>rw[c]at h;exact hk _ _ h
  |none=>rw[c]at h;exact _x h λ v q=>hk _ _ q
def τ{x:bL}{g:Bool}{K K':Bool->AV->Prop}(h:OV E x g K)(hk:∀v,K g v->K' g v):OV E x g K':=by
 cases x with
 |tmp t=>simp only[OV]at h⊢;exact _x h hk
 |const v=>exact hk _ h
 |eJ b=>exact hk _ h
 |func f=>exact hk _ h
def Ik{L R:Env}{x:bL}{g:Bool}{K K':Bool->AV->Prop}(h:CV E L R x g K)(hk:∀v,K g v->K' g v):CV E L R x g K':=by
 cases x with
 |tmp t=>simp only[CV]at h⊢;exact YQ h λ _ v=>hk v
 |const v=>exact hk _ h
 |eJ b=>exact hk _ h
 |func f=>exact hk _ h
def OH{L:Env}{g:Bool}:∀{l:List bL}{R:Env}{K K':Bool->Env->List AV->Prop},zO E L l g R K->(∀R vs,K g R vs->K' g R vs)->zO E L l g R K'
 |[],R,K,K',h,hk=>hk _ _ h
 | .tmp t::xs,R,K,K',h,hk=>YQ (K:=λ g R v=>zO E L xs g R λ g R vs=>K g R (v::vs)) (K':=λ g R v=>zO E L xs g R λ g R vs=>K' g R (v::vs)) h λ R v q=>OH (K:=λ g R vs=>K g R (v::vs)) (K':=λ g R vs=>K' g R (v::vs)) q λ R vs=>hk _ _
 | .const v::xs,R,K,K',h,hk=>OH (l:=xs) (K:=λ g R vs=>K g R (v::vs)) (K':=λ g R vs=>K' g R (v::vs)) h λ R vs=>hk _ _
 | .eJ v::xs,R,K,K',h,hk=>OH (l:=xs) (K:=λ g R vs=>K g R (.ptr v 0::vs)) (K':=λ g R vs=>K' g R (.ptr v 0::vs)) h λ R vs=>hk _ _
 | .func v::xs,R,K,K',h,hk=>OH (l:=xs) (K:=λ g R vs=>K g R (.fn (.func v) [] []::vs)) (K':=λ g R vs=>K' g R (.fn (.func v) [] []::vs)) h λ R vs=>hk _ _
def _h(f:∀e E D H,Q e E D H->Q' e E D H){d:Option (List Nat)}{ks:List Nat}{c:aH}{H:ar}(h:PX d ks Q E D c H):PX d ks Q' E D c H:=by
 cases d with
 |none=>exact h
 |some _=>exact f _ _ _ _ h
def Tz(l:∀e E D H,Q e E D H->Q' e E D H){j:Option (List Nat)}{L:Env}{g:Bool}{f:mC}{vs:List AV}{H:ar}{K K':Bool->AV->ar->Prop}(h:Dl M cX j L Q E D g f vs H K)(hk:∀v H,K g v H->K' g v H):Dl M cX j L Q' E D g f vs H K':=by
 cases cX with
 |false=>obtain⟨v,H',i,d⟩:=h;exact⟨v,H',i,hk _ _ d⟩
 |true =>
  obtain⟨e,H',i,d⟩:=h;refine⟨e,H',i,?_⟩;cases e with
  |ret v=>exact hk _ _ d
  |panic c=>exact _h l d
def Eh(c:∀e E D H,Q e E D H->Q' e E D H){s:aR}{K K':KR}{g:Bool}{L R:Env}{H:ar}(h:FO M cX s Q E D K g L R H)(hk:∀L R H,K g L R H->K' g L R H):FO M cX s Q' E D K' g L R H:=by
 refine OH (show zO E L s.args g R _ from h) λ R vs h=>?_;obtain⟨iq,dst,guard,args,op,i⟩:=s;cases iq with
 |true =>
  have h:Sg dst E L R H K g vs op:=h;show Sg dst E L R H K' g vs op;cases op with
  |read f =>
   cases dst with
   |none=>exact h
   |some d=>exact⟨h.1,hk _ _ _ h.2⟩
  |_=>exact h
 |false =>
  have h:vV M cX dst i Q E D L R H K g vs op:=h;show vV M cX dst i Q' E D L R H K' g vs op;cases op with
  |pure f=>simp only[vV]at h⊢;exact Ti h λ a=>hk _ _ _
  |read f=>simp only[vV]at h⊢;exact Ti h λ a=>hk _ _ _
  |alloc f=>simp only[vV]at h⊢;exact xf8 h λ a b=>hk _ _ _
  |gY f=>simp only[vV]at h⊢;exact xf8 h λ a b=>hk _ _ _
  |ir f=>exact Tz c h λ v H=>hk _ _ _
  |im =>
   simp only[vV,V3]at h⊢;split at h
   .exact Tz c h λ v H=>hk _ _ _
   .exact Tz c h λ v H=>hk _ _ _
   .exact h.elim
  |invoke n =>
   simp only[vV,N3]at h⊢;split at h
   .exact Ti h λ a q=>Tz c q λ v H=>hk _ _ _
   .exact h.elim
  |recover=>exact h
  |defer=>exact h
  |panic =>
   cases cX with
   |false=>exact h
   |true =>
    have h:gE vs H (PX i (lM L) Q E D):=h;show gE vs H (PX i (lM L) Q' E D);unfold gE at h⊢;split at h
    .exact _h c h
    .exact h.elim
def Xx(c:∀e E D H,Q e E D H->Q' e E D H){K K':KR}{g:Bool}(hk:∀L R H,K g L R H->K' g L R H):∀{l:List aR}{L R:Env}{H:ar},pT M cX Q E D K l g L R H->pT M cX Q' E D K' l g L R H
 |[],L,R,H,h=>hk _ _ _ h
 |s::l,L,R,H,h=>Eh c (show FO M cX s Q E D (pT M cX Q E D K l) g L R H from h) λ L R H=>Xx c hk
def XQ:∀(n:Nat){f f':List AV->ar->Prop},(∀vs H,f vs H->f' vs H) -> ∀(l:List AV)(H:ar),pY n (rJ n f) l H->pY n (rJ n f') l H
 |0,f,f',hf,l,H,h=>hf [] H h
 |n+1,f,f',hf,[],H,h=>h
 |n+1,f,f',hf,v::l,H,h=>XQ n (f:=λ l=>f (v::l)) (f':=λ l=>f' (v::l)) (λ vs H=>hf _ _) l H h
def Fb(f:∀e E D H,Q e E D H->Q' e E D H){x:Ge}{K K':KR}{g:Bool}(hk:∀L R H,K g L R H->K' g L R H){L R:Env}{H:ar}(h:P5 M cX Q E D x K g L R H):P5 M cX Q' E D x K' g L R H:=by
 obtain⟨q,l⟩:=x;cases q with
 |none=>exact Xx f hk (show pT M cX Q E D K l g L R H from h)
 |some q =>
  cases ho:vQ q.1 l with
  |false =>
   have h:cond (vQ q.1 l) _ False:=h;rw[ho]at h;exact h.elim
  |true =>
   have h:cond (vQ q.1 l) _ False:=h;rw[ho,xv]at h;show cond (vQ q.1 l) _ False;rw[ho,xv];refine YQ h λ c v h=>?_;have h:B3 g (cQ q.2 (B1 v)) λ g w=>xI g w (λ g=>pT M cX Q E D (λ g d _ H=>pY (cW (bA l [])) (rJ (cW (bA l [])) λ vs H=>K g (lG (bA l []) L vs) c H) (rL (cW (bA l [])) d) H) l g L c H)
    (λ g=>pY (cW (bA l [])) (rJ (cW (bA l [])) λ vs H=>K g (lG (bA l []) L vs) c H) (rV (cW (bA l []))) H):=h
   refine Ti (K':=λ g w=>xI g w (λ g=>pT M cX Q' E D (λ g d _ H=>pY (cW (bA l [])) (rJ (cW (bA l [])) λ vs H=>K' g (lG (bA l []) L vs) c H) (rL (cW (bA l [])) d) H) l g L c H)
    (λ g=>pY (cW (bA l [])) (rJ (cW (bA l [])) λ vs H=>K' g (lG (bA l []) L vs) c H) (rV (cW (bA l []))) H)) h λ w h=>?_
   cases w with
   |true=>exact Xx f (λ d R H h=>XQ _ (λ vs H=>hk _ _ _) _ _ h) (show pT M cX Q E D _ l g L c H from h)
   |false=>exact XQ _ (λ vs H=>hk _ _ _) _ _ h
def SD(c:∀e E D H,Q e E D H->Q' e E D H){l:List aR}{K K':KR}{g:Bool}(hk:∀L R H,K g L R H->K' g L R H){H:ar}(h:qP M cX Q E D l g H K):qP M cX Q' E D l g H K':=by
 unfold qP at h⊢;generalize Jn l=gs at h⊢;generalize([]:Env)=L at h⊢;have key:∀(gs:List Ge)(L R:Env)(H:ar),zE M cX Q E D K gs g L R H->zE M cX Q' E D K' gs g L R H:=by
  intro gs
  induction gs with
  |nil=>exact λ L R H h=>hk _ _ _ h
  |cons x gs ih=>exact λ L R H h=>Fb c ih (show P5 M cX Q E D x (zE M cX Q E D K gs) g L R H from h)
 exact key gs L L H h
def HN{K:Kp}:∀(n:Nat)(c:aj),fy c<=n -> ∀{g:Bool}{Q Q':aJ}{E:Env}{D:List aQ}{H:ar},(∀e E D H,Q e E D H->Q' e E D H)->W3 M ctx K c g Q E D H->W3 M ctx K c g Q' E D H:=by
 intro n
 induction n with
 |zero =>
  intro c j g Q Q' E D H i h;cases c with
  |region l=>exact SD i (λ L R H h=>i _ _ _ _ h) h
  |rangeFunc f k =>
   have h:OV E f g λ g v=>iA M K.ai ctx k E D H Q v:=h;show OV E f g λ g v=>iA M K.ai ctx k E D H Q' v;have key:∀v,iA M K.ai ctx k E D H Q v->iA M K.ai ctx k E D H Q' v:=λ v h tm up he=>by
    have:=h tm up he;unfold JR at this⊢;split
    .rename_i hr;rw[hr]at this;exact NK this λ e st⟨p,u,w⟩=>⟨p,u,i _ _ _ _ w⟩
    .rename_i l hr;rw[hr]at this;exact FI (m:=aI) this λ d q=>NK q λ e st⟨p,u,w⟩=>⟨p,u,i _ _ _ _ w⟩
   exact τ h key
  |skip=>exact i _ _ _ _ h
  |label _=>exact i _ _ _ _ h
  |exit _=>exact i _ _ _ _ h
  |goto _=>exact i _ _ _ _ h
  |ret=>exact i _ _ _ _ h
  |stuck=>exact h
  |seq _ _=>simp[fy]at j
  |cond _ _ _=>simp[fy]at j
  |block _ _=>simp[fy]at j
  |loop _ _=>simp[fy]at j
  |scope _=>simp[fy]at j
 |succ n ih =>
  intro c j g Q Q' E D H i h;have C:∀{b:aj},fy b<=n -> ∀e E D H,fj (W3 M ctx K b) Q e E D H->fj (W3 M ctx K b) Q' e E D H:=λ hb e E D H h=>by
   cases e with
   |normal=>exact ih _ hb i h
   |_=>exact i _ _ _ _ h
  cases c with
  |seq a b =>
   have o:fy a+fy b<=n:=by simp only[fy]at j;omega
   have gen:W3 M ctx K a g (fj (W3 M ctx K b) Q) E D H->W3 M ctx K a g (fj (W3 M ctx K b) Q') E D H:=λ h=>ih a (by omega) (C (by omega)) h;cases a with
   |region l =>
    have plain:(qP M K.cX Q E D l g H λ g L _ H=>W3 M ctx K b g Q (dJ K.ai E L) D H)->qP M K.cX Q' E D l g H λ g L _ H=>W3 M ctx K b g Q' (dJ K.ai E L) D H:=λ h=>SD i (λ L R H h=>ih b (by omega) i h) h;have cv:∀{L R:Env}{c:bL}{A B s t:Bool->Prop},CV E L R c g (λ g v=>nC g v A B)->(A g->s g)->(B g->t g)->CV E L R c g (λ g v=>nC g v s t):=λ{L R c A B s t}h ha hb=>by
     exact Ik h λ v h=>ι h ha hb
    cases b with
    |cond c x y =>
     have z:fy x+fy y+1<=n:=by simp only[fy]at o;omega
     exact SD i (λ L R H h=>cv h (ih x (by omega) i) (ih y (by omega) i)) h
    |seq b1 r =>
     cases b1 with
     |cond c x y =>
      have z:fy x+fy y+1+fy r+1<=n:=by simp only[fy]at o;omega
      exact SD i (λ L R H h=>cv h (ih x (by omega) (C (by omega))) (ih y (by omega) (C (by omega)))) h
     |_=>exact plain h
    |_=>exact plain h
   |_=>exact gen h
  |cond c x y =>
   have o:fy x+fy y<=n:=by simp only[fy]at j;omega
   have h:OV E c g λ g v=>nC g v (λ g=>W3 M ctx K x g Q E D H) (λ g=>W3 M ctx K y g Q E D H):=h;exact τ (K':=λ g v=>nC g v (λ g=>W3 M ctx K x g Q' E D H) (λ g=>W3 M ctx K y g Q' E D H)) h λ v h=>ι h (ih x (by omega) i) (ih y (by omega) i)
  |block id b =>
   have hb:fy b<=n:=by simp only[fy]at j;omega
   exact ih b hb (λ e E D H h=>by cases e<;>exact i _ _ _ _ h) h
  |scope b =>
   have hb:fy b<=n:=by simp only[fy]at j;omega
   exact ih b hb (λ e E D H h=>by cases e<;>first|exact i _ _ _ _ h|exact⟨h.1,i _ _ _ _ h.2⟩) h
  |loop ai b =>
   have hb:fy b<=n:=by simp only[fy]at j;omega
   cases ai with
   |some _=>exact h
   |none =>
    obtain⟨I,F,p⟩:=h;exact⟨I,F,λ n E D H G=>ih b hb (λ e E D H h=>by cases e<;>first|exact h|exact i _ _ _ _ h) (p n E D H G)⟩
  |_=>exact ih _ (x9 _) i h
end
def W.mono{M:ao}{ctx:Ctx}{p:Kp×aj}{g:Bool}{Q Q':aJ}{E:Env}{D:List aQ}{H:ar}(h:W M ctx p g Q E D H)(c:∀e E D H,Q e E D H->Q' e E D H):W M ctx p g Q' E D H:=by
 rw[mi]at h⊢;exact HN _ p.2 (qm _) c h
end Go.Am
namespace Go.Am
universe u
noncomputable section
variable(X:WX)(Q:aJ)(E:Env)(D:List aQ)(H:ar)(I:Kl)(n:Nat)
def xea:fj X Q .normal E D H=X B4 Q E D H:=propext ki
def ag2:fj X Q .ret E D H=Q .ret E D H:=propext ki
def xkg(l:Nat):fj X Q (.exit l) E D H=Q (.exit l) E D H:=propext ki
def xkh(l:Nat):fj X Q (.goto l) E D H=Q (.goto l) E D H:=propext ki
def xh6(c:aH):fj X Q (.panic c) E D H=Q (.panic c) E D H:=propext ki
def xd5(i:Nat):eY i Q .normal E D H=Q .normal E D H:=propext ki
def Ew(i:Nat):eY i Q .ret E D H=Q .ret E D H:=propext ki
def xj3(i l:Nat):eY i Q (.goto l) E D H=Q (.goto l) E D H:=propext ki
def xhs(i:Nat)(c:aH):eY i Q (.panic c) E D H=Q (.panic c) E D H:=propext ki
def xj2(i l:Nat):eY i Q (.exit l) E D H=if i=l then Q .normal E D H else Q (.exit l) E D H:=by
 show Q (cond (J8 i l) .normal (.exit l)) E D H=_
 by_cases h:i=l
 .subst h;simp
 .rw [qv h,GH h];rfl
section
variable(M:ao)(rs:List eE)(Q:bJ->ar->Prop)(P:List AV->Prop)(R:AV->ar->Prop)
def Cf:eU M rs Q .ret E [] H=jF E H rs λ l=>Q (.ret (jE l)) H:=propext ki
def xd9:eU M rs Q .normal E [] H=jF E H rs λ l=>Q (.ret (jE l)) H:=propext ki
def xhy(c:aH):eU M rs Q (.panic c) E [] H=Q (.panic c) H:=propext ki
def ag0:jF E H [] P=P []:=propext ki
def Ci(t:Nat):jF E H (.tmp t::rs) P=LK B4 (lk E t) λ _ v=>jF E H rs λ vs=>P (v::vs):=propext ki
def xh4(t:Nat):jF E H (.lC t::rs) P=LK B4 (lk E t) λ _ v=>B3 B4 (Op.ah [v] H) λ _ v=>jF E H rs λ vs=>P (v::vs):=propext ki
def xh5(n t:Nat):jF E H (.dg n t::rs) P=LK B4 (lk E t) λ _ v=>B3 B4 (Op.aw n [v] H) λ _ v=>jF E H rs λ vs=>P (v::vs):=propext ki
def Iu(v:AV):uI R (.ret v) H=R v H:=propext ki
end
def J1:((0:Nat):Int)=0:=rfl
def z6(l:List AV):AV.cells (.agg l)=l:=rfl
def xk3(k:PD)(n:Int):AV.cells (.int k n)=[.int k n]:=rfl
def xie(b:Bool):AV.cells (.bool b)=[.bool b]:=rfl
def xk6(s:List UInt8):AV.cells (.str s)=[.str s]:=rfl
def xk5(b o:Nat):AV.cells (.ptr b o)=[.ptr b o]:=rfl
def OA(I:Nat->Env->ar->Prop)(D:List aQ)(n:Nat)(Q:aJ):aJ:=λ e E D' H=>match e with
 | .normal=>D'=D /\ ∃m E',I m E' H/\yJ E' E/\m<n
 |e=>Q e E D' H
def dm.intro{M:ao}{ctx:Ctx}{p:Kp×aj}{Q:aJ}{E:Env}{D:List aQ}{H:ar}(I:Nat->Env->ar->Prop)(j:∃n d,I n d H/\yJ d E)(h:∀n E H,I n E H->W M ctx p B4 (OA I D n Q) E D H):dm (W M ctx p) Q E D H:=by
 obtain⟨n,d,l,o⟩:=j;refine⟨λ n E D' H=>D'=D/\I n E H,⟨n,d,⟨rfl,l⟩,o.ss⟩,λ n E D' H⟨e,r⟩=>?_⟩;subst e;refine W.mono (h n E H r) λ e E g H f=>?_;cases e with
 |normal=>obtain⟨q,m,i,a,b,c⟩:=f;exact⟨m,i,⟨q,a⟩,b.ss,c⟩
 |_=>exact f
def OX(P:Env->List aQ->ar->Prop)(Q:aJ):aJ:=λ e E D H=>match e with
 | .normal=>P E D H
 |e=>Q e E D H
def xhz(P:Env->List aQ->ar->Prop)(Q:aJ)(E:Env)(D:List aQ)(H:ar):OX P Q .normal E D H=P E D H:=propext ki
def IL(P:Env->List aQ->ar->Prop)(Q:aJ)(E:Env)(D:List aQ)(H:ar):OX P Q .ret E D H=Q .ret E D H:=propext ki
def Cr(P:Env->List aQ->ar->Prop)(Q:aJ)(E:Env)(D:List aQ)(H:ar)(l:Nat):OX P Q (.exit l) E D H=Q (.exit l) E D H:=propext ki
def LN(X:WX)(Q:aJ):Nat->Env->List aQ->ar->Prop
 |0,_,_,_=>False
 |n+1,E,D,H=>X B4 (OX (LN X Q n) Q) E D H
def Hm(X:WX)(Q:aJ)(n:Nat)(E:Env)(D:List aQ)(H:ar):LN X Q (n+1) E D H=X B4 (OX (LN X Q n) Q) E D H:=propext ki
def xh0(I:Nat->Env->ar->Prop)(D:List aQ)(n:Nat)(Q:aJ)(E:Env)(H:ar):OA I D n Q .normal E D H = ∃m c,I m c H/\yJ c E/\m<n:=propext ⟨λ h=>h.2,λ h=>⟨rfl,h⟩⟩
def HC(I:Nat->Env->ar->Prop)(D D':List aQ)(n:Nat)(Q:aJ)(E:Env)(H:ar):OA I D n Q .ret E D' H=Q .ret E D' H:=propext ki
def af0(I:Nat->Env->ar->Prop)(D D':List aQ)(n:Nat)(Q:aJ)(E:Env)(H:ar)(l:Nat):OA I D n Q (.exit l) E D' H=Q (.exit l) E D' H:=propext ki
def af3(I:Nat->Env->ar->Prop)(D D':List aQ)(n:Nat)(Q:aJ)(E:Env)(H:ar)(l:Nat):OA I D n Q (.goto l) E D' H=Q (.goto l) E D' H:=propext ki
def xkc(I:Nat->Env->ar->Prop)(D D':List aQ)(n:Nat)(Q:aJ)(E:Env)(H:ar)(c:aH):OA I D n Q (.panic c) E D' H=Q (.panic c) E D' H:=propext ki
def sw{α:Sort u}(b:Bool)(x y:α):α:=cond b x y
@[congr]def ab7{α:Sort u}{b c:Bool}{x y:α}(h:b=c):sw b x y=sw c x y:=by rw[h]
def QT{α:Sort u}(x y:α):sw B4 x y=x:=rfl
def RM{α:Sort u}(x y:α):sw B2 x y=y:=rfl
def Ja{α:Sort u}(p:Prop)[Decidable p](x y:α):(if p then x else y)=sw (decide p) x y:=by by_cases h:p<;>simp[h,sw]
def QE(k t:Nat)(v:AV)(E:Env):lk ((k,v)::E) t=sw (decide (k=t)) (B1 v) (lk E t):=(wY ..).trans (Ja ..)
def GK(Q:aJ)(E:Env)(D:List aQ)(H:ar)(i l:Nat):eY i Q (.exit l) E D H=sw (decide (i=l)) (Q .normal E D H) (Q (.exit l) E D H):=(xj2 ..).trans (Ja ..)
def ZK(α:Type)(h:Decidable True)(x y:α):@ite α True h x y=x:=xb trivial
def Y0(α:Type)(h:Decidable False)(x y:α):@ite α False h x y=y:=qv id
def QF(h:Decidable True)(x y:Prop):@ite Prop True h x y=x:=xb trivial
def Pb(h:Decidable False)(x y:Prop):@ite Prop False h x y=y:=qv id
def P8:=Hu @GX<|Hu @Ig<|Hu @Dt<|Hu ad0<|Hu xj9<|Hu ah6<|Hu xka<|Hu Du<|Hu QX<|Hu @JB<|Hu Dp <|
 Hu G8<|Hu ad8<|Hu ae0<|Hu QE<|Hu CO<|Hu E9<|Hu Ii <|
 Hu xea<|Hu ag2<|Hu xkg<|Hu xkh<|Hu xh6<|Hu xd5<|Hu Ew<|Hu xj3<|Hu xhs<|Hu GK <|
 Hu xhz<|Hu IL<|Hu Cr<|Hu Hm<|Hu xh0<|Hu HC<|Hu af0<|Hu af3<|Hu xkc<|Hu Cf<|Hu xd9<|Hu xhy<|Hu ag0<|Hu Ci<|Hu xh4<|Hu xh5 <|
 Hu Iu<|Hu Z8<|Hu Vq<|Hu ZO<|Hu We<|Hu ab0<|Hu ZU<|Hu aa2<|Hu ab3<|Hu Xu<|Hu Vh<|Hu WY<|Hu VP<|Hu Zs Zi
def RZ:=Hu ZK<|Hu Y0<|Hu QF<|Hu Pb<|Hu @QT.{1}<|Hu @RM.{1}<|Hu @QT.{0}<|Hu @RM.{0}<|Hu Kn<|Hu LD<|Hu @PY<|Hu @OO<|Hu @Q5<|Hu @Pt<|Hu @RN<|Hu @O7<|Hu @Qp<|Hu @Rv<|Hu @Ph<|Hu @Mv<|Hu QV <|
 Hu KU<|Hu L4<|Hu DW<|Hu ad5<|Hu xmo<|Hu xfl<|Hu af9<|Hu MC<|Hu GN<|Hu Ix<|Hu PF <|
 Hu z6<|Hu xk3<|Hu xie<|Hu xk6<|Hu xk5<|Hu @decide_true<|Hu @Ji<|Hu Bool.not_true<|Hu Bool.not_false<|Hu not_true_eq_false<|Hu not_false_eq_true<|Hu @ne_eq.{1}<|Hu Eo<|Hu tG<|Hu false_and<|Hu and_false <|
 Hu @xv.{1}<|Hu @zo.{1}<|Hu @qr.{0,0}<|Hu vc<|Hu yf<|Hu @ja.{0}<|Hu @zp.{0}<|Hu @z7.{0} @vx.{0}
def PC:type_of% J1/\type_of% P8/\type_of% RZ:=⟨J1,P8,RZ⟩
section
variable{α:Type}{enc:α->List AV}{e size:Nat}{H0 H H':ar}{v:AV}{xs:List α}
def tX.to3{α β:Type}{m g:Bool}{o:Option (α×β)}{K:Bool -> α -> β->Prop}(h:tX m o λ _ a b=>K g a b):jN g o K:=by
 cases o with
 |none=>exact NT h
 |some a=>exact h
def QY{H:ar}{e size bytes:Nat}{v:AV}{n:Nat}{cells:List AV}(h:Own H e size v n cells){x:AV}{k:Nat}{new:List AV}(i:Sl H size x k new)(c:aS new=B4)(hs:0<size)
 (g:(n+k)*bytes<=140737488355328) (d:n+k<=140737488355328) {K:Bool->AV->ar->Prop} {m:Bool}
 (hk:∀f H',Own H' e size f (n+k) (cells++new)->Fr (aM v) H H'->(∀b,aM f b->aM v b\/H.au<=b)->K m f H'):jN m (Op.append e size bytes [v,x] H) K :=
 tX.to3 (m:=m) (q7z h i c hs g d hk)
def nY{H:ar}{e size bytes:Nat}{v:AV}{n:Nat}{cells:List AV}(h:Own H e size v n cells){zero:List AV}{x:AV}(q:zero.length=size)(p:x.cells.length=size)(c:aS x.cells=B4)(hs:0<size)
 (l:(n+1)*bytes<=140737488355328) (f:n+1<=140737488355328) {K:bF->(Nat->AV)->Bool->AV->ar->Prop} {m:Bool}
 (hk:∀i H',Own H' e size i (n+1) (cells++x.cells)->Fr (aM v) H H'->(∀b,aM i b->aM v b\/H.au<=b)->K (.row x.cells e (0,0) B4) (Op.sliceTo 1 1) m i H') :
 jN m (Op.buildSlice e 1 zero [(0,size)] [x]) λ g o mk=>jN g (Op.append e size bytes [v,mk H.au] (H.alloc o)) (K o mk):=by
 have:=HH (m:=m) h q p c hs l f (K:=λ o mk _ v H=>K o mk m v H) hk;obtain⟨o,mk,j,d⟩:∃o mk,Op.buildSlice e 1 zero [(0,size)] [x]=B1 (o,mk)/\tX B4 (Op.append e size bytes [v,mk H.au] (H.alloc o)) (λ _ v H=>K o mk m v H):=by
  unfold tX at this;split at this
  .rename_i a ha;exact⟨a.1,a.2,ha,this⟩
  .exact this.elim
 refine jN.intro j ?_;unfold tX at d;split at d
 .rename_i a ha;exact jN.intro (a:=a.1) (b:=a.2) ha d
 .exact d.elim
end
end
def qt(b o:Nat):Op.nilCheck [.ptr b o]=B1 (.ptr b o):=rfl
def xm(i:Nat)(l:List AV):Op.extract i [.tuple l]=l[i]?:=xmm i l
end Go.Am
namespace Go.Am
def Ke:List bL->Option Nat
 |[.tmp t]=>B1 t
 |_=>B5
def Lr(s:aR):Option Nat:=match s.op,s.iq,s.guard,s.dst with
 | .defer,B2,B5,B5=>Ke s.args
 |_,_,_,_=>B5
def HQ:List aR->Option (List aR×Nat×List aR)
 |[]=>B5
 |s::r=>match Lr s with
  |some t=>B1 ([],t,r)
  |none=>(HQ r).map λ q=>(s::q.1,q.2.1,q.2.2)
def rS:aj->Option (aj×Nat×aj)
 | .region l=>(HQ l).map λ q=>(.region q.1,q.2.1,.region q.2.2)
 | .seq a b=>match rS a with
  |some q=>B1 (q.1,q.2.1,.seq q.2.2 b)
  |none=>(rS b).map λ q=>(.seq a q.1,q.2.1,q.2.2)
 |_=>B5
noncomputable def zV(c:aj):aj:=R3 (motive:=λ _=>aj) .stuck (λ q=>q.1) (rS c)
noncomputable def xH(c:aj):aj:=R3 (motive:=λ _=>aj) .stuck (λ q=>q.2.2) (rS c)
section
variable{M:ao}{ctx:Ctx}
def DX(W:St->cH->Prop)(t:Nat)(st:St)(Q:cH):Prop:=∃g first cap,st.tm.get t=B1 (.fn (.func g) first cap)/\W ⟨st.tm,.fn (.func g) (first++cap)::st.bj,st.up,st.H⟩ Q
def DV{s:aR}{st:St}{Q Q':cH}{K:St->Prop}(h:∀c st,Q (.panic c) st=Q' (.panic c) st):qX M ctx s st Q K=qX M ctx s st Q' K:=by
 have e:∀d tm bj up,AJ d tm bj up Q=AJ d tm bj up Q':=λ d tm bj up=>by
  funext c H;cases d with
  |none=>rfl
  |some ds=>exact h _ _
 have o:∀dst d vs op,pe M ctx dst d st Q K vs op=pe M ctx dst d st Q' K vs op:=λ dst d vs op=>by
  cases op<;>simp only[pe,e]
 unfold qX;simp only[o]
def xk9(hr:ctx.round=B5):∀{l l1 l2:List aR}{t:Nat},HQ l=B1 (l1,t,l2) -> ∀{st:St}{Q:cH},oJ M ctx l1 st (C8 (DX (oJ M ctx l2) t) Q)->oJ M ctx l st Q
 |s::r,l1,l2,t,h,st,Q,w=>by
  unfold HQ at h;cases c:Lr s with
  |some t' =>
   rw[c]at h;injection h with h;injection h with i h;injection h with j p
   subst i;subst j;subst p;have⟨iq,dst,guard,args,op,x⟩:=s;unfold Lr at c;split at c
   .rename_i e1 e2 f o;subst e1;subst e2;subst f;subst o;unfold Ke at c;split at c
    .rename_i e;simp only at e;subst e;cases c;have⟨g,first,cap,i,j⟩:=w;exact bR.intro (m:=aI) i ⟨hr,j⟩
    .cases c
   .cases c
  |none =>
   rw[c]at h;have⟨q,u,e⟩:=xk.1 h;injection e with e1 e;injection e with e2 f
   subst e1;subst e2;subst f;have w:qX M ctx s st (C8 (DX (oJ M ctx q.2.2) q.2.1) Q) λ d=>oJ M ctx q.1 d (C8 (DX (oJ M ctx q.2.2) q.2.1) Q):=w;rw[DV (Q:=C8 (DX (oJ M ctx q.2.2) q.2.1) Q) (Q':=Q) (λ _ _=>rfl)]at w;exact m0 w (λ _ _ h=>h) λ d h=>xk9 hr u h
def US(hr:ctx.round=B5):∀{c x y:aj}{t:Nat},rS c=B1 (x,t,y) -> ∀{st:St}{Q:cH},WP M ctx x st (C8 (DX (WP M ctx y) t) Q)->WP M ctx c st Q
 | .region l,x,y,t,h,st,Q,w=>by
  unfold rS at h;have⟨q,f,e⟩:=xk.1 h;injection e with e1 e;injection e with e2 d
  subst e1;subst e2;subst d;exact xk9 hr f w
 | .seq a b,x,y,t,h,st,Q,w=>by
  unfold rS at h;cases ha:rS a with
  |some q =>
   rw[ha]at h;injection h with h;injection h with i h;injection h with j m
   subst i;subst j;subst m;refine US hr (c:=a) ha (pV w λ e g h=>?_);cases e with
   |normal=>exact h
   |_=>exact h
  |none =>
   rw[ha]at h;have⟨q,f,e⟩:=xk.1 h;injection e with e1 e;injection e with e2 d
   subst e1;subst e2;subst d;show WP M ctx a st (C8 (WP M ctx b) Q);refine pV (show WP M ctx a st (C8 (WP M ctx q.1) (C8 (DX (WP M ctx q.2.2) q.2.1) Q))from w) λ e g h=>?_;cases e with
   |normal=>exact US hr (c:=b) f h
   |_=>exact h
end
def D2(M:ao)(ctx:Ctx)(p:Kp×aj)(t:Nat)(Q:aJ):aJ:=λ e E D H=>match e with
 | .normal=>LK B4 (lk E t) λ _ v=>∃g first cap,v=.fn (.func g) first cap/\W M ctx p B4 Q E (.fn (.func g) (first++cap)::D) H
 |e=>Q e E D H
def xd7{M:ao}{ctx:Ctx}{p:Kp×aj}{t:Nat}{Q:aJ}{E:Env}{D:List aQ}{H:ar}:D2 M ctx p t Q .normal E D H=LK B4 (lk E t) λ _ v=>∃g first cap,v=.fn (.func g) first cap/\W M ctx p B4 Q E (.fn (.func g) (first++cap)::D) H:=rfl
def xf9{M:ao}{ctx:Ctx}{p:Kp×aj}{t:Nat}{Q:aJ}{E:Env}{D:List aQ}{H:ar}:D2 M ctx p t Q .ret E D H=Q .ret E D H:=rfl
def Oa{M:ao}{rs:List eE}{ks:List Nat}{Q:bJ->ar->Prop}{up:Option aH}{e:aZ}{st:St}(h:QQ ks (eU M rs Q) up e st):Yl M rs (λ e u H=>u=up/\Q e H) e st:=by
 have⟨f,g,j,d⟩:=h;have⟨tm,D,u,H'⟩:=st;have f:u=up:=f;subst f;have mono:∀{m:Option aH},ny M rs g Q D m H'->zP M rs tm (λ e H=>u=u/\Q e H) D m H':=λ{m}h=>by
  have i:ny M rs g (λ e H=>u=u/\Q e H) D m H':=by
   have e:(λ e H=>u=u/\Q e H)=Q:=by funext e H;simp
   rw[e];exact h
  exact ny.SQ j i
 cases e with
 |normal=>exact mono d
 |ret=>exact mono d
 |panic c=>exact mono d
 |exit _=>exact d.elim
 |goto _=>exact d.elim
def Gw{M:ao}{f:Nat}{fn:bT}(u:M.func f=B1 fn){p ky:Kp}(hk:p.ai=ky.ai){t:Nat}(s:rS fn.body=B1 (zV fn.body,t,xH fn.body)){vs:List AV}(r:kB 0 vs.length p.ai=B4){H:ar}{Q:bJ->ar->Prop}
 (h:W M ⟨B5,f⟩ (p,part (zV fn.body) 0) B4 (D2 M ⟨B5,f⟩ (ky,part (xH fn.body) 0) t (eU M fn.results Q)) (kM 0 vs) [] H):Dq M f vs H Q:=by
 rw[mi,TY]at h;refine q72 u (US rfl s (pV (W3.wp (fy (zV fn.body)) _ (qm _) (up:=B5) h (Wm r)) λ e st h=>?_));cases e with
 |normal =>
  have⟨d,i,j,l⟩:=h;have⟨tm,D,up,H'⟩:=st;have d:up=none:=d;subst d;obtain⟨v,w,g,first,cap,rfl,q⟩:=LK.elim (m:=B4) (o:=lk i t) (K:=λ _ v=>∃g first cap,v=.fn (.func g) first cap/\W M ⟨B5,f⟩ (ky,part (xH fn.body) 0) B4 (eU M fn.results Q) i (.fn (.func g) (first++cap)::D) H') l;rw[mi,TY]at q;exact⟨g,first,cap,(j t _ w).1,pV (W3.wp (fy (xH fn.body)) _ (qm _) (up:=B5) q (hk▸j)) λ e st h=>Oa h⟩
 |ret=>have⟨d,i,j,l⟩:=h;exact Oa (e:=aZ.ret) (rs:=fn.results) (ks:=p.ai) (Q:=Q) (up:=B5) ⟨d,i,j,l⟩
 |panic c=>have⟨d,i,j,l⟩:=h;exact Oa (e:=aZ.panic c) (rs:=fn.results) (ks:=p.ai) (Q:=Q) (up:=B5) ⟨d,i,j,l⟩
 |exit k=>obtain⟨d,i,j,l⟩:=h;exact Oa (M:=M) (e:=aZ.exit k) (rs:=fn.results) (ks:=p.ai) (Q:=Q) (up:=B5) ⟨d,i,j,l⟩
 |goto k=>obtain⟨d,i,j,l⟩:=h;exact Oa (M:=M) (e:=aZ.goto k) (rs:=fn.results) (ks:=p.ai) (Q:=Q) (up:=B5) ⟨d,i,j,l⟩
def HU{M:ao}{f:Nat}{fn:bT}(g:M.func f=B1 fn){ks:Kp}{vs:List AV}(hk:kB 0 vs.length ks.ai=B4){up:Option aH}{H:ar}{Q:bJ->ar->Prop}
 (h:W M ⟨B5,f⟩ (ks,part fn.body 0) B4 (eU M fn.results Q) (kM 0 vs) [] H):∃e H',kC M f vs up H e up H'/\Q e H':=by
 rw[mi,TY]at h;obtain⟨e,i,H',c,rfl,d⟩:=q3z g (pV (W3.wp (fy fn.body) fn.body (qm _) (up:=up) h (Wm hk)) λ e st h=>Oa h);exact⟨e,H',c,d⟩
abbrev WE(M:ao)(c:Ctx)(p:Kp×aj)(R:aJ->Env->List aQ->ar->Prop):Prop:=∀Q E D H,W M c p B4 Q E D H=R Q E D H
end Go.Am
