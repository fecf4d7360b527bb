import Derived.Test.YtgjdmncoonceaaaGreatDoorAmTZd
import Derived.Test.YtgjdmncoonceaaaGreatDoorAmTZa
import Derived.KernelRfl
import Derived.Test.YtgjdmncoonceaaaGreatDoorRows
set_option linter.unusedVariables false
set_option linter.unusedSimpArgs false
set_option linter.defProp false
set_option maxRecDepth 100000
set_option maxHeartbeats 1000000
open And renaming intro→HX
open Bool renaming rec→O5,false→B2,true→B4
open Go renaming Oper→P7,Operand→M7,Program→Jl,TypeId→Lx
open Int renaming reduceNegSucc→P8,reduceOfNat→B0
open List renaming range→MX,rec→B7
open Nat renaming beq→JW,ble→Nu
open Option renaming rec→PZ,none→B5,some→B1
namespace Go.Am
noncomputable section
def PR:Type:=Prop
abbrev WR:=Bool->aG->Env->List aN->ar->PR
abbrev KQ:=Bool->Env->Env->ar->PR
def Gb(m:Bool)(o:Option (bE×(Nat->AV)))(H:ar)(K:Bool->AV->ar->Prop):Prop:=jF m o λ g o mk=>K g (mk H.au) (H.alloc o)
def nJ{α:Type}:Bool->Option α->(Bool -> α->PR)->PR:=@B3 α
def gI{α β:Type}:Bool->Option (α×β)->(Bool -> α -> β->PR)->PR:=@jF α β
def fO:Bool->AV->(Bool->PR)->(Bool->PR)->PR:=mL
def gN:Bool->Bool->(Bool->PR)->(Bool->PR)->PR:=vE
def iQ:Bool->Option AV->Option AV->(Bool->PR)->PR:=NF
def gG:Bool->Option (bE×(Nat->AV))->ar->(Bool->AV->ar->PR)->PR:=Gb
def pj:ak->Bool->mE->List AV->ar->(Bool->AV->ar->PR)->PR:=C3
def yI:ak->Bool->(aI->ar->PR)->mE->List AV->ar->(Bool->AV->ar->PR)->PR:=P3
def p7:Bool->List AV->(Bool->mE->List AV->PR)->PR:=V3
def wA:ak->Bool->String->List AV->(Bool->mE->List AV->PR)->PR:=N3
def xI:Option (List Nat)->List Nat->aG->Env->List aN->aI->ar->PR:=PX
def yL:List AV->ar->(aI->ar->PR)->PR:=gH
def gj{α:Type}:(α->PR) -> α->PR:=@JN α
def mI:Bool->aG->aX->Env->List aN->ar->PR:=rG
def oH{α:Type}:Bool->Option α->(Bool -> α->PR)->PR:=@LK α
def rW:ak->Ctx->Kp×ai->WR:=W
def rC:WR->aG->Env->List aN->ar->PR:=cu
def sY:ak->List Nat->Ctx->Nat->Env->List aN->ar->aG->AV->PR:=iP
def nS:WR->aG->aG:=fq
def rY:PR:=False
def nY:Env->Nat->Option AV:=lk
section
variable(M:ak)
def Uv(E L R:Env)(t:Nat)(g:Bool)(K:Bool->Env->AV->PR):PR :=
 PZ (motive:=λ _=>PR) (PZ (motive:=λ _=>PR) (oH g (nY E t) λ g v=>K g ((t,v)::R) v) (λ v=>K g R v) (lk R t)) (λ v=>K g R v) (lk L t)
def tEV(E L:Env)(l:List bM):Bool->Env->(Bool->Env->List AV->PR)->PR:=B7 (motive:=λ _=>Bool->Env->(Bool->Env->List AV->PR)->PR) (λ g R K=>K g R [])
 (λ x _ ih g R K=>bM.casesOn x (λ t=>Uv E L R t g λ g R v=>ih g R λ g R vs=>K g R (v::vs)) (λ v=>ih g R λ g R vs=>K g R (v::vs)) (λ b=>ih g R λ g R vs=>K g R (.ptr b 0::vs)) (λ f=>ih g R λ g R vs=>K g R (.fn (.func f) [] []::vs))) l
def XZ(dm:Bool)(ps:Option (List Nat))(L:Env)(Q:aG)(E:Env)(D:List aN)(g:Bool)(f:mE)(vs:List AV)(H:ar)(K:Bool->AV->ar->PR):PR :=
 cond dm (yI M g (xI ps (mf L) Q E D) f vs H K) (pj M g f vs H K)
def tOP(dm:Bool)(dst:Option Nat)(ps:Option (List Nat))(Q:aG)(E:Env)(D:List aN)(L R:Env)(H:ar)(K:KQ)(g:Bool)(vs:List AV):fP->PR
 | .pure f=>nJ g (f vs) λ g v=>K g (lI dst v L) R H
 | .read f=>nJ g (f vs H) λ g v=>K g (lI dst v L) R H
 | .alloc f=>gG g (f vs) H λ g v H=>K g (lI dst v L) R H
 | .gT f=>gI g (f vs H) λ g v H=>K g (lI dst v L) R H
 | .ij f=>XZ M dm ps L Q E D g (.func f) vs H (λ g v H=>K g (lI dst v L) R H)
 | .iq=>p7 g vs λ g f vs=>XZ M dm ps L Q E D g f vs H (λ g v H=>K g (lI dst v L) R H)
 | .invoke name=>wA M g name vs λ g f vs=>XZ M dm ps L Q E D g f vs H (λ g v H=>K g (lI dst v L) R H)
 | .panic=>cond dm (yL vs H (xI ps (mf L) Q E D)) rY
 |_=>rY
def tCK(dst:Option Nat)(E L R:Env)(H:ar)(K:KQ)(g:Bool)(vs:List AV):fP->PR
 | .read f=>match dst with
  |some d=>iQ g (f vs H) (PZ (motive:=λ _=>Option AV) (nY E d) (λ v=>B1 v) (lk L d)) λ g=>K g L R H
  |none=>rY
 |_=>rY
def tST(dm:Bool)(s:aP)(Q:aG)(E:Env)(D:List aN)(K:KQ):KQ:=λ g L R H =>
 tEV E L s.args g R λ g R vs=>match s.iB with
  |false=>tOP M dm s.dst s.cP Q E D L R H K g vs s.op
  |true=>tCK s.dst E L R H K g vs s.op
def tSS(dm:Bool)(Q:aG)(E:Env)(D:List aN)(K:KQ)(l:List aP):KQ:=B7 (motive:=λ _=>KQ) K (λ s _ ih=>tST M dm s Q E D ih) l
def se(n:Nat):Type:=Nat.rec (motive:=λ _=>Type) (ar->PR) (λ _ T=>AV->T) n
def YQ:(n:Nat)->((Bool->se n)->PR)->(Bool->se n)->PR
 |0=>λ F K=>gj (α:=Bool->ar->PR) (λ k=>F k) K
 |1=>λ F K=>gj (α:=Bool->AV->ar->PR) (λ k=>F k) K
 |2=>λ F K=>gj (α:=Bool->AV->AV->ar->PR) (λ k=>F k) K
 |3=>λ F K=>gj (α:=Bool->AV->AV->AV->ar->PR) (λ k=>F k) K
 |4=>λ F K=>gj (α:=Bool->AV->AV->AV->AV->ar->PR) (λ k=>F k) K
 |5=>λ F K=>gj (α:=Bool->AV->AV->AV->AV->AV->ar->PR) (λ k=>F k) K
 |6=>λ F K=>gj (α:=Bool->AV->AV->AV->AV->AV->AV->ar->PR) (λ k=>F k) K
 |7=>λ F K=>gj (α:=Bool->AV->AV->AV->AV->AV->AV->AV->ar->PR) (λ k=>F k) K
 |8=>λ F K=>gj (α:=Bool->AV->AV->AV->AV->AV->AV->AV->AV->ar->PR) (λ k=>F k) K
 |9=>λ F K=>gj (α:=Bool->AV->AV->AV->AV->AV->AV->AV->AV->AV->ar->PR) (λ k=>F k) K
 |10=>λ F K=>gj (α:=Bool->AV->AV->AV->AV->AV->AV->AV->AV->AV->AV->ar->PR) (λ k=>F k) K
 |11=>λ F K=>gj (α:=Bool->AV->AV->AV->AV->AV->AV->AV->AV->AV->AV->AV->ar->PR) (λ k=>F k) K
 |12=>λ F K=>gj (α:=Bool->AV->AV->AV->AV->AV->AV->AV->AV->AV->AV->AV->AV->ar->PR) (λ k=>F k) K
 |13=>λ F K=>gj (α:=Bool->AV->AV->AV->AV->AV->AV->AV->AV->AV->AV->AV->AV->AV->ar->PR) (λ k=>F k) K
 |14=>λ F K=>gj (α:=Bool->AV->AV->AV->AV->AV->AV->AV->AV->AV->AV->AV->AV->AV->AV->ar->PR) (λ k=>F k) K
 |15=>λ F K=>gj (α:=Bool->AV->AV->AV->AV->AV->AV->AV->AV->AV->AV->AV->AV->AV->AV->AV->ar->PR) (λ k=>F k) K
 |16=>λ F K=>gj (α:=Bool->AV->AV->AV->AV->AV->AV->AV->AV->AV->AV->AV->AV->AV->AV->AV->AV->ar->PR) (λ k=>F k) K
 |17=>λ F K=>gj (α:=Bool->AV->AV->AV->AV->AV->AV->AV->AV->AV->AV->AV->AV->AV->AV->AV->AV->AV->ar->PR) (λ k=>F k) K
 |18=>λ F K=>gj (α:=Bool->AV->AV->AV->AV->AV->AV->AV->AV->AV->AV->AV->AV->AV->AV->AV->AV->AV->AV->ar->PR) (λ k=>F k) K
 |19=>λ F K=>gj (α:=Bool->AV->AV->AV->AV->AV->AV->AV->AV->AV->AV->AV->AV->AV->AV->AV->AV->AV->AV->AV->ar->PR) (λ k=>F k) K
 |20=>λ F K=>gj (α:=Bool->AV->AV->AV->AV->AV->AV->AV->AV->AV->AV->AV->AV->AV->AV->AV->AV->AV->AV->AV->AV->ar->PR) (λ k=>F k) K
 |21=>λ F K=>gj (α:=Bool->AV->AV->AV->AV->AV->AV->AV->AV->AV->AV->AV->AV->AV->AV->AV->AV->AV->AV->AV->AV->AV->ar->PR) (λ k=>F k) K
 |22=>λ F K=>gj (α:=Bool->AV->AV->AV->AV->AV->AV->AV->AV->AV->AV->AV->AV->AV->AV->AV->AV->AV->AV->AV->AV->AV->AV->ar->PR) (λ k=>F k) K
 |23=>λ F K=>gj (α:=Bool->AV->AV->AV->AV->AV->AV->AV->AV->AV->AV->AV->AV->AV->AV->AV->AV->AV->AV->AV->AV->AV->AV->AV->ar->PR) (λ k=>F k) K
 |24=>λ F K=>gj (α:=Bool->AV->AV->AV->AV->AV->AV->AV->AV->AV->AV->AV->AV->AV->AV->AV->AV->AV->AV->AV->AV->AV->AV->AV->AV->ar->PR) (λ k=>F k) K
 |25=>λ F K=>gj (α:=Bool->AV->AV->AV->AV->AV->AV->AV->AV->AV->AV->AV->AV->AV->AV->AV->AV->AV->AV->AV->AV->AV->AV->AV->AV->AV->ar->PR) (λ k=>F k) K
 |26=>λ F K=>gj (α:=Bool->AV->AV->AV->AV->AV->AV->AV->AV->AV->AV->AV->AV->AV->AV->AV->AV->AV->AV->AV->AV->AV->AV->AV->AV->AV->AV->ar->PR) (λ k=>F k) K
 |27=>λ F K=>gj (α:=Bool->AV->AV->AV->AV->AV->AV->AV->AV->AV->AV->AV->AV->AV->AV->AV->AV->AV->AV->AV->AV->AV->AV->AV->AV->AV->AV->AV->ar->PR) (λ k=>F k) K
 |28=>λ F K=>gj (α:=Bool->AV->AV->AV->AV->AV->AV->AV->AV->AV->AV->AV->AV->AV->AV->AV->AV->AV->AV->AV->AV->AV->AV->AV->AV->AV->AV->AV->AV->ar->PR) (λ k=>F k) K
 |_+29=>λ F K=>gj F K
def LX:∀(n:Nat)(F:(Bool->se n)->PR)(K:Bool->se n),YQ n F K=gj F K:=λ n=>by
 unfold YQ;split<;>exact λ F K=>rfl
def Vw(n:Nat):(List AV->ar->PR)->se n:=Nat.rec (motive:=λ n=>(List AV->ar->PR)->se n) (λ f=>f []) (λ _ ih f v=>ih λ l=>f (v::l)) n
def Pb(n:Nat):se n->List AV->ar->PR:=Nat.rec (motive:=λ n=>se n->List AV->ar->PR) (λ k _=>k) (λ _ ih k l=>List.casesOn (motive:=λ _=>ar->PR) l (λ _=>rY) λ v l=>ih (k v) l) n
def WI(dm:Bool)(Q:aG)(E:Env)(D:List aN)(x:FW)(K:KQ):KQ:=λ g L R H=>match x.1 with
 |none=>tSS M dm Q E D K x.2 g L R H
 |some q=>cond (vS q.1 x.2) (Uv E L R q.1 g λ g R v=>YQ (cV (bA x.2 []))
  (λ k=>nJ g (cX q.2 (B1 v)) λ g w=>gN g w (λ g=>tSS M dm Q E D (λ g L _ H=>Pb (cV (bA x.2 [])) (k g) (qL (cV (bA x.2 [])) L) H) x.2 g L R H) (λ g=>Pb (cV (bA x.2 [])) (k g) (sk (cV (bA x.2 []))) H))
  (λ g=>Vw (cV (bA x.2 [])) λ vs H=>K g (lE (bA x.2 []) L vs) R H)) rY
def RW(dm:Bool)(Q:aG)(E:Env)(D:List aN)(l:List aP)(g:Bool)(H:ar)(K:KQ):PR:=B7 (motive:=λ _=>KQ) K (λ x _ ih=>WI M dm Q E D x ih) (Jj l) g [] [] H
def Ω(E:Env)(x:bM)(g:Bool)(K:Bool->AV->PR):PR:=match x with
 | .tmp t=>oH g (nY E t) K
 | .const v=>K g v
 | .eO b=>K g (.ptr b 0)
 | .func f=>K g (.fn (.func f) [] [])
def tCV(E L R:Env)(x:bM)(g:Bool)(K:Bool->AV->PR):PR:=match x with
 | .tmp t=>Uv E L R t g λ g _ v=>K g v
 | .const v=>K g v
 | .eO b=>K g (.ptr b 0)
 | .func f=>K g (.fn (.func f) [] [])
def tU(rg:Bool->aG->Env->List aN->List aP->Bool->ar->KQ->PR)(ctx:Ctx)(K:Kp)(X:Nat->WR):ai->Nat->WR
 | .skip,_,g,Q,E,D,H=>mI g Q .normal E D H
 | .label _,_,g,Q,E,D,H=>mI g Q .normal E D H
 | .exit id,_,g,Q,E,D,H=>mI g Q (.exit id) E D H
 | .goto l,_,g,Q,E,D,H=>mI g Q (.goto l) E D H
 | .ret,_,g,Q,E,D,H=>mI g Q .ret E D H
 | .stuck,_,_,_,_,_,_=>rY
 | .region l,_,g,Q,E,D,H=>rg K.dm Q E D l g H λ g L _ H=>mI g Q .normal (dM K.ah E L) D H
 | .seq a b,k,g,Q,E,D,H=>match a,b with
  | .region l,.cond c x y=>rg K.dm Q E D l g H λ g L R H=>tCV E L R c g λ g v=>fO g v (λ g=>(O5 (motive:=λ _=>WR) (tU rg ctx K X x (k+3)) (X (k+3)) (bL (k+3) K.named)) g Q (dM K.ah E L) D H) (λ g=>(O5 (motive:=λ _=>WR) (tU rg ctx K X y (k+3+dF x)) (X (k+3+dF x)) (bL (k+3+dF x) K.named)) g Q (dM K.ah E L) D H)
  | .region l,.seq (.cond c x y) r=>rg K.dm Q E D l g H λ g L R H=>tCV E L R c g λ g v=>fO g v (λ g=>(O5 (motive:=λ _=>WR) (tU rg ctx K X x (k+4)) (X (k+4)) (bL (k+4) K.named)) g (nS (O5 (motive:=λ _=>WR) (tU rg ctx K X r (k+4+dF x+dF y)) (X (k+4+dF x+dF y)) (bL (k+4+dF x+dF y) K.named)) Q) (dM K.ah E L) D H)
   (λ g=>(O5 (motive:=λ _=>WR) (tU rg ctx K X y (k+4+dF x)) (X (k+4+dF x)) (bL (k+4+dF x) K.named)) g (nS (O5 (motive:=λ _=>WR) (tU rg ctx K X r (k+4+dF x+dF y)) (X (k+4+dF x+dF y)) (bL (k+4+dF x+dF y) K.named)) Q) (dM K.ah E L) D H)
  | .region l,b=>rg K.dm Q E D l g H λ g L _ H=>(O5 (motive:=λ _=>WR) (tU rg ctx K X b (k+2)) (X (k+2)) (bL (k+2) K.named)) g Q (dM K.ah E L) D H
  |a,b=>(O5 (motive:=λ _=>WR) (tU rg ctx K X a (k+1)) (X (k+1)) (bL (k+1) K.named)) g (nS (O5 (motive:=λ _=>WR) (tU rg ctx K X b (k+1+dF a)) (X (k+1+dF a)) (bL (k+1+dF a) K.named)) Q) E D H
 | .cond c x y,k,g,Q,E,D,H=>Ω E c g λ g v=>fO g v (λ g=>(O5 (motive:=λ _=>WR) (tU rg ctx K X x (k+1)) (X (k+1)) (bL (k+1) K.named)) g Q E D H) (λ g=>(O5 (motive:=λ _=>WR) (tU rg ctx K X y (k+1+dF x)) (X (k+1+dF x)) (bL (k+1+dF x) K.named)) g Q E D H)
 | .block id b,k,g,Q,E,D,H=>(O5 (motive:=λ _=>WR) (tU rg ctx K X b (k+1)) (X (k+1)) (bL (k+1) K.named)) g (fj id Q) E D H
 | .scope b,k,g,Q,E,D,H=>(O5 (motive:=λ _=>WR) (tU rg ctx K X b (k+1)) (X (k+1)) (bL (k+1) K.named)) g (kM b Q) E D H
 | .loop (B1 _) _,_,_,_,_,_,_=>rY
 | .loop B5 b,k,g,Q,E,D,H=>rC (O5 (motive:=λ _=>WR) (tU rg ctx K X b (k+1)) (X (k+1)) (bL (k+1) K.named)) Q E D H
 | .rangeFunc f n,_,g,Q,E,D,H=>Ω E f g λ g v=>sY M K.ah ctx n E D H Q v
end
def Lq(M:ak):WI M=Sr M:=by
 funext dm Q E D ⟨o,l⟩ K g L R H;cases o with
 |none=>kernel_rfl
 |some q =>
  unfold WI;simp only[LX]
  kernel_rfl
def Lg(M:ak):RW M=qR M:=by
 funext dm Q E D l g H K;unfold RW qR xY;rw[Lq];rfl
def My(M:ak)(c:Ctx)(K:Kp)(X:Nat->WX):tU M (qR M) c K X=U M c K X:=by kernel_rfl
def Qm(M:ak)(c:Ctx)(K:Kp)(X:Nat->WX):tU M (RW M) c K X=U M c K X:=by rw[Lg];exact My M c K X
abbrev Hs:=List (Nat×List Nat)
def Yk(n:Nat)(l:Hs):Option (List Nat):=B7 (motive:=λ _=>Option (List Nat)) B5 (λ p _ ih=>cond (JW p.1 n) (B1 p.2) ih) l
def Dq(P:Jl):Nat->Lx->Option aT
 |0,_=>B5
 |d+1,t=>match P.underlying t with
  |some (.struct fs)=>dH.fieldsT P (Dq P d) fs.toList
  |some (.array n e)=>(bV P e).bind λ s=>(nG P e).bind λ a=>(Dq P d e).bind λ q=>B1 (dH.itemsT s a q n 0)
  |_=>dH P 1 t
def Tp(P:Jl)(t:Lx)(neg:Bool)(x y:M7):Option (List bM×fP):=(Dq P 20 t).bind λ q=>(og P.globals.size [x,y]).bind λ l=>B1 (l,.read (Op.eq (.agg q) neg))
def LC(P:Jl)(o:P7):Option (List bM×fP):=match o.op with
 | .binOp op t x y _=>match P.underlying t,op with
  |some (.struct _),.eql=>Tp P t B2 x y
  |some (.struct _),.neq=>Tp P t B4 x y
  |some (.array _ _),.eql=>Tp P t B2 x y
  |some (.array _ _),.neq=>Tp P t B4 x y
  |_,_=>gE P o
 |_=>gE P o
def Q8(P:Jl)(ops:Array P7)(draw:Bool)(h:Option (List Nat)):Option ai :=
 (dB (ops.toList.map (LC P))).bind λ l =>
  (dB ((PZ (motive:=λ _=>List (Bool×Nat)) ((MX ops.size).map λ i=>(B2,i)) (λ l=>l.map λ x=>(JW (x % 2) 1,x / 2)) h).map (jD ops l λ i=>O5 (motive:=λ _=>Option (List Nat)) (B1 []) (NH ops (aW ops l) (nq (aW ops l).cls (aW ops l).gF ops.size (2*ops.size) 0 []) i) draw))).bind λ steps=>B1 (.region steps)
def jI(P:Jl)(hs:Hs):Nat->Code->Option (ai×List dZ)
 |_,.skip=>B1 (.skip,[])
 |_,.region r ops draw=>(Q8 P ops draw (O5 B5 (Yk r hs) draw)).bind λ c=>B1 (c,[])
 |k,.seq a b=>(jI P hs k a).bind λ a=>(jI P hs (k+a.2.length) b).bind λ b=>B1 (.seq a.1 b.1,a.2++b.2)
 |k,.cond c a b=>(rz P.globals.size c).bind λ c=>(jI P hs k a).bind λ a=>(jI P hs (k+a.2.length) b).bind λ b=>B1 (.cond c a.1 b.1,a.2++b.2)
 |k,.block id b=>(jI P hs k b).bind λ b=>B1 (.block id b.1,b.2)
 |k,.loop b=>(jI P hs k b).bind λ b=>B1 (.loop B5 b.1,b.2)
 |k,.rangeFunc f ps a b=>(rz P.globals.size f).bind λ f=>(jI P hs (k+1) a).bind λ a=>(jI P hs (k+1+a.2.length) b).bind λ b=>B1 (.rangeFunc f k,{params:=ps.toList,assign:=a.1,body:=b.1}::(a.2++b.2))
 |_,.exit id=>B1 (.exit id,[])
 |k,.scope b=>(jI P hs k b).bind λ b=>B1 (.scope b.1,b.2)
 |_,.label l=>B1 (.label l,[])
 |_,.goto l=>B1 (.goto l,[])
 |_,.ret=>B1 (.ret,[])
 |_,.refuse _=>B1 (.stuck,[])
def DU(n:Nat)(b:ai)(l:List dZ):ai:=O5 (motive:=λ _=>ai)
 (O5 (motive:=λ _=>ai) (O5 (motive:=λ _=>ai)
 (PZ (motive:=λ _=>ai) .stuck (λ q=>O5 (motive:=λ _=>ai) q.body q.assign (JW (n / 100000 % 2) 1)) (nth l (n / 100000 / 2-1))) (Ax b) (JW (n / 100000) 1)) (wK b) (JW (n / 100000) 99)) b (Nu n 99999)
def bh(P:Jl)(n:Nat):ai:=DU n (funcAt P (n % 100000)).body (funcAt P (n % 100000)).loops
def IZ(P:Jl)(hs:Hs)(n:Nat):ai:=PZ (motive:=λ _=>ai) .stuck (λ f=>PZ (motive:=λ _=>ai) .stuck (λ b=>PZ (motive:=λ _=>ai) .stuck (λ c=>DU n c.1 c.2) (jI P hs 0 b)) f.body) (P.funcs[n % 100000]?)
abbrev RL:=List (aG->Env->List aN->ar->PR)
abbrev QL:=List (aG->Env->List aN->ar->Prop)
def uJ(M:ak)(c:Ctx)(p:Nat->Kp×ai):List Nat->QL->Prop
 |k::ks,R::l=>(∀Q E D H,W M c (p k) B4 Q E D H=R Q E D H)/\uJ M c p ks l
 |_,_=>True
def Af(M:ak)(c:Ctx)(p:Nat->Kp×ai)(k a:Nat)(ks:List Nat)(R:aG->Env->List aN->ar->Prop)(l:QL):uJ M c p (k::a::ks) (R::l)=((∀Q E D H,W M c (p k) B4 Q E D H=R Q E D H)/\uJ M c p (a::ks) l):=rfl
def Ab(M:ak)(c:Ctx)(p:Nat->Kp×ai)(k:Nat)(R:aG->Env->List aN->ar->Prop):uJ M c p [k] [R] = ∀Q E D H,W M c (p k) B4 Q E D H=R Q E D H:=propext ⟨λ h=>h.1,λ h=>⟨h,trivial⟩⟩
def tW(M:ak)(c:Ctx)(K:Kp)(p:Nat->Kp×ai)(r:ai)(ks:List Nat):RL :=
 B7 (motive:=λ _=>RL) [] (λ k _ ih=>(λ Q E D H=>tU M (RW M) c K (λ j=>rW M c (p j)) (part r k) k B4 Q E D H)::ih) ks
def Q7{P:Jl}{p:Nat->Nat->Kp×ai}{a:Nat->Kp}(hp:∀n k,p n k=(a n,part (bh P n) k))(M:ak)(c:Ctx)(n:Nat):∀ks:List Nat,uJ M c (p n) ks (tW M c (a n) (p n) (bh P n) ks)
 |[]=>trivial
 |k::ks=>⟨λ Q E D H=>by
  have e:(λ j=>W M c (p n j))=λ j=>W M c (a n,part (bh P n) j):=funext λ j=>by rw[hp]
  show _=tU M (RW M) c (a n) (λ j=>W M c (p n j)) (part (bh P n) k) k B4 Q E D H;rw[hp n k,e,Qm];exact DI rfl,Q7 hp M c n ks⟩
def D7(o:bE)(mk:Nat->AV)(H:ar)(K:Bool->AV->ar->Prop):Gb B4 (B1 (o,mk)) H K=K B4 (mk H.au) (H.alloc o):=propext j9
def xjy(e:Nat)(z:List AV)(H:ar)(K:Bool->AV->ar->Prop):Gb B4 (Op.alloc e z []) H K=K B4 (.ptr H.au 0) (H.alloc (.row z e (0,0) B4)):=propext j9
def GO(e:Nat)(v:AV)(H:ar)(K:Bool->AV->ar->Prop):Gb B4 (Op.box e [v]) H K=K B4 (.ptr H.au 0) (H.alloc (.row v.cells e (0,0) B4)):=propext j9
@[congr]def ab1{m a:Bool}{o o':Option (bE×(Nat->AV))}{H H':ar}{K:Bool->AV->ar->Prop}(hm:m=a)(h:o=o')(b:H=H'):Gb m o H K=Gb a o' H' K:=by subst hm;subst h;subst b;rfl
abbrev ue:=List (Nat×Kp×Hs)
def jM(n:Nat)(l:ue):Kp:=B7 (motive:=λ _=>Kp) ⟨[],B2,[]⟩ (λ p _ ih=>cond (JW p.1 n) p.2.1 ih) l
def CC(M:ak)(c:Ctx)(p:Nat->Nat->Kp×ai):ue->List QL->Prop
 |x::r,l::ls=>uJ M c (p x.1) x.2.1.named l/\CC M c p r ls
 |_,_=>True
def zX(M:ak)(c:Ctx)(p:Nat->Nat->Kp×ai)(n:Nat)(ks a:List Nat)(b:Bool)(hs:Hs)(y:Nat×Kp×Hs)(r:ue)(l:QL)(ls:List QL):CC M c p ((n,⟨a,b,ks⟩,hs)::y::r) (l::ls)=(uJ M c (p n) ks l/\CC M c p (y::r) ls):=rfl
def AD(M:ak)(c:Ctx)(p:Nat->Nat->Kp×ai)(n:Nat)(ks a:List Nat)(b:Bool)(hs:Hs)(l:QL):CC M c p [(n,⟨a,b,ks⟩,hs)] [l]=uJ M c (p n) ks l:=propext ⟨λ h=>h.1,λ h=>⟨h,trivial⟩⟩
def tF(M:ak)(c:Ctx)(Kt:Nat->Kp)(p:Nat->Nat->Kp×ai)(r:Nat->Hs->ai)(l:ue):List RL:=B7 (motive:=λ _=>List RL) [] (λ x _ ih=>tW M c (Kt x.1) (p x.1) (r x.1 x.2.2) x.2.1.named::ih) l
def oQ{P:Jl}{p:Nat->Nat->Kp×ai}{a:Nat->Kp}(hp:∀n k,p n k=(a n,part (bh P n) k))(M:ak)(c:Ctx)(l:ue)(e:tF M c a p (λ n _=>bh P n) l=tF M c a p (λ n h=>IZ P h n) l):CC M c p l (tF M c a p (λ n h=>IZ P h n) l):=by
 rw[<-e];clear e
 induction l with
 |nil=>trivial
 |cons x l ih=>exact⟨Q7 hp M c x.1 _,ih⟩
def YD:eE->eE->Bool
 | .tmp a,.tmp b=>JW a b
 | .kT a,.kT b=>JW a b
 | .de a b,.de c d=>cond (JW a c) (JW b d) B2
 |_,_=>B2
def Qk{a b:eE}(h:YD a b=B4):a=b:=by
 cases a with
 |tmp a=>cases b with
  |tmp b=>rw[Mh h]
  |_=>cases h
 |kT a=>cases b with
  |kT b=>rw[Mh h]
  |_=>cases h
 |de a x=>cases b with
  |de b y =>
   have h:cond (JW a b) (JW x y) B2=true:=h;cases q:JW a b with
   |true=>rw[q]at h;rw[Mh q,Mh h]
   |false=>rw[q]at h;cases h
  |_=>cases h
def Ih:List eE->List eE->Bool
 |[],[]=>B4
 |a::x,b::y=>cond (YD a b) (Ih x y) B2
 |_,_=>B2
def Dt:∀{a b:List eE},Ih a b=B4->a=b
 |[],[],_=>rfl
 |a::x,b::y,h=>by
  unfold Ih at h;cases q:YD a b with
  |true=>rw[q]at h;rw[Qk q,Dt h]
  |false=>rw[q]at h;cases h
def Zf(P:Jl)(tn:List Nat)(K:Kp)(n:Nat)(rs:List eE)(k:Nat):Bool:=cond (Nu n 99999) (cond (bL n tn) B2 (cond (jT 0 k K.ah) (PZ (motive:=λ _=>Bool) B2 (λ F=>Ih F.results rs) ((bq P).func n)) B2)) B2
def QU{P:Jl}{c:List Nat}{K:Kp}{n:Nat}{rs:List eE}{k:Nat}(h:Zf P c K n rs k=B4):Nu n 99999=B4/\bL n c=B2/\jT 0 k K.ah=B4/\(bq P).func n=B1 (funcAt P n)/\(funcAt P n).results=rs:=by
 unfold Zf at h;cases a:Nu n 99999 with
 |false=>rw[a]at h;cases h
 |true =>
 cases b:bL n c with
 |true=>rw[a,b]at h;cases h
 |false =>
 cases d:jT 0 k K.ah with
 |false=>rw[a,b,d]at h;cases h
 |true =>
 rw[a,b,d]at h;unfold funcAt;cases f:(bq P).func n with
 |none=>rw[f]at h;cases h
 |some F=>rw[f]at h;exact⟨rfl,rfl,rfl,rfl,Dt h⟩
def ah5{P:Jl}{n:Nat}(h:Nu n 99999=B4):bh P n=(funcAt P n).body:=by
 unfold bh DU;rw[h,Nat.mod_eq_of_lt (Nat.lt_of_le_of_lt (Nat.le_of_ble_eq_true h) (by decide))]
def MD(i:Nat)(v:AV)(vs:List AV):kP i (v::vs)=(i,v)::kP (i+1) vs:=rfl
def MB(i:Nat):kP i []=[]:=rfl
def aa:type_of% QZ/\(∀(o:bE)mk H K,Gb B4 (B1 (o,mk)) H K=K B4 (mk H.au) (H.alloc o))/\(∀e z H K,Gb B4 (Op.alloc e z []) H K=K B4 (.ptr H.au 0) (H.alloc (.row z e (0,0) B4)))/\(∀e v H K,Gb B4 (Op.box e [v]) H K=K B4 (.ptr H.au 0) (H.alloc (.row v.cells e (0,0) B4)))/\(∀i v vs,kP i (v::vs)=(i,v)::kP (i+1) vs)/\(∀i,kP i []=[])/\(∀{α:Type}(F:α->Prop)(K:α),JN F K=F K):=⟨QZ,D7,xjy,GO,MD,MB,JO⟩
def OG{M:ak}{P:Jl}{p:Nat->Nat->Kp×ai}{a:Nat->Kp}(hp:∀n k,p n k=(a n,part (bh P n) k)){n:Nat}{F:cj}(d:M.func n=B1 F){rs:List eE}(hr:F.results=rs){x y t:Nat}(c:su F.body=B1 (Ax F.body,t,wK F.body))(e:bh P x=Ax F.body)(f:bh P y=wK F.body)(hk:(a x).ah=(a y).ah){vs:List AV}(b:jT 0 vs.length (a x).ah=B4){H:ar}{Q:bP->ar->Prop}
 (h:W M ⟨B5,n⟩ (p x 0) B4 (Fe M ⟨B5,n⟩ (p y 0) t (eS M rs Q)) (kP 0 vs) [] H):FK M n vs H Q:=by
 rw[hp,hp,e,f,<-hr]at h;exact Ir d hk c b h
def HP{M:ak}{P:Jl}{p:Nat->Nat->Kp×ai}{a:Nat->Kp}(hp:∀n k,p n k=(a n,part (bh P n) k)){n:Nat}{F:cj}(c:M.func n=B1 F){rs:List eE}(hr:F.results=rs)(d:bh P n=F.body){vs:List AV}(b:jT 0 vs.length (a n).ah=B4){up:Option aI}{H:ar}{Q:bP->ar->Prop}
 (h:W M ⟨B5,n⟩ (p n 0) B4 (eS M rs Q) (kP 0 vs) [] H):∃e H',jX M n vs up H e up H'/\Q e H':=by
 rw[hp,d,<-hr]at h;exact HG c b h
abbrev MV:Nat:=185
abbrev ZQ:Nat:=111
abbrev NV:Nat:=153
abbrev U3:Nat:=109
abbrev Oa:Nat:=152
abbrev WA:Nat:=89
abbrev VC:Nat:=277
abbrev UC:Nat:=114
abbrev YO:Nat:=276
abbrev YE:Nat:=275
abbrev Nj:Nat:=118
abbrev qqa:Nat:=184
abbrev Qs:Nat:=207
abbrev YZ:Nat:=150
abbrev NZ:Nat:=182
abbrev qsx:Nat:=154
abbrev Qc:Nat:=186
abbrev qsy:Nat:=183
abbrev Wp:Nat:=67
abbrev xk:Nat:=147
abbrev z7:Nat:=61
abbrev cH:Nat:=3
abbrev YK:Nat:=206
abbrev ya:Nat:=235
abbrev C6:Nat:=164
open Go.Proofs Go.Proofs.YtgjdmncoonceaaaGreatDoor
class MK (M:ak):Prop where
 ok:∀n,bL n [18]=B2->M.func n=(bq Tryz.prog).func n
 mt:∀t s,M.kI t s=(bq Tryz.prog).kI t s
def MK.at{M:ak}[h:MK M]{n:Nat}{F:cj}(hn:bL n [18]=B2)(a:(bq Tryz.prog).func n=B1 F):M.func n=B1 F:=(h.ok n hn).trans a
def Cd{M:ak}[h:MK M]{n:Nat}{F:cj}(hn:bL n [18]=B2){rs:List eE}(a:(bq Tryz.prog).func n=B1 F/\F.results=rs){ks:Kp}{vs:List AV}(hk:jT 0 vs.length ks.ah=B4){H:ar}{Q:bP->ar->Prop}(hw:W M ⟨B5,n⟩ (ks,part F.body 0) B4 (eS M rs Q) (kP 0 vs) [] H):FK M n vs H Q:=OZ (MK.at hn a.1) hk (a.2▸hw)
def lf{M:ak}[MK M]{p:Nat->Nat->Kp×ai}{a:Nat->Kp}(hp:∀n k,p n k=(a n,part (bh Tryz.prog n) k))(n:Nat)(rs:List eE)(vs:List AV)(b:Zf Tryz.prog [18] (a n) n rs vs.length=B4)(H:ar)(Q:bP->ar->Prop)(h:W M ⟨B5,n⟩ (p n 0) B4 (eS M rs Q) (kP 0 vs) [] H):FK M n vs H Q:=by
 obtain⟨b,c,d,e⟩:=QU b;exact Cd c e (ks:=a n) d (by rw[hp,ah5 b]at h;exact h)
variable{M:ak}[MK M]{H:ar}{Q:bP->ar->Prop}{a0 a1 a2 a3:AV}
abbrev Xv:ue:=[(67,⟨[0,1,4,5],B2,[0,2,10]⟩,[]),(185,⟨[0,2,3,7,8],B2,[0,2,10,15]⟩,[]),(300185,⟨[0,2,3,7,8],B2,[0]⟩,[]),(200185,⟨[0,2,3,7,8],B2,[0]⟩,[]),(153,⟨[0,2,3,7,8],B2,[0,2,10,15]⟩,[]),(300153,⟨[0,2,3,7,8],B2,[0]⟩,[]),(200153,⟨[0,2,3,7,8],B2,[0]⟩,[]),(277,⟨[0,1,2,6,7,8,9,10],B2,[0,2,18,8,20,14,26]⟩,[]),(276,⟨[0,1,2,6,7,8],B2,[0,2,10,12,20]⟩,[]),(89,⟨[0,1,4,5,6,21],B2,[0,4,12]⟩,[]),(275,⟨[0,1,4,5,6,7],B2,[0,2,10,12,20]⟩,[]),(109,⟨[0,1,4,5,6,7,8,21],B2,[0,4,12]⟩,[]),(111,⟨[0,1,4,5,6,7,8],B2,[0,4,12]⟩,[]),(114,⟨[0,1,2,5,6,7,8],B2,[0,4,10]⟩,[(3,[0,2,4,6,8,10,5,12,14,16])]),(152,⟨[0,1,2,3,7,8,9,10,11,12,21],B2,[0,2,23,16,25,33]⟩,[(13,[0,2,4,6,8,5,10,12])]),(184,⟨[0,1,2],B2,[0]⟩,[]),(150,⟨[0,1,2,6,7,8],B2,[0,2,10,12,20]⟩,[]),(183,⟨[0,1],B2,[0]⟩,[]),(118,⟨[0,1,3,4,5,8,9],B2,[0,2,7]⟩,[]),(300118,⟨[0,1,3,4,5,8,9],B2,[0]⟩,[]),(200118,⟨[0,1,3,4,5,8,9],B2,[0]⟩,[]),(182,⟨[0,1,4,5,6,9,10],B2,[0,2,3,5,7,12]⟩,[]),(300182,⟨[0,1,4,5,6,9,10],B2,[0]⟩,[]),(200182,⟨[0,1,4,5,6,9,10],B2,[0,9,15]⟩,[]),(207,⟨[0,1,3,10,11],B2,[0,1,7,9,13,19,34,23,29]⟩,[]),(154,⟨[0,1,2,3,4],B2,[0]⟩,[]),(186,⟨[0,1,2,4,5,26,27],B2,[0,6,12,18,27]⟩,[])]
def Zi(n:Nat):Kp:=jM n Xv
def A9(n k:Nat):Kp×ai:=(Zi n,part (bh Tryz.prog n) k)
def z_(n k:Nat):A9 n k=(Zi n,part (bh Tryz.prog n) k):=rfl
def tH:=@lf M _ A9 Zi z_
attribute [local irreducible] PR A9 nJ gI fO gN iQ gG pj yI p7 wA xI yL gj mI oH rW rC sY nS rY nY fj kM cX AV.undef Op.move Op.pick Op.build Op.nilCheck Op.bin Op.eq Op.un Op.wrap Op.dS Op.eQ Op.dJ Op.bK Op.dQ Op.aA Op.cT Op.fieldAddr Op.field Op.aR Op.aV Op.bF Op.bQ Op.typeAssert Op.extract Op.fF Op.cG Op.oT Op.cap Op.fg Op.dq Op.dT Op.aF Op.bU Op.ae Op.aq Op.cN Op.lookup Op.gO Op.eU Op.alloc Op.box Op.buildSlice Op.mkMap Op.mkSlice Op.cM Op.dV Op.makeNoZero Op.store Op.mapUpdate Op.dt Op.eT Op.append Op.copy Op.bS Op.bW Op.eR Op.dR
def jt(M:ak)(c:Ctx):=by
 have h:=oQ z_ M c Xv (by kernel_rfl)
 conv at h=>arg 5;reduce
 delta PR RL nY gG nJ gI pj iQ mI fO gN gj oH rC sY nS p7 rW se Xv at h
 simp only[zX,AD,Af,Ab,B0,P8]at h;exact h
def bf(M:ak)(c:Ctx):=(jt M c).2.2.2.2.2.2.2.2
def bn(M:ak)(c:Ctx):=(bf M c).2.2.2.2.2.2.2.2
def bo(M:ak)(c:Ctx):=(bn M c).2.2.2.2.2.2.2.2
def af2(M:ak)(c:Ctx):=(jt M c).1
def ag8:=@tH M _ Wp [.tmp 4,.tmp 5] [a0,a1] (by kernel_rfl) H Q
def SJ:cj:=funcAt Tryz.prog MV
def Rz:dZ:=iG SJ 0
abbrev XB(k:Nat):Kp×ai:=A9 300185 k
abbrev YU(k:Nat):Kp×ai:=A9 200185 k
def qlj:nth SJ.loops 0=B1 Rz/\Rz.params=[8]:=⟨by kernel_rfl,by kernel_rfl⟩
def qt6:(XB 0).1.ah=[0,2,3,7,8]/\(XB 0).2=Rz.assign:=⟨by kernel_rfl,by kernel_rfl⟩
def qt7:(YU 0).1.ah=[0,2,3,7,8]/\(YU 0).2=Rz.body:=⟨by kernel_rfl,by kernel_rfl⟩
def qv0:M.func MV=B1 SJ:=MK.at (by decide) (by kernel_rfl)
def mu(M:ak)(c:Ctx):=HX (jt M c).2.1.1 (HX (jt M c).2.2.1 (HX (jt M c).2.2.2.1 (HX (jt M c).2.1.2.1 (HX (jt M c).2.1.2.2.1 ((jt M c).2.1.2.2.2)))))
def qxr:=@tH M _ MV [.tmp 2] [a0] (by kernel_rfl) H Q
def Sn:cj:=funcAt Tryz.prog NV
def Qq:dZ:=iG Sn 0
abbrev U9(k:Nat):Kp×ai:=A9 300153 k
abbrev XN(k:Nat):Kp×ai:=A9 200153 k
def d_:nth Sn.loops 0=B1 Qq/\Qq.params=[8]:=⟨by kernel_rfl,by kernel_rfl⟩
def qsi:(U9 0).1.ah=[0,2,3,7,8]/\(U9 0).2=Qq.assign:=⟨by kernel_rfl,by kernel_rfl⟩
def qsj:(XN 0).1.ah=[0,2,3,7,8]/\(XN 0).2=Qq.body:=⟨by kernel_rfl,by kernel_rfl⟩
def qt8:M.func NV=B1 Sn:=MK.at (by decide) (by kernel_rfl)
def qmc(M:ak)(c:Ctx):=HX (jt M c).2.2.2.2.1.1 (HX (jt M c).2.2.2.2.2.1 (HX (jt M c).2.2.2.2.2.2.1 (HX (jt M c).2.2.2.2.1.2.1 (HX (jt M c).2.2.2.2.1.2.2.1 ((jt M c).2.2.2.2.1.2.2.2)))))
def qv1:=@tH M _ NV [.tmp 2] [a0] (by kernel_rfl) H Q
def q4y(M:ak)(c:Ctx):=(jt M c).2.2.2.2.2.2.2.1
def q4x:=@tH M _ VC [.tmp 6] [a0,a1,a2] (by kernel_rfl) H Q
def q7a(M:ak)(c:Ctx):=(bf M c).1
def q69:=@tH M _ YO [.tmp 6] [a0,a1,a2] (by kernel_rfl) H Q
def q4w(M:ak)(c:Ctx):=(bf M c).2.1
def q4v:=@tH M _ WA [.de 21 4,.tmp 5] [a0,a1] (by kernel_rfl) H Q
def q40(M:ak)(c:Ctx):=(bf M c).2.2.1
def q4z:=@tH M _ YE [.tmp 4,.tmp 5] [a0,a1] (by kernel_rfl) H Q
def q4s(M:ak)(c:Ctx):=(bf M c).2.2.2.1
def q4r:=@tH M _ U3 [.de 21 4,.tmp 5] [a0,a1] (by kernel_rfl) H Q
def qxt(M:ak)(c:Ctx):=(bf M c).2.2.2.2.1
def qxs:=@tH M _ ZQ [.de 8 4,.tmp 5] [a0,a1] (by kernel_rfl) H Q
def qv3(M:ak)(c:Ctx):=(bf M c).2.2.2.2.2.1
def qv2:=@tH M _ UC [.tmp 6] [a0,a1,a2] (by kernel_rfl) H Q
abbrev qq8(k:Nat):Kp×ai:=A9 Oa k
def q4u(M:ak)(c:Ctx):=(bf M c).2.2.2.2.2.2.1
def q4t:=@tH M _ Oa [.de 21 8,.tmp 9,.tmp 10] [a0,a1,a2,a3] (by kernel_rfl) H Q
def q44(M:ak)(c:Ctx):=(bf M c).2.2.2.2.2.2.2.1
def q43:=@tH M _ qqa [.tmp 2] [a0] (by kernel_rfl) H Q
def q93(M:ak)(c:Ctx):=(bn M c).1
def q92:=@tH M _ YZ [.tmp 6,.tmp 7] [a0,a1,a2] (by kernel_rfl) H Q
def q7f(M:ak)(c:Ctx):=(bn M c).2.1
def q7e:=@tH M _ qsy [] [a0,a1] (by kernel_rfl) H Q
def T7:cj:=funcAt Tryz.prog Nj
def Qu:dZ:=iG T7 0
abbrev Y9(k:Nat):Kp×ai:=A9 300118 k
abbrev UQ(k:Nat):Kp×ai:=A9 200118 k
def qq9:nth T7.loops 0=B1 Qu/\Qu.params=[9]:=⟨by kernel_rfl,by kernel_rfl⟩
def q41:(Y9 0).1.ah=[0,1,3,4,5,8,9]/\(Y9 0).2=Qu.assign:=⟨by kernel_rfl,by kernel_rfl⟩
def q42:(UQ 0).1.ah=[0,1,3,4,5,8,9]/\(UQ 0).2=Qu.body:=⟨by kernel_rfl,by kernel_rfl⟩
def q7b:M.func Nj=B1 T7:=MK.at (by decide) (by kernel_rfl)
def Q_(M:ak)(c:Ctx):=HX (bn M c).2.2.1.1 (HX (bn M c).2.2.2.1 (HX (bn M c).2.2.2.2.1 (HX (bn M c).2.2.1.2.1 ((bn M c).2.2.1.2.2))))
def q91:=@tH M _ Nj [.kT 4] [a0,a1] (by kernel_rfl) H Q
def SB:cj:=funcAt Tryz.prog NZ
def QV:dZ:=iG SB 0
abbrev Y3(k:Nat):Kp×ai:=A9 300182 k
abbrev Xo(k:Nat):Kp×ai:=A9 200182 k
def qnr:nth SB.loops 0=B1 QV/\QV.params=[10]:=⟨by kernel_rfl,by kernel_rfl⟩
def qxw:(Y3 0).1.ah=[0,1,4,5,6,9,10]/\(Y3 0).2=QV.assign:=⟨by kernel_rfl,by kernel_rfl⟩
def qxx:(Xo 0).1.ah=[0,1,4,5,6,9,10]/\(Xo 0).2=QV.body:=⟨by kernel_rfl,by kernel_rfl⟩
def q0d:M.func NZ=B1 SB:=MK.at (by decide) (by kernel_rfl)
def FX(M:ak)(c:Ctx):=HX (bn M c).2.2.2.2.2.1.1 (HX (bn M c).2.2.2.2.2.2.1 (HX (bn M c).2.2.2.2.2.2.2.1.1 (HX (bn M c).2.2.2.2.2.1.2.1 (HX (bn M c).2.2.2.2.2.2.2.1.2.1 (HX (bn M c).2.2.2.2.2.1.2.2.1 (HX (bn M c).2.2.2.2.2.2.2.1.2.2 (HX (bn M c).2.2.2.2.2.1.2.2.2.1 (HX (bn M c).2.2.2.2.2.1.2.2.2.2.1 ((bn M c).2.2.2.2.2.1.2.2.2.2.2)))))))))
def q45:=@tH M _ NZ [.kT 4] [a0,a1] (by kernel_rfl) H Q
def qxv(M:ak)(c:Ctx):=(bo M c).1
def qxu:=@tH M _ Qs [] [a0,a1] (by kernel_rfl) H Q
def q7d(M:ak)(c:Ctx):=(bo M c).2.1
def q7c:=@tH M _ qsx [.tmp 4] [a0,a1] (by kernel_rfl) H Q
def q0f(M:ak)(c:Ctx):=(bo M c).2.2
def q0e:=@tH M _ Qc [] [a0,a1,a2] (by kernel_rfl) H Q
abbrev VL:Nat:=52
abbrev UI:Nat:=87
abbrev XD:Nat:=265
abbrev Wh:Nat:=266
abbrev qo6:Nat:=267
abbrev WB:Nat:=268
abbrev RI:Nat:=84
abbrev yz:Nat:=81
abbrev ZB:Nat:=113
abbrev sA:Nat:=269
abbrev PF:Nat:=270
abbrev Qf:Nat:=271
abbrev Z1:Nat:=116
abbrev Wf:Nat:=274
abbrev NR:Nat:=115
abbrev ZP:Nat:=117
abbrev _p:Nat:=108
abbrev ZM:Nat:=272
abbrev Us:Nat:=107
abbrev w_:Nat:=110
abbrev qm3:Nat:=273
abbrev _m:Nat:=149
abbrev YS:Nat:=112
abbrev Y5:Nat:=151
abbrev Zx:Nat:=181
abbrev xm:Nat:=63
abbrev AL:Nat:=23
abbrev Qh:Nat:=169
abbrev Vy:ue:=[(52,⟨[0,1,3,4,5,6,7],B2,[0,4,12]⟩,[]),(269,⟨[0,2],B2,[0]⟩,[]),(270,⟨[0,1,4,5,6,7,8,9,11],B2,[0,2,12,14,24,30]⟩,[]),(271,⟨[0,1,2,6,7,8,9,10],B2,[0,2,12,14,22,28]⟩,[]),(266,⟨[0,1,2,3,8,9,10,11,12,13,14],B2,[0,2,12,20,22,30,32,38]⟩,[]),(265,⟨[0,2],B2,[0,2,17]⟩,[]),(268,⟨[0,2],B2,[0,2,17]⟩,[]),(87,⟨[0,1,4],B2,[0,2,23,16]⟩,[]),(81,⟨[0,1,3,4,5,6,7,8,9,51,69],B2,[0,2,10,12,20,73,34,75,40,85,41,49,53,61]⟩,[]),(84,⟨[0,1,4,5,6,7],B2,[0,2,17,19,27,33]⟩,[]),(267,⟨[0,2],B2,[0,2,10]⟩,[]),(272,⟨[0,1,4],B2,[0,2,17]⟩,[]),(274,⟨[0,1,2,6],B2,[0,2,10]⟩,[]),(273,⟨[0,1,4,5,6],B2,[0]⟩,[]),(116,⟨[0,1],B2,[0]⟩,[]),(107,⟨[0,1,2,4,5,6,8,14],B2,[0,2,41,12,18,28]⟩,[(8,[0,2,4,6,8,10,12,14,7,16,18]),(10,[0,2,4,6,8,10,12,14,7,16,18])]),(108,⟨[0,1,2,4],B2,[0]⟩,[]),(110,⟨[0,1,2,6,11],B2,[0]⟩,[]),(112,⟨[0,1,4,5,6,7],B2,[0,4,12,35,17,23,34]⟩,[]),(113,⟨[0,1,3],B2,[0]⟩,[]),(115,⟨[0,1,3,4,5,6,7,8],B2,[0,4,10,12,20,28]⟩,[]),(117,⟨[0,1,3,4,5],B2,[0,2,10]⟩,[]),(149,⟨[0,1,4],B2,[0]⟩,[]),(151,⟨[0,1,4,5,7,8],B2,[0,2,25,7,13,24]⟩,[]),(181,⟨[0,1,4,5,7,8],B2,[0,2,25,7,13,24]⟩,[])]
def Zh(n:Nat):Kp:=jM n Vy
def JE(n k:Nat):Kp×ai:=(Zh n,part (bh Tryz.prog n) k)
def _k(n k:Nat):JE n k=(Zh n,part (bh Tryz.prog n) k):=rfl
def vn:=@lf M _ JE Zh _k
attribute [local irreducible] JE
def vm(M:ak)(c:Ctx):=by
 have h:=oQ _k M c Vy (by kernel_rfl)
 conv at h=>arg 5;reduce
 delta PR RL nY gG nJ gI pj iQ mI fO gN gj oH rC nS p7 rW se Vy at h
 simp only[zX,AD,Af,Ab,B0,P8]at h;exact h
def bB(M:ak)(c:Ctx):=(vm M c).2.2.2.2.2.2.2.2
def cb(M:ak)(c:Ctx):=(bB M c).2.2.2.2.2.2.2.2
def ck(M:ak)(c:Ctx):=(cb M c).2.2.2.2.2.2.2.2
def xi9(M:ak)(c:Ctx):=(vm M c).1
def xi8:=@vn M _ VL [.tmp 4,.tmp 5] [a0,a1] (by kernel_rfl) H Q
def q0u(M:ak)(c:Ctx):=(vm M c).2.1
def q0t:=@vn M _ sA [.tmp 2] [a0] (by kernel_rfl) H Q
abbrev q0v(k:Nat):Kp×ai:=JE PF k
def q0x(M:ak)(c:Ctx):=(vm M c).2.2.1
def q0w:=@vn M _ PF [.tmp 4,.tmp 5,.tmp 6,.tmp 7] [a0,a1] (by kernel_rfl) H Q
abbrev qx3(k:Nat):Kp×ai:=JE Qf k
def qx5(M:ak)(c:Ctx):=(vm M c).2.2.2.1
def qx4:=@vn M _ Qf [.tmp 6,.tmp 7,.tmp 8] [a0,a1,a2] (by kernel_rfl) H Q
def q5p(M:ak)(c:Ctx):=(vm M c).2.2.2.2.1
def q5o:=@vn M _ Wh [.tmp 8,.tmp 9,.tmp 10,.tmp 11] [a0,a1,a2,a3] (by kernel_rfl) H Q
def qx2(M:ak)(c:Ctx):=(vm M c).2.2.2.2.2.1
def qx1:=@vn M _ XD [.tmp 2] [a0] (by kernel_rfl) H Q
def qv8(M:ak)(c:Ctx):=(vm M c).2.2.2.2.2.2.1
def qv7:=@vn M _ WB [.tmp 2] [a0] (by kernel_rfl) H Q
def qx0(M:ak)(c:Ctx):=(vm M c).2.2.2.2.2.2.2.1
def qxz:=@vn M _ UI [.tmp 4] [a0,a1] (by kernel_rfl) H Q
abbrev Ny(k:Nat):Kp×ai:=JE yz k
def q0s(M:ak)(c:Ctx):=(bB M c).1
def q0r:=@vn M _ yz [.tmp 4,.tmp 5] [a0,a1] (by kernel_rfl) H Q
abbrev q0m(k:Nat):Kp×ai:=JE RI k
def q0o(M:ak)(c:Ctx):=(bB M c).2.1
def q0n:=@vn M _ RI [.tmp 4,.tmp 5] [a0,a1] (by kernel_rfl) H Q
def q0l(M:ak)(c:Ctx):=(bB M c).2.2.1
def q0k:=@vn M _ qo6 [.tmp 2] [a0] (by kernel_rfl) H Q
def q5t(M:ak)(c:Ctx):=(bB M c).2.2.2.1
def q5s:=@vn M _ ZM [.tmp 4] [a0,a1] (by kernel_rfl) H Q
def q5r(M:ak)(c:Ctx):=(bB M c).2.2.2.2.1
def q5q:=@vn M _ Wf [.tmp 6] [a0,a1,a2] (by kernel_rfl) H Q
def qx9(M:ak)(c:Ctx):=(bB M c).2.2.2.2.2.1
def qx8:=@vn M _ qm3 [.tmp 4] [a0,a1] (by kernel_rfl) H Q
def qx7(M:ak)(c:Ctx):=(bB M c).2.2.2.2.2.2.1
def qx6:=@vn M _ Z1 [] [a0,a1] (by kernel_rfl) H Q
def quf(M:ak)(c:Ctx):=(bB M c).2.2.2.2.2.2.2.1
def que:=@vn M _ Us [.tmp 6] [a0,a1,a2] (by kernel_rfl) H Q
def MZ(M:ak)(c:Ctx):=(cb M c).1
def q02:=@vn M _ _p [] [a0,a1,a2] (by kernel_rfl) H Q
def q5v(M:ak)(c:Ctx):=(cb M c).2.1
def q5u:=@vn M _ w_ [.de 11 6] [a0,a1,a2] (by kernel_rfl) H Q
def qop(M:ak)(c:Ctx):=(cb M c).2.2.1
def qoo:=@vn M _ YS [.tmp 4] [a0,a1] (by kernel_rfl) H Q
def qmd(M:ak)(c:Ctx):=(cb M c).2.2.2.1
def qv9:=@vn M _ ZB [.tmp 3] [a0,a1] (by kernel_rfl) H Q
abbrev i_(k:Nat):Kp×ai:=JE NR k
def q0z(M:ak)(c:Ctx):=(cb M c).2.2.2.2.1
def q0y:=@vn M _ NR [.tmp 4] [a0,a1] (by kernel_rfl) H Q
def q01(M:ak)(c:Ctx):=(cb M c).2.2.2.2.2.1
def q00:=@vn M _ ZP [.tmp 4] [a0,a1] (by kernel_rfl) H Q
def qrs(M:ak)(c:Ctx):=(cb M c).2.2.2.2.2.2.1
def qrr:=@vn M _ _m [.tmp 4] [a0,a1] (by kernel_rfl) H Q
def qp2(M:ak)(c:Ctx):=(cb M c).2.2.2.2.2.2.2.1
def qp1:=@vn M _ Y5 [.tmp 4] [a0,a1] (by kernel_rfl) H Q
def qwh(M:ak)(c:Ctx):=(ck M c)
def qwg:=@vn M _ Zx [.tmp 4] [a0,a1] (by kernel_rfl) H Q
abbrev Ft:Nat:=80
abbrev _V:Nat:=53
abbrev U5:Nat:=103
abbrev NT:Nat:=105
abbrev RZ:Nat:=106
abbrev Zo:Nat:=51
abbrev l_:Nat:=148
abbrev O4:Nat:=180
abbrev JG:Nat:=104
abbrev Sw:Nat:=146
abbrev XU:Nat:=72
abbrev UX:Nat:=68
abbrev V0:Nat:=88
abbrev ZS:Nat:=66
abbrev _Q:Nat:=147
abbrev Yx:Nat:=179
abbrev sH:Nat:=113
abbrev t8:Nat:=159
abbrev Zn:Nat:=160
abbrev Rk:Nat:=163
abbrev _l:Nat:=203
abbrev Y2:ue:=[(51,⟨[0,1,4,5,6,7,8,9,35,36],B2,[0,4,12,14,31,19,25,30]⟩,[]),(80,⟨[0,1,3,4,5,6,7,8,9,37,38],B2,[0,2,10,12,20,28,32,113,42,119,45,61,66,55,71,86,73,99,79]⟩,[]),(53,⟨[0,1,2,5,6],B2,[0,2,10]⟩,[]),(66,⟨[0,2,3],B2,[0,2,10]⟩,[]),(68,⟨[0,1,2,5,6,7,8],B2,[0,4,10]⟩,[]),(103,⟨[0,1,4],B2,[0,2,10]⟩,[]),(104,⟨[0,1,3,4,5,6,9,10],B2,[0,4,51,14,17,26,38]⟩,[]),(105,⟨[0,1,2,5,6,7,8,9,74,75],B2,[0,4,22,10,24,12,32,18,36,41]⟩,[]),(300105,⟨[0,1,2,5,6,7,8,9,74,75],B2,[0]⟩,[]),(200105,⟨[0,1,2,5,6,7,8,9,74,75],B2,[0]⟩,[]),(106,⟨[0,1,4,5,7,11],B2,[0,4,8,18]⟩,[]),(88,⟨[0,1,4,5],B2,[0,2,17]⟩,[]),(146,⟨[0,1,2,3],B2,[0]⟩,[]),(147,⟨[0,1,4],B2,[0]⟩,[]),(148,⟨[0,1,2],B2,[0]⟩,[]),(72,⟨[0,1,4,5,6,7,8],B2,[0,4,12]⟩,[]),(179,⟨[0,1,4,5,7,8],B2,[0,2,25,7,13,24]⟩,[]),(180,⟨[0,1,3,4],B2,[0,4,10,19]⟩,[])]
def Wn(n:Nat):Kp:=jM n Y2
def K4(n k:Nat):Kp×ai:=(Wn n,part (bh Tryz.prog n) k)
def q2u(n k:Nat):K4 n k=(Wn n,part (bh Tryz.prog n) k):=rfl
def vR:=@lf M _ K4 Wn q2u
attribute [local irreducible] K4
def y9(M:ak)(c:Ctx):=by
 have h:=oQ q2u M c Y2 (by kernel_rfl)
 conv at h=>arg 5;reduce
 delta PR RL nY gG nJ gI pj mI fO gN gj oH rC sY nS p7 rW se Y2 at h
 simp only[zX,AD,Af,Ab,B0,P8]at h;exact h
def cr(M:ak)(c:Ctx):=(y9 M c).2.2.2.2.2.2.2.2
def cA(M:ak)(c:Ctx):=(cr M c).2.2.2.2.2.2.2.2
def xk9(M:ak)(c:Ctx):=(y9 M c).1
def xk8:=@vR M _ Zo [.tmp 4,.tmp 5] [a0,a1] (by kernel_rfl) H Q
abbrev VV(k:Nat):Kp×ai:=K4 Ft k
def qtf(M:ak)(c:Ctx):=(y9 M c).2.1
def q63:=@vR M _ Ft [.tmp 4,.tmp 5] [a0,a1] (by kernel_rfl) H Q
def q9l(M:ak)(c:Ctx):=(y9 M c).2.2.1
def q9k:=@vR M _ _V [.tmp 6] [a0,a1,a2] (by kernel_rfl) H Q
def xmg(M:ak)(c:Ctx):=(y9 M c).2.2.2.1
def xmf:=@vR M _ ZS [.tmp 2,.tmp 3] [a0] (by kernel_rfl) H Q
def xag(M:ak)(c:Ctx):=(y9 M c).2.2.2.2.1
def xaf:=@vR M _ UX [.tmp 6] [a0,a1,a2] (by kernel_rfl) H Q
def xby(M:ak)(c:Ctx):=(y9 M c).2.2.2.2.2.1
def xbx:=@vR M _ U5 [.tmp 4] [a0,a1] (by kernel_rfl) H Q
abbrev SI(k:Nat):Kp×ai:=K4 JG k
def q4d(M:ak)(c:Ctx):=(y9 M c).2.2.2.2.2.2.1
def q4c:=@vR M _ JG [.tmp 4] [a0,a1] (by kernel_rfl) H Q
def TQ:cj:=funcAt Tryz.prog NT
def QI:dZ:=iG TQ 0
abbrev WO(k:Nat):Kp×ai:=K4 300105 k
abbrev YA(k:Nat):Kp×ai:=K4 200105 k
def qnl:nth TQ.loops 0=B1 QI/\QI.params=[75]:=⟨by kernel_rfl,by kernel_rfl⟩
def qxm:(WO 0).1.ah=[0,1,2,5,6,7,8,9,74,75]/\(WO 0).2=QI.assign:=⟨by kernel_rfl,by kernel_rfl⟩
def qxn:(YA 0).1.ah=[0,1,2,5,6,7,8,9,74,75]/\(YA 0).2=QI.body:=⟨by kernel_rfl,by kernel_rfl⟩
def q0a:M.func NT=B1 TQ:=MK.at (by decide) (by kernel_rfl)
def _h(M:ak)(c:Ctx):=HX (y9 M c).2.2.2.2.2.2.2.1.1 (HX (cr M c).1 (HX (cr M c).2.1 (HX (y9 M c).2.2.2.2.2.2.2.1.2.1 (HX (y9 M c).2.2.2.2.2.2.2.1.2.2.1 (HX (y9 M c).2.2.2.2.2.2.2.1.2.2.2.1 (HX (y9 M c).2.2.2.2.2.2.2.1.2.2.2.2.1 (HX (y9 M c).2.2.2.2.2.2.2.1.2.2.2.2.2.1 (HX (y9 M c).2.2.2.2.2.2.2.1.2.2.2.2.2.2.1 (HX (y9 M c).2.2.2.2.2.2.2.1.2.2.2.2.2.2.2.1 (HX (y9 M c).2.2.2.2.2.2.2.1.2.2.2.2.2.2.2.2.1 ((y9 M c).2.2.2.2.2.2.2.1.2.2.2.2.2.2.2.2.2)))))))))))
def q39:=@vR M _ NT [.tmp 6] [a0,a1,a2] (by kernel_rfl) H Q
def q4b(M:ak)(c:Ctx):=(cr M c).2.2.1
def q4a:=@vR M _ RZ [.de 11 4] [a0,a1] (by kernel_rfl) H Q
def xcy(M:ak)(c:Ctx):=(cr M c).2.2.2.1
def xcx:=@vR M _ V0 [.tmp 4,.tmp 5] [a0,a1] (by kernel_rfl) H Q
def qnm(M:ak)(c:Ctx):=(cr M c).2.2.2.2.1
def qxo:=@vR M _ Sw [.tmp 3] [a0,a1] (by kernel_rfl) H Q
def qju(M:ak)(c:Ctx):=(cr M c).2.2.2.2.2.1
def qjt:=@vR M _ _Q [.tmp 4] [a0,a1] (by kernel_rfl) H Q
def q0c(M:ak)(c:Ctx):=(cr M c).2.2.2.2.2.2.1
def q0b:=@vR M _ l_ [.tmp 2] [a0] (by kernel_rfl) H Q
def q7q(M:ak)(c:Ctx):=(cr M c).2.2.2.2.2.2.2.1
def q7p:=@vR M _ XU [.de 8 4,.tmp 5] [a0,a1] (by kernel_rfl) H Q
def qls(M:ak)(c:Ctx):=(cA M c).1
def qlr:=@vR M _ Yx [.tmp 4] [a0,a1] (by kernel_rfl) H Q
def qvt(M:ak)(c:Ctx):=(cA M c).2
def qvs:=@vR M _ O4 [] [a0,a1] (by kernel_rfl) H Q
abbrev NL:Nat:=65
abbrev Jv:Nat:=86
abbrev Tl:Nat:=258
abbrev Uq:Nat:=259
abbrev Tm:Nat:=260
abbrev T6:Nat:=261
abbrev Q5:Nat:=63
abbrev RO:Nat:=64
abbrev R3:Nat:=262
abbrev T1:Nat:=263
abbrev S0:Nat:=264
abbrev X2:Nat:=83
abbrev Qp:Nat:=85
abbrev UB:Nat:=82
abbrev Va:Nat:=37
abbrev Vp:Nat:=79
abbrev Kn:Nat:=115
abbrev KH:Nat:=116
variable{a4:AV}
abbrev YW:ue:=[(37,⟨[0,1,2,4,5,6,7,8,9,10,11,12,13,37,38,60,61,62],B2,[0,4,12,14,41,19,58,46,25,52,40,31,57,39]⟩,[]),(263,⟨[0,1,2,6,7,8,9,10],B2,[0,4,12]⟩,[]),(264,⟨[0,1,2,3,8,9,10,11],B2,[0,4,12]⟩,[]),(259,⟨[0,1,2,3,4,10,11,12,13,14],B2,[0,4,12]⟩,[]),(258,⟨[0,1,4],B2,[0]⟩,[]),(261,⟨[0,1,4],B2,[0]⟩,[]),(65,⟨[0,1,2,5,6],B2,[0]⟩,[]),(64,⟨[0,1,2,6,7,8,9],B2,[0,4,12]⟩,[]),(63,⟨[0,1,4,5,6,7,8,11],B2,[0,2,17,21,23,29]⟩,[]),(262,⟨[0,1,4,5],B2,[0]⟩,[]),(260,⟨[0,1,4,5],B2,[0]⟩,[]),(82,⟨[0,1],B2,[0]⟩,[]),(83,⟨[0,1,4,5],B2,[0,2,17]⟩,[]),(85,⟨[0,1,2,6,7,8],B2,[0,4,12]⟩,[]),(86,⟨[0,1,3],B2,[0]⟩,[]),(79,⟨[0,1,2,6,7],B2,[0,4,12]⟩,[])]
def Xm(n:Nat):Kp:=jM n YW
def Ux(n k:Nat):Kp×ai:=(Xm n,part (bh Tryz.prog n) k)
def _n(n k:Nat):Ux n k=(Xm n,part (bh Tryz.prog n) k):=rfl
def vP:=@lf M _ Ux Xm _n
attribute [local irreducible] Ux
def vO(M:ak)(c:Ctx):=by
 have h:=oQ _n M c YW (by kernel_rfl)
 conv at h=>arg 5;reduce
 delta PR RL nY gG nJ gI pj mI fO gN gj oH rC nS p7 rW se YW at h
 simp only[zX,AD,Af,Ab,B0,P8]at h;exact h
def cB(M:ak)(c:Ctx):=(vO M c).2.2.2.2.2.2.2.2
def Tw(M:ak)(c:Ctx):=(vO M c).1
def xku:=@vP M _ Va [.tmp 4,.tmp 5] [a0,a1] (by kernel_rfl) H Q
def q6x(M:ak)(c:Ctx):=(vO M c).2.1
def q6w:=@vP M _ T1 [.tmp 6,.tmp 7,.tmp 8] [a0,a1,a2] (by kernel_rfl) H Q
def q3y(M:ak)(c:Ctx):=(vO M c).2.2.1
def q3x:=@vP M _ S0 [.tmp 8,.tmp 9] [a0,a1,a2,a3] (by kernel_rfl) H Q
def q9h(M:ak)(c:Ctx):=(vO M c).2.2.2.1
def q9g:=@vP M _ Uq [.tmp 10,.tmp 11,.tmp 12] [a0,a1,a2,a3,a4] (by kernel_rfl) H Q
def q3w(M:ak)(c:Ctx):=(vO M c).2.2.2.2.1
def q3v:=@vP M _ Tl [.tmp 4] [a0,a1] (by kernel_rfl) H Q
def qzt(M:ak)(c:Ctx):=(vO M c).2.2.2.2.2.1
def qzs:=@vP M _ T6 [.tmp 4] [a0,a1] (by kernel_rfl) H Q
def X5(M:ak)(c:Ctx):=(vO M c).2.2.2.2.2.2.1
def Y7:=@vP M _ NL [.tmp 6] [a0,a1,a2] (by kernel_rfl) H Q
def qs9(M:ak)(c:Ctx):=(vO M c).2.2.2.2.2.2.2.1
def qs8:=@vP M _ RO [.tmp 6] [a0,a1,a2] (by kernel_rfl) H Q
def qnj(M:ak)(c:Ctx):=(cB M c).1
def _3:=@vP M _ Q5 [.de 11 4,.tmp 5] [a0,a1] (by kernel_rfl) H Q
def q6v(M:ak)(c:Ctx):=(cB M c).2.1
def q6u:=@vP M _ R3 [.tmp 4] [a0,a1] (by kernel_rfl) H Q
def q6t(M:ak)(c:Ctx):=(cB M c).2.2.1
def q6s:=@vP M _ Tm [.tmp 4] [a0,a1] (by kernel_rfl) H Q
def q61(M:ak)(c:Ctx):=(cB M c).2.2.2.1
def q60:=@vP M _ UB [] [a0,a1] (by kernel_rfl) H Q
def xbq(M:ak)(c:Ctx):=(cB M c).2.2.2.2.1
def xbp:=@vP M _ X2 [.tmp 4,.tmp 5] [a0,a1] (by kernel_rfl) H Q
def _q(M:ak)(c:Ctx):=(cB M c).2.2.2.2.2.1
def W2:=@vP M _ Qp [.tmp 6] [a0,a1,a2] (by kernel_rfl) H Q
def qw8(M:ak)(c:Ctx):=(cB M c).2.2.2.2.2.2.1
def qw7:=@vP M _ Jv [.tmp 3] [a0,a1] (by kernel_rfl) H Q
def qot(M:ak)(c:Ctx):=(cB M c).2.2.2.2.2.2.2
def qos:=@vP M _ Vp [.tmp 6] [a0,a1,a2] (by kernel_rfl) H Q
abbrev qhw:Nat:=210
abbrev UA:Nat:=125
abbrev S4:Nat:=160
abbrev RN:Nat:=161
abbrev Ta:Nat:=162
abbrev SN:Nat:=163
abbrev N2:Nat:=159
abbrev L5:Nat:=190
abbrev Yq:Nat:=191
abbrev yG:Nat:=60
abbrev jk:Nat:=135
abbrev AR:Nat:=108
abbrev yt:Nat:=0
abbrev Zy:ue:=[(125,⟨[0,1,2,3,4,5,6,7,8,9,10,11,12,13,14,49],B2,[0,2,10,14,18,22,129,38,50,62,74,86,98,110,122]⟩,[(7,[0,2,4,8,10,12,16,18,20,6,13,21,14,21,22,24,26,28])]),(160,⟨[0,1,2,4,5],B2,[0]⟩,[]),(161,⟨[0,1,2,4,5],B2,[0,2,10,18]⟩,[]),(162,⟨[0,1,3,5],B2,[0]⟩,[]),(163,⟨[0,1,3],B2,[0]⟩,[]),(191,⟨[0,1,4],B2,[0]⟩,[]),(210,⟨[0,1,4],B2,[0]⟩,[])]
def YC(n:Nat):Kp:=jM n Zy
def Wc(n k:Nat):Kp×ai:=(YC n,part (bh Tryz.prog n) k)
def q2w(n k:Nat):Wc n k=(YC n,part (bh Tryz.prog n) k):=rfl
def LG:=@lf M _ Wc YC q2w
attribute [local irreducible] Wc
def Lj(M:ak)(c:Ctx):=by
 have h:=oQ q2w M c Zy (by kernel_rfl)
 conv at h=>arg 5;reduce
 delta PR RL nY gG nJ gI pj iQ mI fO gN gj oH nS p7 rW se Zy at h
 simp only[zX,AD,Af,Ab,B0,P8]at h;exact h
def ad7(M:ak)(c:Ctx):=(Lj M c).1
def af8:=@LG M _ UA [.de 5 6] [a0,a1,a2] (by kernel_rfl) H Q
def ZV:cj:=funcAt Tryz.prog N2
def q4p:Kp:=⟨[0,1,2,3,4,5,6,19,20],B2,[0,4,9,15,26,27]⟩
def zE(k:Nat):Kp×ai:=(q4p,part ZV.body k)
def xe7(M:ak)(c:Ctx):(WE M c (zE 0) λ Q E D H=>Lz E 0 λ g f=>A3 g AR (AV.cells f) H λ g b H1=>Fl g 0 b H1 λ g h=>C3 M g (.func L5) [h] H1 λ g a o=>B3 g ((Op.extract 0) [a]) λ g d=>B3 g ((Op.extract 1) [a]) λ g e=>W M c (zE 4) g Q ((4,e)::(3,d)::(2,(.bool B2))::(1,b)::E) D o) /\
 (WE M c (zE 4) λ Q E D H=>Lz E 1 λ g a=>Fl g 1 a H λ g b=>Fl g 2 a H λ g d=>Fl g 3 a H λ g e=>B3 g ((Op.build [(.int .i64 0),(.int .i64 0),(.int .i64 0)] [(0,1),(1,1),(2,1)]) [b,d,e]) λ g f=>cu (W M c (zE 9)) (fj 0 (fq (W M c (zE 27)) Q)) ((20,(.int .i64 0))::(19,f)::E) D H) /\
 (WE M c (zE 27) λ Q E D H=>Lz E 4 λ g a=>rG g Q .ret ((2,a)::E) D H) /\
 (WE M c (zE 9) λ Q E D H=>Lz E 20 λ g a=>Cb g .lss a (.int .i64 3) (λ g=>Gt g M c (zE 15) Q E D H) (λ g=>rG g (fq (W M c (zE 15)) Q) (.exit 0) E D H)) /\
 (WE M c (zE 15) λ Q E D H=>Lz E 20 λ g b=>Ly g E 19 λ g j=>B3 g ((Op.bF 3 1 B5) [j,b]) λ g a=>Ly g E 3 λ g r=>B3 g (Op.bQ [(.str [65,66,67]),b]) λ g l=>C3 M g (.func Yq) [r,l] H λ g m H1=>Bn g .geq m (.int .i64 0) λ g e=>JN (λ(k:Bool->AV->AV->AV->ar->Prop)=>B3 g (cX B4 (B1 e)) λ g w=>vE g w (λ g=>Bn g .lss a (.int .i64 0) λ g i=>k g i i a H1) (λ g=>k g uu uu uu H1)) (λ g d _ _ o=>JN (λ(k:Bool->AV->AV->ar->Prop)=>B3 g (cX B2 (B1 d)) λ g w=>vE g w (λ g=>Bn g .geq a (.int .i64 8) λ g n=>k g n a o) (λ g=>k g uu uu o)) (λ g f _ s=>JN (λ(k:Bool->AV->ar->Prop)=>B3 g (cX B4 (B1 e)) λ g w=>vE g w (λ g=>B3 g (Op.pick [d,(.bool B4),f]) λ g p=>k g p s) (λ g=>k g uu s)) (λ g h t=>B3 g (Op.pick [e,h,(.bool B2)]) λ g q=>mL g q (λ g=>rG g (fj 1 (fq (W M c (zE 26)) Q)) .ret ((2,(.bool B2))::(6,a)::(5,b)::E) D t) (λ g=>rG g (fj 1 (fq (W M c (zE 26)) Q)) .normal ((6,a)::(5,b)::E) D t))))) /\
 (WE M c (zE 26) λ Q E D H=>Lz E 20 λ g a=>Bn g .add a (.int .i64 1) λ g b=>rG g Q .normal ((20,b)::E) D H):=by(repeat' apply HX)<;>(intro _ _ _ _;refine DI ?_;kernel_rfl)
def xe5:(bq Tryz.prog).func N2=B1 ZV/\ZV.results=[.tmp 2]:=χ (by kernel_rfl)
def xe6(h:W M ⟨B5,N2⟩ (zE 0) B4 (eS M [.tmp 2] Q) [(0,a0)] [] H):FK M N2 [a0] H Q:=Cd (by decide) xe5 (ks:=q4p) (by kernel_rfl) h
def xio(M:ak)(c:Ctx):=(Lj M c).2.1
def xin:=@LG M _ S4 [.de 5 4] [a0,a1,a2] (by kernel_rfl) H Q
def xiq(M:ak)(c:Ctx):=(Lj M c).2.2.1
def xip:=@LG M _ RN [.de 5 4] [a0,a1,a2] (by kernel_rfl) H Q
def xis(M:ak)(c:Ctx):=(Lj M c).2.2.2.1
def xir:=@LG M _ Ta [.de 5 3] [a0,a1] (by kernel_rfl) H Q
def xiu(M:ak)(c:Ctx):=(Lj M c).2.2.2.2.1
def xit:=@LG M _ SN [.tmp 3] [a0,a1] (by kernel_rfl) H Q
def U8:cj:=funcAt Tryz.prog L5
def _C:Kp:=⟨[0,2,3],B2,[0,2,10]⟩
def J8(k:Nat):Kp×ai:=(_C,part U8.body k)
def xfa(M:ak)(c:Ctx):(WE M c (J8 0) λ Q E D H=>W M c (J8 2) B4 Q ((3,(.bool B2))::(2,(.str []))::E) D H) /\
 (WE M c (J8 2) λ Q E D H=>Lz E 0 λ g a=>Bn g .lss a (.int .i64 1) λ g d=>JN (λ(k:Bool->AV->AV->ar->Prop)=>B3 g (cX B2 (B1 d)) λ g w=>vE g w (λ g=>Bn g .geq a (.int .i64 19) λ g e=>k g e a H) (λ g=>k g uu uu H)) (λ g b _ H1=>B3 g (Op.pick [d,(.bool B4),b]) λ g f=>mL g f (λ g=>rG g (fq (W M c (J8 10)) Q) .ret ((3,(.bool B2))::(2,(.str []))::E) D H1) (λ g=>Gt g M c (J8 10) Q E D H1))) /\
 (WE M c (J8 10) λ Q E D H=>Lz E 0 λ g d=>B3 g ((Op.aV 19 2) [(.ptr yt 0),d]) λ g a=>Fl g 1 a H λ g b=>rG g Q .ret ((3,(.bool B4))::(2,b)::E) D H):=by(repeat' apply HX)<;>(intro _ _ _ _;refine DI ?_;kernel_rfl)
def xe8:(bq Tryz.prog).func L5=B1 U8/\U8.results=[.tmp 2,.tmp 3]:=χ (by kernel_rfl)
def xe9(h:W M ⟨B5,L5⟩ (J8 0) B4 (eS M [.tmp 2,.tmp 3] Q) [(0,a0)] [] H):FK M L5 [a0] H Q:=Cd (by decide) xe8 (ks:=_C) (by kernel_rfl) h
def quz(M:ak)(c:Ctx):=(Lj M c).2.2.2.2.2.1
def quy:=@LG M _ Yq [.tmp 4] [a0,a1] (by kernel_rfl) H Q
def _0(M:ak)(c:Ctx):=(Lj M c).2.2.2.2.2.2
def qhx:=@LG M _ qhw [.tmp 4] [a0,a1] (by kernel_rfl) H Q
abbrev _9:Nat:=126
abbrev _B:Nat:=178
abbrev e_:Nat:=145
abbrev X_:Nat:=123
abbrev tr:Nat:=92
abbrev qpb:Nat:=132
abbrev Zw:Nat:=128
abbrev qly:Nat:=121
abbrev mo:Nat:=156
abbrev xo:Nat:=164
abbrev q71:Nat:=57
abbrev IG:Nat:=180
abbrev OU:Nat:=177
abbrev Zb:ue:=[(57,⟨[0],B2,[0]⟩,[]),(128,⟨[0,1,2,6,7],B2,[0,4,10]⟩,[]),(126,⟨[0,2,8],B2,[0,2,10]⟩,[]),(123,⟨[0,2],B2,[0,2,10]⟩,[]),(145,⟨[0,1,4],B2,[0,2,10,18]⟩,[]),(132,⟨[0,2,3],B2,[0,2,10]⟩,[]),(92,⟨[0,2,3],B2,[0,4,10]⟩,[]),(178,⟨[0,2,3],B2,[0,4,10]⟩,[]),(164,⟨[0,1,4],B2,[0,2,10,18]⟩,[]),(156,⟨[0,2],B2,[0]⟩,[]),(121,⟨[0,2],B2,[0,2,10,18]⟩,[])]
def UT(n:Nat):Kp:=jM n Zb
def ZE(n k:Nat):Kp×ai:=(UT n,part (bh Tryz.prog n) k)
def xi(n k:Nat):ZE n k=(UT n,part (bh Tryz.prog n) k):=rfl
def Bw:=@lf M _ ZE UT xi
attribute [local irreducible] ZE
def C9(M:ak)(c:Ctx):=by
 have h:=oQ xi M c Zb (by kernel_rfl)
 conv at h=>arg 5;reduce
 delta PR RL nY gG nJ gI pj mI fO gN gj oH nS rW se Zb at h
 simp only[zX,AD,Af,Ab,B0,P8]at h;exact h
def xjk(M:ak)(c:Ctx):=(C9 M c).1
def xjj:=@Bw M _ q71 [.tmp 0] [] (by kernel_rfl) H Q
def vo(M:ak)(c:Ctx):=(C9 M c).2.1
def q58:=@Bw M _ Zw [.tmp 6] [a0,a1,a2] (by kernel_rfl) H Q
def q57(M:ak)(c:Ctx):=(C9 M c).2.2.1
def q56:=@Bw M _ _9 [.de 8 2] [a0] (by kernel_rfl) H Q
def q7t(M:ak)(c:Ctx):=(C9 M c).2.2.2.1
def q7s:=@Bw M _ X_ [.tmp 2] [a0] (by kernel_rfl) H Q
def oA(M:ak)(c:Ctx):=(C9 M c).2.2.2.2.1
def q05:=@Bw M _ e_ [.tmp 4] [a0,a1] (by kernel_rfl) H Q
def q07(M:ak)(c:Ctx):=(C9 M c).2.2.2.2.2.1
def q06:=@Bw M _ qpb [.tmp 2] [a0] (by kernel_rfl) H Q
def TG(M:ak)(c:Ctx):=(C9 M c).2.2.2.2.2.2.1
def quh:=@Bw M _ tr [.tmp 2] [a0] (by kernel_rfl) H Q
def qpp(M:ak)(c:Ctx):=(C9 M c).2.2.2.2.2.2.2.1
def q04:=@Bw M _ _B [.tmp 2] [a0] (by kernel_rfl) H Q
def VN(M:ak)(c:Ctx):=(C9 M c).2.2.2.2.2.2.2.2.1
def qyi:=@Bw M _ xo [.tmp 4] [a0,a1] (by kernel_rfl) H Q
def q09(M:ak)(c:Ctx):=(C9 M c).2.2.2.2.2.2.2.2.2.1
def q08:=@Bw M _ mo [.tmp 2] [a0] (by kernel_rfl) H Q
def qme(M:ak)(c:Ctx):=(C9 M c).2.2.2.2.2.2.2.2.2.2
def qwe:=@Bw M _ qly [.tmp 2] [a0] (by kernel_rfl) H Q
abbrev I':Nat:=93
abbrev qhy:Nat:=155
abbrev qi0:Nat:=133
abbrev qjy:Nat:=76
abbrev qjz:Nat:=119
abbrev m_:Nat:=177
abbrev _Y:Nat:=120
abbrev wg:Nat:=122
abbrev O_:Nat:=90
abbrev D_:Nat:=157
abbrev wx:Nat:=187
abbrev wo:Nat:=55
abbrev ξ:Nat:=70
abbrev Of:Nat:=171
abbrev I5:Nat:=26
abbrev vc:Nat:=175
abbrev QO:Nat:=125
abbrev XC:ue:=[(55,⟨[0,1,2,3,4,5],B2,[0,4,12]⟩,[]),(133,⟨[0,2,3],B2,[0,2,10,18]⟩,[]),(93,⟨[0,1,4,5],B2,[0,2,10,18,26,28,39]⟩,[]),(177,⟨[0,2],B2,[0,2,10,18]⟩,[]),(119,⟨[0,2],B2,[0,2,10]⟩,[]),(120,⟨[0,2,3,5,7,8],B2,[0,4,21,9,15,20]⟩,[]),(155,⟨[0,2,5],B2,[0,2,10]⟩,[]),(76,⟨[0,2],B2,[0]⟩,[]),(70,⟨[0,1,2,3,4,5,6,14,15,16],B2,[0,4,27,9,15,26]⟩,[]),(90,⟨[0,2],B2,[0]⟩,[]),(122,⟨[0,1,2,4,7,8],B2,[0]⟩,[]),(300122,⟨[0,1,2,4,7,8],B2,[0]⟩,[]),(200122,⟨[0,1,2,4,7,8],B2,[0]⟩,[]),(157,⟨[0,1,2,3,4],B2,[0]⟩,[]),(187,⟨[0,1,2,4],B2,[0,4,10,17]⟩,[])]
def UR(n:Nat):Kp:=jM n XC
def RP(n k:Nat):Kp×ai:=(UR n,part (bh Tryz.prog n) k)
def q20(n k:Nat):RP n k=(UR n,part (bh Tryz.prog n) k):=rfl
def Au:=@lf M _ RP UR q20
attribute [local irreducible] RP
def wS(M:ak)(c:Ctx):=by
 have h:=oQ q20 M c XC (by kernel_rfl)
 conv at h=>arg 5;reduce
 delta PR RL nY gG nJ gI pj mI fO gN gj oH rC sY nS p7 rW se XC at h
 simp only[zX,AD,Af,Ab,B0,P8]at h;exact h
def cC(M:ak)(c:Ctx):=(wS M c).2.2.2.2.2.2.2.2
def X0(M:ak)(c:Ctx):=(wS M c).1
def xfc:=@Au M _ wo [.tmp 2,.tmp 3] [a0] (by kernel_rfl) H Q
def L'(M:ak)(c:Ctx):=(wS M c).2.1
def qrc:=@Au M _ qi0 [.tmp 2,.tmp 3] [a0] (by kernel_rfl) H Q
def jw(M:ak)(c:Ctx):=(wS M c).2.2.1
def qrb:=@Au M _ I' [.tmp 4,.tmp 5] [a0,a1] (by kernel_rfl) H Q
def qw(M:ak)(c:Ctx):=(wS M c).2.2.2.1
def qrd:=@Au M _ m_ [.tmp 2] [a0] (by kernel_rfl) H Q
def qsm(M:ak)(c:Ctx):=(wS M c).2.2.2.2.1
def qsl:=@Au M _ qjz [.tmp 2] [a0] (by kernel_rfl) H Q
def Xk(M:ak)(c:Ctx):=(wS M c).2.2.2.2.2.1
def qt9:=@Au M _ _Y [.tmp 2] [a0] (by kernel_rfl) H Q
def qpw(M:ak)(c:Ctx):=(wS M c).2.2.2.2.2.2.1
def qpv:=@Au M _ qhy [.de 5 2] [a0] (by kernel_rfl) H Q
def _2(M:ak)(c:Ctx):=(wS M c).2.2.2.2.2.2.2.1
def qsk:=@Au M _ qjy [.tmp 2] [a0] (by kernel_rfl) H Q
def PY(M:ak)(c:Ctx):=(cC M c).1
def q46:=@Au M _ ξ [.de 5 2,.tmp 3] [a0] (by kernel_rfl) H Q
def qsp(M:ak)(c:Ctx):=(cC M c).2.1
def qso:=@Au M _ O_ [.tmp 2] [a0] (by kernel_rfl) H Q
def TA:cj:=funcAt Tryz.prog wg
def Pw:dZ:=iG TA 0
abbrev X1(k:Nat):Kp×ai:=RP 300122 k
abbrev ZA(k:Nat):Kp×ai:=RP 200122 k
def qh2:nth TA.loops 0=B1 Pw/\Pw.params=[8]:=⟨by kernel_rfl,by kernel_rfl⟩
def qpx:(X1 0).1.ah=[0,1,2,4,7,8]/\(X1 0).2=Pw.assign:=⟨by kernel_rfl,by kernel_rfl⟩
def qpy:(ZA 0).1.ah=[0,1,2,4,7,8]/\(ZA 0).2=Pw.body:=⟨by kernel_rfl,by kernel_rfl⟩
def qre:M.func wg=B1 TA:=MK.at (by decide) (by kernel_rfl)
def ZW(M:ak)(c:Ctx):=HX (cC M c).2.2.1 (HX (cC M c).2.2.2.1 ((cC M c).2.2.2.2.1))
def qsn:=@Au M _ wg [] [a0,a1] (by kernel_rfl) H Q
def qsr(M:ak)(c:Ctx):=(cC M c).2.2.2.2.2.1
def qsq:=@Au M _ D_ [.tmp 4] [a0,a1] (by kernel_rfl) H Q
def Ru(M:ak)(c:Ctx):=(cC M c).2.2.2.2.2.2
def qpz:=@Au M _ wx [] [a0,a1,a2] (by kernel_rfl) H Q
abbrev F_:Nat:=173
abbrev qs0:Nat:=193
abbrev qs1:Nat:=217
abbrev M':Nat:=229
abbrev qu7:Nat:=216
abbrev qqe:Nat:=196
abbrev κ:Nat:=197
abbrev qs2:Nat:=199
abbrev lL:Nat:=71
abbrev qs3:Nat:=233
abbrev qo5:Nat:=200
abbrev N_:Nat:=211
abbrev qs4:Nat:=219
abbrev Pc:Nat:=220
abbrev qqo:Nat:=237
abbrev vj:Nat:=239
abbrev oq:Nat:=136
abbrev vx:Nat:=253
abbrev TL:Nat:=215
abbrev IX:Nat:=213
abbrev We:ue:=[(71,⟨[0],B2,[0]⟩,[]),(217,⟨[0,1,2,6,8],B2,[0,2,10,18,28]⟩,[]),(196,⟨[0,1,2,6,7,8],B2,[0,2,10,18,30]⟩,[]),(216,⟨[0,1,4,5],B2,[0,2,10]⟩,[]),(193,⟨[0,1,4,5],B2,[0,2,10]⟩,[]),(229,⟨[0,2],B2,[0,2,10]⟩,[]),(197,⟨[0,2],B2,[0,2,10]⟩,[]),(173,⟨[0,2],B2,[0,2,10]⟩,[]),(199,⟨[0,2],B2,[0]⟩,[]),(211,⟨[0,1,4,5,6,7],B2,[0,4,12]⟩,[]),(219,⟨[0,1,2,6],B2,[0,2,10]⟩,[]),(220,⟨[0,2,3,5,7,8,9],B2,[0,4,9]⟩,[]),(300220,⟨[0,2,3,5,7,8,9],B2,[0]⟩,[]),(200220,⟨[0,2,3,5,7,8,9],B2,[0]⟩,[]),(200,⟨[0],B2,[0]⟩,[]),(233,⟨[0,2],B2,[0]⟩,[]),(237,⟨[0,1,2],B2,[0]⟩,[]),(239,⟨[0,1,3,4,5,6,7],B2,[0,4,10,19]⟩,[])]
def VO(n:Nat):Kp:=jM n We
def Oz(n k:Nat):Kp×ai:=(VO n,part (bh Tryz.prog n) k)
def va(n k:Nat):Oz n k=(VO n,part (bh Tryz.prog n) k):=rfl
def vW:=@lf M _ Oz VO va
attribute [local irreducible] Oz
def sR(M:ak)(c:Ctx):=by
 have h:=oQ va M c We (by kernel_rfl)
 conv at h=>arg 5;reduce
 delta PR RL nY gG nJ gI pj mI fO gN gj oH rC sY nS p7 rW se We at h
 simp only[zX,AD,Af,Ab,B0,P8]at h;exact h
def cL(M:ak)(c:Ctx):=(sR M c).2.2.2.2.2.2.2.2
def cU(M:ak)(c:Ctx):=(cL M c).2.2.2.2.2.2.2.2
def xl9(M:ak)(c:Ctx):=(sR M c).1
def xl8:=@vW M _ lL [.tmp 0] [] (by kernel_rfl) H Q
def S2(M:ak)(c:Ctx):=(sR M c).2.1
def q7j:=@vW M _ qs1 [.tmp 6] [a0,a1,a2] (by kernel_rfl) H Q
def R1(M:ak)(c:Ctx):=(sR M c).2.2.1
def q5c:=@vW M _ qqe [.tmp 6] [a0,a1,a2] (by kernel_rfl) H Q
def xaa(M:ak)(c:Ctx):=(sR M c).2.2.2.1
def q99:=@vW M _ qu7 [.tmp 4,.tmp 5] [a0,a1] (by kernel_rfl) H Q
def q7i(M:ak)(c:Ctx):=(sR M c).2.2.2.2.1
def q7h:=@vW M _ qs0 [.tmp 4,.tmp 5] [a0,a1] (by kernel_rfl) H Q
def q5b(M:ak)(c:Ctx):=(sR M c).2.2.2.2.2.1
def q5a:=@vW M _ M' [.tmp 2] [a0] (by kernel_rfl) H Q
def q0h(M:ak)(c:Ctx):=(sR M c).2.2.2.2.2.2.1
def q0g:=@vW M _ κ [.tmp 2] [a0] (by kernel_rfl) H Q
def q49(M:ak)(c:Ctx):=(sR M c).2.2.2.2.2.2.2.1
def q48:=@vW M _ F_ [.tmp 2] [a0] (by kernel_rfl) H Q
def q7l(M:ak)(c:Ctx):=(cL M c).1
def q7k:=@vW M _ qs2 [.tmp 2] [a0] (by kernel_rfl) H Q
def φ(M:ak)(c:Ctx):=(cL M c).2.1
def q5d:=@vW M _ N_ [.tmp 4,.tmp 5] [a0,a1] (by kernel_rfl) H Q
def qtl(M:ak)(c:Ctx):=(cL M c).2.2.1
def q7o:=@vW M _ qs4 [.tmp 6] [a0,a1,a2] (by kernel_rfl) H Q
def S8:cj:=funcAt Tryz.prog Pc
def PM:dZ:=iG S8 0
abbrev YJ(k:Nat):Kp×ai:=Oz 300220 k
abbrev Zv(k:Nat):Kp×ai:=Oz 200220 k
def qzo:nth S8.loops 0=B1 PM/\PM.params=[8,9]:=⟨by kernel_rfl,by kernel_rfl⟩
def xcp:(YJ 0).1.ah=[0,2,3,5,7,8,9]/\(YJ 0).2=PM.assign:=⟨by kernel_rfl,by kernel_rfl⟩
def xcq:(Zv 0).1.ah=[0,2,3,5,7,8,9]/\(Zv 0).2=PM.body:=⟨by kernel_rfl,by kernel_rfl⟩
def xff:M.func Pc=B1 S8:=MK.at (by decide) (by kernel_rfl)
def Uw(M:ak)(c:Ctx):=HX (cL M c).2.2.2.1.1 (HX (cL M c).2.2.2.2.1 (HX (cL M c).2.2.2.2.2.1 (HX (cL M c).2.2.2.1.2.1 ((cL M c).2.2.2.1.2.2))))
def xiz:=@vW M _ Pc [.tmp 2] [a0] (by kernel_rfl) H Q
def q0j(M:ak)(c:Ctx):=(cL M c).2.2.2.2.2.2.1
def q0i:=@vW M _ qo5 [] [a0] (by kernel_rfl) H Q
def q7n(M:ak)(c:Ctx):=(cL M c).2.2.2.2.2.2.2.1
def q7m:=@vW M _ qs3 [.tmp 2] [a0] (by kernel_rfl) H Q
def qrq(M:ak)(c:Ctx):=(cU M c).1
def qrp:=@vW M _ qqo [.tmp 2] [a0] (by kernel_rfl) H Q
def T4(M:ak)(c:Ctx):=(cU M c).2
def qon:=@vW M _ vj [] [a0,a1] (by kernel_rfl) H Q
abbrev q72:Nat:=58
abbrev hY:Nat:=135
abbrev qpe:Nat:=142
abbrev nu:Nat:=171
abbrev qm6:Nat:=176
abbrev B_:Nat:=140
abbrev J':Nat:=165
abbrev ql0:Nat:=138
abbrev qph:Nat:=158
abbrev qm7:Nat:=170
abbrev qm8:Nat:=167
abbrev γ:Nat:=137
abbrev Δ:Nat:=139
abbrev na:Nat:=223
abbrev qpj:Nat:=222
abbrev X8:Nat:=235
abbrev Vd:Nat:=236
abbrev Yg:Nat:=206
abbrev c_:Nat:=203
abbrev Py:Nat:=225
abbrev qm9:Nat:=174
abbrev K_:Nat:=202
abbrev qi3:Nat:=204
abbrev Tf:Nat:=209
abbrev qna:Nat:=194
abbrev qk5:Nat:=212
abbrev qi4:Nat:=213
abbrev YF:Nat:=215
abbrev Si:Nat:=189
abbrev Wx:Nat:=208
abbrev Z_:Nat:=201
abbrev Pq:Nat:=224
abbrev _R:Nat:=172
abbrev T3:Nat:=218
abbrev qnb:Nat:=188
abbrev ql1:Nat:=205
abbrev TE:Nat:=226
abbrev p_:Nat:=234
abbrev qk6:Nat:=238
abbrev U7:Nat:=198
abbrev lx:Nat:=221
abbrev π:Nat:=192
abbrev sW:Nat:=214
abbrev sg:Nat:=228
abbrev SY:Nat:=230
abbrev SE:Nat:=231
abbrev TD:Nat:=232
abbrev Vc:Nat:=175
abbrev Iw:Nat:=1
abbrev Kf:Nat:=293
abbrev Ub:Nat:=294
abbrev BG:Nat:=184
abbrev Ld:Nat:=131
abbrev BS:Nat:=187
abbrev YP:Nat:=31
abbrev YL:ue:=[(58,⟨[0],B2,[0]⟩,[]),(135,⟨[0,2],B2,[0,2,10,18]⟩,[]),(165,⟨[0,1,4,5,6,7],B2,[0,2,12,24]⟩,[]),(170,⟨[0,1,2,6,7],B2,[0,4,12]⟩,[]),(171,⟨[0,2,3],B2,[0,2,12,14,24]⟩,[]),(158,⟨[0,2,3],B2,[0,4,12]⟩,[]),(137,⟨[0,2,3,4],B2,[0,2,10]⟩,[(3,[0,2,4,6,8,10,12,14,16,18,15,17,20])]),(140,⟨[0,1,2,6,7],B2,[0,2,10,12,20]⟩,[]),(142,⟨[0,2],B2,[0]⟩,[]),(167,⟨[0,2],B2,[0,2,10]⟩,[]),(176,⟨[0,2],B2,[0,2,10]⟩,[]),(138,⟨[0,2],B2,[0,2,10]⟩,[]),(139,⟨[0,2],B2,[0]⟩,[]),(172,⟨[0,2],B2,[0]⟩,[]),(174,⟨[0,1,2,3,4,5],B2,[0]⟩,[]),(175,⟨[0],B2,[0]⟩,[]),(192,⟨[0,1,4,5],B2,[0,4,12]⟩,[]),(194,⟨[0,1,2,3],B2,[0]⟩,[]),(189,⟨[0,1,2,3],B2,[0]⟩,[]),(188,⟨[0,2],B2,[0,2,10,18]⟩,[]),(198,⟨[0,1],B2,[0]⟩,[]),(201,⟨[0,1,2,5],B2,[0]⟩,[]),(202,⟨[0,1,2,3],B2,[0]⟩,[]),(205,⟨[0,1,2,3],B2,[0]⟩,[]),(206,⟨[0,1],B2,[0]⟩,[]),(212,⟨[0,1,2,3],B2,[0]⟩,[]),(208,⟨[0,1],B2,[0]⟩,[(0,[0,2,4,6,8,10,3,5,12,14,16])]),(203,⟨[0,1,2,3,4,9],B2,[0]⟩,[]),(221,⟨[0,1],B2,[0,8]⟩,[(4,[0,2,4,6,8,10,1,12])]),(223,⟨[0,1,2,4],B2,[0]⟩,[]),(224,⟨[0,1,2],B2,[0]⟩,[]),(204,⟨[0,1,2,3],B2,[0,8]⟩,[]),(226,⟨[0,1,2],B2,[0,8]⟩,[]),(209,⟨[0],B2,[0]⟩,[]),(218,⟨[0,1],B2,[0]⟩,[]),(213,⟨[0,1,2,3,5,6],B2,[0,8,10,18]⟩,[]),(225,⟨[0,1,2],B2,[0]⟩,[]),(214,⟨[0,1,2,3],B2,[0]⟩,[]),(222,⟨[0,1,2,3],B2,[0,2,10]⟩,[]),(215,⟨[0,1],B2,[0]⟩,[]),(228,⟨[0,1,2,3,4,5,6,7,8],B2,[0]⟩,[]),(234,⟨[0,1,2,3,7],B2,[0]⟩,[]),(235,⟨[0,1],B2,[0]⟩,[]),(236,⟨[0],B2,[0]⟩,[]),(230,⟨[0,1,2,3,4],B2,[0,8]⟩,[]),(231,⟨[0,1,2,3],B2,[0,8]⟩,[]),(232,⟨[0,1,2,3,4],B2,[0,8]⟩,[]),(238,⟨[0,1,2],B2,[0]⟩,[])]
def V8(n:Nat):Kp:=jM n YL
def Wy(n k:Nat):Kp×ai:=(V8 n,part (bh Tryz.prog n) k)
def q23(n k:Nat):Wy n k=(V8 n,part (bh Tryz.prog n) k):=rfl
def jf:=@lf M _ Wy V8 q23
attribute [local irreducible] Wy
def je(M:ak)(c:Ctx):=by
 have h:=oQ q23 M c YL (by kernel_rfl)
 conv at h=>arg 5;reduce
 delta PR RL nY gG nJ gI pj iQ mI fO gN gj oH nS p7 rW se YL at h
 simp only[zX,AD,Af,Ab,B0,P8]at h;exact h
def cY(M:ak)(c:Ctx):=(je M c).2.2.2.2.2.2.2.2
def dN(M:ak)(c:Ctx):=(cY M c).2.2.2.2.2.2.2.2
def ea(M:ak)(c:Ctx):=(dN M c).2.2.2.2.2.2.2.2
def ed(M:ak)(c:Ctx):=(ea M c).2.2.2.2.2.2.2.2
def ee(M:ak)(c:Ctx):=(ed M c).2.2.2.2.2.2.2.2
def xjr(M:ak)(c:Ctx):=(je M c).1
def xjq:=@jf M _ q72 [.tmp 0] [] (by kernel_rfl) H Q
def Wa(M:ak)(c:Ctx):=(je M c).2.1
def qyk:=@jf M _ hY [.tmp 2] [a0] (by kernel_rfl) H Q
def TY(M:ak)(c:Ctx):=(je M c).2.2.1
def q1g:=@jf M _ J' [.tmp 4] [a0,a1] (by kernel_rfl) H Q
def P5(M:ak)(c:Ctx):=(je M c).2.2.2.1
def qyn:=@jf M _ qm7 [.tmp 6] [a0,a1,a2] (by kernel_rfl) H Q
def XV(M:ak)(c:Ctx):=(je M c).2.2.2.2.1
def qwi:=@jf M _ nu [.tmp 2] [a0] (by kernel_rfl) H Q
def WJ(M:ak)(c:Ctx):=(je M c).2.2.2.2.2.1
def q1h:=@jf M _ qph [.tmp 2] [a0] (by kernel_rfl) H Q
def q1j(M:ak)(c:Ctx):=(je M c).2.2.2.2.2.2.1
def q1i:=@jf M _ γ [.de 4 2,.tmp 3] [a0] (by kernel_rfl) H Q
def qps(M:ak)(c:Ctx):=(je M c).2.2.2.2.2.2.2.1
def q1f:=@jf M _ B_ [.tmp 6] [a0,a1,a2] (by kernel_rfl) H Q
def q1e(M:ak)(c:Ctx):=(cY M c).1
def q1d:=@jf M _ qpe [.tmp 2] [a0] (by kernel_rfl) H Q
def qyp(M:ak)(c:Ctx):=(cY M c).2.1
def qyo:=@jf M _ qm8 [.tmp 2] [a0] (by kernel_rfl) H Q
def qym(M:ak)(c:Ctx):=(cY M c).2.2.1
def qyl:=@jf M _ qm6 [.tmp 2] [a0] (by kernel_rfl) H Q
def qwk(M:ak)(c:Ctx):=(cY M c).2.2.2.1
def qwj:=@jf M _ ql0 [.tmp 2] [a0] (by kernel_rfl) H Q
def qum(M:ak)(c:Ctx):=(cY M c).2.2.2.2.1
def qul:=@jf M _ Δ [.tmp 2] [a0] (by kernel_rfl) H Q
def q1q(M:ak)(c:Ctx):=(cY M c).2.2.2.2.2.1
def q1p:=@jf M _ _R [.tmp 2] [a0] (by kernel_rfl) H Q
def qyv(M:ak)(c:Ctx):=(cY M c).2.2.2.2.2.2.1
def qyu:=@jf M _ qm9 [] [a0,a1,a2] (by kernel_rfl) H Q
def q1u(M:ak)(c:Ctx):=(cY M c).2.2.2.2.2.2.2.1
def q1t:=@jf M _ Vc [] [a0] (by kernel_rfl) H Q
def Zg(M:ak)(c:Ctx):=(dN M c).1
def quw:=@jf M _ π [.tmp 4] [a0,a1] (by kernel_rfl) H Q
def qyx(M:ak)(c:Ctx):=(dN M c).2.1
def qyw:=@jf M _ qna [] [a0,a1] (by kernel_rfl) H Q
def qyz(M:ak)(c:Ctx):=(dN M c).2.2.1
def qyy:=@jf M _ Si [] [a0,a1] (by kernel_rfl) H Q
def qy3(M:ak)(c:Ctx):=(dN M c).2.2.2.1
def qy2:=@jf M _ qnb [.tmp 2] [a0] (by kernel_rfl) H Q
def q1s(M:ak)(c:Ctx):=(dN M c).2.2.2.2.1
def q1r:=@jf M _ U7 [] [a0] (by kernel_rfl) H Q
def q1o(M:ak)(c:Ctx):=(dN M c).2.2.2.2.2.1
def q1n:=@jf M _ Z_ [] [a0,a1,a2] (by kernel_rfl) H Q
def qup(M:ak)(c:Ctx):=(dN M c).2.2.2.2.2.2.1
def qun:=@jf M _ K_ [] [a0,a1,a2,a3] (by kernel_rfl) H Q
def qws(M:ak)(c:Ctx):=(dN M c).2.2.2.2.2.2.2.1
def qwr:=@jf M _ ql1 [] [a0,a1] (by kernel_rfl) H Q
def qyr(M:ak)(c:Ctx):=(ea M c).1
def qyq:=@jf M _ Yg [] [a0,a1] (by kernel_rfl) H Q
def qur(M:ak)(c:Ctx):=(ea M c).2.1
def quq:=@jf M _ qk5 [] [a0,a1,a2] (by kernel_rfl) H Q
def qut(M:ak)(c:Ctx):=(ea M c).2.2.1
def qus:=@jf M _ Wx [] [a0,a1] (by kernel_rfl) H Q
def q6i(M:ak)(c:Ctx):=(ea M c).2.2.2.1
def q6h:=@jf M _ c_ [] [a0,a1,a2,a3,a4] (by kernel_rfl) H Q
def qmf(M:ak)(c:Ctx):=(ea M c).2.2.2.2.1
def qwt:=@jf M _ lx [] [a0,a1] (by kernel_rfl) H Q
def q6g(M:ak)(c:Ctx):=(ea M c).2.2.2.2.2.1
def q6f:=@jf M _ na [] [a0,a1,a2] (by kernel_rfl) H Q
def qwq(M:ak)(c:Ctx):=(ea M c).2.2.2.2.2.2.1
def qwp:=@jf M _ Pq [] [a0,a1,a2] (by kernel_rfl) H Q
def pf(M:ak)(c:Ctx):=(ea M c).2.2.2.2.2.2.2.1
def qrt:=@jf M _ qi3 [] [a0,a1,a2,a3] (by kernel_rfl) H Q
def TS(M:ak)(c:Ctx):=(ed M c).1
def qj8:=@jf M _ TE [] [a0,a1,a2] (by kernel_rfl) H Q
def q1m(M:ak)(c:Ctx):=(ed M c).2.1
def q1l:=@jf M _ Tf [] [a0] (by kernel_rfl) H Q
def qy1(M:ak)(c:Ctx):=(ed M c).2.2.1
def qy0:=@jf M _ T3 [] [a0,a1] (by kernel_rfl) H Q
def Od(M:ak)(c:Ctx):=(ed M c).2.2.2.1
def qru:=@jf M _ qi4 [] [a0,a1,a2,a3] (by kernel_rfl) H Q
def qyt(M:ak)(c:Ctx):=(ed M c).2.2.2.2.1
def qys:=@jf M _ Py [] [a0,a1,a2] (by kernel_rfl) H Q
def qsu(M:ak)(c:Ctx):=(ed M c).2.2.2.2.2.1
def qst:=@jf M _ sW [] [a0,a1] (by kernel_rfl) H Q
def Z9(M:ak)(c:Ctx):=(ed M c).2.2.2.2.2.2.1
def q1k:=@jf M _ qpj [] [a0,a1] (by kernel_rfl) H Q
def qov(M:ak)(c:Ctx):=(ed M c).2.2.2.2.2.2.2.1
def qou:=@jf M _ YF [] [a0,a1] (by kernel_rfl) H Q
def qp4(M:ak)(c:Ctx):=(ee M c).1
def qp3:=@jf M _ sg [] [a0,a1,a2] (by kernel_rfl) H Q
def qy5(M:ak)(c:Ctx):=(ee M c).2.1
def qy4:=@jf M _ p_ [] [a0,a1,a2,a3] (by kernel_rfl) H Q
def qwm(M:ak)(c:Ctx):=(ee M c).2.2.1
def qwl:=@jf M _ X8 [] [a0,a1] (by kernel_rfl) H Q
def qwo(M:ak)(c:Ctx):=(ee M c).2.2.2.1
def qwn:=@jf M _ Vd [] [a0] (by kernel_rfl) H Q
def _y(M:ak)(c:Ctx):=(ee M c).2.2.2.2.1
def qnx:=@jf M _ SY [] [a0,a1,a2,a3,a4] (by kernel_rfl) H Q
def r_(M:ak)(c:Ctx):=(ee M c).2.2.2.2.2.1
def qny:=@jf M _ SE [] [a0,a1,a2,a3] (by kernel_rfl) H Q
def qg0(M:ak)(c:Ctx):=(ee M c).2.2.2.2.2.2.1
def qnz:=@jf M _ TD [] [a0,a1,a2,a3,a4] (by kernel_rfl) H Q
def quv(M:ak)(c:Ctx):=(ee M c).2.2.2.2.2.2.2
def quu:=@jf M _ qk6 [] [a0,a1,a2] (by kernel_rfl) H Q
abbrev XL:Nat:=41
abbrev XO:Nat:=77
abbrev Xw:Nat:=78
abbrev N':Nat:=127
abbrev kn:Nat:=101
abbrev Z2:Nat:=95
abbrev qlv:Nat:=102
abbrev ν:Nat:=136
abbrev n_:Nat:=100
abbrev _M:Nat:=141
abbrev M9:Nat:=98
abbrev qlw:Nat:=143
abbrev f_:Nat:=134
abbrev UZ:Nat:=129
abbrev Xi:Nat:=124
abbrev υ:Nat:=94
abbrev Z':Nat:=168
abbrev Nw:Nat:=195
abbrev qmx:Nat:=144
abbrev VI:Nat:=96
abbrev ZC:Nat:=166
abbrev OK:Nat:=130
abbrev qmy:Nat:=97
abbrev ZF:Nat:=59
abbrev qmz:Nat:=99
abbrev qlx:Nat:=169
abbrev PJ:Nat:=131
abbrev WL:Nat:=91
abbrev q70:Nat:=39
abbrev _A:Nat:=56
abbrev jr:Nat:=76
abbrev Gl:Nat:=140
abbrev wN:Nat:=87
abbrev AU:Nat:=97
abbrev Zt:ue:=[(39,⟨[0,1,2,3,6,8,9,10,11],B2,[0,4,12]⟩,[]),(78,⟨[0,2,3,4,5,6,7,11],B2,[0,11,16,30,43,21,35,48,57,64,69,79]⟩,[]),(41,⟨[0,2,3],B2,[0]⟩,[(1,[0,18,2,4,6,8,10,12,14,16,20,15,22,24,26,28,30,32,34,36,38])]),(56,⟨[0,2],B2,[0,2,10]⟩,[]),(94,⟨[0,2,3,4,5,6,54],B2,[0,4,16,8,39,22,14,45,30,55,63]⟩,[(6,[0,2,4,6,8,10,12,14,16,18,20,24,22,7,13,26,28,30])]),(95,⟨[0,20],B2,[0,4,19]⟩,[]),(96,⟨[0,1,4,5,6,7,8],B2,[0]⟩,[]),(97,⟨[0,2,3],B2,[0]⟩,[]),(98,⟨[0,2,4,5,6,7,8,18],B2,[0,1,5,7,9,26,21,32,36,38,44,50]⟩,[(12,[0,2,4,6,10,12,14,16,8,17,18,20,22])]),(99,⟨[0,1,2,6,7,8],B2,[0]⟩,[]),(100,⟨[0],B2,[0]⟩,[(2,[0,2,4,6,8,10,12,14,16,7,18,20])]),(101,⟨[0,2],B2,[0,14,4,12]⟩,[]),(102,⟨[0],B2,[0]⟩,[]),(59,⟨[0,2],B2,[0]⟩,[]),(124,⟨[0,6],B2,[0,15]⟩,[]),(127,⟨[0,1,4,5],B2,[0,2,10]⟩,[]),(129,⟨[0,1],B2,[0]⟩,[]),(130,⟨[0,1,2,3,4,7,8,9,14,47,48,49],B2,[0,2,30,11,25,19]⟩,[(5,[0,2,4,6,8,10,3,12,14,16]),(6,[0,2,4,6,8,10,12,1,3,14])]),(300130,⟨[0,1,2,3,4,7,8,9,14,47,48,49],B2,[0]⟩,[(5,[0,2,4,6,8,10,3,12,14,16]),(6,[0,2,4,6,8,10,12,1,3,14])]),(200130,⟨[0,1,2,3,4,7,8,9,14,47,48,49],B2,[0]⟩,[(5,[0,2,4,6,8,10,3,12,14,16]),(6,[0,2,4,6,8,10,12,1,3,14])]),(131,⟨[0,1,2,4,6,7,12,71,72,73],B2,[0,8,13,18,30,46,26,32,37,43]⟩,[]),(300131,⟨[0,1,2,4,6,7,12,71,72,73],B2,[0]⟩,[]),(200131,⟨[0,1,2,4,6,7,12,71,72,73],B2,[0]⟩,[]),(134,⟨[0],B2,[0,11]⟩,[]),(91,⟨[0,1,2,3,4,10],B2,[0,2,8]⟩,[(2,[0,2,4,6,8,10,12,14,16,20,22,24,26,30,18,7,27,28,7,32,34,36,38,40])]),(136,⟨[0,1,2,3,8,9,10,11,12],B2,[0]⟩,[]),(141,⟨[0],B2,[0,6]⟩,[]),(143,⟨[0],B2,[0,9]⟩,[(7,[0,2,4,6,8,10,12,14,16,18,9,20])]),(144,⟨[0],B2,[0]⟩,[]),(166,⟨[0,1,2,4,6,8],B2,[0,4,6,12]⟩,[]),(168,⟨[0,1,2,3,4],B2,[0]⟩,[]),(169,⟨[0,1,2,3,6],B2,[0]⟩,[]),(77,⟨[0,1],B2,[0]⟩,[]),(195,⟨[0,1,2,4,5,9,10,11],B2,[0,4,10,19]⟩,[])]
def Zm(n:Nat):Kp:=jM n Zt
def Gx(n k:Nat):Kp×ai:=(Zm n,part (bh Tryz.prog n) k)
def hK(n k:Nat):Gx n k=(Zm n,part (bh Tryz.prog n) k):=rfl
def yo:=@lf M _ Gx Zm hK
attribute [local irreducible] Gx
def jd(M:ak)(c:Ctx):=by
 have h:=oQ hK M c Zt (by kernel_rfl)
 conv at h=>arg 5;reduce
 delta PR RL nY gG nJ gI pj iQ mI fO gN gj oH rC wA sY nS p7 rW se Zt at h
 simp only[zX,AD,Af,Ab,B0,P8]at h;exact h
def eg(M:ak)(c:Ctx):=(jd M c).2.2.2.2.2.2.2.2
def ei(M:ak)(c:Ctx):=(eg M c).2.2.2.2.2.2.2.2
def fe(M:ak)(c:Ctx):=(ei M c).2.2.2.2.2.2.2.2
def ff(M:ak)(c:Ctx):=(fe M c).2.2.2.2.2.2.2.2
def IL(M:ak)(c:Ctx):=(jd M c).1
def xib:=@yo M _ q70 [.tmp 8,.tmp 9] [a0,a1,a2,a3] (by kernel_rfl) H Q
def jv(M:ak)(c:Ctx):=(jd M c).2.1
def q36:=@yo M _ Xw [] [a0] (by kernel_rfl) H Q
def oS(M:ak)(c:Ctx):=(jd M c).2.2.1
def q_:=@yo M _ XL [.tmp 2,.tmp 3] [a0] (by kernel_rfl) H Q
def qgx(M:ak)(c:Ctx):=(jd M c).2.2.2.1
def qnw:=@yo M _ _A [.tmp 2] [a0] (by kernel_rfl) H Q
def jb(M:ak)(c:Ctx):=(jd M c).2.2.2.2.1
def qxe:=@yo M _ υ [] [a0] (by kernel_rfl) H Q
def QC(M:ak)(c:Ctx):=(jd M c).2.2.2.2.2.1
def qvi:=@yo M _ Z2 [] [a0] (by kernel_rfl) H Q
def qz6(M:ak)(c:Ctx):=(jd M c).2.2.2.2.2.2.1
def qz5:=@yo M _ VI [.tmp 4,.tmp 5] [a0,a1] (by kernel_rfl) H Q
def qxj(M:ak)(c:Ctx):=(jd M c).2.2.2.2.2.2.2.1
def qxi:=@yo M _ qmy [] [a0] (by kernel_rfl) H Q
def zi(M:ak)(c:Ctx):=(eg M c).1
def qxd:=@yo M _ M9 [] [a0] (by kernel_rfl) H Q
def qxl(M:ak)(c:Ctx):=(eg M c).2.1
def qxk:=@yo M _ qmz [.tmp 6] [a0,a1,a2] (by kernel_rfl) H Q
def qtw(M:ak)(c:Ctx):=(eg M c).2.2.1
def qtv:=@yo M _ n_ [] [a0] (by kernel_rfl) H Q
def SO(M:ak)(c:Ctx):=(eg M c).2.2.2.1
def qxc:=@yo M _ kn [] [a0] (by kernel_rfl) H Q
def qvk(M:ak)(c:Ctx):=(eg M c).2.2.2.2.1
def qvj:=@yo M _ qlv [] [a0] (by kernel_rfl) H Q
def S1(M:ak)(c:Ctx):=(eg M c).2.2.2.2.2.1
def qpm:=@yo M _ ZF [.tmp 2] [a0] (by kernel_rfl) H Q
def Sx(M:ak)(c:Ctx):=(eg M c).2.2.2.2.2.2.1
def qtx:=@yo M _ Xi [] [a0] (by kernel_rfl) H Q
def C'(M:ak)(c:Ctx):=(eg M c).2.2.2.2.2.2.2.1
def q62:=@yo M _ N' [.tmp 4,.tmp 5] [a0,a1] (by kernel_rfl) H Q
def qz2(M:ak)(c:Ctx):=(ei M c).1
def qz1:=@yo M _ UZ [] [a0,a1] (by kernel_rfl) H Q
def Un:cj:=funcAt Tryz.prog OK
def Qv:dZ:=iG Un 0
abbrev XE(k:Nat):Kp×ai:=Gx 300130 k
abbrev YR(k:Nat):Kp×ai:=Gx 200130 k
def qlf:nth Un.loops 0=B1 Qv/\Qv.params=[48,49]:=⟨by kernel_rfl,by kernel_rfl⟩
def qty:(XE 0).1.ah=[0,1,2,3,4,7,8,9,14,47,48,49]/\(XE 0).2=Qv.assign:=⟨by kernel_rfl,by kernel_rfl⟩
def qtz:(YR 0).1.ah=[0,1,2,3,4,7,8,9,14,47,48,49]/\(YR 0).2=Qv.body:=⟨by kernel_rfl,by kernel_rfl⟩
def qvo:M.func OK=B1 Un:=MK.at (by decide) (by kernel_rfl)
def Lk(M:ak)(c:Ctx):=HX (ei M c).2.1.1 (HX (ei M c).2.2.1 (HX (ei M c).2.2.2.1 (HX (ei M c).2.1.2.1 (HX (ei M c).2.1.2.2.1 (HX (ei M c).2.1.2.2.2.1 (HX (ei M c).2.1.2.2.2.2.1 ((ei M c).2.1.2.2.2.2.2)))))))
def qxh:=@yo M _ OK [] [a0,a1,a2] (by kernel_rfl) H Q
def TZ:cj:=funcAt Tryz.prog PJ
def PA:dZ:=iG TZ 0
abbrev W9(k:Nat):Kp×ai:=Gx 300131 k
abbrev Yb(k:Nat):Kp×ai:=Gx 200131 k
def qj4:nth TZ.loops 0=B1 PA/\PA.params=[72,73]:=⟨by kernel_rfl,by kernel_rfl⟩
def qsg:(W9 0).1.ah=[0,1,2,4,6,7,12,71,72,73]/\(W9 0).2=PA.assign:=⟨by kernel_rfl,by kernel_rfl⟩
def qsh:(Yb 0).1.ah=[0,1,2,4,6,7,12,71,72,73]/\(Yb 0).2=PA.body:=⟨by kernel_rfl,by kernel_rfl⟩
def qt0:M.func PJ=B1 TZ:=MK.at (by decide) (by kernel_rfl)
def vf(M:ak)(c:Ctx):=HX (ei M c).2.2.2.2.1.1 (HX (ei M c).2.2.2.2.2.1 (HX (ei M c).2.2.2.2.2.2.1 (HX (ei M c).2.2.2.2.1.2.1 (HX (ei M c).2.2.2.2.1.2.2.1 (HX (ei M c).2.2.2.2.1.2.2.2.1 (HX (ei M c).2.2.2.2.1.2.2.2.2.1 (HX (ei M c).2.2.2.2.1.2.2.2.2.2.1 (HX (ei M c).2.2.2.2.1.2.2.2.2.2.2.1 (HX (ei M c).2.2.2.2.1.2.2.2.2.2.2.2.1 (HX (ei M c).2.2.2.2.1.2.2.2.2.2.2.2.2.1 ((ei M c).2.2.2.2.1.2.2.2.2.2.2.2.2.2)))))))))))
def qvr:=@yo M _ PJ [] [a0,a1,a2] (by kernel_rfl) H Q
def Qw(M:ak)(c:Ctx):=(ei M c).2.2.2.2.2.2.2.1
def qz0:=@yo M _ f_ [] [a0] (by kernel_rfl) H Q
def Wi(M:ak)(c:Ctx):=(fe M c).1
def qz7:=@yo M _ WL [] [a0,a1,a2,a3,a4] (by kernel_rfl) H Q
def q38(M:ak)(c:Ctx):=(fe M c).2.1
def q37:=@yo M _ ν [.tmp 8,.tmp 9] [a0,a1,a2,a3] (by kernel_rfl) H Q
def Zq(M:ak)(c:Ctx):=(fe M c).2.2.1
def qqy:=@yo M _ _M [] [a0] (by kernel_rfl) H Q
def RX(M:ak)(c:Ctx):=(fe M c).2.2.2.1
def qvl:=@yo M _ qlw [] [a0] (by kernel_rfl) H Q
def qxg(M:ak)(c:Ctx):=(fe M c).2.2.2.2.1
def qxf:=@yo M _ qmx [] [a0] (by kernel_rfl) H Q
def ql7(M:ak)(c:Ctx):=(fe M c).2.2.2.2.2.1
def qvn:=@yo M _ ZC [] [a0,a1,a2] (by kernel_rfl) H Q
def qz4(M:ak)(c:Ctx):=(fe M c).2.2.2.2.2.2.1
def qz3:=@yo M _ Z' [.tmp 4] [a0,a1] (by kernel_rfl) H Q
def qvq(M:ak)(c:Ctx):=(fe M c).2.2.2.2.2.2.2.1
def qvp:=@yo M _ qlx [] [a0,a1,a2,a3] (by kernel_rfl) H Q
def qxb(M:ak)(c:Ctx):=(ff M c).1
def qxa:=@yo M _ XO [] [a0,a1] (by kernel_rfl) H Q
def RK(M:ak)(c:Ctx):=(ff M c).2
def qvm:=@yo M _ Nw [] [a0,a1,a2] (by kernel_rfl) H Q
abbrev L9:Nat:=62
abbrev kz:Nat:=75
abbrev ZR:ue:=[(100062,⟨[0,1,2,4,5,6,30],B2,[0,2,29,16]⟩,[(9,[0,2,4,6,8,10,3,12,14,16])]),(9900062,⟨[0,1,2,4,5,6,30],B2,[0,2,16,8,14]⟩,[(9,[0,2,4,6,8,10,3,12,14,16])]),(75,⟨[0],B2,[0]⟩,[])]
def xbg(n:Nat):Kp:=jM n ZR
def Ok(n k:Nat):Kp×ai:=(xbg n,part (bh Tryz.prog n) k)
def Ys(n k:Nat):Ok n k=(xbg n,part (bh Tryz.prog n) k):=rfl
attribute [local irreducible] Ok
def FY(M:ak)(c:Ctx):=by
 have h:=oQ Ys M c ZR (by kernel_rfl)
 conv at h=>arg 5;reduce
 delta PR RL nY gG nJ gI pj iQ mI fO gN gj oH wA nS rW se ZR at h
 simp only[zX,AD,Af,Ab,B0,P8]at h;exact h
def qzw:cj:=funcAt Tryz.prog L9
abbrev qzy(k:Nat):Kp×ai:=Ok 100062 k
abbrev qzz(k:Nat):Kp×ai:=Ok 9900062 k
def y8(M:ak)(c:Ctx):=HX (FY M c).1.1 (HX (FY M c).2.1.1 (HX (FY M c).1.2.1 (HX (FY M c).2.1.2.1 (HX (FY M c).1.2.2.1 (HX (FY M c).1.2.2.2 (HX (FY M c).2.1.2.2.1 (HX (FY M c).2.1.2.2.2.1 ((FY M c).2.1.2.2.2.2))))))))
def qzx(h:W M ⟨B5,L9⟩ (qzy 0) B4 (Fe M ⟨B5,L9⟩ (qzz 0) 30 (eS M [.tmp 4,.tmp 5] Q)) (kP 0 [a0,a1]) [] H):FK M L9 [a0,a1] H Q:=OG Ys (MK.at (by decide) (by kernel_rfl:(bq Tryz.prog).func L9=B1 qzw)) (by kernel_rfl) (by kernel_rfl) (by kernel_rfl) (by kernel_rfl) (by kernel_rfl) (by kernel_rfl) h
def qvg{up:Option aI}(h:W M ⟨B5,kz⟩ (Ok kz 0) B4 (eS M [] Q) (kP 0 [a0]) [] H):∃e H',jX M kz [a0] up H e up H'/\Q e H':=HP Ys (MK.at (by decide) (by kernel_rfl:(bq Tryz.prog).func kz=B1 (funcAt Tryz.prog kz))) (by kernel_rfl) (by kernel_rfl) (by kernel_rfl) h
def qvh(M:ak)(c:Ctx):=(FY M c).2.2
abbrev yu:Nat:=43
abbrev _S:Nat:=61
abbrev Km:Nat:=73
abbrev ZK:Nat:=60
abbrev Re:Nat:=38
abbrev qza:Nat:=54
abbrev NY:Nat:=69
abbrev ZO:Nat:=74
abbrev t5:Nat:=44
abbrev Y0:Nat:=25
abbrev Ξ:Nat:=27
abbrev SH:Nat:=21
abbrev WH:Nat:=26
abbrev qp:Nat:=28
abbrev Uf:Nat:=40
abbrev qnd:Nat:=42
abbrev Q3:Nat:=48
abbrev QD:Nat:=49
abbrev PV:Nat:=50
abbrev O2:Nat:=47
abbrev _K:Nat:=34
abbrev sL:Nat:=56
abbrev vC:Nat:=95
abbrev vp:Nat:=46
abbrev tX:Nat:=65
abbrev FT:Nat:=90
abbrev Ve:ue:=[(38,⟨[0,2,3,4,5,7,8],B2,[0,4,9]⟩,[]),(300038,⟨[0,2,3,4,5,7,8],B2,[0]⟩,[]),(200038,⟨[0,2,3,4,5,7,8],B2,[0,7]⟩,[]),(25,⟨[0,1,2,3,4,6,8,9,10,11,12,13,14,15,16,48,49],B2,[0,4,12,14,49,19,25,48,31,37,39,47]⟩,[]),(21,⟨[0,1,3,4,5,6,14],B2,[0,2,10,12,20]⟩,[(4,[2,4,0,5,6,8])]),(28,⟨[0,2],B2,[0,2,10]⟩,[]),(26,⟨[0,1,4,5],B2,[0]⟩,[]),(27,⟨[0,1,4,5],B2,[0]⟩,[]),(54,⟨[0,1,2],B2,[0]⟩,[]),(34,⟨[0],B2,[0]⟩,[]),(44,⟨[0,2],B2,[0,2,10]⟩,[]),(40,⟨[0,1,4],B2,[0,2,10]⟩,[]),(42,⟨[0,2],B2,[0,2,10]⟩,[]),(43,⟨[0,1,4,5,6,7,8,11,12,44,45,46,69,70],B2,[0,2,3,18,22,24,47,29,49,35,54,46]⟩,[]),(300043,⟨[0,1,4,5,6,7,8,11,12,44,45,46,69,70],B2,[0]⟩,[]),(200043,⟨[0,1,4,5,6,7,8,11,12,44,45,46,69,70],B2,[0,7]⟩,[]),(69,⟨[0,1],B2,[0,2,8]⟩,[]),(47,⟨[0,1,3,4,5,6,7,8,10,14,30,31,32],B2,[0,4,12,16,41,21,27,40,33]⟩,[(12,[0,2,4,6,8,10,7,12,14])]),(48,⟨[0,1,3,4,5,6,14],B2,[0]⟩,[]),(49,⟨[0,1,3,4,14],B2,[0]⟩,[]),(50,⟨[0,1,3,4,14],B2,[0]⟩,[]),(60,⟨[0,1,4,5,8],B2,[0,2,10]⟩,[]),(61,⟨[0,1,2,3,4],B2,[0]⟩,[]),(73,⟨[0,1,2,5,6,7,11,12,13],B2,[0,4,10,21,16]⟩,[]),(74,⟨[0,1,4,5,21],B2,[0,2,10]⟩,[])]
def Zj(n:Nat):Kp:=jM n Ve
def IQ(n k:Nat):Kp×ai:=(Zj n,part (bh Tryz.prog n) k)
def q26(n k:Nat):IQ n k=(Zj n,part (bh Tryz.prog n) k):=rfl
def sy:=@lf M _ IQ Zj q26
attribute [local irreducible] IQ
def jx(M:ak)(c:Ctx):=by
 have h:=oQ q26 M c Ve (by kernel_rfl)
 conv at h=>arg 5;reduce
 delta PR RL nY gG nJ gI pj iQ mI fO gN gj oH rC sY nS p7 rW se Ve at h
 simp only[zX,AD,Af,Ab,B0,P8]at h;exact h
def fu(M:ak)(c:Ctx):=(jx M c).2.2.2.2.2.2.2.2
def fB(M:ak)(c:Ctx):=(fu M c).2.2.2.2.2.2.2.2
def fS(M:ak)(c:Ctx):=(fB M c).2.2.2.2.2.2.2.2
def Tt:cj:=funcAt Tryz.prog Re
def QW:dZ:=iG Tt 0
abbrev X7(k:Nat):Kp×ai:=IQ 300038 k
abbrev Zc(k:Nat):Kp×ai:=IQ 200038 k
def qtj:nth Tt.loops 0=B1 QW/\QW.params=[8]:=⟨by kernel_rfl,by kernel_rfl⟩
def q66:(X7 0).1.ah=[0,2,3,4,5,7,8]/\(X7 0).2=QW.assign:=⟨by kernel_rfl,by kernel_rfl⟩
def q67:(Zc 0).1.ah=[0,2,3,4,5,7,8]/\(Zc 0).2=QW.body:=⟨by kernel_rfl,by kernel_rfl⟩
def q9z:M.func Re=B1 Tt:=MK.at (by decide) (by kernel_rfl)
def SK(M:ak)(c:Ctx):=HX (jx M c).1.1 (HX (jx M c).2.1 (HX (jx M c).2.2.1.1 (HX (jx M c).1.2.1 (HX (jx M c).2.2.1.2 ((jx M c).1.2.2)))))
def xcg:=@sy M _ Re [.tmp 2] [a0] (by kernel_rfl) H Q
def Ar(M:ak)(c:Ctx):=(jx M c).2.2.2.1
def xf8:=@sy M _ Y0 [.tmp 8,.tmp 9] [a0,a1,a2,a3] (by kernel_rfl) H Q
def Wz(M:ak)(c:Ctx):=(jx M c).2.2.2.2.1
def q1v:=@sy M _ SH [.de 14 4] [a0,a1] (by kernel_rfl) H Q
def qrx(M:ak)(c:Ctx):=(jx M c).2.2.2.2.2.1
def qrw:=@sy M _ qp [.tmp 2] [a0] (by kernel_rfl) H Q
def j_(M:ak)(c:Ctx):=(jx M c).2.2.2.2.2.2.1
def _c:=@sy M _ WH [.tmp 4,.tmp 5] [a0,a1] (by kernel_rfl) H Q
def qp6(M:ak)(c:Ctx):=(jx M c).2.2.2.2.2.2.2.1
def qp5:=@sy M _ Ξ [.tmp 4,.tmp 5] [a0,a1] (by kernel_rfl) H Q
def xci(M:ak)(c:Ctx):=(fu M c).1
def xch:=@sy M _ qza [.tmp 2] [a0] (by kernel_rfl) H Q
def xd4(M:ak)(c:Ctx):=(fu M c).2.1
def xd3:=@sy M _ _K [.tmp 0] [] (by kernel_rfl) H Q
def Γ(M:ak)(c:Ctx):=(fu M c).2.2.1
def qnv:=@sy M _ t5 [.tmp 2] [a0] (by kernel_rfl) H Q
def UD(M:ak)(c:Ctx):=(fu M c).2.2.2.1
def qpu:=@sy M _ Uf [.tmp 4] [a0,a1] (by kernel_rfl) H Q
def qy9(M:ak)(c:Ctx):=(fu M c).2.2.2.2.1
def qy8:=@sy M _ qnd [.tmp 2] [a0] (by kernel_rfl) H Q
def SP:cj:=funcAt Tryz.prog yu
def PG:dZ:=iG SP 0
abbrev ZD(k:Nat):Kp×ai:=IQ 300043 k
abbrev WS(k:Nat):Kp×ai:=IQ 200043 k
def _O:nth SP.loops 0=B1 PG/\PG.params=[70]:=⟨by kernel_rfl,by kernel_rfl⟩
def qse:(ZD 0).1.ah=[0,1,4,5,6,7,8,11,12,44,45,46,69,70]/\(ZD 0).2=PG.assign:=⟨by kernel_rfl,by kernel_rfl⟩
def qsf:(WS 0).1.ah=[0,1,4,5,6,7,8,11,12,44,45,46,69,70]/\(WS 0).2=PG.body:=⟨by kernel_rfl,by kernel_rfl⟩
def qtu:M.func yu=B1 SP:=MK.at (by decide) (by kernel_rfl)
def Xd(M:ak)(c:Ctx):=HX (fu M c).2.2.2.2.2.1.1 (HX (fu M c).2.2.2.2.2.2.1 (HX (fu M c).2.2.2.2.2.2.2.1.1 (HX (fu M c).2.2.2.2.2.1.2.1 (HX (fu M c).2.2.2.2.2.2.2.1.2 (HX (fu M c).2.2.2.2.2.1.2.2.1 (HX (fu M c).2.2.2.2.2.1.2.2.2.1 (HX (fu M c).2.2.2.2.2.1.2.2.2.2.1 (HX (fu M c).2.2.2.2.2.1.2.2.2.2.2.1 (HX (fu M c).2.2.2.2.2.1.2.2.2.2.2.2.1 (HX (fu M c).2.2.2.2.2.1.2.2.2.2.2.2.2.1 (HX (fu M c).2.2.2.2.2.1.2.2.2.2.2.2.2.2.1 (HX (fu M c).2.2.2.2.2.1.2.2.2.2.2.2.2.2.2.1 (HX (fu M c).2.2.2.2.2.1.2.2.2.2.2.2.2.2.2.2.1 ((fu M c).2.2.2.2.2.1.2.2.2.2.2.2.2.2.2.2.2))))))))))))))
def ql4:=@sy M _ yu [.tmp 4,.tmp 5] [a0,a1] (by kernel_rfl) H Q
def Ti(M:ak)(c:Ctx):=(fB M c).1
def q68:=@sy M _ NY [] [a0,a1] (by kernel_rfl) H Q
def Ll(M:ak)(c:Ctx):=(fB M c).2.1
def qw0:=@sy M _ O2 [.de 14 4] [a0,a1] (by kernel_rfl) H Q
def qrz(M:ak)(c:Ctx):=(fB M c).2.2.1
def qry:=@sy M _ Q3 [.de 14 4] [a0,a1] (by kernel_rfl) H Q
def qu1(M:ak)(c:Ctx):=(fB M c).2.2.2.1
def qu0:=@sy M _ QD [.de 14 4] [a0,a1] (by kernel_rfl) H Q
def qu3(M:ak)(c:Ctx):=(fB M c).2.2.2.2.1
def qu2:=@sy M _ PV [.de 14 4] [a0,a1] (by kernel_rfl) H Q
def qz9(M:ak)(c:Ctx):=(fB M c).2.2.2.2.2.1
def qz8:=@sy M _ ZK [.de 8 4,.tmp 5] [a0,a1] (by kernel_rfl) H Q
def q6z(M:ak)(c:Ctx):=(fB M c).2.2.2.2.2.2.1
def q6y:=@sy M _ _S [.tmp 4] [a0,a1] (by kernel_rfl) H Q
def qzv(M:ak)(c:Ctx):=(fB M c).2.2.2.2.2.2.2.1
def qzu:=@sy M _ Km [] [a0,a1,a2] (by kernel_rfl) H Q
def q0q(M:ak)(c:Ctx):=(fS M c)
def q0p:=@sy M _ ZO [.de 21 4,.tmp 5] [a0,a1] (by kernel_rfl) H Q
abbrev qu6:Nat:=8
abbrev LM:Nat:=3
abbrev _W:Nat:=15
abbrev UH:Nat:=14
abbrev kx:Nat:=9
abbrev qzc:Nat:=13
abbrev oy:Nat:=16
abbrev Z8:Nat:=11
abbrev ZX:Nat:=10
abbrev qqk:Nat:=12
abbrev B':Nat:=35
abbrev ZG:Nat:=22
abbrev P_:Nat:=20
abbrev y0:Nat:=23
abbrev qpd:Nat:=24
abbrev ι:Nat:=29
abbrev um:Nat:=36
abbrev Q1:Nat:=30
abbrev vY:Nat:=33
abbrev Ln:Nat:=4
abbrev yv:Nat:=29
abbrev Yf:ue:=[(3,⟨[0,1,2,3,5,6,7,8,9,10,11,12,13,14,15,16,17,18,19,20,21,184,185],B2,[0,2,10,14,18,26,28,36,38,59,43,61,49,69,58,77,85,112,90,96,111,102]⟩,[]),(8,⟨[0,1,2,3,4],B2,[0,4,19,9,27,15,18]⟩,[]),(9,⟨[0,2,3],B2,[0]⟩,[]),(10,⟨[0,1,2,3,5,6,7,8,9,11,22,23,24],B2,[0,4,12,29,17,23,28]⟩,[]),(11,⟨[0,1,2,3,5,6,7,8,9,10,23,24],B2,[0,4,12,41,17,23,40,27,35]⟩,[]),(12,⟨[0,1,2,3,5,6,7,8,9,10,11,21,22],B2,[0,2,12,14,33,19,25,32]⟩,[(8,[0,2,4,8,6,1,9,10,12,14,16,18,20])]),(13,⟨[0,1,4,5],B2,[0,2,10,31,15,21,30]⟩,[]),(14,⟨[0,1,2,3,5,6,8],B2,[0,4,12]⟩,[]),(15,⟨[0,1,2,3,5,6,7,9,10,11,12,13,14,15,16,30,31,49,72,73],B2,[0,4,21,9,23,15,73,38,66,20,42,63,47,53,62]⟩,[]),(16,⟨[0,1,4,5],B2,[0]⟩,[]),(20,⟨[0,1,2,3,5,6,7,8,9],B2,[0,4,12,20]⟩,[]),(22,⟨[0,1,3,4,5,6,7,8,17],B2,[0,4,29,22]⟩,[(7,[0,2,4,6,8,12,14,10,15,16,18])]),(23,⟨[0,1,2,3,5,6,7,8],B2,[0,4,12]⟩,[]),(24,⟨[0,1,4],B2,[0]⟩,[]),(35,⟨[0,1,2,6,7,9,11,12,13],B2,[0,4,25,9,15,24]⟩,[]),(29,⟨[0,2],B2,[0,2,10]⟩,[]),(36,⟨[0,1,2,6,7],B2,[0,4,12]⟩,[])]
def Wq(n:Nat):Kp:=jM n Yf
def Rl(n k:Nat):Kp×ai:=(Wq n,part (bh Tryz.prog n) k)
def q2y(n k:Nat):Rl n k=(Wq n,part (bh Tryz.prog n) k):=rfl
def uE:=@lf M _ Rl Wq q2y
attribute [local irreducible] Rl
def uk(M:ak)(c:Ctx):=by
 have h:=oQ q2y M c Yf (by kernel_rfl)
 conv at h=>arg 5;reduce
 delta PR RL nY gG nJ gI pj iQ mI fO gN gj oH rC nS rW se Yf at h
 simp only[zX,AD,Af,Ab,B0,P8]at h;exact h
def gS(M:ak)(c:Ctx):=(uk M c).2.2.2.2.2.2.2.2
def gX(M:ak)(c:Ctx):=(gS M c).2.2.2.2.2.2.2.2
def zg(M:ak)(c:Ctx):=(uk M c).1
def qub:=@uE M _ LM [.tmp 6] [a0,a1,a2] (by kernel_rfl) H Q
def LF(M:ak)(c:Ctx):=(uk M c).2.1
def q97:=@uE M _ qu6 [.tmp 2] [a0] (by kernel_rfl) H Q
def Wv(M:ak)(c:Ctx):=(uk M c).2.2.1
def xcn:=@uE M _ kx [.tmp 2] [a0] (by kernel_rfl) H Q
def Le(M:ak)(c:Ctx):=(uk M c).2.2.2.1
def q7w:=@uE M _ ZX [.tmp 6,.tmp 7] [a0,a1,a2] (by kernel_rfl) H Q
def Hu(M:ak)(c:Ctx):=(uk M c).2.2.2.2.1
def q7v:=@uE M _ Z8 [.tmp 6,.tmp 7] [a0,a1,a2] (by kernel_rfl) H Q
def I1(M:ak)(c:Ctx):=(uk M c).2.2.2.2.2.1
def q6c:=@uE M _ qqk [.tmp 6,.tmp 7] [a0,a1,a2] (by kernel_rfl) H Q
def W4(M:ak)(c:Ctx):=(uk M c).2.2.2.2.2.2.1
def xdi:=@uE M _ qzc [.tmp 4] [a0,a1] (by kernel_rfl) H Q
def Nm(M:ak)(c:Ctx):=(uk M c).2.2.2.2.2.2.2.1
def xfd:=@uE M _ UH [.tmp 6] [a0,a1,a2] (by kernel_rfl) H Q
def ym(M:ak)(c:Ctx):=(gS M c).1
def q7g:=@uE M _ _W [.tmp 6] [a0,a1,a2] (by kernel_rfl) H Q
def Wg(M:ak)(c:Ctx):=(gS M c).2.1
def q54:=@uE M _ oy [.tmp 4] [a0,a1] (by kernel_rfl) H Q
def Ng(M:ak)(c:Ctx):=(gS M c).2.2.1
def xa3:=@uE M _ P_ [.tmp 6,.tmp 7] [a0,a1,a2] (by kernel_rfl) H Q
def JA(M:ak)(c:Ctx):=(gS M c).2.2.2.1
def xdt:=@uE M _ ZG [.tmp 4] [a0,a1] (by kernel_rfl) H Q
def R6(M:ak)(c:Ctx):=(gS M c).2.2.2.2.1
def q6e:=@uE M _ y0 [.tmp 6] [a0,a1,a2] (by kernel_rfl) H Q
def q1c(M:ak)(c:Ctx):=(gS M c).2.2.2.2.2.1
def q1b:=@uE M _ qpd [.tmp 4] [a0,a1] (by kernel_rfl) H Q
def Rh(M:ak)(c:Ctx):=(gS M c).2.2.2.2.2.2.1
def q6d:=@uE M _ B' [.tmp 6] [a0,a1,a2] (by kernel_rfl) H Q
def E3(M:ak)(c:Ctx):=(gS M c).2.2.2.2.2.2.2.1
def qp0:=@uE M _ ι [.tmp 2] [a0] (by kernel_rfl) H Q
def qor(M:ak)(c:Ctx):=(gX M c)
def qoq:=@uE M _ um [.tmp 6] [a0,a1,a2] (by kernel_rfl) H Q
end
end Go.Am
