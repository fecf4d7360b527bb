import Derived.Test.YtlepagkkolnmoaaGreatDoorAmVZd
import Derived.Test.YtlepagkkolnmoaaGreatDoorAmVZa
import Derived.KernelRfl
import Derived.Test.YtlepagkkolnmoaaGreatDoorRows
set_option linter.unusedVariables false
set_option linter.unusedSimpArgs false
set_option linter.defProp false
set_option maxRecDepth 100000
set_option maxHeartbeats 1000000
open And renaming intro→Hu
open Bool renaming rec→Ox,false→B2,true→B4
open Go renaming Oper→Pv,Operand→N0,Program→Jy,TypeId→LP
open Int renaming reduceNegSucc→Qw,reduceOfNat→A7
open List renaming range→N7,rec→A8
open Nat renaming beq→J8,ble→OZ
open Option renaming rec→R3,none→B5,some→B1
namespace Go.Am
noncomputable section
def PR:Type:=Prop
abbrev WR:=Bool->aJ->Env->List aQ->ar->PR
abbrev KQ:=Bool->Env->Env->ar->PR
def Hj(m:Bool)(o:Option (bF×(Nat->AV)))(H:ar)(K:Bool->AV->ar->Prop):Prop:=jN m o λ g o mk=>K g (mk H.au) (H.alloc o)
def nR{α:Type}:Bool->Option α->(Bool -> α->PR)->PR:=@B3 α
def gJ{α β:Type}:Bool->Option (α×β)->(Bool -> α -> β->PR)->PR:=@jN α β
def fM:Bool->AV->(Bool->PR)->(Bool->PR)->PR:=nC
def gM:Bool->Bool->(Bool->PR)->(Bool->PR)->PR:=xI
def jC:Bool->Option AV->Option AV->(Bool->PR)->PR:=Oh
def gO:Bool->Option (bF×(Nat->AV))->ar->(Bool->AV->ar->PR)->PR:=Hj
def oP:ao->Bool->mC->List AV->ar->(Bool->AV->ar->PR)->PR:=C3
def yU:ao->Bool->(aH->ar->PR)->mC->List AV->ar->(Bool->AV->ar->PR)->PR:=P3
def qH:Bool->List AV->(Bool->mC->List AV->PR)->PR:=V3
def vM:ao->Bool->String->List AV->(Bool->mC->List AV->PR)->PR:=N3
def xJ:Option (List Nat)->List Nat->aJ->Env->List aQ->aH->ar->PR:=PX
def zC:List AV->ar->(aH->ar->PR)->PR:=gE
def gh{α:Type}:(α->PR) -> α->PR:=@JN α
def mQ:Bool->aJ->aZ->Env->List aQ->ar->PR:=qM
def oI{α:Type}:Bool->Option α->(Bool -> α->PR)->PR:=@LK α
def rW:ao->Ctx->Kp×aj->WR:=W
def ry:WR->aJ->Env->List aQ->ar->PR:=dm
def sr:ao->List Nat->Ctx->Nat->Env->List aQ->ar->aJ->AV->PR:=iA
def nZ:WR->aJ->aJ:=fj
def sn:PR:=False
def nI:Env->Nat->Option AV:=lk
section
variable(M:ao)
def XE(E L R:Env)(t:Nat)(g:Bool)(K:Bool->Env->AV->PR):PR :=
 R3 (motive:=λ _=>PR) (R3 (motive:=λ _=>PR) (oI g (nI E t) λ g v=>K g ((t,v)::R) v) (λ v=>K g R v) (lk R t)) (λ v=>K g R v) (lk L t)
def tEV(E L:Env)(l:List bL):Bool->Env->(Bool->Env->List AV->PR)->PR:=A8 (motive:=λ _=>Bool->Env->(Bool->Env->List AV->PR)->PR) (λ g R K=>K g R [])
 (λ x _ ih g R K=>bL.casesOn x (λ t=>XE E L R t g λ g R v=>ih g R λ g R vs=>K g R (v::vs)) (λ v=>ih g R λ g R vs=>K g R (v::vs)) (λ b=>ih g R λ g R vs=>K g R (.ptr b 0::vs)) (λ f=>ih g R λ g R vs=>K g R (.fn (.func f) [] []::vs))) l
def Yj(cX:Bool)(ps:Option (List Nat))(L:Env)(Q:aJ)(E:Env)(D:List aQ)(g:Bool)(f:mC)(vs:List AV)(H:ar)(K:Bool->AV->ar->PR):PR :=
 cond cX (yU M g (xJ ps (lM L) Q E D) f vs H K) (oP M g f vs H K)
def tOP(cX:Bool)(dst:Option Nat)(ps:Option (List Nat))(Q:aJ)(E:Env)(D:List aQ)(L R:Env)(H:ar)(K:KQ)(g:Bool)(vs:List AV):fL->PR
 | .pure f=>nR g (f vs) λ g v=>K g (lO dst v L) R H
 | .read f=>nR g (f vs H) λ g v=>K g (lO dst v L) R H
 | .alloc f=>gO g (f vs) H λ g v H=>K g (lO dst v L) R H
 | .gY f=>gJ g (f vs H) λ g v H=>K g (lO dst v L) R H
 | .ir f=>Yj M cX ps L Q E D g (.func f) vs H (λ g v H=>K g (lO dst v L) R H)
 | .im=>qH g vs λ g f vs=>Yj M cX ps L Q E D g f vs H (λ g v H=>K g (lO dst v L) R H)
 | .invoke name=>vM M g name vs λ g f vs=>Yj M cX ps L Q E D g f vs H (λ g v H=>K g (lO dst v L) R H)
 | .panic=>cond cX (zC vs H (xJ ps (lM L) Q E D)) sn
 |_=>sn
def tCK(dst:Option Nat)(E L R:Env)(H:ar)(K:KQ)(g:Bool)(vs:List AV):fL->PR
 | .read f=>match dst with
  |some d=>jC g (f vs H) (R3 (motive:=λ _=>Option AV) (nI E d) (λ v=>B1 v) (lk L d)) λ g=>K g L R H
  |none=>sn
 |_=>sn
def tST(cX:Bool)(s:aR)(Q:aJ)(E:Env)(D:List aQ)(K:KQ):KQ:=λ g L R H =>
 tEV E L s.args g R λ g R vs=>match s.iq with
  |false=>tOP M cX s.dst s.cF Q E D L R H K g vs s.op
  |true=>tCK s.dst E L R H K g vs s.op
def tSS(cX:Bool)(Q:aJ)(E:Env)(D:List aQ)(K:KQ)(l:List aR):KQ:=A8 (motive:=λ _=>KQ) K (λ s _ ih=>tST M cX s Q E D ih) l
def sj(n:Nat):Type:=Nat.rec (motive:=λ _=>Type) (ar->PR) (λ _ T=>AV->T) n
def YC:(n:Nat)->((Bool->sj n)->PR)->(Bool->sj n)->PR
 |0=>λ F K=>gh (α:=Bool->ar->PR) (λ k=>F k) K
 |1=>λ F K=>gh (α:=Bool->AV->ar->PR) (λ k=>F k) K
 |2=>λ F K=>gh (α:=Bool->AV->AV->ar->PR) (λ k=>F k) K
 |3=>λ F K=>gh (α:=Bool->AV->AV->AV->ar->PR) (λ k=>F k) K
 |4=>λ F K=>gh (α:=Bool->AV->AV->AV->AV->ar->PR) (λ k=>F k) K
 |5=>λ F K=>gh (α:=Bool->AV->AV->AV->AV->AV->ar->PR) (λ k=>F k) K
 |6=>λ F K=>gh (α:=Bool->AV->AV->AV->AV->AV->AV->ar->PR) (λ k=>F k) K
 |7=>λ F K=>gh (α:=Bool->AV->AV->AV->AV->AV->AV->AV->ar->PR) (λ k=>F k) K
 |8=>λ F K=>gh (α:=Bool->AV->AV->AV->AV->AV->AV->AV->AV->ar->PR) (λ k=>F k) K
 |9=>λ F K=>gh (α:=Bool->AV->AV->AV->AV->AV->AV->AV->AV->AV->ar->PR) (λ k=>F k) K
 |10=>λ F K=>gh (α:=Bool->AV->AV->AV->AV->AV->AV->AV->AV->AV->AV->ar->PR) (λ k=>F k) K
 |11=>λ F K=>gh (α:=Bool->AV->AV->AV->AV->AV->AV->AV->AV->AV->AV->AV->ar->PR) (λ k=>F k) K
 |12=>λ F K=>gh (α:=Bool->AV->AV->AV->AV->AV->AV->AV->AV->AV->AV->AV->AV->ar->PR) (λ k=>F k) K
 |13=>λ F K=>gh (α:=Bool->AV->AV->AV->AV->AV->AV->AV->AV->AV->AV->AV->AV->AV->ar->PR) (λ k=>F k) K
 |14=>λ F K=>gh (α:=Bool->AV->AV->AV->AV->AV->AV->AV->AV->AV->AV->AV->AV->AV->AV->ar->PR) (λ k=>F k) K
 |15=>λ F K=>gh (α:=Bool->AV->AV->AV->AV->AV->AV->AV->AV->AV->AV->AV->AV->AV->AV->AV->ar->PR) (λ k=>F k) K
 |16=>λ F K=>gh (α:=Bool->AV->AV->AV->AV->AV->AV->AV->AV->AV->AV->AV->AV->AV->AV->AV->AV->ar->PR) (λ k=>F k) K
 |17=>λ F K=>gh (α:=Bool->AV->AV->AV->AV->AV->AV->AV->AV->AV->AV->AV->AV->AV->AV->AV->AV->AV->ar->PR) (λ k=>F k) K
 |18=>λ F K=>gh (α:=Bool->AV->AV->AV->AV->AV->AV->AV->AV->AV->AV->AV->AV->AV->AV->AV->AV->AV->AV->ar->PR) (λ k=>F k) K
 |19=>λ F K=>gh (α:=Bool->AV->AV->AV->AV->AV->AV->AV->AV->AV->AV->AV->AV->AV->AV->AV->AV->AV->AV->AV->ar->PR) (λ k=>F k) K
 |20=>λ F K=>gh (α:=Bool->AV->AV->AV->AV->AV->AV->AV->AV->AV->AV->AV->AV->AV->AV->AV->AV->AV->AV->AV->AV->ar->PR) (λ k=>F k) K
 |21=>λ F K=>gh (α:=Bool->AV->AV->AV->AV->AV->AV->AV->AV->AV->AV->AV->AV->AV->AV->AV->AV->AV->AV->AV->AV->AV->ar->PR) (λ k=>F k) K
 |22=>λ F K=>gh (α:=Bool->AV->AV->AV->AV->AV->AV->AV->AV->AV->AV->AV->AV->AV->AV->AV->AV->AV->AV->AV->AV->AV->AV->ar->PR) (λ k=>F k) K
 |23=>λ F K=>gh (α:=Bool->AV->AV->AV->AV->AV->AV->AV->AV->AV->AV->AV->AV->AV->AV->AV->AV->AV->AV->AV->AV->AV->AV->AV->ar->PR) (λ k=>F k) K
 |24=>λ F K=>gh (α:=Bool->AV->AV->AV->AV->AV->AV->AV->AV->AV->AV->AV->AV->AV->AV->AV->AV->AV->AV->AV->AV->AV->AV->AV->AV->ar->PR) (λ k=>F k) K
 |25=>λ F K=>gh (α:=Bool->AV->AV->AV->AV->AV->AV->AV->AV->AV->AV->AV->AV->AV->AV->AV->AV->AV->AV->AV->AV->AV->AV->AV->AV->AV->ar->PR) (λ k=>F k) K
 |26=>λ F K=>gh (α:=Bool->AV->AV->AV->AV->AV->AV->AV->AV->AV->AV->AV->AV->AV->AV->AV->AV->AV->AV->AV->AV->AV->AV->AV->AV->AV->AV->ar->PR) (λ k=>F k) K
 |27=>λ F K=>gh (α:=Bool->AV->AV->AV->AV->AV->AV->AV->AV->AV->AV->AV->AV->AV->AV->AV->AV->AV->AV->AV->AV->AV->AV->AV->AV->AV->AV->AV->ar->PR) (λ k=>F k) K
 |28=>λ F K=>gh (α:=Bool->AV->AV->AV->AV->AV->AV->AV->AV->AV->AV->AV->AV->AV->AV->AV->AV->AV->AV->AV->AV->AV->AV->AV->AV->AV->AV->AV->AV->ar->PR) (λ k=>F k) K
 |_+29=>λ F K=>gh F K
def Mr:∀(n:Nat)(F:(Bool->sj n)->PR)(K:Bool->sj n),YC n F K=gh F K:=λ n=>by
 unfold YC;split<;>exact λ F K=>rfl
def Yr(n:Nat):(List AV->ar->PR)->sj n:=Nat.rec (motive:=λ n=>(List AV->ar->PR)->sj n) (λ f=>f []) (λ _ ih f v=>ih λ l=>f (v::l)) n
def Rx(n:Nat):sj n->List AV->ar->PR:=Nat.rec (motive:=λ n=>sj n->List AV->ar->PR) (λ k _=>k) (λ _ ih k l=>List.casesOn (motive:=λ _=>ar->PR) l (λ _=>sn) λ v l=>ih (k v) l) n
def Z5(cX:Bool)(Q:aJ)(E:Env)(D:List aQ)(x:Ge)(K:KQ):KQ:=λ g L R H=>match x.1 with
 |none=>tSS M cX Q E D K x.2 g L R H
 |some q=>cond (vQ q.1 x.2) (XE E L R q.1 g λ g R v=>YC (cW (bA x.2 []))
  (λ k=>nR g (cQ q.2 (B1 v)) λ g w=>gM g w (λ g=>tSS M cX Q E D (λ g L _ H=>Rx (cW (bA x.2 [])) (k g) (rL (cW (bA x.2 [])) L) H) x.2 g L R H) (λ g=>Rx (cW (bA x.2 [])) (k g) (rV (cW (bA x.2 []))) H))
  (λ g=>Yr (cW (bA x.2 [])) λ vs H=>K g (lG (bA x.2 []) L vs) R H)) sn
def RP(cX:Bool)(Q:aJ)(E:Env)(D:List aQ)(l:List aR)(g:Bool)(H:ar)(K:KQ):PR:=A8 (motive:=λ _=>KQ) K (λ x _ ih=>Z5 M cX Q E D x ih) (Jn l) g [] [] H
def tOV(E:Env)(x:bL)(g:Bool)(K:Bool->AV->PR):PR:=match x with
 | .tmp t=>oI g (nI E t) K
 | .const v=>K g v
 | .eJ b=>K g (.ptr b 0)
 | .func f=>K g (.fn (.func f) [] [])
def tCV(E L R:Env)(x:bL)(g:Bool)(K:Bool->AV->PR):PR:=match x with
 | .tmp t=>XE E L R t g λ g _ v=>K g v
 | .const v=>K g v
 | .eJ b=>K g (.ptr b 0)
 | .func f=>K g (.fn (.func f) [] [])
def tU(rg:Bool->aJ->Env->List aQ->List aR->Bool->ar->KQ->PR)(ctx:Ctx)(K:Kp)(X:Nat->WR):aj->Nat->WR
 | .skip,_,g,Q,E,D,H=>mQ g Q .normal E D H
 | .label _,_,g,Q,E,D,H=>mQ g Q .normal E D H
 | .exit id,_,g,Q,E,D,H=>mQ g Q (.exit id) E D H
 | .goto l,_,g,Q,E,D,H=>mQ g Q (.goto l) E D H
 | .ret,_,g,Q,E,D,H=>mQ g Q .ret E D H
 | .stuck,_,_,_,_,_,_=>sn
 | .region l,_,g,Q,E,D,H=>rg K.cX Q E D l g H λ g L _ H=>mQ g Q .normal (dJ K.ai E L) D H
 | .seq a b,k,g,Q,E,D,H=>match a,b with
  | .region l,.cond c x y=>rg K.cX Q E D l g H λ g L R H=>tCV E L R c g λ g v=>fM g v (λ g=>(Ox (motive:=λ _=>WR) (tU rg ctx K X x (k+3)) (X (k+3)) (bG (k+3) K.named)) g Q (dJ K.ai E L) D H) (λ g=>(Ox (motive:=λ _=>WR) (tU rg ctx K X y (k+3+dB x)) (X (k+3+dB x)) (bG (k+3+dB x) K.named)) g Q (dJ K.ai E L) D H)
  | .region l,.seq (.cond c x y) r=>rg K.cX Q E D l g H λ g L R H=>tCV E L R c g λ g v=>fM g v (λ g=>(Ox (motive:=λ _=>WR) (tU rg ctx K X x (k+4)) (X (k+4)) (bG (k+4) K.named)) g (nZ (Ox (motive:=λ _=>WR) (tU rg ctx K X r (k+4+dB x+dB y)) (X (k+4+dB x+dB y)) (bG (k+4+dB x+dB y) K.named)) Q) (dJ K.ai E L) D H)
   (λ g=>(Ox (motive:=λ _=>WR) (tU rg ctx K X y (k+4+dB x)) (X (k+4+dB x)) (bG (k+4+dB x) K.named)) g (nZ (Ox (motive:=λ _=>WR) (tU rg ctx K X r (k+4+dB x+dB y)) (X (k+4+dB x+dB y)) (bG (k+4+dB x+dB y) K.named)) Q) (dJ K.ai E L) D H)
  | .region l,b=>rg K.cX Q E D l g H λ g L _ H=>(Ox (motive:=λ _=>WR) (tU rg ctx K X b (k+2)) (X (k+2)) (bG (k+2) K.named)) g Q (dJ K.ai E L) D H
  |a,b=>(Ox (motive:=λ _=>WR) (tU rg ctx K X a (k+1)) (X (k+1)) (bG (k+1) K.named)) g (nZ (Ox (motive:=λ _=>WR) (tU rg ctx K X b (k+1+dB a)) (X (k+1+dB a)) (bG (k+1+dB a) K.named)) Q) E D H
 | .cond c x y,k,g,Q,E,D,H=>tOV E c g λ g v=>fM g v (λ g=>(Ox (motive:=λ _=>WR) (tU rg ctx K X x (k+1)) (X (k+1)) (bG (k+1) K.named)) g Q E D H) (λ g=>(Ox (motive:=λ _=>WR) (tU rg ctx K X y (k+1+dB x)) (X (k+1+dB x)) (bG (k+1+dB x) K.named)) g Q E D H)
 | .block id b,k,g,Q,E,D,H=>(Ox (motive:=λ _=>WR) (tU rg ctx K X b (k+1)) (X (k+1)) (bG (k+1) K.named)) g (eY id Q) E D H
 | .scope b,k,g,Q,E,D,H=>(Ox (motive:=λ _=>WR) (tU rg ctx K X b (k+1)) (X (k+1)) (bG (k+1) K.named)) g (kE b Q) E D H
 | .loop (B1 _) _,_,_,_,_,_,_=>sn
 | .loop B5 b,k,g,Q,E,D,H=>ry (Ox (motive:=λ _=>WR) (tU rg ctx K X b (k+1)) (X (k+1)) (bG (k+1) K.named)) Q E D H
 | .rangeFunc f n,_,g,Q,E,D,H=>tOV E f g λ g v=>sr M K.ai ctx n E D H Q v
end
def KZ(M:ao):Z5 M=P5 M:=by
 funext cX Q E D ⟨o,l⟩ K g L R H;cases o with
 |none=>kernel_rfl
 |some q =>
  unfold Z5;simp only[Mr]
  kernel_rfl
def LL(M:ao):RP M=qP M:=by
 funext cX Q E D l g H K;unfold RP qP zE;rw[KZ];rfl
def Ks(M:ao)(c:Ctx)(K:Kp)(X:Nat->WX):tU M (qP M) c K X=U M c K X:=by kernel_rfl
def Pl(M:ao)(c:Ctx)(K:Kp)(X:Nat->WX):tU M (RP M) c K X=U M c K X:=by rw[LL];exact Ks M c K X
abbrev Hs:=List (Nat×List Nat)
def Wl(n:Nat)(l:Hs):Option (List Nat):=A8 (motive:=λ _=>Option (List Nat)) B5 (λ p _ ih=>cond (J8 p.1 n) (B1 p.2) ih) l
def Bi(P:Jy):Nat->LP->Option aU
 |0,_=>B5
 |d+1,t=>match P.underlying t with
  |some (.struct fs)=>dF.fieldsT P (Bi P d) fs.toList
  |some (.array n e)=>(bX P e).bind λ s=>(oe P e).bind λ a=>(Bi P d e).bind λ q=>B1 (dF.itemsT s a q n 0)
  |_=>dF P 1 t
def Sn(P:Jy)(t:LP)(neg:Bool)(x y:N0):Option (List bL×fL):=(Bi P 20 t).bind λ q=>(nK P.globals.size [x,y]).bind λ l=>B1 (l,.read (Op.eq (.agg q) neg))
def Md(P:Jy)(o:Pv):Option (List bL×fL):=match o.op with
 | .binOp op t x y _=>match P.underlying t,op with
  |some (.struct _),.eql=>Sn P t B2 x y
  |some (.struct _),.neq=>Sn P t B4 x y
  |some (.array _ _),.eql=>Sn P t B2 x y
  |some (.array _ _),.neq=>Sn P t B4 x y
  |_,_=>gB P o
 |_=>gB P o
def O1(P:Jy)(ops:Array Pv)(draw:Bool)(h:Option (List Nat)):Option aj :=
 (dy (ops.toList.map (Md P))).bind λ l =>
  (dy ((R3 (motive:=λ _=>List (Bool×Nat)) ((N7 ops.size).map λ i=>(B2,i)) (λ l=>l.map λ x=>(J8 (x % 2) 1,x / 2)) h).map (jG ops l λ i=>Ox (motive:=λ _=>Option (List Nat)) (B1 []) (Nz ops (aW ops l) (mY (aW ops l).cls (aW ops l).gn ops.size (2*ops.size) 0 []) i) draw))).bind λ steps=>B1 (.region steps)
def jK(P:Jy)(hs:Hs):Nat->Code->Option (aj×List dI)
 |_,.skip=>B1 (.skip,[])
 |_,.region r ops draw=>(O1 P ops draw (Ox B5 (Wl r hs) draw)).bind λ c=>B1 (c,[])
 |k,.seq a b=>(jK P hs k a).bind λ a=>(jK P hs (k+a.2.length) b).bind λ b=>B1 (.seq a.1 b.1,a.2++b.2)
 |k,.cond c a b=>(qZ P.globals.size c).bind λ c=>(jK P hs k a).bind λ a=>(jK P hs (k+a.2.length) b).bind λ b=>B1 (.cond c a.1 b.1,a.2++b.2)
 |k,.block id b=>(jK P hs k b).bind λ b=>B1 (.block id b.1,b.2)
 |k,.loop b=>(jK P hs k b).bind λ b=>B1 (.loop B5 b.1,b.2)
 |k,.rangeFunc f ps a b=>(qZ P.globals.size f).bind λ f=>(jK P hs (k+1) a).bind λ a=>(jK P hs (k+1+a.2.length) b).bind λ b=>B1 (.rangeFunc f k,{params:=ps.toList,assign:=a.1,body:=b.1}::(a.2++b.2))
 |_,.exit id=>B1 (.exit id,[])
 |k,.scope b=>(jK P hs k b).bind λ b=>B1 (.scope b.1,b.2)
 |_,.label l=>B1 (.label l,[])
 |_,.goto l=>B1 (.goto l,[])
 |_,.ret=>B1 (.ret,[])
 |_,.refuse _=>B1 (.stuck,[])
def CK(n:Nat)(b:aj)(l:List dI):aj:=Ox (motive:=λ _=>aj)
 (Ox (motive:=λ _=>aj) (Ox (motive:=λ _=>aj)
 (R3 (motive:=λ _=>aj) .stuck (λ q=>Ox (motive:=λ _=>aj) q.body q.assign (J8 (n / 100000 % 2) 1)) (nth l (n / 100000 / 2-1))) (zV b) (J8 (n / 100000) 1)) (xH b) (J8 (n / 100000) 99)) b (OZ n 99999)
def bm(P:Jy)(n:Nat):aj:=CK n (funcAt P (n % 100000)).body (funcAt P (n % 100000)).loops
def Kg(P:Jy)(hs:Hs)(n:Nat):aj:=R3 (motive:=λ _=>aj) .stuck (λ f=>R3 (motive:=λ _=>aj) .stuck (λ b=>R3 (motive:=λ _=>aj) .stuck (λ c=>CK n c.1 c.2) (jK P hs 0 b)) f.body) (P.funcs[n % 100000]?)
abbrev RL:=List (aJ->Env->List aQ->ar->PR)
abbrev QL:=List (aJ->Env->List aQ->ar->Prop)
def uR(M:ao)(c:Ctx)(p:Nat->Kp×aj):List Nat->QL->Prop
 |k::ks,R::l=>(∀Q E D H,W M c (p k) B4 Q E D H=R Q E D H)/\uR M c p ks l
 |_,_=>True
def Ar(M:ao)(c:Ctx)(p:Nat->Kp×aj)(k a:Nat)(ks:List Nat)(R:aJ->Env->List aQ->ar->Prop)(l:QL):uR M c p (k::a::ks) (R::l)=((∀Q E D H,W M c (p k) B4 Q E D H=R Q E D H)/\uR M c p (a::ks) l):=rfl
def Ap(M:ao)(c:Ctx)(p:Nat->Kp×aj)(k:Nat)(R:aJ->Env->List aQ->ar->Prop):uR M c p [k] [R] = ∀Q E D H,W M c (p k) B4 Q E D H=R Q E D H:=propext ⟨λ h=>h.1,λ h=>⟨h,trivial⟩⟩
def tW(M:ao)(c:Ctx)(K:Kp)(p:Nat->Kp×aj)(r:aj)(ks:List Nat):RL :=
 A8 (motive:=λ _=>RL) [] (λ k _ ih=>(λ Q E D H=>tU M (RP M) c K (λ j=>rW M c (p j)) (part r k) k B4 Q E D H)::ih) ks
def P1{P:Jy}{p:Nat->Nat->Kp×aj}{a:Nat->Kp}(hp:∀n k,p n k=(a n,part (bm P n) k))(M:ao)(c:Ctx)(n:Nat):∀ks:List Nat,uR M c (p n) ks (tW M c (a n) (p n) (bm P n) ks)
 |[]=>trivial
 |k::ks=>⟨λ Q E D H=>by
  have e:(λ j=>W M c (p n j))=λ j=>W M c (a n,part (bm P n) j):=funext λ j=>by rw[hp]
  show _=tU M (RP M) c (a n) (λ j=>W M c (p n j)) (part (bm P n) k) k B4 Q E D H;rw[hp n k,e,Pl];exact yW rfl,P1 hp M c n ks⟩
def ag9(o:bF)(mk:Nat->AV)(H:ar)(K:Bool->AV->ar->Prop):Hj B4 (B1 (o,mk)) H K=K B4 (mk H.au) (H.alloc o):=propext ki
def xj1(e:Nat)(z:List AV)(H:ar)(K:Bool->AV->ar->Prop):Hj B4 (Op.alloc e z []) H K=K B4 (.ptr H.au 0) (H.alloc (.row z e (0,0) B4)):=propext ki
def Gm(e:Nat)(v:AV)(H:ar)(K:Bool->AV->ar->Prop):Hj B4 (Op.box e [v]) H K=K B4 (.ptr H.au 0) (H.alloc (.row v.cells e (0,0) B4)):=propext ki
@[congr]def aa8{m a:Bool}{o o':Option (bF×(Nat->AV))}{H H':ar}{K:Bool->AV->ar->Prop}(hm:m=a)(h:o=o')(b:H=H'):Hj m o H K=Hj a o' H' K:=by subst hm;subst h;subst b;rfl
abbrev ua:=List (Nat×Kp×Hs)
def jX(n:Nat)(l:ua):Kp:=A8 (motive:=λ _=>Kp) ⟨[],B2,[]⟩ (λ p _ ih=>cond (J8 p.1 n) p.2.1 ih) l
def Cg(M:ao)(c:Ctx)(p:Nat->Nat->Kp×aj):ua->List QL->Prop
 |x::r,l::ls=>uR M c (p x.1) x.2.1.named l/\Cg M c p r ls
 |_,_=>True
def AA(M:ao)(c:Ctx)(p:Nat->Nat->Kp×aj)(n:Nat)(ks a:List Nat)(b:Bool)(hs:Hs)(y:Nat×Kp×Hs)(r:ua)(l:QL)(ls:List QL):Cg M c p ((n,⟨a,b,ks⟩,hs)::y::r) (l::ls)=(uR M c (p n) ks l/\Cg M c p (y::r) ls):=rfl
def Ak(M:ao)(c:Ctx)(p:Nat->Nat->Kp×aj)(n:Nat)(ks a:List Nat)(b:Bool)(hs:Hs)(l:QL):Cg M c p [(n,⟨a,b,ks⟩,hs)] [l]=uR M c (p n) ks l:=propext ⟨λ h=>h.1,λ h=>⟨h,trivial⟩⟩
def tF(M:ao)(c:Ctx)(Kt:Nat->Kp)(p:Nat->Nat->Kp×aj)(r:Nat->Hs->aj)(l:ua):List RL:=A8 (motive:=λ _=>List RL) [] (λ x _ ih=>tW M c (Kt x.1) (p x.1) (r x.1 x.2.2) x.2.1.named::ih) l
def oX{P:Jy}{p:Nat->Nat->Kp×aj}{a:Nat->Kp}(hp:∀n k,p n k=(a n,part (bm P n) k))(M:ao)(c:Ctx)(l:ua)(e:tF M c a p (λ n _=>bm P n) l=tF M c a p (λ n h=>Kg P h n) l):Cg M c p l (tF M c a p (λ n h=>Kg P h n) l):=by
 rw[<-e];clear e
 induction l with
 |nil=>trivial
 |cons x l ih=>exact⟨P1 hp M c x.1 _,ih⟩
def WA:eE->eE->Bool
 | .tmp a,.tmp b=>J8 a b
 | .lC a,.lC b=>J8 a b
 | .dg a b,.dg c d=>cond (J8 a c) (J8 b d) B2
 |_,_=>B2
def Rk{a b:eE}(h:WA a b=B4):a=b:=by
 cases a with
 |tmp a=>cases b with
  |tmp b=>rw[I6 h]
  |_=>cases h
 |lC a=>cases b with
  |lC b=>rw[I6 h]
  |_=>cases h
 |dg a x=>cases b with
  |dg b y =>
   have h:cond (J8 a b) (J8 x y) B2=true:=h;cases q:J8 a b with
   |true=>rw[q]at h;rw[I6 q,I6 h]
   |false=>rw[q]at h;cases h
  |_=>cases h
def IH:List eE->List eE->Bool
 |[],[]=>B4
 |a::x,b::y=>cond (WA a b) (IH x y) B2
 |_,_=>B2
def DY:∀{a b:List eE},IH a b=B4->a=b
 |[],[],_=>rfl
 |a::x,b::y,h=>by
  unfold IH at h;cases q:WA a b with
  |true=>rw[q]at h;rw[Rk q,DY h]
  |false=>rw[q]at h;cases h
def ZV(P:Jy)(tn:List Nat)(K:Kp)(n:Nat)(rs:List eE)(k:Nat):Bool:=cond (OZ n 99999) (cond (bG n tn) B2 (cond (kB 0 k K.ai) (R3 (motive:=λ _=>Bool) B2 (λ F=>IH F.results rs) ((aY P).func n)) B2)) B2
def Q1{P:Jy}{c:List Nat}{K:Kp}{n:Nat}{rs:List eE}{k:Nat}(h:ZV P c K n rs k=B4):OZ n 99999=B4/\bG n c=B2/\kB 0 k K.ai=B4/\(aY P).func n=B1 (funcAt P n)/\(funcAt P n).results=rs:=by
 unfold ZV at h;cases a:OZ n 99999 with
 |false=>rw[a]at h;cases h
 |true =>
 cases b:bG n c with
 |true=>rw[a,b]at h;cases h
 |false =>
 cases d:kB 0 k K.ai with
 |false=>rw[a,b,d]at h;cases h
 |true =>
 rw[a,b,d]at h;unfold funcAt;cases f:(aY P).func n with
 |none=>rw[f]at h;cases h
 |some F=>rw[f]at h;exact⟨rfl,rfl,rfl,rfl,DY h⟩
def Cy{P:Jy}{n:Nat}(h:OZ n 99999=B4):bm P n=(funcAt P n).body:=by
 unfold bm CK;rw[h,Nat.mod_eq_of_lt (Nat.lt_of_le_of_lt (Nat.le_of_ble_eq_true h) (by decide))]
def Mn(i:Nat)(v:AV)(vs:List AV):kM i (v::vs)=(i,v)::kM (i+1) vs:=rfl
def KE(i:Nat):kM i []=[]:=rfl
def ae:type_of% PC/\(∀(o:bF)mk H K,Hj B4 (B1 (o,mk)) H K=K B4 (mk H.au) (H.alloc o))/\(∀e z H K,Hj B4 (Op.alloc e z []) H K=K B4 (.ptr H.au 0) (H.alloc (.row z e (0,0) B4)))/\(∀e v H K,Hj B4 (Op.box e [v]) H K=K B4 (.ptr H.au 0) (H.alloc (.row v.cells e (0,0) B4)))/\(∀i v vs,kM i (v::vs)=(i,v)::kM (i+1) vs)/\(∀i,kM i []=[])/\(∀{α:Type}(F:α->Prop)(K:α),JN F K=F K):=⟨PC,ag9,xj1,Gm,Mn,KE,JB⟩
def Qd{M:ao}{P:Jy}{p:Nat->Nat->Kp×aj}{a:Nat->Kp}(hp:∀n k,p n k=(a n,part (bm P n) k)){n:Nat}{F:bT}(d:M.func n=B1 F){rs:List eE}(hr:F.results=rs){x y t:Nat}(c:rS F.body=B1 (zV F.body,t,xH F.body))(e:bm P x=zV F.body)(f:bm P y=xH F.body)(hk:(a x).ai=(a y).ai){vs:List AV}(b:kB 0 vs.length (a x).ai=B4){H:ar}{Q:bJ->ar->Prop}
 (h:W M ⟨B5,n⟩ (p x 0) B4 (D2 M ⟨B5,n⟩ (p y 0) t (eU M rs Q)) (kM 0 vs) [] H):Dq M n vs H Q:=by
 rw[hp,hp,e,f,<-hr]at h;exact Gw d hk c b h
def IY{M:ao}{P:Jy}{p:Nat->Nat->Kp×aj}{a:Nat->Kp}(hp:∀n k,p n k=(a n,part (bm P n) k)){n:Nat}{F:bT}(c:M.func n=B1 F){rs:List eE}(hr:F.results=rs)(d:bm P n=F.body){vs:List AV}(b:kB 0 vs.length (a n).ai=B4){up:Option aH}{H:ar}{Q:bJ->ar->Prop}
 (h:W M ⟨B5,n⟩ (p n 0) B4 (eU M rs Q) (kM 0 vs) [] H):∃e H',kC M n vs up H e up H'/\Q e H':=by
 rw[hp,d,<-hr]at h;exact HU c b h
abbrev NO:Nat:=165
abbrev UZ:Nat:=93
abbrev Ot:Nat:=134
abbrev Xv:Nat:=91
abbrev Ok:Nat:=133
abbrev Wx:Nat:=88
abbrev ZF:Nat:=256
abbrev UO:Nat:=96
abbrev XJ:Nat:=255
abbrev ZJ:Nat:=254
abbrev Nh:Nat:=129
abbrev qqj:Nat:=164
abbrev ME:Nat:=187
abbrev X9:Nat:=131
abbrev Ol:Nat:=162
abbrev _F:Nat:=160
abbrev MD:Nat:=186
abbrev qs1:Nat:=163
abbrev Wg:Nat:=45
abbrev q81:Nat:=5
abbrev xt:Nat:=198
abbrev yp:Nat:=43
abbrev bY:Nat:=3
abbrev hK:Nat:=164
abbrev yj:Nat:=232
abbrev DF:Nat:=131
open Go.Proofs Go.Proofs.YtlepagkkolnmoaaGreatDoor
class MK (M:ao):Prop where
 ok:∀n,bG n [5]=B2->M.func n=(aY Tryz.prog).func n
 mt:∀t s,M.kG t s=(aY Tryz.prog).kG t s
def MK.at{M:ao}[h:MK M]{n:Nat}{F:bT}(hn:bG n [5]=B2)(a:(aY Tryz.prog).func n=B1 F):M.func n=B1 F:=(h.ok n hn).trans a
def xX{M:ao}[h:MK M]{n:Nat}{F:bT}(hn:bG n [5]=B2){rs:List eE}(a:(aY Tryz.prog).func n=B1 F/\F.results=rs){ks:Kp}{vs:List AV}(hk:kB 0 vs.length ks.ai=B4){H:ar}{Q:bJ->ar->Prop}(hw:W M ⟨B5,n⟩ (ks,part F.body 0) B4 (eU M rs Q) (kM 0 vs) [] H):Dq M n vs H Q:=PQ (MK.at hn a.1) hk (a.2▸hw)
def kV{M:ao}[MK M]{p:Nat->Nat->Kp×aj}{a:Nat->Kp}(hp:∀n k,p n k=(a n,part (bm Tryz.prog n) k))(n:Nat)(rs:List eE)(vs:List AV)(b:ZV Tryz.prog [5] (a n) n rs vs.length=B4)(H:ar)(Q:bJ->ar->Prop)(h:W M ⟨B5,n⟩ (p n 0) B4 (eU M rs Q) (kM 0 vs) [] H):Dq M n vs H Q:=by
 obtain⟨b,c,d,e⟩:=Q1 b;exact xX c e (ks:=a n) d (by rw[hp,Cy b]at h;exact h)
variable{M:ao}[MK M]{H:ar}{Q:bJ->ar->Prop}{a0 a1 a2 a3:AV}
abbrev Vf:ua:=[(45,⟨[0,1,4,5],B2,[0,2,10]⟩,[]),(165,⟨[0,2,3,7,8],B2,[0,2,10,15]⟩,[]),(300165,⟨[0,2,3,7,8],B2,[0]⟩,[]),(200165,⟨[0,2,3,7,8],B2,[0]⟩,[]),(134,⟨[0,2,3,7,8],B2,[0,2,10,15]⟩,[]),(300134,⟨[0,2,3,7,8],B2,[0]⟩,[]),(200134,⟨[0,2,3,7,8],B2,[0]⟩,[]),(256,⟨[0,1,2,6,7,8,9,10],B2,[0,2,18,8,20,14,26]⟩,[]),(255,⟨[0,1,2,6,7,8],B2,[0,2,10,12,20]⟩,[]),(88,⟨[0,1,4,5,6,21],B2,[0,4,12]⟩,[]),(254,⟨[0,1,4,5,6,7],B2,[0,2,10,12,20]⟩,[]),(91,⟨[0,1,4,5,6,7,8,21],B2,[0,4,12]⟩,[]),(93,⟨[0,1,4,5,6,7,8],B2,[0,4,12]⟩,[]),(96,⟨[0,1,2,5,6,7,8],B2,[0,4,10]⟩,[(3,[0,2,4,6,8,10,5,12,14,16])]),(133,⟨[0,1,2,3,7,8,9,10,11,12,21],B2,[0,2,23,16,25,33]⟩,[(13,[0,2,4,6,8,5,10,12])]),(164,⟨[0,1,2],B2,[0]⟩,[]),(131,⟨[0,1,2,6,7,8],B2,[0,2,10,12,20]⟩,[]),(163,⟨[0,1],B2,[0]⟩,[]),(129,⟨[0,1,3,4,5,8,9],B2,[0,2,7]⟩,[]),(300129,⟨[0,1,3,4,5,8,9],B2,[0]⟩,[]),(200129,⟨[0,1,3,4,5,8,9],B2,[0]⟩,[]),(162,⟨[0,1,4,5,6,9,10],B2,[0,2,3,5,7,12]⟩,[]),(300162,⟨[0,1,4,5,6,9,10],B2,[0]⟩,[]),(200162,⟨[0,1,4,5,6,9,10],B2,[0,9,15]⟩,[]),(187,⟨[0,1,3,10,11],B2,[0,1,7,9,13,19,34,23,29]⟩,[]),(160,⟨[0,1,2,3,4],B2,[0]⟩,[]),(186,⟨[0,1,2,4,5,26,27],B2,[0,6,12,18,27]⟩,[])]
def ZZ(n:Nat):Kp:=jX n Vf
def AX(n k:Nat):Kp×aj:=(ZZ n,part (bm Tryz.prog n) k)
def oS(n k:Nat):AX n k=(ZZ n,part (bm Tryz.prog n) k):=rfl
def tu:=@kV M _ AX ZZ oS
attribute [local irreducible] PR AX nR gJ fM gM jC gO oP yU qH vM xJ zC gh mQ oI rW ry sr nZ sn nI eY kE cQ AV.undef Op.move Op.pick Op.build Op.nilCheck Op.bin Op.eq Op.un Op.wrap Op.dT Op.eN Op.du Op.bB Op.dO Op.aC Op.cJ Op.fieldAddr Op.field Op.aT Op.bh Op.bD Op.bP Op.typeAssert Op.extract Op.fF Op.dp Op.oR Op.cap Op.eG Op.dh Op.dQ Op.aG Op.bU Op.ah Op.aw Op.cD Op.lookup Op.gF Op.eR Op.alloc Op.box Op.buildSlice Op.mkMap Op.mkSlice Op.cA Op.dM Op.makeNoZero Op.store Op.mapUpdate Op.di Op.eP Op.append Op.copy Op.cj Op.bV Op.eM Op.dL
def jy(M:ao)(c:Ctx):=by
 have h:=oX oS M c Vf (by kernel_rfl)
 conv at h=>arg 5;reduce
 delta PR RL nI gO nR gJ oP jC mQ fM gM gh oI ry sr nZ qH rW sj Vf at h
 simp only[AA,Ak,Ar,Ap,A7,Qw]at h;exact h
def bf(M:ao)(c:Ctx):=(jy M c).2.2.2.2.2.2.2.2
def bo(M:ao)(c:Ctx):=(bf M c).2.2.2.2.2.2.2.2
def cb(M:ao)(c:Ctx):=(bo M c).2.2.2.2.2.2.2.2
def ag5(M:ao)(c:Ctx):=(jy M c).1
def af6:=@tu M _ Wg [.tmp 4,.tmp 5] [a0,a1] (by kernel_rfl) H Q
def Sm:bT:=funcAt Tryz.prog NO
def QB:dI:=gK Sm 0
abbrev Y9(k:Nat):Kp×aj:=AX 300165 k
abbrev VU(k:Nat):Kp×aj:=AX 200165 k
def uK:nth Sm.loops 0=B1 QB/\QB.params=[8]:=⟨by kernel_rfl,by kernel_rfl⟩
def qt4:(Y9 0).1.ai=[0,2,3,7,8]/\(Y9 0).2=QB.assign:=⟨by kernel_rfl,by kernel_rfl⟩
def qt5:(VU 0).1.ai=[0,2,3,7,8]/\(VU 0).2=QB.body:=⟨by kernel_rfl,by kernel_rfl⟩
def qv4:M.func NO=B1 Sm:=MK.at (by decide) (by kernel_rfl)
def V1(M:ao)(c:Ctx):=Hu (jy M c).2.1.1 (Hu (jy M c).2.2.1 (Hu (jy M c).2.2.2.1 (Hu (jy M c).2.1.2.1 (Hu (jy M c).2.1.2.2.1 ((jy M c).2.1.2.2.2)))))
def qxt:=@tu M _ NO [.tmp 2] [a0] (by kernel_rfl) H Q
def Si:bT:=funcAt Tryz.prog Ot
def Pj:dI:=gK Si 0
abbrev Wi(k:Nat):Kp×aj:=AX 300134 k
abbrev VB(k:Nat):Kp×aj:=AX 200134 k
def nB:nth Si.loops 0=B1 Pj/\Pj.params=[8]:=⟨by kernel_rfl,by kernel_rfl⟩
def qsm:(Wi 0).1.ai=[0,2,3,7,8]/\(Wi 0).2=Pj.assign:=⟨by kernel_rfl,by kernel_rfl⟩
def qsn:(VB 0).1.ai=[0,2,3,7,8]/\(VB 0).2=Pj.body:=⟨by kernel_rfl,by kernel_rfl⟩
def qt6:M.func Ot=B1 Si:=MK.at (by decide) (by kernel_rfl)
def _J(M:ao)(c:Ctx):=Hu (jy M c).2.2.2.2.1.1 (Hu (jy M c).2.2.2.2.2.1 (Hu (jy M c).2.2.2.2.2.2.1 (Hu (jy M c).2.2.2.2.1.2.1 (Hu (jy M c).2.2.2.2.1.2.2.1 ((jy M c).2.2.2.2.1.2.2.2)))))
def qv5:=@tu M _ Ot [.tmp 2] [a0] (by kernel_rfl) H Q
def q4w(M:ao)(c:Ctx):=(jy M c).2.2.2.2.2.2.2.1
def q4v:=@tu M _ ZF [.tmp 6] [a0,a1,a2] (by kernel_rfl) H Q
def q64(M:ao)(c:Ctx):=(bf M c).1
def q63:=@tu M _ XJ [.tmp 6] [a0,a1,a2] (by kernel_rfl) H Q
def q4u(M:ao)(c:Ctx):=(bf M c).2.1
def q4t:=@tu M _ Wx [.dg 21 4,.tmp 5] [a0,a1] (by kernel_rfl) H Q
def q4y(M:ao)(c:Ctx):=(bf M c).2.2.1
def q4x:=@tu M _ ZJ [.tmp 4,.tmp 5] [a0,a1] (by kernel_rfl) H Q
def q4q(M:ao)(c:Ctx):=(bf M c).2.2.2.1
def q4p:=@tu M _ Xv [.dg 21 4,.tmp 5] [a0,a1] (by kernel_rfl) H Q
def qxv(M:ao)(c:Ctx):=(bf M c).2.2.2.2.1
def qxu:=@tu M _ UZ [.dg 8 4,.tmp 5] [a0,a1] (by kernel_rfl) H Q
def qv7(M:ao)(c:Ctx):=(bf M c).2.2.2.2.2.1
def qv6:=@tu M _ UO [.tmp 6] [a0,a1,a2] (by kernel_rfl) H Q
abbrev N'(k:Nat):Kp×aj:=AX Ok k
def q4s(M:ao)(c:Ctx):=(bf M c).2.2.2.2.2.2.1
def q4r:=@tu M _ Ok [.dg 21 8,.tmp 9,.tmp 10] [a0,a1,a2,a3] (by kernel_rfl) H Q
def q42(M:ao)(c:Ctx):=(bf M c).2.2.2.2.2.2.2.1
def q41:=@tu M _ qqj [.tmp 2] [a0] (by kernel_rfl) H Q
def q93(M:ao)(c:Ctx):=(bo M c).1
def q92:=@tu M _ X9 [.tmp 6,.tmp 7] [a0,a1,a2] (by kernel_rfl) H Q
def q69(M:ao)(c:Ctx):=(bo M c).2.1
def q68:=@tu M _ qs1 [] [a0,a1] (by kernel_rfl) H Q
def Ul:bT:=funcAt Tryz.prog Nh
def PJ:dI:=gK Ul 0
abbrev VX(k:Nat):Kp×aj:=AX 300129 k
abbrev Vp(k:Nat):Kp×aj:=AX 200129 k
def qrg:nth Ul.loops 0=B1 PJ/\PJ.params=[9]:=⟨by kernel_rfl,by kernel_rfl⟩
def q4z:(VX 0).1.ai=[0,1,3,4,5,8,9]/\(VX 0).2=PJ.assign:=⟨by kernel_rfl,by kernel_rfl⟩
def q40:(Vp 0).1.ai=[0,1,3,4,5,8,9]/\(Vp 0).2=PJ.body:=⟨by kernel_rfl,by kernel_rfl⟩
def q65:M.func Nh=B1 Ul:=MK.at (by decide) (by kernel_rfl)
def _E(M:ao)(c:Ctx):=Hu (bo M c).2.2.1.1 (Hu (bo M c).2.2.2.1 (Hu (bo M c).2.2.2.2.1 (Hu (bo M c).2.2.1.2.1 ((bo M c).2.2.1.2.2))))
def q91:=@tu M _ Nh [.lC 4] [a0,a1] (by kernel_rfl) H Q
def Ur:bT:=funcAt Tryz.prog Ol
def PT:dI:=gK Ur 0
abbrev W7(k:Nat):Kp×aj:=AX 300162 k
abbrev Wf(k:Nat):Kp×aj:=AX 200162 k
def sB:nth Ur.loops 0=B1 PT/\PT.params=[10]:=⟨by kernel_rfl,by kernel_rfl⟩
def qxy:(W7 0).1.ai=[0,1,4,5,6,9,10]/\(W7 0).2=PT.assign:=⟨by kernel_rfl,by kernel_rfl⟩
def qxz:(Wf 0).1.ai=[0,1,4,5,6,9,10]/\(Wf 0).2=PT.body:=⟨by kernel_rfl,by kernel_rfl⟩
def q0a:M.func Ol=B1 Ur:=MK.at (by decide) (by kernel_rfl)
def qrh(M:ao)(c:Ctx):=Hu (bo M c).2.2.2.2.2.1.1 (Hu (bo M c).2.2.2.2.2.2.1 (Hu (bo M c).2.2.2.2.2.2.2.1.1 (Hu (bo M c).2.2.2.2.2.1.2.1 (Hu (bo M c).2.2.2.2.2.2.2.1.2.1 (Hu (bo M c).2.2.2.2.2.1.2.2.1 (Hu (bo M c).2.2.2.2.2.2.2.1.2.2 (Hu (bo M c).2.2.2.2.2.1.2.2.2.1 (Hu (bo M c).2.2.2.2.2.1.2.2.2.2.1 ((bo M c).2.2.2.2.2.1.2.2.2.2.2)))))))))
def q43:=@tu M _ Ol [.lC 4] [a0,a1] (by kernel_rfl) H Q
def qxx(M:ao)(c:Ctx):=(cb M c).1
def qxw:=@tu M _ ME [] [a0,a1] (by kernel_rfl) H Q
def q67(M:ao)(c:Ctx):=(cb M c).2.1
def q66:=@tu M _ _F [.tmp 4] [a0,a1] (by kernel_rfl) H Q
def q0c(M:ao)(c:Ctx):=(cb M c).2.2
def q0b:=@tu M _ MD [] [a0,a1,a2] (by kernel_rfl) H Q
abbrev XT:Nat:=27
abbrev YX:Nat:=70
abbrev Zb:Nat:=244
abbrev Vw:Nat:=245
abbrev ζ:Nat:=246
abbrev Xe:Nat:=247
abbrev O0:Nat:=67
abbrev ve:Nat:=64
abbrev ZW:Nat:=95
abbrev wo:Nat:=248
abbrev RK:Nat:=249
abbrev RU:Nat:=250
abbrev qnf:Nat:=98
abbrev ZE:Nat:=253
abbrev Of:Nat:=97
abbrev WC:Nat:=99
abbrev qpl:Nat:=90
abbrev YP:Nat:=251
abbrev X0:Nat:=89
abbrev qqq:Nat:=92
abbrev qng:Nat:=252
abbrev qjg:Nat:=130
abbrev XD:Nat:=94
abbrev U4:Nat:=132
abbrev Zl:Nat:=161
abbrev xp:Nat:=45
abbrev AH:Nat:=23
abbrev Rn:Nat:=136
abbrev X8:ua:=[(27,⟨[0,1,3,4,5,6,7],B2,[0,4,12]⟩,[]),(248,⟨[0,2],B2,[0]⟩,[]),(249,⟨[0,1,4,5,6,7,8,9,11],B2,[0,2,12,14,24,30]⟩,[]),(250,⟨[0,1,2,6,7,8,9,10],B2,[0,2,12,14,22,28]⟩,[]),(245,⟨[0,1,2,3,8,9,10,11,12,13,14],B2,[0,2,12,20,22,30,32,38]⟩,[]),(244,⟨[0,2],B2,[0,2,17]⟩,[]),(247,⟨[0,2],B2,[0,2,17]⟩,[]),(70,⟨[0,1,4],B2,[0,2,23,16]⟩,[]),(64,⟨[0,1,3,4,5,6,7,8,9,51,69],B2,[0,2,10,12,20,73,34,75,40,85,41,49,53,61]⟩,[]),(67,⟨[0,1,4,5,6,7],B2,[0,2,17,19,27,33]⟩,[]),(246,⟨[0,2],B2,[0,2,10]⟩,[]),(251,⟨[0,1,4],B2,[0,2,17]⟩,[]),(253,⟨[0,1,2,6],B2,[0,2,10]⟩,[]),(252,⟨[0,1,4,5,6],B2,[0]⟩,[]),(98,⟨[0,1],B2,[0]⟩,[]),(89,⟨[0,1,2,4,5,6,8,14],B2,[0,2,41,12,18,28]⟩,[(8,[0,2,4,6,8,10,12,14,7,16,18]),(10,[0,2,4,6,8,10,12,14,7,16,18])]),(90,⟨[0,1,2,4],B2,[0]⟩,[]),(92,⟨[0,1,2,6,11],B2,[0]⟩,[]),(94,⟨[0,1,4,5,6,7],B2,[0,4,12,35,17,23,34]⟩,[]),(95,⟨[0,1,3],B2,[0]⟩,[]),(97,⟨[0,1,3,4,5,6,7,8],B2,[0,4,10,12,20,28]⟩,[]),(99,⟨[0,1,3,4,5],B2,[0,2,10]⟩,[]),(130,⟨[0,1,4],B2,[0]⟩,[]),(132,⟨[0,1,4,5,7,8],B2,[0,2,25,7,13,24]⟩,[]),(161,⟨[0,1,4,5,7,8],B2,[0,2,25,7,13,24]⟩,[])]
def Wp(n:Nat):Kp:=jX n X8
def JK(n k:Nat):Kp×aj:=(Wp n,part (bm Tryz.prog n) k)
def q2z(n k:Nat):JK n k=(Wp n,part (bm Tryz.prog n) k):=rfl
def we:=@kV M _ JK Wp q2z
attribute [local irreducible] JK
def wc(M:ao)(c:Ctx):=by
 have h:=oX q2z M c X8 (by kernel_rfl)
 conv at h=>arg 5;reduce
 delta PR RL nI gO nR gJ oP jC mQ fM gM gh oI ry nZ qH rW sj X8 at h
 simp only[AA,Ak,Ar,Ap,A7,Qw]at h;exact h
def ck(M:ao)(c:Ctx):=(wc M c).2.2.2.2.2.2.2.2
def cn(M:ao)(c:Ctx):=(ck M c).2.2.2.2.2.2.2.2
def cr(M:ao)(c:Ctx):=(cn M c).2.2.2.2.2.2.2.2
def xjd(M:ao)(c:Ctx):=(wc M c).1
def xjc:=@we M _ XT [.tmp 4,.tmp 5] [a0,a1] (by kernel_rfl) H Q
def q0p(M:ao)(c:Ctx):=(wc M c).2.1
def q0o:=@we M _ wo [.tmp 2] [a0] (by kernel_rfl) H Q
abbrev q0q(k:Nat):Kp×aj:=JK RK k
def q0s(M:ao)(c:Ctx):=(wc M c).2.2.1
def q0r:=@we M _ RK [.tmp 4,.tmp 5,.tmp 6,.tmp 7] [a0,a1] (by kernel_rfl) H Q
abbrev qx6(k:Nat):Kp×aj:=JK RU k
def qx8(M:ao)(c:Ctx):=(wc M c).2.2.2.1
def qx7:=@we M _ RU [.tmp 6,.tmp 7,.tmp 8] [a0,a1,a2] (by kernel_rfl) H Q
def q5m(M:ao)(c:Ctx):=(wc M c).2.2.2.2.1
def q5l:=@we M _ Vw [.tmp 8,.tmp 9,.tmp 10,.tmp 11] [a0,a1,a2,a3] (by kernel_rfl) H Q
def qx5(M:ao)(c:Ctx):=(wc M c).2.2.2.2.2.1
def qx4:=@we M _ Zb [.tmp 2] [a0] (by kernel_rfl) H Q
def qwc(M:ao)(c:Ctx):=(wc M c).2.2.2.2.2.2.1
def qwb:=@we M _ Xe [.tmp 2] [a0] (by kernel_rfl) H Q
def qx3(M:ao)(c:Ctx):=(wc M c).2.2.2.2.2.2.2.1
def qx2:=@we M _ YX [.tmp 4] [a0,a1] (by kernel_rfl) H Q
abbrev NL(k:Nat):Kp×aj:=JK ve k
def q0n(M:ao)(c:Ctx):=(ck M c).1
def q0m:=@we M _ ve [.tmp 4,.tmp 5] [a0,a1] (by kernel_rfl) H Q
abbrev q0j(k:Nat):Kp×aj:=JK O0 k
def q0l(M:ao)(c:Ctx):=(ck M c).2.1
def q0k:=@we M _ O0 [.tmp 4,.tmp 5] [a0,a1] (by kernel_rfl) H Q
def q0i(M:ao)(c:Ctx):=(ck M c).2.2.1
def q0h:=@we M _ ζ [.tmp 2] [a0] (by kernel_rfl) H Q
def q5q(M:ao)(c:Ctx):=(ck M c).2.2.2.1
def q5p:=@we M _ YP [.tmp 4] [a0,a1] (by kernel_rfl) H Q
def q5o(M:ao)(c:Ctx):=(ck M c).2.2.2.2.1
def q5n:=@we M _ ZE [.tmp 6] [a0,a1,a2] (by kernel_rfl) H Q
def qyc(M:ao)(c:Ctx):=(ck M c).2.2.2.2.2.1
def qyb:=@we M _ qng [.tmp 4] [a0,a1] (by kernel_rfl) H Q
def qya(M:ao)(c:Ctx):=(ck M c).2.2.2.2.2.2.1
def qx9:=@we M _ qnf [] [a0,a1] (by kernel_rfl) H Q
def quc(M:ao)(c:Ctx):=(ck M c).2.2.2.2.2.2.2.1
def qub:=@we M _ X0 [.tmp 6] [a0,a1,a2] (by kernel_rfl) H Q
def Ou(M:ao)(c:Ctx):=(cn M c).1
def q0x:=@we M _ qpl [] [a0,a1,a2] (by kernel_rfl) H Q
def q5s(M:ao)(c:Ctx):=(cn M c).2.1
def q5r:=@we M _ qqq [.dg 11 6] [a0,a1,a2] (by kernel_rfl) H Q
def qo3(M:ao)(c:Ctx):=(cn M c).2.2.1
def qo2:=@we M _ XD [.tmp 4] [a0,a1] (by kernel_rfl) H Q
def _v(M:ao)(c:Ctx):=(cn M c).2.2.2.1
def qwd:=@we M _ ZW [.tmp 3] [a0,a1] (by kernel_rfl) H Q
abbrev V2(k:Nat):Kp×aj:=JK Of k
def q0u(M:ao)(c:Ctx):=(cn M c).2.2.2.2.1
def q0t:=@we M _ Of [.tmp 4] [a0,a1] (by kernel_rfl) H Q
def q0w(M:ao)(c:Ctx):=(cn M c).2.2.2.2.2.1
def q0v:=@we M _ WC [.tmp 4] [a0,a1] (by kernel_rfl) H Q
def qrw(M:ao)(c:Ctx):=(cn M c).2.2.2.2.2.2.1
def qrv:=@we M _ qjg [.tmp 4] [a0,a1] (by kernel_rfl) H Q
def qqd(M:ao)(c:Ctx):=(cn M c).2.2.2.2.2.2.2.1
def qqc:=@we M _ U4 [.tmp 4] [a0,a1] (by kernel_rfl) H Q
def qwk(M:ao)(c:Ctx):=(cr M c)
def qwj:=@we M _ Zl [.tmp 4] [a0,a1] (by kernel_rfl) H Q
abbrev Gj:Nat:=63
abbrev a_:Nat:=28
abbrev Wb:Nat:=84
abbrev Oz:Nat:=86
abbrev UG:Nat:=87
abbrev UY:Nat:=26
abbrev qpg:Nat:=127
abbrev Lj:Nat:=159
abbrev Ju:Nat:=85
abbrev Uk:Nat:=125
abbrev Ze:Nat:=128
abbrev Ve:Nat:=46
abbrev ZQ:Nat:=57
abbrev U3:Nat:=44
abbrev s_:Nat:=126
abbrev Zy:Nat:=158
abbrev sQ:Nat:=87
abbrev σ:Nat:=126
abbrev VY:Nat:=127
abbrev PK:Nat:=130
abbrev xbp:Nat:=161
abbrev Xf:ua:=[(26,⟨[0,1,4,5,6,7,8,9,35,36],B2,[0,4,12,14,31,19,25,30]⟩,[]),(63,⟨[0,1,3,4,5,6,7,8,9,37,38],B2,[0,2,10,12,20,28,32,113,42,119,45,61,66,55,71,86,73,99,79]⟩,[]),(28,⟨[0,1,2,5,6],B2,[0,2,10]⟩,[]),(44,⟨[0,2,3],B2,[0,2,10]⟩,[]),(46,⟨[0,1,2,5,6,7,8],B2,[0,4,10]⟩,[]),(84,⟨[0,1,4],B2,[0,2,10]⟩,[]),(85,⟨[0,1,3,4,5,6,9,10],B2,[0,4,51,14,17,26,38]⟩,[]),(86,⟨[0,1,2,5,6,7,8,9,74,75],B2,[0,4,22,10,24,12,32,18,36,41]⟩,[]),(300086,⟨[0,1,2,5,6,7,8,9,74,75],B2,[0]⟩,[]),(200086,⟨[0,1,2,5,6,7,8,9,74,75],B2,[0]⟩,[]),(87,⟨[0,1,4,5,7,11],B2,[0,4,8,18]⟩,[]),(57,⟨[0,1,4,5],B2,[0,2,17]⟩,[]),(125,⟨[0,1,2,3],B2,[0]⟩,[]),(126,⟨[0,1,4],B2,[0]⟩,[]),(127,⟨[0,1,2],B2,[0]⟩,[]),(128,⟨[0,1,4,5,6,7,8],B2,[0,4,12]⟩,[]),(158,⟨[0,1,4,5,7,8],B2,[0,2,25,7,13,24]⟩,[]),(159,⟨[0,1,3,4],B2,[0,4,10,19]⟩,[])]
def Wk(n:Nat):Kp:=jX n Xf
def Lm(n k:Nat):Kp×aj:=(Wk n,part (bm Tryz.prog n) k)
def _3(n k:Nat):Lm n k=(Wk n,part (bm Tryz.prog n) k):=rfl
def wA:=@kV M _ Lm Wk _3
attribute [local irreducible] Lm
def vh(M:ao)(c:Ctx):=by
 have h:=oX _3 M c Xf (by kernel_rfl)
 conv at h=>arg 5;reduce
 delta PR RL nI gO nR gJ oP mQ fM gM gh oI ry sr nZ qH rW sj Xf at h
 simp only[AA,Ak,Ar,Ap,A7,Qw]at h;exact h
def cB(M:ao)(c:Ctx):=(vh M c).2.2.2.2.2.2.2.2
def cC(M:ao)(c:Ctx):=(cB M c).2.2.2.2.2.2.2.2
def xlc(M:ao)(c:Ctx):=(vh M c).1
def xlb:=@wA M _ UY [.tmp 4,.tmp 5] [a0,a1] (by kernel_rfl) H Q
abbrev W5(k:Nat):Kp×aj:=Lm Gj k
def qtg(M:ao)(c:Ctx):=(vh M c).2.1
def q6x:=@wA M _ Gj [.tmp 4,.tmp 5] [a0,a1] (by kernel_rfl) H Q
def q9m(M:ao)(c:Ctx):=(vh M c).2.2.1
def q9l:=@wA M _ a_ [.tmp 6] [a0,a1,a2] (by kernel_rfl) H Q
def xmj(M:ao)(c:Ctx):=(vh M c).2.2.2.1
def xmi:=@wA M _ U3 [.tmp 2,.tmp 3] [a0] (by kernel_rfl) H Q
def xah(M:ao)(c:Ctx):=(vh M c).2.2.2.2.1
def xag:=@wA M _ Ve [.tmp 6] [a0,a1,a2] (by kernel_rfl) H Q
def xb4(M:ao)(c:Ctx):=(vh M c).2.2.2.2.2.1
def xb3:=@wA M _ Wb [.tmp 4] [a0,a1] (by kernel_rfl) H Q
abbrev TT(k:Nat):Kp×aj:=Lm Ju k
def q4a(M:ao)(c:Ctx):=(vh M c).2.2.2.2.2.2.1
def q39:=@wA M _ Ju [.tmp 4] [a0,a1] (by kernel_rfl) H Q
def TZ:bT:=funcAt Tryz.prog Oz
def Pd:dI:=gK TZ 0
abbrev Va(k:Nat):Kp×aj:=Lm 300086 k
abbrev XU(k:Nat):Kp×aj:=Lm 200086 k
def R1:nth TZ.loops 0=B1 Pd/\Pd.params=[75]:=⟨by kernel_rfl,by kernel_rfl⟩
def qxo:(Va 0).1.ai=[0,1,2,5,6,7,8,9,74,75]/\(Va 0).2=Pd.assign:=⟨by kernel_rfl,by kernel_rfl⟩
def qxp:(XU 0).1.ai=[0,1,2,5,6,7,8,9,74,75]/\(XU 0).2=Pd.body:=⟨by kernel_rfl,by kernel_rfl⟩
def qz7:M.func Oz=B1 TZ:=MK.at (by decide) (by kernel_rfl)
def qq5(M:ao)(c:Ctx):=Hu (vh M c).2.2.2.2.2.2.2.1.1 (Hu (cB M c).1 (Hu (cB M c).2.1 (Hu (vh M c).2.2.2.2.2.2.2.1.2.1 (Hu (vh M c).2.2.2.2.2.2.2.1.2.2.1 (Hu (vh M c).2.2.2.2.2.2.2.1.2.2.2.1 (Hu (vh M c).2.2.2.2.2.2.2.1.2.2.2.2.1 (Hu (vh M c).2.2.2.2.2.2.2.1.2.2.2.2.2.1 (Hu (vh M c).2.2.2.2.2.2.2.1.2.2.2.2.2.2.1 (Hu (vh M c).2.2.2.2.2.2.2.1.2.2.2.2.2.2.2.1 (Hu (vh M c).2.2.2.2.2.2.2.1.2.2.2.2.2.2.2.2.1 ((vh M c).2.2.2.2.2.2.2.1.2.2.2.2.2.2.2.2.2)))))))))))
def q36:=@wA M _ Oz [.tmp 6] [a0,a1,a2] (by kernel_rfl) H Q
def q38(M:ao)(c:Ctx):=(cB M c).2.2.1
def q37:=@wA M _ UG [.dg 11 4] [a0,a1] (by kernel_rfl) H Q
def xc2(M:ao)(c:Ctx):=(cB M c).2.2.2.1
def xc1:=@wA M _ ZQ [.tmp 4,.tmp 5] [a0,a1] (by kernel_rfl) H Q
def _y(M:ao)(c:Ctx):=(cB M c).2.2.2.2.1
def qxq:=@wA M _ Uk [.tmp 3] [a0,a1] (by kernel_rfl) H Q
def qj7(M:ao)(c:Ctx):=(cB M c).2.2.2.2.2.1
def qj6:=@wA M _ s_ [.tmp 4] [a0,a1] (by kernel_rfl) H Q
def qz9(M:ao)(c:Ctx):=(cB M c).2.2.2.2.2.2.1
def qz8:=@wA M _ qpg [.tmp 2] [a0] (by kernel_rfl) H Q
def q7j(M:ao)(c:Ctx):=(cB M c).2.2.2.2.2.2.2.1
def q7i:=@wA M _ Ze [.dg 8 4,.tmp 5] [a0,a1] (by kernel_rfl) H Q
def ql9(M:ao)(c:Ctx):=(cC M c).1
def ql8:=@wA M _ Zy [.tmp 4] [a0,a1] (by kernel_rfl) H Q
def qvx(M:ao)(c:Ctx):=(cC M c).2
def qvw:=@wA M _ Lj [] [a0,a1] (by kernel_rfl) H Q
abbrev NX:Nat:=54
abbrev I7:Nat:=69
abbrev Tf:Nat:=237
abbrev Tb:Nat:=238
abbrev Tt:Nat:=239
abbrev SB:Nat:=240
abbrev Qk:Nat:=52
abbrev Rh:Nat:=53
abbrev TU:Nat:=241
abbrev TJ:Nat:=242
abbrev Td:Nat:=243
abbrev Xp:Nat:=66
abbrev Qu:Nat:=68
abbrev Wn:Nat:=65
abbrev Vb:Nat:=16
abbrev YB:Nat:=62
abbrev Ky:Nat:=89
abbrev Kj:Nat:=90
variable{a4:AV}
abbrev Ya:ua:=[(16,⟨[0,1,2,4,5,6,7,8,9,10,11,12,13,37,38,60,61,62],B2,[0,4,12,14,41,19,58,46,25,52,40,31,57,39]⟩,[]),(242,⟨[0,1,2,6,7,8,9,10],B2,[0,4,12]⟩,[]),(243,⟨[0,1,2,3,8,9,10,11],B2,[0,4,12]⟩,[]),(238,⟨[0,1,2,3,4,10,11,12,13,14],B2,[0,4,12]⟩,[]),(237,⟨[0,1,4],B2,[0]⟩,[]),(240,⟨[0,1,4],B2,[0]⟩,[]),(54,⟨[0,1,2,5,6],B2,[0]⟩,[]),(53,⟨[0,1,2,6,7,8,9],B2,[0,4,12]⟩,[]),(52,⟨[0,1,4,5,6,7,8,11],B2,[0,2,17,21,23,29]⟩,[]),(241,⟨[0,1,4,5],B2,[0]⟩,[]),(239,⟨[0,1,4,5],B2,[0]⟩,[]),(65,⟨[0,1],B2,[0]⟩,[]),(66,⟨[0,1,4,5],B2,[0,2,17]⟩,[]),(68,⟨[0,1,2,6,7,8],B2,[0,4,12]⟩,[]),(69,⟨[0,1,3],B2,[0]⟩,[]),(62,⟨[0,1,2,6,7],B2,[0,4,12]⟩,[])]
def XC(n:Nat):Kp:=jX n Ya
def XX(n k:Nat):Kp×aj:=(XC n,part (bm Tryz.prog n) k)
def t_(n k:Nat):XX n k=(XC n,part (bm Tryz.prog n) k):=rfl
def vW:=@kV M _ XX XC t_
attribute [local irreducible] XX
def vZ(M:ao)(c:Ctx):=by
 have h:=oX t_ M c Ya (by kernel_rfl)
 conv at h=>arg 5;reduce
 delta PR RL nI gO nR gJ oP mQ fM gM gh oI ry nZ qH rW sj Ya at h
 simp only[AA,Ak,Ar,Ap,A7,Qw]at h;exact h
def cL(M:ao)(c:Ctx):=(vZ M c).2.2.2.2.2.2.2.2
def T7(M:ao)(c:Ctx):=(vZ M c).1
def xkw:=@vW M _ Vb [.tmp 4,.tmp 5] [a0,a1] (by kernel_rfl) H Q
def q6t(M:ao)(c:Ctx):=(vZ M c).2.1
def q6s:=@vW M _ TJ [.tmp 6,.tmp 7,.tmp 8] [a0,a1,a2] (by kernel_rfl) H Q
def q3v(M:ao)(c:Ctx):=(vZ M c).2.2.1
def q3u:=@vW M _ Td [.tmp 8,.tmp 9] [a0,a1,a2,a3] (by kernel_rfl) H Q
def q9h(M:ao)(c:Ctx):=(vZ M c).2.2.2.1
def q9g:=@vW M _ Tb [.tmp 10,.tmp 11,.tmp 12] [a0,a1,a2,a3,a4] (by kernel_rfl) H Q
def q3t(M:ao)(c:Ctx):=(vZ M c).2.2.2.2.1
def q3s:=@vW M _ Tf [.tmp 4] [a0,a1] (by kernel_rfl) H Q
def qzs(M:ao)(c:Ctx):=(vZ M c).2.2.2.2.2.1
def qzr:=@vW M _ SB [.tmp 4] [a0,a1] (by kernel_rfl) H Q
def YS(M:ao)(c:Ctx):=(vZ M c).2.2.2.2.2.2.1
def Zt:=@vW M _ NX [.tmp 6] [a0,a1,a2] (by kernel_rfl) H Q
def qta(M:ao)(c:Ctx):=(vZ M c).2.2.2.2.2.2.2.1
def qs9:=@vW M _ Rh [.tmp 6] [a0,a1,a2] (by kernel_rfl) H Q
def qnv(M:ao)(c:Ctx):=(cL M c).1
def q_:=@vW M _ Qk [.dg 11 4,.tmp 5] [a0,a1] (by kernel_rfl) H Q
def q6r(M:ao)(c:Ctx):=(cL M c).2.1
def q6q:=@vW M _ TU [.tmp 4] [a0,a1] (by kernel_rfl) H Q
def q6p(M:ao)(c:Ctx):=(cL M c).2.2.1
def q6o:=@vW M _ Tt [.tmp 4] [a0,a1] (by kernel_rfl) H Q
def q6v(M:ao)(c:Ctx):=(cL M c).2.2.2.1
def q6u:=@vW M _ Wn [] [a0,a1] (by kernel_rfl) H Q
def xbv(M:ao)(c:Ctx):=(cL M c).2.2.2.2.1
def xbu:=@vW M _ Xp [.tmp 4,.tmp 5] [a0,a1] (by kernel_rfl) H Q
def qtc(M:ao)(c:Ctx):=(cL M c).2.2.2.2.2.1
def qtb:=@vW M _ Qu [.tmp 6] [a0,a1,a2] (by kernel_rfl) H Q
def qxa(M:ao)(c:Ctx):=(cL M c).2.2.2.2.2.2.1
def qw9:=@vW M _ I7 [.tmp 3] [a0,a1] (by kernel_rfl) H Q
def qo5(M:ao)(c:Ctx):=(cL M c).2.2.2.2.2.2.2
def qo4:=@vW M _ YB [.tmp 6] [a0,a1,a2] (by kernel_rfl) H Q
abbrev qh8:Nat:=190
abbrev Ys:Nat:=105
abbrev Sq:Nat:=139
abbrev Q9:Nat:=140
abbrev Um:Nat:=141
abbrev Tv:Nat:=142
abbrev NU:Nat:=138
abbrev MO:Nat:=169
abbrev X1:Nat:=170
abbrev yZ:Nat:=42
abbrev jr:Nat:=111
abbrev AO:Nat:=100
abbrev jq:Nat:=0
abbrev Zv:ua:=[(105,⟨[0,1,2,3,4,5,6,7,8,9,10,11,12,13,14,49],B2,[0,2,10,14,18,22,129,38,50,62,74,86,98,110,122]⟩,[(7,[0,2,4,8,10,12,16,18,20,6,13,21,14,21,22,24,26,28])]),(139,⟨[0,1,2,4,5],B2,[0]⟩,[]),(140,⟨[0,1,2,4,5],B2,[0,2,10,18]⟩,[]),(141,⟨[0,1,3,5],B2,[0]⟩,[]),(142,⟨[0,1,3],B2,[0]⟩,[]),(170,⟨[0,1,4],B2,[0]⟩,[]),(190,⟨[0,1,4],B2,[0]⟩,[])]
def ZG(n:Nat):Kp:=jX n Zv
def XL(n k:Nat):Kp×aj:=(ZG n,part (bm Tryz.prog n) k)
def q2u(n k:Nat):XL n k=(ZG n,part (bm Tryz.prog n) k):=rfl
def KW:=@kV M _ XL ZG q2u
attribute [local irreducible] XL
def L3(M:ao)(c:Ctx):=by
 have h:=oX q2u M c Zv (by kernel_rfl)
 conv at h=>arg 5;reduce
 delta PR RL nI gO nR gJ oP jC mQ fM gM gh oI nZ qH rW sj Zv at h
 simp only[AA,Ak,Ar,Ap,A7,Qw]at h;exact h
def af4(M:ao)(c:Ctx):=(L3 M c).1
def Fc:=@KW M _ Ys [.dg 5 6] [a0,a1,a2] (by kernel_rfl) H Q
def Vm:bT:=funcAt Tryz.prog NU
def pf:Kp:=⟨[0,1,2,3,4,5,6,19,20],B2,[0,4,9,15,26,27]⟩
def xZ(k:Nat):Kp×aj:=(pf,part Vm.body k)
def xe5(M:ao)(c:Ctx):(WE M c (xZ 0) λ Q E D H=>Lz E 0 λ g f=>A3 g AO (AV.cells f) H λ g b H1=>Fl g 0 b H1 λ g h=>C3 M g (.func MO) [h] H1 λ g a o=>B3 g ((Op.extract 0) [a]) λ g d=>B3 g ((Op.extract 1) [a]) λ g e=>W M c (xZ 4) g Q ((4,e)::(3,d)::(2,(.bool B2))::(1,b)::E) D o) /\
 (WE M c (xZ 4) λ Q E D H=>Lz E 1 λ g a=>Fl g 1 a H λ g b=>Fl g 2 a H λ g d=>Fl g 3 a H λ g e=>B3 g ((Op.build [(.int .i64 0),(.int .i64 0),(.int .i64 0)] [(0,1),(1,1),(2,1)]) [b,d,e]) λ g f=>dm (W M c (xZ 9)) (eY 0 (fj (W M c (xZ 27)) Q)) ((20,(.int .i64 0))::(19,f)::E) D H) /\
 (WE M c (xZ 27) λ Q E D H=>Lz E 4 λ g a=>qM g Q .ret ((2,a)::E) D H) /\
 (WE M c (xZ 9) λ Q E D H=>Lz E 20 λ g a=>Cb g .lss a (.int .i64 3) (λ g=>Gt g M c (xZ 15) Q E D H) (λ g=>qM g (fj (W M c (xZ 15)) Q) (.exit 0) E D H)) /\
 (WE M c (xZ 15) λ Q E D H=>Lz E 20 λ g b=>Ly g E 19 λ g j=>B3 g ((Op.bD 3 1 B5) [j,b]) λ g a=>Ly g E 3 λ g r=>B3 g (Op.bP [(.str [65,66,67]),b]) λ g l=>C3 M g (.func X1) [r,l] H λ g m H1=>Bn g .geq m (.int .i64 0) λ g e=>JN (λ(k:Bool->AV->AV->AV->ar->Prop)=>B3 g (cQ B4 (B1 e)) λ g w=>xI g w (λ g=>Bn g .lss a (.int .i64 0) λ g i=>k g i i a H1) (λ g=>k g uu uu uu H1)) (λ g d _ _ o=>JN (λ(k:Bool->AV->AV->ar->Prop)=>B3 g (cQ B2 (B1 d)) λ g w=>xI g w (λ g=>Bn g .geq a (.int .i64 8) λ g n=>k g n a o) (λ g=>k g uu uu o)) (λ g f _ s=>JN (λ(k:Bool->AV->ar->Prop)=>B3 g (cQ B4 (B1 e)) λ g w=>xI g w (λ g=>B3 g (Op.pick [d,(.bool B4),f]) λ g p=>k g p s) (λ g=>k g uu s)) (λ g h t=>B3 g (Op.pick [e,h,(.bool B2)]) λ g q=>nC g q (λ g=>qM g (eY 1 (fj (W M c (xZ 26)) Q)) .ret ((2,(.bool B2))::(6,a)::(5,b)::E) D t) (λ g=>qM g (eY 1 (fj (W M c (xZ 26)) Q)) .normal ((6,a)::(5,b)::E) D t))))) /\
 (WE M c (xZ 26) λ Q E D H=>Lz E 20 λ g a=>Bn g .add a (.int .i64 1) λ g b=>qM g Q .normal ((20,b)::E) D H):=by(repeat' apply Hu)<;>(intro _ _ _ _;refine yW ?_;kernel_rfl)
def xe3:(aY Tryz.prog).func NU=B1 Vm/\Vm.results=[.tmp 2]:=XO (by kernel_rfl)
def xe4(h:W M ⟨B5,NU⟩ (xZ 0) B4 (eU M [.tmp 2] Q) [(0,a0)] [] H):Dq M NU [a0] H Q:=xX (by decide) xe3 (ks:=pf) (by kernel_rfl) h
def xit(M:ao)(c:Ctx):=(L3 M c).2.1
def xis:=@KW M _ Sq [.dg 5 4] [a0,a1,a2] (by kernel_rfl) H Q
def xiv(M:ao)(c:Ctx):=(L3 M c).2.2.1
def xiu:=@KW M _ Q9 [.dg 5 4] [a0,a1,a2] (by kernel_rfl) H Q
def xix(M:ao)(c:Ctx):=(L3 M c).2.2.2.1
def xiw:=@KW M _ Um [.dg 5 3] [a0,a1] (by kernel_rfl) H Q
def xiz(M:ao)(c:Ctx):=(L3 M c).2.2.2.2.1
def xiy:=@KW M _ Tv [.tmp 3] [a0,a1] (by kernel_rfl) H Q
def ZR:bT:=funcAt Tryz.prog MO
def qp:Kp:=⟨[0,2,3],B2,[0,2,10]⟩
def MG(k:Nat):Kp×aj:=(qp,part ZR.body k)
def xe8(M:ao)(c:Ctx):(WE M c (MG 0) λ Q E D H=>W M c (MG 2) B4 Q ((3,(.bool B2))::(2,(.str []))::E) D H) /\
 (WE M c (MG 2) λ Q E D H=>Lz E 0 λ g a=>Bn g .lss a (.int .i64 1) λ g d=>JN (λ(k:Bool->AV->AV->ar->Prop)=>B3 g (cQ B2 (B1 d)) λ g w=>xI g w (λ g=>Bn g .geq a (.int .i64 19) λ g e=>k g e a H) (λ g=>k g uu uu H)) (λ g b _ H1=>B3 g (Op.pick [d,(.bool B4),b]) λ g f=>nC g f (λ g=>qM g (fj (W M c (MG 10)) Q) .ret ((3,(.bool B2))::(2,(.str []))::E) D H1) (λ g=>Gt g M c (MG 10) Q E D H1))) /\
 (WE M c (MG 10) λ Q E D H=>Lz E 0 λ g d=>B3 g ((Op.bh 19 2) [(.ptr jq 0),d]) λ g a=>Fl g 1 a H λ g b=>qM g Q .ret ((3,(.bool B4))::(2,b)::E) D H):=by(repeat' apply Hu)<;>(intro _ _ _ _;refine yW ?_;kernel_rfl)
def xe6:(aY Tryz.prog).func MO=B1 ZR/\ZR.results=[.tmp 2,.tmp 3]:=XO (by kernel_rfl)
def xe7(h:W M ⟨B5,MO⟩ (MG 0) B4 (eU M [.tmp 2,.tmp 3] Q) [(0,a0)] [] H):Dq M MO [a0] H Q:=xX (by decide) xe6 (ks:=qp) (by kernel_rfl) h
def quy(M:ao)(c:Ctx):=(L3 M c).2.2.2.2.2.1
def qux:=@KW M _ X1 [.tmp 4] [a0,a1] (by kernel_rfl) H Q
def qdt(M:ao)(c:Ctx):=(L3 M c).2.2.2.2.2.2
def qh9:=@KW M _ qh8 [.tmp 4] [a0,a1] (by kernel_rfl) H Q
abbrev R_:Nat:=43
abbrev i_:Nat:=157
abbrev _e:Nat:=124
abbrev qs7:Nat:=103
abbrev qlg:Nat:=73
abbrev qpo:Nat:=111
abbrev Xb:Nat:=107
abbrev qmf:Nat:=101
abbrev _V:Nat:=56
abbrev T_:Nat:=143
abbrev q7u:Nat:=32
abbrev IZ:Nat:=147
abbrev OT:Nat:=144
abbrev YH:ua:=[(32,⟨[0],B2,[0]⟩,[]),(107,⟨[0,1,2,6,7],B2,[0,4,10]⟩,[]),(43,⟨[0,2,8],B2,[0,2,10]⟩,[]),(103,⟨[0,2],B2,[0,2,10]⟩,[]),(124,⟨[0,1,4],B2,[0,2,10,18]⟩,[]),(111,⟨[0,2,3],B2,[0,2,10]⟩,[]),(73,⟨[0,2,3],B2,[0,4,10]⟩,[]),(157,⟨[0,2,3],B2,[0,4,10]⟩,[]),(143,⟨[0,1,4],B2,[0,2,10,18]⟩,[]),(56,⟨[0,2],B2,[0]⟩,[]),(101,⟨[0,2],B2,[0,2,10,18]⟩,[])]
def XA(n:Nat):Kp:=jX n YH
def Yh(n k:Nat):Kp×aj:=(XA n,part (bm Tryz.prog n) k)
def q23(n k:Nat):Yh n k=(XA n,part (bm Tryz.prog n) k):=rfl
def EW:=@kV M _ Yh XA q23
attribute [local irreducible] Yh
def EM(M:ao)(c:Ctx):=by
 have h:=oX q23 M c YH (by kernel_rfl)
 conv at h=>arg 5;reduce
 delta PR RL nI gO nR gJ oP mQ fM gM gh oI nZ rW sj YH at h
 simp only[AA,Ak,Ar,Ap,A7,Qw]at h;exact h
def xjn(M:ao)(c:Ctx):=(EM M c).1
def xjm:=@EW M _ q7u [.tmp 0] [] (by kernel_rfl) H Q
def qrr(M:ao)(c:Ctx):=(EM M c).2.1
def q55:=@EW M _ Xb [.tmp 6] [a0,a1,a2] (by kernel_rfl) H Q
def q54(M:ao)(c:Ctx):=(EM M c).2.2.1
def q53:=@EW M _ R_ [.dg 8 2] [a0] (by kernel_rfl) H Q
def q7m(M:ao)(c:Ctx):=(EM M c).2.2.2.1
def q7l:=@EW M _ qs7 [.tmp 2] [a0] (by kernel_rfl) H Q
def qp1(M:ao)(c:Ctx):=(EM M c).2.2.2.2.1
def q00:=@EW M _ _e [.tmp 4] [a0,a1] (by kernel_rfl) H Q
def q02(M:ao)(c:Ctx):=(EM M c).2.2.2.2.2.1
def q01:=@EW M _ qpo [.tmp 2] [a0] (by kernel_rfl) H Q
def TR(M:ao)(c:Ctx):=(EM M c).2.2.2.2.2.2.1
def que:=@EW M _ qlg [.tmp 2] [a0] (by kernel_rfl) H Q
def qp0(M:ao)(c:Ctx):=(EM M c).2.2.2.2.2.2.2.1
def q0z:=@EW M _ i_ [.tmp 2] [a0] (by kernel_rfl) H Q
def Zz(M:ao)(c:Ctx):=(EM M c).2.2.2.2.2.2.2.2.1
def qyj:=@EW M _ T_ [.tmp 4] [a0,a1] (by kernel_rfl) H Q
def q04(M:ao)(c:Ctx):=(EM M c).2.2.2.2.2.2.2.2.2.1
def q03:=@EW M _ _V [.tmp 2] [a0] (by kernel_rfl) H Q
def L_(M:ao)(c:Ctx):=(EM M c).2.2.2.2.2.2.2.2.2.2
def qwh:=@EW M _ qmf [.tmp 2] [a0] (by kernel_rfl) H Q
abbrev qjd:Nat:=74
abbrev qia:Nat:=135
abbrev Y':Nat:=112
abbrev v8:Nat:=59
abbrev qkc:Nat:=55
abbrev qjf:Nat:=156
abbrev qlb:Nat:=100
abbrev KD:Nat:=102
abbrev qkd:Nat:=71
abbrev qke:Nat:=136
abbrev Oi:Nat:=166
abbrev t6:Nat:=30
abbrev sg:Nat:=48
abbrev sR:Nat:=138
abbrev I8:Nat:=26
abbrev vj:Nat:=142
abbrev Rt:Nat:=101
abbrev XS:ua:=[(30,⟨[0,1,2,3,4,5],B2,[0,4,12]⟩,[]),(112,⟨[0,2,3],B2,[0,2,10,18]⟩,[]),(74,⟨[0,1,4,5],B2,[0,2,10,18,26,28,39]⟩,[]),(156,⟨[0,2],B2,[0,2,10,18]⟩,[]),(55,⟨[0,2],B2,[0,2,10]⟩,[]),(100,⟨[0,2,3,5,7,8],B2,[0,4,21,9,15,20]⟩,[]),(135,⟨[0,2,5],B2,[0,2,10]⟩,[]),(59,⟨[0,2],B2,[0]⟩,[]),(48,⟨[0,1,2,3,4,5,6,14,15,16],B2,[0,4,27,9,15,26]⟩,[]),(71,⟨[0,2],B2,[0]⟩,[]),(102,⟨[0,1,2,4,7,8],B2,[0]⟩,[]),(300102,⟨[0,1,2,4,7,8],B2,[0]⟩,[]),(200102,⟨[0,1,2,4,7,8],B2,[0]⟩,[]),(136,⟨[0,1,2,3,4],B2,[0]⟩,[]),(166,⟨[0,1,2,4],B2,[0,4,10,17]⟩,[])]
def Y1(n:Nat):Kp:=jX n XS
def Ra(n k:Nat):Kp×aj:=(Y1 n,part (bm Tryz.prog n) k)
def q2y(n k:Nat):Ra n k=(Y1 n,part (bm Tryz.prog n) k):=rfl
def zQ:=@kV M _ Ra Y1 q2y
attribute [local irreducible] Ra
def xP(M:ao)(c:Ctx):=by
 have h:=oX q2y M c XS (by kernel_rfl)
 conv at h=>arg 5;reduce
 delta PR RL nI gO nR gJ oP mQ fM gM gh oI ry sr nZ qH rW sj XS at h
 simp only[AA,Ak,Ar,Ap,A7,Qw]at h;exact h
def cU(M:ao)(c:Ctx):=(xP M c).2.2.2.2.2.2.2.2
def Xi(M:ao)(c:Ctx):=(xP M c).1
def xfa:=@zQ M _ t6 [.tmp 2,.tmp 3] [a0] (by kernel_rfl) H Q
def qjo(M:ao)(c:Ctx):=(xP M c).2.1
def qrj:=@zQ M _ Y' [.tmp 2,.tmp 3] [a0] (by kernel_rfl) H Q
def j6(M:ao)(c:Ctx):=(xP M c).2.2.1
def qri:=@zQ M _ qjd [.tmp 4,.tmp 5] [a0,a1] (by kernel_rfl) H Q
def nu(M:ao)(c:Ctx):=(xP M c).2.2.2.1
def qrk:=@zQ M _ qjf [.tmp 2] [a0] (by kernel_rfl) H Q
def qsq(M:ao)(c:Ctx):=(xP M c).2.2.2.2.1
def qsp:=@zQ M _ qkc [.tmp 2] [a0] (by kernel_rfl) H Q
def Xw(M:ao)(c:Ctx):=(xP M c).2.2.2.2.2.1
def qt7:=@zQ M _ qlb [.tmp 2] [a0] (by kernel_rfl) H Q
def qp8(M:ao)(c:Ctx):=(xP M c).2.2.2.2.2.2.1
def qp7:=@zQ M _ qia [.dg 5 2] [a0] (by kernel_rfl) H Q
def μ(M:ao)(c:Ctx):=(xP M c).2.2.2.2.2.2.2.1
def qso:=@zQ M _ v8 [.tmp 2] [a0] (by kernel_rfl) H Q
def R5(M:ao)(c:Ctx):=(cU M c).1
def q44:=@zQ M _ sg [.dg 5 2,.tmp 3] [a0] (by kernel_rfl) H Q
def qst(M:ao)(c:Ctx):=(cU M c).2.1
def qss:=@zQ M _ qkd [.tmp 2] [a0] (by kernel_rfl) H Q
def S6:bT:=funcAt Tryz.prog KD
def O8:dI:=gK S6 0
abbrev hH(k:Nat):Kp×aj:=Ra 300102 k
abbrev W4(k:Nat):Kp×aj:=Ra 200102 k
def e_:nth S6.loops 0=B1 O8/\O8.params=[8]:=⟨by kernel_rfl,by kernel_rfl⟩
def qp9:(hH 0).1.ai=[0,1,2,4,7,8]/\(hH 0).2=O8.assign:=⟨by kernel_rfl,by kernel_rfl⟩
def qqa:(W4 0).1.ai=[0,1,2,4,7,8]/\(W4 0).2=O8.body:=⟨by kernel_rfl,by kernel_rfl⟩
def qrl:M.func KD=B1 S6:=MK.at (by decide) (by kernel_rfl)
def qkj(M:ao)(c:Ctx):=Hu (cU M c).2.2.1 (Hu (cU M c).2.2.2.1 ((cU M c).2.2.2.2.1))
def qsr:=@zQ M _ KD [] [a0,a1] (by kernel_rfl) H Q
def qsv(M:ao)(c:Ctx):=(cU M c).2.2.2.2.2.1
def qsu:=@zQ M _ qke [.tmp 4] [a0,a1] (by kernel_rfl) H Q
def Qo(M:ao)(c:Ctx):=(cU M c).2.2.2.2.2.2
def qqb:=@zQ M _ Oi [] [a0,a1,a2] (by kernel_rfl) H Q
abbrev qql:Nat:=152
abbrev qs2:Nat:=172
abbrev _X:Nat:=197
abbrev vo:Nat:=209
abbrev _K:Nat:=196
abbrev P_:Nat:=175
abbrev _n:Nat:=176
abbrev C':Nat:=178
abbrev xbm:Nat:=49
abbrev qs5:Nat:=213
abbrev G':Nat:=179
abbrev u4:Nat:=191
abbrev _T:Nat:=199
abbrev P9:Nat:=200
abbrev qqs:Nat:=217
abbrev vr:Nat:=219
abbrev nS:Nat:=112
abbrev wx:Nat:=227
abbrev TD:Nat:=173
abbrev Jq:Nat:=171
abbrev Xg:ua:=[(49,⟨[0],B2,[0]⟩,[]),(197,⟨[0,1,2,6,8],B2,[0,2,10,18,28]⟩,[]),(175,⟨[0,1,2,6,7,8],B2,[0,2,10,18,30]⟩,[]),(196,⟨[0,1,4,5],B2,[0,2,10]⟩,[]),(172,⟨[0,1,4,5],B2,[0,2,10]⟩,[]),(209,⟨[0,2],B2,[0,2,10]⟩,[]),(176,⟨[0,2],B2,[0,2,10]⟩,[]),(152,⟨[0,2],B2,[0,2,10]⟩,[]),(178,⟨[0,2],B2,[0]⟩,[]),(191,⟨[0,1,4,5,6,7],B2,[0,4,12]⟩,[]),(199,⟨[0,1,2,6],B2,[0,2,10]⟩,[]),(200,⟨[0,2,3,5,7,8,9],B2,[0,4,9]⟩,[]),(300200,⟨[0,2,3,5,7,8,9],B2,[0]⟩,[]),(200200,⟨[0,2,3,5,7,8,9],B2,[0]⟩,[]),(179,⟨[0],B2,[0]⟩,[]),(213,⟨[0,2],B2,[0]⟩,[]),(217,⟨[0,1,2],B2,[0]⟩,[]),(219,⟨[0,1,3,4,5,6,7],B2,[0,4,10,19]⟩,[])]
def ZL(n:Nat):Kp:=jX n Xg
def PV(n k:Nat):Kp×aj:=(ZL n,part (bm Tryz.prog n) k)
def f_(n k:Nat):PV n k=(ZL n,part (bm Tryz.prog n) k):=rfl
def vJ:=@kV M _ PV ZL f_
attribute [local irreducible] PV
def sC(M:ao)(c:Ctx):=by
 have h:=oX f_ M c Xg (by kernel_rfl)
 conv at h=>arg 5;reduce
 delta PR RL nI gO nR gJ oP mQ fM gM gh oI ry sr nZ qH rW sj Xg at h
 simp only[AA,Ak,Ar,Ap,A7,Qw]at h;exact h
def cY(M:ao)(c:Ctx):=(sC M c).2.2.2.2.2.2.2.2
def db(M:ao)(c:Ctx):=(cY M c).2.2.2.2.2.2.2.2
def xmc(M:ao)(c:Ctx):=(sC M c).1
def xmb:=@vJ M _ xbm [.tmp 0] [] (by kernel_rfl) H Q
def _C(M:ao)(c:Ctx):=(sC M c).2.1
def q7c:=@vJ M _ _X [.tmp 6] [a0,a1,a2] (by kernel_rfl) H Q
def H_(M:ao)(c:Ctx):=(sC M c).2.2.1
def q5a:=@vJ M _ P_ [.tmp 6] [a0,a1,a2] (by kernel_rfl) H Q
def xab(M:ao)(c:Ctx):=(sC M c).2.2.2.1
def xaa:=@vJ M _ _K [.tmp 4,.tmp 5] [a0,a1] (by kernel_rfl) H Q
def q7b(M:ao)(c:Ctx):=(sC M c).2.2.2.2.1
def q7a:=@vJ M _ qs2 [.tmp 4,.tmp 5] [a0,a1] (by kernel_rfl) H Q
def q49(M:ao)(c:Ctx):=(sC M c).2.2.2.2.2.1
def q48:=@vJ M _ vo [.tmp 2] [a0] (by kernel_rfl) H Q
def q0e(M:ao)(c:Ctx):=(sC M c).2.2.2.2.2.2.1
def q0d:=@vJ M _ _n [.tmp 2] [a0] (by kernel_rfl) H Q
def q47(M:ao)(c:Ctx):=(sC M c).2.2.2.2.2.2.2.1
def q46:=@vJ M _ qql [.tmp 2] [a0] (by kernel_rfl) H Q
def q7e(M:ao)(c:Ctx):=(cY M c).1
def q7d:=@vJ M _ C' [.tmp 2] [a0] (by kernel_rfl) H Q
def qro(M:ao)(c:Ctx):=(cY M c).2.1
def q5b:=@vJ M _ u4 [.tmp 4,.tmp 5] [a0,a1] (by kernel_rfl) H Q
def qtm(M:ao)(c:Ctx):=(cY M c).2.2.1
def q7h:=@vJ M _ _T [.tmp 6] [a0,a1,a2] (by kernel_rfl) H Q
def Uq:bT:=funcAt Tryz.prog P9
def Pu:dI:=gK Uq 0
abbrev ZS(k:Nat):Kp×aj:=PV 300200 k
abbrev Y6(k:Nat):Kp×aj:=PV 200200 k
def w_:nth Uq.loops 0=B1 Pu/\Pu.params=[8,9]:=⟨by kernel_rfl,by kernel_rfl⟩
def xcv:(ZS 0).1.ai=[0,2,3,5,7,8,9]/\(ZS 0).2=Pu.assign:=⟨by kernel_rfl,by kernel_rfl⟩
def xcw:(Y6 0).1.ai=[0,2,3,5,7,8,9]/\(Y6 0).2=Pu.body:=⟨by kernel_rfl,by kernel_rfl⟩
def xfc:M.func P9=B1 Uq:=MK.at (by decide) (by kernel_rfl)
def YN(M:ao)(c:Ctx):=Hu (cY M c).2.2.2.1.1 (Hu (cY M c).2.2.2.2.1 (Hu (cY M c).2.2.2.2.2.1 (Hu (cY M c).2.2.2.1.2.1 ((cY M c).2.2.2.1.2.2))))
def xi5:=@vJ M _ P9 [.tmp 2] [a0] (by kernel_rfl) H Q
def q0g(M:ao)(c:Ctx):=(cY M c).2.2.2.2.2.2.1
def q0f:=@vJ M _ G' [] [a0] (by kernel_rfl) H Q
def q7g(M:ao)(c:Ctx):=(cY M c).2.2.2.2.2.2.2.1
def q7f:=@vJ M _ qs5 [.tmp 2] [a0] (by kernel_rfl) H Q
def qrt(M:ao)(c:Ctx):=(db M c).1
def qrs:=@vJ M _ qqs [.tmp 2] [a0] (by kernel_rfl) H Q
def Uf(M:ao)(c:Ctx):=(db M c).2
def qo1:=@vJ M _ vr [] [a0,a1] (by kernel_rfl) H Q
abbrev S_:Nat:=33
abbrev qni:Nat:=114
abbrev D_:Nat:=121
abbrev wz:Nat:=150
abbrev _5:Nat:=155
abbrev Θ:Nat:=119
abbrev D1:Nat:=144
abbrev qx:Nat:=117
abbrev qpt:Nat:=137
abbrev S1:Nat:=149
abbrev ω:Nat:=146
abbrev E1:Nat:=116
abbrev m_:Nat:=118
abbrev oM:Nat:=203
abbrev U':Nat:=202
abbrev UX:Nat:=215
abbrev Xh:Nat:=216
abbrev ZX:Nat:=185
abbrev _W:Nat:=182
abbrev PU:Nat:=205
abbrev qnm:Nat:=153
abbrev B_:Nat:=181
abbrev Λ:Nat:=183
abbrev Uw:Nat:=189
abbrev υ:Nat:=173
abbrev uL:Nat:=192
abbrev F_:Nat:=193
abbrev X5:Nat:=195
abbrev UK:Nat:=168
abbrev Yq:Nat:=188
abbrev W_:Nat:=180
abbrev Pw:Nat:=204
abbrev lL:Nat:=151
abbrev TB:Nat:=198
abbrev _l:Nat:=167
abbrev qmi:Nat:=184
abbrev TA:Nat:=206
abbrev δ:Nat:=214
abbrev O_:Nat:=218
abbrev Vj:Nat:=177
abbrev R2:Nat:=201
abbrev Γ:Nat:=171
abbrev qkf:Nat:=194
abbrev qib:Nat:=208
abbrev Us:Nat:=210
abbrev Tw:Nat:=211
abbrev SE:Nat:=212
abbrev WS:Nat:=154
abbrev II:Nat:=1
abbrev Mf:Nat:=270
abbrev UD:Nat:=271
abbrev Di:Nat:=151
abbrev LB:Nat:=107
abbrev Dr:Nat:=154
abbrev Vc:Nat:=41
abbrev WM:ua:=[(33,⟨[0],B2,[0]⟩,[]),(114,⟨[0,2],B2,[0,2,10,18]⟩,[]),(144,⟨[0,1,4,5,6,7],B2,[0,2,12,24]⟩,[]),(149,⟨[0,1,2,6,7],B2,[0,4,12]⟩,[]),(150,⟨[0,2,3],B2,[0,2,12,14,24]⟩,[]),(137,⟨[0,2,3],B2,[0,4,12]⟩,[]),(116,⟨[0,2,3,4],B2,[0,2,10]⟩,[(3,[0,2,4,6,8,10,12,14,16,18,15,17,20])]),(119,⟨[0,1,2,6,7],B2,[0,2,10,12,20]⟩,[]),(121,⟨[0,2],B2,[0]⟩,[]),(146,⟨[0,2],B2,[0,2,10]⟩,[]),(155,⟨[0,2],B2,[0,2,10]⟩,[]),(117,⟨[0,2],B2,[0,2,10]⟩,[]),(118,⟨[0,2],B2,[0]⟩,[]),(151,⟨[0,2],B2,[0]⟩,[]),(153,⟨[0,1,2,3,4,5],B2,[0]⟩,[]),(154,⟨[0],B2,[0]⟩,[]),(171,⟨[0,1,4,5],B2,[0,4,12]⟩,[]),(173,⟨[0,1,2,3],B2,[0]⟩,[]),(168,⟨[0,1,2,3],B2,[0]⟩,[]),(167,⟨[0,2],B2,[0,2,10,18]⟩,[]),(177,⟨[0,1],B2,[0]⟩,[]),(180,⟨[0,1,2,5],B2,[0]⟩,[]),(181,⟨[0,1,2,3],B2,[0]⟩,[]),(184,⟨[0,1,2,3],B2,[0]⟩,[]),(185,⟨[0,1],B2,[0]⟩,[]),(192,⟨[0,1,2,3],B2,[0]⟩,[]),(188,⟨[0,1],B2,[0]⟩,[(0,[0,2,4,6,8,10,3,5,12,14,16])]),(182,⟨[0,1,2,3,4,9],B2,[0]⟩,[]),(201,⟨[0,1],B2,[0,8]⟩,[(4,[0,2,4,6,8,10,1,12])]),(203,⟨[0,1,2,4],B2,[0]⟩,[]),(204,⟨[0,1,2],B2,[0]⟩,[]),(183,⟨[0,1,2,3],B2,[0,8]⟩,[]),(206,⟨[0,1,2],B2,[0,8]⟩,[]),(189,⟨[0],B2,[0]⟩,[]),(198,⟨[0,1],B2,[0]⟩,[]),(193,⟨[0,1,2,3,5,6],B2,[0,8,10,18]⟩,[]),(205,⟨[0,1,2],B2,[0]⟩,[]),(194,⟨[0,1,2,3],B2,[0]⟩,[]),(202,⟨[0,1,2,3],B2,[0,2,10]⟩,[]),(195,⟨[0,1],B2,[0]⟩,[]),(208,⟨[0,1,2,3,4,5,6,7,8],B2,[0]⟩,[]),(214,⟨[0,1,2,3,7],B2,[0]⟩,[]),(215,⟨[0,1],B2,[0]⟩,[]),(216,⟨[0],B2,[0]⟩,[]),(210,⟨[0,1,2,3,4],B2,[0,8]⟩,[]),(211,⟨[0,1,2,3],B2,[0,8]⟩,[]),(212,⟨[0,1,2,3,4],B2,[0,8]⟩,[]),(218,⟨[0,1,2],B2,[0]⟩,[])]
def Vo(n:Nat):Kp:=jX n WM
def Z7(n k:Nat):Kp×aj:=(Vo n,part (bm Tryz.prog n) k)
def q21(n k:Nat):Z7 n k=(Vo n,part (bm Tryz.prog n) k):=rfl
def ji:=@kV M _ Z7 Vo q21
attribute [local irreducible] Z7
def jh(M:ao)(c:Ctx):=by
 have h:=oX q21 M c WM (by kernel_rfl)
 conv at h=>arg 5;reduce
 delta PR RL nI gO nR gJ oP jC mQ fM gM gh oI nZ qH rW sj WM at h
 simp only[AA,Ak,Ar,Ap,A7,Qw]at h;exact h
def dN(M:ao)(c:Ctx):=(jh M c).2.2.2.2.2.2.2.2
def eb(M:ao)(c:Ctx):=(dN M c).2.2.2.2.2.2.2.2
def ed(M:ao)(c:Ctx):=(eb M c).2.2.2.2.2.2.2.2
def ee(M:ao)(c:Ctx):=(ed M c).2.2.2.2.2.2.2.2
def ef(M:ao)(c:Ctx):=(ee M c).2.2.2.2.2.2.2.2
def xju(M:ao)(c:Ctx):=(jh M c).1
def xjt:=@ji M _ S_ [.tmp 0] [] (by kernel_rfl) H Q
def Zm(M:ao)(c:Ctx):=(jh M c).2.1
def qyl:=@ji M _ qni [.tmp 2] [a0] (by kernel_rfl) H Q
def Uc(M:ao)(c:Ctx):=(jh M c).2.2.1
def q09:=@ji M _ D1 [.tmp 4] [a0,a1] (by kernel_rfl) H Q
def Sd(M:ao)(c:Ctx):=(jh M c).2.2.2.1
def qyo:=@ji M _ S1 [.tmp 6] [a0,a1,a2] (by kernel_rfl) H Q
def YT(M:ao)(c:Ctx):=(jh M c).2.2.2.2.1
def qwl:=@ji M _ wz [.tmp 2] [a0] (by kernel_rfl) H Q
def Wv(M:ao)(c:Ctx):=(jh M c).2.2.2.2.2.1
def q1a:=@ji M _ qpt [.tmp 2] [a0] (by kernel_rfl) H Q
def q1c(M:ao)(c:Ctx):=(jh M c).2.2.2.2.2.2.1
def q1b:=@ji M _ E1 [.dg 4 2,.tmp 3] [a0] (by kernel_rfl) H Q
def Z'(M:ao)(c:Ctx):=(jh M c).2.2.2.2.2.2.2.1
def q08:=@ji M _ Θ [.tmp 6] [a0,a1,a2] (by kernel_rfl) H Q
def q07(M:ao)(c:Ctx):=(dN M c).1
def q06:=@ji M _ D_ [.tmp 2] [a0] (by kernel_rfl) H Q
def qyq(M:ao)(c:Ctx):=(dN M c).2.1
def qyp:=@ji M _ ω [.tmp 2] [a0] (by kernel_rfl) H Q
def qyn(M:ao)(c:Ctx):=(dN M c).2.2.1
def qym:=@ji M _ _5 [.tmp 2] [a0] (by kernel_rfl) H Q
def qwn(M:ao)(c:Ctx):=(dN M c).2.2.2.1
def qwm:=@ji M _ qx [.tmp 2] [a0] (by kernel_rfl) H Q
def qum(M:ao)(c:Ctx):=(dN M c).2.2.2.2.1
def qul:=@ji M _ m_ [.tmp 2] [a0] (by kernel_rfl) H Q
def q1j(M:ao)(c:Ctx):=(dN M c).2.2.2.2.2.1
def q1i:=@ji M _ lL [.tmp 2] [a0] (by kernel_rfl) H Q
def qyw(M:ao)(c:Ctx):=(dN M c).2.2.2.2.2.2.1
def qyv:=@ji M _ qnm [] [a0,a1,a2] (by kernel_rfl) H Q
def q1n(M:ao)(c:Ctx):=(dN M c).2.2.2.2.2.2.2.1
def q1m:=@ji M _ WS [] [a0] (by kernel_rfl) H Q
def U5(M:ao)(c:Ctx):=(eb M c).1
def quw:=@ji M _ Γ [.tmp 4] [a0,a1] (by kernel_rfl) H Q
def qyy(M:ao)(c:Ctx):=(eb M c).2.1
def qyx:=@ji M _ υ [] [a0,a1] (by kernel_rfl) H Q
def qy0(M:ao)(c:Ctx):=(eb M c).2.2.1
def qyz:=@ji M _ UK [] [a0,a1] (by kernel_rfl) H Q
def qy4(M:ao)(c:Ctx):=(eb M c).2.2.2.1
def qy3:=@ji M _ _l [.tmp 2] [a0] (by kernel_rfl) H Q
def q1l(M:ao)(c:Ctx):=(eb M c).2.2.2.2.1
def q1k:=@ji M _ Vj [] [a0] (by kernel_rfl) H Q
def q1h(M:ao)(c:Ctx):=(eb M c).2.2.2.2.2.1
def q1g:=@ji M _ W_ [] [a0,a1,a2] (by kernel_rfl) H Q
def qup(M:ao)(c:Ctx):=(eb M c).2.2.2.2.2.2.1
def qun:=@ji M _ B_ [] [a0,a1,a2,a3] (by kernel_rfl) H Q
def qwv(M:ao)(c:Ctx):=(eb M c).2.2.2.2.2.2.2.1
def qwu:=@ji M _ qmi [] [a0,a1] (by kernel_rfl) H Q
def qys(M:ao)(c:Ctx):=(ed M c).1
def qyr:=@ji M _ ZX [] [a0,a1] (by kernel_rfl) H Q
def qur(M:ao)(c:Ctx):=(ed M c).2.1
def quq:=@ji M _ uL [] [a0,a1,a2] (by kernel_rfl) H Q
def qut(M:ao)(c:Ctx):=(ed M c).2.2.1
def qus:=@ji M _ Yq [] [a0,a1] (by kernel_rfl) H Q
def q6c(M:ao)(c:Ctx):=(ed M c).2.2.2.1
def q6b:=@ji M _ _W [] [a0,a1,a2,a3,a4] (by kernel_rfl) H Q
def uF(M:ao)(c:Ctx):=(ed M c).2.2.2.2.1
def qww:=@ji M _ R2 [] [a0,a1] (by kernel_rfl) H Q
def q6a(M:ao)(c:Ctx):=(ed M c).2.2.2.2.2.1
def q59:=@ji M _ oM [] [a0,a1,a2] (by kernel_rfl) H Q
def qwt(M:ao)(c:Ctx):=(ed M c).2.2.2.2.2.2.1
def qws:=@ji M _ Pw [] [a0,a1,a2] (by kernel_rfl) H Q
def qjs(M:ao)(c:Ctx):=(ed M c).2.2.2.2.2.2.2.1
def qrx:=@ji M _ Λ [] [a0,a1,a2,a3] (by kernel_rfl) H Q
def TX(M:ao)(c:Ctx):=(ee M c).1
def qkk:=@ji M _ TA [] [a0,a1,a2] (by kernel_rfl) H Q
def q1f(M:ao)(c:Ctx):=(ee M c).2.1
def q1e:=@ji M _ Uw [] [a0] (by kernel_rfl) H Q
def qy2(M:ao)(c:Ctx):=(ee M c).2.2.1
def qy1:=@ji M _ TB [] [a0,a1] (by kernel_rfl) H Q
def N8(M:ao)(c:Ctx):=(ee M c).2.2.2.1
def qry:=@ji M _ F_ [] [a0,a1,a2,a3] (by kernel_rfl) H Q
def qyu(M:ao)(c:Ctx):=(ee M c).2.2.2.2.1
def qyt:=@ji M _ PU [] [a0,a1,a2] (by kernel_rfl) H Q
def qsy(M:ao)(c:Ctx):=(ee M c).2.2.2.2.2.1
def qsx:=@ji M _ qkf [] [a0,a1] (by kernel_rfl) H Q
def qp4(M:ao)(c:Ctx):=(ee M c).2.2.2.2.2.2.1
def q1d:=@ji M _ U' [] [a0,a1] (by kernel_rfl) H Q
def qo7(M:ao)(c:Ctx):=(ee M c).2.2.2.2.2.2.2.1
def qo6:=@ji M _ X5 [] [a0,a1] (by kernel_rfl) H Q
def qqf(M:ao)(c:Ctx):=(ef M c).1
def qqe:=@ji M _ qib [] [a0,a1,a2] (by kernel_rfl) H Q
def qy6(M:ao)(c:Ctx):=(ef M c).2.1
def qy5:=@ji M _ δ [] [a0,a1,a2,a3] (by kernel_rfl) H Q
def qwp(M:ao)(c:Ctx):=(ef M c).2.2.1
def qwo:=@ji M _ UX [] [a0,a1] (by kernel_rfl) H Q
def qwr(M:ao)(c:Ctx):=(ef M c).2.2.2.1
def qwq:=@ji M _ Xh [] [a0] (by kernel_rfl) H Q
def C_(M:ao)(c:Ctx):=(ef M c).2.2.2.2.1
def qoa:=@ji M _ Us [] [a0,a1,a2,a3,a4] (by kernel_rfl) H Q
def W2(M:ao)(c:Ctx):=(ef M c).2.2.2.2.2.1
def qob:=@ji M _ Tw [] [a0,a1,a2,a3] (by kernel_rfl) H Q
def Y_(M:ao)(c:Ctx):=(ef M c).2.2.2.2.2.2.1
def qoc:=@ji M _ SE [] [a0,a1,a2,a3,a4] (by kernel_rfl) H Q
def quv(M:ao)(c:Ctx):=(ef M c).2.2.2.2.2.2.2
def quu:=@ji M _ O_ [] [a0,a1,a2] (by kernel_rfl) H Q
abbrev YZ:Nat:=60
abbrev Vv:Nat:=61
abbrev lx:Nat:=106
abbrev _Y:Nat:=82
abbrev T':Nat:=76
abbrev i':Nat:=83
abbrev qqh:Nat:=115
abbrev ο:Nat:=81
abbrev qjb:Nat:=120
abbrev M8:Nat:=79
abbrev Ξ:Nat:=122
abbrev He:Nat:=113
abbrev Zd:Nat:=108
abbrev VJ:Nat:=104
abbrev _j:Nat:=75
abbrev Φ:Nat:=147
abbrev Ny:Nat:=174
abbrev qna:Nat:=123
abbrev Zr:Nat:=77
abbrev XK:Nat:=145
abbrev P7:Nat:=109
abbrev _s:Nat:=78
abbrev qpf:Nat:=42
abbrev qnc:Nat:=80
abbrev qme:Nat:=148
abbrev Rm:Nat:=110
abbrev WB:Nat:=72
abbrev q7t:Nat:=18
abbrev _H:Nat:=31
abbrev j9:Nat:=55
abbrev Gv:Nat:=116
abbrev FK:Nat:=61
abbrev AE:Nat:=69
abbrev UP:ua:=[(18,⟨[0,1,2,3,6,8,9,10,11],B2,[0,4,12]⟩,[]),(61,⟨[0,2,3,4,5,6,7,11],B2,[0,11,16,30,43,21,35,48,57,64,69,79]⟩,[]),(25,⟨[0,2,8],B2,[0,2,10]⟩,[]),(41,⟨[0,2],B2,[0,2,10]⟩,[]),(31,⟨[0,2],B2,[0,2,10]⟩,[]),(75,⟨[0,2,3,4,5,6,54],B2,[0,4,16,8,39,22,14,45,30,55,63]⟩,[(6,[0,2,4,6,8,10,12,14,16,18,20,24,22,7,13,26,28,30])]),(76,⟨[0,20],B2,[0,4,19]⟩,[]),(77,⟨[0,1,4,5,6,7,8],B2,[0]⟩,[]),(78,⟨[0,2,3],B2,[0]⟩,[]),(79,⟨[0,2,4,5,6,7,8,18],B2,[0,1,5,7,9,26,21,32,36,38,44,50]⟩,[(12,[0,2,4,6,10,12,14,16,8,17,18,20,22])]),(80,⟨[0,1,2,6,7,8],B2,[0]⟩,[]),(81,⟨[0],B2,[0]⟩,[(2,[0,2,4,6,8,10,12,14,16,7,18,20])]),(82,⟨[0,2],B2,[0,14,4,12]⟩,[]),(83,⟨[0],B2,[0]⟩,[]),(42,⟨[0,2],B2,[0]⟩,[]),(104,⟨[0,6],B2,[0,15]⟩,[]),(106,⟨[0,1,4,5],B2,[0,2,10]⟩,[]),(108,⟨[0,1],B2,[0]⟩,[]),(109,⟨[0,1,2,3,4,7,8,9,14,47,48,49],B2,[0,2,30,11,25,19]⟩,[(5,[0,2,4,6,8,10,3,12,14,16]),(6,[0,2,4,6,8,10,12,1,3,14])]),(300109,⟨[0,1,2,3,4,7,8,9,14,47,48,49],B2,[0]⟩,[(5,[0,2,4,6,8,10,3,12,14,16]),(6,[0,2,4,6,8,10,12,1,3,14])]),(200109,⟨[0,1,2,3,4,7,8,9,14,47,48,49],B2,[0]⟩,[(5,[0,2,4,6,8,10,3,12,14,16]),(6,[0,2,4,6,8,10,12,1,3,14])]),(110,⟨[0,1,2,4,6,7,12,71,72,73],B2,[0,8,13,18,30,46,26,32,37,43]⟩,[]),(300110,⟨[0,1,2,4,6,7,12,71,72,73],B2,[0]⟩,[]),(200110,⟨[0,1,2,4,6,7,12,71,72,73],B2,[0]⟩,[]),(113,⟨[0],B2,[0,11]⟩,[]),(72,⟨[0,1,2,3,4,10],B2,[0,2,8]⟩,[(2,[0,2,4,6,8,10,12,14,16,20,22,24,26,30,18,7,27,28,7,32,34,36,38,40])]),(115,⟨[0,1,2,3,8,9,10,11,12],B2,[0]⟩,[]),(120,⟨[0],B2,[0,6]⟩,[]),(122,⟨[0],B2,[0,9]⟩,[(7,[0,2,4,6,8,10,12,14,16,18,9,20])]),(123,⟨[0],B2,[0]⟩,[]),(145,⟨[0,1,2,4,6,8],B2,[0,4,6,12]⟩,[]),(147,⟨[0,1,2,3,4],B2,[0]⟩,[]),(148,⟨[0,1,2,3,6],B2,[0]⟩,[]),(60,⟨[0,1],B2,[0]⟩,[]),(174,⟨[0,1,2,4,5,9,10,11],B2,[0,4,10,19]⟩,[])]
def Xq(n:Nat):Kp:=jX n UP
def IK(n k:Nat):Kp×aj:=(Xq n,part (bm Tryz.prog n) k)
def q2r(n k:Nat):IK n k=(Xq n,part (bm Tryz.prog n) k):=rfl
def yz:=@kV M _ IK Xq q2r
attribute [local irreducible] IK
def jm(M:ao)(c:Ctx):=by
 have h:=oX q2r M c UP (by kernel_rfl)
 conv at h=>arg 5;reduce
 delta PR RL nI gO nR gJ oP jC mQ fM gM gh oI ry vM sr nZ qH rW sj UP at h
 simp only[AA,Ak,Ar,Ap,A7,Qw]at h;exact h
def eg(M:ao)(c:Ctx):=(jm M c).2.2.2.2.2.2.2.2
def eh(M:ao)(c:Ctx):=(eg M c).2.2.2.2.2.2.2.2
def ez(M:ao)(c:Ctx):=(eh M c).2.2.2.2.2.2.2.2
def fb(M:ao)(c:Ctx):=(ez M c).2.2.2.2.2.2.2.2
def JD(M:ao)(c:Ctx):=(jm M c).1
def xif:=@yz M _ q7t [.tmp 8,.tmp 9] [a0,a1,a2,a3] (by kernel_rfl) H Q
def j5(M:ao)(c:Ctx):=(jm M c).2.1
def q33:=@yz M _ Vv [] [a0] (by kernel_rfl) H Q
def qhb(M:ao)(c:Ctx):=(jm M c).2.2.2.2.1
def qn7:=@yz M _ _H [.tmp 2] [a0] (by kernel_rfl) H Q
def je(M:ao)(c:Ctx):=(jm M c).2.2.2.2.2.1
def qxg:=@yz M _ _j [] [a0] (by kernel_rfl) H Q
def RA(M:ao)(c:Ctx):=(jm M c).2.2.2.2.2.2.1
def qvm:=@yz M _ T' [] [a0] (by kernel_rfl) H Q
def qz3(M:ao)(c:Ctx):=(jm M c).2.2.2.2.2.2.2.1
def qz2:=@yz M _ Zr [.tmp 4,.tmp 5] [a0,a1] (by kernel_rfl) H Q
def qxl(M:ao)(c:Ctx):=(eg M c).1
def qxk:=@yz M _ _s [] [a0] (by kernel_rfl) H Q
def zm(M:ao)(c:Ctx):=(eg M c).2.1
def qxf:=@yz M _ M8 [] [a0] (by kernel_rfl) H Q
def qxn(M:ao)(c:Ctx):=(eg M c).2.2.1
def qxm:=@yz M _ qnc [.tmp 6] [a0,a1,a2] (by kernel_rfl) H Q
def qtu(M:ao)(c:Ctx):=(eg M c).2.2.2.1
def qtt:=@yz M _ ο [] [a0] (by kernel_rfl) H Q
def SL(M:ao)(c:Ctx):=(eg M c).2.2.2.2.1
def qxe:=@yz M _ _Y [] [a0] (by kernel_rfl) H Q
def qvo(M:ao)(c:Ctx):=(eg M c).2.2.2.2.2.1
def qvn:=@yz M _ i' [] [a0] (by kernel_rfl) H Q
def qz5(M:ao)(c:Ctx):=(eg M c).2.2.2.2.2.2.1
def qz4:=@yz M _ qpf [.tmp 2] [a0] (by kernel_rfl) H Q
def Tg(M:ao)(c:Ctx):=(eg M c).2.2.2.2.2.2.2.1
def qtv:=@yz M _ VJ [] [a0] (by kernel_rfl) H Q
def qtf(M:ao)(c:Ctx):=(eh M c).1
def q6w:=@yz M _ lx [.tmp 4,.tmp 5] [a0,a1] (by kernel_rfl) H Q
def qzz(M:ao)(c:Ctx):=(eh M c).2.1
def qzy:=@yz M _ Zd [] [a0,a1] (by kernel_rfl) H Q
def SO:bT:=funcAt Tryz.prog P7
def Qc:dI:=gK SO 0
abbrev Vd(k:Nat):Kp×aj:=IK 300109 k
abbrev UU(k:Nat):Kp×aj:=IK 200109 k
def c_:nth SO.loops 0=B1 Qc/\Qc.params=[48,49]:=⟨by kernel_rfl,by kernel_rfl⟩
def qtw:(Vd 0).1.ai=[0,1,2,3,4,7,8,9,14,47,48,49]/\(Vd 0).2=Qc.assign:=⟨by kernel_rfl,by kernel_rfl⟩
def qtx:(UU 0).1.ai=[0,1,2,3,4,7,8,9,14,47,48,49]/\(UU 0).2=Qc.body:=⟨by kernel_rfl,by kernel_rfl⟩
def qvs:M.func P7=B1 SO:=MK.at (by decide) (by kernel_rfl)
def LY(M:ao)(c:Ctx):=Hu (eh M c).2.2.1.1 (Hu (eh M c).2.2.2.1 (Hu (eh M c).2.2.2.2.1 (Hu (eh M c).2.2.1.2.1 (Hu (eh M c).2.2.1.2.2.1 (Hu (eh M c).2.2.1.2.2.2.1 (Hu (eh M c).2.2.1.2.2.2.2.1 ((eh M c).2.2.1.2.2.2.2.2)))))))
def qxj:=@yz M _ P7 [] [a0,a1,a2] (by kernel_rfl) H Q
def Tl:bT:=funcAt Tryz.prog Rm
def QM:dI:=gK Tl 0
abbrev VC(k:Nat):Kp×aj:=IK 300110 k
abbrev Yt(k:Nat):Kp×aj:=IK 200110 k
def qkg:nth Tl.loops 0=B1 QM/\QM.params=[72,73]:=⟨by kernel_rfl,by kernel_rfl⟩
def qsk:(VC 0).1.ai=[0,1,2,4,6,7,12,71,72,73]/\(VC 0).2=QM.assign:=⟨by kernel_rfl,by kernel_rfl⟩
def qsl:(Yt 0).1.ai=[0,1,2,4,6,7,12,71,72,73]/\(Yt 0).2=QM.body:=⟨by kernel_rfl,by kernel_rfl⟩
def qty:M.func Rm=B1 Tl:=MK.at (by decide) (by kernel_rfl)
def vp(M:ao)(c:Ctx):=Hu (eh M c).2.2.2.2.2.1.1 (Hu (eh M c).2.2.2.2.2.2.1 (Hu (eh M c).2.2.2.2.2.2.2.1 (Hu (eh M c).2.2.2.2.2.1.2.1 (Hu (eh M c).2.2.2.2.2.1.2.2.1 (Hu (eh M c).2.2.2.2.2.1.2.2.2.1 (Hu (eh M c).2.2.2.2.2.1.2.2.2.2.1 (Hu (eh M c).2.2.2.2.2.1.2.2.2.2.2.1 (Hu (eh M c).2.2.2.2.2.1.2.2.2.2.2.2.1 (Hu (eh M c).2.2.2.2.2.1.2.2.2.2.2.2.2.1 (Hu (eh M c).2.2.2.2.2.1.2.2.2.2.2.2.2.2.1 ((eh M c).2.2.2.2.2.1.2.2.2.2.2.2.2.2.2)))))))))))
def qvv:=@yz M _ Rm [] [a0,a1,a2] (by kernel_rfl) H Q
def PZ(M:ao)(c:Ctx):=(ez M c).1
def qzx:=@yz M _ He [] [a0] (by kernel_rfl) H Q
def Xa(M:ao)(c:Ctx):=(ez M c).2.1
def qz6:=@yz M _ WB [] [a0,a1,a2,a3,a4] (by kernel_rfl) H Q
def q35(M:ao)(c:Ctx):=(ez M c).2.2.1
def q34:=@yz M _ qqh [.tmp 8,.tmp 9] [a0,a1,a2,a3] (by kernel_rfl) H Q
def Xn(M:ao)(c:Ctx):=(ez M c).2.2.2.1
def qq4:=@yz M _ qjb [] [a0] (by kernel_rfl) H Q
def RX(M:ao)(c:Ctx):=(ez M c).2.2.2.2.1
def qvp:=@yz M _ Ξ [] [a0] (by kernel_rfl) H Q
def qxi(M:ao)(c:Ctx):=(ez M c).2.2.2.2.2.1
def qxh:=@yz M _ qna [] [a0] (by kernel_rfl) H Q
def z_(M:ao)(c:Ctx):=(ez M c).2.2.2.2.2.2.1
def qvr:=@yz M _ XK [] [a0,a1,a2] (by kernel_rfl) H Q
def qz1(M:ao)(c:Ctx):=(ez M c).2.2.2.2.2.2.2.1
def qz0:=@yz M _ Φ [.tmp 4] [a0,a1] (by kernel_rfl) H Q
def qvu(M:ao)(c:Ctx):=(fb M c).1
def qvt:=@yz M _ qme [] [a0,a1,a2,a3] (by kernel_rfl) H Q
def qxd(M:ao)(c:Ctx):=(fb M c).2.1
def qxc:=@yz M _ YZ [] [a0,a1] (by kernel_rfl) H Q
def Rp(M:ao)(c:Ctx):=(fb M c).2.2
def qvq:=@yz M _ Ny [] [a0,a1,a2] (by kernel_rfl) H Q
abbrev LV:Nat:=51
abbrev yi:Nat:=58
abbrev Yf:ua:=[(100051,⟨[0,1,2,4,5,6,30],B2,[0,2,29,16]⟩,[(9,[0,2,4,6,8,10,3,12,14,16])]),(9900051,⟨[0,1,2,4,5,6,30],B2,[0,2,16,8,14]⟩,[(9,[0,2,4,6,8,10,3,12,14,16])]),(58,⟨[0],B2,[0]⟩,[])]
def Δ(n:Nat):Kp:=jX n Yf
def QU(n k:Nat):Kp×aj:=(Δ n,part (bm Tryz.prog n) k)
def Vt(n k:Nat):QU n k=(Δ n,part (bm Tryz.prog n) k):=rfl
attribute [local irreducible] QU
def FD(M:ao)(c:Ctx):=by
 have h:=oX Vt M c Yf (by kernel_rfl)
 conv at h=>arg 5;reduce
 delta PR RL nI gO nR gJ oP jC mQ fM gM gh oI vM nZ rW sj Yf at h
 simp only[AA,Ak,Ar,Ap,A7,Qw]at h;exact h
def qzt:bT:=funcAt Tryz.prog LV
abbrev qzv(k:Nat):Kp×aj:=QU 100051 k
abbrev qzw(k:Nat):Kp×aj:=QU 9900051 k
def vf(M:ao)(c:Ctx):=Hu (FD M c).1.1 (Hu (FD M c).2.1.1 (Hu (FD M c).1.2.1 (Hu (FD M c).2.1.2.1 (Hu (FD M c).1.2.2.1 (Hu (FD M c).1.2.2.2 (Hu (FD M c).2.1.2.2.1 (Hu (FD M c).2.1.2.2.2.1 ((FD M c).2.1.2.2.2.2))))))))
def qzu(h:W M ⟨B5,LV⟩ (qzv 0) B4 (D2 M ⟨B5,LV⟩ (qzw 0) 30 (eU M [.tmp 4,.tmp 5] Q)) (kM 0 [a0,a1]) [] H):Dq M LV [a0,a1] H Q:=Qd Vt (MK.at (by decide) (by kernel_rfl:(aY Tryz.prog).func LV=B1 qzt)) (by kernel_rfl) (by kernel_rfl) (by kernel_rfl) (by kernel_rfl) (by kernel_rfl) (by kernel_rfl) h
def qvk{up:Option aH}(h:W M ⟨B5,yi⟩ (QU yi 0) B4 (eU M [] Q) (kM 0 [a0]) [] H):∃e H',kC M yi [a0] up H e up H'/\Q e H':=IY Vt (MK.at (by decide) (by kernel_rfl:(aY Tryz.prog).func yi=B1 (funcAt Tryz.prog yi))) (by kernel_rfl) (by kernel_rfl) (by kernel_rfl) h
def qvl(M:ao)(c:Ctx):=(FD M c).2.2
abbrev P4:Nat:=17
abbrev qza:Nat:=29
abbrev NS:Nat:=47
abbrev PA:Nat:=36
abbrev Rd:Nat:=35
abbrev K6:Nat:=50
abbrev qg5:Nat:=22
abbrev qg7:Nat:=20
abbrev _Q:Nat:=9
abbrev q2o:Nat:=7
abbrev Zj:Nat:=10
abbrev pn:Nat:=11
abbrev Oc:Nat:=8
abbrev TN:Nat:=24
abbrev Se:Nat:=38
abbrev RO:Nat:=39
abbrev QK:Nat:=40
abbrev Qm:Nat:=37
abbrev Y2:Nat:=19
abbrev FR:Nat:=34
abbrev qzb:Nat:=21
abbrev gD:Nat:=30
abbrev uP:Nat:=37
abbrev yH:Nat:=39
abbrev uZ:Nat:=67
abbrev Ch:Nat:=117
abbrev tJ:Nat:=50
abbrev ku:Nat:=47
abbrev XG:Nat:=33
abbrev Fo:Nat:=9
abbrev F7:Nat:=66
abbrev VE:ua:=[(17,⟨[0,2,3,4,5,7,8],B2,[0,4,9]⟩,[]),(300017,⟨[0,2,3,4,5,7,8],B2,[0]⟩,[]),(200017,⟨[0,2,3,4,5,7,8],B2,[0,7]⟩,[]),(9,⟨[0,2],B2,[0]⟩,[]),(7,⟨[0,1,2,3,4,6,8,9,10,11,12,13,14,15,16,48,49],B2,[0,4,12,14,49,19,25,48,31,37,39,47]⟩,[]),(10,⟨[0,1,3,4,5,6,14],B2,[0,2,10,12,20]⟩,[(4,[2,4,0,5,6,8])]),(8,⟨[0,1,2,4,5,6,8,9],B2,[0,4,9]⟩,[(5,[0,2,4,6,1,8,10,12])]),(300008,⟨[0,1,2,4,5,6,8,9],B2,[0]⟩,[(5,[0,2,4,6,1,8,10,12])]),(200008,⟨[0,1,2,4,5,6,8,9],B2,[0]⟩,[(5,[0,2,4,6,1,8,10,12])]),(11,⟨[0,2],B2,[0,2,10]⟩,[]),(29,⟨[0,1,2],B2,[0]⟩,[]),(19,⟨[0,1,2],B2,[0]⟩,[]),(20,⟨[0,2],B2,[0]⟩,[]),(21,⟨[0],B2,[0]⟩,[]),(22,⟨[0,2],B2,[0,2,10]⟩,[]),(47,⟨[0,1],B2,[0,2,8]⟩,[]),(34,⟨[0,1,2,3,5,6],B2,[0]⟩,[]),(300034,⟨[0,1,2,3,5,6],B2,[0]⟩,[]),(200034,⟨[0,1,2,3,5,6],B2,[0]⟩,[]),(36,⟨[0,1,2,4,5,6,7],B2,[0,2,7]⟩,[]),(300036,⟨[0,1,2,4,5,6,7],B2,[0]⟩,[]),(200036,⟨[0,1,2,4,5,6,7],B2,[0]⟩,[]),(37,⟨[0,1,3,4,5,6,7,8,10,14,30,31,32],B2,[0,4,12,16,41,21,27,40,33]⟩,[(12,[0,2,4,6,8,10,7,12,14])]),(38,⟨[0,1,3,4,5,6,14],B2,[0]⟩,[]),(39,⟨[0,1,3,4,14],B2,[0]⟩,[]),(40,⟨[0,1,3,4,14],B2,[0]⟩,[]),(24,⟨[0,1,4],B2,[0,2,10]⟩,[]),(50,⟨[0,1,2,4,5],B2,[0,4,10,19]⟩,[])]
def YR(n:Nat):Kp:=jX n VE
def Bl(n k:Nat):Kp×aj:=(YR n,part (bm Tryz.prog n) k)
def _q(n k:Nat):Bl n k=(YR n,part (bm Tryz.prog n) k):=rfl
def sO:=@kV M _ Bl YR _q
attribute [local irreducible] Bl
def yg(M:ao)(c:Ctx):=by
 have h:=oX _q M c VE (by kernel_rfl)
 conv at h=>arg 5;reduce
 delta PR RL nI gO nR gJ oP jC mQ fM gM gh oI ry sr nZ qH rW sj VE at h
 simp only[AA,Ak,Ar,Ap,A7,Qw]at h;exact h
def fe(M:ao)(c:Ctx):=(yg M c).2.2.2.2.2.2.2.2
def ff(M:ao)(c:Ctx):=(fe M c).2.2.2.2.2.2.2.2
def fu(M:ao)(c:Ctx):=(ff M c).2.2.2.2.2.2.2.2
def Ui:bT:=funcAt Tryz.prog P4
def RF:dI:=gK Ui 0
abbrev Yb(k:Nat):Kp×aj:=Bl 300017 k
abbrev WD(k:Nat):Kp×aj:=Bl 200017 k
def qtk:nth Ui.loops 0=B1 RF/\RF.params=[8]:=⟨by kernel_rfl,by kernel_rfl⟩
def q60:(Yb 0).1.ai=[0,2,3,4,5,7,8]/\(Yb 0).2=RF.assign:=⟨by kernel_rfl,by kernel_rfl⟩
def q61:(WD 0).1.ai=[0,2,3,4,5,7,8]/\(WD 0).2=RF.body:=⟨by kernel_rfl,by kernel_rfl⟩
def q9y:M.func P4=B1 Ui:=MK.at (by decide) (by kernel_rfl)
def SW(M:ao)(c:Ctx):=Hu (yg M c).1.1 (Hu (yg M c).2.1 (Hu (yg M c).2.2.1.1 (Hu (yg M c).1.2.1 (Hu (yg M c).2.2.1.2 ((yg M c).1.2.2)))))
def xcn:=@sO M _ P4 [.tmp 2] [a0] (by kernel_rfl) H Q
def q7q(M:ao)(c:Ctx):=(yg M c).2.2.2.1
def q7p:=@sO M _ _Q [.tmp 2] [a0] (by kernel_rfl) H Q
def zU(M:ao)(c:Ctx):=(yg M c).2.2.2.2.1
def xf7:=@sO M _ q2o [.tmp 8,.tmp 9] [a0,a1,a2,a3] (by kernel_rfl) H Q
def ZI(M:ao)(c:Ctx):=(yg M c).2.2.2.2.2.1
def q1o:=@sO M _ Zj [.dg 14 4] [a0,a1] (by kernel_rfl) H Q
def UC:bT:=funcAt Tryz.prog Oc
def OU:dI:=gK UC 0
abbrev U0(k:Nat):Kp×aj:=Bl 300008 k
abbrev Zu(k:Nat):Kp×aj:=Bl 200008 k
def nh:nth UC.loops 0=B1 OU/\OU.params=[9]:=⟨by kernel_rfl,by kernel_rfl⟩
def quz:(U0 0).1.ai=[0,1,2,4,5,6,8,9]/\(U0 0).2=OU.assign:=⟨by kernel_rfl,by kernel_rfl⟩
def qu0:(Zu 0).1.ai=[0,1,2,4,5,6,8,9]/\(Zu 0).2=OU.body:=⟨by kernel_rfl,by kernel_rfl⟩
def qw3:M.func Oc=B1 UC:=MK.at (by decide) (by kernel_rfl)
def X3(M:ao)(c:Ctx):=Hu (yg M c).2.2.2.2.2.2.1.1 (Hu (yg M c).2.2.2.2.2.2.2.1 (Hu (fe M c).1 (Hu (yg M c).2.2.2.2.2.2.1.2.1 ((yg M c).2.2.2.2.2.2.1.2.2))))
def qy9:=@sO M _ Oc [.tmp 4] [a0,a1] (by kernel_rfl) H Q
def qr1(M:ao)(c:Ctx):=(fe M c).2.1
def qr0:=@sO M _ pn [.tmp 2] [a0] (by kernel_rfl) H Q
def xcp(M:ao)(c:Ctx):=(fe M c).2.2.1
def xco:=@sO M _ qza [.tmp 2] [a0] (by kernel_rfl) H Q
def ε(M:ao)(c:Ctx):=(fe M c).2.2.2.1
def qzo:=@sO M _ Y2 [.tmp 2] [a0] (by kernel_rfl) H Q
def qn9(M:ao)(c:Ctx):=(fe M c).2.2.2.2.1
def qn8:=@sO M _ qg7 [.tmp 2] [a0] (by kernel_rfl) H Q
def xd3(M:ao)(c:Ctx):=(fe M c).2.2.2.2.2.1
def xd2:=@sO M _ qzb [.tmp 0] [] (by kernel_rfl) H Q
def S'(M:ao)(c:Ctx):=(fe M c).2.2.2.2.2.2.1
def qn6:=@sO M _ qg5 [.tmp 2] [a0] (by kernel_rfl) H Q
def T3(M:ao)(c:Ctx):=(fe M c).2.2.2.2.2.2.2.1
def q62:=@sO M _ NS [] [a0,a1] (by kernel_rfl) H Q
def UI:bT:=funcAt Tryz.prog FR
def Rb:dI:=gK UI 0
abbrev Zh(k:Nat):Kp×aj:=Bl 300034 k
abbrev VM(k:Nat):Kp×aj:=Bl 200034 k
def _d:nth UI.loops 0=B1 Rb/\Rb.params=[6]:=⟨by kernel_rfl,by kernel_rfl⟩
def q1p:(Zh 0).1.ai=[0,1,2,3,5,6]/\(Zh 0).2=Rb.assign:=⟨by kernel_rfl,by kernel_rfl⟩
def q1q:(VM 0).1.ai=[0,1,2,3,5,6]/\(VM 0).2=Rb.body:=⟨by kernel_rfl,by kernel_rfl⟩
def q6l:M.func FR=B1 UI:=MK.at (by decide) (by kernel_rfl)
def ql(M:ao)(c:Ctx):=Hu (ff M c).1 (Hu (ff M c).2.1 ((ff M c).2.2.1))
def q7r:=@sO M _ FR [] [a0,a1] (by kernel_rfl) H Q
def Uv:bT:=funcAt Tryz.prog PA
def Rf:dI:=gK Uv 0
abbrev Zf(k:Nat):Kp×aj:=Bl 300036 k
abbrev ZC(k:Nat):Kp×aj:=Bl 200036 k
def qfb:nth Uv.loops 0=B1 Rf/\Rf.params=[7]:=⟨by kernel_rfl,by kernel_rfl⟩
def qku:(Zf 0).1.ai=[0,1,2,4,5,6,7]/\(Zf 0).2=Rf.assign:=⟨by kernel_rfl,by kernel_rfl⟩
def qkv:(ZC 0).1.ai=[0,1,2,4,5,6,7]/\(ZC 0).2=Rf.body:=⟨by kernel_rfl,by kernel_rfl⟩
def ql2:M.func PA=B1 Uv:=MK.at (by decide) (by kernel_rfl)
def VN(M:ao)(c:Ctx):=Hu (ff M c).2.2.2.1.1 (Hu (ff M c).2.2.2.2.1 (Hu (ff M c).2.2.2.2.2.1 (Hu (ff M c).2.2.2.1.2.1 ((ff M c).2.2.2.1.2.2))))
def ql7:=@sO M _ PA [.tmp 4] [a0,a1] (by kernel_rfl) H Q
def MM(M:ao)(c:Ctx):=(ff M c).2.2.2.2.2.2.1
def qw4:=@sO M _ Qm [.dg 14 4] [a0,a1] (by kernel_rfl) H Q
def qr3(M:ao)(c:Ctx):=(ff M c).2.2.2.2.2.2.2.1
def qr2:=@sO M _ Se [.dg 14 4] [a0,a1] (by kernel_rfl) H Q
def qu2(M:ao)(c:Ctx):=(fu M c).1
def qu1:=@sO M _ RO [.dg 14 4] [a0,a1] (by kernel_rfl) H Q
def qu4(M:ao)(c:Ctx):=(fu M c).2.1
def qu3:=@sO M _ QK [.dg 14 4] [a0,a1] (by kernel_rfl) H Q
def ZN:bT:=funcAt Tryz.prog Rd
def d_:Kp:=⟨[0,1,2,3,4],B2,[0,2,8]⟩
def Oj(k:Nat):Kp×aj:=(d_,part ZN.body k)
def quk(M:ao)(c:Ctx):(WE M c (Oj 0) λ Q E D H=>Lz E 0 λ g a=>A3 g gD (AV.cells a) H λ g b H1=>Ly g E 1 λ g d=>A3 g bY (AV.cells d) H1 λ g e f=>W M c (Oj 2) g Q ((4,.nilf)::(3,e)::(2,b)::E) D f) /\
 (WE M c (Oj 2) λ Q E D H=>Lz E 3 λ g a=>B3 g (Op.ah [a] H) λ g b=>Cb g .lss b (.int .i64 1) (λ g=>B3 g ((Op.du Fo) [(.str [99,97,110,110,111,116,32,98,101,32,108,101,115,115,32,116,104,97,110,32,49])]) λ g _=>False) (λ g=>Gt g M c (Oj 8) Q E D H)) /\
 (WE M c (Oj 8) λ Q E D H=>Lz E 2 λ g a=>Ly g E 3 λ g b=>B3 g ((Op.bB K6 0) [a,b]) λ g d=>qM g Q .ret ((4,d)::E) D H):=by(repeat' apply Hu)<;>(intro _ _ _ _;refine yW ?_;kernel_rfl)
def qui:(aY Tryz.prog).func Rd=B1 ZN/\ZN.results=[.tmp 4]:=XO (by kernel_rfl)
def quj(h:W M ⟨B5,Rd⟩ (Oj 0) B4 (eU M [.tmp 4] Q) [(0,a0),(1,a1)] [] H):Dq M Rd [a0,a1] H Q:=xX (by decide) qui (ks:=d_) (by kernel_rfl) h
def X6(M:ao)(c:Ctx):=(fu M c).2.2.1
def qp5:=@sO M _ TN [.tmp 4] [a0,a1] (by kernel_rfl) H Q
def SU(M:ao)(c:Ctx):=(fu M c).2.2.2
def qru:=@sO M _ K6 [] [a0,a1,a2] (by kernel_rfl) H Q
abbrev vi:Nat:=3
abbrev h_:Nat:=12
abbrev qu8:Nat:=6
abbrev NF:Nat:=29
abbrev Sh:Nat:=5
abbrev UN:ua:=[(3,⟨[0,1,2,3,6,7,8,9,10,11,12,13,14,15,16,17,18,19],B2,[0,4,12,16,24,28,32,36,51,41,55,47,63,50,84,68,74,83]⟩,[]),(6,⟨[0,1,2,3],B2,[0,2,10,31,15,21,30]⟩,[]),(12,⟨[0,1,4,5],B2,[0,2,10,31,15,21,30]⟩,[])]
def WW(n:Nat):Kp:=jX n UN
def OB(n k:Nat):Kp×aj:=(WW n,part (bm Tryz.prog n) k)
def q2w(n k:Nat):OB n k=(WW n,part (bm Tryz.prog n) k):=rfl
def gw:=@kV M _ OB WW q2w
attribute [local irreducible] OB
def Yi(M:ao)(c:Ctx):=by
 have h:=oX q2w M c UN (by kernel_rfl)
 conv at h=>arg 5;reduce
 delta PR RL nI gO nR gJ oP mQ fM gM gh oI ry nZ rW sj UN at h
 simp only[AA,Ak,Ar,Ap,A7,Qw]at h;exact h
def Z2(M:ao)(c:Ctx):=(Yi M c).1
def qx0:=@gw M _ vi [.tmp 6] [a0,a1,a2] (by kernel_rfl) H Q
def Nv(M:ao)(c:Ctx):=(Yi M c).2.1
def q98:=@gw M _ qu8 [.tmp 2] [a0] (by kernel_rfl) H Q
def Yv(M:ao)(c:Ctx):=(Yi M c).2.2
def q97:=@gw M _ h_ [.tmp 4] [a0,a1] (by kernel_rfl) H Q
end
end Go.Am
