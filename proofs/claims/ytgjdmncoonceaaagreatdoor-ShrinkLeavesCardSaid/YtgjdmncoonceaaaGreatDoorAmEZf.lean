import Derived.Test.YtgjdmncoonceaaaGreatDoorAmEZd
import Derived.Test.YtgjdmncoonceaaaGreatDoorAmEZa
import Derived.KernelRfl
import Derived.Test.YtgjdmncoonceaaaGreatDoorRows
set_option linter.unusedVariables false
set_option linter.unusedSimpArgs false
set_option linter.defProp false
set_option maxRecDepth 100000
set_option maxHeartbeats 1000000
open And renaming intro→Gf
open Bool renaming rec→O8,false→B2,true→B4
open Go renaming Oper→Pt,Operand→M6,Program→Jg,TypeId→Ku
open Int renaming reduceNegSucc→QP,reduceOfNat→Ao
open List renaming range→N2,rec→Ap
open Nat renaming beq→I4,ble→Nz
open Option renaming rec→QY,none→B5,some→B1
namespace Go.Am
noncomputable section
def PR:Type:=Prop
abbrev WR:=Bool->aF->Env->List aL->ar->PR
abbrev KQ:=Bool->Env->Env->ar->PR
def Ib(m:Bool)(o:Option (bE×(Nat->AV)))(H:ar)(K:Bool->AV->ar->Prop):Prop:=jB m o λ g o mk=>K g (mk H.au) (H.alloc o)
def nY{α:Type}:Bool->Option α->(Bool -> α->PR)->PR:=@B3 α
def gG{α β:Type}:Bool->Option (α×β)->(Bool -> α -> β->PR)->PR:=@jB α β
def fU:Bool->AV->(Bool->PR)->(Bool->PR)->PR:=mU
def gI:Bool->Bool->(Bool->PR)->(Bool->PR)->PR:=vE
def iM:Bool->Option AV->Option AV->(Bool->PR)->PR:=N0
def gN:Bool->Option (bE×(Nat->AV))->ar->(Bool->AV->ar->PR)->PR:=Ib
def oO:ak->Bool->mG->List AV->ar->(Bool->AV->ar->PR)->PR:=C3
def zJ:ak->Bool->(aH->ar->PR)->mG->List AV->ar->(Bool->AV->ar->PR)->PR:=P3
def pP:Bool->List AV->(Bool->mG->List AV->PR)->PR:=V3
def vX:ak->Bool->String->List AV->(Bool->mG->List AV->PR)->PR:=N3
def xJ:Option (List Nat)->List Nat->aF->Env->List aL->aH->ar->PR:=PX
def yH:List AV->ar->(aH->ar->PR)->PR:=gJ
def gj{α:Type}:(α->PR) -> α->PR:=@JN α
def mQ:Bool->aF->aX->Env->List aL->ar->PR:=qQ
def oJ{α:Type}:Bool->Option α->(Bool -> α->PR)->PR:=@LK α
def rW:ak->Ctx->Kp×ai->WR:=W
def qJ:WR->aF->Env->List aL->ar->PR:=b9
def se:ak->List Nat->Ctx->Nat->Env->List aL->ar->aF->AV->PR:=iE
def oE:WR->aF->aF:=fm
def su:PR:=False
def nZ:Env->Nat->Option AV:=lk
section
variable(M:ak)
def Zr(E L R:Env)(t:Nat)(g:Bool)(K:Bool->Env->AV->PR):PR :=
 QY (motive:=λ _=>PR) (QY (motive:=λ _=>PR) (oJ g (nZ E t) λ g v=>K g ((t,v)::R) v) (λ v=>K g R v) (lk R t)) (λ v=>K g R v) (lk L t)
def tEV(E L:Env)(l:List bL):Bool->Env->(Bool->Env->List AV->PR)->PR:=Ap (motive:=λ _=>Bool->Env->(Bool->Env->List AV->PR)->PR) (λ g R K=>K g R [])
 (λ x _ ih g R K=>bL.casesOn x (λ t=>Zr E L R t g λ g R v=>ih g R λ g R vs=>K g R (v::vs)) (λ v=>ih g R λ g R vs=>K g R (v::vs)) (λ b=>ih g R λ g R vs=>K g R (.ptr b 0::vs)) (λ f=>ih g R λ g R vs=>K g R (.fn (.func f) [] []::vs))) l
def YT(di:Bool)(ps:Option (List Nat))(L:Env)(Q:aF)(E:Env)(D:List aL)(g:Bool)(f:mG)(vs:List AV)(H:ar)(K:Bool->AV->ar->PR):PR :=
 cond di (zJ M g (xJ ps (lK L) Q E D) f vs H K) (oO M g f vs H K)
def tOP(di:Bool)(dst:Option Nat)(ps:Option (List Nat))(Q:aF)(E:Env)(D:List aL)(L R:Env)(H:ar)(K:KQ)(g:Bool)(vs:List AV):fN->PR
 | .pure f=>nY g (f vs) λ g v=>K g (lH dst v L) R H
 | .read f=>nY g (f vs H) λ g v=>K g (lH dst v L) R H
 | .alloc f=>gN g (f vs) H λ g v H=>K g (lH dst v L) R H
 | .gY f=>gG g (f vs H) λ g v H=>K g (lH dst v L) R H
 | .ik f=>YT M di ps L Q E D g (.func f) vs H (λ g v H=>K g (lH dst v L) R H)
 | .im=>pP g vs λ g f vs=>YT M di ps L Q E D g f vs H (λ g v H=>K g (lH dst v L) R H)
 | .invoke name=>vX M g name vs λ g f vs=>YT M di ps L Q E D g f vs H (λ g v H=>K g (lH dst v L) R H)
 | .panic=>cond di (yH vs H (xJ ps (lK L) Q E D)) su
 |_=>su
def tCK(dst:Option Nat)(E L R:Env)(H:ar)(K:KQ)(g:Bool)(vs:List AV):fN->PR
 | .read f=>match dst with
  |some d=>iM g (f vs H) (QY (motive:=λ _=>Option AV) (nZ E d) (λ v=>B1 v) (lk L d)) λ g=>K g L R H
  |none=>su
 |_=>su
def tST(di:Bool)(s:aQ)(Q:aF)(E:Env)(D:List aL)(K:KQ):KQ:=λ g L R H =>
 tEV E L s.args g R λ g R vs=>match s.iA with
  |false=>tOP M di s.dst s.cM Q E D L R H K g vs s.op
  |true=>tCK s.dst E L R H K g vs s.op
def _5(di:Bool)(Q:aF)(E:Env)(D:List aL)(K:KQ)(l:List aQ):KQ:=Ap (motive:=λ _=>KQ) K (λ s _ ih=>tST M di s Q E D ih) l
def sn(n:Nat):Type:=Nat.rec (motive:=λ _=>Type) (ar->PR) (λ _ T=>AV->T) n
def X4:(n:Nat)->((Bool->sn n)->PR)->(Bool->sn n)->PR
 |0=>λ F K=>gj (α:=Bool->ar->PR) (λ k=>F k) K
 |1=>λ F K=>gj (α:=Bool->AV->ar->PR) (λ k=>F k) K
 |2=>λ F K=>gj (α:=Bool->AV->AV->ar->PR) (λ k=>F k) K
 |3=>λ F K=>gj (α:=Bool->AV->AV->AV->ar->PR) (λ k=>F k) K
 |4=>λ F K=>gj (α:=Bool->AV->AV->AV->AV->ar->PR) (λ k=>F k) K
 |5=>λ F K=>gj (α:=Bool->AV->AV->AV->AV->AV->ar->PR) (λ k=>F k) K
 |6=>λ F K=>gj (α:=Bool->AV->AV->AV->AV->AV->AV->ar->PR) (λ k=>F k) K
 |7=>λ F K=>gj (α:=Bool->AV->AV->AV->AV->AV->AV->AV->ar->PR) (λ k=>F k) K
 |8=>λ F K=>gj (α:=Bool->AV->AV->AV->AV->AV->AV->AV->AV->ar->PR) (λ k=>F k) K
 |9=>λ F K=>gj (α:=Bool->AV->AV->AV->AV->AV->AV->AV->AV->AV->ar->PR) (λ k=>F k) K
 |10=>λ F K=>gj (α:=Bool->AV->AV->AV->AV->AV->AV->AV->AV->AV->AV->ar->PR) (λ k=>F k) K
 |11=>λ F K=>gj (α:=Bool->AV->AV->AV->AV->AV->AV->AV->AV->AV->AV->AV->ar->PR) (λ k=>F k) K
 |12=>λ F K=>gj (α:=Bool->AV->AV->AV->AV->AV->AV->AV->AV->AV->AV->AV->AV->ar->PR) (λ k=>F k) K
 |13=>λ F K=>gj (α:=Bool->AV->AV->AV->AV->AV->AV->AV->AV->AV->AV->AV->AV->AV->ar->PR) (λ k=>F k) K
 |14=>λ F K=>gj (α:=Bool->AV->AV->AV->AV->AV->AV->AV->AV->AV->AV->AV->AV->AV->AV->ar->PR) (λ k=>F k) K
 |15=>λ F K=>gj (α:=Bool->AV->AV->AV->AV->AV->AV->AV->AV->AV->AV->AV->AV->AV->AV->AV->ar->PR) (λ k=>F k) K
 |16=>λ F K=>gj (α:=Bool->AV->AV->AV->AV->AV->AV->AV->AV->AV->AV->AV->AV->AV->AV->AV->AV->ar->PR) (λ k=>F k) K
 |17=>λ F K=>gj (α:=Bool->AV->AV->AV->AV->AV->AV->AV->AV->AV->AV->AV->AV->AV->AV->AV->AV->AV->ar->PR) (λ k=>F k) K
 |18=>λ F K=>gj (α:=Bool->AV->AV->AV->AV->AV->AV->AV->AV->AV->AV->AV->AV->AV->AV->AV->AV->AV->AV->ar->PR) (λ k=>F k) K
 |19=>λ F K=>gj (α:=Bool->AV->AV->AV->AV->AV->AV->AV->AV->AV->AV->AV->AV->AV->AV->AV->AV->AV->AV->AV->ar->PR) (λ k=>F k) K
 |20=>λ F K=>gj (α:=Bool->AV->AV->AV->AV->AV->AV->AV->AV->AV->AV->AV->AV->AV->AV->AV->AV->AV->AV->AV->AV->ar->PR) (λ k=>F k) K
 |21=>λ F K=>gj (α:=Bool->AV->AV->AV->AV->AV->AV->AV->AV->AV->AV->AV->AV->AV->AV->AV->AV->AV->AV->AV->AV->AV->ar->PR) (λ k=>F k) K
 |22=>λ F K=>gj (α:=Bool->AV->AV->AV->AV->AV->AV->AV->AV->AV->AV->AV->AV->AV->AV->AV->AV->AV->AV->AV->AV->AV->AV->ar->PR) (λ k=>F k) K
 |23=>λ F K=>gj (α:=Bool->AV->AV->AV->AV->AV->AV->AV->AV->AV->AV->AV->AV->AV->AV->AV->AV->AV->AV->AV->AV->AV->AV->AV->ar->PR) (λ k=>F k) K
 |24=>λ F K=>gj (α:=Bool->AV->AV->AV->AV->AV->AV->AV->AV->AV->AV->AV->AV->AV->AV->AV->AV->AV->AV->AV->AV->AV->AV->AV->AV->ar->PR) (λ k=>F k) K
 |25=>λ F K=>gj (α:=Bool->AV->AV->AV->AV->AV->AV->AV->AV->AV->AV->AV->AV->AV->AV->AV->AV->AV->AV->AV->AV->AV->AV->AV->AV->AV->ar->PR) (λ k=>F k) K
 |26=>λ F K=>gj (α:=Bool->AV->AV->AV->AV->AV->AV->AV->AV->AV->AV->AV->AV->AV->AV->AV->AV->AV->AV->AV->AV->AV->AV->AV->AV->AV->AV->ar->PR) (λ k=>F k) K
 |27=>λ F K=>gj (α:=Bool->AV->AV->AV->AV->AV->AV->AV->AV->AV->AV->AV->AV->AV->AV->AV->AV->AV->AV->AV->AV->AV->AV->AV->AV->AV->AV->AV->ar->PR) (λ k=>F k) K
 |28=>λ F K=>gj (α:=Bool->AV->AV->AV->AV->AV->AV->AV->AV->AV->AV->AV->AV->AV->AV->AV->AV->AV->AV->AV->AV->AV->AV->AV->AV->AV->AV->AV->AV->ar->PR) (λ k=>F k) K
 |_+29=>λ F K=>gj F K
def KM:∀(n:Nat)(F:(Bool->sn n)->PR)(K:Bool->sn n),X4 n F K=gj F K:=λ n=>by
 unfold X4;split<;>exact λ F K=>rfl
def UA(n:Nat):(List AV->ar->PR)->sn n:=Nat.rec (motive:=λ n=>(List AV->ar->PR)->sn n) (λ f=>f []) (λ _ ih f v=>ih λ l=>f (v::l)) n
def O9(n:Nat):sn n->List AV->ar->PR:=Nat.rec (motive:=λ n=>sn n->List AV->ar->PR) (λ k _=>k) (λ _ ih k l=>List.casesOn (motive:=λ _=>ar->PR) l (λ _=>su) λ v l=>ih (k v) l) n
def Zj(di:Bool)(Q:aF)(E:Env)(D:List aL)(x:F0)(K:KQ):KQ:=λ g L R H=>match x.1 with
 |none=>_5 M di Q E D K x.2 g L R H
 |some q=>cond (vW q.1 x.2) (Zr E L R q.1 g λ g R v=>X4 (cR (bA x.2 []))
  (λ k=>nY g (cV q.2 (B1 v)) λ g w=>gI g w (λ g=>_5 M di Q E D (λ g L _ H=>O9 (cR (bA x.2 [])) (k g) (qZ (cR (bA x.2 [])) L) H) x.2 g L R H) (λ g=>O9 (cR (bA x.2 [])) (k g) (sD (cR (bA x.2 []))) H))
  (λ g=>UA (cR (bA x.2 [])) λ vs H=>K g (lj (bA x.2 []) L vs) R H)) su
def Qr(di:Bool)(Q:aF)(E:Env)(D:List aL)(l:List aQ)(g:Bool)(H:ar)(K:KQ):PR:=Ap (motive:=λ _=>KQ) K (λ x _ ih=>Zj M di Q E D x ih) (JE l) g [] [] H
def tOV(E:Env)(x:bL)(g:Bool)(K:Bool->AV->PR):PR:=match x with
 | .tmp t=>oJ g (nZ E t) K
 | .const v=>K g v
 | .eR b=>K g (.ptr b 0)
 | .func f=>K g (.fn (.func f) [] [])
def y_(E L R:Env)(x:bL)(g:Bool)(K:Bool->AV->PR):PR:=match x with
 | .tmp t=>Zr E L R t g λ g _ v=>K g v
 | .const v=>K g v
 | .eR b=>K g (.ptr b 0)
 | .func f=>K g (.fn (.func f) [] [])
def tU(rg:Bool->aF->Env->List aL->List aQ->Bool->ar->KQ->PR)(ctx:Ctx)(K:Kp)(X:Nat->WR):ai->Nat->WR
 | .skip,_,g,Q,E,D,H=>mQ g Q .normal E D H
 | .label _,_,g,Q,E,D,H=>mQ g Q .normal E D H
 | .exit id,_,g,Q,E,D,H=>mQ g Q (.exit id) E D H
 | .goto l,_,g,Q,E,D,H=>mQ g Q (.goto l) E D H
 | .ret,_,g,Q,E,D,H=>mQ g Q .ret E D H
 | .stuck,_,_,_,_,_,_=>su
 | .region l,_,g,Q,E,D,H=>rg K.di Q E D l g H λ g L _ H=>mQ g Q .normal (dK K.ah E L) D H
 | .seq a b,k,g,Q,E,D,H=>match a,b with
  | .region l,.cond c x y=>rg K.di Q E D l g H λ g L R H=>y_ E L R c g λ g v=>fU g v (λ g=>(O8 (motive:=λ _=>WR) (tU rg ctx K X x (k+3)) (X (k+3)) (bK (k+3) K.named)) g Q (dK K.ah E L) D H) (λ g=>(O8 (motive:=λ _=>WR) (tU rg ctx K X y (k+3+dE x)) (X (k+3+dE x)) (bK (k+3+dE x) K.named)) g Q (dK K.ah E L) D H)
  | .region l,.seq (.cond c x y) r=>rg K.di Q E D l g H λ g L R H=>y_ E L R c g λ g v=>fU g v (λ g=>(O8 (motive:=λ _=>WR) (tU rg ctx K X x (k+4)) (X (k+4)) (bK (k+4) K.named)) g (oE (O8 (motive:=λ _=>WR) (tU rg ctx K X r (k+4+dE x+dE y)) (X (k+4+dE x+dE y)) (bK (k+4+dE x+dE y) K.named)) Q) (dK K.ah E L) D H)
   (λ g=>(O8 (motive:=λ _=>WR) (tU rg ctx K X y (k+4+dE x)) (X (k+4+dE x)) (bK (k+4+dE x) K.named)) g (oE (O8 (motive:=λ _=>WR) (tU rg ctx K X r (k+4+dE x+dE y)) (X (k+4+dE x+dE y)) (bK (k+4+dE x+dE y) K.named)) Q) (dK K.ah E L) D H)
  | .region l,b=>rg K.di Q E D l g H λ g L _ H=>(O8 (motive:=λ _=>WR) (tU rg ctx K X b (k+2)) (X (k+2)) (bK (k+2) K.named)) g Q (dK K.ah E L) D H
  |a,b=>(O8 (motive:=λ _=>WR) (tU rg ctx K X a (k+1)) (X (k+1)) (bK (k+1) K.named)) g (oE (O8 (motive:=λ _=>WR) (tU rg ctx K X b (k+1+dE a)) (X (k+1+dE a)) (bK (k+1+dE a) K.named)) Q) E D H
 | .cond c x y,k,g,Q,E,D,H=>tOV E c g λ g v=>fU g v (λ g=>(O8 (motive:=λ _=>WR) (tU rg ctx K X x (k+1)) (X (k+1)) (bK (k+1) K.named)) g Q E D H) (λ g=>(O8 (motive:=λ _=>WR) (tU rg ctx K X y (k+1+dE x)) (X (k+1+dE x)) (bK (k+1+dE x) K.named)) g Q E D H)
 | .block id b,k,g,Q,E,D,H=>(O8 (motive:=λ _=>WR) (tU rg ctx K X b (k+1)) (X (k+1)) (bK (k+1) K.named)) g (eX id Q) E D H
 | .scope b,k,g,Q,E,D,H=>(O8 (motive:=λ _=>WR) (tU rg ctx K X b (k+1)) (X (k+1)) (bK (k+1) K.named)) g (kH b Q) E D H
 | .loop (B1 _) _,_,_,_,_,_,_=>su
 | .loop B5 b,k,g,Q,E,D,H=>qJ (O8 (motive:=λ _=>WR) (tU rg ctx K X b (k+1)) (X (k+1)) (bK (k+1) K.named)) Q E D H
 | .rangeFunc f n,_,g,Q,E,D,H=>tOV E f g λ g v=>se M K.ah ctx n E D H Q v
end
def Kr(M:ak):Zj M=Sr M:=by
 funext di Q E D ⟨o,l⟩ K g L R H;cases o with
 |none=>kernel_rfl
 |some q =>
  unfold Zj;simp only[KM]
  kernel_rfl
def LD(M:ak):Qr M=rH M:=by
 funext di Q E D l g H K;unfold Qr rH yT;rw[Kr];rfl
def Kd(M:ak)(c:Ctx)(K:Kp)(X:Nat->WX):tU M (rH M) c K X=U M c K X:=by kernel_rfl
def OO(M:ak)(c:Ctx)(K:Kp)(X:Nat->WX):tU M (Qr M) c K X=U M c K X:=by rw[LD];exact Kd M c K X
abbrev Hs:=List (Nat×List Nat)
def Yc(n:Nat)(l:Hs):Option (List Nat):=Ap (motive:=λ _=>Option (List Nat)) B5 (λ p _ ih=>cond (I4 p.1 n) (B1 p.2) ih) l
def EY(P:Jg):Nat->Ku->Option aT
 |0,_=>B5
 |d+1,t=>match P.underlying t with
  |some (.struct fs)=>dG.fieldsT P (EY P d) fs.toList
  |some (.array n e)=>(bW P e).bind λ s=>(nU P e).bind λ a=>(EY P d e).bind λ q=>B1 (dG.itemsT s a q n 0)
  |_=>dG P 1 t
def Uc(P:Jg)(t:Ku)(neg:Bool)(x y:M6):Option (List bL×fN):=(EY P 20 t).bind λ q=>(nV P.globals.size [x,y]).bind λ l=>B1 (l,.read (Op.eq (.agg q) neg))
def Mt(P:Jg)(o:Pt):Option (List bL×fN):=match o.op with
 | .binOp op t x y _=>match P.underlying t,op with
  |some (.struct _),.eql=>Uc P t B2 x y
  |some (.struct _),.neq=>Uc P t B4 x y
  |some (.array _ _),.eql=>Uc P t B2 x y
  |some (.array _ _),.neq=>Uc P t B4 x y
  |_,_=>gB P o
 |_=>gB P o
def Qy(P:Jg)(ops:Array Pt)(draw:Bool)(h:Option (List Nat)):Option ai :=
 (dv (ops.toList.map (Mt P))).bind λ l =>
  (dv ((QY (motive:=λ _=>List (Bool×Nat)) ((N2 ops.size).map λ i=>(B2,i)) (λ l=>l.map λ x=>(I4 (x % 2) 1,x / 2)) h).map (jG ops l λ i=>O8 (motive:=λ _=>Option (List Nat)) (B1 []) (Oe ops (aW ops l) (nA (aW ops l).cls (aW ops l).gA ops.size (2*ops.size) 0 []) i) draw))).bind λ steps=>B1 (.region steps)
def jI(P:Jg)(hs:Hs):Nat->Code->Option (ai×List dV)
 |_,.skip=>B1 (.skip,[])
 |_,.region r ops draw=>(Qy P ops draw (O8 B5 (Yc r hs) draw)).bind λ c=>B1 (c,[])
 |k,.seq a b=>(jI P hs k a).bind λ a=>(jI P hs (k+a.2.length) b).bind λ b=>B1 (.seq a.1 b.1,a.2++b.2)
 |k,.cond c a b=>(rM P.globals.size c).bind λ c=>(jI P hs k a).bind λ a=>(jI P hs (k+a.2.length) b).bind λ b=>B1 (.cond c a.1 b.1,a.2++b.2)
 |k,.block id b=>(jI P hs k b).bind λ b=>B1 (.block id b.1,b.2)
 |k,.loop b=>(jI P hs k b).bind λ b=>B1 (.loop B5 b.1,b.2)
 |k,.rangeFunc f ps a b=>(rM P.globals.size f).bind λ f=>(jI P hs (k+1) a).bind λ a=>(jI P hs (k+1+a.2.length) b).bind λ b=>B1 (.rangeFunc f k,{params:=ps.toList,assign:=a.1,body:=b.1}::(a.2++b.2))
 |_,.exit id=>B1 (.exit id,[])
 |k,.scope b=>(jI P hs k b).bind λ b=>B1 (.scope b.1,b.2)
 |_,.label l=>B1 (.label l,[])
 |_,.goto l=>B1 (.goto l,[])
 |_,.ret=>B1 (.ret,[])
 |_,.refuse _=>B1 (.stuck,[])
def EC(n:Nat)(b:ai)(l:List dV):ai:=O8 (motive:=λ _=>ai)
 (O8 (motive:=λ _=>ai) (O8 (motive:=λ _=>ai)
 (QY (motive:=λ _=>ai) .stuck (λ q=>O8 (motive:=λ _=>ai) q.body q.assign (I4 (n / 100000 % 2) 1)) (nth l (n / 100000 / 2-1))) (zQ b) (I4 (n / 100000) 1)) (wX b) (I4 (n / 100000) 99)) b (Nz n 99999)
def bh(P:Jg)(n:Nat):ai:=EC n (funcAt P (n % 100000)).body (funcAt P (n % 100000)).loops
def Jt(P:Jg)(hs:Hs)(n:Nat):ai:=QY (motive:=λ _=>ai) .stuck (λ f=>QY (motive:=λ _=>ai) .stuck (λ b=>QY (motive:=λ _=>ai) .stuck (λ c=>EC n c.1 c.2) (jI P hs 0 b)) f.body) (P.funcs[n % 100000]?)
abbrev RL:=List (aF->Env->List aL->ar->PR)
abbrev QL:=List (aF->Env->List aL->ar->Prop)
def u9(M:ak)(c:Ctx)(p:Nat->Kp×ai):List Nat->QL->Prop
 |k::ks,R::l=>(∀Q E D H,W M c (p k) B4 Q E D H=R Q E D H)/\u9 M c p ks l
 |_,_=>True
def zR(M:ak)(c:Ctx)(p:Nat->Kp×ai)(k a:Nat)(ks:List Nat)(R:aF->Env->List aL->ar->Prop)(l:QL):u9 M c p (k::a::ks) (R::l)=((∀Q E D H,W M c (p k) B4 Q E D H=R Q E D H)/\u9 M c p (a::ks) l):=rfl
def Ab(M:ak)(c:Ctx)(p:Nat->Kp×ai)(k:Nat)(R:aF->Env->List aL->ar->Prop):u9 M c p [k] [R] = ∀Q E D H,W M c (p k) B4 Q E D H=R Q E D H:=propext ⟨λ h=>h.1,λ h=>⟨h,trivial⟩⟩
def tW(M:ak)(c:Ctx)(K:Kp)(p:Nat->Kp×ai)(r:ai)(ks:List Nat):RL :=
 Ap (motive:=λ _=>RL) [] (λ k _ ih=>(λ Q E D H=>tU M (Qr M) c K (λ j=>rW M c (p j)) (part r k) k B4 Q E D H)::ih) ks
def QR{P:Jg}{p:Nat->Nat->Kp×ai}{a:Nat->Kp}(hp:∀n k,p n k=(a n,part (bh P n) k))(M:ak)(c:Ctx)(n:Nat):∀ks:List Nat,u9 M c (p n) ks (tW M c (a n) (p n) (bh P n) ks)
 |[]=>trivial
 |k::ks=>⟨λ Q E D H=>by
  have e:(λ j=>W M c (p n j))=λ j=>W M c (a n,part (bh P n) j):=funext λ j=>by rw[hp]
  show _=tU M (Qr M) c (a n) (λ j=>W M c (p n j)) (part (bh P n) k) k B4 Q E D H;rw[hp n k,e,OO];exact Ey rfl,QR hp M c n ks⟩
def ag5(o:bE)(mk:Nat->AV)(H:ar)(K:Bool->AV->ar->Prop):Ib B4 (B1 (o,mk)) H K=K B4 (mk H.au) (H.alloc o):=propext kc
def xkj(e:Nat)(z:List AV)(H:ar)(K:Bool->AV->ar->Prop):Ib B4 (Op.alloc e z []) H K=K B4 (.ptr H.au 0) (H.alloc (.row z e (0,0) B4)):=propext kc
def GZ(e:Nat)(v:AV)(H:ar)(K:Bool->AV->ar->Prop):Ib B4 (Op.box e [v]) H K=K B4 (.ptr H.au 0) (H.alloc (.row v.cells e (0,0) B4)):=propext kc
@[congr]def ab2{m a:Bool}{o o':Option (bE×(Nat->AV))}{H H':ar}{K:Bool->AV->ar->Prop}(hm:m=a)(h:o=o')(b:H=H'):Ib m o H K=Ib a o' H' K:=by subst hm;subst h;subst b;rfl
abbrev uk:=List (Nat×Kp×Hs)
def jO(n:Nat)(l:uk):Kp:=Ap (motive:=λ _=>Kp) ⟨[],B2,[]⟩ (λ p _ ih=>cond (I4 p.1 n) p.2.1 ih) l
def Fb(M:ak)(c:Ctx)(p:Nat->Nat->Kp×ai):uk->List QL->Prop
 |x::r,l::ls=>u9 M c (p x.1) x.2.1.named l/\Fb M c p r ls
 |_,_=>True
def zZ(M:ak)(c:Ctx)(p:Nat->Nat->Kp×ai)(n:Nat)(ks a:List Nat)(b:Bool)(hs:Hs)(y:Nat×Kp×Hs)(r:uk)(l:QL)(ls:List QL):Fb M c p ((n,⟨a,b,ks⟩,hs)::y::r) (l::ls)=(u9 M c (p n) ks l/\Fb M c p (y::r) ls):=rfl
def zP(M:ak)(c:Ctx)(p:Nat->Nat->Kp×ai)(n:Nat)(ks a:List Nat)(b:Bool)(hs:Hs)(l:QL):Fb M c p [(n,⟨a,b,ks⟩,hs)] [l]=u9 M c (p n) ks l:=propext ⟨λ h=>h.1,λ h=>⟨h,trivial⟩⟩
def tF(M:ak)(c:Ctx)(Kt:Nat->Kp)(p:Nat->Nat->Kp×ai)(r:Nat->Hs->ai)(l:uk):List RL:=Ap (motive:=λ _=>List RL) [] (λ x _ ih=>tW M c (Kt x.1) (p x.1) (r x.1 x.2.2) x.2.1.named::ih) l
def pk{P:Jg}{p:Nat->Nat->Kp×ai}{a:Nat->Kp}(hp:∀n k,p n k=(a n,part (bh P n) k))(M:ak)(c:Ctx)(l:uk)(e:tF M c a p (λ n _=>bh P n) l=tF M c a p (λ n h=>Jt P h n) l):Fb M c p l (tF M c a p (λ n h=>Jt P h n) l):=by
 rw[<-e];clear e
 induction l with
 |nil=>trivial
 |cons x l ih=>exact⟨QR hp M c x.1 _,ih⟩
def XA:eC->eC->Bool
 | .tmp a,.tmp b=>I4 a b
 | .kT a,.kT b=>I4 a b
 | .cZ a b,.cZ c d=>cond (I4 a c) (I4 b d) B2
 |_,_=>B2
def PF{a b:eC}(h:XA a b=B4):a=b:=by
 cases a with
 |tmp a=>cases b with
  |tmp b=>rw[Ln h]
  |_=>cases h
 |kT a=>cases b with
  |kT b=>rw[Ln h]
  |_=>cases h
 |cZ a x=>cases b with
  |cZ b y =>
   have h:cond (I4 a b) (I4 x y) B2=true:=h;cases q:I4 a b with
   |true=>rw[q]at h;rw[Ln q,Ln h]
   |false=>rw[q]at h;cases h
  |_=>cases h
def HA:List eC->List eC->Bool
 |[],[]=>B4
 |a::x,b::y=>cond (XA a b) (HA x y) B2
 |_,_=>B2
def CO:∀{a b:List eC},HA a b=B4->a=b
 |[],[],_=>rfl
 |a::x,b::y,h=>by
  unfold HA at h;cases q:XA a b with
  |true=>rw[q]at h;rw[PF q,CO h]
  |false=>rw[q]at h;cases h
def Zy(P:Jg)(tn:List Nat)(K:Kp)(n:Nat)(rs:List eC)(k:Nat):Bool:=cond (Nz n 99999) (cond (bK n tn) B2 (cond (jX 0 k K.ah) (QY (motive:=λ _=>Bool) B2 (λ F=>HA F.results rs) ((bq P).func n)) B2)) B2
def PE{P:Jg}{c:List Nat}{K:Kp}{n:Nat}{rs:List eC}{k:Nat}(h:Zy P c K n rs k=B4):Nz n 99999=B4/\bK n c=B2/\jX 0 k K.ah=B4/\(bq P).func n=B1 (funcAt P n)/\(funcAt P n).results=rs:=by
 unfold Zy at h;cases a:Nz n 99999 with
 |false=>rw[a]at h;cases h
 |true =>
 cases b:bK n c with
 |true=>rw[a,b]at h;cases h
 |false =>
 cases d:jX 0 k K.ah with
 |false=>rw[a,b,d]at h;cases h
 |true =>
 rw[a,b,d]at h;unfold funcAt;cases f:(bq P).func n with
 |none=>rw[f]at h;cases h
 |some F=>rw[f]at h;exact⟨rfl,rfl,rfl,rfl,CO h⟩
def D9{P:Jg}{n:Nat}(h:Nz n 99999=B4):bh P n=(funcAt P n).body:=by
 unfold bh EC;rw[h,Nat.mod_eq_of_lt (Nat.lt_of_le_of_lt (Nat.le_of_ble_eq_true h) (by decide))]
def KT(i:Nat)(v:AV)(vs:List AV):kF i (v::vs)=(i,v)::kF (i+1) vs:=rfl
def K4(i:Nat):kF i []=[]:=rfl
def aa:type_of% P5/\(∀(o:bE)mk H K,Ib B4 (B1 (o,mk)) H K=K B4 (mk H.au) (H.alloc o))/\(∀e z H K,Ib B4 (Op.alloc e z []) H K=K B4 (.ptr H.au 0) (H.alloc (.row z e (0,0) B4)))/\(∀e v H K,Ib B4 (Op.box e [v]) H K=K B4 (.ptr H.au 0) (H.alloc (.row v.cells e (0,0) B4)))/\(∀i v vs,kF i (v::vs)=(i,v)::kF (i+1) vs)/\(∀i,kF i []=[])/\(∀{α:Type}(F:α->Prop)(K:α),JN F K=F K):=⟨P5,ag5,xkj,GZ,KT,K4,Ja⟩
def QV{M:ak}{P:Jg}{p:Nat->Nat->Kp×ai}{a:Nat->Kp}(hp:∀n k,p n k=(a n,part (bh P n) k)){n:Nat}{F:bZ}(d:M.func n=B1 F){rs:List eC}(hr:F.results=rs){x y t:Nat}(c:sC F.body=B1 (zQ F.body,t,wX F.body))(e:bh P x=zQ F.body)(f:bh P y=wX F.body)(hk:(a x).ah=(a y).ah){vs:List AV}(b:jX 0 vs.length (a x).ah=B4){H:ar}{Q:bM->ar->Prop}
 (h:W M ⟨B5,n⟩ (p x 0) B4 (BE M ⟨B5,n⟩ (p y 0) t (eH M rs Q)) (kF 0 vs) [] H):FW M n vs H Q:=by
 rw[hp,hp,e,f,<-hr]at h;exact IB d hk c b h
def Il{M:ak}{P:Jg}{p:Nat->Nat->Kp×ai}{a:Nat->Kp}(hp:∀n k,p n k=(a n,part (bh P n) k)){n:Nat}{F:bZ}(c:M.func n=B1 F){rs:List eC}(hr:F.results=rs)(d:bh P n=F.body){vs:List AV}(b:jX 0 vs.length (a n).ah=B4){up:Option aH}{H:ar}{Q:bM->ar->Prop}
 (h:W M ⟨B5,n⟩ (p n 0) B4 (eH M rs Q) (kF 0 vs) [] H):∃e H',jS M n vs up H e up H'/\Q e H':=by
 rw[hp,d,<-hr]at h;exact Ir c b h
abbrev M5:Nat:=185
abbrev UH:Nat:=111
abbrev Od:Nat:=153
abbrev Ve:Nat:=109
abbrev MY:Nat:=152
abbrev Yo:Nat:=89
abbrev YV:Nat:=277
abbrev UC:Nat:=114
abbrev Zz:Nat:=276
abbrev X2:Nat:=275
abbrev Nu:Nat:=118
abbrev h_:Nat:=184
abbrev Q2:Nat:=207
abbrev Vp:Nat:=150
abbrev Nw:Nat:=182
abbrev gX:Nat:=154
abbrev Pz:Nat:=186
abbrev qs6:Nat:=183
abbrev VN:Nat:=67
abbrev xk:Nat:=147
abbrev z7:Nat:=61
abbrev cF:Nat:=3
abbrev Xv:Nat:=206
abbrev yf:Nat:=235
abbrev EI:Nat:=164
open Go.Proofs Go.Proofs.YtgjdmncoonceaaaGreatDoor
class MK (M:ak):Prop where
 ok:∀n,bK n [18]=B2->M.func n=(bq Tryz.prog).func n
 mt:∀t s,M.kI t s=(bq Tryz.prog).kI t s
def MK.at{M:ak}[h:MK M]{n:Nat}{F:bZ}(hn:bK n [18]=B2)(a:(bq Tryz.prog).func n=B1 F):M.func n=B1 F:=(h.ok n hn).trans a
def BL{M:ak}[h:MK M]{n:Nat}{F:bZ}(hn:bK n [18]=B2){rs:List eC}(a:(bq Tryz.prog).func n=B1 F/\F.results=rs){ks:Kp}{vs:List AV}(hk:jX 0 vs.length ks.ah=B4){H:ar}{Q:bM->ar->Prop}(hw:W M ⟨B5,n⟩ (ks,part F.body 0) B4 (eH M rs Q) (kF 0 vs) [] H):FW M n vs H Q:=RA (MK.at hn a.1) hk (a.2▸hw)
def kQ{M:ak}[MK M]{p:Nat->Nat->Kp×ai}{a:Nat->Kp}(hp:∀n k,p n k=(a n,part (bh Tryz.prog n) k))(n:Nat)(rs:List eC)(vs:List AV)(b:Zy Tryz.prog [18] (a n) n rs vs.length=B4)(H:ar)(Q:bM->ar->Prop)(h:W M ⟨B5,n⟩ (p n 0) B4 (eH M rs Q) (kF 0 vs) [] H):FW M n vs H Q:=by
 obtain⟨b,c,d,e⟩:=PE b;exact BL c e (ks:=a n) d (by rw[hp,D9 b]at h;exact h)
variable{M:ak}[MK M]{H:ar}{Q:bM->ar->Prop}{a0 a1 a2 a3:AV}
abbrev ZF:uk:=[(67,⟨[0,1,4,5],B2,[0,2,10]⟩,[]),(185,⟨[0,2,3,7,8],B2,[0,2,10,15]⟩,[]),(300185,⟨[0,2,3,7,8],B2,[0]⟩,[]),(200185,⟨[0,2,3,7,8],B2,[0]⟩,[]),(153,⟨[0,2,3,7,8],B2,[0,2,10,15]⟩,[]),(300153,⟨[0,2,3,7,8],B2,[0]⟩,[]),(200153,⟨[0,2,3,7,8],B2,[0]⟩,[]),(277,⟨[0,1,2,6,7,8,9,10],B2,[0,2,18,8,20,14,26]⟩,[]),(276,⟨[0,1,2,6,7,8],B2,[0,2,10,12,20]⟩,[]),(89,⟨[0,1,4,5,6,21],B2,[0,4,12]⟩,[]),(275,⟨[0,1,4,5,6,7],B2,[0,2,10,12,20]⟩,[]),(109,⟨[0,1,4,5,6,7,8,21],B2,[0,4,12]⟩,[]),(111,⟨[0,1,4,5,6,7,8],B2,[0,4,12]⟩,[]),(114,⟨[0,1,2,5,6,7,8],B2,[0,4,10]⟩,[(3,[0,2,4,6,8,10,5,12,14,16])]),(152,⟨[0,1,2,3,7,8,9,10,11,12,21],B2,[0,2,23,16,25,33]⟩,[(13,[0,2,4,6,8,5,10,12])]),(184,⟨[0,1,2],B2,[0]⟩,[]),(150,⟨[0,1,2,6,7,8],B2,[0,2,10,12,20]⟩,[]),(183,⟨[0,1],B2,[0]⟩,[]),(118,⟨[0,1,3,4,5,8,9],B2,[0,2,7]⟩,[]),(300118,⟨[0,1,3,4,5,8,9],B2,[0]⟩,[]),(200118,⟨[0,1,3,4,5,8,9],B2,[0]⟩,[]),(182,⟨[0,1,4,5,6,9,10],B2,[0,2,3,5,7,12]⟩,[]),(300182,⟨[0,1,4,5,6,9,10],B2,[0]⟩,[]),(200182,⟨[0,1,4,5,6,9,10],B2,[0,9,15]⟩,[]),(207,⟨[0,1,3,10,11],B2,[0,1,7,9,13,19,34,23,29]⟩,[]),(154,⟨[0,1,2,3,4],B2,[0]⟩,[]),(186,⟨[0,1,2,4,5,26,27],B2,[0,6,12,18,27]⟩,[])]
def W7(n:Nat):Kp:=jO n ZF
def A7(n k:Nat):Kp×ai:=(W7 n,part (bh Tryz.prog n) k)
def q27(n k:Nat):A7 n k=(W7 n,part (bh Tryz.prog n) k):=rfl
def tZ:=@kQ M _ A7 W7 q27
attribute [local irreducible] PR A7 nY gG fU gI iM gN oO zJ pP vX xJ yH gj mQ oJ rW qJ se oE su nZ eX kH cV AV.undef Op.move Op.pick Op.build Op.nilCheck Op.bin Op.eq Op.un Op.wrap Op.dM Op.eQ Op.dF Op.bH Op.dU Op.aA Op.cS Op.fieldAddr Op.field Op.aR Op.aV Op.bF Op.bQ Op.typeAssert Op.extract Op.fD Op.cw Op.oR Op.cap Op.eY Op.dp Op.dR Op.aE Op.bV Op.ae Op.aq Op.cI Op.lookup Op.gK Op.eS Op.alloc Op.box Op.buildSlice Op.mkMap Op.mkSlice Op.cK Op.dQ Op.makeNoZero Op.store Op.mapUpdate Op.dm Op.eN Op.append Op.copy Op.bS Op.bU Op.eO Op.dT
def jt(M:ak)(c:Ctx):=by
 have h:=pk q27 M c ZF (by kernel_rfl)
 conv at h=>arg 5;reduce
 delta PR RL nZ gN nY gG oO iM mQ fU gI gj oJ qJ se oE pP rW sn ZF at h
 simp only[zZ,zP,zR,Ab,Ao,QP]at h;exact h
def bf(M:ak)(c:Ctx):=(jt M c).2.2.2.2.2.2.2.2
def bn(M:ak)(c:Ctx):=(bf M c).2.2.2.2.2.2.2.2
def bo(M:ak)(c:Ctx):=(bn M c).2.2.2.2.2.2.2.2
def Fj(M:ak)(c:Ctx):=(jt M c).1
def af1:=@tZ M _ VN [.tmp 4,.tmp 5] [a0,a1] (by kernel_rfl) H Q
def Ti:bZ:=funcAt Tryz.prog M5
def O7:dV:=ia Ti 0
abbrev VI(k:Nat):Kp×ai:=A7 300185 k
abbrev ZI(k:Nat):Kp×ai:=A7 200185 k
def z':nth Ti.loops 0=B1 O7/\O7.params=[8]:=⟨by kernel_rfl,by kernel_rfl⟩
def qud:(VI 0).1.ah=[0,2,3,7,8]/\(VI 0).2=O7.assign:=⟨by kernel_rfl,by kernel_rfl⟩
def que:(ZI 0).1.ah=[0,2,3,7,8]/\(ZI 0).2=O7.body:=⟨by kernel_rfl,by kernel_rfl⟩
def qv6:M.func M5=B1 Ti:=MK.at (by decide) (by kernel_rfl)
def _V(M:ak)(c:Ctx):=Gf (jt M c).2.1.1 (Gf (jt M c).2.2.1 (Gf (jt M c).2.2.2.1 (Gf (jt M c).2.1.2.1 (Gf (jt M c).2.1.2.2.1 ((jt M c).2.1.2.2.2)))))
def qxx:=@tZ M _ M5 [.tmp 2] [a0] (by kernel_rfl) H Q
def Ui:bZ:=funcAt Tryz.prog Od
def P8:dV:=ia Ui 0
abbrev X6(k:Nat):Kp×ai:=A7 300153 k
abbrev YX(k:Nat):Kp×ai:=A7 200153 k
def qkb:nth Ui.loops 0=B1 P8/\P8.params=[8]:=⟨by kernel_rfl,by kernel_rfl⟩
def qsp:(X6 0).1.ah=[0,2,3,7,8]/\(X6 0).2=P8.assign:=⟨by kernel_rfl,by kernel_rfl⟩
def qsq:(YX 0).1.ah=[0,2,3,7,8]/\(YX 0).2=P8.body:=⟨by kernel_rfl,by kernel_rfl⟩
def quf:M.func Od=B1 Ui:=MK.at (by decide) (by kernel_rfl)
def qmj(M:ak)(c:Ctx):=Gf (jt M c).2.2.2.2.1.1 (Gf (jt M c).2.2.2.2.2.1 (Gf (jt M c).2.2.2.2.2.2.1 (Gf (jt M c).2.2.2.2.1.2.1 (Gf (jt M c).2.2.2.2.1.2.2.1 ((jt M c).2.2.2.2.1.2.2.2)))))
def qv7:=@tZ M _ Od [.tmp 2] [a0] (by kernel_rfl) H Q
def q48(M:ak)(c:Ctx):=(jt M c).2.2.2.2.2.2.2.1
def q47:=@tZ M _ YV [.tmp 6] [a0,a1,a2] (by kernel_rfl) H Q
def q7m(M:ak)(c:Ctx):=(bf M c).1
def q7l:=@tZ M _ Zz [.tmp 6] [a0,a1,a2] (by kernel_rfl) H Q
def q46(M:ak)(c:Ctx):=(bf M c).2.1
def q45:=@tZ M _ Yo [.cZ 21 4,.tmp 5] [a0,a1] (by kernel_rfl) H Q
def q5a(M:ak)(c:Ctx):=(bf M c).2.2.1
def q49:=@tZ M _ X2 [.tmp 4,.tmp 5] [a0,a1] (by kernel_rfl) H Q
def q42(M:ak)(c:Ctx):=(bf M c).2.2.2.1
def q41:=@tZ M _ Ve [.cZ 21 4,.tmp 5] [a0,a1] (by kernel_rfl) H Q
def qxz(M:ak)(c:Ctx):=(bf M c).2.2.2.2.1
def qxy:=@tZ M _ UH [.cZ 8 4,.tmp 5] [a0,a1] (by kernel_rfl) H Q
def qv9(M:ak)(c:Ctx):=(bf M c).2.2.2.2.2.1
def qv8:=@tZ M _ UC [.tmp 6] [a0,a1,a2] (by kernel_rfl) H Q
abbrev X_(k:Nat):Kp×ai:=A7 MY k
def q44(M:ak)(c:Ctx):=(bf M c).2.2.2.2.2.2.1
def q43:=@tZ M _ MY [.cZ 21 8,.tmp 9,.tmp 10] [a0,a1,a2,a3] (by kernel_rfl) H Q
def q5e(M:ak)(c:Ctx):=(bf M c).2.2.2.2.2.2.2.1
def q5d:=@tZ M _ h_ [.tmp 2] [a0] (by kernel_rfl) H Q
def xae(M:ak)(c:Ctx):=(bn M c).1
def xad:=@tZ M _ Vp [.tmp 6,.tmp 7] [a0,a1,a2] (by kernel_rfl) H Q
def q7r(M:ak)(c:Ctx):=(bn M c).2.1
def q7q:=@tZ M _ qs6 [] [a0,a1] (by kernel_rfl) H Q
def Uv:bZ:=funcAt Tryz.prog Nu
def Ra:dV:=ia Uv 0
abbrev WC(k:Nat):Kp×ai:=A7 300118 k
abbrev VY(k:Nat):Kp×ai:=A7 200118 k
def qrg:nth Uv.loops 0=B1 Ra/\Ra.params=[9]:=⟨by kernel_rfl,by kernel_rfl⟩
def q5b:(WC 0).1.ah=[0,1,3,4,5,8,9]/\(WC 0).2=Ra.assign:=⟨by kernel_rfl,by kernel_rfl⟩
def q5c:(VY 0).1.ah=[0,1,3,4,5,8,9]/\(VY 0).2=Ra.body:=⟨by kernel_rfl,by kernel_rfl⟩
def q7n:M.func Nu=B1 Uv:=MK.at (by decide) (by kernel_rfl)
def S5(M:ak)(c:Ctx):=Gf (bn M c).2.2.1.1 (Gf (bn M c).2.2.2.1 (Gf (bn M c).2.2.2.2.1 (Gf (bn M c).2.2.1.2.1 ((bn M c).2.2.1.2.2))))
def xac:=@tZ M _ Nu [.kT 4] [a0,a1] (by kernel_rfl) H Q
def Ud:bZ:=funcAt Tryz.prog Nw
def Qj:dV:=ia Ud 0
abbrev Z1(k:Nat):Kp×ai:=A7 300182 k
abbrev UQ(k:Nat):Kp×ai:=A7 200182 k
def _q:nth Ud.loops 0=B1 Qj/\Qj.params=[10]:=⟨by kernel_rfl,by kernel_rfl⟩
def qx2:(Z1 0).1.ah=[0,1,4,5,6,9,10]/\(Z1 0).2=Qj.assign:=⟨by kernel_rfl,by kernel_rfl⟩
def qx3:(UQ 0).1.ah=[0,1,4,5,6,9,10]/\(UQ 0).2=Qj.body:=⟨by kernel_rfl,by kernel_rfl⟩
def q0m:M.func Nw=B1 Ud:=MK.at (by decide) (by kernel_rfl)
def t_(M:ak)(c:Ctx):=Gf (bn M c).2.2.2.2.2.1.1 (Gf (bn M c).2.2.2.2.2.2.1 (Gf (bn M c).2.2.2.2.2.2.2.1.1 (Gf (bn M c).2.2.2.2.2.1.2.1 (Gf (bn M c).2.2.2.2.2.2.2.1.2.1 (Gf (bn M c).2.2.2.2.2.1.2.2.1 (Gf (bn M c).2.2.2.2.2.2.2.1.2.2 (Gf (bn M c).2.2.2.2.2.1.2.2.2.1 (Gf (bn M c).2.2.2.2.2.1.2.2.2.2.1 ((bn M c).2.2.2.2.2.1.2.2.2.2.2)))))))))
def q5f:=@tZ M _ Nw [.kT 4] [a0,a1] (by kernel_rfl) H Q
def qx1(M:ak)(c:Ctx):=(bo M c).1
def qx0:=@tZ M _ Q2 [] [a0,a1] (by kernel_rfl) H Q
def q7p(M:ak)(c:Ctx):=(bo M c).2.1
def q7o:=@tZ M _ gX [.tmp 4] [a0,a1] (by kernel_rfl) H Q
def q0o(M:ak)(c:Ctx):=(bo M c).2.2
def q0n:=@tZ M _ Pz [] [a0,a1,a2] (by kernel_rfl) H Q
abbrev UO:Nat:=52
abbrev Yx:Nat:=87
abbrev YE:Nat:=265
abbrev ZH:Nat:=266
abbrev fB:Nat:=267
abbrev YU:Nat:=268
abbrev Pm:Nat:=84
abbrev vc:Nat:=81
abbrev ZE:Nat:=113
abbrev qpg:Nat:=269
abbrev Po:Nat:=270
abbrev OB:Nat:=271
abbrev H_:Nat:=116
abbrev YQ:Nat:=274
abbrev Oi:Nat:=115
abbrev WI:Nat:=117
abbrev B':Nat:=108
abbrev UB:Nat:=272
abbrev Yk:Nat:=107
abbrev qqq:Nat:=110
abbrev qna:Nat:=273
abbrev G':Nat:=149
abbrev Wk:Nat:=112
abbrev ZR:Nat:=151
abbrev Vb:Nat:=181
abbrev xm:Nat:=63
abbrev Bb:Nat:=23
abbrev Pc:Nat:=169
abbrev WQ:uk:=[(52,⟨[0,1,3,4,5,6,7],B2,[0,4,12]⟩,[]),(269,⟨[0,2],B2,[0]⟩,[]),(270,⟨[0,1,4,5,6,7,8,9,11],B2,[0,2,12,14,24,30]⟩,[]),(271,⟨[0,1,2,6,7,8,9,10],B2,[0,2,12,14,22,28]⟩,[]),(266,⟨[0,1,2,3,8,9,10,11,12,13,14],B2,[0,2,12,20,22,30,32,38]⟩,[]),(265,⟨[0,2],B2,[0,2,17]⟩,[]),(268,⟨[0,2],B2,[0,2,17]⟩,[]),(87,⟨[0,1,4],B2,[0,2,23,16]⟩,[]),(81,⟨[0,1,3,4,5,6,7,8,9,51,69],B2,[0,2,10,12,20,73,34,75,40,85,41,49,53,61]⟩,[]),(84,⟨[0,1,4,5,6,7],B2,[0,2,17,19,27,33]⟩,[]),(267,⟨[0,2],B2,[0,2,10]⟩,[]),(272,⟨[0,1,4],B2,[0,2,17]⟩,[]),(274,⟨[0,1,2,6],B2,[0,2,10]⟩,[]),(273,⟨[0,1,4,5,6],B2,[0]⟩,[]),(116,⟨[0,1],B2,[0]⟩,[]),(107,⟨[0,1,2,4,5,6,8,14],B2,[0,2,41,12,18,28]⟩,[(8,[0,2,4,6,8,10,12,14,7,16,18]),(10,[0,2,4,6,8,10,12,14,7,16,18])]),(108,⟨[0,1,2,4],B2,[0]⟩,[]),(110,⟨[0,1,2,6,11],B2,[0]⟩,[]),(112,⟨[0,1,4,5,6,7],B2,[0,4,12,35,17,23,34]⟩,[]),(113,⟨[0,1,3],B2,[0]⟩,[]),(115,⟨[0,1,3,4,5,6,7,8],B2,[0,4,10,12,20,28]⟩,[]),(117,⟨[0,1,3,4,5],B2,[0,2,10]⟩,[]),(149,⟨[0,1,4],B2,[0]⟩,[]),(151,⟨[0,1,4,5,7,8],B2,[0,2,25,7,13,24]⟩,[]),(181,⟨[0,1,4,5,7,8],B2,[0,2,25,7,13,24]⟩,[])]
def XT(n:Nat):Kp:=jO n WQ
def JC(n k:Nat):Kp×ai:=(XT n,part (bh Tryz.prog n) k)
def q3b(n k:Nat):JC n k=(XT n,part (bh Tryz.prog n) k):=rfl
def vr:=@kQ M _ JC XT q3b
attribute [local irreducible] JC
def vq(M:ak)(c:Ctx):=by
 have h:=pk q3b M c WQ (by kernel_rfl)
 conv at h=>arg 5;reduce
 delta PR RL nZ gN nY gG oO iM mQ fU gI gj oJ qJ oE pP rW sn WQ at h
 simp only[zZ,zP,zR,Ab,Ao,QP]at h;exact h
def bB(M:ak)(c:Ctx):=(vq M c).2.2.2.2.2.2.2.2
def cb(M:ak)(c:Ctx):=(bB M c).2.2.2.2.2.2.2.2
def ck(M:ak)(c:Ctx):=(cb M c).2.2.2.2.2.2.2.2
def xju(M:ak)(c:Ctx):=(vq M c).1
def xjt:=@vr M _ UO [.tmp 4,.tmp 5] [a0,a1] (by kernel_rfl) H Q
def q03(M:ak)(c:Ctx):=(vq M c).2.1
def q02:=@vr M _ qpg [.tmp 2] [a0] (by kernel_rfl) H Q
abbrev q04(k:Nat):Kp×ai:=JC Po k
def q06(M:ak)(c:Ctx):=(vq M c).2.2.1
def q05:=@vr M _ Po [.tmp 4,.tmp 5,.tmp 6,.tmp 7] [a0,a1] (by kernel_rfl) H Q
abbrev qx9(k:Nat):Kp×ai:=JC OB k
def qyb(M:ak)(c:Ctx):=(vq M c).2.2.2.1
def qya:=@vr M _ OB [.tmp 6,.tmp 7,.tmp 8] [a0,a1,a2] (by kernel_rfl) H Q
def q5z(M:ak)(c:Ctx):=(vq M c).2.2.2.2.1
def q5y:=@vr M _ ZH [.tmp 8,.tmp 9,.tmp 10,.tmp 11] [a0,a1,a2,a3] (by kernel_rfl) H Q
def qx8(M:ak)(c:Ctx):=(vq M c).2.2.2.2.2.1
def qx7:=@vr M _ YE [.tmp 2] [a0] (by kernel_rfl) H Q
def qwe(M:ak)(c:Ctx):=(vq M c).2.2.2.2.2.2.1
def qwd:=@vr M _ YU [.tmp 2] [a0] (by kernel_rfl) H Q
def qx6(M:ak)(c:Ctx):=(vq M c).2.2.2.2.2.2.2.1
def qx5:=@vr M _ Yx [.tmp 4] [a0,a1] (by kernel_rfl) H Q
abbrev Oj(k:Nat):Kp×ai:=JC vc k
def q01(M:ak)(c:Ctx):=(bB M c).1
def q00:=@vr M _ vc [.tmp 4,.tmp 5] [a0,a1] (by kernel_rfl) H Q
abbrev q0v(k:Nat):Kp×ai:=JC Pm k
def q0x(M:ak)(c:Ctx):=(bB M c).2.1
def q0w:=@vr M _ Pm [.tmp 4,.tmp 5] [a0,a1] (by kernel_rfl) H Q
def q0u(M:ak)(c:Ctx):=(bB M c).2.2.1
def q0t:=@vr M _ fB [.tmp 2] [a0] (by kernel_rfl) H Q
def q53(M:ak)(c:Ctx):=(bB M c).2.2.2.1
def q52:=@vr M _ UB [.tmp 4] [a0,a1] (by kernel_rfl) H Q
def q51(M:ak)(c:Ctx):=(bB M c).2.2.2.2.1
def q50:=@vr M _ YQ [.tmp 6] [a0,a1,a2] (by kernel_rfl) H Q
def qyf(M:ak)(c:Ctx):=(bB M c).2.2.2.2.2.1
def qye:=@vr M _ qna [.tmp 4] [a0,a1] (by kernel_rfl) H Q
def qyd(M:ak)(c:Ctx):=(bB M c).2.2.2.2.2.2.1
def qyc:=@vr M _ H_ [] [a0,a1] (by kernel_rfl) H Q
def qul(M:ak)(c:Ctx):=(bB M c).2.2.2.2.2.2.2.1
def quk:=@vr M _ Yk [.tmp 6] [a0,a1,a2] (by kernel_rfl) H Q
def MU(M:ak)(c:Ctx):=(cb M c).1
def q1b:=@vr M _ B' [] [a0,a1,a2] (by kernel_rfl) H Q
def q55(M:ak)(c:Ctx):=(cb M c).2.1
def q54:=@vr M _ qqq [.cZ 11 6] [a0,a1,a2] (by kernel_rfl) H Q
def qox(M:ak)(c:Ctx):=(cb M c).2.2.1
def qow:=@vr M _ Wk [.tmp 4] [a0,a1] (by kernel_rfl) H Q
def W_(M:ak)(c:Ctx):=(cb M c).2.2.2.1
def qwf:=@vr M _ ZE [.tmp 3] [a0,a1] (by kernel_rfl) H Q
abbrev _J(k:Nat):Kp×ai:=JC Oi k
def q08(M:ak)(c:Ctx):=(cb M c).2.2.2.2.1
def q07:=@vr M _ Oi [.tmp 4] [a0,a1] (by kernel_rfl) H Q
def q1a(M:ak)(c:Ctx):=(cb M c).2.2.2.2.2.1
def q09:=@vr M _ WI [.tmp 4] [a0,a1] (by kernel_rfl) H Q
def qrz(M:ak)(c:Ctx):=(cb M c).2.2.2.2.2.2.1
def qry:=@vr M _ G' [.tmp 4] [a0,a1] (by kernel_rfl) H Q
def qqb(M:ak)(c:Ctx):=(cb M c).2.2.2.2.2.2.2.1
def qqa:=@vr M _ ZR [.tmp 4] [a0,a1] (by kernel_rfl) H Q
def qwo(M:ak)(c:Ctx):=(ck M c)
def qwn:=@vr M _ Vb [.tmp 4] [a0,a1] (by kernel_rfl) H Q
abbrev Ga:Nat:=80
abbrev O':Nat:=53
abbrev ZY:Nat:=103
abbrev Ni:Nat:=105
abbrev Sv:Nat:=106
abbrev ZV:Nat:=51
abbrev _x:Nat:=148
abbrev Pe:Nat:=180
abbrev Jv:Nat:=104
abbrev Uj:Nat:=146
abbrev Yn:Nat:=72
abbrev U3:Nat:=68
abbrev UU:Nat:=88
abbrev VT:Nat:=66
abbrev l_:Nat:=147
abbrev ZZ:Nat:=179
abbrev sE:Nat:=113
abbrev _N:Nat:=159
abbrev Yp:Nat:=160
abbrev P2:Nat:=163
abbrev Θ:Nat:=203
abbrev Yb:uk:=[(51,⟨[0,1,4,5,6,7,8,9,35,36],B2,[0,4,12,14,31,19,25,30]⟩,[]),(80,⟨[0,1,3,4,5,6,7,8,9,37,38],B2,[0,2,10,12,20,28,32,113,42,119,45,61,66,55,71,86,73,99,79]⟩,[]),(53,⟨[0,1,2,5,6],B2,[0,2,10]⟩,[]),(66,⟨[0,2,3],B2,[0,2,10]⟩,[]),(68,⟨[0,1,2,5,6,7,8],B2,[0,4,10]⟩,[]),(103,⟨[0,1,4],B2,[0,2,10]⟩,[]),(104,⟨[0,1,3,4,5,6,9,10],B2,[0,4,51,14,17,26,38]⟩,[]),(105,⟨[0,1,2,5,6,7,8,9,74,75],B2,[0,4,22,10,24,12,32,18,36,41]⟩,[]),(300105,⟨[0,1,2,5,6,7,8,9,74,75],B2,[0]⟩,[]),(200105,⟨[0,1,2,5,6,7,8,9,74,75],B2,[0]⟩,[]),(106,⟨[0,1,4,5,7,11],B2,[0,4,8,18]⟩,[]),(88,⟨[0,1,4,5],B2,[0,2,17]⟩,[]),(146,⟨[0,1,2,3],B2,[0]⟩,[]),(147,⟨[0,1,4],B2,[0]⟩,[]),(148,⟨[0,1,2],B2,[0]⟩,[]),(72,⟨[0,1,4,5,6,7,8],B2,[0,4,12]⟩,[]),(179,⟨[0,1,4,5,7,8],B2,[0,2,25,7,13,24]⟩,[]),(180,⟨[0,1,3,4],B2,[0,4,10,19]⟩,[])]
def Xw(n:Nat):Kp:=jO n Yb
def LR(n k:Nat):Kp×ai:=(Xw n,part (bh Tryz.prog n) k)
def KF(n k:Nat):LR n k=(Xw n,part (bh Tryz.prog n) k):=rfl
def vV:=@kQ M _ LR Xw KF
attribute [local irreducible] LR
def ve(M:ak)(c:Ctx):=by
 have h:=pk KF M c Yb (by kernel_rfl)
 conv at h=>arg 5;reduce
 delta PR RL nZ gN nY gG oO mQ fU gI gj oJ qJ se oE pP rW sn Yb at h
 simp only[zZ,zP,zR,Ab,Ao,QP]at h;exact h
def cn(M:ak)(c:Ctx):=(ve M c).2.2.2.2.2.2.2.2
def cr(M:ak)(c:Ctx):=(cn M c).2.2.2.2.2.2.2.2
def xlu(M:ak)(c:Ctx):=(ve M c).1
def xlt:=@vV M _ ZV [.tmp 4,.tmp 5] [a0,a1] (by kernel_rfl) H Q
abbrev Wx(k:Nat):Kp×ai:=LR Ga k
def Ω(M:ak)(c:Ctx):=(ve M c).2.1
def q7f:=@vV M _ Ga [.tmp 4,.tmp 5] [a0,a1] (by kernel_rfl) H Q
def q9w(M:ak)(c:Ctx):=(ve M c).2.2.1
def q9v:=@vV M _ O' [.tmp 6] [a0,a1,a2] (by kernel_rfl) H Q
def xmz(M:ak)(c:Ctx):=(ve M c).2.2.2.1
def xmy:=@vV M _ VT [.tmp 2,.tmp 3] [a0] (by kernel_rfl) H Q
def xar(M:ak)(c:Ctx):=(ve M c).2.2.2.2.1
def xaq:=@vV M _ U3 [.tmp 6] [a0,a1,a2] (by kernel_rfl) H Q
def xce(M:ak)(c:Ctx):=(ve M c).2.2.2.2.2.1
def xcd:=@vV M _ ZY [.tmp 4] [a0,a1] (by kernel_rfl) H Q
abbrev S4(k:Nat):Kp×ai:=LR Jv k
def q4n(M:ak)(c:Ctx):=(ve M c).2.2.2.2.2.2.1
def q4m:=@vV M _ Jv [.tmp 4] [a0,a1] (by kernel_rfl) H Q
def Ur:bZ:=funcAt Tryz.prog Ni
def Pa:dV:=ia Ur 0
abbrev Yl(k:Nat):Kp×ai:=LR 300105 k
abbrev Wf(k:Nat):Kp×ai:=LR 200105 k
def kn:nth Ur.loops 0=B1 Pa/\Pa.params=[75]:=⟨by kernel_rfl,by kernel_rfl⟩
def qxs:(Yl 0).1.ah=[0,1,2,5,6,7,8,9,74,75]/\(Yl 0).2=Pa.assign:=⟨by kernel_rfl,by kernel_rfl⟩
def qxt:(Wf 0).1.ah=[0,1,2,5,6,7,8,9,74,75]/\(Wf 0).2=Pa.body:=⟨by kernel_rfl,by kernel_rfl⟩
def q0j:M.func Ni=B1 Ur:=MK.at (by decide) (by kernel_rfl)
def S2(M:ak)(c:Ctx):=Gf (ve M c).2.2.2.2.2.2.2.1.1 (Gf (cn M c).1 (Gf (cn M c).2.1 (Gf (ve M c).2.2.2.2.2.2.2.1.2.1 (Gf (ve M c).2.2.2.2.2.2.2.1.2.2.1 (Gf (ve M c).2.2.2.2.2.2.2.1.2.2.2.1 (Gf (ve M c).2.2.2.2.2.2.2.1.2.2.2.2.1 (Gf (ve M c).2.2.2.2.2.2.2.1.2.2.2.2.2.1 (Gf (ve M c).2.2.2.2.2.2.2.1.2.2.2.2.2.2.1 (Gf (ve M c).2.2.2.2.2.2.2.1.2.2.2.2.2.2.2.1 (Gf (ve M c).2.2.2.2.2.2.2.1.2.2.2.2.2.2.2.2.1 ((ve M c).2.2.2.2.2.2.2.1.2.2.2.2.2.2.2.2.2)))))))))))
def q4j:=@vV M _ Ni [.tmp 6] [a0,a1,a2] (by kernel_rfl) H Q
def q4l(M:ak)(c:Ctx):=(cn M c).2.2.1
def q4k:=@vV M _ Sv [.cZ 11 4] [a0,a1] (by kernel_rfl) H Q
def xde(M:ak)(c:Ctx):=(cn M c).2.2.2.1
def xdd:=@vV M _ UU [.tmp 4,.tmp 5] [a0,a1] (by kernel_rfl) H Q
def qnt(M:ak)(c:Ctx):=(cn M c).2.2.2.2.1
def qxu:=@vV M _ Uj [.tmp 3] [a0,a1] (by kernel_rfl) H Q
def qj0(M:ak)(c:Ctx):=(cn M c).2.2.2.2.2.1
def qjz:=@vV M _ l_ [.tmp 4] [a0,a1] (by kernel_rfl) H Q
def q0l(M:ak)(c:Ctx):=(cn M c).2.2.2.2.2.2.1
def q0k:=@vV M _ _x [.tmp 2] [a0] (by kernel_rfl) H Q
def q72(M:ak)(c:Ctx):=(cn M c).2.2.2.2.2.2.2.1
def q71:=@vV M _ Yn [.cZ 8 4,.tmp 5] [a0,a1] (by kernel_rfl) H Q
def qly(M:ak)(c:Ctx):=(cr M c).1
def qlx:=@vV M _ ZZ [.tmp 4] [a0,a1] (by kernel_rfl) H Q
def qvz(M:ak)(c:Ctx):=(cr M c).2
def qvy:=@vV M _ Pe [] [a0,a1] (by kernel_rfl) H Q
abbrev Nh:Nat:=65
abbrev Jd:Nat:=86
abbrev Ue:Nat:=258
abbrev TQ:Nat:=259
abbrev TM:Nat:=260
abbrev SM:Nat:=261
abbrev RX:Nat:=63
abbrev Qc:Nat:=64
abbrev TB:Nat:=262
abbrev Tj:Nat:=263
abbrev T6:Nat:=264
abbrev Yz:Nat:=83
abbrev RS:Nat:=85
abbrev UX:Nat:=82
abbrev Va:Nat:=37
abbrev Wy:Nat:=79
abbrev KD:Nat:=115
abbrev Li:Nat:=116
variable{a4:AV}
abbrev UW:uk:=[(37,⟨[0,1,2,4,5,6,7,8,9,10,11,12,13,37,38,60,61,62],B2,[0,4,12,14,41,19,58,46,25,52,40,31,57,39]⟩,[]),(263,⟨[0,1,2,6,7,8,9,10],B2,[0,4,12]⟩,[]),(264,⟨[0,1,2,3,8,9,10,11],B2,[0,4,12]⟩,[]),(259,⟨[0,1,2,3,4,10,11,12,13,14],B2,[0,4,12]⟩,[]),(258,⟨[0,1,4],B2,[0]⟩,[]),(261,⟨[0,1,4],B2,[0]⟩,[]),(65,⟨[0,1,2,5,6],B2,[0]⟩,[]),(64,⟨[0,1,2,6,7,8,9],B2,[0,4,12]⟩,[]),(63,⟨[0,1,4,5,6,7,8,11],B2,[0,2,17,21,23,29]⟩,[]),(262,⟨[0,1,4,5],B2,[0]⟩,[]),(260,⟨[0,1,4,5],B2,[0]⟩,[]),(82,⟨[0,1],B2,[0]⟩,[]),(83,⟨[0,1,4,5],B2,[0,2,17]⟩,[]),(85,⟨[0,1,2,6,7,8],B2,[0,4,12]⟩,[]),(86,⟨[0,1,3],B2,[0]⟩,[]),(79,⟨[0,1,2,6,7],B2,[0,4,12]⟩,[])]
def Zl(n:Nat):Kp:=jO n UW
def YA(n k:Nat):Kp×ai:=(Zl n,part (bh Tryz.prog n) k)
def q22(n k:Nat):YA n k=(Zl n,part (bh Tryz.prog n) k):=rfl
def vI:=@kQ M _ YA Zl q22
attribute [local irreducible] YA
def vY(M:ak)(c:Ctx):=by
 have h:=pk q22 M c UW (by kernel_rfl)
 conv at h=>arg 5;reduce
 delta PR RL nZ gN nY gG oO mQ fU gI gj oJ qJ oE pP rW sn UW at h
 simp only[zZ,zP,zR,Ab,Ao,QP]at h;exact h
def cA(M:ak)(c:Ctx):=(vY M c).2.2.2.2.2.2.2.2
def Uu(M:ak)(c:Ctx):=(vY M c).1
def xlg:=@vI M _ Va [.tmp 4,.tmp 5] [a0,a1] (by kernel_rfl) H Q
def q69(M:ak)(c:Ctx):=(vY M c).2.1
def q68:=@vI M _ Tj [.tmp 6,.tmp 7,.tmp 8] [a0,a1,a2] (by kernel_rfl) H Q
def q37(M:ak)(c:Ctx):=(vY M c).2.2.1
def q36:=@vI M _ T6 [.tmp 8,.tmp 9] [a0,a1,a2,a3] (by kernel_rfl) H Q
def q9s(M:ak)(c:Ctx):=(vY M c).2.2.2.1
def q9r:=@vI M _ TQ [.tmp 10,.tmp 11,.tmp 12] [a0,a1,a2,a3,a4] (by kernel_rfl) H Q
def q35(M:ak)(c:Ctx):=(vY M c).2.2.2.2.1
def q34:=@vI M _ Ue [.tmp 4] [a0,a1] (by kernel_rfl) H Q
def qz2(M:ak)(c:Ctx):=(vY M c).2.2.2.2.2.1
def qz1:=@vI M _ SM [.tmp 4] [a0,a1] (by kernel_rfl) H Q
def U7(M:ak)(c:Ctx):=(vY M c).2.2.2.2.2.2.1
def YD:=@vI M _ Nh [.tmp 6] [a0,a1,a2] (by kernel_rfl) H Q
def yb(M:ak)(c:Ctx):=(vY M c).2.2.2.2.2.2.2.1
def χ:=@vI M _ Qc [.tmp 6] [a0,a1,a2] (by kernel_rfl) H Q
def qnq(M:ak)(c:Ctx):=(cA M c).1
def Ξ:=@vI M _ RX [.cZ 11 4,.tmp 5] [a0,a1] (by kernel_rfl) H Q
def q67(M:ak)(c:Ctx):=(cA M c).2.1
def q66:=@vI M _ TB [.tmp 4] [a0,a1] (by kernel_rfl) H Q
def q65(M:ak)(c:Ctx):=(cA M c).2.2.1
def q64:=@vI M _ TM [.tmp 4] [a0,a1] (by kernel_rfl) H Q
def q7d(M:ak)(c:Ctx):=(cA M c).2.2.2.1
def q7c:=@vI M _ UX [] [a0,a1] (by kernel_rfl) H Q
def xb5(M:ak)(c:Ctx):=(cA M c).2.2.2.2.1
def xb4:=@vI M _ Yz [.tmp 4,.tmp 5] [a0,a1] (by kernel_rfl) H Q
def qti(M:ak)(c:Ctx):=(cA M c).2.2.2.2.2.1
def hK:=@vI M _ RS [.tmp 6] [a0,a1,a2] (by kernel_rfl) H Q
def qxe(M:ak)(c:Ctx):=(cA M c).2.2.2.2.2.2.1
def qxd:=@vI M _ Jd [.tmp 3] [a0,a1] (by kernel_rfl) H Q
def qo1(M:ak)(c:Ctx):=(cA M c).2.2.2.2.2.2.2
def qo0:=@vI M _ Wy [.tmp 6] [a0,a1,a2] (by kernel_rfl) H Q
abbrev qh0:Nat:=210
abbrev Yy:Nat:=125
abbrev Sg:Nat:=160
abbrev Rm:Nat:=161
abbrev SZ:Nat:=162
abbrev S8:Nat:=163
abbrev MZ:Nat:=159
abbrev LJ:Nat:=190
abbrev X3:Nat:=191
abbrev xU:Nat:=60
abbrev jm:Nat:=135
abbrev AK:Nat:=108
abbrev yv:Nat:=0
abbrev Vf:uk:=[(125,⟨[0,1,2,3,4,5,6,7,8,9,10,11,12,13,14,49],B2,[0,2,10,14,18,22,129,38,50,62,74,86,98,110,122]⟩,[(7,[0,2,4,8,10,12,16,18,20,6,13,21,14,21,22,24,26,28])]),(160,⟨[0,1,2,4,5],B2,[0]⟩,[]),(161,⟨[0,1,2,4,5],B2,[0,2,10,18]⟩,[]),(162,⟨[0,1,3,5],B2,[0]⟩,[]),(163,⟨[0,1,3],B2,[0]⟩,[]),(191,⟨[0,1,4],B2,[0]⟩,[]),(210,⟨[0,1,4],B2,[0]⟩,[])]
def YC(n:Nat):Kp:=jO n Vf
def Wr(n k:Nat):Kp×ai:=(YC n,part (bh Tryz.prog n) k)
def q26(n k:Nat):Wr n k=(YC n,part (bh Tryz.prog n) k):=rfl
def KW:=@kQ M _ Wr YC q26
attribute [local irreducible] Wr
def L4(M:ak)(c:Ctx):=by
 have h:=pk q26 M c Vf (by kernel_rfl)
 conv at h=>arg 5;reduce
 delta PR RL nZ gN nY gG oO iM mQ fU gI gj oJ oE pP rW sn Vf at h
 simp only[zZ,zP,zR,Ab,Ao,QP]at h;exact h
def EV(M:ak)(c:Ctx):=(L4 M c).1
def ag2:=@KW M _ Yy [.cZ 5 6] [a0,a1,a2] (by kernel_rfl) H Q
def WA:bZ:=funcAt Tryz.prog MZ
def q4z:Kp:=⟨[0,1,2,3,4,5,6,19,20],B2,[0,4,9,15,26,27]⟩
def yA(k:Nat):Kp×ai:=(q4z,part WA.body k)
def xfm(M:ak)(c:Ctx):(WE M c (yA 0) λ Q E D H=>Lz E 0 λ g f=>A3 g AK (AV.cells f) H λ g b H1=>Fl g 0 b H1 λ g h=>C3 M g (.func LJ) [h] H1 λ g a o=>B3 g ((Op.extract 0) [a]) λ g d=>B3 g ((Op.extract 1) [a]) λ g e=>W M c (yA 4) g Q ((4,e)::(3,d)::(2,(.bool B2))::(1,b)::E) D o) /\
 (WE M c (yA 4) λ Q E D H=>Lz E 1 λ g a=>Fl g 1 a H λ g b=>Fl g 2 a H λ g d=>Fl g 3 a H λ g e=>B3 g ((Op.build [(.int .i64 0),(.int .i64 0),(.int .i64 0)] [(0,1),(1,1),(2,1)]) [b,d,e]) λ g f=>b9 (W M c (yA 9)) (eX 0 (fm (W M c (yA 27)) Q)) ((20,(.int .i64 0))::(19,f)::E) D H) /\
 (WE M c (yA 27) λ Q E D H=>Lz E 4 λ g a=>qQ g Q .ret ((2,a)::E) D H) /\
 (WE M c (yA 9) λ Q E D H=>Lz E 20 λ g a=>Cb g .lss a (.int .i64 3) (λ g=>Gt g M c (yA 15) Q E D H) (λ g=>qQ g (fm (W M c (yA 15)) Q) (.exit 0) E D H)) /\
 (WE M c (yA 15) λ Q E D H=>Lz E 20 λ g b=>Ly g E 19 λ g j=>B3 g ((Op.bF 3 1 B5) [j,b]) λ g a=>Ly g E 3 λ g r=>B3 g (Op.bQ [(.str [65,66,67]),b]) λ g l=>C3 M g (.func X3) [r,l] H λ g m H1=>Bn g .geq m (.int .i64 0) λ g e=>JN (λ(k:Bool->AV->AV->AV->ar->Prop)=>B3 g (cV B4 (B1 e)) λ g w=>vE g w (λ g=>Bn g .lss a (.int .i64 0) λ g i=>k g i i a H1) (λ g=>k g uu uu uu H1)) (λ g d _ _ o=>JN (λ(k:Bool->AV->AV->ar->Prop)=>B3 g (cV B2 (B1 d)) λ g w=>vE g w (λ g=>Bn g .geq a (.int .i64 8) λ g n=>k g n a o) (λ g=>k g uu uu o)) (λ g f _ s=>JN (λ(k:Bool->AV->ar->Prop)=>B3 g (cV B4 (B1 e)) λ g w=>vE g w (λ g=>B3 g (Op.pick [d,(.bool B4),f]) λ g p=>k g p s) (λ g=>k g uu s)) (λ g h t=>B3 g (Op.pick [e,h,(.bool B2)]) λ g q=>mU g q (λ g=>qQ g (eX 1 (fm (W M c (yA 26)) Q)) .ret ((2,(.bool B2))::(6,a)::(5,b)::E) D t) (λ g=>qQ g (eX 1 (fm (W M c (yA 26)) Q)) .normal ((6,a)::(5,b)::E) D t))))) /\
 (WE M c (yA 26) λ Q E D H=>Lz E 20 λ g a=>Bn g .add a (.int .i64 1) λ g b=>qQ g Q .normal ((20,b)::E) D H):=by(repeat' apply Gf)<;>(intro _ _ _ _;refine Ey ?_;kernel_rfl)
def xfk:(bq Tryz.prog).func MZ=B1 WA/\WA.results=[.tmp 2]:=xhs (by kernel_rfl)
def xfl(h:W M ⟨B5,MZ⟩ (yA 0) B4 (eH M [.tmp 2] Q) [(0,a0)] [] H):FW M MZ [a0] H Q:=BL (by decide) xfk (ks:=q4z) (by kernel_rfl) h
def xi9(M:ak)(c:Ctx):=(L4 M c).2.1
def xi8:=@KW M _ Sg [.cZ 5 4] [a0,a1,a2] (by kernel_rfl) H Q
def xjb(M:ak)(c:Ctx):=(L4 M c).2.2.1
def xja:=@KW M _ Rm [.cZ 5 4] [a0,a1,a2] (by kernel_rfl) H Q
def xjd(M:ak)(c:Ctx):=(L4 M c).2.2.2.1
def xjc:=@KW M _ SZ [.cZ 5 3] [a0,a1] (by kernel_rfl) H Q
def xjf(M:ak)(c:Ctx):=(L4 M c).2.2.2.2.1
def xje:=@KW M _ S8 [.tmp 3] [a0,a1] (by kernel_rfl) H Q
def Zw:bZ:=funcAt Tryz.prog LJ
def A_:Kp:=⟨[0,2,3],B2,[0,2,10]⟩
def Lb(k:Nat):Kp×ai:=(A_,part Zw.body k)
def xfp(M:ak)(c:Ctx):(WE M c (Lb 0) λ Q E D H=>W M c (Lb 2) B4 Q ((3,(.bool B2))::(2,(.str []))::E) D H) /\
 (WE M c (Lb 2) λ Q E D H=>Lz E 0 λ g a=>Bn g .lss a (.int .i64 1) λ g d=>JN (λ(k:Bool->AV->AV->ar->Prop)=>B3 g (cV B2 (B1 d)) λ g w=>vE g w (λ g=>Bn g .geq a (.int .i64 19) λ g e=>k g e a H) (λ g=>k g uu uu H)) (λ g b _ H1=>B3 g (Op.pick [d,(.bool B4),b]) λ g f=>mU g f (λ g=>qQ g (fm (W M c (Lb 10)) Q) .ret ((3,(.bool B2))::(2,(.str []))::E) D H1) (λ g=>Gt g M c (Lb 10) Q E D H1))) /\
 (WE M c (Lb 10) λ Q E D H=>Lz E 0 λ g d=>B3 g ((Op.aV 19 2) [(.ptr yv 0),d]) λ g a=>Fl g 1 a H λ g b=>qQ g Q .ret ((3,(.bool B4))::(2,b)::E) D H):=by(repeat' apply Gf)<;>(intro _ _ _ _;refine Ey ?_;kernel_rfl)
def xfn:(bq Tryz.prog).func LJ=B1 Zw/\Zw.results=[.tmp 2,.tmp 3]:=xhs (by kernel_rfl)
def xfo(h:W M ⟨B5,LJ⟩ (Lb 0) B4 (eH M [.tmp 2,.tmp 3] Q) [(0,a0)] [] H):FW M LJ [a0] H Q:=BL (by decide) xfn (ks:=A_) (by kernel_rfl) h
def qu4(M:ak)(c:Ctx):=(L4 M c).2.2.2.2.2.1
def qu3:=@KW M _ X3 [.tmp 4] [a0,a1] (by kernel_rfl) H Q
def M'(M:ak)(c:Ctx):=(L4 M c).2.2.2.2.2.2
def qh1:=@KW M _ qh0 [.tmp 4] [a0,a1] (by kernel_rfl) H Q
abbrev _v:Nat:=126
abbrev pf:Nat:=178
abbrev K_:Nat:=145
abbrev qtd:Nat:=123
abbrev qk7:Nat:=92
abbrev _i:Nat:=132
abbrev Zs:Nat:=128
abbrev oW:Nat:=121
abbrev j':Nat:=156
abbrev s_:Nat:=164
abbrev q8c:Nat:=57
abbrev Ho:Nat:=180
abbrev O5:Nat:=177
abbrev ZM:uk:=[(57,⟨[0],B2,[0]⟩,[]),(128,⟨[0,1,2,6,7],B2,[0,4,10]⟩,[]),(126,⟨[0,2,8],B2,[0,2,10]⟩,[]),(123,⟨[0,2],B2,[0,2,10]⟩,[]),(145,⟨[0,1,4],B2,[0,2,10,18]⟩,[]),(132,⟨[0,2,3],B2,[0,2,10]⟩,[]),(92,⟨[0,2,3],B2,[0,4,10]⟩,[]),(178,⟨[0,2,3],B2,[0,4,10]⟩,[]),(164,⟨[0,1,4],B2,[0,2,10,18]⟩,[]),(156,⟨[0,2],B2,[0]⟩,[]),(121,⟨[0,2],B2,[0,2,10,18]⟩,[])]
def ZD(n:Nat):Kp:=jO n ZM
def YF(n k:Nat):Kp×ai:=(ZD n,part (bh Tryz.prog n) k)
def e_(n k:Nat):YF n k=(ZD n,part (bh Tryz.prog n) k):=rfl
def DZ:=@kQ M _ YF ZD e_
attribute [local irreducible] YF
def B0(M:ak)(c:Ctx):=by
 have h:=pk e_ M c ZM (by kernel_rfl)
 conv at h=>arg 5;reduce
 delta PR RL nZ gN nY gG oO mQ fU gI gj oJ oE rW sn ZM at h
 simp only[zZ,zP,zR,Ab,Ao,QP]at h;exact h
def xj5(M:ak)(c:Ctx):=(B0 M c).1
def xj4:=@DZ M _ q8c [.tmp 0] [] (by kernel_rfl) H Q
def qru(M:ak)(c:Ctx):=(B0 M c).2.1
def q6i:=@DZ M _ Zs [.tmp 6] [a0,a1,a2] (by kernel_rfl) H Q
def q6h(M:ak)(c:Ctx):=(B0 M c).2.2.1
def q6g:=@DZ M _ _v [.cZ 8 2] [a0] (by kernel_rfl) H Q
def q75(M:ak)(c:Ctx):=(B0 M c).2.2.2.1
def q74:=@DZ M _ qtd [.tmp 2] [a0] (by kernel_rfl) H Q
def qpz(M:ak)(c:Ctx):=(B0 M c).2.2.2.2.1
def q1e:=@DZ M _ K_ [.tmp 4] [a0,a1] (by kernel_rfl) H Q
def q1g(M:ak)(c:Ctx):=(B0 M c).2.2.2.2.2.1
def q1f:=@DZ M _ _i [.tmp 2] [a0] (by kernel_rfl) H Q
def SV(M:ak)(c:Ctx):=(B0 M c).2.2.2.2.2.2.1
def qun:=@DZ M _ qk7 [.tmp 2] [a0] (by kernel_rfl) H Q
def qpy(M:ak)(c:Ctx):=(B0 M c).2.2.2.2.2.2.2.1
def q1d:=@DZ M _ pf [.tmp 2] [a0] (by kernel_rfl) H Q
def YG(M:ak)(c:Ctx):=(B0 M c).2.2.2.2.2.2.2.2.1
def qyo:=@DZ M _ s_ [.tmp 4] [a0,a1] (by kernel_rfl) H Q
def q1i(M:ak)(c:Ctx):=(B0 M c).2.2.2.2.2.2.2.2.2.1
def q1h:=@DZ M _ j' [.tmp 2] [a0] (by kernel_rfl) H Q
def qml(M:ak)(c:Ctx):=(B0 M c).2.2.2.2.2.2.2.2.2.2
def qwk:=@DZ M _ oW [.tmp 2] [a0] (by kernel_rfl) H Q
abbrev qi3:Nat:=93
abbrev qh2:Nat:=155
abbrev qi4:Nat:=133
abbrev _g:Nat:=76
abbrev qj5:Nat:=119
abbrev qi5:Nat:=177
abbrev _d:Nat:=120
abbrev wl:Nat:=122
abbrev hQ:Nat:=90
abbrev qj7:Nat:=157
abbrev NQ:Nat:=187
abbrev _o:Nat:=55
abbrev qqk:Nat:=70
abbrev N1:Nat:=171
abbrev IQ:Nat:=26
abbrev vg:Nat:=175
abbrev QF:Nat:=125
abbrev Y7:uk:=[(55,⟨[0,1,2,3,4,5],B2,[0,4,12]⟩,[]),(133,⟨[0,2,3],B2,[0,2,10,18]⟩,[]),(93,⟨[0,1,4,5],B2,[0,2,10,18,26,28,39]⟩,[]),(177,⟨[0,2],B2,[0,2,10,18]⟩,[]),(119,⟨[0,2],B2,[0,2,10]⟩,[]),(120,⟨[0,2,3,5,7,8],B2,[0,4,21,9,15,20]⟩,[]),(155,⟨[0,2,5],B2,[0,2,10]⟩,[]),(76,⟨[0,2],B2,[0]⟩,[]),(70,⟨[0,1,2,3,4,5,6,14,15,16],B2,[0,4,27,9,15,26]⟩,[]),(90,⟨[0,2],B2,[0]⟩,[]),(122,⟨[0,1,2,4,7,8],B2,[0]⟩,[]),(300122,⟨[0,1,2,4,7,8],B2,[0]⟩,[]),(200122,⟨[0,1,2,4,7,8],B2,[0]⟩,[]),(157,⟨[0,1,2,3,4],B2,[0]⟩,[]),(187,⟨[0,1,2,4],B2,[0,4,10,17]⟩,[])]
def XN(n:Nat):Kp:=jO n Y7
def Q3(n k:Nat):Kp×ai:=(XN n,part (bh Tryz.prog n) k)
def q3a(n k:Nat):Q3 n k=(XN n,part (bh Tryz.prog n) k):=rfl
def Af:=@kQ M _ Q3 XN q3a
attribute [local irreducible] Q3
def wG(M:ak)(c:Ctx):=by
 have h:=pk q3a M c Y7 (by kernel_rfl)
 conv at h=>arg 5;reduce
 delta PR RL nZ gN nY gG oO mQ fU gI gj oJ qJ se oE pP rW sn Y7 at h
 simp only[zZ,zP,zR,Ab,Ao,QP]at h;exact h
def cB(M:ak)(c:Ctx):=(wG M c).2.2.2.2.2.2.2.2
def WL(M:ak)(c:Ctx):=(wG M c).1
def xfr:=@Af M _ _o [.tmp 2,.tmp 3] [a0] (by kernel_rfl) H Q
def qjd(M:ak)(c:Ctx):=(wG M c).2.1
def qrj:=@Af M _ qi4 [.tmp 2,.tmp 3] [a0] (by kernel_rfl) H Q
def jw(M:ak)(c:Ctx):=(wG M c).2.2.1
def qri:=@Af M _ qi3 [.tmp 4,.tmp 5] [a0,a1] (by kernel_rfl) H Q
def _8(M:ak)(c:Ctx):=(wG M c).2.2.2.1
def qrk:=@Af M _ qi5 [.tmp 2] [a0] (by kernel_rfl) H Q
def qst(M:ak)(c:Ctx):=(wG M c).2.2.2.2.1
def qss:=@Af M _ qj5 [.tmp 2] [a0] (by kernel_rfl) H Q
def XF(M:ak)(c:Ctx):=(wG M c).2.2.2.2.2.1
def qug:=@Af M _ _d [.tmp 2] [a0] (by kernel_rfl) H Q
def qp5(M:ak)(c:Ctx):=(wG M c).2.2.2.2.2.2.1
def qp4:=@Af M _ qh2 [.cZ 5 2] [a0] (by kernel_rfl) H Q
def W2(M:ak)(c:Ctx):=(wG M c).2.2.2.2.2.2.2.1
def qsr:=@Af M _ _g [.tmp 2] [a0] (by kernel_rfl) H Q
def RV(M:ak)(c:Ctx):=(cB M c).1
def q5g:=@Af M _ qqk [.cZ 5 2,.tmp 3] [a0] (by kernel_rfl) H Q
def qsw(M:ak)(c:Ctx):=(cB M c).2.1
def qsv:=@Af M _ hQ [.tmp 2] [a0] (by kernel_rfl) H Q
def R8:bZ:=funcAt Tryz.prog wl
def Py:dV:=ia R8 0
abbrev Ya(k:Nat):Kp×ai:=Q3 300122 k
abbrev Wj(k:Nat):Kp×ai:=Q3 200122 k
def qh6:nth R8.loops 0=B1 Py/\Py.params=[8]:=⟨by kernel_rfl,by kernel_rfl⟩
def qp6:(Ya 0).1.ah=[0,1,2,4,7,8]/\(Ya 0).2=Py.assign:=⟨by kernel_rfl,by kernel_rfl⟩
def qp7:(Wj 0).1.ah=[0,1,2,4,7,8]/\(Wj 0).2=Py.body:=⟨by kernel_rfl,by kernel_rfl⟩
def qrl:M.func wl=B1 R8:=MK.at (by decide) (by kernel_rfl)
def qkd(M:ak)(c:Ctx):=Gf (cB M c).2.2.1 (Gf (cB M c).2.2.2.1 ((cB M c).2.2.2.2.1))
def qsu:=@Af M _ wl [] [a0,a1] (by kernel_rfl) H Q
def qsy(M:ak)(c:Ctx):=(cB M c).2.2.2.2.2.1
def qsx:=@Af M _ qj7 [.tmp 4] [a0,a1] (by kernel_rfl) H Q
def PV(M:ak)(c:Ctx):=(cB M c).2.2.2.2.2.2
def qp8:=@Af M _ NQ [] [a0,a1,a2] (by kernel_rfl) H Q
abbrev qql:Nat:=173
abbrev qs8:Nat:=193
abbrev qs9:Nat:=217
abbrev _X:Nat:=229
abbrev qvc:Nat:=216
abbrev m_:Nat:=196
abbrev Y':Nat:=197
abbrev V2:Nat:=199
abbrev xbw:Nat:=71
abbrev S1:Nat:=233
abbrev _1:Nat:=200
abbrev qqo:Nat:=211
abbrev qtc:Nat:=219
abbrev Ql:Nat:=220
abbrev qqw:Nat:=237
abbrev vn:Nat:=239
abbrev nJ:Nat:=136
abbrev vz:Nat:=253
abbrev Sb:Nat:=215
abbrev JL:Nat:=213
abbrev YP:uk:=[(71,⟨[0],B2,[0]⟩,[]),(217,⟨[0,1,2,6,8],B2,[0,2,10,18,28]⟩,[]),(196,⟨[0,1,2,6,7,8],B2,[0,2,10,18,30]⟩,[]),(216,⟨[0,1,4,5],B2,[0,2,10]⟩,[]),(193,⟨[0,1,4,5],B2,[0,2,10]⟩,[]),(229,⟨[0,2],B2,[0,2,10]⟩,[]),(197,⟨[0,2],B2,[0,2,10]⟩,[]),(173,⟨[0,2],B2,[0,2,10]⟩,[]),(199,⟨[0,2],B2,[0]⟩,[]),(211,⟨[0,1,4,5,6,7],B2,[0,4,12]⟩,[]),(219,⟨[0,1,2,6],B2,[0,2,10]⟩,[]),(220,⟨[0,2,3,5,7,8,9],B2,[0,4,9]⟩,[]),(300220,⟨[0,2,3,5,7,8,9],B2,[0]⟩,[]),(200220,⟨[0,2,3,5,7,8,9],B2,[0]⟩,[]),(200,⟨[0],B2,[0]⟩,[]),(233,⟨[0,2],B2,[0]⟩,[]),(237,⟨[0,1,2],B2,[0]⟩,[]),(239,⟨[0,1,3,4,5,6,7],B2,[0,4,10,19]⟩,[])]
def UG(n:Nat):Kp:=jO n YP
def Rn(n k:Nat):Kp×ai:=(UG n,part (bh Tryz.prog n) k)
def Γ(n k:Nat):Rn n k=(UG n,part (bh Tryz.prog n) k):=rfl
def vS:=@kQ M _ Rn UG Γ
attribute [local irreducible] Rn
def sN(M:ak)(c:Ctx):=by
 have h:=pk Γ M c YP (by kernel_rfl)
 conv at h=>arg 5;reduce
 delta PR RL nZ gN nY gG oO mQ fU gI gj oJ qJ se oE pP rW sn YP at h
 simp only[zZ,zP,zR,Ab,Ao,QP]at h;exact h
def cC(M:ak)(c:Ctx):=(sN M c).2.2.2.2.2.2.2.2
def cL(M:ak)(c:Ctx):=(cC M c).2.2.2.2.2.2.2.2
def xmr(M:ak)(c:Ctx):=(sN M c).1
def xmq:=@vS M _ xbw [.tmp 0] [] (by kernel_rfl) H Q
def iw(M:ak)(c:Ctx):=(sN M c).2.1
def q7v:=@vS M _ qs9 [.tmp 6] [a0,a1,a2] (by kernel_rfl) H Q
def ι(M:ak)(c:Ctx):=(sN M c).2.2.1
def q5m:=@vS M _ m_ [.tmp 6] [a0,a1,a2] (by kernel_rfl) H Q
def xal(M:ak)(c:Ctx):=(sN M c).2.2.2.1
def xak:=@vS M _ qvc [.tmp 4,.tmp 5] [a0,a1] (by kernel_rfl) H Q
def q7u(M:ak)(c:Ctx):=(sN M c).2.2.2.2.1
def q7t:=@vS M _ qs8 [.tmp 4,.tmp 5] [a0,a1] (by kernel_rfl) H Q
def q5l(M:ak)(c:Ctx):=(sN M c).2.2.2.2.2.1
def q5k:=@vS M _ _X [.tmp 2] [a0] (by kernel_rfl) H Q
def q0q(M:ak)(c:Ctx):=(sN M c).2.2.2.2.2.2.1
def q0p:=@vS M _ Y' [.tmp 2] [a0] (by kernel_rfl) H Q
def q5j(M:ak)(c:Ctx):=(sN M c).2.2.2.2.2.2.2.1
def q5i:=@vS M _ qql [.tmp 2] [a0] (by kernel_rfl) H Q
def q7x(M:ak)(c:Ctx):=(cC M c).1
def q7w:=@vS M _ V2 [.tmp 2] [a0] (by kernel_rfl) H Q
def qrp(M:ak)(c:Ctx):=(cC M c).2.1
def q5n:=@vS M _ qqo [.tmp 4,.tmp 5] [a0,a1] (by kernel_rfl) H Q
def qts(M:ak)(c:Ctx):=(cC M c).2.2.1
def q70:=@vS M _ qtc [.tmp 6] [a0,a1,a2] (by kernel_rfl) H Q
def Si:bZ:=funcAt Tryz.prog Ql
def OS:dV:=ia Si 0
abbrev XS(k:Nat):Kp×ai:=Rn 300220 k
abbrev YM(k:Nat):Kp×ai:=Rn 200220 k
def qzw:nth Si.loops 0=B1 OS/\OS.params=[8,9]:=⟨by kernel_rfl,by kernel_rfl⟩
def xc6:(XS 0).1.ah=[0,2,3,5,7,8,9]/\(XS 0).2=OS.assign:=⟨by kernel_rfl,by kernel_rfl⟩
def xc7:(YM 0).1.ah=[0,2,3,5,7,8,9]/\(YM 0).2=OS.body:=⟨by kernel_rfl,by kernel_rfl⟩
def xfu:M.func Ql=B1 Si:=MK.at (by decide) (by kernel_rfl)
def Zv(M:ak)(c:Ctx):=Gf (cC M c).2.2.2.1.1 (Gf (cC M c).2.2.2.2.1 (Gf (cC M c).2.2.2.2.2.1 (Gf (cC M c).2.2.2.1.2.1 ((cC M c).2.2.2.1.2.2))))
def xjk:=@vS M _ Ql [.tmp 2] [a0] (by kernel_rfl) H Q
def q0s(M:ak)(c:Ctx):=(cC M c).2.2.2.2.2.2.1
def q0r:=@vS M _ _1 [] [a0] (by kernel_rfl) H Q
def q7z(M:ak)(c:Ctx):=(cC M c).2.2.2.2.2.2.2.1
def q7y:=@vS M _ S1 [.tmp 2] [a0] (by kernel_rfl) H Q
def qrx(M:ak)(c:Ctx):=(cL M c).1
def qrw:=@vS M _ qqw [.tmp 2] [a0] (by kernel_rfl) H Q
def Uz(M:ak)(c:Ctx):=(cL M c).2
def qov:=@vS M _ vn [] [a0,a1] (by kernel_rfl) H Q
abbrev _0:Nat:=58
abbrev n_:Nat:=135
abbrev qpn:Nat:=142
abbrev N_:Nat:=171
abbrev sA:Nat:=176
abbrev Δ:Nat:=140
abbrev qpp:Nat:=165
abbrev ql6:Nat:=138
abbrev qpq:Nat:=158
abbrev qne:Nat:=170
abbrev qnf:Nat:=167
abbrev _T:Nat:=137
abbrev qk9:Nat:=139
abbrev v_:Nat:=223
abbrev oy:Nat:=222
abbrev VG:Nat:=235
abbrev Z0:Nat:=236
abbrev Vj:Nat:=206
abbrev qqy:Nat:=203
abbrev Oy:Nat:=225
abbrev qng:Nat:=174
abbrev γ:Nat:=202
abbrev _G:Nat:=204
abbrev Tx:Nat:=209
abbrev mo:Nat:=194
abbrev _e:Nat:=212
abbrev V_:Nat:=213
abbrev XC:Nat:=215
abbrev Tw:Nat:=189
abbrev UY:Nat:=208
abbrev _3:Nat:=201
abbrev Qp:Nat:=224
abbrev t5:Nat:=172
abbrev TO:Nat:=218
abbrev F1:Nat:=188
abbrev C_:Nat:=205
abbrev SH:Nat:=226
abbrev qnj:Nat:=234
abbrev Z8:Nat:=238
abbrev YY:Nat:=198
abbrev ql8:Nat:=221
abbrev qld:Nat:=192
abbrev Y_:Nat:=214
abbrev qh4:Nat:=228
abbrev SQ:Nat:=230
abbrev TH:Nat:=231
abbrev T5:Nat:=232
abbrev VE:Nat:=175
abbrev HO:Nat:=1
abbrev LX:Nat:=293
abbrev Sz:Nat:=294
abbrev EK:Nat:=184
abbrev Mc:Nat:=131
abbrev Dv:Nat:=187
abbrev Yr:Nat:=31
abbrev XR:uk:=[(58,⟨[0],B2,[0]⟩,[]),(135,⟨[0,2],B2,[0,2,10,18]⟩,[]),(165,⟨[0,1,4,5,6,7],B2,[0,2,12,24]⟩,[]),(170,⟨[0,1,2,6,7],B2,[0,4,12]⟩,[]),(171,⟨[0,2,3],B2,[0,2,12,14,24]⟩,[]),(158,⟨[0,2,3],B2,[0,4,12]⟩,[]),(137,⟨[0,2,3,4],B2,[0,2,10]⟩,[(3,[0,2,4,6,8,10,12,14,16,18,15,17,20])]),(140,⟨[0,1,2,6,7],B2,[0,2,10,12,20]⟩,[]),(142,⟨[0,2],B2,[0]⟩,[]),(167,⟨[0,2],B2,[0,2,10]⟩,[]),(176,⟨[0,2],B2,[0,2,10]⟩,[]),(138,⟨[0,2],B2,[0,2,10]⟩,[]),(139,⟨[0,2],B2,[0]⟩,[]),(172,⟨[0,2],B2,[0]⟩,[]),(174,⟨[0,1,2,3,4,5],B2,[0]⟩,[]),(175,⟨[0],B2,[0]⟩,[]),(192,⟨[0,1,4,5],B2,[0,4,12]⟩,[]),(194,⟨[0,1,2,3],B2,[0]⟩,[]),(189,⟨[0,1,2,3],B2,[0]⟩,[]),(188,⟨[0,2],B2,[0,2,10,18]⟩,[]),(198,⟨[0,1],B2,[0]⟩,[]),(201,⟨[0,1,2,5],B2,[0]⟩,[]),(202,⟨[0,1,2,3],B2,[0]⟩,[]),(205,⟨[0,1,2,3],B2,[0]⟩,[]),(206,⟨[0,1],B2,[0]⟩,[]),(212,⟨[0,1,2,3],B2,[0]⟩,[]),(208,⟨[0,1],B2,[0]⟩,[(0,[0,2,4,6,8,10,3,5,12,14,16])]),(203,⟨[0,1,2,3,4,9],B2,[0]⟩,[]),(221,⟨[0,1],B2,[0,8]⟩,[(4,[0,2,4,6,8,10,1,12])]),(223,⟨[0,1,2,4],B2,[0]⟩,[]),(224,⟨[0,1,2],B2,[0]⟩,[]),(204,⟨[0,1,2,3],B2,[0,8]⟩,[]),(226,⟨[0,1,2],B2,[0,8]⟩,[]),(209,⟨[0],B2,[0]⟩,[]),(218,⟨[0,1],B2,[0]⟩,[]),(213,⟨[0,1,2,3,5,6],B2,[0,8,10,18]⟩,[]),(225,⟨[0,1,2],B2,[0]⟩,[]),(214,⟨[0,1,2,3],B2,[0]⟩,[]),(222,⟨[0,1,2,3],B2,[0,2,10]⟩,[]),(215,⟨[0,1],B2,[0]⟩,[]),(228,⟨[0,1,2,3,4,5,6,7,8],B2,[0]⟩,[]),(234,⟨[0,1,2,3,7],B2,[0]⟩,[]),(235,⟨[0,1],B2,[0]⟩,[]),(236,⟨[0],B2,[0]⟩,[]),(230,⟨[0,1,2,3,4],B2,[0,8]⟩,[]),(231,⟨[0,1,2,3],B2,[0,8]⟩,[]),(232,⟨[0,1,2,3,4],B2,[0,8]⟩,[]),(238,⟨[0,1,2],B2,[0]⟩,[])]
def VP(n:Nat):Kp:=jO n XR
def YW(n k:Nat):Kp×ai:=(VP n,part (bh Tryz.prog n) k)
def q3d(n k:Nat):YW n k=(VP n,part (bh Tryz.prog n) k):=rfl
def jg:=@kQ M _ YW VP q3d
attribute [local irreducible] YW
def jf(M:ak)(c:Ctx):=by
 have h:=pk q3d M c XR (by kernel_rfl)
 conv at h=>arg 5;reduce
 delta PR RL nZ gN nY gG oO iM mQ fU gI gj oJ oE pP rW sn XR at h
 simp only[zZ,zP,zR,Ab,Ao,QP]at h;exact h
def cU(M:ak)(c:Ctx):=(jf M c).2.2.2.2.2.2.2.2
def cY(M:ak)(c:Ctx):=(cU M c).2.2.2.2.2.2.2.2
def dN(M:ak)(c:Ctx):=(cY M c).2.2.2.2.2.2.2.2
def ea(M:ak)(c:Ctx):=(dN M c).2.2.2.2.2.2.2.2
def ed(M:ak)(c:Ctx):=(ea M c).2.2.2.2.2.2.2.2
def xkc(M:ak)(c:Ctx):=(jf M c).1
def xkb:=@jg M _ _0 [.tmp 0] [] (by kernel_rfl) H Q
def VM(M:ak)(c:Ctx):=(jf M c).2.1
def qys:=@jg M _ n_ [.tmp 2] [a0] (by kernel_rfl) H Q
def SG(M:ak)(c:Ctx):=(jf M c).2.2.1
def q1q:=@jg M _ qpp [.tmp 4] [a0,a1] (by kernel_rfl) H Q
def Pj(M:ak)(c:Ctx):=(jf M c).2.2.2.1
def qyv:=@jg M _ qne [.tmp 6] [a0,a1,a2] (by kernel_rfl) H Q
def WT(M:ak)(c:Ctx):=(jf M c).2.2.2.2.1
def qwp:=@jg M _ N_ [.tmp 2] [a0] (by kernel_rfl) H Q
def VS(M:ak)(c:Ctx):=(jf M c).2.2.2.2.2.1
def q1r:=@jg M _ qpq [.tmp 2] [a0] (by kernel_rfl) H Q
def q1t(M:ak)(c:Ctx):=(jf M c).2.2.2.2.2.2.1
def q1s:=@jg M _ _T [.cZ 4 2,.tmp 3] [a0] (by kernel_rfl) H Q
def qp1(M:ak)(c:Ctx):=(jf M c).2.2.2.2.2.2.2.1
def q1p:=@jg M _ Δ [.tmp 6] [a0,a1,a2] (by kernel_rfl) H Q
def q1o(M:ak)(c:Ctx):=(cU M c).1
def q1n:=@jg M _ qpn [.tmp 2] [a0] (by kernel_rfl) H Q
def qyx(M:ak)(c:Ctx):=(cU M c).2.1
def qyw:=@jg M _ qnf [.tmp 2] [a0] (by kernel_rfl) H Q
def qyu(M:ak)(c:Ctx):=(cU M c).2.2.1
def qyt:=@jg M _ sA [.tmp 2] [a0] (by kernel_rfl) H Q
def qwr(M:ak)(c:Ctx):=(cU M c).2.2.2.1
def qwq:=@jg M _ ql6 [.tmp 2] [a0] (by kernel_rfl) H Q
def qut(M:ak)(c:Ctx):=(cU M c).2.2.2.2.1
def qus:=@jg M _ qk9 [.tmp 2] [a0] (by kernel_rfl) H Q
def q11(M:ak)(c:Ctx):=(cU M c).2.2.2.2.2.1
def q1z:=@jg M _ t5 [.tmp 2] [a0] (by kernel_rfl) H Q
def qy3(M:ak)(c:Ctx):=(cU M c).2.2.2.2.2.2.1
def qy2:=@jg M _ qng [] [a0,a1,a2] (by kernel_rfl) H Q
def q15(M:ak)(c:Ctx):=(cU M c).2.2.2.2.2.2.2.1
def q14:=@jg M _ VE [] [a0] (by kernel_rfl) H Q
def Vm(M:ak)(c:Ctx):=(cY M c).1
def qu2:=@jg M _ qld [.tmp 4] [a0,a1] (by kernel_rfl) H Q
def qy5(M:ak)(c:Ctx):=(cY M c).2.1
def qy4:=@jg M _ mo [] [a0,a1] (by kernel_rfl) H Q
def qy7(M:ak)(c:Ctx):=(cY M c).2.2.1
def qy6:=@jg M _ Tw [] [a0,a1] (by kernel_rfl) H Q
def qzb(M:ak)(c:Ctx):=(cY M c).2.2.2.1
def qza:=@jg M _ F1 [.tmp 2] [a0] (by kernel_rfl) H Q
def q13(M:ak)(c:Ctx):=(cY M c).2.2.2.2.1
def q12:=@jg M _ YY [] [a0] (by kernel_rfl) H Q
def q1y(M:ak)(c:Ctx):=(cY M c).2.2.2.2.2.1
def q1x:=@jg M _ _3 [] [a0,a1,a2] (by kernel_rfl) H Q
def quv(M:ak)(c:Ctx):=(cY M c).2.2.2.2.2.2.1
def quu:=@jg M _ γ [] [a0,a1,a2,a3] (by kernel_rfl) H Q
def qwz(M:ak)(c:Ctx):=(cY M c).2.2.2.2.2.2.2.1
def qwy:=@jg M _ C_ [] [a0,a1] (by kernel_rfl) H Q
def qyz(M:ak)(c:Ctx):=(dN M c).1
def qyy:=@jg M _ Vj [] [a0,a1] (by kernel_rfl) H Q
def qux(M:ak)(c:Ctx):=(dN M c).2.1
def quw:=@jg M _ _e [] [a0,a1,a2] (by kernel_rfl) H Q
def quz(M:ak)(c:Ctx):=(dN M c).2.2.1
def quy:=@jg M _ UY [] [a0,a1] (by kernel_rfl) H Q
def q6u(M:ak)(c:Ctx):=(dN M c).2.2.2.1
def q6t:=@jg M _ qqy [] [a0,a1,a2,a3,a4] (by kernel_rfl) H Q
def R1(M:ak)(c:Ctx):=(dN M c).2.2.2.2.1
def qw0:=@jg M _ ql8 [] [a0,a1] (by kernel_rfl) H Q
def q6s(M:ak)(c:Ctx):=(dN M c).2.2.2.2.2.1
def q6r:=@jg M _ v_ [] [a0,a1,a2] (by kernel_rfl) H Q
def qwx(M:ak)(c:Ctx):=(dN M c).2.2.2.2.2.2.1
def qww:=@jg M _ Qp [] [a0,a1,a2] (by kernel_rfl) H Q
def _K(M:ak)(c:Ctx):=(dN M c).2.2.2.2.2.2.2.1
def qr0:=@jg M _ _G [] [a0,a1,a2,a3] (by kernel_rfl) H Q
def TT(M:ak)(c:Ctx):=(ea M c).1
def _I:=@jg M _ SH [] [a0,a1,a2] (by kernel_rfl) H Q
def q1w(M:ak)(c:Ctx):=(ea M c).2.1
def q1v:=@jg M _ Tx [] [a0] (by kernel_rfl) H Q
def qy9(M:ak)(c:Ctx):=(ea M c).2.2.1
def qy8:=@jg M _ TO [] [a0,a1] (by kernel_rfl) H Q
def NV(M:ak)(c:Ctx):=(ea M c).2.2.2.1
def qr1:=@jg M _ V_ [] [a0,a1,a2,a3] (by kernel_rfl) H Q
def qy1(M:ak)(c:Ctx):=(ea M c).2.2.2.2.1
def qy0:=@jg M _ Oy [] [a0,a1,a2] (by kernel_rfl) H Q
def qs2(M:ak)(c:Ctx):=(ea M c).2.2.2.2.2.1
def qs1:=@jg M _ Y_ [] [a0,a1] (by kernel_rfl) H Q
def _n(M:ak)(c:Ctx):=(ea M c).2.2.2.2.2.2.1
def q1u:=@jg M _ oy [] [a0,a1] (by kernel_rfl) H Q
def qo3(M:ak)(c:Ctx):=(ea M c).2.2.2.2.2.2.2.1
def qo2:=@jg M _ XC [] [a0,a1] (by kernel_rfl) H Q
def qqd(M:ak)(c:Ctx):=(ed M c).1
def qqc:=@jg M _ qh4 [] [a0,a1,a2] (by kernel_rfl) H Q
def qzd(M:ak)(c:Ctx):=(ed M c).2.1
def qzc:=@jg M _ qnj [] [a0,a1,a2,a3] (by kernel_rfl) H Q
def qwt(M:ak)(c:Ctx):=(ed M c).2.2.1
def qws:=@jg M _ VG [] [a0,a1] (by kernel_rfl) H Q
def qwv(M:ak)(c:Ctx):=(ed M c).2.2.2.1
def qwu:=@jg M _ Z0 [] [a0] (by kernel_rfl) H Q
def qg1(M:ak)(c:Ctx):=(ed M c).2.2.2.2.1
def qn5:=@jg M _ SQ [] [a0,a1,a2,a3,a4] (by kernel_rfl) H Q
def I_(M:ak)(c:Ctx):=(ed M c).2.2.2.2.2.1
def qn6:=@jg M _ TH [] [a0,a1,a2,a3] (by kernel_rfl) H Q
def qg3(M:ak)(c:Ctx):=(ed M c).2.2.2.2.2.2.1
def qn7:=@jg M _ T5 [] [a0,a1,a2,a3,a4] (by kernel_rfl) H Q
def qu1(M:ak)(c:Ctx):=(ed M c).2.2.2.2.2.2.2
def qu0:=@jg M _ Z8 [] [a0,a1,a2] (by kernel_rfl) H Q
abbrev Xk:Nat:=41
abbrev Wc:Nat:=77
abbrev W8:Nat:=78
abbrev L_:Nat:=127
abbrev qm2:Nat:=101
abbrev ql0:Nat:=95
abbrev ql1:Nat:=102
abbrev κ:Nat:=136
abbrev B_:Nat:=100
abbrev O_:Nat:=141
abbrev Nq:Nat:=98
abbrev p_:Nat:=143
abbrev qpa:Nat:=134
abbrev YO:Nat:=129
abbrev YB:Nat:=124
abbrev f_:Nat:=94
abbrev qpb:Nat:=168
abbrev Ng:Nat:=195
abbrev qm4:Nat:=144
abbrev VV:Nat:=96
abbrev Wp:Nat:=166
abbrev QK:Nat:=130
abbrev qm5:Nat:=97
abbrev Xm:Nat:=59
abbrev _m:Nat:=99
abbrev ql3:Nat:=169
abbrev RO:Nat:=131
abbrev U6:Nat:=91
abbrev b_:Nat:=39
abbrev qgw:Nat:=56
abbrev jr:Nat:=76
abbrev Gj:Nat:=140
abbrev xM:Nat:=87
abbrev AX:Nat:=97
abbrev ZN:uk:=[(39,⟨[0,1,2,3,6,8,9,10,11],B2,[0,4,12]⟩,[]),(78,⟨[0,2,3,4,5,6,7,11],B2,[0,11,16,30,43,21,35,48,57,64,69,79]⟩,[]),(41,⟨[0,2,3],B2,[0]⟩,[(1,[0,18,2,4,6,8,10,12,14,16,20,15,22,24,26,28,30,32,34,36,38])]),(56,⟨[0,2],B2,[0,2,10]⟩,[]),(94,⟨[0,2,3,4,5,6,54],B2,[0,4,16,8,39,22,14,45,30,55,63]⟩,[(6,[0,2,4,6,8,10,12,14,16,18,20,24,22,7,13,26,28,30])]),(95,⟨[0,20],B2,[0,4,19]⟩,[]),(96,⟨[0,1,4,5,6,7,8],B2,[0]⟩,[]),(97,⟨[0,2,3],B2,[0]⟩,[]),(98,⟨[0,2,4,5,6,7,8,18],B2,[0,1,5,7,9,26,21,32,36,38,44,50]⟩,[(12,[0,2,4,6,10,12,14,16,8,17,18,20,22])]),(99,⟨[0,1,2,6,7,8],B2,[0]⟩,[]),(100,⟨[0],B2,[0]⟩,[(2,[0,2,4,6,8,10,12,14,16,7,18,20])]),(101,⟨[0,2],B2,[0,14,4,12]⟩,[]),(102,⟨[0],B2,[0]⟩,[]),(59,⟨[0,2],B2,[0]⟩,[]),(124,⟨[0,6],B2,[0,15]⟩,[]),(127,⟨[0,1,4,5],B2,[0,2,10]⟩,[]),(129,⟨[0,1],B2,[0]⟩,[]),(130,⟨[0,1,2,3,4,7,8,9,14,47,48,49],B2,[0,2,30,11,25,19]⟩,[(5,[0,2,4,6,8,10,3,12,14,16]),(6,[0,2,4,6,8,10,12,1,3,14])]),(300130,⟨[0,1,2,3,4,7,8,9,14,47,48,49],B2,[0]⟩,[(5,[0,2,4,6,8,10,3,12,14,16]),(6,[0,2,4,6,8,10,12,1,3,14])]),(200130,⟨[0,1,2,3,4,7,8,9,14,47,48,49],B2,[0]⟩,[(5,[0,2,4,6,8,10,3,12,14,16]),(6,[0,2,4,6,8,10,12,1,3,14])]),(131,⟨[0,1,2,4,6,7,12,71,72,73],B2,[0,8,13,18,30,46,26,32,37,43]⟩,[]),(300131,⟨[0,1,2,4,6,7,12,71,72,73],B2,[0]⟩,[]),(200131,⟨[0,1,2,4,6,7,12,71,72,73],B2,[0]⟩,[]),(134,⟨[0],B2,[0,11]⟩,[]),(91,⟨[0,1,2,3,4,10],B2,[0,2,8]⟩,[(2,[0,2,4,6,8,10,12,14,16,20,22,24,26,30,18,7,27,28,7,32,34,36,38,40])]),(136,⟨[0,1,2,3,8,9,10,11,12],B2,[0]⟩,[]),(141,⟨[0],B2,[0,6]⟩,[]),(143,⟨[0],B2,[0,9]⟩,[(7,[0,2,4,6,8,10,12,14,16,18,9,20])]),(144,⟨[0],B2,[0]⟩,[]),(166,⟨[0,1,2,4,6,8],B2,[0,4,6,12]⟩,[]),(168,⟨[0,1,2,3,4],B2,[0]⟩,[]),(169,⟨[0,1,2,3,6],B2,[0]⟩,[]),(77,⟨[0,1],B2,[0]⟩,[]),(195,⟨[0,1,2,4,5,9,10,11],B2,[0,4,10,19]⟩,[])]
def WB(n:Nat):Kp:=jO n ZN
def Hl(n k:Nat):Kp×ai:=(WB n,part (bh Tryz.prog n) k)
def j_(n k:Nat):Hl n k=(WB n,part (bh Tryz.prog n) k):=rfl
def yq:=@kQ M _ Hl WB j_
attribute [local irreducible] Hl
def je(M:ak)(c:Ctx):=by
 have h:=pk j_ M c ZN (by kernel_rfl)
 conv at h=>arg 5;reduce
 delta PR RL nZ gN nY gG oO iM mQ fU gI gj oJ qJ vX se oE pP rW sn ZN at h
 simp only[zZ,zP,zR,Ab,Ao,QP]at h;exact h
def ee(M:ak)(c:Ctx):=(je M c).2.2.2.2.2.2.2.2
def eg(M:ak)(c:Ctx):=(ee M c).2.2.2.2.2.2.2.2
def ei(M:ak)(c:Ctx):=(eg M c).2.2.2.2.2.2.2.2
def ez(M:ak)(c:Ctx):=(ei M c).2.2.2.2.2.2.2.2
def JO(M:ak)(c:Ctx):=(je M c).1
def xiw:=@yq M _ b_ [.tmp 8,.tmp 9] [a0,a1,a2,a3] (by kernel_rfl) H Q
def jv(M:ak)(c:Ctx):=(je M c).2.1
def q4g:=@yq M _ W8 [] [a0] (by kernel_rfl) H Q
def wz(M:ak)(c:Ctx):=(je M c).2.2.1
def xo:=@yq M _ Xk [.tmp 2,.tmp 3] [a0] (by kernel_rfl) H Q
def qg0(M:ak)(c:Ctx):=(je M c).2.2.2.1
def qn4:=@yq M _ qgw [.tmp 2] [a0] (by kernel_rfl) H Q
def jc(M:ak)(c:Ctx):=(je M c).2.2.2.2.1
def qxk:=@yq M _ f_ [] [a0] (by kernel_rfl) H Q
def Qz(M:ak)(c:Ctx):=(je M c).2.2.2.2.2.1
def qvo:=@yq M _ ql0 [] [a0] (by kernel_rfl) H Q
def q0f(M:ak)(c:Ctx):=(je M c).2.2.2.2.2.2.1
def q0e:=@yq M _ VV [.tmp 4,.tmp 5] [a0,a1] (by kernel_rfl) H Q
def qxp(M:ak)(c:Ctx):=(je M c).2.2.2.2.2.2.2.1
def qxo:=@yq M _ qm5 [] [a0] (by kernel_rfl) H Q
def zj(M:ak)(c:Ctx):=(ee M c).1
def qxj:=@yq M _ Nq [] [a0] (by kernel_rfl) H Q
def qxr(M:ak)(c:Ctx):=(ee M c).2.1
def qxq:=@yq M _ _m [.tmp 6] [a0,a1,a2] (by kernel_rfl) H Q
def qt3(M:ak)(c:Ctx):=(ee M c).2.2.1
def qt2:=@yq M _ B_ [] [a0] (by kernel_rfl) H Q
def Tf(M:ak)(c:Ctx):=(ee M c).2.2.2.1
def qxi:=@yq M _ qm2 [] [a0] (by kernel_rfl) H Q
def qvq(M:ak)(c:Ctx):=(ee M c).2.2.2.2.1
def qvp:=@yq M _ ql1 [] [a0] (by kernel_rfl) H Q
def tN(M:ak)(c:Ctx):=(ee M c).2.2.2.2.2.1
def oS:=@yq M _ Xm [.tmp 2] [a0] (by kernel_rfl) H Q
def TK(M:ak)(c:Ctx):=(ee M c).2.2.2.2.2.2.1
def qt4:=@yq M _ YB [] [a0] (by kernel_rfl) H Q
def qtl(M:ak)(c:Ctx):=(ee M c).2.2.2.2.2.2.2.1
def q7e:=@yq M _ L_ [.tmp 4,.tmp 5] [a0,a1] (by kernel_rfl) H Q
def q0b(M:ak)(c:Ctx):=(eg M c).1
def q0a:=@yq M _ YO [] [a0,a1] (by kernel_rfl) H Q
def SF:bZ:=funcAt Tryz.prog QK
def O3:dV:=ia SF 0
abbrev YI(k:Nat):Kp×ai:=Hl 300130 k
abbrev Y8(k:Nat):Kp×ai:=Hl 200130 k
def m8:nth SF.loops 0=B1 O3/\O3.params=[48,49]:=⟨by kernel_rfl,by kernel_rfl⟩
def qt5:(YI 0).1.ah=[0,1,2,3,4,7,8,9,14,47,48,49]/\(YI 0).2=O3.assign:=⟨by kernel_rfl,by kernel_rfl⟩
def qt6:(Y8 0).1.ah=[0,1,2,3,4,7,8,9,14,47,48,49]/\(Y8 0).2=O3.body:=⟨by kernel_rfl,by kernel_rfl⟩
def qvu:M.func QK=B1 SF:=MK.at (by decide) (by kernel_rfl)
def KH(M:ak)(c:Ctx):=Gf (eg M c).2.1.1 (Gf (eg M c).2.2.1 (Gf (eg M c).2.2.2.1 (Gf (eg M c).2.1.2.1 (Gf (eg M c).2.1.2.2.1 (Gf (eg M c).2.1.2.2.2.1 (Gf (eg M c).2.1.2.2.2.2.1 ((eg M c).2.1.2.2.2.2.2)))))))
def qxn:=@yq M _ QK [] [a0,a1,a2] (by kernel_rfl) H Q
def R6:bZ:=funcAt Tryz.prog RO
def OH:dV:=ia R6 0
abbrev Zq(k:Nat):Kp×ai:=Hl 300131 k
abbrev Ym(k:Nat):Kp×ai:=Hl 200131 k
def qka:nth R6.loops 0=B1 OH/\OH.params=[72,73]:=⟨by kernel_rfl,by kernel_rfl⟩
def qsn:(Zq 0).1.ah=[0,1,2,4,6,7,12,71,72,73]/\(Zq 0).2=OH.assign:=⟨by kernel_rfl,by kernel_rfl⟩
def qso:(Ym 0).1.ah=[0,1,2,4,6,7,12,71,72,73]/\(Ym 0).2=OH.body:=⟨by kernel_rfl,by kernel_rfl⟩
def qt7:M.func RO=B1 R6:=MK.at (by decide) (by kernel_rfl)
def vj(M:ak)(c:Ctx):=Gf (eg M c).2.2.2.2.1.1 (Gf (eg M c).2.2.2.2.2.1 (Gf (eg M c).2.2.2.2.2.2.1 (Gf (eg M c).2.2.2.2.1.2.1 (Gf (eg M c).2.2.2.2.1.2.2.1 (Gf (eg M c).2.2.2.2.1.2.2.2.1 (Gf (eg M c).2.2.2.2.1.2.2.2.2.1 (Gf (eg M c).2.2.2.2.1.2.2.2.2.2.1 (Gf (eg M c).2.2.2.2.1.2.2.2.2.2.2.1 (Gf (eg M c).2.2.2.2.1.2.2.2.2.2.2.2.1 (Gf (eg M c).2.2.2.2.1.2.2.2.2.2.2.2.2.1 ((eg M c).2.2.2.2.1.2.2.2.2.2.2.2.2.2)))))))))))
def qvx:=@yq M _ RO [] [a0,a1,a2] (by kernel_rfl) H Q
def QT(M:ak)(c:Ctx):=(eg M c).2.2.2.2.2.2.2.1
def qz9:=@yq M _ qpa [] [a0] (by kernel_rfl) H Q
def Xg(M:ak)(c:Ctx):=(ei M c).1
def q0g:=@yq M _ U6 [] [a0,a1,a2,a3,a4] (by kernel_rfl) H Q
def q4i(M:ak)(c:Ctx):=(ei M c).2.1
def q4h:=@yq M _ κ [.tmp 8,.tmp 9] [a0,a1,a2,a3] (by kernel_rfl) H Q
def Zx(M:ak)(c:Ctx):=(ei M c).2.2.1
def qq5:=@yq M _ O_ [] [a0] (by kernel_rfl) H Q
def RP(M:ak)(c:Ctx):=(ei M c).2.2.2.1
def qvr:=@yq M _ p_ [] [a0] (by kernel_rfl) H Q
def qxm(M:ak)(c:Ctx):=(ei M c).2.2.2.2.1
def qxl:=@yq M _ qm4 [] [a0] (by kernel_rfl) H Q
def iu(M:ak)(c:Ctx):=(ei M c).2.2.2.2.2.1
def qvt:=@yq M _ Wp [] [a0,a1,a2] (by kernel_rfl) H Q
def q0d(M:ak)(c:Ctx):=(ei M c).2.2.2.2.2.2.1
def q0c:=@yq M _ qpb [.tmp 4] [a0,a1] (by kernel_rfl) H Q
def qvw(M:ak)(c:Ctx):=(ei M c).2.2.2.2.2.2.2.1
def qvv:=@yq M _ ql3 [] [a0,a1,a2,a3] (by kernel_rfl) H Q
def qxh(M:ak)(c:Ctx):=(ez M c).1
def qxg:=@yq M _ Wc [] [a0,a1] (by kernel_rfl) H Q
def Rk(M:ak)(c:Ctx):=(ez M c).2
def qvs:=@yq M _ Ng [] [a0,a1,a2] (by kernel_rfl) H Q
abbrev L5:Nat:=62
abbrev ye:Nat:=75
abbrev W4:uk:=[(100062,⟨[0,1,2,4,5,6,30],B2,[0,2,29,16]⟩,[(9,[0,2,4,6,8,10,3,12,14,16])]),(9900062,⟨[0,1,2,4,5,6,30],B2,[0,2,16,8,14]⟩,[(9,[0,2,4,6,8,10,3,12,14,16])]),(75,⟨[0],B2,[0]⟩,[])]
def _H(n:Nat):Kp:=jO n W4
def Rx(n k:Nat):Kp×ai:=(_H n,part (bh Tryz.prog n) k)
def Xj(n k:Nat):Rx n k=(_H n,part (bh Tryz.prog n) k):=rfl
attribute [local irreducible] Rx
def FL(M:ak)(c:Ctx):=by
 have h:=pk Xj M c W4 (by kernel_rfl)
 conv at h=>arg 5;reduce
 delta PR RL nZ gN nY gG oO iM mQ fU gI gj oJ vX oE rW sn W4 at h
 simp only[zZ,zP,zR,Ab,Ao,QP]at h;exact h
def qz5:bZ:=funcAt Tryz.prog L5
abbrev qz7(k:Nat):Kp×ai:=Rx 100062 k
abbrev qz8(k:Nat):Kp×ai:=Rx 9900062 k
def vd(M:ak)(c:Ctx):=Gf (FL M c).1.1 (Gf (FL M c).2.1.1 (Gf (FL M c).1.2.1 (Gf (FL M c).2.1.2.1 (Gf (FL M c).1.2.2.1 (Gf (FL M c).1.2.2.2 (Gf (FL M c).2.1.2.2.1 (Gf (FL M c).2.1.2.2.2.1 ((FL M c).2.1.2.2.2.2))))))))
def qz6(h:W M ⟨B5,L5⟩ (qz7 0) B4 (BE M ⟨B5,L5⟩ (qz8 0) 30 (eH M [.tmp 4,.tmp 5] Q)) (kF 0 [a0,a1]) [] H):FW M L5 [a0,a1] H Q:=QV Xj (MK.at (by decide) (by kernel_rfl:(bq Tryz.prog).func L5=B1 qz5)) (by kernel_rfl) (by kernel_rfl) (by kernel_rfl) (by kernel_rfl) (by kernel_rfl) (by kernel_rfl) h
def qvm{up:Option aH}(h:W M ⟨B5,ye⟩ (Rx ye 0) B4 (eH M [] Q) (kF 0 [a0]) [] H):∃e H',jS M ye [a0] up H e up H'/\Q e H':=Il Xj (MK.at (by decide) (by kernel_rfl:(bq Tryz.prog).func ye=B1 (funcAt Tryz.prog ye))) (by kernel_rfl) (by kernel_rfl) (by kernel_rfl) h
def qvn(M:ak)(c:Ctx):=(FL M c).2.2
abbrev yw:Nat:=43
abbrev qs3:Nat:=61
abbrev LH:Nat:=73
abbrev XQ:Nat:=60
abbrev Re:Nat:=38
abbrev S':Nat:=54
abbrev NA:Nat:=69
abbrev UP:Nat:=74
abbrev mu:Nat:=44
abbrev XY:Nat:=25
abbrev P_:Nat:=27
abbrev TX:Nat:=21
abbrev WO:Nat:=26
abbrev qi9:Nat:=28
abbrev Uf:Nat:=40
abbrev D_:Nat:=42
abbrev Q8:Nat:=48
abbrev PM:Nat:=49
abbrev Rr:Nat:=50
abbrev Rg:Nat:=47
abbrev D1:Nat:=34
abbrev sQ:Nat:=56
abbrev u5:Nat:=95
abbrev y8:Nat:=46
abbrev ui:Nat:=65
abbrev Fp:Nat:=90
abbrev UI:uk:=[(38,⟨[0,2,3,4,5,7,8],B2,[0,4,9]⟩,[]),(300038,⟨[0,2,3,4,5,7,8],B2,[0]⟩,[]),(200038,⟨[0,2,3,4,5,7,8],B2,[0,7]⟩,[]),(25,⟨[0,1,2,3,4,6,8,9,10,11,12,13,14,15,16,48,49],B2,[0,4,12,14,49,19,25,48,31,37,39,47]⟩,[]),(21,⟨[0,1,3,4,5,6,14],B2,[0,2,10,12,20]⟩,[(4,[2,4,0,5,6,8])]),(28,⟨[0,2],B2,[0,2,10]⟩,[]),(26,⟨[0,1,4,5],B2,[0]⟩,[]),(27,⟨[0,1,4,5],B2,[0]⟩,[]),(54,⟨[0,1,2],B2,[0]⟩,[]),(34,⟨[0],B2,[0]⟩,[]),(44,⟨[0,2],B2,[0,2,10]⟩,[]),(40,⟨[0,1,4],B2,[0,2,10]⟩,[]),(42,⟨[0,2],B2,[0,2,10]⟩,[]),(43,⟨[0,1,4,5,6,7,8,11,12,44,45,46,69,70],B2,[0,2,3,18,22,24,47,29,49,35,54,46]⟩,[]),(300043,⟨[0,1,4,5,6,7,8,11,12,44,45,46,69,70],B2,[0]⟩,[]),(200043,⟨[0,1,4,5,6,7,8,11,12,44,45,46,69,70],B2,[0,7]⟩,[]),(69,⟨[0,1],B2,[0,2,8]⟩,[]),(47,⟨[0,1,3,4,5,6,7,8,10,14,30,31,32],B2,[0,4,12,16,41,21,27,40,33]⟩,[(12,[0,2,4,6,8,10,7,12,14])]),(48,⟨[0,1,3,4,5,6,14],B2,[0]⟩,[]),(49,⟨[0,1,3,4,14],B2,[0]⟩,[]),(50,⟨[0,1,3,4,14],B2,[0]⟩,[]),(60,⟨[0,1,4,5,8],B2,[0,2,10]⟩,[]),(61,⟨[0,1,2,3,4],B2,[0]⟩,[]),(73,⟨[0,1,2,5,6,7,11,12,13],B2,[0,4,10,21,16]⟩,[]),(74,⟨[0,1,4,5,21],B2,[0,2,10]⟩,[])]
def Yq(n:Nat):Kp:=jO n UI
def IV(n k:Nat):Kp×ai:=(Yq n,part (bh Tryz.prog n) k)
def R2(n k:Nat):IV n k=(Yq n,part (bh Tryz.prog n) k):=rfl
def rZ:=@kQ M _ IV Yq R2
attribute [local irreducible] IV
def jy(M:ak)(c:Ctx):=by
 have h:=pk R2 M c UI (by kernel_rfl)
 conv at h=>arg 5;reduce
 delta PR RL nZ gN nY gG oO iM mQ fU gI gj oJ qJ se oE pP rW sn UI at h
 simp only[zZ,zP,zR,Ab,Ao,QP]at h;exact h
def fb(M:ak)(c:Ctx):=(jy M c).2.2.2.2.2.2.2.2
def fe(M:ak)(c:Ctx):=(fb M c).2.2.2.2.2.2.2.2
def ff(M:ak)(c:Ctx):=(fe M c).2.2.2.2.2.2.2.2
def Um:bZ:=funcAt Tryz.prog Re
def Rl:dV:=ia Um 0
abbrev U1(k:Nat):Kp×ai:=IV 300038 k
abbrev Y2(k:Nat):Kp×ai:=IV 200038 k
def hT:nth Um.loops 0=B1 Rl/\Rl.params=[8]:=⟨by kernel_rfl,by kernel_rfl⟩
def q7i:(U1 0).1.ah=[0,2,3,4,5,7,8]/\(U1 0).2=Rl.assign:=⟨by kernel_rfl,by kernel_rfl⟩
def q7j:(Y2 0).1.ah=[0,2,3,4,5,7,8]/\(Y2 0).2=Rl.body:=⟨by kernel_rfl,by kernel_rfl⟩
def xaa:M.func Re=B1 Um:=MK.at (by decide) (by kernel_rfl)
def Tq(M:ak)(c:Ctx):=Gf (jy M c).1.1 (Gf (jy M c).2.1 (Gf (jy M c).2.2.1.1 (Gf (jy M c).1.2.1 (Gf (jy M c).2.2.1.2 ((jy M c).1.2.2)))))
def xcx:=@rZ M _ Re [.tmp 2] [a0] (by kernel_rfl) H Q
def Ah(M:ak)(c:Ctx):=(jy M c).2.2.2.1
def xgo:=@rZ M _ XY [.tmp 8,.tmp 9] [a0,a1,a2,a3] (by kernel_rfl) H Q
def Wa(M:ak)(c:Ctx):=(jy M c).2.2.2.2.1
def q16:=@rZ M _ TX [.cZ 14 4] [a0,a1] (by kernel_rfl) H Q
def qr4(M:ak)(c:Ctx):=(jy M c).2.2.2.2.2.1
def qr3:=@rZ M _ qi9 [.tmp 2] [a0] (by kernel_rfl) H Q
def I'(M:ak)(c:Ctx):=(jy M c).2.2.2.2.2.2.1
def _u:=@rZ M _ WO [.tmp 4,.tmp 5] [a0,a1] (by kernel_rfl) H Q
def qqf(M:ak)(c:Ctx):=(jy M c).2.2.2.2.2.2.2.1
def qqe:=@rZ M _ P_ [.tmp 4,.tmp 5] [a0,a1] (by kernel_rfl) H Q
def xcz(M:ak)(c:Ctx):=(fb M c).1
def xcy:=@rZ M _ S' [.tmp 2] [a0] (by kernel_rfl) H Q
def xej(M:ak)(c:Ctx):=(fb M c).2.1
def xei:=@rZ M _ D1 [.tmp 0] [] (by kernel_rfl) H Q
def z_(M:ak)(c:Ctx):=(fb M c).2.2.1
def qn3:=@rZ M _ mu [.tmp 2] [a0] (by kernel_rfl) H Q
def XE(M:ak)(c:Ctx):=(fb M c).2.2.2.1
def qp3:=@rZ M _ Uf [.tmp 4] [a0,a1] (by kernel_rfl) H Q
def qzh(M:ak)(c:Ctx):=(fb M c).2.2.2.2.1
def qzg:=@rZ M _ D_ [.tmp 2] [a0] (by kernel_rfl) H Q
def SJ:bZ:=funcAt Tryz.prog yw
def QN:dV:=ia SJ 0
abbrev WV(k:Nat):Kp×ai:=IV 300043 k
abbrev WN(k:Nat):Kp×ai:=IV 200043 k
def qj9:nth SJ.loops 0=B1 QN/\QN.params=[70]:=⟨by kernel_rfl,by kernel_rfl⟩
def qsl:(WV 0).1.ah=[0,1,4,5,6,7,8,11,12,44,45,46,69,70]/\(WV 0).2=QN.assign:=⟨by kernel_rfl,by kernel_rfl⟩
def qsm:(WN 0).1.ah=[0,1,4,5,6,7,8,11,12,44,45,46,69,70]/\(WN 0).2=QN.body:=⟨by kernel_rfl,by kernel_rfl⟩
def qt1:M.func yw=B1 SJ:=MK.at (by decide) (by kernel_rfl)
def ZO(M:ak)(c:Ctx):=Gf (fb M c).2.2.2.2.2.1.1 (Gf (fb M c).2.2.2.2.2.2.1 (Gf (fb M c).2.2.2.2.2.2.2.1.1 (Gf (fb M c).2.2.2.2.2.1.2.1 (Gf (fb M c).2.2.2.2.2.2.2.1.2 (Gf (fb M c).2.2.2.2.2.1.2.2.1 (Gf (fb M c).2.2.2.2.2.1.2.2.2.1 (Gf (fb M c).2.2.2.2.2.1.2.2.2.2.1 (Gf (fb M c).2.2.2.2.2.1.2.2.2.2.2.1 (Gf (fb M c).2.2.2.2.2.1.2.2.2.2.2.2.1 (Gf (fb M c).2.2.2.2.2.1.2.2.2.2.2.2.2.1 (Gf (fb M c).2.2.2.2.2.1.2.2.2.2.2.2.2.2.1 (Gf (fb M c).2.2.2.2.2.1.2.2.2.2.2.2.2.2.2.1 (Gf (fb M c).2.2.2.2.2.1.2.2.2.2.2.2.2.2.2.2.1 ((fb M c).2.2.2.2.2.1.2.2.2.2.2.2.2.2.2.2.2))))))))))))))
def _z:=@rZ M _ yw [.tmp 4,.tmp 5] [a0,a1] (by kernel_rfl) H Q
def Sf(M:ak)(c:Ctx):=(fe M c).1
def q7k:=@rZ M _ NA [] [a0,a1] (by kernel_rfl) H Q
def MN(M:ak)(c:Ctx):=(fe M c).2.1
def qw7:=@rZ M _ Rg [.cZ 14 4] [a0,a1] (by kernel_rfl) H Q
def qr6(M:ak)(c:Ctx):=(fe M c).2.2.1
def qr5:=@rZ M _ Q8 [.cZ 14 4] [a0,a1] (by kernel_rfl) H Q
def qu6(M:ak)(c:Ctx):=(fe M c).2.2.2.1
def qu5:=@rZ M _ PM [.cZ 14 4] [a0,a1] (by kernel_rfl) H Q
def qu8(M:ak)(c:Ctx):=(fe M c).2.2.2.2.1
def qu7:=@rZ M _ Rr [.cZ 14 4] [a0,a1] (by kernel_rfl) H Q
def q0i(M:ak)(c:Ctx):=(fe M c).2.2.2.2.2.1
def q0h:=@rZ M _ XQ [.cZ 8 4,.tmp 5] [a0,a1] (by kernel_rfl) H Q
def q7b(M:ak)(c:Ctx):=(fe M c).2.2.2.2.2.2.1
def q7a:=@rZ M _ qs3 [.tmp 4] [a0,a1] (by kernel_rfl) H Q
def qz4(M:ak)(c:Ctx):=(fe M c).2.2.2.2.2.2.2.1
def qz3:=@rZ M _ LH [] [a0,a1,a2] (by kernel_rfl) H Q
def q0z(M:ak)(c:Ctx):=(ff M c)
def q0y:=@rZ M _ UP [.cZ 21 4,.tmp 5] [a0,a1] (by kernel_rfl) H Q
abbrev qvb:Nat:=8
abbrev Sn:Nat:=4
abbrev qs7:Nat:=15
abbrev XU:Nat:=14
abbrev _M:Nat:=9
abbrev A0:Nat:=13
abbrev va:Nat:=16
abbrev qte:Nat:=10
abbrev Pq:Nat:=17
abbrev qvd:Nat:=30
abbrev M1:Nat:=45
abbrev xn:Nat:=35
abbrev Yv:Nat:=22
abbrev qve:Nat:=20
abbrev qqv:Nat:=23
abbrev qpm:Nat:=24
abbrev qh3:Nat:=29
abbrev i_:Nat:=36
abbrev nS:Nat:=30
abbrev Ef:Nat:=80
abbrev zG:Nat:=33
abbrev vf:Nat:=29
abbrev Xe:uk:=[(4,⟨[0,1,2,3,5,6,7,8,9,10,11,12,13,14,15,16,17,120,121],B2,[0,2,10,14,22,24,36,30,44,48,84,53,92,59,109,97,83,65,103,71,108,82,77]⟩,[]),(8,⟨[0,1,2,3,4],B2,[0,4,19,9,27,15,18]⟩,[]),(9,⟨[0,2,3],B2,[0]⟩,[]),(13,⟨[0,1,4,5],B2,[0,2,10,31,15,21,30]⟩,[]),(14,⟨[0,1,2,3,5,6,8],B2,[0,4,12]⟩,[]),(15,⟨[0,1,2,3,5,6,7,9,10,11,12,13,14,15,16,30,31,49,72,73],B2,[0,4,21,9,23,15,73,38,66,20,42,63,47,53,62]⟩,[]),(16,⟨[0,1,4,5],B2,[0]⟩,[]),(17,⟨[0,1,2,3,5,6,7,8,9,10,11,12,13,30,31],B2,[0,2,12,14,35,19,25,27,29,31]⟩,[]),(300017,⟨[0,1,2,3,5,6,7,8,9,10,11,12,13,30,31],B2,[0]⟩,[]),(200017,⟨[0,1,2,3,5,6,7,8,9,10,11,12,13,30,31],B2,[0,3,11]⟩,[]),(10,⟨[0,1,2,3,5,6,7,8,9,11,22,23,24],B2,[0,4,12,29,17,23,28]⟩,[]),(23,⟨[0,1,2,3,5,6,7,8],B2,[0,4,12]⟩,[]),(24,⟨[0,1,4],B2,[0]⟩,[]),(29,⟨[0,2],B2,[0,2,10]⟩,[]),(30,⟨[0,1,2],B2,[0]⟩,[]),(20,⟨[0,1,2,3,5,6,7,8,9],B2,[0,4,12,20]⟩,[]),(22,⟨[0,1,3,4,5,6,7,8,17],B2,[0,4,29,22]⟩,[(7,[0,2,4,6,8,12,14,10,15,16,18])]),(36,⟨[0,1,2,6,7],B2,[0,4,12]⟩,[]),(45,⟨[0,1,3],B2,[0,4,10,17]⟩,[]),(35,⟨[0,1,2,6,7,9,11,12,13],B2,[0,4,25,9,15,24]⟩,[])]
def Vs(n:Nat):Kp:=jO n Xe
def MX(n k:Nat):Kp×ai:=(Vs n,part (bh Tryz.prog n) k)
def q28(n k:Nat):MX n k=(Vs n,part (bh Tryz.prog n) k):=rfl
def ud:=@kQ M _ MX Vs q28
attribute [local irreducible] MX
def ym(M:ak)(c:Ctx):=by
 have h:=pk q28 M c Xe (by kernel_rfl)
 conv at h=>arg 5;reduce
 delta PR RL nZ gN nY gG oO iM mQ fU gI gj oJ qJ se oE pP rW sn Xe at h
 simp only[zZ,zP,zR,Ab,Ao,QP]at h;exact h
def fu(M:ak)(c:Ctx):=(ym M c).2.2.2.2.2.2.2.2
def fy(M:ak)(c:Ctx):=(fu M c).2.2.2.2.2.2.2.2
def zf(M:ak)(c:Ctx):=(ym M c).1
def qsz:=@ud M _ Sn [.tmp 6] [a0,a1,a2] (by kernel_rfl) H Q
def Mr(M:ak)(c:Ctx):=(ym M c).2.1
def xai:=@ud M _ qvb [.tmp 2] [a0] (by kernel_rfl) H Q
def Vv(M:ak)(c:Ctx):=(ym M c).2.2.1
def xc4:=@ud M _ _M [.tmp 2] [a0] (by kernel_rfl) H Q
def Vg(M:ak)(c:Ctx):=(ym M c).2.2.2.1
def xdy:=@ud M _ A0 [.tmp 4] [a0,a1] (by kernel_rfl) H Q
def N5(M:ak)(c:Ctx):=(ym M c).2.2.2.2.1
def xfs:=@ud M _ XU [.tmp 6] [a0,a1,a2] (by kernel_rfl) H Q
def yp(M:ak)(c:Ctx):=(ym M c).2.2.2.2.2.1
def q7s:=@ud M _ qs7 [.tmp 6] [a0,a1,a2] (by kernel_rfl) H Q
def VB(M:ak)(c:Ctx):=(ym M c).2.2.2.2.2.2.1
def q6e:=@ud M _ va [.tmp 4] [a0,a1] (by kernel_rfl) H Q
def TS:bZ:=funcAt Tryz.prog Pq
def QB:dV:=ia TS 0
abbrev Wu(k:Nat):Kp×ai:=MX 300017 k
abbrev UN(k:Nat):Kp×ai:=MX 200017 k
def qn2:nth TS.loops 0=B1 QB/\QB.params=[31]:=⟨by kernel_rfl,by kernel_rfl⟩
def qyq:(Wu 0).1.ah=[0,1,2,3,5,6,7,8,9,10,11,12,13,30,31]/\(Wu 0).2=QB.assign:=⟨by kernel_rfl,by kernel_rfl⟩
def qyr:(UN 0).1.ah=[0,1,2,3,5,6,7,8,9,10,11,12,13,30,31]/\(UN 0).2=QB.body:=⟨by kernel_rfl,by kernel_rfl⟩
def q1k:M.func Pq=B1 TS:=MK.at (by decide) (by kernel_rfl)
def ID(M:ak)(c:Ctx):=Gf (ym M c).2.2.2.2.2.2.2.1.1 (Gf (fu M c).1 (Gf (fu M c).2.1.1 (Gf (ym M c).2.2.2.2.2.2.2.1.2.1 (Gf (fu M c).2.1.2.1 (Gf (ym M c).2.2.2.2.2.2.2.1.2.2.1 (Gf (fu M c).2.1.2.2 (Gf (ym M c).2.2.2.2.2.2.2.1.2.2.2.1 (Gf (ym M c).2.2.2.2.2.2.2.1.2.2.2.2.1 (Gf (ym M c).2.2.2.2.2.2.2.1.2.2.2.2.2.1 (Gf (ym M c).2.2.2.2.2.2.2.1.2.2.2.2.2.2.1 (Gf (ym M c).2.2.2.2.2.2.2.1.2.2.2.2.2.2.2.1 (Gf (ym M c).2.2.2.2.2.2.2.1.2.2.2.2.2.2.2.2.1 ((ym M c).2.2.2.2.2.2.2.1.2.2.2.2.2.2.2.2.2)))))))))))))
def q6n:=@ud M _ Pq [.tmp 6,.tmp 7] [a0,a1,a2] (by kernel_rfl) H Q
def Md(M:ak)(c:Ctx):=(fu M c).2.2.1
def q77:=@ud M _ qte [.tmp 6,.tmp 7] [a0,a1,a2] (by kernel_rfl) H Q
def SB(M:ak)(c:Ctx):=(fu M c).2.2.2.1
def q6q:=@ud M _ qqv [.tmp 6] [a0,a1,a2] (by kernel_rfl) H Q
def q1m(M:ak)(c:Ctx):=(fu M c).2.2.2.2.1
def q1l:=@ud M _ qpm [.tmp 4] [a0,a1] (by kernel_rfl) H Q
def tl(M:ak)(c:Ctx):=(fu M c).2.2.2.2.2.1
def qp9:=@ud M _ qh3 [.tmp 2] [a0] (by kernel_rfl) H Q
def xbh(M:ak)(c:Ctx):=(fu M c).2.2.2.2.2.2.1
def xbg:=@ud M _ qvd [.tmp 2] [a0] (by kernel_rfl) H Q
def NK(M:ak)(c:Ctx):=(fu M c).2.2.2.2.2.2.2.1
def xbi:=@ud M _ qve [.tmp 6,.tmp 7] [a0,a1,a2] (by kernel_rfl) H Q
def JY(M:ak)(c:Ctx):=(fy M c).1
def xd8:=@ud M _ Yv [.tmp 4] [a0,a1] (by kernel_rfl) H Q
def qoz(M:ak)(c:Ctx):=(fy M c).2.1
def qoy:=@ud M _ i_ [.tmp 6] [a0,a1,a2] (by kernel_rfl) H Q
def P6(M:ak)(c:Ctx):=(fy M c).2.2.1
def q6o:=@ud M _ M1 [] [a0,a1] (by kernel_rfl) H Q
def Q7(M:ak)(c:Ctx):=(fy M c).2.2.2
def q6p:=@ud M _ xn [.tmp 6] [a0,a1,a2] (by kernel_rfl) H Q
end
end Go.Am
