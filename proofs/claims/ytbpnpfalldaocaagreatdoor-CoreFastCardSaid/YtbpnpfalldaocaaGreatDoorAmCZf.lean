import Derived.Test.YtbpnpfalldaocaaGreatDoorAmCZd
import Derived.Test.YtbpnpfalldaocaaGreatDoorAmCZa
import Derived.KernelRfl
import Derived.Test.YtbpnpfalldaocaaGreatDoorRows
set_option linter.unusedVariables false
set_option linter.unusedSimpArgs false
set_option linter.defProp false
set_option maxRecDepth 100000
set_option maxHeartbeats 1000000
open And renaming intro→Dd
open BitVec renaming ofInt→A7
open Bool renaming rec→Ju,false→B2,true→B4
open Go renaming IntKind→KB,Oper→KW,Operand→IY,Program→Fv,TypeId→IV
open Int renaming reduceNegSucc→LJ,reduceOfNat→A0
open List renaming range→Ig,rec→Sp
open Nat renaming beq→FW,ble→Jo,blt→KI
open Option renaming rec→L3,none→B5,some→B1
namespace Go.Am
noncomputable section
def PR:Type:=Prop
abbrev WR:=Bool->aE->Env->List aK->ar->PR
abbrev KQ:=Bool->Env->Env->ar->PR
def Dc(m:Bool)(o:Option (bB×(Nat->AV)))(H:ar)(K:Bool->AV->ar->Prop):Prop:=iG m o λ g o mk=>K g (mk H.au) (H.alloc o)
def mT{α:Type}:Bool->Option α->(Bool -> α->PR)->PR:=@B3 α
def gj{α β:Type}:Bool->Option (α×β)->(Bool -> α -> β->PR)->PR:=@iG α β
def fM:Bool->AV->(Bool->PR)->(Bool->PR)->PR:=lT
def fY:Bool->Bool->(Bool->PR)->(Bool->PR)->PR:=tz
def iY:Bool->Option AV->Option AV->(Bool->PR)->PR:=JK
def fZ:Bool->Option (bB×(Nat->AV))->ar->(Bool->AV->ar->PR)->PR:=Dc
def oi:ak->Bool->kW->List AV->ar->(Bool->AV->ar->PR)->PR:=C3
def vG:ak->Bool->(aA->ar->PR)->kW->List AV->ar->(Bool->AV->ar->PR)->PR:=P3
def pM:Bool->List AV->(Bool->kW->List AV->PR)->PR:=V3
def sT:ak->Bool->String->List AV->(Bool->kW->List AV->PR)->PR:=N3
def uo:Option (List Nat)->List Nat->aE->Env->List aK->aA->ar->PR:=PX
def vF:List AV->ar->(aA->ar->PR)->PR:=fG
def fJ{α:Type}:(α->PR) -> α->PR:=@JN α
def lS:Bool->aE->aS->Env->List aK->ar->PR:=pk
def nJ{α:Type}:Bool->Option α->(Bool -> α->PR)->PR:=@LK α
def rW:ak->Ctx->Kp×ai->WR:=W
def pY:WR->aE->Env->List aK->ar->PR:=dA
def rk:ak->List Nat->Ctx->Nat->Env->List aK->ar->aE->AV->PR:=iL
def mY:WR->aE->aE:=ey
def p5:PR:=False
def mQ:Env->Nat->Option AV:=lk
section
variable(M:ak)
def SW(E L R:Env)(t:Nat)(g:Bool)(K:Bool->Env->AV->PR):PR :=
 L3 (motive:=λ _=>PR) (L3 (motive:=λ _=>PR) (nJ g (mQ E t) λ g v=>K g ((t,v)::R) v) (λ v=>K g R v) (lk R t)) (λ v=>K g R v) (lk L t)
def tEV(E L:Env)(l:List bE):Bool->Env->(Bool->Env->List AV->PR)->PR:=Sp (motive:=λ _=>Bool->Env->(Bool->Env->List AV->PR)->PR) (λ g R K=>K g R [])
 (λ x _ ih g R K=>bE.casesOn x (λ t=>SW E L R t g λ g R v=>ih g R λ g R vs=>K g R (v::vs)) (λ v=>ih g R λ g R vs=>K g R (v::vs)) (λ b=>ih g R λ g R vs=>K g R (.ptr b 0::vs)) (λ f=>ih g R λ g R vs=>K g R (.fn (.func f) [] []::vs))) l
def Qr(cL:Bool)(ps:Option (List Nat))(L:Env)(Q:aE)(E:Env)(D:List aK)(g:Bool)(f:kW)(vs:List AV)(H:ar)(K:Bool->AV->ar->PR):PR :=
 cond cL (vG M g (uo ps (kI L) Q E D) f vs H K) (oi M g f vs H K)
def tOP(cL:Bool)(dst:Option Nat)(ps:Option (List Nat))(Q:aE)(E:Env)(D:List aK)(L R:Env)(H:ar)(K:KQ)(g:Bool)(vs:List AV):eT->PR
 | .pure f=>mT g (f vs) λ g v=>K g (jS dst v L) R H
 | .read f=>mT g (f vs H) λ g v=>K g (jS dst v L) R H
 | .alloc f=>fZ g (f vs) H λ g v H=>K g (jS dst v L) R H
 | .fT f=>gj g (f vs H) λ g v H=>K g (jS dst v L) R H
 | .gE f=>Qr M cL ps L Q E D g (.func f) vs H (λ g v H=>K g (jS dst v L) R H)
 | .gF=>pM g vs λ g f vs=>Qr M cL ps L Q E D g f vs H (λ g v H=>K g (jS dst v L) R H)
 | .invoke name=>sT M g name vs λ g f vs=>Qr M cL ps L Q E D g f vs H (λ g v H=>K g (jS dst v L) R H)
 | .panic=>cond cL (vF vs H (uo ps (kI L) Q E D)) p5
 |_=>p5
def tCK(dst:Option Nat)(E L R:Env)(H:ar)(K:KQ)(g:Bool)(vs:List AV):eT->PR
 | .read f=>match dst with
  |some d=>iY g (f vs H) (L3 (motive:=λ _=>Option AV) (mQ E d) (λ v=>B1 v) (lk L d)) λ g=>K g L R H
  |none=>p5
 |_=>p5
def tST(cL:Bool)(s:aL)(Q:aE)(E:Env)(D:List aK)(K:KQ):KQ:=λ g L R H =>
 tEV E L s.args g R λ g R vs=>match s.gK with
  |false=>tOP M cL s.dst s.cq Q E D L R H K g vs s.op
  |true=>tCK s.dst E L R H K g vs s.op
def Vc(cL:Bool)(Q:aE)(E:Env)(D:List aK)(K:KQ)(l:List aL):KQ:=Sp (motive:=λ _=>KQ) K (λ s _ ih=>tST M cL s Q E D ih) l
def qK(n:Nat):Type:=Nat.rec (motive:=λ _=>Type) (ar->PR) (λ _ T=>AV->T) n
def UH:(n:Nat)->((Bool->qK n)->PR)->(Bool->qK n)->PR
 |0=>λ F K=>fJ (α:=Bool->ar->PR) (λ k=>F k) K
 |1=>λ F K=>fJ (α:=Bool->AV->ar->PR) (λ k=>F k) K
 |2=>λ F K=>fJ (α:=Bool->AV->AV->ar->PR) (λ k=>F k) K
 |3=>λ F K=>fJ (α:=Bool->AV->AV->AV->ar->PR) (λ k=>F k) K
 |4=>λ F K=>fJ (α:=Bool->AV->AV->AV->AV->ar->PR) (λ k=>F k) K
 |5=>λ F K=>fJ (α:=Bool->AV->AV->AV->AV->AV->ar->PR) (λ k=>F k) K
 |6=>λ F K=>fJ (α:=Bool->AV->AV->AV->AV->AV->AV->ar->PR) (λ k=>F k) K
 |7=>λ F K=>fJ (α:=Bool->AV->AV->AV->AV->AV->AV->AV->ar->PR) (λ k=>F k) K
 |8=>λ F K=>fJ (α:=Bool->AV->AV->AV->AV->AV->AV->AV->AV->ar->PR) (λ k=>F k) K
 |9=>λ F K=>fJ (α:=Bool->AV->AV->AV->AV->AV->AV->AV->AV->AV->ar->PR) (λ k=>F k) K
 |10=>λ F K=>fJ (α:=Bool->AV->AV->AV->AV->AV->AV->AV->AV->AV->AV->ar->PR) (λ k=>F k) K
 |11=>λ F K=>fJ (α:=Bool->AV->AV->AV->AV->AV->AV->AV->AV->AV->AV->AV->ar->PR) (λ k=>F k) K
 |12=>λ F K=>fJ (α:=Bool->AV->AV->AV->AV->AV->AV->AV->AV->AV->AV->AV->AV->ar->PR) (λ k=>F k) K
 |13=>λ F K=>fJ (α:=Bool->AV->AV->AV->AV->AV->AV->AV->AV->AV->AV->AV->AV->AV->ar->PR) (λ k=>F k) K
 |14=>λ F K=>fJ (α:=Bool->AV->AV->AV->AV->AV->AV->AV->AV->AV->AV->AV->AV->AV->AV->ar->PR) (λ k=>F k) K
 |15=>λ F K=>fJ (α:=Bool->AV->AV->AV->AV->AV->AV->AV->AV->AV->AV->AV->AV->AV->AV->AV->ar->PR) (λ k=>F k) K
 |16=>λ F K=>fJ (α:=Bool->AV->AV->AV->AV->AV->AV->AV->AV->AV->AV->AV->AV->AV->AV->AV->AV->ar->PR) (λ k=>F k) K
 |17=>λ F K=>fJ (α:=Bool->AV->AV->AV->AV->AV->AV->AV->AV->AV->AV->AV->AV->AV->AV->AV->AV->AV->ar->PR) (λ k=>F k) K
 |18=>λ F K=>fJ (α:=Bool->AV->AV->AV->AV->AV->AV->AV->AV->AV->AV->AV->AV->AV->AV->AV->AV->AV->AV->ar->PR) (λ k=>F k) K
 |19=>λ F K=>fJ (α:=Bool->AV->AV->AV->AV->AV->AV->AV->AV->AV->AV->AV->AV->AV->AV->AV->AV->AV->AV->AV->ar->PR) (λ k=>F k) K
 |20=>λ F K=>fJ (α:=Bool->AV->AV->AV->AV->AV->AV->AV->AV->AV->AV->AV->AV->AV->AV->AV->AV->AV->AV->AV->AV->ar->PR) (λ k=>F k) K
 |21=>λ F K=>fJ (α:=Bool->AV->AV->AV->AV->AV->AV->AV->AV->AV->AV->AV->AV->AV->AV->AV->AV->AV->AV->AV->AV->AV->ar->PR) (λ k=>F k) K
 |22=>λ F K=>fJ (α:=Bool->AV->AV->AV->AV->AV->AV->AV->AV->AV->AV->AV->AV->AV->AV->AV->AV->AV->AV->AV->AV->AV->AV->ar->PR) (λ k=>F k) K
 |23=>λ F K=>fJ (α:=Bool->AV->AV->AV->AV->AV->AV->AV->AV->AV->AV->AV->AV->AV->AV->AV->AV->AV->AV->AV->AV->AV->AV->AV->ar->PR) (λ k=>F k) K
 |24=>λ F K=>fJ (α:=Bool->AV->AV->AV->AV->AV->AV->AV->AV->AV->AV->AV->AV->AV->AV->AV->AV->AV->AV->AV->AV->AV->AV->AV->AV->ar->PR) (λ k=>F k) K
 |25=>λ F K=>fJ (α:=Bool->AV->AV->AV->AV->AV->AV->AV->AV->AV->AV->AV->AV->AV->AV->AV->AV->AV->AV->AV->AV->AV->AV->AV->AV->AV->ar->PR) (λ k=>F k) K
 |26=>λ F K=>fJ (α:=Bool->AV->AV->AV->AV->AV->AV->AV->AV->AV->AV->AV->AV->AV->AV->AV->AV->AV->AV->AV->AV->AV->AV->AV->AV->AV->AV->ar->PR) (λ k=>F k) K
 |27=>λ F K=>fJ (α:=Bool->AV->AV->AV->AV->AV->AV->AV->AV->AV->AV->AV->AV->AV->AV->AV->AV->AV->AV->AV->AV->AV->AV->AV->AV->AV->AV->AV->ar->PR) (λ k=>F k) K
 |28=>λ F K=>fJ (α:=Bool->AV->AV->AV->AV->AV->AV->AV->AV->AV->AV->AV->AV->AV->AV->AV->AV->AV->AV->AV->AV->AV->AV->AV->AV->AV->AV->AV->AV->ar->PR) (λ k=>F k) K
 |_+29=>λ F K=>fJ F K
def HD:∀(n:Nat)(F:(Bool->qK n)->PR)(K:Bool->qK n),UH n F K=fJ F K:=λ n=>by
 unfold UH;split<;>exact λ F K=>rfl
def Sr(n:Nat):(List AV->ar->PR)->qK n:=Nat.rec (motive:=λ n=>(List AV->ar->PR)->qK n) (λ f=>f []) (λ _ ih f v=>ih λ l=>f (v::l)) n
def Mc(n:Nat):qK n->List AV->ar->PR:=Nat.rec (motive:=λ n=>qK n->List AV->ar->PR) (λ k _=>k) (λ _ ih k l=>List.casesOn (motive:=λ _=>ar->PR) l (λ _=>p5) λ v l=>ih (k v) l) n
def Si(cL:Bool)(Q:aE)(E:Env)(D:List aK)(x:CQ)(K:KQ):KQ:=λ g L R H=>match x.1 with
 |none=>Vc M cL Q E D K x.2 g L R H
 |some q=>cond (sA q.1 x.2) (SW E L R q.1 g λ g R v=>UH (cF (bj x.2 []))
  (λ k=>mT g (cJ q.2 (B1 v)) λ g w=>fY g w (λ g=>Vc M cL Q E D (λ g L _ H=>Mc (cF (bj x.2 [])) (k g) (oZ (cF (bj x.2 [])) L) H) x.2 g L R H) (λ g=>Mc (cF (bj x.2 [])) (k g) (pU (cF (bj x.2 []))) H))
  (λ g=>Sr (cF (bj x.2 [])) λ vs H=>K g (jQ (bj x.2 []) L vs) R H)) p5
def Ml(cL:Bool)(Q:aE)(E:Env)(D:List aK)(l:List aL)(g:Bool)(H:ar)(K:KQ):PR:=Sp (motive:=λ _=>KQ) K (λ x _ ih=>Si M cL Q E D x ih) (Ga l) g [] [] H
def ZY(E:Env)(x:bE)(g:Bool)(K:Bool->AV->PR):PR:=match x with
 | .tmp t=>nJ g (mQ E t) K
 | .const v=>K g v
 | .dV b=>K g (.ptr b 0)
 | .func f=>K g (.fn (.func f) [] [])
def VB(E L R:Env)(x:bE)(g:Bool)(K:Bool->AV->PR):PR:=match x with
 | .tmp t=>SW E L R t g λ g _ v=>K g v
 | .const v=>K g v
 | .dV b=>K g (.ptr b 0)
 | .func f=>K g (.fn (.func f) [] [])
def tU(rg:Bool->aE->Env->List aK->List aL->Bool->ar->KQ->PR)(ctx:Ctx)(K:Kp)(X:Nat->WR):ai->Nat->WR
 | .skip,_,g,Q,E,D,H=>lS g Q .normal E D H
 | .label _,_,g,Q,E,D,H=>lS g Q .normal E D H
 | .exit id,_,g,Q,E,D,H=>lS g Q (.exit id) E D H
 | .goto l,_,g,Q,E,D,H=>lS g Q (.goto l) E D H
 | .ret,_,g,Q,E,D,H=>lS g Q .ret E D H
 | .stuck,_,_,_,_,_,_=>p5
 | .region l,_,g,Q,E,D,H=>rg K.cL Q E D l g H λ g L _ H=>lS g Q .normal (dh K.ah E L) D H
 | .seq a b,k,g,Q,E,D,H=>match a,b with
  | .region l,.cond c x y=>rg K.cL Q E D l g H λ g L R H=>VB E L R c g λ g v=>fM g v (λ g=>(Ju (motive:=λ _=>WR) (tU rg ctx K X x (k+3)) (X (k+3)) (bA (k+3) K.named)) g Q (dh K.ah E L) D H) (λ g=>(Ju (motive:=λ _=>WR) (tU rg ctx K X y (k+3+cX x)) (X (k+3+cX x)) (bA (k+3+cX x) K.named)) g Q (dh K.ah E L) D H)
  | .region l,.seq (.cond c x y) r=>rg K.cL Q E D l g H λ g L R H=>VB E L R c g λ g v=>fM g v (λ g=>(Ju (motive:=λ _=>WR) (tU rg ctx K X x (k+4)) (X (k+4)) (bA (k+4) K.named)) g (mY (Ju (motive:=λ _=>WR) (tU rg ctx K X r (k+4+cX x+cX y)) (X (k+4+cX x+cX y)) (bA (k+4+cX x+cX y) K.named)) Q) (dh K.ah E L) D H)
   (λ g=>(Ju (motive:=λ _=>WR) (tU rg ctx K X y (k+4+cX x)) (X (k+4+cX x)) (bA (k+4+cX x) K.named)) g (mY (Ju (motive:=λ _=>WR) (tU rg ctx K X r (k+4+cX x+cX y)) (X (k+4+cX x+cX y)) (bA (k+4+cX x+cX y) K.named)) Q) (dh K.ah E L) D H)
  | .region l,b=>rg K.cL Q E D l g H λ g L _ H=>(Ju (motive:=λ _=>WR) (tU rg ctx K X b (k+2)) (X (k+2)) (bA (k+2) K.named)) g Q (dh K.ah E L) D H
  |a,b=>(Ju (motive:=λ _=>WR) (tU rg ctx K X a (k+1)) (X (k+1)) (bA (k+1) K.named)) g (mY (Ju (motive:=λ _=>WR) (tU rg ctx K X b (k+1+cX a)) (X (k+1+cX a)) (bA (k+1+cX a) K.named)) Q) E D H
 | .cond c x y,k,g,Q,E,D,H=>ZY E c g λ g v=>fM g v (λ g=>(Ju (motive:=λ _=>WR) (tU rg ctx K X x (k+1)) (X (k+1)) (bA (k+1) K.named)) g Q E D H) (λ g=>(Ju (motive:=λ _=>WR) (tU rg ctx K X y (k+1+cX x)) (X (k+1+cX x)) (bA (k+1+cX x) K.named)) g Q E D H)
 | .block id b,k,g,Q,E,D,H=>(Ju (motive:=λ _=>WR) (tU rg ctx K X b (k+1)) (X (k+1)) (bA (k+1) K.named)) g (eD id Q) E D H
 | .scope b,k,g,Q,E,D,H=>(Ju (motive:=λ _=>WR) (tU rg ctx K X b (k+1)) (X (k+1)) (bA (k+1) K.named)) g (jO b Q) E D H
 | .loop (B1 _) _,_,_,_,_,_,_=>p5
 | .loop B5 b,k,g,Q,E,D,H=>pY (Ju (motive:=λ _=>WR) (tU rg ctx K X b (k+1)) (X (k+1)) (bA (k+1) K.named)) Q E D H
 | .rangeFunc f n,_,g,Q,E,D,H=>ZY E f g λ g v=>rk M K.ah ctx n E D H Q v
end
def GB(M:ak):Si M=Pq M:=by
 funext cL Q E D ⟨o,l⟩ K g L R H;cases o with
 |none=>kernel_rfl
 |some q =>
  unfold Si;simp only[HD]
  kernel_rfl
def Gs(M:ak):Ml M=oW M:=by
 funext cL Q E D l g H K;unfold Ml oW ur;rw[GB];rfl
def Gu(M:ak)(c:Ctx)(K:Kp)(X:Nat->WX):tU M (oW M) c K X=U M c K X:=by kernel_rfl
def Lv(M:ak)(c:Ctx)(K:Kp)(X:Nat->WX):tU M (Ml M) c K X=U M c K X:=by rw[Gs];exact Gu M c K X
abbrev Hs:=List (Nat×List Nat)
def Uw(n:Nat)(l:Hs):Option (List Nat):=Sp (motive:=λ _=>Option (List Nat)) B5 (λ p _ ih=>cond (FW p.1 n) (B1 p.2) ih) l
def zA(P:Fv):Nat->IV->Option aM
 |0,_=>B5
 |d+1,t=>match P.underlying t with
  |some (.struct fs)=>dc.fieldsT P (zA P d) fs.toList
  |some (.array n e)=>(bL P e).bind λ s=>(lY P e).bind λ a=>(zA P d e).bind λ q=>B1 (dc.itemsT s a q n 0)
  |_=>dc P 1 t
def NY(P:Fv)(t:IV)(neg:Bool)(x y:IY):Option (List bE×eT):=(zA P 20 t).bind λ q=>(mH P.globals.size [x,y]).bind λ l=>B1 (l,.read (Op.eq (.agg q) neg))
def Ii(P:Fv)(o:KW):Option (List bE×eT):=match o.op with
 | .binOp op t x y _=>match P.underlying t,op with
  |some (.struct _),.eql=>NY P t B2 x y
  |some (.struct _),.neq=>NY P t B4 x y
  |some (.array _ _),.eql=>NY P t B2 x y
  |some (.array _ _),.neq=>NY P t B4 x y
  |_,_=>fE P o
 |_=>fE P o
def Kw(P:Fv)(ops:Array KW)(draw:Bool)(h:Option (List Nat)):Option ai :=
 (cS (ops.toList.map (Ii P))).bind λ l =>
  (cS ((L3 (motive:=λ _=>List (Bool×Nat)) ((Ig ops.size).map λ i=>(B2,i)) (λ l=>l.map λ x=>(FW (x % 2) 1,x / 2)) h).map (iE ops l λ i=>Ju (motive:=λ _=>Option (List Nat)) (B1 []) (Jb ops (aQ ops l) (lR (aQ ops l).cls (aQ ops l).fA ops.size (2*ops.size) 0 []) i) draw))).bind λ steps=>B1 (.region steps)
def iB(P:Fv)(hs:Hs):Nat->Code->Option (ai×List dT)
 |_,.skip=>B1 (.skip,[])
 |_,.region r ops draw=>(Kw P ops draw (Ju B5 (Uw r hs) draw)).bind λ c=>B1 (c,[])
 |k,.seq a b=>(iB P hs k a).bind λ a=>(iB P hs (k+a.2.length) b).bind λ b=>B1 (.seq a.1 b.1,a.2++b.2)
 |k,.cond c a b=>(pJ P.globals.size c).bind λ c=>(iB P hs k a).bind λ a=>(iB P hs (k+a.2.length) b).bind λ b=>B1 (.cond c a.1 b.1,a.2++b.2)
 |k,.block id b=>(iB P hs k b).bind λ b=>B1 (.block id b.1,b.2)
 |k,.loop b=>(iB P hs k b).bind λ b=>B1 (.loop B5 b.1,b.2)
 |k,.rangeFunc f ps a b=>(pJ P.globals.size f).bind λ f=>(iB P hs (k+1) a).bind λ a=>(iB P hs (k+1+a.2.length) b).bind λ b=>B1 (.rangeFunc f k,{params:=ps.toList,assign:=a.1,body:=b.1}::(a.2++b.2))
 |_,.exit id=>B1 (.exit id,[])
 |k,.scope b=>(iB P hs k b).bind λ b=>B1 (.scope b.1,b.2)
 |_,.label l=>B1 (.label l,[])
 |_,.goto l=>B1 (.goto l,[])
 |_,.ret=>B1 (.ret,[])
 |_,.refuse _=>B1 (.stuck,[])
def AU(n:Nat)(b:ai)(l:List dT):ai:=Ju (motive:=λ _=>ai)
 (Ju (motive:=λ _=>ai) (Ju (motive:=λ _=>ai)
 (L3 (motive:=λ _=>ai) .stuck (λ q=>Ju (motive:=λ _=>ai) q.body q.assign (FW (n / 100000 % 2) 1)) (nth l (n / 100000 / 2-1))) (vB b) (FW (n / 100000) 1)) (tq b) (FW (n / 100000) 99)) b (Jo n 99999)
def a9(P:Fv)(n:Nat):ai:=AU n (funcAt P (n % 100000)).body (funcAt P (n % 100000)).loops
def Fz(P:Fv)(hs:Hs)(n:Nat):ai:=L3 (motive:=λ _=>ai) .stuck (λ f=>L3 (motive:=λ _=>ai) .stuck (λ b=>L3 (motive:=λ _=>ai) .stuck (λ c=>AU n c.1 c.2) (iB P hs 0 b)) f.body) (P.funcs[n % 100000]?)
abbrev RL:=List (aE->Env->List aK->ar->PR)
abbrev QL:=List (aE->Env->List aK->ar->Prop)
def rD(M:ak)(c:Ctx)(p:Nat->Kp×ai):List Nat->QL->Prop
 |k::ks,R::l=>(∀Q E D H,W M c (p k) B4 Q E D H=R Q E D H)/\rD M c p ks l
 |_,_=>True
def wP(M:ak)(c:Ctx)(p:Nat->Kp×ai)(k a:Nat)(ks:List Nat)(R:aE->Env->List aK->ar->Prop)(l:QL):rD M c p (k::a::ks) (R::l)=((∀Q E D H,W M c (p k) B4 Q E D H=R Q E D H)/\rD M c p (a::ks) l):=rfl
def wE(M:ak)(c:Ctx)(p:Nat->Kp×ai)(k:Nat)(R:aE->Env->List aK->ar->Prop):rD M c p [k] [R] = ∀Q E D H,W M c (p k) B4 Q E D H=R Q E D H:=propext ⟨λ h=>h.1,λ h=>⟨h,trivial⟩⟩
def tW(M:ak)(c:Ctx)(K:Kp)(p:Nat->Kp×ai)(r:ai)(ks:List Nat):RL :=
 Sp (motive:=λ _=>RL) [] (λ k _ ih=>(λ Q E D H=>tU M (Ml M) c K (λ j=>rW M c (p j)) (part r k) k B4 Q E D H)::ih) ks
def Nb{P:Fv}{p:Nat->Nat->Kp×ai}{a:Nat->Kp}(hp:∀n k,p n k=(a n,part (a9 P n) k))(M:ak)(c:Ctx)(n:Nat):∀ks:List Nat,rD M c (p n) ks (tW M c (a n) (p n) (a9 P n) ks)
 |[]=>trivial
 |k::ks=>⟨λ Q E D H=>by
  have e:(λ j=>W M c (p n j))=λ j=>W M c (a n,part (a9 P n) j):=funext λ j=>by rw[hp]
  show _=tU M (Ml M) c (a n) (λ j=>W M c (p n j)) (part (a9 P n) k) k B4 Q E D H;rw[hp n k,e,Lv];exact yI rfl,Nb hp M c n ks⟩
def xK(o:bB)(mk:Nat->AV)(H:ar)(K:Bool->AV->ar->Prop):Dc B4 (B1 (o,mk)) H K=K B4 (mk H.au) (H.alloc o):=propext jg
def xea(e:Nat)(z:List AV)(H:ar)(K:Bool->AV->ar->Prop):Dc B4 (Op.alloc e z []) H K=K B4 (.ptr H.au 0) (H.alloc (.row z e (0,0) B4)):=propext jg
def Dj(e:Nat)(v:AV)(H:ar)(K:Bool->AV->ar->Prop):Dc B4 (Op.box e [v]) H K=K B4 (.ptr H.au 0) (H.alloc (.row v.cells e (0,0) B4)):=propext jg
@[congr]def aa9{m a:Bool}{o o':Option (bB×(Nat->AV))}{H H':ar}{K:Bool->AV->ar->Prop}(hm:m=a)(h:o=o')(b:H=H'):Dc m o H K=Dc a o' H' K:=by subst hm;subst h;subst b;rfl
abbrev rX:=List (Nat×Kp×Hs)
def jM(n:Nat)(l:rX):Kp:=Sp (motive:=λ _=>Kp) ⟨[],B2,[]⟩ (λ p _ ih=>cond (FW p.1 n) p.2.1 ih) l
def Bo(M:ak)(c:Ctx)(p:Nat->Nat->Kp×ai):rX->List QL->Prop
 |x::r,l::ls=>rD M c (p x.1) x.2.1.named l/\Bo M c p r ls
 |_,_=>True
def wB(M:ak)(c:Ctx)(p:Nat->Nat->Kp×ai)(n:Nat)(ks a:List Nat)(b:Bool)(hs:Hs)(y:Nat×Kp×Hs)(r:rX)(l:QL)(ls:List QL):Bo M c p ((n,⟨a,b,ks⟩,hs)::y::r) (l::ls)=(rD M c (p n) ks l/\Bo M c p (y::r) ls):=rfl
def vX(M:ak)(c:Ctx)(p:Nat->Nat->Kp×ai)(n:Nat)(ks a:List Nat)(b:Bool)(hs:Hs)(l:QL):Bo M c p [(n,⟨a,b,ks⟩,hs)] [l]=rD M c (p n) ks l:=propext ⟨λ h=>h.1,λ h=>⟨h,trivial⟩⟩
def tF(M:ak)(c:Ctx)(Kt:Nat->Kp)(p:Nat->Nat->Kp×ai)(r:Nat->Hs->ai)(l:rX):List RL:=Sp (motive:=λ _=>List RL) [] (λ x _ ih=>tW M c (Kt x.1) (p x.1) (r x.1 x.2.2) x.2.1.named::ih) l
def nY{P:Fv}{p:Nat->Nat->Kp×ai}{a:Nat->Kp}(hp:∀n k,p n k=(a n,part (a9 P n) k))(M:ak)(c:Ctx)(l:rX)(e:tF M c a p (λ n _=>a9 P n) l=tF M c a p (λ n h=>Fz P h n) l):Bo M c p l (tF M c a p (λ n h=>Fz P h n) l):=by
 rw[<-e];clear e
 induction l with
 |nil=>trivial
 |cons x l ih=>exact⟨Nb hp M c x.1 _,ih⟩
def RQ:dM->dM->Bool
 | .tmp a,.tmp b=>FW a b
 | .jL a,.jL b=>FW a b
 | .dq a b,.dq c d=>cond (FW a c) (FW b d) B2
 |_,_=>B2
def KE{a b:dM}(h:RQ a b=B4):a=b:=by
 cases a with
 |tmp a=>cases b with
  |tmp b=>rw[ve h]
  |_=>cases h
 |jL a=>cases b with
  |jL b=>rw[ve h]
  |_=>cases h
 |dq a x=>cases b with
  |dq b y =>
   have h:cond (FW a b) (FW x y) B2=true:=h;cases q:FW a b with
   |true=>rw[q]at h;rw[ve q,ve h]
   |false=>rw[q]at h;cases h
  |_=>cases h
def Dy:List dM->List dM->Bool
 |[],[]=>B4
 |a::x,b::y=>cond (RQ a b) (Dy x y) B2
 |_,_=>B2
def yF:∀{a b:List dM},Dy a b=B4->a=b
 |[],[],_=>rfl
 |a::x,b::y,h=>by
  unfold Dy at h;cases q:RQ a b with
  |true=>rw[q]at h;rw[KE q,yF h]
  |false=>rw[q]at h;cases h
def TI(P:Fv)(tn:List Nat)(K:Kp)(n:Nat)(rs:List dM)(k:Nat):Bool:=cond (Jo n 99999) (cond (bA n tn) B2 (cond (iU 0 k K.ah) (L3 (motive:=λ _=>Bool) B2 (λ F=>Dy F.results rs) ((aU P).func n)) B2)) B2
def Li{P:Fv}{c:List Nat}{K:Kp}{n:Nat}{rs:List dM}{k:Nat}(h:TI P c K n rs k=B4):Jo n 99999=B4/\bA n c=B2/\iU 0 k K.ah=B4/\(aU P).func n=B1 (funcAt P n)/\(funcAt P n).results=rs:=by
 unfold TI at h;cases a:Jo n 99999 with
 |false=>rw[a]at h;cases h
 |true =>
 cases b:bA n c with
 |true=>rw[a,b]at h;cases h
 |false =>
 cases d:iU 0 k K.ah with
 |false=>rw[a,b,d]at h;cases h
 |true =>
 rw[a,b,d]at h;unfold funcAt;cases f:(aU P).func n with
 |none=>rw[f]at h;cases h
 |some F=>rw[f]at h;exact⟨rfl,rfl,rfl,rfl,yF h⟩
def Bc{P:Fv}{n:Nat}(h:Jo n 99999=B4):a9 P n=(funcAt P n).body:=by
 unfold a9 AU;rw[h,Nat.mod_eq_of_lt (Nat.lt_of_le_of_lt (Nat.le_of_ble_eq_true h) (by decide))]
def GI(i:Nat)(v:AV)(vs:List AV):i7 i (v::vs)=(i,v)::i7 (i+1) vs:=rfl
def HJ(i:Nat):i7 i []=[]:=rfl
def aa:type_of% Lw/\(∀(o:bB)mk H K,Dc B4 (B1 (o,mk)) H K=K B4 (mk H.au) (H.alloc o))/\(∀e z H K,Dc B4 (Op.alloc e z []) H K=K B4 (.ptr H.au 0) (H.alloc (.row z e (0,0) B4)))/\(∀e v H K,Dc B4 (Op.box e [v]) H K=K B4 (.ptr H.au 0) (H.alloc (.row v.cells e (0,0) B4)))/\(∀i v vs,i7 i (v::vs)=(i,v)::i7 (i+1) vs)/\(∀i,i7 i []=[])/\(∀{α:Type}(F:α->Prop)(K:α),JN F K=F K):=⟨Lw,xK,xea,Dj,GI,HJ,Fq⟩
def Lg{M:ak}{P:Fv}{p:Nat->Nat->Kp×ai}{a:Nat->Kp}(hp:∀n k,p n k=(a n,part (a9 P n) k)){n:Nat}{F:b9}(d:M.func n=B1 F){rs:List dM}(hr:F.results=rs){x y t:Nat}(c:pS F.body=B1 (vB F.body,t,tq F.body))(e:a9 P x=vB F.body)(f:a9 P y=tq F.body)(hk:(a x).ah=(a y).ah){vs:List AV}(b:iU 0 vs.length (a x).ah=B4){H:ar}{Q:bF->ar->Prop}
 (h:W M ⟨B5,n⟩ (p x 0) B4 (Cr M ⟨B5,n⟩ (p y 0) t (eR M rs Q)) (i7 0 vs) [] H):CM M n vs H Q:=by
 rw[hp,hp,e,f,<-hr]at h;exact EB d hk c b h
def Ds{M:ak}{P:Fv}{p:Nat->Nat->Kp×ai}{a:Nat->Kp}(hp:∀n k,p n k=(a n,part (a9 P n) k)){n:Nat}{F:b9}(c:M.func n=B1 F){rs:List dM}(hr:F.results=rs)(d:a9 P n=F.body){vs:List AV}(b:iU 0 vs.length (a n).ah=B4){up:Option aA}{H:ar}{Q:bF->ar->Prop}
 (h:W M ⟨B5,n⟩ (p n 0) B4 (eR M rs Q) (i7 0 vs) [] H):∃e H',iM M n vs up H e up H'/\Q e H':=by
 rw[hp,d,<-hr]at h;exact Ec c b h
abbrev Jr:Nat:=260
abbrev T4:Nat:=137
abbrev JE:Nat:=230
abbrev T3:Nat:=135
abbrev I4:Nat:=189
abbrev SP:Nat:=132
abbrev Uq:Nat:=328
abbrev P1:Nat:=140
abbrev R3:Nat:=327
abbrev Sd:Nat:=326
abbrev JW:Nat:=184
abbrev VH:Nat:=235
abbrev Nc:Nat:=261
abbrev SD:Nat:=187
abbrev Jt:Nat:=231
abbrev Xj:Nat:=228
abbrev Kg:Nat:=259
abbrev YD:Nat:=232
abbrev Tx:Nat:=57
abbrev q4a:Nat:=6
abbrev xe:Nat:=71
abbrev js:Nat:=54
abbrev cM:Nat:=3
abbrev R6:Nat:=218
abbrev jq:Nat:=296
abbrev ww:Nat:=153
open Go.Proofs Go.Proofs.YtbpnpfalldaocaaGreatDoor
class MK (M:ak):Prop where
 ok:∀n,bA n [6]=B2->M.func n=(aU Tryz.prog).func n
 mt:∀t s,M.jB t s=(aU Tryz.prog).jB t s
def MK.at{M:ak}[h:MK M]{n:Nat}{F:b9}(hn:bA n [6]=B2)(a:(aU Tryz.prog).func n=B1 F):M.func n=B1 F:=(h.ok n hn).trans a
def wS{M:ak}[h:MK M]{n:Nat}{F:b9}(hn:bA n [6]=B2){rs:List dM}(a:(aU Tryz.prog).func n=B1 F/\F.results=rs){ks:Kp}{vs:List AV}(hk:iU 0 vs.length ks.ah=B4){H:ar}{Q:bF->ar->Prop}(hw:W M ⟨B5,n⟩ (ks,part F.body 0) B4 (eR M rs Q) (i7 0 vs) [] H):CM M n vs H Q:=LD (MK.at hn a.1) hk (a.2▸hw)
def kD{M:ak}[MK M]{p:Nat->Nat->Kp×ai}{a:Nat->Kp}(hp:∀n k,p n k=(a n,part (a9 Tryz.prog n) k))(n:Nat)(rs:List dM)(vs:List AV)(b:TI Tryz.prog [6] (a n) n rs vs.length=B4)(H:ar)(Q:bF->ar->Prop)(h:W M ⟨B5,n⟩ (p n 0) B4 (eR M rs Q) (i7 0 vs) [] H):CM M n vs H Q:=by
 obtain⟨b,c,d,e⟩:=Li b;exact wS c e (ks:=a n) d (by rw[hp,Bc b]at h;exact h)
variable{M:ak}[MK M]{H:ar}{Q:bF->ar->Prop}{a0 a1 a2 a3:AV}
abbrev Q3:rX:=[(57,⟨[0,1,4,5],B2,[0,2,10]⟩,[]),(260,⟨[0,2,3,7,8],B2,[0,2,10,15]⟩,[]),(300260,⟨[0,2,3,7,8],B2,[0]⟩,[]),(200260,⟨[0,2,3,7,8],B2,[0]⟩,[]),(230,⟨[0,2,3,7,8],B2,[0,2,10,15]⟩,[]),(300230,⟨[0,2,3,7,8],B2,[0]⟩,[]),(200230,⟨[0,2,3,7,8],B2,[0]⟩,[]),(328,⟨[0,1,2,6,7,8,9,10],B2,[0,2,18,8,20,14,26]⟩,[]),(327,⟨[0,1,2,6,7,8],B2,[0,2,10,12,20]⟩,[]),(132,⟨[0,1,4,5,6,21],B2,[0,4,12]⟩,[]),(326,⟨[0,1,4,5,6,7],B2,[0,2,10,12,20]⟩,[]),(135,⟨[0,1,4,5,6,7,8,21],B2,[0,4,12]⟩,[]),(137,⟨[0,1,4,5,6,7,8],B2,[0,4,12]⟩,[]),(140,⟨[0,1,2,5,6,7,8],B2,[0,4,10]⟩,[(3,[0,2,4,6,8,10,5,12,14,16])]),(189,⟨[0,1,2,3,7,8,9,10,11,12,21],B2,[0,2,23,16,25,33]⟩,[(13,[0,2,4,6,8,5,10,12])]),(235,⟨[0,1,2],B2,[0]⟩,[]),(187,⟨[0,1,2,6,7,8],B2,[0,2,10,12,20]⟩,[]),(232,⟨[0,1],B2,[0]⟩,[]),(184,⟨[0,1,3,4,5,8,9],B2,[0,2,7]⟩,[]),(300184,⟨[0,1,3,4,5,8,9],B2,[0]⟩,[]),(200184,⟨[0,1,3,4,5,8,9],B2,[0]⟩,[]),(231,⟨[0,1,4,5,6,9,10],B2,[0,2,3,5,7,12]⟩,[]),(300231,⟨[0,1,4,5,6,9,10],B2,[0]⟩,[]),(200231,⟨[0,1,4,5,6,9,10],B2,[0,9,15]⟩,[]),(261,⟨[0,1,3,10,11],B2,[0,1,7,9,13,19,34,23,29]⟩,[]),(228,⟨[0,1,2,3,4],B2,[0]⟩,[]),(259,⟨[0,1,2,4,5,26,27],B2,[0,6,12,18,27]⟩,[])]
def RJ(n:Nat):Kp:=jM n Q3
def wC(n k:Nat):Kp×ai:=(RJ n,part (a9 Tryz.prog n) k)
def Z1(n k:Nat):wC n k=(RJ n,part (a9 Tryz.prog n) k):=rfl
def vk:=@kD M _ wC RJ Z1
attribute [local irreducible] PR wC mT gj fM fY iY fZ oi vG pM sT uo vF fJ lS nJ rW pY rk mY p5 mQ eD jO cJ AV.undef Op.move Op.pick Op.build Op.nilCheck Op.bin Op.eq Op.un Op.wrap Op.dH Op.eH Op.dm Op.bS Op.dJ Op.aJ Op.cG Op.fieldAddr Op.field Op.aN Op.aW Op.bD Op.bK Op.typeAssert Op.extract Op.fh Op.dg Op.nS Op.cap Op.eN Op.da Op.dP Op.aB Op.bR Op.ae Op.av Op.cD Op.lookup Op.gy Op.eI Op.alloc Op.box Op.buildSlice Op.mkMap Op.mkSlice Op.cB Op.dQ Op.makeNoZero Op.store Op.mapUpdate Op.db Op.eG Op.append Op.copy Op.bW Op.bP Op.eJ Op.dI
def zz(M:ak)(c:Ctx):=by
 have h:=nY Z1 M c Q3 (by kernel_rfl)
 conv at h=>arg 5;reduce
 delta PR RL mQ fZ mT gj oi iY lS fM fY fJ nJ pY rk mY pM rW qK Q3 at h
 simp only[wB,vX,wP,wE,A0,LJ]at h;exact h
def bf(M:ak)(c:Ctx):=(zz M c).2.2.2.2.2.2.2.2
def bo(M:ak)(c:Ctx):=(bf M c).2.2.2.2.2.2.2.2
def cb(M:ak)(c:Ctx):=(bo M c).2.2.2.2.2.2.2.2
def Bp(M:ak)(c:Ctx):=(zz M c).1
def af9:=@vk M _ Tx [.tmp 4,.tmp 5] [a0,a1] (by kernel_rfl) H Q
def Ok:b9:=funcAt Tryz.prog Jr
def Mj:dT:=i9 Ok 0
abbrev SU(k:Nat):Kp×ai:=wC 300260 k
abbrev QS(k:Nat):Kp×ai:=wC 200260 k
def wz:nth Ok.loops 0=B1 Mj/\Mj.params=[8]:=⟨by kernel_rfl,by kernel_rfl⟩
def Ω:(SU 0).1.ah=[0,2,3,7,8]/\(SU 0).2=Mj.assign:=⟨by kernel_rfl,by kernel_rfl⟩
def qqf:(QS 0).1.ah=[0,2,3,7,8]/\(QS 0).2=Mj.body:=⟨by kernel_rfl,by kernel_rfl⟩
def qry:M.func Jr=B1 Ok:=MK.at (by decide) (by kernel_rfl)
def Vl(M:ak)(c:Ctx):=Dd (zz M c).2.1.1 (Dd (zz M c).2.2.1 (Dd (zz M c).2.2.2.1 (Dd (zz M c).2.1.2.1 (Dd (zz M c).2.1.2.2.1 ((zz M c).2.1.2.2.2)))))
def qtj:=@vk M _ Jr [.tmp 2] [a0] (by kernel_rfl) H Q
def O2:b9:=funcAt Tryz.prog JE
def Mu:dT:=i9 O2 0
abbrev TD(k:Nat):Kp×ai:=wC 300230 k
abbrev Rv(k:Nat):Kp×ai:=wC 200230 k
def WH:nth O2.loops 0=B1 Mu/\Mu.params=[8]:=⟨by kernel_rfl,by kernel_rfl⟩
def _M:(TD 0).1.ah=[0,2,3,7,8]/\(TD 0).2=Mu.assign:=⟨by kernel_rfl,by kernel_rfl⟩
def _n:(Rv 0).1.ah=[0,2,3,7,8]/\(Rv 0).2=Mu.body:=⟨by kernel_rfl,by kernel_rfl⟩
def qqg:M.func JE=B1 O2:=MK.at (by decide) (by kernel_rfl)
def UX(M:ak)(c:Ctx):=Dd (zz M c).2.2.2.2.1.1 (Dd (zz M c).2.2.2.2.2.1 (Dd (zz M c).2.2.2.2.2.2.1 (Dd (zz M c).2.2.2.2.1.2.1 (Dd (zz M c).2.2.2.2.1.2.2.1 ((zz M c).2.2.2.2.1.2.2.2)))))
def qrz:=@vk M _ JE [.tmp 2] [a0] (by kernel_rfl) H Q
def qz8(M:ak)(c:Ctx):=(zz M c).2.2.2.2.2.2.2.1
def qz7:=@vk M _ Uq [.tmp 6] [a0,a1,a2] (by kernel_rfl) H Q
def q2g(M:ak)(c:Ctx):=(bf M c).1
def q2f:=@vk M _ R3 [.tmp 6] [a0,a1,a2] (by kernel_rfl) H Q
def qz6(M:ak)(c:Ctx):=(bf M c).2.1
def qz5:=@vk M _ SP [.dq 21 4,.tmp 5] [a0,a1] (by kernel_rfl) H Q
def q0a(M:ak)(c:Ctx):=(bf M c).2.2.1
def qz9:=@vk M _ Sd [.tmp 4,.tmp 5] [a0,a1] (by kernel_rfl) H Q
def qz2(M:ak)(c:Ctx):=(bf M c).2.2.2.1
def k_:=@vk M _ T3 [.dq 21 4,.tmp 5] [a0,a1] (by kernel_rfl) H Q
def qtl(M:ak)(c:Ctx):=(bf M c).2.2.2.2.1
def qtk:=@vk M _ T4 [.dq 8 4,.tmp 5] [a0,a1] (by kernel_rfl) H Q
def a_(M:ak)(c:Ctx):=(bf M c).2.2.2.2.2.1
def qr0:=@vk M _ P1 [.tmp 6] [a0,a1,a2] (by kernel_rfl) H Q
abbrev Wi(k:Nat):Kp×ai:=wC I4 k
def qz4(M:ak)(c:Ctx):=(bf M c).2.2.2.2.2.2.1
def qz3:=@vk M _ I4 [.dq 21 8,.tmp 9,.tmp 10] [a0,a1,a2,a3] (by kernel_rfl) H Q
def q0e(M:ak)(c:Ctx):=(bf M c).2.2.2.2.2.2.2.1
def q0d:=@vk M _ VH [.tmp 2] [a0] (by kernel_rfl) H Q
def q47(M:ak)(c:Ctx):=(bo M c).1
def q46:=@vk M _ SD [.tmp 6,.tmp 7] [a0,a1,a2] (by kernel_rfl) H Q
def q2l(M:ak)(c:Ctx):=(bo M c).2.1
def q2k:=@vk M _ YD [] [a0,a1] (by kernel_rfl) H Q
def Oi:b9:=funcAt Tryz.prog JW
def Lj:dT:=i9 Oi 0
abbrev QE(k:Nat):Kp×ai:=wC 300184 k
abbrev QF(k:Nat):Kp×ai:=wC 200184 k
def Xu:nth Oi.loops 0=B1 Lj/\Lj.params=[9]:=⟨by kernel_rfl,by kernel_rfl⟩
def b_:(QE 0).1.ah=[0,1,3,4,5,8,9]/\(QE 0).2=Lj.assign:=⟨by kernel_rfl,by kernel_rfl⟩
def q0c:(QF 0).1.ah=[0,1,3,4,5,8,9]/\(QF 0).2=Lj.body:=⟨by kernel_rfl,by kernel_rfl⟩
def q2h:M.func JW=B1 Oi:=MK.at (by decide) (by kernel_rfl)
def qc(M:ak)(c:Ctx):=Dd (bo M c).2.2.1.1 (Dd (bo M c).2.2.2.1 (Dd (bo M c).2.2.2.2.1 (Dd (bo M c).2.2.1.2.1 ((bo M c).2.2.1.2.2))))
def q45:=@vk M _ JW [.jL 4] [a0,a1] (by kernel_rfl) H Q
def OJ:b9:=funcAt Tryz.prog Jt
def LF:dT:=i9 OJ 0
abbrev RI(k:Nat):Kp×ai:=wC 300231 k
abbrev Ud(k:Nat):Kp×ai:=wC 200231 k
def v8:nth OJ.loops 0=B1 LF/\LF.params=[10]:=⟨by kernel_rfl,by kernel_rfl⟩
def _6:(RI 0).1.ah=[0,1,4,5,6,9,10]/\(RI 0).2=LF.assign:=⟨by kernel_rfl,by kernel_rfl⟩
def qtp:(Ud 0).1.ah=[0,1,4,5,6,9,10]/\(Ud 0).2=LF.body:=⟨by kernel_rfl,by kernel_rfl⟩
def qvv:M.func Jt=B1 OJ:=MK.at (by decide) (by kernel_rfl)
def z0(M:ak)(c:Ctx):=Dd (bo M c).2.2.2.2.2.1.1 (Dd (bo M c).2.2.2.2.2.2.1 (Dd (bo M c).2.2.2.2.2.2.2.1.1 (Dd (bo M c).2.2.2.2.2.1.2.1 (Dd (bo M c).2.2.2.2.2.2.2.1.2.1 (Dd (bo M c).2.2.2.2.2.1.2.2.1 (Dd (bo M c).2.2.2.2.2.2.2.1.2.2 (Dd (bo M c).2.2.2.2.2.1.2.2.2.1 (Dd (bo M c).2.2.2.2.2.1.2.2.2.2.1 ((bo M c).2.2.2.2.2.1.2.2.2.2.2)))))))))
def q0f:=@vk M _ Jt [.jL 4] [a0,a1] (by kernel_rfl) H Q
def Γ(M:ak)(c:Ctx):=(cb M c).1
def qtm:=@vk M _ Nc [] [a0,a1] (by kernel_rfl) H Q
def q2j(M:ak)(c:Ctx):=(cb M c).2.1
def _K:=@vk M _ Xj [.tmp 4] [a0,a1] (by kernel_rfl) H Q
def qvx(M:ak)(c:Ctx):=(cb M c).2.2
def qvw:=@vk M _ Kg [] [a0,a1,a2] (by kernel_rfl) H Q
abbrev Te:Nat:=27
abbrev Qc:Nat:=201
abbrev Sa:Nat:=316
abbrev Qg:Nat:=317
abbrev yh:Nat:=318
abbrev Rt:Nat:=319
abbrev ke:Nat:=76
abbrev TB:Nat:=139
abbrev VV:Nat:=320
abbrev Mn:Nat:=321
abbrev KD:Nat:=322
abbrev WL:Nat:=186
abbrev TO:Nat:=325
abbrev I0:Nat:=141
abbrev QZ:Nat:=190
abbrev Zj:Nat:=134
abbrev QJ:Nat:=323
abbrev TQ:Nat:=133
abbrev Vj:Nat:=136
abbrev Wq:Nat:=324
abbrev VA:Nat:=185
abbrev Qj:Nat:=138
abbrev P5:Nat:=188
abbrev RR:Nat:=229
abbrev qy:Nat:=60
abbrev Js:Nat:=29
abbrev Ni:Nat:=157
abbrev Tm:rX:=[(27,⟨[0,1,3,4,5,6,7],B2,[0,4,12]⟩,[]),(320,⟨[0,2],B2,[0]⟩,[]),(321,⟨[0,1,4,5,6,7,8,9,11],B2,[0,2,12,14,24,30]⟩,[]),(322,⟨[0,1,2,6,7,8,9,10],B2,[0,2,12,14,22,28]⟩,[]),(317,⟨[0,1,2,3,8,9,10,11,12,13,14],B2,[0,2,12,20,22,30,32,38]⟩,[]),(316,⟨[0,2],B2,[0,2,17]⟩,[]),(319,⟨[0,2],B2,[0,2,17]⟩,[]),(201,⟨[0,1,4],B2,[0,2,23,16]⟩,[]),(76,⟨[0,1,3,4,5,6,7,8,9,51,69],B2,[0,2,10,12,20,73,34,75,40,85,41,49,53,61]⟩,[]),(198,⟨[0,1,4,5,6,7],B2,[0,2,17,19,27,33]⟩,[]),(318,⟨[0,2],B2,[0,2,10]⟩,[]),(323,⟨[0,1,4],B2,[0,2,17]⟩,[]),(325,⟨[0,1,2,6],B2,[0,2,10]⟩,[]),(324,⟨[0,1,4,5,6],B2,[0]⟩,[]),(186,⟨[0,1],B2,[0]⟩,[]),(133,⟨[0,1,2,4,5,6,8,14],B2,[0,2,41,12,18,28]⟩,[(8,[0,2,4,6,8,10,12,14,7,16,18]),(10,[0,2,4,6,8,10,12,14,7,16,18])]),(134,⟨[0,1,2,4],B2,[0]⟩,[]),(136,⟨[0,1,2,6,11],B2,[0]⟩,[]),(138,⟨[0,1,4,5,6,7],B2,[0,4,12,35,17,23,34]⟩,[]),(139,⟨[0,1,3],B2,[0]⟩,[]),(141,⟨[0,1,3,4,5,6,7,8],B2,[0,4,10,12,20,28]⟩,[]),(190,⟨[0,1,3,4,5],B2,[0,2,10]⟩,[]),(185,⟨[0,1,4],B2,[0]⟩,[]),(188,⟨[0,1,4,5,7,8],B2,[0,2,25,7,13,24]⟩,[]),(229,⟨[0,1,4,5,7,8],B2,[0,2,25,7,13,24]⟩,[])]
def T1(n:Nat):Kp:=jM n Tm
def Ic(n k:Nat):Kp×ai:=(T1 n,part (a9 Tryz.prog n) k)
def yb(n k:Nat):Ic n k=(T1 n,part (a9 Tryz.prog n) k):=rfl
def yf:=@kD M _ Ic T1 yb
attribute [local irreducible] Ic
def ye(M:ak)(c:Ctx):=by
 have h:=nY yb M c Tm (by kernel_rfl)
 conv at h=>arg 5;reduce
 delta PR RL mQ fZ mT gj oi iY lS fM fY fJ nJ pY mY pM rW qK Tm at h
 simp only[wB,vX,wP,wE,A0,LJ]at h;exact h
def ck(M:ak)(c:Ctx):=(ye M c).2.2.2.2.2.2.2.2
def cn(M:ak)(c:Ctx):=(ck M c).2.2.2.2.2.2.2.2
def cr(M:ak)(c:Ctx):=(cn M c).2.2.2.2.2.2.2.2
def xdk(M:ak)(c:Ctx):=(ye M c).1
def xdj:=@yf M _ Te [.tmp 4,.tmp 5] [a0,a1] (by kernel_rfl) H Q
def qv9(M:ak)(c:Ctx):=(ye M c).2.1
def qv8:=@yf M _ VV [.tmp 2] [a0] (by kernel_rfl) H Q
abbrev qwa(k:Nat):Kp×ai:=Ic Mn k
def qwc(M:ak)(c:Ctx):=(ye M c).2.2.1
def qwb:=@yf M _ Mn [.tmp 4,.tmp 5,.tmp 6,.tmp 7] [a0,a1] (by kernel_rfl) H Q
abbrev i_(k:Nat):Kp×ai:=Ic KD k
def qtx(M:ak)(c:Ctx):=(ye M c).2.2.2.1
def qtw:=@yf M _ KD [.tmp 6,.tmp 7,.tmp 8] [a0,a1,a2] (by kernel_rfl) H Q
def q00(M:ak)(c:Ctx):=(ye M c).2.2.2.2.1
def q0z:=@yf M _ Qg [.tmp 8,.tmp 9,.tmp 10,.tmp 11] [a0,a1,a2,a3] (by kernel_rfl) H Q
def J_(M:ak)(c:Ctx):=(ye M c).2.2.2.2.2.1
def qtt:=@yf M _ Sa [.tmp 2] [a0] (by kernel_rfl) H Q
def Φ(M:ak)(c:Ctx):=(ye M c).2.2.2.2.2.2.1
def qr3:=@yf M _ Rt [.tmp 2] [a0] (by kernel_rfl) H Q
def qts(M:ak)(c:Ctx):=(ye M c).2.2.2.2.2.2.2.1
def T':=@yf M _ Qc [.tmp 4] [a0,a1] (by kernel_rfl) H Q
abbrev JP(k:Nat):Kp×ai:=Ic ke k
def R'(M:ak)(c:Ctx):=(ck M c).1
def qv6:=@yf M _ ke [.tmp 4,.tmp 5] [a0,a1] (by kernel_rfl) H Q
def qv5(M:ak)(c:Ctx):=(ck M c).2.2.1
def qv4:=@yf M _ yh [.tmp 2] [a0] (by kernel_rfl) H Q
def _H(M:ak)(c:Ctx):=(ck M c).2.2.2.1
def q03:=@yf M _ QJ [.tmp 4] [a0,a1] (by kernel_rfl) H Q
def Λ(M:ak)(c:Ctx):=(ck M c).2.2.2.2.1
def _A:=@yf M _ TO [.tmp 6] [a0,a1,a2] (by kernel_rfl) H Q
def qt1(M:ak)(c:Ctx):=(ck M c).2.2.2.2.2.1
def qt0:=@yf M _ Wq [.tmp 4] [a0,a1] (by kernel_rfl) H Q
def qtz(M:ak)(c:Ctx):=(ck M c).2.2.2.2.2.2.1
def F':=@yf M _ WL [] [a0,a1] (by kernel_rfl) H Q
def qqm(M:ak)(c:Ctx):=(ck M c).2.2.2.2.2.2.2.1
def qql:=@yf M _ TQ [.tmp 6] [a0,a1,a2] (by kernel_rfl) H Q
def JO(M:ak)(c:Ctx):=(cn M c).1
def qwh:=@yf M _ Zj [] [a0,a1,a2] (by kernel_rfl) H Q
def q06(M:ak)(c:Ctx):=(cn M c).2.1
def q05:=@yf M _ Vj [.dq 11 6] [a0,a1,a2] (by kernel_rfl) H Q
def qlr(M:ak)(c:Ctx):=(cn M c).2.2.1
def _s:=@yf M _ Qj [.tmp 4] [a0,a1] (by kernel_rfl) H Q
def Ys(M:ak)(c:Ctx):=(cn M c).2.2.2.1
def qr5:=@yf M _ TB [.tmp 3] [a0,a1] (by kernel_rfl) H Q
abbrev Y5(k:Nat):Kp×ai:=Ic I0 k
def qwe(M:ak)(c:Ctx):=(cn M c).2.2.2.2.1
def qwd:=@yf M _ I0 [.tmp 4] [a0,a1] (by kernel_rfl) H Q
def qwg(M:ak)(c:Ctx):=(cn M c).2.2.2.2.2.1
def _Z:=@yf M _ QZ [.tmp 4] [a0,a1] (by kernel_rfl) H Q
def Ξ(M:ak)(c:Ctx):=(cn M c).2.2.2.2.2.2.1
def qoh:=@yf M _ VA [.tmp 4] [a0,a1] (by kernel_rfl) H Q
def Z6(M:ak)(c:Ctx):=(cn M c).2.2.2.2.2.2.2.1
def C_:=@yf M _ P5 [.tmp 4] [a0,a1] (by kernel_rfl) H Q
def qsc(M:ak)(c:Ctx):=(cr M c)
def qsb:=@yf M _ RR [.tmp 4] [a0,a1] (by kernel_rfl) H Q
abbrev vh:Nat:=75
abbrev Ww:Nat:=28
abbrev Rr:Nat:=128
abbrev JR:Nat:=130
abbrev OT:Nat:=131
abbrev Qd:Nat:=26
abbrev xn:Nat:=183
abbrev MA:Nat:=227
abbrev wv:Nat:=129
abbrev OG:Nat:=181
abbrev QG:Nat:=155
abbrev Tk:Nat:=58
abbrev Qh:Nat:=101
abbrev T9:Nat:=56
abbrev i2:Nat:=182
abbrev P8:Nat:=226
abbrev qD:Nat:=66
abbrev W9:Nat:=148
abbrev Uh:Nat:=149
abbrev MS:Nat:=152
abbrev WW:Nat:=216
abbrev RZ:rX:=[(26,⟨[0,1,4,5,6,7,8,9,35,36],B2,[0,4,12,14,31,19,25,30]⟩,[]),(75,⟨[0,1,3,4,5,6,7,8,9,37,38],B2,[0,2,10,12,20,28,32,113,42,119,45,61,66,55,71,86,73,99,79]⟩,[]),(28,⟨[0,1,2,5,6],B2,[0,2,10]⟩,[]),(56,⟨[0,2,3],B2,[0,2,10]⟩,[]),(58,⟨[0,1,2,5,6,7,8],B2,[0,4,10]⟩,[]),(128,⟨[0,1,4],B2,[0,2,10]⟩,[]),(129,⟨[0,1,3,4,5,6,9,10],B2,[0,4,51,14,17,26,38]⟩,[]),(130,⟨[0,1,2,5,6,7,8,9,74,75],B2,[0,4,22,10,24,12,32,18,36,41]⟩,[]),(300130,⟨[0,1,2,5,6,7,8,9,74,75],B2,[0]⟩,[]),(200130,⟨[0,1,2,5,6,7,8,9,74,75],B2,[0]⟩,[]),(131,⟨[0,1,4,5,7,11],B2,[0,4,8,18]⟩,[]),(101,⟨[0,1,4,5],B2,[0,2,17]⟩,[]),(181,⟨[0,1,2,3],B2,[0]⟩,[]),(182,⟨[0,1,4],B2,[0]⟩,[]),(183,⟨[0,1,2],B2,[0]⟩,[]),(155,⟨[0,1,4,5,6,7,8],B2,[0,4,12]⟩,[]),(226,⟨[0,1,4,5,7,8],B2,[0,2,25,7,13,24]⟩,[]),(227,⟨[0,1,3,4],B2,[0,4,10,19]⟩,[])]
def Rx(n:Nat):Kp:=jM n RZ
def GK(n k:Nat):Kp×ai:=(Rx n,part (a9 Tryz.prog n) k)
def WG(n k:Nat):GK n k=(Rx n,part (a9 Tryz.prog n) k):=rfl
def sJ:=@kD M _ GK Rx WG
attribute [local irreducible] GK
def ki(M:ak)(c:Ctx):=by
 have h:=nY WG M c RZ (by kernel_rfl)
 conv at h=>arg 5;reduce
 delta PR RL mQ fZ mT gj oi lS fM fY fJ nJ pY rk mY pM rW qK RZ at h
 simp only[wB,vX,wP,wE,A0,LJ]at h;exact h
def dN(M:ak)(c:Ctx):=(ki M c).2.2.2.2.2.2.2.2
def ea(M:ak)(c:Ctx):=(dN M c).2.2.2.2.2.2.2.2
def xfj(M:ak)(c:Ctx):=(ki M c).1
def xfi:=@sJ M _ Qd [.tmp 4,.tmp 5] [a0,a1] (by kernel_rfl) H Q
abbrev S3(k:Nat):Kp×ai:=GK vh k
def Yz(M:ak)(c:Ctx):=(ki M c).2.1
def q2c:=@sJ M _ vh [.tmp 4,.tmp 5] [a0,a1] (by kernel_rfl) H Q
def q4s(M:ak)(c:Ctx):=(ki M c).2.2.1
def q4r:=@sJ M _ Ww [.tmp 6] [a0,a1,a2] (by kernel_rfl) H Q
def xgo(M:ak)(c:Ctx):=(ki M c).2.2.2.1
def xgn:=@sJ M _ T9 [.tmp 2,.tmp 3] [a0] (by kernel_rfl) H Q
def q5j(M:ak)(c:Ctx):=(ki M c).2.2.2.2.1
def _d:=@sJ M _ Tk [.tmp 6] [a0,a1,a2] (by kernel_rfl) H Q
def q62(M:ak)(c:Ctx):=(ki M c).2.2.2.2.2.1
def q61:=@sJ M _ Rr [.tmp 4] [a0,a1] (by kernel_rfl) H Q
abbrev PD(k:Nat):Kp×ai:=GK wv k
def _v(M:ak)(c:Ctx):=(ki M c).2.2.2.2.2.2.1
def _7:=@sJ M _ wv [.tmp 4] [a0,a1] (by kernel_rfl) H Q
def OA:b9:=funcAt Tryz.prog JR
def KU:dT:=i9 OA 0
abbrev RF(k:Nat):Kp×ai:=GK 300130 k
abbrev Ty(k:Nat):Kp×ai:=GK 200130 k
def ZA:nth OA.loops 0=B1 KU/\KU.params=[75]:=⟨by kernel_rfl,by kernel_rfl⟩
def qtf:(RF 0).1.ah=[0,1,2,5,6,7,8,9,74,75]/\(RF 0).2=KU.assign:=⟨by kernel_rfl,by kernel_rfl⟩
def qtg:(Ty 0).1.ah=[0,1,2,5,6,7,8,9,74,75]/\(Ty 0).2=KU.body:=⟨by kernel_rfl,by kernel_rfl⟩
def qvs:M.func JR=B1 OA:=MK.at (by decide) (by kernel_rfl)
def Yo(M:ak)(c:Ctx):=Dd (ki M c).2.2.2.2.2.2.2.1.1 (Dd (dN M c).1 (Dd (dN M c).2.1 (Dd (ki M c).2.2.2.2.2.2.2.1.2.1 (Dd (ki M c).2.2.2.2.2.2.2.1.2.2.1 (Dd (ki M c).2.2.2.2.2.2.2.1.2.2.2.1 (Dd (ki M c).2.2.2.2.2.2.2.1.2.2.2.2.1 (Dd (ki M c).2.2.2.2.2.2.2.1.2.2.2.2.2.1 (Dd (ki M c).2.2.2.2.2.2.2.1.2.2.2.2.2.2.1 (Dd (ki M c).2.2.2.2.2.2.2.1.2.2.2.2.2.2.2.1 (Dd (ki M c).2.2.2.2.2.2.2.1.2.2.2.2.2.2.2.2.1 ((ki M c).2.2.2.2.2.2.2.1.2.2.2.2.2.2.2.2.2)))))))))))
def qzi:=@sJ M _ JR [.tmp 6] [a0,a1,a2] (by kernel_rfl) H Q
def qzk(M:ak)(c:Ctx):=(dN M c).2.2.1
def qzj:=@sJ M _ OT [.dq 11 4] [a0,a1] (by kernel_rfl) H Q
def q7t(M:ak)(c:Ctx):=(dN M c).2.2.2.1
def q7s:=@sJ M _ Qh [.tmp 4,.tmp 5] [a0,a1] (by kernel_rfl) H Q
def Ya(M:ak)(c:Ctx):=(dN M c).2.2.2.2.1
def qth:=@sJ M _ OG [.tmp 3] [a0,a1] (by kernel_rfl) H Q
def S_(M:ak)(c:Ctx):=(dN M c).2.2.2.2.2.1
def qhf:=@sJ M _ i2 [.tmp 4] [a0,a1] (by kernel_rfl) H Q
def qvu(M:ak)(c:Ctx):=(dN M c).2.2.2.2.2.2.1
def _y:=@sJ M _ xn [.tmp 2] [a0] (by kernel_rfl) H Q
def q2x(M:ak)(c:Ctx):=(dN M c).2.2.2.2.2.2.2.1
def q2w:=@sJ M _ QG [.dq 8 4,.tmp 5] [a0,a1] (by kernel_rfl) H Q
def qi8(M:ak)(c:Ctx):=(ea M c).1
def qi7:=@sJ M _ P8 [.tmp 4] [a0,a1] (by kernel_rfl) H Q
def _X(M:ak)(c:Ctx):=(ea M c).2
def qrr:=@sJ M _ MA [] [a0,a1] (by kernel_rfl) H Q
abbrev N9:Nat:=153
abbrev PF:Nat:=200
abbrev PE:Nat:=309
abbrev O4:Nat:=310
abbrev NM:Nat:=311
abbrev NF:Nat:=312
abbrev IW:Nat:=38
abbrev OX:Nat:=313
abbrev Oo:Nat:=314
abbrev N8:Nat:=315
abbrev Ub:Nat:=94
abbrev Tb:Nat:=199
abbrev Qv:Nat:=77
abbrev TJ:Nat:=7
abbrev UJ:Nat:=74
abbrev Iw:Nat:=93
abbrev GV:Nat:=94
variable{a4:AV}
abbrev Un:rX:=[(7,⟨[0,1,2,4,5,6,7,8,9,10,11,12,13,37,38,60,61,62],B2,[0,4,12,14,41,19,58,46,25,52,40,31,57,39]⟩,[]),(314,⟨[0,1,2,6,7,8,9,10],B2,[0,4,12]⟩,[]),(315,⟨[0,1,2,3,8,9,10,11],B2,[0,4,12]⟩,[]),(310,⟨[0,1,2,3,4,10,11,12,13,14],B2,[0,4,12]⟩,[]),(309,⟨[0,1,4],B2,[0]⟩,[]),(312,⟨[0,1,4],B2,[0]⟩,[]),(153,⟨[0,1,2,5,6],B2,[0]⟩,[]),(152,⟨[0,1,2,6,7,8,9],B2,[0,4,12]⟩,[]),(38,⟨[0,1,4,5,6,7,8,11],B2,[0,2,17,21,23,29]⟩,[]),(313,⟨[0,1,4,5],B2,[0]⟩,[]),(311,⟨[0,1,4,5],B2,[0]⟩,[]),(77,⟨[0,1],B2,[0]⟩,[]),(94,⟨[0,1,4,5],B2,[0,2,17]⟩,[]),(199,⟨[0,1,2,6,7,8],B2,[0,4,12]⟩,[]),(200,⟨[0,1,3],B2,[0]⟩,[]),(74,⟨[0,1,2,6,7],B2,[0,4,12]⟩,[])]
def Ro(n:Nat):Kp:=jM n Un
def SF(n k:Nat):Kp×ai:=(Ro n,part (a9 Tryz.prog n) k)
def YC(n k:Nat):SF n k=(Ro n,part (a9 Tryz.prog n) k):=rfl
def sZ:=@kD M _ SF Ro YC
attribute [local irreducible] SF
def tl(M:ak)(c:Ctx):=by
 have h:=nY YC M c Un (by kernel_rfl)
 conv at h=>arg 5;reduce
 delta PR RL mQ fZ mT gj oi lS fM fY fJ nJ pY mY pM rW qK Un at h
 simp only[wB,vX,wP,wE,A0,LJ]at h;exact h
def eb(M:ak)(c:Ctx):=(tl M c).2.2.2.2.2.2.2.2
def OB(M:ak)(c:Ctx):=(tl M c).1
def xe3:=@sZ M _ TJ [.tmp 4,.tmp 5] [a0,a1] (by kernel_rfl) H Q
def q16(M:ak)(c:Ctx):=(tl M c).2.1
def q15:=@sZ M _ Oo [.tmp 6,.tmp 7,.tmp 8] [a0,a1,a2] (by kernel_rfl) H Q
def qy6(M:ak)(c:Ctx):=(tl M c).2.2.1
def qy5:=@sZ M _ N8 [.tmp 8,.tmp 9] [a0,a1,a2,a3] (by kernel_rfl) H Q
def q4o(M:ak)(c:Ctx):=(tl M c).2.2.2.1
def q4n:=@sZ M _ O4 [.tmp 10,.tmp 11,.tmp 12] [a0,a1,a2,a3,a4] (by kernel_rfl) H Q
def _q(M:ak)(c:Ctx):=(tl M c).2.2.2.2.1
def g_:=@sZ M _ PE [.tmp 4] [a0,a1] (by kernel_rfl) H Q
def L'(M:ak)(c:Ctx):=(tl M c).2.2.2.2.2.1
def qvc:=@sZ M _ NF [.tmp 4] [a0,a1] (by kernel_rfl) H Q
def qy2(M:ak)(c:Ctx):=(tl M c).2.2.2.2.2.2.1
def qy1:=@sZ M _ N9 [.tmp 6] [a0,a1,a2] (by kernel_rfl) H Q
def Y1(M:ak)(c:Ctx):=(eb M c).1
def Vv:=@sZ M _ IW [.dq 11 4,.tmp 5] [a0,a1] (by kernel_rfl) H Q
def _T(M:ak)(c:Ctx):=(eb M c).2.1
def q13:=@sZ M _ OX [.tmp 4] [a0,a1] (by kernel_rfl) H Q
def q12(M:ak)(c:Ctx):=(eb M c).2.2.1
def W_:=@sZ M _ NM [.tmp 4] [a0,a1] (by kernel_rfl) H Q
def q2a(M:ak)(c:Ctx):=(eb M c).2.2.2.1
def q19:=@sZ M _ Qv [] [a0,a1] (by kernel_rfl) H Q
def q6u(M:ak)(c:Ctx):=(eb M c).2.2.2.2.1
def _V:=@sZ M _ Ub [.tmp 4,.tmp 5] [a0,a1] (by kernel_rfl) H Q
def Ψ(M:ak)(c:Ctx):=(eb M c).2.2.2.2.2.1
def q17:=@sZ M _ Tb [.tmp 6] [a0,a1,a2] (by kernel_rfl) H Q
def qs1(M:ak)(c:Ctx):=(eb M c).2.2.2.2.2.2.1
def κ:=@sZ M _ PF [.tmp 3] [a0,a1] (by kernel_rfl) H Q
def T_(M:ak)(c:Ctx):=(eb M c).2.2.2.2.2.2.2
def qls:=@sZ M _ UJ [.tmp 6] [a0,a1,a2] (by kernel_rfl) H Q
abbrev qfu:Nat:=242
abbrev Ts:Nat:=108
abbrev N2:Nat:=162
abbrev Lr:Nat:=163
abbrev OC:Nat:=164
abbrev Oe:Nat:=165
abbrev I1:Nat:=161
abbrev Gm:Nat:=209
abbrev QA:Nat:=210
abbrev tY:Nat:=53
abbrev zq:Nat:=108
abbrev CE:Nat:=81
abbrev kc:Nat:=0
abbrev Sm:rX:=[(108,⟨[0,1,2,3,4,5,6,7,8,9,10,11,12,13,14,49],B2,[0,2,10,14,18,22,129,38,50,62,74,86,98,110,122]⟩,[(7,[0,2,4,8,10,12,16,18,20,6,13,21,14,21,22,24,26,28])]),(162,⟨[0,1,2,4,5],B2,[0]⟩,[]),(163,⟨[0,1,2,4,5],B2,[0,2,10,18]⟩,[]),(164,⟨[0,1,3,5],B2,[0]⟩,[]),(165,⟨[0,1,3],B2,[0]⟩,[]),(210,⟨[0,1,4],B2,[0]⟩,[]),(242,⟨[0,1,4],B2,[0]⟩,[])]
def Qs(n:Nat):Kp:=jM n Sm
def Uo(n k:Nat):Kp×ai:=(Qs n,part (a9 Tryz.prog n) k)
def ZH(n k:Nat):Uo n k=(Qs n,part (a9 Tryz.prog n) k):=rfl
def Ie:=@kD M _ Uo Qs ZH
attribute [local irreducible] Uo
def Gb(M:ak)(c:Ctx):=by
 have h:=nY ZH M c Sm (by kernel_rfl)
 conv at h=>arg 5;reduce
 delta PR RL mQ fZ mT gj oi iY lS fM fY fJ nJ mY pM rW qK Sm at h
 simp only[wB,vX,wP,wE,A0,LJ]at h;exact h
def ae6(M:ak)(c:Ctx):=(Gb M c).1
def xO:=@Ie M _ Ts [.dq 5 6] [a0,a1,a2] (by kernel_rfl) H Q
def R8:b9:=funcAt Tryz.prog I1
def UM:Kp:=⟨[0,1,2,3,4,5,6,19,20],B2,[0,4,9,15,26,27]⟩
def vm(k:Nat):Kp×ai:=(UM,part R8.body k)
def q9q(M:ak)(c:Ctx):(WE M c (vm 0) λ Q E D H=>Lz E 0 λ g f=>A3 g CE (AV.cells f) H λ g b H1=>Fl g 0 b H1 λ g h=>C3 M g (.func Gm) [h] H1 λ g a o=>B3 g ((Op.extract 0) [a]) λ g d=>B3 g ((Op.extract 1) [a]) λ g e=>W M c (vm 4) g Q ((4,e)::(3,d)::(2,(.bool B2))::(1,b)::E) D o) /\
 (WE M c (vm 4) λ Q E D H=>Lz E 1 λ g a=>Fl g 1 a H λ g b=>Fl g 2 a H λ g d=>Fl g 3 a H λ g e=>B3 g ((Op.build [(.int .i64 0),(.int .i64 0),(.int .i64 0)] [(0,1),(1,1),(2,1)]) [b,d,e]) λ g f=>dA (W M c (vm 9)) (eD 0 (ey (W M c (vm 27)) Q)) ((20,(.int .i64 0))::(19,f)::E) D H) /\
 (WE M c (vm 27) λ Q E D H=>Lz E 4 λ g a=>pk g Q .ret ((2,a)::E) D H) /\
 (WE M c (vm 9) λ Q E D H=>Lz E 20 λ g a=>Cb g .lss a (.int .i64 3) (λ g=>Gt g M c (vm 15) Q E D H) (λ g=>pk g (ey (W M c (vm 15)) Q) (.exit 0) E D H)) /\
 (WE M c (vm 15) λ Q E D H=>Lz E 20 λ g b=>Ly g E 19 λ g j=>B3 g ((Op.bD 3 1 B5) [j,b]) λ g a=>Ly g E 3 λ g r=>B3 g (Op.bK [(.str [65,66,67]),b]) λ g l=>C3 M g (.func QA) [r,l] H λ g m H1=>Bn g .geq m (.int .i64 0) λ g e=>JN (λ(k:Bool->AV->AV->AV->ar->Prop)=>B3 g (cJ B4 (B1 e)) λ g w=>tz g w (λ g=>Bn g .lss a (.int .i64 0) λ g i=>k g i i a H1) (λ g=>k g uu uu uu H1)) (λ g d _ _ o=>JN (λ(k:Bool->AV->AV->ar->Prop)=>B3 g (cJ B2 (B1 d)) λ g w=>tz g w (λ g=>Bn g .geq a (.int .i64 8) λ g n=>k g n a o) (λ g=>k g uu uu o)) (λ g f _ s=>JN (λ(k:Bool->AV->ar->Prop)=>B3 g (cJ B4 (B1 e)) λ g w=>tz g w (λ g=>B3 g (Op.pick [d,(.bool B4),f]) λ g p=>k g p s) (λ g=>k g uu s)) (λ g h t=>B3 g (Op.pick [e,h,(.bool B2)]) λ g q=>lT g q (λ g=>pk g (eD 1 (ey (W M c (vm 26)) Q)) .ret ((2,(.bool B2))::(6,a)::(5,b)::E) D t) (λ g=>pk g (eD 1 (ey (W M c (vm 26)) Q)) .normal ((6,a)::(5,b)::E) D t))))) /\
 (WE M c (vm 26) λ Q E D H=>Lz E 20 λ g a=>Bn g .add a (.int .i64 1) λ g b=>pk g Q .normal ((20,b)::E) D H):=by(repeat' apply Dd)<;>(intro _ _ _ _;refine yI ?_;kernel_rfl)
def q9o:(aU Tryz.prog).func I1=B1 R8/\R8.results=[.tmp 2]:=U4 (by kernel_rfl)
def Z9(h:W M ⟨B5,I1⟩ (vm 0) B4 (eR M [.tmp 2] Q) [(0,a0)] [] H):CM M I1 [a0] H Q:=wS (by decide) q9o (ks:=UM) (by kernel_rfl) h
def xc3(M:ak)(c:Ctx):=(Gb M c).2.1
def xc2:=@Ie M _ N2 [.dq 5 4] [a0,a1,a2] (by kernel_rfl) H Q
def xc5(M:ak)(c:Ctx):=(Gb M c).2.2.1
def xc4:=@Ie M _ Lr [.dq 5 4] [a0,a1,a2] (by kernel_rfl) H Q
def xc7(M:ak)(c:Ctx):=(Gb M c).2.2.2.1
def xc6:=@Ie M _ OC [.dq 5 3] [a0,a1] (by kernel_rfl) H Q
def X_(M:ak)(c:Ctx):=(Gb M c).2.2.2.2.1
def v_:=@Ie M _ Oe [.tmp 3] [a0,a1] (by kernel_rfl) H Q
def PI:b9:=funcAt Tryz.prog Gm
def F4:Kp:=⟨[0,2,3],B2,[0,2,10]⟩
def GC(k:Nat):Kp×ai:=(F4,part PI.body k)
def q9t(M:ak)(c:Ctx):(WE M c (GC 0) λ Q E D H=>W M c (GC 2) B4 Q ((3,(.bool B2))::(2,(.str []))::E) D H) /\
 (WE M c (GC 2) λ Q E D H=>Lz E 0 λ g a=>Bn g .lss a (.int .i64 1) λ g d=>JN (λ(k:Bool->AV->AV->ar->Prop)=>B3 g (cJ B2 (B1 d)) λ g w=>tz g w (λ g=>Bn g .geq a (.int .i64 19) λ g e=>k g e a H) (λ g=>k g uu uu H)) (λ g b _ H1=>B3 g (Op.pick [d,(.bool B4),b]) λ g f=>lT g f (λ g=>pk g (ey (W M c (GC 10)) Q) .ret ((3,(.bool B2))::(2,(.str []))::E) D H1) (λ g=>Gt g M c (GC 10) Q E D H1))) /\
 (WE M c (GC 10) λ Q E D H=>Lz E 0 λ g d=>B3 g ((Op.aW 19 2) [(.ptr kc 0),d]) λ g a=>Fl g 1 a H λ g b=>pk g Q .ret ((3,(.bool B4))::(2,b)::E) D H):=by(repeat' apply Dd)<;>(intro _ _ _ _;refine yI ?_;kernel_rfl)
def r_:(aU Tryz.prog).func Gm=B1 PI/\PI.results=[.tmp 2,.tmp 3]:=U4 (by kernel_rfl)
def q9s(h:W M ⟨B5,Gm⟩ (GC 0) B4 (eR M [.tmp 2,.tmp 3] Q) [(0,a0)] [] H):CM M Gm [a0] H Q:=wS (by decide) r_ (ks:=F4) (by kernel_rfl) h
def qq4(M:ak)(c:Ctx):=(Gb M c).2.2.2.2.2.1
def qq3:=@Ie M _ QA [.tmp 4] [a0,a1] (by kernel_rfl) H Q
def qi(M:ak)(c:Ctx):=(Gb M c).2.2.2.2.2.2
def qfv:=@Ie M _ qfu [.tmp 4] [a0,a1] (by kernel_rfl) H Q
abbrev Z2:Nat:=55
abbrev S1:Nat:=180
abbrev U6:Nat:=127
abbrev WQ:Nat:=106
abbrev UN:Nat:=63
abbrev Yy:Nat:=114
abbrev QI:Nat:=110
abbrev U9:Nat:=104
abbrev ZR:Nat:=100
abbrev KF:Nat:=166
abbrev Yr:Nat:=31
abbrev Ex:Nat:=167
abbrev LO:Nat:=164
abbrev TH:rX:=[(31,⟨[0],B2,[0]⟩,[]),(110,⟨[0,1,2,6,7],B2,[0,4,10]⟩,[]),(55,⟨[0,2,8],B2,[0,2,10]⟩,[]),(106,⟨[0,2],B2,[0,2,10]⟩,[]),(127,⟨[0,1,4],B2,[0,2,10,18]⟩,[]),(114,⟨[0,2,3],B2,[0,2,10]⟩,[]),(63,⟨[0,2,3],B2,[0,4,10]⟩,[]),(180,⟨[0,2,3],B2,[0,4,10]⟩,[]),(166,⟨[0,1,4],B2,[0,2,10,18]⟩,[]),(100,⟨[0,2],B2,[0]⟩,[]),(104,⟨[0,2],B2,[0,2,10,18]⟩,[])]
def Rc(n:Nat):Kp:=jM n TH
def Rm(n k:Nat):Kp×ai:=(Rc n,part (a9 Tryz.prog n) k)
def Yk(n k:Nat):Rm n k=(Rc n,part (a9 Tryz.prog n) k):=rfl
def Cm:=@kD M _ Rm Rc Yk
attribute [local irreducible] Rm
def Bh(M:ak)(c:Ctx):=by
 have h:=nY Yk M c TH (by kernel_rfl)
 conv at h=>arg 5;reduce
 delta PR RL mQ fZ mT gj oi lS fM fY fJ nJ mY rW qK TH at h
 simp only[wB,vX,wP,wE,A0,LJ]at h;exact h
def υ(M:ak)(c:Ctx):=(Bh M c).1
def xdv:=@Cm M _ Yr [.tmp 0] [] (by kernel_rfl) H Q
def XS(M:ak)(c:Ctx):=(Bh M c).2.1
def q1i:=@Cm M _ QI [.tmp 6] [a0,a1,a2] (by kernel_rfl) H Q
def q1h(M:ak)(c:Ctx):=(Bh M c).2.2.1
def q1g:=@Cm M _ Z2 [.dq 8 2] [a0] (by kernel_rfl) H Q
def q20(M:ak)(c:Ctx):=(Bh M c).2.2.2.1
def _R:=@Cm M _ WQ [.tmp 2] [a0] (by kernel_rfl) H Q
def XR(M:ak)(c:Ctx):=(Bh M c).2.2.2.2.1
def _Y:=@Cm M _ U6 [.tmp 4] [a0,a1] (by kernel_rfl) H Q
def _i(M:ak)(c:Ctx):=(Bh M c).2.2.2.2.2.1
def qwl:=@Cm M _ Yy [.tmp 2] [a0] (by kernel_rfl) H Q
def Pc(M:ak)(c:Ctx):=(Bh M c).2.2.2.2.2.2.1
def _C:=@Cm M _ UN [.tmp 2] [a0] (by kernel_rfl) H Q
def YM(M:ak)(c:Ctx):=(Bh M c).2.2.2.2.2.2.2.1
def qwj:=@Cm M _ S1 [.tmp 2] [a0] (by kernel_rfl) H Q
def Ta(M:ak)(c:Ctx):=(Bh M c).2.2.2.2.2.2.2.2.1
def _h:=@Cm M _ KF [.tmp 4] [a0,a1] (by kernel_rfl) H Q
def qwo(M:ak)(c:Ctx):=(Bh M c).2.2.2.2.2.2.2.2.2.1
def _D:=@Cm M _ ZR [.tmp 2] [a0] (by kernel_rfl) H Q
def Wg(M:ak)(c:Ctx):=(Bh M c).2.2.2.2.2.2.2.2.2.2
def qr9:=@Cm M _ U9 [.tmp 2] [a0] (by kernel_rfl) H Q
abbrev U8:Nat:=64
abbrev WZ:Nat:=158
abbrev m8:Nat:=115
abbrev Yt:Nat:=35
abbrev j1:Nat:=102
abbrev XE:Nat:=179
abbrev X3:Nat:=103
abbrev yr:Nat:=105
abbrev ZJ:Nat:=61
abbrev XC:Nat:=159
abbrev yw:Nat:=206
abbrev X2:Nat:=29
abbrev U2:Nat:=59
abbrev Jl:Nat:=158
abbrev Pl:Nat:=34
abbrev kj:Nat:=162
abbrev LH:Nat:=98
abbrev UG:rX:=[(29,⟨[0,1,2,3,4,5],B2,[0,4,12]⟩,[]),(115,⟨[0,2,3],B2,[0,2,10,18]⟩,[]),(64,⟨[0,1,4,5],B2,[0,2,10,18,26,28,39]⟩,[]),(179,⟨[0,2],B2,[0,2,10,18]⟩,[]),(102,⟨[0,2],B2,[0,2,10]⟩,[]),(103,⟨[0,2,3,5,7,8],B2,[0,4,21,9,15,20]⟩,[]),(158,⟨[0,2,5],B2,[0,2,10]⟩,[]),(35,⟨[0,2],B2,[0]⟩,[]),(59,⟨[0,1,2,3,4,5,6,14,15,16],B2,[0,4,27,9,15,26]⟩,[]),(61,⟨[0,2],B2,[0]⟩,[]),(105,⟨[0,1,2,4,7,8],B2,[0]⟩,[]),(300105,⟨[0,1,2,4,7,8],B2,[0]⟩,[]),(200105,⟨[0,1,2,4,7,8],B2,[0]⟩,[]),(159,⟨[0,1,2,3,4],B2,[0]⟩,[]),(206,⟨[0,1,2,4],B2,[0,4,10,17]⟩,[])]
def QU(n:Nat):Kp:=jM n UG
def MY(n k:Nat):Kp×ai:=(QU n,part (a9 Tryz.prog n) k)
def Zm(n k:Nat):MY n k=(QU n,part (a9 Tryz.prog n) k):=rfl
def vQ:=@kD M _ MY QU Zm
attribute [local irreducible] MY
def ti(M:ak)(c:Ctx):=by
 have h:=nY Zm M c UG (by kernel_rfl)
 conv at h=>arg 5;reduce
 delta PR RL mQ fZ mT gj oi lS fM fY fJ nJ pY rk mY pM rW qK UG at h
 simp only[wB,vX,wP,wE,A0,LJ]at h;exact h
def ed(M:ak)(c:Ctx):=(ti M c).2.2.2.2.2.2.2.2
def P0(M:ak)(c:Ctx):=(ti M c).1
def μ:=@vQ M _ X2 [.tmp 2,.tmp 3] [a0] (by kernel_rfl) H Q
def lL(M:ak)(c:Ctx):=(ti M c).2.1
def qn5:=@vQ M _ m8 [.tmp 2,.tmp 3] [a0] (by kernel_rfl) H Q
def ja(M:ak)(c:Ctx):=(ti M c).2.2.1
def _e:=@vQ M _ U8 [.tmp 4,.tmp 5] [a0,a1] (by kernel_rfl) H Q
def Yc(M:ak)(c:Ctx):=(ti M c).2.2.2.1
def qn6:=@vQ M _ XE [.tmp 2] [a0] (by kernel_rfl) H Q
def _p(M:ak)(c:Ctx):=(ti M c).2.2.2.2.1
def qo7:=@vQ M _ j1 [.tmp 2] [a0] (by kernel_rfl) H Q
def TU(M:ak)(c:Ctx):=(ti M c).2.2.2.2.2.1
def qqh:=@vQ M _ X3 [.tmp 2] [a0] (by kernel_rfl) H Q
def qmy(M:ak)(c:Ctx):=(ti M c).2.2.2.2.2.2.1
def qmx:=@vQ M _ WZ [.dq 5 2] [a0] (by kernel_rfl) H Q
def Vg(M:ak)(c:Ctx):=(ti M c).2.2.2.2.2.2.2.1
def qo6:=@vQ M _ Yt [.tmp 2] [a0] (by kernel_rfl) H Q
def M1(M:ak)(c:Ctx):=(ed M c).1
def q0g:=@vQ M _ U2 [.dq 5 2,.tmp 3] [a0] (by kernel_rfl) H Q
def qpb(M:ak)(c:Ctx):=(ed M c).2.1
def _1:=@vQ M _ ZJ [.tmp 2] [a0] (by kernel_rfl) H Q
def NR:b9:=funcAt Tryz.prog yr
def wy:dT:=i9 NR 0
abbrev Ti(k:Nat):Kp×ai:=MY 300105 k
abbrev SN(k:Nat):Kp×ai:=MY 200105 k
def qw:nth NR.loops 0=B1 wy/\wy.params=[8]:=⟨by kernel_rfl,by kernel_rfl⟩
def _2:(Ti 0).1.ah=[0,1,2,4,7,8]/\(Ti 0).2=wy.assign:=⟨by kernel_rfl,by kernel_rfl⟩
def qm0:(SN 0).1.ah=[0,1,2,4,7,8]/\(SN 0).2=wy.body:=⟨by kernel_rfl,by kernel_rfl⟩
def _W:M.func yr=B1 NR:=MK.at (by decide) (by kernel_rfl)
def j2(M:ak)(c:Ctx):=Dd (ed M c).2.2.1 (Dd (ed M c).2.2.2.1 ((ed M c).2.2.2.2.1))
def qo9:=@vQ M _ yr [] [a0,a1] (by kernel_rfl) H Q
def δ(M:ak)(c:Ctx):=(ed M c).2.2.2.2.2.1
def _g:=@vQ M _ XC [.tmp 4] [a0,a1] (by kernel_rfl) H Q
def vw(M:ak)(c:Ctx):=(ed M c).2.2.2.2.2.2
def qm1:=@vQ M _ yw [] [a0,a1,a2] (by kernel_rfl) H Q
abbrev yl:Nat:=175
abbrev sS:Nat:=212
abbrev YN:Nat:=249
abbrev UY:Nat:=267
abbrev hT:Nat:=248
abbrev YV:Nat:=215
abbrev WI:Nat:=216
abbrev ZD:Nat:=218
abbrev Vu:Nat:=60
abbrev Ym:Nat:=271
abbrev Zc:Nat:=219
abbrev YT:Nat:=243
abbrev Ve:Nat:=251
abbrev Le:Nat:=252
abbrev qni:Nat:=285
abbrev k9:Nat:=292
abbrev mE:Nat:=109
abbrev yg:Nat:=244
abbrev O9:Nat:=227
abbrev FX:Nat:=225
abbrev SO:rX:=[(60,⟨[0],B2,[0]⟩,[]),(249,⟨[0,1,2,6,8],B2,[0,2,10,18,28]⟩,[]),(215,⟨[0,1,2,6,7,8],B2,[0,2,10,18,30]⟩,[]),(248,⟨[0,1,4,5],B2,[0,2,10]⟩,[]),(212,⟨[0,1,4,5],B2,[0,2,10]⟩,[]),(267,⟨[0,2],B2,[0,2,10]⟩,[]),(216,⟨[0,2],B2,[0,2,10]⟩,[]),(175,⟨[0,2],B2,[0,2,10]⟩,[]),(218,⟨[0,2],B2,[0]⟩,[]),(243,⟨[0,1,4,5,6,7],B2,[0,4,12]⟩,[]),(251,⟨[0,1,2,6],B2,[0,2,10]⟩,[]),(252,⟨[0,2,3,5,7,8,9],B2,[0,4,9]⟩,[]),(300252,⟨[0,2,3,5,7,8,9],B2,[0]⟩,[]),(200252,⟨[0,2,3,5,7,8,9],B2,[0]⟩,[]),(219,⟨[0],B2,[0]⟩,[]),(271,⟨[0,2],B2,[0]⟩,[]),(285,⟨[0,1,2],B2,[0]⟩,[]),(292,⟨[0,1,3,4,5,6,7],B2,[0,4,10,19]⟩,[])]
def RN(n:Nat):Kp:=jM n SO
def KG(n k:Nat):Kp×ai:=(RN n,part (a9 Tryz.prog n) k)
def XW(n k:Nat):KG n k=(RN n,part (a9 Tryz.prog n) k):=rfl
def sI:=@kD M _ KG RN XW
attribute [local irreducible] KG
def vf(M:ak)(c:Ctx):=by
 have h:=nY XW M c SO (by kernel_rfl)
 conv at h=>arg 5;reduce
 delta PR RL mQ fZ mT gj oi lS fM fY fJ nJ pY rk mY pM rW qK SO at h
 simp only[wB,vX,wP,wE,A0,LJ]at h;exact h
def ee(M:ak)(c:Ctx):=(vf M c).2.2.2.2.2.2.2.2
def eg(M:ak)(c:Ctx):=(ee M c).2.2.2.2.2.2.2.2
def xgg(M:ak)(c:Ctx):=(vf M c).1
def ω:=@sI M _ Vu [.tmp 0] [] (by kernel_rfl) H Q
def tb(M:ak)(c:Ctx):=(vf M c).2.1
def q2q:=@sI M _ YN [.tmp 6] [a0,a1,a2] (by kernel_rfl) H Q
def XJ(M:ak)(c:Ctx):=(vf M c).2.2.1
def q0m:=@sI M _ YV [.tmp 6] [a0,a1,a2] (by kernel_rfl) H Q
def _N(M:ak)(c:Ctx):=(vf M c).2.2.2.1
def q5c:=@sI M _ hT [.tmp 4,.tmp 5] [a0,a1] (by kernel_rfl) H Q
def Z3(M:ak)(c:Ctx):=(vf M c).2.2.2.2.1
def q2o:=@sI M _ sS [.tmp 4,.tmp 5] [a0,a1] (by kernel_rfl) H Q
def q0l(M:ak)(c:Ctx):=(vf M c).2.2.2.2.2.1
def q0k:=@sI M _ UY [.tmp 2] [a0] (by kernel_rfl) H Q
def qv1(M:ak)(c:Ctx):=(vf M c).2.2.2.2.2.2.1
def qv0:=@sI M _ WI [.tmp 2] [a0] (by kernel_rfl) H Q
def q0j(M:ak)(c:Ctx):=(vf M c).2.2.2.2.2.2.2.1
def q0i:=@sI M _ yl [.tmp 2] [a0] (by kernel_rfl) H Q
def q2s(M:ak)(c:Ctx):=(ee M c).1
def q2r:=@sI M _ ZD [.tmp 2] [a0] (by kernel_rfl) H Q
def ZF(M:ak)(c:Ctx):=(ee M c).2.1
def N':=@sI M _ YT [.tmp 4,.tmp 5] [a0,a1] (by kernel_rfl) H Q
def Zf(M:ak)(c:Ctx):=(ee M c).2.2.1
def q2v:=@sI M _ Ve [.tmp 6] [a0,a1,a2] (by kernel_rfl) H Q
def Pm:b9:=funcAt Tryz.prog Le
def Ka:dT:=i9 Pm 0
abbrev Rb(k:Nat):Kp×ai:=KG 300252 k
abbrev QK(k:Nat):Kp×ai:=KG 200252 k
def Vf:nth Pm.loops 0=B1 Ka/\Ka.params=[8,9]:=⟨by kernel_rfl,by kernel_rfl⟩
def q7m:(Rb 0).1.ah=[0,2,3,5,7,8,9]/\(Rb 0).2=Ka.assign:=⟨by kernel_rfl,by kernel_rfl⟩
def Z':(QK 0).1.ah=[0,2,3,5,7,8,9]/\(QK 0).2=Ka.body:=⟨by kernel_rfl,by kernel_rfl⟩
def q9y:M.func Le=B1 Pm:=MK.at (by decide) (by kernel_rfl)
def Qa(M:ak)(c:Ctx):=Dd (ee M c).2.2.2.1.1 (Dd (ee M c).2.2.2.2.1 (Dd (ee M c).2.2.2.2.2.1 (Dd (ee M c).2.2.2.1.2.1 ((ee M c).2.2.2.1.2.2))))
def xdc:=@sI M _ Le [.tmp 2] [a0] (by kernel_rfl) H Q
def Δ(M:ak)(c:Ctx):=(ee M c).2.2.2.2.2.2.1
def qv2:=@sI M _ Zc [] [a0] (by kernel_rfl) H Q
def q2u(M:ak)(c:Ctx):=(ee M c).2.2.2.2.2.2.2.1
def q2t:=@sI M _ Ym [.tmp 2] [a0] (by kernel_rfl) H Q
def qog(M:ak)(c:Ctx):=(eg M c).1
def _S:=@sI M _ qni [.tmp 2] [a0] (by kernel_rfl) H Q
def Pa(M:ak)(c:Ctx):=(eg M c).2
def qlp:=@sI M _ k9 [] [a0,a1] (by kernel_rfl) H Q
abbrev E3:Nat:=32
abbrev Xb:Nat:=117
abbrev V2:Nat:=124
abbrev Va:Nat:=173
abbrev Zi:Nat:=178
abbrev Zt:Nat:=122
abbrev W2:Nat:=167
abbrev mo:Nat:=120
abbrev YO:Nat:=160
abbrev Zx:Nat:=172
abbrev XU:Nat:=169
abbrev va:Nat:=119
abbrev Z0:Nat:=121
abbrev Zg:Nat:=255
abbrev Yh:Nat:=254
abbrev SM:Nat:=273
abbrev Q6:Nat:=274
abbrev PW:Nat:=225
abbrev E1:Nat:=222
abbrev Me:Nat:=257
abbrev VM:Nat:=176
abbrev hK:Nat:=221
abbrev VC:Nat:=223
abbrev NS:Nat:=241
abbrev Vi:Nat:=213
abbrev Wz:Nat:=244
abbrev nu:Nat:=245
abbrev QD:Nat:=247
abbrev PA:Nat:=208
abbrev Su:Nat:=240
abbrev nz:Nat:=220
abbrev KT:Nat:=256
abbrev Yx:Nat:=174
abbrev Ps:Nat:=250
abbrev YX:Nat:=207
abbrev XY:Nat:=224
abbrev N7:Nat:=258
abbrev Ws:Nat:=272
abbrev Wh:Nat:=286
abbrev Rd:Nat:=217
abbrev Yq:Nat:=253
abbrev VI:Nat:=211
abbrev Vs:Nat:=246
abbrev R1:Nat:=266
abbrev Nt:Nat:=268
abbrev Oj:Nat:=269
abbrev Od:Nat:=270
abbrev Rp:Nat:=177
abbrev Ez:Nat:=1
abbrev Ix:Nat:=321
abbrev O0:Nat:=322
abbrev yM:Nat:=171
abbrev Hu:Nat:=104
abbrev xG:Nat:=174
abbrev Sv:Nat:=39
abbrev Qe:rX:=[(32,⟨[0],B2,[0]⟩,[]),(117,⟨[0,2],B2,[0,2,10,18]⟩,[]),(167,⟨[0,1,4,5,6,7],B2,[0,2,12,24]⟩,[]),(172,⟨[0,1,2,6,7],B2,[0,4,12]⟩,[]),(173,⟨[0,2,3],B2,[0,2,12,14,24]⟩,[]),(160,⟨[0,2,3],B2,[0,4,12]⟩,[]),(119,⟨[0,2,3,4],B2,[0,2,10]⟩,[(3,[0,2,4,6,8,10,12,14,16,18,15,17,20])]),(122,⟨[0,1,2,6,7],B2,[0,2,10,12,20]⟩,[]),(124,⟨[0,2],B2,[0]⟩,[]),(169,⟨[0,2],B2,[0,2,10]⟩,[]),(178,⟨[0,2],B2,[0,2,10]⟩,[]),(120,⟨[0,2],B2,[0,2,10]⟩,[]),(121,⟨[0,2],B2,[0]⟩,[]),(174,⟨[0,2],B2,[0]⟩,[]),(176,⟨[0,1,2,3,4,5],B2,[0]⟩,[]),(177,⟨[0],B2,[0]⟩,[]),(211,⟨[0,1,4,5],B2,[0,4,12]⟩,[]),(213,⟨[0,1,2,3],B2,[0]⟩,[]),(208,⟨[0,1,2,3],B2,[0]⟩,[]),(207,⟨[0,2],B2,[0,2,10,18]⟩,[]),(217,⟨[0,1],B2,[0]⟩,[]),(220,⟨[0,1,2,5],B2,[0]⟩,[]),(221,⟨[0,1,2,3],B2,[0]⟩,[]),(224,⟨[0,1,2,3],B2,[0]⟩,[]),(225,⟨[0,1],B2,[0]⟩,[]),(244,⟨[0,1,2,3],B2,[0]⟩,[]),(240,⟨[0,1],B2,[0]⟩,[(0,[0,2,4,6,8,10,3,5,12,14,16])]),(222,⟨[0,1,2,3,4,9],B2,[0]⟩,[]),(253,⟨[0,1],B2,[0,8]⟩,[(4,[0,2,4,6,8,10,1,12])]),(255,⟨[0,1,2,4],B2,[0]⟩,[]),(256,⟨[0,1,2],B2,[0]⟩,[]),(223,⟨[0,1,2,3],B2,[0,8]⟩,[]),(258,⟨[0,1,2],B2,[0,8]⟩,[]),(241,⟨[0],B2,[0]⟩,[]),(250,⟨[0,1],B2,[0]⟩,[]),(245,⟨[0,1,2,3,5,6],B2,[0,8,10,18]⟩,[]),(257,⟨[0,1,2],B2,[0]⟩,[]),(246,⟨[0,1,2,3],B2,[0]⟩,[]),(254,⟨[0,1,2,3],B2,[0,2,10]⟩,[]),(247,⟨[0,1],B2,[0]⟩,[]),(266,⟨[0,1,2,3,4,5,6,7,8],B2,[0]⟩,[]),(272,⟨[0,1,2,3,7],B2,[0]⟩,[]),(273,⟨[0,1],B2,[0]⟩,[]),(274,⟨[0],B2,[0]⟩,[]),(268,⟨[0,1,2,3,4],B2,[0,8]⟩,[]),(269,⟨[0,1,2,3],B2,[0,8]⟩,[]),(270,⟨[0,1,2,3,4],B2,[0,8]⟩,[]),(286,⟨[0,1,2],B2,[0]⟩,[])]
def PY(n:Nat):Kp:=jM n Qe
def Ul(n k:Nat):Kp×ai:=(PY n,part (a9 Tryz.prog n) k)
def VQ(n k:Nat):Ul n k=(PY n,part (a9 Tryz.prog n) k):=rfl
def zo:=@kD M _ Ul PY VQ
attribute [local irreducible] Ul
def zn(M:ak)(c:Ctx):=by
 have h:=nY VQ M c Qe (by kernel_rfl)
 conv at h=>arg 5;reduce
 delta PR RL mQ fZ mT gj oi iY lS fM fY fJ nJ mY pM rW qK Qe at h
 simp only[wB,vX,wP,wE,A0,LJ]at h;exact h
def ej(M:ak)(c:Ctx):=(zn M c).2.2.2.2.2.2.2.2
def ez(M:ak)(c:Ctx):=(ej M c).2.2.2.2.2.2.2.2
def fb(M:ak)(c:Ctx):=(ez M c).2.2.2.2.2.2.2.2
def fe(M:ak)(c:Ctx):=(fb M c).2.2.2.2.2.2.2.2
def ff(M:ak)(c:Ctx):=(fe M c).2.2.2.2.2.2.2.2
def xd3(M:ak)(c:Ctx):=(zn M c).1
def xd2:=@zo M _ E3 [.tmp 0] [] (by kernel_rfl) H Q
def Qu(M:ak)(c:Ctx):=(zn M c).2.1
def qua:=@zo M _ Xb [.tmp 2] [a0] (by kernel_rfl) H Q
def OK(M:ak)(c:Ctx):=(zn M c).2.2.1
def qwt:=@zo M _ W2 [.tmp 4] [a0,a1] (by kernel_rfl) H Q
def KM(M:ak)(c:Ctx):=(zn M c).2.2.2.1
def η:=@zo M _ Zx [.tmp 6] [a0,a1,a2] (by kernel_rfl) H Q
def Tt(M:ak)(c:Ctx):=(zn M c).2.2.2.2.1
def qsd:=@zo M _ Va [.tmp 2] [a0] (by kernel_rfl) H Q
def PM(M:ak)(c:Ctx):=(zn M c).2.2.2.2.2.1
def B_:=@zo M _ YO [.tmp 2] [a0] (by kernel_rfl) H Q
def qww(M:ak)(c:Ctx):=(zn M c).2.2.2.2.2.2.1
def qwv:=@zo M _ va [.dq 4 2,.tmp 3] [a0] (by kernel_rfl) H Q
def WK(M:ak)(c:Ctx):=(zn M c).2.2.2.2.2.2.2.1
def _G:=@zo M _ Zt [.tmp 6] [a0,a1,a2] (by kernel_rfl) H Q
def Y'(M:ak)(c:Ctx):=(ej M c).1
def qwq:=@zo M _ V2 [.tmp 2] [a0] (by kernel_rfl) H Q
def quf(M:ak)(c:Ctx):=(ej M c).2.1
def que:=@zo M _ XU [.tmp 2] [a0] (by kernel_rfl) H Q
def R_(M:ak)(c:Ctx):=(ej M c).2.2.1
def qub:=@zo M _ Zi [.tmp 2] [a0] (by kernel_rfl) H Q
def qsf(M:ak)(c:Ctx):=(ej M c).2.2.2.1
def qse:=@zo M _ mo [.tmp 2] [a0] (by kernel_rfl) H Q
def qqt(M:ak)(c:Ctx):=(ej M c).2.2.2.2.1
def qqs:=@zo M _ Z0 [.tmp 2] [a0] (by kernel_rfl) H Q
def qw3(M:ak)(c:Ctx):=(ej M c).2.2.2.2.2.1
def qw2:=@zo M _ Yx [.tmp 2] [a0] (by kernel_rfl) H Q
def qul(M:ak)(c:Ctx):=(ej M c).2.2.2.2.2.2.1
def quk:=@zo M _ VM [] [a0,a1,a2] (by kernel_rfl) H Q
def qw7(M:ak)(c:Ctx):=(ej M c).2.2.2.2.2.2.2.1
def qw6:=@zo M _ Rp [] [a0] (by kernel_rfl) H Q
def PL(M:ak)(c:Ctx):=(ez M c).1
def qq2:=@zo M _ VI [.tmp 4] [a0,a1] (by kernel_rfl) H Q
def qun(M:ak)(c:Ctx):=(ez M c).2.1
def qum:=@zo M _ Vi [] [a0,a1] (by kernel_rfl) H Q
def quq(M:ak)(c:Ctx):=(ez M c).2.2.1
def qup:=@zo M _ PA [] [a0,a1] (by kernel_rfl) H Q
def quu(M:ak)(c:Ctx):=(ez M c).2.2.2.1
def qut:=@zo M _ YX [.tmp 2] [a0] (by kernel_rfl) H Q
def qw5(M:ak)(c:Ctx):=(ez M c).2.2.2.2.1
def u_:=@zo M _ Rd [] [a0] (by kernel_rfl) H Q
def qw1(M:ak)(c:Ctx):=(ez M c).2.2.2.2.2.1
def _t:=@zo M _ nz [] [a0,a1,a2] (by kernel_rfl) H Q
def j'(M:ak)(c:Ctx):=(ez M c).2.2.2.2.2.2.1
def qqu:=@zo M _ hK [] [a0,a1,a2,a3] (by kernel_rfl) H Q
def qsn(M:ak)(c:Ctx):=(ez M c).2.2.2.2.2.2.2.1
def qsm:=@zo M _ XY [] [a0,a1] (by kernel_rfl) H Q
def quh(M:ak)(c:Ctx):=(fb M c).1
def qug:=@zo M _ PW [] [a0,a1] (by kernel_rfl) H Q
def qqx(M:ak)(c:Ctx):=(fb M c).2.1
def qqw:=@zo M _ Wz [] [a0,a1,a2] (by kernel_rfl) H Q
def x_(M:ak)(c:Ctx):=(fb M c).2.2.1
def _3:=@zo M _ Su [] [a0,a1] (by kernel_rfl) H Q
def q1p(M:ak)(c:Ctx):=(fb M c).2.2.2.1
def q1o:=@zo M _ E1 [] [a0,a1,a2,a3,a4] (by kernel_rfl) H Q
def t6(M:ak)(c:Ctx):=(fb M c).2.2.2.2.1
def qso:=@zo M _ Yq [] [a0,a1] (by kernel_rfl) H Q
def q1n(M:ak)(c:Ctx):=(fb M c).2.2.2.2.2.1
def q1m:=@zo M _ Zg [] [a0,a1,a2] (by kernel_rfl) H Q
def qsl(M:ak)(c:Ctx):=(fb M c).2.2.2.2.2.2.1
def qsk:=@zo M _ KT [] [a0,a1,a2] (by kernel_rfl) H Q
def Vd(M:ak)(c:Ctx):=(fb M c).2.2.2.2.2.2.2.1
def qoj:=@zo M _ VC [] [a0,a1,a2,a3] (by kernel_rfl) H Q
def NQ(M:ak)(c:Ctx):=(fe M c).1
def Vt:=@zo M _ N7 [] [a0,a1,a2] (by kernel_rfl) H Q
def qwz(M:ak)(c:Ctx):=(fe M c).2.1
def qwy:=@zo M _ NS [] [a0] (by kernel_rfl) H Q
def qus(M:ak)(c:Ctx):=(fe M c).2.2.1
def qur:=@zo M _ Ps [] [a0,a1] (by kernel_rfl) H Q
def vg(M:ak)(c:Ctx):=(fe M c).2.2.2.1
def _4:=@zo M _ nu [] [a0,a1,a2,a3] (by kernel_rfl) H Q
def ac5(M:ak)(c:Ctx):=(fe M c).2.2.2.2.1
def qui:=@zo M _ Me [] [a0,a1,a2] (by kernel_rfl) H Q
def s_(M:ak)(c:Ctx):=(fe M c).2.2.2.2.2.1
def γ:=@zo M _ Vs [] [a0,a1] (by kernel_rfl) H Q
def YH(M:ak)(c:Ctx):=(fe M c).2.2.2.2.2.2.1
def qwx:=@zo M _ Yh [] [a0,a1] (by kernel_rfl) H Q
def qlv(M:ak)(c:Ctx):=(fe M c).2.2.2.2.2.2.2.1
def qlu:=@zo M _ QD [] [a0,a1] (by kernel_rfl) H Q
def U_(M:ak)(c:Ctx):=(ff M c).1
def qm4:=@zo M _ R1 [] [a0,a1,a2] (by kernel_rfl) H Q
def _L(M:ak)(c:Ctx):=(ff M c).2.1
def quv:=@zo M _ Ws [] [a0,a1,a2,a3] (by kernel_rfl) H Q
def qsh(M:ak)(c:Ctx):=(ff M c).2.2.1
def qsg:=@zo M _ SM [] [a0,a1] (by kernel_rfl) H Q
def qsj(M:ak)(c:Ctx):=(ff M c).2.2.2.1
def z_:=@zo M _ Q6 [] [a0] (by kernel_rfl) H Q
def Wr(M:ak)(c:Ctx):=(ff M c).2.2.2.2.1
def qk1:=@zo M _ Nt [] [a0,a1,a2,a3,a4] (by kernel_rfl) H Q
def UO(M:ak)(c:Ctx):=(ff M c).2.2.2.2.2.1
def qk2:=@zo M _ Oj [] [a0,a1,a2,a3] (by kernel_rfl) H Q
def XK(M:ak)(c:Ctx):=(ff M c).2.2.2.2.2.2.1
def qk3:=@zo M _ Od [] [a0,a1,a2,a3,a4] (by kernel_rfl) H Q
def qq1(M:ak)(c:Ctx):=(ff M c).2.2.2.2.2.2.2
def qq0:=@zo M _ Wh [] [a0,a1,a2] (by kernel_rfl) H Q
abbrev Tj:Nat:=36
abbrev SL:Nat:=37
abbrev Xi:Nat:=109
abbrev Yl:Nat:=72
abbrev Wx:Nat:=66
abbrev Wf:Nat:=73
abbrev YZ:Nat:=118
abbrev XA:Nat:=71
abbrev t8:Nat:=123
abbrev Jh:Nat:=69
abbrev XD:Nat:=125
abbrev YE:Nat:=116
abbrev PO:Nat:=111
abbrev Sx:Nat:=107
abbrev WU:Nat:=65
abbrev X9:Nat:=170
abbrev JJ:Nat:=214
abbrev ZO:Nat:=126
abbrev Ur:Nat:=67
abbrev Um:Nat:=168
abbrev Kv:Nat:=112
abbrev Wu:Nat:=68
abbrev Xx:Nat:=33
abbrev Yi:Nat:=70
abbrev Yp:Nat:=171
abbrev Nh:Nat:=113
abbrev Ue:Nat:=62
abbrev lx:Nat:=8
abbrev WV:Nat:=30
abbrev vc:Nat:=41
abbrev D3:Nat:=113
abbrev Cx:Nat:=24
abbrev wg:Nat:=30
abbrev Sz:rX:=[(8,⟨[0,1,2,3,6,8,9,10,11],B2,[0,4,12]⟩,[]),(37,⟨[0,2,3,4,5,6,7,11],B2,[0,11,16,30,43,21,35,48,57,64,69,79]⟩,[]),(25,⟨[0,2,8],B2,[0,2,10]⟩,[]),(23,⟨[0,2,3],B2,[0]⟩,[(1,[0,18,2,4,6,8,10,12,14,16,20,15,22,24,26,28,30,32,34,36,38])]),(30,⟨[0,2],B2,[0,2,10]⟩,[]),(65,⟨[0,2,3,4,5,6,54],B2,[0,4,16,8,39,22,14,45,30,55,63]⟩,[(6,[0,2,4,6,8,10,12,14,16,18,20,24,22,7,13,26,28,30])]),(66,⟨[0,20],B2,[0,4,19]⟩,[]),(67,⟨[0,1,4,5,6,7,8],B2,[0]⟩,[]),(68,⟨[0,2,3],B2,[0]⟩,[]),(69,⟨[0,2,4,5,6,7,8,18],B2,[0,1,5,7,9,26,21,32,36,38,44,50]⟩,[(12,[0,2,4,6,10,12,14,16,8,17,18,20,22])]),(70,⟨[0,1,2,6,7,8],B2,[0]⟩,[]),(71,⟨[0],B2,[0]⟩,[(2,[0,2,4,6,8,10,12,14,16,7,18,20])]),(72,⟨[0,2],B2,[0,14,4,12]⟩,[]),(73,⟨[0],B2,[0]⟩,[]),(33,⟨[0,2],B2,[0]⟩,[]),(107,⟨[0,6],B2,[0,15]⟩,[]),(109,⟨[0,1,4,5],B2,[0,2,10]⟩,[]),(111,⟨[0,1],B2,[0]⟩,[]),(112,⟨[0,1,2,3,4,7,8,9,14,47,48,49],B2,[0,2,30,11,25,19]⟩,[(5,[0,2,4,6,8,10,3,12,14,16]),(6,[0,2,4,6,8,10,12,1,3,14])]),(300112,⟨[0,1,2,3,4,7,8,9,14,47,48,49],B2,[0]⟩,[(5,[0,2,4,6,8,10,3,12,14,16]),(6,[0,2,4,6,8,10,12,1,3,14])]),(200112,⟨[0,1,2,3,4,7,8,9,14,47,48,49],B2,[0]⟩,[(5,[0,2,4,6,8,10,3,12,14,16]),(6,[0,2,4,6,8,10,12,1,3,14])]),(113,⟨[0,1,2,4,6,7,12,71,72,73],B2,[0,8,13,18,30,46,26,32,37,43]⟩,[]),(300113,⟨[0,1,2,4,6,7,12,71,72,73],B2,[0]⟩,[]),(200113,⟨[0,1,2,4,6,7,12,71,72,73],B2,[0]⟩,[]),(116,⟨[0],B2,[0,11]⟩,[]),(62,⟨[0,1,2,3,4,10],B2,[0,2,8]⟩,[(2,[0,2,4,6,8,10,12,14,16,20,22,24,26,30,18,7,27,28,7,32,34,36,38,40])]),(118,⟨[0,1,2,3,8,9,10,11,12],B2,[0]⟩,[]),(123,⟨[0],B2,[0,6]⟩,[]),(125,⟨[0],B2,[0,9]⟩,[(7,[0,2,4,6,8,10,12,14,16,18,9,20])]),(126,⟨[0],B2,[0]⟩,[]),(168,⟨[0,1,2,4,6,8],B2,[0,4,6,12]⟩,[]),(170,⟨[0,1,2,3,4],B2,[0]⟩,[]),(171,⟨[0,1,2,3,6],B2,[0]⟩,[]),(36,⟨[0,1],B2,[0]⟩,[]),(214,⟨[0,1,2,4,5,9,10,11],B2,[0,4,10,19]⟩,[])]
def UB(n:Nat):Kp:=jM n Sz
def EN(n k:Nat):Kp×ai:=(UB n,part (a9 Tryz.prog n) k)
def Xv(n k:Nat):EN n k=(UB n,part (a9 Tryz.prog n) k):=rfl
def j9:=@kD M _ EN UB Xv
attribute [local irreducible] EN
def zp(M:ak)(c:Ctx):=by
 have h:=nY Xv M c Sz (by kernel_rfl)
 conv at h=>arg 5;reduce
 delta PR RL mQ fZ mT gj oi iY lS fM fY fJ nJ pY sT rk mY pM rW qK Sz at h
 simp only[wB,vX,wP,wE,A0,LJ]at h;exact h
def fk(M:ak)(c:Ctx):=(zp M c).2.2.2.2.2.2.2.2
def fu(M:ak)(c:Ctx):=(fk M c).2.2.2.2.2.2.2.2
def fB(M:ak)(c:Ctx):=(fu M c).2.2.2.2.2.2.2.2
def fS(M:ak)(c:Ctx):=(fB M c).2.2.2.2.2.2.2.2
def Fc(M:ak)(c:Ctx):=(zp M c).1
def Q_:=@j9 M _ lx [.tmp 8,.tmp 9] [a0,a1,a2,a3] (by kernel_rfl) H Q
def z8(M:ak)(c:Ctx):=(zp M c).2.1
def l_:=@j9 M _ SL [] [a0] (by kernel_rfl) H Q
def f0(M:ak)(c:Ctx):=(zp M c).2.2.2.2.1
def qk0:=@j9 M _ WV [.tmp 2] [a0] (by kernel_rfl) H Q
def zk(M:ak)(c:Ctx):=(zp M c).2.2.2.2.2.1
def qs7:=@j9 M _ WU [] [a0] (by kernel_rfl) H Q
def Mz(M:ak)(c:Ctx):=(zp M c).2.2.2.2.2.2.1
def qrh:=@j9 M _ Wx [] [a0] (by kernel_rfl) H Q
def qvo(M:ak)(c:Ctx):=(zp M c).2.2.2.2.2.2.2.1
def qvn:=@j9 M _ Ur [.tmp 4,.tmp 5] [a0,a1] (by kernel_rfl) H Q
def qtc(M:ak)(c:Ctx):=(fk M c).1
def qtb:=@j9 M _ Wu [] [a0] (by kernel_rfl) H Q
def xy(M:ak)(c:Ctx):=(fk M c).2.1
def qs6:=@j9 M _ Jh [] [a0] (by kernel_rfl) H Q
def qte(M:ak)(c:Ctx):=(fk M c).2.2.1
def M':=@j9 M _ Yi [.tmp 6] [a0,a1,a2] (by kernel_rfl) H Q
def qp5(M:ak)(c:Ctx):=(fk M c).2.2.2.1
def qp4:=@j9 M _ XA [] [a0] (by kernel_rfl) H Q
def Nq(M:ak)(c:Ctx):=(fk M c).2.2.2.2.1
def qs5:=@j9 M _ Yl [] [a0] (by kernel_rfl) H Q
def Z5(M:ak)(c:Ctx):=(fk M c).2.2.2.2.2.1
def qri:=@j9 M _ Wf [] [a0] (by kernel_rfl) H Q
def qvq(M:ak)(c:Ctx):=(fk M c).2.2.2.2.2.2.1
def qvp:=@j9 M _ Xx [.tmp 2] [a0] (by kernel_rfl) H Q
def NV(M:ak)(c:Ctx):=(fk M c).2.2.2.2.2.2.2.1
def qp6:=@j9 M _ Sx [] [a0] (by kernel_rfl) H Q
def nB(M:ak)(c:Ctx):=(fu M c).1
def q2b:=@j9 M _ Xi [.tmp 4,.tmp 5] [a0,a1] (by kernel_rfl) H Q
def qvk(M:ak)(c:Ctx):=(fu M c).2.1
def _o:=@j9 M _ PO [] [a0,a1] (by kernel_rfl) H Q
def N1:b9:=funcAt Tryz.prog Kv
def My:dT:=i9 N1 0
abbrev S4(k:Nat):Kp×ai:=EN 300112 k
abbrev R4(k:Nat):Kp×ai:=EN 200112 k
def j3:nth N1.loops 0=B1 My/\My.params=[48,49]:=⟨by kernel_rfl,by kernel_rfl⟩
def qp7:(S4 0).1.ah=[0,1,2,3,4,7,8,9,14,47,48,49]/\(S4 0).2=My.assign:=⟨by kernel_rfl,by kernel_rfl⟩
def C':(R4 0).1.ah=[0,1,2,3,4,7,8,9,14,47,48,49]/\(R4 0).2=My.body:=⟨by kernel_rfl,by kernel_rfl⟩
def qrn:M.func Kv=B1 N1:=MK.at (by decide) (by kernel_rfl)
def we(M:ak)(c:Ctx):=Dd (fu M c).2.2.1.1 (Dd (fu M c).2.2.2.1 (Dd (fu M c).2.2.2.2.1 (Dd (fu M c).2.2.1.2.1 (Dd (fu M c).2.2.1.2.2.1 (Dd (fu M c).2.2.1.2.2.2.1 (Dd (fu M c).2.2.1.2.2.2.2.1 ((fu M c).2.2.1.2.2.2.2.2)))))))
def qta:=@j9 M _ Kv [] [a0,a1,a2] (by kernel_rfl) H Q
def Oc:b9:=funcAt Tryz.prog Nh
def Nk:dT:=i9 Oc 0
abbrev SZ(k:Nat):Kp×ai:=EN 300113 k
abbrev Tw(k:Nat):Kp×ai:=EN 200113 k
def Yv:nth Oc.loops 0=B1 Nk/\Nk.params=[72,73]:=⟨by kernel_rfl,by kernel_rfl⟩
def qo2:(SZ 0).1.ah=[0,1,2,4,6,7,12,71,72,73]/\(SZ 0).2=Nk.assign:=⟨by kernel_rfl,by kernel_rfl⟩
def qo3:(Tw 0).1.ah=[0,1,2,4,6,7,12,71,72,73]/\(Tw 0).2=Nk.body:=⟨by kernel_rfl,by kernel_rfl⟩
def qp9:M.func Nh=B1 Oc:=MK.at (by decide) (by kernel_rfl)
def ku(M:ak)(c:Ctx):=Dd (fu M c).2.2.2.2.2.1.1 (Dd (fu M c).2.2.2.2.2.2.1 (Dd (fu M c).2.2.2.2.2.2.2.1 (Dd (fu M c).2.2.2.2.2.1.2.1 (Dd (fu M c).2.2.2.2.2.1.2.2.1 (Dd (fu M c).2.2.2.2.2.1.2.2.2.1 (Dd (fu M c).2.2.2.2.2.1.2.2.2.2.1 (Dd (fu M c).2.2.2.2.2.1.2.2.2.2.2.1 (Dd (fu M c).2.2.2.2.2.1.2.2.2.2.2.2.1 (Dd (fu M c).2.2.2.2.2.1.2.2.2.2.2.2.2.1 (Dd (fu M c).2.2.2.2.2.1.2.2.2.2.2.2.2.2.1 ((fu M c).2.2.2.2.2.1.2.2.2.2.2.2.2.2.2)))))))))))
def qrq:=@j9 M _ Nh [] [a0,a1,a2] (by kernel_rfl) H Q
def L5(M:ak)(c:Ctx):=(fB M c).1
def qvi:=@j9 M _ YE [] [a0] (by kernel_rfl) H Q
def Tf(M:ak)(c:Ctx):=(fB M c).2.1
def qvr:=@j9 M _ Ue [] [a0,a1,a2,a3,a4] (by kernel_rfl) H Q
def qzh(M:ak)(c:Ctx):=(fB M c).2.2.1
def qzg:=@j9 M _ YZ [.tmp 8,.tmp 9] [a0,a1,a2,a3] (by kernel_rfl) H Q
def UI(M:ak)(c:Ctx):=(fB M c).2.2.2.1
def qnr:=@j9 M _ t8 [] [a0] (by kernel_rfl) H Q
def Ln(M:ak)(c:Ctx):=(fB M c).2.2.2.2.1
def qrk:=@j9 M _ XD [] [a0] (by kernel_rfl) H Q
def y_(M:ak)(c:Ctx):=(fB M c).2.2.2.2.2.1
def qs8:=@j9 M _ ZO [] [a0] (by kernel_rfl) H Q
def Xm(M:ak)(c:Ctx):=(fB M c).2.2.2.2.2.2.1
def qrm:=@j9 M _ Um [] [a0,a1,a2] (by kernel_rfl) H Q
def qvm(M:ak)(c:Ctx):=(fB M c).2.2.2.2.2.2.2.1
def _U:=@j9 M _ X9 [.tmp 4] [a0,a1] (by kernel_rfl) H Q
def qrp(M:ak)(c:Ctx):=(fS M c).1
def E_:=@j9 M _ Yp [] [a0,a1,a2,a3] (by kernel_rfl) H Q
def I'(M:ak)(c:Ctx):=(fS M c).2.1
def ν:=@j9 M _ Tj [] [a0,a1] (by kernel_rfl) H Q
def Ke(M:ak)(c:Ctx):=(fS M c).2.2
def qrl:=@j9 M _ JJ [] [a0,a1,a2] (by kernel_rfl) H Q
abbrev JV:Nat:=9
abbrev jp:Nat:=34
abbrev Rz:rX:=[(100009,⟨[0,1,2,4,5,6,30],B2,[0,2,29,16]⟩,[(9,[0,2,4,6,8,10,3,12,14,16])]),(9900009,⟨[0,1,2,4,5,6,30],B2,[0,2,16,8,14]⟩,[(9,[0,2,4,6,8,10,3,12,14,16])]),(34,⟨[0],B2,[0]⟩,[])]
def Zr(n:Nat):Kp:=jM n Rz
def MO(n k:Nat):Kp×ai:=(Zr n,part (a9 Tryz.prog n) k)
def SY(n k:Nat):MO n k=(Zr n,part (a9 Tryz.prog n) k):=rfl
attribute [local irreducible] MO
def Cw(M:ak)(c:Ctx):=by
 have h:=nY SY M c Rz (by kernel_rfl)
 conv at h=>arg 5;reduce
 delta PR RL mQ fZ mT gj oi iY lS fM fY fJ nJ sT mY rW qK Rz at h
 simp only[wB,vX,wP,wE,A0,LJ]at h;exact h
def qve:b9:=funcAt Tryz.prog JV
abbrev qvg(k:Nat):Kp×ai:=MO 100009 k
abbrev qvh(k:Nat):Kp×ai:=MO 9900009 k
def kh(M:ak)(c:Ctx):=Dd (Cw M c).1.1 (Dd (Cw M c).2.1.1 (Dd (Cw M c).1.2.1 (Dd (Cw M c).2.1.2.1 (Dd (Cw M c).1.2.2.1 (Dd (Cw M c).1.2.2.2 (Dd (Cw M c).2.1.2.2.1 (Dd (Cw M c).2.1.2.2.2.1 ((Cw M c).2.1.2.2.2.2))))))))
def I_(h:W M ⟨B5,JV⟩ (qvg 0) B4 (Cr M ⟨B5,JV⟩ (qvh 0) 30 (eR M [.tmp 4,.tmp 5] Q)) (i7 0 [a0,a1]) [] H):CM M JV [a0,a1] H Q:=Lg SY (MK.at (by decide) (by kernel_rfl:(aU Tryz.prog).func JV=B1 qve)) (by kernel_rfl) (by kernel_rfl) (by kernel_rfl) (by kernel_rfl) (by kernel_rfl) (by kernel_rfl) h
def qrf{up:Option aA}(h:W M ⟨B5,jp⟩ (MO jp 0) B4 (eR M [] Q) (i7 0 [a0]) [] H):∃e H',iM M jp [a0] up H e up H'/\Q e H':=Ds SY (MK.at (by decide) (by kernel_rfl:(aU Tryz.prog).func jp=B1 (funcAt Tryz.prog jp))) (by kernel_rfl) (by kernel_rfl) (by kernel_rfl) h
def qrg(M:ak)(c:Ctx):=(Cw M c).2.2
abbrev QN:Nat:=3
abbrev SJ:Nat:=10
abbrev Uf:rX:=[(3,⟨[0,1,2,6,7,8,9,10,11,12,13,15],B2,[0,4,8,16,54,21,27,53,33,37,43,52]⟩,[]),(10,⟨[0,2,4],B2,[0,4,10,19]⟩,[])]
def Uy(n:Nat):Kp:=jM n Uf
def QO(n k:Nat):Kp×ai:=(Uy n,part (a9 Tryz.prog n) k)
def X0(n k:Nat):QO n k=(Uy n,part (a9 Tryz.prog n) k):=rfl
def WO:=@kD M _ QO Uy X0
attribute [local irreducible] QO
def Xy(M:ak)(c:Ctx):=by
 have h:=nY X0 M c Uf (by kernel_rfl)
 conv at h=>arg 5;reduce
 delta PR RL mQ fZ mT gj oi lS fM fY fJ nJ pY mY rW qK Uf at h
 simp only[wB,vX,wP,wE,A0,LJ]at h;exact h
def qvz(M:ak)(c:Ctx):=(Xy M c).1
def P':=@WO M _ QN [.tmp 6] [a0,a1,a2] (by kernel_rfl) H Q
def q2n(M:ak)(c:Ctx):=(Xy M c).2
def q2m:=@WO M _ SJ [] [a0] (by kernel_rfl) H Q
end
end Go.Am
namespace Go.Am
def gJ(x:Nat):List AV:=[.int .i64 (x:Int)]
def yV(x:Nat):(gJ x).length=1:=rfl
theorem MZ(l:List Nat):l.flatMap gJ=l.map λ(x:Nat)=>AV.int .i64 (x:Int):=by
 induction l with
 |nil=>rfl
 |cons a l ih=>rw[jv,ih];rfl
theorem sQ(l:List Nat):(l.flatMap gJ).length=l.length:=by grind [MZ]
structure mD(e:Nat)(H0 H:ar)(v:AV)(xs:List Nat):Prop where
 own:(v=.nils/\xs=[]) \/ ∃b m rest,v=.gslice b 0 m 1 0 xs.length/\b<H.au/\H0.au<=b/\m=xs.length+rest.length/\H.get b=B1 (.grown m 1 (xs.flatMap gJ++rest) e (0,0))
 fr:Fr Em H0 H
section
variable{e:Nat}{H0 H:ar}{v:AV}{xs:List Nat}
theorem mD.nil(e:Nat)(H:ar):mD e H H .nils []:=⟨.inl ⟨rfl,rfl⟩,Fr.refl H⟩
def mD.fresh(h:mD e H0 H v xs):∀b,bm v b->H0.au<=b/\b<H.au:=by
 rintro b ⟨d,rfl⟩;rcases h.own with⟨rfl,_⟩|⟨b,m,rest,rfl,a,c,_⟩
 .grind
 .exact ⟨c,a⟩
def mD.sl(h:mD e H0 H v xs):eS gJ 1 H v xs:=by
 rcases h.own with⟨rfl,rfl⟩|⟨b,m,rest,rfl,a,d,f,c⟩
 .exact ⟨rfl,rfl⟩
 .refine ⟨by rw[sQ,Nat.mul_one],rfl,rfl,by omega,.inr ⟨a,_,TN c,?_⟩⟩;rw[tw,qv (by grind [sQ]),yO,kq,Nat.mul_one,yx (by rw[sQ];omega),zh (by rw[sQ];omega)]
def mD.sr{H':ar}{W:Nat->Prop}(h:mD e H0 H v xs)(f:Fr W H H')(c:Fr Em H0 H')(hw:∀b,bm v b -> ¬W b):mD e H0 H' v xs:=by
 refine⟨?_,c⟩;rcases h.own with q|⟨b,m,rest,rfl,a,d,g,i⟩
 .grind
 .exact .inr ⟨b,m,rest,rfl,qj a f.au,d,g,by rw[f.ah b a (hw b ⟨by simp,rfl⟩)];exact i⟩
def mD.em{H':ar}(h:mD e H0 H v xs)(f:Fr Em H H'):mD e H0 H' v xs:=h.sr f (h.fr.em f) λ _ _ q=>q
def mD.cut(h:mD e H0 H v xs){k:Nat}(hk:k<=xs.length){z:Int}(i:z=k)(kk:KB) :
 ∃g,Op.aJ 1 [B5,B1 0,B5] [v,.int kk z]=B1 g/\mD e H0 H g (xs.take k) /\ ∀b,bm g b->bm v b:=by
 rcases h.own with⟨rfl,rfl⟩|⟨b,m,rest,rfl,l,o,p,q⟩
 .have:k=0:=by simpa using hk
  subst this;refine⟨.nils,?_,(by grind),λ b hb=>hb⟩;have c:bound B5 0 0=B1 0:=rfl;simp[Op.aJ,arg,kX,ei,c,ug i (qg 0)]
 .have j:∀n,FW n n=true:=λ n=>by simp
  have a:∀d m,bound B5 d m=B1 d:=λ _ _=>rfl;have f:=kr (show k<=m-0 by omega);refine⟨.gslice b (0+0) m 1 (cond (FW 0 0) 0 (0*1)) (k-0),by simp only[Op.aJ,arg,kX,zx,qm,ei,a,ug i (show k<=m-0 by omega),j,f,kr (xu m),jb,xg],⟨.inr ⟨b,m,(xs.drop k).flatMap gJ++rest,?_,l,o,?_,?_⟩,h.fr⟩,λ b hb=>⟨by simp,hb.2⟩⟩
  .grind
  .grind [sQ]
  grind [wo]
def mD.push(h:mD e H0 H v xs){x:Nat}{zero:List AV}{bytes:Nat}(G:zero.length=1)(E:(xs.length+1)*bytes<=140737488355328)(u:xs.length+1<=140737488355328){K:bB->(Nat->AV)->Bool->AV->ar->Prop}{m:Bool}
 (hk:∀z H',mD e H0 H' z (xs ++ [x])->Fr (bm v) H H'->(∀b,bm z b->bm v b\/H.au<=b)->K (.row [.int .i64 (x:Int)] e (0,0) B4) (Op.sliceTo 1 1) m z H') :
 iG m (Op.buildSlice e 1 zero [(0,1)] [.int .i64 (x:Int)]) λ g o mk=>iG g (Op.append e 1 bytes [v,mk H.au] (H.alloc o)) (K o mk):=by
 have hb:Op.buildSlice e 1 zero [(0,1)] [.int .i64 (x:Int)]=B1 (.row [.int .i64 (x:Int)] e (0,0) B4,Op.sliceTo 1 1):=Uz e 1 zero (.int .i64 (x:Int)) G rfl;rw[hb];have f:Fr Em H (H.alloc (.row [.int .i64 (x:Int)] e (0,0) B4)):=(Fr.refl H).alloc _;have k:Sl (H.alloc (.row [.int .i64 (x:Int)] e (0,0) B4)) 1 (Op.sliceTo 1 1 H.au) 1 [.int .i64 (x:Int)]:=zM rfl;have A:∀n,FW n n=true:=λ n=>by simp
 have ha:aP [AV.int .i64 (x:Int)]=true:=rfl;have j:KI 0 1=true:=rfl;have l:FW 1 0=false:=rfl;have d:=Pe E u;refine iG.intro rfl ?_;rcases h.own with⟨rfl,rfl⟩|⟨b,i,rest,rfl,I,y,B,J⟩
 .have d:fits 1 bytes=true:=by simpa using d
  refine iG.intro (a:=.gslice (H.au+1) 0 1 1 0 1) (b:=(H.alloc (.row [.int .i64 (x:Int)] e (0,0) B4)).alloc (.grown 1 1 [.int .i64 (x:Int)] e (0,0))) ?_ (hk _ _ ⟨.inr ⟨H.au+1,1,[],rfl,?_,?_,rfl,?_⟩,?_⟩ ((f.alloc _).mono λ _ _ q=>q.elim) λ b hb=>.inr ?_)
  .simp only[Op.append,k.eL,k.first,qm,ha,xg,cK,l,ze,d,j,jb,cZ,xt]
  .grind [xt]
  .have:=h.fr.au;omega
  .exact xf ..
  .exact (h.fr.em f).alloc _
  .rw [hb.2];show H.au<=H.au+1;omega
 .have p:(H.alloc (.row [.int .i64 (x:Int)] e (0,0) B4)).get b=B1 (.grown i 1 (xs.flatMap gJ++rest) e (0,0)):=by grind [yv]
  cases rest with
  |nil =>
   have hm:i=xs.length:=by simpa using B
   subst hm;have s:Jo (0+xs.length+1) xs.length=false:=by grind [vd]
   have t:=kr (show 0+xs.length<=xs.length by omega);have C:=kr (xu (xs.length*1));refine iG.intro (a:=.gslice (H.au+1) 0 (xs.length+1) 1 0 (xs.length+1)) (b:=((H.alloc (.row [.int .i64 (x:Int)] e (0,0) B4)).kill b).alloc (.grown (xs.length+1) 1 (xs.flatMap gJ ++ [.int .i64 (x:Int)]) e (0,0))) ?_ (hk _ _ ⟨.inr ⟨H.au+1,xs.length+1,[],?_,?_,?_,?_,?_⟩,?_⟩ ?_ λ b hb=>.inr ?_)
   .simp only[Op.append,k.eL,k.first,qm,ha,xg,cK,ze,A,t,j,jb,s,d,p,C,cZ,D9,xt,wx,zu,FW]
   .grind
   .grind [xt,D9]
   .omega
   .grind
   .grind [xf,gJ,D9,xt]
   .exact ((h.fr.em f).kill (.inr y)).alloc _
   .exact (Fr.kill (W:=bm (AV.gslice b 0 xs.length 1 0 xs.length)) (f.mono λ _ _ q=>q.elim) (.inl ⟨by simp,rfl⟩)).alloc _
   .rw [hb.2];show H.au<=H.au+1;omega
  |cons r rest =>
   have s:=kr (show 0+xs.length+1<=i by simp at B;omega);have t:=kr (show 0+xs.length<=i by omega);have w:(H.alloc (.row [.int .i64 (x:Int)] e (0,0) B4)).store b ((0+xs.length)*1) [.int .i64 (x:Int)]=B1 ((H.alloc (.row [.int .i64 (x:Int)] e (0,0) B4)).set b (.grown i 1 ((xs ++ [x]).flatMap gJ++rest) e (0,0))):=by
    have F:dS (0,0) ((0+xs.length)*1) (cF [AV.int .i64 (x:Int)])=true:=by simp[dS]
    simp only[ar.store,ha,xg,p,F,Ct];rw[qv (by grind [sQ]),qm];congr 4;rw[yu,Nat.mul_one,yx (by rw[sQ];omega),zh (by rw[sQ];omega),yi]
    .rfl
    .rw [yu,Nat.mul_one,show[AV.int .i64 (x:Int)].length=1 from rfl,vp,jd (by rw[sQ];omega),sQ];simp
   refine iG.intro (a:=.gslice b 0 i 1 0 (xs.length+1)) (b:=(H.alloc (.row [.int .i64 (x:Int)] e (0,0) B4)).set b (.grown i 1 ((xs ++ [x]).flatMap gJ++rest) e (0,0))) ?_ (hk _ _ ⟨.inr ⟨b,i,rest,?_,?_,y,?_,?_⟩,?_⟩ ?_ λ c D=>.inl ⟨by simp,D.2⟩)
   .simp only[Op.append,k.eL,k.first,qm,ha,xg,cK,l,ze,A,t,j,jb,s,w]
   .grind
   .grind [si,xt]
   .grind
   .exact xb ..
   .exact (h.fr.em f).set (.inr y) _
   .exact Fr.set (W:=bm (AV.gslice b 0 i 1 0 xs.length)) (f.mono λ _ _ q=>q.elim) (.inl ⟨by simp,rfl⟩) _
end
end Go.Am
namespace Go.Am
def NZ{len size b o:Nat}{k:KB}{j:Int}{i:Nat}(c:j=i)(a:i<len):Op.aW len size [.ptr b o,.int k j]=B1 (.ptr b (o+i*size)):=by
 simp only[Op.aW,It c a,qm]
def Lu{k:KB}{a:Nat}{b:Int}(hb:0<b):Op.bin .rem [.int k (a:Int),.int k b]=B1 (.int k ((a % b.toNat:Nat):Int)):=by
 grind [rA]
namespace Lang
def ints(l:List Nat):List Int:=l.map λ(n:Nat)=>(n:Int)
end Lang
end Go.Am
namespace Go.Am
def J8(k k':KB)(a:Int)(n:Nat):Op.bin .shr [.int k a,.int k' n]=B1 (.int k (a.fdiv (2 ^ (min n k.bits)))):=by
 have e:wA (n:Int) 0=false:=by rw[HZ];simp
 simp_all[Op.bin,mJ,dC,qZ]
def LZ(k k':KB)(a:Int)(n:Nat):Op.bin .shl [.int k a,.int k' n]=B1 (.int k (aj k (a*2 ^ (min n k.bits)))):=by
 have e:wA (n:Int) 0=false:=by rw[HZ];simp
 simp_all[Op.bin,mJ,dC,qZ]
end Go.Am
namespace Go.Am
namespace Lang
structure iq where
 op:Int
 a:Int
 b:Int
 c:Int
 wH:Int
def CX(o:Nat)(x y:Int):Int :=
 if o=4 then aj .u64 (x+y)else if o=5 then aj .u64 (x-y)else if o=6 then aj .u64 (x*y)
 else if o=7 then aj .u64 ((A7 64 x &&& A7 64 y).toNat)else if o=8 then aj .u64 ((A7 64 x ^^^ A7 64 y).toNat)
 else if o=9 then aj .u64 (x*2 ^ (y % 64).toNat)else aj .u64 (x / 2 ^ (y % 64).toNat)
structure lW where
 kind:Int
 au:Int
 nQ:Int
 value:Int
 addr:Int
def gw:lW:=⟨0,0,0,0,0⟩
def nD(op:Nat):List UInt8 :=
 if op=2 then[65,73]else if op=3 then[65,66]else if 4<=op/\op<=10 then[65,66,67]
 else if op=11\/op=12\/op=14\/op=15\/op=16 then[65,66,73]else if op=13 then[73]else[]
def iq.lF(i:iq):Prop:=1<=i.op/\i.op<=18/\(65∈nD i.op.toNat->0<=i.a/\i.a<8)/\(66∈nD i.op.toNat->0<=i.b/\i.b<8)/\(67∈nD i.op.toNat->0<=i.c/\i.c<8)
instance(i:iq):Decidable i.lF:=inferInstanceAs (Decidable (_/\_))
def oh(n:Int):Nat:=(A7 64 n &&& 7#64).toNat
def rg(rs:List Int)(n:Int):Int:=rs.getD (oh n) 0
def lH(i:iq)(pc:Int)(q:Bool):lW:=if q=B4 then(if i.wH<0\/1024<i.wH then gw else⟨2,i.wH,0,0,0⟩)else⟨2,pc+1,0,0,0⟩
def iq.eM(i:iq)(rs:List Int)(pc:Int):lW :=
 if¬i.lF\/pc<0\/1024<=pc then gw
 else if i.op=1 then⟨7,pc+1,0,0,0⟩
 else if i.op=2 then⟨1,pc+1,i.a,aj .u64 i.wH,0⟩
 else if i.op=3 then⟨1,pc+1,i.a,rg rs i.b,0⟩
 else if i.op<=10 then⟨1,pc+1,i.a,CX i.op.toNat (rg rs i.b) (rg rs i.c),0⟩
 else if i.op=11 then⟨3,pc+1,i.a,0,aj .u64 (rg rs i.b+aj .u64 i.wH)⟩
 else if i.op=12 then⟨4,pc+1,0,rg rs i.a,aj .u64 (rg rs i.b+aj .u64 i.wH)⟩
 else if i.op=13 then lH i pc B4
 else if i.op=14 then lH i pc (decide (rg rs i.a=rg rs i.b))
 else if i.op=15 then lH i pc (decide (rg rs i.a≠rg rs i.b))
 else if i.op=16 then lH i pc (decide (rg rs i.a<rg rs i.b))
 else if i.op=17 then⟨5,pc+1,0,0,0⟩
 else⟨6,pc+1,0,0,0⟩
end Lang
end Go.Am
namespace Go.Am
def sk(AP:ak)(g:Nat)(pre cap:List AV)(N O:Nat->Prop)(H0:ar)(xs:List (List AV)):Prop :=
 ∀(L:Nat)(R:Nat->(Nat->Prop)->ar->Prop)(S:(Nat->Prop)->ar->Prop)(W0:Nat->Prop)(H:ar),
  H0.au<=H.au->(∀b,N b\/O b->b<H0.au/\H.get b=H0.get b /\ ¬W0 b)->R 0 W0 H->(∀b,W0 b->b<H.au) ->
  (∀i W H H',R i W H->(∀b,W b->H'.get b=H.get b)->H.au<=H'.au->R i W H')->(∀W H H',S W H->(∀b,W b->H'.get b=H.get b)->H.au<=H'.au->S W H') ->
  (∀(i:Nat)x,xs[i]? = B1 x -> ∀W H',R i W H'->(∀b,W b->b<H'.au/\(W0 b\/H.au<=b))->Fr (λ b=>W0 b\/O b) H H' ->
   ∃bb H'' W',qF AP L x H' (.ret (.bool bb)) H''/\Fr W H' H''/\(∀b,W' b->b<H''.au/\(W b\/H'.au<=b))/\(bb=B4->R (i+1) W' H'')/\(bb=B2->S W' H'')) ->
  ∃v H' W',CALL AP g (pre++(.fn (.yield L) [] []::cap)) H (.ret v) H'/\Fr (λ b=>W0 b\/O b) H H'/\(∀b,W' b->b<H'.au/\(W0 b\/H.au<=b))/\(R xs.length W' H'\/S W' H')
section
variable{AP:ak}
def xg9{f:Nat}{fn:b9}{k:Nat}{lp:dT}(hf:AP.func f=B1 fn)(hk:nth fn.loops k=B1 lp){tm:T AV}{aV:List aK}{up:Option aA}{H:ar}{Q:ct}
 {g:Nat} {pre cap:List AV} {N O:Nat->Prop} {H0:ar} {xs:List (List AV)} (mK:sk AP g pre cap N O H0 xs)
 (P:Nat->(Nat->Prop)->ar->Prop) (z:aS->(Nat->Prop)->ar->Prop) (m:Nat->Prop)
 (hn:H0.au<=H.au) (hN:∀b,N b\/O b->b<H0.au/\H.get b=H0.get b /\ ¬m b) (hW0:∀b,m b->b<H.au) (h0:P 0 m H)
 (loc:∀i W H H',P i W H->(∀b,W b->H'.get b=H.get b)->H.au<=H'.au->P i W H') (y:∀e W H H',z e W H->(∀b,W b->H'.get b=H.get b)->H.au<=H'.au->z e W H')
 (B:∀(L d i:Nat)x,xs[i]? = B1 x->H.au<=L -> ∀W H1,P i W H1->(∀b,W b->b<H1.au/\(m b\/H.au<=b))->Fr (λ b=>m b\/O b) H H1 -> ¬W L->L<H1.au->H1.get L=B1 (.loop .ready B5 f k tm d) ->
  ∃E,Io tm lp.params x=B1 E/\WP AP ⟨B1 L,f⟩ lp.assign ⟨E,[],B5,H1⟩ λ e cQ=>e=.normal/\cQ.H.get L=B1 (.loop .ready B5 f k tm d) /\
   WP AP ⟨B1 L,f⟩ lp.body ⟨cQ.tm,cQ.aV,cQ.up,cQ.H.set L (.loop .busy B5 f k tm d)⟩ λ n a=>a.aV=[]/\a.H.get L=B1 (.loop .busy B5 f k tm d) /\
    ∃W':Nat->Prop,(∀b,W' b->b<a.H.au/\(W b\/H1.au<=b))/\Fr (λ b=>W b\/b=L) H1 a.H/\(n=.normal/\P (i+1) W' a.H\/fI n/\z n W' a.H))
 (R:∀d W' H',H.au<=d->d<H'.au->H'.get d=B1 (.deferred (B1 []))->Fr (λ b=>m b\/O b) H H'->(∀b,W' b->b<H'.au/\(m b\/H.au<=b)/\b≠d)->P xs.length W' H'->Q .normal ⟨tm,.im d::aV,up,H'⟩)
 (D:∀e d W' H',fI e->H.au<=d->d<H'.au->H'.get d=B1 (.deferred (B1 []))->Fr (λ b=>m b\/O b) H H'->(∀b,W' b->b<H'.au/\(m b\/H.au<=b)/\b≠d)->z e W' H'->Q e ⟨tm,.im d::aV,up,H'⟩) :
 Fm AP ⟨B5,f⟩ k ⟨tm,aV,up,H⟩ Q (.fn (.func g) pre cap):=by
 let d:=H.au
 let L:=H.au+1
 let Hd:=H.alloc (.deferred (B1 []))
 let HL:=Hd.alloc (.loop .ready B5 f k tm d)
 have hHL:HL.au=H.au+2:=rfl;have hgL:HL.get L=B1 (.loop .ready B5 f k tm d):=xf Hd _;have hgd:HL.get d=B1 (.deferred (B1 [])):=by rw[show HL.get d=Hd.get d from yv (by show H.au<H.au+1;omega) _];exact xf H _
 have S:Fr Em H HL:=((Fr.refl H).alloc _).alloc _;have hold:∀b,b<H.au->HL.get b=H.get b:=λ b hb=>S.ah b hb (λ q=>q);have⟨v,H',W',hc,C,K,hres⟩:=mK L
  (λ i W H'=>∃V:Nat->Prop,(∀b,V b->W b)/\W L /\ ¬V L /\ ¬W d/\(∀b,W b->V b\/b=L)/\P i V H'/\H'.get L=B1 (.loop .ready B5 f k tm d)/\L<H'.au)
  (λ W H'=>∃(V:Nat->Prop)(e:aS)(j:gH),(∀b,V b->W b)/\W L /\ ¬V L /\ ¬W d/\(∀b,W b->V b\/b=L)/\fI e/\jK e=B1 j/\z e V H'/\H'.get L=B1 (.loop .done (B1 j) f k tm d)/\L<H'.au)
  (λ b=>m b\/b=L) HL (by omega)
  (by grind)
  (by grind)
  (by grind)
  (λ i W H1 r⟨V,v1,v2,F,v4,v5,v6,G,I⟩hs hle=>⟨V,v1,v2,F,v4,v5,(by grind),by grind,qj I hle⟩)
  (by grind)
  (λ i x hx W H1⟨V,v1,v2,F,v4,v5,v6,G,I⟩hb X=>by
   have hLn0:L=H.au+1:=rfl;have U:Fr (λ b=>m b\/O b) H H1:=⟨(by omega),λ b hb hw=>by rw[X.ah b (by omega) (by grind),hold b hb]⟩
   have hbV:∀b,V b->b<H1.au/\(m b\/H.au<=b):=λ b q=>(by grind)
   have⟨E,hbp,hw⟩:=B L d i x hx (by show H.au<=H.au+1;omega) V H1 v6 hbV U F I G;obtain⟨e,r,hr,bb,rfl,c,k1,k2,k3,k4⟩:=Za (Q:=λ e r=>∃bb,e=.ret (.bool bb) /\ ∃c:Nat->Prop,Fr W H1 r/\(∀b,c b->b<r.au/\(W b\/H1.au<=b)) /\
    (bb=B4 -> ∃V:Nat->Prop,(∀b,V b->c b)/\c L /\ ¬V L /\ ¬c d/\(∀b,c b->V b\/b=L)/\P (i+1) V r/\r.get L=B1 (.loop .ready B5 f k tm d)/\L<r.au) /\
    (bb=B2 -> ∃(V:Nat->Prop)(e:aS)(j:gH),(∀b,V b->c b)/\c L /\ ¬V L /\ ¬c d/\(∀b,c b->V b\/b=L)/\fI e/\jK e=B1 j/\z e V r/\r.get L=B1 (.loop .done (B1 j) f k tm d)/\L<r.au)) G hf hk hbp
    (oE hw λ e cQ⟨he,hgl,hw2⟩=>by
     subst he;show bJ aF (beginRound cQ.H L) _;have:beginRound cQ.H L=B1 (cQ.H.set L (.loop .busy B5 f k tm d)):=by grind [beginRound]
     rw[this];refine oE hw2 λ n a⟨hd2,hg2,W',w1,w2,w3⟩=>⟨hd2,?_⟩
     have J:L<a.H.au:=qj I w2.au;have hd1:d<H1.au:=by omega
     have fin:∀s p,Fr W H1 (a.H.set L (.loop s p f k tm d)):=λ s p=>⟨w2.au,λ b hb hw=>by
      rw[ar.aH,qn (by grind)];exact w2.ah b hb λ q=>(by grind)⟩
     have hW'L:∀b,(W' b/\b≠L)->(a.H.set L (.loop .ready B5 f k tm d)).get b=a.H.get b:=λ b hb=>by rw[ar.aH,qn (λ q=>hb.2 q.symm)]
     have hnV:¬W' L:=λ q=>by
      grind
     have hnd:¬W' d:=λ q=>by
      grind
     have t:d≠L:=by omega
     have bounds:∀b,(W' b\/b=L)->b<a.H.au/\(W b\/H1.au<=b):=λ b hb=>hb.elim (by grind) λ q=>by grind
     rcases w3 with⟨rfl,w3⟩|⟨Y,w3⟩
     .show bJ aF (cA a.H L (cond B4 .ready .done) B5) _;have:cA a.H L .ready B5=B1 (a.H.set L (.loop .ready B5 f k tm d)):=by simp_all[cA]
      rw[xg,this];refine⟨B4,rfl,λ b=>W' b\/b=L,fin _ _,bounds,λ _=>⟨W',λ b hb=>.inl hb,.inr rfl,hnV,λ q=>q.elim hnd t,λ b hb=>hb,loc _ _ _ _ w3 (by grind) (qg _),xb _ _ _,J⟩,λ h=>by cases h⟩
     .obtain ⟨j,Z⟩:∃j,jK n=B1 j:=by cases n<;>first|exact Y.elim|exact⟨_,rfl⟩
      have hnn:vC n=false:=by cases n<;>first|exact Y.elim|rfl
      have l:∀(A:Prop),(bJ aF (cA a.H L (cond (vC n) .ready .done) (jK n)) λ H=>∃bb,(bF.ret (.bool (vC n))=.ret (.bool bb)) /\ ∃c:Nat->Prop,Fr W H1 H/\(∀b,c b->b<H.au/\(W b\/H1.au<=b)) /\
       (bb=B4 -> ∃V:Nat->Prop,(∀b,V b->c b)/\c L /\ ¬V L /\ ¬c d/\(∀b,c b->V b\/b=L)/\P (i+1) V H/\H.get L=B1 (.loop .ready B5 f k tm d)/\L<H.au) /\
       (bb=B2 -> ∃(V:Nat->Prop)(e:aS)(j:gH),(∀b,V b->c b)/\c L /\ ¬V L /\ ¬c d/\(∀b,c b->V b\/b=L)/\fI e/\jK e=B1 j/\z e V H/\H.get L=B1 (.loop .done (B1 j) f k tm d)/\L<H.au)):=λ _=>by
       have:cA a.H L .done (B1 j)=B1 (a.H.set L (.loop .done (B1 j) f k tm d)):=by grind [cA]
       rw[hnn,Z,ze,this];refine⟨B2,rfl,λ b=>W' b\/b=L,fin _ _,bounds,λ h=>(by cases h),λ _=>⟨W',n,j,λ b hb=>.inl hb,.inr rfl,hnV,λ q=>q.elim hnd t,λ b hb=>hb,Y,Z,y _ _ _ _ w3 (λ b hb=>by rw[ar.aH,qn (by grind)]) (qg _),xb _ _ _,J⟩⟩
      cases n with
      |normal=>exact Y.elim
      |panic _=>exact Y.elim
      |exit _=>exact l True
      |goto _=>exact l True
      |ret=>exact l True)
   exact⟨bb,r,c,hr,k1,k2,k3,k4⟩)
 have t:d≠L:=by omega
 have hdW:¬((m d\/d=L)\/O d):=λ q=>(by grind)
 have u:H'.get d=B1 (.deferred (B1 [])):=by rw[C.ah d (by omega) hdW];exact hgd
 have M:d<H'.au:=(by omega)
 have w:∀(o:bB),Fr (λ b=>m b\/O b) H (H'.set L o):=λ o=>⟨xm (by omega) C.au,λ b hb hw=>by
  have:L=H.au+1:=rfl;rw[ar.aH,qn (by omega),C.ah b (by omega) (by grind),hold b hb]⟩
 refine⟨.ret v,H',hc,?_⟩;rcases hres with⟨V,v1,v2,F,v4,v5,v6,G,I⟩|⟨V,e,j,v1,v2,F,v4,v5,v6,G,I,v9,v10⟩
 .refine ⟨.ready,B5,f,k,tm,d,G,by simp,?_⟩;refine R d V _ (qg _) M (by rw[ar.aH,qn (λ q=>t q.symm)];exact u) (w _) (λ b hb=>⟨(K b (v1 b hb)).1,?_,λ q=>v4 (by rw[<-q];exact v1 b hb)⟩) (loc _ _ _ _ v6 (λ b hb=>by rw[ar.aH,qn (by rintro rfl;exact F hb)]) (qg _))
  grind
 .refine ⟨.done,B1 j,f,k,tm,d,v9,by simp,?_⟩;have he:po (B1 j)=e:=by cases e<;>first|exact v6.elim|(cases G;rfl)
  rw[he];refine D e d V _ v6 (qg _) M (by rw[ar.aH,qn (λ q=>t q.symm)];exact u) (w _) (λ b hb=>⟨(K b (v1 b hb)).1,?_,λ q=>v4 (by rw[<-q];exact v1 b hb)⟩) (y _ _ _ _ I (λ b hb=>by rw[ar.aH,qn (by rintro rfl;exact F hb)]) (qg _))
  grind
def uf:List Nat->List AV->Env->Option Env
 |[],[],E=>B1 E
 |t::ts,v::vs,E=>uf ts vs ((t,v)::E)
 |_,_,_=>B5
def T7(M:ak)(ctx:Ctx)(b:Kp×ai)(L:Nat)(lr lb:bB)(Q:aE):aE:=λ e E D H=>match e with
 | .normal=>H.get L=B1 lr/\W M ctx b B4 Q E D (H.set L lb)
 |_=>False
def DQ(M:ak)(ctx:Ctx)(b:Kp×ai)(L:Nat)(lr lb:bB)(Q:aE)(E:Env)(D:List aK)(H:ar):T7 M ctx b L lr lb Q .normal E D H=(H.get L=B1 lr/\W M ctx b B4 Q E D (H.set L lb)):=propext jg
def M9(P:(Nat->Prop)->ar->Prop)(PS:aS->(Nat->Prop)->ar->Prop)(L:Nat)(lb:bB)(W:Nat->Prop)(H1:ar):aE:=λ e _ D H=>D=[]/\H.get L=B1 lb /\
 ∃W':Nat->Prop,(∀b,W' b->b<H.au/\(W b\/H1.au<=b))/\Fr (λ b=>W b\/b=L) H1 H/\(e=.normal/\P W' H\/fI e/\PS e W' H)
def fy.cons{ks:List Nat}{E:Env}{tm:T AV}(h:fy ks E tm){t:Nat}(v:AV)(c:bA t ks=B4):fy ks ((t,v)::E) (tm.set t v):=λ u x hu=>by
 rw[tD]at hu;split at hu
 .simp_all [T.aH]
 .rename_i e;have⟨a,b⟩:=h u x hu;simp_all[T.aH]
def Rh{ks:List Nat}:∀{ts:List Nat}{vs:List AV}{E b:Env}{tm:T AV},fy ks E tm->(∀t∈ts,bA t ks=B4)->uf ts vs E=B1 b -> ∃a,Io tm ts vs=B1 a/\fy ks b a
 |[],[],E,b,tm,h,ht,hb=>by cases hb;exact⟨tm,rfl,h⟩
 |[],_::_,_,_,_,_,_,hb=>nomatch hb
 |_::_,[],_,_,_,_,_,hb=>nomatch hb
 |t::ts,v::vs,E,b,tm,h,ht,hb=>Rh (ts:=ts) (vs:=vs) (h.cons v (by grind)) (by grind) hb
def iL.iter{f:Nat}{fn:b9}{k:Nat}{lp:dT}(Z:AP.func f=B1 fn)(hk:nth fn.loops k=B1 lp){ks:List Nat}{ts:List Nat}(hp:lp.params=ts)(A:∀t∈ts,bA t ks=B4){pa pb:Kp×ai}(ha:pa.1.ah=ks/\pa.2=lp.assign)(hb:pb.1.ah=ks/\pb.2=lp.body)
 {E:Env} {D:List aK} {H:ar} {Q:aE} {g:Nat} {pre cap:List AV} {N O:Nat->Prop} {H0:ar} {xs:List (List AV)} (mK:sk AP g pre cap N O H0 xs)
 (P:Nat->(Nat->Prop)->ar->Prop) (h:aS->(Nat->Prop)->ar->Prop) (a:Nat->Prop)
 (hn:H0.au<=H.au) (T:∀b,N b\/O b->b<H0.au/\H.get b=H0.get b /\ ¬a b) (q:∀b,a b->b<H.au) (M:P 0 a H)
 (loc:∀i W H H',P i W H->(∀b,W b->H'.get b=H.get b)->H.au<=H'.au->P i W H') (l:∀e W H H',h e W H->(∀b,W b->H'.get b=H.get b)->H.au<=H'.au->h e W H')
 (c:∀(L i:Nat)(lr lb:bB)x,xs[i]? = B1 x->H.au<=L -> ∀W' H1,P i W' H1->(∀b,W' b->b<H1.au/\(a b\/H.au<=b))->Fr (λ b=>a b\/O b) H H1 -> ¬W' L->L<H1.au->H1.get L=B1 lr ->
  ∃m,uf ts x E=B1 m/\W AP ⟨B1 L,f⟩ pa B4 (T7 AP ⟨B1 L,f⟩ pb L lr lb (M9 (P (i+1)) h L lb W' H1)) m [] H1)
 (F:∀d W' H',H.au<=d->d<H'.au->H'.get d=B1 (.deferred (B1 []))->Fr (λ b=>a b\/O b) H H'->(∀b,W' b->b<H'.au/\(a b\/H.au<=b)/\b≠d)->P xs.length W' H'->Q .normal E (.im d::D) H')
 (z:∀e d W' H',fI e->H.au<=d->d<H'.au->H'.get d=B1 (.deferred (B1 []))->Fr (λ b=>a b\/O b) H H'->(∀b,W' b->b<H'.au/\(a b\/H.au<=b)/\b≠d)->h e W' H'->Q e E (.im d::D) H') :
 iL AP ks ⟨B5,f⟩ k E D H Q (.fn (.func g) pre cap):=by
 intro tm up he;refine xg9 Z hk mK P h a hn T q M loc l ?_ (by grind) (by grind);intro L d i x hx S W' H1 U V s y p w;have⟨m,o,hw⟩:=c L i (.loop .ready B5 f k tm d) (.loop .busy B5 f k tm d) x hx S W' H1 U V s y p w;have⟨C,X,r⟩:=Rh he A o;refine⟨C,by grind,?_⟩;rw[jY]at hw;have:=W3.wp _ _ (qg _) (up:=B5) hw (by rw[ha.1];exact r);rw[ha.2]at this;refine oE this λ e cQ⟨B,J,n,G⟩=>?_;cases e with
 |normal =>
  have⟨hg,j⟩:=G;refine⟨rfl,hg,?_⟩;rw[jY]at j;have:=W3.wp _ _ (qg _) (up:=B5) j (show fy pb.1.ah J cQ.tm by rw[hb.1,<-ha.1];exact n);rw[hb.2]at this;rw[B];refine oE this λ e2 st2⟨I,E2,R,Y,u,K,k1,k2,k3⟩=>⟨Y,u,K,k1,k2,k3⟩
 |_=>exact G.elim
def Gd(rs:List dM)(Q:bF->ar->Prop)(E:Env)(d:Nat)(H:ar):eR AP rs Q .ret E [.im d] H=(H.get d=B1 (.deferred (B1 []))/\iy E (H.set d (.deferred B5)) rs λ l=>Q (.ret (iF l)) (H.set d (.deferred B5))):=propext jg
end
end Go.Am
namespace Go.Am
def rC(AP:ak)(g:Nat)(pre cap:List AV)(N O:Nat->Prop)(I:Nat->ar->Prop)(H0:ar)(xs:List (List AV)):Prop :=
 ∀(L:Nat)(R:Nat->(Nat->Prop)->ar->Prop)(S:(Nat->Prop)->ar->Prop)(W0:Nat->Prop)(H:ar),
  H0.au<=H.au->(∀b,N b\/O b->b<H0.au/\H.get b=H0.get b /\ ¬W0 b)->R 0 W0 H->(∀b,W0 b->b<H.au) ->
  (∀i W H H',R i W H->(∀b,W b->H'.get b=H.get b)->H.au<=H'.au->R i W H')->(∀W H H',S W H->(∀b,W b->H'.get b=H.get b)->H.au<=H'.au->S W H') ->
  (∀i W H',R i W H'->I i H') ->
  (∀(i:Nat)x,xs[i]? = B1 x -> ∀W H',R i W H'->(∀b,W b->b<H'.au/\(W0 b\/H.au<=b))->Fr (λ b=>W0 b\/O b) H H' ->
   ∃bb H'' W',qF AP L x H' (.ret (.bool bb)) H''/\Fr W H' H''/\(∀b,W' b->b<H''.au/\(W b\/H'.au<=b))/\(bb=B4->R (i+1) W' H'')/\(bb=B2->S W' H'')) ->
  ∃v H' W',CALL AP g (pre++(.fn (.yield L) [] []::cap)) H (.ret v) H'/\Fr (λ b=>W0 b\/O b) H H'/\(∀b,W' b->b<H'.au/\(W0 b\/H.au<=b))/\(R xs.length W' H'\/S W' H')
section
variable{AP:ak}
def xg8{f:Nat}{fn:b9}{k:Nat}{lp:dT}(hf:AP.func f=B1 fn)(hk:nth fn.loops k=B1 lp){tm:T AV}{aV:List aK}{up:Option aA}{H:ar}{Q:ct}
 {g:Nat} {pre cap:List AV} {N O:Nat->Prop} {I:Nat->ar->Prop} {H0:ar} {xs:List (List AV)} (mK:rC AP g pre cap N O I H0 xs)
 (P:Nat->(Nat->Prop)->ar->Prop) (z:aS->(Nat->Prop)->ar->Prop) (m:Nat->Prop)
 (hn:H0.au<=H.au) (hN:∀b,N b\/O b->b<H0.au/\H.get b=H0.get b /\ ¬m b) (hW0:∀b,m b->b<H.au) (h0:P 0 m H)
 (loc:∀i W H H',P i W H->(∀b,W b->H'.get b=H.get b)->H.au<=H'.au->P i W H') (y:∀e W H H',z e W H->(∀b,W b->H'.get b=H.get b)->H.au<=H'.au->z e W H') (hI:∀i W H,P i W H->I i H)
 (B:∀(L d i:Nat)x,xs[i]? = B1 x->H.au<=L -> ∀W H1,P i W H1->(∀b,W b->b<H1.au/\(m b\/H.au<=b))->Fr (λ b=>m b\/O b) H H1 -> ¬W L->L<H1.au->H1.get L=B1 (.loop .ready B5 f k tm d) ->
  ∃E,Io tm lp.params x=B1 E/\WP AP ⟨B1 L,f⟩ lp.assign ⟨E,[],B5,H1⟩ λ e cQ=>e=.normal/\cQ.H.get L=B1 (.loop .ready B5 f k tm d) /\
   WP AP ⟨B1 L,f⟩ lp.body ⟨cQ.tm,cQ.aV,cQ.up,cQ.H.set L (.loop .busy B5 f k tm d)⟩ λ n a=>a.aV=[]/\a.H.get L=B1 (.loop .busy B5 f k tm d) /\
    ∃W':Nat->Prop,(∀b,W' b->b<a.H.au/\(W b\/H1.au<=b))/\Fr (λ b=>W b\/b=L) H1 a.H/\(n=.normal/\P (i+1) W' a.H\/fI n/\z n W' a.H))
 (S:∀d W' H',H.au<=d->d<H'.au->H'.get d=B1 (.deferred (B1 []))->Fr (λ b=>m b\/O b) H H'->(∀b,W' b->b<H'.au/\(m b\/H.au<=b)/\b≠d)->P xs.length W' H'->Q .normal ⟨tm,.im d::aV,up,H'⟩)
 (D:∀e d W' H',fI e->H.au<=d->d<H'.au->H'.get d=B1 (.deferred (B1 []))->Fr (λ b=>m b\/O b) H H'->(∀b,W' b->b<H'.au/\(m b\/H.au<=b)/\b≠d)->z e W' H'->Q e ⟨tm,.im d::aV,up,H'⟩) :
 Fm AP ⟨B5,f⟩ k ⟨tm,aV,up,H⟩ Q (.fn (.func g) pre cap):=by
 let d:=H.au
 let L:=H.au+1
 let Hd:=H.alloc (.deferred (B1 []))
 let HL:=Hd.alloc (.loop .ready B5 f k tm d)
 have hHL:HL.au=H.au+2:=rfl;have hgL:HL.get L=B1 (.loop .ready B5 f k tm d):=xf Hd _;have hgd:HL.get d=B1 (.deferred (B1 [])):=by rw[show HL.get d=Hd.get d from yv (by show H.au<H.au+1;omega) _];exact xf H _
 have U:Fr Em H HL:=((Fr.refl H).alloc _).alloc _;have hold:∀b,b<H.au->HL.get b=H.get b:=λ b hb=>U.ah b hb (λ q=>q);have⟨v,H',W',hc,C,M,hres⟩:=mK L
  (λ i W H'=>∃V:Nat->Prop,(∀b,V b->W b)/\W L /\ ¬V L /\ ¬W d/\(∀b,W b->V b\/b=L)/\P i V H'/\H'.get L=B1 (.loop .ready B5 f k tm d)/\L<H'.au)
  (λ W H'=>∃(V:Nat->Prop)(e:aS)(j:gH),(∀b,V b->W b)/\W L /\ ¬V L /\ ¬W d/\(∀b,W b->V b\/b=L)/\fI e/\jK e=B1 j/\z e V H'/\H'.get L=B1 (.loop .done (B1 j) f k tm d)/\L<H'.au)
  (λ b=>m b\/b=L) HL (by omega)
  (by grind)
  (by grind)
  (by grind)
  (λ i W H1 r⟨V,v1,v2,F,v4,v5,v6,G,J⟩hs hle=>⟨V,v1,v2,F,v4,v5,(by grind),by grind,qj J hle⟩)
  (by grind)
  (by grind)
  (λ i x hx W H1⟨V,v1,v2,F,v4,v5,v6,G,J⟩hb Y=>by
   have hLn0:L=H.au+1:=rfl;have X:Fr (λ b=>m b\/O b) H H1:=⟨(by omega),λ b hb hw=>by rw[Y.ah b (by omega) (by grind),hold b hb]⟩
   have hbV:∀b,V b->b<H1.au/\(m b\/H.au<=b):=λ b q=>(by grind)
   have⟨E,hbp,hw⟩:=B L d i x hx (by show H.au<=H.au+1;omega) V H1 v6 hbV X F J G;obtain⟨e,r,hr,bb,rfl,c,k1,k2,k3,k4⟩:=Za (Q:=λ e r=>∃bb,e=.ret (.bool bb) /\ ∃c:Nat->Prop,Fr W H1 r/\(∀b,c b->b<r.au/\(W b\/H1.au<=b)) /\
    (bb=B4 -> ∃V:Nat->Prop,(∀b,V b->c b)/\c L /\ ¬V L /\ ¬c d/\(∀b,c b->V b\/b=L)/\P (i+1) V r/\r.get L=B1 (.loop .ready B5 f k tm d)/\L<r.au) /\
    (bb=B2 -> ∃(V:Nat->Prop)(e:aS)(j:gH),(∀b,V b->c b)/\c L /\ ¬V L /\ ¬c d/\(∀b,c b->V b\/b=L)/\fI e/\jK e=B1 j/\z e V r/\r.get L=B1 (.loop .done (B1 j) f k tm d)/\L<r.au)) G hf hk hbp
    (oE hw λ e cQ⟨he,hgl,hw2⟩=>by
     subst he;show bJ aF (beginRound cQ.H L) _;have:beginRound cQ.H L=B1 (cQ.H.set L (.loop .busy B5 f k tm d)):=by grind [beginRound]
     rw[this];refine oE hw2 λ n a⟨hd2,hg2,W',w1,w2,w3⟩=>⟨hd2,?_⟩
     have K:L<a.H.au:=qj J w2.au;have hd1:d<H1.au:=by omega
     have fin:∀s p,Fr W H1 (a.H.set L (.loop s p f k tm d)):=λ s p=>⟨w2.au,λ b hb hw=>by
      rw[ar.aH,qn (by grind)];exact w2.ah b hb λ q=>(by grind)⟩
     have hW'L:∀b,(W' b/\b≠L)->(a.H.set L (.loop .ready B5 f k tm d)).get b=a.H.get b:=λ b hb=>by rw[ar.aH,qn (λ q=>hb.2 q.symm)]
     have hnV:¬W' L:=λ q=>by
      grind
     have hnd:¬W' d:=λ q=>by
      grind
     have t:d≠L:=by omega
     have bounds:∀b,(W' b\/b=L)->b<a.H.au/\(W b\/H1.au<=b):=λ b hb=>hb.elim (by grind) λ q=>by grind
     rcases w3 with⟨rfl,w3⟩|⟨Z,w3⟩
     .show bJ aF (cA a.H L (cond B4 .ready .done) B5) _;have:cA a.H L .ready B5=B1 (a.H.set L (.loop .ready B5 f k tm d)):=by simp_all[cA]
      rw[xg,this];refine⟨B4,rfl,λ b=>W' b\/b=L,fin _ _,bounds,λ _=>⟨W',λ b hb=>.inl hb,.inr rfl,hnV,λ q=>q.elim hnd t,λ b hb=>hb,loc _ _ _ _ w3 (by grind) (qg _),xb _ _ _,K⟩,λ h=>by cases h⟩
     .obtain ⟨j,hj2⟩:∃j,jK n=B1 j:=by cases n<;>first|exact Z.elim|exact⟨_,rfl⟩
      have hnn:vC n=false:=by cases n<;>first|exact Z.elim|rfl
      have l:∀(A:Prop),(bJ aF (cA a.H L (cond (vC n) .ready .done) (jK n)) λ H=>∃bb,(bF.ret (.bool (vC n))=.ret (.bool bb)) /\ ∃c:Nat->Prop,Fr W H1 H/\(∀b,c b->b<H.au/\(W b\/H1.au<=b)) /\
       (bb=B4 -> ∃V:Nat->Prop,(∀b,V b->c b)/\c L /\ ¬V L /\ ¬c d/\(∀b,c b->V b\/b=L)/\P (i+1) V H/\H.get L=B1 (.loop .ready B5 f k tm d)/\L<H.au) /\
       (bb=B2 -> ∃(V:Nat->Prop)(e:aS)(j:gH),(∀b,V b->c b)/\c L /\ ¬V L /\ ¬c d/\(∀b,c b->V b\/b=L)/\fI e/\jK e=B1 j/\z e V H/\H.get L=B1 (.loop .done (B1 j) f k tm d)/\L<H.au)):=λ _=>by
       have:cA a.H L .done (B1 j)=B1 (a.H.set L (.loop .done (B1 j) f k tm d)):=by grind [cA]
       rw[hnn,hj2,ze,this];refine⟨B2,rfl,λ b=>W' b\/b=L,fin _ _,bounds,λ h=>(by cases h),λ _=>⟨W',n,j,λ b hb=>.inl hb,.inr rfl,hnV,λ q=>q.elim hnd t,λ b hb=>hb,Z,hj2,y _ _ _ _ w3 (λ b hb=>by rw[ar.aH,qn (by grind)]) (qg _),xb _ _ _,K⟩⟩
      cases n with
      |normal=>exact Z.elim
      |panic _=>exact Z.elim
      |exit _=>exact l True
      |goto _=>exact l True
      |ret=>exact l True)
   exact⟨bb,r,c,hr,k1,k2,k3,k4⟩)
 have t:d≠L:=by omega
 have hdW:¬((m d\/d=L)\/O d):=λ q=>(by grind)
 have u:H'.get d=B1 (.deferred (B1 [])):=by rw[C.ah d (by omega) hdW];exact hgd
 have R:d<H'.au:=(by omega)
 have w:∀(o:bB),Fr (λ b=>m b\/O b) H (H'.set L o):=λ o=>⟨xm (by omega) C.au,λ b hb hw=>by
  have:L=H.au+1:=rfl;rw[ar.aH,qn (by omega),C.ah b (by omega) (by grind),hold b hb]⟩
 refine⟨.ret v,H',hc,?_⟩;rcases hres with⟨V,v1,v2,F,v4,v5,v6,G,J⟩|⟨V,e,j,v1,v2,F,v4,v5,v6,G,J,v9,v10⟩
 .refine ⟨.ready,B5,f,k,tm,d,G,by simp,?_⟩;refine S d V _ (qg _) R (by rw[ar.aH,qn (λ q=>t q.symm)];exact u) (w _) (λ b hb=>⟨(M b (v1 b hb)).1,?_,λ q=>v4 (by rw[<-q];exact v1 b hb)⟩) (loc _ _ _ _ v6 (λ b hb=>by rw[ar.aH,qn (by rintro rfl;exact F hb)]) (qg _))
  grind
 .refine ⟨.done,B1 j,f,k,tm,d,v9,by simp,?_⟩;have he:po (B1 j)=e:=by cases e<;>first|exact v6.elim|(cases G;rfl)
  rw[he];refine D e d V _ v6 (qg _) R (by rw[ar.aH,qn (λ q=>t q.symm)];exact u) (w _) (λ b hb=>⟨(M b (v1 b hb)).1,?_,λ q=>v4 (by rw[<-q];exact v1 b hb)⟩) (y _ _ _ _ J (λ b hb=>by rw[ar.aH,qn (by rintro rfl;exact F hb)]) (qg _))
  grind
def iL.rG{f:Nat}{fn:b9}{k:Nat}{lp:dT}(hf:AP.func f=B1 fn)(hk:nth fn.loops k=B1 lp){ks:List Nat}{ts:List Nat}(hp:lp.params=ts)(A:∀t∈ts,bA t ks=B4){pa pb:Kp×ai}(ha:pa.1.ah=ks/\pa.2=lp.assign)(hb:pb.1.ah=ks/\pb.2=lp.body)
 {E:Env} {D:List aK} {H:ar} {Q:aE} {g:Nat} {pre cap:List AV} {N O:Nat->Prop} {I:Nat->ar->Prop} {H0:ar} {xs:List (List AV)} (mK:rC AP g pre cap N O I H0 xs)
 (P:Nat->(Nat->Prop)->ar->Prop) (h:aS->(Nat->Prop)->ar->Prop) (a:Nat->Prop)
 (hn:H0.au<=H.au) (U:∀b,N b\/O b->b<H0.au/\H.get b=H0.get b /\ ¬a b) (q:∀b,a b->b<H.au) (R:P 0 a H)
 (loc:∀i W H H',P i W H->(∀b,W b->H'.get b=H.get b)->H.au<=H'.au->P i W H') (l:∀e W H H',h e W H->(∀b,W b->H'.get b=H.get b)->H.au<=H'.au->h e W H') (hI:∀i W H,P i W H->I i H)
 (c:∀(L i:Nat)(lr lb:bB)x,xs[i]? = B1 x->H.au<=L -> ∀W' H1,P i W' H1->(∀b,W' b->b<H1.au/\(a b\/H.au<=b))->Fr (λ b=>a b\/O b) H H1 -> ¬W' L->L<H1.au->H1.get L=B1 lr ->
  ∃m,uf ts x E=B1 m/\W AP ⟨B1 L,f⟩ pa B4 (T7 AP ⟨B1 L,f⟩ pb L lr lb (M9 (P (i+1)) h L lb W' H1)) m [] H1)
 (F:∀d W' H',H.au<=d->d<H'.au->H'.get d=B1 (.deferred (B1 []))->Fr (λ b=>a b\/O b) H H'->(∀b,W' b->b<H'.au/\(a b\/H.au<=b)/\b≠d)->P xs.length W' H'->Q .normal E (.im d::D) H')
 (z:∀e d W' H',fI e->H.au<=d->d<H'.au->H'.get d=B1 (.deferred (B1 []))->Fr (λ b=>a b\/O b) H H'->(∀b,W' b->b<H'.au/\(a b\/H.au<=b)/\b≠d)->h e W' H'->Q e E (.im d::D) H') :
 iL AP ks ⟨B5,f⟩ k E D H Q (.fn (.func g) pre cap):=by
 intro tm up he;refine xg8 hf hk mK P h a hn U q R loc l hI ?_ (by grind) (by grind);intro L d i x hx T W' H1 V X s y p w;have⟨m,o,hw⟩:=c L i (.loop .ready B5 f k tm d) (.loop .busy B5 f k tm d) x hx T W' H1 V X s y p w;have⟨C,Y,r⟩:=Rh he A o;refine⟨C,by grind,?_⟩;rw[jY]at hw;have:=W3.wp _ _ (qg _) (up:=B5) hw (by rw[ha.1];exact r);rw[ha.2]at this;refine oE this λ e cQ⟨B,K,n,G⟩=>?_;cases e with
 |normal =>
  have⟨hg,j⟩:=G;refine⟨rfl,hg,?_⟩;rw[jY]at j;have:=W3.wp _ _ (qg _) (up:=B5) j (show fy pb.1.ah K cQ.tm by rw[hb.1,<-ha.1];exact n);rw[hb.2]at this;rw[B];refine oE this λ e2 st2⟨J,E2,S,Z,u,M,k1,k2,k3⟩=>⟨Z,u,M,k1,k2,k3⟩
 |_=>exact G.elim
end
end Go.Am
namespace Go.Am
def Wa{α:Type}{L E:List α}{p size:Nat}(b:E.length=size)(hp:p+size<=L.length)(h:∀r,r<size->L[p+r]? = E[r]?):L=L.take p++(E++L.drop (p+size)):=by
 have a:(L.drop p).take size=E:=by
  refine j0 λ r=>?_
  grind
 grind [FU,wo]
def zW{α:Type}{L E cs:List α}{p size j n:Nat}(d:E.length=size)(i:cs.length=n)(k:j+n<=size)(hp:p+size<=L.length)(h:∀r,r<size->L[p+r]? = E[r]?) :
 L.take (p+j)++cs++L.drop (p+j+n)=L.take p++((E.take j++cs++E.drop (j+n))++L.drop (p+size)):=by
 obtain⟨A,a⟩:∃A,A=L.take p:=⟨_,rfl⟩
 obtain⟨B,b⟩:∃B,B=L.drop (p+size):=⟨_,rfl⟩
 have hl:A.length=p:=by grind
 have c:=Wa d hp h;rw[<-a,<-b]at c;rw[<-a,<-b];have f:L.take (p+j)=A++E.take j:=by
  grind
 have g:L.drop (p+j+n)=E.drop (j+n)++B:=by
  rw[c,vp,hl,jd (by omega),jh,show p+j+n-p=j+n by omega,List.drop_append_of_le_length (by omega)]
 grind
section
variable{α:Type}{enc:α->List AV}{size:Nat}{H:ar}{v:AV}{xs:List α}
theorem Z8(hs:∀x,(enc x).length=size){i:Nat}{x y:α}(a:xs[i]? = B1 x){j n:Nat}{cs:List AV}(b:cs.length=n)(d:j+n<=size)(f:enc y=(enc x).take j++cs++(enc x).drop (j+n)) :
 (xs.flatMap enc).take (i*size+j)++cs++(xs.flatMap enc).drop (i*size+j+n)=(xs.set i y).flatMap enc:=by
 have c:=Gc a;have hb:(i+1)*size<=xs.length*size:=jy _ c;rw[vq]at hb;have hl:=DA hs xs;rw[zW (E:=enc x) (size:=size) (hs x) b d (by omega) (by grind [FD]),<-f,OQ hs xs a]
 grind
def fU.C5{e:Nat}(hs:∀x,(enc x).length=size)(h:fU enc e size H v xs){i:Nat}{x y:α}(k:xs[i]? = B1 x){j n:Nat}{u:AV}(hu:u.cells.length=n)(ho:aP u.cells=B4)(l:j+n<=size)(m:enc y=(enc x).take j++u.cells++(enc x).drop (j+n)) :
 ∃H',Op.store n [.ptr (aG v) (cw size v i+j),u] H=B1 (.undef,H')/\fU enc e size H' v (xs.set i y)/\Fr (On (aG v)) H H':=by
 obtain⟨b,rfl,d,f⟩:=h;have g:=Gc k;have hl:=DA hs xs;have hb:(i+1)*size<=xs.length*size:=jy _ g;rw[vq]at hb;have c:=ta f (o:=i*size+j) (n:=n) (v:=u) hu (by omega) ho;have a:cw size (AV.slice b 0 xs.length xs.length) i=i*size:=by simp[cw]
 rw[a];refine⟨_,c,⟨b,?_,d,?_⟩,(Fr.refl H).set (W:=On b) (.inl rfl) _⟩
 .grind
 grind [xb,Z8]
def fU.M5{e:Nat}(hs:∀x,(enc x).length=size)(ho:∀x,aP (enc x)=B4)(h:fU enc e size H v xs){i:Nat}{x:α}(a:xs[i]? = B1 x)(y:α) :
 ∃H',Op.store size [.ptr (aG v) (cw size v i),.agg (enc y)] H=B1 (.undef,H')/\fU enc e size H' v (xs.set i y)/\Fr (On (aG v)) H H':=by
 have:=h.C5 hs a (y:=y) (j:=0) (n:=size) (u:=.agg (enc y)) (by grind [zb]) (by grind [zb]) (by omega) (by
  rw[zb,yn,jh,jd (by rw[hs];omega),zu])
 omega
end
end Go.Am
