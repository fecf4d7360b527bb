import Derived.Test.YtgjdmncoonceaaaGreatDoorAmFZd
import Derived.Test.YtgjdmncoonceaaaGreatDoorAmFZa
import Derived.KernelRfl
import Derived.Test.YtgjdmncoonceaaaGreatDoorRows
set_option linter.unusedVariables false
set_option linter.unusedSimpArgs false
set_option linter.defProp false
set_option maxRecDepth 100000
set_option maxHeartbeats 1000000
open And renaming intro→GF
open Bool renaming rec→Ob,false→B2,true→B4
open Go renaming Oper→QI,Operand→MS,Program→JL,TypeId→M8
open Int renaming reduceNegSucc→QY,reduceOfNat→A4
open List renaming range→MT,rec→A5
open Nat renaming beq→I6,ble→Oa
open Option renaming rec→RD,none→B5,some→B1
namespace Go.Am
noncomputable section
def PR:Type:=Prop
abbrev WR:=Bool->aG->Env->List aK->ar->PR
abbrev KQ:=Bool->Env->Env->ar->PR
def Gs(m:Bool)(o:Option (bD×(Nat->AV)))(H:ar)(K:Bool->AV->ar->Prop):Prop:=iW m o λ g o mk=>K g (mk H.au) (H.alloc o)
def nG{α:Type}:Bool->Option α->(Bool -> α->PR)->PR:=@B3 α
def gF{α β:Type}:Bool->Option (α×β)->(Bool -> α -> β->PR)->PR:=@iW α β
def fP:Bool->AV->(Bool->PR)->(Bool->PR)->PR:=mS
def gG:Bool->Bool->(Bool->PR)->(Bool->PR)->PR:=ua
def iF:Bool->Option AV->Option AV->(Bool->PR)->PR:=N9
def gI:Bool->Option (bD×(Nat->AV))->ar->(Bool->AV->ar->PR)->PR:=Gs
def oK:ak->Bool->mD->List AV->ar->(Bool->AV->ar->PR)->PR:=C3
def yQ:ak->Bool->(aF->ar->PR)->mD->List AV->ar->(Bool->AV->ar->PR)->PR:=P3
def qD:Bool->List AV->(Bool->mD->List AV->PR)->PR:=V3
def vO:ak->Bool->String->List AV->(Bool->mD->List AV->PR)->PR:=N3
def wM:Option (List Nat)->List Nat->aG->Env->List aK->aF->ar->PR:=PX
def zI:List AV->ar->(aF->ar->PR)->PR:=gD
def fX{α:Type}:(α->PR) -> α->PR:=@JN α
def mI:Bool->aG->aW->Env->List aK->ar->PR:=rD
def om{α:Type}:Bool->Option α->(Bool -> α->PR)->PR:=@LK α
def rW:ak->Ctx->Kp×ai->WR:=W
def qI:WR->aG->Env->List aK->ar->PR:=da
def sF:ak->List Nat->Ctx->Nat->Env->List aK->ar->aG->AV->PR:=iI
def nR:WR->aG->aG:=fj
def rX:PR:=False
def nV:Env->Nat->Option AV:=lk
section
variable(M:ak)
def WW(E L R:Env)(t:Nat)(g:Bool)(K:Bool->Env->AV->PR):PR :=
 RD (motive:=λ _=>PR) (RD (motive:=λ _=>PR) (om g (nV E t) λ g v=>K g ((t,v)::R) v) (λ v=>K g R v) (lk R t)) (λ v=>K g R v) (lk L t)
def tEV(E L:Env)(l:List bK):Bool->Env->(Bool->Env->List AV->PR)->PR:=A5 (motive:=λ _=>Bool->Env->(Bool->Env->List AV->PR)->PR) (λ g R K=>K g R [])
 (λ x _ ih g R K=>bK.casesOn x (λ t=>WW E L R t g λ g R v=>ih g R λ g R vs=>K g R (v::vs)) (λ v=>ih g R λ g R vs=>K g R (v::vs)) (λ b=>ih g R λ g R vs=>K g R (.ptr b 0::vs)) (λ f=>ih g R λ g R vs=>K g R (.fn (.func f) [] []::vs))) l
def Zp(dg:Bool)(ps:Option (List Nat))(L:Env)(Q:aG)(E:Env)(D:List aK)(g:Bool)(f:mD)(vs:List AV)(H:ar)(K:Bool->AV->ar->PR):PR :=
 cond dg (yQ M g (wM ps (lT L) Q E D) f vs H K) (oK M g f vs H K)
def tOP(dg:Bool)(dst:Option Nat)(ps:Option (List Nat))(Q:aG)(E:Env)(D:List aK)(L R:Env)(H:ar)(K:KQ)(g:Bool)(vs:List AV):fG->PR
 | .pure f=>nG g (f vs) λ g v=>K g (lK dst v L) R H
 | .read f=>nG g (f vs H) λ g v=>K g (lK dst v L) R H
 | .alloc f=>gI g (f vs) H λ g v H=>K g (lK dst v L) R H
 | .gT f=>gF g (f vs H) λ g v H=>K g (lK dst v L) R H
 | .hJ f=>Zp M dg ps L Q E D g (.func f) vs H (λ g v H=>K g (lK dst v L) R H)
 | .ic=>qD g vs λ g f vs=>Zp M dg ps L Q E D g f vs H (λ g v H=>K g (lK dst v L) R H)
 | .invoke name=>vO M g name vs λ g f vs=>Zp M dg ps L Q E D g f vs H (λ g v H=>K g (lK dst v L) R H)
 | .panic=>cond dg (zI vs H (wM ps (lT L) Q E D)) rX
 |_=>rX
def tCK(dst:Option Nat)(E L R:Env)(H:ar)(K:KQ)(g:Bool)(vs:List AV):fG->PR
 | .read f=>match dst with
  |some d=>iF g (f vs H) (RD (motive:=λ _=>Option AV) (nV E d) (λ v=>B1 v) (lk L d)) λ g=>K g L R H
  |none=>rX
 |_=>rX
def tST(dg:Bool)(s:aN)(Q:aG)(E:Env)(D:List aK)(K:KQ):KQ:=λ g L R H =>
 tEV E L s.args g R λ g R vs=>match s.ik with
  |false=>tOP M dg s.dst s.cI Q E D L R H K g vs s.op
  |true=>tCK s.dst E L R H K g vs s.op
def tSS(dg:Bool)(Q:aG)(E:Env)(D:List aK)(K:KQ)(l:List aN):KQ:=A5 (motive:=λ _=>KQ) K (λ s _ ih=>tST M dg s Q E D ih) l
def rV(n:Nat):Type:=Nat.rec (motive:=λ _=>Type) (ar->PR) (λ _ T=>AV->T) n
def Vu:(n:Nat)->((Bool->rV n)->PR)->(Bool->rV n)->PR
 |0=>λ F K=>fX (α:=Bool->ar->PR) (λ k=>F k) K
 |1=>λ F K=>fX (α:=Bool->AV->ar->PR) (λ k=>F k) K
 |2=>λ F K=>fX (α:=Bool->AV->AV->ar->PR) (λ k=>F k) K
 |3=>λ F K=>fX (α:=Bool->AV->AV->AV->ar->PR) (λ k=>F k) K
 |4=>λ F K=>fX (α:=Bool->AV->AV->AV->AV->ar->PR) (λ k=>F k) K
 |5=>λ F K=>fX (α:=Bool->AV->AV->AV->AV->AV->ar->PR) (λ k=>F k) K
 |6=>λ F K=>fX (α:=Bool->AV->AV->AV->AV->AV->AV->ar->PR) (λ k=>F k) K
 |7=>λ F K=>fX (α:=Bool->AV->AV->AV->AV->AV->AV->AV->ar->PR) (λ k=>F k) K
 |8=>λ F K=>fX (α:=Bool->AV->AV->AV->AV->AV->AV->AV->AV->ar->PR) (λ k=>F k) K
 |9=>λ F K=>fX (α:=Bool->AV->AV->AV->AV->AV->AV->AV->AV->AV->ar->PR) (λ k=>F k) K
 |10=>λ F K=>fX (α:=Bool->AV->AV->AV->AV->AV->AV->AV->AV->AV->AV->ar->PR) (λ k=>F k) K
 |11=>λ F K=>fX (α:=Bool->AV->AV->AV->AV->AV->AV->AV->AV->AV->AV->AV->ar->PR) (λ k=>F k) K
 |12=>λ F K=>fX (α:=Bool->AV->AV->AV->AV->AV->AV->AV->AV->AV->AV->AV->AV->ar->PR) (λ k=>F k) K
 |13=>λ F K=>fX (α:=Bool->AV->AV->AV->AV->AV->AV->AV->AV->AV->AV->AV->AV->AV->ar->PR) (λ k=>F k) K
 |14=>λ F K=>fX (α:=Bool->AV->AV->AV->AV->AV->AV->AV->AV->AV->AV->AV->AV->AV->AV->ar->PR) (λ k=>F k) K
 |15=>λ F K=>fX (α:=Bool->AV->AV->AV->AV->AV->AV->AV->AV->AV->AV->AV->AV->AV->AV->AV->ar->PR) (λ k=>F k) K
 |16=>λ F K=>fX (α:=Bool->AV->AV->AV->AV->AV->AV->AV->AV->AV->AV->AV->AV->AV->AV->AV->AV->ar->PR) (λ k=>F k) K
 |17=>λ F K=>fX (α:=Bool->AV->AV->AV->AV->AV->AV->AV->AV->AV->AV->AV->AV->AV->AV->AV->AV->AV->ar->PR) (λ k=>F k) K
 |18=>λ F K=>fX (α:=Bool->AV->AV->AV->AV->AV->AV->AV->AV->AV->AV->AV->AV->AV->AV->AV->AV->AV->AV->ar->PR) (λ k=>F k) K
 |19=>λ F K=>fX (α:=Bool->AV->AV->AV->AV->AV->AV->AV->AV->AV->AV->AV->AV->AV->AV->AV->AV->AV->AV->AV->ar->PR) (λ k=>F k) K
 |20=>λ F K=>fX (α:=Bool->AV->AV->AV->AV->AV->AV->AV->AV->AV->AV->AV->AV->AV->AV->AV->AV->AV->AV->AV->AV->ar->PR) (λ k=>F k) K
 |21=>λ F K=>fX (α:=Bool->AV->AV->AV->AV->AV->AV->AV->AV->AV->AV->AV->AV->AV->AV->AV->AV->AV->AV->AV->AV->AV->ar->PR) (λ k=>F k) K
 |22=>λ F K=>fX (α:=Bool->AV->AV->AV->AV->AV->AV->AV->AV->AV->AV->AV->AV->AV->AV->AV->AV->AV->AV->AV->AV->AV->AV->ar->PR) (λ k=>F k) K
 |23=>λ F K=>fX (α:=Bool->AV->AV->AV->AV->AV->AV->AV->AV->AV->AV->AV->AV->AV->AV->AV->AV->AV->AV->AV->AV->AV->AV->AV->ar->PR) (λ k=>F k) K
 |24=>λ F K=>fX (α:=Bool->AV->AV->AV->AV->AV->AV->AV->AV->AV->AV->AV->AV->AV->AV->AV->AV->AV->AV->AV->AV->AV->AV->AV->AV->ar->PR) (λ k=>F k) K
 |25=>λ F K=>fX (α:=Bool->AV->AV->AV->AV->AV->AV->AV->AV->AV->AV->AV->AV->AV->AV->AV->AV->AV->AV->AV->AV->AV->AV->AV->AV->AV->ar->PR) (λ k=>F k) K
 |26=>λ F K=>fX (α:=Bool->AV->AV->AV->AV->AV->AV->AV->AV->AV->AV->AV->AV->AV->AV->AV->AV->AV->AV->AV->AV->AV->AV->AV->AV->AV->AV->ar->PR) (λ k=>F k) K
 |27=>λ F K=>fX (α:=Bool->AV->AV->AV->AV->AV->AV->AV->AV->AV->AV->AV->AV->AV->AV->AV->AV->AV->AV->AV->AV->AV->AV->AV->AV->AV->AV->AV->ar->PR) (λ k=>F k) K
 |28=>λ F K=>fX (α:=Bool->AV->AV->AV->AV->AV->AV->AV->AV->AV->AV->AV->AV->AV->AV->AV->AV->AV->AV->AV->AV->AV->AV->AV->AV->AV->AV->AV->AV->ar->PR) (λ k=>F k) K
 |_+29=>λ F K=>fX F K
def LA:∀(n:Nat)(F:(Bool->rV n)->PR)(K:Bool->rV n),Vu n F K=fX F K:=λ n=>by
 unfold Vu;split<;>exact λ F K=>rfl
def Wi(n:Nat):(List AV->ar->PR)->rV n:=Nat.rec (motive:=λ n=>(List AV->ar->PR)->rV n) (λ f=>f []) (λ _ ih f v=>ih λ l=>f (v::l)) n
def Ou(n:Nat):rV n->List AV->ar->PR:=Nat.rec (motive:=λ n=>rV n->List AV->ar->PR) (λ k _=>k) (λ _ ih k l=>List.casesOn (motive:=λ _=>ar->PR) l (λ _=>rX) λ v l=>ih (k v) l) n
def UQ(dg:Bool)(Q:aG)(E:Env)(D:List aK)(x:Fx)(K:KQ):KQ:=λ g L R H=>match x.1 with
 |none=>tSS M dg Q E D K x.2 g L R H
 |some q=>cond (vP q.1 x.2) (WW E L R q.1 g λ g R v=>Vu (cW (bq x.2 []))
  (λ k=>nG g (cP q.2 (B1 v)) λ g w=>gG g w (λ g=>tSS M dg Q E D (λ g L _ H=>Ou (cW (bq x.2 [])) (k g) (rp (cW (bq x.2 [])) L) H) x.2 g L R H) (λ g=>Ou (cW (bq x.2 [])) (k g) (rU (cW (bq x.2 []))) H))
  (λ g=>Wi (cW (bq x.2 [])) λ vs H=>K g (kZ (bq x.2 []) L vs) R H)) rX
def QW(dg:Bool)(Q:aG)(E:Env)(D:List aK)(l:List aN)(g:Bool)(H:ar)(K:KQ):PR:=A5 (motive:=λ _=>KQ) K (λ x _ ih=>UQ M dg Q E D x ih) (I3 l) g [] [] H
def tOV(E:Env)(x:bK)(g:Bool)(K:Bool->AV->PR):PR:=match x with
 | .tmp t=>om g (nV E t) K
 | .const v=>K g v
 | .eG b=>K g (.ptr b 0)
 | .func f=>K g (.fn (.func f) [] [])
def m0(E L R:Env)(x:bK)(g:Bool)(K:Bool->AV->PR):PR:=match x with
 | .tmp t=>WW E L R t g λ g _ v=>K g v
 | .const v=>K g v
 | .eG b=>K g (.ptr b 0)
 | .func f=>K g (.fn (.func f) [] [])
def tU(rg:Bool->aG->Env->List aK->List aN->Bool->ar->KQ->PR)(ctx:Ctx)(K:Kp)(X:Nat->WR):ai->Nat->WR
 | .skip,_,g,Q,E,D,H=>mI g Q .normal E D H
 | .label _,_,g,Q,E,D,H=>mI g Q .normal E D H
 | .exit id,_,g,Q,E,D,H=>mI g Q (.exit id) E D H
 | .goto l,_,g,Q,E,D,H=>mI g Q (.goto l) E D H
 | .ret,_,g,Q,E,D,H=>mI g Q .ret E D H
 | .stuck,_,_,_,_,_,_=>rX
 | .region l,_,g,Q,E,D,H=>rg K.dg Q E D l g H λ g L _ H=>mI g Q .normal (dG K.ah E L) D H
 | .seq a b,k,g,Q,E,D,H=>match a,b with
  | .region l,.cond c x y=>rg K.dg Q E D l g H λ g L R H=>m0 E L R c g λ g v=>fP g v (λ g=>(Ob (motive:=λ _=>WR) (tU rg ctx K X x (k+3)) (X (k+3)) (bF (k+3) K.named)) g Q (dG K.ah E L) D H) (λ g=>(Ob (motive:=λ _=>WR) (tU rg ctx K X y (k+3+dy x)) (X (k+3+dy x)) (bF (k+3+dy x) K.named)) g Q (dG K.ah E L) D H)
  | .region l,.seq (.cond c x y) r=>rg K.dg Q E D l g H λ g L R H=>m0 E L R c g λ g v=>fP g v (λ g=>(Ob (motive:=λ _=>WR) (tU rg ctx K X x (k+4)) (X (k+4)) (bF (k+4) K.named)) g (nR (Ob (motive:=λ _=>WR) (tU rg ctx K X r (k+4+dy x+dy y)) (X (k+4+dy x+dy y)) (bF (k+4+dy x+dy y) K.named)) Q) (dG K.ah E L) D H)
   (λ g=>(Ob (motive:=λ _=>WR) (tU rg ctx K X y (k+4+dy x)) (X (k+4+dy x)) (bF (k+4+dy x) K.named)) g (nR (Ob (motive:=λ _=>WR) (tU rg ctx K X r (k+4+dy x+dy y)) (X (k+4+dy x+dy y)) (bF (k+4+dy x+dy y) K.named)) Q) (dG K.ah E L) D H)
  | .region l,b=>rg K.dg Q E D l g H λ g L _ H=>(Ob (motive:=λ _=>WR) (tU rg ctx K X b (k+2)) (X (k+2)) (bF (k+2) K.named)) g Q (dG K.ah E L) D H
  |a,b=>(Ob (motive:=λ _=>WR) (tU rg ctx K X a (k+1)) (X (k+1)) (bF (k+1) K.named)) g (nR (Ob (motive:=λ _=>WR) (tU rg ctx K X b (k+1+dy a)) (X (k+1+dy a)) (bF (k+1+dy a) K.named)) Q) E D H
 | .cond c x y,k,g,Q,E,D,H=>tOV E c g λ g v=>fP g v (λ g=>(Ob (motive:=λ _=>WR) (tU rg ctx K X x (k+1)) (X (k+1)) (bF (k+1) K.named)) g Q E D H) (λ g=>(Ob (motive:=λ _=>WR) (tU rg ctx K X y (k+1+dy x)) (X (k+1+dy x)) (bF (k+1+dy x) K.named)) g Q E D H)
 | .block id b,k,g,Q,E,D,H=>(Ob (motive:=λ _=>WR) (tU rg ctx K X b (k+1)) (X (k+1)) (bF (k+1) K.named)) g (eS id Q) E D H
 | .scope b,k,g,Q,E,D,H=>(Ob (motive:=λ _=>WR) (tU rg ctx K X b (k+1)) (X (k+1)) (bF (k+1) K.named)) g (jU b Q) E D H
 | .loop (B1 _) _,_,_,_,_,_,_=>rX
 | .loop B5 b,k,g,Q,E,D,H=>qI (Ob (motive:=λ _=>WR) (tU rg ctx K X b (k+1)) (X (k+1)) (bF (k+1) K.named)) Q E D H
 | .rangeFunc f n,_,g,Q,E,D,H=>tOV E f g λ g v=>sF M K.ah ctx n E D H Q v
end
def Mv(M:ak):UQ M=Ti M:=by
 funext dg Q E D ⟨o,l⟩ K g L R H;cases o with
 |none=>kernel_rfl
 |some q =>
  unfold UQ;simp only[LA]
  kernel_rfl
def Mt(M:ak):QW M=rJ M:=by
 funext dg Q E D l g H K;unfold QW rJ xM;rw[Mv];rfl
def KU(M:ak)(c:Ctx)(K:Kp)(X:Nat->WX):tU M (rJ M) c K X=U M c K X:=by kernel_rfl
def PF(M:ak)(c:Ctx)(K:Kp)(X:Nat->WX):tU M (QW M) c K X=U M c K X:=by rw[Mt];exact KU M c K X
abbrev Hs:=List (Nat×List Nat)
def XY(n:Nat)(l:Hs):Option (List Nat):=A5 (motive:=λ _=>Option (List Nat)) B5 (λ p _ ih=>cond (I6 p.1 n) (B1 p.2) ih) l
def Bz(P:JL):Nat->M8->Option aS
 |0,_=>B5
 |d+1,t=>match P.underlying t with
  |some (.struct fs)=>dB.fieldsT P (Bz P d) fs.toList
  |some (.array n e)=>(bQ P e).bind λ s=>(og P e).bind λ a=>(Bz P d e).bind λ q=>B1 (dB.itemsT s a q n 0)
  |_=>dB P 1 t
def R3(P:JL)(t:M8)(neg:Bool)(x y:MS):Option (List bK×fG):=(Bz P 20 t).bind λ q=>(nP P.globals.size [x,y]).bind λ l=>B1 (l,.read (Op.eq (.agg q) neg))
def LD(P:JL)(o:QI):Option (List bK×fG):=match o.op with
 | .binOp op t x y _=>match P.underlying t,op with
  |some (.struct _),.eql=>R3 P t B2 x y
  |some (.struct _),.neq=>R3 P t B4 x y
  |some (.array _ _),.eql=>R3 P t B2 x y
  |some (.array _ _),.neq=>R3 P t B4 x y
  |_,_=>gA P o
 |_=>gA P o
def Rl(P:JL)(ops:Array QI)(draw:Bool)(h:Option (List Nat)):Option ai :=
 (dt (ops.toList.map (LD P))).bind λ l =>
  (dt ((RD (motive:=λ _=>List (Bool×Nat)) ((MT ops.size).map λ i=>(B2,i)) (λ l=>l.map λ x=>(I6 (x % 2) 1,x / 2)) h).map (i9 ops l λ i=>Ob (motive:=λ _=>Option (List Nat)) (B1 []) (N1 ops (aV ops l) (mU (aV ops l).cls (aV ops l).gw ops.size (2*ops.size) 0 []) i) draw))).bind λ steps=>B1 (.region steps)
def jE(P:JL)(hs:Hs):Nat->Code->Option (ai×List dV)
 |_,.skip=>B1 (.skip,[])
 |_,.region r ops draw=>(Rl P ops draw (Ob B5 (XY r hs) draw)).bind λ c=>B1 (c,[])
 |k,.seq a b=>(jE P hs k a).bind λ a=>(jE P hs (k+a.2.length) b).bind λ b=>B1 (.seq a.1 b.1,a.2++b.2)
 |k,.cond c a b=>(qH P.globals.size c).bind λ c=>(jE P hs k a).bind λ a=>(jE P hs (k+a.2.length) b).bind λ b=>B1 (.cond c a.1 b.1,a.2++b.2)
 |k,.block id b=>(jE P hs k b).bind λ b=>B1 (.block id b.1,b.2)
 |k,.loop b=>(jE P hs k b).bind λ b=>B1 (.loop B5 b.1,b.2)
 |k,.rangeFunc f ps a b=>(qH P.globals.size f).bind λ f=>(jE P hs (k+1) a).bind λ a=>(jE P hs (k+1+a.2.length) b).bind λ b=>B1 (.rangeFunc f k,{params:=ps.toList,assign:=a.1,body:=b.1}::(a.2++b.2))
 |_,.exit id=>B1 (.exit id,[])
 |k,.scope b=>(jE P hs k b).bind λ b=>B1 (.scope b.1,b.2)
 |_,.label l=>B1 (.label l,[])
 |_,.goto l=>B1 (.goto l,[])
 |_,.ret=>B1 (.ret,[])
 |_,.refuse _=>B1 (.stuck,[])
def EG(n:Nat)(b:ai)(l:List dV):ai:=Ob (motive:=λ _=>ai)
 (Ob (motive:=λ _=>ai) (Ob (motive:=λ _=>ai)
 (RD (motive:=λ _=>ai) .stuck (λ q=>Ob (motive:=λ _=>ai) q.body q.assign (I6 (n / 100000 % 2) 1)) (nth l (n / 100000 / 2-1))) (Ah b) (I6 (n / 100000) 1)) (vZ b) (I6 (n / 100000) 99)) b (Oa n 99999)
def aZ(P:JL)(n:Nat):ai:=EG n (funcAt P (n % 100000)).body (funcAt P (n % 100000)).loops
def Jx(P:JL)(hs:Hs)(n:Nat):ai:=RD (motive:=λ _=>ai) .stuck (λ f=>RD (motive:=λ _=>ai) .stuck (λ b=>RD (motive:=λ _=>ai) .stuck (λ c=>EG n c.1 c.2) (jE P hs 0 b)) f.body) (P.funcs[n % 100000]?)
abbrev RL:=List (aG->Env->List aK->ar->PR)
abbrev QL:=List (aG->Env->List aK->ar->Prop)
def uG(M:ak)(c:Ctx)(p:Nat->Kp×ai):List Nat->QL->Prop
 |k::ks,R::l=>(∀Q E D H,W M c (p k) B4 Q E D H=R Q E D H)/\uG M c p ks l
 |_,_=>True
def Al(M:ak)(c:Ctx)(p:Nat->Kp×ai)(k a:Nat)(ks:List Nat)(R:aG->Env->List aK->ar->Prop)(l:QL):uG M c p (k::a::ks) (R::l)=((∀Q E D H,W M c (p k) B4 Q E D H=R Q E D H)/\uG M c p (a::ks) l):=rfl
def An(M:ak)(c:Ctx)(p:Nat->Kp×ai)(k:Nat)(R:aG->Env->List aK->ar->Prop):uG M c p [k] [R] = ∀Q E D H,W M c (p k) B4 Q E D H=R Q E D H:=propext ⟨λ h=>h.1,λ h=>⟨h,trivial⟩⟩
def tW(M:ak)(c:Ctx)(K:Kp)(p:Nat->Kp×ai)(r:ai)(ks:List Nat):RL :=
 A5 (motive:=λ _=>RL) [] (λ k _ ih=>(λ Q E D H=>tU M (QW M) c K (λ j=>rW M c (p j)) (part r k) k B4 Q E D H)::ih) ks
def PV{P:JL}{p:Nat->Nat->Kp×ai}{a:Nat->Kp}(hp:∀n k,p n k=(a n,part (aZ P n) k))(M:ak)(c:Ctx)(n:Nat):∀ks:List Nat,uG M c (p n) ks (tW M c (a n) (p n) (aZ P n) ks)
 |[]=>trivial
 |k::ks=>⟨λ Q E D H=>by
  have e:(λ j=>W M c (p n j))=λ j=>W M c (a n,part (aZ P n) j):=funext λ j=>by rw[hp]
  show _=tU M (QW M) c (a n) (λ j=>W M c (p n j)) (part (aZ P n) k) k B4 Q E D H;rw[hp n k,e,PF];exact A6 rfl,PV hp M c n ks⟩
def af0(o:bD)(mk:Nat->AV)(H:ar)(K:Bool->AV->ar->Prop):Gs B4 (B1 (o,mk)) H K=K B4 (mk H.au) (H.alloc o):=propext jx
def xi6(e:Nat)(z:List AV)(H:ar)(K:Bool->AV->ar->Prop):Gs B4 (Op.alloc e z []) H K=K B4 (.ptr H.au 0) (H.alloc (.row z e (0,0) B4)):=propext jx
def GA(e:Nat)(v:AV)(H:ar)(K:Bool->AV->ar->Prop):Gs B4 (Op.box e [v]) H K=K B4 (.ptr H.au 0) (H.alloc (.row v.cells e (0,0) B4)):=propext jx
@[congr]def aa7{m a:Bool}{o o':Option (bD×(Nat->AV))}{H H':ar}{K:Bool->AV->ar->Prop}(hm:m=a)(h:o=o')(b:H=H'):Gs m o H K=Gs a o' H' K:=by subst hm;subst h;subst b;rfl
abbrev tO:=List (Nat×Kp×Hs)
def jH(n:Nat)(l:tO):Kp:=A5 (motive:=λ _=>Kp) ⟨[],B2,[]⟩ (λ p _ ih=>cond (I6 p.1 n) p.2.1 ih) l
def CU(M:ak)(c:Ctx)(p:Nat->Nat->Kp×ai):tO->List QL->Prop
 |x::r,l::ls=>uG M c (p x.1) x.2.1.named l/\CU M c p r ls
 |_,_=>True
def zT(M:ak)(c:Ctx)(p:Nat->Nat->Kp×ai)(n:Nat)(ks a:List Nat)(b:Bool)(hs:Hs)(y:Nat×Kp×Hs)(r:tO)(l:QL)(ls:List QL):CU M c p ((n,⟨a,b,ks⟩,hs)::y::r) (l::ls)=(uG M c (p n) ks l/\CU M c p (y::r) ls):=rfl
def Ae(M:ak)(c:Ctx)(p:Nat->Nat->Kp×ai)(n:Nat)(ks a:List Nat)(b:Bool)(hs:Hs)(l:QL):CU M c p [(n,⟨a,b,ks⟩,hs)] [l]=uG M c (p n) ks l:=propext ⟨λ h=>h.1,λ h=>⟨h,trivial⟩⟩
def tF(M:ak)(c:Ctx)(Kt:Nat->Kp)(p:Nat->Nat->Kp×ai)(r:Nat->Hs->ai)(l:tO):List RL:=A5 (motive:=λ _=>List RL) [] (λ x _ ih=>tW M c (Kt x.1) (p x.1) (r x.1 x.2.2) x.2.1.named::ih) l
def oO{P:JL}{p:Nat->Nat->Kp×ai}{a:Nat->Kp}(hp:∀n k,p n k=(a n,part (aZ P n) k))(M:ak)(c:Ctx)(l:tO)(e:tF M c a p (λ n _=>aZ P n) l=tF M c a p (λ n h=>Jx P h n) l):CU M c p l (tF M c a p (λ n h=>Jx P h n) l):=by
 rw[<-e];clear e
 induction l with
 |nil=>trivial
 |cons x l ih=>exact⟨PV hp M c x.1 _,ih⟩
def ZH:eh->eh->Bool
 | .tmp a,.tmp b=>I6 a b
 | .kK a,.kK b=>I6 a b
 | .cR a b,.cR c d=>cond (I6 a c) (I6 b d) B2
 |_,_=>B2
def Q8{a b:eh}(h:ZH a b=B4):a=b:=by
 cases a with
 |tmp a=>cases b with
  |tmp b=>rw[KZ h]
  |_=>cases h
 |kK a=>cases b with
  |kK b=>rw[KZ h]
  |_=>cases h
 |cR a x=>cases b with
  |cR b y =>
   have h:cond (I6 a b) (I6 x y) B2=true:=h;cases q:I6 a b with
   |true=>rw[q]at h;rw[KZ q,KZ h]
   |false=>rw[q]at h;cases h
  |_=>cases h
def ID:List eh->List eh->Bool
 |[],[]=>B4
 |a::x,b::y=>cond (ZH a b) (ID x y) B2
 |_,_=>B2
def Cl:∀{a b:List eh},ID a b=B4->a=b
 |[],[],_=>rfl
 |a::x,b::y,h=>by
  unfold ID at h;cases q:ZH a b with
  |true=>rw[q]at h;rw[Q8 q,Cl h]
  |false=>rw[q]at h;cases h
def YA(P:JL)(tn:List Nat)(K:Kp)(n:Nat)(rs:List eh)(k:Nat):Bool:=cond (Oa n 99999) (cond (bF n tn) B2 (cond (jP 0 k K.ah) (RD (motive:=λ _=>Bool) B2 (λ F=>ID F.results rs) ((aX P).func n)) B2)) B2
def Qx{P:JL}{c:List Nat}{K:Kp}{n:Nat}{rs:List eh}{k:Nat}(h:YA P c K n rs k=B4):Oa n 99999=B4/\bF n c=B2/\jP 0 k K.ah=B4/\(aX P).func n=B1 (funcAt P n)/\(funcAt P n).results=rs:=by
 unfold YA at h;cases a:Oa n 99999 with
 |false=>rw[a]at h;cases h
 |true =>
 cases b:bF n c with
 |true=>rw[a,b]at h;cases h
 |false =>
 cases d:jP 0 k K.ah with
 |false=>rw[a,b,d]at h;cases h
 |true =>
 rw[a,b,d]at h;unfold funcAt;cases f:(aX P).func n with
 |none=>rw[f]at h;cases h
 |some F=>rw[f]at h;exact⟨rfl,rfl,rfl,rfl,Cl h⟩
def ae8{P:JL}{n:Nat}(h:Oa n 99999=B4):aZ P n=(funcAt P n).body:=by
 unfold aZ EG;rw[h,Nat.mod_eq_of_lt (Nat.lt_of_le_of_lt (Nat.le_of_ble_eq_true h) (by decide))]
def Ki(i:Nat)(v:AV)(vs:List AV):kC i (v::vs)=(i,v)::kC (i+1) vs:=rfl
def MN(i:Nat):kC i []=[]:=rfl
def aa:type_of% Px/\(∀(o:bD)mk H K,Gs B4 (B1 (o,mk)) H K=K B4 (mk H.au) (H.alloc o))/\(∀e z H K,Gs B4 (Op.alloc e z []) H K=K B4 (.ptr H.au 0) (H.alloc (.row z e (0,0) B4)))/\(∀e v H K,Gs B4 (Op.box e [v]) H K=K B4 (.ptr H.au 0) (H.alloc (.row v.cells e (0,0) B4)))/\(∀i v vs,kC i (v::vs)=(i,v)::kC (i+1) vs)/\(∀i,kC i []=[])/\(∀{α:Type}(F:α->Prop)(K:α),JN F K=F K):=⟨Px,af0,xi6,GA,Ki,MN,JB⟩
def Rt{M:ak}{P:JL}{p:Nat->Nat->Kp×ai}{a:Nat->Kp}(hp:∀n k,p n k=(a n,part (aZ P n) k)){n:Nat}{F:bW}(d:M.func n=B1 F){rs:List eh}(hr:F.results=rs){x y t:Nat}(c:sj F.body=B1 (Ah F.body,t,vZ F.body))(e:aZ P x=Ah F.body)(f:aZ P y=vZ F.body)(hk:(a x).ah=(a y).ah){vs:List AV}(b:jP 0 vs.length (a x).ah=B4){H:ar}{Q:bG->ar->Prop}
 (h:W M ⟨B5,n⟩ (p x 0) B4 (EF M ⟨B5,n⟩ (p y 0) t (fh M rs Q)) (kC 0 vs) [] H):Fp M n vs H Q:=by
 rw[hp,hp,e,f,<-hr]at h;exact HK d hk c b h
def Iq{M:ak}{P:JL}{p:Nat->Nat->Kp×ai}{a:Nat->Kp}(hp:∀n k,p n k=(a n,part (aZ P n) k)){n:Nat}{F:bW}(c:M.func n=B1 F){rs:List eh}(hr:F.results=rs)(d:aZ P n=F.body){vs:List AV}(b:jP 0 vs.length (a n).ah=B4){up:Option aF}{H:ar}{Q:bG->ar->Prop}
 (h:W M ⟨B5,n⟩ (p n 0) B4 (fh M rs Q) (kC 0 vs) [] H):∃e H',jI M n vs up H e up H'/\Q e H':=by
 rw[hp,d,<-hr]at h;exact Ii c b h
abbrev NQ:Nat:=185
abbrev Yv:Nat:=111
abbrev NZ:Nat:=153
abbrev YW:Nat:=109
abbrev NO:Nat:=152
abbrev UW:Nat:=89
abbrev YH:Nat:=277
abbrev Y7:Nat:=114
abbrev Wq:Nat:=276
abbrev Wm:Nat:=275
abbrev N7:Nat:=118
abbrev oA:Nat:=184
abbrev Rk:Nat:=207
abbrev Vl:Nat:=150
abbrev Nn:Nat:=182
abbrev j3:Nat:=154
abbrev Q7:Nat:=186
abbrev _b:Nat:=183
abbrev U7:Nat:=67
abbrev q8j:Nat:=18
abbrev xj:Nat:=147
abbrev zx:Nat:=61
abbrev cz:Nat:=3
abbrev YP:Nat:=206
abbrev kh:Nat:=235
abbrev Cv:Nat:=164
open Go.Proofs Go.Proofs.YtgjdmncoonceaaaGreatDoor
class MK (M:ak):Prop where
 ok:∀n,bF n [18]=B2->M.func n=(aX Tryz.prog).func n
 mt:∀t s,M.kH t s=(aX Tryz.prog).kH t s
def MK.at{M:ak}[h:MK M]{n:Nat}{F:bW}(hn:bF n [18]=B2)(a:(aX Tryz.prog).func n=B1 F):M.func n=B1 F:=(h.ok n hn).trans a
def D7{M:ak}[h:MK M]{n:Nat}{F:bW}(hn:bF n [18]=B2){rs:List eh}(a:(aX Tryz.prog).func n=B1 F/\F.results=rs){ks:Kp}{vs:List AV}(hk:jP 0 vs.length ks.ah=B4){H:ar}{Q:bG->ar->Prop}(hw:W M ⟨B5,n⟩ (ks,part F.body 0) B4 (fh M rs Q) (kC 0 vs) [] H):Fp M n vs H Q:=PG (MK.at hn a.1) hk (a.2▸hw)
def kO{M:ak}[MK M]{p:Nat->Nat->Kp×ai}{a:Nat->Kp}(hp:∀n k,p n k=(a n,part (aZ Tryz.prog n) k))(n:Nat)(rs:List eh)(vs:List AV)(b:YA Tryz.prog [18] (a n) n rs vs.length=B4)(H:ar)(Q:bG->ar->Prop)(h:W M ⟨B5,n⟩ (p n 0) B4 (fh M rs Q) (kC 0 vs) [] H):Fp M n vs H Q:=by
 obtain⟨b,c,d,e⟩:=Qx b;exact D7 c e (ks:=a n) d (by rw[hp,ae8 b]at h;exact h)
variable{M:ak}[MK M]{H:ar}{Q:bG->ar->Prop}{a0 a1 a2 a3:AV}
abbrev X4:tO:=[(67,⟨[0,1,4,5],B2,[0,2,10]⟩,[]),(185,⟨[0,2,3,7,8],B2,[0,2,10,15]⟩,[]),(300185,⟨[0,2,3,7,8],B2,[0]⟩,[]),(200185,⟨[0,2,3,7,8],B2,[0]⟩,[]),(153,⟨[0,2,3,7,8],B2,[0,2,10,15]⟩,[]),(300153,⟨[0,2,3,7,8],B2,[0]⟩,[]),(200153,⟨[0,2,3,7,8],B2,[0]⟩,[]),(277,⟨[0,1,2,6,7,8,9,10],B2,[0,2,18,8,20,14,26]⟩,[]),(276,⟨[0,1,2,6,7,8],B2,[0,2,10,12,20]⟩,[]),(89,⟨[0,1,4,5,6,21],B2,[0,4,12]⟩,[]),(275,⟨[0,1,4,5,6,7],B2,[0,2,10,12,20]⟩,[]),(109,⟨[0,1,4,5,6,7,8,21],B2,[0,4,12]⟩,[]),(111,⟨[0,1,4,5,6,7,8],B2,[0,4,12]⟩,[]),(114,⟨[0,1,2,5,6,7,8],B2,[0,4,10]⟩,[(3,[0,2,4,6,8,10,5,12,14,16])]),(152,⟨[0,1,2,3,7,8,9,10,11,12,21],B2,[0,2,23,16,25,33]⟩,[(13,[0,2,4,6,8,5,10,12])]),(184,⟨[0,1,2],B2,[0]⟩,[]),(150,⟨[0,1,2,6,7,8],B2,[0,2,10,12,20]⟩,[]),(183,⟨[0,1],B2,[0]⟩,[]),(118,⟨[0,1,3,4,5,8,9],B2,[0,2,7]⟩,[]),(300118,⟨[0,1,3,4,5,8,9],B2,[0]⟩,[]),(200118,⟨[0,1,3,4,5,8,9],B2,[0]⟩,[]),(182,⟨[0,1,4,5,6,9,10],B2,[0,2,3,5,7,12]⟩,[]),(300182,⟨[0,1,4,5,6,9,10],B2,[0]⟩,[]),(200182,⟨[0,1,4,5,6,9,10],B2,[0,9,15]⟩,[]),(207,⟨[0,1,3,10,11],B2,[0,1,7,9,13,19,34,23,29]⟩,[]),(154,⟨[0,1,2,3,4],B2,[0]⟩,[]),(186,⟨[0,1,2,4,5,26,27],B2,[0,6,12,18,27]⟩,[])]
def VD(n:Nat):Kp:=jH n X4
def AO(n k:Nat):Kp×ai:=(VD n,part (aZ Tryz.prog n) k)
def _1(n k:Nat):AO n k=(VD n,part (aZ Tryz.prog n) k):=rfl
def sV:=@kO M _ AO VD _1
attribute [local irreducible] PR AO nG gF fP gG iF gI oK yQ qD vO wM zI fX mI om rW qI sF nR rX nV eS jU cP AV.undef Op.move Op.pick Op.build Op.nilCheck Op.bin Op.eq Op.un Op.wrap Op.dI Op.eM Op.dC Op.bJ Op.dO Op.aD Op.cK Op.fieldAddr Op.field Op.aP Op.aR Op.bE Op.bN Op.typeAssert Op.extract Op.fD Op.db Op.oR Op.cap Op.eU Op.di Op.dK Op.aC Op.bR Op.ae Op.aq Op.cF Op.lookup Op.gJ Op.eN Op.alloc Op.box Op.buildSlice Op.mkMap Op.mkSlice Op.cE Op.dM Op.makeNoZero Op.store Op.mapUpdate Op.dk Op.eO Op.append Op.copy Op.bX Op.bS Op.eP Op.dR
def jq(M:ak)(c:Ctx):=by
 have h:=oO _1 M c X4 (by kernel_rfl)
 conv at h=>arg 5;reduce
 delta PR RL nV gI nG gF oK iF mI fP gG fX om qI sF nR qD rW rV X4 at h
 simp only[zT,Ae,Al,An,A4,QY]at h;exact h
def bf(M:ak)(c:Ctx):=(jq M c).2.2.2.2.2.2.2.2
def bo(M:ak)(c:Ctx):=(bf M c).2.2.2.2.2.2.2.2
def bB(M:ak)(c:Ctx):=(bo M c).2.2.2.2.2.2.2.2
def ah5(M:ak)(c:Ctx):=(jq M c).1
def Dk:=@sV M _ U7 [.tmp 4,.tmp 5] [a0,a1] (by kernel_rfl) H Q
def SE:bW:=funcAt Tryz.prog NQ
def P8:dV:=iz SE 0
abbrev VY(k:Nat):Kp×ai:=AO 300185 k
abbrev ZM(k:Nat):Kp×ai:=AO 200185 k
def _7:nth SE.loops 0=B1 P8/\P8.params=[8]:=⟨by kernel_rfl,by kernel_rfl⟩
def qtk:(VY 0).1.ah=[0,2,3,7,8]/\(VY 0).2=P8.assign:=⟨by kernel_rfl,by kernel_rfl⟩
def qtl:(ZM 0).1.ah=[0,2,3,7,8]/\(ZM 0).2=P8.body:=⟨by kernel_rfl,by kernel_rfl⟩
def qvh:M.func NQ=B1 SE:=MK.at (by decide) (by kernel_rfl)
def qnh(M:ak)(c:Ctx):=GF (jq M c).2.1.1 (GF (jq M c).2.2.1 (GF (jq M c).2.2.2.1 (GF (jq M c).2.1.2.1 (GF (jq M c).2.1.2.2.1 ((jq M c).2.1.2.2.2)))))
def qw8:=@sV M _ NQ [.tmp 2] [a0] (by kernel_rfl) H Q
def Ss:bW:=funcAt Tryz.prog NZ
def Ro:dV:=iz Ss 0
abbrev Ym(k:Nat):Kp×ai:=AO 300153 k
abbrev Yi(k:Nat):Kp×ai:=AO 200153 k
def tr:nth Ss.loops 0=B1 Ro/\Ro.params=[8]:=⟨by kernel_rfl,by kernel_rfl⟩
def qrz:(Ym 0).1.ah=[0,2,3,7,8]/\(Ym 0).2=Ro.assign:=⟨by kernel_rfl,by kernel_rfl⟩
def qr0:(Yi 0).1.ah=[0,2,3,7,8]/\(Yi 0).2=Ro.body:=⟨by kernel_rfl,by kernel_rfl⟩
def qtm:M.func NZ=B1 Ss:=MK.at (by decide) (by kernel_rfl)
def Z4(M:ak)(c:Ctx):=GF (jq M c).2.2.2.2.1.1 (GF (jq M c).2.2.2.2.2.1 (GF (jq M c).2.2.2.2.2.2.1 (GF (jq M c).2.2.2.2.1.2.1 (GF (jq M c).2.2.2.2.1.2.2.1 ((jq M c).2.2.2.2.1.2.2.2)))))
def qvi:=@sV M _ NZ [.tmp 2] [a0] (by kernel_rfl) H Q
def q4a(M:ak)(c:Ctx):=(jq M c).2.2.2.2.2.2.2.1
def q39:=@sV M _ YH [.tmp 6] [a0,a1,a2] (by kernel_rfl) H Q
def q6m(M:ak)(c:Ctx):=(bf M c).1
def q6l:=@sV M _ Wq [.tmp 6] [a0,a1,a2] (by kernel_rfl) H Q
def q38(M:ak)(c:Ctx):=(bf M c).2.1
def q37:=@sV M _ UW [.cR 21 4,.tmp 5] [a0,a1] (by kernel_rfl) H Q
def q4c(M:ak)(c:Ctx):=(bf M c).2.2.1
def q4b:=@sV M _ Wm [.tmp 4,.tmp 5] [a0,a1] (by kernel_rfl) H Q
def q34(M:ak)(c:Ctx):=(bf M c).2.2.2.1
def q33:=@sV M _ YW [.cR 21 4,.tmp 5] [a0,a1] (by kernel_rfl) H Q
def qxa(M:ak)(c:Ctx):=(bf M c).2.2.2.2.1
def qw9:=@sV M _ Yv [.cR 8 4,.tmp 5] [a0,a1] (by kernel_rfl) H Q
def qvk(M:ak)(c:Ctx):=(bf M c).2.2.2.2.2.1
def qvj:=@sV M _ Y7 [.tmp 6] [a0,a1,a2] (by kernel_rfl) H Q
abbrev _m(k:Nat):Kp×ai:=AO NO k
def q36(M:ak)(c:Ctx):=(bf M c).2.2.2.2.2.2.1
def q35:=@sV M _ NO [.cR 21 8,.tmp 9,.tmp 10] [a0,a1,a2,a3] (by kernel_rfl) H Q
def q4g(M:ak)(c:Ctx):=(bf M c).2.2.2.2.2.2.2.1
def q4f:=@sV M _ oA [.tmp 2] [a0] (by kernel_rfl) H Q
def q9g(M:ak)(c:Ctx):=(bo M c).1
def q9f:=@sV M _ Vl [.tmp 6,.tmp 7] [a0,a1,a2] (by kernel_rfl) H Q
def q6r(M:ak)(c:Ctx):=(bo M c).2.1
def q6q:=@sV M _ _b [] [a0,a1] (by kernel_rfl) H Q
def TM:bW:=funcAt Tryz.prog N7
def OP:dV:=iz TM 0
abbrev Y5(k:Nat):Kp×ai:=AO 300118 k
abbrev Vr(k:Nat):Kp×ai:=AO 200118 k
def qqs:nth TM.loops 0=B1 OP/\OP.params=[9]:=⟨by kernel_rfl,by kernel_rfl⟩
def q4d:(Y5 0).1.ah=[0,1,3,4,5,8,9]/\(Y5 0).2=OP.assign:=⟨by kernel_rfl,by kernel_rfl⟩
def q4e:(Vr 0).1.ah=[0,1,3,4,5,8,9]/\(Vr 0).2=OP.body:=⟨by kernel_rfl,by kernel_rfl⟩
def q6n:M.func N7=B1 TM:=MK.at (by decide) (by kernel_rfl)
def qvl(M:ak)(c:Ctx):=GF (bo M c).2.2.1.1 (GF (bo M c).2.2.2.1 (GF (bo M c).2.2.2.2.1 (GF (bo M c).2.2.1.2.1 ((bo M c).2.2.1.2.2))))
def q9e:=@sV M _ N7 [.kK 4] [a0,a1] (by kernel_rfl) H Q
def SY:bW:=funcAt Tryz.prog Nn
def Qp:dV:=iz SY 0
abbrev Xu(k:Nat):Kp×ai:=AO 300182 k
abbrev Zx(k:Nat):Kp×ai:=AO 200182 k
def qni:nth SY.loops 0=B1 Qp/\Qp.params=[10]:=⟨by kernel_rfl,by kernel_rfl⟩
def qxd:(Xu 0).1.ah=[0,1,4,5,6,9,10]/\(Xu 0).2=Qp.assign:=⟨by kernel_rfl,by kernel_rfl⟩
def qxe:(Zx 0).1.ah=[0,1,4,5,6,9,10]/\(Zx 0).2=Qp.body:=⟨by kernel_rfl,by kernel_rfl⟩
def qzr:M.func Nn=B1 SY:=MK.at (by decide) (by kernel_rfl)
def j'(M:ak)(c:Ctx):=GF (bo M c).2.2.2.2.2.1.1 (GF (bo M c).2.2.2.2.2.2.1 (GF (bo M c).2.2.2.2.2.2.2.1.1 (GF (bo M c).2.2.2.2.2.1.2.1 (GF (bo M c).2.2.2.2.2.2.2.1.2.1 (GF (bo M c).2.2.2.2.2.1.2.2.1 (GF (bo M c).2.2.2.2.2.2.2.1.2.2 (GF (bo M c).2.2.2.2.2.1.2.2.2.1 (GF (bo M c).2.2.2.2.2.1.2.2.2.2.1 ((bo M c).2.2.2.2.2.1.2.2.2.2.2)))))))))
def q4h:=@sV M _ Nn [.kK 4] [a0,a1] (by kernel_rfl) H Q
def qxc(M:ak)(c:Ctx):=(bB M c).1
def qxb:=@sV M _ Rk [] [a0,a1] (by kernel_rfl) H Q
def q6p(M:ak)(c:Ctx):=(bB M c).2.1
def q6o:=@sV M _ j3 [.tmp 4] [a0,a1] (by kernel_rfl) H Q
def qzt(M:ak)(c:Ctx):=(bB M c).2.2
def qzs:=@sV M _ Q7 [] [a0,a1,a2] (by kernel_rfl) H Q
abbrev YR:Nat:=52
abbrev Yl:Nat:=87
abbrev Ux:Nat:=265
abbrev XL:Nat:=266
abbrev qou:Nat:=267
abbrev YQ:Nat:=268
abbrev Ok:Nat:=84
abbrev yx:Nat:=81
abbrev U9:Nat:=113
abbrev sq:Nat:=269
abbrev PZ:Nat:=270
abbrev OI:Nat:=271
abbrev m_:Nat:=116
abbrev Ze:Nat:=274
abbrev MZ:Nat:=115
abbrev WV:Nat:=117
abbrev kn:Nat:=108
abbrev XH:Nat:=272
abbrev UJ:Nat:=107
abbrev qp3:Nat:=110
abbrev u4:Nat:=273
abbrev qip:Nat:=149
abbrev Y8:Nat:=112
abbrev W8:Nat:=151
abbrev ZP:Nat:=181
abbrev xk:Nat:=63
abbrev AB:Nat:=23
abbrev Qa:Nat:=169
abbrev Uq:tO:=[(52,⟨[0,1,3,4,5,6,7],B2,[0,4,12]⟩,[]),(269,⟨[0,2],B2,[0]⟩,[]),(270,⟨[0,1,4,5,6,7,8,9,11],B2,[0,2,12,14,24,30]⟩,[]),(271,⟨[0,1,2,6,7,8,9,10],B2,[0,2,12,14,22,28]⟩,[]),(266,⟨[0,1,2,3,8,9,10,11,12,13,14],B2,[0,2,12,20,22,30,32,38]⟩,[]),(265,⟨[0,2],B2,[0,2,17]⟩,[]),(268,⟨[0,2],B2,[0,2,17]⟩,[]),(87,⟨[0,1,4],B2,[0,2,23,16]⟩,[]),(81,⟨[0,1,3,4,5,6,7,8,9,51,69],B2,[0,2,10,12,20,73,34,75,40,85,41,49,53,61]⟩,[]),(84,⟨[0,1,4,5,6,7],B2,[0,2,17,19,27,33]⟩,[]),(267,⟨[0,2],B2,[0,2,10]⟩,[]),(272,⟨[0,1,4],B2,[0,2,17]⟩,[]),(274,⟨[0,1,2,6],B2,[0,2,10]⟩,[]),(273,⟨[0,1,4,5,6],B2,[0]⟩,[]),(116,⟨[0,1],B2,[0]⟩,[]),(107,⟨[0,1,2,4,5,6,8,14],B2,[0,2,41,12,18,28]⟩,[(8,[0,2,4,6,8,10,12,14,7,16,18]),(10,[0,2,4,6,8,10,12,14,7,16,18])]),(108,⟨[0,1,2,4],B2,[0]⟩,[]),(110,⟨[0,1,2,6,11],B2,[0]⟩,[]),(112,⟨[0,1,4,5,6,7],B2,[0,4,12,35,17,23,34]⟩,[]),(113,⟨[0,1,3],B2,[0]⟩,[]),(115,⟨[0,1,3,4,5,6,7,8],B2,[0,4,10,12,20,28]⟩,[]),(117,⟨[0,1,3,4,5],B2,[0,2,10]⟩,[]),(149,⟨[0,1,4],B2,[0]⟩,[]),(151,⟨[0,1,4,5,7,8],B2,[0,2,25,7,13,24]⟩,[]),(181,⟨[0,1,4,5,7,8],B2,[0,2,25,7,13,24]⟩,[])]
def Us(n:Nat):Kp:=jH n Uq
def JF(n k:Nat):Kp×ai:=(Us n,part (aZ Tryz.prog n) k)
def q2d(n k:Nat):JF n k=(Us n,part (aZ Tryz.prog n) k):=rfl
def vm:=@kO M _ JF Us q2d
attribute [local irreducible] JF
def vk(M:ak)(c:Ctx):=by
 have h:=oO q2d M c Uq (by kernel_rfl)
 conv at h=>arg 5;reduce
 delta PR RL nV gI nG gF oK iF mI fP gG fX om qI nR qD rW rV Uq at h
 simp only[zT,Ae,Al,An,A4,QY]at h;exact h
def cb(M:ak)(c:Ctx):=(vk M c).2.2.2.2.2.2.2.2
def ck(M:ak)(c:Ctx):=(cb M c).2.2.2.2.2.2.2.2
def cn(M:ak)(c:Ctx):=(ck M c).2.2.2.2.2.2.2.2
def xih(M:ak)(c:Ctx):=(vk M c).1
def xig:=@vm M _ YR [.tmp 4,.tmp 5] [a0,a1] (by kernel_rfl) H Q
def qz8(M:ak)(c:Ctx):=(vk M c).2.1
def qz7:=@vm M _ sq [.tmp 2] [a0] (by kernel_rfl) H Q
abbrev qz9(k:Nat):Kp×ai:=JF PZ k
def q0b(M:ak)(c:Ctx):=(vk M c).2.2.1
def q0a:=@vm M _ PZ [.tmp 4,.tmp 5,.tmp 6,.tmp 7] [a0,a1] (by kernel_rfl) H Q
abbrev qxk(k:Nat):Kp×ai:=JF OI k
def qxm(M:ak)(c:Ctx):=(vk M c).2.2.2.1
def qxl:=@vm M _ OI [.tmp 6,.tmp 7,.tmp 8] [a0,a1,a2] (by kernel_rfl) H Q
def q41(M:ak)(c:Ctx):=(vk M c).2.2.2.2.1
def q40:=@vm M _ XL [.tmp 8,.tmp 9,.tmp 10,.tmp 11] [a0,a1,a2,a3] (by kernel_rfl) H Q
def qxj(M:ak)(c:Ctx):=(vk M c).2.2.2.2.2.1
def qxi:=@vm M _ Ux [.tmp 2] [a0] (by kernel_rfl) H Q
def qvp(M:ak)(c:Ctx):=(vk M c).2.2.2.2.2.2.1
def qvo:=@vm M _ YQ [.tmp 2] [a0] (by kernel_rfl) H Q
def qxh(M:ak)(c:Ctx):=(vk M c).2.2.2.2.2.2.2.1
def qxg:=@vm M _ Yl [.tmp 4] [a0,a1] (by kernel_rfl) H Q
abbrev M4(k:Nat):Kp×ai:=JF yx k
def qz6(M:ak)(c:Ctx):=(cb M c).1
def qz5:=@vm M _ yx [.tmp 4,.tmp 5] [a0,a1] (by kernel_rfl) H Q
abbrev qz0(k:Nat):Kp×ai:=JF Ok k
def qz2(M:ak)(c:Ctx):=(cb M c).2.1
def qz1:=@vm M _ Ok [.tmp 4,.tmp 5] [a0,a1] (by kernel_rfl) H Q
def qzz(M:ak)(c:Ctx):=(cb M c).2.2.1
def qzy:=@vm M _ qou [.tmp 2] [a0] (by kernel_rfl) H Q
def q45(M:ak)(c:Ctx):=(cb M c).2.2.2.1
def q44:=@vm M _ XH [.tmp 4] [a0,a1] (by kernel_rfl) H Q
def q43(M:ak)(c:Ctx):=(cb M c).2.2.2.2.1
def q42:=@vm M _ Ze [.tmp 6] [a0,a1,a2] (by kernel_rfl) H Q
def qxq(M:ak)(c:Ctx):=(cb M c).2.2.2.2.2.1
def qxp:=@vm M _ u4 [.tmp 4] [a0,a1] (by kernel_rfl) H Q
def qxo(M:ak)(c:Ctx):=(cb M c).2.2.2.2.2.2.1
def qxn:=@vm M _ m_ [] [a0,a1] (by kernel_rfl) H Q
def qtt(M:ak)(c:Ctx):=(cb M c).2.2.2.2.2.2.2.1
def qts:=@vm M _ UJ [.tmp 6] [a0,a1,a2] (by kernel_rfl) H Q
def MU(M:ak)(c:Ctx):=(ck M c).1
def q0g:=@vm M _ kn [] [a0,a1,a2] (by kernel_rfl) H Q
def q47(M:ak)(c:Ctx):=(ck M c).2.1
def q46:=@vm M _ qp3 [.cR 11 6] [a0,a1,a2] (by kernel_rfl) H Q
def qof(M:ak)(c:Ctx):=(ck M c).2.2.1
def qoe:=@vm M _ Y8 [.tmp 4] [a0,a1] (by kernel_rfl) H Q
def _G(M:ak)(c:Ctx):=(ck M c).2.2.2.1
def qvq:=@vm M _ U9 [.tmp 3] [a0,a1] (by kernel_rfl) H Q
abbrev ZW(k:Nat):Kp×ai:=JF MZ k
def q0d(M:ak)(c:Ctx):=(ck M c).2.2.2.2.1
def q0c:=@vm M _ MZ [.tmp 4] [a0,a1] (by kernel_rfl) H Q
def q0f(M:ak)(c:Ctx):=(ck M c).2.2.2.2.2.1
def q0e:=@vm M _ WV [.tmp 4] [a0,a1] (by kernel_rfl) H Q
def qq9(M:ak)(c:Ctx):=(ck M c).2.2.2.2.2.2.1
def qq8:=@vm M _ qip [.tmp 4] [a0,a1] (by kernel_rfl) H Q
def qpo(M:ak)(c:Ctx):=(ck M c).2.2.2.2.2.2.2.1
def qpn:=@vm M _ W8 [.tmp 4] [a0,a1] (by kernel_rfl) H Q
def qvy(M:ak)(c:Ctx):=(cn M c)
def qvx:=@vm M _ ZP [.tmp 4] [a0,a1] (by kernel_rfl) H Q
abbrev FW:Nat:=80
abbrev _y:Nat:=53
abbrev YY:Nat:=103
abbrev N2:Nat:=105
abbrev RV:Nat:=106
abbrev XE:Nat:=51
abbrev f_:Nat:=148
abbrev OZ:Nat:=180
abbrev Jm:Nat:=104
abbrev Tj:Nat:=146
abbrev YU:Nat:=72
abbrev Yz:Nat:=68
abbrev Zl:Nat:=88
abbrev YL:Nat:=66
abbrev qef:Nat:=147
abbrev UZ:Nat:=179
abbrev sQ:Nat:=113
abbrev b_:Nat:=159
abbrev Vt:Nat:=160
abbrev QH:Nat:=163
abbrev j4:Nat:=203
abbrev Ut:tO:=[(51,⟨[0,1,4,5,6,7,8,9,35,36],B2,[0,4,12,14,31,19,25,30]⟩,[]),(80,⟨[0,1,3,4,5,6,7,8,9,37,38],B2,[0,2,10,12,20,28,32,113,42,119,45,61,66,55,71,86,73,99,79]⟩,[]),(53,⟨[0,1,2,5,6],B2,[0,2,10]⟩,[]),(66,⟨[0,2,3],B2,[0,2,10]⟩,[]),(68,⟨[0,1,2,5,6,7,8],B2,[0,4,10]⟩,[]),(103,⟨[0,1,4],B2,[0,2,10]⟩,[]),(104,⟨[0,1,3,4,5,6,9,10],B2,[0,4,51,14,17,26,38]⟩,[]),(105,⟨[0,1,2,5,6,7,8,9,74,75],B2,[0,4,22,10,24,12,32,18,36,41]⟩,[]),(300105,⟨[0,1,2,5,6,7,8,9,74,75],B2,[0]⟩,[]),(200105,⟨[0,1,2,5,6,7,8,9,74,75],B2,[0]⟩,[]),(106,⟨[0,1,4,5,7,11],B2,[0,4,8,18]⟩,[]),(88,⟨[0,1,4,5],B2,[0,2,17]⟩,[]),(146,⟨[0,1,2,3],B2,[0]⟩,[]),(147,⟨[0,1,4],B2,[0]⟩,[]),(148,⟨[0,1,2],B2,[0]⟩,[]),(72,⟨[0,1,4,5,6,7,8],B2,[0,4,12]⟩,[]),(179,⟨[0,1,4,5,7,8],B2,[0,2,25,7,13,24]⟩,[]),(180,⟨[0,1,3,4],B2,[0,4,10,19]⟩,[])]
def Uw(n:Nat):Kp:=jH n Ut
def Mh(n k:Nat):Kp×ai:=(Uw n,part (aZ Tryz.prog n) k)
def ξ(n k:Nat):Mh n k=(Uw n,part (aZ Tryz.prog n) k):=rfl
def vN:=@kO M _ Mh Uw ξ
attribute [local irreducible] Mh
def y8(M:ak)(c:Ctx):=by
 have h:=oO ξ M c Ut (by kernel_rfl)
 conv at h=>arg 5;reduce
 delta PR RL nV gI nG gF oK mI fP gG fX om qI sF nR qD rW rV Ut at h
 simp only[zT,Ae,Al,An,A4,QY]at h;exact h
def cr(M:ak)(c:Ctx):=(y8 M c).2.2.2.2.2.2.2.2
def cA(M:ak)(c:Ctx):=(cr M c).2.2.2.2.2.2.2.2
def xkg(M:ak)(c:Ctx):=(y8 M c).1
def xkf:=@vN M _ XE [.tmp 4,.tmp 5] [a0,a1] (by kernel_rfl) H Q
abbrev Wr(k:Nat):Kp×ai:=Mh FW k
def qsv(M:ak)(c:Ctx):=(y8 M c).2.1
def q6f:=@vN M _ FW [.tmp 4,.tmp 5] [a0,a1] (by kernel_rfl) H Q
def q81(M:ak)(c:Ctx):=(y8 M c).2.2.1
def q80:=@vN M _ _y [.tmp 6] [a0,a1,a2] (by kernel_rfl) H Q
def xlk(M:ak)(c:Ctx):=(y8 M c).2.2.2.1
def xlj:=@vN M _ YL [.tmp 2,.tmp 3] [a0] (by kernel_rfl) H Q
def q9t(M:ak)(c:Ctx):=(y8 M c).2.2.2.2.1
def q9s:=@vN M _ Yz [.tmp 6] [a0,a1,a2] (by kernel_rfl) H Q
def xba(M:ak)(c:Ctx):=(y8 M c).2.2.2.2.2.1
def xa9:=@vN M _ YY [.tmp 4] [a0,a1] (by kernel_rfl) H Q
abbrev Tk(k:Nat):Kp×ai:=Mh Jm k
def q3o(M:ak)(c:Ctx):=(y8 M c).2.2.2.2.2.2.1
def q3n:=@vN M _ Jm [.tmp 4] [a0,a1] (by kernel_rfl) H Q
def R7:bW:=funcAt Tryz.prog N2
def Pf:dV:=iz R7 0
abbrev W6(k:Nat):Kp×ai:=Mh 300105 k
abbrev X6(k:Nat):Kp×ai:=Mh 200105 k
def V_:nth R7.loops 0=B1 Pf/\Pf.params=[75]:=⟨by kernel_rfl,by kernel_rfl⟩
def qw3:(W6 0).1.ah=[0,1,2,5,6,7,8,9,74,75]/\(W6 0).2=Pf.assign:=⟨by kernel_rfl,by kernel_rfl⟩
def qw4:(X6 0).1.ah=[0,1,2,5,6,7,8,9,74,75]/\(X6 0).2=Pf.body:=⟨by kernel_rfl,by kernel_rfl⟩
def qzo:M.func N2=B1 R7:=MK.at (by decide) (by kernel_rfl)
def H_(M:ak)(c:Ctx):=GF (y8 M c).2.2.2.2.2.2.2.1.1 (GF (cr M c).1 (GF (cr M c).2.1 (GF (y8 M c).2.2.2.2.2.2.2.1.2.1 (GF (y8 M c).2.2.2.2.2.2.2.1.2.2.1 (GF (y8 M c).2.2.2.2.2.2.2.1.2.2.2.1 (GF (y8 M c).2.2.2.2.2.2.2.1.2.2.2.2.1 (GF (y8 M c).2.2.2.2.2.2.2.1.2.2.2.2.2.1 (GF (y8 M c).2.2.2.2.2.2.2.1.2.2.2.2.2.2.1 (GF (y8 M c).2.2.2.2.2.2.2.1.2.2.2.2.2.2.2.1 (GF (y8 M c).2.2.2.2.2.2.2.1.2.2.2.2.2.2.2.2.1 ((y8 M c).2.2.2.2.2.2.2.1.2.2.2.2.2.2.2.2.2)))))))))))
def q3k:=@vN M _ N2 [.tmp 6] [a0,a1,a2] (by kernel_rfl) H Q
def q3m(M:ak)(c:Ctx):=(cr M c).2.2.1
def q3l:=@vN M _ RV [.cR 11 4] [a0,a1] (by kernel_rfl) H Q
def xb9(M:ak)(c:Ctx):=(cr M c).2.2.2.1
def xb8:=@vN M _ Zl [.tmp 4,.tmp 5] [a0,a1] (by kernel_rfl) H Q
def ZV(M:ak)(c:Ctx):=(cr M c).2.2.2.2.1
def qw5:=@vN M _ Tj [.tmp 3] [a0,a1] (by kernel_rfl) H Q
def qjh(M:ak)(c:Ctx):=(cr M c).2.2.2.2.2.1
def qjg:=@vN M _ qef [.tmp 4] [a0,a1] (by kernel_rfl) H Q
def qzq(M:ak)(c:Ctx):=(cr M c).2.2.2.2.2.2.1
def qzp:=@vN M _ f_ [.tmp 2] [a0] (by kernel_rfl) H Q
def q61(M:ak)(c:Ctx):=(cr M c).2.2.2.2.2.2.2.1
def q60:=@vN M _ YU [.cR 8 4,.tmp 5] [a0,a1] (by kernel_rfl) H Q
def qlj(M:ak)(c:Ctx):=(cA M c).1
def qli:=@vN M _ UZ [.tmp 4] [a0,a1] (by kernel_rfl) H Q
def qu9(M:ak)(c:Ctx):=(cA M c).2
def qu8:=@vN M _ OZ [] [a0,a1] (by kernel_rfl) H Q
abbrev Nd:Nat:=65
abbrev JE:Nat:=86
abbrev SF:Nat:=258
abbrev SV:Nat:=259
abbrev S7:Nat:=260
abbrev Sc:Nat:=261
abbrev P6:Nat:=63
abbrev QT:Nat:=64
abbrev S9:Nat:=262
abbrev Tn:Nat:=263
abbrev Sj:Nat:=264
abbrev U6:Nat:=83
abbrev RC:Nat:=85
abbrev Yb:Nat:=82
abbrev YD:Nat:=37
abbrev YZ:Nat:=79
abbrev Kx:Nat:=115
abbrev LH:Nat:=116
variable{a4:AV}
abbrev YT:tO:=[(37,⟨[0,1,2,4,5,6,7,8,9,10,11,12,13,37,38,60,61,62],B2,[0,4,12,14,41,19,58,46,25,52,40,31,57,39]⟩,[]),(263,⟨[0,1,2,6,7,8,9,10],B2,[0,4,12]⟩,[]),(264,⟨[0,1,2,3,8,9,10,11],B2,[0,4,12]⟩,[]),(259,⟨[0,1,2,3,4,10,11,12,13,14],B2,[0,4,12]⟩,[]),(258,⟨[0,1,4],B2,[0]⟩,[]),(261,⟨[0,1,4],B2,[0]⟩,[]),(65,⟨[0,1,2,5,6],B2,[0]⟩,[]),(64,⟨[0,1,2,6,7,8,9],B2,[0,4,12]⟩,[]),(63,⟨[0,1,4,5,6,7,8,11],B2,[0,2,17,21,23,29]⟩,[]),(262,⟨[0,1,4,5],B2,[0]⟩,[]),(260,⟨[0,1,4,5],B2,[0]⟩,[]),(82,⟨[0,1],B2,[0]⟩,[]),(83,⟨[0,1,4,5],B2,[0,2,17]⟩,[]),(85,⟨[0,1,2,6,7,8],B2,[0,4,12]⟩,[]),(86,⟨[0,1,3],B2,[0]⟩,[]),(79,⟨[0,1,2,6,7],B2,[0,4,12]⟩,[])]
def Zh(n:Nat):Kp:=jH n YT
def WS(n k:Nat):Kp×ai:=(Zh n,part (aZ Tryz.prog n) k)
def q13(n k:Nat):WS n k=(Zh n,part (aZ Tryz.prog n) k):=rfl
def vI:=@kO M _ WS Zh q13
attribute [local irreducible] WS
def vL(M:ak)(c:Ctx):=by
 have h:=oO q13 M c YT (by kernel_rfl)
 conv at h=>arg 5;reduce
 delta PR RL nV gI nG gF oK mI fP gG fX om qI nR qD rW rV YT at h
 simp only[zT,Ae,Al,An,A4,QY]at h;exact h
def cB(M:ak)(c:Ctx):=(vL M c).2.2.2.2.2.2.2.2
def Ua(M:ak)(c:Ctx):=(vL M c).1
def xj1:=@vI M _ YD [.tmp 4,.tmp 5] [a0,a1] (by kernel_rfl) H Q
def q59(M:ak)(c:Ctx):=(vL M c).2.1
def q58:=@vI M _ Tn [.tmp 6,.tmp 7,.tmp 8] [a0,a1,a2] (by kernel_rfl) H Q
def q29(M:ak)(c:Ctx):=(vL M c).2.2.1
def q28:=@vI M _ Sj [.tmp 8,.tmp 9] [a0,a1,a2,a3] (by kernel_rfl) H Q
def q8x(M:ak)(c:Ctx):=(vL M c).2.2.2.1
def q8w:=@vI M _ SV [.tmp 10,.tmp 11,.tmp 12] [a0,a1,a2,a3,a4] (by kernel_rfl) H Q
def q27(M:ak)(c:Ctx):=(vL M c).2.2.2.2.1
def q26:=@vI M _ SF [.tmp 4] [a0,a1] (by kernel_rfl) H Q
def qy7(M:ak)(c:Ctx):=(vL M c).2.2.2.2.2.1
def qy6:=@vI M _ Sc [.tmp 4] [a0,a1] (by kernel_rfl) H Q
def Zb(M:ak)(c:Ctx):=(vL M c).2.2.2.2.2.2.1
def Yy:=@vI M _ Nd [.tmp 6] [a0,a1,a2] (by kernel_rfl) H Q
def qsp(M:ak)(c:Ctx):=(vL M c).2.2.2.2.2.2.2.1
def qso:=@vI M _ QT [.tmp 6] [a0,a1,a2] (by kernel_rfl) H Q
def yb(M:ak)(c:Ctx):=(cB M c).1
def qm9:=@vI M _ P6 [.cR 11 4,.tmp 5] [a0,a1] (by kernel_rfl) H Q
def q57(M:ak)(c:Ctx):=(cB M c).2.1
def q56:=@vI M _ S9 [.tmp 4] [a0,a1] (by kernel_rfl) H Q
def q55(M:ak)(c:Ctx):=(cB M c).2.2.1
def q54:=@vI M _ S7 [.tmp 4] [a0,a1] (by kernel_rfl) H Q
def q6d(M:ak)(c:Ctx):=(cB M c).2.2.2.1
def q6c:=@vI M _ Yb [] [a0,a1] (by kernel_rfl) H Q
def xa2(M:ak)(c:Ctx):=(cB M c).2.2.2.2.1
def xa1:=@vI M _ U6 [.tmp 4,.tmp 5] [a0,a1] (by kernel_rfl) H Q
def h_(M:ak)(c:Ctx):=(cB M c).2.2.2.2.2.1
def lh:=@vI M _ RC [.tmp 6] [a0,a1,a2] (by kernel_rfl) H Q
def qwp(M:ak)(c:Ctx):=(cB M c).2.2.2.2.2.2.1
def qwo:=@vI M _ JE [.tmp 3] [a0,a1] (by kernel_rfl) H Q
def qoh(M:ak)(c:Ctx):=(cB M c).2.2.2.2.2.2.2
def qog:=@vI M _ YZ [.tmp 6] [a0,a1,a2] (by kernel_rfl) H Q
abbrev qhk:Nat:=210
abbrev Zz:Nat:=125
abbrev Sr:Nat:=160
abbrev Ry:Nat:=161
abbrev T9:Nat:=162
abbrev Uj:Nat:=163
abbrev Oj:Nat:=159
abbrev Mp:Nat:=190
abbrev VQ:Nat:=191
abbrev zA:Nat:=60
abbrev je:Nat:=135
abbrev AN:Nat:=108
abbrev yk:Nat:=0
abbrev YE:tO:=[(125,⟨[0,1,2,3,4,5,6,7,8,9,10,11,12,13,14,49],B2,[0,2,10,14,18,22,129,38,50,62,74,86,98,110,122]⟩,[(7,[0,2,4,8,10,12,16,18,20,6,13,21,14,21,22,24,26,28])]),(160,⟨[0,1,2,4,5],B2,[0]⟩,[]),(161,⟨[0,1,2,4,5],B2,[0,2,10,18]⟩,[]),(162,⟨[0,1,3,5],B2,[0]⟩,[]),(163,⟨[0,1,3],B2,[0]⟩,[]),(191,⟨[0,1,4],B2,[0]⟩,[]),(210,⟨[0,1,4],B2,[0]⟩,[])]
def U2(n:Nat):Kp:=jH n YE
def X5(n k:Nat):Kp×ai:=(U2 n,part (aZ Tryz.prog n) k)
def q17(n k:Nat):X5 n k=(U2 n,part (aZ Tryz.prog n) k):=rfl
def LR:=@kO M _ X5 U2 q17
attribute [local irreducible] X5
def K5(M:ak)(c:Ctx):=by
 have h:=oO q17 M c YE (by kernel_rfl)
 conv at h=>arg 5;reduce
 delta PR RL nV gI nG gF oK iF mI fP gG fX om nR qD rW rV YE at h
 simp only[zT,Ae,Al,An,A4,QY]at h;exact h
def DD(M:ak)(c:Ctx):=(K5 M c).1
def Ew:=@LR M _ Zz [.cR 5 6] [a0,a1,a2] (by kernel_rfl) H Q
def X8:bW:=funcAt Tryz.prog Oj
def N':Kp:=⟨[0,1,2,3,4,5,6,19,20],B2,[0,4,9,15,26,27]⟩
def yB(k:Nat):Kp×ai:=(N',part X8.body k)
def xee(M:ak)(c:Ctx):(WE M c (yB 0) λ Q E D H=>Lz E 0 λ g f=>A3 g AN (AV.cells f) H λ g b H1=>Fl g 0 b H1 λ g h=>C3 M g (.func Mp) [h] H1 λ g a o=>B3 g ((Op.extract 0) [a]) λ g d=>B3 g ((Op.extract 1) [a]) λ g e=>W M c (yB 4) g Q ((4,e)::(3,d)::(2,(.bool B2))::(1,b)::E) D o) /\
 (WE M c (yB 4) λ Q E D H=>Lz E 1 λ g a=>Fl g 1 a H λ g b=>Fl g 2 a H λ g d=>Fl g 3 a H λ g e=>B3 g ((Op.build [(.int .i64 0),(.int .i64 0),(.int .i64 0)] [(0,1),(1,1),(2,1)]) [b,d,e]) λ g f=>da (W M c (yB 9)) (eS 0 (fj (W M c (yB 27)) Q)) ((20,(.int .i64 0))::(19,f)::E) D H) /\
 (WE M c (yB 27) λ Q E D H=>Lz E 4 λ g a=>rD g Q .ret ((2,a)::E) D H) /\
 (WE M c (yB 9) λ Q E D H=>Lz E 20 λ g a=>Cb g .lss a (.int .i64 3) (λ g=>Gt g M c (yB 15) Q E D H) (λ g=>rD g (fj (W M c (yB 15)) Q) (.exit 0) E D H)) /\
 (WE M c (yB 15) λ Q E D H=>Lz E 20 λ g b=>Ly g E 19 λ g j=>B3 g ((Op.bE 3 1 B5) [j,b]) λ g a=>Ly g E 3 λ g r=>B3 g (Op.bN [(.str [65,66,67]),b]) λ g l=>C3 M g (.func VQ) [r,l] H λ g m H1=>Bn g .geq m (.int .i64 0) λ g e=>JN (λ(k:Bool->AV->AV->AV->ar->Prop)=>B3 g (cP B4 (B1 e)) λ g w=>ua g w (λ g=>Bn g .lss a (.int .i64 0) λ g i=>k g i i a H1) (λ g=>k g uu uu uu H1)) (λ g d _ _ o=>JN (λ(k:Bool->AV->AV->ar->Prop)=>B3 g (cP B2 (B1 d)) λ g w=>ua g w (λ g=>Bn g .geq a (.int .i64 8) λ g n=>k g n a o) (λ g=>k g uu uu o)) (λ g f _ s=>JN (λ(k:Bool->AV->ar->Prop)=>B3 g (cP B4 (B1 e)) λ g w=>ua g w (λ g=>B3 g (Op.pick [d,(.bool B4),f]) λ g p=>k g p s) (λ g=>k g uu s)) (λ g h t=>B3 g (Op.pick [e,h,(.bool B2)]) λ g q=>mS g q (λ g=>rD g (eS 1 (fj (W M c (yB 26)) Q)) .ret ((2,(.bool B2))::(6,a)::(5,b)::E) D t) (λ g=>rD g (eS 1 (fj (W M c (yB 26)) Q)) .normal ((6,a)::(5,b)::E) D t))))) /\
 (WE M c (yB 26) λ Q E D H=>Lz E 20 λ g a=>Bn g .add a (.int .i64 1) λ g b=>rD g Q .normal ((20,b)::E) D H):=by(repeat' apply GF)<;>(intro _ _ _ _;refine A6 ?_;kernel_rfl)
def xec:(aX Tryz.prog).func Oj=B1 X8/\X8.results=[.tmp 2]:=k_ (by kernel_rfl)
def xed(h:W M ⟨B5,Oj⟩ (yB 0) B4 (fh M [.tmp 2] Q) [(0,a0)] [] H):Fp M Oj [a0] H Q:=D7 (by decide) xec (ks:=N') (by kernel_rfl) h
def xhw(M:ak)(c:Ctx):=(K5 M c).2.1
def xhv:=@LR M _ Sr [.cR 5 4] [a0,a1,a2] (by kernel_rfl) H Q
def xhy(M:ak)(c:Ctx):=(K5 M c).2.2.1
def xhx:=@LR M _ Ry [.cR 5 4] [a0,a1,a2] (by kernel_rfl) H Q
def xh0(M:ak)(c:Ctx):=(K5 M c).2.2.2.1
def xhz:=@LR M _ T9 [.cR 5 3] [a0,a1] (by kernel_rfl) H Q
def xh2(M:ak)(c:Ctx):=(K5 M c).2.2.2.2.1
def xh1:=@LR M _ Uj [.tmp 3] [a0,a1] (by kernel_rfl) H Q
def YX:bW:=funcAt Tryz.prog Mp
def q32:Kp:=⟨[0,2,3],B2,[0,2,10]⟩
def MC(k:Nat):Kp×ai:=(q32,part YX.body k)
def xeh(M:ak)(c:Ctx):(WE M c (MC 0) λ Q E D H=>W M c (MC 2) B4 Q ((3,(.bool B2))::(2,(.str []))::E) D H) /\
 (WE M c (MC 2) λ Q E D H=>Lz E 0 λ g a=>Bn g .lss a (.int .i64 1) λ g d=>JN (λ(k:Bool->AV->AV->ar->Prop)=>B3 g (cP B2 (B1 d)) λ g w=>ua g w (λ g=>Bn g .geq a (.int .i64 19) λ g e=>k g e a H) (λ g=>k g uu uu H)) (λ g b _ H1=>B3 g (Op.pick [d,(.bool B4),b]) λ g f=>mS g f (λ g=>rD g (fj (W M c (MC 10)) Q) .ret ((3,(.bool B2))::(2,(.str []))::E) D H1) (λ g=>Gt g M c (MC 10) Q E D H1))) /\
 (WE M c (MC 10) λ Q E D H=>Lz E 0 λ g d=>B3 g ((Op.aR 19 2) [(.ptr yk 0),d]) λ g a=>Fl g 1 a H λ g b=>rD g Q .ret ((3,(.bool B4))::(2,b)::E) D H):=by(repeat' apply GF)<;>(intro _ _ _ _;refine A6 ?_;kernel_rfl)
def xef:(aX Tryz.prog).func Mp=B1 YX/\YX.results=[.tmp 2,.tmp 3]:=k_ (by kernel_rfl)
def xeg(h:W M ⟨B5,Mp⟩ (MC 0) B4 (fh M [.tmp 2,.tmp 3] Q) [(0,a0)] [] H):Fp M Mp [a0] H Q:=D7 (by decide) xef (ks:=q32) (by kernel_rfl) h
def quc(M:ak)(c:Ctx):=(K5 M c).2.2.2.2.2.1
def qub:=@LR M _ VQ [.tmp 4] [a0,a1] (by kernel_rfl) H Q
def _T(M:ak)(c:Ctx):=(K5 M c).2.2.2.2.2.2
def qhl:=@LR M _ qhk [.tmp 4] [a0,a1] (by kernel_rfl) H Q
abbrev qp4:Nat:=126
abbrev _2:Nat:=178
abbrev vo:Nat:=145
abbrev M_:Nat:=123
abbrev qkt:Nat:=92
abbrev qoz:Nat:=132
abbrev WN:Nat:=128
abbrev qlp:Nat:=121
abbrev qo0:Nat:=156
abbrev F_:Nat:=164
abbrev q7d:Nat:=57
abbrev HX:Nat:=180
abbrev P9:Nat:=177
abbrev WZ:tO:=[(57,⟨[0],B2,[0]⟩,[]),(128,⟨[0,1,2,6,7],B2,[0,4,10]⟩,[]),(126,⟨[0,2,8],B2,[0,2,10]⟩,[]),(123,⟨[0,2],B2,[0,2,10]⟩,[]),(145,⟨[0,1,4],B2,[0,2,10,18]⟩,[]),(132,⟨[0,2,3],B2,[0,2,10]⟩,[]),(92,⟨[0,2,3],B2,[0,4,10]⟩,[]),(178,⟨[0,2,3],B2,[0,4,10]⟩,[]),(164,⟨[0,1,4],B2,[0,2,10,18]⟩,[]),(156,⟨[0,2],B2,[0]⟩,[]),(121,⟨[0,2],B2,[0,2,10,18]⟩,[])]
def X1(n:Nat):Kp:=jH n WZ
def Zu(n k:Nat):Kp×ai:=(X1 n,part (aZ Tryz.prog n) k)
def I'(n k:Nat):Zu n k=(X1 n,part (aZ Tryz.prog n) k):=rfl
def Bc:=@kO M _ Zu X1 I'
attribute [local irreducible] Zu
def A7(M:ak)(c:Ctx):=by
 have h:=oO I' M c WZ (by kernel_rfl)
 conv at h=>arg 5;reduce
 delta PR RL nV gI nG gF oK mI fP gG fX om nR rW rV WZ at h
 simp only[zT,Ae,Al,An,A4,QY]at h;exact h
def xis(M:ak)(c:Ctx):=(A7 M c).1
def xir:=@Bc M _ q7d [.tmp 0] [] (by kernel_rfl) H Q
def E_(M:ak)(c:Ctx):=(A7 M c).2.1
def q5k:=@Bc M _ WN [.tmp 6] [a0,a1,a2] (by kernel_rfl) H Q
def q5j(M:ak)(c:Ctx):=(A7 M c).2.2.1
def q5i:=@Bc M _ qp4 [.cR 8 2] [a0] (by kernel_rfl) H Q
def q64(M:ak)(c:Ctx):=(A7 M c).2.2.2.1
def q63:=@Bc M _ M_ [.tmp 2] [a0] (by kernel_rfl) H Q
def _J(M:ak)(c:Ctx):=(A7 M c).2.2.2.2.1
def q0j:=@Bc M _ vo [.tmp 4] [a0,a1] (by kernel_rfl) H Q
def q0l(M:ak)(c:Ctx):=(A7 M c).2.2.2.2.2.1
def q0k:=@Bc M _ qoz [.tmp 2] [a0] (by kernel_rfl) H Q
def TY(M:ak)(c:Ctx):=(A7 M c).2.2.2.2.2.2.1
def qtv:=@Bc M _ qkt [.tmp 2] [a0] (by kernel_rfl) H Q
def W_(M:ak)(c:Ctx):=(A7 M c).2.2.2.2.2.2.2.1
def q0i:=@Bc M _ _2 [.tmp 2] [a0] (by kernel_rfl) H Q
def W7(M:ak)(c:Ctx):=(A7 M c).2.2.2.2.2.2.2.2.1
def qxy:=@Bc M _ F_ [.tmp 4] [a0,a1] (by kernel_rfl) H Q
def q0n(M:ak)(c:Ctx):=(A7 M c).2.2.2.2.2.2.2.2.2.1
def q0m:=@Bc M _ qo0 [.tmp 2] [a0] (by kernel_rfl) H Q
def iw(M:ak)(c:Ctx):=(A7 M c).2.2.2.2.2.2.2.2.2.2
def qvv:=@Bc M _ qlp [.tmp 2] [a0] (by kernel_rfl) H Q
abbrev qim:Nat:=93
abbrev Λ:Nat:=155
abbrev qin:Nat:=133
abbrev qjl:Nat:=76
abbrev qjm:Nat:=119
abbrev qio:Nat:=177
abbrev qko:Nat:=120
abbrev vz:Nat:=122
abbrev qjn:Nat:=90
abbrev yc:Nat:=157
abbrev wv:Nat:=187
abbrev q1z:Nat:=55
abbrev _a:Nat:=70
abbrev NK:Nat:=171
abbrev JJ:Nat:=26
abbrev y9:Nat:=175
abbrev RQ:Nat:=125
abbrev VJ:tO:=[(55,⟨[0,1,2,3,4,5],B2,[0,4,12]⟩,[]),(133,⟨[0,2,3],B2,[0,2,10,18]⟩,[]),(93,⟨[0,1,4,5],B2,[0,2,10,18,26,28,39]⟩,[]),(177,⟨[0,2],B2,[0,2,10,18]⟩,[]),(119,⟨[0,2],B2,[0,2,10]⟩,[]),(120,⟨[0,2,3,5,7,8],B2,[0,4,21,9,15,20]⟩,[]),(155,⟨[0,2,5],B2,[0,2,10]⟩,[]),(76,⟨[0,2],B2,[0]⟩,[]),(70,⟨[0,1,2,3,4,5,6,14,15,16],B2,[0,4,27,9,15,26]⟩,[]),(90,⟨[0,2],B2,[0]⟩,[]),(122,⟨[0,1,2,4,7,8],B2,[0]⟩,[]),(300122,⟨[0,1,2,4,7,8],B2,[0]⟩,[]),(200122,⟨[0,1,2,4,7,8],B2,[0]⟩,[]),(157,⟨[0,1,2,3,4],B2,[0]⟩,[]),(187,⟨[0,1,2,4],B2,[0,4,10,17]⟩,[])]
def XG(n:Nat):Kp:=jH n VJ
def Q3(n k:Nat):Kp×ai:=(XG n,part (aZ Tryz.prog n) k)
def q2c(n k:Nat):Q3 n k=(XG n,part (aZ Tryz.prog n) k):=rfl
def Ac:=@kO M _ Q3 XG q2c
attribute [local irreducible] Q3
def wB(M:ak)(c:Ctx):=by
 have h:=oO q2c M c VJ (by kernel_rfl)
 conv at h=>arg 5;reduce
 delta PR RL nV gI nG gF oK mI fP gG fX om qI sF nR qD rW rV VJ at h
 simp only[zT,Ae,Al,An,A4,QY]at h;exact h
def cC(M:ak)(c:Ctx):=(wB M c).2.2.2.2.2.2.2.2
def W5(M:ak)(c:Ctx):=(wB M c).1
def xej:=@Ac M _ q1z [.tmp 2,.tmp 3] [a0] (by kernel_rfl) H Q
def _K(M:ak)(c:Ctx):=(wB M c).2.1
def qqv:=@Ac M _ qin [.tmp 2,.tmp 3] [a0] (by kernel_rfl) H Q
def ju(M:ak)(c:Ctx):=(wB M c).2.2.1
def qqu:=@Ac M _ qim [.tmp 4,.tmp 5] [a0,a1] (by kernel_rfl) H Q
def G'(M:ak)(c:Ctx):=(wB M c).2.2.2.1
def qqw:=@Ac M _ qio [.tmp 2] [a0] (by kernel_rfl) H Q
def qr3(M:ak)(c:Ctx):=(wB M c).2.2.2.2.1
def qr2:=@Ac M _ qjm [.tmp 2] [a0] (by kernel_rfl) H Q
def YC(M:ak)(c:Ctx):=(wB M c).2.2.2.2.2.1
def qtn:=@Ac M _ qko [.tmp 2] [a0] (by kernel_rfl) H Q
def qpj(M:ak)(c:Ctx):=(wB M c).2.2.2.2.2.2.1
def qpi:=@Ac M _ Λ [.cR 5 2] [a0] (by kernel_rfl) H Q
def Z6(M:ak)(c:Ctx):=(wB M c).2.2.2.2.2.2.2.1
def qr1:=@Ac M _ qjl [.tmp 2] [a0] (by kernel_rfl) H Q
def Rm(M:ak)(c:Ctx):=(cC M c).1
def q4i:=@Ac M _ _a [.cR 5 2,.tmp 3] [a0] (by kernel_rfl) H Q
def qr6(M:ak)(c:Ctx):=(cC M c).2.1
def qr5:=@Ac M _ qjn [.tmp 2] [a0] (by kernel_rfl) H Q
def TJ:bW:=funcAt Tryz.prog vz
def O1:dV:=iz TJ 0
abbrev UL(k:Nat):Kp×ai:=Q3 300122 k
abbrev VT(k:Nat):Kp×ai:=Q3 200122 k
def _Y:nth TJ.loops 0=B1 O1/\O1.params=[8]:=⟨by kernel_rfl,by kernel_rfl⟩
def qpk:(UL 0).1.ah=[0,1,2,4,7,8]/\(UL 0).2=O1.assign:=⟨by kernel_rfl,by kernel_rfl⟩
def qpl:(VT 0).1.ah=[0,1,2,4,7,8]/\(VT 0).2=O1.body:=⟨by kernel_rfl,by kernel_rfl⟩
def qqx:M.func vz=B1 TJ:=MK.at (by decide) (by kernel_rfl)
def _O(M:ak)(c:Ctx):=GF (cC M c).2.2.1 (GF (cC M c).2.2.2.1 ((cC M c).2.2.2.2.1))
def qr4:=@Ac M _ vz [] [a0,a1] (by kernel_rfl) H Q
def qr8(M:ak)(c:Ctx):=(cC M c).2.2.2.2.2.1
def qr7:=@Ac M _ yc [.tmp 4] [a0,a1] (by kernel_rfl) H Q
def PQ(M:ak)(c:Ctx):=(cC M c).2.2.2.2.2.2
def qpm:=@Ac M _ wv [] [a0,a1,a2] (by kernel_rfl) H Q
abbrev v8:Nat:=173
abbrev ε:Nat:=193
abbrev _0:Nat:=217
abbrev qpz:Nat:=229
abbrev κ:Nat:=216
abbrev fm:Nat:=196
abbrev qos:Nat:=197
abbrev G_:Nat:=199
abbrev xo:Nat:=71
abbrev _H:Nat:=233
abbrev Z1:Nat:=200
abbrev _v:Nat:=211
abbrev qsk:Nat:=219
abbrev Rb:Nat:=220
abbrev qp7:Nat:=237
abbrev vi:Nat:=239
abbrev nI:Nat:=136
abbrev vq:Nat:=253
abbrev TQ:Nat:=215
abbrev JP:Nat:=213
abbrev Yp:tO:=[(71,⟨[0],B2,[0]⟩,[]),(217,⟨[0,1,2,6,8],B2,[0,2,10,18,28]⟩,[]),(196,⟨[0,1,2,6,7,8],B2,[0,2,10,18,30]⟩,[]),(216,⟨[0,1,4,5],B2,[0,2,10]⟩,[]),(193,⟨[0,1,4,5],B2,[0,2,10]⟩,[]),(229,⟨[0,2],B2,[0,2,10]⟩,[]),(197,⟨[0,2],B2,[0,2,10]⟩,[]),(173,⟨[0,2],B2,[0,2,10]⟩,[]),(199,⟨[0,2],B2,[0]⟩,[]),(211,⟨[0,1,4,5,6,7],B2,[0,4,12]⟩,[]),(219,⟨[0,1,2,6],B2,[0,2,10]⟩,[]),(220,⟨[0,2,3,5,7,8,9],B2,[0,4,9]⟩,[]),(300220,⟨[0,2,3,5,7,8,9],B2,[0]⟩,[]),(200220,⟨[0,2,3,5,7,8,9],B2,[0]⟩,[]),(200,⟨[0],B2,[0]⟩,[]),(233,⟨[0,2],B2,[0]⟩,[]),(237,⟨[0,1,2],B2,[0]⟩,[]),(239,⟨[0,1,3,4,5,6,7],B2,[0,4,10,19]⟩,[])]
def UE(n:Nat):Kp:=jH n Yp
def Oz(n k:Nat):Kp×ai:=(UE n,part (aZ Tryz.prog n) k)
def sA(n k:Nat):Oz n k=(UE n,part (aZ Tryz.prog n) k):=rfl
def vM:=@kO M _ Oz UE sA
attribute [local irreducible] Oz
def sC(M:ak)(c:Ctx):=by
 have h:=oO sA M c Yp (by kernel_rfl)
 conv at h=>arg 5;reduce
 delta PR RL nV gI nG gF oK mI fP gG fX om qI sF nR qD rW rV Yp at h
 simp only[zT,Ae,Al,An,A4,QY]at h;exact h
def cL(M:ak)(c:Ctx):=(sC M c).2.2.2.2.2.2.2.2
def cU(M:ak)(c:Ctx):=(cL M c).2.2.2.2.2.2.2.2
def xld(M:ak)(c:Ctx):=(sC M c).1
def xlc:=@vM M _ xo [.tmp 0] [] (by kernel_rfl) H Q
def qs0(M:ak)(c:Ctx):=(sC M c).2.1
def q6u:=@vM M _ _0 [.tmp 6] [a0,a1,a2] (by kernel_rfl) H Q
def qqz(M:ak)(c:Ctx):=(sC M c).2.2.1
def q4o:=@vM M _ fm [.tmp 6] [a0,a1,a2] (by kernel_rfl) H Q
def q9n(M:ak)(c:Ctx):=(sC M c).2.2.2.1
def q9m:=@vM M _ κ [.tmp 4,.tmp 5] [a0,a1] (by kernel_rfl) H Q
def q6t(M:ak)(c:Ctx):=(sC M c).2.2.2.2.1
def q6s:=@vM M _ ε [.tmp 4,.tmp 5] [a0,a1] (by kernel_rfl) H Q
def q4n(M:ak)(c:Ctx):=(sC M c).2.2.2.2.2.1
def q4m:=@vM M _ qpz [.tmp 2] [a0] (by kernel_rfl) H Q
def qzv(M:ak)(c:Ctx):=(sC M c).2.2.2.2.2.2.1
def qzu:=@vM M _ qos [.tmp 2] [a0] (by kernel_rfl) H Q
def q4l(M:ak)(c:Ctx):=(sC M c).2.2.2.2.2.2.2.1
def q4k:=@vM M _ v8 [.tmp 2] [a0] (by kernel_rfl) H Q
def q6w(M:ak)(c:Ctx):=(cL M c).1
def q6v:=@vM M _ G_ [.tmp 2] [a0] (by kernel_rfl) H Q
def F4(M:ak)(c:Ctx):=(cL M c).2.1
def q4p:=@vM M _ _v [.tmp 4,.tmp 5] [a0,a1] (by kernel_rfl) H Q
def D_(M:ak)(c:Ctx):=(cL M c).2.2.1
def q6z:=@vM M _ qsk [.tmp 6] [a0,a1,a2] (by kernel_rfl) H Q
def Ty:bW:=funcAt Tryz.prog Rb
def Q5:dV:=iz Ty 0
abbrev Y0(k:Nat):Kp×ai:=Oz 300220 k
abbrev VU(k:Nat):Kp×ai:=Oz 200220 k
def qy1:nth Ty.loops 0=B1 Q5/\Q5.params=[8,9]:=⟨by kernel_rfl,by kernel_rfl⟩
def xb1:(Y0 0).1.ah=[0,2,3,5,7,8,9]/\(Y0 0).2=Q5.assign:=⟨by kernel_rfl,by kernel_rfl⟩
def xb2:(VU 0).1.ah=[0,2,3,5,7,8,9]/\(VU 0).2=Q5.body:=⟨by kernel_rfl,by kernel_rfl⟩
def xel:M.func Rb=B1 Ty:=MK.at (by decide) (by kernel_rfl)
def Wv(M:ak)(c:Ctx):=GF (cL M c).2.2.2.1.1 (GF (cL M c).2.2.2.2.1 (GF (cL M c).2.2.2.2.2.1 (GF (cL M c).2.2.2.1.2.1 ((cL M c).2.2.2.1.2.2))))
def xh7:=@vM M _ Rb [.tmp 2] [a0] (by kernel_rfl) H Q
def qzx(M:ak)(c:Ctx):=(cL M c).2.2.2.2.2.2.1
def qzw:=@vM M _ Z1 [] [a0] (by kernel_rfl) H Q
def q6y(M:ak)(c:Ctx):=(cL M c).2.2.2.2.2.2.2.1
def q6x:=@vM M _ _H [.tmp 2] [a0] (by kernel_rfl) H Q
def qq7(M:ak)(c:Ctx):=(cU M c).1
def qq6:=@vM M _ qp7 [.tmp 2] [a0] (by kernel_rfl) H Q
def T3(M:ak)(c:Ctx):=(cU M c).2
def qod:=@vM M _ vi [] [a0,a1] (by kernel_rfl) H Q
abbrev q7e:Nat:=58
abbrev B':Nat:=135
abbrev m8:Nat:=142
abbrev ο:Nat:=171
abbrev oS:Nat:=176
abbrev t8:Nat:=140
abbrev _p:Nat:=165
abbrev υ:Nat:=138
abbrev _W:Nat:=158
abbrev qmy:Nat:=170
abbrev qmz:Nat:=167
abbrev Z9:Nat:=137
abbrev p_:Nat:=139
abbrev _S:Nat:=223
abbrev i_:Nat:=222
abbrev VF:Nat:=235
abbrev U0:Nat:=236
abbrev U8:Nat:=206
abbrev qp9:Nat:=203
abbrev Qs:Nat:=225
abbrev qm0:Nat:=174
abbrev qkw:Nat:=202
abbrev Γ:Nat:=204
abbrev T8:Nat:=209
abbrev qm1:Nat:=194
abbrev _D:Nat:=212
abbrev wo:Nat:=213
abbrev XC:Nat:=215
abbrev Sx:Nat:=189
abbrev Vd:Nat:=208
abbrev ZX:Nat:=201
abbrev QJ:Nat:=224
abbrev g_:Nat:=172
abbrev Tu:Nat:=218
abbrev J':Nat:=188
abbrev ZS:Nat:=205
abbrev SD:Nat:=226
abbrev qm3:Nat:=234
abbrev qky:Nat:=238
abbrev Wf:Nat:=198
abbrev t_:Nat:=221
abbrev qkz:Nat:=192
abbrev qjp:Nat:=214
abbrev iu:Nat:=228
abbrev T2:Nat:=230
abbrev S6:Nat:=231
abbrev SA:Nat:=232
abbrev Zs:Nat:=175
abbrev Ga:Nat:=1
abbrev LS:Nat:=293
abbrev SW:Nat:=294
abbrev CY:Nat:=184
abbrev L4:Nat:=131
abbrev EP:Nat:=187
abbrev W9:Nat:=31
abbrev Yx:tO:=[(58,⟨[0],B2,[0]⟩,[]),(135,⟨[0,2],B2,[0,2,10,18]⟩,[]),(165,⟨[0,1,4,5,6,7],B2,[0,2,12,24]⟩,[]),(170,⟨[0,1,2,6,7],B2,[0,4,12]⟩,[]),(171,⟨[0,2,3],B2,[0,2,12,14,24]⟩,[]),(158,⟨[0,2,3],B2,[0,4,12]⟩,[]),(137,⟨[0,2,3,4],B2,[0,2,10]⟩,[(3,[0,2,4,6,8,10,12,14,16,18,15,17,20])]),(140,⟨[0,1,2,6,7],B2,[0,2,10,12,20]⟩,[]),(142,⟨[0,2],B2,[0]⟩,[]),(167,⟨[0,2],B2,[0,2,10]⟩,[]),(176,⟨[0,2],B2,[0,2,10]⟩,[]),(138,⟨[0,2],B2,[0,2,10]⟩,[]),(139,⟨[0,2],B2,[0]⟩,[]),(172,⟨[0,2],B2,[0]⟩,[]),(174,⟨[0,1,2,3,4,5],B2,[0]⟩,[]),(175,⟨[0],B2,[0]⟩,[]),(192,⟨[0,1,4,5],B2,[0,4,12]⟩,[]),(194,⟨[0,1,2,3],B2,[0]⟩,[]),(189,⟨[0,1,2,3],B2,[0]⟩,[]),(188,⟨[0,2],B2,[0,2,10,18]⟩,[]),(198,⟨[0,1],B2,[0]⟩,[]),(201,⟨[0,1,2,5],B2,[0]⟩,[]),(202,⟨[0,1,2,3],B2,[0]⟩,[]),(205,⟨[0,1,2,3],B2,[0]⟩,[]),(206,⟨[0,1],B2,[0]⟩,[]),(212,⟨[0,1,2,3],B2,[0]⟩,[]),(208,⟨[0,1],B2,[0]⟩,[(0,[0,2,4,6,8,10,3,5,12,14,16])]),(203,⟨[0,1,2,3,4,9],B2,[0]⟩,[]),(221,⟨[0,1],B2,[0,8]⟩,[(4,[0,2,4,6,8,10,1,12])]),(223,⟨[0,1,2,4],B2,[0]⟩,[]),(224,⟨[0,1,2],B2,[0]⟩,[]),(204,⟨[0,1,2,3],B2,[0,8]⟩,[]),(226,⟨[0,1,2],B2,[0,8]⟩,[]),(209,⟨[0],B2,[0]⟩,[]),(218,⟨[0,1],B2,[0]⟩,[]),(213,⟨[0,1,2,3,5,6],B2,[0,8,10,18]⟩,[]),(225,⟨[0,1,2],B2,[0]⟩,[]),(214,⟨[0,1,2,3],B2,[0]⟩,[]),(222,⟨[0,1,2,3],B2,[0,2,10]⟩,[]),(215,⟨[0,1],B2,[0]⟩,[]),(228,⟨[0,1,2,3,4,5,6,7,8],B2,[0]⟩,[]),(234,⟨[0,1,2,3,7],B2,[0]⟩,[]),(235,⟨[0,1],B2,[0]⟩,[]),(236,⟨[0],B2,[0]⟩,[]),(230,⟨[0,1,2,3,4],B2,[0,8]⟩,[]),(231,⟨[0,1,2,3],B2,[0,8]⟩,[]),(232,⟨[0,1,2,3,4],B2,[0,8]⟩,[]),(238,⟨[0,1,2],B2,[0]⟩,[])]
def Wg(n:Nat):Kp:=jH n Yx
def YV(n k:Nat):Kp×ai:=(Wg n,part (aZ Tryz.prog n) k)
def q2f(n k:Nat):YV n k=(Wg n,part (aZ Tryz.prog n) k):=rfl
def jb:=@kO M _ YV Wg q2f
attribute [local irreducible] YV
def ja(M:ak)(c:Ctx):=by
 have h:=oO q2f M c Yx (by kernel_rfl)
 conv at h=>arg 5;reduce
 delta PR RL nV gI nG gF oK iF mI fP gG fX om nR qD rW rV Yx at h
 simp only[zT,Ae,Al,An,A4,QY]at h;exact h
def cY(M:ak)(c:Ctx):=(ja M c).2.2.2.2.2.2.2.2
def dN(M:ak)(c:Ctx):=(cY M c).2.2.2.2.2.2.2.2
def ea(M:ak)(c:Ctx):=(dN M c).2.2.2.2.2.2.2.2
def eb(M:ak)(c:Ctx):=(ea M c).2.2.2.2.2.2.2.2
def ed(M:ak)(c:Ctx):=(eb M c).2.2.2.2.2.2.2.2
def xiz(M:ak)(c:Ctx):=(ja M c).1
def xiy:=@jb M _ q7e [.tmp 0] [] (by kernel_rfl) H Q
def U5(M:ak)(c:Ctx):=(ja M c).2.1
def qx0:=@jb M _ B' [.tmp 2] [a0] (by kernel_rfl) H Q
def Ud(M:ak)(c:Ctx):=(ja M c).2.2.1
def q0s:=@jb M _ _p [.tmp 4] [a0,a1] (by kernel_rfl) H Q
def Rf(M:ak)(c:Ctx):=(ja M c).2.2.2.1
def qx3:=@jb M _ qmy [.tmp 6] [a0,a1,a2] (by kernel_rfl) H Q
def Xo(M:ak)(c:Ctx):=(ja M c).2.2.2.2.1
def qvz:=@jb M _ ο [.tmp 2] [a0] (by kernel_rfl) H Q
def Ur(M:ak)(c:Ctx):=(ja M c).2.2.2.2.2.1
def q0t:=@jb M _ _W [.tmp 2] [a0] (by kernel_rfl) H Q
def q0v(M:ak)(c:Ctx):=(ja M c).2.2.2.2.2.2.1
def q0u:=@jb M _ Z9 [.cR 4 2,.tmp 3] [a0] (by kernel_rfl) H Q
def gX(M:ak)(c:Ctx):=(ja M c).2.2.2.2.2.2.2.1
def q0r:=@jb M _ t8 [.tmp 6] [a0,a1,a2] (by kernel_rfl) H Q
def q0q(M:ak)(c:Ctx):=(cY M c).1
def q0p:=@jb M _ m8 [.tmp 2] [a0] (by kernel_rfl) H Q
def qx5(M:ak)(c:Ctx):=(cY M c).2.1
def qx4:=@jb M _ qmz [.tmp 2] [a0] (by kernel_rfl) H Q
def qx2(M:ak)(c:Ctx):=(cY M c).2.2.1
def qx1:=@jb M _ oS [.tmp 2] [a0] (by kernel_rfl) H Q
def qv1(M:ak)(c:Ctx):=(cY M c).2.2.2.1
def qv0:=@jb M _ υ [.tmp 2] [a0] (by kernel_rfl) H Q
def qt0(M:ak)(c:Ctx):=(cY M c).2.2.2.2.1
def qtz:=@jb M _ p_ [.tmp 2] [a0] (by kernel_rfl) H Q
def q02(M:ak)(c:Ctx):=(cY M c).2.2.2.2.2.1
def q01:=@jb M _ g_ [.tmp 2] [a0] (by kernel_rfl) H Q
def qyb(M:ak)(c:Ctx):=(cY M c).2.2.2.2.2.2.1
def qya:=@jb M _ qm0 [] [a0,a1,a2] (by kernel_rfl) H Q
def q06(M:ak)(c:Ctx):=(cY M c).2.2.2.2.2.2.2.1
def q05:=@jb M _ Zs [] [a0] (by kernel_rfl) H Q
def Yr(M:ak)(c:Ctx):=(dN M c).1
def qt9:=@jb M _ qkz [.tmp 4] [a0,a1] (by kernel_rfl) H Q
def qyd(M:ak)(c:Ctx):=(dN M c).2.1
def qyc:=@jb M _ qm1 [] [a0,a1] (by kernel_rfl) H Q
def qyf(M:ak)(c:Ctx):=(dN M c).2.2.1
def qye:=@jb M _ Sx [] [a0,a1] (by kernel_rfl) H Q
def qyj(M:ak)(c:Ctx):=(dN M c).2.2.2.1
def qyi:=@jb M _ J' [.tmp 2] [a0] (by kernel_rfl) H Q
def q04(M:ak)(c:Ctx):=(dN M c).2.2.2.2.1
def q03:=@jb M _ Wf [] [a0] (by kernel_rfl) H Q
def q00(M:ak)(c:Ctx):=(dN M c).2.2.2.2.2.1
def q0z:=@jb M _ ZX [] [a0,a1,a2] (by kernel_rfl) H Q
def qt2(M:ak)(c:Ctx):=(dN M c).2.2.2.2.2.2.1
def qt1:=@jb M _ qkw [] [a0,a1,a2,a3] (by kernel_rfl) H Q
def qv9(M:ak)(c:Ctx):=(dN M c).2.2.2.2.2.2.2.1
def qv8:=@jb M _ ZS [] [a0,a1] (by kernel_rfl) H Q
def qx7(M:ak)(c:Ctx):=(ea M c).1
def qx6:=@jb M _ U8 [] [a0,a1] (by kernel_rfl) H Q
def qt4(M:ak)(c:Ctx):=(ea M c).2.1
def qt3:=@jb M _ _D [] [a0,a1,a2] (by kernel_rfl) H Q
def qt6(M:ak)(c:Ctx):=(ea M c).2.2.1
def qt5:=@jb M _ Vd [] [a0,a1] (by kernel_rfl) H Q
def q5s(M:ak)(c:Ctx):=(ea M c).2.2.2.1
def q5r:=@jb M _ qp9 [] [a0,a1,a2,a3,a4] (by kernel_rfl) H Q
def D1(M:ak)(c:Ctx):=(ea M c).2.2.2.2.1
def qwa:=@jb M _ t_ [] [a0,a1] (by kernel_rfl) H Q
def q5q(M:ak)(c:Ctx):=(ea M c).2.2.2.2.2.1
def q5p:=@jb M _ _S [] [a0,a1,a2] (by kernel_rfl) H Q
def qv7(M:ak)(c:Ctx):=(ea M c).2.2.2.2.2.2.1
def qv6:=@jb M _ QJ [] [a0,a1,a2] (by kernel_rfl) H Q
def qi0(M:ak)(c:Ctx):=(ea M c).2.2.2.2.2.2.2.1
def qra:=@jb M _ Γ [] [a0,a1,a2,a3] (by kernel_rfl) H Q
def SC(M:ak)(c:Ctx):=(eb M c).1
def i':=@jb M _ SD [] [a0,a1,a2] (by kernel_rfl) H Q
def q0y(M:ak)(c:Ctx):=(eb M c).2.1
def q0x:=@jb M _ T8 [] [a0] (by kernel_rfl) H Q
def qyh(M:ak)(c:Ctx):=(eb M c).2.2.1
def qyg:=@jb M _ Tu [] [a0,a1] (by kernel_rfl) H Q
def NM(M:ak)(c:Ctx):=(eb M c).2.2.2.1
def qrb:=@jb M _ wo [] [a0,a1,a2,a3] (by kernel_rfl) H Q
def qx9(M:ak)(c:Ctx):=(eb M c).2.2.2.2.1
def qx8:=@jb M _ Qs [] [a0,a1,a2] (by kernel_rfl) H Q
def qsb(M:ak)(c:Ctx):=(eb M c).2.2.2.2.2.1
def qsa:=@jb M _ qjp [] [a0,a1] (by kernel_rfl) H Q
def _u(M:ak)(c:Ctx):=(eb M c).2.2.2.2.2.2.1
def q0w:=@jb M _ i_ [] [a0,a1] (by kernel_rfl) H Q
def qoj(M:ak)(c:Ctx):=(eb M c).2.2.2.2.2.2.2.1
def qoi:=@jb M _ XC [] [a0,a1] (by kernel_rfl) H Q
def qpq(M:ak)(c:Ctx):=(ed M c).1
def qpp:=@jb M _ iu [] [a0,a1,a2] (by kernel_rfl) H Q
def qyl(M:ak)(c:Ctx):=(ed M c).2.1
def qyk:=@jb M _ qm3 [] [a0,a1,a2,a3] (by kernel_rfl) H Q
def qv3(M:ak)(c:Ctx):=(ed M c).2.2.1
def qv2:=@jb M _ VF [] [a0,a1] (by kernel_rfl) H Q
def qv5(M:ak)(c:Ctx):=(ed M c).2.2.2.1
def qv4:=@jb M _ U0 [] [a0] (by kernel_rfl) H Q
def qgq(M:ak)(c:Ctx):=(ed M c).2.2.2.2.1
def qno:=@jb M _ T2 [] [a0,a1,a2,a3,a4] (by kernel_rfl) H Q
def L_(M:ak)(c:Ctx):=(ed M c).2.2.2.2.2.1
def qnp:=@jb M _ S6 [] [a0,a1,a2,a3] (by kernel_rfl) H Q
def _e(M:ak)(c:Ctx):=(ed M c).2.2.2.2.2.2.1
def qnq:=@jb M _ SA [] [a0,a1,a2,a3,a4] (by kernel_rfl) H Q
def qt8(M:ak)(c:Ctx):=(ed M c).2.2.2.2.2.2.2
def qt7:=@jb M _ qky [] [a0,a1,a2] (by kernel_rfl) H Q
abbrev UH:Nat:=41
abbrev Vp:Nat:=77
abbrev XJ:Nat:=78
abbrev qsd:Nat:=127
abbrev qmm:Nat:=101
abbrev _A:Nat:=95
abbrev z_:Nat:=102
abbrev qpu:Nat:=136
abbrev qkj:Nat:=100
abbrev kx:Nat:=141
abbrev Nc:Nat:=98
abbrev _4:Nat:=143
abbrev qop:Nat:=134
abbrev UG:Nat:=129
abbrev Zc:Nat:=124
abbrev C_:Nat:=94
abbrev qoq:Nat:=168
abbrev NR:Nat:=195
abbrev R1:Nat:=144
abbrev Yw:Nat:=96
abbrev Uy:Nat:=166
abbrev Pe:Nat:=130
abbrev qmp:Nat:=97
abbrev VZ:Nat:=59
abbrev _z:Nat:=99
abbrev qlo:Nat:=169
abbrev Qd:Nat:=131
abbrev ZL:Nat:=91
abbrev q7c:Nat:=39
abbrev Z5:Nat:=56
abbrev jj:Nat:=76
abbrev GV:Nat:=140
abbrev wF:Nat:=87
abbrev AU:Nat:=97
abbrev WD:tO:=[(39,⟨[0,1,2,3,6,8,9,10,11],B2,[0,4,12]⟩,[]),(78,⟨[0,2,3,4,5,6,7,11],B2,[0,11,16,30,43,21,35,48,57,64,69,79]⟩,[]),(41,⟨[0,2,3],B2,[0]⟩,[(1,[0,18,2,4,6,8,10,12,14,16,20,15,22,24,26,28,30,32,34,36,38])]),(56,⟨[0,2],B2,[0,2,10]⟩,[]),(94,⟨[0,2,3,4,5,6,54],B2,[0,4,16,8,39,22,14,45,30,55,63]⟩,[(6,[0,2,4,6,8,10,12,14,16,18,20,24,22,7,13,26,28,30])]),(95,⟨[0,20],B2,[0,4,19]⟩,[]),(96,⟨[0,1,4,5,6,7,8],B2,[0]⟩,[]),(97,⟨[0,2,3],B2,[0]⟩,[]),(98,⟨[0,2,4,5,6,7,8,18],B2,[0,1,5,7,9,26,21,32,36,38,44,50]⟩,[(12,[0,2,4,6,10,12,14,16,8,17,18,20,22])]),(99,⟨[0,1,2,6,7,8],B2,[0]⟩,[]),(100,⟨[0],B2,[0]⟩,[(2,[0,2,4,6,8,10,12,14,16,7,18,20])]),(101,⟨[0,2],B2,[0,14,4,12]⟩,[]),(102,⟨[0],B2,[0]⟩,[]),(59,⟨[0,2],B2,[0]⟩,[]),(124,⟨[0,6],B2,[0,15]⟩,[]),(127,⟨[0,1,4,5],B2,[0,2,10]⟩,[]),(129,⟨[0,1],B2,[0]⟩,[]),(130,⟨[0,1,2,3,4,7,8,9,14,47,48,49],B2,[0,2,30,11,25,19]⟩,[(5,[0,2,4,6,8,10,3,12,14,16]),(6,[0,2,4,6,8,10,12,1,3,14])]),(300130,⟨[0,1,2,3,4,7,8,9,14,47,48,49],B2,[0]⟩,[(5,[0,2,4,6,8,10,3,12,14,16]),(6,[0,2,4,6,8,10,12,1,3,14])]),(200130,⟨[0,1,2,3,4,7,8,9,14,47,48,49],B2,[0]⟩,[(5,[0,2,4,6,8,10,3,12,14,16]),(6,[0,2,4,6,8,10,12,1,3,14])]),(131,⟨[0,1,2,4,6,7,12,71,72,73],B2,[0,8,13,18,30,46,26,32,37,43]⟩,[]),(300131,⟨[0,1,2,4,6,7,12,71,72,73],B2,[0]⟩,[]),(200131,⟨[0,1,2,4,6,7,12,71,72,73],B2,[0]⟩,[]),(134,⟨[0],B2,[0,11]⟩,[]),(91,⟨[0,1,2,3,4,10],B2,[0,2,8]⟩,[(2,[0,2,4,6,8,10,12,14,16,20,22,24,26,30,18,7,27,28,7,32,34,36,38,40])]),(136,⟨[0,1,2,3,8,9,10,11,12],B2,[0]⟩,[]),(141,⟨[0],B2,[0,6]⟩,[]),(143,⟨[0],B2,[0,9]⟩,[(7,[0,2,4,6,8,10,12,14,16,18,9,20])]),(144,⟨[0],B2,[0]⟩,[]),(166,⟨[0,1,2,4,6,8],B2,[0,4,6,12]⟩,[]),(168,⟨[0,1,2,3,4],B2,[0]⟩,[]),(169,⟨[0,1,2,3,6],B2,[0]⟩,[]),(77,⟨[0,1],B2,[0]⟩,[]),(195,⟨[0,1,2,4,5,9,10,11],B2,[0,4,10,19]⟩,[])]
def Zy(n:Nat):Kp:=jH n WD
def GR(n k:Nat):Kp×ai:=(Zy n,part (aZ Tryz.prog n) k)
def q14(n k:Nat):GR n k=(Zy n,part (aZ Tryz.prog n) k):=rfl
def yd:=@kO M _ GR Zy q14
attribute [local irreducible] GR
def z8(M:ak)(c:Ctx):=by
 have h:=oO q14 M c WD (by kernel_rfl)
 conv at h=>arg 5;reduce
 delta PR RL nV gI nG gF oK iF mI fP gG fX om qI vO sF nR qD rW rV WD at h
 simp only[zT,Ae,Al,An,A4,QY]at h;exact h
def ee(M:ak)(c:Ctx):=(z8 M c).2.2.2.2.2.2.2.2
def eg(M:ak)(c:Ctx):=(ee M c).2.2.2.2.2.2.2.2
def ei(M:ak)(c:Ctx):=(eg M c).2.2.2.2.2.2.2.2
def ez(M:ak)(c:Ctx):=(ei M c).2.2.2.2.2.2.2.2
def I0(M:ak)(c:Ctx):=(z8 M c).1
def xhk:=@yd M _ q7c [.tmp 8,.tmp 9] [a0,a1,a2,a3] (by kernel_rfl) H Q
def jt(M:ak)(c:Ctx):=(z8 M c).2.1
def q3h:=@yd M _ XJ [] [a0] (by kernel_rfl) H Q
def _d(M:ak)(c:Ctx):=(z8 M c).2.2.1
def Δ:=@yd M _ UH [.tmp 2,.tmp 3] [a0] (by kernel_rfl) H Q
def _c(M:ak)(c:Ctx):=(z8 M c).2.2.2.1
def qnn:=@yd M _ Z5 [.tmp 2] [a0] (by kernel_rfl) H Q
def zz(M:ak)(c:Ctx):=(z8 M c).2.2.2.2.1
def qwv:=@yd M _ C_ [] [a0] (by kernel_rfl) H Q
def Ox(M:ak)(c:Ctx):=(z8 M c).2.2.2.2.2.1
def quy:=@yd M _ _A [] [a0] (by kernel_rfl) H Q
def qzk(M:ak)(c:Ctx):=(z8 M c).2.2.2.2.2.2.1
def qzj:=@yd M _ Yw [.tmp 4,.tmp 5] [a0,a1] (by kernel_rfl) H Q
def qw0(M:ak)(c:Ctx):=(z8 M c).2.2.2.2.2.2.2.1
def qwz:=@yd M _ qmp [] [a0] (by kernel_rfl) H Q
def zi(M:ak)(c:Ctx):=(ee M c).1
def qwu:=@yd M _ Nc [] [a0] (by kernel_rfl) H Q
def qw2(M:ak)(c:Ctx):=(ee M c).2.1
def qw1:=@yd M _ _z [.tmp 6] [a0,a1,a2] (by kernel_rfl) H Q
def qta(M:ak)(c:Ctx):=(ee M c).2.2.1
def qs9:=@yd M _ qkj [] [a0] (by kernel_rfl) H Q
def TO(M:ak)(c:Ctx):=(ee M c).2.2.2.1
def qwt:=@yd M _ qmm [] [a0] (by kernel_rfl) H Q
def qu0(M:ak)(c:Ctx):=(ee M c).2.2.2.2.1
def quz:=@yd M _ z_ [] [a0] (by kernel_rfl) H Q
def hY(M:ak)(c:Ctx):=(ee M c).2.2.2.2.2.1
def Z2:=@yd M _ VZ [.tmp 2] [a0] (by kernel_rfl) H Q
def SJ(M:ak)(c:Ctx):=(ee M c).2.2.2.2.2.2.1
def qtb:=@yd M _ Zc [] [a0] (by kernel_rfl) H Q
def hQ(M:ak)(c:Ctx):=(ee M c).2.2.2.2.2.2.2.1
def q6e:=@yd M _ qsd [.tmp 4,.tmp 5] [a0,a1] (by kernel_rfl) H Q
def qzg(M:ak)(c:Ctx):=(eg M c).1
def qzf:=@yd M _ UG [] [a0,a1] (by kernel_rfl) H Q
def Tb:bW:=funcAt Tryz.prog Pe
def PI:dV:=iz Tb 0
abbrev XK(k:Nat):Kp×ai:=GR 300130 k
abbrev Yf(k:Nat):Kp×ai:=GR 200130 k
def qk7:nth Tb.loops 0=B1 PI/\PI.params=[48,49]:=⟨by kernel_rfl,by kernel_rfl⟩
def qtc:(XK 0).1.ah=[0,1,2,3,4,7,8,9,14,47,48,49]/\(XK 0).2=PI.assign:=⟨by kernel_rfl,by kernel_rfl⟩
def qtd:(Yf 0).1.ah=[0,1,2,3,4,7,8,9,14,47,48,49]/\(Yf 0).2=PI.body:=⟨by kernel_rfl,by kernel_rfl⟩
def qu4:M.func Pe=B1 Tb:=MK.at (by decide) (by kernel_rfl)
def Kw(M:ak)(c:Ctx):=GF (eg M c).2.1.1 (GF (eg M c).2.2.1 (GF (eg M c).2.2.2.1 (GF (eg M c).2.1.2.1 (GF (eg M c).2.1.2.2.1 (GF (eg M c).2.1.2.2.2.1 (GF (eg M c).2.1.2.2.2.2.1 ((eg M c).2.1.2.2.2.2.2)))))))
def qwy:=@yd M _ Pe [] [a0,a1,a2] (by kernel_rfl) H Q
def TB:bW:=funcAt Tryz.prog Qd
def PO:dV:=iz TB 0
abbrev XR(k:Nat):Kp×ai:=GR 300131 k
abbrev Y4(k:Nat):Kp×ai:=GR 200131 k
def z':nth TB.loops 0=B1 PO/\PO.params=[72,73]:=⟨by kernel_rfl,by kernel_rfl⟩
def qrx:(XR 0).1.ah=[0,1,2,4,6,7,12,71,72,73]/\(XR 0).2=PO.assign:=⟨by kernel_rfl,by kernel_rfl⟩
def qry:(Y4 0).1.ah=[0,1,2,4,6,7,12,71,72,73]/\(Y4 0).2=PO.body:=⟨by kernel_rfl,by kernel_rfl⟩
def qte:M.func Qd=B1 TB:=MK.at (by decide) (by kernel_rfl)
def ve(M:ak)(c:Ctx):=GF (eg M c).2.2.2.2.1.1 (GF (eg M c).2.2.2.2.2.1 (GF (eg M c).2.2.2.2.2.2.1 (GF (eg M c).2.2.2.2.1.2.1 (GF (eg M c).2.2.2.2.1.2.2.1 (GF (eg M c).2.2.2.2.1.2.2.2.1 (GF (eg M c).2.2.2.2.1.2.2.2.2.1 (GF (eg M c).2.2.2.2.1.2.2.2.2.2.1 (GF (eg M c).2.2.2.2.1.2.2.2.2.2.2.1 (GF (eg M c).2.2.2.2.1.2.2.2.2.2.2.2.1 (GF (eg M c).2.2.2.2.1.2.2.2.2.2.2.2.2.1 ((eg M c).2.2.2.2.1.2.2.2.2.2.2.2.2.2)))))))))))
def qu7:=@yd M _ Qd [] [a0,a1,a2] (by kernel_rfl) H Q
def Rc(M:ak)(c:Ctx):=(eg M c).2.2.2.2.2.2.2.1
def qze:=@yd M _ qop [] [a0] (by kernel_rfl) H Q
def ZK(M:ak)(c:Ctx):=(ei M c).1
def qzl:=@yd M _ ZL [] [a0,a1,a2,a3,a4] (by kernel_rfl) H Q
def q3j(M:ak)(c:Ctx):=(ei M c).2.1
def q3i:=@yd M _ qpu [.tmp 8,.tmp 9] [a0,a1,a2,a3] (by kernel_rfl) H Q
def YK(M:ak)(c:Ctx):=(ei M c).2.2.1
def qqh:=@yd M _ kx [] [a0] (by kernel_rfl) H Q
def Pm(M:ak)(c:Ctx):=(ei M c).2.2.2.1
def qu1:=@yd M _ _4 [] [a0] (by kernel_rfl) H Q
def qwx(M:ak)(c:Ctx):=(ei M c).2.2.2.2.1
def qww:=@yd M _ R1 [] [a0] (by kernel_rfl) H Q
def _L(M:ak)(c:Ctx):=(ei M c).2.2.2.2.2.1
def qu3:=@yd M _ Uy [] [a0,a1,a2] (by kernel_rfl) H Q
def qzi(M:ak)(c:Ctx):=(ei M c).2.2.2.2.2.2.1
def qzh:=@yd M _ qoq [.tmp 4] [a0,a1] (by kernel_rfl) H Q
def qu6(M:ak)(c:Ctx):=(ei M c).2.2.2.2.2.2.2.1
def qu5:=@yd M _ qlo [] [a0,a1,a2,a3] (by kernel_rfl) H Q
def qws(M:ak)(c:Ctx):=(ez M c).1
def qwr:=@yd M _ Vp [] [a0,a1] (by kernel_rfl) H Q
def Rd(M:ak)(c:Ctx):=(ez M c).2
def qu2:=@yd M _ NR [] [a0,a1,a2] (by kernel_rfl) H Q
abbrev LL:Nat:=62
abbrev ke:Nat:=75
abbrev Y1:tO:=[(100062,⟨[0,1,2,4,5,6,30],B2,[0,2,29,16]⟩,[(9,[0,2,4,6,8,10,3,12,14,16])]),(9900062,⟨[0,1,2,4,5,6,30],B2,[0,2,16,8,14]⟩,[(9,[0,2,4,6,8,10,3,12,14,16])]),(75,⟨[0],B2,[0]⟩,[])]
def Z_(n:Nat):Kp:=jH n Y1
def PN(n k:Nat):Kp×ai:=(Z_ n,part (aZ Tryz.prog n) k)
def WI(n k:Nat):PN n k=(Z_ n,part (aZ Tryz.prog n) k):=rfl
attribute [local irreducible] PN
def Fk(M:ak)(c:Ctx):=by
 have h:=oO WI M c Y1 (by kernel_rfl)
 conv at h=>arg 5;reduce
 delta PR RL nV gI nG gF oK iF mI fP gG fX om vO nR rW rV Y1 at h
 simp only[zT,Ae,Al,An,A4,QY]at h;exact h
def qza:bW:=funcAt Tryz.prog LL
abbrev qzc(k:Nat):Kp×ai:=PN 100062 k
abbrev qzd(k:Nat):Kp×ai:=PN 9900062 k
def yz(M:ak)(c:Ctx):=GF (Fk M c).1.1 (GF (Fk M c).2.1.1 (GF (Fk M c).1.2.1 (GF (Fk M c).2.1.2.1 (GF (Fk M c).1.2.2.1 (GF (Fk M c).1.2.2.2 (GF (Fk M c).2.1.2.2.1 (GF (Fk M c).2.1.2.2.2.1 ((Fk M c).2.1.2.2.2.2))))))))
def qzb(h:W M ⟨B5,LL⟩ (qzc 0) B4 (EF M ⟨B5,LL⟩ (qzd 0) 30 (fh M [.tmp 4,.tmp 5] Q)) (kC 0 [a0,a1]) [] H):Fp M LL [a0,a1] H Q:=Rt WI (MK.at (by decide) (by kernel_rfl:(aX Tryz.prog).func LL=B1 qza)) (by kernel_rfl) (by kernel_rfl) (by kernel_rfl) (by kernel_rfl) (by kernel_rfl) (by kernel_rfl) h
def quw{up:Option aF}(h:W M ⟨B5,ke⟩ (PN ke 0) B4 (fh M [] Q) (kC 0 [a0]) [] H):∃e H',jI M ke [a0] up H e up H'/\Q e H':=Iq WI (MK.at (by decide) (by kernel_rfl:(aX Tryz.prog).func ke=B1 (funcAt Tryz.prog ke))) (by kernel_rfl) (by kernel_rfl) (by kernel_rfl) h
def qux(M:ak)(c:Ctx):=(Fk M c).2.2
abbrev ym:Nat:=43
abbrev qsc:Nat:=61
abbrev Kz:Nat:=73
abbrev U3:Nat:=60
abbrev Qq:Nat:=38
abbrev qyq:Nat:=54
abbrev Nl:Nat:=69
abbrev Ve:Nat:=74
abbrev v_:Nat:=44
abbrev Uo:Nat:=25
abbrev xn:Nat:=27
abbrev Ue:Nat:=21
abbrev Wn:Nat:=26
abbrev _I:Nat:=28
abbrev R6:Nat:=40
abbrev qm4:Nat:=42
abbrev Qb:Nat:=48
abbrev O4:Nat:=49
abbrev RF:Nat:=50
abbrev O2:Nat:=47
abbrev J_:Nat:=34
abbrev sH:Nat:=56
abbrev uy:Nat:=95
abbrev yD:Nat:=46
abbrev ww:Nat:=65
abbrev FV:Nat:=90
abbrev Xr:tO:=[(38,⟨[0,2,3,4,5,7,8],B2,[0,4,9]⟩,[]),(300038,⟨[0,2,3,4,5,7,8],B2,[0]⟩,[]),(200038,⟨[0,2,3,4,5,7,8],B2,[0,7]⟩,[]),(25,⟨[0,1,2,3,4,6,8,9,10,11,12,13,14,15,16,48,49],B2,[0,4,12,14,49,19,25,48,31,37,39,47]⟩,[]),(21,⟨[0,1,3,4,5,6,14],B2,[0,2,10,12,20]⟩,[(4,[2,4,0,5,6,8])]),(28,⟨[0,2],B2,[0,2,10]⟩,[]),(26,⟨[0,1,4,5],B2,[0]⟩,[]),(27,⟨[0,1,4,5],B2,[0]⟩,[]),(54,⟨[0,1,2],B2,[0]⟩,[]),(34,⟨[0],B2,[0]⟩,[]),(44,⟨[0,2],B2,[0,2,10]⟩,[]),(40,⟨[0,1,4],B2,[0,2,10]⟩,[]),(42,⟨[0,2],B2,[0,2,10]⟩,[]),(43,⟨[0,1,4,5,6,7,8,11,12,44,45,46,69,70],B2,[0,2,3,18,22,24,47,29,49,35,54,46]⟩,[]),(300043,⟨[0,1,4,5,6,7,8,11,12,44,45,46,69,70],B2,[0]⟩,[]),(200043,⟨[0,1,4,5,6,7,8,11,12,44,45,46,69,70],B2,[0,7]⟩,[]),(69,⟨[0,1],B2,[0,2,8]⟩,[]),(47,⟨[0,1,3,4,5,6,7,8,10,14,30,31,32],B2,[0,4,12,16,41,21,27,40,33]⟩,[(12,[0,2,4,6,8,10,7,12,14])]),(48,⟨[0,1,3,4,5,6,14],B2,[0]⟩,[]),(49,⟨[0,1,3,4,14],B2,[0]⟩,[]),(50,⟨[0,1,3,4,14],B2,[0]⟩,[]),(60,⟨[0,1,4,5,8],B2,[0,2,10]⟩,[]),(61,⟨[0,1,2,3,4],B2,[0]⟩,[]),(73,⟨[0,1,2,5,6,7,11,12,13],B2,[0,4,10,21,16]⟩,[]),(74,⟨[0,1,4,5,21],B2,[0,2,10]⟩,[])]
def XZ(n:Nat):Kp:=jH n Xr
def JG(n k:Nat):Kp×ai:=(XZ n,part (aZ Tryz.prog n) k)
def q2i(n k:Nat):JG n k=(XZ n,part (aZ Tryz.prog n) k):=rfl
def wx:=@kO M _ JG XZ q2i
attribute [local irreducible] JG
def jv(M:ak)(c:Ctx):=by
 have h:=oO q2i M c Xr (by kernel_rfl)
 conv at h=>arg 5;reduce
 delta PR RL nV gI nG gF oK iF mI fP gG fX om qI sF nR qD rW rV Xr at h
 simp only[zT,Ae,Al,An,A4,QY]at h;exact h
def fb(M:ak)(c:Ctx):=(jv M c).2.2.2.2.2.2.2.2
def fe(M:ak)(c:Ctx):=(fb M c).2.2.2.2.2.2.2.2
def ff(M:ak)(c:Ctx):=(fe M c).2.2.2.2.2.2.2.2
def TN:bW:=funcAt Tryz.prog Qq
def PD:dV:=iz TN 0
abbrev VK(k:Nat):Kp×ai:=JG 300038 k
abbrev Zn(k:Nat):Kp×ai:=JG 200038 k
def qsz:nth TN.loops 0=B1 PD/\PD.params=[8]:=⟨by kernel_rfl,by kernel_rfl⟩
def q6i:(VK 0).1.ah=[0,2,3,4,5,7,8]/\(VK 0).2=PD.assign:=⟨by kernel_rfl,by kernel_rfl⟩
def q6j:(Zn 0).1.ah=[0,2,3,4,5,7,8]/\(Zn 0).2=PD.body:=⟨by kernel_rfl,by kernel_rfl⟩
def q9c:M.func Qq=B1 TN:=MK.at (by decide) (by kernel_rfl)
def Tl(M:ak)(c:Ctx):=GF (jv M c).1.1 (GF (jv M c).2.1 (GF (jv M c).2.2.1.1 (GF (jv M c).1.2.1 (GF (jv M c).2.2.1.2 ((jv M c).1.2.2)))))
def xbt:=@wx M _ Qq [.tmp 2] [a0] (by kernel_rfl) H Q
def Af(M:ak)(c:Ctx):=(jv M c).2.2.2.1
def xfe:=@wx M _ Uo [.tmp 8,.tmp 9] [a0,a1,a2,a3] (by kernel_rfl) H Q
def US(M:ak)(c:Ctx):=(jv M c).2.2.2.2.1
def q07:=@wx M _ Ue [.cR 14 4] [a0,a1] (by kernel_rfl) H Q
def qre(M:ak)(c:Ctx):=(jv M c).2.2.2.2.2.1
def qrd:=@wx M _ _I [.tmp 2] [a0] (by kernel_rfl) H Q
def qjx(M:ak)(c:Ctx):=(jv M c).2.2.2.2.2.2.1
def _x:=@wx M _ Wn [.tmp 4,.tmp 5] [a0,a1] (by kernel_rfl) H Q
def qps(M:ak)(c:Ctx):=(jv M c).2.2.2.2.2.2.2.1
def qpr:=@wx M _ xn [.tmp 4,.tmp 5] [a0,a1] (by kernel_rfl) H Q
def xbv(M:ak)(c:Ctx):=(fb M c).1
def xbu:=@wx M _ qyq [.tmp 2] [a0] (by kernel_rfl) H Q
def xc9(M:ak)(c:Ctx):=(fb M c).2.1
def xc8:=@wx M _ J_ [.tmp 0] [] (by kernel_rfl) H Q
def a_(M:ak)(c:Ctx):=(fb M c).2.2.1
def qnm:=@wx M _ v_ [.tmp 2] [a0] (by kernel_rfl) H Q
def XV(M:ak)(c:Ctx):=(fb M c).2.2.2.1
def hK:=@wx M _ R6 [.tmp 4] [a0,a1] (by kernel_rfl) H Q
def qyp(M:ak)(c:Ctx):=(fb M c).2.2.2.2.1
def qyo:=@wx M _ qm4 [.tmp 2] [a0] (by kernel_rfl) H Q
def Sb:bW:=funcAt Tryz.prog ym
def Qn:dV:=iz Sb 0
abbrev Yt(k:Nat):Kp×ai:=JG 300043 k
abbrev Xp(k:Nat):Kp×ai:=JG 200043 k
def qjq:nth Sb.loops 0=B1 Qn/\Qn.params=[70]:=⟨by kernel_rfl,by kernel_rfl⟩
def qrv:(Yt 0).1.ah=[0,1,4,5,6,7,8,11,12,44,45,46,69,70]/\(Yt 0).2=Qn.assign:=⟨by kernel_rfl,by kernel_rfl⟩
def qrw:(Xp 0).1.ah=[0,1,4,5,6,7,8,11,12,44,45,46,69,70]/\(Xp 0).2=Qn.body:=⟨by kernel_rfl,by kernel_rfl⟩
def qs8:M.func ym=B1 Sb:=MK.at (by decide) (by kernel_rfl)
def Xm(M:ak)(c:Ctx):=GF (fb M c).2.2.2.2.2.1.1 (GF (fb M c).2.2.2.2.2.2.1 (GF (fb M c).2.2.2.2.2.2.2.1.1 (GF (fb M c).2.2.2.2.2.1.2.1 (GF (fb M c).2.2.2.2.2.2.2.1.2 (GF (fb M c).2.2.2.2.2.1.2.2.1 (GF (fb M c).2.2.2.2.2.1.2.2.2.1 (GF (fb M c).2.2.2.2.2.1.2.2.2.2.1 (GF (fb M c).2.2.2.2.2.1.2.2.2.2.2.1 (GF (fb M c).2.2.2.2.2.1.2.2.2.2.2.2.1 (GF (fb M c).2.2.2.2.2.1.2.2.2.2.2.2.2.1 (GF (fb M c).2.2.2.2.2.1.2.2.2.2.2.2.2.2.1 (GF (fb M c).2.2.2.2.2.1.2.2.2.2.2.2.2.2.2.1 (GF (fb M c).2.2.2.2.2.1.2.2.2.2.2.2.2.2.2.2.1 ((fb M c).2.2.2.2.2.1.2.2.2.2.2.2.2.2.2.2.2))))))))))))))
def qlv:=@wx M _ ym [.tmp 4,.tmp 5] [a0,a1] (by kernel_rfl) H Q
def SQ(M:ak)(c:Ctx):=(fe M c).1
def q6k:=@wx M _ Nl [] [a0,a1] (by kernel_rfl) H Q
def KX(M:ak)(c:Ctx):=(fe M c).2.1
def qwi:=@wx M _ O2 [.cR 14 4] [a0,a1] (by kernel_rfl) H Q
def qrg(M:ak)(c:Ctx):=(fe M c).2.2.1
def qrf:=@wx M _ Qb [.cR 14 4] [a0,a1] (by kernel_rfl) H Q
def que(M:ak)(c:Ctx):=(fe M c).2.2.2.1
def qud:=@wx M _ O4 [.cR 14 4] [a0,a1] (by kernel_rfl) H Q
def qug(M:ak)(c:Ctx):=(fe M c).2.2.2.2.1
def quf:=@wx M _ RF [.cR 14 4] [a0,a1] (by kernel_rfl) H Q
def qzn(M:ak)(c:Ctx):=(fe M c).2.2.2.2.2.1
def qzm:=@wx M _ U3 [.cR 8 4,.tmp 5] [a0,a1] (by kernel_rfl) H Q
def q6b(M:ak)(c:Ctx):=(fe M c).2.2.2.2.2.2.1
def q6a:=@wx M _ qsc [.tmp 4] [a0,a1] (by kernel_rfl) H Q
def qy9(M:ak)(c:Ctx):=(fe M c).2.2.2.2.2.2.2.1
def qy8:=@wx M _ Kz [] [a0,a1,a2] (by kernel_rfl) H Q
def qz4(M:ak)(c:Ctx):=(ff M c)
def qz3:=@wx M _ Ve [.cR 21 4,.tmp 5] [a0,a1] (by kernel_rfl) H Q
abbrev quj:Nat:=8
abbrev _C:Nat:=5
abbrev E1:Nat:=11
abbrev fS:Nat:=10
abbrev tN:Nat:=35
abbrev Vh:Nat:=22
abbrev qul:Nat:=20
abbrev PJ:Nat:=30
abbrev QO:Nat:=52
abbrev BN:Nat:=33
abbrev Ms:Nat:=29
abbrev Zt:tO:=[(5,⟨[0,1,2,3,4,5,6,7,8,9,10,11,12,13,14,15,16,17],B2,[0,4,12,14,22,30,32,40,63,45,51,62]⟩,[(18,[2,4,8,10,0,6,11,12,14])]),(8,⟨[0,1,2,3,4],B2,[0,4,19,9,27,15,18]⟩,[]),(10,⟨[0,1,2,3,5,6,7,8,9,11,22,23,24],B2,[0,4,12,29,17,23,28]⟩,[]),(11,⟨[0,1,2,3,5,6,7,8,9,10,23,24],B2,[0,4,12,41,17,23,40,27,35]⟩,[]),(20,⟨[0,1,2,3,5,6,7,8,9],B2,[0,4,12,20]⟩,[]),(22,⟨[0,1,3,4,5,6,7,8,17],B2,[0,4,29,22]⟩,[(7,[0,2,4,6,8,12,14,10,15,16,18])]),(35,⟨[0,1,2,6,7,9,11,12,13],B2,[0,4,25,9,15,24]⟩,[])]
def X9(n:Nat):Kp:=jH n Zt
def ZN(n k:Nat):Kp×ai:=(X9 n,part (aZ Tryz.prog n) k)
def sg(n k:Nat):ZN n k=(X9 n,part (aZ Tryz.prog n) k):=rfl
def Lu:=@kO M _ ZN X9 sg
attribute [local irreducible] ZN
def Km(M:ak)(c:Ctx):=by
 have h:=oO sg M c Zt (by kernel_rfl)
 conv at h=>arg 5;reduce
 delta PR RL nV gI nG gF oK iF mI fP gG fX om qI nR rW rV Zt at h
 simp only[zT,Ae,Al,An,A4,QY]at h;exact h
def jf(M:ak)(c:Ctx):=(Km M c).1
def qtp:=@Lu M _ _C [.tmp 6] [a0,a1,a2] (by kernel_rfl) H Q
def Kl(M:ak)(c:Ctx):=(Km M c).2.1
def q9k:=@Lu M _ quj [.tmp 2] [a0] (by kernel_rfl) H Q
def K1(M:ak)(c:Ctx):=(Km M c).2.2.1
def q67:=@Lu M _ fS [.tmp 6,.tmp 7] [a0,a1,a2] (by kernel_rfl) H Q
def GC(M:ak)(c:Ctx):=(Km M c).2.2.2.1
def q66:=@Lu M _ E1 [.tmp 6,.tmp 7] [a0,a1,a2] (by kernel_rfl) H Q
def NX(M:ak)(c:Ctx):=(Km M c).2.2.2.2.1
def xag:=@Lu M _ qul [.tmp 6,.tmp 7] [a0,a1,a2] (by kernel_rfl) H Q
def JC(M:ak)(c:Ctx):=(Km M c).2.2.2.2.2.1
def xc0:=@Lu M _ Vh [.tmp 4] [a0,a1] (by kernel_rfl) H Q
def Qy(M:ak)(c:Ctx):=(Km M c).2.2.2.2.2.2
def q5o:=@Lu M _ tN [.tmp 6] [a0,a1,a2] (by kernel_rfl) H Q
end
end Go.Am
