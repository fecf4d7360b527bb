import Derived.Test.YtgjdmncoonceaaaGreatDoorAmLZd
import Derived.Test.YtgjdmncoonceaaaGreatDoorAmLZa
import Derived.KernelRfl
import Derived.Test.YtgjdmncoonceaaaGreatDoorRows
set_option linter.unusedVariables false
set_option linter.unusedSimpArgs false
set_option linter.defProp false
set_option maxRecDepth 100000
set_option maxHeartbeats 1000000
open And renaming intro→II
open Bool renaming rec→Ov,false→B2,true→B4
open Go renaming Oper→Pl,Operand→N2,Program→Jv,TypeId→Mj
open Int renaming reduceNegSucc→QR,reduceOfNat→Sp
open List renaming range→N5,rec→B0
open Nat renaming beq→JW,ble→Oh
open Option renaming rec→R6,none→B5,some→B1
namespace Go.Am
noncomputable section
def PR:Type:=Prop
abbrev WR:=Bool->aE->Env->List aK->ar->PR
abbrev KQ:=Bool->Env->Env->ar->PR
def HB(m:Bool)(o:Option (bE×(Nat->AV)))(H:ar)(K:Bool->AV->ar->Prop):Prop:=jF m o λ g o mk=>K g (mk H.au) (H.alloc o)
def nJ{α:Type}:Bool->Option α->(Bool -> α->PR)->PR:=@B3 α
def gF{α β:Type}:Bool->Option (α×β)->(Bool -> α -> β->PR)->PR:=@jF α β
def fP:Bool->AV->(Bool->PR)->(Bool->PR)->PR:=nH
def gG:Bool->Bool->(Bool->PR)->(Bool->PR)->PR:=xB
def iM:Bool->Option AV->Option AV->(Bool->PR)->PR:=ND
def gD:Bool->Option (bE×(Nat->AV))->ar->(Bool->AV->ar->PR)->PR:=HB
def pe:ak->Bool->mF->List AV->ar->(Bool->AV->ar->PR)->PR:=C3
def yI:ak->Bool->(aG->ar->PR)->mF->List AV->ar->(Bool->AV->ar->PR)->PR:=P3
def pW:Bool->List AV->(Bool->mF->List AV->PR)->PR:=V3
def wF:ak->Bool->String->List AV->(Bool->mF->List AV->PR)->PR:=N3
def xD:Option (List Nat)->List Nat->aE->Env->List aK->aG->ar->PR:=PX
def yM:List AV->ar->(aG->ar->PR)->PR:=gE
def fY{α:Type}:(α->PR) -> α->PR:=@JN α
def mS:Bool->aE->aW->Env->List aK->ar->PR:=rO
def oQ{α:Type}:Bool->Option α->(Bool -> α->PR)->PR:=@LK α
def rW:ak->Ctx->Kp×ai->WR:=W
def qV:WR->aE->Env->List aK->ar->PR:=cz
def su:ak->List Nat->Ctx->Nat->Env->List aK->ar->aE->AV->PR:=iH
def nR:WR->aE->aE:=fm
def sD:PR:=False
def oH:Env->Nat->Option AV:=lk
section
variable(M:ak)
def We(E L R:Env)(t:Nat)(g:Bool)(K:Bool->Env->AV->PR):PR :=
 R6 (motive:=λ _=>PR) (R6 (motive:=λ _=>PR) (oQ g (oH E t) λ g v=>K g ((t,v)::R) v) (λ v=>K g R v) (lk R t)) (λ v=>K g R v) (lk L t)
def tEV(E L:Env)(l:List bL):Bool->Env->(Bool->Env->List AV->PR)->PR:=B0 (motive:=λ _=>Bool->Env->(Bool->Env->List AV->PR)->PR) (λ g R K=>K g R [])
 (λ x _ ih g R K=>bL.casesOn x (λ t=>We E L R t g λ g R v=>ih g R λ g R vs=>K g R (v::vs)) (λ v=>ih g R λ g R vs=>K g R (v::vs)) (λ b=>ih g R λ g R vs=>K g R (.ptr b 0::vs)) (λ f=>ih g R λ g R vs=>K g R (.fn (.func f) [] []::vs))) l
def XF(dg:Bool)(ps:Option (List Nat))(L:Env)(Q:aE)(E:Env)(D:List aK)(g:Bool)(f:mF)(vs:List AV)(H:ar)(K:Bool->AV->ar->PR):PR :=
 cond dg (yI M g (xD ps (mj L) Q E D) f vs H K) (pe M g f vs H K)
def tOP(dg:Bool)(dst:Option Nat)(ps:Option (List Nat))(Q:aE)(E:Env)(D:List aK)(L R:Env)(H:ar)(K:KQ)(g:Bool)(vs:List AV):fN->PR
 | .pure f=>nJ g (f vs) λ g v=>K g (lT dst v L) R H
 | .read f=>nJ g (f vs H) λ g v=>K g (lT dst v L) R H
 | .alloc f=>gD g (f vs) H λ g v H=>K g (lT dst v L) R H
 | .gU f=>gF g (f vs H) λ g v H=>K g (lT dst v L) R H
 | .iq f=>XF M dg ps L Q E D g (.func f) vs H (λ g v H=>K g (lT dst v L) R H)
 | .ic=>pW g vs λ g f vs=>XF M dg ps L Q E D g f vs H (λ g v H=>K g (lT dst v L) R H)
 | .invoke name=>wF M g name vs λ g f vs=>XF M dg ps L Q E D g f vs H (λ g v H=>K g (lT dst v L) R H)
 | .panic=>cond dg (yM vs H (xD ps (mj L) Q E D)) sD
 |_=>sD
def tCK(dst:Option Nat)(E L R:Env)(H:ar)(K:KQ)(g:Bool)(vs:List AV):fN->PR
 | .read f=>match dst with
  |some d=>iM g (f vs H) (R6 (motive:=λ _=>Option AV) (oH E d) (λ v=>B1 v) (lk L d)) λ g=>K g L R H
  |none=>sD
 |_=>sD
def tST(dg:Bool)(s:aP)(Q:aE)(E:Env)(D:List aK)(K:KQ):KQ:=λ g L R H =>
 tEV E L s.args g R λ g R vs=>match s.iv with
  |false=>tOP M dg s.dst s.cK Q E D L R H K g vs s.op
  |true=>tCK s.dst E L R H K g vs s.op
def π(dg:Bool)(Q:aE)(E:Env)(D:List aK)(K:KQ)(l:List aP):KQ:=B0 (motive:=λ _=>KQ) K (λ s _ ih=>tST M dg s Q E D ih) l
def sn(n:Nat):Type:=Nat.rec (motive:=λ _=>Type) (ar->PR) (λ _ T=>AV->T) n
def VQ:(n:Nat)->((Bool->sn n)->PR)->(Bool->sn n)->PR
 |0=>λ F K=>fY (α:=Bool->ar->PR) (λ k=>F k) K
 |1=>λ F K=>fY (α:=Bool->AV->ar->PR) (λ k=>F k) K
 |2=>λ F K=>fY (α:=Bool->AV->AV->ar->PR) (λ k=>F k) K
 |3=>λ F K=>fY (α:=Bool->AV->AV->AV->ar->PR) (λ k=>F k) K
 |4=>λ F K=>fY (α:=Bool->AV->AV->AV->AV->ar->PR) (λ k=>F k) K
 |5=>λ F K=>fY (α:=Bool->AV->AV->AV->AV->AV->ar->PR) (λ k=>F k) K
 |6=>λ F K=>fY (α:=Bool->AV->AV->AV->AV->AV->AV->ar->PR) (λ k=>F k) K
 |7=>λ F K=>fY (α:=Bool->AV->AV->AV->AV->AV->AV->AV->ar->PR) (λ k=>F k) K
 |8=>λ F K=>fY (α:=Bool->AV->AV->AV->AV->AV->AV->AV->AV->ar->PR) (λ k=>F k) K
 |9=>λ F K=>fY (α:=Bool->AV->AV->AV->AV->AV->AV->AV->AV->AV->ar->PR) (λ k=>F k) K
 |10=>λ F K=>fY (α:=Bool->AV->AV->AV->AV->AV->AV->AV->AV->AV->AV->ar->PR) (λ k=>F k) K
 |11=>λ F K=>fY (α:=Bool->AV->AV->AV->AV->AV->AV->AV->AV->AV->AV->AV->ar->PR) (λ k=>F k) K
 |12=>λ F K=>fY (α:=Bool->AV->AV->AV->AV->AV->AV->AV->AV->AV->AV->AV->AV->ar->PR) (λ k=>F k) K
 |13=>λ F K=>fY (α:=Bool->AV->AV->AV->AV->AV->AV->AV->AV->AV->AV->AV->AV->AV->ar->PR) (λ k=>F k) K
 |14=>λ F K=>fY (α:=Bool->AV->AV->AV->AV->AV->AV->AV->AV->AV->AV->AV->AV->AV->AV->ar->PR) (λ k=>F k) K
 |15=>λ F K=>fY (α:=Bool->AV->AV->AV->AV->AV->AV->AV->AV->AV->AV->AV->AV->AV->AV->AV->ar->PR) (λ k=>F k) K
 |16=>λ F K=>fY (α:=Bool->AV->AV->AV->AV->AV->AV->AV->AV->AV->AV->AV->AV->AV->AV->AV->AV->ar->PR) (λ k=>F k) K
 |17=>λ F K=>fY (α:=Bool->AV->AV->AV->AV->AV->AV->AV->AV->AV->AV->AV->AV->AV->AV->AV->AV->AV->ar->PR) (λ k=>F k) K
 |18=>λ F K=>fY (α:=Bool->AV->AV->AV->AV->AV->AV->AV->AV->AV->AV->AV->AV->AV->AV->AV->AV->AV->AV->ar->PR) (λ k=>F k) K
 |19=>λ F K=>fY (α:=Bool->AV->AV->AV->AV->AV->AV->AV->AV->AV->AV->AV->AV->AV->AV->AV->AV->AV->AV->AV->ar->PR) (λ k=>F k) K
 |20=>λ F K=>fY (α:=Bool->AV->AV->AV->AV->AV->AV->AV->AV->AV->AV->AV->AV->AV->AV->AV->AV->AV->AV->AV->AV->ar->PR) (λ k=>F k) K
 |21=>λ F K=>fY (α:=Bool->AV->AV->AV->AV->AV->AV->AV->AV->AV->AV->AV->AV->AV->AV->AV->AV->AV->AV->AV->AV->AV->ar->PR) (λ k=>F k) K
 |22=>λ F K=>fY (α:=Bool->AV->AV->AV->AV->AV->AV->AV->AV->AV->AV->AV->AV->AV->AV->AV->AV->AV->AV->AV->AV->AV->AV->ar->PR) (λ k=>F k) K
 |23=>λ F K=>fY (α:=Bool->AV->AV->AV->AV->AV->AV->AV->AV->AV->AV->AV->AV->AV->AV->AV->AV->AV->AV->AV->AV->AV->AV->AV->ar->PR) (λ k=>F k) K
 |24=>λ F K=>fY (α:=Bool->AV->AV->AV->AV->AV->AV->AV->AV->AV->AV->AV->AV->AV->AV->AV->AV->AV->AV->AV->AV->AV->AV->AV->AV->ar->PR) (λ k=>F k) K
 |25=>λ F K=>fY (α:=Bool->AV->AV->AV->AV->AV->AV->AV->AV->AV->AV->AV->AV->AV->AV->AV->AV->AV->AV->AV->AV->AV->AV->AV->AV->AV->ar->PR) (λ k=>F k) K
 |26=>λ F K=>fY (α:=Bool->AV->AV->AV->AV->AV->AV->AV->AV->AV->AV->AV->AV->AV->AV->AV->AV->AV->AV->AV->AV->AV->AV->AV->AV->AV->AV->ar->PR) (λ k=>F k) K
 |27=>λ F K=>fY (α:=Bool->AV->AV->AV->AV->AV->AV->AV->AV->AV->AV->AV->AV->AV->AV->AV->AV->AV->AV->AV->AV->AV->AV->AV->AV->AV->AV->AV->ar->PR) (λ k=>F k) K
 |28=>λ F K=>fY (α:=Bool->AV->AV->AV->AV->AV->AV->AV->AV->AV->AV->AV->AV->AV->AV->AV->AV->AV->AV->AV->AV->AV->AV->AV->AV->AV->AV->AV->AV->ar->PR) (λ k=>F k) K
 |_+29=>λ F K=>fY F K
def KL:∀(n:Nat)(F:(Bool->sn n)->PR)(K:Bool->sn n),VQ n F K=fY F K:=λ n=>by
 unfold VQ;split<;>exact λ F K=>rfl
def Wh(n:Nat):(List AV->ar->PR)->sn n:=Nat.rec (motive:=λ n=>(List AV->ar->PR)->sn n) (λ f=>f []) (λ _ ih f v=>ih λ l=>f (v::l)) n
def Rk(n:Nat):sn n->List AV->ar->PR:=Nat.rec (motive:=λ n=>sn n->List AV->ar->PR) (λ k _=>k) (λ _ ih k l=>List.casesOn (motive:=λ _=>ar->PR) l (λ _=>sD) λ v l=>ih (k v) l) n
def ZI(dg:Bool)(Q:aE)(E:Env)(D:List aK)(x:Gi)(K:KQ):KQ:=λ g L R H=>match x.1 with
 |none=>π M dg Q E D K x.2 g L R H
 |some q=>cond (vU q.1 x.2) (We E L R q.1 g λ g R v=>VQ (cQ (bq x.2 []))
  (λ k=>nJ g (cT q.2 (B1 v)) λ g w=>gG g w (λ g=>π M dg Q E D (λ g L _ H=>Rk (cQ (bq x.2 [])) (k g) (rh (cQ (bq x.2 [])) L) H) x.2 g L R H) (λ g=>Rk (cQ (bq x.2 [])) (k g) (sE (cQ (bq x.2 []))) H))
  (λ g=>Wh (cQ (bq x.2 [])) λ vs H=>K g (lI (bq x.2 []) L vs) R H)) sD
def O9(dg:Bool)(Q:aE)(E:Env)(D:List aK)(l:List aP)(g:Bool)(H:ar)(K:KQ):PR:=B0 (motive:=λ _=>KQ) K (λ x _ ih=>ZI M dg Q E D x ih) (JB l) g [] [] H
def R_(E:Env)(x:bL)(g:Bool)(K:Bool->AV->PR):PR:=match x with
 | .tmp t=>oQ g (oH E t) K
 | .const v=>K g v
 | .eL b=>K g (.ptr b 0)
 | .func f=>K g (.fn (.func f) [] [])
def tCV(E L R:Env)(x:bL)(g:Bool)(K:Bool->AV->PR):PR:=match x with
 | .tmp t=>We E L R t g λ g _ v=>K g v
 | .const v=>K g v
 | .eL b=>K g (.ptr b 0)
 | .func f=>K g (.fn (.func f) [] [])
def tU(rg:Bool->aE->Env->List aK->List aP->Bool->ar->KQ->PR)(ctx:Ctx)(K:Kp)(X:Nat->WR):ai->Nat->WR
 | .skip,_,g,Q,E,D,H=>mS g Q .normal E D H
 | .label _,_,g,Q,E,D,H=>mS g Q .normal E D H
 | .exit id,_,g,Q,E,D,H=>mS g Q (.exit id) E D H
 | .goto l,_,g,Q,E,D,H=>mS g Q (.goto l) E D H
 | .ret,_,g,Q,E,D,H=>mS g Q .ret E D H
 | .stuck,_,_,_,_,_,_=>sD
 | .region l,_,g,Q,E,D,H=>rg K.dg Q E D l g H λ g L _ H=>mS g Q .normal (dL K.ah E L) D H
 | .seq a b,k,g,Q,E,D,H=>match a,b with
  | .region l,.cond c x y=>rg K.dg Q E D l g H λ g L R H=>tCV E L R c g λ g v=>fP g v (λ g=>(Ov (motive:=λ _=>WR) (tU rg ctx K X x (k+3)) (X (k+3)) (bH (k+3) K.named)) g Q (dL K.ah E L) D H) (λ g=>(Ov (motive:=λ _=>WR) (tU rg ctx K X y (k+3+dD x)) (X (k+3+dD x)) (bH (k+3+dD x) K.named)) g Q (dL K.ah E L) D H)
  | .region l,.seq (.cond c x y) r=>rg K.dg Q E D l g H λ g L R H=>tCV E L R c g λ g v=>fP g v (λ g=>(Ov (motive:=λ _=>WR) (tU rg ctx K X x (k+4)) (X (k+4)) (bH (k+4) K.named)) g (nR (Ov (motive:=λ _=>WR) (tU rg ctx K X r (k+4+dD x+dD y)) (X (k+4+dD x+dD y)) (bH (k+4+dD x+dD y) K.named)) Q) (dL K.ah E L) D H)
   (λ g=>(Ov (motive:=λ _=>WR) (tU rg ctx K X y (k+4+dD x)) (X (k+4+dD x)) (bH (k+4+dD x) K.named)) g (nR (Ov (motive:=λ _=>WR) (tU rg ctx K X r (k+4+dD x+dD y)) (X (k+4+dD x+dD y)) (bH (k+4+dD x+dD y) K.named)) Q) (dL K.ah E L) D H)
  | .region l,b=>rg K.dg Q E D l g H λ g L _ H=>(Ov (motive:=λ _=>WR) (tU rg ctx K X b (k+2)) (X (k+2)) (bH (k+2) K.named)) g Q (dL K.ah E L) D H
  |a,b=>(Ov (motive:=λ _=>WR) (tU rg ctx K X a (k+1)) (X (k+1)) (bH (k+1) K.named)) g (nR (Ov (motive:=λ _=>WR) (tU rg ctx K X b (k+1+dD a)) (X (k+1+dD a)) (bH (k+1+dD a) K.named)) Q) E D H
 | .cond c x y,k,g,Q,E,D,H=>R_ E c g λ g v=>fP g v (λ g=>(Ov (motive:=λ _=>WR) (tU rg ctx K X x (k+1)) (X (k+1)) (bH (k+1) K.named)) g Q E D H) (λ g=>(Ov (motive:=λ _=>WR) (tU rg ctx K X y (k+1+dD x)) (X (k+1+dD x)) (bH (k+1+dD x) K.named)) g Q E D H)
 | .block id b,k,g,Q,E,D,H=>(Ov (motive:=λ _=>WR) (tU rg ctx K X b (k+1)) (X (k+1)) (bH (k+1) K.named)) g (eY id Q) E D H
 | .scope b,k,g,Q,E,D,H=>(Ov (motive:=λ _=>WR) (tU rg ctx K X b (k+1)) (X (k+1)) (bH (k+1) K.named)) g (kJ b Q) E D H
 | .loop (B1 _) _,_,_,_,_,_,_=>sD
 | .loop B5 b,k,g,Q,E,D,H=>qV (Ov (motive:=λ _=>WR) (tU rg ctx K X b (k+1)) (X (k+1)) (bH (k+1) K.named)) Q E D H
 | .rangeFunc f n,_,g,Q,E,D,H=>R_ E f g λ g v=>su M K.ah ctx n E D H Q v
end
def LX(M:ak):ZI M=Tv M:=by
 funext dg Q E D ⟨o,l⟩ K g L R H;cases o with
 |none=>kernel_rfl
 |some q =>
  unfold ZI;simp only[KL]
  kernel_rfl
def Ks(M:ak):O9 M=rM M:=by
 funext dg Q E D l g H K;unfold O9 rM zK;rw[LX];rfl
def LJ(M:ak)(c:Ctx)(K:Kp)(X:Nat->WX):tU M (rM M) c K X=U M c K X:=by kernel_rfl
def Qa(M:ak)(c:Ctx)(K:Kp)(X:Nat->WX):tU M (O9 M) c K X=U M c K X:=by rw[Ks];exact LJ M c K X
abbrev Hs:=List (Nat×List Nat)
def aa4(n:Nat)(l:Hs):Option (List Nat):=B0 (motive:=λ _=>Option (List Nat)) B5 (λ p _ ih=>cond (JW p.1 n) (B1 p.2) ih) l
def B7(P:Jv):Nat->Mj->Option aR
 |0,_=>B5
 |d+1,t=>match P.underlying t with
  |some (.struct fs)=>dF.fieldsT P (B7 P d) fs.toList
  |some (.array n e)=>(bU P e).bind λ s=>(nQ P e).bind λ a=>(B7 P d e).bind λ q=>B1 (dF.itemsT s a q n 0)
  |_=>dF P 1 t
def Us(P:Jv)(t:Mj)(neg:Bool)(x y:N2):Option (List bL×fN):=(B7 P 20 t).bind λ q=>(oe P.globals.size [x,y]).bind λ l=>B1 (l,.read (Op.eq (.agg q) neg))
def MQ(P:Jv)(o:Pl):Option (List bL×fN):=match o.op with
 | .binOp op t x y _=>match P.underlying t,op with
  |some (.struct _),.eql=>Us P t B2 x y
  |some (.struct _),.neq=>Us P t B4 x y
  |some (.array _ _),.eql=>Us P t B2 x y
  |some (.array _ _),.neq=>Us P t B4 x y
  |_,_=>gA P o
 |_=>gA P o
def QY(P:Jv)(ops:Array Pl)(draw:Bool)(h:Option (List Nat)):Option ai :=
 (du (ops.toList.map (MQ P))).bind λ l =>
  (du ((R6 (motive:=λ _=>List (Bool×Nat)) ((N5 ops.size).map λ i=>(B2,i)) (λ l=>l.map λ x=>(JW (x % 2) 1,x / 2)) h).map (jD ops l λ i=>Ov (motive:=λ _=>Option (List Nat)) (B1 []) (OJ ops (aU ops l) (ng (aU ops l).cls (aU ops l).gB ops.size (2*ops.size) 0 []) i) draw))).bind λ steps=>B1 (.region steps)
def jI(P:Jv)(hs:Hs):Nat->Code->Option (ai×List dT)
 |_,.skip=>B1 (.skip,[])
 |_,.region r ops draw=>(QY P ops draw (Ov B5 (aa4 r hs) draw)).bind λ c=>B1 (c,[])
 |k,.seq a b=>(jI P hs k a).bind λ a=>(jI P hs (k+a.2.length) b).bind λ b=>B1 (.seq a.1 b.1,a.2++b.2)
 |k,.cond c a b=>(rU P.globals.size c).bind λ c=>(jI P hs k a).bind λ a=>(jI P hs (k+a.2.length) b).bind λ b=>B1 (.cond c a.1 b.1,a.2++b.2)
 |k,.block id b=>(jI P hs k b).bind λ b=>B1 (.block id b.1,b.2)
 |k,.loop b=>(jI P hs k b).bind λ b=>B1 (.loop B5 b.1,b.2)
 |k,.rangeFunc f ps a b=>(rU P.globals.size f).bind λ f=>(jI P hs (k+1) a).bind λ a=>(jI P hs (k+1+a.2.length) b).bind λ b=>B1 (.rangeFunc f k,{params:=ps.toList,assign:=a.1,body:=b.1}::(a.2++b.2))
 |_,.exit id=>B1 (.exit id,[])
 |k,.scope b=>(jI P hs k b).bind λ b=>B1 (.scope b.1,b.2)
 |_,.label l=>B1 (.label l,[])
 |_,.goto l=>B1 (.goto l,[])
 |_,.ret=>B1 (.ret,[])
 |_,.refuse _=>B1 (.stuck,[])
def Cm(n:Nat)(b:ai)(l:List dT):ai:=Ov (motive:=λ _=>ai)
 (Ov (motive:=λ _=>ai) (Ov (motive:=λ _=>ai)
 (R6 (motive:=λ _=>ai) .stuck (λ q=>Ov (motive:=λ _=>ai) q.body q.assign (JW (n / 100000 % 2) 1)) (nth l (n / 100000 / 2-1))) (Ab b) (JW (n / 100000) 1)) (wX b) (JW (n / 100000) 99)) b (Oh n 99999)
def bh(P:Jv)(n:Nat):ai:=Cm n (funcAt P (n % 100000)).body (funcAt P (n % 100000)).loops
def Kf(P:Jv)(hs:Hs)(n:Nat):ai:=R6 (motive:=λ _=>ai) .stuck (λ f=>R6 (motive:=λ _=>ai) .stuck (λ b=>R6 (motive:=λ _=>ai) .stuck (λ c=>Cm n c.1 c.2) (jI P hs 0 b)) f.body) (P.funcs[n % 100000]?)
abbrev RL:=List (aE->Env->List aK->ar->PR)
abbrev QL:=List (aE->Env->List aK->ar->Prop)
def uH(M:ak)(c:Ctx)(p:Nat->Kp×ai):List Nat->QL->Prop
 |k::ks,R::l=>(∀Q E D H,W M c (p k) B4 Q E D H=R Q E D H)/\uH M c p ks l
 |_,_=>True
def Ac(M:ak)(c:Ctx)(p:Nat->Kp×ai)(k a:Nat)(ks:List Nat)(R:aE->Env->List aK->ar->Prop)(l:QL):uH M c p (k::a::ks) (R::l)=((∀Q E D H,W M c (p k) B4 Q E D H=R Q E D H)/\uH M c p (a::ks) l):=rfl
def Aa(M:ak)(c:Ctx)(p:Nat->Kp×ai)(k:Nat)(R:aE->Env->List aK->ar->Prop):uH M c p [k] [R] = ∀Q E D H,W M c (p k) B4 Q E D H=R Q E D H:=propext ⟨λ h=>h.1,λ h=>⟨h,trivial⟩⟩
def tW(M:ak)(c:Ctx)(K:Kp)(p:Nat->Kp×ai)(r:ai)(ks:List Nat):RL :=
 B0 (motive:=λ _=>RL) [] (λ k _ ih=>(λ Q E D H=>tU M (O9 M) c K (λ j=>rW M c (p j)) (part r k) k B4 Q E D H)::ih) ks
def RC{P:Jv}{p:Nat->Nat->Kp×ai}{a:Nat->Kp}(hp:∀n k,p n k=(a n,part (bh P n) k))(M:ak)(c:Ctx)(n:Nat):∀ks:List Nat,uH M c (p n) ks (tW M c (a n) (p n) (bh P n) ks)
 |[]=>trivial
 |k::ks=>⟨λ Q E D H=>by
  have e:(λ j=>W M c (p n j))=λ j=>W M c (a n,part (bh P n) j):=funext λ j=>by rw[hp]
  show _=tU M (O9 M) c (a n) (λ j=>W M c (p n j)) (part (bh P n) k) k B4 Q E D H;rw[hp n k,e,Qa];exact Dj rfl,RC hp M c n ks⟩
def ad4(o:bE)(mk:Nat->AV)(H:ar)(K:Bool->AV->ar->Prop):HB B4 (B1 (o,mk)) H K=K B4 (mk H.au) (H.alloc o):=propext kr
def xkn(e:Nat)(z:List AV)(H:ar)(K:Bool->AV->ar->Prop):HB B4 (Op.alloc e z []) H K=K B4 (.ptr H.au 0) (H.alloc (.row z e (0,0) B4)):=propext kr
def GP(e:Nat)(v:AV)(H:ar)(K:Bool->AV->ar->Prop):HB B4 (Op.box e [v]) H K=K B4 (.ptr H.au 0) (H.alloc (.row v.cells e (0,0) B4)):=propext kr
@[congr]def ab7{m a:Bool}{o o':Option (bE×(Nat->AV))}{H H':ar}{K:Bool->AV->ar->Prop}(hm:m=a)(h:o=o')(b:H=H'):HB m o H K=HB a o' H' K:=by subst hm;subst h;subst b;rfl
abbrev uj:=List (Nat×Kp×Hs)
def kA(n:Nat)(l:uj):Kp:=B0 (motive:=λ _=>Kp) ⟨[],B2,[]⟩ (λ p _ ih=>cond (JW p.1 n) p.2.1 ih) l
def Cu(M:ak)(c:Ctx)(p:Nat->Nat->Kp×ai):uj->List QL->Prop
 |x::r,l::ls=>uH M c (p x.1) x.2.1.named l/\Cu M c p r ls
 |_,_=>True
def Aj(M:ak)(c:Ctx)(p:Nat->Nat->Kp×ai)(n:Nat)(ks a:List Nat)(b:Bool)(hs:Hs)(y:Nat×Kp×Hs)(r:uj)(l:QL)(ls:List QL):Cu M c p ((n,⟨a,b,ks⟩,hs)::y::r) (l::ls)=(uH M c (p n) ks l/\Cu M c p (y::r) ls):=rfl
def zY(M:ak)(c:Ctx)(p:Nat->Nat->Kp×ai)(n:Nat)(ks a:List Nat)(b:Bool)(hs:Hs)(l:QL):Cu M c p [(n,⟨a,b,ks⟩,hs)] [l]=uH M c (p n) ks l:=propext ⟨λ h=>h.1,λ h=>⟨h,trivial⟩⟩
def tF(M:ak)(c:Ctx)(Kt:Nat->Kp)(p:Nat->Nat->Kp×ai)(r:Nat->Hs->ai)(l:uj):List RL:=B0 (motive:=λ _=>List RL) [] (λ x _ ih=>tW M c (Kt x.1) (p x.1) (r x.1 x.2.2) x.2.1.named::ih) l
def po{P:Jv}{p:Nat->Nat->Kp×ai}{a:Nat->Kp}(hp:∀n k,p n k=(a n,part (bh P n) k))(M:ak)(c:Ctx)(l:uj)(e:tF M c a p (λ n _=>bh P n) l=tF M c a p (λ n h=>Kf P h n) l):Cu M c p l (tF M c a p (λ n h=>Kf P h n) l):=by
 rw[<-e];clear e
 induction l with
 |nil=>trivial
 |cons x l ih=>exact⟨RC hp M c x.1 _,ih⟩
def Yd:d9->d9->Bool
 | .tmp a,.tmp b=>JW a b
 | .kY a,.kY b=>JW a b
 | .cV a b,.cV c d=>cond (JW a c) (JW b d) B2
 |_,_=>B2
def Pf{a b:d9}(h:Yd a b=B4):a=b:=by
 cases a with
 |tmp a=>cases b with
  |tmp b=>rw[Lu h]
  |_=>cases h
 |kY a=>cases b with
  |kY b=>rw[Lu h]
  |_=>cases h
 |cV a x=>cases b with
  |cV b y =>
   have h:cond (JW a b) (JW x y) B2=true:=h;cases q:JW a b with
   |true=>rw[q]at h;rw[Lu q,Lu h]
   |false=>rw[q]at h;cases h
  |_=>cases h
def I2:List d9->List d9->Bool
 |[],[]=>B4
 |a::x,b::y=>cond (Yd a b) (I2 x y) B2
 |_,_=>B2
def Dm:∀{a b:List d9},I2 a b=B4->a=b
 |[],[],_=>rfl
 |a::x,b::y,h=>by
  unfold I2 at h;cases q:Yd a b with
  |true=>rw[q]at h;rw[Pf q,Dm h]
  |false=>rw[q]at h;cases h
def Y7(P:Jv)(tn:List Nat)(K:Kp)(n:Nat)(rs:List d9)(k:Nat):Bool:=cond (Oh n 99999) (cond (bH n tn) B2 (cond (jZ 0 k K.ah) (R6 (motive:=λ _=>Bool) B2 (λ F=>I2 F.results rs) ((aX P).func n)) B2)) B2
def OQ{P:Jv}{c:List Nat}{K:Kp}{n:Nat}{rs:List d9}{k:Nat}(h:Y7 P c K n rs k=B4):Oh n 99999=B4/\bH n c=B2/\jZ 0 k K.ah=B4/\(aX P).func n=B1 (funcAt P n)/\(funcAt P n).results=rs:=by
 unfold Y7 at h;cases a:Oh n 99999 with
 |false=>rw[a]at h;cases h
 |true =>
 cases b:bH n c with
 |true=>rw[a,b]at h;cases h
 |false =>
 cases d:jZ 0 k K.ah with
 |false=>rw[a,b,d]at h;cases h
 |true =>
 rw[a,b,d]at h;unfold funcAt;cases f:(aX P).func n with
 |none=>rw[f]at h;cases h
 |some F=>rw[f]at h;exact⟨rfl,rfl,rfl,rfl,Dm h⟩
def ad0{P:Jv}{n:Nat}(h:Oh n 99999=B4):bh P n=(funcAt P n).body:=by
 unfold bh Cm;rw[h,Nat.mod_eq_of_lt (Nat.lt_of_le_of_lt (Nat.le_of_ble_eq_true h) (by decide))]
def L5(i:Nat)(v:AV)(vs:List AV):kG i (v::vs)=(i,v)::kG (i+1) vs:=rfl
def Lr(i:Nat):kG i []=[]:=rfl
def aa:type_of% O3/\(∀(o:bE)mk H K,HB B4 (B1 (o,mk)) H K=K B4 (mk H.au) (H.alloc o))/\(∀e z H K,HB B4 (Op.alloc e z []) H K=K B4 (.ptr H.au 0) (H.alloc (.row z e (0,0) B4)))/\(∀e v H K,HB B4 (Op.box e [v]) H K=K B4 (.ptr H.au 0) (H.alloc (.row v.cells e (0,0) B4)))/\(∀i v vs,kG i (v::vs)=(i,v)::kG (i+1) vs)/\(∀i,kG i []=[])/\(∀{α:Type}(F:α->Prop)(K:α),JN F K=F K):=⟨O3,ad4,xkn,GP,L5,Lr,J4⟩
def QA{M:ak}{P:Jv}{p:Nat->Nat->Kp×ai}{a:Nat->Kp}(hp:∀n k,p n k=(a n,part (bh P n) k)){n:Nat}{F:bZ}(d:M.func n=B1 F){rs:List d9}(hr:F.results=rs){x y t:Nat}(c:sk F.body=B1 (Ab F.body,t,wX F.body))(e:bh P x=Ab F.body)(f:bh P y=wX F.body)(hk:(a x).ah=(a y).ah){vs:List AV}(b:jZ 0 vs.length (a x).ah=B4){H:ar}{Q:bI->ar->Prop}
 (h:W M ⟨B5,n⟩ (p x 0) B4 (Bo M ⟨B5,n⟩ (p y 0) t (eG M rs Q)) (kG 0 vs) [] H):Ga M n vs H Q:=by
 rw[hp,hp,e,f,<-hr]at h;exact Ib d hk c b h
def GV{M:ak}{P:Jv}{p:Nat->Nat->Kp×ai}{a:Nat->Kp}(hp:∀n k,p n k=(a n,part (bh P n) k)){n:Nat}{F:bZ}(c:M.func n=B1 F){rs:List d9}(hr:F.results=rs)(d:bh P n=F.body){vs:List AV}(b:jZ 0 vs.length (a n).ah=B4){up:Option aG}{H:ar}{Q:bI->ar->Prop}
 (h:W M ⟨B5,n⟩ (p n 0) B4 (eG M rs Q) (kG 0 vs) [] H):∃e H',jT M n vs up H e up H'/\Q e H':=by
 rw[hp,d,<-hr]at h;exact IX c b h
abbrev NZ:Nat:=185
abbrev Wz:Nat:=111
abbrev Nl:Nat:=153
abbrev Yy:Nat:=109
abbrev OG:Nat:=152
abbrev ZB:Nat:=89
abbrev Z4:Nat:=277
abbrev WZ:Nat:=114
abbrev Za:Nat:=276
abbrev iw:Nat:=275
abbrev Ox:Nat:=118
abbrev qqm:Nat:=184
abbrev Mu:Nat:=207
abbrev ZN:Nat:=150
abbrev OE:Nat:=182
abbrev oA:Nat:=154
abbrev KJ:Nat:=186
abbrev qta:Nat:=183
abbrev Zg:Nat:=67
abbrev q9p:Nat:=18
abbrev xk:Nat:=147
abbrev ja:Nat:=61
abbrev cE:Nat:=3
abbrev j1:Nat:=206
abbrev yi:Nat:=235
abbrev Ew:Nat:=164
open Go.Proofs Go.Proofs.YtgjdmncoonceaaaGreatDoor
class MK (M:ak):Prop where
 ok:∀n,bH n [18]=B2->M.func n=(aX Tryz.prog).func n
 mt:∀t s,M.kD t s=(aX Tryz.prog).kD t s
def MK.at{M:ak}[h:MK M]{n:Nat}{F:bZ}(hn:bH n [18]=B2)(a:(aX Tryz.prog).func n=B1 F):M.func n=B1 F:=(h.ok n hn).trans a
def Bc{M:ak}[h:MK M]{n:Nat}{F:bZ}(hn:bH n [18]=B2){rs:List d9}(a:(aX Tryz.prog).func n=B1 F/\F.results=rs){ks:Kp}{vs:List AV}(hk:jZ 0 vs.length ks.ah=B4){H:ar}{Q:bI->ar->Prop}(hw:W M ⟨B5,n⟩ (ks,part F.body 0) B4 (eG M rs Q) (kG 0 vs) [] H):Ga M n vs H Q:=R3 (MK.at hn a.1) hk (a.2▸hw)
def lj{M:ak}[MK M]{p:Nat->Nat->Kp×ai}{a:Nat->Kp}(hp:∀n k,p n k=(a n,part (bh Tryz.prog n) k))(n:Nat)(rs:List d9)(vs:List AV)(b:Y7 Tryz.prog [18] (a n) n rs vs.length=B4)(H:ar)(Q:bI->ar->Prop)(h:W M ⟨B5,n⟩ (p n 0) B4 (eG M rs Q) (kG 0 vs) [] H):Ga M n vs H Q:=by
 obtain⟨b,c,d,e⟩:=OQ b;exact Bc c e (ks:=a n) d (by rw[hp,ad0 b]at h;exact h)
variable{M:ak}[MK M]{H:ar}{Q:bI->ar->Prop}{a0 a1 a2 a3:AV}
abbrev Vd:uj:=[(67,⟨[0,1,4,5],B2,[0,2,10]⟩,[]),(185,⟨[0,2,3,7,8],B2,[0,2,10,15]⟩,[]),(300185,⟨[0,2,3,7,8],B2,[0]⟩,[]),(200185,⟨[0,2,3,7,8],B2,[0]⟩,[]),(153,⟨[0,2,3,7,8],B2,[0,2,10,15]⟩,[]),(300153,⟨[0,2,3,7,8],B2,[0]⟩,[]),(200153,⟨[0,2,3,7,8],B2,[0]⟩,[]),(277,⟨[0,1,2,6,7,8,9,10],B2,[0,2,18,8,20,14,26]⟩,[]),(276,⟨[0,1,2,6,7,8],B2,[0,2,10,12,20]⟩,[]),(89,⟨[0,1,4,5,6,21],B2,[0,4,12]⟩,[]),(275,⟨[0,1,4,5,6,7],B2,[0,2,10,12,20]⟩,[]),(109,⟨[0,1,4,5,6,7,8,21],B2,[0,4,12]⟩,[]),(111,⟨[0,1,4,5,6,7,8],B2,[0,4,12]⟩,[]),(114,⟨[0,1,2,5,6,7,8],B2,[0,4,10]⟩,[(3,[0,2,4,6,8,10,5,12,14,16])]),(152,⟨[0,1,2,3,7,8,9,10,11,12,21],B2,[0,2,23,16,25,33]⟩,[(13,[0,2,4,6,8,5,10,12])]),(184,⟨[0,1,2],B2,[0]⟩,[]),(150,⟨[0,1,2,6,7,8],B2,[0,2,10,12,20]⟩,[]),(183,⟨[0,1],B2,[0]⟩,[]),(118,⟨[0,1,3,4,5,8,9],B2,[0,2,7]⟩,[]),(300118,⟨[0,1,3,4,5,8,9],B2,[0]⟩,[]),(200118,⟨[0,1,3,4,5,8,9],B2,[0]⟩,[]),(182,⟨[0,1,4,5,6,9,10],B2,[0,2,3,5,7,12]⟩,[]),(300182,⟨[0,1,4,5,6,9,10],B2,[0]⟩,[]),(200182,⟨[0,1,4,5,6,9,10],B2,[0,9,15]⟩,[]),(207,⟨[0,1,3,10,11],B2,[0,1,7,9,13,19,34,23,29]⟩,[]),(154,⟨[0,1,2,3,4],B2,[0]⟩,[]),(186,⟨[0,1,2,4,5,26,27],B2,[0,6,12,18,27]⟩,[])]
def Yf(n:Nat):Kp:=kA n Vd
def AQ(n k:Nat):Kp×ai:=(Yf n,part (bh Tryz.prog n) k)
def _R(n k:Nat):AQ n k=(Yf n,part (bh Tryz.prog n) k):=rfl
def tP:=@lj M _ AQ Yf _R
attribute [local irreducible] PR AQ nJ gF fP gG iM gD pe yI pW wF xD yM fY mS oQ rW qV su nR sD oH eY kJ cT AV.undef Op.move Op.pick Op.build Op.nilCheck Op.bin Op.eq Op.un Op.wrap Op.dR Op.eM Op.dH Op.bt Op.dS Op.aA Op.cP Op.fieldAddr Op.field Op.aQ Op.aV Op.bG Op.bO Op.typeAssert Op.extract Op.fE Op.cD Op.oY Op.cap Op.fg Op.dp Op.dM Op.aD Op.bV Op.ae Op.aq Op.cH Op.lookup Op.gJ Op.eR Op.alloc Op.box Op.buildSlice Op.mkMap Op.mkSlice Op.cI Op.dP Op.makeNoZero Op.store Op.mapUpdate Op.dk Op.eN Op.append Op.copy Op.bP Op.bS Op.eU Op.dQ
def jw(M:ak)(c:Ctx):=by
 have h:=po _R M c Vd (by kernel_rfl)
 conv at h=>arg 5;reduce
 delta PR RL oH gD nJ gF pe iM mS fP gG fY oQ qV su nR pW rW sn Vd at h
 simp only[Aj,zY,Ac,Aa,Sp,QR]at h;exact h
def bf(M:ak)(c:Ctx):=(jw M c).2.2.2.2.2.2.2.2
def bn(M:ak)(c:Ctx):=(bf M c).2.2.2.2.2.2.2.2
def bo(M:ak)(c:Ctx):=(bn M c).2.2.2.2.2.2.2.2
def Ex(M:ak)(c:Ctx):=(jw M c).1
def ad7:=@tP M _ Zg [.tmp 4,.tmp 5] [a0,a1] (by kernel_rfl) H Q
def UG:bZ:=funcAt Tryz.prog NZ
def P7:dT:=hJ UG 0
abbrev UU(k:Nat):Kp×ai:=AQ 300185 k
abbrev Yv(k:Nat):Kp×ai:=AQ 200185 k
def qly:nth UG.loops 0=B1 P7/\P7.params=[8]:=⟨by kernel_rfl,by kernel_rfl⟩
def quf:(UU 0).1.ah=[0,2,3,7,8]/\(UU 0).2=P7.assign:=⟨by kernel_rfl,by kernel_rfl⟩
def qug:(Yv 0).1.ah=[0,2,3,7,8]/\(Yv 0).2=P7.body:=⟨by kernel_rfl,by kernel_rfl⟩
def qwa:M.func NZ=B1 UG:=MK.at (by decide) (by kernel_rfl)
def _k(M:ak)(c:Ctx):=II (jw M c).2.1.1 (II (jw M c).2.2.1 (II (jw M c).2.2.2.1 (II (jw M c).2.1.2.1 (II (jw M c).2.1.2.2.1 ((jw M c).2.1.2.2.2)))))
def qx1:=@tP M _ NZ [.tmp 2] [a0] (by kernel_rfl) H Q
def TP:bZ:=funcAt Tryz.prog Nl
def RY:dT:=hJ TP 0
abbrev Wb(k:Nat):Kp×ai:=AQ 300153 k
abbrev X6(k:Nat):Kp×ai:=AQ 200153 k
def qkg:nth TP.loops 0=B1 RY/\RY.params=[8]:=⟨by kernel_rfl,by kernel_rfl⟩
def qsu:(Wb 0).1.ah=[0,2,3,7,8]/\(Wb 0).2=RY.assign:=⟨by kernel_rfl,by kernel_rfl⟩
def qsv:(X6 0).1.ah=[0,2,3,7,8]/\(X6 0).2=RY.body:=⟨by kernel_rfl,by kernel_rfl⟩
def quh:M.func Nl=B1 TP:=MK.at (by decide) (by kernel_rfl)
def qmq(M:ak)(c:Ctx):=II (jw M c).2.2.2.2.1.1 (II (jw M c).2.2.2.2.2.1 (II (jw M c).2.2.2.2.2.2.1 (II (jw M c).2.2.2.2.1.2.1 (II (jw M c).2.2.2.2.1.2.2.1 ((jw M c).2.2.2.2.1.2.2.2)))))
def qwb:=@tP M _ Nl [.tmp 2] [a0] (by kernel_rfl) H Q
def q5e(M:ak)(c:Ctx):=(jw M c).2.2.2.2.2.2.2.1
def q5d:=@tP M _ Z4 [.tmp 6] [a0,a1,a2] (by kernel_rfl) H Q
def q7u(M:ak)(c:Ctx):=(bf M c).1
def q7t:=@tP M _ Za [.tmp 6] [a0,a1,a2] (by kernel_rfl) H Q
def q5c(M:ak)(c:Ctx):=(bf M c).2.1
def q5b:=@tP M _ ZB [.cV 21 4,.tmp 5] [a0,a1] (by kernel_rfl) H Q
def q5g(M:ak)(c:Ctx):=(bf M c).2.2.1
def q5f:=@tP M _ iw [.tmp 4,.tmp 5] [a0,a1] (by kernel_rfl) H Q
def q48(M:ak)(c:Ctx):=(bf M c).2.2.2.1
def q47:=@tP M _ Yy [.cV 21 4,.tmp 5] [a0,a1] (by kernel_rfl) H Q
def qx3(M:ak)(c:Ctx):=(bf M c).2.2.2.2.1
def qx2:=@tP M _ Wz [.cV 8 4,.tmp 5] [a0,a1] (by kernel_rfl) H Q
def qwd(M:ak)(c:Ctx):=(bf M c).2.2.2.2.2.1
def qwc:=@tP M _ WZ [.tmp 6] [a0,a1,a2] (by kernel_rfl) H Q
abbrev qrk(k:Nat):Kp×ai:=AQ OG k
def q5a(M:ak)(c:Ctx):=(bf M c).2.2.2.2.2.2.1
def q49:=@tP M _ OG [.cV 21 8,.tmp 9,.tmp 10] [a0,a1,a2,a3] (by kernel_rfl) H Q
def q5k(M:ak)(c:Ctx):=(bf M c).2.2.2.2.2.2.2.1
def q5j:=@tP M _ qqm [.tmp 2] [a0] (by kernel_rfl) H Q
def xap(M:ak)(c:Ctx):=(bn M c).1
def xao:=@tP M _ ZN [.tmp 6,.tmp 7] [a0,a1,a2] (by kernel_rfl) H Q
def q7z(M:ak)(c:Ctx):=(bn M c).2.1
def q7y:=@tP M _ qta [] [a0,a1] (by kernel_rfl) H Q
def TZ:bZ:=funcAt Tryz.prog Ox
def Qx:dT:=hJ TZ 0
abbrev XD(k:Nat):Kp×ai:=AQ 300118 k
abbrev XA(k:Nat):Kp×ai:=AQ 200118 k
def qrl:nth TZ.loops 0=B1 Qx/\Qx.params=[9]:=⟨by kernel_rfl,by kernel_rfl⟩
def q5h:(XD 0).1.ah=[0,1,3,4,5,8,9]/\(XD 0).2=Qx.assign:=⟨by kernel_rfl,by kernel_rfl⟩
def q5i:(XA 0).1.ah=[0,1,3,4,5,8,9]/\(XA 0).2=Qx.body:=⟨by kernel_rfl,by kernel_rfl⟩
def q7v:M.func Ox=B1 TZ:=MK.at (by decide) (by kernel_rfl)
def J_(M:ak)(c:Ctx):=II (bn M c).2.2.1.1 (II (bn M c).2.2.2.1 (II (bn M c).2.2.2.2.1 (II (bn M c).2.2.1.2.1 ((bn M c).2.2.1.2.2))))
def xan:=@tP M _ Ox [.kY 4] [a0,a1] (by kernel_rfl) H Q
def Tf:bZ:=funcAt Tryz.prog OE
def Rp:dT:=hJ Tf 0
abbrev XR(k:Nat):Kp×ai:=AQ 300182 k
abbrev Wr(k:Nat):Kp×ai:=AQ 200182 k
def z6:nth Tf.loops 0=B1 Rp/\Rp.params=[10]:=⟨by kernel_rfl,by kernel_rfl⟩
def qx6:(XR 0).1.ah=[0,1,4,5,6,9,10]/\(XR 0).2=Rp.assign:=⟨by kernel_rfl,by kernel_rfl⟩
def qx7:(Wr 0).1.ah=[0,1,4,5,6,9,10]/\(Wr 0).2=Rp.body:=⟨by kernel_rfl,by kernel_rfl⟩
def q0p:M.func OE=B1 Tf:=MK.at (by decide) (by kernel_rfl)
def _9(M:ak)(c:Ctx):=II (bn M c).2.2.2.2.2.1.1 (II (bn M c).2.2.2.2.2.2.1 (II (bn M c).2.2.2.2.2.2.2.1.1 (II (bn M c).2.2.2.2.2.1.2.1 (II (bn M c).2.2.2.2.2.2.2.1.2.1 (II (bn M c).2.2.2.2.2.1.2.2.1 (II (bn M c).2.2.2.2.2.2.2.1.2.2 (II (bn M c).2.2.2.2.2.1.2.2.2.1 (II (bn M c).2.2.2.2.2.1.2.2.2.2.1 ((bn M c).2.2.2.2.2.1.2.2.2.2.2)))))))))
def q5l:=@tP M _ OE [.kY 4] [a0,a1] (by kernel_rfl) H Q
def qx5(M:ak)(c:Ctx):=(bo M c).1
def qx4:=@tP M _ Mu [] [a0,a1] (by kernel_rfl) H Q
def q7x(M:ak)(c:Ctx):=(bo M c).2.1
def q7w:=@tP M _ oA [.tmp 4] [a0,a1] (by kernel_rfl) H Q
def q0r(M:ak)(c:Ctx):=(bo M c).2.2
def q0q:=@tP M _ KJ [] [a0,a1,a2] (by kernel_rfl) H Q
abbrev VM:Nat:=52
abbrev Xp:Nat:=87
abbrev U0:Nat:=265
abbrev Zn:Nat:=266
abbrev _E:Nat:=267
abbrev YC:Nat:=268
abbrev Ra:Nat:=84
abbrev vd:Nat:=81
abbrev Vf:Nat:=113
abbrev qpj:Nat:=269
abbrev QI:Nat:=270
abbrev PM:Nat:=271
abbrev qng:Nat:=116
abbrev Zh:Nat:=274
abbrev Ol:Nat:=115
abbrev X0:Nat:=117
abbrev qpk:Nat:=108
abbrev Zz:Nat:=272
abbrev Wf:Nat:=107
abbrev qqt:Nat:=110
abbrev lh:Nat:=273
abbrev qja:Nat:=149
abbrev YD:Nat:=112
abbrev XB:Nat:=151
abbrev Yc:Nat:=181
abbrev xp:Nat:=63
abbrev AO:Nat:=23
abbrev Ph:Nat:=169
abbrev Z9:uj:=[(52,⟨[0,1,3,4,5,6,7],B2,[0,4,12]⟩,[]),(269,⟨[0,2],B2,[0]⟩,[]),(270,⟨[0,1,4,5,6,7,8,9,11],B2,[0,2,12,14,24,30]⟩,[]),(271,⟨[0,1,2,6,7,8,9,10],B2,[0,2,12,14,22,28]⟩,[]),(266,⟨[0,1,2,3,8,9,10,11,12,13,14],B2,[0,2,12,20,22,30,32,38]⟩,[]),(265,⟨[0,2],B2,[0,2,17]⟩,[]),(268,⟨[0,2],B2,[0,2,17]⟩,[]),(87,⟨[0,1,4],B2,[0,2,23,16]⟩,[]),(81,⟨[0,1,3,4,5,6,7,8,9,51,69],B2,[0,2,10,12,20,73,34,75,40,85,41,49,53,61]⟩,[]),(84,⟨[0,1,4,5,6,7],B2,[0,2,17,19,27,33]⟩,[]),(267,⟨[0,2],B2,[0,2,10]⟩,[]),(272,⟨[0,1,4],B2,[0,2,17]⟩,[]),(274,⟨[0,1,2,6],B2,[0,2,10]⟩,[]),(273,⟨[0,1,4,5,6],B2,[0]⟩,[]),(116,⟨[0,1],B2,[0]⟩,[]),(107,⟨[0,1,2,4,5,6,8,14],B2,[0,2,41,12,18,28]⟩,[(8,[0,2,4,6,8,10,12,14,7,16,18]),(10,[0,2,4,6,8,10,12,14,7,16,18])]),(108,⟨[0,1,2,4],B2,[0]⟩,[]),(110,⟨[0,1,2,6,11],B2,[0]⟩,[]),(112,⟨[0,1,4,5,6,7],B2,[0,4,12,35,17,23,34]⟩,[]),(113,⟨[0,1,3],B2,[0]⟩,[]),(115,⟨[0,1,3,4,5,6,7,8],B2,[0,4,10,12,20,28]⟩,[]),(117,⟨[0,1,3,4,5],B2,[0,2,10]⟩,[]),(149,⟨[0,1,4],B2,[0]⟩,[]),(151,⟨[0,1,4,5,7,8],B2,[0,2,25,7,13,24]⟩,[]),(181,⟨[0,1,4,5,7,8],B2,[0,2,25,7,13,24]⟩,[])]
def ZX(n:Nat):Kp:=kA n Z9
def J7(n k:Nat):Kp×ai:=(ZX n,part (bh Tryz.prog n) k)
def q3e(n k:Nat):J7 n k=(ZX n,part (bh Tryz.prog n) k):=rfl
def vr:=@lj M _ J7 ZX q3e
attribute [local irreducible] J7
def vq(M:ak)(c:Ctx):=by
 have h:=po q3e M c Z9 (by kernel_rfl)
 conv at h=>arg 5;reduce
 delta PR RL oH gD nJ gF pe iM mS fP gG fY oQ qV nR pW rW sn Z9 at h
 simp only[Aj,zY,Ac,Aa,Sp,QR]at h;exact h
def bB(M:ak)(c:Ctx):=(vq M c).2.2.2.2.2.2.2.2
def cb(M:ak)(c:Ctx):=(bB M c).2.2.2.2.2.2.2.2
def ck(M:ak)(c:Ctx):=(cb M c).2.2.2.2.2.2.2.2
def xjz(M:ak)(c:Ctx):=(vq M c).1
def xjy:=@vr M _ VM [.tmp 4,.tmp 5] [a0,a1] (by kernel_rfl) H Q
def q06(M:ak)(c:Ctx):=(vq M c).2.1
def q05:=@vr M _ qpj [.tmp 2] [a0] (by kernel_rfl) H Q
abbrev q07(k:Nat):Kp×ai:=J7 QI k
def q09(M:ak)(c:Ctx):=(vq M c).2.2.1
def q08:=@vr M _ QI [.tmp 4,.tmp 5,.tmp 6,.tmp 7] [a0,a1] (by kernel_rfl) H Q
abbrev qyd(k:Nat):Kp×ai:=J7 PM k
def qyf(M:ak)(c:Ctx):=(vq M c).2.2.2.1
def qye:=@vr M _ PM [.tmp 6,.tmp 7,.tmp 8] [a0,a1,a2] (by kernel_rfl) H Q
def q55(M:ak)(c:Ctx):=(vq M c).2.2.2.2.1
def q54:=@vr M _ Zn [.tmp 8,.tmp 9,.tmp 10,.tmp 11] [a0,a1,a2,a3] (by kernel_rfl) H Q
def qyc(M:ak)(c:Ctx):=(vq M c).2.2.2.2.2.1
def qyb:=@vr M _ U0 [.tmp 2] [a0] (by kernel_rfl) H Q
def qwi(M:ak)(c:Ctx):=(vq M c).2.2.2.2.2.2.1
def qwh:=@vr M _ YC [.tmp 2] [a0] (by kernel_rfl) H Q
def qya(M:ak)(c:Ctx):=(vq M c).2.2.2.2.2.2.2.1
def qx9:=@vr M _ Xp [.tmp 4] [a0,a1] (by kernel_rfl) H Q
abbrev NB(k:Nat):Kp×ai:=J7 vd k
def q04(M:ak)(c:Ctx):=(bB M c).1
def q03:=@vr M _ vd [.tmp 4,.tmp 5] [a0,a1] (by kernel_rfl) H Q
abbrev q0y(k:Nat):Kp×ai:=J7 Ra k
def q00(M:ak)(c:Ctx):=(bB M c).2.1
def q0z:=@vr M _ Ra [.tmp 4,.tmp 5] [a0,a1] (by kernel_rfl) H Q
def q0x(M:ak)(c:Ctx):=(bB M c).2.2.1
def q0w:=@vr M _ _E [.tmp 2] [a0] (by kernel_rfl) H Q
def q59(M:ak)(c:Ctx):=(bB M c).2.2.2.1
def q58:=@vr M _ Zz [.tmp 4] [a0,a1] (by kernel_rfl) H Q
def q57(M:ak)(c:Ctx):=(bB M c).2.2.2.2.1
def q56:=@vr M _ Zh [.tmp 6] [a0,a1,a2] (by kernel_rfl) H Q
def qyj(M:ak)(c:Ctx):=(bB M c).2.2.2.2.2.1
def qyi:=@vr M _ lh [.tmp 4] [a0,a1] (by kernel_rfl) H Q
def qyh(M:ak)(c:Ctx):=(bB M c).2.2.2.2.2.2.1
def qyg:=@vr M _ qng [] [a0,a1] (by kernel_rfl) H Q
def qup(M:ak)(c:Ctx):=(bB M c).2.2.2.2.2.2.2.1
def qun:=@vr M _ Wf [.tmp 6] [a0,a1,a2] (by kernel_rfl) H Q
def Nr(M:ak)(c:Ctx):=(cb M c).1
def q1e:=@vr M _ qpk [] [a0,a1,a2] (by kernel_rfl) H Q
def q6b(M:ak)(c:Ctx):=(cb M c).2.1
def q6a:=@vr M _ qqt [.cV 11 6] [a0,a1,a2] (by kernel_rfl) H Q
def qo1(M:ak)(c:Ctx):=(cb M c).2.2.1
def qo0:=@vr M _ YD [.tmp 4] [a0,a1] (by kernel_rfl) H Q
def _V(M:ak)(c:Ctx):=(cb M c).2.2.2.1
def qwj:=@vr M _ Vf [.tmp 3] [a0,a1] (by kernel_rfl) H Q
abbrev qp0(k:Nat):Kp×ai:=J7 Ol k
def q1b(M:ak)(c:Ctx):=(cb M c).2.2.2.2.1
def q1a:=@vr M _ Ol [.tmp 4] [a0,a1] (by kernel_rfl) H Q
def q1d(M:ak)(c:Ctx):=(cb M c).2.2.2.2.2.1
def q1c:=@vr M _ X0 [.tmp 4] [a0,a1] (by kernel_rfl) H Q
def qr3(M:ak)(c:Ctx):=(cb M c).2.2.2.2.2.2.1
def qr2:=@vr M _ qja [.tmp 4] [a0,a1] (by kernel_rfl) H Q
def qqe(M:ak)(c:Ctx):=(cb M c).2.2.2.2.2.2.2.1
def qqd:=@vr M _ XB [.tmp 4] [a0,a1] (by kernel_rfl) H Q
def qws(M:ak)(c:Ctx):=(ck M c)
def qwr:=@vr M _ Yc [.tmp 4] [a0,a1] (by kernel_rfl) H Q
abbrev Gh:Nat:=80
abbrev qvd:Nat:=53
abbrev Wc:Nat:=103
abbrev Oe:Nat:=105
abbrev SW:Nat:=106
abbrev Y6:Nat:=51
abbrev m8:Nat:=148
abbrev MZ:Nat:=180
abbrev JY:Nat:=104
abbrev Tu:Nat:=146
abbrev Wq:Nat:=72
abbrev Wv:Nat:=68
abbrev Yw:Nat:=88
abbrev XS:Nat:=66
abbrev sS:Nat:=147
abbrev YA:Nat:=179
abbrev tc:Nat:=113
abbrev O_:Nat:=159
abbrev YJ:Nat:=160
abbrev QJ:Nat:=163
abbrev _I:Nat:=203
abbrev ff:uj:=[(51,⟨[0,1,4,5,6,7,8,9,35,36],B2,[0,4,12,14,31,19,25,30]⟩,[]),(80,⟨[0,1,3,4,5,6,7,8,9,37,38],B2,[0,2,10,12,20,28,32,113,42,119,45,61,66,55,71,86,73,99,79]⟩,[]),(53,⟨[0,1,2,5,6],B2,[0,2,10]⟩,[]),(66,⟨[0,2,3],B2,[0,2,10]⟩,[]),(68,⟨[0,1,2,5,6,7,8],B2,[0,4,10]⟩,[]),(103,⟨[0,1,4],B2,[0,2,10]⟩,[]),(104,⟨[0,1,3,4,5,6,9,10],B2,[0,4,51,14,17,26,38]⟩,[]),(105,⟨[0,1,2,5,6,7,8,9,74,75],B2,[0,4,22,10,24,12,32,18,36,41]⟩,[]),(300105,⟨[0,1,2,5,6,7,8,9,74,75],B2,[0]⟩,[]),(200105,⟨[0,1,2,5,6,7,8,9,74,75],B2,[0]⟩,[]),(106,⟨[0,1,4,5,7,11],B2,[0,4,8,18]⟩,[]),(88,⟨[0,1,4,5],B2,[0,2,17]⟩,[]),(146,⟨[0,1,2,3],B2,[0]⟩,[]),(147,⟨[0,1,4],B2,[0]⟩,[]),(148,⟨[0,1,2],B2,[0]⟩,[]),(72,⟨[0,1,4,5,6,7,8],B2,[0,4,12]⟩,[]),(179,⟨[0,1,4,5,7,8],B2,[0,2,25,7,13,24]⟩,[]),(180,⟨[0,1,3,4],B2,[0,4,10,19]⟩,[])]
def YU(n:Nat):Kp:=kA n ff
def MN(n k:Nat):Kp×ai:=(YU n,part (bh Tryz.prog n) k)
def q27(n k:Nat):MN n k=(YU n,part (bh Tryz.prog n) k):=rfl
def wI:=@lj M _ MN YU q27
attribute [local irreducible] MN
def vf(M:ak)(c:Ctx):=by
 have h:=po q27 M c ff (by kernel_rfl)
 conv at h=>arg 5;reduce
 delta PR RL oH gD nJ gF pe mS fP gG fY oQ qV su nR pW rW sn ff at h
 simp only[Aj,zY,Ac,Aa,Sp,QR]at h;exact h
def cn(M:ak)(c:Ctx):=(vf M c).2.2.2.2.2.2.2.2
def cr(M:ak)(c:Ctx):=(cn M c).2.2.2.2.2.2.2.2
def xl0(M:ak)(c:Ctx):=(vf M c).1
def xlz:=@wI M _ Y6 [.tmp 4,.tmp 5] [a0,a1] (by kernel_rfl) H Q
abbrev XU(k:Nat):Kp×ai:=MN Gh k
def qtp(M:ak)(c:Ctx):=(vf M c).2.1
def q7n:=@wI M _ Gh [.tmp 4,.tmp 5] [a0,a1] (by kernel_rfl) H Q
def q97(M:ak)(c:Ctx):=(vf M c).2.2.1
def q96:=@wI M _ qvd [.tmp 6] [a0,a1,a2] (by kernel_rfl) H Q
def xm5(M:ak)(c:Ctx):=(vf M c).2.2.2.1
def xm4:=@wI M _ XS [.tmp 2,.tmp 3] [a0] (by kernel_rfl) H Q
def xa2(M:ak)(c:Ctx):=(vf M c).2.2.2.2.1
def xa1:=@wI M _ Wv [.tmp 6] [a0,a1,a2] (by kernel_rfl) H Q
def xcp(M:ak)(c:Ctx):=(vf M c).2.2.2.2.2.1
def xco:=@wI M _ Wc [.tmp 4] [a0,a1] (by kernel_rfl) H Q
abbrev TQ(k:Nat):Kp×ai:=MN JY k
def q4s(M:ak)(c:Ctx):=(vf M c).2.2.2.2.2.2.1
def q4r:=@wI M _ JY [.tmp 4] [a0,a1] (by kernel_rfl) H Q
def Uq:bZ:=funcAt Tryz.prog Oe
def P8:dT:=hJ Uq 0
abbrev Xd(k:Nat):Kp×ai:=MN 300105 k
abbrev Wj(k:Nat):Kp×ai:=MN 200105 k
def _u:nth Uq.loops 0=B1 P8/\P8.params=[75]:=⟨by kernel_rfl,by kernel_rfl⟩
def qxw:(Xd 0).1.ah=[0,1,2,5,6,7,8,9,74,75]/\(Xd 0).2=P8.assign:=⟨by kernel_rfl,by kernel_rfl⟩
def qxx:(Wj 0).1.ah=[0,1,2,5,6,7,8,9,74,75]/\(Wj 0).2=P8.body:=⟨by kernel_rfl,by kernel_rfl⟩
def q0m:M.func Oe=B1 Uq:=MK.at (by decide) (by kernel_rfl)
def _K(M:ak)(c:Ctx):=II (vf M c).2.2.2.2.2.2.2.1.1 (II (cn M c).1 (II (cn M c).2.1 (II (vf M c).2.2.2.2.2.2.2.1.2.1 (II (vf M c).2.2.2.2.2.2.2.1.2.2.1 (II (vf M c).2.2.2.2.2.2.2.1.2.2.2.1 (II (vf M c).2.2.2.2.2.2.2.1.2.2.2.2.1 (II (vf M c).2.2.2.2.2.2.2.1.2.2.2.2.2.1 (II (vf M c).2.2.2.2.2.2.2.1.2.2.2.2.2.2.1 (II (vf M c).2.2.2.2.2.2.2.1.2.2.2.2.2.2.2.1 (II (vf M c).2.2.2.2.2.2.2.1.2.2.2.2.2.2.2.2.1 ((vf M c).2.2.2.2.2.2.2.1.2.2.2.2.2.2.2.2.2)))))))))))
def q4o:=@wI M _ Oe [.tmp 6] [a0,a1,a2] (by kernel_rfl) H Q
def q4q(M:ak)(c:Ctx):=(cn M c).2.2.1
def q4p:=@wI M _ SW [.cV 11 4] [a0,a1] (by kernel_rfl) H Q
def xdm(M:ak)(c:Ctx):=(cn M c).2.2.2.1
def xdl:=@wI M _ Yw [.tmp 4,.tmp 5] [a0,a1] (by kernel_rfl) H Q
def oW(M:ak)(c:Ctx):=(cn M c).2.2.2.2.1
def qxy:=@wI M _ Tu [.tmp 3] [a0,a1] (by kernel_rfl) H Q
def qj5(M:ak)(c:Ctx):=(cn M c).2.2.2.2.2.1
def qj4:=@wI M _ sS [.tmp 4] [a0,a1] (by kernel_rfl) H Q
def q0o(M:ak)(c:Ctx):=(cn M c).2.2.2.2.2.2.1
def q0n:=@wI M _ m8 [.tmp 2] [a0] (by kernel_rfl) H Q
def q79(M:ak)(c:Ctx):=(cn M c).2.2.2.2.2.2.2.1
def q78:=@wI M _ Wq [.cV 8 4,.tmp 5] [a0,a1] (by kernel_rfl) H Q
def ql6(M:ak)(c:Ctx):=(cr M c).1
def ql5:=@wI M _ YA [.tmp 4] [a0,a1] (by kernel_rfl) H Q
def qv3(M:ak)(c:Ctx):=(cr M c).2
def qv2:=@wI M _ MZ [] [a0,a1] (by kernel_rfl) H Q
abbrev Oq:Nat:=65
abbrev Jf:Nat:=86
abbrev Tc:Nat:=258
abbrev UQ:Nat:=259
abbrev UN:Nat:=260
abbrev Uf:Nat:=261
abbrev Qb:Nat:=63
abbrev Qu:Nat:=64
abbrev T0:Nat:=262
abbrev SE:Nat:=263
abbrev UI:Nat:=264
abbrev VH:Nat:=83
abbrev R9:Nat:=85
abbrev Y3:Nat:=82
abbrev Wl:Nat:=37
abbrev Vh:Nat:=79
abbrev Mc:Nat:=115
abbrev Mq:Nat:=116
variable{a4:AV}
abbrev ZT:uj:=[(37,⟨[0,1,2,4,5,6,7,8,9,10,11,12,13,37,38,60,61,62],B2,[0,4,12,14,41,19,58,46,25,52,40,31,57,39]⟩,[]),(263,⟨[0,1,2,6,7,8,9,10],B2,[0,4,12]⟩,[]),(264,⟨[0,1,2,3,8,9,10,11],B2,[0,4,12]⟩,[]),(259,⟨[0,1,2,3,4,10,11,12,13,14],B2,[0,4,12]⟩,[]),(258,⟨[0,1,4],B2,[0]⟩,[]),(261,⟨[0,1,4],B2,[0]⟩,[]),(65,⟨[0,1,2,5,6],B2,[0]⟩,[]),(64,⟨[0,1,2,6,7,8,9],B2,[0,4,12]⟩,[]),(63,⟨[0,1,4,5,6,7,8,11],B2,[0,2,17,21,23,29]⟩,[]),(262,⟨[0,1,4,5],B2,[0]⟩,[]),(260,⟨[0,1,4,5],B2,[0]⟩,[]),(82,⟨[0,1],B2,[0]⟩,[]),(83,⟨[0,1,4,5],B2,[0,2,17]⟩,[]),(85,⟨[0,1,2,6,7,8],B2,[0,4,12]⟩,[]),(86,⟨[0,1,3],B2,[0]⟩,[]),(79,⟨[0,1,2,6,7],B2,[0,4,12]⟩,[])]
def Xt(n:Nat):Kp:=kA n ZT
def Zl(n k:Nat):Kp×ai:=(Xt n,part (bh Tryz.prog n) k)
def m_(n k:Nat):Zl n k=(Xt n,part (bh Tryz.prog n) k):=rfl
def wE:=@lj M _ Zl Xt m_
attribute [local irreducible] Zl
def vQ(M:ak)(c:Ctx):=by
 have h:=po m_ M c ZT (by kernel_rfl)
 conv at h=>arg 5;reduce
 delta PR RL oH gD nJ gF pe mS fP gG fY oQ qV nR pW rW sn ZT at h
 simp only[Aj,zY,Ac,Aa,Sp,QR]at h;exact h
def cA(M:ak)(c:Ctx):=(vQ M c).2.2.2.2.2.2.2.2
def SJ(M:ak)(c:Ctx):=(vQ M c).1
def xlk:=@wE M _ Wl [.tmp 4,.tmp 5] [a0,a1] (by kernel_rfl) H Q
def q7h(M:ak)(c:Ctx):=(vQ M c).2.1
def q7g:=@wE M _ SE [.tmp 6,.tmp 7,.tmp 8] [a0,a1,a2] (by kernel_rfl) H Q
def q4c(M:ak)(c:Ctx):=(vQ M c).2.2.1
def q4b:=@wE M _ UI [.tmp 8,.tmp 9] [a0,a1,a2,a3] (by kernel_rfl) H Q
def q93(M:ak)(c:Ctx):=(vQ M c).2.2.2.1
def q92:=@wE M _ UQ [.tmp 10,.tmp 11,.tmp 12] [a0,a1,a2,a3,a4] (by kernel_rfl) H Q
def q4a(M:ak)(c:Ctx):=(vQ M c).2.2.2.2.1
def q39:=@wE M _ Tc [.tmp 4] [a0,a1] (by kernel_rfl) H Q
def qz5(M:ak)(c:Ctx):=(vQ M c).2.2.2.2.2.1
def qz4:=@wE M _ Uf [.tmp 4] [a0,a1] (by kernel_rfl) H Q
def Vw(M:ak)(c:Ctx):=(vQ M c).2.2.2.2.2.2.1
def Xv:=@wE M _ Oq [.tmp 6] [a0,a1,a2] (by kernel_rfl) H Q
def qtj(M:ak)(c:Ctx):=(vQ M c).2.2.2.2.2.2.2.1
def qti:=@wE M _ Qu [.tmp 6] [a0,a1,a2] (by kernel_rfl) H Q
def Y'(M:ak)(c:Ctx):=(cA M c).1
def R2:=@wE M _ Qb [.cV 11 4,.tmp 5] [a0,a1] (by kernel_rfl) H Q
def q7f(M:ak)(c:Ctx):=(cA M c).2.1
def q7e:=@wE M _ T0 [.tmp 4] [a0,a1] (by kernel_rfl) H Q
def q7d(M:ak)(c:Ctx):=(cA M c).2.2.1
def q7c:=@wE M _ UN [.tmp 4] [a0,a1] (by kernel_rfl) H Q
def q7l(M:ak)(c:Ctx):=(cA M c).2.2.2.1
def q7k:=@wE M _ Y3 [] [a0,a1] (by kernel_rfl) H Q
def xch(M:ak)(c:Ctx):=(cA M c).2.2.2.2.1
def xcg:=@wE M _ VH [.tmp 4,.tmp 5] [a0,a1] (by kernel_rfl) H Q
def qtl(M:ak)(c:Ctx):=(cA M c).2.2.2.2.2.1
def _h:=@wE M _ R9 [.tmp 6] [a0,a1,a2] (by kernel_rfl) H Q
def qxi(M:ak)(c:Ctx):=(cA M c).2.2.2.2.2.2.1
def qxh:=@wE M _ Jf [.tmp 3] [a0,a1] (by kernel_rfl) H Q
def qo5(M:ak)(c:Ctx):=(cA M c).2.2.2.2.2.2.2
def qo4:=@wE M _ Vh [.tmp 6] [a0,a1,a2] (by kernel_rfl) H Q
abbrev qh5:Nat:=210
abbrev YL:Nat:=125
abbrev Un:Nat:=160
abbrev Rj:Nat:=161
abbrev UT:Nat:=162
abbrev UC:Nat:=163
abbrev NY:Nat:=159
abbrev ME:Nat:=190
abbrev Va:Nat:=191
abbrev yK:Nat:=60
abbrev jm:Nat:=135
abbrev AX:Nat:=108
abbrev yv:Nat:=0
abbrev Ym:uj:=[(125,⟨[0,1,2,3,4,5,6,7,8,9,10,11,12,13,14,49],B2,[0,2,10,14,18,22,129,38,50,62,74,86,98,110,122]⟩,[(7,[0,2,4,8,10,12,16,18,20,6,13,21,14,21,22,24,26,28])]),(160,⟨[0,1,2,4,5],B2,[0]⟩,[]),(161,⟨[0,1,2,4,5],B2,[0,2,10,18]⟩,[]),(162,⟨[0,1,3,5],B2,[0]⟩,[]),(163,⟨[0,1,3],B2,[0]⟩,[]),(191,⟨[0,1,4],B2,[0]⟩,[]),(210,⟨[0,1,4],B2,[0]⟩,[])]
def Vc(n:Nat):Kp:=kA n Ym
def ZF(n k:Nat):Kp×ai:=(Vc n,part (bh Tryz.prog n) k)
def q29(n k:Nat):ZF n k=(Vc n,part (bh Tryz.prog n) k):=rfl
def Ma:=@lj M _ ZF Vc q29
attribute [local irreducible] ZF
def Mz(M:ak)(c:Ctx):=by
 have h:=po q29 M c Ym (by kernel_rfl)
 conv at h=>arg 5;reduce
 delta PR RL oH gD nJ gF pe iM mS fP gG fY oQ nR pW rW sn Ym at h
 simp only[Aj,zY,Ac,Aa,Sp,QR]at h;exact h
def DJ(M:ak)(c:Ctx):=(Mz M c).1
def ah3:=@Ma M _ YL [.cV 5 6] [a0,a1,a2] (by kernel_rfl) H Q
def WA:bZ:=funcAt Tryz.prog NY
def q45:Kp:=⟨[0,1,2,3,4,5,6,19,20],B2,[0,4,9,15,26,27]⟩
def yQ(k:Nat):Kp×ai:=(q45,part WA.body k)
def xft(M:ak)(c:Ctx):(WE M c (yQ 0) λ Q E D H=>Lz E 0 λ g f=>A3 g AX (AV.cells f) H λ g b H1=>Fl g 0 b H1 λ g h=>C3 M g (.func ME) [h] H1 λ g a o=>B3 g ((Op.extract 0) [a]) λ g d=>B3 g ((Op.extract 1) [a]) λ g e=>W M c (yQ 4) g Q ((4,e)::(3,d)::(2,(.bool B2))::(1,b)::E) D o) /\
 (WE M c (yQ 4) λ Q E D H=>Lz E 1 λ g a=>Fl g 1 a H λ g b=>Fl g 2 a H λ g d=>Fl g 3 a H λ g e=>B3 g ((Op.build [(.int .i64 0),(.int .i64 0),(.int .i64 0)] [(0,1),(1,1),(2,1)]) [b,d,e]) λ g f=>cz (W M c (yQ 9)) (eY 0 (fm (W M c (yQ 27)) Q)) ((20,(.int .i64 0))::(19,f)::E) D H) /\
 (WE M c (yQ 27) λ Q E D H=>Lz E 4 λ g a=>rO g Q .ret ((2,a)::E) D H) /\
 (WE M c (yQ 9) λ Q E D H=>Lz E 20 λ g a=>Cb g .lss a (.int .i64 3) (λ g=>Gt g M c (yQ 15) Q E D H) (λ g=>rO g (fm (W M c (yQ 15)) Q) (.exit 0) E D H)) /\
 (WE M c (yQ 15) λ Q E D H=>Lz E 20 λ g b=>Ly g E 19 λ g j=>B3 g ((Op.bG 3 1 B5) [j,b]) λ g a=>Ly g E 3 λ g r=>B3 g (Op.bO [(.str [65,66,67]),b]) λ g l=>C3 M g (.func Va) [r,l] H λ g m H1=>Bn g .geq m (.int .i64 0) λ g e=>JN (λ(k:Bool->AV->AV->AV->ar->Prop)=>B3 g (cT B4 (B1 e)) λ g w=>xB g w (λ g=>Bn g .lss a (.int .i64 0) λ g i=>k g i i a H1) (λ g=>k g uu uu uu H1)) (λ g d _ _ o=>JN (λ(k:Bool->AV->AV->ar->Prop)=>B3 g (cT B2 (B1 d)) λ g w=>xB g w (λ g=>Bn g .geq a (.int .i64 8) λ g n=>k g n a o) (λ g=>k g uu uu o)) (λ g f _ s=>JN (λ(k:Bool->AV->ar->Prop)=>B3 g (cT B4 (B1 e)) λ g w=>xB g w (λ g=>B3 g (Op.pick [d,(.bool B4),f]) λ g p=>k g p s) (λ g=>k g uu s)) (λ g h t=>B3 g (Op.pick [e,h,(.bool B2)]) λ g q=>nH g q (λ g=>rO g (eY 1 (fm (W M c (yQ 26)) Q)) .ret ((2,(.bool B2))::(6,a)::(5,b)::E) D t) (λ g=>rO g (eY 1 (fm (W M c (yQ 26)) Q)) .normal ((6,a)::(5,b)::E) D t))))) /\
 (WE M c (yQ 26) λ Q E D H=>Lz E 20 λ g a=>Bn g .add a (.int .i64 1) λ g b=>rO g Q .normal ((20,b)::E) D H):=by(repeat' apply II)<;>(intro _ _ _ _;refine Dj ?_;kernel_rfl)
def xfr:(aX Tryz.prog).func NY=B1 WA/\WA.results=[.tmp 2]:=xhy (by kernel_rfl)
def xfs(h:W M ⟨B5,NY⟩ (yQ 0) B4 (eG M [.tmp 2] Q) [(0,a0)] [] H):Ga M NY [a0] H Q:=Bc (by decide) xfr (ks:=q45) (by kernel_rfl) h
def xje(M:ak)(c:Ctx):=(Mz M c).2.1
def xjd:=@Ma M _ Un [.cV 5 4] [a0,a1,a2] (by kernel_rfl) H Q
def xjg(M:ak)(c:Ctx):=(Mz M c).2.2.1
def xjf:=@Ma M _ Rj [.cV 5 4] [a0,a1,a2] (by kernel_rfl) H Q
def xji(M:ak)(c:Ctx):=(Mz M c).2.2.2.1
def xjh:=@Ma M _ UT [.cV 5 3] [a0,a1] (by kernel_rfl) H Q
def xjk(M:ak)(c:Ctx):=(Mz M c).2.2.2.2.1
def xjj:=@Ma M _ UC [.tmp 3] [a0,a1] (by kernel_rfl) H Q
def YX:bZ:=funcAt Tryz.prog ME
def q46:Kp:=⟨[0,2,3],B2,[0,2,10]⟩
def K3(k:Nat):Kp×ai:=(q46,part YX.body k)
def xfw(M:ak)(c:Ctx):(WE M c (K3 0) λ Q E D H=>W M c (K3 2) B4 Q ((3,(.bool B2))::(2,(.str []))::E) D H) /\
 (WE M c (K3 2) λ Q E D H=>Lz E 0 λ g a=>Bn g .lss a (.int .i64 1) λ g d=>JN (λ(k:Bool->AV->AV->ar->Prop)=>B3 g (cT B2 (B1 d)) λ g w=>xB g w (λ g=>Bn g .geq a (.int .i64 19) λ g e=>k g e a H) (λ g=>k g uu uu H)) (λ g b _ H1=>B3 g (Op.pick [d,(.bool B4),b]) λ g f=>nH g f (λ g=>rO g (fm (W M c (K3 10)) Q) .ret ((3,(.bool B2))::(2,(.str []))::E) D H1) (λ g=>Gt g M c (K3 10) Q E D H1))) /\
 (WE M c (K3 10) λ Q E D H=>Lz E 0 λ g d=>B3 g ((Op.aV 19 2) [(.ptr yv 0),d]) λ g a=>Fl g 1 a H λ g b=>rO g Q .ret ((3,(.bool B4))::(2,b)::E) D H):=by(repeat' apply II)<;>(intro _ _ _ _;refine Dj ?_;kernel_rfl)
def xfu:(aX Tryz.prog).func ME=B1 YX/\YX.results=[.tmp 2,.tmp 3]:=xhy (by kernel_rfl)
def xfv(h:W M ⟨B5,ME⟩ (K3 0) B4 (eG M [.tmp 2,.tmp 3] Q) [(0,a0)] [] H):Ga M ME [a0] H Q:=Bc (by decide) xfu (ks:=q46) (by kernel_rfl) h
def qu7(M:ak)(c:Ctx):=(Mz M c).2.2.2.2.2.1
def qu6:=@Ma M _ Va [.tmp 4] [a0,a1] (by kernel_rfl) H Q
def qdl(M:ak)(c:Ctx):=(Mz M c).2.2.2.2.2.2
def qh6:=@Ma M _ qh5 [.tmp 4] [a0,a1] (by kernel_rfl) H Q
abbrev qqu:Nat:=126
abbrev xn:Nat:=178
abbrev qpm:Nat:=145
abbrev μ:Nat:=123
abbrev qlg:Nat:=92
abbrev qpn:Nat:=132
abbrev U1:Nat:=128
abbrev qmc:Nat:=121
abbrev qpo:Nat:=156
abbrev qni:Nat:=164
abbrev q8i:Nat:=57
abbrev G4:Nat:=180
abbrev Pm:Nat:=177
abbrev Vg:uj:=[(57,⟨[0],B2,[0]⟩,[]),(128,⟨[0,1,2,6,7],B2,[0,4,10]⟩,[]),(126,⟨[0,2,8],B2,[0,2,10]⟩,[]),(123,⟨[0,2],B2,[0,2,10]⟩,[]),(145,⟨[0,1,4],B2,[0,2,10,18]⟩,[]),(132,⟨[0,2,3],B2,[0,2,10]⟩,[]),(92,⟨[0,2,3],B2,[0,4,10]⟩,[]),(178,⟨[0,2,3],B2,[0,4,10]⟩,[]),(164,⟨[0,1,4],B2,[0,2,10,18]⟩,[]),(156,⟨[0,2],B2,[0]⟩,[]),(121,⟨[0,2],B2,[0,2,10,18]⟩,[])]
def X1(n:Nat):Kp:=kA n Vg
def YQ(n k:Nat):Kp×ai:=(X1 n,part (bh Tryz.prog n) k)
def q3i(n k:Nat):YQ n k=(X1 n,part (bh Tryz.prog n) k):=rfl
def Cx:=@lj M _ YQ X1 q3i
attribute [local irreducible] YQ
def Br(M:ak)(c:Ctx):=by
 have h:=po q3i M c Vg (by kernel_rfl)
 conv at h=>arg 5;reduce
 delta PR RL oH gD nJ gF pe mS fP gG fY oQ nR rW sn Vg at h
 simp only[Aj,zY,Ac,Aa,Sp,QR]at h;exact h
def xj9(M:ak)(c:Ctx):=(Br M c).1
def xj8:=@Cx M _ q8i [.tmp 0] [] (by kernel_rfl) H Q
def _X(M:ak)(c:Ctx):=(Br M c).2.1
def q6n:=@Cx M _ U1 [.tmp 6] [a0,a1,a2] (by kernel_rfl) H Q
def q6m(M:ak)(c:Ctx):=(Br M c).2.2.1
def q6l:=@Cx M _ qqu [.cV 8 2] [a0] (by kernel_rfl) H Q
def q8c(M:ak)(c:Ctx):=(Br M c).2.2.2.1
def q8b:=@Cx M _ μ [.tmp 2] [a0] (by kernel_rfl) H Q
def S_(M:ak)(c:Ctx):=(Br M c).2.2.2.2.1
def q1h:=@Cx M _ qpm [.tmp 4] [a0,a1] (by kernel_rfl) H Q
def q1j(M:ak)(c:Ctx):=(Br M c).2.2.2.2.2.1
def q1i:=@Cx M _ qpn [.tmp 2] [a0] (by kernel_rfl) H Q
def Sn(M:ak)(c:Ctx):=(Br M c).2.2.2.2.2.2.1
def qur:=@Cx M _ qlg [.tmp 2] [a0] (by kernel_rfl) H Q
def qp1(M:ak)(c:Ctx):=(Br M c).2.2.2.2.2.2.2.1
def q1g:=@Cx M _ xn [.tmp 2] [a0] (by kernel_rfl) H Q
def Xj(M:ak)(c:Ctx):=(Br M c).2.2.2.2.2.2.2.2.1
def qyr:=@Cx M _ qni [.tmp 4] [a0,a1] (by kernel_rfl) H Q
def q1l(M:ak)(c:Ctx):=(Br M c).2.2.2.2.2.2.2.2.2.1
def q1k:=@Cx M _ qpo [.tmp 2] [a0] (by kernel_rfl) H Q
def qms(M:ak)(c:Ctx):=(Br M c).2.2.2.2.2.2.2.2.2.2
def qwo:=@Cx M _ qmc [.tmp 2] [a0] (by kernel_rfl) H Q
abbrev qi7:Nat:=93
abbrev _S:Nat:=155
abbrev C_:Nat:=133
abbrev qj9:Nat:=76
abbrev qka:Nat:=119
abbrev t5:Nat:=177
abbrev qx:Nat:=120
abbrev ww:Nat:=122
abbrev _o:Nat:=90
abbrev z_:Nat:=157
abbrev NP:Nat:=187
abbrev q22:Nat:=55
abbrev _F:Nat:=70
abbrev Of:Nat:=171
abbrev J6:Nat:=26
abbrev vg:Nat:=175
abbrev Qn:Nat:=125
abbrev Z1:uj:=[(55,⟨[0,1,2,3,4,5],B2,[0,4,12]⟩,[]),(133,⟨[0,2,3],B2,[0,2,10,18]⟩,[]),(93,⟨[0,1,4,5],B2,[0,2,10,18,26,28,39]⟩,[]),(177,⟨[0,2],B2,[0,2,10,18]⟩,[]),(119,⟨[0,2],B2,[0,2,10]⟩,[]),(120,⟨[0,2,3,5,7,8],B2,[0,4,21,9,15,20]⟩,[]),(155,⟨[0,2,5],B2,[0,2,10]⟩,[]),(76,⟨[0,2],B2,[0]⟩,[]),(70,⟨[0,1,2,3,4,5,6,14,15,16],B2,[0,4,27,9,15,26]⟩,[]),(90,⟨[0,2],B2,[0]⟩,[]),(122,⟨[0,1,2,4,7,8],B2,[0]⟩,[]),(300122,⟨[0,1,2,4,7,8],B2,[0]⟩,[]),(200122,⟨[0,1,2,4,7,8],B2,[0]⟩,[]),(157,⟨[0,1,2,3,4],B2,[0]⟩,[]),(187,⟨[0,1,2,4],B2,[0,4,10,17]⟩,[])]
def Wk(n:Nat):Kp:=kA n Z1
def P5(n k:Nat):Kp×ai:=(Wk n,part (bh Tryz.prog n) k)
def q3d(n k:Nat):P5 n k=(Wk n,part (bh Tryz.prog n) k):=rfl
def Ai:=@lj M _ P5 Wk q3d
attribute [local irreducible] P5
def wW(M:ak)(c:Ctx):=by
 have h:=po q3d M c Z1 (by kernel_rfl)
 conv at h=>arg 5;reduce
 delta PR RL oH gD nJ gF pe mS fP gG fY oQ qV su nR pW rW sn Z1 at h
 simp only[Aj,zY,Ac,Aa,Sp,QR]at h;exact h
def cB(M:ak)(c:Ctx):=(wW M c).2.2.2.2.2.2.2.2
def VI(M:ak)(c:Ctx):=(wW M c).1
def xfy:=@Ai M _ q22 [.tmp 2,.tmp 3] [a0] (by kernel_rfl) H Q
def R'(M:ak)(c:Ctx):=(wW M c).2.1
def qro:=@Ai M _ C_ [.tmp 2,.tmp 3] [a0] (by kernel_rfl) H Q
def j9(M:ak)(c:Ctx):=(wW M c).2.2.1
def qrn:=@Ai M _ qi7 [.tmp 4,.tmp 5] [a0,a1] (by kernel_rfl) H Q
def qji(M:ak)(c:Ctx):=(wW M c).2.2.2.1
def qrp:=@Ai M _ t5 [.tmp 2] [a0] (by kernel_rfl) H Q
def qsy(M:ak)(c:Ctx):=(wW M c).2.2.2.2.1
def qsx:=@Ai M _ qka [.tmp 2] [a0] (by kernel_rfl) H Q
def ZK(M:ak)(c:Ctx):=(wW M c).2.2.2.2.2.1
def qui:=@Ai M _ qx [.tmp 2] [a0] (by kernel_rfl) H Q
def qp8(M:ak)(c:Ctx):=(wW M c).2.2.2.2.2.2.1
def qp7:=@Ai M _ _S [.cV 5 2] [a0] (by kernel_rfl) H Q
def κ(M:ak)(c:Ctx):=(wW M c).2.2.2.2.2.2.2.1
def qsw:=@Ai M _ qj9 [.tmp 2] [a0] (by kernel_rfl) H Q
def Sg(M:ak)(c:Ctx):=(cB M c).1
def q5m:=@Ai M _ _F [.cV 5 2,.tmp 3] [a0] (by kernel_rfl) H Q
def qs1(M:ak)(c:Ctx):=(cB M c).2.1
def qs0:=@Ai M _ _o [.tmp 2] [a0] (by kernel_rfl) H Q
def Uh:bZ:=funcAt Tryz.prog ww
def P1:dT:=hJ Uh 0
abbrev Yn(k:Nat):Kp×ai:=P5 300122 k
abbrev X9(k:Nat):Kp×ai:=P5 200122 k
def qib:nth Uh.loops 0=B1 P1/\P1.params=[8]:=⟨by kernel_rfl,by kernel_rfl⟩
def qp9:(Yn 0).1.ah=[0,1,2,4,7,8]/\(Yn 0).2=P1.assign:=⟨by kernel_rfl,by kernel_rfl⟩
def qqa:(X9 0).1.ah=[0,1,2,4,7,8]/\(X9 0).2=P1.body:=⟨by kernel_rfl,by kernel_rfl⟩
def qrq:M.func ww=B1 Uh:=MK.at (by decide) (by kernel_rfl)
def _p(M:ak)(c:Ctx):=II (cB M c).2.2.1 (II (cB M c).2.2.2.1 ((cB M c).2.2.2.2.1))
def qsz:=@Ai M _ ww [] [a0,a1] (by kernel_rfl) H Q
def qs3(M:ak)(c:Ctx):=(cB M c).2.2.2.2.2.1
def qs2:=@Ai M _ z_ [.tmp 4] [a0,a1] (by kernel_rfl) H Q
def QD(M:ak)(c:Ctx):=(cB M c).2.2.2.2.2.2
def qqb:=@Ai M _ NP [] [a0,a1,a2] (by kernel_rfl) H Q
abbrev γ:Nat:=173
abbrev qtb:Nat:=193
abbrev _z:Nat:=217
abbrev sM:Nat:=229
abbrev I':Nat:=216
abbrev _M:Nat:=196
abbrev qpg:Nat:=197
abbrev qtd:Nat:=199
abbrev xb9:Nat:=71
abbrev qte:Nat:=233
abbrev wz:Nat:=200
abbrev P_:Nat:=211
abbrev Ψ:Nat:=219
abbrev Sc:Nat:=220
abbrev qqz:Nat:=237
abbrev vm:Nat:=239
abbrev oq:Nat:=136
abbrev wg:Nat:=253
abbrev Tm:Nat:=215
abbrev Kq:Nat:=213
abbrev X8:uj:=[(71,⟨[0],B2,[0]⟩,[]),(217,⟨[0,1,2,6,8],B2,[0,2,10,18,28]⟩,[]),(196,⟨[0,1,2,6,7,8],B2,[0,2,10,18,30]⟩,[]),(216,⟨[0,1,4,5],B2,[0,2,10]⟩,[]),(193,⟨[0,1,4,5],B2,[0,2,10]⟩,[]),(229,⟨[0,2],B2,[0,2,10]⟩,[]),(197,⟨[0,2],B2,[0,2,10]⟩,[]),(173,⟨[0,2],B2,[0,2,10]⟩,[]),(199,⟨[0,2],B2,[0]⟩,[]),(211,⟨[0,1,4,5,6,7],B2,[0,4,12]⟩,[]),(219,⟨[0,1,2,6],B2,[0,2,10]⟩,[]),(220,⟨[0,2,3,5,7,8,9],B2,[0,4,9]⟩,[]),(300220,⟨[0,2,3,5,7,8,9],B2,[0]⟩,[]),(200220,⟨[0,2,3,5,7,8,9],B2,[0]⟩,[]),(200,⟨[0],B2,[0]⟩,[]),(233,⟨[0,2],B2,[0]⟩,[]),(237,⟨[0,1,2],B2,[0]⟩,[]),(239,⟨[0,1,3,4,5,6,7],B2,[0,4,10,19]⟩,[])]
def UX(n:Nat):Kp:=kA n X8
def RO(n k:Nat):Kp×ai:=(UX n,part (bh Tryz.prog n) k)
def q3c(n k:Nat):RO n k=(UX n,part (bh Tryz.prog n) k):=rfl
def vZ:=@lj M _ RO UX q3c
attribute [local irreducible] RO
def sK(M:ak)(c:Ctx):=by
 have h:=po q3c M c X8 (by kernel_rfl)
 conv at h=>arg 5;reduce
 delta PR RL oH gD nJ gF pe mS fP gG fY oQ qV su nR pW rW sn X8 at h
 simp only[Aj,zY,Ac,Aa,Sp,QR]at h;exact h
def cC(M:ak)(c:Ctx):=(sK M c).2.2.2.2.2.2.2.2
def cL(M:ak)(c:Ctx):=(cC M c).2.2.2.2.2.2.2.2
def xmx(M:ak)(c:Ctx):=(sK M c).1
def xmw:=@vZ M _ xb9 [.tmp 0] [] (by kernel_rfl) H Q
def Z'(M:ak)(c:Ctx):=(sK M c).2.1
def q72:=@vZ M _ _z [.tmp 6] [a0,a1,a2] (by kernel_rfl) H Q
def qrs(M:ak)(c:Ctx):=(sK M c).2.2.1
def q5s:=@vZ M _ _M [.tmp 6] [a0,a1,a2] (by kernel_rfl) H Q
def xaw(M:ak)(c:Ctx):=(sK M c).2.2.2.1
def xav:=@vZ M _ I' [.tmp 4,.tmp 5] [a0,a1] (by kernel_rfl) H Q
def q71(M:ak)(c:Ctx):=(sK M c).2.2.2.2.1
def q70:=@vZ M _ qtb [.tmp 4,.tmp 5] [a0,a1] (by kernel_rfl) H Q
def q5r(M:ak)(c:Ctx):=(sK M c).2.2.2.2.2.1
def q5q:=@vZ M _ sM [.tmp 2] [a0] (by kernel_rfl) H Q
def q0t(M:ak)(c:Ctx):=(sK M c).2.2.2.2.2.2.1
def q0s:=@vZ M _ qpg [.tmp 2] [a0] (by kernel_rfl) H Q
def q5p(M:ak)(c:Ctx):=(sK M c).2.2.2.2.2.2.2.1
def q5o:=@vZ M _ γ [.tmp 2] [a0] (by kernel_rfl) H Q
def q74(M:ak)(c:Ctx):=(cC M c).1
def q73:=@vZ M _ qtd [.tmp 2] [a0] (by kernel_rfl) H Q
def A_(M:ak)(c:Ctx):=(cC M c).2.1
def q5t:=@vZ M _ P_ [.tmp 4,.tmp 5] [a0,a1] (by kernel_rfl) H Q
def qtv(M:ak)(c:Ctx):=(cC M c).2.2.1
def q77:=@vZ M _ Ψ [.tmp 6] [a0,a1,a2] (by kernel_rfl) H Q
def TK:bZ:=funcAt Tryz.prog Sc
def Q0:dT:=hJ TK 0
abbrev Yh(k:Nat):Kp×ai:=RO 300220 k
abbrev WU(k:Nat):Kp×ai:=RO 200220 k
def qzy:nth TK.loops 0=B1 Q0/\Q0.params=[8,9]:=⟨by kernel_rfl,by kernel_rfl⟩
def xdf:(Yh 0).1.ah=[0,2,3,5,7,8,9]/\(Yh 0).2=Q0.assign:=⟨by kernel_rfl,by kernel_rfl⟩
def xdg:(WU 0).1.ah=[0,2,3,5,7,8,9]/\(WU 0).2=Q0.body:=⟨by kernel_rfl,by kernel_rfl⟩
def xf0:M.func Sc=B1 TK:=MK.at (by decide) (by kernel_rfl)
def WC(M:ak)(c:Ctx):=II (cC M c).2.2.2.1.1 (II (cC M c).2.2.2.2.1 (II (cC M c).2.2.2.2.2.1 (II (cC M c).2.2.2.1.2.1 ((cC M c).2.2.2.1.2.2))))
def xjp:=@vZ M _ Sc [.tmp 2] [a0] (by kernel_rfl) H Q
def q0v(M:ak)(c:Ctx):=(cC M c).2.2.2.2.2.2.1
def q0u:=@vZ M _ wz [] [a0] (by kernel_rfl) H Q
def q76(M:ak)(c:Ctx):=(cC M c).2.2.2.2.2.2.2.1
def q75:=@vZ M _ qte [.tmp 2] [a0] (by kernel_rfl) H Q
def qr1(M:ak)(c:Ctx):=(cL M c).1
def qr0:=@vZ M _ qqz [.tmp 2] [a0] (by kernel_rfl) H Q
def SD(M:ak)(c:Ctx):=(cL M c).2
def qoz:=@vZ M _ vm [] [a0,a1] (by kernel_rfl) H Q
abbrev q8j:Nat:=58
abbrev qnj:Nat:=135
abbrev i':Nat:=142
abbrev y0:Nat:=171
abbrev _l:Nat:=176
abbrev d_:Nat:=140
abbrev vo:Nat:=165
abbrev qme:Nat:=138
abbrev qpt:Nat:=158
abbrev qnl:Nat:=170
abbrev _A:Nat:=167
abbrev qpu:Nat:=137
abbrev qli:Nat:=139
abbrev qq0:Nat:=223
abbrev qpv:Nat:=222
abbrev V0:Nat:=235
abbrev VT:Nat:=236
abbrev W4:Nat:=206
abbrev qq1:Nat:=203
abbrev Pz:Nat:=225
abbrev tr:Nat:=174
abbrev qlj:Nat:=202
abbrev qjb:Nat:=204
abbrev Uy:Nat:=209
abbrev _d:Nat:=194
abbrev W_:Nat:=212
abbrev T':Nat:=213
abbrev Vq:Nat:=215
abbrev Ss:Nat:=189
abbrev ZR:Nat:=208
abbrev q_:Nat:=201
abbrev PN:Nat:=224
abbrev qpx:Nat:=172
abbrev T2:Nat:=218
abbrev qnp:Nat:=188
abbrev qmf:Nat:=205
abbrev TO:Nat:=226
abbrev t8:Nat:=234
abbrev qll:Nat:=238
abbrev Yo:Nat:=198
abbrev S':Nat:=221
abbrev qlm:Nat:=192
abbrev y_:Nat:=214
abbrev N_:Nat:=228
abbrev Sy:Nat:=230
abbrev UJ:Nat:=231
abbrev SY:Nat:=232
abbrev Yj:Nat:=175
abbrev Hu:Nat:=1
abbrev Lm:Nat:=293
abbrev SA:Nat:=294
abbrev DT:Nat:=184
abbrev MO:Nat:=131
abbrev Eg:Nat:=187
abbrev Zt:Nat:=31
abbrev WV:uj:=[(58,⟨[0],B2,[0]⟩,[]),(135,⟨[0,2],B2,[0,2,10,18]⟩,[]),(165,⟨[0,1,4,5,6,7],B2,[0,2,12,24]⟩,[]),(170,⟨[0,1,2,6,7],B2,[0,4,12]⟩,[]),(171,⟨[0,2,3],B2,[0,2,12,14,24]⟩,[]),(158,⟨[0,2,3],B2,[0,4,12]⟩,[]),(137,⟨[0,2,3,4],B2,[0,2,10]⟩,[(3,[0,2,4,6,8,10,12,14,16,18,15,17,20])]),(140,⟨[0,1,2,6,7],B2,[0,2,10,12,20]⟩,[]),(142,⟨[0,2],B2,[0]⟩,[]),(167,⟨[0,2],B2,[0,2,10]⟩,[]),(176,⟨[0,2],B2,[0,2,10]⟩,[]),(138,⟨[0,2],B2,[0,2,10]⟩,[]),(139,⟨[0,2],B2,[0]⟩,[]),(172,⟨[0,2],B2,[0]⟩,[]),(174,⟨[0,1,2,3,4,5],B2,[0]⟩,[]),(175,⟨[0],B2,[0]⟩,[]),(192,⟨[0,1,4,5],B2,[0,4,12]⟩,[]),(194,⟨[0,1,2,3],B2,[0]⟩,[]),(189,⟨[0,1,2,3],B2,[0]⟩,[]),(188,⟨[0,2],B2,[0,2,10,18]⟩,[]),(198,⟨[0,1],B2,[0]⟩,[]),(201,⟨[0,1,2,5],B2,[0]⟩,[]),(202,⟨[0,1,2,3],B2,[0]⟩,[]),(205,⟨[0,1,2,3],B2,[0]⟩,[]),(206,⟨[0,1],B2,[0]⟩,[]),(212,⟨[0,1,2,3],B2,[0]⟩,[]),(208,⟨[0,1],B2,[0]⟩,[(0,[0,2,4,6,8,10,3,5,12,14,16])]),(203,⟨[0,1,2,3,4,9],B2,[0]⟩,[]),(221,⟨[0,1],B2,[0,8]⟩,[(4,[0,2,4,6,8,10,1,12])]),(223,⟨[0,1,2,4],B2,[0]⟩,[]),(224,⟨[0,1,2],B2,[0]⟩,[]),(204,⟨[0,1,2,3],B2,[0,8]⟩,[]),(226,⟨[0,1,2],B2,[0,8]⟩,[]),(209,⟨[0],B2,[0]⟩,[]),(218,⟨[0,1],B2,[0]⟩,[]),(213,⟨[0,1,2,3,5,6],B2,[0,8,10,18]⟩,[]),(225,⟨[0,1,2],B2,[0]⟩,[]),(214,⟨[0,1,2,3],B2,[0]⟩,[]),(222,⟨[0,1,2,3],B2,[0,2,10]⟩,[]),(215,⟨[0,1],B2,[0]⟩,[]),(228,⟨[0,1,2,3,4,5,6,7,8],B2,[0]⟩,[]),(234,⟨[0,1,2,3,7],B2,[0]⟩,[]),(235,⟨[0,1],B2,[0]⟩,[]),(236,⟨[0],B2,[0]⟩,[]),(230,⟨[0,1,2,3,4],B2,[0,8]⟩,[]),(231,⟨[0,1,2,3],B2,[0,8]⟩,[]),(232,⟨[0,1,2,3,4],B2,[0,8]⟩,[]),(238,⟨[0,1,2],B2,[0]⟩,[])]
def Zr(n:Nat):Kp:=kA n WV
def ZZ(n k:Nat):Kp×ai:=(Zr n,part (bh Tryz.prog n) k)
def qp(n k:Nat):ZZ n k=(Zr n,part (bh Tryz.prog n) k):=rfl
def ji:=@lj M _ ZZ Zr qp
attribute [local irreducible] ZZ
def jh(M:ak)(c:Ctx):=by
 have h:=po qp M c WV (by kernel_rfl)
 conv at h=>arg 5;reduce
 delta PR RL oH gD nJ gF pe iM mS fP gG fY oQ nR pW rW sn WV at h
 simp only[Aj,zY,Ac,Aa,Sp,QR]at h;exact h
def cU(M:ak)(c:Ctx):=(jh M c).2.2.2.2.2.2.2.2
def cY(M:ak)(c:Ctx):=(cU M c).2.2.2.2.2.2.2.2
def dy(M:ak)(c:Ctx):=(cY M c).2.2.2.2.2.2.2.2
def dN(M:ak)(c:Ctx):=(dy M c).2.2.2.2.2.2.2.2
def ea(M:ak)(c:Ctx):=(dN M c).2.2.2.2.2.2.2.2
def xkg(M:ak)(c:Ctx):=(jh M c).1
def xkf:=@ji M _ q8j [.tmp 0] [] (by kernel_rfl) H Q
def YK(M:ak)(c:Ctx):=(jh M c).2.1
def qyv:=@ji M _ qnj [.tmp 2] [a0] (by kernel_rfl) H Q
def UK(M:ak)(c:Ctx):=(jh M c).2.2.1
def q1t:=@ji M _ vo [.tmp 4] [a0,a1] (by kernel_rfl) H Q
def QE(M:ak)(c:Ctx):=(jh M c).2.2.2.1
def qyy:=@ji M _ qnl [.tmp 6] [a0,a1,a2] (by kernel_rfl) H Q
def ZG(M:ak)(c:Ctx):=(jh M c).2.2.2.2.1
def qwt:=@ji M _ y0 [.tmp 2] [a0] (by kernel_rfl) H Q
def WW(M:ak)(c:Ctx):=(jh M c).2.2.2.2.2.1
def q1u:=@ji M _ qpt [.tmp 2] [a0] (by kernel_rfl) H Q
def q1w(M:ak)(c:Ctx):=(jh M c).2.2.2.2.2.2.1
def q1v:=@ji M _ qpu [.cV 4 2,.tmp 3] [a0] (by kernel_rfl) H Q
def qp4(M:ak)(c:Ctx):=(jh M c).2.2.2.2.2.2.2.1
def q1s:=@ji M _ d_ [.tmp 6] [a0,a1,a2] (by kernel_rfl) H Q
def q1r(M:ak)(c:Ctx):=(cU M c).1
def q1q:=@ji M _ i' [.tmp 2] [a0] (by kernel_rfl) H Q
def qy0(M:ak)(c:Ctx):=(cU M c).2.1
def qyz:=@ji M _ _A [.tmp 2] [a0] (by kernel_rfl) H Q
def qyx(M:ak)(c:Ctx):=(cU M c).2.2.1
def qyw:=@ji M _ _l [.tmp 2] [a0] (by kernel_rfl) H Q
def qwv(M:ak)(c:Ctx):=(cU M c).2.2.2.1
def qwu:=@ji M _ qme [.tmp 2] [a0] (by kernel_rfl) H Q
def quw(M:ak)(c:Ctx):=(cU M c).2.2.2.2.1
def quv:=@ji M _ qli [.tmp 2] [a0] (by kernel_rfl) H Q
def q14(M:ak)(c:Ctx):=(cU M c).2.2.2.2.2.1
def q13:=@ji M _ qpx [.tmp 2] [a0] (by kernel_rfl) H Q
def qy6(M:ak)(c:Ctx):=(cU M c).2.2.2.2.2.2.1
def qy5:=@ji M _ tr [] [a0,a1,a2] (by kernel_rfl) H Q
def q18(M:ak)(c:Ctx):=(cU M c).2.2.2.2.2.2.2.1
def q17:=@ji M _ Yj [] [a0] (by kernel_rfl) H Q
def U2(M:ak)(c:Ctx):=(cY M c).1
def qu5:=@ji M _ qlm [.tmp 4] [a0,a1] (by kernel_rfl) H Q
def qy8(M:ak)(c:Ctx):=(cY M c).2.1
def qy7:=@ji M _ _d [] [a0,a1] (by kernel_rfl) H Q
def qza(M:ak)(c:Ctx):=(cY M c).2.2.1
def qy9:=@ji M _ Ss [] [a0,a1] (by kernel_rfl) H Q
def qze(M:ak)(c:Ctx):=(cY M c).2.2.2.1
def qzd:=@ji M _ qnp [.tmp 2] [a0] (by kernel_rfl) H Q
def q16(M:ak)(c:Ctx):=(cY M c).2.2.2.2.1
def q15:=@ji M _ Yo [] [a0] (by kernel_rfl) H Q
def q12(M:ak)(c:Ctx):=(cY M c).2.2.2.2.2.1
def q11:=@ji M _ q_ [] [a0,a1,a2] (by kernel_rfl) H Q
def quy(M:ak)(c:Ctx):=(cY M c).2.2.2.2.2.2.1
def qux:=@ji M _ qlj [] [a0,a1,a2,a3] (by kernel_rfl) H Q
def qw3(M:ak)(c:Ctx):=(cY M c).2.2.2.2.2.2.2.1
def qw2:=@ji M _ qmf [] [a0,a1] (by kernel_rfl) H Q
def qy2(M:ak)(c:Ctx):=(dy M c).1
def qy1:=@ji M _ W4 [] [a0,a1] (by kernel_rfl) H Q
def qu0(M:ak)(c:Ctx):=(dy M c).2.1
def quz:=@ji M _ W_ [] [a0,a1,a2] (by kernel_rfl) H Q
def qu2(M:ak)(c:Ctx):=(dy M c).2.2.1
def qu1:=@ji M _ ZR [] [a0,a1] (by kernel_rfl) H Q
def q6z(M:ak)(c:Ctx):=(dy M c).2.2.2.1
def q6y:=@ji M _ qq1 [] [a0,a1,a2,a3,a4] (by kernel_rfl) H Q
def U_(M:ak)(c:Ctx):=(dy M c).2.2.2.2.1
def qw4:=@ji M _ S' [] [a0,a1] (by kernel_rfl) H Q
def q6x(M:ak)(c:Ctx):=(dy M c).2.2.2.2.2.1
def q6w:=@ji M _ qq0 [] [a0,a1,a2] (by kernel_rfl) H Q
def qw1(M:ak)(c:Ctx):=(dy M c).2.2.2.2.2.2.1
def qw0:=@ji M _ PN [] [a0,a1,a2] (by kernel_rfl) H Q
def A0(M:ak)(c:Ctx):=(dy M c).2.2.2.2.2.2.2.1
def qr4:=@ji M _ qjb [] [a0,a1,a2,a3] (by kernel_rfl) H Q
def Su(M:ak)(c:Ctx):=(dN M c).1
def p_:=@ji M _ TO [] [a0,a1,a2] (by kernel_rfl) H Q
def q1z(M:ak)(c:Ctx):=(dN M c).2.1
def q1y:=@ji M _ Uy [] [a0] (by kernel_rfl) H Q
def qzc(M:ak)(c:Ctx):=(dN M c).2.2.1
def qzb:=@ji M _ T2 [] [a0,a1] (by kernel_rfl) H Q
def OH(M:ak)(c:Ctx):=(dN M c).2.2.2.1
def qr5:=@ji M _ T' [] [a0,a1,a2,a3] (by kernel_rfl) H Q
def qy4(M:ak)(c:Ctx):=(dN M c).2.2.2.2.1
def qy3:=@ji M _ Pz [] [a0,a1,a2] (by kernel_rfl) H Q
def qs6(M:ak)(c:Ctx):=(dN M c).2.2.2.2.2.1
def qs5:=@ji M _ y_ [] [a0,a1] (by kernel_rfl) H Q
def qp5(M:ak)(c:Ctx):=(dN M c).2.2.2.2.2.2.1
def q1x:=@ji M _ qpv [] [a0,a1] (by kernel_rfl) H Q
def qo7(M:ak)(c:Ctx):=(dN M c).2.2.2.2.2.2.2.1
def qo6:=@ji M _ Vq [] [a0,a1] (by kernel_rfl) H Q
def qqg(M:ak)(c:Ctx):=(ea M c).1
def qqf:=@ji M _ N_ [] [a0,a1,a2] (by kernel_rfl) H Q
def qzg(M:ak)(c:Ctx):=(ea M c).2.1
def qzf:=@ji M _ t8 [] [a0,a1,a2,a3] (by kernel_rfl) H Q
def qwx(M:ak)(c:Ctx):=(ea M c).2.2.1
def qww:=@ji M _ V0 [] [a0,a1] (by kernel_rfl) H Q
def qwz(M:ak)(c:Ctx):=(ea M c).2.2.2.1
def qwy:=@ji M _ VT [] [a0] (by kernel_rfl) H Q
def M'(M:ak)(c:Ctx):=(ea M c).2.2.2.2.1
def qob:=@ji M _ Sy [] [a0,a1,a2,a3,a4] (by kernel_rfl) H Q
def v_(M:ak)(c:Ctx):=(ea M c).2.2.2.2.2.1
def qoc:=@ji M _ UJ [] [a0,a1,a2,a3] (by kernel_rfl) H Q
def qg8(M:ak)(c:Ctx):=(ea M c).2.2.2.2.2.2.1
def qod:=@ji M _ SY [] [a0,a1,a2,a3,a4] (by kernel_rfl) H Q
def qu4(M:ak)(c:Ctx):=(ea M c).2.2.2.2.2.2.2
def qu3:=@ji M _ qll [] [a0,a1,a2] (by kernel_rfl) H Q
abbrev X7:Nat:=41
abbrev Y5:Nat:=77
abbrev Vm:Nat:=78
abbrev qs8:Nat:=127
abbrev O':Nat:=101
abbrev D1:Nat:=95
abbrev Z_:Nat:=102
abbrev ψ:Nat:=136
abbrev U':Nat:=100
abbrev z':Nat:=141
abbrev Oa:Nat:=98
abbrev Γ:Nat:=143
abbrev qpd:Nat:=134
abbrev Y0:Nat:=129
abbrev fu:Nat:=124
abbrev qna:Nat:=94
abbrev Ω:Nat:=168
abbrev Nq:Nat:=195
abbrev qnb:Nat:=144
abbrev UW:Nat:=96
abbrev Zs:Nat:=166
abbrev PO:Nat:=130
abbrev qnc:Nat:=97
abbrev Xk:Nat:=59
abbrev qnd:Nat:=99
abbrev qmb:Nat:=169
abbrev RM:Nat:=131
abbrev Zv:Nat:=91
abbrev q8h:Nat:=39
abbrev K_:Nat:=56
abbrev jv:Nat:=76
abbrev HU:Nat:=140
abbrev xO:Nat:=87
abbrev A4:Nat:=97
abbrev hY:uj:=[(39,⟨[0,1,2,3,6,8,9,10,11],B2,[0,4,12]⟩,[]),(78,⟨[0,2,3,4,5,6,7,11],B2,[0,11,16,30,43,21,35,48,57,64,69,79]⟩,[]),(41,⟨[0,2,3],B2,[0]⟩,[(1,[0,18,2,4,6,8,10,12,14,16,20,15,22,24,26,28,30,32,34,36,38])]),(56,⟨[0,2],B2,[0,2,10]⟩,[]),(94,⟨[0,2,3,4,5,6,54],B2,[0,4,16,8,39,22,14,45,30,55,63]⟩,[(6,[0,2,4,6,8,10,12,14,16,18,20,24,22,7,13,26,28,30])]),(95,⟨[0,20],B2,[0,4,19]⟩,[]),(96,⟨[0,1,4,5,6,7,8],B2,[0]⟩,[]),(97,⟨[0,2,3],B2,[0]⟩,[]),(98,⟨[0,2,4,5,6,7,8,18],B2,[0,1,5,7,9,26,21,32,36,38,44,50]⟩,[(12,[0,2,4,6,10,12,14,16,8,17,18,20,22])]),(99,⟨[0,1,2,6,7,8],B2,[0]⟩,[]),(100,⟨[0],B2,[0]⟩,[(2,[0,2,4,6,8,10,12,14,16,7,18,20])]),(101,⟨[0,2],B2,[0,14,4,12]⟩,[]),(102,⟨[0],B2,[0]⟩,[]),(59,⟨[0,2],B2,[0]⟩,[]),(124,⟨[0,6],B2,[0,15]⟩,[]),(127,⟨[0,1,4,5],B2,[0,2,10]⟩,[]),(129,⟨[0,1],B2,[0]⟩,[]),(130,⟨[0,1,2,3,4,7,8,9,14,47,48,49],B2,[0,2,30,11,25,19]⟩,[(5,[0,2,4,6,8,10,3,12,14,16]),(6,[0,2,4,6,8,10,12,1,3,14])]),(300130,⟨[0,1,2,3,4,7,8,9,14,47,48,49],B2,[0]⟩,[(5,[0,2,4,6,8,10,3,12,14,16]),(6,[0,2,4,6,8,10,12,1,3,14])]),(200130,⟨[0,1,2,3,4,7,8,9,14,47,48,49],B2,[0]⟩,[(5,[0,2,4,6,8,10,3,12,14,16]),(6,[0,2,4,6,8,10,12,1,3,14])]),(131,⟨[0,1,2,4,6,7,12,71,72,73],B2,[0,8,13,18,30,46,26,32,37,43]⟩,[]),(300131,⟨[0,1,2,4,6,7,12,71,72,73],B2,[0]⟩,[]),(200131,⟨[0,1,2,4,6,7,12,71,72,73],B2,[0]⟩,[]),(134,⟨[0],B2,[0,11]⟩,[]),(91,⟨[0,1,2,3,4,10],B2,[0,2,8]⟩,[(2,[0,2,4,6,8,10,12,14,16,20,22,24,26,30,18,7,27,28,7,32,34,36,38,40])]),(136,⟨[0,1,2,3,8,9,10,11,12],B2,[0]⟩,[]),(141,⟨[0],B2,[0,6]⟩,[]),(143,⟨[0],B2,[0,9]⟩,[(7,[0,2,4,6,8,10,12,14,16,18,9,20])]),(144,⟨[0],B2,[0]⟩,[]),(166,⟨[0,1,2,4,6,8],B2,[0,4,6,12]⟩,[]),(168,⟨[0,1,2,3,4],B2,[0]⟩,[]),(169,⟨[0,1,2,3,6],B2,[0]⟩,[]),(77,⟨[0,1],B2,[0]⟩,[]),(195,⟨[0,1,2,4,5,9,10,11],B2,[0,4,10,19]⟩,[])]
def Xo(n:Nat):Kp:=kA n hY
def Ik(n k:Nat):Kp×ai:=(Xo n,part (bh Tryz.prog n) k)
def q26(n k:Nat):Ik n k=(Xo n,part (bh Tryz.prog n) k):=rfl
def yp:=@lj M _ Ik Xo q26
attribute [local irreducible] Ik
def jg(M:ak)(c:Ctx):=by
 have h:=po q26 M c hY (by kernel_rfl)
 conv at h=>arg 5;reduce
 delta PR RL oH gD nJ gF pe iM mS fP gG fY oQ qV wF su nR pW rW sn hY at h
 simp only[Aj,zY,Ac,Aa,Sp,QR]at h;exact h
def eb(M:ak)(c:Ctx):=(jg M c).2.2.2.2.2.2.2.2
def ed(M:ak)(c:Ctx):=(eb M c).2.2.2.2.2.2.2.2
def ee(M:ak)(c:Ctx):=(ed M c).2.2.2.2.2.2.2.2
def ef(M:ak)(c:Ctx):=(ee M c).2.2.2.2.2.2.2.2
def JK(M:ak)(c:Ctx):=(jg M c).1
def xi2:=@yp M _ q8h [.tmp 8,.tmp 9] [a0,a1,a2,a3] (by kernel_rfl) H Q
def j8(M:ak)(c:Ctx):=(jg M c).2.1
def q4l:=@yp M _ Vm [] [a0] (by kernel_rfl) H Q
def qmk(M:ak)(c:Ctx):=(jg M c).2.2.1
def B_:=@yp M _ X7 [.tmp 2,.tmp 3] [a0] (by kernel_rfl) H Q
def qg5(M:ak)(c:Ctx):=(jg M c).2.2.2.1
def qoa:=@yp M _ K_ [.tmp 2] [a0] (by kernel_rfl) H Q
def jd(M:ak)(c:Ctx):=(jg M c).2.2.2.2.1
def qxo:=@yp M _ qna [] [a0] (by kernel_rfl) H Q
def OS(M:ak)(c:Ctx):=(jg M c).2.2.2.2.2.1
def qvs:=@yp M _ D1 [] [a0] (by kernel_rfl) H Q
def q0i(M:ak)(c:Ctx):=(jg M c).2.2.2.2.2.2.1
def q0h:=@yp M _ UW [.tmp 4,.tmp 5] [a0,a1] (by kernel_rfl) H Q
def qxt(M:ak)(c:Ctx):=(jg M c).2.2.2.2.2.2.2.1
def qxs:=@yp M _ qnc [] [a0] (by kernel_rfl) H Q
def zm(M:ak)(c:Ctx):=(eb M c).1
def qxn:=@yp M _ Oa [] [a0] (by kernel_rfl) H Q
def qxv(M:ak)(c:Ctx):=(eb M c).2.1
def qxu:=@yp M _ qnd [.tmp 6] [a0,a1,a2] (by kernel_rfl) H Q
def qt5(M:ak)(c:Ctx):=(eb M c).2.2.1
def qt4:=@yp M _ U' [] [a0] (by kernel_rfl) H Q
def Ug(M:ak)(c:Ctx):=(eb M c).2.2.2.1
def qxm:=@yp M _ O' [] [a0] (by kernel_rfl) H Q
def qvu(M:ak)(c:Ctx):=(eb M c).2.2.2.2.1
def qvt:=@yp M _ Z_ [] [a0] (by kernel_rfl) H Q
def qpz(M:ak)(c:Ctx):=(eb M c).2.2.2.2.2.1
def _c:=@yp M _ Xk [.tmp 2] [a0] (by kernel_rfl) H Q
def Ti(M:ak)(c:Ctx):=(eb M c).2.2.2.2.2.2.1
def qt6:=@yp M _ fu [] [a0] (by kernel_rfl) H Q
def ξ(M:ak)(c:Ctx):=(eb M c).2.2.2.2.2.2.2.1
def q7m:=@yp M _ qs8 [.tmp 4,.tmp 5] [a0,a1] (by kernel_rfl) H Q
def q0e(M:ak)(c:Ctx):=(ed M c).1
def q0d:=@yp M _ Y0 [] [a0,a1] (by kernel_rfl) H Q
def TU:bZ:=funcAt Tryz.prog PO
def Ql:dT:=hJ TU 0
abbrev Vu(k:Nat):Kp×ai:=Ik 300130 k
abbrev Yl(k:Nat):Kp×ai:=Ik 200130 k
def _q:nth TU.loops 0=B1 Ql/\Ql.params=[48,49]:=⟨by kernel_rfl,by kernel_rfl⟩
def qt7:(Vu 0).1.ah=[0,1,2,3,4,7,8,9,14,47,48,49]/\(Vu 0).2=Ql.assign:=⟨by kernel_rfl,by kernel_rfl⟩
def qt8:(Yl 0).1.ah=[0,1,2,3,4,7,8,9,14,47,48,49]/\(Yl 0).2=Ql.body:=⟨by kernel_rfl,by kernel_rfl⟩
def qvy:M.func PO=B1 TU:=MK.at (by decide) (by kernel_rfl)
def Nc(M:ak)(c:Ctx):=II (ed M c).2.1.1 (II (ed M c).2.2.1 (II (ed M c).2.2.2.1 (II (ed M c).2.1.2.1 (II (ed M c).2.1.2.2.1 (II (ed M c).2.1.2.2.2.1 (II (ed M c).2.1.2.2.2.2.1 ((ed M c).2.1.2.2.2.2.2)))))))
def qxr:=@yp M _ PO [] [a0,a1,a2] (by kernel_rfl) H Q
def SO:bZ:=funcAt Tryz.prog RM
def Pe:dT:=hJ SO 0
abbrev Z3(k:Nat):Kp×ai:=Ik 300131 k
abbrev Ya(k:Nat):Kp×ai:=Ik 200131 k
def lx:nth SO.loops 0=B1 Pe/\Pe.params=[72,73]:=⟨by kernel_rfl,by kernel_rfl⟩
def qss:(Z3 0).1.ah=[0,1,2,4,6,7,12,71,72,73]/\(Z3 0).2=Pe.assign:=⟨by kernel_rfl,by kernel_rfl⟩
def qst:(Ya 0).1.ah=[0,1,2,4,6,7,12,71,72,73]/\(Ya 0).2=Pe.body:=⟨by kernel_rfl,by kernel_rfl⟩
def qt9:M.func RM=B1 SO:=MK.at (by decide) (by kernel_rfl)
def vj(M:ak)(c:Ctx):=II (ed M c).2.2.2.2.1.1 (II (ed M c).2.2.2.2.2.1 (II (ed M c).2.2.2.2.2.2.1 (II (ed M c).2.2.2.2.1.2.1 (II (ed M c).2.2.2.2.1.2.2.1 (II (ed M c).2.2.2.2.1.2.2.2.1 (II (ed M c).2.2.2.2.1.2.2.2.2.1 (II (ed M c).2.2.2.2.1.2.2.2.2.2.1 (II (ed M c).2.2.2.2.1.2.2.2.2.2.2.1 (II (ed M c).2.2.2.2.1.2.2.2.2.2.2.2.1 (II (ed M c).2.2.2.2.1.2.2.2.2.2.2.2.2.1 ((ed M c).2.2.2.2.1.2.2.2.2.2.2.2.2.2)))))))))))
def qv1:=@yp M _ RM [] [a0,a1,a2] (by kernel_rfl) H Q
def PI(M:ak)(c:Ctx):=(ed M c).2.2.2.2.2.2.2.1
def q0c:=@yp M _ qpd [] [a0] (by kernel_rfl) H Q
def YV(M:ak)(c:Ctx):=(ee M c).1
def q0j:=@yp M _ Zv [] [a0,a1,a2,a3,a4] (by kernel_rfl) H Q
def q4n(M:ak)(c:Ctx):=(ee M c).2.1
def q4m:=@yp M _ ψ [.tmp 8,.tmp 9] [a0,a1,a2,a3] (by kernel_rfl) H Q
def VC(M:ak)(c:Ctx):=(ee M c).2.2.1
def qra:=@yp M _ z' [] [a0] (by kernel_rfl) H Q
def QU(M:ak)(c:Ctx):=(ee M c).2.2.2.1
def qvv:=@yp M _ Γ [] [a0] (by kernel_rfl) H Q
def qxq(M:ak)(c:Ctx):=(ee M c).2.2.2.2.1
def qxp:=@yp M _ qnb [] [a0] (by kernel_rfl) H Q
def Ξ(M:ak)(c:Ctx):=(ee M c).2.2.2.2.2.1
def qvx:=@yp M _ Zs [] [a0,a1,a2] (by kernel_rfl) H Q
def q0g(M:ak)(c:Ctx):=(ee M c).2.2.2.2.2.2.1
def q0f:=@yp M _ Ω [.tmp 4] [a0,a1] (by kernel_rfl) H Q
def qv0(M:ak)(c:Ctx):=(ee M c).2.2.2.2.2.2.2.1
def qvz:=@yp M _ qmb [] [a0,a1,a2,a3] (by kernel_rfl) H Q
def qxl(M:ak)(c:Ctx):=(ef M c).1
def qxk:=@yp M _ Y5 [] [a0,a1] (by kernel_rfl) H Q
def Qz(M:ak)(c:Ctx):=(ef M c).2
def qvw:=@yp M _ Nq [] [a0,a1,a2] (by kernel_rfl) H Q
abbrev L3:Nat:=62
abbrev yg:Nat:=75
abbrev YT:uj:=[(100062,⟨[0,1,2,4,5,6,30],B2,[0,2,29,16]⟩,[(9,[0,2,4,6,8,10,3,12,14,16])]),(9900062,⟨[0,1,2,4,5,6,30],B2,[0,2,16,8,14]⟩,[(9,[0,2,4,6,8,10,3,12,14,16])]),(75,⟨[0],B2,[0]⟩,[])]
def P'(n:Nat):Kp:=kA n YT
def Pv(n k:Nat):Kp×ai:=(P' n,part (bh Tryz.prog n) k)
def Y1(n k:Nat):Pv n k=(P' n,part (bh Tryz.prog n) k):=rfl
attribute [local irreducible] Pv
def Gu(M:ak)(c:Ctx):=by
 have h:=po Y1 M c YT (by kernel_rfl)
 conv at h=>arg 5;reduce
 delta PR RL oH gD nJ gF pe iM mS fP gG fY oQ wF nR rW sn YT at h
 simp only[Aj,zY,Ac,Aa,Sp,QR]at h;exact h
def qz8:bZ:=funcAt Tryz.prog L3
abbrev q0a(k:Nat):Kp×ai:=Pv 100062 k
abbrev q0b(k:Nat):Kp×ai:=Pv 9900062 k
def ve(M:ak)(c:Ctx):=II (Gu M c).1.1 (II (Gu M c).2.1.1 (II (Gu M c).1.2.1 (II (Gu M c).2.1.2.1 (II (Gu M c).1.2.2.1 (II (Gu M c).1.2.2.2 (II (Gu M c).2.1.2.2.1 (II (Gu M c).2.1.2.2.2.1 ((Gu M c).2.1.2.2.2.2))))))))
def qz9(h:W M ⟨B5,L3⟩ (q0a 0) B4 (Bo M ⟨B5,L3⟩ (q0b 0) 30 (eG M [.tmp 4,.tmp 5] Q)) (kG 0 [a0,a1]) [] H):Ga M L3 [a0,a1] H Q:=QA Y1 (MK.at (by decide) (by kernel_rfl:(aX Tryz.prog).func L3=B1 qz8)) (by kernel_rfl) (by kernel_rfl) (by kernel_rfl) (by kernel_rfl) (by kernel_rfl) (by kernel_rfl) h
def qvq{up:Option aG}(h:W M ⟨B5,yg⟩ (Pv yg 0) B4 (eG M [] Q) (kG 0 [a0]) [] H):∃e H',jT M yg [a0] up H e up H'/\Q e H':=GV Y1 (MK.at (by decide) (by kernel_rfl:(aX Tryz.prog).func yg=B1 (funcAt Tryz.prog yg))) (by kernel_rfl) (by kernel_rfl) (by kernel_rfl) h
def qvr(M:ak)(c:Ctx):=(Gu M c).2.2
abbrev yw:Nat:=43
abbrev wc:Nat:=61
abbrev LY:Nat:=73
abbrev Xq:Nat:=60
abbrev PQ:Nat:=38
abbrev u_:Nat:=54
abbrev OA:Nat:=69
abbrev Wy:Nat:=74
abbrev sm:Nat:=44
abbrev hK:Nat:=25
abbrev qia:Nat:=27
abbrev Uj:Nat:=21
abbrev Z5:Nat:=26
abbrev xy:Nat:=28
abbrev SZ:Nat:=40
abbrev oy:Nat:=42
abbrev Pw:Nat:=48
abbrev R7:Nat:=49
abbrev Q5:Nat:=50
abbrev Qv:Nat:=47
abbrev V2:Nat:=34
abbrev td:Nat:=56
abbrev uX:Nat:=95
abbrev uc:Nat:=46
abbrev uo:Nat:=65
abbrev Gj:Nat:=90
abbrev Zy:uj:=[(38,⟨[0,2,3,4,5,7,8],B2,[0,4,9]⟩,[]),(300038,⟨[0,2,3,4,5,7,8],B2,[0]⟩,[]),(200038,⟨[0,2,3,4,5,7,8],B2,[0,7]⟩,[]),(25,⟨[0,1,2,3,4,6,8,9,10,11,12,13,14,15,16,48,49],B2,[0,4,12,14,49,19,25,48,31,37,39,47]⟩,[]),(21,⟨[0,1,3,4,5,6,14],B2,[0,2,10,12,20]⟩,[(4,[2,4,0,5,6,8])]),(28,⟨[0,2],B2,[0,2,10]⟩,[]),(26,⟨[0,1,4,5],B2,[0]⟩,[]),(27,⟨[0,1,4,5],B2,[0]⟩,[]),(54,⟨[0,1,2],B2,[0]⟩,[]),(34,⟨[0],B2,[0]⟩,[]),(44,⟨[0,2],B2,[0,2,10]⟩,[]),(40,⟨[0,1,4],B2,[0,2,10]⟩,[]),(42,⟨[0,2],B2,[0,2,10]⟩,[]),(43,⟨[0,1,4,5,6,7,8,11,12,44,45,46,69,70],B2,[0,2,3,18,22,24,47,29,49,35,54,46]⟩,[]),(300043,⟨[0,1,4,5,6,7,8,11,12,44,45,46,69,70],B2,[0]⟩,[]),(200043,⟨[0,1,4,5,6,7,8,11,12,44,45,46,69,70],B2,[0,7]⟩,[]),(69,⟨[0,1],B2,[0,2,8]⟩,[]),(47,⟨[0,1,3,4,5,6,7,8,10,14,30,31,32],B2,[0,4,12,16,41,21,27,40,33]⟩,[(12,[0,2,4,6,8,10,7,12,14])]),(48,⟨[0,1,3,4,5,6,14],B2,[0]⟩,[]),(49,⟨[0,1,3,4,14],B2,[0]⟩,[]),(50,⟨[0,1,3,4,14],B2,[0]⟩,[]),(60,⟨[0,1,4,5,8],B2,[0,2,10]⟩,[]),(61,⟨[0,1,2,3,4],B2,[0]⟩,[]),(73,⟨[0,1,2,5,6,7,11,12,13],B2,[0,4,10,21,16]⟩,[]),(74,⟨[0,1,4,5,21],B2,[0,2,10]⟩,[])]
def iu(n:Nat):Kp:=kA n Zy
def JR(n k:Nat):Kp×ai:=(iu n,part (bh Tryz.prog n) k)
def L'(n k:Nat):JR n k=(iu n,part (bh Tryz.prog n) k):=rfl
def sj:=@lj M _ JR iu L'
attribute [local irreducible] JR
def kc(M:ak)(c:Ctx):=by
 have h:=po L' M c Zy (by kernel_rfl)
 conv at h=>arg 5;reduce
 delta PR RL oH gD nJ gF pe iM mS fP gG fY oQ qV su nR pW rW sn Zy at h
 simp only[Aj,zY,Ac,Aa,Sp,QR]at h;exact h
def eg(M:ak)(c:Ctx):=(kc M c).2.2.2.2.2.2.2.2
def ei(M:ak)(c:Ctx):=(eg M c).2.2.2.2.2.2.2.2
def ez(M:ak)(c:Ctx):=(ei M c).2.2.2.2.2.2.2.2
def SI:bZ:=funcAt Tryz.prog PQ
def RQ:dT:=hJ SI 0
abbrev Z0(k:Nat):Kp×ai:=JR 300038 k
abbrev X4(k:Nat):Kp×ai:=JR 200038 k
def qtt:nth SI.loops 0=B1 RQ/\RQ.params=[8]:=⟨by kernel_rfl,by kernel_rfl⟩
def q7q:(Z0 0).1.ah=[0,2,3,4,5,7,8]/\(Z0 0).2=RQ.assign:=⟨by kernel_rfl,by kernel_rfl⟩
def q7r:(X4 0).1.ah=[0,2,3,4,5,7,8]/\(X4 0).2=RQ.body:=⟨by kernel_rfl,by kernel_rfl⟩
def xal:M.func PQ=B1 SI:=MK.at (by decide) (by kernel_rfl)
def TW(M:ak)(c:Ctx):=II (kc M c).1.1 (II (kc M c).2.1 (II (kc M c).2.2.1.1 (II (kc M c).1.2.1 (II (kc M c).2.2.1.2 ((kc M c).1.2.2)))))
def xc7:=@sj M _ PQ [.tmp 2] [a0] (by kernel_rfl) H Q
def Ae(M:ak)(c:Ctx):=(kc M c).2.2.2.1
def xgu:=@sj M _ hK [.tmp 8,.tmp 9] [a0,a1,a2,a3] (by kernel_rfl) H Q
def VG(M:ak)(c:Ctx):=(kc M c).2.2.2.2.1
def q19:=@sj M _ Uj [.cV 14 4] [a0,a1] (by kernel_rfl) H Q
def qr8(M:ak)(c:Ctx):=(kc M c).2.2.2.2.2.1
def qr7:=@sj M _ xy [.tmp 2] [a0] (by kernel_rfl) H Q
def yb(M:ak)(c:Ctx):=(kc M c).2.2.2.2.2.2.1
def sB:=@sj M _ Z5 [.tmp 4,.tmp 5] [a0,a1] (by kernel_rfl) H Q
def qqi(M:ak)(c:Ctx):=(kc M c).2.2.2.2.2.2.2.1
def qqh:=@sj M _ qia [.tmp 4,.tmp 5] [a0,a1] (by kernel_rfl) H Q
def xc9(M:ak)(c:Ctx):=(eg M c).1
def xc8:=@sj M _ u_ [.tmp 2] [a0] (by kernel_rfl) H Q
def xep(M:ak)(c:Ctx):=(eg M c).2.1
def xeo:=@sj M _ V2 [.tmp 0] [] (by kernel_rfl) H Q
def qg4(M:ak)(c:Ctx):=(eg M c).2.2.1
def qn9:=@sj M _ sm [.tmp 2] [a0] (by kernel_rfl) H Q
def Yi(M:ak)(c:Ctx):=(eg M c).2.2.2.1
def qp6:=@sj M _ SZ [.tmp 4] [a0,a1] (by kernel_rfl) H Q
def qzk(M:ak)(c:Ctx):=(eg M c).2.2.2.2.1
def qzj:=@sj M _ oy [.tmp 2] [a0] (by kernel_rfl) H Q
def Sv:bZ:=funcAt Tryz.prog yw
def Rl:dT:=hJ Sv 0
abbrev XC(k:Nat):Kp×ai:=JR 300043 k
abbrev U3(k:Nat):Kp×ai:=JR 200043 k
def qke:nth Sv.loops 0=B1 Rl/\Rl.params=[70]:=⟨by kernel_rfl,by kernel_rfl⟩
def qsq:(XC 0).1.ah=[0,1,4,5,6,7,8,11,12,44,45,46,69,70]/\(XC 0).2=Rl.assign:=⟨by kernel_rfl,by kernel_rfl⟩
def qsr:(U3 0).1.ah=[0,1,4,5,6,7,8,11,12,44,45,46,69,70]/\(U3 0).2=Rl.body:=⟨by kernel_rfl,by kernel_rfl⟩
def qt3:M.func yw=B1 Sv:=MK.at (by decide) (by kernel_rfl)
def V8(M:ak)(c:Ctx):=II (eg M c).2.2.2.2.2.1.1 (II (eg M c).2.2.2.2.2.2.1 (II (eg M c).2.2.2.2.2.2.2.1.1 (II (eg M c).2.2.2.2.2.1.2.1 (II (eg M c).2.2.2.2.2.2.2.1.2 (II (eg M c).2.2.2.2.2.1.2.2.1 (II (eg M c).2.2.2.2.2.1.2.2.2.1 (II (eg M c).2.2.2.2.2.1.2.2.2.2.1 (II (eg M c).2.2.2.2.2.1.2.2.2.2.2.1 (II (eg M c).2.2.2.2.2.1.2.2.2.2.2.2.1 (II (eg M c).2.2.2.2.2.1.2.2.2.2.2.2.2.1 (II (eg M c).2.2.2.2.2.1.2.2.2.2.2.2.2.2.1 (II (eg M c).2.2.2.2.2.1.2.2.2.2.2.2.2.2.2.1 (II (eg M c).2.2.2.2.2.1.2.2.2.2.2.2.2.2.2.2.1 ((eg M c).2.2.2.2.2.1.2.2.2.2.2.2.2.2.2.2.2))))))))))))))
def _6:=@sj M _ yw [.tmp 4,.tmp 5] [a0,a1] (by kernel_rfl) H Q
def TL(M:ak)(c:Ctx):=(ei M c).1
def q7s:=@sj M _ OA [] [a0,a1] (by kernel_rfl) H Q
def Me(M:ak)(c:Ctx):=(ei M c).2.1
def qxb:=@sj M _ Qv [.cV 14 4] [a0,a1] (by kernel_rfl) H Q
def qsa(M:ak)(c:Ctx):=(ei M c).2.2.1
def qr9:=@sj M _ Pw [.cV 14 4] [a0,a1] (by kernel_rfl) H Q
def qu9(M:ak)(c:Ctx):=(ei M c).2.2.2.1
def qu8:=@sj M _ R7 [.cV 14 4] [a0,a1] (by kernel_rfl) H Q
def qvb(M:ak)(c:Ctx):=(ei M c).2.2.2.2.1
def qva:=@sj M _ Q5 [.cV 14 4] [a0,a1] (by kernel_rfl) H Q
def q0l(M:ak)(c:Ctx):=(ei M c).2.2.2.2.2.1
def q0k:=@sj M _ Xq [.cV 8 4,.tmp 5] [a0,a1] (by kernel_rfl) H Q
def q7j(M:ak)(c:Ctx):=(ei M c).2.2.2.2.2.2.1
def q7i:=@sj M _ wc [.tmp 4] [a0,a1] (by kernel_rfl) H Q
def qz7(M:ak)(c:Ctx):=(ei M c).2.2.2.2.2.2.2.1
def qz6:=@sj M _ LY [] [a0,a1,a2] (by kernel_rfl) H Q
def q02(M:ak)(c:Ctx):=(ez M c)
def q01:=@sj M _ Wy [.cV 21 4,.tmp 5] [a0,a1] (by kernel_rfl) H Q
abbrev H_:Nat:=8
abbrev _w:Nat:=6
abbrev um:Nat:=19
abbrev _8:Nat:=13
abbrev _U:Nat:=10
abbrev V1:Nat:=12
abbrev Re:Nat:=17
abbrev T_:Nat:=30
abbrev NK:Nat:=45
abbrev qqw:Nat:=35
abbrev YW:Nat:=22
abbrev S2:Nat:=20
abbrev qqy:Nat:=23
abbrev _C:Nat:=24
abbrev _B:Nat:=29
abbrev _J:Nat:=36
abbrev nM:Nat:=30
abbrev Cg:Nat:=80
abbrev EV:Nat:=33
abbrev M8:Nat:=4
abbrev wl:Nat:=29
abbrev YZ:uj:=[(6,⟨[0,1,2,3,5,6,7,8,9,10,11,12,13,14,15,16,101,102],B2,[0,4,12,14,22,26,28,36,59,41,47,58]⟩,[]),(8,⟨[0,1,2,3,4],B2,[0,4,19,9,27,15,18]⟩,[]),(10,⟨[0,1,2,3,5,6,7,8,9,11,22,23,24],B2,[0,4,12,29,17,23,28]⟩,[]),(12,⟨[0,1,2,3,5,6,7,8,9,10,11,21,22],B2,[0,2,12,14,33,19,25,32]⟩,[(8,[0,2,4,8,6,1,9,10,12,14,16,18,20])]),(13,⟨[0,1,4,5],B2,[0,2,10,31,15,21,30]⟩,[]),(17,⟨[0,1,2,3,5,6,7,8,9,10,11,12,13,30,31],B2,[0,2,12,14,35,19,25,27,29,31]⟩,[]),(300017,⟨[0,1,2,3,5,6,7,8,9,10,11,12,13,30,31],B2,[0]⟩,[]),(200017,⟨[0,1,2,3,5,6,7,8,9,10,11,12,13,30,31],B2,[0,3,11]⟩,[]),(19,⟨[0,1,4,5,6],B2,[0,4,23,9,15,22]⟩,[]),(20,⟨[0,1,2,3,5,6,7,8,9],B2,[0,4,12,20]⟩,[]),(22,⟨[0,1,3,4,5,6,7,8,17],B2,[0,4,29,22]⟩,[(7,[0,2,4,6,8,12,14,10,15,16,18])]),(23,⟨[0,1,2,3,5,6,7,8],B2,[0,4,12]⟩,[]),(24,⟨[0,1,4],B2,[0]⟩,[]),(29,⟨[0,2],B2,[0,2,10]⟩,[]),(30,⟨[0,1,2],B2,[0]⟩,[]),(35,⟨[0,1,2,6,7,9,11,12,13],B2,[0,4,25,9,15,24]⟩,[]),(36,⟨[0,1,2,6,7],B2,[0,4,12]⟩,[]),(45,⟨[0,1,3],B2,[0,4,10,17]⟩,[])]
def Z8(n:Nat):Kp:=kA n YZ
def PV(n k:Nat):Kp×ai:=(Z8 n,part (bh Tryz.prog n) k)
def FH(n k:Nat):PV n k=(Z8 n,part (bh Tryz.prog n) k):=rfl
def wC:=@lj M _ PV Z8 FH
attribute [local irreducible] PV
def yu(M:ak)(c:Ctx):=by
 have h:=po FH M c YZ (by kernel_rfl)
 conv at h=>arg 5;reduce
 delta PR RL oH gD nJ gF pe iM mS fP gG fY oQ qV su nR pW rW sn YZ at h
 simp only[Aj,zY,Ac,Aa,Sp,QR]at h;exact h
def fb(M:ak)(c:Ctx):=(yu M c).2.2.2.2.2.2.2.2
def fe(M:ak)(c:Ctx):=(fb M c).2.2.2.2.2.2.2.2
def kq(M:ak)(c:Ctx):=(yu M c).1
def quk:=@wC M _ _w [.tmp 6] [a0,a1,a2] (by kernel_rfl) H Q
def Kw(M:ak)(c:Ctx):=(yu M c).2.1
def xat:=@wC M _ H_ [.tmp 2] [a0] (by kernel_rfl) H Q
def Lh(M:ak)(c:Ctx):=(yu M c).2.2.1
def q8e:=@wC M _ _U [.tmp 6,.tmp 7] [a0,a1,a2] (by kernel_rfl) H Q
def Kk(M:ak)(c:Ctx):=(yu M c).2.2.2.1
def q6r:=@wC M _ V1 [.tmp 6,.tmp 7] [a0,a1,a2] (by kernel_rfl) H Q
def Xg(M:ak)(c:Ctx):=(yu M c).2.2.2.2.1
def xd7:=@wC M _ _8 [.tmp 4] [a0,a1] (by kernel_rfl) H Q
def Uv:bZ:=funcAt Tryz.prog Re
def Qw:dT:=hJ Uv 0
abbrev YP(k:Nat):Kp×ai:=PV 300017 k
abbrev Zd(k:Nat):Kp×ai:=PV 200017 k
def qn8:nth Uv.loops 0=B1 Qw/\Qw.params=[31]:=⟨by kernel_rfl,by kernel_rfl⟩
def qyt:(YP 0).1.ah=[0,1,2,3,5,6,7,8,9,10,11,12,13,30,31]/\(YP 0).2=Qw.assign:=⟨by kernel_rfl,by kernel_rfl⟩
def qyu:(Zd 0).1.ah=[0,1,2,3,5,6,7,8,9,10,11,12,13,30,31]/\(Zd 0).2=Qw.body:=⟨by kernel_rfl,by kernel_rfl⟩
def q1n:M.func Re=B1 Uv:=MK.at (by decide) (by kernel_rfl)
def I6(M:ak)(c:Ctx):=II (yu M c).2.2.2.2.2.1.1 (II (yu M c).2.2.2.2.2.2.1 (II (yu M c).2.2.2.2.2.2.2.1.1 (II (yu M c).2.2.2.2.2.1.2.1 (II (yu M c).2.2.2.2.2.2.2.1.2.1 (II (yu M c).2.2.2.2.2.1.2.2.1 (II (yu M c).2.2.2.2.2.2.2.1.2.2 (II (yu M c).2.2.2.2.2.1.2.2.2.1 (II (yu M c).2.2.2.2.2.1.2.2.2.2.1 (II (yu M c).2.2.2.2.2.1.2.2.2.2.2.1 (II (yu M c).2.2.2.2.2.1.2.2.2.2.2.2.1 (II (yu M c).2.2.2.2.2.1.2.2.2.2.2.2.2.1 (II (yu M c).2.2.2.2.2.1.2.2.2.2.2.2.2.2.1 ((yu M c).2.2.2.2.2.1.2.2.2.2.2.2.2.2.2)))))))))))))
def q6s:=@wC M _ Re [.tmp 6,.tmp 7] [a0,a1,a2] (by kernel_rfl) H Q
def PH(M:ak)(c:Ctx):=(fb M c).1
def xd6:=@wC M _ um [.tmp 4] [a0,a1] (by kernel_rfl) H Q
def NC(M:ak)(c:Ctx):=(fb M c).2.1
def xbv:=@wC M _ S2 [.tmp 6,.tmp 7] [a0,a1,a2] (by kernel_rfl) H Q
def Kj(M:ak)(c:Ctx):=(fb M c).2.2.1
def xeg:=@wC M _ YW [.tmp 4] [a0,a1] (by kernel_rfl) H Q
def T3(M:ak)(c:Ctx):=(fb M c).2.2.2.1
def q6v:=@wC M _ qqy [.tmp 6] [a0,a1,a2] (by kernel_rfl) H Q
def q1p(M:ak)(c:Ctx):=(fb M c).2.2.2.2.1
def q1o:=@wC M _ _C [.tmp 4] [a0,a1] (by kernel_rfl) H Q
def X_(M:ak)(c:Ctx):=(fb M c).2.2.2.2.2.1
def qqc:=@wC M _ _B [.tmp 2] [a0] (by kernel_rfl) H Q
def xbu(M:ak)(c:Ctx):=(fb M c).2.2.2.2.2.2.1
def xbt:=@wC M _ T_ [.tmp 2] [a0] (by kernel_rfl) H Q
def QG(M:ak)(c:Ctx):=(fb M c).2.2.2.2.2.2.2.1
def q6u:=@wC M _ qqw [.tmp 6] [a0,a1,a2] (by kernel_rfl) H Q
def qo3(M:ak)(c:Ctx):=(fe M c).1
def qo2:=@wC M _ _J [.tmp 6] [a0,a1,a2] (by kernel_rfl) H Q
def O2(M:ak)(c:Ctx):=(fe M c).2
def q6t:=@wC M _ NK [] [a0,a1] (by kernel_rfl) H Q
end
end Go.Am
