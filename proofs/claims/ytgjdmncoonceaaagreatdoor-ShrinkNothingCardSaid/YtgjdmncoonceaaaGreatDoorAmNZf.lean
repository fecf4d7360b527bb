import Derived.Test.YtgjdmncoonceaaaGreatDoorAmNZd
import Derived.Test.YtgjdmncoonceaaaGreatDoorAmNZa
import Derived.KernelRfl
import Derived.Test.YtgjdmncoonceaaaGreatDoorRows
set_option linter.unusedVariables false
set_option linter.unusedSimpArgs false
set_option linter.defProp false
set_option maxRecDepth 100000
set_option maxHeartbeats 1000000
open And renaming intro→IK
open Bool renaming rec→Ox,false→B2,true→B4
open Go renaming Oper→PI,Operand→Mx,Program→Kb,TypeId→ME
open Int renaming reduceNegSucc→Q2,reduceOfNat→Sp
open List renaming range→N8,rec→An
open Nat renaming beq→J2,ble→Oc
open Option renaming rec→QT,none→B5,some→B1
namespace Go.Am
noncomputable section
def PR:Type:=Prop
abbrev WR:=Bool->aD->Env->List aK->ar->PR
abbrev KQ:=Bool->Env->Env->ar->PR
def IM(m:Bool)(o:Option (bF×(Nat->AV)))(H:ar)(K:Bool->AV->ar->Prop):Prop:=i9 m o λ g o mk=>K g (mk H.au) (H.alloc o)
def nS{α:Type}:Bool->Option α->(Bool -> α->PR)->PR:=@B3 α
def gI{α β:Type}:Bool->Option (α×β)->(Bool -> α -> β->PR)->PR:=@i9 α β
def fU:Bool->AV->(Bool->PR)->(Bool->PR)->PR:=nE
def gJ:Bool->Bool->(Bool->PR)->(Bool->PR)->PR:=wK
def iN:Bool->Option AV->Option AV->(Bool->PR)->PR:=NB
def gE:Bool->Option (bF×(Nat->AV))->ar->(Bool->AV->ar->PR)->PR:=IM
def pj:ak->Bool->mG->List AV->ar->(Bool->AV->ar->PR)->PR:=C3
def zT:ak->Bool->(aG->ar->PR)->mG->List AV->ar->(Bool->AV->ar->PR)->PR:=P3
def pV:Bool->List AV->(Bool->mG->List AV->PR)->PR:=V3
def wD:ak->Bool->String->List AV->(Bool->mG->List AV->PR)->PR:=N3
def xC:Option (List Nat)->List Nat->aD->Env->List aK->aG->ar->PR:=PX
def yY:List AV->ar->(aG->ar->PR)->PR:=gC
def fY{α:Type}:(α->PR) -> α->PR:=@JN α
def mK:Bool->aD->aW->Env->List aK->ar->PR:=rN
def oK{α:Type}:Bool->Option α->(Bool -> α->PR)->PR:=@LK α
def rW:ak->Ctx->Kp×ai->WR:=W
def qP:WR->aD->Env->List aK->ar->PR:=cK
def su:ak->List Nat->Ctx->Nat->Env->List aK->ar->aD->AV->PR:=iB
def oI:WR->aD->aD:=fp
def se:PR:=False
def oq:Env->Nat->Option AV:=lk
section
variable(M:ak)
def WJ(E L R:Env)(t:Nat)(g:Bool)(K:Bool->Env->AV->PR):PR :=
 QT (motive:=λ _=>PR) (QT (motive:=λ _=>PR) (oK g (oq E t) λ g v=>K g ((t,v)::R) v) (λ v=>K g R v) (lk R t)) (λ v=>K g R v) (lk L t)
def tEV(E L:Env)(l:List bL):Bool->Env->(Bool->Env->List AV->PR)->PR:=An (motive:=λ _=>Bool->Env->(Bool->Env->List AV->PR)->PR) (λ g R K=>K g R [])
 (λ x _ ih g R K=>bL.casesOn x (λ t=>WJ E L R t g λ g R v=>ih g R λ g R vs=>K g R (v::vs)) (λ v=>ih g R λ g R vs=>K g R (v::vs)) (λ b=>ih g R λ g R vs=>K g R (.ptr b 0::vs)) (λ f=>ih g R λ g R vs=>K g R (.fn (.func f) [] []::vs))) l
def Wl(dh:Bool)(ps:Option (List Nat))(L:Env)(Q:aD)(E:Env)(D:List aK)(g:Bool)(f:mG)(vs:List AV)(H:ar)(K:Bool->AV->ar->PR):PR :=
 cond dh (zT M g (xC ps (mi L) Q E D) f vs H K) (pj M g f vs H K)
def tOP(dh:Bool)(dst:Option Nat)(ps:Option (List Nat))(Q:aD)(E:Env)(D:List aK)(L R:Env)(H:ar)(K:KQ)(g:Bool)(vs:List AV):fI->PR
 | .pure f=>nS g (f vs) λ g v=>K g (lT dst v L) R H
 | .read f=>nS g (f vs H) λ g v=>K g (lT dst v L) R H
 | .alloc f=>gE g (f vs) H λ g v H=>K g (lT dst v L) R H
 | .gY f=>gI g (f vs H) λ g v H=>K g (lT dst v L) R H
 | .im f=>Wl M dh ps L Q E D g (.func f) vs H (λ g v H=>K g (lT dst v L) R H)
 | .iq=>pV g vs λ g f vs=>Wl M dh ps L Q E D g f vs H (λ g v H=>K g (lT dst v L) R H)
 | .invoke name=>wD M g name vs λ g f vs=>Wl M dh ps L Q E D g f vs H (λ g v H=>K g (lT dst v L) R H)
 | .panic=>cond dh (yY vs H (xC ps (mi L) Q E D)) se
 |_=>se
def tCK(dst:Option Nat)(E L R:Env)(H:ar)(K:KQ)(g:Bool)(vs:List AV):fI->PR
 | .read f=>match dst with
  |some d=>iN g (f vs H) (QT (motive:=λ _=>Option AV) (oq E d) (λ v=>B1 v) (lk L d)) λ g=>K g L R H
  |none=>se
 |_=>se
def tST(dh:Bool)(s:aO)(Q:aD)(E:Env)(D:List aK)(K:KQ):KQ:=λ g L R H =>
 tEV E L s.args g R λ g R vs=>match s.iv with
  |false=>tOP M dh s.dst s.cI Q E D L R H K g vs s.op
  |true=>tCK s.dst E L R H K g vs s.op
def ω(dh:Bool)(Q:aD)(E:Env)(D:List aK)(K:KQ)(l:List aO):KQ:=An (motive:=λ _=>KQ) K (λ s _ ih=>tST M dh s Q E D ih) l
def rZ(n:Nat):Type:=Nat.rec (motive:=λ _=>Type) (ar->PR) (λ _ T=>AV->T) n
def XV:(n:Nat)->((Bool->rZ n)->PR)->(Bool->rZ n)->PR
 |0=>λ F K=>fY (α:=Bool->ar->PR) (λ k=>F k) K
 |1=>λ F K=>fY (α:=Bool->AV->ar->PR) (λ k=>F k) K
 |2=>λ F K=>fY (α:=Bool->AV->AV->ar->PR) (λ k=>F k) K
 |3=>λ F K=>fY (α:=Bool->AV->AV->AV->ar->PR) (λ k=>F k) K
 |4=>λ F K=>fY (α:=Bool->AV->AV->AV->AV->ar->PR) (λ k=>F k) K
 |5=>λ F K=>fY (α:=Bool->AV->AV->AV->AV->AV->ar->PR) (λ k=>F k) K
 |6=>λ F K=>fY (α:=Bool->AV->AV->AV->AV->AV->AV->ar->PR) (λ k=>F k) K
 |7=>λ F K=>fY (α:=Bool->AV->AV->AV->AV->AV->AV->AV->ar->PR) (λ k=>F k) K
 |8=>λ F K=>fY (α:=Bool->AV->AV->AV->AV->AV->AV->AV->AV->ar->PR) (λ k=>F k) K
 |9=>λ F K=>fY (α:=Bool->AV->AV->AV->AV->AV->AV->AV->AV->AV->ar->PR) (λ k=>F k) K
 |10=>λ F K=>fY (α:=Bool->AV->AV->AV->AV->AV->AV->AV->AV->AV->AV->ar->PR) (λ k=>F k) K
 |11=>λ F K=>fY (α:=Bool->AV->AV->AV->AV->AV->AV->AV->AV->AV->AV->AV->ar->PR) (λ k=>F k) K
 |12=>λ F K=>fY (α:=Bool->AV->AV->AV->AV->AV->AV->AV->AV->AV->AV->AV->AV->ar->PR) (λ k=>F k) K
 |13=>λ F K=>fY (α:=Bool->AV->AV->AV->AV->AV->AV->AV->AV->AV->AV->AV->AV->AV->ar->PR) (λ k=>F k) K
 |14=>λ F K=>fY (α:=Bool->AV->AV->AV->AV->AV->AV->AV->AV->AV->AV->AV->AV->AV->AV->ar->PR) (λ k=>F k) K
 |15=>λ F K=>fY (α:=Bool->AV->AV->AV->AV->AV->AV->AV->AV->AV->AV->AV->AV->AV->AV->AV->ar->PR) (λ k=>F k) K
 |16=>λ F K=>fY (α:=Bool->AV->AV->AV->AV->AV->AV->AV->AV->AV->AV->AV->AV->AV->AV->AV->AV->ar->PR) (λ k=>F k) K
 |17=>λ F K=>fY (α:=Bool->AV->AV->AV->AV->AV->AV->AV->AV->AV->AV->AV->AV->AV->AV->AV->AV->AV->ar->PR) (λ k=>F k) K
 |18=>λ F K=>fY (α:=Bool->AV->AV->AV->AV->AV->AV->AV->AV->AV->AV->AV->AV->AV->AV->AV->AV->AV->AV->ar->PR) (λ k=>F k) K
 |19=>λ F K=>fY (α:=Bool->AV->AV->AV->AV->AV->AV->AV->AV->AV->AV->AV->AV->AV->AV->AV->AV->AV->AV->AV->ar->PR) (λ k=>F k) K
 |20=>λ F K=>fY (α:=Bool->AV->AV->AV->AV->AV->AV->AV->AV->AV->AV->AV->AV->AV->AV->AV->AV->AV->AV->AV->AV->ar->PR) (λ k=>F k) K
 |21=>λ F K=>fY (α:=Bool->AV->AV->AV->AV->AV->AV->AV->AV->AV->AV->AV->AV->AV->AV->AV->AV->AV->AV->AV->AV->AV->ar->PR) (λ k=>F k) K
 |22=>λ F K=>fY (α:=Bool->AV->AV->AV->AV->AV->AV->AV->AV->AV->AV->AV->AV->AV->AV->AV->AV->AV->AV->AV->AV->AV->AV->ar->PR) (λ k=>F k) K
 |23=>λ F K=>fY (α:=Bool->AV->AV->AV->AV->AV->AV->AV->AV->AV->AV->AV->AV->AV->AV->AV->AV->AV->AV->AV->AV->AV->AV->AV->ar->PR) (λ k=>F k) K
 |24=>λ F K=>fY (α:=Bool->AV->AV->AV->AV->AV->AV->AV->AV->AV->AV->AV->AV->AV->AV->AV->AV->AV->AV->AV->AV->AV->AV->AV->AV->ar->PR) (λ k=>F k) K
 |25=>λ F K=>fY (α:=Bool->AV->AV->AV->AV->AV->AV->AV->AV->AV->AV->AV->AV->AV->AV->AV->AV->AV->AV->AV->AV->AV->AV->AV->AV->AV->ar->PR) (λ k=>F k) K
 |26=>λ F K=>fY (α:=Bool->AV->AV->AV->AV->AV->AV->AV->AV->AV->AV->AV->AV->AV->AV->AV->AV->AV->AV->AV->AV->AV->AV->AV->AV->AV->AV->ar->PR) (λ k=>F k) K
 |27=>λ F K=>fY (α:=Bool->AV->AV->AV->AV->AV->AV->AV->AV->AV->AV->AV->AV->AV->AV->AV->AV->AV->AV->AV->AV->AV->AV->AV->AV->AV->AV->AV->ar->PR) (λ k=>F k) K
 |28=>λ F K=>fY (α:=Bool->AV->AV->AV->AV->AV->AV->AV->AV->AV->AV->AV->AV->AV->AV->AV->AV->AV->AV->AV->AV->AV->AV->AV->AV->AV->AV->AV->AV->ar->PR) (λ k=>F k) K
 |_+29=>λ F K=>fY F K
def Lu:∀(n:Nat)(F:(Bool->rZ n)->PR)(K:Bool->rZ n),XV n F K=fY F K:=λ n=>by
 unfold XV;split<;>exact λ F K=>rfl
def UQ(n:Nat):(List AV->ar->PR)->rZ n:=Nat.rec (motive:=λ n=>(List AV->ar->PR)->rZ n) (λ f=>f []) (λ _ ih f v=>ih λ l=>f (v::l)) n
def QM(n:Nat):rZ n->List AV->ar->PR:=Nat.rec (motive:=λ n=>rZ n->List AV->ar->PR) (λ k _=>k) (λ _ ih k l=>List.casesOn (motive:=λ _=>ar->PR) l (λ _=>se) λ v l=>ih (k v) l) n
def Yp(dh:Bool)(Q:aD)(E:Env)(D:List aK)(x:Gj)(K:KQ):KQ:=λ g L R H=>match x.1 with
 |none=>ω M dh Q E D K x.2 g L R H
 |some q=>cond (wA q.1 x.2) (WJ E L R q.1 g λ g R v=>XV (cQ (bq x.2 []))
  (λ k=>nS g (cT q.2 (B1 v)) λ g w=>gJ g w (λ g=>ω M dh Q E D (λ g L _ H=>QM (cQ (bq x.2 [])) (k g) (rE (cQ (bq x.2 [])) L) H) x.2 g L R H) (λ g=>QM (cQ (bq x.2 [])) (k g) (sD (cQ (bq x.2 []))) H))
  (λ g=>UQ (cQ (bq x.2 [])) λ vs H=>K g (lH (bq x.2 []) L vs) R H)) se
def Qt(dh:Bool)(Q:aD)(E:Env)(D:List aK)(l:List aO)(g:Bool)(H:ar)(K:KQ):PR:=An (motive:=λ _=>KQ) K (λ x _ ih=>Yp M dh Q E D x ih) (Jr l) g [] [] H
def O'(E:Env)(x:bL)(g:Bool)(K:Bool->AV->PR):PR:=match x with
 | .tmp t=>oK g (oq E t) K
 | .const v=>K g v
 | .eH b=>K g (.ptr b 0)
 | .func f=>K g (.fn (.func f) [] [])
def j5(E L R:Env)(x:bL)(g:Bool)(K:Bool->AV->PR):PR:=match x with
 | .tmp t=>WJ E L R t g λ g _ v=>K g v
 | .const v=>K g v
 | .eH b=>K g (.ptr b 0)
 | .func f=>K g (.fn (.func f) [] [])
def tU(rg:Bool->aD->Env->List aK->List aO->Bool->ar->KQ->PR)(ctx:Ctx)(K:Kp)(X:Nat->WR):ai->Nat->WR
 | .skip,_,g,Q,E,D,H=>mK g Q .normal E D H
 | .label _,_,g,Q,E,D,H=>mK g Q .normal E D H
 | .exit id,_,g,Q,E,D,H=>mK g Q (.exit id) E D H
 | .goto l,_,g,Q,E,D,H=>mK g Q (.goto l) E D H
 | .ret,_,g,Q,E,D,H=>mK g Q .ret E D H
 | .stuck,_,_,_,_,_,_=>se
 | .region l,_,g,Q,E,D,H=>rg K.dh Q E D l g H λ g L _ H=>mK g Q .normal (dJ K.ah E L) D H
 | .seq a b,k,g,Q,E,D,H=>match a,b with
  | .region l,.cond c x y=>rg K.dh Q E D l g H λ g L R H=>j5 E L R c g λ g v=>fU g v (λ g=>(Ox (motive:=λ _=>WR) (tU rg ctx K X x (k+3)) (X (k+3)) (bH (k+3) K.named)) g Q (dJ K.ah E L) D H) (λ g=>(Ox (motive:=λ _=>WR) (tU rg ctx K X y (k+3+dC x)) (X (k+3+dC x)) (bH (k+3+dC x) K.named)) g Q (dJ K.ah E L) D H)
  | .region l,.seq (.cond c x y) r=>rg K.dh Q E D l g H λ g L R H=>j5 E L R c g λ g v=>fU g v (λ g=>(Ox (motive:=λ _=>WR) (tU rg ctx K X x (k+4)) (X (k+4)) (bH (k+4) K.named)) g (oI (Ox (motive:=λ _=>WR) (tU rg ctx K X r (k+4+dC x+dC y)) (X (k+4+dC x+dC y)) (bH (k+4+dC x+dC y) K.named)) Q) (dJ K.ah E L) D H)
   (λ g=>(Ox (motive:=λ _=>WR) (tU rg ctx K X y (k+4+dC x)) (X (k+4+dC x)) (bH (k+4+dC x) K.named)) g (oI (Ox (motive:=λ _=>WR) (tU rg ctx K X r (k+4+dC x+dC y)) (X (k+4+dC x+dC y)) (bH (k+4+dC x+dC y) K.named)) Q) (dJ K.ah E L) D H)
  | .region l,b=>rg K.dh Q E D l g H λ g L _ H=>(Ox (motive:=λ _=>WR) (tU rg ctx K X b (k+2)) (X (k+2)) (bH (k+2) K.named)) g Q (dJ K.ah E L) D H
  |a,b=>(Ox (motive:=λ _=>WR) (tU rg ctx K X a (k+1)) (X (k+1)) (bH (k+1) K.named)) g (oI (Ox (motive:=λ _=>WR) (tU rg ctx K X b (k+1+dC a)) (X (k+1+dC a)) (bH (k+1+dC a) K.named)) Q) E D H
 | .cond c x y,k,g,Q,E,D,H=>O' E c g λ g v=>fU g v (λ g=>(Ox (motive:=λ _=>WR) (tU rg ctx K X x (k+1)) (X (k+1)) (bH (k+1) K.named)) g Q E D H) (λ g=>(Ox (motive:=λ _=>WR) (tU rg ctx K X y (k+1+dC x)) (X (k+1+dC x)) (bH (k+1+dC x) K.named)) g Q E D H)
 | .block id b,k,g,Q,E,D,H=>(Ox (motive:=λ _=>WR) (tU rg ctx K X b (k+1)) (X (k+1)) (bH (k+1) K.named)) g (eY id Q) E D H
 | .scope b,k,g,Q,E,D,H=>(Ox (motive:=λ _=>WR) (tU rg ctx K X b (k+1)) (X (k+1)) (bH (k+1) K.named)) g (kH b Q) E D H
 | .loop (B1 _) _,_,_,_,_,_,_=>se
 | .loop B5 b,k,g,Q,E,D,H=>qP (Ox (motive:=λ _=>WR) (tU rg ctx K X b (k+1)) (X (k+1)) (bH (k+1) K.named)) Q E D H
 | .rangeFunc f n,_,g,Q,E,D,H=>O' E f g λ g v=>su M K.ah ctx n E D H Q v
end
def ML(M:ak):Yp M=SK M:=by
 funext dh Q E D ⟨o,l⟩ K g L R H;cases o with
 |none=>kernel_rfl
 |some q =>
  unfold Yp;simp only[Lu]
  kernel_rfl
def MP(M:ak):Qt M=rO M:=by
 funext dh Q E D l g H K;unfold Qt rO yM;rw[ML];rfl
def KA(M:ak)(c:Ctx)(K:Kp)(X:Nat->WX):tU M (rO M) c K X=U M c K X:=by kernel_rfl
def Ra(M:ak)(c:Ctx)(K:Kp)(X:Nat->WX):tU M (Qt M) c K X=U M c K X:=by rw[MP];exact KA M c K X
abbrev Hs:=List (Nat×List Nat)
def VE(n:Nat)(l:Hs):Option (List Nat):=An (motive:=λ _=>Option (List Nat)) B5 (λ p _ ih=>cond (J2 p.1 n) (B1 p.2) ih) l
def ET(P:Kb):Nat->ME->Option aR
 |0,_=>B5
 |d+1,t=>match P.underlying t with
  |some (.struct fs)=>dE.fieldsT P (ET P d) fs.toList
  |some (.array n e)=>(bU P e).bind λ s=>(oe P e).bind λ a=>(ET P d e).bind λ q=>B1 (dE.itemsT s a q n 0)
  |_=>dE P 1 t
def TS(P:Kb)(t:ME)(neg:Bool)(x y:Mx):Option (List bL×fI):=(ET P 20 t).bind λ q=>(nM P.globals.size [x,y]).bind λ l=>B1 (l,.read (Op.eq (.agg q) neg))
def K6(P:Kb)(o:PI):Option (List bL×fI):=match o.op with
 | .binOp op t x y _=>match P.underlying t,op with
  |some (.struct _),.eql=>TS P t B2 x y
  |some (.struct _),.neq=>TS P t B4 x y
  |some (.array _ _),.eql=>TS P t B2 x y
  |some (.array _ _),.neq=>TS P t B4 x y
  |_,_=>gj P o
 |_=>gj P o
def Ru(P:Kb)(ops:Array PI)(draw:Bool)(h:Option (List Nat)):Option ai :=
 (du (ops.toList.map (K6 P))).bind λ l =>
  (du ((QT (motive:=λ _=>List (Bool×Nat)) ((N8 ops.size).map λ i=>(B2,i)) (λ l=>l.map λ x=>(J2 (x % 2) 1,x / 2)) h).map (jC ops l λ i=>Ox (motive:=λ _=>Option (List Nat)) (B1 []) (Nw ops (aV ops l) (mY (aV ops l).cls (aV ops l).gB ops.size (2*ops.size) 0 []) i) draw))).bind λ steps=>B1 (.region steps)
def jF(P:Kb)(hs:Hs):Nat->Code->Option (ai×List dL)
 |_,.skip=>B1 (.skip,[])
 |_,.region r ops draw=>(Ru P ops draw (Ox B5 (VE r hs) draw)).bind λ c=>B1 (c,[])
 |k,.seq a b=>(jF P hs k a).bind λ a=>(jF P hs (k+a.2.length) b).bind λ b=>B1 (.seq a.1 b.1,a.2++b.2)
 |k,.cond c a b=>(rJ P.globals.size c).bind λ c=>(jF P hs k a).bind λ a=>(jF P hs (k+a.2.length) b).bind λ b=>B1 (.cond c a.1 b.1,a.2++b.2)
 |k,.block id b=>(jF P hs k b).bind λ b=>B1 (.block id b.1,b.2)
 |k,.loop b=>(jF P hs k b).bind λ b=>B1 (.loop B5 b.1,b.2)
 |k,.rangeFunc f ps a b=>(rJ P.globals.size f).bind λ f=>(jF P hs (k+1) a).bind λ a=>(jF P hs (k+1+a.2.length) b).bind λ b=>B1 (.rangeFunc f k,{params:=ps.toList,assign:=a.1,body:=b.1}::(a.2++b.2))
 |_,.exit id=>B1 (.exit id,[])
 |k,.scope b=>(jF P hs k b).bind λ b=>B1 (.scope b.1,b.2)
 |_,.label l=>B1 (.label l,[])
 |_,.goto l=>B1 (.goto l,[])
 |_,.ret=>B1 (.ret,[])
 |_,.refuse _=>B1 (.stuck,[])
def EL(n:Nat)(b:ai)(l:List dL):ai:=Ox (motive:=λ _=>ai)
 (Ox (motive:=λ _=>ai) (Ox (motive:=λ _=>ai)
 (QT (motive:=λ _=>ai) .stuck (λ q=>Ox (motive:=λ _=>ai) q.body q.assign (J2 (n / 100000 % 2) 1)) (nth l (n / 100000 / 2-1))) (Af b) (J2 (n / 100000) 1)) (xH b) (J2 (n / 100000) 99)) b (Oc n 99999)
def aZ(P:Kb)(n:Nat):ai:=EL n (funcAt P (n % 100000)).body (funcAt P (n % 100000)).loops
def JI(P:Kb)(hs:Hs)(n:Nat):ai:=QT (motive:=λ _=>ai) .stuck (λ f=>QT (motive:=λ _=>ai) .stuck (λ b=>QT (motive:=λ _=>ai) .stuck (λ c=>EL n c.1 c.2) (jF P hs 0 b)) f.body) (P.funcs[n % 100000]?)
abbrev RL:=List (aD->Env->List aK->ar->PR)
abbrev QL:=List (aD->Env->List aK->ar->Prop)
def uO(M:ak)(c:Ctx)(p:Nat->Kp×ai):List Nat->QL->Prop
 |k::ks,R::l=>(∀Q E D H,W M c (p k) B4 Q E D H=R Q E D H)/\uO M c p ks l
 |_,_=>True
def Aw(M:ak)(c:Ctx)(p:Nat->Kp×ai)(k a:Nat)(ks:List Nat)(R:aD->Env->List aK->ar->Prop)(l:QL):uO M c p (k::a::ks) (R::l)=((∀Q E D H,W M c (p k) B4 Q E D H=R Q E D H)/\uO M c p (a::ks) l):=rfl
def Ax(M:ak)(c:Ctx)(p:Nat->Kp×ai)(k:Nat)(R:aD->Env->List aK->ar->Prop):uO M c p [k] [R] = ∀Q E D H,W M c (p k) B4 Q E D H=R Q E D H:=propext ⟨λ h=>h.1,λ h=>⟨h,trivial⟩⟩
def tW(M:ak)(c:Ctx)(K:Kp)(p:Nat->Kp×ai)(r:ai)(ks:List Nat):RL :=
 An (motive:=λ _=>RL) [] (λ k _ ih=>(λ Q E D H=>tU M (Qt M) c K (λ j=>rW M c (p j)) (part r k) k B4 Q E D H)::ih) ks
def P5{P:Kb}{p:Nat->Nat->Kp×ai}{a:Nat->Kp}(hp:∀n k,p n k=(a n,part (aZ P n) k))(M:ak)(c:Ctx)(n:Nat):∀ks:List Nat,uO M c (p n) ks (tW M c (a n) (p n) (aZ P n) ks)
 |[]=>trivial
 |k::ks=>⟨λ Q E D H=>by
  have e:(λ j=>W M c (p n j))=λ j=>W M c (a n,part (aZ P n) j):=funext λ j=>by rw[hp]
  show _=tU M (Qt M) c (a n) (λ j=>W M c (p n j)) (part (aZ P n) k) k B4 Q E D H;rw[hp n k,e,Ra];exact Ew rfl,P5 hp M c n ks⟩
def Dy(o:bF)(mk:Nat->AV)(H:ar)(K:Bool->AV->ar->Prop):IM B4 (B1 (o,mk)) H K=K B4 (mk H.au) (H.alloc o):=propext kq
def xkl(e:Nat)(z:List AV)(H:ar)(K:Bool->AV->ar->Prop):IM B4 (Op.alloc e z []) H K=K B4 (.ptr H.au 0) (H.alloc (.row z e (0,0) B4)):=propext kq
def GW(e:Nat)(v:AV)(H:ar)(K:Bool->AV->ar->Prop):IM B4 (Op.box e [v]) H K=K B4 (.ptr H.au 0) (H.alloc (.row v.cells e (0,0) B4)):=propext kq
@[congr]def ab5{m a:Bool}{o o':Option (bF×(Nat->AV))}{H H':ar}{K:Bool->AV->ar->Prop}(hm:m=a)(h:o=o')(b:H=H'):IM m o H K=IM a o' H' K:=by subst hm;subst h;subst b;rfl
abbrev uh:=List (Nat×Kp×Hs)
def jT(n:Nat)(l:uh):Kp:=An (motive:=λ _=>Kp) ⟨[],B2,[]⟩ (λ p _ ih=>cond (J2 p.1 n) p.2.1 ih) l
def Dv(M:ak)(c:Ctx)(p:Nat->Nat->Kp×ai):uh->List QL->Prop
 |x::r,l::ls=>uO M c (p x.1) x.2.1.named l/\Dv M c p r ls
 |_,_=>True
def Ap(M:ak)(c:Ctx)(p:Nat->Nat->Kp×ai)(n:Nat)(ks a:List Nat)(b:Bool)(hs:Hs)(y:Nat×Kp×Hs)(r:uh)(l:QL)(ls:List QL):Dv M c p ((n,⟨a,b,ks⟩,hs)::y::r) (l::ls)=(uO M c (p n) ks l/\Dv M c p (y::r) ls):=rfl
def Ae(M:ak)(c:Ctx)(p:Nat->Nat->Kp×ai)(n:Nat)(ks a:List Nat)(b:Bool)(hs:Hs)(l:QL):Dv M c p [(n,⟨a,b,ks⟩,hs)] [l]=uO M c (p n) ks l:=propext ⟨λ h=>h.1,λ h=>⟨h,trivial⟩⟩
def tF(M:ak)(c:Ctx)(Kt:Nat->Kp)(p:Nat->Nat->Kp×ai)(r:Nat->Hs->ai)(l:uh):List RL:=An (motive:=λ _=>List RL) [] (λ x _ ih=>tW M c (Kt x.1) (p x.1) (r x.1 x.2.2) x.2.1.named::ih) l
def pe{P:Kb}{p:Nat->Nat->Kp×ai}{a:Nat->Kp}(hp:∀n k,p n k=(a n,part (aZ P n) k))(M:ak)(c:Ctx)(l:uh)(e:tF M c a p (λ n _=>aZ P n) l=tF M c a p (λ n h=>JI P h n) l):Dv M c p l (tF M c a p (λ n h=>JI P h n) l):=by
 rw[<-e];clear e
 induction l with
 |nil=>trivial
 |cons x l ih=>exact⟨P5 hp M c x.1 _,ih⟩
def YH:ep->ep->Bool
 | .tmp a,.tmp b=>J2 a b
 | .kU a,.kU b=>J2 a b
 | .cS a b,.cS c d=>cond (J2 a c) (J2 b d) B2
 |_,_=>B2
def QP{a b:ep}(h:YH a b=B4):a=b:=by
 cases a with
 |tmp a=>cases b with
  |tmp b=>rw[Ln h]
  |_=>cases h
 |kU a=>cases b with
  |kU b=>rw[Ln h]
  |_=>cases h
 |cS a x=>cases b with
  |cS b y =>
   have h:cond (J2 a b) (J2 x y) B2=true:=h;cases q:J2 a b with
   |true=>rw[q]at h;rw[Ln q,Ln h]
   |false=>rw[q]at h;cases h
  |_=>cases h
def GI:List ep->List ep->Bool
 |[],[]=>B4
 |a::x,b::y=>cond (YH a b) (GI x y) B2
 |_,_=>B2
def BM:∀{a b:List ep},GI a b=B4->a=b
 |[],[],_=>rfl
 |a::x,b::y,h=>by
  unfold GI at h;cases q:YH a b with
  |true=>rw[q]at h;rw[QP q,BM h]
  |false=>rw[q]at h;cases h
def VQ(P:Kb)(tn:List Nat)(K:Kp)(n:Nat)(rs:List ep)(k:Nat):Bool:=cond (Oc n 99999) (cond (bH n tn) B2 (cond (jP 0 k K.ah) (QT (motive:=λ _=>Bool) B2 (λ F=>GI F.results rs) ((aX P).func n)) B2)) B2
def Q8{P:Kb}{c:List Nat}{K:Kp}{n:Nat}{rs:List ep}{k:Nat}(h:VQ P c K n rs k=B4):Oc n 99999=B4/\bH n c=B2/\jP 0 k K.ah=B4/\(aX P).func n=B1 (funcAt P n)/\(funcAt P n).results=rs:=by
 unfold VQ at h;cases a:Oc n 99999 with
 |false=>rw[a]at h;cases h
 |true =>
 cases b:bH n c with
 |true=>rw[a,b]at h;cases h
 |false =>
 cases d:jP 0 k K.ah with
 |false=>rw[a,b,d]at h;cases h
 |true =>
 rw[a,b,d]at h;unfold funcAt;cases f:(aX P).func n with
 |none=>rw[f]at h;cases h
 |some F=>rw[f]at h;exact⟨rfl,rfl,rfl,rfl,BM h⟩
def DH{P:Kb}{n:Nat}(h:Oc n 99999=B4):aZ P n=(funcAt P n).body:=by
 unfold aZ EL;rw[h,Nat.mod_eq_of_lt (Nat.lt_of_le_of_lt (Nat.le_of_ble_eq_true h) (by decide))]
def MM(i:Nat)(v:AV)(vs:List AV):kK i (v::vs)=(i,v)::kK (i+1) vs:=rfl
def KB(i:Nat):kK i []=[]:=rfl
def aa:type_of% Qo/\(∀(o:bF)mk H K,IM B4 (B1 (o,mk)) H K=K B4 (mk H.au) (H.alloc o))/\(∀e z H K,IM B4 (Op.alloc e z []) H K=K B4 (.ptr H.au 0) (H.alloc (.row z e (0,0) B4)))/\(∀e v H K,IM B4 (Op.box e [v]) H K=K B4 (.ptr H.au 0) (H.alloc (.row v.cells e (0,0) B4)))/\(∀i v vs,kK i (v::vs)=(i,v)::kK (i+1) vs)/\(∀i,kK i []=[])/\(∀{α:Type}(F:α->Prop)(K:α),JN F K=F K):=⟨Qo,Dy,xkl,GW,MM,KB,Jy⟩
def QC{M:ak}{P:Kb}{p:Nat->Nat->Kp×ai}{a:Nat->Kp}(hp:∀n k,p n k=(a n,part (aZ P n) k)){n:Nat}{F:bZ}(d:M.func n=B1 F){rs:List ep}(hr:F.results=rs){x y t:Nat}(c:sC F.body=B1 (Af F.body,t,xH F.body))(e:aZ P x=Af F.body)(f:aZ P y=xH F.body)(hk:(a x).ah=(a y).ah){vs:List AV}(b:jP 0 vs.length (a x).ah=B4){H:ar}{Q:bI->ar->Prop}
 (h:W M ⟨B5,n⟩ (p x 0) B4 (Bz M ⟨B5,n⟩ (p y 0) t (eG M rs Q)) (kK 0 vs) [] H):FZ M n vs H Q:=by
 rw[hp,hp,e,f,<-hr]at h;exact I7 d hk c b h
def IP{M:ak}{P:Kb}{p:Nat->Nat->Kp×ai}{a:Nat->Kp}(hp:∀n k,p n k=(a n,part (aZ P n) k)){n:Nat}{F:bZ}(c:M.func n=B1 F){rs:List ep}(hr:F.results=rs)(d:aZ P n=F.body){vs:List AV}(b:jP 0 vs.length (a n).ah=B4){up:Option aG}{H:ar}{Q:bI->ar->Prop}
 (h:W M ⟨B5,n⟩ (p n 0) B4 (eG M rs Q) (kK 0 vs) [] H):∃e H',jK M n vs up H e up H'/\Q e H':=by
 rw[hp,d,<-hr]at h;exact GX c b h
abbrev Ny:Nat:=185
abbrev Wr:Nat:=111
abbrev Ok:Nat:=153
abbrev Xz:Nat:=109
abbrev NP:Nat:=152
abbrev Zp:Nat:=89
abbrev Xa:Nat:=277
abbrev Wu:Nat:=114
abbrev XT:Nat:=276
abbrev UT:Nat:=275
abbrev Od:Nat:=118
abbrev Φ:Nat:=184
abbrev LI:Nat:=207
abbrev WG:Nat:=150
abbrev N2:Nat:=182
abbrev qs8:Nat:=154
abbrev LM:Nat:=186
abbrev sB:Nat:=183
abbrev YQ:Nat:=67
abbrev q9m:Nat:=18
abbrev xk:Nat:=147
abbrev ja:Nat:=61
abbrev cE:Nat:=3
abbrev XO:Nat:=206
abbrev yi:Nat:=235
abbrev DM:Nat:=164
open Go.Proofs Go.Proofs.YtgjdmncoonceaaaGreatDoor
class MK (M:ak):Prop where
 ok:∀n,bH n [18]=B2->M.func n=(aX Tryz.prog).func n
 mt:∀t s,M.kN t s=(aX Tryz.prog).kN t s
def MK.at{M:ak}[h:MK M]{n:Nat}{F:bZ}(hn:bH n [18]=B2)(a:(aX Tryz.prog).func n=B1 F):M.func n=B1 F:=(h.ok n hn).trans a
def Dx{M:ak}[h:MK M]{n:Nat}{F:bZ}(hn:bH n [18]=B2){rs:List ep}(a:(aX Tryz.prog).func n=B1 F/\F.results=rs){ks:Kp}{vs:List AV}(hk:jP 0 vs.length ks.ah=B4){H:ar}{Q:bI->ar->Prop}(hw:W M ⟨B5,n⟩ (ks,part F.body 0) B4 (eG M rs Q) (kK 0 vs) [] H):FZ M n vs H Q:=R9 (MK.at hn a.1) hk (a.2▸hw)
def lE{M:ak}[MK M]{p:Nat->Nat->Kp×ai}{a:Nat->Kp}(hp:∀n k,p n k=(a n,part (aZ Tryz.prog n) k))(n:Nat)(rs:List ep)(vs:List AV)(b:VQ Tryz.prog [18] (a n) n rs vs.length=B4)(H:ar)(Q:bI->ar->Prop)(h:W M ⟨B5,n⟩ (p n 0) B4 (eG M rs Q) (kK 0 vs) [] H):FZ M n vs H Q:=by
 obtain⟨b,c,d,e⟩:=Q8 b;exact Dx c e (ks:=a n) d (by rw[hp,DH b]at h;exact h)
variable{M:ak}[MK M]{H:ar}{Q:bI->ar->Prop}{a0 a1 a2 a3:AV}
abbrev ZX:uh:=[(67,⟨[0,1,4,5],B2,[0,2,10]⟩,[]),(185,⟨[0,2,3,7,8],B2,[0,2,10,15]⟩,[]),(300185,⟨[0,2,3,7,8],B2,[0]⟩,[]),(200185,⟨[0,2,3,7,8],B2,[0]⟩,[]),(153,⟨[0,2,3,7,8],B2,[0,2,10,15]⟩,[]),(300153,⟨[0,2,3,7,8],B2,[0]⟩,[]),(200153,⟨[0,2,3,7,8],B2,[0]⟩,[]),(277,⟨[0,1,2,6,7,8,9,10],B2,[0,2,18,8,20,14,26]⟩,[]),(276,⟨[0,1,2,6,7,8],B2,[0,2,10,12,20]⟩,[]),(89,⟨[0,1,4,5,6,21],B2,[0,4,12]⟩,[]),(275,⟨[0,1,4,5,6,7],B2,[0,2,10,12,20]⟩,[]),(109,⟨[0,1,4,5,6,7,8,21],B2,[0,4,12]⟩,[]),(111,⟨[0,1,4,5,6,7,8],B2,[0,4,12]⟩,[]),(114,⟨[0,1,2,5,6,7,8],B2,[0,4,10]⟩,[(3,[0,2,4,6,8,10,5,12,14,16])]),(152,⟨[0,1,2,3,7,8,9,10,11,12,21],B2,[0,2,23,16,25,33]⟩,[(13,[0,2,4,6,8,5,10,12])]),(184,⟨[0,1,2],B2,[0]⟩,[]),(150,⟨[0,1,2,6,7,8],B2,[0,2,10,12,20]⟩,[]),(183,⟨[0,1],B2,[0]⟩,[]),(118,⟨[0,1,3,4,5,8,9],B2,[0,2,7]⟩,[]),(300118,⟨[0,1,3,4,5,8,9],B2,[0]⟩,[]),(200118,⟨[0,1,3,4,5,8,9],B2,[0]⟩,[]),(182,⟨[0,1,4,5,6,9,10],B2,[0,2,3,5,7,12]⟩,[]),(300182,⟨[0,1,4,5,6,9,10],B2,[0]⟩,[]),(200182,⟨[0,1,4,5,6,9,10],B2,[0,9,15]⟩,[]),(207,⟨[0,1,3,10,11],B2,[0,1,7,9,13,19,34,23,29]⟩,[]),(154,⟨[0,1,2,3,4],B2,[0]⟩,[]),(186,⟨[0,1,2,4,5,26,27],B2,[0,6,12,18,27]⟩,[])]
def ZN(n:Nat):Kp:=jT n ZX
def Bc(n k:Nat):Kp×ai:=(ZN n,part (aZ Tryz.prog n) k)
def q26(n k:Nat):Bc n k=(ZN n,part (aZ Tryz.prog n) k):=rfl
def tg:=@lE M _ Bc ZN q26
attribute [local irreducible] PR Bc nS gI fU gJ iN gE pj zT pV wD xC yY fY mK oK rW qP su oI se oq eY kH cT AV.undef Op.move Op.pick Op.build Op.nilCheck Op.bin Op.eq Op.un Op.wrap Op.dO Op.eQ Op.dF Op.bt Op.dQ Op.aA Op.cP Op.fieldAddr Op.field Op.aQ Op.aU Op.bG Op.bO Op.typeAssert Op.extract Op.fA Op.ct Op.oR Op.cap Op.eV Op.dk Op.dM Op.aE Op.bS Op.ae Op.aq Op.cG Op.lookup Op.gH Op.eL Op.alloc Op.box Op.buildSlice Op.mkMap Op.mkSlice Op.cH Op.dS Op.makeNoZero Op.store Op.mapUpdate Op.dm Op.eT Op.append Op.copy Op.bQ Op.bT Op.eS Op.dP
def jv(M:ak)(c:Ctx):=by
 have h:=pe q26 M c ZX (by kernel_rfl)
 conv at h=>arg 5;reduce
 delta PR RL oq gE nS gI pj iN mK fU gJ fY oK qP su oI pV rW rZ ZX at h
 simp only[Ap,Ae,Aw,Ax,Sp,Q2]at h;exact h
def bf(M:ak)(c:Ctx):=(jv M c).2.2.2.2.2.2.2.2
def bn(M:ak)(c:Ctx):=(bf M c).2.2.2.2.2.2.2.2
def bo(M:ak)(c:Ctx):=(bn M c).2.2.2.2.2.2.2.2
def D8(M:ak)(c:Ctx):=(jv M c).1
def ae5:=@tg M _ YQ [.tmp 4,.tmp 5] [a0,a1] (by kernel_rfl) H Q
def TU:bZ:=funcAt Tryz.prog Ny
def Pm:dL:=ib TU 0
abbrev Yb(k:Nat):Kp×ai:=Bc 300185 k
abbrev YA(k:Nat):Kp×ai:=Bc 200185 k
def _N:nth TU.loops 0=B1 Pm/\Pm.params=[8]:=⟨by kernel_rfl,by kernel_rfl⟩
def que:(Yb 0).1.ah=[0,2,3,7,8]/\(Yb 0).2=Pm.assign:=⟨by kernel_rfl,by kernel_rfl⟩
def quf:(YA 0).1.ah=[0,2,3,7,8]/\(YA 0).2=Pm.body:=⟨by kernel_rfl,by kernel_rfl⟩
def qv8:M.func Ny=B1 TU:=MK.at (by decide) (by kernel_rfl)
def qn3(M:ak)(c:Ctx):=IK (jv M c).2.1.1 (IK (jv M c).2.2.1 (IK (jv M c).2.2.2.1 (IK (jv M c).2.1.2.1 (IK (jv M c).2.1.2.2.1 ((jv M c).2.1.2.2.2)))))
def qxz:=@tg M _ Ny [.tmp 2] [a0] (by kernel_rfl) H Q
def UJ:bZ:=funcAt Tryz.prog Ok
def OI:dL:=ib UJ 0
abbrev Yq(k:Nat):Kp×ai:=Bc 300153 k
abbrev VJ(k:Nat):Kp×ai:=Bc 200153 k
def _h:nth UJ.loops 0=B1 OI/\OI.params=[8]:=⟨by kernel_rfl,by kernel_rfl⟩
def qst:(Yq 0).1.ah=[0,2,3,7,8]/\(Yq 0).2=OI.assign:=⟨by kernel_rfl,by kernel_rfl⟩
def qsu:(VJ 0).1.ah=[0,2,3,7,8]/\(VJ 0).2=OI.body:=⟨by kernel_rfl,by kernel_rfl⟩
def qug:M.func Ok=B1 UJ:=MK.at (by decide) (by kernel_rfl)
def qmp(M:ak)(c:Ctx):=IK (jv M c).2.2.2.2.1.1 (IK (jv M c).2.2.2.2.2.1 (IK (jv M c).2.2.2.2.2.2.1 (IK (jv M c).2.2.2.2.1.2.1 (IK (jv M c).2.2.2.2.1.2.2.1 ((jv M c).2.2.2.2.1.2.2.2)))))
def qv9:=@tg M _ Ok [.tmp 2] [a0] (by kernel_rfl) H Q
def q49(M:ak)(c:Ctx):=(jv M c).2.2.2.2.2.2.2.1
def q48:=@tg M _ Xa [.tmp 6] [a0,a1,a2] (by kernel_rfl) H Q
def q7o(M:ak)(c:Ctx):=(bf M c).1
def q7n:=@tg M _ XT [.tmp 6] [a0,a1,a2] (by kernel_rfl) H Q
def q47(M:ak)(c:Ctx):=(bf M c).2.1
def q46:=@tg M _ Zp [.cS 21 4,.tmp 5] [a0,a1] (by kernel_rfl) H Q
def q5b(M:ak)(c:Ctx):=(bf M c).2.2.1
def q5a:=@tg M _ UT [.tmp 4,.tmp 5] [a0,a1] (by kernel_rfl) H Q
def q43(M:ak)(c:Ctx):=(bf M c).2.2.2.1
def q42:=@tg M _ Xz [.cS 21 4,.tmp 5] [a0,a1] (by kernel_rfl) H Q
def qx1(M:ak)(c:Ctx):=(bf M c).2.2.2.2.1
def qx0:=@tg M _ Wr [.cS 8 4,.tmp 5] [a0,a1] (by kernel_rfl) H Q
def qwb(M:ak)(c:Ctx):=(bf M c).2.2.2.2.2.1
def qwa:=@tg M _ Wu [.tmp 6] [a0,a1,a2] (by kernel_rfl) H Q
abbrev q_(k:Nat):Kp×ai:=Bc NP k
def q45(M:ak)(c:Ctx):=(bf M c).2.2.2.2.2.2.1
def q44:=@tg M _ NP [.cS 21 8,.tmp 9,.tmp 10] [a0,a1,a2,a3] (by kernel_rfl) H Q
def q5f(M:ak)(c:Ctx):=(bf M c).2.2.2.2.2.2.2.1
def q5e:=@tg M _ Φ [.tmp 2] [a0] (by kernel_rfl) H Q
def xal(M:ak)(c:Ctx):=(bn M c).1
def xak:=@tg M _ WG [.tmp 6,.tmp 7] [a0,a1,a2] (by kernel_rfl) H Q
def q7t(M:ak)(c:Ctx):=(bn M c).2.1
def q7s:=@tg M _ sB [] [a0,a1] (by kernel_rfl) H Q
def Uq:bZ:=funcAt Tryz.prog Od
def Qx:dL:=ib Uq 0
abbrev V0(k:Nat):Kp×ai:=Bc 300118 k
abbrev Z6(k:Nat):Kp×ai:=Bc 200118 k
def qrl:nth Uq.loops 0=B1 Qx/\Qx.params=[9]:=⟨by kernel_rfl,by kernel_rfl⟩
def q5c:(V0 0).1.ah=[0,1,3,4,5,8,9]/\(V0 0).2=Qx.assign:=⟨by kernel_rfl,by kernel_rfl⟩
def q5d:(Z6 0).1.ah=[0,1,3,4,5,8,9]/\(Z6 0).2=Qx.body:=⟨by kernel_rfl,by kernel_rfl⟩
def q7p:M.func Od=B1 Uq:=MK.at (by decide) (by kernel_rfl)
def A0(M:ak)(c:Ctx):=IK (bn M c).2.2.1.1 (IK (bn M c).2.2.2.1 (IK (bn M c).2.2.2.2.1 (IK (bn M c).2.2.1.2.1 ((bn M c).2.2.1.2.2))))
def xaj:=@tg M _ Od [.kU 4] [a0,a1] (by kernel_rfl) H Q
def Sm:bZ:=funcAt Tryz.prog N2
def Ps:dL:=ib Sm 0
abbrev U0(k:Nat):Kp×ai:=Bc 300182 k
abbrev UU(k:Nat):Kp×ai:=Bc 200182 k
def υ:nth Sm.loops 0=B1 Ps/\Ps.params=[10]:=⟨by kernel_rfl,by kernel_rfl⟩
def qx4:(U0 0).1.ah=[0,1,4,5,6,9,10]/\(U0 0).2=Ps.assign:=⟨by kernel_rfl,by kernel_rfl⟩
def qx5:(UU 0).1.ah=[0,1,4,5,6,9,10]/\(UU 0).2=Ps.body:=⟨by kernel_rfl,by kernel_rfl⟩
def q0k:M.func N2=B1 Sm:=MK.at (by decide) (by kernel_rfl)
def B_(M:ak)(c:Ctx):=IK (bn M c).2.2.2.2.2.1.1 (IK (bn M c).2.2.2.2.2.2.1 (IK (bn M c).2.2.2.2.2.2.2.1.1 (IK (bn M c).2.2.2.2.2.1.2.1 (IK (bn M c).2.2.2.2.2.2.2.1.2.1 (IK (bn M c).2.2.2.2.2.1.2.2.1 (IK (bn M c).2.2.2.2.2.2.2.1.2.2 (IK (bn M c).2.2.2.2.2.1.2.2.2.1 (IK (bn M c).2.2.2.2.2.1.2.2.2.2.1 ((bn M c).2.2.2.2.2.1.2.2.2.2.2)))))))))
def q5g:=@tg M _ N2 [.kU 4] [a0,a1] (by kernel_rfl) H Q
def qx3(M:ak)(c:Ctx):=(bo M c).1
def qx2:=@tg M _ LI [] [a0,a1] (by kernel_rfl) H Q
def q7r(M:ak)(c:Ctx):=(bo M c).2.1
def q7q:=@tg M _ qs8 [.tmp 4] [a0,a1] (by kernel_rfl) H Q
def q0m(M:ak)(c:Ctx):=(bo M c).2.2
def q0l:=@tg M _ LM [] [a0,a1,a2] (by kernel_rfl) H Q
abbrev ZQ:Nat:=52
abbrev Zw:Nat:=87
abbrev W8:Nat:=265
abbrev X1:Nat:=266
abbrev qph:Nat:=267
abbrev Va:Nat:=268
abbrev Ql:Nat:=84
abbrev vc:Nat:=81
abbrev Vi:Nat:=113
abbrev η:Nat:=269
abbrev Pt:Nat:=270
abbrev Rx:Nat:=271
abbrev qnf:Nat:=116
abbrev Xu:Nat:=274
abbrev Ou:Nat:=115
abbrev UZ:Nat:=117
abbrev qpj:Nat:=108
abbrev Wq:Nat:=272
abbrev We:Nat:=107
abbrev _5:Nat:=110
abbrev qng:Nat:=273
abbrev qjc:Nat:=149
abbrev Ym:Nat:=112
abbrev ZP:Nat:=151
abbrev Vr:Nat:=181
abbrev xq:Nat:=63
abbrev A8:Nat:=23
abbrev Pa:Nat:=169
abbrev WB:uh:=[(52,⟨[0,1,3,4,5,6,7],B2,[0,4,12]⟩,[]),(269,⟨[0,2],B2,[0]⟩,[]),(270,⟨[0,1,4,5,6,7,8,9,11],B2,[0,2,12,14,24,30]⟩,[]),(271,⟨[0,1,2,6,7,8,9,10],B2,[0,2,12,14,22,28]⟩,[]),(266,⟨[0,1,2,3,8,9,10,11,12,13,14],B2,[0,2,12,20,22,30,32,38]⟩,[]),(265,⟨[0,2],B2,[0,2,17]⟩,[]),(268,⟨[0,2],B2,[0,2,17]⟩,[]),(87,⟨[0,1,4],B2,[0,2,23,16]⟩,[]),(81,⟨[0,1,3,4,5,6,7,8,9,51,69],B2,[0,2,10,12,20,73,34,75,40,85,41,49,53,61]⟩,[]),(84,⟨[0,1,4,5,6,7],B2,[0,2,17,19,27,33]⟩,[]),(267,⟨[0,2],B2,[0,2,10]⟩,[]),(272,⟨[0,1,4],B2,[0,2,17]⟩,[]),(274,⟨[0,1,2,6],B2,[0,2,10]⟩,[]),(273,⟨[0,1,4,5,6],B2,[0]⟩,[]),(116,⟨[0,1],B2,[0]⟩,[]),(107,⟨[0,1,2,4,5,6,8,14],B2,[0,2,41,12,18,28]⟩,[(8,[0,2,4,6,8,10,12,14,7,16,18]),(10,[0,2,4,6,8,10,12,14,7,16,18])]),(108,⟨[0,1,2,4],B2,[0]⟩,[]),(110,⟨[0,1,2,6,11],B2,[0]⟩,[]),(112,⟨[0,1,4,5,6,7],B2,[0,4,12,35,17,23,34]⟩,[]),(113,⟨[0,1,3],B2,[0]⟩,[]),(115,⟨[0,1,3,4,5,6,7,8],B2,[0,4,10,12,20,28]⟩,[]),(117,⟨[0,1,3,4,5],B2,[0,2,10]⟩,[]),(149,⟨[0,1,4],B2,[0]⟩,[]),(151,⟨[0,1,4,5,7,8],B2,[0,2,25,7,13,24]⟩,[]),(181,⟨[0,1,4,5,7,8],B2,[0,2,25,7,13,24]⟩,[])]
def XC(n:Nat):Kp:=jT n WB
def Kh(n k:Nat):Kp×ai:=(XC n,part (aZ Tryz.prog n) k)
def q3a(n k:Nat):Kh n k=(XC n,part (aZ Tryz.prog n) k):=rfl
def vp:=@lE M _ Kh XC q3a
attribute [local irreducible] Kh
def vn(M:ak)(c:Ctx):=by
 have h:=pe q3a M c WB (by kernel_rfl)
 conv at h=>arg 5;reduce
 delta PR RL oq gE nS gI pj iN mK fU gJ fY oK qP oI pV rW rZ WB at h
 simp only[Ap,Ae,Aw,Ax,Sp,Q2]at h;exact h
def bB(M:ak)(c:Ctx):=(vn M c).2.2.2.2.2.2.2.2
def cb(M:ak)(c:Ctx):=(bB M c).2.2.2.2.2.2.2.2
def ck(M:ak)(c:Ctx):=(cb M c).2.2.2.2.2.2.2.2
def xjx(M:ak)(c:Ctx):=(vn M c).1
def xjw:=@vp M _ ZQ [.tmp 4,.tmp 5] [a0,a1] (by kernel_rfl) H Q
def q01(M:ak)(c:Ctx):=(vn M c).2.1
def q00:=@vp M _ η [.tmp 2] [a0] (by kernel_rfl) H Q
abbrev q02(k:Nat):Kp×ai:=Kh Pt k
def q04(M:ak)(c:Ctx):=(vn M c).2.2.1
def q03:=@vp M _ Pt [.tmp 4,.tmp 5,.tmp 6,.tmp 7] [a0,a1] (by kernel_rfl) H Q
abbrev qyb(k:Nat):Kp×ai:=Kh Rx k
def qyd(M:ak)(c:Ctx):=(vn M c).2.2.2.1
def qyc:=@vp M _ Rx [.tmp 6,.tmp 7,.tmp 8] [a0,a1,a2] (by kernel_rfl) H Q
def q50(M:ak)(c:Ctx):=(vn M c).2.2.2.2.1
def q5z:=@vp M _ X1 [.tmp 8,.tmp 9,.tmp 10,.tmp 11] [a0,a1,a2,a3] (by kernel_rfl) H Q
def qya(M:ak)(c:Ctx):=(vn M c).2.2.2.2.2.1
def qx9:=@vp M _ W8 [.tmp 2] [a0] (by kernel_rfl) H Q
def qwg(M:ak)(c:Ctx):=(vn M c).2.2.2.2.2.2.1
def qwf:=@vp M _ Va [.tmp 2] [a0] (by kernel_rfl) H Q
def qx8(M:ak)(c:Ctx):=(vn M c).2.2.2.2.2.2.2.1
def qx7:=@vp M _ Zw [.tmp 4] [a0,a1] (by kernel_rfl) H Q
abbrev NA(k:Nat):Kp×ai:=Kh vc k
def q0z(M:ak)(c:Ctx):=(bB M c).1
def q0y:=@vp M _ vc [.tmp 4,.tmp 5] [a0,a1] (by kernel_rfl) H Q
abbrev q0t(k:Nat):Kp×ai:=Kh Ql k
def q0v(M:ak)(c:Ctx):=(bB M c).2.1
def q0u:=@vp M _ Ql [.tmp 4,.tmp 5] [a0,a1] (by kernel_rfl) H Q
def q0s(M:ak)(c:Ctx):=(bB M c).2.2.1
def q0r:=@vp M _ qph [.tmp 2] [a0] (by kernel_rfl) H Q
def q54(M:ak)(c:Ctx):=(bB M c).2.2.2.1
def q53:=@vp M _ Wq [.tmp 4] [a0,a1] (by kernel_rfl) H Q
def q52(M:ak)(c:Ctx):=(bB M c).2.2.2.2.1
def q51:=@vp M _ Xu [.tmp 6] [a0,a1,a2] (by kernel_rfl) H Q
def qyh(M:ak)(c:Ctx):=(bB M c).2.2.2.2.2.1
def qyg:=@vp M _ qng [.tmp 4] [a0,a1] (by kernel_rfl) H Q
def qyf(M:ak)(c:Ctx):=(bB M c).2.2.2.2.2.2.1
def qye:=@vp M _ qnf [] [a0,a1] (by kernel_rfl) H Q
def qum(M:ak)(c:Ctx):=(bB M c).2.2.2.2.2.2.2.1
def qul:=@vp M _ We [.tmp 6] [a0,a1,a2] (by kernel_rfl) H Q
def N1(M:ak)(c:Ctx):=(cb M c).1
def q09:=@vp M _ qpj [] [a0,a1,a2] (by kernel_rfl) H Q
def q56(M:ak)(c:Ctx):=(cb M c).2.1
def q55:=@vp M _ _5 [.cS 11 6] [a0,a1,a2] (by kernel_rfl) H Q
def qo0(M:ak)(c:Ctx):=(cb M c).2.2.1
def qoz:=@vp M _ Ym [.tmp 4] [a0,a1] (by kernel_rfl) H Q
def qmq(M:ak)(c:Ctx):=(cb M c).2.2.2.1
def qwh:=@vp M _ Vi [.tmp 3] [a0,a1] (by kernel_rfl) H Q
abbrev qpz(k:Nat):Kp×ai:=Kh Ou k
def q06(M:ak)(c:Ctx):=(cb M c).2.2.2.2.1
def q05:=@vp M _ Ou [.tmp 4] [a0,a1] (by kernel_rfl) H Q
def q08(M:ak)(c:Ctx):=(cb M c).2.2.2.2.2.1
def q07:=@vp M _ UZ [.tmp 4] [a0,a1] (by kernel_rfl) H Q
def qr2(M:ak)(c:Ctx):=(cb M c).2.2.2.2.2.2.1
def qr1:=@vp M _ qjc [.tmp 4] [a0,a1] (by kernel_rfl) H Q
def qqe(M:ak)(c:Ctx):=(cb M c).2.2.2.2.2.2.2.1
def qqd:=@vp M _ ZP [.tmp 4] [a0,a1] (by kernel_rfl) H Q
def qwp(M:ak)(c:Ctx):=(ck M c)
def qwo:=@vp M _ Vr [.tmp 4] [a0,a1] (by kernel_rfl) H Q
abbrev FA:Nat:=80
abbrev FX:Nat:=53
abbrev ZR:Nat:=103
abbrev NC:Nat:=105
abbrev S7:Nat:=106
abbrev Vo:Nat:=51
abbrev m0:Nat:=148
abbrev LF:Nat:=180
abbrev I9:Nat:=104
abbrev TN:Nat:=146
abbrev U4:Nat:=72
abbrev VT:Nat:=68
abbrev hK:Nat:=88
abbrev YF:Nat:=66
abbrev qeq:Nat:=147
abbrev XA:Nat:=179
abbrev sH:Nat:=113
abbrev xb6:Nat:=159
abbrev Xe:Nat:=160
abbrev RF:Nat:=163
abbrev V2:Nat:=203
abbrev Wd:uh:=[(51,⟨[0,1,4,5,6,7,8,9,35,36],B2,[0,4,12,14,31,19,25,30]⟩,[]),(80,⟨[0,1,3,4,5,6,7,8,9,37,38],B2,[0,2,10,12,20,28,32,113,42,119,45,61,66,55,71,86,73,99,79]⟩,[]),(53,⟨[0,1,2,5,6],B2,[0,2,10]⟩,[]),(66,⟨[0,2,3],B2,[0,2,10]⟩,[]),(68,⟨[0,1,2,5,6,7,8],B2,[0,4,10]⟩,[]),(103,⟨[0,1,4],B2,[0,2,10]⟩,[]),(104,⟨[0,1,3,4,5,6,9,10],B2,[0,4,51,14,17,26,38]⟩,[]),(105,⟨[0,1,2,5,6,7,8,9,74,75],B2,[0,4,22,10,24,12,32,18,36,41]⟩,[]),(300105,⟨[0,1,2,5,6,7,8,9,74,75],B2,[0]⟩,[]),(200105,⟨[0,1,2,5,6,7,8,9,74,75],B2,[0]⟩,[]),(106,⟨[0,1,4,5,7,11],B2,[0,4,8,18]⟩,[]),(88,⟨[0,1,4,5],B2,[0,2,17]⟩,[]),(146,⟨[0,1,2,3],B2,[0]⟩,[]),(147,⟨[0,1,4],B2,[0]⟩,[]),(148,⟨[0,1,2],B2,[0]⟩,[]),(72,⟨[0,1,4,5,6,7,8],B2,[0,4,12]⟩,[]),(179,⟨[0,1,4,5,7,8],B2,[0,2,25,7,13,24]⟩,[]),(180,⟨[0,1,3,4],B2,[0,4,10,19]⟩,[])]
def Vv(n:Nat):Kp:=jT n Wd
def Ms(n k:Nat):Kp×ai:=(Vv n,part (aZ Tryz.prog n) k)
def f_(n k:Nat):Ms n k=(Vv n,part (aZ Tryz.prog n) k):=rfl
def vL:=@lE M _ Ms Vv f_
attribute [local irreducible] Ms
def ve(M:ak)(c:Ctx):=by
 have h:=pe f_ M c Wd (by kernel_rfl)
 conv at h=>arg 5;reduce
 delta PR RL oq gE nS gI pj mK fU gJ fY oK qP su oI pV rW rZ Wd at h
 simp only[Ap,Ae,Aw,Ax,Sp,Q2]at h;exact h
def cn(M:ak)(c:Ctx):=(ve M c).2.2.2.2.2.2.2.2
def cr(M:ak)(c:Ctx):=(cn M c).2.2.2.2.2.2.2.2
def xlx(M:ak)(c:Ctx):=(ve M c).1
def xlw:=@vL M _ Vo [.tmp 4,.tmp 5] [a0,a1] (by kernel_rfl) H Q
abbrev Zl(k:Nat):Kp×ai:=Ms FA k
def qtp(M:ak)(c:Ctx):=(ve M c).2.1
def q7h:=@vL M _ FA [.tmp 4,.tmp 5] [a0,a1] (by kernel_rfl) H Q
def q94(M:ak)(c:Ctx):=(ve M c).2.2.1
def q93:=@vL M _ FX [.tmp 6] [a0,a1,a2] (by kernel_rfl) H Q
def xm3(M:ak)(c:Ctx):=(ve M c).2.2.2.1
def xm2:=@vL M _ YF [.tmp 2,.tmp 3] [a0] (by kernel_rfl) H Q
def xay(M:ak)(c:Ctx):=(ve M c).2.2.2.2.1
def xax:=@vL M _ VT [.tmp 6] [a0,a1,a2] (by kernel_rfl) H Q
def xck(M:ak)(c:Ctx):=(ve M c).2.2.2.2.2.1
def xcj:=@vL M _ ZR [.tmp 4] [a0,a1] (by kernel_rfl) H Q
abbrev TF(k:Nat):Kp×ai:=Ms I9 k
def q4n(M:ak)(c:Ctx):=(ve M c).2.2.2.2.2.2.1
def q4m:=@vL M _ I9 [.tmp 4] [a0,a1] (by kernel_rfl) H Q
def Ts:bZ:=funcAt Tryz.prog NC
def Pg:dL:=ib Ts 0
abbrev YR(k:Nat):Kp×ai:=Ms 300105 k
abbrev Z0(k:Nat):Kp×ai:=Ms 200105 k
def _U:nth Ts.loops 0=B1 Pg/\Pg.params=[75]:=⟨by kernel_rfl,by kernel_rfl⟩
def qxu:(YR 0).1.ah=[0,1,2,5,6,7,8,9,74,75]/\(YR 0).2=Pg.assign:=⟨by kernel_rfl,by kernel_rfl⟩
def qxv:(Z0 0).1.ah=[0,1,2,5,6,7,8,9,74,75]/\(Z0 0).2=Pg.body:=⟨by kernel_rfl,by kernel_rfl⟩
def q0h:M.func NC=B1 Ts:=MK.at (by decide) (by kernel_rfl)
def R2(M:ak)(c:Ctx):=IK (ve M c).2.2.2.2.2.2.2.1.1 (IK (cn M c).1 (IK (cn M c).2.1 (IK (ve M c).2.2.2.2.2.2.2.1.2.1 (IK (ve M c).2.2.2.2.2.2.2.1.2.2.1 (IK (ve M c).2.2.2.2.2.2.2.1.2.2.2.1 (IK (ve M c).2.2.2.2.2.2.2.1.2.2.2.2.1 (IK (ve M c).2.2.2.2.2.2.2.1.2.2.2.2.2.1 (IK (ve M c).2.2.2.2.2.2.2.1.2.2.2.2.2.2.1 (IK (ve M c).2.2.2.2.2.2.2.1.2.2.2.2.2.2.2.1 (IK (ve M c).2.2.2.2.2.2.2.1.2.2.2.2.2.2.2.2.1 ((ve M c).2.2.2.2.2.2.2.1.2.2.2.2.2.2.2.2.2)))))))))))
def q4j:=@vL M _ NC [.tmp 6] [a0,a1,a2] (by kernel_rfl) H Q
def q4l(M:ak)(c:Ctx):=(cn M c).2.2.1
def q4k:=@vL M _ S7 [.cS 11 4] [a0,a1] (by kernel_rfl) H Q
def xdi(M:ak)(c:Ctx):=(cn M c).2.2.2.1
def xdh:=@vL M _ hK [.tmp 4,.tmp 5] [a0,a1] (by kernel_rfl) H Q
def j'(M:ak)(c:Ctx):=(cn M c).2.2.2.2.1
def qxw:=@vL M _ TN [.tmp 3] [a0,a1] (by kernel_rfl) H Q
def qj7(M:ak)(c:Ctx):=(cn M c).2.2.2.2.2.1
def qj6:=@vL M _ qeq [.tmp 4] [a0,a1] (by kernel_rfl) H Q
def q0j(M:ak)(c:Ctx):=(cn M c).2.2.2.2.2.2.1
def q0i:=@vL M _ m0 [.tmp 2] [a0] (by kernel_rfl) H Q
def q73(M:ak)(c:Ctx):=(cn M c).2.2.2.2.2.2.2.1
def q72:=@vL M _ U4 [.cS 8 4,.tmp 5] [a0,a1] (by kernel_rfl) H Q
def ql6(M:ak)(c:Ctx):=(cr M c).1
def ql5:=@vL M _ XA [.tmp 4] [a0,a1] (by kernel_rfl) H Q
def qv1(M:ak)(c:Ctx):=(cr M c).2
def qv0:=@vL M _ LF [] [a0,a1] (by kernel_rfl) H Q
abbrev Ot:Nat:=65
abbrev Jp:Nat:=86
abbrev Tj:Nat:=258
abbrev TI:Nat:=259
abbrev T5:Nat:=260
abbrev Tz:Nat:=261
abbrev Py:Nat:=63
abbrev Pc:Nat:=64
abbrev TL:Nat:=262
abbrev T8:Nat:=263
abbrev Ti:Nat:=264
abbrev XR:Nat:=83
abbrev RO:Nat:=85
abbrev Wy:Nat:=82
abbrev Vp:Nat:=37
abbrev Y1:Nat:=79
abbrev Mb:Nat:=115
abbrev Kr:Nat:=116
variable{a4:AV}
abbrev XE:uh:=[(37,⟨[0,1,2,4,5,6,7,8,9,10,11,12,13,37,38,60,61,62],B2,[0,4,12,14,41,19,58,46,25,52,40,31,57,39]⟩,[]),(263,⟨[0,1,2,6,7,8,9,10],B2,[0,4,12]⟩,[]),(264,⟨[0,1,2,3,8,9,10,11],B2,[0,4,12]⟩,[]),(259,⟨[0,1,2,3,4,10,11,12,13,14],B2,[0,4,12]⟩,[]),(258,⟨[0,1,4],B2,[0]⟩,[]),(261,⟨[0,1,4],B2,[0]⟩,[]),(65,⟨[0,1,2,5,6],B2,[0]⟩,[]),(64,⟨[0,1,2,6,7,8,9],B2,[0,4,12]⟩,[]),(63,⟨[0,1,4,5,6,7,8,11],B2,[0,2,17,21,23,29]⟩,[]),(262,⟨[0,1,4,5],B2,[0]⟩,[]),(260,⟨[0,1,4,5],B2,[0]⟩,[]),(82,⟨[0,1],B2,[0]⟩,[]),(83,⟨[0,1,4,5],B2,[0,2,17]⟩,[]),(85,⟨[0,1,2,6,7,8],B2,[0,4,12]⟩,[]),(86,⟨[0,1,3],B2,[0]⟩,[]),(79,⟨[0,1,2,6,7],B2,[0,4,12]⟩,[])]
def Vd(n:Nat):Kp:=jT n XE
def Vq(n k:Nat):Kp×ai:=(Vd n,part (aZ Tryz.prog n) k)
def q21(n k:Nat):Vq n k=(Vd n,part (aZ Tryz.prog n) k):=rfl
def vP:=@lE M _ Vq Vd q21
attribute [local irreducible] Vq
def vR(M:ak)(c:Ctx):=by
 have h:=pe q21 M c XE (by kernel_rfl)
 conv at h=>arg 5;reduce
 delta PR RL oq gE nS gI pj mK fU gJ fY oK qP oI pV rW rZ XE at h
 simp only[Ap,Ae,Aw,Ax,Sp,Q2]at h;exact h
def cA(M:ak)(c:Ctx):=(vR M c).2.2.2.2.2.2.2.2
def SE(M:ak)(c:Ctx):=(vR M c).1
def xlh:=@vP M _ Vp [.tmp 4,.tmp 5] [a0,a1] (by kernel_rfl) H Q
def q7b(M:ak)(c:Ctx):=(vR M c).2.1
def q7a:=@vP M _ T8 [.tmp 6,.tmp 7,.tmp 8] [a0,a1,a2] (by kernel_rfl) H Q
def q37(M:ak)(c:Ctx):=(vR M c).2.2.1
def q36:=@vP M _ Ti [.tmp 8,.tmp 9] [a0,a1,a2,a3] (by kernel_rfl) H Q
def q90(M:ak)(c:Ctx):=(vR M c).2.2.2.1
def q9z:=@vP M _ TI [.tmp 10,.tmp 11,.tmp 12] [a0,a1,a2,a3,a4] (by kernel_rfl) H Q
def q35(M:ak)(c:Ctx):=(vR M c).2.2.2.2.1
def q34:=@vP M _ Tj [.tmp 4] [a0,a1] (by kernel_rfl) H Q
def qz0(M:ak)(c:Ctx):=(vR M c).2.2.2.2.2.1
def qzz:=@vP M _ Tz [.tmp 4] [a0,a1] (by kernel_rfl) H Q
def UO(M:ak)(c:Ctx):=(vR M c).2.2.2.2.2.2.1
def Yr:=@vP M _ Ot [.tmp 6] [a0,a1,a2] (by kernel_rfl) H Q
def L'(M:ak)(c:Ctx):=(vR M c).2.2.2.2.2.2.2.1
def qti:=@vP M _ Pc [.tmp 6] [a0,a1,a2] (by kernel_rfl) H Q
def x_(M:ak)(c:Ctx):=(cA M c).1
def qnu:=@vP M _ Py [.cS 11 4,.tmp 5] [a0,a1] (by kernel_rfl) H Q
def q69(M:ak)(c:Ctx):=(cA M c).2.1
def q68:=@vP M _ TL [.tmp 4] [a0,a1] (by kernel_rfl) H Q
def q67(M:ak)(c:Ctx):=(cA M c).2.2.1
def q66:=@vP M _ T5 [.tmp 4] [a0,a1] (by kernel_rfl) H Q
def q7f(M:ak)(c:Ctx):=(cA M c).2.2.2.1
def q7e:=@vP M _ Wy [] [a0,a1] (by kernel_rfl) H Q
def xcc(M:ak)(c:Ctx):=(cA M c).2.2.2.2.1
def xcb:=@vP M _ XR [.tmp 4,.tmp 5] [a0,a1] (by kernel_rfl) H Q
def qtl(M:ak)(c:Ctx):=(cA M c).2.2.2.2.2.1
def qtk:=@vP M _ RO [.tmp 6] [a0,a1,a2] (by kernel_rfl) H Q
def qxg(M:ak)(c:Ctx):=(cA M c).2.2.2.2.2.2.1
def qxf:=@vP M _ Jp [.tmp 3] [a0,a1] (by kernel_rfl) H Q
def qo4(M:ak)(c:Ctx):=(cA M c).2.2.2.2.2.2.2
def qo3:=@vP M _ Y1 [.tmp 6] [a0,a1,a2] (by kernel_rfl) H Q
abbrev qh6:Nat:=210
abbrev Yj:Nat:=125
abbrev Tf:Nat:=160
abbrev Pz:Nat:=161
abbrev UC:Nat:=162
abbrev TY:Nat:=163
abbrev NL:Nat:=159
abbrev LV:Nat:=190
abbrev VW:Nat:=191
abbrev xY:Nat:=60
abbrev jo:Nat:=135
abbrev AQ:Nat:=108
abbrev yt:Nat:=0
abbrev Xt:uh:=[(125,⟨[0,1,2,3,4,5,6,7,8,9,10,11,12,13,14,49],B2,[0,2,10,14,18,22,129,38,50,62,74,86,98,110,122]⟩,[(7,[0,2,4,8,10,12,16,18,20,6,13,21,14,21,22,24,26,28])]),(160,⟨[0,1,2,4,5],B2,[0]⟩,[]),(161,⟨[0,1,2,4,5],B2,[0,2,10,18]⟩,[]),(162,⟨[0,1,3,5],B2,[0]⟩,[]),(163,⟨[0,1,3],B2,[0]⟩,[]),(191,⟨[0,1,4],B2,[0]⟩,[]),(210,⟨[0,1,4],B2,[0]⟩,[])]
def ZY(n:Nat):Kp:=jT n Xt
def WO(n k:Nat):Kp×ai:=(ZY n,part (aZ Tryz.prog n) k)
def B'(n k:Nat):WO n k=(ZY n,part (aZ Tryz.prog n) k):=rfl
def L5:=@lE M _ WO ZY B'
attribute [local irreducible] WO
def LB(M:ak)(c:Ctx):=by
 have h:=pe B' M c Xt (by kernel_rfl)
 conv at h=>arg 5;reduce
 delta PR RL oq gE nS gI pj iN mK fU gJ fY oK oI pV rW rZ Xt at h
 simp only[Ap,Ae,Aw,Ax,Sp,Q2]at h;exact h
def ER(M:ak)(c:Ctx):=(LB M c).1
def ad3:=@L5 M _ Yj [.cS 5 6] [a0,a1,a2] (by kernel_rfl) H Q
def WT:bZ:=funcAt Tryz.prog NL
def W_:Kp:=⟨[0,1,2,3,4,5,6,19,20],B2,[0,4,9,15,26,27]⟩
def yX(k:Nat):Kp×ai:=(W_,part WT.body k)
def xfo(M:ak)(c:Ctx):(WE M c (yX 0) λ Q E D H=>Lz E 0 λ g f=>A3 g AQ (AV.cells f) H λ g b H1=>Fl g 0 b H1 λ g h=>C3 M g (.func LV) [h] H1 λ g a o=>B3 g ((Op.extract 0) [a]) λ g d=>B3 g ((Op.extract 1) [a]) λ g e=>W M c (yX 4) g Q ((4,e)::(3,d)::(2,(.bool B2))::(1,b)::E) D o) /\
 (WE M c (yX 4) λ Q E D H=>Lz E 1 λ g a=>Fl g 1 a H λ g b=>Fl g 2 a H λ g d=>Fl g 3 a H λ g e=>B3 g ((Op.build [(.int .i64 0),(.int .i64 0),(.int .i64 0)] [(0,1),(1,1),(2,1)]) [b,d,e]) λ g f=>cK (W M c (yX 9)) (eY 0 (fp (W M c (yX 27)) Q)) ((20,(.int .i64 0))::(19,f)::E) D H) /\
 (WE M c (yX 27) λ Q E D H=>Lz E 4 λ g a=>rN g Q .ret ((2,a)::E) D H) /\
 (WE M c (yX 9) λ Q E D H=>Lz E 20 λ g a=>Cb g .lss a (.int .i64 3) (λ g=>Gt g M c (yX 15) Q E D H) (λ g=>rN g (fp (W M c (yX 15)) Q) (.exit 0) E D H)) /\
 (WE M c (yX 15) λ Q E D H=>Lz E 20 λ g b=>Ly g E 19 λ g j=>B3 g ((Op.bG 3 1 B5) [j,b]) λ g a=>Ly g E 3 λ g r=>B3 g (Op.bO [(.str [65,66,67]),b]) λ g l=>C3 M g (.func VW) [r,l] H λ g m H1=>Bn g .geq m (.int .i64 0) λ g e=>JN (λ(k:Bool->AV->AV->AV->ar->Prop)=>B3 g (cT B4 (B1 e)) λ g w=>wK g w (λ g=>Bn g .lss a (.int .i64 0) λ g i=>k g i i a H1) (λ g=>k g uu uu uu H1)) (λ g d _ _ o=>JN (λ(k:Bool->AV->AV->ar->Prop)=>B3 g (cT B2 (B1 d)) λ g w=>wK g w (λ g=>Bn g .geq a (.int .i64 8) λ g n=>k g n a o) (λ g=>k g uu uu o)) (λ g f _ s=>JN (λ(k:Bool->AV->ar->Prop)=>B3 g (cT B4 (B1 e)) λ g w=>wK g w (λ g=>B3 g (Op.pick [d,(.bool B4),f]) λ g p=>k g p s) (λ g=>k g uu s)) (λ g h t=>B3 g (Op.pick [e,h,(.bool B2)]) λ g q=>nE g q (λ g=>rN g (eY 1 (fp (W M c (yX 26)) Q)) .ret ((2,(.bool B2))::(6,a)::(5,b)::E) D t) (λ g=>rN g (eY 1 (fp (W M c (yX 26)) Q)) .normal ((6,a)::(5,b)::E) D t))))) /\
 (WE M c (yX 26) λ Q E D H=>Lz E 20 λ g a=>Bn g .add a (.int .i64 1) λ g b=>rN g Q .normal ((20,b)::E) D H):=by(repeat' apply IK)<;>(intro _ _ _ _;refine Ew ?_;kernel_rfl)
def xfm:(aX Tryz.prog).func NL=B1 WT/\WT.results=[.tmp 2]:=xi (by kernel_rfl)
def xfn(h:W M ⟨B5,NL⟩ (yX 0) B4 (eG M [.tmp 2] Q) [(0,a0)] [] H):FZ M NL [a0] H Q:=Dx (by decide) xfm (ks:=W_) (by kernel_rfl) h
def xjc(M:ak)(c:Ctx):=(LB M c).2.1
def xjb:=@L5 M _ Tf [.cS 5 4] [a0,a1,a2] (by kernel_rfl) H Q
def xje(M:ak)(c:Ctx):=(LB M c).2.2.1
def xjd:=@L5 M _ Pz [.cS 5 4] [a0,a1,a2] (by kernel_rfl) H Q
def xjg(M:ak)(c:Ctx):=(LB M c).2.2.2.1
def xjf:=@L5 M _ UC [.cS 5 3] [a0,a1] (by kernel_rfl) H Q
def xji(M:ak)(c:Ctx):=(LB M c).2.2.2.2.1
def xjh:=@L5 M _ TY [.tmp 3] [a0,a1] (by kernel_rfl) H Q
def Xn:bZ:=funcAt Tryz.prog LV
def q41:Kp:=⟨[0,2,3],B2,[0,2,10]⟩
def M5(k:Nat):Kp×ai:=(q41,part Xn.body k)
def xfr(M:ak)(c:Ctx):(WE M c (M5 0) λ Q E D H=>W M c (M5 2) B4 Q ((3,(.bool B2))::(2,(.str []))::E) D H) /\
 (WE M c (M5 2) λ Q E D H=>Lz E 0 λ g a=>Bn g .lss a (.int .i64 1) λ g d=>JN (λ(k:Bool->AV->AV->ar->Prop)=>B3 g (cT B2 (B1 d)) λ g w=>wK g w (λ g=>Bn g .geq a (.int .i64 19) λ g e=>k g e a H) (λ g=>k g uu uu H)) (λ g b _ H1=>B3 g (Op.pick [d,(.bool B4),b]) λ g f=>nE g f (λ g=>rN g (fp (W M c (M5 10)) Q) .ret ((3,(.bool B2))::(2,(.str []))::E) D H1) (λ g=>Gt g M c (M5 10) Q E D H1))) /\
 (WE M c (M5 10) λ Q E D H=>Lz E 0 λ g d=>B3 g ((Op.aU 19 2) [(.ptr yt 0),d]) λ g a=>Fl g 1 a H λ g b=>rN g Q .ret ((3,(.bool B4))::(2,b)::E) D H):=by(repeat' apply IK)<;>(intro _ _ _ _;refine Ew ?_;kernel_rfl)
def xfp:(aX Tryz.prog).func LV=B1 Xn/\Xn.results=[.tmp 2,.tmp 3]:=xi (by kernel_rfl)
def xfq(h:W M ⟨B5,LV⟩ (M5 0) B4 (eG M [.tmp 2,.tmp 3] Q) [(0,a0)] [] H):FZ M LV [a0] H Q:=Dx (by decide) xfp (ks:=q41) (by kernel_rfl) h
def qu5(M:ak)(c:Ctx):=(LB M c).2.2.2.2.2.1
def qu4:=@L5 M _ VW [.tmp 4] [a0,a1] (by kernel_rfl) H Q
def _6(M:ak)(c:Ctx):=(LB M c).2.2.2.2.2.2
def qh7:=@L5 M _ qh6 [.tmp 4] [a0,a1] (by kernel_rfl) H Q
abbrev g_:Nat:=126
abbrev He:Nat:=178
abbrev μ:Nat:=145
abbrev qtf:Nat:=123
abbrev z6:Nat:=92
abbrev qpm:Nat:=132
abbrev VA:Nat:=128
abbrev qmc:Nat:=121
abbrev sM:Nat:=156
abbrev qnh:Nat:=164
abbrev _4:Nat:=57
abbrev Ik:Nat:=180
abbrev OT:Nat:=177
abbrev UX:uh:=[(57,⟨[0],B2,[0]⟩,[]),(128,⟨[0,1,2,6,7],B2,[0,4,10]⟩,[]),(126,⟨[0,2,8],B2,[0,2,10]⟩,[]),(123,⟨[0,2],B2,[0,2,10]⟩,[]),(145,⟨[0,1,4],B2,[0,2,10,18]⟩,[]),(132,⟨[0,2,3],B2,[0,2,10]⟩,[]),(92,⟨[0,2,3],B2,[0,4,10]⟩,[]),(178,⟨[0,2,3],B2,[0,4,10]⟩,[]),(164,⟨[0,1,4],B2,[0,2,10,18]⟩,[]),(156,⟨[0,2],B2,[0]⟩,[]),(121,⟨[0,2],B2,[0,2,10,18]⟩,[])]
def ZA(n:Nat):Kp:=jT n UX
def Z9(n k:Nat):Kp×ai:=(ZA n,part (aZ Tryz.prog n) k)
def _y(n k:Nat):Z9 n k=(ZA n,part (aZ Tryz.prog n) k):=rfl
def BG:=@lE M _ Z9 ZA _y
attribute [local irreducible] Z9
def BL(M:ak)(c:Ctx):=by
 have h:=pe _y M c UX (by kernel_rfl)
 conv at h=>arg 5;reduce
 delta PR RL oq gE nS gI pj mK fU gJ fY oK oI rW rZ UX at h
 simp only[Ap,Ae,Aw,Ax,Sp,Q2]at h;exact h
def xj7(M:ak)(c:Ctx):=(BL M c).1
def xj6:=@BG M _ _4 [.tmp 0] [] (by kernel_rfl) H Q
def _7(M:ak)(c:Ctx):=(BL M c).2.1
def q6i:=@BG M _ VA [.tmp 6] [a0,a1,a2] (by kernel_rfl) H Q
def q6h(M:ak)(c:Ctx):=(BL M c).2.2.1
def q6g:=@BG M _ g_ [.cS 8 2] [a0] (by kernel_rfl) H Q
def q76(M:ak)(c:Ctx):=(BL M c).2.2.2.1
def q75:=@BG M _ qtf [.tmp 2] [a0] (by kernel_rfl) H Q
def qp1(M:ak)(c:Ctx):=(BL M c).2.2.2.2.1
def q1c:=@BG M _ μ [.tmp 4] [a0,a1] (by kernel_rfl) H Q
def q1e(M:ak)(c:Ctx):=(BL M c).2.2.2.2.2.1
def q1d:=@BG M _ qpm [.tmp 2] [a0] (by kernel_rfl) H Q
def TC(M:ak)(c:Ctx):=(BL M c).2.2.2.2.2.2.1
def qup:=@BG M _ z6 [.tmp 2] [a0] (by kernel_rfl) H Q
def qp0(M:ak)(c:Ctx):=(BL M c).2.2.2.2.2.2.2.1
def q1b:=@BG M _ He [.tmp 2] [a0] (by kernel_rfl) H Q
def XG(M:ak)(c:Ctx):=(BL M c).2.2.2.2.2.2.2.2.1
def qyo:=@BG M _ qnh [.tmp 4] [a0,a1] (by kernel_rfl) H Q
def q1g(M:ak)(c:Ctx):=(BL M c).2.2.2.2.2.2.2.2.2.1
def q1f:=@BG M _ sM [.tmp 2] [a0] (by kernel_rfl) H Q
def qmr(M:ak)(c:Ctx):=(BL M c).2.2.2.2.2.2.2.2.2.2
def qwm:=@BG M _ qmc [.tmp 2] [a0] (by kernel_rfl) H Q
abbrev KF:Nat:=93
abbrev n_:Nat:=155
abbrev _p:Nat:=133
abbrev nu:Nat:=76
abbrev ζ:Nat:=119
abbrev pf:Nat:=177
abbrev qlc:Nat:=120
abbrev wx:Nat:=122
abbrev z':Nat:=90
abbrev qke:Nat:=157
abbrev Oa:Nat:=187
abbrev q2x:Nat:=55
abbrev ξ:Nat:=70
abbrev ND:Nat:=171
abbrev JJ:Nat:=26
abbrev vf:Nat:=175
abbrev QJ:Nat:=125
abbrev Zg:uh:=[(55,⟨[0,1,2,3,4,5],B2,[0,4,12]⟩,[]),(133,⟨[0,2,3],B2,[0,2,10,18]⟩,[]),(93,⟨[0,1,4,5],B2,[0,2,10,18,26,28,39]⟩,[]),(177,⟨[0,2],B2,[0,2,10,18]⟩,[]),(119,⟨[0,2],B2,[0,2,10]⟩,[]),(120,⟨[0,2,3,5,7,8],B2,[0,4,21,9,15,20]⟩,[]),(155,⟨[0,2,5],B2,[0,2,10]⟩,[]),(76,⟨[0,2],B2,[0]⟩,[]),(70,⟨[0,1,2,3,4,5,6,14,15,16],B2,[0,4,27,9,15,26]⟩,[]),(90,⟨[0,2],B2,[0]⟩,[]),(122,⟨[0,1,2,4,7,8],B2,[0]⟩,[]),(300122,⟨[0,1,2,4,7,8],B2,[0]⟩,[]),(200122,⟨[0,1,2,4,7,8],B2,[0]⟩,[]),(157,⟨[0,1,2,3,4],B2,[0]⟩,[]),(187,⟨[0,1,2,4],B2,[0,4,10,17]⟩,[])]
def Xf(n:Nat):Kp:=jT n Zg
def Pv(n k:Nat):Kp×ai:=(Xf n,part (aZ Tryz.prog n) k)
def _1(n k:Nat):Pv n k=(Xf n,part (aZ Tryz.prog n) k):=rfl
def Aq:=@lE M _ Pv Xf _1
attribute [local irreducible] Pv
def wZ(M:ak)(c:Ctx):=by
 have h:=pe _1 M c Zg (by kernel_rfl)
 conv at h=>arg 5;reduce
 delta PR RL oq gE nS gI pj mK fU gJ fY oK qP su oI pV rW rZ Zg at h
 simp only[Ap,Ae,Aw,Ax,Sp,Q2]at h;exact h
def cB(M:ak)(c:Ctx):=(wZ M c).2.2.2.2.2.2.2.2
def ZV(M:ak)(c:Ctx):=(wZ M c).1
def xft:=@Aq M _ q2x [.tmp 2,.tmp 3] [a0] (by kernel_rfl) H Q
def P'(M:ak)(c:Ctx):=(wZ M c).2.1
def qro:=@Aq M _ _p [.tmp 2,.tmp 3] [a0] (by kernel_rfl) H Q
def j8(M:ak)(c:Ctx):=(wZ M c).2.2.1
def qrn:=@Aq M _ KF [.tmp 4,.tmp 5] [a0,a1] (by kernel_rfl) H Q
def qjl(M:ak)(c:Ctx):=(wZ M c).2.2.2.1
def qrp:=@Aq M _ pf [.tmp 2] [a0] (by kernel_rfl) H Q
def qsx(M:ak)(c:Ctx):=(wZ M c).2.2.2.2.1
def qsw:=@Aq M _ ζ [.tmp 2] [a0] (by kernel_rfl) H Q
def W4(M:ak)(c:Ctx):=(wZ M c).2.2.2.2.2.1
def quh:=@Aq M _ qlc [.tmp 2] [a0] (by kernel_rfl) H Q
def qp8(M:ak)(c:Ctx):=(wZ M c).2.2.2.2.2.2.1
def qp7:=@Aq M _ n_ [.cS 5 2] [a0] (by kernel_rfl) H Q
def sg(M:ak)(c:Ctx):=(wZ M c).2.2.2.2.2.2.2.1
def qsv:=@Aq M _ nu [.tmp 2] [a0] (by kernel_rfl) H Q
def PJ(M:ak)(c:Ctx):=(cB M c).1
def q5h:=@Aq M _ ξ [.cS 5 2,.tmp 3] [a0] (by kernel_rfl) H Q
def qs0(M:ak)(c:Ctx):=(cB M c).2.1
def qsz:=@Aq M _ z' [.tmp 2] [a0] (by kernel_rfl) H Q
def Tm:bZ:=funcAt Tryz.prog wx
def O8:dL:=ib Tm 0
abbrev Y5(k:Nat):Kp×ai:=Pv 300122 k
abbrev Xy(k:Nat):Kp×ai:=Pv 200122 k
def E1:nth Tm.loops 0=B1 O8/\O8.params=[8]:=⟨by kernel_rfl,by kernel_rfl⟩
def qp9:(Y5 0).1.ah=[0,1,2,4,7,8]/\(Y5 0).2=O8.assign:=⟨by kernel_rfl,by kernel_rfl⟩
def qqa:(Xy 0).1.ah=[0,1,2,4,7,8]/\(Xy 0).2=O8.body:=⟨by kernel_rfl,by kernel_rfl⟩
def qrq:M.func wx=B1 Tm:=MK.at (by decide) (by kernel_rfl)
def qkk(M:ak)(c:Ctx):=IK (cB M c).2.2.1 (IK (cB M c).2.2.2.1 ((cB M c).2.2.2.2.1))
def qsy:=@Aq M _ wx [] [a0,a1] (by kernel_rfl) H Q
def qs2(M:ak)(c:Ctx):=(cB M c).2.2.2.2.2.1
def qs1:=@Aq M _ qke [.tmp 4] [a0,a1] (by kernel_rfl) H Q
def O2(M:ak)(c:Ctx):=(cB M c).2.2.2.2.2.2
def qqb:=@Aq M _ Oa [] [a0,a1,a2] (by kernel_rfl) H Q
abbrev xn:Nat:=173
abbrev _3:Nat:=193
abbrev qtb:Nat:=217
abbrev Y_:Nat:=229
abbrev γ:Nat:=216
abbrev qqq:Nat:=196
abbrev qpf:Nat:=197
abbrev qtc:Nat:=199
abbrev xb4:Nat:=71
abbrev qtd:Nat:=233
abbrev qpg:Nat:=200
abbrev qqr:Nat:=211
abbrev W2:Nat:=219
abbrev RA:Nat:=220
abbrev qqz:Nat:=237
abbrev vj:Nat:=239
abbrev oH:Nat:=136
abbrev we:Nat:=253
abbrev SA:Nat:=215
abbrev Ja:Nat:=213
abbrev Yg:uh:=[(71,⟨[0],B2,[0]⟩,[]),(217,⟨[0,1,2,6,8],B2,[0,2,10,18,28]⟩,[]),(196,⟨[0,1,2,6,7,8],B2,[0,2,10,18,30]⟩,[]),(216,⟨[0,1,4,5],B2,[0,2,10]⟩,[]),(193,⟨[0,1,4,5],B2,[0,2,10]⟩,[]),(229,⟨[0,2],B2,[0,2,10]⟩,[]),(197,⟨[0,2],B2,[0,2,10]⟩,[]),(173,⟨[0,2],B2,[0,2,10]⟩,[]),(199,⟨[0,2],B2,[0]⟩,[]),(211,⟨[0,1,4,5,6,7],B2,[0,4,12]⟩,[]),(219,⟨[0,1,2,6],B2,[0,2,10]⟩,[]),(220,⟨[0,2,3,5,7,8,9],B2,[0,4,9]⟩,[]),(300220,⟨[0,2,3,5,7,8,9],B2,[0]⟩,[]),(200220,⟨[0,2,3,5,7,8,9],B2,[0]⟩,[]),(200,⟨[0],B2,[0]⟩,[]),(233,⟨[0,2],B2,[0]⟩,[]),(237,⟨[0,1,2],B2,[0]⟩,[]),(239,⟨[0,1,3,4,5,6,7],B2,[0,4,10,19]⟩,[])]
def YY(n:Nat):Kp:=jT n Yg
def QX(n k:Nat):Kp×ai:=(YY n,part (aZ Tryz.prog n) k)
def q28(n k:Nat):QX n k=(YY n,part (aZ Tryz.prog n) k):=rfl
def wC:=@lE M _ QX YY q28
attribute [local irreducible] QX
def sZ(M:ak)(c:Ctx):=by
 have h:=pe q28 M c Yg (by kernel_rfl)
 conv at h=>arg 5;reduce
 delta PR RL oq gE nS gI pj mK fU gJ fY oK qP su oI pV rW rZ Yg at h
 simp only[Ap,Ae,Aw,Ax,Sp,Q2]at h;exact h
def cC(M:ak)(c:Ctx):=(sZ M c).2.2.2.2.2.2.2.2
def cL(M:ak)(c:Ctx):=(cC M c).2.2.2.2.2.2.2.2
def xmw(M:ak)(c:Ctx):=(sZ M c).1
def xmv:=@wC M _ xb4 [.tmp 0] [] (by kernel_rfl) H Q
def qtu(M:ak)(c:Ctx):=(sZ M c).2.1
def q7w:=@wC M _ qtb [.tmp 6] [a0,a1,a2] (by kernel_rfl) H Q
def _G(M:ak)(c:Ctx):=(sZ M c).2.2.1
def q5n:=@wC M _ qqq [.tmp 6] [a0,a1,a2] (by kernel_rfl) H Q
def xas(M:ak)(c:Ctx):=(sZ M c).2.2.2.1
def xar:=@wC M _ γ [.tmp 4,.tmp 5] [a0,a1] (by kernel_rfl) H Q
def q7v(M:ak)(c:Ctx):=(sZ M c).2.2.2.2.1
def q7u:=@wC M _ _3 [.tmp 4,.tmp 5] [a0,a1] (by kernel_rfl) H Q
def q5m(M:ak)(c:Ctx):=(sZ M c).2.2.2.2.2.1
def q5l:=@wC M _ Y_ [.tmp 2] [a0] (by kernel_rfl) H Q
def q0o(M:ak)(c:Ctx):=(sZ M c).2.2.2.2.2.2.1
def q0n:=@wC M _ qpf [.tmp 2] [a0] (by kernel_rfl) H Q
def q5k(M:ak)(c:Ctx):=(sZ M c).2.2.2.2.2.2.2.1
def q5j:=@wC M _ xn [.tmp 2] [a0] (by kernel_rfl) H Q
def q7y(M:ak)(c:Ctx):=(cC M c).1
def q7x:=@wC M _ qtc [.tmp 2] [a0] (by kernel_rfl) H Q
def qru(M:ak)(c:Ctx):=(cC M c).2.1
def q5o:=@wC M _ qqr [.tmp 4,.tmp 5] [a0,a1] (by kernel_rfl) H Q
def qw(M:ak)(c:Ctx):=(cC M c).2.2.1
def q71:=@wC M _ W2 [.tmp 6] [a0,a1,a2] (by kernel_rfl) H Q
def S9:bZ:=funcAt Tryz.prog RA
def Ry:dL:=ib S9 0
abbrev V8(k:Nat):Kp×ai:=QX 300220 k
abbrev X8(k:Nat):Kp×ai:=QX 200220 k
def FH:nth S9.loops 0=B1 Ry/\Ry.params=[8,9]:=⟨by kernel_rfl,by kernel_rfl⟩
def xda:(V8 0).1.ah=[0,2,3,5,7,8,9]/\(V8 0).2=Ry.assign:=⟨by kernel_rfl,by kernel_rfl⟩
def xdb:(X8 0).1.ah=[0,2,3,5,7,8,9]/\(X8 0).2=Ry.body:=⟨by kernel_rfl,by kernel_rfl⟩
def xfv:M.func RA=B1 S9:=MK.at (by decide) (by kernel_rfl)
def ZF(M:ak)(c:Ctx):=IK (cC M c).2.2.2.1.1 (IK (cC M c).2.2.2.2.1 (IK (cC M c).2.2.2.2.2.1 (IK (cC M c).2.2.2.1.2.1 ((cC M c).2.2.2.1.2.2))))
def xjn:=@wC M _ RA [.tmp 2] [a0] (by kernel_rfl) H Q
def q0q(M:ak)(c:Ctx):=(cC M c).2.2.2.2.2.2.1
def q0p:=@wC M _ qpg [] [a0] (by kernel_rfl) H Q
def q70(M:ak)(c:Ctx):=(cC M c).2.2.2.2.2.2.2.1
def q7z:=@wC M _ qtd [.tmp 2] [a0] (by kernel_rfl) H Q
def qr0(M:ak)(c:Ctx):=(cL M c).1
def qrz:=@wC M _ qqz [.tmp 2] [a0] (by kernel_rfl) H Q
def Uz(M:ak)(c:Ctx):=(cL M c).2
def qoy:=@wC M _ vj [] [a0,a1] (by kernel_rfl) H Q
abbrev _X:Nat:=58
abbrev _0:Nat:=135
abbrev qp:Nat:=142
abbrev um:Nat:=171
abbrev qnj:Nat:=176
abbrev R':Nat:=140
abbrev S_:Nat:=165
abbrev Ψ:Nat:=138
abbrev qps:Nat:=158
abbrev qnk:Nat:=170
abbrev qnl:Nat:=167
abbrev k_:Nat:=137
abbrev qlj:Nat:=139
abbrev qq0:Nat:=223
abbrev qpu:Nat:=222
abbrev Wx:Nat:=235
abbrev XL:Nat:=236
abbrev Wn:Nat:=206
abbrev qq1:Nat:=203
abbrev RH:Nat:=225
abbrev qnm:Nat:=174
abbrev qlk:Nat:=202
abbrev e_:Nat:=204
abbrev T6:Nat:=209
abbrev qnn:Nat:=194
abbrev qll:Nat:=212
abbrev r_:Nat:=213
abbrev WY:Nat:=215
abbrev TG:Nat:=189
abbrev Xr:Nat:=208
abbrev qpv:Nat:=201
abbrev P7:Nat:=224
abbrev C':Nat:=172
abbrev Uf:Nat:=218
abbrev kx:Nat:=188
abbrev qmf:Nat:=205
abbrev Ue:Nat:=226
abbrev oS:Nat:=234
abbrev _F:Nat:=238
abbrev Vm:Nat:=198
abbrev mm:Nat:=221
abbrev L_:Nat:=192
abbrev sA:Nat:=214
abbrev _A:Nat:=228
abbrev Sg:Nat:=230
abbrev Uw:Nat:=231
abbrev S4:Nat:=232
abbrev Xh:Nat:=175
abbrev HE:Nat:=1
abbrev MG:Nat:=293
abbrev UD:Nat:=294
abbrev EK:Nat:=184
abbrev K1:Nat:=131
abbrev Df:Nat:=187
abbrev V9:Nat:=31
abbrev Yi:uh:=[(58,⟨[0],B2,[0]⟩,[]),(135,⟨[0,2],B2,[0,2,10,18]⟩,[]),(165,⟨[0,1,4,5,6,7],B2,[0,2,12,24]⟩,[]),(170,⟨[0,1,2,6,7],B2,[0,4,12]⟩,[]),(171,⟨[0,2,3],B2,[0,2,12,14,24]⟩,[]),(158,⟨[0,2,3],B2,[0,4,12]⟩,[]),(137,⟨[0,2,3,4],B2,[0,2,10]⟩,[(3,[0,2,4,6,8,10,12,14,16,18,15,17,20])]),(140,⟨[0,1,2,6,7],B2,[0,2,10,12,20]⟩,[]),(142,⟨[0,2],B2,[0]⟩,[]),(167,⟨[0,2],B2,[0,2,10]⟩,[]),(176,⟨[0,2],B2,[0,2,10]⟩,[]),(138,⟨[0,2],B2,[0,2,10]⟩,[]),(139,⟨[0,2],B2,[0]⟩,[]),(172,⟨[0,2],B2,[0]⟩,[]),(174,⟨[0,1,2,3,4,5],B2,[0]⟩,[]),(175,⟨[0],B2,[0]⟩,[]),(192,⟨[0,1,4,5],B2,[0,4,12]⟩,[]),(194,⟨[0,1,2,3],B2,[0]⟩,[]),(189,⟨[0,1,2,3],B2,[0]⟩,[]),(188,⟨[0,2],B2,[0,2,10,18]⟩,[]),(198,⟨[0,1],B2,[0]⟩,[]),(201,⟨[0,1,2,5],B2,[0]⟩,[]),(202,⟨[0,1,2,3],B2,[0]⟩,[]),(205,⟨[0,1,2,3],B2,[0]⟩,[]),(206,⟨[0,1],B2,[0]⟩,[]),(212,⟨[0,1,2,3],B2,[0]⟩,[]),(208,⟨[0,1],B2,[0]⟩,[(0,[0,2,4,6,8,10,3,5,12,14,16])]),(203,⟨[0,1,2,3,4,9],B2,[0]⟩,[]),(221,⟨[0,1],B2,[0,8]⟩,[(4,[0,2,4,6,8,10,1,12])]),(223,⟨[0,1,2,4],B2,[0]⟩,[]),(224,⟨[0,1,2],B2,[0]⟩,[]),(204,⟨[0,1,2,3],B2,[0,8]⟩,[]),(226,⟨[0,1,2],B2,[0,8]⟩,[]),(209,⟨[0],B2,[0]⟩,[]),(218,⟨[0,1],B2,[0]⟩,[]),(213,⟨[0,1,2,3,5,6],B2,[0,8,10,18]⟩,[]),(225,⟨[0,1,2],B2,[0]⟩,[]),(214,⟨[0,1,2,3],B2,[0]⟩,[]),(222,⟨[0,1,2,3],B2,[0,2,10]⟩,[]),(215,⟨[0,1],B2,[0]⟩,[]),(228,⟨[0,1,2,3,4,5,6,7,8],B2,[0]⟩,[]),(234,⟨[0,1,2,3,7],B2,[0]⟩,[]),(235,⟨[0,1],B2,[0]⟩,[]),(236,⟨[0],B2,[0]⟩,[]),(230,⟨[0,1,2,3,4],B2,[0,8]⟩,[]),(231,⟨[0,1,2,3],B2,[0,8]⟩,[]),(232,⟨[0,1,2,3,4],B2,[0,8]⟩,[]),(238,⟨[0,1,2],B2,[0]⟩,[])]
def Z5(n:Nat):Kp:=jT n Yi
def VD(n k:Nat):Kp×ai:=(Z5 n,part (aZ Tryz.prog n) k)
def q3c(n k:Nat):VD n k=(Z5 n,part (aZ Tryz.prog n) k):=rfl
def jh:=@lE M _ VD Z5 q3c
attribute [local irreducible] VD
def jg(M:ak)(c:Ctx):=by
 have h:=pe q3c M c Yi (by kernel_rfl)
 conv at h=>arg 5;reduce
 delta PR RL oq gE nS gI pj iN mK fU gJ fY oK oI pV rW rZ Yi at h
 simp only[Ap,Ae,Aw,Ax,Sp,Q2]at h;exact h
def cU(M:ak)(c:Ctx):=(jg M c).2.2.2.2.2.2.2.2
def cY(M:ak)(c:Ctx):=(cU M c).2.2.2.2.2.2.2.2
def dN(M:ak)(c:Ctx):=(cY M c).2.2.2.2.2.2.2.2
def ea(M:ak)(c:Ctx):=(dN M c).2.2.2.2.2.2.2.2
def eb(M:ak)(c:Ctx):=(ea M c).2.2.2.2.2.2.2.2
def xke(M:ak)(c:Ctx):=(jg M c).1
def xkd:=@jh M _ _X [.tmp 0] [] (by kernel_rfl) H Q
def gS(M:ak)(c:Ctx):=(jg M c).2.1
def qys:=@jh M _ _0 [.tmp 2] [a0] (by kernel_rfl) H Q
def Tu(M:ak)(c:Ctx):=(jg M c).2.2.1
def q1o:=@jh M _ S_ [.tmp 4] [a0,a1] (by kernel_rfl) H Q
def OP(M:ak)(c:Ctx):=(jg M c).2.2.2.1
def qyv:=@jh M _ qnk [.tmp 6] [a0,a1,a2] (by kernel_rfl) H Q
def YI(M:ak)(c:Ctx):=(jg M c).2.2.2.2.1
def qwq:=@jh M _ um [.tmp 2] [a0] (by kernel_rfl) H Q
def VU(M:ak)(c:Ctx):=(jg M c).2.2.2.2.2.1
def q1p:=@jh M _ qps [.tmp 2] [a0] (by kernel_rfl) H Q
def q1r(M:ak)(c:Ctx):=(jg M c).2.2.2.2.2.2.1
def q1q:=@jh M _ k_ [.cS 4 2,.tmp 3] [a0] (by kernel_rfl) H Q
def t_(M:ak)(c:Ctx):=(jg M c).2.2.2.2.2.2.2.1
def q1n:=@jh M _ R' [.tmp 6] [a0,a1,a2] (by kernel_rfl) H Q
def q1m(M:ak)(c:Ctx):=(cU M c).1
def q1l:=@jh M _ qp [.tmp 2] [a0] (by kernel_rfl) H Q
def qyx(M:ak)(c:Ctx):=(cU M c).2.1
def qyw:=@jh M _ qnl [.tmp 2] [a0] (by kernel_rfl) H Q
def qyu(M:ak)(c:Ctx):=(cU M c).2.2.1
def qyt:=@jh M _ qnj [.tmp 2] [a0] (by kernel_rfl) H Q
def qws(M:ak)(c:Ctx):=(cU M c).2.2.2.1
def qwr:=@jh M _ Ψ [.tmp 2] [a0] (by kernel_rfl) H Q
def quu(M:ak)(c:Ctx):=(cU M c).2.2.2.2.1
def qut:=@jh M _ qlj [.tmp 2] [a0] (by kernel_rfl) H Q
def q1y(M:ak)(c:Ctx):=(cU M c).2.2.2.2.2.1
def q1x:=@jh M _ C' [.tmp 2] [a0] (by kernel_rfl) H Q
def qy3(M:ak)(c:Ctx):=(cU M c).2.2.2.2.2.2.1
def qy2:=@jh M _ qnm [] [a0,a1,a2] (by kernel_rfl) H Q
def q13(M:ak)(c:Ctx):=(cU M c).2.2.2.2.2.2.2.1
def q12:=@jh M _ Xh [] [a0] (by kernel_rfl) H Q
def Zd(M:ak)(c:Ctx):=(cY M c).1
def qu3:=@jh M _ L_ [.tmp 4] [a0,a1] (by kernel_rfl) H Q
def qy5(M:ak)(c:Ctx):=(cY M c).2.1
def qy4:=@jh M _ qnn [] [a0,a1] (by kernel_rfl) H Q
def qy7(M:ak)(c:Ctx):=(cY M c).2.2.1
def qy6:=@jh M _ TG [] [a0,a1] (by kernel_rfl) H Q
def qzb(M:ak)(c:Ctx):=(cY M c).2.2.2.1
def qza:=@jh M _ kx [.tmp 2] [a0] (by kernel_rfl) H Q
def q11(M:ak)(c:Ctx):=(cY M c).2.2.2.2.1
def q1z:=@jh M _ Vm [] [a0] (by kernel_rfl) H Q
def q1w(M:ak)(c:Ctx):=(cY M c).2.2.2.2.2.1
def q1v:=@jh M _ qpv [] [a0,a1,a2] (by kernel_rfl) H Q
def quw(M:ak)(c:Ctx):=(cY M c).2.2.2.2.2.2.1
def quv:=@jh M _ qlk [] [a0,a1,a2,a3] (by kernel_rfl) H Q
def qw0(M:ak)(c:Ctx):=(cY M c).2.2.2.2.2.2.2.1
def qwz:=@jh M _ qmf [] [a0,a1] (by kernel_rfl) H Q
def qyz(M:ak)(c:Ctx):=(dN M c).1
def qyy:=@jh M _ Wn [] [a0,a1] (by kernel_rfl) H Q
def quy(M:ak)(c:Ctx):=(dN M c).2.1
def qux:=@jh M _ qll [] [a0,a1,a2] (by kernel_rfl) H Q
def qu0(M:ak)(c:Ctx):=(dN M c).2.2.1
def quz:=@jh M _ Xr [] [a0,a1] (by kernel_rfl) H Q
def q6u(M:ak)(c:Ctx):=(dN M c).2.2.2.1
def q6t:=@jh M _ qq1 [] [a0,a1,a2,a3,a4] (by kernel_rfl) H Q
def qms(M:ak)(c:Ctx):=(dN M c).2.2.2.2.1
def qw1:=@jh M _ mm [] [a0,a1] (by kernel_rfl) H Q
def q6s(M:ak)(c:Ctx):=(dN M c).2.2.2.2.2.1
def q6r:=@jh M _ qq0 [] [a0,a1,a2] (by kernel_rfl) H Q
def qwy(M:ak)(c:Ctx):=(dN M c).2.2.2.2.2.2.1
def qwx:=@jh M _ P7 [] [a0,a1,a2] (by kernel_rfl) H Q
def qjo(M:ak)(c:Ctx):=(dN M c).2.2.2.2.2.2.2.1
def qr3:=@jh M _ e_ [] [a0,a1,a2,a3] (by kernel_rfl) H Q
def Ub(M:ak)(c:Ctx):=(ea M c).1
def qkl:=@jh M _ Ue [] [a0,a1,a2] (by kernel_rfl) H Q
def q1u(M:ak)(c:Ctx):=(ea M c).2.1
def q1t:=@jh M _ T6 [] [a0] (by kernel_rfl) H Q
def qy9(M:ak)(c:Ctx):=(ea M c).2.2.1
def qy8:=@jh M _ Uf [] [a0,a1] (by kernel_rfl) H Q
def Nl(M:ak)(c:Ctx):=(ea M c).2.2.2.1
def qr4:=@jh M _ r_ [] [a0,a1,a2,a3] (by kernel_rfl) H Q
def qy1(M:ak)(c:Ctx):=(ea M c).2.2.2.2.1
def qy0:=@jh M _ RH [] [a0,a1,a2] (by kernel_rfl) H Q
def qs5(M:ak)(c:Ctx):=(ea M c).2.2.2.2.2.1
def qs4:=@jh M _ sA [] [a0,a1] (by kernel_rfl) H Q
def j4(M:ak)(c:Ctx):=(ea M c).2.2.2.2.2.2.1
def q1s:=@jh M _ qpu [] [a0,a1] (by kernel_rfl) H Q
def qo6(M:ak)(c:Ctx):=(ea M c).2.2.2.2.2.2.2.1
def qo5:=@jh M _ WY [] [a0,a1] (by kernel_rfl) H Q
def qqg(M:ak)(c:Ctx):=(eb M c).1
def qqf:=@jh M _ _A [] [a0,a1,a2] (by kernel_rfl) H Q
def qzd(M:ak)(c:Ctx):=(eb M c).2.1
def qzc:=@jh M _ oS [] [a0,a1,a2,a3] (by kernel_rfl) H Q
def qwu(M:ak)(c:Ctx):=(eb M c).2.2.1
def qwt:=@jh M _ Wx [] [a0,a1] (by kernel_rfl) H Q
def qww(M:ak)(c:Ctx):=(eb M c).2.2.2.1
def qwv:=@jh M _ XL [] [a0] (by kernel_rfl) H Q
def qg6(M:ak)(c:Ctx):=(eb M c).2.2.2.2.1
def qoa:=@jh M _ Sg [] [a0,a1,a2,a3,a4] (by kernel_rfl) H Q
def Δ(M:ak)(c:Ctx):=(eb M c).2.2.2.2.2.1
def qob:=@jh M _ Uw [] [a0,a1,a2,a3] (by kernel_rfl) H Q
def qg8(M:ak)(c:Ctx):=(eb M c).2.2.2.2.2.2.1
def qoc:=@jh M _ S4 [] [a0,a1,a2,a3,a4] (by kernel_rfl) H Q
def qu2(M:ak)(c:Ctx):=(eb M c).2.2.2.2.2.2.2
def qu1:=@jh M _ _F [] [a0,a1,a2] (by kernel_rfl) H Q
abbrev U3:Nat:=41
abbrev Vg:Nat:=77
abbrev Z2:Nat:=78
abbrev qs7:Nat:=127
abbrev na:Nat:=101
abbrev ql8:Nat:=95
abbrev ql9:Nat:=102
abbrev qqk:Nat:=136
abbrev j_:Nat:=100
abbrev v8:Nat:=141
abbrev Oq:Nat:=98
abbrev _j:Nat:=143
abbrev qpc:Nat:=134
abbrev Ye:Nat:=129
abbrev YJ:Nat:=124
abbrev κ:Nat:=94
abbrev yc:Nat:=168
abbrev NV:Nat:=195
abbrev V1:Nat:=144
abbrev ZO:Nat:=96
abbrev Vb:Nat:=166
abbrev Rf:Nat:=130
abbrev qnb:Nat:=97
abbrev U1:Nat:=59
abbrev mu:Nat:=99
abbrev qmb:Nat:=169
abbrev O1:Nat:=131
abbrev VH:Nat:=91
abbrev T_:Nat:=39
abbrev qg1:Nat:=56
abbrev ju:Nat:=76
abbrev HM:Nat:=140
abbrev wQ:Nat:=87
abbrev AX:Nat:=97
abbrev WM:uh:=[(39,⟨[0,1,2,3,6,8,9,10,11],B2,[0,4,12]⟩,[]),(78,⟨[0,2,3,4,5,6,7,11],B2,[0,11,16,30,43,21,35,48,57,64,69,79]⟩,[]),(41,⟨[0,2,3],B2,[0]⟩,[(1,[0,18,2,4,6,8,10,12,14,16,20,15,22,24,26,28,30,32,34,36,38])]),(56,⟨[0,2],B2,[0,2,10]⟩,[]),(94,⟨[0,2,3,4,5,6,54],B2,[0,4,16,8,39,22,14,45,30,55,63]⟩,[(6,[0,2,4,6,8,10,12,14,16,18,20,24,22,7,13,26,28,30])]),(95,⟨[0,20],B2,[0,4,19]⟩,[]),(96,⟨[0,1,4,5,6,7,8],B2,[0]⟩,[]),(97,⟨[0,2,3],B2,[0]⟩,[]),(98,⟨[0,2,4,5,6,7,8,18],B2,[0,1,5,7,9,26,21,32,36,38,44,50]⟩,[(12,[0,2,4,6,10,12,14,16,8,17,18,20,22])]),(99,⟨[0,1,2,6,7,8],B2,[0]⟩,[]),(100,⟨[0],B2,[0]⟩,[(2,[0,2,4,6,8,10,12,14,16,7,18,20])]),(101,⟨[0,2],B2,[0,14,4,12]⟩,[]),(102,⟨[0],B2,[0]⟩,[]),(59,⟨[0,2],B2,[0]⟩,[]),(124,⟨[0,6],B2,[0,15]⟩,[]),(127,⟨[0,1,4,5],B2,[0,2,10]⟩,[]),(129,⟨[0,1],B2,[0]⟩,[]),(130,⟨[0,1,2,3,4,7,8,9,14,47,48,49],B2,[0,2,30,11,25,19]⟩,[(5,[0,2,4,6,8,10,3,12,14,16]),(6,[0,2,4,6,8,10,12,1,3,14])]),(300130,⟨[0,1,2,3,4,7,8,9,14,47,48,49],B2,[0]⟩,[(5,[0,2,4,6,8,10,3,12,14,16]),(6,[0,2,4,6,8,10,12,1,3,14])]),(200130,⟨[0,1,2,3,4,7,8,9,14,47,48,49],B2,[0]⟩,[(5,[0,2,4,6,8,10,3,12,14,16]),(6,[0,2,4,6,8,10,12,1,3,14])]),(131,⟨[0,1,2,4,6,7,12,71,72,73],B2,[0,8,13,18,30,46,26,32,37,43]⟩,[]),(300131,⟨[0,1,2,4,6,7,12,71,72,73],B2,[0]⟩,[]),(200131,⟨[0,1,2,4,6,7,12,71,72,73],B2,[0]⟩,[]),(134,⟨[0],B2,[0,11]⟩,[]),(91,⟨[0,1,2,3,4,10],B2,[0,2,8]⟩,[(2,[0,2,4,6,8,10,12,14,16,20,22,24,26,30,18,7,27,28,7,32,34,36,38,40])]),(136,⟨[0,1,2,3,8,9,10,11,12],B2,[0]⟩,[]),(141,⟨[0],B2,[0,6]⟩,[]),(143,⟨[0],B2,[0,9]⟩,[(7,[0,2,4,6,8,10,12,14,16,18,9,20])]),(144,⟨[0],B2,[0]⟩,[]),(166,⟨[0,1,2,4,6,8],B2,[0,4,6,12]⟩,[]),(168,⟨[0,1,2,3,4],B2,[0]⟩,[]),(169,⟨[0,1,2,3,6],B2,[0]⟩,[]),(77,⟨[0,1],B2,[0]⟩,[]),(195,⟨[0,1,2,4,5,9,10,11],B2,[0,4,10,19]⟩,[])]
def VK(n:Nat):Kp:=jT n WM
def Ia(n k:Nat):Kp×ai:=(VK n,part (aZ Tryz.prog n) k)
def J'(n k:Nat):Ia n k=(VK n,part (aZ Tryz.prog n) k):=rfl
def yo:=@lE M _ Ia VK J'
attribute [local irreducible] Ia
def jf(M:ak)(c:Ctx):=by
 have h:=pe J' M c WM (by kernel_rfl)
 conv at h=>arg 5;reduce
 delta PR RL oq gE nS gI pj iN mK fU gJ fY oK qP wD su oI pV rW rZ WM at h
 simp only[Ap,Ae,Aw,Ax,Sp,Q2]at h;exact h
def ed(M:ak)(c:Ctx):=(jf M c).2.2.2.2.2.2.2.2
def ee(M:ak)(c:Ctx):=(ed M c).2.2.2.2.2.2.2.2
def ef(M:ak)(c:Ctx):=(ee M c).2.2.2.2.2.2.2.2
def eg(M:ak)(c:Ctx):=(ef M c).2.2.2.2.2.2.2.2
def Kd(M:ak)(c:Ctx):=(jf M c).1
def xi0:=@yo M _ T_ [.tmp 8,.tmp 9] [a0,a1,a2,a3] (by kernel_rfl) H Q
def j7(M:ak)(c:Ctx):=(jf M c).2.1
def q4g:=@yo M _ Z2 [] [a0] (by kernel_rfl) H Q
def _R(M:ak)(c:Ctx):=(jf M c).2.2.1
def Γ:=@yo M _ U3 [.tmp 2,.tmp 3] [a0] (by kernel_rfl) H Q
def h_(M:ak)(c:Ctx):=(jf M c).2.2.2.1
def qn9:=@yo M _ qg1 [.tmp 2] [a0] (by kernel_rfl) H Q
def jb(M:ak)(c:Ctx):=(jf M c).2.2.2.2.1
def qxm:=@yo M _ κ [] [a0] (by kernel_rfl) H Q
def Qb(M:ak)(c:Ctx):=(jf M c).2.2.2.2.2.1
def qvq:=@yo M _ ql8 [] [a0] (by kernel_rfl) H Q
def q0d(M:ak)(c:Ctx):=(jf M c).2.2.2.2.2.2.1
def q0c:=@yo M _ ZO [.tmp 4,.tmp 5] [a0,a1] (by kernel_rfl) H Q
def qxr(M:ak)(c:Ctx):=(jf M c).2.2.2.2.2.2.2.1
def qxq:=@yo M _ qnb [] [a0] (by kernel_rfl) H Q
def zk(M:ak)(c:Ctx):=(ed M c).1
def qxl:=@yo M _ Oq [] [a0] (by kernel_rfl) H Q
def qxt(M:ak)(c:Ctx):=(ed M c).2.1
def qxs:=@yo M _ mu [.tmp 6] [a0,a1,a2] (by kernel_rfl) H Q
def qt4(M:ak)(c:Ctx):=(ed M c).2.2.1
def qt3:=@yo M _ j_ [] [a0] (by kernel_rfl) H Q
def Sh(M:ak)(c:Ctx):=(ed M c).2.2.2.1
def qxk:=@yo M _ na [] [a0] (by kernel_rfl) H Q
def qvs(M:ak)(c:Ctx):=(ed M c).2.2.2.2.1
def qvr:=@yo M _ ql9 [] [a0] (by kernel_rfl) H Q
def qpy(M:ak)(c:Ctx):=(ed M c).2.2.2.2.2.1
def R_:=@yo M _ U1 [.tmp 2] [a0] (by kernel_rfl) H Q
def S8(M:ak)(c:Ctx):=(ed M c).2.2.2.2.2.2.1
def qt5:=@yo M _ YJ [] [a0] (by kernel_rfl) H Q
def qto(M:ak)(c:Ctx):=(ed M c).2.2.2.2.2.2.2.1
def q7g:=@yo M _ qs7 [.tmp 4,.tmp 5] [a0,a1] (by kernel_rfl) H Q
def qz9(M:ak)(c:Ctx):=(ee M c).1
def qz8:=@yo M _ Ye [] [a0,a1] (by kernel_rfl) H Q
def SD:bZ:=funcAt Tryz.prog Rf
def P2:dL:=ib SD 0
abbrev ZB(k:Nat):Kp×ai:=Ia 300130 k
abbrev Yw(k:Nat):Kp×ai:=Ia 200130 k
def vo:nth SD.loops 0=B1 P2/\P2.params=[48,49]:=⟨by kernel_rfl,by kernel_rfl⟩
def qt6:(ZB 0).1.ah=[0,1,2,3,4,7,8,9,14,47,48,49]/\(ZB 0).2=P2.assign:=⟨by kernel_rfl,by kernel_rfl⟩
def qt7:(Yw 0).1.ah=[0,1,2,3,4,7,8,9,14,47,48,49]/\(Yw 0).2=P2.body:=⟨by kernel_rfl,by kernel_rfl⟩
def qvw:M.func Rf=B1 SD:=MK.at (by decide) (by kernel_rfl)
def KO(M:ak)(c:Ctx):=IK (ee M c).2.1.1 (IK (ee M c).2.2.1 (IK (ee M c).2.2.2.1 (IK (ee M c).2.1.2.1 (IK (ee M c).2.1.2.2.1 (IK (ee M c).2.1.2.2.2.1 (IK (ee M c).2.1.2.2.2.2.1 ((ee M c).2.1.2.2.2.2.2)))))))
def qxp:=@yo M _ Rf [] [a0,a1,a2] (by kernel_rfl) H Q
def Ur:bZ:=funcAt Tryz.prog O1
def QS:dL:=ib Ur 0
abbrev Yo(k:Nat):Kp×ai:=Ia 300131 k
abbrev WU(k:Nat):Kp×ai:=Ia 200131 k
def _l:nth Ur.loops 0=B1 QS/\QS.params=[72,73]:=⟨by kernel_rfl,by kernel_rfl⟩
def qsr:(Yo 0).1.ah=[0,1,2,4,6,7,12,71,72,73]/\(Yo 0).2=QS.assign:=⟨by kernel_rfl,by kernel_rfl⟩
def qss:(WU 0).1.ah=[0,1,2,4,6,7,12,71,72,73]/\(WU 0).2=QS.body:=⟨by kernel_rfl,by kernel_rfl⟩
def qt8:M.func O1=B1 Ur:=MK.at (by decide) (by kernel_rfl)
def vi(M:ak)(c:Ctx):=IK (ee M c).2.2.2.2.1.1 (IK (ee M c).2.2.2.2.2.1 (IK (ee M c).2.2.2.2.2.2.1 (IK (ee M c).2.2.2.2.1.2.1 (IK (ee M c).2.2.2.2.1.2.2.1 (IK (ee M c).2.2.2.2.1.2.2.2.1 (IK (ee M c).2.2.2.2.1.2.2.2.2.1 (IK (ee M c).2.2.2.2.1.2.2.2.2.2.1 (IK (ee M c).2.2.2.2.1.2.2.2.2.2.2.1 (IK (ee M c).2.2.2.2.1.2.2.2.2.2.2.2.1 (IK (ee M c).2.2.2.2.1.2.2.2.2.2.2.2.2.1 ((ee M c).2.2.2.2.1.2.2.2.2.2.2.2.2.2)))))))))))
def qvz:=@yo M _ O1 [] [a0,a1,a2] (by kernel_rfl) H Q
def PG(M:ak)(c:Ctx):=(ee M c).2.2.2.2.2.2.2.1
def qz7:=@yo M _ qpc [] [a0] (by kernel_rfl) H Q
def Y3(M:ak)(c:Ctx):=(ef M c).1
def q0e:=@yo M _ VH [] [a0,a1,a2,a3,a4] (by kernel_rfl) H Q
def q4i(M:ak)(c:Ctx):=(ef M c).2.1
def q4h:=@yo M _ qqk [.tmp 8,.tmp 9] [a0,a1,a2,a3] (by kernel_rfl) H Q
def Vw(M:ak)(c:Ctx):=(ef M c).2.2.1
def qra:=@yo M _ v8 [] [a0] (by kernel_rfl) H Q
def PQ(M:ak)(c:Ctx):=(ef M c).2.2.2.1
def qvt:=@yo M _ _j [] [a0] (by kernel_rfl) H Q
def qxo(M:ak)(c:Ctx):=(ef M c).2.2.2.2.1
def qxn:=@yo M _ V1 [] [a0] (by kernel_rfl) H Q
def ε(M:ak)(c:Ctx):=(ef M c).2.2.2.2.2.1
def qvv:=@yo M _ Vb [] [a0,a1,a2] (by kernel_rfl) H Q
def q0b(M:ak)(c:Ctx):=(ef M c).2.2.2.2.2.2.1
def q0a:=@yo M _ yc [.tmp 4] [a0,a1] (by kernel_rfl) H Q
def qvy(M:ak)(c:Ctx):=(ef M c).2.2.2.2.2.2.2.1
def qvx:=@yo M _ qmb [] [a0,a1,a2,a3] (by kernel_rfl) H Q
def qxj(M:ak)(c:Ctx):=(eg M c).1
def qxi:=@yo M _ Vg [] [a0,a1] (by kernel_rfl) H Q
def Rh(M:ak)(c:Ctx):=(eg M c).2
def qvu:=@yo M _ NV [] [a0,a1,a2] (by kernel_rfl) H Q
abbrev KV:Nat:=62
abbrev yg:Nat:=75
abbrev XW:uh:=[(100062,⟨[0,1,2,4,5,6,30],B2,[0,2,29,16]⟩,[(9,[0,2,4,6,8,10,3,12,14,16])]),(9900062,⟨[0,1,2,4,5,6,30],B2,[0,2,16,8,14]⟩,[(9,[0,2,4,6,8,10,3,12,14,16])]),(75,⟨[0],B2,[0]⟩,[])]
def xb3(n:Nat):Kp:=jT n XW
def RY(n k:Nat):Kp×ai:=(xb3 n,part (aZ Tryz.prog n) k)
def Yy(n k:Nat):RY n k=(xb3 n,part (aZ Tryz.prog n) k):=rfl
attribute [local irreducible] RY
def FC(M:ak)(c:Ctx):=by
 have h:=pe Yy M c XW (by kernel_rfl)
 conv at h=>arg 5;reduce
 delta PR RL oq gE nS gI pj iN mK fU gJ fY oK wD oI rW rZ XW at h
 simp only[Ap,Ae,Aw,Ax,Sp,Q2]at h;exact h
def qz3:bZ:=funcAt Tryz.prog KV
abbrev qz5(k:Nat):Kp×ai:=RY 100062 k
abbrev qz6(k:Nat):Kp×ai:=RY 9900062 k
def vd(M:ak)(c:Ctx):=IK (FC M c).1.1 (IK (FC M c).2.1.1 (IK (FC M c).1.2.1 (IK (FC M c).2.1.2.1 (IK (FC M c).1.2.2.1 (IK (FC M c).1.2.2.2 (IK (FC M c).2.1.2.2.1 (IK (FC M c).2.1.2.2.2.1 ((FC M c).2.1.2.2.2.2))))))))
def qz4(h:W M ⟨B5,KV⟩ (qz5 0) B4 (Bz M ⟨B5,KV⟩ (qz6 0) 30 (eG M [.tmp 4,.tmp 5] Q)) (kK 0 [a0,a1]) [] H):FZ M KV [a0,a1] H Q:=QC Yy (MK.at (by decide) (by kernel_rfl:(aX Tryz.prog).func KV=B1 qz3)) (by kernel_rfl) (by kernel_rfl) (by kernel_rfl) (by kernel_rfl) (by kernel_rfl) (by kernel_rfl) h
def qvo{up:Option aG}(h:W M ⟨B5,yg⟩ (RY yg 0) B4 (eG M [] Q) (kK 0 [a0]) [] H):∃e H',jK M yg [a0] up H e up H'/\Q e H':=IP Yy (MK.at (by decide) (by kernel_rfl:(aX Tryz.prog).func yg=B1 (funcAt Tryz.prog yg))) (by kernel_rfl) (by kernel_rfl) (by kernel_rfl) h
def qvp(M:ak)(c:Ctx):=(FC M c).2.2
abbrev yu:Nat:=43
abbrev qs6:Nat:=61
abbrev Lf:Nat:=73
abbrev Vt:Nat:=60
abbrev Qh:Nat:=38
abbrev qzi:Nat:=54
abbrev NG:Nat:=69
abbrev ZZ:Nat:=74
abbrev qg0:Nat:=44
abbrev Zo:Nat:=25
abbrev Ξ:Nat:=27
abbrev TX:Nat:=21
abbrev Z1:Nat:=26
abbrev qjf:Nat:=28
abbrev SG:Nat:=40
abbrev qnq:Nat:=42
abbrev O9:Nat:=48
abbrev Qc:Nat:=49
abbrev OM:Nat:=50
abbrev QU:Nat:=47
abbrev qzj:Nat:=34
abbrev sT:Nat:=56
abbrev vD:Nat:=95
abbrev tE:Nat:=46
abbrev ud:Nat:=65
abbrev Gb:Nat:=90
abbrev Vn:uh:=[(38,⟨[0,2,3,4,5,7,8],B2,[0,4,9]⟩,[]),(300038,⟨[0,2,3,4,5,7,8],B2,[0]⟩,[]),(200038,⟨[0,2,3,4,5,7,8],B2,[0,7]⟩,[]),(25,⟨[0,1,2,3,4,6,8,9,10,11,12,13,14,15,16,48,49],B2,[0,4,12,14,49,19,25,48,31,37,39,47]⟩,[]),(21,⟨[0,1,3,4,5,6,14],B2,[0,2,10,12,20]⟩,[(4,[2,4,0,5,6,8])]),(28,⟨[0,2],B2,[0,2,10]⟩,[]),(26,⟨[0,1,4,5],B2,[0]⟩,[]),(27,⟨[0,1,4,5],B2,[0]⟩,[]),(54,⟨[0,1,2],B2,[0]⟩,[]),(34,⟨[0],B2,[0]⟩,[]),(44,⟨[0,2],B2,[0,2,10]⟩,[]),(40,⟨[0,1,4],B2,[0,2,10]⟩,[]),(42,⟨[0,2],B2,[0,2,10]⟩,[]),(43,⟨[0,1,4,5,6,7,8,11,12,44,45,46,69,70],B2,[0,2,3,18,22,24,47,29,49,35,54,46]⟩,[]),(300043,⟨[0,1,4,5,6,7,8,11,12,44,45,46,69,70],B2,[0]⟩,[]),(200043,⟨[0,1,4,5,6,7,8,11,12,44,45,46,69,70],B2,[0,7]⟩,[]),(69,⟨[0,1],B2,[0,2,8]⟩,[]),(47,⟨[0,1,3,4,5,6,7,8,10,14,30,31,32],B2,[0,4,12,16,41,21,27,40,33]⟩,[(12,[0,2,4,6,8,10,7,12,14])]),(48,⟨[0,1,3,4,5,6,14],B2,[0]⟩,[]),(49,⟨[0,1,3,4,14],B2,[0]⟩,[]),(50,⟨[0,1,3,4,14],B2,[0]⟩,[]),(60,⟨[0,1,4,5,8],B2,[0,2,10]⟩,[]),(61,⟨[0,1,2,3,4],B2,[0]⟩,[]),(73,⟨[0,1,2,5,6,7,11,12,13],B2,[0,4,10,21,16]⟩,[]),(74,⟨[0,1,4,5,21],B2,[0,2,10]⟩,[])]
def Zn(n:Nat):Kp:=jT n Vn
def JR(n k:Nat):Kp×ai:=(Zn n,part (aZ Tryz.prog n) k)
def q3f(n k:Nat):JR n k=(Zn n,part (aZ Tryz.prog n) k):=rfl
def si:=@lE M _ JR Zn q3f
attribute [local irreducible] JR
def kc(M:ak)(c:Ctx):=by
 have h:=pe q3f M c Vn (by kernel_rfl)
 conv at h=>arg 5;reduce
 delta PR RL oq gE nS gI pj iN mK fU gJ fY oK qP su oI pV rW rZ Vn at h
 simp only[Ap,Ae,Aw,Ax,Sp,Q2]at h;exact h
def ei(M:ak)(c:Ctx):=(kc M c).2.2.2.2.2.2.2.2
def ez(M:ak)(c:Ctx):=(ei M c).2.2.2.2.2.2.2.2
def fb(M:ak)(c:Ctx):=(ez M c).2.2.2.2.2.2.2.2
def SH:bZ:=funcAt Tryz.prog Qh
def ON:dL:=ib SH 0
abbrev XM(k:Nat):Kp×ai:=JR 300038 k
abbrev Xd(k:Nat):Kp×ai:=JR 200038 k
def qtt:nth SH.loops 0=B1 ON/\ON.params=[8]:=⟨by kernel_rfl,by kernel_rfl⟩
def q7k:(XM 0).1.ah=[0,2,3,4,5,7,8]/\(XM 0).2=ON.assign:=⟨by kernel_rfl,by kernel_rfl⟩
def q7l:(Xd 0).1.ah=[0,2,3,4,5,7,8]/\(Xd 0).2=ON.body:=⟨by kernel_rfl,by kernel_rfl⟩
def xah:M.func Qh=B1 SH:=MK.at (by decide) (by kernel_rfl)
def TW(M:ak)(c:Ctx):=IK (kc M c).1.1 (IK (kc M c).2.1 (IK (kc M c).2.2.1.1 (IK (kc M c).1.2.1 (IK (kc M c).2.2.1.2 ((kc M c).1.2.2)))))
def xc2:=@si M _ Qh [.tmp 2] [a0] (by kernel_rfl) H Q
def Ak(M:ak)(c:Ctx):=(kc M c).2.2.2.1
def xgr:=@si M _ Zo [.tmp 8,.tmp 9] [a0,a1,a2,a3] (by kernel_rfl) H Q
def X2(M:ak)(c:Ctx):=(kc M c).2.2.2.2.1
def q14:=@si M _ TX [.cS 14 4] [a0,a1] (by kernel_rfl) H Q
def qr7(M:ak)(c:Ctx):=(kc M c).2.2.2.2.2.1
def qr6:=@si M _ qjf [.tmp 2] [a0] (by kernel_rfl) H Q
def _B(M:ak)(c:Ctx):=(kc M c).2.2.2.2.2.2.1
def S':=@si M _ Z1 [.tmp 4,.tmp 5] [a0,a1] (by kernel_rfl) H Q
def qqi(M:ak)(c:Ctx):=(kc M c).2.2.2.2.2.2.2.1
def qqh:=@si M _ Ξ [.tmp 4,.tmp 5] [a0,a1] (by kernel_rfl) H Q
def xc4(M:ak)(c:Ctx):=(ei M c).1
def xc3:=@si M _ qzi [.tmp 2] [a0] (by kernel_rfl) H Q
def xek(M:ak)(c:Ctx):=(ei M c).2.1
def xej:=@si M _ qzj [.tmp 0] [] (by kernel_rfl) H Q
def qg4(M:ak)(c:Ctx):=(ei M c).2.2.1
def qn8:=@si M _ qg0 [.tmp 2] [a0] (by kernel_rfl) H Q
def YS(M:ak)(c:Ctx):=(ei M c).2.2.2.1
def qp6:=@si M _ SG [.tmp 4] [a0,a1] (by kernel_rfl) H Q
def qzh(M:ak)(c:Ctx):=(ei M c).2.2.2.2.1
def qzg:=@si M _ qnq [.tmp 2] [a0] (by kernel_rfl) H Q
def Sy:bZ:=funcAt Tryz.prog yu
def Q1:dL:=ib Sy 0
abbrev ZL(k:Nat):Kp×ai:=JR 300043 k
abbrev Ww(k:Nat):Kp×ai:=JR 200043 k
def qkg:nth Sy.loops 0=B1 Q1/\Q1.params=[70]:=⟨by kernel_rfl,by kernel_rfl⟩
def qsp:(ZL 0).1.ah=[0,1,4,5,6,7,8,11,12,44,45,46,69,70]/\(ZL 0).2=Q1.assign:=⟨by kernel_rfl,by kernel_rfl⟩
def qsq:(Ww 0).1.ah=[0,1,4,5,6,7,8,11,12,44,45,46,69,70]/\(Ww 0).2=Q1.body:=⟨by kernel_rfl,by kernel_rfl⟩
def qt2:M.func yu=B1 Sy:=MK.at (by decide) (by kernel_rfl)
def Xw(M:ak)(c:Ctx):=IK (ei M c).2.2.2.2.2.1.1 (IK (ei M c).2.2.2.2.2.2.1 (IK (ei M c).2.2.2.2.2.2.2.1.1 (IK (ei M c).2.2.2.2.2.1.2.1 (IK (ei M c).2.2.2.2.2.2.2.1.2 (IK (ei M c).2.2.2.2.2.1.2.2.1 (IK (ei M c).2.2.2.2.2.1.2.2.2.1 (IK (ei M c).2.2.2.2.2.1.2.2.2.2.1 (IK (ei M c).2.2.2.2.2.1.2.2.2.2.2.1 (IK (ei M c).2.2.2.2.2.1.2.2.2.2.2.2.1 (IK (ei M c).2.2.2.2.2.1.2.2.2.2.2.2.2.1 (IK (ei M c).2.2.2.2.2.1.2.2.2.2.2.2.2.2.1 (IK (ei M c).2.2.2.2.2.1.2.2.2.2.2.2.2.2.2.1 (IK (ei M c).2.2.2.2.2.1.2.2.2.2.2.2.2.2.2.2.1 ((ei M c).2.2.2.2.2.1.2.2.2.2.2.2.2.2.2.2.2))))))))))))))
def Y':=@si M _ yu [.tmp 4,.tmp 5] [a0,a1] (by kernel_rfl) H Q
def Uh(M:ak)(c:Ctx):=(ez M c).1
def q7m:=@si M _ NG [] [a0,a1] (by kernel_rfl) H Q
def Kx(M:ak)(c:Ctx):=(ez M c).2.1
def qw8:=@si M _ QU [.cS 14 4] [a0,a1] (by kernel_rfl) H Q
def qr9(M:ak)(c:Ctx):=(ez M c).2.2.1
def qr8:=@si M _ O9 [.cS 14 4] [a0,a1] (by kernel_rfl) H Q
def qu7(M:ak)(c:Ctx):=(ez M c).2.2.2.1
def qu6:=@si M _ Qc [.cS 14 4] [a0,a1] (by kernel_rfl) H Q
def qu9(M:ak)(c:Ctx):=(ez M c).2.2.2.2.1
def qu8:=@si M _ OM [.cS 14 4] [a0,a1] (by kernel_rfl) H Q
def q0g(M:ak)(c:Ctx):=(ez M c).2.2.2.2.2.1
def q0f:=@si M _ Vt [.cS 8 4,.tmp 5] [a0,a1] (by kernel_rfl) H Q
def q7d(M:ak)(c:Ctx):=(ez M c).2.2.2.2.2.2.1
def q7c:=@si M _ qs6 [.tmp 4] [a0,a1] (by kernel_rfl) H Q
def qz2(M:ak)(c:Ctx):=(ez M c).2.2.2.2.2.2.2.1
def qz1:=@si M _ Lf [] [a0,a1,a2] (by kernel_rfl) H Q
def q0x(M:ak)(c:Ctx):=(fb M c)
def q0w:=@si M _ ZZ [.cS 21 4,.tmp 5] [a0,a1] (by kernel_rfl) H Q
abbrev mo:Nat:=8
abbrev N':Nat:=7
abbrev D1:Nat:=11
abbrev qth:Nat:=10
abbrev nB:Nat:=12
abbrev Qy:Nat:=17
abbrev qve:Nat:=30
abbrev Oe:Nat:=45
abbrev τ:Nat:=35
abbrev VB:Nat:=22
abbrev y0:Nat:=20
abbrev uF:Nat:=23
abbrev S2:Nat:=24
abbrev qh9:Nat:=29
abbrev tr:Nat:=36
abbrev nO:Nat:=30
abbrev DK:Nat:=80
abbrev zA:Nat:=33
abbrev MH:Nat:=4
abbrev wn:Nat:=29
abbrev Zh:uh:=[(7,⟨[0,1,2,4,5,6,7,8,9,10,11,12,13,14,15,81,82],B2,[0,4,12,16,20,22,30,53,35,41,52]⟩,[]),(8,⟨[0,1,2,3,4],B2,[0,4,19,9,27,15,18]⟩,[]),(10,⟨[0,1,2,3,5,6,7,8,9,11,22,23,24],B2,[0,4,12,29,17,23,28]⟩,[]),(11,⟨[0,1,2,3,5,6,7,8,9,10,23,24],B2,[0,4,12,41,17,23,40,27,35]⟩,[]),(12,⟨[0,1,2,3,5,6,7,8,9,10,11,21,22],B2,[0,2,12,14,33,19,25,32]⟩,[(8,[0,2,4,8,6,1,9,10,12,14,16,18,20])]),(17,⟨[0,1,2,3,5,6,7,8,9,10,11,12,13,30,31],B2,[0,2,12,14,35,19,25,27,29,31]⟩,[]),(300017,⟨[0,1,2,3,5,6,7,8,9,10,11,12,13,30,31],B2,[0]⟩,[]),(200017,⟨[0,1,2,3,5,6,7,8,9,10,11,12,13,30,31],B2,[0,3,11]⟩,[]),(20,⟨[0,1,2,3,5,6,7,8,9],B2,[0,4,12,20]⟩,[]),(22,⟨[0,1,3,4,5,6,7,8,17],B2,[0,4,29,22]⟩,[(7,[0,2,4,6,8,12,14,10,15,16,18])]),(23,⟨[0,1,2,3,5,6,7,8],B2,[0,4,12]⟩,[]),(24,⟨[0,1,4],B2,[0]⟩,[]),(29,⟨[0,2],B2,[0,2,10]⟩,[]),(30,⟨[0,1,2],B2,[0]⟩,[]),(35,⟨[0,1,2,6,7,9,11,12,13],B2,[0,4,25,9,15,24]⟩,[]),(36,⟨[0,1,2,6,7],B2,[0,4,12]⟩,[]),(45,⟨[0,1,3],B2,[0,4,10,17]⟩,[])]
def YM(n:Nat):Kp:=jT n Zh
def PZ(n k:Nat):Kp×ai:=(YM n,part (aZ Tryz.prog n) k)
def q27(n k:Nat):PZ n k=(YM n,part (aZ Tryz.prog n) k):=rfl
def wN:=@lE M _ PZ YM q27
attribute [local irreducible] PZ
def y8(M:ak)(c:Ctx):=by
 have h:=pe q27 M c Zh (by kernel_rfl)
 conv at h=>arg 5;reduce
 delta PR RL oq gE nS gI pj iN mK fU gJ fY oK qP su oI pV rW rZ Zh at h
 simp only[Ap,Ae,Aw,Ax,Sp,Q2]at h;exact h
def fe(M:ak)(c:Ctx):=(y8 M c).2.2.2.2.2.2.2.2
def ff(M:ak)(c:Ctx):=(fe M c).2.2.2.2.2.2.2.2
def jj(M:ak)(c:Ctx):=(y8 M c).1
def qrr:=@wN M _ N' [.tmp 4] [a0,a1] (by kernel_rfl) H Q
def LU(M:ak)(c:Ctx):=(y8 M c).2.1
def xap:=@wN M _ mo [.tmp 2] [a0] (by kernel_rfl) H Q
def Lb(M:ak)(c:Ctx):=(y8 M c).2.2.1
def q79:=@wN M _ qth [.tmp 6,.tmp 7] [a0,a1,a2] (by kernel_rfl) H Q
def Gx(M:ak)(c:Ctx):=(y8 M c).2.2.2.1
def q78:=@wN M _ D1 [.tmp 6,.tmp 7] [a0,a1,a2] (by kernel_rfl) H Q
def Jh(M:ak)(c:Ctx):=(y8 M c).2.2.2.2.1
def q6m:=@wN M _ nB [.tmp 6,.tmp 7] [a0,a1,a2] (by kernel_rfl) H Q
def SZ:bZ:=funcAt Tryz.prog Qy
def Pl:dL:=ib SZ 0
abbrev VS(k:Nat):Kp×ai:=PZ 300017 k
abbrev ZK(k:Nat):Kp×ai:=PZ 200017 k
def _q:nth SZ.loops 0=B1 Pl/\Pl.params=[31]:=⟨by kernel_rfl,by kernel_rfl⟩
def qyq:(VS 0).1.ah=[0,1,2,3,5,6,7,8,9,10,11,12,13,30,31]/\(VS 0).2=Pl.assign:=⟨by kernel_rfl,by kernel_rfl⟩
def qyr:(ZK 0).1.ah=[0,1,2,3,5,6,7,8,9,10,11,12,13,30,31]/\(ZK 0).2=Pl.body:=⟨by kernel_rfl,by kernel_rfl⟩
def q1i:M.func Qy=B1 SZ:=MK.at (by decide) (by kernel_rfl)
def Hp(M:ak)(c:Ctx):=IK (y8 M c).2.2.2.2.2.1.1 (IK (y8 M c).2.2.2.2.2.2.1 (IK (y8 M c).2.2.2.2.2.2.2.1.1 (IK (y8 M c).2.2.2.2.2.1.2.1 (IK (y8 M c).2.2.2.2.2.2.2.1.2.1 (IK (y8 M c).2.2.2.2.2.1.2.2.1 (IK (y8 M c).2.2.2.2.2.2.2.1.2.2 (IK (y8 M c).2.2.2.2.2.1.2.2.2.1 (IK (y8 M c).2.2.2.2.2.1.2.2.2.2.1 (IK (y8 M c).2.2.2.2.2.1.2.2.2.2.2.1 (IK (y8 M c).2.2.2.2.2.1.2.2.2.2.2.2.1 (IK (y8 M c).2.2.2.2.2.1.2.2.2.2.2.2.2.1 (IK (y8 M c).2.2.2.2.2.1.2.2.2.2.2.2.2.2.1 ((y8 M c).2.2.2.2.2.1.2.2.2.2.2.2.2.2.2)))))))))))))
def q6n:=@wN M _ Qy [.tmp 6,.tmp 7] [a0,a1,a2] (by kernel_rfl) H Q
def Np(M:ak)(c:Ctx):=(fe M c).1
def xbp:=@wN M _ y0 [.tmp 6,.tmp 7] [a0,a1,a2] (by kernel_rfl) H Q
def JV(M:ak)(c:Ctx):=(fe M c).2.1
def xea:=@wN M _ VB [.tmp 4] [a0,a1] (by kernel_rfl) H Q
def UG(M:ak)(c:Ctx):=(fe M c).2.2.1
def q6q:=@wN M _ uF [.tmp 6] [a0,a1,a2] (by kernel_rfl) H Q
def q1k(M:ak)(c:Ctx):=(fe M c).2.2.2.1
def q1j:=@wN M _ S2 [.tmp 4] [a0,a1] (by kernel_rfl) H Q
def qid(M:ak)(c:Ctx):=(fe M c).2.2.2.2.1
def qqc:=@wN M _ qh9 [.tmp 2] [a0] (by kernel_rfl) H Q
def xbo(M:ak)(c:Ctx):=(fe M c).2.2.2.2.2.1
def xbn:=@wN M _ qve [.tmp 2] [a0] (by kernel_rfl) H Q
def QR(M:ak)(c:Ctx):=(fe M c).2.2.2.2.2.2.1
def q6p:=@wN M _ τ [.tmp 6] [a0,a1,a2] (by kernel_rfl) H Q
def qo2(M:ak)(c:Ctx):=(fe M c).2.2.2.2.2.2.2.1
def qo1:=@wN M _ tr [.tmp 6] [a0,a1,a2] (by kernel_rfl) H Q
def Pb(M:ak)(c:Ctx):=(ff M c)
def q6o:=@wN M _ Oe [] [a0,a1] (by kernel_rfl) H Q
end
end Go.Am
