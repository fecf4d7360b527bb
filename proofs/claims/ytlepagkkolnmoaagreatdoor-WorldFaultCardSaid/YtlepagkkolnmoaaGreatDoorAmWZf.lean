import Derived.Test.YtlepagkkolnmoaaGreatDoorAmWZd
import Derived.Test.YtlepagkkolnmoaaGreatDoorAmWZa
import Derived.KernelRfl
import Derived.Test.YtlepagkkolnmoaaGreatDoorRows
set_option linter.unusedVariables false
set_option linter.unusedSimpArgs false
set_option linter.defProp false
set_option maxRecDepth 100000
set_option maxHeartbeats 1000000
open And renaming intro→I0
open Bool renaming rec→Pa,false→B2,true→B4
open Go renaming Oper→Qa,Operand→N0,Program→Kc,TypeId→Ma
open Int renaming reduceNegSucc→Qw,reduceOfNat→A5
open List renaming range→N1,rec→A6
open Nat renaming beq→J3,ble→Ow
open Option renaming rec→Ra,none→B5,some→B1
namespace Go.Am
noncomputable section
def PR:Type:=Prop
abbrev WR:=Bool->aI->Env->List aM->ar->PR
abbrev KQ:=Bool->Env->Env->ar->PR
def GH(m:Bool)(o:Option (bC×(Nat->AV)))(H:ar)(K:Bool->AV->ar->Prop):Prop:=jO m o λ g o mk=>K g (mk H.au) (H.alloc o)
def nK{α:Type}:Bool->Option α->(Bool -> α->PR)->PR:=@B3 α
def gB{α β:Type}:Bool->Option (α×β)->(Bool -> α -> β->PR)->PR:=@jO α β
def fO:Bool->AV->(Bool->PR)->(Bool->PR)->PR:=ny
def gH:Bool->Bool->(Bool->PR)->(Bool->PR)->PR:=wD
def jC:Bool->Option AV->Option AV->(Bool->PR)->PR:=N2
def gA:Bool->Option (bC×(Nat->AV))->ar->(Bool->AV->ar->PR)->PR:=GH
def oV:ak->Bool->mA->List AV->ar->(Bool->AV->ar->PR)->PR:=C3
def yG:ak->Bool->(aG->ar->PR)->mA->List AV->ar->(Bool->AV->ar->PR)->PR:=P3
def qL:Bool->List AV->(Bool->mA->List AV->PR)->PR:=V3
def vL:ak->Bool->String->List AV->(Bool->mA->List AV->PR)->PR:=N3
def wG:Option (List Nat)->List Nat->aI->Env->List aM->aG->ar->PR:=PX
def zE:List AV->ar->(aG->ar->PR)->PR:=gD
def gf{α:Type}:(α->PR) -> α->PR:=@JN α
def mF:Bool->aI->aX->Env->List aM->ar->PR:=qF
def om{α:Type}:Bool->Option α->(Bool -> α->PR)->PR:=@LK α
def rW:ak->Ctx->Kp×ai->WR:=W
def qQ:WR->aI->Env->List aM->ar->PR:=dD
def sK:ak->List Nat->Ctx->Nat->Env->List aM->ar->aI->AV->PR:=iE
def nN:WR->aI->aI:=fg
def rU:PR:=False
def oh:Env->Nat->Option AV:=lk
section
variable(M:ak)
def YO(E L R:Env)(t:Nat)(g:Bool)(K:Bool->Env->AV->PR):PR :=
 Ra (motive:=λ _=>PR) (Ra (motive:=λ _=>PR) (om g (oh E t) λ g v=>K g ((t,v)::R) v) (λ v=>K g R v) (lk R t)) (λ v=>K g R v) (lk L t)
def tEV(E L:Env)(l:List bJ):Bool->Env->(Bool->Env->List AV->PR)->PR:=A6 (motive:=λ _=>Bool->Env->(Bool->Env->List AV->PR)->PR) (λ g R K=>K g R [])
 (λ x _ ih g R K=>bJ.casesOn x (λ t=>YO E L R t g λ g R v=>ih g R λ g R vs=>K g R (v::vs)) (λ v=>ih g R λ g R vs=>K g R (v::vs)) (λ b=>ih g R λ g R vs=>K g R (.ptr b 0::vs)) (λ f=>ih g R λ g R vs=>K g R (.fn (.func f) [] []::vs))) l
def hZ(cZ:Bool)(ps:Option (List Nat))(L:Env)(Q:aI)(E:Env)(D:List aM)(g:Bool)(f:mA)(vs:List AV)(H:ar)(K:Bool->AV->ar->PR):PR :=
 cond cZ (yG M g (wG ps (lV L) Q E D) f vs H K) (oV M g f vs H K)
def tOP(cZ:Bool)(dst:Option Nat)(ps:Option (List Nat))(Q:aI)(E:Env)(D:List aM)(L R:Env)(H:ar)(K:KQ)(g:Bool)(vs:List AV):fJ->PR
 | .pure f=>nK g (f vs) λ g v=>K g (lK dst v L) R H
 | .read f=>nK g (f vs H) λ g v=>K g (lK dst v L) R H
 | .alloc f=>gA g (f vs) H λ g v H=>K g (lK dst v L) R H
 | .gN f=>gB g (f vs H) λ g v H=>K g (lK dst v L) R H
 | .iq f=>hZ M cZ ps L Q E D g (.func f) vs H (λ g v H=>K g (lK dst v L) R H)
 | .ik=>qL g vs λ g f vs=>hZ M cZ ps L Q E D g f vs H (λ g v H=>K g (lK dst v L) R H)
 | .invoke name=>vL M g name vs λ g f vs=>hZ M cZ ps L Q E D g f vs H (λ g v H=>K g (lK dst v L) R H)
 | .panic=>cond cZ (zE vs H (wG ps (lV L) Q E D)) rU
 |_=>rU
def tCK(dst:Option Nat)(E L R:Env)(H:ar)(K:KQ)(g:Bool)(vs:List AV):fJ->PR
 | .read f=>match dst with
  |some d=>jC g (f vs H) (Ra (motive:=λ _=>Option AV) (oh E d) (λ v=>B1 v) (lk L d)) λ g=>K g L R H
  |none=>rU
 |_=>rU
def tST(cZ:Bool)(s:aO)(Q:aI)(E:Env)(D:List aM)(K:KQ):KQ:=λ g L R H =>
 tEV E L s.args g R λ g R vs=>match s.ij with
  |false=>tOP M cZ s.dst s.cA Q E D L R H K g vs s.op
  |true=>tCK s.dst E L R H K g vs s.op
def nu(cZ:Bool)(Q:aI)(E:Env)(D:List aM)(K:KQ)(l:List aO):KQ:=A6 (motive:=λ _=>KQ) K (λ s _ ih=>tST M cZ s Q E D ih) l
def si(n:Nat):Type:=Nat.rec (motive:=λ _=>Type) (ar->PR) (λ _ T=>AV->T) n
def VA:(n:Nat)->((Bool->si n)->PR)->(Bool->si n)->PR
 |0=>λ F K=>gf (α:=Bool->ar->PR) (λ k=>F k) K
 |1=>λ F K=>gf (α:=Bool->AV->ar->PR) (λ k=>F k) K
 |2=>λ F K=>gf (α:=Bool->AV->AV->ar->PR) (λ k=>F k) K
 |3=>λ F K=>gf (α:=Bool->AV->AV->AV->ar->PR) (λ k=>F k) K
 |4=>λ F K=>gf (α:=Bool->AV->AV->AV->AV->ar->PR) (λ k=>F k) K
 |5=>λ F K=>gf (α:=Bool->AV->AV->AV->AV->AV->ar->PR) (λ k=>F k) K
 |6=>λ F K=>gf (α:=Bool->AV->AV->AV->AV->AV->AV->ar->PR) (λ k=>F k) K
 |7=>λ F K=>gf (α:=Bool->AV->AV->AV->AV->AV->AV->AV->ar->PR) (λ k=>F k) K
 |8=>λ F K=>gf (α:=Bool->AV->AV->AV->AV->AV->AV->AV->AV->ar->PR) (λ k=>F k) K
 |9=>λ F K=>gf (α:=Bool->AV->AV->AV->AV->AV->AV->AV->AV->AV->ar->PR) (λ k=>F k) K
 |10=>λ F K=>gf (α:=Bool->AV->AV->AV->AV->AV->AV->AV->AV->AV->AV->ar->PR) (λ k=>F k) K
 |11=>λ F K=>gf (α:=Bool->AV->AV->AV->AV->AV->AV->AV->AV->AV->AV->AV->ar->PR) (λ k=>F k) K
 |12=>λ F K=>gf (α:=Bool->AV->AV->AV->AV->AV->AV->AV->AV->AV->AV->AV->AV->ar->PR) (λ k=>F k) K
 |13=>λ F K=>gf (α:=Bool->AV->AV->AV->AV->AV->AV->AV->AV->AV->AV->AV->AV->AV->ar->PR) (λ k=>F k) K
 |14=>λ F K=>gf (α:=Bool->AV->AV->AV->AV->AV->AV->AV->AV->AV->AV->AV->AV->AV->AV->ar->PR) (λ k=>F k) K
 |15=>λ F K=>gf (α:=Bool->AV->AV->AV->AV->AV->AV->AV->AV->AV->AV->AV->AV->AV->AV->AV->ar->PR) (λ k=>F k) K
 |16=>λ F K=>gf (α:=Bool->AV->AV->AV->AV->AV->AV->AV->AV->AV->AV->AV->AV->AV->AV->AV->AV->ar->PR) (λ k=>F k) K
 |17=>λ F K=>gf (α:=Bool->AV->AV->AV->AV->AV->AV->AV->AV->AV->AV->AV->AV->AV->AV->AV->AV->AV->ar->PR) (λ k=>F k) K
 |18=>λ F K=>gf (α:=Bool->AV->AV->AV->AV->AV->AV->AV->AV->AV->AV->AV->AV->AV->AV->AV->AV->AV->AV->ar->PR) (λ k=>F k) K
 |19=>λ F K=>gf (α:=Bool->AV->AV->AV->AV->AV->AV->AV->AV->AV->AV->AV->AV->AV->AV->AV->AV->AV->AV->AV->ar->PR) (λ k=>F k) K
 |20=>λ F K=>gf (α:=Bool->AV->AV->AV->AV->AV->AV->AV->AV->AV->AV->AV->AV->AV->AV->AV->AV->AV->AV->AV->AV->ar->PR) (λ k=>F k) K
 |21=>λ F K=>gf (α:=Bool->AV->AV->AV->AV->AV->AV->AV->AV->AV->AV->AV->AV->AV->AV->AV->AV->AV->AV->AV->AV->AV->ar->PR) (λ k=>F k) K
 |22=>λ F K=>gf (α:=Bool->AV->AV->AV->AV->AV->AV->AV->AV->AV->AV->AV->AV->AV->AV->AV->AV->AV->AV->AV->AV->AV->AV->ar->PR) (λ k=>F k) K
 |23=>λ F K=>gf (α:=Bool->AV->AV->AV->AV->AV->AV->AV->AV->AV->AV->AV->AV->AV->AV->AV->AV->AV->AV->AV->AV->AV->AV->AV->ar->PR) (λ k=>F k) K
 |24=>λ F K=>gf (α:=Bool->AV->AV->AV->AV->AV->AV->AV->AV->AV->AV->AV->AV->AV->AV->AV->AV->AV->AV->AV->AV->AV->AV->AV->AV->ar->PR) (λ k=>F k) K
 |25=>λ F K=>gf (α:=Bool->AV->AV->AV->AV->AV->AV->AV->AV->AV->AV->AV->AV->AV->AV->AV->AV->AV->AV->AV->AV->AV->AV->AV->AV->AV->ar->PR) (λ k=>F k) K
 |26=>λ F K=>gf (α:=Bool->AV->AV->AV->AV->AV->AV->AV->AV->AV->AV->AV->AV->AV->AV->AV->AV->AV->AV->AV->AV->AV->AV->AV->AV->AV->AV->ar->PR) (λ k=>F k) K
 |27=>λ F K=>gf (α:=Bool->AV->AV->AV->AV->AV->AV->AV->AV->AV->AV->AV->AV->AV->AV->AV->AV->AV->AV->AV->AV->AV->AV->AV->AV->AV->AV->AV->ar->PR) (λ k=>F k) K
 |28=>λ F K=>gf (α:=Bool->AV->AV->AV->AV->AV->AV->AV->AV->AV->AV->AV->AV->AV->AV->AV->AV->AV->AV->AV->AV->AV->AV->AV->AV->AV->AV->AV->AV->ar->PR) (λ k=>F k) K
 |_+29=>λ F K=>gf F K
def Ms:∀(n:Nat)(F:(Bool->si n)->PR)(K:Bool->si n),VA n F K=gf F K:=λ n=>by
 unfold VA;split<;>exact λ F K=>rfl
def Zp(n:Nat):(List AV->ar->PR)->si n:=Nat.rec (motive:=λ n=>(List AV->ar->PR)->si n) (λ f=>f []) (λ _ ih f v=>ih λ l=>f (v::l)) n
def Q5(n:Nat):si n->List AV->ar->PR:=Nat.rec (motive:=λ n=>si n->List AV->ar->PR) (λ k _=>k) (λ _ ih k l=>List.casesOn (motive:=λ _=>ar->PR) l (λ _=>rU) λ v l=>ih (k v) l) n
def Yq(cZ:Bool)(Q:aI)(E:Env)(D:List aM)(x:FP)(K:KQ):KQ:=λ g L R H=>match x.1 with
 |none=>nu M cZ Q E D K x.2 g L R H
 |some q=>cond (vV q.1 x.2) (YO E L R q.1 g λ g R v=>VA (cS (bq x.2 []))
  (λ k=>nK g (cP q.2 (B1 v)) λ g w=>gH g w (λ g=>nu M cZ Q E D (λ g L _ H=>Q5 (cS (bq x.2 [])) (k g) (rM (cS (bq x.2 [])) L) H) x.2 g L R H) (λ g=>Q5 (cS (bq x.2 [])) (k g) (sk (cS (bq x.2 []))) H))
  (λ g=>Zp (cS (bq x.2 [])) λ vs H=>K g (lE (bq x.2 []) L vs) R H)) rU
def PO(cZ:Bool)(Q:aI)(E:Env)(D:List aM)(l:List aO)(g:Bool)(H:ar)(K:KQ):PR:=A6 (motive:=λ _=>KQ) K (λ x _ ih=>Yq M cZ Q E D x ih) (Ji l) g [] [] H
def oy(E:Env)(x:bJ)(g:Bool)(K:Bool->AV->PR):PR:=match x with
 | .tmp t=>om g (oh E t) K
 | .const v=>K g v
 | .eF b=>K g (.ptr b 0)
 | .func f=>K g (.fn (.func f) [] [])
def vo(E L R:Env)(x:bJ)(g:Bool)(K:Bool->AV->PR):PR:=match x with
 | .tmp t=>YO E L R t g λ g _ v=>K g v
 | .const v=>K g v
 | .eF b=>K g (.ptr b 0)
 | .func f=>K g (.fn (.func f) [] [])
def tU(rg:Bool->aI->Env->List aM->List aO->Bool->ar->KQ->PR)(ctx:Ctx)(K:Kp)(X:Nat->WR):ai->Nat->WR
 | .skip,_,g,Q,E,D,H=>mF g Q .normal E D H
 | .label _,_,g,Q,E,D,H=>mF g Q .normal E D H
 | .exit id,_,g,Q,E,D,H=>mF g Q (.exit id) E D H
 | .goto l,_,g,Q,E,D,H=>mF g Q (.goto l) E D H
 | .ret,_,g,Q,E,D,H=>mF g Q .ret E D H
 | .stuck,_,_,_,_,_,_=>rU
 | .region l,_,g,Q,E,D,H=>rg K.cZ Q E D l g H λ g L _ H=>mF g Q .normal (dG K.ah E L) D H
 | .seq a b,k,g,Q,E,D,H=>match a,b with
  | .region l,.cond c x y=>rg K.cZ Q E D l g H λ g L R H=>vo E L R c g λ g v=>fO g v (λ g=>(Pa (motive:=λ _=>WR) (tU rg ctx K X x (k+3)) (X (k+3)) (bF (k+3) K.named)) g Q (dG K.ah E L) D H) (λ g=>(Pa (motive:=λ _=>WR) (tU rg ctx K X y (k+3+dA x)) (X (k+3+dA x)) (bF (k+3+dA x) K.named)) g Q (dG K.ah E L) D H)
  | .region l,.seq (.cond c x y) r=>rg K.cZ Q E D l g H λ g L R H=>vo E L R c g λ g v=>fO g v (λ g=>(Pa (motive:=λ _=>WR) (tU rg ctx K X x (k+4)) (X (k+4)) (bF (k+4) K.named)) g (nN (Pa (motive:=λ _=>WR) (tU rg ctx K X r (k+4+dA x+dA y)) (X (k+4+dA x+dA y)) (bF (k+4+dA x+dA y) K.named)) Q) (dG K.ah E L) D H)
   (λ g=>(Pa (motive:=λ _=>WR) (tU rg ctx K X y (k+4+dA x)) (X (k+4+dA x)) (bF (k+4+dA x) K.named)) g (nN (Pa (motive:=λ _=>WR) (tU rg ctx K X r (k+4+dA x+dA y)) (X (k+4+dA x+dA y)) (bF (k+4+dA x+dA y) K.named)) Q) (dG K.ah E L) D H)
  | .region l,b=>rg K.cZ Q E D l g H λ g L _ H=>(Pa (motive:=λ _=>WR) (tU rg ctx K X b (k+2)) (X (k+2)) (bF (k+2) K.named)) g Q (dG K.ah E L) D H
  |a,b=>(Pa (motive:=λ _=>WR) (tU rg ctx K X a (k+1)) (X (k+1)) (bF (k+1) K.named)) g (nN (Pa (motive:=λ _=>WR) (tU rg ctx K X b (k+1+dA a)) (X (k+1+dA a)) (bF (k+1+dA a) K.named)) Q) E D H
 | .cond c x y,k,g,Q,E,D,H=>oy E c g λ g v=>fO g v (λ g=>(Pa (motive:=λ _=>WR) (tU rg ctx K X x (k+1)) (X (k+1)) (bF (k+1) K.named)) g Q E D H) (λ g=>(Pa (motive:=λ _=>WR) (tU rg ctx K X y (k+1+dA x)) (X (k+1+dA x)) (bF (k+1+dA x) K.named)) g Q E D H)
 | .block id b,k,g,Q,E,D,H=>(Pa (motive:=λ _=>WR) (tU rg ctx K X b (k+1)) (X (k+1)) (bF (k+1) K.named)) g (eU id Q) E D H
 | .scope b,k,g,Q,E,D,H=>(Pa (motive:=λ _=>WR) (tU rg ctx K X b (k+1)) (X (k+1)) (bF (k+1) K.named)) g (kK b Q) E D H
 | .loop (B1 _) _,_,_,_,_,_,_=>rU
 | .loop B5 b,k,g,Q,E,D,H=>qQ (Pa (motive:=λ _=>WR) (tU rg ctx K X b (k+1)) (X (k+1)) (bF (k+1) K.named)) Q E D H
 | .rangeFunc f n,_,g,Q,E,D,H=>oy E f g λ g v=>sK M K.ah ctx n E D H Q v
end
def KA(M:ak):Yq M=P7 M:=by
 funext cZ Q E D ⟨o,l⟩ K g L R H;cases o with
 |none=>kernel_rfl
 |some q =>
  unfold Yq;simp only[Ms]
  kernel_rfl
def Ln(M:ak):PO M=rh M:=by
 funext cZ Q E D l g H K;unfold PO rh yN;rw[KA];rfl
def Mq(M:ak)(c:Ctx)(K:Kp)(X:Nat->WX):tU M (rh M) c K X=U M c K X:=by kernel_rfl
def Qn(M:ak)(c:Ctx)(K:Kp)(X:Nat->WX):tU M (PO M) c K X=U M c K X:=by rw[Ln];exact Mq M c K X
abbrev Hs:=List (Nat×List Nat)
def Vf(n:Nat)(l:Hs):Option (List Nat):=A6 (motive:=λ _=>Option (List Nat)) B5 (λ p _ ih=>cond (J3 p.1 n) (B1 p.2) ih) l
def Bw(P:Kc):Nat->Ma->Option aR
 |0,_=>B5
 |d+1,t=>match P.underlying t with
  |some (.struct fs)=>dC.fieldsT P (Bw P d) fs.toList
  |some (.array n e)=>(bR P e).bind λ s=>(oi P e).bind λ a=>(Bw P d e).bind λ q=>B1 (dC.itemsT s a q n 0)
  |_=>dC P 1 t
def Tx(P:Kc)(t:Ma)(neg:Bool)(x y:N0):Option (List bJ×fJ):=(Bw P 20 t).bind λ q=>(nS P.globals.size [x,y]).bind λ l=>B1 (l,.read (Op.eq (.agg q) neg))
def MY(P:Kc)(o:Qa):Option (List bJ×fJ):=match o.op with
 | .binOp op t x y _=>match P.underlying t,op with
  |some (.struct _),.eql=>Tx P t B2 x y
  |some (.struct _),.neq=>Tx P t B4 x y
  |some (.array _ _),.eql=>Tx P t B2 x y
  |some (.array _ _),.neq=>Tx P t B4 x y
  |_,_=>gy P o
 |_=>gy P o
def PI(P:Kc)(ops:Array Qa)(draw:Bool)(h:Option (List Nat)):Option ai :=
 (du (ops.toList.map (MY P))).bind λ l =>
  (du ((Ra (motive:=λ _=>List (Bool×Nat)) ((N1 ops.size).map λ i=>(B2,i)) (λ l=>l.map λ x=>(J3 (x % 2) 1,x / 2)) h).map (jL ops l λ i=>Pa (motive:=λ _=>Option (List Nat)) (B1 []) (OB ops (aT ops l) (mQ (aT ops l).cls (aT ops l).gh ops.size (2*ops.size) 0 []) i) draw))).bind λ steps=>B1 (.region steps)
def jH(P:Kc)(hs:Hs):Nat->Code->Option (ai×List dM)
 |_,.skip=>B1 (.skip,[])
 |_,.region r ops draw=>(PI P ops draw (Pa B5 (Vf r hs) draw)).bind λ c=>B1 (c,[])
 |k,.seq a b=>(jH P hs k a).bind λ a=>(jH P hs (k+a.2.length) b).bind λ b=>B1 (.seq a.1 b.1,a.2++b.2)
 |k,.cond c a b=>(rD P.globals.size c).bind λ c=>(jH P hs k a).bind λ a=>(jH P hs (k+a.2.length) b).bind λ b=>B1 (.cond c a.1 b.1,a.2++b.2)
 |k,.block id b=>(jH P hs k b).bind λ b=>B1 (.block id b.1,b.2)
 |k,.loop b=>(jH P hs k b).bind λ b=>B1 (.loop B5 b.1,b.2)
 |k,.rangeFunc f ps a b=>(rD P.globals.size f).bind λ f=>(jH P hs (k+1) a).bind λ a=>(jH P hs (k+1+a.2.length) b).bind λ b=>B1 (.rangeFunc f k,{params:=ps.toList,assign:=a.1,body:=b.1}::(a.2++b.2))
 |_,.exit id=>B1 (.exit id,[])
 |k,.scope b=>(jH P hs k b).bind λ b=>B1 (.scope b.1,b.2)
 |_,.label l=>B1 (.label l,[])
 |_,.goto l=>B1 (.goto l,[])
 |_,.ret=>B1 (.ret,[])
 |_,.refuse _=>B1 (.stuck,[])
def Fb(n:Nat)(b:ai)(l:List dM):ai:=Pa (motive:=λ _=>ai)
 (Pa (motive:=λ _=>ai) (Pa (motive:=λ _=>ai)
 (Ra (motive:=λ _=>ai) .stuck (λ q=>Pa (motive:=λ _=>ai) q.body q.assign (J3 (n / 100000 % 2) 1)) (nth l (n / 100000 / 2-1))) (Al b) (J3 (n / 100000) 1)) (wO b) (J3 (n / 100000) 99)) b (Ow n 99999)
def bh(P:Kc)(n:Nat):ai:=Fb n (funcAt P (n % 100000)).body (funcAt P (n % 100000)).loops
def J4(P:Kc)(hs:Hs)(n:Nat):ai:=Ra (motive:=λ _=>ai) .stuck (λ f=>Ra (motive:=λ _=>ai) .stuck (λ b=>Ra (motive:=λ _=>ai) .stuck (λ c=>Fb n c.1 c.2) (jH P hs 0 b)) f.body) (P.funcs[n % 100000]?)
abbrev RL:=List (aI->Env->List aM->ar->PR)
abbrev QL:=List (aI->Env->List aM->ar->Prop)
def uZ(M:ak)(c:Ctx)(p:Nat->Kp×ai):List Nat->QL->Prop
 |k::ks,R::l=>(∀Q E D H,W M c (p k) B4 Q E D H=R Q E D H)/\uZ M c p ks l
 |_,_=>True
def Ap(M:ak)(c:Ctx)(p:Nat->Kp×ai)(k a:Nat)(ks:List Nat)(R:aI->Env->List aM->ar->Prop)(l:QL):uZ M c p (k::a::ks) (R::l)=((∀Q E D H,W M c (p k) B4 Q E D H=R Q E D H)/\uZ M c p (a::ks) l):=rfl
def An(M:ak)(c:Ctx)(p:Nat->Kp×ai)(k:Nat)(R:aI->Env->List aM->ar->Prop):uZ M c p [k] [R] = ∀Q E D H,W M c (p k) B4 Q E D H=R Q E D H:=propext ⟨λ h=>h.1,λ h=>⟨h,trivial⟩⟩
def tW(M:ak)(c:Ctx)(K:Kp)(p:Nat->Kp×ai)(r:ai)(ks:List Nat):RL :=
 A6 (motive:=λ _=>RL) [] (λ k _ ih=>(λ Q E D H=>tU M (PO M) c K (λ j=>rW M c (p j)) (part r k) k B4 Q E D H)::ih) ks
def RO{P:Kc}{p:Nat->Nat->Kp×ai}{a:Nat->Kp}(hp:∀n k,p n k=(a n,part (bh P n) k))(M:ak)(c:Ctx)(n:Nat):∀ks:List Nat,uZ M c (p n) ks (tW M c (a n) (p n) (bh P n) ks)
 |[]=>trivial
 |k::ks=>⟨λ Q E D H=>by
  have e:(λ j=>W M c (p n j))=λ j=>W M c (a n,part (bh P n) j):=funext λ j=>by rw[hp]
  show _=tU M (PO M) c (a n) (λ j=>W M c (p n j)) (part (bh P n) k) k B4 Q E D H;rw[hp n k,e,Qn];exact yX rfl,RO hp M c n ks⟩
def ad7(o:bC)(mk:Nat->AV)(H:ar)(K:Bool->AV->ar->Prop):GH B4 (B1 (o,mk)) H K=K B4 (mk H.au) (H.alloc o):=propext kq
def xjw(e:Nat)(z:List AV)(H:ar)(K:Bool->AV->ar->Prop):GH B4 (Op.alloc e z []) H K=K B4 (.ptr H.au 0) (H.alloc (.row z e (0,0) B4)):=propext kq
def GQ(e:Nat)(v:AV)(H:ar)(K:Bool->AV->ar->Prop):GH B4 (Op.box e [v]) H K=K B4 (.ptr H.au 0) (H.alloc (.row v.cells e (0,0) B4)):=propext kq
@[congr]def ab2{m a:Bool}{o o':Option (bC×(Nat->AV))}{H H':ar}{K:Bool->AV->ar->Prop}(hm:m=a)(h:o=o')(b:H=H'):GH m o H K=GH a o' H' K:=by subst hm;subst h;subst b;rfl
abbrev ud:=List (Nat×Kp×Hs)
def jU(n:Nat)(l:ud):Kp:=A6 (motive:=λ _=>Kp) ⟨[],B2,[]⟩ (λ p _ ih=>cond (J3 p.1 n) p.2.1 ih) l
def Dx(M:ak)(c:Ctx)(p:Nat->Nat->Kp×ai):ud->List QL->Prop
 |x::r,l::ls=>uZ M c (p x.1) x.2.1.named l/\Dx M c p r ls
 |_,_=>True
def zR(M:ak)(c:Ctx)(p:Nat->Nat->Kp×ai)(n:Nat)(ks a:List Nat)(b:Bool)(hs:Hs)(y:Nat×Kp×Hs)(r:ud)(l:QL)(ls:List QL):Dx M c p ((n,⟨a,b,ks⟩,hs)::y::r) (l::ls)=(uZ M c (p n) ks l/\Dx M c p (y::r) ls):=rfl
def Ao(M:ak)(c:Ctx)(p:Nat->Nat->Kp×ai)(n:Nat)(ks a:List Nat)(b:Bool)(hs:Hs)(l:QL):Dx M c p [(n,⟨a,b,ks⟩,hs)] [l]=uZ M c (p n) ks l:=propext ⟨λ h=>h.1,λ h=>⟨h,trivial⟩⟩
def tF(M:ak)(c:Ctx)(Kt:Nat->Kp)(p:Nat->Nat->Kp×ai)(r:Nat->Hs->ai)(l:ud):List RL:=A6 (motive:=λ _=>List RL) [] (λ x _ ih=>tW M c (Kt x.1) (p x.1) (r x.1 x.2.2) x.2.1.named::ih) l
def oJ{P:Kc}{p:Nat->Nat->Kp×ai}{a:Nat->Kp}(hp:∀n k,p n k=(a n,part (bh P n) k))(M:ak)(c:Ctx)(l:ud)(e:tF M c a p (λ n _=>bh P n) l=tF M c a p (λ n h=>J4 P h n) l):Dx M c p l (tF M c a p (λ n h=>J4 P h n) l):=by
 rw[<-e];clear e
 induction l with
 |nil=>trivial
 |cons x l ih=>exact⟨RO hp M c x.1 _,ih⟩
def Xh:ei->ei->Bool
 | .tmp a,.tmp b=>J3 a b
 | .kR a,.kR b=>J3 a b
 | .cM a b,.cM c d=>cond (J3 a c) (J3 b d) B2
 |_,_=>B2
def O8{a b:ei}(h:Xh a b=B4):a=b:=by
 cases a with
 |tmp a=>cases b with
  |tmp b=>rw[Jj h]
  |_=>cases h
 |kR a=>cases b with
  |kR b=>rw[Jj h]
  |_=>cases h
 |cM a x=>cases b with
  |cM b y =>
   have h:cond (J3 a b) (J3 x y) B2=true:=h;cases q:J3 a b with
   |true=>rw[q]at h;rw[Jj q,Jj h]
   |false=>rw[q]at h;cases h
  |_=>cases h
def GS:List ei->List ei->Bool
 |[],[]=>B4
 |a::x,b::y=>cond (Xh a b) (GS x y) B2
 |_,_=>B2
def CG:∀{a b:List ei},GS a b=B4->a=b
 |[],[],_=>rfl
 |a::x,b::y,h=>by
  unfold GS at h;cases q:Xh a b with
  |true=>rw[q]at h;rw[O8 q,CG h]
  |false=>rw[q]at h;cases h
def ZO(P:Kc)(tn:List Nat)(K:Kp)(n:Nat)(rs:List ei)(k:Nat):Bool:=cond (Ow n 99999) (cond (bF n tn) B2 (cond (kA 0 k K.ah) (Ra (motive:=λ _=>Bool) B2 (λ F=>GS F.results rs) ((aW P).func n)) B2)) B2
def Sf{P:Kc}{c:List Nat}{K:Kp}{n:Nat}{rs:List ei}{k:Nat}(h:ZO P c K n rs k=B4):Ow n 99999=B4/\bF n c=B2/\kA 0 k K.ah=B4/\(aW P).func n=B1 (funcAt P n)/\(funcAt P n).results=rs:=by
 unfold ZO at h;cases a:Ow n 99999 with
 |false=>rw[a]at h;cases h
 |true =>
 cases b:bF n c with
 |true=>rw[a,b]at h;cases h
 |false =>
 cases d:kA 0 k K.ah with
 |false=>rw[a,b,d]at h;cases h
 |true =>
 rw[a,b,d]at h;unfold funcAt;cases f:(aW P).func n with
 |none=>rw[f]at h;cases h
 |some F=>rw[f]at h;exact⟨rfl,rfl,rfl,rfl,CG h⟩
def ae4{P:Kc}{n:Nat}(h:Ow n 99999=B4):bh P n=(funcAt P n).body:=by
 unfold bh Fb;rw[h,Nat.mod_eq_of_lt (Nat.lt_of_le_of_lt (Nat.le_of_ble_eq_true h) (by decide))]
def Mn(i:Nat)(v:AV)(vs:List AV):kN i (v::vs)=(i,v)::kN (i+1) vs:=rfl
def LX(i:Nat):kN i []=[]:=rfl
def aa:type_of% OX/\(∀(o:bC)mk H K,GH B4 (B1 (o,mk)) H K=K B4 (mk H.au) (H.alloc o))/\(∀e z H K,GH B4 (Op.alloc e z []) H K=K B4 (.ptr H.au 0) (H.alloc (.row z e (0,0) B4)))/\(∀e v H K,GH B4 (Op.box e [v]) H K=K B4 (.ptr H.au 0) (H.alloc (.row v.cells e (0,0) B4)))/\(∀i v vs,kN i (v::vs)=(i,v)::kN (i+1) vs)/\(∀i,kN i []=[])/\(∀{α:Type}(F:α->Prop)(K:α),JN F K=F K):=⟨OX,ad7,xjw,GQ,Mn,LX,JS⟩
def RR{M:ak}{P:Kc}{p:Nat->Nat->Kp×ai}{a:Nat->Kp}(hp:∀n k,p n k=(a n,part (bh P n) k)){n:Nat}{F:bV}(d:M.func n=B1 F){rs:List ei}(hr:F.results=rs){x y t:Nat}(c:rV F.body=B1 (Al F.body,t,wO F.body))(e:bh P x=Al F.body)(f:bh P y=wO F.body)(hk:(a x).ah=(a y).ah){vs:List AV}(b:kA 0 vs.length (a x).ah=B4){H:ar}{Q:bH->ar->Prop}
 (h:W M ⟨B5,n⟩ (p x 0) B4 (Bh M ⟨B5,n⟩ (p y 0) t (eX M rs Q)) (kN 0 vs) [] H):Dd M n vs H Q:=by
 rw[hp,hp,e,f,<-hr]at h;exact Gj d hk c b h
def IB{M:ak}{P:Kc}{p:Nat->Nat->Kp×ai}{a:Nat->Kp}(hp:∀n k,p n k=(a n,part (bh P n) k)){n:Nat}{F:bV}(c:M.func n=B1 F){rs:List ei}(hr:F.results=rs)(d:bh P n=F.body){vs:List AV}(b:kA 0 vs.length (a n).ah=B4){up:Option aG}{H:ar}{Q:bH->ar->Prop}
 (h:W M ⟨B5,n⟩ (p n 0) B4 (eX M rs Q) (kN 0 vs) [] H):∃e H',jW M n vs up H e up H'/\Q e H':=by
 rw[hp,d,<-hr]at h;exact GV c b h
abbrev NV:Nat:=165
abbrev XA:Nat:=93
abbrev Oo:Nat:=134
abbrev U7:Nat:=91
abbrev Ot:Nat:=133
abbrev j3:Nat:=88
abbrev XD:Nat:=256
abbrev hY:Nat:=96
abbrev UY:Nat:=255
abbrev Yt:Nat:=254
abbrev OE:Nat:=129
abbrev qqb:Nat:=164
abbrev LB:Nat:=187
abbrev U1:Nat:=131
abbrev NQ:Nat:=162
abbrev _Y:Nat:=160
abbrev Lr:Nat:=186
abbrev qst:Nat:=163
abbrev Vn:Nat:=45
abbrev q8w:Nat:=5
abbrev xv:Nat:=198
abbrev yp:Nat:=43
abbrev bU:Nat:=3
abbrev We:Nat:=164
abbrev yi:Nat:=232
abbrev BT:Nat:=131
open Go.Proofs Go.Proofs.YtlepagkkolnmoaaGreatDoor
class MK (M:ak):Prop where
 ok:∀n,bF n [5]=B2->M.func n=(aW Tryz.prog).func n
 mt:∀t s,M.kF t s=(aW Tryz.prog).kF t s
def MK.at{M:ak}[h:MK M]{n:Nat}{F:bV}(hn:bF n [5]=B2)(a:(aW Tryz.prog).func n=B1 F):M.func n=B1 F:=(h.ok n hn).trans a
def yO{M:ak}[h:MK M]{n:Nat}{F:bV}(hn:bF n [5]=B2){rs:List ei}(a:(aW Tryz.prog).func n=B1 F/\F.results=rs){ks:Kp}{vs:List AV}(hk:kA 0 vs.length ks.ah=B4){H:ar}{Q:bH->ar->Prop}(hw:W M ⟨B5,n⟩ (ks,part F.body 0) B4 (eX M rs Q) (kN 0 vs) [] H):Dd M n vs H Q:=Pe (MK.at hn a.1) hk (a.2▸hw)
def kQ{M:ak}[MK M]{p:Nat->Nat->Kp×ai}{a:Nat->Kp}(hp:∀n k,p n k=(a n,part (bh Tryz.prog n) k))(n:Nat)(rs:List ei)(vs:List AV)(b:ZO Tryz.prog [5] (a n) n rs vs.length=B4)(H:ar)(Q:bH->ar->Prop)(h:W M ⟨B5,n⟩ (p n 0) B4 (eX M rs Q) (kN 0 vs) [] H):Dd M n vs H Q:=by
 obtain⟨b,c,d,e⟩:=Sf b;exact yO c e (ks:=a n) d (by rw[hp,ae4 b]at h;exact h)
variable{M:ak}[MK M]{H:ar}{Q:bH->ar->Prop}{a0 a1 a2 a3:AV}
abbrev Y9:ud:=[(45,⟨[0,1,4,5],B2,[0,2,10]⟩,[]),(165,⟨[0,2,3,7,8],B2,[0,2,10,15]⟩,[]),(300165,⟨[0,2,3,7,8],B2,[0]⟩,[]),(200165,⟨[0,2,3,7,8],B2,[0]⟩,[]),(134,⟨[0,2,3,7,8],B2,[0,2,10,15]⟩,[]),(300134,⟨[0,2,3,7,8],B2,[0]⟩,[]),(200134,⟨[0,2,3,7,8],B2,[0]⟩,[]),(256,⟨[0,1,2,6,7,8,9,10],B2,[0,2,18,8,20,14,26]⟩,[]),(255,⟨[0,1,2,6,7,8],B2,[0,2,10,12,20]⟩,[]),(88,⟨[0,1,4,5,6,21],B2,[0,4,12]⟩,[]),(254,⟨[0,1,4,5,6,7],B2,[0,2,10,12,20]⟩,[]),(91,⟨[0,1,4,5,6,7,8,21],B2,[0,4,12]⟩,[]),(93,⟨[0,1,4,5,6,7,8],B2,[0,4,12]⟩,[]),(96,⟨[0,1,2,5,6,7,8],B2,[0,4,10]⟩,[(3,[0,2,4,6,8,10,5,12,14,16])]),(133,⟨[0,1,2,3,7,8,9,10,11,12,21],B2,[0,2,23,16,25,33]⟩,[(13,[0,2,4,6,8,5,10,12])]),(164,⟨[0,1,2],B2,[0]⟩,[]),(131,⟨[0,1,2,6,7,8],B2,[0,2,10,12,20]⟩,[]),(163,⟨[0,1],B2,[0]⟩,[]),(129,⟨[0,1,3,4,5,8,9],B2,[0,2,7]⟩,[]),(300129,⟨[0,1,3,4,5,8,9],B2,[0]⟩,[]),(200129,⟨[0,1,3,4,5,8,9],B2,[0]⟩,[]),(162,⟨[0,1,4,5,6,9,10],B2,[0,2,3,5,7,12]⟩,[]),(300162,⟨[0,1,4,5,6,9,10],B2,[0]⟩,[]),(200162,⟨[0,1,4,5,6,9,10],B2,[0,9,15]⟩,[]),(187,⟨[0,1,3,10,11],B2,[0,1,7,9,13,19,34,23,29]⟩,[]),(160,⟨[0,1,2,3,4],B2,[0]⟩,[]),(186,⟨[0,1,2,4,5,26,27],B2,[0,6,12,18,27]⟩,[])]
def Xo(n:Nat):Kp:=jU n Y9
def AO(n k:Nat):Kp×ai:=(Xo n,part (bh Tryz.prog n) k)
def q2t(n k:Nat):AO n k=(Xo n,part (bh Tryz.prog n) k):=rfl
def tA:=@kQ M _ AO Xo q2t
attribute [local irreducible] PR AO nK gB fO gH jC gA oV yG qL vL wG zE gf mF om rW qQ sK nN rU oh eU kK cP AV.undef Op.move Op.pick Op.build Op.nilCheck Op.bin Op.eq Op.un Op.wrap Op.dL Op.eM Op.dq Op.bt Op.dS Op.aB Op.cJ Op.fieldAddr Op.field Op.aP Op.aY Op.bB Op.bN Op.typeAssert Op.extract Op.fE Op.dm Op.oQ Op.cap Op.eB Op.dh Op.dR Op.aF Op.bT Op.ae Op.av Op.cw Op.lookup Op.gJ Op.eI Op.alloc Op.box Op.buildSlice Op.mkMap Op.mkSlice Op.cz Op.dJ Op.makeNoZero Op.store Op.mapUpdate Op.dg Op.eN Op.append Op.copy Op.bZ Op.bW Op.eJ Op.dK
def jz(M:ak)(c:Ctx):=by
 have h:=oJ q2t M c Y9 (by kernel_rfl)
 conv at h=>arg 5;reduce
 delta PR RL oh gA nK gB oV jC mF fO gH gf om qQ sK nN qL rW si Y9 at h
 simp only[zR,Ao,Ap,An,A5,Qw]at h;exact h
def bf(M:ak)(c:Ctx):=(jz M c).2.2.2.2.2.2.2.2
def bo(M:ak)(c:Ctx):=(bf M c).2.2.2.2.2.2.2.2
def cb(M:ak)(c:Ctx):=(bo M c).2.2.2.2.2.2.2.2
def Ef(M:ak)(c:Ctx):=(jz M c).1
def ah1:=@tA M _ Vn [.tmp 4,.tmp 5] [a0,a1] (by kernel_rfl) H Q
def Ur:bV:=funcAt Tryz.prog NV
def Rr:dM:=gY Ur 0
abbrev VE(k:Nat):Kp×ai:=AO 300165 k
abbrev Wl(k:Nat):Kp×ai:=AO 200165 k
def n_:nth Ur.loops 0=B1 Rr/\Rr.params=[8]:=⟨by kernel_rfl,by kernel_rfl⟩
def qtv:(VE 0).1.ah=[0,2,3,7,8]/\(VE 0).2=Rr.assign:=⟨by kernel_rfl,by kernel_rfl⟩
def qtw:(Wl 0).1.ah=[0,2,3,7,8]/\(Wl 0).2=Rr.body:=⟨by kernel_rfl,by kernel_rfl⟩
def qvw:M.func NV=B1 Ur:=MK.at (by decide) (by kernel_rfl)
def _i(M:ak)(c:Ctx):=I0 (jz M c).2.1.1 (I0 (jz M c).2.2.1 (I0 (jz M c).2.2.2.1 (I0 (jz M c).2.1.2.1 (I0 (jz M c).2.1.2.2.1 ((jz M c).2.1.2.2.2)))))
def qxr:=@tA M _ NV [.tmp 2] [a0] (by kernel_rfl) H Q
def Uo:bV:=funcAt Tryz.prog Oo
def Rj:dM:=gY Uo 0
abbrev XG(k:Nat):Kp×ai:=AO 300134 k
abbrev Zj(k:Nat):Kp×ai:=AO 200134 k
def qkc:nth Uo.loops 0=B1 Rj/\Rj.params=[8]:=⟨by kernel_rfl,by kernel_rfl⟩
def qse:(XG 0).1.ah=[0,2,3,7,8]/\(XG 0).2=Rj.assign:=⟨by kernel_rfl,by kernel_rfl⟩
def qsf:(Zj 0).1.ah=[0,2,3,7,8]/\(Zj 0).2=Rj.body:=⟨by kernel_rfl,by kernel_rfl⟩
def qtx:M.func Oo=B1 Uo:=MK.at (by decide) (by kernel_rfl)
def Y'(M:ak)(c:Ctx):=I0 (jz M c).2.2.2.2.1.1 (I0 (jz M c).2.2.2.2.2.1 (I0 (jz M c).2.2.2.2.2.2.1 (I0 (jz M c).2.2.2.2.1.2.1 (I0 (jz M c).2.2.2.2.1.2.2.1 ((jz M c).2.2.2.2.1.2.2.2)))))
def qvx:=@tA M _ Oo [.tmp 2] [a0] (by kernel_rfl) H Q
def q4w(M:ak)(c:Ctx):=(jz M c).2.2.2.2.2.2.2.1
def q4v:=@tA M _ XD [.tmp 6] [a0,a1,a2] (by kernel_rfl) H Q
def q63(M:ak)(c:Ctx):=(bf M c).1
def q62:=@tA M _ UY [.tmp 6] [a0,a1,a2] (by kernel_rfl) H Q
def q4u(M:ak)(c:Ctx):=(bf M c).2.1
def q4t:=@tA M _ j3 [.cM 21 4,.tmp 5] [a0,a1] (by kernel_rfl) H Q
def q4y(M:ak)(c:Ctx):=(bf M c).2.2.1
def q4x:=@tA M _ Yt [.tmp 4,.tmp 5] [a0,a1] (by kernel_rfl) H Q
def q4q(M:ak)(c:Ctx):=(bf M c).2.2.2.1
def q4p:=@tA M _ U7 [.cM 21 4,.tmp 5] [a0,a1] (by kernel_rfl) H Q
def qxt(M:ak)(c:Ctx):=(bf M c).2.2.2.2.1
def qxs:=@tA M _ XA [.cM 8 4,.tmp 5] [a0,a1] (by kernel_rfl) H Q
def qvz(M:ak)(c:Ctx):=(bf M c).2.2.2.2.2.1
def qvy:=@tA M _ hY [.tmp 6] [a0,a1,a2] (by kernel_rfl) H Q
abbrev qq6(k:Nat):Kp×ai:=AO Ot k
def q4s(M:ak)(c:Ctx):=(bf M c).2.2.2.2.2.2.1
def q4r:=@tA M _ Ot [.cM 21 8,.tmp 9,.tmp 10] [a0,a1,a2,a3] (by kernel_rfl) H Q
def q42(M:ak)(c:Ctx):=(bf M c).2.2.2.2.2.2.2.1
def q41:=@tA M _ qqb [.tmp 2] [a0] (by kernel_rfl) H Q
def q9w(M:ak)(c:Ctx):=(bo M c).1
def q9v:=@tA M _ U1 [.tmp 6,.tmp 7] [a0,a1,a2] (by kernel_rfl) H Q
def q68(M:ak)(c:Ctx):=(bo M c).2.1
def q67:=@tA M _ qst [] [a0,a1] (by kernel_rfl) H Q
def TM:bV:=funcAt Tryz.prog OE
def P8:dM:=gY TM 0
abbrev Y2(k:Nat):Kp×ai:=AO 300129 k
abbrev f0(k:Nat):Kp×ai:=AO 200129 k
def J':nth TM.loops 0=B1 P8/\P8.params=[9]:=⟨by kernel_rfl,by kernel_rfl⟩
def q4z:(Y2 0).1.ah=[0,1,3,4,5,8,9]/\(Y2 0).2=P8.assign:=⟨by kernel_rfl,by kernel_rfl⟩
def q40:(f0 0).1.ah=[0,1,3,4,5,8,9]/\(f0 0).2=P8.body:=⟨by kernel_rfl,by kernel_rfl⟩
def q64:M.func OE=B1 TM:=MK.at (by decide) (by kernel_rfl)
def _7(M:ak)(c:Ctx):=I0 (bo M c).2.2.1.1 (I0 (bo M c).2.2.2.1 (I0 (bo M c).2.2.2.2.1 (I0 (bo M c).2.2.1.2.1 ((bo M c).2.2.1.2.2))))
def q9u:=@tA M _ OE [.kR 4] [a0,a1] (by kernel_rfl) H Q
def TX:bV:=funcAt Tryz.prog NQ
def Pn:dM:=gY TX 0
abbrev Wm(k:Nat):Kp×ai:=AO 300162 k
abbrev XE(k:Nat):Kp×ai:=AO 200162 k
def g_:nth TX.loops 0=B1 Pn/\Pn.params=[10]:=⟨by kernel_rfl,by kernel_rfl⟩
def qxw:(Wm 0).1.ah=[0,1,4,5,6,9,10]/\(Wm 0).2=Pn.assign:=⟨by kernel_rfl,by kernel_rfl⟩
def qxx:(XE 0).1.ah=[0,1,4,5,6,9,10]/\(XE 0).2=Pn.body:=⟨by kernel_rfl,by kernel_rfl⟩
def q0b:M.func NQ=B1 TX:=MK.at (by decide) (by kernel_rfl)
def _s(M:ak)(c:Ctx):=I0 (bo M c).2.2.2.2.2.1.1 (I0 (bo M c).2.2.2.2.2.2.1 (I0 (bo M c).2.2.2.2.2.2.2.1.1 (I0 (bo M c).2.2.2.2.2.1.2.1 (I0 (bo M c).2.2.2.2.2.2.2.1.2.1 (I0 (bo M c).2.2.2.2.2.1.2.2.1 (I0 (bo M c).2.2.2.2.2.2.2.1.2.2 (I0 (bo M c).2.2.2.2.2.1.2.2.2.1 (I0 (bo M c).2.2.2.2.2.1.2.2.2.2.1 ((bo M c).2.2.2.2.2.1.2.2.2.2.2)))))))))
def q43:=@tA M _ NQ [.kR 4] [a0,a1] (by kernel_rfl) H Q
def qxv(M:ak)(c:Ctx):=(cb M c).1
def qxu:=@tA M _ LB [] [a0,a1] (by kernel_rfl) H Q
def q66(M:ak)(c:Ctx):=(cb M c).2.1
def q65:=@tA M _ _Y [.tmp 4] [a0,a1] (by kernel_rfl) H Q
def q0d(M:ak)(c:Ctx):=(cb M c).2.2
def q0c:=@tA M _ Lr [] [a0,a1,a2] (by kernel_rfl) H Q
abbrev YH:Nat:=27
abbrev WZ:Nat:=70
abbrev UZ:Nat:=244
abbrev Xm:Nat:=245
abbrev yc:Nat:=246
abbrev WM:Nat:=247
abbrev Ss:Nat:=67
abbrev vm:Nat:=64
abbrev Yx:Nat:=95
abbrev qpc:Nat:=248
abbrev Ps:Nat:=249
abbrev QA:Nat:=250
abbrev _F:Nat:=98
abbrev Vj:Nat:=253
abbrev NO:Nat:=97
abbrev Z1:Nat:=99
abbrev qpd:Nat:=90
abbrev XZ:Nat:=251
abbrev Yn:Nat:=89
abbrev sB:Nat:=92
abbrev qna:Nat:=252
abbrev _T:Nat:=130
abbrev hH:Nat:=94
abbrev ZT:Nat:=132
abbrev W6:Nat:=161
abbrev xr:Nat:=45
abbrev AJ:Nat:=23
abbrev Qe:Nat:=136
abbrev VW:ud:=[(27,⟨[0,1,3,4,5,6,7],B2,[0,4,12]⟩,[]),(248,⟨[0,2],B2,[0]⟩,[]),(249,⟨[0,1,4,5,6,7,8,9,11],B2,[0,2,12,14,24,30]⟩,[]),(250,⟨[0,1,2,6,7,8,9,10],B2,[0,2,12,14,22,28]⟩,[]),(245,⟨[0,1,2,3,8,9,10,11,12,13,14],B2,[0,2,12,20,22,30,32,38]⟩,[]),(244,⟨[0,2],B2,[0,2,17]⟩,[]),(247,⟨[0,2],B2,[0,2,17]⟩,[]),(70,⟨[0,1,4],B2,[0,2,23,16]⟩,[]),(64,⟨[0,1,3,4,5,6,7,8,9,51,69],B2,[0,2,10,12,20,73,34,75,40,85,41,49,53,61]⟩,[]),(67,⟨[0,1,4,5,6,7],B2,[0,2,17,19,27,33]⟩,[]),(246,⟨[0,2],B2,[0,2,10]⟩,[]),(251,⟨[0,1,4],B2,[0,2,17]⟩,[]),(253,⟨[0,1,2,6],B2,[0,2,10]⟩,[]),(252,⟨[0,1,4,5,6],B2,[0]⟩,[]),(98,⟨[0,1],B2,[0]⟩,[]),(89,⟨[0,1,2,4,5,6,8,14],B2,[0,2,41,12,18,28]⟩,[(8,[0,2,4,6,8,10,12,14,7,16,18]),(10,[0,2,4,6,8,10,12,14,7,16,18])]),(90,⟨[0,1,2,4],B2,[0]⟩,[]),(92,⟨[0,1,2,6,11],B2,[0]⟩,[]),(94,⟨[0,1,4,5,6,7],B2,[0,4,12,35,17,23,34]⟩,[]),(95,⟨[0,1,3],B2,[0]⟩,[]),(97,⟨[0,1,3,4,5,6,7,8],B2,[0,4,10,12,20,28]⟩,[]),(99,⟨[0,1,3,4,5],B2,[0,2,10]⟩,[]),(130,⟨[0,1,4],B2,[0]⟩,[]),(132,⟨[0,1,4,5,7,8],B2,[0,2,25,7,13,24]⟩,[]),(161,⟨[0,1,4,5,7,8],B2,[0,2,25,7,13,24]⟩,[])]
def Xc(n:Nat):Kp:=jU n VW
def Jq(n k:Nat):Kp×ai:=(Xc n,part (bh Tryz.prog n) k)
def _5(n k:Nat):Jq n k=(Xc n,part (bh Tryz.prog n) k):=rfl
def wq:=@kQ M _ Jq Xc _5
attribute [local irreducible] Jq
def wl(M:ak)(c:Ctx):=by
 have h:=oJ _5 M c VW (by kernel_rfl)
 conv at h=>arg 5;reduce
 delta PR RL oh gA nK gB oV jC mF fO gH gf om qQ nN qL rW si VW at h
 simp only[zR,Ao,Ap,An,A5,Qw]at h;exact h
def ck(M:ak)(c:Ctx):=(wl M c).2.2.2.2.2.2.2.2
def cn(M:ak)(c:Ctx):=(ck M c).2.2.2.2.2.2.2.2
def cr(M:ak)(c:Ctx):=(cn M c).2.2.2.2.2.2.2.2
def xi8(M:ak)(c:Ctx):=(wl M c).1
def xi7:=@wq M _ YH [.tmp 4,.tmp 5] [a0,a1] (by kernel_rfl) H Q
def q0q(M:ak)(c:Ctx):=(wl M c).2.1
def q0p:=@wq M _ qpc [.tmp 2] [a0] (by kernel_rfl) H Q
abbrev q0r(k:Nat):Kp×ai:=Jq Ps k
def q0t(M:ak)(c:Ctx):=(wl M c).2.2.1
def q0s:=@wq M _ Ps [.tmp 4,.tmp 5,.tmp 6,.tmp 7] [a0,a1] (by kernel_rfl) H Q
abbrev qx3(k:Nat):Kp×ai:=Jq QA k
def qx5(M:ak)(c:Ctx):=(wl M c).2.2.2.1
def qx4:=@wq M _ QA [.tmp 6,.tmp 7,.tmp 8] [a0,a1,a2] (by kernel_rfl) H Q
def q5l(M:ak)(c:Ctx):=(wl M c).2.2.2.2.1
def q5k:=@wq M _ Xm [.tmp 8,.tmp 9,.tmp 10,.tmp 11] [a0,a1,a2,a3] (by kernel_rfl) H Q
def qx2(M:ak)(c:Ctx):=(wl M c).2.2.2.2.2.1
def qx1:=@wq M _ UZ [.tmp 2] [a0] (by kernel_rfl) H Q
def qv5(M:ak)(c:Ctx):=(wl M c).2.2.2.2.2.2.1
def qv4:=@wq M _ WM [.tmp 2] [a0] (by kernel_rfl) H Q
def qx0(M:ak)(c:Ctx):=(wl M c).2.2.2.2.2.2.2.1
def qxz:=@wq M _ WZ [.tmp 4] [a0,a1] (by kernel_rfl) H Q
abbrev OD(k:Nat):Kp×ai:=Jq vm k
def q0o(M:ak)(c:Ctx):=(ck M c).1
def q0n:=@wq M _ vm [.tmp 4,.tmp 5] [a0,a1] (by kernel_rfl) H Q
abbrev q0k(k:Nat):Kp×ai:=Jq Ss k
def q0m(M:ak)(c:Ctx):=(ck M c).2.1
def q0l:=@wq M _ Ss [.tmp 4,.tmp 5] [a0,a1] (by kernel_rfl) H Q
def q0j(M:ak)(c:Ctx):=(ck M c).2.2.1
def q0i:=@wq M _ yc [.tmp 2] [a0] (by kernel_rfl) H Q
def q5p(M:ak)(c:Ctx):=(ck M c).2.2.2.1
def q5o:=@wq M _ XZ [.tmp 4] [a0,a1] (by kernel_rfl) H Q
def q5n(M:ak)(c:Ctx):=(ck M c).2.2.2.2.1
def q5m:=@wq M _ Vj [.tmp 6] [a0,a1,a2] (by kernel_rfl) H Q
def qx9(M:ak)(c:Ctx):=(ck M c).2.2.2.2.2.1
def qx8:=@wq M _ qna [.tmp 4] [a0,a1] (by kernel_rfl) H Q
def qx7(M:ak)(c:Ctx):=(ck M c).2.2.2.2.2.2.1
def qx6:=@wq M _ _F [] [a0,a1] (by kernel_rfl) H Q
def qt3(M:ak)(c:Ctx):=(ck M c).2.2.2.2.2.2.2.1
def qt2:=@wq M _ Yn [.tmp 6] [a0,a1,a2] (by kernel_rfl) H Q
def OJ(M:ak)(c:Ctx):=(cn M c).1
def q0y:=@wq M _ qpd [] [a0,a1,a2] (by kernel_rfl) H Q
def q5r(M:ak)(c:Ctx):=(cn M c).2.1
def q5q:=@wq M _ sB [.cM 11 6] [a0,a1,a2] (by kernel_rfl) H Q
def qot(M:ak)(c:Ctx):=(cn M c).2.2.1
def qos:=@wq M _ hH [.tmp 4] [a0,a1] (by kernel_rfl) H Q
def qmk(M:ak)(c:Ctx):=(cn M c).2.2.2.1
def qv6:=@wq M _ Yx [.tmp 3] [a0,a1] (by kernel_rfl) H Q
abbrev qpr(k:Nat):Kp×ai:=Jq NO k
def q0v(M:ak)(c:Ctx):=(cn M c).2.2.2.2.1
def q0u:=@wq M _ NO [.tmp 4] [a0,a1] (by kernel_rfl) H Q
def q0x(M:ak)(c:Ctx):=(cn M c).2.2.2.2.2.1
def q0w:=@wq M _ Z1 [.tmp 4] [a0,a1] (by kernel_rfl) H Q
def qrp(M:ak)(c:Ctx):=(cn M c).2.2.2.2.2.2.1
def qro:=@wq M _ _T [.tmp 4] [a0,a1] (by kernel_rfl) H Q
def qp5(M:ak)(c:Ctx):=(cn M c).2.2.2.2.2.2.2.1
def qp4:=@wq M _ ZT [.tmp 4] [a0,a1] (by kernel_rfl) H Q
def qwe(M:ak)(c:Ctx):=(cr M c)
def qwd:=@wq M _ W6 [.tmp 4] [a0,a1] (by kernel_rfl) H Q
abbrev Gg:Nat:=63
abbrev quz:Nat:=28
abbrev VD:Nat:=84
abbrev Oc:Nat:=86
abbrev Uc:Nat:=87
abbrev Vk:Nat:=26
abbrev _H:Nat:=127
abbrev KU:Nat:=159
abbrev Kg:Nat:=85
abbrev Ud:Nat:=125
abbrev WO:Nat:=128
abbrev U9:Nat:=46
abbrev YC:Nat:=57
abbrev Z7:Nat:=44
abbrev qew:Nat:=126
abbrev VK:Nat:=158
abbrev sN:Nat:=87
abbrev xbg:Nat:=126
abbrev W4:Nat:=127
abbrev R9:Nat:=130
abbrev f_:Nat:=161
abbrev Yu:ud:=[(26,⟨[0,1,4,5,6,7,8,9,35,36],B2,[0,4,12,14,31,19,25,30]⟩,[]),(63,⟨[0,1,3,4,5,6,7,8,9,37,38],B2,[0,2,10,12,20,28,32,113,42,119,45,61,66,55,71,86,73,99,79]⟩,[]),(28,⟨[0,1,2,5,6],B2,[0,2,10]⟩,[]),(44,⟨[0,2,3],B2,[0,2,10]⟩,[]),(46,⟨[0,1,2,5,6,7,8],B2,[0,4,10]⟩,[]),(84,⟨[0,1,4],B2,[0,2,10]⟩,[]),(85,⟨[0,1,3,4,5,6,9,10],B2,[0,4,51,14,17,26,38]⟩,[]),(86,⟨[0,1,2,5,6,7,8,9,74,75],B2,[0,4,22,10,24,12,32,18,36,41]⟩,[]),(300086,⟨[0,1,2,5,6,7,8,9,74,75],B2,[0]⟩,[]),(200086,⟨[0,1,2,5,6,7,8,9,74,75],B2,[0]⟩,[]),(87,⟨[0,1,4,5,7,11],B2,[0,4,8,18]⟩,[]),(57,⟨[0,1,4,5],B2,[0,2,17]⟩,[]),(125,⟨[0,1,2,3],B2,[0]⟩,[]),(126,⟨[0,1,4],B2,[0]⟩,[]),(127,⟨[0,1,2],B2,[0]⟩,[]),(128,⟨[0,1,4,5,6,7,8],B2,[0,4,12]⟩,[]),(158,⟨[0,1,4,5,7,8],B2,[0,2,25,7,13,24]⟩,[]),(159,⟨[0,1,3,4],B2,[0,4,10,19]⟩,[])]
def X3(n:Nat):Kp:=jU n Yu
def Nj(n k:Nat):Kp×ai:=(X3 n,part (bh Tryz.prog n) k)
def ι(n k:Nat):Nj n k=(X3 n,part (bh Tryz.prog n) k):=rfl
def vT:=@kQ M _ Nj X3 ι
attribute [local irreducible] Nj
def vp(M:ak)(c:Ctx):=by
 have h:=oJ ι M c Yu (by kernel_rfl)
 conv at h=>arg 5;reduce
 delta PR RL oh gA nK gB oV mF fO gH gf om qQ sK nN qL rW si Yu at h
 simp only[zR,Ao,Ap,An,A5,Qw]at h;exact h
def cB(M:ak)(c:Ctx):=(vp M c).2.2.2.2.2.2.2.2
def cC(M:ak)(c:Ctx):=(cB M c).2.2.2.2.2.2.2.2
def xk8(M:ak)(c:Ctx):=(vp M c).1
def xk7:=@vT M _ Vk [.tmp 4,.tmp 5] [a0,a1] (by kernel_rfl) H Q
abbrev Z3(k:Nat):Kp×ai:=Nj Gg k
def qs7(M:ak)(c:Ctx):=(vp M c).2.1
def q6w:=@vT M _ Gg [.tmp 4,.tmp 5] [a0,a1] (by kernel_rfl) H Q
def q9f(M:ak)(c:Ctx):=(vp M c).2.2.1
def q9e:=@vT M _ quz [.tmp 6] [a0,a1,a2] (by kernel_rfl) H Q
def xmf(M:ak)(c:Ctx):=(vp M c).2.2.2.1
def xme:=@vT M _ Z7 [.tmp 2,.tmp 3] [a0] (by kernel_rfl) H Q
def xaa(M:ak)(c:Ctx):=(vp M c).2.2.2.2.1
def q99:=@vT M _ U9 [.tmp 6] [a0,a1,a2] (by kernel_rfl) H Q
def xbv(M:ak)(c:Ctx):=(vp M c).2.2.2.2.2.1
def xbu:=@vT M _ VD [.tmp 4] [a0,a1] (by kernel_rfl) H Q
abbrev Td(k:Nat):Kp×ai:=Nj Kg k
def q4a(M:ak)(c:Ctx):=(vp M c).2.2.2.2.2.2.1
def q39:=@vT M _ Kg [.tmp 4] [a0,a1] (by kernel_rfl) H Q
def Ux:bV:=funcAt Tryz.prog Oc
def QW:dM:=gY Ux 0
abbrev Zd(k:Nat):Kp×ai:=Nj 300086 k
abbrev YV(k:Nat):Kp×ai:=Nj 200086 k
def qnr:nth Ux.loops 0=B1 QW/\QW.params=[75]:=⟨by kernel_rfl,by kernel_rfl⟩
def qxm:(Zd 0).1.ah=[0,1,2,5,6,7,8,9,74,75]/\(Zd 0).2=QW.assign:=⟨by kernel_rfl,by kernel_rfl⟩
def qxn:(YV 0).1.ah=[0,1,2,5,6,7,8,9,74,75]/\(YV 0).2=QW.body:=⟨by kernel_rfl,by kernel_rfl⟩
def qz8:M.func Oc=B1 Ux:=MK.at (by decide) (by kernel_rfl)
def _N(M:ak)(c:Ctx):=I0 (vp M c).2.2.2.2.2.2.2.1.1 (I0 (cB M c).1 (I0 (cB M c).2.1 (I0 (vp M c).2.2.2.2.2.2.2.1.2.1 (I0 (vp M c).2.2.2.2.2.2.2.1.2.2.1 (I0 (vp M c).2.2.2.2.2.2.2.1.2.2.2.1 (I0 (vp M c).2.2.2.2.2.2.2.1.2.2.2.2.1 (I0 (vp M c).2.2.2.2.2.2.2.1.2.2.2.2.2.1 (I0 (vp M c).2.2.2.2.2.2.2.1.2.2.2.2.2.2.1 (I0 (vp M c).2.2.2.2.2.2.2.1.2.2.2.2.2.2.2.1 (I0 (vp M c).2.2.2.2.2.2.2.1.2.2.2.2.2.2.2.2.1 ((vp M c).2.2.2.2.2.2.2.1.2.2.2.2.2.2.2.2.2)))))))))))
def q36:=@vT M _ Oc [.tmp 6] [a0,a1,a2] (by kernel_rfl) H Q
def q38(M:ak)(c:Ctx):=(cB M c).2.2.1
def q37:=@vT M _ Uc [.cM 11 4] [a0,a1] (by kernel_rfl) H Q
def xct(M:ak)(c:Ctx):=(cB M c).2.2.2.1
def xcs:=@vT M _ YC [.tmp 4,.tmp 5] [a0,a1] (by kernel_rfl) H Q
def u4(M:ak)(c:Ctx):=(cB M c).2.2.2.2.1
def qxo:=@vT M _ Ud [.tmp 3] [a0,a1] (by kernel_rfl) H Q
def qj2(M:ak)(c:Ctx):=(cB M c).2.2.2.2.2.1
def qj1:=@vT M _ qew [.tmp 4] [a0,a1] (by kernel_rfl) H Q
def q0a(M:ak)(c:Ctx):=(cB M c).2.2.2.2.2.2.1
def qz9:=@vT M _ _H [.tmp 2] [a0] (by kernel_rfl) H Q
def q7i(M:ak)(c:Ctx):=(cB M c).2.2.2.2.2.2.2.1
def q7h:=@vT M _ WO [.cM 8 4,.tmp 5] [a0,a1] (by kernel_rfl) H Q
def ql0(M:ak)(c:Ctx):=(cC M c).1
def qlz:=@vT M _ VK [.tmp 4] [a0,a1] (by kernel_rfl) H Q
def qvp(M:ak)(c:Ctx):=(cC M c).2
def qvo:=@vT M _ KU [] [a0,a1] (by kernel_rfl) H Q
abbrev N6:Nat:=54
abbrev Jx:Nat:=69
abbrev TN:Nat:=237
abbrev UA:Nat:=238
abbrev UI:Nat:=239
abbrev SH:Nat:=240
abbrev RI:Nat:=52
abbrev Qu:Nat:=53
abbrev SY:Nat:=241
abbrev Uv:Nat:=242
abbrev SM:Nat:=243
abbrev iw:Nat:=66
abbrev Q3:Nat:=68
abbrev Zm:Nat:=65
abbrev VZ:Nat:=16
abbrev VX:Nat:=62
abbrev Mf:Nat:=89
abbrev MZ:Nat:=90
variable{a4:AV}
abbrev V0:ud:=[(16,⟨[0,1,2,4,5,6,7,8,9,10,11,12,13,37,38,60,61,62],B2,[0,4,12,14,41,19,58,46,25,52,40,31,57,39]⟩,[]),(242,⟨[0,1,2,6,7,8,9,10],B2,[0,4,12]⟩,[]),(243,⟨[0,1,2,3,8,9,10,11],B2,[0,4,12]⟩,[]),(238,⟨[0,1,2,3,4,10,11,12,13,14],B2,[0,4,12]⟩,[]),(237,⟨[0,1,4],B2,[0]⟩,[]),(240,⟨[0,1,4],B2,[0]⟩,[]),(54,⟨[0,1,2,5,6],B2,[0]⟩,[]),(53,⟨[0,1,2,6,7,8,9],B2,[0,4,12]⟩,[]),(52,⟨[0,1,4,5,6,7,8,11],B2,[0,2,17,21,23,29]⟩,[]),(241,⟨[0,1,4,5],B2,[0]⟩,[]),(239,⟨[0,1,4,5],B2,[0]⟩,[]),(65,⟨[0,1],B2,[0]⟩,[]),(66,⟨[0,1,4,5],B2,[0,2,17]⟩,[]),(68,⟨[0,1,2,6,7,8],B2,[0,4,12]⟩,[]),(69,⟨[0,1,3],B2,[0]⟩,[]),(62,⟨[0,1,2,6,7],B2,[0,4,12]⟩,[])]
def Z5(n:Nat):Kp:=jU n V0
def Wf(n k:Nat):Kp×ai:=(Z5 n,part (bh Tryz.prog n) k)
def _n(n k:Nat):Wf n k=(Z5 n,part (bh Tryz.prog n) k):=rfl
def vI:=@kQ M _ Wf Z5 _n
attribute [local irreducible] Wf
def vS(M:ak)(c:Ctx):=by
 have h:=oJ _n M c V0 (by kernel_rfl)
 conv at h=>arg 5;reduce
 delta PR RL oh gA nK gB oV mF fO gH gf om qQ nN qL rW si V0 at h
 simp only[zR,Ao,Ap,An,A5,Qw]at h;exact h
def cL(M:ak)(c:Ctx):=(vS M c).2.2.2.2.2.2.2.2
def Sx(M:ak)(c:Ctx):=(vS M c).1
def xkr:=@vI M _ VZ [.tmp 4,.tmp 5] [a0,a1] (by kernel_rfl) H Q
def q6s(M:ak)(c:Ctx):=(vS M c).2.1
def q6r:=@vI M _ Uv [.tmp 6,.tmp 7,.tmp 8] [a0,a1,a2] (by kernel_rfl) H Q
def q3v(M:ak)(c:Ctx):=(vS M c).2.2.1
def q3u:=@vI M _ SM [.tmp 8,.tmp 9] [a0,a1,a2,a3] (by kernel_rfl) H Q
def q9a(M:ak)(c:Ctx):=(vS M c).2.2.2.1
def q89:=@vI M _ UA [.tmp 10,.tmp 11,.tmp 12] [a0,a1,a2,a3,a4] (by kernel_rfl) H Q
def q3t(M:ak)(c:Ctx):=(vS M c).2.2.2.2.1
def q3s:=@vI M _ TN [.tmp 4] [a0,a1] (by kernel_rfl) H Q
def qzp(M:ak)(c:Ctx):=(vS M c).2.2.2.2.2.1
def qzo:=@vI M _ SH [.tmp 4] [a0,a1] (by kernel_rfl) H Q
def Zs(M:ak)(c:Ctx):=(vS M c).2.2.2.2.2.2.1
def U8:=@vI M _ N6 [.tmp 6] [a0,a1,a2] (by kernel_rfl) H Q
def X_(M:ak)(c:Ctx):=(vS M c).2.2.2.2.2.2.2.1
def qs0:=@vI M _ Qu [.tmp 6] [a0,a1,a2] (by kernel_rfl) H Q
def qno(M:ak)(c:Ctx):=(cL M c).1
def q_:=@vI M _ RI [.cM 11 4,.tmp 5] [a0,a1] (by kernel_rfl) H Q
def q6q(M:ak)(c:Ctx):=(cL M c).2.1
def q6p:=@vI M _ SY [.tmp 4] [a0,a1] (by kernel_rfl) H Q
def q6o(M:ak)(c:Ctx):=(cL M c).2.2.1
def q6n:=@vI M _ UI [.tmp 4] [a0,a1] (by kernel_rfl) H Q
def q6u(M:ak)(c:Ctx):=(cL M c).2.2.2.1
def q6t:=@vI M _ Zm [] [a0,a1] (by kernel_rfl) H Q
def xbm(M:ak)(c:Ctx):=(cL M c).2.2.2.2.1
def xbl:=@vI M _ iw [.tmp 4,.tmp 5] [a0,a1] (by kernel_rfl) H Q
def δ(M:ak)(c:Ctx):=(cL M c).2.2.2.2.2.1
def O':=@vI M _ Q3 [.tmp 6] [a0,a1,a2] (by kernel_rfl) H Q
def qw8(M:ak)(c:Ctx):=(cL M c).2.2.2.2.2.2.1
def qw7:=@vI M _ Jx [.tmp 3] [a0,a1] (by kernel_rfl) H Q
def qov(M:ak)(c:Ctx):=(cL M c).2.2.2.2.2.2.2
def qou:=@vI M _ VX [.tmp 6] [a0,a1,a2] (by kernel_rfl) H Q
abbrev qh5:Nat:=190
abbrev ZZ:Nat:=105
abbrev Tk:Nat:=139
abbrev R6:Nat:=140
abbrev T6:Nat:=141
abbrev SD:Nat:=142
abbrev Nt:Nat:=138
abbrev MO:Nat:=169
abbrev Xn:Nat:=170
abbrev pN:Nat:=42
abbrev ju:Nat:=111
abbrev Aw:Nat:=100
abbrev kj:Nat:=0
abbrev U5:ud:=[(105,⟨[0,1,2,3,4,5,6,7,8,9,10,11,12,13,14,49],B2,[0,2,10,14,18,22,129,38,50,62,74,86,98,110,122]⟩,[(7,[0,2,4,8,10,12,16,18,20,6,13,21,14,21,22,24,26,28])]),(139,⟨[0,1,2,4,5],B2,[0]⟩,[]),(140,⟨[0,1,2,4,5],B2,[0,2,10,18]⟩,[]),(141,⟨[0,1,3,5],B2,[0]⟩,[]),(142,⟨[0,1,3],B2,[0]⟩,[]),(170,⟨[0,1,4],B2,[0]⟩,[]),(190,⟨[0,1,4],B2,[0]⟩,[])]
def ZQ(n:Nat):Kp:=jU n U5
def YK(n k:Nat):Kp×ai:=(ZQ n,part (bh Tryz.prog n) k)
def q2s(n k:Nat):YK n k=(ZQ n,part (bh Tryz.prog n) k):=rfl
def LP:=@kQ M _ YK ZQ q2s
attribute [local irreducible] YK
def LL(M:ak)(c:Ctx):=by
 have h:=oJ q2s M c U5 (by kernel_rfl)
 conv at h=>arg 5;reduce
 delta PR RL oh gA nK gB oV jC mF fO gH gf om nN qL rW si U5 at h
 simp only[zR,Ao,Ap,An,A5,Qw]at h;exact h
def af1(M:ak)(c:Ctx):=(LL M c).1
def ai0:=@LP M _ ZZ [.cM 5 6] [a0,a1,a2] (by kernel_rfl) H Q
def YF:bV:=funcAt Tryz.prog Nt
def h_:Kp:=⟨[0,1,2,3,4,5,6,19,20],B2,[0,4,9,15,26,27]⟩
def xO(k:Nat):Kp×ai:=(h_,part YF.body k)
def xe1(M:ak)(c:Ctx):(WE M c (xO 0) λ Q E D H=>Lz E 0 λ g f=>A3 g Aw (AV.cells f) H λ g b H1=>Fl g 0 b H1 λ g h=>C3 M g (.func MO) [h] H1 λ g a o=>B3 g ((Op.extract 0) [a]) λ g d=>B3 g ((Op.extract 1) [a]) λ g e=>W M c (xO 4) g Q ((4,e)::(3,d)::(2,(.bool B2))::(1,b)::E) D o) /\
 (WE M c (xO 4) λ Q E D H=>Lz E 1 λ g a=>Fl g 1 a H λ g b=>Fl g 2 a H λ g d=>Fl g 3 a H λ g e=>B3 g ((Op.build [(.int .i64 0),(.int .i64 0),(.int .i64 0)] [(0,1),(1,1),(2,1)]) [b,d,e]) λ g f=>dD (W M c (xO 9)) (eU 0 (fg (W M c (xO 27)) Q)) ((20,(.int .i64 0))::(19,f)::E) D H) /\
 (WE M c (xO 27) λ Q E D H=>Lz E 4 λ g a=>qF g Q .ret ((2,a)::E) D H) /\
 (WE M c (xO 9) λ Q E D H=>Lz E 20 λ g a=>Cb g .lss a (.int .i64 3) (λ g=>Gt g M c (xO 15) Q E D H) (λ g=>qF g (fg (W M c (xO 15)) Q) (.exit 0) E D H)) /\
 (WE M c (xO 15) λ Q E D H=>Lz E 20 λ g b=>Ly g E 19 λ g j=>B3 g ((Op.bB 3 1 B5) [j,b]) λ g a=>Ly g E 3 λ g r=>B3 g (Op.bN [(.str [65,66,67]),b]) λ g l=>C3 M g (.func Xn) [r,l] H λ g m H1=>Bn g .geq m (.int .i64 0) λ g e=>JN (λ(k:Bool->AV->AV->AV->ar->Prop)=>B3 g (cP B4 (B1 e)) λ g w=>wD g w (λ g=>Bn g .lss a (.int .i64 0) λ g i=>k g i i a H1) (λ g=>k g uu uu uu H1)) (λ g d _ _ o=>JN (λ(k:Bool->AV->AV->ar->Prop)=>B3 g (cP B2 (B1 d)) λ g w=>wD g w (λ g=>Bn g .geq a (.int .i64 8) λ g n=>k g n a o) (λ g=>k g uu uu o)) (λ g f _ s=>JN (λ(k:Bool->AV->ar->Prop)=>B3 g (cP B4 (B1 e)) λ g w=>wD g w (λ g=>B3 g (Op.pick [d,(.bool B4),f]) λ g p=>k g p s) (λ g=>k g uu s)) (λ g h t=>B3 g (Op.pick [e,h,(.bool B2)]) λ g q=>ny g q (λ g=>qF g (eU 1 (fg (W M c (xO 26)) Q)) .ret ((2,(.bool B2))::(6,a)::(5,b)::E) D t) (λ g=>qF g (eU 1 (fg (W M c (xO 26)) Q)) .normal ((6,a)::(5,b)::E) D t))))) /\
 (WE M c (xO 26) λ Q E D H=>Lz E 20 λ g a=>Bn g .add a (.int .i64 1) λ g b=>qF g Q .normal ((20,b)::E) D H):=by(repeat' apply I0)<;>(intro _ _ _ _;refine yX ?_;kernel_rfl)
def xez:(aW Tryz.prog).func Nt=B1 YF/\YF.results=[.tmp 2]:=Y3 (by kernel_rfl)
def xe0(h:W M ⟨B5,Nt⟩ (xO 0) B4 (eX M [.tmp 2] Q) [(0,a0)] [] H):Dd M Nt [a0] H Q:=yO (by decide) xez (ks:=h_) (by kernel_rfl) h
def xio(M:ak)(c:Ctx):=(LL M c).2.1
def xin:=@LP M _ Tk [.cM 5 4] [a0,a1,a2] (by kernel_rfl) H Q
def xiq(M:ak)(c:Ctx):=(LL M c).2.2.1
def xip:=@LP M _ R6 [.cM 5 4] [a0,a1,a2] (by kernel_rfl) H Q
def xis(M:ak)(c:Ctx):=(LL M c).2.2.2.1
def xir:=@LP M _ T6 [.cM 5 3] [a0,a1] (by kernel_rfl) H Q
def xiu(M:ak)(c:Ctx):=(LL M c).2.2.2.2.1
def xit:=@LP M _ SD [.tmp 3] [a0,a1] (by kernel_rfl) H Q
def ZU:bV:=funcAt Tryz.prog MO
def E1:Kp:=⟨[0,2,3],B2,[0,2,10]⟩
def MA(k:Nat):Kp×ai:=(E1,part ZU.body k)
def xe4(M:ak)(c:Ctx):(WE M c (MA 0) λ Q E D H=>W M c (MA 2) B4 Q ((3,(.bool B2))::(2,(.str []))::E) D H) /\
 (WE M c (MA 2) λ Q E D H=>Lz E 0 λ g a=>Bn g .lss a (.int .i64 1) λ g d=>JN (λ(k:Bool->AV->AV->ar->Prop)=>B3 g (cP B2 (B1 d)) λ g w=>wD g w (λ g=>Bn g .geq a (.int .i64 19) λ g e=>k g e a H) (λ g=>k g uu uu H)) (λ g b _ H1=>B3 g (Op.pick [d,(.bool B4),b]) λ g f=>ny g f (λ g=>qF g (fg (W M c (MA 10)) Q) .ret ((3,(.bool B2))::(2,(.str []))::E) D H1) (λ g=>Gt g M c (MA 10) Q E D H1))) /\
 (WE M c (MA 10) λ Q E D H=>Lz E 0 λ g d=>B3 g ((Op.aY 19 2) [(.ptr kj 0),d]) λ g a=>Fl g 1 a H λ g b=>qF g Q .ret ((3,(.bool B4))::(2,b)::E) D H):=by(repeat' apply I0)<;>(intro _ _ _ _;refine yX ?_;kernel_rfl)
def xe2:(aW Tryz.prog).func MO=B1 ZU/\ZU.results=[.tmp 2,.tmp 3]:=Y3 (by kernel_rfl)
def xe3(h:W M ⟨B5,MO⟩ (MA 0) B4 (eX M [.tmp 2,.tmp 3] Q) [(0,a0)] [] H):Dd M MO [a0] H Q:=yO (by decide) xe2 (ks:=E1) (by kernel_rfl) h
def qup(M:ak)(c:Ctx):=(LL M c).2.2.2.2.2.1
def qun:=@LP M _ Xn [.tmp 4] [a0,a1] (by kernel_rfl) H Q
def qdu(M:ak)(c:Ctx):=(LL M c).2.2.2.2.2.2
def qh6:=@LP M _ qh5 [.tmp 4] [a0,a1] (by kernel_rfl) H Q
abbrev qqj:Nat:=43
abbrev qpe:Nat:=157
abbrev qpf:Nat:=124
abbrev qsz:Nat:=103
abbrev qk8:Nat:=73
abbrev qpg:Nat:=111
abbrev Xb:Nat:=107
abbrev χ:Nat:=101
abbrev qph:Nat:=56
abbrev qnb:Nat:=143
abbrev Λ:Nat:=32
abbrev HS:Nat:=147
abbrev QG:Nat:=144
abbrev YS:ud:=[(32,⟨[0],B2,[0]⟩,[]),(107,⟨[0,1,2,6,7],B2,[0,4,10]⟩,[]),(43,⟨[0,2,8],B2,[0,2,10]⟩,[]),(103,⟨[0,2],B2,[0,2,10]⟩,[]),(124,⟨[0,1,4],B2,[0,2,10,18]⟩,[]),(111,⟨[0,2,3],B2,[0,2,10]⟩,[]),(73,⟨[0,2,3],B2,[0,4,10]⟩,[]),(157,⟨[0,2,3],B2,[0,4,10]⟩,[]),(143,⟨[0,1,4],B2,[0,2,10,18]⟩,[]),(56,⟨[0,2],B2,[0]⟩,[]),(101,⟨[0,2],B2,[0,2,10,18]⟩,[])]
def ZV(n:Nat):Kp:=jU n YS
def Wj(n k:Nat):Kp×ai:=(ZV n,part (bh Tryz.prog n) k)
def v8(n k:Nat):Wj n k=(ZV n,part (bh Tryz.prog n) k):=rfl
def DO:=@kQ M _ Wj ZV v8
attribute [local irreducible] Wj
def Eo(M:ak)(c:Ctx):=by
 have h:=oJ v8 M c YS (by kernel_rfl)
 conv at h=>arg 5;reduce
 delta PR RL oh gA nK gB oV mF fO gH gf om nN rW si YS at h
 simp only[zR,Ao,Ap,An,A5,Qw]at h;exact h
def xji(M:ak)(c:Ctx):=(Eo M c).1
def xjh:=@DO M _ Λ [.tmp 0] [] (by kernel_rfl) H Q
def qrk(M:ak)(c:Ctx):=(Eo M c).2.1
def q53:=@DO M _ Xb [.tmp 6] [a0,a1,a2] (by kernel_rfl) H Q
def q52(M:ak)(c:Ctx):=(Eo M c).2.2.1
def q51:=@DO M _ qqj [.cM 8 2] [a0] (by kernel_rfl) H Q
def q7l(M:ak)(c:Ctx):=(Eo M c).2.2.2.1
def q7k:=@DO M _ qsz [.tmp 2] [a0] (by kernel_rfl) H Q
def uF(M:ak)(c:Ctx):=(Eo M c).2.2.2.2.1
def q01:=@DO M _ qpf [.tmp 4] [a0,a1] (by kernel_rfl) H Q
def q03(M:ak)(c:Ctx):=(Eo M c).2.2.2.2.2.1
def q02:=@DO M _ qpg [.tmp 2] [a0] (by kernel_rfl) H Q
def Tf(M:ak)(c:Ctx):=(Eo M c).2.2.2.2.2.2.1
def qt5:=@DO M _ qk8 [.tmp 2] [a0] (by kernel_rfl) H Q
def _8(M:ak)(c:Ctx):=(Eo M c).2.2.2.2.2.2.2.1
def q00:=@DO M _ qpe [.tmp 2] [a0] (by kernel_rfl) H Q
def Xf(M:ak)(c:Ctx):=(Eo M c).2.2.2.2.2.2.2.2.1
def qyg:=@DO M _ qnb [.tmp 4] [a0,a1] (by kernel_rfl) H Q
def q05(M:ak)(c:Ctx):=(Eo M c).2.2.2.2.2.2.2.2.2.1
def q04:=@DO M _ qph [.tmp 2] [a0] (by kernel_rfl) H Q
def qml(M:ak)(c:Ctx):=(Eo M c).2.2.2.2.2.2.2.2.2.2
def qwb:=@DO M _ χ [.tmp 2] [a0] (by kernel_rfl) H Q
abbrev qi9:Nat:=74
abbrev qh7:Nat:=135
abbrev qja:Nat:=112
abbrev E3:Nat:=59
abbrev qj7:Nat:=55
abbrev qjb:Nat:=156
abbrev qk4:Nat:=100
abbrev M4:Nat:=102
abbrev qj8:Nat:=71
abbrev qj9:Nat:=136
abbrev OG:Nat:=166
abbrev j':Nat:=30
abbrev _m:Nat:=48
abbrev tf:Nat:=138
abbrev I9:Nat:=26
abbrev vq:Nat:=142
abbrev RS:Nat:=101
abbrev Wd:ud:=[(30,⟨[0,1,2,3,4,5],B2,[0,4,12]⟩,[]),(112,⟨[0,2,3],B2,[0,2,10,18]⟩,[]),(74,⟨[0,1,4,5],B2,[0,2,10,18,26,28,39]⟩,[]),(156,⟨[0,2],B2,[0,2,10,18]⟩,[]),(55,⟨[0,2],B2,[0,2,10]⟩,[]),(100,⟨[0,2,3,5,7,8],B2,[0,4,21,9,15,20]⟩,[]),(135,⟨[0,2,5],B2,[0,2,10]⟩,[]),(59,⟨[0,2],B2,[0]⟩,[]),(48,⟨[0,1,2,3,4,5,6,14,15,16],B2,[0,4,27,9,15,26]⟩,[]),(71,⟨[0,2],B2,[0]⟩,[]),(102,⟨[0,1,2,4,7,8],B2,[0]⟩,[]),(300102,⟨[0,1,2,4,7,8],B2,[0]⟩,[]),(200102,⟨[0,1,2,4,7,8],B2,[0]⟩,[]),(136,⟨[0,1,2,3,4],B2,[0]⟩,[]),(166,⟨[0,1,2,4],B2,[0,4,10,17]⟩,[])]
def VF(n:Nat):Kp:=jU n Wd
def O6(n k:Nat):Kp×ai:=(VF n,part (bh Tryz.prog n) k)
def q2x(n k:Nat):O6 n k=(VF n,part (bh Tryz.prog n) k):=rfl
def Au:=@kQ M _ O6 VF q2x
attribute [local irreducible] O6
def wK(M:ak)(c:Ctx):=by
 have h:=oJ q2x M c Wd (by kernel_rfl)
 conv at h=>arg 5;reduce
 delta PR RL oh gA nK gB oV mF fO gH gf om qQ sK nN qL rW si Wd at h
 simp only[zR,Ao,Ap,An,A5,Qw]at h;exact h
def cU(M:ak)(c:Ctx):=(wK M c).2.2.2.2.2.2.2.2
def Vt(M:ak)(c:Ctx):=(wK M c).1
def xe6:=@Au M _ j' [.tmp 2,.tmp 3] [a0] (by kernel_rfl) H Q
def Q_(M:ak)(c:Ctx):=(wK M c).2.1
def qra:=@Au M _ qja [.tmp 2,.tmp 3] [a0] (by kernel_rfl) H Q
def j7(M:ak)(c:Ctx):=(wK M c).2.2.1
def qq9:=@Au M _ qi9 [.tmp 4,.tmp 5] [a0,a1] (by kernel_rfl) H Q
def nB(M:ak)(c:Ctx):=(wK M c).2.2.2.1
def qrb:=@Au M _ qjb [.tmp 2] [a0] (by kernel_rfl) H Q
def qsi(M:ak)(c:Ctx):=(wK M c).2.2.2.2.1
def qsh:=@Au M _ qj7 [.tmp 2] [a0] (by kernel_rfl) H Q
def Y8(M:ak)(c:Ctx):=(wK M c).2.2.2.2.2.1
def qty:=@Au M _ qk4 [.tmp 2] [a0] (by kernel_rfl) H Q
def qp0(M:ak)(c:Ctx):=(wK M c).2.2.2.2.2.2.1
def qpz:=@Au M _ qh7 [.cM 5 2] [a0] (by kernel_rfl) H Q
def qkd(M:ak)(c:Ctx):=(wK M c).2.2.2.2.2.2.2.1
def qsg:=@Au M _ E3 [.tmp 2] [a0] (by kernel_rfl) H Q
def O5(M:ak)(c:Ctx):=(cU M c).1
def q44:=@Au M _ _m [.cM 5 2,.tmp 3] [a0] (by kernel_rfl) H Q
def qsl(M:ak)(c:Ctx):=(cU M c).2.1
def qsk:=@Au M _ qj8 [.tmp 2] [a0] (by kernel_rfl) H Q
def Ta:bV:=funcAt Tryz.prog M4
def QT:dM:=gY Ta 0
abbrev hQ(k:Nat):Kp×ai:=O6 300102 k
abbrev Z4(k:Nat):Kp×ai:=O6 200102 k
def qh9:nth Ta.loops 0=B1 QT/\QT.params=[8]:=⟨by kernel_rfl,by kernel_rfl⟩
def qp1:(hQ 0).1.ah=[0,1,2,4,7,8]/\(hQ 0).2=QT.assign:=⟨by kernel_rfl,by kernel_rfl⟩
def qp2:(Z4 0).1.ah=[0,1,2,4,7,8]/\(Z4 0).2=QT.body:=⟨by kernel_rfl,by kernel_rfl⟩
def qrc:M.func M4=B1 Ta:=MK.at (by decide) (by kernel_rfl)
def I_(M:ak)(c:Ctx):=I0 (cU M c).2.2.1 (I0 (cU M c).2.2.2.1 ((cU M c).2.2.2.2.1))
def qsj:=@Au M _ M4 [] [a0,a1] (by kernel_rfl) H Q
def qsn(M:ak)(c:Ctx):=(cU M c).2.2.2.2.2.1
def qsm:=@Au M _ qj9 [.tmp 4] [a0,a1] (by kernel_rfl) H Q
def Qm(M:ak)(c:Ctx):=(cU M c).2.2.2.2.2.2
def qp3:=@Au M _ OG [] [a0,a1,a2] (by kernel_rfl) H Q
abbrev mn:Nat:=152
abbrev k_:Nat:=172
abbrev _2:Nat:=197
abbrev qqe:Nat:=209
abbrev V1:Nat:=196
abbrev A0:Nat:=175
abbrev x_:Nat:=176
abbrev R1:Nat:=178
abbrev v_:Nat:=49
abbrev _E:Nat:=213
abbrev sS:Nat:=179
abbrev γ:Nat:=191
abbrev qsy:Nat:=199
abbrev Pb:Nat:=200
abbrev qqk:Nat:=217
abbrev wg:Nat:=219
abbrev nI:Nat:=112
abbrev sC:Nat:=227
abbrev UK:Nat:=173
abbrev Jc:Nat:=171
abbrev YZ:ud:=[(49,⟨[0],B2,[0]⟩,[]),(197,⟨[0,1,2,6,8],B2,[0,2,10,18,28]⟩,[]),(175,⟨[0,1,2,6,7,8],B2,[0,2,10,18,30]⟩,[]),(196,⟨[0,1,4,5],B2,[0,2,10]⟩,[]),(172,⟨[0,1,4,5],B2,[0,2,10]⟩,[]),(209,⟨[0,2],B2,[0,2,10]⟩,[]),(176,⟨[0,2],B2,[0,2,10]⟩,[]),(152,⟨[0,2],B2,[0,2,10]⟩,[]),(178,⟨[0,2],B2,[0]⟩,[]),(191,⟨[0,1,4,5,6,7],B2,[0,4,12]⟩,[]),(199,⟨[0,1,2,6],B2,[0,2,10]⟩,[]),(200,⟨[0,2,3,5,7,8,9],B2,[0,4,9]⟩,[]),(300200,⟨[0,2,3,5,7,8,9],B2,[0]⟩,[]),(200200,⟨[0,2,3,5,7,8,9],B2,[0]⟩,[]),(179,⟨[0],B2,[0]⟩,[]),(213,⟨[0,2],B2,[0]⟩,[]),(217,⟨[0,1,2],B2,[0]⟩,[]),(219,⟨[0,1,3,4,5,6,7],B2,[0,4,10,19]⟩,[])]
def Zq(n:Nat):Kp:=jU n YZ
def Px(n k:Nat):Kp×ai:=(Zq n,part (bh Tryz.prog n) k)
def ε(n k:Nat):Px n k=(Zq n,part (bh Tryz.prog n) k):=rfl
def vP:=@kQ M _ Px Zq ε
attribute [local irreducible] Px
def sJ(M:ak)(c:Ctx):=by
 have h:=oJ ε M c YZ (by kernel_rfl)
 conv at h=>arg 5;reduce
 delta PR RL oh gA nK gB oV mF fO gH gf om qQ sK nN qL rW si YZ at h
 simp only[zR,Ao,Ap,An,A5,Qw]at h;exact h
def cY(M:ak)(c:Ctx):=(sJ M c).2.2.2.2.2.2.2.2
def db(M:ak)(c:Ctx):=(cY M c).2.2.2.2.2.2.2.2
def xl8(M:ak)(c:Ctx):=(sJ M c).1
def xl7:=@vP M _ v_ [.tmp 0] [] (by kernel_rfl) H Q
def _d(M:ak)(c:Ctx):=(sJ M c).2.1
def q7b:=@vP M _ _2 [.tmp 6] [a0,a1,a2] (by kernel_rfl) H Q
def qrf(M:ak)(c:Ctx):=(sJ M c).2.2.1
def q5a:=@vP M _ A0 [.tmp 6] [a0,a1,a2] (by kernel_rfl) H Q
def q94(M:ak)(c:Ctx):=(sJ M c).2.2.2.1
def q93:=@vP M _ V1 [.tmp 4,.tmp 5] [a0,a1] (by kernel_rfl) H Q
def q7a(M:ak)(c:Ctx):=(sJ M c).2.2.2.2.1
def q69:=@vP M _ k_ [.tmp 4,.tmp 5] [a0,a1] (by kernel_rfl) H Q
def q49(M:ak)(c:Ctx):=(sJ M c).2.2.2.2.2.1
def q48:=@vP M _ qqe [.tmp 2] [a0] (by kernel_rfl) H Q
def q0f(M:ak)(c:Ctx):=(sJ M c).2.2.2.2.2.2.1
def q0e:=@vP M _ x_ [.tmp 2] [a0] (by kernel_rfl) H Q
def q47(M:ak)(c:Ctx):=(sJ M c).2.2.2.2.2.2.2.1
def q46:=@vP M _ mn [.tmp 2] [a0] (by kernel_rfl) H Q
def q7d(M:ak)(c:Ctx):=(cY M c).1
def q7c:=@vP M _ R1 [.tmp 2] [a0] (by kernel_rfl) H Q
def W_(M:ak)(c:Ctx):=(cY M c).2.1
def q5b:=@vP M _ γ [.tmp 4,.tmp 5] [a0,a1] (by kernel_rfl) H Q
def qtd(M:ak)(c:Ctx):=(cY M c).2.2.1
def q7g:=@vP M _ qsy [.tmp 6] [a0,a1,a2] (by kernel_rfl) H Q
def TK:bV:=funcAt Tryz.prog Pb
def RD:dM:=gY TK 0
abbrev Zf(k:Nat):Kp×ai:=Px 300200 k
abbrev ZA(k:Nat):Kp×ai:=Px 200200 k
def kx:nth TK.loops 0=B1 RD/\RD.params=[8,9]:=⟨by kernel_rfl,by kernel_rfl⟩
def xcm:(Zf 0).1.ah=[0,2,3,5,7,8,9]/\(Zf 0).2=RD.assign:=⟨by kernel_rfl,by kernel_rfl⟩
def xcn:(ZA 0).1.ah=[0,2,3,5,7,8,9]/\(ZA 0).2=RD.body:=⟨by kernel_rfl,by kernel_rfl⟩
def xe8:M.func Pb=B1 TK:=MK.at (by decide) (by kernel_rfl)
def ZI(M:ak)(c:Ctx):=I0 (cY M c).2.2.2.1.1 (I0 (cY M c).2.2.2.2.1 (I0 (cY M c).2.2.2.2.2.1 (I0 (cY M c).2.2.2.1.2.1 ((cY M c).2.2.2.1.2.2))))
def xi0:=@vP M _ Pb [.tmp 2] [a0] (by kernel_rfl) H Q
def q0h(M:ak)(c:Ctx):=(cY M c).2.2.2.2.2.2.1
def q0g:=@vP M _ sS [] [a0] (by kernel_rfl) H Q
def q7f(M:ak)(c:Ctx):=(cY M c).2.2.2.2.2.2.2.1
def q7e:=@vP M _ _E [.tmp 2] [a0] (by kernel_rfl) H Q
def qrm(M:ak)(c:Ctx):=(db M c).1
def qrl:=@vP M _ qqk [.tmp 2] [a0] (by kernel_rfl) H Q
def Uh(M:ak)(c:Ctx):=(db M c).2
def qor:=@vP M _ wg [] [a0,a1] (by kernel_rfl) H Q
abbrev t8:Nat:=33
abbrev qnc:Nat:=114
abbrev Ψ:Nat:=121
abbrev _K:Nat:=150
abbrev qnd:Nat:=155
abbrev ο:Nat:=119
abbrev qpk:Nat:=144
abbrev _p:Nat:=117
abbrev _0:Nat:=137
abbrev _Q:Nat:=149
abbrev qnf:Nat:=146
abbrev KF:Nat:=116
abbrev ω:Nat:=118
abbrev qql:Nat:=203
abbrev R':Nat:=202
abbrev XS:Nat:=215
abbrev Vl:Nat:=216
abbrev WL:Nat:=185
abbrev ξ:Nat:=182
abbrev O7:Nat:=205
abbrev qng:Nat:=153
abbrev F_:Nat:=181
abbrev qjd:Nat:=183
abbrev TC:Nat:=189
abbrev qnh:Nat:=173
abbrev _k:Nat:=192
abbrev qje:Nat:=193
abbrev Vy:Nat:=195
abbrev UL:Nat:=168
abbrev YR:Nat:=188
abbrev qpo:Nat:=180
abbrev Rh:Nat:=204
abbrev qpp:Nat:=151
abbrev S4:Nat:=198
abbrev qni:Nat:=167
abbrev D_:Nat:=184
abbrev SU:Nat:=206
abbrev _x:Nat:=214
abbrev N':Nat:=218
abbrev YU:Nat:=177
abbrev L':Nat:=201
abbrev qlf:Nat:=171
abbrev qx:Nat:=194
abbrev qh8:Nat:=208
abbrev Ua:Nat:=210
abbrev S9:Nat:=211
abbrev Ub:Nat:=212
abbrev W8:Nat:=154
abbrev IM:Nat:=1
abbrev M5:Nat:=270
abbrev S3:Nat:=271
abbrev Cn:Nat:=151
abbrev K3:Nat:=107
abbrev Ew:Nat:=154
abbrev Wp:Nat:=41
abbrev ZG:ud:=[(33,⟨[0],B2,[0]⟩,[]),(114,⟨[0,2],B2,[0,2,10,18]⟩,[]),(144,⟨[0,1,4,5,6,7],B2,[0,2,12,24]⟩,[]),(149,⟨[0,1,2,6,7],B2,[0,4,12]⟩,[]),(150,⟨[0,2,3],B2,[0,2,12,14,24]⟩,[]),(137,⟨[0,2,3],B2,[0,4,12]⟩,[]),(116,⟨[0,2,3,4],B2,[0,2,10]⟩,[(3,[0,2,4,6,8,10,12,14,16,18,15,17,20])]),(119,⟨[0,1,2,6,7],B2,[0,2,10,12,20]⟩,[]),(121,⟨[0,2],B2,[0]⟩,[]),(146,⟨[0,2],B2,[0,2,10]⟩,[]),(155,⟨[0,2],B2,[0,2,10]⟩,[]),(117,⟨[0,2],B2,[0,2,10]⟩,[]),(118,⟨[0,2],B2,[0]⟩,[]),(151,⟨[0,2],B2,[0]⟩,[]),(153,⟨[0,1,2,3,4,5],B2,[0]⟩,[]),(154,⟨[0],B2,[0]⟩,[]),(171,⟨[0,1,4,5],B2,[0,4,12]⟩,[]),(173,⟨[0,1,2,3],B2,[0]⟩,[]),(168,⟨[0,1,2,3],B2,[0]⟩,[]),(167,⟨[0,2],B2,[0,2,10,18]⟩,[]),(177,⟨[0,1],B2,[0]⟩,[]),(180,⟨[0,1,2,5],B2,[0]⟩,[]),(181,⟨[0,1,2,3],B2,[0]⟩,[]),(184,⟨[0,1,2,3],B2,[0]⟩,[]),(185,⟨[0,1],B2,[0]⟩,[]),(192,⟨[0,1,2,3],B2,[0]⟩,[]),(188,⟨[0,1],B2,[0]⟩,[(0,[0,2,4,6,8,10,3,5,12,14,16])]),(182,⟨[0,1,2,3,4,9],B2,[0]⟩,[]),(201,⟨[0,1],B2,[0,8]⟩,[(4,[0,2,4,6,8,10,1,12])]),(203,⟨[0,1,2,4],B2,[0]⟩,[]),(204,⟨[0,1,2],B2,[0]⟩,[]),(183,⟨[0,1,2,3],B2,[0,8]⟩,[]),(206,⟨[0,1,2],B2,[0,8]⟩,[]),(189,⟨[0],B2,[0]⟩,[]),(198,⟨[0,1],B2,[0]⟩,[]),(193,⟨[0,1,2,3,5,6],B2,[0,8,10,18]⟩,[]),(205,⟨[0,1,2],B2,[0]⟩,[]),(194,⟨[0,1,2,3],B2,[0]⟩,[]),(202,⟨[0,1,2,3],B2,[0,2,10]⟩,[]),(195,⟨[0,1],B2,[0]⟩,[]),(208,⟨[0,1,2,3,4,5,6,7,8],B2,[0]⟩,[]),(214,⟨[0,1,2,3,7],B2,[0]⟩,[]),(215,⟨[0,1],B2,[0]⟩,[]),(216,⟨[0],B2,[0]⟩,[]),(210,⟨[0,1,2,3,4],B2,[0,8]⟩,[]),(211,⟨[0,1,2,3],B2,[0,8]⟩,[]),(212,⟨[0,1,2,3,4],B2,[0,8]⟩,[]),(218,⟨[0,1,2],B2,[0]⟩,[])]
def XH(n:Nat):Kp:=jU n ZG
def U2(n k:Nat):Kp×ai:=(XH n,part (bh Tryz.prog n) k)
def u_(n k:Nat):U2 n k=(XH n,part (bh Tryz.prog n) k):=rfl
def jm:=@kQ M _ U2 XH u_
attribute [local irreducible] U2
def jk(M:ak)(c:Ctx):=by
 have h:=oJ u_ M c ZG (by kernel_rfl)
 conv at h=>arg 5;reduce
 delta PR RL oh gA nK gB oV jC mF fO gH gf om nN qL rW si ZG at h
 simp only[zR,Ao,Ap,An,A5,Qw]at h;exact h
def dN(M:ak)(c:Ctx):=(jk M c).2.2.2.2.2.2.2.2
def eb(M:ak)(c:Ctx):=(dN M c).2.2.2.2.2.2.2.2
def ed(M:ak)(c:Ctx):=(eb M c).2.2.2.2.2.2.2.2
def ee(M:ak)(c:Ctx):=(ed M c).2.2.2.2.2.2.2.2
def ef(M:ak)(c:Ctx):=(ee M c).2.2.2.2.2.2.2.2
def xjp(M:ak)(c:Ctx):=(jk M c).1
def xjo:=@jm M _ t8 [.tmp 0] [] (by kernel_rfl) H Q
def X2(M:ak)(c:Ctx):=(jk M c).2.1
def qyi:=@jm M _ qnc [.tmp 2] [a0] (by kernel_rfl) H Q
def T7(M:ak)(c:Ctx):=(jk M c).2.2.1
def q1a:=@jm M _ qpk [.tmp 4] [a0,a1] (by kernel_rfl) H Q
def Ri(M:ak)(c:Ctx):=(jk M c).2.2.2.1
def qyl:=@jm M _ _Q [.tmp 6] [a0,a1,a2] (by kernel_rfl) H Q
def Va(M:ak)(c:Ctx):=(jk M c).2.2.2.2.1
def qwf:=@jm M _ _K [.tmp 2] [a0] (by kernel_rfl) H Q
def Z9(M:ak)(c:Ctx):=(jk M c).2.2.2.2.2.1
def q1b:=@jm M _ _0 [.tmp 2] [a0] (by kernel_rfl) H Q
def q1d(M:ak)(c:Ctx):=(jk M c).2.2.2.2.2.2.1
def q1c:=@jm M _ KF [.cM 4 2,.tmp 3] [a0] (by kernel_rfl) H Q
def S2(M:ak)(c:Ctx):=(jk M c).2.2.2.2.2.2.2.1
def q09:=@jm M _ ο [.tmp 6] [a0,a1,a2] (by kernel_rfl) H Q
def q08(M:ak)(c:Ctx):=(dN M c).1
def q07:=@jm M _ Ψ [.tmp 2] [a0] (by kernel_rfl) H Q
def qyn(M:ak)(c:Ctx):=(dN M c).2.1
def qym:=@jm M _ qnf [.tmp 2] [a0] (by kernel_rfl) H Q
def qyk(M:ak)(c:Ctx):=(dN M c).2.2.1
def qyj:=@jm M _ qnd [.tmp 2] [a0] (by kernel_rfl) H Q
def qwh(M:ak)(c:Ctx):=(dN M c).2.2.2.1
def qwg:=@jm M _ _p [.tmp 2] [a0] (by kernel_rfl) H Q
def qud(M:ak)(c:Ctx):=(dN M c).2.2.2.2.1
def quc:=@jm M _ ω [.tmp 2] [a0] (by kernel_rfl) H Q
def q1k(M:ak)(c:Ctx):=(dN M c).2.2.2.2.2.1
def q1j:=@jm M _ qpp [.tmp 2] [a0] (by kernel_rfl) H Q
def qyt(M:ak)(c:Ctx):=(dN M c).2.2.2.2.2.2.1
def qys:=@jm M _ qng [] [a0,a1,a2] (by kernel_rfl) H Q
def q1o(M:ak)(c:Ctx):=(dN M c).2.2.2.2.2.2.2.1
def q1n:=@jm M _ W8 [] [a0] (by kernel_rfl) H Q
def WB(M:ak)(c:Ctx):=(eb M c).1
def qum:=@jm M _ qlf [.tmp 4] [a0,a1] (by kernel_rfl) H Q
def qyv(M:ak)(c:Ctx):=(eb M c).2.1
def qyu:=@jm M _ qnh [] [a0,a1] (by kernel_rfl) H Q
def qyx(M:ak)(c:Ctx):=(eb M c).2.2.1
def qyw:=@jm M _ UL [] [a0,a1] (by kernel_rfl) H Q
def qy1(M:ak)(c:Ctx):=(eb M c).2.2.2.1
def qy0:=@jm M _ qni [.tmp 2] [a0] (by kernel_rfl) H Q
def q1m(M:ak)(c:Ctx):=(eb M c).2.2.2.2.1
def q1l:=@jm M _ YU [] [a0] (by kernel_rfl) H Q
def q1i(M:ak)(c:Ctx):=(eb M c).2.2.2.2.2.1
def q1h:=@jm M _ qpo [] [a0,a1,a2] (by kernel_rfl) H Q
def quf(M:ak)(c:Ctx):=(eb M c).2.2.2.2.2.2.1
def que:=@jm M _ F_ [] [a0,a1,a2,a3] (by kernel_rfl) H Q
def qwp(M:ak)(c:Ctx):=(eb M c).2.2.2.2.2.2.2.1
def qwo:=@jm M _ D_ [] [a0,a1] (by kernel_rfl) H Q
def qyp(M:ak)(c:Ctx):=(ed M c).1
def qyo:=@jm M _ WL [] [a0,a1] (by kernel_rfl) H Q
def quh(M:ak)(c:Ctx):=(ed M c).2.1
def qug:=@jm M _ _k [] [a0,a1,a2] (by kernel_rfl) H Q
def quj(M:ak)(c:Ctx):=(ed M c).2.2.1
def qui:=@jm M _ YR [] [a0,a1] (by kernel_rfl) H Q
def q6a(M:ak)(c:Ctx):=(ed M c).2.2.2.1
def q59:=@jm M _ ξ [] [a0,a1,a2,a3,a4] (by kernel_rfl) H Q
def mu(M:ak)(c:Ctx):=(ed M c).2.2.2.2.1
def qwq:=@jm M _ L' [] [a0,a1] (by kernel_rfl) H Q
def q58(M:ak)(c:Ctx):=(ed M c).2.2.2.2.2.1
def q57:=@jm M _ qql [] [a0,a1,a2] (by kernel_rfl) H Q
def qwn(M:ak)(c:Ctx):=(ed M c).2.2.2.2.2.2.1
def qwm:=@jm M _ Rh [] [a0,a1,a2] (by kernel_rfl) H Q
def _h(M:ak)(c:Ctx):=(ed M c).2.2.2.2.2.2.2.1
def qrq:=@jm M _ qjd [] [a0,a1,a2,a3] (by kernel_rfl) H Q
def SC(M:ak)(c:Ctx):=(ee M c).1
def qkf:=@jm M _ SU [] [a0,a1,a2] (by kernel_rfl) H Q
def q1g(M:ak)(c:Ctx):=(ee M c).2.1
def q1f:=@jm M _ TC [] [a0] (by kernel_rfl) H Q
def qyz(M:ak)(c:Ctx):=(ee M c).2.2.1
def qyy:=@jm M _ S4 [] [a0,a1] (by kernel_rfl) H Q
def Ox(M:ak)(c:Ctx):=(ee M c).2.2.2.1
def qrr:=@jm M _ qje [] [a0,a1,a2,a3] (by kernel_rfl) H Q
def qyr(M:ak)(c:Ctx):=(ee M c).2.2.2.2.1
def qyq:=@jm M _ O7 [] [a0,a1,a2] (by kernel_rfl) H Q
def qsq(M:ak)(c:Ctx):=(ee M c).2.2.2.2.2.1
def qsp:=@jm M _ qx [] [a0,a1] (by kernel_rfl) H Q
def qpw(M:ak)(c:Ctx):=(ee M c).2.2.2.2.2.2.1
def q1e:=@jm M _ R' [] [a0,a1] (by kernel_rfl) H Q
def qox(M:ak)(c:Ctx):=(ee M c).2.2.2.2.2.2.2.1
def qow:=@jm M _ Vy [] [a0,a1] (by kernel_rfl) H Q
def qp7(M:ak)(c:Ctx):=(ef M c).1
def qp6:=@jm M _ qh8 [] [a0,a1,a2] (by kernel_rfl) H Q
def qy3(M:ak)(c:Ctx):=(ef M c).2.1
def qy2:=@jm M _ _x [] [a0,a1,a2,a3] (by kernel_rfl) H Q
def qwj(M:ak)(c:Ctx):=(ef M c).2.2.1
def qwi:=@jm M _ XS [] [a0,a1] (by kernel_rfl) H Q
def qwl(M:ak)(c:Ctx):=(ef M c).2.2.2.1
def qwk:=@jm M _ Vl [] [a0] (by kernel_rfl) H Q
def c_(M:ak)(c:Ctx):=(ef M c).2.2.2.2.1
def qn0:=@jm M _ Ua [] [a0,a1,a2,a3,a4] (by kernel_rfl) H Q
def R_(M:ak)(c:Ctx):=(ef M c).2.2.2.2.2.1
def qn1:=@jm M _ S9 [] [a0,a1,a2,a3] (by kernel_rfl) H Q
def kn(M:ak)(c:Ctx):=(ef M c).2.2.2.2.2.2.1
def qn2:=@jm M _ Ub [] [a0,a1,a2,a3,a4] (by kernel_rfl) H Q
def qul(M:ak)(c:Ctx):=(ef M c).2.2.2.2.2.2.2
def quk:=@jm M _ N' [] [a0,a1,a2] (by kernel_rfl) H Q
abbrev He:Nat:=41
abbrev y_:Nat:=25
abbrev Vh:Nat:=60
abbrev XJ:Nat:=61
abbrev qsr:Nat:=106
abbrev qm2:Nat:=82
abbrev ql2:Nat:=76
abbrev oS:Nat:=83
abbrev qp9:Nat:=115
abbrev pf:Nat:=81
abbrev U_:Nat:=120
abbrev NY:Nat:=79
abbrev κ:Nat:=122
abbrev S5:Nat:=113
abbrev Ym:Nat:=108
abbrev VV:Nat:=104
abbrev μ:Nat:=75
abbrev qo6:Nat:=147
abbrev Ov:Nat:=174
abbrev ql:Nat:=123
abbrev Xj:Nat:=77
abbrev VU:Nat:=145
abbrev QP:Nat:=109
abbrev Δ:Nat:=78
abbrev qo7:Nat:=42
abbrev qm6:Nat:=80
abbrev ql5:Nat:=148
abbrev Sh:Nat:=110
abbrev YP:Nat:=72
abbrev _I:Nat:=18
abbrev Z_:Nat:=31
abbrev kr:Nat:=55
abbrev Iy:Nat:=116
abbrev FA:Nat:=61
abbrev AF:Nat:=69
abbrev Yb:ud:=[(18,⟨[0,1,2,3,6,8,9,10,11],B2,[0,4,12]⟩,[]),(61,⟨[0,2,3,4,5,6,7,11],B2,[0,11,16,30,43,21,35,48,57,64,69,79]⟩,[]),(25,⟨[0,2,8],B2,[0,2,10]⟩,[]),(41,⟨[0,2],B2,[0,2,10]⟩,[]),(31,⟨[0,2],B2,[0,2,10]⟩,[]),(75,⟨[0,2,3,4,5,6,54],B2,[0,4,16,8,39,22,14,45,30,55,63]⟩,[(6,[0,2,4,6,8,10,12,14,16,18,20,24,22,7,13,26,28,30])]),(76,⟨[0,20],B2,[0,4,19]⟩,[]),(77,⟨[0,1,4,5,6,7,8],B2,[0]⟩,[]),(78,⟨[0,2,3],B2,[0]⟩,[]),(79,⟨[0,2,4,5,6,7,8,18],B2,[0,1,5,7,9,26,21,32,36,38,44,50]⟩,[(12,[0,2,4,6,10,12,14,16,8,17,18,20,22])]),(80,⟨[0,1,2,6,7,8],B2,[0]⟩,[]),(81,⟨[0],B2,[0]⟩,[(2,[0,2,4,6,8,10,12,14,16,7,18,20])]),(82,⟨[0,2],B2,[0,14,4,12]⟩,[]),(83,⟨[0],B2,[0]⟩,[]),(42,⟨[0,2],B2,[0]⟩,[]),(104,⟨[0,6],B2,[0,15]⟩,[]),(106,⟨[0,1,4,5],B2,[0,2,10]⟩,[]),(108,⟨[0,1],B2,[0]⟩,[]),(109,⟨[0,1,2,3,4,7,8,9,14,47,48,49],B2,[0,2,30,11,25,19]⟩,[(5,[0,2,4,6,8,10,3,12,14,16]),(6,[0,2,4,6,8,10,12,1,3,14])]),(300109,⟨[0,1,2,3,4,7,8,9,14,47,48,49],B2,[0]⟩,[(5,[0,2,4,6,8,10,3,12,14,16]),(6,[0,2,4,6,8,10,12,1,3,14])]),(200109,⟨[0,1,2,3,4,7,8,9,14,47,48,49],B2,[0]⟩,[(5,[0,2,4,6,8,10,3,12,14,16]),(6,[0,2,4,6,8,10,12,1,3,14])]),(110,⟨[0,1,2,4,6,7,12,71,72,73],B2,[0,8,13,18,30,46,26,32,37,43]⟩,[]),(300110,⟨[0,1,2,4,6,7,12,71,72,73],B2,[0]⟩,[]),(200110,⟨[0,1,2,4,6,7,12,71,72,73],B2,[0]⟩,[]),(113,⟨[0],B2,[0,11]⟩,[]),(72,⟨[0,1,2,3,4,10],B2,[0,2,8]⟩,[(2,[0,2,4,6,8,10,12,14,16,20,22,24,26,30,18,7,27,28,7,32,34,36,38,40])]),(115,⟨[0,1,2,3,8,9,10,11,12],B2,[0]⟩,[]),(120,⟨[0],B2,[0,6]⟩,[]),(122,⟨[0],B2,[0,9]⟩,[(7,[0,2,4,6,8,10,12,14,16,18,9,20])]),(123,⟨[0],B2,[0]⟩,[]),(145,⟨[0,1,2,4,6,8],B2,[0,4,6,12]⟩,[]),(147,⟨[0,1,2,3,4],B2,[0]⟩,[]),(148,⟨[0,1,2,3,6],B2,[0]⟩,[]),(60,⟨[0,1],B2,[0]⟩,[]),(174,⟨[0,1,2,4,5,9,10,11],B2,[0,4,10,19]⟩,[])]
def Zn(n:Nat):Kp:=jU n Yb
def Hm(n k:Nat):Kp×ai:=(Zn n,part (bh Tryz.prog n) k)
def P'(n k:Nat):Hm n k=(Zn n,part (bh Tryz.prog n) k):=rfl
def yz:=@kQ M _ Hm Zn P'
attribute [local irreducible] Hm
def jj(M:ak)(c:Ctx):=by
 have h:=oJ P' M c Yb (by kernel_rfl)
 conv at h=>arg 5;reduce
 delta PR RL oh gA nK gB oV jC mF fO gH gf om qQ vL sK nN qL rW si Yb at h
 simp only[zR,Ao,Ap,An,A5,Qw]at h;exact h
def eg(M:ak)(c:Ctx):=(jj M c).2.2.2.2.2.2.2.2
def ez(M:ak)(c:Ctx):=(eg M c).2.2.2.2.2.2.2.2
def fb(M:ak)(c:Ctx):=(ez M c).2.2.2.2.2.2.2.2
def fe(M:ak)(c:Ctx):=(fb M c).2.2.2.2.2.2.2.2
def Kk(M:ak)(c:Ctx):=(jj M c).1
def xia:=@yz M _ _I [.tmp 8,.tmp 9] [a0,a1,a2,a3] (by kernel_rfl) H Q
def j6(M:ak)(c:Ctx):=(jj M c).2.1
def q33:=@yz M _ XJ [] [a0] (by kernel_rfl) H Q
def qzt(M:ak)(c:Ctx):=(jj M c).2.2.1
def qzs:=@yz M _ y_ [.cM 8 2] [a0] (by kernel_rfl) H Q
def qzr(M:ak)(c:Ctx):=(jj M c).2.2.2.1
def qzq:=@yz M _ He [.tmp 2] [a0] (by kernel_rfl) H Q
def S_(M:ak)(c:Ctx):=(jj M c).2.2.2.2.1
def qnz:=@yz M _ Z_ [.tmp 2] [a0] (by kernel_rfl) H Q
def jh(M:ak)(c:Ctx):=(jj M c).2.2.2.2.2.1
def qxe:=@yz M _ μ [] [a0] (by kernel_rfl) H Q
def Sm(M:ak)(c:Ctx):=(jj M c).2.2.2.2.2.2.1
def qve:=@yz M _ ql2 [] [a0] (by kernel_rfl) H Q
def qz4(M:ak)(c:Ctx):=(jj M c).2.2.2.2.2.2.2.1
def qz3:=@yz M _ Xj [.tmp 4,.tmp 5] [a0,a1] (by kernel_rfl) H Q
def qxj(M:ak)(c:Ctx):=(eg M c).1
def qxi:=@yz M _ Δ [] [a0] (by kernel_rfl) H Q
def zo(M:ak)(c:Ctx):=(eg M c).2.1
def qxd:=@yz M _ NY [] [a0] (by kernel_rfl) H Q
def qxl(M:ak)(c:Ctx):=(eg M c).2.2.1
def qxk:=@yz M _ qm6 [.tmp 6] [a0,a1,a2] (by kernel_rfl) H Q
def qtl(M:ak)(c:Ctx):=(eg M c).2.2.2.1
def qtk:=@yz M _ pf [] [a0] (by kernel_rfl) H Q
def Sy(M:ak)(c:Ctx):=(eg M c).2.2.2.2.1
def qxc:=@yz M _ qm2 [] [a0] (by kernel_rfl) H Q
def qvg(M:ak)(c:Ctx):=(eg M c).2.2.2.2.2.1
def qvf:=@yz M _ oS [] [a0] (by kernel_rfl) H Q
def qz6(M:ak)(c:Ctx):=(eg M c).2.2.2.2.2.2.1
def qz5:=@yz M _ qo7 [.tmp 2] [a0] (by kernel_rfl) H Q
def UO(M:ak)(c:Ctx):=(eg M c).2.2.2.2.2.2.2.1
def qtm:=@yz M _ VV [] [a0] (by kernel_rfl) H Q
def nh(M:ak)(c:Ctx):=(ez M c).1
def q6v:=@yz M _ qsr [.tmp 4,.tmp 5] [a0,a1] (by kernel_rfl) H Q
def qz0(M:ak)(c:Ctx):=(ez M c).2.1
def qzz:=@yz M _ Ym [] [a0,a1] (by kernel_rfl) H Q
def UP:bV:=funcAt Tryz.prog QP
def PV:dM:=gY UP 0
abbrev Ya(k:Nat):Kp×ai:=Hm 300109 k
abbrev ZW(k:Nat):Kp×ai:=Hm 200109 k
def oM:nth UP.loops 0=B1 PV/\PV.params=[48,49]:=⟨by kernel_rfl,by kernel_rfl⟩
def qtn:(Ya 0).1.ah=[0,1,2,3,4,7,8,9,14,47,48,49]/\(Ya 0).2=PV.assign:=⟨by kernel_rfl,by kernel_rfl⟩
def qto:(ZW 0).1.ah=[0,1,2,3,4,7,8,9,14,47,48,49]/\(ZW 0).2=PV.body:=⟨by kernel_rfl,by kernel_rfl⟩
def qvk:M.func QP=B1 UP:=MK.at (by decide) (by kernel_rfl)
def LV(M:ak)(c:Ctx):=I0 (ez M c).2.2.1.1 (I0 (ez M c).2.2.2.1 (I0 (ez M c).2.2.2.2.1 (I0 (ez M c).2.2.1.2.1 (I0 (ez M c).2.2.1.2.2.1 (I0 (ez M c).2.2.1.2.2.2.1 (I0 (ez M c).2.2.1.2.2.2.2.1 ((ez M c).2.2.1.2.2.2.2.2)))))))
def qxh:=@yz M _ QP [] [a0,a1,a2] (by kernel_rfl) H Q
def Ui:bV:=funcAt Tryz.prog Sh
def PH:dM:=gY Ui 0
abbrev X7(k:Nat):Kp×ai:=Hm 300110 k
abbrev WD(k:Nat):Kp×ai:=Hm 200110 k
def qkb:nth Ui.loops 0=B1 PH/\PH.params=[72,73]:=⟨by kernel_rfl,by kernel_rfl⟩
def qsc:(X7 0).1.ah=[0,1,2,4,6,7,12,71,72,73]/\(X7 0).2=PH.assign:=⟨by kernel_rfl,by kernel_rfl⟩
def qsd:(WD 0).1.ah=[0,1,2,4,6,7,12,71,72,73]/\(WD 0).2=PH.body:=⟨by kernel_rfl,by kernel_rfl⟩
def qtp:M.func Sh=B1 Ui:=MK.at (by decide) (by kernel_rfl)
def vy(M:ak)(c:Ctx):=I0 (ez M c).2.2.2.2.2.1.1 (I0 (ez M c).2.2.2.2.2.2.1 (I0 (ez M c).2.2.2.2.2.2.2.1 (I0 (ez M c).2.2.2.2.2.1.2.1 (I0 (ez M c).2.2.2.2.2.1.2.2.1 (I0 (ez M c).2.2.2.2.2.1.2.2.2.1 (I0 (ez M c).2.2.2.2.2.1.2.2.2.2.1 (I0 (ez M c).2.2.2.2.2.1.2.2.2.2.2.1 (I0 (ez M c).2.2.2.2.2.1.2.2.2.2.2.2.1 (I0 (ez M c).2.2.2.2.2.1.2.2.2.2.2.2.2.1 (I0 (ez M c).2.2.2.2.2.1.2.2.2.2.2.2.2.2.1 ((ez M c).2.2.2.2.2.1.2.2.2.2.2.2.2.2.2)))))))))))
def qvn:=@yz M _ Sh [] [a0,a1,a2] (by kernel_rfl) H Q
def Qf(M:ak)(c:Ctx):=(fb M c).1
def qzy:=@yz M _ S5 [] [a0] (by kernel_rfl) H Q
def Y4(M:ak)(c:Ctx):=(fb M c).2.1
def qz7:=@yz M _ YP [] [a0,a1,a2,a3,a4] (by kernel_rfl) H Q
def q35(M:ak)(c:Ctx):=(fb M c).2.2.1
def q34:=@yz M _ qp9 [.tmp 8,.tmp 9] [a0,a1,a2,a3] (by kernel_rfl) H Q
def Xi(M:ak)(c:Ctx):=(fb M c).2.2.2.1
def qqv:=@yz M _ U_ [] [a0] (by kernel_rfl) H Q
def QV(M:ak)(c:Ctx):=(fb M c).2.2.2.2.1
def qvh:=@yz M _ κ [] [a0] (by kernel_rfl) H Q
def qxg(M:ak)(c:Ctx):=(fb M c).2.2.2.2.2.1
def qxf:=@yz M _ ql [] [a0] (by kernel_rfl) H Q
def qmf(M:ak)(c:Ctx):=(fb M c).2.2.2.2.2.2.1
def qvj:=@yz M _ VU [] [a0,a1,a2] (by kernel_rfl) H Q
def qz2(M:ak)(c:Ctx):=(fb M c).2.2.2.2.2.2.2.1
def qz1:=@yz M _ qo6 [.tmp 4] [a0,a1] (by kernel_rfl) H Q
def qvm(M:ak)(c:Ctx):=(fe M c).1
def qvl:=@yz M _ ql5 [] [a0,a1,a2,a3] (by kernel_rfl) H Q
def qxb(M:ak)(c:Ctx):=(fe M c).2.1
def qxa:=@yz M _ Vh [] [a0,a1] (by kernel_rfl) H Q
def RY(M:ak)(c:Ctx):=(fe M c).2.2
def qvi:=@yz M _ Ov [] [a0,a1,a2] (by kernel_rfl) H Q
abbrev Ky:Nat:=51
abbrev yg:Nat:=58
abbrev ZL:ud:=[(100051,⟨[0,1,2,4,5,6,30],B2,[0,2,29,16]⟩,[(9,[0,2,4,6,8,10,3,12,14,16])]),(9900051,⟨[0,1,2,4,5,6,30],B2,[0,2,16,8,14]⟩,[(9,[0,2,4,6,8,10,3,12,14,16])]),(58,⟨[0],B2,[0]⟩,[])]
def _X(n:Nat):Kp:=jU n ZL
def Se(n k:Nat):Kp×ai:=(_X n,part (bh Tryz.prog n) k)
def ZX(n k:Nat):Se n k=(_X n,part (bh Tryz.prog n) k):=rfl
attribute [local irreducible] Se
def Gb(M:ak)(c:Ctx):=by
 have h:=oJ ZX M c ZL (by kernel_rfl)
 conv at h=>arg 5;reduce
 delta PR RL oh gA nK gB oV jC mF fO gH gf om vL nN rW si ZL at h
 simp only[zR,Ao,Ap,An,A5,Qw]at h;exact h
def qzu:bV:=funcAt Tryz.prog Ky
abbrev qzw(k:Nat):Kp×ai:=Se 100051 k
abbrev qzx(k:Nat):Kp×ai:=Se 9900051 k
def vn(M:ak)(c:Ctx):=I0 (Gb M c).1.1 (I0 (Gb M c).2.1.1 (I0 (Gb M c).1.2.1 (I0 (Gb M c).2.1.2.1 (I0 (Gb M c).1.2.2.1 (I0 (Gb M c).1.2.2.2 (I0 (Gb M c).2.1.2.2.1 (I0 (Gb M c).2.1.2.2.2.1 ((Gb M c).2.1.2.2.2.2))))))))
def qzv(h:W M ⟨B5,Ky⟩ (qzw 0) B4 (Bh M ⟨B5,Ky⟩ (qzx 0) 30 (eX M [.tmp 4,.tmp 5] Q)) (kN 0 [a0,a1]) [] H):Dd M Ky [a0,a1] H Q:=RR ZX (MK.at (by decide) (by kernel_rfl:(aW Tryz.prog).func Ky=B1 qzu)) (by kernel_rfl) (by kernel_rfl) (by kernel_rfl) (by kernel_rfl) (by kernel_rfl) (by kernel_rfl) h
def qvc{up:Option aG}(h:W M ⟨B5,yg⟩ (Se yg 0) B4 (eX M [] Q) (kN 0 [a0]) [] H):∃e H',jW M yg [a0] up H e up H'/\Q e H':=IB ZX (MK.at (by decide) (by kernel_rfl:(aW Tryz.prog).func yg=B1 (funcAt Tryz.prog yg))) (by kernel_rfl) (by kernel_rfl) (by kernel_rfl) h
def qvd(M:ak)(c:Ctx):=(Gb M c).2.2
abbrev PD:Nat:=17
abbrev qy7:Nat:=29
abbrev NC:Nat:=47
abbrev R7:Nat:=35
abbrev Mz:Nat:=50
abbrev U':Nat:=7
abbrev Yw:Nat:=10
abbrev qmc:Nat:=23
abbrev qmd:Nat:=14
abbrev OA:Nat:=8
abbrev TY:Nat:=24
abbrev Qb:Nat:=38
abbrev Po:Nat:=39
abbrev R5:Nat:=40
abbrev R8:Nat:=37
abbrev T':Nat:=19
abbrev Mu:Nat:=34
abbrev Hy:Nat:=21
abbrev ig:Nat:=30
abbrev uI:Nat:=37
abbrev u5:Nat:=67
abbrev El:Nat:=117
abbrev Iv:Nat:=50
abbrev yv:Nat:=47
abbrev Y5:Nat:=33
abbrev ES:Nat:=9
abbrev FB:Nat:=66
abbrev Zi:ud:=[(17,⟨[0,2,3,4,5,7,8],B2,[0,4,9]⟩,[]),(300017,⟨[0,2,3,4,5,7,8],B2,[0]⟩,[]),(200017,⟨[0,2,3,4,5,7,8],B2,[0,7]⟩,[]),(9,⟨[0,2],B2,[0]⟩,[]),(7,⟨[0,1,2,3,4,6,8,9,10,11,12,13,14,15,16,48,49],B2,[0,4,12,14,49,19,25,48,31,37,39,47]⟩,[]),(10,⟨[0,1,3,4,5,6,14],B2,[0,2,10,12,20]⟩,[(4,[2,4,0,5,6,8])]),(8,⟨[0,1,2,4,5,6,8,9],B2,[0,4,9]⟩,[(5,[0,2,4,6,1,8,10,12])]),(300008,⟨[0,1,2,4,5,6,8,9],B2,[0]⟩,[(5,[0,2,4,6,1,8,10,12])]),(200008,⟨[0,1,2,4,5,6,8,9],B2,[0]⟩,[(5,[0,2,4,6,1,8,10,12])]),(23,⟨[0,1,4],B2,[0]⟩,[]),(14,⟨[0,1,4,8],B2,[0]⟩,[]),(29,⟨[0,1,2],B2,[0]⟩,[]),(19,⟨[0,1,2],B2,[0]⟩,[]),(20,⟨[0,2],B2,[0]⟩,[]),(21,⟨[0],B2,[0]⟩,[]),(24,⟨[0,1,4],B2,[0,2,10]⟩,[]),(47,⟨[0,1],B2,[0,2,8]⟩,[]),(34,⟨[0,1,2,3,5,6],B2,[0]⟩,[]),(300034,⟨[0,1,2,3,5,6],B2,[0]⟩,[]),(200034,⟨[0,1,2,3,5,6],B2,[0]⟩,[]),(36,⟨[0,1,2,4,5,6,7],B2,[0,2,7]⟩,[]),(300036,⟨[0,1,2,4,5,6,7],B2,[0]⟩,[]),(200036,⟨[0,1,2,4,5,6,7],B2,[0]⟩,[]),(37,⟨[0,1,3,4,5,6,7,8,10,14,30,31,32],B2,[0,4,12,16,41,21,27,40,33]⟩,[(12,[0,2,4,6,8,10,7,12,14])]),(38,⟨[0,1,3,4,5,6,14],B2,[0]⟩,[]),(39,⟨[0,1,3,4,14],B2,[0]⟩,[]),(40,⟨[0,1,3,4,14],B2,[0]⟩,[]),(50,⟨[0,1,2,4,5],B2,[0,4,10,19]⟩,[])]
def YW(n:Nat):Kp:=jU n Zi
def IE(n k:Nat):Kp×ai:=(YW n,part (bh Tryz.prog n) k)
def m0(n k:Nat):IE n k=(YW n,part (bh Tryz.prog n) k):=rfl
def ux:=@kQ M _ IE YW m0
attribute [local irreducible] IE
def vh(M:ak)(c:Ctx):=by
 have h:=oJ m0 M c Zi (by kernel_rfl)
 conv at h=>arg 5;reduce
 delta PR RL oh gA nK gB oV jC mF fO gH gf om qQ sK nN qL rW si Zi at h
 simp only[zR,Ao,Ap,An,A5,Qw]at h;exact h
def ff(M:ak)(c:Ctx):=(vh M c).2.2.2.2.2.2.2.2
def fu(M:ak)(c:Ctx):=(ff M c).2.2.2.2.2.2.2.2
def fB(M:ak)(c:Ctx):=(fu M c).2.2.2.2.2.2.2.2
def TL:bV:=funcAt Tryz.prog PD
def OS:dM:=gY TL 0
abbrev Zy(k:Nat):Kp×ai:=IE 300017 k
abbrev YD(k:Nat):Kp×ai:=IE 200017 k
def _W:nth TL.loops 0=B1 OS/\OS.params=[8]:=⟨by kernel_rfl,by kernel_rfl⟩
def q6z:(Zy 0).1.ah=[0,2,3,4,5,7,8]/\(Zy 0).2=OS.assign:=⟨by kernel_rfl,by kernel_rfl⟩
def q60:(YD 0).1.ah=[0,2,3,4,5,7,8]/\(YD 0).2=OS.body:=⟨by kernel_rfl,by kernel_rfl⟩
def q9r:M.func PD=B1 TL:=MK.at (by decide) (by kernel_rfl)
def TA(M:ak)(c:Ctx):=I0 (vh M c).1.1 (I0 (vh M c).2.1 (I0 (vh M c).2.2.1.1 (I0 (vh M c).1.2.1 (I0 (vh M c).2.2.1.2 ((vh M c).1.2.2)))))
def xcd:=@ux M _ PD [.tmp 2] [a0] (by kernel_rfl) H Q
def Ab(M:ak)(c:Ctx):=(vh M c).2.2.2.2.1
def xf3:=@ux M _ U' [.tmp 8,.tmp 9] [a0,a1,a2,a3] (by kernel_rfl) H Q
def VT(M:ak)(c:Ctx):=(vh M c).2.2.2.2.2.1
def q1p:=@ux M _ Yw [.cM 14 4] [a0,a1] (by kernel_rfl) H Q
def UG:bV:=funcAt Tryz.prog OA
def RM:dM:=gY UG 0
abbrev Xt(k:Nat):Kp×ai:=IE 300008 k
abbrev VQ(k:Nat):Kp×ai:=IE 200008 k
def i_:nth UG.loops 0=B1 RM/\RM.params=[9]:=⟨by kernel_rfl,by kernel_rfl⟩
def quq:(Xt 0).1.ah=[0,1,2,4,5,6,8,9]/\(Xt 0).2=RM.assign:=⟨by kernel_rfl,by kernel_rfl⟩
def qur:(VQ 0).1.ah=[0,1,2,4,5,6,8,9]/\(VQ 0).2=RM.body:=⟨by kernel_rfl,by kernel_rfl⟩
def qw1:M.func OA=B1 UG:=MK.at (by decide) (by kernel_rfl)
def WJ(M:ak)(c:Ctx):=I0 (vh M c).2.2.2.2.2.2.1.1 (I0 (vh M c).2.2.2.2.2.2.2.1 (I0 (ff M c).1 (I0 (vh M c).2.2.2.2.2.2.1.2.1 ((vh M c).2.2.2.2.2.2.1.2.2))))
def qy6:=@ux M _ OA [.tmp 4] [a0,a1] (by kernel_rfl) H Q
def qwy(M:ak)(c:Ctx):=(ff M c).2.1
def qwx:=@ux M _ qmc [.tmp 4] [a0,a1] (by kernel_rfl) H Q
def qw0(M:ak)(c:Ctx):=(ff M c).2.2.1
def qwz:=@ux M _ qmd [.cM 8 4] [a0,a1] (by kernel_rfl) H Q
def xcf(M:ak)(c:Ctx):=(ff M c).2.2.2.1
def xce:=@ux M _ qy7 [.tmp 2] [a0] (by kernel_rfl) H Q
def xdx(M:ak)(c:Ctx):=(ff M c).2.2.2.2.1
def xdw:=@ux M _ T' [.tmp 2] [a0] (by kernel_rfl) H Q
def xdz(M:ak)(c:Ctx):=(ff M c).2.2.2.2.2.2.1
def xdy:=@ux M _ Hy [.tmp 0] [] (by kernel_rfl) H Q
def XC(M:ak)(c:Ctx):=(ff M c).2.2.2.2.2.2.2.1
def qq:=@ux M _ TY [.tmp 4] [a0,a1] (by kernel_rfl) H Q
def TQ(M:ak)(c:Ctx):=(fu M c).1
def q61:=@ux M _ NC [] [a0,a1] (by kernel_rfl) H Q
def SI:bV:=funcAt Tryz.prog Mu
def Q0:dM:=gY SI 0
abbrev Xp(k:Nat):Kp×ai:=IE 300034 k
abbrev VB(k:Nat):Kp×ai:=IE 200034 k
def qpy:nth SI.loops 0=B1 Q0/\Q0.params=[6]:=⟨by kernel_rfl,by kernel_rfl⟩
def q1q:(Xp 0).1.ah=[0,1,2,3,5,6]/\(Xp 0).2=Q0.assign:=⟨by kernel_rfl,by kernel_rfl⟩
def q1r:(VB 0).1.ah=[0,1,2,3,5,6]/\(VB 0).2=Q0.body:=⟨by kernel_rfl,by kernel_rfl⟩
def q6j:M.func Mu=B1 SI:=MK.at (by decide) (by kernel_rfl)
def o_(M:ak)(c:Ctx):=I0 (fu M c).2.1 (I0 (fu M c).2.2.1 ((fu M c).2.2.2.1))
def q7o:=@ux M _ Mu [] [a0,a1] (by kernel_rfl) H Q
def Nb(M:ak)(c:Ctx):=(fu M c).2.2.2.2.2.2.2.1
def qw2:=@ux M _ R8 [.cM 14 4] [a0,a1] (by kernel_rfl) H Q
def qru(M:ak)(c:Ctx):=(fB M c).1
def qrt:=@ux M _ Qb [.cM 14 4] [a0,a1] (by kernel_rfl) H Q
def qut(M:ak)(c:Ctx):=(fB M c).2.1
def qus:=@ux M _ Po [.cM 14 4] [a0,a1] (by kernel_rfl) H Q
def quv(M:ak)(c:Ctx):=(fB M c).2.2.1
def quu:=@ux M _ R5 [.cM 14 4] [a0,a1] (by kernel_rfl) H Q
def WK:bV:=funcAt Tryz.prog R7
def qlv:Kp:=⟨[0,1,2,3,4],B2,[0,2,8]⟩
def NB(k:Nat):Kp×ai:=(qlv,part WK.body k)
def qub(M:ak)(c:Ctx):(WE M c (NB 0) λ Q E D H=>Lz E 0 λ g a=>A3 g ig (AV.cells a) H λ g b H1=>Ly g E 1 λ g d=>A3 g bU (AV.cells d) H1 λ g e f=>W M c (NB 2) g Q ((4,.nilf)::(3,e)::(2,b)::E) D f) /\
 (WE M c (NB 2) λ Q E D H=>Lz E 3 λ g a=>B3 g (Op.ae [a] H) λ g b=>Cb g .lss b (.int .i64 1) (λ g=>B3 g ((Op.dq ES) [(.str [99,97,110,110,111,116,32,98,101,32,108,101,115,115,32,116,104,97,110,32,49])]) λ g _=>False) (λ g=>Gt g M c (NB 8) Q E D H)) /\
 (WE M c (NB 8) λ Q E D H=>Lz E 2 λ g a=>Ly g E 3 λ g b=>B3 g ((Op.bt Mz 0) [a,b]) λ g d=>qF g Q .ret ((4,d)::E) D H):=by(repeat' apply I0)<;>(intro _ _ _ _;refine yX ?_;kernel_rfl)
def qt9:(aW Tryz.prog).func R7=B1 WK/\WK.results=[.tmp 4]:=Y3 (by kernel_rfl)
def qua(h:W M ⟨B5,R7⟩ (NB 0) B4 (eX M [.tmp 4] Q) [(0,a0),(1,a1)] [] H):Dd M R7 [a0,a1] H Q:=yO (by decide) qt9 (ks:=qlv) (by kernel_rfl) h
def UQ(M:ak)(c:Ctx):=(fB M c).2.2.2
def qrn:=@ux M _ Mz [] [a0,a1,a2] (by kernel_rfl) H Q
abbrev ql6:Nat:=4
abbrev qu0:Nat:=12
abbrev qu1:Nat:=6
abbrev qy8:Nat:=13
abbrev Ll:Nat:=29
abbrev Xw:Nat:=5
abbrev VO:ud:=[(4,⟨[0,1,2,3,6,7,8,9,10,11,12,13,14,15,16],B2,[0,4,12,16,24,28,30,38,42,46]⟩,[]),(6,⟨[0,1,2,3],B2,[0,2,10,31,15,21,30]⟩,[]),(12,⟨[0,1,4,5],B2,[0,2,10,31,15,21,30]⟩,[]),(13,⟨[0,1,4,5],B2,[0]⟩,[])]
def Vi(n:Nat):Kp:=jU n VO
def U3(n k:Nat):Kp×ai:=(Vi n,part (bh Tryz.prog n) k)
def q2v(n k:Nat):U3 n k=(Vi n,part (bh Tryz.prog n) k):=rfl
def Us:=@kQ M _ U3 Vi q2v
attribute [local irreducible] U3
def UC(M:ak)(c:Ctx):=by
 have h:=oJ q2v M c VO (by kernel_rfl)
 conv at h=>arg 5;reduce
 delta PR RL oh gA nK gB oV mF fO gH gf om qQ nN rW si VO at h
 simp only[zR,Ao,Ap,An,A5,Qw]at h;exact h
def yk(M:ak)(c:Ctx):=(UC M c).1
def qv1:=@Us M _ ql6 [.tmp 6] [a0,a1,a2] (by kernel_rfl) H Q
def NM(M:ak)(c:Ctx):=(UC M c).2.1
def q91:=@Us M _ qu1 [.tmp 2] [a0] (by kernel_rfl) H Q
def Y6(M:ak)(c:Ctx):=(UC M c).2.2.1
def q90:=@Us M _ qu0 [.tmp 4] [a0,a1] (by kernel_rfl) H Q
def Zu(M:ak)(c:Ctx):=(UC M c).2.2.2
def xck:=@Us M _ qy8 [.tmp 4] [a0,a1] (by kernel_rfl) H Q
end
end Go.Am
