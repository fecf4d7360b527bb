import Derived.Test.YtpnpgihabgglcaaGreatDoorAmUZd
import Derived.Test.YtpnpgihabgglcaaGreatDoorAmUZa
import Derived.KernelRfl
import Derived.Test.YtpnpgihabgglcaaGreatDoorRows
set_option linter.unusedVariables false
set_option linter.unusedSimpArgs false
set_option linter.defProp false
set_option maxRecDepth 100000
set_option maxHeartbeats 1000000
namespace Go.Am
noncomputable section
def PR:Type:=Prop
abbrev WR:=Bool->aF->Env->List aM->ar->PR
abbrev KQ:=Bool->Env->Env->ar->PR
def FT(m:Bool)(o:Option (bH×(Nat->AV)))(H:ar)(K:Bool->AV->ar->Prop):Prop:=iS m o λ g o mk=>K g (mk H.au) (H.alloc o)
def mM{α:Type}:Bool->Option α->(Bool -> α->PR)->PR:=@B3 α
def gy{α β:Type}:Bool->Option (α×β)->(Bool -> α -> β->PR)->PR:=@iS α β
def fH:Bool->AV->(Bool->PR)->(Bool->PR)->PR:=mH
def gh:Bool->Bool->(Bool->PR)->(Bool->PR)->PR:=uF
def iA:Bool->Option AV->Option AV->(Bool->PR)->PR:=LF
def fY:Bool->Option (bH×(Nat->AV))->ar->(Bool->AV->ar->PR)->PR:=FT
def nP:ak->Bool->lJ->List AV->ar->(Bool->AV->ar->PR)->PR:=C3
def vW:ak->Bool->(aE->ar->PR)->lJ->List AV->ar->(Bool->AV->ar->PR)->PR:=P3
def p9:Bool->List AV->(Bool->lJ->List AV->PR)->PR:=V3
def uc:ak->Bool->String->List AV->(Bool->lJ->List AV->PR)->PR:=N3
def uw:Option (List Nat)->List Nat->aF->Env->List aM->aE->ar->PR:=PX
def wN:List AV->ar->(aE->ar->PR)->PR:=fZ
def fP{α:Type}:(α->PR) -> α->PR:=@JN α
def lW:Bool->aF->aU->Env->List aM->ar->PR:=pT
def nI{α:Type}:Bool->Option α->(Bool -> α->PR)->PR:=@LK α
def rW:ak->Ctx->Kp×ai->WR:=W
def pU:WR->aF->Env->List aM->ar->PR:=de
def sn:ak->List Nat->Ctx->Nat->Env->List aM->ar->aF->AV->PR:=jB
def ng:WR->aF->aF:=eP
def qW:PR:=False
def nA:Env->Nat->Option AV:=lk
section
variable(M:ak)
def Uo(E L R:Env)(t:Nat)(g:Bool)(K:Bool->Env->AV->PR):PR :=
 Option.rec (motive:=λ _=>PR) (Option.rec (motive:=λ _=>PR) (nI g (nA E t) λ g v=>K g ((t,v)::R) v) (λ v=>K g R v) (lk R t)) (λ v=>K g R v) (lk L t)
def tEV(E L:Env)(l:List bI):Bool->Env->(Bool->Env->List AV->PR)->PR:=List.rec (motive:=λ _=>Bool->Env->(Bool->Env->List AV->PR)->PR) (λ g R K=>K g R [])
 (λ x _ ih g R K=>bI.casesOn x (λ t=>Uo E L R t g λ g R v=>ih g R λ g R vs=>K g R (v::vs)) (λ v=>ih g R λ g R vs=>K g R (v::vs)) (λ b=>ih g R λ g R vs=>K g R (.ptr b 0::vs)) (λ f=>ih g R λ g R vs=>K g R (.fn (.func f) [] []::vs))) l
def Ue(cR:Bool)(ps:Option (List Nat))(L:Env)(Q:aF)(E:Env)(D:List aM)(g:Bool)(f:lJ)(vs:List AV)(H:ar)(K:Bool->AV->ar->PR):PR :=
 cond cR (vW M g (uw ps (kQ L) Q E D) f vs H K) (nP M g f vs H K)
def tOP(cR:Bool)(dst:Option Nat)(ps:Option (List Nat))(Q:aF)(E:Env)(D:List aM)(L R:Env)(H:ar)(K:KQ)(g:Bool)(vs:List AV):ft->PR
 | .pure f=>mM g (f vs) λ g v=>K g (kT dst v L) R H
 | .read f=>mM g (f vs H) λ g v=>K g (kT dst v L) R H
 | .alloc f=>fY g (f vs) H λ g v H=>K g (kT dst v L) R H
 | .gJ f=>gy g (f vs H) λ g v H=>K g (kT dst v L) R H
 | .gY f=>Ue M cR ps L Q E D g (.func f) vs H (λ g v H=>K g (kT dst v L) R H)
 | .gS=>p9 g vs λ g f vs=>Ue M cR ps L Q E D g f vs H (λ g v H=>K g (kT dst v L) R H)
 | .invoke name=>uc M g name vs λ g f vs=>Ue M cR ps L Q E D g f vs H (λ g v H=>K g (kT dst v L) R H)
 | .panic=>cond cR (wN vs H (uw ps (kQ L) Q E D)) qW
 |_=>qW
def tCK(dst:Option Nat)(E L R:Env)(H:ar)(K:KQ)(g:Bool)(vs:List AV):ft->PR
 | .read f=>match dst with
  |some d=>iA g (f vs H) (Option.rec (motive:=λ _=>Option AV) (nA E d) (λ v=>some v) (lk L d)) λ g=>K g L R H
  |none=>qW
 |_=>qW
def tST(cR:Bool)(s:aN)(Q:aF)(E:Env)(D:List aM)(K:KQ):KQ:=λ g L R H =>
 tEV E L s.args g R λ g R vs=>match s.gW with
  |false=>tOP M cR s.dst s.ct Q E D L R H K g vs s.op
  |true=>tCK s.dst E L R H K g vs s.op
def Y5(cR:Bool)(Q:aF)(E:Env)(D:List aM)(K:KQ)(l:List aN):KQ:=List.rec (motive:=λ _=>KQ) K (λ s _ ih=>tST M cR s Q E D ih) l
def qZ(n:Nat):Type:=Nat.rec (motive:=λ _=>Type) (ar->PR) (λ _ T=>AV->T) n
def Tu:(n:Nat)->((Bool->qZ n)->PR)->(Bool->qZ n)->PR
 |0=>λ F K=>fP (α:=Bool->ar->PR) (λ k=>F k) K
 |1=>λ F K=>fP (α:=Bool->AV->ar->PR) (λ k=>F k) K
 |2=>λ F K=>fP (α:=Bool->AV->AV->ar->PR) (λ k=>F k) K
 |3=>λ F K=>fP (α:=Bool->AV->AV->AV->ar->PR) (λ k=>F k) K
 |4=>λ F K=>fP (α:=Bool->AV->AV->AV->AV->ar->PR) (λ k=>F k) K
 |5=>λ F K=>fP (α:=Bool->AV->AV->AV->AV->AV->ar->PR) (λ k=>F k) K
 |6=>λ F K=>fP (α:=Bool->AV->AV->AV->AV->AV->AV->ar->PR) (λ k=>F k) K
 |7=>λ F K=>fP (α:=Bool->AV->AV->AV->AV->AV->AV->AV->ar->PR) (λ k=>F k) K
 |8=>λ F K=>fP (α:=Bool->AV->AV->AV->AV->AV->AV->AV->AV->ar->PR) (λ k=>F k) K
 |9=>λ F K=>fP (α:=Bool->AV->AV->AV->AV->AV->AV->AV->AV->AV->ar->PR) (λ k=>F k) K
 |10=>λ F K=>fP (α:=Bool->AV->AV->AV->AV->AV->AV->AV->AV->AV->AV->ar->PR) (λ k=>F k) K
 |11=>λ F K=>fP (α:=Bool->AV->AV->AV->AV->AV->AV->AV->AV->AV->AV->AV->ar->PR) (λ k=>F k) K
 |12=>λ F K=>fP (α:=Bool->AV->AV->AV->AV->AV->AV->AV->AV->AV->AV->AV->AV->ar->PR) (λ k=>F k) K
 |13=>λ F K=>fP (α:=Bool->AV->AV->AV->AV->AV->AV->AV->AV->AV->AV->AV->AV->AV->ar->PR) (λ k=>F k) K
 |14=>λ F K=>fP (α:=Bool->AV->AV->AV->AV->AV->AV->AV->AV->AV->AV->AV->AV->AV->AV->ar->PR) (λ k=>F k) K
 |15=>λ F K=>fP (α:=Bool->AV->AV->AV->AV->AV->AV->AV->AV->AV->AV->AV->AV->AV->AV->AV->ar->PR) (λ k=>F k) K
 |16=>λ F K=>fP (α:=Bool->AV->AV->AV->AV->AV->AV->AV->AV->AV->AV->AV->AV->AV->AV->AV->AV->ar->PR) (λ k=>F k) K
 |17=>λ F K=>fP (α:=Bool->AV->AV->AV->AV->AV->AV->AV->AV->AV->AV->AV->AV->AV->AV->AV->AV->AV->ar->PR) (λ k=>F k) K
 |18=>λ F K=>fP (α:=Bool->AV->AV->AV->AV->AV->AV->AV->AV->AV->AV->AV->AV->AV->AV->AV->AV->AV->AV->ar->PR) (λ k=>F k) K
 |19=>λ F K=>fP (α:=Bool->AV->AV->AV->AV->AV->AV->AV->AV->AV->AV->AV->AV->AV->AV->AV->AV->AV->AV->AV->ar->PR) (λ k=>F k) K
 |20=>λ F K=>fP (α:=Bool->AV->AV->AV->AV->AV->AV->AV->AV->AV->AV->AV->AV->AV->AV->AV->AV->AV->AV->AV->AV->ar->PR) (λ k=>F k) K
 |21=>λ F K=>fP (α:=Bool->AV->AV->AV->AV->AV->AV->AV->AV->AV->AV->AV->AV->AV->AV->AV->AV->AV->AV->AV->AV->AV->ar->PR) (λ k=>F k) K
 |22=>λ F K=>fP (α:=Bool->AV->AV->AV->AV->AV->AV->AV->AV->AV->AV->AV->AV->AV->AV->AV->AV->AV->AV->AV->AV->AV->AV->ar->PR) (λ k=>F k) K
 |23=>λ F K=>fP (α:=Bool->AV->AV->AV->AV->AV->AV->AV->AV->AV->AV->AV->AV->AV->AV->AV->AV->AV->AV->AV->AV->AV->AV->AV->ar->PR) (λ k=>F k) K
 |24=>λ F K=>fP (α:=Bool->AV->AV->AV->AV->AV->AV->AV->AV->AV->AV->AV->AV->AV->AV->AV->AV->AV->AV->AV->AV->AV->AV->AV->AV->ar->PR) (λ k=>F k) K
 |25=>λ F K=>fP (α:=Bool->AV->AV->AV->AV->AV->AV->AV->AV->AV->AV->AV->AV->AV->AV->AV->AV->AV->AV->AV->AV->AV->AV->AV->AV->AV->ar->PR) (λ k=>F k) K
 |26=>λ F K=>fP (α:=Bool->AV->AV->AV->AV->AV->AV->AV->AV->AV->AV->AV->AV->AV->AV->AV->AV->AV->AV->AV->AV->AV->AV->AV->AV->AV->AV->ar->PR) (λ k=>F k) K
 |27=>λ F K=>fP (α:=Bool->AV->AV->AV->AV->AV->AV->AV->AV->AV->AV->AV->AV->AV->AV->AV->AV->AV->AV->AV->AV->AV->AV->AV->AV->AV->AV->AV->ar->PR) (λ k=>F k) K
 |28=>λ F K=>fP (α:=Bool->AV->AV->AV->AV->AV->AV->AV->AV->AV->AV->AV->AV->AV->AV->AV->AV->AV->AV->AV->AV->AV->AV->AV->AV->AV->AV->AV->AV->ar->PR) (λ k=>F k) K
 |_+29=>λ F K=>fP F K
def KJ:∀(n:Nat)(F:(Bool->qZ n)->PR)(K:Bool->qZ n),Tu n F K=fP F K:=λ n=>by
 unfold Tu;split<;>exact λ F K=>rfl
def Xo(n:Nat):(List AV->ar->PR)->qZ n:=Nat.rec (motive:=λ n=>(List AV->ar->PR)->qZ n) (λ f=>f []) (λ _ ih f v=>ih λ l=>f (v::l)) n
def OS(n:Nat):qZ n->List AV->ar->PR:=Nat.rec (motive:=λ n=>qZ n->List AV->ar->PR) (λ k _=>k) (λ _ ih k l=>List.casesOn (motive:=λ _=>ar->PR) l (λ _=>qW) λ v l=>ih (k v) l) n
def Xa(cR:Bool)(Q:aF)(E:Env)(D:List aM)(x:Ed)(K:KQ):KQ:=λ g L R H=>match x.1 with
 |none=>Y5 M cR Q E D K x.2 g L R H
 |some q=>cond (ue q.1 x.2) (Uo E L R q.1 g λ g R v=>Tu (cQ (bn x.2 []))
  (λ k=>mM g (cN q.2 (some v)) λ g w=>gh g w (λ g=>Y5 M cR Q E D (λ g L _ H=>OS (cQ (bn x.2 [])) (k g) (qH (cQ (bn x.2 [])) L) H) x.2 g L R H) (λ g=>OS (cQ (bn x.2 [])) (k g) (rz (cQ (bn x.2 []))) H))
  (λ g=>Xo (cQ (bn x.2 [])) λ vs H=>K g (kK (bn x.2 []) L vs) R H)) qW
def Pp(cR:Bool)(Q:aF)(E:Env)(D:List aM)(l:List aN)(g:Bool)(H:ar)(K:KQ):PR:=List.rec (motive:=λ _=>KQ) K (λ x _ ih=>Xa M cR Q E D x ih) (Hn l) g [] [] H
def Zc(E:Env)(x:bI)(g:Bool)(K:Bool->AV->PR):PR:=match x with
 | .tmp t=>nI g (nA E t) K
 | .const v=>K g v
 | .d8 b=>K g (.ptr b 0)
 | .func f=>K g (.fn (.func f) [] [])
def Zk(E L R:Env)(x:bI)(g:Bool)(K:Bool->AV->PR):PR:=match x with
 | .tmp t=>Uo E L R t g λ g _ v=>K g v
 | .const v=>K g v
 | .d8 b=>K g (.ptr b 0)
 | .func f=>K g (.fn (.func f) [] [])
def tU(rg:Bool->aF->Env->List aM->List aN->Bool->ar->KQ->PR)(ctx:Ctx)(K:Kp)(X:Nat->WR):ai->Nat->WR
 | .skip,_,g,Q,E,D,H=>lW g Q .normal E D H
 | .label _,_,g,Q,E,D,H=>lW g Q .normal E D H
 | .exit id,_,g,Q,E,D,H=>lW g Q (.exit id) E D H
 | .goto l,_,g,Q,E,D,H=>lW g Q (.goto l) E D H
 | .ret,_,g,Q,E,D,H=>lW g Q .ret E D H
 | .stuck,_,_,_,_,_,_=>qW
 | .region l,_,g,Q,E,D,H=>rg K.cR Q E D l g H λ g L _ H=>lW g Q .normal (du K.ah E L) D H
 | .seq a b,k,g,Q,E,D,H=>match a,b with
  | .region l,.cond c x y=>rg K.cR Q E D l g H λ g L R H=>Zk E L R c g λ g v=>fH g v (λ g=>(Bool.rec (motive:=λ _=>WR) (tU rg ctx K X x (k+3)) (X (k+3)) (bC (k+3) K.named)) g Q (du K.ah E L) D H) (λ g=>(Bool.rec (motive:=λ _=>WR) (tU rg ctx K X y (k+3+di x)) (X (k+3+di x)) (bC (k+3+di x) K.named)) g Q (du K.ah E L) D H)
  | .region l,.seq (.cond c x y) r=>rg K.cR Q E D l g H λ g L R H=>Zk E L R c g λ g v=>fH g v (λ g=>(Bool.rec (motive:=λ _=>WR) (tU rg ctx K X x (k+4)) (X (k+4)) (bC (k+4) K.named)) g (ng (Bool.rec (motive:=λ _=>WR) (tU rg ctx K X r (k+4+di x+di y)) (X (k+4+di x+di y)) (bC (k+4+di x+di y) K.named)) Q) (du K.ah E L) D H)
   (λ g=>(Bool.rec (motive:=λ _=>WR) (tU rg ctx K X y (k+4+di x)) (X (k+4+di x)) (bC (k+4+di x) K.named)) g (ng (Bool.rec (motive:=λ _=>WR) (tU rg ctx K X r (k+4+di x+di y)) (X (k+4+di x+di y)) (bC (k+4+di x+di y) K.named)) Q) (du K.ah E L) D H)
  | .region l,b=>rg K.cR Q E D l g H λ g L _ H=>(Bool.rec (motive:=λ _=>WR) (tU rg ctx K X b (k+2)) (X (k+2)) (bC (k+2) K.named)) g Q (du K.ah E L) D H
  |a,b=>(Bool.rec (motive:=λ _=>WR) (tU rg ctx K X a (k+1)) (X (k+1)) (bC (k+1) K.named)) g (ng (Bool.rec (motive:=λ _=>WR) (tU rg ctx K X b (k+1+di a)) (X (k+1+di a)) (bC (k+1+di a) K.named)) Q) E D H
 | .cond c x y,k,g,Q,E,D,H=>Zc E c g λ g v=>fH g v (λ g=>(Bool.rec (motive:=λ _=>WR) (tU rg ctx K X x (k+1)) (X (k+1)) (bC (k+1) K.named)) g Q E D H) (λ g=>(Bool.rec (motive:=λ _=>WR) (tU rg ctx K X y (k+1+di x)) (X (k+1+di x)) (bC (k+1+di x) K.named)) g Q E D H)
 | .block id b,k,g,Q,E,D,H=>(Bool.rec (motive:=λ _=>WR) (tU rg ctx K X b (k+1)) (X (k+1)) (bC (k+1) K.named)) g (eM id Q) E D H
 | .scope b,k,g,Q,E,D,H=>(Bool.rec (motive:=λ _=>WR) (tU rg ctx K X b (k+1)) (X (k+1)) (bC (k+1) K.named)) g (jR b Q) E D H
 | .loop (some _) _,_,_,_,_,_,_=>qW
 | .loop none b,k,g,Q,E,D,H=>pU (Bool.rec (motive:=λ _=>WR) (tU rg ctx K X b (k+1)) (X (k+1)) (bC (k+1) K.named)) Q E D H
 | .rangeFunc f n,_,g,Q,E,D,H=>Zc E f g λ g v=>sn M K.ah ctx n E D H Q v
end
def JC(M:ak):Xa M=Nm M:=by
 funext cR Q E D ⟨o,l⟩ K g L R H;cases o with
 |none=>kernel_rfl
 |some q =>
  unfold Xa;simp only[KJ]
  kernel_rfl
def JP(M:ak):Pp M=qS M:=by
 funext cR Q E D l g H K;unfold Pp qS vQ;rw[JC];rfl
def Kc(M:ak)(c:Ctx)(K:Kp)(X:Nat->WX):tU M (qS M) c K X=U M c K X:=by kernel_rfl
def OM(M:ak)(c:Ctx)(K:Kp)(X:Nat->WX):tU M (Pp M) c K X=U M c K X:=by rw[JP];exact Kc M c K X
abbrev Hs:=List (Nat×List Nat)
def WY(n:Nat)(l:Hs):Option (List Nat):=List.rec (motive:=λ _=>Option (List Nat)) none (λ p _ ih=>cond (Nat.beq p.1 n) (some p.2) ih) l
def Cg(P:Program):Nat->TypeId->Option aP
 |0,_=>none
 |d+1,t=>match P.underlying t with
  |some (.struct fs)=>dm.fieldsT P (Cg P d) fs.toList
  |some (.array n e)=>(bN P e).bind λ s=>(nF P e).bind λ a=>(Cg P d e).bind λ q=>some (dm.itemsT s a q n 0)
  |_=>dm P 1 t
def SP(P:Program)(t:TypeId)(neg:Bool)(x y:Operand):Option (List bI×ft):=(Cg P 20 t).bind λ q=>(nG P.globals.size [x,y]).bind λ l=>some (l,.read (Op.eq (.agg q) neg))
def K7(P:Program)(o:Oper):Option (List bI×ft):=match o.op with
 | .binOp op t x y _=>match P.underlying t,op with
  |some (.struct _),.eql=>SP P t false x y
  |some (.struct _),.neq=>SP P t true x y
  |some (.array _ _),.eql=>SP P t false x y
  |some (.array _ _),.neq=>SP P t true x y
  |_,_=>fT P o
 |_=>fT P o
def N2(P:Program)(ops:Array Oper)(draw:Bool)(h:Option (List Nat)):Option ai :=
 (dg (ops.toList.map (K7 P))).bind λ l =>
  (dg ((Option.rec (motive:=λ _=>List (Bool×Nat)) ((List.range ops.size).map λ i=>(false,i)) (λ l=>l.map λ x=>(Nat.beq (x % 2) 1,x / 2)) h).map (iX ops l λ i=>Bool.rec (motive:=λ _=>Option (List Nat)) (some []) (Mz ops (aT ops l) (mq (aT ops l).cls (aT ops l).fX ops.size (2*ops.size) 0 []) i) draw))).bind λ steps=>some (.region steps)
def iY(P:Program)(hs:Hs):Nat->Code->Option (ai×List dZ)
 |_,.skip=>some (.skip,[])
 |_,.region r ops draw=>(N2 P ops draw (Bool.rec none (WY r hs) draw)).bind λ c=>some (c,[])
 |k,.seq a b=>(iY P hs k a).bind λ a=>(iY P hs (k+a.2.length) b).bind λ b=>some (.seq a.1 b.1,a.2++b.2)
 |k,.cond c a b=>(qL P.globals.size c).bind λ c=>(iY P hs k a).bind λ a=>(iY P hs (k+a.2.length) b).bind λ b=>some (.cond c a.1 b.1,a.2++b.2)
 |k,.block id b=>(iY P hs k b).bind λ b=>some (.block id b.1,b.2)
 |k,.loop b=>(iY P hs k b).bind λ b=>some (.loop none b.1,b.2)
 |k,.rangeFunc f ps a b=>(qL P.globals.size f).bind λ f=>(iY P hs (k+1) a).bind λ a=>(iY P hs (k+1+a.2.length) b).bind λ b=>some (.rangeFunc f k,{params:=ps.toList,assign:=a.1,body:=b.1}::(a.2++b.2))
 |_,.exit id=>some (.exit id,[])
 |k,.scope b=>(iY P hs k b).bind λ b=>some (.scope b.1,b.2)
 |_,.label l=>some (.label l,[])
 |_,.goto l=>some (.goto l,[])
 |_,.ret=>some (.ret,[])
 |_,.refuse _=>some (.stuck,[])
def C1(n:Nat)(b:ai)(l:List dZ):ai:=Bool.rec (motive:=λ _=>ai)
 (Bool.rec (motive:=λ _=>ai) (Bool.rec (motive:=λ _=>ai)
 (Option.rec (motive:=λ _=>ai) .stuck (λ q=>Bool.rec (motive:=λ _=>ai) q.body q.assign (Nat.beq (n / 100000 % 2) 1)) (nth l (n / 100000 / 2-1))) (xL b) (Nat.beq (n / 100000) 1)) (vD b) (Nat.beq (n / 100000) 99)) b (Nat.ble n 99999)
def aY(P:Program)(n:Nat):ai:=C1 n (funcAt P (n % 100000)).body (funcAt P (n % 100000)).loops
def HK(P:Program)(hs:Hs)(n:Nat):ai:=Option.rec (motive:=λ _=>ai) .stuck (λ f=>Option.rec (motive:=λ _=>ai) .stuck (λ b=>Option.rec (motive:=λ _=>ai) .stuck (λ c=>C1 n c.1 c.2) (iY P hs 0 b)) f.body) (P.funcs[n % 100000]?)
abbrev RL:=List (aF->Env->List aM->ar->PR)
abbrev QL:=List (aF->Env->List aM->ar->Prop)
def ti(M:ak)(c:Ctx)(p:Nat->Kp×ai):List Nat->QL->Prop
 |k::ks,R::l=>(∀Q E D H,W M c (p k) true Q E D H=R Q E D H)/\ti M c p ks l
 |_,_=>True
def yD(M:ak)(c:Ctx)(p:Nat->Kp×ai)(k a:Nat)(ks:List Nat)(R:aF->Env->List aM->ar->Prop)(l:QL):ti M c p (k::a::ks) (R::l)=((∀Q E D H,W M c (p k) true Q E D H=R Q E D H)/\ti M c p (a::ks) l):=rfl
def xX(M:ak)(c:Ctx)(p:Nat->Kp×ai)(k:Nat)(R:aF->Env->List aM->ar->Prop):ti M c p [k] [R] = ∀Q E D H,W M c (p k) true Q E D H=R Q E D H:=propext ⟨λ h=>h.1,λ h=>⟨h,trivial⟩⟩
def tW(M:ak)(c:Ctx)(K:Kp)(p:Nat->Kp×ai)(r:ai)(ks:List Nat):RL :=
 List.rec (motive:=λ _=>RL) [] (λ k _ ih=>(λ Q E D H=>tU M (Pp M) c K (λ j=>rW M c (p j)) (part r k) k true Q E D H)::ih) ks
def Pq{P:Program}{p:Nat->Nat->Kp×ai}{a:Nat->Kp}(hp:∀n k,p n k=(a n,part (aY P n) k))(M:ak)(c:Ctx)(n:Nat):∀ks:List Nat,ti M c (p n) ks (tW M c (a n) (p n) (aY P n) ks)
 |[]=>trivial
 |k::ks=>⟨λ Q E D H=>by
  have e:(λ j=>W M c (p n j))=λ j=>W M c (a n,part (aY P n) j):=funext λ j=>by rw[hp]
  show _=tU M (Pp M) c (a n) (λ j=>W M c (p n j)) (part (aY P n) k) k true Q E D H;rw[hp n k,e,OM];exact Dj rfl,Pq hp M c n ks⟩
def DQ(o:bH)(mk:Nat->AV)(H:ar)(K:Bool->AV->ar->Prop):FT true (some (o,mk)) H K=K true (mk H.au) (H.alloc o):=propext jx
def xhc(e:Nat)(z:List AV)(H:ar)(K:Bool->AV->ar->Prop):FT true (Op.alloc e z []) H K=K true (.ptr H.au 0) (H.alloc (.row z e (0,0) true)):=propext jx
def Gq(e:Nat)(v:AV)(H:ar)(K:Bool->AV->ar->Prop):FT true (Op.box e [v]) H K=K true (.ptr H.au 0) (H.alloc (.row v.cells e (0,0) true)):=propext jx
@[congr]def LU{m a:Bool}{o o':Option (bH×(Nat->AV))}{H H':ar}{K:Bool->AV->ar->Prop}(hm:m=a)(h:o=o')(b:H=H'):FT m o H K=FT a o' H' K:=by subst hm;subst h;subst b;rfl
abbrev sQ:=List (Nat×Kp×Hs)
def jE(n:Nat)(l:sQ):Kp:=List.rec (motive:=λ _=>Kp) ⟨[],false,[]⟩ (λ p _ ih=>cond (Nat.beq p.1 n) p.2.1 ih) l
def BR(M:ak)(c:Ctx)(p:Nat->Nat->Kp×ai):sQ->List QL->Prop
 |x::r,l::ls=>ti M c (p x.1) x.2.1.named l/\BR M c p r ls
 |_,_=>True
def yI(M:ak)(c:Ctx)(p:Nat->Nat->Kp×ai)(n:Nat)(ks a:List Nat)(b:Bool)(hs:Hs)(y:Nat×Kp×Hs)(r:sQ)(l:QL)(ls:List QL):BR M c p ((n,⟨a,b,ks⟩,hs)::y::r) (l::ls)=(ti M c (p n) ks l/\BR M c p (y::r) ls):=rfl
def xJ(M:ak)(c:Ctx)(p:Nat->Nat->Kp×ai)(n:Nat)(ks a:List Nat)(b:Bool)(hs:Hs)(l:QL):BR M c p [(n,⟨a,b,ks⟩,hs)] [l]=ti M c (p n) ks l:=propext ⟨λ h=>h.1,λ h=>⟨h,trivial⟩⟩
def tF(M:ak)(c:Ctx)(Kt:Nat->Kp)(p:Nat->Nat->Kp×ai)(r:Nat->Hs->ai)(l:sQ):List RL:=List.rec (motive:=λ _=>List RL) [] (λ x _ ih=>tW M c (Kt x.1) (p x.1) (r x.1 x.2.2) x.2.1.named::ih) l
def nM{P:Program}{p:Nat->Nat->Kp×ai}{a:Nat->Kp}(hp:∀n k,p n k=(a n,part (aY P n) k))(M:ak)(c:Ctx)(l:sQ)(e:tF M c a p (λ n _=>aY P n) l=tF M c a p (λ n h=>HK P h n) l):BR M c p l (tF M c a p (λ n h=>HK P h n) l):=by
 rw[<-e];clear e
 induction l with
 |nil=>trivial
 |cons x l ih=>exact⟨Pq hp M c x.1 _,ih⟩
def Tl:dX->dX->Bool
 | .tmp a,.tmp b=>Nat.beq a b
 | .kA a,.kA b=>Nat.beq a b
 | .cL a b,.cL c d=>cond (Nat.beq a c) (Nat.beq b d) false
 |_,_=>false
def NB{a b:dX}(h:Tl a b=true):a=b:=by
 cases a with
 |tmp a=>cases b with
  |tmp b=>rw[wg h]
  |_=>cases h
 |kA a=>cases b with
  |kA b=>rw[wg h]
  |_=>cases h
 |cL a x=>cases b with
  |cL b y =>
   have h:cond (Nat.beq a b) (Nat.beq x y) false=true:=h;cases q:Nat.beq a b with
   |true=>rw[q]at h;rw[wg q,wg h]
   |false=>rw[q]at h;cases h
  |_=>cases h
def GU:List dX->List dX->Bool
 |[],[]=>true
 |a::x,b::y=>cond (Tl a b) (GU x y) false
 |_,_=>false
def CM:∀{a b:List dX},GU a b=true->a=b
 |[],[],_=>rfl
 |a::x,b::y,h=>by
  unfold GU at h;cases q:Tl a b with
  |true=>rw[q]at h;rw[NB q,CM h]
  |false=>rw[q]at h;cases h
def WI(P:Program)(tn:List Nat)(K:Kp)(n:Nat)(rs:List dX)(k:Nat):Bool:=cond (Nat.ble n 99999) (cond (bC n tn) false (cond (i7 0 k K.ah) (Option.rec (motive:=λ _=>Bool) false (λ F=>GU F.results rs) ((aV P).func n)) false)) false
def PO{P:Program}{c:List Nat}{K:Kp}{n:Nat}{rs:List dX}{k:Nat}(h:WI P c K n rs k=true):Nat.ble n 99999=true/\bC n c=false/\i7 0 k K.ah=true/\(aV P).func n=some (funcAt P n)/\(funcAt P n).results=rs:=by
 unfold WI at h;cases a:Nat.ble n 99999 with
 |false=>rw[a]at h;cases h
 |true =>
 cases b:bC n c with
 |true=>rw[a,b]at h;cases h
 |false =>
 cases d:i7 0 k K.ah with
 |false=>rw[a,b,d]at h;cases h
 |true =>
 rw[a,b,d]at h;unfold funcAt;cases f:(aV P).func n with
 |none=>rw[f]at h;cases h
 |some F=>rw[f]at h;exact⟨rfl,rfl,rfl,rfl,CM h⟩
def AQ{P:Program}{n:Nat}(h:Nat.ble n 99999=true):aY P n=(funcAt P n).body:=by
 unfold aY C1;rw[h,Nat.mod_eq_of_lt (Nat.lt_of_le_of_lt (Nat.le_of_ble_eq_true h) (by decide))]
def KA(i:Nat)(v:AV)(vs:List AV):jT i (v::vs)=(i,v)::jT (i+1) vs:=rfl
def I9(i:Nat):jT i []=[]:=rfl
def aa:type_of% PZ/\(∀(o:bH)mk H K,FT true (some (o,mk)) H K=K true (mk H.au) (H.alloc o))/\(∀e z H K,FT true (Op.alloc e z []) H K=K true (.ptr H.au 0) (H.alloc (.row z e (0,0) true)))/\(∀e v H K,FT true (Op.box e [v]) H K=K true (.ptr H.au 0) (H.alloc (.row v.cells e (0,0) true)))/\(∀i v vs,jT i (v::vs)=(i,v)::jT (i+1) vs)/\(∀i,jT i []=[])/\(∀{α:Type}(F:α->Prop)(K:α),JN F K=F K):=⟨PZ,DQ,xhc,Gq,KA,I9,Io⟩
def Ok{M:ak}{P:Program}{p:Nat->Nat->Kp×ai}{a:Nat->Kp}(hp:∀n k,p n k=(a n,part (aY P n) k)){n:Nat}{F:cj}(d:M.func n=some F){rs:List dX}(hr:F.results=rs){x y t:Nat}(c:rp F.body=some (xL F.body,t,vD F.body))(e:aY P x=xL F.body)(f:aY P y=vD F.body)(hk:(a x).ah=(a y).ah){vs:List AV}(b:i7 0 vs.length (a x).ah=true){H:ar}{Q:bE->ar->Prop}
 (h:W M ⟨none,n⟩ (p x 0) true (zS M ⟨none,n⟩ (p y 0) t (fj M rs Q)) (jT 0 vs) [] H):D4 M n vs H Q:=by
 rw[hp,hp,e,f,<-hr]at h;exact EY d hk c b h
def GV{M:ak}{P:Program}{p:Nat->Nat->Kp×ai}{a:Nat->Kp}(hp:∀n k,p n k=(a n,part (aY P n) k)){n:Nat}{F:cj}(c:M.func n=some F){rs:List dX}(hr:F.results=rs)(d:aY P n=F.body){vs:List AV}(b:i7 0 vs.length (a n).ah=true){up:Option aE}{H:ar}{Q:bE->ar->Prop}
 (h:W M ⟨none,n⟩ (p n 0) true (fj M rs Q) (jT 0 vs) [] H):∃e H',jJ M n vs up H e up H'/\Q e H':=by
 rw[hp,d,<-hr]at h;exact GF c b h
abbrev MO:Nat:=158
abbrev VN:Nat:=88
abbrev LP:Nat:=128
abbrev Tj:Nat:=86
abbrev LO:Nat:=127
abbrev Tz:Nat:=83
abbrev Ut:Nat:=247
abbrev Xm:Nat:=91
abbrev Vs:Nat:=246
abbrev Xn:Nat:=245
abbrev LH:Nat:=123
abbrev qox:Nat:=157
abbrev Jh:Nat:=180
abbrev Wm:Nat:=125
abbrev Lu:Nat:=155
abbrev sI:Nat:=153
abbrev KB:Nat:=179
abbrev ZG:Nat:=156
abbrev Tw:Nat:=61
abbrev q6w:Nat:=5
abbrev xk:Nat:=205
abbrev k9:Nat:=99
abbrev cK:Nat:=3
abbrev TR:Nat:=221
abbrev kh:Nat:=251
abbrev AH:Nat:=172
open Go.Proofs Go.Proofs.YtpnpgihabgglcaaGreatDoor
class MK (M:ak):Prop where
 ok:∀n,bC n [5]=false->M.func n=(aV Tryz.prog).func n
 mt:∀t s,M.jN t s=(aV Tryz.prog).jN t s
def MK.at{M:ak}[h:MK M]{n:Nat}{F:cj}(hn:bC n [5]=false)(a:(aV Tryz.prog).func n=some F):M.func n=some F:=(h.ok n hn).trans a
def Bq{M:ak}[h:MK M]{n:Nat}{F:cj}(hn:bC n [5]=false){rs:List dX}(a:(aV Tryz.prog).func n=some F/\F.results=rs){ks:Kp}{vs:List AV}(hk:i7 0 vs.length ks.ah=true){H:ar}{Q:bE->ar->Prop}(hw:W M ⟨none,n⟩ (ks,part F.body 0) true (fj M rs Q) (jT 0 vs) [] H):D4 M n vs H Q:=Of (MK.at hn a.1) hk (a.2▸hw)
def kD{M:ak}[MK M]{p:Nat->Nat->Kp×ai}{a:Nat->Kp}(hp:∀n k,p n k=(a n,part (aY Tryz.prog n) k))(n:Nat)(rs:List dX)(vs:List AV)(b:WI Tryz.prog [5] (a n) n rs vs.length=true)(H:ar)(Q:bE->ar->Prop)(h:W M ⟨none,n⟩ (p n 0) true (fj M rs Q) (jT 0 vs) [] H):D4 M n vs H Q:=by
 obtain⟨b,c,d,e⟩:=PO b;exact Bq c e (ks:=a n) d (by rw[hp,AQ b]at h;exact h)
variable{M:ak}[MK M]{H:ar}{Q:bE->ar->Prop}{a0 a1 a2 a3:AV}
abbrev Uk:sQ:=[(61,⟨[0,1,4,5],false,[0,2,10]⟩,[]),(158,⟨[0,2,3,7,8],false,[0,2,10,15]⟩,[]),(300158,⟨[0,2,3,7,8],false,[0]⟩,[]),(200158,⟨[0,2,3,7,8],false,[0]⟩,[]),(128,⟨[0,2,3,7,8],false,[0,2,10,15]⟩,[]),(300128,⟨[0,2,3,7,8],false,[0]⟩,[]),(200128,⟨[0,2,3,7,8],false,[0]⟩,[]),(247,⟨[0,1,2,6,7,8,9,10],false,[0,2,18,8,20,14,26]⟩,[]),(246,⟨[0,1,2,6,7,8],false,[0,2,10,12,20]⟩,[]),(83,⟨[0,1,4,5,6,21],false,[0,4,12]⟩,[]),(245,⟨[0,1,4,5,6,7],false,[0,2,10,12,20]⟩,[]),(86,⟨[0,1,4,5,6,7,8,21],false,[0,4,12]⟩,[]),(88,⟨[0,1,4,5,6,7,8],false,[0,4,12]⟩,[]),(91,⟨[0,1,2,5,6,7,8],false,[0,4,10]⟩,[(3,[0,2,4,6,8,10,5,12,14,16])]),(127,⟨[0,1,2,3,7,8,9,10,11,12,21],false,[0,2,23,16,25,33]⟩,[(13,[0,2,4,6,8,5,10,12])]),(157,⟨[0,1,2],false,[0]⟩,[]),(125,⟨[0,1,2,6,7,8],false,[0,2,10,12,20]⟩,[]),(156,⟨[0,1],false,[0]⟩,[]),(123,⟨[0,1,3,4,5,8,9],false,[0,2,7]⟩,[]),(300123,⟨[0,1,3,4,5,8,9],false,[0]⟩,[]),(200123,⟨[0,1,3,4,5,8,9],false,[0]⟩,[]),(155,⟨[0,1,4,5,6,9,10],false,[0,2,3,5,7,12]⟩,[]),(300155,⟨[0,1,4,5,6,9,10],false,[0]⟩,[]),(200155,⟨[0,1,4,5,6,9,10],false,[0,9,15]⟩,[]),(180,⟨[0,1,3,10,11],false,[0,1,7,9,13,19,34,23,29]⟩,[]),(153,⟨[0,1,2,3,4],false,[0]⟩,[]),(179,⟨[0,1,2,4,5,26,27],false,[0,6,12,18,27]⟩,[])]
def Vl(n:Nat):Kp:=jE n Uk
def yP(n k:Nat):Kp×ai:=(Vl n,part (aY Tryz.prog n) k)
def ZV(n k:Nat):yP n k=(Vl n,part (aY Tryz.prog n) k):=rfl
def sj:=@kD M _ yP Vl ZV
attribute [local irreducible] PR yP mM gy fH gh iA fY nP vW p9 uc uw wN fP lW nI rW pU sn ng qW nA eM jR cN AV.undef Op.move Op.pick Op.build Op.nilCheck Op.bin Op.eq Op.un Op.wrap Op.dC Op.eC Op.dp Op.bD Op.dD Op.aL Op.cD Op.fieldAddr Op.field Op.aO Op.aS Op.bA Op.bK Op.typeAssert Op.extract Op.fg Op.dc Op.oe Op.cap Op.gw Op.cZ Op.dG Op.aD Op.bP Op.ae Op.aq Op.cq Op.lookup Op.gj Op.eB Op.alloc Op.box Op.buildSlice Op.mkMap Op.mkSlice Op.cm Op.dF Op.makeNoZero Op.store Op.mapUpdate Op.cX Op.eF Op.append Op.copy Op.bS Op.bO Op.eD Op.dA
def jo(M:ak)(c:Ctx):=by
 have h:=nM ZV M c Uk (by kernel_rfl)
 conv at h=>arg 5;reduce
 delta PR RL nA fY mM gy nP iA lW fH gh fP nI pU sn ng p9 rW qZ Uk at h
 simp only[yI,xJ,yD,xX,Int.reduceOfNat,Int.reduceNegSucc]at h;exact h
def bf(M:ak)(c:Ctx):=(jo M c).2.2.2.2.2.2.2.2
def bo(M:ak)(c:Ctx):=(bf M c).2.2.2.2.2.2.2.2
def cb(M:ak)(c:Ctx):=(bo M c).2.2.2.2.2.2.2.2
def CZ(M:ak)(c:Ctx):=(jo M c).1
def Db:=@sj M _ Tw [.tmp 4,.tmp 5] [a0,a1] (by kernel_rfl) H Q
def RH:cj:=funcAt Tryz.prog MO
def P9:dZ:=jO RH 0
abbrev Xf(k:Nat):Kp×ai:=yP 300158 k
abbrev S9(k:Nat):Kp×ai:=yP 200158 k
def qkr:nth RH.loops 0=some P9/\P9.params=[8]:=⟨by kernel_rfl,by kernel_rfl⟩
def qr7:(Xf 0).1.ah=[0,2,3,7,8]/\(Xf 0).2=P9.assign:=⟨by kernel_rfl,by kernel_rfl⟩
def qr8:(S9 0).1.ah=[0,2,3,7,8]/\(S9 0).2=P9.body:=⟨by kernel_rfl,by kernel_rfl⟩
def qt0:M.func MO=some RH:=MK.at (by decide) (by kernel_rfl)
def Yb(M:ak)(c:Ctx):=And.intro (jo M c).2.1.1 (And.intro (jo M c).2.2.1 (And.intro (jo M c).2.2.2.1 (And.intro (jo M c).2.1.2.1 (And.intro (jo M c).2.1.2.2.1 ((jo M c).2.1.2.2.2)))))
def qvt:=@sj M _ MO [.tmp 2] [a0] (by kernel_rfl) H Q
def Rc:cj:=funcAt Tryz.prog LP
def NK:dZ:=jO Rc 0
abbrev VJ(k:Nat):Kp×ai:=yP 300128 k
abbrev UK(k:Nat):Kp×ai:=yP 200128 k
def Zr:nth Rc.loops 0=some NK/\NK.params=[8]:=⟨by kernel_rfl,by kernel_rfl⟩
def qqt:(VJ 0).1.ah=[0,2,3,7,8]/\(VJ 0).2=NK.assign:=⟨by kernel_rfl,by kernel_rfl⟩
def qqu:(UK 0).1.ah=[0,2,3,7,8]/\(UK 0).2=NK.body:=⟨by kernel_rfl,by kernel_rfl⟩
def qr9:M.func LP=some Rc:=MK.at (by decide) (by kernel_rfl)
def Ya(M:ak)(c:Ctx):=And.intro (jo M c).2.2.2.2.1.1 (And.intro (jo M c).2.2.2.2.2.1 (And.intro (jo M c).2.2.2.2.2.2.1 (And.intro (jo M c).2.2.2.2.1.2.1 (And.intro (jo M c).2.2.2.2.1.2.2.1 ((jo M c).2.2.2.2.1.2.2.2)))))
def qt1:=@sj M _ LP [.tmp 2] [a0] (by kernel_rfl) H Q
def q21(M:ak)(c:Ctx):=(jo M c).2.2.2.2.2.2.2.1
def q20:=@sj M _ Ut [.tmp 6] [a0,a1,a2] (by kernel_rfl) H Q
def q43(M:ak)(c:Ctx):=(bf M c).1
def q42:=@sj M _ Vs [.tmp 6] [a0,a1,a2] (by kernel_rfl) H Q
def q2z(M:ak)(c:Ctx):=(bf M c).2.1
def q2y:=@sj M _ Tz [.cL 21 4,.tmp 5] [a0,a1] (by kernel_rfl) H Q
def q23(M:ak)(c:Ctx):=(bf M c).2.2.1
def q22:=@sj M _ Xn [.tmp 4,.tmp 5] [a0,a1] (by kernel_rfl) H Q
def q2v(M:ak)(c:Ctx):=(bf M c).2.2.2.1
def q2u:=@sj M _ Tj [.cL 21 4,.tmp 5] [a0,a1] (by kernel_rfl) H Q
def qvv(M:ak)(c:Ctx):=(bf M c).2.2.2.2.1
def qvu:=@sj M _ VN [.cL 8 4,.tmp 5] [a0,a1] (by kernel_rfl) H Q
def qt3(M:ak)(c:Ctx):=(bf M c).2.2.2.2.2.1
def qt2:=@sj M _ Xm [.tmp 6] [a0,a1,a2] (by kernel_rfl) H Q
abbrev qpo(k:Nat):Kp×ai:=yP LO k
def q2x(M:ak)(c:Ctx):=(bf M c).2.2.2.2.2.2.1
def q2w:=@sj M _ LO [.cL 21 8,.tmp 9,.tmp 10] [a0,a1,a2,a3] (by kernel_rfl) H Q
def q27(M:ak)(c:Ctx):=(bf M c).2.2.2.2.2.2.2.1
def q26:=@sj M _ qox [.tmp 2] [a0] (by kernel_rfl) H Q
def q7t(M:ak)(c:Ctx):=(bo M c).1
def q7s:=@sj M _ Wm [.tmp 6,.tmp 7] [a0,a1,a2] (by kernel_rfl) H Q
def q48(M:ak)(c:Ctx):=(bo M c).2.1
def q47:=@sj M _ ZG [] [a0,a1] (by kernel_rfl) H Q
def QJ:cj:=funcAt Tryz.prog LH
def Om:dZ:=jO QJ 0
abbrev T3(k:Nat):Kp×ai:=yP 300123 k
abbrev Uc(k:Nat):Kp×ai:=yP 200123 k
def qpp:nth QJ.loops 0=some Om/\Om.params=[9]:=⟨by kernel_rfl,by kernel_rfl⟩
def q24:(T3 0).1.ah=[0,1,3,4,5,8,9]/\(T3 0).2=Om.assign:=⟨by kernel_rfl,by kernel_rfl⟩
def q25:(Uc 0).1.ah=[0,1,3,4,5,8,9]/\(Uc 0).2=Om.body:=⟨by kernel_rfl,by kernel_rfl⟩
def q44:M.func LH=some QJ:=MK.at (by decide) (by kernel_rfl)
def YN(M:ak)(c:Ctx):=And.intro (bo M c).2.2.1.1 (And.intro (bo M c).2.2.2.1 (And.intro (bo M c).2.2.2.2.1 (And.intro (bo M c).2.2.1.2.1 ((bo M c).2.2.1.2.2))))
def q7r:=@sj M _ LH [.kA 4] [a0,a1] (by kernel_rfl) H Q
def RD:cj:=funcAt Tryz.prog Lu
def Qb:dZ:=jO RD 0
abbrev Vb(k:Nat):Kp×ai:=yP 300155 k
abbrev Wp(k:Nat):Kp×ai:=yP 200155 k
def qmt:nth RD.loops 0=some Qb/\Qb.params=[10]:=⟨by kernel_rfl,by kernel_rfl⟩
def qvy:(Vb 0).1.ah=[0,1,4,5,6,9,10]/\(Vb 0).2=Qb.assign:=⟨by kernel_rfl,by kernel_rfl⟩
def qvz:(Wp 0).1.ah=[0,1,4,5,6,9,10]/\(Wp 0).2=Qb.body:=⟨by kernel_rfl,by kernel_rfl⟩
def qyd:M.func Lu=some RD:=MK.at (by decide) (by kernel_rfl)
def qpq(M:ak)(c:Ctx):=And.intro (bo M c).2.2.2.2.2.1.1 (And.intro (bo M c).2.2.2.2.2.2.1 (And.intro (bo M c).2.2.2.2.2.2.2.1.1 (And.intro (bo M c).2.2.2.2.2.1.2.1 (And.intro (bo M c).2.2.2.2.2.2.2.1.2.1 (And.intro (bo M c).2.2.2.2.2.1.2.2.1 (And.intro (bo M c).2.2.2.2.2.2.2.1.2.2 (And.intro (bo M c).2.2.2.2.2.1.2.2.2.1 (And.intro (bo M c).2.2.2.2.2.1.2.2.2.2.1 ((bo M c).2.2.2.2.2.1.2.2.2.2.2)))))))))
def q28:=@sj M _ Lu [.kA 4] [a0,a1] (by kernel_rfl) H Q
def qvx(M:ak)(c:Ctx):=(cb M c).1
def qvw:=@sj M _ Jh [] [a0,a1] (by kernel_rfl) H Q
def q46(M:ak)(c:Ctx):=(cb M c).2.1
def q45:=@sj M _ sI [.tmp 4] [a0,a1] (by kernel_rfl) H Q
def qyf(M:ak)(c:Ctx):=(cb M c).2.2
def qye:=@sj M _ KB [] [a0,a1,a2] (by kernel_rfl) H Q
abbrev Uu:Nat:=34
abbrev WD:Nat:=56
abbrev TG:Nat:=235
abbrev Vt:Nat:=236
abbrev i2:Nat:=237
abbrev Uw:Nat:=238
abbrev M4:Nat:=53
abbrev yr:Nat:=50
abbrev Vu:Nat:=90
abbrev kn:Nat:=239
abbrev Nt:Nat:=240
abbrev OI:Nat:=241
abbrev Z4:Nat:=93
abbrev Xh:Nat:=244
abbrev Mj:Nat:=92
abbrev Wn:Nat:=94
abbrev qn4:Nat:=85
abbrev UI:Nat:=242
abbrev S4:Nat:=84
abbrev ZB:Nat:=87
abbrev nu:Nat:=243
abbrev Y9:Nat:=124
abbrev VF:Nat:=89
abbrev TT:Nat:=126
abbrev U0:Nat:=154
abbrev xh:Nat:=101
abbrev xZ:Nat:=23
abbrev Qa:Nat:=176
abbrev UX:sQ:=[(34,⟨[0,1,3,4,5,6,7],false,[0,4,12]⟩,[]),(239,⟨[0,2],false,[0]⟩,[]),(240,⟨[0,1,4,5,6,7,8,9,11],false,[0,2,12,14,24,30]⟩,[]),(241,⟨[0,1,2,6,7,8,9,10],false,[0,2,12,14,22,28]⟩,[]),(236,⟨[0,1,2,3,8,9,10,11,12,13,14],false,[0,2,12,20,22,30,32,38]⟩,[]),(235,⟨[0,2],false,[0,2,17]⟩,[]),(238,⟨[0,2],false,[0,2,17]⟩,[]),(56,⟨[0,1,4],false,[0,2,23,16]⟩,[]),(50,⟨[0,1,3,4,5,6,7,8,9,51,69],false,[0,2,10,12,20,73,34,75,40,85,41,49,53,61]⟩,[]),(53,⟨[0,1,4,5,6,7],false,[0,2,17,19,27,33]⟩,[]),(237,⟨[0,2],false,[0,2,10]⟩,[]),(242,⟨[0,1,4],false,[0,2,17]⟩,[]),(244,⟨[0,1,2,6],false,[0,2,10]⟩,[]),(243,⟨[0,1,4,5,6],false,[0]⟩,[]),(93,⟨[0,1],false,[0]⟩,[]),(84,⟨[0,1,2,4,5,6,8,14],false,[0,2,41,12,18,28]⟩,[(8,[0,2,4,6,8,10,12,14,7,16,18]),(10,[0,2,4,6,8,10,12,14,7,16,18])]),(85,⟨[0,1,2,4],false,[0]⟩,[]),(87,⟨[0,1,2,6,11],false,[0]⟩,[]),(89,⟨[0,1,4,5,6,7],false,[0,4,12,35,17,23,34]⟩,[]),(90,⟨[0,1,3],false,[0]⟩,[]),(92,⟨[0,1,3,4,5,6,7,8],false,[0,4,10,12,20,28]⟩,[]),(94,⟨[0,1,3,4,5],false,[0,2,10]⟩,[]),(124,⟨[0,1,4],false,[0]⟩,[]),(126,⟨[0,1,4,5,7,8],false,[0,2,25,7,13,24]⟩,[]),(154,⟨[0,1,4,5,7,8],false,[0,2,25,7,13,24]⟩,[])]
def Vp(n:Nat):Kp:=jE n UX
def IH(n k:Nat):Kp×ai:=(Vp n,part (aY Tryz.prog n) k)
def q02(n k:Nat):IH n k=(Vp n,part (aY Tryz.prog n) k):=rfl
def vk:=@kD M _ IH Vp q02
attribute [local irreducible] IH
def vj(M:ak)(c:Ctx):=by
 have h:=nM q02 M c UX (by kernel_rfl)
 conv at h=>arg 5;reduce
 delta PR RL nA fY mM gy nP iA lW fH gh fP nI pU ng p9 rW qZ UX at h
 simp only[yI,xJ,yD,xX,Int.reduceOfNat,Int.reduceNegSucc]at h;exact h
def ck(M:ak)(c:Ctx):=(vj M c).2.2.2.2.2.2.2.2
def cn(M:ak)(c:Ctx):=(ck M c).2.2.2.2.2.2.2.2
def cr(M:ak)(c:Ctx):=(cn M c).2.2.2.2.2.2.2.2
def xgn(M:ak)(c:Ctx):=(vj M c).1
def xgm:=@vk M _ Uu [.tmp 4,.tmp 5] [a0,a1] (by kernel_rfl) H Q
def qys(M:ak)(c:Ctx):=(vj M c).2.1
def qyr:=@vk M _ kn [.tmp 2] [a0] (by kernel_rfl) H Q
abbrev qyt(k:Nat):Kp×ai:=IH Nt k
def qyv(M:ak)(c:Ctx):=(vj M c).2.2.1
def qyu:=@vk M _ Nt [.tmp 4,.tmp 5,.tmp 6,.tmp 7] [a0,a1] (by kernel_rfl) H Q
abbrev qv5(k:Nat):Kp×ai:=IH OI k
def qv7(M:ak)(c:Ctx):=(vj M c).2.2.2.1
def qv6:=@vk M _ OI [.tmp 6,.tmp 7,.tmp 8] [a0,a1,a2] (by kernel_rfl) H Q
def q3r(M:ak)(c:Ctx):=(vj M c).2.2.2.2.1
def q3q:=@vk M _ Vt [.tmp 8,.tmp 9,.tmp 10,.tmp 11] [a0,a1,a2,a3] (by kernel_rfl) H Q
def qv4(M:ak)(c:Ctx):=(vj M c).2.2.2.2.2.1
def qv3:=@vk M _ TG [.tmp 2] [a0] (by kernel_rfl) H Q
def qt9(M:ak)(c:Ctx):=(vj M c).2.2.2.2.2.2.1
def qt8:=@vk M _ Uw [.tmp 2] [a0] (by kernel_rfl) H Q
def qv2(M:ak)(c:Ctx):=(vj M c).2.2.2.2.2.2.2.1
def qv1:=@vk M _ WD [.tmp 4] [a0,a1] (by kernel_rfl) H Q
abbrev Md(k:Nat):Kp×ai:=IH yr k
def qyq(M:ak)(c:Ctx):=(ck M c).1
def qyp:=@vk M _ yr [.tmp 4,.tmp 5] [a0,a1] (by kernel_rfl) H Q
abbrev qym(k:Nat):Kp×ai:=IH M4 k
def qyo(M:ak)(c:Ctx):=(ck M c).2.1
def qyn:=@vk M _ M4 [.tmp 4,.tmp 5] [a0,a1] (by kernel_rfl) H Q
def qyl(M:ak)(c:Ctx):=(ck M c).2.2.1
def qyk:=@vk M _ i2 [.tmp 2] [a0] (by kernel_rfl) H Q
def q3v(M:ak)(c:Ctx):=(ck M c).2.2.2.1
def q3u:=@vk M _ UI [.tmp 4] [a0,a1] (by kernel_rfl) H Q
def q3t(M:ak)(c:Ctx):=(ck M c).2.2.2.2.1
def q3s:=@vk M _ Xh [.tmp 6] [a0,a1,a2] (by kernel_rfl) H Q
def qwb(M:ak)(c:Ctx):=(ck M c).2.2.2.2.2.1
def qwa:=@vk M _ nu [.tmp 4] [a0,a1] (by kernel_rfl) H Q
def qv9(M:ak)(c:Ctx):=(ck M c).2.2.2.2.2.2.1
def qv8:=@vk M _ Z4 [] [a0,a1] (by kernel_rfl) H Q
def qsf(M:ak)(c:Ctx):=(ck M c).2.2.2.2.2.2.2.1
def qse:=@vk M _ S4 [.tmp 6] [a0,a1,a2] (by kernel_rfl) H Q
def LS(M:ak)(c:Ctx):=(cn M c).1
def qy0:=@vk M _ qn4 [] [a0,a1,a2] (by kernel_rfl) H Q
def q3x(M:ak)(c:Ctx):=(cn M c).2.1
def q3w:=@vk M _ ZB [.cL 11 6] [a0,a1,a2] (by kernel_rfl) H Q
def qnl(M:ak)(c:Ctx):=(cn M c).2.2.1
def qnk:=@vk M _ VF [.tmp 4] [a0,a1] (by kernel_rfl) H Q
def qlh(M:ak)(c:Ctx):=(cn M c).2.2.2.1
def qua:=@vk M _ Vu [.tmp 3] [a0,a1] (by kernel_rfl) H Q
abbrev j3(k:Nat):Kp×ai:=IH Mj k
def qyx(M:ak)(c:Ctx):=(cn M c).2.2.2.2.1
def qyw:=@vk M _ Mj [.tmp 4] [a0,a1] (by kernel_rfl) H Q
def qyz(M:ak)(c:Ctx):=(cn M c).2.2.2.2.2.1
def qyy:=@vk M _ Wn [.tmp 4] [a0,a1] (by kernel_rfl) H Q
def qp6(M:ak)(c:Ctx):=(cn M c).2.2.2.2.2.2.1
def qp5:=@vk M _ Y9 [.tmp 4] [a0,a1] (by kernel_rfl) H Q
def qor(M:ak)(c:Ctx):=(cn M c).2.2.2.2.2.2.2.1
def qoq:=@vk M _ TT [.tmp 4] [a0,a1] (by kernel_rfl) H Q
def qui(M:ak)(c:Ctx):=(cr M c)
def quh:=@vk M _ U0 [.tmp 4] [a0,a1] (by kernel_rfl) H Q
abbrev Ez:Nat:=49
abbrev qs0:Nat:=35
abbrev S7:Nat:=79
abbrev MD:Nat:=81
abbrev SO:Nat:=82
abbrev U3:Nat:=33
abbrev Y0:Nat:=121
abbrev J0:Nat:=152
abbrev HX:Nat:=80
abbrev Sr:Nat:=119
abbrev Vv:Nat:=122
abbrev Vq:Nat:=62
abbrev UJ:Nat:=95
abbrev Wi:Nat:=60
abbrev tb:Nat:=120
abbrev VC:Nat:=151
abbrev rF:Nat:=76
abbrev q9b:Nat:=167
abbrev TP:Nat:=168
abbrev OZ:Nat:=171
abbrev q9c:Nat:=219
abbrev Ui:sQ:=[(33,⟨[0,1,4,5,6,7,8,9,35,36],false,[0,4,12,14,31,19,25,30]⟩,[]),(49,⟨[0,1,3,4,5,6,7,8,9,37,38],false,[0,2,10,12,20,28,32,113,42,119,45,61,66,55,71,86,73,99,79]⟩,[]),(35,⟨[0,1,2,5,6],false,[0,2,10]⟩,[]),(60,⟨[0,2,3],false,[0,2,10]⟩,[]),(62,⟨[0,1,2,5,6,7,8],false,[0,4,10]⟩,[]),(79,⟨[0,1,4],false,[0,2,10]⟩,[]),(80,⟨[0,1,3,4,5,6,9,10],false,[0,4,51,14,17,26,38]⟩,[]),(81,⟨[0,1,2,5,6,7,8,9,74,75],false,[0,4,22,10,24,12,32,18,36,41]⟩,[]),(300081,⟨[0,1,2,5,6,7,8,9,74,75],false,[0]⟩,[]),(200081,⟨[0,1,2,5,6,7,8,9,74,75],false,[0]⟩,[]),(82,⟨[0,1,4,5,7,11],false,[0,4,8,18]⟩,[]),(95,⟨[0,1,4,5],false,[0,2,17]⟩,[]),(119,⟨[0,1,2,3],false,[0]⟩,[]),(120,⟨[0,1,4],false,[0]⟩,[]),(121,⟨[0,1,2],false,[0]⟩,[]),(122,⟨[0,1,4,5,6,7,8],false,[0,4,12]⟩,[]),(151,⟨[0,1,4,5,7,8],false,[0,2,25,7,13,24]⟩,[]),(152,⟨[0,1,3,4],false,[0,4,10,19]⟩,[])]
def SY(n:Nat):Kp:=jE n Ui
def JD(n k:Nat):Kp×ai:=(SY n,part (aY Tryz.prog n) k)
def YX(n k:Nat):JD n k=(SY n,part (aY Tryz.prog n) k):=rfl
def ua:=@kD M _ JD SY YX
attribute [local irreducible] JD
def yu(M:ak)(c:Ctx):=by
 have h:=nM YX M c Ui (by kernel_rfl)
 conv at h=>arg 5;reduce
 delta PR RL nA fY mM gy nP lW fH gh fP nI pU sn ng p9 rW qZ Ui at h
 simp only[yI,xJ,yD,xX,Int.reduceOfNat,Int.reduceNegSucc]at h;exact h
def cC(M:ak)(c:Ctx):=(yu M c).2.2.2.2.2.2.2.2
def cI(M:ak)(c:Ctx):=(cC M c).2.2.2.2.2.2.2.2
def xil(M:ak)(c:Ctx):=(yu M c).1
def xik:=@ua M _ U3 [.tmp 4,.tmp 5] [a0,a1] (by kernel_rfl) H Q
abbrev Uh(k:Nat):Kp×ai:=JD Ez k
def qrm(M:ak)(c:Ctx):=(yu M c).2.1
def q4z:=@ua M _ Ez [.tmp 4,.tmp 5] [a0,a1] (by kernel_rfl) H Q
def q7f(M:ak)(c:Ctx):=(yu M c).2.2.1
def q7e:=@ua M _ qs0 [.tmp 6] [a0,a1,a2] (by kernel_rfl) H Q
def xju(M:ak)(c:Ctx):=(yu M c).2.2.2.1
def xjt:=@ua M _ Wi [.tmp 2,.tmp 3] [a0] (by kernel_rfl) H Q
def q75(M:ak)(c:Ctx):=(yu M c).2.2.2.2.1
def q74:=@ua M _ Vq [.tmp 6] [a0,a1,a2] (by kernel_rfl) H Q
def q9p(M:ak)(c:Ctx):=(yu M c).2.2.2.2.2.1
def q9o:=@ua M _ S7 [.tmp 4] [a0,a1] (by kernel_rfl) H Q
abbrev Qw(k:Nat):Kp×ai:=JD HX k
def q2f(M:ak)(c:Ctx):=(yu M c).2.2.2.2.2.2.1
def q2e:=@ua M _ HX [.tmp 4] [a0,a1] (by kernel_rfl) H Q
def Sy:cj:=funcAt Tryz.prog MD
def OG:dZ:=jO Sy 0
abbrev UR(k:Nat):Kp×ai:=JD 300081 k
abbrev Wg(k:Nat):Kp×ai:=JD 200081 k
def qmn:nth Sy.loops 0=some OG/\OG.params=[75]:=⟨by kernel_rfl,by kernel_rfl⟩
def qvo:(UR 0).1.ah=[0,1,2,5,6,7,8,9,74,75]/\(UR 0).2=OG.assign:=⟨by kernel_rfl,by kernel_rfl⟩
def qvp:(Wg 0).1.ah=[0,1,2,5,6,7,8,9,74,75]/\(Wg 0).2=OG.body:=⟨by kernel_rfl,by kernel_rfl⟩
def qya:M.func MD=some Sy:=MK.at (by decide) (by kernel_rfl)
def ZA(M:ak)(c:Ctx):=And.intro (yu M c).2.2.2.2.2.2.2.1.1 (And.intro (cC M c).1 (And.intro (cC M c).2.1 (And.intro (yu M c).2.2.2.2.2.2.2.1.2.1 (And.intro (yu M c).2.2.2.2.2.2.2.1.2.2.1 (And.intro (yu M c).2.2.2.2.2.2.2.1.2.2.2.1 (And.intro (yu M c).2.2.2.2.2.2.2.1.2.2.2.2.1 (And.intro (yu M c).2.2.2.2.2.2.2.1.2.2.2.2.2.1 (And.intro (yu M c).2.2.2.2.2.2.2.1.2.2.2.2.2.2.1 (And.intro (yu M c).2.2.2.2.2.2.2.1.2.2.2.2.2.2.2.1 (And.intro (yu M c).2.2.2.2.2.2.2.1.2.2.2.2.2.2.2.2.1 ((yu M c).2.2.2.2.2.2.2.1.2.2.2.2.2.2.2.2.2)))))))))))
def q2b:=@ua M _ MD [.tmp 6] [a0,a1,a2] (by kernel_rfl) H Q
def q2d(M:ak)(c:Ctx):=(cC M c).2.2.1
def q2c:=@ua M _ SO [.cL 11 4] [a0,a1] (by kernel_rfl) H Q
def xak(M:ak)(c:Ctx):=(cC M c).2.2.2.1
def xaj:=@ua M _ UJ [.tmp 4,.tmp 5] [a0,a1] (by kernel_rfl) H Q
def qmo(M:ak)(c:Ctx):=(cC M c).2.2.2.2.1
def qvq:=@ua M _ Sr [.tmp 3] [a0,a1] (by kernel_rfl) H Q
def qi0(M:ak)(c:Ctx):=(cC M c).2.2.2.2.2.1
def qiz:=@ua M _ tb [.tmp 4] [a0,a1] (by kernel_rfl) H Q
def qyc(M:ak)(c:Ctx):=(cC M c).2.2.2.2.2.2.1
def qyb:=@ua M _ Y0 [.tmp 2] [a0] (by kernel_rfl) H Q
def q5i(M:ak)(c:Ctx):=(cC M c).2.2.2.2.2.2.2.1
def q5h:=@ua M _ Vv [.cL 8 4,.tmp 5] [a0,a1] (by kernel_rfl) H Q
def qkz(M:ak)(c:Ctx):=(cI M c).1
def qky:=@ua M _ VC [.tmp 4] [a0,a1] (by kernel_rfl) H Q
def qtu(M:ak)(c:Ctx):=(cI M c).2
def qtt:=@ua M _ J0 [] [a0,a1] (by kernel_rfl) H Q
abbrev Lw:Nat:=25
abbrev Ix:Nat:=55
abbrev SG:Nat:=228
abbrev Qt:Nat:=229
abbrev RN:Nat:=230
abbrev Qz:Nat:=231
abbrev PL:Nat:=23
abbrev OK:Nat:=24
abbrev Ss:Nat:=232
abbrev Rv:Nat:=233
abbrev SD:Nat:=234
abbrev UB:Nat:=52
abbrev OJ:Nat:=54
abbrev Us:Nat:=51
abbrev Vf:Nat:=18
abbrev Ti:Nat:=48
abbrev K9:Nat:=120
abbrev IY:Nat:=121
variable{a4:AV}
abbrev Wy:sQ:=[(18,⟨[0,1,2,4,5,6,7,8,9,10,11,12,13,37,38,60,61,62],false,[0,4,12,14,41,19,58,46,25,52,40,31,57,39]⟩,[]),(233,⟨[0,1,2,6,7,8,9,10],false,[0,4,12]⟩,[]),(234,⟨[0,1,2,3,8,9,10,11],false,[0,4,12]⟩,[]),(229,⟨[0,1,2,3,4,10,11,12,13,14],false,[0,4,12]⟩,[]),(228,⟨[0,1,4],false,[0]⟩,[]),(231,⟨[0,1,4],false,[0]⟩,[]),(25,⟨[0,1,2,5,6],false,[0]⟩,[]),(24,⟨[0,1,2,6,7,8,9],false,[0,4,12]⟩,[]),(23,⟨[0,1,4,5,6,7,8,11],false,[0,2,17,21,23,29]⟩,[]),(232,⟨[0,1,4,5],false,[0]⟩,[]),(230,⟨[0,1,4,5],false,[0]⟩,[]),(51,⟨[0,1],false,[0]⟩,[]),(52,⟨[0,1,4,5],false,[0,2,17]⟩,[]),(54,⟨[0,1,2,6,7,8],false,[0,4,12]⟩,[]),(55,⟨[0,1,3],false,[0]⟩,[]),(48,⟨[0,1,2,6,7],false,[0,4,12]⟩,[])]
def TO(n:Nat):Kp:=jE n Wy
def Uf(n k:Nat):Kp×ai:=(TO n,part (aY Tryz.prog n) k)
def qx(n k:Nat):Uf n k=(TO n,part (aY Tryz.prog n) k):=rfl
def ub:=@kD M _ Uf TO qx
attribute [local irreducible] Uf
def tZ(M:ak)(c:Ctx):=by
 have h:=nM qx M c Wy (by kernel_rfl)
 conv at h=>arg 5;reduce
 delta PR RL nA fY mM gy nP lW fH gh fP nI pU ng p9 rW qZ Wy at h
 simp only[yI,xJ,yD,xX,Int.reduceOfNat,Int.reduceNegSucc]at h;exact h
def dN(M:ak)(c:Ctx):=(tZ M c).2.2.2.2.2.2.2.2
def Ra(M:ak)(c:Ctx):=(tZ M c).1
def xh6:=@ub M _ Vf [.tmp 4,.tmp 5] [a0,a1] (by kernel_rfl) H Q
def q4v(M:ak)(c:Ctx):=(tZ M c).2.1
def q4u:=@ub M _ Rv [.tmp 6,.tmp 7,.tmp 8] [a0,a1,a2] (by kernel_rfl) H Q
def q1z(M:ak)(c:Ctx):=(tZ M c).2.2.1
def q1y:=@ub M _ SD [.tmp 8,.tmp 9] [a0,a1,a2,a3] (by kernel_rfl) H Q
def q7a(M:ak)(c:Ctx):=(tZ M c).2.2.2.1
def q69:=@ub M _ Qt [.tmp 10,.tmp 11,.tmp 12] [a0,a1,a2,a3,a4] (by kernel_rfl) H Q
def q1x(M:ak)(c:Ctx):=(tZ M c).2.2.2.2.1
def q1w:=@ub M _ SG [.tmp 4] [a0,a1] (by kernel_rfl) H Q
def qxt(M:ak)(c:Ctx):=(tZ M c).2.2.2.2.2.1
def qxs:=@ub M _ Qz [.tmp 4] [a0,a1] (by kernel_rfl) H Q
def VY(M:ak)(c:Ctx):=(tZ M c).2.2.2.2.2.2.1
def Wa:=@ub M _ Lw [.tmp 6] [a0,a1,a2] (by kernel_rfl) H Q
def qrg(M:ak)(c:Ctx):=(tZ M c).2.2.2.2.2.2.2.1
def qrf:=@ub M _ OK [.tmp 6] [a0,a1,a2] (by kernel_rfl) H Q
def qmk(M:ak)(c:Ctx):=(dN M c).1
def YR:=@ub M _ PL [.cL 11 4,.tmp 5] [a0,a1] (by kernel_rfl) H Q
def q4t(M:ak)(c:Ctx):=(dN M c).2.1
def q4s:=@ub M _ Ss [.tmp 4] [a0,a1] (by kernel_rfl) H Q
def q4r(M:ak)(c:Ctx):=(dN M c).2.2.1
def q4q:=@ub M _ RN [.tmp 4] [a0,a1] (by kernel_rfl) H Q
def q4x(M:ak)(c:Ctx):=(dN M c).2.2.2.1
def q4w:=@ub M _ Us [] [a0,a1] (by kernel_rfl) H Q
def q9h(M:ak)(c:Ctx):=(dN M c).2.2.2.2.1
def q9g:=@ub M _ UB [.tmp 4,.tmp 5] [a0,a1] (by kernel_rfl) H Q
def S2(M:ak)(c:Ctx):=(dN M c).2.2.2.2.2.1
def qrh:=@ub M _ OJ [.tmp 6] [a0,a1,a2] (by kernel_rfl) H Q
def qva(M:ak)(c:Ctx):=(dN M c).2.2.2.2.2.2.1
def qu9:=@ub M _ Ix [.tmp 3] [a0,a1] (by kernel_rfl) H Q
def qnn(M:ak)(c:Ctx):=(dN M c).2.2.2.2.2.2.2
def qnm:=@ub M _ Ti [.tmp 6] [a0,a1,a2] (by kernel_rfl) H Q
abbrev qg8:Nat:=183
abbrev Vn:Nat:=99
abbrev R7:Nat:=132
abbrev Qs:Nat:=133
abbrev SC:Nat:=134
abbrev RM:Nat:=135
abbrev MF:Nat:=131
abbrev KM:Nat:=162
abbrev XR:Nat:=163
abbrev vL:Nat:=52
abbrev jg:Nat:=93
abbrev Eo:Nat:=60
abbrev wZ:Nat:=0
abbrev T6:sQ:=[(99,⟨[0,1,2,3,4,5,6,7,8,9,10,11,12,13,14,49],false,[0,2,10,14,18,22,129,38,50,62,74,86,98,110,122]⟩,[(7,[0,2,4,8,10,12,16,18,20,6,13,21,14,21,22,24,26,28])]),(132,⟨[0,1,2,4,5],false,[0]⟩,[]),(133,⟨[0,1,2,4,5],false,[0,2,10,18]⟩,[]),(134,⟨[0,1,3,5],false,[0]⟩,[]),(135,⟨[0,1,3],false,[0]⟩,[]),(163,⟨[0,1,4],false,[0]⟩,[]),(183,⟨[0,1,4],false,[0]⟩,[])]
def VB(n:Nat):Kp:=jE n T6
def U1(n k:Nat):Kp×ai:=(VB n,part (aY Tryz.prog n) k)
def q0x(n k:Nat):U1 n k=(VB n,part (aY Tryz.prog n) k):=rfl
def KU:=@kD M _ U1 VB q0x
attribute [local irreducible] U1
def Jk(M:ak)(c:Ctx):=by
 have h:=nM q0x M c T6 (by kernel_rfl)
 conv at h=>arg 5;reduce
 delta PR RL nA fY mM gy nP iA lW fH gh fP nI ng p9 rW qZ T6 at h
 simp only[yI,xJ,yD,xX,Int.reduceOfNat,Int.reduceNegSucc]at h;exact h
def Aj(M:ak)(c:Ctx):=(Jk M c).1
def zU:=@KU M _ Vn [.cL 5 6] [a0,a1,a2] (by kernel_rfl) H Q
def VK:cj:=funcAt Tryz.prog MF
def nz:Kp:=⟨[0,1,2,3,4,5,6,19,20],false,[0,4,9,15,26,27]⟩
def wX(k:Nat):Kp×ai:=(nz,part VK.body k)
def xch(M:ak)(c:Ctx):(WE M c (wX 0) λ Q E D H=>Lz E 0 λ g f=>A3 g Eo (AV.cells f) H λ g b H1=>Fl g 0 b H1 λ g h=>C3 M g (.func KM) [h] H1 λ g a o=>B3 g ((Op.extract 0) [a]) λ g d=>B3 g ((Op.extract 1) [a]) λ g e=>W M c (wX 4) g Q ((4,e)::(3,d)::(2,(.bool false))::(1,b)::E) D o) /\
 (WE M c (wX 4) λ Q E D H=>Lz E 1 λ g a=>Fl g 1 a H λ g b=>Fl g 2 a H λ g d=>Fl g 3 a H λ g e=>B3 g ((Op.build [(.int .i64 0),(.int .i64 0),(.int .i64 0)] [(0,1),(1,1),(2,1)]) [b,d,e]) λ g f=>de (W M c (wX 9)) (eM 0 (eP (W M c (wX 27)) Q)) ((20,(.int .i64 0))::(19,f)::E) D H) /\
 (WE M c (wX 27) λ Q E D H=>Lz E 4 λ g a=>pT g Q .ret ((2,a)::E) D H) /\
 (WE M c (wX 9) λ Q E D H=>Lz E 20 λ g a=>Cb g .lss a (.int .i64 3) (λ g=>Gt g M c (wX 15) Q E D H) (λ g=>pT g (eP (W M c (wX 15)) Q) (.exit 0) E D H)) /\
 (WE M c (wX 15) λ Q E D H=>Lz E 20 λ g b=>Ly g E 19 λ g j=>B3 g ((Op.bA 3 1 none) [j,b]) λ g a=>Ly g E 3 λ g r=>B3 g (Op.bK [(.str [65,66,67]),b]) λ g l=>C3 M g (.func XR) [r,l] H λ g m H1=>Bn g .geq m (.int .i64 0) λ g e=>JN (λ(k:Bool->AV->AV->AV->ar->Prop)=>B3 g (cN true (some e)) λ g w=>uF g w (λ g=>Bn g .lss a (.int .i64 0) λ g i=>k g i i a H1) (λ g=>k g uu uu uu H1)) (λ g d _ _ o=>JN (λ(k:Bool->AV->AV->ar->Prop)=>B3 g (cN false (some d)) λ g w=>uF g w (λ g=>Bn g .geq a (.int .i64 8) λ g n=>k g n a o) (λ g=>k g uu uu o)) (λ g f _ s=>JN (λ(k:Bool->AV->ar->Prop)=>B3 g (cN true (some e)) λ g w=>uF g w (λ g=>B3 g (Op.pick [d,(.bool true),f]) λ g p=>k g p s) (λ g=>k g uu s)) (λ g h t=>B3 g (Op.pick [e,h,(.bool false)]) λ g q=>mH g q (λ g=>pT g (eM 1 (eP (W M c (wX 26)) Q)) .ret ((2,(.bool false))::(6,a)::(5,b)::E) D t) (λ g=>pT g (eM 1 (eP (W M c (wX 26)) Q)) .normal ((6,a)::(5,b)::E) D t))))) /\
 (WE M c (wX 26) λ Q E D H=>Lz E 20 λ g a=>Bn g .add a (.int .i64 1) λ g b=>pT g Q .normal ((20,b)::E) D H):=by(repeat' apply And.intro)<;>(intro _ _ _ _;refine Dj ?_;kernel_rfl)
def xcf:(aV Tryz.prog).func MF=some VK/\VK.results=[.tmp 2]:=xeu (by kernel_rfl)
def xcg(h:W M ⟨none,MF⟩ (wX 0) true (fj M [.tmp 2] Q) [(0,a0)] [] H):D4 M MF [a0] H Q:=Bq (by decide) xcf (ks:=nz) (by kernel_rfl) h
def xf4(M:ak)(c:Ctx):=(Jk M c).2.1
def xf3:=@KU M _ R7 [.cL 5 4] [a0,a1,a2] (by kernel_rfl) H Q
def xf6(M:ak)(c:Ctx):=(Jk M c).2.2.1
def xf5:=@KU M _ Qs [.cL 5 4] [a0,a1,a2] (by kernel_rfl) H Q
def xf8(M:ak)(c:Ctx):=(Jk M c).2.2.2.1
def xf7:=@KU M _ SC [.cL 5 3] [a0,a1] (by kernel_rfl) H Q
def xga(M:ak)(c:Ctx):=(Jk M c).2.2.2.2.1
def xf9:=@KU M _ RM [.tmp 3] [a0,a1] (by kernel_rfl) H Q
def Tk:cj:=funcAt Tryz.prog KM
def xi:Kp:=⟨[0,2,3],false,[0,2,10]⟩
def Jl(k:Nat):Kp×ai:=(xi,part Tk.body k)
def xck(M:ak)(c:Ctx):(WE M c (Jl 0) λ Q E D H=>W M c (Jl 2) true Q ((3,(.bool false))::(2,(.str []))::E) D H) /\
 (WE M c (Jl 2) λ Q E D H=>Lz E 0 λ g a=>Bn g .lss a (.int .i64 1) λ g d=>JN (λ(k:Bool->AV->AV->ar->Prop)=>B3 g (cN false (some d)) λ g w=>uF g w (λ g=>Bn g .geq a (.int .i64 19) λ g e=>k g e a H) (λ g=>k g uu uu H)) (λ g b _ H1=>B3 g (Op.pick [d,(.bool true),b]) λ g f=>mH g f (λ g=>pT g (eP (W M c (Jl 10)) Q) .ret ((3,(.bool false))::(2,(.str []))::E) D H1) (λ g=>Gt g M c (Jl 10) Q E D H1))) /\
 (WE M c (Jl 10) λ Q E D H=>Lz E 0 λ g d=>B3 g ((Op.aS 19 2) [(.ptr wZ 0),d]) λ g a=>Fl g 1 a H λ g b=>pT g Q .ret ((3,(.bool true))::(2,b)::E) D H):=by(repeat' apply And.intro)<;>(intro _ _ _ _;refine Dj ?_;kernel_rfl)
def xci:(aV Tryz.prog).func KM=some Tk/\Tk.results=[.tmp 2,.tmp 3]:=xeu (by kernel_rfl)
def xcj(h:W M ⟨none,KM⟩ (Jl 0) true (fj M [.tmp 2,.tmp 3] Q) [(0,a0)] [] H):D4 M KM [a0] H Q:=Bq (by decide) xci (ks:=xi) (by kernel_rfl) h
def qsy(M:ak)(c:Ctx):=(Jk M c).2.2.2.2.2.1
def qsx:=@KU M _ XR [.tmp 4] [a0,a1] (by kernel_rfl) H Q
def Zp(M:ak)(c:Ctx):=(Jk M c).2.2.2.2.2.2
def qg9:=@KU M _ qg8 [.tmp 4] [a0,a1] (by kernel_rfl) H Q
abbrev YS:Nat:=29
abbrev Zx:Nat:=150
abbrev qn6:Nat:=118
abbrev Yj:Nat:=30
abbrev qj9:Nat:=68
abbrev yl:Nat:=105
abbrev U7:Nat:=101
abbrev qk7:Nat:=59
abbrev He:Nat:=58
abbrev ql8:Nat:=136
abbrev q5r:Nat:=41
abbrev FU:Nat:=160
abbrev Oj:Nat:=157
abbrev Ug:sQ:=[(41,⟨[0],false,[0]⟩,[]),(101,⟨[0,1,2,6,7],false,[0,4,10]⟩,[]),(29,⟨[0,2,8],false,[0,2,10]⟩,[]),(30,⟨[0,2],false,[0,2,10]⟩,[]),(118,⟨[0,1,4],false,[0,2,10,18]⟩,[]),(105,⟨[0,2,3],false,[0,2,10]⟩,[]),(68,⟨[0,2,3],false,[0,4,10]⟩,[]),(150,⟨[0,2,3],false,[0,4,10]⟩,[]),(31,⟨[0,2,3,4,8],false,[0,2,10]⟩,[(3,[0,2,4,6,8,10,12,14,16,18,20,22,24,26,28,21,27,30,32])]),(136,⟨[0,1,4],false,[0,2,10,18]⟩,[]),(58,⟨[0,2],false,[0]⟩,[]),(59,⟨[0,2],false,[0,2,10,18]⟩,[])]
def TY(n:Nat):Kp:=jE n Ug
def TC(n k:Nat):Kp×ai:=(TY n,part (aY Tryz.prog n) k)
def hZ(n k:Nat):TC n k=(TY n,part (aY Tryz.prog n) k):=rfl
def BH:=@kD M _ TC TY hZ
attribute [local irreducible] TC
def zZ(M:ak)(c:Ctx):=by
 have h:=nM hZ M c Ug (by kernel_rfl)
 conv at h=>arg 5;reduce
 delta PR RL nA fY mM gy nP iA lW fH gh fP nI ng rW qZ Ug at h
 simp only[yI,xJ,yD,xX,Int.reduceOfNat,Int.reduceNegSucc]at h;exact h
def xgy(M:ak)(c:Ctx):=(zZ M c).1
def xgx:=@BH M _ q5r [.tmp 0] [] (by kernel_rfl) H Q
def Y4(M:ak)(c:Ctx):=(zZ M c).2.1
def q38:=@BH M _ U7 [.tmp 6] [a0,a1,a2] (by kernel_rfl) H Q
def q37(M:ak)(c:Ctx):=(zZ M c).2.2.1
def q36:=@BH M _ YS [.cL 8 2] [a0] (by kernel_rfl) H Q
def q5m(M:ak)(c:Ctx):=(zZ M c).2.2.2.1
def q5l:=@BH M _ Yj [.tmp 2] [a0] (by kernel_rfl) H Q
def qoj(M:ak)(c:Ctx):=(zZ M c).2.2.2.2.1
def qy3:=@BH M _ qn6 [.tmp 4] [a0,a1] (by kernel_rfl) H Q
def qy5(M:ak)(c:Ctx):=(zZ M c).2.2.2.2.2.1
def qy4:=@BH M _ yl [.tmp 2] [a0] (by kernel_rfl) H Q
def Sj(M:ak)(c:Ctx):=(zZ M c).2.2.2.2.2.2.1
def qsi:=@BH M _ qj9 [.tmp 2] [a0] (by kernel_rfl) H Q
def Ye(M:ak)(c:Ctx):=(zZ M c).2.2.2.2.2.2.2.1
def qy2:=@BH M _ Zx [.tmp 2] [a0] (by kernel_rfl) H Q
def XC(M:ak)(c:Ctx):=(zZ M c).2.2.2.2.2.2.2.2.2.1
def qwi:=@BH M _ ql8 [.tmp 4] [a0,a1] (by kernel_rfl) H Q
def qy7(M:ak)(c:Ctx):=(zZ M c).2.2.2.2.2.2.2.2.2.2.1
def qy6:=@BH M _ He [.tmp 2] [a0] (by kernel_rfl) H Q
def qli(M:ak)(c:Ctx):=(zZ M c).2.2.2.2.2.2.2.2.2.2.2
def quf:=@BH M _ qk7 [.tmp 2] [a0] (by kernel_rfl) H Q
abbrev X9:Nat:=69
abbrev XG:Nat:=27
abbrev qh9:Nat:=106
abbrev qi2:Nat:=45
abbrev xo:Nat:=28
abbrev E3:Nat:=149
abbrev qj5:Nat:=96
abbrev wy:Nat:=97
abbrev Zq:Nat:=57
abbrev qi5:Nat:=129
abbrev MN:Nat:=159
abbrev q0j:Nat:=39
abbrev qoy:Nat:=65
abbrev fR:Nat:=37
abbrev D7:Nat:=26
abbrev yw:Nat:=155
abbrev N0:Nat:=106
abbrev W9:sQ:=[(39,⟨[0,1,2,3,4,5],false,[0,4,12]⟩,[]),(106,⟨[0,2,3],false,[0,2,10,18]⟩,[]),(69,⟨[0,1,4,5],false,[0,2,10,18,26,28,39]⟩,[]),(149,⟨[0,2],false,[0,2,10,18]⟩,[]),(28,⟨[0,2],false,[0,2,10]⟩,[]),(96,⟨[0,2,3,5,7,8],false,[0,4,21,9,15,20]⟩,[]),(27,⟨[0,2,5],false,[0,2,10]⟩,[]),(45,⟨[0,2],false,[0]⟩,[]),(65,⟨[0,1,2,3,4,5,6,14,15,16],false,[0,4,27,9,15,26]⟩,[]),(57,⟨[0,2],false,[0]⟩,[]),(97,⟨[0,1,2,4,7,8],false,[0]⟩,[]),(300097,⟨[0,1,2,4,7,8],false,[0]⟩,[]),(200097,⟨[0,1,2,4,7,8],false,[0]⟩,[]),(129,⟨[0,1,2,3,4],false,[0]⟩,[]),(159,⟨[0,1,2,4],false,[0,4,10,17]⟩,[])]
def T9(n:Nat):Kp:=jE n W9
def PN(n k:Nat):Kp×ai:=(T9 n,part (aY Tryz.prog n) k)
def q01(n k:Nat):PN n k=(T9 n,part (aY Tryz.prog n) k):=rfl
def yN:=@kD M _ PN T9 q01
attribute [local irreducible] PN
def vI(M:ak)(c:Ctx):=by
 have h:=nM q01 M c W9 (by kernel_rfl)
 conv at h=>arg 5;reduce
 delta PR RL nA fY mM gy nP lW fH gh fP nI pU sn ng p9 rW qZ W9 at h
 simp only[yI,xJ,yD,xX,Int.reduceOfNat,Int.reduceNegSucc]at h;exact h
def ea(M:ak)(c:Ctx):=(vI M c).2.2.2.2.2.2.2.2
def Ty(M:ak)(c:Ctx):=(vI M c).1
def xcm:=@yN M _ q0j [.tmp 2,.tmp 3] [a0] (by kernel_rfl) H Q
def qij(M:ak)(c:Ctx):=(vI M c).2.1
def qps:=@yN M _ qh9 [.tmp 2,.tmp 3] [a0] (by kernel_rfl) H Q
def jr(M:ak)(c:Ctx):=(vI M c).2.2.1
def qpr:=@yN M _ X9 [.tmp 4,.tmp 5] [a0,a1] (by kernel_rfl) H Q
def m8(M:ak)(c:Ctx):=(vI M c).2.2.2.1
def qpt:=@yN M _ E3 [.tmp 2] [a0] (by kernel_rfl) H Q
def qqx(M:ak)(c:Ctx):=(vI M c).2.2.2.2.1
def qqw:=@yN M _ xo [.tmp 2] [a0] (by kernel_rfl) H Q
def U6(M:ak)(c:Ctx):=(vI M c).2.2.2.2.2.1
def qsa:=@yN M _ qj5 [.tmp 2] [a0] (by kernel_rfl) H Q
def Yh(M:ak)(c:Ctx):=(vI M c).2.2.2.2.2.2.1
def qhb:=@yN M _ XG [.cL 5 2] [a0] (by kernel_rfl) H Q
def Y2(M:ak)(c:Ctx):=(vI M c).2.2.2.2.2.2.2.1
def qqv:=@yN M _ qi2 [.tmp 2] [a0] (by kernel_rfl) H Q
def Nh(M:ak)(c:Ctx):=(ea M c).1
def q29:=@yN M _ qoy [.cL 5 2,.tmp 3] [a0] (by kernel_rfl) H Q
def qq0(M:ak)(c:Ctx):=(ea M c).2.1
def qqz:=@yN M _ Zq [.tmp 2] [a0] (by kernel_rfl) H Q
def QD:cj:=funcAt Tryz.prog wy
def Pz:dZ:=jO QD 0
abbrev TA(k:Nat):Kp×ai:=PN 300097 k
abbrev Ua(k:Nat):Kp×ai:=PN 200097 k
def qhd:nth QD.loops 0=some Pz/\Pz.params=[8]:=⟨by kernel_rfl,by kernel_rfl⟩
def qon:(TA 0).1.ah=[0,1,2,4,7,8]/\(TA 0).2=Pz.assign:=⟨by kernel_rfl,by kernel_rfl⟩
def qoo:(Ua 0).1.ah=[0,1,2,4,7,8]/\(Ua 0).2=Pz.body:=⟨by kernel_rfl,by kernel_rfl⟩
def qpu:M.func wy=some QD:=MK.at (by decide) (by kernel_rfl)
def qq(M:ak)(c:Ctx):=And.intro (ea M c).2.2.1 (And.intro (ea M c).2.2.2.1 ((ea M c).2.2.2.2.1))
def qqy:=@yN M _ wy [] [a0,a1] (by kernel_rfl) H Q
def qq2(M:ak)(c:Ctx):=(ea M c).2.2.2.2.2.1
def qq1:=@yN M _ qi5 [.tmp 4] [a0,a1] (by kernel_rfl) H Q
def Nl(M:ak)(c:Ctx):=(ea M c).2.2.2.2.2.2
def qop:=@yN M _ MN [] [a0,a1,a2] (by kernel_rfl) H Q
abbrev Ym:Nat:=145
abbrev mm:Nat:=165
abbrev Zg:Nat:=190
abbrev YG:Nat:=202
abbrev qs1:Nat:=189
abbrev qo1:Nat:=168
abbrev hH:Nat:=169
abbrev Z1:Nat:=171
abbrev qc:Nat:=66
abbrev qrc:Nat:=206
abbrev qn1:Nat:=172
abbrev qo2:Nat:=184
abbrev Yl:Nat:=192
abbrev OA:Nat:=193
abbrev qo6:Nat:=210
abbrev vh:Nat:=212
abbrev nh:Nat:=87
abbrev vz:Nat:=246
abbrev RW:Nat:=230
abbrev HF:Nat:=228
abbrev WS:sQ:=[(66,⟨[0],false,[0]⟩,[]),(190,⟨[0,1,2,6,8],false,[0,2,10,18,28]⟩,[]),(168,⟨[0,1,2,6,7,8],false,[0,2,10,18,30]⟩,[]),(189,⟨[0,1,4,5],false,[0,2,10]⟩,[]),(165,⟨[0,1,4,5],false,[0,2,10]⟩,[]),(202,⟨[0,2],false,[0,2,10]⟩,[]),(169,⟨[0,2],false,[0,2,10]⟩,[]),(145,⟨[0,2],false,[0,2,10]⟩,[]),(171,⟨[0,2],false,[0]⟩,[]),(184,⟨[0,1,4,5,6,7],false,[0,4,12]⟩,[]),(192,⟨[0,1,2,6],false,[0,2,10]⟩,[]),(193,⟨[0,2,3,5,7,8,9],false,[0,4,9]⟩,[]),(300193,⟨[0,2,3,5,7,8,9],false,[0]⟩,[]),(200193,⟨[0,2,3,5,7,8,9],false,[0]⟩,[]),(172,⟨[0],false,[0]⟩,[]),(206,⟨[0,2],false,[0]⟩,[]),(210,⟨[0,1,2],false,[0]⟩,[]),(212,⟨[0,1,3,4,5,6,7],false,[0,4,10,19]⟩,[])]
def VO(n:Nat):Kp:=jE n WS
def Qe(n k:Nat):Kp×ai:=(VO n,part (aY Tryz.prog n) k)
def q00(n k:Nat):Qe n k=(VO n,part (aY Tryz.prog n) k):=rfl
def uo:=@kD M _ Qe VO q00
attribute [local irreducible] Qe
def rM(M:ak)(c:Ctx):=by
 have h:=nM q00 M c WS (by kernel_rfl)
 conv at h=>arg 5;reduce
 delta PR RL nA fY mM gy nP lW fH gh fP nI pU sn ng p9 rW qZ WS at h
 simp only[yI,xJ,yD,xX,Int.reduceOfNat,Int.reduceNegSucc]at h;exact h
def ee(M:ak)(c:Ctx):=(rM M c).2.2.2.2.2.2.2.2
def eg(M:ak)(c:Ctx):=(ee M c).2.2.2.2.2.2.2.2
def xjm(M:ak)(c:Ctx):=(rM M c).1
def xjl:=@uo M _ qc [.tmp 0] [] (by kernel_rfl) H Q
def qrq(M:ak)(c:Ctx):=(rM M c).2.1
def q5b:=@uo M _ Zg [.tmp 6] [a0,a1,a2] (by kernel_rfl) H Q
def qpw(M:ak)(c:Ctx):=(rM M c).2.2.1
def q3f:=@uo M _ qo1 [.tmp 6] [a0,a1,a2] (by kernel_rfl) H Q
def q7z(M:ak)(c:Ctx):=(rM M c).2.2.2.1
def q7y:=@uo M _ qs1 [.tmp 4,.tmp 5] [a0,a1] (by kernel_rfl) H Q
def q5a(M:ak)(c:Ctx):=(rM M c).2.2.2.2.1
def q49:=@uo M _ mm [.tmp 4,.tmp 5] [a0,a1] (by kernel_rfl) H Q
def q3e(M:ak)(c:Ctx):=(rM M c).2.2.2.2.2.1
def q3d:=@uo M _ YG [.tmp 2] [a0] (by kernel_rfl) H Q
def qyh(M:ak)(c:Ctx):=(rM M c).2.2.2.2.2.2.1
def qyg:=@uo M _ hH [.tmp 2] [a0] (by kernel_rfl) H Q
def q3c(M:ak)(c:Ctx):=(rM M c).2.2.2.2.2.2.2.1
def q3b:=@uo M _ Ym [.tmp 2] [a0] (by kernel_rfl) H Q
def q5d(M:ak)(c:Ctx):=(ee M c).1
def q5c:=@uo M _ Z1 [.tmp 2] [a0] (by kernel_rfl) H Q
def qpx(M:ak)(c:Ctx):=(ee M c).2.1
def q3g:=@uo M _ qo2 [.tmp 4,.tmp 5] [a0,a1] (by kernel_rfl) H Q
def qrr(M:ak)(c:Ctx):=(ee M c).2.2.1
def q5g:=@uo M _ Yl [.tmp 6] [a0,a1,a2] (by kernel_rfl) H Q
def SQ:cj:=funcAt Tryz.prog OA
def Qf:dZ:=jO SQ 0
abbrev W8(k:Nat):Kp×ai:=Qe 300193 k
abbrev Tb(k:Nat):Kp×ai:=Qe 200193 k
def YV:nth SQ.loops 0=some Qf/\Qf.params=[8,9]:=⟨by kernel_rfl,by kernel_rfl⟩
def xad:(W8 0).1.ah=[0,2,3,5,7,8,9]/\(W8 0).2=Qf.assign:=⟨by kernel_rfl,by kernel_rfl⟩
def xae:(Tb 0).1.ah=[0,2,3,5,7,8,9]/\(Tb 0).2=Qf.body:=⟨by kernel_rfl,by kernel_rfl⟩
def xco:M.func OA=some SQ:=MK.at (by decide) (by kernel_rfl)
def W1(M:ak)(c:Ctx):=And.intro (ee M c).2.2.2.1.1 (And.intro (ee M c).2.2.2.2.1 (And.intro (ee M c).2.2.2.2.2.1 (And.intro (ee M c).2.2.2.1.2.1 ((ee M c).2.2.2.1.2.2))))
def xgf:=@uo M _ OA [.tmp 2] [a0] (by kernel_rfl) H Q
def qyj(M:ak)(c:Ctx):=(ee M c).2.2.2.2.2.2.1
def qyi:=@uo M _ qn1 [] [a0] (by kernel_rfl) H Q
def q5f(M:ak)(c:Ctx):=(ee M c).2.2.2.2.2.2.2.1
def q5e:=@uo M _ qrc [.tmp 2] [a0] (by kernel_rfl) H Q
def qp4(M:ak)(c:Ctx):=(eg M c).1
def qp3:=@uo M _ qo6 [.tmp 2] [a0] (by kernel_rfl) H Q
def Sn(M:ak)(c:Ctx):=(eg M c).2
def qnj:=@uo M _ vh [] [a0,a1] (by kernel_rfl) H Q
abbrev iw:Nat:=42
abbrev ql9:Nat:=108
abbrev pf:Nat:=115
abbrev Y6:Nat:=143
abbrev Z9:Nat:=148
abbrev qoa:Nat:=113
abbrev sS:Nat:=137
abbrev YE:Nat:=111
abbrev Yi:Nat:=130
abbrev qmb:Nat:=142
abbrev KF:Nat:=139
abbrev Zh:Nat:=110
abbrev oM:Nat:=112
abbrev qo7:Nat:=196
abbrev Yc:Nat:=195
abbrev Ux:Nat:=208
abbrev W6:Nat:=209
abbrev Ta:Nat:=178
abbrev Yy:Nat:=175
abbrev NS:Nat:=198
abbrev qmd:Nat:=146
abbrev qkc:Nat:=174
abbrev Yt:Nat:=176
abbrev SB:Nat:=182
abbrev ZQ:Nat:=166
abbrev qkd:Nat:=185
abbrev qid:Nat:=186
abbrev VL:Nat:=188
abbrev Q6:Nat:=161
abbrev X0:Nat:=181
abbrev YY:Nat:=173
abbrev Pu:Nat:=197
abbrev qog:Nat:=144
abbrev RY:Nat:=191
abbrev Yu:Nat:=160
abbrev qla:Nat:=177
abbrev Rn:Nat:=199
abbrev qmg:Nat:=207
abbrev Yg:Nat:=211
abbrev Tt:Nat:=170
abbrev ZJ:Nat:=194
abbrev qkf:Nat:=164
abbrev qi6:Nat:=187
abbrev Zi:Nat:=201
abbrev Rz:Nat:=203
abbrev Rj:Nat:=204
abbrev Sc:Nat:=205
abbrev SW:Nat:=147
abbrev GD:Nat:=1
abbrev Jm:Nat:=288
abbrev Sw:Nat:=289
abbrev zY:Nat:=189
abbrev I7:Nat:=107
abbrev Cy:Nat:=192
abbrev OB:Nat:=43
abbrev Wx:sQ:=[(42,⟨[0],false,[0]⟩,[]),(108,⟨[0,2],false,[0,2,10,18]⟩,[]),(137,⟨[0,1,4,5,6,7],false,[0,2,12,24]⟩,[]),(142,⟨[0,1,2,6,7],false,[0,4,12]⟩,[]),(143,⟨[0,2,3],false,[0,2,12,14,24]⟩,[]),(130,⟨[0,2,3],false,[0,4,12]⟩,[]),(110,⟨[0,2,3,4],false,[0,2,10]⟩,[(3,[0,2,4,6,8,10,12,14,16,18,15,17,20])]),(113,⟨[0,1,2,6,7],false,[0,2,10,12,20]⟩,[]),(115,⟨[0,2],false,[0]⟩,[]),(139,⟨[0,2],false,[0,2,10]⟩,[]),(148,⟨[0,2],false,[0,2,10]⟩,[]),(111,⟨[0,2],false,[0,2,10]⟩,[]),(112,⟨[0,2],false,[0]⟩,[]),(144,⟨[0,2],false,[0]⟩,[]),(146,⟨[0,1,2,3,4,5],false,[0]⟩,[]),(147,⟨[0],false,[0]⟩,[]),(164,⟨[0,1,4,5],false,[0,4,12]⟩,[]),(166,⟨[0,1,2,3],false,[0]⟩,[]),(161,⟨[0,1,2,3],false,[0]⟩,[]),(160,⟨[0,2],false,[0,2,10,18]⟩,[]),(170,⟨[0,1],false,[0]⟩,[]),(173,⟨[0,1,2,5],false,[0]⟩,[]),(174,⟨[0,1,2,3],false,[0]⟩,[]),(177,⟨[0,1,2,3],false,[0]⟩,[]),(178,⟨[0,1],false,[0]⟩,[]),(185,⟨[0,1,2,3],false,[0]⟩,[]),(181,⟨[0,1],false,[0]⟩,[(0,[0,2,4,6,8,10,3,5,12,14,16])]),(175,⟨[0,1,2,3,4,9],false,[0]⟩,[]),(194,⟨[0,1],false,[0,8]⟩,[(4,[0,2,4,6,8,10,1,12])]),(196,⟨[0,1,2,4],false,[0]⟩,[]),(197,⟨[0,1,2],false,[0]⟩,[]),(176,⟨[0,1,2,3],false,[0,8]⟩,[]),(199,⟨[0,1,2],false,[0,8]⟩,[]),(182,⟨[0],false,[0]⟩,[]),(191,⟨[0,1],false,[0]⟩,[]),(186,⟨[0,1,2,3,5,6],false,[0,8,10,18]⟩,[]),(198,⟨[0,1,2],false,[0]⟩,[]),(187,⟨[0,1,2,3],false,[0]⟩,[]),(195,⟨[0,1,2,3],false,[0,2,10]⟩,[]),(188,⟨[0,1],false,[0]⟩,[]),(201,⟨[0,1,2,3,4,5,6,7,8],false,[0]⟩,[]),(207,⟨[0,1,2,3,7],false,[0]⟩,[]),(208,⟨[0,1],false,[0]⟩,[]),(209,⟨[0],false,[0]⟩,[]),(203,⟨[0,1,2,3,4],false,[0,8]⟩,[]),(204,⟨[0,1,2,3],false,[0,8]⟩,[]),(205,⟨[0,1,2,3,4],false,[0,8]⟩,[]),(211,⟨[0,1,2],false,[0]⟩,[])]
def Vd(n:Nat):Kp:=jE n Wx
def T0(n k:Nat):Kp×ai:=(Vd n,part (aY Tryz.prog n) k)
def q04(n k:Nat):T0 n k=(Vd n,part (aY Tryz.prog n) k):=rfl
def jc:=@kD M _ T0 Vd q04
attribute [local irreducible] T0
def jb(M:ak)(c:Ctx):=by
 have h:=nM q04 M c Wx (by kernel_rfl)
 conv at h=>arg 5;reduce
 delta PR RL nA fY mM gy nP iA lW fH gh fP nI ng p9 rW qZ Wx at h
 simp only[yI,xJ,yD,xX,Int.reduceOfNat,Int.reduceNegSucc]at h;exact h
def ei(M:ak)(c:Ctx):=(jb M c).2.2.2.2.2.2.2.2
def ep(M:ak)(c:Ctx):=(ei M c).2.2.2.2.2.2.2.2
def ez(M:ak)(c:Ctx):=(ep M c).2.2.2.2.2.2.2.2
def fe(M:ak)(c:Ctx):=(ez M c).2.2.2.2.2.2.2.2
def ff(M:ak)(c:Ctx):=(fe M c).2.2.2.2.2.2.2.2
def xg5(M:ak)(c:Ctx):=(jb M c).1
def xg4:=@jc M _ iw [.tmp 0] [] (by kernel_rfl) H Q
def Xt(M:ak)(c:Ctx):=(jb M c).2.1
def qwl:=@jc M _ ql9 [.tmp 2] [a0] (by kernel_rfl) H Q
def Sq(M:ak)(c:Ctx):=(jb M c).2.2.1
def qzc:=@jc M _ sS [.tmp 4] [a0,a1] (by kernel_rfl) H Q
def N9(M:ak)(c:Ctx):=(jb M c).2.2.2.1
def qwo:=@jc M _ qmb [.tmp 6] [a0,a1,a2] (by kernel_rfl) H Q
def WV(M:ak)(c:Ctx):=(jb M c).2.2.2.2.1
def qul:=@jc M _ Y6 [.tmp 2] [a0] (by kernel_rfl) H Q
def VD(M:ak)(c:Ctx):=(jb M c).2.2.2.2.2.1
def qzd:=@jc M _ Yi [.tmp 2] [a0] (by kernel_rfl) H Q
def qzf(M:ak)(c:Ctx):=(jb M c).2.2.2.2.2.2.1
def qze:=@jc M _ Zh [.cL 4 2,.tmp 3] [a0] (by kernel_rfl) H Q
def Y8(M:ak)(c:Ctx):=(jb M c).2.2.2.2.2.2.2.1
def qzb:=@jc M _ qoa [.tmp 6] [a0,a1,a2] (by kernel_rfl) H Q
def qza(M:ak)(c:Ctx):=(ei M c).1
def qy9:=@jc M _ pf [.tmp 2] [a0] (by kernel_rfl) H Q
def qwq(M:ak)(c:Ctx):=(ei M c).2.1
def qwp:=@jc M _ KF [.tmp 2] [a0] (by kernel_rfl) H Q
def qwn(M:ak)(c:Ctx):=(ei M c).2.2.1
def qwm:=@jc M _ Z9 [.tmp 2] [a0] (by kernel_rfl) H Q
def qun(M:ak)(c:Ctx):=(ei M c).2.2.2.1
def qum:=@jc M _ YE [.tmp 2] [a0] (by kernel_rfl) H Q
def qsn(M:ak)(c:Ctx):=(ei M c).2.2.2.2.1
def qsm:=@jc M _ oM [.tmp 2] [a0] (by kernel_rfl) H Q
def qzm(M:ak)(c:Ctx):=(ei M c).2.2.2.2.2.1
def qzl:=@jc M _ qog [.tmp 2] [a0] (by kernel_rfl) H Q
def qww(M:ak)(c:Ctx):=(ei M c).2.2.2.2.2.2.1
def qwv:=@jc M _ qmd [] [a0,a1,a2] (by kernel_rfl) H Q
def qzq(M:ak)(c:Ctx):=(ei M c).2.2.2.2.2.2.2.1
def qzp:=@jc M _ SW [] [a0] (by kernel_rfl) H Q
def Va(M:ak)(c:Ctx):=(ep M c).1
def qsw:=@jc M _ qkf [.tmp 4] [a0,a1] (by kernel_rfl) H Q
def qwy(M:ak)(c:Ctx):=(ep M c).2.1
def qwx:=@jc M _ ZQ [] [a0,a1] (by kernel_rfl) H Q
def qw0(M:ak)(c:Ctx):=(ep M c).2.2.1
def qwz:=@jc M _ Q6 [] [a0,a1] (by kernel_rfl) H Q
def qw4(M:ak)(c:Ctx):=(ep M c).2.2.2.1
def qw3:=@jc M _ Yu [.tmp 2] [a0] (by kernel_rfl) H Q
def qzo(M:ak)(c:Ctx):=(ep M c).2.2.2.2.1
def qzn:=@jc M _ Tt [] [a0] (by kernel_rfl) H Q
def qzk(M:ak)(c:Ctx):=(ep M c).2.2.2.2.2.1
def qzj:=@jc M _ YY [] [a0,a1,a2] (by kernel_rfl) H Q
def qsp(M:ak)(c:Ctx):=(ep M c).2.2.2.2.2.2.1
def qso:=@jc M _ qkc [] [a0,a1,a2,a3] (by kernel_rfl) H Q
def quw(M:ak)(c:Ctx):=(ep M c).2.2.2.2.2.2.2.1
def quv:=@jc M _ qla [] [a0,a1] (by kernel_rfl) H Q
def qws(M:ak)(c:Ctx):=(ez M c).1
def qwr:=@jc M _ Ta [] [a0,a1] (by kernel_rfl) H Q
def qsr(M:ak)(c:Ctx):=(ez M c).2.1
def qsq:=@jc M _ qkd [] [a0,a1,a2] (by kernel_rfl) H Q
def qst(M:ak)(c:Ctx):=(ez M c).2.2.1
def qss:=@jc M _ X0 [] [a0,a1] (by kernel_rfl) H Q
def q4f(M:ak)(c:Ctx):=(ez M c).2.2.2.1
def q4e:=@jc M _ Yy [] [a0,a1,a2,a3,a4] (by kernel_rfl) H Q
def D1(M:ak)(c:Ctx):=(ez M c).2.2.2.2.1
def qux:=@jc M _ ZJ [] [a0,a1] (by kernel_rfl) H Q
def q4d(M:ak)(c:Ctx):=(ez M c).2.2.2.2.2.1
def q4c:=@jc M _ qo7 [] [a0,a1,a2] (by kernel_rfl) H Q
def quu(M:ak)(c:Ctx):=(ez M c).2.2.2.2.2.2.1
def qut:=@jc M _ Pu [] [a0,a1,a2] (by kernel_rfl) H Q
def qin(M:ak)(c:Ctx):=(ez M c).2.2.2.2.2.2.2.1
def qp7:=@jc M _ Yt [] [a0,a1,a2,a3] (by kernel_rfl) H Q
def Ri(M:ak)(c:Ctx):=(fe M c).1
def qjc:=@jc M _ Rn [] [a0,a1,a2] (by kernel_rfl) H Q
def qzi(M:ak)(c:Ctx):=(fe M c).2.1
def qzh:=@jc M _ SB [] [a0] (by kernel_rfl) H Q
def qw2(M:ak)(c:Ctx):=(fe M c).2.2.1
def qw1:=@jc M _ RY [] [a0,a1] (by kernel_rfl) H Q
def MP(M:ak)(c:Ctx):=(fe M c).2.2.2.1
def qp8:=@jc M _ qid [] [a0,a1,a2,a3] (by kernel_rfl) H Q
def qwu(M:ak)(c:Ctx):=(fe M c).2.2.2.2.1
def qwt:=@jc M _ NS [] [a0,a1,a2] (by kernel_rfl) H Q
def qq5(M:ak)(c:Ctx):=(fe M c).2.2.2.2.2.1
def qq4:=@jc M _ qi6 [] [a0,a1] (by kernel_rfl) H Q
def qom(M:ak)(c:Ctx):=(fe M c).2.2.2.2.2.2.1
def qzg:=@jc M _ Yc [] [a0,a1] (by kernel_rfl) H Q
def qnp(M:ak)(c:Ctx):=(fe M c).2.2.2.2.2.2.2.1
def qno:=@jc M _ VL [] [a0,a1] (by kernel_rfl) H Q
def qot(M:ak)(c:Ctx):=(ff M c).1
def qos:=@jc M _ Zi [] [a0,a1,a2] (by kernel_rfl) H Q
def qw6(M:ak)(c:Ctx):=(ff M c).2.1
def qw5:=@jc M _ qmg [] [a0,a1,a2,a3] (by kernel_rfl) H Q
def quq(M:ak)(c:Ctx):=(ff M c).2.2.1
def qup:=@jc M _ Ux [] [a0,a1] (by kernel_rfl) H Q
def qus(M:ak)(c:Ctx):=(ff M c).2.2.2.1
def qur:=@jc M _ W6 [] [a0] (by kernel_rfl) H Q
def oS(M:ak)(c:Ctx):=(ff M c).2.2.2.2.1
def qmw:=@jc M _ Rz [] [a0,a1,a2,a3,a4] (by kernel_rfl) H Q
def Zb(M:ak)(c:Ctx):=(ff M c).2.2.2.2.2.1
def qmx:=@jc M _ Rj [] [a0,a1,a2,a3] (by kernel_rfl) H Q
def X7(M:ak)(c:Ctx):=(ff M c).2.2.2.2.2.2.1
def qmy:=@jc M _ Sc [] [a0,a1,a2,a3,a4] (by kernel_rfl) H Q
def qsv(M:ak)(c:Ctx):=(ff M c).2.2.2.2.2.2.2
def qsu:=@jc M _ Yg [] [a0,a1,a2] (by kernel_rfl) H Q
abbrev qk1:Nat:=9
abbrev qk2:Nat:=8
abbrev X4:Nat:=10
abbrev VS:Nat:=46
abbrev WM:Nat:=47
abbrev Z8:Nat:=100
abbrev ZE:Nat:=77
abbrev Z2:Nat:=71
abbrev qk4:Nat:=78
abbrev YZ:Nat:=109
abbrev m0:Nat:=76
abbrev qh7:Nat:=114
abbrev LY:Nat:=74
abbrev YQ:Nat:=116
abbrev qnw:Nat:=107
abbrev Vg:Nat:=102
abbrev UN:Nat:=98
abbrev ql0:Nat:=70
abbrev qnx:Nat:=140
abbrev LC:Nat:=167
abbrev Zz:Nat:=117
abbrev TL:Nat:=72
abbrev US:Nat:=138
abbrev Oz:Nat:=103
abbrev ZS:Nat:=73
abbrev qny:Nat:=26
abbrev Zv:Nat:=75
abbrev qk6:Nat:=141
abbrev PK:Nat:=104
abbrev TM:Nat:=67
abbrev p6:Nat:=20
abbrev qga:Nat:=40
abbrev yv:Nat:=45
abbrev Ge:Nat:=112
abbrev EH:Nat:=31
abbrev vx:Nat:=47
abbrev Vr:sQ:=[(20,⟨[0,1,2,3,6,8,9,10,11],false,[0,4,12]⟩,[]),(47,⟨[0,2,3,4,5,6,7,11],false,[0,11,16,30,43,21,35,48,57,64,69,79]⟩,[]),(12,⟨[0,2,8],false,[0,2,10]⟩,[]),(13,⟨[0,2],false,[0,2,10]⟩,[]),(14,⟨[0,2,3,4,8],false,[0,2,10]⟩,[]),(8,⟨[0,2,3],false,[0]⟩,[(1,[0,18,2,4,6,8,10,12,14,16,20,15,22,24,26,28,30,32,34,36,38])]),(10,⟨[0,2],false,[0,2,10]⟩,[]),(11,⟨[0,2],false,[0,2,10]⟩,[]),(9,⟨[0,2,5],false,[0,2,10]⟩,[]),(40,⟨[0,2],false,[0,2,10]⟩,[]),(70,⟨[0,2,3,4,5,6,54],false,[0,4,16,8,39,22,14,45,30,55,63]⟩,[(6,[0,2,4,6,8,10,12,14,16,18,20,24,22,7,13,26,28,30])]),(71,⟨[0,20],false,[0,4,19]⟩,[]),(72,⟨[0,1,4,5,6,7,8],false,[0]⟩,[]),(73,⟨[0,2,3],false,[0]⟩,[]),(74,⟨[0,2,4,5,6,7,8,18],false,[0,1,5,7,9,26,21,32,36,38,44,50]⟩,[(12,[0,2,4,6,10,12,14,16,8,17,18,20,22])]),(75,⟨[0,1,2,6,7,8],false,[0]⟩,[]),(76,⟨[0],false,[0]⟩,[(2,[0,2,4,6,8,10,12,14,16,7,18,20])]),(77,⟨[0,2],false,[0,14,4,12]⟩,[]),(78,⟨[0],false,[0]⟩,[]),(26,⟨[0,2],false,[0]⟩,[]),(98,⟨[0,6],false,[0,15]⟩,[]),(100,⟨[0,1,4,5],false,[0,2,10]⟩,[]),(102,⟨[0,1],false,[0]⟩,[]),(103,⟨[0,1,2,3,4,7,8,9,14,47,48,49],false,[0,2,30,11,25,19]⟩,[(5,[0,2,4,6,8,10,3,12,14,16]),(6,[0,2,4,6,8,10,12,1,3,14])]),(300103,⟨[0,1,2,3,4,7,8,9,14,47,48,49],false,[0]⟩,[(5,[0,2,4,6,8,10,3,12,14,16]),(6,[0,2,4,6,8,10,12,1,3,14])]),(200103,⟨[0,1,2,3,4,7,8,9,14,47,48,49],false,[0]⟩,[(5,[0,2,4,6,8,10,3,12,14,16]),(6,[0,2,4,6,8,10,12,1,3,14])]),(104,⟨[0,1,2,4,6,7,12,71,72,73],false,[0,8,13,18,30,46,26,32,37,43]⟩,[]),(300104,⟨[0,1,2,4,6,7,12,71,72,73],false,[0]⟩,[]),(200104,⟨[0,1,2,4,6,7,12,71,72,73],false,[0]⟩,[]),(107,⟨[0],false,[0,11]⟩,[]),(67,⟨[0,1,2,3,4,10],false,[0,2,8]⟩,[(2,[0,2,4,6,8,10,12,14,16,20,22,24,26,30,18,7,27,28,7,32,34,36,38,40])]),(109,⟨[0,1,2,3,8,9,10,11,12],false,[0]⟩,[]),(114,⟨[0],false,[0,6]⟩,[]),(116,⟨[0],false,[0,9]⟩,[(7,[0,2,4,6,8,10,12,14,16,18,9,20])]),(117,⟨[0],false,[0]⟩,[]),(138,⟨[0,1,2,4,6,8],false,[0,4,6,12]⟩,[]),(140,⟨[0,1,2,3,4],false,[0]⟩,[]),(141,⟨[0,1,2,3,6],false,[0]⟩,[]),(46,⟨[0,1],false,[0]⟩,[]),(167,⟨[0,1,2,4,5,9,10,11],false,[0,4,10,19]⟩,[])]
def S3(n:Nat):Kp:=jE n Vr
def Gh(n k:Nat):Kp×ai:=(S3 n,part (aY Tryz.prog n) k)
def q0u(n k:Nat):Gh n k=(S3 n,part (aY Tryz.prog n) k):=rfl
def ye:=@kD M _ Gh S3 q0u
attribute [local irreducible] Gh
def z8(M:ak)(c:Ctx):=by
 have h:=nM q0u M c Vr (by kernel_rfl)
 conv at h=>arg 5;reduce
 delta PR RL nA fY mM gy nP iA lW fH gh fP nI pU uc sn ng p9 rW qZ Vr at h
 simp only[yI,xJ,yD,xX,Int.reduceOfNat,Int.reduceNegSucc]at h;exact h
def fu(M:ak)(c:Ctx):=(z8 M c).2.2.2.2.2.2.2.2
def fB(M:ak)(c:Ctx):=(fu M c).2.2.2.2.2.2.2.2
def fS(M:ak)(c:Ctx):=(fB M c).2.2.2.2.2.2.2.2
def f0(M:ak)(c:Ctx):=(fS M c).2.2.2.2.2.2.2.2
def HT(M:ak)(c:Ctx):=(z8 M c).1
def xfs:=@ye M _ p6 [.tmp 8,.tmp 9] [a0,a1,a2,a3] (by kernel_rfl) H Q
def jq(M:ak)(c:Ctx):=(z8 M c).2.1
def q18:=@ye M _ WM [] [a0] (by kernel_rfl) H Q
def qtg(M:ak)(c:Ctx):=(z8 M c).2.2.2.2.2.1
def qtf:=@ye M _ qk2 [.tmp 2,.tmp 3] [a0] (by kernel_rfl) H Q
def qxv(M:ak)(c:Ctx):=(z8 M c).2.2.2.2.2.2.1
def qxu:=@ye M _ X4 [.tmp 2] [a0] (by kernel_rfl) H Q
def qte(M:ak)(c:Ctx):=(fu M c).1
def qtd:=@ye M _ qk1 [.cL 5 2] [a0] (by kernel_rfl) H Q
def qge(M:ak)(c:Ctx):=(fu M c).2.1
def qmv:=@ye M _ qga [.tmp 2] [a0] (by kernel_rfl) H Q
def z7(M:ak)(c:Ctx):=(fu M c).2.2.1
def qvg:=@ye M _ ql0 [] [a0] (by kernel_rfl) H Q
def Nz(M:ak)(c:Ctx):=(fu M c).2.2.2.1
def qtj:=@ye M _ Z2 [] [a0] (by kernel_rfl) H Q
def qx6(M:ak)(c:Ctx):=(fu M c).2.2.2.2.1
def qx5:=@ye M _ TL [.tmp 4,.tmp 5] [a0,a1] (by kernel_rfl) H Q
def qvl(M:ak)(c:Ctx):=(fu M c).2.2.2.2.2.1
def qvk:=@ye M _ ZS [] [a0] (by kernel_rfl) H Q
def zf(M:ak)(c:Ctx):=(fu M c).2.2.2.2.2.2.1
def qvf:=@ye M _ LY [] [a0] (by kernel_rfl) H Q
def qvn(M:ak)(c:Ctx):=(fu M c).2.2.2.2.2.2.2.1
def qvm:=@ye M _ Zv [.tmp 6] [a0,a1,a2] (by kernel_rfl) H Q
def qrx(M:ak)(c:Ctx):=(fB M c).1
def qrw:=@ye M _ m0 [] [a0] (by kernel_rfl) H Q
def Q7(M:ak)(c:Ctx):=(fB M c).2.1
def qve:=@ye M _ ZE [] [a0] (by kernel_rfl) H Q
def qtl(M:ak)(c:Ctx):=(fB M c).2.2.1
def qtk:=@ye M _ qk4 [] [a0] (by kernel_rfl) H Q
def qx8(M:ak)(c:Ctx):=(fB M c).2.2.2.1
def qx7:=@ye M _ qny [.tmp 2] [a0] (by kernel_rfl) H Q
def Sf(M:ak)(c:Ctx):=(fB M c).2.2.2.2.1
def qry:=@ye M _ UN [] [a0] (by kernel_rfl) H Q
def Zn(M:ak)(c:Ctx):=(fB M c).2.2.2.2.2.1
def q4y:=@ye M _ Z8 [.tmp 4,.tmp 5] [a0,a1] (by kernel_rfl) H Q
def qx2(M:ak)(c:Ctx):=(fB M c).2.2.2.2.2.2.1
def qx1:=@ye M _ Vg [] [a0,a1] (by kernel_rfl) H Q
def Q8:cj:=funcAt Tryz.prog Oz
def M0:dZ:=jO Q8 0
abbrev Uq(k:Nat):Kp×ai:=Gh 300103 k
abbrev XU(k:Nat):Kp×ai:=Gh 200103 k
def gX:nth Q8.loops 0=some M0/\M0.params=[48,49]:=⟨by kernel_rfl,by kernel_rfl⟩
def qrz:(Uq 0).1.ah=[0,1,2,3,4,7,8,9,14,47,48,49]/\(Uq 0).2=M0.assign:=⟨by kernel_rfl,by kernel_rfl⟩
def qr0:(XU 0).1.ah=[0,1,2,3,4,7,8,9,14,47,48,49]/\(XU 0).2=M0.body:=⟨by kernel_rfl,by kernel_rfl⟩
def qtp:M.func Oz=some Q8:=MK.at (by decide) (by kernel_rfl)
def I6(M:ak)(c:Ctx):=And.intro (fB M c).2.2.2.2.2.2.2.1.1 (And.intro (fS M c).1 (And.intro (fS M c).2.1 (And.intro (fB M c).2.2.2.2.2.2.2.1.2.1 (And.intro (fB M c).2.2.2.2.2.2.2.1.2.2.1 (And.intro (fB M c).2.2.2.2.2.2.2.1.2.2.2.1 (And.intro (fB M c).2.2.2.2.2.2.2.1.2.2.2.2.1 ((fB M c).2.2.2.2.2.2.2.1.2.2.2.2.2)))))))
def qvj:=@ye M _ Oz [] [a0,a1,a2] (by kernel_rfl) H Q
def Se:cj:=funcAt Tryz.prog PK
def Pm:dZ:=jO Se 0
abbrev UG(k:Nat):Kp×ai:=Gh 300104 k
abbrev Wu(k:Nat):Kp×ai:=Gh 200104 k
def qi7:nth Se.loops 0=some Pm/\Pm.params=[72,73]:=⟨by kernel_rfl,by kernel_rfl⟩
def qqr:(UG 0).1.ah=[0,1,2,4,6,7,12,71,72,73]/\(UG 0).2=Pm.assign:=⟨by kernel_rfl,by kernel_rfl⟩
def qqs:(Wu 0).1.ah=[0,1,2,4,6,7,12,71,72,73]/\(Wu 0).2=Pm.body:=⟨by kernel_rfl,by kernel_rfl⟩
def qr1:M.func PK=some Se:=MK.at (by decide) (by kernel_rfl)
def vc(M:ak)(c:Ctx):=And.intro (fS M c).2.2.1.1 (And.intro (fS M c).2.2.2.1 (And.intro (fS M c).2.2.2.2.1 (And.intro (fS M c).2.2.1.2.1 (And.intro (fS M c).2.2.1.2.2.1 (And.intro (fS M c).2.2.1.2.2.2.1 (And.intro (fS M c).2.2.1.2.2.2.2.1 (And.intro (fS M c).2.2.1.2.2.2.2.2.1 (And.intro (fS M c).2.2.1.2.2.2.2.2.2.1 (And.intro (fS M c).2.2.1.2.2.2.2.2.2.2.1 (And.intro (fS M c).2.2.1.2.2.2.2.2.2.2.2.1 ((fS M c).2.2.1.2.2.2.2.2.2.2.2.2)))))))))))
def qts:=@ye M _ PK [] [a0,a1,a2] (by kernel_rfl) H Q
def OU(M:ak)(c:Ctx):=(fS M c).2.2.2.2.2.1
def qx0:=@ye M _ qnw [] [a0] (by kernel_rfl) H Q
def T7(M:ak)(c:Ctx):=(fS M c).2.2.2.2.2.2.1
def qx9:=@ye M _ TM [] [a0,a1,a2,a3,a4] (by kernel_rfl) H Q
def q2a(M:ak)(c:Ctx):=(fS M c).2.2.2.2.2.2.2.1
def q19:=@ye M _ YZ [.tmp 8,.tmp 9] [a0,a1,a2,a3] (by kernel_rfl) H Q
def UL(M:ak)(c:Ctx):=(f0 M c).1
def qpf:=@ye M _ qh7 [] [a0] (by kernel_rfl) H Q
def NF(M:ak)(c:Ctx):=(f0 M c).2.1
def qtm:=@ye M _ YQ [] [a0] (by kernel_rfl) H Q
def qvi(M:ak)(c:Ctx):=(f0 M c).2.2.1
def qvh:=@ye M _ Zz [] [a0] (by kernel_rfl) H Q
def qld(M:ak)(c:Ctx):=(f0 M c).2.2.2.1
def qto:=@ye M _ US [] [a0,a1,a2] (by kernel_rfl) H Q
def qx4(M:ak)(c:Ctx):=(f0 M c).2.2.2.2.1
def qx3:=@ye M _ qnx [.tmp 4] [a0,a1] (by kernel_rfl) H Q
def qtr(M:ak)(c:Ctx):=(f0 M c).2.2.2.2.2.1
def qtq:=@ye M _ qk6 [] [a0,a1,a2,a3] (by kernel_rfl) H Q
def qvd(M:ak)(c:Ctx):=(f0 M c).2.2.2.2.2.2.1
def qvc:=@ye M _ VS [] [a0,a1] (by kernel_rfl) H Q
def Nb(M:ak)(c:Ctx):=(f0 M c).2.2.2.2.2.2.2
def qtn:=@ye M _ LC [] [a0,a1,a2] (by kernel_rfl) H Q
abbrev Ll:Nat:=22
abbrev ke:Nat:=44
abbrev U9:sQ:=[(100022,⟨[0,1,2,4,5,6,30],false,[0,2,29,16]⟩,[(9,[0,2,4,6,8,10,3,12,14,16])]),(9900022,⟨[0,1,2,4,5,6,30],false,[0,2,16,8,14]⟩,[(9,[0,2,4,6,8,10,3,12,14,16])]),(44,⟨[0],false,[0]⟩,[])]
def q88(n:Nat):Kp:=jE n U9
def O2(n k:Nat):Kp×ai:=(q88 n,part (aY Tryz.prog n) k)
def We(n k:Nat):O2 n k=(q88 n,part (aY Tryz.prog n) k):=rfl
attribute [local irreducible] O2
def Ej(M:ak)(c:Ctx):=by
 have h:=nM We M c U9 (by kernel_rfl)
 conv at h=>arg 5;reduce
 delta PR RL nA fY mM gy nP iA lW fH gh fP nI uc ng rW qZ U9 at h
 simp only[yI,xJ,yD,xX,Int.reduceOfNat,Int.reduceNegSucc]at h;exact h
def qxw:cj:=funcAt Tryz.prog Ll
abbrev qxy(k:Nat):Kp×ai:=O2 100022 k
abbrev qxz(k:Nat):Kp×ai:=O2 9900022 k
def yt(M:ak)(c:Ctx):=And.intro (Ej M c).1.1 (And.intro (Ej M c).2.1.1 (And.intro (Ej M c).1.2.1 (And.intro (Ej M c).2.1.2.1 (And.intro (Ej M c).1.2.2.1 (And.intro (Ej M c).1.2.2.2 (And.intro (Ej M c).2.1.2.2.1 (And.intro (Ej M c).2.1.2.2.2.1 ((Ej M c).2.1.2.2.2.2))))))))
def qxx(h:W M ⟨none,Ll⟩ (qxy 0) true (zS M ⟨none,Ll⟩ (qxz 0) 30 (fj M [.tmp 4,.tmp 5] Q)) (jT 0 [a0,a1]) [] H):D4 M Ll [a0,a1] H Q:=Ok We (MK.at (by decide) (by kernel_rfl:(aV Tryz.prog).func Ll=some qxw)) (by kernel_rfl) (by kernel_rfl) (by kernel_rfl) (by kernel_rfl) (by kernel_rfl) (by kernel_rfl) h
def qth{up:Option aE}(h:W M ⟨none,ke⟩ (O2 ke 0) true (fj M [] Q) (jT 0 [a0]) [] H):∃e H',jJ M ke [a0] up H e up H'/\Q e H':=GV We (MK.at (by decide) (by kernel_rfl:(aV Tryz.prog).func ke=some (funcAt Tryz.prog ke))) (by kernel_rfl) (by kernel_rfl) (by kernel_rfl) h
def qti(M:ak)(c:Ctx):=(Ej M c).2.2
abbrev q0l:Nat:=63
abbrev q0m:Nat:=64
abbrev ZI:Nat:=36
abbrev q0o:Nat:=37
abbrev oI:Nat:=19
abbrev vo:Nat:=43
abbrev sq:Nat:=21
abbrev Dk:Nat:=4
abbrev Pk:Nat:=71
abbrev Wb:Nat:=129
abbrev vm:Nat:=74
abbrev qs4:Nat:=180
abbrev Jd:Nat:=132
abbrev vn:Nat:=78
abbrev vp:Nat:=95
abbrev TH:sQ:=[(19,⟨[0,1,2,4,5,6,7,8,9,10,11,12],false,[0,4,12,14,39,19,54,44,25,50,38,29,53,37]⟩,[]),(21,⟨[0,1,2,3,6,8,9,10,60],false,[0,4,12]⟩,[]),(36,⟨[0,1,3,4,5,6,7,8,9],false,[0,4,12,14,29,19,25,28]⟩,[]),(37,⟨[0,1,3,4,5,6,7,20],false,[0,4,12]⟩,[]),(38,⟨[0,1,2,5,6,7],false,[0,2,10,25,15,21,24]⟩,[]),(43,⟨[0,1,2],false,[0]⟩,[]),(63,⟨[0,1,2,3],false,[0,2,10]⟩,[]),(64,⟨[0,1,4,5],false,[0,2,10]⟩,[])]
def VZ(n:Nat):Kp:=jE n TH
def XF(n k:Nat):Kp×ai:=(VZ n,part (aY Tryz.prog n) k)
def Zm(n k:Nat):XF n k=(VZ n,part (aY Tryz.prog n) k):=rfl
def Km:=@kD M _ XF VZ Zm
attribute [local irreducible] XF
def JI(M:ak)(c:Ctx):=by
 have h:=nM Zm M c TH (by kernel_rfl)
 conv at h=>arg 5;reduce
 delta PR RL nA fY mM gy nP lW fH gh fP nI pU ng rW qZ TH at h
 simp only[yI,xJ,yD,xX,Int.reduceOfNat,Int.reduceNegSucc]at h;exact h
def Ga(M:ak)(c:Ctx):=(JI M c).1
def xc9:=@Km M _ oI [.cL 5 4,.tmp 5] [a0,a1] (by kernel_rfl) H Q
def Iq(M:ak)(c:Ctx):=(JI M c).2.1
def xdb:=@Km M _ sq [.cL 60 8,.tmp 9] [a0,a1,a2,a3] (by kernel_rfl) H Q
def Hu(M:ak)(c:Ctx):=(JI M c).2.2.1
def xc7:=@Km M _ ZI [.cL 3 4,.tmp 5] [a0,a1] (by kernel_rfl) H Q
def HM(M:ak)(c:Ctx):=(JI M c).2.2.2.1
def xc8:=@Km M _ q0o [.cL 20 4,.tmp 5] [a0,a1] (by kernel_rfl) H Q
def KZ(M:ak)(c:Ctx):=(JI M c).2.2.2.2.2.1
def xda:=@Km M _ vo [.tmp 2] [a0] (by kernel_rfl) H Q
def XY(M:ak)(c:Ctx):=(JI M c).2.2.2.2.2.2.1
def xc5:=@Km M _ q0l [.cL 1 2,.tmp 3] [a0] (by kernel_rfl) H Q
def PU(M:ak)(c:Ctx):=(JI M c).2.2.2.2.2.2.2
def xc6:=@Km M _ q0m [.cL 4 4,.tmp 5] [a0,a1] (by kernel_rfl) H Q
abbrev jp:Nat:=3
abbrev qxa:Nat:=6
abbrev ZX:Nat:=7
abbrev wH:Nat:=38
abbrev qxq:Nat:=42
abbrev kz:Nat:=28
abbrev Uv:sQ:=[(4,⟨[0,1,2,4,5,6,7,10,12,13,14,15,16,17,18,19,20,21,22],false,[0,4,6,14,18,20,91,25,31,90,35,68,40,72,46,78,67,58,89]⟩,[(15,[0,2,4,6,10,12,14,8,15,16]),(26,[0,2,4,6,8,10,12,14,16,18,20,24,26,28,22,29,30,32,34,36,38,40,44,46,48,42,49,50,52,54])]),(3,⟨[0,1,2,4,5,6,7,10,12,13,14,15,16,17,19,20,21,22],false,[0,4,6,14,18,104,23,29,103,33,58,38,62,44,68,57,50,102,72,93,77,101,83,92]⟩,[(27,[0,2,4,6,8,10,12,14,16,18,20,24,26,28,22,29,30,32])]),(6,⟨[0,1,2,3,4,5,6,7,8,9,10,11,12,13,14,15,16,17,18],false,[0,4,6,14,18,47,23,29,46,35,43]⟩,[]),(7,⟨[0,1,2,5,6,7,10],false,[0,2,31,22]⟩,[])]
def T1(n:Nat):Kp:=jE n Uv
def HH(n k:Nat):Kp×ai:=(T1 n,part (aY Tryz.prog n) k)
def Za(n k:Nat):HH n k=(T1 n,part (aY Tryz.prog n) k):=rfl
def Xy:=@kD M _ HH T1 Za
attribute [local irreducible] HH
def Wj(M:ak)(c:Ctx):=by
 have h:=nM Za M c Uv (by kernel_rfl)
 conv at h=>arg 5;reduce
 delta PR RL nA fY mM gy nP iA lW fH gh fP nI pU ng rW qZ Uv at h
 simp only[yI,xJ,yD,xX,Int.reduceOfNat,Int.reduceNegSucc]at h;exact h
def RS(M:ak)(c:Ctx):=(Wj M c).2.1
def qt5:=@Xy M _ jp [.tmp 4] [a0,a1] (by kernel_rfl) H Q
def yQ(M:ak)(c:Ctx):=(Wj M c).2.2.1
def xaa:=@Xy M _ qxa [.tmp 2,.tmp 3,.tmp 4,.tmp 5,.tmp 6,.tmp 7] [a0] (by kernel_rfl) H Q
def xN(M:ak)(c:Ctx):=(Wj M c).2.2.2
def xab:=@Xy M _ ZX [.tmp 6] [a0,a1,a2] (by kernel_rfl) H Q
end
end Go.Am
