import Derived.Test.YtpnpgihabgglcaaGreatDoorAmBZd
import Derived.Test.YtpnpgihabgglcaaGreatDoorAmBZa
import Derived.KernelRfl
import Derived.Test.YtpnpgihabgglcaaGreatDoorRows
set_option linter.unusedVariables false
set_option linter.unusedSimpArgs false
set_option linter.defProp false
set_option maxRecDepth 100000
set_option maxHeartbeats 1000000
namespace Go.Am
noncomputable section
def PR:Type:=Prop
abbrev WR:=Bool->aF->Env->List aM->ar->PR
abbrev KQ:=Bool->Env->Env->ar->PR
def Ff(m:Bool)(o:Option (bH×(Nat->AV)))(H:ar)(K:Bool->AV->ar->Prop):Prop:=iW m o λ g o mk=>K g (mk H.au) (H.alloc o)
def mW{α:Type}:Bool->Option α->(Bool -> α->PR)->PR:=@B3 α
def fV{α β:Type}:Bool->Option (α×β)->(Bool -> α -> β->PR)->PR:=@iW α β
def fI:Bool->AV->(Bool->PR)->(Bool->PR)->PR:=mG
def gj:Bool->Bool->(Bool->PR)->(Bool->PR)->PR:=vR
def ir:Bool->Option AV->Option AV->(Bool->PR)->PR:=LV
def fX:Bool->Option (bH×(Nat->AV))->ar->(Bool->AV->ar->PR)->PR:=Ff
def nY:ak->Bool->lK->List AV->ar->(Bool->AV->ar->PR)->PR:=C3
def wE:ak->Bool->(aE->ar->PR)->lK->List AV->ar->(Bool->AV->ar->PR)->PR:=P3
def pV:Bool->List AV->(Bool->lK->List AV->PR)->PR:=V3
def uD:ak->Bool->String->List AV->(Bool->lK->List AV->PR)->PR:=N3
def uT:Option (List Nat)->List Nat->aF->Env->List aM->aE->ar->PR:=PX
def wJ:List AV->ar->(aE->ar->PR)->PR:=fZ
def fN{α:Type}:(α->PR) -> α->PR:=@JN α
def lW:Bool->aF->aU->Env->List aM->ar->PR:=qX
def nK{α:Type}:Bool->Option α->(Bool -> α->PR)->PR:=@LK α
def rW:ak->Ctx->Kp×ai->WR:=W
def qU:WR->aF->Env->List aM->ar->PR:=dg
def sD:ak->List Nat->Ctx->Nat->Env->List aM->ar->aF->AV->PR:=jC
def ng:WR->aF->aF:=eG
def rp:PR:=False
def mP:Env->Nat->Option AV:=lk
section
variable(M:ak)
def W5(E L R:Env)(t:Nat)(g:Bool)(K:Bool->Env->AV->PR):PR :=
 Option.rec (motive:=λ _=>PR) (Option.rec (motive:=λ _=>PR) (nK g (mP E t) λ g v=>K g ((t,v)::R) v) (λ v=>K g R v) (lk R t)) (λ v=>K g R v) (lk L t)
def tEV(E L:Env)(l:List bI):Bool->Env->(Bool->Env->List AV->PR)->PR:=List.rec (motive:=λ _=>Bool->Env->(Bool->Env->List AV->PR)->PR) (λ g R K=>K g R [])
 (λ x _ ih g R K=>bI.casesOn x (λ t=>W5 E L R t g λ g R v=>ih g R λ g R vs=>K g R (v::vs)) (λ v=>ih g R λ g R vs=>K g R (v::vs)) (λ b=>ih g R λ g R vs=>K g R (.ptr b 0::vs)) (λ f=>ih g R λ g R vs=>K g R (.fn (.func f) [] []::vs))) l
def Wa(cR:Bool)(ps:Option (List Nat))(L:Env)(Q:aF)(E:Env)(D:List aM)(g:Bool)(f:lK)(vs:List AV)(H:ar)(K:Bool->AV->ar->PR):PR :=
 cond cR (wE M g (uT ps (kV L) Q E D) f vs H K) (nY M g f vs H K)
def tOP(cR:Bool)(dst:Option Nat)(ps:Option (List Nat))(Q:aF)(E:Env)(D:List aM)(L R:Env)(H:ar)(K:KQ)(g:Bool)(vs:List AV):fE->PR
 | .pure f=>mW g (f vs) λ g v=>K g (lA dst v L) R H
 | .read f=>mW g (f vs H) λ g v=>K g (lA dst v L) R H
 | .alloc f=>fX g (f vs) H λ g v H=>K g (lA dst v L) R H
 | .gH f=>fV g (f vs H) λ g v H=>K g (lA dst v L) R H
 | .gV f=>Wa M cR ps L Q E D g (.func f) vs H (λ g v H=>K g (lA dst v L) R H)
 | .gT=>pV g vs λ g f vs=>Wa M cR ps L Q E D g f vs H (λ g v H=>K g (lA dst v L) R H)
 | .invoke name=>uD M g name vs λ g f vs=>Wa M cR ps L Q E D g f vs H (λ g v H=>K g (lA dst v L) R H)
 | .panic=>cond cR (wJ vs H (uT ps (kV L) Q E D)) rp
 |_=>rp
def tCK(dst:Option Nat)(E L R:Env)(H:ar)(K:KQ)(g:Bool)(vs:List AV):fE->PR
 | .read f=>match dst with
  |some d=>ir g (f vs H) (Option.rec (motive:=λ _=>Option AV) (mP E d) (λ v=>some v) (lk L d)) λ g=>K g L R H
  |none=>rp
 |_=>rp
def tST(cR:Bool)(s:aN)(Q:aF)(E:Env)(D:List aM)(K:KQ):KQ:=λ g L R H =>
 tEV E L s.args g R λ g R vs=>match s.gW with
  |false=>tOP M cR s.dst s.ct Q E D L R H K g vs s.op
  |true=>tCK s.dst E L R H K g vs s.op
def tSS(cR:Bool)(Q:aF)(E:Env)(D:List aM)(K:KQ)(l:List aN):KQ:=List.rec (motive:=λ _=>KQ) K (λ s _ ih=>tST M cR s Q E D ih) l
def rz(n:Nat):Type:=Nat.rec (motive:=λ _=>Type) (ar->PR) (λ _ T=>AV->T) n
def Xk:(n:Nat)->((Bool->rz n)->PR)->(Bool->rz n)->PR
 |0=>λ F K=>fN (α:=Bool->ar->PR) (λ k=>F k) K
 |1=>λ F K=>fN (α:=Bool->AV->ar->PR) (λ k=>F k) K
 |2=>λ F K=>fN (α:=Bool->AV->AV->ar->PR) (λ k=>F k) K
 |3=>λ F K=>fN (α:=Bool->AV->AV->AV->ar->PR) (λ k=>F k) K
 |4=>λ F K=>fN (α:=Bool->AV->AV->AV->AV->ar->PR) (λ k=>F k) K
 |5=>λ F K=>fN (α:=Bool->AV->AV->AV->AV->AV->ar->PR) (λ k=>F k) K
 |6=>λ F K=>fN (α:=Bool->AV->AV->AV->AV->AV->AV->ar->PR) (λ k=>F k) K
 |7=>λ F K=>fN (α:=Bool->AV->AV->AV->AV->AV->AV->AV->ar->PR) (λ k=>F k) K
 |8=>λ F K=>fN (α:=Bool->AV->AV->AV->AV->AV->AV->AV->AV->ar->PR) (λ k=>F k) K
 |9=>λ F K=>fN (α:=Bool->AV->AV->AV->AV->AV->AV->AV->AV->AV->ar->PR) (λ k=>F k) K
 |10=>λ F K=>fN (α:=Bool->AV->AV->AV->AV->AV->AV->AV->AV->AV->AV->ar->PR) (λ k=>F k) K
 |11=>λ F K=>fN (α:=Bool->AV->AV->AV->AV->AV->AV->AV->AV->AV->AV->AV->ar->PR) (λ k=>F k) K
 |12=>λ F K=>fN (α:=Bool->AV->AV->AV->AV->AV->AV->AV->AV->AV->AV->AV->AV->ar->PR) (λ k=>F k) K
 |13=>λ F K=>fN (α:=Bool->AV->AV->AV->AV->AV->AV->AV->AV->AV->AV->AV->AV->AV->ar->PR) (λ k=>F k) K
 |14=>λ F K=>fN (α:=Bool->AV->AV->AV->AV->AV->AV->AV->AV->AV->AV->AV->AV->AV->AV->ar->PR) (λ k=>F k) K
 |15=>λ F K=>fN (α:=Bool->AV->AV->AV->AV->AV->AV->AV->AV->AV->AV->AV->AV->AV->AV->AV->ar->PR) (λ k=>F k) K
 |16=>λ F K=>fN (α:=Bool->AV->AV->AV->AV->AV->AV->AV->AV->AV->AV->AV->AV->AV->AV->AV->AV->ar->PR) (λ k=>F k) K
 |17=>λ F K=>fN (α:=Bool->AV->AV->AV->AV->AV->AV->AV->AV->AV->AV->AV->AV->AV->AV->AV->AV->AV->ar->PR) (λ k=>F k) K
 |18=>λ F K=>fN (α:=Bool->AV->AV->AV->AV->AV->AV->AV->AV->AV->AV->AV->AV->AV->AV->AV->AV->AV->AV->ar->PR) (λ k=>F k) K
 |19=>λ F K=>fN (α:=Bool->AV->AV->AV->AV->AV->AV->AV->AV->AV->AV->AV->AV->AV->AV->AV->AV->AV->AV->AV->ar->PR) (λ k=>F k) K
 |20=>λ F K=>fN (α:=Bool->AV->AV->AV->AV->AV->AV->AV->AV->AV->AV->AV->AV->AV->AV->AV->AV->AV->AV->AV->AV->ar->PR) (λ k=>F k) K
 |21=>λ F K=>fN (α:=Bool->AV->AV->AV->AV->AV->AV->AV->AV->AV->AV->AV->AV->AV->AV->AV->AV->AV->AV->AV->AV->AV->ar->PR) (λ k=>F k) K
 |22=>λ F K=>fN (α:=Bool->AV->AV->AV->AV->AV->AV->AV->AV->AV->AV->AV->AV->AV->AV->AV->AV->AV->AV->AV->AV->AV->AV->ar->PR) (λ k=>F k) K
 |23=>λ F K=>fN (α:=Bool->AV->AV->AV->AV->AV->AV->AV->AV->AV->AV->AV->AV->AV->AV->AV->AV->AV->AV->AV->AV->AV->AV->AV->ar->PR) (λ k=>F k) K
 |24=>λ F K=>fN (α:=Bool->AV->AV->AV->AV->AV->AV->AV->AV->AV->AV->AV->AV->AV->AV->AV->AV->AV->AV->AV->AV->AV->AV->AV->AV->ar->PR) (λ k=>F k) K
 |25=>λ F K=>fN (α:=Bool->AV->AV->AV->AV->AV->AV->AV->AV->AV->AV->AV->AV->AV->AV->AV->AV->AV->AV->AV->AV->AV->AV->AV->AV->AV->ar->PR) (λ k=>F k) K
 |26=>λ F K=>fN (α:=Bool->AV->AV->AV->AV->AV->AV->AV->AV->AV->AV->AV->AV->AV->AV->AV->AV->AV->AV->AV->AV->AV->AV->AV->AV->AV->AV->ar->PR) (λ k=>F k) K
 |27=>λ F K=>fN (α:=Bool->AV->AV->AV->AV->AV->AV->AV->AV->AV->AV->AV->AV->AV->AV->AV->AV->AV->AV->AV->AV->AV->AV->AV->AV->AV->AV->AV->ar->PR) (λ k=>F k) K
 |28=>λ F K=>fN (α:=Bool->AV->AV->AV->AV->AV->AV->AV->AV->AV->AV->AV->AV->AV->AV->AV->AV->AV->AV->AV->AV->AV->AV->AV->AV->AV->AV->AV->AV->ar->PR) (λ k=>F k) K
 |_+29=>λ F K=>fN F K
def Jv:∀(n:Nat)(F:(Bool->rz n)->PR)(K:Bool->rz n),Xk n F K=fN F K:=λ n=>by
 unfold Xk;split<;>exact λ F K=>rfl
def TY(n:Nat):(List AV->ar->PR)->rz n:=Nat.rec (motive:=λ n=>(List AV->ar->PR)->rz n) (λ f=>f []) (λ _ ih f v=>ih λ l=>f (v::l)) n
def Ql(n:Nat):rz n->List AV->ar->PR:=Nat.rec (motive:=λ n=>rz n->List AV->ar->PR) (λ k _=>k) (λ _ ih k l=>List.casesOn (motive:=λ _=>ar->PR) l (λ _=>rp) λ v l=>ih (k v) l) n
def U6(cR:Bool)(Q:aF)(E:Env)(D:List aM)(x:EI)(K:KQ):KQ:=λ g L R H=>match x.1 with
 |none=>tSS M cR Q E D K x.2 g L R H
 |some q=>cond (uj q.1 x.2) (W5 E L R q.1 g λ g R v=>Xk (cP (bn x.2 []))
  (λ k=>mW g (cM q.2 (some v)) λ g w=>gj g w (λ g=>tSS M cR Q E D (λ g L _ H=>Ql (cP (bn x.2 [])) (k g) (qI (cP (bn x.2 [])) L) H) x.2 g L R H) (λ g=>Ql (cP (bn x.2 [])) (k g) (rH (cP (bn x.2 []))) H))
  (λ g=>TY (cP (bn x.2 [])) λ vs H=>K g (kJ (bn x.2 []) L vs) R H)) rp
def Qc(cR:Bool)(Q:aF)(E:Env)(D:List aM)(l:List aN)(g:Bool)(H:ar)(K:KQ):PR:=List.rec (motive:=λ _=>KQ) K (λ x _ ih=>U6 M cR Q E D x ih) (HG l) g [] [] H
def ZM(E:Env)(x:bI)(g:Bool)(K:Bool->AV->PR):PR:=match x with
 | .tmp t=>nK g (mP E t) K
 | .const v=>K g v
 | .d9 b=>K g (.ptr b 0)
 | .func f=>K g (.fn (.func f) [] [])
def tCV(E L R:Env)(x:bI)(g:Bool)(K:Bool->AV->PR):PR:=match x with
 | .tmp t=>W5 E L R t g λ g _ v=>K g v
 | .const v=>K g v
 | .d9 b=>K g (.ptr b 0)
 | .func f=>K g (.fn (.func f) [] [])
def tU(rg:Bool->aF->Env->List aM->List aN->Bool->ar->KQ->PR)(ctx:Ctx)(K:Kp)(X:Nat->WR):ai->Nat->WR
 | .skip,_,g,Q,E,D,H=>lW g Q .normal E D H
 | .label _,_,g,Q,E,D,H=>lW g Q .normal E D H
 | .exit id,_,g,Q,E,D,H=>lW g Q (.exit id) E D H
 | .goto l,_,g,Q,E,D,H=>lW g Q (.goto l) E D H
 | .ret,_,g,Q,E,D,H=>lW g Q .ret E D H
 | .stuck,_,_,_,_,_,_=>rp
 | .region l,_,g,Q,E,D,H=>rg K.cR Q E D l g H λ g L _ H=>lW g Q .normal (dy K.ah E L) D H
 | .seq a b,k,g,Q,E,D,H=>match a,b with
  | .region l,.cond c x y=>rg K.cR Q E D l g H λ g L R H=>tCV E L R c g λ g v=>fI g v (λ g=>(Bool.rec (motive:=λ _=>WR) (tU rg ctx K X x (k+3)) (X (k+3)) (bD (k+3) K.named)) g Q (dy K.ah E L) D H) (λ g=>(Bool.rec (motive:=λ _=>WR) (tU rg ctx K X y (k+3+dk x)) (X (k+3+dk x)) (bD (k+3+dk x) K.named)) g Q (dy K.ah E L) D H)
  | .region l,.seq (.cond c x y) r=>rg K.cR Q E D l g H λ g L R H=>tCV E L R c g λ g v=>fI g v (λ g=>(Bool.rec (motive:=λ _=>WR) (tU rg ctx K X x (k+4)) (X (k+4)) (bD (k+4) K.named)) g (ng (Bool.rec (motive:=λ _=>WR) (tU rg ctx K X r (k+4+dk x+dk y)) (X (k+4+dk x+dk y)) (bD (k+4+dk x+dk y) K.named)) Q) (dy K.ah E L) D H)
   (λ g=>(Bool.rec (motive:=λ _=>WR) (tU rg ctx K X y (k+4+dk x)) (X (k+4+dk x)) (bD (k+4+dk x) K.named)) g (ng (Bool.rec (motive:=λ _=>WR) (tU rg ctx K X r (k+4+dk x+dk y)) (X (k+4+dk x+dk y)) (bD (k+4+dk x+dk y) K.named)) Q) (dy K.ah E L) D H)
  | .region l,b=>rg K.cR Q E D l g H λ g L _ H=>(Bool.rec (motive:=λ _=>WR) (tU rg ctx K X b (k+2)) (X (k+2)) (bD (k+2) K.named)) g Q (dy K.ah E L) D H
  |a,b=>(Bool.rec (motive:=λ _=>WR) (tU rg ctx K X a (k+1)) (X (k+1)) (bD (k+1) K.named)) g (ng (Bool.rec (motive:=λ _=>WR) (tU rg ctx K X b (k+1+dk a)) (X (k+1+dk a)) (bD (k+1+dk a) K.named)) Q) E D H
 | .cond c x y,k,g,Q,E,D,H=>ZM E c g λ g v=>fI g v (λ g=>(Bool.rec (motive:=λ _=>WR) (tU rg ctx K X x (k+1)) (X (k+1)) (bD (k+1) K.named)) g Q E D H) (λ g=>(Bool.rec (motive:=λ _=>WR) (tU rg ctx K X y (k+1+dk x)) (X (k+1+dk x)) (bD (k+1+dk x) K.named)) g Q E D H)
 | .block id b,k,g,Q,E,D,H=>(Bool.rec (motive:=λ _=>WR) (tU rg ctx K X b (k+1)) (X (k+1)) (bD (k+1) K.named)) g (eB id Q) E D H
 | .scope b,k,g,Q,E,D,H=>(Bool.rec (motive:=λ _=>WR) (tU rg ctx K X b (k+1)) (X (k+1)) (bD (k+1) K.named)) g (jN b Q) E D H
 | .loop (some _) _,_,_,_,_,_,_=>rp
 | .loop none b,k,g,Q,E,D,H=>qU (Bool.rec (motive:=λ _=>WR) (tU rg ctx K X b (k+1)) (X (k+1)) (bD (k+1) K.named)) Q E D H
 | .rangeFunc f n,_,g,Q,E,D,H=>ZM E f g λ g v=>sD M K.ah ctx n E D H Q v
end
def LF(M:ak):U6 M=Qm M:=by
 funext cR Q E D ⟨o,l⟩ K g L R H;cases o with
 |none=>kernel_rfl
 |some q =>
  unfold U6;simp only[Jv]
  kernel_rfl
def LL(M:ak):Qc M=qE M:=by
 funext cR Q E D l g H K;unfold Qc qE wZ;rw[LF];rfl
def Jy(M:ak)(c:Ctx)(K:Kp)(X:Nat->WX):tU M (qE M) c K X=U M c K X:=by kernel_rfl
def PF(M:ak)(c:Ctx)(K:Kp)(X:Nat->WX):tU M (Qc M) c K X=U M c K X:=by rw[LL];exact Jy M c K X
abbrev Hs:=List (Nat×List Nat)
def Tr(n:Nat)(l:Hs):Option (List Nat):=List.rec (motive:=λ _=>Option (List Nat)) none (λ p _ ih=>cond (Nat.beq p.1 n) (some p.2) ih) l
def CX(P:Program):Nat->TypeId->Option aQ
 |0,_=>none
 |d+1,t=>match P.underlying t with
  |some (.struct fs)=>dm.fieldsT P (CX P d) fs.toList
  |some (.array n e)=>(bQ P e).bind λ s=>(mX P e).bind λ a=>(CX P d e).bind λ q=>some (dm.itemsT s a q n 0)
  |_=>dm P 1 t
def RK(P:Program)(t:TypeId)(neg:Bool)(x y:Operand):Option (List bI×fE):=(CX P 20 t).bind λ q=>(nG P.globals.size [x,y]).bind λ l=>some (l,.read (Op.eq (.agg q) neg))
def Lx(P:Program)(o:Oper):Option (List bI×fE):=match o.op with
 | .binOp op t x y _=>match P.underlying t,op with
  |some (.struct _),.eql=>RK P t false x y
  |some (.struct _),.neq=>RK P t true x y
  |some (.array _ _),.eql=>RK P t false x y
  |some (.array _ _),.neq=>RK P t true x y
  |_,_=>fU P o
 |_=>fU P o
def OO(P:Program)(ops:Array Oper)(draw:Bool)(h:Option (List Nat)):Option ai :=
 (de (ops.toList.map (Lx P))).bind λ l =>
  (de ((Option.rec (motive:=λ _=>List (Bool×Nat)) ((List.range ops.size).map λ i=>(false,i)) (λ l=>l.map λ x=>(Nat.beq (x % 2) 1,x / 2)) h).map (iV ops l λ i=>Bool.rec (motive:=λ _=>Option (List Nat)) (some []) (Md ops (aT ops l) (mq (aT ops l).cls (aT ops l).fR ops.size (2*ops.size) 0 []) i) draw))).bind λ steps=>some (.region steps)
def iM(P:Program)(hs:Hs):Nat->Code->Option (ai×List dZ)
 |_,.skip=>some (.skip,[])
 |_,.region r ops draw=>(OO P ops draw (Bool.rec none (Tr r hs) draw)).bind λ c=>some (c,[])
 |k,.seq a b=>(iM P hs k a).bind λ a=>(iM P hs (k+a.2.length) b).bind λ b=>some (.seq a.1 b.1,a.2++b.2)
 |k,.cond c a b=>(qT P.globals.size c).bind λ c=>(iM P hs k a).bind λ a=>(iM P hs (k+a.2.length) b).bind λ b=>some (.cond c a.1 b.1,a.2++b.2)
 |k,.block id b=>(iM P hs k b).bind λ b=>some (.block id b.1,b.2)
 |k,.loop b=>(iM P hs k b).bind λ b=>some (.loop none b.1,b.2)
 |k,.rangeFunc f ps a b=>(qT P.globals.size f).bind λ f=>(iM P hs (k+1) a).bind λ a=>(iM P hs (k+1+a.2.length) b).bind λ b=>some (.rangeFunc f k,{params:=ps.toList,assign:=a.1,body:=b.1}::(a.2++b.2))
 |_,.exit id=>some (.exit id,[])
 |k,.scope b=>(iM P hs k b).bind λ b=>some (.scope b.1,b.2)
 |_,.label l=>some (.label l,[])
 |_,.goto l=>some (.goto l,[])
 |_,.ret=>some (.ret,[])
 |_,.refuse _=>some (.stuck,[])
def BK(n:Nat)(b:ai)(l:List dZ):ai:=Bool.rec (motive:=λ _=>ai)
 (Bool.rec (motive:=λ _=>ai) (Bool.rec (motive:=λ _=>ai)
 (Option.rec (motive:=λ _=>ai) .stuck (λ q=>Bool.rec (motive:=λ _=>ai) q.body q.assign (Nat.beq (n / 100000 % 2) 1)) (nth l (n / 100000 / 2-1))) (xW b) (Nat.beq (n / 100000) 1)) (vP b) (Nat.beq (n / 100000) 99)) b (Nat.ble n 99999)
def aY(P:Program)(n:Nat):ai:=BK n (funcAt P (n % 100000)).body (funcAt P (n % 100000)).loops
def IA(P:Program)(hs:Hs)(n:Nat):ai:=Option.rec (motive:=λ _=>ai) .stuck (λ f=>Option.rec (motive:=λ _=>ai) .stuck (λ b=>Option.rec (motive:=λ _=>ai) .stuck (λ c=>BK n c.1 c.2) (iM P hs 0 b)) f.body) (P.funcs[n % 100000]?)
abbrev RL:=List (aF->Env->List aM->ar->PR)
abbrev QL:=List (aF->Env->List aM->ar->Prop)
def tL(M:ak)(c:Ctx)(p:Nat->Kp×ai):List Nat->QL->Prop
 |k::ks,R::l=>(∀Q E D H,W M c (p k) true Q E D H=R Q E D H)/\tL M c p ks l
 |_,_=>True
def yB(M:ak)(c:Ctx)(p:Nat->Kp×ai)(k a:Nat)(ks:List Nat)(R:aF->Env->List aM->ar->Prop)(l:QL):tL M c p (k::a::ks) (R::l)=((∀Q E D H,W M c (p k) true Q E D H=R Q E D H)/\tL M c p (a::ks) l):=rfl
def xN(M:ak)(c:Ctx)(p:Nat->Kp×ai)(k:Nat)(R:aF->Env->List aM->ar->Prop):tL M c p [k] [R] = ∀Q E D H,W M c (p k) true Q E D H=R Q E D H:=propext ⟨λ h=>h.1,λ h=>⟨h,trivial⟩⟩
def tW(M:ak)(c:Ctx)(K:Kp)(p:Nat->Kp×ai)(r:ai)(ks:List Nat):RL :=
 List.rec (motive:=λ _=>RL) [] (λ k _ ih=>(λ Q E D H=>tU M (Qc M) c K (λ j=>rW M c (p j)) (part r k) k true Q E D H)::ih) ks
def Nt{P:Program}{p:Nat->Nat->Kp×ai}{a:Nat->Kp}(hp:∀n k,p n k=(a n,part (aY P n) k))(M:ak)(c:Ctx)(n:Nat):∀ks:List Nat,tL M c (p n) ks (tW M c (a n) (p n) (aY P n) ks)
 |[]=>trivial
 |k::ks=>⟨λ Q E D H=>by
  have e:(λ j=>W M c (p n j))=λ j=>W M c (a n,part (aY P n) j):=funext λ j=>by rw[hp]
  show _=tU M (Qc M) c (a n) (λ j=>W M c (p n j)) (part (aY P n) k) k true Q E D H;rw[hp n k,e,PF];exact Du rfl,Nt hp M c n ks⟩
def BE(o:bH)(mk:Nat->AV)(H:ar)(K:Bool->AV->ar->Prop):Ff true (some (o,mk)) H K=K true (mk H.au) (H.alloc o):=propext j5
def xhw(e:Nat)(z:List AV)(H:ar)(K:Bool->AV->ar->Prop):Ff true (Op.alloc e z []) H K=K true (.ptr H.au 0) (H.alloc (.row z e (0,0) true)):=propext j5
def GV(e:Nat)(v:AV)(H:ar)(K:Bool->AV->ar->Prop):Ff true (Op.box e [v]) H K=K true (.ptr H.au 0) (H.alloc (.row v.cells e (0,0) true)):=propext j5
@[congr]def L9{m a:Bool}{o o':Option (bH×(Nat->AV))}{H H':ar}{K:Bool->AV->ar->Prop}(hm:m=a)(h:o=o')(b:H=H'):Ff m o H K=Ff a o' H' K:=by subst hm;subst h;subst b;rfl
abbrev th:=List (Nat×Kp×Hs)
def jF(n:Nat)(l:th):Kp:=List.rec (motive:=λ _=>Kp) ⟨[],false,[]⟩ (λ p _ ih=>cond (Nat.beq p.1 n) p.2.1 ih) l
def Ec(M:ak)(c:Ctx)(p:Nat->Nat->Kp×ai):th->List QL->Prop
 |x::r,l::ls=>tL M c (p x.1) x.2.1.named l/\Ec M c p r ls
 |_,_=>True
def yP(M:ak)(c:Ctx)(p:Nat->Nat->Kp×ai)(n:Nat)(ks a:List Nat)(b:Bool)(hs:Hs)(y:Nat×Kp×Hs)(r:th)(l:QL)(ls:List QL):Ec M c p ((n,⟨a,b,ks⟩,hs)::y::r) (l::ls)=(tL M c (p n) ks l/\Ec M c p (y::r) ls):=rfl
def yA(M:ak)(c:Ctx)(p:Nat->Nat->Kp×ai)(n:Nat)(ks a:List Nat)(b:Bool)(hs:Hs)(l:QL):Ec M c p [(n,⟨a,b,ks⟩,hs)] [l]=tL M c (p n) ks l:=propext ⟨λ h=>h.1,λ h=>⟨h,trivial⟩⟩
def tF(M:ak)(c:Ctx)(Kt:Nat->Kp)(p:Nat->Nat->Kp×ai)(r:Nat->Hs->ai)(l:th):List RL:=List.rec (motive:=λ _=>List RL) [] (λ x _ ih=>tW M c (Kt x.1) (p x.1) (r x.1 x.2.2) x.2.1.named::ih) l
def nV{P:Program}{p:Nat->Nat->Kp×ai}{a:Nat->Kp}(hp:∀n k,p n k=(a n,part (aY P n) k))(M:ak)(c:Ctx)(l:th)(e:tF M c a p (λ n _=>aY P n) l=tF M c a p (λ n h=>IA P h n) l):Ec M c p l (tF M c a p (λ n h=>IA P h n) l):=by
 rw[<-e];clear e
 induction l with
 |nil=>trivial
 |cons x l ih=>exact⟨Nt hp M c x.1 _,ih⟩
def Xx:dX->dX->Bool
 | .tmp a,.tmp b=>Nat.beq a b
 | .kD a,.kD b=>Nat.beq a b
 | .cw a b,.cw c d=>cond (Nat.beq a c) (Nat.beq b d) false
 |_,_=>false
def NQ{a b:dX}(h:Xx a b=true):a=b:=by
 cases a with
 |tmp a=>cases b with
  |tmp b=>rw[wq h]
  |_=>cases h
 |kD a=>cases b with
  |kD b=>rw[wq h]
  |_=>cases h
 |cw a x=>cases b with
  |cw b y =>
   have h:cond (Nat.beq a b) (Nat.beq x y) false=true:=h;cases q:Nat.beq a b with
   |true=>rw[q]at h;rw[wq q,wq h]
   |false=>rw[q]at h;cases h
  |_=>cases h
def Gx:List dX->List dX->Bool
 |[],[]=>true
 |a::x,b::y=>cond (Xx a b) (Gx x y) false
 |_,_=>false
def zR:∀{a b:List dX},Gx a b=true->a=b
 |[],[],_=>rfl
 |a::x,b::y,h=>by
  unfold Gx at h;cases q:Xx a b with
  |true=>rw[q]at h;rw[NQ q,zR h]
  |false=>rw[q]at h;cases h
def Ub(P:Program)(tn:List Nat)(K:Kp)(n:Nat)(rs:List dX)(k:Nat):Bool:=cond (Nat.ble n 99999) (cond (bD n tn) false (cond (jJ 0 k K.ah) (Option.rec (motive:=λ _=>Bool) false (λ F=>Gx F.results rs) ((aV P).func n)) false)) false
def Qk{P:Program}{c:List Nat}{K:Kp}{n:Nat}{rs:List dX}{k:Nat}(h:Ub P c K n rs k=true):Nat.ble n 99999=true/\bD n c=false/\jJ 0 k K.ah=true/\(aV P).func n=some (funcAt P n)/\(funcAt P n).results=rs:=by
 unfold Ub at h;cases a:Nat.ble n 99999 with
 |false=>rw[a]at h;cases h
 |true =>
 cases b:bD n c with
 |true=>rw[a,b]at h;cases h
 |false =>
 cases d:jJ 0 k K.ah with
 |false=>rw[a,b,d]at h;cases h
 |true =>
 rw[a,b,d]at h;unfold funcAt;cases f:(aV P).func n with
 |none=>rw[f]at h;cases h
 |some F=>rw[f]at h;exact⟨rfl,rfl,rfl,rfl,zR h⟩
def BP{P:Program}{n:Nat}(h:Nat.ble n 99999=true):aY P n=(funcAt P n).body:=by
 unfold aY BK;rw[h,Nat.mod_eq_of_lt (Nat.lt_of_le_of_lt (Nat.le_of_ble_eq_true h) (by decide))]
def KJ(i:Nat)(v:AV)(vs:List AV):jO i (v::vs)=(i,v)::jO (i+1) vs:=rfl
def JT(i:Nat):jO i []=[]:=rfl
def aa:type_of% Qu/\(∀(o:bH)mk H K,Ff true (some (o,mk)) H K=K true (mk H.au) (H.alloc o))/\(∀e z H K,Ff true (Op.alloc e z []) H K=K true (.ptr H.au 0) (H.alloc (.row z e (0,0) true)))/\(∀e v H K,Ff true (Op.box e [v]) H K=K true (.ptr H.au 0) (H.alloc (.row v.cells e (0,0) true)))/\(∀i v vs,jO i (v::vs)=(i,v)::jO (i+1) vs)/\(∀i,jO i []=[])/\(∀{α:Type}(F:α->Prop)(K:α),JN F K=F K):=⟨Qu,BE,xhw,GV,KJ,JT,Ie⟩
def P1{M:ak}{P:Program}{p:Nat->Nat->Kp×ai}{a:Nat->Kp}(hp:∀n k,p n k=(a n,part (aY P n) k)){n:Nat}{F:b9}(d:M.func n=some F){rs:List dX}(hr:F.results=rs){x y t:Nat}(c:rG F.body=some (xW F.body,t,vP F.body))(e:aY P x=xW F.body)(f:aY P y=vP F.body)(hk:(a x).ah=(a y).ah){vs:List AV}(b:jJ 0 vs.length (a x).ah=true){H:ar}{Q:bG->ar->Prop}
 (h:W M ⟨none,n⟩ (p x 0) true (Aj M ⟨none,n⟩ (p y 0) t (eY M rs Q)) (jO 0 vs) [] H):ET M n vs H Q:=by
 rw[hp,hp,e,f,<-hr]at h;exact Ga d hk c b h
def Gr{M:ak}{P:Program}{p:Nat->Nat->Kp×ai}{a:Nat->Kp}(hp:∀n k,p n k=(a n,part (aY P n) k)){n:Nat}{F:b9}(c:M.func n=some F){rs:List dX}(hr:F.results=rs)(d:aY P n=F.body){vs:List AV}(b:jJ 0 vs.length (a n).ah=true){up:Option aE}{H:ar}{Q:bG->ar->Prop}
 (h:W M ⟨none,n⟩ (p n 0) true (eY M rs Q) (jO 0 vs) [] H):∃e H',i6 M n vs up H e up H'/\Q e H':=by
 rw[hp,d,<-hr]at h;exact GU c b h
abbrev M7:Nat:=158
abbrev Tw:Nat:=88
abbrev Nn:Nat:=128
abbrev VF:Nat:=86
abbrev Mw:Nat:=127
abbrev Ua:Nat:=83
abbrev Vg:Nat:=247
abbrev T3:Nat:=91
abbrev Xp:Nat:=246
abbrev VG:Nat:=245
abbrev Mh:Nat:=123
abbrev ZV:Nat:=157
abbrev JO:Nat:=180
abbrev UP:Nat:=125
abbrev ML:Nat:=155
abbrev qrj:Nat:=153
abbrev Jl:Nat:=179
abbrev qrk:Nat:=156
abbrev Wf:Nat:=61
abbrev q7i:Nat:=5
abbrev xl:Nat:=205
abbrev yf:Nat:=99
abbrev cN:Nat:=3
abbrev W7:Nat:=221
abbrev ku:Nat:=251
abbrev C5:Nat:=172
open Go.Proofs Go.Proofs.YtpnpgihabgglcaaGreatDoor
class MK (M:ak):Prop where
 ok:∀n,bD n [5]=false->M.func n=(aV Tryz.prog).func n
 mt:∀t s,M.jL t s=(aV Tryz.prog).jL t s
def MK.at{M:ak}[h:MK M]{n:Nat}{F:b9}(hn:bD n [5]=false)(a:(aV Tryz.prog).func n=some F):M.func n=some F:=(h.ok n hn).trans a
def DK{M:ak}[h:MK M]{n:Nat}{F:b9}(hn:bD n [5]=false){rs:List dX}(a:(aV Tryz.prog).func n=some F/\F.results=rs){ks:Kp}{vs:List AV}(hk:jJ 0 vs.length ks.ah=true){H:ar}{Q:bG->ar->Prop}(hw:W M ⟨none,n⟩ (ks,part F.body 0) true (eY M rs Q) (jO 0 vs) [] H):ET M n vs H Q:=NH (MK.at hn a.1) hk (a.2▸hw)
def jY{M:ak}[MK M]{p:Nat->Nat->Kp×ai}{a:Nat->Kp}(hp:∀n k,p n k=(a n,part (aY Tryz.prog n) k))(n:Nat)(rs:List dX)(vs:List AV)(b:Ub Tryz.prog [5] (a n) n rs vs.length=true)(H:ar)(Q:bG->ar->Prop)(h:W M ⟨none,n⟩ (p n 0) true (eY M rs Q) (jO 0 vs) [] H):ET M n vs H Q:=by
 obtain⟨b,c,d,e⟩:=Qk b;exact DK c e (ks:=a n) d (by rw[hp,BP b]at h;exact h)
variable{M:ak}[MK M]{H:ar}{Q:bG->ar->Prop}{a0 a1 a2 a3:AV}
abbrev UD:th:=[(61,⟨[0,1,4,5],false,[0,2,10]⟩,[]),(158,⟨[0,2,3,7,8],false,[0,2,10,15]⟩,[]),(300158,⟨[0,2,3,7,8],false,[0]⟩,[]),(200158,⟨[0,2,3,7,8],false,[0]⟩,[]),(128,⟨[0,2,3,7,8],false,[0,2,10,15]⟩,[]),(300128,⟨[0,2,3,7,8],false,[0]⟩,[]),(200128,⟨[0,2,3,7,8],false,[0]⟩,[]),(247,⟨[0,1,2,6,7,8,9,10],false,[0,2,18,8,20,14,26]⟩,[]),(246,⟨[0,1,2,6,7,8],false,[0,2,10,12,20]⟩,[]),(83,⟨[0,1,4,5,6,21],false,[0,4,12]⟩,[]),(245,⟨[0,1,4,5,6,7],false,[0,2,10,12,20]⟩,[]),(86,⟨[0,1,4,5,6,7,8,21],false,[0,4,12]⟩,[]),(88,⟨[0,1,4,5,6,7,8],false,[0,4,12]⟩,[]),(91,⟨[0,1,2,5,6,7,8],false,[0,4,10]⟩,[(3,[0,2,4,6,8,10,5,12,14,16])]),(127,⟨[0,1,2,3,7,8,9,10,11,12,21],false,[0,2,23,16,25,33]⟩,[(13,[0,2,4,6,8,5,10,12])]),(157,⟨[0,1,2],false,[0]⟩,[]),(125,⟨[0,1,2,6,7,8],false,[0,2,10,12,20]⟩,[]),(156,⟨[0,1],false,[0]⟩,[]),(123,⟨[0,1,3,4,5,8,9],false,[0,2,7]⟩,[]),(300123,⟨[0,1,3,4,5,8,9],false,[0]⟩,[]),(200123,⟨[0,1,3,4,5,8,9],false,[0]⟩,[]),(155,⟨[0,1,4,5,6,9,10],false,[0,2,3,5,7,12]⟩,[]),(300155,⟨[0,1,4,5,6,9,10],false,[0]⟩,[]),(200155,⟨[0,1,4,5,6,9,10],false,[0,9,15]⟩,[]),(180,⟨[0,1,3,10,11],false,[0,1,7,9,13,19,34,23,29]⟩,[]),(153,⟨[0,1,2,3,4],false,[0]⟩,[]),(179,⟨[0,1,2,4,5,26,27],false,[0,6,12,18,27]⟩,[])]
def Yd(n:Nat):Kp:=jF n UD
def yX(n k:Nat):Kp×ai:=(Yd n,part (aY Tryz.prog n) k)
def q1f(n k:Nat):yX n k=(Yd n,part (aY Tryz.prog n) k):=rfl
def sR:=@jY M _ yX Yd q1f
attribute [local irreducible] PR yX mW fV fI gj ir fX nY wE pV uD uT wJ fN lW nK rW qU sD ng rp mP eB jN cM AV.undef Op.move Op.pick Op.build Op.nilCheck Op.bin Op.eq Op.un Op.wrap Op.dD Op.eJ Op.dp Op.bC Op.dB Op.aL Op.cG Op.fieldAddr Op.field Op.aO Op.aP Op.bA Op.bK Op.typeAssert Op.extract Op.fg Op.db Op.nQ Op.cap Op.gf Op.cX Op.dG Op.aD Op.bP Op.ae Op.aq Op.cq Op.lookup Op.fY Op.eC Op.alloc Op.box Op.buildSlice Op.mkMap Op.mkSlice Op.cm Op.dE Op.makeNoZero Op.store Op.mapUpdate Op.cY Op.eD Op.append Op.copy Op.bR Op.bO Op.eF Op.dC
def jq(M:ak)(c:Ctx):=by
 have h:=nV q1f M c UD (by kernel_rfl)
 conv at h=>arg 5;reduce
 delta PR RL mP fX mW fV nY ir lW fI gj fN nK qU sD ng pV rW rz UD at h
 simp only[yP,yA,yB,xN,Int.reduceOfNat,Int.reduceNegSucc]at h;exact h
def bf(M:ak)(c:Ctx):=(jq M c).2.2.2.2.2.2.2.2
def bo(M:ak)(c:Ctx):=(bf M c).2.2.2.2.2.2.2.2
def cb(M:ak)(c:Ctx):=(bo M c).2.2.2.2.2.2.2.2
def Ef(M:ak)(c:Ctx):=(jq M c).1
def AR:=@sR M _ Wf [.tmp 4,.tmp 5] [a0,a1] (by kernel_rfl) H Q
def SJ:b9:=funcAt Tryz.prog M7
def Pu:dZ:=jM SJ 0
abbrev Xf(k:Nat):Kp×ai:=yX 300158 k
abbrev U5(k:Nat):Kp×ai:=yX 200158 k
def Yv:nth SJ.loops 0=some Pu/\Pu.params=[8]:=⟨by kernel_rfl,by kernel_rfl⟩
def qsk:(Xf 0).1.ah=[0,2,3,7,8]/\(Xf 0).2=Pu.assign:=⟨by kernel_rfl,by kernel_rfl⟩
def qsl:(U5 0).1.ah=[0,2,3,7,8]/\(U5 0).2=Pu.body:=⟨by kernel_rfl,by kernel_rfl⟩
def qua:M.func M7=some SJ:=MK.at (by decide) (by kernel_rfl)
def Yy(M:ak)(c:Ctx):=And.intro (jq M c).2.1.1 (And.intro (jq M c).2.2.1 (And.intro (jq M c).2.2.2.1 (And.intro (jq M c).2.1.2.1 (And.intro (jq M c).2.1.2.2.1 ((jq M c).2.1.2.2.2)))))
def qv6:=@sR M _ M7 [.tmp 2] [a0] (by kernel_rfl) H Q
def Sv:b9:=funcAt Tryz.prog Nn
def NJ:dZ:=jM Sv 0
abbrev TU(k:Nat):Kp×ai:=yX 300128 k
abbrev UO(k:Nat):Kp×ai:=yX 200128 k
def YB:nth Sv.loops 0=some NJ/\NJ.params=[8]:=⟨by kernel_rfl,by kernel_rfl⟩
def qq4:(TU 0).1.ah=[0,2,3,7,8]/\(TU 0).2=NJ.assign:=⟨by kernel_rfl,by kernel_rfl⟩
def qq5:(UO 0).1.ah=[0,2,3,7,8]/\(UO 0).2=NJ.body:=⟨by kernel_rfl,by kernel_rfl⟩
def qsm:M.func Nn=some Sv:=MK.at (by decide) (by kernel_rfl)
def Y1(M:ak)(c:Ctx):=And.intro (jq M c).2.2.2.2.1.1 (And.intro (jq M c).2.2.2.2.2.1 (And.intro (jq M c).2.2.2.2.2.2.1 (And.intro (jq M c).2.2.2.2.1.2.1 (And.intro (jq M c).2.2.2.2.1.2.2.1 ((jq M c).2.2.2.2.1.2.2.2)))))
def qub:=@sR M _ Nn [.tmp 2] [a0] (by kernel_rfl) H Q
def q3j(M:ak)(c:Ctx):=(jq M c).2.2.2.2.2.2.2.1
def q3i:=@sR M _ Vg [.tmp 6] [a0,a1,a2] (by kernel_rfl) H Q
def q5m(M:ak)(c:Ctx):=(bf M c).1
def q5l:=@sR M _ Xp [.tmp 6] [a0,a1,a2] (by kernel_rfl) H Q
def q3h(M:ak)(c:Ctx):=(bf M c).2.1
def q3g:=@sR M _ Ua [.cw 21 4,.tmp 5] [a0,a1] (by kernel_rfl) H Q
def q3l(M:ak)(c:Ctx):=(bf M c).2.2.1
def q3k:=@sR M _ VG [.tmp 4,.tmp 5] [a0,a1] (by kernel_rfl) H Q
def q3d(M:ak)(c:Ctx):=(bf M c).2.2.2.1
def q3c:=@sR M _ VF [.cw 21 4,.tmp 5] [a0,a1] (by kernel_rfl) H Q
def qv8(M:ak)(c:Ctx):=(bf M c).2.2.2.2.1
def qv7:=@sR M _ Tw [.cw 8 4,.tmp 5] [a0,a1] (by kernel_rfl) H Q
def qud(M:ak)(c:Ctx):=(bf M c).2.2.2.2.2.1
def quc:=@sR M _ T3 [.tmp 6] [a0,a1,a2] (by kernel_rfl) H Q
abbrev ZT(k:Nat):Kp×ai:=yX Mw k
def q3f(M:ak)(c:Ctx):=(bf M c).2.2.2.2.2.2.1
def q3e:=@sR M _ Mw [.cw 21 8,.tmp 9,.tmp 10] [a0,a1,a2,a3] (by kernel_rfl) H Q
def q3p(M:ak)(c:Ctx):=(bf M c).2.2.2.2.2.2.2.1
def q3o:=@sR M _ ZV [.tmp 2] [a0] (by kernel_rfl) H Q
def q8d(M:ak)(c:Ctx):=(bo M c).1
def q8c:=@sR M _ UP [.tmp 6,.tmp 7] [a0,a1,a2] (by kernel_rfl) H Q
def q5r(M:ak)(c:Ctx):=(bo M c).2.1
def q5q:=@sR M _ qrk [] [a0,a1] (by kernel_rfl) H Q
def S3:b9:=funcAt Tryz.prog Mh
def Pv:dZ:=jM S3 0
abbrev Ts(k:Nat):Kp×ai:=yX 300123 k
abbrev XD(k:Nat):Kp×ai:=yX 200123 k
def Zt:nth S3.loops 0=some Pv/\Pv.params=[9]:=⟨by kernel_rfl,by kernel_rfl⟩
def q3m:(Ts 0).1.ah=[0,1,3,4,5,8,9]/\(Ts 0).2=Pv.assign:=⟨by kernel_rfl,by kernel_rfl⟩
def q3n:(XD 0).1.ah=[0,1,3,4,5,8,9]/\(XD 0).2=Pv.body:=⟨by kernel_rfl,by kernel_rfl⟩
def q5n:M.func Mh=some S3:=MK.at (by decide) (by kernel_rfl)
def vo(M:ak)(c:Ctx):=And.intro (bo M c).2.2.1.1 (And.intro (bo M c).2.2.2.1 (And.intro (bo M c).2.2.2.2.1 (And.intro (bo M c).2.2.1.2.1 ((bo M c).2.2.1.2.2))))
def q8b:=@sR M _ Mh [.kD 4] [a0,a1] (by kernel_rfl) H Q
def RJ:b9:=funcAt Tryz.prog ML
def PE:dZ:=jM RJ 0
abbrev Wn(k:Nat):Kp×ai:=yX 300155 k
abbrev Xa(k:Nat):Kp×ai:=yX 200155 k
def Zm:nth RJ.loops 0=some PE/\PE.params=[10]:=⟨by kernel_rfl,by kernel_rfl⟩
def qwb:(Wn 0).1.ah=[0,1,4,5,6,9,10]/\(Wn 0).2=PE.assign:=⟨by kernel_rfl,by kernel_rfl⟩
def qwc:(Xa 0).1.ah=[0,1,4,5,6,9,10]/\(Xa 0).2=PE.body:=⟨by kernel_rfl,by kernel_rfl⟩
def qyt:M.func ML=some RJ:=MK.at (by decide) (by kernel_rfl)
def Zc(M:ak)(c:Ctx):=And.intro (bo M c).2.2.2.2.2.1.1 (And.intro (bo M c).2.2.2.2.2.2.1 (And.intro (bo M c).2.2.2.2.2.2.2.1.1 (And.intro (bo M c).2.2.2.2.2.1.2.1 (And.intro (bo M c).2.2.2.2.2.2.2.1.2.1 (And.intro (bo M c).2.2.2.2.2.1.2.2.1 (And.intro (bo M c).2.2.2.2.2.2.2.1.2.2 (And.intro (bo M c).2.2.2.2.2.1.2.2.2.1 (And.intro (bo M c).2.2.2.2.2.1.2.2.2.2.1 ((bo M c).2.2.2.2.2.1.2.2.2.2.2)))))))))
def q3q:=@sR M _ ML [.kD 4] [a0,a1] (by kernel_rfl) H Q
def qwa(M:ak)(c:Ctx):=(cb M c).1
def qv9:=@sR M _ JO [] [a0,a1] (by kernel_rfl) H Q
def q5p(M:ak)(c:Ctx):=(cb M c).2.1
def q5o:=@sR M _ qrj [.tmp 4] [a0,a1] (by kernel_rfl) H Q
def qyv(M:ak)(c:Ctx):=(cb M c).2.2
def qyu:=@sR M _ Jl [] [a0,a1,a2] (by kernel_rfl) H Q
abbrev Vy:Nat:=34
abbrev TL:Nat:=56
abbrev WA:Nat:=235
abbrev T9:Nat:=236
abbrev YY:Nat:=237
abbrev UJ:Nat:=238
abbrev NN:Nat:=53
abbrev yx:Nat:=50
abbrev Yg:Nat:=90
abbrev qq:Nat:=239
abbrev PW:Nat:=240
abbrev N5:Nat:=241
abbrev og:Nat:=93
abbrev Xm:Nat:=244
abbrev MY:Nat:=92
abbrev U9:Nat:=94
abbrev qod:Nat:=85
abbrev XE:Nat:=242
abbrev VS:Nat:=84
abbrev qpf:Nat:=87
abbrev qp:Nat:=243
abbrev Yz:Nat:=124
abbrev WL:Nat:=89
abbrev Wk:Nat:=126
abbrev Ue:Nat:=154
abbrev xh:Nat:=101
abbrev yF:Nat:=23
abbrev Oh:Nat:=176
abbrev Vr:th:=[(34,⟨[0,1,3,4,5,6,7],false,[0,4,12]⟩,[]),(239,⟨[0,2],false,[0]⟩,[]),(240,⟨[0,1,4,5,6,7,8,9,11],false,[0,2,12,14,24,30]⟩,[]),(241,⟨[0,1,2,6,7,8,9,10],false,[0,2,12,14,22,28]⟩,[]),(236,⟨[0,1,2,3,8,9,10,11,12,13,14],false,[0,2,12,20,22,30,32,38]⟩,[]),(235,⟨[0,2],false,[0,2,17]⟩,[]),(238,⟨[0,2],false,[0,2,17]⟩,[]),(56,⟨[0,1,4],false,[0,2,23,16]⟩,[]),(50,⟨[0,1,3,4,5,6,7,8,9,51,69],false,[0,2,10,12,20,73,34,75,40,85,41,49,53,61]⟩,[]),(53,⟨[0,1,4,5,6,7],false,[0,2,17,19,27,33]⟩,[]),(237,⟨[0,2],false,[0,2,10]⟩,[]),(242,⟨[0,1,4],false,[0,2,17]⟩,[]),(244,⟨[0,1,2,6],false,[0,2,10]⟩,[]),(243,⟨[0,1,4,5,6],false,[0]⟩,[]),(93,⟨[0,1],false,[0]⟩,[]),(84,⟨[0,1,2,4,5,6,8,14],false,[0,2,41,12,18,28]⟩,[(8,[0,2,4,6,8,10,12,14,7,16,18]),(10,[0,2,4,6,8,10,12,14,7,16,18])]),(85,⟨[0,1,2,4],false,[0]⟩,[]),(87,⟨[0,1,2,6,11],false,[0]⟩,[]),(89,⟨[0,1,4,5,6,7],false,[0,4,12,35,17,23,34]⟩,[]),(90,⟨[0,1,3],false,[0]⟩,[]),(92,⟨[0,1,3,4,5,6,7,8],false,[0,4,10,12,20,28]⟩,[]),(94,⟨[0,1,3,4,5],false,[0,2,10]⟩,[]),(124,⟨[0,1,4],false,[0]⟩,[]),(126,⟨[0,1,4,5,7,8],false,[0,2,25,7,13,24]⟩,[]),(154,⟨[0,1,4,5,7,8],false,[0,2,25,7,13,24]⟩,[])]
def WU(n:Nat):Kp:=jF n Vr
def IU(n k:Nat):Kp×ai:=(WU n,part (aY Tryz.prog n) k)
def yw(n k:Nat):IU n k=(WU n,part (aY Tryz.prog n) k):=rfl
def vn:=@jY M _ IU WU yw
attribute [local irreducible] IU
def vm(M:ak)(c:Ctx):=by
 have h:=nV yw M c Vr (by kernel_rfl)
 conv at h=>arg 5;reduce
 delta PR RL mP fX mW fV nY ir lW fI gj fN nK qU ng pV rW rz Vr at h
 simp only[yP,yA,yB,xN,Int.reduceOfNat,Int.reduceNegSucc]at h;exact h
def ck(M:ak)(c:Ctx):=(vm M c).2.2.2.2.2.2.2.2
def cn(M:ak)(c:Ctx):=(ck M c).2.2.2.2.2.2.2.2
def cr(M:ak)(c:Ctx):=(cn M c).2.2.2.2.2.2.2.2
def xg7(M:ak)(c:Ctx):=(vm M c).1
def xg6:=@vn M _ Vy [.tmp 4,.tmp 5] [a0,a1] (by kernel_rfl) H Q
def qy9(M:ak)(c:Ctx):=(vm M c).2.1
def qy8:=@vn M _ qq [.tmp 2] [a0] (by kernel_rfl) H Q
abbrev qza(k:Nat):Kp×ai:=IU PW k
def qzc(M:ak)(c:Ctx):=(vm M c).2.2.1
def qzb:=@vn M _ PW [.tmp 4,.tmp 5,.tmp 6,.tmp 7] [a0,a1] (by kernel_rfl) H Q
abbrev qwi(k:Nat):Kp×ai:=IU N5 k
def qwk(M:ak)(c:Ctx):=(vm M c).2.2.2.1
def qwj:=@vn M _ N5 [.tmp 6,.tmp 7,.tmp 8] [a0,a1,a2] (by kernel_rfl) H Q
def q39(M:ak)(c:Ctx):=(vm M c).2.2.2.2.1
def q38:=@vn M _ T9 [.tmp 8,.tmp 9,.tmp 10,.tmp 11] [a0,a1,a2,a3] (by kernel_rfl) H Q
def qwh(M:ak)(c:Ctx):=(vm M c).2.2.2.2.2.1
def qwg:=@vn M _ WA [.tmp 2] [a0] (by kernel_rfl) H Q
def qui(M:ak)(c:Ctx):=(vm M c).2.2.2.2.2.2.1
def quh:=@vn M _ UJ [.tmp 2] [a0] (by kernel_rfl) H Q
def qwf(M:ak)(c:Ctx):=(vm M c).2.2.2.2.2.2.2.1
def qwe:=@vn M _ TL [.tmp 4] [a0,a1] (by kernel_rfl) H Q
abbrev Mv(k:Nat):Kp×ai:=IU yx k
def qy7(M:ak)(c:Ctx):=(ck M c).1
def qy6:=@vn M _ yx [.tmp 4,.tmp 5] [a0,a1] (by kernel_rfl) H Q
abbrev qy3(k:Nat):Kp×ai:=IU NN k
def qy5(M:ak)(c:Ctx):=(ck M c).2.1
def qy4:=@vn M _ NN [.tmp 4,.tmp 5] [a0,a1] (by kernel_rfl) H Q
def qy2(M:ak)(c:Ctx):=(ck M c).2.2.1
def qy1:=@vn M _ YY [.tmp 2] [a0] (by kernel_rfl) H Q
def q4d(M:ak)(c:Ctx):=(ck M c).2.2.2.1
def q4c:=@vn M _ XE [.tmp 4] [a0,a1] (by kernel_rfl) H Q
def q4b(M:ak)(c:Ctx):=(ck M c).2.2.2.2.1
def q4a:=@vn M _ Xm [.tmp 6] [a0,a1,a2] (by kernel_rfl) H Q
def qwo(M:ak)(c:Ctx):=(ck M c).2.2.2.2.2.1
def qwn:=@vn M _ qp [.tmp 4] [a0,a1] (by kernel_rfl) H Q
def qwm(M:ak)(c:Ctx):=(ck M c).2.2.2.2.2.2.1
def qwl:=@vn M _ og [] [a0,a1] (by kernel_rfl) H Q
def qss(M:ak)(c:Ctx):=(ck M c).2.2.2.2.2.2.2.1
def qsr:=@vn M _ VS [.tmp 6] [a0,a1,a2] (by kernel_rfl) H Q
def Nh(M:ak)(c:Ctx):=(cn M c).1
def qzh:=@vn M _ qod [] [a0,a1,a2] (by kernel_rfl) H Q
def q4f(M:ak)(c:Ctx):=(cn M c).2.1
def q4e:=@vn M _ qpf [.cw 11 6] [a0,a1,a2] (by kernel_rfl) H Q
def qnt(M:ak)(c:Ctx):=(cn M c).2.2.1
def qns:=@vn M _ WL [.tmp 4] [a0,a1] (by kernel_rfl) H Q
def qll(M:ak)(c:Ctx):=(cn M c).2.2.2.1
def quj:=@vn M _ Yg [.tmp 3] [a0,a1] (by kernel_rfl) H Q
abbrev qoq(k:Nat):Kp×ai:=IU MY k
def qze(M:ak)(c:Ctx):=(cn M c).2.2.2.2.1
def qzd:=@vn M _ MY [.tmp 4] [a0,a1] (by kernel_rfl) H Q
def qzg(M:ak)(c:Ctx):=(cn M c).2.2.2.2.2.1
def qzf:=@vn M _ U9 [.tmp 4] [a0,a1] (by kernel_rfl) H Q
def qqh(M:ak)(c:Ctx):=(cn M c).2.2.2.2.2.2.1
def qqg:=@vn M _ Yz [.tmp 4] [a0,a1] (by kernel_rfl) H Q
def qo2(M:ak)(c:Ctx):=(cn M c).2.2.2.2.2.2.2.1
def qo1:=@vn M _ Wk [.tmp 4] [a0,a1] (by kernel_rfl) H Q
def qus(M:ak)(c:Ctx):=(cr M c)
def qur:=@vn M _ Ue [.tmp 4] [a0,a1] (by kernel_rfl) H Q
abbrev Eo:Nat:=49
abbrev ZE:Nat:=35
abbrev UG:Nat:=79
abbrev L4:Nat:=81
abbrev Rz:Nat:=82
abbrev XS:Nat:=33
abbrev qn8:Nat:=121
abbrev J9:Nat:=152
abbrev Ia:Nat:=80
abbrev SF:Nat:=119
abbrev Ys:Nat:=122
abbrev VI:Nat:=62
abbrev Xt:Nat:=95
abbrev UX:Nat:=60
abbrev V2:Nat:=120
abbrev Vh:Nat:=151
abbrev rS:Nat:=76
abbrev q9v:Nat:=167
abbrev TX:Nat:=168
abbrev OZ:Nat:=171
abbrev q9w:Nat:=219
abbrev WM:th:=[(33,⟨[0,1,4,5,6,7,8,9,35,36],false,[0,4,12,14,31,19,25,30]⟩,[]),(49,⟨[0,1,3,4,5,6,7,8,9,37,38],false,[0,2,10,12,20,28,32,113,42,119,45,61,66,55,71,86,73,99,79]⟩,[]),(35,⟨[0,1,2,5,6],false,[0,2,10]⟩,[]),(60,⟨[0,2,3],false,[0,2,10]⟩,[]),(62,⟨[0,1,2,5,6,7,8],false,[0,4,10]⟩,[]),(79,⟨[0,1,4],false,[0,2,10]⟩,[]),(80,⟨[0,1,3,4,5,6,9,10],false,[0,4,51,14,17,26,38]⟩,[]),(81,⟨[0,1,2,5,6,7,8,9,74,75],false,[0,4,22,10,24,12,32,18,36,41]⟩,[]),(300081,⟨[0,1,2,5,6,7,8,9,74,75],false,[0]⟩,[]),(200081,⟨[0,1,2,5,6,7,8,9,74,75],false,[0]⟩,[]),(82,⟨[0,1,4,5,7,11],false,[0,4,8,18]⟩,[]),(95,⟨[0,1,4,5],false,[0,2,17]⟩,[]),(119,⟨[0,1,2,3],false,[0]⟩,[]),(120,⟨[0,1,4],false,[0]⟩,[]),(121,⟨[0,1,2],false,[0]⟩,[]),(122,⟨[0,1,4,5,6,7,8],false,[0,4,12]⟩,[]),(151,⟨[0,1,4,5,7,8],false,[0,2,25,7,13,24]⟩,[]),(152,⟨[0,1,3,4],false,[0,4,10,19]⟩,[])]
def Xw(n:Nat):Kp:=jF n WM
def K8(n k:Nat):Kp×ai:=(Xw n,part (aY Tryz.prog n) k)
def q1c(n k:Nat):K8 n k=(Xw n,part (aY Tryz.prog n) k):=rfl
def uf:=@jY M _ K8 Xw q1c
attribute [local irreducible] K8
def y8(M:ak)(c:Ctx):=by
 have h:=nV q1c M c WM (by kernel_rfl)
 conv at h=>arg 5;reduce
 delta PR RL mP fX mW fV nY lW fI gj fN nK qU sD ng pV rW rz WM at h
 simp only[yP,yA,yB,xN,Int.reduceOfNat,Int.reduceNegSucc]at h;exact h
def cC(M:ak)(c:Ctx):=(y8 M c).2.2.2.2.2.2.2.2
def cI(M:ak)(c:Ctx):=(cC M c).2.2.2.2.2.2.2.2
def xi5(M:ak)(c:Ctx):=(y8 M c).1
def xi4:=@uf M _ XS [.tmp 4,.tmp 5] [a0,a1] (by kernel_rfl) H Q
abbrev Xr(k:Nat):Kp×ai:=K8 Eo k
def qry(M:ak)(c:Ctx):=(y8 M c).2.1
def q5i:=@uf M _ Eo [.tmp 4,.tmp 5] [a0,a1] (by kernel_rfl) H Q
def q7z(M:ak)(c:Ctx):=(y8 M c).2.2.1
def q7y:=@uf M _ ZE [.tmp 6] [a0,a1,a2] (by kernel_rfl) H Q
def xkg(M:ak)(c:Ctx):=(y8 M c).2.2.2.1
def xkf:=@uf M _ UX [.tmp 2,.tmp 3] [a0] (by kernel_rfl) H Q
def q8p(M:ak)(c:Ctx):=(y8 M c).2.2.2.2.1
def q8o:=@uf M _ VI [.tmp 6] [a0,a1,a2] (by kernel_rfl) H Q
def q99(M:ak)(c:Ctx):=(y8 M c).2.2.2.2.2.1
def q98:=@uf M _ UG [.tmp 4] [a0,a1] (by kernel_rfl) H Q
abbrev SP(k:Nat):Kp×ai:=K8 Ia k
def q2x(M:ak)(c:Ctx):=(y8 M c).2.2.2.2.2.2.1
def q2w:=@uf M _ Ia [.tmp 4] [a0,a1] (by kernel_rfl) H Q
def Rp:b9:=funcAt Tryz.prog L4
def Nz:dZ:=jM Rp 0
abbrev UH(k:Nat):Kp×ai:=K8 300081 k
abbrev Yf(k:Nat):Kp×ai:=K8 200081 k
def qi:nth Rp.loops 0=some Nz/\Nz.params=[75]:=⟨by kernel_rfl,by kernel_rfl⟩
def qv1:(UH 0).1.ah=[0,1,2,5,6,7,8,9,74,75]/\(UH 0).2=Nz.assign:=⟨by kernel_rfl,by kernel_rfl⟩
def qv2:(Yf 0).1.ah=[0,1,2,5,6,7,8,9,74,75]/\(Yf 0).2=Nz.body:=⟨by kernel_rfl,by kernel_rfl⟩
def qyq:M.func L4=some Rp:=MK.at (by decide) (by kernel_rfl)
def Y2(M:ak)(c:Ctx):=And.intro (y8 M c).2.2.2.2.2.2.2.1.1 (And.intro (cC M c).1 (And.intro (cC M c).2.1 (And.intro (y8 M c).2.2.2.2.2.2.2.1.2.1 (And.intro (y8 M c).2.2.2.2.2.2.2.1.2.2.1 (And.intro (y8 M c).2.2.2.2.2.2.2.1.2.2.2.1 (And.intro (y8 M c).2.2.2.2.2.2.2.1.2.2.2.2.1 (And.intro (y8 M c).2.2.2.2.2.2.2.1.2.2.2.2.2.1 (And.intro (y8 M c).2.2.2.2.2.2.2.1.2.2.2.2.2.2.1 (And.intro (y8 M c).2.2.2.2.2.2.2.1.2.2.2.2.2.2.2.1 (And.intro (y8 M c).2.2.2.2.2.2.2.1.2.2.2.2.2.2.2.2.1 ((y8 M c).2.2.2.2.2.2.2.1.2.2.2.2.2.2.2.2.2)))))))))))
def q2t:=@uf M _ L4 [.tmp 6] [a0,a1,a2] (by kernel_rfl) H Q
def q2v(M:ak)(c:Ctx):=(cC M c).2.2.1
def q2u:=@uf M _ Rz [.cw 11 4] [a0,a1] (by kernel_rfl) H Q
def xa5(M:ak)(c:Ctx):=(cC M c).2.2.2.1
def xa4:=@uf M _ Xt [.tmp 4,.tmp 5] [a0,a1] (by kernel_rfl) H Q
def qmv(M:ak)(c:Ctx):=(cC M c).2.2.2.2.1
def qv3:=@uf M _ SF [.tmp 3] [a0,a1] (by kernel_rfl) H Q
def qi7(M:ak)(c:Ctx):=(cC M c).2.2.2.2.2.1
def qi6:=@uf M _ V2 [.tmp 4] [a0,a1] (by kernel_rfl) H Q
def qys(M:ak)(c:Ctx):=(cC M c).2.2.2.2.2.2.1
def qyr:=@uf M _ qn8 [.tmp 2] [a0] (by kernel_rfl) H Q
def q51(M:ak)(c:Ctx):=(cC M c).2.2.2.2.2.2.2.1
def q50:=@uf M _ Ys [.cw 8 4,.tmp 5] [a0,a1] (by kernel_rfl) H Q
def qk5(M:ak)(c:Ctx):=(cI M c).1
def qk4:=@uf M _ Vh [.tmp 4] [a0,a1] (by kernel_rfl) H Q
def qt4(M:ak)(c:Ctx):=(cI M c).2
def qt3:=@uf M _ J9 [] [a0,a1] (by kernel_rfl) H Q
abbrev MS:Nat:=25
abbrev I3:Nat:=55
abbrev SO:Nat:=228
abbrev Q4:Nat:=229
abbrev SL:Nat:=230
abbrev SC:Nat:=231
abbrev Qo:Nat:=23
abbrev Pm:Nat:=24
abbrev Sw:Nat:=232
abbrev RW:Nat:=233
abbrev Q2:Nat:=234
abbrev Yo:Nat:=52
abbrev Qh:Nat:=54
abbrev Vv:Nat:=51
abbrev Vw:Nat:=18
abbrev T5:Nat:=48
abbrev KM:Nat:=120
abbrev J7:Nat:=121
variable{a4:AV}
abbrev UK:th:=[(18,⟨[0,1,2,4,5,6,7,8,9,10,11,12,13,37,38,60,61,62],false,[0,4,12,14,41,19,58,46,25,52,40,31,57,39]⟩,[]),(233,⟨[0,1,2,6,7,8,9,10],false,[0,4,12]⟩,[]),(234,⟨[0,1,2,3,8,9,10,11],false,[0,4,12]⟩,[]),(229,⟨[0,1,2,3,4,10,11,12,13,14],false,[0,4,12]⟩,[]),(228,⟨[0,1,4],false,[0]⟩,[]),(231,⟨[0,1,4],false,[0]⟩,[]),(25,⟨[0,1,2,5,6],false,[0]⟩,[]),(24,⟨[0,1,2,6,7,8,9],false,[0,4,12]⟩,[]),(23,⟨[0,1,4,5,6,7,8,11],false,[0,2,17,21,23,29]⟩,[]),(232,⟨[0,1,4,5],false,[0]⟩,[]),(230,⟨[0,1,4,5],false,[0]⟩,[]),(51,⟨[0,1],false,[0]⟩,[]),(52,⟨[0,1,4,5],false,[0,2,17]⟩,[]),(54,⟨[0,1,2,6,7,8],false,[0,4,12]⟩,[]),(55,⟨[0,1,3],false,[0]⟩,[]),(48,⟨[0,1,2,6,7],false,[0,4,12]⟩,[])]
def WQ(n:Nat):Kp:=jF n UK
def TW(n k:Nat):Kp×ai:=(WQ n,part (aY Tryz.prog n) k)
def q1a(n k:Nat):TW n k=(WQ n,part (aY Tryz.prog n) k):=rfl
def ui:=@jY M _ TW WQ q1a
attribute [local irreducible] TW
def uE(M:ak)(c:Ctx):=by
 have h:=nV q1a M c UK (by kernel_rfl)
 conv at h=>arg 5;reduce
 delta PR RL mP fX mW fV nY lW fI gj fN nK qU ng pV rW rz UK at h
 simp only[yP,yA,yB,xN,Int.reduceOfNat,Int.reduceNegSucc]at h;exact h
def dN(M:ak)(c:Ctx):=(uE M c).2.2.2.2.2.2.2.2
def SW(M:ak)(c:Ctx):=(uE M c).1
def xiq:=@ui M _ Vw [.tmp 4,.tmp 5] [a0,a1] (by kernel_rfl) H Q
def q5c(M:ak)(c:Ctx):=(uE M c).2.1
def q5b:=@ui M _ RW [.tmp 6,.tmp 7,.tmp 8] [a0,a1,a2] (by kernel_rfl) H Q
def q2i(M:ak)(c:Ctx):=(uE M c).2.2.1
def q2h:=@ui M _ Q2 [.tmp 8,.tmp 9] [a0,a1,a2,a3] (by kernel_rfl) H Q
def q7v(M:ak)(c:Ctx):=(uE M c).2.2.2.1
def q7u:=@ui M _ Q4 [.tmp 10,.tmp 11,.tmp 12] [a0,a1,a2,a3,a4] (by kernel_rfl) H Q
def q2g(M:ak)(c:Ctx):=(uE M c).2.2.2.2.1
def q2f:=@ui M _ SO [.tmp 4] [a0,a1] (by kernel_rfl) H Q
def qx7(M:ak)(c:Ctx):=(uE M c).2.2.2.2.2.1
def qx6:=@ui M _ SC [.tmp 4] [a0,a1] (by kernel_rfl) H Q
def Xq(M:ak)(c:Ctx):=(uE M c).2.2.2.2.2.2.1
def Tu:=@ui M _ MS [.tmp 6] [a0,a1,a2] (by kernel_rfl) H Q
def qrs(M:ak)(c:Ctx):=(uE M c).2.2.2.2.2.2.2.1
def YX:=@ui M _ Pm [.tmp 6] [a0,a1,a2] (by kernel_rfl) H Q
def qmr(M:ak)(c:Ctx):=(dN M c).1
def qmq:=@ui M _ Qo [.cw 11 4,.tmp 5] [a0,a1] (by kernel_rfl) H Q
def q5a(M:ak)(c:Ctx):=(dN M c).2.1
def q49:=@ui M _ Sw [.tmp 4] [a0,a1] (by kernel_rfl) H Q
def q48(M:ak)(c:Ctx):=(dN M c).2.2.1
def q47:=@ui M _ SL [.tmp 4] [a0,a1] (by kernel_rfl) H Q
def q5e(M:ak)(c:Ctx):=(dN M c).2.2.2.1
def q5d:=@ui M _ Vv [] [a0,a1] (by kernel_rfl) H Q
def q91(M:ak)(c:Ctx):=(dN M c).2.2.2.2.1
def q90:=@ui M _ Yo [.tmp 4,.tmp 5] [a0,a1] (by kernel_rfl) H Q
def yc(M:ak)(c:Ctx):=(dN M c).2.2.2.2.2.1
def qrt:=@ui M _ Qh [.tmp 6] [a0,a1,a2] (by kernel_rfl) H Q
def qvj(M:ak)(c:Ctx):=(dN M c).2.2.2.2.2.2.1
def qvi:=@ui M _ I3 [.tmp 3] [a0,a1] (by kernel_rfl) H Q
def qnv(M:ak)(c:Ctx):=(dN M c).2.2.2.2.2.2.2
def qnu:=@ui M _ T5 [.tmp 6] [a0,a1,a2] (by kernel_rfl) H Q
abbrev qhh:Nat:=183
abbrev UL:Nat:=99
abbrev Su:Nat:=132
abbrev Qv:Nat:=133
abbrev Ti:Nat:=134
abbrev SY:Nat:=135
abbrev MX:Nat:=131
abbrev KS:Nat:=162
abbrev VH:Nat:=163
abbrev lV:Nat:=52
abbrev jh:Nat:=93
abbrev EV:Nat:=60
abbrev xL:Nat:=0
abbrev TG:th:=[(99,⟨[0,1,2,3,4,5,6,7,8,9,10,11,12,13,14,49],false,[0,2,10,14,18,22,129,38,50,62,74,86,98,110,122]⟩,[(7,[0,2,4,8,10,12,16,18,20,6,13,21,14,21,22,24,26,28])]),(132,⟨[0,1,2,4,5],false,[0]⟩,[]),(133,⟨[0,1,2,4,5],false,[0,2,10,18]⟩,[]),(134,⟨[0,1,3,5],false,[0]⟩,[]),(135,⟨[0,1,3],false,[0]⟩,[]),(163,⟨[0,1,4],false,[0]⟩,[]),(183,⟨[0,1,4],false,[0]⟩,[])]
def WG(n:Nat):Kp:=jF n TG
def WD(n k:Nat):Kp×ai:=(WG n,part (aY Tryz.prog n) k)
def q1e(n k:Nat):WD n k=(WG n,part (aY Tryz.prog n) k):=rfl
def KP:=@jY M _ WD WG q1e
attribute [local irreducible] WD
def LG(M:ak)(c:Ctx):=by
 have h:=nV q1e M c TG (by kernel_rfl)
 conv at h=>arg 5;reduce
 delta PR RL mP fX mW fV nY ir lW fI gj fN nK ng pV rW rz TG at h
 simp only[yP,yA,yB,xN,Int.reduceOfNat,Int.reduceNegSucc]at h;exact h
def AL(M:ak)(c:Ctx):=(LG M c).1
def AA:=@KP M _ UL [.cw 5 6] [a0,a1,a2] (by kernel_rfl) H Q
def VP:b9:=funcAt Tryz.prog MX
def q3a:Kp:=⟨[0,1,2,3,4,5,6,19,20],false,[0,4,9,15,26,27]⟩
def xM(k:Nat):Kp×ai:=(q3a,part VP.body k)
def xc3(M:ak)(c:Ctx):(WE M c (xM 0) λ Q E D H=>Lz E 0 λ g f=>A3 g EV (AV.cells f) H λ g b H1=>Fl g 0 b H1 λ g h=>C3 M g (.func KS) [h] H1 λ g a o=>B3 g ((Op.extract 0) [a]) λ g d=>B3 g ((Op.extract 1) [a]) λ g e=>W M c (xM 4) g Q ((4,e)::(3,d)::(2,(.bool false))::(1,b)::E) D o) /\
 (WE M c (xM 4) λ Q E D H=>Lz E 1 λ g a=>Fl g 1 a H λ g b=>Fl g 2 a H λ g d=>Fl g 3 a H λ g e=>B3 g ((Op.build [(.int .i64 0),(.int .i64 0),(.int .i64 0)] [(0,1),(1,1),(2,1)]) [b,d,e]) λ g f=>dg (W M c (xM 9)) (eB 0 (eG (W M c (xM 27)) Q)) ((20,(.int .i64 0))::(19,f)::E) D H) /\
 (WE M c (xM 27) λ Q E D H=>Lz E 4 λ g a=>qX g Q .ret ((2,a)::E) D H) /\
 (WE M c (xM 9) λ Q E D H=>Lz E 20 λ g a=>Cb g .lss a (.int .i64 3) (λ g=>Gt g M c (xM 15) Q E D H) (λ g=>qX g (eG (W M c (xM 15)) Q) (.exit 0) E D H)) /\
 (WE M c (xM 15) λ Q E D H=>Lz E 20 λ g b=>Ly g E 19 λ g j=>B3 g ((Op.bA 3 1 none) [j,b]) λ g a=>Ly g E 3 λ g r=>B3 g (Op.bK [(.str [65,66,67]),b]) λ g l=>C3 M g (.func VH) [r,l] H λ g m H1=>Bn g .geq m (.int .i64 0) λ g e=>JN (λ(k:Bool->AV->AV->AV->ar->Prop)=>B3 g (cM true (some e)) λ g w=>vR g w (λ g=>Bn g .lss a (.int .i64 0) λ g i=>k g i i a H1) (λ g=>k g uu uu uu H1)) (λ g d _ _ o=>JN (λ(k:Bool->AV->AV->ar->Prop)=>B3 g (cM false (some d)) λ g w=>vR g w (λ g=>Bn g .geq a (.int .i64 8) λ g n=>k g n a o) (λ g=>k g uu uu o)) (λ g f _ s=>JN (λ(k:Bool->AV->ar->Prop)=>B3 g (cM true (some e)) λ g w=>vR g w (λ g=>B3 g (Op.pick [d,(.bool true),f]) λ g p=>k g p s) (λ g=>k g uu s)) (λ g h t=>B3 g (Op.pick [e,h,(.bool false)]) λ g q=>mG g q (λ g=>qX g (eB 1 (eG (W M c (xM 26)) Q)) .ret ((2,(.bool false))::(6,a)::(5,b)::E) D t) (λ g=>qX g (eB 1 (eG (W M c (xM 26)) Q)) .normal ((6,a)::(5,b)::E) D t))))) /\
 (WE M c (xM 26) λ Q E D H=>Lz E 20 λ g a=>Bn g .add a (.int .i64 1) λ g b=>qX g Q .normal ((20,b)::E) D H):=by(repeat' apply And.intro)<;>(intro _ _ _ _;refine Du ?_;kernel_rfl)
def xc1:(aV Tryz.prog).func MX=some VP/\VP.results=[.tmp 2]:=ZB (by kernel_rfl)
def xc2(h:W M ⟨none,MX⟩ (xM 0) true (eY M [.tmp 2] Q) [(0,a0)] [] H):ET M MX [a0] H Q:=DK (by decide) xc1 (ks:=q3a) (by kernel_rfl) h
def xgo(M:ak)(c:Ctx):=(LG M c).2.1
def xgn:=@KP M _ Su [.cw 5 4] [a0,a1,a2] (by kernel_rfl) H Q
def xgq(M:ak)(c:Ctx):=(LG M c).2.2.1
def xgp:=@KP M _ Qv [.cw 5 4] [a0,a1,a2] (by kernel_rfl) H Q
def xgs(M:ak)(c:Ctx):=(LG M c).2.2.2.1
def xgr:=@KP M _ Ti [.cw 5 3] [a0,a1] (by kernel_rfl) H Q
def xgu(M:ak)(c:Ctx):=(LG M c).2.2.2.2.1
def xgt:=@KP M _ SY [.tmp 3] [a0,a1] (by kernel_rfl) H Q
def WK:b9:=funcAt Tryz.prog KS
def ZL:Kp:=⟨[0,2,3],false,[0,2,10]⟩
def KY(k:Nat):Kp×ai:=(ZL,part WK.body k)
def xc6(M:ak)(c:Ctx):(WE M c (KY 0) λ Q E D H=>W M c (KY 2) true Q ((3,(.bool false))::(2,(.str []))::E) D H) /\
 (WE M c (KY 2) λ Q E D H=>Lz E 0 λ g a=>Bn g .lss a (.int .i64 1) λ g d=>JN (λ(k:Bool->AV->AV->ar->Prop)=>B3 g (cM false (some d)) λ g w=>vR g w (λ g=>Bn g .geq a (.int .i64 19) λ g e=>k g e a H) (λ g=>k g uu uu H)) (λ g b _ H1=>B3 g (Op.pick [d,(.bool true),b]) λ g f=>mG g f (λ g=>qX g (eG (W M c (KY 10)) Q) .ret ((3,(.bool false))::(2,(.str []))::E) D H1) (λ g=>Gt g M c (KY 10) Q E D H1))) /\
 (WE M c (KY 10) λ Q E D H=>Lz E 0 λ g d=>B3 g ((Op.aP 19 2) [(.ptr xL 0),d]) λ g a=>Fl g 1 a H λ g b=>qX g Q .ret ((3,(.bool true))::(2,b)::E) D H):=by(repeat' apply And.intro)<;>(intro _ _ _ _;refine Du ?_;kernel_rfl)
def xc4:(aV Tryz.prog).func KS=some WK/\WK.results=[.tmp 2,.tmp 3]:=ZB (by kernel_rfl)
def xc5(h:W M ⟨none,KS⟩ (KY 0) true (eY M [.tmp 2,.tmp 3] Q) [(0,a0)] [] H):ET M KS [a0] H Q:=DK (by decide) xc4 (ks:=ZL) (by kernel_rfl) h
def qtb(M:ak)(c:Ctx):=(LG M c).2.2.2.2.2.1
def qta:=@KP M _ VH [.tmp 4] [a0,a1] (by kernel_rfl) H Q
def zb(M:ak)(c:Ctx):=(LG M c).2.2.2.2.2.2
def qhi:=@KP M _ qhh [.tmp 4] [a0,a1] (by kernel_rfl) H Q
abbrev Z2:Nat:=29
abbrev qoe:Nat:=150
abbrev qof:Nat:=118
abbrev qrq:Nat:=30
abbrev qme:Nat:=31
abbrev qke:Nat:=68
abbrev qog:Nat:=105
abbrev WS:Nat:=101
abbrev nB:Nat:=59
abbrev qoh:Nat:=58
abbrev qmf:Nat:=136
abbrev q6a:Nat:=41
abbrev ED:Nat:=160
abbrev MU:Nat:=157
abbrev TC:th:=[(41,⟨[0],false,[0]⟩,[]),(101,⟨[0,1,2,6,7],false,[0,4,10]⟩,[]),(29,⟨[0,2,8],false,[0,2,10]⟩,[]),(30,⟨[0,2],false,[0,2,10]⟩,[]),(118,⟨[0,1,4],false,[0,2,10,18]⟩,[]),(105,⟨[0,2,3],false,[0,2,10]⟩,[]),(68,⟨[0,2,3],false,[0,4,10]⟩,[]),(150,⟨[0,2,3],false,[0,4,10]⟩,[]),(31,⟨[0,2,3,4,8],false,[0,2,10]⟩,[(3,[0,2,4,6,8,10,12,14,16,18,20,22,24,26,28,21,27,30,32])]),(136,⟨[0,1,4],false,[0,2,10,18]⟩,[]),(58,⟨[0,2],false,[0]⟩,[]),(59,⟨[0,2],false,[0,2,10,18]⟩,[])]
def Tx(n:Nat):Kp:=jF n TC
def Xn(n k:Nat):Kp×ai:=(Tx n,part (aY Tryz.prog n) k)
def q1p(n k:Nat):Xn n k=(Tx n,part (aY Tryz.prog n) k):=rfl
def zG:=@jY M _ Xn Tx q1p
attribute [local irreducible] Xn
def zI(M:ak)(c:Ctx):=by
 have h:=nV q1p M c TC (by kernel_rfl)
 conv at h=>arg 5;reduce
 delta PR RL mP fX mW fV nY ir lW fI gj fN nK ng rW rz TC at h
 simp only[yP,yA,yB,xN,Int.reduceOfNat,Int.reduceNegSucc]at h;exact h
def xhi(M:ak)(c:Ctx):=(zI M c).1
def xhh:=@zG M _ q6a [.tmp 0] [] (by kernel_rfl) H Q
def qqc(M:ak)(c:Ctx):=(zI M c).2.1
def q4q:=@zG M _ WS [.tmp 6] [a0,a1,a2] (by kernel_rfl) H Q
def q4p(M:ak)(c:Ctx):=(zI M c).2.2.1
def q4o:=@zG M _ Z2 [.cw 8 2] [a0] (by kernel_rfl) H Q
def q55(M:ak)(c:Ctx):=(zI M c).2.2.2.1
def q54:=@zG M _ qrq [.tmp 2] [a0] (by kernel_rfl) H Q
def qos(M:ak)(c:Ctx):=(zI M c).2.2.2.2.1
def qzk:=@zG M _ qof [.tmp 4] [a0,a1] (by kernel_rfl) H Q
def qzm(M:ak)(c:Ctx):=(zI M c).2.2.2.2.2.1
def qzl:=@zG M _ qog [.tmp 2] [a0] (by kernel_rfl) H Q
def RY(M:ak)(c:Ctx):=(zI M c).2.2.2.2.2.2.1
def qsv:=@zG M _ qke [.tmp 2] [a0] (by kernel_rfl) H Q
def nz(M:ak)(c:Ctx):=(zI M c).2.2.2.2.2.2.2.1
def qzj:=@zG M _ qoe [.tmp 2] [a0] (by kernel_rfl) H Q
def qm2(M:ak)(c:Ctx):=(zI M c).2.2.2.2.2.2.2.2.1
def qwv:=@zG M _ qme [.cw 8 2,.tmp 3,.tmp 4] [a0] (by kernel_rfl) H Q
def Yn(M:ak)(c:Ctx):=(zI M c).2.2.2.2.2.2.2.2.2.1
def qww:=@zG M _ qmf [.tmp 4] [a0,a1] (by kernel_rfl) H Q
def qzo(M:ak)(c:Ctx):=(zI M c).2.2.2.2.2.2.2.2.2.2.1
def qzn:=@zG M _ qoh [.tmp 2] [a0] (by kernel_rfl) H Q
def qlm(M:ak)(c:Ctx):=(zI M c).2.2.2.2.2.2.2.2.2.2.2
def qup:=@zG M _ nB [.tmp 2] [a0] (by kernel_rfl) H Q
abbrev lL:Nat:=69
abbrev j3:Nat:=27
abbrev Zw:Nat:=106
abbrev He:Nat:=45
abbrev YW:Nat:=28
abbrev Z0:Nat:=149
abbrev Zo:Nat:=96
abbrev Jn:Nat:=97
abbrev va:Nat:=57
abbrev qjc:Nat:=129
abbrev L6:Nat:=159
abbrev q00:Nat:=39
abbrev Zi:Nat:=65
abbrev rJ:Nat:=37
abbrev Eu:Nat:=26
abbrev y9:Nat:=155
abbrev P0:Nat:=106
abbrev Uq:th:=[(39,⟨[0,1,2,3,4,5],false,[0,4,12]⟩,[]),(106,⟨[0,2,3],false,[0,2,10,18]⟩,[]),(69,⟨[0,1,4,5],false,[0,2,10,18,26,28,39]⟩,[]),(149,⟨[0,2],false,[0,2,10,18]⟩,[]),(28,⟨[0,2],false,[0,2,10]⟩,[]),(96,⟨[0,2,3,5,7,8],false,[0,4,21,9,15,20]⟩,[]),(27,⟨[0,2,5],false,[0,2,10]⟩,[]),(45,⟨[0,2],false,[0]⟩,[]),(65,⟨[0,1,2,3,4,5,6,14,15,16],false,[0,4,27,9,15,26]⟩,[]),(57,⟨[0,2],false,[0]⟩,[]),(97,⟨[0,1,2,4,7,8],false,[0]⟩,[]),(300097,⟨[0,1,2,4,7,8],false,[0]⟩,[]),(200097,⟨[0,1,2,4,7,8],false,[0]⟩,[]),(129,⟨[0,1,2,3,4],false,[0]⟩,[]),(159,⟨[0,1,2,4],false,[0,4,10,17]⟩,[])]
def XC(n:Nat):Kp:=jF n Uq
def QP(n k:Nat):Kp×ai:=(XC n,part (aY Tryz.prog n) k)
def W2(n k:Nat):QP n k=(XC n,part (aY Tryz.prog n) k):=rfl
def yJ:=@jY M _ QP XC W2
attribute [local irreducible] QP
def vM(M:ak)(c:Ctx):=by
 have h:=nV W2 M c Uq (by kernel_rfl)
 conv at h=>arg 5;reduce
 delta PR RL mP fX mW fV nY lW fI gj fN nK qU sD ng pV rW rz Uq at h
 simp only[yP,yA,yB,xN,Int.reduceOfNat,Int.reduceNegSucc]at h;exact h
def ea(M:ak)(c:Ctx):=(vM M c).2.2.2.2.2.2.2.2
def Wc(M:ak)(c:Ctx):=(vM M c).1
def xc8:=@yJ M _ q00 [.tmp 2,.tmp 3] [a0] (by kernel_rfl) H Q
def qiq(M:ak)(c:Ctx):=(vM M c).2.1
def qp3:=@yJ M _ Zw [.tmp 2,.tmp 3] [a0] (by kernel_rfl) H Q
def ju(M:ak)(c:Ctx):=(vM M c).2.2.1
def qp2:=@yJ M _ lL [.tmp 4,.tmp 5] [a0,a1] (by kernel_rfl) H Q
def hY(M:ak)(c:Ctx):=(vM M c).2.2.2.1
def qp4:=@yJ M _ Z0 [.tmp 2] [a0] (by kernel_rfl) H Q
def qq8(M:ak)(c:Ctx):=(vM M c).2.2.2.2.1
def qq7:=@yJ M _ YW [.tmp 2] [a0] (by kernel_rfl) H Q
def US(M:ak)(c:Ctx):=(vM M c).2.2.2.2.2.1
def qsn:=@yJ M _ Zo [.tmp 2] [a0] (by kernel_rfl) H Q
def qox(M:ak)(c:Ctx):=(vM M c).2.2.2.2.2.2.1
def qow:=@yJ M _ j3 [.cw 5 2] [a0] (by kernel_rfl) H Q
def qjg(M:ak)(c:Ctx):=(vM M c).2.2.2.2.2.2.2.1
def qq6:=@yJ M _ He [.tmp 2] [a0] (by kernel_rfl) H Q
def Oq(M:ak)(c:Ctx):=(ea M c).1
def q3r:=@yJ M _ Zi [.cw 5 2,.tmp 3] [a0] (by kernel_rfl) H Q
def qrb(M:ak)(c:Ctx):=(ea M c).2.1
def qra:=@yJ M _ va [.tmp 2] [a0] (by kernel_rfl) H Q
def SZ:b9:=funcAt Tryz.prog Jn
def PU:dZ:=jM SZ 0
abbrev Vs(k:Nat):Kp×ai:=QP 300097 k
abbrev Vm(k:Nat):Kp×ai:=QP 200097 k
def qhl:nth SZ.loops 0=some PU/\PU.params=[8]:=⟨by kernel_rfl,by kernel_rfl⟩
def qoy:(Vs 0).1.ah=[0,1,2,4,7,8]/\(Vs 0).2=PU.assign:=⟨by kernel_rfl,by kernel_rfl⟩
def qoz:(Vm 0).1.ah=[0,1,2,4,7,8]/\(Vm 0).2=PU.body:=⟨by kernel_rfl,by kernel_rfl⟩
def qp5:M.func Jn=some SZ:=MK.at (by decide) (by kernel_rfl)
def lx(M:ak)(c:Ctx):=And.intro (ea M c).2.2.1 (And.intro (ea M c).2.2.2.1 ((ea M c).2.2.2.2.1))
def qq9:=@yJ M _ Jn [] [a0,a1] (by kernel_rfl) H Q
def qrd(M:ak)(c:Ctx):=(ea M c).2.2.2.2.2.1
def qrc:=@yJ M _ qjc [.tmp 4] [a0,a1] (by kernel_rfl) H Q
def OQ(M:ak)(c:Ctx):=(ea M c).2.2.2.2.2.2
def qo0:=@yJ M _ L6 [] [a0,a1,a2] (by kernel_rfl) H Q
abbrev YG:Nat:=145
abbrev qrl:Nat:=165
abbrev qrm:Nat:=190
abbrev lh:Nat:=202
abbrev hK:Nat:=189
abbrev qpc:Nat:=168
abbrev qn9:Nat:=169
abbrev qrn:Nat:=171
abbrev ZN:Nat:=66
abbrev qro:Nat:=206
abbrev YQ:Nat:=172
abbrev ZY:Nat:=184
abbrev qrp:Nat:=192
abbrev Qj:Nat:=193
abbrev qph:Nat:=210
abbrev vj:Nat:=212
abbrev mY:Nat:=87
abbrev wh:Nat:=246
abbrev Q0:Nat:=230
abbrev Im:Nat:=228
abbrev UQ:th:=[(66,⟨[0],false,[0]⟩,[]),(190,⟨[0,1,2,6,8],false,[0,2,10,18,28]⟩,[]),(168,⟨[0,1,2,6,7,8],false,[0,2,10,18,30]⟩,[]),(189,⟨[0,1,4,5],false,[0,2,10]⟩,[]),(165,⟨[0,1,4,5],false,[0,2,10]⟩,[]),(202,⟨[0,2],false,[0,2,10]⟩,[]),(169,⟨[0,2],false,[0,2,10]⟩,[]),(145,⟨[0,2],false,[0,2,10]⟩,[]),(171,⟨[0,2],false,[0]⟩,[]),(184,⟨[0,1,4,5,6,7],false,[0,4,12]⟩,[]),(192,⟨[0,1,2,6],false,[0,2,10]⟩,[]),(193,⟨[0,2,3,5,7,8,9],false,[0,4,9]⟩,[]),(300193,⟨[0,2,3,5,7,8,9],false,[0]⟩,[]),(200193,⟨[0,2,3,5,7,8,9],false,[0]⟩,[]),(172,⟨[0],false,[0]⟩,[]),(206,⟨[0,2],false,[0]⟩,[]),(210,⟨[0,1,2],false,[0]⟩,[]),(212,⟨[0,1,3,4,5,6,7],false,[0,4,10,19]⟩,[])]
def X1(n:Nat):Kp:=jF n UQ
def Ox(n k:Nat):Kp×ai:=(X1 n,part (aY Tryz.prog n) k)
def YF(n k:Nat):Ox n k=(X1 n,part (aY Tryz.prog n) k):=rfl
def uF:=@jY M _ Ox X1 YF
attribute [local irreducible] Ox
def si(M:ak)(c:Ctx):=by
 have h:=nV YF M c UQ (by kernel_rfl)
 conv at h=>arg 5;reduce
 delta PR RL mP fX mW fV nY lW fI gj fN nK qU sD ng pV rW rz UQ at h
 simp only[yP,yA,yB,xN,Int.reduceOfNat,Int.reduceNegSucc]at h;exact h
def ee(M:ak)(c:Ctx):=(si M c).2.2.2.2.2.2.2.2
def eg(M:ak)(c:Ctx):=(ee M c).2.2.2.2.2.2.2.2
def xj8(M:ak)(c:Ctx):=(si M c).1
def xj7:=@uF M _ ZN [.tmp 0] [] (by kernel_rfl) H Q
def qr3(M:ak)(c:Ctx):=(si M c).2.1
def q5u:=@uF M _ qrm [.tmp 6] [a0,a1,a2] (by kernel_rfl) H Q
def qp7(M:ak)(c:Ctx):=(si M c).2.2.1
def q3x:=@uF M _ qpc [.tmp 6] [a0,a1,a2] (by kernel_rfl) H Q
def q8j(M:ak)(c:Ctx):=(si M c).2.2.2.1
def q8i:=@uF M _ hK [.tmp 4,.tmp 5] [a0,a1] (by kernel_rfl) H Q
def q5t(M:ak)(c:Ctx):=(si M c).2.2.2.2.1
def q5s:=@uF M _ qrl [.tmp 4,.tmp 5] [a0,a1] (by kernel_rfl) H Q
def q3w(M:ak)(c:Ctx):=(si M c).2.2.2.2.2.1
def q3v:=@uF M _ lh [.tmp 2] [a0] (by kernel_rfl) H Q
def qyy(M:ak)(c:Ctx):=(si M c).2.2.2.2.2.2.1
def qyx:=@uF M _ qn9 [.tmp 2] [a0] (by kernel_rfl) H Q
def q3u(M:ak)(c:Ctx):=(si M c).2.2.2.2.2.2.2.1
def q3t:=@uF M _ YG [.tmp 2] [a0] (by kernel_rfl) H Q
def q5w(M:ak)(c:Ctx):=(ee M c).1
def q5v:=@uF M _ qrn [.tmp 2] [a0] (by kernel_rfl) H Q
def qp8(M:ak)(c:Ctx):=(ee M c).2.1
def q3y:=@uF M _ ZY [.tmp 4,.tmp 5] [a0,a1] (by kernel_rfl) H Q
def ZI(M:ak)(c:Ctx):=(ee M c).2.2.1
def q5z:=@uF M _ qrp [.tmp 6] [a0,a1,a2] (by kernel_rfl) H Q
def Rb:b9:=funcAt Tryz.prog Qj
def OB:dZ:=jM Rb 0
abbrev Ya(k:Nat):Kp×ai:=Ox 300193 k
abbrev UM(k:Nat):Kp×ai:=Ox 200193 k
def qxy:nth Rb.loops 0=some OB/\OB.params=[8,9]:=⟨by kernel_rfl,by kernel_rfl⟩
def xay:(Ya 0).1.ah=[0,2,3,5,7,8,9]/\(Ya 0).2=OB.assign:=⟨by kernel_rfl,by kernel_rfl⟩
def xaz:(UM 0).1.ah=[0,2,3,5,7,8,9]/\(UM 0).2=OB.body:=⟨by kernel_rfl,by kernel_rfl⟩
def xda:M.func Qj=some Rb:=MK.at (by decide) (by kernel_rfl)
def WI(M:ak)(c:Ctx):=And.intro (ee M c).2.2.2.1.1 (And.intro (ee M c).2.2.2.2.1 (And.intro (ee M c).2.2.2.2.2.1 (And.intro (ee M c).2.2.2.1.2.1 ((ee M c).2.2.2.1.2.2))))
def xgz:=@uF M _ Qj [.tmp 2] [a0] (by kernel_rfl) H Q
def qy0(M:ak)(c:Ctx):=(ee M c).2.2.2.2.2.2.1
def qyz:=@uF M _ YQ [] [a0] (by kernel_rfl) H Q
def q5y(M:ak)(c:Ctx):=(ee M c).2.2.2.2.2.2.2.1
def q5x:=@uF M _ qro [.tmp 2] [a0] (by kernel_rfl) H Q
def qqf(M:ak)(c:Ctx):=(eg M c).1
def qqe:=@uF M _ qph [.tmp 2] [a0] (by kernel_rfl) H Q
def Sh(M:ak)(c:Ctx):=(eg M c).2
def qnr:=@uF M _ vj [] [a0,a1] (by kernel_rfl) H Q
abbrev q6b:Nat:=42
abbrev qmg:Nat:=108
abbrev qoi:Nat:=115
abbrev qlc:Nat:=143
abbrev qmh:Nat:=148
abbrev se:Nat:=113
abbrev qok:Nat:=137
abbrev Zf:Nat:=111
abbrev i1:Nat:=130
abbrev qmi:Nat:=142
abbrev qmj:Nat:=139
abbrev Zv:Nat:=110
abbrev qkg:Nat:=112
abbrev qpi:Nat:=196
abbrev Z4:Nat:=195
abbrev Vu:Nat:=208
abbrev U2:Nat:=209
abbrev UI:Nat:=178
abbrev qpj:Nat:=175
abbrev Ol:Nat:=198
abbrev ZJ:Nat:=146
abbrev qkh:Nat:=174
abbrev qil:Nat:=176
abbrev Q6:Nat:=182
abbrev qml:Nat:=166
abbrev Zh:Nat:=185
abbrev qim:Nat:=186
abbrev WB:Nat:=188
abbrev Sa:Nat:=161
abbrev Xd:Nat:=181
abbrev qoo:Nat:=173
abbrev Qf:Nat:=197
abbrev qop:Nat:=144
abbrev Sn:Nat:=191
abbrev YZ:Nat:=160
abbrev qlf:Nat:=177
abbrev RV:Nat:=199
abbrev qmn:Nat:=207
abbrev sr:Nat:=211
abbrev TE:Nat:=170
abbrev iw:Nat:=194
abbrev ZK:Nat:=164
abbrev qjd:Nat:=187
abbrev qhk:Nat:=201
abbrev Tj:Nat:=203
abbrev R7:Nat:=204
abbrev Te:Nat:=205
abbrev WT:Nat:=147
abbrev FA:Nat:=1
abbrev KV:Nat:=288
abbrev Ri:Nat:=289
abbrev CP:Nat:=189
abbrev Js:Nat:=107
abbrev DY:Nat:=192
abbrev NU:Nat:=43
abbrev U1:th:=[(42,⟨[0],false,[0]⟩,[]),(108,⟨[0,2],false,[0,2,10,18]⟩,[]),(137,⟨[0,1,4,5,6,7],false,[0,2,12,24]⟩,[]),(142,⟨[0,1,2,6,7],false,[0,4,12]⟩,[]),(143,⟨[0,2,3],false,[0,2,12,14,24]⟩,[]),(130,⟨[0,2,3],false,[0,4,12]⟩,[]),(110,⟨[0,2,3,4],false,[0,2,10]⟩,[(3,[0,2,4,6,8,10,12,14,16,18,15,17,20])]),(113,⟨[0,1,2,6,7],false,[0,2,10,12,20]⟩,[]),(115,⟨[0,2],false,[0]⟩,[]),(139,⟨[0,2],false,[0,2,10]⟩,[]),(148,⟨[0,2],false,[0,2,10]⟩,[]),(111,⟨[0,2],false,[0,2,10]⟩,[]),(112,⟨[0,2],false,[0]⟩,[]),(144,⟨[0,2],false,[0]⟩,[]),(146,⟨[0,1,2,3,4,5],false,[0]⟩,[]),(147,⟨[0],false,[0]⟩,[]),(164,⟨[0,1,4,5],false,[0,4,12]⟩,[]),(166,⟨[0,1,2,3],false,[0]⟩,[]),(161,⟨[0,1,2,3],false,[0]⟩,[]),(160,⟨[0,2],false,[0,2,10,18]⟩,[]),(170,⟨[0,1],false,[0]⟩,[]),(173,⟨[0,1,2,5],false,[0]⟩,[]),(174,⟨[0,1,2,3],false,[0]⟩,[]),(177,⟨[0,1,2,3],false,[0]⟩,[]),(178,⟨[0,1],false,[0]⟩,[]),(185,⟨[0,1,2,3],false,[0]⟩,[]),(181,⟨[0,1],false,[0]⟩,[(0,[0,2,4,6,8,10,3,5,12,14,16])]),(175,⟨[0,1,2,3,4,9],false,[0]⟩,[]),(194,⟨[0,1],false,[0,8]⟩,[(4,[0,2,4,6,8,10,1,12])]),(196,⟨[0,1,2,4],false,[0]⟩,[]),(197,⟨[0,1,2],false,[0]⟩,[]),(176,⟨[0,1,2,3],false,[0,8]⟩,[]),(199,⟨[0,1,2],false,[0,8]⟩,[]),(182,⟨[0],false,[0]⟩,[]),(191,⟨[0,1],false,[0]⟩,[]),(186,⟨[0,1,2,3,5,6],false,[0,8,10,18]⟩,[]),(198,⟨[0,1,2],false,[0]⟩,[]),(187,⟨[0,1,2,3],false,[0]⟩,[]),(195,⟨[0,1,2,3],false,[0,2,10]⟩,[]),(188,⟨[0,1],false,[0]⟩,[]),(201,⟨[0,1,2,3,4,5,6,7,8],false,[0]⟩,[]),(207,⟨[0,1,2,3,7],false,[0]⟩,[]),(208,⟨[0,1],false,[0]⟩,[]),(209,⟨[0],false,[0]⟩,[]),(203,⟨[0,1,2,3,4],false,[0,8]⟩,[]),(204,⟨[0,1,2,3],false,[0,8]⟩,[]),(205,⟨[0,1,2,3,4],false,[0,8]⟩,[]),(211,⟨[0,1,2],false,[0]⟩,[])]
def VU(n:Nat):Kp:=jF n U1
def W4(n k:Nat):Kp×ai:=(VU n,part (aY Tryz.prog n) k)
def q1l(n k:Nat):W4 n k=(VU n,part (aY Tryz.prog n) k):=rfl
def jd:=@jY M _ W4 VU q1l
attribute [local irreducible] W4
def jc(M:ak)(c:Ctx):=by
 have h:=nV q1l M c U1 (by kernel_rfl)
 conv at h=>arg 5;reduce
 delta PR RL mP fX mW fV nY ir lW fI gj fN nK ng pV rW rz U1 at h
 simp only[yP,yA,yB,xN,Int.reduceOfNat,Int.reduceNegSucc]at h;exact h
def ei(M:ak)(c:Ctx):=(jc M c).2.2.2.2.2.2.2.2
def ez(M:ak)(c:Ctx):=(ei M c).2.2.2.2.2.2.2.2
def fe(M:ak)(c:Ctx):=(ez M c).2.2.2.2.2.2.2.2
def ff(M:ak)(c:Ctx):=(fe M c).2.2.2.2.2.2.2.2
def fu(M:ak)(c:Ctx):=(ff M c).2.2.2.2.2.2.2.2
def xhp(M:ak)(c:Ctx):=(jc M c).1
def xho:=@jd M _ q6b [.tmp 0] [] (by kernel_rfl) H Q
def TO(M:ak)(c:Ctx):=(jc M c).2.1
def qwz:=@jd M _ qmg [.tmp 2] [a0] (by kernel_rfl) H Q
def Sd(M:ak)(c:Ctx):=(jc M c).2.2.1
def qzt:=@jd M _ qok [.tmp 4] [a0,a1] (by kernel_rfl) H Q
def OG(M:ak)(c:Ctx):=(jc M c).2.2.2.1
def qw2:=@jd M _ qmi [.tmp 6] [a0,a1,a2] (by kernel_rfl) H Q
def Wy(M:ak)(c:Ctx):=(jc M c).2.2.2.2.1
def quv:=@jd M _ qlc [.tmp 2] [a0] (by kernel_rfl) H Q
def TH(M:ak)(c:Ctx):=(jc M c).2.2.2.2.2.1
def qzu:=@jd M _ i1 [.tmp 2] [a0] (by kernel_rfl) H Q
def qzw(M:ak)(c:Ctx):=(jc M c).2.2.2.2.2.2.1
def qzv:=@jd M _ Zv [.cw 4 2,.tmp 3] [a0] (by kernel_rfl) H Q
def tb(M:ak)(c:Ctx):=(jc M c).2.2.2.2.2.2.2.1
def qzs:=@jd M _ se [.tmp 6] [a0,a1,a2] (by kernel_rfl) H Q
def qzr(M:ak)(c:Ctx):=(ei M c).1
def qzq:=@jd M _ qoi [.tmp 2] [a0] (by kernel_rfl) H Q
def qw4(M:ak)(c:Ctx):=(ei M c).2.1
def qw3:=@jd M _ qmj [.tmp 2] [a0] (by kernel_rfl) H Q
def qw1(M:ak)(c:Ctx):=(ei M c).2.2.1
def qw0:=@jd M _ qmh [.tmp 2] [a0] (by kernel_rfl) H Q
def qux(M:ak)(c:Ctx):=(ei M c).2.2.2.1
def quw:=@jd M _ Zf [.tmp 2] [a0] (by kernel_rfl) H Q
def qs0(M:ak)(c:Ctx):=(ei M c).2.2.2.2.1
def qsz:=@jd M _ qkg [.tmp 2] [a0] (by kernel_rfl) H Q
def qz3(M:ak)(c:Ctx):=(ei M c).2.2.2.2.2.1
def qz2:=@jd M _ qop [.tmp 2] [a0] (by kernel_rfl) H Q
def qxa(M:ak)(c:Ctx):=(ei M c).2.2.2.2.2.2.1
def qw9:=@jd M _ ZJ [] [a0,a1,a2] (by kernel_rfl) H Q
def qz7(M:ak)(c:Ctx):=(ei M c).2.2.2.2.2.2.2.1
def qz6:=@jd M _ WT [] [a0] (by kernel_rfl) H Q
def UE(M:ak)(c:Ctx):=(ez M c).1
def qs9:=@jd M _ ZK [.tmp 4] [a0,a1] (by kernel_rfl) H Q
def qxc(M:ak)(c:Ctx):=(ez M c).2.1
def qxb:=@jd M _ qml [] [a0,a1] (by kernel_rfl) H Q
def qxe(M:ak)(c:Ctx):=(ez M c).2.2.1
def qxd:=@jd M _ Sa [] [a0,a1] (by kernel_rfl) H Q
def qxi(M:ak)(c:Ctx):=(ez M c).2.2.2.1
def qxh:=@jd M _ YZ [.tmp 2] [a0] (by kernel_rfl) H Q
def qz5(M:ak)(c:Ctx):=(ez M c).2.2.2.2.1
def qz4:=@jd M _ TE [] [a0] (by kernel_rfl) H Q
def qz1(M:ak)(c:Ctx):=(ez M c).2.2.2.2.2.1
def qz0:=@jd M _ qoo [] [a0,a1,a2] (by kernel_rfl) H Q
def qs2(M:ak)(c:Ctx):=(ez M c).2.2.2.2.2.2.1
def qs1:=@jd M _ qkh [] [a0,a1,a2,a3] (by kernel_rfl) H Q
def qu5(M:ak)(c:Ctx):=(ez M c).2.2.2.2.2.2.2.1
def qu4:=@jd M _ qlf [] [a0,a1] (by kernel_rfl) H Q
def qw6(M:ak)(c:Ctx):=(fe M c).1
def qw5:=@jd M _ UI [] [a0,a1] (by kernel_rfl) H Q
def qs4(M:ak)(c:Ctx):=(fe M c).2.1
def qs3:=@jd M _ Zh [] [a0,a1,a2] (by kernel_rfl) H Q
def qs6(M:ak)(c:Ctx):=(fe M c).2.2.1
def qs5:=@jd M _ Xd [] [a0,a1] (by kernel_rfl) H Q
def q4x(M:ak)(c:Ctx):=(fe M c).2.2.2.1
def q4w:=@jd M _ qpj [] [a0,a1,a2,a3,a4] (by kernel_rfl) H Q
def pf(M:ak)(c:Ctx):=(fe M c).2.2.2.2.1
def qu6:=@jd M _ iw [] [a0,a1] (by kernel_rfl) H Q
def q4v(M:ak)(c:Ctx):=(fe M c).2.2.2.2.2.1
def q4u:=@jd M _ qpi [] [a0,a1,a2] (by kernel_rfl) H Q
def qu3(M:ak)(c:Ctx):=(fe M c).2.2.2.2.2.2.1
def qu2:=@jd M _ Qf [] [a0,a1,a2] (by kernel_rfl) H Q
def qw(M:ak)(c:Ctx):=(fe M c).2.2.2.2.2.2.2.1
def qqi:=@jd M _ qil [] [a0,a1,a2,a3] (by kernel_rfl) H Q
def Sc(M:ak)(c:Ctx):=(ff M c).1
def Y8:=@jd M _ RV [] [a0,a1,a2] (by kernel_rfl) H Q
def qzz(M:ak)(c:Ctx):=(ff M c).2.1
def qzy:=@jd M _ Q6 [] [a0] (by kernel_rfl) H Q
def qxg(M:ak)(c:Ctx):=(ff M c).2.2.1
def qxf:=@jd M _ Sn [] [a0,a1] (by kernel_rfl) H Q
def LW(M:ak)(c:Ctx):=(ff M c).2.2.2.1
def qqj:=@jd M _ qim [] [a0,a1,a2,a3] (by kernel_rfl) H Q
def qw8(M:ak)(c:Ctx):=(ff M c).2.2.2.2.1
def qw7:=@jd M _ Ol [] [a0,a1,a2] (by kernel_rfl) H Q
def qrg(M:ak)(c:Ctx):=(ff M c).2.2.2.2.2.1
def qrf:=@jd M _ qjd [] [a0,a1] (by kernel_rfl) H Q
def yb(M:ak)(c:Ctx):=(ff M c).2.2.2.2.2.2.1
def qzx:=@jd M _ Z4 [] [a0,a1] (by kernel_rfl) H Q
def qnx(M:ak)(c:Ctx):=(ff M c).2.2.2.2.2.2.2.1
def qnw:=@jd M _ WB [] [a0,a1] (by kernel_rfl) H Q
def qo4(M:ak)(c:Ctx):=(fu M c).1
def qo3:=@jd M _ qhk [] [a0,a1,a2] (by kernel_rfl) H Q
def qxk(M:ak)(c:Ctx):=(fu M c).2.1
def qxj:=@jd M _ qmn [] [a0,a1,a2,a3] (by kernel_rfl) H Q
def quz(M:ak)(c:Ctx):=(fu M c).2.2.1
def quy:=@jd M _ Vu [] [a0,a1] (by kernel_rfl) H Q
def qu1(M:ak)(c:Ctx):=(fu M c).2.2.2.1
def qu0:=@jd M _ U2 [] [a0] (by kernel_rfl) H Q
def tr(M:ak)(c:Ctx):=(fu M c).2.2.2.2.1
def qm4:=@jd M _ Tj [] [a0,a1,a2,a3,a4] (by kernel_rfl) H Q
def u2(M:ak)(c:Ctx):=(fu M c).2.2.2.2.2.1
def qm5:=@jd M _ R7 [] [a0,a1,a2,a3] (by kernel_rfl) H Q
def Zr(M:ak)(c:Ctx):=(fu M c).2.2.2.2.2.2.1
def qm6:=@jd M _ Te [] [a0,a1,a2,a3,a4] (by kernel_rfl) H Q
def qs8(M:ak)(c:Ctx):=(fu M c).2.2.2.2.2.2.2
def qs7:=@jd M _ sr [] [a0,a1,a2] (by kernel_rfl) H Q
abbrev ZC:Nat:=11
abbrev qn3:Nat:=10
abbrev qrh:Nat:=13
abbrev ql4:Nat:=14
abbrev S1:Nat:=12
abbrev VQ:Nat:=46
abbrev TS:Nat:=47
abbrev xn:Nat:=100
abbrev ql5:Nat:=77
abbrev qk7:Nat:=71
abbrev qk8:Nat:=78
abbrev Yx:Nat:=109
abbrev qj5:Nat:=76
abbrev qig:Nat:=114
abbrev MH:Nat:=74
abbrev qk9:Nat:=116
abbrev E3:Nat:=107
abbrev T6:Nat:=102
abbrev Xb:Nat:=98
abbrev ql6:Nat:=70
abbrev qn6:Nat:=140
abbrev Mj:Nat:=167
abbrev ql7:Nat:=117
abbrev Yk:Nat:=72
abbrev Vq:Nat:=138
abbrev O7:Nat:=103
abbrev ql8:Nat:=73
abbrev nu:Nat:=26
abbrev ql9:Nat:=75
abbrev Yw:Nat:=141
abbrev PQ:Nat:=104
abbrev Yl:Nat:=67
abbrev q59:Nat:=20
abbrev hT:Nat:=40
abbrev vx:Nat:=45
abbrev Fg:Nat:=112
abbrev Ep:Nat:=31
abbrev we:Nat:=47
abbrev UC:th:=[(20,⟨[0,1,2,3,6,8,9,10,11],false,[0,4,12]⟩,[]),(47,⟨[0,2,3,4,5,6,7,11],false,[0,11,16,30,43,21,35,48,57,64,69,79]⟩,[]),(12,⟨[0,2,8],false,[0,2,10]⟩,[]),(13,⟨[0,2],false,[0,2,10]⟩,[]),(14,⟨[0,2,3,4,8],false,[0,2,10]⟩,[]),(8,⟨[0,2,3],false,[0]⟩,[(1,[0,18,2,4,6,8,10,12,14,16,20,15,22,24,26,28,30,32,34,36,38])]),(10,⟨[0,2],false,[0,2,10]⟩,[]),(11,⟨[0,2],false,[0,2,10]⟩,[]),(9,⟨[0,2,5],false,[0,2,10]⟩,[]),(40,⟨[0,2],false,[0,2,10]⟩,[]),(70,⟨[0,2,3,4,5,6,54],false,[0,4,16,8,39,22,14,45,30,55,63]⟩,[(6,[0,2,4,6,8,10,12,14,16,18,20,24,22,7,13,26,28,30])]),(71,⟨[0,20],false,[0,4,19]⟩,[]),(72,⟨[0,1,4,5,6,7,8],false,[0]⟩,[]),(73,⟨[0,2,3],false,[0]⟩,[]),(74,⟨[0,2,4,5,6,7,8,18],false,[0,1,5,7,9,26,21,32,36,38,44,50]⟩,[(12,[0,2,4,6,10,12,14,16,8,17,18,20,22])]),(75,⟨[0,1,2,6,7,8],false,[0]⟩,[]),(76,⟨[0],false,[0]⟩,[(2,[0,2,4,6,8,10,12,14,16,7,18,20])]),(77,⟨[0,2],false,[0,14,4,12]⟩,[]),(78,⟨[0],false,[0]⟩,[]),(26,⟨[0,2],false,[0]⟩,[]),(98,⟨[0,6],false,[0,15]⟩,[]),(100,⟨[0,1,4,5],false,[0,2,10]⟩,[]),(102,⟨[0,1],false,[0]⟩,[]),(103,⟨[0,1,2,3,4,7,8,9,14,47,48,49],false,[0,2,30,11,25,19]⟩,[(5,[0,2,4,6,8,10,3,12,14,16]),(6,[0,2,4,6,8,10,12,1,3,14])]),(300103,⟨[0,1,2,3,4,7,8,9,14,47,48,49],false,[0]⟩,[(5,[0,2,4,6,8,10,3,12,14,16]),(6,[0,2,4,6,8,10,12,1,3,14])]),(200103,⟨[0,1,2,3,4,7,8,9,14,47,48,49],false,[0]⟩,[(5,[0,2,4,6,8,10,3,12,14,16]),(6,[0,2,4,6,8,10,12,1,3,14])]),(104,⟨[0,1,2,4,6,7,12,71,72,73],false,[0,8,13,18,30,46,26,32,37,43]⟩,[]),(300104,⟨[0,1,2,4,6,7,12,71,72,73],false,[0]⟩,[]),(200104,⟨[0,1,2,4,6,7,12,71,72,73],false,[0]⟩,[]),(107,⟨[0],false,[0,11]⟩,[]),(67,⟨[0,1,2,3,4,10],false,[0,2,8]⟩,[(2,[0,2,4,6,8,10,12,14,16,20,22,24,26,30,18,7,27,28,7,32,34,36,38,40])]),(109,⟨[0,1,2,3,8,9,10,11,12],false,[0]⟩,[]),(114,⟨[0],false,[0,6]⟩,[]),(116,⟨[0],false,[0,9]⟩,[(7,[0,2,4,6,8,10,12,14,16,18,9,20])]),(117,⟨[0],false,[0]⟩,[]),(138,⟨[0,1,2,4,6,8],false,[0,4,6,12]⟩,[]),(140,⟨[0,1,2,3,4],false,[0]⟩,[]),(141,⟨[0,1,2,3,6],false,[0]⟩,[]),(46,⟨[0,1],false,[0]⟩,[]),(167,⟨[0,1,2,4,5,9,10,11],false,[0,4,10,19]⟩,[])]
def XO(n:Nat):Kp:=jF n UC
def FB(n k:Nat):Kp×ai:=(XO n,part (aY Tryz.prog n) k)
def q1b(n k:Nat):FB n k=(XO n,part (aY Tryz.prog n) k):=rfl
def kq:=@jY M _ FB XO q1b
attribute [local irreducible] FB
def z6(M:ak)(c:Ctx):=by
 have h:=nV q1b M c UC (by kernel_rfl)
 conv at h=>arg 5;reduce
 delta PR RL mP fX mW fV nY ir lW fI gj fN nK qU uD sD ng pV rW rz UC at h
 simp only[yP,yA,yB,xN,Int.reduceOfNat,Int.reduceNegSucc]at h;exact h
def fB(M:ak)(c:Ctx):=(z6 M c).2.2.2.2.2.2.2.2
def fS(M:ak)(c:Ctx):=(fB M c).2.2.2.2.2.2.2.2
def f0(M:ak)(c:Ctx):=(fS M c).2.2.2.2.2.2.2.2
def gX(M:ak)(c:Ctx):=(f0 M c).2.2.2.2.2.2.2.2
def HW(M:ak)(c:Ctx):=(z6 M c).1
def xgd:=@kq M _ q59 [.tmp 8,.tmp 9] [a0,a1,a2,a3] (by kernel_rfl) H Q
def jt(M:ak)(c:Ctx):=(z6 M c).2.1
def q2q:=@kq M _ TS [] [a0] (by kernel_rfl) H Q
def qyb(M:ak)(c:Ctx):=(z6 M c).2.2.1
def qya:=@kq M _ S1 [.cw 8 2] [a0] (by kernel_rfl) H Q
def q5g(M:ak)(c:Ctx):=(z6 M c).2.2.2.1
def q5f:=@kq M _ qrh [.tmp 2] [a0] (by kernel_rfl) H Q
def qvo(M:ak)(c:Ctx):=(z6 M c).2.2.2.2.1
def qvn:=@kq M _ ql4 [.cw 8 2,.tmp 3,.tmp 4] [a0] (by kernel_rfl) H Q
def qx9(M:ak)(c:Ctx):=(z6 M c).2.2.2.2.2.2.1
def qx8:=@kq M _ qn3 [.tmp 2] [a0] (by kernel_rfl) H Q
def qvm(M:ak)(c:Ctx):=(z6 M c).2.2.2.2.2.2.2.1
def qvl:=@kq M _ ZC [.tmp 2] [a0] (by kernel_rfl) H Q
def qgm(M:ak)(c:Ctx):=(fB M c).2.1
def qm3:=@kq M _ hT [.tmp 2] [a0] (by kernel_rfl) H Q
def ja(M:ak)(c:Ctx):=(fB M c).2.2.1
def qvt:=@kq M _ ql6 [] [a0] (by kernel_rfl) H Q
def PG(M:ak)(c:Ctx):=(fB M c).2.2.2.1
def qtt:=@kq M _ qk7 [] [a0] (by kernel_rfl) H Q
def qym(M:ak)(c:Ctx):=(fB M c).2.2.2.2.1
def qyl:=@kq M _ Yk [.tmp 4,.tmp 5] [a0,a1] (by kernel_rfl) H Q
def qvy(M:ak)(c:Ctx):=(fB M c).2.2.2.2.2.1
def qvx:=@kq M _ ql8 [] [a0] (by kernel_rfl) H Q
def ze(M:ak)(c:Ctx):=(fB M c).2.2.2.2.2.2.1
def qvs:=@kq M _ MH [] [a0] (by kernel_rfl) H Q
def qv0(M:ak)(c:Ctx):=(fB M c).2.2.2.2.2.2.2.1
def qvz:=@kq M _ ql9 [.tmp 6] [a0,a1,a2] (by kernel_rfl) H Q
def qsa(M:ak)(c:Ctx):=(fS M c).1
def qr9:=@kq M _ qj5 [] [a0] (by kernel_rfl) H Q
def SI(M:ak)(c:Ctx):=(fS M c).2.1
def qvr:=@kq M _ ql5 [] [a0] (by kernel_rfl) H Q
def qtv(M:ak)(c:Ctx):=(fS M c).2.2.1
def qtu:=@kq M _ qk8 [] [a0] (by kernel_rfl) H Q
def qyo(M:ak)(c:Ctx):=(fS M c).2.2.2.1
def qyn:=@kq M _ nu [.tmp 2] [a0] (by kernel_rfl) H Q
def Q3(M:ak)(c:Ctx):=(fS M c).2.2.2.2.1
def qsb:=@kq M _ Xb [] [a0] (by kernel_rfl) H Q
def Zn(M:ak)(c:Ctx):=(fS M c).2.2.2.2.2.1
def q5h:=@kq M _ xn [.tmp 4,.tmp 5] [a0,a1] (by kernel_rfl) H Q
def qyi(M:ak)(c:Ctx):=(fS M c).2.2.2.2.2.2.1
def qyh:=@kq M _ T6 [] [a0,a1] (by kernel_rfl) H Q
def R6:b9:=funcAt Tryz.prog O7
def O4:dZ:=jM R6 0
abbrev XZ(k:Nat):Kp×ai:=FB 300103 k
abbrev XX(k:Nat):Kp×ai:=FB 200103 k
def sy:nth R6.loops 0=some O4/\O4.params=[48,49]:=⟨by kernel_rfl,by kernel_rfl⟩
def qsc:(XZ 0).1.ah=[0,1,2,3,4,7,8,9,14,47,48,49]/\(XZ 0).2=O4.assign:=⟨by kernel_rfl,by kernel_rfl⟩
def qsd:(XX 0).1.ah=[0,1,2,3,4,7,8,9,14,47,48,49]/\(XX 0).2=O4.body:=⟨by kernel_rfl,by kernel_rfl⟩
def qtz:M.func O7=some R6:=MK.at (by decide) (by kernel_rfl)
def Le(M:ak)(c:Ctx):=And.intro (fS M c).2.2.2.2.2.2.2.1.1 (And.intro (f0 M c).1 (And.intro (f0 M c).2.1 (And.intro (fS M c).2.2.2.2.2.2.2.1.2.1 (And.intro (fS M c).2.2.2.2.2.2.2.1.2.2.1 (And.intro (fS M c).2.2.2.2.2.2.2.1.2.2.2.1 (And.intro (fS M c).2.2.2.2.2.2.2.1.2.2.2.2.1 ((fS M c).2.2.2.2.2.2.2.1.2.2.2.2.2)))))))
def qvw:=@kq M _ O7 [] [a0,a1,a2] (by kernel_rfl) H Q
def RM:b9:=funcAt Tryz.prog PQ
def PO:dZ:=jM RM 0
abbrev VM(k:Nat):Kp×ai:=FB 300104 k
abbrev W6(k:Nat):Kp×ai:=FB 200104 k
def ZZ:nth RM.loops 0=some PO/\PO.params=[72,73]:=⟨by kernel_rfl,by kernel_rfl⟩
def qq2:(VM 0).1.ah=[0,1,2,4,6,7,12,71,72,73]/\(VM 0).2=PO.assign:=⟨by kernel_rfl,by kernel_rfl⟩
def qq3:(W6 0).1.ah=[0,1,2,4,6,7,12,71,72,73]/\(W6 0).2=PO.body:=⟨by kernel_rfl,by kernel_rfl⟩
def qse:M.func PQ=some RM:=MK.at (by decide) (by kernel_rfl)
def vf(M:ak)(c:Ctx):=And.intro (f0 M c).2.2.1.1 (And.intro (f0 M c).2.2.2.1 (And.intro (f0 M c).2.2.2.2.1 (And.intro (f0 M c).2.2.1.2.1 (And.intro (f0 M c).2.2.1.2.2.1 (And.intro (f0 M c).2.2.1.2.2.2.1 (And.intro (f0 M c).2.2.1.2.2.2.2.1 (And.intro (f0 M c).2.2.1.2.2.2.2.2.1 (And.intro (f0 M c).2.2.1.2.2.2.2.2.2.1 (And.intro (f0 M c).2.2.1.2.2.2.2.2.2.2.1 (And.intro (f0 M c).2.2.1.2.2.2.2.2.2.2.2.1 ((f0 M c).2.2.1.2.2.2.2.2.2.2.2.2)))))))))))
def qt2:=@kq M _ PQ [] [a0,a1,a2] (by kernel_rfl) H Q
def Pa(M:ak)(c:Ctx):=(f0 M c).2.2.2.2.2.1
def qyg:=@kq M _ E3 [] [a0] (by kernel_rfl) H Q
def UN(M:ak)(c:Ctx):=(f0 M c).2.2.2.2.2.2.1
def qyp:=@kq M _ Yl [] [a0,a1,a2,a3,a4] (by kernel_rfl) H Q
def q2s(M:ak)(c:Ctx):=(f0 M c).2.2.2.2.2.2.2.1
def q2r:=@kq M _ Yx [.tmp 8,.tmp 9] [a0,a1,a2,a3] (by kernel_rfl) H Q
def VJ(M:ak)(c:Ctx):=(gX M c).1
def qpq:=@kq M _ qig [] [a0] (by kernel_rfl) H Q
def NK(M:ak)(c:Ctx):=(gX M c).2.1
def qtw:=@kq M _ qk9 [] [a0] (by kernel_rfl) H Q
def qvv(M:ak)(c:Ctx):=(gX M c).2.2.1
def qvu:=@kq M _ ql7 [] [a0] (by kernel_rfl) H Q
def ZG(M:ak)(c:Ctx):=(gX M c).2.2.2.1
def qty:=@kq M _ Vq [] [a0,a1,a2] (by kernel_rfl) H Q
def qyk(M:ak)(c:Ctx):=(gX M c).2.2.2.2.1
def qyj:=@kq M _ qn6 [.tmp 4] [a0,a1] (by kernel_rfl) H Q
def qt1(M:ak)(c:Ctx):=(gX M c).2.2.2.2.2.1
def qt0:=@kq M _ Yw [] [a0,a1,a2,a3] (by kernel_rfl) H Q
def qvq(M:ak)(c:Ctx):=(gX M c).2.2.2.2.2.2.1
def qvp:=@kq M _ VQ [] [a0,a1] (by kernel_rfl) H Q
def Og(M:ak)(c:Ctx):=(gX M c).2.2.2.2.2.2.2
def qtx:=@kq M _ Mj [] [a0,a1,a2] (by kernel_rfl) H Q
abbrev JE:Nat:=22
abbrev kr:Nat:=44
abbrev Ul:th:=[(100022,⟨[0,1,2,4,5,6,30],false,[0,2,29,16]⟩,[(9,[0,2,4,6,8,10,3,12,14,16])]),(9900022,⟨[0,1,2,4,5,6,30],false,[0,2,16,8,14]⟩,[(9,[0,2,4,6,8,10,3,12,14,16])]),(44,⟨[0],false,[0]⟩,[])]
def q9s(n:Nat):Kp:=jF n Ul
def OM(n k:Nat):Kp×ai:=(q9s n,part (aY Tryz.prog n) k)
def XH(n k:Nat):OM n k=(q9s n,part (aY Tryz.prog n) k):=rfl
attribute [local irreducible] OM
def EM(M:ak)(c:Ctx):=by
 have h:=nV XH M c Ul (by kernel_rfl)
 conv at h=>arg 5;reduce
 delta PR RL mP fX mW fV nY ir lW fI gj fN nK uD ng rW rz Ul at h
 simp only[yP,yA,yB,xN,Int.reduceOfNat,Int.reduceNegSucc]at h;exact h
def qyc:b9:=funcAt Tryz.prog JE
abbrev qye(k:Nat):Kp×ai:=OM 100022 k
abbrev qyf(k:Nat):Kp×ai:=OM 9900022 k
def yz(M:ak)(c:Ctx):=And.intro (EM M c).1.1 (And.intro (EM M c).2.1.1 (And.intro (EM M c).1.2.1 (And.intro (EM M c).2.1.2.1 (And.intro (EM M c).1.2.2.1 (And.intro (EM M c).1.2.2.2 (And.intro (EM M c).2.1.2.2.1 (And.intro (EM M c).2.1.2.2.2.1 ((EM M c).2.1.2.2.2.2))))))))
def qyd(h:W M ⟨none,JE⟩ (qye 0) true (Aj M ⟨none,JE⟩ (qyf 0) 30 (eY M [.tmp 4,.tmp 5] Q)) (jO 0 [a0,a1]) [] H):ET M JE [a0,a1] H Q:=P1 XH (MK.at (by decide) (by kernel_rfl:(aV Tryz.prog).func JE=some qyc)) (by kernel_rfl) (by kernel_rfl) (by kernel_rfl) (by kernel_rfl) (by kernel_rfl) (by kernel_rfl) h
def qtr{up:Option aE}(h:W M ⟨none,kr⟩ (OM kr 0) true (eY M [] Q) (jO 0 [a0]) [] H):∃e H',i6 M kr [a0] up H e up H'/\Q e H':=Gr XH (MK.at (by decide) (by kernel_rfl:(aV Tryz.prog).func kr=some (funcAt Tryz.prog kr))) (by kernel_rfl) (by kernel_rfl) (by kernel_rfl) h
def qts(M:ak)(c:Ctx):=(EM M c).2.2
abbrev q02:Nat:=63
abbrev q03:Nat:=64
abbrev q04:Nat:=36
abbrev mo:Nat:=37
abbrev i2:Nat:=19
abbrev hZ:Nat:=43
abbrev q08:Nat:=21
abbrev BD:Nat:=4
abbrev QK:Nat:=71
abbrev Xe:Nat:=129
abbrev vp:Nat:=74
abbrev qti:Nat:=180
abbrev Ku:Nat:=132
abbrev vq:Nat:=78
abbrev vr:Nat:=95
abbrev Wx:th:=[(19,⟨[0,1,2,4,5,6,7,8,9,10,11,12],false,[0,4,12,14,39,19,54,44,25,50,38,29,53,37]⟩,[]),(21,⟨[0,1,2,3,6,8,9,10,60],false,[0,4,12]⟩,[]),(36,⟨[0,1,3,4,5,6,7,8,9],false,[0,4,12,14,29,19,25,28]⟩,[]),(37,⟨[0,1,3,4,5,6,7,20],false,[0,4,12]⟩,[]),(38,⟨[0,1,2,5,6,7],false,[0,2,10,25,15,21,24]⟩,[]),(43,⟨[0,1,2],false,[0]⟩,[]),(63,⟨[0,1,2,3],false,[0,2,10]⟩,[]),(64,⟨[0,1,4,5],false,[0,2,10]⟩,[])]
def Tq(n:Nat):Kp:=jF n Wx
def VT(n k:Nat):Kp×ai:=(Tq n,part (aY Tryz.prog n) k)
def q1n(n k:Nat):VT n k=(Tq n,part (aY Tryz.prog n) k):=rfl
def Ja:=@jY M _ VT Tq q1n
attribute [local irreducible] VT
def Jo(M:ak)(c:Ctx):=by
 have h:=nV q1n M c Wx (by kernel_rfl)
 conv at h=>arg 5;reduce
 delta PR RL mP fX mW fV nY lW fI gj fN nK qU ng rW rz Wx at h
 simp only[yP,yA,yB,xN,Int.reduceOfNat,Int.reduceNegSucc]at h;exact h
def Gl(M:ak)(c:Ctx):=(Jo M c).1
def xdv:=@Ja M _ i2 [.cw 5 4,.tmp 5] [a0,a1] (by kernel_rfl) H Q
def IQ(M:ak)(c:Ctx):=(Jo M c).2.1
def xdx:=@Ja M _ q08 [.cw 60 8,.tmp 9] [a0,a1,a2,a3] (by kernel_rfl) H Q
def IP(M:ak)(c:Ctx):=(Jo M c).2.2.1
def xdt:=@Ja M _ q04 [.cw 3 4,.tmp 5] [a0,a1] (by kernel_rfl) H Q
def IJ(M:ak)(c:Ctx):=(Jo M c).2.2.2.1
def xdu:=@Ja M _ mo [.cw 20 4,.tmp 5] [a0,a1] (by kernel_rfl) H Q
def Jd(M:ak)(c:Ctx):=(Jo M c).2.2.2.2.2.1
def xdw:=@Ja M _ hZ [.tmp 2] [a0] (by kernel_rfl) H Q
def XM(M:ak)(c:Ctx):=(Jo M c).2.2.2.2.2.2.1
def xdr:=@Ja M _ q02 [.cw 1 2,.tmp 3] [a0] (by kernel_rfl) H Q
def Pb(M:ak)(c:Ctx):=(Jo M c).2.2.2.2.2.2.2
def xds:=@Ja M _ q03 [.cw 4 4,.tmp 5] [a0,a1] (by kernel_rfl) H Q
abbrev jj:Nat:=4
abbrev qxo:Nat:=6
abbrev qxp:Nat:=7
abbrev mf:Nat:=38
abbrev tP:Nat:=53
abbrev qx4:Nat:=42
abbrev yp:Nat:=28
abbrev Xv:th:=[(4,⟨[0,1,2,4,5,6,7,10,12,13,14,15,16,17,18,19,20,21,22],false,[0,4,6,14,18,20,91,25,31,90,35,68,40,72,46,78,67,58,89]⟩,[(15,[0,2,4,6,10,12,14,8,15,16]),(26,[0,2,4,6,8,10,12,14,16,18,20,24,26,28,22,29,30,32,34,36,38,40,44,46,48,42,49,50,52,54])]),(3,⟨[0,1,2,4,5,6,7,10,12,13,14,15,16,17,19,20,21,22],false,[0,4,6,14,18,104,23,29,103,33,58,38,62,44,68,57,50,102,72,93,77,101,83,92]⟩,[(27,[0,2,4,6,8,10,12,14,16,18,20,24,26,28,22,29,30,32])]),(6,⟨[0,1,2,3,4,5,6,7,8,9,10,11,12,13,14,15,16,17,18],false,[0,4,6,14,18,47,23,29,46,35,43]⟩,[]),(7,⟨[0,1,2,5,6,7,10],false,[0,2,31,22]⟩,[])]
def Ui(n:Nat):Kp:=jF n Xv
def EH(n k:Nat):Kp×ai:=(Ui n,part (aY Tryz.prog n) k)
def q1g(n k:Nat):EH n k=(Ui n,part (aY Tryz.prog n) k):=rfl
def Wo:=@jY M _ EH Ui q1g
attribute [local irreducible] EH
def Yt(M:ak)(c:Ctx):=by
 have h:=nV q1g M c Xv (by kernel_rfl)
 conv at h=>arg 5;reduce
 delta PR RL mP fX mW fV nY ir lW fI gj fN nK qU ng rW rz Xv at h
 simp only[yP,yA,yB,xN,Int.reduceOfNat,Int.reduceNegSucc]at h;exact h
def RO(M:ak)(c:Ctx):=(Yt M c).1
def qyw:=@Wo M _ jj [.tmp 4] [a0,a1] (by kernel_rfl) H Q
def zK(M:ak)(c:Ctx):=(Yt M c).2.2.1
def xav:=@Wo M _ qxo [.tmp 2,.tmp 3,.tmp 4,.tmp 5,.tmp 6,.tmp 7] [a0] (by kernel_rfl) H Q
def yV(M:ak)(c:Ctx):=(Yt M c).2.2.2
def xaw:=@Wo M _ qxp [.tmp 6] [a0,a1,a2] (by kernel_rfl) H Q
end
end Go.Am
