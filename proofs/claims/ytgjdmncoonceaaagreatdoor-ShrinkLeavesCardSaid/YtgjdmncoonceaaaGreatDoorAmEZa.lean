import GoSem.Step
import Derived.CallsIn
import Derived.WalkKit
import Derived.WalkLawsBesides
import Derived.Lib.Strings
import Derived.Lib.Bytealg
import Derived.DeepKeys3
import Derived.Laws.Cover3
import Derived.Laws.Pointers
import Derived.Room.MakeNoZero
import Derived.Laws.IdiomStrings
set_option linter.defProp false
set_option linter.unusedVariables false
set_option linter.unusedSimpArgs false
open Array renaming range→Cx,toArray_toList→CA
open BitVec renaming ofInt→BH
open Bool renaming eq_iff_iff→Cg,false→B2,true→B4
open Go renaming Op→Cq,IntKind→OA,MapEntry→Bo,Oper→Pt,Operand→M6,Program→Jg,TypeId→Ku,Value→Kl,World→N7
open Go.Addr.mk renaming injEq→C5
open Go.Builtin renaming len_→D3
open Go.Deferred renaming ofValue→Bk
open Go.Instr renaming checkKey→Bl,findAsking→BT,findKey→Cz,findNow→CY,lookup→CX,sliceBounds→BP,sureAddr→CE
open Go.Op renaming equal→D2,equalIn→BQ
open Go.Region renaming before→CN
open Go.Result renaming andThen_ok→N9
open Go.Sem renaming run_bind→Nc,run_pure→B7
open Go.Value.slice renaming injEq→Bf
open List renaming range→N2,rec→Ap,replicate→I5
open Nat renaming beq→I4,ble→Nz,blt→Oz
open Option renaming none→B5,some→B1
open UInt8 renaming ofNat→Bi
namespace Go.Am
theorem qj:type_of% @Option.bind_eq_some_iff:=@Option.bind_eq_some_iff
def qk:type_of% @Option.some.injEq:=@Option.some.injEq
def qm:type_of% @Nat.le_refl:=@Nat.le_refl
def qn:type_of% @Nat.lt_of_lt_of_le:=@Nat.lt_of_lt_of_le
def qr:type_of% @Option.bind_some:=@Option.bind_some
def qt:type_of% @List.getElem?_eq_some_iff:=@List.getElem?_eq_some_iff
def qv:type_of% @eq_true:=@eq_true
def qy:type_of% @if_neg:=@if_neg
def xe:type_of% @List.length_append:=@List.length_append
def xf:type_of% @List.getElem?_eq_getElem:=@List.getElem?_eq_getElem
def xg:type_of% @if_pos:=@if_pos
def xq:type_of% @List.getElem?_map:=@List.getElem?_map
theorem xr:type_of% @Option.map_eq_some_iff:=@Option.map_eq_some_iff
def xt:type_of% @cond_true:=@cond_true
def xu:type_of% @List.length_map:=@List.length_map
def xw:type_of% @Nat.zero_le:=@Nat.zero_le
def xx:type_of% @Nat.le_trans:=@Nat.le_trans
def xz:type_of% @Nat.lt_or_ge:=@Nat.lt_or_ge
theorem zd:type_of% @List.take_of_length_le:=@List.take_of_length_le
def ze:type_of% @List.mem_of_getElem?:=@List.mem_of_getElem?
def zg:type_of% @List.length_set:=@List.length_set
def zi:type_of% @Prod.mk.injEq:=@Prod.mk.injEq
def zk:type_of% @List.getElem?_cons_zero:=@List.getElem?_cons_zero
def zm:type_of% @List.getElem?_set_self:=@List.getElem?_set_self
def zn:type_of% @Bool.and_eq_true:=@Bool.and_eq_true
def zo:type_of% @cond_false:=@cond_false
def zq:type_of% @List.append_nil:=@List.append_nil
def zr:type_of% @List.getElem?_set_ne:=@List.getElem?_set_ne
def zt:type_of% @List.length_cons:=@List.length_cons
def zu:type_of% @Nat.lt_succ_self:=@Nat.lt_succ_self
def zw:type_of% @List.getD_eq_getElem?_getD:=@List.getD_eq_getElem?_getD
def zy:type_of% @Bool.and_self:=@Bool.and_self
def zz:type_of% @Classical.byContradiction:=@Classical.byContradiction
def z4:type_of% @List.cons.injEq:=@List.cons.injEq
def z6:type_of% @List.getElem?_append_right:=@List.getElem?_append_right
def z8:type_of% @List.getElem?_cons_succ:=@List.getElem?_cons_succ
def ja:type_of% @Bool.false_eq_true:=@Bool.false_eq_true
def jd:type_of% @List.length_range:=@List.length_range
def jh:type_of% @List.length_replicate:=@List.length_replicate
def ji:type_of% @List.nil_append:=@List.nil_append
theorem jj:type_of% @List.drop_eq_nil_of_le:=@List.drop_eq_nil_of_le
def jk:type_of% @Int.eq_ofNat_of_zero_le:=@Int.eq_ofNat_of_zero_le
def jo:type_of% @List.length_nil:=@List.length_nil
def jp:type_of% @List.getElem?_eq_none:=@List.getElem?_eq_none
def jq:type_of% @List.mem_append:=@List.mem_append
def js:type_of% @List.length_eq_zero_iff:=@List.length_eq_zero_iff
def ju:type_of% @decide_eq_false:=@decide_eq_false
theorem jx:type_of% @List.length_take:=@List.length_take
theorem jz:type_of% @Nat.beq_eq:=@Nat.beq_eq
def j6:type_of% @List.map_cons:=@List.map_cons
def j7:type_of% @Nat.le_succ:=@Nat.le_succ
def j8:type_of% @List.flatMap_cons:=@List.flatMap_cons
def j9:type_of% @Nat.mul_le_mul_right:=@Nat.mul_le_mul_right
def kc:type_of% @Iff.rfl:=@Iff.rfl
def ke:type_of% @decide_eq_true:=@decide_eq_true
def kh:type_of% @List.flatMap_append:=@List.flatMap_append
def kj:type_of% @List.getElem?_range:=@List.getElem?_range
theorem kq:type_of% @List.take_add_one:=@List.take_add_one
def kw:type_of% @List.mem_cons:=@List.mem_cons
def ya:type_of% @Nat.zero_add:=@Nat.zero_add
def yd:type_of% @List.append_assoc:=@List.append_assoc
def yg:type_of% @List.length_drop:=@List.length_drop
def yk:type_of% @List.ext_getElem?:=@List.ext_getElem?
def yo:type_of% @List.take_zero:=@List.take_zero
def yt:type_of% @Option.bind_assoc:=@Option.bind_assoc
theorem yu:type_of% @List.take_append_drop:=@List.take_append_drop
def yx:type_of% @List.drop_zero:=@List.drop_zero
def yz:type_of% @List.getElem?_append_left:=@List.getElem?_append_left
def vi:type_of% @List.mem_singleton:=@List.mem_singleton
def vk:type_of% @Array.getElem?_toList:=@Array.getElem?_toList
theorem vm:type_of% @Nat.succ_mul:=@Nat.succ_mul
def vp:type_of% @Option.getD_some:=@Option.getD_some
def vx:type_of% @Option.isSome_some:=@Option.isSome_some
def vy:type_of% @List.eq_of_mem_replicate:=@List.eq_of_mem_replicate
def we:type_of% @List.drop_length_add_append:=@List.drop_length_add_append
theorem wg:type_of% @Nat.add_mul:=@Nat.add_mul
def wh:type_of% @Classical.not_not:=@Classical.not_not
def wn:type_of% @List.getElem?_drop:=@List.getElem?_drop
def wq:type_of% @List.mem_cons_self:=@List.mem_cons_self
def ww:type_of% @if_false:=@if_false
def PB:type_of% @List.take_append_of_le_length:=@List.take_append_of_le_length
def Ad:type_of% @Nat.add_assoc:=@Nat.add_assoc
def G7:type_of% @Int.toNat_natCast:=@Int.toNat_natCast
theorem uo:type_of% @Nat.ble_eq:=@Nat.ble_eq
theorem Ln:type_of% @Nat.eq_of_beq_eq_true:=@Nat.eq_of_beq_eq_true
def Oc:type_of% @Nat.add_sub_cancel_left:=@Nat.add_sub_cancel_left
theorem MA:type_of% @List.getElem?_of_mem:=@List.getElem?_of_mem
def Ic:type_of% @List.all_eq_true:=@List.all_eq_true
theorem G2:type_of% @List.drop_append:=@List.drop_append
def Ae:type_of% @Nat.add_zero:=@Nat.add_zero
def yE:type_of% @Int.le_refl:=@Int.le_refl
def MP:type_of% @Int.toNat_of_nonneg:=@Int.toNat_of_nonneg
theorem Fy:type_of% @List.drop_drop:=@List.drop_drop
def Hj:type_of% @Bool.or_eq_true:=@Bool.or_eq_true
def A5:type_of% @List.map_map:=@List.map_map
def NX:type_of% @List.set_append_right:=@List.set_append_right
def AG:type_of% @Nat.zero_mul:=@Nat.zero_mul
def Gs:type_of% @Option.map_some:=@Option.map_some
def Jk:type_of% @List.cons_append:=@List.cons_append
def M3:type_of% @List.mem_cons_of_mem:=@List.mem_cons_of_mem
theorem Ub:type_of% @Array.getD_eq_getD_getElem?:=@Array.getD_eq_getD_getElem?
def Jb:type_of% @List.map_append:=@List.map_append
def Tp:type_of% @Array.getElem?_eq_some_iff:=@Array.getElem?_eq_some_iff
def Lx:type_of% @List.mem_nil_iff:=@List.mem_nil_iff
def KP:type_of% @List.take_length:=@List.take_length
def M4:type_of% @List.countP_append:=@List.countP_append
def Ob:type_of% @List.getElem?_take:=@List.getElem?_take
def FB:type_of% @List.map_nil:=@List.map_nil
def Fw:type_of% @List.mem_map:=@List.mem_map
def IK:type_of% @Nat.lt_irrefl:=@Nat.lt_irrefl
def FY:type_of% @Nat.sub_self:=@Nat.sub_self
def Nj:type_of% @Option.isSome_none:=@Option.isSome_none
def ug:type_of% @and_true:=@and_true
def Tl:type_of% @Decidable.byContradiction:=@Decidable.byContradiction
def rS:type_of% @Ne.symm:=@Ne.symm
def KG:type_of% @List.take_left':=@List.take_left'
theorem AZ:type_of% @Nat.blt_eq:=@Nat.blt_eq
def Oa:type_of% @Nat.lt_succ_of_lt:=@Nat.lt_succ_of_lt
def Q1:type_of% @List.replicate_succ:=@List.replicate_succ
def JP:type_of% @decide_false:=@decide_false
def uc:type_of% @eq_self:=@eq_self
def uE:type_of% @if_true:=@if_true
def Qu:type_of% @List.take_append:=@List.take_append
def Ll:type_of% @Nat.ne_of_lt:=@Nat.ne_of_lt
def JJ:type_of% @Int.not_lt:=@Int.not_lt
def Gc:type_of% @true_and:=@true_and
inductive T(α:Type)where
 |nil
 |node (l:T α) (v:Option α) (r:T α)
noncomputable section
namespace T
variable{α:Type}
def l:T α->T α
 | .nil=>.nil
 | .node a _ _=>a
def r:T α->T α
 | .nil=>.nil
 | .node _ _ b=>b
def val:T α->Option α
 | .nil=>B5
 | .node _ v _=>v
def path(i:Nat):List Bool:=go i i
 where go:Nat->Nat->List Bool
 |0,_=>[]
 |f+1,i=>match i with
  |0=>[]
  |n+1=>I4 (Nat.mod n 2) 0::go f (Nat.div n 2)
def wW:List Bool->T α->Option α
 |[],t=>t.val
 |b::p,t=>wW p (cond b t.l t.r)
def fQ(v:Option α):List Bool->T α->T α
 |[],t=>.node t.l v t.r
 |b::p,t=>cond b (.node (fQ v p t.l) t.val t.r) (.node t.l t.val (fQ v p t.r))
def get(t:T α)(i:Nat):Option α:=wW (path i) t
def put(t:T α)(i:Nat)(v:Option α):T α:=fQ v (path i) t
def set(t:T α)(i:Nat)(v:α):T α:=t.put i (B1 v)
structure Get(α:Type)where
 run:T α->Option α
structure Put(α:Type)where
 run:Option α->T α->T α
def oY:List Bool->Get α
 |[]=>⟨val⟩
 |true::p=>⟨λ t=>(oY p).run t.l⟩
 |false::p=>⟨λ t=>(oY p).run t.r⟩
def BI:List Bool->Put α
 |[]=>⟨λ v t=>.node t.l v t.r⟩
 |true::p=>⟨λ v t=>.node ((BI p).run v t.l) t.val t.r⟩
 |false::p=>⟨λ v t=>.node t.l t.val ((BI p).run v t.r)⟩
end T
def nth{α:Type}(l:List α):Nat->Option α :=
 Ap (motive:=λ _=>Nat->Option α) (λ _=>B5) (λ x _ ih i=>Nat.rec (motive:=λ _=>Option α) (B1 x) (λ n _=>ih n) i) l
def kG{α:Type}(a b:List α):List α:=Ap (motive:=λ _=>List α) b (λ x _ ih=>x::ih) a
def cR{α:Type}(l:List α):Nat:=Ap (motive:=λ _=>Nat) 0 (λ _ _ ih=>ih+1) l
def Ou{α:Type}:List α->List α
 |[]=>[]
 |_::l=>l
def da{α:Type}(n:Nat):List α->List α:=Nat.rec (motive:=λ _=>List α->List α) (λ l=>l) (λ _ ih l=>ih (Ou l)) n
def EM{α:Type}(n:Nat):List α->Option (List α) :=
 Nat.rec (motive:=λ _=>List α->Option (List α)) (λ _=>B1 [])
  (λ _ ih l=>Ap (motive:=λ _=>Option (List α)) B5 (λ x t _=>(ih t).bind λ r=>B1 (x::r)) l) n
def yC{α:Type}(new:List α):List α->Option (List α) :=
 Ap (motive:=λ _=>List α->Option (List α)) (λ l=>B1 l)
  (λ x _ ih l=>Ap (motive:=λ _=>Option (List α)) B5 (λ _ t _=>(ih t).bind λ r=>B1 (x::r)) l) new
def putAt{α:Type}(o:Nat)(new:List α):List α->Option (List α) :=
 Nat.rec (motive:=λ _=>List α->Option (List α)) (λ l=>yC new l)
  (λ _ ih l=>Ap (motive:=λ _=>Option (List α)) B5 (λ x t _=>(ih t).bind λ r=>B1 (x::r)) l) o
def fO{α:Type}(l:List α)(o n:Nat):Option (List α):=EM n (da o l)
inductive mG where
 |func (f:Nat)
 |yield (l:Nat)
inductive AV where
 |bool (b:Bool)
 |int (k:OA) (n:Int)
 |str (s:List UInt8)
 |nilp
 |ptr (b o:Nat)
 |nils
 |slice (b o n c:Nat)
 |gslice (b i m size alt n:Nat)
 |eslice (b:Nat)
 |nM
 |map (b:Nat)
 |fn (f:mG) (first captured:List AV)
 |nilf
 |iface (t:Nat) (v:AV)
 |nili
 |agg (l:List AV)
 |tuple (l:List AV)
instance:Inhabited AV:=⟨.nili⟩
def AV.undef:AV:=.tuple []
def AV.cells:AV->List AV
 | .agg l=>l
 |v=>[v]
inductive bL where
 |tmp (t:Nat)
 |const (v:AV)
 |eR (g:Nat)
 |func (f:Nat)
inductive eC where
 |tmp (t:Nat)
 |kT (a:Nat)
 |cZ (n:Nat) (a:Nat)
inductive ic where
 |exit (id:Nat)|goto (l:Nat)|ret
inductive nC where
 |ready|busy|done|exhausted
inductive aL where
 |iy (b:Nat)
 |fn (f:mG) (args:List AV)
inductive bE where
 |row (cells:List AV) (elem:Nat) (fz:Nat×Nat) (own:Bool)
 |grown (m size:Nat) (cells:List AV) (elem:Nat) (fz:Nat×Nat)
 |map (es:List (AV×AV×Nat)) (clock:Nat)
 |mD (s:List UInt8) (pos:Nat)
 |loop (st:nC) (pend:Option ic) (fn k:Nat) (tm:T AV) (defers:Nat)
 |deferred (calls:Option (List aL))
structure ar where
 t:T bE
 au:Nat
namespace ar
def get(H:ar)(b:Nat):Option bE:=H.t.get b
def set(H:ar)(b:Nat)(o:bE):ar:={H with t:=H.t.set b o}
def alloc(H:ar)(o:bE):ar:={t:=H.t.set H.au o,au:=H.au+1}
def kill(H:ar)(b:Nat):ar:={H with t:=H.t.put b B5}
def bX(H:ar)(b:Nat):Option (List AV) :=
 match H.get b with
 |some (.row c _ _ _)=>B1 c
 |some (.grown _ _ c _ _)=>B1 c
 |_=>B5
end ar
def ar.ae(H:ar)(b o:Nat):Option AV:=(H.bX b).bind λ l=>nth l o
def ar.fA(H:ar)(b:Nat):Option (List (AV×AV×Nat)×Nat) :=
 match H.get b with
 |some (.map es c)=>B1 (es,c)
 |_=>B5
def ar.aq(H:ar)(b o n:Nat):Option (List AV):=(H.bX b).bind λ l=>fO l o n
def dD(fz:Nat×Nat)(o n:Nat):Bool:=Nz (o+n) fz.1 ||Nz fz.2 o
def aB:AV->Bool
 | .agg _| .tuple _=>B2
 |_=>B4
def aN(l:List AV):Bool:=Ap (motive:=λ _=>Bool) B4 (λ x _ ih=>cond (aB x) ih B2) l
def ar.store(H:ar)(b o:Nat)(new:List AV):Option ar :=
 cond (aN new) (match H.get b with
  |some (.row c e fz B4)=>cond (dD fz o (cR new)) ((putAt o new c).bind λ c'=>B1 (H.set b (.row c' e fz B4))) B5
  |some (.grown m s c e fz)=>cond (dD fz o (cR new)) ((putAt o new c).bind λ c'=>B1 (H.set b (.grown m s c' e fz))) B5
  |_=>B5) B5
def rV(tm:T AV):bL->Option AV
 | .tmp t=>tm.get t
 | .const v=>B1 v
 | .eR g=>B1 (.ptr g 0)
 | .func f=>B1 (.fn (.func f) [] [])
def mF(tm:T AV):List bL->Option (List AV)
 |[]=>B1 []
 |x::xs=>(rV tm x).bind λ v=>(mF tm xs).bind λ vs=>B1 (v::vs)
structure Ev where
 run:T AV->Option AV
structure Evs where
 run:T AV->Option (List AV)
def NB:bL->Ev
 | .tmp t=>⟨(T.oY (T.path t)).run⟩
 | .const v=>⟨λ _=>B1 v⟩
 | .eR g=>⟨λ _=>B1 (.ptr g 0)⟩
 | .func f=>⟨λ _=>B1 (.fn (.func f) [] [])⟩
def uP:List bL->Evs
 |[]=>⟨λ _=>B1 []⟩
 |[x]=>⟨λ tm=>((NB x).run tm).bind λ v=>B1 [v]⟩
 |x::xs=>⟨λ tm=>((NB x).run tm).bind λ v=>((uP xs).run tm).bind λ vs=>B1 (v::vs)⟩
def vN(a b:Int):Bool:=match a,b with
 | .ofNat m,.ofNat n=>Nz m n
 | .ofNat _,.negSucc _=>B2
 | .negSucc _,.ofNat _=>B4
 | .negSucc m,.negSucc n=>Nz n m
def AJ(a b:Int):Bool:=!vN b a
def vD(a b:Int):Bool:=match a,b with
 | .ofNat m,.ofNat n=>I4 m n
 | .negSucc m,.negSucc n=>I4 m n
 |_,_=>B2
def jN:OA->Nat
 | .i8=>0| .i16=>1| .i32=>2| .i64=>3| .u8=>4| .u16=>5| .u32=>6| .u64=>7
def sF(a b:OA):Bool:=I4 (jN a) (jN b)
def CG(a b:UInt8):Bool:=I4 a.toNat b.toNat
def A8:List UInt8->List UInt8->Bool
 |[],[]=>B4
 |a::x,b::y=>cond (CG a b) (A8 x y) B2
 |_,_=>B2
inductive aT where
 |int|str|bool
 |nil
 |part (off:Nat) (n:Option Nat) (t rest:aT)
def partAt(l:List AV)(off:Nat):Option Nat->Option AV
 |none=>nth l off
 |some k=>(fO l off k).bind λ c=>B1 (.agg c)
def aY:aT->AV->AV->Option Bool
 | .int,.int k a,.int k' b=>cond (sF k k') (B1 (vD a b)) B5
 | .str,.str a,.str b=>B1 (A8 a b)
 | .bool,.bool a,.bool b=>B1 (a == b)
 | .nil,.agg _,.agg _=>B1 B4
 | .part off n t rest,.agg x,.agg y=>(partAt x off n).bind λ a=>(partAt y off n).bind λ b=>(aY t a b).bind λ q =>
  cond q (aY rest (.agg x) (.agg y)) (B1 B2)
 |_,_,_=>B5
def de:aT->AV->Bool
 | .int,.int _ _=>B4
 | .str,.str _=>B4
 | .bool,.bool _=>B4
 | .nil,.agg _=>B4
 | .part off n t rest,.agg x=>match partAt x off n with
  |some a=>cond (de t a) (de rest (.agg x)) B2
  |none=>B2
 |_,_=>B2
def bytesLess:List UInt8->List UInt8->Bool
 |_,[]=>B2
 |[],_::_=>B4
 |a::x,b::y=>Oz a.toNat b.toNat ||(CG a b && bytesLess x y)
def rk(op:BinOp)(a b:List UInt8):Option AV :=
 match op with
 | .add=>cond (Nz (a.length+b.length) 140737488355328) (B1 (.str (a++b))) B5
 | .eql=>B1 (.bool (A8 a b))
 | .neq=>B1 (.bool (!(A8 a b)))
 | .lss=>B1 (.bool (bytesLess a b))
 | .leq=>B1 (.bool (bytesLess a b ||A8 a b))
 | .gtr=>B1 (.bool (!(bytesLess a b ||A8 a b)))
 | .geq=>B1 (.bool (!bytesLess a b))
 |_=>B5
def aj(k:OA)(n:Int):Int:=k.wrap n
def gF(op:BinOp)(k:OA)(a b:Int):Option AV :=
 match op with
 | .add=>B1 (.int k (aj k (a+b)))
 | .sub=>B1 (.int k (aj k (a-b)))
 | .mul=>B1 (.int k (aj k (a*b)))
 | .quo=>cond (vD b 0) B5 (B1 (.int k (aj k (a.tdiv b))))
 | .rem=>cond (vD b 0) B5 (B1 (.int k (a.tmod b)))
 | .and=>B1 (.int k (aj k ((BH k.bits a &&& BH k.bits b).toNat)))
 | .or=>B1 (.int k (aj k ((BH k.bits a |||BH k.bits b).toNat)))
 | .xor=>B1 (.int k (aj k ((BH k.bits a ^^^ BH k.bits b).toNat)))
 | .andNot=>B1 (.int k (aj k ((BH k.bits a &&& ~~~(BH k.bits b)).toNat)))
 | .eql=>B1 (.bool (vD a b))
 | .neq=>B1 (.bool (!vD a b))
 | .lss=>B1 (.bool (AJ a b))
 | .leq=>B1 (.bool (vN a b))
 | .gtr=>B1 (.bool (AJ b a))
 | .geq=>B1 (.bool (vN b a))
 |_=>B5
inductive wO where
 |bool|ptr|slice|map|func|iface
 |ifaces (f:Nat->Option aT)
 |agg (t:aT)
def td(isNil isSome:AV->Bool)(x y:AV):Option Bool :=
 cond (isNil x) (cond (isNil y) (B1 B4) (cond (isSome y) (B1 B2) B5)) (cond (isSome x && isNil y) (B1 B2) B5)
def Bj:AV->Bool
 | .nils=>B4
 |_=>B2
def isSlice:AV->Bool
 | .slice ..=>B4
 | .gslice ..=>B4
 | .eslice _=>B4
 |_=>B2
def C6:AV->Bool
 | .nM=>B4
 |_=>B2
def isMap:AV->Bool
 | .map _=>B4
 |_=>B2
def DW:AV->Bool
 | .nilf=>B4
 |_=>B2
def Ps:AV->Bool
 | .fn ..=>B4
 |_=>B2
def CB:AV->Bool
 | .nili=>B4
 |_=>B2
def isIface:AV->Bool
 | .iface ..=>B4
 |_=>B2
def yZ(H:ar)(b b':Nat):Bool :=
 match H.get b,H.get b' with
 |some (.row _ _ (0,0) B4),B1 (.row (_::_) _ _ _)=>B4
 |some (.row (_::_) _ _ _),B1 (.row _ _ (0,0) B4)=>B4
 |_,_=>B2
def tq(op:BinOp)(k:OA)(a b:Int):Option AV :=
 cond (AJ b 0) B5 (match op with
  | .shl=>B1 (.int k (aj k (a*2 ^ (min b.toNat k.bits))))
  |_=>B1 (.int k (a.fdiv (2 ^ (min b.toNat k.bits)))))
def eh:BinOp->Bool
 | .shl| .shr=>B4
 |_=>B2
def IX(H:ar):wO->AV->AV->Option Bool
 | .bool,.bool a,.bool b=>B1 (a == b)
 | .ptr,.nilp,.nilp=>B1 B4
 | .ptr,.nilp,.ptr _ _=>B1 B2
 | .ptr,.ptr _ _,.nilp=>B1 B2
 | .ptr,.ptr b o,.ptr b' o'=>cond (I4 b b') (B1 (I4 o o')) (cond (yZ H b b') (B1 B2) B5)
 | .slice,x,y=>td Bj isSlice x y
 | .map,x,y=>td C6 isMap x y
 | .func,x,y=>td DW Ps x y
 | .iface,x,y=>td CB isIface x y
 | .ifaces f,.iface t a,.iface u b=>cond (I4 t u) ((f t).bind λ q=>aY q a b) (B1 B2)
 | .ifaces _,.nili,.iface _ _=>B1 B2
 | .ifaces _,.iface _ _,.nili=>B1 B2
 | .agg t,x,y=>aY t x y
 |_,_,_=>B5
def nN(op:BinOp)(x y:AV):Option AV :=
 match x,y with
 | .int k a,.int k' b=>cond (eh op) (tq op k a b) (cond (sF k k') (gF op k a b) B5)
 | .str a,.str b=>rk op a b
 |_,_=>B5
def unV(op:UnOp)(x:AV):Option AV :=
 match op,x with
 | .neg,.int k n=>B1 (.int k (aj k (0-n)))
 | .xor,.int k n=>gF .xor k (if k.signed then -1 else k.max) n
 | .not,.bool b=>B1 (.bool (!b))
 |_,_=>B5
def jF(cells:List AV):List (Nat×Nat)->List AV->Option (List AV)
 |[],[]=>B1 cells
 |(off,size)::ps,v::vs=>cond (I4 (cR v.cells) size) ((putAt off v.cells cells).bind λ c=>jF c ps vs) B5
 |_,_=>B5
def fP(n:Nat)(z:List AV):List AV :=
 match n with
 |0=>[]
 |n+1=>kG z (fP n z)
def within(i:Int)(n:Nat):Option Nat:=match i with
 | .ofNat k=>cond (Oz k n) (B1 k) B5
 | .negSucc _=>B5
def arg(vs:List AV):Option Nat->Option (Option AV)
 |none=>B1 B5
 |some i=>(nth vs i).bind λ v=>B1 (B1 v)
def bound(v:Option AV)(d mx:Nat):Option Nat :=
 match v with
 |none=>B1 d
 |some (.int _ (.ofNat i))=>cond (Nz i mx) (B1 i) B5
 |_=>B5
def dh(size:Nat)(x:AV)(lo hi mx:Option AV):Option AV :=
 match x with
 | .nils=>match mx with
  |none=>(bound hi 0 0).bind λ h=>(bound lo 0 h).bind λ _=>B1 .nils
  |some _=>B5
 | .slice b o n c=>match mx,hi with
  |some _,B5=>B5
  |mx,hi=>(bound mx c c).bind λ m=>(bound hi n m).bind λ h=>(bound lo 0 h).bind λ l =>
   B1 (.slice b (cond (I4 m l) o (o+l*size)) (h-l) (m-l))
 | .gslice b i m s alt n =>
  cond (I4 s size && Nz i m) (match mx,hi with
   |none,hi=>(bound hi n (m-i)).bind λ h=>(bound lo 0 h).bind λ l =>
    cond (Nz h (m-i)) (B1 (.gslice b (i+l) m s (cond (I4 l 0) alt (i*s)) (h-l))) B5
   |some _,B5=>B5
   |mx,hi=>(bound mx 0 (m-i)).bind λ x=>(bound hi 0 x).bind λ h=>(bound lo 0 h).bind λ l =>
    cond (I4 x l) B5 (B1 (.slice b ((i+l)*s) (h-l) (x-l)))) B5
 | .eslice b=>match mx with
  |none=>(bound hi 0 0).bind λ h=>(bound lo 0 h).bind λ _=>B1 (.eslice b)
  |some _=>B5
 |_=>B5
def eJ:AV->Option Nat
 | .str s=>B1 (cR s)
 | .nils=>B1 0
 | .slice _ _ n _=>B1 n
 | .gslice _ _ _ _ _ n=>B1 n
 | .eslice _=>B1 0
 |_=>B5
def elemAt(size:Nat)(x:AV)(j:Nat):Option (Nat×Nat) :=
 match x with
 | .slice b o n _=>cond (Oz j n) (B1 (b,o+j*size)) B5
 | .gslice b i m s _ n=>cond (Oz j n && I4 s size && Oz (i+j) m) (B1 (b,i*s+j*s)) B5
 |_=>B5
def firstCells(H:ar)(size n:Nat)(x:AV):Option (List AV) :=
 match x with
 | .nils=>B1 []
 | .str s=>cond (I4 size 1) (B1 ((s.take n).map λ b=>.int .u8 b.toNat)) B5
 | .slice b o _ _=>cond (I4 n 0) (B1 []) (H.aq b o (n*size))
 | .gslice b i m s _ _=>cond (I4 n 0) (B1 []) (cond (I4 s size && Oz i m) (H.aq b (i*s) (n*size)) B5)
 | .eslice _=>cond (I4 n 0) (B1 []) B5
 |_=>B5
def fg(n:Int):AV:=.int .i64 n
def findKey(t:aT)(k:AV):List (AV×AV×Nat)->Nat->Option (Option (Nat×AV))
 |[],_=>B1 B5
 |(k',v,_)::es,i=>(aY t k k').bind λ q=>cond q (B1 (B1 (i,v))) (findKey t k es (i+1))
def Gr(c:UInt8):List UInt8->Nat->Option Nat
 |[],_=>B5
 |x::l,i=>cond (CG x c) (B1 i) (Gr c l (i+1))
def xP(c:UInt8):List UInt8->Nat
 |[]=>0
 |x::l=>cond (CG x c) (xP c l+1) (xP c l)
def byteOf:AV->Option UInt8
 | .int .u8 n=>B1 (Bi n.toNat)
 |_=>B5
def bytesOf:List AV->Option (List UInt8)
 |[]=>B1 []
 |x::l=>(byteOf x).bind λ b=>(bytesOf l).bind λ r=>B1 (b::r)
def fits(n bytes:Nat):Bool:=Nz (n*bytes) 140737488355328 && Nz n 140737488355328
def dC(H:ar)(e size n:Nat)(cells:List AV)(fz:Nat×Nat):AV×ar :=
 (.gslice H.au 0 n size 0 n,H.alloc (.grown n size cells e fz))
def cQ(H:ar)(e size bytes:Nat)(s:AV)(n:Nat)(new:List AV):Option (AV×ar) :=
 match s with
 | .nils=>cond (I4 n 0) (B1 (.nils,H)) (cond (fits n bytes && Oz 0 size) (B1 (dC H e size n new (0,0))) B5)
 | .slice b o len c =>
  cond (Nz (len+n) c)
   (cond (I4 n 0) (B1 (.slice b o (len+n) c,H)) ((H.store b (o+len*size) new).bind λ H'=>B1 (.slice b o (len+n) c,H')))
   (cond (fits (len+n) bytes && Nz c (len+n) && Oz 0 size)
    ((firstCells H size len (.slice b o len c)).bind λ old=>B1 (dC H e size (len+n) (kG old new) (0,0))) B5)
 | .gslice b i m sz alt len =>
  cond (I4 n 0) (cond (Nz (i+len) m) (B1 (.gslice b i m sz alt len,H)) B5) (cond (I4 sz size && Nz (i+len) m && Oz 0 size)
   (cond (Nz (i+len+n) m)
    ((H.store b ((i+len)*size) new).bind λ H'=>B1 (.gslice b i m sz alt (len+n),H'))
    (cond (fits (len+n) bytes) (match H.get b with
     |some (.grown m' sz' c e' fz) =>
      cond (I4 m m' && I4 sz sz' && I4 e' e)
       (cond (I4 i 0 && I4 len m && Nz fz.2 (m*size)) (B1 (dC (H.kill b) e size (len+n) (kG c new) fz)) (cond (Nz fz.2 (i*size))
        ((fO c (i*size) (len*size)).bind λ old=>B1 (dC (H.kill b) e size (len+n) (kG old new) (cond (I4 fz.1 fz.2) (0,0) (1,0))))
        (cond (I4 i 0 && Nz fz.2 (len*size))
         ((fO c 0 (len*size)).bind λ old=>B1 (dC (H.kill b) e size (len+n) (kG old new) fz)) B5))) B5
     |_=>B5) B5)) B5)
 |_=>B5
namespace Op
def fail:List AV->Option AV:=λ _=>B5
def move:List AV->Option AV
 |[v]=>B1 v
 |_=>B5
def pick:List AV->Option AV
 |[.bool q,a,b]=>B1 (cond q a b)
 |_=>B5
def build(zero:List AV)(places:List (Nat×Nat))(vs:List AV):Option AV :=
 (jF zero places vs).bind λ c=>B1 (.agg c)
def nilCheck:List AV->Option AV
 |[.nilp]|[.nili]|[.nilf]=>B5
 |[.fn (.func f) a b]=>B1 (.fn (.func f) a b)
 |[.fn _ _ _]=>B5
 |[v]=>B1 v
 |_=>B5
def bin(op:BinOp):List AV->Option AV
 |[x,y]=>nN op x y
 |_=>B5
def eq(t:wO)(neg:Bool):List AV->ar->Option AV
 |[x,y],H=>(IX H t x y).bind λ q=>B1 (.bool (cond neg (!q) q))
 |_,_=>B5
def un(op:UnOp):List AV->Option AV
 |[x]=>unV op x
 |_=>B5
def wrap(k:OA):List AV->Option AV
 |[.int _ n]=>B1 (.int k (aj k n))
 |_=>B5
def dM:List AV->Option AV
 |[.int _ n]=>cond (vN 0 n && AJ n 128) (B1 (.str [Bi n.toNat])) B5
 |_=>B5
def eQ:List AV->Option AV
 |[.str s]=>B1 (.str s)
 |_=>B5
def dF(t:Nat):List AV->Option AV
 |[v]=>B1 (.iface t v)
 |_=>B5
def bH(f nf:Nat)(l:List AV):Option AV:=B1 (.fn (.func f) (l.take nf) (l.drop nf))
def dU:List (Option Nat)->List AV->Option AV
 |[lo,hi],.str s::vs =>
  (arg vs hi).bind λ b=>(arg vs lo).bind λ a=>(bound b s.length s.length).bind λ h=>(bound a 0 h).bind λ l=>B1 (.str ((s.take h).drop l))
 |_,_=>B5
def aA(size:Nat):List (Option Nat)->List AV->Option AV
 |[lo,hi,mx],x::vs=>(arg vs lo).bind λ a=>(arg vs hi).bind λ b=>(arg vs mx).bind λ m=>dh size x a b m
 |_,_=>B5
def cS(n size:Nat):List (Option Nat)->List AV->Option AV
 |[lo,hi,mx],.ptr p o::vs=>(arg vs lo).bind λ a=>(arg vs hi).bind λ b=>(arg vs mx).bind λ m=>dh size (.slice p o n n) a b m
 |_,_=>B5
def fieldAddr(off:Nat):List AV->Option AV
 |[.ptr b o]=>B1 (.ptr b (o+off))
 |_=>B5
def field(off:Nat)(n:Option Nat):List AV->Option AV
 |[.agg l]=>partAt l off n
 |_=>B5
def aR(size:Nat):List AV->Option AV
 |[x,.int _ j]=>(eJ x).bind λ n=>(within j n).bind λ k=>(elemAt size x k).bind λ p=>B1 (.ptr p.1 p.2)
 |_=>B5
def aV(len size:Nat):List AV->Option AV
 |[.ptr b o,.int _ j]=>(within j len).bind λ k=>B1 (.ptr b (o+k*size))
 |_=>B5
def bF(len size:Nat)(n:Option Nat):List AV->Option AV
 |[.agg l,.int _ j]=>(within j len).bind λ k=>partAt l (k*size) n
 |_=>B5
def bQ:List AV->Option AV
 |[.str s,.int _ j]=>(within j s.length).bind λ k=>(nth s k).bind λ b=>B1 (.int .u8 b.toNat)
 |_=>B5
def typeAssert(t:Nat)(ok:Bool)(zero:AV):List AV->Option AV
 |[.nili]=>cond ok (B1 (.tuple [zero,.bool B2])) B5
 |[.iface u v]=>cond (I4 u t) (B1 (cond ok (.tuple [v,.bool B4]) v)) (cond ok (B1 (.tuple [zero,.bool B2])) B5)
 |_=>B5
def extract(i:Nat):List AV->Option AV
 |[.tuple l]=>nth l i
 |_=>B5
def fD:List AV->Option AV
 |[.str s]=>B1 (fg (cR s))
 |_=>B5
def cw:List AV->Option AV
 |[.nils]=>B1 (fg 0)
 |[.slice _ _ n _]=>B1 (fg n)
 |[.gslice _ _ _ _ _ n]=>B1 (fg n)
 |[.eslice _]=>B1 (fg 0)
 |_=>B5
def oR(n:Nat):List AV->Option AV
 |[_]=>B1 (fg n)
 |_=>B5
def cap:List AV->Option AV
 |[.nils]=>B1 (fg 0)
 |[.slice _ _ _ c]=>B1 (fg c)
 |_=>B5
def iH(mx:Bool):Int->List AV->Option Int
 |a,[]=>B1 a
 |a,.int _ b::l=>iH mx (cond mx (cond (AJ a b) b a) (cond (AJ b a) b a)) l
 |_,_=>B5
def eY(mx:Bool):List AV->Option AV
 | .int k a::l=>(iH mx a l).bind λ r=>B1 (.int k r)
 |_=>B5
def dp:List AV->Option AV
 |[.nils]=>B1 .nilp
 |[.slice b o _ c]=>cond (I4 c 0) B5 (B1 (.ptr b o))
 |[.gslice b i m s _ _]=>cond (Oz i m) (B1 (.ptr b (i*s))) B5
 |_=>B5
def dR:List AV->Option AV
 |[x]=>B1 x
 |_=>B5
def aE:List AV->Option AV
 |[.str s,.int .u8 c]=>B1 (fg (match Gr (Bi c.toNat) s 0 with|some i=>i|none=>-1))
 |_=>B5
def bV:List AV->Option AV
 |[.str s,.int .u8 c]=>B1 (fg (Int.ofNat (xP (Bi c.toNat) s)))
 |_=>B5
def ae:List AV->ar->Option AV
 |[.ptr b o],H=>H.ae b o
 |_,_=>B5
def aq(n:Nat):List AV->ar->Option AV
 |[.ptr b o],H=>(H.aq b o n).bind λ l=>B1 (.agg l)
 |_,_=>B5
def cI:List AV->ar->Option AV
 |[.str _],_=>B5
 |[v],H=>(eJ v).bind λ n=>(firstCells H 1 n v).bind λ l=>(bytesOf l).bind λ s=>B1 (.str s)
 |_,_=>B5
def lookup(key:aT)(zero:AV)(ok:Bool):List AV->ar->Option AV
 |[.nM,k],_=>cond (de key k) (B1 (cond ok (.tuple [zero,.bool B2]) zero)) B5
 |[.map b,k],H=>cond (de key k) ((H.fA b).bind λ m=>(findKey key k m.1 0).bind λ r=>match r with
  |some p=>B1 (cond ok (.tuple [p.2,.bool B4]) p.2)
  |none=>B1 (cond ok (.tuple [zero,.bool B2]) zero)) B5
 |_,_=>B5
def gK:List AV->ar->Option AV
 |[.nM],_=>B1 (fg 0)
 |[.map b],H=>(H.fA b).bind λ m=>B1 (fg m.1.length)
 |_,_=>B5
def eS(lies:Nat->Nat->Nat->Bool):List AV->ar->Option AV
 |[.nilp],_=>B1 .nilp
 |[.ptr b o],H=>match H.get b with
  |some (.row c e _ B4)=>cond (lies e c.length o) (B1 (.ptr b o)) B5
  |_=>B5
 |_,_=>B5
def ptrTo(b:Nat):AV:=.ptr b 0
def alloc(e:Nat)(zero:List AV):List AV->Option (bE×(Nat->AV))
 |[]=>B1 (.row zero e (0,0) B4,ptrTo)
 |_=>B5
def box(e:Nat):List AV->Option (bE×(Nat->AV))
 |[v]=>B1 (.row v.cells e (0,0) B4,ptrTo)
 |_=>B5
def sliceTo(n m:Nat)(b:Nat):AV:=.slice b 0 n m
def buildSlice(e n:Nat)(zero:List AV)(places:List (Nat×Nat))(vs:List AV):Option (bE×(Nat->AV)) :=
 (jF (fP n zero) places vs).bind λ c=>B1 (.row c e (0,0) B4,sliceTo n n)
def mkMap:List AV->Option (bE×(Nat->AV))
 |[]=>B1 (.map [] 0,.map)
 |_=>B5
def mkSlice(e bytes:Nat)(zero:List AV):List AV->Option (bE×(Nat->AV))
 |[.int _ n,.int _ m]=>cond (vN 0 n && vN n m && vN (m*bytes) 140737488355328 && vN m 140737488355328)
  (B1 (.row (fP m.toNat zero) e (0,0) B4,sliceTo n.toNat m.toNat)) B5
 |_=>B5
def _r(m n:Nat)(b:Nat):AV:=.gslice b 0 m 1 0 n
def cK(e:Nat):List AV->Option (bE×(Nat->AV))
 |[.str s]=>cond (Nz s.length 140737488355328) (B1 (.grown s.length 1 (s.map λ b=>.int .u8 b.toNat) e (1,0),_r s.length s.length)) B5
 |_=>B5
def dQ:List AV->Option (bE×(Nat->AV))
 |[.str s]=>B1 (.mD s 0,ptrTo)
 |_=>B5
def makeNoZero(e:Nat):List AV->Option (bE×(Nat->AV))
 |[.int .i64 n]=>cond (vN 0 n && vN n 140737488355328) (B1 (.grown 0 1 [] e (0,0),_r 0 n.toNat)) B5
 |_=>B5
def store(n:Nat):List AV->ar->Option (AV×ar)
 |[.ptr b o,v],H=>cond (I4 (cR v.cells) n) ((H.store b o v.cells).bind λ H'=>B1 (.undef,H')) B5
 |_,_=>B5
def uw:AV->AV->Bool
 | .int k a,.int k' b=>sF k k' && vD a b
 | .str a,.str b=>A8 a b
 | .bool a,.bool b=>a == b
 |_,_=>B2
def fq:List AV->List AV->Bool
 |[],[]=>B4
 |a::x,b::y=>cond (uw a b) (fq x y) B2
 |_,_=>B2
def stays:AV->AV->Bool
 | .agg a,.agg b=>fq a b
 |a,b=>uw a b
def mapUpdate(key:aT):List AV->ar->Option (AV×ar)
 |[.map b,k,v],H=>cond (de key k) ((H.fA b).bind λ m=>(findKey key k m.1 0).bind λ r=>match r with
  |some p=>(nth m.1 p.1).bind λ e=>cond (stays e.1 k) (B1 (.undef,H.set b (.map (m.1.modify p.1 λ e=>(k,v,e.2.2)) m.2))) B5
  |none=>B1 (.undef,H.set b (.map (m.1 ++ [(k,v,m.2)]) (m.2+1)))) B5
 |_,_=>B5
def dm(key:aT):List AV->ar->Option (AV×ar)
 |[.nM,k],H=>cond (de key k) (B1 (.tuple [],H)) B5
 |[.map b,k],H=>cond (de key k) ((H.fA b).bind λ m=>(findKey key k m.1 0).bind λ r=>match r with
  |some p=>B1 (.tuple [],H.set b (.map (m.1.eraseIdx p.1) m.2))
  |none=>B1 (.tuple [],H.set b (.map m.1 m.2))) B5
 |_,_=>B5
def eN:List AV->ar->Option (AV×ar)
 |[.ptr b 0],H=>match H.get b with
  |some (.mD s p)=>match nth s p with
   |some c=>cond (Oz c.toNat 128) (B1 (.tuple [.bool B4,fg p,.int .i32 c.toNat],H.set b (.mD s (p+1)))) B5
   |none=>B1 (.tuple [.bool B2],H)
  |_=>B5
 |_,_=>B5
def append(e size bytes:Nat):List AV->ar->Option (AV×ar)
 |[a,b],H=>(eJ b).bind λ n=>(firstCells H size n b).bind λ new=>cond (aN new) (cQ H e size bytes a n new) B5
 |_,_=>B5
def copy(size:Nat):List AV->ar->Option (AV×ar)
 |[.str _,_],_=>B5
 |[d,r],H=>(eJ d).bind λ dn=>(eJ r).bind λ rn=>(firstCells H size (min rn dn) r).bind λ l =>
  cond (I4 (min rn dn) 0) (B1 (fg 0,H)) ((elemAt size d 0).bind λ p=>(H.store p.1 p.2 l).bind λ H'=>B1 (fg (min rn dn),H'))
 |_,_=>B5
def bS(zero:List AV):List AV->ar->Option (AV×ar)
 |[.str _],_=>B5
 |[x],H=>(eJ x).bind λ n=>cond (I4 n 0) (B1 (.tuple [],H))
  ((elemAt zero.length x 0).bind λ p=>(H.store p.1 p.2 (fP n zero)).bind λ H'=>B1 (.tuple [],H'))
 |_,_=>B5
def bU:List AV->ar->Option (AV×ar)
 |[.nM],H=>B1 (.tuple [],H)
 |[.map b],H=>(H.fA b).bind λ m=>B1 (.tuple [],H.set b (.map [] m.2))
 |_,_=>B5
def mX(fz:Nat×Nat)(o n:Nat):Nat×Nat:=cond (I4 fz.1 fz.2) (o,o+n) (min fz.1 o,max fz.2 (o+n))
def eO:List AV->ar->Option (AV×ar)
 |[.slice b o n c],H=>match H.get b with
  |some (.row cs e fz B4)=>B1 (.slice b o n c,H.set b (.row cs e (mX fz (cR cs) 1) B4))
  |_=>B5
 |_,_=>B5
def dT(u:Nat):List AV->ar->Option (AV×ar)
 |[.nilp,.int _ k],H=>cond (vD k 0) (B1 (.str [],H)) B5
 |[.ptr b o,.int _ k],H=>cond (vD k 0) (B1 (.str [],H)) (cond (AJ k 0 ||AJ 140737488355328 k) B5 (match H.get b with
  |some (.row c e fz B4)=>cond (I4 e u) ((fO c o k.toNat).bind λ l=>(bytesOf l).bind λ s=>B1 (.str s,H.set b (.row c e (mX fz o k.toNat) B4))) B5
  |some (.grown m z c e fz)=>cond (I4 e u && Nz fz.1 fz.2) ((fO c o k.toNat).bind λ l=>(bytesOf l).bind λ s=>B1 (.str s,H.set b (.grown m z c e (mX fz o k.toNat)))) B5
  |_=>B5))
 |_,_=>B5
end Op
inductive fN where
 |pure (f:List AV->Option AV)
 |read (f:List AV->ar->Option AV)
 |alloc (f:List AV->Option (bE×(Nat->AV)))
 |gY (f:List AV->ar->Option (AV×ar))
 |ik (f:Nat)
 |im
 |invoke (name:String)
 |recover
 |defer
 |panic
structure aQ where
 iA:Bool
 dst:Option Nat
 guard:Option (Nat×Bool)
 args:List bL
 op:fN
 cM:Option (List Nat)
inductive ai where
 |skip
 |region (steps:List aQ)
 |seq (a b:ai)
 |cond (c:bL) (thn els:ai)
 |block (id:Nat) (body:ai)
 |loop (ah:Option (List Nat)) (body:ai)
 |rangeFunc (f:bL) (k:Nat)
 |exit (id:Nat)
 |scope (body:ai)
 |label (l:Nat)
 |goto (l:Nat)
 |ret
 |stuck
instance:Inhabited ai:=⟨.skip⟩
structure dV where
 params:List Nat
 assign:ai
 body:ai
structure bZ where
 results:List eC
 body:ai
 loops:List dV
structure jU where
 func:Nat->Option bZ
 kI:Nat->String->Option Nat
abbrev aH:=List (AV×Bool)
structure St where
 tm:T AV
 aZ:List aL
 up:Option aH
 H:ar
inductive aX where
 |normal
 |exit (id:Nat)
 |goto (l:Nat)
 |ret
 |panic (chain:aH)
inductive bM where
 |ret (v:AV)
 |panic (chain:aH)
abbrev cj:=Nat->List AV->Option aH->ar->Option (bM×Option aH×ar)
structure Ctx where
 round:Option Nat
 fn:Nat
end
end Go.Am
namespace Go.Am
noncomputable section
def Mi:T AV->List Nat->List AV->Option (T AV)
 |tm,[],[]=>B1 tm
 |tm,p::ps,v::vs=>Mi (tm.set p v) ps vs
 |_,_,_=>B5
def jM:Nat->List AV->T AV->T AV
 |_,[],t=>t
 |i,v::vs,t=>jM (i+1) vs (t.set i v)
def kV:aX->Option ic
 | .exit id=>B1 (.exit id)
 | .goto l=>B1 (.goto l)
 | .ret=>B1 .ret
 |_=>B5
def rG:Option ic->aX
 |none=>.normal
 |some (.exit id)=>.exit id
 |some (.goto l)=>.goto l
 |some .ret=>.ret
def AA:aX->Bool
 | .normal=>B4
 |_=>B2
def YR(tm:T AV):List Nat->T AV->T AV
 |[],acc=>acc
 |k::ks,acc=>YR tm ks (acc.put k (tm.get k))
def forget:List Nat->T AV->T AV
 |[],t=>t
 |d::ds,t=>forget ds (t.put d B5)
def eK(dst:Option Nat)(v:AV)(tm:T AV):T AV :=
 match dst with
 |some d=>tm.set d v
 |none=>tm
structure WD where
 run:AV->T AV->T AV
def lJ:Option Nat->WD
 |some d=>⟨λ v tm=>(T.BI (T.path d)).run (B1 v) tm⟩
 |none=>⟨λ _ tm=>tm⟩
abbrev gZ:=Option (aX×St)
def gR(ah:Option (List Nat))(body:St->gZ):Nat->St->gZ
 |0,_=>B5
 |n+1,st =>
  (body (match ah with|none=>st|some ks=>{st with tm:=YR st.tm ks .nil})).bind λ r=>match r.1 with
   | .normal=>gR ah body n r.2
   |e=>B1 (e,r.2)
def FJ:ai->Nat->Bool
 | .seq a b,l=>FJ a l ||FJ b l
 | .label l',l=>I4 l' l
 |_,_=>B2
mutual
def cD:AV->AV->Bool
 | .bool a,.bool b=>a == b
 | .int k a,.int k' b=>sF k k' && vD a b
 | .str a,.str b=>A8 a b
 | .nilp,.nilp=>B4
 | .ptr a b,.ptr c d=>I4 a c && I4 b d
 | .nils,.nils=>B4
 | .slice a b c d,.slice a' b' c' d'=>I4 a a' && I4 b b' && I4 c c' && I4 d d'
 | .gslice a b c d e f,.gslice a' b' c' d' e' f'=>I4 a a' && I4 b b' && I4 c c' && I4 d d' && I4 e e' && I4 f f'
 | .eslice a,.eslice b=>I4 a b
 | .nM,.nM=>B4
 | .map a,.map b=>I4 a b
 | .nilf,.nilf=>B4
 | .nili,.nili=>B4
 | .fn (.func f) x a,.fn (.func g) y b=>I4 f g && fq x y && fq a b
 | .fn (.yield f) x a,.fn (.yield g) y b=>I4 f g && fq x y && fq a b
 | .iface t a,.iface u b=>I4 t u && cD a b
 | .agg a,.agg b=>fq a b
 | .tuple a,.tuple b=>fq a b
 |_,_=>B2
def fq:List AV->List AV->Bool
 |[],[]=>B4
 |x::xs,y::ys=>cD x y && fq xs ys
 |_,_=>B2
end
abbrev iU:=List AV->Nat->ar->Option (bM×ar)
structure RT where
 AP:jU
 call:cj
 round:iU
 n:Nat
 ctx:Ctx
def df(call:cj)(round:iU)(f:mG)(args:List AV)(H:ar):Option (bM×ar) :=
 match f with
 | .func g=>(call g args B5 H).bind λ r=>B1 (r.1,r.2.2)
 | .yield l=>round args l H
def fV(put:AV->T AV->T AV)(cM:Option (List Nat))(st:St)(k:St->gZ)(r:bM×ar):gZ :=
 match r.1 with
 | .ret v=>k ⟨put v st.tm,st.aZ,st.up,r.2⟩
 | .panic c=>cM.bind λ ds=>B1 (.panic c,⟨forget ds st.tm,st.aZ,st.up,r.2⟩)
def Ru(put:AV->T AV->T AV)(st:St):St :=
 match st.up with
 |some ((v,B2)::older)=>⟨put v st.tm,st.aZ,B1 ((v,B4)::older),st.H⟩
 |_=>⟨put .nili st.tm,st.aZ,st.up,st.H⟩
def Eg(f:List AV->Option AV)(put:AV->T AV->T AV)(st:St)(k:St->gZ)(vs:List AV):gZ :=
 (f vs).bind λ v=>k ⟨put v st.tm,st.aZ,st.up,st.H⟩
def DV(f:List AV->ar->Option AV)(put:AV->T AV->T AV)(st:St)(k:St->gZ)(vs:List AV):gZ :=
 (f vs st.H).bind λ v=>k ⟨put v st.tm,st.aZ,st.up,st.H⟩
def xL(f:List AV->Option (bE×(Nat->AV)))(put:AV->T AV->T AV)(st:St)(k:St->gZ)(vs:List AV):gZ :=
 (f vs).bind λ r=>k ⟨put (r.2 st.H.au) st.tm,st.aZ,st.up,st.H.alloc r.1⟩
def Ks(f:List AV->ar->Option (AV×ar))(put:AV->T AV->T AV)(st:St)(k:St->gZ)(vs:List AV):gZ :=
 (f vs st.H).bind λ r=>k ⟨put r.1 st.tm,st.aZ,st.up,r.2⟩
def Fa(f:Nat)(rt:RT)(put:AV->T AV->T AV)(cM:Option (List Nat))(st:St)(k:St->gZ)(vs:List AV):gZ :=
 (df rt.call rt.round (.func f) vs st.H).bind λ r=>fV put cM st k r
def DC(rt:RT)(put:AV->T AV->T AV)(cM:Option (List Nat))(st:St)(k:St->gZ)(vs:List AV):gZ :=
 match vs with
 | .fn (.func f) first cap::args=>(df rt.call rt.round (.func f) (first++(args++cap)) st.H).bind λ r=>fV put cM st k r
 | .fn (.yield l) first []::args=>(df rt.call rt.round (.yield l) (first++args) st.H).bind λ r=>fV put cM st k r
 |_=>B5
def tH(name:String)(rt:RT)(put:AV->T AV->T AV)(cM:Option (List Nat))(st:St)(k:St->gZ)(vs:List AV):gZ :=
 match vs with
 | .iface t v::args=>(rt.AP.kI t name).bind λ f=>(df rt.call rt.round (.func f) (v::args) st.H).bind λ r=>fV put cM st k r
 |_=>B5
def Tg(rt:RT)(put:AV->T AV->T AV)(st:St)(k:St->gZ)(vs:List AV):gZ :=
 match rt.ctx.round with
 |some _=>B5
 |none=>match vs with
  |[]=>k (Ru put st)
  |_=>B5
def wN(rt:RT)(put:AV->T AV->T AV)(st:St)(k:St->gZ)(vs:List AV):gZ :=
 match rt.ctx.round with
 |some _=>B5
 |none=>match vs with
  | .fn (.func f) first cap::args=>k ⟨put .undef st.tm,.fn (.func f) (first++(args++cap))::st.aZ,st.up,st.H⟩
  |_=>B5
def xN(put:AV->T AV->T AV)(cM:Option (List Nat))(st:St)(k:St->gZ)(vs:List AV):gZ :=
 match vs with
 |[.iface t v]=>fV put cM st k (.panic [(.iface t v,B2)],st.H)
 |_=>B5
structure OpC where
 run:RT->St->(St->gZ)->List AV->gZ
def qY(put:AV->T AV->T AV)(cM:Option (List Nat)):fN->OpC
 | .pure f=>⟨λ _ st k vs=>Eg f put st k vs⟩
 | .read f=>⟨λ _ st k vs=>DV f put st k vs⟩
 | .alloc f=>⟨λ _ st k vs=>xL f put st k vs⟩
 | .gY f=>⟨λ _ st k vs=>Ks f put st k vs⟩
 | .ik f=>⟨λ rt st k vs=>Fa f rt put cM st k vs⟩
 | .im=>⟨λ rt st k vs=>DC rt put cM st k vs⟩
 | .invoke name=>⟨λ rt st k vs=>tH name rt put cM st k vs⟩
 | .recover=>⟨λ rt st k vs=>Tg rt put st k vs⟩
 | .defer=>⟨λ rt st k vs=>wN rt put st k vs⟩
 | .panic=>⟨λ _ st k vs=>xN put cM st k vs⟩
def qX(get:T AV->Option AV)(st:St)(vs:List AV):fN->Bool
 | .read f=>match f vs st.H,get st.tm with
  |some v,B1 v'=>cD v v'
  |_,_=>B2
 |_=>B2
def cV(b:Bool):Option AV->Option Bool
 |some (.bool q)=>B1 (cond q b (!b))
 |some (.tuple [])=>B1 B2
 |_=>B5
structure PO where
 run:RT->(St->gZ)->St->gZ
def gQ(s:aQ):PO :=
 match s.iA with
 |false=>match s.guard with
  |none=>⟨λ rt k st=>((uP s.args).run st.tm).bind λ vs=>(qY (lJ s.dst).run s.cM s.op).run rt st k vs⟩
  |some g=>⟨λ rt k st=>(cV g.2 ((T.oY (T.path g.1)).run st.tm)).bind λ w =>
   cond w (((uP s.args).run st.tm).bind λ vs=>(qY (lJ s.dst).run s.cM s.op).run rt st k vs) (k ⟨(lJ s.dst).run .undef st.tm,st.aZ,st.up,st.H⟩)⟩
 |true=>match s.guard,s.dst with
  |none,B1 d=>⟨λ _ k st=>((uP s.args).run st.tm).bind λ vs=>cond (qX (T.oY (T.path d)).run st vs s.op) (k st) B5⟩
  |some g,B1 d=>⟨λ _ k st=>(cV g.2 ((T.oY (T.path g.1)).run st.tm)).bind λ w =>
   cond w (((uP s.args).run st.tm).bind λ vs=>cond (qX (T.oY (T.path d)).run st vs s.op) (k st) B5) (k st)⟩
  |_,B5=>⟨λ _ _ _=>B5⟩
structure Je where
 run:RT->St->gZ
def ib:List aQ->Je
 |[]=>⟨λ _ st=>B1 (.normal,st)⟩
 |s::rest=>⟨λ rt st=>(gQ s).run rt ((ib rest).run rt) st⟩
def cW(H:ar)(l:Nat)(s:nC)(p:Option ic):Option ar :=
 match H.get l with
 |some (.loop _ _ f k tm d)=>B1 (H.set l (.loop s p f k tm d))
 |_=>B5
def DB(H:ar)(l:Nat):Option Nat :=
 match H.get l with
 |some (.loop _ _ _ _ _ d)=>B1 d
 |_=>B5
def M8(st:St)(aZ:List aL)(l:Nat)(e:bM)(H:ar):gZ :=
 match e with
 | .panic c=>B1 (.panic c,{st with aZ:=aZ,H:=H})
 | .ret _=>match H.get l with
  |some (.loop .busy _ _ _ _ _)=>B5
  |some (.loop _ p f k tm d)=>B1 (rG p,{st with aZ:=aZ,H:=H.set l (.loop .exhausted p f k tm d)})
  |_=>B5
def jC(call:cj)(round:iU)(ctx:Ctx)(st:St)(k:Nat)(H0:ar)(aZ:List aL)(d:Nat):AV->gZ
 | .fn (.func g) first cap =>
  (df call round (.func g) (first++(.fn (.yield H0.au) [] []::cap)) (H0.alloc (.loop .ready B5 ctx.fn k st.tm d))).bind λ r =>
   M8 st aZ H0.au r.1 r.2
 |_=>B5
def uJ(next:RT->St->gZ)(rt:RT)(r:aX×St):gZ :=
 match r.1 with
 | .normal=>next rt r.2
 |e=>B1 (e,r.2)
def vB(a b:RT->St->gZ)(rt:RT)(st:St)(v:AV):gZ :=
 match v with
 | .bool q=>cond q (a rt st) (b rt st)
 |_=>B5
def kK(id:Nat)(r:aX×St):gZ :=
 match r.1 with
 | .exit id'=>B1 (cond (I4 id id') .normal (.exit id'),r.2)
 |e=>B1 (e,r.2)
def mj(b:ai)(r:aX×St):gZ :=
 match r.1 with
 | .goto l=>cond (FJ b l) B5 (B1 (.goto l,r.2))
 |e=>B1 (e,r.2)
def rp(rt:RT)(k:Nat)(st:St)(v:AV):gZ :=
 match rt.ctx.round with
 |none=>jC rt.call rt.round rt.ctx st k (st.H.alloc (.deferred (B1 []))) (.iy st.H.au::st.aZ) st.H.au v
 |some l=>(DB st.H l).bind λ d=>jC rt.call rt.round rt.ctx st k st.H st.aZ d v
def bJ:ai->Je
 | .skip=>⟨λ _ st=>B1 (.normal,st)⟩
 | .label _=>⟨λ _ st=>B1 (.normal,st)⟩
 | .region steps=>ib steps
 | .seq a b=>⟨λ rt st=>((bJ a).run rt st).bind (uJ (bJ b).run rt)⟩
 | .cond c a b=>⟨λ rt st=>((NB c).run st.tm).bind (vB (bJ a).run (bJ b).run rt st)⟩
 | .block id b=>⟨λ rt st=>((bJ b).run rt st).bind (kK id)⟩
 | .loop ah b=>⟨λ rt st=>gR ah ((bJ b).run rt) rt.n st⟩
 | .exit id=>⟨λ _ st=>B1 (.exit id,st)⟩
 | .goto l=>⟨λ _ st=>B1 (.goto l,st)⟩
 | .ret=>⟨λ _ st=>B1 (.ret,st)⟩
 | .stuck=>⟨λ _ _=>B5⟩
 | .scope b=>⟨λ rt st=>((bJ b).run rt st).bind (mj b)⟩
 | .rangeFunc f k=>⟨λ rt st=>((NB f).run st.tm).bind (rp rt k st)⟩
def exec(AP:jU)(call:cj)(round:iU)(n:Nat)(ctx:Ctx)(c:ai)(st:St):gZ:=(bJ c).run ⟨AP,call,round,n,ctx⟩ st
def Gm(l:Nat)(r:aX×St):Option (bM×ar) :=
 match r.1 with
 | .panic c=>B1 (.panic c,r.2.H)
 |e=>(cW r.2.H l (cond (AA e) .ready .done) (kV e)).bind λ H=>B1 (.ret (.bool (AA e)),H)
def beginRound(H:ar)(l:Nat):Option ar :=
 match H.get l with
 |some (.loop .ready p f k tm d)=>B1 (H.set l (.loop .busy p f k tm d))
 |_=>B5
def roundOf(AP:jU)(ex:Ctx->ai->St->gZ)(args:List AV)(l:Nat)(H:ar):Option (bM×ar) :=
 match H.get l with
 |some (.loop _ _ f k tm _) =>
  (AP.func f).bind λ fn=>(nth fn.loops k).bind λ lp=>(Mi tm lp.params args).bind λ tm1 =>
  (ex ⟨B1 l,f⟩ lp.assign {tm:=tm1,aZ:=[],up:=B5,H:=H}).bind λ r=>match r.1 with
   | .normal=>(beginRound r.2.H l).bind λ H2=>(ex ⟨B1 l,f⟩ lp.body {r.2 with H:=H2}).bind λ q=>cond (noDefs q.2.aZ) (Gm l q) B5
   |_=>B5
 |_=>B5
 where noDefs:List aL->Bool
 |[]=>B4
 |_=>B2
def Oh(H:ar)(tm:T AV):eC->Option AV
 | .tmp t=>tm.get t
 | .kT a=>(tm.get a).bind λ v=>match v with| .ptr b o=>H.ae b o|_=>B5
 | .cZ n a=>(tm.get a).bind λ v=>match v with| .ptr b o=>(H.aq b o n).bind λ l=>B1 (.agg l)|_=>B5
def eB(H:ar)(tm:T AV):List eC->Option (List AV)
 |[]=>B1 []
 |r::rs=>(Oh H tm r).bind λ v=>(eB H tm rs).bind λ vs=>B1 (v::vs)
def jH:List AV->AV
 |[v]=>v
 |l=>.tuple l
def oh(m:Option aH)(up:aH):Option (Option aH) :=
 match m,up with
 |none,[]=>B1 B5
 |some _,(_,B4)::_=>B1 B5
 |some _,(v,B2)::c=>B1 (B1 ((v,B2)::c))
 |_,_=>B5
def cz(call:cj)(rs:List eC)(tm:T AV):List aL->Option aH->ar->Option (bM×ar)
 |[],B5,H=>(eB H tm rs).bind λ l=>B1 (.ret (jH l),H)
 |[],B1 c,H=>B1 (.panic c,H)
 | .iy b::ds,m,H=>match H.get b with
  |some (.deferred (B1 []))=>cz call rs tm ds m (H.set b (.deferred B5))
  |_=>B5
 | .fn (.func f) args::ds,m,H=>(call f args (B1 (m.getD [])) H).bind λ r =>
  match r.1,r.2.1 with
  | .ret _,B1 up'=>(oh m up').bind λ m'=>cz call rs tm ds m' r.2.2
  |_,_=>B5
 | .fn (.yield _) _::_,_,_=>B5
def qE(call:cj)(fn:bZ)(r:aX×St):Option (bM×Option aH×ar) :=
 let fin (m:Option aH):Option (bM×Option aH×ar):=(cz call fn.results r.2.tm r.2.aZ m r.2.H).bind λ q=>B1 (q.1,r.2.up,q.2)
 match r.1 with
 | .normal=>fin B5
 | .ret=>fin B5
 | .panic c=>fin (B1 c)
 |_=>B5
def rounds(AP:jU)(call:cj)(m:Nat):Nat->iU
 |0=>λ _ _ _=>B5
 |n+1=>roundOf AP (exec AP call (rounds AP call m n) m)
def HG(AP:jU)(call:cj)(n:Nat):cj:=λ f args up H =>
 (AP.func f).bind λ fn =>
  (exec AP call (rounds AP call n n) n ⟨B5,f⟩ fn.body {tm:=jM 0 args .nil,aZ:=[],up:=up,H:=H}).bind λ r =>
   qE call fn r
def Fm(AP:jU):Nat->cj
 |0=>λ _ _ _ _=>B5
 |n+1=>HG AP (Fm AP n) n
def ny(AP:jU)(told:cj):Nat->cj
 |0=>told
 |n+1=>λ f args up H=>match told f args up H with
  |some r=>B1 r
  |none=>HG AP (ny AP told n) n f args up H
end
end Go.Am
namespace Go.Am
noncomputable section
mutual
def gh:Kl->Option AV
 | .bool b=>B1 (.bool b)
 | .int k n=>B1 (.int k n)
 | .string s=>B1 (.str s.data.toList)
 | .pointer B5=>B1 .nilp
 | .slice B5 0 0=>B1 .nils
 | .map B5=>B1 .nM
 | .nilFunc=>B1 .nilf
 | .nilIface=>B1 .nili
 | .iface t v=>(gh v).bind λ x=>B1 (.iface t x)
 | .agg cs=>(nI cs.toList).bind λ l=>B1 (.agg l)
 | .tuple cs=>(nI cs.toList).bind λ l=>B1 (.tuple l)
 |_=>B5
def nI:List Kl->Option (List AV)
 |[]=>B1 []
 |v::vs=>(gh v).bind λ x=>(nI vs).bind λ xs=>B1 (x::xs)
end
def rM(G:Nat):M6->Option bL
 | .tmp t=>B1 (.tmp t)
 | .const v=>(gh v).bind λ x=>B1 (.const x)
 | .global g=>if Oz g G then B1 (.eR g)else B5
 | .func f=>B1 (.func f)
def nV(G:Nat):List M6->Option (List bL)
 |[]=>B1 []
 |x::xs=>(rM G x).bind λ y=>(nV G xs).bind λ ys=>B1 (y::ys)
def zeroOf(P:Jg)(t:Ku):Option AV:=((P.info? t).bind (·.zero)).bind gh
def bW(P:Jg)(t:Ku):Option Nat:=(P.info? t).bind λ i=>B1 i.size
def ng(P:Jg)(t:Ku):Option Nat:=(P.info? t).bind λ i=>B1 i.bytes
def nU(P:Jg)(t:Ku):Option (Option Nat) :=
 match P.underlying t with
 |some (.struct _)|some (.array _ _)=>(bW P t).bind λ n=>B1 (B1 n)
 |some _=>B1 B5
 |none=>B5
def dG(P:Jg):Nat->Ku->Option aT
 |0,_=>B5
 |d+1,t=>match P.underlying t with
  |some (.int _)=>B1 .int
  |some .string=>B1 .str
  |some .bool=>B1 .bool
  |some (.struct fs)=>if P.stoodInHeld t then B5 else fieldsT (dG P d) fs.toList
  |some (.array n e)=>(bW P e).bind λ s=>(nU P e).bind λ a=>(dG P d e).bind λ q=>B1 (itemsT s a q n 0)
  |_=>B5
 where
 fieldsT (go:Ku->Option aT):List Field->Option aT
  |[]=>B1 .nil
  |f::fs=>if f.name = "_" then B5 else(nU P f.type).bind λ a=>(go f.type).bind λ q=>(fieldsT go fs).bind λ r=>B1 (.part f.offset a q r)
 itemsT (s:Nat) (a:Option Nat) (q:aT):Nat->Nat->aT
  |0,_=>.nil
  |n+1,i=>.part (i*s) a q (itemsT s a q n (i+1))
def p7(P:Jg)(t:Ku):Option aT:=dG P 20 t
def gM:Nat->List (Option M6)->List (Option Nat)
 |_,[]=>[]
 |n,B5::r=>B5::gM n r
 |n,B1 _::r=>B1 n::gM (n+1) r
def kJ:List (Option M6)->List M6
 |[]=>[]
 |none::r=>kJ r
 |some x::r=>x::kJ r
def BG(pl:Nat->Option (Nat×Nat)):List (Nat×M6)->Option (List (Nat×Nat))
 |[]=>B1 []
 |(i,_)::r=>(pl i).bind λ p=>(BG pl r).bind λ l=>B1 (p::l)
def Nv(P:Jg)(fs:Array Field)(i:Nat):Option (Nat×Nat):=(fs[i]?).bind λ f=>(bW P f.type).bind λ n=>B1 (f.offset,n)
def KE(n:Nat)(i:Nat):Option (Nat×Nat):=B1 (i*n,n)
def XW(P:Jg)(b:Builtin)(ts:Array Ku)(args:List M6):Option (List M6×fN) :=
 match b with
 | .len=>match(ts[0]?).bind P.underlying with
  |some (.slice _)=>B1 (args,.pure Op.cw)
  |_=>B5
 | .append=>match ts.toList with
  |[t,tx]=>match P.underlying t,P.underlying tx with
   |some (.slice e),B1 (.slice _)=>(bW P e).bind λ n=>(ng P e).bind λ z=>(zeroOf P e).bind λ zv=>if zv.cells.length=n then B1 (args,.gY (Op.append e n z))else B5
   |_,_=>B5
  |_=>B5
 | .min=>B1 (args,.pure (Op.eY B2))
 | .clear=>match(ts[0]?).bind P.underlying with
  |some (.slice e)=>(zeroOf P e).bind λ z=>B1 (args,.gY (Op.bS z.cells))
  |some (.map _ _)=>B1 (args,.gY Op.bU)
  |_=>B5
 | .recover=>B1 (args,.recover)
 | .panic=>B1 (args,.panic)
 |_=>B5
def MI(_P:Jg)(fn:Func)(args:List M6):Option (List M6×fN) :=
 if fn.origin != "" then B5
 else if fn.name == "internal/bytealg.IndexByteString" then B1 (args,.pure Op.aE)
 else B5
def Cv(P:Jg)(src dst:Ku)(x:M6):Option (List M6×fN) :=
 match P.underlying src,P.underlying dst with
 |some (.int _),B1 (.int k)=>B1 ([x],.pure (Op.wrap k))
 |_,_=>B5
def NZ(P:Jg):Nat->Ku->Bool
 |0,_=>B4
 |d+1,t=>match P.underlying t with
  |some (.interface ms)=>!ms.isEmpty
  |some (.struct fs)=>fs.toList.any λ f=>f.name != "_" && NZ P d f.type
  |some (.array _ e)=>NZ P d e
  |_=>B2
def Vk(P:Jg):∀(d:Nat)(t:Ku),NZ P d t=P.eqGuardType d t
 |0,_=>rfl
 |d+1,t=>by
  rw[NZ,Jg.eqGuardType];cases P.underlying t with
  |none=>rfl
  |some u =>
   cases u with
   |struct fs =>
    show fs.toList.any _=fs.any _;rw[<-Array.any_toList];congr 1;funext f;rw[Vk P d]
   |array _ e=>exact Vk P d e
   |_=>rfl
def HI(P:Jg)(t:Ku)(x y:M6):Option wO :=
 match P.underlying t with
 |some .bool=>B1 .bool
 |some (.pointer e)=>match bW P e with
  |some (_+1)=>B1 .ptr
  |_=>B5
 |some (.slice _)=>B1 .slice
 |some (.map _ _)=>B1 .map
 |some (.func _ _ _)=>B1 .func
 |some (.interface _)=>match x,y with
  | .const .nilIface,_=>B1 .iface
  |_,.const .nilIface=>B1 .iface
  |_,_=>B1 (.ifaces λ u=>(P.info? u).bind λ i=>if i.comparable then dG P 20 u else B5)
 |some (.struct _)=>if NZ P P.depth t then B5 else(dG P 20 t).bind λ q=>B1 (.agg q)
 |some (.array _ _)=>if NZ P P.depth t then B5 else(dG P 20 t).bind λ q=>B1 (.agg q)
 |_=>B5
def Kf(P:Jg)(op:BinOp)(t:Ku)(x y:M6):Option (List M6×fN) :=
 match P.underlying t with
 |some (.int _)=>B1 ([x,y],.pure (Op.bin op))
 |some .string=>B1 ([x,y],.pure (Op.bin op))
 |_=>match op with
  | .eql=>(HI P t x y).bind λ k=>B1 ([x,y],.read (Op.eq k B2))
  | .neq=>(HI P t x y).bind λ k=>B1 ([x,y],.read (Op.eq k B4))
  |_=>B5
def BA(P:Jg)(c:Call):Option (List M6×fN) :=
 match c.callee with
 | .value (.func f)=>(P.funcs[f]?).bind λ fn =>
  match fn.body with
  |some _=>B1 (c.args.toList,.ik f)
  |none=>MI P fn c.args.toList
 | .value f=>B1 (f::c.args.toList,.im)
 | .invoke r m=>B1 (r::c.args.toList,.invoke m)
 | .builtin b=>XW P b c.argTypes c.args.toList
def PQ(P:Jg)(op:Cq):Option (List M6×fN) :=
 match op with
 | .move x=>B1 ([x],.pure Op.move)
 | .assign x=>B1 ([x],.pure Op.move)
 | .pick c a b=>B1 ([c,a,b],.pure Op.pick)
 | .alloc e=>(zeroOf P e).bind λ z=>B1 ([],.alloc (Op.alloc e z.cells))
 | .box e x=>B1 ([x],.alloc (Op.box e))
 | .build t parts=>(zeroOf P t).bind λ z =>
  match P.underlying t with
  |some (.struct fs)=>if fs.toList.all (λ f=>(bW P f.type).isSome)then(BG (Nv P fs) parts.toList).bind λ ps=>B1 (parts.toList.map (·.2),.pure (Op.build z.cells ps))else B5
  |some (.array _ e)=>(bW P e).bind λ n=>(BG (KE n) parts.toList).bind λ ps=>B1 (parts.toList.map (·.2),.pure (Op.build z.cells ps))
  |_=>B5
 | .buildSlice t len parts =>
  match P.underlying t with
  |some (.slice e)=>(bW P e).bind λ n=>(zeroOf P e).bind λ z=>(BG (KE n) parts.toList).bind λ ps=>if z.cells.length=n/\len*n<=16777216 then B1 (parts.toList.map (·.2),.alloc (Op.buildSlice e len z.cells ps))else B5
  |_=>B5
 | .load t a=>(nU P t).bind λ r=>match r with
  |none=>B1 ([a],.read Op.ae)
  |some n=>B1 ([a],.read (Op.aq n))
 | .store t a x=>(bW P t).bind λ n=>B1 ([a,x],.gY (Op.store n))
 | .nilCheck x=>B1 ([x],.pure Op.nilCheck)
 | .binOp op t x y _=>Kf P op t x y
 | .unOp op _ x=>B1 ([x],.pure (Op.un op))
 | .convert src dst x=>Cv P src dst x
 | .makeInterface t x=>match P.underlying t with
  |some (.interface _)=>B5
  |some _=>B1 ([x],.pure (Op.dF t))
  |none=>B5
 | .makeFunc (.func f) a b=>B1 (a.toList++b.toList,.pure (Op.bH f a.size))
 | .makeMap _ B5=>B1 ([],.alloc Op.mkMap)
 | .makeMap t (B1 (.const (.int _ _)))=>match P.underlying t with
  |some (.map _ _)=>B1 ([],.alloc Op.mkMap)
  |_=>B5
 | .makeSlice t l c =>
  match P.underlying t with
  |some (.slice e)=>(ng P e).bind λ b=>(zeroOf P e).bind λ z=>(bW P e).bind λ n=>if z.cells.length=n then B1 ([l,c],.alloc (Op.mkSlice e b z.cells))else B5
  |_=>B5
 | .slice t x lo hi mx =>
  match P.underlying t with
  |some (.slice e)=>(bW P e).bind λ n=>B1 (x::kJ [lo,hi,mx],.pure (Op.aA n (gM 0 [lo,hi,mx])))
  |some (.array k e)=>(bW P e).bind λ n=>B1 (x::kJ [lo,hi,mx],.pure (Op.cS k n (gM 0 [lo,hi,mx])))
  |_=>B5
 | .fieldAddr t x i =>
  match P.underlying t with
  |some (.struct fs)=>(fs[i]?).bind λ f=>(bW P f.type).bind λ n=>if n == 0 then B5 else B1 ([x],.pure (Op.fieldAddr f.offset))
  |_=>B5
 | .indexAddr t x i =>
  match P.underlying t with
  |some (.slice e)=>(bW P e).bind λ n=>B1 ([x,i],.pure (Op.aR n))
  |some (.array k e)=>(bW P e).bind λ n=>B1 ([x,i],.pure (Op.aV k n))
  |_=>B5
 | .index t x i =>
  match P.underlying t with
  |some .string=>B1 ([x,i],.pure Op.bQ)
  |some (.array k e)=>(bW P e).bind λ n=>(nU P e).bind λ a=>B1 ([x,i],.pure (Op.bF k n a))
  |_=>B5
 | .lookup t m k ok =>
  match P.underlying t with
  |some (.map kt e)=>(p7 P kt).bind λ key=>(zeroOf P e).bind λ z=>B1 ([m,k],.read (Op.lookup key z ok))
  |_=>B5
 | .mapUpdate t m k v =>
  match P.underlying t with
  |some (.map kt _)=>(p7 P kt).bind λ key=>B1 ([m,k,v],.gY (Op.mapUpdate key))
  |_=>B5
 | .insert t m k v =>
  match P.underlying t with
  |some (.map kt _)=>(p7 P kt).bind λ key=>B1 ([m,k,v],.gY (Op.mapUpdate key))
  |_=>B5
 | .extract x i=>B1 ([x],.pure (Op.extract i))
 | .call c=>BA P c
 | .defer c=>match c.callee with
  | .value f=>B1 (f::c.args.toList,.defer)
  |_=>B5
 | .panic x=>B1 ([x],.panic)
 |_=>B5
def gB(P:Jg)(o:Pt):Option (List bL×fN) :=
 match(PQ P o.op).bind λ r=>(nV P.globals.size r.1).bind λ args=>B1 (args,r.2)with
 |some r=>B1 r
 |none=>B1 ([],.pure Op.fail)
inductive LY where
 |pure|read|alloc|gY
 deriving DecidableEq
def rL:fN->LY
 | .pure _=>.pure
 | .read _=>.read
 | .alloc _=>.alloc
 |_=>.gY
def nA(cls:Nat->LY)(gA:Nat->Nat)(n:Nat):Nat->Nat->List (Bool×Nat)->List (Bool×Nat)
 |0,_,acc=>acc.reverse
 |fuel+1,done,acc =>
  let ready (i:Nat):Bool:=!done.testBit i && (gA i &&& done) == gA i
  let todo:=(N2 n).filter λ i=>!done.testBit i
  match todo.find? (λ i=>ready i && (cls i == .pure ||cls i == .read))with
  |some i=>nA cls gA n fuel (done |||2 ^ i) ((B2,i)::acc)
  |none =>
   -- the next effect: the first one (effects are in a row)
   match todo.find? (λ i=>cls i == .gY)with
   |some e =>
    if ready e then
     let again:=(acc.reverse.filter λ q=>!q.1 && cls q.2 == .read && !(gA e).testBit q.2).map λ q=>(B4,q.2)
     nA cls gA n fuel (done |||2 ^ e) (again.reverse++((B2,e)::acc))
    else match todo.find? (λ i=>ready i && (gA e).testBit i)with
     |some i=>nA cls gA n fuel (done |||2 ^ i) ((B2,i)::acc)
     |none=>acc.reverse
   |none=>match todo.find? ready with
    |some i=>nA cls gA n fuel (done |||2 ^ i) ((B2,i)::acc)
    |none=>acc.reverse
def dv{α:Type}:List (Option α)->Option (List α)
 |[]=>B1 []
 |x::xs=>x.bind λ a=>(dv xs).bind λ l=>B1 (a::l)
def guardOf(ops:Array Pt):Option (Nat×Bool)->Option (Option (Nat×Bool))
 |none=>B1 B5
 |some g=>((ops[g.1]?).bind (·.dst)).bind λ t=>B1 (B1 (t,g.2))
def jG(ops:Array Pt)(l:List (List bL×fN))(safe:Nat->Option (List Nat))(q:Bool×Nat):Option aQ :=
 (ops[q.2]?).bind λ o=>(l[q.2]?).bind λ a=>(guardOf ops o.guard).bind λ g =>
  B1 {iA:=q.1,dst:=o.dst,guard:=g,args:=a.1,op:=a.2,cM:=safe q.2}
def pz(nt:Nat)(o:Pt):Bool :=
 match o.dst with
 |none=>B4
 |some d=>Oz d nt
def pS(a b:Nat):Bool:=I4 (Nat.land a b) a
def bitsOf:List (Bool×Nat)->Nat->Nat
 |[],d=>d
 |(B4,_)::l,d=>bitsOf l d
 |(B2,i)::l,d=>bitsOf l (Nat.lor d (2 ^ i))
def nO:List (Bool×Nat)->Nat->Nat
 |(B4,r)::l,d=>nO l (Nat.lor d (2 ^ r))
 |_,d=>d
def qK(c d:LY):Bool:=match c,d with
 | .pure,.pure=>B4
 | .read,.read=>B4
 | .alloc,.alloc=>B4
 | .gY,.gY=>B4
 |_,_=>B2
def jD(p:Nat->Bool):Nat->Nat
 |0=>0
 |n+1=>cond (p n) (Nat.lor (jD p n) (2 ^ n)) (jD p n)
structure mI where
 n:Nat
 gA:Nat->Nat
 cls:Nat->LY
 jT:Nat->Nat->Bool
 self:Nat->Bool
 made:Nat
 reads:Nat
def Np(I:mI)(done:Nat)(post:List (Bool×Nat)):Bool×Nat->Bool
 |(B2,i)=>Oz i I.n && (!done.testBit i && (pS (I.gA i) done && (match I.cls i with
  | .read=>pS (Nat.land done I.made) (I.gA i)
  | .gY=>pS (Nat.land done I.made) (I.gA i) && pS (Nat.land done I.reads) (Nat.lor (I.gA i) (nO post 0))
  |_=>B4)))
 |(B4,r)=>qK (I.cls r) .read && (I.self r && (done.testBit r && pS (Nat.land done (jD (λ w=>!Nat.beq w r && I.jT r w) I.n)) (I.gA r)))
def K6(I:mI):List (Bool×Nat)->Nat->Bool
 |[],done=>pS (2 ^ I.n-1) done
 |(B2,i)::post,done=>Np I done post (B2,i) && K6 I post (Nat.lor done (2 ^ i))
 |(B4,r)::post,done=>Np I done post (B4,r) && K6 I post done
def sO(p:Nat->Bool):Nat->Bool
 |0=>B4
 |n+1=>p n && sO p n
def yB(I:mI):Bool:=sO (λ r=>sO (λ w=>I4 r w ||((I.gA r).testBit w ||((I.gA w).testBit r ||!I.jT r w))) I.n) I.n
def tmpsOf:List bL->List Nat
 |[]=>[]
 | .tmp t::l=>t::tmpsOf l
 |_::l=>tmpsOf l
def oK(t:Nat):List Nat->Bool
 |[]=>B2
 |x::l=>I4 x t ||oK t l
def iZ(ops:Array Pt)(l:List (List bL×fN))(r:Nat):List Nat :=
 match ops[r]?,l[r]? with
 |some o,B1 a=>(match guardOf ops o.guard with|some (B1 g)=>[g.1]|_=>[])++tmpsOf a.1
 |_,_=>[]
def ij(ops:Array Pt)(w:Nat):Option Nat:=(ops[w]?).bind (·.dst)
def gO(ops:Array Pt)(l:List (List bL×fN))(r:Nat):List Nat :=
 (match ij ops r with|some d=>[d]|none=>[])++iZ ops l r
def EJ(ops:Array Pt)(l:List (List bL×fN))(r w:Nat):Bool :=
 match ij ops w with
 |some t=>oK t (gO ops l r)
 |none=>B2
def BR(ops:Array Pt)(l:List (List bL×fN))(r:Nat):Bool :=
 match ij ops r with
 |some t=>!oK t (iZ ops l r)
 |none=>B4
def oe(l:List (List bL×fN))(i:Nat):LY:=rL ((l[i]?.getD ([],.recover)).2)
def xE(c:LY):Bool:=qK c .alloc ||qK c .gY
def aW(ops:Array Pt)(l:List (List bL×fN)):mI :=
 {n:=ops.size,gA:=λ i=>(CN ops).getD i 0,cls:=oe l,jT:=EJ ops l,self:=BR ops l,made:=jD (λ i=>xE (oe l i)) ops.size,reads:=jD (λ i=>qK (oe l i) .read) ops.size}
def uD(i:Nat):List (Bool×Nat)->List (Bool×Nat)
 |[]=>[]
 |(c,j)::l=>cond (!c && I4 j i) [] ((c,j)::uD i l)
def Oe(ops:Array Pt)(I:mI)(plan:List (Bool×Nat))(i:Nat):Option (List Nat) :=
 let d:=bitsOf (uD i plan) 0
 cond (sO (λ j=>I4 j i ||(d.testBit j ||(I.gA j).testBit i)) I.n) (B1 (ops.toList.filterMap (·.dst))) B5
def iV(P:Jg)(nt:Nat)(ops:Array Pt)(draw:Bool):Option ai :=
 if ops.toList.all (pz nt)then
 (dv (ops.toList.map (gB P))).bind λ l =>
  if draw then
   let I:=aW ops l
   let plan:=nA I.cls I.gA ops.size (2*ops.size) 0 []
   cond (K6 I plan 0 && yB I) ((dv (plan.map (jG ops l (Oe ops I plan)))).bind λ steps=>B1 (.region steps)) (B1 .stuck)
  else(dv ((N2 ops.size).map λ i=>jG ops l (λ _=>B1 []) (B2,i))).bind λ steps=>B1 (.region steps)
 else B5
def cE(P:Jg)(nt:Nat):Nat->Code->Option (ai×List dV)
 |_,.skip=>B1 (.skip,[])
 |_,.region _ ops draw=>(iV P nt ops draw).bind λ c=>B1 (c,[])
 |k,.seq a b=>(cE P nt k a).bind λ a=>(cE P nt (k+a.2.length) b).bind λ b=>B1 (.seq a.1 b.1,a.2++b.2)
 |k,.cond c a b=>(rM P.globals.size c).bind λ c=>(cE P nt k a).bind λ a=>(cE P nt (k+a.2.length) b).bind λ b=>B1 (.cond c a.1 b.1,a.2++b.2)
 |k,.block id b=>(cE P nt k b).bind λ b=>B1 (.block id b.1,b.2)
 |k,.loop b=>(cE P nt k b).bind λ b=>B1 (.loop B5 b.1,b.2)
 |k,.rangeFunc f ps a b=>(rM P.globals.size f).bind λ f=>(cE P nt (k+1) a).bind λ a=>(cE P nt (k+1+a.2.length) b).bind λ b =>
  if ps.toList.all λ p=>Oz p nt then B1 (.rangeFunc f k,{params:=ps.toList,assign:=a.1,body:=b.1}::(a.2++b.2))else B5
 |_,.exit id=>B1 (.exit id,[])
 |k,.scope b=>(cE P nt k b).bind λ b=>B1 (.scope b.1,b.2)
 |_,.label l=>B1 (.label l,[])
 |_,.goto l=>B1 (.goto l,[])
 |_,.ret=>B1 (.ret,[])
 |_,.refuse _=>B1 (.stuck,[])
def rD(P:Jg):List ResultVar->Option (List eC)
 |[]=>B1 []
 | .tmp t::r=>(rD P r).bind λ l=>B1 (.tmp t::l)
 | .cell a t::r=>(nU P t).bind λ n=>(rD P r).bind λ l=>B1 ((match n with|none=>.kT a|some n=>.cZ n a)::l)
def uI(P:Jg)(fn:Func):Option bZ :=
 fn.body.bind λ b=>(cE P fn.ntmps 0 b).bind λ c=>(rD P fn.results.toList).bind λ r=>B1 {results:=r,body:=c.1,loops:=c.2}
def zC(P:Jg)(t:Ku)(name:String):Option Nat :=
 (P.info? t).bind λ i=>(i.methods.find? (·.name == name)).bind λ m =>
  if !m.path.isEmpty then B5 else m.func.bind λ p =>
   match P.underlying t,p.2 with
   |none,_=>B5
   |some (.pointer _),B4=>B1 p.1
   |some (.pointer _),B2=>B5
   |some _,B4=>B5
   |some _,B2=>B1 p.1
def bq(P:Jg):jU:={func:=λ f=>(P.funcs[f]?).bind (uI P),kI:=zC P}
end
end Go.Am
namespace Go.Am
namespace T
variable{α:Type}
def go_eq(f:Nat):∀(g i:Nat),i<=f->i<=g->path.go f i=path.go g i:=by
 induction f with
 |zero=>intro g i a hg;obtain rfl:i=0:=by omega
        cases g<;>simp[path.go]
 |succ f ih =>
  intro g i a hg;cases i with
  |zero=>grind
  |succ n =>
   cases g with
   |zero=>omega
   |succ g =>
    simp only[path.go];have h:n / 2<=n:=Nat.div_le_self n 2;congr 1;exact ih g (n / 2) (by omega) (by omega)
theorem xm9:path 0=[]:=rfl
theorem WY(n:Nat):path (n+1)=I4 (n % 2) 0::path (n / 2):=by
 show path.go (n+1) (n+1)=_;simp only[path.go];have h:n / 2<=n:=Nat.div_le_self n 2;exact congrArg (I4 (n % 2) 0 :: ·) (go_eq n (n / 2) (n / 2) h (qm _))
theorem Dn:∀(i j:Nat),path i=path j->i=j:=by
 intro i
 induction i using Nat.strongRecOn with
 |_ i ih =>
  intro j h;cases i with
  |zero=>cases j with
   |zero=>rfl
   |succ m=>grind [xm9,WY]
  |succ n=>cases j with
   |zero=>grind
   |succ m =>
    rw[WY,WY]at h;injection h with d c
    have f:=ih (n / 2) (by have:=Nat.div_le_self n 2;omega) (m / 2) c;have g:n % 2=m % 2:=by
     rcases Nat.mod_two_eq_zero_or_one n with a|a<;>rcases Nat.mod_two_eq_zero_or_one m with b|b<;>simp_all
    omega
def EN(p:List Bool):wW p (.nil:T α)=none:=by
 induction p with
 |nil=>rfl
 |cons b p ih=>cases b<;>exact ih
theorem q7h(v:Option α):∀(p:List Bool)(t:T α),wW p (fQ v p t)=v:=by
 intro p
 induction p with
 |nil=>intro t;rfl
 |cons b p ih=>intro t;cases b<;>exact ih _
theorem xcr(v:Option α):∀(p q:List Bool)(t:T α),p≠q->wW q (fQ v p t)=wW q t:=by
 intro p
 induction p with
 |nil =>
  intro q t h;cases q with
  |nil=>grind
  |cons b q=>cases b<;>rfl
 |cons b p ih =>
  intro q t h;cases q with
  |nil=>cases b<;>rfl
  |cons c q =>
   cases b<;>cases c
   .exact ih q _ (λ e=>h (by rw[e]))
   .rfl
   .rfl
   .exact ih q _ (λ e=>h (by rw[e]))
theorem kN(t:T α)(i j:Nat)(v:Option α):(t.put i v).get j=if i=j then v else t.get j:=by
 unfold get put
 by_cases h:i=j
 .grind [q7h]
 .simp only[h,ww];grind [xcr,Dn]
theorem aK(t:T α)(i j:Nat)(v:α):(t.set i v).get j=if i=j then B1 v else t.get j:=kN t i j (B1 v)
theorem get_nil(j:Nat):(T.nil:T α).get j=none:=EN _
def jW(p:List Bool)(t:T α):(oY p).run t=wW p t:=by
 induction p generalizing t with
 |nil=>rfl
 |cons b p ih=>cases b<;>exact ih _
def Fc(v:Option α)(p:List Bool)(t:T α):(BI p).run v t=fQ v p t:=by
 induction p generalizing t with
 |nil=>rfl
 |cons b p ih =>
  grind [BI,fQ]
end T
section
variable{α:Type}
theorem jL(l:List α)(i:Nat):nth l i=l[i]?:=by
 induction l generalizing i with
 |nil=>rfl
 |cons x l ih=>cases i with
  |zero=>rfl
  |succ n=>exact ih n
theorem px(a b:List α):kG a b=a++b:=by
 induction a with
 |nil=>rfl
 |cons x a ih=>exact congrArg (x :: ·) ih
def HC(l:List α):cR l=l.length:=by
 induction l with
 |nil=>rfl
 |cons x l ih=>exact congrArg (·+1) ih
theorem Dj(n:Nat)(l:List α):da n l=l.drop n:=by
 induction n generalizing l with
 |zero=>rfl
 |succ n ih=>cases l with
  |nil=>exact(ih []).trans (by simp)
  |cons x l=>exact ih l
theorem DA(n:Nat)(l:List α):EM n l=if n<=l.length then B1 (l.take n)else none:=by
 induction n generalizing l with
 |zero=>rfl
 |succ n ih=>cases l with
  |nil=>rfl
  |cons x l =>
   show(EM n l).bind (λ r=>B1 (x::r))=_
   grind
def ag0(new l:List α):yC new l=if new.length<=l.length then B1 (new++l.drop new.length)else none:=by
 induction new generalizing l with
 |nil=>rfl
 |cons x new ih=>cases l with
  |nil=>rfl
  |cons y l =>
   show(yC new l).bind (λ r=>B1 (x::r))=_
   grind
def AF(o:Nat)(new l:List α):putAt o new l=if o+new.length<=l.length then B1 (l.take o++new++l.drop (o+new.length))else none:=by
 induction o generalizing l with
 |zero=>show yC new l=_;rw[ag0];simp
 |succ o ih=>cases l with
  |nil =>
   show B5=_
   grind
  |cons x l =>
   show(putAt o new l).bind (λ r=>B1 (x::r))=_
   grind
def tV(l:List α)(o n:Nat):fO l o n=if n<=l.length-o then B1 ((l.drop o).take n)else none:=by
 grind [fO,DA,Dj]
end
theorem NP(a b:Int):vN a b=decide (a<=b):=by
 cases a<;>cases b<;>rw[Cg]<;>simp[vN,uo]<;>try omega
def LZ(a b:Int):AJ a b=decide (a<b):=by
 unfold AJ;rw[NP];grind
theorem DM(a b:Int):vD a b=(a == b):=by
 rw[Cg,beq_iff_eq];cases a<;>cases b<;>simp[vD]<;>omega
def Ul(a b:OA):sF a b=decide (a=b):=by cases a<;>cases b<;>rfl
theorem Wb(a b:UInt8):CG a b=(a == b):=by
 unfold CG;rw[Cg];simp_all[UInt8.toNat_inj]
theorem ML(a b:List UInt8):A8 a b=(a == b):=by
 induction a generalizing b with
 |nil=>cases b<;>rfl
 |cons x a ih=>cases b with
  |nil=>rfl
  |cons y b =>
   show cond (CG x y) (A8 a b) B2=_
   grind [Wb]
end Go.Am
namespace Go.Am
structure Th where
 ct:Nat->Nat
 off:Nat->Nat
 ext:Nat->Nat
def fT(θ:Th):mG->Fn
 | .func f=>.func f
 | .yield l=>.yield (θ.ct l)
def CM:Nat->Option Nat
 |0=>B5
 |n+1=>B1 n
mutual
def aC(θ:Th):AV->Kl
 | .bool b=>.bool b
 | .int k n=>.int k n
 | .str s=>.string ⟨s.toArray⟩
 | .nilp=>.pointer B5
 | .ptr b o=>.pointer (B1 ⟨θ.ct b,θ.off b+o,B5⟩)
 | .nils=>.slice B5 0 0
 | .slice b o n c=>.slice (B1 ⟨θ.ct b,θ.off b+o,B5⟩) n c
 | .gslice b i m s alt n=>.slice (B1 ⟨θ.ct b,θ.off b+(if(m-i) + θ.ext b=0 then alt else i*s),B5⟩) n ((m-i) + θ.ext b)
 | .eslice b=>.slice (B1 ⟨θ.ct b,θ.off b,CM (θ.ext b)⟩) 0 0
 | .nM=>.map B5
 | .map b=>.map (B1 (θ.ct b))
 | .fn f a b=>.func (fT θ f) (cu θ a).toArray (cu θ b).toArray
 | .nilf=>.nilFunc
 | .iface t v=>.iface t (aC θ v)
 | .nili=>.nilIface
 | .agg l=>.agg (cu θ l).toArray
 | .tuple l=>.tuple (cu θ l).toArray
def cu(θ:Th):List AV->List Kl
 |[]=>[]
 |v::vs=>aC θ v::cu θ vs
end
theorem vP(θ:Th)(l:List AV):cu θ l=l.map (aC θ):=by
 induction l with
 |nil=>rfl
 |cons x l ih=>simp[cu,ih]
def Ag(D:Nat->Prop)(θ θ':Th):Prop:=∀b,D b -> θ'.ct b = θ.ct b /\ θ'.off b = θ.off b /\ θ'.ext b = θ.ext b
theorem Ag.refl(D:Nat->Prop)(θ:Th):Ag D θ θ:=λ _ _=>⟨rfl,rfl,rfl⟩
theorem Ag.trans{D D':Nat->Prop}{θ θ' θ'':Th}(h:Ag D θ θ')(a:Ag D' θ' θ'')(c:∀b,D b->D' b):Ag D θ θ'':=λ b hb =>
 let⟨a1,a2,a3⟩:=h b hb;let⟨b1,b2,b3⟩:=a b (c b hb);(by omega)
def Ag.mono{D D':Nat->Prop}{θ θ':Th}(h:Ag D θ θ')(a:∀b,D' b->D b):Ag D' θ θ':=λ b hb=>h b (a b hb)
def VR(D:Nat->Prop)(θ:Th)(v:AV)(c:Kl):Prop:=∀θ',Ag D θ θ'->aC θ' v=c
def bP(D:Nat->Prop)(θ:Th)(l:List AV)(cs:List Kl):Prop:=∀θ',Ag D θ θ'->cu θ' l=cs
section
variable{D D':Nat->Prop}{θ θ':Th}
def VR.now{v:AV}{c:Kl}(h:VR D θ v c):aC θ v=c:=h θ (Ag.refl D θ)
def bP.now{l:List AV}{cs:List Kl}(h:bP D θ l cs):cu θ l=cs:=h θ (Ag.refl D θ)
theorem VR.up{v:AV}{c:Kl}(h:VR D θ v c)(ha:Ag D θ θ')(d:∀b,D b->D' b):VR D' θ' v c:=λ θ'' a=>h θ'' (ha.trans a d)
theorem bP.up{l:List AV}{cs:List Kl}(h:bP D θ l cs)(ha:Ag D θ θ')(c:∀b,D b->D' b):bP D' θ' l cs:=λ θ'' a=>h θ'' (ha.trans a c)
theorem bP.nil:bP D θ [] []:=λ _ _=>rfl
def bP.cons{v:AV}{c:Kl}{l:List AV}{cs:List Kl}(h:VR D θ v c)(hl:bP D θ l cs):bP D θ (v::l) (c::cs) :=
 λ θ' ha=>by simp[cu,h θ' ha,hl θ' ha]
def bP.eF{v:AV}{l:List AV}{cs:List Kl}(h:bP D θ (v::l) cs):∃c cs',cs=c::cs'/\VR D θ v c/\bP D θ l cs':=by
 refine⟨aC θ v,cu θ l,(by rw[<-h.now];rfl),λ θ' ha=>?_,λ θ' ha=>?_⟩
 .have:=(h θ' ha).trans h.now.symm;grind [cu]
 .have:=(h θ' ha).trans h.now.symm;grind [cu]
def bP.mB{cs:List Kl}(h:bP D θ [] cs):cs=[]:=h.now.symm
def bP.length{l:List AV}{cs:List Kl}(h:bP D θ l cs):cs.length=l.length:=by rw[<-h.now,vP];simp
def bP.app{l a:List AV}{cs cs':List Kl}(h:bP D θ l cs)(b:bP D θ a cs'):bP D θ (l++a) (cs++cs'):=by
 intro θ' ha;rw[vP,Jb,<-vP,<-vP,h θ' ha,b θ' ha]
def bP.rj{l:List AV}{cs:List Kl}(h:bP D θ l cs){i:Nat}{v:AV}(b:l[i]? = B1 v):∃c,cs[i]? = B1 c/\VR D θ v c:=by
 refine⟨aC θ v,?_,λ θ' ha=>?_⟩
 .rw [<-h.now,vP,xq,b];rfl
 .have:=(h θ' ha).trans h.now.symm;rw[vP,vP]at this;have a:=congrArg (λ l=>l[i]?) this;simp only[xq,b,Gs,qk]at a;exact a
theorem bP.drop{l:List AV}{cs:List Kl}(h:bP D θ l cs)(n:Nat):bP D θ (l.drop n) (cs.drop n):=by
 intro θ' ha;rw[vP,List.map_drop,<-vP,h θ' ha]
def bP.take{l:List AV}{cs:List Kl}(h:bP D θ l cs)(n:Nat):bP D θ (l.take n) (cs.take n):=by
 intro θ' ha;rw[vP,List.map_take,<-vP,h θ' ha]
def bP.one{v:AV}{c:Kl}(h:VR D θ v c):bP D θ [v] [c]:=.cons h .nil
def VR.agg{l:List AV}{cs:List Kl}(h:bP D θ l cs):VR D θ (.agg l) (.agg cs.toArray):=λ θ' ha=>by simp[aC,h θ' ha]
def VR.tuple{l:List AV}{cs:List Kl}(h:bP D θ l cs):VR D θ (.tuple l) (.tuple cs.toArray):=λ θ' ha=>by simp[aC,h θ' ha]
def VR.fC{l:List AV}{c:Kl}(h:VR D θ (.agg l) c):∃cs:List Kl,c=.agg cs.toArray/\bP D θ l cs:=by
 refine⟨cu θ l,h.now.symm,λ θ' ha=>?_⟩;have:=(h θ' ha).trans h.now.symm;simpa[aC]using this
def VR.Av{l:List AV}{c:Kl}(h:VR D θ (.tuple l) c):∃cs:List Kl,c=.tuple cs.toArray/\bP D θ l cs:=by
 refine⟨cu θ l,h.now.symm,λ θ' ha=>?_⟩;have:=(h θ' ha).trans h.now.symm;simpa[aC]using this
def VR.iface{t:Nat}{v:AV}{c:Kl}(h:VR D θ v c):VR D θ (.iface t v) (.iface t c):=λ θ' ha=>by simp[aC,h θ' ha]
def VR.mA{t:Nat}{v:AV}{c:Kl}(h:VR D θ (.iface t v) c):∃a,c=.iface t a/\VR D θ v a:=by
 refine⟨aC θ v,h.now.symm,λ θ' ha=>?_⟩;have:=(h θ' ha).trans h.now.symm;simpa[aC]using this
def VR.undef:VR D θ .undef Go.undef:=λ _ _=>rfl
def VR.bool(b:Bool):VR D θ (.bool b) (.bool b):=λ _ _=>rfl
def VR.int(k:OA)(n:Int):VR D θ (.int k n) (.int k n):=λ _ _=>rfl
def VR.str(s:List UInt8):VR D θ (.str s) (.string ⟨s.toArray⟩):=λ _ _=>rfl
def VR.ptr{b o:Nat}(hb:D b):VR D θ (.ptr b o) (.pointer (B1 ⟨θ.ct b,θ.off b+o,B5⟩)):=λ θ' ha=>by obtain⟨a,c,_⟩:=ha b hb;grind [aC]
theorem VR.map{b:Nat}(hb:D b):VR D θ (.map b) (.map (B1 (θ.ct b))):=λ θ' ha=>by obtain⟨a,_,_⟩:=ha b hb;simp[aC,a]
def VR.slice{b o n c:Nat}(hb:D b):VR D θ (.slice b o n c) (aC θ (.slice b o n c)):=λ θ' ha=>by obtain⟨a,d,_⟩:=ha b hb;grind [aC]
def VR.gslice{b i m s alt n:Nat}(hb:D b):VR D θ (.gslice b i m s alt n) (aC θ (.gslice b i m s alt n)):=λ θ' ha=>by
 obtain⟨a,c,d⟩:=ha b hb;grind [aC]
end
def JQ(fz cfz:Nat×Nat)(off size:Nat):Prop:=cfz.1=cfz.2\/(cfz.1<cfz.2/\off+fz.1<=cfz.1/\cfz.2<=off+fz.2)\/(fz.2<fz.1/\(size<=cfz.1\/cfz.2<=off))
def Mj(fz cfz:Nat×Nat):Prop:=cfz.1=cfz.2\/(cfz.1<cfz.2/\fz.1<=cfz.1/\cfz.2<=fz.2)
def own:bE->Bool
 | .row _ _ _ o=>o
 |_=>B4
def pU(D:Nat->Prop)(θ:Th)(tm:T AV)(a:Array Kl):Prop:=∀t v,tm.get t=B1 v -> ∃c,a[t]? = B1 c/\VR D θ v c
def _9:nC->LoopState
 | .ready=>.ready| .busy=>.busy| .done=>.done| .exhausted=>.exhausted
def mM:ic->Code
 | .exit id=>.exit id
 | .goto l=>.goto l
 | .ret=>.ret
def Qd(D:Nat->Prop)(θ:Th)(e:AV×AV×Nat)(m:Bo):Prop:=VR D θ e.1 m.key/\VR D θ e.2.1 m.val/\m.born=e.2.2
def dB(D:Nat->Prop)(θ:Th):List (AV×AV×Nat)->List Bo->Prop
 |[],[]=>True
 |e::es,m::ms=>Qd D θ e m/\dB D θ es ms
 |_,_=>False
def xI(P:Jg)(f k n:Nat)(params:Array Tmp)(assign body:Code):Prop :=
 ∃fn af lp ka kb L1 L2,P.funcs[f]? = B1 fn/\uI P fn=B1 af/\nth af.loops k=B1 lp/\lp.params=params.toList/\(∀p∈params.toList,p<fn.ntmps)/\fn.ntmps<=n /\
  cE P fn.ntmps ka assign=B1 (lp.assign,L1)/\(∀i l,nth L1 i=B1 l->nth af.loops (ka+i)=B1 l) /\
  cE P fn.ntmps kb body=B1 (lp.body,L2)/\(∀i l,nth L2 i=B1 l->nth af.loops (kb+i)=B1 l)
def Y0(D:Nat->Prop)(θ:Th):aL->Deferred->Prop
 | .iy b,d=>D b/\d = {target:=.collected (θ.ct b),args:=#[]}
 | .fn f args,d=>∃c cap:Array Kl,d = {target:=.fn (fT θ f) cap,args:=c}/\(∀θ',Ag D θ θ'->fT θ' f=fT θ f)/\bP D θ args (c++cap).toList
def pj(P:Jg)(D:Nat->Prop)(θ:Th)(b:Nat):bE->Obj->Prop
 | .row cells e fz ow,o=>∃pre cs post cfz e',o=.cells (pre++cs++post).toArray e' cfz/\pre.length = θ.off b/\bP D θ cells cs /\
  (ow=B4->e'=e/\pre=[]/\post=[]/\Mj fz cfz)
 | .grown m size cells e fz,o=>∃pre cs post cfz,o=.cells (pre++cs++post).toArray e cfz/\pre.length = θ.off b/\bP D θ cells cs /\
  cells.length=m*size/\post.length = θ.ext b*size/\0<size/\m + θ.ext b<=maxLen/\JQ fz cfz (θ.off b) (pre.length+cs.length+post.length)
 | .map es clock,o=>∃ms:List Bo,o=.map ms.toArray clock/\dB D θ es ms
 | .mD s pos,o=>o=.stringIter ⟨s.toArray⟩ pos /\ θ.off b=0
 | .loop st pend f k tm d,o=>∃r:Loop,o=.loop r/\r.state=_9 st/\r.pending=pend.map mM/\r.fn=f/\pU D θ tm r.tmps/\xI P f k r.tmps.size r.params r.assign r.body /\
  D d/\r.defers = θ.ct d
 | .deferred calls,o=>∃ds,o=.deferred ds/\(match calls,ds with
  |none,B5=>True
  |some l,B1 l'=>l=[]/\l'=[]
  |_,_=>False)
structure HR(P:Jg)(base:Nat)(D:Nat->Prop)(θ:Th)(H:ar)(w:N7):Prop where
 obj:∀b o,H.get b=B1 o->D b /\ ∃co,w.heap[θ.ct b]? = B1 co/\pj P D θ b o co
 inj:∀b b' o o',H.get b=B1 o->H.get b'=B1 o'->own o=B4->b≠b' -> θ.ct b≠θ.ct b'
 lR:∀b o,H.get b=B1 o->own o=B4->base <= θ.ct b
 eR:∀g,g<P.globals.size->D g /\ θ.ct g=g /\ θ.off g=0
 low:base<=w.heap.size
def Lt(n:Nat):Nat->Prop:=λ b=>b<n
end Go.Am
namespace Go.Am
theorem zD(k o i:Nat):(⟨k,o,B5⟩:Addr).add i=⟨k,o+i,B5⟩:=by grind [Addr.add]
def fF(w:N7)(k:Nat)(o:Obj):World:={w with heap:=w.heap.setIfInBounds k o}
def SU(w:N7)(k:Nat)(o:Obj):(fF w k o).heap.size=w.heap.size:=by simp[fF]
theorem K3(w:N7)(k j:Nat)(o:Obj)(h:k<w.heap.size):(fF w k o).heap[j]? = if k=j then B1 o else w.heap[j]?:=by
 grind [fF]
def xn8(w:N7)(k:Nat)(o o':Obj):fF (fF w k o) k o'=fF w k o':=by
 simp[fF]
def xn7(w:N7)(k:Nat)(o:Obj)(h:w.heap[k]? = B1 o):fF w k o=w:=by
 have:w.heap.setIfInBounds k o=w.heap:=by
  grind
 simp_all[fF]
def Dl(w:N7)(o:Obj)(j:Nat):(w.alloc o).heap[j]? = if j=w.heap.size then B1 o else w.heap[j]?:=by
 grind [N7.alloc]
section
variable{P:Jg}{w:N7}{k:Nat}{arr:Array Kl}{e:Ku}{fz:Nat×Nat}
theorem Qt(h:w.heap[k]? = B1 (.cells arr e fz))(o:Nat):w.cell? ⟨k,o,B5⟩=arr[o]?:=by simp[World.cell?,h]
theorem xnr(h:w.heap[k]? = B1 (.cells arr e fz)){o:Nat}{v:Kl}(a:arr[o]? = B1 v):(load ⟨k,o,B5⟩).run P w=.ok v w:=by
 rw[run_load,Qt h,a]
def xd3(h:w.heap[k]? = B1 (.cells arr e fz))(o n:Nat)(hn:n<=arr.size-o) :
 (loadCells ⟨k,o,B5⟩ n).run P w=.ok ((arr.toList.drop o).take n).toArray w:=by
 have hl:((arr.toList.drop o).take n).length=n:=by grind
 grind [run_loadCells_list,zD,Qt]
def Sy(a:Nat):∀(vs:List Kl)(i:Nat)(arr:Array Kl)(w:N7),w.heap[k]? = B1 (.cells arr e fz) ->
 a+i+vs.length<=arr.size->(∀j,j<vs.length -> ¬(fz.1<=a+i+j/\a+i+j<fz.2))->(∀v∈vs,v.oneCell'=B4) ->
 (storeCells ⟨k,a,B5⟩ vs i).run P w=.ok () (fF w k (.cells (arr.toList.take (a+i)++vs++arr.toList.drop (a+i+vs.length)).toArray e fz))
 |[],i,arr,w,hg,_,_,_=>by
  simp only[storeCells,zq,jo,Ae,yu,CA];rw[xn7 w k _ hg];rfl
 |v::rest,i,arr,w,hg,hl,hf,h1=>by
  have m:a+i<arr.size:=by grind
  have hk:k<w.heap.size:=(Tp.1 hg).1;have b:w.cell? ⟨k,a+i,B5⟩=B1 arr[a+i]:=by rw[Qt hg];grind
  have d:w.frozen? ⟨k,a+i,B5⟩=false:=by
   have:=hf 0 (by simp)
   grind [N7.frozen?]
  have f:w.setCell ⟨k,a+i,B5⟩ v=fF w k (.cells (arr.setIfInBounds (a+i) v) e fz):=by
   simp only[N7.setCell,fF];congr 1
   grind
  have c:(store ((⟨k,a,B5⟩:Addr).add i) v).run P w=.ok () (fF w k (.cells (arr.setIfInBounds (a+i) v) e fz)):=by
   grind [zD,run_store]
  have h:=Sy a rest (i+1) (arr.setIfInBounds (a+i) v) (fF w k (.cells (arr.setIfInBounds (a+i) v) e fz))
   (by grind [K3]) (by grind)
   (λ j g=>by have:=hf (j+1) (by simpa using g);rwa [show a+i+(j+1)=a+(i+1)+j from by omega]at this)
   (by grind)
  simp only[storeCells,Nc,c,N9,h,xn8];congr 3;have l:=list_seg_step arr.toList (a+i) v rest (by simp at hl⊢;omega);simp_all[Ad]
end
def Up(D:Nat->Prop)(n m:Nat):Nat->Prop:=λ b=>D b\/(n<=b/\b<m)
def Up.of{D:Nat->Prop}{n m:Nat}:∀b,D b->Up D n m b:=λ _ h=>.inl h
def eE(D:Nat->Prop)(n m:Nat):Prop:=∀b,n<=b->b<m -> ¬D b
theorem Up.up{D:Nat->Prop}{n m k:Nat}(h:n<=m)(a:m<=k):Up (Up D n m) m k=Up D n k:=by
 funext b;simp only[Up,eq_iff_iff]
 grind
theorem Up.none{D:Nat->Prop}{n:Nat}:Up D n n=D:=by
 funext b;simp only[Up,eq_iff_iff]
 grind
def eE.left{D:Nat->Prop}{n m k:Nat}(h:eE D n k)(hk:m<=k):eE D n m:=λ b a c=>h b a (by omega)
def eE.right{D:Nat->Prop}{n m k:Nat}(h:eE D n k)(hm:n<=m):eE (Up D n m) m k:=λ b d c a=>by
 rcases a with a|⟨_,f⟩
 .exact h b (by omega) c a
 .omega
structure bG(D:Nat->Prop)(H:ar)(θ:Th)(w:N7)(H':ar)(θ':Th)(w':N7):Prop where
 au:H.au<=H'.au
 ag:Ag D θ θ'
 size:w.heap.size<=w'.heap.size
 os:w'.os=w.os
 tape:w'.tape=w.tape
 output:w'.output=w.output
 ah:∀k,k<w.heap.size->(∀b o,H.get b=B1 o->own o=B4 -> θ.ct b≠k)->w'.heap[k]? = w.heap[k]?
 news:∀b o,H'.get b=B1 o->own o=B4 -> θ'.ct b<w.heap.size -> ∃b' o',H.get b'=B1 o'/\own o'=B4 /\ θ.ct b' = θ'.ct b
theorem bG.refl(D:Nat->Prop)(H:ar)(θ:Th)(w:N7):bG D H θ w H θ w :=
 ⟨qm _,Ag.refl _ _,qm _,rfl,rfl,rfl,λ _ _ _=>rfl,λ b o h ho _=>(by grind)⟩
theorem bG.trans{D D':Nat->Prop}{H H' c:ar}{θ θ' θ'':Th}{w w' d:N7}(a:bG D H θ w H' θ' w')(b:bG D' H' θ' w' c θ'' d)(p:∀b,D b->D' b):bG D H θ w c θ'' d:=by
 refine⟨xx a.au b.au,a.ag.trans b.ag p,xx a.size b.size,b.os.trans a.os,b.tape.trans a.tape,b.output.trans a.output,?_,?_⟩
 .intro k hk g;refine(b.ah k (qn hk a.size) ?_).trans (a.ah k hk g);intro x o h ho he;have⟨i,o',j,l,n⟩:=a.news x o h ho (by omega)
  grind
 .intro x o h ho f;have⟨i,o',j,l,n⟩:=b.news x o h ho (qn f a.size);have⟨m,q,r,s,t⟩:=a.news i o' j l (by omega)
  grind
def bG.draw{D:Nat->Prop}{H:ar}{θ:Th}{w w':N7}(a:w'.heap=w.heap)(ho:w'.os=w.os)(c:w'.tape=w.tape)(hp:w'.output=w.output):bG D H θ w H θ w' :=
 ⟨qm _,Ag.refl _ _,by grind,ho,c,hp,λ _ _ _=>by rw[a],λ b o h hw _=>(by grind)⟩
def HR.draw{P:Jg}{base:Nat}{D:Nat->Prop}{θ:Th}{H:ar}{w w':N7}(h:HR P base D θ H w)(a:w'.heap=w.heap):HR P base D θ H w' :=
 ⟨λ b o hb=>by rw[a];exact h.obj b o hb,h.inj,h.lR,h.eR,by rw[a];exact h.low⟩
theorem dB.up{D D':Nat->Prop}{θ θ':Th}(ha:Ag D θ θ')(a:∀b,D b->D' b):∀(es:List (AV×AV×Nat))(ms:List Bo),dB D θ es ms->dB D' θ' es ms
 |[],[],_=>trivial
 |e::es,m::ms,⟨⟨h1,h2,h3⟩,h⟩=>⟨⟨h1.up ha a,h2.up ha a,h3⟩,dB.up ha a es ms h⟩
 |[],_::_,h=>h.elim
 |_::_,[],h=>h.elim
theorem pj.up{P:Jg}{D D':Nat->Prop}{θ θ':Th}{b:Nat}{o:bE}{co:Obj}(h:pj P D θ b o co)(hb:D b)(ha:Ag D θ θ')(n:∀b,D b->D' b):pj P D' θ' b o co:=by
 have⟨e1,e2,A⟩:=ha b hb;cases o with
 |row cells e fz ow =>
  have⟨pre,cs,post,a,y,g,i,j,l⟩:=h;exact⟨pre,cs,post,a,y,g,by omega,j.up ha n,l⟩
 |grown m size cells e fz =>
  have⟨pre,cs,post,a,g,i,j,l,u,p,q,x⟩:=h;exact⟨pre,cs,post,a,g,by omega,j.up ha n,l,by grind,p,by omega,by grind⟩
 |map es clock =>
  have⟨ms,g,i⟩:=h;exact⟨ms,g,dB.up ha n _ _ i⟩
 |mD s pos=>exact⟨h.1,e2.trans h.2⟩
 |loop st pend f k tm d =>
  have⟨r,g,i,j,l,u,p,q,x⟩:=h;exact⟨r,g,i,j,l,λ t v z=>let⟨c,hc,hr⟩:=u t v z;⟨c,hc,hr.up ha n⟩,p,n d q,by rw[(ha d q).1];exact x⟩
 |deferred calls=>exact h
theorem HR.up{P:Jg}{base:Nat}{D D':Nat->Prop}{θ:Th}{H:ar}{w:N7}(h:HR P base D θ H w)(a:∀b,D b->D' b):HR P base D' θ H w :=
 ⟨λ b o hb=>let⟨h1,co,h2,h3⟩:=h.obj b o hb;⟨a b h1,co,h2,h3.up h1 (Ag.refl _ _) a⟩,h.inj,h.lR,λ g hg=>⟨a g (h.eR g hg).1,(h.eR g hg).2⟩,h.low⟩
section
variable{P:Jg}{base:Nat}{D:Nat->Prop}{θ:Th}{H:ar}{w:N7}
def HR.lt(h:HR P base D θ H w){b:Nat}{o:bE}(hb:H.get b=B1 o):θ.ct b<w.heap.size:=by
 have⟨_,co,a,_⟩:=h.obj b o hb
 grind
theorem ar.aK(H:ar)(b a:Nat)(o:bE):(H.set b o).get a=if b=a then B1 o else H.get a:=T.aK _ _ _ _
def ar.bO(H:ar)(a:Nat)(o:bE):(H.alloc o).get a=if H.au=a then B1 o else H.get a:=T.aK _ _ _ _
theorem ar.rE(H:ar)(b a:Nat):(H.kill b).get a=if b=a then B5 else H.get a:=T.kN _ _ _ _
theorem HR.set(h:HR P base D θ H w){b:Nat}{o o':bE}{co':Obj}(hb:H.get b=B1 o)(ho:own o=B4)(p:own o'=B4)(hr:pj P D θ b o' co') :
 HR P base D θ (H.set b o') (fF w (θ.ct b) co'):=by
 have i:=h.lt hb;refine⟨λ x f a=>?_,λ x y f j a g c d=>?_,λ x f a c=>?_,h.eR,by rw[SU];exact h.low⟩
 .rw [ar.aK]at a
  by_cases e:b=x
  .subst e;simp only[uE,qk]at a;subst a;exact⟨(h.obj b o hb).1,co',by grind [K3],hr⟩
  .simp only[e,ww]at a;have⟨l,co,m,n⟩:=h.obj x f a;exact⟨l,co,by rw[K3 _ _ _ _ i,qy (h.inj b x o f hb a ho e)];exact m,n⟩
 .rw [ar.aK]at a g
  by_cases e:b=x<;>by_cases e':b=y
  .omega
  .subst e;simp only[e',ww]at g;exact h.inj b y o j hb g ho d
  .subst e';simp only[e,ww]at a;exact h.inj x b f o a hb c d
  .simp only[e,e',ww]at a g;exact h.inj x y f j a g c d
 .rw [ar.aK]at a
  by_cases e:b=x
  .subst e;exact h.lR b o hb ho
  .simp only[e,ww]at a;exact h.lR x f a c
theorem bG.set{b:Nat}{o o':bE}{co':Obj}(hb:H.get b=B1 o)(ho:own o=B4)(a:θ.ct b<w.heap.size) :
 bG D H θ w (H.set b o') θ (fF w (θ.ct b) co'):=by
 refine⟨qm _,Ag.refl _ _,by simp_all[SU],rfl,rfl,rfl,λ k hk c=>?_,λ x g f d _=>?_⟩
 .simp_all [K3]
 .rw [ar.aK]at f
  grind
def Th.add(θ:Th)(n ct off ext:Nat):Th:={ct:=λ b=>if b=n then ct else θ.ct b,off:=λ b=>if b=n then off else θ.off b,ext:=λ b=>if b=n then ext else θ.ext b}
def Th.eT(θ:Th)(n ct off ext:Nat):(θ.add n ct off ext).ct n=ct/\(θ.add n ct off ext).off n=off/\(θ.add n ct off ext).ext n=ext:=by simp[Th.add]
def Th.hO(θ:Th)(n ct off ext:Nat){D:Nat->Prop}(hn:¬D n):Ag D θ (θ.add n ct off ext):=λ b hb=>by
 grind [Th.add]
end
section
variable{P:Jg}{base:Nat}{D:Nat->Prop}{θ:Th}{H:ar}{w:N7}
theorem HR.alloc(h:HR P base D θ H w)(hn:¬D H.au){o:bE}{co:Obj}{k off ext:Nat}{w':N7}(hk:w'.heap[k]? = B1 co)(p:∀j,j<w.heap.size->w'.heap[j]? = w.heap[j]?)(u:w.heap.size<=k)
 (hs:w.heap.size<=w'.heap.size) (hr:pj P (Up D H.au (H.au+1)) (θ.add H.au k off ext) H.au o co) :
 HR P base (Up D H.au (H.au+1)) (θ.add H.au k off ext) (H.alloc o) w':=by
 have d:=Th.hO θ H.au k off ext hn;have⟨e1,e2,v⟩:=Th.eT θ H.au k off ext;have old:∀x b,H.get x=B1 b->(θ.add H.au k off ext).ct x = θ.ct x:=λ x b a=>(d x (h.obj x b a).1).1;refine⟨λ x b a=>?_,λ x y b q a i f m=>?_,λ x b a f=>?_,λ g hg=>?_,by have:=h.low;omega⟩
 .rw [ar.bO]at a
  by_cases e:H.au=x
  .subst e;simp only[uE,qk]at a;subst a;exact⟨.inr ⟨qm _,zu _⟩,co,by rw[e1];exact hk,hr⟩
  .simp only[e,ww]at a;have⟨l,c,r,n⟩:=h.obj x b a;refine⟨.inl l,c,?_,n.up l d Up.of⟩
   grind
 .rw [ar.bO]at a i
  by_cases e:H.au=x<;>by_cases e':H.au=y
  .exact absurd (e.symm.trans e') m
  .subst e;simp only[e',ww]at i;rw[e1,old y q i];have:=h.lt i;omega
  .subst e';simp only[e,ww]at a;rw[e1,old x b a];have:=h.lt a;omega
  .simp only[e,e',ww]at a i;rw[old x b a,old y q i];exact h.inj x y b q a i f m
 .rw [ar.bO]at a
  by_cases e:H.au=x
  .subst e;rw[e1];have:=h.low;omega
  .simp only[e,ww]at a;rw[old x b a];exact h.lR x b a f
 .have ⟨l,r,n⟩:=h.eR g hg;have⟨s,t,_⟩:=d g l;exact⟨.inl l,s.trans r,t.trans n⟩
theorem bG.alloc(h:HR P base D θ H w)(hn:¬D H.au)(o:bE)(co:Obj)(off ext:Nat):bG D H θ w (H.alloc o) (θ.add H.au w.heap.size off ext) (w.alloc co):=by
 have a:=Th.hO θ H.au w.heap.size off ext hn;have⟨e1,e2,g⟩:=Th.eT θ H.au w.heap.size off ext;refine⟨j7 _,a,by simp,rfl,rfl,rfl,λ k hk _=>?_,λ x f b d c=>?_⟩
 .rw [Dl,qy (Ll hk)]
 .rw [ar.bO]at b
  by_cases e:H.au=x
  .grind
  .simp only[e,ww]at b;have:=(a x (h.obj x f b).1).1
   grind
end
section
variable{P:Jg}{base:Nat}{D:Nat->Prop}{θ:Th}{H:ar}{w:N7}
def HR.cells(h:HR P base D θ H w){b:Nat}{l:List AV}(hb:H.bX b=B1 l) :
 ∃pre cs post e fz,w.heap[θ.ct b]? = B1 (.cells (pre++cs++post).toArray e fz)/\pre.length = θ.off b/\bP D θ l cs:=by
 unfold ar.bX at hb;cases hg:H.get b with
 |none=>grind
 |some o =>
  rw[hg]at hb;have⟨_,co,i,hr⟩:=h.obj b o hg;cases o with
  |row cells e fz ow =>
   have⟨pre,cs,post,a,g,c,d,f,_⟩:=hr
   grind
  |grown m size cells e fz =>
   have⟨pre,cs,post,a,c,d,f,_⟩:=hr
   grind
  |map _ _=>cases hb
  |mD _ _=>cases hb
  |loop _ _ _ _ _ _=>cases hb
  |deferred _=>cases hb
def qx(pre cs post:List Kl)(o n:Nat)(h:n<=cs.length-o):(((pre++cs++post).toArray.toList.drop (pre.length+o)).take n)=(cs.drop o).take n:=by
 simp_all[G2,Qu]
def HR.ae(h:HR P base D θ H w){b o:Nat}{v:AV}(hl:H.ae b o=B1 v) :
 ∃c,(load ⟨θ.ct b,θ.off b+o,B5⟩).run P w=.ok c w/\VR D θ v c:=by
 unfold ar.ae at hl;cases a:H.bX b with
 |none=>grind
 |some l =>
  rw[a]at hl;have⟨pre,cs,post,e,fz,i,j,d⟩:=h.cells a;simp only[qr,jL]at hl;have⟨c,f,g⟩:=d.rj hl
  grind [xnr]
def HR.aq(h:HR P base D θ H w){b o n:Nat}{l:List AV}(hl:H.aq b o n=B1 l) :
 ∃cs:List Kl,(loadCells ⟨θ.ct b,θ.off b+o,B5⟩ n).run P w=.ok cs.toArray w/\bP D θ l cs/\l.length=n:=by
 unfold ar.aq at hl;cases c:H.bX b with
 |none=>grind
 |some l0 =>
  rw[c]at hl;have⟨pre,cs,post,e,fz,d,f,a⟩:=h.cells c;simp only[qr,tV]at hl;split at hl
  .rename_i hn;cases hl;have hlen:=a.length;refine⟨(cs.drop o).take n,?_,(a.drop o).take n,by grind⟩;rw[<-f,xd3 d (pre.length+o) n (by grind),qx pre cs post o n (by omega)]
  grind
theorem xdm{v:AV}{c:Kl}(h:VR D θ v c)(a:aB v=B4):c.oneCell'=true:=by
 rw[<-h.now];cases v<;>simp_all[aB,aC,Kl.oneCell']
theorem vh(l:List AV):aN l=l.all aB:=by
 induction l with
 |nil=>rfl
 |cons x l ih =>
  show cond (aB x) (aN l) B2=_
  grind
def _p{l:List AV}{cs:List Kl}(h:bP D θ l cs)(b:aN l=B4):∀c∈cs,c.oneCell'=true:=by
 intro c d;have⟨i,m⟩:=MA d;rw[vh,Ic]at b;have a:i<l.length:=by rw[<-h.length];grind
 have⟨f,g,j⟩:=h.rj (xf a)
 grind [xdm]
end
end Go.Am
namespace Go.Am
def sH(P:Jg)(s:Sem Next)(w:N7)(c:Kl)(w':N7):Prop:=s.run P w=.ok (.value c) w'\/(s.run P w=.ok .skip w'/\c=Go.undef)
def dt(P:Jg)(o:Pt)(xs:List M6)(f:List AV->Option AV):Prop :=
 ∀(D:Nat->Prop)θ(ρ:M6->Kl)w vs v,bP D θ vs (xs.map ρ)->f vs=B1 v -> ∃c,sH P (execOp ρ o) w c w/\VR D θ v c
section
variable{P:Jg}{w:N7}
def ku{t:Ku}{d:TypeDesc}(h:P.underlying t=B1 d):(underlying t).run P w=.ok d w:=run_underlying h w
def vA{t:Ku}{n:Nat}(h:bW P t=B1 n):(sizeOf t).run P w=.ok n w:=by
 unfold bW at h;cases a:P.info? t with
 |none=>grind
 |some i=>simp_all[sizeOf,typeInfo]
def nB{t:Ku}{n:Nat}(h:bW P t=B1 n):∃i,P.info? t=B1 i/\i.size=n:=by
 unfold bW at h;cases a:P.info? t with
 |none=>grind
 |some i=>grind
def Tz{t:Ku}{n:Option Nat}(h:nU P t=B1 n):(isAgg t).run P w=.ok n.isSome w /\ ∀k,n=B1 k->(sizeOf t).run P w=.ok k w:=by
 unfold nU at h;cases hu:P.underlying t with
 |none=>grind
 |some d =>
  rw[hu]at h;cases d
  case struct fs =>
   simp only at h;cases hs:bW P t with
   |none=>grind
   |some m =>
    rw[hs]at h;cases h;simp_all[isAgg,ku,vA]
  case array m e =>
   simp only at h;cases hs:bW P t with
   |none=>grind
   |some m =>
    rw[hs]at h;cases h;simp_all[isAgg,ku,vA]
  all_goals
   (cases h
    simp_all[isAgg,ku])
mutual
def ZT(θ:Th):∀(c:Kl)(v:AV),gh c=B1 v->aC θ v=c
 | .bool b,v,h=>by simp[gh]at h;subst h;rfl
 | .int k n,v,h=>by simp[gh]at h;subst h;rfl
 | .string s,v,h=>by simp[gh]at h;subst h;simp[aC]
 | .pointer B5,v,h=>by simp[gh]at h;subst h;rfl
 | .pointer (B1 a),v,h=>by grind [gh]
 | .slice B5 0 0,v,h=>by simp[gh]at h;subst h;rfl
 | .slice B5 0 (n+1),v,h=>by grind [gh]
 | .slice B5 (n+1) c,v,h=>by grind [gh]
 | .slice (B1 a) n c,v,h=>by grind [gh]
 | .map B5,v,h=>by simp[gh]at h;subst h;rfl
 | .map (B1 r),v,h=>by grind [gh]
 | .nilFunc,v,h=>by simp[gh]at h;subst h;rfl
 | .nilIface,v,h=>by simp[gh]at h;subst h;rfl
 | .iface t x,v,h=>by
  simp only[gh]at h;cases d:gh x with
  |none=>grind
  |some y=>rw[d]at h;cases h;simp[aC,ZT θ x y d]
 | .agg cs,v,h=>by
  simp only[gh]at h;cases d:nI cs.toList with
  |none=>grind
  |some l=>rw[d]at h;cases h;simp[aC,Wq θ cs.toList l d]
 | .tuple cs,v,h=>by
  simp only[gh]at h;cases d:nI cs.toList with
  |none=>grind
  |some l=>rw[d]at h;cases h;simp[aC,Wq θ cs.toList l d]
 | .float _ _,v,h=>by grind [gh]
 | .complex _ _ _,v,h=>by grind [gh]
 | .chan _,v,h=>by grind [gh]
 | .func _ _ _,v,h=>by grind [gh]
def Wq(θ:Th):∀(cs:List Kl)(l:List AV),nI cs=B1 l->cu θ l=cs
 |[],l,h=>by simp[nI]at h;subst h;rfl
 |c::cs,l,h=>by
  simp only[nI]at h;cases a:gh c with
  |none=>grind
  |some y =>
   rw[a]at h;simp only[qr]at h;cases b:nI cs with
   |none=>grind
   |some ys=>rw[b]at h;cases h;simp[cu,ZT θ c y a,Wq θ cs ys b]
end
def R9{D:Nat->Prop}{θ:Th}{c:Kl}{v:AV}(h:gh c=B1 v):VR D θ v c:=λ θ' _=>ZT θ' c v h
def Lv{t:Ku}{z:AV}(h:zeroOf P t=B1 z):∃c,(zeroValue t).run P w=.ok c w /\ ∀D θ,VR D θ z c:=by
 unfold zeroOf at h;cases a:P.info? t with
 |none=>grind
 |some i =>
  rw[a]at h;simp only[qr]at h;cases b:i.zero with
  |none=>grind
  |some c=>simp_all[zeroValue,typeInfo,R9]
end
section
variable{D:Nat->Prop}{θ:Th}
def VR.cells{v:AV}{c:Kl}(h:VR D θ v c):bP D θ v.cells c.cells.toList:=by
 intro θ' ha;have a:=h θ' ha;subst a;cases v<;>simp[AV.cells,aC,Kl.cells,cu]
end
section
variable{P:Jg}{D:Nat->Prop}{θ:Th}{ρ:M6->Kl}{w:N7}
theorem bP.iX{x:M6}{vs:List AV}(h:bP D θ vs ([x].map ρ)):∃v,vs=[v]/\VR D θ v (ρ x):=by
 cases vs with
 |nil=>have:=h.length;grind
 |cons v vs =>
  have⟨c,cs,a,d,b⟩:=h.eF;simp only[j6,FB,z4]at a;obtain⟨rfl,rfl⟩:=a;have:=b.length
  grind
theorem bP.tQ{x y:M6}{vs:List AV}(h:bP D θ vs ([x,y].map ρ)):∃a b,vs=[a,b]/\VR D θ a (ρ x)/\VR D θ b (ρ y):=by
 cases vs with
 |nil=>have:=h.length;grind
 |cons v vs =>
  have⟨c,cs,d,f,g⟩:=h.eF
  grind [bP.iX]
def bP.tf{x y z:M6}{vs:List AV}(h:bP D θ vs ([x,y,z].map ρ)):∃a b c,vs=[a,b,c]/\VR D θ a (ρ x)/\VR D θ b (ρ y)/\VR D θ c (ρ z):=by
 cases vs with
 |nil=>have:=h.length;grind
 |cons v vs =>
  have⟨c,cs,d,f,g⟩:=h.eF
  grind [bP.tQ]
def Φ{o:Pt}{x:M6}(ho:o.op=.move x\/o.op=.assign x):dt P o [x] Op.move:=by
 intro D θ ρ w vs v h b;obtain⟨a,rfl,ha⟩:=bP.iX h;simp only[Op.move,qk]at b;subst b;refine⟨ρ x,.inl ?_,ha⟩;rcases ho with ho|ho<;>simp[execOp,ho]
def xnd{o:Pt}{c a b:M6}(ho:o.op=.pick c a b):dt P o [c,a,b] Op.pick:=by
 intro D θ ρ w vs v h g;obtain⟨q,x,y,rfl,l,m,n⟩:=bP.tf h;unfold Op.pick at g;split at g
 .rename_i i p r heq;injection heq with j d;subst j;injection d with d f;subst d;injection f with f _;subst f
  cases g;have hb:ρ c=.bool i:=l.now.symm;cases i
  .exact ⟨ρ b,.inl (by simp[execOp,ho,hb,asBool]),n⟩
  .exact ⟨ρ a,.inl (by simp[execOp,ho,hb,asBool]),m⟩
 grind
def HK{o:Pt}{op:UnOp}{t:Ku}{x:M6}(ho:o.op=.unOp op t x):dt P o [x] (Op.un op):=by
 intro D θ ρ w vs v h b;obtain⟨a,rfl,ha⟩:=bP.iX h;simp only[Op.un,unV]at b;have hr:=ha.now;split at b
 .rename_i k n;cases b;exact⟨_,.inl (by simp[execOp,ho,<-hr,aC,Cq.unary,Cq.intArith]<;>rfl),.int _ _⟩
 .rename_i k n;simp only[gF]at b;cases b;exact⟨_,.inl (by simp[execOp,ho,<-hr,aC,Cq.unary,Cq.intBits]<;>rfl),.int _ _⟩
 .cases b;exact⟨_,.inl (by simp[execOp,ho,<-hr,aC,Cq.unary]),.bool _⟩
 grind
def xne{o:Pt}{src dst:Ku}{x:M6}{k j:OA}(ho:o.op=.convert src dst x)(c:P.underlying src=B1 (.int j))(d:P.underlying dst=B1 (.int k)):dt P o [x] (Op.wrap k):=by
 intro D θ ρ w vs v h b;obtain⟨a,rfl,ha⟩:=bP.iX h;have hr:=ha.now;unfold Op.wrap at b;split at b
 .rename_i k' n heq;cases heq;cases b;exact⟨_,.inl (by simp[execOp,ho,<-hr,aC,convert,ku c,ku d,Conv.intToInt]<;>rfl),.int _ _⟩
 grind
def xdt{o:Pt}{t:Ku}{x:M6}(ho:o.op=.makeInterface t x)(g:∃d,P.underlying t=B1 d/\(match d with| .interface _=>B2|_=>B4)=B4):dt P o [x] (Op.dF t):=by
 intro D θ ρ w vs v h b;obtain⟨a,rfl,ha⟩:=bP.iX h;simp only[Op.dF,qk]at b;subst b;have⟨d,c,f⟩:=g;refine⟨.iface t (ρ x),.inl ?_,ha.iface⟩;cases d<;>simp_all[execOp,Instr.makeInterface,ku c]
def xf8{o:Pt}{f:FuncId}{a b:Array M6}(ho:o.op=.makeFunc (.func f) a b):dt P o (a.toList++b.toList) (Op.bH f a.size):=by
 intro D θ ρ w vs v h c;simp only[Op.bH,qk]at c;subst c;refine⟨.func (.func f) (a.map ρ) (b.map ρ),.inl (by simp[execOp,ho,Instr.makeFunc]),λ θ' hg=>?_⟩;have d:=(h.take a.size) θ' hg;have g:=(h.drop a.size) θ' hg;simp only[aC,fT,d,g];congr 1
 .grind
 grind
def xdr{o:Pt}{x:M6}{i:Nat}(ho:o.op=.extract x i):dt P o [x] (Op.extract i):=by
 intro D θ ρ w vs v h b;obtain⟨a,rfl,ha⟩:=bP.iX h;unfold Op.extract at b;split at b
 .rename_i l heq;cases heq;have⟨cs,g,hl⟩:=ha.Av;rw[jL]at b;have⟨c,d,f⟩:=hl.rj b;exact⟨c,.inl (by simp[execOp,ho,g,Instr.extract,d]),f⟩
 grind
def Kh{o:Pt}{c:Call}{b:Builtin}(ho:o.op=.call c)(a:c.callee=.builtin b) :
 ∃consts,execOp ρ o=builtin b c.argTypes o.type consts (c.args.map ρ):=by
 refine⟨c.args.map λ| .const _=>B4|_=>B2,?_⟩
 grind [execOp,resolve,invoke]
def AN{c:Call}{xs:List M6}(a:c.args.toList=xs):c.args.map ρ = (xs.map ρ).toArray:=by
 grind
def bP.pQ{xs:List M6}{a:AV}(h:bP D θ [a] (xs.map ρ)):∃x,xs=[x]/\VR D θ a (ρ x):=by
 have:=h.length
 match xs,this,h with
 |[x],_,h=>grind [bP.iX]
def bP.qV{xs:List M6}{a b:AV}(h:bP D θ [a,b] (xs.map ρ)):∃x y,xs=[x,y]/\VR D θ a (ρ x)/\VR D θ b (ρ y):=by
 have:=h.length
 match xs,this,h with
 |[x,y],_,h =>
  grind [bP.tQ]
theorem LV(s:List UInt8):(⟨s.toArray⟩:ByteArray).size=s.length:=by simp[ByteArray.size]
def xj0{o:Pt}{c:Call}{xs:List M6}{t e:Ku}(ho:o.op=.call c)(f:c.callee=.builtin .len)(d:c.args.toList=xs)(b:c.argTypes[0]? = B1 t)
 (hu:P.underlying t=B1 (.slice e)):dt P o xs Op.cw:=by
 intro D θ ρ w vs v h a;have⟨consts,he⟩:=Kh (ρ:=ρ) ho f;unfold Op.cw at a;split at a
 .obtain ⟨x,rfl,ha⟩:=h.pQ;cases a;refine⟨_,.inl ?_,.int _ _⟩;rw[he,AN d];simp[builtin,D3,ku hu,b,<-ha.now,aC,goInt]<;>rfl
 .obtain ⟨x,rfl,ha⟩:=h.pQ;cases a;refine⟨_,.inl ?_,.int _ _⟩;rw[he,AN d];simp[builtin,D3,ku hu,b,<-ha.now,aC,goInt]<;>rfl
 .obtain ⟨x,rfl,ha⟩:=h.pQ;cases a;refine⟨_,.inl ?_,.int _ _⟩;rw[he,AN d];simp[builtin,D3,ku hu,b,<-ha.now,aC,goInt]<;>rfl
 .obtain ⟨x,rfl,ha⟩:=h.pQ;cases a;refine⟨_,.inl ?_,.int _ _⟩;rw[he,AN d];simp[builtin,D3,ku hu,b,<-ha.now,aC,goInt]<;>rfl
 grind
def xi7{op:BinOp}{k:OA}{a b:Int}{v:AV}(hs:eh op=B2)(h:gF op k a b=B1 v)(t:Ku) :
 ∃c,(binOp op t (.int k a) (.int k b)).run P w=.ok c w/\VR D θ v c:=by
 cases op<;>simp only[gF,eh,qk,DM,LZ,NP,Bool.true_eq_false]at h hs
 case quo =>
  cases hb:(b == 0)<;>rw[hb]at h<;>simp at h;subst h;exact⟨_,by simp[binOp,Cq.intDiv,by simpa using hb]<;>rfl,.int _ _⟩
 case rem =>
  cases hb:(b == 0)<;>rw[hb]at h<;>simp at h;subst h;exact⟨_,by simp_all[binOp,Cq.intDiv],.int _ _⟩
 all_goals
  subst h
  first|refine⟨_,?_,VR.int _ _⟩|refine⟨_,?_,VR.bool _⟩
  simp only[binOp,ne_eq,not_true_eq_false,ww,Cq.intBits,Cq.intArith,Cq.intCmp];rfl
def xb6(a b:List UInt8):bytesLess a b=Cq.bytesLess a b:=by
 induction a generalizing b with
 |nil=>cases b<;>rfl
 |cons x a ih=>cases b with
  |nil=>rfl
  |cons y b =>
   simp only[bytesLess,Cq.bytesLess,ih,Wb];congr 1;rw[Cg];simp[UInt8.lt_iff_toNat_lt]
def xed(s:List UInt8):(⟨s.toArray⟩:ByteArray).toList=s:=by rw[ByteArray.toList_eq]
def xki{op:BinOp}{a b:List UInt8}{v:AV}(h:rk op a b=B1 v)(t:Ku) :
 ∃c,(binOp op t (.string ⟨a.toArray⟩) (.string ⟨b.toArray⟩)).run P w=.ok c w/\VR D θ v c:=by
 cases op<;>simp only[rk,qk,reduceCtorEq,ML,xb6]at h
 case add =>
  cases hb:Nz (a.length+b.length) 140737488355328<;>rw[hb]at h<;>simp at h;subst h;have hle:a.length+b.length<=140737488355328:=by simp_all
  refine⟨.string (⟨a.toArray⟩++⟨b.toArray⟩),?_,λ θ' _=>?_⟩
  .simp only[binOp,Cq.stringOp,LV,Sem.run_ite];rw[qy (by grind [OA.max,IntKind.bits])];rfl
  .show Kl.string ⟨(a++b).toArray⟩=_;congr 1
 all_goals
  subst h;exact⟨_,by simp[binOp,Cq.stringOp]<;>rfl,.bool _⟩
def xht{o:Pt}{op:BinOp}{t p:Ku}{x y:M6}(ho:o.op=.binOp op t x y p):dt P o [x,y] (Op.bin op):=by
 intro D θ ρ w vs v h d;obtain⟨a,b,rfl,ha,hb⟩:=bP.tQ h;simp only[Op.bin,nN]at d;have g:=ha.now;have i:=hb.now;have guard:∀(u n:Kl),(∀l,u≠ .agg l)->u≠ .nilIface->(eqGuard op t x y u n).run P w=.ok () w:=by
  intro u n q r;unfold eqGuard;cases u<;>cases op<;>simp_all
 split at d
 .rename_i k a k' b;cases hs:eh op
  .rw [hs]at d;simp only[zo,Ul]at d
   by_cases hk:k=k'
   .subst hk;simp only[decide_true,xt]at d;have⟨c,m,j⟩:=xi7 (P:=P) (w:=w) (D:=D) (θ:=θ) hs d t;refine⟨c,.inl ?_,j⟩;have hg:=guard (.int k a) (.int k b) (λ _=>by simp) (by simp);simp_all[execOp,aC]
   grind
  .rw [hs]at d;simp only[xt,tq,LZ]at d
   by_cases f:b<0
   .grind
   .simp only[f,JP,zo]at d;have hg:=guard (.int k a) (.int k' b) (λ _=>by simp) (by simp);cases op<;>simp only[eh,ja]at hs
    all_goals
     cases d;exact⟨_,.inl (by simp[execOp,ho,<-g,<-i,aC,hg,binOp,Cq.shift,f]<;>rfl),.int _ _⟩
 .rename_i a b;have⟨c,m,j⟩:=xki (P:=P) (w:=w) (D:=D) (θ:=θ) d t;have hg:=guard (.string ⟨a.toArray⟩) (.string ⟨b.toArray⟩) (λ _=>by simp) (by simp);exact⟨c,.inl (by simp[execOp,ho,<-g,<-i,aC,hg,m]),j⟩
 grind
end
end Go.Am
namespace Go.Am
section
variable{P:Jg}{D:Nat->Prop}{θ:Th}{ρ:M6->Kl}{w:N7}
def LM{t:Ku}{l:List AV}{cs:List Kl}{off:Nat}{n:Option Nat}{v:AV}(hn:nU P t=B1 n)(hl:bP D θ l cs)(h:partAt l off n=B1 v) :
 ∃c,(part t cs.toArray off).run P w=.ok c w/\VR D θ v c:=by
 have⟨a,b⟩:=Tz (w:=w) hn;cases n with
 |none =>
  simp only[partAt,jL]at h;have⟨c,d,f⟩:=hl.rj h;simp_all[part]
 |some k =>
  simp only[partAt,tV]at h;split at h
  .rename_i hk;cases h;refine⟨.agg ((cs.drop off).take k).toArray,?_,VR.agg ((hl.drop off).take k)⟩;have hlen:=hl.length;simp only[part,Nc,a,N9,vx,uE,b k rfl];simp_all
  grind
def TL{i:Int}{n k:Nat}(h:within i n=B1 k):i=(k:Int)/\k<n:=by
 unfold within at h;cases i with
 |ofNat m =>
  grind [AZ]
 |negSucc m=>cases h
def q73{o:Pt}{t:Ku}{x:M6}{i:Nat}{fs:Array Field}{f:Field}{n:Nat}(ho:o.op=.fieldAddr t x i)(j:P.underlying t=B1 (.struct fs))(g:fs[i]? = B1 f)(hn:bW P f.type=B1 n)(a:n≠0) :
 dt P o [x] (Op.fieldAddr f.offset):=by
 intro D θ ρ w vs v h c;unfold Op.fieldAddr at c;split at c
 .rename_i b d;have⟨y,heq,ha⟩:=h.pQ;injection heq with heq _;subst heq
  cases c;have hr:=ha.now;refine⟨.pointer (B1 ⟨θ.ct b,θ.off b+d+f.offset,B5⟩),.inl ?_,λ θ' hg=>?_⟩
  .simp [execOp,ho,Instr.fieldAt,ku j,g,<-hr,aC,CE,fieldPlace,vA hn,a,zD]
  .have:=ha θ' hg
   grind [aC]
 grind
def xa3{o:Pt}{t e:Ku}{x i:M6}{len size:Nat}{n:Option Nat}(ho:o.op=.index t x i)(q:P.underlying t=B1 (.array len e))(hs:bW P e=B1 size)(hn:nU P e=B1 n) :
 dt P o [x,i] (Op.bF len size n):=by
 intro D θ ρ w vs v h b;unfold Op.bF at b;split at b
 .rename_i l k j;have⟨y,z,heq,ha,hb⟩:=h.qV;injection heq with d a;injection a with a _;subst d;subst a
  cases hw:within j len with
  |none=>grind
  |some m =>
   rw[hw]at b;obtain⟨rfl,p⟩:=TL hw;have⟨cs,f,hl⟩:=ha.fC;have⟨c,d,a⟩:=LM (w:=w) hn hl b;refine⟨c,.inl ?_,a⟩;have g:(0:Int)<=(m:Int)/\(m:Int)<(len:Int):=by omega
   simp[execOp,ho,Instr.index,ku q,f,<-hb.now,aC,asIntOf,g,vA hs,d];omega
 grind
def xa5{o:Pt}{t:Ku}{x i:M6}(ho:o.op=.index t x i)(l:P.underlying t=B1 .string):dt P o [x,i] Op.bQ:=by
 intro D θ ρ w vs v h a;unfold Op.bQ at a;split at a
 .rename_i s k j;have⟨y,z,heq,ha,hb⟩:=h.qV;injection heq with f b;injection b with b _;subst f;subst b
  cases hw:within j s.length with
  |none=>grind
  |some m =>
   rw[hw]at a;obtain⟨rfl,c⟩:=TL hw;simp only[qr,jL]at a;obtain⟨u,hu⟩:∃u,s[m]? = B1 u:=⟨_,xf c⟩
   rw[hu]at a;cases a;refine⟨.int .u8 u.toNat,.inl ?_,.int _ _⟩;have d:(0:Int)<=(m:Int):=by omega
   have hg:getElem? (⟨s.toArray⟩:ByteArray) m=B1 u:=by
    have n:m<(⟨s.toArray⟩:ByteArray).size:=by grind [LV]
    rw[getElem?_pos (⟨s.toArray⟩:ByteArray) m n];have g:=(qt.1 hu).2;simp only[qk];exact g
   simp[execOp,ho,Instr.index,ku l,<-ha.now,<-hb.now,aC,asIntOf,d,hg]
 grind
def _O{x:AV}{c:Kl}{size j b o:Nat}(h:VR D θ x c)(he:elemAt size x j=B1 (b,o)) :
 ∃n m,c=.slice (B1 ⟨θ.ct b,θ.off b+o-j*size,B5⟩) n m/\j<n/\j*size<=o/\(∀θ',Ag D θ θ' -> θ'.ct b = θ.ct b /\ θ'.off b+o = θ.off b+o):=by
 have hr:=h.now;unfold elemAt at he;split at he
 .rename_i d o' n' i;cases hb:Oz j n'<;>rw[hb]at he
  .cases he
  .simp only[xt,qk,zi]at he;obtain⟨rfl,rfl⟩:=he;refine⟨n',i,?_,by simp_all,by omega,λ θ' ha=>?_⟩
   .grind [aC]
   .have:=h θ' ha;grind [aC]
 .rename_i d f g p a n';cases hb:(Oz j n' && I4 p size && Oz (f+j) g)<;>rw[hb]at he
  .cases he
  .simp only[xt,qk,zi]at he;obtain⟨rfl,rfl⟩:=he;simp only[zn,AZ,jz]at hb;obtain⟨⟨l,rfl⟩,q⟩:=hb;refine⟨n',g-f + θ.ext d,?_,l,by omega,λ θ' ha=>?_⟩
   .rw [<-hr];simp only[aC];grind
   .have:=h θ' ha;rw[<-hr]at this;simp only[aC,Bf,qk,C5]at this
    grind
 grind
def xds{o:Pt}{t e:Ku}{x i:M6}{size:Nat}(ho:o.op=.indexAddr t x i)(B:P.underlying t=B1 (.slice e))(hs:bW P e=B1 size) :
 dt P o [x,i] (Op.aR size):=by
 intro D θ ρ w vs v h d;unfold Op.aR at d;split at d
 .rename_i a k j;have⟨y,z,heq,ha,hb⟩:=h.qV;injection heq with l g;injection g with g _;subst l;subst g
  cases hl:eJ a with
  |none=>grind
  |some n0 =>
   rw[hl]at d;simp only[qr]at d;cases hw:within j n0 with
   |none=>grind
   |some m =>
    rw[hw]at d;simp only[qr]at d;obtain⟨rfl,u⟩:=TL hw;cases he:elemAt size a m with
    |none=>grind
    |some p =>
     have⟨b,f⟩:=p;rw[he]at d;cases d;have⟨n,c,q,s,hle,A⟩:=_O ha he;refine⟨.pointer (B1 ⟨θ.ct b,θ.off b+f,B5⟩),.inl ?_,λ θ' hg=>?_⟩
     .have r:(0:Int)<=(m:Int)/\(m:Int)<(n:Int):=by omega
      have heq:θ.off b+f-m*size+m*size = θ.off b+f:=by omega
      simp[execOp,ho,Instr.indexAt,ku B,q,<-hb.now,aC,asIntOf,r,vA hs,zD,heq];omega
     grind [aC]
 grind
def xa4{o:Pt}{t e:Ku}{x i:M6}{len size:Nat}(ho:o.op=.indexAddr t x i)(n:P.underlying t=B1 (.array len e))(hs:bW P e=B1 size) :
 dt P o [x,i] (Op.aV len size):=by
 intro D θ ρ w vs v h a;unfold Op.aV at a;split at a
 .rename_i b d k j;have⟨y,z,heq,ha,hb⟩:=h.qV;injection heq with f c;injection c with c _;subst f;subst c
  cases hw:within j len with
  |none=>grind
  |some m =>
   rw[hw]at a;cases a;obtain⟨rfl,l⟩:=TL hw;have g:(0:Int)<=(m:Int)/\(m:Int)<(len:Int):=by omega
   refine⟨.pointer (B1 ⟨θ.ct b,θ.off b+d+m*size,B5⟩),.inl ?_,λ θ' hg=>?_⟩
   .simp [execOp,ho,Instr.indexAt,ku n,<-ha.now,<-hb.now,aC,asIntOf,CE,g,vA hs,zD];omega
   .have:=ha θ' hg;rw[<-ha.now]at this
    grind [aC]
 grind
def xa6{o:Pt}{x:M6}(ho:o.op=.nilCheck x):dt P o [x] Op.nilCheck:=by
 intro D θ ρ w vs v h b;obtain⟨a,rfl,ha⟩:=bP.iX h;have hr:=ha.now;unfold Op.nilCheck at b;split at b
 .cases b
 .cases b
 .cases b
 .rename_i f d g heq;injection heq with heq;subst heq
  injection b with b;subst b
  exact⟨ρ x,.inl (by simp[execOp,ho,<-hr,aC,fT]),ha⟩
 .cases b
 .rename_i c i j l m n heq;injection heq with heq;subst heq
  injection b with b;subst b
  refine⟨ρ x,.inl ?_,ha⟩;have p:=hr.symm;clear hr ha h;cases a
  case nilp=>grind
  case nili=>grind
  case nilf=>grind
  case fn f' c b'=>grind
  all_goals simp_all[aC,execOp]
 grind
def xhf(off:Nat):∀(cs:List Kl)(j:Nat)(arr:List Kl),off+j+cs.length<=arr.length ->
 ((cs.zipIdx j).foldl (λ acc(p:Kl×Nat)=>acc.setIfInBounds (off+p.2) p.1) arr.toArray)=(arr.take (off+j)++cs++arr.drop (off+j+cs.length)).toArray
 |[],j,arr,_=>by simp
 |c::cs,j,arr,h=>by
  simp only[List.zipIdx_cons,List.foldl_cons,List.setIfInBounds_toArray];rw[xhf off cs (j+1) (arr.set (off+j) c) (by grind)];congr 1;have a:=list_seg_step arr (off+j) c cs (by simp at h⊢;omega)
  simpa[Ad]using a
theorem xml(off:Nat)(cs:Array Kl)(arr:List Kl)(h:off+cs.size<=arr.length) :
 (cs.zipIdx.foldl (λ acc(p:Kl×Nat)=>acc.setIfInBounds (off+p.2) p.1) arr.toArray)=(arr.take off++cs.toList++arr.drop (off+cs.size)).toArray:=by
 have:=xhf off cs.toList 0 arr (by simpa using h);rw[<-Array.foldl_toList]
 simpa using this
def Yw:∀(places:List (Nat×Nat))(vs:List AV)(parts:List (Nat×M6))(pl:Nat->Option (Nat×Nat))(out:List AV),
 BG pl parts=B1 places->bP D θ vs (parts.map λ p=>ρ p.2) -> ∀(cells:List AV)(a:List Kl),bP D θ cells a->jF cells places vs=B1 out ->
 ∃cout:List Kl,Instr.fill pl a.toArray (parts.map λ p=>(p.1,ρ p.2))=B1 cout.toArray/\bP D θ out cout:=by
 intro places vs parts
 induction parts generalizing places vs with
 |nil =>
  intro pl out hp m cells a f d;simp only[BG,qk]at hp;subst hp;have:vs=[]:=by have:=m.length;grind
  subst this;simp only[jF,qk]at d;subst d;exact⟨a,rfl,f⟩
 |cons p parts ih =>
  intro pl out hp m cells a f d;have⟨i,x⟩:=p;simp only[BG]at hp;cases h:pl i with
  |none=>grind
  |some q =>
   have⟨off,size⟩:=q;rw[h]at hp;simp only[qr]at hp;cases hr:BG pl parts with
   |none=>grind
   |some l =>
    rw[hr]at hp;cases hp;cases vs with
    |nil=>grind [jF]
    |cons v vs =>
     have⟨c,cs',n,o,r⟩:=m.eF;simp only[j6,z4]at n;obtain⟨rfl,rfl⟩:=n;simp only[jF,HC]at d;cases hb:I4 v.cells.length size
     .grind
     .rw [hb]at d;simp only[xt,AF]at d;have b:=o.cells;have hlen:=b.length;have j:(ρ x).cells.size=size:=by simp_all
      split at d
      .rename_i hle;simp only[qr]at d;have t:=f.length;have g:bP D θ (cells.take off++v.cells++cells.drop (off+v.cells.length)) (a.take off++(ρ x).cells.toList++a.drop (off+v.cells.length)) :=
        ((f.take off).app b).app (f.drop _)
       have⟨cout,u,s⟩:=ih l vs pl out hr r _ _ g d;refine⟨cout,?_,s⟩;simp only[j6,Instr.fill,h];rw[qy (by simp only[List.size_toArray];rw[j];rw[<-Array.length_toList]at j;simp;omega)]
       grind [xml]
      grind
def xm8(parts:Array (Nat×M6)):(parts.map λ(p:Nat×M6)=>(p.1,ρ p.2)).toList=parts.toList.map λ p=>(p.1,ρ p.2):=by simp
def xbm(fs:Array Field)(a:∀f∈fs,∃n,bW P f.type=B1 n) :
 ∃pl:Array (Nat×Nat),(fs.mapM λ(f:Field)=>(do pure (f.offset,<-sizeOf f.type):Sem (Nat×Nat))).run P w=.ok pl w /\ ∀i:Nat,pl[i]? = Nv P fs i:=by
 have key:∀l:List Field,(∀f∈l,∃n,bW P f.type=B1 n) ->
  ∃pl:List (Nat×Nat),(l.mapM λ(f:Field)=>(do pure (f.offset,<-sizeOf f.type):Sem (Nat×Nat))).run P w=.ok pl w /\ ∀i:Nat,pl[i]? = (l[i]?).bind λ(f:Field)=>(bW P f.type).bind λ n=>B1 (f.offset,n):=by
  intro l
  induction l with
  |nil=>simp_all
  |cons f l ih =>
   intro hl;have⟨n,hn⟩:=hl f (by simp);have⟨pl,b,c⟩:=ih (λ g hg=>hl g (by simp[hg]));refine⟨(f.offset,n)::pl,?_,λ i=>?_⟩
   .simp_all [vA]
   grind
 have⟨pl,b,c⟩:=key fs.toList (by grind);simp_all[Array.mapM_eq_mapM_toList,Nv]
def qyk{o:Pt}{t:Ku}{parts:Array (Nat×M6)}{z:AV}{fs:Array Field}{b:List (Nat×Nat)}(ho:o.op=.build t parts)(r:zeroOf P t=B1 z)
 (A:P.underlying t=B1 (.struct fs)) (a:∀f∈fs,∃n,bW P f.type=B1 n) (hp:BG (Nv P fs) parts.toList=B1 b):dt P o (parts.toList.map (·.2)) (Op.build z.cells b):=by
 intro D θ ρ w vs v h c;have⟨u,s,d⟩:=Lv (w:=w) r;have⟨pl,x,l⟩:=xbm (w:=w) fs a;unfold Op.build at c;cases g:jF z.cells b vs with
 |none=>grind
 |some out =>
  rw[g]at c;cases c;have j:bP D θ vs (parts.toList.map λ p=>ρ p.2):=by grind [Function.comp_def]
  have⟨cout,y,m⟩:=Yw (ρ:=ρ) b vs parts.toList (Nv P fs) out hp j z.cells u.cells.toList (d D θ).cells g;refine⟨.agg cout.toArray,.inl ?_,VR.agg m⟩;have q:(λ i=>pl[i]?)=Nv P fs:=funext l;simp_all[execOp,Instr.build,ku]
def q1c{o:Pt}{t e:Ku}{parts:Array (Nat×M6)}{z:AV}{len n:Nat}{a:List (Nat×Nat)}(ho:o.op=.build t parts)(r:zeroOf P t=B1 z)
 (q:P.underlying t=B1 (.array len e)) (hn:bW P e=B1 n) (hp:BG (KE n) parts.toList=B1 a):dt P o (parts.toList.map (·.2)) (Op.build z.cells a):=by
 intro D θ ρ w vs v h b;have⟨s,c,d⟩:=Lv (w:=w) r;unfold Op.build at b;cases f:jF z.cells a vs with
 |none=>grind
 |some out =>
  rw[f]at b;cases b;have g:bP D θ vs (parts.toList.map λ p=>ρ p.2):=by grind [Function.comp_def]
  have⟨cout,j,l⟩:=Yw (ρ:=ρ) a vs parts.toList (KE n) out hp g z.cells s.cells.toList (d D θ).cells f;refine⟨.agg cout.toArray,.inl ?_,VR.agg l⟩;simp only[execOp,ho,Instr.build,Nc,c,N9,ku q,vA hn];have e:(parts.map λ(p:Nat×M6)=>(p.1,ρ p.2)).toList=parts.toList.map λ p=>(p.1,ρ p.2):=by simp
  simp only[CA]at j;have m:(λ i=>B1 (i*n,n))=KE n:=rfl;simp_all
end
end Go.Am
namespace Go.Am
section
variable{P:Jg}{D:Nat->Prop}{θ:Th}{ρ:M6->Kl}{w:N7}
def mY(D:Nat->Prop)(θ:Th)(ρ:M6->Kl):Option M6->Option AV->Prop
 |none,a=>a=B5
 |some x,a=>∃v,a=B1 v/\VR D θ v (ρ x)
def S7:∀(opts:List (Option M6))(pre rest:List AV),bP D θ rest ((kJ opts).map ρ) -> ∀(j:Nat)(o:Option M6)(idx:Option Nat),opts[j]? = B1 o->(gM pre.length opts)[j]? = B1 idx ->
 ∀a,arg (pre++rest) idx=B1 a->mY D θ ρ o a
 |[],pre,rest,h,j,o,idx,ho,hi,a,ha=>by grind
 |none::opts,pre,rest,h,j,o,idx,ho,hi,a,ha=>by
  cases j with
  |zero =>
   simp only[gM,zk,qk]at ho hi;subst ho;subst hi;simp only[arg,qk]at ha;exact ha.symm
  |succ j=>exact S7 opts pre rest h j o idx (by simpa using ho) (by simpa[gM]using hi) a ha
 |some x::opts,pre,rest,h,j,o,idx,ho,hi,a,ha=>by
  cases rest with
  |nil=>have:=h.length;grind [kJ]
  |cons v rest =>
   have⟨c,cs,b,d,f⟩:=h.eF;simp only[kJ,j6,z4]at b;obtain⟨rfl,rfl⟩:=b;cases j with
   |zero =>
    simp only[gM,zk,qk]at ho hi;subst ho;subst hi;simp only[arg,jL]at ha;rw[z6 (qm _)]at ha;simp at ha;exact⟨v,ha.symm,d⟩
   |succ j =>
    refine S7 opts (pre ++ [v]) rest f j o idx (by simpa using ho) (by simpa[gM]using hi) a ?_
    simpa using ha
def Yf{o:Option M6}{a:Option AV}{d mx r:Nat}(h:mY D θ ρ o a)(hb:bound a d mx=B1 r) :
 (match o with
  |none=>r=d
  |some x=>(∀code y,mx<=y->(Instr.sliceBound (ρ x) y code).run P w=.ok r w)/\r<=mx):=by
 cases o with
 |none =>
  grind [mY,bound]
 |some x =>
  obtain⟨v,rfl,g⟩:=h;unfold bound at hb;split at hb
  .grind
  .rename_i k i heq;cases heq;cases hle:Nz i mx<;>rw[hle]at hb
   .cases hb
   .injection hb with hb;subst hb
    have b:i<=mx:=by simpa[uo]using hle
    refine⟨λ code y j=>?_,b⟩;have c:(0:Int)<=(i:Int)/\(i:Int)<=(y:Int):=by omega
    have f:i<=y:=by omega
    simp[Instr.sliceBound,<-g.now,aC,asIntOf,c]
  .cases hb
def QC{lo c mx:Option M6}{a b m:Option AV}{g:Bool}{len cap low M Y h l:Nat}(ha:mY D θ ρ lo a)(hb:mY D θ ρ c b)(hm:mY D θ ρ mx m)
 (i:(mx=B5/\M=cap) \/ ∃d,bound m d low=B1 M/\low<=cap/\mx.isSome=B4) (q:Y<=M) (n:bound b len Y=B1 h) (hl:bound a 0 h=B1 l) (o:mx.isSome=B4->c.isSome=B4) :
 (BP g len cap (lo.map ρ) (c.map ρ) (mx.map ρ)).run P w=.ok (l,h,M) w:=by
 have e2:=Yf (P:=P) (w:=w) hb n;have p:=Yf (P:=P) (w:=w) ha hl;cases mx with
 |none =>
  obtain⟨_,rfl⟩|⟨_,_,_,f⟩:=i
  .cases c with
   |none =>
    simp only at e2;subst e2;cases lo with
    |none=>simp_all[BP]
    |some x=>simp_all[BP]
   |some y =>
    cases lo with
    |none=>simp_all[BP]
    |some x=>simp_all[BP]
  grind
 |some z =>
  obtain⟨f,_⟩|⟨d,f,j,_⟩:=i
  .cases f
  .have e1:=Yf (P:=P) (w:=w) hm f;cases c with
   |none=>grind
   |some y =>
    cases lo with
    |none=>simp_all[BP]
    |some x=>simp_all[BP]
theorem xis(v:AV)(d a:Nat){mx:Nat}:bound (B1 v) d mx=bound (B1 v) a mx:=by
 cases v<;>try rfl
 rename_i k n;cases n<;>rfl
def I6{o:Option M6}{a:Option AV}{d mx r:Nat}(h:mY D θ ρ o a)(hb:bound a d mx=B1 r)(b:d<=mx):r<=mx:=by
 cases o with
 |none=>grind [mY,bound]
 |some x =>
  obtain⟨v,rfl,c⟩:=h;unfold bound at hb;split at hb
  .grind
  .grind [uo]
  grind
def wo(lo a mx:Option M6):∃i j k,gM 0 [lo,a,mx]=[i,j,k]:=by cases lo<;>cases a<;>cases mx<;>simp[gM]
def _s{size:Nat}{x:AV}{c:Kl}{lo A mx:Option M6}{a b m:Option AV}{v:AV}(F:VR D θ x c)(ha:mY D θ ρ lo a)(hb:mY D θ ρ A b)(hm:mY D θ ρ mx m)(f:dh size x a b m=B1 v) :
 ∃ad len cap l h M,c=.slice ad len cap/\(∀o,(BP o len cap (lo.map ρ) (A.map ρ) (mx.map ρ)).run P w=.ok (l,h,M) w) /\
  VR D θ v (.slice (if M=l then ad else ad.map (·.add (l*size))) (h-l) (M-l)):=by
 have hr:=F.now;unfold dh at f;split at f
 .-- nil
  split at f
  .rename_i R;cases j:bound b 0 0 with
   |none=>grind
   |some h =>
    rw[j]at f;simp only[qr]at f;cases hl:bound a 0 h with
    |none=>grind
    |some l =>
     rw[hl]at f;cases f;have p:mx=none:=by
      cases mx with
      |none=>rfl
      |some z=>have⟨_,q,_⟩:=hm;cases q
     subst p;have G:h=0/\l=0:=by
      have S:=I6 hb j (qm _);have T:=I6 ha hl (xw _);omega
     obtain⟨rfl,rfl⟩:=G;refine⟨B5,0,0,0,0,0,hr.symm,λ o=>QC (low:=0) ha hb hm (by grind) (qm _) j hl (by simp),λ θ' _=>by simp[aC]⟩
  grind
 .-- a slice of a known capacity
  rename_i bb oo n t;split at f
  .cases f
  .rename_i hnn;cases C:bound m t t with
   |none=>grind
   |some M =>
    rw[C]at f;simp only[qr]at f;cases j:bound b n M with
    |none=>grind
    |some h =>
     rw[j]at f;simp only[qr]at f;cases hl:bound a 0 h with
     |none=>grind
     |some l =>
      rw[hl]at f;cases f;have O:mx.isSome=B4->A.isSome=true:=by
       intro q;cases mx with
       |none=>cases q
       |some z =>
        have⟨_,X,_⟩:=hm;cases A with
        |some _=>rfl
        |none=>grind [mY]
      have I:(mx=B5/\M=t) \/ ∃d,bound m d t=B1 M/\t<=t/\mx.isSome=true:=by
       cases mx with
       |none=>grind [mY,bound]
       |some z=>grind
      refine⟨_,n,t,l,h,M,hr.symm,λ o=>QC ha hb hm I (qm _) j hl O,λ θ' hg=>?_⟩;have g:=F θ' hg;rw[<-hr]at g;simp only[aC,Bf,qk,C5]at g⊢
      by_cases e:M=l
      .simp_all
      .have e':I4 M l=false:=by simp_all[Bool.eq_false_iff]
       grind [zD]
 .-- a grown row's slice
  rename_i bb i B s alt n;cases J:(I4 s size && Nz i B)<;>rw[J]at f
  .cases f
  .simp only[zn,jz,uo]at J;obtain⟨rfl,him⟩:=J;simp only[xt]at f;split at f
   .-- no third bound
    rename_i hi';have p:mx=none:=by
     cases mx with
     |none=>rfl
     |some z=>have⟨_,q,_⟩:=hm;cases q
    subst p;cases j:bound b n (B-i)with
    |none=>grind
    |some h =>
     rw[j]at f;simp only[qr]at f;cases hl:bound a 0 h with
     |none=>grind
     |some l =>
      rw[hl]at f;simp only[qr]at f;cases u:Nz h (B-i)<;>rw[u]at f
      .cases f
      .cases f;have Z:h<=B-i:=by simp_all
       have L:=I6 ha hl (xw _);refine⟨_,n,_,l,h,_,hr.symm,λ o=>QC (low:=0) ha hb hm (.inl ⟨rfl,rfl⟩) (Nat.le_add_right _ _) j hl (by simp),λ θ' hg=>?_⟩;have g:=F θ' hg;rw[<-hr]at g;simp only[aC,Bf,qk,C5,ug,Gc]at g;have⟨⟨q1,S⟩,T⟩:=g;have r:θ'.ext bb = θ.ext bb:=by omega
       have hmul:(i+l)*s=i*s+l*s:=wg i l s;simp only[aC,Bf,Gc,r,hmul];refine⟨?_,by omega⟩
       by_cases e:B-i + θ.ext bb=l
       .rw [xg e,xg (by omega)];simp_all
       .rw [qy e,qy (by omega)];simp only[Gs,zD,qk,C5,ug]
        grind
   .cases f
   .-- a third bound
    rename_i V W;cases C:bound m 0 (B-i)with
    |none=>grind
    |some M =>
     rw[C]at f;simp only[qr]at f;cases j:bound b 0 M with
     |none=>grind
     |some h =>
      rw[j]at f;simp only[qr]at f;cases hl:bound a 0 h with
      |none=>grind
      |some l =>
       rw[hl]at f;simp only[qr]at f;cases u:I4 M l<;>rw[u]at f
       .cases f;have N:M≠l:=by intro e;simp_all
        obtain⟨z,X,Q⟩:∃z,mx=B1 z /\ ∃v,m=B1 v:=by
         cases mx with
         |none=>grind [mY]
         |some z=>have⟨v,q,_⟩:=hm;grind
        have⟨mv,hmv⟩:=Q;have E:A.isSome=true:=by
         cases A with
         |some _=>rfl
         |none=>grind [mY]
        have U:=I6 hm C (xw _);have Y:=I6 hb j (xw _);have L:=I6 ha hl (xw _);have K:bound b n M=B1 h:=by
         have⟨y,hy⟩:=Option.isSome_iff_exists.1 E;subst hy;have⟨bv,q,_⟩:=hb
         grind [xis]
        refine⟨_,n,_,l,h,M,hr.symm,λ o=>QC ha hb hm (.inr ⟨0,C,Nat.le_add_right _ _,by rw[X];rfl⟩) (qm _) K hl (λ _=>E),λ θ' hg=>?_⟩;have g:=F θ' hg;rw[<-hr]at g;simp only[aC,Bf,qk,C5,ug,Gc]at g;have⟨⟨q1,S⟩,T⟩:=g;have r:θ'.ext bb = θ.ext bb:=by omega
        have hmul:(i+l)*s=i*s+l*s:=wg i l s;simp only[aC,Bf,ug,hmul,qy N,Gs,zD,qk,C5]
        grind
       grind
 .-- a slice without room
  rename_i bb;split at f
  .rename_i R;cases j:bound b 0 0 with
   |none=>grind
   |some h =>
    rw[j]at f;simp only[qr]at f;cases hl:bound a 0 h with
    |none=>grind
    |some l =>
     rw[hl]at f;cases f;have p:mx=none:=by
      cases mx with
      |none=>rfl
      |some z=>have⟨_,q,_⟩:=hm;cases q
     subst p;have G:h=0/\l=0:=by
      have S:=I6 hb j (qm _);have T:=I6 ha hl (xw _);omega
     obtain⟨rfl,rfl⟩:=G;refine⟨_,0,0,0,0,0,hr.symm,λ o=>QC (low:=0) ha hb hm (by grind) (qm _) j hl (by simp),λ θ' hg=>?_⟩;rw[F θ' hg,<-hr];rfl
  grind
 grind
def xdv{o:Pt}{t e:Ku}{x:M6}{lo n mx:Option M6}{size:Nat}(ho:o.op=.slice t x lo n mx)(K:P.underlying t=B1 (.slice e))(hs:bW P e=B1 size) :
 dt P o (x::kJ [lo,n,mx]) (Op.aA size (gM 0 [lo,n,mx])):=by
 intro D θ ρ w vs v h f;have⟨i,j,k,s⟩:=wo lo n mx;rw[s]at f;unfold Op.aA at f;split at f
 .rename_i F E G y g heq;injection heq with e1 e2;injection e2 with e2 r;injection r with r _;subst e1;subst e2;subst r
  have⟨c,cs,p,z,C⟩:=h.eF;simp only[j6,z4]at p;obtain⟨rfl,rfl⟩:=p;have d:=λ(q:Nat)(B:Option M6)(idx:Option Nat)(p:[lo,n,mx][q]? = B1 B)(z:[i,j,k][q]? = B1 idx)=>S7 [lo,n,mx] [] g C q B idx p (by grind);cases ha:arg g i with
  |none=>grind
  |some a =>
   rw[ha]at f;simp only[qr]at f;cases hb:arg g j with
   |none=>grind
   |some b =>
    rw[hb]at f;simp only[qr]at f;cases hm:arg g k with
    |none=>grind
    |some m =>
     rw[hm]at f;simp only[qr]at f;have⟨ad,len,cap,l,J,M,I,A,u⟩:=_s (P:=P) (w:=w) z (d 0 lo i rfl rfl a ha) (d 1 n j rfl rfl b hb) (d 2 mx k rfl rfl m hm) f;refine⟨_,.inl ?_,u⟩;simp_all[execOp,Instr.sliceAt,ku,Instr.slice,vA]
 grind
def xa7{o:Pt}{t e:Ku}{x:M6}{lo r mx:Option M6}{n size:Nat}(ho:o.op=.slice t x lo r mx)(O:P.underlying t=B1 (.array n e))(hs:bW P e=B1 size) :
 dt P o (x::kJ [lo,r,mx]) (Op.cS n size (gM 0 [lo,r,mx])):=by
 intro D θ ρ w vs v h f;have⟨i,j,k,C⟩:=wo lo r mx;rw[C]at f;unfold Op.cS at f;split at f
 .rename_i R N S p y g heq;injection heq with e1 e2;injection e2 with e2 B;injection B with B _;subst e1;subst e2;subst B
  have⟨c,cs,z,A,K⟩:=h.eF;simp only[j6,z4]at z;obtain⟨rfl,rfl⟩:=z;have d:=λ(q:Nat)(F:Option M6)(idx:Option Nat)(z:[lo,r,mx][q]? = B1 F)(A:[i,j,k][q]? = B1 idx)=>S7 [lo,r,mx] [] g K q F idx z (by grind);cases ha:arg g i with
  |none=>grind
  |some a =>
   rw[ha]at f;simp only[qr]at f;cases hb:arg g j with
   |none=>grind
   |some b =>
    rw[hb]at f;simp only[qr]at f;cases hm:arg g k with
    |none=>grind
    |some m =>
     rw[hm]at f;simp only[qr]at f;have Q:VR D θ (.slice p y n n) (.slice (B1 ⟨θ.ct p,θ.off p+y,B5⟩) n n):=λ θ' hg=>by
      have:=A θ' hg;rw[<-A.now]at this;grind [aC]
     have⟨ad,len,cap,l,T,M,L,u,E⟩:=_s (P:=P) (w:=w) Q (d 0 lo i rfl rfl a ha) (d 1 r j rfl rfl b hb) (d 2 mx k rfl rfl m hm) f;injection L with G I J;subst G;subst I;subst J
     refine⟨_,.inl ?_,E⟩;have s:=u B2;simp only[execOp,ho,Instr.sliceAt,Nc,ku O,N9,<-A.now,aC,CE,B7,s,vA hs]
     grind
 grind
def _h{mx:Bool}{k:OA}:∀(l:List AV)(cs:List Kl)(a r:Int),bP D θ l cs->Op.iH mx a l=B1 r ->
 (cs.foldlM (λ x y=>if mx then Builtin.max2 x y else Builtin.min2 x y) (Kl.int k a)).run P w=.ok (.int k r) w
 |[],cs,a,r,h,hg=>by
  have:=h.mB;simp_all[Op.iH]
 |v::l,cs,a,r,h,hg=>by
  obtain⟨c,cs',rfl,f,hl⟩:=h.eF;cases v with
  |int k' b =>
   simp only[Op.iH]at hg;have g:=_h (mx:=mx) (k:=k) l cs' _ r hl hg;have d:=f.now;simp only[aC]at d;subst d;simp only[LZ]at g;have s1:(Builtin.min2 (.int k a) (.int k' b)).run P w=.ok (.int k (if b<a then b else a)) w:=rfl;have s2:(Builtin.max2 (.int k a) (.int k' b)).run P w=.ok (.int k (if b > a then b else a)) w:=rfl;cases mx
   .simp only[List.foldlM_cons,ja,ww,Nc,s1,N9]
    grind
   .simp only[List.foldlM_cons,uE,Nc,s2,N9]
    grind
  |_=>grind [Op.iH]
def xf7{o:Pt}{c:Call}{xs:List M6}{mx:Bool}(ho:o.op=.call c)(m:c.callee=.builtin (if mx then .max else .min))(n:c.args.toList=xs):dt P o xs (Op.eY mx):=by
 intro D θ ρ w vs v h d;have⟨consts,he⟩:=Kh (ρ:=ρ) ho m;unfold Op.eY at d;split at d
 .rename_i k a l;cases hg:Op.iH mx a l with
  |none=>rw[hg]at d;cases d
  |some r =>
   rw[hg]at d;cases d;have⟨p,cs',g,i,j⟩:=h.eF;have b:=_h (P:=P) (w:=w) (k:=k) l cs' a r j hg;have f:=i.now;simp only[aC]at f;subst f;refine⟨.int k r,.inl ?_,.int _ _⟩;rw[he,AN n,g];cases mx
   .simp only[ja,ww]at b⊢;simp[builtin,Builtin.min_,b]
   simp_all[builtin,Builtin.max_]
 grind
def Dz{o:Pt}{c:Call}{f:FuncId}{fn:Func}{e:Array Kl->Sem Kl}(ho:o.op=.call c)(d:c.callee=.value (.func f))(h:ρ (.func f)=.func (.func f) #[] #[])(g:P.funcs[f]? = B1 fn)(hb:fn.body=B5)
 (hn:fn.name≠ "runtime.NumGoroutine") (a:Extern.findNext fn=B5) (b:Extern.find fn=B1 e) :
 (execOp ρ o).run P w=((e (c.args.map ρ)).run P w).andThen λ v w'=>.ok (.value v) w':=by
 simp[execOp,ho,resolve,d,h,Bk,invoke,callFunc,g,hb,hn,a,b]
def xe1(s:List UInt8):(Extern.Bytes.bytesOf (.string ⟨s.toArray⟩)).run P w=.ok ⟨s.toArray⟩ w:=rfl
def xio(n:Int):(Extern.Bytes.asByte (.int .u8 n)).run P w=.ok (Bi n.toNat) w:=rfl
theorem xff(c:UInt8)(s:List UInt8)(k:Nat):Gr c s k=((N2 s.length).find? λ i=>s[i]! == c).map (·+k):=by
 induction s generalizing k with
 |nil=>rfl
 |cons x s ih =>
  simp only[Gr,Wb,zt];rw[List.range_succ_eq_map,List.find?_cons];have hm:(List.find? (λ i=>(x::s)[i]! == c) (List.map Nat.succ (N2 s.length)))=((N2 s.length).find? λ i=>s[i]! == c).map Nat.succ:=by
   rw[List.find?_map];rfl
  rw[hm,ih (k+1)];have a:(x::s)[0]! = x:=rfl;rw[a];cases h:(x == c)
  .simp only[zo,Option.map_map];congr 1
   grind
  .simp
def yP(s:List UInt8)(i:Nat):(⟨s.toArray⟩:ByteArray)[i]! = s[i]!:=by
 by_cases h:i<s.length
 .have a:i<(⟨s.toArray⟩:ByteArray).size:=by grind [LV]
  rw[getElem!_pos (⟨s.toArray⟩:ByteArray) i a,getElem!_pos s i h];rfl
 grind [LV]
def xcw{P:Jg}{w:N7}(s:List UInt8)(n:Int):(Extern.BytealgIndexByte.indexByte #[.string ⟨s.toArray⟩,.int .u8 n]).run P w =
 .ok (match(N2 s.length).find? (λ i=>s[i]! == Bi n.toNat)with|some i=>goInt i|none=>goInt (-1)) w:=by
 change Sem.run P (Extern.Bytes.bytesOf (.string ⟨s.toArray⟩) >>= _) w=_;rw[Nc,xe1];change Sem.run P (Extern.Bytes.asByte (.int .u8 n) >>= _) w=_;rw[Nc,xio];have a:(λ i=>(⟨s.toArray⟩:ByteArray)[i]! == Bi n.toNat)=(λ i=>s[i]! == Bi n.toNat):=funext λ i=>by rw[yP]
 simp only[N9,LV,a];cases(N2 s.length).find? (λ i=>s[i]! == Bi n.toNat)<;>rfl
def qs0{o:Pt}{c:Call}{f:FuncId}{fn:Func}{xs:List M6}(ho:o.op=.call c)(l:c.callee=.value (.func f))(m:P.funcs[f]? = B1 fn)(hb:fn.body=B5)
 (hn:fn.name≠ "runtime.NumGoroutine") (g:Extern.findNext fn=B5) (j:Extern.find fn=B1 Extern.BytealgIndexByte.indexByte) (p:c.args.toList=xs) :
 ∀(D:Nat->Prop)θ(ρ:M6->Kl)w vs v,ρ (.func f)=.func (.func f) #[] #[]->bP D θ vs (xs.map ρ)->Op.aE vs=B1 v -> ∃c,sH P (execOp ρ o) w c w/\VR D θ v c:=by
 intro D θ ρ w vs v q h b;unfold Op.aE at b;split at b
 .rename_i s n;obtain⟨x,y,rfl,ha,a⟩:=h.qV;cases b;refine⟨_,.inl ?_,.int _ _⟩;rw[Dz ho l q m hb hn g j,AN p];have d:(λ i=>(⟨s.toArray⟩:ByteArray)[i]! == Bi n.toNat)=(λ i=>s[i]! == Bi n.toNat):=funext λ i=>by rw[yP]
  simp only[j6,FB,<-ha.now,<-a.now,aC,xcw,N9]
  grind [xff,goInt]
 grind
def xnc{o:Pt}(xs:List M6):dt P o xs Op.fail:=by
 intro D θ ρ w vs v _ a;cases a
end
end Go.Am
namespace Go.Am
def ry(P:Jg)(o:Pt)(xs:List M6)(f:List AV->ar->Option AV):Prop :=
 ∀(base:Nat)(D:Nat->Prop)θ H(ρ:M6->Kl)w vs v,HR P base D θ H w->bP D θ vs (xs.map ρ)->f vs H=B1 v -> ∃c,sH P (execOp ρ o) w c w/\VR D θ v c
section
variable{P:Jg}
def xj1{o:Pt}{t:Ku}{x:M6}(ho:o.op=.load t x)(j:nU P t=B1 B5):ry P o [x] Op.ae:=by
 intro base D θ H ρ w vs v i h a;unfold Op.ae at a;split at a
 .rename_i b off;have⟨l,he,ha⟩:=h.pQ;simp only[z4,ug]at he;subst he;have⟨c,f,g⟩:=i.ae a;refine⟨c,.inl ?_,g⟩;have⟨d,_⟩:=Tz (w:=w) j;simp only[execOp,ho,<-ha.now,aC,Instr.loadAt,CE,loadVar,Nc,B7,N9,d,Nj,ja,ww,f]
 grind
def xj2{o:Pt}{t:Ku}{x:M6}{n:Nat}(ho:o.op=.load t x)(j:nU P t=B1 (B1 n)):ry P o [x] (Op.aq n):=by
 intro base D θ H ρ w vs v i h a;unfold Op.aq at a;split at a
 .rename_i b off;have⟨m,he,ha⟩:=h.pQ;simp only[z4,ug]at he;subst he;cases hl:H.aq b off n with
  |none=>grind
  |some l =>
   rw[hl]at a;cases a;have⟨cs,f,g,_⟩:=i.aq hl;refine⟨.agg cs.toArray,.inl ?_,.agg g⟩;have⟨c,d⟩:=Tz (w:=w) j;simp only[execOp,ho,<-ha.now,aC,Instr.loadAt,CE,loadVar,Nc,B7,N9,c,d n rfl,vx,uE,f]
 grind
theorem HR.fA{base:Nat}{D:Nat->Prop}{θ:Th}{H:ar}{w:N7}(h:HR P base D θ H w){b:Nat}{m:List (AV×AV×Nat)×Nat}(hb:H.fA b=B1 m) :
 H.get b=B1 (.map m.1 m.2)/\D b /\ ∃ms:List Bo,w.heap[θ.ct b]? = B1 (.map ms.toArray m.2)/\dB D θ m.1 ms:=by
 unfold ar.fA at hb;cases hg:H.get b with
 |none=>grind
 |some o =>
  rw[hg]at hb;have⟨f,co,d,hr⟩:=h.obj b o hg;cases o<;>simp only[reduceCtorEq,qk]at hb;subst hb;have⟨ms,a,c⟩:=hr
  grind
def KJ{w:N7}{r:Nat}{ms:Array Bo}{c:Nat}(h:w.heap[r]? = B1 (.map ms c)):(getObj r).run P w=.ok (.map ms c) w:=by
 simp[getObj,Sem.run,h]
def dB.length{D:Nat->Prop}{θ:Th}:∀(es:List (AV×AV×Nat))(ms:List Bo),dB D θ es ms->es.length=ms.length
 |[],[],_=>rfl
 |_::es,_::ms,⟨_,h⟩=>by simp[dB.length es ms h]
 |[],_::_,h=>h.elim
 |_::_,[],h=>h.elim
def VR.isAgg{D:Nat->Prop}{θ:Th}{l:List AV}{c:Kl}(h:VR D θ (.agg l) c):∃cs:List Kl,c=.agg cs.toArray/\bP D θ l cs:=h.fC
def xfd{t:Ku}{fs:Array Field}(h:P.underlying t=B1 (.struct fs)):P.fieldsOf t=fs:=by
 simp[Jg.fieldsOf,h]
def xi1{x y:AV}{r:Bool}(h:aY .int x y=B1 r):∃k a b,x=.int k a/\y=.int k b/\r=(a == b):=by
 cases x<;>cases y<;>simp only[aY,reduceCtorEq]at h;rename_i k a k' b;cases hk:sF k k' with
 |false=>grind
 |true =>
  rw[hk]at h;simp only[xt,qk]at h;have:k=k':=by simpa[Ul]using hk
  subst this
  grind [DM]
def xi2{x y:AV}{r:Bool}(h:aY .str x y=B1 r):∃a b,x=.str a/\y=.str b/\r=(a == b):=by
 cases x<;>cases y<;>simp only[aY,reduceCtorEq,qk]at h
 grind [ML]
def xfb{x y:AV}{r:Bool}(h:aY .bool x y=B1 r):∃a b,x=.bool a/\y=.bool b/\r=(a == b):=by
 cases x<;>cases y<;>simp only[aY,reduceCtorEq,qk]at h
 grind
theorem Sq{off:Nat}{n:Option Nat}{t rest:aT}{x y:AV}{r:Bool}(h:aY (.part off n t rest) x y=B1 r) :
 ∃l c a b q,x=.agg l/\y=.agg c/\partAt l off n=B1 a/\partAt c off n=B1 b/\aY t a b=B1 q/\(q=B4->aY rest (.agg l) (.agg c)=B1 r)/\(q=B2->r=B2):=by
 cases x<;>cases y<;>simp only[aY,reduceCtorEq]at h
 grind [qj]
theorem S6{x y:AV}{r:Bool}(h:aY .nil x y=B1 r):r=B4/\(∃l,x=.agg l)/\(∃l,y=.agg l):=by
 cases x<;>cases y<;>simp only[aY,reduceCtorEq,qk]at h
 grind
def q8r(s:Nat)(a:Option Nat)(q:aT)(n i:Nat){x y:AV}{r:Bool}(h:aY (dG.itemsT s a q n i) x y=B1 r):(∃l,x=.agg l)/\(∃l,y=.agg l):=by
 cases n with
 |zero=>exact(S6 h).2
 |succ n=>have⟨l,d,_,_,_,b,c,_⟩:=Sq h;grind
def q4u{go:Ku->Option aT}{fs:List Field}{q:aT}(a:dG.fieldsT P go fs=B1 q){x y:AV}{r:Bool}(h:aY q x y=B1 r):(∃l,x=.agg l)/\(∃l,y=.agg l):=by
 cases fs with
 |nil=>cases a;grind [S6]
 |cons f fs =>
  simp only[dG.fieldsT]at a;split at a
  .cases a
  .simp only[qj]at a
   grind [Sq]
def B6(P:Jg)(w:N7)(D:Nat->Prop)(θ:Th)(m:Nat)(t:Ku)(q:aT):Prop :=
 ∀(x y:AV)(cx cy:Kl)(r:Bool),VR D θ x cx->VR D θ y cy->aY q x y=B1 r->(BQ m t cx cy).run P w=.ok r w
def qzo{w:N7}{D:Nat->Prop}{θ:Th}{m:Nat}{go:Ku->Option aT}(o:∀t q,go t=B1 q->B6 P w D θ m t q){l p:List AV}{cs cs':List Kl}(hl:bP D θ l cs)(d:bP D θ p cs') :
 ∀(fs:List Field)(q:aT)(r:Bool),dG.fieldsT P go fs=B1 q->aY q (.agg l) (.agg p)=B1 r->(Op.eqFields m cs.toArray cs'.toArray fs).run P w=.ok r w
 |[],q,r,b,h=>by
  cases b;rw[(S6 h).1];simp[Op.eqFields]
 |f::fs,q,r,b,h=>by
  simp only[dG.fieldsT]at b;split at b
  .cases b
  .rename_i hn;simp only[qj]at b;have⟨a,ha,F,j,G,n,b⟩:=b;cases b;have⟨l1,l2,x,y,e,g,i,u,v,z,A,I⟩:=Sq h;injection g with g;injection i with i;subst g;subst i
   have⟨c,B,v1⟩:=LM (w:=w) ha hl u;have⟨s,C,v2⟩:=LM (w:=w) ha d v;have E:=o f.type F j x y c s e v1 v2 z;simp only[Op.eqFields,hn,ne_eq,not_false_eq_true,uE,Nc,B,C,E,N9];cases e
   .simp_all
   .simpa using qzo o hl d fs G r n (A rfl)
def q4s{w:N7}{D:Nat->Prop}{θ:Th}{m:Nat}{e:Ku}{s:Nat}{a:Option Nat}{q:aT}(ha:nU P e=B1 a)(j:B6 P w D θ m e q){l o:List AV}{cs cs':List Kl}(hl:bP D θ l cs)(d:bP D θ o cs') :
 ∀(n i:Nat)(r:Bool),aY (dG.itemsT s a q n i) (.agg l) (.agg o)=B1 r->(Op.eqItems m e s cs.toArray cs'.toArray (List.range' i n)).run P w=.ok r w
 |0,i,r,h=>by rw[(S6 h).1];simp[Op.eqItems]
 |n+1,i,r,h=>by
  have⟨l1,l2,x,y,b,f,g,t,u,v,z,E⟩:=Sq h;injection f with f;injection g with g;subst f;subst g
  have⟨c,A,v1⟩:=LM (w:=w) ha hl t;have⟨p,B,v2⟩:=LM (w:=w) ha d u;have C:=j x y c p b v1 v2 v;simp only[List.range'_succ,Op.eqItems,Nc,A,B,C,N9];cases b
  .simp_all
  .simpa using q4s ha j hl d n (i+1) r (z rfl)
def Tr(m:Nat){D:Nat->Prop}{θ:Th}(w:N7):∀(d:Nat)(t:Ku)(q:aT),dG P d t=B1 q->B6 P w D θ (d+m) t q
 |0,_,_,h=>by cases h
 |d+1,t,q,h=>by
  intro x y G I r g j hr;unfold dG at h;have v:d+1+m=(d+m)+1:=by omega
  rw[v];cases hu:P.underlying t with
  |none=>grind
  |some kd =>
   rw[hu]at h;cases kd
   case int k0 =>
    cases h;obtain⟨k,a,b,rfl,rfl,rfl⟩:=xi1 hr;rw[<-g.now,<-j.now,aC,aC,run_equalIn_int w _ t k k0 a b hu]
   case string =>
    cases h;obtain⟨a,b,rfl,rfl,rfl⟩:=xi2 hr;rw[<-g.now,<-j.now,aC,aC,run_equalIn_string w _ t _ _ hu,xed,xed]
   case bool =>
    cases h;obtain⟨a,b,rfl,rfl,rfl⟩:=xfb hr;rw[<-g.now,<-j.now,aC,aC,run_equalIn_bool' w _ t _ _ hu]
   case struct fs =>
    simp only at h;split at h
    .cases h
    .rename_i p;have f:P.stoodInHeld t=false:=by simpa using p
     obtain⟨⟨l,rfl⟩,⟨E,rfl⟩⟩:=q4u h hr;obtain⟨cs,rfl,hl⟩:=g.fC;obtain⟨cs',rfl,c⟩:=j.fC;have u:=xfd hu;rw[run_equalIn_struct w _ t _ _ (by rw[u];exact hu) f,u];exact qzo (λ t q C=>Tr m w d t q C) hl c _ _ _ h hr
   case array n e =>
    simp only[qj]at h;have⟨s,hs,a,ha,F,o,h⟩:=h;cases h;obtain⟨⟨l,rfl⟩,⟨E,rfl⟩⟩:=q8r _ _ _ _ _ hr;obtain⟨cs,rfl,hl⟩:=g.fC;obtain⟨cs',rfl,c⟩:=j.fC;have⟨i,A,B⟩:=nB hs;rw[run_equalIn_array _ _ _ _ hu A,List.range_eq_range'];have z:P.cellsOf e=s:=by grind [Jg.cellsOf]
    rw[z];exact q4s ha (Tr m w d e F o) hl c n 0 r hr
   all_goals grind
theorem T4{off:Nat}{n:Option Nat}{t rest:aT}{x:AV}(h:de (.part off n t rest) x=B4) :
 ∃l a,x=.agg l/\partAt l off n=B1 a/\de t a=B4/\de rest (.agg l)=true:=by
 cases x<;>simp only[de,ja]at h
 grind
def sg{x:AV}(h:de .nil x=B4):∃l,x=.agg l:=by
 cases x<;>simp only[de,ja]at h
 grind
def xf4(s:Nat)(a:Option Nat)(q:aT)(n i:Nat){x:AV}(h:de (dG.itemsT s a q n i) x=B4):∃l,x=.agg l:=by
 cases n with
 |zero=>exact sg h
 |succ n=>have⟨l,_,b,_⟩:=T4 h;grind
def xdl{go:Ku->Option aT}{fs:List Field}{q:aT}(a:dG.fieldsT P go fs=B1 q){x:AV}(h:de q x=B4):∃l,x=.agg l:=by
 cases fs with
 |nil=>cases a;exact sg h
 |cons f fs =>
  simp only[dG.fieldsT]at a;split at a
  .cases a
  .simp only[qj]at a
   grind [T4]
def I7(P:Jg)(w:N7)(D:Nat->Prop)(θ:Th)(em:Bool)(m:Nat)(t:Ku)(q:aT):Prop :=
 ∀(x:AV)(cx:Kl),VR D θ x cx->de q x=B4->(Bl em m t cx).run P w=.ok () w
def P'{w:N7}{D:Nat->Prop}{θ:Th}{em:Bool}{m:Nat}{e:Ku}{s:Nat}{a:Option Nat}{q:aT}(ha:nU P e=B1 a)(hs:bW P e=B1 s)(b:I7 P w D θ em m e q){l:List AV}{cs:List Kl}(hl:bP D θ l cs) :
 ∀(n i:Nat),de (dG.itemsT s a q n i) (.agg l)=B4 ->
  (forIn (List.range' i n) PUnit.unit (λ i _=>(do Bl em m e (<-part e cs.toArray (i*(<-sizeOf e)));pure (ForInStep.yield PUnit.unit):Sem (ForInStep PUnit)))).run P w=.ok PUnit.unit w
 |0,i,h=>by simp
 |n+1,i,h=>by
  have⟨l1,x,d,f,g,j⟩:=T4 h;cases d;have⟨c,o,v1⟩:=LM (w:=w) ha hl f;have p:=b x c v1 g;simp only[List.range'_succ,List.forIn_cons,Nc,vA hs,o,p,N9,B7]
  simpa using P' ha hs b hl n (i+1) j
def Wi(em:Bool)(m:Nat){D:Nat->Prop}{θ:Th}(w:N7):∀(d:Nat)(t:Ku)(q:aT),dG P d t=B1 q->I7 P w D θ em (d+m) t q
 |0,_,_,h=>by cases h
 |d+1,t,q,h=>by
  intro x B j hr;unfold dG at h;have o:d+1+m=(d+m)+1:=by omega
  rw[o];cases hu:P.underlying t with
  |none=>grind
  |some kd =>
   rw[hu]at h;cases kd
   case int k0=>simp[Bl,ku hu]
   case string=>simp[Bl,ku hu]
   case bool=>simp[Bl,ku hu]
   case struct fs =>
    simp only at h;split at h
    .cases h
    .obtain ⟨l,rfl⟩:=xdl h hr;obtain⟨cs,rfl,hl⟩:=j.fC;simp only[Bl,Nc,ku hu,N9];rw[<-Array.forIn_toList];clear hu;generalize fs.toList=L at h
     induction L generalizing q with
     |nil=>simp
     |cons f L ihL =>
      simp only[dG.fieldsT]at h;split at h
      .cases h
      .rename_i hn;simp only[qj]at h;have⟨a,ha,i,b,A,g,h⟩:=h;cases h;have⟨l1,x,p,r,u,v⟩:=T4 hr;cases p;have⟨c,y,v1⟩:=LM (w:=w) ha hl r;have z:=Wi em m w d f.type i b x c v1 u;simp only[List.forIn_cons,Nc,hn,ne_eq,not_false_eq_true,uE,N9,y,z,B7];exact ihL A v g
   case array n e =>
    simp only[qj]at h;have⟨s,hs,a,ha,i,b,h⟩:=h;cases h;obtain⟨l,rfl⟩:=xf4 _ _ _ _ _ hr;obtain⟨cs,rfl,hl⟩:=j.fC;have:=P' (w:=w) (em:=em) ha hs (Wi em m w d e i b) hl n 0 hr;simp_all[Bl,ku]
   all_goals grind
def Ws{em:Bool}{D:Nat->Prop}{θ:Th}{w:N7}{t:Ku}{q:aT}(h:p7 P t=B1 q){x:AV}{a:Kl}(b:VR D θ x a)(hr:de q x=B4) :
 (Bl em 10000 t a).run P w=.ok () w:=Wi em 9980 w 20 t q h x a b hr
def Dm{D:Nat->Prop}{θ:Th}{w:N7}{t:Ku}{q:aT}(h:p7 P t=B1 q){x y:AV}{a b:Kl}{r:Bool}(c:VR D θ x a)(d:VR D θ y b)(hr:aY q x y=B1 r) :
 (D2 t a b).run P w=.ok r w:=Tr 9980 w 20 t q h x y a b r c d hr
def I3(D:Nat->Prop)(θ:Th):Option (Nat×AV)->Option (Nat×Kl)->Prop
 |none,B5=>True
 |some (i,v),B1 (j,c)=>i=j/\VR D θ v c
 |_,_=>False
def _Y{D:Nat->Prop}{θ:Th}{w:N7}{t:Ku}{q:aT}(h:p7 P t=B1 q){k:AV}{d:Kl}(hk:VR D θ k d) :
 ∀(es:List (AV×AV×Nat))(ms:List Bo)(i:Nat)(r:Option (Nat×AV)),dB D θ es ms->findKey q k es i=B1 r ->
  ∃a,(BT t d ms i).run P w=.ok a w/\I3 D θ r a
 |[],[],i,r,_,hr=>by
  simp only[findKey,qk]at hr;subst hr;exact⟨B5,by simp[BT],trivial⟩
 |(k',v,b)::es,e::ms,i,r,⟨⟨h1,h2,_⟩,hes⟩,hr=>by
  simp only[findKey,qj]at hr;have⟨c,j,hr⟩:=hr;have:=Dm (w:=w) h hk h1 j;cases c
  .have ⟨a,f,g⟩:=_Y (w:=w) h hk es ms (i+1) r hes hr;exact⟨a,by simp[BT,this,f],g⟩
  .simp only[xt,qk]at hr;subst hr;exact⟨B1 (i,e.val),by simp[BT,this],rfl,h2⟩
 |[],_::_,_,_,h,_=>h.elim
 |_::_,[],_,_,h,_=>h.elim
def xge{t:Ku}{d:TypeDesc}(hu:P.underlying t=B1 d){x y:Kl}{b:Bool}(h:Instr.sameNow d x y=B1 b)(w:N7):(D2 t x y).run P w=.ok b w:=by
 unfold Instr.sameNow at h;split at h
 .rename_i k a k' c;split at h
  .rename_i hk;subst hk;cases h;exact run_equalIn_int w _ t _ _ _ _ hu
  grind
 .cases h;show(BQ (9999+1) t _ _).run P w=_
  grind [run_equalIn_string,beq_toListBytes]
 .cases h;exact run_equalIn_bool' w _ t _ _ hu
 grind
def _Z{t:Ku}{d:TypeDesc}(hu:P.underlying t=B1 d){c:Kl}(w:N7):∀(ms:List Bo)(i:Nat)(r a:Option (Nat×Kl)),
 CY d c ms i=B1 r->(BT t c ms i).run P w=.ok a w->r=a
 |[],i,r,a,h,h'=>by
  simp_all[CY,BT]
 |e::ms,i,r,a,h,h'=>by
  simp only[CY]at h;cases hs:Instr.sameNow d c e.key with
  |none=>grind
  |some b =>
   rw[hs]at h;have:=xge hu hs w;cases b
   .simp [BT,this]at h';exact _Z hu w ms (i+1) r a h h'
   simp_all[BT]
def q4v{D:Nat->Prop}{θ:Th}{w:N7}{t:Ku}{q:aT}(h:p7 P t=B1 q){k:AV}{b:Kl}(hk:VR D θ k b){es:List (AV×AV×Nat)}{ms:List Bo}{r:Option (Nat×AV)}
 (c:dB D θ es ms) (hr:findKey q k es 0=B1 r):∃a,(Cz t b ms).run P w=.ok a w/\I3 D θ r a:=by
 have⟨a,f,g⟩:=_Y (w:=w) h hk es ms 0 r c hr;have hu:∃d,P.underlying t=B1 d:=by
  grind [p7,dG]
 have⟨d,hu⟩:=hu;refine⟨a,?_,g⟩;simp only[Cz,Nc,ku hu,N9];cases hn:CY d b ms 0 with
 |none=>simpa using f
 |some r2=>simp[_Z hu w ms 0 r2 a hn f]
def xga{o:Pt}{t u e:Ku}{E kk:M6}{ok:Bool}{q:aT}{z:AV}(ho:o.op=.lookup t E kk ok)(hu:P.underlying t=B1 (.map u e))(B:p7 P u=B1 q)(J:zeroOf P e=B1 z) :
 ry P o [E,kk] (Op.lookup q z ok):=by
 intro base D θ H ρ w vs v I h a;have⟨A,f,g⟩:=Lv (w:=w) J;unfold Op.lookup at a;split at a
 .rename_i k;have⟨x,y,he,ha,hb⟩:=h.qV;simp only[z4,ug]at he;obtain⟨rfl,rfl⟩:=he;cases c:de q k with
  |false=>grind
  |true =>
   rw[c]at a;simp only[xt,qk]at a;have j:=λ em=>Ws (em:=em) (w:=w) B hb c;have C:(Cz u (ρ kk) []).run P w=.ok B5 w:=by
    have hu:∃d,P.underlying u=B1 d:=by
     grind [p7,dG]
    have⟨d,hu⟩:=hu;simp[Cz,ku hu,CY]
   subst a;cases ok
   .refine ⟨A,.inl ?_,g _ _⟩;simp[execOp,ho,CX,ku hu,<-ha.now,aC,j,C,f]
   .refine ⟨.tuple [A,.bool B2].toArray,.inl ?_,.tuple (.cons (g _ _) (.one (.bool _)))⟩;simp[execOp,ho,CX,ku hu,<-ha.now,aC,j,C,f]
 .rename_i b k;have⟨x,y,he,ha,hb⟩:=h.qV;simp only[z4,ug]at he;obtain⟨rfl,rfl⟩:=he;cases c:de q k with
  |false=>grind
  |true =>
   rw[c]at a;simp only[xt,qj]at a;have⟨m,hm,r,hr,a⟩:=a;have⟨_,_,ms,s,G⟩:=I.fA hm;have j:=λ em=>Ws (em:=em) (w:=w) B hb c;have⟨F,n,l⟩:=q4v (w:=w) B hb G hr;cases r with
   |none =>
    cases F with
    |some _=>exact l.elim
    |none =>
     simp only[qk]at a;subst a;cases ok
     .refine ⟨A,.inl ?_,g _ _⟩;simp[execOp,ho,CX,ku hu,<-ha.now,aC,j,n,f,KJ s]
     .refine ⟨.tuple [A,.bool B2].toArray,.inl ?_,.tuple (.cons (g _ _) (.one (.bool _)))⟩;simp[execOp,ho,CX,ku hu,<-ha.now,aC,j,n,f,KJ s]
   |some p =>
    have⟨i,pv⟩:=p;cases F with
    |none=>exact l.elim
    |some p' =>
     have⟨K,pc⟩:=p';have⟨_,l⟩:=l;simp only[qk]at a;subst a;cases ok
     .refine ⟨pc,.inl ?_,l⟩;simp[execOp,ho,CX,ku hu,<-ha.now,aC,j,n,KJ s]
     .refine ⟨.tuple [pc,.bool B4].toArray,.inl ?_,.tuple (.cons l (.one (.bool _)))⟩;simp[execOp,ho,CX,ku hu,<-ha.now,aC,j,n,KJ s]
 grind
end
end Go.Am
namespace Go.Am
section
variable{P:Jg}{base:Nat}{D:Nat->Prop}{θ:Th}{H:ar}{w:N7}
def isStr:AV->Bool
 | .str _=>B4
 |_=>B2
def Y6(g:HR P base D θ H w){x:AV}{c:Kl}{size n k:Nat}{l:List AV}(d:VR D θ x c)(hk:eJ x=B1 k)(hn:n<=k)(hs:isStr x=B2)
 (h:firstCells H size n x=B1 l):∃a len cap,c=.slice a len cap/\len=k/\((a=B5/\l=[]/\n=0/\k=0) \/
  ∃ad cs,a=B1 ad/\(loadCells ad (n*size)).run P w=.ok cs.toArray w/\bP D θ l cs/\l.length=n*size):=by
 have t:∀a,(loadCells a 0).run P w=.ok ([]:List Kl).toArray w:=λ a=>rfl;cases x<;>simp only[eJ,reduceCtorEq,qk]at hk
 case str s=>cases hs
 case nils =>
  subst hk;simp only[firstCells,qk]at h;subst h;exact⟨B5,0,0,d.now.symm,rfl,(by grind)⟩
 case slice b o n' cp =>
  subst hk;simp only[firstCells]at h;refine⟨_,_,_,d.now.symm,rfl,.inr ?_⟩;cases hb:I4 n 0 with
  |true =>
   have:n=0:=by simpa using hb
   subst this;rw[hb]at h;cases h;exact⟨_,[],rfl,by grind,.nil,by simp⟩
  |false =>
   rw[hb]at h;have⟨cs,j,p,q⟩:=g.aq h
   grind
 case eslice b =>
  subst hk;have:n=0:=by omega
  subst this;simp only[firstCells,I4,xt,qk]at h;subst h;exact⟨_,_,_,d.now.symm,rfl,.inr ⟨_,[],rfl,by grind,.nil,by simp⟩⟩
 case gslice b i m s alt n' =>
  subst hk;simp only[firstCells]at h;refine⟨_,_,_,d.now.symm,rfl,.inr ?_⟩;cases hb:I4 n 0 with
  |true =>
   have:n=0:=by simpa using hb
   subst this;rw[hb]at h;cases h;exact⟨_,[],rfl,by grind,.nil,by simp⟩
  |false =>
   rw[hb]at h;simp only[zo]at h;cases f:(I4 s size && Oz i m)with
   |false=>grind
   |true =>
    rw[f]at h;simp only[zn,jz,AZ]at f;obtain⟨rfl,r⟩:=f;have⟨cs,j,p,q⟩:=g.aq h
    grind
end
end Go.Am
namespace Go.Am
section
variable{P:Jg}{base:Nat}{D:Nat->Prop}{θ:Th}{H:ar}{w:N7}
def UR{w:N7}{r:Nat}{c:Array Kl}{e:Ku}{fz:Nat×Nat}(h:w.heap[r]? = B1 (.cells c e fz)):w.shape? r=B1 (e,c.size):=by
 simp[N7.shape?,h]
def q1j{w:N7}{r:Nat}{c:Array Kl}{e:Ku}{fz:Nat×Nat}(h:w.heap[r]? = B1 (.cells c e fz)):(viewAt r).run P w=.ok B5 w:=by
 simp[viewAt,UR h]
def qp0{w:N7}{a:Addr}{c:Array Kl}{e:Ku}{fz:Nat×Nat}(h:w.heap[a.block]? = B1 (.cells c e fz)):(noView a).run P w=.ok () w:=by
 simp[noView,q1j h]
def Su{a b:AV->Bool}{x y:AV}{q:Bool}(h:td a b x y=B1 q) :
 (a x=B4/\a y=B4/\q=B4)\/(a x=B4/\b y=B4/\q=B2)\/(b x=B4/\a y=B4/\q=B2):=by
 grind [td]
def Mj.not{a:Nat×Nat}(h:Mj (0,0) a)(i:Nat):¬(a.1<=i/\i<a.2):=by
 rcases h with h|⟨_,h⟩<;>simp at *<;>omega
def xnb(p:HR P base D θ H w){b d o o':Nat}(J:b≠d)(h:yZ H b d=B4) :
 (sameAddr ⟨θ.ct b,θ.off b+o,B5⟩ ⟨θ.ct d,θ.off d+o',B5⟩).run P w=.ok B2 w:=by
 have key:∀(f g o1 o2:Nat)(z A:Array Kl)(e1 e2:Ku)(m n:Nat×Nat),f≠g->w.heap[f]? = B1 (.cells z e1 m)->w.heap[g]? = B1 (.cells A e2 n) ->
  ((∀i,¬(m.1<=i/\i<m.2))/\A.size≠0\/(∀i,¬(n.1<=i/\i<n.2))/\z.size≠0)->(sameAddr ⟨f,o1,B5⟩ ⟨g,o2,B5⟩).run P w=.ok B2 w:=by
  intro f g o1 o2 z A e1 e2 m n hk G r u;have s1:=UR G;have s2:=UR r;have n1:(noView ⟨f,o1,B5⟩).run P w=_:=qp0 G;have n2:(noView ⟨g,o2,B5⟩).run P w=_:=qp0 r;have O:∀i,w.frozen? ⟨f,i,B5⟩=(decide (m.1<=i) && decide (i<m.2)):=λ i=>by simp[N7.frozen?,G]
  have Q:∀i,w.frozen? ⟨g,i,B5⟩=(decide (n.1<=i) && decide (i<n.2)):=λ i=>by simp[N7.frozen?,r]
  have v:(f == g)=false:=by simpa using hk
  rcases u with⟨S,T⟩|⟨S,T⟩
  .have E:∀i,w.frozen? ⟨f,i,B5⟩=false:=λ i=>by simp_all
   simp only[sameAddr,Nc,run_frozen,E,n1,n2,v,mayBeOne,stringish,run_shape,s1,s2,Sem.run_ite,Bool.false_and,ja,ww,B7,N9];simp_all
  .have F:∀i,w.frozen? ⟨g,i,B5⟩=false:=λ i=>by simp_all
   simp only[sameAddr,Nc,run_frozen,F,n1,n2,v,mayBeOne,stringish,run_shape,s1,Sem.run_ite,Bool.and_false,ja,ww,B7,N9];simp_all
 unfold yZ at h;split at h
 .rename_i c e x M e' R U hb a;obtain⟨_,co,u,pre,cs,post,B,N,rfl,r,K,L⟩:=p.obj b _ hb;obtain⟨_,co',j,y,cs',l,q,C,rfl,I,s,t⟩:=p.obj d _ a;refine key _ _ _ _ _ _ _ _ _ _ (p.inj b d _ _ hb a rfl J) u j (.inl ⟨(L rfl).2.2.2.not,?_⟩);have:=s.length
  grind
 .rename_i c e fz ow M e' hb a;obtain⟨_,co,u,pre,cs,post,B,N,rfl,r,K,L⟩:=p.obj b _ hb;obtain⟨_,co',j,y,cs',l,q,C,rfl,I,s,t⟩:=p.obj d _ a;refine key _ _ _ _ _ _ _ _ _ _ (λ e=>p.inj d b _ _ a hb rfl (by omega) e.symm) u j (.inr ⟨(t rfl).2.2.2.not,?_⟩);have:=K.length
  grind
 grind
def wE(P:Jg)(t:Ku)(x y:M6):wO->Prop
 | .bool=>P.underlying t=B1 .bool
 | .ptr=>∃e n,P.underlying t=B1 (.pointer e)/\bW P e=B1 (n+1)
 | .slice=>∃e,P.underlying t=B1 (.slice e)
 | .map=>∃k e,P.underlying t=B1 (.map k e)
 | .func=>∃a b c,P.underlying t=B1 (.func a b c)
 | .iface=>∃ms,P.underlying t=B1 (.interface ms)/\((∃v,x=.const v) \/ ∃v,y=.const v)
 | .ifaces f=>(∃ms,P.underlying t=B1 (.interface ms)) /\ ∀u q,f u=B1 q->dG P 20 u=B1 q /\ ∃i,P.info? u=B1 i/\i.comparable=B4
 | .agg q=>P.eqGuardType P.depth t=B2/\p7 P t=B1 q/\((∃fs,P.underlying t=B1 (.struct fs)) \/ ∃n e,P.underlying t=B1 (.array n e))
set_option maxHeartbeats 2000000 in
def LG(hh:HR P base D θ H w){t:Ku}{x y:M6}{ρ:M6->Kl}{k:wO}(hk:wE P t x y k){a b:AV}(ha:VR D θ a (ρ x))(hb:VR D θ b (ρ y)){q:Bool}
 (h:IX H k a b=B1 q) (op:BinOp) (g:op=.eql\/op=.neq) :
 ((do eqGuard op t x y (ρ x) (ρ y);binOp op t (ρ x) (ρ y)):Sem Kl).run P w=.ok (.bool (if op=.neq then !q else q)) w:=by
 have fin:(eqGuard op t x y (ρ x) (ρ y)).run P w=.ok () w->(D2 t (ρ x) (ρ y)).run P w=.ok q w->(binOp .eql t (ρ x) (ρ y)).run P w=((do pure (.bool (<-D2 t (ρ x) (ρ y)))):Sem Kl).run P w ->
  (binOp .neq t (ρ x) (ρ y)).run P w=((do pure (.bool (!(<-D2 t (ρ x) (ρ y))))):Sem Kl).run P w ->
  ((do eqGuard op t x y (ρ x) (ρ y);binOp op t (ρ x) (ρ y)):Sem Kl).run P w=.ok (.bool (if op=.neq then !q else q)) w:=by
  intro G F Z h4;rw[Nc,G,N9];rcases g with rfl|rfl
  .rw [Z];simp[F]
  .rw [h4];simp[F]
 obtain⟨dd,e1,V⟩:∃d,(∀p q,D2 t p q=BQ (d+1) t p q) /\ ∃m,d=20+m:=⟨9999,λ _ _=>rfl,9979,rfl⟩
 cases k
 case bool =>
  cases a<;>cases b<;>simp only[IX,reduceCtorEq,qk]at h;subst h;have hu:P.underlying t=B1 .bool:=hk;rw[<-ha.now,<-hb.now];rw[<-ha.now,<-hb.now]at fin;refine fin ?_ (run_equalIn_bool' w _ t _ _ hu) (by simp only[aC,binOp]) (by simp only[aC,binOp]);rcases g with rfl|rfl<;>simp[eqGuard,aC]
 case ptr =>
  have⟨e,n,hu,hs⟩:=hk;have K:=vA (w:=w) hs;have A:(D2 t (ρ x) (ρ y)).run P w=.ok q w:=by
   cases a<;>cases b<;>simp only[IX,reduceCtorEq,qk]at h
   .subst h;rw[<-ha.now,<-hb.now,e1];simp[aC,BQ,ku hu]
   .subst h;rw[<-ha.now,<-hb.now,e1];simp[aC,BQ,ku hu]
   .subst h;rw[<-ha.now,<-hb.now,e1];simp[aC,BQ,ku hu]
   .rename_i C o1 E o2;rw[<-ha.now,<-hb.now,e1];simp only[aC,BQ,Nc,ku hu,N9,K,ne_eq,Nat.succ_ne_zero,not_false_eq_true,uE];cases r:I4 C E with
    |true =>
     rw[r]at h;have:C=E:=by simpa using r
     subst this;simp only[xt,qk]at h;subst h;simp only[sameAddr,beq_self_eq_true,uE,B7];congr 1
     by_cases ho:o1=o2
     .subst ho;simp
     .have:I4 o1 o2=false:=by simpa[<-Bool.not_eq_true,jz]using ho
      rw[this];simp[ho]
    |false =>
     rw[r]at h;simp only[zo]at h;cases hp:yZ H C E with
     |false=>rw[hp]at h;cases h
     |true =>
      rw[hp]at h;simp only[xt,qk]at h;subst h;have u:C≠E:=λ e=>by subst e;simp at r
      exact xnb hh u hp
  cases a<;>cases b<;>simp only[IX,reduceCtorEq,qk]at h <;>
   (rw[<-ha.now,<-hb.now]at A⊢;rw[<-ha.now,<-hb.now]at fin
    exact fin (by rcases g with rfl|rfl<;>simp[eqGuard,aC]) A (by simp only[aC,binOp]) (by simp only[aC,binOp]))
 case slice =>
  have⟨e,hu⟩:=hk;have o:=Su h;cases a<;>cases b<;>simp[Bj,isSlice]at o <;>
   (subst o;rw[<-ha.now,<-hb.now];rw[<-ha.now,<-hb.now]at fin
    exact fin (by rcases g with rfl|rfl<;>simp[eqGuard,aC]) (by rw[e1];simp[aC,BQ,ku hu]) (by simp only[aC,binOp]) (by simp only[aC,binOp]))
 case map =>
  have⟨k,e,hu⟩:=hk;have o:=Su h;cases a<;>cases b<;>simp[C6,isMap]at o <;>
   (subst o;rw[<-ha.now,<-hb.now];rw[<-ha.now,<-hb.now]at fin
    exact fin (by rcases g with rfl|rfl<;>simp[eqGuard,aC]) (by rw[e1];simp[aC,BQ,ku hu]) (by simp only[aC,binOp]) (by simp only[aC,binOp]))
 case func =>
  have⟨p1,p2,p3,hu⟩:=hk;have o:=Su h;cases a<;>cases b<;>simp[DW,Ps]at o <;>
   (subst o;rw[<-ha.now,<-hb.now];rw[<-ha.now,<-hb.now]at fin
    exact fin (by rcases g with rfl|rfl<;>simp[eqGuard,aC]) (by rw[e1];simp[aC,BQ,ku hu]) (by simp only[aC,binOp]) (by simp only[aC,binOp]))
 case iface =>
  have⟨ms,hu,O⟩:=hk;have o:=Su h;cases a<;>cases b<;>simp[CB,isIface]at o <;>
   (subst o;rw[<-ha.now,<-hb.now];rw[<-ha.now,<-hb.now]at fin
    exact fin (by rcases g with rfl|rfl<;>rcases O with⟨v,rfl⟩|⟨v,rfl⟩<;>simp[eqGuard,aC]) (by rw[e1];simp[aC,BQ,ku hu]) (by simp only[aC,binOp]) (by simp only[aC,binOp]))
 case ifaces f =>
  have⟨⟨ms,hu⟩,hf⟩:=hk;cases a<;>cases b<;>simp only[IX,reduceCtorEq,qk]at h
  .rename_i Q v1 S v2;have⟨T,I,M⟩:=ha.mA;have⟨U,J,N⟩:=hb.mA;rw[I,J]at fin⊢;refine fin (by rcases g with rfl|rfl<;>simp[eqGuard]) ?_ (by simp only[binOp]) (by simp only[binOp]);rw[e1];cases j:I4 Q S with
   |true =>
    rw[j]at h;simp only[jz]at j;subst j;simp only[xt,qj]at h;have⟨R,L,h⟩:=h;have⟨W,i,X,Y⟩:=hf _ _ L;obtain⟨m,rfl⟩:=V;have B:=Tr m (D:=D) (θ:=θ) w 20 Q R W v1 v2 T U q M N h;simp[BQ,ku hu,typeInfo,X,Y,B]
   |false =>
    rw[j]at h;have u:Q≠S:=λ e=>by subst e;simp at j
    simp only[zo,qk]at h;subst h;simp[BQ,ku hu,u]
  .subst h;rw[<-ha.now,<-hb.now];rw[<-ha.now,<-hb.now]at fin;exact fin (by rcases g with rfl|rfl<;>simp[eqGuard,aC]) (by rw[e1];simp[aC,BQ,ku hu]) (by simp only[aC,binOp]) (by simp only[aC,binOp])
  .subst h;rw[<-ha.now,<-hb.now];rw[<-ha.now,<-hb.now]at fin;exact fin (by rcases g with rfl|rfl<;>simp[eqGuard,aC]) (by rw[e1];simp[aC,BQ,ku hu]) (by simp only[aC,binOp]) (by simp only[aC,binOp])
 case agg R =>
  have⟨hg,c,hu⟩:=hk;have A:=Dm (w:=w) c ha hb h;have z:(∃l,a=.agg l) /\ ∃l,b=.agg l:=by
   have c:dG P (19+1) t=B1 R:=c;rw[dG]at c;rcases hu with⟨fs,hu⟩|⟨n,e,hu⟩
   .rw [hu]at c;simp only at c;split at c
    .cases c
    .exact q4u c h
   .rw [hu]at c;simp only[qj]at c;have⟨s,hs,a',ha',q1,hq1,c⟩:=c;cases c;exact q8r _ _ _ _ _ h
  obtain⟨⟨l,rfl⟩,⟨l',rfl⟩⟩:=z;have⟨cs,G,_⟩:=ha.fC;have⟨cs',F,_⟩:=hb.fC;rw[G,F]at A fin⊢;exact fin (run_eqGuard_agg w _ t x y _ _ hg) A (by simp only[binOp]) (by simp only[binOp])
def xni{o:Pt}{t g:Ku}{x y:M6}{k:wO}{neg:Bool}(ho:o.op=.binOp (if neg then .neq else .eql) t x y g)(hk:wE P t x y k):ry P o [x,y] (Op.eq k neg):=by
 intro base D θ H ρ w vs v d h c;unfold Op.eq at c;split at c
 .rename_i a b;have⟨i,j,he,ha,hb⟩:=h.qV;simp only[z4,ug]at he;obtain⟨rfl,rfl⟩:=he;simp only[qj]at c;have⟨q,f,c⟩:=c;cases c;have:=LG d hk ha hb f (if neg then .neq else .eql) (by grind);refine⟨_,.inl ?_,.bool _⟩;simp only[execOp,ho];rw[Nc,this];simp_all
 grind
end
end Go.Am
namespace Go.Am
structure lY(w w0:N7):Prop where
 heap:w0.heap=w.heap
 os:w0.os=w.os
 tape:w0.tape=w.tape
 output:w0.output=w.output
theorem lY.refl(w:N7):lY w w:=⟨rfl,rfl,rfl,rfl⟩
def lY.drew(w:N7):lY w w.drew:=⟨rfl,rfl,rfl,rfl⟩
theorem lY.trans{a b c:N7}(h:lY a b)(d:lY b c):lY a c:=⟨d.heap.trans h.heap,d.os.trans h.os,d.tape.trans h.tape,d.output.trans h.output⟩
def mC(P:Jg)(o:Pt)(xs:List M6)(f:List AV->Option (bE×(Nat->AV))):Prop :=
 ∀(D:Nat->Prop)θ(ρ:M6->Kl)w vs ob mk,bP D θ vs (xs.map ρ)->f vs=B1 (ob,mk) ->
  own ob=B4 /\ ∃w0 co ext c,(execOp ρ o).run P w=.ok (.value c) (w0.alloc co)/\lY w w0 /\
   ∀(D':Nat->Prop)θ' id,Ag D θ θ'->(∀b,D b->D' b)->D' id -> θ'.ct id=w.heap.size -> θ'.off id=0 -> θ'.ext id=ext->pj P D' θ' id ob co/\VR D' θ' (mk id) c
section
variable{P:Jg}
def SW{D':Nat->Prop}{θ':Th}{id:Nat}{cells:List AV}{cs:List Kl}{e:Ku}(h:bP D' θ' cells cs)(ho:θ'.off id=0) :
 pj P D' θ' id (.row cells e (0,0) B4) (.cells cs.toArray e (0,0)) :=
 ⟨[],cs,[],(0,0),_,by simp,by grind,h,λ _=>⟨rfl,rfl,rfl,.inl rfl⟩⟩
def xhp{D':Nat->Prop}{θ':Th}{id k:Nat}(a:D' id)(hb:θ'.ct id=k)(ho:θ'.off id=0):VR D' θ' (Op.ptrTo id) (.pointer (B1 ⟨k,0,B5⟩)):=by
 have:=VR.ptr (θ:=θ') (o:=0) a;rw[hb,ho]at this;exact this
def FH{D':Nat->Prop}{θ':Th}{id k n m:Nat}(a:D' id)(hb:θ'.ct id=k)(ho:θ'.off id=0):VR D' θ' (Op.sliceTo n m id) (.slice (B1 ⟨k,0,B5⟩) n m):=by
 have:=VR.slice (θ:=θ') (o:=0) (n:=n) (c:=m) a;simp only[aC,hb,ho]at this;exact this
def xeu{o:Pt}{e:Ku}{z:AV}(ho:o.op=.alloc e)(f:zeroOf P e=B1 z):mC P o [] (Op.alloc e z.cells):=by
 intro D θ ρ w vs l mk h c;unfold Op.alloc at c;split at c
 .cases c;have⟨i,g,d⟩:=Lv (w:=w) f;refine⟨rfl,w,.cells i.cells e (0,0),0,.pointer (B1 ⟨w.heap.size,0,B5⟩),?_,.refl w,λ D' θ' id ha j b hb a _=>⟨?_,xhp b hb a⟩⟩
  .simp_all [execOp,Instr.alloc,newVar,newRow]
  .have:=SW (P:=P) (e:=e) (d D' θ').cells a
   simpa using this
 grind
def xk3{o:Pt}{e:Ku}{x:M6}(ho:o.op=.box e x):mC P o [x] (Op.box e):=by
 intro D θ ρ w vs f mk h c;unfold Op.box at c;split at c
 .rename_i v;have⟨g,he,ha⟩:=h.pQ;simp only[z4,ug]at he;subst he;cases c;refine⟨rfl,w,.cells (ρ x).cells e (0,0),0,.pointer (B1 ⟨w.heap.size,0,B5⟩),?_,.refl w,λ D' θ' id hg d b hb a _=>⟨?_,xhp b hb a⟩⟩
  .simp [execOp,ho,Instr.box,newVar,newRow]
  .have:=SW (P:=P) (e:=e) (ha.up hg d).cells a
   simpa using this
 grind
def q3x{o:Pt}{t:Ku}{r:Option M6}(ho:o.op=.makeMap t r)(hr:r=B5\/(∃k n,r=B1 (.const (.int k n)) /\ ∃a b,P.underlying t=B1 (.map a b)))
 (j:∀(ρ:M6->Kl),True):∀(D:Nat->Prop)θ(ρ:M6->Kl)w vs d mk,(∀v,ρ (.const v)=v)->bP D θ vs (([]:List M6).map ρ)->Op.mkMap vs=B1 (d,mk) ->
 own d=B4 /\ ∃w0 co ext c,(execOp ρ o).run P w=.ok (.value c) (w0.alloc co)/\lY w w0 /\
  ∀(D':Nat->Prop)θ' id,Ag D θ θ'->(∀b,D b->D' b)->D' id -> θ'.ct id=w.heap.size -> θ'.off id=0 -> θ'.ext id=ext->pj P D' θ' id d co/\VR D' θ' (mk id) c:=by
 intro D θ ρ w vs d mk m h f;unfold Op.mkMap at f;split at f
 .cases f;refine⟨rfl,w,.map #[] 0,0,.map (B1 w.heap.size),?_,.refl w,λ D' θ' id hg l i hb g _=>⟨⟨[],rfl,trivial⟩,?_⟩⟩
  .rcases hr with rfl|⟨k,n,rfl,a,b,hu⟩
   .simp [execOp,ho,Instr.makeMap]
   simp_all[execOp,Instr.makeMap,ku,asInt,asIntOf]
  grind [VR.map]
 grind
def V9{D:Nat->Prop}{θ:Th}{z:List AV}{a:List Kl}(h:bP D θ z a)(n:Nat):bP D θ (fP n z) (I5 n a).flatten:=by
 induction n with
 |zero=>exact .nil
 |succ n ih =>
  simp only[fP,px,Q1,List.flatten_cons];exact h.app ih
def Xi(a:List Kl)(n:Nat):((Cx (n*a.length)).map (λ i=>a.toArray[i % a.toArray.size]!))=(I5 n a).flatten.toArray:=by
 apply Array.ext';simp only[Array.toList_map,Array.toList_range,List.size_toArray]
 induction n with
 |zero=>simp
 |succ n ih =>
  rw[show(n+1)*a.length=a.length+n*a.length from by rw[wg];omega,List.range_add,Jb,A5,Q1,List.flatten_cons];congr 1
  .apply List.ext_getElem
   .simp
   grind [Nat.mod_eq_of_lt]
  simp_all[List.map_congr_left]
def qz0{o:Pt}{t e:Ku}{len n:Nat}{parts:Array (Nat×M6)}{z:AV}{u:List (Nat×Nat)}(ho:o.op=.buildSlice t len parts)(hu:P.underlying t=B1 (.slice e))
 (hs:bW P e=B1 n) (E:zeroOf P e=B1 z) (hp:BG (KE n) parts.toList=B1 u) (G:z.cells.length=n) (x:len*n<=16777216) :
 mC P o (parts.toList.map (·.2)) (Op.buildSlice e len z.cells u):=by
 intro D θ ρ w vs I mk h l;simp only[Op.buildSlice,qj]at l;have⟨c,B,l⟩:=l;cases l;have⟨f,s,j⟩:=Lv (w:=w) E;have F:=(j D θ).cells.length;have g:bP D θ (fP len z.cells) (I5 len f.cells.toList).flatten:=V9 (j D θ).cells len;have hv':bP D θ vs (parts.toList.map λ p=>ρ p.2):=by grind [Function.comp_def]
 have⟨cout,y,A⟩:=Yw u vs parts.toList (KE n) c hp hv' _ _ g B;have r:f.cells.size=n:=by rw[<-Array.length_toList];omega
 refine⟨rfl,w,.cells cout.toArray e (0,0),0,.slice (B1 ⟨w.heap.size,0,B5⟩) len len,?_,.refl w,λ D' θ' id hg C q hb d _=>⟨SW (A.up hg C) d,FH q hb d⟩⟩;have a:=Xi f.cells.toList len;rw[show f.cells.toList.length=n from by omega]at a;simp only[CA]at a;have m:Instr.fill (λ i=>B1 (i*n,n)) (((Cx (len*n)).map (λ i=>f.cells[i % f.cells.size]!))) ((parts.map λ(p:Nat×M6)=>(p.1,ρ p.2)).toList)=B1 cout.toArray:=by
  rw[a,xm8];exact y
 by_cases v:len*n=0
 .have b:Instr.fill (λ i=>B1 (i*n,n)) #[] ((parts.map λ(p:Nat×M6)=>(p.1,ρ p.2)).toList)=B1 cout.toArray:=by
   grind
  simp only[execOp,ho,Instr.buildSlice,Nc,ku hu,N9,vA hs,v,show Cx 0 = #[]from rfl,Array.map_empty,uE,B7,b];simp[newRow]
 .have hb:¬(len*n > 2 ^ 24):=by omega
  simp only[execOp,ho,Instr.buildSlice,Nc,ku hu,N9,vA hs,v,hb,ww,s,B7];simp_all[newRow]
def q9i{o:Pt}{t e:Ku}{l c:M6}{b n:Nat}{z:AV}(ho:o.op=.makeSlice t l c)(hu:P.underlying t=B1 (.slice e))(hb:ng P e=B1 b)
 (hs:bW P e=B1 n) (L:zeroOf P e=B1 z) (N:z.cells.length=n):mC P o [l,c] (Op.mkSlice e b z.cells):=by
 intro D θ ρ w vs W mk h p;unfold Op.mkSlice at p;split at p
 .rename_i U m V f;have⟨x,y,he,ha,u⟩:=h.qV;simp only[z4,ug]at he;obtain⟨rfl,rfl⟩:=he;cases d:(vN 0 m && vN m f && vN (f*b) 140737488355328 && vN f 140737488355328)with
  |false=>grind
  |true =>
   rw[d]at p;simp only[xt,qk,zi]at p;obtain⟨rfl,rfl⟩:=p;simp only[zn,NP,decide_eq_true_eq]at d;have⟨⟨⟨O,Q⟩,R⟩,S⟩:=d;have⟨r,C,q⟩:=Lv (w:=w) L;have M:=(q D θ).cells.length;have B:r.cells.size=n:=by grind
   refine⟨rfl,w,.cells (I5 f.toNat r.cells.toList).flatten.toArray e (0,0),0,.slice (B1 ⟨w.heap.size,0,B5⟩) m.toNat f.toNat,?_,.refl w,
    λ D' θ' id hg T A hb j _=>⟨SW (V9 ((q D' θ').cells) _) j,FH A hb j⟩⟩
   have w1:OA.i64.wrap m=m:=by grind [IntKind.wrap,IntKind.bits]
   have w2:OA.i64.wrap f=f:=by grind [IntKind.wrap,IntKind.bits]
   have v:∃i,P.info? e=B1 i/\i.bytes=b:=by
    unfold ng at hb;cases E:P.info? e with
    |none=>grind
    |some i=>grind
   obtain⟨inf,E,rfl⟩:=v;have a:=Xi r.cells.toList f.toNat;rw[show r.cells.toList.length=n from by omega]at a;simp only[CA]at a;have F:¬(f<0):=by omega
   have G:¬((inf.bytes:Int)*f > 2 ^ 48):=by grind
   have I:¬(m<0):=by omega
   have J:¬(m > f):=by omega
   have K:¬(f.toNat*inf.bytes > roomBytes):=by
    grind [roomBytes]
   have X:(2:Int) ^ 48=281474976710656:=by decide
   simp only[execOp,ho,<-ha.now,<-u.now,aC,Instr.makeSlice,Nc,ku hu,N9,asInt,asIntOf,B7,typeInfo,run_program,E,w1,w2]
   by_cases s:f.toNat*n=0
   .have g:(I5 f.toNat r.cells.toList).flatten.toArray = #[]:=by rw[<-a,s,show Cx 0 = #[]from rfl,Array.map_empty]
    simp only[F,G,I,J,K,s,askRoom,g,JP,Bool.or_self,ja,ww,uE,Nc,B7,N9,vA hs,show Cx 0 = #[]from rfl,Array.map_empty];simp[newRow]
   .simp only[F,G,I,J,K,s,askRoom,JP,Bool.or_self,ja,ww,Nc,B7,N9,vA hs,C,a];simp[newRow]
 grind
end
end Go.Am
