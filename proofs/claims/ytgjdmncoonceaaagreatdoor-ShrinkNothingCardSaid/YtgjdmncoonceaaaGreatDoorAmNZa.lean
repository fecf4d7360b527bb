import GoSem.Step
import Derived.CallsIn
import Derived.WalkKit
import Derived.WalkLawsBesides
import Derived.Lib.Strings
import Derived.Lib.Bytealg
import Derived.DeepKeys3
import Derived.Laws.Cover3
import Derived.Laws.Pointers
import Derived.Room.MakeNoZero
import Derived.Laws.IdiomStrings
set_option linter.defProp false
set_option linter.unusedVariables false
set_option linter.unusedSimpArgs false
open Array renaming range→Cq,toArray_toList→C6
open BitVec renaming ofInt→BD
open Bool renaming eq_iff_iff→Cf,false→B2,true→B4
open Go renaming Op→Cn,IntKind→P0,MapEntry→Bg,Oper→PI,Operand→Mx,Program→Kb,TypeId→ME,Value→M9,World→NU
open Go.Addr.mk renaming injEq→C1
open Go.Builtin renaming len_→D2
open Go.Deferred renaming ofValue→BU
open Go.Instr renaming checkKey→BV,findAsking→BK,findKey→Ct,findNow→CZ,lookup→CQ,sliceBounds→BF,sureAddr→C7
open Go.Op renaming equal→Cy,equalIn→BH
open Go.Region renaming before→CF
open Go.Result renaming andThen_ok→Nc
open Go.Sem renaming run_bind→Nq,run_pure→B6
open Go.Value.slice renaming injEq→BR
open List renaming range→N8,rec→An,replicate→Jm
open Nat renaming beq→J2,ble→Oc,blt→PE
open Option renaming none→B5,some→B1
open UInt8 renaming ofNat→BT
namespace Go.Am
theorem qj:type_of% @Option.bind_eq_some_iff:=@Option.bind_eq_some_iff
def qk:type_of% @Option.some.injEq:=@Option.some.injEq
def qm:type_of% @Nat.le_refl:=@Nat.le_refl
def qn:type_of% @Nat.lt_of_lt_of_le:=@Nat.lt_of_lt_of_le
def qo:type_of% @List.getElem?_eq_some_iff:=@List.getElem?_eq_some_iff
def qr:type_of% @Option.bind_some:=@Option.bind_some
def qv:type_of% @List.length_append:=@List.length_append
def qy:type_of% @if_neg:=@if_neg
def xb:type_of% @eq_true:=@eq_true
def xf:type_of% @List.getElem?_eq_getElem:=@List.getElem?_eq_getElem
def xg:type_of% @if_pos:=@if_pos
def xm:type_of% @List.getElem?_map:=@List.getElem?_map
def xr:type_of% @List.length_map:=@List.length_map
theorem xt:type_of% @Option.map_eq_some_iff:=@Option.map_eq_some_iff
def xu:type_of% @cond_true:=@cond_true
def xw:type_of% @List.length_set:=@List.length_set
def xy:type_of% @Nat.le_trans:=@Nat.le_trans
def xz:type_of% @Nat.zero_le:=@Nat.zero_le
def x9:type_of% @Nat.lt_or_ge:=@Nat.lt_or_ge
def za:type_of% @List.getElem?_set_self:=@List.getElem?_set_self
def ze:type_of% @Bool.and_eq_true:=@Bool.and_eq_true
def zf:type_of% @List.getElem?_set_ne:=@List.getElem?_set_ne
def zg:type_of% @List.mem_of_getElem?:=@List.mem_of_getElem?
def zh:type_of% @List.take_of_length_le:=@List.take_of_length_le
def zj:type_of% @Prod.mk.injEq:=@Prod.mk.injEq
def zm:type_of% @List.append_nil:=@List.append_nil
def zn:type_of% @cond_false:=@cond_false
def zo:type_of% @List.getElem?_cons_zero:=@List.getElem?_cons_zero
def zp:type_of% @Classical.byContradiction:=@Classical.byContradiction
def zq:type_of% @Bool.false_eq_true:=@Bool.false_eq_true
def zt:type_of% @Nat.lt_succ_self:=@Nat.lt_succ_self
def zu:type_of% @List.length_range:=@List.length_range
def zw:type_of% @List.getD_eq_getElem?_getD:=@List.getD_eq_getElem?_getD
def zx:type_of% @List.length_replicate:=@List.length_replicate
def zy:type_of% @List.length_eq_zero_iff:=@List.length_eq_zero_iff
def zz:type_of% @List.length_cons:=@List.length_cons
def z7:type_of% @Bool.and_self:=@Bool.and_self
def z8:type_of% @List.cons.injEq:=@List.cons.injEq
def jc:type_of% @List.getElem?_cons_succ:=@List.getElem?_cons_succ
def jd:type_of% @List.getElem?_append_right:=@List.getElem?_append_right
def je:type_of% @List.append_assoc:=@List.append_assoc
def ji:type_of% @List.mem_append:=@List.mem_append
def jm:type_of% @Int.eq_ofNat_of_zero_le:=@Int.eq_ofNat_of_zero_le
def jp:type_of% @List.nil_append:=@List.nil_append
def jq:type_of% @List.length_take:=@List.length_take
def jr:type_of% @List.flatMap_append:=@List.flatMap_append
def js:type_of% @List.getElem?_eq_none:=@List.getElem?_eq_none
theorem jt:type_of% @List.drop_eq_nil_of_le:=@List.drop_eq_nil_of_le
def jw:type_of% @List.getElem?_range:=@List.getElem?_range
def jx:type_of% @Nat.le_succ:=@Nat.le_succ
def jy:type_of% @List.mem_singleton:=@List.mem_singleton
def jz:type_of% @List.flatMap_cons:=@List.flatMap_cons
def j6:type_of% @List.length_nil:=@List.length_nil
def j9:type_of% @List.length_drop:=@List.length_drop
theorem ke:type_of% @Nat.beq_eq:=@Nat.beq_eq
def kh:type_of% @List.map_cons:=@List.map_cons
def kj:type_of% @List.mem_cons:=@List.mem_cons
def kq:type_of% @Iff.rfl:=@Iff.rfl
def kr:type_of% @decide_eq_false:=@decide_eq_false
def ku:type_of% @List.take_add_one:=@List.take_add_one
def ya:type_of% @Nat.mul_le_mul_right:=@Nat.mul_le_mul_right
def yd:type_of% @decide_eq_true:=@decide_eq_true
def yf:type_of% @Nat.zero_add:=@Nat.zero_add
def ym:type_of% @List.ext_getElem?:=@List.ext_getElem?
def yq:type_of% @Option.bind_assoc:=@Option.bind_assoc
theorem yr:type_of% @List.take_append_drop:=@List.take_append_drop
def yv:type_of% @List.drop_zero:=@List.drop_zero
def yw:type_of% @List.getElem?_append_left:=@List.getElem?_append_left
def yx:type_of% @List.take_zero:=@List.take_zero
def yz:type_of% @Nat.add_mul:=@Nat.add_mul
def vk:type_of% @List.take_append_of_le_length:=@List.take_append_of_le_length
def vm:type_of% @Option.getD_some:=@Option.getD_some
def vq:type_of% @Nat.add_zero:=@Nat.add_zero
theorem vr:type_of% @Nat.succ_mul:=@Nat.succ_mul
def vx:type_of% @List.mem_cons_self:=@List.mem_cons_self
def vy:type_of% @Option.isSome_some:=@Option.isSome_some
def vz:type_of% @List.eq_of_mem_replicate:=@List.eq_of_mem_replicate
def wg:type_of% @Array.getElem?_toList:=@Array.getElem?_toList
def wh:type_of% @List.drop_length_add_append:=@List.drop_length_add_append
def wq:type_of% @Classical.not_not:=@Classical.not_not
def wv:type_of% @Nat.add_assoc:=@Nat.add_assoc
def HW:type_of% @List.getElem?_drop:=@List.getElem?_drop
def pq:type_of% @if_false:=@if_false
def FV:type_of% @List.all_eq_true:=@List.all_eq_true
def vQ:type_of% @Int.le_refl:=@Int.le_refl
def JP:type_of% @Int.toNat_of_nonneg:=@Int.toNat_of_nonneg
def Hi:type_of% @Int.toNat_natCast:=@Int.toNat_natCast
theorem ue:type_of% @Nat.ble_eq:=@Nat.ble_eq
theorem Ln:type_of% @Nat.eq_of_beq_eq_true:=@Nat.eq_of_beq_eq_true
def Jl:type_of% @List.getElem?_take:=@List.getElem?_take
def N6:type_of% @Nat.add_sub_cancel_left:=@Nat.add_sub_cancel_left
def nG:type_of% @Ne.symm:=@Ne.symm
def FI:type_of% @Option.map_some:=@Option.map_some
def LH:type_of% @List.getElem?_of_mem:=@List.getElem?_of_mem
theorem Hk:type_of% @List.drop_append:=@List.drop_append
def As:type_of% @Nat.zero_mul:=@Nat.zero_mul
theorem Gk:type_of% @List.drop_drop:=@List.drop_drop
def II:type_of% @Bool.or_eq_true:=@Bool.or_eq_true
def Ba:type_of% @List.map_map:=@List.map_map
def Nr:type_of% @List.set_append_right:=@List.set_append_right
def J1:type_of% @List.cons_append:=@List.cons_append
def OA:type_of% @List.mem_cons_of_mem:=@List.mem_cons_of_mem
theorem yN:type_of% @Nat.blt_eq:=@Nat.blt_eq
theorem Te:type_of% @Array.getD_eq_getD_getElem?:=@Array.getD_eq_getD_getElem?
def Jg:type_of% @List.map_append:=@List.map_append
def Uj:type_of% @Array.getElem?_eq_some_iff:=@Array.getElem?_eq_some_iff
def Uo:type_of% @Int.tmod_eq_emod_of_nonneg:=@Int.tmod_eq_emod_of_nonneg
def Le:type_of% @List.take_length:=@List.take_length
def FD:type_of% @List.map_nil:=@List.map_nil
def F1:type_of% @List.mem_map:=@List.mem_map
def IJ:type_of% @Nat.lt_irrefl:=@Nat.lt_irrefl
def NN:type_of% @Option.isSome_none:=@Option.isSome_none
def uc:type_of% @and_true:=@and_true
def Uv:type_of% @Decidable.byContradiction:=@Decidable.byContradiction
def NF:type_of% @Nat.lt_succ_of_lt:=@Nat.lt_succ_of_lt
def Hj:type_of% @Nat.sub_self:=@Nat.sub_self
def SO:type_of% @List.getElem?_replicate:=@List.getElem?_replicate
def Qw:type_of% @List.replicate_succ:=@List.replicate_succ
def Ob:type_of% @List.mem_nil_iff:=@List.mem_nil_iff
def NX:type_of% @Nat.le_add_right:=@Nat.le_add_right
def M6:type_of% @List.mem_range:=@List.mem_range
def N7:type_of% @List.take_left':=@List.take_left'
def J5:type_of% @decide_false:=@decide_false
def uo:type_of% @eq_self:=@eq_self
def ux:type_of% @if_true:=@if_true
def Qu:type_of% @List.take_append:=@List.take_append
def HH:type_of% @Int.not_lt:=@Int.not_lt
def MN:type_of% @Nat.ne_of_lt:=@Nat.ne_of_lt
def LS:type_of% @Nat.mul_one:=@Nat.mul_one
def Ge:type_of% @true_and:=@true_and
inductive T(α:Type)where
 |nil
 |node (l:T α) (v:Option α) (r:T α)
noncomputable section
namespace T
variable{α:Type}
def l:T α->T α
 | .nil=>.nil
 | .node a _ _=>a
def r:T α->T α
 | .nil=>.nil
 | .node _ _ b=>b
def val:T α->Option α
 | .nil=>B5
 | .node _ v _=>v
def path(i:Nat):List Bool:=go i i
 where go:Nat->Nat->List Bool
 |0,_=>[]
 |f+1,i=>match i with
  |0=>[]
  |n+1=>J2 (Nat.mod n 2) 0::go f (Nat.div n 2)
def xW:List Bool->T α->Option α
 |[],t=>t.val
 |b::p,t=>xW p (cond b t.l t.r)
def fO(v:Option α):List Bool->T α->T α
 |[],t=>.node t.l v t.r
 |b::p,t=>cond b (.node (fO v p t.l) t.val t.r) (.node t.l t.val (fO v p t.r))
def get(t:T α)(i:Nat):Option α:=xW (path i) t
def put(t:T α)(i:Nat)(v:Option α):T α:=fO v (path i) t
def set(t:T α)(i:Nat)(v:α):T α:=t.put i (B1 v)
structure Get(α:Type)where
 run:T α->Option α
structure Put(α:Type)where
 run:Option α->T α->T α
def oV:List Bool->Get α
 |[]=>⟨val⟩
 |true::p=>⟨λ t=>(oV p).run t.l⟩
 |false::p=>⟨λ t=>(oV p).run t.r⟩
def Cv:List Bool->Put α
 |[]=>⟨λ v t=>.node t.l v t.r⟩
 |true::p=>⟨λ v t=>.node ((Cv p).run v t.l) t.val t.r⟩
 |false::p=>⟨λ v t=>.node t.l t.val ((Cv p).run v t.r)⟩
end T
def nth{α:Type}(l:List α):Nat->Option α :=
 An (motive:=λ _=>Nat->Option α) (λ _=>B5) (λ x _ ih i=>Nat.rec (motive:=λ _=>Option α) (B1 x) (λ n _=>ih n) i) l
def kB{α:Type}(a b:List α):List α:=An (motive:=λ _=>List α) b (λ x _ ih=>x::ih) a
def cQ{α:Type}(l:List α):Nat:=An (motive:=λ _=>Nat) 0 (λ _ _ ih=>ih+1) l
def QD{α:Type}:List α->List α
 |[]=>[]
 |_::l=>l
def di{α:Type}(n:Nat):List α->List α:=Nat.rec (motive:=λ _=>List α->List α) (λ l=>l) (λ _ ih l=>ih (QD l)) n
def CK{α:Type}(n:Nat):List α->Option (List α) :=
 Nat.rec (motive:=λ _=>List α->Option (List α)) (λ _=>B1 [])
  (λ _ ih l=>An (motive:=λ _=>Option (List α)) B5 (λ x t _=>(ih t).bind λ r=>B1 (x::r)) l) n
def yH{α:Type}(new:List α):List α->Option (List α) :=
 An (motive:=λ _=>List α->Option (List α)) (λ l=>B1 l)
  (λ x _ ih l=>An (motive:=λ _=>Option (List α)) B5 (λ _ t _=>(ih t).bind λ r=>B1 (x::r)) l) new
def putAt{α:Type}(o:Nat)(new:List α):List α->Option (List α) :=
 Nat.rec (motive:=λ _=>List α->Option (List α)) (λ l=>yH new l)
  (λ _ ih l=>An (motive:=λ _=>Option (List α)) B5 (λ x t _=>(ih t).bind λ r=>B1 (x::r)) l) o
def fR{α:Type}(l:List α)(o n:Nat):Option (List α):=CK n (di o l)
inductive mG where
 |func (f:Nat)
 |yield (l:Nat)
inductive AV where
 |bool (b:Bool)
 |int (k:P0) (n:Int)
 |str (s:List UInt8)
 |nilp
 |ptr (b o:Nat)
 |nils
 |slice (b o n c:Nat)
 |gslice (b i m size alt n:Nat)
 |eslice (b:Nat)
 |mH
 |map (b:Nat)
 |fn (f:mG) (first captured:List AV)
 |nilf
 |iface (t:Nat) (v:AV)
 |nili
 |agg (l:List AV)
 |tuple (l:List AV)
instance:Inhabited AV:=⟨.nili⟩
def AV.undef:AV:=.tuple []
def AV.cells:AV->List AV
 | .agg l=>l
 |v=>[v]
inductive bL where
 |tmp (t:Nat)
 |const (v:AV)
 |eH (g:Nat)
 |func (f:Nat)
inductive ep where
 |tmp (t:Nat)
 |kU (a:Nat)
 |cS (n:Nat) (a:Nat)
inductive ik where
 |exit (id:Nat)|goto (l:Nat)|ret
inductive ng where
 |ready|busy|done|exhausted
inductive aK where
 |iz (b:Nat)
 |fn (f:mG) (args:List AV)
inductive bF where
 |row (cells:List AV) (elem:Nat) (fz:Nat×Nat) (own:Bool)
 |grown (m size:Nat) (cells:List AV) (elem:Nat) (fz:Nat×Nat)
 |map (es:List (AV×AV×Nat)) (clock:Nat)
 |mA (s:List UInt8) (pos:Nat)
 |loop (st:ng) (pend:Option ik) (fn k:Nat) (tm:T AV) (defers:Nat)
 |deferred (calls:Option (List aK))
structure ar where
 t:T bF
 au:Nat
namespace ar
def get(H:ar)(b:Nat):Option bF:=H.t.get b
def set(H:ar)(b:Nat)(o:bF):ar:={H with t:=H.t.set b o}
def alloc(H:ar)(o:bF):ar:={t:=H.t.set H.au o,au:=H.au+1}
def kill(H:ar)(b:Nat):ar:={H with t:=H.t.put b B5}
def bV(H:ar)(b:Nat):Option (List AV) :=
 match H.get b with
 |some (.row c _ _ _)=>B1 c
 |some (.grown _ _ c _ _)=>B1 c
 |_=>B5
end ar
def ar.ae(H:ar)(b o:Nat):Option AV:=(H.bV b).bind λ l=>nth l o
def ar.fk(H:ar)(b:Nat):Option (List (AV×AV×Nat)×Nat) :=
 match H.get b with
 |some (.map es c)=>B1 (es,c)
 |_=>B5
def ar.aq(H:ar)(b o n:Nat):Option (List AV):=(H.bV b).bind λ l=>fR l o n
def dB(fz:Nat×Nat)(o n:Nat):Bool:=Oc (o+n) fz.1 ||Oc fz.2 o
def aB:AV->Bool
 | .agg _| .tuple _=>B2
 |_=>B4
def aN(l:List AV):Bool:=An (motive:=λ _=>Bool) B4 (λ x _ ih=>cond (aB x) ih B2) l
def ar.store(H:ar)(b o:Nat)(new:List AV):Option ar :=
 cond (aN new) (match H.get b with
  |some (.row c e fz B4)=>cond (dB fz o (cQ new)) ((putAt o new c).bind λ c'=>B1 (H.set b (.row c' e fz B4))) B5
  |some (.grown m s c e fz)=>cond (dB fz o (cQ new)) ((putAt o new c).bind λ c'=>B1 (H.set b (.grown m s c' e fz))) B5
  |_=>B5) B5
def rX(tm:T AV):bL->Option AV
 | .tmp t=>tm.get t
 | .const v=>B1 v
 | .eH g=>B1 (.ptr g 0)
 | .func f=>B1 (.fn (.func f) [] [])
def mF(tm:T AV):List bL->Option (List AV)
 |[]=>B1 []
 |x::xs=>(rX tm x).bind λ v=>(mF tm xs).bind λ vs=>B1 (v::vs)
structure Ev where
 run:T AV->Option AV
structure Evs where
 run:T AV->Option (List AV)
def Nv:bL->Ev
 | .tmp t=>⟨(T.oV (T.path t)).run⟩
 | .const v=>⟨λ _=>B1 v⟩
 | .eH g=>⟨λ _=>B1 (.ptr g 0)⟩
 | .func f=>⟨λ _=>B1 (.fn (.func f) [] [])⟩
def uP:List bL->Evs
 |[]=>⟨λ _=>B1 []⟩
 |[x]=>⟨λ tm=>((Nv x).run tm).bind λ v=>B1 [v]⟩
 |x::xs=>⟨λ tm=>((Nv x).run tm).bind λ v=>((uP xs).run tm).bind λ vs=>B1 (v::vs)⟩
def vO(a b:Int):Bool:=match a,b with
 | .ofNat m,.ofNat n=>Oc m n
 | .ofNat _,.negSucc _=>B2
 | .negSucc _,.ofNat _=>B4
 | .negSucc m,.negSucc n=>Oc n m
def AO(a b:Int):Bool:=!vO b a
def uG(a b:Int):Bool:=match a,b with
 | .ofNat m,.ofNat n=>J2 m n
 | .negSucc m,.negSucc n=>J2 m n
 |_,_=>B2
def kS:P0->Nat
 | .i8=>0| .i16=>1| .i32=>2| .i64=>3| .u8=>4| .u16=>5| .u32=>6| .u64=>7
def tV(a b:P0):Bool:=J2 (kS a) (kS b)
def Fp(a b:UInt8):Bool:=J2 a.toNat b.toNat
def AY:List UInt8->List UInt8->Bool
 |[],[]=>B4
 |a::x,b::y=>cond (Fp a b) (AY x y) B2
 |_,_=>B2
inductive aR where
 |int|str|bool
 |nil
 |part (off:Nat) (n:Option Nat) (t rest:aR)
def partAt(l:List AV)(off:Nat):Option Nat->Option AV
 |none=>nth l off
 |some k=>(fR l off k).bind λ c=>B1 (.agg c)
def bm:aR->AV->AV->Option Bool
 | .int,.int k a,.int k' b=>cond (tV k k') (B1 (uG a b)) B5
 | .str,.str a,.str b=>B1 (AY a b)
 | .bool,.bool a,.bool b=>B1 (a == b)
 | .nil,.agg _,.agg _=>B1 B4
 | .part off n t rest,.agg x,.agg y=>(partAt x off n).bind λ a=>(partAt y off n).bind λ b=>(bm t a b).bind λ q =>
  cond q (bm rest (.agg x) (.agg y)) (B1 B2)
 |_,_,_=>B5
def db:aR->AV->Bool
 | .int,.int _ _=>B4
 | .str,.str _=>B4
 | .bool,.bool _=>B4
 | .nil,.agg _=>B4
 | .part off n t rest,.agg x=>match partAt x off n with
  |some a=>cond (db t a) (db rest (.agg x)) B2
  |none=>B2
 |_,_=>B2
def bytesLess:List UInt8->List UInt8->Bool
 |_,[]=>B2
 |[],_::_=>B4
 |a::x,b::y=>PE a.toNat b.toNat ||(Fp a b && bytesLess x y)
def rI(op:BinOp)(a b:List UInt8):Option AV :=
 match op with
 | .add=>cond (Oc (a.length+b.length) 140737488355328) (B1 (.str (a++b))) B5
 | .eql=>B1 (.bool (AY a b))
 | .neq=>B1 (.bool (!(AY a b)))
 | .lss=>B1 (.bool (bytesLess a b))
 | .leq=>B1 (.bool (bytesLess a b ||AY a b))
 | .gtr=>B1 (.bool (!(bytesLess a b ||AY a b)))
 | .geq=>B1 (.bool (!bytesLess a b))
 |_=>B5
def aj(k:P0)(n:Int):Int:=k.wrap n
def gK(op:BinOp)(k:P0)(a b:Int):Option AV :=
 match op with
 | .add=>B1 (.int k (aj k (a+b)))
 | .sub=>B1 (.int k (aj k (a-b)))
 | .mul=>B1 (.int k (aj k (a*b)))
 | .quo=>cond (uG b 0) B5 (B1 (.int k (aj k (a.tdiv b))))
 | .rem=>cond (uG b 0) B5 (B1 (.int k (a.tmod b)))
 | .and=>B1 (.int k (aj k ((BD k.bits a &&& BD k.bits b).toNat)))
 | .or=>B1 (.int k (aj k ((BD k.bits a |||BD k.bits b).toNat)))
 | .xor=>B1 (.int k (aj k ((BD k.bits a ^^^ BD k.bits b).toNat)))
 | .andNot=>B1 (.int k (aj k ((BD k.bits a &&& ~~~(BD k.bits b)).toNat)))
 | .eql=>B1 (.bool (uG a b))
 | .neq=>B1 (.bool (!uG a b))
 | .lss=>B1 (.bool (AO a b))
 | .leq=>B1 (.bool (vO a b))
 | .gtr=>B1 (.bool (AO b a))
 | .geq=>B1 (.bool (vO b a))
 |_=>B5
inductive xE where
 |bool|ptr|slice|map|func|iface
 |ifaces (f:Nat->Option aR)
 |agg (t:aR)
def sW(isNil isSome:AV->Bool)(x y:AV):Option Bool :=
 cond (isNil x) (cond (isNil y) (B1 B4) (cond (isSome y) (B1 B2) B5)) (cond (isSome x && isNil y) (B1 B2) B5)
def EB:AV->Bool
 | .nils=>B4
 |_=>B2
def isSlice:AV->Bool
 | .slice ..=>B4
 | .gslice ..=>B4
 | .eslice _=>B4
 |_=>B2
def EN:AV->Bool
 | .mH=>B4
 |_=>B2
def isMap:AV->Bool
 | .map _=>B4
 |_=>B2
def Fx:AV->Bool
 | .nilf=>B4
 |_=>B2
def PM:AV->Bool
 | .fn ..=>B4
 |_=>B2
def EV:AV->Bool
 | .nili=>B4
 |_=>B2
def isIface:AV->Bool
 | .iface ..=>B4
 |_=>B2
def zB(H:ar)(b b':Nat):Bool :=
 match H.get b,H.get b' with
 |some (.row _ _ (0,0) B4),B1 (.row (_::_) _ _ _)=>B4
 |some (.row (_::_) _ _ _),B1 (.row _ _ (0,0) B4)=>B4
 |_,_=>B2
def t9(op:BinOp)(k:P0)(a b:Int):Option AV :=
 cond (AO b 0) B5 (match op with
  | .shl=>B1 (.int k (aj k (a*2 ^ (min b.toNat k.bits))))
  |_=>B1 (.int k (a.fdiv (2 ^ (min b.toNat k.bits)))))
def d9:BinOp->Bool
 | .shl| .shr=>B4
 |_=>B2
def Ka(H:ar):xE->AV->AV->Option Bool
 | .bool,.bool a,.bool b=>B1 (a == b)
 | .ptr,.nilp,.nilp=>B1 B4
 | .ptr,.nilp,.ptr _ _=>B1 B2
 | .ptr,.ptr _ _,.nilp=>B1 B2
 | .ptr,.ptr b o,.ptr b' o'=>cond (J2 b b') (B1 (J2 o o')) (cond (zB H b b') (B1 B2) B5)
 | .slice,x,y=>sW EB isSlice x y
 | .map,x,y=>sW EN isMap x y
 | .func,x,y=>sW Fx PM x y
 | .iface,x,y=>sW EV isIface x y
 | .ifaces f,.iface t a,.iface u b=>cond (J2 t u) ((f t).bind λ q=>bm q a b) (B1 B2)
 | .ifaces _,.nili,.iface _ _=>B1 B2
 | .ifaces _,.iface _ _,.nili=>B1 B2
 | .agg t,x,y=>bm t x y
 |_,_,_=>B5
def nI(op:BinOp)(x y:AV):Option AV :=
 match x,y with
 | .int k a,.int k' b=>cond (d9 op) (t9 op k a b) (cond (tV k k') (gK op k a b) B5)
 | .str a,.str b=>rI op a b
 |_,_=>B5
def S1(op:UnOp)(x:AV):Option AV :=
 match op,x with
 | .neg,.int k n=>B1 (.int k (aj k (0-n)))
 | .xor,.int k n=>gK .xor k (if k.signed then -1 else k.max) n
 | .not,.bool b=>B1 (.bool (!b))
 |_,_=>B5
def jA(cells:List AV):List (Nat×Nat)->List AV->Option (List AV)
 |[],[]=>B1 cells
 |(off,size)::ps,v::vs=>cond (J2 (cQ v.cells) size) ((putAt off v.cells cells).bind λ c=>jA c ps vs) B5
 |_,_=>B5
def fK(n:Nat)(z:List AV):List AV :=
 match n with
 |0=>[]
 |n+1=>kB z (fK n z)
def within(i:Int)(n:Nat):Option Nat:=match i with
 | .ofNat k=>cond (PE k n) (B1 k) B5
 | .negSucc _=>B5
def arg(vs:List AV):Option Nat->Option (Option AV)
 |none=>B1 B5
 |some i=>(nth vs i).bind λ v=>B1 (B1 v)
def bound(v:Option AV)(d mx:Nat):Option Nat :=
 match v with
 |none=>B1 d
 |some (.int _ (.ofNat i))=>cond (Oc i mx) (B1 i) B5
 |_=>B5
def df(size:Nat)(x:AV)(lo hi mx:Option AV):Option AV :=
 match x with
 | .nils=>match mx with
  |none=>(bound hi 0 0).bind λ h=>(bound lo 0 h).bind λ _=>B1 .nils
  |some _=>B5
 | .slice b o n c=>match mx,hi with
  |some _,B5=>B5
  |mx,hi=>(bound mx c c).bind λ m=>(bound hi n m).bind λ h=>(bound lo 0 h).bind λ l =>
   B1 (.slice b (cond (J2 m l) o (o+l*size)) (h-l) (m-l))
 | .gslice b i m s alt n =>
  cond (J2 s size && Oc i m) (match mx,hi with
   |none,hi=>(bound hi n (m-i)).bind λ h=>(bound lo 0 h).bind λ l =>
    cond (Oc h (m-i)) (B1 (.gslice b (i+l) m s (cond (J2 l 0) alt (i*s)) (h-l))) B5
   |some _,B5=>B5
   |mx,hi=>(bound mx 0 (m-i)).bind λ x=>(bound hi 0 x).bind λ h=>(bound lo 0 h).bind λ l =>
    cond (J2 x l) B5 (B1 (.slice b ((i+l)*s) (h-l) (x-l)))) B5
 | .eslice b=>match mx with
  |none=>(bound hi 0 0).bind λ h=>(bound lo 0 h).bind λ _=>B1 (.eslice b)
  |some _=>B5
 |_=>B5
def eJ:AV->Option Nat
 | .str s=>B1 (cQ s)
 | .nils=>B1 0
 | .slice _ _ n _=>B1 n
 | .gslice _ _ _ _ _ n=>B1 n
 | .eslice _=>B1 0
 |_=>B5
def elemAt(size:Nat)(x:AV)(j:Nat):Option (Nat×Nat) :=
 match x with
 | .slice b o n _=>cond (PE j n) (B1 (b,o+j*size)) B5
 | .gslice b i m s _ n=>cond (PE j n && J2 s size && PE (i+j) m) (B1 (b,i*s+j*s)) B5
 |_=>B5
def firstCells(H:ar)(size n:Nat)(x:AV):Option (List AV) :=
 match x with
 | .nils=>B1 []
 | .str s=>cond (J2 size 1) (B1 ((s.take n).map λ b=>.int .u8 b.toNat)) B5
 | .slice b o _ _=>cond (J2 n 0) (B1 []) (H.aq b o (n*size))
 | .gslice b i m s _ _=>cond (J2 n 0) (B1 []) (cond (J2 s size && PE i m) (H.aq b (i*s) (n*size)) B5)
 | .eslice _=>cond (J2 n 0) (B1 []) B5
 |_=>B5
def eW(n:Int):AV:=.int .i64 n
def findKey(t:aR)(k:AV):List (AV×AV×Nat)->Nat->Option (Option (Nat×AV))
 |[],_=>B1 B5
 |(k',v,_)::es,i=>(bm t k k').bind λ q=>cond q (B1 (B1 (i,v))) (findKey t k es (i+1))
def GP(c:UInt8):List UInt8->Nat->Option Nat
 |[],_=>B5
 |x::l,i=>cond (Fp x c) (B1 i) (GP c l (i+1))
def xN(c:UInt8):List UInt8->Nat
 |[]=>0
 |x::l=>cond (Fp x c) (xN c l+1) (xN c l)
def byteOf:AV->Option UInt8
 | .int .u8 n=>B1 (BT n.toNat)
 |_=>B5
def bytesOf:List AV->Option (List UInt8)
 |[]=>B1 []
 |x::l=>(byteOf x).bind λ b=>(bytesOf l).bind λ r=>B1 (b::r)
def fits(n bytes:Nat):Bool:=Oc (n*bytes) 140737488355328 && Oc n 140737488355328
def dD(H:ar)(e size n:Nat)(cells:List AV)(fz:Nat×Nat):AV×ar :=
 (.gslice H.au 0 n size 0 n,H.alloc (.grown n size cells e fz))
def cN(H:ar)(e size bytes:Nat)(s:AV)(n:Nat)(new:List AV):Option (AV×ar) :=
 match s with
 | .nils=>cond (J2 n 0) (B1 (.nils,H)) (cond (fits n bytes && PE 0 size) (B1 (dD H e size n new (0,0))) B5)
 | .slice b o len c =>
  cond (Oc (len+n) c)
   (cond (J2 n 0) (B1 (.slice b o (len+n) c,H)) ((H.store b (o+len*size) new).bind λ H'=>B1 (.slice b o (len+n) c,H')))
   (cond (fits (len+n) bytes && Oc c (len+n) && PE 0 size)
    ((firstCells H size len (.slice b o len c)).bind λ old=>B1 (dD H e size (len+n) (kB old new) (0,0))) B5)
 | .gslice b i m sz alt len =>
  cond (J2 n 0) (cond (Oc (i+len) m) (B1 (.gslice b i m sz alt len,H)) B5) (cond (J2 sz size && Oc (i+len) m && PE 0 size)
   (cond (Oc (i+len+n) m)
    ((H.store b ((i+len)*size) new).bind λ H'=>B1 (.gslice b i m sz alt (len+n),H'))
    (cond (fits (len+n) bytes) (match H.get b with
     |some (.grown m' sz' c e' fz) =>
      cond (J2 m m' && J2 sz sz' && J2 e' e)
       (cond (J2 i 0 && J2 len m && Oc fz.2 (m*size)) (B1 (dD (H.kill b) e size (len+n) (kB c new) fz)) (cond (Oc fz.2 (i*size))
        ((fR c (i*size) (len*size)).bind λ old=>B1 (dD (H.kill b) e size (len+n) (kB old new) (cond (J2 fz.1 fz.2) (0,0) (1,0))))
        (cond (J2 i 0 && Oc fz.2 (len*size))
         ((fR c 0 (len*size)).bind λ old=>B1 (dD (H.kill b) e size (len+n) (kB old new) fz)) B5))) B5
     |_=>B5) B5)) B5)
 |_=>B5
namespace Op
def fail:List AV->Option AV:=λ _=>B5
def move:List AV->Option AV
 |[v]=>B1 v
 |_=>B5
def pick:List AV->Option AV
 |[.bool q,a,b]=>B1 (cond q a b)
 |_=>B5
def build(zero:List AV)(places:List (Nat×Nat))(vs:List AV):Option AV :=
 (jA zero places vs).bind λ c=>B1 (.agg c)
def nilCheck:List AV->Option AV
 |[.nilp]|[.nili]|[.nilf]=>B5
 |[.fn (.func f) a b]=>B1 (.fn (.func f) a b)
 |[.fn _ _ _]=>B5
 |[v]=>B1 v
 |_=>B5
def bin(op:BinOp):List AV->Option AV
 |[x,y]=>nI op x y
 |_=>B5
def eq(t:xE)(neg:Bool):List AV->ar->Option AV
 |[x,y],H=>(Ka H t x y).bind λ q=>B1 (.bool (cond neg (!q) q))
 |_,_=>B5
def un(op:UnOp):List AV->Option AV
 |[x]=>S1 op x
 |_=>B5
def wrap(k:P0):List AV->Option AV
 |[.int _ n]=>B1 (.int k (aj k n))
 |_=>B5
def dO:List AV->Option AV
 |[.int _ n]=>cond (vO 0 n && AO n 128) (B1 (.str [BT n.toNat])) B5
 |_=>B5
def eQ:List AV->Option AV
 |[.str s]=>B1 (.str s)
 |_=>B5
def dF(t:Nat):List AV->Option AV
 |[v]=>B1 (.iface t v)
 |_=>B5
def bt(f nf:Nat)(l:List AV):Option AV:=B1 (.fn (.func f) (l.take nf) (l.drop nf))
def dQ:List (Option Nat)->List AV->Option AV
 |[lo,hi],.str s::vs =>
  (arg vs hi).bind λ b=>(arg vs lo).bind λ a=>(bound b s.length s.length).bind λ h=>(bound a 0 h).bind λ l=>B1 (.str ((s.take h).drop l))
 |_,_=>B5
def aA(size:Nat):List (Option Nat)->List AV->Option AV
 |[lo,hi,mx],x::vs=>(arg vs lo).bind λ a=>(arg vs hi).bind λ b=>(arg vs mx).bind λ m=>df size x a b m
 |_,_=>B5
def cP(n size:Nat):List (Option Nat)->List AV->Option AV
 |[lo,hi,mx],.ptr p o::vs=>(arg vs lo).bind λ a=>(arg vs hi).bind λ b=>(arg vs mx).bind λ m=>df size (.slice p o n n) a b m
 |_,_=>B5
def fieldAddr(off:Nat):List AV->Option AV
 |[.ptr b o]=>B1 (.ptr b (o+off))
 |_=>B5
def field(off:Nat)(n:Option Nat):List AV->Option AV
 |[.agg l]=>partAt l off n
 |_=>B5
def aQ(size:Nat):List AV->Option AV
 |[x,.int _ j]=>(eJ x).bind λ n=>(within j n).bind λ k=>(elemAt size x k).bind λ p=>B1 (.ptr p.1 p.2)
 |_=>B5
def aU(len size:Nat):List AV->Option AV
 |[.ptr b o,.int _ j]=>(within j len).bind λ k=>B1 (.ptr b (o+k*size))
 |_=>B5
def bG(len size:Nat)(n:Option Nat):List AV->Option AV
 |[.agg l,.int _ j]=>(within j len).bind λ k=>partAt l (k*size) n
 |_=>B5
def bO:List AV->Option AV
 |[.str s,.int _ j]=>(within j s.length).bind λ k=>(nth s k).bind λ b=>B1 (.int .u8 b.toNat)
 |_=>B5
def typeAssert(t:Nat)(ok:Bool)(zero:AV):List AV->Option AV
 |[.nili]=>cond ok (B1 (.tuple [zero,.bool B2])) B5
 |[.iface u v]=>cond (J2 u t) (B1 (cond ok (.tuple [v,.bool B4]) v)) (cond ok (B1 (.tuple [zero,.bool B2])) B5)
 |_=>B5
def extract(i:Nat):List AV->Option AV
 |[.tuple l]=>nth l i
 |_=>B5
def fA:List AV->Option AV
 |[.str s]=>B1 (eW (cQ s))
 |_=>B5
def ct:List AV->Option AV
 |[.nils]=>B1 (eW 0)
 |[.slice _ _ n _]=>B1 (eW n)
 |[.gslice _ _ _ _ _ n]=>B1 (eW n)
 |[.eslice _]=>B1 (eW 0)
 |_=>B5
def oR(n:Nat):List AV->Option AV
 |[_]=>B1 (eW n)
 |_=>B5
def cap:List AV->Option AV
 |[.nils]=>B1 (eW 0)
 |[.slice _ _ _ c]=>B1 (eW c)
 |_=>B5
def iD(mx:Bool):Int->List AV->Option Int
 |a,[]=>B1 a
 |a,.int _ b::l=>iD mx (cond mx (cond (AO a b) b a) (cond (AO b a) b a)) l
 |_,_=>B5
def eV(mx:Bool):List AV->Option AV
 | .int k a::l=>(iD mx a l).bind λ r=>B1 (.int k r)
 |_=>B5
def dk:List AV->Option AV
 |[.nils]=>B1 .nilp
 |[.slice b o _ c]=>cond (J2 c 0) B5 (B1 (.ptr b o))
 |[.gslice b i m s _ _]=>cond (PE i m) (B1 (.ptr b (i*s))) B5
 |_=>B5
def dM:List AV->Option AV
 |[x]=>B1 x
 |_=>B5
def aE:List AV->Option AV
 |[.str s,.int .u8 c]=>B1 (eW (match GP (BT c.toNat) s 0 with|some i=>i|none=>-1))
 |_=>B5
def bS:List AV->Option AV
 |[.str s,.int .u8 c]=>B1 (eW (Int.ofNat (xN (BT c.toNat) s)))
 |_=>B5
def ae:List AV->ar->Option AV
 |[.ptr b o],H=>H.ae b o
 |_,_=>B5
def aq(n:Nat):List AV->ar->Option AV
 |[.ptr b o],H=>(H.aq b o n).bind λ l=>B1 (.agg l)
 |_,_=>B5
def cG:List AV->ar->Option AV
 |[.str _],_=>B5
 |[v],H=>(eJ v).bind λ n=>(firstCells H 1 n v).bind λ l=>(bytesOf l).bind λ s=>B1 (.str s)
 |_,_=>B5
def lookup(key:aR)(zero:AV)(ok:Bool):List AV->ar->Option AV
 |[.mH,k],_=>cond (db key k) (B1 (cond ok (.tuple [zero,.bool B2]) zero)) B5
 |[.map b,k],H=>cond (db key k) ((H.fk b).bind λ m=>(findKey key k m.1 0).bind λ r=>match r with
  |some p=>B1 (cond ok (.tuple [p.2,.bool B4]) p.2)
  |none=>B1 (cond ok (.tuple [zero,.bool B2]) zero)) B5
 |_,_=>B5
def gH:List AV->ar->Option AV
 |[.mH],_=>B1 (eW 0)
 |[.map b],H=>(H.fk b).bind λ m=>B1 (eW m.1.length)
 |_,_=>B5
def eL(lies:Nat->Nat->Nat->Bool):List AV->ar->Option AV
 |[.nilp],_=>B1 .nilp
 |[.ptr b o],H=>match H.get b with
  |some (.row c e _ B4)=>cond (lies e c.length o) (B1 (.ptr b o)) B5
  |_=>B5
 |_,_=>B5
def ptrTo(b:Nat):AV:=.ptr b 0
def alloc(e:Nat)(zero:List AV):List AV->Option (bF×(Nat->AV))
 |[]=>B1 (.row zero e (0,0) B4,ptrTo)
 |_=>B5
def box(e:Nat):List AV->Option (bF×(Nat->AV))
 |[v]=>B1 (.row v.cells e (0,0) B4,ptrTo)
 |_=>B5
def sliceTo(n m:Nat)(b:Nat):AV:=.slice b 0 n m
def buildSlice(e n:Nat)(zero:List AV)(places:List (Nat×Nat))(vs:List AV):Option (bF×(Nat->AV)) :=
 (jA (fK n zero) places vs).bind λ c=>B1 (.row c e (0,0) B4,sliceTo n n)
def mkMap:List AV->Option (bF×(Nat->AV))
 |[]=>B1 (.map [] 0,.map)
 |_=>B5
def mkSlice(e bytes:Nat)(zero:List AV):List AV->Option (bF×(Nat->AV))
 |[.int _ n,.int _ m]=>cond (vO 0 n && vO n m && vO (m*bytes) 140737488355328 && vO m 140737488355328)
  (B1 (.row (fK m.toNat zero) e (0,0) B4,sliceTo n.toNat m.toNat)) B5
 |_=>B5
def F4(m n:Nat)(b:Nat):AV:=.gslice b 0 m 1 0 n
def cH(e:Nat):List AV->Option (bF×(Nat->AV))
 |[.str s]=>cond (Oc s.length 140737488355328) (B1 (.grown s.length 1 (s.map λ b=>.int .u8 b.toNat) e (1,0),F4 s.length s.length)) B5
 |_=>B5
def dS:List AV->Option (bF×(Nat->AV))
 |[.str s]=>B1 (.mA s 0,ptrTo)
 |_=>B5
def makeNoZero(e:Nat):List AV->Option (bF×(Nat->AV))
 |[.int .i64 n]=>cond (vO 0 n && vO n 140737488355328) (B1 (.grown 0 1 [] e (0,0),F4 0 n.toNat)) B5
 |_=>B5
def store(n:Nat):List AV->ar->Option (AV×ar)
 |[.ptr b o,v],H=>cond (J2 (cQ v.cells) n) ((H.store b o v.cells).bind λ H'=>B1 (.undef,H')) B5
 |_,_=>B5
def uI:AV->AV->Bool
 | .int k a,.int k' b=>tV k k' && uG a b
 | .str a,.str b=>AY a b
 | .bool a,.bool b=>a == b
 |_,_=>B2
def fj:List AV->List AV->Bool
 |[],[]=>B4
 |a::x,b::y=>cond (uI a b) (fj x y) B2
 |_,_=>B2
def stays:AV->AV->Bool
 | .agg a,.agg b=>fj a b
 |a,b=>uI a b
def mapUpdate(key:aR):List AV->ar->Option (AV×ar)
 |[.map b,k,v],H=>cond (db key k) ((H.fk b).bind λ m=>(findKey key k m.1 0).bind λ r=>match r with
  |some p=>(nth m.1 p.1).bind λ e=>cond (stays e.1 k) (B1 (.undef,H.set b (.map (m.1.modify p.1 λ e=>(k,v,e.2.2)) m.2))) B5
  |none=>B1 (.undef,H.set b (.map (m.1 ++ [(k,v,m.2)]) (m.2+1)))) B5
 |_,_=>B5
def dm(key:aR):List AV->ar->Option (AV×ar)
 |[.mH,k],H=>cond (db key k) (B1 (.tuple [],H)) B5
 |[.map b,k],H=>cond (db key k) ((H.fk b).bind λ m=>(findKey key k m.1 0).bind λ r=>match r with
  |some p=>B1 (.tuple [],H.set b (.map (m.1.eraseIdx p.1) m.2))
  |none=>B1 (.tuple [],H.set b (.map m.1 m.2))) B5
 |_,_=>B5
def eT:List AV->ar->Option (AV×ar)
 |[.ptr b 0],H=>match H.get b with
  |some (.mA s p)=>match nth s p with
   |some c=>cond (PE c.toNat 128) (B1 (.tuple [.bool B4,eW p,.int .i32 c.toNat],H.set b (.mA s (p+1)))) B5
   |none=>B1 (.tuple [.bool B2],H)
  |_=>B5
 |_,_=>B5
def append(e size bytes:Nat):List AV->ar->Option (AV×ar)
 |[a,b],H=>(eJ b).bind λ n=>(firstCells H size n b).bind λ new=>cond (aN new) (cN H e size bytes a n new) B5
 |_,_=>B5
def copy(size:Nat):List AV->ar->Option (AV×ar)
 |[.str _,_],_=>B5
 |[d,r],H=>(eJ d).bind λ dn=>(eJ r).bind λ rn=>(firstCells H size (min rn dn) r).bind λ l =>
  cond (J2 (min rn dn) 0) (B1 (eW 0,H)) ((elemAt size d 0).bind λ p=>(H.store p.1 p.2 l).bind λ H'=>B1 (eW (min rn dn),H'))
 |_,_=>B5
def bQ(zero:List AV):List AV->ar->Option (AV×ar)
 |[.str _],_=>B5
 |[x],H=>(eJ x).bind λ n=>cond (J2 n 0) (B1 (.tuple [],H))
  ((elemAt zero.length x 0).bind λ p=>(H.store p.1 p.2 (fK n zero)).bind λ H'=>B1 (.tuple [],H'))
 |_,_=>B5
def bT:List AV->ar->Option (AV×ar)
 |[.mH],H=>B1 (.tuple [],H)
 |[.map b],H=>(H.fk b).bind λ m=>B1 (.tuple [],H.set b (.map [] m.2))
 |_,_=>B5
def xM(fz:Nat×Nat)(o n:Nat):Nat×Nat:=cond (J2 fz.1 fz.2) (o,o+n) (min fz.1 o,max fz.2 (o+n))
def eS:List AV->ar->Option (AV×ar)
 |[.slice b o n c],H=>match H.get b with
  |some (.row cs e fz B4)=>B1 (.slice b o n c,H.set b (.row cs e (xM fz (cQ cs) 1) B4))
  |_=>B5
 |_,_=>B5
def dP(u:Nat):List AV->ar->Option (AV×ar)
 |[.nilp,.int _ k],H=>cond (uG k 0) (B1 (.str [],H)) B5
 |[.ptr b o,.int _ k],H=>cond (uG k 0) (B1 (.str [],H)) (cond (AO k 0 ||AO 140737488355328 k) B5 (match H.get b with
  |some (.row c e fz B4)=>cond (J2 e u) ((fR c o k.toNat).bind λ l=>(bytesOf l).bind λ s=>B1 (.str s,H.set b (.row c e (xM fz o k.toNat) B4))) B5
  |some (.grown m z c e fz)=>cond (J2 e u && Oc fz.1 fz.2) ((fR c o k.toNat).bind λ l=>(bytesOf l).bind λ s=>B1 (.str s,H.set b (.grown m z c e (xM fz o k.toNat)))) B5
  |_=>B5))
 |_,_=>B5
end Op
inductive fI where
 |pure (f:List AV->Option AV)
 |read (f:List AV->ar->Option AV)
 |alloc (f:List AV->Option (bF×(Nat->AV)))
 |gY (f:List AV->ar->Option (AV×ar))
 |im (f:Nat)
 |iq
 |invoke (name:String)
 |recover
 |defer
 |panic
structure aO where
 iv:Bool
 dst:Option Nat
 guard:Option (Nat×Bool)
 args:List bL
 op:fI
 cI:Option (List Nat)
inductive ai where
 |skip
 |region (steps:List aO)
 |seq (a b:ai)
 |cond (c:bL) (thn els:ai)
 |block (id:Nat) (body:ai)
 |loop (ah:Option (List Nat)) (body:ai)
 |rangeFunc (f:bL) (k:Nat)
 |exit (id:Nat)
 |scope (body:ai)
 |label (l:Nat)
 |goto (l:Nat)
 |ret
 |stuck
instance:Inhabited ai:=⟨.skip⟩
structure dL where
 params:List Nat
 assign:ai
 body:ai
structure bZ where
 results:List ep
 body:ai
 loops:List dL
structure jZ where
 func:Nat->Option bZ
 kN:Nat->String->Option Nat
abbrev aG:=List (AV×Bool)
structure St where
 tm:T AV
 aY:List aK
 up:Option aG
 H:ar
inductive aW where
 |normal
 |exit (id:Nat)
 |goto (l:Nat)
 |ret
 |panic (chain:aG)
inductive bI where
 |ret (v:AV)
 |panic (chain:aG)
abbrev cj:=Nat->List AV->Option aG->ar->Option (bI×Option aG×ar)
structure Ctx where
 round:Option Nat
 fn:Nat
end
end Go.Am
namespace Go.Am
noncomputable section
def KT:T AV->List Nat->List AV->Option (T AV)
 |tm,[],[]=>B1 tm
 |tm,p::ps,v::vs=>KT (tm.set p v) ps vs
 |_,_,_=>B5
def jL:Nat->List AV->T AV->T AV
 |_,[],t=>t
 |i,v::vs,t=>jL (i+1) vs (t.set i v)
def kV:aW->Option ik
 | .exit id=>B1 (.exit id)
 | .goto l=>B1 (.goto l)
 | .ret=>B1 .ret
 |_=>B5
def qU:Option ik->aW
 |none=>.normal
 |some (.exit id)=>.exit id
 |some (.goto l)=>.goto l
 |some .ret=>.ret
def AA:aW->Bool
 | .normal=>B4
 |_=>B2
def U8(tm:T AV):List Nat->T AV->T AV
 |[],acc=>acc
 |k::ks,acc=>U8 tm ks (acc.put k (tm.get k))
def forget:List Nat->T AV->T AV
 |[],t=>t
 |d::ds,t=>forget ds (t.put d B5)
def eI(dst:Option Nat)(v:AV)(tm:T AV):T AV :=
 match dst with
 |some d=>tm.set d v
 |none=>tm
structure Xb where
 run:AV->T AV->T AV
def lQ:Option Nat->Xb
 |some d=>⟨λ v tm=>(T.Cv (T.path d)).run (B1 v) tm⟩
 |none=>⟨λ _ tm=>tm⟩
abbrev gT:=Option (aW×St)
def gO(ah:Option (List Nat))(body:St->gT):Nat->St->gT
 |0,_=>B5
 |n+1,st =>
  (body (match ah with|none=>st|some ks=>{st with tm:=U8 st.tm ks .nil})).bind λ r=>match r.1 with
   | .normal=>gO ah body n r.2
   |e=>B1 (e,r.2)
def FO:ai->Nat->Bool
 | .seq a b,l=>FO a l ||FO b l
 | .label l',l=>J2 l' l
 |_,_=>B2
mutual
def cz:AV->AV->Bool
 | .bool a,.bool b=>a == b
 | .int k a,.int k' b=>tV k k' && uG a b
 | .str a,.str b=>AY a b
 | .nilp,.nilp=>B4
 | .ptr a b,.ptr c d=>J2 a c && J2 b d
 | .nils,.nils=>B4
 | .slice a b c d,.slice a' b' c' d'=>J2 a a' && J2 b b' && J2 c c' && J2 d d'
 | .gslice a b c d e f,.gslice a' b' c' d' e' f'=>J2 a a' && J2 b b' && J2 c c' && J2 d d' && J2 e e' && J2 f f'
 | .eslice a,.eslice b=>J2 a b
 | .mH,.mH=>B4
 | .map a,.map b=>J2 a b
 | .nilf,.nilf=>B4
 | .nili,.nili=>B4
 | .fn (.func f) x a,.fn (.func g) y b=>J2 f g && fj x y && fj a b
 | .fn (.yield f) x a,.fn (.yield g) y b=>J2 f g && fj x y && fj a b
 | .iface t a,.iface u b=>J2 t u && cz a b
 | .agg a,.agg b=>fj a b
 | .tuple a,.tuple b=>fj a b
 |_,_=>B2
def fj:List AV->List AV->Bool
 |[],[]=>B4
 |x::xs,y::ys=>cz x y && fj xs ys
 |_,_=>B2
end
abbrev iW:=List AV->Nat->ar->Option (bI×ar)
structure RT where
 AP:jZ
 call:cj
 round:iW
 n:Nat
 ctx:Ctx
def da(call:cj)(round:iW)(f:mG)(args:List AV)(H:ar):Option (bI×ar) :=
 match f with
 | .func g=>(call g args B5 H).bind λ r=>B1 (r.1,r.2.2)
 | .yield l=>round args l H
def fH(put:AV->T AV->T AV)(cI:Option (List Nat))(st:St)(k:St->gT)(r:bI×ar):gT :=
 match r.1 with
 | .ret v=>k ⟨put v st.tm,st.aY,st.up,r.2⟩
 | .panic c=>cI.bind λ ds=>B1 (.panic c,⟨forget ds st.tm,st.aY,st.up,r.2⟩)
def Qf(put:AV->T AV->T AV)(st:St):St :=
 match st.up with
 |some ((v,B2)::older)=>⟨put v st.tm,st.aY,B1 ((v,B4)::older),st.H⟩
 |_=>⟨put .nili st.tm,st.aY,st.up,st.H⟩
def EU(f:List AV->Option AV)(put:AV->T AV->T AV)(st:St)(k:St->gT)(vs:List AV):gT :=
 (f vs).bind λ v=>k ⟨put v st.tm,st.aY,st.up,st.H⟩
def Du(f:List AV->ar->Option AV)(put:AV->T AV->T AV)(st:St)(k:St->gT)(vs:List AV):gT :=
 (f vs st.H).bind λ v=>k ⟨put v st.tm,st.aY,st.up,st.H⟩
def xR(f:List AV->Option (bF×(Nat->AV)))(put:AV->T AV->T AV)(st:St)(k:St->gT)(vs:List AV):gT :=
 (f vs).bind λ r=>k ⟨put (r.2 st.H.au) st.tm,st.aY,st.up,st.H.alloc r.1⟩
def Ld(f:List AV->ar->Option (AV×ar))(put:AV->T AV->T AV)(st:St)(k:St->gT)(vs:List AV):gT :=
 (f vs st.H).bind λ r=>k ⟨put r.1 st.tm,st.aY,st.up,r.2⟩
def Bq(f:Nat)(rt:RT)(put:AV->T AV->T AV)(cI:Option (List Nat))(st:St)(k:St->gT)(vs:List AV):gT :=
 (da rt.call rt.round (.func f) vs st.H).bind λ r=>fH put cI st k r
def EF(rt:RT)(put:AV->T AV->T AV)(cI:Option (List Nat))(st:St)(k:St->gT)(vs:List AV):gT :=
 match vs with
 | .fn (.func f) first cap::args=>(da rt.call rt.round (.func f) (first++(args++cap)) st.H).bind λ r=>fH put cI st k r
 | .fn (.yield l) first []::args=>(da rt.call rt.round (.yield l) (first++args) st.H).bind λ r=>fH put cI st k r
 |_=>B5
def tq(name:String)(rt:RT)(put:AV->T AV->T AV)(cI:Option (List Nat))(st:St)(k:St->gT)(vs:List AV):gT :=
 match vs with
 | .iface t v::args=>(rt.AP.kN t name).bind λ f=>(da rt.call rt.round (.func f) (v::args) st.H).bind λ r=>fH put cI st k r
 |_=>B5
def Tt(rt:RT)(put:AV->T AV->T AV)(st:St)(k:St->gT)(vs:List AV):gT :=
 match rt.ctx.round with
 |some _=>B5
 |none=>match vs with
  |[]=>k (Qf put st)
  |_=>B5
def wG(rt:RT)(put:AV->T AV->T AV)(st:St)(k:St->gT)(vs:List AV):gT :=
 match rt.ctx.round with
 |some _=>B5
 |none=>match vs with
  | .fn (.func f) first cap::args=>k ⟨put .undef st.tm,.fn (.func f) (first++(args++cap))::st.aY,st.up,st.H⟩
  |_=>B5
def wR(put:AV->T AV->T AV)(cI:Option (List Nat))(st:St)(k:St->gT)(vs:List AV):gT :=
 match vs with
 |[.iface t v]=>fH put cI st k (.panic [(.iface t v,B2)],st.H)
 |_=>B5
structure OpC where
 run:RT->St->(St->gT)->List AV->gT
def ri(put:AV->T AV->T AV)(cI:Option (List Nat)):fI->OpC
 | .pure f=>⟨λ _ st k vs=>EU f put st k vs⟩
 | .read f=>⟨λ _ st k vs=>Du f put st k vs⟩
 | .alloc f=>⟨λ _ st k vs=>xR f put st k vs⟩
 | .gY f=>⟨λ _ st k vs=>Ld f put st k vs⟩
 | .im f=>⟨λ rt st k vs=>Bq f rt put cI st k vs⟩
 | .iq=>⟨λ rt st k vs=>EF rt put cI st k vs⟩
 | .invoke name=>⟨λ rt st k vs=>tq name rt put cI st k vs⟩
 | .recover=>⟨λ rt st k vs=>Tt rt put st k vs⟩
 | .defer=>⟨λ rt st k vs=>wG rt put st k vs⟩
 | .panic=>⟨λ _ st k vs=>wR put cI st k vs⟩
def ry(get:T AV->Option AV)(st:St)(vs:List AV):fI->Bool
 | .read f=>match f vs st.H,get st.tm with
  |some v,B1 v'=>cz v v'
  |_,_=>B2
 |_=>B2
def cT(b:Bool):Option AV->Option Bool
 |some (.bool q)=>B1 (cond q b (!b))
 |some (.tuple [])=>B1 B2
 |_=>B5
structure Px where
 run:RT->(St->gT)->St->gT
def gV(s:aO):Px :=
 match s.iv with
 |false=>match s.guard with
  |none=>⟨λ rt k st=>((uP s.args).run st.tm).bind λ vs=>(ri (lQ s.dst).run s.cI s.op).run rt st k vs⟩
  |some g=>⟨λ rt k st=>(cT g.2 ((T.oV (T.path g.1)).run st.tm)).bind λ w =>
   cond w (((uP s.args).run st.tm).bind λ vs=>(ri (lQ s.dst).run s.cI s.op).run rt st k vs) (k ⟨(lQ s.dst).run .undef st.tm,st.aY,st.up,st.H⟩)⟩
 |true=>match s.guard,s.dst with
  |none,B1 d=>⟨λ _ k st=>((uP s.args).run st.tm).bind λ vs=>cond (ry (T.oV (T.path d)).run st vs s.op) (k st) B5⟩
  |some g,B1 d=>⟨λ _ k st=>(cT g.2 ((T.oV (T.path g.1)).run st.tm)).bind λ w =>
   cond w (((uP s.args).run st.tm).bind λ vs=>cond (ry (T.oV (T.path d)).run st vs s.op) (k st) B5) (k st)⟩
  |_,B5=>⟨λ _ _ _=>B5⟩
structure J9 where
 run:RT->St->gT
def hO:List aO->J9
 |[]=>⟨λ _ st=>B1 (.normal,st)⟩
 |s::rest=>⟨λ rt st=>(gV s).run rt ((hO rest).run rt) st⟩
def cW(H:ar)(l:Nat)(s:ng)(p:Option ik):Option ar :=
 match H.get l with
 |some (.loop _ _ f k tm d)=>B1 (H.set l (.loop s p f k tm d))
 |_=>B5
def B0(H:ar)(l:Nat):Option Nat :=
 match H.get l with
 |some (.loop _ _ _ _ _ d)=>B1 d
 |_=>B5
def NH(st:St)(aY:List aK)(l:Nat)(e:bI)(H:ar):gT :=
 match e with
 | .panic c=>B1 (.panic c,{st with aY:=aY,H:=H})
 | .ret _=>match H.get l with
  |some (.loop .busy _ _ _ _ _)=>B5
  |some (.loop _ p f k tm d)=>B1 (qU p,{st with aY:=aY,H:=H.set l (.loop .exhausted p f k tm d)})
  |_=>B5
def jE(call:cj)(round:iW)(ctx:Ctx)(st:St)(k:Nat)(H0:ar)(aY:List aK)(d:Nat):AV->gT
 | .fn (.func g) first cap =>
  (da call round (.func g) (first++(.fn (.yield H0.au) [] []::cap)) (H0.alloc (.loop .ready B5 ctx.fn k st.tm d))).bind λ r =>
   NH st aY H0.au r.1 r.2
 |_=>B5
def vE(next:RT->St->gT)(rt:RT)(r:aW×St):gT :=
 match r.1 with
 | .normal=>next rt r.2
 |e=>B1 (e,r.2)
def vH(a b:RT->St->gT)(rt:RT)(st:St)(v:AV):gT :=
 match v with
 | .bool q=>cond q (a rt st) (b rt st)
 |_=>B5
def kE(id:Nat)(r:aW×St):gT :=
 match r.1 with
 | .exit id'=>B1 (cond (J2 id id') .normal (.exit id'),r.2)
 |e=>B1 (e,r.2)
def mf(b:ai)(r:aW×St):gT :=
 match r.1 with
 | .goto l=>cond (FO b l) B5 (B1 (.goto l,r.2))
 |e=>B1 (e,r.2)
def qS(rt:RT)(k:Nat)(st:St)(v:AV):gT :=
 match rt.ctx.round with
 |none=>jE rt.call rt.round rt.ctx st k (st.H.alloc (.deferred (B1 []))) (.iz st.H.au::st.aY) st.H.au v
 |some l=>(B0 st.H l).bind λ d=>jE rt.call rt.round rt.ctx st k st.H st.aY d v
def bK:ai->J9
 | .skip=>⟨λ _ st=>B1 (.normal,st)⟩
 | .label _=>⟨λ _ st=>B1 (.normal,st)⟩
 | .region steps=>hO steps
 | .seq a b=>⟨λ rt st=>((bK a).run rt st).bind (vE (bK b).run rt)⟩
 | .cond c a b=>⟨λ rt st=>((Nv c).run st.tm).bind (vH (bK a).run (bK b).run rt st)⟩
 | .block id b=>⟨λ rt st=>((bK b).run rt st).bind (kE id)⟩
 | .loop ah b=>⟨λ rt st=>gO ah ((bK b).run rt) rt.n st⟩
 | .exit id=>⟨λ _ st=>B1 (.exit id,st)⟩
 | .goto l=>⟨λ _ st=>B1 (.goto l,st)⟩
 | .ret=>⟨λ _ st=>B1 (.ret,st)⟩
 | .stuck=>⟨λ _ _=>B5⟩
 | .scope b=>⟨λ rt st=>((bK b).run rt st).bind (mf b)⟩
 | .rangeFunc f k=>⟨λ rt st=>((Nv f).run st.tm).bind (qS rt k st)⟩
def exec(AP:jZ)(call:cj)(round:iW)(n:Nat)(ctx:Ctx)(c:ai)(st:St):gT:=(bK c).run ⟨AP,call,round,n,ctx⟩ st
def HB(l:Nat)(r:aW×St):Option (bI×ar) :=
 match r.1 with
 | .panic c=>B1 (.panic c,r.2.H)
 |e=>(cW r.2.H l (cond (AA e) .ready .done) (kV e)).bind λ H=>B1 (.ret (.bool (AA e)),H)
def beginRound(H:ar)(l:Nat):Option ar :=
 match H.get l with
 |some (.loop .ready p f k tm d)=>B1 (H.set l (.loop .busy p f k tm d))
 |_=>B5
def roundOf(AP:jZ)(ex:Ctx->ai->St->gT)(args:List AV)(l:Nat)(H:ar):Option (bI×ar) :=
 match H.get l with
 |some (.loop _ _ f k tm _) =>
  (AP.func f).bind λ fn=>(nth fn.loops k).bind λ lp=>(KT tm lp.params args).bind λ tm1 =>
  (ex ⟨B1 l,f⟩ lp.assign {tm:=tm1,aY:=[],up:=B5,H:=H}).bind λ r=>match r.1 with
   | .normal=>(beginRound r.2.H l).bind λ H2=>(ex ⟨B1 l,f⟩ lp.body {r.2 with H:=H2}).bind λ q=>cond (noDefs q.2.aY) (HB l q) B5
   |_=>B5
 |_=>B5
 where noDefs:List aK->Bool
 |[]=>B4
 |_=>B2
def NR(H:ar)(tm:T AV):ep->Option AV
 | .tmp t=>tm.get t
 | .kU a=>(tm.get a).bind λ v=>match v with| .ptr b o=>H.ae b o|_=>B5
 | .cS n a=>(tm.get a).bind λ v=>match v with| .ptr b o=>(H.aq b o n).bind λ l=>B1 (.agg l)|_=>B5
def eh(H:ar)(tm:T AV):List ep->Option (List AV)
 |[]=>B1 []
 |r::rs=>(NR H tm r).bind λ v=>(eh H tm rs).bind λ vs=>B1 (v::vs)
def jG:List AV->AV
 |[v]=>v
 |l=>.tuple l
def nY(m:Option aG)(up:aG):Option (Option aG) :=
 match m,up with
 |none,[]=>B1 B5
 |some _,(_,B4)::_=>B1 B5
 |some _,(v,B2)::c=>B1 (B1 ((v,B2)::c))
 |_,_=>B5
def cw(call:cj)(rs:List ep)(tm:T AV):List aK->Option aG->ar->Option (bI×ar)
 |[],B5,H=>(eh H tm rs).bind λ l=>B1 (.ret (jG l),H)
 |[],B1 c,H=>B1 (.panic c,H)
 | .iz b::ds,m,H=>match H.get b with
  |some (.deferred (B1 []))=>cw call rs tm ds m (H.set b (.deferred B5))
  |_=>B5
 | .fn (.func f) args::ds,m,H=>(call f args (B1 (m.getD [])) H).bind λ r =>
  match r.1,r.2.1 with
  | .ret _,B1 up'=>(nY m up').bind λ m'=>cw call rs tm ds m' r.2.2
  |_,_=>B5
 | .fn (.yield _) _::_,_,_=>B5
def qJ(call:cj)(fn:bZ)(r:aW×St):Option (bI×Option aG×ar) :=
 let fin (m:Option aG):Option (bI×Option aG×ar):=(cw call fn.results r.2.tm r.2.aY m r.2.H).bind λ q=>B1 (q.1,r.2.up,q.2)
 match r.1 with
 | .normal=>fin B5
 | .ret=>fin B5
 | .panic c=>fin (B1 c)
 |_=>B5
def rounds(AP:jZ)(call:cj)(m:Nat):Nat->iW
 |0=>λ _ _ _=>B5
 |n+1=>roundOf AP (exec AP call (rounds AP call m n) m)
def IE(AP:jZ)(call:cj)(n:Nat):cj:=λ f args up H =>
 (AP.func f).bind λ fn =>
  (exec AP call (rounds AP call n n) n ⟨B5,f⟩ fn.body {tm:=jL 0 args .nil,aY:=[],up:=up,H:=H}).bind λ r =>
   qJ call fn r
def CU(AP:jZ):Nat->cj
 |0=>λ _ _ _ _=>B5
 |n+1=>IE AP (CU AP n) n
def kI(AP:jZ)(told:cj):Nat->cj
 |0=>told
 |n+1=>λ f args up H=>match told f args up H with
  |some r=>B1 r
  |none=>IE AP (kI AP told n) n f args up H
end
end Go.Am
namespace Go.Am
noncomputable section
mutual
def gh:M9->Option AV
 | .bool b=>B1 (.bool b)
 | .int k n=>B1 (.int k n)
 | .string s=>B1 (.str s.data.toList)
 | .pointer B5=>B1 .nilp
 | .slice B5 0 0=>B1 .nils
 | .map B5=>B1 .mH
 | .nilFunc=>B1 .nilf
 | .nilIface=>B1 .nili
 | .iface t v=>(gh v).bind λ x=>B1 (.iface t x)
 | .agg cs=>(nQ cs.toList).bind λ l=>B1 (.agg l)
 | .tuple cs=>(nQ cs.toList).bind λ l=>B1 (.tuple l)
 |_=>B5
def nQ:List M9->Option (List AV)
 |[]=>B1 []
 |v::vs=>(gh v).bind λ x=>(nQ vs).bind λ xs=>B1 (x::xs)
end
def rJ(G:Nat):Mx->Option bL
 | .tmp t=>B1 (.tmp t)
 | .const v=>(gh v).bind λ x=>B1 (.const x)
 | .global g=>if PE g G then B1 (.eH g)else B5
 | .func f=>B1 (.func f)
def nM(G:Nat):List Mx->Option (List bL)
 |[]=>B1 []
 |x::xs=>(rJ G x).bind λ y=>(nM G xs).bind λ ys=>B1 (y::ys)
def zeroOf(P:Kb)(t:ME):Option AV:=((P.info? t).bind (·.zero)).bind gh
def bU(P:Kb)(t:ME):Option Nat:=(P.info? t).bind λ i=>B1 i.size
def nh(P:Kb)(t:ME):Option Nat:=(P.info? t).bind λ i=>B1 i.bytes
def oe(P:Kb)(t:ME):Option (Option Nat) :=
 match P.underlying t with
 |some (.struct _)|some (.array _ _)=>(bU P t).bind λ n=>B1 (B1 n)
 |some _=>B1 B5
 |none=>B5
def dE(P:Kb):Nat->ME->Option aR
 |0,_=>B5
 |d+1,t=>match P.underlying t with
  |some (.int _)=>B1 .int
  |some .string=>B1 .str
  |some .bool=>B1 .bool
  |some (.struct fs)=>if P.stoodInHeld t then B5 else fieldsT (dE P d) fs.toList
  |some (.array n e)=>(bU P e).bind λ s=>(oe P e).bind λ a=>(dE P d e).bind λ q=>B1 (itemsT s a q n 0)
  |_=>B5
 where
 fieldsT (go:ME->Option aR):List Field->Option aR
  |[]=>B1 .nil
  |f::fs=>if f.name = "_" then B5 else(oe P f.type).bind λ a=>(go f.type).bind λ q=>(fieldsT go fs).bind λ r=>B1 (.part f.offset a q r)
 itemsT (s:Nat) (a:Option Nat) (q:aR):Nat->Nat->aR
  |0,_=>.nil
  |n+1,i=>.part (i*s) a q (itemsT s a q n (i+1))
def pT(P:Kb)(t:ME):Option aR:=dE P 20 t
def gF:Nat->List (Option Mx)->List (Option Nat)
 |_,[]=>[]
 |n,B5::r=>B5::gF n r
 |n,B1 _::r=>B1 n::gF (n+1) r
def kD:List (Option Mx)->List Mx
 |[]=>[]
 |none::r=>kD r
 |some x::r=>x::kD r
def EJ(pl:Nat->Option (Nat×Nat)):List (Nat×Mx)->Option (List (Nat×Nat))
 |[]=>B1 []
 |(i,_)::r=>(pl i).bind λ p=>(EJ pl r).bind λ l=>B1 (p::l)
def Og(P:Kb)(fs:Array Field)(i:Nat):Option (Nat×Nat):=(fs[i]?).bind λ f=>(bU P f.type).bind λ n=>B1 (f.offset,n)
def Ma(n:Nat)(i:Nat):Option (Nat×Nat):=B1 (i*n,n)
def Vh(P:Kb)(b:Builtin)(ts:Array ME)(args:List Mx):Option (List Mx×fI) :=
 match b with
 | .len=>match(ts[0]?).bind P.underlying with
  |some (.slice _)=>B1 (args,.pure Op.ct)
  |_=>B5
 | .append=>match ts.toList with
  |[t,tx]=>match P.underlying t,P.underlying tx with
   |some (.slice e),B1 (.slice _)=>(bU P e).bind λ n=>(nh P e).bind λ z=>(zeroOf P e).bind λ zv=>if zv.cells.length=n then B1 (args,.gY (Op.append e n z))else B5
   |_,_=>B5
  |_=>B5
 | .min=>B1 (args,.pure (Op.eV B2))
 | .clear=>match(ts[0]?).bind P.underlying with
  |some (.slice e)=>(zeroOf P e).bind λ z=>B1 (args,.gY (Op.bQ z.cells))
  |some (.map _ _)=>B1 (args,.gY Op.bT)
  |_=>B5
 | .recover=>B1 (args,.recover)
 | .panic=>B1 (args,.panic)
 |_=>B5
def M7(_P:Kb)(fn:Func)(args:List Mx):Option (List Mx×fI) :=
 if fn.origin != "" then B5
 else if fn.name == "internal/bytealg.IndexByteString" then B1 (args,.pure Op.aE)
 else B5
def Ch(P:Kb)(src dst:ME)(x:Mx):Option (List Mx×fI) :=
 match P.underlying src,P.underlying dst with
 |some (.int _),B1 (.int k)=>B1 ([x],.pure (Op.wrap k))
 |_,_=>B5
def Ng(P:Kb):Nat->ME->Bool
 |0,_=>B4
 |d+1,t=>match P.underlying t with
  |some (.interface ms)=>!ms.isEmpty
  |some (.struct fs)=>fs.toList.any λ f=>f.name != "_" && Ng P d f.type
  |some (.array _ e)=>Ng P d e
  |_=>B2
def Xc(P:Kb):∀(d:Nat)(t:ME),Ng P d t=P.eqGuardType d t
 |0,_=>rfl
 |d+1,t=>by
  rw[Ng,Kb.eqGuardType];cases P.underlying t with
  |none=>rfl
  |some u =>
   cases u with
   |struct fs =>
    show fs.toList.any _=fs.any _;rw[<-Array.any_toList];congr 1;funext f;rw[Xc P d]
   |array _ e=>exact Xc P d e
   |_=>rfl
def Iq(P:Kb)(t:ME)(x y:Mx):Option xE :=
 match P.underlying t with
 |some .bool=>B1 .bool
 |some (.pointer e)=>match bU P e with
  |some (_+1)=>B1 .ptr
  |_=>B5
 |some (.slice _)=>B1 .slice
 |some (.map _ _)=>B1 .map
 |some (.func _ _ _)=>B1 .func
 |some (.interface _)=>match x,y with
  | .const .nilIface,_=>B1 .iface
  |_,.const .nilIface=>B1 .iface
  |_,_=>B1 (.ifaces λ u=>(P.info? u).bind λ i=>if i.comparable then dE P 20 u else B5)
 |some (.struct _)=>if Ng P P.depth t then B5 else(dE P 20 t).bind λ q=>B1 (.agg q)
 |some (.array _ _)=>if Ng P P.depth t then B5 else(dE P 20 t).bind λ q=>B1 (.agg q)
 |_=>B5
def Kw(P:Kb)(op:BinOp)(t:ME)(x y:Mx):Option (List Mx×fI) :=
 match P.underlying t with
 |some (.int _)=>B1 ([x,y],.pure (Op.bin op))
 |some .string=>B1 ([x,y],.pure (Op.bin op))
 |_=>match op with
  | .eql=>(Iq P t x y).bind λ k=>B1 ([x,y],.read (Op.eq k B2))
  | .neq=>(Iq P t x y).bind λ k=>B1 ([x,y],.read (Op.eq k B4))
  |_=>B5
def Fq(P:Kb)(c:Call):Option (List Mx×fI) :=
 match c.callee with
 | .value (.func f)=>(P.funcs[f]?).bind λ fn =>
  match fn.body with
  |some _=>B1 (c.args.toList,.im f)
  |none=>M7 P fn c.args.toList
 | .value f=>B1 (f::c.args.toList,.iq)
 | .invoke r m=>B1 (r::c.args.toList,.invoke m)
 | .builtin b=>Vh P b c.argTypes c.args.toList
def R5(P:Kb)(op:Cn):Option (List Mx×fI) :=
 match op with
 | .move x=>B1 ([x],.pure Op.move)
 | .assign x=>B1 ([x],.pure Op.move)
 | .pick c a b=>B1 ([c,a,b],.pure Op.pick)
 | .alloc e=>(zeroOf P e).bind λ z=>B1 ([],.alloc (Op.alloc e z.cells))
 | .box e x=>B1 ([x],.alloc (Op.box e))
 | .build t parts=>(zeroOf P t).bind λ z =>
  match P.underlying t with
  |some (.struct fs)=>if fs.toList.all (λ f=>(bU P f.type).isSome)then(EJ (Og P fs) parts.toList).bind λ ps=>B1 (parts.toList.map (·.2),.pure (Op.build z.cells ps))else B5
  |some (.array _ e)=>(bU P e).bind λ n=>(EJ (Ma n) parts.toList).bind λ ps=>B1 (parts.toList.map (·.2),.pure (Op.build z.cells ps))
  |_=>B5
 | .buildSlice t len parts =>
  match P.underlying t with
  |some (.slice e)=>(bU P e).bind λ n=>(zeroOf P e).bind λ z=>(EJ (Ma n) parts.toList).bind λ ps=>if z.cells.length=n/\len*n<=16777216 then B1 (parts.toList.map (·.2),.alloc (Op.buildSlice e len z.cells ps))else B5
  |_=>B5
 | .load t a=>(oe P t).bind λ r=>match r with
  |none=>B1 ([a],.read Op.ae)
  |some n=>B1 ([a],.read (Op.aq n))
 | .store t a x=>(bU P t).bind λ n=>B1 ([a,x],.gY (Op.store n))
 | .nilCheck x=>B1 ([x],.pure Op.nilCheck)
 | .binOp op t x y _=>Kw P op t x y
 | .unOp op _ x=>B1 ([x],.pure (Op.un op))
 | .convert src dst x=>Ch P src dst x
 | .makeInterface t x=>match P.underlying t with
  |some (.interface _)=>B5
  |some _=>B1 ([x],.pure (Op.dF t))
  |none=>B5
 | .makeFunc (.func f) a b=>B1 (a.toList++b.toList,.pure (Op.bt f a.size))
 | .makeMap _ B5=>B1 ([],.alloc Op.mkMap)
 | .makeMap t (B1 (.const (.int _ _)))=>match P.underlying t with
  |some (.map _ _)=>B1 ([],.alloc Op.mkMap)
  |_=>B5
 | .makeSlice t l c =>
  match P.underlying t with
  |some (.slice e)=>(nh P e).bind λ b=>(zeroOf P e).bind λ z=>(bU P e).bind λ n=>if z.cells.length=n then B1 ([l,c],.alloc (Op.mkSlice e b z.cells))else B5
  |_=>B5
 | .slice t x lo hi mx =>
  match P.underlying t with
  |some (.slice e)=>(bU P e).bind λ n=>B1 (x::kD [lo,hi,mx],.pure (Op.aA n (gF 0 [lo,hi,mx])))
  |some (.array k e)=>(bU P e).bind λ n=>B1 (x::kD [lo,hi,mx],.pure (Op.cP k n (gF 0 [lo,hi,mx])))
  |_=>B5
 | .fieldAddr t x i =>
  match P.underlying t with
  |some (.struct fs)=>(fs[i]?).bind λ f=>(bU P f.type).bind λ n=>if n == 0 then B5 else B1 ([x],.pure (Op.fieldAddr f.offset))
  |_=>B5
 | .indexAddr t x i =>
  match P.underlying t with
  |some (.slice e)=>(bU P e).bind λ n=>B1 ([x,i],.pure (Op.aQ n))
  |some (.array k e)=>(bU P e).bind λ n=>B1 ([x,i],.pure (Op.aU k n))
  |_=>B5
 | .index t x i =>
  match P.underlying t with
  |some .string=>B1 ([x,i],.pure Op.bO)
  |some (.array k e)=>(bU P e).bind λ n=>(oe P e).bind λ a=>B1 ([x,i],.pure (Op.bG k n a))
  |_=>B5
 | .lookup t m k ok =>
  match P.underlying t with
  |some (.map kt e)=>(pT P kt).bind λ key=>(zeroOf P e).bind λ z=>B1 ([m,k],.read (Op.lookup key z ok))
  |_=>B5
 | .mapUpdate t m k v =>
  match P.underlying t with
  |some (.map kt _)=>(pT P kt).bind λ key=>B1 ([m,k,v],.gY (Op.mapUpdate key))
  |_=>B5
 | .insert t m k v =>
  match P.underlying t with
  |some (.map kt _)=>(pT P kt).bind λ key=>B1 ([m,k,v],.gY (Op.mapUpdate key))
  |_=>B5
 | .extract x i=>B1 ([x],.pure (Op.extract i))
 | .call c=>Fq P c
 | .defer c=>match c.callee with
  | .value f=>B1 (f::c.args.toList,.defer)
  |_=>B5
 | .panic x=>B1 ([x],.panic)
 |_=>B5
def gj(P:Kb)(o:PI):Option (List bL×fI) :=
 match(R5 P o.op).bind λ r=>(nM P.globals.size r.1).bind λ args=>B1 (args,r.2)with
 |some r=>B1 r
 |none=>B1 ([],.pure Op.fail)
inductive LP where
 |pure|read|alloc|gY
 deriving DecidableEq
def rD:fI->LP
 | .pure _=>.pure
 | .read _=>.read
 | .alloc _=>.alloc
 |_=>.gY
def mY(cls:Nat->LP)(gB:Nat->Nat)(n:Nat):Nat->Nat->List (Bool×Nat)->List (Bool×Nat)
 |0,_,acc=>acc.reverse
 |fuel+1,done,acc =>
  let ready (i:Nat):Bool:=!done.testBit i && (gB i &&& done) == gB i
  let todo:=(N8 n).filter λ i=>!done.testBit i
  match todo.find? (λ i=>ready i && (cls i == .pure ||cls i == .read))with
  |some i=>mY cls gB n fuel (done |||2 ^ i) ((B2,i)::acc)
  |none =>
   -- the next effect: the first one (effects are in a row)
   match todo.find? (λ i=>cls i == .gY)with
   |some e =>
    if ready e then
     let again:=(acc.reverse.filter λ q=>!q.1 && cls q.2 == .read && !(gB e).testBit q.2).map λ q=>(B4,q.2)
     mY cls gB n fuel (done |||2 ^ e) (again.reverse++((B2,e)::acc))
    else match todo.find? (λ i=>ready i && (gB e).testBit i)with
     |some i=>mY cls gB n fuel (done |||2 ^ i) ((B2,i)::acc)
     |none=>acc.reverse
   |none=>match todo.find? ready with
    |some i=>mY cls gB n fuel (done |||2 ^ i) ((B2,i)::acc)
    |none=>acc.reverse
def du{α:Type}:List (Option α)->Option (List α)
 |[]=>B1 []
 |x::xs=>x.bind λ a=>(du xs).bind λ l=>B1 (a::l)
def guardOf(ops:Array PI):Option (Nat×Bool)->Option (Option (Nat×Bool))
 |none=>B1 B5
 |some g=>((ops[g.1]?).bind (·.dst)).bind λ t=>B1 (B1 (t,g.2))
def jC(ops:Array PI)(l:List (List bL×fI))(safe:Nat->Option (List Nat))(q:Bool×Nat):Option aO :=
 (ops[q.2]?).bind λ o=>(l[q.2]?).bind λ a=>(guardOf ops o.guard).bind λ g =>
  B1 {iv:=q.1,dst:=o.dst,guard:=g,args:=a.1,op:=a.2,cI:=safe q.2}
def pS(nt:Nat)(o:PI):Bool :=
 match o.dst with
 |none=>B4
 |some d=>PE d nt
def pZ(a b:Nat):Bool:=J2 (Nat.land a b) a
def bitsOf:List (Bool×Nat)->Nat->Nat
 |[],d=>d
 |(B4,_)::l,d=>bitsOf l d
 |(B2,i)::l,d=>bitsOf l (Nat.lor d (2 ^ i))
def oi:List (Bool×Nat)->Nat->Nat
 |(B4,r)::l,d=>oi l (Nat.lor d (2 ^ r))
 |_,d=>d
def qZ(c d:LP):Bool:=match c,d with
 | .pure,.pure=>B4
 | .read,.read=>B4
 | .alloc,.alloc=>B4
 | .gY,.gY=>B4
 |_,_=>B2
def jH(p:Nat->Bool):Nat->Nat
 |0=>0
 |n+1=>cond (p n) (Nat.lor (jH p n) (2 ^ n)) (jH p n)
structure mQ where
 n:Nat
 gB:Nat->Nat
 cls:Nat->LP
 jN:Nat->Nat->Bool
 self:Nat->Bool
 made:Nat
 reads:Nat
def Nz(I:mQ)(done:Nat)(post:List (Bool×Nat)):Bool×Nat->Bool
 |(B2,i)=>PE i I.n && (!done.testBit i && (pZ (I.gB i) done && (match I.cls i with
  | .read=>pZ (Nat.land done I.made) (I.gB i)
  | .gY=>pZ (Nat.land done I.made) (I.gB i) && pZ (Nat.land done I.reads) (Nat.lor (I.gB i) (oi post 0))
  |_=>B4)))
 |(B4,r)=>qZ (I.cls r) .read && (I.self r && (done.testBit r && pZ (Nat.land done (jH (λ w=>!Nat.beq w r && I.jN r w) I.n)) (I.gB r)))
def K3(I:mQ):List (Bool×Nat)->Nat->Bool
 |[],done=>pZ (2 ^ I.n-1) done
 |(B2,i)::post,done=>Nz I done post (B2,i) && K3 I post (Nat.lor done (2 ^ i))
 |(B4,r)::post,done=>Nz I done post (B4,r) && K3 I post done
def sX(p:Nat->Bool):Nat->Bool
 |0=>B4
 |n+1=>p n && sX p n
def yK(I:mQ):Bool:=sX (λ r=>sX (λ w=>J2 r w ||((I.gB r).testBit w ||((I.gB w).testBit r ||!I.jN r w))) I.n) I.n
def tmpsOf:List bL->List Nat
 |[]=>[]
 | .tmp t::l=>t::tmpsOf l
 |_::l=>tmpsOf l
def oQ(t:Nat):List Nat->Bool
 |[]=>B2
 |x::l=>J2 x t ||oQ t l
def iT(ops:Array PI)(l:List (List bL×fI))(r:Nat):List Nat :=
 match ops[r]?,l[r]? with
 |some o,B1 a=>(match guardOf ops o.guard with|some (B1 g)=>[g.1]|_=>[])++tmpsOf a.1
 |_,_=>[]
def ic(ops:Array PI)(w:Nat):Option Nat:=(ops[w]?).bind (·.dst)
def gM(ops:Array PI)(l:List (List bL×fI))(r:Nat):List Nat :=
 (match ic ops r with|some d=>[d]|none=>[])++iT ops l r
def EO(ops:Array PI)(l:List (List bL×fI))(r w:Nat):Bool :=
 match ic ops w with
 |some t=>oQ t (gM ops l r)
 |none=>B2
def Dq(ops:Array PI)(l:List (List bL×fI))(r:Nat):Bool :=
 match ic ops r with
 |some t=>!oQ t (iT ops l r)
 |none=>B4
def oh(l:List (List bL×fI))(i:Nat):LP:=rD ((l[i]?.getD ([],.recover)).2)
def wT(c:LP):Bool:=qZ c .alloc ||qZ c .gY
def aV(ops:Array PI)(l:List (List bL×fI)):mQ :=
 {n:=ops.size,gB:=λ i=>(CF ops).getD i 0,cls:=oh l,jN:=EO ops l,self:=Dq ops l,made:=jH (λ i=>wT (oh l i)) ops.size,reads:=jH (λ i=>qZ (oh l i) .read) ops.size}
def uV(i:Nat):List (Bool×Nat)->List (Bool×Nat)
 |[]=>[]
 |(c,j)::l=>cond (!c && J2 j i) [] ((c,j)::uV i l)
def Nw(ops:Array PI)(I:mQ)(plan:List (Bool×Nat))(i:Nat):Option (List Nat) :=
 let d:=bitsOf (uV i plan) 0
 cond (sX (λ j=>J2 j i ||(d.testBit j ||(I.gB j).testBit i)) I.n) (B1 (ops.toList.filterMap (·.dst))) B5
def iX(P:Kb)(nt:Nat)(ops:Array PI)(draw:Bool):Option ai :=
 if ops.toList.all (pS nt)then
 (du (ops.toList.map (gj P))).bind λ l =>
  if draw then
   let I:=aV ops l
   let plan:=mY I.cls I.gB ops.size (2*ops.size) 0 []
   cond (K3 I plan 0 && yK I) ((du (plan.map (jC ops l (Nw ops I plan)))).bind λ steps=>B1 (.region steps)) (B1 .stuck)
  else(du ((N8 ops.size).map λ i=>jC ops l (λ _=>B1 []) (B2,i))).bind λ steps=>B1 (.region steps)
 else B5
def cF(P:Kb)(nt:Nat):Nat->Code->Option (ai×List dL)
 |_,.skip=>B1 (.skip,[])
 |_,.region _ ops draw=>(iX P nt ops draw).bind λ c=>B1 (c,[])
 |k,.seq a b=>(cF P nt k a).bind λ a=>(cF P nt (k+a.2.length) b).bind λ b=>B1 (.seq a.1 b.1,a.2++b.2)
 |k,.cond c a b=>(rJ P.globals.size c).bind λ c=>(cF P nt k a).bind λ a=>(cF P nt (k+a.2.length) b).bind λ b=>B1 (.cond c a.1 b.1,a.2++b.2)
 |k,.block id b=>(cF P nt k b).bind λ b=>B1 (.block id b.1,b.2)
 |k,.loop b=>(cF P nt k b).bind λ b=>B1 (.loop B5 b.1,b.2)
 |k,.rangeFunc f ps a b=>(rJ P.globals.size f).bind λ f=>(cF P nt (k+1) a).bind λ a=>(cF P nt (k+1+a.2.length) b).bind λ b =>
  if ps.toList.all λ p=>PE p nt then B1 (.rangeFunc f k,{params:=ps.toList,assign:=a.1,body:=b.1}::(a.2++b.2))else B5
 |_,.exit id=>B1 (.exit id,[])
 |k,.scope b=>(cF P nt k b).bind λ b=>B1 (.scope b.1,b.2)
 |_,.label l=>B1 (.label l,[])
 |_,.goto l=>B1 (.goto l,[])
 |_,.ret=>B1 (.ret,[])
 |_,.refuse _=>B1 (.stuck,[])
def rG(P:Kb):List ResultVar->Option (List ep)
 |[]=>B1 []
 | .tmp t::r=>(rG P r).bind λ l=>B1 (.tmp t::l)
 | .cell a t::r=>(oe P t).bind λ n=>(rG P r).bind λ l=>B1 ((match n with|none=>.kU a|some n=>.cS n a)::l)
def u6(P:Kb)(fn:Func):Option bZ :=
 fn.body.bind λ b=>(cF P fn.ntmps 0 b).bind λ c=>(rG P fn.results.toList).bind λ r=>B1 {results:=r,body:=c.1,loops:=c.2}
def yV(P:Kb)(t:ME)(name:String):Option Nat :=
 (P.info? t).bind λ i=>(i.methods.find? (·.name == name)).bind λ m =>
  if !m.path.isEmpty then B5 else m.func.bind λ p =>
   match P.underlying t,p.2 with
   |none,_=>B5
   |some (.pointer _),B4=>B1 p.1
   |some (.pointer _),B2=>B5
   |some _,B4=>B5
   |some _,B2=>B1 p.1
def aX(P:Kb):jZ:={func:=λ f=>(P.funcs[f]?).bind (u6 P),kN:=yV P}
end
end Go.Am
namespace Go.Am
namespace T
variable{α:Type}
def go_eq(f:Nat):∀(g i:Nat),i<=f->i<=g->path.go f i=path.go g i:=by
 induction f with
 |zero=>intro g i a hg;obtain rfl:i=0:=by omega
        cases g<;>simp[path.go]
 |succ f ih =>
  intro g i a hg;cases i with
  |zero=>grind
  |succ n =>
   cases g with
   |zero=>omega
   |succ g =>
    simp only[path.go];have h:n / 2<=n:=Nat.div_le_self n 2;congr 1;exact ih g (n / 2) (by omega) (by omega)
theorem xnd:path 0=[]:=rfl
theorem U7(n:Nat):path (n+1)=J2 (n % 2) 0::path (n / 2):=by
 show path.go (n+1) (n+1)=_;simp only[path.go];have h:n / 2<=n:=Nat.div_le_self n 2;exact congrArg (J2 (n % 2) 0 :: ·) (go_eq n (n / 2) (n / 2) h (qm _))
theorem ae3:∀(i j:Nat),path i=path j->i=j:=by
 intro i
 induction i using Nat.strongRecOn with
 |_ i ih =>
  intro j h;cases i with
  |zero=>cases j with
   |zero=>rfl
   |succ m=>grind [xnd,U7]
  |succ n=>cases j with
   |zero=>grind
   |succ m =>
    rw[U7,U7]at h;injection h with d c
    have f:=ih (n / 2) (by have:=Nat.div_le_self n 2;omega) (m / 2) c;have g:n % 2=m % 2:=by
     rcases Nat.mod_two_eq_zero_or_one n with a|a<;>rcases Nat.mod_two_eq_zero_or_one m with b|b<;>simp_all
    omega
def Dt(p:List Bool):xW p (.nil:T α)=none:=by
 induction p with
 |nil=>rfl
 |cons b p ih=>cases b<;>exact ih
theorem q7j(v:Option α):∀(p:List Bool)(t:T α),xW p (fO v p t)=v:=by
 intro p
 induction p with
 |nil=>intro t;rfl
 |cons b p ih=>intro t;cases b<;>exact ih _
theorem xcw(v:Option α):∀(p q:List Bool)(t:T α),p≠q->xW q (fO v p t)=xW q t:=by
 intro p
 induction p with
 |nil =>
  intro q t h;cases q with
  |nil=>grind
  |cons b q=>cases b<;>rfl
 |cons b p ih =>
  intro q t h;cases q with
  |nil=>cases b<;>rfl
  |cons c q =>
   cases b<;>cases c
   .exact ih q _ (λ e=>h (by rw[e]))
   .rfl
   .rfl
   .exact ih q _ (λ e=>h (by rw[e]))
theorem kO(t:T α)(i j:Nat)(v:Option α):(t.put i v).get j=if i=j then v else t.get j:=by
 unfold get put
 by_cases h:i=j
 .grind [q7j]
 .simp only[h,pq];grind [xcw,ae3]
theorem aJ(t:T α)(i j:Nat)(v:α):(t.set i v).get j=if i=j then B1 v else t.get j:=kO t i j (B1 v)
theorem get_nil(j:Nat):(T.nil:T α).get j=none:=Dt _
def jS(p:List Bool)(t:T α):(oV p).run t=xW p t:=by
 induction p generalizing t with
 |nil=>rfl
 |cons b p ih=>cases b<;>exact ih _
def D4(v:Option α)(p:List Bool)(t:T α):(Cv p).run v t=fO v p t:=by
 induction p generalizing t with
 |nil=>rfl
 |cons b p ih =>
  grind [Cv,fO]
end T
section
variable{α:Type}
theorem kA(l:List α)(i:Nat):nth l i=l[i]?:=by
 induction l generalizing i with
 |nil=>rfl
 |cons x l ih=>cases i with
  |zero=>rfl
  |succ n=>exact ih n
theorem pD(a b:List α):kB a b=a++b:=by
 induction a with
 |nil=>rfl
 |cons x a ih=>exact congrArg (x :: ·) ih
def Ip(l:List α):cQ l=l.length:=by
 induction l with
 |nil=>rfl
 |cons x l ih=>exact congrArg (·+1) ih
theorem af3(n:Nat)(l:List α):di n l=l.drop n:=by
 induction n generalizing l with
 |zero=>rfl
 |succ n ih=>cases l with
  |nil=>exact(ih []).trans (by simp)
  |cons x l=>exact ih l
theorem af8(n:Nat)(l:List α):CK n l=if n<=l.length then B1 (l.take n)else none:=by
 induction n generalizing l with
 |zero=>rfl
 |succ n ih=>cases l with
  |nil=>rfl
  |cons x l =>
   show(CK n l).bind (λ r=>B1 (x::r))=_
   grind
def Eo(new l:List α):yH new l=if new.length<=l.length then B1 (new++l.drop new.length)else none:=by
 induction new generalizing l with
 |nil=>rfl
 |cons x new ih=>cases l with
  |nil=>rfl
  |cons y l =>
   show(yH new l).bind (λ r=>B1 (x::r))=_
   grind
def AH(o:Nat)(new l:List α):putAt o new l=if o+new.length<=l.length then B1 (l.take o++new++l.drop (o+new.length))else none:=by
 induction o generalizing l with
 |zero=>show yH new l=_;rw[Eo];simp
 |succ o ih=>cases l with
  |nil =>
   show B5=_
   grind
  |cons x l =>
   show(putAt o new l).bind (λ r=>B1 (x::r))=_
   grind
def tj(l:List α)(o n:Nat):fR l o n=if n<=l.length-o then B1 ((l.drop o).take n)else none:=by
 grind [fR,af8,af3]
end
theorem Ol(a b:Int):vO a b=decide (a<=b):=by
 cases a<;>cases b<;>rw[Cf]<;>simp[vO,ue]<;>try omega
def LA(a b:Int):AO a b=decide (a<b):=by
 unfold AO;rw[Ol];grind
theorem EE(a b:Int):uG a b=(a == b):=by
 rw[Cf,beq_iff_eq];cases a<;>cases b<;>simp[uG]<;>omega
def T7(a b:P0):tV a b=decide (a=b):=by cases a<;>cases b<;>rfl
theorem VI(a b:UInt8):Fp a b=(a == b):=by
 unfold Fp;rw[Cf];simp_all[UInt8.toNat_inj]
theorem L4(a b:List UInt8):AY a b=(a == b):=by
 induction a generalizing b with
 |nil=>cases b<;>rfl
 |cons x a ih=>cases b with
  |nil=>rfl
  |cons y b =>
   show cond (Fp x y) (AY a b) B2=_
   grind [VI]
end Go.Am
namespace Go.Am
structure Th where
 cm:Nat->Nat
 off:Nat->Nat
 ext:Nat->Nat
def fP(θ:Th):mG->Fn
 | .func f=>.func f
 | .yield l=>.yield (θ.cm l)
def C2:Nat->Option Nat
 |0=>B5
 |n+1=>B1 n
mutual
def az(θ:Th):AV->M9
 | .bool b=>.bool b
 | .int k n=>.int k n
 | .str s=>.string ⟨s.toArray⟩
 | .nilp=>.pointer B5
 | .ptr b o=>.pointer (B1 ⟨θ.cm b,θ.off b+o,B5⟩)
 | .nils=>.slice B5 0 0
 | .slice b o n c=>.slice (B1 ⟨θ.cm b,θ.off b+o,B5⟩) n c
 | .gslice b i m s alt n=>.slice (B1 ⟨θ.cm b,θ.off b+(if(m-i) + θ.ext b=0 then alt else i*s),B5⟩) n ((m-i) + θ.ext b)
 | .eslice b=>.slice (B1 ⟨θ.cm b,θ.off b,C2 (θ.ext b)⟩) 0 0
 | .mH=>.map B5
 | .map b=>.map (B1 (θ.cm b))
 | .fn f a b=>.func (fP θ f) (bR θ a).toArray (bR θ b).toArray
 | .nilf=>.nilFunc
 | .iface t v=>.iface t (az θ v)
 | .nili=>.nilIface
 | .agg l=>.agg (bR θ l).toArray
 | .tuple l=>.tuple (bR θ l).toArray
def bR(θ:Th):List AV->List M9
 |[]=>[]
 |v::vs=>az θ v::bR θ vs
end
theorem vK(θ:Th)(l:List AV):bR θ l=l.map (az θ):=by
 induction l with
 |nil=>rfl
 |cons x l ih=>simp[bR,ih]
def Ag(D:Nat->Prop)(θ θ':Th):Prop:=∀b,D b -> θ'.cm b = θ.cm b /\ θ'.off b = θ.off b /\ θ'.ext b = θ.ext b
theorem Ag.refl(D:Nat->Prop)(θ:Th):Ag D θ θ:=λ _ _=>⟨rfl,rfl,rfl⟩
theorem Ag.trans{D D':Nat->Prop}{θ θ' θ'':Th}(h:Ag D θ θ')(a:Ag D' θ' θ'')(c:∀b,D b->D' b):Ag D θ θ'':=λ b hb =>
 let⟨a1,a2,a3⟩:=h b hb;let⟨b1,b2,b3⟩:=a b (c b hb);(by omega)
def Ag.mono{D D':Nat->Prop}{θ θ':Th}(h:Ag D θ θ')(a:∀b,D' b->D b):Ag D' θ θ':=λ b hb=>h b (a b hb)
def VR(D:Nat->Prop)(θ:Th)(v:AV)(c:M9):Prop:=∀θ',Ag D θ θ'->az θ' v=c
def bM(D:Nat->Prop)(θ:Th)(l:List AV)(cs:List M9):Prop:=∀θ',Ag D θ θ'->bR θ' l=cs
section
variable{D D':Nat->Prop}{θ θ':Th}
def VR.now{v:AV}{c:M9}(h:VR D θ v c):az θ v=c:=h θ (Ag.refl D θ)
def bM.now{l:List AV}{cs:List M9}(h:bM D θ l cs):bR θ l=cs:=h θ (Ag.refl D θ)
theorem VR.up{v:AV}{c:M9}(h:VR D θ v c)(ha:Ag D θ θ')(d:∀b,D b->D' b):VR D' θ' v c:=λ θ'' a=>h θ'' (ha.trans a d)
theorem bM.up{l:List AV}{cs:List M9}(h:bM D θ l cs)(ha:Ag D θ θ')(c:∀b,D b->D' b):bM D' θ' l cs:=λ θ'' a=>h θ'' (ha.trans a c)
def bM.nil:bM D θ [] []:=λ _ _=>rfl
def bM.cons{v:AV}{c:M9}{l:List AV}{cs:List M9}(h:VR D θ v c)(hl:bM D θ l cs):bM D θ (v::l) (c::cs) :=
 λ θ' ha=>by simp[bR,h θ' ha,hl θ' ha]
def bM.eE{v:AV}{l:List AV}{cs:List M9}(h:bM D θ (v::l) cs):∃c cs',cs=c::cs'/\VR D θ v c/\bM D θ l cs':=by
 refine⟨az θ v,bR θ l,(by rw[<-h.now];rfl),λ θ' ha=>?_,λ θ' ha=>?_⟩
 .have:=(h θ' ha).trans h.now.symm;grind [bR]
 .have:=(h θ' ha).trans h.now.symm;grind [bR]
def bM.mD{cs:List M9}(h:bM D θ [] cs):cs=[]:=h.now.symm
def bM.length{l:List AV}{cs:List M9}(h:bM D θ l cs):cs.length=l.length:=by rw[<-h.now,vK];simp
def bM.app{l a:List AV}{cs cs':List M9}(h:bM D θ l cs)(b:bM D θ a cs'):bM D θ (l++a) (cs++cs'):=by
 intro θ' ha;rw[vK,Jg,<-vK,<-vK,h θ' ha,b θ' ha]
def bM.qY{l:List AV}{cs:List M9}(h:bM D θ l cs){i:Nat}{v:AV}(b:l[i]? = B1 v):∃c,cs[i]? = B1 c/\VR D θ v c:=by
 refine⟨az θ v,?_,λ θ' ha=>?_⟩
 .rw [<-h.now,vK,xm,b];rfl
 .have:=(h θ' ha).trans h.now.symm;rw[vK,vK]at this;have a:=congrArg (λ l=>l[i]?) this;simp only[xm,b,FI,qk]at a;exact a
theorem bM.drop{l:List AV}{cs:List M9}(h:bM D θ l cs)(n:Nat):bM D θ (l.drop n) (cs.drop n):=by
 intro θ' ha;rw[vK,List.map_drop,<-vK,h θ' ha]
def bM.take{l:List AV}{cs:List M9}(h:bM D θ l cs)(n:Nat):bM D θ (l.take n) (cs.take n):=by
 intro θ' ha;rw[vK,List.map_take,<-vK,h θ' ha]
def bM.one{v:AV}{c:M9}(h:VR D θ v c):bM D θ [v] [c]:=.cons h .nil
def VR.agg{l:List AV}{cs:List M9}(h:bM D θ l cs):VR D θ (.agg l) (.agg cs.toArray):=λ θ' ha=>by simp[az,h θ' ha]
def VR.tuple{l:List AV}{cs:List M9}(h:bM D θ l cs):VR D θ (.tuple l) (.tuple cs.toArray):=λ θ' ha=>by simp[az,h θ' ha]
def VR.fy{l:List AV}{c:M9}(h:VR D θ (.agg l) c):∃cs:List M9,c=.agg cs.toArray/\bM D θ l cs:=by
 refine⟨bR θ l,h.now.symm,λ θ' ha=>?_⟩;have:=(h θ' ha).trans h.now.symm;simpa[az]using this
def VR.zX{l:List AV}{c:M9}(h:VR D θ (.tuple l) c):∃cs:List M9,c=.tuple cs.toArray/\bM D θ l cs:=by
 refine⟨bR θ l,h.now.symm,λ θ' ha=>?_⟩;have:=(h θ' ha).trans h.now.symm;simpa[az]using this
def VR.iface{t:Nat}{v:AV}{c:M9}(h:VR D θ v c):VR D θ (.iface t v) (.iface t c):=λ θ' ha=>by simp[az,h θ' ha]
def VR.mB{t:Nat}{v:AV}{c:M9}(h:VR D θ (.iface t v) c):∃a,c=.iface t a/\VR D θ v a:=by
 refine⟨az θ v,h.now.symm,λ θ' ha=>?_⟩;have:=(h θ' ha).trans h.now.symm;simpa[az]using this
def VR.undef:VR D θ .undef Go.undef:=λ _ _=>rfl
def VR.bool(b:Bool):VR D θ (.bool b) (.bool b):=λ _ _=>rfl
def VR.int(k:P0)(n:Int):VR D θ (.int k n) (.int k n):=λ _ _=>rfl
def VR.str(s:List UInt8):VR D θ (.str s) (.string ⟨s.toArray⟩):=λ _ _=>rfl
def VR.ptr{b o:Nat}(hb:D b):VR D θ (.ptr b o) (.pointer (B1 ⟨θ.cm b,θ.off b+o,B5⟩)):=λ θ' ha=>by obtain⟨a,c,_⟩:=ha b hb;grind [az]
theorem VR.map{b:Nat}(hb:D b):VR D θ (.map b) (.map (B1 (θ.cm b))):=λ θ' ha=>by obtain⟨a,_,_⟩:=ha b hb;simp[az,a]
def VR.slice{b o n c:Nat}(hb:D b):VR D θ (.slice b o n c) (az θ (.slice b o n c)):=λ θ' ha=>by obtain⟨a,d,_⟩:=ha b hb;grind [az]
def VR.gslice{b i m s alt n:Nat}(hb:D b):VR D θ (.gslice b i m s alt n) (az θ (.gslice b i m s alt n)):=λ θ' ha=>by
 obtain⟨a,c,d⟩:=ha b hb;grind [az]
end
def Sf(fz cfz:Nat×Nat)(off size:Nat):Prop:=cfz.1=cfz.2\/(cfz.1<cfz.2/\off+fz.1<=cfz.1/\cfz.2<=off+fz.2)\/(fz.2<fz.1/\(size<=cfz.1\/cfz.2<=off))
def Xk(fz cfz:Nat×Nat):Prop:=cfz.1=cfz.2\/(cfz.1<cfz.2/\fz.1<=cfz.1/\cfz.2<=fz.2)
def own:bF->Bool
 | .row _ _ _ o=>o
 |_=>B4
def pU(D:Nat->Prop)(θ:Th)(tm:T AV)(a:Array M9):Prop:=∀t v,tm.get t=B1 v -> ∃c,a[t]? = B1 c/\VR D θ v c
def stR:ng->LoopState
 | .ready=>.ready| .busy=>.busy| .done=>.done| .exhausted=>.exhausted
def mP:ik->Code
 | .exit id=>.exit id
 | .goto l=>.goto l
 | .ret=>.ret
def Q9(D:Nat->Prop)(θ:Th)(e:AV×AV×Nat)(m:Bg):Prop:=VR D θ e.1 m.key/\VR D θ e.2.1 m.val/\m.born=e.2.2
def dy(D:Nat->Prop)(θ:Th):List (AV×AV×Nat)->List Bg->Prop
 |[],[]=>True
 |e::es,m::ms=>Q9 D θ e m/\dy D θ es ms
 |_,_=>False
def wF(P:Kb)(f k n:Nat)(params:Array Tmp)(assign body:Code):Prop :=
 ∃fn af lp ka kb L1 L2,P.funcs[f]? = B1 fn/\u6 P fn=B1 af/\nth af.loops k=B1 lp/\lp.params=params.toList/\(∀p∈params.toList,p<fn.ntmps)/\fn.ntmps<=n /\
  cF P fn.ntmps ka assign=B1 (lp.assign,L1)/\(∀i l,nth L1 i=B1 l->nth af.loops (ka+i)=B1 l) /\
  cF P fn.ntmps kb body=B1 (lp.body,L2)/\(∀i l,nth L2 i=B1 l->nth af.loops (kb+i)=B1 l)
def Wc(D:Nat->Prop)(θ:Th):aK->Deferred->Prop
 | .iz b,d=>D b/\d = {target:=.collected (θ.cm b),args:=#[]}
 | .fn f args,d=>∃c cap:Array M9,d = {target:=.fn (fP θ f) cap,args:=c}/\(∀θ',Ag D θ θ'->fP θ' f=fP θ f)/\bM D θ args (c++cap).toList
def po(P:Kb)(D:Nat->Prop)(θ:Th)(b:Nat):bF->Obj->Prop
 | .row cells e fz ow,o=>∃pre cs post cfz e',o=.cells (pre++cs++post).toArray e' cfz/\pre.length = θ.off b/\bM D θ cells cs /\
  (ow=B4->e'=e/\pre=[]/\post=[]/\Xk fz cfz)
 | .grown m size cells e fz,o=>∃pre cs post cfz,o=.cells (pre++cs++post).toArray e cfz/\pre.length = θ.off b/\bM D θ cells cs /\
  cells.length=m*size/\post.length = θ.ext b*size/\0<size/\m + θ.ext b<=maxLen/\Sf fz cfz (θ.off b) (pre.length+cs.length+post.length)
 | .map es clock,o=>∃ms:List Bg,o=.map ms.toArray clock/\dy D θ es ms
 | .mA s pos,o=>o=.stringIter ⟨s.toArray⟩ pos /\ θ.off b=0
 | .loop st pend f k tm d,o=>∃r:Loop,o=.loop r/\r.state=stR st/\r.pending=pend.map mP/\r.fn=f/\pU D θ tm r.tmps/\wF P f k r.tmps.size r.params r.assign r.body /\
  D d/\r.defers = θ.cm d
 | .deferred calls,o=>∃ds,o=.deferred ds/\(match calls,ds with
  |none,B5=>True
  |some l,B1 l'=>l=[]/\l'=[]
  |_,_=>False)
structure HR(P:Kb)(base:Nat)(D:Nat->Prop)(θ:Th)(H:ar)(w:NU):Prop where
 obj:∀b o,H.get b=B1 o->D b /\ ∃co,w.heap[θ.cm b]? = B1 co/\po P D θ b o co
 inj:∀b b' o o',H.get b=B1 o->H.get b'=B1 o'->own o=B4->b≠b' -> θ.cm b≠θ.cm b'
 lX:∀b o,H.get b=B1 o->own o=B4->base <= θ.cm b
 eH:∀g,g<P.globals.size->D g /\ θ.cm g=g /\ θ.off g=0
 low:base<=w.heap.size
def Lt(n:Nat):Nat->Prop:=λ b=>b<n
end Go.Am
namespace Go.Am
theorem zK(k o i:Nat):(⟨k,o,B5⟩:Addr).add i=⟨k,o+i,B5⟩:=by grind [Addr.add]
def fC(w:NU)(k:Nat)(o:Obj):World:={w with heap:=w.heap.setIfInBounds k o}
def T9(w:NU)(k:Nat)(o:Obj):(fC w k o).heap.size=w.heap.size:=by simp[fC]
theorem Ll(w:NU)(k j:Nat)(o:Obj)(h:k<w.heap.size):(fC w k o).heap[j]? = if k=j then B1 o else w.heap[j]?:=by
 grind [fC]
def xoa(w:NU)(k:Nat)(o o':Obj):fC (fC w k o) k o'=fC w k o':=by
 simp[fC]
def xn9(w:NU)(k:Nat)(o:Obj)(h:w.heap[k]? = B1 o):fC w k o=w:=by
 have:w.heap.setIfInBounds k o=w.heap:=by
  grind
 simp_all[fC]
def Ef(w:NU)(o:Obj)(j:Nat):(w.alloc o).heap[j]? = if j=w.heap.size then B1 o else w.heap[j]?:=by
 grind [NU.alloc]
section
variable{P:Kb}{w:NU}{k:Nat}{arr:Array M9}{e:ME}{fz:Nat×Nat}
theorem PK(h:w.heap[k]? = B1 (.cells arr e fz))(o:Nat):w.cell? ⟨k,o,B5⟩=arr[o]?:=by simp[World.cell?,h]
theorem xnu(h:w.heap[k]? = B1 (.cells arr e fz)){o:Nat}{v:M9}(a:arr[o]? = B1 v):(load ⟨k,o,B5⟩).run P w=.ok v w:=by
 rw[run_load,PK h,a]
def xd5(h:w.heap[k]? = B1 (.cells arr e fz))(o n:Nat)(hn:n<=arr.size-o) :
 (loadCells ⟨k,o,B5⟩ n).run P w=.ok ((arr.toList.drop o).take n).toArray w:=by
 have hl:((arr.toList.drop o).take n).length=n:=by grind
 grind [run_loadCells_list,zK,PK]
def TM(a:Nat):∀(vs:List M9)(i:Nat)(arr:Array M9)(w:NU),w.heap[k]? = B1 (.cells arr e fz) ->
 a+i+vs.length<=arr.size->(∀j,j<vs.length -> ¬(fz.1<=a+i+j/\a+i+j<fz.2))->(∀v∈vs,v.oneCell'=B4) ->
 (storeCells ⟨k,a,B5⟩ vs i).run P w=.ok () (fC w k (.cells (arr.toList.take (a+i)++vs++arr.toList.drop (a+i+vs.length)).toArray e fz))
 |[],i,arr,w,hg,_,_,_=>by
  simp only[storeCells,zm,j6,vq,yr,C6];rw[xn9 w k _ hg];rfl
 |v::rest,i,arr,w,hg,hl,hf,h1=>by
  have m:a+i<arr.size:=by grind
  have hk:k<w.heap.size:=(Uj.1 hg).1;have b:w.cell? ⟨k,a+i,B5⟩=B1 arr[a+i]:=by rw[PK hg];grind
  have d:w.frozen? ⟨k,a+i,B5⟩=false:=by
   have:=hf 0 (by simp)
   grind [NU.frozen?]
  have f:w.setCell ⟨k,a+i,B5⟩ v=fC w k (.cells (arr.setIfInBounds (a+i) v) e fz):=by
   simp only[NU.setCell,fC];congr 1
   grind
  have c:(store ((⟨k,a,B5⟩:Addr).add i) v).run P w=.ok () (fC w k (.cells (arr.setIfInBounds (a+i) v) e fz)):=by
   grind [zK,run_store]
  have h:=TM a rest (i+1) (arr.setIfInBounds (a+i) v) (fC w k (.cells (arr.setIfInBounds (a+i) v) e fz))
   (by grind [Ll]) (by grind)
   (λ j g=>by have:=hf (j+1) (by simpa using g);rwa [show a+i+(j+1)=a+(i+1)+j from by omega]at this)
   (by grind)
  simp only[storeCells,Nq,c,Nc,h,xoa];congr 3;have l:=list_seg_step arr.toList (a+i) v rest (by simp at hl⊢;omega);simp_all[wv]
end
def Up(D:Nat->Prop)(n m:Nat):Nat->Prop:=λ b=>D b\/(n<=b/\b<m)
def Up.of{D:Nat->Prop}{n m:Nat}:∀b,D b->Up D n m b:=λ _ h=>.inl h
def eC(D:Nat->Prop)(n m:Nat):Prop:=∀b,n<=b->b<m -> ¬D b
theorem Up.up{D:Nat->Prop}{n m k:Nat}(h:n<=m)(a:m<=k):Up (Up D n m) m k=Up D n k:=by
 funext b;simp only[Up,eq_iff_iff]
 grind
theorem Up.none{D:Nat->Prop}{n:Nat}:Up D n n=D:=by
 funext b;simp only[Up,eq_iff_iff]
 grind
def eC.left{D:Nat->Prop}{n m k:Nat}(h:eC D n k)(hk:m<=k):eC D n m:=λ b a c=>h b a (by omega)
def eC.right{D:Nat->Prop}{n m k:Nat}(h:eC D n k)(hm:n<=m):eC (Up D n m) m k:=λ b d c a=>by
 rcases a with a|⟨_,f⟩
 .exact h b (by omega) c a
 .omega
structure bD(D:Nat->Prop)(H:ar)(θ:Th)(w:NU)(H':ar)(θ':Th)(w':NU):Prop where
 au:H.au<=H'.au
 ag:Ag D θ θ'
 size:w.heap.size<=w'.heap.size
 os:w'.os=w.os
 tape:w'.tape=w.tape
 output:w'.output=w.output
 ah:∀k,k<w.heap.size->(∀b o,H.get b=B1 o->own o=B4 -> θ.cm b≠k)->w'.heap[k]? = w.heap[k]?
 news:∀b o,H'.get b=B1 o->own o=B4 -> θ'.cm b<w.heap.size -> ∃b' o',H.get b'=B1 o'/\own o'=B4 /\ θ.cm b' = θ'.cm b
theorem bD.refl(D:Nat->Prop)(H:ar)(θ:Th)(w:NU):bD D H θ w H θ w :=
 ⟨qm _,Ag.refl _ _,qm _,rfl,rfl,rfl,λ _ _ _=>rfl,λ b o h ho _=>(by grind)⟩
theorem bD.trans{D D':Nat->Prop}{H H' c:ar}{θ θ' θ'':Th}{w w' d:NU}(a:bD D H θ w H' θ' w')(b:bD D' H' θ' w' c θ'' d)(p:∀b,D b->D' b):bD D H θ w c θ'' d:=by
 refine⟨xy a.au b.au,a.ag.trans b.ag p,xy a.size b.size,b.os.trans a.os,b.tape.trans a.tape,b.output.trans a.output,?_,?_⟩
 .intro k hk g;refine(b.ah k (qn hk a.size) ?_).trans (a.ah k hk g);intro x o h ho he;have⟨i,o',j,l,n⟩:=a.news x o h ho (by omega)
  grind
 .intro x o h ho f;have⟨i,o',j,l,n⟩:=b.news x o h ho (qn f a.size);have⟨m,q,r,s,t⟩:=a.news i o' j l (by omega)
  grind
def bD.draw{D:Nat->Prop}{H:ar}{θ:Th}{w w':NU}(a:w'.heap=w.heap)(ho:w'.os=w.os)(c:w'.tape=w.tape)(hp:w'.output=w.output):bD D H θ w H θ w' :=
 ⟨qm _,Ag.refl _ _,by grind,ho,c,hp,λ _ _ _=>by rw[a],λ b o h hw _=>(by grind)⟩
def HR.draw{P:Kb}{base:Nat}{D:Nat->Prop}{θ:Th}{H:ar}{w w':NU}(h:HR P base D θ H w)(a:w'.heap=w.heap):HR P base D θ H w' :=
 ⟨λ b o hb=>by rw[a];exact h.obj b o hb,h.inj,h.lX,h.eH,by rw[a];exact h.low⟩
theorem dy.up{D D':Nat->Prop}{θ θ':Th}(ha:Ag D θ θ')(a:∀b,D b->D' b):∀(es:List (AV×AV×Nat))(ms:List Bg),dy D θ es ms->dy D' θ' es ms
 |[],[],_=>trivial
 |e::es,m::ms,⟨⟨h1,h2,h3⟩,h⟩=>⟨⟨h1.up ha a,h2.up ha a,h3⟩,dy.up ha a es ms h⟩
 |[],_::_,h=>h.elim
 |_::_,[],h=>h.elim
theorem po.up{P:Kb}{D D':Nat->Prop}{θ θ':Th}{b:Nat}{o:bF}{co:Obj}(h:po P D θ b o co)(hb:D b)(ha:Ag D θ θ')(n:∀b,D b->D' b):po P D' θ' b o co:=by
 have⟨e1,e2,A⟩:=ha b hb;cases o with
 |row cells e fz ow =>
  have⟨pre,cs,post,a,y,g,i,j,l⟩:=h;exact⟨pre,cs,post,a,y,g,by omega,j.up ha n,l⟩
 |grown m size cells e fz =>
  have⟨pre,cs,post,a,g,i,j,l,u,p,q,x⟩:=h;exact⟨pre,cs,post,a,g,by omega,j.up ha n,l,by grind,p,by omega,by grind⟩
 |map es clock =>
  have⟨ms,g,i⟩:=h;exact⟨ms,g,dy.up ha n _ _ i⟩
 |mA s pos=>exact⟨h.1,e2.trans h.2⟩
 |loop st pend f k tm d =>
  have⟨r,g,i,j,l,u,p,q,x⟩:=h;exact⟨r,g,i,j,l,λ t v z=>let⟨c,hc,hr⟩:=u t v z;⟨c,hc,hr.up ha n⟩,p,n d q,by rw[(ha d q).1];exact x⟩
 |deferred calls=>exact h
theorem HR.up{P:Kb}{base:Nat}{D D':Nat->Prop}{θ:Th}{H:ar}{w:NU}(h:HR P base D θ H w)(a:∀b,D b->D' b):HR P base D' θ H w :=
 ⟨λ b o hb=>let⟨h1,co,h2,h3⟩:=h.obj b o hb;⟨a b h1,co,h2,h3.up h1 (Ag.refl _ _) a⟩,h.inj,h.lX,λ g hg=>⟨a g (h.eH g hg).1,(h.eH g hg).2⟩,h.low⟩
section
variable{P:Kb}{base:Nat}{D:Nat->Prop}{θ:Th}{H:ar}{w:NU}
def HR.lt(h:HR P base D θ H w){b:Nat}{o:bF}(hb:H.get b=B1 o):θ.cm b<w.heap.size:=by
 have⟨_,co,a,_⟩:=h.obj b o hb
 grind
theorem ar.aJ(H:ar)(b a:Nat)(o:bF):(H.set b o).get a=if b=a then B1 o else H.get a:=T.aJ _ _ _ _
def ar.bN(H:ar)(a:Nat)(o:bF):(H.alloc o).get a=if H.au=a then B1 o else H.get a:=T.aJ _ _ _ _
theorem ar.rT(H:ar)(b a:Nat):(H.kill b).get a=if b=a then B5 else H.get a:=T.kO _ _ _ _
theorem HR.set(h:HR P base D θ H w){b:Nat}{o o':bF}{co':Obj}(hb:H.get b=B1 o)(ho:own o=B4)(p:own o'=B4)(hr:po P D θ b o' co') :
 HR P base D θ (H.set b o') (fC w (θ.cm b) co'):=by
 have i:=h.lt hb;refine⟨λ x f a=>?_,λ x y f j a g c d=>?_,λ x f a c=>?_,h.eH,by rw[T9];exact h.low⟩
 .rw [ar.aJ]at a
  by_cases e:b=x
  .subst e;simp only[ux,qk]at a;subst a;exact⟨(h.obj b o hb).1,co',by grind [Ll],hr⟩
  .simp only[e,pq]at a;have⟨l,co,m,n⟩:=h.obj x f a;exact⟨l,co,by rw[Ll _ _ _ _ i,qy (h.inj b x o f hb a ho e)];exact m,n⟩
 .rw [ar.aJ]at a g
  by_cases e:b=x<;>by_cases e':b=y
  .omega
  .subst e;simp only[e',pq]at g;exact h.inj b y o j hb g ho d
  .subst e';simp only[e,pq]at a;exact h.inj x b f o a hb c d
  .simp only[e,e',pq]at a g;exact h.inj x y f j a g c d
 .rw [ar.aJ]at a
  by_cases e:b=x
  .subst e;exact h.lX b o hb ho
  .simp only[e,pq]at a;exact h.lX x f a c
theorem bD.set{b:Nat}{o o':bF}{co':Obj}(hb:H.get b=B1 o)(ho:own o=B4)(a:θ.cm b<w.heap.size) :
 bD D H θ w (H.set b o') θ (fC w (θ.cm b) co'):=by
 refine⟨qm _,Ag.refl _ _,by simp_all[T9],rfl,rfl,rfl,λ k hk c=>?_,λ x g f d _=>?_⟩
 .simp_all [Ll]
 .rw [ar.aJ]at f
  grind
def Th.add(θ:Th)(n cm off ext:Nat):Th:={cm:=λ b=>if b=n then cm else θ.cm b,off:=λ b=>if b=n then off else θ.off b,ext:=λ b=>if b=n then ext else θ.ext b}
def Th.eR(θ:Th)(n cm off ext:Nat):(θ.add n cm off ext).cm n=cm/\(θ.add n cm off ext).off n=off/\(θ.add n cm off ext).ext n=ext:=by simp[Th.add]
def Th.hJ(θ:Th)(n cm off ext:Nat){D:Nat->Prop}(hn:¬D n):Ag D θ (θ.add n cm off ext):=λ b hb=>by
 grind [Th.add]
end
section
variable{P:Kb}{base:Nat}{D:Nat->Prop}{θ:Th}{H:ar}{w:NU}
theorem HR.alloc(h:HR P base D θ H w)(hn:¬D H.au){o:bF}{co:Obj}{k off ext:Nat}{w':NU}(hk:w'.heap[k]? = B1 co)(p:∀j,j<w.heap.size->w'.heap[j]? = w.heap[j]?)(u:w.heap.size<=k)
 (hs:w.heap.size<=w'.heap.size) (hr:po P (Up D H.au (H.au+1)) (θ.add H.au k off ext) H.au o co) :
 HR P base (Up D H.au (H.au+1)) (θ.add H.au k off ext) (H.alloc o) w':=by
 have d:=Th.hJ θ H.au k off ext hn;have⟨e1,e2,v⟩:=Th.eR θ H.au k off ext;have old:∀x b,H.get x=B1 b->(θ.add H.au k off ext).cm x = θ.cm x:=λ x b a=>(d x (h.obj x b a).1).1;refine⟨λ x b a=>?_,λ x y b q a i f m=>?_,λ x b a f=>?_,λ g hg=>?_,by have:=h.low;omega⟩
 .rw [ar.bN]at a
  by_cases e:H.au=x
  .subst e;simp only[ux,qk]at a;subst a;exact⟨.inr ⟨qm _,zt _⟩,co,by rw[e1];exact hk,hr⟩
  .simp only[e,pq]at a;have⟨l,c,r,n⟩:=h.obj x b a;refine⟨.inl l,c,?_,n.up l d Up.of⟩
   grind
 .rw [ar.bN]at a i
  by_cases e:H.au=x<;>by_cases e':H.au=y
  .exact absurd (e.symm.trans e') m
  .subst e;simp only[e',pq]at i;rw[e1,old y q i];have:=h.lt i;omega
  .subst e';simp only[e,pq]at a;rw[e1,old x b a];have:=h.lt a;omega
  .simp only[e,e',pq]at a i;rw[old x b a,old y q i];exact h.inj x y b q a i f m
 .rw [ar.bN]at a
  by_cases e:H.au=x
  .subst e;rw[e1];have:=h.low;omega
  .simp only[e,pq]at a;rw[old x b a];exact h.lX x b a f
 .have ⟨l,r,n⟩:=h.eH g hg;have⟨s,t,_⟩:=d g l;exact⟨.inl l,s.trans r,t.trans n⟩
theorem bD.alloc(h:HR P base D θ H w)(hn:¬D H.au)(o:bF)(co:Obj)(off ext:Nat):bD D H θ w (H.alloc o) (θ.add H.au w.heap.size off ext) (w.alloc co):=by
 have a:=Th.hJ θ H.au w.heap.size off ext hn;have⟨e1,e2,g⟩:=Th.eR θ H.au w.heap.size off ext;refine⟨jx _,a,by simp,rfl,rfl,rfl,λ k hk _=>?_,λ x f b d c=>?_⟩
 .rw [Ef,qy (MN hk)]
 .rw [ar.bN]at b
  by_cases e:H.au=x
  .grind
  .simp only[e,pq]at b;have:=(a x (h.obj x f b).1).1
   grind
end
section
variable{P:Kb}{base:Nat}{D:Nat->Prop}{θ:Th}{H:ar}{w:NU}
def HR.cells(h:HR P base D θ H w){b:Nat}{l:List AV}(hb:H.bV b=B1 l) :
 ∃pre cs post e fz,w.heap[θ.cm b]? = B1 (.cells (pre++cs++post).toArray e fz)/\pre.length = θ.off b/\bM D θ l cs:=by
 unfold ar.bV at hb;cases hg:H.get b with
 |none=>grind
 |some o =>
  rw[hg]at hb;have⟨_,co,i,hr⟩:=h.obj b o hg;cases o with
  |row cells e fz ow =>
   have⟨pre,cs,post,a,g,c,d,f,_⟩:=hr
   grind
  |grown m size cells e fz =>
   have⟨pre,cs,post,a,c,d,f,_⟩:=hr
   grind
  |map _ _=>cases hb
  |mA _ _=>cases hb
  |loop _ _ _ _ _ _=>cases hb
  |deferred _=>cases hb
def xhq(pre cs post:List M9)(o n:Nat)(h:n<=cs.length-o):(((pre++cs++post).toArray.toList.drop (pre.length+o)).take n)=(cs.drop o).take n:=by
 simp_all[Hk,Qu]
def HR.ae(h:HR P base D θ H w){b o:Nat}{v:AV}(hl:H.ae b o=B1 v) :
 ∃c,(load ⟨θ.cm b,θ.off b+o,B5⟩).run P w=.ok c w/\VR D θ v c:=by
 unfold ar.ae at hl;cases a:H.bV b with
 |none=>grind
 |some l =>
  rw[a]at hl;have⟨pre,cs,post,e,fz,i,j,d⟩:=h.cells a;simp only[qr,kA]at hl;have⟨c,f,g⟩:=d.qY hl
  grind [xnu]
def HR.aq(h:HR P base D θ H w){b o n:Nat}{l:List AV}(hl:H.aq b o n=B1 l) :
 ∃cs:List M9,(loadCells ⟨θ.cm b,θ.off b+o,B5⟩ n).run P w=.ok cs.toArray w/\bM D θ l cs/\l.length=n:=by
 unfold ar.aq at hl;cases c:H.bV b with
 |none=>grind
 |some l0 =>
  rw[c]at hl;have⟨pre,cs,post,e,fz,d,f,a⟩:=h.cells c;simp only[qr,tj]at hl;split at hl
  .rename_i hn;cases hl;have hlen:=a.length;refine⟨(cs.drop o).take n,?_,(a.drop o).take n,by grind⟩;rw[<-f,xd5 d (pre.length+o) n (by grind),xhq pre cs post o n (by omega)]
  grind
theorem xdq{v:AV}{c:M9}(h:VR D θ v c)(a:aB v=B4):c.oneCell'=true:=by
 rw[<-h.now];cases v<;>simp_all[aB,az,M9.oneCell']
theorem vg(l:List AV):aN l=l.all aB:=by
 induction l with
 |nil=>rfl
 |cons x l ih =>
  show cond (aB x) (aN l) B2=_
  grind
def q3w{l:List AV}{cs:List M9}(h:bM D θ l cs)(b:aN l=B4):∀c∈cs,c.oneCell'=true:=by
 intro c d;have⟨i,m⟩:=LH d;rw[vg,FV]at b;have a:i<l.length:=by rw[<-h.length];grind
 have⟨f,g,j⟩:=h.qY (xf a)
 grind [xdq]
end
end Go.Am
namespace Go.Am
def sN(P:Kb)(s:Sem Next)(w:NU)(c:M9)(w':NU):Prop:=s.run P w=.ok (.value c) w'\/(s.run P w=.ok .skip w'/\c=Go.undef)
def dp(P:Kb)(o:PI)(xs:List Mx)(f:List AV->Option AV):Prop :=
 ∀(D:Nat->Prop)θ(ρ:Mx->M9)w vs v,bM D θ vs (xs.map ρ)->f vs=B1 v -> ∃c,sN P (execOp ρ o) w c w/\VR D θ v c
section
variable{P:Kb}{w:NU}
def kz{t:ME}{d:TypeDesc}(h:P.underlying t=B1 d):(underlying t).run P w=.ok d w:=run_underlying h w
def uT{t:ME}{n:Nat}(h:bU P t=B1 n):(sizeOf t).run P w=.ok n w:=by
 unfold bU at h;cases a:P.info? t with
 |none=>grind
 |some i=>simp_all[sizeOf,typeInfo]
def qzs{t:ME}{n:Nat}(h:bU P t=B1 n):∃i,P.info? t=B1 i/\i.size=n:=by
 unfold bU at h;cases a:P.info? t with
 |none=>grind
 |some i=>grind
def Tk{t:ME}{n:Option Nat}(h:oe P t=B1 n):(isAgg t).run P w=.ok n.isSome w /\ ∀k,n=B1 k->(sizeOf t).run P w=.ok k w:=by
 unfold oe at h;cases hu:P.underlying t with
 |none=>grind
 |some d =>
  rw[hu]at h;cases d
  case struct fs =>
   simp only at h;cases hs:bU P t with
   |none=>grind
   |some m =>
    rw[hs]at h;cases h;simp_all[isAgg,kz,uT]
  case array m e =>
   simp only at h;cases hs:bU P t with
   |none=>grind
   |some m =>
    rw[hs]at h;cases h;simp_all[isAgg,kz,uT]
  all_goals
   (cases h
    simp_all[isAgg,kz])
mutual
def WS(θ:Th):∀(c:M9)(v:AV),gh c=B1 v->az θ v=c
 | .bool b,v,h=>by simp[gh]at h;subst h;rfl
 | .int k n,v,h=>by simp[gh]at h;subst h;rfl
 | .string s,v,h=>by simp[gh]at h;subst h;simp[az]
 | .pointer B5,v,h=>by simp[gh]at h;subst h;rfl
 | .pointer (B1 a),v,h=>by grind [gh]
 | .slice B5 0 0,v,h=>by simp[gh]at h;subst h;rfl
 | .slice B5 0 (n+1),v,h=>by grind [gh]
 | .slice B5 (n+1) c,v,h=>by grind [gh]
 | .slice (B1 a) n c,v,h=>by grind [gh]
 | .map B5,v,h=>by simp[gh]at h;subst h;rfl
 | .map (B1 r),v,h=>by grind [gh]
 | .nilFunc,v,h=>by simp[gh]at h;subst h;rfl
 | .nilIface,v,h=>by simp[gh]at h;subst h;rfl
 | .iface t x,v,h=>by
  simp only[gh]at h;cases d:gh x with
  |none=>grind
  |some y=>rw[d]at h;cases h;simp[az,WS θ x y d]
 | .agg cs,v,h=>by
  simp only[gh]at h;cases d:nQ cs.toList with
  |none=>grind
  |some l=>rw[d]at h;cases h;simp[az,YV θ cs.toList l d]
 | .tuple cs,v,h=>by
  simp only[gh]at h;cases d:nQ cs.toList with
  |none=>grind
  |some l=>rw[d]at h;cases h;simp[az,YV θ cs.toList l d]
 | .float _ _,v,h=>by grind [gh]
 | .complex _ _ _,v,h=>by grind [gh]
 | .chan _,v,h=>by grind [gh]
 | .func _ _ _,v,h=>by grind [gh]
def YV(θ:Th):∀(cs:List M9)(l:List AV),nQ cs=B1 l->bR θ l=cs
 |[],l,h=>by simp[nQ]at h;subst h;rfl
 |c::cs,l,h=>by
  simp only[nQ]at h;cases a:gh c with
  |none=>grind
  |some y =>
   rw[a]at h;simp only[qr]at h;cases b:nQ cs with
   |none=>grind
   |some ys=>rw[b]at h;cases h;simp[bR,WS θ c y a,YV θ cs ys b]
end
def TT{D:Nat->Prop}{θ:Th}{c:M9}{v:AV}(h:gh c=B1 v):VR D θ v c:=λ θ' _=>WS θ' c v h
def L9{t:ME}{z:AV}(h:zeroOf P t=B1 z):∃c,(zeroValue t).run P w=.ok c w /\ ∀D θ,VR D θ z c:=by
 unfold zeroOf at h;cases a:P.info? t with
 |none=>grind
 |some i =>
  rw[a]at h;simp only[qr]at h;cases b:i.zero with
  |none=>grind
  |some c=>simp_all[zeroValue,typeInfo,TT]
end
section
variable{D:Nat->Prop}{θ:Th}
def VR.cells{v:AV}{c:M9}(h:VR D θ v c):bM D θ v.cells c.cells.toList:=by
 intro θ' ha;have a:=h θ' ha;subst a;cases v<;>simp[AV.cells,az,M9.cells,bR]
end
section
variable{P:Kb}{D:Nat->Prop}{θ:Th}{ρ:Mx->M9}{w:NU}
theorem bM.iP{x:Mx}{vs:List AV}(h:bM D θ vs ([x].map ρ)):∃v,vs=[v]/\VR D θ v (ρ x):=by
 cases vs with
 |nil=>have:=h.length;grind
 |cons v vs =>
  have⟨c,cs,a,d,b⟩:=h.eE;simp only[kh,FD,z8]at a;obtain⟨rfl,rfl⟩:=a;have:=b.length
  grind
theorem bM.tD{x y:Mx}{vs:List AV}(h:bM D θ vs ([x,y].map ρ)):∃a b,vs=[a,b]/\VR D θ a (ρ x)/\VR D θ b (ρ y):=by
 cases vs with
 |nil=>have:=h.length;grind
 |cons v vs =>
  have⟨c,cs,d,f,g⟩:=h.eE
  grind [bM.iP]
def bM.tc{x y z:Mx}{vs:List AV}(h:bM D θ vs ([x,y,z].map ρ)):∃a b c,vs=[a,b,c]/\VR D θ a (ρ x)/\VR D θ b (ρ y)/\VR D θ c (ρ z):=by
 cases vs with
 |nil=>have:=h.length;grind
 |cons v vs =>
  have⟨c,cs,d,f,g⟩:=h.eE
  grind [bM.tD]
def d_{o:PI}{x:Mx}(ho:o.op=.move x\/o.op=.assign x):dp P o [x] Op.move:=by
 intro D θ ρ w vs v h b;obtain⟨a,rfl,ha⟩:=bM.iP h;simp only[Op.move,qk]at b;subst b;refine⟨ρ x,.inl ?_,ha⟩;rcases ho with ho|ho<;>simp[execOp,ho]
def xnh{o:PI}{c a b:Mx}(ho:o.op=.pick c a b):dp P o [c,a,b] Op.pick:=by
 intro D θ ρ w vs v h g;obtain⟨q,x,y,rfl,l,m,n⟩:=bM.tc h;unfold Op.pick at g;split at g
 .rename_i i p r heq;injection heq with j d;subst j;injection d with d f;subst d;injection f with f _;subst f
  cases g;have hb:ρ c=.bool i:=l.now.symm;cases i
  .exact ⟨ρ b,.inl (by simp[execOp,ho,hb,asBool]),n⟩
  .exact ⟨ρ a,.inl (by simp[execOp,ho,hb,asBool]),m⟩
 grind
def GA{o:PI}{op:UnOp}{t:ME}{x:Mx}(ho:o.op=.unOp op t x):dp P o [x] (Op.un op):=by
 intro D θ ρ w vs v h b;obtain⟨a,rfl,ha⟩:=bM.iP h;simp only[Op.un,S1]at b;have hr:=ha.now;split at b
 .rename_i k n;cases b;exact⟨_,.inl (by simp[execOp,ho,<-hr,az,Cn.unary,Cn.intArith]<;>rfl),.int _ _⟩
 .rename_i k n;simp only[gK]at b;cases b;exact⟨_,.inl (by simp[execOp,ho,<-hr,az,Cn.unary,Cn.intBits]<;>rfl),.int _ _⟩
 .cases b;exact⟨_,.inl (by simp[execOp,ho,<-hr,az,Cn.unary]),.bool _⟩
 grind
def xni{o:PI}{src dst:ME}{x:Mx}{k j:P0}(ho:o.op=.convert src dst x)(c:P.underlying src=B1 (.int j))(d:P.underlying dst=B1 (.int k)):dp P o [x] (Op.wrap k):=by
 intro D θ ρ w vs v h b;obtain⟨a,rfl,ha⟩:=bM.iP h;have hr:=ha.now;unfold Op.wrap at b;split at b
 .rename_i k' n heq;cases heq;cases b;exact⟨_,.inl (by simp[execOp,ho,<-hr,az,convert,kz c,kz d,Conv.intToInt]<;>rfl),.int _ _⟩
 grind
def xdx{o:PI}{t:ME}{x:Mx}(ho:o.op=.makeInterface t x)(g:∃d,P.underlying t=B1 d/\(match d with| .interface _=>B2|_=>B4)=B4):dp P o [x] (Op.dF t):=by
 intro D θ ρ w vs v h b;obtain⟨a,rfl,ha⟩:=bM.iP h;simp only[Op.dF,qk]at b;subst b;have⟨d,c,f⟩:=g;refine⟨.iface t (ρ x),.inl ?_,ha.iface⟩;cases d<;>simp_all[execOp,Instr.makeInterface,kz c]
def xf9{o:PI}{f:FuncId}{a b:Array Mx}(ho:o.op=.makeFunc (.func f) a b):dp P o (a.toList++b.toList) (Op.bt f a.size):=by
 intro D θ ρ w vs v h c;simp only[Op.bt,qk]at c;subst c;refine⟨.func (.func f) (a.map ρ) (b.map ρ),.inl (by simp[execOp,ho,Instr.makeFunc]),λ θ' hg=>?_⟩;have d:=(h.take a.size) θ' hg;have g:=(h.drop a.size) θ' hg;simp only[az,fP,d,g];congr 1
 .grind
 grind
def xdv{o:PI}{x:Mx}{i:Nat}(ho:o.op=.extract x i):dp P o [x] (Op.extract i):=by
 intro D θ ρ w vs v h b;obtain⟨a,rfl,ha⟩:=bM.iP h;unfold Op.extract at b;split at b
 .rename_i l heq;cases heq;have⟨cs,g,hl⟩:=ha.zX;rw[kA]at b;have⟨c,d,f⟩:=hl.qY b;exact⟨c,.inl (by simp[execOp,ho,g,Instr.extract,d]),f⟩
 grind
def MQ{o:PI}{c:Call}{b:Builtin}(ho:o.op=.call c)(a:c.callee=.builtin b) :
 ∃consts,execOp ρ o=builtin b c.argTypes o.type consts (c.args.map ρ):=by
 refine⟨c.args.map λ| .const _=>B4|_=>B2,?_⟩
 grind [execOp,resolve,invoke]
def AR{c:Call}{xs:List Mx}(a:c.args.toList=xs):c.args.map ρ = (xs.map ρ).toArray:=by
 grind
def bM.qC{xs:List Mx}{a:AV}(h:bM D θ [a] (xs.map ρ)):∃x,xs=[x]/\VR D θ a (ρ x):=by
 have:=h.length
 match xs,this,h with
 |[x],_,h=>grind [bM.iP]
def bM.qT{xs:List Mx}{a b:AV}(h:bM D θ [a,b] (xs.map ρ)):∃x y,xs=[x,y]/\VR D θ a (ρ x)/\VR D θ b (ρ y):=by
 have:=h.length
 match xs,this,h with
 |[x,y],_,h =>
  grind [bM.tD]
theorem K9(s:List UInt8):(⟨s.toArray⟩:ByteArray).size=s.length:=by simp[ByteArray.size]
def xj2{o:PI}{c:Call}{xs:List Mx}{t e:ME}(ho:o.op=.call c)(f:c.callee=.builtin .len)(d:c.args.toList=xs)(b:c.argTypes[0]? = B1 t)
 (hu:P.underlying t=B1 (.slice e)):dp P o xs Op.ct:=by
 intro D θ ρ w vs v h a;have⟨consts,he⟩:=MQ (ρ:=ρ) ho f;unfold Op.ct at a;split at a
 .obtain ⟨x,rfl,ha⟩:=h.qC;cases a;refine⟨_,.inl ?_,.int _ _⟩;rw[he,AR d];simp[builtin,D2,kz hu,b,<-ha.now,az,goInt]<;>rfl
 .obtain ⟨x,rfl,ha⟩:=h.qC;cases a;refine⟨_,.inl ?_,.int _ _⟩;rw[he,AR d];simp[builtin,D2,kz hu,b,<-ha.now,az,goInt]<;>rfl
 .obtain ⟨x,rfl,ha⟩:=h.qC;cases a;refine⟨_,.inl ?_,.int _ _⟩;rw[he,AR d];simp[builtin,D2,kz hu,b,<-ha.now,az,goInt]<;>rfl
 .obtain ⟨x,rfl,ha⟩:=h.qC;cases a;refine⟨_,.inl ?_,.int _ _⟩;rw[he,AR d];simp[builtin,D2,kz hu,b,<-ha.now,az,goInt]<;>rfl
 grind
def xja{op:BinOp}{k:P0}{a b:Int}{v:AV}(hs:d9 op=B2)(h:gK op k a b=B1 v)(t:ME) :
 ∃c,(binOp op t (.int k a) (.int k b)).run P w=.ok c w/\VR D θ v c:=by
 cases op<;>simp only[gK,d9,qk,EE,LA,Ol,Bool.true_eq_false]at h hs
 case quo =>
  cases hb:(b == 0)<;>rw[hb]at h<;>simp at h;subst h;exact⟨_,by simp[binOp,Cn.intDiv,by simpa using hb]<;>rfl,.int _ _⟩
 case rem =>
  cases hb:(b == 0)<;>rw[hb]at h<;>simp at h;subst h;exact⟨_,by simp_all[binOp,Cn.intDiv],.int _ _⟩
 all_goals
  subst h
  first|refine⟨_,?_,VR.int _ _⟩|refine⟨_,?_,VR.bool _⟩
  simp only[binOp,ne_eq,not_true_eq_false,pq,Cn.intBits,Cn.intArith,Cn.intCmp];rfl
def xcd(a b:List UInt8):bytesLess a b=Cn.bytesLess a b:=by
 induction a generalizing b with
 |nil=>cases b<;>rfl
 |cons x a ih=>cases b with
  |nil=>rfl
  |cons y b =>
   simp only[bytesLess,Cn.bytesLess,ih,VI];congr 1;rw[Cf];simp[UInt8.lt_iff_toNat_lt]
def C_(s:List UInt8):(⟨s.toArray⟩:ByteArray).toList=s:=by rw[ByteArray.toList_eq]
def xkk{op:BinOp}{a b:List UInt8}{v:AV}(h:rI op a b=B1 v)(t:ME) :
 ∃c,(binOp op t (.string ⟨a.toArray⟩) (.string ⟨b.toArray⟩)).run P w=.ok c w/\VR D θ v c:=by
 cases op<;>simp only[rI,qk,reduceCtorEq,L4,xcd]at h
 case add =>
  cases hb:Oc (a.length+b.length) 140737488355328<;>rw[hb]at h<;>simp at h;subst h;have hle:a.length+b.length<=140737488355328:=by simp_all
  refine⟨.string (⟨a.toArray⟩++⟨b.toArray⟩),?_,λ θ' _=>?_⟩
  .simp only[binOp,Cn.stringOp,K9,Sem.run_ite];rw[qy (by grind [P0.max,IntKind.bits])];rfl
  .show M9.string ⟨(a++b).toArray⟩=_;congr 1
 all_goals
  subst h;exact⟨_,by simp[binOp,Cn.stringOp]<;>rfl,.bool _⟩
def _T{o:PI}{op:BinOp}{t p:ME}{x y:Mx}(ho:o.op=.binOp op t x y p):dp P o [x,y] (Op.bin op):=by
 intro D θ ρ w vs v h d;obtain⟨a,b,rfl,ha,hb⟩:=bM.tD h;simp only[Op.bin,nI]at d;have g:=ha.now;have i:=hb.now;have guard:∀(u n:M9),(∀l,u≠ .agg l)->u≠ .nilIface->(eqGuard op t x y u n).run P w=.ok () w:=by
  intro u n q r;unfold eqGuard;cases u<;>cases op<;>simp_all
 split at d
 .rename_i k a k' b;cases hs:d9 op
  .rw [hs]at d;simp only[zn,T7]at d
   by_cases hk:k=k'
   .subst hk;simp only[decide_true,xu]at d;have⟨c,m,j⟩:=xja (P:=P) (w:=w) (D:=D) (θ:=θ) hs d t;refine⟨c,.inl ?_,j⟩;have hg:=guard (.int k a) (.int k b) (λ _=>by simp) (by simp);simp_all[execOp,az]
   grind
  .rw [hs]at d;simp only[xu,t9,LA]at d
   by_cases f:b<0
   .grind
   .simp only[f,J5,zn]at d;have hg:=guard (.int k a) (.int k' b) (λ _=>by simp) (by simp);cases op<;>simp only[d9,zq]at hs
    all_goals
     cases d;exact⟨_,.inl (by simp[execOp,ho,<-g,<-i,az,hg,binOp,Cn.shift,f]<;>rfl),.int _ _⟩
 .rename_i a b;have⟨c,m,j⟩:=xkk (P:=P) (w:=w) (D:=D) (θ:=θ) d t;have hg:=guard (.string ⟨a.toArray⟩) (.string ⟨b.toArray⟩) (λ _=>by simp) (by simp);exact⟨c,.inl (by simp[execOp,ho,<-g,<-i,az,hg,m]),j⟩
 grind
end
end Go.Am
namespace Go.Am
section
variable{P:Kb}{D:Nat->Prop}{θ:Th}{ρ:Mx->M9}{w:NU}
def Ks{t:ME}{l:List AV}{cs:List M9}{off:Nat}{n:Option Nat}{v:AV}(hn:oe P t=B1 n)(hl:bM D θ l cs)(h:partAt l off n=B1 v) :
 ∃c,(part t cs.toArray off).run P w=.ok c w/\VR D θ v c:=by
 have⟨a,b⟩:=Tk (w:=w) hn;cases n with
 |none =>
  simp only[partAt,kA]at h;have⟨c,d,f⟩:=hl.qY h;simp_all[part]
 |some k =>
  simp only[partAt,tj]at h;split at h
  .rename_i hk;cases h;refine⟨.agg ((cs.drop off).take k).toArray,?_,VR.agg ((hl.drop off).take k)⟩;have hlen:=hl.length;simp only[part,Nq,a,Nc,vy,ux,b k rfl];simp_all
  grind
def Ug{i:Int}{n k:Nat}(h:within i n=B1 k):i=(k:Int)/\k<n:=by
 unfold within at h;cases i with
 |ofNat m =>
  grind [yN]
 |negSucc m=>cases h
def q74{o:PI}{t:ME}{x:Mx}{i:Nat}{fs:Array Field}{f:Field}{n:Nat}(ho:o.op=.fieldAddr t x i)(j:P.underlying t=B1 (.struct fs))(g:fs[i]? = B1 f)(hn:bU P f.type=B1 n)(a:n≠0) :
 dp P o [x] (Op.fieldAddr f.offset):=by
 intro D θ ρ w vs v h c;unfold Op.fieldAddr at c;split at c
 .rename_i b d;have⟨y,heq,ha⟩:=h.qC;injection heq with heq _;subst heq
  cases c;have hr:=ha.now;refine⟨.pointer (B1 ⟨θ.cm b,θ.off b+d+f.offset,B5⟩),.inl ?_,λ θ' hg=>?_⟩
  .simp [execOp,ho,Instr.fieldAt,kz j,g,<-hr,az,C7,fieldPlace,uT hn,a,zK]
  .have:=ha θ' hg
   grind [az]
 grind
def xba{o:PI}{t e:ME}{x i:Mx}{len size:Nat}{n:Option Nat}(ho:o.op=.index t x i)(q:P.underlying t=B1 (.array len e))(hs:bU P e=B1 size)(hn:oe P e=B1 n) :
 dp P o [x,i] (Op.bG len size n):=by
 intro D θ ρ w vs v h b;unfold Op.bG at b;split at b
 .rename_i l k j;have⟨y,z,heq,ha,hb⟩:=h.qT;injection heq with d a;injection a with a _;subst d;subst a
  cases hw:within j len with
  |none=>grind
  |some m =>
   rw[hw]at b;obtain⟨rfl,p⟩:=Ug hw;have⟨cs,f,hl⟩:=ha.fy;have⟨c,d,a⟩:=Ks (w:=w) hn hl b;refine⟨c,.inl ?_,a⟩;have g:(0:Int)<=(m:Int)/\(m:Int)<(len:Int):=by omega
   simp[execOp,ho,Instr.index,kz q,f,<-hb.now,az,asIntOf,g,uT hs,d];omega
 grind
def xbc{o:PI}{t:ME}{x i:Mx}(ho:o.op=.index t x i)(l:P.underlying t=B1 .string):dp P o [x,i] Op.bO:=by
 intro D θ ρ w vs v h a;unfold Op.bO at a;split at a
 .rename_i s k j;have⟨y,z,heq,ha,hb⟩:=h.qT;injection heq with f b;injection b with b _;subst f;subst b
  cases hw:within j s.length with
  |none=>grind
  |some m =>
   rw[hw]at a;obtain⟨rfl,c⟩:=Ug hw;simp only[qr,kA]at a;obtain⟨u,hu⟩:∃u,s[m]? = B1 u:=⟨_,xf c⟩
   rw[hu]at a;cases a;refine⟨.int .u8 u.toNat,.inl ?_,.int _ _⟩;have d:(0:Int)<=(m:Int):=by omega
   have hg:getElem? (⟨s.toArray⟩:ByteArray) m=B1 u:=by
    have n:m<(⟨s.toArray⟩:ByteArray).size:=by grind [K9]
    rw[getElem?_pos (⟨s.toArray⟩:ByteArray) m n];have g:=(qo.1 hu).2;simp only[qk];exact g
   simp[execOp,ho,Instr.index,kz l,<-ha.now,<-hb.now,az,asIntOf,d,hg]
 grind
def q4p{x:AV}{c:M9}{size j b o:Nat}(h:VR D θ x c)(he:elemAt size x j=B1 (b,o)) :
 ∃n m,c=.slice (B1 ⟨θ.cm b,θ.off b+o-j*size,B5⟩) n m/\j<n/\j*size<=o/\(∀θ',Ag D θ θ' -> θ'.cm b = θ.cm b /\ θ'.off b+o = θ.off b+o):=by
 have hr:=h.now;unfold elemAt at he;split at he
 .rename_i d o' n' i;cases hb:PE j n'<;>rw[hb]at he
  .cases he
  .simp only[xu,qk,zj]at he;obtain⟨rfl,rfl⟩:=he;refine⟨n',i,?_,by simp_all,by omega,λ θ' ha=>?_⟩
   .grind [az]
   .have:=h θ' ha;grind [az]
 .rename_i d f g p a n';cases hb:(PE j n' && J2 p size && PE (f+j) g)<;>rw[hb]at he
  .cases he
  .simp only[xu,qk,zj]at he;obtain⟨rfl,rfl⟩:=he;simp only[ze,yN,ke]at hb;obtain⟨⟨l,rfl⟩,q⟩:=hb;refine⟨n',g-f + θ.ext d,?_,l,by omega,λ θ' ha=>?_⟩
   .rw [<-hr];simp only[az];grind
   .have:=h θ' ha;rw[<-hr]at this;simp only[az,BR,qk,C1]at this
    grind
 grind
def xdw{o:PI}{t e:ME}{x i:Mx}{size:Nat}(ho:o.op=.indexAddr t x i)(B:P.underlying t=B1 (.slice e))(hs:bU P e=B1 size) :
 dp P o [x,i] (Op.aQ size):=by
 intro D θ ρ w vs v h d;unfold Op.aQ at d;split at d
 .rename_i a k j;have⟨y,z,heq,ha,hb⟩:=h.qT;injection heq with l g;injection g with g _;subst l;subst g
  cases hl:eJ a with
  |none=>grind
  |some n0 =>
   rw[hl]at d;simp only[qr]at d;cases hw:within j n0 with
   |none=>grind
   |some m =>
    rw[hw]at d;simp only[qr]at d;obtain⟨rfl,u⟩:=Ug hw;cases he:elemAt size a m with
    |none=>grind
    |some p =>
     have⟨b,f⟩:=p;rw[he]at d;cases d;have⟨n,c,q,s,hle,A⟩:=q4p ha he;refine⟨.pointer (B1 ⟨θ.cm b,θ.off b+f,B5⟩),.inl ?_,λ θ' hg=>?_⟩
     .have r:(0:Int)<=(m:Int)/\(m:Int)<(n:Int):=by omega
      have heq:θ.off b+f-m*size+m*size = θ.off b+f:=by omega
      simp[execOp,ho,Instr.indexAt,kz B,q,<-hb.now,az,asIntOf,r,uT hs,zK,heq];omega
     grind [az]
 grind
def xbb{o:PI}{t e:ME}{x i:Mx}{len size:Nat}(ho:o.op=.indexAddr t x i)(n:P.underlying t=B1 (.array len e))(hs:bU P e=B1 size) :
 dp P o [x,i] (Op.aU len size):=by
 intro D θ ρ w vs v h a;unfold Op.aU at a;split at a
 .rename_i b d k j;have⟨y,z,heq,ha,hb⟩:=h.qT;injection heq with f c;injection c with c _;subst f;subst c
  cases hw:within j len with
  |none=>grind
  |some m =>
   rw[hw]at a;cases a;obtain⟨rfl,l⟩:=Ug hw;have g:(0:Int)<=(m:Int)/\(m:Int)<(len:Int):=by omega
   refine⟨.pointer (B1 ⟨θ.cm b,θ.off b+d+m*size,B5⟩),.inl ?_,λ θ' hg=>?_⟩
   .simp [execOp,ho,Instr.indexAt,kz n,<-ha.now,<-hb.now,az,asIntOf,C7,g,uT hs,zK];omega
   .have:=ha θ' hg;rw[<-ha.now]at this
    grind [az]
 grind
def xbd{o:PI}{x:Mx}(ho:o.op=.nilCheck x):dp P o [x] Op.nilCheck:=by
 intro D θ ρ w vs v h b;obtain⟨a,rfl,ha⟩:=bM.iP h;have hr:=ha.now;unfold Op.nilCheck at b;split at b
 .cases b
 .cases b
 .cases b
 .rename_i f d g heq;injection heq with heq;subst heq
  injection b with b;subst b
  exact⟨ρ x,.inl (by simp[execOp,ho,<-hr,az,fP]),ha⟩
 .cases b
 .rename_i c i j l m n heq;injection heq with heq;subst heq
  injection b with b;subst b
  refine⟨ρ x,.inl ?_,ha⟩;have p:=hr.symm;clear hr ha h;cases a
  case nilp=>grind
  case nili=>grind
  case nilf=>grind
  case fn f' c b'=>grind
  all_goals simp_all[az,execOp]
 grind
def xhj(off:Nat):∀(cs:List M9)(j:Nat)(arr:List M9),off+j+cs.length<=arr.length ->
 ((cs.zipIdx j).foldl (λ acc(p:M9×Nat)=>acc.setIfInBounds (off+p.2) p.1) arr.toArray)=(arr.take (off+j)++cs++arr.drop (off+j+cs.length)).toArray
 |[],j,arr,_=>by simp
 |c::cs,j,arr,h=>by
  simp only[List.zipIdx_cons,List.foldl_cons,List.setIfInBounds_toArray];rw[xhj off cs (j+1) (arr.set (off+j) c) (by grind)];congr 1;have a:=list_seg_step arr (off+j) c cs (by simp at h⊢;omega)
  simpa[wv]using a
theorem xmq(off:Nat)(cs:Array M9)(arr:List M9)(h:off+cs.size<=arr.length) :
 (cs.zipIdx.foldl (λ acc(p:M9×Nat)=>acc.setIfInBounds (off+p.2) p.1) arr.toArray)=(arr.take off++cs.toList++arr.drop (off+cs.size)).toArray:=by
 have:=xhj off cs.toList 0 arr (by simpa using h);rw[<-Array.foldl_toList]
 simpa using this
def ZU:∀(places:List (Nat×Nat))(vs:List AV)(parts:List (Nat×Mx))(pl:Nat->Option (Nat×Nat))(out:List AV),
 EJ pl parts=B1 places->bM D θ vs (parts.map λ p=>ρ p.2) -> ∀(cells:List AV)(a:List M9),bM D θ cells a->jA cells places vs=B1 out ->
 ∃cout:List M9,Instr.fill pl a.toArray (parts.map λ p=>(p.1,ρ p.2))=B1 cout.toArray/\bM D θ out cout:=by
 intro places vs parts
 induction parts generalizing places vs with
 |nil =>
  intro pl out hp m cells a f d;simp only[EJ,qk]at hp;subst hp;have:vs=[]:=by have:=m.length;grind
  subst this;simp only[jA,qk]at d;subst d;exact⟨a,rfl,f⟩
 |cons p parts ih =>
  intro pl out hp m cells a f d;have⟨i,x⟩:=p;simp only[EJ]at hp;cases h:pl i with
  |none=>grind
  |some q =>
   have⟨off,size⟩:=q;rw[h]at hp;simp only[qr]at hp;cases hr:EJ pl parts with
   |none=>grind
   |some l =>
    rw[hr]at hp;cases hp;cases vs with
    |nil=>grind [jA]
    |cons v vs =>
     have⟨c,cs',n,o,r⟩:=m.eE;simp only[kh,z8]at n;obtain⟨rfl,rfl⟩:=n;simp only[jA,Ip]at d;cases hb:J2 v.cells.length size
     .grind
     .rw [hb]at d;simp only[xu,AH]at d;have b:=o.cells;have hlen:=b.length;have j:(ρ x).cells.size=size:=by simp_all
      split at d
      .rename_i hle;simp only[qr]at d;have t:=f.length;have g:bM D θ (cells.take off++v.cells++cells.drop (off+v.cells.length)) (a.take off++(ρ x).cells.toList++a.drop (off+v.cells.length)) :=
        ((f.take off).app b).app (f.drop _)
       have⟨cout,u,s⟩:=ih l vs pl out hr r _ _ g d;refine⟨cout,?_,s⟩;simp only[kh,Instr.fill,h];rw[qy (by simp only[List.size_toArray];rw[j];rw[<-Array.length_toList]at j;simp;omega)]
       grind [xmq]
      grind
def xnc(parts:Array (Nat×Mx)):(parts.map λ(p:Nat×Mx)=>(p.1,ρ p.2)).toList=parts.toList.map λ p=>(p.1,ρ p.2):=by simp
def xbt(fs:Array Field)(a:∀f∈fs,∃n,bU P f.type=B1 n) :
 ∃pl:Array (Nat×Nat),(fs.mapM λ(f:Field)=>(do pure (f.offset,<-sizeOf f.type):Sem (Nat×Nat))).run P w=.ok pl w /\ ∀i:Nat,pl[i]? = Og P fs i:=by
 have key:∀l:List Field,(∀f∈l,∃n,bU P f.type=B1 n) ->
  ∃pl:List (Nat×Nat),(l.mapM λ(f:Field)=>(do pure (f.offset,<-sizeOf f.type):Sem (Nat×Nat))).run P w=.ok pl w /\ ∀i:Nat,pl[i]? = (l[i]?).bind λ(f:Field)=>(bU P f.type).bind λ n=>B1 (f.offset,n):=by
  intro l
  induction l with
  |nil=>simp_all
  |cons f l ih =>
   intro hl;have⟨n,hn⟩:=hl f (by simp);have⟨pl,b,c⟩:=ih (λ g hg=>hl g (by simp[hg]));refine⟨(f.offset,n)::pl,?_,λ i=>?_⟩
   .simp_all [uT]
   grind
 have⟨pl,b,c⟩:=key fs.toList (by grind);simp_all[Array.mapM_eq_mapM_toList,Og]
def qym{o:PI}{t:ME}{parts:Array (Nat×Mx)}{z:AV}{fs:Array Field}{b:List (Nat×Nat)}(ho:o.op=.build t parts)(r:zeroOf P t=B1 z)
 (A:P.underlying t=B1 (.struct fs)) (a:∀f∈fs,∃n,bU P f.type=B1 n) (hp:EJ (Og P fs) parts.toList=B1 b):dp P o (parts.toList.map (·.2)) (Op.build z.cells b):=by
 intro D θ ρ w vs v h c;have⟨u,s,d⟩:=L9 (w:=w) r;have⟨pl,x,l⟩:=xbt (w:=w) fs a;unfold Op.build at c;cases g:jA z.cells b vs with
 |none=>grind
 |some out =>
  rw[g]at c;cases c;have j:bM D θ vs (parts.toList.map λ p=>ρ p.2):=by grind [Function.comp_def]
  have⟨cout,y,m⟩:=ZU (ρ:=ρ) b vs parts.toList (Og P fs) out hp j z.cells u.cells.toList (d D θ).cells g;refine⟨.agg cout.toArray,.inl ?_,VR.agg m⟩;have q:(λ i=>pl[i]?)=Og P fs:=funext l;simp_all[execOp,Instr.build,kz]
def q1a{o:PI}{t e:ME}{parts:Array (Nat×Mx)}{z:AV}{len n:Nat}{a:List (Nat×Nat)}(ho:o.op=.build t parts)(r:zeroOf P t=B1 z)
 (q:P.underlying t=B1 (.array len e)) (hn:bU P e=B1 n) (hp:EJ (Ma n) parts.toList=B1 a):dp P o (parts.toList.map (·.2)) (Op.build z.cells a):=by
 intro D θ ρ w vs v h b;have⟨s,c,d⟩:=L9 (w:=w) r;unfold Op.build at b;cases f:jA z.cells a vs with
 |none=>grind
 |some out =>
  rw[f]at b;cases b;have g:bM D θ vs (parts.toList.map λ p=>ρ p.2):=by grind [Function.comp_def]
  have⟨cout,j,l⟩:=ZU (ρ:=ρ) a vs parts.toList (Ma n) out hp g z.cells s.cells.toList (d D θ).cells f;refine⟨.agg cout.toArray,.inl ?_,VR.agg l⟩;simp only[execOp,ho,Instr.build,Nq,c,Nc,kz q,uT hn];have e:(parts.map λ(p:Nat×Mx)=>(p.1,ρ p.2)).toList=parts.toList.map λ p=>(p.1,ρ p.2):=by simp
  simp only[C6]at j;have m:(λ i=>B1 (i*n,n))=Ma n:=rfl;simp_all
end
end Go.Am
namespace Go.Am
section
variable{P:Kb}{D:Nat->Prop}{θ:Th}{ρ:Mx->M9}{w:NU}
def nq(D:Nat->Prop)(θ:Th)(ρ:Mx->M9):Option Mx->Option AV->Prop
 |none,a=>a=B5
 |some x,a=>∃v,a=B1 v/\VR D θ v (ρ x)
def TR:∀(opts:List (Option Mx))(pre rest:List AV),bM D θ rest ((kD opts).map ρ) -> ∀(j:Nat)(o:Option Mx)(idx:Option Nat),opts[j]? = B1 o->(gF pre.length opts)[j]? = B1 idx ->
 ∀a,arg (pre++rest) idx=B1 a->nq D θ ρ o a
 |[],pre,rest,h,j,o,idx,ho,hi,a,ha=>by grind
 |none::opts,pre,rest,h,j,o,idx,ho,hi,a,ha=>by
  cases j with
  |zero =>
   simp only[gF,zo,qk]at ho hi;subst ho;subst hi;simp only[arg,qk]at ha;exact ha.symm
  |succ j=>exact TR opts pre rest h j o idx (by simpa using ho) (by simpa[gF]using hi) a ha
 |some x::opts,pre,rest,h,j,o,idx,ho,hi,a,ha=>by
  cases rest with
  |nil=>have:=h.length;grind [kD]
  |cons v rest =>
   have⟨c,cs,b,d,f⟩:=h.eE;simp only[kD,kh,z8]at b;obtain⟨rfl,rfl⟩:=b;cases j with
   |zero =>
    simp only[gF,zo,qk]at ho hi;subst ho;subst hi;simp only[arg,kA]at ha;rw[jd (qm _)]at ha;simp at ha;exact⟨v,ha.symm,d⟩
   |succ j =>
    refine TR opts (pre ++ [v]) rest f j o idx (by simpa using ho) (by simpa[gF]using hi) a ?_
    simpa using ha
def YU{o:Option Mx}{a:Option AV}{d mx r:Nat}(h:nq D θ ρ o a)(hb:bound a d mx=B1 r) :
 (match o with
  |none=>r=d
  |some x=>(∀code y,mx<=y->(Instr.sliceBound (ρ x) y code).run P w=.ok r w)/\r<=mx):=by
 cases o with
 |none =>
  grind [nq,bound]
 |some x =>
  obtain⟨v,rfl,g⟩:=h;unfold bound at hb;split at hb
  .grind
  .rename_i k i heq;cases heq;cases hle:Oc i mx<;>rw[hle]at hb
   .cases hb
   .injection hb with hb;subst hb
    have b:i<=mx:=by simpa[ue]using hle
    refine⟨λ code y j=>?_,b⟩;have c:(0:Int)<=(i:Int)/\(i:Int)<=(y:Int):=by omega
    have f:i<=y:=by omega
    simp[Instr.sliceBound,<-g.now,az,asIntOf,c]
  .cases hb
def OJ{lo c mx:Option Mx}{a b m:Option AV}{g:Bool}{len cap low M Y h l:Nat}(ha:nq D θ ρ lo a)(hb:nq D θ ρ c b)(hm:nq D θ ρ mx m)
 (i:(mx=B5/\M=cap) \/ ∃d,bound m d low=B1 M/\low<=cap/\mx.isSome=B4) (q:Y<=M) (n:bound b len Y=B1 h) (hl:bound a 0 h=B1 l) (o:mx.isSome=B4->c.isSome=B4) :
 (BF g len cap (lo.map ρ) (c.map ρ) (mx.map ρ)).run P w=.ok (l,h,M) w:=by
 have e2:=YU (P:=P) (w:=w) hb n;have p:=YU (P:=P) (w:=w) ha hl;cases mx with
 |none =>
  obtain⟨_,rfl⟩|⟨_,_,_,f⟩:=i
  .cases c with
   |none =>
    simp only at e2;subst e2;cases lo with
    |none=>simp_all[BF]
    |some x=>simp_all[BF]
   |some y =>
    cases lo with
    |none=>simp_all[BF]
    |some x=>simp_all[BF]
  grind
 |some z =>
  obtain⟨f,_⟩|⟨d,f,j,_⟩:=i
  .cases f
  .have e1:=YU (P:=P) (w:=w) hm f;cases c with
   |none=>grind
   |some y =>
    cases lo with
    |none=>simp_all[BF]
    |some x=>simp_all[BF]
theorem xiw(v:AV)(d a:Nat){mx:Nat}:bound (B1 v) d mx=bound (B1 v) a mx:=by
 cases v<;>try rfl
 rename_i k n;cases n<;>rfl
def J0{o:Option Mx}{a:Option AV}{d mx r:Nat}(h:nq D θ ρ o a)(hb:bound a d mx=B1 r)(b:d<=mx):r<=mx:=by
 cases o with
 |none=>grind [nq,bound]
 |some x =>
  obtain⟨v,rfl,c⟩:=h;unfold bound at hb;split at hb
  .grind
  .grind [ue]
  grind
def u4(lo a mx:Option Mx):∃i j k,gF 0 [lo,a,mx]=[i,j,k]:=by cases lo<;>cases a<;>cases mx<;>simp[gF]
def _Y{size:Nat}{x:AV}{c:M9}{lo A mx:Option Mx}{a b m:Option AV}{v:AV}(F:VR D θ x c)(ha:nq D θ ρ lo a)(hb:nq D θ ρ A b)(hm:nq D θ ρ mx m)(f:df size x a b m=B1 v) :
 ∃ad len cap l h M,c=.slice ad len cap/\(∀o,(BF o len cap (lo.map ρ) (A.map ρ) (mx.map ρ)).run P w=.ok (l,h,M) w) /\
  VR D θ v (.slice (if M=l then ad else ad.map (·.add (l*size))) (h-l) (M-l)):=by
 have hr:=F.now;unfold df at f;split at f
 .-- nil
  split at f
  .rename_i R;cases j:bound b 0 0 with
   |none=>grind
   |some h =>
    rw[j]at f;simp only[qr]at f;cases hl:bound a 0 h with
    |none=>grind
    |some l =>
     rw[hl]at f;cases f;have p:mx=none:=by
      cases mx with
      |none=>rfl
      |some z=>have⟨_,q,_⟩:=hm;cases q
     subst p;have G:h=0/\l=0:=by
      have S:=J0 hb j (qm _);have T:=J0 ha hl (xz _);omega
     obtain⟨rfl,rfl⟩:=G;refine⟨B5,0,0,0,0,0,hr.symm,λ o=>OJ (low:=0) ha hb hm (by grind) (qm _) j hl (by simp),λ θ' _=>by simp[az]⟩
  grind
 .-- a slice of a known capacity
  rename_i bb oo n t;split at f
  .cases f
  .rename_i hnn;cases C:bound m t t with
   |none=>grind
   |some M =>
    rw[C]at f;simp only[qr]at f;cases j:bound b n M with
    |none=>grind
    |some h =>
     rw[j]at f;simp only[qr]at f;cases hl:bound a 0 h with
     |none=>grind
     |some l =>
      rw[hl]at f;cases f;have O:mx.isSome=B4->A.isSome=true:=by
       intro q;cases mx with
       |none=>cases q
       |some z =>
        have⟨_,X,_⟩:=hm;cases A with
        |some _=>rfl
        |none=>grind [nq]
      have I:(mx=B5/\M=t) \/ ∃d,bound m d t=B1 M/\t<=t/\mx.isSome=true:=by
       cases mx with
       |none=>grind [nq,bound]
       |some z=>grind
      refine⟨_,n,t,l,h,M,hr.symm,λ o=>OJ ha hb hm I (qm _) j hl O,λ θ' hg=>?_⟩;have g:=F θ' hg;rw[<-hr]at g;simp only[az,BR,qk,C1]at g⊢
      by_cases e:M=l
      .simp_all
      .have e':J2 M l=false:=by simp_all[Bool.eq_false_iff]
       grind [zK]
 .-- a grown row's slice
  rename_i bb i B s alt n;cases J:(J2 s size && Oc i B)<;>rw[J]at f
  .cases f
  .simp only[ze,ke,ue]at J;obtain⟨rfl,him⟩:=J;simp only[xu]at f;split at f
   .-- no third bound
    rename_i hi';have p:mx=none:=by
     cases mx with
     |none=>rfl
     |some z=>have⟨_,q,_⟩:=hm;cases q
    subst p;cases j:bound b n (B-i)with
    |none=>grind
    |some h =>
     rw[j]at f;simp only[qr]at f;cases hl:bound a 0 h with
     |none=>grind
     |some l =>
      rw[hl]at f;simp only[qr]at f;cases u:Oc h (B-i)<;>rw[u]at f
      .cases f
      .cases f;have Z:h<=B-i:=by simp_all
       have L:=J0 ha hl (xz _);refine⟨_,n,_,l,h,_,hr.symm,λ o=>OJ (low:=0) ha hb hm (.inl ⟨rfl,rfl⟩) (NX _ _) j hl (by simp),λ θ' hg=>?_⟩;have g:=F θ' hg;rw[<-hr]at g;simp only[az,BR,qk,C1,uc,Ge]at g;have⟨⟨q1,S⟩,T⟩:=g;have r:θ'.ext bb = θ.ext bb:=by omega
       have hmul:(i+l)*s=i*s+l*s:=yz i l s;simp only[az,BR,Ge,r,hmul];refine⟨?_,by omega⟩
       by_cases e:B-i + θ.ext bb=l
       .rw [xg e,xg (by omega)];simp_all
       .rw [qy e,qy (by omega)];simp only[FI,zK,qk,C1,uc]
        grind
   .cases f
   .-- a third bound
    rename_i V W;cases C:bound m 0 (B-i)with
    |none=>grind
    |some M =>
     rw[C]at f;simp only[qr]at f;cases j:bound b 0 M with
     |none=>grind
     |some h =>
      rw[j]at f;simp only[qr]at f;cases hl:bound a 0 h with
      |none=>grind
      |some l =>
       rw[hl]at f;simp only[qr]at f;cases u:J2 M l<;>rw[u]at f
       .cases f;have N:M≠l:=by intro e;simp_all
        obtain⟨z,X,Q⟩:∃z,mx=B1 z /\ ∃v,m=B1 v:=by
         cases mx with
         |none=>grind [nq]
         |some z=>have⟨v,q,_⟩:=hm;grind
        have⟨mv,hmv⟩:=Q;have E:A.isSome=true:=by
         cases A with
         |some _=>rfl
         |none=>grind [nq]
        have U:=J0 hm C (xz _);have Y:=J0 hb j (xz _);have L:=J0 ha hl (xz _);have K:bound b n M=B1 h:=by
         have⟨y,hy⟩:=Option.isSome_iff_exists.1 E;subst hy;have⟨bv,q,_⟩:=hb
         grind [xiw]
        refine⟨_,n,_,l,h,M,hr.symm,λ o=>OJ ha hb hm (.inr ⟨0,C,NX _ _,by rw[X];rfl⟩) (qm _) K hl (λ _=>E),λ θ' hg=>?_⟩;have g:=F θ' hg;rw[<-hr]at g;simp only[az,BR,qk,C1,uc,Ge]at g;have⟨⟨q1,S⟩,T⟩:=g;have r:θ'.ext bb = θ.ext bb:=by omega
        have hmul:(i+l)*s=i*s+l*s:=yz i l s;simp only[az,BR,uc,hmul,qy N,FI,zK,qk,C1]
        grind
       grind
 .-- a slice without room
  rename_i bb;split at f
  .rename_i R;cases j:bound b 0 0 with
   |none=>grind
   |some h =>
    rw[j]at f;simp only[qr]at f;cases hl:bound a 0 h with
    |none=>grind
    |some l =>
     rw[hl]at f;cases f;have p:mx=none:=by
      cases mx with
      |none=>rfl
      |some z=>have⟨_,q,_⟩:=hm;cases q
     subst p;have G:h=0/\l=0:=by
      have S:=J0 hb j (qm _);have T:=J0 ha hl (xz _);omega
     obtain⟨rfl,rfl⟩:=G;refine⟨_,0,0,0,0,0,hr.symm,λ o=>OJ (low:=0) ha hb hm (by grind) (qm _) j hl (by simp),λ θ' hg=>?_⟩;rw[F θ' hg,<-hr];rfl
  grind
 grind
def xdz{o:PI}{t e:ME}{x:Mx}{lo n mx:Option Mx}{size:Nat}(ho:o.op=.slice t x lo n mx)(K:P.underlying t=B1 (.slice e))(hs:bU P e=B1 size) :
 dp P o (x::kD [lo,n,mx]) (Op.aA size (gF 0 [lo,n,mx])):=by
 intro D θ ρ w vs v h f;have⟨i,j,k,s⟩:=u4 lo n mx;rw[s]at f;unfold Op.aA at f;split at f
 .rename_i F E G y g heq;injection heq with e1 e2;injection e2 with e2 r;injection r with r _;subst e1;subst e2;subst r
  have⟨c,cs,p,z,C⟩:=h.eE;simp only[kh,z8]at p;obtain⟨rfl,rfl⟩:=p;have d:=λ(q:Nat)(B:Option Mx)(idx:Option Nat)(p:[lo,n,mx][q]? = B1 B)(z:[i,j,k][q]? = B1 idx)=>TR [lo,n,mx] [] g C q B idx p (by grind);cases ha:arg g i with
  |none=>grind
  |some a =>
   rw[ha]at f;simp only[qr]at f;cases hb:arg g j with
   |none=>grind
   |some b =>
    rw[hb]at f;simp only[qr]at f;cases hm:arg g k with
    |none=>grind
    |some m =>
     rw[hm]at f;simp only[qr]at f;have⟨ad,len,cap,l,J,M,I,A,u⟩:=_Y (P:=P) (w:=w) z (d 0 lo i rfl rfl a ha) (d 1 n j rfl rfl b hb) (d 2 mx k rfl rfl m hm) f;refine⟨_,.inl ?_,u⟩;simp_all[execOp,Instr.sliceAt,kz,Instr.slice,uT]
 grind
def xbe{o:PI}{t e:ME}{x:Mx}{lo r mx:Option Mx}{n size:Nat}(ho:o.op=.slice t x lo r mx)(O:P.underlying t=B1 (.array n e))(hs:bU P e=B1 size) :
 dp P o (x::kD [lo,r,mx]) (Op.cP n size (gF 0 [lo,r,mx])):=by
 intro D θ ρ w vs v h f;have⟨i,j,k,C⟩:=u4 lo r mx;rw[C]at f;unfold Op.cP at f;split at f
 .rename_i R N S p y g heq;injection heq with e1 e2;injection e2 with e2 B;injection B with B _;subst e1;subst e2;subst B
  have⟨c,cs,z,A,K⟩:=h.eE;simp only[kh,z8]at z;obtain⟨rfl,rfl⟩:=z;have d:=λ(q:Nat)(F:Option Mx)(idx:Option Nat)(z:[lo,r,mx][q]? = B1 F)(A:[i,j,k][q]? = B1 idx)=>TR [lo,r,mx] [] g K q F idx z (by grind);cases ha:arg g i with
  |none=>grind
  |some a =>
   rw[ha]at f;simp only[qr]at f;cases hb:arg g j with
   |none=>grind
   |some b =>
    rw[hb]at f;simp only[qr]at f;cases hm:arg g k with
    |none=>grind
    |some m =>
     rw[hm]at f;simp only[qr]at f;have Q:VR D θ (.slice p y n n) (.slice (B1 ⟨θ.cm p,θ.off p+y,B5⟩) n n):=λ θ' hg=>by
      have:=A θ' hg;rw[<-A.now]at this;grind [az]
     have⟨ad,len,cap,l,T,M,L,u,E⟩:=_Y (P:=P) (w:=w) Q (d 0 lo i rfl rfl a ha) (d 1 r j rfl rfl b hb) (d 2 mx k rfl rfl m hm) f;injection L with G I J;subst G;subst I;subst J
     refine⟨_,.inl ?_,E⟩;have s:=u B2;simp only[execOp,ho,Instr.sliceAt,Nq,kz O,Nc,<-A.now,az,C7,B6,s,uT hs]
     grind
 grind
def xdl{mx:Bool}{k:P0}:∀(l:List AV)(cs:List M9)(a r:Int),bM D θ l cs->Op.iD mx a l=B1 r ->
 (cs.foldlM (λ x y=>if mx then Builtin.max2 x y else Builtin.min2 x y) (M9.int k a)).run P w=.ok (.int k r) w
 |[],cs,a,r,h,hg=>by
  have:=h.mD;simp_all[Op.iD]
 |v::l,cs,a,r,h,hg=>by
  obtain⟨c,cs',rfl,f,hl⟩:=h.eE;cases v with
  |int k' b =>
   simp only[Op.iD]at hg;have g:=xdl (mx:=mx) (k:=k) l cs' _ r hl hg;have d:=f.now;simp only[az]at d;subst d;simp only[LA]at g;have s1:(Builtin.min2 (.int k a) (.int k' b)).run P w=.ok (.int k (if b<a then b else a)) w:=rfl;have s2:(Builtin.max2 (.int k a) (.int k' b)).run P w=.ok (.int k (if b > a then b else a)) w:=rfl;cases mx
   .simp only[List.foldlM_cons,zq,pq,Nq,s1,Nc]
    grind
   .simp only[List.foldlM_cons,ux,Nq,s2,Nc]
    grind
  |_=>grind [Op.iD]
def xf8{o:PI}{c:Call}{xs:List Mx}{mx:Bool}(ho:o.op=.call c)(m:c.callee=.builtin (if mx then .max else .min))(n:c.args.toList=xs):dp P o xs (Op.eV mx):=by
 intro D θ ρ w vs v h d;have⟨consts,he⟩:=MQ (ρ:=ρ) ho m;unfold Op.eV at d;split at d
 .rename_i k a l;cases hg:Op.iD mx a l with
  |none=>rw[hg]at d;cases d
  |some r =>
   rw[hg]at d;cases d;have⟨p,cs',g,i,j⟩:=h.eE;have b:=xdl (P:=P) (w:=w) (k:=k) l cs' a r j hg;have f:=i.now;simp only[az]at f;subst f;refine⟨.int k r,.inl ?_,.int _ _⟩;rw[he,AR n,g];cases mx
   .simp only[zq,pq]at b⊢;simp[builtin,Builtin.min_,b]
   simp_all[builtin,Builtin.max_]
 grind
def ae4{o:PI}{c:Call}{f:FuncId}{fn:Func}{e:Array M9->Sem M9}(ho:o.op=.call c)(d:c.callee=.value (.func f))(h:ρ (.func f)=.func (.func f) #[] #[])(g:P.funcs[f]? = B1 fn)(hb:fn.body=B5)
 (hn:fn.name≠ "runtime.NumGoroutine") (a:Extern.findNext fn=B5) (b:Extern.find fn=B1 e) :
 (execOp ρ o).run P w=((e (c.args.map ρ)).run P w).andThen λ v w'=>.ok (.value v) w':=by
 simp[execOp,ho,resolve,d,h,BU,invoke,callFunc,g,hb,hn,a,b]
def xe1(s:List UInt8):(Extern.Bytes.bytesOf (.string ⟨s.toArray⟩)).run P w=.ok ⟨s.toArray⟩ w:=rfl
def xir(n:Int):(Extern.Bytes.asByte (.int .u8 n)).run P w=.ok (BT n.toNat) w:=rfl
theorem xfh(c:UInt8)(s:List UInt8)(k:Nat):GP c s k=((N8 s.length).find? λ i=>s[i]! == c).map (·+k):=by
 induction s generalizing k with
 |nil=>rfl
 |cons x s ih =>
  simp only[GP,VI,zz];rw[List.range_succ_eq_map,List.find?_cons];have hm:(List.find? (λ i=>(x::s)[i]! == c) (List.map Nat.succ (N8 s.length)))=((N8 s.length).find? λ i=>s[i]! == c).map Nat.succ:=by
   rw[List.find?_map];rfl
  rw[hm,ih (k+1)];have a:(x::s)[0]! = x:=rfl;rw[a];cases h:(x == c)
  .simp only[zn,Option.map_map];congr 1
   grind
  .simp
def zG(s:List UInt8)(i:Nat):(⟨s.toArray⟩:ByteArray)[i]! = s[i]!:=by
 by_cases h:i<s.length
 .have a:i<(⟨s.toArray⟩:ByteArray).size:=by grind [K9]
  rw[getElem!_pos (⟨s.toArray⟩:ByteArray) i a,getElem!_pos s i h];rfl
 grind [K9]
def xc1{P:Kb}{w:NU}(s:List UInt8)(n:Int):(Extern.BytealgIndexByte.indexByte #[.string ⟨s.toArray⟩,.int .u8 n]).run P w =
 .ok (match(N8 s.length).find? (λ i=>s[i]! == BT n.toNat)with|some i=>goInt i|none=>goInt (-1)) w:=by
 change Sem.run P (Extern.Bytes.bytesOf (.string ⟨s.toArray⟩) >>= _) w=_;rw[Nq,xe1];change Sem.run P (Extern.Bytes.asByte (.int .u8 n) >>= _) w=_;rw[Nq,xir];have a:(λ i=>(⟨s.toArray⟩:ByteArray)[i]! == BT n.toNat)=(λ i=>s[i]! == BT n.toNat):=funext λ i=>by rw[zG]
 simp only[Nc,K9,a];cases(N8 s.length).find? (λ i=>s[i]! == BT n.toNat)<;>rfl
def qs3{o:PI}{c:Call}{f:FuncId}{fn:Func}{xs:List Mx}(ho:o.op=.call c)(l:c.callee=.value (.func f))(m:P.funcs[f]? = B1 fn)(hb:fn.body=B5)
 (hn:fn.name≠ "runtime.NumGoroutine") (g:Extern.findNext fn=B5) (j:Extern.find fn=B1 Extern.BytealgIndexByte.indexByte) (p:c.args.toList=xs) :
 ∀(D:Nat->Prop)θ(ρ:Mx->M9)w vs v,ρ (.func f)=.func (.func f) #[] #[]->bM D θ vs (xs.map ρ)->Op.aE vs=B1 v -> ∃c,sN P (execOp ρ o) w c w/\VR D θ v c:=by
 intro D θ ρ w vs v q h b;unfold Op.aE at b;split at b
 .rename_i s n;obtain⟨x,y,rfl,ha,a⟩:=h.qT;cases b;refine⟨_,.inl ?_,.int _ _⟩;rw[ae4 ho l q m hb hn g j,AR p];have d:(λ i=>(⟨s.toArray⟩:ByteArray)[i]! == BT n.toNat)=(λ i=>s[i]! == BT n.toNat):=funext λ i=>by rw[zG]
  simp only[kh,FD,<-ha.now,<-a.now,az,xc1,Nc]
  grind [xfh,goInt]
 grind
def xng{o:PI}(xs:List Mx):dp P o xs Op.fail:=by
 intro D θ ρ w vs v _ a;cases a
end
end Go.Am
namespace Go.Am
def rC(P:Kb)(o:PI)(xs:List Mx)(f:List AV->ar->Option AV):Prop :=
 ∀(base:Nat)(D:Nat->Prop)θ H(ρ:Mx->M9)w vs v,HR P base D θ H w->bM D θ vs (xs.map ρ)->f vs H=B1 v -> ∃c,sN P (execOp ρ o) w c w/\VR D θ v c
section
variable{P:Kb}
def xj3{o:PI}{t:ME}{x:Mx}(ho:o.op=.load t x)(j:oe P t=B1 B5):rC P o [x] Op.ae:=by
 intro base D θ H ρ w vs v i h a;unfold Op.ae at a;split at a
 .rename_i b off;have⟨l,he,ha⟩:=h.qC;simp only[z8,uc]at he;subst he;have⟨c,f,g⟩:=i.ae a;refine⟨c,.inl ?_,g⟩;have⟨d,_⟩:=Tk (w:=w) j;simp only[execOp,ho,<-ha.now,az,Instr.loadAt,C7,loadVar,Nq,B6,Nc,d,NN,zq,pq,f]
 grind
def xj4{o:PI}{t:ME}{x:Mx}{n:Nat}(ho:o.op=.load t x)(j:oe P t=B1 (B1 n)):rC P o [x] (Op.aq n):=by
 intro base D θ H ρ w vs v i h a;unfold Op.aq at a;split at a
 .rename_i b off;have⟨m,he,ha⟩:=h.qC;simp only[z8,uc]at he;subst he;cases hl:H.aq b off n with
  |none=>grind
  |some l =>
   rw[hl]at a;cases a;have⟨cs,f,g,_⟩:=i.aq hl;refine⟨.agg cs.toArray,.inl ?_,.agg g⟩;have⟨c,d⟩:=Tk (w:=w) j;simp only[execOp,ho,<-ha.now,az,Instr.loadAt,C7,loadVar,Nq,B6,Nc,c,d n rfl,vy,ux,f]
 grind
theorem HR.fk{base:Nat}{D:Nat->Prop}{θ:Th}{H:ar}{w:NU}(h:HR P base D θ H w){b:Nat}{m:List (AV×AV×Nat)×Nat}(hb:H.fk b=B1 m) :
 H.get b=B1 (.map m.1 m.2)/\D b /\ ∃ms:List Bg,w.heap[θ.cm b]? = B1 (.map ms.toArray m.2)/\dy D θ m.1 ms:=by
 unfold ar.fk at hb;cases hg:H.get b with
 |none=>grind
 |some o =>
  rw[hg]at hb;have⟨f,co,d,hr⟩:=h.obj b o hg;cases o<;>simp only[reduceCtorEq,qk]at hb;subst hb;have⟨ms,a,c⟩:=hr
  grind
def Lm{w:NU}{r:Nat}{ms:Array Bg}{c:Nat}(h:w.heap[r]? = B1 (.map ms c)):(getObj r).run P w=.ok (.map ms c) w:=by
 simp[getObj,Sem.run,h]
def dy.length{D:Nat->Prop}{θ:Th}:∀(es:List (AV×AV×Nat))(ms:List Bg),dy D θ es ms->es.length=ms.length
 |[],[],_=>rfl
 |_::es,_::ms,⟨_,h⟩=>by simp[dy.length es ms h]
 |[],_::_,h=>h.elim
 |_::_,[],h=>h.elim
def VR.isAgg{D:Nat->Prop}{θ:Th}{l:List AV}{c:M9}(h:VR D θ (.agg l) c):∃cs:List M9,c=.agg cs.toArray/\bM D θ l cs:=h.fy
def xff{t:ME}{fs:Array Field}(h:P.underlying t=B1 (.struct fs)):P.fieldsOf t=fs:=by
 simp[Kb.fieldsOf,h]
def xi4{x y:AV}{r:Bool}(h:bm .int x y=B1 r):∃k a b,x=.int k a/\y=.int k b/\r=(a == b):=by
 cases x<;>cases y<;>simp only[bm,reduceCtorEq]at h;rename_i k a k' b;cases hk:tV k k' with
 |false=>grind
 |true =>
  rw[hk]at h;simp only[xu,qk]at h;have:k=k':=by simpa[T7]using hk
  subst this
  grind [EE]
def xi5{x y:AV}{r:Bool}(h:bm .str x y=B1 r):∃a b,x=.str a/\y=.str b/\r=(a == b):=by
 cases x<;>cases y<;>simp only[bm,reduceCtorEq,qk]at h
 grind [L4]
def xfd{x y:AV}{r:Bool}(h:bm .bool x y=B1 r):∃a b,x=.bool a/\y=.bool b/\r=(a == b):=by
 cases x<;>cases y<;>simp only[bm,reduceCtorEq,qk]at h
 grind
theorem Ta{off:Nat}{n:Option Nat}{t rest:aR}{x y:AV}{r:Bool}(h:bm (.part off n t rest) x y=B1 r) :
 ∃l c a b q,x=.agg l/\y=.agg c/\partAt l off n=B1 a/\partAt c off n=B1 b/\bm t a b=B1 q/\(q=B4->bm rest (.agg l) (.agg c)=B1 r)/\(q=B2->r=B2):=by
 cases x<;>cases y<;>simp only[bm,reduceCtorEq]at h
 grind [qj]
theorem Ul{x y:AV}{r:Bool}(h:bm .nil x y=B1 r):r=B4/\(∃l,x=.agg l)/\(∃l,y=.agg l):=by
 cases x<;>cases y<;>simp only[bm,reduceCtorEq,qk]at h
 grind
def q8v(s:Nat)(a:Option Nat)(q:aR)(n i:Nat){x y:AV}{r:Bool}(h:bm (dE.itemsT s a q n i) x y=B1 r):(∃l,x=.agg l)/\(∃l,y=.agg l):=by
 cases n with
 |zero=>exact(Ul h).2
 |succ n=>have⟨l,d,_,_,_,b,c,_⟩:=Ta h;grind
def v_{go:ME->Option aR}{fs:List Field}{q:aR}(a:dE.fieldsT P go fs=B1 q){x y:AV}{r:Bool}(h:bm q x y=B1 r):(∃l,x=.agg l)/\(∃l,y=.agg l):=by
 cases fs with
 |nil=>cases a;grind [Ul]
 |cons f fs =>
  simp only[dE.fieldsT]at a;split at a
  .cases a
  .simp only[qj]at a
   grind [Ta]
def BZ(P:Kb)(w:NU)(D:Nat->Prop)(θ:Th)(m:Nat)(t:ME)(q:aR):Prop :=
 ∀(x y:AV)(cx cy:M9)(r:Bool),VR D θ x cx->VR D θ y cy->bm q x y=B1 r->(BH m t cx cy).run P w=.ok r w
def Θ{w:NU}{D:Nat->Prop}{θ:Th}{m:Nat}{go:ME->Option aR}(o:∀t q,go t=B1 q->BZ P w D θ m t q){l p:List AV}{cs cs':List M9}(hl:bM D θ l cs)(d:bM D θ p cs') :
 ∀(fs:List Field)(q:aR)(r:Bool),dE.fieldsT P go fs=B1 q->bm q (.agg l) (.agg p)=B1 r->(Op.eqFields m cs.toArray cs'.toArray fs).run P w=.ok r w
 |[],q,r,b,h=>by
  cases b;rw[(Ul h).1];simp[Op.eqFields]
 |f::fs,q,r,b,h=>by
  simp only[dE.fieldsT]at b;split at b
  .cases b
  .rename_i hn;simp only[qj]at b;have⟨a,ha,F,j,G,n,b⟩:=b;cases b;have⟨l1,l2,x,y,e,g,i,u,v,z,A,I⟩:=Ta h;injection g with g;injection i with i;subst g;subst i
   have⟨c,B,v1⟩:=Ks (w:=w) ha hl u;have⟨s,C,v2⟩:=Ks (w:=w) ha d v;have E:=o f.type F j x y c s e v1 v2 z;simp only[Op.eqFields,hn,ne_eq,not_false_eq_true,ux,Nq,B,C,E,Nc];cases e
   .simp_all
   .simpa using Θ o hl d fs G r n (A rfl)
def _c{w:NU}{D:Nat->Prop}{θ:Th}{m:Nat}{e:ME}{s:Nat}{a:Option Nat}{q:aR}(ha:oe P e=B1 a)(j:BZ P w D θ m e q){l o:List AV}{cs cs':List M9}(hl:bM D θ l cs)(d:bM D θ o cs') :
 ∀(n i:Nat)(r:Bool),bm (dE.itemsT s a q n i) (.agg l) (.agg o)=B1 r->(Op.eqItems m e s cs.toArray cs'.toArray (List.range' i n)).run P w=.ok r w
 |0,i,r,h=>by rw[(Ul h).1];simp[Op.eqItems]
 |n+1,i,r,h=>by
  have⟨l1,l2,x,y,b,f,g,t,u,v,z,E⟩:=Ta h;injection f with f;injection g with g;subst f;subst g
  have⟨c,A,v1⟩:=Ks (w:=w) ha hl t;have⟨p,B,v2⟩:=Ks (w:=w) ha d u;have C:=j x y c p b v1 v2 v;simp only[List.range'_succ,Op.eqItems,Nq,A,B,C,Nc];cases b
  .simp_all
  .simpa using _c ha j hl d n (i+1) r (z rfl)
def Sr(m:Nat){D:Nat->Prop}{θ:Th}(w:NU):∀(d:Nat)(t:ME)(q:aR),dE P d t=B1 q->BZ P w D θ (d+m) t q
 |0,_,_,h=>by cases h
 |d+1,t,q,h=>by
  intro x y G I r g j hr;unfold dE at h;have v:d+1+m=(d+m)+1:=by omega
  rw[v];cases hu:P.underlying t with
  |none=>grind
  |some kd =>
   rw[hu]at h;cases kd
   case int k0 =>
    cases h;obtain⟨k,a,b,rfl,rfl,rfl⟩:=xi4 hr;rw[<-g.now,<-j.now,az,az,run_equalIn_int w _ t k k0 a b hu]
   case string =>
    cases h;obtain⟨a,b,rfl,rfl,rfl⟩:=xi5 hr;rw[<-g.now,<-j.now,az,az,run_equalIn_string w _ t _ _ hu,C_,C_]
   case bool =>
    cases h;obtain⟨a,b,rfl,rfl,rfl⟩:=xfd hr;rw[<-g.now,<-j.now,az,az,run_equalIn_bool' w _ t _ _ hu]
   case struct fs =>
    simp only at h;split at h
    .cases h
    .rename_i p;have f:P.stoodInHeld t=false:=by simpa using p
     obtain⟨⟨l,rfl⟩,⟨E,rfl⟩⟩:=v_ h hr;obtain⟨cs,rfl,hl⟩:=g.fy;obtain⟨cs',rfl,c⟩:=j.fy;have u:=xff hu;rw[run_equalIn_struct w _ t _ _ (by rw[u];exact hu) f,u];exact Θ (λ t q C=>Sr m w d t q C) hl c _ _ _ h hr
   case array n e =>
    simp only[qj]at h;have⟨s,hs,a,ha,F,o,h⟩:=h;cases h;obtain⟨⟨l,rfl⟩,⟨E,rfl⟩⟩:=q8v _ _ _ _ _ hr;obtain⟨cs,rfl,hl⟩:=g.fy;obtain⟨cs',rfl,c⟩:=j.fy;have⟨i,A,B⟩:=qzs hs;rw[run_equalIn_array _ _ _ _ hu A,List.range_eq_range'];have z:P.cellsOf e=s:=by grind [Kb.cellsOf]
    rw[z];exact _c ha (Sr m w d e F o) hl c n 0 r hr
   all_goals grind
theorem SY{off:Nat}{n:Option Nat}{t rest:aR}{x:AV}(h:db (.part off n t rest) x=B4) :
 ∃l a,x=.agg l/\partAt l off n=B1 a/\db t a=B4/\db rest (.agg l)=true:=by
 cases x<;>simp only[db,zq]at h
 grind
def A_{x:AV}(h:db .nil x=B4):∃l,x=.agg l:=by
 cases x<;>simp only[db,zq]at h
 grind
def xf5(s:Nat)(a:Option Nat)(q:aR)(n i:Nat){x:AV}(h:db (dE.itemsT s a q n i) x=B4):∃l,x=.agg l:=by
 cases n with
 |zero=>exact A_ h
 |succ n=>have⟨l,_,b,_⟩:=SY h;grind
def xdp{go:ME->Option aR}{fs:List Field}{q:aR}(a:dE.fieldsT P go fs=B1 q){x:AV}(h:db q x=B4):∃l,x=.agg l:=by
 cases fs with
 |nil=>cases a;exact A_ h
 |cons f fs =>
  simp only[dE.fieldsT]at a;split at a
  .cases a
  .simp only[qj]at a
   grind [SY]
def Ke(P:Kb)(w:NU)(D:Nat->Prop)(θ:Th)(em:Bool)(m:Nat)(t:ME)(q:aR):Prop :=
 ∀(x:AV)(cx:M9),VR D θ x cx->db q x=B4->(BV em m t cx).run P w=.ok () w
def q59{w:NU}{D:Nat->Prop}{θ:Th}{em:Bool}{m:Nat}{e:ME}{s:Nat}{a:Option Nat}{q:aR}(ha:oe P e=B1 a)(hs:bU P e=B1 s)(b:Ke P w D θ em m e q){l:List AV}{cs:List M9}(hl:bM D θ l cs) :
 ∀(n i:Nat),db (dE.itemsT s a q n i) (.agg l)=B4 ->
  (forIn (List.range' i n) PUnit.unit (λ i _=>(do BV em m e (<-part e cs.toArray (i*(<-sizeOf e)));pure (ForInStep.yield PUnit.unit):Sem (ForInStep PUnit)))).run P w=.ok PUnit.unit w
 |0,i,h=>by simp
 |n+1,i,h=>by
  have⟨l1,x,d,f,g,j⟩:=SY h;cases d;have⟨c,o,v1⟩:=Ks (w:=w) ha hl f;have p:=b x c v1 g;simp only[List.range'_succ,List.forIn_cons,Nq,uT hs,o,p,Nc,B6]
  simpa using q59 ha hs b hl n (i+1) j
def XX(em:Bool)(m:Nat){D:Nat->Prop}{θ:Th}(w:NU):∀(d:Nat)(t:ME)(q:aR),dE P d t=B1 q->Ke P w D θ em (d+m) t q
 |0,_,_,h=>by cases h
 |d+1,t,q,h=>by
  intro x B j hr;unfold dE at h;have o:d+1+m=(d+m)+1:=by omega
  rw[o];cases hu:P.underlying t with
  |none=>grind
  |some kd =>
   rw[hu]at h;cases kd
   case int k0=>simp[BV,kz hu]
   case string=>simp[BV,kz hu]
   case bool=>simp[BV,kz hu]
   case struct fs =>
    simp only at h;split at h
    .cases h
    .obtain ⟨l,rfl⟩:=xdp h hr;obtain⟨cs,rfl,hl⟩:=j.fy;simp only[BV,Nq,kz hu,Nc];rw[<-Array.forIn_toList];clear hu;generalize fs.toList=L at h
     induction L generalizing q with
     |nil=>simp
     |cons f L ihL =>
      simp only[dE.fieldsT]at h;split at h
      .cases h
      .rename_i hn;simp only[qj]at h;have⟨a,ha,i,b,A,g,h⟩:=h;cases h;have⟨l1,x,p,r,u,v⟩:=SY hr;cases p;have⟨c,y,v1⟩:=Ks (w:=w) ha hl r;have z:=XX em m w d f.type i b x c v1 u;simp only[List.forIn_cons,Nq,hn,ne_eq,not_false_eq_true,ux,Nc,y,z,B6];exact ihL A v g
   case array n e =>
    simp only[qj]at h;have⟨s,hs,a,ha,i,b,h⟩:=h;cases h;obtain⟨l,rfl⟩:=xf5 _ _ _ _ _ hr;obtain⟨cs,rfl,hl⟩:=j.fy;have:=q59 (w:=w) (em:=em) ha hs (XX em m w d e i b) hl n 0 hr;simp_all[BV,kz]
   all_goals grind
def XJ{em:Bool}{D:Nat->Prop}{θ:Th}{w:NU}{t:ME}{q:aR}(h:pT P t=B1 q){x:AV}{a:M9}(b:VR D θ x a)(hr:db q x=B4) :
 (BV em 10000 t a).run P w=.ok () w:=XX em 9980 w 20 t q h x a b hr
def CY{D:Nat->Prop}{θ:Th}{w:NU}{t:ME}{q:aR}(h:pT P t=B1 q){x y:AV}{a b:M9}{r:Bool}(c:VR D θ x a)(d:VR D θ y b)(hr:bm q x y=B1 r) :
 (Cy t a b).run P w=.ok r w:=Sr 9980 w 20 t q h x y a b r c d hr
def JQ(D:Nat->Prop)(θ:Th):Option (Nat×AV)->Option (Nat×M9)->Prop
 |none,B5=>True
 |some (i,v),B1 (j,c)=>i=j/\VR D θ v c
 |_,_=>False
def qts{D:Nat->Prop}{θ:Th}{w:NU}{t:ME}{q:aR}(h:pT P t=B1 q){k:AV}{d:M9}(hk:VR D θ k d) :
 ∀(es:List (AV×AV×Nat))(ms:List Bg)(i:Nat)(r:Option (Nat×AV)),dy D θ es ms->findKey q k es i=B1 r ->
  ∃a,(BK t d ms i).run P w=.ok a w/\JQ D θ r a
 |[],[],i,r,_,hr=>by
  simp only[findKey,qk]at hr;subst hr;exact⟨B5,by simp[BK],trivial⟩
 |(k',v,b)::es,e::ms,i,r,⟨⟨h1,h2,_⟩,hes⟩,hr=>by
  simp only[findKey,qj]at hr;have⟨c,j,hr⟩:=hr;have:=CY (w:=w) h hk h1 j;cases c
  .have ⟨a,f,g⟩:=qts (w:=w) h hk es ms (i+1) r hes hr;exact⟨a,by simp[BK,this,f],g⟩
  .simp only[xu,qk]at hr;subst hr;exact⟨B1 (i,e.val),by simp[BK,this],rfl,h2⟩
 |[],_::_,_,_,h,_=>h.elim
 |_::_,[],_,_,h,_=>h.elim
def xgh{t:ME}{d:TypeDesc}(hu:P.underlying t=B1 d){x y:M9}{b:Bool}(h:Instr.sameNow d x y=B1 b)(w:NU):(Cy t x y).run P w=.ok b w:=by
 unfold Instr.sameNow at h;split at h
 .rename_i k a k' c;split at h
  .rename_i hk;subst hk;cases h;exact run_equalIn_int w _ t _ _ _ _ hu
  grind
 .cases h;show(BH (9999+1) t _ _).run P w=_
  grind [run_equalIn_string,beq_toListBytes]
 .cases h;exact run_equalIn_bool' w _ t _ _ hu
 grind
def q4w{t:ME}{d:TypeDesc}(hu:P.underlying t=B1 d){c:M9}(w:NU):∀(ms:List Bg)(i:Nat)(r a:Option (Nat×M9)),
 CZ d c ms i=B1 r->(BK t c ms i).run P w=.ok a w->r=a
 |[],i,r,a,h,h'=>by
  simp_all[CZ,BK]
 |e::ms,i,r,a,h,h'=>by
  simp only[CZ]at h;cases hs:Instr.sameNow d c e.key with
  |none=>grind
  |some b =>
   rw[hs]at h;have:=xgh hu hs w;cases b
   .simp [BK,this]at h';exact q4w hu w ms (i+1) r a h h'
   simp_all[BK]
def iw{D:Nat->Prop}{θ:Th}{w:NU}{t:ME}{q:aR}(h:pT P t=B1 q){k:AV}{b:M9}(hk:VR D θ k b){es:List (AV×AV×Nat)}{ms:List Bg}{r:Option (Nat×AV)}
 (c:dy D θ es ms) (hr:findKey q k es 0=B1 r):∃a,(Ct t b ms).run P w=.ok a w/\JQ D θ r a:=by
 have⟨a,f,g⟩:=qts (w:=w) h hk es ms 0 r c hr;have hu:∃d,P.underlying t=B1 d:=by
  grind [pT,dE]
 have⟨d,hu⟩:=hu;refine⟨a,?_,g⟩;simp only[Ct,Nq,kz hu,Nc];cases hn:CZ d b ms 0 with
 |none=>simpa using f
 |some r2=>simp[q4w hu w ms 0 r2 a hn f]
def xgc{o:PI}{t u e:ME}{E kk:Mx}{ok:Bool}{q:aR}{z:AV}(ho:o.op=.lookup t E kk ok)(hu:P.underlying t=B1 (.map u e))(B:pT P u=B1 q)(J:zeroOf P e=B1 z) :
 rC P o [E,kk] (Op.lookup q z ok):=by
 intro base D θ H ρ w vs v I h a;have⟨A,f,g⟩:=L9 (w:=w) J;unfold Op.lookup at a;split at a
 .rename_i k;have⟨x,y,he,ha,hb⟩:=h.qT;simp only[z8,uc]at he;obtain⟨rfl,rfl⟩:=he;cases c:db q k with
  |false=>grind
  |true =>
   rw[c]at a;simp only[xu,qk]at a;have j:=λ em=>XJ (em:=em) (w:=w) B hb c;have C:(Ct u (ρ kk) []).run P w=.ok B5 w:=by
    have hu:∃d,P.underlying u=B1 d:=by
     grind [pT,dE]
    have⟨d,hu⟩:=hu;simp[Ct,kz hu,CZ]
   subst a;cases ok
   .refine ⟨A,.inl ?_,g _ _⟩;simp[execOp,ho,CQ,kz hu,<-ha.now,az,j,C,f]
   .refine ⟨.tuple [A,.bool B2].toArray,.inl ?_,.tuple (.cons (g _ _) (.one (.bool _)))⟩;simp[execOp,ho,CQ,kz hu,<-ha.now,az,j,C,f]
 .rename_i b k;have⟨x,y,he,ha,hb⟩:=h.qT;simp only[z8,uc]at he;obtain⟨rfl,rfl⟩:=he;cases c:db q k with
  |false=>grind
  |true =>
   rw[c]at a;simp only[xu,qj]at a;have⟨m,hm,r,hr,a⟩:=a;have⟨_,_,ms,s,G⟩:=I.fk hm;have j:=λ em=>XJ (em:=em) (w:=w) B hb c;have⟨F,n,l⟩:=iw (w:=w) B hb G hr;cases r with
   |none =>
    cases F with
    |some _=>exact l.elim
    |none =>
     simp only[qk]at a;subst a;cases ok
     .refine ⟨A,.inl ?_,g _ _⟩;simp[execOp,ho,CQ,kz hu,<-ha.now,az,j,n,f,Lm s]
     .refine ⟨.tuple [A,.bool B2].toArray,.inl ?_,.tuple (.cons (g _ _) (.one (.bool _)))⟩;simp[execOp,ho,CQ,kz hu,<-ha.now,az,j,n,f,Lm s]
   |some p =>
    have⟨i,pv⟩:=p;cases F with
    |none=>exact l.elim
    |some p' =>
     have⟨K,pc⟩:=p';have⟨_,l⟩:=l;simp only[qk]at a;subst a;cases ok
     .refine ⟨pc,.inl ?_,l⟩;simp[execOp,ho,CQ,kz hu,<-ha.now,az,j,n,Lm s]
     .refine ⟨.tuple [pc,.bool B4].toArray,.inl ?_,.tuple (.cons l (.one (.bool _)))⟩;simp[execOp,ho,CQ,kz hu,<-ha.now,az,j,n,Lm s]
 grind
end
end Go.Am
namespace Go.Am
section
variable{P:Kb}{base:Nat}{D:Nat->Prop}{θ:Th}{H:ar}{w:NU}
def isStr:AV->Bool
 | .str _=>B4
 |_=>B2
def Ve(g:HR P base D θ H w){x:AV}{c:M9}{size n k:Nat}{l:List AV}(d:VR D θ x c)(hk:eJ x=B1 k)(hn:n<=k)(hs:isStr x=B2)
 (h:firstCells H size n x=B1 l):∃a len cap,c=.slice a len cap/\len=k/\((a=B5/\l=[]/\n=0/\k=0) \/
  ∃ad cs,a=B1 ad/\(loadCells ad (n*size)).run P w=.ok cs.toArray w/\bM D θ l cs/\l.length=n*size):=by
 have t:∀a,(loadCells a 0).run P w=.ok ([]:List M9).toArray w:=λ a=>rfl;cases x<;>simp only[eJ,reduceCtorEq,qk]at hk
 case str s=>cases hs
 case nils =>
  subst hk;simp only[firstCells,qk]at h;subst h;exact⟨B5,0,0,d.now.symm,rfl,(by grind)⟩
 case slice b o n' cp =>
  subst hk;simp only[firstCells]at h;refine⟨_,_,_,d.now.symm,rfl,.inr ?_⟩;cases hb:J2 n 0 with
  |true =>
   have:n=0:=by simpa using hb
   subst this;rw[hb]at h;cases h;exact⟨_,[],rfl,by grind,.nil,by simp⟩
  |false =>
   rw[hb]at h;have⟨cs,j,p,q⟩:=g.aq h
   grind
 case eslice b =>
  subst hk;have:n=0:=by omega
  subst this;simp only[firstCells,J2,xu,qk]at h;subst h;exact⟨_,_,_,d.now.symm,rfl,.inr ⟨_,[],rfl,by grind,.nil,by simp⟩⟩
 case gslice b i m s alt n' =>
  subst hk;simp only[firstCells]at h;refine⟨_,_,_,d.now.symm,rfl,.inr ?_⟩;cases hb:J2 n 0 with
  |true =>
   have:n=0:=by simpa using hb
   subst this;rw[hb]at h;cases h;exact⟨_,[],rfl,by grind,.nil,by simp⟩
  |false =>
   rw[hb]at h;simp only[zn]at h;cases f:(J2 s size && PE i m)with
   |false=>grind
   |true =>
    rw[f]at h;simp only[ze,ke,yN]at f;obtain⟨rfl,r⟩:=f;have⟨cs,j,p,q⟩:=g.aq h
    grind
end
end Go.Am
namespace Go.Am
section
variable{P:Kb}{base:Nat}{D:Nat->Prop}{θ:Th}{H:ar}{w:NU}
def Y4{w:NU}{r:Nat}{c:Array M9}{e:ME}{fz:Nat×Nat}(h:w.heap[r]? = B1 (.cells c e fz)):w.shape? r=B1 (e,c.size):=by
 simp[NU.shape?,h]
def q1h{w:NU}{r:Nat}{c:Array M9}{e:ME}{fz:Nat×Nat}(h:w.heap[r]? = B1 (.cells c e fz)):(viewAt r).run P w=.ok B5 w:=by
 simp[viewAt,Y4 h]
def qx{w:NU}{a:Addr}{c:Array M9}{e:ME}{fz:Nat×Nat}(h:w.heap[a.block]? = B1 (.cells c e fz)):(noView a).run P w=.ok () w:=by
 simp[noView,q1h h]
def TO{a b:AV->Bool}{x y:AV}{q:Bool}(h:sW a b x y=B1 q) :
 (a x=B4/\a y=B4/\q=B4)\/(a x=B4/\b y=B4/\q=B2)\/(b x=B4/\a y=B4/\q=B2):=by
 grind [sW]
def Xk.not{a:Nat×Nat}(h:Xk (0,0) a)(i:Nat):¬(a.1<=i/\i<a.2):=by
 rcases h with h|⟨_,h⟩<;>simp at *<;>omega
def xnf(p:HR P base D θ H w){b d o o':Nat}(J:b≠d)(h:zB H b d=B4) :
 (sameAddr ⟨θ.cm b,θ.off b+o,B5⟩ ⟨θ.cm d,θ.off d+o',B5⟩).run P w=.ok B2 w:=by
 have key:∀(f g o1 o2:Nat)(z A:Array M9)(e1 e2:ME)(m n:Nat×Nat),f≠g->w.heap[f]? = B1 (.cells z e1 m)->w.heap[g]? = B1 (.cells A e2 n) ->
  ((∀i,¬(m.1<=i/\i<m.2))/\A.size≠0\/(∀i,¬(n.1<=i/\i<n.2))/\z.size≠0)->(sameAddr ⟨f,o1,B5⟩ ⟨g,o2,B5⟩).run P w=.ok B2 w:=by
  intro f g o1 o2 z A e1 e2 m n hk G r u;have s1:=Y4 G;have s2:=Y4 r;have n1:(noView ⟨f,o1,B5⟩).run P w=_:=qx G;have n2:(noView ⟨g,o2,B5⟩).run P w=_:=qx r;have O:∀i,w.frozen? ⟨f,i,B5⟩=(decide (m.1<=i) && decide (i<m.2)):=λ i=>by simp[NU.frozen?,G]
  have Q:∀i,w.frozen? ⟨g,i,B5⟩=(decide (n.1<=i) && decide (i<n.2)):=λ i=>by simp[NU.frozen?,r]
  have v:(f == g)=false:=by simpa using hk
  rcases u with⟨S,T⟩|⟨S,T⟩
  .have E:∀i,w.frozen? ⟨f,i,B5⟩=false:=λ i=>by simp_all
   simp only[sameAddr,Nq,run_frozen,E,n1,n2,v,mayBeOne,stringish,run_shape,s1,s2,Sem.run_ite,Bool.false_and,zq,pq,B6,Nc];simp_all
  .have F:∀i,w.frozen? ⟨g,i,B5⟩=false:=λ i=>by simp_all
   simp only[sameAddr,Nq,run_frozen,F,n1,n2,v,mayBeOne,stringish,run_shape,s1,Sem.run_ite,Bool.and_false,zq,pq,B6,Nc];simp_all
 unfold zB at h;split at h
 .rename_i c e x M e' R U hb a;obtain⟨_,co,u,pre,cs,post,B,N,rfl,r,K,L⟩:=p.obj b _ hb;obtain⟨_,co',j,y,cs',l,q,C,rfl,I,s,t⟩:=p.obj d _ a;refine key _ _ _ _ _ _ _ _ _ _ (p.inj b d _ _ hb a rfl J) u j (.inl ⟨(L rfl).2.2.2.not,?_⟩);have:=s.length
  grind
 .rename_i c e fz ow M e' hb a;obtain⟨_,co,u,pre,cs,post,B,N,rfl,r,K,L⟩:=p.obj b _ hb;obtain⟨_,co',j,y,cs',l,q,C,rfl,I,s,t⟩:=p.obj d _ a;refine key _ _ _ _ _ _ _ _ _ _ (λ e=>p.inj d b _ _ a hb rfl (by omega) e.symm) u j (.inr ⟨(t rfl).2.2.2.not,?_⟩);have:=K.length
  grind
 grind
def xQ(P:Kb)(t:ME)(x y:Mx):xE->Prop
 | .bool=>P.underlying t=B1 .bool
 | .ptr=>∃e n,P.underlying t=B1 (.pointer e)/\bU P e=B1 (n+1)
 | .slice=>∃e,P.underlying t=B1 (.slice e)
 | .map=>∃k e,P.underlying t=B1 (.map k e)
 | .func=>∃a b c,P.underlying t=B1 (.func a b c)
 | .iface=>∃ms,P.underlying t=B1 (.interface ms)/\((∃v,x=.const v) \/ ∃v,y=.const v)
 | .ifaces f=>(∃ms,P.underlying t=B1 (.interface ms)) /\ ∀u q,f u=B1 q->dE P 20 u=B1 q /\ ∃i,P.info? u=B1 i/\i.comparable=B4
 | .agg q=>P.eqGuardType P.depth t=B2/\pT P t=B1 q/\((∃fs,P.underlying t=B1 (.struct fs)) \/ ∃n e,P.underlying t=B1 (.array n e))
set_option maxHeartbeats 2000000 in
def MY(hh:HR P base D θ H w){t:ME}{x y:Mx}{ρ:Mx->M9}{k:xE}(hk:xQ P t x y k){a b:AV}(ha:VR D θ a (ρ x))(hb:VR D θ b (ρ y)){q:Bool}
 (h:Ka H k a b=B1 q) (op:BinOp) (g:op=.eql\/op=.neq) :
 ((do eqGuard op t x y (ρ x) (ρ y);binOp op t (ρ x) (ρ y)):Sem M9).run P w=.ok (.bool (if op=.neq then !q else q)) w:=by
 have fin:(eqGuard op t x y (ρ x) (ρ y)).run P w=.ok () w->(Cy t (ρ x) (ρ y)).run P w=.ok q w->(binOp .eql t (ρ x) (ρ y)).run P w=((do pure (.bool (<-Cy t (ρ x) (ρ y)))):Sem M9).run P w ->
  (binOp .neq t (ρ x) (ρ y)).run P w=((do pure (.bool (!(<-Cy t (ρ x) (ρ y))))):Sem M9).run P w ->
  ((do eqGuard op t x y (ρ x) (ρ y);binOp op t (ρ x) (ρ y)):Sem M9).run P w=.ok (.bool (if op=.neq then !q else q)) w:=by
  intro G F Z h4;rw[Nq,G,Nc];rcases g with rfl|rfl
  .rw [Z];simp[F]
  .rw [h4];simp[F]
 obtain⟨dd,e1,V⟩:∃d,(∀p q,Cy t p q=BH (d+1) t p q) /\ ∃m,d=20+m:=⟨9999,λ _ _=>rfl,9979,rfl⟩
 cases k
 case bool =>
  cases a<;>cases b<;>simp only[Ka,reduceCtorEq,qk]at h;subst h;have hu:P.underlying t=B1 .bool:=hk;rw[<-ha.now,<-hb.now];rw[<-ha.now,<-hb.now]at fin;refine fin ?_ (run_equalIn_bool' w _ t _ _ hu) (by simp only[az,binOp]) (by simp only[az,binOp]);rcases g with rfl|rfl<;>simp[eqGuard,az]
 case ptr =>
  have⟨e,n,hu,hs⟩:=hk;have K:=uT (w:=w) hs;have A:(Cy t (ρ x) (ρ y)).run P w=.ok q w:=by
   cases a<;>cases b<;>simp only[Ka,reduceCtorEq,qk]at h
   .subst h;rw[<-ha.now,<-hb.now,e1];simp[az,BH,kz hu]
   .subst h;rw[<-ha.now,<-hb.now,e1];simp[az,BH,kz hu]
   .subst h;rw[<-ha.now,<-hb.now,e1];simp[az,BH,kz hu]
   .rename_i C o1 E o2;rw[<-ha.now,<-hb.now,e1];simp only[az,BH,Nq,kz hu,Nc,K,ne_eq,Nat.succ_ne_zero,not_false_eq_true,ux];cases r:J2 C E with
    |true =>
     rw[r]at h;have:C=E:=by simpa using r
     subst this;simp only[xu,qk]at h;subst h;simp only[sameAddr,beq_self_eq_true,ux,B6];congr 1
     by_cases ho:o1=o2
     .subst ho;simp
     .have:J2 o1 o2=false:=by simpa[<-Bool.not_eq_true,ke]using ho
      rw[this];simp[ho]
    |false =>
     rw[r]at h;simp only[zn]at h;cases hp:zB H C E with
     |false=>rw[hp]at h;cases h
     |true =>
      rw[hp]at h;simp only[xu,qk]at h;subst h;have u:C≠E:=λ e=>by subst e;simp at r
      exact xnf hh u hp
  cases a<;>cases b<;>simp only[Ka,reduceCtorEq,qk]at h <;>
   (rw[<-ha.now,<-hb.now]at A⊢;rw[<-ha.now,<-hb.now]at fin
    exact fin (by rcases g with rfl|rfl<;>simp[eqGuard,az]) A (by simp only[az,binOp]) (by simp only[az,binOp]))
 case slice =>
  have⟨e,hu⟩:=hk;have o:=TO h;cases a<;>cases b<;>simp[EB,isSlice]at o <;>
   (subst o;rw[<-ha.now,<-hb.now];rw[<-ha.now,<-hb.now]at fin
    exact fin (by rcases g with rfl|rfl<;>simp[eqGuard,az]) (by rw[e1];simp[az,BH,kz hu]) (by simp only[az,binOp]) (by simp only[az,binOp]))
 case map =>
  have⟨k,e,hu⟩:=hk;have o:=TO h;cases a<;>cases b<;>simp[EN,isMap]at o <;>
   (subst o;rw[<-ha.now,<-hb.now];rw[<-ha.now,<-hb.now]at fin
    exact fin (by rcases g with rfl|rfl<;>simp[eqGuard,az]) (by rw[e1];simp[az,BH,kz hu]) (by simp only[az,binOp]) (by simp only[az,binOp]))
 case func =>
  have⟨p1,p2,p3,hu⟩:=hk;have o:=TO h;cases a<;>cases b<;>simp[Fx,PM]at o <;>
   (subst o;rw[<-ha.now,<-hb.now];rw[<-ha.now,<-hb.now]at fin
    exact fin (by rcases g with rfl|rfl<;>simp[eqGuard,az]) (by rw[e1];simp[az,BH,kz hu]) (by simp only[az,binOp]) (by simp only[az,binOp]))
 case iface =>
  have⟨ms,hu,O⟩:=hk;have o:=TO h;cases a<;>cases b<;>simp[EV,isIface]at o <;>
   (subst o;rw[<-ha.now,<-hb.now];rw[<-ha.now,<-hb.now]at fin
    exact fin (by rcases g with rfl|rfl<;>rcases O with⟨v,rfl⟩|⟨v,rfl⟩<;>simp[eqGuard,az]) (by rw[e1];simp[az,BH,kz hu]) (by simp only[az,binOp]) (by simp only[az,binOp]))
 case ifaces f =>
  have⟨⟨ms,hu⟩,hf⟩:=hk;cases a<;>cases b<;>simp only[Ka,reduceCtorEq,qk]at h
  .rename_i Q v1 S v2;have⟨T,I,M⟩:=ha.mB;have⟨U,J,N⟩:=hb.mB;rw[I,J]at fin⊢;refine fin (by rcases g with rfl|rfl<;>simp[eqGuard]) ?_ (by simp only[binOp]) (by simp only[binOp]);rw[e1];cases j:J2 Q S with
   |true =>
    rw[j]at h;simp only[ke]at j;subst j;simp only[xu,qj]at h;have⟨R,L,h⟩:=h;have⟨W,i,X,Y⟩:=hf _ _ L;obtain⟨m,rfl⟩:=V;have B:=Sr m (D:=D) (θ:=θ) w 20 Q R W v1 v2 T U q M N h;simp[BH,kz hu,typeInfo,X,Y,B]
   |false =>
    rw[j]at h;have u:Q≠S:=λ e=>by subst e;simp at j
    simp only[zn,qk]at h;subst h;simp[BH,kz hu,u]
  .subst h;rw[<-ha.now,<-hb.now];rw[<-ha.now,<-hb.now]at fin;exact fin (by rcases g with rfl|rfl<;>simp[eqGuard,az]) (by rw[e1];simp[az,BH,kz hu]) (by simp only[az,binOp]) (by simp only[az,binOp])
  .subst h;rw[<-ha.now,<-hb.now];rw[<-ha.now,<-hb.now]at fin;exact fin (by rcases g with rfl|rfl<;>simp[eqGuard,az]) (by rw[e1];simp[az,BH,kz hu]) (by simp only[az,binOp]) (by simp only[az,binOp])
 case agg R =>
  have⟨hg,c,hu⟩:=hk;have A:=CY (w:=w) c ha hb h;have z:(∃l,a=.agg l) /\ ∃l,b=.agg l:=by
   have c:dE P (19+1) t=B1 R:=c;rw[dE]at c;rcases hu with⟨fs,hu⟩|⟨n,e,hu⟩
   .rw [hu]at c;simp only at c;split at c
    .cases c
    .exact v_ c h
   .rw [hu]at c;simp only[qj]at c;have⟨s,hs,a',ha',q1,hq1,c⟩:=c;cases c;exact q8v _ _ _ _ _ h
  obtain⟨⟨l,rfl⟩,⟨l',rfl⟩⟩:=z;have⟨cs,G,_⟩:=ha.fy;have⟨cs',F,_⟩:=hb.fy;rw[G,F]at A fin⊢;exact fin (run_eqGuard_agg w _ t x y _ _ hg) A (by simp only[binOp]) (by simp only[binOp])
def Λ{o:PI}{t g:ME}{x y:Mx}{k:xE}{neg:Bool}(ho:o.op=.binOp (if neg then .neq else .eql) t x y g)(hk:xQ P t x y k):rC P o [x,y] (Op.eq k neg):=by
 intro base D θ H ρ w vs v d h c;unfold Op.eq at c;split at c
 .rename_i a b;have⟨i,j,he,ha,hb⟩:=h.qT;simp only[z8,uc]at he;obtain⟨rfl,rfl⟩:=he;simp only[qj]at c;have⟨q,f,c⟩:=c;cases c;have:=MY d hk ha hb f (if neg then .neq else .eql) (by grind);refine⟨_,.inl ?_,.bool _⟩;simp only[execOp,ho];rw[Nq,this];simp_all
 grind
end
end Go.Am
namespace Go.Am
structure nJ(w w0:NU):Prop where
 heap:w0.heap=w.heap
 os:w0.os=w.os
 tape:w0.tape=w.tape
 output:w0.output=w.output
theorem nJ.refl(w:NU):nJ w w:=⟨rfl,rfl,rfl,rfl⟩
theorem nJ.trans{a b c:NU}(h:nJ a b)(d:nJ b c):nJ a c:=⟨d.heap.trans h.heap,d.os.trans h.os,d.tape.trans h.tape,d.output.trans h.output⟩
def mC(P:Kb)(o:PI)(xs:List Mx)(f:List AV->Option (bF×(Nat->AV))):Prop :=
 ∀(D:Nat->Prop)θ(ρ:Mx->M9)w vs ob mk,bM D θ vs (xs.map ρ)->f vs=B1 (ob,mk) ->
  own ob=B4 /\ ∃w0 co ext c,(execOp ρ o).run P w=.ok (.value c) (w0.alloc co)/\nJ w w0 /\
   ∀(D':Nat->Prop)θ' id,Ag D θ θ'->(∀b,D b->D' b)->D' id -> θ'.cm id=w.heap.size -> θ'.off id=0 -> θ'.ext id=ext->po P D' θ' id ob co/\VR D' θ' (mk id) c
section
variable{P:Kb}
def TH{D':Nat->Prop}{θ':Th}{id:Nat}{cells:List AV}{cs:List M9}{e:ME}(h:bM D' θ' cells cs)(ho:θ'.off id=0) :
 po P D' θ' id (.row cells e (0,0) B4) (.cells cs.toArray e (0,0)) :=
 ⟨[],cs,[],(0,0),_,by simp,by grind,h,λ _=>⟨rfl,rfl,rfl,.inl rfl⟩⟩
def xht{D':Nat->Prop}{θ':Th}{id k:Nat}(a:D' id)(hb:θ'.cm id=k)(ho:θ'.off id=0):VR D' θ' (Op.ptrTo id) (.pointer (B1 ⟨k,0,B5⟩)):=by
 have:=VR.ptr (θ:=θ') (o:=0) a;rw[hb,ho]at this;exact this
def _D{D':Nat->Prop}{θ':Th}{id k n m:Nat}(a:D' id)(hb:θ'.cm id=k)(ho:θ'.off id=0):VR D' θ' (Op.sliceTo n m id) (.slice (B1 ⟨k,0,B5⟩) n m):=by
 have:=VR.slice (θ:=θ') (o:=0) (n:=n) (c:=m) a;simp only[az,hb,ho]at this;exact this
def xeu{o:PI}{e:ME}{z:AV}(ho:o.op=.alloc e)(f:zeroOf P e=B1 z):mC P o [] (Op.alloc e z.cells):=by
 intro D θ ρ w vs l mk h c;unfold Op.alloc at c;split at c
 .cases c;have⟨i,g,d⟩:=L9 (w:=w) f;refine⟨rfl,w,.cells i.cells e (0,0),0,.pointer (B1 ⟨w.heap.size,0,B5⟩),?_,.refl w,λ D' θ' id ha j b hb a _=>⟨?_,xht b hb a⟩⟩
  .simp_all [execOp,Instr.alloc,newVar,newRow]
  .have:=TH (P:=P) (e:=e) (d D' θ').cells a
   simpa using this
 grind
def xk5{o:PI}{e:ME}{x:Mx}(ho:o.op=.box e x):mC P o [x] (Op.box e):=by
 intro D θ ρ w vs f mk h c;unfold Op.box at c;split at c
 .rename_i v;have⟨g,he,ha⟩:=h.qC;simp only[z8,uc]at he;subst he;cases c;refine⟨rfl,w,.cells (ρ x).cells e (0,0),0,.pointer (B1 ⟨w.heap.size,0,B5⟩),?_,.refl w,λ D' θ' id hg d b hb a _=>⟨?_,xht b hb a⟩⟩
  .simp [execOp,ho,Instr.box,newVar,newRow]
  .have:=TH (P:=P) (e:=e) (ha.up hg d).cells a
   simpa using this
 grind
def q3x{o:PI}{t:ME}{r:Option Mx}(ho:o.op=.makeMap t r)(hr:r=B5\/(∃k n,r=B1 (.const (.int k n)) /\ ∃a b,P.underlying t=B1 (.map a b)))
 (j:∀(ρ:Mx->M9),True):∀(D:Nat->Prop)θ(ρ:Mx->M9)w vs d mk,(∀v,ρ (.const v)=v)->bM D θ vs (([]:List Mx).map ρ)->Op.mkMap vs=B1 (d,mk) ->
 own d=B4 /\ ∃w0 co ext c,(execOp ρ o).run P w=.ok (.value c) (w0.alloc co)/\nJ w w0 /\
  ∀(D':Nat->Prop)θ' id,Ag D θ θ'->(∀b,D b->D' b)->D' id -> θ'.cm id=w.heap.size -> θ'.off id=0 -> θ'.ext id=ext->po P D' θ' id d co/\VR D' θ' (mk id) c:=by
 intro D θ ρ w vs d mk m h f;unfold Op.mkMap at f;split at f
 .cases f;refine⟨rfl,w,.map #[] 0,0,.map (B1 w.heap.size),?_,.refl w,λ D' θ' id hg l i hb g _=>⟨⟨[],rfl,trivial⟩,?_⟩⟩
  .rcases hr with rfl|⟨k,n,rfl,a,b,hu⟩
   .simp [execOp,ho,Instr.makeMap]
   simp_all[execOp,Instr.makeMap,kz,asInt,asIntOf]
  grind [VR.map]
 grind
def Ys{D:Nat->Prop}{θ:Th}{z:List AV}{a:List M9}(h:bM D θ z a)(n:Nat):bM D θ (fK n z) (Jm n a).flatten:=by
 induction n with
 |zero=>exact .nil
 |succ n ih =>
  simp only[fK,pD,Qw,List.flatten_cons];exact h.app ih
def XU(a:List M9)(n:Nat):((Cq (n*a.length)).map (λ i=>a.toArray[i % a.toArray.size]!))=(Jm n a).flatten.toArray:=by
 apply Array.ext';simp only[Array.toList_map,Array.toList_range,List.size_toArray]
 induction n with
 |zero=>simp
 |succ n ih =>
  rw[show(n+1)*a.length=a.length+n*a.length from by rw[yz];omega,List.range_add,Jg,Ba,Qw,List.flatten_cons];congr 1
  .apply List.ext_getElem
   .simp
   grind [Nat.mod_eq_of_lt]
  simp_all[List.map_congr_left]
def qzy{o:PI}{t e:ME}{len n:Nat}{parts:Array (Nat×Mx)}{z:AV}{u:List (Nat×Nat)}(ho:o.op=.buildSlice t len parts)(hu:P.underlying t=B1 (.slice e))
 (hs:bU P e=B1 n) (E:zeroOf P e=B1 z) (hp:EJ (Ma n) parts.toList=B1 u) (G:z.cells.length=n) (x:len*n<=16777216) :
 mC P o (parts.toList.map (·.2)) (Op.buildSlice e len z.cells u):=by
 intro D θ ρ w vs I mk h l;simp only[Op.buildSlice,qj]at l;have⟨c,B,l⟩:=l;cases l;have⟨f,s,j⟩:=L9 (w:=w) E;have F:=(j D θ).cells.length;have g:bM D θ (fK len z.cells) (Jm len f.cells.toList).flatten:=Ys (j D θ).cells len;have hv':bM D θ vs (parts.toList.map λ p=>ρ p.2):=by grind [Function.comp_def]
 have⟨cout,y,A⟩:=ZU u vs parts.toList (Ma n) c hp hv' _ _ g B;have r:f.cells.size=n:=by rw[<-Array.length_toList];omega
 refine⟨rfl,w,.cells cout.toArray e (0,0),0,.slice (B1 ⟨w.heap.size,0,B5⟩) len len,?_,.refl w,λ D' θ' id hg C q hb d _=>⟨TH (A.up hg C) d,_D q hb d⟩⟩;have a:=XU f.cells.toList len;rw[show f.cells.toList.length=n from by omega]at a;simp only[C6]at a;have m:Instr.fill (λ i=>B1 (i*n,n)) (((Cq (len*n)).map (λ i=>f.cells[i % f.cells.size]!))) ((parts.map λ(p:Nat×Mx)=>(p.1,ρ p.2)).toList)=B1 cout.toArray:=by
  rw[a,xnc];exact y
 by_cases v:len*n=0
 .have b:Instr.fill (λ i=>B1 (i*n,n)) #[] ((parts.map λ(p:Nat×Mx)=>(p.1,ρ p.2)).toList)=B1 cout.toArray:=by
   grind
  simp only[execOp,ho,Instr.buildSlice,Nq,kz hu,Nc,uT hs,v,show Cq 0 = #[]from rfl,Array.map_empty,ux,B6,b];simp[newRow]
 .have hb:¬(len*n > 2 ^ 24):=by omega
  simp only[execOp,ho,Instr.buildSlice,Nq,kz hu,Nc,uT hs,v,hb,pq,s,B6];simp_all[newRow]
def q9q{o:PI}{t e:ME}{l c:Mx}{b n:Nat}{z:AV}(ho:o.op=.makeSlice t l c)(hu:P.underlying t=B1 (.slice e))(hb:nh P e=B1 b)
 (hs:bU P e=B1 n) (L:zeroOf P e=B1 z) (N:z.cells.length=n):mC P o [l,c] (Op.mkSlice e b z.cells):=by
 intro D θ ρ w vs W mk h p;unfold Op.mkSlice at p;split at p
 .rename_i U m V f;have⟨x,y,he,ha,u⟩:=h.qT;simp only[z8,uc]at he;obtain⟨rfl,rfl⟩:=he;cases d:(vO 0 m && vO m f && vO (f*b) 140737488355328 && vO f 140737488355328)with
  |false=>grind
  |true =>
   rw[d]at p;simp only[xu,qk,zj]at p;obtain⟨rfl,rfl⟩:=p;simp only[ze,Ol,decide_eq_true_eq]at d;have⟨⟨⟨O,Q⟩,R⟩,S⟩:=d;have⟨r,C,q⟩:=L9 (w:=w) L;have M:=(q D θ).cells.length;have B:r.cells.size=n:=by grind
   refine⟨rfl,w,.cells (Jm f.toNat r.cells.toList).flatten.toArray e (0,0),0,.slice (B1 ⟨w.heap.size,0,B5⟩) m.toNat f.toNat,?_,.refl w,
    λ D' θ' id hg T A hb j _=>⟨TH (Ys ((q D' θ').cells) _) j,_D A hb j⟩⟩
   have w1:P0.i64.wrap m=m:=by grind [IntKind.wrap,IntKind.bits]
   have w2:P0.i64.wrap f=f:=by grind [IntKind.wrap,IntKind.bits]
   have v:∃i,P.info? e=B1 i/\i.bytes=b:=by
    unfold nh at hb;cases E:P.info? e with
    |none=>grind
    |some i=>grind
   obtain⟨inf,E,rfl⟩:=v;have a:=XU r.cells.toList f.toNat;rw[show r.cells.toList.length=n from by omega]at a;simp only[C6]at a;have F:¬(f<0):=by omega
   have G:¬((inf.bytes:Int)*f > 2 ^ 48):=by grind
   have I:¬(m<0):=by omega
   have J:¬(m > f):=by omega
   have K:¬(f.toNat*inf.bytes > roomBytes):=by
    grind [roomBytes]
   have X:(2:Int) ^ 48=281474976710656:=by decide
   simp only[execOp,ho,<-ha.now,<-u.now,az,Instr.makeSlice,Nq,kz hu,Nc,asInt,asIntOf,B6,typeInfo,run_program,E,w1,w2]
   by_cases s:f.toNat*n=0
   .have g:(Jm f.toNat r.cells.toList).flatten.toArray = #[]:=by rw[<-a,s,show Cq 0 = #[]from rfl,Array.map_empty]
    simp only[F,G,I,J,K,s,askRoom,g,J5,Bool.or_self,zq,pq,ux,Nq,B6,Nc,uT hs,show Cq 0 = #[]from rfl,Array.map_empty];simp[newRow]
   .simp only[F,G,I,J,K,s,askRoom,J5,Bool.or_self,zq,pq,Nq,B6,Nc,uT hs,C,a];simp[newRow]
 grind
end
end Go.Am
