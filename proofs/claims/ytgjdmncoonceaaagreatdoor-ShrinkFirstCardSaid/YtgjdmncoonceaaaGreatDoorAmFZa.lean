import GoSem.Step
import Derived.CallsIn
import Derived.WalkKit
import Derived.WalkLawsBesides
import Derived.Lib.Strings
import Derived.Lib.Bytealg
import Derived.DeepKeys3
import Derived.Laws.Cover3
import Derived.Laws.Pointers
import Derived.Room.MakeNoZero
import Derived.Laws.IdiomStrings
set_option linter.defProp false
set_option linter.unusedVariables false
set_option linter.unusedSimpArgs false
open Array renaming range→Cu,toArray_toList→C6
open BitVec renaming ofInt→BH
open Bool renaming eq_iff_iff→Cg,false→B2,true→B4
open Go renaming Op→Cs,IntKind→P0,MapEntry→Bq,Oper→QI,Operand→MS,Program→JL,TypeId→M8,Value→Li,World→MV
open Go.Addr.mk renaming injEq→C5
open Go.Builtin renaming len_→D3
open Go.Deferred renaming ofValue→Bj
open Go.Instr renaming checkKey→Bk,findAsking→BQ,findKey→Cz,findNow→Cc,lookup→CX,sliceBounds→BL,sureAddr→C9
open Go.Op renaming equal→D2,equalIn→BP
open Go.Region renaming before→CJ
open Go.Result renaming andThen_ok→NB
open Go.Sem renaming run_bind→Ng,run_pure→A9
open Go.Value.slice renaming injEq→BZ
open List renaming range→MT,rec→A5,replicate→JK
open Nat renaming beq→I6,ble→Oa,blt→PM
open Option renaming none→B5,some→B1
open UInt8 renaming ofNat→Bh
namespace Go.Am
theorem qj:type_of% @Option.bind_eq_some_iff:=@Option.bind_eq_some_iff
def qk:type_of% @Option.some.injEq:=@Option.some.injEq
def qm:type_of% @Nat.le_refl:=@Nat.le_refl
def qn:type_of% @Nat.lt_of_lt_of_le:=@Nat.lt_of_lt_of_le
def qr:type_of% @Option.bind_some:=@Option.bind_some
def qt:type_of% @List.getElem?_eq_some_iff:=@List.getElem?_eq_some_iff
def qv:type_of% @if_neg:=@if_neg
def qy:type_of% @eq_true:=@eq_true
def xe:type_of% @List.getElem?_eq_getElem:=@List.getElem?_eq_getElem
def xg:type_of% @if_pos:=@if_pos
def xp:type_of% @List.getElem?_map:=@List.getElem?_map
theorem xq:type_of% @Option.map_eq_some_iff:=@Option.map_eq_some_iff
def xr:type_of% @List.length_append:=@List.length_append
def xt:type_of% @List.length_map:=@List.length_map
def xu:type_of% @cond_true:=@cond_true
def xw:type_of% @Nat.le_trans:=@Nat.le_trans
def xy:type_of% @Nat.lt_or_ge:=@Nat.lt_or_ge
def xz:type_of% @Nat.zero_le:=@Nat.zero_le
def za:type_of% @Bool.and_eq_true:=@Bool.and_eq_true
def zd:type_of% @List.mem_of_getElem?:=@List.mem_of_getElem?
theorem ze:type_of% @List.take_of_length_le:=@List.take_of_length_le
def zf:type_of% @List.length_set:=@List.length_set
def zh:type_of% @Prod.mk.injEq:=@Prod.mk.injEq
def zj:type_of% @List.getElem?_set_self:=@List.getElem?_set_self
def zm:type_of% @Bool.false_eq_true:=@Bool.false_eq_true
def zn:type_of% @List.getElem?_set_ne:=@List.getElem?_set_ne
def zo:type_of% @cond_false:=@cond_false
def zp:type_of% @Nat.lt_succ_self:=@Nat.lt_succ_self
def zq:type_of% @List.append_nil:=@List.append_nil
def zr:type_of% @List.getD_eq_getElem?_getD:=@List.getD_eq_getElem?_getD
def zu:type_of% @Classical.byContradiction:=@Classical.byContradiction
def zw:type_of% @List.cons.injEq:=@List.cons.injEq
def zy:type_of% @List.length_range:=@List.length_range
def z4:type_of% @List.getElem?_cons_zero:=@List.getElem?_cons_zero
def z6:type_of% @List.mem_append:=@List.mem_append
def z7:type_of% @List.getElem?_append_right:=@List.getElem?_append_right
def jc:type_of% @List.length_replicate:=@List.length_replicate
def jd:type_of% @List.length_cons:=@List.length_cons
def jg:type_of% @List.getElem?_eq_none:=@List.getElem?_eq_none
theorem jh:type_of% @List.drop_eq_nil_of_le:=@List.drop_eq_nil_of_le
def jk:type_of% @Bool.and_self:=@Bool.and_self
def jm:type_of% @Int.eq_ofNat_of_zero_le:=@Int.eq_ofNat_of_zero_le
def jo:type_of% @List.getElem?_cons_succ:=@List.getElem?_cons_succ
theorem jp:type_of% @Nat.beq_eq:=@Nat.beq_eq
def jr:type_of% @List.nil_append:=@List.nil_append
def js:type_of% @decide_eq_false:=@decide_eq_false
def jw:type_of% @Nat.mul_le_mul_right:=@Nat.mul_le_mul_right
def jx:type_of% @Iff.rfl:=@Iff.rfl
def jy:type_of% @Nat.le_succ:=@Nat.le_succ
def jz:type_of% @decide_eq_true:=@decide_eq_true
def j6:type_of% @List.map_cons:=@List.map_cons
def j7:type_of% @List.mem_cons:=@List.mem_cons
def j9:type_of% @List.flatMap_cons:=@List.flatMap_cons
theorem kc:type_of% @List.take_add_one:=@List.take_add_one
def kj:type_of% @List.getElem?_range:=@List.getElem?_range
def kr:type_of% @List.length_nil:=@List.length_nil
def ku:type_of% @List.length_eq_zero_iff:=@List.length_eq_zero_iff
def kz:type_of% @List.ext_getElem?:=@List.ext_getElem?
theorem ya:type_of% @List.length_take:=@List.length_take
def yf:type_of% @List.append_assoc:=@List.append_assoc
def yg:type_of% @List.take_append_of_le_length:=@List.take_append_of_le_length
def yi:type_of% @Option.bind_assoc:=@Option.bind_assoc
def yj:type_of% @List.mem_singleton:=@List.mem_singleton
def yo:type_of% @List.drop_zero:=@List.drop_zero
def yp:type_of% @List.getElem?_append_left:=@List.getElem?_append_left
def yq:type_of% @List.take_zero:=@List.take_zero
theorem yt:type_of% @Nat.succ_mul:=@Nat.succ_mul
def yu:type_of% @Nat.zero_add:=@Nat.zero_add
def yw:type_of% @List.length_drop:=@List.length_drop
def vf:type_of% @Array.getElem?_toList:=@Array.getElem?_toList
theorem vg:type_of% @List.take_append_drop:=@List.take_append_drop
def vh:type_of% @List.flatMap_append:=@List.flatMap_append
def vj:type_of% @Option.getD_some:=@Option.getD_some
def vn:type_of% @Option.isSome_some:=@Option.isSome_some
def vp:type_of% @List.eq_of_mem_replicate:=@List.eq_of_mem_replicate
theorem vr:type_of% @Nat.add_mul:=@Nat.add_mul
def vx:type_of% @Classical.not_not:=@Classical.not_not
def we:type_of% @List.getElem?_drop:=@List.getElem?_drop
def wg:type_of% @List.map_map:=@List.map_map
def wh:type_of% @if_false:=@if_false
def zZ:type_of% @Nat.add_assoc:=@Nat.add_assoc
def GQ:type_of% @Int.toNat_natCast:=@Int.toNat_natCast
theorem tQ:type_of% @Nat.ble_eq:=@Nat.ble_eq
theorem KZ:type_of% @Nat.eq_of_beq_eq_true:=@Nat.eq_of_beq_eq_true
def Qj:type_of% @List.drop_length_add_append:=@List.drop_length_add_append
def J2:type_of% @List.mem_cons_self:=@List.mem_cons_self
def NU:type_of% @Nat.add_sub_cancel_left:=@Nat.add_sub_cancel_left
theorem Mc:type_of% @List.getElem?_of_mem:=@List.getElem?_of_mem
def Gw:type_of% @List.all_eq_true:=@List.all_eq_true
theorem G7:type_of% @List.drop_append:=@List.drop_append
def As:type_of% @List.mem_map:=@List.mem_map
def xW:type_of% @Int.le_refl:=@Int.le_refl
def Md:type_of% @Int.toNat_of_nonneg:=@Int.toNat_of_nonneg
theorem Fv:type_of% @List.drop_drop:=@List.drop_drop
def Hq:type_of% @Bool.or_eq_true:=@Bool.or_eq_true
def HB:type_of% @List.map_append:=@List.map_append
def NJ:type_of% @List.set_append_right:=@List.set_append_right
def AY:type_of% @Nat.add_zero:=@Nat.add_zero
def Ir:type_of% @Option.map_some:=@Option.map_some
def I7:type_of% @List.cons_append:=@List.cons_append
def DQ:type_of% @Nat.zero_mul:=@Nat.zero_mul
theorem xP:type_of% @Nat.blt_eq:=@Nat.blt_eq
theorem SI:type_of% @Array.getD_eq_getD_getElem?:=@Array.getD_eq_getD_getElem?
def N5:type_of% @List.replicate_succ:=@List.replicate_succ
def Sw:type_of% @Array.getElem?_eq_some_iff:=@Array.getElem?_eq_some_iff
def LM:type_of% @List.mem_nil_iff:=@List.mem_nil_iff
def MG:type_of% @List.take_length:=@List.take_length
def N8:type_of% @List.getElem?_take:=@List.getElem?_take
def Fo:type_of% @List.map_nil:=@List.map_nil
def HO:type_of% @Nat.lt_irrefl:=@Nat.lt_irrefl
def Nr:type_of% @Option.isSome_none:=@Option.isSome_none
def tJ:type_of% @and_true:=@and_true
def SK:type_of% @Decidable.byContradiction:=@Decidable.byContradiction
def rP:type_of% @Ne.symm:=@Ne.symm
def Nz:type_of% @Nat.lt_succ_of_lt:=@Nat.lt_succ_of_lt
def NS:type_of% @Nat.le_add_right:=@Nat.le_add_right
def J1:type_of% @decide_false:=@decide_false
def tP:type_of% @eq_self:=@eq_self
def uE:type_of% @if_true:=@if_true
def M0:type_of% @List.mem_range:=@List.mem_range
def RN:type_of% @List.take_append:=@List.take_append
def J7:type_of% @Nat.ne_of_lt:=@Nat.ne_of_lt
def Kk:type_of% @Nat.sub_self:=@Nat.sub_self
def IQ:type_of% @Int.not_lt:=@Int.not_lt
def Fq:type_of% @true_and:=@true_and
inductive T(α:Type)where
 |nil
 |node (l:T α) (v:Option α) (r:T α)
noncomputable section
namespace T
variable{α:Type}
def l:T α->T α
 | .nil=>.nil
 | .node a _ _=>a
def r:T α->T α
 | .nil=>.nil
 | .node _ _ b=>b
def val:T α->Option α
 | .nil=>B5
 | .node _ v _=>v
def path(i:Nat):List Bool:=go i i
 where go:Nat->Nat->List Bool
 |0,_=>[]
 |f+1,i=>match i with
  |0=>[]
  |n+1=>I6 (Nat.mod n 2) 0::go f (Nat.div n 2)
def wT:List Bool->T α->Option α
 |[],t=>t.val
 |b::p,t=>wT p (cond b t.l t.r)
def fR(v:Option α):List Bool->T α->T α
 |[],t=>.node t.l v t.r
 |b::p,t=>cond b (.node (fR v p t.l) t.val t.r) (.node t.l t.val (fR v p t.r))
def get(t:T α)(i:Nat):Option α:=wT (path i) t
def put(t:T α)(i:Nat)(v:Option α):T α:=fR v (path i) t
def set(t:T α)(i:Nat)(v:α):T α:=t.put i (B1 v)
structure Get(α:Type)where
 run:T α->Option α
structure Put(α:Type)where
 run:Option α->T α->T α
def oI:List Bool->Get α
 |[]=>⟨val⟩
 |true::p=>⟨λ t=>(oI p).run t.l⟩
 |false::p=>⟨λ t=>(oI p).run t.r⟩
def Du:List Bool->Put α
 |[]=>⟨λ v t=>.node t.l v t.r⟩
 |true::p=>⟨λ v t=>.node ((Du p).run v t.l) t.val t.r⟩
 |false::p=>⟨λ v t=>.node t.l t.val ((Du p).run v t.r)⟩
end T
def nth{α:Type}(l:List α):Nat->Option α :=
 A5 (motive:=λ _=>Nat->Option α) (λ _=>B5) (λ x _ ih i=>Nat.rec (motive:=λ _=>Option α) (B1 x) (λ n _=>ih n) i) l
def jT{α:Type}(a b:List α):List α:=A5 (motive:=λ _=>List α) b (λ x _ ih=>x::ih) a
def cW{α:Type}(l:List α):Nat:=A5 (motive:=λ _=>Nat) 0 (λ _ _ ih=>ih+1) l
def Py{α:Type}:List α->List α
 |[]=>[]
 |_::l=>l
def cS{α:Type}(n:Nat):List α->List α:=Nat.rec (motive:=λ _=>List α->List α) (λ l=>l) (λ _ ih l=>ih (Py l)) n
def B8{α:Type}(n:Nat):List α->Option (List α) :=
 Nat.rec (motive:=λ _=>List α->Option (List α)) (λ _=>B1 [])
  (λ _ ih l=>A5 (motive:=λ _=>Option (List α)) B5 (λ x t _=>(ih t).bind λ r=>B1 (x::r)) l) n
def yE{α:Type}(new:List α):List α->Option (List α) :=
 A5 (motive:=λ _=>List α->Option (List α)) (λ l=>B1 l)
  (λ x _ ih l=>A5 (motive:=λ _=>Option (List α)) B5 (λ _ t _=>(ih t).bind λ r=>B1 (x::r)) l) new
def putAt{α:Type}(o:Nat)(new:List α):List α->Option (List α) :=
 Nat.rec (motive:=λ _=>List α->Option (List α)) (λ l=>yE new l)
  (λ _ ih l=>A5 (motive:=λ _=>Option (List α)) B5 (λ x t _=>(ih t).bind λ r=>B1 (x::r)) l) o
def fK{α:Type}(l:List α)(o n:Nat):Option (List α):=B8 n (cS o l)
inductive mD where
 |func (f:Nat)
 |yield (l:Nat)
inductive AV where
 |bool (b:Bool)
 |int (k:P0) (n:Int)
 |str (s:List UInt8)
 |nilp
 |ptr (b o:Nat)
 |nils
 |slice (b o n c:Nat)
 |gslice (b i m size alt n:Nat)
 |eslice (b:Nat)
 |mB
 |map (b:Nat)
 |fn (f:mD) (first captured:List AV)
 |nilf
 |iface (t:Nat) (v:AV)
 |nili
 |agg (l:List AV)
 |tuple (l:List AV)
instance:Inhabited AV:=⟨.nili⟩
def AV.undef:AV:=.tuple []
def AV.cells:AV->List AV
 | .agg l=>l
 |v=>[v]
inductive bK where
 |tmp (t:Nat)
 |const (v:AV)
 |eG (g:Nat)
 |func (f:Nat)
inductive eh where
 |tmp (t:Nat)
 |kK (a:Nat)
 |cR (n:Nat) (a:Nat)
inductive ia where
 |exit (id:Nat)|goto (l:Nat)|ret
inductive mY where
 |ready|busy|done|exhausted
inductive aK where
 |jD (b:Nat)
 |fn (f:mD) (args:List AV)
inductive bD where
 |row (cells:List AV) (elem:Nat) (fz:Nat×Nat) (own:Bool)
 |grown (m size:Nat) (cells:List AV) (elem:Nat) (fz:Nat×Nat)
 |map (es:List (AV×AV×Nat)) (clock:Nat)
 |mq (s:List UInt8) (pos:Nat)
 |loop (st:mY) (pend:Option ia) (fn k:Nat) (tm:T AV) (defers:Nat)
 |deferred (calls:Option (List aK))
structure ar where
 t:T bD
 au:Nat
namespace ar
def get(H:ar)(b:Nat):Option bD:=H.t.get b
def set(H:ar)(b:Nat)(o:bD):ar:={H with t:=H.t.set b o}
def alloc(H:ar)(o:bD):ar:={t:=H.t.set H.au o,au:=H.au+1}
def kill(H:ar)(b:Nat):ar:={H with t:=H.t.put b B5}
def bU(H:ar)(b:Nat):Option (List AV) :=
 match H.get b with
 |some (.row c _ _ _)=>B1 c
 |some (.grown _ _ c _ _)=>B1 c
 |_=>B5
end ar
def ar.ae(H:ar)(b o:Nat):Option AV:=(H.bU b).bind λ l=>nth l o
def ar.eX(H:ar)(b:Nat):Option (List (AV×AV×Nat)×Nat) :=
 match H.get b with
 |some (.map es c)=>B1 (es,c)
 |_=>B5
def ar.aq(H:ar)(b o n:Nat):Option (List AV):=(H.bU b).bind λ l=>fK l o n
def eC(fz:Nat×Nat)(o n:Nat):Bool:=Oa (o+n) fz.1 ||Oa fz.2 o
def aB:AV->Bool
 | .agg _| .tuple _=>B2
 |_=>B4
def aL(l:List AV):Bool:=A5 (motive:=λ _=>Bool) B4 (λ x _ ih=>cond (aB x) ih B2) l
def ar.store(H:ar)(b o:Nat)(new:List AV):Option ar :=
 cond (aL new) (match H.get b with
  |some (.row c e fz B4)=>cond (eC fz o (cW new)) ((putAt o new c).bind λ c'=>B1 (H.set b (.row c' e fz B4))) B5
  |some (.grown m s c e fz)=>cond (eC fz o (cW new)) ((putAt o new c).bind λ c'=>B1 (H.set b (.grown m s c' e fz))) B5
  |_=>B5) B5
def rO(tm:T AV):bK->Option AV
 | .tmp t=>tm.get t
 | .const v=>B1 v
 | .eG g=>B1 (.ptr g 0)
 | .func f=>B1 (.fn (.func f) [] [])
def mE(tm:T AV):List bK->Option (List AV)
 |[]=>B1 []
 |x::xs=>(rO tm x).bind λ v=>(mE tm xs).bind λ vs=>B1 (v::vs)
structure Ev where
 run:T AV->Option AV
structure Evs where
 run:T AV->Option (List AV)
def Oe:bK->Ev
 | .tmp t=>⟨(T.oI (T.path t)).run⟩
 | .const v=>⟨λ _=>B1 v⟩
 | .eG g=>⟨λ _=>B1 (.ptr g 0)⟩
 | .func f=>⟨λ _=>B1 (.fn (.func f) [] [])⟩
def ux:List bK->Evs
 |[]=>⟨λ _=>B1 []⟩
 |[x]=>⟨λ tm=>((Oe x).run tm).bind λ v=>B1 [v]⟩
 |x::xs=>⟨λ tm=>((Oe x).run tm).bind λ v=>((ux xs).run tm).bind λ vs=>B1 (v::vs)⟩
def vQ(a b:Int):Bool:=match a,b with
 | .ofNat m,.ofNat n=>Oa m n
 | .ofNat _,.negSucc _=>B2
 | .negSucc _,.ofNat _=>B4
 | .negSucc m,.negSucc n=>Oa n m
def AG(a b:Int):Bool:=!vQ b a
def uc(a b:Int):Bool:=match a,b with
 | .ofNat m,.ofNat n=>I6 m n
 | .negSucc m,.negSucc n=>I6 m n
 |_,_=>B2
def kP:P0->Nat
 | .i8=>0| .i16=>1| .i32=>2| .i64=>3| .u8=>4| .u16=>5| .u32=>6| .u64=>7
def tf(a b:P0):Bool:=I6 (kP a) (kP b)
def EI(a b:UInt8):Bool:=I6 a.toNat b.toNat
def AJ:List UInt8->List UInt8->Bool
 |[],[]=>B4
 |a::x,b::y=>cond (EI a b) (AJ x y) B2
 |_,_=>B2
inductive aS where
 |int|str|bool
 |nil
 |part (off:Nat) (n:Option Nat) (t rest:aS)
def partAt(l:List AV)(off:Nat):Option Nat->Option AV
 |none=>nth l off
 |some k=>(fK l off k).bind λ c=>B1 (.agg c)
def bm:aS->AV->AV->Option Bool
 | .int,.int k a,.int k' b=>cond (tf k k') (B1 (uc a b)) B5
 | .str,.str a,.str b=>B1 (AJ a b)
 | .bool,.bool a,.bool b=>B1 (a == b)
 | .nil,.agg _,.agg _=>B1 B4
 | .part off n t rest,.agg x,.agg y=>(partAt x off n).bind λ a=>(partAt y off n).bind λ b=>(bm t a b).bind λ q =>
  cond q (bm rest (.agg x) (.agg y)) (B1 B2)
 |_,_,_=>B5
def cZ:aS->AV->Bool
 | .int,.int _ _=>B4
 | .str,.str _=>B4
 | .bool,.bool _=>B4
 | .nil,.agg _=>B4
 | .part off n t rest,.agg x=>match partAt x off n with
  |some a=>cond (cZ t a) (cZ rest (.agg x)) B2
  |none=>B2
 |_,_=>B2
def bytesLess:List UInt8->List UInt8->Bool
 |_,[]=>B2
 |[],_::_=>B4
 |a::x,b::y=>PM a.toNat b.toNat ||(EI a b && bytesLess x y)
def qN(op:BinOp)(a b:List UInt8):Option AV :=
 match op with
 | .add=>cond (Oa (a.length+b.length) 140737488355328) (B1 (.str (a++b))) B5
 | .eql=>B1 (.bool (AJ a b))
 | .neq=>B1 (.bool (!(AJ a b)))
 | .lss=>B1 (.bool (bytesLess a b))
 | .leq=>B1 (.bool (bytesLess a b ||AJ a b))
 | .gtr=>B1 (.bool (!(bytesLess a b ||AJ a b)))
 | .geq=>B1 (.bool (!bytesLess a b))
 |_=>B5
def aj(k:P0)(n:Int):Int:=k.wrap n
def gC(op:BinOp)(k:P0)(a b:Int):Option AV :=
 match op with
 | .add=>B1 (.int k (aj k (a+b)))
 | .sub=>B1 (.int k (aj k (a-b)))
 | .mul=>B1 (.int k (aj k (a*b)))
 | .quo=>cond (uc b 0) B5 (B1 (.int k (aj k (a.tdiv b))))
 | .rem=>cond (uc b 0) B5 (B1 (.int k (a.tmod b)))
 | .and=>B1 (.int k (aj k ((BH k.bits a &&& BH k.bits b).toNat)))
 | .or=>B1 (.int k (aj k ((BH k.bits a |||BH k.bits b).toNat)))
 | .xor=>B1 (.int k (aj k ((BH k.bits a ^^^ BH k.bits b).toNat)))
 | .andNot=>B1 (.int k (aj k ((BH k.bits a &&& ~~~(BH k.bits b)).toNat)))
 | .eql=>B1 (.bool (uc a b))
 | .neq=>B1 (.bool (!uc a b))
 | .lss=>B1 (.bool (AG a b))
 | .leq=>B1 (.bool (vQ a b))
 | .gtr=>B1 (.bool (AG b a))
 | .geq=>B1 (.bool (vQ b a))
 |_=>B5
inductive wW where
 |bool|ptr|slice|map|func|iface
 |ifaces (f:Nat->Option aS)
 |agg (t:aS)
def sD(isNil isSome:AV->Bool)(x y:AV):Option Bool :=
 cond (isNil x) (cond (isNil y) (B1 B4) (cond (isSome y) (B1 B2) B5)) (cond (isSome x && isNil y) (B1 B2) B5)
def Eg:AV->Bool
 | .nils=>B4
 |_=>B2
def isSlice:AV->Bool
 | .slice ..=>B4
 | .gslice ..=>B4
 | .eslice _=>B4
 |_=>B2
def BU:AV->Bool
 | .mB=>B4
 |_=>B2
def isMap:AV->Bool
 | .map _=>B4
 |_=>B2
def E9:AV->Bool
 | .nilf=>B4
 |_=>B2
def Pl:AV->Bool
 | .fn ..=>B4
 |_=>B2
def DK:AV->Bool
 | .nili=>B4
 |_=>B2
def isIface:AV->Bool
 | .iface ..=>B4
 |_=>B2
def yM(H:ar)(b b':Nat):Bool :=
 match H.get b,H.get b' with
 |some (.row _ _ (0,0) B4),B1 (.row (_::_) _ _ _)=>B4
 |some (.row (_::_) _ _ _),B1 (.row _ _ (0,0) B4)=>B4
 |_,_=>B2
def tu(op:BinOp)(k:P0)(a b:Int):Option AV :=
 cond (AG b 0) B5 (match op with
  | .shl=>B1 (.int k (aj k (a*2 ^ (min b.toNat k.bits))))
  |_=>B1 (.int k (a.fdiv (2 ^ (min b.toNat k.bits)))))
def dZ:BinOp->Bool
 | .shl| .shr=>B4
 |_=>B2
def I8(H:ar):wW->AV->AV->Option Bool
 | .bool,.bool a,.bool b=>B1 (a == b)
 | .ptr,.nilp,.nilp=>B1 B4
 | .ptr,.nilp,.ptr _ _=>B1 B2
 | .ptr,.ptr _ _,.nilp=>B1 B2
 | .ptr,.ptr b o,.ptr b' o'=>cond (I6 b b') (B1 (I6 o o')) (cond (yM H b b') (B1 B2) B5)
 | .slice,x,y=>sD Eg isSlice x y
 | .map,x,y=>sD BU isMap x y
 | .func,x,y=>sD E9 Pl x y
 | .iface,x,y=>sD DK isIface x y
 | .ifaces f,.iface t a,.iface u b=>cond (I6 t u) ((f t).bind λ q=>bm q a b) (B1 B2)
 | .ifaces _,.nili,.iface _ _=>B1 B2
 | .ifaces _,.iface _ _,.nili=>B1 B2
 | .agg t,x,y=>bm t x y
 |_,_,_=>B5
def nT(op:BinOp)(x y:AV):Option AV :=
 match x,y with
 | .int k a,.int k' b=>cond (dZ op) (tu op k a b) (cond (tf k k') (gC op k a b) B5)
 | .str a,.str b=>qN op a b
 |_,_=>B5
def _i(op:UnOp)(x:AV):Option AV :=
 match op,x with
 | .neg,.int k n=>B1 (.int k (aj k (0-n)))
 | .xor,.int k n=>gC .xor k (if k.signed then -1 else k.max) n
 | .not,.bool b=>B1 (.bool (!b))
 |_,_=>B5
def jB(cells:List AV):List (Nat×Nat)->List AV->Option (List AV)
 |[],[]=>B1 cells
 |(off,size)::ps,v::vs=>cond (I6 (cW v.cells) size) ((putAt off v.cells cells).bind λ c=>jB c ps vs) B5
 |_,_=>B5
def fV(n:Nat)(z:List AV):List AV :=
 match n with
 |0=>[]
 |n+1=>jT z (fV n z)
def within(i:Int)(n:Nat):Option Nat:=match i with
 | .ofNat k=>cond (PM k n) (B1 k) B5
 | .negSucc _=>B5
def arg(vs:List AV):Option Nat->Option (Option AV)
 |none=>B1 B5
 |some i=>(nth vs i).bind λ v=>B1 (B1 v)
def bound(v:Option AV)(d mx:Nat):Option Nat :=
 match v with
 |none=>B1 d
 |some (.int _ (.ofNat i))=>cond (Oa i mx) (B1 i) B5
 |_=>B5
def dQ(size:Nat)(x:AV)(lo hi mx:Option AV):Option AV :=
 match x with
 | .nils=>match mx with
  |none=>(bound hi 0 0).bind λ h=>(bound lo 0 h).bind λ _=>B1 .nils
  |some _=>B5
 | .slice b o n c=>match mx,hi with
  |some _,B5=>B5
  |mx,hi=>(bound mx c c).bind λ m=>(bound hi n m).bind λ h=>(bound lo 0 h).bind λ l =>
   B1 (.slice b (cond (I6 m l) o (o+l*size)) (h-l) (m-l))
 | .gslice b i m s alt n =>
  cond (I6 s size && Oa i m) (match mx,hi with
   |none,hi=>(bound hi n (m-i)).bind λ h=>(bound lo 0 h).bind λ l =>
    cond (Oa h (m-i)) (B1 (.gslice b (i+l) m s (cond (I6 l 0) alt (i*s)) (h-l))) B5
   |some _,B5=>B5
   |mx,hi=>(bound mx 0 (m-i)).bind λ x=>(bound hi 0 x).bind λ h=>(bound lo 0 h).bind λ l =>
    cond (I6 x l) B5 (B1 (.slice b ((i+l)*s) (h-l) (x-l)))) B5
 | .eslice b=>match mx with
  |none=>(bound hi 0 0).bind λ h=>(bound lo 0 h).bind λ _=>B1 (.eslice b)
  |some _=>B5
 |_=>B5
def eR:AV->Option Nat
 | .str s=>B1 (cW s)
 | .nils=>B1 0
 | .slice _ _ n _=>B1 n
 | .gslice _ _ _ _ _ n=>B1 n
 | .eslice _=>B1 0
 |_=>B5
def elemAt(size:Nat)(x:AV)(j:Nat):Option (Nat×Nat) :=
 match x with
 | .slice b o n _=>cond (PM j n) (B1 (b,o+j*size)) B5
 | .gslice b i m s _ n=>cond (PM j n && I6 s size && PM (i+j) m) (B1 (b,i*s+j*s)) B5
 |_=>B5
def firstCells(H:ar)(size n:Nat)(x:AV):Option (List AV) :=
 match x with
 | .nils=>B1 []
 | .str s=>cond (I6 size 1) (B1 ((s.take n).map λ b=>.int .u8 b.toNat)) B5
 | .slice b o _ _=>cond (I6 n 0) (B1 []) (H.aq b o (n*size))
 | .gslice b i m s _ _=>cond (I6 n 0) (B1 []) (cond (I6 s size && PM i m) (H.aq b (i*s) (n*size)) B5)
 | .eslice _=>cond (I6 n 0) (B1 []) B5
 |_=>B5
def eT(n:Int):AV:=.int .i64 n
def findKey(t:aS)(k:AV):List (AV×AV×Nat)->Nat->Option (Option (Nat×AV))
 |[],_=>B1 B5
 |(k',v,_)::es,i=>(bm t k k').bind λ q=>cond q (B1 (B1 (i,v))) (findKey t k es (i+1))
def Ho(c:UInt8):List UInt8->Nat->Option Nat
 |[],_=>B5
 |x::l,i=>cond (EI x c) (B1 i) (Ho c l (i+1))
def wR(c:UInt8):List UInt8->Nat
 |[]=>0
 |x::l=>cond (EI x c) (wR c l+1) (wR c l)
def byteOf:AV->Option UInt8
 | .int .u8 n=>B1 (Bh n.toNat)
 |_=>B5
def bytesOf:List AV->Option (List UInt8)
 |[]=>B1 []
 |x::l=>(byteOf x).bind λ b=>(bytesOf l).bind λ r=>B1 (b::r)
def fits(n bytes:Nat):Bool:=Oa (n*bytes) 140737488355328 && Oa n 140737488355328
def dA(H:ar)(e size n:Nat)(cells:List AV)(fz:Nat×Nat):AV×ar :=
 (.gslice H.au 0 n size 0 n,H.alloc (.grown n size cells e fz))
def de(H:ar)(e size bytes:Nat)(s:AV)(n:Nat)(new:List AV):Option (AV×ar) :=
 match s with
 | .nils=>cond (I6 n 0) (B1 (.nils,H)) (cond (fits n bytes && PM 0 size) (B1 (dA H e size n new (0,0))) B5)
 | .slice b o len c =>
  cond (Oa (len+n) c)
   (cond (I6 n 0) (B1 (.slice b o (len+n) c,H)) ((H.store b (o+len*size) new).bind λ H'=>B1 (.slice b o (len+n) c,H')))
   (cond (fits (len+n) bytes && Oa c (len+n) && PM 0 size)
    ((firstCells H size len (.slice b o len c)).bind λ old=>B1 (dA H e size (len+n) (jT old new) (0,0))) B5)
 | .gslice b i m sz alt len =>
  cond (I6 n 0) (cond (Oa (i+len) m) (B1 (.gslice b i m sz alt len,H)) B5) (cond (I6 sz size && Oa (i+len) m && PM 0 size)
   (cond (Oa (i+len+n) m)
    ((H.store b ((i+len)*size) new).bind λ H'=>B1 (.gslice b i m sz alt (len+n),H'))
    (cond (fits (len+n) bytes) (match H.get b with
     |some (.grown m' sz' c e' fz) =>
      cond (I6 m m' && I6 sz sz' && I6 e' e)
       (cond (I6 i 0 && I6 len m && Oa fz.2 (m*size)) (B1 (dA (H.kill b) e size (len+n) (jT c new) fz)) (cond (Oa fz.2 (i*size))
        ((fK c (i*size) (len*size)).bind λ old=>B1 (dA (H.kill b) e size (len+n) (jT old new) (cond (I6 fz.1 fz.2) (0,0) (1,0))))
        (cond (I6 i 0 && Oa fz.2 (len*size))
         ((fK c 0 (len*size)).bind λ old=>B1 (dA (H.kill b) e size (len+n) (jT old new) fz)) B5))) B5
     |_=>B5) B5)) B5)
 |_=>B5
namespace Op
def fail:List AV->Option AV:=λ _=>B5
def move:List AV->Option AV
 |[v]=>B1 v
 |_=>B5
def pick:List AV->Option AV
 |[.bool q,a,b]=>B1 (cond q a b)
 |_=>B5
def build(zero:List AV)(places:List (Nat×Nat))(vs:List AV):Option AV :=
 (jB zero places vs).bind λ c=>B1 (.agg c)
def nilCheck:List AV->Option AV
 |[.nilp]|[.nili]|[.nilf]=>B5
 |[.fn (.func f) a b]=>B1 (.fn (.func f) a b)
 |[.fn _ _ _]=>B5
 |[v]=>B1 v
 |_=>B5
def bin(op:BinOp):List AV->Option AV
 |[x,y]=>nT op x y
 |_=>B5
def eq(t:wW)(neg:Bool):List AV->ar->Option AV
 |[x,y],H=>(I8 H t x y).bind λ q=>B1 (.bool (cond neg (!q) q))
 |_,_=>B5
def un(op:UnOp):List AV->Option AV
 |[x]=>_i op x
 |_=>B5
def wrap(k:P0):List AV->Option AV
 |[.int _ n]=>B1 (.int k (aj k n))
 |_=>B5
def dI:List AV->Option AV
 |[.int _ n]=>cond (vQ 0 n && AG n 128) (B1 (.str [Bh n.toNat])) B5
 |_=>B5
def eM:List AV->Option AV
 |[.str s]=>B1 (.str s)
 |_=>B5
def dC(t:Nat):List AV->Option AV
 |[v]=>B1 (.iface t v)
 |_=>B5
def bJ(f nf:Nat)(l:List AV):Option AV:=B1 (.fn (.func f) (l.take nf) (l.drop nf))
def dO:List (Option Nat)->List AV->Option AV
 |[lo,hi],.str s::vs =>
  (arg vs hi).bind λ b=>(arg vs lo).bind λ a=>(bound b s.length s.length).bind λ h=>(bound a 0 h).bind λ l=>B1 (.str ((s.take h).drop l))
 |_,_=>B5
def aD(size:Nat):List (Option Nat)->List AV->Option AV
 |[lo,hi,mx],x::vs=>(arg vs lo).bind λ a=>(arg vs hi).bind λ b=>(arg vs mx).bind λ m=>dQ size x a b m
 |_,_=>B5
def cK(n size:Nat):List (Option Nat)->List AV->Option AV
 |[lo,hi,mx],.ptr p o::vs=>(arg vs lo).bind λ a=>(arg vs hi).bind λ b=>(arg vs mx).bind λ m=>dQ size (.slice p o n n) a b m
 |_,_=>B5
def fieldAddr(off:Nat):List AV->Option AV
 |[.ptr b o]=>B1 (.ptr b (o+off))
 |_=>B5
def field(off:Nat)(n:Option Nat):List AV->Option AV
 |[.agg l]=>partAt l off n
 |_=>B5
def aP(size:Nat):List AV->Option AV
 |[x,.int _ j]=>(eR x).bind λ n=>(within j n).bind λ k=>(elemAt size x k).bind λ p=>B1 (.ptr p.1 p.2)
 |_=>B5
def aR(len size:Nat):List AV->Option AV
 |[.ptr b o,.int _ j]=>(within j len).bind λ k=>B1 (.ptr b (o+k*size))
 |_=>B5
def bE(len size:Nat)(n:Option Nat):List AV->Option AV
 |[.agg l,.int _ j]=>(within j len).bind λ k=>partAt l (k*size) n
 |_=>B5
def bN:List AV->Option AV
 |[.str s,.int _ j]=>(within j s.length).bind λ k=>(nth s k).bind λ b=>B1 (.int .u8 b.toNat)
 |_=>B5
def typeAssert(t:Nat)(ok:Bool)(zero:AV):List AV->Option AV
 |[.nili]=>cond ok (B1 (.tuple [zero,.bool B2])) B5
 |[.iface u v]=>cond (I6 u t) (B1 (cond ok (.tuple [v,.bool B4]) v)) (cond ok (B1 (.tuple [zero,.bool B2])) B5)
 |_=>B5
def extract(i:Nat):List AV->Option AV
 |[.tuple l]=>nth l i
 |_=>B5
def fD:List AV->Option AV
 |[.str s]=>B1 (eT (cW s))
 |_=>B5
def db:List AV->Option AV
 |[.nils]=>B1 (eT 0)
 |[.slice _ _ n _]=>B1 (eT n)
 |[.gslice _ _ _ _ _ n]=>B1 (eT n)
 |[.eslice _]=>B1 (eT 0)
 |_=>B5
def oR(n:Nat):List AV->Option AV
 |[_]=>B1 (eT n)
 |_=>B5
def cap:List AV->Option AV
 |[.nils]=>B1 (eT 0)
 |[.slice _ _ _ c]=>B1 (eT c)
 |_=>B5
def iA(mx:Bool):Int->List AV->Option Int
 |a,[]=>B1 a
 |a,.int _ b::l=>iA mx (cond mx (cond (AG a b) b a) (cond (AG b a) b a)) l
 |_,_=>B5
def eU(mx:Bool):List AV->Option AV
 | .int k a::l=>(iA mx a l).bind λ r=>B1 (.int k r)
 |_=>B5
def di:List AV->Option AV
 |[.nils]=>B1 .nilp
 |[.slice b o _ c]=>cond (I6 c 0) B5 (B1 (.ptr b o))
 |[.gslice b i m s _ _]=>cond (PM i m) (B1 (.ptr b (i*s))) B5
 |_=>B5
def dK:List AV->Option AV
 |[x]=>B1 x
 |_=>B5
def aC:List AV->Option AV
 |[.str s,.int .u8 c]=>B1 (eT (match Ho (Bh c.toNat) s 0 with|some i=>i|none=>-1))
 |_=>B5
def bR:List AV->Option AV
 |[.str s,.int .u8 c]=>B1 (eT (Int.ofNat (wR (Bh c.toNat) s)))
 |_=>B5
def ae:List AV->ar->Option AV
 |[.ptr b o],H=>H.ae b o
 |_,_=>B5
def aq(n:Nat):List AV->ar->Option AV
 |[.ptr b o],H=>(H.aq b o n).bind λ l=>B1 (.agg l)
 |_,_=>B5
def cF:List AV->ar->Option AV
 |[.str _],_=>B5
 |[v],H=>(eR v).bind λ n=>(firstCells H 1 n v).bind λ l=>(bytesOf l).bind λ s=>B1 (.str s)
 |_,_=>B5
def lookup(key:aS)(zero:AV)(ok:Bool):List AV->ar->Option AV
 |[.mB,k],_=>cond (cZ key k) (B1 (cond ok (.tuple [zero,.bool B2]) zero)) B5
 |[.map b,k],H=>cond (cZ key k) ((H.eX b).bind λ m=>(findKey key k m.1 0).bind λ r=>match r with
  |some p=>B1 (cond ok (.tuple [p.2,.bool B4]) p.2)
  |none=>B1 (cond ok (.tuple [zero,.bool B2]) zero)) B5
 |_,_=>B5
def gJ:List AV->ar->Option AV
 |[.mB],_=>B1 (eT 0)
 |[.map b],H=>(H.eX b).bind λ m=>B1 (eT m.1.length)
 |_,_=>B5
def eN(lies:Nat->Nat->Nat->Bool):List AV->ar->Option AV
 |[.nilp],_=>B1 .nilp
 |[.ptr b o],H=>match H.get b with
  |some (.row c e _ B4)=>cond (lies e c.length o) (B1 (.ptr b o)) B5
  |_=>B5
 |_,_=>B5
def ptrTo(b:Nat):AV:=.ptr b 0
def alloc(e:Nat)(zero:List AV):List AV->Option (bD×(Nat->AV))
 |[]=>B1 (.row zero e (0,0) B4,ptrTo)
 |_=>B5
def box(e:Nat):List AV->Option (bD×(Nat->AV))
 |[v]=>B1 (.row v.cells e (0,0) B4,ptrTo)
 |_=>B5
def sliceTo(n m:Nat)(b:Nat):AV:=.slice b 0 n m
def buildSlice(e n:Nat)(zero:List AV)(places:List (Nat×Nat))(vs:List AV):Option (bD×(Nat->AV)) :=
 (jB (fV n zero) places vs).bind λ c=>B1 (.row c e (0,0) B4,sliceTo n n)
def mkMap:List AV->Option (bD×(Nat->AV))
 |[]=>B1 (.map [] 0,.map)
 |_=>B5
def mkSlice(e bytes:Nat)(zero:List AV):List AV->Option (bD×(Nat->AV))
 |[.int _ n,.int _ m]=>cond (vQ 0 n && vQ n m && vQ (m*bytes) 140737488355328 && vQ m 140737488355328)
  (B1 (.row (fV m.toNat zero) e (0,0) B4,sliceTo n.toNat m.toNat)) B5
 |_=>B5
def qq(m n:Nat)(b:Nat):AV:=.gslice b 0 m 1 0 n
def cE(e:Nat):List AV->Option (bD×(Nat->AV))
 |[.str s]=>cond (Oa s.length 140737488355328) (B1 (.grown s.length 1 (s.map λ b=>.int .u8 b.toNat) e (1,0),qq s.length s.length)) B5
 |_=>B5
def dM:List AV->Option (bD×(Nat->AV))
 |[.str s]=>B1 (.mq s 0,ptrTo)
 |_=>B5
def makeNoZero(e:Nat):List AV->Option (bD×(Nat->AV))
 |[.int .i64 n]=>cond (vQ 0 n && vQ n 140737488355328) (B1 (.grown 0 1 [] e (0,0),qq 0 n.toNat)) B5
 |_=>B5
def store(n:Nat):List AV->ar->Option (AV×ar)
 |[.ptr b o,v],H=>cond (I6 (cW v.cells) n) ((H.store b o v.cells).bind λ H'=>B1 (.undef,H')) B5
 |_,_=>B5
def ui:AV->AV->Bool
 | .int k a,.int k' b=>tf k k' && uc a b
 | .str a,.str b=>AJ a b
 | .bool a,.bool b=>a == b
 |_,_=>B2
def fg:List AV->List AV->Bool
 |[],[]=>B4
 |a::x,b::y=>cond (ui a b) (fg x y) B2
 |_,_=>B2
def stays:AV->AV->Bool
 | .agg a,.agg b=>fg a b
 |a,b=>ui a b
def mapUpdate(key:aS):List AV->ar->Option (AV×ar)
 |[.map b,k,v],H=>cond (cZ key k) ((H.eX b).bind λ m=>(findKey key k m.1 0).bind λ r=>match r with
  |some p=>(nth m.1 p.1).bind λ e=>cond (stays e.1 k) (B1 (.undef,H.set b (.map (m.1.modify p.1 λ e=>(k,v,e.2.2)) m.2))) B5
  |none=>B1 (.undef,H.set b (.map (m.1 ++ [(k,v,m.2)]) (m.2+1)))) B5
 |_,_=>B5
def dk(key:aS):List AV->ar->Option (AV×ar)
 |[.mB,k],H=>cond (cZ key k) (B1 (.tuple [],H)) B5
 |[.map b,k],H=>cond (cZ key k) ((H.eX b).bind λ m=>(findKey key k m.1 0).bind λ r=>match r with
  |some p=>B1 (.tuple [],H.set b (.map (m.1.eraseIdx p.1) m.2))
  |none=>B1 (.tuple [],H.set b (.map m.1 m.2))) B5
 |_,_=>B5
def eO:List AV->ar->Option (AV×ar)
 |[.ptr b 0],H=>match H.get b with
  |some (.mq s p)=>match nth s p with
   |some c=>cond (PM c.toNat 128) (B1 (.tuple [.bool B4,eT p,.int .i32 c.toNat],H.set b (.mq s (p+1)))) B5
   |none=>B1 (.tuple [.bool B2],H)
  |_=>B5
 |_,_=>B5
def append(e size bytes:Nat):List AV->ar->Option (AV×ar)
 |[a,b],H=>(eR b).bind λ n=>(firstCells H size n b).bind λ new=>cond (aL new) (de H e size bytes a n new) B5
 |_,_=>B5
def copy(size:Nat):List AV->ar->Option (AV×ar)
 |[.str _,_],_=>B5
 |[d,r],H=>(eR d).bind λ dn=>(eR r).bind λ rn=>(firstCells H size (min rn dn) r).bind λ l =>
  cond (I6 (min rn dn) 0) (B1 (eT 0,H)) ((elemAt size d 0).bind λ p=>(H.store p.1 p.2 l).bind λ H'=>B1 (eT (min rn dn),H'))
 |_,_=>B5
def bX(zero:List AV):List AV->ar->Option (AV×ar)
 |[.str _],_=>B5
 |[x],H=>(eR x).bind λ n=>cond (I6 n 0) (B1 (.tuple [],H))
  ((elemAt zero.length x 0).bind λ p=>(H.store p.1 p.2 (fV n zero)).bind λ H'=>B1 (.tuple [],H'))
 |_,_=>B5
def bS:List AV->ar->Option (AV×ar)
 |[.mB],H=>B1 (.tuple [],H)
 |[.map b],H=>(H.eX b).bind λ m=>B1 (.tuple [],H.set b (.map [] m.2))
 |_,_=>B5
def mV(fz:Nat×Nat)(o n:Nat):Nat×Nat:=cond (I6 fz.1 fz.2) (o,o+n) (min fz.1 o,max fz.2 (o+n))
def eP:List AV->ar->Option (AV×ar)
 |[.slice b o n c],H=>match H.get b with
  |some (.row cs e fz B4)=>B1 (.slice b o n c,H.set b (.row cs e (mV fz (cW cs) 1) B4))
  |_=>B5
 |_,_=>B5
def dR(u:Nat):List AV->ar->Option (AV×ar)
 |[.nilp,.int _ k],H=>cond (uc k 0) (B1 (.str [],H)) B5
 |[.ptr b o,.int _ k],H=>cond (uc k 0) (B1 (.str [],H)) (cond (AG k 0 ||AG 140737488355328 k) B5 (match H.get b with
  |some (.row c e fz B4)=>cond (I6 e u) ((fK c o k.toNat).bind λ l=>(bytesOf l).bind λ s=>B1 (.str s,H.set b (.row c e (mV fz o k.toNat) B4))) B5
  |some (.grown m z c e fz)=>cond (I6 e u && Oa fz.1 fz.2) ((fK c o k.toNat).bind λ l=>(bytesOf l).bind λ s=>B1 (.str s,H.set b (.grown m z c e (mV fz o k.toNat)))) B5
  |_=>B5))
 |_,_=>B5
end Op
inductive fG where
 |pure (f:List AV->Option AV)
 |read (f:List AV->ar->Option AV)
 |alloc (f:List AV->Option (bD×(Nat->AV)))
 |gT (f:List AV->ar->Option (AV×ar))
 |hJ (f:Nat)
 |ic
 |invoke (name:String)
 |recover
 |defer
 |panic
structure aN where
 ik:Bool
 dst:Option Nat
 guard:Option (Nat×Bool)
 args:List bK
 op:fG
 cI:Option (List Nat)
inductive ai where
 |skip
 |region (steps:List aN)
 |seq (a b:ai)
 |cond (c:bK) (thn els:ai)
 |block (id:Nat) (body:ai)
 |loop (ah:Option (List Nat)) (body:ai)
 |rangeFunc (f:bK) (k:Nat)
 |exit (id:Nat)
 |scope (body:ai)
 |label (l:Nat)
 |goto (l:Nat)
 |ret
 |stuck
instance:Inhabited ai:=⟨.skip⟩
structure dV where
 params:List Nat
 assign:ai
 body:ai
structure bW where
 results:List eh
 body:ai
 loops:List dV
structure jG where
 func:Nat->Option bW
 kH:Nat->String->Option Nat
abbrev aF:=List (AV×Bool)
structure St where
 tm:T AV
 aY:List aK
 up:Option aF
 H:ar
inductive aW where
 |normal
 |exit (id:Nat)
 |goto (l:Nat)
 |ret
 |panic (chain:aF)
inductive bG where
 |ret (v:AV)
 |panic (chain:aF)
abbrev bZ:=Nat->List AV->Option aF->ar->Option (bG×Option aF×ar)
structure Ctx where
 round:Option Nat
 fn:Nat
end
end Go.Am
namespace Go.Am
noncomputable section
def Lh:T AV->List Nat->List AV->Option (T AV)
 |tm,[],[]=>B1 tm
 |tm,p::ps,v::vs=>Lh (tm.set p v) ps vs
 |_,_,_=>B5
def jQ:Nat->List AV->T AV->T AV
 |_,[],t=>t
 |i,v::vs,t=>jQ (i+1) vs (t.set i v)
def kR:aW->Option ia
 | .exit id=>B1 (.exit id)
 | .goto l=>B1 (.goto l)
 | .ret=>B1 .ret
 |_=>B5
def qQ:Option ia->aW
 |none=>.normal
 |some (.exit id)=>.exit id
 |some (.goto l)=>.goto l
 |some .ret=>.ret
def Au:aW->Bool
 | .normal=>B4
 |_=>B2
def VO(tm:T AV):List Nat->T AV->T AV
 |[],acc=>acc
 |k::ks,acc=>VO tm ks (acc.put k (tm.get k))
def forget:List Nat->T AV->T AV
 |[],t=>t
 |d::ds,t=>forget ds (t.put d B5)
def eD(dst:Option Nat)(v:AV)(tm:T AV):T AV :=
 match dst with
 |some d=>tm.set d v
 |none=>tm
structure Wp where
 run:AV->T AV->T AV
def lI:Option Nat->Wp
 |some d=>⟨λ v tm=>(T.Du (T.path d)).run (B1 v) tm⟩
 |none=>⟨λ _ tm=>tm⟩
abbrev gP:=Option (aW×St)
def gO(ah:Option (List Nat))(body:St->gP):Nat->St->gP
 |0,_=>B5
 |n+1,st =>
  (body (match ah with|none=>st|some ks=>{st with tm:=VO st.tm ks .nil})).bind λ r=>match r.1 with
   | .normal=>gO ah body n r.2
   |e=>B1 (e,r.2)
def FQ:ai->Nat->Bool
 | .seq a b,l=>FQ a l ||FQ b l
 | .label l',l=>I6 l' l
 |_,_=>B2
mutual
def cw:AV->AV->Bool
 | .bool a,.bool b=>a == b
 | .int k a,.int k' b=>tf k k' && uc a b
 | .str a,.str b=>AJ a b
 | .nilp,.nilp=>B4
 | .ptr a b,.ptr c d=>I6 a c && I6 b d
 | .nils,.nils=>B4
 | .slice a b c d,.slice a' b' c' d'=>I6 a a' && I6 b b' && I6 c c' && I6 d d'
 | .gslice a b c d e f,.gslice a' b' c' d' e' f'=>I6 a a' && I6 b b' && I6 c c' && I6 d d' && I6 e e' && I6 f f'
 | .eslice a,.eslice b=>I6 a b
 | .mB,.mB=>B4
 | .map a,.map b=>I6 a b
 | .nilf,.nilf=>B4
 | .nili,.nili=>B4
 | .fn (.func f) x a,.fn (.func g) y b=>I6 f g && fg x y && fg a b
 | .fn (.yield f) x a,.fn (.yield g) y b=>I6 f g && fg x y && fg a b
 | .iface t a,.iface u b=>I6 t u && cw a b
 | .agg a,.agg b=>fg a b
 | .tuple a,.tuple b=>fg a b
 |_,_=>B2
def fg:List AV->List AV->Bool
 |[],[]=>B4
 |x::xs,y::ys=>cw x y && fg xs ys
 |_,_=>B2
end
abbrev iP:=List AV->Nat->ar->Option (bG×ar)
structure RT where
 AP:jG
 call:bZ
 round:iP
 n:Nat
 ctx:Ctx
def cV(call:bZ)(round:iP)(f:mD)(args:List AV)(H:ar):Option (bG×ar) :=
 match f with
 | .func g=>(call g args B5 H).bind λ r=>B1 (r.1,r.2.2)
 | .yield l=>round args l H
def fM(put:AV->T AV->T AV)(cI:Option (List Nat))(st:St)(k:St->gP)(r:bG×ar):gP :=
 match r.1 with
 | .ret v=>k ⟨put v st.tm,st.aY,st.up,r.2⟩
 | .panic c=>cI.bind λ ds=>B1 (.panic c,⟨forget ds st.tm,st.aY,st.up,r.2⟩)
def Qi(put:AV->T AV->T AV)(st:St):St :=
 match st.up with
 |some ((v,B2)::older)=>⟨put v st.tm,st.aY,B1 ((v,B4)::older),st.H⟩
 |_=>⟨put .nili st.tm,st.aY,st.up,st.H⟩
def DE(f:List AV->Option AV)(put:AV->T AV->T AV)(st:St)(k:St->gP)(vs:List AV):gP :=
 (f vs).bind λ v=>k ⟨put v st.tm,st.aY,st.up,st.H⟩
def B9(f:List AV->ar->Option AV)(put:AV->T AV->T AV)(st:St)(k:St->gP)(vs:List AV):gP :=
 (f vs st.H).bind λ v=>k ⟨put v st.tm,st.aY,st.up,st.H⟩
def wO(f:List AV->Option (bD×(Nat->AV)))(put:AV->T AV->T AV)(st:St)(k:St->gP)(vs:List AV):gP :=
 (f vs).bind λ r=>k ⟨put (r.2 st.H.au) st.tm,st.aY,st.up,st.H.alloc r.1⟩
def KE(f:List AV->ar->Option (AV×ar))(put:AV->T AV->T AV)(st:St)(k:St->gP)(vs:List AV):gP :=
 (f vs st.H).bind λ r=>k ⟨put r.1 st.tm,st.aY,st.up,r.2⟩
def Bo(f:Nat)(rt:RT)(put:AV->T AV->T AV)(cI:Option (List Nat))(st:St)(k:St->gP)(vs:List AV):gP :=
 (cV rt.call rt.round (.func f) vs st.H).bind λ r=>fM put cI st k r
def Dn(rt:RT)(put:AV->T AV->T AV)(cI:Option (List Nat))(st:St)(k:St->gP)(vs:List AV):gP :=
 match vs with
 | .fn (.func f) first cap::args=>(cV rt.call rt.round (.func f) (first++(args++cap)) st.H).bind λ r=>fM put cI st k r
 | .fn (.yield l) first []::args=>(cV rt.call rt.round (.yield l) (first++args) st.H).bind λ r=>fM put cI st k r
 |_=>B5
def sX(name:String)(rt:RT)(put:AV->T AV->T AV)(cI:Option (List Nat))(st:St)(k:St->gP)(vs:List AV):gP :=
 match vs with
 | .iface t v::args=>(rt.AP.kH t name).bind λ f=>(cV rt.call rt.round (.func f) (v::args) st.H).bind λ r=>fM put cI st k r
 |_=>B5
def Sf(rt:RT)(put:AV->T AV->T AV)(st:St)(k:St->gP)(vs:List AV):gP :=
 match rt.ctx.round with
 |some _=>B5
 |none=>match vs with
  |[]=>k (Qi put st)
  |_=>B5
def wQ(rt:RT)(put:AV->T AV->T AV)(st:St)(k:St->gP)(vs:List AV):gP :=
 match rt.ctx.round with
 |some _=>B5
 |none=>match vs with
  | .fn (.func f) first cap::args=>k ⟨put .undef st.tm,.fn (.func f) (first++(args++cap))::st.aY,st.up,st.H⟩
  |_=>B5
def wK(put:AV->T AV->T AV)(cI:Option (List Nat))(st:St)(k:St->gP)(vs:List AV):gP :=
 match vs with
 |[.iface t v]=>fM put cI st k (.panic [(.iface t v,B2)],st.H)
 |_=>B5
structure OpC where
 run:RT->St->(St->gP)->List AV->gP
def qM(put:AV->T AV->T AV)(cI:Option (List Nat)):fG->OpC
 | .pure f=>⟨λ _ st k vs=>DE f put st k vs⟩
 | .read f=>⟨λ _ st k vs=>B9 f put st k vs⟩
 | .alloc f=>⟨λ _ st k vs=>wO f put st k vs⟩
 | .gT f=>⟨λ _ st k vs=>KE f put st k vs⟩
 | .hJ f=>⟨λ rt st k vs=>Bo f rt put cI st k vs⟩
 | .ic=>⟨λ rt st k vs=>Dn rt put cI st k vs⟩
 | .invoke name=>⟨λ rt st k vs=>sX name rt put cI st k vs⟩
 | .recover=>⟨λ rt st k vs=>Sf rt put st k vs⟩
 | .defer=>⟨λ rt st k vs=>wQ rt put st k vs⟩
 | .panic=>⟨λ _ st k vs=>wK put cI st k vs⟩
def qG(get:T AV->Option AV)(st:St)(vs:List AV):fG->Bool
 | .read f=>match f vs st.H,get st.tm with
  |some v,B1 v'=>cw v v'
  |_,_=>B2
 |_=>B2
def cP(b:Bool):Option AV->Option Bool
 |some (.bool q)=>B1 (cond q b (!b))
 |some (.tuple [])=>B1 B2
 |_=>B5
structure Qc where
 run:RT->(St->gP)->St->gP
def gU(s:aN):Qc :=
 match s.ik with
 |false=>match s.guard with
  |none=>⟨λ rt k st=>((ux s.args).run st.tm).bind λ vs=>(qM (lI s.dst).run s.cI s.op).run rt st k vs⟩
  |some g=>⟨λ rt k st=>(cP g.2 ((T.oI (T.path g.1)).run st.tm)).bind λ w =>
   cond w (((ux s.args).run st.tm).bind λ vs=>(qM (lI s.dst).run s.cI s.op).run rt st k vs) (k ⟨(lI s.dst).run .undef st.tm,st.aY,st.up,st.H⟩)⟩
 |true=>match s.guard,s.dst with
  |none,B1 d=>⟨λ _ k st=>((ux s.args).run st.tm).bind λ vs=>cond (qG (T.oI (T.path d)).run st vs s.op) (k st) B5⟩
  |some g,B1 d=>⟨λ _ k st=>(cP g.2 ((T.oI (T.path g.1)).run st.tm)).bind λ w =>
   cond w (((ux s.args).run st.tm).bind λ vs=>cond (qG (T.oI (T.path d)).run st vs s.op) (k st) B5) (k st)⟩
  |_,B5=>⟨λ _ _ _=>B5⟩
structure JD where
 run:RT->St->gP
def gZ:List aN->JD
 |[]=>⟨λ _ st=>B1 (.normal,st)⟩
 |s::rest=>⟨λ rt st=>(gU s).run rt ((gZ rest).run rt) st⟩
def cQ(H:ar)(l:Nat)(s:mY)(p:Option ia):Option ar :=
 match H.get l with
 |some (.loop _ _ f k tm d)=>B1 (H.set l (.loop s p f k tm d))
 |_=>B5
def C2(H:ar)(l:Nat):Option Nat :=
 match H.get l with
 |some (.loop _ _ _ _ _ d)=>B1 d
 |_=>B5
def NC(st:St)(aY:List aK)(l:Nat)(e:bG)(H:ar):gP :=
 match e with
 | .panic c=>B1 (.panic c,{st with aY:=aY,H:=H})
 | .ret _=>match H.get l with
  |some (.loop .busy _ _ _ _ _)=>B5
  |some (.loop _ p f k tm d)=>B1 (qQ p,{st with aY:=aY,H:=H.set l (.loop .exhausted p f k tm d)})
  |_=>B5
def iZ(call:bZ)(round:iP)(ctx:Ctx)(st:St)(k:Nat)(H0:ar)(aY:List aK)(d:Nat):AV->gP
 | .fn (.func g) first cap =>
  (cV call round (.func g) (first++(.fn (.yield H0.au) [] []::cap)) (H0.alloc (.loop .ready B5 ctx.fn k st.tm d))).bind λ r =>
   NC st aY H0.au r.1 r.2
 |_=>B5
def uR(next:RT->St->gP)(rt:RT)(r:aW×St):gP :=
 match r.1 with
 | .normal=>next rt r.2
 |e=>B1 (e,r.2)
def uh(a b:RT->St->gP)(rt:RT)(st:St)(v:AV):gP :=
 match v with
 | .bool q=>cond q (a rt st) (b rt st)
 |_=>B5
def kG(id:Nat)(r:aW×St):gP :=
 match r.1 with
 | .exit id'=>B1 (cond (I6 id id') .normal (.exit id'),r.2)
 |e=>B1 (e,r.2)
def lH(b:ai)(r:aW×St):gP :=
 match r.1 with
 | .goto l=>cond (FQ b l) B5 (B1 (.goto l,r.2))
 |e=>B1 (e,r.2)
def rN(rt:RT)(k:Nat)(st:St)(v:AV):gP :=
 match rt.ctx.round with
 |none=>iZ rt.call rt.round rt.ctx st k (st.H.alloc (.deferred (B1 []))) (.jD st.H.au::st.aY) st.H.au v
 |some l=>(C2 st.H l).bind λ d=>iZ rt.call rt.round rt.ctx st k st.H st.aY d v
def bH:ai->JD
 | .skip=>⟨λ _ st=>B1 (.normal,st)⟩
 | .label _=>⟨λ _ st=>B1 (.normal,st)⟩
 | .region steps=>gZ steps
 | .seq a b=>⟨λ rt st=>((bH a).run rt st).bind (uR (bH b).run rt)⟩
 | .cond c a b=>⟨λ rt st=>((Oe c).run st.tm).bind (uh (bH a).run (bH b).run rt st)⟩
 | .block id b=>⟨λ rt st=>((bH b).run rt st).bind (kG id)⟩
 | .loop ah b=>⟨λ rt st=>gO ah ((bH b).run rt) rt.n st⟩
 | .exit id=>⟨λ _ st=>B1 (.exit id,st)⟩
 | .goto l=>⟨λ _ st=>B1 (.goto l,st)⟩
 | .ret=>⟨λ _ st=>B1 (.ret,st)⟩
 | .stuck=>⟨λ _ _=>B5⟩
 | .scope b=>⟨λ rt st=>((bH b).run rt st).bind (lH b)⟩
 | .rangeFunc f k=>⟨λ rt st=>((Oe f).run st.tm).bind (rN rt k st)⟩
def exec(AP:jG)(call:bZ)(round:iP)(n:Nat)(ctx:Ctx)(c:ai)(st:St):gP:=(bH c).run ⟨AP,call,round,n,ctx⟩ st
def IF(l:Nat)(r:aW×St):Option (bG×ar) :=
 match r.1 with
 | .panic c=>B1 (.panic c,r.2.H)
 |e=>(cQ r.2.H l (cond (Au e) .ready .done) (kR e)).bind λ H=>B1 (.ret (.bool (Au e)),H)
def beginRound(H:ar)(l:Nat):Option ar :=
 match H.get l with
 |some (.loop .ready p f k tm d)=>B1 (H.set l (.loop .busy p f k tm d))
 |_=>B5
def roundOf(AP:jG)(ex:Ctx->ai->St->gP)(args:List AV)(l:Nat)(H:ar):Option (bG×ar) :=
 match H.get l with
 |some (.loop _ _ f k tm _) =>
  (AP.func f).bind λ fn=>(nth fn.loops k).bind λ lp=>(Lh tm lp.params args).bind λ tm1 =>
  (ex ⟨B1 l,f⟩ lp.assign {tm:=tm1,aY:=[],up:=B5,H:=H}).bind λ r=>match r.1 with
   | .normal=>(beginRound r.2.H l).bind λ H2=>(ex ⟨B1 l,f⟩ lp.body {r.2 with H:=H2}).bind λ q=>cond (noDefs q.2.aY) (IF l q) B5
   |_=>B5
 |_=>B5
 where noDefs:List aK->Bool
 |[]=>B4
 |_=>B2
def Oc(H:ar)(tm:T AV):eh->Option AV
 | .tmp t=>tm.get t
 | .kK a=>(tm.get a).bind λ v=>match v with| .ptr b o=>H.ae b o|_=>B5
 | .cR n a=>(tm.get a).bind λ v=>match v with| .ptr b o=>(H.aq b o n).bind λ l=>B1 (.agg l)|_=>B5
def dY(H:ar)(tm:T AV):List eh->Option (List AV)
 |[]=>B1 []
 |r::rs=>(Oc H tm r).bind λ v=>(dY H tm rs).bind λ vs=>B1 (v::vs)
def iV:List AV->AV
 |[v]=>v
 |l=>.tuple l
def nE(m:Option aF)(up:aF):Option (Option aF) :=
 match m,up with
 |none,[]=>B1 B5
 |some _,(_,B4)::_=>B1 B5
 |some _,(v,B2)::c=>B1 (B1 ((v,B2)::c))
 |_,_=>B5
def cj(call:bZ)(rs:List eh)(tm:T AV):List aK->Option aF->ar->Option (bG×ar)
 |[],B5,H=>(dY H tm rs).bind λ l=>B1 (.ret (iV l),H)
 |[],B1 c,H=>B1 (.panic c,H)
 | .jD b::ds,m,H=>match H.get b with
  |some (.deferred (B1 []))=>cj call rs tm ds m (H.set b (.deferred B5))
  |_=>B5
 | .fn (.func f) args::ds,m,H=>(call f args (B1 (m.getD [])) H).bind λ r =>
  match r.1,r.2.1 with
  | .ret _,B1 up'=>(nE m up').bind λ m'=>cj call rs tm ds m' r.2.2
  |_,_=>B5
 | .fn (.yield _) _::_,_,_=>B5
def qC(call:bZ)(fn:bW)(r:aW×St):Option (bG×Option aF×ar) :=
 let fin (m:Option aF):Option (bG×Option aF×ar):=(cj call fn.results r.2.tm r.2.aY m r.2.H).bind λ q=>B1 (q.1,r.2.up,q.2)
 match r.1 with
 | .normal=>fin B5
 | .ret=>fin B5
 | .panic c=>fin (B1 c)
 |_=>B5
def rounds(AP:jG)(call:bZ)(m:Nat):Nat->iP
 |0=>λ _ _ _=>B5
 |n+1=>roundOf AP (exec AP call (rounds AP call m n) m)
def Il(AP:jG)(call:bZ)(n:Nat):bZ:=λ f args up H =>
 (AP.func f).bind λ fn =>
  (exec AP call (rounds AP call n n) n ⟨B5,f⟩ fn.body {tm:=jQ 0 args .nil,aY:=[],up:=up,H:=H}).bind λ r =>
   qC call fn r
def Bg(AP:jG):Nat->bZ
 |0=>λ _ _ _ _=>B5
 |n+1=>Il AP (Bg AP n) n
def jY(AP:jG)(told:bZ):Nat->bZ
 |0=>told
 |n+1=>λ f args up H=>match told f args up H with
  |some r=>B1 r
  |none=>Il AP (jY AP told n) n f args up H
end
end Go.Am
namespace Go.Am
noncomputable section
mutual
def fU:Li->Option AV
 | .bool b=>B1 (.bool b)
 | .int k n=>B1 (.int k n)
 | .string s=>B1 (.str s.data.toList)
 | .pointer B5=>B1 .nilp
 | .slice B5 0 0=>B1 .nils
 | .map B5=>B1 .mB
 | .nilFunc=>B1 .nilf
 | .nilIface=>B1 .nili
 | .iface t v=>(fU v).bind λ x=>B1 (.iface t x)
 | .agg cs=>(nM cs.toList).bind λ l=>B1 (.agg l)
 | .tuple cs=>(nM cs.toList).bind λ l=>B1 (.tuple l)
 |_=>B5
def nM:List Li->Option (List AV)
 |[]=>B1 []
 |v::vs=>(fU v).bind λ x=>(nM vs).bind λ xs=>B1 (x::xs)
end
def qH(G:Nat):MS->Option bK
 | .tmp t=>B1 (.tmp t)
 | .const v=>(fU v).bind λ x=>B1 (.const x)
 | .global g=>if PM g G then B1 (.eG g)else B5
 | .func f=>B1 (.func f)
def nP(G:Nat):List MS->Option (List bK)
 |[]=>B1 []
 |x::xs=>(qH G x).bind λ y=>(nP G xs).bind λ ys=>B1 (y::ys)
def zeroOf(P:JL)(t:M8):Option AV:=((P.info? t).bind (·.zero)).bind fU
def bQ(P:JL)(t:M8):Option Nat:=(P.info? t).bind λ i=>B1 i.size
def nh(P:JL)(t:M8):Option Nat:=(P.info? t).bind λ i=>B1 i.bytes
def og(P:JL)(t:M8):Option (Option Nat) :=
 match P.underlying t with
 |some (.struct _)|some (.array _ _)=>(bQ P t).bind λ n=>B1 (B1 n)
 |some _=>B1 B5
 |none=>B5
def dB(P:JL):Nat->M8->Option aS
 |0,_=>B5
 |d+1,t=>match P.underlying t with
  |some (.int _)=>B1 .int
  |some .string=>B1 .str
  |some .bool=>B1 .bool
  |some (.struct fs)=>if P.stoodInHeld t then B5 else fieldsT (dB P d) fs.toList
  |some (.array n e)=>(bQ P e).bind λ s=>(og P e).bind λ a=>(dB P d e).bind λ q=>B1 (itemsT s a q n 0)
  |_=>B5
 where
 fieldsT (go:M8->Option aS):List Field->Option aS
  |[]=>B1 .nil
  |f::fs=>if f.name = "_" then B5 else(og P f.type).bind λ a=>(go f.type).bind λ q=>(fieldsT go fs).bind λ r=>B1 (.part f.offset a q r)
 itemsT (s:Nat) (a:Option Nat) (q:aS):Nat->Nat->aS
  |0,_=>.nil
  |n+1,i=>.part (i*s) a q (itemsT s a q n (i+1))
def pR(P:JL)(t:M8):Option aS:=dB P 20 t
def gB:Nat->List (Option MS)->List (Option Nat)
 |_,[]=>[]
 |n,B5::r=>B5::gB n r
 |n,B1 _::r=>B1 n::gB (n+1) r
def kE:List (Option MS)->List MS
 |[]=>[]
 |none::r=>kE r
 |some x::r=>x::kE r
def EK(pl:Nat->Option (Nat×Nat)):List (Nat×MS)->Option (List (Nat×Nat))
 |[]=>B1 []
 |(i,_)::r=>(pl i).bind λ p=>(EK pl r).bind λ l=>B1 (p::l)
def Nt(P:JL)(fs:Array Field)(i:Nat):Option (Nat×Nat):=(fs[i]?).bind λ f=>(bQ P f.type).bind λ n=>B1 (f.offset,n)
def KP(n:Nat)(i:Nat):Option (Nat×Nat):=B1 (i*n,n)
def Uv(P:JL)(b:Builtin)(ts:Array M8)(args:List MS):Option (List MS×fG) :=
 match b with
 | .len=>match(ts[0]?).bind P.underlying with
  |some (.slice _)=>B1 (args,.pure Op.db)
  |_=>B5
 | .append=>match ts.toList with
  |[t,tx]=>match P.underlying t,P.underlying tx with
   |some (.slice e),B1 (.slice _)=>(bQ P e).bind λ n=>(nh P e).bind λ z=>(zeroOf P e).bind λ zv=>if zv.cells.length=n then B1 (args,.gT (Op.append e n z))else B5
   |_,_=>B5
  |_=>B5
 | .min=>B1 (args,.pure (Op.eU B2))
 | .clear=>match(ts[0]?).bind P.underlying with
  |some (.slice e)=>(zeroOf P e).bind λ z=>B1 (args,.gT (Op.bX z.cells))
  |some (.map _ _)=>B1 (args,.gT Op.bS)
  |_=>B5
 | .recover=>B1 (args,.recover)
 | .panic=>B1 (args,.panic)
 |_=>B5
def KL(_P:JL)(fn:Func)(args:List MS):Option (List MS×fG) :=
 if fn.origin != "" then B5
 else if fn.name == "internal/bytealg.IndexByteString" then B1 (args,.pure Op.aC)
 else B5
def BD(P:JL)(src dst:M8)(x:MS):Option (List MS×fG) :=
 match P.underlying src,P.underlying dst with
 |some (.int _),B1 (.int k)=>B1 ([x],.pure (Op.wrap k))
 |_,_=>B5
def Of(P:JL):Nat->M8->Bool
 |0,_=>B4
 |d+1,t=>match P.underlying t with
  |some (.interface ms)=>!ms.isEmpty
  |some (.struct fs)=>fs.toList.any λ f=>f.name != "_" && Of P d f.type
  |some (.array _ e)=>Of P d e
  |_=>B2
def WT(P:JL):∀(d:Nat)(t:M8),Of P d t=P.eqGuardType d t
 |0,_=>rfl
 |d+1,t=>by
  rw[Of,JL.eqGuardType];cases P.underlying t with
  |none=>rfl
  |some u =>
   cases u with
   |struct fs =>
    show fs.toList.any _=fs.any _;rw[<-Array.any_toList];congr 1;funext f;rw[WT P d]
   |array _ e=>exact WT P d e
   |_=>rfl
def G8(P:JL)(t:M8)(x y:MS):Option wW :=
 match P.underlying t with
 |some .bool=>B1 .bool
 |some (.pointer e)=>match bQ P e with
  |some (_+1)=>B1 .ptr
  |_=>B5
 |some (.slice _)=>B1 .slice
 |some (.map _ _)=>B1 .map
 |some (.func _ _ _)=>B1 .func
 |some (.interface _)=>match x,y with
  | .const .nilIface,_=>B1 .iface
  |_,.const .nilIface=>B1 .iface
  |_,_=>B1 (.ifaces λ u=>(P.info? u).bind λ i=>if i.comparable then dB P 20 u else B5)
 |some (.struct _)=>if Of P P.depth t then B5 else(dB P 20 t).bind λ q=>B1 (.agg q)
 |some (.array _ _)=>if Of P P.depth t then B5 else(dB P 20 t).bind λ q=>B1 (.agg q)
 |_=>B5
def MA(P:JL)(op:BinOp)(t:M8)(x y:MS):Option (List MS×fG) :=
 match P.underlying t with
 |some (.int _)=>B1 ([x,y],.pure (Op.bin op))
 |some .string=>B1 ([x,y],.pure (Op.bin op))
 |_=>match op with
  | .eql=>(G8 P t x y).bind λ k=>B1 ([x,y],.read (Op.eq k B2))
  | .neq=>(G8 P t x y).bind λ k=>B1 ([x,y],.read (Op.eq k B4))
  |_=>B5
def Bf(P:JL)(c:Call):Option (List MS×fG) :=
 match c.callee with
 | .value (.func f)=>(P.funcs[f]?).bind λ fn =>
  match fn.body with
  |some _=>B1 (c.args.toList,.hJ f)
  |none=>KL P fn c.args.toList
 | .value f=>B1 (f::c.args.toList,.ic)
 | .invoke r m=>B1 (r::c.args.toList,.invoke m)
 | .builtin b=>Uv P b c.argTypes c.args.toList
def Rp(P:JL)(op:Cs):Option (List MS×fG) :=
 match op with
 | .move x=>B1 ([x],.pure Op.move)
 | .assign x=>B1 ([x],.pure Op.move)
 | .pick c a b=>B1 ([c,a,b],.pure Op.pick)
 | .alloc e=>(zeroOf P e).bind λ z=>B1 ([],.alloc (Op.alloc e z.cells))
 | .box e x=>B1 ([x],.alloc (Op.box e))
 | .build t parts=>(zeroOf P t).bind λ z =>
  match P.underlying t with
  |some (.struct fs)=>if fs.toList.all (λ f=>(bQ P f.type).isSome)then(EK (Nt P fs) parts.toList).bind λ ps=>B1 (parts.toList.map (·.2),.pure (Op.build z.cells ps))else B5
  |some (.array _ e)=>(bQ P e).bind λ n=>(EK (KP n) parts.toList).bind λ ps=>B1 (parts.toList.map (·.2),.pure (Op.build z.cells ps))
  |_=>B5
 | .buildSlice t len parts =>
  match P.underlying t with
  |some (.slice e)=>(bQ P e).bind λ n=>(zeroOf P e).bind λ z=>(EK (KP n) parts.toList).bind λ ps=>if z.cells.length=n/\len*n<=16777216 then B1 (parts.toList.map (·.2),.alloc (Op.buildSlice e len z.cells ps))else B5
  |_=>B5
 | .load t a=>(og P t).bind λ r=>match r with
  |none=>B1 ([a],.read Op.ae)
  |some n=>B1 ([a],.read (Op.aq n))
 | .store t a x=>(bQ P t).bind λ n=>B1 ([a,x],.gT (Op.store n))
 | .nilCheck x=>B1 ([x],.pure Op.nilCheck)
 | .binOp op t x y _=>MA P op t x y
 | .unOp op _ x=>B1 ([x],.pure (Op.un op))
 | .convert src dst x=>BD P src dst x
 | .makeInterface t x=>match P.underlying t with
  |some (.interface _)=>B5
  |some _=>B1 ([x],.pure (Op.dC t))
  |none=>B5
 | .makeFunc (.func f) a b=>B1 (a.toList++b.toList,.pure (Op.bJ f a.size))
 | .makeMap _ B5=>B1 ([],.alloc Op.mkMap)
 | .makeMap t (B1 (.const (.int _ _)))=>match P.underlying t with
  |some (.map _ _)=>B1 ([],.alloc Op.mkMap)
  |_=>B5
 | .makeSlice t l c =>
  match P.underlying t with
  |some (.slice e)=>(nh P e).bind λ b=>(zeroOf P e).bind λ z=>(bQ P e).bind λ n=>if z.cells.length=n then B1 ([l,c],.alloc (Op.mkSlice e b z.cells))else B5
  |_=>B5
 | .slice t x lo hi mx =>
  match P.underlying t with
  |some (.slice e)=>(bQ P e).bind λ n=>B1 (x::kE [lo,hi,mx],.pure (Op.aD n (gB 0 [lo,hi,mx])))
  |some (.array k e)=>(bQ P e).bind λ n=>B1 (x::kE [lo,hi,mx],.pure (Op.cK k n (gB 0 [lo,hi,mx])))
  |_=>B5
 | .fieldAddr t x i =>
  match P.underlying t with
  |some (.struct fs)=>(fs[i]?).bind λ f=>(bQ P f.type).bind λ n=>if n == 0 then B5 else B1 ([x],.pure (Op.fieldAddr f.offset))
  |_=>B5
 | .indexAddr t x i =>
  match P.underlying t with
  |some (.slice e)=>(bQ P e).bind λ n=>B1 ([x,i],.pure (Op.aP n))
  |some (.array k e)=>(bQ P e).bind λ n=>B1 ([x,i],.pure (Op.aR k n))
  |_=>B5
 | .index t x i =>
  match P.underlying t with
  |some .string=>B1 ([x,i],.pure Op.bN)
  |some (.array k e)=>(bQ P e).bind λ n=>(og P e).bind λ a=>B1 ([x,i],.pure (Op.bE k n a))
  |_=>B5
 | .lookup t m k ok =>
  match P.underlying t with
  |some (.map kt e)=>(pR P kt).bind λ key=>(zeroOf P e).bind λ z=>B1 ([m,k],.read (Op.lookup key z ok))
  |_=>B5
 | .mapUpdate t m k v =>
  match P.underlying t with
  |some (.map kt _)=>(pR P kt).bind λ key=>B1 ([m,k,v],.gT (Op.mapUpdate key))
  |_=>B5
 | .insert t m k v =>
  match P.underlying t with
  |some (.map kt _)=>(pR P kt).bind λ key=>B1 ([m,k,v],.gT (Op.mapUpdate key))
  |_=>B5
 | .extract x i=>B1 ([x],.pure (Op.extract i))
 | .call c=>Bf P c
 | .defer c=>match c.callee with
  | .value f=>B1 (f::c.args.toList,.defer)
  |_=>B5
 | .panic x=>B1 ([x],.panic)
 |_=>B5
def gA(P:JL)(o:QI):Option (List bK×fG) :=
 match(Rp P o.op).bind λ r=>(nP P.globals.size r.1).bind λ args=>B1 (args,r.2)with
 |some r=>B1 r
 |none=>B1 ([],.pure Op.fail)
inductive Mw where
 |pure|read|alloc|gT
 deriving DecidableEq
def rK:fG->Mw
 | .pure _=>.pure
 | .read _=>.read
 | .alloc _=>.alloc
 |_=>.gT
def mU(cls:Nat->Mw)(gw:Nat->Nat)(n:Nat):Nat->Nat->List (Bool×Nat)->List (Bool×Nat)
 |0,_,acc=>acc.reverse
 |fuel+1,done,acc =>
  let ready (i:Nat):Bool:=!done.testBit i && (gw i &&& done) == gw i
  let todo:=(MT n).filter λ i=>!done.testBit i
  match todo.find? (λ i=>ready i && (cls i == .pure ||cls i == .read))with
  |some i=>mU cls gw n fuel (done |||2 ^ i) ((B2,i)::acc)
  |none =>
   -- the next effect: the first one (effects are in a row)
   match todo.find? (λ i=>cls i == .gT)with
   |some e =>
    if ready e then
     let again:=(acc.reverse.filter λ q=>!q.1 && cls q.2 == .read && !(gw e).testBit q.2).map λ q=>(B4,q.2)
     mU cls gw n fuel (done |||2 ^ e) (again.reverse++((B2,e)::acc))
    else match todo.find? (λ i=>ready i && (gw e).testBit i)with
     |some i=>mU cls gw n fuel (done |||2 ^ i) ((B2,i)::acc)
     |none=>acc.reverse
   |none=>match todo.find? ready with
    |some i=>mU cls gw n fuel (done |||2 ^ i) ((B2,i)::acc)
    |none=>acc.reverse
def dt{α:Type}:List (Option α)->Option (List α)
 |[]=>B1 []
 |x::xs=>x.bind λ a=>(dt xs).bind λ l=>B1 (a::l)
def guardOf(ops:Array QI):Option (Nat×Bool)->Option (Option (Nat×Bool))
 |none=>B1 B5
 |some g=>((ops[g.1]?).bind (·.dst)).bind λ t=>B1 (B1 (t,g.2))
def i9(ops:Array QI)(l:List (List bK×fG))(safe:Nat->Option (List Nat))(q:Bool×Nat):Option aN :=
 (ops[q.2]?).bind λ o=>(l[q.2]?).bind λ a=>(guardOf ops o.guard).bind λ g =>
  B1 {ik:=q.1,dst:=o.dst,guard:=g,args:=a.1,op:=a.2,cI:=safe q.2}
def pD(nt:Nat)(o:QI):Bool :=
 match o.dst with
 |none=>B4
 |some d=>PM d nt
def pN(a b:Nat):Bool:=I6 (Nat.land a b) a
def bitsOf:List (Bool×Nat)->Nat->Nat
 |[],d=>d
 |(B4,_)::l,d=>bitsOf l d
 |(B2,i)::l,d=>bitsOf l (Nat.lor d (2 ^ i))
def nY:List (Bool×Nat)->Nat->Nat
 |(B4,r)::l,d=>nY l (Nat.lor d (2 ^ r))
 |_,d=>d
def qP(c d:Mw):Bool:=match c,d with
 | .pure,.pure=>B4
 | .read,.read=>B4
 | .alloc,.alloc=>B4
 | .gT,.gT=>B4
 |_,_=>B2
def iX(p:Nat->Bool):Nat->Nat
 |0=>0
 |n+1=>cond (p n) (Nat.lor (iX p n) (2 ^ n)) (iX p n)
structure mJ where
 n:Nat
 gw:Nat->Nat
 cls:Nat->Mw
 jM:Nat->Nat->Bool
 self:Nat->Bool
 made:Nat
 reads:Nat
def Nk(I:mJ)(done:Nat)(post:List (Bool×Nat)):Bool×Nat->Bool
 |(B2,i)=>PM i I.n && (!done.testBit i && (pN (I.gw i) done && (match I.cls i with
  | .read=>pN (Nat.land done I.made) (I.gw i)
  | .gT=>pN (Nat.land done I.made) (I.gw i) && pN (Nat.land done I.reads) (Nat.lor (I.gw i) (nY post 0))
  |_=>B4)))
 |(B4,r)=>qP (I.cls r) .read && (I.self r && (done.testBit r && pN (Nat.land done (iX (λ w=>!Nat.beq w r && I.jM r w) I.n)) (I.gw r)))
def MJ(I:mJ):List (Bool×Nat)->Nat->Bool
 |[],done=>pN (2 ^ I.n-1) done
 |(B2,i)::post,done=>Nk I done post (B2,i) && MJ I post (Nat.lor done (2 ^ i))
 |(B4,r)::post,done=>Nk I done post (B4,r) && MJ I post done
def sR(p:Nat->Bool):Nat->Bool
 |0=>B4
 |n+1=>p n && sR p n
def yW(I:mJ):Bool:=sR (λ r=>sR (λ w=>I6 r w ||((I.gw r).testBit w ||((I.gw w).testBit r ||!I.jM r w))) I.n) I.n
def tmpsOf:List bK->List Nat
 |[]=>[]
 | .tmp t::l=>t::tmpsOf l
 |_::l=>tmpsOf l
def oJ(t:Nat):List Nat->Bool
 |[]=>B2
 |x::l=>I6 x t ||oJ t l
def iO(ops:Array QI)(l:List (List bK×fG))(r:Nat):List Nat :=
 match ops[r]?,l[r]? with
 |some o,B1 a=>(match guardOf ops o.guard with|some (B1 g)=>[g.1]|_=>[])++tmpsOf a.1
 |_,_=>[]
def ib(ops:Array QI)(w:Nat):Option Nat:=(ops[w]?).bind (·.dst)
def gM(ops:Array QI)(l:List (List bK×fG))(r:Nat):List Nat :=
 (match ib ops r with|some d=>[d]|none=>[])++iO ops l r
def Ff(ops:Array QI)(l:List (List bK×fG))(r w:Nat):Bool :=
 match ib ops w with
 |some t=>oJ t (gM ops l r)
 |none=>B2
def BF(ops:Array QI)(l:List (List bK×fG))(r:Nat):Bool :=
 match ib ops r with
 |some t=>!oJ t (iO ops l r)
 |none=>B4
def nS(l:List (List bK×fG))(i:Nat):Mw:=rK ((l[i]?.getD ([],.recover)).2)
def vU(c:Mw):Bool:=qP c .alloc ||qP c .gT
def aV(ops:Array QI)(l:List (List bK×fG)):mJ :=
 {n:=ops.size,gw:=λ i=>(CJ ops).getD i 0,cls:=nS l,jM:=Ff ops l,self:=BF ops l,made:=iX (λ i=>vU (nS l i)) ops.size,reads:=iX (λ i=>qP (nS l i) .read) ops.size}
def ub(i:Nat):List (Bool×Nat)->List (Bool×Nat)
 |[]=>[]
 |(c,j)::l=>cond (!c && I6 j i) [] ((c,j)::ub i l)
def N1(ops:Array QI)(I:mJ)(plan:List (Bool×Nat))(i:Nat):Option (List Nat) :=
 let d:=bitsOf (ub i plan) 0
 cond (sR (λ j=>I6 j i ||(d.testBit j ||(I.gw j).testBit i)) I.n) (B1 (ops.toList.filterMap (·.dst))) B5
def iM(P:JL)(nt:Nat)(ops:Array QI)(draw:Bool):Option ai :=
 if ops.toList.all (pD nt)then
 (dt (ops.toList.map (gA P))).bind λ l =>
  if draw then
   let I:=aV ops l
   let plan:=mU I.cls I.gw ops.size (2*ops.size) 0 []
   cond (MJ I plan 0 && yW I) ((dt (plan.map (i9 ops l (N1 ops I plan)))).bind λ steps=>B1 (.region steps)) (B1 .stuck)
  else(dt ((MT ops.size).map λ i=>i9 ops l (λ _=>B1 []) (B2,i))).bind λ steps=>B1 (.region steps)
 else B5
def cq(P:JL)(nt:Nat):Nat->Code->Option (ai×List dV)
 |_,.skip=>B1 (.skip,[])
 |_,.region _ ops draw=>(iM P nt ops draw).bind λ c=>B1 (c,[])
 |k,.seq a b=>(cq P nt k a).bind λ a=>(cq P nt (k+a.2.length) b).bind λ b=>B1 (.seq a.1 b.1,a.2++b.2)
 |k,.cond c a b=>(qH P.globals.size c).bind λ c=>(cq P nt k a).bind λ a=>(cq P nt (k+a.2.length) b).bind λ b=>B1 (.cond c a.1 b.1,a.2++b.2)
 |k,.block id b=>(cq P nt k b).bind λ b=>B1 (.block id b.1,b.2)
 |k,.loop b=>(cq P nt k b).bind λ b=>B1 (.loop B5 b.1,b.2)
 |k,.rangeFunc f ps a b=>(qH P.globals.size f).bind λ f=>(cq P nt (k+1) a).bind λ a=>(cq P nt (k+1+a.2.length) b).bind λ b =>
  if ps.toList.all λ p=>PM p nt then B1 (.rangeFunc f k,{params:=ps.toList,assign:=a.1,body:=b.1}::(a.2++b.2))else B5
 |_,.exit id=>B1 (.exit id,[])
 |k,.scope b=>(cq P nt k b).bind λ b=>B1 (.scope b.1,b.2)
 |_,.label l=>B1 (.label l,[])
 |_,.goto l=>B1 (.goto l,[])
 |_,.ret=>B1 (.ret,[])
 |_,.refuse _=>B1 (.stuck,[])
def qJ(P:JL):List ResultVar->Option (List eh)
 |[]=>B1 []
 | .tmp t::r=>(qJ P r).bind λ l=>B1 (.tmp t::l)
 | .cell a t::r=>(og P t).bind λ n=>(qJ P r).bind λ l=>B1 ((match n with|none=>.kK a|some n=>.cR n a)::l)
def uH(P:JL)(fn:Func):Option bW :=
 fn.body.bind λ b=>(cq P fn.ntmps 0 b).bind λ c=>(qJ P fn.results.toList).bind λ r=>B1 {results:=r,body:=c.1,loops:=c.2}
def yK(P:JL)(t:M8)(name:String):Option Nat :=
 (P.info? t).bind λ i=>(i.methods.find? (·.name == name)).bind λ m =>
  if !m.path.isEmpty then B5 else m.func.bind λ p =>
   match P.underlying t,p.2 with
   |none,_=>B5
   |some (.pointer _),B4=>B1 p.1
   |some (.pointer _),B2=>B5
   |some _,B4=>B5
   |some _,B2=>B1 p.1
def aX(P:JL):jG:={func:=λ f=>(P.funcs[f]?).bind (uH P),kH:=yK P}
end
end Go.Am
namespace Go.Am
namespace T
variable{α:Type}
def go_eq(f:Nat):∀(g i:Nat),i<=f->i<=g->path.go f i=path.go g i:=by
 induction f with
 |zero=>intro g i a hg;obtain rfl:i=0:=by omega
        cases g<;>simp[path.go]
 |succ f ih =>
  intro g i a hg;cases i with
  |zero=>grind
  |succ n =>
   cases g with
   |zero=>omega
   |succ g =>
    simp only[path.go];have h:n / 2<=n:=Nat.div_le_self n 2;congr 1;exact ih g (n / 2) (by omega) (by omega)
theorem xlu:path 0=[]:=rfl
theorem Vb(n:Nat):path (n+1)=I6 (n % 2) 0::path (n / 2):=by
 show path.go (n+1) (n+1)=_;simp only[path.go];have h:n / 2<=n:=Nat.div_le_self n 2;exact congrArg (I6 (n % 2) 0 :: ·) (go_eq n (n / 2) (n / 2) h (qm _))
theorem Dr:∀(i j:Nat),path i=path j->i=j:=by
 intro i
 induction i using Nat.strongRecOn with
 |_ i ih =>
  intro j h;cases i with
  |zero=>cases j with
   |zero=>rfl
   |succ m=>grind [xlu,Vb]
  |succ n=>cases j with
   |zero=>grind
   |succ m =>
    rw[Vb,Vb]at h;injection h with d c
    have f:=ih (n / 2) (by have:=Nat.div_le_self n 2;omega) (m / 2) c;have g:n % 2=m % 2:=by
     rcases Nat.mod_two_eq_zero_or_one n with a|a<;>rcases Nat.mod_two_eq_zero_or_one m with b|b<;>simp_all
    omega
def Ef(p:List Bool):wT p (.nil:T α)=none:=by
 induction p with
 |nil=>rfl
 |cons b p ih=>cases b<;>exact ih
theorem q6h(v:Option α):∀(p:List Bool)(t:T α),wT p (fR v p t)=v:=by
 intro p
 induction p with
 |nil=>intro t;rfl
 |cons b p ih=>intro t;cases b<;>exact ih _
theorem xbn(v:Option α):∀(p q:List Bool)(t:T α),p≠q->wT q (fR v p t)=wT q t:=by
 intro p
 induction p with
 |nil =>
  intro q t h;cases q with
  |nil=>grind
  |cons b q=>cases b<;>rfl
 |cons b p ih =>
  intro q t h;cases q with
  |nil=>cases b<;>rfl
  |cons c q =>
   cases b<;>cases c
   .exact ih q _ (λ e=>h (by rw[e]))
   .rfl
   .rfl
   .exact ih q _ (λ e=>h (by rw[e]))
theorem kA(t:T α)(i j:Nat)(v:Option α):(t.put i v).get j=if i=j then v else t.get j:=by
 unfold get put
 by_cases h:i=j
 .grind [q6h]
 .simp only[h,wh];grind [xbn,Dr]
theorem aJ(t:T α)(i j:Nat)(v:α):(t.set i v).get j=if i=j then B1 v else t.get j:=kA t i j (B1 v)
theorem get_nil(j:Nat):(T.nil:T α).get j=none:=Ef _
def jK(p:List Bool)(t:T α):(oI p).run t=wT p t:=by
 induction p generalizing t with
 |nil=>rfl
 |cons b p ih=>cases b<;>exact ih _
def Df(v:Option α)(p:List Bool)(t:T α):(Du p).run v t=fR v p t:=by
 induction p generalizing t with
 |nil=>rfl
 |cons b p ih =>
  grind [Du,fR]
end T
section
variable{α:Type}
theorem lC(l:List α)(i:Nat):nth l i=l[i]?:=by
 induction l generalizing i with
 |nil=>rfl
 |cons x l ih=>cases i with
  |zero=>rfl
  |succ n=>exact ih n
theorem pe(a b:List α):jT a b=a++b:=by
 induction a with
 |nil=>rfl
 |cons x a ih=>exact congrArg (x :: ·) ih
def Gx(l:List α):cW l=l.length:=by
 induction l with
 |nil=>rfl
 |cons x l ih=>exact congrArg (·+1) ih
theorem DO(n:Nat)(l:List α):cS n l=l.drop n:=by
 induction n generalizing l with
 |zero=>rfl
 |succ n ih=>cases l with
  |nil=>exact(ih []).trans (by simp)
  |cons x l=>exact ih l
theorem ae3(n:Nat)(l:List α):B8 n l=if n<=l.length then B1 (l.take n)else none:=by
 induction n generalizing l with
 |zero=>rfl
 |succ n ih=>cases l with
  |nil=>rfl
  |cons x l =>
   show(B8 n l).bind (λ r=>B1 (x::r))=_
   grind
def ag6(new l:List α):yE new l=if new.length<=l.length then B1 (new++l.drop new.length)else none:=by
 induction new generalizing l with
 |nil=>rfl
 |cons x new ih=>cases l with
  |nil=>rfl
  |cons y l =>
   show(yE new l).bind (λ r=>B1 (x::r))=_
   grind
def FA(o:Nat)(new l:List α):putAt o new l=if o+new.length<=l.length then B1 (l.take o++new++l.drop (o+new.length))else none:=by
 induction o generalizing l with
 |zero=>show yE new l=_;rw[ag6];simp
 |succ o ih=>cases l with
  |nil =>
   show B5=_
   grind
  |cons x l =>
   show(putAt o new l).bind (λ r=>B1 (x::r))=_
   grind
def uJ(l:List α)(o n:Nat):fK l o n=if n<=l.length-o then B1 ((l.drop o).take n)else none:=by
 grind [fK,ae3,DO]
end
theorem Nj(a b:Int):vQ a b=decide (a<=b):=by
 cases a<;>cases b<;>rw[Cg]<;>simp[vQ,tQ]<;>try omega
def Lw(a b:Int):AG a b=decide (a<b):=by
 unfold AG;rw[Nj];grind
theorem BM(a b:Int):uc a b=(a == b):=by
 rw[Cg,beq_iff_eq];cases a<;>cases b<;>simp[uc]<;>omega
def Tm(a b:P0):tf a b=decide (a=b):=by cases a<;>cases b<;>rfl
theorem VH(a b:UInt8):EI a b=(a == b):=by
 unfold EI;rw[Cg];simp_all[UInt8.toNat_inj]
theorem Ky(a b:List UInt8):AJ a b=(a == b):=by
 induction a generalizing b with
 |nil=>cases b<;>rfl
 |cons x a ih=>cases b with
  |nil=>rfl
  |cons y b =>
   show cond (EI x y) (AJ a b) B2=_
   grind [VH]
end Go.Am
namespace Go.Am
structure Th where
 b9:Nat->Nat
 off:Nat->Nat
 ext:Nat->Nat
def fJ(θ:Th):mD->Fn
 | .func f=>.func f
 | .yield l=>.yield (θ.b9 l)
def Dt:Nat->Option Nat
 |0=>B5
 |n+1=>B1 n
mutual
def az(θ:Th):AV->Li
 | .bool b=>.bool b
 | .int k n=>.int k n
 | .str s=>.string ⟨s.toArray⟩
 | .nilp=>.pointer B5
 | .ptr b o=>.pointer (B1 ⟨θ.b9 b,θ.off b+o,B5⟩)
 | .nils=>.slice B5 0 0
 | .slice b o n c=>.slice (B1 ⟨θ.b9 b,θ.off b+o,B5⟩) n c
 | .gslice b i m s alt n=>.slice (B1 ⟨θ.b9 b,θ.off b+(if(m-i) + θ.ext b=0 then alt else i*s),B5⟩) n ((m-i) + θ.ext b)
 | .eslice b=>.slice (B1 ⟨θ.b9 b,θ.off b,Dt (θ.ext b)⟩) 0 0
 | .mB=>.map B5
 | .map b=>.map (B1 (θ.b9 b))
 | .fn f a b=>.func (fJ θ f) (bT θ a).toArray (bT θ b).toArray
 | .nilf=>.nilFunc
 | .iface t v=>.iface t (az θ v)
 | .nili=>.nilIface
 | .agg l=>.agg (bT θ l).toArray
 | .tuple l=>.tuple (bT θ l).toArray
def bT(θ:Th):List AV->List Li
 |[]=>[]
 |v::vs=>az θ v::bT θ vs
end
theorem vH(θ:Th)(l:List AV):bT θ l=l.map (az θ):=by
 induction l with
 |nil=>rfl
 |cons x l ih=>simp[bT,ih]
def Ag(D:Nat->Prop)(θ θ':Th):Prop:=∀b,D b -> θ'.b9 b = θ.b9 b /\ θ'.off b = θ.off b /\ θ'.ext b = θ.ext b
theorem Ag.refl(D:Nat->Prop)(θ:Th):Ag D θ θ:=λ _ _=>⟨rfl,rfl,rfl⟩
theorem Ag.trans{D D':Nat->Prop}{θ θ' θ'':Th}(h:Ag D θ θ')(a:Ag D' θ' θ'')(c:∀b,D b->D' b):Ag D θ θ'':=λ b hb =>
 let⟨a1,a2,a3⟩:=h b hb;let⟨b1,b2,b3⟩:=a b (c b hb);(by omega)
def Ag.mono{D D':Nat->Prop}{θ θ':Th}(h:Ag D θ θ')(a:∀b,D' b->D b):Ag D' θ θ':=λ b hb=>h b (a b hb)
def VR(D:Nat->Prop)(θ:Th)(v:AV)(c:Li):Prop:=∀θ',Ag D θ θ'->az θ' v=c
def bL(D:Nat->Prop)(θ:Th)(l:List AV)(cs:List Li):Prop:=∀θ',Ag D θ θ'->bT θ' l=cs
section
variable{D D':Nat->Prop}{θ θ':Th}
def VR.now{v:AV}{c:Li}(h:VR D θ v c):az θ v=c:=h θ (Ag.refl D θ)
def bL.now{l:List AV}{cs:List Li}(h:bL D θ l cs):bT θ l=cs:=h θ (Ag.refl D θ)
theorem VR.up{v:AV}{c:Li}(h:VR D θ v c)(ha:Ag D θ θ')(d:∀b,D b->D' b):VR D' θ' v c:=λ θ'' a=>h θ'' (ha.trans a d)
theorem bL.up{l:List AV}{cs:List Li}(h:bL D θ l cs)(ha:Ag D θ θ')(c:∀b,D b->D' b):bL D' θ' l cs:=λ θ'' a=>h θ'' (ha.trans a c)
theorem bL.nil:bL D θ [] []:=λ _ _=>rfl
def bL.cons{v:AV}{c:Li}{l:List AV}{cs:List Li}(h:VR D θ v c)(hl:bL D θ l cs):bL D θ (v::l) (c::cs) :=
 λ θ' ha=>by simp[bT,h θ' ha,hl θ' ha]
def bL.eE{v:AV}{l:List AV}{cs:List Li}(h:bL D θ (v::l) cs):∃c cs',cs=c::cs'/\VR D θ v c/\bL D θ l cs':=by
 refine⟨az θ v,bT θ l,(by rw[<-h.now];rfl),λ θ' ha=>?_,λ θ' ha=>?_⟩
 .have:=(h θ' ha).trans h.now.symm;grind [bT]
 .have:=(h θ' ha).trans h.now.symm;grind [bT]
def bL.my{cs:List Li}(h:bL D θ [] cs):cs=[]:=h.now.symm
def bL.length{l:List AV}{cs:List Li}(h:bL D θ l cs):cs.length=l.length:=by rw[<-h.now,vH];simp
def bL.app{l a:List AV}{cs cs':List Li}(h:bL D θ l cs)(b:bL D θ a cs'):bL D θ (l++a) (cs++cs'):=by
 intro θ' ha;rw[vH,HB,<-vH,<-vH,h θ' ha,b θ' ha]
def bL.ri{l:List AV}{cs:List Li}(h:bL D θ l cs){i:Nat}{v:AV}(b:l[i]? = B1 v):∃c,cs[i]? = B1 c/\VR D θ v c:=by
 refine⟨az θ v,?_,λ θ' ha=>?_⟩
 .rw [<-h.now,vH,xp,b];rfl
 .have:=(h θ' ha).trans h.now.symm;rw[vH,vH]at this;have a:=congrArg (λ l=>l[i]?) this;simp only[xp,b,Ir,qk]at a;exact a
theorem bL.drop{l:List AV}{cs:List Li}(h:bL D θ l cs)(n:Nat):bL D θ (l.drop n) (cs.drop n):=by
 intro θ' ha;rw[vH,List.map_drop,<-vH,h θ' ha]
def bL.take{l:List AV}{cs:List Li}(h:bL D θ l cs)(n:Nat):bL D θ (l.take n) (cs.take n):=by
 intro θ' ha;rw[vH,List.map_take,<-vH,h θ' ha]
def bL.one{v:AV}{c:Li}(h:VR D θ v c):bL D θ [v] [c]:=.cons h .nil
def VR.agg{l:List AV}{cs:List Li}(h:bL D θ l cs):VR D θ (.agg l) (.agg cs.toArray):=λ θ' ha=>by simp[az,h θ' ha]
def VR.tuple{l:List AV}{cs:List Li}(h:bL D θ l cs):VR D θ (.tuple l) (.tuple cs.toArray):=λ θ' ha=>by simp[az,h θ' ha]
def VR.fq{l:List AV}{c:Li}(h:VR D θ (.agg l) c):∃cs:List Li,c=.agg cs.toArray/\bL D θ l cs:=by
 refine⟨bT θ l,h.now.symm,λ θ' ha=>?_⟩;have:=(h θ' ha).trans h.now.symm;simpa[az]using this
def VR.zV{l:List AV}{c:Li}(h:VR D θ (.tuple l) c):∃cs:List Li,c=.tuple cs.toArray/\bL D θ l cs:=by
 refine⟨bT θ l,h.now.symm,λ θ' ha=>?_⟩;have:=(h θ' ha).trans h.now.symm;simpa[az]using this
def VR.iface{t:Nat}{v:AV}{c:Li}(h:VR D θ v c):VR D θ (.iface t v) (.iface t c):=λ θ' ha=>by simp[az,h θ' ha]
def VR.mr{t:Nat}{v:AV}{c:Li}(h:VR D θ (.iface t v) c):∃a,c=.iface t a/\VR D θ v a:=by
 refine⟨az θ v,h.now.symm,λ θ' ha=>?_⟩;have:=(h θ' ha).trans h.now.symm;simpa[az]using this
def VR.undef:VR D θ .undef Go.undef:=λ _ _=>rfl
def VR.bool(b:Bool):VR D θ (.bool b) (.bool b):=λ _ _=>rfl
def VR.int(k:P0)(n:Int):VR D θ (.int k n) (.int k n):=λ _ _=>rfl
def VR.str(s:List UInt8):VR D θ (.str s) (.string ⟨s.toArray⟩):=λ _ _=>rfl
def VR.ptr{b o:Nat}(hb:D b):VR D θ (.ptr b o) (.pointer (B1 ⟨θ.b9 b,θ.off b+o,B5⟩)):=λ θ' ha=>by obtain⟨a,c,_⟩:=ha b hb;grind [az]
theorem VR.map{b:Nat}(hb:D b):VR D θ (.map b) (.map (B1 (θ.b9 b))):=λ θ' ha=>by obtain⟨a,_,_⟩:=ha b hb;simp[az,a]
def VR.slice{b o n c:Nat}(hb:D b):VR D θ (.slice b o n c) (az θ (.slice b o n c)):=λ θ' ha=>by obtain⟨a,d,_⟩:=ha b hb;grind [az]
def VR.gslice{b i m s alt n:Nat}(hb:D b):VR D θ (.gslice b i m s alt n) (az θ (.gslice b i m s alt n)):=λ θ' ha=>by
 obtain⟨a,c,d⟩:=ha b hb;grind [az]
end
def JY(fz cfz:Nat×Nat)(off size:Nat):Prop:=cfz.1=cfz.2\/(cfz.1<cfz.2/\off+fz.1<=cfz.1/\cfz.2<=off+fz.2)\/(fz.2<fz.1/\(size<=cfz.1\/cfz.2<=off))
def LY(fz cfz:Nat×Nat):Prop:=cfz.1=cfz.2\/(cfz.1<cfz.2/\fz.1<=cfz.1/\cfz.2<=fz.2)
def own:bD->Bool
 | .row _ _ _ o=>o
 |_=>B4
def pX(D:Nat->Prop)(θ:Th)(tm:T AV)(a:Array Li):Prop:=∀t v,tm.get t=B1 v -> ∃c,a[t]? = B1 c/\VR D θ v c
def _g:mY->LoopState
 | .ready=>.ready| .busy=>.busy| .done=>.done| .exhausted=>.exhausted
def mT:ia->Code
 | .exit id=>.exit id
 | .goto l=>.goto l
 | .ret=>.ret
def RS(D:Nat->Prop)(θ:Th)(e:AV×AV×Nat)(m:Bq):Prop:=VR D θ e.1 m.key/\VR D θ e.2.1 m.val/\m.born=e.2.2
def du(D:Nat->Prop)(θ:Th):List (AV×AV×Nat)->List Bq->Prop
 |[],[]=>True
 |e::es,m::ms=>RS D θ e m/\du D θ es ms
 |_,_=>False
def vT(P:JL)(f k n:Nat)(params:Array Tmp)(assign body:Code):Prop :=
 ∃fn af lp ka kb L1 L2,P.funcs[f]? = B1 fn/\uH P fn=B1 af/\nth af.loops k=B1 lp/\lp.params=params.toList/\(∀p∈params.toList,p<fn.ntmps)/\fn.ntmps<=n /\
  cq P fn.ntmps ka assign=B1 (lp.assign,L1)/\(∀i l,nth L1 i=B1 l->nth af.loops (ka+i)=B1 l) /\
  cq P fn.ntmps kb body=B1 (lp.body,L2)/\(∀i l,nth L2 i=B1 l->nth af.loops (kb+i)=B1 l)
def Yo(D:Nat->Prop)(θ:Th):aK->Deferred->Prop
 | .jD b,d=>D b/\d = {target:=.collected (θ.b9 b),args:=#[]}
 | .fn f args,d=>∃c cap:Array Li,d = {target:=.fn (fJ θ f) cap,args:=c}/\(∀θ',Ag D θ θ'->fJ θ' f=fJ θ f)/\bL D θ args (c++cap).toList
def oX(P:JL)(D:Nat->Prop)(θ:Th)(b:Nat):bD->Obj->Prop
 | .row cells e fz ow,o=>∃pre cs post cfz e',o=.cells (pre++cs++post).toArray e' cfz/\pre.length = θ.off b/\bL D θ cells cs /\
  (ow=B4->e'=e/\pre=[]/\post=[]/\LY fz cfz)
 | .grown m size cells e fz,o=>∃pre cs post cfz,o=.cells (pre++cs++post).toArray e cfz/\pre.length = θ.off b/\bL D θ cells cs /\
  cells.length=m*size/\post.length = θ.ext b*size/\0<size/\m + θ.ext b<=maxLen/\JY fz cfz (θ.off b) (pre.length+cs.length+post.length)
 | .map es clock,o=>∃ms:List Bq,o=.map ms.toArray clock/\du D θ es ms
 | .mq s pos,o=>o=.stringIter ⟨s.toArray⟩ pos /\ θ.off b=0
 | .loop st pend f k tm d,o=>∃r:Loop,o=.loop r/\r.state=_g st/\r.pending=pend.map mT/\r.fn=f/\pX D θ tm r.tmps/\vT P f k r.tmps.size r.params r.assign r.body /\
  D d/\r.defers = θ.b9 d
 | .deferred calls,o=>∃ds,o=.deferred ds/\(match calls,ds with
  |none,B5=>True
  |some l,B1 l'=>l=[]/\l'=[]
  |_,_=>False)
structure HR(P:JL)(base:Nat)(D:Nat->Prop)(θ:Th)(H:ar)(w:MV):Prop where
 obj:∀b o,H.get b=B1 o->D b /\ ∃co,w.heap[θ.b9 b]? = B1 co/\oX P D θ b o co
 inj:∀b b' o o',H.get b=B1 o->H.get b'=B1 o'->own o=B4->b≠b' -> θ.b9 b≠θ.b9 b'
 mh:∀b o,H.get b=B1 o->own o=B4->base <= θ.b9 b
 eG:∀g,g<P.globals.size->D g /\ θ.b9 g=g /\ θ.off g=0
 low:base<=w.heap.size
def Lt(n:Nat):Nat->Prop:=λ b=>b<n
end Go.Am
namespace Go.Am
theorem xY(k o i:Nat):(⟨k,o,B5⟩:Addr).add i=⟨k,o+i,B5⟩:=by grind [Addr.add]
def fy(w:MV)(k:Nat)(o:Obj):World:={w with heap:=w.heap.setIfInBounds k o}
def Sd(w:MV)(k:Nat)(o:Obj):(fy w k o).heap.size=w.heap.size:=by simp[fy]
theorem K4(w:MV)(k j:Nat)(o:Obj)(h:k<w.heap.size):(fy w k o).heap[j]? = if k=j then B1 o else w.heap[j]?:=by
 grind [fy]
def xmq(w:MV)(k:Nat)(o o':Obj):fy (fy w k o) k o'=fy w k o':=by
 simp[fy]
def xmp(w:MV)(k:Nat)(o:Obj)(h:w.heap[k]? = B1 o):fy w k o=w:=by
 have:w.heap.setIfInBounds k o=w.heap:=by
  grind
 simp_all[fy]
def B6(w:MV)(o:Obj)(j:Nat):(w.alloc o).heap[j]? = if j=w.heap.size then B1 o else w.heap[j]?:=by
 grind [MV.alloc]
section
variable{P:JL}{w:MV}{k:Nat}{arr:Array Li}{e:M8}{fz:Nat×Nat}
theorem Oy(h:w.heap[k]? = B1 (.cells arr e fz))(o:Nat):w.cell? ⟨k,o,B5⟩=arr[o]?:=by simp[World.cell?,h]
theorem xma(h:w.heap[k]? = B1 (.cells arr e fz)){o:Nat}{v:Li}(a:arr[o]? = B1 v):(load ⟨k,o,B5⟩).run P w=.ok v w:=by
 rw[run_load,Oy h,a]
def xcv(h:w.heap[k]? = B1 (.cells arr e fz))(o n:Nat)(hn:n<=arr.size-o) :
 (loadCells ⟨k,o,B5⟩ n).run P w=.ok ((arr.toList.drop o).take n).toArray w:=by
 have hl:((arr.toList.drop o).take n).length=n:=by grind
 grind [run_loadCells_list,xY,Oy]
def Uf(a:Nat):∀(vs:List Li)(i:Nat)(arr:Array Li)(w:MV),w.heap[k]? = B1 (.cells arr e fz) ->
 a+i+vs.length<=arr.size->(∀j,j<vs.length -> ¬(fz.1<=a+i+j/\a+i+j<fz.2))->(∀v∈vs,v.oneCell'=B4) ->
 (storeCells ⟨k,a,B5⟩ vs i).run P w=.ok () (fy w k (.cells (arr.toList.take (a+i)++vs++arr.toList.drop (a+i+vs.length)).toArray e fz))
 |[],i,arr,w,hg,_,_,_=>by
  simp only[storeCells,zq,kr,AY,vg,C6];rw[xmp w k _ hg];rfl
 |v::rest,i,arr,w,hg,hl,hf,h1=>by
  have m:a+i<arr.size:=by grind
  have hk:k<w.heap.size:=(Sw.1 hg).1;have b:w.cell? ⟨k,a+i,B5⟩=B1 arr[a+i]:=by rw[Oy hg];grind
  have d:w.frozen? ⟨k,a+i,B5⟩=false:=by
   have:=hf 0 (by simp)
   grind [MV.frozen?]
  have f:w.setCell ⟨k,a+i,B5⟩ v=fy w k (.cells (arr.setIfInBounds (a+i) v) e fz):=by
   simp only[MV.setCell,fy];congr 1
   grind
  have c:(store ((⟨k,a,B5⟩:Addr).add i) v).run P w=.ok () (fy w k (.cells (arr.setIfInBounds (a+i) v) e fz)):=by
   grind [xY,run_store]
  have h:=Uf a rest (i+1) (arr.setIfInBounds (a+i) v) (fy w k (.cells (arr.setIfInBounds (a+i) v) e fz))
   (by grind [K4]) (by grind)
   (λ j g=>by have:=hf (j+1) (by simpa using g);rwa [show a+i+(j+1)=a+(i+1)+j from by omega]at this)
   (by grind)
  simp only[storeCells,Ng,c,NB,h,xmq];congr 3;have l:=list_seg_step arr.toList (a+i) v rest (by simp at hl⊢;omega);simp_all[zZ]
end
def Up(D:Nat->Prop)(n m:Nat):Nat->Prop:=λ b=>D b\/(n<=b/\b<m)
def Up.of{D:Nat->Prop}{n m:Nat}:∀b,D b->Up D n m b:=λ _ h=>.inl h
def d9(D:Nat->Prop)(n m:Nat):Prop:=∀b,n<=b->b<m -> ¬D b
theorem Up.up{D:Nat->Prop}{n m k:Nat}(h:n<=m)(a:m<=k):Up (Up D n m) m k=Up D n k:=by
 funext b;simp only[Up,eq_iff_iff]
 grind
theorem Up.none{D:Nat->Prop}{n:Nat}:Up D n n=D:=by
 funext b;simp only[Up,eq_iff_iff]
 grind
def d9.left{D:Nat->Prop}{n m k:Nat}(h:d9 D n k)(hk:m<=k):d9 D n m:=λ b a c=>h b a (by omega)
def d9.right{D:Nat->Prop}{n m k:Nat}(h:d9 D n k)(hm:n<=m):d9 (Up D n m) m k:=λ b d c a=>by
 rcases a with a|⟨_,f⟩
 .exact h b (by omega) c a
 .omega
structure bA(D:Nat->Prop)(H:ar)(θ:Th)(w:MV)(H':ar)(θ':Th)(w':MV):Prop where
 au:H.au<=H'.au
 ag:Ag D θ θ'
 size:w.heap.size<=w'.heap.size
 os:w'.os=w.os
 tape:w'.tape=w.tape
 output:w'.output=w.output
 ah:∀k,k<w.heap.size->(∀b o,H.get b=B1 o->own o=B4 -> θ.b9 b≠k)->w'.heap[k]? = w.heap[k]?
 news:∀b o,H'.get b=B1 o->own o=B4 -> θ'.b9 b<w.heap.size -> ∃b' o',H.get b'=B1 o'/\own o'=B4 /\ θ.b9 b' = θ'.b9 b
theorem bA.refl(D:Nat->Prop)(H:ar)(θ:Th)(w:MV):bA D H θ w H θ w :=
 ⟨qm _,Ag.refl _ _,qm _,rfl,rfl,rfl,λ _ _ _=>rfl,λ b o h ho _=>(by grind)⟩
theorem bA.trans{D D':Nat->Prop}{H H' c:ar}{θ θ' θ'':Th}{w w' d:MV}(a:bA D H θ w H' θ' w')(b:bA D' H' θ' w' c θ'' d)(p:∀b,D b->D' b):bA D H θ w c θ'' d:=by
 refine⟨xw a.au b.au,a.ag.trans b.ag p,xw a.size b.size,b.os.trans a.os,b.tape.trans a.tape,b.output.trans a.output,?_,?_⟩
 .intro k hk g;refine(b.ah k (qn hk a.size) ?_).trans (a.ah k hk g);intro x o h ho he;have⟨i,o',j,l,n⟩:=a.news x o h ho (by omega)
  grind
 .intro x o h ho f;have⟨i,o',j,l,n⟩:=b.news x o h ho (qn f a.size);have⟨m,q,r,s,t⟩:=a.news i o' j l (by omega)
  grind
def bA.draw{D:Nat->Prop}{H:ar}{θ:Th}{w w':MV}(a:w'.heap=w.heap)(ho:w'.os=w.os)(c:w'.tape=w.tape)(hp:w'.output=w.output):bA D H θ w H θ w' :=
 ⟨qm _,Ag.refl _ _,by grind,ho,c,hp,λ _ _ _=>by rw[a],λ b o h hw _=>(by grind)⟩
def HR.draw{P:JL}{base:Nat}{D:Nat->Prop}{θ:Th}{H:ar}{w w':MV}(h:HR P base D θ H w)(a:w'.heap=w.heap):HR P base D θ H w' :=
 ⟨λ b o hb=>by rw[a];exact h.obj b o hb,h.inj,h.mh,h.eG,by rw[a];exact h.low⟩
theorem du.up{D D':Nat->Prop}{θ θ':Th}(ha:Ag D θ θ')(a:∀b,D b->D' b):∀(es:List (AV×AV×Nat))(ms:List Bq),du D θ es ms->du D' θ' es ms
 |[],[],_=>trivial
 |e::es,m::ms,⟨⟨h1,h2,h3⟩,h⟩=>⟨⟨h1.up ha a,h2.up ha a,h3⟩,du.up ha a es ms h⟩
 |[],_::_,h=>h.elim
 |_::_,[],h=>h.elim
theorem oX.up{P:JL}{D D':Nat->Prop}{θ θ':Th}{b:Nat}{o:bD}{co:Obj}(h:oX P D θ b o co)(hb:D b)(ha:Ag D θ θ')(n:∀b,D b->D' b):oX P D' θ' b o co:=by
 have⟨e1,e2,A⟩:=ha b hb;cases o with
 |row cells e fz ow =>
  have⟨pre,cs,post,a,y,g,i,j,l⟩:=h;exact⟨pre,cs,post,a,y,g,by omega,j.up ha n,l⟩
 |grown m size cells e fz =>
  have⟨pre,cs,post,a,g,i,j,l,u,p,q,x⟩:=h;exact⟨pre,cs,post,a,g,by omega,j.up ha n,l,by grind,p,by omega,by grind⟩
 |map es clock =>
  have⟨ms,g,i⟩:=h;exact⟨ms,g,du.up ha n _ _ i⟩
 |mq s pos=>exact⟨h.1,e2.trans h.2⟩
 |loop st pend f k tm d =>
  have⟨r,g,i,j,l,u,p,q,x⟩:=h;exact⟨r,g,i,j,l,λ t v z=>let⟨c,hc,hr⟩:=u t v z;⟨c,hc,hr.up ha n⟩,p,n d q,by rw[(ha d q).1];exact x⟩
 |deferred calls=>exact h
theorem HR.up{P:JL}{base:Nat}{D D':Nat->Prop}{θ:Th}{H:ar}{w:MV}(h:HR P base D θ H w)(a:∀b,D b->D' b):HR P base D' θ H w :=
 ⟨λ b o hb=>let⟨h1,co,h2,h3⟩:=h.obj b o hb;⟨a b h1,co,h2,h3.up h1 (Ag.refl _ _) a⟩,h.inj,h.mh,λ g hg=>⟨a g (h.eG g hg).1,(h.eG g hg).2⟩,h.low⟩
section
variable{P:JL}{base:Nat}{D:Nat->Prop}{θ:Th}{H:ar}{w:MV}
def HR.lt(h:HR P base D θ H w){b:Nat}{o:bD}(hb:H.get b=B1 o):θ.b9 b<w.heap.size:=by
 have⟨_,co,a,_⟩:=h.obj b o hb
 grind
theorem ar.aJ(H:ar)(b a:Nat)(o:bD):(H.set b o).get a=if b=a then B1 o else H.get a:=T.aJ _ _ _ _
def ar.bM(H:ar)(a:Nat)(o:bD):(H.alloc o).get a=if H.au=a then B1 o else H.get a:=T.aJ _ _ _ _
theorem ar.qS(H:ar)(b a:Nat):(H.kill b).get a=if b=a then B5 else H.get a:=T.kA _ _ _ _
theorem HR.set(h:HR P base D θ H w){b:Nat}{o o':bD}{co':Obj}(hb:H.get b=B1 o)(ho:own o=B4)(p:own o'=B4)(hr:oX P D θ b o' co') :
 HR P base D θ (H.set b o') (fy w (θ.b9 b) co'):=by
 have i:=h.lt hb;refine⟨λ x f a=>?_,λ x y f j a g c d=>?_,λ x f a c=>?_,h.eG,by rw[Sd];exact h.low⟩
 .rw [ar.aJ]at a
  by_cases e:b=x
  .subst e;simp only[uE,qk]at a;subst a;exact⟨(h.obj b o hb).1,co',by grind [K4],hr⟩
  .simp only[e,wh]at a;have⟨l,co,m,n⟩:=h.obj x f a;exact⟨l,co,by rw[K4 _ _ _ _ i,qv (h.inj b x o f hb a ho e)];exact m,n⟩
 .rw [ar.aJ]at a g
  by_cases e:b=x<;>by_cases e':b=y
  .omega
  .subst e;simp only[e',wh]at g;exact h.inj b y o j hb g ho d
  .subst e';simp only[e,wh]at a;exact h.inj x b f o a hb c d
  .simp only[e,e',wh]at a g;exact h.inj x y f j a g c d
 .rw [ar.aJ]at a
  by_cases e:b=x
  .subst e;exact h.mh b o hb ho
  .simp only[e,wh]at a;exact h.mh x f a c
theorem bA.set{b:Nat}{o o':bD}{co':Obj}(hb:H.get b=B1 o)(ho:own o=B4)(a:θ.b9 b<w.heap.size) :
 bA D H θ w (H.set b o') θ (fy w (θ.b9 b) co'):=by
 refine⟨qm _,Ag.refl _ _,by simp_all[Sd],rfl,rfl,rfl,λ k hk c=>?_,λ x g f d _=>?_⟩
 .simp_all [K4]
 .rw [ar.aJ]at f
  grind
def Th.add(θ:Th)(n b9 off ext:Nat):Th:={b9:=λ b=>if b=n then b9 else θ.b9 b,off:=λ b=>if b=n then off else θ.off b,ext:=λ b=>if b=n then ext else θ.ext b}
def Th.eK(θ:Th)(n b9 off ext:Nat):(θ.add n b9 off ext).b9 n=b9/\(θ.add n b9 off ext).off n=off/\(θ.add n b9 off ext).ext n=ext:=by simp[Th.add]
def Th.hC(θ:Th)(n b9 off ext:Nat){D:Nat->Prop}(hn:¬D n):Ag D θ (θ.add n b9 off ext):=λ b hb=>by
 grind [Th.add]
end
section
variable{P:JL}{base:Nat}{D:Nat->Prop}{θ:Th}{H:ar}{w:MV}
theorem HR.alloc(h:HR P base D θ H w)(hn:¬D H.au){o:bD}{co:Obj}{k off ext:Nat}{w':MV}(hk:w'.heap[k]? = B1 co)(p:∀j,j<w.heap.size->w'.heap[j]? = w.heap[j]?)(u:w.heap.size<=k)
 (hs:w.heap.size<=w'.heap.size) (hr:oX P (Up D H.au (H.au+1)) (θ.add H.au k off ext) H.au o co) :
 HR P base (Up D H.au (H.au+1)) (θ.add H.au k off ext) (H.alloc o) w':=by
 have d:=Th.hC θ H.au k off ext hn;have⟨e1,e2,v⟩:=Th.eK θ H.au k off ext;have old:∀x b,H.get x=B1 b->(θ.add H.au k off ext).b9 x = θ.b9 x:=λ x b a=>(d x (h.obj x b a).1).1;refine⟨λ x b a=>?_,λ x y b q a i f m=>?_,λ x b a f=>?_,λ g hg=>?_,by have:=h.low;omega⟩
 .rw [ar.bM]at a
  by_cases e:H.au=x
  .subst e;simp only[uE,qk]at a;subst a;exact⟨.inr ⟨qm _,zp _⟩,co,by rw[e1];exact hk,hr⟩
  .simp only[e,wh]at a;have⟨l,c,r,n⟩:=h.obj x b a;refine⟨.inl l,c,?_,n.up l d Up.of⟩
   grind
 .rw [ar.bM]at a i
  by_cases e:H.au=x<;>by_cases e':H.au=y
  .exact absurd (e.symm.trans e') m
  .subst e;simp only[e',wh]at i;rw[e1,old y q i];have:=h.lt i;omega
  .subst e';simp only[e,wh]at a;rw[e1,old x b a];have:=h.lt a;omega
  .simp only[e,e',wh]at a i;rw[old x b a,old y q i];exact h.inj x y b q a i f m
 .rw [ar.bM]at a
  by_cases e:H.au=x
  .subst e;rw[e1];have:=h.low;omega
  .simp only[e,wh]at a;rw[old x b a];exact h.mh x b a f
 .have ⟨l,r,n⟩:=h.eG g hg;have⟨s,t,_⟩:=d g l;exact⟨.inl l,s.trans r,t.trans n⟩
theorem bA.alloc(h:HR P base D θ H w)(hn:¬D H.au)(o:bD)(co:Obj)(off ext:Nat):bA D H θ w (H.alloc o) (θ.add H.au w.heap.size off ext) (w.alloc co):=by
 have a:=Th.hC θ H.au w.heap.size off ext hn;have⟨e1,e2,g⟩:=Th.eK θ H.au w.heap.size off ext;refine⟨jy _,a,by simp,rfl,rfl,rfl,λ k hk _=>?_,λ x f b d c=>?_⟩
 .rw [B6,qv (J7 hk)]
 .rw [ar.bM]at b
  by_cases e:H.au=x
  .grind
  .simp only[e,wh]at b;have:=(a x (h.obj x f b).1).1
   grind
end
section
variable{P:JL}{base:Nat}{D:Nat->Prop}{θ:Th}{H:ar}{w:MV}
def HR.cells(h:HR P base D θ H w){b:Nat}{l:List AV}(hb:H.bU b=B1 l) :
 ∃pre cs post e fz,w.heap[θ.b9 b]? = B1 (.cells (pre++cs++post).toArray e fz)/\pre.length = θ.off b/\bL D θ l cs:=by
 unfold ar.bU at hb;cases hg:H.get b with
 |none=>grind
 |some o =>
  rw[hg]at hb;have⟨_,co,i,hr⟩:=h.obj b o hg;cases o with
  |row cells e fz ow =>
   have⟨pre,cs,post,a,g,c,d,f,_⟩:=hr
   grind
  |grown m size cells e fz =>
   have⟨pre,cs,post,a,c,d,f,_⟩:=hr
   grind
  |map _ _=>cases hb
  |mq _ _=>cases hb
  |loop _ _ _ _ _ _=>cases hb
  |deferred _=>cases hb
def w_(pre cs post:List Li)(o n:Nat)(h:n<=cs.length-o):(((pre++cs++post).toArray.toList.drop (pre.length+o)).take n)=(cs.drop o).take n:=by
 simp_all[G7,RN]
def HR.ae(h:HR P base D θ H w){b o:Nat}{v:AV}(hl:H.ae b o=B1 v) :
 ∃c,(load ⟨θ.b9 b,θ.off b+o,B5⟩).run P w=.ok c w/\VR D θ v c:=by
 unfold ar.ae at hl;cases a:H.bU b with
 |none=>grind
 |some l =>
  rw[a]at hl;have⟨pre,cs,post,e,fz,i,j,d⟩:=h.cells a;simp only[qr,lC]at hl;have⟨c,f,g⟩:=d.ri hl
  grind [xma]
def HR.aq(h:HR P base D θ H w){b o n:Nat}{l:List AV}(hl:H.aq b o n=B1 l) :
 ∃cs:List Li,(loadCells ⟨θ.b9 b,θ.off b+o,B5⟩ n).run P w=.ok cs.toArray w/\bL D θ l cs/\l.length=n:=by
 unfold ar.aq at hl;cases c:H.bU b with
 |none=>grind
 |some l0 =>
  rw[c]at hl;have⟨pre,cs,post,e,fz,d,f,a⟩:=h.cells c;simp only[qr,uJ]at hl;split at hl
  .rename_i hn;cases hl;have hlen:=a.length;refine⟨(cs.drop o).take n,?_,(a.drop o).take n,by grind⟩;rw[<-f,xcv d (pre.length+o) n (by grind),w_ pre cs post o n (by omega)]
  grind
theorem xch{v:AV}{c:Li}(h:VR D θ v c)(a:aB v=B4):c.oneCell'=true:=by
 rw[<-h.now];cases v<;>simp_all[aB,az,Li.oneCell']
theorem vc(l:List AV):aL l=l.all aB:=by
 induction l with
 |nil=>rfl
 |cons x l ih =>
  show cond (aB x) (aL l) B2=_
  grind
def ζ{l:List AV}{cs:List Li}(h:bL D θ l cs)(b:aL l=B4):∀c∈cs,c.oneCell'=true:=by
 intro c d;have⟨i,m⟩:=Mc d;rw[vc,Gw]at b;have a:i<l.length:=by rw[<-h.length];grind
 have⟨f,g,j⟩:=h.ri (xe a)
 grind [xch]
end
end Go.Am
namespace Go.Am
def sI(P:JL)(s:Sem Next)(w:MV)(c:Li)(w':MV):Prop:=s.run P w=.ok (.value c) w'\/(s.run P w=.ok .skip w'/\c=Go.undef)
def dp(P:JL)(o:QI)(xs:List MS)(f:List AV->Option AV):Prop :=
 ∀(D:Nat->Prop)θ(ρ:MS->Li)w vs v,bL D θ vs (xs.map ρ)->f vs=B1 v -> ∃c,sI P (execOp ρ o) w c w/\VR D θ v c
section
variable{P:JL}{w:MV}
def j8{t:M8}{d:TypeDesc}(h:P.underlying t=B1 d):(underlying t).run P w=.ok d w:=run_underlying h w
def uj{t:M8}{n:Nat}(h:bQ P t=B1 n):(sizeOf t).run P w=.ok n w:=by
 unfold bQ at h;cases a:P.info? t with
 |none=>grind
 |some i=>simp_all[sizeOf,typeInfo]
def ZZ{t:M8}{n:Nat}(h:bQ P t=B1 n):∃i,P.info? t=B1 i/\i.size=n:=by
 unfold bQ at h;cases a:P.info? t with
 |none=>grind
 |some i=>grind
def Tx{t:M8}{n:Option Nat}(h:og P t=B1 n):(isAgg t).run P w=.ok n.isSome w /\ ∀k,n=B1 k->(sizeOf t).run P w=.ok k w:=by
 unfold og at h;cases hu:P.underlying t with
 |none=>grind
 |some d =>
  rw[hu]at h;cases d
  case struct fs =>
   simp only at h;cases hs:bQ P t with
   |none=>grind
   |some m =>
    rw[hs]at h;cases h;simp_all[isAgg,j8,uj]
  case array m e =>
   simp only at h;cases hs:bQ P t with
   |none=>grind
   |some m =>
    rw[hs]at h;cases h;simp_all[isAgg,j8,uj]
  all_goals
   (cases h
    simp_all[isAgg,j8])
mutual
def UA(θ:Th):∀(c:Li)(v:AV),fU c=B1 v->az θ v=c
 | .bool b,v,h=>by simp[fU]at h;subst h;rfl
 | .int k n,v,h=>by simp[fU]at h;subst h;rfl
 | .string s,v,h=>by simp[fU]at h;subst h;simp[az]
 | .pointer B5,v,h=>by simp[fU]at h;subst h;rfl
 | .pointer (B1 a),v,h=>by grind [fU]
 | .slice B5 0 0,v,h=>by simp[fU]at h;subst h;rfl
 | .slice B5 0 (n+1),v,h=>by grind [fU]
 | .slice B5 (n+1) c,v,h=>by grind [fU]
 | .slice (B1 a) n c,v,h=>by grind [fU]
 | .map B5,v,h=>by simp[fU]at h;subst h;rfl
 | .map (B1 r),v,h=>by grind [fU]
 | .nilFunc,v,h=>by simp[fU]at h;subst h;rfl
 | .nilIface,v,h=>by simp[fU]at h;subst h;rfl
 | .iface t x,v,h=>by
  simp only[fU]at h;cases d:fU x with
  |none=>grind
  |some y=>rw[d]at h;cases h;simp[az,UA θ x y d]
 | .agg cs,v,h=>by
  simp only[fU]at h;cases d:nM cs.toList with
  |none=>grind
  |some l=>rw[d]at h;cases h;simp[az,Wj θ cs.toList l d]
 | .tuple cs,v,h=>by
  simp only[fU]at h;cases d:nM cs.toList with
  |none=>grind
  |some l=>rw[d]at h;cases h;simp[az,Wj θ cs.toList l d]
 | .float _ _,v,h=>by grind [fU]
 | .complex _ _ _,v,h=>by grind [fU]
 | .chan _,v,h=>by grind [fU]
 | .func _ _ _,v,h=>by grind [fU]
def Wj(θ:Th):∀(cs:List Li)(l:List AV),nM cs=B1 l->bT θ l=cs
 |[],l,h=>by simp[nM]at h;subst h;rfl
 |c::cs,l,h=>by
  simp only[nM]at h;cases a:fU c with
  |none=>grind
  |some y =>
   rw[a]at h;simp only[qr]at h;cases b:nM cs with
   |none=>grind
   |some ys=>rw[b]at h;cases h;simp[bT,UA θ c y a,Wj θ cs ys b]
end
def Uh{D:Nat->Prop}{θ:Th}{c:Li}{v:AV}(h:fU c=B1 v):VR D θ v c:=λ θ' _=>UA θ' c v h
def L9{t:M8}{z:AV}(h:zeroOf P t=B1 z):∃c,(zeroValue t).run P w=.ok c w /\ ∀D θ,VR D θ z c:=by
 unfold zeroOf at h;cases a:P.info? t with
 |none=>grind
 |some i =>
  rw[a]at h;simp only[qr]at h;cases b:i.zero with
  |none=>grind
  |some c=>simp_all[zeroValue,typeInfo,Uh]
end
section
variable{D:Nat->Prop}{θ:Th}
def VR.cells{v:AV}{c:Li}(h:VR D θ v c):bL D θ v.cells c.cells.toList:=by
 intro θ' ha;have a:=h θ' ha;subst a;cases v<;>simp[AV.cells,az,Li.cells,bT]
end
section
variable{P:JL}{D:Nat->Prop}{θ:Th}{ρ:MS->Li}{w:MV}
theorem bL.iQ{x:MS}{vs:List AV}(h:bL D θ vs ([x].map ρ)):∃v,vs=[v]/\VR D θ v (ρ x):=by
 cases vs with
 |nil=>have:=h.length;grind
 |cons v vs =>
  have⟨c,cs,a,d,b⟩:=h.eE;simp only[j6,Fo,zw]at a;obtain⟨rfl,rfl⟩:=a;have:=b.length
  grind
theorem bL.ta{x y:MS}{vs:List AV}(h:bL D θ vs ([x,y].map ρ)):∃a b,vs=[a,b]/\VR D θ a (ρ x)/\VR D θ b (ρ y):=by
 cases vs with
 |nil=>have:=h.length;grind
 |cons v vs =>
  have⟨c,cs,d,f,g⟩:=h.eE
  grind [bL.iQ]
def bL.sO{x y z:MS}{vs:List AV}(h:bL D θ vs ([x,y,z].map ρ)):∃a b c,vs=[a,b,c]/\VR D θ a (ρ x)/\VR D θ b (ρ y)/\VR D θ c (ρ z):=by
 cases vs with
 |nil=>have:=h.length;grind
 |cons v vs =>
  have⟨c,cs,d,f,g⟩:=h.eE
  grind [bL.ta]
def Θ{o:QI}{x:MS}(ho:o.op=.move x\/o.op=.assign x):dp P o [x] Op.move:=by
 intro D θ ρ w vs v h b;obtain⟨a,rfl,ha⟩:=bL.iQ h;simp only[Op.move,qk]at b;subst b;refine⟨ρ x,.inl ?_,ha⟩;rcases ho with ho|ho<;>simp[execOp,ho]
def xly{o:QI}{c a b:MS}(ho:o.op=.pick c a b):dp P o [c,a,b] Op.pick:=by
 intro D θ ρ w vs v h g;obtain⟨q,x,y,rfl,l,m,n⟩:=bL.sO h;unfold Op.pick at g;split at g
 .rename_i i p r heq;injection heq with j d;subst j;injection d with d f;subst d;injection f with f _;subst f
  cases g;have hb:ρ c=.bool i:=l.now.symm;cases i
  .exact ⟨ρ b,.inl (by simp[execOp,ho,hb,asBool]),n⟩
  .exact ⟨ρ a,.inl (by simp[execOp,ho,hb,asBool]),m⟩
 grind
def GD{o:QI}{op:UnOp}{t:M8}{x:MS}(ho:o.op=.unOp op t x):dp P o [x] (Op.un op):=by
 intro D θ ρ w vs v h b;obtain⟨a,rfl,ha⟩:=bL.iQ h;simp only[Op.un,_i]at b;have hr:=ha.now;split at b
 .rename_i k n;cases b;exact⟨_,.inl (by simp[execOp,ho,<-hr,az,Cs.unary,Cs.intArith]<;>rfl),.int _ _⟩
 .rename_i k n;simp only[gC]at b;cases b;exact⟨_,.inl (by simp[execOp,ho,<-hr,az,Cs.unary,Cs.intBits]<;>rfl),.int _ _⟩
 .cases b;exact⟨_,.inl (by simp[execOp,ho,<-hr,az,Cs.unary]),.bool _⟩
 grind
def xlz{o:QI}{src dst:M8}{x:MS}{k j:P0}(ho:o.op=.convert src dst x)(c:P.underlying src=B1 (.int j))(d:P.underlying dst=B1 (.int k)):dp P o [x] (Op.wrap k):=by
 intro D θ ρ w vs v h b;obtain⟨a,rfl,ha⟩:=bL.iQ h;have hr:=ha.now;unfold Op.wrap at b;split at b
 .rename_i k' n heq;cases heq;cases b;exact⟨_,.inl (by simp[execOp,ho,<-hr,az,convert,j8 c,j8 d,Conv.intToInt]<;>rfl),.int _ _⟩
 grind
def xco{o:QI}{t:M8}{x:MS}(ho:o.op=.makeInterface t x)(g:∃d,P.underlying t=B1 d/\(match d with| .interface _=>B2|_=>B4)=B4):dp P o [x] (Op.dC t):=by
 intro D θ ρ w vs v h b;obtain⟨a,rfl,ha⟩:=bL.iQ h;simp only[Op.dC,qk]at b;subst b;have⟨d,c,f⟩:=g;refine⟨.iface t (ρ x),.inl ?_,ha.iface⟩;cases d<;>simp_all[execOp,Instr.makeInterface,j8 c]
def xez{o:QI}{f:FuncId}{a b:Array MS}(ho:o.op=.makeFunc (.func f) a b):dp P o (a.toList++b.toList) (Op.bJ f a.size):=by
 intro D θ ρ w vs v h c;simp only[Op.bJ,qk]at c;subst c;refine⟨.func (.func f) (a.map ρ) (b.map ρ),.inl (by simp[execOp,ho,Instr.makeFunc]),λ θ' hg=>?_⟩;have d:=(h.take a.size) θ' hg;have g:=(h.drop a.size) θ' hg;simp only[az,fJ,d,g];congr 1
 .grind
 grind
def xcm{o:QI}{x:MS}{i:Nat}(ho:o.op=.extract x i):dp P o [x] (Op.extract i):=by
 intro D θ ρ w vs v h b;obtain⟨a,rfl,ha⟩:=bL.iQ h;unfold Op.extract at b;split at b
 .rename_i l heq;cases heq;have⟨cs,g,hl⟩:=ha.zV;rw[lC]at b;have⟨c,d,f⟩:=hl.ri b;exact⟨c,.inl (by simp[execOp,ho,g,Instr.extract,d]),f⟩
 grind
def MI{o:QI}{c:Call}{b:Builtin}(ho:o.op=.call c)(a:c.callee=.builtin b) :
 ∃consts,execOp ρ o=builtin b c.argTypes o.type consts (c.args.map ρ):=by
 refine⟨c.args.map λ| .const _=>B4|_=>B2,?_⟩
 grind [execOp,resolve,invoke]
def AW{c:Call}{xs:List MS}(a:c.args.toList=xs):c.args.map ρ = (xs.map ρ).toArray:=by
 grind
def bL.pS{xs:List MS}{a:AV}(h:bL D θ [a] (xs.map ρ)):∃x,xs=[x]/\VR D θ a (ρ x):=by
 have:=h.length
 match xs,this,h with
 |[x],_,h=>grind [bL.iQ]
def bL.rq{xs:List MS}{a b:AV}(h:bL D θ [a,b] (xs.map ρ)):∃x y,xs=[x,y]/\VR D θ a (ρ x)/\VR D θ b (ρ y):=by
 have:=h.length
 match xs,this,h with
 |[x,y],_,h =>
  grind [bL.ta]
theorem MP(s:List UInt8):(⟨s.toArray⟩:ByteArray).size=s.length:=by simp[ByteArray.size]
def xin{o:QI}{c:Call}{xs:List MS}{t e:M8}(ho:o.op=.call c)(f:c.callee=.builtin .len)(d:c.args.toList=xs)(b:c.argTypes[0]? = B1 t)
 (hu:P.underlying t=B1 (.slice e)):dp P o xs Op.db:=by
 intro D θ ρ w vs v h a;have⟨consts,he⟩:=MI (ρ:=ρ) ho f;unfold Op.db at a;split at a
 .obtain ⟨x,rfl,ha⟩:=h.pS;cases a;refine⟨_,.inl ?_,.int _ _⟩;rw[he,AW d];simp[builtin,D3,j8 hu,b,<-ha.now,az,goInt]<;>rfl
 .obtain ⟨x,rfl,ha⟩:=h.pS;cases a;refine⟨_,.inl ?_,.int _ _⟩;rw[he,AW d];simp[builtin,D3,j8 hu,b,<-ha.now,az,goInt]<;>rfl
 .obtain ⟨x,rfl,ha⟩:=h.pS;cases a;refine⟨_,.inl ?_,.int _ _⟩;rw[he,AW d];simp[builtin,D3,j8 hu,b,<-ha.now,az,goInt]<;>rfl
 .obtain ⟨x,rfl,ha⟩:=h.pS;cases a;refine⟨_,.inl ?_,.int _ _⟩;rw[he,AW d];simp[builtin,D3,j8 hu,b,<-ha.now,az,goInt]<;>rfl
 grind
def xhu{op:BinOp}{k:P0}{a b:Int}{v:AV}(hs:dZ op=B2)(h:gC op k a b=B1 v)(t:M8) :
 ∃c,(binOp op t (.int k a) (.int k b)).run P w=.ok c w/\VR D θ v c:=by
 cases op<;>simp only[gC,dZ,qk,BM,Lw,Nj,Bool.true_eq_false]at h hs
 case quo =>
  cases hb:(b == 0)<;>rw[hb]at h<;>simp at h;subst h;exact⟨_,by simp[binOp,Cs.intDiv,by simpa using hb]<;>rfl,.int _ _⟩
 case rem =>
  cases hb:(b == 0)<;>rw[hb]at h<;>simp at h;subst h;exact⟨_,by simp_all[binOp,Cs.intDiv],.int _ _⟩
 all_goals
  subst h
  first|refine⟨_,?_,VR.int _ _⟩|refine⟨_,?_,VR.bool _⟩
  simp only[binOp,ne_eq,not_true_eq_false,wh,Cs.intBits,Cs.intArith,Cs.intCmp];rfl
def xa3(a b:List UInt8):bytesLess a b=Cs.bytesLess a b:=by
 induction a generalizing b with
 |nil=>cases b<;>rfl
 |cons x a ih=>cases b with
  |nil=>rfl
  |cons y b =>
   simp only[bytesLess,Cs.bytesLess,ih,VH];congr 1;rw[Cg];simp[UInt8.lt_iff_toNat_lt]
def r_(s:List UInt8):(⟨s.toArray⟩:ByteArray).toList=s:=by rw[ByteArray.toList_eq]
def xi5{op:BinOp}{a b:List UInt8}{v:AV}(h:qN op a b=B1 v)(t:M8) :
 ∃c,(binOp op t (.string ⟨a.toArray⟩) (.string ⟨b.toArray⟩)).run P w=.ok c w/\VR D θ v c:=by
 cases op<;>simp only[qN,qk,reduceCtorEq,Ky,xa3]at h
 case add =>
  cases hb:Oa (a.length+b.length) 140737488355328<;>rw[hb]at h<;>simp at h;subst h;have hle:a.length+b.length<=140737488355328:=by simp_all
  refine⟨.string (⟨a.toArray⟩++⟨b.toArray⟩),?_,λ θ' _=>?_⟩
  .simp only[binOp,Cs.stringOp,MP,Sem.run_ite];rw[qv (by grind [P0.max,IntKind.bits])];rfl
  .show Li.string ⟨(a++b).toArray⟩=_;congr 1
 all_goals
  subst h;exact⟨_,by simp[binOp,Cs.stringOp]<;>rfl,.bool _⟩
def xgl{o:QI}{op:BinOp}{t p:M8}{x y:MS}(ho:o.op=.binOp op t x y p):dp P o [x,y] (Op.bin op):=by
 intro D θ ρ w vs v h d;obtain⟨a,b,rfl,ha,hb⟩:=bL.ta h;simp only[Op.bin,nT]at d;have g:=ha.now;have i:=hb.now;have guard:∀(u n:Li),(∀l,u≠ .agg l)->u≠ .nilIface->(eqGuard op t x y u n).run P w=.ok () w:=by
  intro u n q r;unfold eqGuard;cases u<;>cases op<;>simp_all
 split at d
 .rename_i k a k' b;cases hs:dZ op
  .rw [hs]at d;simp only[zo,Tm]at d
   by_cases hk:k=k'
   .subst hk;simp only[decide_true,xu]at d;have⟨c,m,j⟩:=xhu (P:=P) (w:=w) (D:=D) (θ:=θ) hs d t;refine⟨c,.inl ?_,j⟩;have hg:=guard (.int k a) (.int k b) (λ _=>by simp) (by simp);simp_all[execOp,az]
   grind
  .rw [hs]at d;simp only[xu,tu,Lw]at d
   by_cases f:b<0
   .grind
   .simp only[f,J1,zo]at d;have hg:=guard (.int k a) (.int k' b) (λ _=>by simp) (by simp);cases op<;>simp only[dZ,zm]at hs
    all_goals
     cases d;exact⟨_,.inl (by simp[execOp,ho,<-g,<-i,az,hg,binOp,Cs.shift,f]<;>rfl),.int _ _⟩
 .rename_i a b;have⟨c,m,j⟩:=xi5 (P:=P) (w:=w) (D:=D) (θ:=θ) d t;have hg:=guard (.string ⟨a.toArray⟩) (.string ⟨b.toArray⟩) (λ _=>by simp) (by simp);exact⟨c,.inl (by simp[execOp,ho,<-g,<-i,az,hg,m]),j⟩
 grind
end
end Go.Am
namespace Go.Am
section
variable{P:JL}{D:Nat->Prop}{θ:Th}{ρ:MS->Li}{w:MV}
def L6{t:M8}{l:List AV}{cs:List Li}{off:Nat}{n:Option Nat}{v:AV}(hn:og P t=B1 n)(hl:bL D θ l cs)(h:partAt l off n=B1 v) :
 ∃c,(part t cs.toArray off).run P w=.ok c w/\VR D θ v c:=by
 have⟨a,b⟩:=Tx (w:=w) hn;cases n with
 |none =>
  simp only[partAt,lC]at h;have⟨c,d,f⟩:=hl.ri h;simp_all[part]
 |some k =>
  simp only[partAt,uJ]at h;split at h
  .rename_i hk;cases h;refine⟨.agg ((cs.drop off).take k).toArray,?_,VR.agg ((hl.drop off).take k)⟩;have hlen:=hl.length;simp only[part,Ng,a,NB,vn,uE,b k rfl];simp_all
  grind
def Ul{i:Int}{n k:Nat}(h:within i n=B1 k):i=(k:Int)/\k<n:=by
 unfold within at h;cases i with
 |ofNat m =>
  grind [xP]
 |negSucc m=>cases h
def q62{o:QI}{t:M8}{x:MS}{i:Nat}{fs:Array Field}{f:Field}{n:Nat}(ho:o.op=.fieldAddr t x i)(j:P.underlying t=B1 (.struct fs))(g:fs[i]? = B1 f)(hn:bQ P f.type=B1 n)(a:n≠0) :
 dp P o [x] (Op.fieldAddr f.offset):=by
 intro D θ ρ w vs v h c;unfold Op.fieldAddr at c;split at c
 .rename_i b d;have⟨y,heq,ha⟩:=h.pS;injection heq with heq _;subst heq
  cases c;have hr:=ha.now;refine⟨.pointer (B1 ⟨θ.b9 b,θ.off b+d+f.offset,B5⟩),.inl ?_,λ θ' hg=>?_⟩
  .simp [execOp,ho,Instr.fieldAt,j8 j,g,<-hr,az,C9,fieldPlace,uj hn,a,xY]
  .have:=ha θ' hg
   grind [az]
 grind
def q95{o:QI}{t e:M8}{x i:MS}{len size:Nat}{n:Option Nat}(ho:o.op=.index t x i)(q:P.underlying t=B1 (.array len e))(hs:bQ P e=B1 size)(hn:og P e=B1 n) :
 dp P o [x,i] (Op.bE len size n):=by
 intro D θ ρ w vs v h b;unfold Op.bE at b;split at b
 .rename_i l k j;have⟨y,z,heq,ha,hb⟩:=h.rq;injection heq with d a;injection a with a _;subst d;subst a
  cases hw:within j len with
  |none=>grind
  |some m =>
   rw[hw]at b;obtain⟨rfl,p⟩:=Ul hw;have⟨cs,f,hl⟩:=ha.fq;have⟨c,d,a⟩:=L6 (w:=w) hn hl b;refine⟨c,.inl ?_,a⟩;have g:(0:Int)<=(m:Int)/\(m:Int)<(len:Int):=by omega
   simp[execOp,ho,Instr.index,j8 q,f,<-hb.now,az,asIntOf,g,uj hs,d];omega
 grind
def q97{o:QI}{t:M8}{x i:MS}(ho:o.op=.index t x i)(l:P.underlying t=B1 .string):dp P o [x,i] Op.bN:=by
 intro D θ ρ w vs v h a;unfold Op.bN at a;split at a
 .rename_i s k j;have⟨y,z,heq,ha,hb⟩:=h.rq;injection heq with f b;injection b with b _;subst f;subst b
  cases hw:within j s.length with
  |none=>grind
  |some m =>
   rw[hw]at a;obtain⟨rfl,c⟩:=Ul hw;simp only[qr,lC]at a;obtain⟨u,hu⟩:∃u,s[m]? = B1 u:=⟨_,xe c⟩
   rw[hu]at a;cases a;refine⟨.int .u8 u.toNat,.inl ?_,.int _ _⟩;have d:(0:Int)<=(m:Int):=by omega
   have hg:getElem? (⟨s.toArray⟩:ByteArray) m=B1 u:=by
    have n:m<(⟨s.toArray⟩:ByteArray).size:=by grind [MP]
    rw[getElem?_pos (⟨s.toArray⟩:ByteArray) m n];have g:=(qt.1 hu).2;simp only[qk];exact g
   simp[execOp,ho,Instr.index,j8 l,<-ha.now,<-hb.now,az,asIntOf,d,hg]
 grind
def q3q{x:AV}{c:Li}{size j b o:Nat}(h:VR D θ x c)(he:elemAt size x j=B1 (b,o)) :
 ∃n m,c=.slice (B1 ⟨θ.b9 b,θ.off b+o-j*size,B5⟩) n m/\j<n/\j*size<=o/\(∀θ',Ag D θ θ' -> θ'.b9 b = θ.b9 b /\ θ'.off b+o = θ.off b+o):=by
 have hr:=h.now;unfold elemAt at he;split at he
 .rename_i d o' n' i;cases hb:PM j n'<;>rw[hb]at he
  .cases he
  .simp only[xu,qk,zh]at he;obtain⟨rfl,rfl⟩:=he;refine⟨n',i,?_,by simp_all,by omega,λ θ' ha=>?_⟩
   .grind [az]
   .have:=h θ' ha;grind [az]
 .rename_i d f g p a n';cases hb:(PM j n' && I6 p size && PM (f+j) g)<;>rw[hb]at he
  .cases he
  .simp only[xu,qk,zh]at he;obtain⟨rfl,rfl⟩:=he;simp only[za,xP,jp]at hb;obtain⟨⟨l,rfl⟩,q⟩:=hb;refine⟨n',g-f + θ.ext d,?_,l,by omega,λ θ' ha=>?_⟩
   .rw [<-hr];simp only[az];grind
   .have:=h θ' ha;rw[<-hr]at this;simp only[az,BZ,qk,C5]at this
    grind
 grind
def xcn{o:QI}{t e:M8}{x i:MS}{size:Nat}(ho:o.op=.indexAddr t x i)(B:P.underlying t=B1 (.slice e))(hs:bQ P e=B1 size) :
 dp P o [x,i] (Op.aP size):=by
 intro D θ ρ w vs v h d;unfold Op.aP at d;split at d
 .rename_i a k j;have⟨y,z,heq,ha,hb⟩:=h.rq;injection heq with l g;injection g with g _;subst l;subst g
  cases hl:eR a with
  |none=>grind
  |some n0 =>
   rw[hl]at d;simp only[qr]at d;cases hw:within j n0 with
   |none=>grind
   |some m =>
    rw[hw]at d;simp only[qr]at d;obtain⟨rfl,u⟩:=Ul hw;cases he:elemAt size a m with
    |none=>grind
    |some p =>
     have⟨b,f⟩:=p;rw[he]at d;cases d;have⟨n,c,q,s,hle,A⟩:=q3q ha he;refine⟨.pointer (B1 ⟨θ.b9 b,θ.off b+f,B5⟩),.inl ?_,λ θ' hg=>?_⟩
     .have r:(0:Int)<=(m:Int)/\(m:Int)<(n:Int):=by omega
      have heq:θ.off b+f-m*size+m*size = θ.off b+f:=by omega
      simp[execOp,ho,Instr.indexAt,j8 B,q,<-hb.now,az,asIntOf,r,uj hs,xY,heq];omega
     grind [az]
 grind
def q96{o:QI}{t e:M8}{x i:MS}{len size:Nat}(ho:o.op=.indexAddr t x i)(n:P.underlying t=B1 (.array len e))(hs:bQ P e=B1 size) :
 dp P o [x,i] (Op.aR len size):=by
 intro D θ ρ w vs v h a;unfold Op.aR at a;split at a
 .rename_i b d k j;have⟨y,z,heq,ha,hb⟩:=h.rq;injection heq with f c;injection c with c _;subst f;subst c
  cases hw:within j len with
  |none=>grind
  |some m =>
   rw[hw]at a;cases a;obtain⟨rfl,l⟩:=Ul hw;have g:(0:Int)<=(m:Int)/\(m:Int)<(len:Int):=by omega
   refine⟨.pointer (B1 ⟨θ.b9 b,θ.off b+d+m*size,B5⟩),.inl ?_,λ θ' hg=>?_⟩
   .simp [execOp,ho,Instr.indexAt,j8 n,<-ha.now,<-hb.now,az,asIntOf,C9,g,uj hs,xY];omega
   .have:=ha θ' hg;rw[<-ha.now]at this
    grind [az]
 grind
def q98{o:QI}{x:MS}(ho:o.op=.nilCheck x):dp P o [x] Op.nilCheck:=by
 intro D θ ρ w vs v h b;obtain⟨a,rfl,ha⟩:=bL.iQ h;have hr:=ha.now;unfold Op.nilCheck at b;split at b
 .cases b
 .cases b
 .cases b
 .rename_i f d g heq;injection heq with heq;subst heq
  injection b with b;subst b
  exact⟨ρ x,.inl (by simp[execOp,ho,<-hr,az,fJ]),ha⟩
 .cases b
 .rename_i c i j l m n heq;injection heq with heq;subst heq
  injection b with b;subst b
  refine⟨ρ x,.inl ?_,ha⟩;have p:=hr.symm;clear hr ha h;cases a
  case nilp=>grind
  case nili=>grind
  case nilf=>grind
  case fn f' c b'=>grind
  all_goals simp_all[az,execOp]
 grind
def nB(off:Nat):∀(cs:List Li)(j:Nat)(arr:List Li),off+j+cs.length<=arr.length ->
 ((cs.zipIdx j).foldl (λ acc(p:Li×Nat)=>acc.setIfInBounds (off+p.2) p.1) arr.toArray)=(arr.take (off+j)++cs++arr.drop (off+j+cs.length)).toArray
 |[],j,arr,_=>by simp
 |c::cs,j,arr,h=>by
  simp only[List.zipIdx_cons,List.foldl_cons,List.setIfInBounds_toArray];rw[nB off cs (j+1) (arr.set (off+j) c) (by grind)];congr 1;have a:=list_seg_step arr (off+j) c cs (by simp at h⊢;omega)
  simpa[zZ]using a
theorem xk7(off:Nat)(cs:Array Li)(arr:List Li)(h:off+cs.size<=arr.length) :
 (cs.zipIdx.foldl (λ acc(p:Li×Nat)=>acc.setIfInBounds (off+p.2) p.1) arr.toArray)=(arr.take off++cs.toList++arr.drop (off+cs.size)).toArray:=by
 have:=nB off cs.toList 0 arr (by simpa using h);rw[<-Array.foldl_toList]
 simpa using this
def XM:∀(places:List (Nat×Nat))(vs:List AV)(parts:List (Nat×MS))(pl:Nat->Option (Nat×Nat))(out:List AV),
 EK pl parts=B1 places->bL D θ vs (parts.map λ p=>ρ p.2) -> ∀(cells:List AV)(a:List Li),bL D θ cells a->jB cells places vs=B1 out ->
 ∃cout:List Li,Instr.fill pl a.toArray (parts.map λ p=>(p.1,ρ p.2))=B1 cout.toArray/\bL D θ out cout:=by
 intro places vs parts
 induction parts generalizing places vs with
 |nil =>
  intro pl out hp m cells a f d;simp only[EK,qk]at hp;subst hp;have:vs=[]:=by have:=m.length;grind
  subst this;simp only[jB,qk]at d;subst d;exact⟨a,rfl,f⟩
 |cons p parts ih =>
  intro pl out hp m cells a f d;have⟨i,x⟩:=p;simp only[EK]at hp;cases h:pl i with
  |none=>grind
  |some q =>
   have⟨off,size⟩:=q;rw[h]at hp;simp only[qr]at hp;cases hr:EK pl parts with
   |none=>grind
   |some l =>
    rw[hr]at hp;cases hp;cases vs with
    |nil=>grind [jB]
    |cons v vs =>
     have⟨c,cs',n,o,r⟩:=m.eE;simp only[j6,zw]at n;obtain⟨rfl,rfl⟩:=n;simp only[jB,Gx]at d;cases hb:I6 v.cells.length size
     .grind
     .rw [hb]at d;simp only[xu,FA]at d;have b:=o.cells;have hlen:=b.length;have j:(ρ x).cells.size=size:=by simp_all
      split at d
      .rename_i hle;simp only[qr]at d;have t:=f.length;have g:bL D θ (cells.take off++v.cells++cells.drop (off+v.cells.length)) (a.take off++(ρ x).cells.toList++a.drop (off+v.cells.length)) :=
        ((f.take off).app b).app (f.drop _)
       have⟨cout,u,s⟩:=ih l vs pl out hr r _ _ g d;refine⟨cout,?_,s⟩;simp only[j6,Instr.fill,h];rw[qv (by simp only[List.size_toArray];rw[j];rw[<-Array.length_toList]at j;simp;omega)]
       grind [xk7]
      grind
def xlt(parts:Array (Nat×MS)):(parts.map λ(p:Nat×MS)=>(p.1,ρ p.2)).toList=parts.toList.map λ p=>(p.1,ρ p.2):=by simp
def xak(fs:Array Field)(a:∀f∈fs,∃n,bQ P f.type=B1 n) :
 ∃pl:Array (Nat×Nat),(fs.mapM λ(f:Field)=>(do pure (f.offset,<-sizeOf f.type):Sem (Nat×Nat))).run P w=.ok pl w /\ ∀i:Nat,pl[i]? = Nt P fs i:=by
 have key:∀l:List Field,(∀f∈l,∃n,bQ P f.type=B1 n) ->
  ∃pl:List (Nat×Nat),(l.mapM λ(f:Field)=>(do pure (f.offset,<-sizeOf f.type):Sem (Nat×Nat))).run P w=.ok pl w /\ ∀i:Nat,pl[i]? = (l[i]?).bind λ(f:Field)=>(bQ P f.type).bind λ n=>B1 (f.offset,n):=by
  intro l
  induction l with
  |nil=>simp_all
  |cons f l ih =>
   intro hl;have⟨n,hn⟩:=hl f (by simp);have⟨pl,b,c⟩:=ih (λ g hg=>hl g (by simp[hg]));refine⟨(f.offset,n)::pl,?_,λ i=>?_⟩
   .simp_all [uj]
   grind
 have⟨pl,b,c⟩:=key fs.toList (by grind);simp_all[Array.mapM_eq_mapM_toList,Nt]
def qxv{o:QI}{t:M8}{parts:Array (Nat×MS)}{z:AV}{fs:Array Field}{b:List (Nat×Nat)}(ho:o.op=.build t parts)(r:zeroOf P t=B1 z)
 (A:P.underlying t=B1 (.struct fs)) (a:∀f∈fs,∃n,bQ P f.type=B1 n) (hp:EK (Nt P fs) parts.toList=B1 b):dp P o (parts.toList.map (·.2)) (Op.build z.cells b):=by
 intro D θ ρ w vs v h c;have⟨u,s,d⟩:=L9 (w:=w) r;have⟨pl,x,l⟩:=xak (w:=w) fs a;unfold Op.build at c;cases g:jB z.cells b vs with
 |none=>grind
 |some out =>
  rw[g]at c;cases c;have j:bL D θ vs (parts.toList.map λ p=>ρ p.2):=by grind [Function.comp_def]
  have⟨cout,y,m⟩:=XM (ρ:=ρ) b vs parts.toList (Nt P fs) out hp j z.cells u.cells.toList (d D θ).cells g;refine⟨.agg cout.toArray,.inl ?_,VR.agg m⟩;have q:(λ i=>pl[i]?)=Nt P fs:=funext l;simp_all[execOp,Instr.build,j8]
def q0h{o:QI}{t e:M8}{parts:Array (Nat×MS)}{z:AV}{len n:Nat}{a:List (Nat×Nat)}(ho:o.op=.build t parts)(r:zeroOf P t=B1 z)
 (q:P.underlying t=B1 (.array len e)) (hn:bQ P e=B1 n) (hp:EK (KP n) parts.toList=B1 a):dp P o (parts.toList.map (·.2)) (Op.build z.cells a):=by
 intro D θ ρ w vs v h b;have⟨s,c,d⟩:=L9 (w:=w) r;unfold Op.build at b;cases f:jB z.cells a vs with
 |none=>grind
 |some out =>
  rw[f]at b;cases b;have g:bL D θ vs (parts.toList.map λ p=>ρ p.2):=by grind [Function.comp_def]
  have⟨cout,j,l⟩:=XM (ρ:=ρ) a vs parts.toList (KP n) out hp g z.cells s.cells.toList (d D θ).cells f;refine⟨.agg cout.toArray,.inl ?_,VR.agg l⟩;simp only[execOp,ho,Instr.build,Ng,c,NB,j8 q,uj hn];have e:(parts.map λ(p:Nat×MS)=>(p.1,ρ p.2)).toList=parts.toList.map λ p=>(p.1,ρ p.2):=by simp
  simp only[C6]at j;have m:(λ i=>B1 (i*n,n))=KP n:=rfl;simp_all
end
end Go.Am
namespace Go.Am
section
variable{P:JL}{D:Nat->Prop}{θ:Th}{ρ:MS->Li}{w:MV}
def nA(D:Nat->Prop)(θ:Th)(ρ:MS->Li):Option MS->Option AV->Prop
 |none,a=>a=B5
 |some x,a=>∃v,a=B1 v/\VR D θ v (ρ x)
def TT:∀(opts:List (Option MS))(pre rest:List AV),bL D θ rest ((kE opts).map ρ) -> ∀(j:Nat)(o:Option MS)(idx:Option Nat),opts[j]? = B1 o->(gB pre.length opts)[j]? = B1 idx ->
 ∀a,arg (pre++rest) idx=B1 a->nA D θ ρ o a
 |[],pre,rest,h,j,o,idx,ho,hi,a,ha=>by grind
 |none::opts,pre,rest,h,j,o,idx,ho,hi,a,ha=>by
  cases j with
  |zero =>
   simp only[gB,z4,qk]at ho hi;subst ho;subst hi;simp only[arg,qk]at ha;exact ha.symm
  |succ j=>exact TT opts pre rest h j o idx (by simpa using ho) (by simpa[gB]using hi) a ha
 |some x::opts,pre,rest,h,j,o,idx,ho,hi,a,ha=>by
  cases rest with
  |nil=>have:=h.length;grind [kE]
  |cons v rest =>
   have⟨c,cs,b,d,f⟩:=h.eE;simp only[kE,j6,zw]at b;obtain⟨rfl,rfl⟩:=b;cases j with
   |zero =>
    simp only[gB,z4,qk]at ho hi;subst ho;subst hi;simp only[arg,lC]at ha;rw[z7 (qm _)]at ha;simp at ha;exact⟨v,ha.symm,d⟩
   |succ j =>
    refine TT opts (pre ++ [v]) rest f j o idx (by simpa using ho) (by simpa[gB]using hi) a ?_
    simpa using ha
def Xd{o:Option MS}{a:Option AV}{d mx r:Nat}(h:nA D θ ρ o a)(hb:bound a d mx=B1 r) :
 (match o with
  |none=>r=d
  |some x=>(∀code y,mx<=y->(Instr.sliceBound (ρ x) y code).run P w=.ok r w)/\r<=mx):=by
 cases o with
 |none =>
  grind [nA,bound]
 |some x =>
  obtain⟨v,rfl,g⟩:=h;unfold bound at hb;split at hb
  .grind
  .rename_i k i heq;cases heq;cases hle:Oa i mx<;>rw[hle]at hb
   .cases hb
   .injection hb with hb;subst hb
    have b:i<=mx:=by simpa[tQ]using hle
    refine⟨λ code y j=>?_,b⟩;have c:(0:Int)<=(i:Int)/\(i:Int)<=(y:Int):=by omega
    have f:i<=y:=by omega
    simp[Instr.sliceBound,<-g.now,az,asIntOf,c]
  .cases hb
def OX{lo c mx:Option MS}{a b m:Option AV}{g:Bool}{len cap low M Y h l:Nat}(ha:nA D θ ρ lo a)(hb:nA D θ ρ c b)(hm:nA D θ ρ mx m)
 (i:(mx=B5/\M=cap) \/ ∃d,bound m d low=B1 M/\low<=cap/\mx.isSome=B4) (q:Y<=M) (n:bound b len Y=B1 h) (hl:bound a 0 h=B1 l) (o:mx.isSome=B4->c.isSome=B4) :
 (BL g len cap (lo.map ρ) (c.map ρ) (mx.map ρ)).run P w=.ok (l,h,M) w:=by
 have e2:=Xd (P:=P) (w:=w) hb n;have p:=Xd (P:=P) (w:=w) ha hl;cases mx with
 |none =>
  obtain⟨_,rfl⟩|⟨_,_,_,f⟩:=i
  .cases c with
   |none =>
    simp only at e2;subst e2;cases lo with
    |none=>simp_all[BL]
    |some x=>simp_all[BL]
   |some y =>
    cases lo with
    |none=>simp_all[BL]
    |some x=>simp_all[BL]
  grind
 |some z =>
  obtain⟨f,_⟩|⟨d,f,j,_⟩:=i
  .cases f
  .have e1:=Xd (P:=P) (w:=w) hm f;cases c with
   |none=>grind
   |some y =>
    cases lo with
    |none=>simp_all[BL]
    |some x=>simp_all[BL]
theorem xhg(v:AV)(d a:Nat){mx:Nat}:bound (B1 v) d mx=bound (B1 v) a mx:=by
 cases v<;>try rfl
 rename_i k n;cases n<;>rfl
def JH{o:Option MS}{a:Option AV}{d mx r:Nat}(h:nA D θ ρ o a)(hb:bound a d mx=B1 r)(b:d<=mx):r<=mx:=by
 cases o with
 |none=>grind [nA,bound]
 |some x =>
  obtain⟨v,rfl,c⟩:=h;unfold bound at hb;split at hb
  .grind
  .grind [tQ]
  grind
def xc4(lo a mx:Option MS):∃i j k,gB 0 [lo,a,mx]=[i,j,k]:=by cases lo<;>cases a<;>cases mx<;>simp[gB]
def q8b{size:Nat}{x:AV}{c:Li}{lo A mx:Option MS}{a b m:Option AV}{v:AV}(F:VR D θ x c)(ha:nA D θ ρ lo a)(hb:nA D θ ρ A b)(hm:nA D θ ρ mx m)(f:dQ size x a b m=B1 v) :
 ∃ad len cap l h M,c=.slice ad len cap/\(∀o,(BL o len cap (lo.map ρ) (A.map ρ) (mx.map ρ)).run P w=.ok (l,h,M) w) /\
  VR D θ v (.slice (if M=l then ad else ad.map (·.add (l*size))) (h-l) (M-l)):=by
 have hr:=F.now;unfold dQ at f;split at f
 .-- nil
  split at f
  .rename_i R;cases j:bound b 0 0 with
   |none=>grind
   |some h =>
    rw[j]at f;simp only[qr]at f;cases hl:bound a 0 h with
    |none=>grind
    |some l =>
     rw[hl]at f;cases f;have p:mx=none:=by
      cases mx with
      |none=>rfl
      |some z=>have⟨_,q,_⟩:=hm;cases q
     subst p;have G:h=0/\l=0:=by
      have S:=JH hb j (qm _);have T:=JH ha hl (xz _);omega
     obtain⟨rfl,rfl⟩:=G;refine⟨B5,0,0,0,0,0,hr.symm,λ o=>OX (low:=0) ha hb hm (by grind) (qm _) j hl (by simp),λ θ' _=>by simp[az]⟩
  grind
 .-- a slice of a known capacity
  rename_i bb oo n t;split at f
  .cases f
  .rename_i hnn;cases C:bound m t t with
   |none=>grind
   |some M =>
    rw[C]at f;simp only[qr]at f;cases j:bound b n M with
    |none=>grind
    |some h =>
     rw[j]at f;simp only[qr]at f;cases hl:bound a 0 h with
     |none=>grind
     |some l =>
      rw[hl]at f;cases f;have O:mx.isSome=B4->A.isSome=true:=by
       intro q;cases mx with
       |none=>cases q
       |some z =>
        have⟨_,X,_⟩:=hm;cases A with
        |some _=>rfl
        |none=>grind [nA]
      have I:(mx=B5/\M=t) \/ ∃d,bound m d t=B1 M/\t<=t/\mx.isSome=true:=by
       cases mx with
       |none=>grind [nA,bound]
       |some z=>grind
      refine⟨_,n,t,l,h,M,hr.symm,λ o=>OX ha hb hm I (qm _) j hl O,λ θ' hg=>?_⟩;have g:=F θ' hg;rw[<-hr]at g;simp only[az,BZ,qk,C5]at g⊢
      by_cases e:M=l
      .simp_all
      .have e':I6 M l=false:=by simp_all[Bool.eq_false_iff]
       grind [xY]
 .-- a grown row's slice
  rename_i bb i B s alt n;cases J:(I6 s size && Oa i B)<;>rw[J]at f
  .cases f
  .simp only[za,jp,tQ]at J;obtain⟨rfl,him⟩:=J;simp only[xu]at f;split at f
   .-- no third bound
    rename_i hi';have p:mx=none:=by
     cases mx with
     |none=>rfl
     |some z=>have⟨_,q,_⟩:=hm;cases q
    subst p;cases j:bound b n (B-i)with
    |none=>grind
    |some h =>
     rw[j]at f;simp only[qr]at f;cases hl:bound a 0 h with
     |none=>grind
     |some l =>
      rw[hl]at f;simp only[qr]at f;cases u:Oa h (B-i)<;>rw[u]at f
      .cases f
      .cases f;have Z:h<=B-i:=by simp_all
       have L:=JH ha hl (xz _);refine⟨_,n,_,l,h,_,hr.symm,λ o=>OX (low:=0) ha hb hm (.inl ⟨rfl,rfl⟩) (NS _ _) j hl (by simp),λ θ' hg=>?_⟩;have g:=F θ' hg;rw[<-hr]at g;simp only[az,BZ,qk,C5,tJ,Fq]at g;have⟨⟨q1,S⟩,T⟩:=g;have r:θ'.ext bb = θ.ext bb:=by omega
       have hmul:(i+l)*s=i*s+l*s:=vr i l s;simp only[az,BZ,Fq,r,hmul];refine⟨?_,by omega⟩
       by_cases e:B-i + θ.ext bb=l
       .rw [xg e,xg (by omega)];simp_all
       .rw [qv e,qv (by omega)];simp only[Ir,xY,qk,C5,tJ]
        grind
   .cases f
   .-- a third bound
    rename_i V W;cases C:bound m 0 (B-i)with
    |none=>grind
    |some M =>
     rw[C]at f;simp only[qr]at f;cases j:bound b 0 M with
     |none=>grind
     |some h =>
      rw[j]at f;simp only[qr]at f;cases hl:bound a 0 h with
      |none=>grind
      |some l =>
       rw[hl]at f;simp only[qr]at f;cases u:I6 M l<;>rw[u]at f
       .cases f;have N:M≠l:=by intro e;simp_all
        obtain⟨z,X,Q⟩:∃z,mx=B1 z /\ ∃v,m=B1 v:=by
         cases mx with
         |none=>grind [nA]
         |some z=>have⟨v,q,_⟩:=hm;grind
        have⟨mv,hmv⟩:=Q;have E:A.isSome=true:=by
         cases A with
         |some _=>rfl
         |none=>grind [nA]
        have U:=JH hm C (xz _);have Y:=JH hb j (xz _);have L:=JH ha hl (xz _);have K:bound b n M=B1 h:=by
         have⟨y,hy⟩:=Option.isSome_iff_exists.1 E;subst hy;have⟨bv,q,_⟩:=hb
         grind [xhg]
        refine⟨_,n,_,l,h,M,hr.symm,λ o=>OX ha hb hm (.inr ⟨0,C,NS _ _,by rw[X];rfl⟩) (qm _) K hl (λ _=>E),λ θ' hg=>?_⟩;have g:=F θ' hg;rw[<-hr]at g;simp only[az,BZ,qk,C5,tJ,Fq]at g;have⟨⟨q1,S⟩,T⟩:=g;have r:θ'.ext bb = θ.ext bb:=by omega
        have hmul:(i+l)*s=i*s+l*s:=vr i l s;simp only[az,BZ,tJ,hmul,qv N,Ir,xY,qk,C5]
        grind
       grind
 .-- a slice without room
  rename_i bb;split at f
  .rename_i R;cases j:bound b 0 0 with
   |none=>grind
   |some h =>
    rw[j]at f;simp only[qr]at f;cases hl:bound a 0 h with
    |none=>grind
    |some l =>
     rw[hl]at f;cases f;have p:mx=none:=by
      cases mx with
      |none=>rfl
      |some z=>have⟨_,q,_⟩:=hm;cases q
     subst p;have G:h=0/\l=0:=by
      have S:=JH hb j (qm _);have T:=JH ha hl (xz _);omega
     obtain⟨rfl,rfl⟩:=G;refine⟨_,0,0,0,0,0,hr.symm,λ o=>OX (low:=0) ha hb hm (by grind) (qm _) j hl (by simp),λ θ' hg=>?_⟩;rw[F θ' hg,<-hr];rfl
  grind
 grind
def xcq{o:QI}{t e:M8}{x:MS}{lo n mx:Option MS}{size:Nat}(ho:o.op=.slice t x lo n mx)(K:P.underlying t=B1 (.slice e))(hs:bQ P e=B1 size) :
 dp P o (x::kE [lo,n,mx]) (Op.aD size (gB 0 [lo,n,mx])):=by
 intro D θ ρ w vs v h f;have⟨i,j,k,s⟩:=xc4 lo n mx;rw[s]at f;unfold Op.aD at f;split at f
 .rename_i F E G y g heq;injection heq with e1 e2;injection e2 with e2 r;injection r with r _;subst e1;subst e2;subst r
  have⟨c,cs,p,z,C⟩:=h.eE;simp only[j6,zw]at p;obtain⟨rfl,rfl⟩:=p;have d:=λ(q:Nat)(B:Option MS)(idx:Option Nat)(p:[lo,n,mx][q]? = B1 B)(z:[i,j,k][q]? = B1 idx)=>TT [lo,n,mx] [] g C q B idx p (by grind);cases ha:arg g i with
  |none=>grind
  |some a =>
   rw[ha]at f;simp only[qr]at f;cases hb:arg g j with
   |none=>grind
   |some b =>
    rw[hb]at f;simp only[qr]at f;cases hm:arg g k with
    |none=>grind
    |some m =>
     rw[hm]at f;simp only[qr]at f;have⟨ad,len,cap,l,J,M,I,A,u⟩:=q8b (P:=P) (w:=w) z (d 0 lo i rfl rfl a ha) (d 1 n j rfl rfl b hb) (d 2 mx k rfl rfl m hm) f;refine⟨_,.inl ?_,u⟩;simp_all[execOp,Instr.sliceAt,j8,Instr.slice,uj]
 grind
def q99{o:QI}{t e:M8}{x:MS}{lo r mx:Option MS}{n size:Nat}(ho:o.op=.slice t x lo r mx)(O:P.underlying t=B1 (.array n e))(hs:bQ P e=B1 size) :
 dp P o (x::kE [lo,r,mx]) (Op.cK n size (gB 0 [lo,r,mx])):=by
 intro D θ ρ w vs v h f;have⟨i,j,k,C⟩:=xc4 lo r mx;rw[C]at f;unfold Op.cK at f;split at f
 .rename_i R N S p y g heq;injection heq with e1 e2;injection e2 with e2 B;injection B with B _;subst e1;subst e2;subst B
  have⟨c,cs,z,A,K⟩:=h.eE;simp only[j6,zw]at z;obtain⟨rfl,rfl⟩:=z;have d:=λ(q:Nat)(F:Option MS)(idx:Option Nat)(z:[lo,r,mx][q]? = B1 F)(A:[i,j,k][q]? = B1 idx)=>TT [lo,r,mx] [] g K q F idx z (by grind);cases ha:arg g i with
  |none=>grind
  |some a =>
   rw[ha]at f;simp only[qr]at f;cases hb:arg g j with
   |none=>grind
   |some b =>
    rw[hb]at f;simp only[qr]at f;cases hm:arg g k with
    |none=>grind
    |some m =>
     rw[hm]at f;simp only[qr]at f;have Q:VR D θ (.slice p y n n) (.slice (B1 ⟨θ.b9 p,θ.off p+y,B5⟩) n n):=λ θ' hg=>by
      have:=A θ' hg;rw[<-A.now]at this;grind [az]
     have⟨ad,len,cap,l,T,M,L,u,E⟩:=q8b (P:=P) (w:=w) Q (d 0 lo i rfl rfl a ha) (d 1 r j rfl rfl b hb) (d 2 mx k rfl rfl m hm) f;injection L with G I J;subst G;subst I;subst J
     refine⟨_,.inl ?_,E⟩;have s:=u B2;simp only[execOp,ho,Instr.sliceAt,Ng,j8 O,NB,<-A.now,az,C9,A9,s,uj hs]
     grind
 grind
def _t{mx:Bool}{k:P0}:∀(l:List AV)(cs:List Li)(a r:Int),bL D θ l cs->Op.iA mx a l=B1 r ->
 (cs.foldlM (λ x y=>if mx then Builtin.max2 x y else Builtin.min2 x y) (Li.int k a)).run P w=.ok (.int k r) w
 |[],cs,a,r,h,hg=>by
  have:=h.my;simp_all[Op.iA]
 |v::l,cs,a,r,h,hg=>by
  obtain⟨c,cs',rfl,f,hl⟩:=h.eE;cases v with
  |int k' b =>
   simp only[Op.iA]at hg;have g:=_t (mx:=mx) (k:=k) l cs' _ r hl hg;have d:=f.now;simp only[az]at d;subst d;simp only[Lw]at g;have s1:(Builtin.min2 (.int k a) (.int k' b)).run P w=.ok (.int k (if b<a then b else a)) w:=rfl;have s2:(Builtin.max2 (.int k a) (.int k' b)).run P w=.ok (.int k (if b > a then b else a)) w:=rfl;cases mx
   .simp only[List.foldlM_cons,zm,wh,Ng,s1,NB]
    grind
   .simp only[List.foldlM_cons,uE,Ng,s2,NB]
    grind
  |_=>grind [Op.iA]
def xey{o:QI}{c:Call}{xs:List MS}{mx:Bool}(ho:o.op=.call c)(m:c.callee=.builtin (if mx then .max else .min))(n:c.args.toList=xs):dp P o xs (Op.eU mx):=by
 intro D θ ρ w vs v h d;have⟨consts,he⟩:=MI (ρ:=ρ) ho m;unfold Op.eU at d;split at d
 .rename_i k a l;cases hg:Op.iA mx a l with
  |none=>rw[hg]at d;cases d
  |some r =>
   rw[hg]at d;cases d;have⟨p,cs',g,i,j⟩:=h.eE;have b:=_t (P:=P) (w:=w) (k:=k) l cs' a r j hg;have f:=i.now;simp only[az]at f;subst f;refine⟨.int k r,.inl ?_,.int _ _⟩;rw[he,AW n,g];cases mx
   .simp only[zm,wh]at b⊢;simp[builtin,Builtin.min_,b]
   simp_all[builtin,Builtin.max_]
 grind
def D5{o:QI}{c:Call}{f:FuncId}{fn:Func}{e:Array Li->Sem Li}(ho:o.op=.call c)(d:c.callee=.value (.func f))(h:ρ (.func f)=.func (.func f) #[] #[])(g:P.funcs[f]? = B1 fn)(hb:fn.body=B5)
 (hn:fn.name≠ "runtime.NumGoroutine") (a:Extern.findNext fn=B5) (b:Extern.find fn=B1 e) :
 (execOp ρ o).run P w=((e (c.args.map ρ)).run P w).andThen λ v w'=>.ok (.value v) w':=by
 simp[execOp,ho,resolve,d,h,Bj,invoke,callFunc,g,hb,hn,a,b]
def xdr(s:List UInt8):(Extern.Bytes.bytesOf (.string ⟨s.toArray⟩)).run P w=.ok ⟨s.toArray⟩ w:=rfl
def xhc(n:Int):(Extern.Bytes.asByte (.int .u8 n)).run P w=.ok (Bh n.toNat) w:=rfl
theorem xd7(c:UInt8)(s:List UInt8)(k:Nat):Ho c s k=((MT s.length).find? λ i=>s[i]! == c).map (·+k):=by
 induction s generalizing k with
 |nil=>rfl
 |cons x s ih =>
  simp only[Ho,VH,jd];rw[List.range_succ_eq_map,List.find?_cons];have hm:(List.find? (λ i=>(x::s)[i]! == c) (List.map Nat.succ (MT s.length)))=((MT s.length).find? λ i=>s[i]! == c).map Nat.succ:=by
   rw[List.find?_map];rfl
  rw[hm,ih (k+1)];have a:(x::s)[0]! = x:=rfl;rw[a];cases h:(x == c)
  .simp only[zo,Option.map_map];congr 1
   grind
  .simp
def zH(s:List UInt8)(i:Nat):(⟨s.toArray⟩:ByteArray)[i]! = s[i]!:=by
 by_cases h:i<s.length
 .have a:i<(⟨s.toArray⟩:ByteArray).size:=by grind [MP]
  rw[getElem!_pos (⟨s.toArray⟩:ByteArray) i a,getElem!_pos s i h];rfl
 grind [MP]
def xbs{P:JL}{w:MV}(s:List UInt8)(n:Int):(Extern.BytealgIndexByte.indexByte #[.string ⟨s.toArray⟩,.int .u8 n]).run P w =
 .ok (match(MT s.length).find? (λ i=>s[i]! == Bh n.toNat)with|some i=>goInt i|none=>goInt (-1)) w:=by
 change Sem.run P (Extern.Bytes.bytesOf (.string ⟨s.toArray⟩) >>= _) w=_;rw[Ng,xdr];change Sem.run P (Extern.Bytes.asByte (.int .u8 n) >>= _) w=_;rw[Ng,xhc];have a:(λ i=>(⟨s.toArray⟩:ByteArray)[i]! == Bh n.toNat)=(λ i=>s[i]! == Bh n.toNat):=funext λ i=>by rw[zH]
 simp only[NB,MP,a];cases(MT s.length).find? (λ i=>s[i]! == Bh n.toNat)<;>rfl
def qr9{o:QI}{c:Call}{f:FuncId}{fn:Func}{xs:List MS}(ho:o.op=.call c)(l:c.callee=.value (.func f))(m:P.funcs[f]? = B1 fn)(hb:fn.body=B5)
 (hn:fn.name≠ "runtime.NumGoroutine") (g:Extern.findNext fn=B5) (j:Extern.find fn=B1 Extern.BytealgIndexByte.indexByte) (p:c.args.toList=xs) :
 ∀(D:Nat->Prop)θ(ρ:MS->Li)w vs v,ρ (.func f)=.func (.func f) #[] #[]->bL D θ vs (xs.map ρ)->Op.aC vs=B1 v -> ∃c,sI P (execOp ρ o) w c w/\VR D θ v c:=by
 intro D θ ρ w vs v q h b;unfold Op.aC at b;split at b
 .rename_i s n;obtain⟨x,y,rfl,ha,a⟩:=h.rq;cases b;refine⟨_,.inl ?_,.int _ _⟩;rw[D5 ho l q m hb hn g j,AW p];have d:(λ i=>(⟨s.toArray⟩:ByteArray)[i]! == Bh n.toNat)=(λ i=>s[i]! == Bh n.toNat):=funext λ i=>by rw[zH]
  simp only[j6,Fo,<-ha.now,<-a.now,az,xbs,NB]
  grind [xd7,goInt]
 grind
def xlx{o:QI}(xs:List MS):dp P o xs Op.fail:=by
 intro D θ ρ w vs v _ a;cases a
end
end Go.Am
namespace Go.Am
def qL(P:JL)(o:QI)(xs:List MS)(f:List AV->ar->Option AV):Prop :=
 ∀(base:Nat)(D:Nat->Prop)θ H(ρ:MS->Li)w vs v,HR P base D θ H w->bL D θ vs (xs.map ρ)->f vs H=B1 v -> ∃c,sI P (execOp ρ o) w c w/\VR D θ v c
section
variable{P:JL}
def xio{o:QI}{t:M8}{x:MS}(ho:o.op=.load t x)(j:og P t=B1 B5):qL P o [x] Op.ae:=by
 intro base D θ H ρ w vs v i h a;unfold Op.ae at a;split at a
 .rename_i b off;have⟨l,he,ha⟩:=h.pS;simp only[zw,tJ]at he;subst he;have⟨c,f,g⟩:=i.ae a;refine⟨c,.inl ?_,g⟩;have⟨d,_⟩:=Tx (w:=w) j;simp only[execOp,ho,<-ha.now,az,Instr.loadAt,C9,loadVar,Ng,A9,NB,d,Nr,zm,wh,f]
 grind
def xip{o:QI}{t:M8}{x:MS}{n:Nat}(ho:o.op=.load t x)(j:og P t=B1 (B1 n)):qL P o [x] (Op.aq n):=by
 intro base D θ H ρ w vs v i h a;unfold Op.aq at a;split at a
 .rename_i b off;have⟨m,he,ha⟩:=h.pS;simp only[zw,tJ]at he;subst he;cases hl:H.aq b off n with
  |none=>grind
  |some l =>
   rw[hl]at a;cases a;have⟨cs,f,g,_⟩:=i.aq hl;refine⟨.agg cs.toArray,.inl ?_,.agg g⟩;have⟨c,d⟩:=Tx (w:=w) j;simp only[execOp,ho,<-ha.now,az,Instr.loadAt,C9,loadVar,Ng,A9,NB,c,d n rfl,vn,uE,f]
 grind
theorem HR.eX{base:Nat}{D:Nat->Prop}{θ:Th}{H:ar}{w:MV}(h:HR P base D θ H w){b:Nat}{m:List (AV×AV×Nat)×Nat}(hb:H.eX b=B1 m) :
 H.get b=B1 (.map m.1 m.2)/\D b /\ ∃ms:List Bq,w.heap[θ.b9 b]? = B1 (.map ms.toArray m.2)/\du D θ m.1 ms:=by
 unfold ar.eX at hb;cases hg:H.get b with
 |none=>grind
 |some o =>
  rw[hg]at hb;have⟨f,co,d,hr⟩:=h.obj b o hg;cases o<;>simp only[reduceCtorEq,qk]at hb;subst hb;have⟨ms,a,c⟩:=hr
  grind
def ML{w:MV}{r:Nat}{ms:Array Bq}{c:Nat}(h:w.heap[r]? = B1 (.map ms c)):(getObj r).run P w=.ok (.map ms c) w:=by
 simp[getObj,Sem.run,h]
def du.length{D:Nat->Prop}{θ:Th}:∀(es:List (AV×AV×Nat))(ms:List Bq),du D θ es ms->es.length=ms.length
 |[],[],_=>rfl
 |_::es,_::ms,⟨_,h⟩=>by simp[du.length es ms h]
 |[],_::_,h=>h.elim
 |_::_,[],h=>h.elim
def VR.isAgg{D:Nat->Prop}{θ:Th}{l:List AV}{c:Li}(h:VR D θ (.agg l) c):∃cs:List Li,c=.agg cs.toArray/\bL D θ l cs:=h.fq
def xd5{t:M8}{fs:Array Field}(h:P.underlying t=B1 (.struct fs)):P.fieldsOf t=fs:=by
 simp[JL.fieldsOf,h]
def xho{x y:AV}{r:Bool}(h:bm .int x y=B1 r):∃k a b,x=.int k a/\y=.int k b/\r=(a == b):=by
 cases x<;>cases y<;>simp only[bm,reduceCtorEq]at h;rename_i k a k' b;cases hk:tf k k' with
 |false=>grind
 |true =>
  rw[hk]at h;simp only[xu,qk]at h;have:k=k':=by simpa[Tm]using hk
  subst this
  grind [BM]
def xhp{x y:AV}{r:Bool}(h:bm .str x y=B1 r):∃a b,x=.str a/\y=.str b/\r=(a == b):=by
 cases x<;>cases y<;>simp only[bm,reduceCtorEq,qk]at h
 grind [Ky]
def xd3{x y:AV}{r:Bool}(h:bm .bool x y=B1 r):∃a b,x=.bool a/\y=.bool b/\r=(a == b):=by
 cases x<;>cases y<;>simp only[bm,reduceCtorEq,qk]at h
 grind
theorem TZ{off:Nat}{n:Option Nat}{t rest:aS}{x y:AV}{r:Bool}(h:bm (.part off n t rest) x y=B1 r) :
 ∃l c a b q,x=.agg l/\y=.agg c/\partAt l off n=B1 a/\partAt c off n=B1 b/\bm t a b=B1 q/\(q=B4->bm rest (.agg l) (.agg c)=B1 r)/\(q=B2->r=B2):=by
 cases x<;>cases y<;>simp only[bm,reduceCtorEq]at h
 grind [qj]
theorem Td{x y:AV}{r:Bool}(h:bm .nil x y=B1 r):r=B4/\(∃l,x=.agg l)/\(∃l,y=.agg l):=by
 cases x<;>cases y<;>simp only[bm,reduceCtorEq,qk]at h
 grind
def q7u(s:Nat)(a:Option Nat)(q:aS)(n i:Nat){x y:AV}{r:Bool}(h:bm (dB.itemsT s a q n i) x y=B1 r):(∃l,x=.agg l)/\(∃l,y=.agg l):=by
 cases n with
 |zero=>exact(Td h).2
 |succ n=>have⟨l,d,_,_,_,b,c,_⟩:=TZ h;grind
def q3u{go:M8->Option aS}{fs:List Field}{q:aS}(a:dB.fieldsT P go fs=B1 q){x y:AV}{r:Bool}(h:bm q x y=B1 r):(∃l,x=.agg l)/\(∃l,y=.agg l):=by
 cases fs with
 |nil=>cases a;grind [Td]
 |cons f fs =>
  simp only[dB.fieldsT]at a;split at a
  .cases a
  .simp only[qj]at a
   grind [TZ]
def BX(P:JL)(w:MV)(D:Nat->Prop)(θ:Th)(m:Nat)(t:M8)(q:aS):Prop :=
 ∀(x y:AV)(cx cy:Li)(r:Bool),VR D θ x cx->VR D θ y cy->bm q x y=B1 r->(BP m t cx cy).run P w=.ok r w
def μ{w:MV}{D:Nat->Prop}{θ:Th}{m:Nat}{go:M8->Option aS}(o:∀t q,go t=B1 q->BX P w D θ m t q){l p:List AV}{cs cs':List Li}(hl:bL D θ l cs)(d:bL D θ p cs') :
 ∀(fs:List Field)(q:aS)(r:Bool),dB.fieldsT P go fs=B1 q->bm q (.agg l) (.agg p)=B1 r->(Op.eqFields m cs.toArray cs'.toArray fs).run P w=.ok r w
 |[],q,r,b,h=>by
  cases b;rw[(Td h).1];simp[Op.eqFields]
 |f::fs,q,r,b,h=>by
  simp only[dB.fieldsT]at b;split at b
  .cases b
  .rename_i hn;simp only[qj]at b;have⟨a,ha,F,j,G,n,b⟩:=b;cases b;have⟨l1,l2,x,y,e,g,i,u,v,z,A,I⟩:=TZ h;injection g with g;injection i with i;subst g;subst i
   have⟨c,B,v1⟩:=L6 (w:=w) ha hl u;have⟨s,C,v2⟩:=L6 (w:=w) ha d v;have E:=o f.type F j x y c s e v1 v2 z;simp only[Op.eqFields,hn,ne_eq,not_false_eq_true,uE,Ng,B,C,E,NB];cases e
   .simp_all
   .simpa using μ o hl d fs G r n (A rfl)
def X_{w:MV}{D:Nat->Prop}{θ:Th}{m:Nat}{e:M8}{s:Nat}{a:Option Nat}{q:aS}(ha:og P e=B1 a)(j:BX P w D θ m e q){l o:List AV}{cs cs':List Li}(hl:bL D θ l cs)(d:bL D θ o cs') :
 ∀(n i:Nat)(r:Bool),bm (dB.itemsT s a q n i) (.agg l) (.agg o)=B1 r->(Op.eqItems m e s cs.toArray cs'.toArray (List.range' i n)).run P w=.ok r w
 |0,i,r,h=>by rw[(Td h).1];simp[Op.eqItems]
 |n+1,i,r,h=>by
  have⟨l1,l2,x,y,b,f,g,t,u,v,z,E⟩:=TZ h;injection f with f;injection g with g;subst f;subst g
  have⟨c,A,v1⟩:=L6 (w:=w) ha hl t;have⟨p,B,v2⟩:=L6 (w:=w) ha d u;have C:=j x y c p b v1 v2 v;simp only[List.range'_succ,Op.eqItems,Ng,A,B,C,NB];cases b
  .simp_all
  .simpa using X_ ha j hl d n (i+1) r (z rfl)
def Sn(m:Nat){D:Nat->Prop}{θ:Th}(w:MV):∀(d:Nat)(t:M8)(q:aS),dB P d t=B1 q->BX P w D θ (d+m) t q
 |0,_,_,h=>by cases h
 |d+1,t,q,h=>by
  intro x y G I r g j hr;unfold dB at h;have v:d+1+m=(d+m)+1:=by omega
  rw[v];cases hu:P.underlying t with
  |none=>grind
  |some kd =>
   rw[hu]at h;cases kd
   case int k0 =>
    cases h;obtain⟨k,a,b,rfl,rfl,rfl⟩:=xho hr;rw[<-g.now,<-j.now,az,az,run_equalIn_int w _ t k k0 a b hu]
   case string =>
    cases h;obtain⟨a,b,rfl,rfl,rfl⟩:=xhp hr;rw[<-g.now,<-j.now,az,az,run_equalIn_string w _ t _ _ hu,r_,r_]
   case bool =>
    cases h;obtain⟨a,b,rfl,rfl,rfl⟩:=xd3 hr;rw[<-g.now,<-j.now,az,az,run_equalIn_bool' w _ t _ _ hu]
   case struct fs =>
    simp only at h;split at h
    .cases h
    .rename_i p;have f:P.stoodInHeld t=false:=by simpa using p
     obtain⟨⟨l,rfl⟩,⟨E,rfl⟩⟩:=q3u h hr;obtain⟨cs,rfl,hl⟩:=g.fq;obtain⟨cs',rfl,c⟩:=j.fq;have u:=xd5 hu;rw[run_equalIn_struct w _ t _ _ (by rw[u];exact hu) f,u];exact μ (λ t q C=>Sn m w d t q C) hl c _ _ _ h hr
   case array n e =>
    simp only[qj]at h;have⟨s,hs,a,ha,F,o,h⟩:=h;cases h;obtain⟨⟨l,rfl⟩,⟨E,rfl⟩⟩:=q7u _ _ _ _ _ hr;obtain⟨cs,rfl,hl⟩:=g.fq;obtain⟨cs',rfl,c⟩:=j.fq;have⟨i,A,B⟩:=ZZ hs;rw[run_equalIn_array _ _ _ _ hu A,List.range_eq_range'];have z:P.cellsOf e=s:=by grind [JL.cellsOf]
    rw[z];exact X_ ha (Sn m w d e F o) hl c n 0 r hr
   all_goals grind
theorem Ug{off:Nat}{n:Option Nat}{t rest:aS}{x:AV}(h:cZ (.part off n t rest) x=B4) :
 ∃l a,x=.agg l/\partAt l off n=B1 a/\cZ t a=B4/\cZ rest (.agg l)=true:=by
 cases x<;>simp only[cZ,zm]at h
 grind
def q70{x:AV}(h:cZ .nil x=B4):∃l,x=.agg l:=by
 cases x<;>simp only[cZ,zm]at h
 grind
def xev(s:Nat)(a:Option Nat)(q:aS)(n i:Nat){x:AV}(h:cZ (dB.itemsT s a q n i) x=B4):∃l,x=.agg l:=by
 cases n with
 |zero=>exact q70 h
 |succ n=>have⟨l,_,b,_⟩:=Ug h;grind
def xcg{go:M8->Option aS}{fs:List Field}{q:aS}(a:dB.fieldsT P go fs=B1 q){x:AV}(h:cZ q x=B4):∃l,x=.agg l:=by
 cases fs with
 |nil=>cases a;exact q70 h
 |cons f fs =>
  simp only[dB.fieldsT]at a;split at a
  .cases a
  .simp only[qj]at a
   grind [Ug]
def JI(P:JL)(w:MV)(D:Nat->Prop)(θ:Th)(em:Bool)(m:Nat)(t:M8)(q:aS):Prop :=
 ∀(x:AV)(cx:Li),VR D θ x cx->cZ q x=B4->(Bk em m t cx).run P w=.ok () w
def q5a{w:MV}{D:Nat->Prop}{θ:Th}{em:Bool}{m:Nat}{e:M8}{s:Nat}{a:Option Nat}{q:aS}(ha:og P e=B1 a)(hs:bQ P e=B1 s)(b:JI P w D θ em m e q){l:List AV}{cs:List Li}(hl:bL D θ l cs) :
 ∀(n i:Nat),cZ (dB.itemsT s a q n i) (.agg l)=B4 ->
  (forIn (List.range' i n) PUnit.unit (λ i _=>(do Bk em m e (<-part e cs.toArray (i*(<-sizeOf e)));pure (ForInStep.yield PUnit.unit):Sem (ForInStep PUnit)))).run P w=.ok PUnit.unit w
 |0,i,h=>by simp
 |n+1,i,h=>by
  have⟨l1,x,d,f,g,j⟩:=Ug h;cases d;have⟨c,o,v1⟩:=L6 (w:=w) ha hl f;have p:=b x c v1 g;simp only[List.range'_succ,List.forIn_cons,Ng,uj hs,o,p,NB,A9]
  simpa using q5a ha hs b hl n (i+1) j
def WL(em:Bool)(m:Nat){D:Nat->Prop}{θ:Th}(w:MV):∀(d:Nat)(t:M8)(q:aS),dB P d t=B1 q->JI P w D θ em (d+m) t q
 |0,_,_,h=>by cases h
 |d+1,t,q,h=>by
  intro x B j hr;unfold dB at h;have o:d+1+m=(d+m)+1:=by omega
  rw[o];cases hu:P.underlying t with
  |none=>grind
  |some kd =>
   rw[hu]at h;cases kd
   case int k0=>simp[Bk,j8 hu]
   case string=>simp[Bk,j8 hu]
   case bool=>simp[Bk,j8 hu]
   case struct fs =>
    simp only at h;split at h
    .cases h
    .obtain ⟨l,rfl⟩:=xcg h hr;obtain⟨cs,rfl,hl⟩:=j.fq;simp only[Bk,Ng,j8 hu,NB];rw[<-Array.forIn_toList];clear hu;generalize fs.toList=L at h
     induction L generalizing q with
     |nil=>simp
     |cons f L ihL =>
      simp only[dB.fieldsT]at h;split at h
      .cases h
      .rename_i hn;simp only[qj]at h;have⟨a,ha,i,b,A,g,h⟩:=h;cases h;have⟨l1,x,p,r,u,v⟩:=Ug hr;cases p;have⟨c,y,v1⟩:=L6 (w:=w) ha hl r;have z:=WL em m w d f.type i b x c v1 u;simp only[List.forIn_cons,Ng,hn,ne_eq,not_false_eq_true,uE,NB,y,z,A9];exact ihL A v g
   case array n e =>
    simp only[qj]at h;have⟨s,hs,a,ha,i,b,h⟩:=h;cases h;obtain⟨l,rfl⟩:=xev _ _ _ _ _ hr;obtain⟨cs,rfl,hl⟩:=j.fq;have:=q5a (w:=w) (em:=em) ha hs (WL em m w d e i b) hl n 0 hr;simp_all[Bk,j8]
   all_goals grind
def WG{em:Bool}{D:Nat->Prop}{θ:Th}{w:MV}{t:M8}{q:aS}(h:pR P t=B1 q){x:AV}{a:Li}(b:VR D θ x a)(hr:cZ q x=B4) :
 (Bk em 10000 t a).run P w=.ok () w:=WL em 9980 w 20 t q h x a b hr
def Ee{D:Nat->Prop}{θ:Th}{w:MV}{t:M8}{q:aS}(h:pR P t=B1 q){x y:AV}{a b:Li}{r:Bool}(c:VR D θ x a)(d:VR D θ y b)(hr:bm q x y=B1 r) :
 (D2 t a b).run P w=.ok r w:=Sn 9980 w 20 t q h x y a b r c d hr
def Je(D:Nat->Prop)(θ:Th):Option (Nat×AV)->Option (Nat×Li)->Prop
 |none,B5=>True
 |some (i,v),B1 (j,c)=>i=j/\VR D θ v c
 |_,_=>False
def V1{D:Nat->Prop}{θ:Th}{w:MV}{t:M8}{q:aS}(h:pR P t=B1 q){k:AV}{d:Li}(hk:VR D θ k d) :
 ∀(es:List (AV×AV×Nat))(ms:List Bq)(i:Nat)(r:Option (Nat×AV)),du D θ es ms->findKey q k es i=B1 r ->
  ∃a,(BQ t d ms i).run P w=.ok a w/\Je D θ r a
 |[],[],i,r,_,hr=>by
  simp only[findKey,qk]at hr;subst hr;exact⟨B5,by simp[BQ],trivial⟩
 |(k',v,b)::es,e::ms,i,r,⟨⟨h1,h2,_⟩,hes⟩,hr=>by
  simp only[findKey,qj]at hr;have⟨c,j,hr⟩:=hr;have:=Ee (w:=w) h hk h1 j;cases c
  .have ⟨a,f,g⟩:=V1 (w:=w) h hk es ms (i+1) r hes hr;exact⟨a,by simp[BQ,this,f],g⟩
  .simp only[xu,qk]at hr;subst hr;exact⟨B1 (i,e.val),by simp[BQ,this],rfl,h2⟩
 |[],_::_,_,_,h,_=>h.elim
 |_::_,[],_,_,h,_=>h.elim
def xe4{t:M8}{d:TypeDesc}(hu:P.underlying t=B1 d){x y:Li}{b:Bool}(h:Instr.sameNow d x y=B1 b)(w:MV):(D2 t x y).run P w=.ok b w:=by
 unfold Instr.sameNow at h;split at h
 .rename_i k a k' c;split at h
  .rename_i hk;subst hk;cases h;exact run_equalIn_int w _ t _ _ _ _ hu
  grind
 .cases h;show(BP (9999+1) t _ _).run P w=_
  grind [run_equalIn_string,beq_toListBytes]
 .cases h;exact run_equalIn_bool' w _ t _ _ hu
 grind
def q3w{t:M8}{d:TypeDesc}(hu:P.underlying t=B1 d){c:Li}(w:MV):∀(ms:List Bq)(i:Nat)(r a:Option (Nat×Li)),
 Cc d c ms i=B1 r->(BQ t c ms i).run P w=.ok a w->r=a
 |[],i,r,a,h,h'=>by
  simp_all[Cc,BQ]
 |e::ms,i,r,a,h,h'=>by
  simp only[Cc]at h;cases hs:Instr.sameNow d c e.key with
  |none=>grind
  |some b =>
   rw[hs]at h;have:=xe4 hu hs w;cases b
   .simp [BQ,this]at h';exact q3w hu w ms (i+1) r a h h'
   simp_all[BQ]
def A0{D:Nat->Prop}{θ:Th}{w:MV}{t:M8}{q:aS}(h:pR P t=B1 q){k:AV}{b:Li}(hk:VR D θ k b){es:List (AV×AV×Nat)}{ms:List Bq}{r:Option (Nat×AV)}
 (c:du D θ es ms) (hr:findKey q k es 0=B1 r):∃a,(Cz t b ms).run P w=.ok a w/\Je D θ r a:=by
 have⟨a,f,g⟩:=V1 (w:=w) h hk es ms 0 r c hr;have hu:∃d,P.underlying t=B1 d:=by
  grind [pR,dB]
 have⟨d,hu⟩:=hu;refine⟨a,?_,g⟩;simp only[Cz,Ng,j8 hu,NB];cases hn:Cc d b ms 0 with
 |none=>simpa using f
 |some r2=>simp[q3w hu w ms 0 r2 a hn f]
def xe1{o:QI}{t u e:M8}{E kk:MS}{ok:Bool}{q:aS}{z:AV}(ho:o.op=.lookup t E kk ok)(hu:P.underlying t=B1 (.map u e))(B:pR P u=B1 q)(J:zeroOf P e=B1 z) :
 qL P o [E,kk] (Op.lookup q z ok):=by
 intro base D θ H ρ w vs v I h a;have⟨A,f,g⟩:=L9 (w:=w) J;unfold Op.lookup at a;split at a
 .rename_i k;have⟨x,y,he,ha,hb⟩:=h.rq;simp only[zw,tJ]at he;obtain⟨rfl,rfl⟩:=he;cases c:cZ q k with
  |false=>grind
  |true =>
   rw[c]at a;simp only[xu,qk]at a;have j:=λ em=>WG (em:=em) (w:=w) B hb c;have C:(Cz u (ρ kk) []).run P w=.ok B5 w:=by
    have hu:∃d,P.underlying u=B1 d:=by
     grind [pR,dB]
    have⟨d,hu⟩:=hu;simp[Cz,j8 hu,Cc]
   subst a;cases ok
   .refine ⟨A,.inl ?_,g _ _⟩;simp[execOp,ho,CX,j8 hu,<-ha.now,az,j,C,f]
   .refine ⟨.tuple [A,.bool B2].toArray,.inl ?_,.tuple (.cons (g _ _) (.one (.bool _)))⟩;simp[execOp,ho,CX,j8 hu,<-ha.now,az,j,C,f]
 .rename_i b k;have⟨x,y,he,ha,hb⟩:=h.rq;simp only[zw,tJ]at he;obtain⟨rfl,rfl⟩:=he;cases c:cZ q k with
  |false=>grind
  |true =>
   rw[c]at a;simp only[xu,qj]at a;have⟨m,hm,r,hr,a⟩:=a;have⟨_,_,ms,s,G⟩:=I.eX hm;have j:=λ em=>WG (em:=em) (w:=w) B hb c;have⟨F,n,l⟩:=A0 (w:=w) B hb G hr;cases r with
   |none =>
    cases F with
    |some _=>exact l.elim
    |none =>
     simp only[qk]at a;subst a;cases ok
     .refine ⟨A,.inl ?_,g _ _⟩;simp[execOp,ho,CX,j8 hu,<-ha.now,az,j,n,f,ML s]
     .refine ⟨.tuple [A,.bool B2].toArray,.inl ?_,.tuple (.cons (g _ _) (.one (.bool _)))⟩;simp[execOp,ho,CX,j8 hu,<-ha.now,az,j,n,f,ML s]
   |some p =>
    have⟨i,pv⟩:=p;cases F with
    |none=>exact l.elim
    |some p' =>
     have⟨K,pc⟩:=p';have⟨_,l⟩:=l;simp only[qk]at a;subst a;cases ok
     .refine ⟨pc,.inl ?_,l⟩;simp[execOp,ho,CX,j8 hu,<-ha.now,az,j,n,ML s]
     .refine ⟨.tuple [pc,.bool B4].toArray,.inl ?_,.tuple (.cons l (.one (.bool _)))⟩;simp[execOp,ho,CX,j8 hu,<-ha.now,az,j,n,ML s]
 grind
end
end Go.Am
namespace Go.Am
section
variable{P:JL}{base:Nat}{D:Nat->Prop}{θ:Th}{H:ar}{w:MV}
def isStr:AV->Bool
 | .str _=>B4
 |_=>B2
def YN(g:HR P base D θ H w){x:AV}{c:Li}{size n k:Nat}{l:List AV}(d:VR D θ x c)(hk:eR x=B1 k)(hn:n<=k)(hs:isStr x=B2)
 (h:firstCells H size n x=B1 l):∃a len cap,c=.slice a len cap/\len=k/\((a=B5/\l=[]/\n=0/\k=0) \/
  ∃ad cs,a=B1 ad/\(loadCells ad (n*size)).run P w=.ok cs.toArray w/\bL D θ l cs/\l.length=n*size):=by
 have t:∀a,(loadCells a 0).run P w=.ok ([]:List Li).toArray w:=λ a=>rfl;cases x<;>simp only[eR,reduceCtorEq,qk]at hk
 case str s=>cases hs
 case nils =>
  subst hk;simp only[firstCells,qk]at h;subst h;exact⟨B5,0,0,d.now.symm,rfl,(by grind)⟩
 case slice b o n' cp =>
  subst hk;simp only[firstCells]at h;refine⟨_,_,_,d.now.symm,rfl,.inr ?_⟩;cases hb:I6 n 0 with
  |true =>
   have:n=0:=by simpa using hb
   subst this;rw[hb]at h;cases h;exact⟨_,[],rfl,by grind,.nil,by simp⟩
  |false =>
   rw[hb]at h;have⟨cs,j,p,q⟩:=g.aq h
   grind
 case eslice b =>
  subst hk;have:n=0:=by omega
  subst this;simp only[firstCells,I6,xu,qk]at h;subst h;exact⟨_,_,_,d.now.symm,rfl,.inr ⟨_,[],rfl,by grind,.nil,by simp⟩⟩
 case gslice b i m s alt n' =>
  subst hk;simp only[firstCells]at h;refine⟨_,_,_,d.now.symm,rfl,.inr ?_⟩;cases hb:I6 n 0 with
  |true =>
   have:n=0:=by simpa using hb
   subst this;rw[hb]at h;cases h;exact⟨_,[],rfl,by grind,.nil,by simp⟩
  |false =>
   rw[hb]at h;simp only[zo]at h;cases f:(I6 s size && PM i m)with
   |false=>grind
   |true =>
    rw[f]at h;simp only[za,jp,xP]at f;obtain⟨rfl,r⟩:=f;have⟨cs,j,p,q⟩:=g.aq h
    grind
end
end Go.Am
namespace Go.Am
section
variable{P:JL}{base:Nat}{D:Nat->Prop}{θ:Th}{H:ar}{w:MV}
def U1{w:MV}{r:Nat}{c:Array Li}{e:M8}{fz:Nat×Nat}(h:w.heap[r]? = B1 (.cells c e fz)):w.shape? r=B1 (e,c.size):=by
 simp[MV.shape?,h]
def q0o{w:MV}{r:Nat}{c:Array Li}{e:M8}{fz:Nat×Nat}(h:w.heap[r]? = B1 (.cells c e fz)):(viewAt r).run P w=.ok B5 w:=by
 simp[viewAt,U1 h]
def qpe{w:MV}{a:Addr}{c:Array Li}{e:M8}{fz:Nat×Nat}(h:w.heap[a.block]? = B1 (.cells c e fz)):(noView a).run P w=.ok () w:=by
 simp[noView,q0o h]
def T0{a b:AV->Bool}{x y:AV}{q:Bool}(h:sD a b x y=B1 q) :
 (a x=B4/\a y=B4/\q=B4)\/(a x=B4/\b y=B4/\q=B2)\/(b x=B4/\a y=B4/\q=B2):=by
 grind [sD]
def LY.not{a:Nat×Nat}(h:LY (0,0) a)(i:Nat):¬(a.1<=i/\i<a.2):=by
 rcases h with h|⟨_,h⟩<;>simp at *<;>omega
def xlw(p:HR P base D θ H w){b d o o':Nat}(J:b≠d)(h:yM H b d=B4) :
 (sameAddr ⟨θ.b9 b,θ.off b+o,B5⟩ ⟨θ.b9 d,θ.off d+o',B5⟩).run P w=.ok B2 w:=by
 have key:∀(f g o1 o2:Nat)(z A:Array Li)(e1 e2:M8)(m n:Nat×Nat),f≠g->w.heap[f]? = B1 (.cells z e1 m)->w.heap[g]? = B1 (.cells A e2 n) ->
  ((∀i,¬(m.1<=i/\i<m.2))/\A.size≠0\/(∀i,¬(n.1<=i/\i<n.2))/\z.size≠0)->(sameAddr ⟨f,o1,B5⟩ ⟨g,o2,B5⟩).run P w=.ok B2 w:=by
  intro f g o1 o2 z A e1 e2 m n hk G r u;have s1:=U1 G;have s2:=U1 r;have n1:(noView ⟨f,o1,B5⟩).run P w=_:=qpe G;have n2:(noView ⟨g,o2,B5⟩).run P w=_:=qpe r;have O:∀i,w.frozen? ⟨f,i,B5⟩=(decide (m.1<=i) && decide (i<m.2)):=λ i=>by simp[MV.frozen?,G]
  have Q:∀i,w.frozen? ⟨g,i,B5⟩=(decide (n.1<=i) && decide (i<n.2)):=λ i=>by simp[MV.frozen?,r]
  have v:(f == g)=false:=by simpa using hk
  rcases u with⟨S,T⟩|⟨S,T⟩
  .have E:∀i,w.frozen? ⟨f,i,B5⟩=false:=λ i=>by simp_all
   simp only[sameAddr,Ng,run_frozen,E,n1,n2,v,mayBeOne,stringish,run_shape,s1,s2,Sem.run_ite,Bool.false_and,zm,wh,A9,NB];simp_all
  .have F:∀i,w.frozen? ⟨g,i,B5⟩=false:=λ i=>by simp_all
   simp only[sameAddr,Ng,run_frozen,F,n1,n2,v,mayBeOne,stringish,run_shape,s1,Sem.run_ite,Bool.and_false,zm,wh,A9,NB];simp_all
 unfold yM at h;split at h
 .rename_i c e x M e' R U hb a;obtain⟨_,co,u,pre,cs,post,B,N,rfl,r,K,L⟩:=p.obj b _ hb;obtain⟨_,co',j,y,cs',l,q,C,rfl,I,s,t⟩:=p.obj d _ a;refine key _ _ _ _ _ _ _ _ _ _ (p.inj b d _ _ hb a rfl J) u j (.inl ⟨(L rfl).2.2.2.not,?_⟩);have:=s.length
  grind
 .rename_i c e fz ow M e' hb a;obtain⟨_,co,u,pre,cs,post,B,N,rfl,r,K,L⟩:=p.obj b _ hb;obtain⟨_,co',j,y,cs',l,q,C,rfl,I,s,t⟩:=p.obj d _ a;refine key _ _ _ _ _ _ _ _ _ _ (λ e=>p.inj d b _ _ a hb rfl (by omega) e.symm) u j (.inr ⟨(t rfl).2.2.2.not,?_⟩);have:=K.length
  grind
 grind
def vY(P:JL)(t:M8)(x y:MS):wW->Prop
 | .bool=>P.underlying t=B1 .bool
 | .ptr=>∃e n,P.underlying t=B1 (.pointer e)/\bQ P e=B1 (n+1)
 | .slice=>∃e,P.underlying t=B1 (.slice e)
 | .map=>∃k e,P.underlying t=B1 (.map k e)
 | .func=>∃a b c,P.underlying t=B1 (.func a b c)
 | .iface=>∃ms,P.underlying t=B1 (.interface ms)/\((∃v,x=.const v) \/ ∃v,y=.const v)
 | .ifaces f=>(∃ms,P.underlying t=B1 (.interface ms)) /\ ∀u q,f u=B1 q->dB P 20 u=B1 q /\ ∃i,P.info? u=B1 i/\i.comparable=B4
 | .agg q=>P.eqGuardType P.depth t=B2/\pR P t=B1 q/\((∃fs,P.underlying t=B1 (.struct fs)) \/ ∃n e,P.underlying t=B1 (.array n e))
set_option maxHeartbeats 2000000 in
def Ke(hh:HR P base D θ H w){t:M8}{x y:MS}{ρ:MS->Li}{k:wW}(hk:vY P t x y k){a b:AV}(ha:VR D θ a (ρ x))(hb:VR D θ b (ρ y)){q:Bool}
 (h:I8 H k a b=B1 q) (op:BinOp) (g:op=.eql\/op=.neq) :
 ((do eqGuard op t x y (ρ x) (ρ y);binOp op t (ρ x) (ρ y)):Sem Li).run P w=.ok (.bool (if op=.neq then !q else q)) w:=by
 have fin:(eqGuard op t x y (ρ x) (ρ y)).run P w=.ok () w->(D2 t (ρ x) (ρ y)).run P w=.ok q w->(binOp .eql t (ρ x) (ρ y)).run P w=((do pure (.bool (<-D2 t (ρ x) (ρ y)))):Sem Li).run P w ->
  (binOp .neq t (ρ x) (ρ y)).run P w=((do pure (.bool (!(<-D2 t (ρ x) (ρ y))))):Sem Li).run P w ->
  ((do eqGuard op t x y (ρ x) (ρ y);binOp op t (ρ x) (ρ y)):Sem Li).run P w=.ok (.bool (if op=.neq then !q else q)) w:=by
  intro G F Z h4;rw[Ng,G,NB];rcases g with rfl|rfl
  .rw [Z];simp[F]
  .rw [h4];simp[F]
 obtain⟨dd,e1,V⟩:∃d,(∀p q,D2 t p q=BP (d+1) t p q) /\ ∃m,d=20+m:=⟨9999,λ _ _=>rfl,9979,rfl⟩
 cases k
 case bool =>
  cases a<;>cases b<;>simp only[I8,reduceCtorEq,qk]at h;subst h;have hu:P.underlying t=B1 .bool:=hk;rw[<-ha.now,<-hb.now];rw[<-ha.now,<-hb.now]at fin;refine fin ?_ (run_equalIn_bool' w _ t _ _ hu) (by simp only[az,binOp]) (by simp only[az,binOp]);rcases g with rfl|rfl<;>simp[eqGuard,az]
 case ptr =>
  have⟨e,n,hu,hs⟩:=hk;have K:=uj (w:=w) hs;have A:(D2 t (ρ x) (ρ y)).run P w=.ok q w:=by
   cases a<;>cases b<;>simp only[I8,reduceCtorEq,qk]at h
   .subst h;rw[<-ha.now,<-hb.now,e1];simp[az,BP,j8 hu]
   .subst h;rw[<-ha.now,<-hb.now,e1];simp[az,BP,j8 hu]
   .subst h;rw[<-ha.now,<-hb.now,e1];simp[az,BP,j8 hu]
   .rename_i C o1 E o2;rw[<-ha.now,<-hb.now,e1];simp only[az,BP,Ng,j8 hu,NB,K,ne_eq,Nat.succ_ne_zero,not_false_eq_true,uE];cases r:I6 C E with
    |true =>
     rw[r]at h;have:C=E:=by simpa using r
     subst this;simp only[xu,qk]at h;subst h;simp only[sameAddr,beq_self_eq_true,uE,A9];congr 1
     by_cases ho:o1=o2
     .subst ho;simp
     .have:I6 o1 o2=false:=by simpa[<-Bool.not_eq_true,jp]using ho
      rw[this];simp[ho]
    |false =>
     rw[r]at h;simp only[zo]at h;cases hp:yM H C E with
     |false=>rw[hp]at h;cases h
     |true =>
      rw[hp]at h;simp only[xu,qk]at h;subst h;have u:C≠E:=λ e=>by subst e;simp at r
      exact xlw hh u hp
  cases a<;>cases b<;>simp only[I8,reduceCtorEq,qk]at h <;>
   (rw[<-ha.now,<-hb.now]at A⊢;rw[<-ha.now,<-hb.now]at fin
    exact fin (by rcases g with rfl|rfl<;>simp[eqGuard,az]) A (by simp only[az,binOp]) (by simp only[az,binOp]))
 case slice =>
  have⟨e,hu⟩:=hk;have o:=T0 h;cases a<;>cases b<;>simp[Eg,isSlice]at o <;>
   (subst o;rw[<-ha.now,<-hb.now];rw[<-ha.now,<-hb.now]at fin
    exact fin (by rcases g with rfl|rfl<;>simp[eqGuard,az]) (by rw[e1];simp[az,BP,j8 hu]) (by simp only[az,binOp]) (by simp only[az,binOp]))
 case map =>
  have⟨k,e,hu⟩:=hk;have o:=T0 h;cases a<;>cases b<;>simp[BU,isMap]at o <;>
   (subst o;rw[<-ha.now,<-hb.now];rw[<-ha.now,<-hb.now]at fin
    exact fin (by rcases g with rfl|rfl<;>simp[eqGuard,az]) (by rw[e1];simp[az,BP,j8 hu]) (by simp only[az,binOp]) (by simp only[az,binOp]))
 case func =>
  have⟨p1,p2,p3,hu⟩:=hk;have o:=T0 h;cases a<;>cases b<;>simp[E9,Pl]at o <;>
   (subst o;rw[<-ha.now,<-hb.now];rw[<-ha.now,<-hb.now]at fin
    exact fin (by rcases g with rfl|rfl<;>simp[eqGuard,az]) (by rw[e1];simp[az,BP,j8 hu]) (by simp only[az,binOp]) (by simp only[az,binOp]))
 case iface =>
  have⟨ms,hu,O⟩:=hk;have o:=T0 h;cases a<;>cases b<;>simp[DK,isIface]at o <;>
   (subst o;rw[<-ha.now,<-hb.now];rw[<-ha.now,<-hb.now]at fin
    exact fin (by rcases g with rfl|rfl<;>rcases O with⟨v,rfl⟩|⟨v,rfl⟩<;>simp[eqGuard,az]) (by rw[e1];simp[az,BP,j8 hu]) (by simp only[az,binOp]) (by simp only[az,binOp]))
 case ifaces f =>
  have⟨⟨ms,hu⟩,hf⟩:=hk;cases a<;>cases b<;>simp only[I8,reduceCtorEq,qk]at h
  .rename_i Q v1 S v2;have⟨T,I,M⟩:=ha.mr;have⟨U,J,N⟩:=hb.mr;rw[I,J]at fin⊢;refine fin (by rcases g with rfl|rfl<;>simp[eqGuard]) ?_ (by simp only[binOp]) (by simp only[binOp]);rw[e1];cases j:I6 Q S with
   |true =>
    rw[j]at h;simp only[jp]at j;subst j;simp only[xu,qj]at h;have⟨R,L,h⟩:=h;have⟨W,i,X,Y⟩:=hf _ _ L;obtain⟨m,rfl⟩:=V;have B:=Sn m (D:=D) (θ:=θ) w 20 Q R W v1 v2 T U q M N h;simp[BP,j8 hu,typeInfo,X,Y,B]
   |false =>
    rw[j]at h;have u:Q≠S:=λ e=>by subst e;simp at j
    simp only[zo,qk]at h;subst h;simp[BP,j8 hu,u]
  .subst h;rw[<-ha.now,<-hb.now];rw[<-ha.now,<-hb.now]at fin;exact fin (by rcases g with rfl|rfl<;>simp[eqGuard,az]) (by rw[e1];simp[az,BP,j8 hu]) (by simp only[az,binOp]) (by simp only[az,binOp])
  .subst h;rw[<-ha.now,<-hb.now];rw[<-ha.now,<-hb.now]at fin;exact fin (by rcases g with rfl|rfl<;>simp[eqGuard,az]) (by rw[e1];simp[az,BP,j8 hu]) (by simp only[az,binOp]) (by simp only[az,binOp])
 case agg R =>
  have⟨hg,c,hu⟩:=hk;have A:=Ee (w:=w) c ha hb h;have z:(∃l,a=.agg l) /\ ∃l,b=.agg l:=by
   have c:dB P (19+1) t=B1 R:=c;rw[dB]at c;rcases hu with⟨fs,hu⟩|⟨n,e,hu⟩
   .rw [hu]at c;simp only at c;split at c
    .cases c
    .exact q3u c h
   .rw [hu]at c;simp only[qj]at c;have⟨s,hs,a',ha',q1,hq1,c⟩:=c;cases c;exact q7u _ _ _ _ _ h
  obtain⟨⟨l,rfl⟩,⟨l',rfl⟩⟩:=z;have⟨cs,G,_⟩:=ha.fq;have⟨cs',F,_⟩:=hb.fq;rw[G,F]at A fin⊢;exact fin (run_eqGuard_agg w _ t x y _ _ hg) A (by simp only[binOp]) (by simp only[binOp])
def FH{o:QI}{t g:M8}{x y:MS}{k:wW}{neg:Bool}(ho:o.op=.binOp (if neg then .neq else .eql) t x y g)(hk:vY P t x y k):qL P o [x,y] (Op.eq k neg):=by
 intro base D θ H ρ w vs v d h c;unfold Op.eq at c;split at c
 .rename_i a b;have⟨i,j,he,ha,hb⟩:=h.rq;simp only[zw,tJ]at he;obtain⟨rfl,rfl⟩:=he;simp only[qj]at c;have⟨q,f,c⟩:=c;cases c;have:=Ke d hk ha hb f (if neg then .neq else .eql) (by grind);refine⟨_,.inl ?_,.bool _⟩;simp only[execOp,ho];rw[Ng,this];simp_all
 grind
end
end Go.Am
namespace Go.Am
structure mj(w w0:MV):Prop where
 heap:w0.heap=w.heap
 os:w0.os=w.os
 tape:w0.tape=w.tape
 output:w0.output=w.output
theorem mj.refl(w:MV):mj w w:=⟨rfl,rfl,rfl,rfl⟩
def mj.drew(w:MV):mj w w.drew:=⟨rfl,rfl,rfl,rfl⟩
theorem mj.trans{a b c:MV}(h:mj a b)(d:mj b c):mj a c:=⟨d.heap.trans h.heap,d.os.trans h.os,d.tape.trans h.tape,d.output.trans h.output⟩
def mz(P:JL)(o:QI)(xs:List MS)(f:List AV->Option (bD×(Nat->AV))):Prop :=
 ∀(D:Nat->Prop)θ(ρ:MS->Li)w vs ob mk,bL D θ vs (xs.map ρ)->f vs=B1 (ob,mk) ->
  own ob=B4 /\ ∃w0 co ext c,(execOp ρ o).run P w=.ok (.value c) (w0.alloc co)/\mj w w0 /\
   ∀(D':Nat->Prop)θ' id,Ag D θ θ'->(∀b,D b->D' b)->D' id -> θ'.b9 id=w.heap.size -> θ'.off id=0 -> θ'.ext id=ext->oX P D' θ' id ob co/\VR D' θ' (mk id) c
section
variable{P:JL}
def R5{D':Nat->Prop}{θ':Th}{id:Nat}{cells:List AV}{cs:List Li}{e:M8}(h:bL D' θ' cells cs)(ho:θ'.off id=0) :
 oX P D' θ' id (.row cells e (0,0) B4) (.cells cs.toArray e (0,0)) :=
 ⟨[],cs,[],(0,0),_,by simp,by grind,h,λ _=>⟨rfl,rfl,rfl,.inl rfl⟩⟩
def xgh{D':Nat->Prop}{θ':Th}{id k:Nat}(a:D' id)(hb:θ'.b9 id=k)(ho:θ'.off id=0):VR D' θ' (Op.ptrTo id) (.pointer (B1 ⟨k,0,B5⟩)):=by
 have:=VR.ptr (θ:=θ') (o:=0) a;rw[hb,ho]at this;exact this
def L'{D':Nat->Prop}{θ':Th}{id k n m:Nat}(a:D' id)(hb:θ'.b9 id=k)(ho:θ'.off id=0):VR D' θ' (Op.sliceTo n m id) (.slice (B1 ⟨k,0,B5⟩) n m):=by
 have:=VR.slice (θ:=θ') (o:=0) (n:=n) (c:=m) a;simp only[az,hb,ho]at this;exact this
def xdj{o:QI}{e:M8}{z:AV}(ho:o.op=.alloc e)(f:zeroOf P e=B1 z):mz P o [] (Op.alloc e z.cells):=by
 intro D θ ρ w vs l mk h c;unfold Op.alloc at c;split at c
 .cases c;have⟨i,g,d⟩:=L9 (w:=w) f;refine⟨rfl,w,.cells i.cells e (0,0),0,.pointer (B1 ⟨w.heap.size,0,B5⟩),?_,.refl w,λ D' θ' id ha j b hb a _=>⟨?_,xgh b hb a⟩⟩
  .simp_all [execOp,Instr.alloc,newVar,newRow]
  .have:=R5 (P:=P) (e:=e) (d D' θ').cells a
   simpa using this
 grind
def xjq{o:QI}{e:M8}{x:MS}(ho:o.op=.box e x):mz P o [x] (Op.box e):=by
 intro D θ ρ w vs f mk h c;unfold Op.box at c;split at c
 .rename_i v;have⟨g,he,ha⟩:=h.pS;simp only[zw,tJ]at he;subst he;cases c;refine⟨rfl,w,.cells (ρ x).cells e (0,0),0,.pointer (B1 ⟨w.heap.size,0,B5⟩),?_,.refl w,λ D' θ' id hg d b hb a _=>⟨?_,xgh b hb a⟩⟩
  .simp [execOp,ho,Instr.box,newVar,newRow]
  .have:=R5 (P:=P) (e:=e) (ha.up hg d).cells a
   simpa using this
 grind
def j5{o:QI}{t:M8}{r:Option MS}(ho:o.op=.makeMap t r)(hr:r=B5\/(∃k n,r=B1 (.const (.int k n)) /\ ∃a b,P.underlying t=B1 (.map a b)))
 (j:∀(ρ:MS->Li),True):∀(D:Nat->Prop)θ(ρ:MS->Li)w vs d mk,(∀v,ρ (.const v)=v)->bL D θ vs (([]:List MS).map ρ)->Op.mkMap vs=B1 (d,mk) ->
 own d=B4 /\ ∃w0 co ext c,(execOp ρ o).run P w=.ok (.value c) (w0.alloc co)/\mj w w0 /\
  ∀(D':Nat->Prop)θ' id,Ag D θ θ'->(∀b,D b->D' b)->D' id -> θ'.b9 id=w.heap.size -> θ'.off id=0 -> θ'.ext id=ext->oX P D' θ' id d co/\VR D' θ' (mk id) c:=by
 intro D θ ρ w vs d mk m h f;unfold Op.mkMap at f;split at f
 .cases f;refine⟨rfl,w,.map #[] 0,0,.map (B1 w.heap.size),?_,.refl w,λ D' θ' id hg l i hb g _=>⟨⟨[],rfl,trivial⟩,?_⟩⟩
  .rcases hr with rfl|⟨k,n,rfl,a,b,hu⟩
   .simp [execOp,ho,Instr.makeMap]
   simp_all[execOp,Instr.makeMap,j8,asInt,asIntOf]
  grind [VR.map]
 grind
def Yh{D:Nat->Prop}{θ:Th}{z:List AV}{a:List Li}(h:bL D θ z a)(n:Nat):bL D θ (fV n z) (JK n a).flatten:=by
 induction n with
 |zero=>exact .nil
 |succ n ih =>
  simp only[fV,pe,N5,List.flatten_cons];exact h.app ih
def UB(a:List Li)(n:Nat):((Cu (n*a.length)).map (λ i=>a.toArray[i % a.toArray.size]!))=(JK n a).flatten.toArray:=by
 apply Array.ext';simp only[Array.toList_map,Array.toList_range,List.size_toArray]
 induction n with
 |zero=>simp
 |succ n ih =>
  rw[show(n+1)*a.length=a.length+n*a.length from by rw[vr];omega,List.range_add,HB,wg,N5,List.flatten_cons];congr 1
  .apply List.ext_getElem
   .simp
   grind [Nat.mod_eq_of_lt]
  simp_all[List.map_congr_left]
def qy5{o:QI}{t e:M8}{len n:Nat}{parts:Array (Nat×MS)}{z:AV}{u:List (Nat×Nat)}(ho:o.op=.buildSlice t len parts)(hu:P.underlying t=B1 (.slice e))
 (hs:bQ P e=B1 n) (E:zeroOf P e=B1 z) (hp:EK (KP n) parts.toList=B1 u) (G:z.cells.length=n) (x:len*n<=16777216) :
 mz P o (parts.toList.map (·.2)) (Op.buildSlice e len z.cells u):=by
 intro D θ ρ w vs I mk h l;simp only[Op.buildSlice,qj]at l;have⟨c,B,l⟩:=l;cases l;have⟨f,s,j⟩:=L9 (w:=w) E;have F:=(j D θ).cells.length;have g:bL D θ (fV len z.cells) (JK len f.cells.toList).flatten:=Yh (j D θ).cells len;have hv':bL D θ vs (parts.toList.map λ p=>ρ p.2):=by grind [Function.comp_def]
 have⟨cout,y,A⟩:=XM u vs parts.toList (KP n) c hp hv' _ _ g B;have r:f.cells.size=n:=by rw[<-Array.length_toList];omega
 refine⟨rfl,w,.cells cout.toArray e (0,0),0,.slice (B1 ⟨w.heap.size,0,B5⟩) len len,?_,.refl w,λ D' θ' id hg C q hb d _=>⟨R5 (A.up hg C) d,L' q hb d⟩⟩;have a:=UB f.cells.toList len;rw[show f.cells.toList.length=n from by omega]at a;simp only[C6]at a;have m:Instr.fill (λ i=>B1 (i*n,n)) (((Cu (len*n)).map (λ i=>f.cells[i % f.cells.size]!))) ((parts.map λ(p:Nat×MS)=>(p.1,ρ p.2)).toList)=B1 cout.toArray:=by
  rw[a,xlt];exact y
 by_cases v:len*n=0
 .have b:Instr.fill (λ i=>B1 (i*n,n)) #[] ((parts.map λ(p:Nat×MS)=>(p.1,ρ p.2)).toList)=B1 cout.toArray:=by
   grind
  simp only[execOp,ho,Instr.buildSlice,Ng,j8 hu,NB,uj hs,v,show Cu 0 = #[]from rfl,Array.map_empty,uE,A9,b];simp[newRow]
 .have hb:¬(len*n > 2 ^ 24):=by omega
  simp only[execOp,ho,Instr.buildSlice,Ng,j8 hu,NB,uj hs,v,hb,wh,s,A9];simp_all[newRow]
def q8n{o:QI}{t e:M8}{l c:MS}{b n:Nat}{z:AV}(ho:o.op=.makeSlice t l c)(hu:P.underlying t=B1 (.slice e))(hb:nh P e=B1 b)
 (hs:bQ P e=B1 n) (L:zeroOf P e=B1 z) (N:z.cells.length=n):mz P o [l,c] (Op.mkSlice e b z.cells):=by
 intro D θ ρ w vs W mk h p;unfold Op.mkSlice at p;split at p
 .rename_i U m V f;have⟨x,y,he,ha,u⟩:=h.rq;simp only[zw,tJ]at he;obtain⟨rfl,rfl⟩:=he;cases d:(vQ 0 m && vQ m f && vQ (f*b) 140737488355328 && vQ f 140737488355328)with
  |false=>grind
  |true =>
   rw[d]at p;simp only[xu,qk,zh]at p;obtain⟨rfl,rfl⟩:=p;simp only[za,Nj,decide_eq_true_eq]at d;have⟨⟨⟨O,Q⟩,R⟩,S⟩:=d;have⟨r,C,q⟩:=L9 (w:=w) L;have M:=(q D θ).cells.length;have B:r.cells.size=n:=by grind
   refine⟨rfl,w,.cells (JK f.toNat r.cells.toList).flatten.toArray e (0,0),0,.slice (B1 ⟨w.heap.size,0,B5⟩) m.toNat f.toNat,?_,.refl w,
    λ D' θ' id hg T A hb j _=>⟨R5 (Yh ((q D' θ').cells) _) j,L' A hb j⟩⟩
   have w1:P0.i64.wrap m=m:=by grind [IntKind.wrap,IntKind.bits]
   have w2:P0.i64.wrap f=f:=by grind [IntKind.wrap,IntKind.bits]
   have v:∃i,P.info? e=B1 i/\i.bytes=b:=by
    unfold nh at hb;cases E:P.info? e with
    |none=>grind
    |some i=>grind
   obtain⟨inf,E,rfl⟩:=v;have a:=UB r.cells.toList f.toNat;rw[show r.cells.toList.length=n from by omega]at a;simp only[C6]at a;have F:¬(f<0):=by omega
   have G:¬((inf.bytes:Int)*f > 2 ^ 48):=by grind
   have I:¬(m<0):=by omega
   have J:¬(m > f):=by omega
   have K:¬(f.toNat*inf.bytes > roomBytes):=by
    grind [roomBytes]
   have X:(2:Int) ^ 48=281474976710656:=by decide
   simp only[execOp,ho,<-ha.now,<-u.now,az,Instr.makeSlice,Ng,j8 hu,NB,asInt,asIntOf,A9,typeInfo,run_program,E,w1,w2]
   by_cases s:f.toNat*n=0
   .have g:(JK f.toNat r.cells.toList).flatten.toArray = #[]:=by rw[<-a,s,show Cu 0 = #[]from rfl,Array.map_empty]
    simp only[F,G,I,J,K,s,askRoom,g,J1,Bool.or_self,zm,wh,uE,Ng,A9,NB,uj hs,show Cu 0 = #[]from rfl,Array.map_empty];simp[newRow]
   .simp only[F,G,I,J,K,s,askRoom,J1,Bool.or_self,zm,wh,Ng,A9,NB,uj hs,C,a];simp[newRow]
 grind
end
end Go.Am
