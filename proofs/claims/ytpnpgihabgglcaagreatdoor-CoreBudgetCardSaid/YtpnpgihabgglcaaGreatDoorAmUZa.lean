import GoSem.Step
import Derived.CallsIn
import Derived.WalkKit
import Derived.WalkLawsBesides
import Derived.Lib.Strings
import Derived.Lib.Bytealg
import Derived.DeepKeys3
import Derived.Laws.Cover3
import Derived.Laws.Pointers
import Derived.Room.MakeNoZero
import Derived.Laws.IdiomStrings
set_option linter.defProp false
set_option linter.unusedVariables false
set_option linter.unusedSimpArgs false
namespace Go.Am
def qd:type_of% @Option.bind_eq_some_iff:=@Option.bind_eq_some_iff
def qe:type_of% @Option.some.injEq:=@Option.some.injEq
def qg:type_of% @Nat.le_refl:=@Nat.le_refl
def qj:type_of% @Nat.lt_of_lt_of_le:=@Nat.lt_of_lt_of_le
def qk:type_of% @List.getElem?_eq_some_iff:=@List.getElem?_eq_some_iff
def qm:type_of% @Option.bind_some:=@Option.bind_some
def qo:type_of% @if_neg:=@if_neg
def qr:type_of% @if_pos:=@if_pos
def qt:type_of% @List.getElem?_eq_getElem:=@List.getElem?_eq_getElem
def qv:type_of% @List.length_append:=@List.length_append
def xb:type_of% @eq_true:=@eq_true
def xg:type_of% @List.length_set:=@List.length_set
def xj:type_of% @List.getElem?_map:=@List.getElem?_map
def xl:type_of% @Option.map_eq_some_iff:=@Option.map_eq_some_iff
def xm:type_of% @cond_true:=@cond_true
def xp:type_of% @List.length_map:=@List.length_map
def xq:type_of% @Nat.lt_or_ge:=@Nat.lt_or_ge
def xr:type_of% @List.getElem?_set_self:=@List.getElem?_set_self
def xt:type_of% @Bool.and_eq_true:=@Bool.and_eq_true
def xu:type_of% @Nat.le_trans:=@Nat.le_trans
def xv:type_of% @Prod.mk.injEq:=@Prod.mk.injEq
def xw:type_of% @List.getElem?_set_ne:=@List.getElem?_set_ne
def xy:type_of% @Nat.zero_le:=@Nat.zero_le
def x9:type_of% @List.mem_of_getElem?:=@List.mem_of_getElem?
def zd:type_of% @Classical.byContradiction:=@Classical.byContradiction
def ze:type_of% @List.append_nil:=@List.append_nil
def zg:type_of% @List.take_of_length_le:=@List.take_of_length_le
def zh:type_of% @List.getElem?_append_right:=@List.getElem?_append_right
def zj:type_of% @cond_false:=@cond_false
def zk:type_of% @List.cons.injEq:=@List.cons.injEq
def zm:type_of% @List.append_assoc:=@List.append_assoc
def zp:type_of% @Nat.lt_succ_self:=@Nat.lt_succ_self
def zq:type_of% @List.getElem?_cons_succ:=@List.getElem?_cons_succ
def zr:type_of% @List.length_replicate:=@List.length_replicate
def zt:type_of% @List.mem_append:=@List.mem_append
def zw:type_of% @List.nil_append:=@List.nil_append
def zx:type_of% @Bool.false_eq_true:=@Bool.false_eq_true
def zy:type_of% @List.getD_eq_getElem?_getD:=@List.getD_eq_getElem?_getD
def zz:type_of% @List.getElem?_eq_none:=@List.getElem?_eq_none
def z4:type_of% @Int.eq_ofNat_of_zero_le:=@Int.eq_ofNat_of_zero_le
def z6:type_of% @List.length_cons:=@List.length_cons
def ja:type_of% @List.mem_singleton:=@List.mem_singleton
def jd:type_of% @List.getElem?_append_left:=@List.getElem?_append_left
def je:type_of% @List.drop_eq_nil_of_le:=@List.drop_eq_nil_of_le
def jf:type_of% @List.mem_cons:=@List.mem_cons
def jh:type_of% @Nat.beq_eq:=@Nat.beq_eq
def ji:type_of% @List.map_cons:=@List.map_cons
def jk:type_of% @Bool.and_self:=@Bool.and_self
def jm:type_of% @List.getElem?_cons_zero:=@List.getElem?_cons_zero
def jt:type_of% @List.length_eq_zero_iff:=@List.length_eq_zero_iff
def ju:type_of% @List.flatMap_cons:=@List.flatMap_cons
def jv:type_of% @Nat.mul_le_mul_right:=@Nat.mul_le_mul_right
def jw:type_of% @List.take_append_of_le_length:=@List.take_append_of_le_length
def jx:type_of% @Iff.rfl:=@Iff.rfl
def jy:type_of% @Nat.zero_add:=@Nat.zero_add
def jz:type_of% @List.ext_getElem?:=@List.ext_getElem?
def j0:type_of% @List.length_range:=@List.length_range
def j4:type_of% @Option.bind_assoc:=@Option.bind_assoc
def j6:type_of% @List.length_take:=@List.length_take
def j7:type_of% @Array.getD_eq_getD_getElem?:=@Array.getD_eq_getD_getElem?
def j8:type_of% @Array.getElem?_toList:=@Array.getElem?_toList
def j9:type_of% @decide_eq_false:=@decide_eq_false
def kj:type_of% @decide_eq_true:=@decide_eq_true
def kq:type_of% @List.flatMap_append:=@List.flatMap_append
def kr:type_of% @List.length_drop:=@List.length_drop
def ku:type_of% @Nat.le_succ:=@Nat.le_succ
def kw:type_of% @Array.getElem?_eq_some_iff:=@Array.getElem?_eq_some_iff
def ya:type_of% @Int.le_refl:=@Int.le_refl
def yd:type_of% @Nat.add_mul:=@Nat.add_mul
def yf:type_of% @List.getElem?_take:=@List.getElem?_take
def yg:type_of% @List.getElem?_range:=@List.getElem?_range
def yi:type_of% @List.length_nil:=@List.length_nil
def ym:type_of% @List.drop_zero:=@List.drop_zero
def yn:type_of% @List.drop_append_of_le_length:=@List.drop_append_of_le_length
def yo:type_of% @List.getElem?_drop:=@List.getElem?_drop
def yp:type_of% @Nat.add_sub_cancel_left:=@Nat.add_sub_cancel_left
def yz:type_of% @List.take_zero:=@List.take_zero
def y8:type_of% @Option.isSome_some:=@Option.isSome_some
def ve:type_of% @List.take_append_drop:=@List.take_append_drop
def vf:type_of% @Nat.add_zero:=@Nat.add_zero
def vg:type_of% @Array.length_toList:=@Array.length_toList
def vi:type_of% @Option.getD_some:=@Option.getD_some
def vq:type_of% @List.mem_cons_of_mem:=@List.mem_cons_of_mem
def vr:type_of% @Array.getElem?_setIfInBounds:=@Array.getElem?_setIfInBounds
def vw:type_of% @Nat.add_assoc:=@Nat.add_assoc
def vy:type_of% @List.eq_of_mem_replicate:=@List.eq_of_mem_replicate
def wc:type_of% @Bool.or_eq_true:=@Bool.or_eq_true
def we:type_of% @List.map_map:=@List.map_map
def wg:type_of% @Nat.eq_of_beq_eq_true:=@Nat.eq_of_beq_eq_true
def wh:type_of% @Nat.zero_mul:=@Nat.zero_mul
def wl:type_of% @Option.map_some:=@Option.map_some
def wq:type_of% @List.all_eq_true:=@List.all_eq_true
def wv:type_of% @List.drop_append:=@List.drop_append
def ww:type_of% @Nat.ble_eq:=@Nat.ble_eq
def wz:type_of% @if_false:=@if_false
def MG:type_of% @Decidable.byContradiction:=@Decidable.byContradiction
def GA:type_of% @Classical.not_not:=@Classical.not_not
def EM:type_of% @Int.toNat_natCast:=@Int.toNat_natCast
def wL:type_of% @Nat.succ_mul:=@Nat.succ_mul
def Ot:type_of% @List.drop_length_add_append:=@List.drop_length_add_append
def IA:type_of% @List.mem_cons_self:=@List.mem_cons_self
def Ks:type_of% @List.getElem?_of_mem:=@List.getElem?_of_mem
def sX:type_of% @Nat.blt_eq:=@Nat.blt_eq
def mO:type_of% @Ne.symm:=@Ne.symm
def KI:type_of% @List.drop_succ_cons:=@List.drop_succ_cons
def A9:type_of% @Nat.lt_irrefl:=@Nat.lt_irrefl
def Lq:type_of% @List.set_append_right:=@List.set_append_right
def Jv:type_of% @Option.isSome_none:=@Option.isSome_none
def rk:type_of% @and_true:=@and_true
def Ht:type_of% @List.cons_append:=@List.cons_append
def D6:type_of% @List.all_cons:=@List.all_cons
def KT:type_of% @decide_eq_true_eq:=@decide_eq_true_eq
def Lx:type_of% @Int.toNat_of_nonneg:=@Int.toNat_of_nonneg
def HJ:type_of% @List.map_append:=@List.map_append
def PW:type_of% @Nat.ne_of_beq_eq_false:=@Nat.ne_of_beq_eq_false
def QV:type_of% @Int.tmod_eq_emod_of_nonneg:=@Int.tmod_eq_emod_of_nonneg
def EI:type_of% @List.map_nil:=@List.map_nil
def O0:type_of% @List.mem_iff_getElem?:=@List.mem_iff_getElem?
def Ib:type_of% @List.drop_drop:=@List.drop_drop
def Qd:type_of% @Array.toArray_toList:=@Array.toArray_toList
def L7:type_of% @List.take_add_one:=@List.take_add_one
def MA:type_of% @Nat.lt_succ_of_lt:=@Nat.lt_succ_of_lt
def KL:type_of% @Option.some.inj:=@Option.some.inj
def ri:type_of% @if_true:=@if_true
def FE:type_of% @List.mem_map:=@List.mem_map
def SE:type_of% @List.getElem?_replicate:=@List.getElem?_replicate
def Qp:type_of% @List.replicate_succ:=@List.replicate_succ
def L5:type_of% @List.take_append:=@List.take_append
def Ms:type_of% @Nat.le_add_right:=@Nat.le_add_right
def HD:type_of% @Int.le_of_lt:=@Int.le_of_lt
def Mt:type_of% @List.foldl_cons:=@List.foldl_cons
def HA:type_of% @Nat.sub_zero:=@Nat.sub_zero
def sL:type_of% @eq_self:=@eq_self
def Ny:type_of% @Bool.not_eq_true':=@Bool.not_eq_true'
def Ps:type_of% @List.flatten_cons:=@List.flatten_cons
def P1:type_of% @List.mem_nil_iff:=@List.mem_nil_iff
def IV:type_of% @Nat.mul_one:=@Nat.mul_one
def G0:type_of% @Array.ext':=@Array.ext'
def Jo:type_of% @Nat.ne_of_lt:=@Nat.ne_of_lt
def EO:type_of% @beq_iff_eq:=@beq_iff_eq
def JK:type_of% @decide_false:=@decide_false
def Ik:type_of% @Int.not_lt:=@Int.not_lt
def B0:type_of% @true_and:=@true_and
inductive T(α:Type)where
 |nil
 |node (l:T α) (v:Option α) (r:T α)
noncomputable section
namespace T
variable{α:Type}
def l:T α->T α
 | .nil=>.nil
 | .node a _ _=>a
def r:T α->T α
 | .nil=>.nil
 | .node _ _ b=>b
def val:T α->Option α
 | .nil=>none
 | .node _ v _=>v
def path(i:Nat):List Bool:=go i i
 where go:Nat->Nat->List Bool
 |0,_=>[]
 |f+1,i=>match i with
  |0=>[]
  |n+1=>Nat.beq (Nat.mod n 2) 0::go f (Nat.div n 2)
def vJ:List Bool->T α->Option α
 |[],t=>t.val
 |b::p,t=>vJ p (cond b t.l t.r)
def fk(v:Option α):List Bool->T α->T α
 |[],t=>.node t.l v t.r
 |b::p,t=>cond b (.node (fk v p t.l) t.val t.r) (.node t.l t.val (fk v p t.r))
def get(t:T α)(i:Nat):Option α:=vJ (path i) t
def put(t:T α)(i:Nat)(v:Option α):T α:=fk v (path i) t
def set(t:T α)(i:Nat)(v:α):T α:=t.put i (some v)
structure Get(α:Type)where
 run:T α->Option α
structure Put(α:Type)where
 run:Option α->T α->T α
def nO:List Bool->Get α
 |[]=>⟨val⟩
 |true::p=>⟨λ t=>(nO p).run t.l⟩
 |false::p=>⟨λ t=>(nO p).run t.r⟩
def xI:List Bool->Put α
 |[]=>⟨λ v t=>.node t.l v t.r⟩
 |true::p=>⟨λ v t=>.node ((xI p).run v t.l) t.val t.r⟩
 |false::p=>⟨λ v t=>.node t.l t.val ((xI p).run v t.r)⟩
end T
def nth{α:Type}(l:List α):Nat->Option α :=
 List.rec (motive:=λ _=>Nat->Option α) (λ _=>none) (λ x _ ih i=>Nat.rec (motive:=λ _=>Option α) (some x) (λ n _=>ih n) i) l
def jU{α:Type}(a b:List α):List α:=List.rec (motive:=λ _=>List α) b (λ x _ ih=>x::ih) a
def cQ{α:Type}(l:List α):Nat:=List.rec (motive:=λ _=>Nat) 0 (λ _ _ ih=>ih+1) l
def Qj{α:Type}:List α->List α
 |[]=>[]
 |_::l=>l
def cT{α:Type}(n:Nat):List α->List α:=Nat.rec (motive:=λ _=>List α->List α) (λ l=>l) (λ _ ih l=>ih (Qj l)) n
def CH{α:Type}(n:Nat):List α->Option (List α) :=
 Nat.rec (motive:=λ _=>List α->Option (List α)) (λ _=>some [])
  (λ _ ih l=>List.rec (motive:=λ _=>Option (List α)) none (λ x t _=>(ih t).bind λ r=>some (x::r)) l) n
def wV{α:Type}(new:List α):List α->Option (List α) :=
 List.rec (motive:=λ _=>List α->Option (List α)) (λ l=>some l)
  (λ x _ ih l=>List.rec (motive:=λ _=>Option (List α)) none (λ _ t _=>(ih t).bind λ r=>some (x::r)) l) new
def putAt{α:Type}(o:Nat)(new:List α):List α->Option (List α) :=
 Nat.rec (motive:=λ _=>List α->Option (List α)) (λ l=>wV new l)
  (λ _ ih l=>List.rec (motive:=λ _=>Option (List α)) none (λ x t _=>(ih t).bind λ r=>some (x::r)) l) o
def fG{α:Type}(l:List α)(o n:Nat):Option (List α):=CH n (cT o l)
inductive lJ where
 |func (f:Nat)
 |yield (l:Nat)
inductive AV where
 |bool (b:Bool)
 |int (k:IntKind) (n:Int)
 |str (s:List UInt8)
 |nilp
 |ptr (b o:Nat)
 |nils
 |slice (b o n c:Nat)
 |gslice (b i m size alt n:Nat)
 |eslice (b:Nat)
 |lI
 |map (b:Nat)
 |fn (f:lJ) (first captured:List AV)
 |nilf
 |iface (t:Nat) (v:AV)
 |nili
 |agg (l:List AV)
 |tuple (l:List AV)
instance:Inhabited AV:=⟨.nili⟩
def AV.undef:AV:=.tuple []
def AV.cells:AV->List AV
 | .agg l=>l
 |v=>[v]
inductive bI where
 |tmp (t:Nat)
 |const (v:AV)
 |d8 (g:Nat)
 |func (f:Nat)
inductive dX where
 |tmp (t:Nat)
 |kA (a:Nat)
 |cL (n:Nat) (a:Nat)
inductive gU where
 |exit (id:Nat)|goto (l:Nat)|ret
inductive mC where
 |ready|busy|done|exhausted
inductive aM where
 |iU (b:Nat)
 |fn (f:lJ) (args:List AV)
inductive bH where
 |row (cells:List AV) (elem:Nat) (fz:Nat×Nat) (own:Bool)
 |grown (m size:Nat) (cells:List AV) (elem:Nat) (fz:Nat×Nat)
 |map (es:List (AV×AV×Nat)) (clock:Nat)
 |lF (s:List UInt8) (pos:Nat)
 |loop (st:mC) (pend:Option gU) (fn k:Nat) (tm:T AV) (defers:Nat)
 |deferred (calls:Option (List aM))
structure ar where
 t:T bH
 au:Nat
namespace ar
def get(H:ar)(b:Nat):Option bH:=H.t.get b
def set(H:ar)(b:Nat)(o:bH):ar:={H with t:=H.t.set b o}
def alloc(H:ar)(o:bH):ar:={t:=H.t.set H.au o,au:=H.au+1}
def kill(H:ar)(b:Nat):ar:={H with t:=H.t.put b none}
def bT(H:ar)(b:Nat):Option (List AV) :=
 match H.get b with
 |some (.row c _ _ _)=>some c
 |some (.grown _ _ c _ _)=>some c
 |_=>none
end ar
def ar.ae(H:ar)(b o:Nat):Option AV:=(H.bT b).bind λ l=>nth l o
def ar.gI(H:ar)(b:Nat):Option (List (AV×AV×Nat)×Nat) :=
 match H.get b with
 |some (.map es c)=>some (es,c)
 |_=>none
def ar.aq(H:ar)(b o n:Nat):Option (List AV):=(H.bT b).bind λ l=>fG l o n
def dY(fz:Nat×Nat)(o n:Nat):Bool:=Nat.ble (o+n) fz.1 ||Nat.ble fz.2 o
def av:AV->Bool
 | .agg _| .tuple _=>false
 |_=>true
def aJ(l:List AV):Bool:=List.rec (motive:=λ _=>Bool) true (λ x _ ih=>cond (av x) ih false) l
def ar.store(H:ar)(b o:Nat)(new:List AV):Option ar :=
 cond (aJ new) (match H.get b with
  |some (.row c e fz true)=>cond (dY fz o (cQ new)) ((putAt o new c).bind λ c'=>some (H.set b (.row c' e fz true))) none
  |some (.grown m s c e fz)=>cond (dY fz o (cQ new)) ((putAt o new c).bind λ c'=>some (H.set b (.grown m s c' e fz))) none
  |_=>none) none
def qU(tm:T AV):bI->Option AV
 | .tmp t=>tm.get t
 | .const v=>some v
 | .d8 g=>some (.ptr g 0)
 | .func f=>some (.fn (.func f) [] [])
def lK(tm:T AV):List bI->Option (List AV)
 |[]=>some []
 |x::xs=>(qU tm x).bind λ v=>(lK tm xs).bind λ vs=>some (v::vs)
structure Ev where
 run:T AV->Option AV
structure Evs where
 run:T AV->Option (List AV)
def LM:bI->Ev
 | .tmp t=>⟨(T.nO (T.path t)).run⟩
 | .const v=>⟨λ _=>some v⟩
 | .d8 g=>⟨λ _=>some (.ptr g 0)⟩
 | .func f=>⟨λ _=>some (.fn (.func f) [] [])⟩
def sY:List bI->Evs
 |[]=>⟨λ _=>some []⟩
 |[x]=>⟨λ tm=>((LM x).run tm).bind λ v=>some [v]⟩
 |x::xs=>⟨λ tm=>((LM x).run tm).bind λ v=>((sY xs).run tm).bind λ vs=>some (v::vs)⟩
def rI(a b:Int):Bool:=match a,b with
 | .ofNat m,.ofNat n=>Nat.ble m n
 | .ofNat _,.negSucc _=>false
 | .negSucc _,.ofNat _=>true
 | .negSucc m,.negSucc n=>Nat.ble n m
def yY(a b:Int):Bool:=!rI b a
def tP(a b:Int):Bool:=match a,b with
 | .ofNat m,.ofNat n=>Nat.beq m n
 | .negSucc m,.negSucc n=>Nat.beq m n
 |_,_=>false
def kE:IntKind->Nat
 | .i8=>0| .i16=>1| .i32=>2| .i64=>3| .u8=>4| .u16=>5| .u32=>6| .u64=>7
def sJ(a b:IntKind):Bool:=Nat.beq (kE a) (kE b)
def BS(a b:UInt8):Bool:=Nat.beq a.toNat b.toNat
def yV:List UInt8->List UInt8->Bool
 |[],[]=>true
 |a::x,b::y=>cond (BS a b) (yV x y) false
 |_,_=>false
inductive aP where
 |int|str|bool
 |nil
 |part (off:Nat) (n:Option Nat) (t rest:aP)
def partAt(l:List AV)(off:Nat):Option Nat->Option AV
 |none=>nth l off
 |some k=>(fG l off k).bind λ c=>some (.agg c)
def bj:aP->AV->AV->Option Bool
 | .int,.int k a,.int k' b=>cond (sJ k k') (some (tP a b)) none
 | .str,.str a,.str b=>some (yV a b)
 | .bool,.bool a,.bool b=>some (a == b)
 | .nil,.agg _,.agg _=>some true
 | .part off n t rest,.agg x,.agg y=>(partAt x off n).bind λ a=>(partAt y off n).bind λ b=>(bj t a b).bind λ q =>
  cond q (bj rest (.agg x) (.agg y)) (some false)
 |_,_,_=>none
def cW:aP->AV->Bool
 | .int,.int _ _=>true
 | .str,.str _=>true
 | .bool,.bool _=>true
 | .nil,.agg _=>true
 | .part off n t rest,.agg x=>match partAt x off n with
  |some a=>cond (cW t a) (cW rest (.agg x)) false
  |none=>false
 |_,_=>false
def bytesLess:List UInt8->List UInt8->Bool
 |_,[]=>false
 |[],_::_=>true
 |a::x,b::y=>Nat.blt a.toNat b.toNat ||(BS a b && bytesLess x y)
def qE(op:BinOp)(a b:List UInt8):Option AV :=
 match op with
 | .add=>cond (Nat.ble (a.length+b.length) 140737488355328) (some (.str (a++b))) none
 | .eql=>some (.bool (yV a b))
 | .neq=>some (.bool (!(yV a b)))
 | .lss=>some (.bool (bytesLess a b))
 | .leq=>some (.bool (bytesLess a b ||yV a b))
 | .gtr=>some (.bool (!(bytesLess a b ||yV a b)))
 | .geq=>some (.bool (!bytesLess a b))
 |_=>none
def aj(k:IntKind)(n:Int):Int:=k.wrap n
def gf(op:BinOp)(k:IntKind)(a b:Int):Option AV :=
 match op with
 | .add=>some (.int k (aj k (a+b)))
 | .sub=>some (.int k (aj k (a-b)))
 | .mul=>some (.int k (aj k (a*b)))
 | .quo=>cond (tP b 0) none (some (.int k (aj k (a.tdiv b))))
 | .rem=>cond (tP b 0) none (some (.int k (a.tmod b)))
 | .and=>some (.int k (aj k ((BitVec.ofInt k.bits a &&& BitVec.ofInt k.bits b).toNat)))
 | .or=>some (.int k (aj k ((BitVec.ofInt k.bits a |||BitVec.ofInt k.bits b).toNat)))
 | .xor=>some (.int k (aj k ((BitVec.ofInt k.bits a ^^^ BitVec.ofInt k.bits b).toNat)))
 | .andNot=>some (.int k (aj k ((BitVec.ofInt k.bits a &&& ~~~(BitVec.ofInt k.bits b)).toNat)))
 | .eql=>some (.bool (tP a b))
 | .neq=>some (.bool (!tP a b))
 | .lss=>some (.bool (yY a b))
 | .leq=>some (.bool (rI a b))
 | .gtr=>some (.bool (yY b a))
 | .geq=>some (.bool (rI b a))
 |_=>none
inductive tu where
 |bool|ptr|slice|map|func|iface
 |ifaces (f:Nat->Option aP)
 |agg (t:aP)
def rN(isNil isSome:AV->Bool)(x y:AV):Option Bool :=
 cond (isNil x) (cond (isNil y) (some true) (cond (isSome y) (some false) none)) (cond (isSome x && isNil y) (some false) none)
def DW:AV->Bool
 | .nils=>true
 |_=>false
def isSlice:AV->Bool
 | .slice ..=>true
 | .gslice ..=>true
 | .eslice _=>true
 |_=>false
def AG:AV->Bool
 | .lI=>true
 |_=>false
def isMap:AV->Bool
 | .map _=>true
 |_=>false
def zG:AV->Bool
 | .nilf=>true
 |_=>false
def Pe:AV->Bool
 | .fn ..=>true
 |_=>false
def A7:AV->Bool
 | .nili=>true
 |_=>false
def isIface:AV->Bool
 | .iface ..=>true
 |_=>false
def wT(H:ar)(b b':Nat):Bool :=
 match H.get b,H.get b' with
 |some (.row _ _ (0,0) true),some (.row (_::_) _ _ _)=>true
 |some (.row (_::_) _ _ _),some (.row _ _ (0,0) true)=>true
 |_,_=>false
def sD(op:BinOp)(k:IntKind)(a b:Int):Option AV :=
 cond (yY b 0) none (match op with
  | .shl=>some (.int k (aj k (a*2 ^ (min b.toNat k.bits))))
  |_=>some (.int k (a.fdiv (2 ^ (min b.toNat k.bits)))))
def dR:BinOp->Bool
 | .shl| .shr=>true
 |_=>false
def Ho(H:ar):tu->AV->AV->Option Bool
 | .bool,.bool a,.bool b=>some (a == b)
 | .ptr,.nilp,.nilp=>some true
 | .ptr,.nilp,.ptr _ _=>some false
 | .ptr,.ptr _ _,.nilp=>some false
 | .ptr,.ptr b o,.ptr b' o'=>cond (Nat.beq b b') (some (Nat.beq o o')) (cond (wT H b b') (some false) none)
 | .slice,x,y=>rN DW isSlice x y
 | .map,x,y=>rN AG isMap x y
 | .func,x,y=>rN zG Pe x y
 | .iface,x,y=>rN A7 isIface x y
 | .ifaces f,.iface t a,.iface u b=>cond (Nat.beq t u) ((f t).bind λ q=>bj q a b) (some false)
 | .ifaces _,.nili,.iface _ _=>some false
 | .ifaces _,.iface _ _,.nili=>some false
 | .agg t,x,y=>bj t x y
 |_,_,_=>none
def mS(op:BinOp)(x y:AV):Option AV :=
 match x,y with
 | .int k a,.int k' b=>cond (dR op) (sD op k a b) (cond (sJ k k') (gf op k a b) none)
 | .str a,.str b=>qE op a b
 |_,_=>none
def unV(op:UnOp)(x:AV):Option AV :=
 match op,x with
 | .neg,.int k n=>some (.int k (aj k (0-n)))
 | .xor,.int k n=>gf .xor k (if k.signed then -1 else k.max) n
 | .not,.bool b=>some (.bool (!b))
 |_,_=>none
def iP(cells:List AV):List (Nat×Nat)->List AV->Option (List AV)
 |[],[]=>some cells
 |(off,size)::ps,v::vs=>cond (Nat.beq (cQ v.cells) size) ((putAt off v.cells cells).bind λ c=>iP c ps vs) none
 |_,_=>none
def fq(n:Nat)(z:List AV):List AV :=
 match n with
 |0=>[]
 |n+1=>jU z (fq n z)
def within(i:Int)(n:Nat):Option Nat:=match i with
 | .ofNat k=>cond (Nat.blt k n) (some k) none
 | .negSucc _=>none
def arg(vs:List AV):Option Nat->Option (Option AV)
 |none=>some none
 |some i=>(nth vs i).bind λ v=>some (some v)
def bound(v:Option AV)(d mx:Nat):Option Nat :=
 match v with
 |none=>some d
 |some (.int _ (.ofNat i))=>cond (Nat.ble i mx) (some i) none
 |_=>none
def eN(size:Nat)(x:AV)(lo hi mx:Option AV):Option AV :=
 match x with
 | .nils=>match mx with
  |none=>(bound hi 0 0).bind λ h=>(bound lo 0 h).bind λ _=>some .nils
  |some _=>none
 | .slice b o n c=>match mx,hi with
  |some _,none=>none
  |mx,hi=>(bound mx c c).bind λ m=>(bound hi n m).bind λ h=>(bound lo 0 h).bind λ l =>
   some (.slice b (cond (Nat.beq m l) o (o+l*size)) (h-l) (m-l))
 | .gslice b i m s alt n =>
  cond (Nat.beq s size && Nat.ble i m) (match mx,hi with
   |none,hi=>(bound hi n (m-i)).bind λ h=>(bound lo 0 h).bind λ l =>
    cond (Nat.ble h (m-i)) (some (.gslice b (i+l) m s (cond (Nat.beq l 0) alt (i*s)) (h-l))) none
   |some _,none=>none
   |mx,hi=>(bound mx 0 (m-i)).bind λ x=>(bound hi 0 x).bind λ h=>(bound lo 0 h).bind λ l =>
    cond (Nat.beq x l) none (some (.slice b ((i+l)*s) (h-l) (x-l)))) none
 | .eslice b=>match mx with
  |none=>(bound hi 0 0).bind λ h=>(bound lo 0 h).bind λ _=>some (.eslice b)
  |some _=>none
 |_=>none
def eY:AV->Option Nat
 | .str s=>some (cQ s)
 | .nils=>some 0
 | .slice _ _ n _=>some n
 | .gslice _ _ _ _ _ n=>some n
 | .eslice _=>some 0
 |_=>none
def elemAt(size:Nat)(x:AV)(j:Nat):Option (Nat×Nat) :=
 match x with
 | .slice b o n _=>cond (Nat.blt j n) (some (b,o+j*size)) none
 | .gslice b i m s _ n=>cond (Nat.blt j n && Nat.beq s size && Nat.blt (i+j) m) (some (b,i*s+j*s)) none
 |_=>none
def firstCells(H:ar)(size n:Nat)(x:AV):Option (List AV) :=
 match x with
 | .nils=>some []
 | .str s=>cond (Nat.beq size 1) (some ((s.take n).map λ b=>.int .u8 b.toNat)) none
 | .slice b o _ _=>cond (Nat.beq n 0) (some []) (H.aq b o (n*size))
 | .gslice b i m s _ _=>cond (Nat.beq n 0) (some []) (cond (Nat.beq s size && Nat.blt i m) (H.aq b (i*s) (n*size)) none)
 | .eslice _=>cond (Nat.beq n 0) (some []) none
 |_=>none
def eK(n:Int):AV:=.int .i64 n
def findKey(t:aP)(k:AV):List (AV×AV×Nat)->Nat->Option (Option (Nat×AV))
 |[],_=>some none
 |(k',v,_)::es,i=>(bj t k k').bind λ q=>cond q (some (some (i,v))) (findKey t k es (i+1))
def FB(c:UInt8):List UInt8->Nat->Option Nat
 |[],_=>none
 |x::l,i=>cond (BS x c) (some i) (FB c l (i+1))
def uv(c:UInt8):List UInt8->Nat
 |[]=>0
 |x::l=>cond (BS x c) (uv c l+1) (uv c l)
def byteOf:AV->Option UInt8
 | .int .u8 n=>some (UInt8.ofNat n.toNat)
 |_=>none
def bytesOf:List AV->Option (List UInt8)
 |[]=>some []
 |x::l=>(byteOf x).bind λ b=>(bytesOf l).bind λ r=>some (b::r)
def fits(n bytes:Nat):Bool:=Nat.ble (n*bytes) 140737488355328 && Nat.ble n 140737488355328
def dk(H:ar)(e size n:Nat)(cells:List AV)(fz:Nat×Nat):AV×ar :=
 (.gslice H.au 0 n size 0 n,H.alloc (.grown n size cells e fz))
def cV(H:ar)(e size bytes:Nat)(s:AV)(n:Nat)(new:List AV):Option (AV×ar) :=
 match s with
 | .nils=>cond (Nat.beq n 0) (some (.nils,H)) (cond (fits n bytes && Nat.blt 0 size) (some (dk H e size n new (0,0))) none)
 | .slice b o len c =>
  cond (Nat.ble (len+n) c)
   (cond (Nat.beq n 0) (some (.slice b o (len+n) c,H)) ((H.store b (o+len*size) new).bind λ H'=>some (.slice b o (len+n) c,H')))
   (cond (fits (len+n) bytes && Nat.ble c (len+n) && Nat.blt 0 size)
    ((firstCells H size len (.slice b o len c)).bind λ old=>some (dk H e size (len+n) (jU old new) (0,0))) none)
 | .gslice b i m sz alt len =>
  cond (Nat.beq n 0) (cond (Nat.ble (i+len) m) (some (.gslice b i m sz alt len,H)) none) (cond (Nat.beq sz size && Nat.ble (i+len) m && Nat.blt 0 size)
   (cond (Nat.ble (i+len+n) m)
    ((H.store b ((i+len)*size) new).bind λ H'=>some (.gslice b i m sz alt (len+n),H'))
    (cond (fits (len+n) bytes) (match H.get b with
     |some (.grown m' sz' c e' fz) =>
      cond (Nat.beq m m' && Nat.beq sz sz' && Nat.beq e' e)
       (cond (Nat.beq i 0 && Nat.beq len m && Nat.ble fz.2 (m*size)) (some (dk (H.kill b) e size (len+n) (jU c new) fz)) (cond (Nat.ble fz.2 (i*size))
        ((fG c (i*size) (len*size)).bind λ old=>some (dk (H.kill b) e size (len+n) (jU old new) (cond (Nat.beq fz.1 fz.2) (0,0) (1,0))))
        (cond (Nat.beq i 0 && Nat.ble fz.2 (len*size))
         ((fG c 0 (len*size)).bind λ old=>some (dk (H.kill b) e size (len+n) (jU old new) fz)) none))) none
     |_=>none) none)) none)
 |_=>none
namespace Op
def fail:List AV->Option AV:=λ _=>none
def move:List AV->Option AV
 |[v]=>some v
 |_=>none
def pick:List AV->Option AV
 |[.bool q,a,b]=>some (cond q a b)
 |_=>none
def build(zero:List AV)(places:List (Nat×Nat))(vs:List AV):Option AV :=
 (iP zero places vs).bind λ c=>some (.agg c)
def nilCheck:List AV->Option AV
 |[.nilp]|[.nili]|[.nilf]=>none
 |[.fn (.func f) a b]=>some (.fn (.func f) a b)
 |[.fn _ _ _]=>none
 |[v]=>some v
 |_=>none
def bin(op:BinOp):List AV->Option AV
 |[x,y]=>mS op x y
 |_=>none
def eq(t:tu)(neg:Bool):List AV->ar->Option AV
 |[x,y],H=>(Ho H t x y).bind λ q=>some (.bool (cond neg (!q) q))
 |_,_=>none
def un(op:UnOp):List AV->Option AV
 |[x]=>unV op x
 |_=>none
def wrap(k:IntKind):List AV->Option AV
 |[.int _ n]=>some (.int k (aj k n))
 |_=>none
def dC:List AV->Option AV
 |[.int _ n]=>cond (rI 0 n && yY n 128) (some (.str [UInt8.ofNat n.toNat])) none
 |_=>none
def eC:List AV->Option AV
 |[.str s]=>some (.str s)
 |_=>none
def dp(t:Nat):List AV->Option AV
 |[v]=>some (.iface t v)
 |_=>none
def bD(f nf:Nat)(l:List AV):Option AV:=some (.fn (.func f) (l.take nf) (l.drop nf))
def dD:List (Option Nat)->List AV->Option AV
 |[lo,hi],.str s::vs =>
  (arg vs hi).bind λ b=>(arg vs lo).bind λ a=>(bound b s.length s.length).bind λ h=>(bound a 0 h).bind λ l=>some (.str ((s.take h).drop l))
 |_,_=>none
def aL(size:Nat):List (Option Nat)->List AV->Option AV
 |[lo,hi,mx],x::vs=>(arg vs lo).bind λ a=>(arg vs hi).bind λ b=>(arg vs mx).bind λ m=>eN size x a b m
 |_,_=>none
def cD(n size:Nat):List (Option Nat)->List AV->Option AV
 |[lo,hi,mx],.ptr p o::vs=>(arg vs lo).bind λ a=>(arg vs hi).bind λ b=>(arg vs mx).bind λ m=>eN size (.slice p o n n) a b m
 |_,_=>none
def fieldAddr(off:Nat):List AV->Option AV
 |[.ptr b o]=>some (.ptr b (o+off))
 |_=>none
def field(off:Nat)(n:Option Nat):List AV->Option AV
 |[.agg l]=>partAt l off n
 |_=>none
def aO(size:Nat):List AV->Option AV
 |[x,.int _ j]=>(eY x).bind λ n=>(within j n).bind λ k=>(elemAt size x k).bind λ p=>some (.ptr p.1 p.2)
 |_=>none
def aS(len size:Nat):List AV->Option AV
 |[.ptr b o,.int _ j]=>(within j len).bind λ k=>some (.ptr b (o+k*size))
 |_=>none
def bA(len size:Nat)(n:Option Nat):List AV->Option AV
 |[.agg l,.int _ j]=>(within j len).bind λ k=>partAt l (k*size) n
 |_=>none
def bK:List AV->Option AV
 |[.str s,.int _ j]=>(within j s.length).bind λ k=>(nth s k).bind λ b=>some (.int .u8 b.toNat)
 |_=>none
def typeAssert(t:Nat)(ok:Bool)(zero:AV):List AV->Option AV
 |[.nili]=>cond ok (some (.tuple [zero,.bool false])) none
 |[.iface u v]=>cond (Nat.beq u t) (some (cond ok (.tuple [v,.bool true]) v)) (cond ok (some (.tuple [zero,.bool false])) none)
 |_=>none
def extract(i:Nat):List AV->Option AV
 |[.tuple l]=>nth l i
 |_=>none
def fg:List AV->Option AV
 |[.str s]=>some (eK (cQ s))
 |_=>none
def dc:List AV->Option AV
 |[.nils]=>some (eK 0)
 |[.slice _ _ n _]=>some (eK n)
 |[.gslice _ _ _ _ _ n]=>some (eK n)
 |[.eslice _]=>some (eK 0)
 |_=>none
def oe(n:Nat):List AV->Option AV
 |[_]=>some (eK n)
 |_=>none
def cap:List AV->Option AV
 |[.nils]=>some (eK 0)
 |[.slice _ _ _ c]=>some (eK c)
 |_=>none
def qw(mx:Bool):Int->List AV->Option Int
 |a,[]=>some a
 |a,.int _ b::l=>qw mx (cond mx (cond (yY a b) b a) (cond (yY b a) b a)) l
 |_,_=>none
def gw(mx:Bool):List AV->Option AV
 | .int k a::l=>(qw mx a l).bind λ r=>some (.int k r)
 |_=>none
def cZ:List AV->Option AV
 |[.nils]=>some .nilp
 |[.slice b o _ c]=>cond (Nat.beq c 0) none (some (.ptr b o))
 |[.gslice b i m s _ _]=>cond (Nat.blt i m) (some (.ptr b (i*s))) none
 |_=>none
def dG:List AV->Option AV
 |[x]=>some x
 |_=>none
def aD:List AV->Option AV
 |[.str s,.int .u8 c]=>some (eK (match FB (UInt8.ofNat c.toNat) s 0 with|some i=>i|none=>-1))
 |_=>none
def bP:List AV->Option AV
 |[.str s,.int .u8 c]=>some (eK (Int.ofNat (uv (UInt8.ofNat c.toNat) s)))
 |_=>none
def ae:List AV->ar->Option AV
 |[.ptr b o],H=>H.ae b o
 |_,_=>none
def aq(n:Nat):List AV->ar->Option AV
 |[.ptr b o],H=>(H.aq b o n).bind λ l=>some (.agg l)
 |_,_=>none
def cq:List AV->ar->Option AV
 |[.str _],_=>none
 |[v],H=>(eY v).bind λ n=>(firstCells H 1 n v).bind λ l=>(bytesOf l).bind λ s=>some (.str s)
 |_,_=>none
def lookup(key:aP)(zero:AV)(ok:Bool):List AV->ar->Option AV
 |[.lI,k],_=>cond (cW key k) (some (cond ok (.tuple [zero,.bool false]) zero)) none
 |[.map b,k],H=>cond (cW key k) ((H.gI b).bind λ m=>(findKey key k m.1 0).bind λ r=>match r with
  |some p=>some (cond ok (.tuple [p.2,.bool true]) p.2)
  |none=>some (cond ok (.tuple [zero,.bool false]) zero)) none
 |_,_=>none
def gj:List AV->ar->Option AV
 |[.lI],_=>some (eK 0)
 |[.map b],H=>(H.gI b).bind λ m=>some (eK m.1.length)
 |_,_=>none
def eB(lies:Nat->Nat->Nat->Bool):List AV->ar->Option AV
 |[.nilp],_=>some .nilp
 |[.ptr b o],H=>match H.get b with
  |some (.row c e _ true)=>cond (lies e c.length o) (some (.ptr b o)) none
  |_=>none
 |_,_=>none
def ptrTo(b:Nat):AV:=.ptr b 0
def alloc(e:Nat)(zero:List AV):List AV->Option (bH×(Nat->AV))
 |[]=>some (.row zero e (0,0) true,ptrTo)
 |_=>none
def box(e:Nat):List AV->Option (bH×(Nat->AV))
 |[v]=>some (.row v.cells e (0,0) true,ptrTo)
 |_=>none
def sliceTo(n m:Nat)(b:Nat):AV:=.slice b 0 n m
def buildSlice(e n:Nat)(zero:List AV)(places:List (Nat×Nat))(vs:List AV):Option (bH×(Nat->AV)) :=
 (iP (fq n zero) places vs).bind λ c=>some (.row c e (0,0) true,sliceTo n n)
def mkMap:List AV->Option (bH×(Nat->AV))
 |[]=>some (.map [] 0,.map)
 |_=>none
def mkSlice(e bytes:Nat)(zero:List AV):List AV->Option (bH×(Nat->AV))
 |[.int _ n,.int _ m]=>cond (rI 0 n && rI n m && rI (m*bytes) 140737488355328 && rI m 140737488355328)
  (some (.row (fq m.toNat zero) e (0,0) true,sliceTo n.toNat m.toNat)) none
 |_=>none
def tK(m n:Nat)(b:Nat):AV:=.gslice b 0 m 1 0 n
def cm(e:Nat):List AV->Option (bH×(Nat->AV))
 |[.str s]=>cond (Nat.ble s.length 140737488355328) (some (.grown s.length 1 (s.map λ b=>.int .u8 b.toNat) e (1,0),tK s.length s.length)) none
 |_=>none
def dF:List AV->Option (bH×(Nat->AV))
 |[.str s]=>some (.lF s 0,ptrTo)
 |_=>none
def makeNoZero(e:Nat):List AV->Option (bH×(Nat->AV))
 |[.int .i64 n]=>cond (rI 0 n && rI n 140737488355328) (some (.grown 0 1 [] e (0,0),tK 0 n.toNat)) none
 |_=>none
def store(n:Nat):List AV->ar->Option (AV×ar)
 |[.ptr b o,v],H=>cond (Nat.beq (cQ v.cells) n) ((H.store b o v.cells).bind λ H'=>some (.undef,H')) none
 |_,_=>none
def tj:AV->AV->Bool
 | .int k a,.int k' b=>sJ k k' && tP a b
 | .str a,.str b=>yV a b
 | .bool a,.bool b=>a == b
 |_,_=>false
def eT:List AV->List AV->Bool
 |[],[]=>true
 |a::x,b::y=>cond (tj a b) (eT x y) false
 |_,_=>false
def stays:AV->AV->Bool
 | .agg a,.agg b=>eT a b
 |a,b=>tj a b
def mapUpdate(key:aP):List AV->ar->Option (AV×ar)
 |[.map b,k,v],H=>cond (cW key k) ((H.gI b).bind λ m=>(findKey key k m.1 0).bind λ r=>match r with
  |some p=>(nth m.1 p.1).bind λ e=>cond (stays e.1 k) (some (.undef,H.set b (.map (m.1.modify p.1 λ e=>(k,v,e.2.2)) m.2))) none
  |none=>some (.undef,H.set b (.map (m.1 ++ [(k,v,m.2)]) (m.2+1)))) none
 |_,_=>none
def cX(key:aP):List AV->ar->Option (AV×ar)
 |[.lI,k],H=>cond (cW key k) (some (.tuple [],H)) none
 |[.map b,k],H=>cond (cW key k) ((H.gI b).bind λ m=>(findKey key k m.1 0).bind λ r=>match r with
  |some p=>some (.tuple [],H.set b (.map (m.1.eraseIdx p.1) m.2))
  |none=>some (.tuple [],H.set b (.map m.1 m.2))) none
 |_,_=>none
def eF:List AV->ar->Option (AV×ar)
 |[.ptr b 0],H=>match H.get b with
  |some (.lF s p)=>match nth s p with
   |some c=>cond (Nat.blt c.toNat 128) (some (.tuple [.bool true,eK p,.int .i32 c.toNat],H.set b (.lF s (p+1)))) none
   |none=>some (.tuple [.bool false],H)
  |_=>none
 |_,_=>none
def append(e size bytes:Nat):List AV->ar->Option (AV×ar)
 |[a,b],H=>(eY b).bind λ n=>(firstCells H size n b).bind λ new=>cond (aJ new) (cV H e size bytes a n new) none
 |_,_=>none
def copy(size:Nat):List AV->ar->Option (AV×ar)
 |[.str _,_],_=>none
 |[d,r],H=>(eY d).bind λ dn=>(eY r).bind λ rn=>(firstCells H size (min rn dn) r).bind λ l =>
  cond (Nat.beq (min rn dn) 0) (some (eK 0,H)) ((elemAt size d 0).bind λ p=>(H.store p.1 p.2 l).bind λ H'=>some (eK (min rn dn),H'))
 |_,_=>none
def bS(zero:List AV):List AV->ar->Option (AV×ar)
 |[.str _],_=>none
 |[x],H=>(eY x).bind λ n=>cond (Nat.beq n 0) (some (.tuple [],H))
  ((elemAt zero.length x 0).bind λ p=>(H.store p.1 p.2 (fq n zero)).bind λ H'=>some (.tuple [],H'))
 |_,_=>none
def bO:List AV->ar->Option (AV×ar)
 |[.lI],H=>some (.tuple [],H)
 |[.map b],H=>(H.gI b).bind λ m=>some (.tuple [],H.set b (.map [] m.2))
 |_,_=>none
def vF(fz:Nat×Nat)(o n:Nat):Nat×Nat:=cond (Nat.beq fz.1 fz.2) (o,o+n) (min fz.1 o,max fz.2 (o+n))
def eD:List AV->ar->Option (AV×ar)
 |[.slice b o n c],H=>match H.get b with
  |some (.row cs e fz true)=>some (.slice b o n c,H.set b (.row cs e (vF fz (cQ cs) 1) true))
  |_=>none
 |_,_=>none
def dA(u:Nat):List AV->ar->Option (AV×ar)
 |[.nilp,.int _ k],H=>cond (tP k 0) (some (.str [],H)) none
 |[.ptr b o,.int _ k],H=>cond (tP k 0) (some (.str [],H)) (cond (yY k 0 ||yY 140737488355328 k) none (match H.get b with
  |some (.row c e fz true)=>cond (Nat.beq e u) ((fG c o k.toNat).bind λ l=>(bytesOf l).bind λ s=>some (.str s,H.set b (.row c e (vF fz o k.toNat) true))) none
  |some (.grown m z c e fz)=>cond (Nat.beq e u && Nat.ble fz.1 fz.2) ((fG c o k.toNat).bind λ l=>(bytesOf l).bind λ s=>some (.str s,H.set b (.grown m z c e (vF fz o k.toNat)))) none
  |_=>none))
 |_,_=>none
end Op
inductive ft where
 |pure (f:List AV->Option AV)
 |read (f:List AV->ar->Option AV)
 |alloc (f:List AV->Option (bH×(Nat->AV)))
 |gJ (f:List AV->ar->Option (AV×ar))
 |gY (f:Nat)
 |gS
 |invoke (name:String)
 |recover
 |defer
 |panic
structure aN where
 gW:Bool
 dst:Option Nat
 guard:Option (Nat×Bool)
 args:List bI
 op:ft
 ct:Option (List Nat)
inductive ai where
 |skip
 |region (steps:List aN)
 |seq (a b:ai)
 |cond (c:bI) (thn els:ai)
 |block (id:Nat) (body:ai)
 |loop (ah:Option (List Nat)) (body:ai)
 |rangeFunc (f:bI) (k:Nat)
 |exit (id:Nat)
 |scope (body:ai)
 |label (l:Nat)
 |goto (l:Nat)
 |ret
 |stuck
instance:Inhabited ai:=⟨.skip⟩
structure dZ where
 params:List Nat
 assign:ai
 body:ai
structure cj where
 results:List dX
 body:ai
 loops:List dZ
structure jH where
 func:Nat->Option cj
 jN:Nat->String->Option Nat
abbrev aE:=List (AV×Bool)
structure St where
 tm:T AV
 aX:List aM
 up:Option aE
 H:ar
inductive aU where
 |normal
 |exit (id:Nat)
 |goto (l:Nat)
 |ret
 |panic (chain:aE)
inductive bE where
 |ret (v:AV)
 |panic (chain:aE)
abbrev bU:=Nat->List AV->Option aE->ar->Option (bE×Option aE×ar)
structure Ctx where
 round:Option Nat
 fn:Nat
end
end Go.Am
namespace Go.Am
noncomputable section
def Ju:T AV->List Nat->List AV->Option (T AV)
 |tm,[],[]=>some tm
 |tm,p::ps,v::vs=>Ju (tm.set p v) ps vs
 |_,_,_=>none
def jK:Nat->List AV->T AV->T AV
 |_,[],t=>t
 |i,v::vs,t=>jK (i+1) vs (t.set i v)
def jW:aU->Option gU
 | .exit id=>some (.exit id)
 | .goto l=>some (.goto l)
 | .ret=>some .ret
 |_=>none
def qC:Option gU->aU
 |none=>.normal
 |some (.exit id)=>.exit id
 |some (.goto l)=>.goto l
 |some .ret=>.ret
def yM:aU->Bool
 | .normal=>true
 |_=>false
def Tm(tm:T AV):List Nat->T AV->T AV
 |[],acc=>acc
 |k::ks,acc=>Tm tm ks (acc.put k (tm.get k))
def forget:List Nat->T AV->T AV
 |[],t=>t
 |d::ds,t=>forget ds (t.put d none)
def ey(dst:Option Nat)(v:AV)(tm:T AV):T AV :=
 match dst with
 |some d=>tm.set d v
 |none=>tm
structure Tn where
 run:AV->T AV->T AV
def kZ:Option Nat->Tn
 |some d=>⟨λ v tm=>(T.xI (T.path d)).run (some v) tm⟩
 |none=>⟨λ _ tm=>tm⟩
abbrev gC:=Option (aU×St)
def gE(ah:Option (List Nat))(body:St->gC):Nat->St->gC
 |0,_=>none
 |n+1,st =>
  (body (match ah with|none=>st|some ks=>{st with tm:=Tm st.tm ks .nil})).bind λ r=>match r.1 with
   | .normal=>gE ah body n r.2
   |e=>some (e,r.2)
def D5:ai->Nat->Bool
 | .seq a b,l=>D5 a l ||D5 b l
 | .label l',l=>Nat.beq l' l
 |_,_=>false
mutual
def bY:AV->AV->Bool
 | .bool a,.bool b=>a == b
 | .int k a,.int k' b=>sJ k k' && tP a b
 | .str a,.str b=>yV a b
 | .nilp,.nilp=>true
 | .ptr a b,.ptr c d=>Nat.beq a c && Nat.beq b d
 | .nils,.nils=>true
 | .slice a b c d,.slice a' b' c' d'=>Nat.beq a a' && Nat.beq b b' && Nat.beq c c' && Nat.beq d d'
 | .gslice a b c d e f,.gslice a' b' c' d' e' f'=>Nat.beq a a' && Nat.beq b b' && Nat.beq c c' && Nat.beq d d' && Nat.beq e e' && Nat.beq f f'
 | .eslice a,.eslice b=>Nat.beq a b
 | .lI,.lI=>true
 | .map a,.map b=>Nat.beq a b
 | .nilf,.nilf=>true
 | .nili,.nili=>true
 | .fn (.func f) x a,.fn (.func g) y b=>Nat.beq f g && eT x y && eT a b
 | .fn (.yield f) x a,.fn (.yield g) y b=>Nat.beq f g && eT x y && eT a b
 | .iface t a,.iface u b=>Nat.beq t u && bY a b
 | .agg a,.agg b=>eT a b
 | .tuple a,.tuple b=>eT a b
 |_,_=>false
def eT:List AV->List AV->Bool
 |[],[]=>true
 |x::xs,y::ys=>bY x y && eT xs ys
 |_,_=>false
end
abbrev iD:=List AV->Nat->ar->Option (bE×ar)
structure RT where
 AP:jH
 call:bU
 round:iD
 n:Nat
 ctx:Ctx
def cP(call:bU)(round:iD)(f:lJ)(args:List AV)(H:ar):Option (bE×ar) :=
 match f with
 | .func g=>(call g args none H).bind λ r=>some (r.1,r.2.2)
 | .yield l=>round args l H
def fK(put:AV->T AV->T AV)(ct:Option (List Nat))(st:St)(k:St->gC)(r:bE×ar):gC :=
 match r.1 with
 | .ret v=>k ⟨put v st.tm,st.aX,st.up,r.2⟩
 | .panic c=>ct.bind λ ds=>some (.panic c,⟨forget ds st.tm,st.aX,st.up,r.2⟩)
def NP(put:AV->T AV->T AV)(st:St):St :=
 match st.up with
 |some ((v,false)::older)=>⟨put v st.tm,st.aX,some ((v,true)::older),st.H⟩
 |_=>⟨put .nili st.tm,st.aX,st.up,st.H⟩
def CR(f:List AV->Option AV)(put:AV->T AV->T AV)(st:St)(k:St->gC)(vs:List AV):gC :=
 (f vs).bind λ v=>k ⟨put v st.tm,st.aX,st.up,st.H⟩
def DU(f:List AV->ar->Option AV)(put:AV->T AV->T AV)(st:St)(k:St->gC)(vs:List AV):gC :=
 (f vs st.H).bind λ v=>k ⟨put v st.tm,st.aX,st.up,st.H⟩
def vB(f:List AV->Option (bH×(Nat->AV)))(put:AV->T AV->T AV)(st:St)(k:St->gC)(vs:List AV):gC :=
 (f vs).bind λ r=>k ⟨put (r.2 st.H.au) st.tm,st.aX,st.up,st.H.alloc r.1⟩
def Ja(f:List AV->ar->Option (AV×ar))(put:AV->T AV->T AV)(st:St)(k:St->gC)(vs:List AV):gC :=
 (f vs st.H).bind λ r=>k ⟨put r.1 st.tm,st.aX,st.up,r.2⟩
def Au(f:Nat)(rt:RT)(put:AV->T AV->T AV)(ct:Option (List Nat))(st:St)(k:St->gC)(vs:List AV):gC :=
 (cP rt.call rt.round (.func f) vs st.H).bind λ r=>fK put ct st k r
def AE(rt:RT)(put:AV->T AV->T AV)(ct:Option (List Nat))(st:St)(k:St->gC)(vs:List AV):gC :=
 match vs with
 | .fn (.func f) first cap::args=>(cP rt.call rt.round (.func f) (first++(args++cap)) st.H).bind λ r=>fK put ct st k r
 | .fn (.yield l) first []::args=>(cP rt.call rt.round (.yield l) (first++args) st.H).bind λ r=>fK put ct st k r
 |_=>none
def sk(name:String)(rt:RT)(put:AV->T AV->T AV)(ct:Option (List Nat))(st:St)(k:St->gC)(vs:List AV):gC :=
 match vs with
 | .iface t v::args=>(rt.AP.jN t name).bind λ f=>(cP rt.call rt.round (.func f) (v::args) st.H).bind λ r=>fK put ct st k r
 |_=>none
def Ru(rt:RT)(put:AV->T AV->T AV)(st:St)(k:St->gC)(vs:List AV):gC :=
 match rt.ctx.round with
 |some _=>none
 |none=>match vs with
  |[]=>k (NP put st)
  |_=>none
def vC(rt:RT)(put:AV->T AV->T AV)(st:St)(k:St->gC)(vs:List AV):gC :=
 match rt.ctx.round with
 |some _=>none
 |none=>match vs with
  | .fn (.func f) first cap::args=>k ⟨put .undef st.tm,.fn (.func f) (first++(args++cap))::st.aX,st.up,st.H⟩
  |_=>none
def vH(put:AV->T AV->T AV)(ct:Option (List Nat))(st:St)(k:St->gC)(vs:List AV):gC :=
 match vs with
 |[.iface t v]=>fK put ct st k (.panic [(.iface t v,false)],st.H)
 |_=>none
structure OpC where
 run:RT->St->(St->gC)->List AV->gC
def qA(put:AV->T AV->T AV)(ct:Option (List Nat)):ft->OpC
 | .pure f=>⟨λ _ st k vs=>CR f put st k vs⟩
 | .read f=>⟨λ _ st k vs=>DU f put st k vs⟩
 | .alloc f=>⟨λ _ st k vs=>vB f put st k vs⟩
 | .gJ f=>⟨λ _ st k vs=>Ja f put st k vs⟩
 | .gY f=>⟨λ rt st k vs=>Au f rt put ct st k vs⟩
 | .gS=>⟨λ rt st k vs=>AE rt put ct st k vs⟩
 | .invoke name=>⟨λ rt st k vs=>sk name rt put ct st k vs⟩
 | .recover=>⟨λ rt st k vs=>Ru rt put st k vs⟩
 | .defer=>⟨λ rt st k vs=>vC rt put st k vs⟩
 | .panic=>⟨λ _ st k vs=>vH put ct st k vs⟩
def pP(get:T AV->Option AV)(st:St)(vs:List AV):ft->Bool
 | .read f=>match f vs st.H,get st.tm with
  |some v,some v'=>bY v v'
  |_,_=>false
 |_=>false
def cN(b:Bool):Option AV->Option Bool
 |some (.bool q)=>some (cond q b (!b))
 |some (.tuple [])=>some false
 |_=>none
structure Pt where
 run:RT->(St->gC)->St->gC
def gF(s:aN):Pt :=
 match s.gW with
 |false=>match s.guard with
  |none=>⟨λ rt k st=>((sY s.args).run st.tm).bind λ vs=>(qA (kZ s.dst).run s.ct s.op).run rt st k vs⟩
  |some g=>⟨λ rt k st=>(cN g.2 ((T.nO (T.path g.1)).run st.tm)).bind λ w =>
   cond w (((sY s.args).run st.tm).bind λ vs=>(qA (kZ s.dst).run s.ct s.op).run rt st k vs) (k ⟨(kZ s.dst).run .undef st.tm,st.aX,st.up,st.H⟩)⟩
 |true=>match s.guard,s.dst with
  |none,some d=>⟨λ _ k st=>((sY s.args).run st.tm).bind λ vs=>cond (pP (T.nO (T.path d)).run st vs s.op) (k st) none⟩
  |some g,some d=>⟨λ _ k st=>(cN g.2 ((T.nO (T.path g.1)).run st.tm)).bind λ w =>
   cond w (((sY s.args).run st.tm).bind λ vs=>cond (pP (T.nO (T.path d)).run st vs s.op) (k st) none) (k st)⟩
  |_,none=>⟨λ _ _ _=>none⟩
structure HC where
 run:RT->St->gC
def gQ:List aN->HC
 |[]=>⟨λ _ st=>some (.normal,st)⟩
 |s::rest=>⟨λ rt st=>(gF s).run rt ((gQ rest).run rt) st⟩
def cM(H:ar)(l:Nat)(s:mC)(p:Option gU):Option ar :=
 match H.get l with
 |some (.loop _ _ f k tm d)=>some (H.set l (.loop s p f k tm d))
 |_=>none
def Dl(H:ar)(l:Nat):Option Nat :=
 match H.get l with
 |some (.loop _ _ _ _ _ d)=>some d
 |_=>none
def LV(st:St)(aX:List aM)(l:Nat)(e:bE)(H:ar):gC :=
 match e with
 | .panic c=>some (.panic c,{st with aX:=aX,H:=H})
 | .ret _=>match H.get l with
  |some (.loop .busy _ _ _ _ _)=>none
  |some (.loop _ p f k tm d)=>some (qC p,{st with aX:=aX,H:=H.set l (.loop .exhausted p f k tm d)})
  |_=>none
def iT(call:bU)(round:iD)(ctx:Ctx)(st:St)(k:Nat)(H0:ar)(aX:List aM)(d:Nat):AV->gC
 | .fn (.func g) first cap =>
  (cP call round (.func g) (first++(.fn (.yield H0.au) [] []::cap)) (H0.alloc (.loop .ready none ctx.fn k st.tm d))).bind λ r =>
   LV st aX H0.au r.1 r.2
 |_=>none
def ta(next:RT->St->gC)(rt:RT)(r:aU×St):gC :=
 match r.1 with
 | .normal=>next rt r.2
 |e=>some (e,r.2)
def tG(a b:RT->St->gC)(rt:RT)(st:St)(v:AV):gC :=
 match v with
 | .bool q=>cond q (a rt st) (b rt st)
 |_=>none
def jP(id:Nat)(r:aU×St):gC :=
 match r.1 with
 | .exit id'=>some (cond (Nat.beq id id') .normal (.exit id'),r.2)
 |e=>some (e,r.2)
def kU(b:ai)(r:aU×St):gC :=
 match r.1 with
 | .goto l=>cond (D5 b l) none (some (.goto l,r.2))
 |e=>some (e,r.2)
def qP(rt:RT)(k:Nat)(st:St)(v:AV):gC :=
 match rt.ctx.round with
 |none=>iT rt.call rt.round rt.ctx st k (st.H.alloc (.deferred (some []))) (.iU st.H.au::st.aX) st.H.au v
 |some l=>(Dl st.H l).bind λ d=>iT rt.call rt.round rt.ctx st k st.H st.aX d v
def bG:ai->HC
 | .skip=>⟨λ _ st=>some (.normal,st)⟩
 | .label _=>⟨λ _ st=>some (.normal,st)⟩
 | .region steps=>gQ steps
 | .seq a b=>⟨λ rt st=>((bG a).run rt st).bind (ta (bG b).run rt)⟩
 | .cond c a b=>⟨λ rt st=>((LM c).run st.tm).bind (tG (bG a).run (bG b).run rt st)⟩
 | .block id b=>⟨λ rt st=>((bG b).run rt st).bind (jP id)⟩
 | .loop ah b=>⟨λ rt st=>gE ah ((bG b).run rt) rt.n st⟩
 | .exit id=>⟨λ _ st=>some (.exit id,st)⟩
 | .goto l=>⟨λ _ st=>some (.goto l,st)⟩
 | .ret=>⟨λ _ st=>some (.ret,st)⟩
 | .stuck=>⟨λ _ _=>none⟩
 | .scope b=>⟨λ rt st=>((bG b).run rt st).bind (kU b)⟩
 | .rangeFunc f k=>⟨λ rt st=>((LM f).run st.tm).bind (qP rt k st)⟩
def exec(AP:jH)(call:bU)(round:iD)(n:Nat)(ctx:Ctx)(c:ai)(st:St):gC:=(bG c).run ⟨AP,call,round,n,ctx⟩ st
def Gw(l:Nat)(r:aU×St):Option (bE×ar) :=
 match r.1 with
 | .panic c=>some (.panic c,r.2.H)
 |e=>(cM r.2.H l (cond (yM e) .ready .done) (jW e)).bind λ H=>some (.ret (.bool (yM e)),H)
def beginRound(H:ar)(l:Nat):Option ar :=
 match H.get l with
 |some (.loop .ready p f k tm d)=>some (H.set l (.loop .busy p f k tm d))
 |_=>none
def roundOf(AP:jH)(ex:Ctx->ai->St->gC)(args:List AV)(l:Nat)(H:ar):Option (bE×ar) :=
 match H.get l with
 |some (.loop _ _ f k tm _) =>
  (AP.func f).bind λ fn=>(nth fn.loops k).bind λ lp=>(Ju tm lp.params args).bind λ tm1 =>
  (ex ⟨some l,f⟩ lp.assign {tm:=tm1,aX:=[],up:=none,H:=H}).bind λ r=>match r.1 with
   | .normal=>(beginRound r.2.H l).bind λ H2=>(ex ⟨some l,f⟩ lp.body {r.2 with H:=H2}).bind λ q=>cond (noDefs q.2.aX) (Gw l q) none
   |_=>none
 |_=>none
 where noDefs:List aM->Bool
 |[]=>true
 |_=>false
def Mu(H:ar)(tm:T AV):dX->Option AV
 | .tmp t=>tm.get t
 | .kA a=>(tm.get a).bind λ v=>match v with| .ptr b o=>H.ae b o|_=>none
 | .cL n a=>(tm.get a).bind λ v=>match v with| .ptr b o=>(H.aq b o n).bind λ l=>some (.agg l)|_=>none
def dQ(H:ar)(tm:T AV):List dX->Option (List AV)
 |[]=>some []
 |r::rs=>(Mu H tm r).bind λ v=>(dQ H tm rs).bind λ vs=>some (v::vs)
def iR:List AV->AV
 |[v]=>v
 |l=>.tuple l
def nD(m:Option aE)(up:aE):Option (Option aE) :=
 match m,up with
 |none,[]=>some none
 |some _,(_,true)::_=>some none
 |some _,(v,false)::c=>some (some ((v,false)::c))
 |_,_=>none
def bW(call:bU)(rs:List dX)(tm:T AV):List aM->Option aE->ar->Option (bE×ar)
 |[],none,H=>(dQ H tm rs).bind λ l=>some (.ret (iR l),H)
 |[],some c,H=>some (.panic c,H)
 | .iU b::ds,m,H=>match H.get b with
  |some (.deferred (some []))=>bW call rs tm ds m (H.set b (.deferred none))
  |_=>none
 | .fn (.func f) args::ds,m,H=>(call f args (some (m.getD [])) H).bind λ r =>
  match r.1,r.2.1 with
  | .ret _,some up'=>(nD m up').bind λ m'=>bW call rs tm ds m' r.2.2
  |_,_=>none
 | .fn (.yield _) _::_,_,_=>none
def pJ(call:bU)(fn:cj)(r:aU×St):Option (bE×Option aE×ar) :=
 let fin (m:Option aE):Option (bE×Option aE×ar):=(bW call fn.results r.2.tm r.2.aX m r.2.H).bind λ q=>some (q.1,r.2.up,q.2)
 match r.1 with
 | .normal=>fin none
 | .ret=>fin none
 | .panic c=>fin (some c)
 |_=>none
def rounds(AP:jH)(call:bU)(m:Nat):Nat->iD
 |0=>λ _ _ _=>none
 |n+1=>roundOf AP (exec AP call (rounds AP call m n) m)
def EJ(AP:jH)(call:bU)(n:Nat):bU:=λ f args up H =>
 (AP.func f).bind λ fn =>
  (exec AP call (rounds AP call n n) n ⟨none,f⟩ fn.body {tm:=jK 0 args .nil,aX:=[],up:=up,H:=H}).bind λ r =>
   pJ call fn r
def Av(AP:jH):Nat->bU
 |0=>λ _ _ _ _=>none
 |n+1=>EJ AP (Av AP n) n
def jS(AP:jH)(told:bU):Nat->bU
 |0=>told
 |n+1=>λ f args up H=>match told f args up H with
  |some r=>some r
  |none=>EJ AP (jS AP told n) n f args up H
end
end Go.Am
namespace Go.Am
noncomputable section
mutual
def fN:Value->Option AV
 | .bool b=>some (.bool b)
 | .int k n=>some (.int k n)
 | .string s=>some (.str s.data.toList)
 | .pointer none=>some .nilp
 | .slice none 0 0=>some .nils
 | .map none=>some .lI
 | .nilFunc=>some .nilf
 | .nilIface=>some .nili
 | .iface t v=>(fN v).bind λ x=>some (.iface t x)
 | .agg cs=>(nq cs.toList).bind λ l=>some (.agg l)
 | .tuple cs=>(nq cs.toList).bind λ l=>some (.tuple l)
 |_=>none
def nq:List Value->Option (List AV)
 |[]=>some []
 |v::vs=>(fN v).bind λ x=>(nq vs).bind λ xs=>some (x::xs)
end
def qL(G:Nat):Operand->Option bI
 | .tmp t=>some (.tmp t)
 | .const v=>(fN v).bind λ x=>some (.const x)
 | .global g=>if Nat.blt g G then some (.d8 g)else none
 | .func f=>some (.func f)
def nG(G:Nat):List Operand->Option (List bI)
 |[]=>some []
 |x::xs=>(qL G x).bind λ y=>(nG G xs).bind λ ys=>some (y::ys)
def zeroOf(P:Program)(t:TypeId):Option AV:=((P.info? t).bind (·.zero)).bind fN
def bN(P:Program)(t:TypeId):Option Nat:=(P.info? t).bind λ i=>some i.size
def mz(P:Program)(t:TypeId):Option Nat:=(P.info? t).bind λ i=>some i.bytes
def nF(P:Program)(t:TypeId):Option (Option Nat) :=
 match P.underlying t with
 |some (.struct _)|some (.array _ _)=>(bN P t).bind λ n=>some (some n)
 |some _=>some none
 |none=>none
def dm(P:Program):Nat->TypeId->Option aP
 |0,_=>none
 |d+1,t=>match P.underlying t with
  |some (.int _)=>some .int
  |some .string=>some .str
  |some .bool=>some .bool
  |some (.struct fs)=>if P.stoodInHeld t then none else fieldsT (dm P d) fs.toList
  |some (.array n e)=>(bN P e).bind λ s=>(nF P e).bind λ a=>(dm P d e).bind λ q=>some (itemsT s a q n 0)
  |_=>none
 where
 fieldsT (go:TypeId->Option aP):List Field->Option aP
  |[]=>some .nil
  |f::fs=>if f.name = "_" then none else(nF P f.type).bind λ a=>(go f.type).bind λ q=>(fieldsT go fs).bind λ r=>some (.part f.offset a q r)
 itemsT (s:Nat) (a:Option Nat) (q:aP):Nat->Nat->aP
  |0,_=>.nil
  |n+1,i=>.part (i*s) a q (itemsT s a q n (i+1))
def qG(P:Program)(t:TypeId):Option aP:=dm P 20 t
def gq:Nat->List (Option Operand)->List (Option Nat)
 |_,[]=>[]
 |n,none::r=>none::gq n r
 |n,some _::r=>some n::gq (n+1) r
def jQ:List (Option Operand)->List Operand
 |[]=>[]
 |none::r=>jQ r
 |some x::r=>x::jQ r
def BM(pl:Nat->Option (Nat×Nat)):List (Nat×Operand)->Option (List (Nat×Nat))
 |[]=>some []
 |(i,_)::r=>(pl i).bind λ p=>(BM pl r).bind λ l=>some (p::l)
def Mr(P:Program)(fs:Array Field)(i:Nat):Option (Nat×Nat):=(fs[i]?).bind λ f=>(bN P f.type).bind λ n=>some (f.offset,n)
def Kg(n:Nat)(i:Nat):Option (Nat×Nat):=some (i*n,n)
def XE(P:Program)(b:Builtin)(ts:Array TypeId)(args:List Operand):Option (List Operand×ft) :=
 match b with
 | .len=>match(ts[0]?).bind P.underlying with
  |some (.slice _)=>some (args,.pure Op.dc)
  |_=>none
 | .append=>match ts.toList with
  |[t,tx]=>match P.underlying t,P.underlying tx with
   |some (.slice e),some (.slice _)=>(bN P e).bind λ n=>(mz P e).bind λ z=>(zeroOf P e).bind λ zv=>if zv.cells.length=n then some (args,.gJ (Op.append e n z))else none
   |_,_=>none
  |_=>none
 | .clear=>match(ts[0]?).bind P.underlying with
  |some (.slice e)=>(zeroOf P e).bind λ z=>some (args,.gJ (Op.bS z.cells))
  |some (.map _ _)=>some (args,.gJ Op.bO)
  |_=>none
 | .recover=>some (args,.recover)
 | .panic=>some (args,.panic)
 |_=>none
def JE(_P:Program)(fn:Func)(args:List Operand):Option (List Operand×ft) :=
 if fn.origin != "" then none
 else if fn.name == "internal/bytealg.IndexByteString" then some (args,.pure Op.aD)
 else none
def Dz(P:Program)(src dst:TypeId)(x:Operand):Option (List Operand×ft) :=
 match P.underlying src,P.underlying dst with
 |some (.int _),some (.int k)=>some ([x],.pure (Op.wrap k))
 |_,_=>none
def LG(P:Program):Nat->TypeId->Bool
 |0,_=>true
 |d+1,t=>match P.underlying t with
  |some (.interface ms)=>!ms.isEmpty
  |some (.struct fs)=>fs.toList.any λ f=>f.name != "_" && LG P d f.type
  |some (.array _ e)=>LG P d e
  |_=>false
def Xj(P:Program):∀(d:Nat)(t:TypeId),LG P d t=P.eqGuardType d t
 |0,_=>rfl
 |d+1,t=>by
  rw[LG,Program.eqGuardType];cases P.underlying t with
  |none=>rfl
  |some u =>
   cases u with
   |struct fs =>
    show fs.toList.any _=fs.any _;rw[<-Array.any_toList];congr 1;funext f;rw[Xj P d]
   |array _ e=>exact Xj P d e
   |_=>rfl
def EN(P:Program)(t:TypeId)(x y:Operand):Option tu :=
 match P.underlying t with
 |some .bool=>some .bool
 |some (.pointer e)=>match bN P e with
  |some (_+1)=>some .ptr
  |_=>none
 |some (.slice _)=>some .slice
 |some (.map _ _)=>some .map
 |some (.func _ _ _)=>some .func
 |some (.interface _)=>match x,y with
  | .const .nilIface,_=>some .iface
  |_,.const .nilIface=>some .iface
  |_,_=>some (.ifaces λ u=>(P.info? u).bind λ i=>if i.comparable then dm P 20 u else none)
 |some (.struct _)=>if LG P P.depth t then none else(dm P 20 t).bind λ q=>some (.agg q)
 |some (.array _ _)=>if LG P P.depth t then none else(dm P 20 t).bind λ q=>some (.agg q)
 |_=>none
def Jg(P:Program)(op:BinOp)(t:TypeId)(x y:Operand):Option (List Operand×ft) :=
 match P.underlying t with
 |some (.int _)=>some ([x,y],.pure (Op.bin op))
 |some .string=>some ([x,y],.pure (Op.bin op))
 |_=>match op with
  | .eql=>(EN P t x y).bind λ k=>some ([x,y],.read (Op.eq k false))
  | .neq=>(EN P t x y).bind λ k=>some ([x,y],.read (Op.eq k true))
  |_=>none
def Cu(P:Program)(c:Call):Option (List Operand×ft) :=
 match c.callee with
 | .value (.func f)=>(P.funcs[f]?).bind λ fn =>
  match fn.body with
  |some _=>some (c.args.toList,.gY f)
  |none=>JE P fn c.args.toList
 | .value f=>some (f::c.args.toList,.gS)
 | .invoke r m=>some (r::c.args.toList,.invoke m)
 | .builtin b=>XE P b c.argTypes c.args.toList
def Qo(P:Program)(op:Go.Op):Option (List Operand×ft) :=
 match op with
 | .move x=>some ([x],.pure Op.move)
 | .assign x=>some ([x],.pure Op.move)
 | .pick c a b=>some ([c,a,b],.pure Op.pick)
 | .alloc e=>(zeroOf P e).bind λ z=>some ([],.alloc (Op.alloc e z.cells))
 | .box e x=>some ([x],.alloc (Op.box e))
 | .build t parts=>(zeroOf P t).bind λ z =>
  match P.underlying t with
  |some (.struct fs)=>if fs.toList.all (λ f=>(bN P f.type).isSome)then(BM (Mr P fs) parts.toList).bind λ ps=>some (parts.toList.map (·.2),.pure (Op.build z.cells ps))else none
  |some (.array _ e)=>(bN P e).bind λ n=>(BM (Kg n) parts.toList).bind λ ps=>some (parts.toList.map (·.2),.pure (Op.build z.cells ps))
  |_=>none
 | .buildSlice t len parts =>
  match P.underlying t with
  |some (.slice e)=>(bN P e).bind λ n=>(zeroOf P e).bind λ z=>(BM (Kg n) parts.toList).bind λ ps=>if z.cells.length=n/\len*n<=16777216 then some (parts.toList.map (·.2),.alloc (Op.buildSlice e len z.cells ps))else none
  |_=>none
 | .load t a=>(nF P t).bind λ r=>match r with
  |none=>some ([a],.read Op.ae)
  |some n=>some ([a],.read (Op.aq n))
 | .store t a x=>(bN P t).bind λ n=>some ([a,x],.gJ (Op.store n))
 | .nilCheck x=>some ([x],.pure Op.nilCheck)
 | .binOp op t x y _=>Jg P op t x y
 | .unOp op _ x=>some ([x],.pure (Op.un op))
 | .convert src dst x=>Dz P src dst x
 | .makeInterface t x=>match P.underlying t with
  |some (.interface _)=>none
  |some _=>some ([x],.pure (Op.dp t))
  |none=>none
 | .makeFunc (.func f) a b=>some (a.toList++b.toList,.pure (Op.bD f a.size))
 | .makeMap _ none=>some ([],.alloc Op.mkMap)
 | .makeMap t (some (.const (.int _ _)))=>match P.underlying t with
  |some (.map _ _)=>some ([],.alloc Op.mkMap)
  |_=>none
 | .makeSlice t l c =>
  match P.underlying t with
  |some (.slice e)=>(mz P e).bind λ b=>(zeroOf P e).bind λ z=>(bN P e).bind λ n=>if z.cells.length=n then some ([l,c],.alloc (Op.mkSlice e b z.cells))else none
  |_=>none
 | .slice t x lo hi mx =>
  match P.underlying t with
  |some (.slice e)=>(bN P e).bind λ n=>some (x::jQ [lo,hi,mx],.pure (Op.aL n (gq 0 [lo,hi,mx])))
  |some (.array k e)=>(bN P e).bind λ n=>some (x::jQ [lo,hi,mx],.pure (Op.cD k n (gq 0 [lo,hi,mx])))
  |_=>none
 | .fieldAddr t x i =>
  match P.underlying t with
  |some (.struct fs)=>(fs[i]?).bind λ f=>(bN P f.type).bind λ n=>if n == 0 then none else some ([x],.pure (Op.fieldAddr f.offset))
  |_=>none
 | .indexAddr t x i =>
  match P.underlying t with
  |some (.slice e)=>(bN P e).bind λ n=>some ([x,i],.pure (Op.aO n))
  |some (.array k e)=>(bN P e).bind λ n=>some ([x,i],.pure (Op.aS k n))
  |_=>none
 | .index t x i =>
  match P.underlying t with
  |some .string=>some ([x,i],.pure Op.bK)
  |some (.array k e)=>(bN P e).bind λ n=>(nF P e).bind λ a=>some ([x,i],.pure (Op.bA k n a))
  |_=>none
 | .lookup t m k ok =>
  match P.underlying t with
  |some (.map kt e)=>(qG P kt).bind λ key=>(zeroOf P e).bind λ z=>some ([m,k],.read (Op.lookup key z ok))
  |_=>none
 | .mapUpdate t m k v =>
  match P.underlying t with
  |some (.map kt _)=>(qG P kt).bind λ key=>some ([m,k,v],.gJ (Op.mapUpdate key))
  |_=>none
 | .extract x i=>some ([x],.pure (Op.extract i))
 | .call c=>Cu P c
 | .defer c=>match c.callee with
  | .value f=>some (f::c.args.toList,.defer)
  |_=>none
 | .panic x=>some ([x],.panic)
 |_=>none
def fT(P:Program)(o:Oper):Option (List bI×ft) :=
 match(Qo P o.op).bind λ r=>(nG P.globals.size r.1).bind λ args=>some (args,r.2)with
 |some r=>some r
 |none=>some ([],.pure Op.fail)
inductive Je where
 |pure|read|alloc|gJ
 deriving DecidableEq
def qK:ft->Je
 | .pure _=>.pure
 | .read _=>.read
 | .alloc _=>.alloc
 |_=>.gJ
def mq(cls:Nat->Je)(fX:Nat->Nat)(n:Nat):Nat->Nat->List (Bool×Nat)->List (Bool×Nat)
 |0,_,acc=>acc.reverse
 |fuel+1,done,acc =>
  let ready (i:Nat):Bool:=!done.testBit i && (fX i &&& done) == fX i
  let todo:=(List.range n).filter λ i=>!done.testBit i
  match todo.find? (λ i=>ready i && (cls i == .pure ||cls i == .read))with
  |some i=>mq cls fX n fuel (done |||2 ^ i) ((false,i)::acc)
  |none =>
   -- the next effect: the first one (effects are in a row)
   match todo.find? (λ i=>cls i == .gJ)with
   |some e =>
    if ready e then
     let again:=(acc.reverse.filter λ q=>!q.1 && cls q.2 == .read && !(fX e).testBit q.2).map λ q=>(true,q.2)
     mq cls fX n fuel (done |||2 ^ e) (again.reverse++((false,e)::acc))
    else match todo.find? (λ i=>ready i && (fX e).testBit i)with
     |some i=>mq cls fX n fuel (done |||2 ^ i) ((false,i)::acc)
     |none=>acc.reverse
   |none=>match todo.find? ready with
    |some i=>mq cls fX n fuel (done |||2 ^ i) ((false,i)::acc)
    |none=>acc.reverse
def dg{α:Type}:List (Option α)->Option (List α)
 |[]=>some []
 |x::xs=>x.bind λ a=>(dg xs).bind λ l=>some (a::l)
def guardOf(ops:Array Oper):Option (Nat×Bool)->Option (Option (Nat×Bool))
 |none=>some none
 |some g=>((ops[g.1]?).bind (·.dst)).bind λ t=>some (some (t,g.2))
def iX(ops:Array Oper)(l:List (List bI×ft))(safe:Nat->Option (List Nat))(q:Bool×Nat):Option aN :=
 (ops[q.2]?).bind λ o=>(l[q.2]?).bind λ a=>(guardOf ops o.guard).bind λ g =>
  some {gW:=q.1,dst:=o.dst,guard:=g,args:=a.1,op:=a.2,ct:=safe q.2}
def pj(nt:Nat)(o:Oper):Bool :=
 match o.dst with
 |none=>true
 |some d=>Nat.blt d nt
def pH(a b:Nat):Bool:=Nat.beq (Nat.land a b) a
def bitsOf:List (Bool×Nat)->Nat->Nat
 |[],d=>d
 |(true,_)::l,d=>bitsOf l d
 |(false,i)::l,d=>bitsOf l (Nat.lor d (2 ^ i))
def mL:List (Bool×Nat)->Nat->Nat
 |(true,r)::l,d=>mL l (Nat.lor d (2 ^ r))
 |_,d=>d
def qM(c d:Je):Bool:=match c,d with
 | .pure,.pure=>true
 | .read,.read=>true
 | .alloc,.alloc=>true
 | .gJ,.gJ=>true
 |_,_=>false
def iV(p:Nat->Bool):Nat->Nat
 |0=>0
 |n+1=>cond (p n) (Nat.lor (iV p n) (2 ^ n)) (iV p n)
structure lS where
 n:Nat
 fX:Nat->Nat
 cls:Nat->Je
 jF:Nat->Nat->Bool
 self:Nat->Bool
 made:Nat
 reads:Nat
def LX(I:lS)(done:Nat)(post:List (Bool×Nat)):Bool×Nat->Bool
 |(false,i)=>Nat.blt i I.n && (!done.testBit i && (pH (I.fX i) done && (match I.cls i with
  | .read=>pH (Nat.land done I.made) (I.fX i)
  | .gJ=>pH (Nat.land done I.made) (I.fX i) && pH (Nat.land done I.reads) (Nat.lor (I.fX i) (mL post 0))
  |_=>true)))
 |(true,r)=>qM (I.cls r) .read && (I.self r && (done.testBit r && pH (Nat.land done (iV (λ w=>!Nat.beq w r && I.jF r w) I.n)) (I.fX r)))
def I3(I:lS):List (Bool×Nat)->Nat->Bool
 |[],done=>pH (2 ^ I.n-1) done
 |(false,i)::post,done=>LX I done post (false,i) && I3 I post (Nat.lor done (2 ^ i))
 |(true,r)::post,done=>LX I done post (true,r) && I3 I post done
def rK(p:Nat->Bool):Nat->Bool
 |0=>true
 |n+1=>p n && rK p n
def vY(I:lS):Bool:=rK (λ r=>rK (λ w=>Nat.beq r w ||((I.fX r).testBit w ||((I.fX w).testBit r ||!I.jF r w))) I.n) I.n
def tmpsOf:List bI->List Nat
 |[]=>[]
 | .tmp t::l=>t::tmpsOf l
 |_::l=>tmpsOf l
def nK(t:Nat):List Nat->Bool
 |[]=>false
 |x::l=>Nat.beq x t ||nK t l
def iK(ops:Array Oper)(l:List (List bI×ft))(r:Nat):List Nat :=
 match ops[r]?,l[r]? with
 |some o,some a=>(match guardOf ops o.guard with|some (some g)=>[g.1]|_=>[])++tmpsOf a.1
 |_,_=>[]
def gV(ops:Array Oper)(w:Nat):Option Nat:=(ops[w]?).bind (·.dst)
def gA(ops:Array Oper)(l:List (List bI×ft))(r:Nat):List Nat :=
 (match gV ops r with|some d=>[d]|none=>[])++iK ops l r
def Ae(ops:Array Oper)(l:List (List bI×ft))(r w:Nat):Bool :=
 match gV ops w with
 |some t=>nK t (gA ops l r)
 |none=>false
def CY(ops:Array Oper)(l:List (List bI×ft))(r:Nat):Bool :=
 match gV ops r with
 |some t=>!nK t (iK ops l r)
 |none=>true
def nC(l:List (List bI×ft))(i:Nat):Je:=qK ((l[i]?.getD ([],.recover)).2)
def uU(c:Je):Bool:=qM c .alloc ||qM c .gJ
def aT(ops:Array Oper)(l:List (List bI×ft)):lS :=
 {n:=ops.size,fX:=λ i=>(Region.before ops).getD i 0,cls:=nC l,jF:=Ae ops l,self:=CY ops l,made:=iV (λ i=>uU (nC l i)) ops.size,reads:=iV (λ i=>qM (nC l i) .read) ops.size}
def tO(i:Nat):List (Bool×Nat)->List (Bool×Nat)
 |[]=>[]
 |(c,j)::l=>cond (!c && Nat.beq j i) [] ((c,j)::tO i l)
def Mz(ops:Array Oper)(I:lS)(plan:List (Bool×Nat))(i:Nat):Option (List Nat) :=
 let d:=bitsOf (tO i plan) 0
 cond (rK (λ j=>Nat.beq j i ||(d.testBit j ||(I.fX j).testBit i)) I.n) (some (ops.toList.filterMap (·.dst))) none
def iF(P:Program)(nt:Nat)(ops:Array Oper)(draw:Bool):Option ai :=
 if ops.toList.all (pj nt)then
 (dg (ops.toList.map (fT P))).bind λ l =>
  if draw then
   let I:=aT ops l
   let plan:=mq I.cls I.fX ops.size (2*ops.size) 0 []
   cond (I3 I plan 0 && vY I) ((dg (plan.map (iX ops l (Mz ops I plan)))).bind λ steps=>some (.region steps)) (some .stuck)
  else(dg ((List.range ops.size).map λ i=>iX ops l (λ _=>some []) (false,i))).bind λ steps=>some (.region steps)
 else none
def b9(P:Program)(nt:Nat):Nat->Code->Option (ai×List dZ)
 |_,.skip=>some (.skip,[])
 |_,.region _ ops draw=>(iF P nt ops draw).bind λ c=>some (c,[])
 |k,.seq a b=>(b9 P nt k a).bind λ a=>(b9 P nt (k+a.2.length) b).bind λ b=>some (.seq a.1 b.1,a.2++b.2)
 |k,.cond c a b=>(qL P.globals.size c).bind λ c=>(b9 P nt k a).bind λ a=>(b9 P nt (k+a.2.length) b).bind λ b=>some (.cond c a.1 b.1,a.2++b.2)
 |k,.block id b=>(b9 P nt k b).bind λ b=>some (.block id b.1,b.2)
 |k,.loop b=>(b9 P nt k b).bind λ b=>some (.loop none b.1,b.2)
 |k,.rangeFunc f ps a b=>(qL P.globals.size f).bind λ f=>(b9 P nt (k+1) a).bind λ a=>(b9 P nt (k+1+a.2.length) b).bind λ b =>
  if ps.toList.all λ p=>Nat.blt p nt then some (.rangeFunc f k,{params:=ps.toList,assign:=a.1,body:=b.1}::(a.2++b.2))else none
 |_,.exit id=>some (.exit id,[])
 |k,.scope b=>(b9 P nt k b).bind λ b=>some (.scope b.1,b.2)
 |_,.label l=>some (.label l,[])
 |_,.goto l=>some (.goto l,[])
 |_,.ret=>some (.ret,[])
 |_,.refuse _=>some (.stuck,[])
def qB(P:Program):List ResultVar->Option (List dX)
 |[]=>some []
 | .tmp t::r=>(qB P r).bind λ l=>some (.tmp t::l)
 | .cell a t::r=>(nF P t).bind λ n=>(qB P r).bind λ l=>some ((match n with|none=>.kA a|some n=>.cL n a)::l)
def th(P:Program)(fn:Func):Option cj :=
 fn.body.bind λ b=>(b9 P fn.ntmps 0 b).bind λ c=>(qB P fn.results.toList).bind λ r=>some {results:=r,body:=c.1,loops:=c.2}
def wK(P:Program)(t:TypeId)(name:String):Option Nat :=
 (P.info? t).bind λ i=>(i.methods.find? (·.name == name)).bind λ m =>
  if !m.path.isEmpty then none else m.func.bind λ p =>
   match P.underlying t,p.2 with
   |none,_=>none
   |some (.pointer _),true=>some p.1
   |some (.pointer _),false=>none
   |some _,true=>none
   |some _,false=>some p.1
def aV(P:Program):jH:={func:=λ f=>(P.funcs[f]?).bind (th P),jN:=wK P}
end
end Go.Am
namespace Go.Am
namespace T
variable{α:Type}
def go_eq(f:Nat):∀(g i:Nat),i<=f->i<=g->path.go f i=path.go g i:=by
 induction f with
 |zero=>intro g i a hg;obtain rfl:i=0:=by omega
        cases g<;>simp[path.go]
 |succ f ih =>
  intro g i a hg;cases i with
  |zero=>cases g<;>simp[path.go]
  |succ n =>
   cases g with
   |zero=>omega
   |succ g =>
    simp only[path.go];have h:n / 2<=n:=Nat.div_le_self n 2;congr 1;exact ih g (n / 2) (by omega) (by omega)
def X8:path 0=[]:=rfl
def QF(n:Nat):path (n+1)=Nat.beq (n % 2) 0::path (n / 2):=by
 show path.go (n+1) (n+1)=_;simp only[path.go];have h:n / 2<=n:=Nat.div_le_self n 2;exact congrArg (Nat.beq (n % 2) 0 :: ·) (go_eq n (n / 2) (n / 2) h (qg _))
def BJ:∀(i j:Nat),path i=path j->i=j:=by
 intro i
 induction i using Nat.strongRecOn with
 |_ i ih =>
  intro j h;cases i with
  |zero=>cases j with
   |zero=>rfl
   |succ m=>rw[X8,QF]at h;cases h
  |succ n=>cases j with
   |zero=>rw[X8,QF]at h;cases h
   |succ m =>
    rw[QF,QF]at h;injection h with d c
    have f:=ih (n / 2) (by have:=Nat.div_le_self n 2;omega) (m / 2) c;have g:n % 2=m % 2:=by
     rcases Nat.mod_two_eq_zero_or_one n with a|a<;>rcases Nat.mod_two_eq_zero_or_one m with b|b<;>simp_all
    omega
def CW(p:List Bool):vJ p (.nil:T α)=none:=by
 induction p with
 |nil=>rfl
 |cons b p ih=>cases b<;>exact ih
def q41(v:Option α):∀(p:List Bool)(t:T α),vJ p (fk v p t)=v:=by
 intro p
 induction p with
 |nil=>intro t;rfl
 |cons b p ih=>intro t;cases b<;>exact ih _
def q90(v:Option α):∀(p q:List Bool)(t:T α),p≠q->vJ q (fk v p t)=vJ q t:=by
 intro p
 induction p with
 |nil =>
  intro q t h;cases q with
  |nil=>exact absurd rfl h
  |cons b q=>cases b<;>rfl
 |cons b p ih =>
  intro q t h;cases q with
  |nil=>cases b<;>rfl
  |cons c q =>
   cases b<;>cases c
   .exact ih q _ (λ e=>h (by rw[e]))
   .rfl
   .rfl
   .exact ih q _ (λ e=>h (by rw[e]))
def jM(t:T α)(i j:Nat)(v:Option α):(t.put i v).get j=if i=j then v else t.get j:=by
 unfold get put
 by_cases h:i=j
 .subst h;simp[q41]
 .simp only[h,wz];exact q90 v _ _ t (λ e=>h (BJ i j e))
def aI(t:T α)(i j:Nat)(v:α):(t.set i v).get j=if i=j then some v else t.get j:=jM t i j (some v)
def get_nil(j:Nat):(T.nil:T α).get j=none:=CW _
def jL(p:List Bool)(t:T α):(nO p).run t=vJ p t:=by
 induction p generalizing t with
 |nil=>rfl
 |cons b p ih=>cases b<;>exact ih _
def DG(v:Option α)(p:List Bool)(t:T α):(xI p).run v t=fk v p t:=by
 induction p generalizing t with
 |nil=>rfl
 |cons b p ih =>
  cases b
  .show T.node t.l t.val ((xI p).run v t.r)=T.node t.l t.val (fk v p t.r);rw[ih]
  .show T.node ((xI p).run v t.l) t.val t.r=T.node (fk v p t.l) t.val t.r;rw[ih]
end T
section
variable{α:Type}
def lR(l:List α)(i:Nat):nth l i=l[i]?:=by
 induction l generalizing i with
 |nil=>rfl
 |cons x l ih=>cases i with
  |zero=>rfl
  |succ n=>exact ih n
def oJ(a b:List α):jU a b=a++b:=by
 induction a with
 |nil=>rfl
 |cons x a ih=>exact congrArg (x :: ·) ih
def FQ(l:List α):cQ l=l.length:=by
 induction l with
 |nil=>rfl
 |cons x l ih=>exact congrArg (·+1) ih
def DR(n:Nat)(l:List α):cT n l=l.drop n:=by
 induction n generalizing l with
 |zero=>rfl
 |succ n ih=>cases l with
  |nil=>exact(ih []).trans (by simp)
  |cons x l=>exact ih l
def Dc(n:Nat)(l:List α):CH n l=if n<=l.length then some (l.take n)else none:=by
 induction n generalizing l with
 |zero=>rfl
 |succ n ih=>cases l with
  |nil=>rfl
  |cons x l =>
   show(CH n l).bind (λ r=>some (x::r))=_;rw[ih]
   by_cases h:n<=l.length<;>simp[h]
def zN(new l:List α):wV new l=if new.length<=l.length then some (new++l.drop new.length)else none:=by
 induction new generalizing l with
 |nil=>rfl
 |cons x new ih=>cases l with
  |nil=>rfl
  |cons y l =>
   show(wV new l).bind (λ r=>some (x::r))=_;rw[ih]
   by_cases h:new.length<=l.length<;>simp[h]
def Ep(o:Nat)(new l:List α):putAt o new l=if o+new.length<=l.length then some (l.take o++new++l.drop (o+new.length))else none:=by
 induction o generalizing l with
 |zero=>show wV new l=_;rw[zN];simp
 |succ o ih=>cases l with
  |nil =>
   show none=_;rw[qo (by simp only[yi];omega)]
  |cons x l =>
   show(putAt o new l).bind (λ r=>some (x::r))=_;rw[ih]
   by_cases h:o+new.length<=l.length
   .rw [qr h,qr (by simp;omega)];simp[show o+1+new.length=(o+new.length)+1 from by omega]
   .rw [qo h,qo (by simp;omega)];rfl
def u4(l:List α)(o n:Nat):fG l o n=if n<=l.length-o then some ((l.drop o).take n)else none:=by
 unfold fG;rw[Dc,DR,kr]
end
def GZ(a b:Int):rI a b=decide (a<=b):=by
 cases a<;>cases b<;>rw[Bool.eq_iff_iff]<;>simp[rI,ww]<;>try omega
def Mx(a b:Int):yY a b=decide (a<b):=by
 unfold yY;rw[GZ];rw[Bool.eq_iff_iff];simp
def BU(a b:Int):tP a b=(a == b):=by
 rw[Bool.eq_iff_iff,EO];cases a<;>cases b<;>simp[tP]<;>omega
def QI(a b:IntKind):sJ a b=decide (a=b):=by cases a<;>cases b<;>rfl
def UC(a b:UInt8):BS a b=(a == b):=by
 unfold BS;rw[Bool.eq_iff_iff];simp only[jh,EO];exact⟨λ h=>UInt8.toNat_inj.1 h,λ h=>by rw[h]⟩
def J7(a b:List UInt8):yV a b=(a == b):=by
 induction a generalizing b with
 |nil=>cases b<;>rfl
 |cons x a ih=>cases b with
  |nil=>rfl
  |cons y b =>
   show cond (BS x y) (yV a b) false=_;rw[ih,UC];cases h:(x == y)<;>simp[h]
end Go.Am
namespace Go.Am
structure Th where
 bV:Nat->Nat
 off:Nat->Nat
 ext:Nat->Nat
def fD(θ:Th):lJ->Fn
 | .func f=>.func f
 | .yield l=>.yield (θ.bV l)
def zK:Nat->Option Nat
 |0=>none
 |n+1=>some n
mutual
def az(θ:Th):AV->Value
 | .bool b=>.bool b
 | .int k n=>.int k n
 | .str s=>.string ⟨s.toArray⟩
 | .nilp=>.pointer none
 | .ptr b o=>.pointer (some ⟨θ.bV b,θ.off b+o,none⟩)
 | .nils=>.slice none 0 0
 | .slice b o n c=>.slice (some ⟨θ.bV b,θ.off b+o,none⟩) n c
 | .gslice b i m s alt n=>.slice (some ⟨θ.bV b,θ.off b+(if(m-i) + θ.ext b=0 then alt else i*s),none⟩) n ((m-i) + θ.ext b)
 | .eslice b=>.slice (some ⟨θ.bV b,θ.off b,zK (θ.ext b)⟩) 0 0
 | .lI=>.map none
 | .map b=>.map (some (θ.bV b))
 | .fn f a b=>.func (fD θ f) (bR θ a).toArray (bR θ b).toArray
 | .nilf=>.nilFunc
 | .iface t v=>.iface t (az θ v)
 | .nili=>.nilIface
 | .agg l=>.agg (bR θ l).toArray
 | .tuple l=>.tuple (bR θ l).toArray
def bR(θ:Th):List AV->List Value
 |[]=>[]
 |v::vs=>az θ v::bR θ vs
end
def u7(θ:Th)(l:List AV):bR θ l=l.map (az θ):=by
 induction l with
 |nil=>rfl
 |cons x l ih=>simp[bR,ih]
def Ag(D:Nat->Prop)(θ θ':Th):Prop:=∀b,D b -> θ'.bV b = θ.bV b /\ θ'.off b = θ.off b /\ θ'.ext b = θ.ext b
def Ag.refl(D:Nat->Prop)(θ:Th):Ag D θ θ:=λ _ _=>⟨rfl,rfl,rfl⟩
def Ag.trans{D D':Nat->Prop}{θ θ' θ'':Th}(h:Ag D θ θ')(a:Ag D' θ' θ'')(c:∀b,D b->D' b):Ag D θ θ'':=λ b hb =>
 let⟨a1,a2,a3⟩:=h b hb;let⟨b1,b2,b3⟩:=a b (c b hb);⟨b1.trans a1,b2.trans a2,b3.trans a3⟩
def Ag.mono{D D':Nat->Prop}{θ θ':Th}(h:Ag D θ θ')(a:∀b,D' b->D b):Ag D' θ θ':=λ b hb=>h b (a b hb)
def VR(D:Nat->Prop)(θ:Th)(v:AV)(c:Value):Prop:=∀θ',Ag D θ θ'->az θ' v=c
def bL(D:Nat->Prop)(θ:Th)(l:List AV)(cs:List Value):Prop:=∀θ',Ag D θ θ'->bR θ' l=cs
section
variable{D D':Nat->Prop}{θ θ':Th}
def VR.now{v:AV}{c:Value}(h:VR D θ v c):az θ v=c:=h θ (Ag.refl D θ)
def bL.now{l:List AV}{cs:List Value}(h:bL D θ l cs):bR θ l=cs:=h θ (Ag.refl D θ)
def VR.up{v:AV}{c:Value}(h:VR D θ v c)(ha:Ag D θ θ')(d:∀b,D b->D' b):VR D' θ' v c:=λ θ'' a=>h θ'' (ha.trans a d)
def bL.up{l:List AV}{cs:List Value}(h:bL D θ l cs)(ha:Ag D θ θ')(c:∀b,D b->D' b):bL D' θ' l cs:=λ θ'' a=>h θ'' (ha.trans a c)
def bL.nil:bL D θ [] []:=λ _ _=>rfl
def bL.cons{v:AV}{c:Value}{l:List AV}{cs:List Value}(h:VR D θ v c)(hl:bL D θ l cs):bL D θ (v::l) (c::cs) :=
 λ θ' ha=>by simp[bR,h θ' ha,hl θ' ha]
def bL.eJ{v:AV}{l:List AV}{cs:List Value}(h:bL D θ (v::l) cs):∃c cs',cs=c::cs'/\VR D θ v c/\bL D θ l cs':=by
 refine⟨az θ v,bR θ l,(by rw[<-h.now];rfl),λ θ' ha=>?_,λ θ' ha=>?_⟩
 .have:=(h θ' ha).trans h.now.symm;simp only[bR]at this;injection this
 .have:=(h θ' ha).trans h.now.symm;simp only[bR]at this;injection this
def bL.mT{cs:List Value}(h:bL D θ [] cs):cs=[]:=h.now.symm
def bL.length{l:List AV}{cs:List Value}(h:bL D θ l cs):cs.length=l.length:=by rw[<-h.now,u7];simp
def bL.app{l a:List AV}{cs cs':List Value}(h:bL D θ l cs)(b:bL D θ a cs'):bL D θ (l++a) (cs++cs'):=by
 intro θ' ha;rw[u7,HJ,<-u7,<-u7,h θ' ha,b θ' ha]
def bL.pZ{l:List AV}{cs:List Value}(h:bL D θ l cs){i:Nat}{v:AV}(b:l[i]? = some v):∃c,cs[i]? = some c/\VR D θ v c:=by
 refine⟨az θ v,?_,λ θ' ha=>?_⟩
 .rw [<-h.now,u7,xj,b];rfl
 .have:=(h θ' ha).trans h.now.symm;rw[u7,u7]at this;have a:=congrArg (λ l=>l[i]?) this;simp only[xj,b,wl,qe]at a;exact a
def bL.drop{l:List AV}{cs:List Value}(h:bL D θ l cs)(n:Nat):bL D θ (l.drop n) (cs.drop n):=by
 intro θ' ha;rw[u7,List.map_drop,<-u7,h θ' ha]
def bL.take{l:List AV}{cs:List Value}(h:bL D θ l cs)(n:Nat):bL D θ (l.take n) (cs.take n):=by
 intro θ' ha;rw[u7,List.map_take,<-u7,h θ' ha]
def bL.one{v:AV}{c:Value}(h:VR D θ v c):bL D θ [v] [c]:=.cons h .nil
def VR.agg{l:List AV}{cs:List Value}(h:bL D θ l cs):VR D θ (.agg l) (.agg cs.toArray):=λ θ' ha=>by simp[az,h θ' ha]
def VR.tuple{l:List AV}{cs:List Value}(h:bL D θ l cs):VR D θ (.tuple l) (.tuple cs.toArray):=λ θ' ha=>by simp[az,h θ' ha]
def VR.eU{l:List AV}{c:Value}(h:VR D θ (.agg l) c):∃cs:List Value,c=.agg cs.toArray/\bL D θ l cs:=by
 refine⟨bR θ l,h.now.symm,λ θ' ha=>?_⟩;have:=(h θ' ha).trans h.now.symm;simpa[az]using this
def VR.yB{l:List AV}{c:Value}(h:VR D θ (.tuple l) c):∃cs:List Value,c=.tuple cs.toArray/\bL D θ l cs:=by
 refine⟨bR θ l,h.now.symm,λ θ' ha=>?_⟩;have:=(h θ' ha).trans h.now.symm;simpa[az]using this
def VR.iface{t:Nat}{v:AV}{c:Value}(h:VR D θ v c):VR D θ (.iface t v) (.iface t c):=λ θ' ha=>by simp[az,h θ' ha]
def VR.lG{t:Nat}{v:AV}{c:Value}(h:VR D θ (.iface t v) c):∃a,c=.iface t a/\VR D θ v a:=by
 refine⟨az θ v,h.now.symm,λ θ' ha=>?_⟩;have:=(h θ' ha).trans h.now.symm;simpa[az]using this
def VR.undef:VR D θ .undef Go.undef:=λ _ _=>rfl
def VR.bool(b:Bool):VR D θ (.bool b) (.bool b):=λ _ _=>rfl
def VR.int(k:IntKind)(n:Int):VR D θ (.int k n) (.int k n):=λ _ _=>rfl
def VR.str(s:List UInt8):VR D θ (.str s) (.string ⟨s.toArray⟩):=λ _ _=>rfl
def VR.ptr{b o:Nat}(hb:D b):VR D θ (.ptr b o) (.pointer (some ⟨θ.bV b,θ.off b+o,none⟩)):=λ θ' ha=>by obtain⟨a,c,_⟩:=ha b hb;simp[az,a,c]
def VR.map{b:Nat}(hb:D b):VR D θ (.map b) (.map (some (θ.bV b))):=λ θ' ha=>by obtain⟨a,_,_⟩:=ha b hb;simp[az,a]
def VR.slice{b o n c:Nat}(hb:D b):VR D θ (.slice b o n c) (az θ (.slice b o n c)):=λ θ' ha=>by obtain⟨a,d,_⟩:=ha b hb;simp[az,a,d]
def VR.gslice{b i m s alt n:Nat}(hb:D b):VR D θ (.gslice b i m s alt n) (az θ (.gslice b i m s alt n)):=λ θ' ha=>by
 obtain⟨a,c,d⟩:=ha b hb;simp[az,a,c,d]
end
def Rb(fz cfz:Nat×Nat)(off size:Nat):Prop:=cfz.1=cfz.2\/(cfz.1<cfz.2/\off+fz.1<=cfz.1/\cfz.2<=off+fz.2)\/(fz.2<fz.1/\(size<=cfz.1\/cfz.2<=off))
def XX(fz cfz:Nat×Nat):Prop:=cfz.1=cfz.2\/(cfz.1<cfz.2/\fz.1<=cfz.1/\cfz.2<=fz.2)
def own:bH->Bool
 | .row _ _ _ o=>o
 |_=>true
def pz(D:Nat->Prop)(θ:Th)(tm:T AV)(a:Array Value):Prop:=∀t v,tm.get t=some v -> ∃c,a[t]? = some c/\VR D θ v c
def E1:mC->LoopState
 | .ready=>.ready| .busy=>.busy| .done=>.done| .exhausted=>.exhausted
def lY:gU->Code
 | .exit id=>.exit id
 | .goto l=>.goto l
 | .ret=>.ret
def PI(D:Nat->Prop)(θ:Th)(e:AV×AV×Nat)(m:MapEntry):Prop:=VR D θ e.1 m.key/\VR D θ e.2.1 m.val/\m.born=e.2.2
def db(D:Nat->Prop)(θ:Th):List (AV×AV×Nat)->List MapEntry->Prop
 |[],[]=>True
 |e::es,m::ms=>PI D θ e m/\db D θ es ms
 |_,_=>False
def uy(P:Program)(f k n:Nat)(params:Array Tmp)(assign body:Code):Prop :=
 ∃fn af lp ka kb L1 L2,P.funcs[f]? = some fn/\th P fn=some af/\nth af.loops k=some lp/\lp.params=params.toList/\(∀p∈params.toList,p<fn.ntmps)/\fn.ntmps<=n /\
  b9 P fn.ntmps ka assign=some (lp.assign,L1)/\(∀i l,nth L1 i=some l->nth af.loops (ka+i)=some l) /\
  b9 P fn.ntmps kb body=some (lp.body,L2)/\(∀i l,nth L2 i=some l->nth af.loops (kb+i)=some l)
def VT(D:Nat->Prop)(θ:Th):aM->Deferred->Prop
 | .iU b,d=>D b/\d = {target:=.collected (θ.bV b),args:=#[]}
 | .fn f args,d=>∃c cap:Array Value,d = {target:=.fn (fD θ f) cap,args:=c}/\(∀θ',Ag D θ θ'->fD θ' f=fD θ f)/\bL D θ args (c++cap).toList
def nU(P:Program)(D:Nat->Prop)(θ:Th)(b:Nat):bH->Obj->Prop
 | .row cells e fz ow,o=>∃pre cs post cfz e',o=.cells (pre++cs++post).toArray e' cfz/\pre.length = θ.off b/\bL D θ cells cs /\
  (ow=true->e'=e/\pre=[]/\post=[]/\XX fz cfz)
 | .grown m size cells e fz,o=>∃pre cs post cfz,o=.cells (pre++cs++post).toArray e cfz/\pre.length = θ.off b/\bL D θ cells cs /\
  cells.length=m*size/\post.length = θ.ext b*size/\0<size/\m + θ.ext b<=maxLen/\Rb fz cfz (θ.off b) (pre.length+cs.length+post.length)
 | .map es clock,o=>∃ms:List MapEntry,o=.map ms.toArray clock/\db D θ es ms
 | .lF s pos,o=>o=.stringIter ⟨s.toArray⟩ pos /\ θ.off b=0
 | .loop st pend f k tm d,o=>∃r:Loop,o=.loop r/\r.state=E1 st/\r.pending=pend.map lY/\r.fn=f/\pz D θ tm r.tmps/\uy P f k r.tmps.size r.params r.assign r.body /\
  D d/\r.defers = θ.bV d
 | .deferred calls,o=>∃ds,o=.deferred ds/\(match calls,ds with
  |none,none=>True
  |some l,some l'=>l=[]/\l'=[]
  |_,_=>False)
structure HR(P:Program)(base:Nat)(D:Nat->Prop)(θ:Th)(H:ar)(w:World):Prop where
 obj:∀b o,H.get b=some o->D b /\ ∃co,w.heap[θ.bV b]? = some co/\nU P D θ b o co
 inj:∀b b' o o',H.get b=some o->H.get b'=some o'->own o=true->b≠b' -> θ.bV b≠θ.bV b'
 kP:∀b o,H.get b=some o->own o=true->base <= θ.bV b
 d8:∀g,g<P.globals.size->D g /\ θ.bV g=g /\ θ.off g=0
 low:base<=w.heap.size
def Lt(n:Nat):Nat->Prop:=λ b=>b<n
end Go.Am
namespace Go.Am
def vV(k o i:Nat):(⟨k,o,none⟩:Addr).add i=⟨k,o+i,none⟩:=by unfold Addr.add;split<;>simp_all
def eX(w:World)(k:Nat)(o:Obj):World:={w with heap:=w.heap.setIfInBounds k o}
def QR(w:World)(k:Nat)(o:Obj):(eX w k o).heap.size=w.heap.size:=by simp[eX]
def Kj(w:World)(k j:Nat)(o:Obj)(h:k<w.heap.size):(eX w k o).heap[j]? = if k=j then some o else w.heap[j]?:=by
 simp only[eX,vr];split<;>simp_all
def xkw(w:World)(k:Nat)(o o':Obj):eX (eX w k o) k o'=eX w k o':=by
 simp[eX]
def xkv(w:World)(k:Nat)(o:Obj)(h:w.heap[k]? = some o):eX w k o=w:=by
 have:w.heap.setIfInBounds k o=w.heap:=by
  apply Array.ext_getElem?;intro j;rw[vr]
  by_cases a:k=j
  .subst a;obtain⟨hk,b⟩:=kw.1 h;simp[hk,b]
  .simp [a]
 simp only[eX,this]
def CE(w:World)(o:Obj)(j:Nat):(w.alloc o).heap[j]? = if j=w.heap.size then some o else w.heap[j]?:=by
 simp only[World.alloc,Array.getElem?_push]
section
variable{P:Program}{w:World}{k:Nat}{arr:Array Value}{e:TypeId}{fz:Nat×Nat}
def Ov(h:w.heap[k]? = some (.cells arr e fz))(o:Nat):w.cell? ⟨k,o,none⟩=arr[o]?:=by simp[World.cell?,h]
def xkj(h:w.heap[k]? = some (.cells arr e fz)){o:Nat}{v:Value}(a:arr[o]? = some v):(load ⟨k,o,none⟩).run P w=.ok v w:=by
 rw[run_load,Ov h,a]
def Yq(h:w.heap[k]? = some (.cells arr e fz))(o n:Nat)(hn:n<=arr.size-o) :
 (loadCells ⟨k,o,none⟩ n).run P w=.ok ((arr.toList.drop o).take n).toArray w:=by
 have hl:((arr.toList.drop o).take n).length=n:=by simp;omega
 have:=run_loadCells_list (P:=P) w ⟨k,o,none⟩ ((arr.toList.drop o).take n) (λ j v a=>by
  rw[vV,Ov h];rw[yf]at a;split at a
  .simpa using a
  .cases a)
 rwa [hl]at this
def QE(a:Nat):∀(vs:List Value)(i:Nat)(arr:Array Value)(w:World),w.heap[k]? = some (.cells arr e fz) ->
 a+i+vs.length<=arr.size->(∀j,j<vs.length -> ¬(fz.1<=a+i+j/\a+i+j<fz.2))->(∀v∈vs,v.oneCell'=true) ->
 (storeCells ⟨k,a,none⟩ vs i).run P w=.ok () (eX w k (.cells (arr.toList.take (a+i)++vs++arr.toList.drop (a+i+vs.length)).toArray e fz))
 |[],i,arr,w,hg,_,_,_=>by
  simp only[storeCells,ze,yi,vf,ve,Qd];rw[xkv w k _ hg];rfl
 |v::rest,i,arr,w,hg,hl,hf,h1=>by
  have m:a+i<arr.size:=by simp at hl;omega
  have hk:k<w.heap.size:=(kw.1 hg).1;have b:w.cell? ⟨k,a+i,none⟩=some arr[a+i]:=by rw[Ov hg];simp[m]
  have c:w.frozen? ⟨k,a+i,none⟩=false:=by
   have:=hf 0 (by simp);simp only[World.frozen?,hg];simp at this⊢;omega
  have d:w.setCell ⟨k,a+i,none⟩ v=eX w k (.cells (arr.setIfInBounds (a+i) v) e fz):=by
   simp only[World.setCell,eX];congr 1;apply Array.ext_getElem?;intro j;rw[Array.getElem?_modify,vr]
   by_cases f:k=j
   .subst f;have l:=(kw.1 hg).2;simp[hk,l]
   .simp [f]
  have g:(store ((⟨k,a,none⟩:Addr).add i) v).run P w=.ok () (eX w k (.cells (arr.setIfInBounds (a+i) v) e fz)):=by
   rw[vV,run_store P w _ v _ (h1 v (by simp)),b];simp[c,d]
  have o:=QE a rest (i+1) (arr.setIfInBounds (a+i) v) (eX w k (.cells (arr.setIfInBounds (a+i) v) e fz))
   (by rw[Kj _ _ _ _ hk];simp) (by simp at hl⊢;omega)
   (λ j f=>by have:=hf (j+1) (by simpa using f);rwa [show a+i+(j+1)=a+(i+1)+j from by omega]at this)
   (λ x n=>h1 x (by simp[n]))
  simp only[storeCells,Sem.run_bind,g,Result.andThen_ok,o,xkw];congr 3;have h:=list_seg_step arr.toList (a+i) v rest (by simp at hl⊢;omega)
  simpa[Array.toList_setIfInBounds,vw]using h
end
def Up(D:Nat->Prop)(n m:Nat):Nat->Prop:=λ b=>D b\/(n<=b/\b<m)
def Up.of{D:Nat->Prop}{n m:Nat}:∀b,D b->Up D n m b:=λ _ h=>.inl h
def dV(D:Nat->Prop)(n m:Nat):Prop:=∀b,n<=b->b<m -> ¬D b
def Up.up{D:Nat->Prop}{n m k:Nat}(h:n<=m)(d:m<=k):Up (Up D n m) m k=Up D n k:=by
 funext b;simp only[Up,eq_iff_iff];constructor
 .rintro ((a|⟨a,c⟩)|⟨a,c⟩)
  .exact .inl a
  .exact .inr ⟨a,by omega⟩
  .exact .inr ⟨by omega,c⟩
 .rintro (a|⟨a,c⟩)
  .exact .inl (.inl a)
  .by_cases hb:b<m
   .exact .inl (.inr ⟨a,hb⟩)
   .exact .inr ⟨by omega,c⟩
def Up.none{D:Nat->Prop}{n:Nat}:Up D n n=D:=by
 funext b;simp only[Up,eq_iff_iff];constructor
 .rintro (h|⟨a,c⟩)
  .exact h
  .omega
 .exact .inl
def dV.left{D:Nat->Prop}{n m k:Nat}(h:dV D n k)(hk:m<=k):dV D n m:=λ b a c=>h b a (by omega)
def dV.right{D:Nat->Prop}{n m k:Nat}(h:dV D n k)(hm:n<=m):dV (Up D n m) m k:=λ b d c a=>by
 rcases a with a|⟨_,f⟩
 .exact h b (by omega) c a
 .omega
structure bB(D:Nat->Prop)(H:ar)(θ:Th)(w:World)(H':ar)(θ':Th)(w':World):Prop where
 au:H.au<=H'.au
 ag:Ag D θ θ'
 size:w.heap.size<=w'.heap.size
 os:w'.os=w.os
 tape:w'.tape=w.tape
 output:w'.output=w.output
 ah:∀k,k<w.heap.size->(∀b o,H.get b=some o->own o=true -> θ.bV b≠k)->w'.heap[k]? = w.heap[k]?
 news:∀b o,H'.get b=some o->own o=true -> θ'.bV b<w.heap.size -> ∃b' o',H.get b'=some o'/\own o'=true /\ θ.bV b' = θ'.bV b
def bB.refl(D:Nat->Prop)(H:ar)(θ:Th)(w:World):bB D H θ w H θ w :=
 ⟨qg _,Ag.refl _ _,qg _,rfl,rfl,rfl,λ _ _ _=>rfl,λ b o h ho _=>⟨b,o,h,ho,rfl⟩⟩
def bB.trans{D D':Nat->Prop}{H H' c:ar}{θ θ' θ'':Th}{w w' f:World}(a:bB D H θ w H' θ' w')(b:bB D' H' θ' w' c θ'' f)(s:∀b,D b->D' b):bB D H θ w c θ'' f:=by
 refine⟨xu a.au b.au,a.ag.trans b.ag s,xu a.size b.size,b.os.trans a.os,b.tape.trans a.tape,b.output.trans a.output,?_,?_⟩
 .intro k hk d;refine(b.ah k (qj hk a.size) ?_).trans (a.ah k hk d);intro x o m ho he;obtain⟨g,o',i,j,r⟩:=a.news x o m ho (by omega);exact d g o' i j (by omega)
 .intro x o m ho l;obtain⟨g,o',i,j,r⟩:=b.news x o m ho (qj l a.size);obtain⟨h,n,p,q,t⟩:=a.news g o' i j (by omega);exact⟨h,n,p,q,by omega⟩
def bB.draw{D:Nat->Prop}{H:ar}{θ:Th}{w w':World}(a:w'.heap=w.heap)(ho:w'.os=w.os)(c:w'.tape=w.tape)(hp:w'.output=w.output):bB D H θ w H θ w' :=
 ⟨qg _,Ag.refl _ _,by rw[a];exact qg _,ho,c,hp,λ _ _ _=>by rw[a],λ b o h hw _=>⟨b,o,h,hw,rfl⟩⟩
def HR.draw{P:Program}{base:Nat}{D:Nat->Prop}{θ:Th}{H:ar}{w w':World}(h:HR P base D θ H w)(a:w'.heap=w.heap):HR P base D θ H w' :=
 ⟨λ b o hb=>by rw[a];exact h.obj b o hb,h.inj,h.kP,h.d8,by rw[a];exact h.low⟩
def db.up{D D':Nat->Prop}{θ θ':Th}(ha:Ag D θ θ')(a:∀b,D b->D' b):∀(es:List (AV×AV×Nat))(ms:List MapEntry),db D θ es ms->db D' θ' es ms
 |[],[],_=>trivial
 |e::es,m::ms,⟨⟨h1,h2,h3⟩,h⟩=>⟨⟨h1.up ha a,h2.up ha a,h3⟩,db.up ha a es ms h⟩
 |[],_::_,h=>h.elim
 |_::_,[],h=>h.elim
def nU.up{P:Program}{D D':Nat->Prop}{θ θ':Th}{b:Nat}{o:bH}{co:Obj}(h:nU P D θ b o co)(hb:D b)(ha:Ag D θ θ')(n:∀b,D b->D' b):nU P D' θ' b o co:=by
 obtain⟨C,p,z⟩:=ha b hb;cases o with
 |row cells e fz ow =>
  obtain⟨pre,cs,post,a,A,g,i,j,l⟩:=h;exact⟨pre,cs,post,a,A,g,by rw[p];exact i,j.up ha n,l⟩
 |grown m size cells e fz =>
  obtain⟨pre,cs,post,a,g,i,j,l,u,x,q,y⟩:=h;exact⟨pre,cs,post,a,g,by rw[p];exact i,j.up ha n,l,by rw[z];exact u,x,by rw[z];exact q,by rw[p];exact y⟩
 |map es clock =>
  obtain⟨ms,g,i⟩:=h;exact⟨ms,g,db.up ha n _ _ i⟩
 |lF s pos=>exact⟨h.1,p.trans h.2⟩
 |loop st pend f k tm d =>
  obtain⟨r,g,i,j,l,u,x,q,y⟩:=h;exact⟨r,g,i,j,l,λ t v B=>let⟨c,hc,hr⟩:=u t v B;⟨c,hc,hr.up ha n⟩,x,n d q,by rw[(ha d q).1];exact y⟩
 |deferred calls=>exact h
def HR.up{P:Program}{base:Nat}{D D':Nat->Prop}{θ:Th}{H:ar}{w:World}(h:HR P base D θ H w)(a:∀b,D b->D' b):HR P base D' θ H w :=
 ⟨λ b o hb=>let⟨h1,co,h2,h3⟩:=h.obj b o hb;⟨a b h1,co,h2,h3.up h1 (Ag.refl _ _) a⟩,h.inj,h.kP,λ g hg=>⟨a g (h.d8 g hg).1,(h.d8 g hg).2⟩,h.low⟩
section
variable{P:Program}{base:Nat}{D:Nat->Prop}{θ:Th}{H:ar}{w:World}
def HR.lt(h:HR P base D θ H w){b:Nat}{o:bH}(hb:H.get b=some o):θ.bV b<w.heap.size:=by
 obtain⟨_,co,a,_⟩:=h.obj b o hb;exact(kw.1 a).1
def ar.aI(H:ar)(b a:Nat)(o:bH):(H.set b o).get a=if b=a then some o else H.get a:=T.aI _ _ _ _
def ar.bJ(H:ar)(a:Nat)(o:bH):(H.alloc o).get a=if H.au=a then some o else H.get a:=T.aI _ _ _ _
def ar.qR(H:ar)(b a:Nat):(H.kill b).get a=if b=a then none else H.get a:=T.jM _ _ _ _
def HR.set(h:HR P base D θ H w){b:Nat}{o o':bH}{co':Obj}(hb:H.get b=some o)(ho:own o=true)(p:own o'=true)(hr:nU P D θ b o' co') :
 HR P base D θ (H.set b o') (eX w (θ.bV b) co'):=by
 have g:=h.lt hb;refine⟨λ x f a=>?_,λ x y f j a i d c=>?_,λ x f a d=>?_,h.d8,by rw[QR];exact h.low⟩
 .rw [ar.aI]at a
  by_cases e:b=x
  .subst e;simp only[ri,qe]at a;subst a;exact⟨(h.obj b o hb).1,co',by rw[Kj _ _ _ _ g];simp,hr⟩
  .simp only[e,wz]at a;obtain⟨l,co,m,n⟩:=h.obj x f a;exact⟨l,co,by rw[Kj _ _ _ _ g,qo (h.inj b x o f hb a ho e)];exact m,n⟩
 .rw [ar.aI]at a i
  by_cases e:b=x<;>by_cases e':b=y
  .exact absurd (e.symm.trans e') c
  .subst e;simp only[e',wz]at i;exact h.inj b y o j hb i ho c
  .subst e';simp only[e,wz]at a;exact h.inj x b f o a hb d c
  .simp only[e,e',wz]at a i;exact h.inj x y f j a i d c
 .rw [ar.aI]at a
  by_cases e:b=x
  .subst e;exact h.kP b o hb ho
  .simp only[e,wz]at a;exact h.kP x f a d
def bB.set{b:Nat}{o o':bH}{co':Obj}(hb:H.get b=some o)(ho:own o=true)(a:θ.bV b<w.heap.size) :
 bB D H θ w (H.set b o') θ (eX w (θ.bV b) co'):=by
 refine⟨qg _,Ag.refl _ _,by rw[QR];exact qg _,rfl,rfl,rfl,λ k hk c=>?_,λ x g f d _=>?_⟩
 .rw [Kj _ _ _ _ a,qo (c b o hb ho)]
 .rw [ar.aI]at f
  by_cases e:b=x
  .subst e;exact⟨b,o,hb,ho,rfl⟩
  .simp only[e,wz]at f;exact⟨x,g,f,d,rfl⟩
def Th.add(θ:Th)(n bV off ext:Nat):Th:={bV:=λ b=>if b=n then bV else θ.bV b,off:=λ b=>if b=n then off else θ.off b,ext:=λ b=>if b=n then ext else θ.ext b}
def Th.eH(θ:Th)(n bV off ext:Nat):(θ.add n bV off ext).bV n=bV/\(θ.add n bV off ext).off n=off/\(θ.add n bV off ext).ext n=ext:=by simp[Th.add]
def Th.gM(θ:Th)(n bV off ext:Nat){D:Nat->Prop}(hn:¬D n):Ag D θ (θ.add n bV off ext):=λ b hb=>by
 have:b≠n:=λ e=>hn (e▸hb);simp[Th.add,this]
end
section
variable{P:Program}{base:Nat}{D:Nat->Prop}{θ:Th}{H:ar}{w:World}
def HR.alloc(h:HR P base D θ H w)(hn:¬D H.au){o:bH}{co:Obj}{k off ext:Nat}{w':World}(hk:w'.heap[k]? = some co)(f:∀j,j<w.heap.size->w'.heap[j]? = w.heap[j]?)(v:w.heap.size<=k)
 (hs:w.heap.size<=w'.heap.size) (hr:nU P (Up D H.au (H.au+1)) (θ.add H.au k off ext) H.au o co) :
 HR P base (Up D H.au (H.au+1)) (θ.add H.au k off ext) (H.alloc o) w':=by
 have d:=Th.gM θ H.au k off ext hn
 obtain⟨p,z,A⟩:=Th.eH θ H.au k off ext
 have old:∀x b,H.get x=some b->(θ.add H.au k off ext).bV x = θ.bV x:=λ x b a=>(d x (h.obj x b a).1).1;refine⟨λ x b a=>?_,λ x y b s a l i n=>?_,λ x b a i=>?_,λ g hg=>?_,by have:=h.low;omega⟩
 .rw [ar.bJ]at a
  by_cases e:H.au=x
  .subst e;simp only[ri,qe]at a;subst a;exact⟨.inr ⟨qg _,zp _⟩,co,by rw[p];exact hk,hr⟩
  .simp only[e,wz]at a;obtain⟨m,c,q,r⟩:=h.obj x b a;refine⟨.inl m,c,?_,r.up m d Up.of⟩;rw[old x b a,f _ (h.lt a)];exact q
 .rw [ar.bJ]at a l
  by_cases e:H.au=x<;>by_cases e':H.au=y
  .exact absurd (e.symm.trans e') n
  .subst e;simp only[e',wz]at l;rw[p,old y s l];have:=h.lt l;omega
  .subst e';simp only[e,wz]at a;rw[p,old x b a];have:=h.lt a;omega
  .simp only[e,e',wz]at a l;rw[old x b a,old y s l];exact h.inj x y b s a l i n
 .rw [ar.bJ]at a
  by_cases e:H.au=x
  .subst e;rw[p];have:=h.low;omega
  .simp only[e,wz]at a;rw[old x b a];exact h.kP x b a i
 .obtain ⟨m,q,r⟩:=h.d8 g hg;obtain⟨t,u,_⟩:=d g m;exact⟨.inl m,t.trans q,u.trans r⟩
def bB.alloc(h:HR P base D θ H w)(hn:¬D H.au)(o:bH)(co:Obj)(off ext:Nat):bB D H θ w (H.alloc o) (θ.add H.au w.heap.size off ext) (w.alloc co):=by
 have a:=Th.gM θ H.au w.heap.size off ext hn
 obtain⟨g,i,j⟩:=Th.eH θ H.au w.heap.size off ext
 refine⟨ku _,a,by simp,rfl,rfl,rfl,λ k hk _=>?_,λ x f b d c=>?_⟩
 .rw [CE,qo (Jo hk)]
 .rw [ar.bJ]at b
  by_cases e:H.au=x
  .subst e;rw[g]at c;omega
  .simp only[e,wz]at b;have:=(a x (h.obj x f b).1).1;exact⟨x,f,b,d,this.symm⟩
end
section
variable{P:Program}{base:Nat}{D:Nat->Prop}{θ:Th}{H:ar}{w:World}
def HR.cells(h:HR P base D θ H w){b:Nat}{l:List AV}(hb:H.bT b=some l) :
 ∃pre cs post e fz,w.heap[θ.bV b]? = some (.cells (pre++cs++post).toArray e fz)/\pre.length = θ.off b/\bL D θ l cs:=by
 unfold ar.bT at hb;cases hg:H.get b with
 |none=>rw[hg]at hb;cases hb
 |some o =>
  rw[hg]at hb;obtain⟨_,co,g,hr⟩:=h.obj b o hg;cases o with
  |row cells e fz ow =>
   obtain⟨pre,cs,post,a,i,c,d,f,_⟩:=hr;injection hb with hb;subst hb
   exact⟨pre,cs,post,i,a,by rw[g,c],d,f⟩
  |grown m size cells e fz =>
   obtain⟨pre,cs,post,a,c,d,f,_⟩:=hr;injection hb with hb;subst hb
   exact⟨pre,cs,post,e,a,by rw[g,c],d,f⟩
  |map _ _=>cases hb
  |lF _ _=>cases hb
  |loop _ _ _ _ _ _=>cases hb
  |deferred _=>cases hb
def EK(pre cs post:List Value)(o:Nat){c:Value}(h:cs[o]? = some c):(pre++cs++post).toArray[pre.length+o]? = some c:=by
 have a:=(qk.1 h).1;simp only[List.getElem?_toArray,zm];rw[zh (by omega),show pre.length+o-pre.length=o from by omega,jd a];exact h
def Z0(pre cs post:List Value)(o n:Nat)(h:n<=cs.length-o):(((pre++cs++post).toArray.toList.drop (pre.length+o)).take n)=(cs.drop o).take n:=by
 simp only[zm];rw[wv,show pre.length+o-pre.length=o from by omega,List.drop_of_length_le (l:=pre) (by omega),zw,wv]
 by_cases ho:o<=cs.length
 .rw [L5,show n-(cs.drop o).length=0 from by simp;omega];simp
 .have:n=0:=by omega
  subst this;simp
def HR.ae(h:HR P base D θ H w){b o:Nat}{v:AV}(hl:H.ae b o=some v) :
 ∃c,(load ⟨θ.bV b,θ.off b+o,none⟩).run P w=.ok c w/\VR D θ v c:=by
 unfold ar.ae at hl;cases a:H.bT b with
 |none=>rw[a]at hl;cases hl
 |some l =>
  rw[a]at hl;obtain⟨pre,cs,post,e,fz,g,i,j⟩:=h.cells a;simp only[qm,lR]at hl;obtain⟨c,d,f⟩:=j.pZ hl;exact⟨c,xkj g (by rw[<-i];exact EK pre cs post o d),f⟩
def HR.aq(h:HR P base D θ H w){b o n:Nat}{l:List AV}(hl:H.aq b o n=some l) :
 ∃cs:List Value,(loadCells ⟨θ.bV b,θ.off b+o,none⟩ n).run P w=.ok cs.toArray w/\bL D θ l cs/\l.length=n:=by
 unfold ar.aq at hl;cases a:H.bT b with
 |none=>rw[a]at hl;cases hl
 |some l0 =>
  rw[a]at hl;obtain⟨pre,cs,post,e,fz,d,f,c⟩:=h.cells a;simp only[qm,u4]at hl;split at hl
  .rename_i hn;injection hl with hl;subst hl
   have hlen:=c.length;refine⟨(cs.drop o).take n,?_,(c.drop o).take n,by simp;omega⟩;rw[<-f,Yq d (pre.length+o) n (by simp;omega),Z0 pre cs post o n (by omega)]
  .cases hl
def xar{v:AV}{c:Value}(h:VR D θ v c)(a:av v=true):c.oneCell'=true:=by
 rw[<-h.now];cases v<;>simp_all[av,az,Value.oneCell']
def yj(l:List AV):aJ l=l.all av:=by
 induction l with
 |nil=>rfl
 |cons x l ih =>
  show cond (av x) (aJ l) false=_;rw[ih];cases h:av x<;>simp[h]
def YJ{l:List AV}{cs:List Value}(h:bL D θ l cs)(d:aJ l=true):∀c∈cs,c.oneCell'=true:=by
 intro c j;obtain⟨i,f⟩:=Ks j;rw[yj,wq]at d;have a:i<l.length:=by rw[<-h.length];exact(qk.1 f).1
 obtain⟨m,b,g⟩:=h.pZ (qt a);rw[f]at b;injection b with b;subst b
 exact xar g (d _ (List.getElem_mem a))
end
end Go.Am
namespace Go.Am
def rL(P:Program)(s:Sem Next)(w:World)(c:Value)(w':World):Prop:=s.run P w=.ok (.value c) w'\/(s.run P w=.ok .skip w'/\c=Go.undef)
def dh(P:Program)(o:Oper)(xs:List Operand)(f:List AV->Option AV):Prop :=
 ∀(D:Nat->Prop)θ(ρ:Operand->Value)w vs v,bL D θ vs (xs.map ρ)->f vs=some v -> ∃c,rL P (execOp ρ o) w c w/\VR D θ v c
section
variable{P:Program}{w:World}
def j5{t:TypeId}{d:TypeDesc}(h:P.underlying t=some d):(underlying t).run P w=.ok d w:=run_underlying h w
def tz{t:TypeId}{n:Nat}(h:bN P t=some n):(sizeOf t).run P w=.ok n w:=by
 unfold bN at h;cases a:P.info? t with
 |none=>rw[a]at h;cases h
 |some i=>rw[a]at h;injection h with h;subst h;simp[sizeOf,typeInfo,a]
def qxj{t:TypeId}{n:Nat}(h:bN P t=some n):∃i,P.info? t=some i/\i.size=n:=by
 unfold bN at h;cases a:P.info? t with
 |none=>rw[a]at h;cases h
 |some i=>rw[a]at h;injection h with h;exact⟨i,rfl,h⟩
def Su{t:TypeId}{n:Option Nat}(h:nF P t=some n):(isAgg t).run P w=.ok n.isSome w /\ ∀k,n=some k->(sizeOf t).run P w=.ok k w:=by
 unfold nF at h;cases hu:P.underlying t with
 |none=>rw[hu]at h;cases h
 |some d =>
  rw[hu]at h;cases d
  case struct fs =>
   simp only at h;cases hs:bN P t with
   |none=>rw[hs]at h;cases h
   |some m =>
    rw[hs]at h;injection h with h;subst h
    exact⟨by simp[isAgg,j5 hu],λ k hk=>by injection hk with hk;subst hk;exact tz hs⟩
  case array m e =>
   simp only at h;cases hs:bN P t with
   |none=>rw[hs]at h;cases h
   |some m =>
    rw[hs]at h;injection h with h;subst h
    exact⟨by simp[isAgg,j5 hu],λ k hk=>by injection hk with hk;subst hk;exact tz hs⟩
  all_goals
   (injection h with h;subst h
    exact⟨by simp[isAgg,j5 hu],λ k hk=>by cases hk⟩)
mutual
def UW(θ:Th):∀(c:Value)(v:AV),fN c=some v->az θ v=c
 | .bool b,v,h=>by simp[fN]at h;subst h;rfl
 | .int k n,v,h=>by simp[fN]at h;subst h;rfl
 | .string s,v,h=>by simp[fN]at h;subst h;simp[az]
 | .pointer none,v,h=>by simp[fN]at h;subst h;rfl
 | .pointer (some a),v,h=>by simp[fN]at h
 | .slice none 0 0,v,h=>by simp[fN]at h;subst h;rfl
 | .slice none 0 (n+1),v,h=>by simp[fN]at h
 | .slice none (n+1) c,v,h=>by simp[fN]at h
 | .slice (some a) n c,v,h=>by simp[fN]at h
 | .map none,v,h=>by simp[fN]at h;subst h;rfl
 | .map (some r),v,h=>by simp[fN]at h
 | .nilFunc,v,h=>by simp[fN]at h;subst h;rfl
 | .nilIface,v,h=>by simp[fN]at h;subst h;rfl
 | .iface t x,v,h=>by
  simp only[fN]at h;cases d:fN x with
  |none=>rw[d]at h;cases h
  |some y=>rw[d]at h;injection h with h;subst h;simp[az,UW θ x y d]
 | .agg cs,v,h=>by
  simp only[fN]at h;cases d:nq cs.toList with
  |none=>rw[d]at h;cases h
  |some l=>rw[d]at h;injection h with h;subst h;simp[az,Ub θ cs.toList l d]
 | .tuple cs,v,h=>by
  simp only[fN]at h;cases d:nq cs.toList with
  |none=>rw[d]at h;cases h
  |some l=>rw[d]at h;injection h with h;subst h;simp[az,Ub θ cs.toList l d]
 | .float _ _,v,h=>by simp[fN]at h
 | .complex _ _ _,v,h=>by simp[fN]at h
 | .chan _,v,h=>by simp[fN]at h
 | .func _ _ _,v,h=>by simp[fN]at h
def Ub(θ:Th):∀(cs:List Value)(l:List AV),nq cs=some l->bR θ l=cs
 |[],l,h=>by simp[nq]at h;subst h;rfl
 |c::cs,l,h=>by
  simp only[nq]at h;cases a:fN c with
  |none=>rw[a]at h;cases h
  |some y =>
   rw[a]at h;simp only[qm]at h;cases b:nq cs with
   |none=>rw[b]at h;cases h
   |some ys=>rw[b]at h;injection h with h;subst h;simp[bR,UW θ c y a,Ub θ cs ys b]
end
def RR{D:Nat->Prop}{θ:Th}{c:Value}{v:AV}(h:fN c=some v):VR D θ v c:=λ θ' _=>UW θ' c v h
def Js{t:TypeId}{z:AV}(h:zeroOf P t=some z):∃c,(zeroValue t).run P w=.ok c w /\ ∀D θ,VR D θ z c:=by
 unfold zeroOf at h;cases a:P.info? t with
 |none=>rw[a]at h;cases h
 |some i =>
  rw[a]at h;simp only[qm]at h;cases b:i.zero with
  |none=>rw[b]at h;cases h
  |some c=>rw[b]at h;exact⟨c,by simp[zeroValue,typeInfo,a,b],λ D θ=>RR h⟩
end
section
variable{D:Nat->Prop}{θ:Th}
def VR.cells{v:AV}{c:Value}(h:VR D θ v c):bL D θ v.cells c.cells.toList:=by
 intro θ' ha;have a:=h θ' ha;subst a;cases v<;>simp[AV.cells,az,Value.cells,bR]
end
section
variable{P:Program}{D:Nat->Prop}{θ:Th}{ρ:Operand->Value}{w:World}
def bL.iI{x:Operand}{vs:List AV}(h:bL D θ vs ([x].map ρ)):∃v,vs=[v]/\VR D θ v (ρ x):=by
 cases vs with
 |nil=>have:=h.length;simp at this
 |cons v vs =>
  obtain⟨c,cs,a,b,d⟩:=h.eJ;simp only[ji,EI,zk]at a;obtain⟨rfl,rfl⟩:=a;have:=d.length;cases vs with
  |nil=>exact⟨v,rfl,b⟩
  |cons _ _=>simp at this
def bL.sH{x y:Operand}{vs:List AV}(h:bL D θ vs ([x,y].map ρ)):∃a b,vs=[a,b]/\VR D θ a (ρ x)/\VR D θ b (ρ y):=by
 cases vs with
 |nil=>have:=h.length;simp at this
 |cons v vs =>
  obtain⟨c,cs,d,f,g⟩:=h.eJ;simp only[ji,EI,zk]at d;obtain⟨rfl,rfl⟩:=d;obtain⟨b,rfl,hb⟩:=bL.iI (ρ:=ρ) (x:=y) g;exact⟨v,b,rfl,f,hb⟩
def bL.rD{x y z:Operand}{vs:List AV}(h:bL D θ vs ([x,y,z].map ρ)):∃a b c,vs=[a,b,c]/\VR D θ a (ρ x)/\VR D θ b (ρ y)/\VR D θ c (ρ z):=by
 cases vs with
 |nil=>have:=h.length;simp at this
 |cons v vs =>
  obtain⟨c,cs,d,f,g⟩:=h.eJ;simp only[ji,EI,zk]at d;obtain⟨rfl,rfl⟩:=d;obtain⟨a,b,rfl,ha,hb⟩:=bL.sH (ρ:=ρ) (x:=y) (y:=z) g;exact⟨v,a,b,rfl,f,ha,hb⟩
def xaz{o:Oper}{x:Operand}(ho:o.op=.move x\/o.op=.assign x):dh P o [x] Op.move:=by
 intro D θ ρ w vs v h b;obtain⟨a,rfl,ha⟩:=bL.iI h;simp only[Op.move,qe]at b;subst b;refine⟨ρ x,.inl ?_,ha⟩;rcases ho with ho|ho<;>simp[execOp,ho]
def xj7{o:Oper}{c a b:Operand}(ho:o.op=.pick c a b):dh P o [c,a,b] Op.pick:=by
 intro D θ ρ w vs v h d;obtain⟨q,x,y,rfl,l,m,n⟩:=bL.rD h;unfold Op.pick at d;split at d
 .rename_i i p r heq;injection heq with j f;subst j;injection f with f g;subst f;injection g with g _;subst g
  injection d with d;subst d
  have hb:ρ c=.bool i:=l.now.symm;cases i
  .exact ⟨ρ b,.inl (by simp[execOp,ho,hb,asBool]),n⟩
  .exact ⟨ρ a,.inl (by simp[execOp,ho,hb,asBool]),m⟩
 .cases d
def FP{o:Oper}{op:UnOp}{t:TypeId}{x:Operand}(ho:o.op=.unOp op t x):dh P o [x] (Op.un op):=by
 intro D θ ρ w vs v h b;obtain⟨a,rfl,ha⟩:=bL.iI h;simp only[Op.un,unV]at b;have hr:=ha.now;split at b
 .rename_i k n;injection b with b;subst b
  exact⟨_,.inl (by simp[execOp,ho,<-hr,az,Go.Op.unary,Go.Op.intArith]<;>rfl),.int _ _⟩
 .rename_i k n;simp only[gf]at b;injection b with b;subst b
  exact⟨_,.inl (by simp[execOp,ho,<-hr,az,Go.Op.unary,Go.Op.intBits]<;>rfl),.int _ _⟩
 .injection b with b;subst b
  exact⟨_,.inl (by simp[execOp,ho,<-hr,az,Go.Op.unary]),.bool _⟩
 .cases b
def xj8{o:Oper}{src dst:TypeId}{x:Operand}{k j:IntKind}(ho:o.op=.convert src dst x)(c:P.underlying src=some (.int j))(d:P.underlying dst=some (.int k)):dh P o [x] (Op.wrap k):=by
 intro D θ ρ w vs v h b;obtain⟨a,rfl,ha⟩:=bL.iI h;have hr:=ha.now;unfold Op.wrap at b;split at b
 .rename_i k' n heq;injection heq with heq;subst heq
  injection b with b;subst b
  exact⟨_,.inl (by simp[execOp,ho,<-hr,az,convert,j5 c,j5 d,Conv.intToInt]<;>rfl),.int _ _⟩
 .cases b
def xay{o:Oper}{t:TypeId}{x:Operand}(ho:o.op=.makeInterface t x)(g:∃d,P.underlying t=some d/\(match d with| .interface _=>false|_=>true)=true):dh P o [x] (Op.dp t):=by
 intro D θ ρ w vs v h b;obtain⟨a,rfl,ha⟩:=bL.iI h;simp only[Op.dp,qe]at b;subst b;obtain⟨d,c,f⟩:=g;refine⟨.iface t (ρ x),.inl ?_,ha.iface⟩;cases d<;>simp_all[execOp,Instr.makeInterface,j5 c]
def xc1{o:Oper}{f:FuncId}{a b:Array Operand}(ho:o.op=.makeFunc (.func f) a b):dh P o (a.toList++b.toList) (Op.bD f a.size):=by
 intro D θ ρ w vs v h c;simp only[Op.bD,qe]at c;subst c;refine⟨.func (.func f) (a.map ρ) (b.map ρ),.inl (by simp[execOp,ho,Instr.makeFunc]),λ θ' hg=>?_⟩;have d:=(h.take a.size) θ' hg;have g:=(h.drop a.size) θ' hg;simp only[az,fD,d,g];congr 1
 .rw [HJ,jw (by simp)];apply G0;simp[zg]
 .rw [HJ,yn (by simp)];apply G0;simp[List.drop_of_length_le]
def xaw{o:Oper}{x:Operand}{i:Nat}(ho:o.op=.extract x i):dh P o [x] (Op.extract i):=by
 intro D θ ρ w vs v h b;obtain⟨a,rfl,ha⟩:=bL.iI h;unfold Op.extract at b;split at b
 .rename_i l heq;injection heq with heq;subst heq
  obtain⟨cs,g,hl⟩:=ha.yB;rw[lR]at b;obtain⟨c,d,f⟩:=hl.pZ b;exact⟨c,.inl (by simp[execOp,ho,g,Instr.extract,d]),f⟩
 .cases b
def Mi{o:Oper}{c:Call}{b:Builtin}(ho:o.op=.call c)(a:c.callee=.builtin b) :
 ∃consts,execOp ρ o=builtin b c.argTypes o.type consts (c.args.map ρ):=by
 refine⟨c.args.map λ| .const _=>true|_=>false,?_⟩;simp only[execOp,ho,resolve,a,invoke];rfl
def Ao{c:Call}{xs:List Operand}(a:c.args.toList=xs):c.args.map ρ = (xs.map ρ).toArray:=by
 subst a;apply G0;simp
def bL.pn{xs:List Operand}{a:AV}(h:bL D θ [a] (xs.map ρ)):∃x,xs=[x]/\VR D θ a (ρ x):=by
 have:=h.length
 match xs,this,h with
 |[x],_,h=>obtain⟨_,heq,ha⟩:=bL.iI h;injection heq with heq _;subst heq;exact⟨x,rfl,ha⟩
def bL.qI{xs:List Operand}{a b:AV}(h:bL D θ [a,b] (xs.map ρ)):∃x y,xs=[x,y]/\VR D θ a (ρ x)/\VR D θ b (ρ y):=by
 have:=h.length
 match xs,this,h with
 |[x,y],_,h =>
  obtain⟨_,_,heq,ha,hb⟩:=bL.sH h;injection heq with d c;injection c with c _;subst d;subst c;exact⟨x,y,rfl,ha,hb⟩
def Ka(s:List UInt8):(⟨s.toArray⟩:ByteArray).size=s.length:=by simp[ByteArray.size]
def xgs{o:Oper}{c:Call}{xs:List Operand}{t e:TypeId}(ho:o.op=.call c)(f:c.callee=.builtin .len)(d:c.args.toList=xs)(b:c.argTypes[0]? = some t)
 (hu:P.underlying t=some (.slice e)):dh P o xs Op.dc:=by
 intro D θ ρ w vs v h a;obtain⟨consts,he⟩:=Mi (ρ:=ρ) ho f;unfold Op.dc at a;split at a
 .obtain ⟨x,rfl,ha⟩:=h.pn;injection a with a;subst a
  refine⟨_,.inl ?_,.int _ _⟩;rw[he,Ao d];simp[builtin,Builtin.len_,j5 hu,b,<-ha.now,az,goInt]<;>rfl
 .obtain ⟨x,rfl,ha⟩:=h.pn;injection a with a;subst a
  refine⟨_,.inl ?_,.int _ _⟩;rw[he,Ao d];simp[builtin,Builtin.len_,j5 hu,b,<-ha.now,az,goInt]<;>rfl
 .obtain ⟨x,rfl,ha⟩:=h.pn;injection a with a;subst a
  refine⟨_,.inl ?_,.int _ _⟩;rw[he,Ao d];simp[builtin,Builtin.len_,j5 hu,b,<-ha.now,az,goInt]<;>rfl
 .obtain ⟨x,rfl,ha⟩:=h.pn;injection a with a;subst a
  refine⟨_,.inl ?_,.int _ _⟩;rw[he,Ao d];simp[builtin,Builtin.len_,j5 hu,b,<-ha.now,az,goInt]<;>rfl
 .cases a
def xf2{op:BinOp}{k:IntKind}{a b:Int}{v:AV}(hs:dR op=false)(h:gf op k a b=some v)(t:TypeId) :
 ∃c,(binOp op t (.int k a) (.int k b)).run P w=.ok c w/\VR D θ v c:=by
 cases op<;>simp only[gf,dR,qe,BU,Mx,GZ,Bool.true_eq_false]at h hs
 case quo =>
  cases hb:(b == 0)<;>rw[hb]at h<;>simp at h;subst h;exact⟨_,by simp[binOp,Go.Op.intDiv,by simpa using hb]<;>rfl,.int _ _⟩
 case rem =>
  cases hb:(b == 0)<;>rw[hb]at h<;>simp at h;subst h;exact⟨_,by simp[binOp,Go.Op.intDiv,by simpa using hb]<;>rfl,.int _ _⟩
 all_goals
  subst h
  first|refine⟨_,?_,VR.int _ _⟩|refine⟨_,?_,VR.bool _⟩
  simp only[binOp,ne_eq,not_true_eq_false,wz,Go.Op.intBits,Go.Op.intArith,Go.Op.intCmp];rfl
def q9i(a b:List UInt8):bytesLess a b=Go.Op.bytesLess a b:=by
 induction a generalizing b with
 |nil=>cases b<;>rfl
 |cons x a ih=>cases b with
  |nil=>rfl
  |cons y b =>
   simp only[bytesLess,Go.Op.bytesLess,ih,UC];congr 1;rw[Bool.eq_iff_iff];simp[UInt8.lt_iff_toNat_lt]
def xbf(s:List UInt8):(⟨s.toArray⟩:ByteArray).toList=s:=by rw[ByteArray.toList_eq]
def xhb{op:BinOp}{a b:List UInt8}{v:AV}(h:qE op a b=some v)(t:TypeId) :
 ∃c,(binOp op t (.string ⟨a.toArray⟩) (.string ⟨b.toArray⟩)).run P w=.ok c w/\VR D θ v c:=by
 cases op<;>simp only[qE,qe,reduceCtorEq,J7,q9i]at h
 case add =>
  cases hb:Nat.ble (a.length+b.length) 140737488355328<;>rw[hb]at h<;>simp at h;subst h;have hle:a.length+b.length<=140737488355328:=by simpa[ww]using hb
  refine⟨.string (⟨a.toArray⟩++⟨b.toArray⟩),?_,λ θ' _=>?_⟩
  .simp only[binOp,Go.Op.stringOp,Ka,Sem.run_ite];rw[qo (by simp[IntKind.max,IntKind.bits,IntKind.signed];omega)];rfl
  .show Value.string ⟨(a++b).toArray⟩=_;congr 1
 all_goals
  subst h;exact⟨_,by simp[binOp,Go.Op.stringOp]<;>rfl,.bool _⟩
def xev{o:Oper}{op:BinOp}{t p:TypeId}{x y:Operand}(ho:o.op=.binOp op t x y p):dh P o [x,y] (Op.bin op):=by
 intro D θ ρ w vs v h d;obtain⟨a,b,rfl,ha,hb⟩:=bL.sH h;simp only[Op.bin,mS]at d;have g:=ha.now;have i:=hb.now;have guard:∀(u n:Value),(∀l,u≠ .agg l)->u≠ .nilIface->(eqGuard op t x y u n).run P w=.ok () w:=by
  intro u n q r;unfold eqGuard;cases u<;>cases op<;>simp_all
 split at d
 .rename_i k a k' b;cases hs:dR op
  .rw [hs]at d;simp only[zj,QI]at d
   by_cases hk:k=k'
   .subst hk;simp only[decide_true,xm]at d;obtain⟨c,j,m⟩:=xf2 (P:=P) (w:=w) (D:=D) (θ:=θ) hs d t;refine⟨c,.inl ?_,m⟩;have hg:=guard (.int k a) (.int k b) (λ _=>by simp) (by simp);simp[execOp,ho,<-g,<-i,az,hg,j]
   .simp [hk]at d
  .rw [hs]at d;simp only[xm,sD,Mx]at d
   by_cases f:b<0
   .simp [f]at d
   .simp only[f,JK,zj]at d;have hg:=guard (.int k a) (.int k' b) (λ _=>by simp) (by simp);cases op<;>simp only[dR,zx]at hs
    all_goals
     injection d with d;subst d
     exact⟨_,.inl (by simp[execOp,ho,<-g,<-i,az,hg,binOp,Go.Op.shift,f]<;>rfl),.int _ _⟩
 .rename_i a b;obtain⟨c,j,m⟩:=xhb (P:=P) (w:=w) (D:=D) (θ:=θ) d t;have hg:=guard (.string ⟨a.toArray⟩) (.string ⟨b.toArray⟩) (λ _=>by simp) (by simp);exact⟨c,.inl (by simp[execOp,ho,<-g,<-i,az,hg,j]),m⟩
 .cases d
end
end Go.Am
namespace Go.Am
section
variable{P:Program}{D:Nat->Prop}{θ:Th}{ρ:Operand->Value}{w:World}
def KS{t:TypeId}{l:List AV}{cs:List Value}{off:Nat}{n:Option Nat}{v:AV}(hn:nF P t=some n)(hl:bL D θ l cs)(h:partAt l off n=some v) :
 ∃c,(part t cs.toArray off).run P w=.ok c w/\VR D θ v c:=by
 obtain⟨a,b⟩:=Su (w:=w) hn;cases n with
 |none =>
  simp only[partAt,lR]at h;obtain⟨c,d,f⟩:=hl.pZ h;exact⟨c,by simp[part,a,d],f⟩
 |some k =>
  simp only[partAt,u4]at h;split at h
  .rename_i hk;injection h with h;subst h
   refine⟨.agg ((cs.drop off).take k).toArray,?_,VR.agg ((hl.drop off).take k)⟩;have hlen:=hl.length;simp only[part,Sem.run_bind,a,Result.andThen_ok,y8,ri,b k rfl];simp only[Sem.run_pure,Result.ok.injEq,Value.agg.injEq,rk];apply G0;simp[List.extract,yp]
  .cases h
def Qy{i:Int}{n k:Nat}(h:within i n=some k):i=(k:Int)/\k<n:=by
 unfold within at h;cases i with
 |ofNat m =>
  simp only at h;cases hb:Nat.blt m n<;>rw[hb]at h
  .cases h
  .injection h with h;subst h;exact⟨rfl,by simpa[sX]using hb⟩
 |negSucc m=>cases h
def q5k{o:Oper}{t:TypeId}{x:Operand}{i:Nat}{fs:Array Field}{f:Field}{n:Nat}(ho:o.op=.fieldAddr t x i)(j:P.underlying t=some (.struct fs))(g:fs[i]? = some f)(hn:bN P f.type=some n)(c:n≠0) :
 dh P o [x] (Op.fieldAddr f.offset):=by
 intro D θ ρ w vs v h a;unfold Op.fieldAddr at a;split at a
 .rename_i b d;obtain⟨y,heq,ha⟩:=h.pn;injection heq with heq _;subst heq
  injection a with a;subst a
  have hr:=ha.now;refine⟨.pointer (some ⟨θ.bV b,θ.off b+d+f.offset,none⟩),.inl ?_,λ θ' hg=>?_⟩
  .simp [execOp,ho,Instr.fieldAt,j5 j,g,<-hr,az,Instr.sureAddr,fieldPlace,tz hn,c,vV]
  .have:=ha θ' hg;rw[<-hr]at this;simp[az]at this⊢;omega
 .cases a
def q8i{o:Oper}{t e:TypeId}{x i:Operand}{len size:Nat}{n:Option Nat}(ho:o.op=.index t x i)(q:P.underlying t=some (.array len e))(hs:bN P e=some size)(hn:nF P e=some n) :
 dh P o [x,i] (Op.bA len size n):=by
 intro D θ ρ w vs v h a;unfold Op.bA at a;split at a
 .rename_i l k j;obtain⟨y,z,heq,ha,hb⟩:=h.qI;injection heq with d b;injection b with b _;subst d;subst b
  cases hw:within j len with
  |none=>rw[hw]at a;cases a
  |some m =>
   rw[hw]at a;obtain⟨rfl,p⟩:=Qy hw;obtain⟨cs,f,hl⟩:=ha.eU;obtain⟨c,d,b⟩:=KS (w:=w) hn hl a;refine⟨c,.inl ?_,b⟩;have g:(0:Int)<=(m:Int)/\(m:Int)<(len:Int):=by omega
   simp[execOp,ho,Instr.index,j5 q,f,<-hb.now,az,asIntOf,g,tz hs,d];intro r;omega
 .cases a
def q8k{o:Oper}{t:TypeId}{x i:Operand}(ho:o.op=.index t x i)(l:P.underlying t=some .string):dh P o [x,i] Op.bK:=by
 intro D θ ρ w vs v h a;unfold Op.bK at a;split at a
 .rename_i s k j;obtain⟨y,z,heq,ha,hb⟩:=h.qI;injection heq with f c;injection c with c _;subst f;subst c
  cases hw:within j s.length with
  |none=>rw[hw]at a;cases a
  |some m =>
   rw[hw]at a;obtain⟨rfl,b⟩:=Qy hw;simp only[qm,lR]at a;obtain⟨u,hu⟩:∃u,s[m]? = some u:=⟨_,qt b⟩
   rw[hu]at a;injection a with a;subst a
   refine⟨.int .u8 u.toNat,.inl ?_,.int _ _⟩;have d:(0:Int)<=(m:Int):=by omega
   have hg:getElem? (⟨s.toArray⟩:ByteArray) m=some u:=by
    have n:m<(⟨s.toArray⟩:ByteArray).size:=by rw[Ka];exact b
    rw[getElem?_pos (⟨s.toArray⟩:ByteArray) m n];have g:=(qk.1 hu).2;simp only[qe];exact g
   simp[execOp,ho,Instr.index,j5 l,<-ha.now,<-hb.now,az,asIntOf,d,hg]
 .cases a
def q2h{x:AV}{c:Value}{size j b o:Nat}(h:VR D θ x c)(he:elemAt size x j=some (b,o)) :
 ∃n m,c=.slice (some ⟨θ.bV b,θ.off b+o-j*size,none⟩) n m/\j<n/\j*size<=o/\(∀θ',Ag D θ θ' -> θ'.bV b = θ.bV b /\ θ'.off b+o = θ.off b+o):=by
 have hr:=h.now;unfold elemAt at he;split at he
 .rename_i d o' n' i;cases hb:Nat.blt j n'<;>rw[hb]at he
  .cases he
  .simp only[xm,qe,xv]at he;obtain⟨rfl,rfl⟩:=he;refine⟨n',i,?_,by simpa[sX]using hb,by omega,λ θ' ha=>?_⟩
   .rw [<-hr];simp only[az];congr 3;omega
   .have:=h θ' ha;rw[<-hr]at this;simp only[az,Value.slice.injEq,qe,Addr.mk.injEq]at this;omega
 .rename_i d f g p a n';cases hb:(Nat.blt j n' && Nat.beq p size && Nat.blt (f+j) g)<;>rw[hb]at he
  .cases he
  .simp only[xm,qe,xv]at he;obtain⟨rfl,rfl⟩:=he;simp only[xt,sX,jh]at hb;obtain⟨⟨l,rfl⟩,q⟩:=hb;refine⟨n',g-f + θ.ext d,?_,l,by omega,λ θ' ha=>?_⟩
   .rw [<-hr];simp only[az];rw[qo (by omega)];congr 3;omega
   .have:=h θ' ha;rw[<-hr]at this;simp only[az,Value.slice.injEq,qe,Addr.mk.injEq]at this;rw[qo (by omega),qo (by omega)]at this;omega
 .cases he
def xax{o:Oper}{t e:TypeId}{x i:Operand}{size:Nat}(ho:o.op=.indexAddr t x i)(B:P.underlying t=some (.slice e))(hs:bN P e=some size) :
 dh P o [x,i] (Op.aO size):=by
 intro D θ ρ w vs v h d;unfold Op.aO at d;split at d
 .rename_i a k j;obtain⟨y,z,heq,ha,hb⟩:=h.qI;injection heq with l g;injection g with g _;subst l;subst g
  cases hl:eY a with
  |none=>rw[hl]at d;cases d
  |some n0 =>
   rw[hl]at d;simp only[qm]at d;cases hw:within j n0 with
   |none=>rw[hw]at d;cases d
   |some m =>
    rw[hw]at d;simp only[qm]at d;obtain⟨rfl,A⟩:=Qy hw;cases he:elemAt size a m with
    |none=>rw[he]at d;cases d
    |some p =>
     obtain⟨b,f⟩:=p;rw[he]at d;injection d with d;subst d
     obtain⟨n,c,r,u,hle,q⟩:=q2h ha he;refine⟨.pointer (some ⟨θ.bV b,θ.off b+f,none⟩),.inl ?_,λ θ' hg=>?_⟩
     .have s:(0:Int)<=(m:Int)/\(m:Int)<(n:Int):=by omega
      have heq:θ.off b+f-m*size+m*size = θ.off b+f:=by omega
      simp[execOp,ho,Instr.indexAt,j5 B,r,<-hb.now,az,asIntOf,s,tz hs,vV,heq];intro C;omega
     .obtain ⟨l,g⟩:=q θ' hg;simp only[az,l,g]
 .cases d
def q8j{o:Oper}{t e:TypeId}{x i:Operand}{len size:Nat}(ho:o.op=.indexAddr t x i)(n:P.underlying t=some (.array len e))(hs:bN P e=some size) :
 dh P o [x,i] (Op.aS len size):=by
 intro D θ ρ w vs v h a;unfold Op.aS at a;split at a
 .rename_i b d k j;obtain⟨y,z,heq,ha,hb⟩:=h.qI;injection heq with f c;injection c with c _;subst f;subst c
  cases hw:within j len with
  |none=>rw[hw]at a;cases a
  |some m =>
   rw[hw]at a;injection a with a;subst a
   obtain⟨rfl,l⟩:=Qy hw;have g:(0:Int)<=(m:Int)/\(m:Int)<(len:Int):=by omega
   refine⟨.pointer (some ⟨θ.bV b,θ.off b+d+m*size,none⟩),.inl ?_,λ θ' hg=>?_⟩
   .simp [execOp,ho,Instr.indexAt,j5 n,<-ha.now,<-hb.now,az,asIntOf,Instr.sureAddr,g,tz hs,vV];intro p;omega
   .have:=ha θ' hg;rw[<-ha.now]at this;simp[az]at this⊢;omega
 .cases a
def q8l{o:Oper}{x:Operand}(ho:o.op=.nilCheck x):dh P o [x] Op.nilCheck:=by
 intro D θ ρ w vs v h b;obtain⟨a,rfl,ha⟩:=bL.iI h;have hr:=ha.now;unfold Op.nilCheck at b;split at b
 .cases b
 .cases b
 .cases b
 .rename_i f m n heq;injection heq with heq;subst heq
  injection b with b;subst b
  exact⟨ρ x,.inl (by simp[execOp,ho,<-hr,az,fD]),ha⟩
 .cases b
 .rename_i c g i j p l heq;injection heq with heq;subst heq
  injection b with b;subst b
  refine⟨ρ x,.inl ?_,ha⟩;have d:=hr.symm;clear hr ha h;cases a
  case nilp=>exact absurd rfl g
  case nili=>exact absurd rfl i
  case nilf=>exact absurd rfl j
  case fn f' c b'=>exact absurd rfl (l f' c b')
  all_goals (simp only[az]at d;simp[execOp,ho,d])
 .cases b
def xeh(off:Nat):∀(cs:List Value)(j:Nat)(arr:List Value),off+j+cs.length<=arr.length ->
 ((cs.zipIdx j).foldl (λ acc(p:Value×Nat)=>acc.setIfInBounds (off+p.2) p.1) arr.toArray)=(arr.take (off+j)++cs++arr.drop (off+j+cs.length)).toArray
 |[],j,arr,_=>by simp
 |c::cs,j,arr,h=>by
  simp only[List.zipIdx_cons,Mt,List.setIfInBounds_toArray];rw[xeh off cs (j+1) (arr.set (off+j) c) (by simp at h⊢;omega)];congr 1;have a:=list_seg_step arr (off+j) c cs (by simp at h⊢;omega)
  simpa[vw]using a
def xjh(off:Nat)(cs:Array Value)(arr:List Value)(h:off+cs.size<=arr.length) :
 (cs.zipIdx.foldl (λ acc(p:Value×Nat)=>acc.setIfInBounds (off+p.2) p.1) arr.toArray)=(arr.take off++cs.toList++arr.drop (off+cs.size)).toArray:=by
 have:=xeh off cs.toList 0 arr (by simpa using h);rw[<-Array.foldl_toList]
 simpa using this
def TU:∀(places:List (Nat×Nat))(vs:List AV)(parts:List (Nat×Operand))(pl:Nat->Option (Nat×Nat))(out:List AV),
 BM pl parts=some places->bL D θ vs (parts.map λ p=>ρ p.2) -> ∀(cells:List AV)(a:List Value),bL D θ cells a->iP cells places vs=some out ->
 ∃cout:List Value,Instr.fill pl a.toArray (parts.map λ p=>(p.1,ρ p.2))=some cout.toArray/\bL D θ out cout:=by
 intro places vs parts
 induction parts generalizing places vs with
 |nil =>
  intro pl out hp n cells a g d;simp only[BM,qe]at hp;subst hp;have:vs=[]:=by have:=n.length;simp at this;exact List.eq_nil_of_length_eq_zero (by omega)
  subst this;simp only[iP,qe]at d;subst d;exact⟨a,rfl,g⟩
 |cons p parts ih =>
  intro pl out hp n cells a g d;obtain⟨i,x⟩:=p;simp only[BM]at hp;cases f:pl i with
  |none=>rw[f]at hp;cases hp
  |some q =>
   obtain⟨off,size⟩:=q;rw[f]at hp;simp only[qm]at hp;cases hr:BM pl parts with
   |none=>rw[hr]at hp;cases hp
   |some l =>
    rw[hr]at hp;injection hp with hp;subst hp
    cases vs with
    |nil=>simp only[iP]at d;cases d
    |cons v vs =>
     obtain⟨c,cs',o,r,s⟩:=n.eJ;simp only[ji,zk]at o;obtain⟨rfl,rfl⟩:=o;simp only[iP,FQ]at d;cases hb:Nat.beq v.cells.length size
     .rw [hb]at d;cases d
     .rw [hb]at d;simp only[xm,Ep]at d;have b:=r.cells;have hlen:=b.length;have j:(ρ x).cells.size=size:=by rw[<-vg,hlen];simpa[jh]using hb
      split at d
      .rename_i hle;simp only[qm]at d;have y:=g.length;have h:bL D θ (cells.take off++v.cells++cells.drop (off+v.cells.length)) (a.take off++(ρ x).cells.toList++a.drop (off+v.cells.length)) :=
        ((g.take off).app b).app (g.drop _)
       obtain⟨cout,t,u⟩:=ih l vs pl out hr s _ _ h d;refine⟨cout,?_,u⟩;simp only[ji,Instr.fill,f];rw[qo (by simp only[List.size_toArray];rw[j];rw[<-vg]at j;simp;omega)];rw[<-t];congr 1;have m:=xjh off (ρ x).cells a (by rw[<-vg];omega);rw[show v.cells.length=(ρ x).cells.size from by rw[<-vg];omega];exact m
      .cases d
def xj2(parts:Array (Nat×Operand)):(parts.map λ(p:Nat×Operand)=>(p.1,ρ p.2)).toList=parts.toList.map λ p=>(p.1,ρ p.2):=by simp
def q8x(fs:Array Field)(a:∀f∈fs,∃n,bN P f.type=some n) :
 ∃pl:Array (Nat×Nat),(fs.mapM λ(f:Field)=>(do pure (f.offset,<-sizeOf f.type):Sem (Nat×Nat))).run P w=.ok pl w /\ ∀i:Nat,pl[i]? = Mr P fs i:=by
 have key:∀l:List Field,(∀f∈l,∃n,bN P f.type=some n) ->
  ∃pl:List (Nat×Nat),(l.mapM λ(f:Field)=>(do pure (f.offset,<-sizeOf f.type):Sem (Nat×Nat))).run P w=.ok pl w /\ ∀i:Nat,pl[i]? = (l[i]?).bind λ(f:Field)=>(bN P f.type).bind λ n=>some (f.offset,n):=by
  intro l
  induction l with
  |nil=>intro _;exact⟨[],by simp,by simp⟩
  |cons f l ih =>
   intro hl;obtain⟨n,hn⟩:=hl f (by simp);obtain⟨pl,b,c⟩:=ih (λ g hg=>hl g (by simp[hg]));refine⟨(f.offset,n)::pl,?_,λ i=>?_⟩
   .simp only[List.mapM_cons,Sem.run_bind,tz hn,Result.andThen_ok,Sem.run_pure,b]
   .cases i with
    |zero=>simp[hn]
    |succ i=>simpa using c i
 obtain⟨pl,b,c⟩:=key fs.toList (λ f d=>a f (by simpa using d));refine⟨pl.toArray,?_,λ i=>?_⟩
 .rw [Array.mapM_eq_mapM_toList];simp only[Sem.run_map,b,Result.andThen_ok]
 .simp [Mr,c i]
def qwg{o:Oper}{t:TypeId}{parts:Array (Nat×Operand)}{z:AV}{fs:Array Field}{c:List (Nat×Nat)}(ho:o.op=.build t parts)(y:zeroOf P t=some z)
 (x:P.underlying t=some (.struct fs)) (b:∀f∈fs,∃n,bN P f.type=some n) (hp:BM (Mr P fs) parts.toList=some c):dh P o (parts.toList.map (·.2)) (Op.build z.cells c):=by
 intro D θ ρ w vs v h a;obtain⟨A,j,l⟩:=Js (w:=w) y;obtain⟨pl,r,s⟩:=q8x (w:=w) fs b;unfold Op.build at a;cases d:iP z.cells c vs with
 |none=>rw[d]at a;cases a
 |some out =>
  rw[d]at a;injection a with a;subst a
  have q:bL D θ vs (parts.toList.map λ p=>ρ p.2):=by simpa[we,Function.comp_def]using h
  obtain⟨cout,m,u⟩:=TU (ρ:=ρ) c vs parts.toList (Mr P fs) out hp q z.cells A.cells.toList (l D θ).cells d;refine⟨.agg cout.toArray,.inl ?_,VR.agg u⟩;have g:(λ i=>pl[i]?)=Mr P fs:=funext s;simp only[execOp,ho,Instr.build,Sem.run_bind,j,Result.andThen_ok,j5 x,r,g];have e:(parts.map λ(p:Nat×Operand)=>(p.1,ρ p.2)).toList=parts.toList.map λ p=>(p.1,ρ p.2):=by simp
  simp only[Qd]at m;simp[m]
def qy1{o:Oper}{t e:TypeId}{parts:Array (Nat×Operand)}{z:AV}{len n:Nat}{b:List (Nat×Nat)}(ho:o.op=.build t parts)(r:zeroOf P t=some z)
 (q:P.underlying t=some (.array len e)) (hn:bN P e=some n) (hp:BM (Kg n) parts.toList=some b):dh P o (parts.toList.map (·.2)) (Op.build z.cells b):=by
 intro D θ ρ w vs v h a;obtain⟨s,f,g⟩:=Js (w:=w) r;unfold Op.build at a;cases c:iP z.cells b vs with
 |none=>rw[c]at a;cases a
 |some out =>
  rw[c]at a;injection a with a;subst a
  have l:bL D θ vs (parts.toList.map λ p=>ρ p.2):=by simpa[we,Function.comp_def]using h
  obtain⟨cout,j,m⟩:=TU (ρ:=ρ) b vs parts.toList (Kg n) out hp l z.cells s.cells.toList (g D θ).cells c;refine⟨.agg cout.toArray,.inl ?_,VR.agg m⟩;simp only[execOp,ho,Instr.build,Sem.run_bind,f,Result.andThen_ok,j5 q,tz hn];have e:(parts.map λ(p:Nat×Operand)=>(p.1,ρ p.2)).toList=parts.toList.map λ p=>(p.1,ρ p.2):=by simp
  simp only[Qd]at j;have d:(λ i=>some (i*n,n))=Kg n:=rfl;simp[d,j]
end
end Go.Am
namespace Go.Am
section
variable{P:Program}{D:Nat->Prop}{θ:Th}{ρ:Operand->Value}{w:World}
def mA(D:Nat->Prop)(θ:Th)(ρ:Operand->Value):Option Operand->Option AV->Prop
 |none,a=>a=none
 |some x,a=>∃v,a=some v/\VR D θ v (ρ x)
def SF:∀(opts:List (Option Operand))(pre rest:List AV),bL D θ rest ((jQ opts).map ρ) -> ∀(j:Nat)(o:Option Operand)(idx:Option Nat),opts[j]? = some o->(gq pre.length opts)[j]? = some idx ->
 ∀a,arg (pre++rest) idx=some a->mA D θ ρ o a
 |[],pre,rest,h,j,o,idx,ho,hi,a,ha=>by simp at ho
 |none::opts,pre,rest,h,j,o,idx,ho,hi,a,ha=>by
  cases j with
  |zero =>
   simp only[gq,jm,qe]at ho hi;subst ho;subst hi;simp only[arg,qe]at ha;exact ha.symm
  |succ j=>exact SF opts pre rest h j o idx (by simpa using ho) (by simpa[gq]using hi) a ha
 |some x::opts,pre,rest,h,j,o,idx,ho,hi,a,ha=>by
  cases rest with
  |nil=>have:=h.length;simp[jQ]at this
  |cons v rest =>
   obtain⟨c,cs,b,d,f⟩:=h.eJ;simp only[jQ,ji,zk]at b;obtain⟨rfl,rfl⟩:=b;cases j with
   |zero =>
    simp only[gq,jm,qe]at ho hi;subst ho;subst hi;simp only[arg,lR]at ha;rw[zh (qg _)]at ha;simp at ha;exact⟨v,ha.symm,d⟩
   |succ j =>
    refine SF opts (pre ++ [v]) rest f j o idx (by simpa using ho) (by simpa[gq]using hi) a ?_
    simpa using ha
def Xk{o:Option Operand}{a:Option AV}{d c r:Nat}(h:mA D θ ρ o a)(hb:bound a d c=some r) :
 (match o with
  |none=>r=d
  |some x=>(∀code y,c<=y->(Instr.sliceBound (ρ x) y code).run P w=.ok r w)/\r<=c):=by
 cases o with
 |none =>
  simp only[mA]at h;subst h;simp only[bound,qe]at hb;exact hb.symm
 |some x =>
  obtain⟨v,rfl,j⟩:=h;unfold bound at hb;split at hb
  .rename_i heq;cases heq
  .rename_i k i heq;injection heq with heq;subst heq
   cases hle:Nat.ble i c<;>rw[hle]at hb
   .cases hb
   .injection hb with hb;subst hb
    have b:i<=c:=by simpa[ww]using hle
    refine⟨λ code y l=>?_,b⟩;have f:(0:Int)<=(i:Int)/\(i:Int)<=(y:Int):=by omega
    have g:i<=y:=by omega
    simp[Instr.sliceBound,<-j.now,az,asIntOf,f]
  .cases hb
def Pc{lo n i:Option Operand}{a b m:Option AV}{q:Bool}{len cap low M Y h l:Nat}(ha:mA D θ ρ lo a)(hb:mA D θ ρ n b)(hm:mA D θ ρ i m)
 (s:(i=none/\M=cap) \/ ∃d,bound m d low=some M/\low<=cap/\i.isSome=true) (o:Y<=M) (t:bound b len Y=some h) (hl:bound a 0 h=some l) (p:i.isSome=true->n.isSome=true) :
 (Instr.sliceBounds q len cap (lo.map ρ) (n.map ρ) (i.map ρ)).run P w=.ok (l,h,M) w:=by
 have g:=Xk (P:=P) (w:=w) hb t;have c:=Xk (P:=P) (w:=w) ha hl;cases i with
 |none =>
  obtain⟨_,rfl⟩|⟨_,_,_,j⟩:=s
  .cases n with
   |none =>
    simp only at g;subst g;cases lo with
    |none=>simp only at c;subst c;simp[Instr.sliceBounds]
    |some x=>simp[Instr.sliceBounds,c.1 _ _ (qg _)]
   |some y =>
    cases lo with
    |none=>simp only at c;subst c;simp[Instr.sliceBounds,g.1 _ _ o]
    |some x=>simp[Instr.sliceBounds,g.1 _ _ o,c.1 _ _ (qg _)]
  .cases j
 |some z =>
  obtain⟨j,_⟩|⟨d,j,f,_⟩:=s
  .cases j
  .have r:=Xk (P:=P) (w:=w) hm j;cases n with
   |none=>simp at p
   |some y =>
    cases lo with
    |none=>simp only at c;subst c;simp[Instr.sliceBounds,r.1 _ _ f,g.1 _ _ o]
    |some x=>simp[Instr.sliceBounds,r.1 _ _ f,g.1 _ _ o,c.1 _ _ (qg _)]
def xfo(v:AV)(d b:Nat){a:Nat}:bound (some v) d a=bound (some v) b a:=by
 cases v<;>try rfl
 rename_i k n;cases n<;>rfl
def Is{o:Option Operand}{a:Option AV}{d b r:Nat}(h:mA D θ ρ o a)(hb:bound a d b=some r)(c:d<=b):r<=b:=by
 cases o with
 |none=>simp only[mA]at h;subst h;simp only[bound,qe]at hb;omega
 |some x =>
  obtain⟨v,rfl,f⟩:=h;unfold bound at hb;split at hb
  .rename_i heq;cases heq
  .rename_i k i heq;cases hle:Nat.ble i b<;>rw[hle]at hb
   .cases hb
   .injection hb with hb;subst hb;simpa[ww]using hle
  .cases hb
def y0(lo a b:Option Operand):∃i j k,gq 0 [lo,a,b]=[i,j,k]:=by cases lo<;>cases a<;>cases b<;>simp[gq]
def qi{size:Nat}{x:AV}{c:Value}{lo E p:Option Operand}{a b m:Option AV}{v:AV}(K:VR D θ x c)(ha:mA D θ ρ lo a)(hb:mA D θ ρ E b)(hm:mA D θ ρ p m)(f:eN size x a b m=some v) :
 ∃ad len cap l h M,c=.slice ad len cap/\(∀q,(Instr.sliceBounds q len cap (lo.map ρ) (E.map ρ) (p.map ρ)).run P w=.ok (l,h,M) w) /\
  VR D θ v (.slice (if M=l then ad else ad.map (·.add (l*size))) (h-l) (M-l)):=by
 have hr:=K.now;unfold eN at f;split at f
 .-- nil
  split at f
  .rename_i Z;cases g:bound b 0 0 with
   |none=>rw[g]at f;cases f
   |some h =>
    rw[g]at f;simp only[qm]at f;cases hl:bound a 0 h with
    |none=>rw[hl]at f;cases f
    |some l =>
     rw[hl]at f;injection f with f;subst f
     have u:p=none:=by
      cases p with
      |none=>rfl
      |some z=>obtain⟨_,r,_⟩:=hm;cases r
     subst u;have N:h=0/\l=0:=by
      have A:=Is hb g (qg _);have q3:=Is ha hl (xy _);omega
     obtain⟨rfl,rfl⟩:=N;refine⟨none,0,0,0,0,0,hr.symm,λ q=>Pc (low:=0) ha hb hm (.inl ⟨rfl,rfl⟩) (qg _) g hl (by simp),λ θ' _=>by simp[az]⟩
  .cases f
 .-- a slice of a known capacity
  rename_i bb oo n C;split at f
  .cases f
  .rename_i V;cases B:bound m C C with
   |none=>rw[B]at f;cases f
   |some M =>
    rw[B]at f;simp only[qm]at f;cases g:bound b n M with
    |none=>rw[g]at f;cases f
    |some h =>
     rw[g]at f;simp only[qm]at f;cases hl:bound a 0 h with
     |none=>rw[hl]at f;cases f
     |some l =>
      rw[hl]at f;injection f with f;subst f
      have W:p.isSome=true->E.isSome=true:=by
       intro r;cases p with
       |none=>cases r
       |some z =>
        obtain⟨_,X,_⟩:=hm;cases E with
        |some _=>rfl
        |none=>simp only[mA]at hb;subst hb;exact absurd (V _ X) (by simp)
      have O:(p=none/\M=C) \/ ∃d,bound m d C=some M/\C<=C/\p.isSome=true:=by
       cases p with
       |none=>simp only[mA]at hm;subst hm;simp only[bound,qe]at B;exact .inl ⟨rfl,B.symm⟩
       |some z=>exact .inr ⟨C,B,qg _,rfl⟩
      refine⟨_,n,C,l,h,M,hr.symm,λ q=>Pc ha hb hm O (qg _) g hl W,λ θ' hg=>?_⟩;have j:=K θ' hg;rw[<-hr]at j;simp only[az,Value.slice.injEq,qe,Addr.mk.injEq]at j⊢
      by_cases e:M=l
      .subst e;simp[Nat.beq_refl]<;>omega
      .have e':Nat.beq M l=false:=by rw[Bool.eq_false_iff];simpa[jh]using e
       rw[e'];simp[e,vV]<;>omega
 .-- a grown row's slice
  rename_i bb i F s alt n;cases Q:(Nat.beq s size && Nat.ble i F)<;>rw[Q]at f
  .cases f
  .simp only[xt,jh,ww]at Q;obtain⟨rfl,him⟩:=Q;simp only[xm]at f;split at f
   .-- no third bound
    rename_i hi';have u:p=none:=by
     cases p with
     |none=>rfl
     |some z=>obtain⟨_,r,_⟩:=hm;cases r
    subst u;cases g:bound b n (F-i)with
    |none=>rw[g]at f;cases f
    |some h =>
     rw[g]at f;simp only[qm]at f;cases hl:bound a 0 h with
     |none=>rw[hl]at f;cases f
     |some l =>
      rw[hl]at f;simp only[qm]at f;cases t:Nat.ble h (F-i)<;>rw[t]at f
      .cases f
      .injection f with f;subst f
       have hhm:h<=F-i:=by simpa[ww]using t
       have S:=Is ha hl (xy _);refine⟨_,n,_,l,h,_,hr.symm,λ q=>Pc (low:=0) ha hb hm (.inl ⟨rfl,rfl⟩) (Ms _ _) g hl (by simp),λ θ' hg=>?_⟩;have j:=K θ' hg;rw[<-hr]at j;simp only[az,Value.slice.injEq,qe,Addr.mk.injEq,rk,B0]at j;obtain⟨⟨L,A⟩,q3⟩:=j;have o:θ'.ext bb = θ.ext bb:=by omega
       have hmul:(i+l)*s=i*s+l*s:=yd i l s;simp only[az,Value.slice.injEq,B0,o,hmul];refine⟨?_,by omega⟩
       by_cases e:F-i + θ.ext bb=l
       .rw [qr e,qr (by omega)];simp only[qe,Addr.mk.injEq,rk];refine⟨L,?_⟩;rw[o]at A
        by_cases l0:l=0
        .subst l0;rw[qr e]at A⊢;exact A
        .have:Nat.beq l 0=false:=by rw[Bool.eq_false_iff];simpa[jh]using l0
         rw[this];rw[qo (by omega)]at A⊢;exact A
       .rw [qo e,qo (by omega)];simp only[wl,vV,qe,Addr.mk.injEq,rk];refine⟨L,?_⟩;rw[o]at A;rw[qo (by omega)]at A⊢;omega
   .cases f
   .-- a third bound
    rename_i I J;cases B:bound m 0 (F-i)with
    |none=>rw[B]at f;cases f
    |some M =>
     rw[B]at f;simp only[qm]at f;cases g:bound b 0 M with
     |none=>rw[g]at f;cases f
     |some h =>
      rw[g]at f;simp only[qm]at f;cases hl:bound a 0 h with
      |none=>rw[hl]at f;cases f
      |some l =>
       rw[hl]at f;simp only[qm]at f;cases t:Nat.beq M l<;>rw[t]at f
       .injection f with f;subst f
        have U:M≠l:=by intro e;subst e;simp at t
        obtain⟨z,X,Y⟩:∃z,p=some z /\ ∃v,m=some v:=by
         cases p with
         |none=>simp only[mA]at hm;exact absurd hm I
         |some z=>obtain⟨v,r,_⟩:=hm;exact⟨z,rfl,v,r⟩
        obtain⟨mv,T⟩:=Y;have G:E.isSome=true:=by
         cases E with
         |some _=>rfl
         |none=>simp only[mA]at hb;exact absurd hb (J _ T)
        have hMle:=Is hm B (xy _);have hhM:=Is hb g (xy _);have S:=Is ha hl (xy _);have R:bound b n M=some h:=by
         obtain⟨y,hy⟩:=Option.isSome_iff_exists.1 G;subst hy;obtain⟨bv,r,_⟩:=hb;subst r;rw[xfo bv n 0];exact g
        refine⟨_,n,_,l,h,M,hr.symm,λ q=>Pc ha hb hm (.inr ⟨0,B,Ms _ _,by rw[X];rfl⟩) (qg _) R hl (λ _=>G),λ θ' hg=>?_⟩;have j:=K θ' hg;rw[<-hr]at j;simp only[az,Value.slice.injEq,qe,Addr.mk.injEq,rk,B0]at j;obtain⟨⟨L,A⟩,q3⟩:=j;have o:θ'.ext bb = θ.ext bb:=by omega
        have hmul:(i+l)*s=i*s+l*s:=yd i l s;simp only[az,Value.slice.injEq,rk,hmul,qo U,wl,vV,qe,Addr.mk.injEq];refine⟨L,?_⟩;rw[o,qo (by omega)]at A;rw[qo (by omega)];omega
       .cases f
 .-- a slice without room
  rename_i bb;split at f
  .rename_i Z;cases g:bound b 0 0 with
   |none=>rw[g]at f;cases f
   |some h =>
    rw[g]at f;simp only[qm]at f;cases hl:bound a 0 h with
    |none=>rw[hl]at f;cases f
    |some l =>
     rw[hl]at f;injection f with f;subst f
     have u:p=none:=by
      cases p with
      |none=>rfl
      |some z=>obtain⟨_,r,_⟩:=hm;cases r
     subst u;have N:h=0/\l=0:=by
      have A:=Is hb g (qg _);have q3:=Is ha hl (xy _);omega
     obtain⟨rfl,rfl⟩:=N;refine⟨_,0,0,0,0,0,hr.symm,λ q=>Pc (low:=0) ha hb hm (.inl ⟨rfl,rfl⟩) (qg _) g hl (by simp),λ θ' hg=>?_⟩;rw[K θ' hg,<-hr];rfl
  .cases f
 .cases f
def xa0{o:Oper}{t e:TypeId}{x:Operand}{lo n p:Option Operand}{size:Nat}(ho:o.op=.slice t x lo n p)(K:P.underlying t=some (.slice e))(hs:bN P e=some size) :
 dh P o (x::jQ [lo,n,p]) (Op.aL size (gq 0 [lo,n,p])):=by
 intro D θ ρ w vs v h d;obtain⟨i,j,k,r⟩:=y0 lo n p;rw[r]at d;unfold Op.aL at d;split at d
 .rename_i L J N y g heq;injection heq with F z;injection z with z A;injection A with A _;subst F;subst z;subst A
  obtain⟨c,cs,u,B,G⟩:=h.eJ;simp only[ji,zk]at u;obtain⟨rfl,rfl⟩:=u;have f:=λ(q:Nat)(E:Option Operand)(idx:Option Nat)(u:[lo,n,p][q]? = some E)(B:[i,j,k][q]? = some idx)=>SF [lo,n,p] [] g G q E idx u (by simpa[r]using B);cases ha:arg g i with
  |none=>rw[ha]at d;cases d
  |some a =>
   rw[ha]at d;simp only[qm]at d;cases hb:arg g j with
   |none=>rw[hb]at d;cases d
   |some b =>
    rw[hb]at d;simp only[qm]at d;cases hm:arg g k with
    |none=>rw[hm]at d;cases d
    |some m =>
     rw[hm]at d;simp only[qm]at d;obtain⟨ad,len,cap,l,O,M,I,s,C⟩:=qi (P:=P) (w:=w) B (f 0 lo i rfl rfl a ha) (f 1 n j rfl rfl b hb) (f 2 p k rfl rfl m hm) d;refine⟨_,.inl ?_,C⟩;simp[execOp,ho,Instr.sliceAt,j5 K,Instr.slice,I,s,tz hs]
 .cases d
def q8m{o:Oper}{t e:TypeId}{x:Operand}{lo r u:Option Operand}{n size:Nat}(ho:o.op=.slice t x lo r u)(S:P.underlying t=some (.array n e))(hs:bN P e=some size) :
 dh P o (x::jQ [lo,r,u]) (Op.cD n size (gq 0 [lo,r,u])):=by
 intro D θ ρ w vs v h d;obtain⟨i,j,k,z⟩:=y0 lo r u;rw[z]at d;unfold Op.cD at d;split at d
 .rename_i U R V p B g heq;injection heq with N E;injection E with E F;injection F with F _;subst N;subst E;subst F
  obtain⟨c,cs,C,y,O⟩:=h.eJ;simp only[ji,zk]at C;obtain⟨rfl,rfl⟩:=C;have f:=λ(q:Nat)(I:Option Operand)(idx:Option Nat)(C:[lo,r,u][q]? = some I)(y:[i,j,k][q]? = some idx)=>SF [lo,r,u] [] g O q I idx C (by simpa[z]using y);cases ha:arg g i with
  |none=>rw[ha]at d;cases d
  |some a =>
   rw[ha]at d;simp only[qm]at d;cases hb:arg g j with
   |none=>rw[hb]at d;cases d
   |some b =>
    rw[hb]at d;simp only[qm]at d;cases hm:arg g k with
    |none=>rw[hm]at d;cases d
    |some m =>
     rw[hm]at d;simp only[qm]at d;have T:VR D θ (.slice p B n n) (.slice (some ⟨θ.bV p,θ.off p+B,none⟩) n n):=λ θ' hg=>by
      have:=y θ' hg;rw[<-y.now]at this;simp[az]at this⊢;omega
     obtain⟨ad,len,cap,l,W,M,Q,A,G⟩:=qi (P:=P) (w:=w) T (f 0 lo i rfl rfl a ha) (f 1 r j rfl rfl b hb) (f 2 u k rfl rfl m hm) d;injection Q with J K L;subst J;subst K;subst L
     refine⟨_,.inl ?_,G⟩;have s:=A false;simp only[execOp,ho,Instr.sliceAt,Sem.run_bind,j5 S,Result.andThen_ok,<-y.now,az,Instr.sureAddr,Sem.run_pure,s,tz hs]
     by_cases e:M=l<;>simp[e]
 .cases d
def CG{o:Oper}{c:Call}{f:FuncId}{fn:Func}{e:Array Value->Sem Value}(ho:o.op=.call c)(d:c.callee=.value (.func f))(h:ρ (.func f)=.func (.func f) #[] #[])(g:P.funcs[f]? = some fn)(hb:fn.body=none)
 (hn:fn.name≠ "runtime.NumGoroutine") (a:Extern.findNext fn=none) (b:Extern.find fn=some e) :
 (execOp ρ o).run P w=((e (c.args.map ρ)).run P w).andThen λ v w'=>.ok (.value v) w':=by
 simp[execOp,ho,resolve,d,h,Deferred.ofValue,invoke,callFunc,g,hb,hn,a,b]
def xbx(s:List UInt8):(Extern.Bytes.bytesOf (.string ⟨s.toArray⟩)).run P w=.ok ⟨s.toArray⟩ w:=rfl
def xfl(n:Int):(Extern.Bytes.asByte (.int .u8 n)).run P w=.ok (UInt8.ofNat n.toNat) w:=rfl
def xca(c:UInt8)(s:List UInt8)(k:Nat):FB c s k=((List.range s.length).find? λ i=>s[i]! == c).map (·+k):=by
 induction s generalizing k with
 |nil=>rfl
 |cons x s ih =>
  simp only[FB,UC,z6];rw[List.range_succ_eq_map,List.find?_cons];have hm:(List.find? (λ i=>(x::s)[i]! == c) (List.map Nat.succ (List.range s.length)))=((List.range s.length).find? λ i=>s[i]! == c).map Nat.succ:=by
   rw[List.find?_map];rfl
  rw[hm,ih (k+1)];have a:(x::s)[0]! = x:=rfl;rw[a];cases h:(x == c)
  .simp only[zj,Option.map_map];congr 1;funext i;simp;omega
  .simp
def wC(s:List UInt8)(i:Nat):(⟨s.toArray⟩:ByteArray)[i]! = s[i]!:=by
 by_cases h:i<s.length
 .have a:i<(⟨s.toArray⟩:ByteArray).size:=by rw[Ka];exact h
  rw[getElem!_pos (⟨s.toArray⟩:ByteArray) i a,getElem!_pos s i h];rfl
 .have a:¬i<(⟨s.toArray⟩:ByteArray).size:=by rw[Ka];exact h
  rw[getElem!_neg (⟨s.toArray⟩:ByteArray) i a,getElem!_neg s i h]
def q95{P:Program}{w:World}(s:List UInt8)(n:Int):(Extern.BytealgIndexByte.indexByte #[.string ⟨s.toArray⟩,.int .u8 n]).run P w =
 .ok (match(List.range s.length).find? (λ i=>s[i]! == UInt8.ofNat n.toNat)with|some i=>goInt i|none=>goInt (-1)) w:=by
 change Sem.run P (Extern.Bytes.bytesOf (.string ⟨s.toArray⟩) >>= _) w=_;rw[Sem.run_bind,xbx];change Sem.run P (Extern.Bytes.asByte (.int .u8 n) >>= _) w=_;rw[Sem.run_bind,xfl];have a:(λ i=>(⟨s.toArray⟩:ByteArray)[i]! == UInt8.ofNat n.toNat)=(λ i=>s[i]! == UInt8.ofNat n.toNat):=funext λ i=>by rw[wC]
 simp only[Result.andThen_ok,Ka,a];cases(List.range s.length).find? (λ i=>s[i]! == UInt8.ofNat n.toNat)<;>rfl
def qq3{o:Oper}{c:Call}{f:FuncId}{fn:Func}{xs:List Operand}(ho:o.op=.call c)(l:c.callee=.value (.func f))(m:P.funcs[f]? = some fn)(hb:fn.body=none)
 (hn:fn.name≠ "runtime.NumGoroutine") (g:Extern.findNext fn=none) (j:Extern.find fn=some Extern.BytealgIndexByte.indexByte) (p:c.args.toList=xs) :
 ∀(D:Nat->Prop)θ(ρ:Operand->Value)w vs v,ρ (.func f)=.func (.func f) #[] #[]->bL D θ vs (xs.map ρ)->Op.aD vs=some v -> ∃c,rL P (execOp ρ o) w c w/\VR D θ v c:=by
 intro D θ ρ w vs v q h a;unfold Op.aD at a;split at a
 .rename_i s n;obtain⟨x,y,rfl,ha,b⟩:=h.qI;injection a with a;subst a
  refine⟨_,.inl ?_,.int _ _⟩;rw[CG ho l q m hb hn g j,Ao p];have d:(λ i=>(⟨s.toArray⟩:ByteArray)[i]! == UInt8.ofNat n.toNat)=(λ i=>s[i]! == UInt8.ofNat n.toNat):=funext λ i=>by rw[wC]
  simp only[ji,EI,<-ha.now,<-b.now,az,q95,Result.andThen_ok];rw[xca];cases r:(List.range s.length).find? (λ i=>s[i]! == UInt8.ofNat n.toNat)<;>simp[goInt]
 .cases a
def xj6{o:Oper}(xs:List Operand):dh P o xs Op.fail:=by
 intro D θ ρ w vs v _ a;cases a
end
end Go.Am
namespace Go.Am
def qJ(P:Program)(o:Oper)(xs:List Operand)(f:List AV->ar->Option AV):Prop :=
 ∀(base:Nat)(D:Nat->Prop)θ H(ρ:Operand->Value)w vs v,HR P base D θ H w->bL D θ vs (xs.map ρ)->f vs H=some v -> ∃c,rL P (execOp ρ o) w c w/\VR D θ v c
section
variable{P:Program}
def xgu{o:Oper}{t:TypeId}{x:Operand}(ho:o.op=.load t x)(j:nF P t=some none):qJ P o [x] Op.ae:=by
 intro base D θ H ρ w vs v i h a;unfold Op.ae at a;split at a
 .rename_i b off;obtain⟨l,he,ha⟩:=h.pn;simp only[zk,rk]at he;subst he;obtain⟨c,f,g⟩:=i.ae a;refine⟨c,.inl ?_,g⟩;obtain⟨d,_⟩:=Su (w:=w) j;simp only[execOp,ho,<-ha.now,az,Instr.loadAt,Instr.sureAddr,loadVar,Sem.run_bind,Sem.run_pure,Result.andThen_ok,d,Jv,zx,wz,f]
 .cases a
def xgv{o:Oper}{t:TypeId}{x:Operand}{n:Nat}(ho:o.op=.load t x)(j:nF P t=some (some n)):qJ P o [x] (Op.aq n):=by
 intro base D θ H ρ w vs v i h a;unfold Op.aq at a;split at a
 .rename_i b off;obtain⟨m,he,ha⟩:=h.pn;simp only[zk,rk]at he;subst he;cases hl:H.aq b off n with
  |none=>rw[hl]at a;cases a
  |some l =>
   rw[hl]at a;injection a with a;subst a
   obtain⟨cs,f,g,_⟩:=i.aq hl;refine⟨.agg cs.toArray,.inl ?_,.agg g⟩;obtain⟨c,d⟩:=Su (w:=w) j;simp only[execOp,ho,<-ha.now,az,Instr.loadAt,Instr.sureAddr,loadVar,Sem.run_bind,Sem.run_pure,Result.andThen_ok,c,d n rfl,y8,ri,f]
 .cases a
def HR.gI{base:Nat}{D:Nat->Prop}{θ:Th}{H:ar}{w:World}(h:HR P base D θ H w){b:Nat}{m:List (AV×AV×Nat)×Nat}(hb:H.gI b=some m) :
 H.get b=some (.map m.1 m.2)/\D b /\ ∃ms:List MapEntry,w.heap[θ.bV b]? = some (.map ms.toArray m.2)/\db D θ m.1 ms:=by
 unfold ar.gI at hb;cases hg:H.get b with
 |none=>rw[hg]at hb;cases hb
 |some o =>
  rw[hg]at hb;obtain⟨f,co,d,hr⟩:=h.obj b o hg;cases o<;>simp only[reduceCtorEq,qe]at hb;subst hb;obtain⟨ms,a,c⟩:=hr;exact⟨rfl,f,ms,by rw[d,a],c⟩
def J5{w:World}{r:Nat}{ms:Array MapEntry}{c:Nat}(h:w.heap[r]? = some (.map ms c)):(getObj r).run P w=.ok (.map ms c) w:=by
 simp[getObj,Sem.run,h]
def db.length{D:Nat->Prop}{θ:Th}:∀(es:List (AV×AV×Nat))(ms:List MapEntry),db D θ es ms->es.length=ms.length
 |[],[],_=>rfl
 |_::es,_::ms,⟨_,h⟩=>by simp[db.length es ms h]
 |[],_::_,h=>h.elim
 |_::_,[],h=>h.elim
def VR.isAgg{D:Nat->Prop}{θ:Th}{l:List AV}{c:Value}(h:VR D θ (.agg l) c):∃cs:List Value,c=.agg cs.toArray/\bL D θ l cs:=h.eU
def xb8{t:TypeId}{fs:Array Field}(h:P.underlying t=some (.struct fs)):P.fieldsOf t=fs:=by
 simp[Program.fieldsOf,h]
def xfw{x y:AV}{r:Bool}(h:bj .int x y=some r):∃k a b,x=.int k a/\y=.int k b/\r=(a == b):=by
 cases x<;>cases y<;>simp only[bj,reduceCtorEq]at h;rename_i k a k' b;cases hk:sJ k k' with
 |false=>rw[hk]at h;cases h
 |true =>
  rw[hk]at h;simp only[xm,qe]at h;have:k=k':=by simpa[QI]using hk
  subst this;exact⟨k,a,b,rfl,rfl,by rw[<-h,BU]⟩
def xfx{x y:AV}{r:Bool}(h:bj .str x y=some r):∃a b,x=.str a/\y=.str b/\r=(a == b):=by
 cases x<;>cases y<;>simp only[bj,reduceCtorEq,qe]at h;exact⟨_,_,rfl,rfl,by rw[<-h,J7]⟩
def xb7{x y:AV}{r:Bool}(h:bj .bool x y=some r):∃a b,x=.bool a/\y=.bool b/\r=(a == b):=by
 cases x<;>cases y<;>simp only[bj,reduceCtorEq,qe]at h;exact⟨_,_,rfl,rfl,h.symm⟩
def R5{off:Nat}{n:Option Nat}{t rest:aP}{x y:AV}{r:Bool}(h:bj (.part off n t rest) x y=some r) :
 ∃l c a b q,x=.agg l/\y=.agg c/\partAt l off n=some a/\partAt c off n=some b/\bj t a b=some q/\(q=true->bj rest (.agg l) (.agg c)=some r)/\(q=false->r=false):=by
 cases x<;>cases y<;>simp only[bj,reduceCtorEq]at h;rename_i l c;simp only[qd]at h;obtain⟨a,ha,b,hb,q,d,h⟩:=h;refine⟨l,c,a,b,q,rfl,rfl,ha,hb,d,λ e=>?_,λ e=>?_⟩
 .subst e;exact h
 .subst e;simpa using h.symm
def Q5{x y:AV}{r:Bool}(h:bj .nil x y=some r):r=true/\(∃l,x=.agg l)/\(∃l,y=.agg l):=by
 cases x<;>cases y<;>simp only[bj,reduceCtorEq,qe]at h;exact⟨h.symm,⟨_,rfl⟩,⟨_,rfl⟩⟩
def q57(s:Nat)(a:Option Nat)(q:aP)(n i:Nat){x y:AV}{r:Bool}(h:bj (dm.itemsT s a q n i) x y=some r):(∃l,x=.agg l)/\(∃l,y=.agg l):=by
 cases n with
 |zero=>exact(Q5 h).2
 |succ n=>obtain⟨l,d,_,_,_,b,c,_⟩:=R5 h;exact⟨⟨l,b⟩,⟨d,c⟩⟩
def q2k{go:TypeId->Option aP}{fs:List Field}{q:aP}(b:dm.fieldsT P go fs=some q){x y:AV}{r:Bool}(h:bj q x y=some r):(∃l,x=.agg l)/\(∃l,y=.agg l):=by
 cases fs with
 |nil=>injection b with b;subst b;exact(Q5 h).2
 |cons f fs =>
  simp only[dm.fieldsT]at b;split at b
  .cases b
  .simp only[qd]at b;obtain⟨a,_,i,_,j,_,b⟩:=b;injection b with b;subst b
   obtain⟨l,g,_,_,_,c,d,_⟩:=R5 h;exact⟨⟨l,c⟩,⟨g,d⟩⟩
def CD(P:Program)(w:World)(D:Nat->Prop)(θ:Th)(m:Nat)(t:TypeId)(q:aP):Prop :=
 ∀(x y:AV)(cx cy:Value)(r:Bool),VR D θ x cx->VR D θ y cy->bj q x y=some r->(Op.equalIn m t cx cy).run P w=.ok r w
def yb{w:World}{D:Nat->Prop}{θ:Th}{m:Nat}{go:TypeId->Option aP}(o:∀t q,go t=some q->CD P w D θ m t q){l p:List AV}{cs cs':List Value}(hl:bL D θ l cs)(d:bL D θ p cs') :
 ∀(fs:List Field)(q:aP)(r:Bool),dm.fieldsT P go fs=some q->bj q (.agg l) (.agg p)=some r->(Op.eqFields m cs.toArray cs'.toArray fs).run P w=.ok r w
 |[],q,r,b,h=>by
  injection b with b;subst b
  rw[(Q5 h).1];simp[Op.eqFields]
 |f::fs,q,r,b,h=>by
  simp only[dm.fieldsT]at b;split at b
  .cases b
  .rename_i hn;simp only[qd]at b;obtain⟨a,ha,G,j,I,n,b⟩:=b;injection b with b;subst b
   obtain⟨l1,l2,x,y,e,g,i,u,v,z,A,B⟩:=R5 h;injection g with g;injection i with i;subst g;subst i
   obtain⟨c,C,v1⟩:=KS (w:=w) ha hl u;obtain⟨s,E,v2⟩:=KS (w:=w) ha d v;have F:=o f.type G j x y c s e v1 v2 z;simp only[Op.eqFields,hn,ne_eq,not_false_eq_true,ri,Sem.run_bind,C,E,F,Result.andThen_ok];cases e
   .simp [B rfl]
   .simpa using yb o hl d fs I r n (A rfl)
def X3{w:World}{D:Nat->Prop}{θ:Th}{m:Nat}{e:TypeId}{s:Nat}{a:Option Nat}{q:aP}(ha:nF P e=some a)(j:CD P w D θ m e q){l o:List AV}{cs cs':List Value}(hl:bL D θ l cs)(d:bL D θ o cs') :
 ∀(n i:Nat)(r:Bool),bj (dm.itemsT s a q n i) (.agg l) (.agg o)=some r->(Op.eqItems m e s cs.toArray cs'.toArray (List.range' i n)).run P w=.ok r w
 |0,i,r,h=>by rw[(Q5 h).1];simp[Op.eqItems]
 |n+1,i,r,h=>by
  obtain⟨l1,l2,x,y,b,f,g,t,u,v,z,A⟩:=R5 h;injection f with f;injection g with g;subst f;subst g
  obtain⟨c,B,v1⟩:=KS (w:=w) ha hl t;obtain⟨p,C,v2⟩:=KS (w:=w) ha d u;have E:=j x y c p b v1 v2 v;simp only[List.range'_succ,Op.eqItems,Sem.run_bind,B,C,E,Result.andThen_ok];cases b
  .simp [A rfl]
  .simpa using X3 ha j hl d n (i+1) r (z rfl)
def Rd(m:Nat){D:Nat->Prop}{θ:Th}(w:World):∀(d:Nat)(t:TypeId)(q:aP),dm P d t=some q->CD P w D θ (d+m) t q
 |0,_,_,h=>by cases h
 |d+1,t,q,h=>by
  intro x y G I r g j hr;unfold dm at h;have A:d+1+m=(d+m)+1:=by omega
  rw[A];cases hu:P.underlying t with
  |none=>rw[hu]at h;cases h
  |some kd =>
   rw[hu]at h;cases kd
   case int k0 =>
    injection h with h;subst h
    obtain⟨k,a,b,rfl,rfl,rfl⟩:=xfw hr;rw[<-g.now,<-j.now,az,az,run_equalIn_int w _ t k k0 a b hu]
   case string =>
    injection h with h;subst h
    obtain⟨a,b,rfl,rfl,rfl⟩:=xfx hr;rw[<-g.now,<-j.now,az,az,run_equalIn_string w _ t _ _ hu,xbf,xbf]
   case bool =>
    injection h with h;subst h
    obtain⟨a,b,rfl,rfl,rfl⟩:=xb7 hr;rw[<-g.now,<-j.now,az,az,run_equalIn_bool' w _ t _ _ hu]
   case struct fs =>
    simp only at h;split at h
    .cases h
    .rename_i u;have f:P.stoodInHeld t=false:=by simpa using u
     obtain⟨⟨l,rfl⟩,⟨E,rfl⟩⟩:=q2k h hr;obtain⟨cs,rfl,hl⟩:=g.eU;obtain⟨cs',rfl,c⟩:=j.eU;have v:=xb8 hu;rw[run_equalIn_struct w _ t _ _ (by rw[v];exact hu) f,v];exact yb (λ t q C=>Rd m w d t q C) hl c _ _ _ h hr
   case array n e =>
    simp only[qd]at h;obtain⟨s,hs,a,ha,F,p,h⟩:=h;injection h with h;subst h
    obtain⟨⟨l,rfl⟩,⟨E,rfl⟩⟩:=q57 _ _ _ _ _ hr;obtain⟨cs,rfl,hl⟩:=g.eU;obtain⟨cs',rfl,c⟩:=j.eU;obtain⟨i,z,o⟩:=qxj hs;rw[run_equalIn_array _ _ _ _ hu z,List.range_eq_range'];have B:P.cellsOf e=s:=by simp[Program.cellsOf,z,o]
    rw[B];exact X3 ha (Rd m w d e F p) hl c n 0 r hr
   all_goals (cases h)
def Q1{off:Nat}{n:Option Nat}{t rest:aP}{x:AV}(h:cW (.part off n t rest) x=true) :
 ∃l a,x=.agg l/\partAt l off n=some a/\cW t a=true/\cW rest (.agg l)=true:=by
 cases x<;>simp only[cW,zx]at h;rename_i l;split at h
 .rename_i a ha;cases b:cW t a with
  |false=>rw[b]at h;cases h
  |true=>rw[b]at h;exact⟨l,a,rfl,ha,b,h⟩
 .cases h
def q6d{x:AV}(h:cW .nil x=true):∃l,x=.agg l:=by
 cases x<;>simp only[cW,zx]at h;exact⟨_,rfl⟩
def xcy(s:Nat)(a:Option Nat)(q:aP)(n i:Nat){x:AV}(h:cW (dm.itemsT s a q n i) x=true):∃l,x=.agg l:=by
 cases n with
 |zero=>exact q6d h
 |succ n=>obtain⟨l,_,b,_⟩:=Q1 h;exact⟨l,b⟩
def xaq{go:TypeId->Option aP}{fs:List Field}{q:aP}(b:dm.fieldsT P go fs=some q){x:AV}(h:cW q x=true):∃l,x=.agg l:=by
 cases fs with
 |nil=>injection b with b;subst b;exact q6d h
 |cons f fs =>
  simp only[dm.fieldsT]at b;split at b
  .cases b
  .simp only[qd]at b;obtain⟨a,_,d,_,g,_,b⟩:=b;injection b with b;subst b
   obtain⟨l,_,c,_⟩:=Q1 h;exact⟨l,c⟩
def HE(P:Program)(w:World)(D:Nat->Prop)(θ:Th)(em:Bool)(m:Nat)(t:TypeId)(q:aP):Prop :=
 ∀(x:AV)(cx:Value),VR D θ x cx->cW q x=true->(Instr.checkKey em m t cx).run P w=.ok () w
def q3z{w:World}{D:Nat->Prop}{θ:Th}{em:Bool}{m:Nat}{e:TypeId}{s:Nat}{a:Option Nat}{q:aP}(ha:nF P e=some a)(hs:bN P e=some s)(d:HE P w D θ em m e q){l:List AV}{cs:List Value}(hl:bL D θ l cs) :
 ∀(n i:Nat),cW (dm.itemsT s a q n i) (.agg l)=true ->
  (forIn (List.range' i n) PUnit.unit (λ i _=>(do Instr.checkKey em m e (<-part e cs.toArray (i*(<-sizeOf e)));pure (ForInStep.yield PUnit.unit):Sem (ForInStep PUnit)))).run P w=.ok PUnit.unit w
 |0,i,h=>by simp
 |n+1,i,h=>by
  obtain⟨l1,x,b,f,g,j⟩:=Q1 h;injection b with b;subst b
  obtain⟨c,o,v1⟩:=KS (w:=w) ha hl f;have p:=d x c v1 g;simp only[List.range'_succ,List.forIn_cons,Sem.run_bind,tz hs,o,p,Result.andThen_ok,Sem.run_pure]
  simpa using q3z ha hs d hl n (i+1) j
def WL(em:Bool)(m:Nat){D:Nat->Prop}{θ:Th}(w:World):∀(d:Nat)(t:TypeId)(q:aP),dm P d t=some q->HE P w D θ em (d+m) t q
 |0,_,_,h=>by cases h
 |d+1,t,q,h=>by
  intro x B o hr;unfold dm at h;have p:d+1+m=(d+m)+1:=by omega
  rw[p];cases hu:P.underlying t with
  |none=>rw[hu]at h;cases h
  |some kd =>
   rw[hu]at h;cases kd
   case int k0=>simp[Instr.checkKey,j5 hu]
   case string=>simp[Instr.checkKey,j5 hu]
   case bool=>simp[Instr.checkKey,j5 hu]
   case struct fs =>
    simp only at h;split at h
    .cases h
    .obtain ⟨l,rfl⟩:=xaq h hr;obtain⟨cs,rfl,hl⟩:=o.eU;simp only[Instr.checkKey,Sem.run_bind,j5 hu,Result.andThen_ok];rw[<-Array.forIn_toList];clear hu;generalize fs.toList=L at h
     induction L generalizing q with
     |nil=>simp
     |cons f L ihL =>
      simp only[dm.fieldsT]at h;split at h
      .cases h
      .rename_i hn;simp only[qd]at h;obtain⟨a,ha,j,b,A,i,h⟩:=h;injection h with h;subst h
       obtain⟨l1,x,g,r,u,v⟩:=Q1 hr;injection g with g;subst g
       obtain⟨c,y,v1⟩:=KS (w:=w) ha hl r;have z:=WL em m w d f.type j b x c v1 u;simp only[List.forIn_cons,Sem.run_bind,hn,ne_eq,not_false_eq_true,ri,Result.andThen_ok,y,z,Sem.run_pure];exact ihL A v i
   case array n e =>
    simp only[qd]at h;obtain⟨s,hs,a,ha,j,b,h⟩:=h;injection h with h;subst h
    obtain⟨l,rfl⟩:=xcy _ _ _ _ _ hr;obtain⟨cs,rfl,hl⟩:=o.eU;have:=q3z (w:=w) (em:=em) ha hs (WL em m w d e j b) hl n 0 hr;simp only[Instr.checkKey,Sem.run_bind,j5 hu,Result.andThen_ok];simp only[Std.Legacy.Range.forIn_eq_forIn_range',Std.Legacy.Range.size,HA,Nat.add_one_sub_one,Nat.div_one];simp at this;simp[this]
   all_goals (cases h)
def XW{em:Bool}{D:Nat->Prop}{θ:Th}{w:World}{t:TypeId}{q:aP}(h:qG P t=some q){x:AV}{a:Value}(b:VR D θ x a)(hr:cW q x=true) :
 (Instr.checkKey em 10000 t a).run P w=.ok () w:=WL em 9980 w 20 t q h x a b hr
def CJ{D:Nat->Prop}{θ:Th}{w:World}{t:TypeId}{q:aP}(h:qG P t=some q){x y:AV}{a b:Value}{r:Bool}(c:VR D θ x a)(d:VR D θ y b)(hr:bj q x y=some r) :
 (Op.equal t a b).run P w=.ok r w:=Rd 9980 w 20 t q h x y a b r c d hr
def IP(D:Nat->Prop)(θ:Th):Option (Nat×AV)->Option (Nat×Value)->Prop
 |none,none=>True
 |some (i,v),some (j,c)=>i=j/\VR D θ v c
 |_,_=>False
def YP{D:Nat->Prop}{θ:Th}{w:World}{t:TypeId}{q:aP}(h:qG P t=some q){k:AV}{d:Value}(hk:VR D θ k d) :
 ∀(es:List (AV×AV×Nat))(ms:List MapEntry)(i:Nat)(r:Option (Nat×AV)),db D θ es ms->findKey q k es i=some r ->
  ∃a,(Instr.findAsking t d ms i).run P w=.ok a w/\IP D θ r a
 |[],[],i,r,_,hr=>by
  simp only[findKey,qe]at hr;subst hr;exact⟨none,by simp[Instr.findAsking],trivial⟩
 |(k',v,b)::es,e::ms,i,r,⟨⟨h1,h2,_⟩,hes⟩,hr=>by
  simp only[findKey,qd]at hr;obtain⟨c,j,hr⟩:=hr;have:=CJ (w:=w) h hk h1 j;cases c
  .obtain ⟨a,f,g⟩:=YP (w:=w) h hk es ms (i+1) r hes hr;exact⟨a,by simp[Instr.findAsking,this,f],g⟩
  .simp only[xm,qe]at hr;subst hr;exact⟨some (i,e.val),by simp[Instr.findAsking,this],rfl,h2⟩
 |[],_::_,_,_,h,_=>h.elim
 |_::_,[],_,_,h,_=>h.elim
def xdf{t:TypeId}{d:TypeDesc}(hu:P.underlying t=some d){x y:Value}{b:Bool}(h:Instr.sameNow d x y=some b)(w:World):(Op.equal t x y).run P w=.ok b w:=by
 unfold Instr.sameNow at h;split at h
 .rename_i k a k' c;split at h
  .rename_i hk;subst hk;injection h with h;subst h
   exact run_equalIn_int w _ t _ _ _ _ hu
  .cases h
 .injection h with h;subst h
  show(Op.equalIn (9999+1) t _ _).run P w=_;rw[run_equalIn_string w _ t _ _ hu,beq_toListBytes]
 .injection h with h;subst h
  exact run_equalIn_bool' w _ t _ _ hu
 .cases h
def q2n{t:TypeId}{d:TypeDesc}(hu:P.underlying t=some d){c:Value}(w:World):∀(ms:List MapEntry)(i:Nat)(r a:Option (Nat×Value)),
 Instr.findNow d c ms i=some r->(Instr.findAsking t c ms i).run P w=.ok a w->r=a
 |[],i,r,a,h,h'=>by
  simp[Instr.findNow]at h;simp[Instr.findAsking]at h';rw[<-h,<-h']
 |e::ms,i,r,a,h,h'=>by
  simp only[Instr.findNow]at h;cases hs:Instr.sameNow d c e.key with
  |none=>rw[hs]at h;cases h
  |some b =>
   rw[hs]at h;have:=xdf hu hs w;cases b
   .simp [Instr.findAsking,this]at h';exact q2n hu w ms (i+1) r a h h'
   .simp [Instr.findAsking,this]at h';simp at h;rw[<-h,<-h']
def Zj{D:Nat->Prop}{θ:Th}{w:World}{t:TypeId}{q:aP}(h:qG P t=some q){k:AV}{b:Value}(hk:VR D θ k b){es:List (AV×AV×Nat)}{ms:List MapEntry}{r:Option (Nat×AV)}
 (c:db D θ es ms) (hr:findKey q k es 0=some r):∃a,(Instr.findKey t b ms).run P w=.ok a w/\IP D θ r a:=by
 obtain⟨a,f,g⟩:=YP (w:=w) h hk es ms 0 r c hr;have hu:∃d,P.underlying t=some d:=by
  cases hu:P.underlying t with
  |none=>simp[qG,dm,hu]at h
  |some d=>exact⟨d,rfl⟩
 obtain⟨d,hu⟩:=hu;refine⟨a,?_,g⟩;simp only[Instr.findKey,Sem.run_bind,j5 hu,Result.andThen_ok];cases hn:Instr.findNow d b ms 0 with
 |none=>simpa using f
 |some r2=>simp[q2n hu w ms 0 r2 a hn f]
def xc4{o:Oper}{t n e:TypeId}{E kk:Operand}{ok:Bool}{q:aP}{z:AV}(ho:o.op=.lookup t E kk ok)(hu:P.underlying t=some (.map n e))(A:qG P n=some q)(J:zeroOf P e=some z) :
 qJ P o [E,kk] (Op.lookup q z ok):=by
 intro base D θ H ρ w vs v I h a;obtain⟨B,f,g⟩:=Js (w:=w) J;unfold Op.lookup at a;split at a
 .rename_i k;obtain⟨x,y,he,ha,hb⟩:=h.qI;simp only[zk,rk]at he;obtain⟨rfl,rfl⟩:=he;cases c:cW q k with
  |false=>rw[c]at a;cases a
  |true =>
   rw[c]at a;simp only[xm,qe]at a;have j:=λ em=>XW (em:=em) (w:=w) A hb c;have C:(Instr.findKey n (ρ kk) []).run P w=.ok none w:=by
    have hu:∃d,P.underlying n=some d:=by
     cases hu:P.underlying n with
     |none=>simp[qG,dm,hu]at A
     |some d=>exact⟨d,rfl⟩
    obtain⟨d,hu⟩:=hu;simp[Instr.findKey,j5 hu,Instr.findNow]
   subst a;cases ok
   .refine ⟨B,.inl ?_,g _ _⟩;simp[execOp,ho,Instr.lookup,j5 hu,<-ha.now,az,j,C,f]
   .refine ⟨.tuple [B,.bool false].toArray,.inl ?_,.tuple (.cons (g _ _) (.one (.bool _)))⟩;simp[execOp,ho,Instr.lookup,j5 hu,<-ha.now,az,j,C,f]
 .rename_i b k;obtain⟨x,y,he,ha,hb⟩:=h.qI;simp only[zk,rk]at he;obtain⟨rfl,rfl⟩:=he;cases c:cW q k with
  |false=>rw[c]at a;cases a
  |true =>
   rw[c]at a;simp only[xm,qd]at a;obtain⟨m,hm,r,hr,a⟩:=a;obtain⟨_,_,ms,u,G⟩:=I.gI hm;have j:=λ em=>XW (em:=em) (w:=w) A hb c;obtain⟨F,s,l⟩:=Zj (w:=w) A hb G hr;cases r with
   |none =>
    cases F with
    |some _=>exact l.elim
    |none =>
     simp only[qe]at a;subst a;cases ok
     .refine ⟨B,.inl ?_,g _ _⟩;simp[execOp,ho,Instr.lookup,j5 hu,<-ha.now,az,j,s,f,J5 u]
     .refine ⟨.tuple [B,.bool false].toArray,.inl ?_,.tuple (.cons (g _ _) (.one (.bool _)))⟩;simp[execOp,ho,Instr.lookup,j5 hu,<-ha.now,az,j,s,f,J5 u]
   |some p =>
    obtain⟨i,pv⟩:=p;cases F with
    |none=>exact l.elim
    |some p' =>
     obtain⟨K,pc⟩:=p';obtain⟨_,l⟩:=l;simp only[qe]at a;subst a;cases ok
     .refine ⟨pc,.inl ?_,l⟩;simp[execOp,ho,Instr.lookup,j5 hu,<-ha.now,az,j,s,J5 u]
     .refine ⟨.tuple [pc,.bool true].toArray,.inl ?_,.tuple (.cons l (.one (.bool _)))⟩;simp[execOp,ho,Instr.lookup,j5 hu,<-ha.now,az,j,s,J5 u]
 .cases a
end
end Go.Am
namespace Go.Am
section
variable{P:Program}{base:Nat}{D:Nat->Prop}{θ:Th}{H:ar}{w:World}
def isStr:AV->Bool
 | .str _=>true
 |_=>false
def WJ(r:HR P base D θ H w){x:AV}{c:Value}{size n k:Nat}{l:List AV}(f:VR D θ x c)(hk:eY x=some k)(hn:n<=k)(hs:isStr x=false)
 (h:firstCells H size n x=some l):∃a len cap,c=.slice a len cap/\len=k/\((a=none/\l=[]/\n=0/\k=0) \/
  ∃ad cs,a=some ad/\(loadCells ad (n*size)).run P w=.ok cs.toArray w/\bL D θ l cs/\l.length=n*size):=by
 have q:∀a,(loadCells a 0).run P w=.ok ([]:List Value).toArray w:=λ a=>rfl;cases x<;>simp only[eY,reduceCtorEq,qe]at hk
 case str s=>cases hs
 case nils =>
  subst hk;simp only[firstCells,qe]at h;subst h;exact⟨none,0,0,f.now.symm,rfl,.inl ⟨rfl,rfl,by omega,rfl⟩⟩
 case slice b o n' cp =>
  subst hk;simp only[firstCells]at h;refine⟨_,_,_,f.now.symm,rfl,.inr ?_⟩;cases hb:Nat.beq n 0 with
  |true =>
   have:n=0:=by simpa using hb
   subst this;rw[hb]at h;injection h with h;subst h
   exact⟨_,[],rfl,by simpa using q _,.nil,by simp⟩
  |false =>
   rw[hb]at h;obtain⟨cs,g,j,p⟩:=r.aq h;exact⟨_,cs,rfl,g,j,p⟩
 case eslice b =>
  subst hk;have:n=0:=by omega
  subst this;simp only[firstCells,Nat.beq,xm,qe]at h;subst h;exact⟨_,_,_,f.now.symm,rfl,.inr ⟨_,[],rfl,by simpa using q _,.nil,by simp⟩⟩
 case gslice b i m s alt n' =>
  subst hk;simp only[firstCells]at h;refine⟨_,_,_,f.now.symm,rfl,.inr ?_⟩;cases hb:Nat.beq n 0 with
  |true =>
   have:n=0:=by simpa using hb
   subst this;rw[hb]at h;injection h with h;subst h
   exact⟨_,[],rfl,by simpa using q _,.nil,by simp⟩
  |false =>
   rw[hb]at h;simp only[zj]at h;cases d:(Nat.beq s size && Nat.blt i m)with
   |false=>rw[d]at h;cases h
   |true =>
    rw[d]at h;simp only[xt,jh,sX]at d;obtain⟨rfl,t⟩:=d;obtain⟨cs,g,j,p⟩:=r.aq h;refine⟨_,cs,rfl,?_,j,p⟩;rw[qo (by omega)];exact g
end
end Go.Am
namespace Go.Am
section
variable{P:Program}{base:Nat}{D:Nat->Prop}{θ:Th}{H:ar}{w:World}
def XJ{w:World}{r:Nat}{c:Array Value}{e:TypeId}{fz:Nat×Nat}(h:w.heap[r]? = some (.cells c e fz)):w.shape? r=some (e,c.size):=by
 simp[World.shape?,h]
def qy8{w:World}{r:Nat}{c:Array Value}{e:TypeId}{fz:Nat×Nat}(h:w.heap[r]? = some (.cells c e fz)):(viewAt r).run P w=.ok none w:=by
 simp[viewAt,XJ h]
def ZL{w:World}{a:Addr}{c:Array Value}{e:TypeId}{fz:Nat×Nat}(h:w.heap[a.block]? = some (.cells c e fz)):(noView a).run P w=.ok () w:=by
 simp[noView,qy8 h]
def QS{a b:AV->Bool}{x y:AV}{q:Bool}(h:rN a b x y=some q) :
 (a x=true/\a y=true/\q=true)\/(a x=true/\b y=true/\q=false)\/(b x=true/\a y=true/\q=false):=by
 unfold rN at h;cases c:a x<;>cases d:a y<;>cases f:b x<;>cases g:b y<;>simp_all
def XX.not{a:Nat×Nat}(h:XX (0,0) a)(i:Nat):¬(a.1<=i/\i<a.2):=by
 rcases h with h|⟨_,h⟩<;>simp at *<;>omega
def xj5(p:HR P base D θ H w){b g o o':Nat}(z:b≠g)(h:wT H b g=true) :
 (sameAddr ⟨θ.bV b,θ.off b+o,none⟩ ⟨θ.bV g,θ.off g+o',none⟩).run P w=.ok false w:=by
 have key:∀(d f o1 o2:Nat)(B C:Array Value)(O Q:TypeId)(m n:Nat×Nat),d≠f->w.heap[d]? = some (.cells B O m)->w.heap[f]? = some (.cells C Q n) ->
  ((∀i,¬(m.1<=i/\i<m.2))/\C.size≠0\/(∀i,¬(n.1<=i/\i<n.2))/\B.size≠0)->(sameAddr ⟨d,o1,none⟩ ⟨f,o2,none⟩).run P w=.ok false w:=by
  intro d f o1 o2 B C O Q m n hk K s v;have s1:=XJ K;have s2:=XJ s;have n1:(noView ⟨d,o1,none⟩).run P w=_:=ZL K;have n2:(noView ⟨f,o2,none⟩).run P w=_:=ZL s;have G:∀i,w.frozen? ⟨d,i,none⟩=(decide (m.1<=i) && decide (i<m.2)):=λ i=>by simp[World.frozen?,K]
  have I:∀i,w.frozen? ⟨f,i,none⟩=(decide (n.1<=i) && decide (i<n.2)):=λ i=>by simp[World.frozen?,s]
  have y:(d == f)=false:=by simpa using hk
  rcases v with⟨M,N⟩|⟨M,N⟩
  .have J:∀i,w.frozen? ⟨d,i,none⟩=false:=λ i=>by rw[G];have:=M i;simp at this⊢;omega
   simp only[sameAddr,Sem.run_bind,run_frozen,J,n1,n2,y,mayBeOne,stringish,run_shape,s1,s2,Sem.run_ite,Bool.false_and,zx,wz,Sem.run_pure,Result.andThen_ok];cases w.frozen? ⟨f,o2,none⟩<;>simp[N,s2]
  .have r:∀i,w.frozen? ⟨f,i,none⟩=false:=λ i=>by rw[I];have:=M i;simp at this⊢;omega
   simp only[sameAddr,Sem.run_bind,run_frozen,r,n1,n2,y,mayBeOne,stringish,run_shape,s1,Sem.run_ite,Bool.and_false,zx,wz,Sem.run_pure,Result.andThen_ok];cases w.frozen? ⟨d,o1,none⟩<;>simp[N,s1,s2,r]
 unfold wT at h;split at h
 .rename_i c e x T e' V W hb a;obtain⟨_,co,v,pre,cs,post,E,U,rfl,s,R,S⟩:=p.obj b _ hb;obtain⟨_,co',j,A,cs',l,q,F,rfl,L,t,u⟩:=p.obj g _ a;refine key _ _ _ _ _ _ _ _ _ _ (p.inj b g _ _ hb a rfl z) v j (.inl ⟨(S rfl).2.2.2.not,?_⟩);have:=t.length;simp only[List.size_toArray,qv,z6]at this⊢;omega
 .rename_i c e fz ow T e' hb a;obtain⟨_,co,v,pre,cs,post,E,U,rfl,s,R,S⟩:=p.obj b _ hb;obtain⟨_,co',j,A,cs',l,q,F,rfl,L,t,u⟩:=p.obj g _ a;refine key _ _ _ _ _ _ _ _ _ _ (λ e=>p.inj g b _ _ a hb rfl (λ e=>z e.symm) e.symm) v j (.inr ⟨(u rfl).2.2.2.not,?_⟩);have:=R.length;simp only[List.size_toArray,qv,z6]at this⊢;omega
 .cases h
def ur(P:Program)(t:TypeId)(x y:Operand):tu->Prop
 | .bool=>P.underlying t=some .bool
 | .ptr=>∃e n,P.underlying t=some (.pointer e)/\bN P e=some (n+1)
 | .slice=>∃e,P.underlying t=some (.slice e)
 | .map=>∃k e,P.underlying t=some (.map k e)
 | .func=>∃a b c,P.underlying t=some (.func a b c)
 | .iface=>∃ms,P.underlying t=some (.interface ms)/\((∃v,x=.const v) \/ ∃v,y=.const v)
 | .ifaces f=>(∃ms,P.underlying t=some (.interface ms)) /\ ∀u q,f u=some q->dm P 20 u=some q /\ ∃i,P.info? u=some i/\i.comparable=true
 | .agg q=>P.eqGuardType P.depth t=false/\qG P t=some q/\((∃fs,P.underlying t=some (.struct fs)) \/ ∃n e,P.underlying t=some (.array n e))
set_option maxHeartbeats 2000000 in
def Ky(hh:HR P base D θ H w){t:TypeId}{x y:Operand}{ρ:Operand->Value}{k:tu}(hk:ur P t x y k){a b:AV}(ha:VR D θ a (ρ x))(hb:VR D θ b (ρ y)){q:Bool}
 (h:Ho H k a b=some q) (op:BinOp) (g:op=.eql\/op=.neq) :
 ((do eqGuard op t x y (ρ x) (ρ y);binOp op t (ρ x) (ρ y)):Sem Value).run P w=.ok (.bool (if op=.neq then !q else q)) w:=by
 have fin:(eqGuard op t x y (ρ x) (ρ y)).run P w=.ok () w->(Op.equal t (ρ x) (ρ y)).run P w=.ok q w->(binOp .eql t (ρ x) (ρ y)).run P w=((do pure (.bool (<-Op.equal t (ρ x) (ρ y)))):Sem Value).run P w ->
  (binOp .neq t (ρ x) (ρ y)).run P w=((do pure (.bool (!(<-Op.equal t (ρ x) (ρ y))))):Sem Value).run P w ->
  ((do eqGuard op t x y (ρ x) (ρ y);binOp op t (ρ x) (ρ y)):Sem Value).run P w=.ok (.bool (if op=.neq then !q else q)) w:=by
  intro I G h3 h4;rw[Sem.run_bind,I,Result.andThen_ok];rcases g with rfl|rfl
  .rw [h3];simp[G]
  .rw [h4];simp[G]
 obtain⟨dd,j,W⟩:∃d,(∀p q,Op.equal t p q=Op.equalIn (d+1) t p q) /\ ∃m,d=20+m:=⟨9999,λ _ _=>rfl,9979,rfl⟩
 cases k
 case bool =>
  cases a<;>cases b<;>simp only[Ho,reduceCtorEq,qe]at h;subst h;have hu:P.underlying t=some .bool:=hk;rw[<-ha.now,<-hb.now];rw[<-ha.now,<-hb.now]at fin;refine fin ?_ (run_equalIn_bool' w _ t _ _ hu) (by simp only[az,binOp]) (by simp only[az,binOp]);rcases g with rfl|rfl<;>simp[eqGuard,az]
 case ptr =>
  obtain⟨e,n,hu,hs⟩:=hk;have L:=tz (w:=w) hs;have B:(Op.equal t (ρ x) (ρ y)).run P w=.ok q w:=by
   cases a<;>cases b<;>simp only[Ho,reduceCtorEq,qe]at h
   .subst h;rw[<-ha.now,<-hb.now,j];simp[az,Op.equalIn,j5 hu]
   .subst h;rw[<-ha.now,<-hb.now,j];simp[az,Op.equalIn,j5 hu]
   .subst h;rw[<-ha.now,<-hb.now,j];simp[az,Op.equalIn,j5 hu]
   .rename_i E o1 F o2;rw[<-ha.now,<-hb.now,j];simp only[az,Op.equalIn,Sem.run_bind,j5 hu,Result.andThen_ok,L,ne_eq,Nat.succ_ne_zero,not_false_eq_true,ri];cases u:Nat.beq E F with
    |true =>
     rw[u]at h;have:E=F:=by simpa using u
     subst this;simp only[xm,qe]at h;subst h;simp only[sameAddr,beq_self_eq_true,ri,Sem.run_pure];congr 1
     by_cases ho:o1=o2
     .subst ho;simp
     .have:Nat.beq o1 o2=false:=by simpa[<-Bool.not_eq_true,jh]using ho
      rw[this];simp[ho]
    |false =>
     rw[u]at h;simp only[zj]at h;cases hp:wT H E F with
     |false=>rw[hp]at h;cases h
     |true =>
      rw[hp]at h;simp only[xm,qe]at h;subst h;have z:E≠F:=λ e=>by subst e;simp at u
      exact xj5 hh z hp
  cases a<;>cases b<;>simp only[Ho,reduceCtorEq,qe]at h <;>
   (rw[<-ha.now,<-hb.now]at B⊢;rw[<-ha.now,<-hb.now]at fin
    exact fin (by rcases g with rfl|rfl<;>simp[eqGuard,az]) B (by simp only[az,binOp]) (by simp only[az,binOp]))
 case slice =>
  obtain⟨e,hu⟩:=hk;have r:=QS h;cases a<;>cases b<;>simp[DW,isSlice]at r <;>
   (subst r;rw[<-ha.now,<-hb.now];rw[<-ha.now,<-hb.now]at fin
    exact fin (by rcases g with rfl|rfl<;>simp[eqGuard,az]) (by rw[j];simp[az,Op.equalIn,j5 hu]) (by simp only[az,binOp]) (by simp only[az,binOp]))
 case map =>
  obtain⟨k,e,hu⟩:=hk;have r:=QS h;cases a<;>cases b<;>simp[AG,isMap]at r <;>
   (subst r;rw[<-ha.now,<-hb.now];rw[<-ha.now,<-hb.now]at fin
    exact fin (by rcases g with rfl|rfl<;>simp[eqGuard,az]) (by rw[j];simp[az,Op.equalIn,j5 hu]) (by simp only[az,binOp]) (by simp only[az,binOp]))
 case func =>
  obtain⟨p1,p2,p3,hu⟩:=hk;have r:=QS h;cases a<;>cases b<;>simp[zG,Pe]at r <;>
   (subst r;rw[<-ha.now,<-hb.now];rw[<-ha.now,<-hb.now]at fin
    exact fin (by rcases g with rfl|rfl<;>simp[eqGuard,az]) (by rw[j];simp[az,Op.equalIn,j5 hu]) (by simp only[az,binOp]) (by simp only[az,binOp]))
 case iface =>
  obtain⟨ms,hu,Q⟩:=hk;have r:=QS h;cases a<;>cases b<;>simp[A7,isIface]at r <;>
   (subst r;rw[<-ha.now,<-hb.now];rw[<-ha.now,<-hb.now]at fin
    exact fin (by rcases g with rfl|rfl<;>rcases Q with⟨v,rfl⟩|⟨v,rfl⟩<;>simp[eqGuard,az]) (by rw[j];simp[az,Op.equalIn,j5 hu]) (by simp only[az,binOp]) (by simp only[az,binOp]))
 case ifaces f =>
  obtain⟨⟨ms,hu⟩,hf⟩:=hk;cases a<;>cases b<;>simp only[Ho,reduceCtorEq,qe]at h
  .rename_i R v1 T v2;obtain⟨U,J,N⟩:=ha.lG;obtain⟨V,K,O⟩:=hb.lG;rw[J,K]at fin⊢;refine fin (by rcases g with rfl|rfl<;>simp[eqGuard]) ?_ (by simp only[binOp]) (by simp only[binOp]);rw[j];cases o:Nat.beq R T with
   |true =>
    rw[o]at h;simp only[jh]at o;subst o;simp only[xm,qd]at h;obtain⟨S,M,h⟩:=h;obtain⟨X,i,Y,Z⟩:=hf _ _ M;obtain⟨m,rfl⟩:=W;have C:=Rd m (D:=D) (θ:=θ) w 20 R S X v1 v2 U V q N O h;simp[Op.equalIn,j5 hu,typeInfo,Y,Z,C]
   |false =>
    rw[o]at h;have z:R≠T:=λ e=>by subst e;simp at o
    simp only[zj,qe]at h;subst h;simp[Op.equalIn,j5 hu,z]
  .subst h;rw[<-ha.now,<-hb.now];rw[<-ha.now,<-hb.now]at fin;exact fin (by rcases g with rfl|rfl<;>simp[eqGuard,az]) (by rw[j];simp[az,Op.equalIn,j5 hu]) (by simp only[az,binOp]) (by simp only[az,binOp])
  .subst h;rw[<-ha.now,<-hb.now];rw[<-ha.now,<-hb.now]at fin;exact fin (by rcases g with rfl|rfl<;>simp[eqGuard,az]) (by rw[j];simp[az,Op.equalIn,j5 hu]) (by simp only[az,binOp]) (by simp only[az,binOp])
 case agg S =>
  obtain⟨hg,c,hu⟩:=hk;have B:=CJ (w:=w) c ha hb h;have A:(∃l,a=.agg l) /\ ∃l,b=.agg l:=by
   have c:dm P (19+1) t=some S:=c;rw[dm]at c;rcases hu with⟨fs,hu⟩|⟨n,e,hu⟩
   .rw [hu]at c;simp only at c;split at c
    .cases c
    .exact q2k c h
   .rw [hu]at c;simp only[qd]at c;obtain⟨s,hs,a',ha',q1,hq1,c⟩:=c;injection c with c;subst c
    exact q57 _ _ _ _ _ h
  obtain⟨⟨l,rfl⟩,⟨l',rfl⟩⟩:=A;obtain⟨cs,I,_⟩:=ha.eU;obtain⟨cs',G,_⟩:=hb.eU;rw[I,G]at B fin⊢;exact fin (run_eqGuard_agg w _ t x y _ _ hg) B (by simp only[binOp]) (by simp only[binOp])
def YB{o:Oper}{t g:TypeId}{x y:Operand}{k:tu}{neg:Bool}(ho:o.op=.binOp (if neg then .neq else .eql) t x y g)(hk:ur P t x y k):qJ P o [x,y] (Op.eq k neg):=by
 intro base D θ H ρ w vs v d h c;unfold Op.eq at c;split at c
 .rename_i a b;obtain⟨i,j,he,ha,hb⟩:=h.qI;simp only[zk,rk]at he;obtain⟨rfl,rfl⟩:=he;simp only[qd]at c;obtain⟨q,f,c⟩:=c;injection c with c;subst c
  have:=Ky d hk ha hb f (if neg then .neq else .eql) (by cases neg<;>simp);refine⟨_,.inl ?_,.bool _⟩;simp only[execOp,ho];rw[Sem.run_bind,this];cases neg<;>simp
 .cases c
end
end Go.Am
namespace Go.Am
structure mV(w w0:World):Prop where
 heap:w0.heap=w.heap
 os:w0.os=w.os
 tape:w0.tape=w.tape
 output:w0.output=w.output
def mV.refl(w:World):mV w w:=⟨rfl,rfl,rfl,rfl⟩
def mV.trans{a b c:World}(h:mV a b)(d:mV b c):mV a c:=⟨d.heap.trans h.heap,d.os.trans h.os,d.tape.trans h.tape,d.output.trans h.output⟩
def lE(P:Program)(o:Oper)(xs:List Operand)(f:List AV->Option (bH×(Nat->AV))):Prop :=
 ∀(D:Nat->Prop)θ(ρ:Operand->Value)w vs ob mk,bL D θ vs (xs.map ρ)->f vs=some (ob,mk) ->
  own ob=true /\ ∃w0 co ext c,(execOp ρ o).run P w=.ok (.value c) (w0.alloc co)/\mV w w0 /\
   ∀(D':Nat->Prop)θ' id,Ag D θ θ'->(∀b,D b->D' b)->D' id -> θ'.bV id=w.heap.size -> θ'.off id=0 -> θ'.ext id=ext->nU P D' θ' id ob co/\VR D' θ' (mk id) c
section
variable{P:Program}
def Qu{D':Nat->Prop}{θ':Th}{id:Nat}{cells:List AV}{cs:List Value}{e:TypeId}(h:bL D' θ' cells cs)(ho:θ'.off id=0) :
 nU P D' θ' id (.row cells e (0,0) true) (.cells cs.toArray e (0,0)) :=
 ⟨[],cs,[],(0,0),_,by simp,by simp[ho],h,λ _=>⟨rfl,rfl,rfl,.inl rfl⟩⟩
def xer{D':Nat->Prop}{θ':Th}{id k:Nat}(a:D' id)(hb:θ'.bV id=k)(ho:θ'.off id=0):VR D' θ' (Op.ptrTo id) (.pointer (some ⟨k,0,none⟩)):=by
 have:=VR.ptr (θ:=θ') (o:=0) a;rw[hb,ho]at this;exact this
def sr{D':Nat->Prop}{θ':Th}{id k n m:Nat}(a:D' id)(hb:θ'.bV id=k)(ho:θ'.off id=0):VR D' θ' (Op.sliceTo n m id) (.slice (some ⟨k,0,none⟩) n m):=by
 have:=VR.slice (θ:=θ') (o:=0) (n:=n) (c:=m) a;simp only[az,hb,ho]at this;exact this
def xbq{o:Oper}{e:TypeId}{z:AV}(ho:o.op=.alloc e)(j:zeroOf P e=some z):lE P o [] (Op.alloc e z.cells):=by
 intro D θ ρ w vs n mk h b;unfold Op.alloc at b;split at b
 .injection b with b;injection b with g i;subst g;subst i
  obtain⟨l,d,f⟩:=Js (w:=w) j;refine⟨rfl,w,.cells l.cells e (0,0),0,.pointer (some ⟨w.heap.size,0,none⟩),?_,.refl w,λ D' θ' id ha m c hb a _=>⟨?_,xer c hb a⟩⟩
  .simp [execOp,ho,Instr.alloc,d,newVar,newRow]
  .have:=Qu (P:=P) (e:=e) (f D' θ').cells a
   simpa using this
 .cases b
def xhu{o:Oper}{e:TypeId}{x:Operand}(ho:o.op=.box e x):lE P o [x] (Op.box e):=by
 intro D θ ρ w vs i mk h b;unfold Op.box at b;split at b
 .rename_i v;obtain⟨j,he,ha⟩:=h.pn;simp only[zk,rk]at he;subst he;injection b with b;injection b with d f;subst d;subst f
  refine⟨rfl,w,.cells (ρ x).cells e (0,0),0,.pointer (some ⟨w.heap.size,0,none⟩),?_,.refl w,λ D' θ' id hg g c hb a _=>⟨?_,xer c hb a⟩⟩
  .simp [execOp,ho,Instr.box,newVar,newRow]
  .have:=Qu (P:=P) (e:=e) (ha.up hg g).cells a
   simpa using this
 .cases b
def q1p{o:Oper}{t:TypeId}{r:Option Operand}(ho:o.op=.makeMap t r)(hr:r=none\/(∃k n,r=some (.const (.int k n)) /\ ∃a b,P.underlying t=some (.map a b)))
 (p:∀(ρ:Operand->Value),True):∀(D:Nat->Prop)θ(ρ:Operand->Value)w vs f mk,(∀v,ρ (.const v)=v)->bL D θ vs (([]:List Operand).map ρ)->Op.mkMap vs=some (f,mk) ->
 own f=true /\ ∃w0 co ext c,(execOp ρ o).run P w=.ok (.value c) (w0.alloc co)/\mV w w0 /\
  ∀(D':Nat->Prop)θ' id,Ag D θ θ'->(∀b,D b->D' b)->D' id -> θ'.bV id=w.heap.size -> θ'.off id=0 -> θ'.ext id=ext->nU P D' θ' id f co/\VR D' θ' (mk id) c:=by
 intro D θ ρ w vs f mk m h d;unfold Op.mkMap at d;split at d
 .injection d with d;injection d with j l;subst j;subst l
  refine⟨rfl,w,.map #[] 0,0,.map (some w.heap.size),?_,.refl w,λ D' θ' id hg q g hb i _=>⟨⟨[],rfl,trivial⟩,?_⟩⟩
  .rcases hr with rfl|⟨k,n,rfl,a,b,hu⟩
   .simp [execOp,ho,Instr.makeMap]
   .simp [execOp,ho,Instr.makeMap,j5 hu,m,asInt,asIntOf]
  .have:=VR.map (θ:=θ') g
   rwa [hb]at this
 .cases d
def UY{D:Nat->Prop}{θ:Th}{z:List AV}{a:List Value}(h:bL D θ z a)(n:Nat):bL D θ (fq n z) (List.replicate n a).flatten:=by
 induction n with
 |zero=>exact .nil
 |succ n ih =>
  simp only[fq,oJ,Qp,Ps];exact h.app ih
def VM(a:List Value)(n:Nat):((Array.range (n*a.length)).map (λ i=>a.toArray[i % a.toArray.size]!))=(List.replicate n a).flatten.toArray:=by
 apply G0;simp only[Array.toList_map,Array.toList_range,List.size_toArray]
 induction n with
 |zero=>simp
 |succ n ih =>
  rw[show(n+1)*a.length=a.length+n*a.length from by rw[yd];omega,List.range_add,HJ,we,Qp,Ps];congr 1
  .apply List.ext_getElem
   .simp
   .intro i b c;simp at b;simp[Nat.mod_eq_of_lt b,b]
  .rw [<-ih];apply List.map_congr_left;intro i d;simp
def qxr{o:Oper}{t e:TypeId}{len n:Nat}{parts:Array (Nat×Operand)}{z:AV}{x:List (Nat×Nat)}(ho:o.op=.buildSlice t len parts)(hu:P.underlying t=some (.slice e))
 (hs:bN P e=some n) (I:zeroOf P e=some z) (hp:BM (Kg n) parts.toList=some x) (K:z.cells.length=n) (y:len*n<=16777216) :
 lE P o (parts.toList.map (·.2)) (Op.buildSlice e len z.cells x):=by
 intro D θ ρ w vs L mk h g;simp only[Op.buildSlice,qd]at g;obtain⟨c,F,g⟩:=g;injection g with g;injection g with C E;subst C;subst E
 obtain⟨j,v,m⟩:=Js (w:=w) I;have J:=(m D θ).cells.length;have l:bL D θ (fq len z.cells) (List.replicate len j.cells.toList).flatten:=UY (m D θ).cells len;have u:bL D θ vs (parts.toList.map λ p=>ρ p.2):=by simpa[we,Function.comp_def]using h
 obtain⟨cout,A,B⟩:=TU x vs parts.toList (Kg n) c hp u _ _ l F;have s:j.cells.size=n:=by rw[<-vg];omega
 refine⟨rfl,w,.cells cout.toArray e (0,0),0,.slice (some ⟨w.heap.size,0,none⟩) len len,?_,.refl w,λ D' θ' id hg G r hb f _=>⟨Qu (B.up hg G) f,sr r hb f⟩⟩;have a:=VM j.cells.toList len;rw[show j.cells.toList.length=n from by omega]at a;simp only[Qd]at a;have b:Instr.fill (λ i=>some (i*n,n)) (((Array.range (len*n)).map (λ i=>j.cells[i % j.cells.size]!))) ((parts.map λ(p:Nat×Operand)=>(p.1,ρ p.2)).toList)=some cout.toArray:=by
  rw[a,xj2];exact A
 by_cases q:len*n=0
 .have d:Instr.fill (λ i=>some (i*n,n)) #[] ((parts.map λ(p:Nat×Operand)=>(p.1,ρ p.2)).toList)=some cout.toArray:=by
   rw[q,show Array.range 0 = #[]from rfl]at b;simpa only[Array.map_empty]using b
  simp only[execOp,ho,Instr.buildSlice,Sem.run_bind,j5 hu,Result.andThen_ok,tz hs,q,show Array.range 0 = #[]from rfl,Array.map_empty,ri,Sem.run_pure,d];simp[newRow]
 .have hb:¬(len*n > 2 ^ 24):=by omega
  simp only[execOp,ho,Instr.buildSlice,Sem.run_bind,j5 hu,Result.andThen_ok,tz hs,q,hb,wz,v,Sem.run_pure];simp only[b];simp[newRow]
def q6z{o:Oper}{t e:TypeId}{l c:Operand}{b n:Nat}{z:AV}(ho:o.op=.makeSlice t l c)(hu:P.underlying t=some (.slice e))(hb:mz P e=some b)
 (hs:bN P e=some n) (L:zeroOf P e=some z) (N:z.cells.length=n):lE P o [l,c] (Op.mkSlice e b z.cells):=by
 intro D θ ρ w vs X mk h m;unfold Op.mkSlice at m;split at m
 .rename_i V p W f;obtain⟨x,y,he,ha,v⟩:=h.qI;simp only[zk,rk]at he;obtain⟨rfl,rfl⟩:=he;cases d:(rI 0 p && rI p f && rI (f*b) 140737488355328 && rI f 140737488355328)with
  |false=>rw[d]at m;cases m
  |true =>
   rw[d]at m;simp only[xm,qe,xv]at m;obtain⟨rfl,rfl⟩:=m;simp only[xt,GZ,KT]at d;obtain⟨⟨⟨R,S⟩,T⟩,c4⟩:=d;obtain⟨r,E,q⟩:=Js (w:=w) L;have M:=(q D θ).cells.length;have C:r.cells.size=n:=by rw[<-vg];omega
   refine⟨rfl,w,.cells (List.replicate f.toNat r.cells.toList).flatten.toArray e (0,0),0,.slice (some ⟨w.heap.size,0,none⟩) p.toNat f.toNat,?_,.refl w,
    λ D' θ' id hg U B hb j _=>⟨Qu (UY ((q D' θ').cells) _) j,sr B hb j⟩⟩
   have O:IntKind.i64.wrap p=p:=by simp[IntKind.wrap,IntKind.signed,IntKind.bits];omega
   have Q:IntKind.i64.wrap f=f:=by simp[IntKind.wrap,IntKind.signed,IntKind.bits];omega
   have A:∃i,P.info? e=some i/\i.bytes=b:=by
    unfold mz at hb;cases s:P.info? e with
    |none=>rw[s]at hb;cases hb
    |some i=>rw[s]at hb;injection hb with hb;exact⟨i,rfl,hb⟩
   obtain⟨inf,s,rfl⟩:=A;have a:=VM r.cells.toList f.toNat;rw[show r.cells.toList.length=n from by omega]at a;simp only[Qd]at a;have F:¬(f<0):=by omega
   have G:¬((inf.bytes:Int)*f > 2 ^ 48):=by rw[Int.mul_comm];omega
   have I:¬(p<0):=by omega
   have J:¬(p > f):=by omega
   have K:¬(f.toNat*inf.bytes > roomBytes):=by
    have:((f.toNat*inf.bytes:Nat):Int)=f*inf.bytes:=by rw[Int.natCast_mul];congr 1;omega
    unfold roomBytes;omega
   have Y:(2:Int) ^ 48=281474976710656:=by decide
   simp only[execOp,ho,<-ha.now,<-v.now,az,Instr.makeSlice,Sem.run_bind,j5 hu,Result.andThen_ok,asInt,asIntOf,Sem.run_pure,typeInfo,run_program,s,O,Q]
   by_cases u:f.toNat*n=0
   .have g:(List.replicate f.toNat r.cells.toList).flatten.toArray = #[]:=by rw[<-a,u,show Array.range 0 = #[]from rfl,Array.map_empty]
    simp only[F,G,I,J,K,u,askRoom,g,JK,Bool.or_self,zx,wz,ri,Sem.run_bind,Sem.run_pure,Result.andThen_ok,tz hs,show Array.range 0 = #[]from rfl,Array.map_empty];simp[newRow]
   .simp only[F,G,I,J,K,u,askRoom,JK,Bool.or_self,zx,wz,Sem.run_bind,Sem.run_pure,Result.andThen_ok,tz hs,E,a];simp[newRow]
 .cases m
end
end Go.Am
