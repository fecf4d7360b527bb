import GoSem.Step
import Derived.CallsIn
import Derived.WalkKit
import Derived.WalkLawsBesides
import Derived.Lib.Strings
import Derived.Lib.Bytealg
import Derived.DeepKeys3
import Derived.Laws.Cover3
import Derived.Laws.Pointers
import Derived.Room.MakeNoZero
import Derived.Laws.IdiomStrings
set_option linter.defProp false
set_option linter.unusedVariables false
set_option linter.unusedSimpArgs false
namespace Go.Am
def qd:type_of% @Option.bind_eq_some_iff:=@Option.bind_eq_some_iff
def qe:type_of% @Option.some.injEq:=@Option.some.injEq
def qg:type_of% @Nat.le_refl:=@Nat.le_refl
def qj:type_of% @Nat.lt_of_lt_of_le:=@Nat.lt_of_lt_of_le
def qk:type_of% @List.getElem?_eq_some_iff:=@List.getElem?_eq_some_iff
def qm:type_of% @Option.bind_some:=@Option.bind_some
def qo:type_of% @if_neg:=@if_neg
def qr:type_of% @if_pos:=@if_pos
def qt:type_of% @List.getElem?_eq_getElem:=@List.getElem?_eq_getElem
def qv:type_of% @List.length_append:=@List.length_append
def xb:type_of% @eq_true:=@eq_true
def xg:type_of% @List.length_set:=@List.length_set
def xj:type_of% @List.getElem?_map:=@List.getElem?_map
def xk:type_of% @Option.map_eq_some_iff:=@Option.map_eq_some_iff
def xm:type_of% @List.length_map:=@List.length_map
def xp:type_of% @List.getElem?_set_self:=@List.getElem?_set_self
def xq:type_of% @cond_true:=@cond_true
def xr:type_of% @Nat.lt_or_ge:=@Nat.lt_or_ge
def xt:type_of% @Bool.and_eq_true:=@Bool.and_eq_true
def xu:type_of% @List.getElem?_set_ne:=@List.getElem?_set_ne
def xv:type_of% @Nat.le_trans:=@Nat.le_trans
def xw:type_of% @Prod.mk.injEq:=@Prod.mk.injEq
def xy:type_of% @Nat.zero_le:=@Nat.zero_le
def xz:type_of% @Classical.byContradiction:=@Classical.byContradiction
def za:type_of% @List.mem_of_getElem?:=@List.mem_of_getElem?
def zf:type_of% @List.append_nil:=@List.append_nil
def zg:type_of% @List.take_of_length_le:=@List.take_of_length_le
def zh:type_of% @List.getElem?_append_right:=@List.getElem?_append_right
def zj:type_of% @cond_false:=@cond_false
def zk:type_of% @List.cons.injEq:=@List.cons.injEq
def zm:type_of% @List.append_assoc:=@List.append_assoc
def zp:type_of% @Nat.lt_succ_self:=@Nat.lt_succ_self
def zq:type_of% @Bool.false_eq_true:=@Bool.false_eq_true
def zr:type_of% @List.getElem?_cons_succ:=@List.getElem?_cons_succ
def zt:type_of% @List.length_replicate:=@List.length_replicate
def zu:type_of% @List.mem_append:=@List.mem_append
def zx:type_of% @List.nil_append:=@List.nil_append
def zy:type_of% @List.getD_eq_getElem?_getD:=@List.getD_eq_getElem?_getD
def zz:type_of% @List.getElem?_eq_none:=@List.getElem?_eq_none
def z4:type_of% @Int.eq_ofNat_of_zero_le:=@Int.eq_ofNat_of_zero_le
def z7:type_of% @List.length_cons:=@List.length_cons
def je:type_of% @List.getElem?_append_left:=@List.getElem?_append_left
def jf:type_of% @List.drop_eq_nil_of_le:=@List.drop_eq_nil_of_le
def jg:type_of% @List.mem_cons:=@List.mem_cons
def ji:type_of% @Nat.beq_eq:=@Nat.beq_eq
def jk:type_of% @List.map_cons:=@List.map_cons
def jo:type_of% @Bool.and_self:=@Bool.and_self
def jp:type_of% @List.getElem?_cons_zero:=@List.getElem?_cons_zero
def jr:type_of% @List.mem_singleton:=@List.mem_singleton
def js:type_of% @List.flatMap_cons:=@List.flatMap_cons
def jv:type_of% @List.length_eq_zero_iff:=@List.length_eq_zero_iff
def jy:type_of% @List.ext_getElem?:=@List.ext_getElem?
def jz:type_of% @Nat.mul_le_mul_right:=@Nat.mul_le_mul_right
def j0:type_of% @List.take_append_of_le_length:=@List.take_append_of_le_length
def j4:type_of% @Nat.zero_add:=@Nat.zero_add
def j5:type_of% @Iff.rfl:=@Iff.rfl
def j6:type_of% @List.length_range:=@List.length_range
def j7:type_of% @Option.bind_assoc:=@Option.bind_assoc
def j9:type_of% @List.length_take:=@List.length_take
def ke:type_of% @decide_eq_true:=@decide_eq_true
def kh:type_of% @Array.getD_eq_getD_getElem?:=@Array.getD_eq_getD_getElem?
def ki:type_of% @Array.getElem?_toList:=@Array.getElem?_toList
def kj:type_of% @decide_eq_false:=@decide_eq_false
def kz:type_of% @List.flatMap_append:=@List.flatMap_append
def ya:type_of% @List.length_drop:=@List.length_drop
def yd:type_of% @Nat.le_succ:=@Nat.le_succ
def ye:type_of% @Array.getElem?_eq_some_iff:=@Array.getElem?_eq_some_iff
def yg:type_of% @Nat.add_mul:=@Nat.add_mul
def yi:type_of% @List.drop_zero:=@List.drop_zero
def yj:type_of% @List.getElem?_take:=@List.getElem?_take
def yk:type_of% @List.getElem?_range:=@List.getElem?_range
def ym:type_of% @List.length_nil:=@List.length_nil
def yq:type_of% @List.drop_append_of_le_length:=@List.drop_append_of_le_length
def yr:type_of% @List.getElem?_drop:=@List.getElem?_drop
def yt:type_of% @Nat.add_sub_cancel_left:=@Nat.add_sub_cancel_left
def yu:type_of% @List.take_zero:=@List.take_zero
def vd:type_of% @Option.isSome_some:=@Option.isSome_some
def vg:type_of% @List.take_append_drop:=@List.take_append_drop
def vh:type_of% @Nat.add_zero:=@Nat.add_zero
def vi:type_of% @Array.length_toList:=@Array.length_toList
def vk:type_of% @Option.getD_some:=@Option.getD_some
def vw:type_of% @List.mem_cons_of_mem:=@List.mem_cons_of_mem
def vy:type_of% @Array.getElem?_setIfInBounds:=@Array.getElem?_setIfInBounds
def vz:type_of% @Nat.add_assoc:=@Nat.add_assoc
def wg:type_of% @List.eq_of_mem_replicate:=@List.eq_of_mem_replicate
def wl:type_of% @Bool.or_eq_true:=@Bool.or_eq_true
def wn:type_of% @Int.le_refl:=@Int.le_refl
def wo:type_of% @List.map_map:=@List.map_map
def wq:type_of% @Nat.eq_of_beq_eq_true:=@Nat.eq_of_beq_eq_true
def wv:type_of% @Nat.zero_mul:=@Nat.zero_mul
def ww:type_of% @Option.map_some:=@Option.map_some
def wz:type_of% @List.all_eq_true:=@List.all_eq_true
def AQ:type_of% @List.drop_append:=@List.drop_append
def rX:type_of% @Nat.ble_eq:=@Nat.ble_eq
def uU:type_of% @Nat.succ_mul:=@Nat.succ_mul
def nS:type_of% @if_false:=@if_false
def Me:type_of% @Decidable.byContradiction:=@Decidable.byContradiction
def Gs:type_of% @Classical.not_not:=@Classical.not_not
def Fv:type_of% @Int.toNat_natCast:=@Int.toNat_natCast
def QH:type_of% @List.drop_length_add_append:=@List.drop_length_add_append
def I1:type_of% @List.mem_cons_self:=@List.mem_cons_self
def JI:type_of% @List.getElem?_of_mem:=@List.getElem?_of_mem
def tZ:type_of% @Nat.blt_eq:=@Nat.blt_eq
def mS:type_of% @Ne.symm:=@Ne.symm
def JD:type_of% @List.drop_succ_cons:=@List.drop_succ_cons
def DF:type_of% @Nat.lt_irrefl:=@Nat.lt_irrefl
def MD:type_of% @List.set_append_right:=@List.set_append_right
def K5:type_of% @Option.isSome_none:=@Option.isSome_none
def rk:type_of% @and_true:=@and_true
def Ir:type_of% @List.cons_append:=@List.cons_append
def Ej:type_of% @List.all_cons:=@List.all_cons
def KA:type_of% @decide_eq_true_eq:=@decide_eq_true_eq
def Mr:type_of% @Int.toNat_of_nonneg:=@Int.toNat_of_nonneg
def HY:type_of% @List.map_append:=@List.map_append
def Sz:type_of% @List.take_length_add_append:=@List.take_length_add_append
def Pz:type_of% @Nat.ne_of_beq_eq_false:=@Nat.ne_of_beq_eq_false
def SM:type_of% @Int.tmod_eq_emod_of_nonneg:=@Int.tmod_eq_emod_of_nonneg
def Ey:type_of% @List.map_nil:=@List.map_nil
def PT:type_of% @List.mem_iff_getElem?:=@List.mem_iff_getElem?
def IH:type_of% @List.drop_drop:=@List.drop_drop
def Ov:type_of% @Array.toArray_toList:=@Array.toArray_toList
def Nl:type_of% @List.take_add_one:=@List.take_add_one
def Nm:type_of% @Nat.lt_succ_of_lt:=@Nat.lt_succ_of_lt
def Kv:type_of% @Option.some.inj:=@Option.some.inj
def rj:type_of% @if_true:=@if_true
def FO:type_of% @List.mem_map:=@List.mem_map
def Sf:type_of% @List.getElem?_replicate:=@List.getElem?_replicate
def P2:type_of% @List.replicate_succ:=@List.replicate_succ
def LZ:type_of% @List.take_append:=@List.take_append
def Mf:type_of% @Nat.le_add_right:=@Nat.le_add_right
def L7:type_of% @List.foldl_cons:=@List.foldl_cons
def HU:type_of% @Nat.sub_zero:=@Nat.sub_zero
def sY:type_of% @eq_self:=@eq_self
def NR:type_of% @Bool.not_eq_true':=@Bool.not_eq_true'
def PZ:type_of% @List.flatten_cons:=@List.flatten_cons
def NX:type_of% @List.mem_nil_iff:=@List.mem_nil_iff
def IY:type_of% @Nat.mul_one:=@Nat.mul_one
def Fk:type_of% @Array.ext':=@Array.ext'
def Lq:type_of% @List.map_set:=@List.map_set
def Lb:type_of% @Nat.ne_of_lt:=@Nat.ne_of_lt
def GW:type_of% @beq_iff_eq:=@beq_iff_eq
def JG:type_of% @decide_false:=@decide_false
def I2:type_of% @Int.not_lt:=@Int.not_lt
def Df:type_of% @true_and:=@true_and
inductive T(α:Type)where
 |nil
 |node (l:T α) (v:Option α) (r:T α)
noncomputable section
namespace T
variable{α:Type}
def l:T α->T α
 | .nil=>.nil
 | .node a _ _=>a
def r:T α->T α
 | .nil=>.nil
 | .node _ _ b=>b
def val:T α->Option α
 | .nil=>none
 | .node _ v _=>v
def path(i:Nat):List Bool:=go i i
 where go:Nat->Nat->List Bool
 |0,_=>[]
 |f+1,i=>match i with
  |0=>[]
  |n+1=>Nat.beq (Nat.mod n 2) 0::go f (Nat.div n 2)
def vD:List Bool->T α->Option α
 |[],t=>t.val
 |b::p,t=>vD p (cond b t.l t.r)
def ft(v:Option α):List Bool->T α->T α
 |[],t=>.node t.l v t.r
 |b::p,t=>cond b (.node (ft v p t.l) t.val t.r) (.node t.l t.val (ft v p t.r))
def get(t:T α)(i:Nat):Option α:=vD (path i) t
def put(t:T α)(i:Nat)(v:Option α):T α:=ft v (path i) t
def set(t:T α)(i:Nat)(v:α):T α:=t.put i (some v)
structure Get(α:Type)where
 run:T α->Option α
structure Put(α:Type)where
 run:Option α->T α->T α
def oq:List Bool->Get α
 |[]=>⟨val⟩
 |true::p=>⟨λ t=>(oq p).run t.l⟩
 |false::p=>⟨λ t=>(oq p).run t.r⟩
def yC:List Bool->Put α
 |[]=>⟨λ v t=>.node t.l v t.r⟩
 |true::p=>⟨λ v t=>.node ((yC p).run v t.l) t.val t.r⟩
 |false::p=>⟨λ v t=>.node t.l t.val ((yC p).run v t.r)⟩
end T
def nth{α:Type}(l:List α):Nat->Option α :=
 List.rec (motive:=λ _=>Nat->Option α) (λ _=>none) (λ x _ ih i=>Nat.rec (motive:=λ _=>Option α) (some x) (λ n _=>ih n) i) l
def jS{α:Type}(a b:List α):List α:=List.rec (motive:=λ _=>List α) b (λ x _ ih=>x::ih) a
def cP{α:Type}(l:List α):Nat:=List.rec (motive:=λ _=>Nat) 0 (λ _ _ ih=>ih+1) l
def Qq{α:Type}:List α->List α
 |[]=>[]
 |_::l=>l
def cS{α:Type}(n:Nat):List α->List α:=Nat.rec (motive:=λ _=>List α->List α) (λ l=>l) (λ _ ih l=>ih (Qq l)) n
def D5{α:Type}(n:Nat):List α->Option (List α) :=
 Nat.rec (motive:=λ _=>List α->Option (List α)) (λ _=>some [])
  (λ _ ih l=>List.rec (motive:=λ _=>Option (List α)) none (λ x t _=>(ih t).bind λ r=>some (x::r)) l) n
def xJ{α:Type}(new:List α):List α->Option (List α) :=
 List.rec (motive:=λ _=>List α->Option (List α)) (λ l=>some l)
  (λ x _ ih l=>List.rec (motive:=λ _=>Option (List α)) none (λ _ t _=>(ih t).bind λ r=>some (x::r)) l) new
def putAt{α:Type}(o:Nat)(new:List α):List α->Option (List α) :=
 Nat.rec (motive:=λ _=>List α->Option (List α)) (λ l=>xJ new l)
  (λ _ ih l=>List.rec (motive:=λ _=>Option (List α)) none (λ x t _=>(ih t).bind λ r=>some (x::r)) l) o
def fF{α:Type}(l:List α)(o n:Nat):Option (List α):=D5 n (cS o l)
inductive lK where
 |func (f:Nat)
 |yield (l:Nat)
inductive AV where
 |bool (b:Bool)
 |int (k:IntKind) (n:Int)
 |str (s:List UInt8)
 |nilp
 |ptr (b o:Nat)
 |nils
 |slice (b o n c:Nat)
 |gslice (b i m size alt n:Nat)
 |eslice (b:Nat)
 |lI
 |map (b:Nat)
 |fn (f:lK) (first captured:List AV)
 |nilf
 |iface (t:Nat) (v:AV)
 |nili
 |agg (l:List AV)
 |tuple (l:List AV)
instance:Inhabited AV:=⟨.nili⟩
def AV.undef:AV:=.tuple []
def AV.cells:AV->List AV
 | .agg l=>l
 |v=>[v]
inductive bI where
 |tmp (t:Nat)
 |const (v:AV)
 |d9 (g:Nat)
 |func (f:Nat)
inductive dX where
 |tmp (t:Nat)
 |kD (a:Nat)
 |cw (n:Nat) (a:Nat)
inductive gU where
 |exit (id:Nat)|goto (l:Nat)|ret
inductive mz where
 |ready|busy|done|exhausted
inductive aM where
 |iY (b:Nat)
 |fn (f:lK) (args:List AV)
inductive bH where
 |row (cells:List AV) (elem:Nat) (fz:Nat×Nat) (own:Bool)
 |grown (m size:Nat) (cells:List AV) (elem:Nat) (fz:Nat×Nat)
 |map (es:List (AV×AV×Nat)) (clock:Nat)
 |lG (s:List UInt8) (pos:Nat)
 |loop (st:mz) (pend:Option gU) (fn k:Nat) (tm:T AV) (defers:Nat)
 |deferred (calls:Option (List aM))
structure ar where
 t:T bH
 au:Nat
namespace ar
def get(H:ar)(b:Nat):Option bH:=H.t.get b
def set(H:ar)(b:Nat)(o:bH):ar:={H with t:=H.t.set b o}
def alloc(H:ar)(o:bH):ar:={t:=H.t.set H.au o,au:=H.au+1}
def kill(H:ar)(b:Nat):ar:={H with t:=H.t.put b none}
def bT(H:ar)(b:Nat):Option (List AV) :=
 match H.get b with
 |some (.row c _ _ _)=>some c
 |some (.grown _ _ c _ _)=>some c
 |_=>none
end ar
def ar.ae(H:ar)(b o:Nat):Option AV:=(H.bT b).bind λ l=>nth l o
def ar.gA(H:ar)(b:Nat):Option (List (AV×AV×Nat)×Nat) :=
 match H.get b with
 |some (.map es c)=>some (es,c)
 |_=>none
def ar.aq(H:ar)(b o n:Nat):Option (List AV):=(H.bT b).bind λ l=>fF l o n
def dY(fz:Nat×Nat)(o n:Nat):Bool:=Nat.ble (o+n) fz.1 ||Nat.ble fz.2 o
def av:AV->Bool
 | .agg _| .tuple _=>false
 |_=>true
def aJ(l:List AV):Bool:=List.rec (motive:=λ _=>Bool) true (λ x _ ih=>cond (av x) ih false) l
def ar.store(H:ar)(b o:Nat)(new:List AV):Option ar :=
 cond (aJ new) (match H.get b with
  |some (.row c e fz true)=>cond (dY fz o (cP new)) ((putAt o new c).bind λ c'=>some (H.set b (.row c' e fz true))) none
  |some (.grown m s c e fz)=>cond (dY fz o (cP new)) ((putAt o new c).bind λ c'=>some (H.set b (.grown m s c' e fz))) none
  |_=>none) none
def qY(tm:T AV):bI->Option AV
 | .tmp t=>tm.get t
 | .const v=>some v
 | .d9 g=>some (.ptr g 0)
 | .func f=>some (.fn (.func f) [] [])
def lM(tm:T AV):List bI->Option (List AV)
 |[]=>some []
 |x::xs=>(qY tm x).bind λ v=>(lM tm xs).bind λ vs=>some (v::vs)
structure Ev where
 run:T AV->Option AV
structure Evs where
 run:T AV->Option (List AV)
def Np:bI->Ev
 | .tmp t=>⟨(T.oq (T.path t)).run⟩
 | .const v=>⟨λ _=>some v⟩
 | .d9 g=>⟨λ _=>some (.ptr g 0)⟩
 | .func f=>⟨λ _=>some (.fn (.func f) [] [])⟩
def tq:List bI->Evs
 |[]=>⟨λ _=>some []⟩
 |[x]=>⟨λ tm=>((Np x).run tm).bind λ v=>some [v]⟩
 |x::xs=>⟨λ tm=>((Np x).run tm).bind λ v=>((tq xs).run tm).bind λ vs=>some (v::vs)⟩
def rP(a b:Int):Bool:=match a,b with
 | .ofNat m,.ofNat n=>Nat.ble m n
 | .ofNat _,.negSucc _=>false
 | .negSucc _,.ofNat _=>true
 | .negSucc m,.negSucc n=>Nat.ble n m
def zE(a b:Int):Bool:=!rP b a
def tj(a b:Int):Bool:=match a,b with
 | .ofNat m,.ofNat n=>Nat.beq m n
 | .negSucc m,.negSucc n=>Nat.beq m n
 |_,_=>false
def jU:IntKind->Nat
 | .i8=>0| .i16=>1| .i32=>2| .i64=>3| .u8=>4| .u16=>5| .u32=>6| .u64=>7
def ta(a b:IntKind):Bool:=Nat.beq (jU a) (jU b)
def Dd(a b:UInt8):Bool:=Nat.beq a.toNat b.toNat
def zL:List UInt8->List UInt8->Bool
 |[],[]=>true
 |a::x,b::y=>cond (Dd a b) (zL x y) false
 |_,_=>false
inductive aQ where
 |int|str|bool
 |nil
 |part (off:Nat) (n:Option Nat) (t rest:aQ)
def partAt(l:List AV)(off:Nat):Option Nat->Option AV
 |none=>nth l off
 |some k=>(fF l off k).bind λ c=>some (.agg c)
def bj:aQ->AV->AV->Option Bool
 | .int,.int k a,.int k' b=>cond (ta k k') (some (tj a b)) none
 | .str,.str a,.str b=>some (zL a b)
 | .bool,.bool a,.bool b=>some (a == b)
 | .nil,.agg _,.agg _=>some true
 | .part off n t rest,.agg x,.agg y=>(partAt x off n).bind λ a=>(partAt y off n).bind λ b=>(bj t a b).bind λ q =>
  cond q (bj rest (.agg x) (.agg y)) (some false)
 |_,_,_=>none
def cW:aQ->AV->Bool
 | .int,.int _ _=>true
 | .str,.str _=>true
 | .bool,.bool _=>true
 | .nil,.agg _=>true
 | .part off n t rest,.agg x=>match partAt x off n with
  |some a=>cond (cW t a) (cW rest (.agg x)) false
  |none=>false
 |_,_=>false
def bytesLess:List UInt8->List UInt8->Bool
 |_,[]=>false
 |[],_::_=>true
 |a::x,b::y=>Nat.blt a.toNat b.toNat ||(Dd a b && bytesLess x y)
def qM(op:BinOp)(a b:List UInt8):Option AV :=
 match op with
 | .add=>cond (Nat.ble (a.length+b.length) 140737488355328) (some (.str (a++b))) none
 | .eql=>some (.bool (zL a b))
 | .neq=>some (.bool (!(zL a b)))
 | .lss=>some (.bool (bytesLess a b))
 | .leq=>some (.bool (bytesLess a b ||zL a b))
 | .gtr=>some (.bool (!(bytesLess a b ||zL a b)))
 | .geq=>some (.bool (!bytesLess a b))
 |_=>none
def aj(k:IntKind)(n:Int):Int:=k.wrap n
def gq(op:BinOp)(k:IntKind)(a b:Int):Option AV :=
 match op with
 | .add=>some (.int k (aj k (a+b)))
 | .sub=>some (.int k (aj k (a-b)))
 | .mul=>some (.int k (aj k (a*b)))
 | .quo=>cond (tj b 0) none (some (.int k (aj k (a.tdiv b))))
 | .rem=>cond (tj b 0) none (some (.int k (a.tmod b)))
 | .and=>some (.int k (aj k ((BitVec.ofInt k.bits a &&& BitVec.ofInt k.bits b).toNat)))
 | .or=>some (.int k (aj k ((BitVec.ofInt k.bits a |||BitVec.ofInt k.bits b).toNat)))
 | .xor=>some (.int k (aj k ((BitVec.ofInt k.bits a ^^^ BitVec.ofInt k.bits b).toNat)))
 | .andNot=>some (.int k (aj k ((BitVec.ofInt k.bits a &&& ~~~(BitVec.ofInt k.bits b)).toNat)))
 | .eql=>some (.bool (tj a b))
 | .neq=>some (.bool (!tj a b))
 | .lss=>some (.bool (zE a b))
 | .leq=>some (.bool (rP a b))
 | .gtr=>some (.bool (zE b a))
 | .geq=>some (.bool (rP b a))
 |_=>none
inductive rE where
 |bool|ptr|slice|map|func|iface
 |ifaces (f:Nat->Option aQ)
 |agg (t:aQ)
def rR(isNil isSome:AV->Bool)(x y:AV):Option Bool :=
 cond (isNil x) (cond (isNil y) (some true) (cond (isSome y) (some false) none)) (cond (isSome x && isNil y) (some false) none)
def DV:AV->Bool
 | .nils=>true
 |_=>false
def isSlice:AV->Bool
 | .slice ..=>true
 | .gslice ..=>true
 | .eslice _=>true
 |_=>false
def A8:AV->Bool
 | .lI=>true
 |_=>false
def isMap:AV->Bool
 | .map _=>true
 |_=>false
def Au:AV->Bool
 | .nilf=>true
 |_=>false
def Pq:AV->Bool
 | .fn ..=>true
 |_=>false
def AD:AV->Bool
 | .nili=>true
 |_=>false
def isIface:AV->Bool
 | .iface ..=>true
 |_=>false
def wR(H:ar)(b b':Nat):Bool :=
 match H.get b,H.get b' with
 |some (.row _ _ (0,0) true),some (.row (_::_) _ _ _)=>true
 |some (.row (_::_) _ _ _),some (.row _ _ (0,0) true)=>true
 |_,_=>false
def sO(op:BinOp)(k:IntKind)(a b:Int):Option AV :=
 cond (zE b 0) none (match op with
  | .shl=>some (.int k (aj k (a*2 ^ (min b.toNat k.bits))))
  |_=>some (.int k (a.fdiv (2 ^ (min b.toNat k.bits)))))
def dT:BinOp->Bool
 | .shl| .shr=>true
 |_=>false
def Ig(H:ar):rE->AV->AV->Option Bool
 | .bool,.bool a,.bool b=>some (a == b)
 | .ptr,.nilp,.nilp=>some true
 | .ptr,.nilp,.ptr _ _=>some false
 | .ptr,.ptr _ _,.nilp=>some false
 | .ptr,.ptr b o,.ptr b' o'=>cond (Nat.beq b b') (some (Nat.beq o o')) (cond (wR H b b') (some false) none)
 | .slice,x,y=>rR DV isSlice x y
 | .map,x,y=>rR A8 isMap x y
 | .func,x,y=>rR Au Pq x y
 | .iface,x,y=>rR AD isIface x y
 | .ifaces f,.iface t a,.iface u b=>cond (Nat.beq t u) ((f t).bind λ q=>bj q a b) (some false)
 | .ifaces _,.nili,.iface _ _=>some false
 | .ifaces _,.iface _ _,.nili=>some false
 | .agg t,x,y=>bj t x y
 |_,_,_=>none
def mV(op:BinOp)(x y:AV):Option AV :=
 match x,y with
 | .int k a,.int k' b=>cond (dT op) (sO op k a b) (cond (ta k k') (gq op k a b) none)
 | .str a,.str b=>qM op a b
 |_,_=>none
def Zu(op:UnOp)(x:AV):Option AV :=
 match op,x with
 | .neg,.int k n=>some (.int k (aj k (0-n)))
 | .xor,.int k n=>gq .xor k (if k.signed then -1 else k.max) n
 | .not,.bool b=>some (.bool (!b))
 |_,_=>none
def iP(cells:List AV):List (Nat×Nat)->List AV->Option (List AV)
 |[],[]=>some cells
 |(off,size)::ps,v::vs=>cond (Nat.beq (cP v.cells) size) ((putAt off v.cells cells).bind λ c=>iP c ps vs) none
 |_,_=>none
def fq(n:Nat)(z:List AV):List AV :=
 match n with
 |0=>[]
 |n+1=>jS z (fq n z)
def within(i:Int)(n:Nat):Option Nat:=match i with
 | .ofNat k=>cond (Nat.blt k n) (some k) none
 | .negSucc _=>none
def arg(vs:List AV):Option Nat->Option (Option AV)
 |none=>some none
 |some i=>(nth vs i).bind λ v=>some (some v)
def bound(v:Option AV)(d mx:Nat):Option Nat :=
 match v with
 |none=>some d
 |some (.int _ (.ofNat i))=>cond (Nat.ble i mx) (some i) none
 |_=>none
def eO(size:Nat)(x:AV)(lo hi mx:Option AV):Option AV :=
 match x with
 | .nils=>match mx with
  |none=>(bound hi 0 0).bind λ h=>(bound lo 0 h).bind λ _=>some .nils
  |some _=>none
 | .slice b o n c=>match mx,hi with
  |some _,none=>none
  |mx,hi=>(bound mx c c).bind λ m=>(bound hi n m).bind λ h=>(bound lo 0 h).bind λ l =>
   some (.slice b (cond (Nat.beq m l) o (o+l*size)) (h-l) (m-l))
 | .gslice b i m s alt n =>
  cond (Nat.beq s size && Nat.ble i m) (match mx,hi with
   |none,hi=>(bound hi n (m-i)).bind λ h=>(bound lo 0 h).bind λ l =>
    cond (Nat.ble h (m-i)) (some (.gslice b (i+l) m s (cond (Nat.beq l 0) alt (i*s)) (h-l))) none
   |some _,none=>none
   |mx,hi=>(bound mx 0 (m-i)).bind λ x=>(bound hi 0 x).bind λ h=>(bound lo 0 h).bind λ l =>
    cond (Nat.beq x l) none (some (.slice b ((i+l)*s) (h-l) (x-l)))) none
 | .eslice b=>match mx with
  |none=>(bound hi 0 0).bind λ h=>(bound lo 0 h).bind λ _=>some (.eslice b)
  |some _=>none
 |_=>none
def fj:AV->Option Nat
 | .str s=>some (cP s)
 | .nils=>some 0
 | .slice _ _ n _=>some n
 | .gslice _ _ _ _ _ n=>some n
 | .eslice _=>some 0
 |_=>none
def elemAt(size:Nat)(x:AV)(j:Nat):Option (Nat×Nat) :=
 match x with
 | .slice b o n _=>cond (Nat.blt j n) (some (b,o+j*size)) none
 | .gslice b i m s _ n=>cond (Nat.blt j n && Nat.beq s size && Nat.blt (i+j) m) (some (b,i*s+j*s)) none
 |_=>none
def firstCells(H:ar)(size n:Nat)(x:AV):Option (List AV) :=
 match x with
 | .nils=>some []
 | .str s=>cond (Nat.beq size 1) (some ((s.take n).map λ b=>.int .u8 b.toNat)) none
 | .slice b o _ _=>cond (Nat.beq n 0) (some []) (H.aq b o (n*size))
 | .gslice b i m s _ _=>cond (Nat.beq n 0) (some []) (cond (Nat.beq s size && Nat.blt i m) (H.aq b (i*s) (n*size)) none)
 | .eslice _=>cond (Nat.beq n 0) (some []) none
 |_=>none
def eP(n:Int):AV:=.int .i64 n
def findKey(t:aQ)(k:AV):List (AV×AV×Nat)->Nat->Option (Option (Nat×AV))
 |[],_=>some none
 |(k',v,_)::es,i=>(bj t k k').bind λ q=>cond q (some (some (i,v))) (findKey t k es (i+1))
def Hg(c:UInt8):List UInt8->Nat->Option Nat
 |[],_=>none
 |x::l,i=>cond (Dd x c) (some i) (Hg c l (i+1))
def vA(c:UInt8):List UInt8->Nat
 |[]=>0
 |x::l=>cond (Dd x c) (vA c l+1) (vA c l)
def byteOf:AV->Option UInt8
 | .int .u8 n=>some (UInt8.ofNat n.toNat)
 |_=>none
def bytesOf:List AV->Option (List UInt8)
 |[]=>some []
 |x::l=>(byteOf x).bind λ b=>(bytesOf l).bind λ r=>some (b::r)
def fits(n bytes:Nat):Bool:=Nat.ble (n*bytes) 140737488355328 && Nat.ble n 140737488355328
def di(H:ar)(e size n:Nat)(cells:List AV)(fz:Nat×Nat):AV×ar :=
 (.gslice H.au 0 n size 0 n,H.alloc (.grown n size cells e fz))
def cV(H:ar)(e size bytes:Nat)(s:AV)(n:Nat)(new:List AV):Option (AV×ar) :=
 match s with
 | .nils=>cond (Nat.beq n 0) (some (.nils,H)) (cond (fits n bytes && Nat.blt 0 size) (some (di H e size n new (0,0))) none)
 | .slice b o len c =>
  cond (Nat.ble (len+n) c)
   (cond (Nat.beq n 0) (some (.slice b o (len+n) c,H)) ((H.store b (o+len*size) new).bind λ H'=>some (.slice b o (len+n) c,H')))
   (cond (fits (len+n) bytes && Nat.ble c (len+n) && Nat.blt 0 size)
    ((firstCells H size len (.slice b o len c)).bind λ old=>some (di H e size (len+n) (jS old new) (0,0))) none)
 | .gslice b i m sz alt len =>
  cond (Nat.beq n 0) (cond (Nat.ble (i+len) m) (some (.gslice b i m sz alt len,H)) none) (cond (Nat.beq sz size && Nat.ble (i+len) m && Nat.blt 0 size)
   (cond (Nat.ble (i+len+n) m)
    ((H.store b ((i+len)*size) new).bind λ H'=>some (.gslice b i m sz alt (len+n),H'))
    (cond (fits (len+n) bytes) (match H.get b with
     |some (.grown m' sz' c e' fz) =>
      cond (Nat.beq m m' && Nat.beq sz sz' && Nat.beq e' e)
       (cond (Nat.beq i 0 && Nat.beq len m && Nat.ble fz.2 (m*size)) (some (di (H.kill b) e size (len+n) (jS c new) fz)) (cond (Nat.ble fz.2 (i*size))
        ((fF c (i*size) (len*size)).bind λ old=>some (di (H.kill b) e size (len+n) (jS old new) (cond (Nat.beq fz.1 fz.2) (0,0) (1,0))))
        (cond (Nat.beq i 0 && Nat.ble fz.2 (len*size))
         ((fF c 0 (len*size)).bind λ old=>some (di (H.kill b) e size (len+n) (jS old new) fz)) none))) none
     |_=>none) none)) none)
 |_=>none
namespace Op
def fail:List AV->Option AV:=λ _=>none
def move:List AV->Option AV
 |[v]=>some v
 |_=>none
def pick:List AV->Option AV
 |[.bool q,a,b]=>some (cond q a b)
 |_=>none
def build(zero:List AV)(places:List (Nat×Nat))(vs:List AV):Option AV :=
 (iP zero places vs).bind λ c=>some (.agg c)
def nilCheck:List AV->Option AV
 |[.nilp]|[.nili]|[.nilf]=>none
 |[.fn (.func f) a b]=>some (.fn (.func f) a b)
 |[.fn _ _ _]=>none
 |[v]=>some v
 |_=>none
def bin(op:BinOp):List AV->Option AV
 |[x,y]=>mV op x y
 |_=>none
def eq(t:rE)(neg:Bool):List AV->ar->Option AV
 |[x,y],H=>(Ig H t x y).bind λ q=>some (.bool (cond neg (!q) q))
 |_,_=>none
def un(op:UnOp):List AV->Option AV
 |[x]=>Zu op x
 |_=>none
def wrap(k:IntKind):List AV->Option AV
 |[.int _ n]=>some (.int k (aj k n))
 |_=>none
def dD:List AV->Option AV
 |[.int _ n]=>cond (rP 0 n && zE n 128) (some (.str [UInt8.ofNat n.toNat])) none
 |_=>none
def eJ:List AV->Option AV
 |[.str s]=>some (.str s)
 |_=>none
def dp(t:Nat):List AV->Option AV
 |[v]=>some (.iface t v)
 |_=>none
def bC(f nf:Nat)(l:List AV):Option AV:=some (.fn (.func f) (l.take nf) (l.drop nf))
def dB:List (Option Nat)->List AV->Option AV
 |[lo,hi],.str s::vs =>
  (arg vs hi).bind λ b=>(arg vs lo).bind λ a=>(bound b s.length s.length).bind λ h=>(bound a 0 h).bind λ l=>some (.str ((s.take h).drop l))
 |_,_=>none
def aL(size:Nat):List (Option Nat)->List AV->Option AV
 |[lo,hi,mx],x::vs=>(arg vs lo).bind λ a=>(arg vs hi).bind λ b=>(arg vs mx).bind λ m=>eO size x a b m
 |_,_=>none
def cG(n size:Nat):List (Option Nat)->List AV->Option AV
 |[lo,hi,mx],.ptr p o::vs=>(arg vs lo).bind λ a=>(arg vs hi).bind λ b=>(arg vs mx).bind λ m=>eO size (.slice p o n n) a b m
 |_,_=>none
def fieldAddr(off:Nat):List AV->Option AV
 |[.ptr b o]=>some (.ptr b (o+off))
 |_=>none
def field(off:Nat)(n:Option Nat):List AV->Option AV
 |[.agg l]=>partAt l off n
 |_=>none
def aO(size:Nat):List AV->Option AV
 |[x,.int _ j]=>(fj x).bind λ n=>(within j n).bind λ k=>(elemAt size x k).bind λ p=>some (.ptr p.1 p.2)
 |_=>none
def aP(len size:Nat):List AV->Option AV
 |[.ptr b o,.int _ j]=>(within j len).bind λ k=>some (.ptr b (o+k*size))
 |_=>none
def bA(len size:Nat)(n:Option Nat):List AV->Option AV
 |[.agg l,.int _ j]=>(within j len).bind λ k=>partAt l (k*size) n
 |_=>none
def bK:List AV->Option AV
 |[.str s,.int _ j]=>(within j s.length).bind λ k=>(nth s k).bind λ b=>some (.int .u8 b.toNat)
 |_=>none
def typeAssert(t:Nat)(ok:Bool)(zero:AV):List AV->Option AV
 |[.nili]=>cond ok (some (.tuple [zero,.bool false])) none
 |[.iface u v]=>cond (Nat.beq u t) (some (cond ok (.tuple [v,.bool true]) v)) (cond ok (some (.tuple [zero,.bool false])) none)
 |_=>none
def extract(i:Nat):List AV->Option AV
 |[.tuple l]=>nth l i
 |_=>none
def fg:List AV->Option AV
 |[.str s]=>some (eP (cP s))
 |_=>none
def db:List AV->Option AV
 |[.nils]=>some (eP 0)
 |[.slice _ _ n _]=>some (eP n)
 |[.gslice _ _ _ _ _ n]=>some (eP n)
 |[.eslice _]=>some (eP 0)
 |_=>none
def nQ(n:Nat):List AV->Option AV
 |[_]=>some (eP n)
 |_=>none
def cap:List AV->Option AV
 |[.nils]=>some (eP 0)
 |[.slice _ _ _ c]=>some (eP c)
 |_=>none
def sq(mx:Bool):Int->List AV->Option Int
 |a,[]=>some a
 |a,.int _ b::l=>sq mx (cond mx (cond (zE a b) b a) (cond (zE b a) b a)) l
 |_,_=>none
def gf(mx:Bool):List AV->Option AV
 | .int k a::l=>(sq mx a l).bind λ r=>some (.int k r)
 |_=>none
def cX:List AV->Option AV
 |[.nils]=>some .nilp
 |[.slice b o _ c]=>cond (Nat.beq c 0) none (some (.ptr b o))
 |[.gslice b i m s _ _]=>cond (Nat.blt i m) (some (.ptr b (i*s))) none
 |_=>none
def dG:List AV->Option AV
 |[x]=>some x
 |_=>none
def aD:List AV->Option AV
 |[.str s,.int .u8 c]=>some (eP (match Hg (UInt8.ofNat c.toNat) s 0 with|some i=>i|none=>-1))
 |_=>none
def bP:List AV->Option AV
 |[.str s,.int .u8 c]=>some (eP (Int.ofNat (vA (UInt8.ofNat c.toNat) s)))
 |_=>none
def ae:List AV->ar->Option AV
 |[.ptr b o],H=>H.ae b o
 |_,_=>none
def aq(n:Nat):List AV->ar->Option AV
 |[.ptr b o],H=>(H.aq b o n).bind λ l=>some (.agg l)
 |_,_=>none
def cq:List AV->ar->Option AV
 |[.str _],_=>none
 |[v],H=>(fj v).bind λ n=>(firstCells H 1 n v).bind λ l=>(bytesOf l).bind λ s=>some (.str s)
 |_,_=>none
def lookup(key:aQ)(zero:AV)(ok:Bool):List AV->ar->Option AV
 |[.lI,k],_=>cond (cW key k) (some (cond ok (.tuple [zero,.bool false]) zero)) none
 |[.map b,k],H=>cond (cW key k) ((H.gA b).bind λ m=>(findKey key k m.1 0).bind λ r=>match r with
  |some p=>some (cond ok (.tuple [p.2,.bool true]) p.2)
  |none=>some (cond ok (.tuple [zero,.bool false]) zero)) none
 |_,_=>none
def fY:List AV->ar->Option AV
 |[.lI],_=>some (eP 0)
 |[.map b],H=>(H.gA b).bind λ m=>some (eP m.1.length)
 |_,_=>none
def eC(lies:Nat->Nat->Nat->Bool):List AV->ar->Option AV
 |[.nilp],_=>some .nilp
 |[.ptr b o],H=>match H.get b with
  |some (.row c e _ true)=>cond (lies e c.length o) (some (.ptr b o)) none
  |_=>none
 |_,_=>none
def ptrTo(b:Nat):AV:=.ptr b 0
def alloc(e:Nat)(zero:List AV):List AV->Option (bH×(Nat->AV))
 |[]=>some (.row zero e (0,0) true,ptrTo)
 |_=>none
def box(e:Nat):List AV->Option (bH×(Nat->AV))
 |[v]=>some (.row v.cells e (0,0) true,ptrTo)
 |_=>none
def sliceTo(n m:Nat)(b:Nat):AV:=.slice b 0 n m
def buildSlice(e n:Nat)(zero:List AV)(places:List (Nat×Nat))(vs:List AV):Option (bH×(Nat->AV)) :=
 (iP (fq n zero) places vs).bind λ c=>some (.row c e (0,0) true,sliceTo n n)
def mkMap:List AV->Option (bH×(Nat->AV))
 |[]=>some (.map [] 0,.map)
 |_=>none
def mkSlice(e bytes:Nat)(zero:List AV):List AV->Option (bH×(Nat->AV))
 |[.int _ n,.int _ m]=>cond (rP 0 n && rP n m && rP (m*bytes) 140737488355328 && rP m 140737488355328)
  (some (.row (fq m.toNat zero) e (0,0) true,sliceTo n.toNat m.toNat)) none
 |_=>none
def xez(m n:Nat)(b:Nat):AV:=.gslice b 0 m 1 0 n
def cm(e:Nat):List AV->Option (bH×(Nat->AV))
 |[.str s]=>cond (Nat.ble s.length 140737488355328) (some (.grown s.length 1 (s.map λ b=>.int .u8 b.toNat) e (1,0),xez s.length s.length)) none
 |_=>none
def dE:List AV->Option (bH×(Nat->AV))
 |[.str s]=>some (.lG s 0,ptrTo)
 |_=>none
def makeNoZero(e:Nat):List AV->Option (bH×(Nat->AV))
 |[.int .i64 n]=>cond (rP 0 n && rP n 140737488355328) (some (.grown 0 1 [] e (0,0),xez 0 n.toNat)) none
 |_=>none
def store(n:Nat):List AV->ar->Option (AV×ar)
 |[.ptr b o,v],H=>cond (Nat.beq (cP v.cells) n) ((H.store b o v.cells).bind λ H'=>some (.undef,H')) none
 |_,_=>none
def tJ:AV->AV->Bool
 | .int k a,.int k' b=>ta k k' && tj a b
 | .str a,.str b=>zL a b
 | .bool a,.bool b=>a == b
 |_,_=>false
def eQ:List AV->List AV->Bool
 |[],[]=>true
 |a::x,b::y=>cond (tJ a b) (eQ x y) false
 |_,_=>false
def stays:AV->AV->Bool
 | .agg a,.agg b=>eQ a b
 |a,b=>tJ a b
def mapUpdate(key:aQ):List AV->ar->Option (AV×ar)
 |[.map b,k,v],H=>cond (cW key k) ((H.gA b).bind λ m=>(findKey key k m.1 0).bind λ r=>match r with
  |some p=>(nth m.1 p.1).bind λ e=>cond (stays e.1 k) (some (.undef,H.set b (.map (m.1.modify p.1 λ e=>(k,v,e.2.2)) m.2))) none
  |none=>some (.undef,H.set b (.map (m.1 ++ [(k,v,m.2)]) (m.2+1)))) none
 |_,_=>none
def cY(key:aQ):List AV->ar->Option (AV×ar)
 |[.lI,k],H=>cond (cW key k) (some (.tuple [],H)) none
 |[.map b,k],H=>cond (cW key k) ((H.gA b).bind λ m=>(findKey key k m.1 0).bind λ r=>match r with
  |some p=>some (.tuple [],H.set b (.map (m.1.eraseIdx p.1) m.2))
  |none=>some (.tuple [],H.set b (.map m.1 m.2))) none
 |_,_=>none
def eD:List AV->ar->Option (AV×ar)
 |[.ptr b 0],H=>match H.get b with
  |some (.lG s p)=>match nth s p with
   |some c=>cond (Nat.blt c.toNat 128) (some (.tuple [.bool true,eP p,.int .i32 c.toNat],H.set b (.lG s (p+1)))) none
   |none=>some (.tuple [.bool false],H)
  |_=>none
 |_,_=>none
def append(e size bytes:Nat):List AV->ar->Option (AV×ar)
 |[a,b],H=>(fj b).bind λ n=>(firstCells H size n b).bind λ new=>cond (aJ new) (cV H e size bytes a n new) none
 |_,_=>none
def copy(size:Nat):List AV->ar->Option (AV×ar)
 |[.str _,_],_=>none
 |[d,r],H=>(fj d).bind λ dn=>(fj r).bind λ rn=>(firstCells H size (min rn dn) r).bind λ l =>
  cond (Nat.beq (min rn dn) 0) (some (eP 0,H)) ((elemAt size d 0).bind λ p=>(H.store p.1 p.2 l).bind λ H'=>some (eP (min rn dn),H'))
 |_,_=>none
def bR(zero:List AV):List AV->ar->Option (AV×ar)
 |[.str _],_=>none
 |[x],H=>(fj x).bind λ n=>cond (Nat.beq n 0) (some (.tuple [],H))
  ((elemAt zero.length x 0).bind λ p=>(H.store p.1 p.2 (fq n zero)).bind λ H'=>some (.tuple [],H'))
 |_,_=>none
def bO:List AV->ar->Option (AV×ar)
 |[.lI],H=>some (.tuple [],H)
 |[.map b],H=>(H.gA b).bind λ m=>some (.tuple [],H.set b (.map [] m.2))
 |_,_=>none
def u4(fz:Nat×Nat)(o n:Nat):Nat×Nat:=cond (Nat.beq fz.1 fz.2) (o,o+n) (min fz.1 o,max fz.2 (o+n))
def eF:List AV->ar->Option (AV×ar)
 |[.slice b o n c],H=>match H.get b with
  |some (.row cs e fz true)=>some (.slice b o n c,H.set b (.row cs e (u4 fz (cP cs) 1) true))
  |_=>none
 |_,_=>none
def dC(u:Nat):List AV->ar->Option (AV×ar)
 |[.nilp,.int _ k],H=>cond (tj k 0) (some (.str [],H)) none
 |[.ptr b o,.int _ k],H=>cond (tj k 0) (some (.str [],H)) (cond (zE k 0 ||zE 140737488355328 k) none (match H.get b with
  |some (.row c e fz true)=>cond (Nat.beq e u) ((fF c o k.toNat).bind λ l=>(bytesOf l).bind λ s=>some (.str s,H.set b (.row c e (u4 fz o k.toNat) true))) none
  |some (.grown m z c e fz)=>cond (Nat.beq e u && Nat.ble fz.1 fz.2) ((fF c o k.toNat).bind λ l=>(bytesOf l).bind λ s=>some (.str s,H.set b (.grown m z c e (u4 fz o k.toNat)))) none
  |_=>none))
 |_,_=>none
end Op
inductive fE where
 |pure (f:List AV->Option AV)
 |read (f:List AV->ar->Option AV)
 |alloc (f:List AV->Option (bH×(Nat->AV)))
 |gH (f:List AV->ar->Option (AV×ar))
 |gV (f:Nat)
 |gT
 |invoke (name:String)
 |recover
 |defer
 |panic
structure aN where
 gW:Bool
 dst:Option Nat
 guard:Option (Nat×Bool)
 args:List bI
 op:fE
 ct:Option (List Nat)
inductive ai where
 |skip
 |region (steps:List aN)
 |seq (a b:ai)
 |cond (c:bI) (thn els:ai)
 |block (id:Nat) (body:ai)
 |loop (ah:Option (List Nat)) (body:ai)
 |rangeFunc (f:bI) (k:Nat)
 |exit (id:Nat)
 |scope (body:ai)
 |label (l:Nat)
 |goto (l:Nat)
 |ret
 |stuck
instance:Inhabited ai:=⟨.skip⟩
structure dZ where
 params:List Nat
 assign:ai
 body:ai
structure b9 where
 results:List dX
 body:ai
 loops:List dZ
structure jH where
 func:Nat->Option b9
 jL:Nat->String->Option Nat
abbrev aE:=List (AV×Bool)
structure St where
 tm:T AV
 aX:List aM
 up:Option aE
 H:ar
inductive aU where
 |normal
 |exit (id:Nat)
 |goto (l:Nat)
 |ret
 |panic (chain:aE)
inductive bG where
 |ret (v:AV)
 |panic (chain:aE)
abbrev bS:=Nat->List AV->Option aE->ar->Option (bG×Option aE×ar)
structure Ctx where
 round:Option Nat
 fn:Nat
end
end Go.Am
namespace Go.Am
noncomputable section
def KX:T AV->List Nat->List AV->Option (T AV)
 |tm,[],[]=>some tm
 |tm,p::ps,v::vs=>KX (tm.set p v) ps vs
 |_,_,_=>none
def jE:Nat->List AV->T AV->T AV
 |_,[],t=>t
 |i,v::vs,t=>jE (i+1) vs (t.set i v)
def jV:aU->Option gU
 | .exit id=>some (.exit id)
 | .goto l=>some (.goto l)
 | .ret=>some .ret
 |_=>none
def qF:Option gU->aU
 |none=>.normal
 |some (.exit id)=>.exit id
 |some (.goto l)=>.goto l
 |some .ret=>.ret
def xX:aU->Bool
 | .normal=>true
 |_=>false
def WJ(tm:T AV):List Nat->T AV->T AV
 |[],acc=>acc
 |k::ks,acc=>WJ tm ks (acc.put k (tm.get k))
def forget:List Nat->T AV->T AV
 |[],t=>t
 |d::ds,t=>forget ds (t.put d none)
def eh(dst:Option Nat)(v:AV)(tm:T AV):T AV :=
 match dst with
 |some d=>tm.set d v
 |none=>tm
structure Wv where
 run:AV->T AV->T AV
def kN:Option Nat->Wv
 |some d=>⟨λ v tm=>(T.yC (T.path d)).run (some v) tm⟩
 |none=>⟨λ _ tm=>tm⟩
abbrev gD:=Option (aU×St)
def gy(ah:Option (List Nat))(body:St->gD):Nat->St->gD
 |0,_=>none
 |n+1,st =>
  (body (match ah with|none=>st|some ks=>{st with tm:=WJ st.tm ks .nil})).bind λ r=>match r.1 with
   | .normal=>gy ah body n r.2
   |e=>some (e,r.2)
def El:ai->Nat->Bool
 | .seq a b,l=>El a l ||El b l
 | .label l',l=>Nat.beq l' l
 |_,_=>false
mutual
def cj:AV->AV->Bool
 | .bool a,.bool b=>a == b
 | .int k a,.int k' b=>ta k k' && tj a b
 | .str a,.str b=>zL a b
 | .nilp,.nilp=>true
 | .ptr a b,.ptr c d=>Nat.beq a c && Nat.beq b d
 | .nils,.nils=>true
 | .slice a b c d,.slice a' b' c' d'=>Nat.beq a a' && Nat.beq b b' && Nat.beq c c' && Nat.beq d d'
 | .gslice a b c d e f,.gslice a' b' c' d' e' f'=>Nat.beq a a' && Nat.beq b b' && Nat.beq c c' && Nat.beq d d' && Nat.beq e e' && Nat.beq f f'
 | .eslice a,.eslice b=>Nat.beq a b
 | .lI,.lI=>true
 | .map a,.map b=>Nat.beq a b
 | .nilf,.nilf=>true
 | .nili,.nili=>true
 | .fn (.func f) x a,.fn (.func g) y b=>Nat.beq f g && eQ x y && eQ a b
 | .fn (.yield f) x a,.fn (.yield g) y b=>Nat.beq f g && eQ x y && eQ a b
 | .iface t a,.iface u b=>Nat.beq t u && cj a b
 | .agg a,.agg b=>eQ a b
 | .tuple a,.tuple b=>eQ a b
 |_,_=>false
def eQ:List AV->List AV->Bool
 |[],[]=>true
 |x::xs,y::ys=>cj x y && eQ xs ys
 |_,_=>false
end
abbrev iJ:=List AV->Nat->ar->Option (bG×ar)
structure RT where
 AP:jH
 call:bS
 round:iJ
 n:Nat
 ctx:Ctx
def cQ(call:bS)(round:iJ)(f:lK)(args:List AV)(H:ar):Option (bG×ar) :=
 match f with
 | .func g=>(call g args none H).bind λ r=>some (r.1,r.2.2)
 | .yield l=>round args l H
def fA(put:AV->T AV->T AV)(ct:Option (List Nat))(st:St)(k:St->gD)(r:bG×ar):gD :=
 match r.1 with
 | .ret v=>k ⟨put v st.tm,st.aX,st.up,r.2⟩
 | .panic c=>ct.bind λ ds=>some (.panic c,⟨forget ds st.tm,st.aX,st.up,r.2⟩)
def QI(put:AV->T AV->T AV)(st:St):St :=
 match st.up with
 |some ((v,false)::older)=>⟨put v st.tm,st.aX,some ((v,true)::older),st.H⟩
 |_=>⟨put .nili st.tm,st.aX,st.up,st.H⟩
def AW(f:List AV->Option AV)(put:AV->T AV->T AV)(st:St)(k:St->gD)(vs:List AV):gD :=
 (f vs).bind λ v=>k ⟨put v st.tm,st.aX,st.up,st.H⟩
def Ao(f:List AV->ar->Option AV)(put:AV->T AV->T AV)(st:St)(k:St->gD)(vs:List AV):gD :=
 (f vs st.H).bind λ v=>k ⟨put v st.tm,st.aX,st.up,st.H⟩
def vF(f:List AV->Option (bH×(Nat->AV)))(put:AV->T AV->T AV)(st:St)(k:St->gD)(vs:List AV):gD :=
 (f vs).bind λ r=>k ⟨put (r.2 st.H.au) st.tm,st.aX,st.up,st.H.alloc r.1⟩
def Jc(f:List AV->ar->Option (AV×ar))(put:AV->T AV->T AV)(st:St)(k:St->gD)(vs:List AV):gD :=
 (f vs st.H).bind λ r=>k ⟨put r.1 st.tm,st.aX,st.up,r.2⟩
def D2(f:Nat)(rt:RT)(put:AV->T AV->T AV)(ct:Option (List Nat))(st:St)(k:St->gD)(vs:List AV):gD :=
 (cQ rt.call rt.round (.func f) vs st.H).bind λ r=>fA put ct st k r
def Cq(rt:RT)(put:AV->T AV->T AV)(ct:Option (List Nat))(st:St)(k:St->gD)(vs:List AV):gD :=
 match vs with
 | .fn (.func f) first cap::args=>(cQ rt.call rt.round (.func f) (first++(args++cap)) st.H).bind λ r=>fA put ct st k r
 | .fn (.yield l) first []::args=>(cQ rt.call rt.round (.yield l) (first++args) st.H).bind λ r=>fA put ct st k r
 |_=>none
def sH(name:String)(rt:RT)(put:AV->T AV->T AV)(ct:Option (List Nat))(st:St)(k:St->gD)(vs:List AV):gD :=
 match vs with
 | .iface t v::args=>(rt.AP.jL t name).bind λ f=>(cQ rt.call rt.round (.func f) (v::args) st.H).bind λ r=>fA put ct st k r
 |_=>none
def Se(rt:RT)(put:AV->T AV->T AV)(st:St)(k:St->gD)(vs:List AV):gD :=
 match rt.ctx.round with
 |some _=>none
 |none=>match vs with
  |[]=>k (QI put st)
  |_=>none
def vG(rt:RT)(put:AV->T AV->T AV)(st:St)(k:St->gD)(vs:List AV):gD :=
 match rt.ctx.round with
 |some _=>none
 |none=>match vs with
  | .fn (.func f) first cap::args=>k ⟨put .undef st.tm,.fn (.func f) (first++(args++cap))::st.aX,st.up,st.H⟩
  |_=>none
def vE(put:AV->T AV->T AV)(ct:Option (List Nat))(st:St)(k:St->gD)(vs:List AV):gD :=
 match vs with
 |[.iface t v]=>fA put ct st k (.panic [(.iface t v,false)],st.H)
 |_=>none
structure OpC where
 run:RT->St->(St->gD)->List AV->gD
def qN(put:AV->T AV->T AV)(ct:Option (List Nat)):fE->OpC
 | .pure f=>⟨λ _ st k vs=>AW f put st k vs⟩
 | .read f=>⟨λ _ st k vs=>Ao f put st k vs⟩
 | .alloc f=>⟨λ _ st k vs=>vF f put st k vs⟩
 | .gH f=>⟨λ _ st k vs=>Jc f put st k vs⟩
 | .gV f=>⟨λ rt st k vs=>D2 f rt put ct st k vs⟩
 | .gT=>⟨λ rt st k vs=>Cq rt put ct st k vs⟩
 | .invoke name=>⟨λ rt st k vs=>sH name rt put ct st k vs⟩
 | .recover=>⟨λ rt st k vs=>Se rt put st k vs⟩
 | .defer=>⟨λ rt st k vs=>vG rt put st k vs⟩
 | .panic=>⟨λ _ st k vs=>vE put ct st k vs⟩
def qA(get:T AV->Option AV)(st:St)(vs:List AV):fE->Bool
 | .read f=>match f vs st.H,get st.tm with
  |some v,some v'=>cj v v'
  |_,_=>false
 |_=>false
def cM(b:Bool):Option AV->Option Bool
 |some (.bool q)=>some (cond q b (!b))
 |some (.tuple [])=>some false
 |_=>none
structure QU where
 run:RT->(St->gD)->St->gD
def gC(s:aN):QU :=
 match s.gW with
 |false=>match s.guard with
  |none=>⟨λ rt k st=>((tq s.args).run st.tm).bind λ vs=>(qN (kN s.dst).run s.ct s.op).run rt st k vs⟩
  |some g=>⟨λ rt k st=>(cM g.2 ((T.oq (T.path g.1)).run st.tm)).bind λ w =>
   cond w (((tq s.args).run st.tm).bind λ vs=>(qN (kN s.dst).run s.ct s.op).run rt st k vs) (k ⟨(kN s.dst).run .undef st.tm,st.aX,st.up,st.H⟩)⟩
 |true=>match s.guard,s.dst with
  |none,some d=>⟨λ _ k st=>((tq s.args).run st.tm).bind λ vs=>cond (qA (T.oq (T.path d)).run st vs s.op) (k st) none⟩
  |some g,some d=>⟨λ _ k st=>(cM g.2 ((T.oq (T.path g.1)).run st.tm)).bind λ w =>
   cond w (((tq s.args).run st.tm).bind λ vs=>cond (qA (T.oq (T.path d)).run st vs s.op) (k st) none) (k st)⟩
  |_,none=>⟨λ _ _ _=>none⟩
structure I7 where
 run:RT->St->gD
def gJ:List aN->I7
 |[]=>⟨λ _ st=>some (.normal,st)⟩
 |s::rest=>⟨λ rt st=>(gC s).run rt ((gJ rest).run rt) st⟩
def cK(H:ar)(l:Nat)(s:mz)(p:Option gU):Option ar :=
 match H.get l with
 |some (.loop _ _ f k tm d)=>some (H.set l (.loop s p f k tm d))
 |_=>none
def Dy(H:ar)(l:Nat):Option Nat :=
 match H.get l with
 |some (.loop _ _ _ _ _ d)=>some d
 |_=>none
def MP(st:St)(aX:List aM)(l:Nat)(e:bG)(H:ar):gD :=
 match e with
 | .panic c=>some (.panic c,{st with aX:=aX,H:=H})
 | .ret _=>match H.get l with
  |some (.loop .busy _ _ _ _ _)=>none
  |some (.loop _ p f k tm d)=>some (qF p,{st with aX:=aX,H:=H.set l (.loop .exhausted p f k tm d)})
  |_=>none
def iQ(call:bS)(round:iJ)(ctx:Ctx)(st:St)(k:Nat)(H0:ar)(aX:List aM)(d:Nat):AV->gD
 | .fn (.func g) first cap =>
  (cQ call round (.func g) (first++(.fn (.yield H0.au) [] []::cap)) (H0.alloc (.loop .ready none ctx.fn k st.tm d))).bind λ r =>
   MP st aX H0.au r.1 r.2
 |_=>none
def tG(next:RT->St->gD)(rt:RT)(r:aU×St):gD :=
 match r.1 with
 | .normal=>next rt r.2
 |e=>some (e,r.2)
def ud(a b:RT->St->gD)(rt:RT)(st:St)(v:AV):gD :=
 match v with
 | .bool q=>cond q (a rt st) (b rt st)
 |_=>none
def jR(id:Nat)(r:aU×St):gD :=
 match r.1 with
 | .exit id'=>some (cond (Nat.beq id id') .normal (.exit id'),r.2)
 |e=>some (e,r.2)
def kQ(b:ai)(r:aU×St):gD :=
 match r.1 with
 | .goto l=>cond (El b l) none (some (.goto l,r.2))
 |e=>some (e,r.2)
def qR(rt:RT)(k:Nat)(st:St)(v:AV):gD :=
 match rt.ctx.round with
 |none=>iQ rt.call rt.round rt.ctx st k (st.H.alloc (.deferred (some []))) (.iY st.H.au::st.aX) st.H.au v
 |some l=>(Dy st.H l).bind λ d=>iQ rt.call rt.round rt.ctx st k st.H st.aX d v
def bE:ai->I7
 | .skip=>⟨λ _ st=>some (.normal,st)⟩
 | .label _=>⟨λ _ st=>some (.normal,st)⟩
 | .region steps=>gJ steps
 | .seq a b=>⟨λ rt st=>((bE a).run rt st).bind (tG (bE b).run rt)⟩
 | .cond c a b=>⟨λ rt st=>((Np c).run st.tm).bind (ud (bE a).run (bE b).run rt st)⟩
 | .block id b=>⟨λ rt st=>((bE b).run rt st).bind (jR id)⟩
 | .loop ah b=>⟨λ rt st=>gy ah ((bE b).run rt) rt.n st⟩
 | .exit id=>⟨λ _ st=>some (.exit id,st)⟩
 | .goto l=>⟨λ _ st=>some (.goto l,st)⟩
 | .ret=>⟨λ _ st=>some (.ret,st)⟩
 | .stuck=>⟨λ _ _=>none⟩
 | .scope b=>⟨λ rt st=>((bE b).run rt st).bind (kQ b)⟩
 | .rangeFunc f k=>⟨λ rt st=>((Np f).run st.tm).bind (qR rt k st)⟩
def exec(AP:jH)(call:bS)(round:iJ)(n:Nat)(ctx:Ctx)(c:ai)(st:St):gD:=(bE c).run ⟨AP,call,round,n,ctx⟩ st
def Gv(l:Nat)(r:aU×St):Option (bG×ar) :=
 match r.1 with
 | .panic c=>some (.panic c,r.2.H)
 |e=>(cK r.2.H l (cond (xX e) .ready .done) (jV e)).bind λ H=>some (.ret (.bool (xX e)),H)
def beginRound(H:ar)(l:Nat):Option ar :=
 match H.get l with
 |some (.loop .ready p f k tm d)=>some (H.set l (.loop .busy p f k tm d))
 |_=>none
def roundOf(AP:jH)(ex:Ctx->ai->St->gD)(args:List AV)(l:Nat)(H:ar):Option (bG×ar) :=
 match H.get l with
 |some (.loop _ _ f k tm _) =>
  (AP.func f).bind λ fn=>(nth fn.loops k).bind λ lp=>(KX tm lp.params args).bind λ tm1 =>
  (ex ⟨some l,f⟩ lp.assign {tm:=tm1,aX:=[],up:=none,H:=H}).bind λ r=>match r.1 with
   | .normal=>(beginRound r.2.H l).bind λ H2=>(ex ⟨some l,f⟩ lp.body {r.2 with H:=H2}).bind λ q=>cond (noDefs q.2.aX) (Gv l q) none
   |_=>none
 |_=>none
 where noDefs:List aM->Bool
 |[]=>true
 |_=>false
def Mu(H:ar)(tm:T AV):dX->Option AV
 | .tmp t=>tm.get t
 | .kD a=>(tm.get a).bind λ v=>match v with| .ptr b o=>H.ae b o|_=>none
 | .cw n a=>(tm.get a).bind λ v=>match v with| .ptr b o=>(H.aq b o n).bind λ l=>some (.agg l)|_=>none
def dQ(H:ar)(tm:T AV):List dX->Option (List AV)
 |[]=>some []
 |r::rs=>(Mu H tm r).bind λ v=>(dQ H tm rs).bind λ vs=>some (v::vs)
def iT:List AV->AV
 |[v]=>v
 |l=>.tuple l
def mL(m:Option aE)(up:aE):Option (Option aE) :=
 match m,up with
 |none,[]=>some none
 |some _,(_,true)::_=>some none
 |some _,(v,false)::c=>some (some ((v,false)::c))
 |_,_=>none
def bY(call:bS)(rs:List dX)(tm:T AV):List aM->Option aE->ar->Option (bG×ar)
 |[],none,H=>(dQ H tm rs).bind λ l=>some (.ret (iT l),H)
 |[],some c,H=>some (.panic c,H)
 | .iY b::ds,m,H=>match H.get b with
  |some (.deferred (some []))=>bY call rs tm ds m (H.set b (.deferred none))
  |_=>none
 | .fn (.func f) args::ds,m,H=>(call f args (some (m.getD [])) H).bind λ r =>
  match r.1,r.2.1 with
  | .ret _,some up'=>(mL m up').bind λ m'=>bY call rs tm ds m' r.2.2
  |_,_=>none
 | .fn (.yield _) _::_,_,_=>none
def pN(call:bS)(fn:b9)(r:aU×St):Option (bG×Option aE×ar) :=
 let fin (m:Option aE):Option (bG×Option aE×ar):=(bY call fn.results r.2.tm r.2.aX m r.2.H).bind λ q=>some (q.1,r.2.up,q.2)
 match r.1 with
 | .normal=>fin none
 | .ret=>fin none
 | .panic c=>fin (some c)
 |_=>none
def rounds(AP:jH)(call:bS)(m:Nat):Nat->iJ
 |0=>λ _ _ _=>none
 |n+1=>roundOf AP (exec AP call (rounds AP call m n) m)
def Ho(AP:jH)(call:bS)(n:Nat):bS:=λ f args up H =>
 (AP.func f).bind λ fn =>
  (exec AP call (rounds AP call n n) n ⟨none,f⟩ fn.body {tm:=jE 0 args .nil,aX:=[],up:=up,H:=H}).bind λ r =>
   pN call fn r
def Bm(AP:jH):Nat->bS
 |0=>λ _ _ _ _=>none
 |n+1=>Ho AP (Bm AP n) n
def jQ(AP:jH)(told:bS):Nat->bS
 |0=>told
 |n+1=>λ f args up H=>match told f args up H with
  |some r=>some r
  |none=>Ho AP (jQ AP told n) n f args up H
end
end Go.Am
namespace Go.Am
noncomputable section
mutual
def fO:Value->Option AV
 | .bool b=>some (.bool b)
 | .int k n=>some (.int k n)
 | .string s=>some (.str s.data.toList)
 | .pointer none=>some .nilp
 | .slice none 0 0=>some .nils
 | .map none=>some .lI
 | .nilFunc=>some .nilf
 | .nilIface=>some .nili
 | .iface t v=>(fO v).bind λ x=>some (.iface t x)
 | .agg cs=>(nE cs.toList).bind λ l=>some (.agg l)
 | .tuple cs=>(nE cs.toList).bind λ l=>some (.tuple l)
 |_=>none
def nE:List Value->Option (List AV)
 |[]=>some []
 |v::vs=>(fO v).bind λ x=>(nE vs).bind λ xs=>some (x::xs)
end
def qT(G:Nat):Operand->Option bI
 | .tmp t=>some (.tmp t)
 | .const v=>(fO v).bind λ x=>some (.const x)
 | .global g=>if Nat.blt g G then some (.d9 g)else none
 | .func f=>some (.func f)
def nG(G:Nat):List Operand->Option (List bI)
 |[]=>some []
 |x::xs=>(qT G x).bind λ y=>(nG G xs).bind λ ys=>some (y::ys)
def zeroOf(P:Program)(t:TypeId):Option AV:=((P.info? t).bind (·.zero)).bind fO
def bQ(P:Program)(t:TypeId):Option Nat:=(P.info? t).bind λ i=>some i.size
def mC(P:Program)(t:TypeId):Option Nat:=(P.info? t).bind λ i=>some i.bytes
def mX(P:Program)(t:TypeId):Option (Option Nat) :=
 match P.underlying t with
 |some (.struct _)|some (.array _ _)=>(bQ P t).bind λ n=>some (some n)
 |some _=>some none
 |none=>none
def dm(P:Program):Nat->TypeId->Option aQ
 |0,_=>none
 |d+1,t=>match P.underlying t with
  |some (.int _)=>some .int
  |some .string=>some .str
  |some .bool=>some .bool
  |some (.struct fs)=>if P.stoodInHeld t then none else fieldsT (dm P d) fs.toList
  |some (.array n e)=>(bQ P e).bind λ s=>(mX P e).bind λ a=>(dm P d e).bind λ q=>some (itemsT s a q n 0)
  |_=>none
 where
 fieldsT (go:TypeId->Option aQ):List Field->Option aQ
  |[]=>some .nil
  |f::fs=>if f.name = "_" then none else(mX P f.type).bind λ a=>(go f.type).bind λ q=>(fieldsT go fs).bind λ r=>some (.part f.offset a q r)
 itemsT (s:Nat) (a:Option Nat) (q:aQ):Nat->Nat->aQ
  |0,_=>.nil
  |n+1,i=>.part (i*s) a q (itemsT s a q n (i+1))
def qV(P:Program)(t:TypeId):Option aQ:=dm P 20 t
def gh:Nat->List (Option Operand)->List (Option Nat)
 |_,[]=>[]
 |n,none::r=>none::gh n r
 |n,some _::r=>some n::gh (n+1) r
def jT:List (Option Operand)->List Operand
 |[]=>[]
 |none::r=>jT r
 |some x::r=>x::jT r
def zZ(pl:Nat->Option (Nat×Nat)):List (Nat×Operand)->Option (List (Nat×Nat))
 |[]=>some []
 |(i,_)::r=>(pl i).bind λ p=>(zZ pl r).bind λ l=>some (p::l)
def Mx(P:Program)(fs:Array Field)(i:Nat):Option (Nat×Nat):=(fs[i]?).bind λ f=>(bQ P f.type).bind λ n=>some (f.offset,n)
def Jk(n:Nat)(i:Nat):Option (Nat×Nat):=some (i*n,n)
def Uy(P:Program)(b:Builtin)(ts:Array TypeId)(args:List Operand):Option (List Operand×fE) :=
 match b with
 | .len=>match(ts[0]?).bind P.underlying with
  |some (.slice _)=>some (args,.pure Op.db)
  |_=>none
 | .append=>match ts.toList with
  |[t,tx]=>match P.underlying t,P.underlying tx with
   |some (.slice e),some (.slice _)=>(bQ P e).bind λ n=>(mC P e).bind λ z=>(zeroOf P e).bind λ zv=>if zv.cells.length=n then some (args,.gH (Op.append e n z))else none
   |_,_=>none
  |_=>none
 | .clear=>match(ts[0]?).bind P.underlying with
  |some (.slice e)=>(zeroOf P e).bind λ z=>some (args,.gH (Op.bR z.cells))
  |some (.map _ _)=>some (args,.gH Op.bO)
  |_=>none
 | .recover=>some (args,.recover)
 | .panic=>some (args,.panic)
 |_=>none
def KO(_P:Program)(fn:Func)(args:List Operand):Option (List Operand×fE) :=
 if fn.origin != "" then none
 else if fn.name == "internal/bytealg.IndexByteString" then some (args,.pure Op.aD)
 else none
def D7(P:Program)(src dst:TypeId)(x:Operand):Option (List Operand×fE) :=
 match P.underlying src,P.underlying dst with
 |some (.int _),some (.int k)=>some ([x],.pure (Op.wrap k))
 |_,_=>none
def Ms(P:Program):Nat->TypeId->Bool
 |0,_=>true
 |d+1,t=>match P.underlying t with
  |some (.interface ms)=>!ms.isEmpty
  |some (.struct fs)=>fs.toList.any λ f=>f.name != "_" && Ms P d f.type
  |some (.array _ e)=>Ms P d e
  |_=>false
def WC(P:Program):∀(d:Nat)(t:TypeId),Ms P d t=P.eqGuardType d t
 |0,_=>rfl
 |d+1,t=>by
  rw[Ms,Program.eqGuardType];cases P.underlying t with
  |none=>rfl
  |some u =>
   cases u with
   |struct fs =>
    show fs.toList.any _=fs.any _;rw[<-Array.any_toList];congr 1;funext f;rw[WC P d]
   |array _ e=>exact WC P d e
   |_=>rfl
def FW(P:Program)(t:TypeId)(x y:Operand):Option rE :=
 match P.underlying t with
 |some .bool=>some .bool
 |some (.pointer e)=>match bQ P e with
  |some (_+1)=>some .ptr
  |_=>none
 |some (.slice _)=>some .slice
 |some (.map _ _)=>some .map
 |some (.func _ _ _)=>some .func
 |some (.interface _)=>match x,y with
  | .const .nilIface,_=>some .iface
  |_,.const .nilIface=>some .iface
  |_,_=>some (.ifaces λ u=>(P.info? u).bind λ i=>if i.comparable then dm P 20 u else none)
 |some (.struct _)=>if Ms P P.depth t then none else(dm P 20 t).bind λ q=>some (.agg q)
 |some (.array _ _)=>if Ms P P.depth t then none else(dm P 20 t).bind λ q=>some (.agg q)
 |_=>none
def KB(P:Program)(op:BinOp)(t:TypeId)(x y:Operand):Option (List Operand×fE) :=
 match P.underlying t with
 |some (.int _)=>some ([x,y],.pure (Op.bin op))
 |some .string=>some ([x,y],.pure (Op.bin op))
 |_=>match op with
  | .eql=>(FW P t x y).bind λ k=>some ([x,y],.read (Op.eq k false))
  | .neq=>(FW P t x y).bind λ k=>some ([x,y],.read (Op.eq k true))
  |_=>none
def CF(P:Program)(c:Call):Option (List Operand×fE) :=
 match c.callee with
 | .value (.func f)=>(P.funcs[f]?).bind λ fn =>
  match fn.body with
  |some _=>some (c.args.toList,.gV f)
  |none=>KO P fn c.args.toList
 | .value f=>some (f::c.args.toList,.gT)
 | .invoke r m=>some (r::c.args.toList,.invoke m)
 | .builtin b=>Uy P b c.argTypes c.args.toList
def QC(P:Program)(op:Go.Op):Option (List Operand×fE) :=
 match op with
 | .move x=>some ([x],.pure Op.move)
 | .assign x=>some ([x],.pure Op.move)
 | .pick c a b=>some ([c,a,b],.pure Op.pick)
 | .alloc e=>(zeroOf P e).bind λ z=>some ([],.alloc (Op.alloc e z.cells))
 | .box e x=>some ([x],.alloc (Op.box e))
 | .build t parts=>(zeroOf P t).bind λ z =>
  match P.underlying t with
  |some (.struct fs)=>if fs.toList.all (λ f=>(bQ P f.type).isSome)then(zZ (Mx P fs) parts.toList).bind λ ps=>some (parts.toList.map (·.2),.pure (Op.build z.cells ps))else none
  |some (.array _ e)=>(bQ P e).bind λ n=>(zZ (Jk n) parts.toList).bind λ ps=>some (parts.toList.map (·.2),.pure (Op.build z.cells ps))
  |_=>none
 | .buildSlice t len parts =>
  match P.underlying t with
  |some (.slice e)=>(bQ P e).bind λ n=>(zeroOf P e).bind λ z=>(zZ (Jk n) parts.toList).bind λ ps=>if z.cells.length=n/\len*n<=16777216 then some (parts.toList.map (·.2),.alloc (Op.buildSlice e len z.cells ps))else none
  |_=>none
 | .load t a=>(mX P t).bind λ r=>match r with
  |none=>some ([a],.read Op.ae)
  |some n=>some ([a],.read (Op.aq n))
 | .store t a x=>(bQ P t).bind λ n=>some ([a,x],.gH (Op.store n))
 | .nilCheck x=>some ([x],.pure Op.nilCheck)
 | .binOp op t x y _=>KB P op t x y
 | .unOp op _ x=>some ([x],.pure (Op.un op))
 | .convert src dst x=>D7 P src dst x
 | .makeInterface t x=>match P.underlying t with
  |some (.interface _)=>none
  |some _=>some ([x],.pure (Op.dp t))
  |none=>none
 | .makeFunc (.func f) a b=>some (a.toList++b.toList,.pure (Op.bC f a.size))
 | .makeMap _ none=>some ([],.alloc Op.mkMap)
 | .makeMap t (some (.const (.int _ _)))=>match P.underlying t with
  |some (.map _ _)=>some ([],.alloc Op.mkMap)
  |_=>none
 | .makeSlice t l c =>
  match P.underlying t with
  |some (.slice e)=>(mC P e).bind λ b=>(zeroOf P e).bind λ z=>(bQ P e).bind λ n=>if z.cells.length=n then some ([l,c],.alloc (Op.mkSlice e b z.cells))else none
  |_=>none
 | .slice t x lo hi mx =>
  match P.underlying t with
  |some (.slice e)=>(bQ P e).bind λ n=>some (x::jT [lo,hi,mx],.pure (Op.aL n (gh 0 [lo,hi,mx])))
  |some (.array k e)=>(bQ P e).bind λ n=>some (x::jT [lo,hi,mx],.pure (Op.cG k n (gh 0 [lo,hi,mx])))
  |_=>none
 | .fieldAddr t x i =>
  match P.underlying t with
  |some (.struct fs)=>(fs[i]?).bind λ f=>(bQ P f.type).bind λ n=>if n == 0 then none else some ([x],.pure (Op.fieldAddr f.offset))
  |_=>none
 | .indexAddr t x i =>
  match P.underlying t with
  |some (.slice e)=>(bQ P e).bind λ n=>some ([x,i],.pure (Op.aO n))
  |some (.array k e)=>(bQ P e).bind λ n=>some ([x,i],.pure (Op.aP k n))
  |_=>none
 | .index t x i =>
  match P.underlying t with
  |some .string=>some ([x,i],.pure Op.bK)
  |some (.array k e)=>(bQ P e).bind λ n=>(mX P e).bind λ a=>some ([x,i],.pure (Op.bA k n a))
  |_=>none
 | .lookup t m k ok =>
  match P.underlying t with
  |some (.map kt e)=>(qV P kt).bind λ key=>(zeroOf P e).bind λ z=>some ([m,k],.read (Op.lookup key z ok))
  |_=>none
 | .mapUpdate t m k v =>
  match P.underlying t with
  |some (.map kt _)=>(qV P kt).bind λ key=>some ([m,k,v],.gH (Op.mapUpdate key))
  |_=>none
 | .extract x i=>some ([x],.pure (Op.extract i))
 | .call c=>CF P c
 | .defer c=>match c.callee with
  | .value f=>some (f::c.args.toList,.defer)
  |_=>none
 | .panic x=>some ([x],.panic)
 |_=>none
def fU(P:Program)(o:Oper):Option (List bI×fE) :=
 match(QC P o.op).bind λ r=>(nG P.globals.size r.1).bind λ args=>some (args,r.2)with
 |some r=>some r
 |none=>some ([],.pure Op.fail)
inductive JH where
 |pure|read|alloc|gH
 deriving DecidableEq
def qS:fE->JH
 | .pure _=>.pure
 | .read _=>.read
 | .alloc _=>.alloc
 |_=>.gH
def mq(cls:Nat->JH)(fR:Nat->Nat)(n:Nat):Nat->Nat->List (Bool×Nat)->List (Bool×Nat)
 |0,_,acc=>acc.reverse
 |fuel+1,done,acc =>
  let ready (i:Nat):Bool:=!done.testBit i && (fR i &&& done) == fR i
  let todo:=(List.range n).filter λ i=>!done.testBit i
  match todo.find? (λ i=>ready i && (cls i == .pure ||cls i == .read))with
  |some i=>mq cls fR n fuel (done |||2 ^ i) ((false,i)::acc)
  |none =>
   -- the next effect: the first one (effects are in a row)
   match todo.find? (λ i=>cls i == .gH)with
   |some e =>
    if ready e then
     let again:=(acc.reverse.filter λ q=>!q.1 && cls q.2 == .read && !(fR e).testBit q.2).map λ q=>(true,q.2)
     mq cls fR n fuel (done |||2 ^ e) (again.reverse++((false,e)::acc))
    else match todo.find? (λ i=>ready i && (fR e).testBit i)with
     |some i=>mq cls fR n fuel (done |||2 ^ i) ((false,i)::acc)
     |none=>acc.reverse
   |none=>match todo.find? ready with
    |some i=>mq cls fR n fuel (done |||2 ^ i) ((false,i)::acc)
    |none=>acc.reverse
def de{α:Type}:List (Option α)->Option (List α)
 |[]=>some []
 |x::xs=>x.bind λ a=>(de xs).bind λ l=>some (a::l)
def guardOf(ops:Array Oper):Option (Nat×Bool)->Option (Option (Nat×Bool))
 |none=>some none
 |some g=>((ops[g.1]?).bind (·.dst)).bind λ t=>some (some (t,g.2))
def iV(ops:Array Oper)(l:List (List bI×fE))(safe:Nat->Option (List Nat))(q:Bool×Nat):Option aN :=
 (ops[q.2]?).bind λ o=>(l[q.2]?).bind λ a=>(guardOf ops o.guard).bind λ g =>
  some {gW:=q.1,dst:=o.dst,guard:=g,args:=a.1,op:=a.2,ct:=safe q.2}
def oX(nt:Nat)(o:Oper):Bool :=
 match o.dst with
 |none=>true
 |some d=>Nat.blt d nt
def pC(a b:Nat):Bool:=Nat.beq (Nat.land a b) a
def bitsOf:List (Bool×Nat)->Nat->Nat
 |[],d=>d
 |(true,_)::l,d=>bitsOf l d
 |(false,i)::l,d=>bitsOf l (Nat.lor d (2 ^ i))
def nh:List (Bool×Nat)->Nat->Nat
 |(true,r)::l,d=>nh l (Nat.lor d (2 ^ r))
 |_,d=>d
def qB(c d:JH):Bool:=match c,d with
 | .pure,.pure=>true
 | .read,.read=>true
 | .alloc,.alloc=>true
 | .gH,.gH=>true
 |_,_=>false
def iR(p:Nat->Bool):Nat->Nat
 |0=>0
 |n+1=>cond (p n) (Nat.lor (iR p n) (2 ^ n)) (iR p n)
structure mj where
 n:Nat
 fR:Nat->Nat
 cls:Nat->JH
 jB:Nat->Nat->Bool
 self:Nat->Bool
 made:Nat
 reads:Nat
def Nk(I:mj)(done:Nat)(post:List (Bool×Nat)):Bool×Nat->Bool
 |(false,i)=>Nat.blt i I.n && (!done.testBit i && (pC (I.fR i) done && (match I.cls i with
  | .read=>pC (Nat.land done I.made) (I.fR i)
  | .gH=>pC (Nat.land done I.made) (I.fR i) && pC (Nat.land done I.reads) (Nat.lor (I.fR i) (nh post 0))
  |_=>true)))
 |(true,r)=>qB (I.cls r) .read && (I.self r && (done.testBit r && pC (Nat.land done (iR (λ w=>!Nat.beq w r && I.jB r w) I.n)) (I.fR r)))
def KD(I:mj):List (Bool×Nat)->Nat->Bool
 |[],done=>pC (2 ^ I.n-1) done
 |(false,i)::post,done=>Nk I done post (false,i) && KD I post (Nat.lor done (2 ^ i))
 |(true,r)::post,done=>Nk I done post (true,r) && KD I post done
def rK(p:Nat->Bool):Nat->Bool
 |0=>true
 |n+1=>p n && rK p n
def wS(I:mj):Bool:=rK (λ r=>rK (λ w=>Nat.beq r w ||((I.fR r).testBit w ||((I.fR w).testBit r ||!I.jB r w))) I.n) I.n
def tmpsOf:List bI->List Nat
 |[]=>[]
 | .tmp t::l=>t::tmpsOf l
 |_::l=>tmpsOf l
def nO(t:Nat):List Nat->Bool
 |[]=>false
 |x::l=>Nat.beq x t ||nO t l
def iE(ops:Array Oper)(l:List (List bI×fE))(r:Nat):List Nat :=
 match ops[r]?,l[r]? with
 |some o,some a=>(match guardOf ops o.guard with|some (some g)=>[g.1]|_=>[])++tmpsOf a.1
 |_,_=>[]
def gQ(ops:Array Oper)(w:Nat):Option Nat:=(ops[w]?).bind (·.dst)
def gw(ops:Array Oper)(l:List (List bI×fE))(r:Nat):List Nat :=
 (match gQ ops r with|some d=>[d]|none=>[])++iE ops l r
def BI(ops:Array Oper)(l:List (List bI×fE))(r w:Nat):Bool :=
 match gQ ops w with
 |some t=>nO t (gw ops l r)
 |none=>false
def Br(ops:Array Oper)(l:List (List bI×fE))(r:Nat):Bool :=
 match gQ ops r with
 |some t=>!nO t (iE ops l r)
 |none=>true
def mK(l:List (List bI×fE))(i:Nat):JH:=qS ((l[i]?.getD ([],.recover)).2)
def vN(c:JH):Bool:=qB c .alloc ||qB c .gH
def aT(ops:Array Oper)(l:List (List bI×fE)):mj :=
 {n:=ops.size,fR:=λ i=>(Region.before ops).getD i 0,cls:=mK l,jB:=BI ops l,self:=Br ops l,made:=iR (λ i=>vN (mK l i)) ops.size,reads:=iR (λ i=>qB (mK l i) .read) ops.size}
def ue(i:Nat):List (Bool×Nat)->List (Bool×Nat)
 |[]=>[]
 |(c,j)::l=>cond (!c && Nat.beq j i) [] ((c,j)::ue i l)
def Md(ops:Array Oper)(I:mj)(plan:List (Bool×Nat))(i:Nat):Option (List Nat) :=
 let d:=bitsOf (ue i plan) 0
 cond (rK (λ j=>Nat.beq j i ||(d.testBit j ||(I.fR j).testBit i)) I.n) (some (ops.toList.filterMap (·.dst))) none
def iB(P:Program)(nt:Nat)(ops:Array Oper)(draw:Bool):Option ai :=
 if ops.toList.all (oX nt)then
 (de (ops.toList.map (fU P))).bind λ l =>
  if draw then
   let I:=aT ops l
   let plan:=mq I.cls I.fR ops.size (2*ops.size) 0 []
   cond (KD I plan 0 && wS I) ((de (plan.map (iV ops l (Md ops I plan)))).bind λ steps=>some (.region steps)) (some .stuck)
  else(de ((List.range ops.size).map λ i=>iV ops l (λ _=>some []) (false,i))).bind λ steps=>some (.region steps)
 else none
def bZ(P:Program)(nt:Nat):Nat->Code->Option (ai×List dZ)
 |_,.skip=>some (.skip,[])
 |_,.region _ ops draw=>(iB P nt ops draw).bind λ c=>some (c,[])
 |k,.seq a b=>(bZ P nt k a).bind λ a=>(bZ P nt (k+a.2.length) b).bind λ b=>some (.seq a.1 b.1,a.2++b.2)
 |k,.cond c a b=>(qT P.globals.size c).bind λ c=>(bZ P nt k a).bind λ a=>(bZ P nt (k+a.2.length) b).bind λ b=>some (.cond c a.1 b.1,a.2++b.2)
 |k,.block id b=>(bZ P nt k b).bind λ b=>some (.block id b.1,b.2)
 |k,.loop b=>(bZ P nt k b).bind λ b=>some (.loop none b.1,b.2)
 |k,.rangeFunc f ps a b=>(qT P.globals.size f).bind λ f=>(bZ P nt (k+1) a).bind λ a=>(bZ P nt (k+1+a.2.length) b).bind λ b =>
  if ps.toList.all λ p=>Nat.blt p nt then some (.rangeFunc f k,{params:=ps.toList,assign:=a.1,body:=b.1}::(a.2++b.2))else none
 |_,.exit id=>some (.exit id,[])
 |k,.scope b=>(bZ P nt k b).bind λ b=>some (.scope b.1,b.2)
 |_,.label l=>some (.label l,[])
 |_,.goto l=>some (.goto l,[])
 |_,.ret=>some (.ret,[])
 |_,.refuse _=>some (.stuck,[])
def pS(P:Program):List ResultVar->Option (List dX)
 |[]=>some []
 | .tmp t::r=>(pS P r).bind λ l=>some (.tmp t::l)
 | .cell a t::r=>(mX P t).bind λ n=>(pS P r).bind λ l=>some ((match n with|none=>.kD a|some n=>.cw n a)::l)
def tE(P:Program)(fn:Func):Option b9 :=
 fn.body.bind λ b=>(bZ P fn.ntmps 0 b).bind λ c=>(pS P fn.results.toList).bind λ r=>some {results:=r,body:=c.1,loops:=c.2}
def wM(P:Program)(t:TypeId)(name:String):Option Nat :=
 (P.info? t).bind λ i=>(i.methods.find? (·.name == name)).bind λ m =>
  if !m.path.isEmpty then none else m.func.bind λ p =>
   match P.underlying t,p.2 with
   |none,_=>none
   |some (.pointer _),true=>some p.1
   |some (.pointer _),false=>none
   |some _,true=>none
   |some _,false=>some p.1
def aV(P:Program):jH:={func:=λ f=>(P.funcs[f]?).bind (tE P),jL:=wM P}
end
end Go.Am
namespace Go.Am
namespace T
variable{α:Type}
def go_eq(f:Nat):∀(g i:Nat),i<=f->i<=g->path.go f i=path.go g i:=by
 induction f with
 |zero=>intro g i a hg;obtain rfl:i=0:=by omega
        cases g<;>simp[path.go]
 |succ f ih =>
  intro g i a hg;cases i with
  |zero=>cases g<;>simp[path.go]
  |succ n =>
   cases g with
   |zero=>omega
   |succ g =>
    simp only[path.go];have h:n / 2<=n:=Nat.div_le_self n 2;congr 1;exact ih g (n / 2) (by omega) (by omega)
def Y7:path 0=[]:=rfl
def Rd(n:Nat):path (n+1)=Nat.beq (n % 2) 0::path (n / 2):=by
 show path.go (n+1) (n+1)=_;simp only[path.go];have h:n / 2<=n:=Nat.div_le_self n 2;exact congrArg (Nat.beq (n % 2) 0 :: ·) (go_eq n (n / 2) (n / 2) h (qg _))
def Aw:∀(i j:Nat),path i=path j->i=j:=by
 intro i
 induction i using Nat.strongRecOn with
 |_ i ih =>
  intro j h;cases i with
  |zero=>cases j with
   |zero=>rfl
   |succ m=>rw[Y7,Rd]at h;cases h
  |succ n=>cases j with
   |zero=>rw[Y7,Rd]at h;cases h
   |succ m =>
    rw[Rd,Rd]at h;injection h with d c
    have f:=ih (n / 2) (by have:=Nat.div_le_self n 2;omega) (m / 2) c;have g:n % 2=m % 2:=by
     rcases Nat.mod_two_eq_zero_or_one n with a|a<;>rcases Nat.mod_two_eq_zero_or_one m with b|b<;>simp_all
    omega
def BR(p:List Bool):vD p (.nil:T α)=none:=by
 induction p with
 |nil=>rfl
 |cons b p ih=>cases b<;>exact ih
def q5k(v:Option α):∀(p:List Bool)(t:T α),vD p (ft v p t)=v:=by
 intro p
 induction p with
 |nil=>intro t;rfl
 |cons b p ih=>intro t;cases b<;>exact ih _
def xal(v:Option α):∀(p q:List Bool)(t:T α),p≠q->vD q (ft v p t)=vD q t:=by
 intro p
 induction p with
 |nil =>
  intro q t h;cases q with
  |nil=>exact absurd rfl h
  |cons b q=>cases b<;>rfl
 |cons b p ih =>
  intro q t h;cases q with
  |nil=>cases b<;>rfl
  |cons c q =>
   cases b<;>cases c
   .exact ih q _ (λ e=>h (by rw[e]))
   .rfl
   .rfl
   .exact ih q _ (λ e=>h (by rw[e]))
def jP(t:T α)(i j:Nat)(v:Option α):(t.put i v).get j=if i=j then v else t.get j:=by
 unfold get put
 by_cases h:i=j
 .subst h;simp[q5k]
 .simp only[h,nS];exact xal v _ _ t (λ e=>h (Aw i j e))
def aI(t:T α)(i j:Nat)(v:α):(t.set i v).get j=if i=j then some v else t.get j:=jP t i j (some v)
def get_nil(j:Nat):(T.nil:T α).get j=none:=BR _
def jG(p:List Bool)(t:T α):(oq p).run t=vD p t:=by
 induction p generalizing t with
 |nil=>rfl
 |cons b p ih=>cases b<;>exact ih _
def DN(v:Option α)(p:List Bool)(t:T α):(yC p).run v t=ft v p t:=by
 induction p generalizing t with
 |nil=>rfl
 |cons b p ih =>
  cases b
  .show T.node t.l t.val ((yC p).run v t.r)=T.node t.l t.val (ft v p t.r);rw[ih]
  .show T.node ((yC p).run v t.l) t.val t.r=T.node (ft v p t.l) t.val t.r;rw[ih]
end T
section
variable{α:Type}
def lS(l:List α)(i:Nat):nth l i=l[i]?:=by
 induction l generalizing i with
 |nil=>rfl
 |cons x l ih=>cases i with
  |zero=>rfl
  |succ n=>exact ih n
def oE(a b:List α):jS a b=a++b:=by
 induction a with
 |nil=>rfl
 |cons x a ih=>exact congrArg (x :: ·) ih
def HE(l:List α):cP l=l.length:=by
 induction l with
 |nil=>rfl
 |cons x l ih=>exact congrArg (·+1) ih
def AZ(n:Nat)(l:List α):cS n l=l.drop n:=by
 induction n generalizing l with
 |zero=>rfl
 |succ n ih=>cases l with
  |nil=>exact(ih []).trans (by simp)
  |cons x l=>exact ih l
def BW(n:Nat)(l:List α):D5 n l=if n<=l.length then some (l.take n)else none:=by
 induction n generalizing l with
 |zero=>rfl
 |succ n ih=>cases l with
  |nil=>rfl
  |cons x l =>
   show(D5 n l).bind (λ r=>some (x::r))=_;rw[ih]
   by_cases h:n<=l.length<;>simp[h]
def Cp(new l:List α):xJ new l=if new.length<=l.length then some (new++l.drop new.length)else none:=by
 induction new generalizing l with
 |nil=>rfl
 |cons x new ih=>cases l with
  |nil=>rfl
  |cons y l =>
   show(xJ new l).bind (λ r=>some (x::r))=_;rw[ih]
   by_cases h:new.length<=l.length<;>simp[h]
def Eg(o:Nat)(new l:List α):putAt o new l=if o+new.length<=l.length then some (l.take o++new++l.drop (o+new.length))else none:=by
 induction o generalizing l with
 |zero=>show xJ new l=_;rw[Cp];simp
 |succ o ih=>cases l with
  |nil =>
   show none=_;rw[qo (by simp only[ym];omega)]
  |cons x l =>
   show(putAt o new l).bind (λ r=>some (x::r))=_;rw[ih]
   by_cases h:o+new.length<=l.length
   .rw [qr h,qr (by simp;omega)];simp[show o+1+new.length=(o+new.length)+1 from by omega]
   .rw [qo h,qo (by simp;omega)];rfl
def u9(l:List α)(o n:Nat):fF l o n=if n<=l.length-o then some ((l.drop o).take n)else none:=by
 unfold fF;rw[BW,AZ,ya]
end
def FI(a b:Int):rP a b=decide (a<=b):=by
 cases a<;>cases b<;>rw[Bool.eq_iff_iff]<;>simp[rP,rX]<;>try omega
def Nb(a b:Int):zE a b=decide (a<b):=by
 unfold zE;rw[FI];rw[Bool.eq_iff_iff];simp
def C9(a b:Int):tj a b=(a == b):=by
 rw[Bool.eq_iff_iff,GW];cases a<;>cases b<;>simp[tj]<;>omega
def Ta(a b:IntKind):ta a b=decide (a=b):=by cases a<;>cases b<;>rfl
def Xj(a b:UInt8):Dd a b=(a == b):=by
 unfold Dd;rw[Bool.eq_iff_iff];simp only[ji,GW];exact⟨λ h=>UInt8.toNat_inj.1 h,λ h=>by rw[h]⟩
def Jw(a b:List UInt8):zL a b=(a == b):=by
 induction a generalizing b with
 |nil=>cases b<;>rfl
 |cons x a ih=>cases b with
  |nil=>rfl
  |cons y b =>
   show cond (Dd x y) (zL a b) false=_;rw[ih,Xj];cases h:(x == y)<;>simp[h]
end Go.Am
namespace Go.Am
structure Th where
 bV:Nat->Nat
 off:Nat->Nat
 ext:Nat->Nat
def fL(θ:Th):lK->Fn
 | .func f=>.func f
 | .yield l=>.yield (θ.bV l)
def BS:Nat->Option Nat
 |0=>none
 |n+1=>some n
mutual
def az(θ:Th):AV->Value
 | .bool b=>.bool b
 | .int k n=>.int k n
 | .str s=>.string ⟨s.toArray⟩
 | .nilp=>.pointer none
 | .ptr b o=>.pointer (some ⟨θ.bV b,θ.off b+o,none⟩)
 | .nils=>.slice none 0 0
 | .slice b o n c=>.slice (some ⟨θ.bV b,θ.off b+o,none⟩) n c
 | .gslice b i m s alt n=>.slice (some ⟨θ.bV b,θ.off b+(if(m-i) + θ.ext b=0 then alt else i*s),none⟩) n ((m-i) + θ.ext b)
 | .eslice b=>.slice (some ⟨θ.bV b,θ.off b,BS (θ.ext b)⟩) 0 0
 | .lI=>.map none
 | .map b=>.map (some (θ.bV b))
 | .fn f a b=>.func (fL θ f) (bU θ a).toArray (bU θ b).toArray
 | .nilf=>.nilFunc
 | .iface t v=>.iface t (az θ v)
 | .nili=>.nilIface
 | .agg l=>.agg (bU θ l).toArray
 | .tuple l=>.tuple (bU θ l).toArray
def bU(θ:Th):List AV->List Value
 |[]=>[]
 |v::vs=>az θ v::bU θ vs
end
def vH(θ:Th)(l:List AV):bU θ l=l.map (az θ):=by
 induction l with
 |nil=>rfl
 |cons x l ih=>simp[bU,ih]
def Ag(D:Nat->Prop)(θ θ':Th):Prop:=∀b,D b -> θ'.bV b = θ.bV b /\ θ'.off b = θ.off b /\ θ'.ext b = θ.ext b
def Ag.refl(D:Nat->Prop)(θ:Th):Ag D θ θ:=λ _ _=>⟨rfl,rfl,rfl⟩
def Ag.trans{D D':Nat->Prop}{θ θ' θ'':Th}(h:Ag D θ θ')(a:Ag D' θ' θ'')(c:∀b,D b->D' b):Ag D θ θ'':=λ b hb =>
 let⟨a1,a2,a3⟩:=h b hb;let⟨b1,b2,b3⟩:=a b (c b hb);⟨b1.trans a1,b2.trans a2,b3.trans a3⟩
def Ag.mono{D D':Nat->Prop}{θ θ':Th}(h:Ag D θ θ')(a:∀b,D' b->D b):Ag D' θ θ':=λ b hb=>h b (a b hb)
def VR(D:Nat->Prop)(θ:Th)(v:AV)(c:Value):Prop:=∀θ',Ag D θ θ'->az θ' v=c
def bL(D:Nat->Prop)(θ:Th)(l:List AV)(cs:List Value):Prop:=∀θ',Ag D θ θ'->bU θ' l=cs
section
variable{D D':Nat->Prop}{θ θ':Th}
def VR.now{v:AV}{c:Value}(h:VR D θ v c):az θ v=c:=h θ (Ag.refl D θ)
def bL.now{l:List AV}{cs:List Value}(h:bL D θ l cs):bU θ l=cs:=h θ (Ag.refl D θ)
def VR.up{v:AV}{c:Value}(h:VR D θ v c)(ha:Ag D θ θ')(d:∀b,D b->D' b):VR D' θ' v c:=λ θ'' a=>h θ'' (ha.trans a d)
def bL.up{l:List AV}{cs:List Value}(h:bL D θ l cs)(ha:Ag D θ θ')(c:∀b,D b->D' b):bL D' θ' l cs:=λ θ'' a=>h θ'' (ha.trans a c)
def bL.nil:bL D θ [] []:=λ _ _=>rfl
def bL.cons{v:AV}{c:Value}{l:List AV}{cs:List Value}(h:VR D θ v c)(hl:bL D θ l cs):bL D θ (v::l) (c::cs) :=
 λ θ' ha=>by simp[bU,h θ' ha,hl θ' ha]
def bL.eN{v:AV}{l:List AV}{cs:List Value}(h:bL D θ (v::l) cs):∃c cs',cs=c::cs'/\VR D θ v c/\bL D θ l cs':=by
 refine⟨az θ v,bU θ l,(by rw[<-h.now];rfl),λ θ' ha=>?_,λ θ' ha=>?_⟩
 .have:=(h θ' ha).trans h.now.symm;simp only[bU]at this;injection this
 .have:=(h θ' ha).trans h.now.symm;simp only[bU]at this;injection this
def bL.nA{cs:List Value}(h:bL D θ [] cs):cs=[]:=h.now.symm
def bL.length{l:List AV}{cs:List Value}(h:bL D θ l cs):cs.length=l.length:=by rw[<-h.now,vH];simp
def bL.app{l a:List AV}{cs cs':List Value}(h:bL D θ l cs)(b:bL D θ a cs'):bL D θ (l++a) (cs++cs'):=by
 intro θ' ha;rw[vH,HY,<-vH,<-vH,h θ' ha,b θ' ha]
def bL.qP{l:List AV}{cs:List Value}(h:bL D θ l cs){i:Nat}{v:AV}(b:l[i]? = some v):∃c,cs[i]? = some c/\VR D θ v c:=by
 refine⟨az θ v,?_,λ θ' ha=>?_⟩
 .rw [<-h.now,vH,xj,b];rfl
 .have:=(h θ' ha).trans h.now.symm;rw[vH,vH]at this;have a:=congrArg (λ l=>l[i]?) this;simp only[xj,b,ww,qe]at a;exact a
def bL.drop{l:List AV}{cs:List Value}(h:bL D θ l cs)(n:Nat):bL D θ (l.drop n) (cs.drop n):=by
 intro θ' ha;rw[vH,List.map_drop,<-vH,h θ' ha]
def bL.take{l:List AV}{cs:List Value}(h:bL D θ l cs)(n:Nat):bL D θ (l.take n) (cs.take n):=by
 intro θ' ha;rw[vH,List.map_take,<-vH,h θ' ha]
def bL.one{v:AV}{c:Value}(h:VR D θ v c):bL D θ [v] [c]:=.cons h .nil
def VR.agg{l:List AV}{cs:List Value}(h:bL D θ l cs):VR D θ (.agg l) (.agg cs.toArray):=λ θ' ha=>by simp[az,h θ' ha]
def VR.tuple{l:List AV}{cs:List Value}(h:bL D θ l cs):VR D θ (.tuple l) (.tuple cs.toArray):=λ θ' ha=>by simp[az,h θ' ha]
def VR.eW{l:List AV}{c:Value}(h:VR D θ (.agg l) c):∃cs:List Value,c=.agg cs.toArray/\bL D θ l cs:=by
 refine⟨bU θ l,h.now.symm,λ θ' ha=>?_⟩;have:=(h θ' ha).trans h.now.symm;simpa[az]using this
def VR.yO{l:List AV}{c:Value}(h:VR D θ (.tuple l) c):∃cs:List Value,c=.tuple cs.toArray/\bL D θ l cs:=by
 refine⟨bU θ l,h.now.symm,λ θ' ha=>?_⟩;have:=(h θ' ha).trans h.now.symm;simpa[az]using this
def VR.iface{t:Nat}{v:AV}{c:Value}(h:VR D θ v c):VR D θ (.iface t v) (.iface t c):=λ θ' ha=>by simp[az,h θ' ha]
def VR.lF{t:Nat}{v:AV}{c:Value}(h:VR D θ (.iface t v) c):∃a,c=.iface t a/\VR D θ v a:=by
 refine⟨az θ v,h.now.symm,λ θ' ha=>?_⟩;have:=(h θ' ha).trans h.now.symm;simpa[az]using this
def VR.undef:VR D θ .undef Go.undef:=λ _ _=>rfl
def VR.bool(b:Bool):VR D θ (.bool b) (.bool b):=λ _ _=>rfl
def VR.int(k:IntKind)(n:Int):VR D θ (.int k n) (.int k n):=λ _ _=>rfl
def VR.str(s:List UInt8):VR D θ (.str s) (.string ⟨s.toArray⟩):=λ _ _=>rfl
def VR.ptr{b o:Nat}(hb:D b):VR D θ (.ptr b o) (.pointer (some ⟨θ.bV b,θ.off b+o,none⟩)):=λ θ' ha=>by obtain⟨a,c,_⟩:=ha b hb;simp[az,a,c]
def VR.map{b:Nat}(hb:D b):VR D θ (.map b) (.map (some (θ.bV b))):=λ θ' ha=>by obtain⟨a,_,_⟩:=ha b hb;simp[az,a]
def VR.slice{b o n c:Nat}(hb:D b):VR D θ (.slice b o n c) (az θ (.slice b o n c)):=λ θ' ha=>by obtain⟨a,d,_⟩:=ha b hb;simp[az,a,d]
def VR.gslice{b i m s alt n:Nat}(hb:D b):VR D θ (.gslice b i m s alt n) (az θ (.gslice b i m s alt n)):=λ θ' ha=>by
 obtain⟨a,c,d⟩:=ha b hb;simp[az,a,c,d]
end
def SQ(fz cfz:Nat×Nat)(off size:Nat):Prop:=cfz.1=cfz.2\/(cfz.1<cfz.2/\off+fz.1<=cfz.1/\cfz.2<=off+fz.2)\/(fz.2<fz.1/\(size<=cfz.1\/cfz.2<=off))
def Yb(fz cfz:Nat×Nat):Prop:=cfz.1=cfz.2\/(cfz.1<cfz.2/\fz.1<=cfz.1/\cfz.2<=fz.2)
def own:bH->Bool
 | .row _ _ _ o=>o
 |_=>true
def pJ(D:Nat->Prop)(θ:Th)(tm:T AV)(a:Array Value):Prop:=∀t v,tm.get t=some v -> ∃c,a[t]? = some c/\VR D θ v c
def stR:mz->LoopState
 | .ready=>.ready| .busy=>.busy| .done=>.done| .exhausted=>.exhausted
def lT:gU->Code
 | .exit id=>.exit id
 | .goto l=>.goto l
 | .ret=>.ret
def NY(D:Nat->Prop)(θ:Th)(e:AV×AV×Nat)(m:MapEntry):Prop:=VR D θ e.1 m.key/\VR D θ e.2.1 m.val/\m.born=e.2.2
def dc(D:Nat->Prop)(θ:Th):List (AV×AV×Nat)->List MapEntry->Prop
 |[],[]=>True
 |e::es,m::ms=>NY D θ e m/\dc D θ es ms
 |_,_=>False
def uY(P:Program)(f k n:Nat)(params:Array Tmp)(assign body:Code):Prop :=
 ∃fn af lp ka kb L1 L2,P.funcs[f]? = some fn/\tE P fn=some af/\nth af.loops k=some lp/\lp.params=params.toList/\(∀p∈params.toList,p<fn.ntmps)/\fn.ntmps<=n /\
  bZ P fn.ntmps ka assign=some (lp.assign,L1)/\(∀i l,nth L1 i=some l->nth af.loops (ka+i)=some l) /\
  bZ P fn.ntmps kb body=some (lp.body,L2)/\(∀i l,nth L2 i=some l->nth af.loops (kb+i)=some l)
def Yj(D:Nat->Prop)(θ:Th):aM->Deferred->Prop
 | .iY b,d=>D b/\d = {target:=.collected (θ.bV b),args:=#[]}
 | .fn f args,d=>∃c cap:Array Value,d = {target:=.fn (fL θ f) cap,args:=c}/\(∀θ',Ag D θ θ'->fL θ' f=fL θ f)/\bL D θ args (c++cap).toList
def nU(P:Program)(D:Nat->Prop)(θ:Th)(b:Nat):bH->Obj->Prop
 | .row cells e fz ow,o=>∃pre cs post cfz e',o=.cells (pre++cs++post).toArray e' cfz/\pre.length = θ.off b/\bL D θ cells cs /\
  (ow=true->e'=e/\pre=[]/\post=[]/\Yb fz cfz)
 | .grown m size cells e fz,o=>∃pre cs post cfz,o=.cells (pre++cs++post).toArray e cfz/\pre.length = θ.off b/\bL D θ cells cs /\
  cells.length=m*size/\post.length = θ.ext b*size/\0<size/\m + θ.ext b<=maxLen/\SQ fz cfz (θ.off b) (pre.length+cs.length+post.length)
 | .map es clock,o=>∃ms:List MapEntry,o=.map ms.toArray clock/\dc D θ es ms
 | .lG s pos,o=>o=.stringIter ⟨s.toArray⟩ pos /\ θ.off b=0
 | .loop st pend f k tm d,o=>∃r:Loop,o=.loop r/\r.state=stR st/\r.pending=pend.map lT/\r.fn=f/\pJ D θ tm r.tmps/\uY P f k r.tmps.size r.params r.assign r.body /\
  D d/\r.defers = θ.bV d
 | .deferred calls,o=>∃ds,o=.deferred ds/\(match calls,ds with
  |none,none=>True
  |some l,some l'=>l=[]/\l'=[]
  |_,_=>False)
structure HR(P:Program)(base:Nat)(D:Nat->Prop)(θ:Th)(H:ar)(w:World):Prop where
 obj:∀b o,H.get b=some o->D b /\ ∃co,w.heap[θ.bV b]? = some co/\nU P D θ b o co
 inj:∀b b' o o',H.get b=some o->H.get b'=some o'->own o=true->b≠b' -> θ.bV b≠θ.bV b'
 lf:∀b o,H.get b=some o->own o=true->base <= θ.bV b
 d9:∀g,g<P.globals.size->D g /\ θ.bV g=g /\ θ.off g=0
 low:base<=w.heap.size
def Lt(n:Nat):Nat->Prop:=λ b=>b<n
end Go.Am
namespace Go.Am
def xD(k o i:Nat):(⟨k,o,none⟩:Addr).add i=⟨k,o+i,none⟩:=by unfold Addr.add;split<;>simp_all
def eX(w:World)(k:Nat)(o:Obj):World:={w with heap:=w.heap.setIfInBounds k o}
def SB(w:World)(k:Nat)(o:Obj):(eX w k o).heap.size=w.heap.size:=by simp[eX]
def KW(w:World)(k j:Nat)(o:Obj)(h:k<w.heap.size):(eX w k o).heap[j]? = if k=j then some o else w.heap[j]?:=by
 simp only[eX,vy];split<;>simp_all
def xli(w:World)(k:Nat)(o o':Obj):eX (eX w k o) k o'=eX w k o':=by
 simp[eX]
def xlh(w:World)(k:Nat)(o:Obj)(h:w.heap[k]? = some o):eX w k o=w:=by
 have:w.heap.setIfInBounds k o=w.heap:=by
  apply Array.ext_getElem?;intro j;rw[vy]
  by_cases a:k=j
  .subst a;obtain⟨hk,b⟩:=ye.1 h;simp[hk,b]
  .simp [a]
 simp only[eX,this]
def Ed(w:World)(o:Obj)(j:Nat):(w.alloc o).heap[j]? = if j=w.heap.size then some o else w.heap[j]?:=by
 simp only[World.alloc,Array.getElem?_push]
section
variable{P:Program}{w:World}{k:Nat}{arr:Array Value}{e:TypeId}{fz:Nat×Nat}
def Pp(h:w.heap[k]? = some (.cells arr e fz))(o:Nat):w.cell? ⟨k,o,none⟩=arr[o]?:=by simp[World.cell?,h]
def xk5(h:w.heap[k]? = some (.cells arr e fz)){o:Nat}{v:Value}(a:arr[o]? = some v):(load ⟨k,o,none⟩).run P w=.ok v w:=by
 rw[run_load,Pp h,a]
def Y5(h:w.heap[k]? = some (.cells arr e fz))(o n:Nat)(hn:n<=arr.size-o) :
 (loadCells ⟨k,o,none⟩ n).run P w=.ok ((arr.toList.drop o).take n).toArray w:=by
 have hl:((arr.toList.drop o).take n).length=n:=by simp;omega
 have:=run_loadCells_list (P:=P) w ⟨k,o,none⟩ ((arr.toList.drop o).take n) (λ j v a=>by
  rw[xD,Pp h];rw[yj]at a;split at a
  .simpa using a
  .cases a)
 rwa [hl]at this
def Sx(a:Nat):∀(vs:List Value)(i:Nat)(arr:Array Value)(w:World),w.heap[k]? = some (.cells arr e fz) ->
 a+i+vs.length<=arr.size->(∀j,j<vs.length -> ¬(fz.1<=a+i+j/\a+i+j<fz.2))->(∀v∈vs,v.oneCell'=true) ->
 (storeCells ⟨k,a,none⟩ vs i).run P w=.ok () (eX w k (.cells (arr.toList.take (a+i)++vs++arr.toList.drop (a+i+vs.length)).toArray e fz))
 |[],i,arr,w,hg,_,_,_=>by
  simp only[storeCells,zf,ym,vh,vg,Ov];rw[xlh w k _ hg];rfl
 |v::rest,i,arr,w,hg,hl,hf,h1=>by
  have m:a+i<arr.size:=by simp at hl;omega
  have hk:k<w.heap.size:=(ye.1 hg).1;have b:w.cell? ⟨k,a+i,none⟩=some arr[a+i]:=by rw[Pp hg];simp[m]
  have c:w.frozen? ⟨k,a+i,none⟩=false:=by
   have:=hf 0 (by simp);simp only[World.frozen?,hg];simp at this⊢;omega
  have d:w.setCell ⟨k,a+i,none⟩ v=eX w k (.cells (arr.setIfInBounds (a+i) v) e fz):=by
   simp only[World.setCell,eX];congr 1;apply Array.ext_getElem?;intro j;rw[Array.getElem?_modify,vy]
   by_cases f:k=j
   .subst f;have l:=(ye.1 hg).2;simp[hk,l]
   .simp [f]
  have g:(store ((⟨k,a,none⟩:Addr).add i) v).run P w=.ok () (eX w k (.cells (arr.setIfInBounds (a+i) v) e fz)):=by
   rw[xD,run_store P w _ v _ (h1 v (by simp)),b];simp[c,d]
  have o:=Sx a rest (i+1) (arr.setIfInBounds (a+i) v) (eX w k (.cells (arr.setIfInBounds (a+i) v) e fz))
   (by rw[KW _ _ _ _ hk];simp) (by simp at hl⊢;omega)
   (λ j f=>by have:=hf (j+1) (by simpa using f);rwa [show a+i+(j+1)=a+(i+1)+j from by omega]at this)
   (λ x n=>h1 x (by simp[n]))
  simp only[storeCells,Sem.run_bind,g,Result.andThen_ok,o,xli];congr 3;have h:=list_seg_step arr.toList (a+i) v rest (by simp at hl⊢;omega)
  simpa[Array.toList_setIfInBounds,vz]using h
end
def Up(D:Nat->Prop)(n m:Nat):Nat->Prop:=λ b=>D b\/(n<=b/\b<m)
def Up.of{D:Nat->Prop}{n m:Nat}:∀b,D b->Up D n m b:=λ _ h=>.inl h
def dW(D:Nat->Prop)(n m:Nat):Prop:=∀b,n<=b->b<m -> ¬D b
def Up.up{D:Nat->Prop}{n m k:Nat}(h:n<=m)(d:m<=k):Up (Up D n m) m k=Up D n k:=by
 funext b;simp only[Up,eq_iff_iff];constructor
 .rintro ((a|⟨a,c⟩)|⟨a,c⟩)
  .exact .inl a
  .exact .inr ⟨a,by omega⟩
  .exact .inr ⟨by omega,c⟩
 .rintro (a|⟨a,c⟩)
  .exact .inl (.inl a)
  .by_cases hb:b<m
   .exact .inl (.inr ⟨a,hb⟩)
   .exact .inr ⟨by omega,c⟩
def Up.none{D:Nat->Prop}{n:Nat}:Up D n n=D:=by
 funext b;simp only[Up,eq_iff_iff];constructor
 .rintro (h|⟨a,c⟩)
  .exact h
  .omega
 .exact .inl
def dW.left{D:Nat->Prop}{n m k:Nat}(h:dW D n k)(hk:m<=k):dW D n m:=λ b a c=>h b a (by omega)
def dW.right{D:Nat->Prop}{n m k:Nat}(h:dW D n k)(hm:n<=m):dW (Up D n m) m k:=λ b d c a=>by
 rcases a with a|⟨_,f⟩
 .exact h b (by omega) c a
 .omega
structure bB(D:Nat->Prop)(H:ar)(θ:Th)(w:World)(H':ar)(θ':Th)(w':World):Prop where
 au:H.au<=H'.au
 ag:Ag D θ θ'
 size:w.heap.size<=w'.heap.size
 os:w'.os=w.os
 tape:w'.tape=w.tape
 output:w'.output=w.output
 ah:∀k,k<w.heap.size->(∀b o,H.get b=some o->own o=true -> θ.bV b≠k)->w'.heap[k]? = w.heap[k]?
 news:∀b o,H'.get b=some o->own o=true -> θ'.bV b<w.heap.size -> ∃b' o',H.get b'=some o'/\own o'=true /\ θ.bV b' = θ'.bV b
def bB.refl(D:Nat->Prop)(H:ar)(θ:Th)(w:World):bB D H θ w H θ w :=
 ⟨qg _,Ag.refl _ _,qg _,rfl,rfl,rfl,λ _ _ _=>rfl,λ b o h ho _=>⟨b,o,h,ho,rfl⟩⟩
def bB.trans{D D':Nat->Prop}{H H' c:ar}{θ θ' θ'':Th}{w w' f:World}(a:bB D H θ w H' θ' w')(b:bB D' H' θ' w' c θ'' f)(s:∀b,D b->D' b):bB D H θ w c θ'' f:=by
 refine⟨xv a.au b.au,a.ag.trans b.ag s,xv a.size b.size,b.os.trans a.os,b.tape.trans a.tape,b.output.trans a.output,?_,?_⟩
 .intro k hk d;refine(b.ah k (qj hk a.size) ?_).trans (a.ah k hk d);intro x o m ho he;obtain⟨g,o',i,j,r⟩:=a.news x o m ho (by omega);exact d g o' i j (by omega)
 .intro x o m ho l;obtain⟨g,o',i,j,r⟩:=b.news x o m ho (qj l a.size);obtain⟨h,n,p,q,t⟩:=a.news g o' i j (by omega);exact⟨h,n,p,q,by omega⟩
def bB.draw{D:Nat->Prop}{H:ar}{θ:Th}{w w':World}(a:w'.heap=w.heap)(ho:w'.os=w.os)(c:w'.tape=w.tape)(hp:w'.output=w.output):bB D H θ w H θ w' :=
 ⟨qg _,Ag.refl _ _,by rw[a];exact qg _,ho,c,hp,λ _ _ _=>by rw[a],λ b o h hw _=>⟨b,o,h,hw,rfl⟩⟩
def HR.draw{P:Program}{base:Nat}{D:Nat->Prop}{θ:Th}{H:ar}{w w':World}(h:HR P base D θ H w)(a:w'.heap=w.heap):HR P base D θ H w' :=
 ⟨λ b o hb=>by rw[a];exact h.obj b o hb,h.inj,h.lf,h.d9,by rw[a];exact h.low⟩
def dc.up{D D':Nat->Prop}{θ θ':Th}(ha:Ag D θ θ')(a:∀b,D b->D' b):∀(es:List (AV×AV×Nat))(ms:List MapEntry),dc D θ es ms->dc D' θ' es ms
 |[],[],_=>trivial
 |e::es,m::ms,⟨⟨h1,h2,h3⟩,h⟩=>⟨⟨h1.up ha a,h2.up ha a,h3⟩,dc.up ha a es ms h⟩
 |[],_::_,h=>h.elim
 |_::_,[],h=>h.elim
def nU.up{P:Program}{D D':Nat->Prop}{θ θ':Th}{b:Nat}{o:bH}{co:Obj}(h:nU P D θ b o co)(hb:D b)(ha:Ag D θ θ')(n:∀b,D b->D' b):nU P D' θ' b o co:=by
 obtain⟨C,p,z⟩:=ha b hb;cases o with
 |row cells e fz ow =>
  obtain⟨pre,cs,post,a,A,g,i,j,l⟩:=h;exact⟨pre,cs,post,a,A,g,by rw[p];exact i,j.up ha n,l⟩
 |grown m size cells e fz =>
  obtain⟨pre,cs,post,a,g,i,j,l,u,x,q,y⟩:=h;exact⟨pre,cs,post,a,g,by rw[p];exact i,j.up ha n,l,by rw[z];exact u,x,by rw[z];exact q,by rw[p];exact y⟩
 |map es clock =>
  obtain⟨ms,g,i⟩:=h;exact⟨ms,g,dc.up ha n _ _ i⟩
 |lG s pos=>exact⟨h.1,p.trans h.2⟩
 |loop st pend f k tm d =>
  obtain⟨r,g,i,j,l,u,x,q,y⟩:=h;exact⟨r,g,i,j,l,λ t v B=>let⟨c,hc,hr⟩:=u t v B;⟨c,hc,hr.up ha n⟩,x,n d q,by rw[(ha d q).1];exact y⟩
 |deferred calls=>exact h
def HR.up{P:Program}{base:Nat}{D D':Nat->Prop}{θ:Th}{H:ar}{w:World}(h:HR P base D θ H w)(a:∀b,D b->D' b):HR P base D' θ H w :=
 ⟨λ b o hb=>let⟨h1,co,h2,h3⟩:=h.obj b o hb;⟨a b h1,co,h2,h3.up h1 (Ag.refl _ _) a⟩,h.inj,h.lf,λ g hg=>⟨a g (h.d9 g hg).1,(h.d9 g hg).2⟩,h.low⟩
section
variable{P:Program}{base:Nat}{D:Nat->Prop}{θ:Th}{H:ar}{w:World}
def HR.lt(h:HR P base D θ H w){b:Nat}{o:bH}(hb:H.get b=some o):θ.bV b<w.heap.size:=by
 obtain⟨_,co,a,_⟩:=h.obj b o hb;exact(ye.1 a).1
def ar.aI(H:ar)(b a:Nat)(o:bH):(H.set b o).get a=if b=a then some o else H.get a:=T.aI _ _ _ _
def ar.bJ(H:ar)(a:Nat)(o:bH):(H.alloc o).get a=if H.au=a then some o else H.get a:=T.aI _ _ _ _
def ar.pU(H:ar)(b a:Nat):(H.kill b).get a=if b=a then none else H.get a:=T.jP _ _ _ _
def HR.set(h:HR P base D θ H w){b:Nat}{o o':bH}{co':Obj}(hb:H.get b=some o)(ho:own o=true)(p:own o'=true)(hr:nU P D θ b o' co') :
 HR P base D θ (H.set b o') (eX w (θ.bV b) co'):=by
 have g:=h.lt hb;refine⟨λ x f a=>?_,λ x y f j a i d c=>?_,λ x f a d=>?_,h.d9,by rw[SB];exact h.low⟩
 .rw [ar.aI]at a
  by_cases e:b=x
  .subst e;simp only[rj,qe]at a;subst a;exact⟨(h.obj b o hb).1,co',by rw[KW _ _ _ _ g];simp,hr⟩
  .simp only[e,nS]at a;obtain⟨l,co,m,n⟩:=h.obj x f a;exact⟨l,co,by rw[KW _ _ _ _ g,qo (h.inj b x o f hb a ho e)];exact m,n⟩
 .rw [ar.aI]at a i
  by_cases e:b=x<;>by_cases e':b=y
  .exact absurd (e.symm.trans e') c
  .subst e;simp only[e',nS]at i;exact h.inj b y o j hb i ho c
  .subst e';simp only[e,nS]at a;exact h.inj x b f o a hb d c
  .simp only[e,e',nS]at a i;exact h.inj x y f j a i d c
 .rw [ar.aI]at a
  by_cases e:b=x
  .subst e;exact h.lf b o hb ho
  .simp only[e,nS]at a;exact h.lf x f a d
def bB.set{b:Nat}{o o':bH}{co':Obj}(hb:H.get b=some o)(ho:own o=true)(a:θ.bV b<w.heap.size) :
 bB D H θ w (H.set b o') θ (eX w (θ.bV b) co'):=by
 refine⟨qg _,Ag.refl _ _,by rw[SB];exact qg _,rfl,rfl,rfl,λ k hk c=>?_,λ x g f d _=>?_⟩
 .rw [KW _ _ _ _ a,qo (c b o hb ho)]
 .rw [ar.aI]at f
  by_cases e:b=x
  .subst e;exact⟨b,o,hb,ho,rfl⟩
  .simp only[e,nS]at f;exact⟨x,g,f,d,rfl⟩
def Th.add(θ:Th)(n bV off ext:Nat):Th:={bV:=λ b=>if b=n then bV else θ.bV b,off:=λ b=>if b=n then off else θ.off b,ext:=λ b=>if b=n then ext else θ.ext b}
def Th.eE(θ:Th)(n bV off ext:Nat):(θ.add n bV off ext).bV n=bV/\(θ.add n bV off ext).off n=off/\(θ.add n bV off ext).ext n=ext:=by simp[Th.add]
def Th.gM(θ:Th)(n bV off ext:Nat){D:Nat->Prop}(hn:¬D n):Ag D θ (θ.add n bV off ext):=λ b hb=>by
 have:b≠n:=λ e=>hn (e▸hb);simp[Th.add,this]
end
section
variable{P:Program}{base:Nat}{D:Nat->Prop}{θ:Th}{H:ar}{w:World}
def HR.alloc(h:HR P base D θ H w)(hn:¬D H.au){o:bH}{co:Obj}{k off ext:Nat}{w':World}(hk:w'.heap[k]? = some co)(f:∀j,j<w.heap.size->w'.heap[j]? = w.heap[j]?)(v:w.heap.size<=k)
 (hs:w.heap.size<=w'.heap.size) (hr:nU P (Up D H.au (H.au+1)) (θ.add H.au k off ext) H.au o co) :
 HR P base (Up D H.au (H.au+1)) (θ.add H.au k off ext) (H.alloc o) w':=by
 have d:=Th.gM θ H.au k off ext hn
 obtain⟨p,z,A⟩:=Th.eE θ H.au k off ext
 have old:∀x b,H.get x=some b->(θ.add H.au k off ext).bV x = θ.bV x:=λ x b a=>(d x (h.obj x b a).1).1;refine⟨λ x b a=>?_,λ x y b s a l i n=>?_,λ x b a i=>?_,λ g hg=>?_,by have:=h.low;omega⟩
 .rw [ar.bJ]at a
  by_cases e:H.au=x
  .subst e;simp only[rj,qe]at a;subst a;exact⟨.inr ⟨qg _,zp _⟩,co,by rw[p];exact hk,hr⟩
  .simp only[e,nS]at a;obtain⟨m,c,q,r⟩:=h.obj x b a;refine⟨.inl m,c,?_,r.up m d Up.of⟩;rw[old x b a,f _ (h.lt a)];exact q
 .rw [ar.bJ]at a l
  by_cases e:H.au=x<;>by_cases e':H.au=y
  .exact absurd (e.symm.trans e') n
  .subst e;simp only[e',nS]at l;rw[p,old y s l];have:=h.lt l;omega
  .subst e';simp only[e,nS]at a;rw[p,old x b a];have:=h.lt a;omega
  .simp only[e,e',nS]at a l;rw[old x b a,old y s l];exact h.inj x y b s a l i n
 .rw [ar.bJ]at a
  by_cases e:H.au=x
  .subst e;rw[p];have:=h.low;omega
  .simp only[e,nS]at a;rw[old x b a];exact h.lf x b a i
 .obtain ⟨m,q,r⟩:=h.d9 g hg;obtain⟨t,u,_⟩:=d g m;exact⟨.inl m,t.trans q,u.trans r⟩
def bB.alloc(h:HR P base D θ H w)(hn:¬D H.au)(o:bH)(co:Obj)(off ext:Nat):bB D H θ w (H.alloc o) (θ.add H.au w.heap.size off ext) (w.alloc co):=by
 have a:=Th.gM θ H.au w.heap.size off ext hn
 obtain⟨g,i,j⟩:=Th.eE θ H.au w.heap.size off ext
 refine⟨yd _,a,by simp,rfl,rfl,rfl,λ k hk _=>?_,λ x f b d c=>?_⟩
 .rw [Ed,qo (Lb hk)]
 .rw [ar.bJ]at b
  by_cases e:H.au=x
  .subst e;rw[g]at c;omega
  .simp only[e,nS]at b;have:=(a x (h.obj x f b).1).1;exact⟨x,f,b,d,this.symm⟩
end
section
variable{P:Program}{base:Nat}{D:Nat->Prop}{θ:Th}{H:ar}{w:World}
def HR.cells(h:HR P base D θ H w){b:Nat}{l:List AV}(hb:H.bT b=some l) :
 ∃pre cs post e fz,w.heap[θ.bV b]? = some (.cells (pre++cs++post).toArray e fz)/\pre.length = θ.off b/\bL D θ l cs:=by
 unfold ar.bT at hb;cases hg:H.get b with
 |none=>rw[hg]at hb;cases hb
 |some o =>
  rw[hg]at hb;obtain⟨_,co,g,hr⟩:=h.obj b o hg;cases o with
  |row cells e fz ow =>
   obtain⟨pre,cs,post,a,i,c,d,f,_⟩:=hr;injection hb with hb;subst hb
   exact⟨pre,cs,post,i,a,by rw[g,c],d,f⟩
  |grown m size cells e fz =>
   obtain⟨pre,cs,post,a,c,d,f,_⟩:=hr;injection hb with hb;subst hb
   exact⟨pre,cs,post,e,a,by rw[g,c],d,f⟩
  |map _ _=>cases hb
  |lG _ _=>cases hb
  |loop _ _ _ _ _ _=>cases hb
  |deferred _=>cases hb
def Gf(pre cs post:List Value)(o:Nat){c:Value}(h:cs[o]? = some c):(pre++cs++post).toArray[pre.length+o]? = some c:=by
 have a:=(qk.1 h).1;simp only[List.getElem?_toArray,zm];rw[zh (by omega),show pre.length+o-pre.length=o from by omega,je a];exact h
def p6(pre cs post:List Value)(o n:Nat)(h:n<=cs.length-o):(((pre++cs++post).toArray.toList.drop (pre.length+o)).take n)=(cs.drop o).take n:=by
 simp only[zm];rw[AQ,show pre.length+o-pre.length=o from by omega,List.drop_of_length_le (l:=pre) (by omega),zx,AQ]
 by_cases ho:o<=cs.length
 .rw [LZ,show n-(cs.drop o).length=0 from by simp;omega];simp
 .have:n=0:=by omega
  subst this;simp
def HR.ae(h:HR P base D θ H w){b o:Nat}{v:AV}(hl:H.ae b o=some v) :
 ∃c,(load ⟨θ.bV b,θ.off b+o,none⟩).run P w=.ok c w/\VR D θ v c:=by
 unfold ar.ae at hl;cases a:H.bT b with
 |none=>rw[a]at hl;cases hl
 |some l =>
  rw[a]at hl;obtain⟨pre,cs,post,e,fz,g,i,j⟩:=h.cells a;simp only[qm,lS]at hl;obtain⟨c,d,f⟩:=j.qP hl;exact⟨c,xk5 g (by rw[<-i];exact Gf pre cs post o d),f⟩
def HR.aq(h:HR P base D θ H w){b o n:Nat}{l:List AV}(hl:H.aq b o n=some l) :
 ∃cs:List Value,(loadCells ⟨θ.bV b,θ.off b+o,none⟩ n).run P w=.ok cs.toArray w/\bL D θ l cs/\l.length=n:=by
 unfold ar.aq at hl;cases a:H.bT b with
 |none=>rw[a]at hl;cases hl
 |some l0 =>
  rw[a]at hl;obtain⟨pre,cs,post,e,fz,d,f,c⟩:=h.cells a;simp only[qm,u9]at hl;split at hl
  .rename_i hn;injection hl with hl;subst hl
   have hlen:=c.length;refine⟨(cs.drop o).take n,?_,(c.drop o).take n,by simp;omega⟩;rw[<-f,Y5 d (pre.length+o) n (by simp;omega),p6 pre cs post o n (by omega)]
  .cases hl
def xbc{v:AV}{c:Value}(h:VR D θ v c)(a:av v=true):c.oneCell'=true:=by
 rw[<-h.now];cases v<;>simp_all[av,az,Value.oneCell']
def yn(l:List AV):aJ l=l.all av:=by
 induction l with
 |nil=>rfl
 |cons x l ih =>
  show cond (av x) (aJ l) false=_;rw[ih];cases h:av x<;>simp[h]
def q17{l:List AV}{cs:List Value}(h:bL D θ l cs)(d:aJ l=true):∀c∈cs,c.oneCell'=true:=by
 intro c j;obtain⟨i,f⟩:=JI j;rw[yn,wz]at d;have a:i<l.length:=by rw[<-h.length];exact(qk.1 f).1
 obtain⟨m,b,g⟩:=h.qP (qt a);rw[f]at b;injection b with b;subst b
 exact xbc g (d _ (List.getElem_mem a))
end
end Go.Am
namespace Go.Am
def rI(P:Program)(s:Sem Next)(w:World)(c:Value)(w':World):Prop:=s.run P w=.ok (.value c) w'\/(s.run P w=.ok .skip w'/\c=Go.undef)
def dh(P:Program)(o:Oper)(xs:List Operand)(f:List AV->Option AV):Prop :=
 ∀(D:Nat->Prop)θ(ρ:Operand->Value)w vs v,bL D θ vs (xs.map ρ)->f vs=some v -> ∃c,rI P (execOp ρ o) w c w/\VR D θ v c
section
variable{P:Program}{w:World}
def j8{t:TypeId}{d:TypeDesc}(h:P.underlying t=some d):(underlying t).run P w=.ok d w:=run_underlying h w
def tX{t:TypeId}{n:Nat}(h:bQ P t=some n):(sizeOf t).run P w=.ok n w:=by
 unfold bQ at h;cases a:P.info? t with
 |none=>rw[a]at h;cases h
 |some i=>rw[a]at h;injection h with h;subst h;simp[sizeOf,typeInfo,a]
def uK{t:TypeId}{n:Nat}(h:bQ P t=some n):∃i,P.info? t=some i/\i.size=n:=by
 unfold bQ at h;cases a:P.info? t with
 |none=>rw[a]at h;cases h
 |some i=>rw[a]at h;injection h with h;exact⟨i,rfl,h⟩
def RZ{t:TypeId}{n:Option Nat}(h:mX P t=some n):(isAgg t).run P w=.ok n.isSome w /\ ∀k,n=some k->(sizeOf t).run P w=.ok k w:=by
 unfold mX at h;cases hu:P.underlying t with
 |none=>rw[hu]at h;cases h
 |some d =>
  rw[hu]at h;cases d
  case struct fs =>
   simp only at h;cases hs:bQ P t with
   |none=>rw[hs]at h;cases h
   |some m =>
    rw[hs]at h;injection h with h;subst h
    exact⟨by simp[isAgg,j8 hu],λ k hk=>by injection hk with hk;subst hk;exact tX hs⟩
  case array m e =>
   simp only at h;cases hs:bQ P t with
   |none=>rw[hs]at h;cases h
   |some m =>
    rw[hs]at h;injection h with h;subst h
    exact⟨by simp[isAgg,j8 hu],λ k hk=>by injection hk with hk;subst hk;exact tX hs⟩
  all_goals
   (injection h with h;subst h
    exact⟨by simp[isAgg,j8 hu],λ k hk=>by cases hk⟩)
mutual
def Yr(θ:Th):∀(c:Value)(v:AV),fO c=some v->az θ v=c
 | .bool b,v,h=>by simp[fO]at h;subst h;rfl
 | .int k n,v,h=>by simp[fO]at h;subst h;rfl
 | .string s,v,h=>by simp[fO]at h;subst h;simp[az]
 | .pointer none,v,h=>by simp[fO]at h;subst h;rfl
 | .pointer (some a),v,h=>by simp[fO]at h
 | .slice none 0 0,v,h=>by simp[fO]at h;subst h;rfl
 | .slice none 0 (n+1),v,h=>by simp[fO]at h
 | .slice none (n+1) c,v,h=>by simp[fO]at h
 | .slice (some a) n c,v,h=>by simp[fO]at h
 | .map none,v,h=>by simp[fO]at h;subst h;rfl
 | .map (some r),v,h=>by simp[fO]at h
 | .nilFunc,v,h=>by simp[fO]at h;subst h;rfl
 | .nilIface,v,h=>by simp[fO]at h;subst h;rfl
 | .iface t x,v,h=>by
  simp only[fO]at h;cases d:fO x with
  |none=>rw[d]at h;cases h
  |some y=>rw[d]at h;injection h with h;subst h;simp[az,Yr θ x y d]
 | .agg cs,v,h=>by
  simp only[fO]at h;cases d:nE cs.toList with
  |none=>rw[d]at h;cases h
  |some l=>rw[d]at h;injection h with h;subst h;simp[az,UR θ cs.toList l d]
 | .tuple cs,v,h=>by
  simp only[fO]at h;cases d:nE cs.toList with
  |none=>rw[d]at h;cases h
  |some l=>rw[d]at h;injection h with h;subst h;simp[az,UR θ cs.toList l d]
 | .float _ _,v,h=>by simp[fO]at h
 | .complex _ _ _,v,h=>by simp[fO]at h
 | .chan _,v,h=>by simp[fO]at h
 | .func _ _ _,v,h=>by simp[fO]at h
def UR(θ:Th):∀(cs:List Value)(l:List AV),nE cs=some l->bU θ l=cs
 |[],l,h=>by simp[nE]at h;subst h;rfl
 |c::cs,l,h=>by
  simp only[nE]at h;cases a:fO c with
  |none=>rw[a]at h;cases h
  |some y =>
   rw[a]at h;simp only[qm]at h;cases b:nE cs with
   |none=>rw[b]at h;cases h
   |some ys=>rw[b]at h;injection h with h;subst h;simp[bU,Yr θ c y a,UR θ cs ys b]
end
def SE{D:Nat->Prop}{θ:Th}{c:Value}{v:AV}(h:fO c=some v):VR D θ v c:=λ θ' _=>Yr θ' c v h
def Kc{t:TypeId}{z:AV}(h:zeroOf P t=some z):∃c,(zeroValue t).run P w=.ok c w /\ ∀D θ,VR D θ z c:=by
 unfold zeroOf at h;cases a:P.info? t with
 |none=>rw[a]at h;cases h
 |some i =>
  rw[a]at h;simp only[qm]at h;cases b:i.zero with
  |none=>rw[b]at h;cases h
  |some c=>rw[b]at h;exact⟨c,by simp[zeroValue,typeInfo,a,b],λ D θ=>SE h⟩
end
section
variable{D:Nat->Prop}{θ:Th}
def VR.cells{v:AV}{c:Value}(h:VR D θ v c):bL D θ v.cells c.cells.toList:=by
 intro θ' ha;have a:=h θ' ha;subst a;cases v<;>simp[AV.cells,az,Value.cells,bU]
end
section
variable{P:Program}{D:Nat->Prop}{θ:Th}{ρ:Operand->Value}{w:World}
def bL.iA{x:Operand}{vs:List AV}(h:bL D θ vs ([x].map ρ)):∃v,vs=[v]/\VR D θ v (ρ x):=by
 cases vs with
 |nil=>have:=h.length;simp at this
 |cons v vs =>
  obtain⟨c,cs,a,b,d⟩:=h.eN;simp only[jk,Ey,zk]at a;obtain⟨rfl,rfl⟩:=a;have:=d.length;cases vs with
  |nil=>exact⟨v,rfl,b⟩
  |cons _ _=>simp at this
def bL.sG{x y:Operand}{vs:List AV}(h:bL D θ vs ([x,y].map ρ)):∃a b,vs=[a,b]/\VR D θ a (ρ x)/\VR D θ b (ρ y):=by
 cases vs with
 |nil=>have:=h.length;simp at this
 |cons v vs =>
  obtain⟨c,cs,d,f,g⟩:=h.eN;simp only[jk,Ey,zk]at d;obtain⟨rfl,rfl⟩:=d;obtain⟨b,rfl,hb⟩:=bL.iA (ρ:=ρ) (x:=y) g;exact⟨v,b,rfl,f,hb⟩
def bL.sA{x y z:Operand}{vs:List AV}(h:bL D θ vs ([x,y,z].map ρ)):∃a b c,vs=[a,b,c]/\VR D θ a (ρ x)/\VR D θ b (ρ y)/\VR D θ c (ρ z):=by
 cases vs with
 |nil=>have:=h.length;simp at this
 |cons v vs =>
  obtain⟨c,cs,d,f,g⟩:=h.eN;simp only[jk,Ey,zk]at d;obtain⟨rfl,rfl⟩:=d;obtain⟨a,b,rfl,ha,hb⟩:=bL.sG (ρ:=ρ) (x:=y) (y:=z) g;exact⟨v,a,b,rfl,f,ha,hb⟩
def Z9{o:Oper}{x:Operand}(ho:o.op=.move x\/o.op=.assign x):dh P o [x] Op.move:=by
 intro D θ ρ w vs v h b;obtain⟨a,rfl,ha⟩:=bL.iA h;simp only[Op.move,qe]at b;subst b;refine⟨ρ x,.inl ?_,ha⟩;rcases ho with ho|ho<;>simp[execOp,ho]
def xkt{o:Oper}{c a b:Operand}(ho:o.op=.pick c a b):dh P o [c,a,b] Op.pick:=by
 intro D θ ρ w vs v h d;obtain⟨q,x,y,rfl,l,m,n⟩:=bL.sA h;unfold Op.pick at d;split at d
 .rename_i i p r heq;injection heq with j f;subst j;injection f with f g;subst f;injection g with g _;subst g
  injection d with d;subst d
  have hb:ρ c=.bool i:=l.now.symm;cases i
  .exact ⟨ρ b,.inl (by simp[execOp,ho,hb,asBool]),n⟩
  .exact ⟨ρ a,.inl (by simp[execOp,ho,hb,asBool]),m⟩
 .cases d
def FG{o:Oper}{op:UnOp}{t:TypeId}{x:Operand}(ho:o.op=.unOp op t x):dh P o [x] (Op.un op):=by
 intro D θ ρ w vs v h b;obtain⟨a,rfl,ha⟩:=bL.iA h;simp only[Op.un,Zu]at b;have hr:=ha.now;split at b
 .rename_i k n;injection b with b;subst b
  exact⟨_,.inl (by simp[execOp,ho,<-hr,az,Go.Op.unary,Go.Op.intArith]<;>rfl),.int _ _⟩
 .rename_i k n;simp only[gq]at b;injection b with b;subst b
  exact⟨_,.inl (by simp[execOp,ho,<-hr,az,Go.Op.unary,Go.Op.intBits]<;>rfl),.int _ _⟩
 .injection b with b;subst b
  exact⟨_,.inl (by simp[execOp,ho,<-hr,az,Go.Op.unary]),.bool _⟩
 .cases b
def xku{o:Oper}{src dst:TypeId}{x:Operand}{k j:IntKind}(ho:o.op=.convert src dst x)(c:P.underlying src=some (.int j))(d:P.underlying dst=some (.int k)):dh P o [x] (Op.wrap k):=by
 intro D θ ρ w vs v h b;obtain⟨a,rfl,ha⟩:=bL.iA h;have hr:=ha.now;unfold Op.wrap at b;split at b
 .rename_i k' n heq;injection heq with heq;subst heq
  injection b with b;subst b
  exact⟨_,.inl (by simp[execOp,ho,<-hr,az,convert,j8 c,j8 d,Conv.intToInt]<;>rfl),.int _ _⟩
 .cases b
def xbj{o:Oper}{t:TypeId}{x:Operand}(ho:o.op=.makeInterface t x)(g:∃d,P.underlying t=some d/\(match d with| .interface _=>false|_=>true)=true):dh P o [x] (Op.dp t):=by
 intro D θ ρ w vs v h b;obtain⟨a,rfl,ha⟩:=bL.iA h;simp only[Op.dp,qe]at b;subst b;obtain⟨d,c,f⟩:=g;refine⟨.iface t (ρ x),.inl ?_,ha.iface⟩;cases d<;>simp_all[execOp,Instr.makeInterface,j8 c]
def xdn{o:Oper}{f:FuncId}{a b:Array Operand}(ho:o.op=.makeFunc (.func f) a b):dh P o (a.toList++b.toList) (Op.bC f a.size):=by
 intro D θ ρ w vs v h c;simp only[Op.bC,qe]at c;subst c;refine⟨.func (.func f) (a.map ρ) (b.map ρ),.inl (by simp[execOp,ho,Instr.makeFunc]),λ θ' hg=>?_⟩;have d:=(h.take a.size) θ' hg;have g:=(h.drop a.size) θ' hg;simp only[az,fL,d,g];congr 1
 .rw [HY,j0 (by simp)];apply Fk;simp[zg]
 .rw [HY,yq (by simp)];apply Fk;simp[List.drop_of_length_le]
def xbh{o:Oper}{x:Operand}{i:Nat}(ho:o.op=.extract x i):dh P o [x] (Op.extract i):=by
 intro D θ ρ w vs v h b;obtain⟨a,rfl,ha⟩:=bL.iA h;unfold Op.extract at b;split at b
 .rename_i l heq;injection heq with heq;subst heq
  obtain⟨cs,g,hl⟩:=ha.yO;rw[lS]at b;obtain⟨c,d,f⟩:=hl.qP b;exact⟨c,.inl (by simp[execOp,ho,g,Instr.extract,d]),f⟩
 .cases b
def Nj{o:Oper}{c:Call}{b:Builtin}(ho:o.op=.call c)(a:c.callee=.builtin b) :
 ∃consts,execOp ρ o=builtin b c.argTypes o.type consts (c.args.map ρ):=by
 refine⟨c.args.map λ| .const _=>true|_=>false,?_⟩;simp only[execOp,ho,resolve,a,invoke];rfl
def DB{c:Call}{xs:List Operand}(a:c.args.toList=xs):c.args.map ρ = (xs.map ρ).toArray:=by
 subst a;apply Fk;simp
def bL.pI{xs:List Operand}{a:AV}(h:bL D θ [a] (xs.map ρ)):∃x,xs=[x]/\VR D θ a (ρ x):=by
 have:=h.length
 match xs,this,h with
 |[x],_,h=>obtain⟨_,heq,ha⟩:=bL.iA h;injection heq with heq _;subst heq;exact⟨x,rfl,ha⟩
def bL.p5{xs:List Operand}{a b:AV}(h:bL D θ [a,b] (xs.map ρ)):∃x y,xs=[x,y]/\VR D θ a (ρ x)/\VR D θ b (ρ y):=by
 have:=h.length
 match xs,this,h with
 |[x,y],_,h =>
  obtain⟨_,_,heq,ha,hb⟩:=bL.sG h;injection heq with d c;injection c with c _;subst d;subst c;exact⟨x,y,rfl,ha,hb⟩
def Kj(s:List UInt8):(⟨s.toArray⟩:ByteArray).size=s.length:=by simp[ByteArray.size]
def xhc{o:Oper}{c:Call}{xs:List Operand}{t e:TypeId}(ho:o.op=.call c)(f:c.callee=.builtin .len)(d:c.args.toList=xs)(b:c.argTypes[0]? = some t)
 (hu:P.underlying t=some (.slice e)):dh P o xs Op.db:=by
 intro D θ ρ w vs v h a;obtain⟨consts,he⟩:=Nj (ρ:=ρ) ho f;unfold Op.db at a;split at a
 .obtain ⟨x,rfl,ha⟩:=h.pI;injection a with a;subst a
  refine⟨_,.inl ?_,.int _ _⟩;rw[he,DB d];simp[builtin,Builtin.len_,j8 hu,b,<-ha.now,az,goInt]<;>rfl
 .obtain ⟨x,rfl,ha⟩:=h.pI;injection a with a;subst a
  refine⟨_,.inl ?_,.int _ _⟩;rw[he,DB d];simp[builtin,Builtin.len_,j8 hu,b,<-ha.now,az,goInt]<;>rfl
 .obtain ⟨x,rfl,ha⟩:=h.pI;injection a with a;subst a
  refine⟨_,.inl ?_,.int _ _⟩;rw[he,DB d];simp[builtin,Builtin.len_,j8 hu,b,<-ha.now,az,goInt]<;>rfl
 .obtain ⟨x,rfl,ha⟩:=h.pI;injection a with a;subst a
  refine⟨_,.inl ?_,.int _ _⟩;rw[he,DB d];simp[builtin,Builtin.len_,j8 hu,b,<-ha.now,az,goInt]<;>rfl
 .cases a
def xgm{op:BinOp}{k:IntKind}{a b:Int}{v:AV}(hs:dT op=false)(h:gq op k a b=some v)(t:TypeId) :
 ∃c,(binOp op t (.int k a) (.int k b)).run P w=.ok c w/\VR D θ v c:=by
 cases op<;>simp only[gq,dT,qe,C9,Nb,FI,Bool.true_eq_false]at h hs
 case quo =>
  cases hb:(b == 0)<;>rw[hb]at h<;>simp at h;subst h;exact⟨_,by simp[binOp,Go.Op.intDiv,by simpa using hb]<;>rfl,.int _ _⟩
 case rem =>
  cases hb:(b == 0)<;>rw[hb]at h<;>simp at h;subst h;exact⟨_,by simp[binOp,Go.Op.intDiv,by simpa using hb]<;>rfl,.int _ _⟩
 all_goals
  subst h
  first|refine⟨_,?_,VR.int _ _⟩|refine⟨_,?_,VR.bool _⟩
  simp only[binOp,ne_eq,not_true_eq_false,nS,Go.Op.intBits,Go.Op.intArith,Go.Op.intCmp];rfl
def q92(a b:List UInt8):bytesLess a b=Go.Op.bytesLess a b:=by
 induction a generalizing b with
 |nil=>cases b<;>rfl
 |cons x a ih=>cases b with
  |nil=>rfl
  |cons y b =>
   simp only[bytesLess,Go.Op.bytesLess,ih,Xj];congr 1;rw[Bool.eq_iff_iff];simp[UInt8.lt_iff_toNat_lt]
def ZW(s:List UInt8):(⟨s.toArray⟩:ByteArray).toList=s:=by rw[ByteArray.toList_eq]
def xhv{op:BinOp}{a b:List UInt8}{v:AV}(h:qM op a b=some v)(t:TypeId) :
 ∃c,(binOp op t (.string ⟨a.toArray⟩) (.string ⟨b.toArray⟩)).run P w=.ok c w/\VR D θ v c:=by
 cases op<;>simp only[qM,qe,reduceCtorEq,Jw,q92]at h
 case add =>
  cases hb:Nat.ble (a.length+b.length) 140737488355328<;>rw[hb]at h<;>simp at h;subst h;have hle:a.length+b.length<=140737488355328:=by simpa[rX]using hb
  refine⟨.string (⟨a.toArray⟩++⟨b.toArray⟩),?_,λ θ' _=>?_⟩
  .simp only[binOp,Go.Op.stringOp,Kj,Sem.run_ite];rw[qo (by simp[IntKind.max,IntKind.bits,IntKind.signed];omega)];rfl
  .show Value.string ⟨(a++b).toArray⟩=_;congr 1
 all_goals
  subst h;exact⟨_,by simp[binOp,Go.Op.stringOp]<;>rfl,.bool _⟩
def xfg{o:Oper}{op:BinOp}{t p:TypeId}{x y:Operand}(ho:o.op=.binOp op t x y p):dh P o [x,y] (Op.bin op):=by
 intro D θ ρ w vs v h d;obtain⟨a,b,rfl,ha,hb⟩:=bL.sG h;simp only[Op.bin,mV]at d;have g:=ha.now;have i:=hb.now;have guard:∀(u n:Value),(∀l,u≠ .agg l)->u≠ .nilIface->(eqGuard op t x y u n).run P w=.ok () w:=by
  intro u n q r;unfold eqGuard;cases u<;>cases op<;>simp_all
 split at d
 .rename_i k a k' b;cases hs:dT op
  .rw [hs]at d;simp only[zj,Ta]at d
   by_cases hk:k=k'
   .subst hk;simp only[decide_true,xq]at d;obtain⟨c,j,m⟩:=xgm (P:=P) (w:=w) (D:=D) (θ:=θ) hs d t;refine⟨c,.inl ?_,m⟩;have hg:=guard (.int k a) (.int k b) (λ _=>by simp) (by simp);simp[execOp,ho,<-g,<-i,az,hg,j]
   .simp [hk]at d
  .rw [hs]at d;simp only[xq,sO,Nb]at d
   by_cases f:b<0
   .simp [f]at d
   .simp only[f,JG,zj]at d;have hg:=guard (.int k a) (.int k' b) (λ _=>by simp) (by simp);cases op<;>simp only[dT,zq]at hs
    all_goals
     injection d with d;subst d
     exact⟨_,.inl (by simp[execOp,ho,<-g,<-i,az,hg,binOp,Go.Op.shift,f]<;>rfl),.int _ _⟩
 .rename_i a b;obtain⟨c,j,m⟩:=xhv (P:=P) (w:=w) (D:=D) (θ:=θ) d t;have hg:=guard (.string ⟨a.toArray⟩) (.string ⟨b.toArray⟩) (λ _=>by simp) (by simp);exact⟨c,.inl (by simp[execOp,ho,<-g,<-i,az,hg,j]),m⟩
 .cases d
end
end Go.Am
namespace Go.Am
section
variable{P:Program}{D:Nat->Prop}{θ:Th}{ρ:Operand->Value}{w:World}
def Jh{t:TypeId}{l:List AV}{cs:List Value}{off:Nat}{n:Option Nat}{v:AV}(hn:mX P t=some n)(hl:bL D θ l cs)(h:partAt l off n=some v) :
 ∃c,(part t cs.toArray off).run P w=.ok c w/\VR D θ v c:=by
 obtain⟨a,b⟩:=RZ (w:=w) hn;cases n with
 |none =>
  simp only[partAt,lS]at h;obtain⟨c,d,f⟩:=hl.qP h;exact⟨c,by simp[part,a,d],f⟩
 |some k =>
  simp only[partAt,u9]at h;split at h
  .rename_i hk;injection h with h;subst h
   refine⟨.agg ((cs.drop off).take k).toArray,?_,VR.agg ((hl.drop off).take k)⟩;have hlen:=hl.length;simp only[part,Sem.run_bind,a,Result.andThen_ok,vd,rj,b k rfl];simp only[Sem.run_pure,Result.ok.injEq,Value.agg.injEq,rk];apply Fk;simp[List.extract,yt]
  .cases h
def SK{i:Int}{n k:Nat}(h:within i n=some k):i=(k:Int)/\k<n:=by
 unfold within at h;cases i with
 |ofNat m =>
  simp only at h;cases hb:Nat.blt m n<;>rw[hb]at h
  .cases h
  .injection h with h;subst h;exact⟨rfl,by simpa[tZ]using hb⟩
 |negSucc m=>cases h
def q53{o:Oper}{t:TypeId}{x:Operand}{i:Nat}{fs:Array Field}{f:Field}{n:Nat}(ho:o.op=.fieldAddr t x i)(j:P.underlying t=some (.struct fs))(g:fs[i]? = some f)(hn:bQ P f.type=some n)(c:n≠0) :
 dh P o [x] (Op.fieldAddr f.offset):=by
 intro D θ ρ w vs v h a;unfold Op.fieldAddr at a;split at a
 .rename_i b d;obtain⟨y,heq,ha⟩:=h.pI;injection heq with heq _;subst heq
  injection a with a;subst a
  have hr:=ha.now;refine⟨.pointer (some ⟨θ.bV b,θ.off b+d+f.offset,none⟩),.inl ?_,λ θ' hg=>?_⟩
  .simp [execOp,ho,Instr.fieldAt,j8 j,g,<-hr,az,Instr.sureAddr,fieldPlace,tX hn,c,xD]
  .have:=ha θ' hg;rw[<-hr]at this;simp[az]at this⊢;omega
 .cases a
def q82{o:Oper}{t e:TypeId}{x i:Operand}{len size:Nat}{n:Option Nat}(ho:o.op=.index t x i)(q:P.underlying t=some (.array len e))(hs:bQ P e=some size)(hn:mX P e=some n) :
 dh P o [x,i] (Op.bA len size n):=by
 intro D θ ρ w vs v h a;unfold Op.bA at a;split at a
 .rename_i l k j;obtain⟨y,z,heq,ha,hb⟩:=h.p5;injection heq with d b;injection b with b _;subst d;subst b
  cases hw:within j len with
  |none=>rw[hw]at a;cases a
  |some m =>
   rw[hw]at a;obtain⟨rfl,p⟩:=SK hw;obtain⟨cs,f,hl⟩:=ha.eW;obtain⟨c,d,b⟩:=Jh (w:=w) hn hl a;refine⟨c,.inl ?_,b⟩;have g:(0:Int)<=(m:Int)/\(m:Int)<(len:Int):=by omega
   simp[execOp,ho,Instr.index,j8 q,f,<-hb.now,az,asIntOf,g,tX hs,d];intro r;omega
 .cases a
def q84{o:Oper}{t:TypeId}{x i:Operand}(ho:o.op=.index t x i)(l:P.underlying t=some .string):dh P o [x,i] Op.bK:=by
 intro D θ ρ w vs v h a;unfold Op.bK at a;split at a
 .rename_i s k j;obtain⟨y,z,heq,ha,hb⟩:=h.p5;injection heq with f c;injection c with c _;subst f;subst c
  cases hw:within j s.length with
  |none=>rw[hw]at a;cases a
  |some m =>
   rw[hw]at a;obtain⟨rfl,b⟩:=SK hw;simp only[qm,lS]at a;obtain⟨u,hu⟩:∃u,s[m]? = some u:=⟨_,qt b⟩
   rw[hu]at a;injection a with a;subst a
   refine⟨.int .u8 u.toNat,.inl ?_,.int _ _⟩;have d:(0:Int)<=(m:Int):=by omega
   have hg:getElem? (⟨s.toArray⟩:ByteArray) m=some u:=by
    have n:m<(⟨s.toArray⟩:ByteArray).size:=by rw[Kj];exact b
    rw[getElem?_pos (⟨s.toArray⟩:ByteArray) m n];have g:=(qk.1 hu).2;simp only[qe];exact g
   simp[execOp,ho,Instr.index,j8 l,<-ha.now,<-hb.now,az,asIntOf,d,hg]
 .cases a
def YS{x:AV}{c:Value}{size j b o:Nat}(h:VR D θ x c)(he:elemAt size x j=some (b,o)) :
 ∃n m,c=.slice (some ⟨θ.bV b,θ.off b+o-j*size,none⟩) n m/\j<n/\j*size<=o/\(∀θ',Ag D θ θ' -> θ'.bV b = θ.bV b /\ θ'.off b+o = θ.off b+o):=by
 have hr:=h.now;unfold elemAt at he;split at he
 .rename_i d o' n' i;cases hb:Nat.blt j n'<;>rw[hb]at he
  .cases he
  .simp only[xq,qe,xw]at he;obtain⟨rfl,rfl⟩:=he;refine⟨n',i,?_,by simpa[tZ]using hb,by omega,λ θ' ha=>?_⟩
   .rw [<-hr];simp only[az];congr 3;omega
   .have:=h θ' ha;rw[<-hr]at this;simp only[az,Value.slice.injEq,qe,Addr.mk.injEq]at this;omega
 .rename_i d f g p a n';cases hb:(Nat.blt j n' && Nat.beq p size && Nat.blt (f+j) g)<;>rw[hb]at he
  .cases he
  .simp only[xq,qe,xw]at he;obtain⟨rfl,rfl⟩:=he;simp only[xt,tZ,ji]at hb;obtain⟨⟨l,rfl⟩,q⟩:=hb;refine⟨n',g-f + θ.ext d,?_,l,by omega,λ θ' ha=>?_⟩
   .rw [<-hr];simp only[az];rw[qo (by omega)];congr 3;omega
   .have:=h θ' ha;rw[<-hr]at this;simp only[az,Value.slice.injEq,qe,Addr.mk.injEq]at this;rw[qo (by omega),qo (by omega)]at this;omega
 .cases he
def xbi{o:Oper}{t e:TypeId}{x i:Operand}{size:Nat}(ho:o.op=.indexAddr t x i)(B:P.underlying t=some (.slice e))(hs:bQ P e=some size) :
 dh P o [x,i] (Op.aO size):=by
 intro D θ ρ w vs v h d;unfold Op.aO at d;split at d
 .rename_i a k j;obtain⟨y,z,heq,ha,hb⟩:=h.p5;injection heq with l g;injection g with g _;subst l;subst g
  cases hl:fj a with
  |none=>rw[hl]at d;cases d
  |some n0 =>
   rw[hl]at d;simp only[qm]at d;cases hw:within j n0 with
   |none=>rw[hw]at d;cases d
   |some m =>
    rw[hw]at d;simp only[qm]at d;obtain⟨rfl,A⟩:=SK hw;cases he:elemAt size a m with
    |none=>rw[he]at d;cases d
    |some p =>
     obtain⟨b,f⟩:=p;rw[he]at d;injection d with d;subst d
     obtain⟨n,c,r,u,hle,q⟩:=YS ha he;refine⟨.pointer (some ⟨θ.bV b,θ.off b+f,none⟩),.inl ?_,λ θ' hg=>?_⟩
     .have s:(0:Int)<=(m:Int)/\(m:Int)<(n:Int):=by omega
      have heq:θ.off b+f-m*size+m*size = θ.off b+f:=by omega
      simp[execOp,ho,Instr.indexAt,j8 B,r,<-hb.now,az,asIntOf,s,tX hs,xD,heq];intro C;omega
     .obtain ⟨l,g⟩:=q θ' hg;simp only[az,l,g]
 .cases d
def q83{o:Oper}{t e:TypeId}{x i:Operand}{len size:Nat}(ho:o.op=.indexAddr t x i)(n:P.underlying t=some (.array len e))(hs:bQ P e=some size) :
 dh P o [x,i] (Op.aP len size):=by
 intro D θ ρ w vs v h a;unfold Op.aP at a;split at a
 .rename_i b d k j;obtain⟨y,z,heq,ha,hb⟩:=h.p5;injection heq with f c;injection c with c _;subst f;subst c
  cases hw:within j len with
  |none=>rw[hw]at a;cases a
  |some m =>
   rw[hw]at a;injection a with a;subst a
   obtain⟨rfl,l⟩:=SK hw;have g:(0:Int)<=(m:Int)/\(m:Int)<(len:Int):=by omega
   refine⟨.pointer (some ⟨θ.bV b,θ.off b+d+m*size,none⟩),.inl ?_,λ θ' hg=>?_⟩
   .simp [execOp,ho,Instr.indexAt,j8 n,<-ha.now,<-hb.now,az,asIntOf,Instr.sureAddr,g,tX hs,xD];intro p;omega
   .have:=ha θ' hg;rw[<-ha.now]at this;simp[az]at this⊢;omega
 .cases a
def q85{o:Oper}{x:Operand}(ho:o.op=.nilCheck x):dh P o [x] Op.nilCheck:=by
 intro D θ ρ w vs v h b;obtain⟨a,rfl,ha⟩:=bL.iA h;have hr:=ha.now;unfold Op.nilCheck at b;split at b
 .cases b
 .cases b
 .cases b
 .rename_i f m n heq;injection heq with heq;subst heq
  injection b with b;subst b
  exact⟨ρ x,.inl (by simp[execOp,ho,<-hr,az,fL]),ha⟩
 .cases b
 .rename_i c g i j p l heq;injection heq with heq;subst heq
  injection b with b;subst b
  refine⟨ρ x,.inl ?_,ha⟩;have d:=hr.symm;clear hr ha h;cases a
  case nilp=>exact absurd rfl g
  case nili=>exact absurd rfl i
  case nilf=>exact absurd rfl j
  case fn f' c b'=>exact absurd rfl (l f' c b')
  all_goals (simp only[az]at d;simp[execOp,ho,d])
 .cases b
def Z5(off:Nat):∀(cs:List Value)(j:Nat)(arr:List Value),off+j+cs.length<=arr.length ->
 ((cs.zipIdx j).foldl (λ acc(p:Value×Nat)=>acc.setIfInBounds (off+p.2) p.1) arr.toArray)=(arr.take (off+j)++cs++arr.drop (off+j+cs.length)).toArray
 |[],j,arr,_=>by simp
 |c::cs,j,arr,h=>by
  simp only[List.zipIdx_cons,L7,List.setIfInBounds_toArray];rw[Z5 off cs (j+1) (arr.set (off+j) c) (by simp at h⊢;omega)];congr 1;have a:=list_seg_step arr (off+j) c cs (by simp at h⊢;omega)
  simpa[vz]using a
def xj3(off:Nat)(cs:Array Value)(arr:List Value)(h:off+cs.size<=arr.length) :
 (cs.zipIdx.foldl (λ acc(p:Value×Nat)=>acc.setIfInBounds (off+p.2) p.1) arr.toArray)=(arr.take off++cs.toList++arr.drop (off+cs.size)).toArray:=by
 have:=Z5 off cs.toList 0 arr (by simpa using h);rw[<-Array.foldl_toList]
 simpa using this
def UA:∀(places:List (Nat×Nat))(vs:List AV)(parts:List (Nat×Operand))(pl:Nat->Option (Nat×Nat))(out:List AV),
 zZ pl parts=some places->bL D θ vs (parts.map λ p=>ρ p.2) -> ∀(cells:List AV)(a:List Value),bL D θ cells a->iP cells places vs=some out ->
 ∃cout:List Value,Instr.fill pl a.toArray (parts.map λ p=>(p.1,ρ p.2))=some cout.toArray/\bL D θ out cout:=by
 intro places vs parts
 induction parts generalizing places vs with
 |nil =>
  intro pl out hp n cells a g d;simp only[zZ,qe]at hp;subst hp;have:vs=[]:=by have:=n.length;simp at this;exact List.eq_nil_of_length_eq_zero (by omega)
  subst this;simp only[iP,qe]at d;subst d;exact⟨a,rfl,g⟩
 |cons p parts ih =>
  intro pl out hp n cells a g d;obtain⟨i,x⟩:=p;simp only[zZ]at hp;cases f:pl i with
  |none=>rw[f]at hp;cases hp
  |some q =>
   obtain⟨off,size⟩:=q;rw[f]at hp;simp only[qm]at hp;cases hr:zZ pl parts with
   |none=>rw[hr]at hp;cases hp
   |some l =>
    rw[hr]at hp;injection hp with hp;subst hp
    cases vs with
    |nil=>simp only[iP]at d;cases d
    |cons v vs =>
     obtain⟨c,cs',o,r,s⟩:=n.eN;simp only[jk,zk]at o;obtain⟨rfl,rfl⟩:=o;simp only[iP,HE]at d;cases hb:Nat.beq v.cells.length size
     .rw [hb]at d;cases d
     .rw [hb]at d;simp only[xq,Eg]at d;have b:=r.cells;have hlen:=b.length;have j:(ρ x).cells.size=size:=by rw[<-vi,hlen];simpa[ji]using hb
      split at d
      .rename_i hle;simp only[qm]at d;have y:=g.length;have h:bL D θ (cells.take off++v.cells++cells.drop (off+v.cells.length)) (a.take off++(ρ x).cells.toList++a.drop (off+v.cells.length)) :=
        ((g.take off).app b).app (g.drop _)
       obtain⟨cout,t,u⟩:=ih l vs pl out hr s _ _ h d;refine⟨cout,?_,u⟩;simp only[jk,Instr.fill,f];rw[qo (by simp only[List.size_toArray];rw[j];rw[<-vi]at j;simp;omega)];rw[<-t];congr 1;have m:=xj3 off (ρ x).cells a (by rw[<-vi];omega);rw[show v.cells.length=(ρ x).cells.size from by rw[<-vi];omega];exact m
      .cases d
def xko(parts:Array (Nat×Operand)):(parts.map λ(p:Nat×Operand)=>(p.1,ρ p.2)).toList=parts.toList.map λ p=>(p.1,ρ p.2):=by simp
def q9h(fs:Array Field)(a:∀f∈fs,∃n,bQ P f.type=some n) :
 ∃pl:Array (Nat×Nat),(fs.mapM λ(f:Field)=>(do pure (f.offset,<-sizeOf f.type):Sem (Nat×Nat))).run P w=.ok pl w /\ ∀i:Nat,pl[i]? = Mx P fs i:=by
 have key:∀l:List Field,(∀f∈l,∃n,bQ P f.type=some n) ->
  ∃pl:List (Nat×Nat),(l.mapM λ(f:Field)=>(do pure (f.offset,<-sizeOf f.type):Sem (Nat×Nat))).run P w=.ok pl w /\ ∀i:Nat,pl[i]? = (l[i]?).bind λ(f:Field)=>(bQ P f.type).bind λ n=>some (f.offset,n):=by
  intro l
  induction l with
  |nil=>intro _;exact⟨[],by simp,by simp⟩
  |cons f l ih =>
   intro hl;obtain⟨n,hn⟩:=hl f (by simp);obtain⟨pl,b,c⟩:=ih (λ g hg=>hl g (by simp[hg]));refine⟨(f.offset,n)::pl,?_,λ i=>?_⟩
   .simp only[List.mapM_cons,Sem.run_bind,tX hn,Result.andThen_ok,Sem.run_pure,b]
   .cases i with
    |zero=>simp[hn]
    |succ i=>simpa using c i
 obtain⟨pl,b,c⟩:=key fs.toList (λ f d=>a f (by simpa using d));refine⟨pl.toArray,?_,λ i=>?_⟩
 .rw [Array.mapM_eq_mapM_toList];simp only[Sem.run_map,b,Result.andThen_ok]
 .simp [Mx,c i]
def qwt{o:Oper}{t:TypeId}{parts:Array (Nat×Operand)}{z:AV}{fs:Array Field}{c:List (Nat×Nat)}(ho:o.op=.build t parts)(y:zeroOf P t=some z)
 (x:P.underlying t=some (.struct fs)) (b:∀f∈fs,∃n,bQ P f.type=some n) (hp:zZ (Mx P fs) parts.toList=some c):dh P o (parts.toList.map (·.2)) (Op.build z.cells c):=by
 intro D θ ρ w vs v h a;obtain⟨A,j,l⟩:=Kc (w:=w) y;obtain⟨pl,r,s⟩:=q9h (w:=w) fs b;unfold Op.build at a;cases d:iP z.cells c vs with
 |none=>rw[d]at a;cases a
 |some out =>
  rw[d]at a;injection a with a;subst a
  have q:bL D θ vs (parts.toList.map λ p=>ρ p.2):=by simpa[wo,Function.comp_def]using h
  obtain⟨cout,m,u⟩:=UA (ρ:=ρ) c vs parts.toList (Mx P fs) out hp q z.cells A.cells.toList (l D θ).cells d;refine⟨.agg cout.toArray,.inl ?_,VR.agg u⟩;have g:(λ i=>pl[i]?)=Mx P fs:=funext s;simp only[execOp,ho,Instr.build,Sem.run_bind,j,Result.andThen_ok,j8 x,r,g];have e:(parts.map λ(p:Nat×Operand)=>(p.1,ρ p.2)).toList=parts.toList.map λ p=>(p.1,ρ p.2):=by simp
  simp only[Ov]at m;simp[m]
def qzi{o:Oper}{t e:TypeId}{parts:Array (Nat×Operand)}{z:AV}{len n:Nat}{b:List (Nat×Nat)}(ho:o.op=.build t parts)(r:zeroOf P t=some z)
 (q:P.underlying t=some (.array len e)) (hn:bQ P e=some n) (hp:zZ (Jk n) parts.toList=some b):dh P o (parts.toList.map (·.2)) (Op.build z.cells b):=by
 intro D θ ρ w vs v h a;obtain⟨s,f,g⟩:=Kc (w:=w) r;unfold Op.build at a;cases c:iP z.cells b vs with
 |none=>rw[c]at a;cases a
 |some out =>
  rw[c]at a;injection a with a;subst a
  have l:bL D θ vs (parts.toList.map λ p=>ρ p.2):=by simpa[wo,Function.comp_def]using h
  obtain⟨cout,j,m⟩:=UA (ρ:=ρ) b vs parts.toList (Jk n) out hp l z.cells s.cells.toList (g D θ).cells c;refine⟨.agg cout.toArray,.inl ?_,VR.agg m⟩;simp only[execOp,ho,Instr.build,Sem.run_bind,f,Result.andThen_ok,j8 q,tX hn];have e:(parts.map λ(p:Nat×Operand)=>(p.1,ρ p.2)).toList=parts.toList.map λ p=>(p.1,ρ p.2):=by simp
  simp only[Ov]at j;have d:(λ i=>some (i*n,n))=Jk n:=rfl;simp[d,j]
end
end Go.Am
namespace Go.Am
section
variable{P:Program}{D:Nat->Prop}{θ:Th}{ρ:Operand->Value}{w:World}
def mr(D:Nat->Prop)(θ:Th)(ρ:Operand->Value):Option Operand->Option AV->Prop
 |none,a=>a=none
 |some x,a=>∃v,a=some v/\VR D θ v (ρ x)
def RU:∀(opts:List (Option Operand))(pre rest:List AV),bL D θ rest ((jT opts).map ρ) -> ∀(j:Nat)(o:Option Operand)(idx:Option Nat),opts[j]? = some o->(gh pre.length opts)[j]? = some idx ->
 ∀a,arg (pre++rest) idx=some a->mr D θ ρ o a
 |[],pre,rest,h,j,o,idx,ho,hi,a,ha=>by simp at ho
 |none::opts,pre,rest,h,j,o,idx,ho,hi,a,ha=>by
  cases j with
  |zero =>
   simp only[gh,jp,qe]at ho hi;subst ho;subst hi;simp only[arg,qe]at ha;exact ha.symm
  |succ j=>exact RU opts pre rest h j o idx (by simpa using ho) (by simpa[gh]using hi) a ha
 |some x::opts,pre,rest,h,j,o,idx,ho,hi,a,ha=>by
  cases rest with
  |nil=>have:=h.length;simp[jT]at this
  |cons v rest =>
   obtain⟨c,cs,b,d,f⟩:=h.eN;simp only[jT,jk,zk]at b;obtain⟨rfl,rfl⟩:=b;cases j with
   |zero =>
    simp only[gh,jp,qe]at ho hi;subst ho;subst hi;simp only[arg,lS]at ha;rw[zh (qg _)]at ha;simp at ha;exact⟨v,ha.symm,d⟩
   |succ j =>
    refine RU opts (pre ++ [v]) rest f j o idx (by simpa using ho) (by simpa[gh]using hi) a ?_
    simpa using ha
def Vl{o:Option Operand}{a:Option AV}{d c r:Nat}(h:mr D θ ρ o a)(hb:bound a d c=some r) :
 (match o with
  |none=>r=d
  |some x=>(∀code y,c<=y->(Instr.sliceBound (ρ x) y code).run P w=.ok r w)/\r<=c):=by
 cases o with
 |none =>
  simp only[mr]at h;subst h;simp only[bound,qe]at hb;exact hb.symm
 |some x =>
  obtain⟨v,rfl,j⟩:=h;unfold bound at hb;split at hb
  .rename_i heq;cases heq
  .rename_i k i heq;injection heq with heq;subst heq
   cases hle:Nat.ble i c<;>rw[hle]at hb
   .cases hb
   .injection hb with hb;subst hb
    have b:i<=c:=by simpa[rX]using hle
    refine⟨λ code y l=>?_,b⟩;have f:(0:Int)<=(i:Int)/\(i:Int)<=(y:Int):=by omega
    have g:i<=y:=by omega
    simp[Instr.sliceBound,<-j.now,az,asIntOf,f]
  .cases hb
def Qt{lo n i:Option Operand}{a b m:Option AV}{q:Bool}{len cap low M Y h l:Nat}(ha:mr D θ ρ lo a)(hb:mr D θ ρ n b)(hm:mr D θ ρ i m)
 (s:(i=none/\M=cap) \/ ∃d,bound m d low=some M/\low<=cap/\i.isSome=true) (o:Y<=M) (t:bound b len Y=some h) (hl:bound a 0 h=some l) (p:i.isSome=true->n.isSome=true) :
 (Instr.sliceBounds q len cap (lo.map ρ) (n.map ρ) (i.map ρ)).run P w=.ok (l,h,M) w:=by
 have g:=Vl (P:=P) (w:=w) hb t;have c:=Vl (P:=P) (w:=w) ha hl;cases i with
 |none =>
  obtain⟨_,rfl⟩|⟨_,_,_,j⟩:=s
  .cases n with
   |none =>
    simp only at g;subst g;cases lo with
    |none=>simp only at c;subst c;simp[Instr.sliceBounds]
    |some x=>simp[Instr.sliceBounds,c.1 _ _ (qg _)]
   |some y =>
    cases lo with
    |none=>simp only at c;subst c;simp[Instr.sliceBounds,g.1 _ _ o]
    |some x=>simp[Instr.sliceBounds,g.1 _ _ o,c.1 _ _ (qg _)]
  .cases j
 |some z =>
  obtain⟨j,_⟩|⟨d,j,f,_⟩:=s
  .cases j
  .have r:=Vl (P:=P) (w:=w) hm j;cases n with
   |none=>simp at p
   |some y =>
    cases lo with
    |none=>simp only at c;subst c;simp[Instr.sliceBounds,r.1 _ _ f,g.1 _ _ o]
    |some x=>simp[Instr.sliceBounds,r.1 _ _ f,g.1 _ _ o,c.1 _ _ (qg _)]
def xf9(v:AV)(d b:Nat){a:Nat}:bound (some v) d a=bound (some v) b a:=by
 cases v<;>try rfl
 rename_i k n;cases n<;>rfl
def IL{o:Option Operand}{a:Option AV}{d b r:Nat}(h:mr D θ ρ o a)(hb:bound a d b=some r)(c:d<=b):r<=b:=by
 cases o with
 |none=>simp only[mr]at h;subst h;simp only[bound,qe]at hb;omega
 |some x =>
  obtain⟨v,rfl,f⟩:=h;unfold bound at hb;split at hb
  .rename_i heq;cases heq
  .rename_i k i heq;cases hle:Nat.ble i b<;>rw[hle]at hb
   .cases hb
   .injection hb with hb;subst hb;simpa[rX]using hle
  .cases hb
def YK(lo a b:Option Operand):∃i j k,gh 0 [lo,a,b]=[i,j,k]:=by cases lo<;>cases a<;>cases b<;>simp[gh]
def Y9{size:Nat}{x:AV}{c:Value}{lo E p:Option Operand}{a b m:Option AV}{v:AV}(K:VR D θ x c)(ha:mr D θ ρ lo a)(hb:mr D θ ρ E b)(hm:mr D θ ρ p m)(f:eO size x a b m=some v) :
 ∃ad len cap l h M,c=.slice ad len cap/\(∀q,(Instr.sliceBounds q len cap (lo.map ρ) (E.map ρ) (p.map ρ)).run P w=.ok (l,h,M) w) /\
  VR D θ v (.slice (if M=l then ad else ad.map (·.add (l*size))) (h-l) (M-l)):=by
 have hr:=K.now;unfold eO at f;split at f
 .-- nil
  split at f
  .rename_i Z;cases g:bound b 0 0 with
   |none=>rw[g]at f;cases f
   |some h =>
    rw[g]at f;simp only[qm]at f;cases hl:bound a 0 h with
    |none=>rw[hl]at f;cases f
    |some l =>
     rw[hl]at f;injection f with f;subst f
     have u:p=none:=by
      cases p with
      |none=>rfl
      |some z=>obtain⟨_,r,_⟩:=hm;cases r
     subst u;have N:h=0/\l=0:=by
      have A:=IL hb g (qg _);have q3:=IL ha hl (xy _);omega
     obtain⟨rfl,rfl⟩:=N;refine⟨none,0,0,0,0,0,hr.symm,λ q=>Qt (low:=0) ha hb hm (.inl ⟨rfl,rfl⟩) (qg _) g hl (by simp),λ θ' _=>by simp[az]⟩
  .cases f
 .-- a slice of a known capacity
  rename_i bb oo n C;split at f
  .cases f
  .rename_i V;cases B:bound m C C with
   |none=>rw[B]at f;cases f
   |some M =>
    rw[B]at f;simp only[qm]at f;cases g:bound b n M with
    |none=>rw[g]at f;cases f
    |some h =>
     rw[g]at f;simp only[qm]at f;cases hl:bound a 0 h with
     |none=>rw[hl]at f;cases f
     |some l =>
      rw[hl]at f;injection f with f;subst f
      have W:p.isSome=true->E.isSome=true:=by
       intro r;cases p with
       |none=>cases r
       |some z =>
        obtain⟨_,X,_⟩:=hm;cases E with
        |some _=>rfl
        |none=>simp only[mr]at hb;subst hb;exact absurd (V _ X) (by simp)
      have O:(p=none/\M=C) \/ ∃d,bound m d C=some M/\C<=C/\p.isSome=true:=by
       cases p with
       |none=>simp only[mr]at hm;subst hm;simp only[bound,qe]at B;exact .inl ⟨rfl,B.symm⟩
       |some z=>exact .inr ⟨C,B,qg _,rfl⟩
      refine⟨_,n,C,l,h,M,hr.symm,λ q=>Qt ha hb hm O (qg _) g hl W,λ θ' hg=>?_⟩;have j:=K θ' hg;rw[<-hr]at j;simp only[az,Value.slice.injEq,qe,Addr.mk.injEq]at j⊢
      by_cases e:M=l
      .subst e;simp[Nat.beq_refl]<;>omega
      .have e':Nat.beq M l=false:=by rw[Bool.eq_false_iff];simpa[ji]using e
       rw[e'];simp[e,xD]<;>omega
 .-- a grown row's slice
  rename_i bb i F s alt n;cases Q:(Nat.beq s size && Nat.ble i F)<;>rw[Q]at f
  .cases f
  .simp only[xt,ji,rX]at Q;obtain⟨rfl,him⟩:=Q;simp only[xq]at f;split at f
   .-- no third bound
    rename_i hi';have u:p=none:=by
     cases p with
     |none=>rfl
     |some z=>obtain⟨_,r,_⟩:=hm;cases r
    subst u;cases g:bound b n (F-i)with
    |none=>rw[g]at f;cases f
    |some h =>
     rw[g]at f;simp only[qm]at f;cases hl:bound a 0 h with
     |none=>rw[hl]at f;cases f
     |some l =>
      rw[hl]at f;simp only[qm]at f;cases t:Nat.ble h (F-i)<;>rw[t]at f
      .cases f
      .injection f with f;subst f
       have hhm:h<=F-i:=by simpa[rX]using t
       have S:=IL ha hl (xy _);refine⟨_,n,_,l,h,_,hr.symm,λ q=>Qt (low:=0) ha hb hm (.inl ⟨rfl,rfl⟩) (Mf _ _) g hl (by simp),λ θ' hg=>?_⟩;have j:=K θ' hg;rw[<-hr]at j;simp only[az,Value.slice.injEq,qe,Addr.mk.injEq,rk,Df]at j;obtain⟨⟨L,A⟩,q3⟩:=j;have o:θ'.ext bb = θ.ext bb:=by omega
       have hmul:(i+l)*s=i*s+l*s:=yg i l s;simp only[az,Value.slice.injEq,Df,o,hmul];refine⟨?_,by omega⟩
       by_cases e:F-i + θ.ext bb=l
       .rw [qr e,qr (by omega)];simp only[qe,Addr.mk.injEq,rk];refine⟨L,?_⟩;rw[o]at A
        by_cases l0:l=0
        .subst l0;rw[qr e]at A⊢;exact A
        .have:Nat.beq l 0=false:=by rw[Bool.eq_false_iff];simpa[ji]using l0
         rw[this];rw[qo (by omega)]at A⊢;exact A
       .rw [qo e,qo (by omega)];simp only[ww,xD,qe,Addr.mk.injEq,rk];refine⟨L,?_⟩;rw[o]at A;rw[qo (by omega)]at A⊢;omega
   .cases f
   .-- a third bound
    rename_i I J;cases B:bound m 0 (F-i)with
    |none=>rw[B]at f;cases f
    |some M =>
     rw[B]at f;simp only[qm]at f;cases g:bound b 0 M with
     |none=>rw[g]at f;cases f
     |some h =>
      rw[g]at f;simp only[qm]at f;cases hl:bound a 0 h with
      |none=>rw[hl]at f;cases f
      |some l =>
       rw[hl]at f;simp only[qm]at f;cases t:Nat.beq M l<;>rw[t]at f
       .injection f with f;subst f
        have U:M≠l:=by intro e;subst e;simp at t
        obtain⟨z,X,Y⟩:∃z,p=some z /\ ∃v,m=some v:=by
         cases p with
         |none=>simp only[mr]at hm;exact absurd hm I
         |some z=>obtain⟨v,r,_⟩:=hm;exact⟨z,rfl,v,r⟩
        obtain⟨mv,T⟩:=Y;have G:E.isSome=true:=by
         cases E with
         |some _=>rfl
         |none=>simp only[mr]at hb;exact absurd hb (J _ T)
        have hMle:=IL hm B (xy _);have hhM:=IL hb g (xy _);have S:=IL ha hl (xy _);have R:bound b n M=some h:=by
         obtain⟨y,hy⟩:=Option.isSome_iff_exists.1 G;subst hy;obtain⟨bv,r,_⟩:=hb;subst r;rw[xf9 bv n 0];exact g
        refine⟨_,n,_,l,h,M,hr.symm,λ q=>Qt ha hb hm (.inr ⟨0,B,Mf _ _,by rw[X];rfl⟩) (qg _) R hl (λ _=>G),λ θ' hg=>?_⟩;have j:=K θ' hg;rw[<-hr]at j;simp only[az,Value.slice.injEq,qe,Addr.mk.injEq,rk,Df]at j;obtain⟨⟨L,A⟩,q3⟩:=j;have o:θ'.ext bb = θ.ext bb:=by omega
        have hmul:(i+l)*s=i*s+l*s:=yg i l s;simp only[az,Value.slice.injEq,rk,hmul,qo U,ww,xD,qe,Addr.mk.injEq];refine⟨L,?_⟩;rw[o,qo (by omega)]at A;rw[qo (by omega)];omega
       .cases f
 .-- a slice without room
  rename_i bb;split at f
  .rename_i Z;cases g:bound b 0 0 with
   |none=>rw[g]at f;cases f
   |some h =>
    rw[g]at f;simp only[qm]at f;cases hl:bound a 0 h with
    |none=>rw[hl]at f;cases f
    |some l =>
     rw[hl]at f;injection f with f;subst f
     have u:p=none:=by
      cases p with
      |none=>rfl
      |some z=>obtain⟨_,r,_⟩:=hm;cases r
     subst u;have N:h=0/\l=0:=by
      have A:=IL hb g (qg _);have q3:=IL ha hl (xy _);omega
     obtain⟨rfl,rfl⟩:=N;refine⟨_,0,0,0,0,0,hr.symm,λ q=>Qt (low:=0) ha hb hm (.inl ⟨rfl,rfl⟩) (qg _) g hl (by simp),λ θ' hg=>?_⟩;rw[K θ' hg,<-hr];rfl
  .cases f
 .cases f
def xbl{o:Oper}{t e:TypeId}{x:Operand}{lo n p:Option Operand}{size:Nat}(ho:o.op=.slice t x lo n p)(K:P.underlying t=some (.slice e))(hs:bQ P e=some size) :
 dh P o (x::jT [lo,n,p]) (Op.aL size (gh 0 [lo,n,p])):=by
 intro D θ ρ w vs v h d;obtain⟨i,j,k,r⟩:=YK lo n p;rw[r]at d;unfold Op.aL at d;split at d
 .rename_i L J N y g heq;injection heq with F z;injection z with z A;injection A with A _;subst F;subst z;subst A
  obtain⟨c,cs,u,B,G⟩:=h.eN;simp only[jk,zk]at u;obtain⟨rfl,rfl⟩:=u;have f:=λ(q:Nat)(E:Option Operand)(idx:Option Nat)(u:[lo,n,p][q]? = some E)(B:[i,j,k][q]? = some idx)=>RU [lo,n,p] [] g G q E idx u (by simpa[r]using B);cases ha:arg g i with
  |none=>rw[ha]at d;cases d
  |some a =>
   rw[ha]at d;simp only[qm]at d;cases hb:arg g j with
   |none=>rw[hb]at d;cases d
   |some b =>
    rw[hb]at d;simp only[qm]at d;cases hm:arg g k with
    |none=>rw[hm]at d;cases d
    |some m =>
     rw[hm]at d;simp only[qm]at d;obtain⟨ad,len,cap,l,O,M,I,s,C⟩:=Y9 (P:=P) (w:=w) B (f 0 lo i rfl rfl a ha) (f 1 n j rfl rfl b hb) (f 2 p k rfl rfl m hm) d;refine⟨_,.inl ?_,C⟩;simp[execOp,ho,Instr.sliceAt,j8 K,Instr.slice,I,s,tX hs]
 .cases d
def q86{o:Oper}{t e:TypeId}{x:Operand}{lo r u:Option Operand}{n size:Nat}(ho:o.op=.slice t x lo r u)(S:P.underlying t=some (.array n e))(hs:bQ P e=some size) :
 dh P o (x::jT [lo,r,u]) (Op.cG n size (gh 0 [lo,r,u])):=by
 intro D θ ρ w vs v h d;obtain⟨i,j,k,z⟩:=YK lo r u;rw[z]at d;unfold Op.cG at d;split at d
 .rename_i U R V p B g heq;injection heq with N E;injection E with E F;injection F with F _;subst N;subst E;subst F
  obtain⟨c,cs,C,y,O⟩:=h.eN;simp only[jk,zk]at C;obtain⟨rfl,rfl⟩:=C;have f:=λ(q:Nat)(I:Option Operand)(idx:Option Nat)(C:[lo,r,u][q]? = some I)(y:[i,j,k][q]? = some idx)=>RU [lo,r,u] [] g O q I idx C (by simpa[z]using y);cases ha:arg g i with
  |none=>rw[ha]at d;cases d
  |some a =>
   rw[ha]at d;simp only[qm]at d;cases hb:arg g j with
   |none=>rw[hb]at d;cases d
   |some b =>
    rw[hb]at d;simp only[qm]at d;cases hm:arg g k with
    |none=>rw[hm]at d;cases d
    |some m =>
     rw[hm]at d;simp only[qm]at d;have T:VR D θ (.slice p B n n) (.slice (some ⟨θ.bV p,θ.off p+B,none⟩) n n):=λ θ' hg=>by
      have:=y θ' hg;rw[<-y.now]at this;simp[az]at this⊢;omega
     obtain⟨ad,len,cap,l,W,M,Q,A,G⟩:=Y9 (P:=P) (w:=w) T (f 0 lo i rfl rfl a ha) (f 1 r j rfl rfl b hb) (f 2 u k rfl rfl m hm) d;injection Q with J K L;subst J;subst K;subst L
     refine⟨_,.inl ?_,G⟩;have s:=A false;simp only[execOp,ho,Instr.sliceAt,Sem.run_bind,j8 S,Result.andThen_ok,<-y.now,az,Instr.sureAddr,Sem.run_pure,s,tX hs]
     by_cases e:M=l<;>simp[e]
 .cases d
def DA{o:Oper}{c:Call}{f:FuncId}{fn:Func}{e:Array Value->Sem Value}(ho:o.op=.call c)(d:c.callee=.value (.func f))(h:ρ (.func f)=.func (.func f) #[] #[])(g:P.funcs[f]? = some fn)(hb:fn.body=none)
 (hn:fn.name≠ "runtime.NumGoroutine") (a:Extern.findNext fn=none) (b:Extern.find fn=some e) :
 (execOp ρ o).run P w=((e (c.args.map ρ)).run P w).andThen λ v w'=>.ok (.value v) w':=by
 simp[execOp,ho,resolve,d,h,Deferred.ofValue,invoke,callFunc,g,hb,hn,a,b]
def xci(s:List UInt8):(Extern.Bytes.bytesOf (.string ⟨s.toArray⟩)).run P w=.ok ⟨s.toArray⟩ w:=rfl
def xf6(n:Int):(Extern.Bytes.asByte (.int .u8 n)).run P w=.ok (UInt8.ofNat n.toNat) w:=rfl
def xcw(c:UInt8)(s:List UInt8)(k:Nat):Hg c s k=((List.range s.length).find? λ i=>s[i]! == c).map (·+k):=by
 induction s generalizing k with
 |nil=>rfl
 |cons x s ih =>
  simp only[Hg,Xj,z7];rw[List.range_succ_eq_map,List.find?_cons];have hm:(List.find? (λ i=>(x::s)[i]! == c) (List.map Nat.succ (List.range s.length)))=((List.range s.length).find? λ i=>s[i]! == c).map Nat.succ:=by
   rw[List.find?_map];rfl
  rw[hm,ih (k+1)];have a:(x::s)[0]! = x:=rfl;rw[a];cases h:(x == c)
  .simp only[zj,Option.map_map];congr 1;funext i;simp;omega
  .simp
def vY(s:List UInt8)(i:Nat):(⟨s.toArray⟩:ByteArray)[i]! = s[i]!:=by
 by_cases h:i<s.length
 .have a:i<(⟨s.toArray⟩:ByteArray).size:=by rw[Kj];exact h
  rw[getElem!_pos (⟨s.toArray⟩:ByteArray) i a,getElem!_pos s i h];rfl
 .have a:¬i<(⟨s.toArray⟩:ByteArray).size:=by rw[Kj];exact h
  rw[getElem!_neg (⟨s.toArray⟩:ByteArray) i a,getElem!_neg s i h]
def xaq{P:Program}{w:World}(s:List UInt8)(n:Int):(Extern.BytealgIndexByte.indexByte #[.string ⟨s.toArray⟩,.int .u8 n]).run P w =
 .ok (match(List.range s.length).find? (λ i=>s[i]! == UInt8.ofNat n.toNat)with|some i=>goInt i|none=>goInt (-1)) w:=by
 change Sem.run P (Extern.Bytes.bytesOf (.string ⟨s.toArray⟩) >>= _) w=_;rw[Sem.run_bind,xci];change Sem.run P (Extern.Bytes.asByte (.int .u8 n) >>= _) w=_;rw[Sem.run_bind,xf6];have a:(λ i=>(⟨s.toArray⟩:ByteArray)[i]! == UInt8.ofNat n.toNat)=(λ i=>s[i]! == UInt8.ofNat n.toNat):=funext λ i=>by rw[vY]
 simp only[Result.andThen_ok,Kj,a];cases(List.range s.length).find? (λ i=>s[i]! == UInt8.ofNat n.toNat)<;>rfl
def qre{o:Oper}{c:Call}{f:FuncId}{fn:Func}{xs:List Operand}(ho:o.op=.call c)(l:c.callee=.value (.func f))(m:P.funcs[f]? = some fn)(hb:fn.body=none)
 (hn:fn.name≠ "runtime.NumGoroutine") (g:Extern.findNext fn=none) (j:Extern.find fn=some Extern.BytealgIndexByte.indexByte) (p:c.args.toList=xs) :
 ∀(D:Nat->Prop)θ(ρ:Operand->Value)w vs v,ρ (.func f)=.func (.func f) #[] #[]->bL D θ vs (xs.map ρ)->Op.aD vs=some v -> ∃c,rI P (execOp ρ o) w c w/\VR D θ v c:=by
 intro D θ ρ w vs v q h a;unfold Op.aD at a;split at a
 .rename_i s n;obtain⟨x,y,rfl,ha,b⟩:=h.p5;injection a with a;subst a
  refine⟨_,.inl ?_,.int _ _⟩;rw[DA ho l q m hb hn g j,DB p];have d:(λ i=>(⟨s.toArray⟩:ByteArray)[i]! == UInt8.ofNat n.toNat)=(λ i=>s[i]! == UInt8.ofNat n.toNat):=funext λ i=>by rw[vY]
  simp only[jk,Ey,<-ha.now,<-b.now,az,xaq,Result.andThen_ok];rw[xcw];cases r:(List.range s.length).find? (λ i=>s[i]! == UInt8.ofNat n.toNat)<;>simp[goInt]
 .cases a
def xks{o:Oper}(xs:List Operand):dh P o xs Op.fail:=by
 intro D θ ρ w vs v _ a;cases a
end
end Go.Am
namespace Go.Am
def pY(P:Program)(o:Oper)(xs:List Operand)(f:List AV->ar->Option AV):Prop :=
 ∀(base:Nat)(D:Nat->Prop)θ H(ρ:Operand->Value)w vs v,HR P base D θ H w->bL D θ vs (xs.map ρ)->f vs H=some v -> ∃c,rI P (execOp ρ o) w c w/\VR D θ v c
section
variable{P:Program}
def xhe{o:Oper}{t:TypeId}{x:Operand}(ho:o.op=.load t x)(j:mX P t=some none):pY P o [x] Op.ae:=by
 intro base D θ H ρ w vs v i h a;unfold Op.ae at a;split at a
 .rename_i b off;obtain⟨l,he,ha⟩:=h.pI;simp only[zk,rk]at he;subst he;obtain⟨c,f,g⟩:=i.ae a;refine⟨c,.inl ?_,g⟩;obtain⟨d,_⟩:=RZ (w:=w) j;simp only[execOp,ho,<-ha.now,az,Instr.loadAt,Instr.sureAddr,loadVar,Sem.run_bind,Sem.run_pure,Result.andThen_ok,d,K5,zq,nS,f]
 .cases a
def xhf{o:Oper}{t:TypeId}{x:Operand}{n:Nat}(ho:o.op=.load t x)(j:mX P t=some (some n)):pY P o [x] (Op.aq n):=by
 intro base D θ H ρ w vs v i h a;unfold Op.aq at a;split at a
 .rename_i b off;obtain⟨m,he,ha⟩:=h.pI;simp only[zk,rk]at he;subst he;cases hl:H.aq b off n with
  |none=>rw[hl]at a;cases a
  |some l =>
   rw[hl]at a;injection a with a;subst a
   obtain⟨cs,f,g,_⟩:=i.aq hl;refine⟨.agg cs.toArray,.inl ?_,.agg g⟩;obtain⟨c,d⟩:=RZ (w:=w) j;simp only[execOp,ho,<-ha.now,az,Instr.loadAt,Instr.sureAddr,loadVar,Sem.run_bind,Sem.run_pure,Result.andThen_ok,c,d n rfl,vd,rj,f]
 .cases a
def HR.gA{base:Nat}{D:Nat->Prop}{θ:Th}{H:ar}{w:World}(h:HR P base D θ H w){b:Nat}{m:List (AV×AV×Nat)×Nat}(hb:H.gA b=some m) :
 H.get b=some (.map m.1 m.2)/\D b /\ ∃ms:List MapEntry,w.heap[θ.bV b]? = some (.map ms.toArray m.2)/\dc D θ m.1 ms:=by
 unfold ar.gA at hb;cases hg:H.get b with
 |none=>rw[hg]at hb;cases hb
 |some o =>
  rw[hg]at hb;obtain⟨f,co,d,hr⟩:=h.obj b o hg;cases o<;>simp only[reduceCtorEq,qe]at hb;subst hb;obtain⟨ms,a,c⟩:=hr;exact⟨rfl,f,ms,by rw[d,a],c⟩
def J0{w:World}{r:Nat}{ms:Array MapEntry}{c:Nat}(h:w.heap[r]? = some (.map ms c)):(getObj r).run P w=.ok (.map ms c) w:=by
 simp[getObj,Sem.run,h]
def dc.length{D:Nat->Prop}{θ:Th}:∀(es:List (AV×AV×Nat))(ms:List MapEntry),dc D θ es ms->es.length=ms.length
 |[],[],_=>rfl
 |_::es,_::ms,⟨_,h⟩=>by simp[dc.length es ms h]
 |[],_::_,h=>h.elim
 |_::_,[],h=>h.elim
def VR.isAgg{D:Nat->Prop}{θ:Th}{l:List AV}{c:Value}(h:VR D θ (.agg l) c):∃cs:List Value,c=.agg cs.toArray/\bL D θ l cs:=h.eW
def xcu{t:TypeId}{fs:Array Field}(h:P.underlying t=some (.struct fs)):P.fieldsOf t=fs:=by
 simp[Program.fieldsOf,h]
def xgh{x y:AV}{r:Bool}(h:bj .int x y=some r):∃k a b,x=.int k a/\y=.int k b/\r=(a == b):=by
 cases x<;>cases y<;>simp only[bj,reduceCtorEq]at h;rename_i k a k' b;cases hk:ta k k' with
 |false=>rw[hk]at h;cases h
 |true =>
  rw[hk]at h;simp only[xq,qe]at h;have:k=k':=by simpa[Ta]using hk
  subst this;exact⟨k,a,b,rfl,rfl,by rw[<-h,C9]⟩
def xgi{x y:AV}{r:Bool}(h:bj .str x y=some r):∃a b,x=.str a/\y=.str b/\r=(a == b):=by
 cases x<;>cases y<;>simp only[bj,reduceCtorEq,qe]at h;exact⟨_,_,rfl,rfl,by rw[<-h,Jw]⟩
def xct{x y:AV}{r:Bool}(h:bj .bool x y=some r):∃a b,x=.bool a/\y=.bool b/\r=(a == b):=by
 cases x<;>cases y<;>simp only[bj,reduceCtorEq,qe]at h;exact⟨_,_,rfl,rfl,h.symm⟩
def Rm{off:Nat}{n:Option Nat}{t rest:aQ}{x y:AV}{r:Bool}(h:bj (.part off n t rest) x y=some r) :
 ∃l c a b q,x=.agg l/\y=.agg c/\partAt l off n=some a/\partAt c off n=some b/\bj t a b=some q/\(q=true->bj rest (.agg l) (.agg c)=some r)/\(q=false->r=false):=by
 cases x<;>cases y<;>simp only[bj,reduceCtorEq]at h;rename_i l c;simp only[qd]at h;obtain⟨a,ha,b,hb,q,d,h⟩:=h;refine⟨l,c,a,b,q,rfl,rfl,ha,hb,d,λ e=>?_,λ e=>?_⟩
 .subst e;exact h
 .subst e;simpa using h.symm
def RX{x y:AV}{r:Bool}(h:bj .nil x y=some r):r=true/\(∃l,x=.agg l)/\(∃l,y=.agg l):=by
 cases x<;>cases y<;>simp only[bj,reduceCtorEq,qe]at h;exact⟨h.symm,⟨_,rfl⟩,⟨_,rfl⟩⟩
def v8(s:Nat)(a:Option Nat)(q:aQ)(n i:Nat){x y:AV}{r:Bool}(h:bj (dm.itemsT s a q n i) x y=some r):(∃l,x=.agg l)/\(∃l,y=.agg l):=by
 cases n with
 |zero=>exact(RX h).2
 |succ n=>obtain⟨l,d,_,_,_,b,c,_⟩:=Rm h;exact⟨⟨l,b⟩,⟨d,c⟩⟩
def q22{go:TypeId->Option aQ}{fs:List Field}{q:aQ}(b:dm.fieldsT P go fs=some q){x y:AV}{r:Bool}(h:bj q x y=some r):(∃l,x=.agg l)/\(∃l,y=.agg l):=by
 cases fs with
 |nil=>injection b with b;subst b;exact(RX h).2
 |cons f fs =>
  simp only[dm.fieldsT]at b;split at b
  .cases b
  .simp only[qd]at b;obtain⟨a,_,i,_,j,_,b⟩:=b;injection b with b;subst b
   obtain⟨l,g,_,_,_,c,d,_⟩:=Rm h;exact⟨⟨l,c⟩,⟨g,d⟩⟩
def Cz(P:Program)(w:World)(D:Nat->Prop)(θ:Th)(m:Nat)(t:TypeId)(q:aQ):Prop :=
 ∀(x y:AV)(cx cy:Value)(r:Bool),VR D θ x cx->VR D θ y cy->bj q x y=some r->(Op.equalIn m t cx cy).run P w=.ok r w
def qxr{w:World}{D:Nat->Prop}{θ:Th}{m:Nat}{go:TypeId->Option aQ}(o:∀t q,go t=some q->Cz P w D θ m t q){l p:List AV}{cs cs':List Value}(hl:bL D θ l cs)(d:bL D θ p cs') :
 ∀(fs:List Field)(q:aQ)(r:Bool),dm.fieldsT P go fs=some q->bj q (.agg l) (.agg p)=some r->(Op.eqFields m cs.toArray cs'.toArray fs).run P w=.ok r w
 |[],q,r,b,h=>by
  injection b with b;subst b
  rw[(RX h).1];simp[Op.eqFields]
 |f::fs,q,r,b,h=>by
  simp only[dm.fieldsT]at b;split at b
  .cases b
  .rename_i hn;simp only[qd]at b;obtain⟨a,ha,G,j,I,n,b⟩:=b;injection b with b;subst b
   obtain⟨l1,l2,x,y,e,g,i,u,v,z,A,B⟩:=Rm h;injection g with g;injection i with i;subst g;subst i
   obtain⟨c,C,v1⟩:=Jh (w:=w) ha hl u;obtain⟨s,E,v2⟩:=Jh (w:=w) ha d v;have F:=o f.type G j x y c s e v1 v2 z;simp only[Op.eqFields,hn,ne_eq,not_false_eq_true,rj,Sem.run_bind,C,E,F,Result.andThen_ok];cases e
   .simp [B rfl]
   .simpa using qxr o hl d fs I r n (A rfl)
def q20{w:World}{D:Nat->Prop}{θ:Th}{m:Nat}{e:TypeId}{s:Nat}{a:Option Nat}{q:aQ}(ha:mX P e=some a)(j:Cz P w D θ m e q){l o:List AV}{cs cs':List Value}(hl:bL D θ l cs)(d:bL D θ o cs') :
 ∀(n i:Nat)(r:Bool),bj (dm.itemsT s a q n i) (.agg l) (.agg o)=some r->(Op.eqItems m e s cs.toArray cs'.toArray (List.range' i n)).run P w=.ok r w
 |0,i,r,h=>by rw[(RX h).1];simp[Op.eqItems]
 |n+1,i,r,h=>by
  obtain⟨l1,l2,x,y,b,f,g,t,u,v,z,A⟩:=Rm h;injection f with f;injection g with g;subst f;subst g
  obtain⟨c,B,v1⟩:=Jh (w:=w) ha hl t;obtain⟨p,C,v2⟩:=Jh (w:=w) ha d u;have E:=j x y c p b v1 v2 v;simp only[List.range'_succ,Op.eqItems,Sem.run_bind,B,C,E,Result.andThen_ok];cases b
  .simp [A rfl]
  .simpa using q20 ha j hl d n (i+1) r (z rfl)
def To(m:Nat){D:Nat->Prop}{θ:Th}(w:World):∀(d:Nat)(t:TypeId)(q:aQ),dm P d t=some q->Cz P w D θ (d+m) t q
 |0,_,_,h=>by cases h
 |d+1,t,q,h=>by
  intro x y G I r g j hr;unfold dm at h;have A:d+1+m=(d+m)+1:=by omega
  rw[A];cases hu:P.underlying t with
  |none=>rw[hu]at h;cases h
  |some kd =>
   rw[hu]at h;cases kd
   case int k0 =>
    injection h with h;subst h
    obtain⟨k,a,b,rfl,rfl,rfl⟩:=xgh hr;rw[<-g.now,<-j.now,az,az,run_equalIn_int w _ t k k0 a b hu]
   case string =>
    injection h with h;subst h
    obtain⟨a,b,rfl,rfl,rfl⟩:=xgi hr;rw[<-g.now,<-j.now,az,az,run_equalIn_string w _ t _ _ hu,ZW,ZW]
   case bool =>
    injection h with h;subst h
    obtain⟨a,b,rfl,rfl,rfl⟩:=xct hr;rw[<-g.now,<-j.now,az,az,run_equalIn_bool' w _ t _ _ hu]
   case struct fs =>
    simp only at h;split at h
    .cases h
    .rename_i u;have f:P.stoodInHeld t=false:=by simpa using u
     obtain⟨⟨l,rfl⟩,⟨E,rfl⟩⟩:=q22 h hr;obtain⟨cs,rfl,hl⟩:=g.eW;obtain⟨cs',rfl,c⟩:=j.eW;have v:=xcu hu;rw[run_equalIn_struct w _ t _ _ (by rw[v];exact hu) f,v];exact qxr (λ t q C=>To m w d t q C) hl c _ _ _ h hr
   case array n e =>
    simp only[qd]at h;obtain⟨s,hs,a,ha,F,p,h⟩:=h;injection h with h;subst h
    obtain⟨⟨l,rfl⟩,⟨E,rfl⟩⟩:=v8 _ _ _ _ _ hr;obtain⟨cs,rfl,hl⟩:=g.eW;obtain⟨cs',rfl,c⟩:=j.eW;obtain⟨i,z,o⟩:=uK hs;rw[run_equalIn_array _ _ _ _ hu z,List.range_eq_range'];have B:P.cellsOf e=s:=by simp[Program.cellsOf,z,o]
    rw[B];exact q20 ha (To m w d e F p) hl c n 0 r hr
   all_goals (cases h)
def Ru{off:Nat}{n:Option Nat}{t rest:aQ}{x:AV}(h:cW (.part off n t rest) x=true) :
 ∃l a,x=.agg l/\partAt l off n=some a/\cW t a=true/\cW rest (.agg l)=true:=by
 cases x<;>simp only[cW,zq]at h;rename_i l;split at h
 .rename_i a ha;cases b:cW t a with
  |false=>rw[b]at h;cases h
  |true=>rw[b]at h;exact⟨l,a,rfl,ha,b,h⟩
 .cases h
def q6x{x:AV}(h:cW .nil x=true):∃l,x=.agg l:=by
 cases x<;>simp only[cW,zq]at h;exact⟨_,rfl⟩
def xdk(s:Nat)(a:Option Nat)(q:aQ)(n i:Nat){x:AV}(h:cW (dm.itemsT s a q n i) x=true):∃l,x=.agg l:=by
 cases n with
 |zero=>exact q6x h
 |succ n=>obtain⟨l,_,b,_⟩:=Ru h;exact⟨l,b⟩
def xbb{go:TypeId->Option aQ}{fs:List Field}{q:aQ}(b:dm.fieldsT P go fs=some q){x:AV}(h:cW q x=true):∃l,x=.agg l:=by
 cases fs with
 |nil=>injection b with b;subst b;exact q6x h
 |cons f fs =>
  simp only[dm.fieldsT]at b;split at b
  .cases b
  .simp only[qd]at b;obtain⟨a,_,d,_,g,_,b⟩:=b;injection b with b;subst b
   obtain⟨l,_,c,_⟩:=Ru h;exact⟨l,c⟩
def Ij(P:Program)(w:World)(D:Nat->Prop)(θ:Th)(em:Bool)(m:Nat)(t:TypeId)(q:aQ):Prop :=
 ∀(x:AV)(cx:Value),VR D θ x cx->cW q x=true->(Instr.checkKey em m t cx).run P w=.ok () w
def q4h{w:World}{D:Nat->Prop}{θ:Th}{em:Bool}{m:Nat}{e:TypeId}{s:Nat}{a:Option Nat}{q:aQ}(ha:mX P e=some a)(hs:bQ P e=some s)(d:Ij P w D θ em m e q){l:List AV}{cs:List Value}(hl:bL D θ l cs) :
 ∀(n i:Nat),cW (dm.itemsT s a q n i) (.agg l)=true ->
  (forIn (List.range' i n) PUnit.unit (λ i _=>(do Instr.checkKey em m e (<-part e cs.toArray (i*(<-sizeOf e)));pure (ForInStep.yield PUnit.unit):Sem (ForInStep PUnit)))).run P w=.ok PUnit.unit w
 |0,i,h=>by simp
 |n+1,i,h=>by
  obtain⟨l1,x,b,f,g,j⟩:=Ru h;injection b with b;subst b
  obtain⟨c,o,v1⟩:=Jh (w:=w) ha hl f;have p:=d x c v1 g;simp only[List.range'_succ,List.forIn_cons,Sem.run_bind,tX hs,o,p,Result.andThen_ok,Sem.run_pure]
  simpa using q4h ha hs d hl n (i+1) j
def X0(em:Bool)(m:Nat){D:Nat->Prop}{θ:Th}(w:World):∀(d:Nat)(t:TypeId)(q:aQ),dm P d t=some q->Ij P w D θ em (d+m) t q
 |0,_,_,h=>by cases h
 |d+1,t,q,h=>by
  intro x B o hr;unfold dm at h;have p:d+1+m=(d+m)+1:=by omega
  rw[p];cases hu:P.underlying t with
  |none=>rw[hu]at h;cases h
  |some kd =>
   rw[hu]at h;cases kd
   case int k0=>simp[Instr.checkKey,j8 hu]
   case string=>simp[Instr.checkKey,j8 hu]
   case bool=>simp[Instr.checkKey,j8 hu]
   case struct fs =>
    simp only at h;split at h
    .cases h
    .obtain ⟨l,rfl⟩:=xbb h hr;obtain⟨cs,rfl,hl⟩:=o.eW;simp only[Instr.checkKey,Sem.run_bind,j8 hu,Result.andThen_ok];rw[<-Array.forIn_toList];clear hu;generalize fs.toList=L at h
     induction L generalizing q with
     |nil=>simp
     |cons f L ihL =>
      simp only[dm.fieldsT]at h;split at h
      .cases h
      .rename_i hn;simp only[qd]at h;obtain⟨a,ha,j,b,A,i,h⟩:=h;injection h with h;subst h
       obtain⟨l1,x,g,r,u,v⟩:=Ru hr;injection g with g;subst g
       obtain⟨c,y,v1⟩:=Jh (w:=w) ha hl r;have z:=X0 em m w d f.type j b x c v1 u;simp only[List.forIn_cons,Sem.run_bind,hn,ne_eq,not_false_eq_true,rj,Result.andThen_ok,y,z,Sem.run_pure];exact ihL A v i
   case array n e =>
    simp only[qd]at h;obtain⟨s,hs,a,ha,j,b,h⟩:=h;injection h with h;subst h
    obtain⟨l,rfl⟩:=xdk _ _ _ _ _ hr;obtain⟨cs,rfl,hl⟩:=o.eW;have:=q4h (w:=w) (em:=em) ha hs (X0 em m w d e j b) hl n 0 hr;simp only[Instr.checkKey,Sem.run_bind,j8 hu,Result.andThen_ok];simp only[Std.Legacy.Range.forIn_eq_forIn_range',Std.Legacy.Range.size,HU,Nat.add_one_sub_one,Nat.div_one];simp at this;simp[this]
   all_goals (cases h)
def Vd{em:Bool}{D:Nat->Prop}{θ:Th}{w:World}{t:TypeId}{q:aQ}(h:qV P t=some q){x:AV}{a:Value}(b:VR D θ x a)(hr:cW q x=true) :
 (Instr.checkKey em 10000 t a).run P w=.ok () w:=X0 em 9980 w 20 t q h x a b hr
def Af{D:Nat->Prop}{θ:Th}{w:World}{t:TypeId}{q:aQ}(h:qV P t=some q){x y:AV}{a b:Value}{r:Bool}(c:VR D θ x a)(d:VR D θ y b)(hr:bj q x y=some r) :
 (Op.equal t a b).run P w=.ok r w:=To 9980 w 20 t q h x y a b r c d hr
def Iu(D:Nat->Prop)(θ:Th):Option (Nat×AV)->Option (Nat×Value)->Prop
 |none,none=>True
 |some (i,v),some (j,c)=>i=j/\VR D θ v c
 |_,_=>False
def sM{D:Nat->Prop}{θ:Th}{w:World}{t:TypeId}{q:aQ}(h:qV P t=some q){k:AV}{d:Value}(hk:VR D θ k d) :
 ∀(es:List (AV×AV×Nat))(ms:List MapEntry)(i:Nat)(r:Option (Nat×AV)),dc D θ es ms->findKey q k es i=some r ->
  ∃a,(Instr.findAsking t d ms i).run P w=.ok a w/\Iu D θ r a
 |[],[],i,r,_,hr=>by
  simp only[findKey,qe]at hr;subst hr;exact⟨none,by simp[Instr.findAsking],trivial⟩
 |(k',v,b)::es,e::ms,i,r,⟨⟨h1,h2,_⟩,hes⟩,hr=>by
  simp only[findKey,qd]at hr;obtain⟨c,j,hr⟩:=hr;have:=Af (w:=w) h hk h1 j;cases c
  .obtain ⟨a,f,g⟩:=sM (w:=w) h hk es ms (i+1) r hes hr;exact⟨a,by simp[Instr.findAsking,this,f],g⟩
  .simp only[xq,qe]at hr;subst hr;exact⟨some (i,e.val),by simp[Instr.findAsking,this],rfl,h2⟩
 |[],_::_,_,_,h,_=>h.elim
 |_::_,[],_,_,h,_=>h.elim
def xd1{t:TypeId}{d:TypeDesc}(hu:P.underlying t=some d){x y:Value}{b:Bool}(h:Instr.sameNow d x y=some b)(w:World):(Op.equal t x y).run P w=.ok b w:=by
 unfold Instr.sameNow at h;split at h
 .rename_i k a k' c;split at h
  .rename_i hk;subst hk;injection h with h;subst h
   exact run_equalIn_int w _ t _ _ _ _ hu
  .cases h
 .injection h with h;subst h
  show(Op.equalIn (9999+1) t _ _).run P w=_;rw[run_equalIn_string w _ t _ _ hu,beq_toListBytes]
 .injection h with h;subst h
  exact run_equalIn_bool' w _ t _ _ hu
 .cases h
def q25{t:TypeId}{d:TypeDesc}(hu:P.underlying t=some d){c:Value}(w:World):∀(ms:List MapEntry)(i:Nat)(r a:Option (Nat×Value)),
 Instr.findNow d c ms i=some r->(Instr.findAsking t c ms i).run P w=.ok a w->r=a
 |[],i,r,a,h,h'=>by
  simp[Instr.findNow]at h;simp[Instr.findAsking]at h';rw[<-h,<-h']
 |e::ms,i,r,a,h,h'=>by
  simp only[Instr.findNow]at h;cases hs:Instr.sameNow d c e.key with
  |none=>rw[hs]at h;cases h
  |some b =>
   rw[hs]at h;have:=xd1 hu hs w;cases b
   .simp [Instr.findAsking,this]at h';exact q25 hu w ms (i+1) r a h h'
   .simp [Instr.findAsking,this]at h';simp at h;rw[<-h,<-h']
def na{D:Nat->Prop}{θ:Th}{w:World}{t:TypeId}{q:aQ}(h:qV P t=some q){k:AV}{b:Value}(hk:VR D θ k b){es:List (AV×AV×Nat)}{ms:List MapEntry}{r:Option (Nat×AV)}
 (c:dc D θ es ms) (hr:findKey q k es 0=some r):∃a,(Instr.findKey t b ms).run P w=.ok a w/\Iu D θ r a:=by
 obtain⟨a,f,g⟩:=sM (w:=w) h hk es ms 0 r c hr;have hu:∃d,P.underlying t=some d:=by
  cases hu:P.underlying t with
  |none=>simp[qV,dm,hu]at h
  |some d=>exact⟨d,rfl⟩
 obtain⟨d,hu⟩:=hu;refine⟨a,?_,g⟩;simp only[Instr.findKey,Sem.run_bind,j8 hu,Result.andThen_ok];cases hn:Instr.findNow d b ms 0 with
 |none=>simpa using f
 |some r2=>simp[q25 hu w ms 0 r2 a hn f]
def xdq{o:Oper}{t n e:TypeId}{E kk:Operand}{ok:Bool}{q:aQ}{z:AV}(ho:o.op=.lookup t E kk ok)(hu:P.underlying t=some (.map n e))(A:qV P n=some q)(J:zeroOf P e=some z) :
 pY P o [E,kk] (Op.lookup q z ok):=by
 intro base D θ H ρ w vs v I h a;obtain⟨B,f,g⟩:=Kc (w:=w) J;unfold Op.lookup at a;split at a
 .rename_i k;obtain⟨x,y,he,ha,hb⟩:=h.p5;simp only[zk,rk]at he;obtain⟨rfl,rfl⟩:=he;cases c:cW q k with
  |false=>rw[c]at a;cases a
  |true =>
   rw[c]at a;simp only[xq,qe]at a;have j:=λ em=>Vd (em:=em) (w:=w) A hb c;have C:(Instr.findKey n (ρ kk) []).run P w=.ok none w:=by
    have hu:∃d,P.underlying n=some d:=by
     cases hu:P.underlying n with
     |none=>simp[qV,dm,hu]at A
     |some d=>exact⟨d,rfl⟩
    obtain⟨d,hu⟩:=hu;simp[Instr.findKey,j8 hu,Instr.findNow]
   subst a;cases ok
   .refine ⟨B,.inl ?_,g _ _⟩;simp[execOp,ho,Instr.lookup,j8 hu,<-ha.now,az,j,C,f]
   .refine ⟨.tuple [B,.bool false].toArray,.inl ?_,.tuple (.cons (g _ _) (.one (.bool _)))⟩;simp[execOp,ho,Instr.lookup,j8 hu,<-ha.now,az,j,C,f]
 .rename_i b k;obtain⟨x,y,he,ha,hb⟩:=h.p5;simp only[zk,rk]at he;obtain⟨rfl,rfl⟩:=he;cases c:cW q k with
  |false=>rw[c]at a;cases a
  |true =>
   rw[c]at a;simp only[xq,qd]at a;obtain⟨m,hm,r,hr,a⟩:=a;obtain⟨_,_,ms,u,G⟩:=I.gA hm;have j:=λ em=>Vd (em:=em) (w:=w) A hb c;obtain⟨F,s,l⟩:=na (w:=w) A hb G hr;cases r with
   |none =>
    cases F with
    |some _=>exact l.elim
    |none =>
     simp only[qe]at a;subst a;cases ok
     .refine ⟨B,.inl ?_,g _ _⟩;simp[execOp,ho,Instr.lookup,j8 hu,<-ha.now,az,j,s,f,J0 u]
     .refine ⟨.tuple [B,.bool false].toArray,.inl ?_,.tuple (.cons (g _ _) (.one (.bool _)))⟩;simp[execOp,ho,Instr.lookup,j8 hu,<-ha.now,az,j,s,f,J0 u]
   |some p =>
    obtain⟨i,pv⟩:=p;cases F with
    |none=>exact l.elim
    |some p' =>
     obtain⟨K,pc⟩:=p';obtain⟨_,l⟩:=l;simp only[qe]at a;subst a;cases ok
     .refine ⟨pc,.inl ?_,l⟩;simp[execOp,ho,Instr.lookup,j8 hu,<-ha.now,az,j,s,J0 u]
     .refine ⟨.tuple [pc,.bool true].toArray,.inl ?_,.tuple (.cons l (.one (.bool _)))⟩;simp[execOp,ho,Instr.lookup,j8 hu,<-ha.now,az,j,s,J0 u]
 .cases a
end
end Go.Am
namespace Go.Am
section
variable{P:Program}{base:Nat}{D:Nat->Prop}{θ:Th}{H:ar}{w:World}
def isStr:AV->Bool
 | .str _=>true
 |_=>false
def Wz(r:HR P base D θ H w){x:AV}{c:Value}{size n k:Nat}{l:List AV}(f:VR D θ x c)(hk:fj x=some k)(hn:n<=k)(hs:isStr x=false)
 (h:firstCells H size n x=some l):∃a len cap,c=.slice a len cap/\len=k/\((a=none/\l=[]/\n=0/\k=0) \/
  ∃ad cs,a=some ad/\(loadCells ad (n*size)).run P w=.ok cs.toArray w/\bL D θ l cs/\l.length=n*size):=by
 have q:∀a,(loadCells a 0).run P w=.ok ([]:List Value).toArray w:=λ a=>rfl;cases x<;>simp only[fj,reduceCtorEq,qe]at hk
 case str s=>cases hs
 case nils =>
  subst hk;simp only[firstCells,qe]at h;subst h;exact⟨none,0,0,f.now.symm,rfl,.inl ⟨rfl,rfl,by omega,rfl⟩⟩
 case slice b o n' cp =>
  subst hk;simp only[firstCells]at h;refine⟨_,_,_,f.now.symm,rfl,.inr ?_⟩;cases hb:Nat.beq n 0 with
  |true =>
   have:n=0:=by simpa using hb
   subst this;rw[hb]at h;injection h with h;subst h
   exact⟨_,[],rfl,by simpa using q _,.nil,by simp⟩
  |false =>
   rw[hb]at h;obtain⟨cs,g,j,p⟩:=r.aq h;exact⟨_,cs,rfl,g,j,p⟩
 case eslice b =>
  subst hk;have:n=0:=by omega
  subst this;simp only[firstCells,Nat.beq,xq,qe]at h;subst h;exact⟨_,_,_,f.now.symm,rfl,.inr ⟨_,[],rfl,by simpa using q _,.nil,by simp⟩⟩
 case gslice b i m s alt n' =>
  subst hk;simp only[firstCells]at h;refine⟨_,_,_,f.now.symm,rfl,.inr ?_⟩;cases hb:Nat.beq n 0 with
  |true =>
   have:n=0:=by simpa using hb
   subst this;rw[hb]at h;injection h with h;subst h
   exact⟨_,[],rfl,by simpa using q _,.nil,by simp⟩
  |false =>
   rw[hb]at h;simp only[zj]at h;cases d:(Nat.beq s size && Nat.blt i m)with
   |false=>rw[d]at h;cases h
   |true =>
    rw[d]at h;simp only[xt,ji,tZ]at d;obtain⟨rfl,t⟩:=d;obtain⟨cs,g,j,p⟩:=r.aq h;refine⟨_,cs,rfl,?_,j,p⟩;rw[qo (by omega)];exact g
end
end Go.Am
namespace Go.Am
section
variable{P:Program}{base:Nat}{D:Nat->Prop}{θ:Th}{H:ar}{w:World}
def Ut{w:World}{r:Nat}{c:Array Value}{e:TypeId}{fz:Nat×Nat}(h:w.heap[r]? = some (.cells c e fz)):w.shape? r=some (e,c.size):=by
 simp[World.shape?,h]
def qzp{w:World}{r:Nat}{c:Array Value}{e:TypeId}{fz:Nat×Nat}(h:w.heap[r]? = some (.cells c e fz)):(viewAt r).run P w=.ok none w:=by
 simp[viewAt,Ut h]
def qot{w:World}{a:Addr}{c:Array Value}{e:TypeId}{fz:Nat×Nat}(h:w.heap[a.block]? = some (.cells c e fz)):(noView a).run P w=.ok () w:=by
 simp[noView,qzp h]
def SV{a b:AV->Bool}{x y:AV}{q:Bool}(h:rR a b x y=some q) :
 (a x=true/\a y=true/\q=true)\/(a x=true/\b y=true/\q=false)\/(b x=true/\a y=true/\q=false):=by
 unfold rR at h;cases c:a x<;>cases d:a y<;>cases f:b x<;>cases g:b y<;>simp_all
def Yb.not{a:Nat×Nat}(h:Yb (0,0) a)(i:Nat):¬(a.1<=i/\i<a.2):=by
 rcases h with h|⟨_,h⟩<;>simp at *<;>omega
def xkr(p:HR P base D θ H w){b g o o':Nat}(z:b≠g)(h:wR H b g=true) :
 (sameAddr ⟨θ.bV b,θ.off b+o,none⟩ ⟨θ.bV g,θ.off g+o',none⟩).run P w=.ok false w:=by
 have key:∀(d f o1 o2:Nat)(B C:Array Value)(O Q:TypeId)(m n:Nat×Nat),d≠f->w.heap[d]? = some (.cells B O m)->w.heap[f]? = some (.cells C Q n) ->
  ((∀i,¬(m.1<=i/\i<m.2))/\C.size≠0\/(∀i,¬(n.1<=i/\i<n.2))/\B.size≠0)->(sameAddr ⟨d,o1,none⟩ ⟨f,o2,none⟩).run P w=.ok false w:=by
  intro d f o1 o2 B C O Q m n hk K s v;have s1:=Ut K;have s2:=Ut s;have n1:(noView ⟨d,o1,none⟩).run P w=_:=qot K;have n2:(noView ⟨f,o2,none⟩).run P w=_:=qot s;have G:∀i,w.frozen? ⟨d,i,none⟩=(decide (m.1<=i) && decide (i<m.2)):=λ i=>by simp[World.frozen?,K]
  have I:∀i,w.frozen? ⟨f,i,none⟩=(decide (n.1<=i) && decide (i<n.2)):=λ i=>by simp[World.frozen?,s]
  have y:(d == f)=false:=by simpa using hk
  rcases v with⟨M,N⟩|⟨M,N⟩
  .have J:∀i,w.frozen? ⟨d,i,none⟩=false:=λ i=>by rw[G];have:=M i;simp at this⊢;omega
   simp only[sameAddr,Sem.run_bind,run_frozen,J,n1,n2,y,mayBeOne,stringish,run_shape,s1,s2,Sem.run_ite,Bool.false_and,zq,nS,Sem.run_pure,Result.andThen_ok];cases w.frozen? ⟨f,o2,none⟩<;>simp[N,s2]
  .have r:∀i,w.frozen? ⟨f,i,none⟩=false:=λ i=>by rw[I];have:=M i;simp at this⊢;omega
   simp only[sameAddr,Sem.run_bind,run_frozen,r,n1,n2,y,mayBeOne,stringish,run_shape,s1,Sem.run_ite,Bool.and_false,zq,nS,Sem.run_pure,Result.andThen_ok];cases w.frozen? ⟨d,o1,none⟩<;>simp[N,s1,s2,r]
 unfold wR at h;split at h
 .rename_i c e x T e' V W hb a;obtain⟨_,co,v,pre,cs,post,E,U,rfl,s,R,S⟩:=p.obj b _ hb;obtain⟨_,co',j,A,cs',l,q,F,rfl,L,t,u⟩:=p.obj g _ a;refine key _ _ _ _ _ _ _ _ _ _ (p.inj b g _ _ hb a rfl z) v j (.inl ⟨(S rfl).2.2.2.not,?_⟩);have:=t.length;simp only[List.size_toArray,qv,z7]at this⊢;omega
 .rename_i c e fz ow T e' hb a;obtain⟨_,co,v,pre,cs,post,E,U,rfl,s,R,S⟩:=p.obj b _ hb;obtain⟨_,co',j,A,cs',l,q,F,rfl,L,t,u⟩:=p.obj g _ a;refine key _ _ _ _ _ _ _ _ _ _ (λ e=>p.inj g b _ _ a hb rfl (λ e=>z e.symm) e.symm) v j (.inr ⟨(u rfl).2.2.2.not,?_⟩);have:=R.length;simp only[List.size_toArray,qv,z7]at this⊢;omega
 .cases h
def vO(P:Program)(t:TypeId)(x y:Operand):rE->Prop
 | .bool=>P.underlying t=some .bool
 | .ptr=>∃e n,P.underlying t=some (.pointer e)/\bQ P e=some (n+1)
 | .slice=>∃e,P.underlying t=some (.slice e)
 | .map=>∃k e,P.underlying t=some (.map k e)
 | .func=>∃a b c,P.underlying t=some (.func a b c)
 | .iface=>∃ms,P.underlying t=some (.interface ms)/\((∃v,x=.const v) \/ ∃v,y=.const v)
 | .ifaces f=>(∃ms,P.underlying t=some (.interface ms)) /\ ∀u q,f u=some q->dm P 20 u=some q /\ ∃i,P.info? u=some i/\i.comparable=true
 | .agg q=>P.eqGuardType P.depth t=false/\qV P t=some q/\((∃fs,P.underlying t=some (.struct fs)) \/ ∃n e,P.underlying t=some (.array n e))
set_option maxHeartbeats 2000000 in
def Kx(hh:HR P base D θ H w){t:TypeId}{x y:Operand}{ρ:Operand->Value}{k:rE}(hk:vO P t x y k){a b:AV}(ha:VR D θ a (ρ x))(hb:VR D θ b (ρ y)){q:Bool}
 (h:Ig H k a b=some q) (op:BinOp) (g:op=.eql\/op=.neq) :
 ((do eqGuard op t x y (ρ x) (ρ y);binOp op t (ρ x) (ρ y)):Sem Value).run P w=.ok (.bool (if op=.neq then !q else q)) w:=by
 have fin:(eqGuard op t x y (ρ x) (ρ y)).run P w=.ok () w->(Op.equal t (ρ x) (ρ y)).run P w=.ok q w->(binOp .eql t (ρ x) (ρ y)).run P w=((do pure (.bool (<-Op.equal t (ρ x) (ρ y)))):Sem Value).run P w ->
  (binOp .neq t (ρ x) (ρ y)).run P w=((do pure (.bool (!(<-Op.equal t (ρ x) (ρ y))))):Sem Value).run P w ->
  ((do eqGuard op t x y (ρ x) (ρ y);binOp op t (ρ x) (ρ y)):Sem Value).run P w=.ok (.bool (if op=.neq then !q else q)) w:=by
  intro I G h3 h4;rw[Sem.run_bind,I,Result.andThen_ok];rcases g with rfl|rfl
  .rw [h3];simp[G]
  .rw [h4];simp[G]
 obtain⟨dd,j,W⟩:∃d,(∀p q,Op.equal t p q=Op.equalIn (d+1) t p q) /\ ∃m,d=20+m:=⟨9999,λ _ _=>rfl,9979,rfl⟩
 cases k
 case bool =>
  cases a<;>cases b<;>simp only[Ig,reduceCtorEq,qe]at h;subst h;have hu:P.underlying t=some .bool:=hk;rw[<-ha.now,<-hb.now];rw[<-ha.now,<-hb.now]at fin;refine fin ?_ (run_equalIn_bool' w _ t _ _ hu) (by simp only[az,binOp]) (by simp only[az,binOp]);rcases g with rfl|rfl<;>simp[eqGuard,az]
 case ptr =>
  obtain⟨e,n,hu,hs⟩:=hk;have L:=tX (w:=w) hs;have B:(Op.equal t (ρ x) (ρ y)).run P w=.ok q w:=by
   cases a<;>cases b<;>simp only[Ig,reduceCtorEq,qe]at h
   .subst h;rw[<-ha.now,<-hb.now,j];simp[az,Op.equalIn,j8 hu]
   .subst h;rw[<-ha.now,<-hb.now,j];simp[az,Op.equalIn,j8 hu]
   .subst h;rw[<-ha.now,<-hb.now,j];simp[az,Op.equalIn,j8 hu]
   .rename_i E o1 F o2;rw[<-ha.now,<-hb.now,j];simp only[az,Op.equalIn,Sem.run_bind,j8 hu,Result.andThen_ok,L,ne_eq,Nat.succ_ne_zero,not_false_eq_true,rj];cases u:Nat.beq E F with
    |true =>
     rw[u]at h;have:E=F:=by simpa using u
     subst this;simp only[xq,qe]at h;subst h;simp only[sameAddr,beq_self_eq_true,rj,Sem.run_pure];congr 1
     by_cases ho:o1=o2
     .subst ho;simp
     .have:Nat.beq o1 o2=false:=by simpa[<-Bool.not_eq_true,ji]using ho
      rw[this];simp[ho]
    |false =>
     rw[u]at h;simp only[zj]at h;cases hp:wR H E F with
     |false=>rw[hp]at h;cases h
     |true =>
      rw[hp]at h;simp only[xq,qe]at h;subst h;have z:E≠F:=λ e=>by subst e;simp at u
      exact xkr hh z hp
  cases a<;>cases b<;>simp only[Ig,reduceCtorEq,qe]at h <;>
   (rw[<-ha.now,<-hb.now]at B⊢;rw[<-ha.now,<-hb.now]at fin
    exact fin (by rcases g with rfl|rfl<;>simp[eqGuard,az]) B (by simp only[az,binOp]) (by simp only[az,binOp]))
 case slice =>
  obtain⟨e,hu⟩:=hk;have r:=SV h;cases a<;>cases b<;>simp[DV,isSlice]at r <;>
   (subst r;rw[<-ha.now,<-hb.now];rw[<-ha.now,<-hb.now]at fin
    exact fin (by rcases g with rfl|rfl<;>simp[eqGuard,az]) (by rw[j];simp[az,Op.equalIn,j8 hu]) (by simp only[az,binOp]) (by simp only[az,binOp]))
 case map =>
  obtain⟨k,e,hu⟩:=hk;have r:=SV h;cases a<;>cases b<;>simp[A8,isMap]at r <;>
   (subst r;rw[<-ha.now,<-hb.now];rw[<-ha.now,<-hb.now]at fin
    exact fin (by rcases g with rfl|rfl<;>simp[eqGuard,az]) (by rw[j];simp[az,Op.equalIn,j8 hu]) (by simp only[az,binOp]) (by simp only[az,binOp]))
 case func =>
  obtain⟨p1,p2,p3,hu⟩:=hk;have r:=SV h;cases a<;>cases b<;>simp[Au,Pq]at r <;>
   (subst r;rw[<-ha.now,<-hb.now];rw[<-ha.now,<-hb.now]at fin
    exact fin (by rcases g with rfl|rfl<;>simp[eqGuard,az]) (by rw[j];simp[az,Op.equalIn,j8 hu]) (by simp only[az,binOp]) (by simp only[az,binOp]))
 case iface =>
  obtain⟨ms,hu,Q⟩:=hk;have r:=SV h;cases a<;>cases b<;>simp[AD,isIface]at r <;>
   (subst r;rw[<-ha.now,<-hb.now];rw[<-ha.now,<-hb.now]at fin
    exact fin (by rcases g with rfl|rfl<;>rcases Q with⟨v,rfl⟩|⟨v,rfl⟩<;>simp[eqGuard,az]) (by rw[j];simp[az,Op.equalIn,j8 hu]) (by simp only[az,binOp]) (by simp only[az,binOp]))
 case ifaces f =>
  obtain⟨⟨ms,hu⟩,hf⟩:=hk;cases a<;>cases b<;>simp only[Ig,reduceCtorEq,qe]at h
  .rename_i R v1 T v2;obtain⟨U,J,N⟩:=ha.lF;obtain⟨V,K,O⟩:=hb.lF;rw[J,K]at fin⊢;refine fin (by rcases g with rfl|rfl<;>simp[eqGuard]) ?_ (by simp only[binOp]) (by simp only[binOp]);rw[j];cases o:Nat.beq R T with
   |true =>
    rw[o]at h;simp only[ji]at o;subst o;simp only[xq,qd]at h;obtain⟨S,M,h⟩:=h;obtain⟨X,i,Y,Z⟩:=hf _ _ M;obtain⟨m,rfl⟩:=W;have C:=To m (D:=D) (θ:=θ) w 20 R S X v1 v2 U V q N O h;simp[Op.equalIn,j8 hu,typeInfo,Y,Z,C]
   |false =>
    rw[o]at h;have z:R≠T:=λ e=>by subst e;simp at o
    simp only[zj,qe]at h;subst h;simp[Op.equalIn,j8 hu,z]
  .subst h;rw[<-ha.now,<-hb.now];rw[<-ha.now,<-hb.now]at fin;exact fin (by rcases g with rfl|rfl<;>simp[eqGuard,az]) (by rw[j];simp[az,Op.equalIn,j8 hu]) (by simp only[az,binOp]) (by simp only[az,binOp])
  .subst h;rw[<-ha.now,<-hb.now];rw[<-ha.now,<-hb.now]at fin;exact fin (by rcases g with rfl|rfl<;>simp[eqGuard,az]) (by rw[j];simp[az,Op.equalIn,j8 hu]) (by simp only[az,binOp]) (by simp only[az,binOp])
 case agg S =>
  obtain⟨hg,c,hu⟩:=hk;have B:=Af (w:=w) c ha hb h;have A:(∃l,a=.agg l) /\ ∃l,b=.agg l:=by
   have c:dm P (19+1) t=some S:=c;rw[dm]at c;rcases hu with⟨fs,hu⟩|⟨n,e,hu⟩
   .rw [hu]at c;simp only at c;split at c
    .cases c
    .exact q22 c h
   .rw [hu]at c;simp only[qd]at c;obtain⟨s,hs,a',ha',q1,hq1,c⟩:=c;injection c with c;subst c
    exact v8 _ _ _ _ _ h
  obtain⟨⟨l,rfl⟩,⟨l',rfl⟩⟩:=A;obtain⟨cs,I,_⟩:=ha.eW;obtain⟨cs',G,_⟩:=hb.eW;rw[I,G]at B fin⊢;exact fin (run_eqGuard_agg w _ t x y _ _ hg) B (by simp only[binOp]) (by simp only[binOp])
def xky{o:Oper}{t g:TypeId}{x y:Operand}{k:rE}{neg:Bool}(ho:o.op=.binOp (if neg then .neq else .eql) t x y g)(hk:vO P t x y k):pY P o [x,y] (Op.eq k neg):=by
 intro base D θ H ρ w vs v d h c;unfold Op.eq at c;split at c
 .rename_i a b;obtain⟨i,j,he,ha,hb⟩:=h.p5;simp only[zk,rk]at he;obtain⟨rfl,rfl⟩:=he;simp only[qd]at c;obtain⟨q,f,c⟩:=c;injection c with c;subst c
  have:=Kx d hk ha hb f (if neg then .neq else .eql) (by cases neg<;>simp);refine⟨_,.inl ?_,.bool _⟩;simp only[execOp,ho];rw[Sem.run_bind,this];cases neg<;>simp
 .cases c
end
end Go.Am
namespace Go.Am
structure nF(w w0:World):Prop where
 heap:w0.heap=w.heap
 os:w0.os=w.os
 tape:w0.tape=w.tape
 output:w0.output=w.output
def nF.refl(w:World):nF w w:=⟨rfl,rfl,rfl,rfl⟩
def nF.trans{a b c:World}(h:nF a b)(d:nF b c):nF a c:=⟨d.heap.trans h.heap,d.os.trans h.os,d.tape.trans h.tape,d.output.trans h.output⟩
def lH(P:Program)(o:Oper)(xs:List Operand)(f:List AV->Option (bH×(Nat->AV))):Prop :=
 ∀(D:Nat->Prop)θ(ρ:Operand->Value)w vs ob mk,bL D θ vs (xs.map ρ)->f vs=some (ob,mk) ->
  own ob=true /\ ∃w0 co ext c,(execOp ρ o).run P w=.ok (.value c) (w0.alloc co)/\nF w w0 /\
   ∀(D':Nat->Prop)θ' id,Ag D θ θ'->(∀b,D b->D' b)->D' id -> θ'.bV id=w.heap.size -> θ'.off id=0 -> θ'.ext id=ext->nU P D' θ' id ob co/\VR D' θ' (mk id) c
section
variable{P:Program}
def RI{D':Nat->Prop}{θ':Th}{id:Nat}{cells:List AV}{cs:List Value}{e:TypeId}(h:bL D' θ' cells cs)(ho:θ'.off id=0) :
 nU P D' θ' id (.row cells e (0,0) true) (.cells cs.toArray e (0,0)) :=
 ⟨[],cs,[],(0,0),_,by simp,by simp[ho],h,λ _=>⟨rfl,rfl,rfl,.inl rfl⟩⟩
def Zg{D':Nat->Prop}{θ':Th}{id k:Nat}(a:D' id)(hb:θ'.bV id=k)(ho:θ'.off id=0):VR D' θ' (Op.ptrTo id) (.pointer (some ⟨k,0,none⟩)):=by
 have:=VR.ptr (θ:=θ') (o:=0) a;rw[hb,ho]at this;exact this
def ZS{D':Nat->Prop}{θ':Th}{id k n m:Nat}(a:D' id)(hb:θ'.bV id=k)(ho:θ'.off id=0):VR D' θ' (Op.sliceTo n m id) (.slice (some ⟨k,0,none⟩) n m):=by
 have:=VR.slice (θ:=θ') (o:=0) (n:=n) (c:=m) a;simp only[az,hb,ho]at this;exact this
def xcb{o:Oper}{e:TypeId}{z:AV}(ho:o.op=.alloc e)(j:zeroOf P e=some z):lH P o [] (Op.alloc e z.cells):=by
 intro D θ ρ w vs n mk h b;unfold Op.alloc at b;split at b
 .injection b with b;injection b with g i;subst g;subst i
  obtain⟨l,d,f⟩:=Kc (w:=w) j;refine⟨rfl,w,.cells l.cells e (0,0),0,.pointer (some ⟨w.heap.size,0,none⟩),?_,.refl w,λ D' θ' id ha m c hb a _=>⟨?_,Zg c hb a⟩⟩
  .simp [execOp,ho,Instr.alloc,d,newVar,newRow]
  .have:=RI (P:=P) (e:=e) (f D' θ').cells a
   simpa using this
 .cases b
def xie{o:Oper}{e:TypeId}{x:Operand}(ho:o.op=.box e x):lH P o [x] (Op.box e):=by
 intro D θ ρ w vs i mk h b;unfold Op.box at b;split at b
 .rename_i v;obtain⟨j,he,ha⟩:=h.pI;simp only[zk,rk]at he;subst he;injection b with b;injection b with d f;subst d;subst f
  refine⟨rfl,w,.cells (ρ x).cells e (0,0),0,.pointer (some ⟨w.heap.size,0,none⟩),?_,.refl w,λ D' θ' id hg g c hb a _=>⟨?_,Zg c hb a⟩⟩
  .simp [execOp,ho,Instr.box,newVar,newRow]
  .have:=RI (P:=P) (e:=e) (ha.up hg g).cells a
   simpa using this
 .cases b
def YM{o:Oper}{t:TypeId}{r:Option Operand}(ho:o.op=.makeMap t r)(hr:r=none\/(∃k n,r=some (.const (.int k n)) /\ ∃a b,P.underlying t=some (.map a b)))
 (p:∀(ρ:Operand->Value),True):∀(D:Nat->Prop)θ(ρ:Operand->Value)w vs f mk,(∀v,ρ (.const v)=v)->bL D θ vs (([]:List Operand).map ρ)->Op.mkMap vs=some (f,mk) ->
 own f=true /\ ∃w0 co ext c,(execOp ρ o).run P w=.ok (.value c) (w0.alloc co)/\nF w w0 /\
  ∀(D':Nat->Prop)θ' id,Ag D θ θ'->(∀b,D b->D' b)->D' id -> θ'.bV id=w.heap.size -> θ'.off id=0 -> θ'.ext id=ext->nU P D' θ' id f co/\VR D' θ' (mk id) c:=by
 intro D θ ρ w vs f mk m h d;unfold Op.mkMap at d;split at d
 .injection d with d;injection d with j l;subst j;subst l
  refine⟨rfl,w,.map #[] 0,0,.map (some w.heap.size),?_,.refl w,λ D' θ' id hg q g hb i _=>⟨⟨[],rfl,trivial⟩,?_⟩⟩
  .rcases hr with rfl|⟨k,n,rfl,a,b,hu⟩
   .simp [execOp,ho,Instr.makeMap]
   .simp [execOp,ho,Instr.makeMap,j8 hu,m,asInt,asIntOf]
  .have:=VR.map (θ:=θ') g
   rwa [hb]at this
 .cases d
def XU{D:Nat->Prop}{θ:Th}{z:List AV}{a:List Value}(h:bL D θ z a)(n:Nat):bL D θ (fq n z) (List.replicate n a).flatten:=by
 induction n with
 |zero=>exact .nil
 |succ n ih =>
  simp only[fq,oE,P2,PZ];exact h.app ih
def X8(a:List Value)(n:Nat):((Array.range (n*a.length)).map (λ i=>a.toArray[i % a.toArray.size]!))=(List.replicate n a).flatten.toArray:=by
 apply Fk;simp only[Array.toList_map,Array.toList_range,List.size_toArray]
 induction n with
 |zero=>simp
 |succ n ih =>
  rw[show(n+1)*a.length=a.length+n*a.length from by rw[yg];omega,List.range_add,HY,wo,P2,PZ];congr 1
  .apply List.ext_getElem
   .simp
   .intro i b c;simp at b;simp[Nat.mod_eq_of_lt b,b]
  .rw [<-ih];apply List.map_congr_left;intro i d;simp
def qx5{o:Oper}{t e:TypeId}{len n:Nat}{parts:Array (Nat×Operand)}{z:AV}{x:List (Nat×Nat)}(ho:o.op=.buildSlice t len parts)(hu:P.underlying t=some (.slice e))
 (hs:bQ P e=some n) (I:zeroOf P e=some z) (hp:zZ (Jk n) parts.toList=some x) (K:z.cells.length=n) (y:len*n<=16777216) :
 lH P o (parts.toList.map (·.2)) (Op.buildSlice e len z.cells x):=by
 intro D θ ρ w vs L mk h g;simp only[Op.buildSlice,qd]at g;obtain⟨c,F,g⟩:=g;injection g with g;injection g with C E;subst C;subst E
 obtain⟨j,v,m⟩:=Kc (w:=w) I;have J:=(m D θ).cells.length;have l:bL D θ (fq len z.cells) (List.replicate len j.cells.toList).flatten:=XU (m D θ).cells len;have u:bL D θ vs (parts.toList.map λ p=>ρ p.2):=by simpa[wo,Function.comp_def]using h
 obtain⟨cout,A,B⟩:=UA x vs parts.toList (Jk n) c hp u _ _ l F;have s:j.cells.size=n:=by rw[<-vi];omega
 refine⟨rfl,w,.cells cout.toArray e (0,0),0,.slice (some ⟨w.heap.size,0,none⟩) len len,?_,.refl w,λ D' θ' id hg G r hb f _=>⟨RI (B.up hg G) f,ZS r hb f⟩⟩;have a:=X8 j.cells.toList len;rw[show j.cells.toList.length=n from by omega]at a;simp only[Ov]at a;have b:Instr.fill (λ i=>some (i*n,n)) (((Array.range (len*n)).map (λ i=>j.cells[i % j.cells.size]!))) ((parts.map λ(p:Nat×Operand)=>(p.1,ρ p.2)).toList)=some cout.toArray:=by
  rw[a,xko];exact A
 by_cases q:len*n=0
 .have d:Instr.fill (λ i=>some (i*n,n)) #[] ((parts.map λ(p:Nat×Operand)=>(p.1,ρ p.2)).toList)=some cout.toArray:=by
   rw[q,show Array.range 0 = #[]from rfl]at b;simpa only[Array.map_empty]using b
  simp only[execOp,ho,Instr.buildSlice,Sem.run_bind,j8 hu,Result.andThen_ok,tX hs,q,show Array.range 0 = #[]from rfl,Array.map_empty,rj,Sem.run_pure,d];simp[newRow]
 .have hb:¬(len*n > 2 ^ 24):=by omega
  simp only[execOp,ho,Instr.buildSlice,Sem.run_bind,j8 hu,Result.andThen_ok,tX hs,q,hb,nS,v,Sem.run_pure];simp only[b];simp[newRow]
def q7l{o:Oper}{t e:TypeId}{l c:Operand}{b n:Nat}{z:AV}(ho:o.op=.makeSlice t l c)(hu:P.underlying t=some (.slice e))(hb:mC P e=some b)
 (hs:bQ P e=some n) (L:zeroOf P e=some z) (N:z.cells.length=n):lH P o [l,c] (Op.mkSlice e b z.cells):=by
 intro D θ ρ w vs X mk h m;unfold Op.mkSlice at m;split at m
 .rename_i V p W f;obtain⟨x,y,he,ha,v⟩:=h.p5;simp only[zk,rk]at he;obtain⟨rfl,rfl⟩:=he;cases d:(rP 0 p && rP p f && rP (f*b) 140737488355328 && rP f 140737488355328)with
  |false=>rw[d]at m;cases m
  |true =>
   rw[d]at m;simp only[xq,qe,xw]at m;obtain⟨rfl,rfl⟩:=m;simp only[xt,FI,KA]at d;obtain⟨⟨⟨R,S⟩,T⟩,c4⟩:=d;obtain⟨r,E,q⟩:=Kc (w:=w) L;have M:=(q D θ).cells.length;have C:r.cells.size=n:=by rw[<-vi];omega
   refine⟨rfl,w,.cells (List.replicate f.toNat r.cells.toList).flatten.toArray e (0,0),0,.slice (some ⟨w.heap.size,0,none⟩) p.toNat f.toNat,?_,.refl w,
    λ D' θ' id hg U B hb j _=>⟨RI (XU ((q D' θ').cells) _) j,ZS B hb j⟩⟩
   have O:IntKind.i64.wrap p=p:=by simp[IntKind.wrap,IntKind.signed,IntKind.bits];omega
   have Q:IntKind.i64.wrap f=f:=by simp[IntKind.wrap,IntKind.signed,IntKind.bits];omega
   have A:∃i,P.info? e=some i/\i.bytes=b:=by
    unfold mC at hb;cases s:P.info? e with
    |none=>rw[s]at hb;cases hb
    |some i=>rw[s]at hb;injection hb with hb;exact⟨i,rfl,hb⟩
   obtain⟨inf,s,rfl⟩:=A;have a:=X8 r.cells.toList f.toNat;rw[show r.cells.toList.length=n from by omega]at a;simp only[Ov]at a;have F:¬(f<0):=by omega
   have G:¬((inf.bytes:Int)*f > 2 ^ 48):=by rw[Int.mul_comm];omega
   have I:¬(p<0):=by omega
   have J:¬(p > f):=by omega
   have K:¬(f.toNat*inf.bytes > roomBytes):=by
    have:((f.toNat*inf.bytes:Nat):Int)=f*inf.bytes:=by rw[Int.natCast_mul];congr 1;omega
    unfold roomBytes;omega
   have Y:(2:Int) ^ 48=281474976710656:=by decide
   simp only[execOp,ho,<-ha.now,<-v.now,az,Instr.makeSlice,Sem.run_bind,j8 hu,Result.andThen_ok,asInt,asIntOf,Sem.run_pure,typeInfo,run_program,s,O,Q]
   by_cases u:f.toNat*n=0
   .have g:(List.replicate f.toNat r.cells.toList).flatten.toArray = #[]:=by rw[<-a,u,show Array.range 0 = #[]from rfl,Array.map_empty]
    simp only[F,G,I,J,K,u,askRoom,g,JG,Bool.or_self,zq,nS,rj,Sem.run_bind,Sem.run_pure,Result.andThen_ok,tX hs,show Array.range 0 = #[]from rfl,Array.map_empty];simp[newRow]
   .simp only[F,G,I,J,K,u,askRoom,JG,Bool.or_self,zq,nS,Sem.run_bind,Sem.run_pure,Result.andThen_ok,tX hs,E,a];simp[newRow]
 .cases m
end
end Go.Am
