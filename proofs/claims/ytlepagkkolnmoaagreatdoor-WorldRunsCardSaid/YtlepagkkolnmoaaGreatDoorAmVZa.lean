import GoSem.Step
import Derived.CallsIn
import Derived.WalkKit
import Derived.WalkLawsBesides
import Derived.Lib.Strings
import Derived.Lib.Bytealg
import Derived.DeepKeys3
import Derived.Laws.Cover3
import Derived.Laws.Pointers
import Derived.Room.MakeNoZero
import Derived.Laws.IdiomStrings
set_option linter.defProp false
set_option linter.unusedVariables false
set_option linter.unusedSimpArgs false
open Array renaming range→CU,toArray_toList→Br
open BitVec renaming ofInt→B0
open Bool renaming eq_iff_iff→CB,false→B2,true→B4
open Go renaming Op→CJ,IntKind→PD,MapEntry→BZ,Oper→Pv,Operand→N0,Program→Jy,TypeId→LP,Value→K8,World→NJ
open Go.Addr.mk renaming injEq→Bc
open Go.Builtin renaming len_→CZ
open Go.Deferred renaming ofValue→BU
open Go.Instr renaming checkKey→BW,findAsking→BJ,findKey→CX,findNow→C7,lookup→C5,sliceBounds→B9,sureAddr→Bv
open Go.Op renaming equal→CY,equalIn→BD
open Go.Region renaming before→C1
open Go.Result renaming andThen_ok→NM
open Go.Sem renaming run_bind→NQ,run_pure→Qh
open Go.Value.slice renaming injEq→BG
open List renaming range→N7,rec→A8,replicate→Jv
open Nat renaming beq→J8,ble→OZ,blt→Pk
open Option renaming none→B5,some→B1
open UInt8 renaming ofNat→BT
namespace Go.Am
theorem qj:type_of% @Option.bind_eq_some_iff:=@Option.bind_eq_some_iff
def qk:type_of% @Option.some.injEq:=@Option.some.injEq
def qm:type_of% @Nat.le_refl:=@Nat.le_refl
def qn:type_of% @Nat.lt_of_lt_of_le:=@Nat.lt_of_lt_of_le
def qo:type_of% @List.getElem?_eq_some_iff:=@List.getElem?_eq_some_iff
def qr:type_of% @Option.bind_some:=@Option.bind_some
def qv:type_of% @if_neg:=@if_neg
def qy:type_of% @List.getElem?_eq_getElem:=@List.getElem?_eq_getElem
def xb:type_of% @if_pos:=@if_pos
def xc:type_of% @List.length_append:=@List.length_append
def xf:type_of% @eq_true:=@eq_true
def xj:type_of% @List.getElem?_map:=@List.getElem?_map
def xk:type_of% @Option.map_eq_some_iff:=@Option.map_eq_some_iff
def xq:type_of% @List.length_set:=@List.length_set
def xu:type_of% @List.length_map:=@List.length_map
def xv:type_of% @cond_true:=@cond_true
def xw:type_of% @Nat.lt_or_ge:=@Nat.lt_or_ge
def xx:type_of% @List.getElem?_set_self:=@List.getElem?_set_self
def xy:type_of% @List.getElem?_set_ne:=@List.getElem?_set_ne
def x9:type_of% @Nat.zero_le:=@Nat.zero_le
def zd:type_of% @Nat.le_trans:=@Nat.le_trans
def ze:type_of% @Prod.mk.injEq:=@Prod.mk.injEq
def zf:type_of% @Bool.and_eq_true:=@Bool.and_eq_true
def zh:type_of% @List.mem_of_getElem?:=@List.mem_of_getElem?
def zi:type_of% @Classical.byContradiction:=@Classical.byContradiction
def zn:type_of% @List.append_nil:=@List.append_nil
def zo:type_of% @cond_false:=@cond_false
def zp:type_of% @List.getElem?_cons_succ:=@List.getElem?_cons_succ
def zq:type_of% @List.take_of_length_le:=@List.take_of_length_le
def zr:type_of% @List.length_cons:=@List.length_cons
def zt:type_of% @List.mem_append:=@List.mem_append
def zu:type_of% @Bool.false_eq_true:=@Bool.false_eq_true
def zw:type_of% @List.getElem?_append_right:=@List.getElem?_append_right
def zx:type_of% @List.length_take:=@List.length_take
def zy:type_of% @Nat.lt_succ_self:=@Nat.lt_succ_self
def zz:type_of% @List.cons.injEq:=@List.cons.injEq
def z4:type_of% @List.getElem?_eq_none:=@List.getElem?_eq_none
def z7:type_of% @List.nil_append:=@List.nil_append
def z8:type_of% @List.getD_eq_getElem?_getD:=@List.getD_eq_getElem?_getD
def ja:type_of% @List.getElem?_cons_zero:=@List.getElem?_cons_zero
def jb:type_of% @List.append_assoc:=@List.append_assoc
def jc:type_of% @List.length_replicate:=@List.length_replicate
def jd:type_of% @List.length_range:=@List.length_range
def jf:type_of% @List.length_eq_zero_iff:=@List.length_eq_zero_iff
def jg:type_of% @List.length_drop:=@List.length_drop
def jj:type_of% @List.mem_cons:=@List.mem_cons
def jk:type_of% @Nat.mul_le_mul_right:=@Nat.mul_le_mul_right
def jo:type_of% @List.drop_eq_nil_of_le:=@List.drop_eq_nil_of_le
def jp:type_of% @Bool.and_self:=@Bool.and_self
def js:type_of% @List.getElem?_range:=@List.getElem?_range
def jw:type_of% @List.getElem?_append_left:=@List.getElem?_append_left
def jx:type_of% @Int.eq_ofNat_of_zero_le:=@Int.eq_ofNat_of_zero_le
def jz:type_of% @List.mem_singleton:=@List.mem_singleton
def j0:type_of% @List.flatMap_cons:=@List.flatMap_cons
def j7:type_of% @List.map_cons:=@List.map_cons
def kc:type_of% @Nat.beq_eq:=@Nat.beq_eq
def ke:type_of% @Nat.le_succ:=@Nat.le_succ
def kh:type_of% @Array.getElem?_toList:=@Array.getElem?_toList
def ki:type_of% @Iff.rfl:=@Iff.rfl
def kj:type_of% @Classical.not_not:=@Classical.not_not
def kq:type_of% @List.flatMap_append:=@List.flatMap_append
def kr:type_of% @Option.bind_assoc:=@Option.bind_assoc
def kz:type_of% @List.take_zero:=@List.take_zero
def yd:type_of% @Array.getD_eq_getD_getElem?:=@Array.getD_eq_getD_getElem?
def ye:type_of% @Nat.add_mul:=@Nat.add_mul
def yf:type_of% @Nat.zero_add:=@Nat.zero_add
def ym:type_of% @List.take_append_of_le_length:=@List.take_append_of_le_length
def yo:type_of% @decide_eq_false:=@decide_eq_false
def yq:type_of% @decide_eq_true:=@decide_eq_true
def yr:type_of% @List.ext_getElem?:=@List.ext_getElem?
def yt:type_of% @List.drop_zero:=@List.drop_zero
def yu:type_of% @List.getElem?_drop:=@List.getElem?_drop
def yv:type_of% @List.getElem?_take:=@List.getElem?_take
def yw:type_of% @List.length_nil:=@List.length_nil
def yx:type_of% @List.take_append_drop:=@List.take_append_drop
def vc:type_of% @Nat.add_zero:=@Nat.add_zero
def vg:type_of% @List.take_add_one:=@List.take_add_one
def vn:type_of% @Option.isSome_some:=@Option.isSome_some
def vq:type_of% @Nat.add_sub_cancel_left:=@Nat.add_sub_cancel_left
def vx:type_of% @List.cons_append:=@List.cons_append
def vy:type_of% @List.drop_append_of_le_length:=@List.drop_append_of_le_length
def vz:type_of% @Option.getD_some:=@Option.getD_some
def wg:type_of% @List.mem_cons_of_mem:=@List.mem_cons_of_mem
def wh:type_of% @Nat.zero_mul:=@Nat.zero_mul
def wq:type_of% @Nat.add_assoc:=@Nat.add_assoc
def ww:type_of% @List.eq_of_mem_replicate:=@List.eq_of_mem_replicate
def nT:type_of% @if_false:=@if_false
def AK:type_of% @Bool.or_eq_true:=@Bool.or_eq_true
def uj:type_of% @Int.le_refl:=@Int.le_refl
def I6:type_of% @Nat.eq_of_beq_eq_true:=@Nat.eq_of_beq_eq_true
def vO:type_of% @Nat.succ_mul:=@Nat.succ_mul
def B6:type_of% @List.all_eq_true:=@List.all_eq_true
def FB:type_of% @Int.toNat_natCast:=@Int.toNat_natCast
def Np:type_of% @Array.getElem?_eq_some_iff:=@Array.getElem?_eq_some_iff
def Ob:type_of% @Decidable.byContradiction:=@Decidable.byContradiction
def AF:type_of% @List.drop_drop:=@List.drop_drop
def mM:type_of% @Ne.symm:=@Ne.symm
def zD:type_of% @List.map_map:=@List.map_map
theorem uh:type_of% @Nat.ble_eq:=@Nat.ble_eq
def Rj:type_of% @List.drop_length_add_append:=@List.drop_length_add_append
def Je:type_of% @List.mem_cons_self:=@List.mem_cons_self
def KM:type_of% @List.getElem?_of_mem:=@List.getElem?_of_mem
theorem I3:type_of% @List.drop_append:=@List.drop_append
def GJ:type_of% @List.take_length:=@List.take_length
def R9:type_of% @Int.tmod_eq_emod_of_nonneg:=@Int.tmod_eq_emod_of_nonneg
def KC:type_of% @Int.toNat_of_nonneg:=@Int.toNat_of_nonneg
def LI:type_of% @List.drop_succ_cons:=@List.drop_succ_cons
theorem vX:type_of% @Nat.blt_eq:=@Nat.blt_eq
def Og:type_of% @List.set_append_right:=@List.set_append_right
def Im:type_of% @Option.map_some:=@Option.map_some
def Lb:type_of% @Option.isSome_none:=@Option.isSome_none
def FE:type_of% @Nat.lt_irrefl:=@Nat.lt_irrefl
def CN:type_of% @List.mem_map:=@List.mem_map
def I9:type_of% @List.map_append:=@List.map_append
def Uy:type_of% @List.take_length_add_append:=@List.take_length_add_append
def OJ:type_of% @Nat.ne_of_beq_eq_false:=@Nat.ne_of_beq_eq_false
def tG:type_of% @and_true:=@and_true
def FP:type_of% @List.map_nil:=@List.map_nil
def Qt:type_of% @List.mem_iff_getElem?:=@List.mem_iff_getElem?
def rN:type_of% @if_true:=@if_true
def Nc:type_of% @Nat.lt_succ_of_lt:=@Nat.lt_succ_of_lt
def LH:type_of% @Nat.min_eq_left:=@Nat.min_eq_left
def KA:type_of% @Option.some.inj:=@Option.some.inj
def OD:type_of% @decide_eq_true_eq:=@decide_eq_true_eq
def O2:type_of% @Array.length_toList:=@Array.length_toList
def SA:type_of% @List.getElem?_replicate:=@List.getElem?_replicate
def QD:type_of% @List.replicate_succ:=@List.replicate_succ
def OC:type_of% @List.mem_nil_iff:=@List.mem_nil_iff
def NG:type_of% @List.take_append:=@List.take_append
def Nd:type_of% @Nat.le_add_right:=@Nat.le_add_right
def NH:type_of% @List.foldl_cons:=@List.foldl_cons
def Ji:type_of% @decide_false:=@decide_false
def ub:type_of% @eq_self:=@eq_self
def Sc:type_of% @Bool.not_eq_true':=@Bool.not_eq_true'
def Qe:type_of% @List.flatten_cons:=@List.flatten_cons
def HV:type_of% @Int.not_lt:=@Int.not_lt
def Ma:type_of% @Nat.ne_of_lt:=@Nat.ne_of_lt
def Kv:type_of% @Nat.sub_zero:=@Nat.sub_zero
def Mw:type_of% @Nat.sub_mul:=@Nat.sub_mul
def Eo:type_of% @true_and:=@true_and
inductive T(α:Type)where
 |nil
 |node (l:T α) (v:Option α) (r:T α)
noncomputable section
namespace T
variable{α:Type}
def l:T α->T α
 | .nil=>.nil
 | .node a _ _=>a
def r:T α->T α
 | .nil=>.nil
 | .node _ _ b=>b
def val:T α->Option α
 | .nil=>B5
 | .node _ v _=>v
def path(i:Nat):List Bool:=go i i
 where go:Nat->Nat->List Bool
 |0,_=>[]
 |f+1,i=>match i with
  |0=>[]
  |n+1=>J8 (Nat.mod n 2) 0::go f (Nat.div n 2)
def wI:List Bool->T α->Option α
 |[],t=>t.val
 |b::p,t=>wI p (cond b t.l t.r)
def fN(v:Option α):List Bool->T α->T α
 |[],t=>.node t.l v t.r
 |b::p,t=>cond b (.node (fN v p t.l) t.val t.r) (.node t.l t.val (fN v p t.r))
def get(t:T α)(i:Nat):Option α:=wI (path i) t
def put(t:T α)(i:Nat)(v:Option α):T α:=fN v (path i) t
def set(t:T α)(i:Nat)(v:α):T α:=t.put i (B1 v)
structure Get(α:Type)where
 run:T α->Option α
structure Put(α:Type)where
 run:Option α->T α->T α
def oY:List Bool->Get α
 |[]=>⟨val⟩
 |true::p=>⟨λ t=>(oY p).run t.l⟩
 |false::p=>⟨λ t=>(oY p).run t.r⟩
def CE:List Bool->Put α
 |[]=>⟨λ v t=>.node t.l v t.r⟩
 |true::p=>⟨λ v t=>.node ((CE p).run v t.l) t.val t.r⟩
 |false::p=>⟨λ v t=>.node t.l t.val ((CE p).run v t.r)⟩
end T
def nth{α:Type}(l:List α):Nat->Option α :=
 A8 (motive:=λ _=>Nat->Option α) (λ _=>B5) (λ x _ ih i=>Nat.rec (motive:=λ _=>Option α) (B1 x) (λ n _=>ih n) i) l
def kJ{α:Type}(a b:List α):List α:=A8 (motive:=λ _=>List α) b (λ x _ ih=>x::ih) a
def cW{α:Type}(l:List α):Nat:=A8 (motive:=λ _=>Nat) 0 (λ _ _ ih=>ih+1) l
def Qi{α:Type}:List α->List α
 |[]=>[]
 |_::l=>l
def da{α:Type}(n:Nat):List α->List α:=Nat.rec (motive:=λ _=>List α->List α) (λ l=>l) (λ _ ih l=>ih (Qi l)) n
def BV{α:Type}(n:Nat):List α->Option (List α) :=
 Nat.rec (motive:=λ _=>List α->Option (List α)) (λ _=>B1 [])
  (λ _ ih l=>A8 (motive:=λ _=>Option (List α)) B5 (λ x t _=>(ih t).bind λ r=>B1 (x::r)) l) n
def yT{α:Type}(new:List α):List α->Option (List α) :=
 A8 (motive:=λ _=>List α->Option (List α)) (λ l=>B1 l)
  (λ x _ ih l=>A8 (motive:=λ _=>Option (List α)) B5 (λ _ t _=>(ih t).bind λ r=>B1 (x::r)) l) new
def putAt{α:Type}(o:Nat)(new:List α):List α->Option (List α) :=
 Nat.rec (motive:=λ _=>List α->Option (List α)) (λ l=>yT new l)
  (λ _ ih l=>A8 (motive:=λ _=>Option (List α)) B5 (λ x t _=>(ih t).bind λ r=>B1 (x::r)) l) o
def fP{α:Type}(l:List α)(o n:Nat):Option (List α):=BV n (da o l)
inductive mC where
 |func (f:Nat)
 |yield (l:Nat)
inductive AV where
 |bool (b:Bool)
 |int (k:PD) (n:Int)
 |str (s:List UInt8)
 |nilp
 |ptr (b o:Nat)
 |nils
 |slice (b o n c:Nat)
 |gslice (b i m size alt n:Nat)
 |eslice (b:Nat)
 |mE
 |map (b:Nat)
 |fn (f:mC) (first captured:List AV)
 |nilf
 |iface (t:Nat) (v:AV)
 |nili
 |agg (l:List AV)
 |tuple (l:List AV)
instance:Inhabited AV:=⟨.nili⟩
def AV.undef:AV:=.tuple []
def AV.cells:AV->List AV
 | .agg l=>l
 |v=>[v]
inductive bL where
 |tmp (t:Nat)
 |const (v:AV)
 |eJ (g:Nat)
 |func (f:Nat)
inductive eE where
 |tmp (t:Nat)
 |lC (a:Nat)
 |dg (n:Nat) (a:Nat)
inductive iv where
 |exit (id:Nat)|goto (l:Nat)|ret
inductive mV where
 |ready|busy|done|exhausted
inductive aQ where
 |jJ (b:Nat)
 |fn (f:mC) (args:List AV)
inductive bF where
 |row (cells:List AV) (elem:Nat) (fz:Nat×Nat) (own:Bool)
 |grown (m size:Nat) (cells:List AV) (elem:Nat) (fz:Nat×Nat)
 |map (es:List (AV×AV×Nat)) (clock:Nat)
 |mB (s:List UInt8) (pos:Nat)
 |loop (st:mV) (pend:Option iv) (fn k:Nat) (tm:T AV) (defers:Nat)
 |deferred (calls:Option (List aQ))
structure ar where
 t:T bF
 au:Nat
namespace ar
def get(H:ar)(b:Nat):Option bF:=H.t.get b
def set(H:ar)(b:Nat)(o:bF):ar:={H with t:=H.t.set b o}
def alloc(H:ar)(o:bF):ar:={t:=H.t.set H.au o,au:=H.au+1}
def kill(H:ar)(b:Nat):ar:={H with t:=H.t.put b B5}
def bQ(H:ar)(b:Nat):Option (List AV) :=
 match H.get b with
 |some (.row c _ _ _)=>B1 c
 |some (.grown _ _ c _ _)=>B1 c
 |_=>B5
end ar
def ar.ah(H:ar)(b o:Nat):Option AV:=(H.bQ b).bind λ l=>nth l o
def ar.fp(H:ar)(b:Nat):Option (List (AV×AV×Nat)×Nat) :=
 match H.get b with
 |some (.map es c)=>B1 (es,c)
 |_=>B5
def ar.aw(H:ar)(b o n:Nat):Option (List AV):=(H.bQ b).bind λ l=>fP l o n
def eI(fz:Nat×Nat)(o n:Nat):Bool:=OZ (o+n) fz.1 ||OZ fz.2 o
def aA:AV->Bool
 | .agg _| .tuple _=>B2
 |_=>B4
def aS(l:List AV):Bool:=A8 (motive:=λ _=>Bool) B4 (λ x _ ih=>cond (aA x) ih B2) l
def ar.store(H:ar)(b o:Nat)(new:List AV):Option ar :=
 cond (aS new) (match H.get b with
  |some (.row c e fz B4)=>cond (eI fz o (cW new)) ((putAt o new c).bind λ c'=>B1 (H.set b (.row c' e fz B4))) B5
  |some (.grown m s c e fz)=>cond (eI fz o (cW new)) ((putAt o new c).bind λ c'=>B1 (H.set b (.grown m s c' e fz))) B5
  |_=>B5) B5
def rO(tm:T AV):bL->Option AV
 | .tmp t=>tm.get t
 | .const v=>B1 v
 | .eJ g=>B1 (.ptr g 0)
 | .func f=>B1 (.fn (.func f) [] [])
def mF(tm:T AV):List bL->Option (List AV)
 |[]=>B1 []
 |x::xs=>(rO tm x).bind λ v=>(mF tm xs).bind λ vs=>B1 (v::vs)
structure Ev where
 run:T AV->Option AV
structure Evs where
 run:T AV->Option (List AV)
def N9:bL->Ev
 | .tmp t=>⟨(T.oY (T.path t)).run⟩
 | .const v=>⟨λ _=>B1 v⟩
 | .eJ g=>⟨λ _=>B1 (.ptr g 0)⟩
 | .func f=>⟨λ _=>B1 (.fn (.func f) [] [])⟩
def uE:List bL->Evs
 |[]=>⟨λ _=>B1 []⟩
 |[x]=>⟨λ tm=>((N9 x).run tm).bind λ v=>B1 [v]⟩
 |x::xs=>⟨λ tm=>((N9 x).run tm).bind λ v=>((uE xs).run tm).bind λ vs=>B1 (v::vs)⟩
def sY(a b:Int):Bool:=match a,b with
 | .ofNat m,.ofNat n=>OZ m n
 | .ofNat _,.negSucc _=>B2
 | .negSucc _,.ofNat _=>B4
 | .negSucc m,.negSucc n=>OZ n m
def AW(a b:Int):Bool:=!sY b a
def u7(a b:Int):Bool:=match a,b with
 | .ofNat m,.ofNat n=>J8 m n
 | .negSucc m,.negSucc n=>J8 m n
 |_,_=>B2
def iY:PD->Nat
 | .i8=>0| .i16=>1| .i32=>2| .i64=>3| .u8=>4| .u16=>5| .u32=>6| .u64=>7
def rT(a b:PD):Bool:=J8 (iY a) (iY b)
def Fj(a b:UInt8):Bool:=J8 a.toNat b.toNat
def A5:List UInt8->List UInt8->Bool
 |[],[]=>B4
 |a::x,b::y=>cond (Fj a b) (A5 x y) B2
 |_,_=>B2
inductive aU where
 |int|str|bool
 |nil
 |part (off:Nat) (n:Option Nat) (t rest:aU)
def partAt(l:List AV)(off:Nat):Option Nat->Option AV
 |none=>nth l off
 |some k=>(fP l off k).bind λ c=>B1 (.agg c)
def aX:aU->AV->AV->Option Bool
 | .int,.int k a,.int k' b=>cond (rT k k') (B1 (u7 a b)) B5
 | .str,.str a,.str b=>B1 (A5 a b)
 | .bool,.bool a,.bool b=>B1 (a == b)
 | .nil,.agg _,.agg _=>B1 B4
 | .part off n t rest,.agg x,.agg y=>(partAt x off n).bind λ a=>(partAt y off n).bind λ b=>(aX t a b).bind λ q =>
  cond q (aX rest (.agg x) (.agg y)) (B1 B2)
 |_,_,_=>B5
def cS:aU->AV->Bool
 | .int,.int _ _=>B4
 | .str,.str _=>B4
 | .bool,.bool _=>B4
 | .nil,.agg _=>B4
 | .part off n t rest,.agg x=>match partAt x off n with
  |some a=>cond (cS t a) (cS rest (.agg x)) B2
  |none=>B2
 |_,_=>B2
def bytesLess:List UInt8->List UInt8->Bool
 |_,[]=>B2
 |[],_::_=>B4
 |a::x,b::y=>Pk a.toNat b.toNat ||(Fj a b && bytesLess x y)
def rA(op:BinOp)(a b:List UInt8):Option AV :=
 match op with
 | .add=>cond (OZ (a.length+b.length) 140737488355328) (B1 (.str (a++b))) B5
 | .eql=>B1 (.bool (A5 a b))
 | .neq=>B1 (.bool (!(A5 a b)))
 | .lss=>B1 (.bool (bytesLess a b))
 | .leq=>B1 (.bool (bytesLess a b ||A5 a b))
 | .gtr=>B1 (.bool (!(bytesLess a b ||A5 a b)))
 | .geq=>B1 (.bool (!bytesLess a b))
 |_=>B5
def ak(k:PD)(n:Int):Int:=k.wrap n
def gH(op:BinOp)(k:PD)(a b:Int):Option AV :=
 match op with
 | .add=>B1 (.int k (ak k (a+b)))
 | .sub=>B1 (.int k (ak k (a-b)))
 | .mul=>B1 (.int k (ak k (a*b)))
 | .quo=>cond (u7 b 0) B5 (B1 (.int k (ak k (a.tdiv b))))
 | .rem=>cond (u7 b 0) B5 (B1 (.int k (a.tmod b)))
 | .and=>B1 (.int k (ak k ((B0 k.bits a &&& B0 k.bits b).toNat)))
 | .or=>B1 (.int k (ak k ((B0 k.bits a |||B0 k.bits b).toNat)))
 | .xor=>B1 (.int k (ak k ((B0 k.bits a ^^^ B0 k.bits b).toNat)))
 | .andNot=>B1 (.int k (ak k ((B0 k.bits a &&& ~~~(B0 k.bits b)).toNat)))
 | .eql=>B1 (.bool (u7 a b))
 | .neq=>B1 (.bool (!u7 a b))
 | .lss=>B1 (.bool (AW a b))
 | .leq=>B1 (.bool (sY a b))
 | .gtr=>B1 (.bool (AW b a))
 | .geq=>B1 (.bool (sY b a))
 |_=>B5
inductive xK where
 |bool|ptr|slice|map|func|iface
 |ifaces (f:Nat->Option aU)
 |agg (t:aU)
def su(isNil isSome:AV->Bool)(x y:AV):Option Bool :=
 cond (isNil x) (cond (isNil y) (B1 B4) (cond (isSome y) (B1 B2) B5)) (cond (isSome x && isNil y) (B1 B2) B5)
def Ce:AV->Bool
 | .nils=>B4
 |_=>B2
def isSlice:AV->Bool
 | .slice ..=>B4
 | .gslice ..=>B4
 | .eslice _=>B4
 |_=>B2
def Et:AV->Bool
 | .mE=>B4
 |_=>B2
def isMap:AV->Bool
 | .map _=>B4
 |_=>B2
def Bw:AV->Bool
 | .nilf=>B4
 |_=>B2
def Pe:AV->Bool
 | .fn ..=>B4
 |_=>B2
def D3:AV->Bool
 | .nili=>B4
 |_=>B2
def isIface:AV->Bool
 | .iface ..=>B4
 |_=>B2
def yA(H:ar)(b b':Nat):Bool :=
 match H.get b,H.get b' with
 |some (.row _ _ (0,0) B4),B1 (.row (_::_) _ _ _)=>B4
 |some (.row (_::_) _ _ _),B1 (.row _ _ (0,0) B4)=>B4
 |_,_=>B2
def tA(op:BinOp)(k:PD)(a b:Int):Option AV :=
 cond (AW b 0) B5 (match op with
  | .shl=>B1 (.int k (ak k (a*2 ^ (min b.toNat k.bits))))
  |_=>B1 (.int k (a.fdiv (2 ^ (min b.toNat k.bits)))))
def dZ:BinOp->Bool
 | .shl| .shr=>B4
 |_=>B2
def JI(H:ar):xK->AV->AV->Option Bool
 | .bool,.bool a,.bool b=>B1 (a == b)
 | .ptr,.nilp,.nilp=>B1 B4
 | .ptr,.nilp,.ptr _ _=>B1 B2
 | .ptr,.ptr _ _,.nilp=>B1 B2
 | .ptr,.ptr b o,.ptr b' o'=>cond (J8 b b') (B1 (J8 o o')) (cond (yA H b b') (B1 B2) B5)
 | .slice,x,y=>su Ce isSlice x y
 | .map,x,y=>su Et isMap x y
 | .func,x,y=>su Bw Pe x y
 | .iface,x,y=>su D3 isIface x y
 | .ifaces f,.iface t a,.iface u b=>cond (J8 t u) ((f t).bind λ q=>aX q a b) (B1 B2)
 | .ifaces _,.nili,.iface _ _=>B1 B2
 | .ifaces _,.iface _ _,.nili=>B1 B2
 | .agg t,x,y=>aX t x y
 |_,_,_=>B5
def oH(op:BinOp)(x y:AV):Option AV :=
 match x,y with
 | .int k a,.int k' b=>cond (dZ op) (tA op k a b) (cond (rT k k') (gH op k a b) B5)
 | .str a,.str b=>rA op a b
 |_,_=>B5
def v_(op:UnOp)(x:AV):Option AV :=
 match op,x with
 | .neg,.int k n=>B1 (.int k (ak k (0-n)))
 | .xor,.int k n=>gH .xor k (if k.signed then -1 else k.max) n
 | .not,.bool b=>B1 (.bool (!b))
 |_,_=>B5
def jH(cells:List AV):List (Nat×Nat)->List AV->Option (List AV)
 |[],[]=>B1 cells
 |(off,size)::ps,v::vs=>cond (J8 (cW v.cells) size) ((putAt off v.cells cells).bind λ c=>jH c ps vs) B5
 |_,_=>B5
def gf(n:Nat)(z:List AV):List AV :=
 match n with
 |0=>[]
 |n+1=>kJ z (gf n z)
def within(i:Int)(n:Nat):Option Nat:=match i with
 | .ofNat k=>cond (Pk k n) (B1 k) B5
 | .negSucc _=>B5
def arg(vs:List AV):Option Nat->Option (Option AV)
 |none=>B1 B5
 |some i=>(nth vs i).bind λ v=>B1 (B1 v)
def bound(v:Option AV)(d mx:Nat):Option Nat :=
 match v with
 |none=>B1 d
 |some (.int _ (.ofNat i))=>cond (OZ i mx) (B1 i) B5
 |_=>B5
def dC(size:Nat)(x:AV)(lo hi mx:Option AV):Option AV :=
 match x with
 | .nils=>match mx with
  |none=>(bound hi 0 0).bind λ h=>(bound lo 0 h).bind λ _=>B1 .nils
  |some _=>B5
 | .slice b o n c=>match mx,hi with
  |some _,B5=>B5
  |mx,hi=>(bound mx c c).bind λ m=>(bound hi n m).bind λ h=>(bound lo 0 h).bind λ l =>
   B1 (.slice b (cond (J8 m l) o (o+l*size)) (h-l) (m-l))
 | .gslice b i m s alt n =>
  cond (J8 s size && OZ i m) (match mx,hi with
   |none,hi=>(bound hi n (m-i)).bind λ h=>(bound lo 0 h).bind λ l =>
    cond (OZ h (m-i)) (B1 (.gslice b (i+l) m s (cond (J8 l 0) alt (i*s)) (h-l))) B5
   |some _,B5=>B5
   |mx,hi=>(bound mx 0 (m-i)).bind λ x=>(bound hi 0 x).bind λ h=>(bound lo 0 h).bind λ l =>
    cond (J8 x l) B5 (B1 (.slice b ((i+l)*s) (h-l) (x-l)))) B5
 | .eslice b=>match mx with
  |none=>(bound hi 0 0).bind λ h=>(bound lo 0 h).bind λ _=>B1 (.eslice b)
  |some _=>B5
 |_=>B5
def fI:AV->Option Nat
 | .str s=>B1 (cW s)
 | .nils=>B1 0
 | .slice _ _ n _=>B1 n
 | .gslice _ _ _ _ _ n=>B1 n
 | .eslice _=>B1 0
 |_=>B5
def elemAt(size:Nat)(x:AV)(j:Nat):Option (Nat×Nat) :=
 match x with
 | .slice b o n _=>cond (Pk j n) (B1 (b,o+j*size)) B5
 | .gslice b i m s _ n=>cond (Pk j n && J8 s size && Pk (i+j) m) (B1 (b,i*s+j*s)) B5
 |_=>B5
def firstCells(H:ar)(size n:Nat)(x:AV):Option (List AV) :=
 match x with
 | .nils=>B1 []
 | .str s=>cond (J8 size 1) (B1 ((s.take n).map λ b=>.int .u8 b.toNat)) B5
 | .slice b o _ _=>cond (J8 n 0) (B1 []) (H.aw b o (n*size))
 | .gslice b i m s _ _=>cond (J8 n 0) (B1 []) (cond (J8 s size && Pk i m) (H.aw b (i*s) (n*size)) B5)
 | .eslice _=>cond (J8 n 0) (B1 []) B5
 |_=>B5
def fg(n:Int):AV:=.int .i64 n
def findKey(t:aU)(k:AV):List (AV×AV×Nat)->Nat->Option (Option (Nat×AV))
 |[],_=>B1 B5
 |(k',v,_)::es,i=>(aX t k k').bind λ q=>cond q (B1 (B1 (i,v))) (findKey t k es (i+1))
def HK(c:UInt8):List UInt8->Nat->Option Nat
 |[],_=>B5
 |x::l,i=>cond (Fj x c) (B1 i) (HK c l (i+1))
def wQ(c:UInt8):List UInt8->Nat
 |[]=>0
 |x::l=>cond (Fj x c) (wQ c l+1) (wQ c l)
def byteOf:AV->Option UInt8
 | .int .u8 n=>B1 (BT n.toNat)
 |_=>B5
def bytesOf:List AV->Option (List UInt8)
 |[]=>B1 []
 |x::l=>(byteOf x).bind λ b=>(bytesOf l).bind λ r=>B1 (b::r)
def fits(n bytes:Nat):Bool:=OZ (n*bytes) 140737488355328 && OZ n 140737488355328
def dD(H:ar)(e size n:Nat)(cells:List AV)(fz:Nat×Nat):AV×ar :=
 (.gslice H.au 0 n size 0 n,H.alloc (.grown n size cells e fz))
def df(H:ar)(e size bytes:Nat)(s:AV)(n:Nat)(new:List AV):Option (AV×ar) :=
 match s with
 | .nils=>cond (J8 n 0) (B1 (.nils,H)) (cond (fits n bytes && Pk 0 size) (B1 (dD H e size n new (0,0))) B5)
 | .slice b o len c =>
  cond (OZ (len+n) c)
   (cond (J8 n 0) (B1 (.slice b o (len+n) c,H)) ((H.store b (o+len*size) new).bind λ H'=>B1 (.slice b o (len+n) c,H')))
   (cond (fits (len+n) bytes && OZ c (len+n) && Pk 0 size)
    ((firstCells H size len (.slice b o len c)).bind λ old=>B1 (dD H e size (len+n) (kJ old new) (0,0))) B5)
 | .gslice b i m sz alt len =>
  cond (J8 n 0) (cond (OZ (i+len) m) (B1 (.gslice b i m sz alt len,H)) B5) (cond (J8 sz size && OZ (i+len) m && Pk 0 size)
   (cond (OZ (i+len+n) m)
    ((H.store b ((i+len)*size) new).bind λ H'=>B1 (.gslice b i m sz alt (len+n),H'))
    (cond (fits (len+n) bytes) (match H.get b with
     |some (.grown m' sz' c e' fz) =>
      cond (J8 m m' && J8 sz sz' && J8 e' e)
       (cond (J8 i 0 && J8 len m && OZ fz.2 (m*size)) (B1 (dD (H.kill b) e size (len+n) (kJ c new) fz)) (cond (OZ fz.2 (i*size))
        ((fP c (i*size) (len*size)).bind λ old=>B1 (dD (H.kill b) e size (len+n) (kJ old new) (cond (J8 fz.1 fz.2) (0,0) (1,0))))
        (cond (J8 i 0 && OZ fz.2 (len*size))
         ((fP c 0 (len*size)).bind λ old=>B1 (dD (H.kill b) e size (len+n) (kJ old new) fz)) B5))) B5
     |_=>B5) B5)) B5)
 |_=>B5
namespace Op
def fail:List AV->Option AV:=λ _=>B5
def move:List AV->Option AV
 |[v]=>B1 v
 |_=>B5
def pick:List AV->Option AV
 |[.bool q,a,b]=>B1 (cond q a b)
 |_=>B5
def build(zero:List AV)(places:List (Nat×Nat))(vs:List AV):Option AV :=
 (jH zero places vs).bind λ c=>B1 (.agg c)
def nilCheck:List AV->Option AV
 |[.nilp]|[.nili]|[.nilf]=>B5
 |[.fn (.func f) a b]=>B1 (.fn (.func f) a b)
 |[.fn _ _ _]=>B5
 |[v]=>B1 v
 |_=>B5
def bin(op:BinOp):List AV->Option AV
 |[x,y]=>oH op x y
 |_=>B5
def eq(t:xK)(neg:Bool):List AV->ar->Option AV
 |[x,y],H=>(JI H t x y).bind λ q=>B1 (.bool (cond neg (!q) q))
 |_,_=>B5
def un(op:UnOp):List AV->Option AV
 |[x]=>v_ op x
 |_=>B5
def wrap(k:PD):List AV->Option AV
 |[.int _ n]=>B1 (.int k (ak k n))
 |_=>B5
def dT:List AV->Option AV
 |[.int _ n]=>cond (sY 0 n && AW n 128) (B1 (.str [BT n.toNat])) B5
 |_=>B5
def eN:List AV->Option AV
 |[.str s]=>B1 (.str s)
 |_=>B5
def du(t:Nat):List AV->Option AV
 |[v]=>B1 (.iface t v)
 |_=>B5
def bB(f nf:Nat)(l:List AV):Option AV:=B1 (.fn (.func f) (l.take nf) (l.drop nf))
def dO:List (Option Nat)->List AV->Option AV
 |[lo,hi],.str s::vs =>
  (arg vs hi).bind λ b=>(arg vs lo).bind λ a=>(bound b s.length s.length).bind λ h=>(bound a 0 h).bind λ l=>B1 (.str ((s.take h).drop l))
 |_,_=>B5
def aC(size:Nat):List (Option Nat)->List AV->Option AV
 |[lo,hi,mx],x::vs=>(arg vs lo).bind λ a=>(arg vs hi).bind λ b=>(arg vs mx).bind λ m=>dC size x a b m
 |_,_=>B5
def cJ(n size:Nat):List (Option Nat)->List AV->Option AV
 |[lo,hi,mx],.ptr p o::vs=>(arg vs lo).bind λ a=>(arg vs hi).bind λ b=>(arg vs mx).bind λ m=>dC size (.slice p o n n) a b m
 |_,_=>B5
def fieldAddr(off:Nat):List AV->Option AV
 |[.ptr b o]=>B1 (.ptr b (o+off))
 |_=>B5
def field(off:Nat)(n:Option Nat):List AV->Option AV
 |[.agg l]=>partAt l off n
 |_=>B5
def aT(size:Nat):List AV->Option AV
 |[x,.int _ j]=>(fI x).bind λ n=>(within j n).bind λ k=>(elemAt size x k).bind λ p=>B1 (.ptr p.1 p.2)
 |_=>B5
def bh(len size:Nat):List AV->Option AV
 |[.ptr b o,.int _ j]=>(within j len).bind λ k=>B1 (.ptr b (o+k*size))
 |_=>B5
def bD(len size:Nat)(n:Option Nat):List AV->Option AV
 |[.agg l,.int _ j]=>(within j len).bind λ k=>partAt l (k*size) n
 |_=>B5
def bP:List AV->Option AV
 |[.str s,.int _ j]=>(within j s.length).bind λ k=>(nth s k).bind λ b=>B1 (.int .u8 b.toNat)
 |_=>B5
def typeAssert(t:Nat)(ok:Bool)(zero:AV):List AV->Option AV
 |[.nili]=>cond ok (B1 (.tuple [zero,.bool B2])) B5
 |[.iface u v]=>cond (J8 u t) (B1 (cond ok (.tuple [v,.bool B4]) v)) (cond ok (B1 (.tuple [zero,.bool B2])) B5)
 |_=>B5
def extract(i:Nat):List AV->Option AV
 |[.tuple l]=>nth l i
 |_=>B5
def fF:List AV->Option AV
 |[.str s]=>B1 (fg (cW s))
 |_=>B5
def dp:List AV->Option AV
 |[.nils]=>B1 (fg 0)
 |[.slice _ _ n _]=>B1 (fg n)
 |[.gslice _ _ _ _ _ n]=>B1 (fg n)
 |[.eslice _]=>B1 (fg 0)
 |_=>B5
def oR(n:Nat):List AV->Option AV
 |[_]=>B1 (fg n)
 |_=>B5
def cap:List AV->Option AV
 |[.nils]=>B1 (fg 0)
 |[.slice _ _ _ c]=>B1 (fg c)
 |_=>B5
def gU(mx:Bool):Int->List AV->Option Int
 |a,[]=>B1 a
 |a,.int _ b::l=>gU mx (cond mx (cond (AW a b) b a) (cond (AW b a) b a)) l
 |_,_=>B5
def eG(mx:Bool):List AV->Option AV
 | .int k a::l=>(gU mx a l).bind λ r=>B1 (.int k r)
 |_=>B5
def dh:List AV->Option AV
 |[.nils]=>B1 .nilp
 |[.slice b o _ c]=>cond (J8 c 0) B5 (B1 (.ptr b o))
 |[.gslice b i m s _ _]=>cond (Pk i m) (B1 (.ptr b (i*s))) B5
 |_=>B5
def dQ:List AV->Option AV
 |[x]=>B1 x
 |_=>B5
def aG:List AV->Option AV
 |[.str s,.int .u8 c]=>B1 (fg (match HK (BT c.toNat) s 0 with|some i=>i|none=>-1))
 |_=>B5
def bU:List AV->Option AV
 |[.str s,.int .u8 c]=>B1 (fg (Int.ofNat (wQ (BT c.toNat) s)))
 |_=>B5
def ah:List AV->ar->Option AV
 |[.ptr b o],H=>H.ah b o
 |_,_=>B5
def aw(n:Nat):List AV->ar->Option AV
 |[.ptr b o],H=>(H.aw b o n).bind λ l=>B1 (.agg l)
 |_,_=>B5
def cD:List AV->ar->Option AV
 |[.str _],_=>B5
 |[v],H=>(fI v).bind λ n=>(firstCells H 1 n v).bind λ l=>(bytesOf l).bind λ s=>B1 (.str s)
 |_,_=>B5
def lookup(key:aU)(zero:AV)(ok:Bool):List AV->ar->Option AV
 |[.mE,k],_=>cond (cS key k) (B1 (cond ok (.tuple [zero,.bool B2]) zero)) B5
 |[.map b,k],H=>cond (cS key k) ((H.fp b).bind λ m=>(findKey key k m.1 0).bind λ r=>match r with
  |some p=>B1 (cond ok (.tuple [p.2,.bool B4]) p.2)
  |none=>B1 (cond ok (.tuple [zero,.bool B2]) zero)) B5
 |_,_=>B5
def gF:List AV->ar->Option AV
 |[.mE],_=>B1 (fg 0)
 |[.map b],H=>(H.fp b).bind λ m=>B1 (fg m.1.length)
 |_,_=>B5
def eR(lies:Nat->Nat->Nat->Bool):List AV->ar->Option AV
 |[.nilp],_=>B1 .nilp
 |[.ptr b o],H=>match H.get b with
  |some (.row c e _ B4)=>cond (lies e c.length o) (B1 (.ptr b o)) B5
  |_=>B5
 |_,_=>B5
def ptrTo(b:Nat):AV:=.ptr b 0
def alloc(e:Nat)(zero:List AV):List AV->Option (bF×(Nat->AV))
 |[]=>B1 (.row zero e (0,0) B4,ptrTo)
 |_=>B5
def box(e:Nat):List AV->Option (bF×(Nat->AV))
 |[v]=>B1 (.row v.cells e (0,0) B4,ptrTo)
 |_=>B5
def sliceTo(n m:Nat)(b:Nat):AV:=.slice b 0 n m
def buildSlice(e n:Nat)(zero:List AV)(places:List (Nat×Nat))(vs:List AV):Option (bF×(Nat->AV)) :=
 (jH (gf n zero) places vs).bind λ c=>B1 (.row c e (0,0) B4,sliceTo n n)
def mkMap:List AV->Option (bF×(Nat->AV))
 |[]=>B1 (.map [] 0,.map)
 |_=>B5
def mkSlice(e bytes:Nat)(zero:List AV):List AV->Option (bF×(Nat->AV))
 |[.int _ n,.int _ m]=>cond (sY 0 n && sY n m && sY (m*bytes) 140737488355328 && sY m 140737488355328)
  (B1 (.row (gf m.toNat zero) e (0,0) B4,sliceTo n.toNat m.toNat)) B5
 |_=>B5
def _B(m n:Nat)(b:Nat):AV:=.gslice b 0 m 1 0 n
def cA(e:Nat):List AV->Option (bF×(Nat->AV))
 |[.str s]=>cond (OZ s.length 140737488355328) (B1 (.grown s.length 1 (s.map λ b=>.int .u8 b.toNat) e (1,0),_B s.length s.length)) B5
 |_=>B5
def dM:List AV->Option (bF×(Nat->AV))
 |[.str s]=>B1 (.mB s 0,ptrTo)
 |_=>B5
def makeNoZero(e:Nat):List AV->Option (bF×(Nat->AV))
 |[.int .i64 n]=>cond (sY 0 n && sY n 140737488355328) (B1 (.grown 0 1 [] e (0,0),_B 0 n.toNat)) B5
 |_=>B5
def store(n:Nat):List AV->ar->Option (AV×ar)
 |[.ptr b o,v],H=>cond (J8 (cW v.cells) n) ((H.store b o v.cells).bind λ H'=>B1 (.undef,H')) B5
 |_,_=>B5
def u6:AV->AV->Bool
 | .int k a,.int k' b=>rT k k' && u7 a b
 | .str a,.str b=>A5 a b
 | .bool a,.bool b=>a == b
 |_,_=>B2
def fq:List AV->List AV->Bool
 |[],[]=>B4
 |a::x,b::y=>cond (u6 a b) (fq x y) B2
 |_,_=>B2
def stays:AV->AV->Bool
 | .agg a,.agg b=>fq a b
 |a,b=>u6 a b
def mapUpdate(key:aU):List AV->ar->Option (AV×ar)
 |[.map b,k,v],H=>cond (cS key k) ((H.fp b).bind λ m=>(findKey key k m.1 0).bind λ r=>match r with
  |some p=>(nth m.1 p.1).bind λ e=>cond (stays e.1 k) (B1 (.undef,H.set b (.map (m.1.modify p.1 λ e=>(k,v,e.2.2)) m.2))) B5
  |none=>B1 (.undef,H.set b (.map (m.1 ++ [(k,v,m.2)]) (m.2+1)))) B5
 |_,_=>B5
def di(key:aU):List AV->ar->Option (AV×ar)
 |[.mE,k],H=>cond (cS key k) (B1 (.tuple [],H)) B5
 |[.map b,k],H=>cond (cS key k) ((H.fp b).bind λ m=>(findKey key k m.1 0).bind λ r=>match r with
  |some p=>B1 (.tuple [],H.set b (.map (m.1.eraseIdx p.1) m.2))
  |none=>B1 (.tuple [],H.set b (.map m.1 m.2))) B5
 |_,_=>B5
def eP:List AV->ar->Option (AV×ar)
 |[.ptr b 0],H=>match H.get b with
  |some (.mB s p)=>match nth s p with
   |some c=>cond (Pk c.toNat 128) (B1 (.tuple [.bool B4,fg p,.int .i32 c.toNat],H.set b (.mB s (p+1)))) B5
   |none=>B1 (.tuple [.bool B2],H)
  |_=>B5
 |_,_=>B5
def append(e size bytes:Nat):List AV->ar->Option (AV×ar)
 |[a,b],H=>(fI b).bind λ n=>(firstCells H size n b).bind λ new=>cond (aS new) (df H e size bytes a n new) B5
 |_,_=>B5
def copy(size:Nat):List AV->ar->Option (AV×ar)
 |[.str _,_],_=>B5
 |[d,r],H=>(fI d).bind λ dn=>(fI r).bind λ rn=>(firstCells H size (min rn dn) r).bind λ l =>
  cond (J8 (min rn dn) 0) (B1 (fg 0,H)) ((elemAt size d 0).bind λ p=>(H.store p.1 p.2 l).bind λ H'=>B1 (fg (min rn dn),H'))
 |_,_=>B5
def cj(zero:List AV):List AV->ar->Option (AV×ar)
 |[.str _],_=>B5
 |[x],H=>(fI x).bind λ n=>cond (J8 n 0) (B1 (.tuple [],H))
  ((elemAt zero.length x 0).bind λ p=>(H.store p.1 p.2 (gf n zero)).bind λ H'=>B1 (.tuple [],H'))
 |_,_=>B5
def bV:List AV->ar->Option (AV×ar)
 |[.mE],H=>B1 (.tuple [],H)
 |[.map b],H=>(H.fp b).bind λ m=>B1 (.tuple [],H.set b (.map [] m.2))
 |_,_=>B5
def wB(fz:Nat×Nat)(o n:Nat):Nat×Nat:=cond (J8 fz.1 fz.2) (o,o+n) (min fz.1 o,max fz.2 (o+n))
def eM:List AV->ar->Option (AV×ar)
 |[.slice b o n c],H=>match H.get b with
  |some (.row cs e fz B4)=>B1 (.slice b o n c,H.set b (.row cs e (wB fz (cW cs) 1) B4))
  |_=>B5
 |_,_=>B5
def dL(u:Nat):List AV->ar->Option (AV×ar)
 |[.nilp,.int _ k],H=>cond (u7 k 0) (B1 (.str [],H)) B5
 |[.ptr b o,.int _ k],H=>cond (u7 k 0) (B1 (.str [],H)) (cond (AW k 0 ||AW 140737488355328 k) B5 (match H.get b with
  |some (.row c e fz B4)=>cond (J8 e u) ((fP c o k.toNat).bind λ l=>(bytesOf l).bind λ s=>B1 (.str s,H.set b (.row c e (wB fz o k.toNat) B4))) B5
  |some (.grown m z c e fz)=>cond (J8 e u && OZ fz.1 fz.2) ((fP c o k.toNat).bind λ l=>(bytesOf l).bind λ s=>B1 (.str s,H.set b (.grown m z c e (wB fz o k.toNat)))) B5
  |_=>B5))
 |_,_=>B5
end Op
inductive fL where
 |pure (f:List AV->Option AV)
 |read (f:List AV->ar->Option AV)
 |alloc (f:List AV->Option (bF×(Nat->AV)))
 |gY (f:List AV->ar->Option (AV×ar))
 |ir (f:Nat)
 |im
 |invoke (name:String)
 |recover
 |defer
 |panic
structure aR where
 iq:Bool
 dst:Option Nat
 guard:Option (Nat×Bool)
 args:List bL
 op:fL
 cF:Option (List Nat)
inductive aj where
 |skip
 |region (steps:List aR)
 |seq (a b:aj)
 |cond (c:bL) (thn els:aj)
 |block (id:Nat) (body:aj)
 |loop (ai:Option (List Nat)) (body:aj)
 |rangeFunc (f:bL) (k:Nat)
 |exit (id:Nat)
 |scope (body:aj)
 |label (l:Nat)
 |goto (l:Nat)
 |ret
 |stuck
instance:Inhabited aj:=⟨.skip⟩
structure dI where
 params:List Nat
 assign:aj
 body:aj
structure bT where
 results:List eE
 body:aj
 loops:List dI
structure jV where
 func:Nat->Option bT
 kG:Nat->String->Option Nat
abbrev aH:=List (AV×Bool)
structure St where
 tm:T AV
 bj:List aQ
 up:Option aH
 H:ar
inductive aZ where
 |normal
 |exit (id:Nat)
 |goto (l:Nat)
 |ret
 |panic (chain:aH)
inductive bJ where
 |ret (v:AV)
 |panic (chain:aH)
abbrev b9:=Nat->List AV->Option aH->ar->Option (bJ×Option aH×ar)
structure Ctx where
 round:Option Nat
 fn:Nat
end
end Go.Am
namespace Go.Am
noncomputable section
def L7:T AV->List Nat->List AV->Option (T AV)
 |tm,[],[]=>B1 tm
 |tm,p::ps,v::vs=>L7 (tm.set p v) ps vs
 |_,_,_=>B5
def jZ:Nat->List AV->T AV->T AV
 |_,[],t=>t
 |i,v::vs,t=>jZ (i+1) vs (t.set i v)
def kX:aZ->Option iv
 | .exit id=>B1 (.exit id)
 | .goto l=>B1 (.goto l)
 | .ret=>B1 .ret
 |_=>B5
def ri:Option iv->aZ
 |none=>.normal
 |some (.exit id)=>.exit id
 |some (.goto l)=>.goto l
 |some .ret=>.ret
def zX:aZ->Bool
 | .normal=>B4
 |_=>B2
def Y8(tm:T AV):List Nat->T AV->T AV
 |[],acc=>acc
 |k::ks,acc=>Y8 tm ks (acc.put k (tm.get k))
def forget:List Nat->T AV->T AV
 |[],t=>t
 |d::ds,t=>forget ds (t.put d B5)
def eK(dst:Option Nat)(v:AV)(tm:T AV):T AV :=
 match dst with
 |some d=>tm.set d v
 |none=>tm
structure U2 where
 run:AV->T AV->T AV
def lW:Option Nat->U2
 |some d=>⟨λ v tm=>(T.CE (T.path d)).run (B1 v) tm⟩
 |none=>⟨λ _ tm=>tm⟩
abbrev gV:=Option (aZ×St)
def gT(ai:Option (List Nat))(body:St->gV):Nat->St->gV
 |0,_=>B5
 |n+1,st =>
  (body (match ai with|none=>st|some ks=>{st with tm:=Y8 st.tm ks .nil})).bind λ r=>match r.1 with
   | .normal=>gT ai body n r.2
   |e=>B1 (e,r.2)
def Gd:aj->Nat->Bool
 | .seq a b,l=>Gd a l ||Gd b l
 | .label l',l=>J8 l' l
 |_,_=>B2
mutual
def cu:AV->AV->Bool
 | .bool a,.bool b=>a == b
 | .int k a,.int k' b=>rT k k' && u7 a b
 | .str a,.str b=>A5 a b
 | .nilp,.nilp=>B4
 | .ptr a b,.ptr c d=>J8 a c && J8 b d
 | .nils,.nils=>B4
 | .slice a b c d,.slice a' b' c' d'=>J8 a a' && J8 b b' && J8 c c' && J8 d d'
 | .gslice a b c d e f,.gslice a' b' c' d' e' f'=>J8 a a' && J8 b b' && J8 c c' && J8 d d' && J8 e e' && J8 f f'
 | .eslice a,.eslice b=>J8 a b
 | .mE,.mE=>B4
 | .map a,.map b=>J8 a b
 | .nilf,.nilf=>B4
 | .nili,.nili=>B4
 | .fn (.func f) x a,.fn (.func g) y b=>J8 f g && fq x y && fq a b
 | .fn (.yield f) x a,.fn (.yield g) y b=>J8 f g && fq x y && fq a b
 | .iface t a,.iface u b=>J8 t u && cu a b
 | .agg a,.agg b=>fq a b
 | .tuple a,.tuple b=>fq a b
 |_,_=>B2
def fq:List AV->List AV->Bool
 |[],[]=>B4
 |x::xs,y::ys=>cu x y && fq xs ys
 |_,_=>B2
end
abbrev iX:=List AV->Nat->ar->Option (bJ×ar)
structure RT where
 AP:jV
 call:b9
 round:iX
 n:Nat
 ctx:Ctx
def cR(call:b9)(round:iX)(f:mC)(args:List AV)(H:ar):Option (bJ×ar) :=
 match f with
 | .func g=>(call g args B5 H).bind λ r=>B1 (r.1,r.2.2)
 | .yield l=>round args l H
def fR(put:AV->T AV->T AV)(cF:Option (List Nat))(st:St)(k:St->gV)(r:bJ×ar):gV :=
 match r.1 with
 | .ret v=>k ⟨put v st.tm,st.bj,st.up,r.2⟩
 | .panic c=>cF.bind λ ds=>B1 (.panic c,⟨forget ds st.tm,st.bj,st.up,r.2⟩)
def O4(put:AV->T AV->T AV)(st:St):St :=
 match st.up with
 |some ((v,B2)::older)=>⟨put v st.tm,st.bj,B1 ((v,B4)::older),st.H⟩
 |_=>⟨put .nili st.tm,st.bj,st.up,st.H⟩
def Ep(f:List AV->Option AV)(put:AV->T AV->T AV)(st:St)(k:St->gV)(vs:List AV):gV :=
 (f vs).bind λ v=>k ⟨put v st.tm,st.bj,st.up,st.H⟩
def EV(f:List AV->ar->Option AV)(put:AV->T AV->T AV)(st:St)(k:St->gV)(vs:List AV):gV :=
 (f vs st.H).bind λ v=>k ⟨put v st.tm,st.bj,st.up,st.H⟩
def wJ(f:List AV->Option (bF×(Nat->AV)))(put:AV->T AV->T AV)(st:St)(k:St->gV)(vs:List AV):gV :=
 (f vs).bind λ r=>k ⟨put (r.2 st.H.au) st.tm,st.bj,st.up,st.H.alloc r.1⟩
def Mq(f:List AV->ar->Option (AV×ar))(put:AV->T AV->T AV)(st:St)(k:St->gV)(vs:List AV):gV :=
 (f vs st.H).bind λ r=>k ⟨put r.1 st.tm,st.bj,st.up,r.2⟩
def ES(f:Nat)(rt:RT)(put:AV->T AV->T AV)(cF:Option (List Nat))(st:St)(k:St->gV)(vs:List AV):gV :=
 (cR rt.call rt.round (.func f) vs st.H).bind λ r=>fR put cF st k r
def Ej(rt:RT)(put:AV->T AV->T AV)(cF:Option (List Nat))(st:St)(k:St->gV)(vs:List AV):gV :=
 match vs with
 | .fn (.func f) first cap::args=>(cR rt.call rt.round (.func f) (first++(args++cap)) st.H).bind λ r=>fR put cF st k r
 | .fn (.yield l) first []::args=>(cR rt.call rt.round (.yield l) (first++args) st.H).bind λ r=>fR put cF st k r
 |_=>B5
def tV(name:String)(rt:RT)(put:AV->T AV->T AV)(cF:Option (List Nat))(st:St)(k:St->gV)(vs:List AV):gV :=
 match vs with
 | .iface t v::args=>(rt.AP.kG t name).bind λ f=>(cR rt.call rt.round (.func f) (v::args) st.H).bind λ r=>fR put cF st k r
 |_=>B5
def Ub(rt:RT)(put:AV->T AV->T AV)(st:St)(k:St->gV)(vs:List AV):gV :=
 match rt.ctx.round with
 |some _=>B5
 |none=>match vs with
  |[]=>k (O4 put st)
  |_=>B5
def wT(rt:RT)(put:AV->T AV->T AV)(st:St)(k:St->gV)(vs:List AV):gV :=
 match rt.ctx.round with
 |some _=>B5
 |none=>match vs with
  | .fn (.func f) first cap::args=>k ⟨put .undef st.tm,.fn (.func f) (first++(args++cap))::st.bj,st.up,st.H⟩
  |_=>B5
def wU(put:AV->T AV->T AV)(cF:Option (List Nat))(st:St)(k:St->gV)(vs:List AV):gV :=
 match vs with
 |[.iface t v]=>fR put cF st k (.panic [(.iface t v,B2)],st.H)
 |_=>B5
structure OpC where
 run:RT->St->(St->gV)->List AV->gV
def qV(put:AV->T AV->T AV)(cF:Option (List Nat)):fL->OpC
 | .pure f=>⟨λ _ st k vs=>Ep f put st k vs⟩
 | .read f=>⟨λ _ st k vs=>EV f put st k vs⟩
 | .alloc f=>⟨λ _ st k vs=>wJ f put st k vs⟩
 | .gY f=>⟨λ _ st k vs=>Mq f put st k vs⟩
 | .ir f=>⟨λ rt st k vs=>ES f rt put cF st k vs⟩
 | .im=>⟨λ rt st k vs=>Ej rt put cF st k vs⟩
 | .invoke name=>⟨λ rt st k vs=>tV name rt put cF st k vs⟩
 | .recover=>⟨λ rt st k vs=>Ub rt put st k vs⟩
 | .defer=>⟨λ rt st k vs=>wT rt put st k vs⟩
 | .panic=>⟨λ _ st k vs=>wU put cF st k vs⟩
def rh(get:T AV->Option AV)(st:St)(vs:List AV):fL->Bool
 | .read f=>match f vs st.H,get st.tm with
  |some v,B1 v'=>cu v v'
  |_,_=>B2
 |_=>B2
def cQ(b:Bool):Option AV->Option Bool
 |some (.bool q)=>B1 (cond q b (!b))
 |some (.tuple [])=>B1 B2
 |_=>B5
structure Rr where
 run:RT->(St->gV)->St->gV
def gR(s:aR):Rr :=
 match s.iq with
 |false=>match s.guard with
  |none=>⟨λ rt k st=>((uE s.args).run st.tm).bind λ vs=>(qV (lW s.dst).run s.cF s.op).run rt st k vs⟩
  |some g=>⟨λ rt k st=>(cQ g.2 ((T.oY (T.path g.1)).run st.tm)).bind λ w =>
   cond w (((uE s.args).run st.tm).bind λ vs=>(qV (lW s.dst).run s.cF s.op).run rt st k vs) (k ⟨(lW s.dst).run .undef st.tm,st.bj,st.up,st.H⟩)⟩
 |true=>match s.guard,s.dst with
  |none,B1 d=>⟨λ _ k st=>((uE s.args).run st.tm).bind λ vs=>cond (rh (T.oY (T.path d)).run st vs s.op) (k st) B5⟩
  |some g,B1 d=>⟨λ _ k st=>(cQ g.2 ((T.oY (T.path g.1)).run st.tm)).bind λ w =>
   cond w (((uE s.args).run st.tm).bind λ vs=>cond (rh (T.oY (T.path d)).run st vs s.op) (k st) B5) (k st)⟩
  |_,B5=>⟨λ _ _ _=>B5⟩
structure JZ where
 run:RT->St->gV
def hC:List aR->JZ
 |[]=>⟨λ _ st=>B1 (.normal,st)⟩
 |s::rest=>⟨λ rt st=>(gR s).run rt ((hC rest).run rt) st⟩
def cO(H:ar)(l:Nat)(s:mV)(p:Option iv):Option ar :=
 match H.get l with
 |some (.loop _ _ f k tm d)=>B1 (H.set l (.loop s p f k tm d))
 |_=>B5
def Ec(H:ar)(l:Nat):Option Nat :=
 match H.get l with
 |some (.loop _ _ _ _ _ d)=>B1 d
 |_=>B5
def NN(st:St)(bj:List aQ)(l:Nat)(e:bJ)(H:ar):gV :=
 match e with
 | .panic c=>B1 (.panic c,{st with bj:=bj,H:=H})
 | .ret _=>match H.get l with
  |some (.loop .busy _ _ _ _ _)=>B5
  |some (.loop _ p f k tm d)=>B1 (ri p,{st with bj:=bj,H:=H.set l (.loop .exhausted p f k tm d)})
  |_=>B5
def jD(call:b9)(round:iX)(ctx:Ctx)(st:St)(k:Nat)(H0:ar)(bj:List aQ)(d:Nat):AV->gV
 | .fn (.func g) first cap =>
  (cR call round (.func g) (first++(.fn (.yield H0.au) [] []::cap)) (H0.alloc (.loop .ready B5 ctx.fn k st.tm d))).bind λ r =>
   NN st bj H0.au r.1 r.2
 |_=>B5
def vC(next:RT->St->gV)(rt:RT)(r:aZ×St):gV :=
 match r.1 with
 | .normal=>next rt r.2
 |e=>B1 (e,r.2)
def uV(a b:RT->St->gV)(rt:RT)(st:St)(v:AV):gV :=
 match v with
 | .bool q=>cond q (a rt st) (b rt st)
 |_=>B5
def kP(id:Nat)(r:aZ×St):gV :=
 match r.1 with
 | .exit id'=>B1 (cond (J8 id id') .normal (.exit id'),r.2)
 |e=>B1 (e,r.2)
def lX(b:aj)(r:aZ×St):gV :=
 match r.1 with
 | .goto l=>cond (Gd b l) B5 (B1 (.goto l,r.2))
 |e=>B1 (e,r.2)
def qW(rt:RT)(k:Nat)(st:St)(v:AV):gV :=
 match rt.ctx.round with
 |none=>jD rt.call rt.round rt.ctx st k (st.H.alloc (.deferred (B1 []))) (.jJ st.H.au::st.bj) st.H.au v
 |some l=>(Ec st.H l).bind λ d=>jD rt.call rt.round rt.ctx st k st.H st.bj d v
def bI:aj->JZ
 | .skip=>⟨λ _ st=>B1 (.normal,st)⟩
 | .label _=>⟨λ _ st=>B1 (.normal,st)⟩
 | .region steps=>hC steps
 | .seq a b=>⟨λ rt st=>((bI a).run rt st).bind (vC (bI b).run rt)⟩
 | .cond c a b=>⟨λ rt st=>((N9 c).run st.tm).bind (uV (bI a).run (bI b).run rt st)⟩
 | .block id b=>⟨λ rt st=>((bI b).run rt st).bind (kP id)⟩
 | .loop ai b=>⟨λ rt st=>gT ai ((bI b).run rt) rt.n st⟩
 | .exit id=>⟨λ _ st=>B1 (.exit id,st)⟩
 | .goto l=>⟨λ _ st=>B1 (.goto l,st)⟩
 | .ret=>⟨λ _ st=>B1 (.ret,st)⟩
 | .stuck=>⟨λ _ _=>B5⟩
 | .scope b=>⟨λ rt st=>((bI b).run rt st).bind (lX b)⟩
 | .rangeFunc f k=>⟨λ rt st=>((N9 f).run st.tm).bind (qW rt k st)⟩
def exec(AP:jV)(call:b9)(round:iX)(n:Nat)(ctx:Ctx)(c:aj)(st:St):gV:=(bI c).run ⟨AP,call,round,n,ctx⟩ st
def Il(l:Nat)(r:aZ×St):Option (bJ×ar) :=
 match r.1 with
 | .panic c=>B1 (.panic c,r.2.H)
 |e=>(cO r.2.H l (cond (zX e) .ready .done) (kX e)).bind λ H=>B1 (.ret (.bool (zX e)),H)
def beginRound(H:ar)(l:Nat):Option ar :=
 match H.get l with
 |some (.loop .ready p f k tm d)=>B1 (H.set l (.loop .busy p f k tm d))
 |_=>B5
def roundOf(AP:jV)(ex:Ctx->aj->St->gV)(args:List AV)(l:Nat)(H:ar):Option (bJ×ar) :=
 match H.get l with
 |some (.loop _ _ f k tm _) =>
  (AP.func f).bind λ fn=>(nth fn.loops k).bind λ lp=>(L7 tm lp.params args).bind λ tm1 =>
  (ex ⟨B1 l,f⟩ lp.assign {tm:=tm1,bj:=[],up:=B5,H:=H}).bind λ r=>match r.1 with
   | .normal=>(beginRound r.2.H l).bind λ H2=>(ex ⟨B1 l,f⟩ lp.body {r.2 with H:=H2}).bind λ q=>cond (noDefs q.2.bj) (Il l q) B5
   |_=>B5
 |_=>B5
 where noDefs:List aQ->Bool
 |[]=>B4
 |_=>B2
def NB(H:ar)(tm:T AV):eE->Option AV
 | .tmp t=>tm.get t
 | .lC a=>(tm.get a).bind λ v=>match v with| .ptr b o=>H.ah b o|_=>B5
 | .dg n a=>(tm.get a).bind λ v=>match v with| .ptr b o=>(H.aw b o n).bind λ l=>B1 (.agg l)|_=>B5
def ep(H:ar)(tm:T AV):List eE->Option (List AV)
 |[]=>B1 []
 |r::rs=>(NB H tm r).bind λ v=>(ep H tm rs).bind λ vs=>B1 (v::vs)
def jE:List AV->AV
 |[v]=>v
 |l=>.tuple l
def nU(m:Option aH)(up:aH):Option (Option aH) :=
 match m,up with
 |none,[]=>B1 B5
 |some _,(_,B4)::_=>B1 B5
 |some _,(v,B2)::c=>B1 (B1 ((v,B2)::c))
 |_,_=>B5
def ct(call:b9)(rs:List eE)(tm:T AV):List aQ->Option aH->ar->Option (bJ×ar)
 |[],B5,H=>(ep H tm rs).bind λ l=>B1 (.ret (jE l),H)
 |[],B1 c,H=>B1 (.panic c,H)
 | .jJ b::ds,m,H=>match H.get b with
  |some (.deferred (B1 []))=>ct call rs tm ds m (H.set b (.deferred B5))
  |_=>B5
 | .fn (.func f) args::ds,m,H=>(call f args (B1 (m.getD [])) H).bind λ r =>
  match r.1,r.2.1 with
  | .ret _,B1 up'=>(nU m up').bind λ m'=>ct call rs tm ds m' r.2.2
  |_,_=>B5
 | .fn (.yield _) _::_,_,_=>B5
def qG(call:b9)(fn:bT)(r:aZ×St):Option (bJ×Option aH×ar) :=
 let fin (m:Option aH):Option (bJ×Option aH×ar):=(ct call fn.results r.2.tm r.2.bj m r.2.H).bind λ q=>B1 (q.1,r.2.up,q.2)
 match r.1 with
 | .normal=>fin B5
 | .ret=>fin B5
 | .panic c=>fin (B1 c)
 |_=>B5
def rounds(AP:jV)(call:b9)(m:Nat):Nat->iX
 |0=>λ _ _ _=>B5
 |n+1=>roundOf AP (exec AP call (rounds AP call m n) m)
def GI(AP:jV)(call:b9)(n:Nat):b9:=λ f args up H =>
 (AP.func f).bind λ fn =>
  (exec AP call (rounds AP call n n) n ⟨B5,f⟩ fn.body {tm:=jZ 0 args .nil,bj:=[],up:=up,H:=H}).bind λ r =>
   qG call fn r
def Dm(AP:jV):Nat->b9
 |0=>λ _ _ _ _=>B5
 |n+1=>GI AP (Dm AP n) n
def kI(AP:jV)(told:b9):Nat->b9
 |0=>told
 |n+1=>λ f args up H=>match told f args up H with
  |some r=>B1 r
  |none=>GI AP (kI AP told n) n f args up H
end
end Go.Am
namespace Go.Am
noncomputable section
mutual
def fY:K8->Option AV
 | .bool b=>B1 (.bool b)
 | .int k n=>B1 (.int k n)
 | .string s=>B1 (.str s.data.toList)
 | .pointer B5=>B1 .nilp
 | .slice B5 0 0=>B1 .nils
 | .map B5=>B1 .mE
 | .nilFunc=>B1 .nilf
 | .nilIface=>B1 .nili
 | .iface t v=>(fY v).bind λ x=>B1 (.iface t x)
 | .agg cs=>(nH cs.toList).bind λ l=>B1 (.agg l)
 | .tuple cs=>(nH cs.toList).bind λ l=>B1 (.tuple l)
 |_=>B5
def nH:List K8->Option (List AV)
 |[]=>B1 []
 |v::vs=>(fY v).bind λ x=>(nH vs).bind λ xs=>B1 (x::xs)
end
def qZ(G:Nat):N0->Option bL
 | .tmp t=>B1 (.tmp t)
 | .const v=>(fY v).bind λ x=>B1 (.const x)
 | .global g=>if Pk g G then B1 (.eJ g)else B5
 | .func f=>B1 (.func f)
def nK(G:Nat):List N0->Option (List bL)
 |[]=>B1 []
 |x::xs=>(qZ G x).bind λ y=>(nK G xs).bind λ ys=>B1 (y::ys)
def zeroOf(P:Jy)(t:LP):Option AV:=((P.info? t).bind (·.zero)).bind fY
def bX(P:Jy)(t:LP):Option Nat:=(P.info? t).bind λ i=>B1 i.size
def ng(P:Jy)(t:LP):Option Nat:=(P.info? t).bind λ i=>B1 i.bytes
def oe(P:Jy)(t:LP):Option (Option Nat) :=
 match P.underlying t with
 |some (.struct _)|some (.array _ _)=>(bX P t).bind λ n=>B1 (B1 n)
 |some _=>B1 B5
 |none=>B5
def dF(P:Jy):Nat->LP->Option aU
 |0,_=>B5
 |d+1,t=>match P.underlying t with
  |some (.int _)=>B1 .int
  |some .string=>B1 .str
  |some .bool=>B1 .bool
  |some (.struct fs)=>if P.stoodInHeld t then B5 else fieldsT (dF P d) fs.toList
  |some (.array n e)=>(bX P e).bind λ s=>(oe P e).bind λ a=>(dF P d e).bind λ q=>B1 (itemsT s a q n 0)
  |_=>B5
 where
 fieldsT (go:LP->Option aU):List Field->Option aU
  |[]=>B1 .nil
  |f::fs=>if f.name = "_" then B5 else(oe P f.type).bind λ a=>(go f.type).bind λ q=>(fieldsT go fs).bind λ r=>B1 (.part f.offset a q r)
 itemsT (s:Nat) (a:Option Nat) (q:aU):Nat->Nat->aU
  |0,_=>.nil
  |n+1,i=>.part (i*s) a q (itemsT s a q n (i+1))
def p5(P:Jy)(t:LP):Option aU:=dF P 20 t
def gN:Nat->List (Option N0)->List (Option Nat)
 |_,[]=>[]
 |n,B5::r=>B5::gN n r
 |n,B1 _::r=>B1 n::gN (n+1) r
def kN:List (Option N0)->List N0
 |[]=>[]
 |none::r=>kN r
 |some x::r=>x::kN r
def Fu(pl:Nat->Option (Nat×Nat)):List (Nat×N0)->Option (List (Nat×Nat))
 |[]=>B1 []
 |(i,_)::r=>(pl i).bind λ p=>(Fu pl r).bind λ l=>B1 (p::l)
def N5(P:Jy)(fs:Array Field)(i:Nat):Option (Nat×Nat):=(fs[i]?).bind λ f=>(bX P f.type).bind λ n=>B1 (f.offset,n)
def Mp(n:Nat)(i:Nat):Option (Nat×Nat):=B1 (i*n,n)
def f0(P:Jy)(b:Builtin)(ts:Array LP)(args:List N0):Option (List N0×fL) :=
 match b with
 | .len=>match(ts[0]?).bind P.underlying with
  |some (.slice _)=>B1 (args,.pure Op.dp)
  |_=>B5
 | .append=>match ts.toList with
  |[t,tx]=>match P.underlying t,P.underlying tx with
   |some (.slice e),B1 (.slice _)=>(bX P e).bind λ n=>(ng P e).bind λ z=>(zeroOf P e).bind λ zv=>if zv.cells.length=n then B1 (args,.gY (Op.append e n z))else B5
   |_,_=>B5
  |_=>B5
 | .min=>B1 (args,.pure (Op.eG B2))
 | .clear=>match(ts[0]?).bind P.underlying with
  |some (.slice e)=>(zeroOf P e).bind λ z=>B1 (args,.gY (Op.cj z.cells))
  |some (.map _ _)=>B1 (args,.gY Op.bV)
  |_=>B5
 | .recover=>B1 (args,.recover)
 | .panic=>B1 (args,.panic)
 |_=>B5
def MZ(_P:Jy)(fn:Func)(args:List N0):Option (List N0×fL) :=
 if fn.origin != "" then B5
 else if fn.name == "internal/bytealg.IndexByteString" then B1 (args,.pure Op.aG)
 else B5
def Dc(P:Jy)(src dst:LP)(x:N0):Option (List N0×fL) :=
 match P.underlying src,P.underlying dst with
 |some (.int _),B1 (.int k)=>B1 ([x],.pure (Op.wrap k))
 |_,_=>B5
def Nr(P:Jy):Nat->LP->Bool
 |0,_=>B4
 |d+1,t=>match P.underlying t with
  |some (.interface ms)=>!ms.isEmpty
  |some (.struct fs)=>fs.toList.any λ f=>f.name != "_" && Nr P d f.type
  |some (.array _ e)=>Nr P d e
  |_=>B2
def WH(P:Jy):∀(d:Nat)(t:LP),Nr P d t=P.eqGuardType d t
 |0,_=>rfl
 |d+1,t=>by
  rw[Nr,Jy.eqGuardType];cases P.underlying t with
  |none=>rfl
  |some u =>
   cases u with
   |struct fs =>
    show fs.toList.any _=fs.any _;rw[<-Array.any_toList];congr 1;funext f;rw[WH P d]
   |array _ e=>exact WH P d e
   |_=>rfl
def Hp(P:Jy)(t:LP)(x y:N0):Option xK :=
 match P.underlying t with
 |some .bool=>B1 .bool
 |some (.pointer e)=>match bX P e with
  |some (_+1)=>B1 .ptr
  |_=>B5
 |some (.slice _)=>B1 .slice
 |some (.map _ _)=>B1 .map
 |some (.func _ _ _)=>B1 .func
 |some (.interface _)=>match x,y with
  | .const .nilIface,_=>B1 .iface
  |_,.const .nilIface=>B1 .iface
  |_,_=>B1 (.ifaces λ u=>(P.info? u).bind λ i=>if i.comparable then dF P 20 u else B5)
 |some (.struct _)=>if Nr P P.depth t then B5 else(dF P 20 t).bind λ q=>B1 (.agg q)
 |some (.array _ _)=>if Nr P P.depth t then B5 else(dF P 20 t).bind λ q=>B1 (.agg q)
 |_=>B5
def K4(P:Jy)(op:BinOp)(t:LP)(x y:N0):Option (List N0×fL) :=
 match P.underlying t with
 |some (.int _)=>B1 ([x,y],.pure (Op.bin op))
 |some .string=>B1 ([x,y],.pure (Op.bin op))
 |_=>match op with
  | .eql=>(Hp P t x y).bind λ k=>B1 ([x,y],.read (Op.eq k B2))
  | .neq=>(Hp P t x y).bind λ k=>B1 ([x,y],.read (Op.eq k B4))
  |_=>B5
def BQ(P:Jy)(c:Call):Option (List N0×fL) :=
 match c.callee with
 | .value (.func f)=>(P.funcs[f]?).bind λ fn =>
  match fn.body with
  |some _=>B1 (c.args.toList,.ir f)
  |none=>MZ P fn c.args.toList
 | .value f=>B1 (f::c.args.toList,.im)
 | .invoke r m=>B1 (r::c.args.toList,.invoke m)
 | .builtin b=>f0 P b c.argTypes c.args.toList
def RR(P:Jy)(op:CJ):Option (List N0×fL) :=
 match op with
 | .move x=>B1 ([x],.pure Op.move)
 | .assign x=>B1 ([x],.pure Op.move)
 | .pick c a b=>B1 ([c,a,b],.pure Op.pick)
 | .alloc e=>(zeroOf P e).bind λ z=>B1 ([],.alloc (Op.alloc e z.cells))
 | .box e x=>B1 ([x],.alloc (Op.box e))
 | .build t parts=>(zeroOf P t).bind λ z =>
  match P.underlying t with
  |some (.struct fs)=>if fs.toList.all (λ f=>(bX P f.type).isSome)then(Fu (N5 P fs) parts.toList).bind λ ps=>B1 (parts.toList.map (·.2),.pure (Op.build z.cells ps))else B5
  |some (.array _ e)=>(bX P e).bind λ n=>(Fu (Mp n) parts.toList).bind λ ps=>B1 (parts.toList.map (·.2),.pure (Op.build z.cells ps))
  |_=>B5
 | .buildSlice t len parts =>
  match P.underlying t with
  |some (.slice e)=>(bX P e).bind λ n=>(zeroOf P e).bind λ z=>(Fu (Mp n) parts.toList).bind λ ps=>if z.cells.length=n/\len*n<=16777216 then B1 (parts.toList.map (·.2),.alloc (Op.buildSlice e len z.cells ps))else B5
  |_=>B5
 | .load t a=>(oe P t).bind λ r=>match r with
  |none=>B1 ([a],.read Op.ah)
  |some n=>B1 ([a],.read (Op.aw n))
 | .store t a x=>(bX P t).bind λ n=>B1 ([a,x],.gY (Op.store n))
 | .nilCheck x=>B1 ([x],.pure Op.nilCheck)
 | .binOp op t x y _=>K4 P op t x y
 | .unOp op _ x=>B1 ([x],.pure (Op.un op))
 | .convert src dst x=>Dc P src dst x
 | .makeInterface t x=>match P.underlying t with
  |some (.interface _)=>B5
  |some _=>B1 ([x],.pure (Op.du t))
  |none=>B5
 | .makeFunc (.func f) a b=>B1 (a.toList++b.toList,.pure (Op.bB f a.size))
 | .makeMap _ B5=>B1 ([],.alloc Op.mkMap)
 | .makeMap t (B1 (.const (.int _ _)))=>match P.underlying t with
  |some (.map _ _)=>B1 ([],.alloc Op.mkMap)
  |_=>B5
 | .makeSlice t l c =>
  match P.underlying t with
  |some (.slice e)=>(ng P e).bind λ b=>(zeroOf P e).bind λ z=>(bX P e).bind λ n=>if z.cells.length=n then B1 ([l,c],.alloc (Op.mkSlice e b z.cells))else B5
  |_=>B5
 | .slice t x lo hi mx =>
  match P.underlying t with
  |some (.slice e)=>(bX P e).bind λ n=>B1 (x::kN [lo,hi,mx],.pure (Op.aC n (gN 0 [lo,hi,mx])))
  |some (.array k e)=>(bX P e).bind λ n=>B1 (x::kN [lo,hi,mx],.pure (Op.cJ k n (gN 0 [lo,hi,mx])))
  |_=>B5
 | .fieldAddr t x i =>
  match P.underlying t with
  |some (.struct fs)=>(fs[i]?).bind λ f=>(bX P f.type).bind λ n=>if n == 0 then B5 else B1 ([x],.pure (Op.fieldAddr f.offset))
  |_=>B5
 | .indexAddr t x i =>
  match P.underlying t with
  |some (.slice e)=>(bX P e).bind λ n=>B1 ([x,i],.pure (Op.aT n))
  |some (.array k e)=>(bX P e).bind λ n=>B1 ([x,i],.pure (Op.bh k n))
  |_=>B5
 | .index t x i =>
  match P.underlying t with
  |some .string=>B1 ([x,i],.pure Op.bP)
  |some (.array k e)=>(bX P e).bind λ n=>(oe P e).bind λ a=>B1 ([x,i],.pure (Op.bD k n a))
  |_=>B5
 | .lookup t m k ok =>
  match P.underlying t with
  |some (.map kt e)=>(p5 P kt).bind λ key=>(zeroOf P e).bind λ z=>B1 ([m,k],.read (Op.lookup key z ok))
  |_=>B5
 | .mapUpdate t m k v =>
  match P.underlying t with
  |some (.map kt _)=>(p5 P kt).bind λ key=>B1 ([m,k,v],.gY (Op.mapUpdate key))
  |_=>B5
 | .insert t m k v =>
  match P.underlying t with
  |some (.map kt _)=>(p5 P kt).bind λ key=>B1 ([m,k,v],.gY (Op.mapUpdate key))
  |_=>B5
 | .extract x i=>B1 ([x],.pure (Op.extract i))
 | .call c=>BQ P c
 | .defer c=>match c.callee with
  | .value f=>B1 (f::c.args.toList,.defer)
  |_=>B5
 | .panic x=>B1 ([x],.panic)
 |_=>B5
def gB(P:Jy)(o:Pv):Option (List bL×fL) :=
 match(RR P o.op).bind λ r=>(nK P.globals.size r.1).bind λ args=>B1 (args,r.2)with
 |some r=>B1 r
 |none=>B1 ([],.pure Op.fail)
inductive M3 where
 |pure|read|alloc|gY
 deriving DecidableEq
def qT:fL->M3
 | .pure _=>.pure
 | .read _=>.read
 | .alloc _=>.alloc
 |_=>.gY
def mY(cls:Nat->M3)(gn:Nat->Nat)(n:Nat):Nat->Nat->List (Bool×Nat)->List (Bool×Nat)
 |0,_,acc=>acc.reverse
 |fuel+1,done,acc =>
  let ready (i:Nat):Bool:=!done.testBit i && (gn i &&& done) == gn i
  let todo:=(N7 n).filter λ i=>!done.testBit i
  match todo.find? (λ i=>ready i && (cls i == .pure ||cls i == .read))with
  |some i=>mY cls gn n fuel (done |||2 ^ i) ((B2,i)::acc)
  |none =>
   -- the next effect: the first one (effects are in a row)
   match todo.find? (λ i=>cls i == .gY)with
   |some e =>
    if ready e then
     let again:=(acc.reverse.filter λ q=>!q.1 && cls q.2 == .read && !(gn e).testBit q.2).map λ q=>(B4,q.2)
     mY cls gn n fuel (done |||2 ^ e) (again.reverse++((B2,e)::acc))
    else match todo.find? (λ i=>ready i && (gn e).testBit i)with
     |some i=>mY cls gn n fuel (done |||2 ^ i) ((B2,i)::acc)
     |none=>acc.reverse
   |none=>match todo.find? ready with
    |some i=>mY cls gn n fuel (done |||2 ^ i) ((B2,i)::acc)
    |none=>acc.reverse
def dy{α:Type}:List (Option α)->Option (List α)
 |[]=>B1 []
 |x::xs=>x.bind λ a=>(dy xs).bind λ l=>B1 (a::l)
def guardOf(ops:Array Pv):Option (Nat×Bool)->Option (Option (Nat×Bool))
 |none=>B1 B5
 |some g=>((ops[g.1]?).bind (·.dst)).bind λ t=>B1 (B1 (t,g.2))
def jG(ops:Array Pv)(l:List (List bL×fL))(safe:Nat->Option (List Nat))(q:Bool×Nat):Option aR :=
 (ops[q.2]?).bind λ o=>(l[q.2]?).bind λ a=>(guardOf ops o.guard).bind λ g =>
  B1 {iq:=q.1,dst:=o.dst,guard:=g,args:=a.1,op:=a.2,cF:=safe q.2}
def pI(nt:Nat)(o:Pv):Bool :=
 match o.dst with
 |none=>B4
 |some d=>Pk d nt
def pX(a b:Nat):Bool:=J8 (Nat.land a b) a
def bitsOf:List (Bool×Nat)->Nat->Nat
 |[],d=>d
 |(B4,_)::l,d=>bitsOf l d
 |(B2,i)::l,d=>bitsOf l (Nat.lor d (2 ^ i))
def nM:List (Bool×Nat)->Nat->Nat
 |(B4,r)::l,d=>nM l (Nat.lor d (2 ^ r))
 |_,d=>d
def rG(c d:M3):Bool:=match c,d with
 | .pure,.pure=>B4
 | .read,.read=>B4
 | .alloc,.alloc=>B4
 | .gY,.gY=>B4
 |_,_=>B2
def jB(p:Nat->Bool):Nat->Nat
 |0=>0
 |n+1=>cond (p n) (Nat.lor (jB p n) (2 ^ n)) (jB p n)
structure mS where
 n:Nat
 gn:Nat->Nat
 cls:Nat->M3
 jW:Nat->Nat->Bool
 self:Nat->Bool
 made:Nat
 reads:Nat
def N6(I:mS)(done:Nat)(post:List (Bool×Nat)):Bool×Nat->Bool
 |(B2,i)=>Pk i I.n && (!done.testBit i && (pX (I.gn i) done && (match I.cls i with
  | .read=>pX (Nat.land done I.made) (I.gn i)
  | .gY=>pX (Nat.land done I.made) (I.gn i) && pX (Nat.land done I.reads) (Nat.lor (I.gn i) (nM post 0))
  |_=>B4)))
 |(B4,r)=>rG (I.cls r) .read && (I.self r && (done.testBit r && pX (Nat.land done (jB (λ w=>!Nat.beq w r && I.jW r w) I.n)) (I.gn r)))
def KO(I:mS):List (Bool×Nat)->Nat->Bool
 |[],done=>pX (2 ^ I.n-1) done
 |(B2,i)::post,done=>N6 I done post (B2,i) && KO I post (Nat.lor done (2 ^ i))
 |(B4,r)::post,done=>N6 I done post (B4,r) && KO I post done
def sN(p:Nat->Bool):Nat->Bool
 |0=>B4
 |n+1=>p n && sN p n
def zA(I:mS):Bool:=sN (λ r=>sN (λ w=>J8 r w ||((I.gn r).testBit w ||((I.gn w).testBit r ||!I.jW r w))) I.n) I.n
def tmpsOf:List bL->List Nat
 |[]=>[]
 | .tmp t::l=>t::tmpsOf l
 |_::l=>tmpsOf l
def oT(t:Nat):List Nat->Bool
 |[]=>B2
 |x::l=>J8 x t ||oT t l
def iR(ops:Array Pv)(l:List (List bL×fL))(r:Nat):List Nat :=
 match ops[r]?,l[r]? with
 |some o,B1 a=>(match guardOf ops o.guard with|some (B1 g)=>[g.1]|_=>[])++tmpsOf a.1
 |_,_=>[]
def ik(ops:Array Pv)(w:Nat):Option Nat:=(ops[w]?).bind (·.dst)
def gQ(ops:Array Pv)(l:List (List bL×fL))(r:Nat):List Nat :=
 (match ik ops r with|some d=>[d]|none=>[])++iR ops l r
def Cp(ops:Array Pv)(l:List (List bL×fL))(r w:Nat):Bool :=
 match ik ops w with
 |some t=>oT t (gQ ops l r)
 |none=>B2
def DZ(ops:Array Pv)(l:List (List bL×fL))(r:Nat):Bool :=
 match ik ops r with
 |some t=>!oT t (iR ops l r)
 |none=>B4
def om(l:List (List bL×fL))(i:Nat):M3:=qT ((l[i]?.getD ([],.recover)).2)
def xM(c:M3):Bool:=rG c .alloc ||rG c .gY
def aW(ops:Array Pv)(l:List (List bL×fL)):mS :=
 {n:=ops.size,gn:=λ i=>(C1 ops).getD i 0,cls:=om l,jW:=Cp ops l,self:=DZ ops l,made:=jB (λ i=>xM (om l i)) ops.size,reads:=jB (λ i=>rG (om l i) .read) ops.size}
def uX(i:Nat):List (Bool×Nat)->List (Bool×Nat)
 |[]=>[]
 |(c,j)::l=>cond (!c && J8 j i) [] ((c,j)::uX i l)
def Nz(ops:Array Pv)(I:mS)(plan:List (Bool×Nat))(i:Nat):Option (List Nat) :=
 let d:=bitsOf (uX i plan) 0
 cond (sN (λ j=>J8 j i ||(d.testBit j ||(I.gn j).testBit i)) I.n) (B1 (ops.toList.filterMap (·.dst))) B5
def iV(P:Jy)(nt:Nat)(ops:Array Pv)(draw:Bool):Option aj :=
 if ops.toList.all (pI nt)then
 (dy (ops.toList.map (gB P))).bind λ l =>
  if draw then
   let I:=aW ops l
   let plan:=mY I.cls I.gn ops.size (2*ops.size) 0 []
   cond (KO I plan 0 && zA I) ((dy (plan.map (jG ops l (Nz ops I plan)))).bind λ steps=>B1 (.region steps)) (B1 .stuck)
  else(dy ((N7 ops.size).map λ i=>jG ops l (λ _=>B1 []) (B2,i))).bind λ steps=>B1 (.region steps)
 else B5
def cw(P:Jy)(nt:Nat):Nat->Code->Option (aj×List dI)
 |_,.skip=>B1 (.skip,[])
 |_,.region _ ops draw=>(iV P nt ops draw).bind λ c=>B1 (c,[])
 |k,.seq a b=>(cw P nt k a).bind λ a=>(cw P nt (k+a.2.length) b).bind λ b=>B1 (.seq a.1 b.1,a.2++b.2)
 |k,.cond c a b=>(qZ P.globals.size c).bind λ c=>(cw P nt k a).bind λ a=>(cw P nt (k+a.2.length) b).bind λ b=>B1 (.cond c a.1 b.1,a.2++b.2)
 |k,.block id b=>(cw P nt k b).bind λ b=>B1 (.block id b.1,b.2)
 |k,.loop b=>(cw P nt k b).bind λ b=>B1 (.loop B5 b.1,b.2)
 |k,.rangeFunc f ps a b=>(qZ P.globals.size f).bind λ f=>(cw P nt (k+1) a).bind λ a=>(cw P nt (k+1+a.2.length) b).bind λ b =>
  if ps.toList.all λ p=>Pk p nt then B1 (.rangeFunc f k,{params:=ps.toList,assign:=a.1,body:=b.1}::(a.2++b.2))else B5
 |_,.exit id=>B1 (.exit id,[])
 |k,.scope b=>(cw P nt k b).bind λ b=>B1 (.scope b.1,b.2)
 |_,.label l=>B1 (.label l,[])
 |_,.goto l=>B1 (.goto l,[])
 |_,.ret=>B1 (.ret,[])
 |_,.refuse _=>B1 (.stuck,[])
def qU(P:Jy):List ResultVar->Option (List eE)
 |[]=>B1 []
 | .tmp t::r=>(qU P r).bind λ l=>B1 (.tmp t::l)
 | .cell a t::r=>(oe P t).bind λ n=>(qU P r).bind λ l=>B1 ((match n with|none=>.lC a|some n=>.dg n a)::l)
def ux(P:Jy)(fn:Func):Option bT :=
 fn.body.bind λ b=>(cw P fn.ntmps 0 b).bind λ c=>(qU P fn.results.toList).bind λ r=>B1 {results:=r,body:=c.1,loops:=c.2}
def zM(P:Jy)(t:LP)(name:String):Option Nat :=
 (P.info? t).bind λ i=>(i.methods.find? (·.name == name)).bind λ m =>
  if !m.path.isEmpty then B5 else m.func.bind λ p =>
   match P.underlying t,p.2 with
   |none,_=>B5
   |some (.pointer _),B4=>B1 p.1
   |some (.pointer _),B2=>B5
   |some _,B4=>B5
   |some _,B2=>B1 p.1
def aY(P:Jy):jV:={func:=λ f=>(P.funcs[f]?).bind (ux P),kG:=zM P}
end
end Go.Am
namespace Go.Am
namespace T
variable{α:Type}
def go_eq(f:Nat):∀(g i:Nat),i<=f->i<=g->path.go f i=path.go g i:=by
 induction f with
 |zero=>intro g i a hg;obtain rfl:i=0:=by omega
        cases g<;>simp[path.go]
 |succ f ih =>
  intro g i a hg;cases i with
  |zero=>grind
  |succ n =>
   cases g with
   |zero=>omega
   |succ g =>
    simp only[path.go];have h:n / 2<=n:=Nat.div_le_self n 2;congr 1;exact ih g (n / 2) (by omega) (by omega)
theorem xmt:path 0=[]:=rfl
theorem WN(n:Nat):path (n+1)=J8 (n % 2) 0::path (n / 2):=by
 show path.go (n+1) (n+1)=_;simp only[path.go];have h:n / 2<=n:=Nat.div_le_self n 2;exact congrArg (J8 (n % 2) 0 :: ·) (go_eq n (n / 2) (n / 2) h (qm _))
theorem ad4:∀(i j:Nat),path i=path j->i=j:=by
 intro i
 induction i using Nat.strongRecOn with
 |_ i ih =>
  intro j h;cases i with
  |zero=>cases j with
   |zero=>rfl
   |succ m=>grind [xmt,WN]
  |succ n=>cases j with
   |zero=>grind
   |succ m =>
    rw[WN,WN]at h;injection h with d c
    have f:=ih (n / 2) (by have:=Nat.div_le_self n 2;omega) (m / 2) c;have g:n % 2=m % 2:=by
     rcases Nat.mod_two_eq_zero_or_one n with a|a<;>rcases Nat.mod_two_eq_zero_or_one m with b|b<;>simp_all
    omega
def EZ(p:List Bool):wI p (.nil:T α)=none:=by
 induction p with
 |nil=>rfl
 |cons b p ih=>cases b<;>exact ih
theorem q6z(v:Option α):∀(p:List Bool)(t:T α),wI p (fN v p t)=v:=by
 intro p
 induction p with
 |nil=>intro t;rfl
 |cons b p ih=>intro t;cases b<;>exact ih _
theorem xch(v:Option α):∀(p q:List Bool)(t:T α),p≠q->wI q (fN v p t)=wI q t:=by
 intro p
 induction p with
 |nil =>
  intro q t h;cases q with
  |nil=>grind
  |cons b q=>cases b<;>rfl
 |cons b p ih =>
  intro q t h;cases q with
  |nil=>cases b<;>rfl
  |cons c q =>
   cases b<;>cases c
   .exact ih q _ (λ e=>h (by rw[e]))
   .rfl
   .rfl
   .exact ih q _ (λ e=>h (by rw[e]))
def kK(t:T α)(i j:Nat)(v:Option α):(t.put i v).get j=if i=j then v else t.get j:=by
 unfold get put
 by_cases h:i=j
 .grind [q6z]
 .simp only[h,nT];grind [xch,ad4]
def aK(t:T α)(i j:Nat)(v:α):(t.set i v).get j=if i=j then B1 v else t.get j:=kK t i j (B1 v)
def get_nil(j:Nat):(T.nil:T α).get j=none:=EZ _
def jS(p:List Bool)(t:T α):(oY p).run t=wI p t:=by
 induction p generalizing t with
 |nil=>rfl
 |cons b p ih=>cases b<;>exact ih _
def Dz(v:Option α)(p:List Bool)(t:T α):(CE p).run v t=fN v p t:=by
 induction p generalizing t with
 |nil=>rfl
 |cons b p ih =>
  grind [CE,fN]
end T
section
variable{α:Type}
def kD(l:List α)(i:Nat):nth l i=l[i]?:=by
 induction l generalizing i with
 |nil=>rfl
 |cons x l ih=>cases i with
  |zero=>rfl
  |succ n=>exact ih n
def py(a b:List α):kJ a b=a++b:=by
 induction a with
 |nil=>rfl
 |cons x a ih=>exact congrArg (x :: ·) ih
def Ij(l:List α):cW l=l.length:=by
 induction l with
 |nil=>rfl
 |cons x l ih=>exact congrArg (·+1) ih
theorem Ct(n:Nat)(l:List α):da n l=l.drop n:=by
 induction n generalizing l with
 |zero=>rfl
 |succ n ih=>cases l with
  |nil=>exact(ih []).trans (by simp)
  |cons x l=>exact ih l
theorem ah0(n:Nat)(l:List α):BV n l=if n<=l.length then B1 (l.take n)else none:=by
 induction n generalizing l with
 |zero=>rfl
 |succ n ih=>cases l with
  |nil=>rfl
  |cons x l =>
   show(BV n l).bind (λ r=>B1 (x::r))=_
   grind
def ah4(new l:List α):yT new l=if new.length<=l.length then B1 (new++l.drop new.length)else none:=by
 induction new generalizing l with
 |nil=>rfl
 |cons x new ih=>cases l with
  |nil=>rfl
  |cons y l =>
   show(yT new l).bind (λ r=>B1 (x::r))=_
   grind
def Fy(o:Nat)(new l:List α):putAt o new l=if o+new.length<=l.length then B1 (l.take o++new++l.drop (o+new.length))else none:=by
 induction o generalizing l with
 |zero=>show yT new l=_;rw[ah4];simp
 |succ o ih=>cases l with
  |nil =>
   show B5=_
   grind
  |cons x l =>
   show(putAt o new l).bind (λ r=>B1 (x::r))=_
   grind
def sV(l:List α)(o n:Nat):fP l o n=if n<=l.length-o then B1 ((l.drop o).take n)else none:=by
 grind [fP,ah0,Ct]
end
def HG(a b:Int):sY a b=decide (a<=b):=by
 cases a<;>cases b<;>rw[CB]<;>simp[sY,uh]<;>try omega
def Js(a b:Int):AW a b=decide (a<b):=by
 unfold AW;rw[HG];grind
theorem DG(a b:Int):u7 a b=(a == b):=by
 rw[CB,beq_iff_eq];cases a<;>cases b<;>simp[u7]<;>omega
def Sw(a b:PD):rT a b=decide (a=b):=by cases a<;>cases b<;>rfl
theorem ZA(a b:UInt8):Fj a b=(a == b):=by
 unfold Fj;rw[CB];simp_all[UInt8.toNat_inj]
theorem Mi(a b:List UInt8):A5 a b=(a == b):=by
 induction a generalizing b with
 |nil=>cases b<;>rfl
 |cons x a ih=>cases b with
  |nil=>rfl
  |cons y b =>
   show cond (Fj x y) (A5 a b) B2=_
   grind [ZA]
end Go.Am
namespace Go.Am
structure Th where
 cq:Nat->Nat
 off:Nat->Nat
 ext:Nat->Nat
def fQ(θ:Th):mC->Fn
 | .func f=>.func f
 | .yield l=>.yield (θ.cq l)
def EJ:Nat->Option Nat
 |0=>B5
 |n+1=>B1 n
mutual
def az(θ:Th):AV->K8
 | .bool b=>.bool b
 | .int k n=>.int k n
 | .str s=>.string ⟨s.toArray⟩
 | .nilp=>.pointer B5
 | .ptr b o=>.pointer (B1 ⟨θ.cq b,θ.off b+o,B5⟩)
 | .nils=>.slice B5 0 0
 | .slice b o n c=>.slice (B1 ⟨θ.cq b,θ.off b+o,B5⟩) n c
 | .gslice b i m s alt n=>.slice (B1 ⟨θ.cq b,θ.off b+(if(m-i) + θ.ext b=0 then alt else i*s),B5⟩) n ((m-i) + θ.ext b)
 | .eslice b=>.slice (B1 ⟨θ.cq b,θ.off b,EJ (θ.ext b)⟩) 0 0
 | .mE=>.map B5
 | .map b=>.map (B1 (θ.cq b))
 | .fn f a b=>.func (fQ θ f) (bW θ a).toArray (bW θ b).toArray
 | .nilf=>.nilFunc
 | .iface t v=>.iface t (az θ v)
 | .nili=>.nilIface
 | .agg l=>.agg (bW θ l).toArray
 | .tuple l=>.tuple (bW θ l).toArray
def bW(θ:Th):List AV->List K8
 |[]=>[]
 |v::vs=>az θ v::bW θ vs
end
def ui(θ:Th)(l:List AV):bW θ l=l.map (az θ):=by
 induction l with
 |nil=>rfl
 |cons x l ih=>simp[bW,ih]
def Ag(D:Nat->Prop)(θ θ':Th):Prop:=∀b,D b -> θ'.cq b = θ.cq b /\ θ'.off b = θ.off b /\ θ'.ext b = θ.ext b
def Ag.refl(D:Nat->Prop)(θ:Th):Ag D θ θ:=λ _ _=>⟨rfl,rfl,rfl⟩
def Ag.trans{D D':Nat->Prop}{θ θ' θ'':Th}(h:Ag D θ θ')(a:Ag D' θ' θ'')(c:∀b,D b->D' b):Ag D θ θ'':=λ b hb =>
 let⟨a1,a2,a3⟩:=h b hb;let⟨b1,b2,b3⟩:=a b (c b hb);(by omega)
def Ag.mono{D D':Nat->Prop}{θ θ':Th}(h:Ag D θ θ')(a:∀b,D' b->D b):Ag D' θ θ':=λ b hb=>h b (a b hb)
def VR(D:Nat->Prop)(θ:Th)(v:AV)(c:K8):Prop:=∀θ',Ag D θ θ'->az θ' v=c
def bN(D:Nat->Prop)(θ:Th)(l:List AV)(cs:List K8):Prop:=∀θ',Ag D θ θ'->bW θ' l=cs
section
variable{D D':Nat->Prop}{θ θ':Th}
def VR.now{v:AV}{c:K8}(h:VR D θ v c):az θ v=c:=h θ (Ag.refl D θ)
def bN.now{l:List AV}{cs:List K8}(h:bN D θ l cs):bW θ l=cs:=h θ (Ag.refl D θ)
def VR.up{v:AV}{c:K8}(h:VR D θ v c)(ha:Ag D θ θ')(d:∀b,D b->D' b):VR D' θ' v c:=λ θ'' a=>h θ'' (ha.trans a d)
def bN.up{l:List AV}{cs:List K8}(h:bN D θ l cs)(ha:Ag D θ θ')(c:∀b,D b->D' b):bN D' θ' l cs:=λ θ'' a=>h θ'' (ha.trans a c)
def bN.nil:bN D θ [] []:=λ _ _=>rfl
def bN.cons{v:AV}{c:K8}{l:List AV}{cs:List K8}(h:VR D θ v c)(hl:bN D θ l cs):bN D θ (v::l) (c::cs) :=
 λ θ' ha=>by simp[bW,h θ' ha,hl θ' ha]
def bN.d9{v:AV}{l:List AV}{cs:List K8}(h:bN D θ (v::l) cs):∃c cs',cs=c::cs'/\VR D θ v c/\bN D θ l cs':=by
 refine⟨az θ v,bW θ l,(by rw[<-h.now];rfl),λ θ' ha=>?_,λ θ' ha=>?_⟩
 .have:=(h θ' ha).trans h.now.symm;grind [bW]
 .have:=(h θ' ha).trans h.now.symm;grind [bW]
def bN.mr{cs:List K8}(h:bN D θ [] cs):cs=[]:=h.now.symm
def bN.length{l:List AV}{cs:List K8}(h:bN D θ l cs):cs.length=l.length:=by rw[<-h.now,ui];simp
def bN.app{l a:List AV}{cs cs':List K8}(h:bN D θ l cs)(b:bN D θ a cs'):bN D θ (l++a) (cs++cs'):=by
 intro θ' ha;rw[ui,I9,<-ui,<-ui,h θ' ha,b θ' ha]
def bN.rB{l:List AV}{cs:List K8}(h:bN D θ l cs){i:Nat}{v:AV}(b:l[i]? = B1 v):∃c,cs[i]? = B1 c/\VR D θ v c:=by
 refine⟨az θ v,?_,λ θ' ha=>?_⟩
 .rw [<-h.now,ui,xj,b];rfl
 .have:=(h θ' ha).trans h.now.symm;rw[ui,ui]at this;have a:=congrArg (λ l=>l[i]?) this;simp only[xj,b,Im,qk]at a;exact a
def bN.drop{l:List AV}{cs:List K8}(h:bN D θ l cs)(n:Nat):bN D θ (l.drop n) (cs.drop n):=by
 intro θ' ha;rw[ui,List.map_drop,<-ui,h θ' ha]
def bN.take{l:List AV}{cs:List K8}(h:bN D θ l cs)(n:Nat):bN D θ (l.take n) (cs.take n):=by
 intro θ' ha;rw[ui,List.map_take,<-ui,h θ' ha]
def bN.one{v:AV}{c:K8}(h:VR D θ v c):bN D θ [v] [c]:=.cons h .nil
def VR.agg{l:List AV}{cs:List K8}(h:bN D θ l cs):VR D θ (.agg l) (.agg cs.toArray):=λ θ' ha=>by simp[az,h θ' ha]
def VR.tuple{l:List AV}{cs:List K8}(h:bN D θ l cs):VR D θ (.tuple l) (.tuple cs.toArray):=λ θ' ha=>by simp[az,h θ' ha]
def VR.fA{l:List AV}{c:K8}(h:VR D θ (.agg l) c):∃cs:List K8,c=.agg cs.toArray/\bN D θ l cs:=by
 refine⟨bW θ l,h.now.symm,λ θ' ha=>?_⟩;have:=(h θ' ha).trans h.now.symm;simpa[az]using this
def VR.zR{l:List AV}{c:K8}(h:VR D θ (.tuple l) c):∃cs:List K8,c=.tuple cs.toArray/\bN D θ l cs:=by
 refine⟨bW θ l,h.now.symm,λ θ' ha=>?_⟩;have:=(h θ' ha).trans h.now.symm;simpa[az]using this
def VR.iface{t:Nat}{v:AV}{c:K8}(h:VR D θ v c):VR D θ (.iface t v) (.iface t c):=λ θ' ha=>by simp[az,h θ' ha]
def VR.mz{t:Nat}{v:AV}{c:K8}(h:VR D θ (.iface t v) c):∃a,c=.iface t a/\VR D θ v a:=by
 refine⟨az θ v,h.now.symm,λ θ' ha=>?_⟩;have:=(h θ' ha).trans h.now.symm;simpa[az]using this
def VR.undef:VR D θ .undef Go.undef:=λ _ _=>rfl
def VR.bool(b:Bool):VR D θ (.bool b) (.bool b):=λ _ _=>rfl
def VR.int(k:PD)(n:Int):VR D θ (.int k n) (.int k n):=λ _ _=>rfl
def VR.str(s:List UInt8):VR D θ (.str s) (.string ⟨s.toArray⟩):=λ _ _=>rfl
def VR.ptr{b o:Nat}(hb:D b):VR D θ (.ptr b o) (.pointer (B1 ⟨θ.cq b,θ.off b+o,B5⟩)):=λ θ' ha=>by obtain⟨a,c,_⟩:=ha b hb;grind [az]
theorem VR.map{b:Nat}(hb:D b):VR D θ (.map b) (.map (B1 (θ.cq b))):=λ θ' ha=>by obtain⟨a,_,_⟩:=ha b hb;simp[az,a]
def VR.slice{b o n c:Nat}(hb:D b):VR D θ (.slice b o n c) (az θ (.slice b o n c)):=λ θ' ha=>by obtain⟨a,d,_⟩:=ha b hb;grind [az]
def VR.gslice{b i m s alt n:Nat}(hb:D b):VR D θ (.gslice b i m s alt n) (az θ (.gslice b i m s alt n)):=λ θ' ha=>by
 obtain⟨a,c,d⟩:=ha b hb;grind [az]
end
def S4(fz cfz:Nat×Nat)(off size:Nat):Prop:=cfz.1=cfz.2\/(cfz.1<cfz.2/\off+fz.1<=cfz.1/\cfz.2<=off+fz.2)\/(fz.2<fz.1/\(size<=cfz.1\/cfz.2<=off))
def YY(fz cfz:Nat×Nat):Prop:=cfz.1=cfz.2\/(cfz.1<cfz.2/\fz.1<=cfz.1/\cfz.2<=fz.2)
def own:bF->Bool
 | .row _ _ _ o=>o
 |_=>B4
def qA(D:Nat->Prop)(θ:Th)(tm:T AV)(a:Array K8):Prop:=∀t v,tm.get t=B1 v -> ∃c,a[t]? = B1 c/\VR D θ v c
def n_:mV->LoopState
 | .ready=>.ready| .busy=>.busy| .done=>.done| .exhausted=>.exhausted
def mL:iv->Code
 | .exit id=>.exit id
 | .goto l=>.goto l
 | .ret=>.ret
def Q6(D:Nat->Prop)(θ:Th)(e:AV×AV×Nat)(m:BZ):Prop:=VR D θ e.1 m.key/\VR D θ e.2.1 m.val/\m.born=e.2.2
def dA(D:Nat->Prop)(θ:Th):List (AV×AV×Nat)->List BZ->Prop
 |[],[]=>True
 |e::es,m::ms=>Q6 D θ e m/\dA D θ es ms
 |_,_=>False
def wR(P:Jy)(f k n:Nat)(params:Array Tmp)(assign body:Code):Prop :=
 ∃fn af lp ka kb L1 L2,P.funcs[f]? = B1 fn/\ux P fn=B1 af/\nth af.loops k=B1 lp/\lp.params=params.toList/\(∀p∈params.toList,p<fn.ntmps)/\fn.ntmps<=n /\
  cw P fn.ntmps ka assign=B1 (lp.assign,L1)/\(∀i l,nth L1 i=B1 l->nth af.loops (ka+i)=B1 l) /\
  cw P fn.ntmps kb body=B1 (lp.body,L2)/\(∀i l,nth L2 i=B1 l->nth af.loops (kb+i)=B1 l)
def Z4(D:Nat->Prop)(θ:Th):aQ->Deferred->Prop
 | .jJ b,d=>D b/\d = {target:=.collected (θ.cq b),args:=#[]}
 | .fn f args,d=>∃c cap:Array K8,d = {target:=.fn (fQ θ f) cap,args:=c}/\(∀θ',Ag D θ θ'->fQ θ' f=fQ θ f)/\bN D θ args (c++cap).toList
def pj(P:Jy)(D:Nat->Prop)(θ:Th)(b:Nat):bF->Obj->Prop
 | .row cells e fz ow,o=>∃pre cs post cfz e',o=.cells (pre++cs++post).toArray e' cfz/\pre.length = θ.off b/\bN D θ cells cs /\
  (ow=B4->e'=e/\pre=[]/\post=[]/\YY fz cfz)
 | .grown m size cells e fz,o=>∃pre cs post cfz,o=.cells (pre++cs++post).toArray e cfz/\pre.length = θ.off b/\bN D θ cells cs /\
  cells.length=m*size/\post.length = θ.ext b*size/\0<size/\m + θ.ext b<=maxLen/\S4 fz cfz (θ.off b) (pre.length+cs.length+post.length)
 | .map es clock,o=>∃ms:List BZ,o=.map ms.toArray clock/\dA D θ es ms
 | .mB s pos,o=>o=.stringIter ⟨s.toArray⟩ pos /\ θ.off b=0
 | .loop st pend f k tm d,o=>∃r:Loop,o=.loop r/\r.state=n_ st/\r.pending=pend.map mL/\r.fn=f/\qA D θ tm r.tmps/\wR P f k r.tmps.size r.params r.assign r.body /\
  D d/\r.defers = θ.cq d
 | .deferred calls,o=>∃ds,o=.deferred ds/\(match calls,ds with
  |none,B5=>True
  |some l,B1 l'=>l=[]/\l'=[]
  |_,_=>False)
structure HR(P:Jy)(base:Nat)(D:Nat->Prop)(θ:Th)(H:ar)(w:NJ):Prop where
 obj:∀b o,H.get b=B1 o->D b /\ ∃co,w.heap[θ.cq b]? = B1 co/\pj P D θ b o co
 inj:∀b b' o o',H.get b=B1 o->H.get b'=B1 o'->own o=B4->b≠b' -> θ.cq b≠θ.cq b'
 lR:∀b o,H.get b=B1 o->own o=B4->base <= θ.cq b
 eJ:∀g,g<P.globals.size->D g /\ θ.cq g=g /\ θ.off g=0
 low:base<=w.heap.size
def Lt(n:Nat):Nat->Prop:=λ b=>b<n
end Go.Am
namespace Go.Am
theorem zI(k o i:Nat):(⟨k,o,B5⟩:Addr).add i=⟨k,o+i,B5⟩:=by grind [Addr.add]
def fH(w:NJ)(k:Nat)(o:Obj):World:={w with heap:=w.heap.setIfInBounds k o}
def Ud(w:NJ)(k:Nat)(o:Obj):(fH w k o).heap.size=w.heap.size:=by simp[fH]
theorem Kk(w:NJ)(k j:Nat)(o:Obj)(h:k<w.heap.size):(fH w k o).heap[j]? = if k=j then B1 o else w.heap[j]?:=by
 grind [fH]
def xnn(w:NJ)(k:Nat)(o o':Obj):fH (fH w k o) k o'=fH w k o':=by
 simp[fH]
def xnm(w:NJ)(k:Nat)(o:Obj)(h:w.heap[k]? = B1 o):fH w k o=w:=by
 have:w.heap.setIfInBounds k o=w.heap:=by
  grind
 simp_all[fH]
def Cs(w:NJ)(o:Obj)(j:Nat):(w.alloc o).heap[j]? = if j=w.heap.size then B1 o else w.heap[j]?:=by
 grind [NJ.alloc]
section
variable{P:Jy}{w:NJ}{k:Nat}{arr:Array K8}{e:LP}{fz:Nat×Nat}
theorem QS(h:w.heap[k]? = B1 (.cells arr e fz))(o:Nat):w.cell? ⟨k,o,B5⟩=arr[o]?:=by simp[World.cell?,h]
theorem xm6(h:w.heap[k]? = B1 (.cells arr e fz)){o:Nat}{v:K8}(a:arr[o]? = B1 v):(load ⟨k,o,B5⟩).run P w=.ok v w:=by
 rw[run_load,QS h,a]
def xdq(h:w.heap[k]? = B1 (.cells arr e fz))(o n:Nat)(hn:n<=arr.size-o) :
 (loadCells ⟨k,o,B5⟩ n).run P w=.ok ((arr.toList.drop o).take n).toArray w:=by
 have hl:((arr.toList.drop o).take n).length=n:=by grind
 grind [run_loadCells_list,zI,QS]
def T0(a:Nat):∀(vs:List K8)(i:Nat)(arr:Array K8)(w:NJ),w.heap[k]? = B1 (.cells arr e fz) ->
 a+i+vs.length<=arr.size->(∀j,j<vs.length -> ¬(fz.1<=a+i+j/\a+i+j<fz.2))->(∀v∈vs,v.oneCell'=B4) ->
 (storeCells ⟨k,a,B5⟩ vs i).run P w=.ok () (fH w k (.cells (arr.toList.take (a+i)++vs++arr.toList.drop (a+i+vs.length)).toArray e fz))
 |[],i,arr,w,hg,_,_,_=>by
  simp only[storeCells,zn,yw,vc,yx,Br];rw[xnm w k _ hg];rfl
 |v::rest,i,arr,w,hg,hl,hf,h1=>by
  have m:a+i<arr.size:=by grind
  have hk:k<w.heap.size:=(Np.1 hg).1;have b:w.cell? ⟨k,a+i,B5⟩=B1 arr[a+i]:=by rw[QS hg];grind
  have d:w.frozen? ⟨k,a+i,B5⟩=false:=by
   have:=hf 0 (by simp)
   grind [NJ.frozen?]
  have f:w.setCell ⟨k,a+i,B5⟩ v=fH w k (.cells (arr.setIfInBounds (a+i) v) e fz):=by
   simp only[NJ.setCell,fH];congr 1
   grind
  have c:(store ((⟨k,a,B5⟩:Addr).add i) v).run P w=.ok () (fH w k (.cells (arr.setIfInBounds (a+i) v) e fz)):=by
   grind [zI,run_store]
  have h:=T0 a rest (i+1) (arr.setIfInBounds (a+i) v) (fH w k (.cells (arr.setIfInBounds (a+i) v) e fz))
   (by grind [Kk]) (by grind)
   (λ j g=>by have:=hf (j+1) (by simpa using g);rwa [show a+i+(j+1)=a+(i+1)+j from by omega]at this)
   (by grind)
  simp only[storeCells,NQ,c,NM,h,xnn];congr 3;have l:=list_seg_step arr.toList (a+i) v rest (by simp at hl⊢;omega);simp_all[wq]
end
def Up(D:Nat->Prop)(n m:Nat):Nat->Prop:=λ b=>D b\/(n<=b/\b<m)
def Up.of{D:Nat->Prop}{n m:Nat}:∀b,D b->Up D n m b:=λ _ h=>.inl h
def eC(D:Nat->Prop)(n m:Nat):Prop:=∀b,n<=b->b<m -> ¬D b
def Up.up{D:Nat->Prop}{n m k:Nat}(h:n<=m)(a:m<=k):Up (Up D n m) m k=Up D n k:=by
 funext b;simp only[Up,eq_iff_iff]
 grind
theorem Up.none{D:Nat->Prop}{n:Nat}:Up D n n=D:=by
 funext b;simp only[Up,eq_iff_iff]
 grind
def eC.left{D:Nat->Prop}{n m k:Nat}(h:eC D n k)(hk:m<=k):eC D n m:=λ b a c=>h b a (by omega)
def eC.right{D:Nat->Prop}{n m k:Nat}(h:eC D n k)(hm:n<=m):eC (Up D n m) m k:=λ b d c a=>by
 rcases a with a|⟨_,f⟩
 .exact h b (by omega) c a
 .omega
structure bE(D:Nat->Prop)(H:ar)(θ:Th)(w:NJ)(H':ar)(θ':Th)(w':NJ):Prop where
 au:H.au<=H'.au
 ag:Ag D θ θ'
 size:w.heap.size<=w'.heap.size
 os:w'.os=w.os
 tape:w'.tape=w.tape
 output:w'.output=w.output
 ai:∀k,k<w.heap.size->(∀b o,H.get b=B1 o->own o=B4 -> θ.cq b≠k)->w'.heap[k]? = w.heap[k]?
 news:∀b o,H'.get b=B1 o->own o=B4 -> θ'.cq b<w.heap.size -> ∃b' o',H.get b'=B1 o'/\own o'=B4 /\ θ.cq b' = θ'.cq b
def bE.refl(D:Nat->Prop)(H:ar)(θ:Th)(w:NJ):bE D H θ w H θ w :=
 ⟨qm _,Ag.refl _ _,qm _,rfl,rfl,rfl,λ _ _ _=>rfl,λ b o h ho _=>(by grind)⟩
def bE.trans{D D':Nat->Prop}{H H' c:ar}{θ θ' θ'':Th}{w w' d:NJ}(a:bE D H θ w H' θ' w')(b:bE D' H' θ' w' c θ'' d)(p:∀b,D b->D' b):bE D H θ w c θ'' d:=by
 refine⟨zd a.au b.au,a.ag.trans b.ag p,zd a.size b.size,b.os.trans a.os,b.tape.trans a.tape,b.output.trans a.output,?_,?_⟩
 .intro k hk g;refine(b.ai k (qn hk a.size) ?_).trans (a.ai k hk g);intro x o h ho he;have⟨i,o',j,l,n⟩:=a.news x o h ho (by omega)
  grind
 .intro x o h ho f;have⟨i,o',j,l,n⟩:=b.news x o h ho (qn f a.size);have⟨m,q,r,s,t⟩:=a.news i o' j l (by omega)
  grind
def bE.draw{D:Nat->Prop}{H:ar}{θ:Th}{w w':NJ}(a:w'.heap=w.heap)(ho:w'.os=w.os)(c:w'.tape=w.tape)(hp:w'.output=w.output):bE D H θ w H θ w' :=
 ⟨qm _,Ag.refl _ _,by grind,ho,c,hp,λ _ _ _=>by rw[a],λ b o h hw _=>(by grind)⟩
def HR.draw{P:Jy}{base:Nat}{D:Nat->Prop}{θ:Th}{H:ar}{w w':NJ}(h:HR P base D θ H w)(a:w'.heap=w.heap):HR P base D θ H w' :=
 ⟨λ b o hb=>by rw[a];exact h.obj b o hb,h.inj,h.lR,h.eJ,by rw[a];exact h.low⟩
def dA.up{D D':Nat->Prop}{θ θ':Th}(ha:Ag D θ θ')(a:∀b,D b->D' b):∀(es:List (AV×AV×Nat))(ms:List BZ),dA D θ es ms->dA D' θ' es ms
 |[],[],_=>trivial
 |e::es,m::ms,⟨⟨h1,h2,h3⟩,h⟩=>⟨⟨h1.up ha a,h2.up ha a,h3⟩,dA.up ha a es ms h⟩
 |[],_::_,h=>h.elim
 |_::_,[],h=>h.elim
def pj.up{P:Jy}{D D':Nat->Prop}{θ θ':Th}{b:Nat}{o:bF}{co:Obj}(h:pj P D θ b o co)(hb:D b)(ha:Ag D θ θ')(n:∀b,D b->D' b):pj P D' θ' b o co:=by
 have⟨e1,e2,A⟩:=ha b hb;cases o with
 |row cells e fz ow =>
  have⟨pre,cs,post,a,y,g,i,j,l⟩:=h;exact⟨pre,cs,post,a,y,g,by omega,j.up ha n,l⟩
 |grown m size cells e fz =>
  have⟨pre,cs,post,a,g,i,j,l,u,p,q,x⟩:=h;exact⟨pre,cs,post,a,g,by omega,j.up ha n,l,by grind,p,by omega,by grind⟩
 |map es clock =>
  have⟨ms,g,i⟩:=h;exact⟨ms,g,dA.up ha n _ _ i⟩
 |mB s pos=>exact⟨h.1,e2.trans h.2⟩
 |loop st pend f k tm d =>
  have⟨r,g,i,j,l,u,p,q,x⟩:=h;exact⟨r,g,i,j,l,λ t v z=>let⟨c,hc,hr⟩:=u t v z;⟨c,hc,hr.up ha n⟩,p,n d q,by rw[(ha d q).1];exact x⟩
 |deferred calls=>exact h
def HR.up{P:Jy}{base:Nat}{D D':Nat->Prop}{θ:Th}{H:ar}{w:NJ}(h:HR P base D θ H w)(a:∀b,D b->D' b):HR P base D' θ H w :=
 ⟨λ b o hb=>let⟨h1,co,h2,h3⟩:=h.obj b o hb;⟨a b h1,co,h2,h3.up h1 (Ag.refl _ _) a⟩,h.inj,h.lR,λ g hg=>⟨a g (h.eJ g hg).1,(h.eJ g hg).2⟩,h.low⟩
section
variable{P:Jy}{base:Nat}{D:Nat->Prop}{θ:Th}{H:ar}{w:NJ}
def HR.lt(h:HR P base D θ H w){b:Nat}{o:bF}(hb:H.get b=B1 o):θ.cq b<w.heap.size:=by
 have⟨_,co,a,_⟩:=h.obj b o hb
 grind
def ar.aK(H:ar)(b a:Nat)(o:bF):(H.set b o).get a=if b=a then B1 o else H.get a:=T.aK _ _ _ _
def ar.bO(H:ar)(a:Nat)(o:bF):(H.alloc o).get a=if H.au=a then B1 o else H.get a:=T.aK _ _ _ _
def ar.rF(H:ar)(b a:Nat):(H.kill b).get a=if b=a then B5 else H.get a:=T.kK _ _ _ _
def HR.set(h:HR P base D θ H w){b:Nat}{o o':bF}{co':Obj}(hb:H.get b=B1 o)(ho:own o=B4)(p:own o'=B4)(hr:pj P D θ b o' co') :
 HR P base D θ (H.set b o') (fH w (θ.cq b) co'):=by
 have i:=h.lt hb;refine⟨λ x f a=>?_,λ x y f j a g c d=>?_,λ x f a c=>?_,h.eJ,by rw[Ud];exact h.low⟩
 .rw [ar.aK]at a
  by_cases e:b=x
  .subst e;simp only[rN,qk]at a;subst a;exact⟨(h.obj b o hb).1,co',by grind [Kk],hr⟩
  .simp only[e,nT]at a;have⟨l,co,m,n⟩:=h.obj x f a;exact⟨l,co,by rw[Kk _ _ _ _ i,qv (h.inj b x o f hb a ho e)];exact m,n⟩
 .rw [ar.aK]at a g
  by_cases e:b=x<;>by_cases e':b=y
  .omega
  .subst e;simp only[e',nT]at g;exact h.inj b y o j hb g ho d
  .subst e';simp only[e,nT]at a;exact h.inj x b f o a hb c d
  .simp only[e,e',nT]at a g;exact h.inj x y f j a g c d
 .rw [ar.aK]at a
  by_cases e:b=x
  .subst e;exact h.lR b o hb ho
  .simp only[e,nT]at a;exact h.lR x f a c
def bE.set{b:Nat}{o o':bF}{co':Obj}(hb:H.get b=B1 o)(ho:own o=B4)(a:θ.cq b<w.heap.size) :
 bE D H θ w (H.set b o') θ (fH w (θ.cq b) co'):=by
 refine⟨qm _,Ag.refl _ _,by simp_all[Ud],rfl,rfl,rfl,λ k hk c=>?_,λ x g f d _=>?_⟩
 .simp_all [Kk]
 .rw [ar.aK]at f
  grind
def Th.add(θ:Th)(n cq off ext:Nat):Th:={cq:=λ b=>if b=n then cq else θ.cq b,off:=λ b=>if b=n then off else θ.off b,ext:=λ b=>if b=n then ext else θ.ext b}
def Th.eO(θ:Th)(n cq off ext:Nat):(θ.add n cq off ext).cq n=cq/\(θ.add n cq off ext).off n=off/\(θ.add n cq off ext).ext n=ext:=by simp[Th.add]
def Th.hJ(θ:Th)(n cq off ext:Nat){D:Nat->Prop}(hn:¬D n):Ag D θ (θ.add n cq off ext):=λ b hb=>by
 grind [Th.add]
end
section
variable{P:Jy}{base:Nat}{D:Nat->Prop}{θ:Th}{H:ar}{w:NJ}
theorem HR.alloc(h:HR P base D θ H w)(hn:¬D H.au){o:bF}{co:Obj}{k off ext:Nat}{w':NJ}(hk:w'.heap[k]? = B1 co)(p:∀j,j<w.heap.size->w'.heap[j]? = w.heap[j]?)(u:w.heap.size<=k)
 (hs:w.heap.size<=w'.heap.size) (hr:pj P (Up D H.au (H.au+1)) (θ.add H.au k off ext) H.au o co) :
 HR P base (Up D H.au (H.au+1)) (θ.add H.au k off ext) (H.alloc o) w':=by
 have d:=Th.hJ θ H.au k off ext hn;have⟨e1,e2,v⟩:=Th.eO θ H.au k off ext;have old:∀x b,H.get x=B1 b->(θ.add H.au k off ext).cq x = θ.cq x:=λ x b a=>(d x (h.obj x b a).1).1;refine⟨λ x b a=>?_,λ x y b q a i f m=>?_,λ x b a f=>?_,λ g hg=>?_,by have:=h.low;omega⟩
 .rw [ar.bO]at a
  by_cases e:H.au=x
  .subst e;simp only[rN,qk]at a;subst a;exact⟨.inr ⟨qm _,zy _⟩,co,by rw[e1];exact hk,hr⟩
  .simp only[e,nT]at a;have⟨l,c,r,n⟩:=h.obj x b a;refine⟨.inl l,c,?_,n.up l d Up.of⟩
   grind
 .rw [ar.bO]at a i
  by_cases e:H.au=x<;>by_cases e':H.au=y
  .exact absurd (e.symm.trans e') m
  .subst e;simp only[e',nT]at i;rw[e1,old y q i];have:=h.lt i;omega
  .subst e';simp only[e,nT]at a;rw[e1,old x b a];have:=h.lt a;omega
  .simp only[e,e',nT]at a i;rw[old x b a,old y q i];exact h.inj x y b q a i f m
 .rw [ar.bO]at a
  by_cases e:H.au=x
  .subst e;rw[e1];have:=h.low;omega
  .simp only[e,nT]at a;rw[old x b a];exact h.lR x b a f
 .have ⟨l,r,n⟩:=h.eJ g hg;have⟨s,t,_⟩:=d g l;exact⟨.inl l,s.trans r,t.trans n⟩
theorem bE.alloc(h:HR P base D θ H w)(hn:¬D H.au)(o:bF)(co:Obj)(off ext:Nat):bE D H θ w (H.alloc o) (θ.add H.au w.heap.size off ext) (w.alloc co):=by
 have a:=Th.hJ θ H.au w.heap.size off ext hn;have⟨e1,e2,g⟩:=Th.eO θ H.au w.heap.size off ext;refine⟨ke _,a,by simp,rfl,rfl,rfl,λ k hk _=>?_,λ x f b d c=>?_⟩
 .rw [Cs,qv (Ma hk)]
 .rw [ar.bO]at b
  by_cases e:H.au=x
  .grind
  .simp only[e,nT]at b;have:=(a x (h.obj x f b).1).1
   grind
end
section
variable{P:Jy}{base:Nat}{D:Nat->Prop}{θ:Th}{H:ar}{w:NJ}
def HR.cells(h:HR P base D θ H w){b:Nat}{l:List AV}(hb:H.bQ b=B1 l) :
 ∃pre cs post e fz,w.heap[θ.cq b]? = B1 (.cells (pre++cs++post).toArray e fz)/\pre.length = θ.off b/\bN D θ l cs:=by
 unfold ar.bQ at hb;cases hg:H.get b with
 |none=>grind
 |some o =>
  rw[hg]at hb;have⟨_,co,i,hr⟩:=h.obj b o hg;cases o with
  |row cells e fz ow =>
   have⟨pre,cs,post,a,g,c,d,f,_⟩:=hr
   grind
  |grown m size cells e fz =>
   have⟨pre,cs,post,a,c,d,f,_⟩:=hr
   grind
  |map _ _=>cases hb
  |mB _ _=>cases hb
  |loop _ _ _ _ _ _=>cases hb
  |deferred _=>cases hb
def mo(pre cs post:List K8)(o n:Nat)(h:n<=cs.length-o):(((pre++cs++post).toArray.toList.drop (pre.length+o)).take n)=(cs.drop o).take n:=by
 simp_all[I3,NG]
def HR.ah(h:HR P base D θ H w){b o:Nat}{v:AV}(hl:H.ah b o=B1 v) :
 ∃c,(load ⟨θ.cq b,θ.off b+o,B5⟩).run P w=.ok c w/\VR D θ v c:=by
 unfold ar.ah at hl;cases a:H.bQ b with
 |none=>grind
 |some l =>
  rw[a]at hl;have⟨pre,cs,post,e,fz,i,j,d⟩:=h.cells a;simp only[qr,kD]at hl;have⟨c,f,g⟩:=d.rB hl
  grind [xm6]
def HR.aw(h:HR P base D θ H w){b o n:Nat}{l:List AV}(hl:H.aw b o n=B1 l) :
 ∃cs:List K8,(loadCells ⟨θ.cq b,θ.off b+o,B5⟩ n).run P w=.ok cs.toArray w/\bN D θ l cs/\l.length=n:=by
 unfold ar.aw at hl;cases c:H.bQ b with
 |none=>grind
 |some l0 =>
  rw[c]at hl;have⟨pre,cs,post,e,fz,d,f,a⟩:=h.cells c;simp only[qr,sV]at hl;split at hl
  .rename_i hn;cases hl;have hlen:=a.length;refine⟨(cs.drop o).take n,?_,(a.drop o).take n,by grind⟩;rw[<-f,xdq d (pre.length+o) n (by grind),mo pre cs post o n (by omega)]
  grind
theorem xda{v:AV}{c:K8}(h:VR D θ v c)(a:aA v=B4):c.oneCell'=true:=by
 rw[<-h.now];cases v<;>simp_all[aA,az,K8.oneCell']
def vk(l:List AV):aS l=l.all aA:=by
 induction l with
 |nil=>rfl
 |cons x l ih =>
  show cond (aA x) (aS l) B2=_
  grind
def A_{l:List AV}{cs:List K8}(h:bN D θ l cs)(b:aS l=B4):∀c∈cs,c.oneCell'=true:=by
 intro c d;have⟨i,m⟩:=KM d;rw[vk,B6]at b;have a:i<l.length:=by rw[<-h.length];grind
 have⟨f,g,j⟩:=h.rB (qy a)
 grind [xda]
end
end Go.Am
namespace Go.Am
def sF(P:Jy)(s:Sem Next)(w:NJ)(c:K8)(w':NJ):Prop:=s.run P w=.ok (.value c) w'\/(s.run P w=.ok .skip w'/\c=Go.undef)
def dq(P:Jy)(o:Pv)(xs:List N0)(f:List AV->Option AV):Prop :=
 ∀(D:Nat->Prop)θ(ρ:N0->K8)w vs v,bN D θ vs (xs.map ρ)->f vs=B1 v -> ∃c,sF P (execOp ρ o) w c w/\VR D θ v c
section
variable{P:Jy}{w:NJ}
def kw{t:LP}{d:TypeDesc}(h:P.underlying t=B1 d):(underlying t).run P w=.ok d w:=run_underlying h w
def uv{t:LP}{n:Nat}(h:bX P t=B1 n):(sizeOf t).run P w=.ok n w:=by
 unfold bX at h;cases a:P.info? t with
 |none=>grind
 |some i=>simp_all[sizeOf,typeInfo]
def qzi{t:LP}{n:Nat}(h:bX P t=B1 n):∃i,P.info? t=B1 i/\i.size=n:=by
 unfold bX at h;cases a:P.info? t with
 |none=>grind
 |some i=>grind
def SM{t:LP}{n:Option Nat}(h:oe P t=B1 n):(isAgg t).run P w=.ok n.isSome w /\ ∀k,n=B1 k->(sizeOf t).run P w=.ok k w:=by
 unfold oe at h;cases hu:P.underlying t with
 |none=>grind
 |some d =>
  rw[hu]at h;cases d
  case struct fs =>
   simp only at h;cases hs:bX P t with
   |none=>grind
   |some m =>
    rw[hs]at h;cases h;simp_all[isAgg,kw,uv]
  case array m e =>
   simp only at h;cases hs:bX P t with
   |none=>grind
   |some m =>
    rw[hs]at h;cases h;simp_all[isAgg,kw,uv]
  all_goals
   (cases h
    simp_all[isAgg,kw])
mutual
def Yk(θ:Th):∀(c:K8)(v:AV),fY c=B1 v->az θ v=c
 | .bool b,v,h=>by simp[fY]at h;subst h;rfl
 | .int k n,v,h=>by simp[fY]at h;subst h;rfl
 | .string s,v,h=>by simp[fY]at h;subst h;simp[az]
 | .pointer B5,v,h=>by simp[fY]at h;subst h;rfl
 | .pointer (B1 a),v,h=>by grind [fY]
 | .slice B5 0 0,v,h=>by simp[fY]at h;subst h;rfl
 | .slice B5 0 (n+1),v,h=>by grind [fY]
 | .slice B5 (n+1) c,v,h=>by grind [fY]
 | .slice (B1 a) n c,v,h=>by grind [fY]
 | .map B5,v,h=>by simp[fY]at h;subst h;rfl
 | .map (B1 r),v,h=>by grind [fY]
 | .nilFunc,v,h=>by simp[fY]at h;subst h;rfl
 | .nilIface,v,h=>by simp[fY]at h;subst h;rfl
 | .iface t x,v,h=>by
  simp only[fY]at h;cases d:fY x with
  |none=>grind
  |some y=>rw[d]at h;cases h;simp[az,Yk θ x y d]
 | .agg cs,v,h=>by
  simp only[fY]at h;cases d:nH cs.toList with
  |none=>grind
  |some l=>rw[d]at h;cases h;simp[az,WT θ cs.toList l d]
 | .tuple cs,v,h=>by
  simp only[fY]at h;cases d:nH cs.toList with
  |none=>grind
  |some l=>rw[d]at h;cases h;simp[az,WT θ cs.toList l d]
 | .float _ _,v,h=>by grind [fY]
 | .complex _ _ _,v,h=>by grind [fY]
 | .chan _,v,h=>by grind [fY]
 | .func _ _ _,v,h=>by grind [fY]
def WT(θ:Th):∀(cs:List K8)(l:List AV),nH cs=B1 l->bW θ l=cs
 |[],l,h=>by simp[nH]at h;subst h;rfl
 |c::cs,l,h=>by
  simp only[nH]at h;cases a:fY c with
  |none=>grind
  |some y =>
   rw[a]at h;simp only[qr]at h;cases b:nH cs with
   |none=>grind
   |some ys=>rw[b]at h;cases h;simp[bW,Yk θ c y a,WT θ cs ys b]
end
def Uj{D:Nat->Prop}{θ:Th}{c:K8}{v:AV}(h:fY c=B1 v):VR D θ v c:=λ θ' _=>Yk θ' c v h
def Le{t:LP}{z:AV}(h:zeroOf P t=B1 z):∃c,(zeroValue t).run P w=.ok c w /\ ∀D θ,VR D θ z c:=by
 unfold zeroOf at h;cases a:P.info? t with
 |none=>grind
 |some i =>
  rw[a]at h;simp only[qr]at h;cases b:i.zero with
  |none=>grind
  |some c=>simp_all[zeroValue,typeInfo,Uj]
end
section
variable{D:Nat->Prop}{θ:Th}
def VR.cells{v:AV}{c:K8}(h:VR D θ v c):bN D θ v.cells c.cells.toList:=by
 intro θ' ha;have a:=h θ' ha;subst a;cases v<;>simp[AV.cells,az,K8.cells,bW]
end
section
variable{P:Jy}{D:Nat->Prop}{θ:Th}{ρ:N0->K8}{w:NJ}
theorem bN.iS{x:N0}{vs:List AV}(h:bN D θ vs ([x].map ρ)):∃v,vs=[v]/\VR D θ v (ρ x):=by
 cases vs with
 |nil=>have:=h.length;grind
 |cons v vs =>
  have⟨c,cs,a,d,b⟩:=h.d9;simp only[j7,FP,zz]at a;obtain⟨rfl,rfl⟩:=a;have:=b.length
  grind
theorem bN.tH{x y:N0}{vs:List AV}(h:bN D θ vs ([x,y].map ρ)):∃a b,vs=[a,b]/\VR D θ a (ρ x)/\VR D θ b (ρ y):=by
 cases vs with
 |nil=>have:=h.length;grind
 |cons v vs =>
  have⟨c,cs,d,f,g⟩:=h.d9
  grind [bN.iS]
def bN.sA{x y z:N0}{vs:List AV}(h:bN D θ vs ([x,y,z].map ρ)):∃a b c,vs=[a,b,c]/\VR D θ a (ρ x)/\VR D θ b (ρ y)/\VR D θ c (ρ z):=by
 cases vs with
 |nil=>have:=h.length;grind
 |cons v vs =>
  have⟨c,cs,d,f,g⟩:=h.d9
  grind [bN.tH]
def xdi{o:Pv}{x:N0}(ho:o.op=.move x\/o.op=.assign x):dq P o [x] Op.move:=by
 intro D θ ρ w vs v h b;obtain⟨a,rfl,ha⟩:=bN.iS h;simp only[Op.move,qk]at b;subst b;refine⟨ρ x,.inl ?_,ha⟩;rcases ho with ho|ho<;>simp[execOp,ho]
def xmx{o:Pv}{c a b:N0}(ho:o.op=.pick c a b):dq P o [c,a,b] Op.pick:=by
 intro D θ ρ w vs v h g;obtain⟨q,x,y,rfl,l,m,n⟩:=bN.sA h;unfold Op.pick at g;split at g
 .rename_i i p r heq;injection heq with j d;subst j;injection d with d f;subst d;injection f with f _;subst f
  cases g;have hb:ρ c=.bool i:=l.now.symm;cases i
  .exact ⟨ρ b,.inl (by simp[execOp,ho,hb,asBool]),n⟩
  .exact ⟨ρ a,.inl (by simp[execOp,ho,hb,asBool]),m⟩
 grind
def Ie{o:Pv}{op:UnOp}{t:LP}{x:N0}(ho:o.op=.unOp op t x):dq P o [x] (Op.un op):=by
 intro D θ ρ w vs v h b;obtain⟨a,rfl,ha⟩:=bN.iS h;simp only[Op.un,v_]at b;have hr:=ha.now;split at b
 .rename_i k n;cases b;exact⟨_,.inl (by simp[execOp,ho,<-hr,az,CJ.unary,CJ.intArith]<;>rfl),.int _ _⟩
 .rename_i k n;simp only[gH]at b;cases b;exact⟨_,.inl (by simp[execOp,ho,<-hr,az,CJ.unary,CJ.intBits]<;>rfl),.int _ _⟩
 .cases b;exact⟨_,.inl (by simp[execOp,ho,<-hr,az,CJ.unary]),.bool _⟩
 grind
def xmy{o:Pv}{src dst:LP}{x:N0}{k j:PD}(ho:o.op=.convert src dst x)(c:P.underlying src=B1 (.int j))(d:P.underlying dst=B1 (.int k)):dq P o [x] (Op.wrap k):=by
 intro D θ ρ w vs v h b;obtain⟨a,rfl,ha⟩:=bN.iS h;have hr:=ha.now;unfold Op.wrap at b;split at b
 .rename_i k' n heq;cases heq;cases b;exact⟨_,.inl (by simp[execOp,ho,<-hr,az,convert,kw c,kw d,Conv.intToInt]<;>rfl),.int _ _⟩
 grind
def xdh{o:Pv}{t:LP}{x:N0}(ho:o.op=.makeInterface t x)(g:∃d,P.underlying t=B1 d/\(match d with| .interface _=>B2|_=>B4)=B4):dq P o [x] (Op.du t):=by
 intro D θ ρ w vs v h b;obtain⟨a,rfl,ha⟩:=bN.iS h;simp only[Op.du,qk]at b;subst b;have⟨d,c,f⟩:=g;refine⟨.iface t (ρ x),.inl ?_,ha.iface⟩;cases d<;>simp_all[execOp,Instr.makeInterface,kw c]
def xfq{o:Pv}{f:FuncId}{a b:Array N0}(ho:o.op=.makeFunc (.func f) a b):dq P o (a.toList++b.toList) (Op.bB f a.size):=by
 intro D θ ρ w vs v h c;simp only[Op.bB,qk]at c;subst c;refine⟨.func (.func f) (a.map ρ) (b.map ρ),.inl (by simp[execOp,ho,Instr.makeFunc]),λ θ' hg=>?_⟩;have d:=(h.take a.size) θ' hg;have g:=(h.drop a.size) θ' hg;simp only[az,fQ,d,g];congr 1
 .grind
 grind
def xdf{o:Pv}{x:N0}{i:Nat}(ho:o.op=.extract x i):dq P o [x] (Op.extract i):=by
 intro D θ ρ w vs v h b;obtain⟨a,rfl,ha⟩:=bN.iS h;unfold Op.extract at b;split at b
 .rename_i l heq;cases heq;have⟨cs,g,hl⟩:=ha.zR;rw[kD]at b;have⟨c,d,f⟩:=hl.rB b;exact⟨c,.inl (by simp[execOp,ho,g,Instr.extract,d]),f⟩
 grind
def ML{o:Pv}{c:Call}{b:Builtin}(ho:o.op=.call c)(a:c.callee=.builtin b) :
 ∃consts,execOp ρ o=builtin b c.argTypes o.type consts (c.args.map ρ):=by
 refine⟨c.args.map λ| .const _=>B4|_=>B2,?_⟩
 grind [execOp,resolve,invoke]
def AZ{c:Call}{xs:List N0}(a:c.args.toList=xs):c.args.map ρ = (xs.map ρ).toArray:=by
 grind
def bN.qD{xs:List N0}{a:AV}(h:bN D θ [a] (xs.map ρ)):∃x,xs=[x]/\VR D θ a (ρ x):=by
 have:=h.length
 match xs,this,h with
 |[x],_,h=>grind [bN.iS]
def bN.rE{xs:List N0}{a b:AV}(h:bN D θ [a,b] (xs.map ρ)):∃x y,xs=[x,y]/\VR D θ a (ρ x)/\VR D θ b (ρ y):=by
 have:=h.length
 match xs,this,h with
 |[x,y],_,h =>
  grind [bN.tH]
theorem MY(s:List UInt8):(⟨s.toArray⟩:ByteArray).size=s.length:=by simp[ByteArray.size]
def xji{o:Pv}{c:Call}{xs:List N0}{t e:LP}(ho:o.op=.call c)(f:c.callee=.builtin .len)(d:c.args.toList=xs)(b:c.argTypes[0]? = B1 t)
 (hu:P.underlying t=B1 (.slice e)):dq P o xs Op.dp:=by
 intro D θ ρ w vs v h a;have⟨consts,he⟩:=ML (ρ:=ρ) ho f;unfold Op.dp at a;split at a
 .obtain ⟨x,rfl,ha⟩:=h.qD;cases a;refine⟨_,.inl ?_,.int _ _⟩;rw[he,AZ d];simp[builtin,CZ,kw hu,b,<-ha.now,az,goInt]<;>rfl
 .obtain ⟨x,rfl,ha⟩:=h.qD;cases a;refine⟨_,.inl ?_,.int _ _⟩;rw[he,AZ d];simp[builtin,CZ,kw hu,b,<-ha.now,az,goInt]<;>rfl
 .obtain ⟨x,rfl,ha⟩:=h.qD;cases a;refine⟨_,.inl ?_,.int _ _⟩;rw[he,AZ d];simp[builtin,CZ,kw hu,b,<-ha.now,az,goInt]<;>rfl
 .obtain ⟨x,rfl,ha⟩:=h.qD;cases a;refine⟨_,.inl ?_,.int _ _⟩;rw[he,AZ d];simp[builtin,CZ,kw hu,b,<-ha.now,az,goInt]<;>rfl
 grind
def xir{op:BinOp}{k:PD}{a b:Int}{v:AV}(hs:dZ op=B2)(h:gH op k a b=B1 v)(t:LP) :
 ∃c,(binOp op t (.int k a) (.int k b)).run P w=.ok c w/\VR D θ v c:=by
 cases op<;>simp only[gH,dZ,qk,DG,Js,HG,Bool.true_eq_false]at h hs
 case quo =>
  cases hb:(b == 0)<;>rw[hb]at h<;>simp at h;subst h;exact⟨_,by simp[binOp,CJ.intDiv,by simpa using hb]<;>rfl,.int _ _⟩
 case rem =>
  cases hb:(b == 0)<;>rw[hb]at h<;>simp at h;subst h;exact⟨_,by simp_all[binOp,CJ.intDiv],.int _ _⟩
 all_goals
  subst h
  first|refine⟨_,?_,VR.int _ _⟩|refine⟨_,?_,VR.bool _⟩
  simp only[binOp,ne_eq,not_true_eq_false,nT,CJ.intBits,CJ.intArith,CJ.intCmp];rfl
def xbw(a b:List UInt8):bytesLess a b=CJ.bytesLess a b:=by
 induction a generalizing b with
 |nil=>cases b<;>rfl
 |cons x a ih=>cases b with
  |nil=>rfl
  |cons y b =>
   simp only[bytesLess,CJ.bytesLess,ih,ZA];congr 1;rw[CB];simp[UInt8.lt_iff_toNat_lt]
def _m(s:List UInt8):(⟨s.toArray⟩:ByteArray).toList=s:=by rw[ByteArray.toList_eq]
def xj0{op:BinOp}{a b:List UInt8}{v:AV}(h:rA op a b=B1 v)(t:LP) :
 ∃c,(binOp op t (.string ⟨a.toArray⟩) (.string ⟨b.toArray⟩)).run P w=.ok c w/\VR D θ v c:=by
 cases op<;>simp only[rA,qk,reduceCtorEq,Mi,xbw]at h
 case add =>
  cases hb:OZ (a.length+b.length) 140737488355328<;>rw[hb]at h<;>simp at h;subst h;have hle:a.length+b.length<=140737488355328:=by simp_all
  refine⟨.string (⟨a.toArray⟩++⟨b.toArray⟩),?_,λ θ' _=>?_⟩
  .simp only[binOp,CJ.stringOp,MY,Sem.run_ite];rw[qv (by grind [PD.max,IntKind.bits])];rfl
  .show K8.string ⟨(a++b).toArray⟩=_;congr 1
 all_goals
  subst h;exact⟨_,by simp[binOp,CJ.stringOp]<;>rfl,.bool _⟩
def xhf{o:Pv}{op:BinOp}{t p:LP}{x y:N0}(ho:o.op=.binOp op t x y p):dq P o [x,y] (Op.bin op):=by
 intro D θ ρ w vs v h d;obtain⟨a,b,rfl,ha,hb⟩:=bN.tH h;simp only[Op.bin,oH]at d;have g:=ha.now;have i:=hb.now;have guard:∀(u n:K8),(∀l,u≠ .agg l)->u≠ .nilIface->(eqGuard op t x y u n).run P w=.ok () w:=by
  intro u n q r;unfold eqGuard;cases u<;>cases op<;>simp_all
 split at d
 .rename_i k a k' b;cases hs:dZ op
  .rw [hs]at d;simp only[zo,Sw]at d
   by_cases hk:k=k'
   .subst hk;simp only[decide_true,xv]at d;have⟨c,m,j⟩:=xir (P:=P) (w:=w) (D:=D) (θ:=θ) hs d t;refine⟨c,.inl ?_,j⟩;have hg:=guard (.int k a) (.int k b) (λ _=>by simp) (by simp);simp_all[execOp,az]
   grind
  .rw [hs]at d;simp only[xv,tA,Js]at d
   by_cases f:b<0
   .grind
   .simp only[f,Ji,zo]at d;have hg:=guard (.int k a) (.int k' b) (λ _=>by simp) (by simp);cases op<;>simp only[dZ,zu]at hs
    all_goals
     cases d;exact⟨_,.inl (by simp[execOp,ho,<-g,<-i,az,hg,binOp,CJ.shift,f]<;>rfl),.int _ _⟩
 .rename_i a b;have⟨c,m,j⟩:=xj0 (P:=P) (w:=w) (D:=D) (θ:=θ) d t;have hg:=guard (.string ⟨a.toArray⟩) (.string ⟨b.toArray⟩) (λ _=>by simp) (by simp);exact⟨c,.inl (by simp[execOp,ho,<-g,<-i,az,hg,m]),j⟩
 grind
end
end Go.Am
namespace Go.Am
section
variable{P:Jy}{D:Nat->Prop}{θ:Th}{ρ:N0->K8}{w:NJ}
def MN{t:LP}{l:List AV}{cs:List K8}{off:Nat}{n:Option Nat}{v:AV}(hn:oe P t=B1 n)(hl:bN D θ l cs)(h:partAt l off n=B1 v) :
 ∃c,(part t cs.toArray off).run P w=.ok c w/\VR D θ v c:=by
 have⟨a,b⟩:=SM (w:=w) hn;cases n with
 |none =>
  simp only[partAt,kD]at h;have⟨c,d,f⟩:=hl.rB h;simp_all[part]
 |some k =>
  simp only[partAt,sV]at h;split at h
  .rename_i hk;cases h;refine⟨.agg ((cs.drop off).take k).toArray,?_,VR.agg ((hl.drop off).take k)⟩;have hlen:=hl.length;simp only[part,NQ,a,NM,vn,rN,b k rfl];simp_all
  grind
def T1{i:Int}{n k:Nat}(h:within i n=B1 k):i=(k:Int)/\k<n:=by
 unfold within at h;cases i with
 |ofNat m =>
  grind [vX]
 |negSucc m=>cases h
def q7k{o:Pv}{t:LP}{x:N0}{i:Nat}{fs:Array Field}{f:Field}{n:Nat}(ho:o.op=.fieldAddr t x i)(j:P.underlying t=B1 (.struct fs))(g:fs[i]? = B1 f)(hn:bX P f.type=B1 n)(a:n≠0) :
 dq P o [x] (Op.fieldAddr f.offset):=by
 intro D θ ρ w vs v h c;unfold Op.fieldAddr at c;split at c
 .rename_i b d;have⟨y,heq,ha⟩:=h.qD;injection heq with heq _;subst heq
  cases c;have hr:=ha.now;refine⟨.pointer (B1 ⟨θ.cq b,θ.off b+d+f.offset,B5⟩),.inl ?_,λ θ' hg=>?_⟩
  .simp [execOp,ho,Instr.fieldAt,kw j,g,<-hr,az,Bv,fieldPlace,uv hn,a,zI]
  .have:=ha θ' hg
   grind [az]
 grind
def xaw{o:Pv}{t e:LP}{x i:N0}{len size:Nat}{n:Option Nat}(ho:o.op=.index t x i)(q:P.underlying t=B1 (.array len e))(hs:bX P e=B1 size)(hn:oe P e=B1 n) :
 dq P o [x,i] (Op.bD len size n):=by
 intro D θ ρ w vs v h b;unfold Op.bD at b;split at b
 .rename_i l k j;have⟨y,z,heq,ha,hb⟩:=h.rE;injection heq with d a;injection a with a _;subst d;subst a
  cases hw:within j len with
  |none=>grind
  |some m =>
   rw[hw]at b;obtain⟨rfl,p⟩:=T1 hw;have⟨cs,f,hl⟩:=ha.fA;have⟨c,d,a⟩:=MN (w:=w) hn hl b;refine⟨c,.inl ?_,a⟩;have g:(0:Int)<=(m:Int)/\(m:Int)<(len:Int):=by omega
   simp[execOp,ho,Instr.index,kw q,f,<-hb.now,az,asIntOf,g,uv hs,d];omega
 grind
def xay{o:Pv}{t:LP}{x i:N0}(ho:o.op=.index t x i)(l:P.underlying t=B1 .string):dq P o [x,i] Op.bP:=by
 intro D θ ρ w vs v h a;unfold Op.bP at a;split at a
 .rename_i s k j;have⟨y,z,heq,ha,hb⟩:=h.rE;injection heq with f b;injection b with b _;subst f;subst b
  cases hw:within j s.length with
  |none=>grind
  |some m =>
   rw[hw]at a;obtain⟨rfl,c⟩:=T1 hw;simp only[qr,kD]at a;obtain⟨u,hu⟩:∃u,s[m]? = B1 u:=⟨_,qy c⟩
   rw[hu]at a;cases a;refine⟨.int .u8 u.toNat,.inl ?_,.int _ _⟩;have d:(0:Int)<=(m:Int):=by omega
   have hg:getElem? (⟨s.toArray⟩:ByteArray) m=B1 u:=by
    have n:m<(⟨s.toArray⟩:ByteArray).size:=by grind [MY]
    rw[getElem?_pos (⟨s.toArray⟩:ByteArray) m n];have g:=(qo.1 hu).2;simp only[qk];exact g
   simp[execOp,ho,Instr.index,kw l,<-ha.now,<-hb.now,az,asIntOf,d,hg]
 grind
def q4c{x:AV}{c:K8}{size j b o:Nat}(h:VR D θ x c)(he:elemAt size x j=B1 (b,o)) :
 ∃n m,c=.slice (B1 ⟨θ.cq b,θ.off b+o-j*size,B5⟩) n m/\j<n/\j*size<=o/\(∀θ',Ag D θ θ' -> θ'.cq b = θ.cq b /\ θ'.off b+o = θ.off b+o):=by
 have hr:=h.now;unfold elemAt at he;split at he
 .rename_i d o' n' i;cases hb:Pk j n'<;>rw[hb]at he
  .cases he
  .simp only[xv,qk,ze]at he;obtain⟨rfl,rfl⟩:=he;refine⟨n',i,?_,by simp_all,by omega,λ θ' ha=>?_⟩
   .grind [az]
   .have:=h θ' ha;grind [az]
 .rename_i d f g p a n';cases hb:(Pk j n' && J8 p size && Pk (f+j) g)<;>rw[hb]at he
  .cases he
  .simp only[xv,qk,ze]at he;obtain⟨rfl,rfl⟩:=he;simp only[zf,vX,kc]at hb;obtain⟨⟨l,rfl⟩,q⟩:=hb;refine⟨n',g-f + θ.ext d,?_,l,by omega,λ θ' ha=>?_⟩
   .rw [<-hr];simp only[az];grind
   .have:=h θ' ha;rw[<-hr]at this;simp only[az,BG,qk,Bc]at this
    grind
 grind
def xdg{o:Pv}{t e:LP}{x i:N0}{size:Nat}(ho:o.op=.indexAddr t x i)(B:P.underlying t=B1 (.slice e))(hs:bX P e=B1 size) :
 dq P o [x,i] (Op.aT size):=by
 intro D θ ρ w vs v h d;unfold Op.aT at d;split at d
 .rename_i a k j;have⟨y,z,heq,ha,hb⟩:=h.rE;injection heq with l g;injection g with g _;subst l;subst g
  cases hl:fI a with
  |none=>grind
  |some n0 =>
   rw[hl]at d;simp only[qr]at d;cases hw:within j n0 with
   |none=>grind
   |some m =>
    rw[hw]at d;simp only[qr]at d;obtain⟨rfl,u⟩:=T1 hw;cases he:elemAt size a m with
    |none=>grind
    |some p =>
     have⟨b,f⟩:=p;rw[he]at d;cases d;have⟨n,c,q,s,hle,A⟩:=q4c ha he;refine⟨.pointer (B1 ⟨θ.cq b,θ.off b+f,B5⟩),.inl ?_,λ θ' hg=>?_⟩
     .have r:(0:Int)<=(m:Int)/\(m:Int)<(n:Int):=by omega
      have heq:θ.off b+f-m*size+m*size = θ.off b+f:=by omega
      simp[execOp,ho,Instr.indexAt,kw B,q,<-hb.now,az,asIntOf,r,uv hs,zI,heq];omega
     grind [az]
 grind
def xax{o:Pv}{t e:LP}{x i:N0}{len size:Nat}(ho:o.op=.indexAddr t x i)(n:P.underlying t=B1 (.array len e))(hs:bX P e=B1 size) :
 dq P o [x,i] (Op.bh len size):=by
 intro D θ ρ w vs v h a;unfold Op.bh at a;split at a
 .rename_i b d k j;have⟨y,z,heq,ha,hb⟩:=h.rE;injection heq with f c;injection c with c _;subst f;subst c
  cases hw:within j len with
  |none=>grind
  |some m =>
   rw[hw]at a;cases a;obtain⟨rfl,l⟩:=T1 hw;have g:(0:Int)<=(m:Int)/\(m:Int)<(len:Int):=by omega
   refine⟨.pointer (B1 ⟨θ.cq b,θ.off b+d+m*size,B5⟩),.inl ?_,λ θ' hg=>?_⟩
   .simp [execOp,ho,Instr.indexAt,kw n,<-ha.now,<-hb.now,az,asIntOf,Bv,g,uv hs,zI];omega
   .have:=ha θ' hg;rw[<-ha.now]at this
    grind [az]
 grind
def xaz{o:Pv}{x:N0}(ho:o.op=.nilCheck x):dq P o [x] Op.nilCheck:=by
 intro D θ ρ w vs v h b;obtain⟨a,rfl,ha⟩:=bN.iS h;have hr:=ha.now;unfold Op.nilCheck at b;split at b
 .cases b
 .cases b
 .cases b
 .rename_i f d g heq;injection heq with heq;subst heq
  injection b with b;subst b
  exact⟨ρ x,.inl (by simp[execOp,ho,<-hr,az,fQ]),ha⟩
 .cases b
 .rename_i c i j l m n heq;injection heq with heq;subst heq
  injection b with b;subst b
  refine⟨ρ x,.inl ?_,ha⟩;have p:=hr.symm;clear hr ha h;cases a
  case nilp=>grind
  case nili=>grind
  case nilf=>grind
  case fn f' c b'=>grind
  all_goals simp_all[az,execOp]
 grind
def xg2(off:Nat):∀(cs:List K8)(j:Nat)(arr:List K8),off+j+cs.length<=arr.length ->
 ((cs.zipIdx j).foldl (λ acc(p:K8×Nat)=>acc.setIfInBounds (off+p.2) p.1) arr.toArray)=(arr.take (off+j)++cs++arr.drop (off+j+cs.length)).toArray
 |[],j,arr,_=>by simp
 |c::cs,j,arr,h=>by
  simp only[List.zipIdx_cons,NH,List.setIfInBounds_toArray];rw[xg2 off cs (j+1) (arr.set (off+j) c) (by grind)];congr 1;have a:=list_seg_step arr (off+j) c cs (by simp at h⊢;omega)
  simpa[wq]using a
theorem xl7(off:Nat)(cs:Array K8)(arr:List K8)(h:off+cs.size<=arr.length) :
 (cs.zipIdx.foldl (λ acc(p:K8×Nat)=>acc.setIfInBounds (off+p.2) p.1) arr.toArray)=(arr.take off++cs.toList++arr.drop (off+cs.size)).toArray:=by
 have:=xg2 off cs.toList 0 arr (by simpa using h);rw[<-Array.foldl_toList]
 simpa using this
def Wq:∀(places:List (Nat×Nat))(vs:List AV)(parts:List (Nat×N0))(pl:Nat->Option (Nat×Nat))(out:List AV),
 Fu pl parts=B1 places->bN D θ vs (parts.map λ p=>ρ p.2) -> ∀(cells:List AV)(a:List K8),bN D θ cells a->jH cells places vs=B1 out ->
 ∃cout:List K8,Instr.fill pl a.toArray (parts.map λ p=>(p.1,ρ p.2))=B1 cout.toArray/\bN D θ out cout:=by
 intro places vs parts
 induction parts generalizing places vs with
 |nil =>
  intro pl out hp m cells a f d;simp only[Fu,qk]at hp;subst hp;have:vs=[]:=by have:=m.length;grind
  subst this;simp only[jH,qk]at d;subst d;exact⟨a,rfl,f⟩
 |cons p parts ih =>
  intro pl out hp m cells a f d;have⟨i,x⟩:=p;simp only[Fu]at hp;cases h:pl i with
  |none=>grind
  |some q =>
   have⟨off,size⟩:=q;rw[h]at hp;simp only[qr]at hp;cases hr:Fu pl parts with
   |none=>grind
   |some l =>
    rw[hr]at hp;cases hp;cases vs with
    |nil=>grind [jH]
    |cons v vs =>
     have⟨c,cs',n,o,r⟩:=m.d9;simp only[j7,zz]at n;obtain⟨rfl,rfl⟩:=n;simp only[jH,Ij]at d;cases hb:J8 v.cells.length size
     .grind
     .rw [hb]at d;simp only[xv,Fy]at d;have b:=o.cells;have hlen:=b.length;have j:(ρ x).cells.size=size:=by simp_all
      split at d
      .rename_i hle;simp only[qr]at d;have t:=f.length;have g:bN D θ (cells.take off++v.cells++cells.drop (off+v.cells.length)) (a.take off++(ρ x).cells.toList++a.drop (off+v.cells.length)) :=
        ((f.take off).app b).app (f.drop _)
       have⟨cout,u,s⟩:=ih l vs pl out hr r _ _ g d;refine⟨cout,?_,s⟩;simp only[j7,Instr.fill,h];rw[qv (by simp only[List.size_toArray];rw[j];rw[<-O2]at j;simp;omega)]
       grind [xl7]
      grind
def xms(parts:Array (Nat×N0)):(parts.map λ(p:Nat×N0)=>(p.1,ρ p.2)).toList=parts.toList.map λ p=>(p.1,ρ p.2):=by simp
def xbb(fs:Array Field)(a:∀f∈fs,∃n,bX P f.type=B1 n) :
 ∃pl:Array (Nat×Nat),(fs.mapM λ(f:Field)=>(do pure (f.offset,<-sizeOf f.type):Sem (Nat×Nat))).run P w=.ok pl w /\ ∀i:Nat,pl[i]? = N5 P fs i:=by
 have key:∀l:List Field,(∀f∈l,∃n,bX P f.type=B1 n) ->
  ∃pl:List (Nat×Nat),(l.mapM λ(f:Field)=>(do pure (f.offset,<-sizeOf f.type):Sem (Nat×Nat))).run P w=.ok pl w /\ ∀i:Nat,pl[i]? = (l[i]?).bind λ(f:Field)=>(bX P f.type).bind λ n=>B1 (f.offset,n):=by
  intro l
  induction l with
  |nil=>simp_all
  |cons f l ih =>
   intro hl;have⟨n,hn⟩:=hl f (by simp);have⟨pl,b,c⟩:=ih (λ g hg=>hl g (by simp[hg]));refine⟨(f.offset,n)::pl,?_,λ i=>?_⟩
   .simp_all [uv]
   grind
 have⟨pl,b,c⟩:=key fs.toList (by grind);simp_all[Array.mapM_eq_mapM_toList,N5]
def qyh{o:Pv}{t:LP}{parts:Array (Nat×N0)}{z:AV}{fs:Array Field}{b:List (Nat×Nat)}(ho:o.op=.build t parts)(r:zeroOf P t=B1 z)
 (y:P.underlying t=B1 (.struct fs)) (a:∀f∈fs,∃n,bX P f.type=B1 n) (hp:Fu (N5 P fs) parts.toList=B1 b):dq P o (parts.toList.map (·.2)) (Op.build z.cells b):=by
 intro D θ ρ w vs v h c;have⟨zc,s,d⟩:=Le (w:=w) r;have⟨pl,u,l⟩:=xbb (w:=w) fs a;unfold Op.build at c;cases g:jH z.cells b vs with
 |none=>grind
 |some out =>
  rw[g]at c;cases c;have j:bN D θ vs (parts.toList.map λ p=>ρ p.2):=by grind [Function.comp_def]
  have⟨cout,x,m⟩:=Wq (ρ:=ρ) b vs parts.toList (N5 P fs) out hp j z.cells zc.cells.toList (d D θ).cells g;refine⟨.agg cout.toArray,.inl ?_,VR.agg m⟩;have q:(λ i=>pl[i]?)=N5 P fs:=funext l;simp_all[execOp,Instr.build,kw]
def q0y{o:Pv}{t e:LP}{parts:Array (Nat×N0)}{z:AV}{len n:Nat}{a:List (Nat×Nat)}(ho:o.op=.build t parts)(r:zeroOf P t=B1 z)
 (q:P.underlying t=B1 (.array len e)) (hn:bX P e=B1 n) (hp:Fu (Mp n) parts.toList=B1 a):dq P o (parts.toList.map (·.2)) (Op.build z.cells a):=by
 intro D θ ρ w vs v h b;have⟨zc,c,d⟩:=Le (w:=w) r;unfold Op.build at b;cases f:jH z.cells a vs with
 |none=>grind
 |some out =>
  rw[f]at b;cases b;have g:bN D θ vs (parts.toList.map λ p=>ρ p.2):=by grind [Function.comp_def]
  have⟨cout,j,l⟩:=Wq (ρ:=ρ) a vs parts.toList (Mp n) out hp g z.cells zc.cells.toList (d D θ).cells f;refine⟨.agg cout.toArray,.inl ?_,VR.agg l⟩;simp only[execOp,ho,Instr.build,NQ,c,NM,kw q,uv hn];have e:(parts.map λ(p:Nat×N0)=>(p.1,ρ p.2)).toList=parts.toList.map λ p=>(p.1,ρ p.2):=by simp
  simp only[Br]at j;have m:(λ i=>B1 (i*n,n))=Mp n:=rfl;simp_all
end
end Go.Am
namespace Go.Am
section
variable{P:Jy}{D:Nat->Prop}{θ:Th}{ρ:N0->K8}{w:NJ}
def mW(D:Nat->Prop)(θ:Th)(ρ:N0->K8):Option N0->Option AV->Prop
 |none,a=>a=B5
 |some x,a=>∃v,a=B1 v/\VR D θ v (ρ x)
def TM:∀(opts:List (Option N0))(pre rest:List AV),bN D θ rest ((kN opts).map ρ) -> ∀(j:Nat)(o:Option N0)(idx:Option Nat),opts[j]? = B1 o->(gN pre.length opts)[j]? = B1 idx ->
 ∀a,arg (pre++rest) idx=B1 a->mW D θ ρ o a
 |[],pre,rest,h,j,o,idx,ho,hi,a,ha=>by grind
 |none::opts,pre,rest,h,j,o,idx,ho,hi,a,ha=>by
  cases j with
  |zero =>
   simp only[gN,ja,qk]at ho hi;subst ho;subst hi;simp only[arg,qk]at ha;exact ha.symm
  |succ j=>exact TM opts pre rest h j o idx (by simpa using ho) (by simpa[gN]using hi) a ha
 |some x::opts,pre,rest,h,j,o,idx,ho,hi,a,ha=>by
  cases rest with
  |nil=>have:=h.length;grind [kN]
  |cons v rest =>
   have⟨c,cs,b,d,f⟩:=h.d9;simp only[kN,j7,zz]at b;obtain⟨rfl,rfl⟩:=b;cases j with
   |zero =>
    simp only[gN,ja,qk]at ho hi;subst ho;subst hi;simp only[arg,kD]at ha;rw[zw (qm _)]at ha;simp at ha;exact⟨v,ha.symm,d⟩
   |succ j =>
    refine TM opts (pre ++ [v]) rest f j o idx (by simpa using ho) (by simpa[gN]using hi) a ?_
    simpa using ha
def YK{o:Option N0}{a:Option AV}{d mx r:Nat}(h:mW D θ ρ o a)(hb:bound a d mx=B1 r) :
 (match o with
  |none=>r=d
  |some x=>(∀code y,mx<=y->(Instr.sliceBound (ρ x) y code).run P w=.ok r w)/\r<=mx):=by
 cases o with
 |none =>
  grind [mW,bound]
 |some x =>
  obtain⟨v,rfl,g⟩:=h;unfold bound at hb;split at hb
  .grind
  .rename_i k i heq;cases heq;cases hle:OZ i mx<;>rw[hle]at hb
   .cases hb
   .injection hb with hb;subst hb
    have b:i<=mx:=by simpa[uh]using hle
    refine⟨λ code y j=>?_,b⟩;have c:(0:Int)<=(i:Int)/\(i:Int)<=(y:Int):=by omega
    have f:i<=y:=by omega
    simp[Instr.sliceBound,<-g.now,az,asIntOf,c]
  .cases hb
def PW{lo c mx:Option N0}{a b m:Option AV}{g:Bool}{len cap low M Y h l:Nat}(ha:mW D θ ρ lo a)(hb:mW D θ ρ c b)(hm:mW D θ ρ mx m)
 (i:(mx=B5/\M=cap) \/ ∃d,bound m d low=B1 M/\low<=cap/\mx.isSome=B4) (q:Y<=M) (n:bound b len Y=B1 h) (hl:bound a 0 h=B1 l) (o:mx.isSome=B4->c.isSome=B4) :
 (B9 g len cap (lo.map ρ) (c.map ρ) (mx.map ρ)).run P w=.ok (l,h,M) w:=by
 have e2:=YK (P:=P) (w:=w) hb n;have p:=YK (P:=P) (w:=w) ha hl;cases mx with
 |none =>
  obtain⟨_,rfl⟩|⟨_,_,_,f⟩:=i
  .cases c with
   |none =>
    simp only at e2;subst e2;cases lo with
    |none=>simp_all[B9]
    |some x=>simp_all[B9]
   |some y =>
    cases lo with
    |none=>simp_all[B9]
    |some x=>simp_all[B9]
  grind
 |some z =>
  obtain⟨f,_⟩|⟨d,f,j,_⟩:=i
  .cases f
  .have e1:=YK (P:=P) (w:=w) hm f;cases c with
   |none=>grind
   |some y =>
    cases lo with
    |none=>simp_all[B9]
    |some x=>simp_all[B9]
theorem xib(v:AV)(d a:Nat){mx:Nat}:bound (B1 v) d mx=bound (B1 v) a mx:=by
 cases v<;>try rfl
 rename_i k n;cases n<;>rfl
def Jz{o:Option N0}{a:Option AV}{d mx r:Nat}(h:mW D θ ρ o a)(hb:bound a d mx=B1 r)(b:d<=mx):r<=mx:=by
 cases o with
 |none=>grind [mW,bound]
 |some x =>
  obtain⟨v,rfl,c⟩:=h;unfold bound at hb;split at hb
  .grind
  .grind [uh]
  grind
def _Z(lo a mx:Option N0):∃i j k,gN 0 [lo,a,mx]=[i,j,k]:=by cases lo<;>cases a<;>cases mx<;>simp[gN]
def q8v{size:Nat}{x:AV}{c:K8}{lo A mx:Option N0}{a b m:Option AV}{v:AV}(F:VR D θ x c)(ha:mW D θ ρ lo a)(hb:mW D θ ρ A b)(hm:mW D θ ρ mx m)(f:dC size x a b m=B1 v) :
 ∃ad len cap l h M,c=.slice ad len cap/\(∀o,(B9 o len cap (lo.map ρ) (A.map ρ) (mx.map ρ)).run P w=.ok (l,h,M) w) /\
  VR D θ v (.slice (if M=l then ad else ad.map (·.add (l*size))) (h-l) (M-l)):=by
 have hr:=F.now;unfold dC at f;split at f
 .-- nil
  split at f
  .rename_i R;cases j:bound b 0 0 with
   |none=>grind
   |some h =>
    rw[j]at f;simp only[qr]at f;cases hl:bound a 0 h with
    |none=>grind
    |some l =>
     rw[hl]at f;cases f;have p:mx=none:=by
      cases mx with
      |none=>rfl
      |some z=>have⟨_,q,_⟩:=hm;cases q
     subst p;have G:h=0/\l=0:=by
      have S:=Jz hb j (qm _);have T:=Jz ha hl (x9 _);omega
     obtain⟨rfl,rfl⟩:=G;refine⟨B5,0,0,0,0,0,hr.symm,λ o=>PW (low:=0) ha hb hm (by grind) (qm _) j hl (by simp),λ θ' _=>by simp[az]⟩
  grind
 .-- a slice of a known capacity
  rename_i bb oo n t;split at f
  .cases f
  .rename_i hnn;cases C:bound m t t with
   |none=>grind
   |some M =>
    rw[C]at f;simp only[qr]at f;cases j:bound b n M with
    |none=>grind
    |some h =>
     rw[j]at f;simp only[qr]at f;cases hl:bound a 0 h with
     |none=>grind
     |some l =>
      rw[hl]at f;cases f;have O:mx.isSome=B4->A.isSome=true:=by
       intro q;cases mx with
       |none=>cases q
       |some z =>
        have⟨_,X,_⟩:=hm;cases A with
        |some _=>rfl
        |none=>grind [mW]
      have I:(mx=B5/\M=t) \/ ∃d,bound m d t=B1 M/\t<=t/\mx.isSome=true:=by
       cases mx with
       |none=>grind [mW,bound]
       |some z=>grind
      refine⟨_,n,t,l,h,M,hr.symm,λ o=>PW ha hb hm I (qm _) j hl O,λ θ' hg=>?_⟩;have g:=F θ' hg;rw[<-hr]at g;simp only[az,BG,qk,Bc]at g⊢
      by_cases e:M=l
      .simp_all
      .have e':J8 M l=false:=by simp_all[Bool.eq_false_iff]
       grind [zI]
 .-- a grown row's slice
  rename_i bb i B s alt n;cases J:(J8 s size && OZ i B)<;>rw[J]at f
  .cases f
  .simp only[zf,kc,uh]at J;obtain⟨rfl,him⟩:=J;simp only[xv]at f;split at f
   .-- no third bound
    rename_i hi';have p:mx=none:=by
     cases mx with
     |none=>rfl
     |some z=>have⟨_,q,_⟩:=hm;cases q
    subst p;cases j:bound b n (B-i)with
    |none=>grind
    |some h =>
     rw[j]at f;simp only[qr]at f;cases hl:bound a 0 h with
     |none=>grind
     |some l =>
      rw[hl]at f;simp only[qr]at f;cases u:OZ h (B-i)<;>rw[u]at f
      .cases f
      .cases f;have Z:h<=B-i:=by simp_all
       have L:=Jz ha hl (x9 _);refine⟨_,n,_,l,h,_,hr.symm,λ o=>PW (low:=0) ha hb hm (.inl ⟨rfl,rfl⟩) (Nd _ _) j hl (by simp),λ θ' hg=>?_⟩;have g:=F θ' hg;rw[<-hr]at g;simp only[az,BG,qk,Bc,tG,Eo]at g;have⟨⟨q1,S⟩,T⟩:=g;have r:θ'.ext bb = θ.ext bb:=by omega
       have hmul:(i+l)*s=i*s+l*s:=ye i l s;simp only[az,BG,Eo,r,hmul];refine⟨?_,by omega⟩
       by_cases e:B-i + θ.ext bb=l
       .rw [xb e,xb (by omega)];simp_all
       .rw [qv e,qv (by omega)];simp only[Im,zI,qk,Bc,tG]
        grind
   .cases f
   .-- a third bound
    rename_i V W;cases C:bound m 0 (B-i)with
    |none=>grind
    |some M =>
     rw[C]at f;simp only[qr]at f;cases j:bound b 0 M with
     |none=>grind
     |some h =>
      rw[j]at f;simp only[qr]at f;cases hl:bound a 0 h with
      |none=>grind
      |some l =>
       rw[hl]at f;simp only[qr]at f;cases u:J8 M l<;>rw[u]at f
       .cases f;have N:M≠l:=by intro e;simp_all
        obtain⟨z,X,Q⟩:∃z,mx=B1 z /\ ∃v,m=B1 v:=by
         cases mx with
         |none=>grind [mW]
         |some z=>have⟨v,q,_⟩:=hm;grind
        have⟨mv,hmv⟩:=Q;have E:A.isSome=true:=by
         cases A with
         |some _=>rfl
         |none=>grind [mW]
        have U:=Jz hm C (x9 _);have Y:=Jz hb j (x9 _);have L:=Jz ha hl (x9 _);have K:bound b n M=B1 h:=by
         have⟨y,hy⟩:=Option.isSome_iff_exists.1 E;subst hy;have⟨bv,q,_⟩:=hb
         grind [xib]
        refine⟨_,n,_,l,h,M,hr.symm,λ o=>PW ha hb hm (.inr ⟨0,C,Nd _ _,by rw[X];rfl⟩) (qm _) K hl (λ _=>E),λ θ' hg=>?_⟩;have g:=F θ' hg;rw[<-hr]at g;simp only[az,BG,qk,Bc,tG,Eo]at g;have⟨⟨q1,S⟩,T⟩:=g;have r:θ'.ext bb = θ.ext bb:=by omega
        have hmul:(i+l)*s=i*s+l*s:=ye i l s;simp only[az,BG,tG,hmul,qv N,Im,zI,qk,Bc]
        grind
       grind
 .-- a slice without room
  rename_i bb;split at f
  .rename_i R;cases j:bound b 0 0 with
   |none=>grind
   |some h =>
    rw[j]at f;simp only[qr]at f;cases hl:bound a 0 h with
    |none=>grind
    |some l =>
     rw[hl]at f;cases f;have p:mx=none:=by
      cases mx with
      |none=>rfl
      |some z=>have⟨_,q,_⟩:=hm;cases q
     subst p;have G:h=0/\l=0:=by
      have S:=Jz hb j (qm _);have T:=Jz ha hl (x9 _);omega
     obtain⟨rfl,rfl⟩:=G;refine⟨_,0,0,0,0,0,hr.symm,λ o=>PW (low:=0) ha hb hm (by grind) (qm _) j hl (by simp),λ θ' hg=>?_⟩;rw[F θ' hg,<-hr];rfl
  grind
 grind
def xdj{o:Pv}{t e:LP}{x:N0}{lo n mx:Option N0}{size:Nat}(ho:o.op=.slice t x lo n mx)(K:P.underlying t=B1 (.slice e))(hs:bX P e=B1 size) :
 dq P o (x::kN [lo,n,mx]) (Op.aC size (gN 0 [lo,n,mx])):=by
 intro D θ ρ w vs v h f;have⟨i,j,k,s⟩:=_Z lo n mx;rw[s]at f;unfold Op.aC at f;split at f
 .rename_i F E G y g heq;injection heq with e1 e2;injection e2 with e2 r;injection r with r _;subst e1;subst e2;subst r
  have⟨c,cs,p,z,C⟩:=h.d9;simp only[j7,zz]at p;obtain⟨rfl,rfl⟩:=p;have d:=λ(q:Nat)(B:Option N0)(idx:Option Nat)(p:[lo,n,mx][q]? = B1 B)(z:[i,j,k][q]? = B1 idx)=>TM [lo,n,mx] [] g C q B idx p (by grind);cases ha:arg g i with
  |none=>grind
  |some a =>
   rw[ha]at f;simp only[qr]at f;cases hb:arg g j with
   |none=>grind
   |some b =>
    rw[hb]at f;simp only[qr]at f;cases hm:arg g k with
    |none=>grind
    |some m =>
     rw[hm]at f;simp only[qr]at f;have⟨ad,len,cap,l,J,M,I,A,u⟩:=q8v (P:=P) (w:=w) z (d 0 lo i rfl rfl a ha) (d 1 n j rfl rfl b hb) (d 2 mx k rfl rfl m hm) f;refine⟨_,.inl ?_,u⟩;simp_all[execOp,Instr.sliceAt,kw,Instr.slice,uv]
 grind
def xa0{o:Pv}{t e:LP}{x:N0}{lo r mx:Option N0}{n size:Nat}(ho:o.op=.slice t x lo r mx)(O:P.underlying t=B1 (.array n e))(hs:bX P e=B1 size) :
 dq P o (x::kN [lo,r,mx]) (Op.cJ n size (gN 0 [lo,r,mx])):=by
 intro D θ ρ w vs v h f;have⟨i,j,k,C⟩:=_Z lo r mx;rw[C]at f;unfold Op.cJ at f;split at f
 .rename_i R N S p y g heq;injection heq with e1 e2;injection e2 with e2 B;injection B with B _;subst e1;subst e2;subst B
  have⟨c,cs,z,A,K⟩:=h.d9;simp only[j7,zz]at z;obtain⟨rfl,rfl⟩:=z;have d:=λ(q:Nat)(F:Option N0)(idx:Option Nat)(z:[lo,r,mx][q]? = B1 F)(A:[i,j,k][q]? = B1 idx)=>TM [lo,r,mx] [] g K q F idx z (by grind);cases ha:arg g i with
  |none=>grind
  |some a =>
   rw[ha]at f;simp only[qr]at f;cases hb:arg g j with
   |none=>grind
   |some b =>
    rw[hb]at f;simp only[qr]at f;cases hm:arg g k with
    |none=>grind
    |some m =>
     rw[hm]at f;simp only[qr]at f;have Q:VR D θ (.slice p y n n) (.slice (B1 ⟨θ.cq p,θ.off p+y,B5⟩) n n):=λ θ' hg=>by
      have:=A θ' hg;rw[<-A.now]at this;grind [az]
     have⟨ad,len,cap,l,T,M,L,u,E⟩:=q8v (P:=P) (w:=w) Q (d 0 lo i rfl rfl a ha) (d 1 r j rfl rfl b hb) (d 2 mx k rfl rfl m hm) f;injection L with G I J;subst G;subst I;subst J
     refine⟨_,.inl ?_,E⟩;have s:=u B2;simp only[execOp,ho,Instr.sliceAt,NQ,kw O,NM,<-A.now,az,Bv,Qh,s,uv hs]
     grind
 grind
def _8{mx:Bool}{k:PD}:∀(l:List AV)(cs:List K8)(a r:Int),bN D θ l cs->Op.gU mx a l=B1 r ->
 (cs.foldlM (λ x y=>if mx then Builtin.max2 x y else Builtin.min2 x y) (K8.int k a)).run P w=.ok (.int k r) w
 |[],cs,a,r,h,hg=>by
  have:=h.mr;simp_all[Op.gU]
 |v::l,cs,a,r,h,hg=>by
  obtain⟨c,cs',rfl,f,hl⟩:=h.d9;cases v with
  |int k' b =>
   simp only[Op.gU]at hg;have g:=_8 (mx:=mx) (k:=k) l cs' _ r hl hg;have d:=f.now;simp only[az]at d;subst d;simp only[Js]at g;have s1:(Builtin.min2 (.int k a) (.int k' b)).run P w=.ok (.int k (if b<a then b else a)) w:=rfl;have s2:(Builtin.max2 (.int k a) (.int k' b)).run P w=.ok (.int k (if b > a then b else a)) w:=rfl;cases mx
   .simp only[List.foldlM_cons,zu,nT,NQ,s1,NM]
    grind
   .simp only[List.foldlM_cons,rN,NQ,s2,NM]
    grind
  |_=>grind [Op.gU]
def xfp{o:Pv}{c:Call}{xs:List N0}{mx:Bool}(ho:o.op=.call c)(m:c.callee=.builtin (if mx then .max else .min))(n:c.args.toList=xs):dq P o xs (Op.eG mx):=by
 intro D θ ρ w vs v h d;have⟨consts,he⟩:=ML (ρ:=ρ) ho m;unfold Op.eG at d;split at d
 .rename_i k a l;cases hg:Op.gU mx a l with
  |none=>rw[hg]at d;cases d
  |some r =>
   rw[hg]at d;cases d;have⟨p,cs',g,i,j⟩:=h.d9;have b:=_8 (P:=P) (w:=w) (k:=k) l cs' a r j hg;have f:=i.now;simp only[az]at f;subst f;refine⟨.int k r,.inl ?_,.int _ _⟩;rw[he,AZ n,g];cases mx
   .simp only[zu,nT]at b⊢;simp[builtin,Builtin.min_,b]
   simp_all[builtin,Builtin.max_]
 grind
def Ed{o:Pv}{c:Call}{f:FuncId}{fn:Func}{e:Array K8->Sem K8}(ho:o.op=.call c)(d:c.callee=.value (.func f))(h:ρ (.func f)=.func (.func f) #[] #[])(g:P.funcs[f]? = B1 fn)(hb:fn.body=B5)
 (hn:fn.name≠ "runtime.NumGoroutine") (a:Extern.findNext fn=B5) (b:Extern.find fn=B1 e) :
 (execOp ρ o).run P w=((e (c.args.map ρ)).run P w).andThen λ v w'=>.ok (.value v) w':=by
 simp[execOp,ho,resolve,d,h,BU,invoke,callFunc,g,hb,hn,a,b]
def xej(s:List UInt8):(Extern.Bytes.bytesOf (.string ⟨s.toArray⟩)).run P w=.ok ⟨s.toArray⟩ w:=rfl
def xh8(n:Int):(Extern.Bytes.asByte (.int .u8 n)).run P w=.ok (BT n.toNat) w:=rfl
theorem xey(c:UInt8)(s:List UInt8)(k:Nat):HK c s k=((N7 s.length).find? λ i=>s[i]! == c).map (·+k):=by
 induction s generalizing k with
 |nil=>rfl
 |cons x s ih =>
  simp only[HK,ZA,zr];rw[List.range_succ_eq_map,List.find?_cons];have hm:(List.find? (λ i=>(x::s)[i]! == c) (List.map Nat.succ (N7 s.length)))=((N7 s.length).find? λ i=>s[i]! == c).map Nat.succ:=by
   rw[List.find?_map];rfl
  rw[hm,ih (k+1)];have a:(x::s)[0]! = x:=rfl;rw[a];cases h:(x == c)
  .simp only[zo,Option.map_map];congr 1
   grind
  .simp
def yN(s:List UInt8)(i:Nat):(⟨s.toArray⟩:ByteArray)[i]! = s[i]!:=by
 by_cases h:i<s.length
 .have a:i<(⟨s.toArray⟩:ByteArray).size:=by grind [MY]
  rw[getElem!_pos (⟨s.toArray⟩:ByteArray) i a,getElem!_pos s i h];rfl
 grind [MY]
def xcm{P:Jy}{w:NJ}(s:List UInt8)(n:Int):(Extern.BytealgIndexByte.indexByte #[.string ⟨s.toArray⟩,.int .u8 n]).run P w =
 .ok (match(N7 s.length).find? (λ i=>s[i]! == BT n.toNat)with|some i=>goInt i|none=>goInt (-1)) w:=by
 change Sem.run P (Extern.Bytes.bytesOf (.string ⟨s.toArray⟩) >>= _) w=_;rw[NQ,xej];change Sem.run P (Extern.Bytes.asByte (.int .u8 n) >>= _) w=_;rw[NQ,xh8];have a:(λ i=>(⟨s.toArray⟩:ByteArray)[i]! == BT n.toNat)=(λ i=>s[i]! == BT n.toNat):=funext λ i=>by rw[yN]
 simp only[NM,MY,a];cases(N7 s.length).find? (λ i=>s[i]! == BT n.toNat)<;>rfl
def qsw{o:Pv}{c:Call}{f:FuncId}{fn:Func}{xs:List N0}(ho:o.op=.call c)(l:c.callee=.value (.func f))(m:P.funcs[f]? = B1 fn)(hb:fn.body=B5)
 (hn:fn.name≠ "runtime.NumGoroutine") (g:Extern.findNext fn=B5) (j:Extern.find fn=B1 Extern.BytealgIndexByte.indexByte) (p:c.args.toList=xs) :
 ∀(D:Nat->Prop)θ(ρ:N0->K8)w vs v,ρ (.func f)=.func (.func f) #[] #[]->bN D θ vs (xs.map ρ)->Op.aG vs=B1 v -> ∃c,sF P (execOp ρ o) w c w/\VR D θ v c:=by
 intro D θ ρ w vs v q h b;unfold Op.aG at b;split at b
 .rename_i s n;obtain⟨x,y,rfl,ha,a⟩:=h.rE;cases b;refine⟨_,.inl ?_,.int _ _⟩;rw[Ed ho l q m hb hn g j,AZ p];have d:(λ i=>(⟨s.toArray⟩:ByteArray)[i]! == BT n.toNat)=(λ i=>s[i]! == BT n.toNat):=funext λ i=>by rw[yN]
  simp only[j7,FP,<-ha.now,<-a.now,az,xcm,NM]
  grind [xey,goInt]
 grind
def xmw{o:Pv}(xs:List N0):dq P o xs Op.fail:=by
 intro D θ ρ w vs v _ a;cases a
end
end Go.Am
namespace Go.Am
def rq(P:Jy)(o:Pv)(xs:List N0)(f:List AV->ar->Option AV):Prop :=
 ∀(base:Nat)(D:Nat->Prop)θ H(ρ:N0->K8)w vs v,HR P base D θ H w->bN D θ vs (xs.map ρ)->f vs H=B1 v -> ∃c,sF P (execOp ρ o) w c w/\VR D θ v c
section
variable{P:Jy}
def xjj{o:Pv}{t:LP}{x:N0}(ho:o.op=.load t x)(j:oe P t=B1 B5):rq P o [x] Op.ah:=by
 intro base D θ H ρ w vs v i h a;unfold Op.ah at a;split at a
 .rename_i b off;have⟨l,he,ha⟩:=h.qD;simp only[zz,tG]at he;subst he;have⟨c,f,g⟩:=i.ah a;refine⟨c,.inl ?_,g⟩;have⟨d,_⟩:=SM (w:=w) j;simp only[execOp,ho,<-ha.now,az,Instr.loadAt,Bv,loadVar,NQ,Qh,NM,d,Lb,zu,nT,f]
 grind
def xjk{o:Pv}{t:LP}{x:N0}{n:Nat}(ho:o.op=.load t x)(j:oe P t=B1 (B1 n)):rq P o [x] (Op.aw n):=by
 intro base D θ H ρ w vs v i h a;unfold Op.aw at a;split at a
 .rename_i b off;have⟨m,he,ha⟩:=h.qD;simp only[zz,tG]at he;subst he;cases hl:H.aw b off n with
  |none=>grind
  |some l =>
   rw[hl]at a;cases a;have⟨cs,f,g,_⟩:=i.aw hl;refine⟨.agg cs.toArray,.inl ?_,.agg g⟩;have⟨c,d⟩:=SM (w:=w) j;simp only[execOp,ho,<-ha.now,az,Instr.loadAt,Bv,loadVar,NQ,Qh,NM,c,d n rfl,vn,rN,f]
 grind
def HR.fp{base:Nat}{D:Nat->Prop}{θ:Th}{H:ar}{w:NJ}(h:HR P base D θ H w){b:Nat}{m:List (AV×AV×Nat)×Nat}(hb:H.fp b=B1 m) :
 H.get b=B1 (.map m.1 m.2)/\D b /\ ∃ms:List BZ,w.heap[θ.cq b]? = B1 (.map ms.toArray m.2)/\dA D θ m.1 ms:=by
 unfold ar.fp at hb;cases hg:H.get b with
 |none=>grind
 |some o =>
  rw[hg]at hb;have⟨f,co,d,hr⟩:=h.obj b o hg;cases o<;>simp only[reduceCtorEq,qk]at hb;subst hb;have⟨ms,a,c⟩:=hr
  grind
def Mz{w:NJ}{r:Nat}{ms:Array BZ}{c:Nat}(h:w.heap[r]? = B1 (.map ms c)):(getObj r).run P w=.ok (.map ms c) w:=by
 simp[getObj,Sem.run,h]
def dA.length{D:Nat->Prop}{θ:Th}:∀(es:List (AV×AV×Nat))(ms:List BZ),dA D θ es ms->es.length=ms.length
 |[],[],_=>rfl
 |_::es,_::ms,⟨_,h⟩=>by simp[dA.length es ms h]
 |[],_::_,h=>h.elim
 |_::_,[],h=>h.elim
def VR.isAgg{D:Nat->Prop}{θ:Th}{l:List AV}{c:K8}(h:VR D θ (.agg l) c):∃cs:List K8,c=.agg cs.toArray/\bN D θ l cs:=h.fA
def xew{t:LP}{fs:Array Field}(h:P.underlying t=B1 (.struct fs)):P.fieldsOf t=fs:=by
 simp[Jy.fieldsOf,h]
def xij{x y:AV}{r:Bool}(h:aX .int x y=B1 r):∃k a b,x=.int k a/\y=.int k b/\r=(a == b):=by
 cases x<;>cases y<;>simp only[aX,reduceCtorEq]at h;rename_i k a k' b;cases hk:rT k k' with
 |false=>grind
 |true =>
  rw[hk]at h;simp only[xv,qk]at h;have:k=k':=by simpa[Sw]using hk
  subst this
  grind [DG]
def xik{x y:AV}{r:Bool}(h:aX .str x y=B1 r):∃a b,x=.str a/\y=.str b/\r=(a == b):=by
 cases x<;>cases y<;>simp only[aX,reduceCtorEq,qk]at h
 grind [Mi]
def xev{x y:AV}{r:Bool}(h:aX .bool x y=B1 r):∃a b,x=.bool a/\y=.bool b/\r=(a == b):=by
 cases x<;>cases y<;>simp only[aX,reduceCtorEq,qk]at h
 grind
theorem Ua{off:Nat}{n:Option Nat}{t rest:aU}{x y:AV}{r:Bool}(h:aX (.part off n t rest) x y=B1 r) :
 ∃l c a b q,x=.agg l/\y=.agg c/\partAt l off n=B1 a/\partAt c off n=B1 b/\aX t a b=B1 q/\(q=B4->aX rest (.agg l) (.agg c)=B1 r)/\(q=B2->r=B2):=by
 cases x<;>cases y<;>simp only[aX,reduceCtorEq]at h
 grind [qj]
theorem Uo{x y:AV}{r:Bool}(h:aX .nil x y=B1 r):r=B4/\(∃l,x=.agg l)/\(∃l,y=.agg l):=by
 cases x<;>cases y<;>simp only[aX,reduceCtorEq,qk]at h
 grind
def _4(s:Nat)(a:Option Nat)(q:aU)(n i:Nat){x y:AV}{r:Bool}(h:aX (dF.itemsT s a q n i) x y=B1 r):(∃l,x=.agg l)/\(∃l,y=.agg l):=by
 cases n with
 |zero=>exact(Uo h).2
 |succ n=>have⟨l,d,_,_,_,b,c,_⟩:=Ua h;grind
def FX{go:LP->Option aU}{fs:List Field}{q:aU}(a:dF.fieldsT P go fs=B1 q){x y:AV}{r:Bool}(h:aX q x y=B1 r):(∃l,x=.agg l)/\(∃l,y=.agg l):=by
 cases fs with
 |nil=>cases a;grind [Uo]
 |cons f fs =>
  simp only[dF.fieldsT]at a;split at a
  .cases a
  .simp only[qj]at a
   grind [Ua]
def Ei(P:Jy)(w:NJ)(D:Nat->Prop)(θ:Th)(m:Nat)(t:LP)(q:aU):Prop :=
 ∀(x y:AV)(cx cy:K8)(r:Bool),VR D θ x cx->VR D θ y cy->aX q x y=B1 r->(BD m t cx cy).run P w=.ok r w
def qzd{w:NJ}{D:Nat->Prop}{θ:Th}{m:Nat}{go:LP->Option aU}(o:∀t q,go t=B1 q->Ei P w D θ m t q){l p:List AV}{cs cs':List K8}(hl:bN D θ l cs)(d:bN D θ p cs') :
 ∀(fs:List Field)(q:aU)(r:Bool),dF.fieldsT P go fs=B1 q->aX q (.agg l) (.agg p)=B1 r->(Op.eqFields m cs.toArray cs'.toArray fs).run P w=.ok r w
 |[],q,r,b,h=>by
  cases b;rw[(Uo h).1];simp[Op.eqFields]
 |f::fs,q,r,b,h=>by
  simp only[dF.fieldsT]at b;split at b
  .cases b
  .rename_i hn;simp only[qj]at b;have⟨a,ha,F,j,G,n,b⟩:=b;cases b;have⟨l1,l2,x,y,e,g,i,u,v,z,A,I⟩:=Ua h;injection g with g;injection i with i;subst g;subst i
   have⟨c,B,v1⟩:=MN (w:=w) ha hl u;have⟨s,C,v2⟩:=MN (w:=w) ha d v;have E:=o f.type F j x y c s e v1 v2 z;simp only[Op.eqFields,hn,ne_eq,not_false_eq_true,rN,NQ,B,C,E,NM];cases e
   .simp_all
   .simpa using qzd o hl d fs G r n (A rfl)
def q4e{w:NJ}{D:Nat->Prop}{θ:Th}{m:Nat}{e:LP}{s:Nat}{a:Option Nat}{q:aU}(ha:oe P e=B1 a)(j:Ei P w D θ m e q){l o:List AV}{cs cs':List K8}(hl:bN D θ l cs)(d:bN D θ o cs') :
 ∀(n i:Nat)(r:Bool),aX (dF.itemsT s a q n i) (.agg l) (.agg o)=B1 r->(Op.eqItems m e s cs.toArray cs'.toArray (List.range' i n)).run P w=.ok r w
 |0,i,r,h=>by rw[(Uo h).1];simp[Op.eqItems]
 |n+1,i,r,h=>by
  have⟨l1,l2,x,y,b,f,g,t,u,v,z,E⟩:=Ua h;injection f with f;injection g with g;subst f;subst g
  have⟨c,A,v1⟩:=MN (w:=w) ha hl t;have⟨p,B,v2⟩:=MN (w:=w) ha d u;have C:=j x y c p b v1 v2 v;simp only[List.range'_succ,Op.eqItems,NQ,A,B,C,NM];cases b
  .simp_all
  .simpa using q4e ha j hl d n (i+1) r (z rfl)
def TE(m:Nat){D:Nat->Prop}{θ:Th}(w:NJ):∀(d:Nat)(t:LP)(q:aU),dF P d t=B1 q->Ei P w D θ (d+m) t q
 |0,_,_,h=>by cases h
 |d+1,t,q,h=>by
  intro x y G I r g j hr;unfold dF at h;have v:d+1+m=(d+m)+1:=by omega
  rw[v];cases hu:P.underlying t with
  |none=>grind
  |some kd =>
   rw[hu]at h;cases kd
   case int k0 =>
    cases h;obtain⟨k,a,b,rfl,rfl,rfl⟩:=xij hr;rw[<-g.now,<-j.now,az,az,run_equalIn_int w _ t k k0 a b hu]
   case string =>
    cases h;obtain⟨a,b,rfl,rfl,rfl⟩:=xik hr;rw[<-g.now,<-j.now,az,az,run_equalIn_string w _ t _ _ hu,_m,_m]
   case bool =>
    cases h;obtain⟨a,b,rfl,rfl,rfl⟩:=xev hr;rw[<-g.now,<-j.now,az,az,run_equalIn_bool' w _ t _ _ hu]
   case struct fs =>
    simp only at h;split at h
    .cases h
    .rename_i p;have f:P.stoodInHeld t=false:=by simpa using p
     obtain⟨⟨l,rfl⟩,⟨E,rfl⟩⟩:=FX h hr;obtain⟨cs,rfl,hl⟩:=g.fA;obtain⟨cs',rfl,c⟩:=j.fA;have u:=xew hu;rw[run_equalIn_struct w _ t _ _ (by rw[u];exact hu) f,u];exact qzd (λ t q C=>TE m w d t q C) hl c _ _ _ h hr
   case array n e =>
    simp only[qj]at h;have⟨s,hs,a,ha,F,o,h⟩:=h;cases h;obtain⟨⟨l,rfl⟩,⟨E,rfl⟩⟩:=_4 _ _ _ _ _ hr;obtain⟨cs,rfl,hl⟩:=g.fA;obtain⟨cs',rfl,c⟩:=j.fA;have⟨i,A,B⟩:=qzi hs;rw[run_equalIn_array _ _ _ _ hu A,List.range_eq_range'];have z:P.cellsOf e=s:=by grind [Jy.cellsOf]
    rw[z];exact q4e ha (TE m w d e F o) hl c n 0 r hr
   all_goals grind
theorem TS{off:Nat}{n:Option Nat}{t rest:aU}{x:AV}(h:cS (.part off n t rest) x=B4) :
 ∃l a,x=.agg l/\partAt l off n=B1 a/\cS t a=B4/\cS rest (.agg l)=true:=by
 cases x<;>simp only[cS,zu]at h
 grind
def N_{x:AV}(h:cS .nil x=B4):∃l,x=.agg l:=by
 cases x<;>simp only[cS,zu]at h
 grind
def xfm(s:Nat)(a:Option Nat)(q:aU)(n i:Nat){x:AV}(h:cS (dF.itemsT s a q n i) x=B4):∃l,x=.agg l:=by
 cases n with
 |zero=>exact N_ h
 |succ n=>have⟨l,_,b,_⟩:=TS h;grind
def xc9{go:LP->Option aU}{fs:List Field}{q:aU}(a:dF.fieldsT P go fs=B1 q){x:AV}(h:cS q x=B4):∃l,x=.agg l:=by
 cases fs with
 |nil=>cases a;exact N_ h
 |cons f fs =>
  simp only[dF.fieldsT]at a;split at a
  .cases a
  .simp only[qj]at a
   grind [TS]
def Jo(P:Jy)(w:NJ)(D:Nat->Prop)(θ:Th)(em:Bool)(m:Nat)(t:LP)(q:aU):Prop :=
 ∀(x:AV)(cx:K8),VR D θ x cx->cS q x=B4->(BW em m t cx).run P w=.ok () w
def q5v{w:NJ}{D:Nat->Prop}{θ:Th}{em:Bool}{m:Nat}{e:LP}{s:Nat}{a:Option Nat}{q:aU}(ha:oe P e=B1 a)(hs:bX P e=B1 s)(b:Jo P w D θ em m e q){l:List AV}{cs:List K8}(hl:bN D θ l cs) :
 ∀(n i:Nat),cS (dF.itemsT s a q n i) (.agg l)=B4 ->
  (forIn (List.range' i n) PUnit.unit (λ i _=>(do BW em m e (<-part e cs.toArray (i*(<-sizeOf e)));pure (ForInStep.yield PUnit.unit):Sem (ForInStep PUnit)))).run P w=.ok PUnit.unit w
 |0,i,h=>by simp
 |n+1,i,h=>by
  have⟨l1,x,d,f,g,j⟩:=TS h;cases d;have⟨c,o,v1⟩:=MN (w:=w) ha hl f;have p:=b x c v1 g;simp only[List.range'_succ,List.forIn_cons,NQ,uv hs,o,p,NM,Qh]
  simpa using q5v ha hs b hl n (i+1) j
def WO(em:Bool)(m:Nat){D:Nat->Prop}{θ:Th}(w:NJ):∀(d:Nat)(t:LP)(q:aU),dF P d t=B1 q->Jo P w D θ em (d+m) t q
 |0,_,_,h=>by cases h
 |d+1,t,q,h=>by
  intro x B j hr;unfold dF at h;have o:d+1+m=(d+m)+1:=by omega
  rw[o];cases hu:P.underlying t with
  |none=>grind
  |some kd =>
   rw[hu]at h;cases kd
   case int k0=>simp[BW,kw hu]
   case string=>simp[BW,kw hu]
   case bool=>simp[BW,kw hu]
   case struct fs =>
    simp only at h;split at h
    .cases h
    .obtain ⟨l,rfl⟩:=xc9 h hr;obtain⟨cs,rfl,hl⟩:=j.fA;simp only[BW,NQ,kw hu,NM];rw[<-Array.forIn_toList];clear hu;generalize fs.toList=L at h
     induction L generalizing q with
     |nil=>simp
     |cons f L ihL =>
      simp only[dF.fieldsT]at h;split at h
      .cases h
      .rename_i hn;simp only[qj]at h;have⟨a,ha,i,b,A,g,h⟩:=h;cases h;have⟨l1,x,p,r,u,v⟩:=TS hr;cases p;have⟨c,y,v1⟩:=MN (w:=w) ha hl r;have z:=WO em m w d f.type i b x c v1 u;simp only[List.forIn_cons,NQ,hn,ne_eq,not_false_eq_true,rN,NM,y,z,Qh];exact ihL A v g
   case array n e =>
    simp only[qj]at h;have⟨s,hs,a,ha,i,b,h⟩:=h;cases h;obtain⟨l,rfl⟩:=xfm _ _ _ _ _ hr;obtain⟨cs,rfl,hl⟩:=j.fA;have:=q5v (w:=w) (em:=em) ha hs (WO em m w d e i b) hl n 0 hr;simp_all[BW,kw]
   all_goals grind
def Xk{em:Bool}{D:Nat->Prop}{θ:Th}{w:NJ}{t:LP}{q:aU}(h:p5 P t=B1 q){x:AV}{a:K8}(b:VR D θ x a)(hr:cS q x=B4) :
 (BW em 10000 t a).run P w=.ok () w:=WO em 9980 w 20 t q h x a b hr
def Bp{D:Nat->Prop}{θ:Th}{w:NJ}{t:LP}{q:aU}(h:p5 P t=B1 q){x y:AV}{a b:K8}{r:Bool}(c:VR D θ x a)(d:VR D θ y b)(hr:aX q x y=B1 r) :
 (CY t a b).run P w=.ok r w:=TE 9980 w 20 t q h x y a b r c d hr
def Jx(D:Nat->Prop)(θ:Th):Option (Nat×AV)->Option (Nat×K8)->Prop
 |none,B5=>True
 |some (i,v),B1 (j,c)=>i=j/\VR D θ v c
 |_,_=>False
def qtj{D:Nat->Prop}{θ:Th}{w:NJ}{t:LP}{q:aU}(h:p5 P t=B1 q){k:AV}{d:K8}(hk:VR D θ k d) :
 ∀(es:List (AV×AV×Nat))(ms:List BZ)(i:Nat)(r:Option (Nat×AV)),dA D θ es ms->findKey q k es i=B1 r ->
  ∃a,(BJ t d ms i).run P w=.ok a w/\Jx D θ r a
 |[],[],i,r,_,hr=>by
  simp only[findKey,qk]at hr;subst hr;exact⟨B5,by simp[BJ],trivial⟩
 |(k',v,b)::es,e::ms,i,r,⟨⟨h1,h2,_⟩,hes⟩,hr=>by
  simp only[findKey,qj]at hr;have⟨c,j,hr⟩:=hr;have:=Bp (w:=w) h hk h1 j;cases c
  .have ⟨a,f,g⟩:=qtj (w:=w) h hk es ms (i+1) r hes hr;exact⟨a,by simp[BJ,this,f],g⟩
  .simp only[xv,qk]at hr;subst hr;exact⟨B1 (i,e.val),by simp[BJ,this],rfl,h2⟩
 |[],_::_,_,_,h,_=>h.elim
 |_::_,[],_,_,h,_=>h.elim
def xfw{t:LP}{d:TypeDesc}(hu:P.underlying t=B1 d){x y:K8}{b:Bool}(h:Instr.sameNow d x y=B1 b)(w:NJ):(CY t x y).run P w=.ok b w:=by
 unfold Instr.sameNow at h;split at h
 .rename_i k a k' c;split at h
  .rename_i hk;subst hk;cases h;exact run_equalIn_int w _ t _ _ _ _ hu
  grind
 .cases h;show(BD (9999+1) t _ _).run P w=_
  grind [run_equalIn_string,beq_toListBytes]
 .cases h;exact run_equalIn_bool' w _ t _ _ hu
 grind
def t8{t:LP}{d:TypeDesc}(hu:P.underlying t=B1 d){c:K8}(w:NJ):∀(ms:List BZ)(i:Nat)(r a:Option (Nat×K8)),
 C7 d c ms i=B1 r->(BJ t c ms i).run P w=.ok a w->r=a
 |[],i,r,a,h,h'=>by
  simp_all[C7,BJ]
 |e::ms,i,r,a,h,h'=>by
  simp only[C7]at h;cases hs:Instr.sameNow d c e.key with
  |none=>grind
  |some b =>
   rw[hs]at h;have:=xfw hu hs w;cases b
   .simp [BJ,this]at h';exact t8 hu w ms (i+1) r a h h'
   simp_all[BJ]
def q4i{D:Nat->Prop}{θ:Th}{w:NJ}{t:LP}{q:aU}(h:p5 P t=B1 q){k:AV}{b:K8}(hk:VR D θ k b){es:List (AV×AV×Nat)}{ms:List BZ}{r:Option (Nat×AV)}
 (c:dA D θ es ms) (hr:findKey q k es 0=B1 r):∃a,(CX t b ms).run P w=.ok a w/\Jx D θ r a:=by
 have⟨a,f,g⟩:=qtj (w:=w) h hk es ms 0 r c hr;have hu:∃d,P.underlying t=B1 d:=by
  grind [p5,dF]
 have⟨d,hu⟩:=hu;refine⟨a,?_,g⟩;simp only[CX,NQ,kw hu,NM];cases hn:C7 d b ms 0 with
 |none=>simpa using f
 |some r2=>simp[t8 hu w ms 0 r2 a hn f]
def xft{o:Pv}{t u e:LP}{C kk:N0}{ok:Bool}{q:aU}{z:AV}(ho:o.op=.lookup t C kk ok)(hu:P.underlying t=B1 (.map u e))(A:p5 P u=B1 q)(I:zeroOf P e=B1 z) :
 rq P o [C,kk] (Op.lookup q z ok):=by
 intro base D θ H ρ w vs v G h a;have⟨zc,f,g⟩:=Le (w:=w) I;unfold Op.lookup at a;split at a
 .rename_i k;have⟨x,y,he,ha,hb⟩:=h.rE;simp only[zz,tG]at he;obtain⟨rfl,rfl⟩:=he;cases c:cS q k with
  |false=>grind
  |true =>
   rw[c]at a;simp only[xv,qk]at a;have j:=λ em=>Xk (em:=em) (w:=w) A hb c;have B:(CX u (ρ kk) []).run P w=.ok B5 w:=by
    have hu:∃d,P.underlying u=B1 d:=by
     grind [p5,dF]
    have⟨d,hu⟩:=hu;simp[CX,kw hu,C7]
   subst a;cases ok
   .refine ⟨zc,.inl ?_,g _ _⟩;simp[execOp,ho,C5,kw hu,<-ha.now,az,j,B,f]
   .refine ⟨.tuple [zc,.bool B2].toArray,.inl ?_,.tuple (.cons (g _ _) (.one (.bool _)))⟩;simp[execOp,ho,C5,kw hu,<-ha.now,az,j,B,f]
 .rename_i b k;have⟨x,y,he,ha,hb⟩:=h.rE;simp only[zz,tG]at he;obtain⟨rfl,rfl⟩:=he;cases c:cS q k with
  |false=>grind
  |true =>
   rw[c]at a;simp only[xv,qj]at a;have⟨m,hm,r,hr,a⟩:=a;have⟨_,_,ms,s,F⟩:=G.fp hm;have j:=λ em=>Xk (em:=em) (w:=w) A hb c;have⟨E,n,l⟩:=q4i (w:=w) A hb F hr;cases r with
   |none =>
    cases E with
    |some _=>exact l.elim
    |none =>
     simp only[qk]at a;subst a;cases ok
     .refine ⟨zc,.inl ?_,g _ _⟩;simp[execOp,ho,C5,kw hu,<-ha.now,az,j,n,f,Mz s]
     .refine ⟨.tuple [zc,.bool B2].toArray,.inl ?_,.tuple (.cons (g _ _) (.one (.bool _)))⟩;simp[execOp,ho,C5,kw hu,<-ha.now,az,j,n,f,Mz s]
   |some p =>
    have⟨i,pv⟩:=p;cases E with
    |none=>exact l.elim
    |some p' =>
     have⟨J,pc⟩:=p';have⟨_,l⟩:=l;simp only[qk]at a;subst a;cases ok
     .refine ⟨pc,.inl ?_,l⟩;simp[execOp,ho,C5,kw hu,<-ha.now,az,j,n,Mz s]
     .refine ⟨.tuple [pc,.bool B4].toArray,.inl ?_,.tuple (.cons l (.one (.bool _)))⟩;simp[execOp,ho,C5,kw hu,<-ha.now,az,j,n,Mz s]
 grind
end
end Go.Am
namespace Go.Am
section
variable{P:Jy}{base:Nat}{D:Nat->Prop}{θ:Th}{H:ar}{w:NJ}
def isStr:AV->Bool
 | .str _=>B4
 |_=>B2
def YL(g:HR P base D θ H w){x:AV}{c:K8}{size n k:Nat}{l:List AV}(d:VR D θ x c)(hk:fI x=B1 k)(hn:n<=k)(hs:isStr x=B2)
 (h:firstCells H size n x=B1 l):∃a len cap,c=.slice a len cap/\len=k/\((a=B5/\l=[]/\n=0/\k=0) \/
  ∃ad cs,a=B1 ad/\(loadCells ad (n*size)).run P w=.ok cs.toArray w/\bN D θ l cs/\l.length=n*size):=by
 have t:∀a,(loadCells a 0).run P w=.ok ([]:List K8).toArray w:=λ a=>rfl;cases x<;>simp only[fI,reduceCtorEq,qk]at hk
 case str s=>cases hs
 case nils =>
  subst hk;simp only[firstCells,qk]at h;subst h;exact⟨B5,0,0,d.now.symm,rfl,(by grind)⟩
 case slice b o n' cp =>
  subst hk;simp only[firstCells]at h;refine⟨_,_,_,d.now.symm,rfl,.inr ?_⟩;cases hb:J8 n 0 with
  |true =>
   have:n=0:=by simpa using hb
   subst this;rw[hb]at h;cases h;exact⟨_,[],rfl,by grind,.nil,by simp⟩
  |false =>
   rw[hb]at h;have⟨cs,j,p,q⟩:=g.aw h
   grind
 case eslice b =>
  subst hk;have:n=0:=by omega
  subst this;simp only[firstCells,J8,xv,qk]at h;subst h;exact⟨_,_,_,d.now.symm,rfl,.inr ⟨_,[],rfl,by grind,.nil,by simp⟩⟩
 case gslice b i m s alt n' =>
  subst hk;simp only[firstCells]at h;refine⟨_,_,_,d.now.symm,rfl,.inr ?_⟩;cases hb:J8 n 0 with
  |true =>
   have:n=0:=by simpa using hb
   subst this;rw[hb]at h;cases h;exact⟨_,[],rfl,by grind,.nil,by simp⟩
  |false =>
   rw[hb]at h;simp only[zo]at h;cases f:(J8 s size && Pk i m)with
   |false=>grind
   |true =>
    rw[f]at h;simp only[zf,kc,vX]at f;obtain⟨rfl,r⟩:=f;have⟨cs,j,p,q⟩:=g.aw h
    grind
end
end Go.Am
namespace Go.Am
section
variable{P:Jy}{base:Nat}{D:Nat->Prop}{θ:Th}{H:ar}{w:NJ}
def X2{w:NJ}{r:Nat}{c:Array K8}{e:LP}{fz:Nat×Nat}(h:w.heap[r]? = B1 (.cells c e fz)):w.shape? r=B1 (e,c.size):=by
 simp[NJ.shape?,h]
def q05{w:NJ}{r:Nat}{c:Array K8}{e:LP}{fz:Nat×Nat}(h:w.heap[r]? = B1 (.cells c e fz)):(viewAt r).run P w=.ok B5 w:=by
 simp[viewAt,X2 h]
def qp2{w:NJ}{a:Addr}{c:Array K8}{e:LP}{fz:Nat×Nat}(h:w.heap[a.block]? = B1 (.cells c e fz)):(noView a).run P w=.ok () w:=by
 simp[noView,q05 h]
def Tp{a b:AV->Bool}{x y:AV}{q:Bool}(h:su a b x y=B1 q) :
 (a x=B4/\a y=B4/\q=B4)\/(a x=B4/\b y=B4/\q=B2)\/(b x=B4/\a y=B4/\q=B2):=by
 grind [su]
def YY.not{a:Nat×Nat}(h:YY (0,0) a)(i:Nat):¬(a.1<=i/\i<a.2):=by
 rcases h with h|⟨_,h⟩<;>simp at *<;>omega
def xmv(p:HR P base D θ H w){b d o o':Nat}(J:b≠d)(h:yA H b d=B4) :
 (sameAddr ⟨θ.cq b,θ.off b+o,B5⟩ ⟨θ.cq d,θ.off d+o',B5⟩).run P w=.ok B2 w:=by
 have key:∀(f g o1 o2:Nat)(z A:Array K8)(e1 e2:LP)(m n:Nat×Nat),f≠g->w.heap[f]? = B1 (.cells z e1 m)->w.heap[g]? = B1 (.cells A e2 n) ->
  ((∀i,¬(m.1<=i/\i<m.2))/\A.size≠0\/(∀i,¬(n.1<=i/\i<n.2))/\z.size≠0)->(sameAddr ⟨f,o1,B5⟩ ⟨g,o2,B5⟩).run P w=.ok B2 w:=by
  intro f g o1 o2 z A e1 e2 m n hk G r u;have s1:=X2 G;have s2:=X2 r;have n1:(noView ⟨f,o1,B5⟩).run P w=_:=qp2 G;have n2:(noView ⟨g,o2,B5⟩).run P w=_:=qp2 r;have O:∀i,w.frozen? ⟨f,i,B5⟩=(decide (m.1<=i) && decide (i<m.2)):=λ i=>by simp[NJ.frozen?,G]
  have Q:∀i,w.frozen? ⟨g,i,B5⟩=(decide (n.1<=i) && decide (i<n.2)):=λ i=>by simp[NJ.frozen?,r]
  have v:(f == g)=false:=by simpa using hk
  rcases u with⟨S,T⟩|⟨S,T⟩
  .have E:∀i,w.frozen? ⟨f,i,B5⟩=false:=λ i=>by simp_all
   simp only[sameAddr,NQ,run_frozen,E,n1,n2,v,mayBeOne,stringish,run_shape,s1,s2,Sem.run_ite,Bool.false_and,zu,nT,Qh,NM];simp_all
  .have F:∀i,w.frozen? ⟨g,i,B5⟩=false:=λ i=>by simp_all
   simp only[sameAddr,NQ,run_frozen,F,n1,n2,v,mayBeOne,stringish,run_shape,s1,Sem.run_ite,Bool.and_false,zu,nT,Qh,NM];simp_all
 unfold yA at h;split at h
 .rename_i c e x M e' R U hb a;obtain⟨_,co,u,pre,cs,post,B,N,rfl,r,K,L⟩:=p.obj b _ hb;obtain⟨_,co',j,y,cs',l,q,C,rfl,I,s,t⟩:=p.obj d _ a;refine key _ _ _ _ _ _ _ _ _ _ (p.inj b d _ _ hb a rfl J) u j (.inl ⟨(L rfl).2.2.2.not,?_⟩);have:=s.length
  grind
 .rename_i c e fz ow M e' hb a;obtain⟨_,co,u,pre,cs,post,B,N,rfl,r,K,L⟩:=p.obj b _ hb;obtain⟨_,co',j,y,cs',l,q,C,rfl,I,s,t⟩:=p.obj d _ a;refine key _ _ _ _ _ _ _ _ _ _ (λ e=>p.inj d b _ _ a hb rfl (by omega) e.symm) u j (.inr ⟨(t rfl).2.2.2.not,?_⟩);have:=K.length
  grind
 grind
def wX(P:Jy)(t:LP)(x y:N0):xK->Prop
 | .bool=>P.underlying t=B1 .bool
 | .ptr=>∃e n,P.underlying t=B1 (.pointer e)/\bX P e=B1 (n+1)
 | .slice=>∃e,P.underlying t=B1 (.slice e)
 | .map=>∃k e,P.underlying t=B1 (.map k e)
 | .func=>∃a b c,P.underlying t=B1 (.func a b c)
 | .iface=>∃ms,P.underlying t=B1 (.interface ms)/\((∃v,x=.const v) \/ ∃v,y=.const v)
 | .ifaces f=>(∃ms,P.underlying t=B1 (.interface ms)) /\ ∀u q,f u=B1 q->dF P 20 u=B1 q /\ ∃i,P.info? u=B1 i/\i.comparable=B4
 | .agg q=>P.eqGuardType P.depth t=B2/\p5 P t=B1 q/\((∃fs,P.underlying t=B1 (.struct fs)) \/ ∃n e,P.underlying t=B1 (.array n e))
set_option maxHeartbeats 2000000 in
def Ku(hh:HR P base D θ H w){t:LP}{x y:N0}{ρ:N0->K8}{k:xK}(hk:wX P t x y k){a b:AV}(ha:VR D θ a (ρ x))(hb:VR D θ b (ρ y)){q:Bool}
 (h:JI H k a b=B1 q) (op:BinOp) (g:op=.eql\/op=.neq) :
 ((do eqGuard op t x y (ρ x) (ρ y);binOp op t (ρ x) (ρ y)):Sem K8).run P w=.ok (.bool (if op=.neq then !q else q)) w:=by
 have fin:(eqGuard op t x y (ρ x) (ρ y)).run P w=.ok () w->(CY t (ρ x) (ρ y)).run P w=.ok q w->(binOp .eql t (ρ x) (ρ y)).run P w=((do pure (.bool (<-CY t (ρ x) (ρ y)))):Sem K8).run P w ->
  (binOp .neq t (ρ x) (ρ y)).run P w=((do pure (.bool (!(<-CY t (ρ x) (ρ y))))):Sem K8).run P w ->
  ((do eqGuard op t x y (ρ x) (ρ y);binOp op t (ρ x) (ρ y)):Sem K8).run P w=.ok (.bool (if op=.neq then !q else q)) w:=by
  intro G F Z h4;rw[NQ,G,NM];rcases g with rfl|rfl
  .rw [Z];simp[F]
  .rw [h4];simp[F]
 obtain⟨dd,e1,V⟩:∃d,(∀p q,CY t p q=BD (d+1) t p q) /\ ∃m,d=20+m:=⟨9999,λ _ _=>rfl,9979,rfl⟩
 cases k
 case bool =>
  cases a<;>cases b<;>simp only[JI,reduceCtorEq,qk]at h;subst h;have hu:P.underlying t=B1 .bool:=hk;rw[<-ha.now,<-hb.now];rw[<-ha.now,<-hb.now]at fin;refine fin ?_ (run_equalIn_bool' w _ t _ _ hu) (by simp only[az,binOp]) (by simp only[az,binOp]);rcases g with rfl|rfl<;>simp[eqGuard,az]
 case ptr =>
  have⟨e,n,hu,hs⟩:=hk;have K:=uv (w:=w) hs;have A:(CY t (ρ x) (ρ y)).run P w=.ok q w:=by
   cases a<;>cases b<;>simp only[JI,reduceCtorEq,qk]at h
   .subst h;rw[<-ha.now,<-hb.now,e1];simp[az,BD,kw hu]
   .subst h;rw[<-ha.now,<-hb.now,e1];simp[az,BD,kw hu]
   .subst h;rw[<-ha.now,<-hb.now,e1];simp[az,BD,kw hu]
   .rename_i C o1 E o2;rw[<-ha.now,<-hb.now,e1];simp only[az,BD,NQ,kw hu,NM,K,ne_eq,Nat.succ_ne_zero,not_false_eq_true,rN];cases r:J8 C E with
    |true =>
     rw[r]at h;have:C=E:=by simpa using r
     subst this;simp only[xv,qk]at h;subst h;simp only[sameAddr,beq_self_eq_true,rN,Qh];congr 1
     by_cases ho:o1=o2
     .subst ho;simp
     .have:J8 o1 o2=false:=by simpa[<-Bool.not_eq_true,kc]using ho
      rw[this];simp[ho]
    |false =>
     rw[r]at h;simp only[zo]at h;cases hp:yA H C E with
     |false=>rw[hp]at h;cases h
     |true =>
      rw[hp]at h;simp only[xv,qk]at h;subst h;have u:C≠E:=λ e=>by subst e;simp at r
      exact xmv hh u hp
  cases a<;>cases b<;>simp only[JI,reduceCtorEq,qk]at h <;>
   (rw[<-ha.now,<-hb.now]at A⊢;rw[<-ha.now,<-hb.now]at fin
    exact fin (by rcases g with rfl|rfl<;>simp[eqGuard,az]) A (by simp only[az,binOp]) (by simp only[az,binOp]))
 case slice =>
  have⟨e,hu⟩:=hk;have o:=Tp h;cases a<;>cases b<;>simp[Ce,isSlice]at o <;>
   (subst o;rw[<-ha.now,<-hb.now];rw[<-ha.now,<-hb.now]at fin
    exact fin (by rcases g with rfl|rfl<;>simp[eqGuard,az]) (by rw[e1];simp[az,BD,kw hu]) (by simp only[az,binOp]) (by simp only[az,binOp]))
 case map =>
  have⟨k,e,hu⟩:=hk;have o:=Tp h;cases a<;>cases b<;>simp[Et,isMap]at o <;>
   (subst o;rw[<-ha.now,<-hb.now];rw[<-ha.now,<-hb.now]at fin
    exact fin (by rcases g with rfl|rfl<;>simp[eqGuard,az]) (by rw[e1];simp[az,BD,kw hu]) (by simp only[az,binOp]) (by simp only[az,binOp]))
 case func =>
  have⟨p1,p2,p3,hu⟩:=hk;have o:=Tp h;cases a<;>cases b<;>simp[Bw,Pe]at o <;>
   (subst o;rw[<-ha.now,<-hb.now];rw[<-ha.now,<-hb.now]at fin
    exact fin (by rcases g with rfl|rfl<;>simp[eqGuard,az]) (by rw[e1];simp[az,BD,kw hu]) (by simp only[az,binOp]) (by simp only[az,binOp]))
 case iface =>
  have⟨ms,hu,O⟩:=hk;have o:=Tp h;cases a<;>cases b<;>simp[D3,isIface]at o <;>
   (subst o;rw[<-ha.now,<-hb.now];rw[<-ha.now,<-hb.now]at fin
    exact fin (by rcases g with rfl|rfl<;>rcases O with⟨v,rfl⟩|⟨v,rfl⟩<;>simp[eqGuard,az]) (by rw[e1];simp[az,BD,kw hu]) (by simp only[az,binOp]) (by simp only[az,binOp]))
 case ifaces f =>
  have⟨⟨ms,hu⟩,hf⟩:=hk;cases a<;>cases b<;>simp only[JI,reduceCtorEq,qk]at h
  .rename_i Q v1 S v2;have⟨T,I,M⟩:=ha.mz;have⟨U,J,N⟩:=hb.mz;rw[I,J]at fin⊢;refine fin (by rcases g with rfl|rfl<;>simp[eqGuard]) ?_ (by simp only[binOp]) (by simp only[binOp]);rw[e1];cases j:J8 Q S with
   |true =>
    rw[j]at h;simp only[kc]at j;subst j;simp only[xv,qj]at h;have⟨R,L,h⟩:=h;have⟨W,i,X,Y⟩:=hf _ _ L;obtain⟨m,rfl⟩:=V;have B:=TE m (D:=D) (θ:=θ) w 20 Q R W v1 v2 T U q M N h;simp[BD,kw hu,typeInfo,X,Y,B]
   |false =>
    rw[j]at h;have u:Q≠S:=λ e=>by subst e;simp at j
    simp only[zo,qk]at h;subst h;simp[BD,kw hu,u]
  .subst h;rw[<-ha.now,<-hb.now];rw[<-ha.now,<-hb.now]at fin;exact fin (by rcases g with rfl|rfl<;>simp[eqGuard,az]) (by rw[e1];simp[az,BD,kw hu]) (by simp only[az,binOp]) (by simp only[az,binOp])
  .subst h;rw[<-ha.now,<-hb.now];rw[<-ha.now,<-hb.now]at fin;exact fin (by rcases g with rfl|rfl<;>simp[eqGuard,az]) (by rw[e1];simp[az,BD,kw hu]) (by simp only[az,binOp]) (by simp only[az,binOp])
 case agg R =>
  have⟨hg,c,hu⟩:=hk;have A:=Bp (w:=w) c ha hb h;have z:(∃l,a=.agg l) /\ ∃l,b=.agg l:=by
   have c:dF P (19+1) t=B1 R:=c;rw[dF]at c;rcases hu with⟨fs,hu⟩|⟨n,e,hu⟩
   .rw [hu]at c;simp only at c;split at c
    .cases c
    .exact FX c h
   .rw [hu]at c;simp only[qj]at c;have⟨s,hs,a',ha',q1,hq1,c⟩:=c;cases c;exact _4 _ _ _ _ _ h
  obtain⟨⟨l,rfl⟩,⟨l',rfl⟩⟩:=z;have⟨cs,G,_⟩:=ha.fA;have⟨cs',F,_⟩:=hb.fA;rw[G,F]at A fin⊢;exact fin (run_eqGuard_agg w _ t x y _ _ hg) A (by simp only[binOp]) (by simp only[binOp])
def xm0{o:Pv}{t g:LP}{x y:N0}{k:xK}{neg:Bool}(ho:o.op=.binOp (if neg then .neq else .eql) t x y g)(hk:wX P t x y k):rq P o [x,y] (Op.eq k neg):=by
 intro base D θ H ρ w vs v d h c;unfold Op.eq at c;split at c
 .rename_i a b;have⟨i,j,he,ha,hb⟩:=h.rE;simp only[zz,tG]at he;obtain⟨rfl,rfl⟩:=he;simp only[qj]at c;have⟨q,f,c⟩:=c;cases c;have:=Ku d hk ha hb f (if neg then .neq else .eql) (by grind);refine⟨_,.inl ?_,.bool _⟩;simp only[execOp,ho];rw[NQ,this];simp_all
 grind
end
end Go.Am
namespace Go.Am
structure nN(w w0:NJ):Prop where
 heap:w0.heap=w.heap
 os:w0.os=w.os
 tape:w0.tape=w.tape
 output:w0.output=w.output
def nN.refl(w:NJ):nN w w:=⟨rfl,rfl,rfl,rfl⟩
def nN.trans{a b c:NJ}(h:nN a b)(d:nN b c):nN a c:=⟨d.heap.trans h.heap,d.os.trans h.os,d.tape.trans h.tape,d.output.trans h.output⟩
def mA(P:Jy)(o:Pv)(xs:List N0)(f:List AV->Option (bF×(Nat->AV))):Prop :=
 ∀(D:Nat->Prop)θ(ρ:N0->K8)w vs ob mk,bN D θ vs (xs.map ρ)->f vs=B1 (ob,mk) ->
  own ob=B4 /\ ∃w0 co ext c,(execOp ρ o).run P w=.ok (.value c) (w0.alloc co)/\nN w w0 /\
   ∀(D':Nat->Prop)θ' id,Ag D θ θ'->(∀b,D b->D' b)->D' id -> θ'.cq id=w.heap.size -> θ'.off id=0 -> θ'.ext id=ext->pj P D' θ' id ob co/\VR D' θ' (mk id) c
section
variable{P:Jy}
def S8{D':Nat->Prop}{θ':Th}{id:Nat}{cells:List AV}{cs:List K8}{e:LP}(h:bN D' θ' cells cs)(ho:θ'.off id=0) :
 pj P D' θ' id (.row cells e (0,0) B4) (.cells cs.toArray e (0,0)) :=
 ⟨[],cs,[],(0,0),_,by simp,by grind,h,λ _=>⟨rfl,rfl,rfl,.inl rfl⟩⟩
def xhc{D':Nat->Prop}{θ':Th}{id k:Nat}(a:D' id)(hb:θ'.cq id=k)(ho:θ'.off id=0):VR D' θ' (Op.ptrTo id) (.pointer (B1 ⟨k,0,B5⟩)):=by
 have:=VR.ptr (θ:=θ') (o:=0) a;rw[hb,ho]at this;exact this
def q8h{D':Nat->Prop}{θ':Th}{id k n m:Nat}(a:D' id)(hb:θ'.cq id=k)(ho:θ'.off id=0):VR D' θ' (Op.sliceTo n m id) (.slice (B1 ⟨k,0,B5⟩) n m):=by
 have:=VR.slice (θ:=θ') (o:=0) (n:=n) (c:=m) a;simp only[az,hb,ho]at this;exact this
def xec{o:Pv}{e:LP}{z:AV}(ho:o.op=.alloc e)(f:zeroOf P e=B1 z):mA P o [] (Op.alloc e z.cells):=by
 intro D θ ρ w vs j mk h c;unfold Op.alloc at c;split at c
 .cases c;have⟨zc,g,d⟩:=Le (w:=w) f;refine⟨rfl,w,.cells zc.cells e (0,0),0,.pointer (B1 ⟨w.heap.size,0,B5⟩),?_,.refl w,λ D' θ' id ha i b hb a _=>⟨?_,xhc b hb a⟩⟩
  .simp_all [execOp,Instr.alloc,newVar,newRow]
  .have:=S8 (P:=P) (e:=e) (d D' θ').cells a
   simpa using this
 grind
def xkl{o:Pv}{e:LP}{x:N0}(ho:o.op=.box e x):mA P o [x] (Op.box e):=by
 intro D θ ρ w vs f mk h c;unfold Op.box at c;split at c
 .rename_i v;have⟨g,he,ha⟩:=h.qD;simp only[zz,tG]at he;subst he;cases c;refine⟨rfl,w,.cells (ρ x).cells e (0,0),0,.pointer (B1 ⟨w.heap.size,0,B5⟩),?_,.refl w,λ D' θ' id hg d b hb a _=>⟨?_,xhc b hb a⟩⟩
  .simp [execOp,ho,Instr.box,newVar,newRow]
  .have:=S8 (P:=P) (e:=e) (ha.up hg d).cells a
   simpa using this
 grind
def _G{o:Pv}{t:LP}{r:Option N0}(ho:o.op=.makeMap t r)(hr:r=B5\/(∃k n,r=B1 (.const (.int k n)) /\ ∃a b,P.underlying t=B1 (.map a b)))
 (j:∀(ρ:N0->K8),True):∀(D:Nat->Prop)θ(ρ:N0->K8)w vs d mk,(∀v,ρ (.const v)=v)->bN D θ vs (([]:List N0).map ρ)->Op.mkMap vs=B1 (d,mk) ->
 own d=B4 /\ ∃w0 co ext c,(execOp ρ o).run P w=.ok (.value c) (w0.alloc co)/\nN w w0 /\
  ∀(D':Nat->Prop)θ' id,Ag D θ θ'->(∀b,D b->D' b)->D' id -> θ'.cq id=w.heap.size -> θ'.off id=0 -> θ'.ext id=ext->pj P D' θ' id d co/\VR D' θ' (mk id) c:=by
 intro D θ ρ w vs d mk m h f;unfold Op.mkMap at f;split at f
 .cases f;refine⟨rfl,w,.map #[] 0,0,.map (B1 w.heap.size),?_,.refl w,λ D' θ' id hg l i hb g _=>⟨⟨[],rfl,trivial⟩,?_⟩⟩
  .rcases hr with rfl|⟨k,n,rfl,a,b,hu⟩
   .simp [execOp,ho,Instr.makeMap]
   simp_all[execOp,Instr.makeMap,kw,asInt,asIntOf]
  grind [VR.map]
 grind
def Wc{D:Nat->Prop}{θ:Th}{z:List AV}{zc:List K8}(h:bN D θ z zc)(n:Nat):bN D θ (gf n z) (Jv n zc).flatten:=by
 induction n with
 |zero=>exact .nil
 |succ n ih =>
  simp only[gf,py,QD,Qe];exact h.app ih
def Yn(zc:List K8)(n:Nat):((CU (n*zc.length)).map (λ i=>zc.toArray[i % zc.toArray.size]!))=(Jv n zc).flatten.toArray:=by
 apply Array.ext';simp only[Array.toList_map,Array.toList_range,List.size_toArray]
 induction n with
 |zero=>simp
 |succ n ih =>
  rw[show(n+1)*zc.length=zc.length+n*zc.length from by rw[ye];omega,List.range_add,I9,zD,QD,Qe];congr 1
  .apply List.ext_getElem
   .simp
   grind [Nat.mod_eq_of_lt]
  simp_all[List.map_congr_left]
def qzq{o:Pv}{t e:LP}{len n:Nat}{parts:Array (Nat×N0)}{z:AV}{s:List (Nat×Nat)}(ho:o.op=.buildSlice t len parts)(hu:P.underlying t=B1 (.slice e))
 (hs:bX P e=B1 n) (C:zeroOf P e=B1 z) (hp:Fu (Mp n) parts.toList=B1 s) (F:z.cells.length=n) (v:len*n<=16777216) :
 mA P o (parts.toList.map (·.2)) (Op.buildSlice e len z.cells s):=by
 intro D θ ρ w vs G mk h j;simp only[Op.buildSlice,qj]at j;have⟨c,A,j⟩:=j;cases j;have⟨zc,r,g⟩:=Le (w:=w) C;have E:=(g D θ).cells.length;have f:bN D θ (gf len z.cells) (Jv len zc.cells.toList).flatten:=Wc (g D θ).cells len;have hv':bN D θ vs (parts.toList.map λ p=>ρ p.2):=by grind [Function.comp_def]
 have⟨cout,x,y⟩:=Wq s vs parts.toList (Mp n) c hp hv' _ _ f A;have q:zc.cells.size=n:=by rw[<-O2];omega
 refine⟨rfl,w,.cells cout.toArray e (0,0),0,.slice (B1 ⟨w.heap.size,0,B5⟩) len len,?_,.refl w,λ D' θ' id hg B m hb d _=>⟨S8 (y.up hg B) d,q8h m hb d⟩⟩;have a:=Yn zc.cells.toList len;rw[show zc.cells.toList.length=n from by omega]at a;simp only[Br]at a;have l:Instr.fill (λ i=>B1 (i*n,n)) (((CU (len*n)).map (λ i=>zc.cells[i % zc.cells.size]!))) ((parts.map λ(p:Nat×N0)=>(p.1,ρ p.2)).toList)=B1 cout.toArray:=by
  rw[a,xms];exact x
 by_cases u:len*n=0
 .have b:Instr.fill (λ i=>B1 (i*n,n)) #[] ((parts.map λ(p:Nat×N0)=>(p.1,ρ p.2)).toList)=B1 cout.toArray:=by
   grind
  simp only[execOp,ho,Instr.buildSlice,NQ,kw hu,NM,uv hs,u,show CU 0 = #[]from rfl,Array.map_empty,rN,Qh,b];simp[newRow]
 .have hb:¬(len*n > 2 ^ 24):=by omega
  simp only[execOp,ho,Instr.buildSlice,NQ,kw hu,NM,uv hs,u,hb,nT,r,Qh];simp_all[newRow]
def q87{o:Pv}{t e:LP}{l c:N0}{b n:Nat}{z:AV}(ho:o.op=.makeSlice t l c)(hu:P.underlying t=B1 (.slice e))(hb:ng P e=B1 b)
 (hs:bX P e=B1 n) (K:zeroOf P e=B1 z) (M:z.cells.length=n):mA P o [l,c] (Op.mkSlice e b z.cells):=by
 intro D θ ρ w vs V mk h p;unfold Op.mkSlice at p;split at p
 .rename_i T m U f;have⟨x,y,he,ha,s⟩:=h.rE;simp only[zz,tG]at he;obtain⟨rfl,rfl⟩:=he;cases d:(sY 0 m && sY m f && sY (f*b) 140737488355328 && sY f 140737488355328)with
  |false=>grind
  |true =>
   rw[d]at p;simp only[xv,qk,ze]at p;obtain⟨rfl,rfl⟩:=p;simp only[zf,HG,OD]at d;have⟨⟨⟨N,O⟩,Q⟩,R⟩:=d;have⟨zc,B,q⟩:=Le (w:=w) K;have L:=(q D θ).cells.length;have A:zc.cells.size=n:=by grind
   refine⟨rfl,w,.cells (Jv f.toNat zc.cells.toList).flatten.toArray e (0,0),0,.slice (B1 ⟨w.heap.size,0,B5⟩) m.toNat f.toNat,?_,.refl w,
    λ D' θ' id hg S v hb j _=>⟨S8 (Wc ((q D' θ').cells) _) j,q8h v hb j⟩⟩
   have w1:PD.i64.wrap m=m:=by grind [IntKind.wrap,IntKind.bits]
   have w2:PD.i64.wrap f=f:=by grind [IntKind.wrap,IntKind.bits]
   have u:∃i,P.info? e=B1 i/\i.bytes=b:=by
    unfold ng at hb;cases C:P.info? e with
    |none=>grind
    |some i=>grind
   obtain⟨inf,C,rfl⟩:=u;have a:=Yn zc.cells.toList f.toNat;rw[show zc.cells.toList.length=n from by omega]at a;simp only[Br]at a;have E:¬(f<0):=by omega
   have F:¬((inf.bytes:Int)*f > 2 ^ 48):=by grind
   have G:¬(m<0):=by omega
   have I:¬(m > f):=by omega
   have J:¬(f.toNat*inf.bytes > roomBytes):=by
    grind [roomBytes]
   have W:(2:Int) ^ 48=281474976710656:=by decide
   simp only[execOp,ho,<-ha.now,<-s.now,az,Instr.makeSlice,NQ,kw hu,NM,asInt,asIntOf,Qh,typeInfo,run_program,C,w1,w2]
   by_cases r:f.toNat*n=0
   .have g:(Jv f.toNat zc.cells.toList).flatten.toArray = #[]:=by rw[<-a,r,show CU 0 = #[]from rfl,Array.map_empty]
    simp only[E,F,G,I,J,r,askRoom,g,Ji,Bool.or_self,zu,nT,rN,NQ,Qh,NM,uv hs,show CU 0 = #[]from rfl,Array.map_empty];simp[newRow]
   .simp only[E,F,G,I,J,r,askRoom,Ji,Bool.or_self,zu,nT,NQ,Qh,NM,uv hs,B,a];simp[newRow]
 grind
end
end Go.Am
