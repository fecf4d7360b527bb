import GoSem.Step
import Derived.CallsIn
import Derived.WalkKit
import Derived.WalkLawsBesides
import Derived.Lib.Strings
import Derived.Lib.Bytealg
import Derived.DeepKeys3
import Derived.Laws.Cover3
import Derived.Laws.Pointers
import Derived.Room.MakeNoZero
import Derived.Laws.IdiomStrings
set_option linter.defProp false
set_option linter.unusedVariables false
set_option linter.unusedSimpArgs false
open Array renaming range→Cq,toArray_toList→CD
open BitVec renaming ofInt→BD
open Bool renaming eq_iff_iff→Cg,false→B2,true→B4
open Go renaming Op→Cm,IntKind→OM,MapEntry→Bh,Oper→P7,Operand→M7,Program→Jl,TypeId→Lx,Value→K1,World→N6
open Go.Addr.mk renaming injEq→C5
open Go.Builtin renaming len_→D3
open Go.Deferred renaming ofValue→BX
open Go.Instr renaming checkKey→BZ,findAsking→BK,findKey→Cx,findNow→CX,lookup→CW,sliceBounds→BF,sureAddr→CE
open Go.Op renaming equal→Cz,equalIn→BJ
open Go.Region renaming before→CL
open Go.Result renaming andThen_ok→NA
open Go.Sem renaming run_bind→NG,run_pure→B8
open Go.Value.slice renaming injEq→BO
open List renaming range→MX,rec→B7,replicate→Ji
open Nat renaming beq→JW,ble→Nu,blt→OO
open Option renaming none→B5,some→B1
open UInt8 renaming ofNat→BU
namespace Go.Am
theorem qj:type_of% @Option.bind_eq_some_iff:=@Option.bind_eq_some_iff
def qk:type_of% @Option.some.injEq:=@Option.some.injEq
def qm:type_of% @Nat.le_refl:=@Nat.le_refl
def qn:type_of% @Nat.lt_of_lt_of_le:=@Nat.lt_of_lt_of_le
def qr:type_of% @Option.bind_some:=@Option.bind_some
def qt:type_of% @List.getElem?_eq_some_iff:=@List.getElem?_eq_some_iff
def qv:type_of% @eq_true:=@eq_true
def qy:type_of% @if_neg:=@if_neg
def xe:type_of% @List.length_append:=@List.length_append
def xf:type_of% @List.getElem?_eq_getElem:=@List.getElem?_eq_getElem
def xg:type_of% @if_pos:=@if_pos
def xq:type_of% @List.getElem?_map:=@List.getElem?_map
theorem xr:type_of% @Option.map_eq_some_iff:=@Option.map_eq_some_iff
def xt:type_of% @cond_true:=@cond_true
def xu:type_of% @List.length_map:=@List.length_map
def xw:type_of% @Nat.zero_le:=@Nat.zero_le
def xx:type_of% @Nat.le_trans:=@Nat.le_trans
def xz:type_of% @Nat.lt_or_ge:=@Nat.lt_or_ge
theorem za:type_of% @List.take_of_length_le:=@List.take_of_length_le
def zd:type_of% @List.mem_of_getElem?:=@List.mem_of_getElem?
def ze:type_of% @List.length_set:=@List.length_set
def zh:type_of% @Prod.mk.injEq:=@Prod.mk.injEq
def zj:type_of% @List.getElem?_cons_zero:=@List.getElem?_cons_zero
def zk:type_of% @List.getElem?_set_self:=@List.getElem?_set_self
def zm:type_of% @Bool.and_eq_true:=@Bool.and_eq_true
def zn:type_of% @cond_false:=@cond_false
def zp:type_of% @List.append_nil:=@List.append_nil
def zq:type_of% @List.getElem?_set_ne:=@List.getElem?_set_ne
def zr:type_of% @Nat.lt_succ_self:=@Nat.lt_succ_self
def zt:type_of% @List.getD_eq_getElem?_getD:=@List.getD_eq_getElem?_getD
def zu:type_of% @List.length_cons:=@List.length_cons
def zx:type_of% @Bool.and_self:=@Bool.and_self
def zy:type_of% @Classical.byContradiction:=@Classical.byContradiction
def zz:type_of% @List.cons.injEq:=@List.cons.injEq
def z4:type_of% @List.getElem?_append_right:=@List.getElem?_append_right
def z8:type_of% @List.getElem?_cons_succ:=@List.getElem?_cons_succ
def ja:type_of% @Bool.false_eq_true:=@Bool.false_eq_true
def jg:type_of% @List.length_replicate:=@List.length_replicate
theorem jh:type_of% @List.drop_eq_nil_of_le:=@List.drop_eq_nil_of_le
def ji:type_of% @Int.eq_ofNat_of_zero_le:=@Int.eq_ofNat_of_zero_le
def jj:type_of% @List.length_range:=@List.length_range
def jm:type_of% @List.mem_append:=@List.mem_append
def jo:type_of% @List.nil_append:=@List.nil_append
def jp:type_of% @List.getElem?_eq_none:=@List.getElem?_eq_none
def jq:type_of% @List.length_nil:=@List.length_nil
theorem js:type_of% @List.length_take:=@List.length_take
def ju:type_of% @decide_eq_false:=@decide_eq_false
theorem jy:type_of% @Nat.beq_eq:=@Nat.beq_eq
def jz:type_of% @List.length_eq_zero_iff:=@List.length_eq_zero_iff
def j6:type_of% @List.flatMap_cons:=@List.flatMap_cons
theorem j7:type_of% @List.take_add_one:=@List.take_add_one
def j8:type_of% @Nat.mul_le_mul_right:=@Nat.mul_le_mul_right
def j9:type_of% @Iff.rfl:=@Iff.rfl
def kc:type_of% @Nat.le_succ:=@Nat.le_succ
def ke:type_of% @decide_eq_true:=@decide_eq_true
def kh:type_of% @List.map_cons:=@List.map_cons
def ki:type_of% @List.flatMap_append:=@List.flatMap_append
def kj:type_of% @List.getElem?_range:=@List.getElem?_range
def ku:type_of% @List.append_assoc:=@List.append_assoc
def kw:type_of% @List.mem_cons:=@List.mem_cons
def yf:type_of% @List.take_zero:=@List.take_zero
def yg:type_of% @Nat.zero_add:=@Nat.zero_add
def yj:type_of% @List.ext_getElem?:=@List.ext_getElem?
def yk:type_of% @List.length_drop:=@List.length_drop
def yq:type_of% @Option.bind_assoc:=@Option.bind_assoc
theorem yr:type_of% @List.take_append_drop:=@List.take_append_drop
def yw:type_of% @List.drop_zero:=@List.drop_zero
def yx:type_of% @List.getElem?_append_left:=@List.getElem?_append_left
def ve:type_of% @List.mem_singleton:=@List.mem_singleton
def vh:type_of% @Array.getElem?_toList:=@Array.getElem?_toList
theorem vi:type_of% @Nat.succ_mul:=@Nat.succ_mul
def vk:type_of% @Option.getD_some:=@Option.getD_some
def vq:type_of% @Option.isSome_some:=@Option.isSome_some
def vr:type_of% @List.eq_of_mem_replicate:=@List.eq_of_mem_replicate
def vy:type_of% @List.drop_length_add_append:=@List.drop_length_add_append
theorem vz:type_of% @Nat.add_mul:=@Nat.add_mul
def we:type_of% @Classical.not_not:=@Classical.not_not
def wh:type_of% @List.getElem?_drop:=@List.getElem?_drop
def wn:type_of% @if_false:=@if_false
def Ow:type_of% @List.take_append_of_le_length:=@List.take_append_of_le_length
def Ad:type_of% @Nat.add_assoc:=@Nat.add_assoc
def Ho:type_of% @Int.toNat_natCast:=@Int.toNat_natCast
theorem ub:type_of% @Nat.ble_eq:=@Nat.ble_eq
theorem Mh:type_of% @Nat.eq_of_beq_eq_true:=@Nat.eq_of_beq_eq_true
def I7:type_of% @List.mem_cons_self:=@List.mem_cons_self
def Oc:type_of% @Nat.add_sub_cancel_left:=@Nat.add_sub_cancel_left
theorem LY:type_of% @List.getElem?_of_mem:=@List.getElem?_of_mem
def Gn:type_of% @List.all_eq_true:=@List.all_eq_true
theorem Ij:type_of% @List.drop_append:=@List.drop_append
def Ah:type_of% @Nat.add_zero:=@Nat.add_zero
def yP:type_of% @Int.le_refl:=@Int.le_refl
def LW:type_of% @Int.toNat_of_nonneg:=@Int.toNat_of_nonneg
theorem FU:type_of% @List.drop_drop:=@List.drop_drop
def GW:type_of% @Bool.or_eq_true:=@Bool.or_eq_true
def AF:type_of% @List.map_map:=@List.map_map
def M3:type_of% @List.set_append_right:=@List.set_append_right
def AN:type_of% @Nat.zero_mul:=@Nat.zero_mul
def GA:type_of% @Option.map_some:=@Option.map_some
def Jo:type_of% @List.cons_append:=@List.cons_append
theorem Ul:type_of% @Array.getD_eq_getD_getElem?:=@Array.getD_eq_getD_getElem?
def Jz:type_of% @List.map_append:=@List.map_append
def Tu:type_of% @Array.getElem?_eq_some_iff:=@Array.getElem?_eq_some_iff
def MO:type_of% @List.mem_nil_iff:=@List.mem_nil_iff
def LU:type_of% @List.take_length:=@List.take_length
def N1:type_of% @List.countP_append:=@List.countP_append
def N0:type_of% @List.getElem?_take:=@List.getElem?_take
def FN:type_of% @List.map_nil:=@List.map_nil
def Fx:type_of% @List.mem_map:=@List.mem_map
def Gp:type_of% @Nat.lt_irrefl:=@Nat.lt_irrefl
def Nn:type_of% @Option.isSome_none:=@Option.isSome_none
def uj:type_of% @and_true:=@and_true
def Tj:type_of% @Decidable.byContradiction:=@Decidable.byContradiction
def rT:type_of% @Ne.symm:=@Ne.symm
def Kh:type_of% @List.take_left':=@List.take_left'
theorem A6:type_of% @Nat.blt_eq:=@Nat.blt_eq
def NN:type_of% @Nat.lt_succ_of_lt:=@Nat.lt_succ_of_lt
def Ia:type_of% @Nat.sub_self:=@Nat.sub_self
def OC:type_of% @List.replicate_succ:=@List.replicate_succ
def JJ:type_of% @decide_false:=@decide_false
def ua:type_of% @eq_self:=@eq_self
def vG:type_of% @if_true:=@if_true
def N9:type_of% @List.mem_range:=@List.mem_range
def PC:type_of% @List.take_append:=@List.take_append
def MF:type_of% @Nat.ne_of_lt:=@Nat.ne_of_lt
def I3:type_of% @Int.not_lt:=@Int.not_lt
def FO:type_of% @true_and:=@true_and
inductive T(α:Type)where
 |nil
 |node (l:T α) (v:Option α) (r:T α)
noncomputable section
namespace T
variable{α:Type}
def l:T α->T α
 | .nil=>.nil
 | .node a _ _=>a
def r:T α->T α
 | .nil=>.nil
 | .node _ _ b=>b
def val:T α->Option α
 | .nil=>B5
 | .node _ v _=>v
def path(i:Nat):List Bool:=go i i
 where go:Nat->Nat->List Bool
 |0,_=>[]
 |f+1,i=>match i with
  |0=>[]
  |n+1=>JW (Nat.mod n 2) 0::go f (Nat.div n 2)
def wP:List Bool->T α->Option α
 |[],t=>t.val
 |b::p,t=>wP p (cond b t.l t.r)
def fV(v:Option α):List Bool->T α->T α
 |[],t=>.node t.l v t.r
 |b::p,t=>cond b (.node (fV v p t.l) t.val t.r) (.node t.l t.val (fV v p t.r))
def get(t:T α)(i:Nat):Option α:=wP (path i) t
def put(t:T α)(i:Nat)(v:Option α):T α:=fV v (path i) t
def set(t:T α)(i:Nat)(v:α):T α:=t.put i (B1 v)
structure Get(α:Type)where
 run:T α->Option α
structure Put(α:Type)where
 run:Option α->T α->T α
def oK:List Bool->Get α
 |[]=>⟨val⟩
 |true::p=>⟨λ t=>(oK p).run t.l⟩
 |false::p=>⟨λ t=>(oK p).run t.r⟩
def CO:List Bool->Put α
 |[]=>⟨λ v t=>.node t.l v t.r⟩
 |true::p=>⟨λ v t=>.node ((CO p).run v t.l) t.val t.r⟩
 |false::p=>⟨λ v t=>.node t.l t.val ((CO p).run v t.r)⟩
end T
def nth{α:Type}(l:List α):Nat->Option α :=
 B7 (motive:=λ _=>Nat->Option α) (λ _=>B5) (λ x _ ih i=>Nat.rec (motive:=λ _=>Option α) (B1 x) (λ n _=>ih n) i) l
def kE{α:Type}(a b:List α):List α:=B7 (motive:=λ _=>List α) b (λ x _ ih=>x::ih) a
def cV{α:Type}(l:List α):Nat:=B7 (motive:=λ _=>Nat) 0 (λ _ _ ih=>ih+1) l
def Pa{α:Type}:List α->List α
 |[]=>[]
 |_::l=>l
def db{α:Type}(n:Nat):List α->List α:=Nat.rec (motive:=λ _=>List α->List α) (λ l=>l) (λ _ ih l=>ih (Pa l)) n
def CZ{α:Type}(n:Nat):List α->Option (List α) :=
 Nat.rec (motive:=λ _=>List α->Option (List α)) (λ _=>B1 [])
  (λ _ ih l=>B7 (motive:=λ _=>Option (List α)) B5 (λ x t _=>(ih t).bind λ r=>B1 (x::r)) l) n
def yZ{α:Type}(new:List α):List α->Option (List α) :=
 B7 (motive:=λ _=>List α->Option (List α)) (λ l=>B1 l)
  (λ x _ ih l=>B7 (motive:=λ _=>Option (List α)) B5 (λ _ t _=>(ih t).bind λ r=>B1 (x::r)) l) new
def putAt{α:Type}(o:Nat)(new:List α):List α->Option (List α) :=
 Nat.rec (motive:=λ _=>List α->Option (List α)) (λ l=>yZ new l)
  (λ _ ih l=>B7 (motive:=λ _=>Option (List α)) B5 (λ x t _=>(ih t).bind λ r=>B1 (x::r)) l) o
def fZ{α:Type}(l:List α)(o n:Nat):Option (List α):=CZ n (db o l)
inductive mE where
 |func (f:Nat)
 |yield (l:Nat)
inductive AV where
 |bool (b:Bool)
 |int (k:OM) (n:Int)
 |str (s:List UInt8)
 |nilp
 |ptr (b o:Nat)
 |nils
 |slice (b o n c:Nat)
 |gslice (b i m size alt n:Nat)
 |eslice (b:Nat)
 |nM
 |map (b:Nat)
 |fn (f:mE) (first captured:List AV)
 |nilf
 |iface (t:Nat) (v:AV)
 |nili
 |agg (l:List AV)
 |tuple (l:List AV)
instance:Inhabited AV:=⟨.nili⟩
def AV.undef:AV:=.tuple []
def AV.cells:AV->List AV
 | .agg l=>l
 |v=>[v]
inductive bM where
 |tmp (t:Nat)
 |const (v:AV)
 |eO (g:Nat)
 |func (f:Nat)
inductive eE where
 |tmp (t:Nat)
 |kT (a:Nat)
 |de (n:Nat) (a:Nat)
inductive ik where
 |exit (id:Nat)|goto (l:Nat)|ret
inductive ng where
 |ready|busy|done|exhausted
inductive aN where
 |jC (b:Nat)
 |fn (f:mE) (args:List AV)
inductive bE where
 |row (cells:List AV) (elem:Nat) (fz:Nat×Nat) (own:Bool)
 |grown (m size:Nat) (cells:List AV) (elem:Nat) (fz:Nat×Nat)
 |map (es:List (AV×AV×Nat)) (clock:Nat)
 |mz (s:List UInt8) (pos:Nat)
 |loop (st:ng) (pend:Option ik) (fn k:Nat) (tm:T AV) (defers:Nat)
 |deferred (calls:Option (List aN))
structure ar where
 t:T bE
 au:Nat
namespace ar
def get(H:ar)(b:Nat):Option bE:=H.t.get b
def set(H:ar)(b:Nat)(o:bE):ar:={H with t:=H.t.set b o}
def alloc(H:ar)(o:bE):ar:={t:=H.t.set H.au o,au:=H.au+1}
def kill(H:ar)(b:Nat):ar:={H with t:=H.t.put b B5}
def bX(H:ar)(b:Nat):Option (List AV) :=
 match H.get b with
 |some (.row c _ _ _)=>B1 c
 |some (.grown _ _ c _ _)=>B1 c
 |_=>B5
end ar
def ar.ae(H:ar)(b o:Nat):Option AV:=(H.bX b).bind λ l=>nth l o
def ar.fC(H:ar)(b:Nat):Option (List (AV×AV×Nat)×Nat) :=
 match H.get b with
 |some (.map es c)=>B1 (es,c)
 |_=>B5
def ar.aq(H:ar)(b o n:Nat):Option (List AV):=(H.bX b).bind λ l=>fZ l o n
def dG(fz:Nat×Nat)(o n:Nat):Bool:=Nu (o+n) fz.1 ||Nu fz.2 o
def aD:AV->Bool
 | .agg _| .tuple _=>B2
 |_=>B4
def aL(l:List AV):Bool:=B7 (motive:=λ _=>Bool) B4 (λ x _ ih=>cond (aD x) ih B2) l
def ar.store(H:ar)(b o:Nat)(new:List AV):Option ar :=
 cond (aL new) (match H.get b with
  |some (.row c e fz B4)=>cond (dG fz o (cV new)) ((putAt o new c).bind λ c'=>B1 (H.set b (.row c' e fz B4))) B5
  |some (.grown m s c e fz)=>cond (dG fz o (cV new)) ((putAt o new c).bind λ c'=>B1 (H.set b (.grown m s c' e fz))) B5
  |_=>B5) B5
def rR(tm:T AV):bM->Option AV
 | .tmp t=>tm.get t
 | .const v=>B1 v
 | .eO g=>B1 (.ptr g 0)
 | .func f=>B1 (.fn (.func f) [] [])
def mF(tm:T AV):List bM->Option (List AV)
 |[]=>B1 []
 |x::xs=>(rR tm x).bind λ v=>(mF tm xs).bind λ vs=>B1 (v::vs)
structure Ev where
 run:T AV->Option AV
structure Evs where
 run:T AV->Option (List AV)
def Nh:bM->Ev
 | .tmp t=>⟨(T.oK (T.path t)).run⟩
 | .const v=>⟨λ _=>B1 v⟩
 | .eO g=>⟨λ _=>B1 (.ptr g 0)⟩
 | .func f=>⟨λ _=>B1 (.fn (.func f) [] [])⟩
def vH:List bM->Evs
 |[]=>⟨λ _=>B1 []⟩
 |[x]=>⟨λ tm=>((Nh x).run tm).bind λ v=>B1 [v]⟩
 |x::xs=>⟨λ tm=>((Nh x).run tm).bind λ v=>((vH xs).run tm).bind λ vs=>B1 (v::vs)⟩
def vK(a b:Int):Bool:=match a,b with
 | .ofNat m,.ofNat n=>Nu m n
 | .ofNat _,.negSucc _=>B2
 | .negSucc _,.ofNat _=>B4
 | .negSucc m,.negSucc n=>Nu n m
def A7(a b:Int):Bool:=!vK b a
def ux(a b:Int):Bool:=match a,b with
 | .ofNat m,.ofNat n=>JW m n
 | .negSucc m,.negSucc n=>JW m n
 |_,_=>B2
def jQ:OM->Nat
 | .i8=>0| .i16=>1| .i32=>2| .i64=>3| .u8=>4| .u16=>5| .u32=>6| .u64=>7
def sJ(a b:OM):Bool:=JW (jQ a) (jQ b)
def C8(a b:UInt8):Bool:=JW a.toNat b.toNat
def A4:List UInt8->List UInt8->Bool
 |[],[]=>B4
 |a::x,b::y=>cond (C8 a b) (A4 x y) B2
 |_,_=>B2
inductive aT where
 |int|str|bool
 |nil
 |part (off:Nat) (n:Option Nat) (t rest:aT)
def partAt(l:List AV)(off:Nat):Option Nat->Option AV
 |none=>nth l off
 |some k=>(fZ l off k).bind λ c=>B1 (.agg c)
def aY:aT->AV->AV->Option Bool
 | .int,.int k a,.int k' b=>cond (sJ k k') (B1 (ux a b)) B5
 | .str,.str a,.str b=>B1 (A4 a b)
 | .bool,.bool a,.bool b=>B1 (a == b)
 | .nil,.agg _,.agg _=>B1 B4
 | .part off n t rest,.agg x,.agg y=>(partAt x off n).bind λ a=>(partAt y off n).bind λ b=>(aY t a b).bind λ q =>
  cond q (aY rest (.agg x) (.agg y)) (B1 B2)
 |_,_,_=>B5
def dh:aT->AV->Bool
 | .int,.int _ _=>B4
 | .str,.str _=>B4
 | .bool,.bool _=>B4
 | .nil,.agg _=>B4
 | .part off n t rest,.agg x=>match partAt x off n with
  |some a=>cond (dh t a) (dh rest (.agg x)) B2
  |none=>B2
 |_,_=>B2
def bytesLess:List UInt8->List UInt8->Bool
 |_,[]=>B2
 |[],_::_=>B4
 |a::x,b::y=>OO a.toNat b.toNat ||(C8 a b && bytesLess x y)
def qT(op:BinOp)(a b:List UInt8):Option AV :=
 match op with
 | .add=>cond (Nu (a.length+b.length) 140737488355328) (B1 (.str (a++b))) B5
 | .eql=>B1 (.bool (A4 a b))
 | .neq=>B1 (.bool (!(A4 a b)))
 | .lss=>B1 (.bool (bytesLess a b))
 | .leq=>B1 (.bool (bytesLess a b ||A4 a b))
 | .gtr=>B1 (.bool (!(bytesLess a b ||A4 a b)))
 | .geq=>B1 (.bool (!bytesLess a b))
 |_=>B5
def aj(k:OM)(n:Int):Int:=k.wrap n
def gK(op:BinOp)(k:OM)(a b:Int):Option AV :=
 match op with
 | .add=>B1 (.int k (aj k (a+b)))
 | .sub=>B1 (.int k (aj k (a-b)))
 | .mul=>B1 (.int k (aj k (a*b)))
 | .quo=>cond (ux b 0) B5 (B1 (.int k (aj k (a.tdiv b))))
 | .rem=>cond (ux b 0) B5 (B1 (.int k (a.tmod b)))
 | .and=>B1 (.int k (aj k ((BD k.bits a &&& BD k.bits b).toNat)))
 | .or=>B1 (.int k (aj k ((BD k.bits a |||BD k.bits b).toNat)))
 | .xor=>B1 (.int k (aj k ((BD k.bits a ^^^ BD k.bits b).toNat)))
 | .andNot=>B1 (.int k (aj k ((BD k.bits a &&& ~~~(BD k.bits b)).toNat)))
 | .eql=>B1 (.bool (ux a b))
 | .neq=>B1 (.bool (!ux a b))
 | .lss=>B1 (.bool (A7 a b))
 | .leq=>B1 (.bool (vK a b))
 | .gtr=>B1 (.bool (A7 b a))
 | .geq=>B1 (.bool (vK b a))
 |_=>B5
inductive wM where
 |bool|ptr|slice|map|func|iface
 |ifaces (f:Nat->Option aT)
 |agg (t:aT)
def sE(isNil isSome:AV->Bool)(x y:AV):Option Bool :=
 cond (isNil x) (cond (isNil y) (B1 B4) (cond (isSome y) (B1 B2) B5)) (cond (isSome x && isNil y) (B1 B2) B5)
def EA:AV->Bool
 | .nils=>B4
 |_=>B2
def isSlice:AV->Bool
 | .slice ..=>B4
 | .gslice ..=>B4
 | .eslice _=>B4
 |_=>B2
def Ez:AV->Bool
 | .nM=>B4
 |_=>B2
def isMap:AV->Bool
 | .map _=>B4
 |_=>B2
def Cc:AV->Bool
 | .nilf=>B4
 |_=>B2
def Rv:AV->Bool
 | .fn ..=>B4
 |_=>B2
def ED:AV->Bool
 | .nili=>B4
 |_=>B2
def isIface:AV->Bool
 | .iface ..=>B4
 |_=>B2
def yT(H:ar)(b b':Nat):Bool :=
 match H.get b,H.get b' with
 |some (.row _ _ (0,0) B4),B1 (.row (_::_) _ _ _)=>B4
 |some (.row (_::_) _ _ _),B1 (.row _ _ (0,0) B4)=>B4
 |_,_=>B2
def tg(op:BinOp)(k:OM)(a b:Int):Option AV :=
 cond (A7 b 0) B5 (match op with
  | .shl=>B1 (.int k (aj k (a*2 ^ (min b.toNat k.bits))))
  |_=>B1 (.int k (a.fdiv (2 ^ (min b.toNat k.bits)))))
def eB:BinOp->Bool
 | .shl| .shr=>B4
 |_=>B2
def IJ(H:ar):wM->AV->AV->Option Bool
 | .bool,.bool a,.bool b=>B1 (a == b)
 | .ptr,.nilp,.nilp=>B1 B4
 | .ptr,.nilp,.ptr _ _=>B1 B2
 | .ptr,.ptr _ _,.nilp=>B1 B2
 | .ptr,.ptr b o,.ptr b' o'=>cond (JW b b') (B1 (JW o o')) (cond (yT H b b') (B1 B2) B5)
 | .slice,x,y=>sE EA isSlice x y
 | .map,x,y=>sE Ez isMap x y
 | .func,x,y=>sE Cc Rv x y
 | .iface,x,y=>sE ED isIface x y
 | .ifaces f,.iface t a,.iface u b=>cond (JW t u) ((f t).bind λ q=>aY q a b) (B1 B2)
 | .ifaces _,.nili,.iface _ _=>B1 B2
 | .ifaces _,.iface _ _,.nili=>B1 B2
 | .agg t,x,y=>aY t x y
 |_,_,_=>B5
def nV(op:BinOp)(x y:AV):Option AV :=
 match x,y with
 | .int k a,.int k' b=>cond (eB op) (tg op k a b) (cond (sJ k k') (gK op k a b) B5)
 | .str a,.str b=>qT op a b
 |_,_=>B5
def I_(op:UnOp)(x:AV):Option AV :=
 match op,x with
 | .neg,.int k n=>B1 (.int k (aj k (0-n)))
 | .xor,.int k n=>gK .xor k (if k.signed then -1 else k.max) n
 | .not,.bool b=>B1 (.bool (!b))
 |_,_=>B5
def jH(cells:List AV):List (Nat×Nat)->List AV->Option (List AV)
 |[],[]=>B1 cells
 |(off,size)::ps,v::vs=>cond (JW (cV v.cells) size) ((putAt off v.cells cells).bind λ c=>jH c ps vs) B5
 |_,_=>B5
def fY(n:Nat)(z:List AV):List AV :=
 match n with
 |0=>[]
 |n+1=>kE z (fY n z)
def within(i:Int)(n:Nat):Option Nat:=match i with
 | .ofNat k=>cond (OO k n) (B1 k) B5
 | .negSucc _=>B5
def arg(vs:List AV):Option Nat->Option (Option AV)
 |none=>B1 B5
 |some i=>(nth vs i).bind λ v=>B1 (B1 v)
def bound(v:Option AV)(d mx:Nat):Option Nat :=
 match v with
 |none=>B1 d
 |some (.int _ (.ofNat i))=>cond (Nu i mx) (B1 i) B5
 |_=>B5
def dk(size:Nat)(x:AV)(lo hi mx:Option AV):Option AV :=
 match x with
 | .nils=>match mx with
  |none=>(bound hi 0 0).bind λ h=>(bound lo 0 h).bind λ _=>B1 .nils
  |some _=>B5
 | .slice b o n c=>match mx,hi with
  |some _,B5=>B5
  |mx,hi=>(bound mx c c).bind λ m=>(bound hi n m).bind λ h=>(bound lo 0 h).bind λ l =>
   B1 (.slice b (cond (JW m l) o (o+l*size)) (h-l) (m-l))
 | .gslice b i m s alt n =>
  cond (JW s size && Nu i m) (match mx,hi with
   |none,hi=>(bound hi n (m-i)).bind λ h=>(bound lo 0 h).bind λ l =>
    cond (Nu h (m-i)) (B1 (.gslice b (i+l) m s (cond (JW l 0) alt (i*s)) (h-l))) B5
   |some _,B5=>B5
   |mx,hi=>(bound mx 0 (m-i)).bind λ x=>(bound hi 0 x).bind λ h=>(bound lo 0 h).bind λ l =>
    cond (JW x l) B5 (B1 (.slice b ((i+l)*s) (h-l) (x-l)))) B5
 | .eslice b=>match mx with
  |none=>(bound hi 0 0).bind λ h=>(bound lo 0 h).bind λ _=>B1 (.eslice b)
  |some _=>B5
 |_=>B5
def eN:AV->Option Nat
 | .str s=>B1 (cV s)
 | .nils=>B1 0
 | .slice _ _ n _=>B1 n
 | .gslice _ _ _ _ _ n=>B1 n
 | .eslice _=>B1 0
 |_=>B5
def elemAt(size:Nat)(x:AV)(j:Nat):Option (Nat×Nat) :=
 match x with
 | .slice b o n _=>cond (OO j n) (B1 (b,o+j*size)) B5
 | .gslice b i m s _ n=>cond (OO j n && JW s size && OO (i+j) m) (B1 (b,i*s+j*s)) B5
 |_=>B5
def firstCells(H:ar)(size n:Nat)(x:AV):Option (List AV) :=
 match x with
 | .nils=>B1 []
 | .str s=>cond (JW size 1) (B1 ((s.take n).map λ b=>.int .u8 b.toNat)) B5
 | .slice b o _ _=>cond (JW n 0) (B1 []) (H.aq b o (n*size))
 | .gslice b i m s _ _=>cond (JW n 0) (B1 []) (cond (JW s size && OO i m) (H.aq b (i*s) (n*size)) B5)
 | .eslice _=>cond (JW n 0) (B1 []) B5
 |_=>B5
def eY(n:Int):AV:=.int .i64 n
def findKey(t:aT)(k:AV):List (AV×AV×Nat)->Nat->Option (Option (Nat×AV))
 |[],_=>B1 B5
 |(k',v,_)::es,i=>(aY t k k').bind λ q=>cond q (B1 (B1 (i,v))) (findKey t k es (i+1))
def IC(c:UInt8):List UInt8->Nat->Option Nat
 |[],_=>B5
 |x::l,i=>cond (C8 x c) (B1 i) (IC c l (i+1))
def xC(c:UInt8):List UInt8->Nat
 |[]=>0
 |x::l=>cond (C8 x c) (xC c l+1) (xC c l)
def byteOf:AV->Option UInt8
 | .int .u8 n=>B1 (BU n.toNat)
 |_=>B5
def bytesOf:List AV->Option (List UInt8)
 |[]=>B1 []
 |x::l=>(byteOf x).bind λ b=>(bytesOf l).bind λ r=>B1 (b::r)
def fits(n bytes:Nat):Bool:=Nu (n*bytes) 140737488355328 && Nu n 140737488355328
def dE(H:ar)(e size n:Nat)(cells:List AV)(fz:Nat×Nat):AV×ar :=
 (.gslice H.au 0 n size 0 n,H.alloc (.grown n size cells e fz))
def cS(H:ar)(e size bytes:Nat)(s:AV)(n:Nat)(new:List AV):Option (AV×ar) :=
 match s with
 | .nils=>cond (JW n 0) (B1 (.nils,H)) (cond (fits n bytes && OO 0 size) (B1 (dE H e size n new (0,0))) B5)
 | .slice b o len c =>
  cond (Nu (len+n) c)
   (cond (JW n 0) (B1 (.slice b o (len+n) c,H)) ((H.store b (o+len*size) new).bind λ H'=>B1 (.slice b o (len+n) c,H')))
   (cond (fits (len+n) bytes && Nu c (len+n) && OO 0 size)
    ((firstCells H size len (.slice b o len c)).bind λ old=>B1 (dE H e size (len+n) (kE old new) (0,0))) B5)
 | .gslice b i m sz alt len =>
  cond (JW n 0) (cond (Nu (i+len) m) (B1 (.gslice b i m sz alt len,H)) B5) (cond (JW sz size && Nu (i+len) m && OO 0 size)
   (cond (Nu (i+len+n) m)
    ((H.store b ((i+len)*size) new).bind λ H'=>B1 (.gslice b i m sz alt (len+n),H'))
    (cond (fits (len+n) bytes) (match H.get b with
     |some (.grown m' sz' c e' fz) =>
      cond (JW m m' && JW sz sz' && JW e' e)
       (cond (JW i 0 && JW len m && Nu fz.2 (m*size)) (B1 (dE (H.kill b) e size (len+n) (kE c new) fz)) (cond (Nu fz.2 (i*size))
        ((fZ c (i*size) (len*size)).bind λ old=>B1 (dE (H.kill b) e size (len+n) (kE old new) (cond (JW fz.1 fz.2) (0,0) (1,0))))
        (cond (JW i 0 && Nu fz.2 (len*size))
         ((fZ c 0 (len*size)).bind λ old=>B1 (dE (H.kill b) e size (len+n) (kE old new) fz)) B5))) B5
     |_=>B5) B5)) B5)
 |_=>B5
namespace Op
def fail:List AV->Option AV:=λ _=>B5
def move:List AV->Option AV
 |[v]=>B1 v
 |_=>B5
def pick:List AV->Option AV
 |[.bool q,a,b]=>B1 (cond q a b)
 |_=>B5
def build(zero:List AV)(places:List (Nat×Nat))(vs:List AV):Option AV :=
 (jH zero places vs).bind λ c=>B1 (.agg c)
def nilCheck:List AV->Option AV
 |[.nilp]|[.nili]|[.nilf]=>B5
 |[.fn (.func f) a b]=>B1 (.fn (.func f) a b)
 |[.fn _ _ _]=>B5
 |[v]=>B1 v
 |_=>B5
def bin(op:BinOp):List AV->Option AV
 |[x,y]=>nV op x y
 |_=>B5
def eq(t:wM)(neg:Bool):List AV->ar->Option AV
 |[x,y],H=>(IJ H t x y).bind λ q=>B1 (.bool (cond neg (!q) q))
 |_,_=>B5
def un(op:UnOp):List AV->Option AV
 |[x]=>I_ op x
 |_=>B5
def wrap(k:OM):List AV->Option AV
 |[.int _ n]=>B1 (.int k (aj k n))
 |_=>B5
def dS:List AV->Option AV
 |[.int _ n]=>cond (vK 0 n && A7 n 128) (B1 (.str [BU n.toNat])) B5
 |_=>B5
def eQ:List AV->Option AV
 |[.str s]=>B1 (.str s)
 |_=>B5
def dJ(t:Nat):List AV->Option AV
 |[v]=>B1 (.iface t v)
 |_=>B5
def bK(f nf:Nat)(l:List AV):Option AV:=B1 (.fn (.func f) (l.take nf) (l.drop nf))
def dQ:List (Option Nat)->List AV->Option AV
 |[lo,hi],.str s::vs =>
  (arg vs hi).bind λ b=>(arg vs lo).bind λ a=>(bound b s.length s.length).bind λ h=>(bound a 0 h).bind λ l=>B1 (.str ((s.take h).drop l))
 |_,_=>B5
def aA(size:Nat):List (Option Nat)->List AV->Option AV
 |[lo,hi,mx],x::vs=>(arg vs lo).bind λ a=>(arg vs hi).bind λ b=>(arg vs mx).bind λ m=>dk size x a b m
 |_,_=>B5
def cT(n size:Nat):List (Option Nat)->List AV->Option AV
 |[lo,hi,mx],.ptr p o::vs=>(arg vs lo).bind λ a=>(arg vs hi).bind λ b=>(arg vs mx).bind λ m=>dk size (.slice p o n n) a b m
 |_,_=>B5
def fieldAddr(off:Nat):List AV->Option AV
 |[.ptr b o]=>B1 (.ptr b (o+off))
 |_=>B5
def field(off:Nat)(n:Option Nat):List AV->Option AV
 |[.agg l]=>partAt l off n
 |_=>B5
def aR(size:Nat):List AV->Option AV
 |[x,.int _ j]=>(eN x).bind λ n=>(within j n).bind λ k=>(elemAt size x k).bind λ p=>B1 (.ptr p.1 p.2)
 |_=>B5
def aV(len size:Nat):List AV->Option AV
 |[.ptr b o,.int _ j]=>(within j len).bind λ k=>B1 (.ptr b (o+k*size))
 |_=>B5
def bF(len size:Nat)(n:Option Nat):List AV->Option AV
 |[.agg l,.int _ j]=>(within j len).bind λ k=>partAt l (k*size) n
 |_=>B5
def bQ:List AV->Option AV
 |[.str s,.int _ j]=>(within j s.length).bind λ k=>(nth s k).bind λ b=>B1 (.int .u8 b.toNat)
 |_=>B5
def typeAssert(t:Nat)(ok:Bool)(zero:AV):List AV->Option AV
 |[.nili]=>cond ok (B1 (.tuple [zero,.bool B2])) B5
 |[.iface u v]=>cond (JW u t) (B1 (cond ok (.tuple [v,.bool B4]) v)) (cond ok (B1 (.tuple [zero,.bool B2])) B5)
 |_=>B5
def extract(i:Nat):List AV->Option AV
 |[.tuple l]=>nth l i
 |_=>B5
def fF:List AV->Option AV
 |[.str s]=>B1 (eY (cV s))
 |_=>B5
def cG:List AV->Option AV
 |[.nils]=>B1 (eY 0)
 |[.slice _ _ n _]=>B1 (eY n)
 |[.gslice _ _ _ _ _ n]=>B1 (eY n)
 |[.eslice _]=>B1 (eY 0)
 |_=>B5
def oT(n:Nat):List AV->Option AV
 |[_]=>B1 (eY n)
 |_=>B5
def cap:List AV->Option AV
 |[.nils]=>B1 (eY 0)
 |[.slice _ _ _ c]=>B1 (eY c)
 |_=>B5
def iJ(mx:Bool):Int->List AV->Option Int
 |a,[]=>B1 a
 |a,.int _ b::l=>iJ mx (cond mx (cond (A7 a b) b a) (cond (A7 b a) b a)) l
 |_,_=>B5
def fg(mx:Bool):List AV->Option AV
 | .int k a::l=>(iJ mx a l).bind λ r=>B1 (.int k r)
 |_=>B5
def dq:List AV->Option AV
 |[.nils]=>B1 .nilp
 |[.slice b o _ c]=>cond (JW c 0) B5 (B1 (.ptr b o))
 |[.gslice b i m s _ _]=>cond (OO i m) (B1 (.ptr b (i*s))) B5
 |_=>B5
def dT:List AV->Option AV
 |[x]=>B1 x
 |_=>B5
def aF:List AV->Option AV
 |[.str s,.int .u8 c]=>B1 (eY (match IC (BU c.toNat) s 0 with|some i=>i|none=>-1))
 |_=>B5
def bU:List AV->Option AV
 |[.str s,.int .u8 c]=>B1 (eY (Int.ofNat (xC (BU c.toNat) s)))
 |_=>B5
def ae:List AV->ar->Option AV
 |[.ptr b o],H=>H.ae b o
 |_,_=>B5
def aq(n:Nat):List AV->ar->Option AV
 |[.ptr b o],H=>(H.aq b o n).bind λ l=>B1 (.agg l)
 |_,_=>B5
def cN:List AV->ar->Option AV
 |[.str _],_=>B5
 |[v],H=>(eN v).bind λ n=>(firstCells H 1 n v).bind λ l=>(bytesOf l).bind λ s=>B1 (.str s)
 |_,_=>B5
def lookup(key:aT)(zero:AV)(ok:Bool):List AV->ar->Option AV
 |[.nM,k],_=>cond (dh key k) (B1 (cond ok (.tuple [zero,.bool B2]) zero)) B5
 |[.map b,k],H=>cond (dh key k) ((H.fC b).bind λ m=>(findKey key k m.1 0).bind λ r=>match r with
  |some p=>B1 (cond ok (.tuple [p.2,.bool B4]) p.2)
  |none=>B1 (cond ok (.tuple [zero,.bool B2]) zero)) B5
 |_,_=>B5
def gO:List AV->ar->Option AV
 |[.nM],_=>B1 (eY 0)
 |[.map b],H=>(H.fC b).bind λ m=>B1 (eY m.1.length)
 |_,_=>B5
def eU(lies:Nat->Nat->Nat->Bool):List AV->ar->Option AV
 |[.nilp],_=>B1 .nilp
 |[.ptr b o],H=>match H.get b with
  |some (.row c e _ B4)=>cond (lies e c.length o) (B1 (.ptr b o)) B5
  |_=>B5
 |_,_=>B5
def ptrTo(b:Nat):AV:=.ptr b 0
def alloc(e:Nat)(zero:List AV):List AV->Option (bE×(Nat->AV))
 |[]=>B1 (.row zero e (0,0) B4,ptrTo)
 |_=>B5
def box(e:Nat):List AV->Option (bE×(Nat->AV))
 |[v]=>B1 (.row v.cells e (0,0) B4,ptrTo)
 |_=>B5
def sliceTo(n m:Nat)(b:Nat):AV:=.slice b 0 n m
def buildSlice(e n:Nat)(zero:List AV)(places:List (Nat×Nat))(vs:List AV):Option (bE×(Nat->AV)) :=
 (jH (fY n zero) places vs).bind λ c=>B1 (.row c e (0,0) B4,sliceTo n n)
def mkMap:List AV->Option (bE×(Nat->AV))
 |[]=>B1 (.map [] 0,.map)
 |_=>B5
def mkSlice(e bytes:Nat)(zero:List AV):List AV->Option (bE×(Nat->AV))
 |[.int _ n,.int _ m]=>cond (vK 0 n && vK n m && vK (m*bytes) 140737488355328 && vK m 140737488355328)
  (B1 (.row (fY m.toNat zero) e (0,0) B4,sliceTo n.toNat m.toNat)) B5
 |_=>B5
def _g(m n:Nat)(b:Nat):AV:=.gslice b 0 m 1 0 n
def cM(e:Nat):List AV->Option (bE×(Nat->AV))
 |[.str s]=>cond (Nu s.length 140737488355328) (B1 (.grown s.length 1 (s.map λ b=>.int .u8 b.toNat) e (1,0),_g s.length s.length)) B5
 |_=>B5
def dV:List AV->Option (bE×(Nat->AV))
 |[.str s]=>B1 (.mz s 0,ptrTo)
 |_=>B5
def makeNoZero(e:Nat):List AV->Option (bE×(Nat->AV))
 |[.int .i64 n]=>cond (vK 0 n && vK n 140737488355328) (B1 (.grown 0 1 [] e (0,0),_g 0 n.toNat)) B5
 |_=>B5
def store(n:Nat):List AV->ar->Option (AV×ar)
 |[.ptr b o,v],H=>cond (JW (cV v.cells) n) ((H.store b o v.cells).bind λ H'=>B1 (.undef,H')) B5
 |_,_=>B5
def uV:AV->AV->Bool
 | .int k a,.int k' b=>sJ k k' && ux a b
 | .str a,.str b=>A4 a b
 | .bool a,.bool b=>a == b
 |_,_=>B2
def fp:List AV->List AV->Bool
 |[],[]=>B4
 |a::x,b::y=>cond (uV a b) (fp x y) B2
 |_,_=>B2
def stays:AV->AV->Bool
 | .agg a,.agg b=>fp a b
 |a,b=>uV a b
def mapUpdate(key:aT):List AV->ar->Option (AV×ar)
 |[.map b,k,v],H=>cond (dh key k) ((H.fC b).bind λ m=>(findKey key k m.1 0).bind λ r=>match r with
  |some p=>(nth m.1 p.1).bind λ e=>cond (stays e.1 k) (B1 (.undef,H.set b (.map (m.1.modify p.1 λ e=>(k,v,e.2.2)) m.2))) B5
  |none=>B1 (.undef,H.set b (.map (m.1 ++ [(k,v,m.2)]) (m.2+1)))) B5
 |_,_=>B5
def dt(key:aT):List AV->ar->Option (AV×ar)
 |[.nM,k],H=>cond (dh key k) (B1 (.tuple [],H)) B5
 |[.map b,k],H=>cond (dh key k) ((H.fC b).bind λ m=>(findKey key k m.1 0).bind λ r=>match r with
  |some p=>B1 (.tuple [],H.set b (.map (m.1.eraseIdx p.1) m.2))
  |none=>B1 (.tuple [],H.set b (.map m.1 m.2))) B5
 |_,_=>B5
def eT:List AV->ar->Option (AV×ar)
 |[.ptr b 0],H=>match H.get b with
  |some (.mz s p)=>match nth s p with
   |some c=>cond (OO c.toNat 128) (B1 (.tuple [.bool B4,eY p,.int .i32 c.toNat],H.set b (.mz s (p+1)))) B5
   |none=>B1 (.tuple [.bool B2],H)
  |_=>B5
 |_,_=>B5
def append(e size bytes:Nat):List AV->ar->Option (AV×ar)
 |[a,b],H=>(eN b).bind λ n=>(firstCells H size n b).bind λ new=>cond (aL new) (cS H e size bytes a n new) B5
 |_,_=>B5
def copy(size:Nat):List AV->ar->Option (AV×ar)
 |[.str _,_],_=>B5
 |[d,r],H=>(eN d).bind λ dn=>(eN r).bind λ rn=>(firstCells H size (min rn dn) r).bind λ l =>
  cond (JW (min rn dn) 0) (B1 (eY 0,H)) ((elemAt size d 0).bind λ p=>(H.store p.1 p.2 l).bind λ H'=>B1 (eY (min rn dn),H'))
 |_,_=>B5
def bS(zero:List AV):List AV->ar->Option (AV×ar)
 |[.str _],_=>B5
 |[x],H=>(eN x).bind λ n=>cond (JW n 0) (B1 (.tuple [],H))
  ((elemAt zero.length x 0).bind λ p=>(H.store p.1 p.2 (fY n zero)).bind λ H'=>B1 (.tuple [],H'))
 |_,_=>B5
def bW:List AV->ar->Option (AV×ar)
 |[.nM],H=>B1 (.tuple [],H)
 |[.map b],H=>(H.fC b).bind λ m=>B1 (.tuple [],H.set b (.map [] m.2))
 |_,_=>B5
def mW(fz:Nat×Nat)(o n:Nat):Nat×Nat:=cond (JW fz.1 fz.2) (o,o+n) (min fz.1 o,max fz.2 (o+n))
def eR:List AV->ar->Option (AV×ar)
 |[.slice b o n c],H=>match H.get b with
  |some (.row cs e fz B4)=>B1 (.slice b o n c,H.set b (.row cs e (mW fz (cV cs) 1) B4))
  |_=>B5
 |_,_=>B5
def dR(u:Nat):List AV->ar->Option (AV×ar)
 |[.nilp,.int _ k],H=>cond (ux k 0) (B1 (.str [],H)) B5
 |[.ptr b o,.int _ k],H=>cond (ux k 0) (B1 (.str [],H)) (cond (A7 k 0 ||A7 140737488355328 k) B5 (match H.get b with
  |some (.row c e fz B4)=>cond (JW e u) ((fZ c o k.toNat).bind λ l=>(bytesOf l).bind λ s=>B1 (.str s,H.set b (.row c e (mW fz o k.toNat) B4))) B5
  |some (.grown m z c e fz)=>cond (JW e u && Nu fz.1 fz.2) ((fZ c o k.toNat).bind λ l=>(bytesOf l).bind λ s=>B1 (.str s,H.set b (.grown m z c e (mW fz o k.toNat)))) B5
  |_=>B5))
 |_,_=>B5
end Op
inductive fP where
 |pure (f:List AV->Option AV)
 |read (f:List AV->ar->Option AV)
 |alloc (f:List AV->Option (bE×(Nat->AV)))
 |gT (f:List AV->ar->Option (AV×ar))
 |ij (f:Nat)
 |iq
 |invoke (name:String)
 |recover
 |defer
 |panic
structure aP where
 iB:Bool
 dst:Option Nat
 guard:Option (Nat×Bool)
 args:List bM
 op:fP
 cP:Option (List Nat)
inductive ai where
 |skip
 |region (steps:List aP)
 |seq (a b:ai)
 |cond (c:bM) (thn els:ai)
 |block (id:Nat) (body:ai)
 |loop (ah:Option (List Nat)) (body:ai)
 |rangeFunc (f:bM) (k:Nat)
 |exit (id:Nat)
 |scope (body:ai)
 |label (l:Nat)
 |goto (l:Nat)
 |ret
 |stuck
instance:Inhabited ai:=⟨.skip⟩
structure dZ where
 params:List Nat
 assign:ai
 body:ai
structure cj where
 results:List eE
 body:ai
 loops:List dZ
structure jW where
 func:Nat->Option cj
 kI:Nat->String->Option Nat
abbrev aI:=List (AV×Bool)
structure St where
 tm:T AV
 aZ:List aN
 up:Option aI
 H:ar
inductive aX where
 |normal
 |exit (id:Nat)
 |goto (l:Nat)
 |ret
 |panic (chain:aI)
inductive bP where
 |ret (v:AV)
 |panic (chain:aI)
abbrev b9:=Nat->List AV->Option aI->ar->Option (bP×Option aI×ar)
structure Ctx where
 round:Option Nat
 fn:Nat
end
end Go.Am
namespace Go.Am
noncomputable section
def Li:T AV->List Nat->List AV->Option (T AV)
 |tm,[],[]=>B1 tm
 |tm,p::ps,v::vs=>Li (tm.set p v) ps vs
 |_,_,_=>B5
def jY:Nat->List AV->T AV->T AV
 |_,[],t=>t
 |i,v::vs,t=>jY (i+1) vs (t.set i v)
def kS:aX->Option ik
 | .exit id=>B1 (.exit id)
 | .goto l=>B1 (.goto l)
 | .ret=>B1 .ret
 |_=>B5
def rO:Option ik->aX
 |none=>.normal
 |some (.exit id)=>.exit id
 |some (.goto l)=>.goto l
 |some .ret=>.ret
def Ap:aX->Bool
 | .normal=>B4
 |_=>B2
def VM(tm:T AV):List Nat->T AV->T AV
 |[],acc=>acc
 |k::ks,acc=>VM tm ks (acc.put k (tm.get k))
def forget:List Nat->T AV->T AV
 |[],t=>t
 |d::ds,t=>forget ds (t.put d B5)
def eM(dst:Option Nat)(v:AV)(tm:T AV):T AV :=
 match dst with
 |some d=>tm.set d v
 |none=>tm
structure VS where
 run:AV->T AV->T AV
def lW:Option Nat->VS
 |some d=>⟨λ v tm=>(T.CO (T.path d)).run (B1 v) tm⟩
 |none=>⟨λ _ tm=>tm⟩
abbrev gY:=Option (aX×St)
def gV(ah:Option (List Nat))(body:St->gY):Nat->St->gY
 |0,_=>B5
 |n+1,st =>
  (body (match ah with|none=>st|some ks=>{st with tm:=VM st.tm ks .nil})).bind λ r=>match r.1 with
   | .normal=>gV ah body n r.2
   |e=>B1 (e,r.2)
def FF:ai->Nat->Bool
 | .seq a b,l=>FF a l ||FF b l
 | .label l',l=>JW l' l
 |_,_=>B2
mutual
def cF:AV->AV->Bool
 | .bool a,.bool b=>a == b
 | .int k a,.int k' b=>sJ k k' && ux a b
 | .str a,.str b=>A4 a b
 | .nilp,.nilp=>B4
 | .ptr a b,.ptr c d=>JW a c && JW b d
 | .nils,.nils=>B4
 | .slice a b c d,.slice a' b' c' d'=>JW a a' && JW b b' && JW c c' && JW d d'
 | .gslice a b c d e f,.gslice a' b' c' d' e' f'=>JW a a' && JW b b' && JW c c' && JW d d' && JW e e' && JW f f'
 | .eslice a,.eslice b=>JW a b
 | .nM,.nM=>B4
 | .map a,.map b=>JW a b
 | .nilf,.nilf=>B4
 | .nili,.nili=>B4
 | .fn (.func f) x a,.fn (.func g) y b=>JW f g && fp x y && fp a b
 | .fn (.yield f) x a,.fn (.yield g) y b=>JW f g && fp x y && fp a b
 | .iface t a,.iface u b=>JW t u && cF a b
 | .agg a,.agg b=>fp a b
 | .tuple a,.tuple b=>fp a b
 |_,_=>B2
def fp:List AV->List AV->Bool
 |[],[]=>B4
 |x::xs,y::ys=>cF x y && fp xs ys
 |_,_=>B2
end
abbrev iW:=List AV->Nat->ar->Option (bP×ar)
structure RT where
 AP:jW
 call:b9
 round:iW
 n:Nat
 ctx:Ctx
def dg(call:b9)(round:iW)(f:mE)(args:List AV)(H:ar):Option (bP×ar) :=
 match f with
 | .func g=>(call g args B5 H).bind λ r=>B1 (r.1,r.2.2)
 | .yield l=>round args l H
def fR(put:AV->T AV->T AV)(cP:Option (List Nat))(st:St)(k:St->gY)(r:bP×ar):gY :=
 match r.1 with
 | .ret v=>k ⟨put v st.tm,st.aZ,st.up,r.2⟩
 | .panic c=>cP.bind λ ds=>B1 (.panic c,⟨forget ds st.tm,st.aZ,st.up,r.2⟩)
def PI(put:AV->T AV->T AV)(st:St):St :=
 match st.up with
 |some ((v,B2)::older)=>⟨put v st.tm,st.aZ,B1 ((v,B4)::older),st.H⟩
 |_=>⟨put .nili st.tm,st.aZ,st.up,st.H⟩
def EP(f:List AV->Option AV)(put:AV->T AV->T AV)(st:St)(k:St->gY)(vs:List AV):gY :=
 (f vs).bind λ v=>k ⟨put v st.tm,st.aZ,st.up,st.H⟩
def Ds(f:List AV->ar->Option AV)(put:AV->T AV->T AV)(st:St)(k:St->gY)(vs:List AV):gY :=
 (f vs st.H).bind λ v=>k ⟨put v st.tm,st.aZ,st.up,st.H⟩
def wG(f:List AV->Option (bE×(Nat->AV)))(put:AV->T AV->T AV)(st:St)(k:St->gY)(vs:List AV):gY :=
 (f vs).bind λ r=>k ⟨put (r.2 st.H.au) st.tm,st.aZ,st.up,st.H.alloc r.1⟩
def Lp(f:List AV->ar->Option (AV×ar))(put:AV->T AV->T AV)(st:St)(k:St->gY)(vs:List AV):gY :=
 (f vs st.H).bind λ r=>k ⟨put r.1 st.tm,st.aZ,st.up,r.2⟩
def El(f:Nat)(rt:RT)(put:AV->T AV->T AV)(cP:Option (List Nat))(st:St)(k:St->gY)(vs:List AV):gY :=
 (dg rt.call rt.round (.func f) vs st.H).bind λ r=>fR put cP st k r
def Bf(rt:RT)(put:AV->T AV->T AV)(cP:Option (List Nat))(st:St)(k:St->gY)(vs:List AV):gY :=
 match vs with
 | .fn (.func f) first cap::args=>(dg rt.call rt.round (.func f) (first++(args++cap)) st.H).bind λ r=>fR put cP st k r
 | .fn (.yield l) first []::args=>(dg rt.call rt.round (.yield l) (first++args) st.H).bind λ r=>fR put cP st k r
 |_=>B5
def ti(name:String)(rt:RT)(put:AV->T AV->T AV)(cP:Option (List Nat))(st:St)(k:St->gY)(vs:List AV):gY :=
 match vs with
 | .iface t v::args=>(rt.AP.kI t name).bind λ f=>(dg rt.call rt.round (.func f) (v::args) st.H).bind λ r=>fR put cP st k r
 |_=>B5
def SF(rt:RT)(put:AV->T AV->T AV)(st:St)(k:St->gY)(vs:List AV):gY :=
 match rt.ctx.round with
 |some _=>B5
 |none=>match vs with
  |[]=>k (PI put st)
  |_=>B5
def wD(rt:RT)(put:AV->T AV->T AV)(st:St)(k:St->gY)(vs:List AV):gY :=
 match rt.ctx.round with
 |some _=>B5
 |none=>match vs with
  | .fn (.func f) first cap::args=>k ⟨put .undef st.tm,.fn (.func f) (first++(args++cap))::st.aZ,st.up,st.H⟩
  |_=>B5
def wC(put:AV->T AV->T AV)(cP:Option (List Nat))(st:St)(k:St->gY)(vs:List AV):gY :=
 match vs with
 |[.iface t v]=>fR put cP st k (.panic [(.iface t v,B2)],st.H)
 |_=>B5
structure OpC where
 run:RT->St->(St->gY)->List AV->gY
def rB(put:AV->T AV->T AV)(cP:Option (List Nat)):fP->OpC
 | .pure f=>⟨λ _ st k vs=>EP f put st k vs⟩
 | .read f=>⟨λ _ st k vs=>Ds f put st k vs⟩
 | .alloc f=>⟨λ _ st k vs=>wG f put st k vs⟩
 | .gT f=>⟨λ _ st k vs=>Lp f put st k vs⟩
 | .ij f=>⟨λ rt st k vs=>El f rt put cP st k vs⟩
 | .iq=>⟨λ rt st k vs=>Bf rt put cP st k vs⟩
 | .invoke name=>⟨λ rt st k vs=>ti name rt put cP st k vs⟩
 | .recover=>⟨λ rt st k vs=>SF rt put st k vs⟩
 | .defer=>⟨λ rt st k vs=>wD rt put st k vs⟩
 | .panic=>⟨λ _ st k vs=>wC put cP st k vs⟩
def rk(get:T AV->Option AV)(st:St)(vs:List AV):fP->Bool
 | .read f=>match f vs st.H,get st.tm with
  |some v,B1 v'=>cF v v'
  |_,_=>B2
 |_=>B2
def cX(b:Bool):Option AV->Option Bool
 |some (.bool q)=>B1 (cond q b (!b))
 |some (.tuple [])=>B1 B2
 |_=>B5
structure Om where
 run:RT->(St->gY)->St->gY
def gZ(s:aP):Om :=
 match s.iB with
 |false=>match s.guard with
  |none=>⟨λ rt k st=>((vH s.args).run st.tm).bind λ vs=>(rB (lW s.dst).run s.cP s.op).run rt st k vs⟩
  |some g=>⟨λ rt k st=>(cX g.2 ((T.oK (T.path g.1)).run st.tm)).bind λ w =>
   cond w (((vH s.args).run st.tm).bind λ vs=>(rB (lW s.dst).run s.cP s.op).run rt st k vs) (k ⟨(lW s.dst).run .undef st.tm,st.aZ,st.up,st.H⟩)⟩
 |true=>match s.guard,s.dst with
  |none,B1 d=>⟨λ _ k st=>((vH s.args).run st.tm).bind λ vs=>cond (rk (T.oK (T.path d)).run st vs s.op) (k st) B5⟩
  |some g,B1 d=>⟨λ _ k st=>(cX g.2 ((T.oK (T.path g.1)).run st.tm)).bind λ w =>
   cond w (((vH s.args).run st.tm).bind λ vs=>cond (rk (T.oK (T.path d)).run st vs s.op) (k st) B5) (k st)⟩
  |_,B5=>⟨λ _ _ _=>B5⟩
structure Je where
 run:RT->St->gY
def ic:List aP->Je
 |[]=>⟨λ _ st=>B1 (.normal,st)⟩
 |s::rest=>⟨λ rt st=>(gZ s).run rt ((ic rest).run rt) st⟩
def da(H:ar)(l:Nat)(s:ng)(p:Option ik):Option ar :=
 match H.get l with
 |some (.loop _ _ f k tm d)=>B1 (H.set l (.loop s p f k tm d))
 |_=>B5
def Cs(H:ar)(l:Nat):Option Nat :=
 match H.get l with
 |some (.loop _ _ _ _ _ d)=>B1 d
 |_=>B5
def Nt(st:St)(aZ:List aN)(l:Nat)(e:bP)(H:ar):gY :=
 match e with
 | .panic c=>B1 (.panic c,{st with aZ:=aZ,H:=H})
 | .ret _=>match H.get l with
  |some (.loop .busy _ _ _ _ _)=>B5
  |some (.loop _ p f k tm d)=>B1 (rO p,{st with aZ:=aZ,H:=H.set l (.loop .exhausted p f k tm d)})
  |_=>B5
def jJ(call:b9)(round:iW)(ctx:Ctx)(st:St)(k:Nat)(H0:ar)(aZ:List aN)(d:Nat):AV->gY
 | .fn (.func g) first cap =>
  (dg call round (.func g) (first++(.fn (.yield H0.au) [] []::cap)) (H0.alloc (.loop .ready B5 ctx.fn k st.tm d))).bind λ r =>
   Nt st aZ H0.au r.1 r.2
 |_=>B5
def uO(next:RT->St->gY)(rt:RT)(r:aX×St):gY :=
 match r.1 with
 | .normal=>next rt r.2
 |e=>B1 (e,r.2)
def uz(a b:RT->St->gY)(rt:RT)(st:St)(v:AV):gY :=
 match v with
 | .bool q=>cond q (a rt st) (b rt st)
 |_=>B5
def kJ(id:Nat)(r:aX×St):gY :=
 match r.1 with
 | .exit id'=>B1 (cond (JW id id') .normal (.exit id'),r.2)
 |e=>B1 (e,r.2)
def mq(b:ai)(r:aX×St):gY :=
 match r.1 with
 | .goto l=>cond (FF b l) B5 (B1 (.goto l,r.2))
 |e=>B1 (e,r.2)
def ri(rt:RT)(k:Nat)(st:St)(v:AV):gY :=
 match rt.ctx.round with
 |none=>jJ rt.call rt.round rt.ctx st k (st.H.alloc (.deferred (B1 []))) (.jC st.H.au::st.aZ) st.H.au v
 |some l=>(Cs st.H l).bind λ d=>jJ rt.call rt.round rt.ctx st k st.H st.aZ d v
def bH:ai->Je
 | .skip=>⟨λ _ st=>B1 (.normal,st)⟩
 | .label _=>⟨λ _ st=>B1 (.normal,st)⟩
 | .region steps=>ic steps
 | .seq a b=>⟨λ rt st=>((bH a).run rt st).bind (uO (bH b).run rt)⟩
 | .cond c a b=>⟨λ rt st=>((Nh c).run st.tm).bind (uz (bH a).run (bH b).run rt st)⟩
 | .block id b=>⟨λ rt st=>((bH b).run rt st).bind (kJ id)⟩
 | .loop ah b=>⟨λ rt st=>gV ah ((bH b).run rt) rt.n st⟩
 | .exit id=>⟨λ _ st=>B1 (.exit id,st)⟩
 | .goto l=>⟨λ _ st=>B1 (.goto l,st)⟩
 | .ret=>⟨λ _ st=>B1 (.ret,st)⟩
 | .stuck=>⟨λ _ _=>B5⟩
 | .scope b=>⟨λ rt st=>((bH b).run rt st).bind (mq b)⟩
 | .rangeFunc f k=>⟨λ rt st=>((Nh f).run st.tm).bind (ri rt k st)⟩
def exec(AP:jW)(call:b9)(round:iW)(n:Nat)(ctx:Ctx)(c:ai)(st:St):gY:=(bH c).run ⟨AP,call,round,n,ctx⟩ st
def GN(l:Nat)(r:aX×St):Option (bP×ar) :=
 match r.1 with
 | .panic c=>B1 (.panic c,r.2.H)
 |e=>(da r.2.H l (cond (Ap e) .ready .done) (kS e)).bind λ H=>B1 (.ret (.bool (Ap e)),H)
def beginRound(H:ar)(l:Nat):Option ar :=
 match H.get l with
 |some (.loop .ready p f k tm d)=>B1 (H.set l (.loop .busy p f k tm d))
 |_=>B5
def roundOf(AP:jW)(ex:Ctx->ai->St->gY)(args:List AV)(l:Nat)(H:ar):Option (bP×ar) :=
 match H.get l with
 |some (.loop _ _ f k tm _) =>
  (AP.func f).bind λ fn=>(nth fn.loops k).bind λ lp=>(Li tm lp.params args).bind λ tm1 =>
  (ex ⟨B1 l,f⟩ lp.assign {tm:=tm1,aZ:=[],up:=B5,H:=H}).bind λ r=>match r.1 with
   | .normal=>(beginRound r.2.H l).bind λ H2=>(ex ⟨B1 l,f⟩ lp.body {r.2 with H:=H2}).bind λ q=>cond (noDefs q.2.aZ) (GN l q) B5
   |_=>B5
 |_=>B5
 where noDefs:List aN->Bool
 |[]=>B4
 |_=>B2
def Nk(H:ar)(tm:T AV):eE->Option AV
 | .tmp t=>tm.get t
 | .kT a=>(tm.get a).bind λ v=>match v with| .ptr b o=>H.ae b o|_=>B5
 | .de n a=>(tm.get a).bind λ v=>match v with| .ptr b o=>(H.aq b o n).bind λ l=>B1 (.agg l)|_=>B5
def eD(H:ar)(tm:T AV):List eE->Option (List AV)
 |[]=>B1 []
 |r::rs=>(Nk H tm r).bind λ v=>(eD H tm rs).bind λ vs=>B1 (v::vs)
def jK:List AV->AV
 |[v]=>v
 |l=>.tuple l
def nH(m:Option aI)(up:aI):Option (Option aI) :=
 match m,up with
 |none,[]=>B1 B5
 |some _,(_,B4)::_=>B1 B5
 |some _,(v,B2)::c=>B1 (B1 ((v,B2)::c))
 |_,_=>B5
def cz(call:b9)(rs:List eE)(tm:T AV):List aN->Option aI->ar->Option (bP×ar)
 |[],B5,H=>(eD H tm rs).bind λ l=>B1 (.ret (jK l),H)
 |[],B1 c,H=>B1 (.panic c,H)
 | .jC b::ds,m,H=>match H.get b with
  |some (.deferred (B1 []))=>cz call rs tm ds m (H.set b (.deferred B5))
  |_=>B5
 | .fn (.func f) args::ds,m,H=>(call f args (B1 (m.getD [])) H).bind λ r =>
  match r.1,r.2.1 with
  | .ret _,B1 up'=>(nH m up').bind λ m'=>cz call rs tm ds m' r.2.2
  |_,_=>B5
 | .fn (.yield _) _::_,_,_=>B5
def qC(call:b9)(fn:cj)(r:aX×St):Option (bP×Option aI×ar) :=
 let fin (m:Option aI):Option (bP×Option aI×ar):=(cz call fn.results r.2.tm r.2.aZ m r.2.H).bind λ q=>B1 (q.1,r.2.up,q.2)
 match r.1 with
 | .normal=>fin B5
 | .ret=>fin B5
 | .panic c=>fin (B1 c)
 |_=>B5
def rounds(AP:jW)(call:b9)(m:Nat):Nat->iW
 |0=>λ _ _ _=>B5
 |n+1=>roundOf AP (exec AP call (rounds AP call m n) m)
def Gh(AP:jW)(call:b9)(n:Nat):b9:=λ f args up H =>
 (AP.func f).bind λ fn =>
  (exec AP call (rounds AP call n n) n ⟨B5,f⟩ fn.body {tm:=jY 0 args .nil,aZ:=[],up:=up,H:=H}).bind λ r =>
   qC call fn r
def Es(AP:jW):Nat->b9
 |0=>λ _ _ _ _=>B5
 |n+1=>Gh AP (Es AP n) n
def nA(AP:jW)(told:b9):Nat->b9
 |0=>told
 |n+1=>λ f args up H=>match told f args up H with
  |some r=>B1 r
  |none=>Gh AP (nA AP told n) n f args up H
end
end Go.Am
namespace Go.Am
noncomputable section
mutual
def gA:K1->Option AV
 | .bool b=>B1 (.bool b)
 | .int k n=>B1 (.int k n)
 | .string s=>B1 (.str s.data.toList)
 | .pointer B5=>B1 .nilp
 | .slice B5 0 0=>B1 .nils
 | .map B5=>B1 .nM
 | .nilFunc=>B1 .nilf
 | .nilIface=>B1 .nili
 | .iface t v=>(gA v).bind λ x=>B1 (.iface t x)
 | .agg cs=>(nP cs.toList).bind λ l=>B1 (.agg l)
 | .tuple cs=>(nP cs.toList).bind λ l=>B1 (.tuple l)
 |_=>B5
def nP:List K1->Option (List AV)
 |[]=>B1 []
 |v::vs=>(gA v).bind λ x=>(nP vs).bind λ xs=>B1 (x::xs)
end
def rz(G:Nat):M7->Option bM
 | .tmp t=>B1 (.tmp t)
 | .const v=>(gA v).bind λ x=>B1 (.const x)
 | .global g=>if OO g G then B1 (.eO g)else B5
 | .func f=>B1 (.func f)
def og(G:Nat):List M7->Option (List bM)
 |[]=>B1 []
 |x::xs=>(rz G x).bind λ y=>(og G xs).bind λ ys=>B1 (y::ys)
def zeroOf(P:Jl)(t:Lx):Option AV:=((P.info? t).bind (·.zero)).bind gA
def bV(P:Jl)(t:Lx):Option Nat:=(P.info? t).bind λ i=>B1 i.size
def nC(P:Jl)(t:Lx):Option Nat:=(P.info? t).bind λ i=>B1 i.bytes
def nG(P:Jl)(t:Lx):Option (Option Nat) :=
 match P.underlying t with
 |some (.struct _)|some (.array _ _)=>(bV P t).bind λ n=>B1 (B1 n)
 |some _=>B1 B5
 |none=>B5
def dH(P:Jl):Nat->Lx->Option aT
 |0,_=>B5
 |d+1,t=>match P.underlying t with
  |some (.int _)=>B1 .int
  |some .string=>B1 .str
  |some .bool=>B1 .bool
  |some (.struct fs)=>if P.stoodInHeld t then B5 else fieldsT (dH P d) fs.toList
  |some (.array n e)=>(bV P e).bind λ s=>(nG P e).bind λ a=>(dH P d e).bind λ q=>B1 (itemsT s a q n 0)
  |_=>B5
 where
 fieldsT (go:Lx->Option aT):List Field->Option aT
  |[]=>B1 .nil
  |f::fs=>if f.name = "_" then B5 else(nG P f.type).bind λ a=>(go f.type).bind λ q=>(fieldsT go fs).bind λ r=>B1 (.part f.offset a q r)
 itemsT (s:Nat) (a:Option Nat) (q:aT):Nat->Nat->aT
  |0,_=>.nil
  |n+1,i=>.part (i*s) a q (itemsT s a q n (i+1))
def pZ(P:Jl)(t:Lx):Option aT:=dH P 20 t
def gM:Nat->List (Option M7)->List (Option Nat)
 |_,[]=>[]
 |n,B5::r=>B5::gM n r
 |n,B1 _::r=>B1 n::gM (n+1) r
def kA:List (Option M7)->List M7
 |[]=>[]
 |none::r=>kA r
 |some x::r=>x::kA r
def BN(pl:Nat->Option (Nat×Nat)):List (Nat×M7)->Option (List (Nat×Nat))
 |[]=>B1 []
 |(i,_)::r=>(pl i).bind λ p=>(BN pl r).bind λ l=>B1 (p::l)
def NK(P:Jl)(fs:Array Field)(i:Nat):Option (Nat×Nat):=(fs[i]?).bind λ f=>(bV P f.type).bind λ n=>B1 (f.offset,n)
def ML(n:Nat)(i:Nat):Option (Nat×Nat):=B1 (i*n,n)
def Vs(P:Jl)(b:Builtin)(ts:Array Lx)(args:List M7):Option (List M7×fP) :=
 match b with
 | .len=>match(ts[0]?).bind P.underlying with
  |some (.slice _)=>B1 (args,.pure Op.cG)
  |_=>B5
 | .append=>match ts.toList with
  |[t,tx]=>match P.underlying t,P.underlying tx with
   |some (.slice e),B1 (.slice _)=>(bV P e).bind λ n=>(nC P e).bind λ z=>(zeroOf P e).bind λ zv=>if zv.cells.length=n then B1 (args,.gT (Op.append e n z))else B5
   |_,_=>B5
  |_=>B5
 | .min=>B1 (args,.pure (Op.fg B2))
 | .clear=>match(ts[0]?).bind P.underlying with
  |some (.slice e)=>(zeroOf P e).bind λ z=>B1 (args,.gT (Op.bS z.cells))
  |some (.map _ _)=>B1 (args,.gT Op.bW)
  |_=>B5
 | .recover=>B1 (args,.recover)
 | .panic=>B1 (args,.panic)
 |_=>B5
def Lf(_P:Jl)(fn:Func)(args:List M7):Option (List M7×fP) :=
 if fn.origin != "" then B5
 else if fn.name == "internal/bytealg.IndexByteString" then B1 (args,.pure Op.aF)
 else B5
def EJ(P:Jl)(src dst:Lx)(x:M7):Option (List M7×fP) :=
 match P.underlying src,P.underlying dst with
 |some (.int _),B1 (.int k)=>B1 ([x],.pure (Op.wrap k))
 |_,_=>B5
def M1(P:Jl):Nat->Lx->Bool
 |0,_=>B4
 |d+1,t=>match P.underlying t with
  |some (.interface ms)=>!ms.isEmpty
  |some (.struct fs)=>fs.toList.any λ f=>f.name != "_" && M1 P d f.type
  |some (.array _ e)=>M1 P d e
  |_=>B2
def Vt(P:Jl):∀(d:Nat)(t:Lx),M1 P d t=P.eqGuardType d t
 |0,_=>rfl
 |d+1,t=>by
  rw[M1,Jl.eqGuardType];cases P.underlying t with
  |none=>rfl
  |some u =>
   cases u with
   |struct fs =>
    show fs.toList.any _=fs.any _;rw[<-Array.any_toList];congr 1;funext f;rw[Vt P d]
   |array _ e=>exact Vt P d e
   |_=>rfl
def Ip(P:Jl)(t:Lx)(x y:M7):Option wM :=
 match P.underlying t with
 |some .bool=>B1 .bool
 |some (.pointer e)=>match bV P e with
  |some (_+1)=>B1 .ptr
  |_=>B5
 |some (.slice _)=>B1 .slice
 |some (.map _ _)=>B1 .map
 |some (.func _ _ _)=>B1 .func
 |some (.interface _)=>match x,y with
  | .const .nilIface,_=>B1 .iface
  |_,.const .nilIface=>B1 .iface
  |_,_=>B1 (.ifaces λ u=>(P.info? u).bind λ i=>if i.comparable then dH P 20 u else B5)
 |some (.struct _)=>if M1 P P.depth t then B5 else(dH P 20 t).bind λ q=>B1 (.agg q)
 |some (.array _ _)=>if M1 P P.depth t then B5 else(dH P 20 t).bind λ q=>B1 (.agg q)
 |_=>B5
def Kw(P:Jl)(op:BinOp)(t:Lx)(x y:M7):Option (List M7×fP) :=
 match P.underlying t with
 |some (.int _)=>B1 ([x,y],.pure (Op.bin op))
 |some .string=>B1 ([x,y],.pure (Op.bin op))
 |_=>match op with
  | .eql=>(Ip P t x y).bind λ k=>B1 ([x,y],.read (Op.eq k B2))
  | .neq=>(Ip P t x y).bind λ k=>B1 ([x,y],.read (Op.eq k B4))
  |_=>B5
def EW(P:Jl)(c:Call):Option (List M7×fP) :=
 match c.callee with
 | .value (.func f)=>(P.funcs[f]?).bind λ fn =>
  match fn.body with
  |some _=>B1 (c.args.toList,.ij f)
  |none=>Lf P fn c.args.toList
 | .value f=>B1 (f::c.args.toList,.iq)
 | .invoke r m=>B1 (r::c.args.toList,.invoke m)
 | .builtin b=>Vs P b c.argTypes c.args.toList
def PO(P:Jl)(op:Cm):Option (List M7×fP) :=
 match op with
 | .move x=>B1 ([x],.pure Op.move)
 | .assign x=>B1 ([x],.pure Op.move)
 | .pick c a b=>B1 ([c,a,b],.pure Op.pick)
 | .alloc e=>(zeroOf P e).bind λ z=>B1 ([],.alloc (Op.alloc e z.cells))
 | .box e x=>B1 ([x],.alloc (Op.box e))
 | .build t parts=>(zeroOf P t).bind λ z =>
  match P.underlying t with
  |some (.struct fs)=>if fs.toList.all (λ f=>(bV P f.type).isSome)then(BN (NK P fs) parts.toList).bind λ ps=>B1 (parts.toList.map (·.2),.pure (Op.build z.cells ps))else B5
  |some (.array _ e)=>(bV P e).bind λ n=>(BN (ML n) parts.toList).bind λ ps=>B1 (parts.toList.map (·.2),.pure (Op.build z.cells ps))
  |_=>B5
 | .buildSlice t len parts =>
  match P.underlying t with
  |some (.slice e)=>(bV P e).bind λ n=>(zeroOf P e).bind λ z=>(BN (ML n) parts.toList).bind λ ps=>if z.cells.length=n/\len*n<=16777216 then B1 (parts.toList.map (·.2),.alloc (Op.buildSlice e len z.cells ps))else B5
  |_=>B5
 | .load t a=>(nG P t).bind λ r=>match r with
  |none=>B1 ([a],.read Op.ae)
  |some n=>B1 ([a],.read (Op.aq n))
 | .store t a x=>(bV P t).bind λ n=>B1 ([a,x],.gT (Op.store n))
 | .nilCheck x=>B1 ([x],.pure Op.nilCheck)
 | .binOp op t x y _=>Kw P op t x y
 | .unOp op _ x=>B1 ([x],.pure (Op.un op))
 | .convert src dst x=>EJ P src dst x
 | .makeInterface t x=>match P.underlying t with
  |some (.interface _)=>B5
  |some _=>B1 ([x],.pure (Op.dJ t))
  |none=>B5
 | .makeFunc (.func f) a b=>B1 (a.toList++b.toList,.pure (Op.bK f a.size))
 | .makeMap _ B5=>B1 ([],.alloc Op.mkMap)
 | .makeMap t (B1 (.const (.int _ _)))=>match P.underlying t with
  |some (.map _ _)=>B1 ([],.alloc Op.mkMap)
  |_=>B5
 | .makeSlice t l c =>
  match P.underlying t with
  |some (.slice e)=>(nC P e).bind λ b=>(zeroOf P e).bind λ z=>(bV P e).bind λ n=>if z.cells.length=n then B1 ([l,c],.alloc (Op.mkSlice e b z.cells))else B5
  |_=>B5
 | .slice t x lo hi mx =>
  match P.underlying t with
  |some (.slice e)=>(bV P e).bind λ n=>B1 (x::kA [lo,hi,mx],.pure (Op.aA n (gM 0 [lo,hi,mx])))
  |some (.array k e)=>(bV P e).bind λ n=>B1 (x::kA [lo,hi,mx],.pure (Op.cT k n (gM 0 [lo,hi,mx])))
  |_=>B5
 | .fieldAddr t x i =>
  match P.underlying t with
  |some (.struct fs)=>(fs[i]?).bind λ f=>(bV P f.type).bind λ n=>if n == 0 then B5 else B1 ([x],.pure (Op.fieldAddr f.offset))
  |_=>B5
 | .indexAddr t x i =>
  match P.underlying t with
  |some (.slice e)=>(bV P e).bind λ n=>B1 ([x,i],.pure (Op.aR n))
  |some (.array k e)=>(bV P e).bind λ n=>B1 ([x,i],.pure (Op.aV k n))
  |_=>B5
 | .index t x i =>
  match P.underlying t with
  |some .string=>B1 ([x,i],.pure Op.bQ)
  |some (.array k e)=>(bV P e).bind λ n=>(nG P e).bind λ a=>B1 ([x,i],.pure (Op.bF k n a))
  |_=>B5
 | .lookup t m k ok =>
  match P.underlying t with
  |some (.map kt e)=>(pZ P kt).bind λ key=>(zeroOf P e).bind λ z=>B1 ([m,k],.read (Op.lookup key z ok))
  |_=>B5
 | .mapUpdate t m k v =>
  match P.underlying t with
  |some (.map kt _)=>(pZ P kt).bind λ key=>B1 ([m,k,v],.gT (Op.mapUpdate key))
  |_=>B5
 | .insert t m k v =>
  match P.underlying t with
  |some (.map kt _)=>(pZ P kt).bind λ key=>B1 ([m,k,v],.gT (Op.mapUpdate key))
  |_=>B5
 | .extract x i=>B1 ([x],.pure (Op.extract i))
 | .call c=>EW P c
 | .defer c=>match c.callee with
  | .value f=>B1 (f::c.args.toList,.defer)
  |_=>B5
 | .panic x=>B1 ([x],.panic)
 |_=>B5
def gE(P:Jl)(o:P7):Option (List bM×fP) :=
 match(PO P o.op).bind λ r=>(og P.globals.size r.1).bind λ args=>B1 (args,r.2)with
 |some r=>B1 r
 |none=>B1 ([],.pure Op.fail)
inductive Mt where
 |pure|read|alloc|gT
 deriving DecidableEq
def qO:fP->Mt
 | .pure _=>.pure
 | .read _=>.read
 | .alloc _=>.alloc
 |_=>.gT
def nq(cls:Nat->Mt)(gF:Nat->Nat)(n:Nat):Nat->Nat->List (Bool×Nat)->List (Bool×Nat)
 |0,_,acc=>acc.reverse
 |fuel+1,done,acc =>
  let ready (i:Nat):Bool:=!done.testBit i && (gF i &&& done) == gF i
  let todo:=(MX n).filter λ i=>!done.testBit i
  match todo.find? (λ i=>ready i && (cls i == .pure ||cls i == .read))with
  |some i=>nq cls gF n fuel (done |||2 ^ i) ((B2,i)::acc)
  |none =>
   -- the next effect: the first one (effects are in a row)
   match todo.find? (λ i=>cls i == .gT)with
   |some e =>
    if ready e then
     let again:=(acc.reverse.filter λ q=>!q.1 && cls q.2 == .read && !(gF e).testBit q.2).map λ q=>(B4,q.2)
     nq cls gF n fuel (done |||2 ^ e) (again.reverse++((B2,e)::acc))
    else match todo.find? (λ i=>ready i && (gF e).testBit i)with
     |some i=>nq cls gF n fuel (done |||2 ^ i) ((B2,i)::acc)
     |none=>acc.reverse
   |none=>match todo.find? ready with
    |some i=>nq cls gF n fuel (done |||2 ^ i) ((B2,i)::acc)
    |none=>acc.reverse
def dB{α:Type}:List (Option α)->Option (List α)
 |[]=>B1 []
 |x::xs=>x.bind λ a=>(dB xs).bind λ l=>B1 (a::l)
def guardOf(ops:Array P7):Option (Nat×Bool)->Option (Option (Nat×Bool))
 |none=>B1 B5
 |some g=>((ops[g.1]?).bind (·.dst)).bind λ t=>B1 (B1 (t,g.2))
def jD(ops:Array P7)(l:List (List bM×fP))(safe:Nat->Option (List Nat))(q:Bool×Nat):Option aP :=
 (ops[q.2]?).bind λ o=>(l[q.2]?).bind λ a=>(guardOf ops o.guard).bind λ g =>
  B1 {iB:=q.1,dst:=o.dst,guard:=g,args:=a.1,op:=a.2,cP:=safe q.2}
def py(nt:Nat)(o:P7):Bool :=
 match o.dst with
 |none=>B4
 |some d=>OO d nt
def pV(a b:Nat):Bool:=JW (Nat.land a b) a
def bitsOf:List (Bool×Nat)->Nat->Nat
 |[],d=>d
 |(B4,_)::l,d=>bitsOf l d
 |(B2,i)::l,d=>bitsOf l (Nat.lor d (2 ^ i))
def nK:List (Bool×Nat)->Nat->Nat
 |(B4,r)::l,d=>nK l (Nat.lor d (2 ^ r))
 |_,d=>d
def qS(c d:Mt):Bool:=match c,d with
 | .pure,.pure=>B4
 | .read,.read=>B4
 | .alloc,.alloc=>B4
 | .gT,.gT=>B4
 |_,_=>B2
def jB(p:Nat->Bool):Nat->Nat
 |0=>0
 |n+1=>cond (p n) (Nat.lor (jB p n) (2 ^ n)) (jB p n)
structure mQ where
 n:Nat
 gF:Nat->Nat
 cls:Nat->Mt
 jS:Nat->Nat->Bool
 self:Nat->Bool
 made:Nat
 reads:Nat
def NJ(I:mQ)(done:Nat)(post:List (Bool×Nat)):Bool×Nat->Bool
 |(B2,i)=>OO i I.n && (!done.testBit i && (pV (I.gF i) done && (match I.cls i with
  | .read=>pV (Nat.land done I.made) (I.gF i)
  | .gT=>pV (Nat.land done I.made) (I.gF i) && pV (Nat.land done I.reads) (Nat.lor (I.gF i) (nK post 0))
  |_=>B4)))
 |(B4,r)=>qS (I.cls r) .read && (I.self r && (done.testBit r && pV (Nat.land done (jB (λ w=>!Nat.beq w r && I.jS r w) I.n)) (I.gF r)))
def LS(I:mQ):List (Bool×Nat)->Nat->Bool
 |[],done=>pV (2 ^ I.n-1) done
 |(B2,i)::post,done=>NJ I done post (B2,i) && LS I post (Nat.lor done (2 ^ i))
 |(B4,r)::post,done=>NJ I done post (B4,r) && LS I post done
def sF(p:Nat->Bool):Nat->Bool
 |0=>B4
 |n+1=>p n && sF p n
def yS(I:mQ):Bool:=sF (λ r=>sF (λ w=>JW r w ||((I.gF r).testBit w ||((I.gF w).testBit r ||!I.jS r w))) I.n) I.n
def tmpsOf:List bM->List Nat
 |[]=>[]
 | .tmp t::l=>t::tmpsOf l
 |_::l=>tmpsOf l
def pk(t:Nat):List Nat->Bool
 |[]=>B2
 |x::l=>JW x t ||pk t l
def iX(ops:Array P7)(l:List (List bM×fP))(r:Nat):List Nat :=
 match ops[r]?,l[r]? with
 |some o,B1 a=>(match guardOf ops o.guard with|some (B1 g)=>[g.1]|_=>[])++tmpsOf a.1
 |_,_=>[]
def ir(ops:Array P7)(w:Nat):Option Nat:=(ops[w]?).bind (·.dst)
def gQ(ops:Array P7)(l:List (List bM×fP))(r:Nat):List Nat :=
 (match ir ops r with|some d=>[d]|none=>[])++iX ops l r
def BI(ops:Array P7)(l:List (List bM×fP))(r w:Nat):Bool :=
 match ir ops w with
 |some t=>pk t (gQ ops l r)
 |none=>B2
def DO(ops:Array P7)(l:List (List bM×fP))(r:Nat):Bool :=
 match ir ops r with
 |some t=>!pk t (iX ops l r)
 |none=>B4
def om(l:List (List bM×fP))(i:Nat):Mt:=qO ((l[i]?.getD ([],.recover)).2)
def wZ(c:Mt):Bool:=qS c .alloc ||qS c .gT
def aW(ops:Array P7)(l:List (List bM×fP)):mQ :=
 {n:=ops.size,gF:=λ i=>(CL ops).getD i 0,cls:=om l,jS:=BI ops l,self:=DO ops l,made:=jB (λ i=>wZ (om l i)) ops.size,reads:=jB (λ i=>qS (om l i) .read) ops.size}
def uX(i:Nat):List (Bool×Nat)->List (Bool×Nat)
 |[]=>[]
 |(c,j)::l=>cond (!c && JW j i) [] ((c,j)::uX i l)
def NH(ops:Array P7)(I:mQ)(plan:List (Bool×Nat))(i:Nat):Option (List Nat) :=
 let d:=bitsOf (uX i plan) 0
 cond (sF (λ j=>JW j i ||(d.testBit j ||(I.gF j).testBit i)) I.n) (B1 (ops.toList.filterMap (·.dst))) B5
def iS(P:Jl)(nt:Nat)(ops:Array P7)(draw:Bool):Option ai :=
 if ops.toList.all (py nt)then
 (dB (ops.toList.map (gE P))).bind λ l =>
  if draw then
   let I:=aW ops l
   let plan:=nq I.cls I.gF ops.size (2*ops.size) 0 []
   cond (LS I plan 0 && yS I) ((dB (plan.map (jD ops l (NH ops I plan)))).bind λ steps=>B1 (.region steps)) (B1 .stuck)
  else(dB ((MX ops.size).map λ i=>jD ops l (λ _=>B1 []) (B2,i))).bind λ steps=>B1 (.region steps)
 else B5
def cJ(P:Jl)(nt:Nat):Nat->Code->Option (ai×List dZ)
 |_,.skip=>B1 (.skip,[])
 |_,.region _ ops draw=>(iS P nt ops draw).bind λ c=>B1 (c,[])
 |k,.seq a b=>(cJ P nt k a).bind λ a=>(cJ P nt (k+a.2.length) b).bind λ b=>B1 (.seq a.1 b.1,a.2++b.2)
 |k,.cond c a b=>(rz P.globals.size c).bind λ c=>(cJ P nt k a).bind λ a=>(cJ P nt (k+a.2.length) b).bind λ b=>B1 (.cond c a.1 b.1,a.2++b.2)
 |k,.block id b=>(cJ P nt k b).bind λ b=>B1 (.block id b.1,b.2)
 |k,.loop b=>(cJ P nt k b).bind λ b=>B1 (.loop B5 b.1,b.2)
 |k,.rangeFunc f ps a b=>(rz P.globals.size f).bind λ f=>(cJ P nt (k+1) a).bind λ a=>(cJ P nt (k+1+a.2.length) b).bind λ b =>
  if ps.toList.all λ p=>OO p nt then B1 (.rangeFunc f k,{params:=ps.toList,assign:=a.1,body:=b.1}::(a.2++b.2))else B5
 |_,.exit id=>B1 (.exit id,[])
 |k,.scope b=>(cJ P nt k b).bind λ b=>B1 (.scope b.1,b.2)
 |_,.label l=>B1 (.label l,[])
 |_,.goto l=>B1 (.goto l,[])
 |_,.ret=>B1 (.ret,[])
 |_,.refuse _=>B1 (.stuck,[])
def rN(P:Jl):List ResultVar->Option (List eE)
 |[]=>B1 []
 | .tmp t::r=>(rN P r).bind λ l=>B1 (.tmp t::l)
 | .cell a t::r=>(nG P t).bind λ n=>(rN P r).bind λ l=>B1 ((match n with|none=>.kT a|some n=>.de n a)::l)
def uH(P:Jl)(fn:Func):Option cj :=
 fn.body.bind λ b=>(cJ P fn.ntmps 0 b).bind λ c=>(rN P fn.results.toList).bind λ r=>B1 {results:=r,body:=c.1,loops:=c.2}
def xT(P:Jl)(t:Lx)(name:String):Option Nat :=
 (P.info? t).bind λ i=>(i.methods.find? (·.name == name)).bind λ m =>
  if !m.path.isEmpty then B5 else m.func.bind λ p =>
   match P.underlying t,p.2 with
   |none,_=>B5
   |some (.pointer _),B4=>B1 p.1
   |some (.pointer _),B2=>B5
   |some _,B4=>B5
   |some _,B2=>B1 p.1
def bq(P:Jl):jW:={func:=λ f=>(P.funcs[f]?).bind (uH P),kI:=xT P}
end
end Go.Am
namespace Go.Am
namespace T
variable{α:Type}
def go_eq(f:Nat):∀(g i:Nat),i<=f->i<=g->path.go f i=path.go g i:=by
 induction f with
 |zero=>intro g i a hg;obtain rfl:i=0:=by omega
        cases g<;>simp[path.go]
 |succ f ih =>
  intro g i a hg;cases i with
  |zero=>grind
  |succ n =>
   cases g with
   |zero=>omega
   |succ g =>
    simp only[path.go];have h:n / 2<=n:=Nat.div_le_self n 2;congr 1;exact ih g (n / 2) (by omega) (by omega)
theorem xmq:path 0=[]:=rfl
theorem Zp(n:Nat):path (n+1)=JW (n % 2) 0::path (n / 2):=by
 show path.go (n+1) (n+1)=_;simp only[path.go];have h:n / 2<=n:=Nat.div_le_self n 2;exact congrArg (JW (n % 2) 0 :: ·) (go_eq n (n / 2) (n / 2) h (qm _))
theorem ag4:∀(i j:Nat),path i=path j->i=j:=by
 intro i
 induction i using Nat.strongRecOn with
 |_ i ih =>
  intro j h;cases i with
  |zero=>cases j with
   |zero=>rfl
   |succ m=>grind [xmq,Zp]
  |succ n=>cases j with
   |zero=>grind
   |succ m =>
    rw[Zp,Zp]at h;injection h with d c
    have f:=ih (n / 2) (by have:=Nat.div_le_self n 2;omega) (m / 2) c;have g:n % 2=m % 2:=by
     rcases Nat.mod_two_eq_zero_or_one n with a|a<;>rcases Nat.mod_two_eq_zero_or_one m with b|b<;>simp_all
    omega
def Dw(p:List Bool):wP p (.nil:T α)=none:=by
 induction p with
 |nil=>rfl
 |cons b p ih=>cases b<;>exact ih
theorem q65(v:Option α):∀(p:List Bool)(t:T α),wP p (fV v p t)=v:=by
 intro p
 induction p with
 |nil=>intro t;rfl
 |cons b p ih=>intro t;cases b<;>exact ih _
theorem xca(v:Option α):∀(p q:List Bool)(t:T α),p≠q->wP q (fV v p t)=wP q t:=by
 intro p
 induction p with
 |nil =>
  intro q t h;cases q with
  |nil=>grind
  |cons b q=>cases b<;>rfl
 |cons b p ih =>
  intro q t h;cases q with
  |nil=>cases b<;>rfl
  |cons c q =>
   cases b<;>cases c
   .exact ih q _ (λ e=>h (by rw[e]))
   .rfl
   .rfl
   .exact ih q _ (λ e=>h (by rw[e]))
theorem kO(t:T α)(i j:Nat)(v:Option α):(t.put i v).get j=if i=j then v else t.get j:=by
 unfold get put
 by_cases h:i=j
 .grind [q65]
 .simp only[h,wn];grind [xca,ag4]
theorem aK(t:T α)(i j:Nat)(v:α):(t.set i v).get j=if i=j then B1 v else t.get j:=kO t i j (B1 v)
theorem get_nil(j:Nat):(T.nil:T α).get j=none:=Dw _
def jO(p:List Bool)(t:T α):(oK p).run t=wP p t:=by
 induction p generalizing t with
 |nil=>rfl
 |cons b p ih=>cases b<;>exact ih _
def Be(v:Option α)(p:List Bool)(t:T α):(CO p).run v t=fV v p t:=by
 induction p generalizing t with
 |nil=>rfl
 |cons b p ih =>
  grind [CO,fV]
end T
section
variable{α:Type}
theorem jN(l:List α)(i:Nat):nth l i=l[i]?:=by
 induction l generalizing i with
 |nil=>rfl
 |cons x l ih=>cases i with
  |zero=>rfl
  |succ n=>exact ih n
theorem pq(a b:List α):kE a b=a++b:=by
 induction a with
 |nil=>rfl
 |cons x a ih=>exact congrArg (x :: ·) ih
def Ie(l:List α):cV l=l.length:=by
 induction l with
 |nil=>rfl
 |cons x l ih=>exact congrArg (·+1) ih
theorem ac4(n:Nat)(l:List α):db n l=l.drop n:=by
 induction n generalizing l with
 |zero=>rfl
 |succ n ih=>cases l with
  |nil=>exact(ih []).trans (by simp)
  |cons x l=>exact ih l
theorem Dx(n:Nat)(l:List α):CZ n l=if n<=l.length then B1 (l.take n)else none:=by
 induction n generalizing l with
 |zero=>rfl
 |succ n ih=>cases l with
  |nil=>rfl
  |cons x l =>
   show(CZ n l).bind (λ r=>B1 (x::r))=_
   grind
def Db(new l:List α):yZ new l=if new.length<=l.length then B1 (new++l.drop new.length)else none:=by
 induction new generalizing l with
 |nil=>rfl
 |cons x new ih=>cases l with
  |nil=>rfl
  |cons y l =>
   show(yZ new l).bind (λ r=>B1 (x::r))=_
   grind
def AQ(o:Nat)(new l:List α):putAt o new l=if o+new.length<=l.length then B1 (l.take o++new++l.drop (o+new.length))else none:=by
 induction o generalizing l with
 |zero=>show yZ new l=_;rw[Db];simp
 |succ o ih=>cases l with
  |nil =>
   show B5=_
   grind
  |cons x l =>
   show(putAt o new l).bind (λ r=>B1 (x::r))=_
   grind
def tR(l:List α)(o n:Nat):fZ l o n=if n<=l.length-o then B1 ((l.drop o).take n)else none:=by
 grind [fZ,Dx,ac4]
end
theorem Nl(a b:Int):vK a b=decide (a<=b):=by
 cases a<;>cases b<;>rw[Cg]<;>simp[vK,ub]<;>try omega
def Kk(a b:Int):A7 a b=decide (a<b):=by
 unfold A7;rw[Nl];grind
theorem DC(a b:Int):ux a b=(a == b):=by
 rw[Cg,beq_iff_eq];cases a<;>cases b<;>simp[ux]<;>omega
def Sv(a b:OM):sJ a b=decide (a=b):=by cases a<;>cases b<;>rfl
theorem WU(a b:UInt8):C8 a b=(a == b):=by
 unfold C8;rw[Cg];simp_all[UInt8.toNat_inj]
theorem K5(a b:List UInt8):A4 a b=(a == b):=by
 induction a generalizing b with
 |nil=>cases b<;>rfl
 |cons x a ih=>cases b with
  |nil=>rfl
  |cons y b =>
   show cond (C8 x y) (A4 a b) B2=_
   grind [WU]
end Go.Am
namespace Go.Am
structure Th where
 cq:Nat->Nat
 off:Nat->Nat
 ext:Nat->Nat
def fQ(θ:Th):mE->Fn
 | .func f=>.func f
 | .yield l=>.yield (θ.cq l)
def Dl:Nat->Option Nat
 |0=>B5
 |n+1=>B1 n
mutual
def aB(θ:Th):AV->K1
 | .bool b=>.bool b
 | .int k n=>.int k n
 | .str s=>.string ⟨s.toArray⟩
 | .nilp=>.pointer B5
 | .ptr b o=>.pointer (B1 ⟨θ.cq b,θ.off b+o,B5⟩)
 | .nils=>.slice B5 0 0
 | .slice b o n c=>.slice (B1 ⟨θ.cq b,θ.off b+o,B5⟩) n c
 | .gslice b i m s alt n=>.slice (B1 ⟨θ.cq b,θ.off b+(if(m-i) + θ.ext b=0 then alt else i*s),B5⟩) n ((m-i) + θ.ext b)
 | .eslice b=>.slice (B1 ⟨θ.cq b,θ.off b,Dl (θ.ext b)⟩) 0 0
 | .nM=>.map B5
 | .map b=>.map (B1 (θ.cq b))
 | .fn f a b=>.func (fQ θ f) (cw θ a).toArray (cw θ b).toArray
 | .nilf=>.nilFunc
 | .iface t v=>.iface t (aB θ v)
 | .nili=>.nilIface
 | .agg l=>.agg (cw θ l).toArray
 | .tuple l=>.tuple (cw θ l).toArray
def cw(θ:Th):List AV->List K1
 |[]=>[]
 |v::vs=>aB θ v::cw θ vs
end
theorem vV(θ:Th)(l:List AV):cw θ l=l.map (aB θ):=by
 induction l with
 |nil=>rfl
 |cons x l ih=>simp[cw,ih]
def Ag(D:Nat->Prop)(θ θ':Th):Prop:=∀b,D b -> θ'.cq b = θ.cq b /\ θ'.off b = θ.off b /\ θ'.ext b = θ.ext b
theorem Ag.refl(D:Nat->Prop)(θ:Th):Ag D θ θ:=λ _ _=>⟨rfl,rfl,rfl⟩
theorem Ag.trans{D D':Nat->Prop}{θ θ' θ'':Th}(h:Ag D θ θ')(a:Ag D' θ' θ'')(c:∀b,D b->D' b):Ag D θ θ'':=λ b hb =>
 let⟨a1,a2,a3⟩:=h b hb;let⟨b1,b2,b3⟩:=a b (c b hb);(by omega)
def Ag.mono{D D':Nat->Prop}{θ θ':Th}(h:Ag D θ θ')(a:∀b,D' b->D b):Ag D' θ θ':=λ b hb=>h b (a b hb)
def VR(D:Nat->Prop)(θ:Th)(v:AV)(c:K1):Prop:=∀θ',Ag D θ θ'->aB θ' v=c
def bN(D:Nat->Prop)(θ:Th)(l:List AV)(cs:List K1):Prop:=∀θ',Ag D θ θ'->cw θ' l=cs
section
variable{D D':Nat->Prop}{θ θ':Th}
def VR.now{v:AV}{c:K1}(h:VR D θ v c):aB θ v=c:=h θ (Ag.refl D θ)
def bN.now{l:List AV}{cs:List K1}(h:bN D θ l cs):cw θ l=cs:=h θ (Ag.refl D θ)
theorem VR.up{v:AV}{c:K1}(h:VR D θ v c)(ha:Ag D θ θ')(d:∀b,D b->D' b):VR D' θ' v c:=λ θ'' a=>h θ'' (ha.trans a d)
theorem bN.up{l:List AV}{cs:List K1}(h:bN D θ l cs)(ha:Ag D θ θ')(c:∀b,D b->D' b):bN D' θ' l cs:=λ θ'' a=>h θ'' (ha.trans a c)
theorem bN.nil:bN D θ [] []:=λ _ _=>rfl
def bN.cons{v:AV}{c:K1}{l:List AV}{cs:List K1}(h:VR D θ v c)(hl:bN D θ l cs):bN D θ (v::l) (c::cs) :=
 λ θ' ha=>by simp[cw,h θ' ha,hl θ' ha]
def bN.eI{v:AV}{l:List AV}{cs:List K1}(h:bN D θ (v::l) cs):∃c cs',cs=c::cs'/\VR D θ v c/\bN D θ l cs':=by
 refine⟨aB θ v,cw θ l,(by rw[<-h.now];rfl),λ θ' ha=>?_,λ θ' ha=>?_⟩
 .have:=(h θ' ha).trans h.now.symm;grind [cw]
 .have:=(h θ' ha).trans h.now.symm;grind [cw]
def bN.mC{cs:List K1}(h:bN D θ [] cs):cs=[]:=h.now.symm
def bN.length{l:List AV}{cs:List K1}(h:bN D θ l cs):cs.length=l.length:=by rw[<-h.now,vV];simp
def bN.app{l a:List AV}{cs cs':List K1}(h:bN D θ l cs)(b:bN D θ a cs'):bN D θ (l++a) (cs++cs'):=by
 intro θ' ha;rw[vV,Jz,<-vV,<-vV,h θ' ha,b θ' ha]
def bN.qK{l:List AV}{cs:List K1}(h:bN D θ l cs){i:Nat}{v:AV}(b:l[i]? = B1 v):∃c,cs[i]? = B1 c/\VR D θ v c:=by
 refine⟨aB θ v,?_,λ θ' ha=>?_⟩
 .rw [<-h.now,vV,xq,b];rfl
 .have:=(h θ' ha).trans h.now.symm;rw[vV,vV]at this;have a:=congrArg (λ l=>l[i]?) this;simp only[xq,b,GA,qk]at a;exact a
theorem bN.drop{l:List AV}{cs:List K1}(h:bN D θ l cs)(n:Nat):bN D θ (l.drop n) (cs.drop n):=by
 intro θ' ha;rw[vV,List.map_drop,<-vV,h θ' ha]
def bN.take{l:List AV}{cs:List K1}(h:bN D θ l cs)(n:Nat):bN D θ (l.take n) (cs.take n):=by
 intro θ' ha;rw[vV,List.map_take,<-vV,h θ' ha]
def bN.one{v:AV}{c:K1}(h:VR D θ v c):bN D θ [v] [c]:=.cons h .nil
def VR.agg{l:List AV}{cs:List K1}(h:bN D θ l cs):VR D θ (.agg l) (.agg cs.toArray):=λ θ' ha=>by simp[aB,h θ' ha]
def VR.tuple{l:List AV}{cs:List K1}(h:bN D θ l cs):VR D θ (.tuple l) (.tuple cs.toArray):=λ θ' ha=>by simp[aB,h θ' ha]
def VR.fE{l:List AV}{c:K1}(h:VR D θ (.agg l) c):∃cs:List K1,c=.agg cs.toArray/\bN D θ l cs:=by
 refine⟨cw θ l,h.now.symm,λ θ' ha=>?_⟩;have:=(h θ' ha).trans h.now.symm;simpa[aB]using this
def VR.Ae{l:List AV}{c:K1}(h:VR D θ (.tuple l) c):∃cs:List K1,c=.tuple cs.toArray/\bN D θ l cs:=by
 refine⟨cw θ l,h.now.symm,λ θ' ha=>?_⟩;have:=(h θ' ha).trans h.now.symm;simpa[aB]using this
def VR.iface{t:Nat}{v:AV}{c:K1}(h:VR D θ v c):VR D θ (.iface t v) (.iface t c):=λ θ' ha=>by simp[aB,h θ' ha]
def VR.mr{t:Nat}{v:AV}{c:K1}(h:VR D θ (.iface t v) c):∃a,c=.iface t a/\VR D θ v a:=by
 refine⟨aB θ v,h.now.symm,λ θ' ha=>?_⟩;have:=(h θ' ha).trans h.now.symm;simpa[aB]using this
def VR.undef:VR D θ .undef Go.undef:=λ _ _=>rfl
def VR.bool(b:Bool):VR D θ (.bool b) (.bool b):=λ _ _=>rfl
def VR.int(k:OM)(n:Int):VR D θ (.int k n) (.int k n):=λ _ _=>rfl
def VR.str(s:List UInt8):VR D θ (.str s) (.string ⟨s.toArray⟩):=λ _ _=>rfl
def VR.ptr{b o:Nat}(hb:D b):VR D θ (.ptr b o) (.pointer (B1 ⟨θ.cq b,θ.off b+o,B5⟩)):=λ θ' ha=>by obtain⟨a,c,_⟩:=ha b hb;grind [aB]
theorem VR.map{b:Nat}(hb:D b):VR D θ (.map b) (.map (B1 (θ.cq b))):=λ θ' ha=>by obtain⟨a,_,_⟩:=ha b hb;simp[aB,a]
def VR.slice{b o n c:Nat}(hb:D b):VR D θ (.slice b o n c) (aB θ (.slice b o n c)):=λ θ' ha=>by obtain⟨a,d,_⟩:=ha b hb;grind [aB]
def VR.gslice{b i m s alt n:Nat}(hb:D b):VR D θ (.gslice b i m s alt n) (aB θ (.gslice b i m s alt n)):=λ θ' ha=>by
 obtain⟨a,c,d⟩:=ha b hb;grind [aB]
end
def IK(fz cfz:Nat×Nat)(off size:Nat):Prop:=cfz.1=cfz.2\/(cfz.1<cfz.2/\off+fz.1<=cfz.1/\cfz.2<=off+fz.2)\/(fz.2<fz.1/\(size<=cfz.1\/cfz.2<=off))
def Mp(fz cfz:Nat×Nat):Prop:=cfz.1=cfz.2\/(cfz.1<cfz.2/\fz.1<=cfz.1/\cfz.2<=fz.2)
def own:bE->Bool
 | .row _ _ _ o=>o
 |_=>B4
def pR(D:Nat->Prop)(θ:Th)(tm:T AV)(a:Array K1):Prop:=∀t v,tm.get t=B1 v -> ∃c,a[t]? = B1 c/\VR D θ v c
def u4:ng->LoopState
 | .ready=>.ready| .busy=>.busy| .done=>.done| .exhausted=>.exhausted
def mK:ik->Code
 | .exit id=>.exit id
 | .goto l=>.goto l
 | .ret=>.ret
def RS(D:Nat->Prop)(θ:Th)(e:AV×AV×Nat)(m:Bh):Prop:=VR D θ e.1 m.key/\VR D θ e.2.1 m.val/\m.born=e.2.2
def dD(D:Nat->Prop)(θ:Th):List (AV×AV×Nat)->List Bh->Prop
 |[],[]=>True
 |e::es,m::ms=>RS D θ e m/\dD D θ es ms
 |_,_=>False
def wO(P:Jl)(f k n:Nat)(params:Array Tmp)(assign body:Code):Prop :=
 ∃fn af lp ka kb L1 L2,P.funcs[f]? = B1 fn/\uH P fn=B1 af/\nth af.loops k=B1 lp/\lp.params=params.toList/\(∀p∈params.toList,p<fn.ntmps)/\fn.ntmps<=n /\
  cJ P fn.ntmps ka assign=B1 (lp.assign,L1)/\(∀i l,nth L1 i=B1 l->nth af.loops (ka+i)=B1 l) /\
  cJ P fn.ntmps kb body=B1 (lp.body,L2)/\(∀i l,nth L2 i=B1 l->nth af.loops (kb+i)=B1 l)
def Xt(D:Nat->Prop)(θ:Th):aN->Deferred->Prop
 | .jC b,d=>D b/\d = {target:=.collected (θ.cq b),args:=#[]}
 | .fn f args,d=>∃c cap:Array K1,d = {target:=.fn (fQ θ f) cap,args:=c}/\(∀θ',Ag D θ θ'->fQ θ' f=fQ θ f)/\bN D θ args (c++cap).toList
def oP(P:Jl)(D:Nat->Prop)(θ:Th)(b:Nat):bE->Obj->Prop
 | .row cells e fz ow,o=>∃pre cs post cfz e',o=.cells (pre++cs++post).toArray e' cfz/\pre.length = θ.off b/\bN D θ cells cs /\
  (ow=B4->e'=e/\pre=[]/\post=[]/\Mp fz cfz)
 | .grown m size cells e fz,o=>∃pre cs post cfz,o=.cells (pre++cs++post).toArray e cfz/\pre.length = θ.off b/\bN D θ cells cs /\
  cells.length=m*size/\post.length = θ.ext b*size/\0<size/\m + θ.ext b<=maxLen/\IK fz cfz (θ.off b) (pre.length+cs.length+post.length)
 | .map es clock,o=>∃ms:List Bh,o=.map ms.toArray clock/\dD D θ es ms
 | .mz s pos,o=>o=.stringIter ⟨s.toArray⟩ pos /\ θ.off b=0
 | .loop st pend f k tm d,o=>∃r:Loop,o=.loop r/\r.state=u4 st/\r.pending=pend.map mK/\r.fn=f/\pR D θ tm r.tmps/\wO P f k r.tmps.size r.params r.assign r.body /\
  D d/\r.defers = θ.cq d
 | .deferred calls,o=>∃ds,o=.deferred ds/\(match calls,ds with
  |none,B5=>True
  |some l,B1 l'=>l=[]/\l'=[]
  |_,_=>False)
structure HR(P:Jl)(base:Nat)(D:Nat->Prop)(θ:Th)(H:ar)(w:N6):Prop where
 obj:∀b o,H.get b=B1 o->D b /\ ∃co,w.heap[θ.cq b]? = B1 co/\oP P D θ b o co
 inj:∀b b' o o',H.get b=B1 o->H.get b'=B1 o'->own o=B4->b≠b' -> θ.cq b≠θ.cq b'
 lR:∀b o,H.get b=B1 o->own o=B4->base <= θ.cq b
 eO:∀g,g<P.globals.size->D g /\ θ.cq g=g /\ θ.off g=0
 low:base<=w.heap.size
def Lt(n:Nat):Nat->Prop:=λ b=>b<n
end Go.Am
namespace Go.Am
theorem zJ(k o i:Nat):(⟨k,o,B5⟩:Addr).add i=⟨k,o+i,B5⟩:=by grind [Addr.add]
def fI(w:N6)(k:Nat)(o:Obj):World:={w with heap:=w.heap.setIfInBounds k o}
def TK(w:N6)(k:Nat)(o:Obj):(fI w k o).heap.size=w.heap.size:=by simp[fI]
theorem K6(w:N6)(k j:Nat)(o:Obj)(h:k<w.heap.size):(fI w k o).heap[j]? = if k=j then B1 o else w.heap[j]?:=by
 grind [fI]
def xnn(w:N6)(k:Nat)(o o':Obj):fI (fI w k o) k o'=fI w k o':=by
 simp[fI]
def xnm(w:N6)(k:Nat)(o:Obj)(h:w.heap[k]? = B1 o):fI w k o=w:=by
 have:w.heap.setIfInBounds k o=w.heap:=by
  grind
 simp_all[fI]
def EY(w:N6)(o:Obj)(j:Nat):(w.alloc o).heap[j]? = if j=w.heap.size then B1 o else w.heap[j]?:=by
 grind [N6.alloc]
section
variable{P:Jl}{w:N6}{k:Nat}{arr:Array K1}{e:Lx}{fz:Nat×Nat}
theorem QN(h:w.heap[k]? = B1 (.cells arr e fz))(o:Nat):w.cell? ⟨k,o,B5⟩=arr[o]?:=by simp[World.cell?,h]
theorem xm6(h:w.heap[k]? = B1 (.cells arr e fz)){o:Nat}{v:K1}(a:arr[o]? = B1 v):(load ⟨k,o,B5⟩).run P w=.ok v w:=by
 rw[run_load,QN h,a]
def xdn(h:w.heap[k]? = B1 (.cells arr e fz))(o n:Nat)(hn:n<=arr.size-o) :
 (loadCells ⟨k,o,B5⟩ n).run P w=.ok ((arr.toList.drop o).take n).toArray w:=by
 have hl:((arr.toList.drop o).take n).length=n:=by grind
 grind [run_loadCells_list,zJ,QN]
def Sb(a:Nat):∀(vs:List K1)(i:Nat)(arr:Array K1)(w:N6),w.heap[k]? = B1 (.cells arr e fz) ->
 a+i+vs.length<=arr.size->(∀j,j<vs.length -> ¬(fz.1<=a+i+j/\a+i+j<fz.2))->(∀v∈vs,v.oneCell'=B4) ->
 (storeCells ⟨k,a,B5⟩ vs i).run P w=.ok () (fI w k (.cells (arr.toList.take (a+i)++vs++arr.toList.drop (a+i+vs.length)).toArray e fz))
 |[],i,arr,w,hg,_,_,_=>by
  simp only[storeCells,zp,jq,Ah,yr,CD];rw[xnm w k _ hg];rfl
 |v::rest,i,arr,w,hg,hl,hf,h1=>by
  have m:a+i<arr.size:=by grind
  have hk:k<w.heap.size:=(Tu.1 hg).1;have b:w.cell? ⟨k,a+i,B5⟩=B1 arr[a+i]:=by rw[QN hg];grind
  have d:w.frozen? ⟨k,a+i,B5⟩=false:=by
   have:=hf 0 (by simp)
   grind [N6.frozen?]
  have f:w.setCell ⟨k,a+i,B5⟩ v=fI w k (.cells (arr.setIfInBounds (a+i) v) e fz):=by
   simp only[N6.setCell,fI];congr 1
   grind
  have c:(store ((⟨k,a,B5⟩:Addr).add i) v).run P w=.ok () (fI w k (.cells (arr.setIfInBounds (a+i) v) e fz)):=by
   grind [zJ,run_store]
  have h:=Sb a rest (i+1) (arr.setIfInBounds (a+i) v) (fI w k (.cells (arr.setIfInBounds (a+i) v) e fz))
   (by grind [K6]) (by grind)
   (λ j g=>by have:=hf (j+1) (by simpa using g);rwa [show a+i+(j+1)=a+(i+1)+j from by omega]at this)
   (by grind)
  simp only[storeCells,NG,c,NA,h,xnn];congr 3;have l:=list_seg_step arr.toList (a+i) v rest (by simp at hl⊢;omega);simp_all[Ad]
end
def Up(D:Nat->Prop)(n m:Nat):Nat->Prop:=λ b=>D b\/(n<=b/\b<m)
def Up.of{D:Nat->Prop}{n m:Nat}:∀b,D b->Up D n m b:=λ _ h=>.inl h
def eG(D:Nat->Prop)(n m:Nat):Prop:=∀b,n<=b->b<m -> ¬D b
theorem Up.up{D:Nat->Prop}{n m k:Nat}(h:n<=m)(a:m<=k):Up (Up D n m) m k=Up D n k:=by
 funext b;simp only[Up,eq_iff_iff]
 grind
theorem Up.none{D:Nat->Prop}{n:Nat}:Up D n n=D:=by
 funext b;simp only[Up,eq_iff_iff]
 grind
def eG.left{D:Nat->Prop}{n m k:Nat}(h:eG D n k)(hk:m<=k):eG D n m:=λ b a c=>h b a (by omega)
def eG.right{D:Nat->Prop}{n m k:Nat}(h:eG D n k)(hm:n<=m):eG (Up D n m) m k:=λ b d c a=>by
 rcases a with a|⟨_,f⟩
 .exact h b (by omega) c a
 .omega
structure bG(D:Nat->Prop)(H:ar)(θ:Th)(w:N6)(H':ar)(θ':Th)(w':N6):Prop where
 au:H.au<=H'.au
 ag:Ag D θ θ'
 size:w.heap.size<=w'.heap.size
 os:w'.os=w.os
 tape:w'.tape=w.tape
 output:w'.output=w.output
 ah:∀k,k<w.heap.size->(∀b o,H.get b=B1 o->own o=B4 -> θ.cq b≠k)->w'.heap[k]? = w.heap[k]?
 news:∀b o,H'.get b=B1 o->own o=B4 -> θ'.cq b<w.heap.size -> ∃b' o',H.get b'=B1 o'/\own o'=B4 /\ θ.cq b' = θ'.cq b
theorem bG.refl(D:Nat->Prop)(H:ar)(θ:Th)(w:N6):bG D H θ w H θ w :=
 ⟨qm _,Ag.refl _ _,qm _,rfl,rfl,rfl,λ _ _ _=>rfl,λ b o h ho _=>(by grind)⟩
theorem bG.trans{D D':Nat->Prop}{H H' c:ar}{θ θ' θ'':Th}{w w' d:N6}(a:bG D H θ w H' θ' w')(b:bG D' H' θ' w' c θ'' d)(p:∀b,D b->D' b):bG D H θ w c θ'' d:=by
 refine⟨xx a.au b.au,a.ag.trans b.ag p,xx a.size b.size,b.os.trans a.os,b.tape.trans a.tape,b.output.trans a.output,?_,?_⟩
 .intro k hk g;refine(b.ah k (qn hk a.size) ?_).trans (a.ah k hk g);intro x o h ho he;have⟨i,o',j,l,n⟩:=a.news x o h ho (by omega)
  grind
 .intro x o h ho f;have⟨i,o',j,l,n⟩:=b.news x o h ho (qn f a.size);have⟨m,q,r,s,t⟩:=a.news i o' j l (by omega)
  grind
def bG.draw{D:Nat->Prop}{H:ar}{θ:Th}{w w':N6}(a:w'.heap=w.heap)(ho:w'.os=w.os)(c:w'.tape=w.tape)(hp:w'.output=w.output):bG D H θ w H θ w' :=
 ⟨qm _,Ag.refl _ _,by grind,ho,c,hp,λ _ _ _=>by rw[a],λ b o h hw _=>(by grind)⟩
def HR.draw{P:Jl}{base:Nat}{D:Nat->Prop}{θ:Th}{H:ar}{w w':N6}(h:HR P base D θ H w)(a:w'.heap=w.heap):HR P base D θ H w' :=
 ⟨λ b o hb=>by rw[a];exact h.obj b o hb,h.inj,h.lR,h.eO,by rw[a];exact h.low⟩
theorem dD.up{D D':Nat->Prop}{θ θ':Th}(ha:Ag D θ θ')(a:∀b,D b->D' b):∀(es:List (AV×AV×Nat))(ms:List Bh),dD D θ es ms->dD D' θ' es ms
 |[],[],_=>trivial
 |e::es,m::ms,⟨⟨h1,h2,h3⟩,h⟩=>⟨⟨h1.up ha a,h2.up ha a,h3⟩,dD.up ha a es ms h⟩
 |[],_::_,h=>h.elim
 |_::_,[],h=>h.elim
theorem oP.up{P:Jl}{D D':Nat->Prop}{θ θ':Th}{b:Nat}{o:bE}{co:Obj}(h:oP P D θ b o co)(hb:D b)(ha:Ag D θ θ')(n:∀b,D b->D' b):oP P D' θ' b o co:=by
 have⟨e1,e2,A⟩:=ha b hb;cases o with
 |row cells e fz ow =>
  have⟨pre,cs,post,a,y,g,i,j,l⟩:=h;exact⟨pre,cs,post,a,y,g,by omega,j.up ha n,l⟩
 |grown m size cells e fz =>
  have⟨pre,cs,post,a,g,i,j,l,u,p,q,x⟩:=h;exact⟨pre,cs,post,a,g,by omega,j.up ha n,l,by grind,p,by omega,by grind⟩
 |map es clock =>
  have⟨ms,g,i⟩:=h;exact⟨ms,g,dD.up ha n _ _ i⟩
 |mz s pos=>exact⟨h.1,e2.trans h.2⟩
 |loop st pend f k tm d =>
  have⟨r,g,i,j,l,u,p,q,x⟩:=h;exact⟨r,g,i,j,l,λ t v z=>let⟨c,hc,hr⟩:=u t v z;⟨c,hc,hr.up ha n⟩,p,n d q,by rw[(ha d q).1];exact x⟩
 |deferred calls=>exact h
theorem HR.up{P:Jl}{base:Nat}{D D':Nat->Prop}{θ:Th}{H:ar}{w:N6}(h:HR P base D θ H w)(a:∀b,D b->D' b):HR P base D' θ H w :=
 ⟨λ b o hb=>let⟨h1,co,h2,h3⟩:=h.obj b o hb;⟨a b h1,co,h2,h3.up h1 (Ag.refl _ _) a⟩,h.inj,h.lR,λ g hg=>⟨a g (h.eO g hg).1,(h.eO g hg).2⟩,h.low⟩
section
variable{P:Jl}{base:Nat}{D:Nat->Prop}{θ:Th}{H:ar}{w:N6}
def HR.lt(h:HR P base D θ H w){b:Nat}{o:bE}(hb:H.get b=B1 o):θ.cq b<w.heap.size:=by
 have⟨_,co,a,_⟩:=h.obj b o hb
 grind
theorem ar.aK(H:ar)(b a:Nat)(o:bE):(H.set b o).get a=if b=a then B1 o else H.get a:=T.aK _ _ _ _
def ar.bO(H:ar)(a:Nat)(o:bE):(H.alloc o).get a=if H.au=a then B1 o else H.get a:=T.aK _ _ _ _
theorem ar.qH(H:ar)(b a:Nat):(H.kill b).get a=if b=a then B5 else H.get a:=T.kO _ _ _ _
theorem HR.set(h:HR P base D θ H w){b:Nat}{o o':bE}{co':Obj}(hb:H.get b=B1 o)(ho:own o=B4)(p:own o'=B4)(hr:oP P D θ b o' co') :
 HR P base D θ (H.set b o') (fI w (θ.cq b) co'):=by
 have i:=h.lt hb;refine⟨λ x f a=>?_,λ x y f j a g c d=>?_,λ x f a c=>?_,h.eO,by rw[TK];exact h.low⟩
 .rw [ar.aK]at a
  by_cases e:b=x
  .subst e;simp only[vG,qk]at a;subst a;exact⟨(h.obj b o hb).1,co',by grind [K6],hr⟩
  .simp only[e,wn]at a;have⟨l,co,m,n⟩:=h.obj x f a;exact⟨l,co,by rw[K6 _ _ _ _ i,qy (h.inj b x o f hb a ho e)];exact m,n⟩
 .rw [ar.aK]at a g
  by_cases e:b=x<;>by_cases e':b=y
  .omega
  .subst e;simp only[e',wn]at g;exact h.inj b y o j hb g ho d
  .subst e';simp only[e,wn]at a;exact h.inj x b f o a hb c d
  .simp only[e,e',wn]at a g;exact h.inj x y f j a g c d
 .rw [ar.aK]at a
  by_cases e:b=x
  .subst e;exact h.lR b o hb ho
  .simp only[e,wn]at a;exact h.lR x f a c
theorem bG.set{b:Nat}{o o':bE}{co':Obj}(hb:H.get b=B1 o)(ho:own o=B4)(a:θ.cq b<w.heap.size) :
 bG D H θ w (H.set b o') θ (fI w (θ.cq b) co'):=by
 refine⟨qm _,Ag.refl _ _,by simp_all[TK],rfl,rfl,rfl,λ k hk c=>?_,λ x g f d _=>?_⟩
 .simp_all [K6]
 .rw [ar.aK]at f
  grind
def Th.add(θ:Th)(n cq off ext:Nat):Th:={cq:=λ b=>if b=n then cq else θ.cq b,off:=λ b=>if b=n then off else θ.off b,ext:=λ b=>if b=n then ext else θ.ext b}
def Th.eV(θ:Th)(n cq off ext:Nat):(θ.add n cq off ext).cq n=cq/\(θ.add n cq off ext).off n=off/\(θ.add n cq off ext).ext n=ext:=by simp[Th.add]
def Th.ia(θ:Th)(n cq off ext:Nat){D:Nat->Prop}(hn:¬D n):Ag D θ (θ.add n cq off ext):=λ b hb=>by
 grind [Th.add]
end
section
variable{P:Jl}{base:Nat}{D:Nat->Prop}{θ:Th}{H:ar}{w:N6}
theorem HR.alloc(h:HR P base D θ H w)(hn:¬D H.au){o:bE}{co:Obj}{k off ext:Nat}{w':N6}(hk:w'.heap[k]? = B1 co)(p:∀j,j<w.heap.size->w'.heap[j]? = w.heap[j]?)(u:w.heap.size<=k)
 (hs:w.heap.size<=w'.heap.size) (hr:oP P (Up D H.au (H.au+1)) (θ.add H.au k off ext) H.au o co) :
 HR P base (Up D H.au (H.au+1)) (θ.add H.au k off ext) (H.alloc o) w':=by
 have d:=Th.ia θ H.au k off ext hn;have⟨e1,e2,v⟩:=Th.eV θ H.au k off ext;have old:∀x b,H.get x=B1 b->(θ.add H.au k off ext).cq x = θ.cq x:=λ x b a=>(d x (h.obj x b a).1).1;refine⟨λ x b a=>?_,λ x y b q a i f m=>?_,λ x b a f=>?_,λ g hg=>?_,by have:=h.low;omega⟩
 .rw [ar.bO]at a
  by_cases e:H.au=x
  .subst e;simp only[vG,qk]at a;subst a;exact⟨.inr ⟨qm _,zr _⟩,co,by rw[e1];exact hk,hr⟩
  .simp only[e,wn]at a;have⟨l,c,r,n⟩:=h.obj x b a;refine⟨.inl l,c,?_,n.up l d Up.of⟩
   grind
 .rw [ar.bO]at a i
  by_cases e:H.au=x<;>by_cases e':H.au=y
  .exact absurd (e.symm.trans e') m
  .subst e;simp only[e',wn]at i;rw[e1,old y q i];have:=h.lt i;omega
  .subst e';simp only[e,wn]at a;rw[e1,old x b a];have:=h.lt a;omega
  .simp only[e,e',wn]at a i;rw[old x b a,old y q i];exact h.inj x y b q a i f m
 .rw [ar.bO]at a
  by_cases e:H.au=x
  .subst e;rw[e1];have:=h.low;omega
  .simp only[e,wn]at a;rw[old x b a];exact h.lR x b a f
 .have ⟨l,r,n⟩:=h.eO g hg;have⟨s,t,_⟩:=d g l;exact⟨.inl l,s.trans r,t.trans n⟩
theorem bG.alloc(h:HR P base D θ H w)(hn:¬D H.au)(o:bE)(co:Obj)(off ext:Nat):bG D H θ w (H.alloc o) (θ.add H.au w.heap.size off ext) (w.alloc co):=by
 have a:=Th.ia θ H.au w.heap.size off ext hn;have⟨e1,e2,g⟩:=Th.eV θ H.au w.heap.size off ext;refine⟨kc _,a,by simp,rfl,rfl,rfl,λ k hk _=>?_,λ x f b d c=>?_⟩
 .rw [EY,qy (MF hk)]
 .rw [ar.bO]at b
  by_cases e:H.au=x
  .grind
  .simp only[e,wn]at b;have:=(a x (h.obj x f b).1).1
   grind
end
section
variable{P:Jl}{base:Nat}{D:Nat->Prop}{θ:Th}{H:ar}{w:N6}
def HR.cells(h:HR P base D θ H w){b:Nat}{l:List AV}(hb:H.bX b=B1 l) :
 ∃pre cs post e fz,w.heap[θ.cq b]? = B1 (.cells (pre++cs++post).toArray e fz)/\pre.length = θ.off b/\bN D θ l cs:=by
 unfold ar.bX at hb;cases hg:H.get b with
 |none=>grind
 |some o =>
  rw[hg]at hb;have⟨_,co,i,hr⟩:=h.obj b o hg;cases o with
  |row cells e fz ow =>
   have⟨pre,cs,post,a,g,c,d,f,_⟩:=hr
   grind
  |grown m size cells e fz =>
   have⟨pre,cs,post,a,c,d,f,_⟩:=hr
   grind
  |map _ _=>cases hb
  |mz _ _=>cases hb
  |loop _ _ _ _ _ _=>cases hb
  |deferred _=>cases hb
def xg6(pre cs post:List K1)(o n:Nat)(h:n<=cs.length-o):(((pre++cs++post).toArray.toList.drop (pre.length+o)).take n)=(cs.drop o).take n:=by
 simp_all[Ij,PC]
def HR.ae(h:HR P base D θ H w){b o:Nat}{v:AV}(hl:H.ae b o=B1 v) :
 ∃c,(load ⟨θ.cq b,θ.off b+o,B5⟩).run P w=.ok c w/\VR D θ v c:=by
 unfold ar.ae at hl;cases a:H.bX b with
 |none=>grind
 |some l =>
  rw[a]at hl;have⟨pre,cs,post,e,fz,i,j,d⟩:=h.cells a;simp only[qr,jN]at hl;have⟨c,f,g⟩:=d.qK hl
  grind [xm6]
def HR.aq(h:HR P base D θ H w){b o n:Nat}{l:List AV}(hl:H.aq b o n=B1 l) :
 ∃cs:List K1,(loadCells ⟨θ.cq b,θ.off b+o,B5⟩ n).run P w=.ok cs.toArray w/\bN D θ l cs/\l.length=n:=by
 unfold ar.aq at hl;cases c:H.bX b with
 |none=>grind
 |some l0 =>
  rw[c]at hl;have⟨pre,cs,post,e,fz,d,f,a⟩:=h.cells c;simp only[qr,tR]at hl;split at hl
  .rename_i hn;cases hl;have hlen:=a.length;refine⟨(cs.drop o).take n,?_,(a.drop o).take n,by grind⟩;rw[<-f,xdn d (pre.length+o) n (by grind),xg6 pre cs post o n (by omega)]
  grind
theorem xc6{v:AV}{c:K1}(h:VR D θ v c)(a:aD v=B4):c.oneCell'=true:=by
 rw[<-h.now];cases v<;>simp_all[aD,aB,K1.oneCell']
theorem vd(l:List AV):aL l=l.all aD:=by
 induction l with
 |nil=>rfl
 |cons x l ih =>
  show cond (aD x) (aL l) B2=_
  grind
def q3n{l:List AV}{cs:List K1}(h:bN D θ l cs)(b:aL l=B4):∀c∈cs,c.oneCell'=true:=by
 intro c d;have⟨i,m⟩:=LY d;rw[vd,Gn]at b;have a:i<l.length:=by rw[<-h.length];grind
 have⟨f,g,j⟩:=h.qK (xf a)
 grind [xc6]
end
end Go.Am
namespace Go.Am
def sV(P:Jl)(s:Sem Next)(w:N6)(c:K1)(w':N6):Prop:=s.run P w=.ok (.value c) w'\/(s.run P w=.ok .skip w'/\c=Go.undef)
def dv(P:Jl)(o:P7)(xs:List M7)(f:List AV->Option AV):Prop :=
 ∀(D:Nat->Prop)θ(ρ:M7->K1)w vs v,bN D θ vs (xs.map ρ)->f vs=B1 v -> ∃c,sV P (execOp ρ o) w c w/\VR D θ v c
section
variable{P:Jl}{w:N6}
def kq{t:Lx}{d:TypeDesc}(h:P.underlying t=B1 d):(underlying t).run P w=.ok d w:=run_underlying h w
def uw{t:Lx}{n:Nat}(h:bV P t=B1 n):(sizeOf t).run P w=.ok n w:=by
 unfold bV at h;cases a:P.info? t with
 |none=>grind
 |some i=>simp_all[sizeOf,typeInfo]
def hQ{t:Lx}{n:Nat}(h:bV P t=B1 n):∃i,P.info? t=B1 i/\i.size=n:=by
 unfold bV at h;cases a:P.info? t with
 |none=>grind
 |some i=>grind
def Ur{t:Lx}{n:Option Nat}(h:nG P t=B1 n):(isAgg t).run P w=.ok n.isSome w /\ ∀k,n=B1 k->(sizeOf t).run P w=.ok k w:=by
 unfold nG at h;cases hu:P.underlying t with
 |none=>grind
 |some d =>
  rw[hu]at h;cases d
  case struct fs =>
   simp only at h;cases hs:bV P t with
   |none=>grind
   |some m =>
    rw[hs]at h;cases h;simp_all[isAgg,kq,uw]
  case array m e =>
   simp only at h;cases hs:bV P t with
   |none=>grind
   |some m =>
    rw[hs]at h;cases h;simp_all[isAgg,kq,uw]
  all_goals
   (cases h
    simp_all[isAgg,kq])
mutual
def WD(θ:Th):∀(c:K1)(v:AV),gA c=B1 v->aB θ v=c
 | .bool b,v,h=>by simp[gA]at h;subst h;rfl
 | .int k n,v,h=>by simp[gA]at h;subst h;rfl
 | .string s,v,h=>by simp[gA]at h;subst h;simp[aB]
 | .pointer B5,v,h=>by simp[gA]at h;subst h;rfl
 | .pointer (B1 a),v,h=>by grind [gA]
 | .slice B5 0 0,v,h=>by simp[gA]at h;subst h;rfl
 | .slice B5 0 (n+1),v,h=>by grind [gA]
 | .slice B5 (n+1) c,v,h=>by grind [gA]
 | .slice (B1 a) n c,v,h=>by grind [gA]
 | .map B5,v,h=>by simp[gA]at h;subst h;rfl
 | .map (B1 r),v,h=>by grind [gA]
 | .nilFunc,v,h=>by simp[gA]at h;subst h;rfl
 | .nilIface,v,h=>by simp[gA]at h;subst h;rfl
 | .iface t x,v,h=>by
  simp only[gA]at h;cases d:gA x with
  |none=>grind
  |some y=>rw[d]at h;cases h;simp[aB,WD θ x y d]
 | .agg cs,v,h=>by
  simp only[gA]at h;cases d:nP cs.toList with
  |none=>grind
  |some l=>rw[d]at h;cases h;simp[aB,Uz θ cs.toList l d]
 | .tuple cs,v,h=>by
  simp only[gA]at h;cases d:nP cs.toList with
  |none=>grind
  |some l=>rw[d]at h;cases h;simp[aB,Uz θ cs.toList l d]
 | .float _ _,v,h=>by grind [gA]
 | .complex _ _ _,v,h=>by grind [gA]
 | .chan _,v,h=>by grind [gA]
 | .func _ _ _,v,h=>by grind [gA]
def Uz(θ:Th):∀(cs:List K1)(l:List AV),nP cs=B1 l->cw θ l=cs
 |[],l,h=>by simp[nP]at h;subst h;rfl
 |c::cs,l,h=>by
  simp only[nP]at h;cases a:gA c with
  |none=>grind
  |some y =>
   rw[a]at h;simp only[qr]at h;cases b:nP cs with
   |none=>grind
   |some ys=>rw[b]at h;cases h;simp[cw,WD θ c y a,Uz θ cs ys b]
end
def Sh{D:Nat->Prop}{θ:Th}{c:K1}{v:AV}(h:gA c=B1 v):VR D θ v c:=λ θ' _=>WD θ' c v h
def KV{t:Lx}{z:AV}(h:zeroOf P t=B1 z):∃c,(zeroValue t).run P w=.ok c w /\ ∀D θ,VR D θ z c:=by
 unfold zeroOf at h;cases a:P.info? t with
 |none=>grind
 |some i =>
  rw[a]at h;simp only[qr]at h;cases b:i.zero with
  |none=>grind
  |some c=>simp_all[zeroValue,typeInfo,Sh]
end
section
variable{D:Nat->Prop}{θ:Th}
def VR.cells{v:AV}{c:K1}(h:VR D θ v c):bN D θ v.cells c.cells.toList:=by
 intro θ' ha;have a:=h θ' ha;subst a;cases v<;>simp[AV.cells,aB,K1.cells,cw]
end
section
variable{P:Jl}{D:Nat->Prop}{θ:Th}{ρ:M7->K1}{w:N6}
theorem bN.iZ{x:M7}{vs:List AV}(h:bN D θ vs ([x].map ρ)):∃v,vs=[v]/\VR D θ v (ρ x):=by
 cases vs with
 |nil=>have:=h.length;grind
 |cons v vs =>
  have⟨c,cs,a,d,b⟩:=h.eI;simp only[kh,FN,zz]at a;obtain⟨rfl,rfl⟩:=a;have:=b.length
  grind
theorem bN.tQ{x y:M7}{vs:List AV}(h:bN D θ vs ([x,y].map ρ)):∃a b,vs=[a,b]/\VR D θ a (ρ x)/\VR D θ b (ρ y):=by
 cases vs with
 |nil=>have:=h.length;grind
 |cons v vs =>
  have⟨c,cs,d,f,g⟩:=h.eI
  grind [bN.iZ]
def bN.sG{x y z:M7}{vs:List AV}(h:bN D θ vs ([x,y,z].map ρ)):∃a b c,vs=[a,b,c]/\VR D θ a (ρ x)/\VR D θ b (ρ y)/\VR D θ c (ρ z):=by
 cases vs with
 |nil=>have:=h.length;grind
 |cons v vs =>
  have⟨c,cs,d,f,g⟩:=h.eI
  grind [bN.tQ]
def xde{o:P7}{x:M7}(ho:o.op=.move x\/o.op=.assign x):dv P o [x] Op.move:=by
 intro D θ ρ w vs v h b;obtain⟨a,rfl,ha⟩:=bN.iZ h;simp only[Op.move,qk]at b;subst b;refine⟨ρ x,.inl ?_,ha⟩;rcases ho with ho|ho<;>simp[execOp,ho]
def xmu{o:P7}{c a b:M7}(ho:o.op=.pick c a b):dv P o [c,a,b] Op.pick:=by
 intro D θ ρ w vs v h g;obtain⟨q,x,y,rfl,l,m,n⟩:=bN.sG h;unfold Op.pick at g;split at g
 .rename_i i p r heq;injection heq with j d;subst j;injection d with d f;subst d;injection f with f _;subst f
  cases g;have hb:ρ c=.bool i:=l.now.symm;cases i
  .exact ⟨ρ b,.inl (by simp[execOp,ho,hb,asBool]),n⟩
  .exact ⟨ρ a,.inl (by simp[execOp,ho,hb,asBool]),m⟩
 grind
def Iq{o:P7}{op:UnOp}{t:Lx}{x:M7}(ho:o.op=.unOp op t x):dv P o [x] (Op.un op):=by
 intro D θ ρ w vs v h b;obtain⟨a,rfl,ha⟩:=bN.iZ h;simp only[Op.un,I_]at b;have hr:=ha.now;split at b
 .rename_i k n;cases b;exact⟨_,.inl (by simp[execOp,ho,<-hr,aB,Cm.unary,Cm.intArith]<;>rfl),.int _ _⟩
 .rename_i k n;simp only[gK]at b;cases b;exact⟨_,.inl (by simp[execOp,ho,<-hr,aB,Cm.unary,Cm.intBits]<;>rfl),.int _ _⟩
 .cases b;exact⟨_,.inl (by simp[execOp,ho,<-hr,aB,Cm.unary]),.bool _⟩
 grind
def xmv{o:P7}{src dst:Lx}{x:M7}{k j:OM}(ho:o.op=.convert src dst x)(c:P.underlying src=B1 (.int j))(d:P.underlying dst=B1 (.int k)):dv P o [x] (Op.wrap k):=by
 intro D θ ρ w vs v h b;obtain⟨a,rfl,ha⟩:=bN.iZ h;have hr:=ha.now;unfold Op.wrap at b;split at b
 .rename_i k' n heq;cases heq;cases b;exact⟨_,.inl (by simp[execOp,ho,<-hr,aB,convert,kq c,kq d,Conv.intToInt]<;>rfl),.int _ _⟩
 grind
def xdd{o:P7}{t:Lx}{x:M7}(ho:o.op=.makeInterface t x)(g:∃d,P.underlying t=B1 d/\(match d with| .interface _=>B2|_=>B4)=B4):dv P o [x] (Op.dJ t):=by
 intro D θ ρ w vs v h b;obtain⟨a,rfl,ha⟩:=bN.iZ h;simp only[Op.dJ,qk]at b;subst b;have⟨d,c,f⟩:=g;refine⟨.iface t (ρ x),.inl ?_,ha.iface⟩;cases d<;>simp_all[execOp,Instr.makeInterface,kq c]
def xft{o:P7}{f:FuncId}{a b:Array M7}(ho:o.op=.makeFunc (.func f) a b):dv P o (a.toList++b.toList) (Op.bK f a.size):=by
 intro D θ ρ w vs v h c;simp only[Op.bK,qk]at c;subst c;refine⟨.func (.func f) (a.map ρ) (b.map ρ),.inl (by simp[execOp,ho,Instr.makeFunc]),λ θ' hg=>?_⟩;have d:=(h.take a.size) θ' hg;have g:=(h.drop a.size) θ' hg;simp only[aB,fQ,d,g];congr 1
 .grind
 grind
def xdb{o:P7}{x:M7}{i:Nat}(ho:o.op=.extract x i):dv P o [x] (Op.extract i):=by
 intro D θ ρ w vs v h b;obtain⟨a,rfl,ha⟩:=bN.iZ h;unfold Op.extract at b;split at b
 .rename_i l heq;cases heq;have⟨cs,g,hl⟩:=ha.Ae;rw[jN]at b;have⟨c,d,f⟩:=hl.qK b;exact⟨c,.inl (by simp[execOp,ho,g,Instr.extract,d]),f⟩
 grind
def Kr{o:P7}{c:Call}{b:Builtin}(ho:o.op=.call c)(a:c.callee=.builtin b) :
 ∃consts,execOp ρ o=builtin b c.argTypes o.type consts (c.args.map ρ):=by
 refine⟨c.args.map λ| .const _=>B4|_=>B2,?_⟩
 grind [execOp,resolve,invoke]
def AO{c:Call}{xs:List M7}(a:c.args.toList=xs):c.args.map ρ = (xs.map ρ).toArray:=by
 grind
def bN.pO{xs:List M7}{a:AV}(h:bN D θ [a] (xs.map ρ)):∃x,xs=[x]/\VR D θ a (ρ x):=by
 have:=h.length
 match xs,this,h with
 |[x],_,h=>grind [bN.iZ]
def bN.rE{xs:List M7}{a b:AV}(h:bN D θ [a,b] (xs.map ρ)):∃x y,xs=[x,y]/\VR D θ a (ρ x)/\VR D θ b (ρ y):=by
 have:=h.length
 match xs,this,h with
 |[x,y],_,h =>
  grind [bN.tQ]
theorem LP(s:List UInt8):(⟨s.toArray⟩:ByteArray).size=s.length:=by simp[ByteArray.size]
def xjf{o:P7}{c:Call}{xs:List M7}{t e:Lx}(ho:o.op=.call c)(f:c.callee=.builtin .len)(d:c.args.toList=xs)(b:c.argTypes[0]? = B1 t)
 (hu:P.underlying t=B1 (.slice e)):dv P o xs Op.cG:=by
 intro D θ ρ w vs v h a;have⟨consts,he⟩:=Kr (ρ:=ρ) ho f;unfold Op.cG at a;split at a
 .obtain ⟨x,rfl,ha⟩:=h.pO;cases a;refine⟨_,.inl ?_,.int _ _⟩;rw[he,AO d];simp[builtin,D3,kq hu,b,<-ha.now,aB,goInt]<;>rfl
 .obtain ⟨x,rfl,ha⟩:=h.pO;cases a;refine⟨_,.inl ?_,.int _ _⟩;rw[he,AO d];simp[builtin,D3,kq hu,b,<-ha.now,aB,goInt]<;>rfl
 .obtain ⟨x,rfl,ha⟩:=h.pO;cases a;refine⟨_,.inl ?_,.int _ _⟩;rw[he,AO d];simp[builtin,D3,kq hu,b,<-ha.now,aB,goInt]<;>rfl
 .obtain ⟨x,rfl,ha⟩:=h.pO;cases a;refine⟨_,.inl ?_,.int _ _⟩;rw[he,AO d];simp[builtin,D3,kq hu,b,<-ha.now,aB,goInt]<;>rfl
 grind
def xim{op:BinOp}{k:OM}{a b:Int}{v:AV}(hs:eB op=B2)(h:gK op k a b=B1 v)(t:Lx) :
 ∃c,(binOp op t (.int k a) (.int k b)).run P w=.ok c w/\VR D θ v c:=by
 cases op<;>simp only[gK,eB,qk,DC,Kk,Nl,Bool.true_eq_false]at h hs
 case quo =>
  cases hb:(b == 0)<;>rw[hb]at h<;>simp at h;subst h;exact⟨_,by simp[binOp,Cm.intDiv,by simpa using hb]<;>rfl,.int _ _⟩
 case rem =>
  cases hb:(b == 0)<;>rw[hb]at h<;>simp at h;subst h;exact⟨_,by simp_all[binOp,Cm.intDiv],.int _ _⟩
 all_goals
  subst h
  first|refine⟨_,?_,VR.int _ _⟩|refine⟨_,?_,VR.bool _⟩
  simp only[binOp,ne_eq,not_true_eq_false,wn,Cm.intBits,Cm.intArith,Cm.intCmp];rfl
def xbr(a b:List UInt8):bytesLess a b=Cm.bytesLess a b:=by
 induction a generalizing b with
 |nil=>cases b<;>rfl
 |cons x a ih=>cases b with
  |nil=>rfl
  |cons y b =>
   simp only[bytesLess,Cm.bytesLess,ih,WU];congr 1;rw[Cg];simp[UInt8.lt_iff_toNat_lt]
def yb(s:List UInt8):(⟨s.toArray⟩:ByteArray).toList=s:=by rw[ByteArray.toList_eq]
def xjx{op:BinOp}{a b:List UInt8}{v:AV}(h:qT op a b=B1 v)(t:Lx) :
 ∃c,(binOp op t (.string ⟨a.toArray⟩) (.string ⟨b.toArray⟩)).run P w=.ok c w/\VR D θ v c:=by
 cases op<;>simp only[qT,qk,reduceCtorEq,K5,xbr]at h
 case add =>
  cases hb:Nu (a.length+b.length) 140737488355328<;>rw[hb]at h<;>simp at h;subst h;have hle:a.length+b.length<=140737488355328:=by simp_all
  refine⟨.string (⟨a.toArray⟩++⟨b.toArray⟩),?_,λ θ' _=>?_⟩
  .simp only[binOp,Cm.stringOp,LP,Sem.run_ite];rw[qy (by grind [OM.max,IntKind.bits])];rfl
  .show K1.string ⟨(a++b).toArray⟩=_;congr 1
 all_goals
  subst h;exact⟨_,by simp[binOp,Cm.stringOp]<;>rfl,.bool _⟩
def τ{o:P7}{op:BinOp}{t p:Lx}{x y:M7}(ho:o.op=.binOp op t x y p):dv P o [x,y] (Op.bin op):=by
 intro D θ ρ w vs v h d;obtain⟨a,b,rfl,ha,hb⟩:=bN.tQ h;simp only[Op.bin,nV]at d;have g:=ha.now;have i:=hb.now;have guard:∀(u n:K1),(∀l,u≠ .agg l)->u≠ .nilIface->(eqGuard op t x y u n).run P w=.ok () w:=by
  intro u n q r;unfold eqGuard;cases u<;>cases op<;>simp_all
 split at d
 .rename_i k a k' b;cases hs:eB op
  .rw [hs]at d;simp only[zn,Sv]at d
   by_cases hk:k=k'
   .subst hk;simp only[decide_true,xt]at d;have⟨c,m,j⟩:=xim (P:=P) (w:=w) (D:=D) (θ:=θ) hs d t;refine⟨c,.inl ?_,j⟩;have hg:=guard (.int k a) (.int k b) (λ _=>by simp) (by simp);simp_all[execOp,aB]
   grind
  .rw [hs]at d;simp only[xt,tg,Kk]at d
   by_cases f:b<0
   .grind
   .simp only[f,JJ,zn]at d;have hg:=guard (.int k a) (.int k' b) (λ _=>by simp) (by simp);cases op<;>simp only[eB,ja]at hs
    all_goals
     cases d;exact⟨_,.inl (by simp[execOp,ho,<-g,<-i,aB,hg,binOp,Cm.shift,f]<;>rfl),.int _ _⟩
 .rename_i a b;have⟨c,m,j⟩:=xjx (P:=P) (w:=w) (D:=D) (θ:=θ) d t;have hg:=guard (.string ⟨a.toArray⟩) (.string ⟨b.toArray⟩) (λ _=>by simp) (by simp);exact⟨c,.inl (by simp[execOp,ho,<-g,<-i,aB,hg,m]),j⟩
 grind
end
end Go.Am
namespace Go.Am
section
variable{P:Jl}{D:Nat->Prop}{θ:Th}{ρ:M7->K1}{w:N6}
def Lu{t:Lx}{l:List AV}{cs:List K1}{off:Nat}{n:Option Nat}{v:AV}(hn:nG P t=B1 n)(hl:bN D θ l cs)(h:partAt l off n=B1 v) :
 ∃c,(part t cs.toArray off).run P w=.ok c w/\VR D θ v c:=by
 have⟨a,b⟩:=Ur (w:=w) hn;cases n with
 |none =>
  simp only[partAt,jN]at h;have⟨c,d,f⟩:=hl.qK h;simp_all[part]
 |some k =>
  simp only[partAt,tR]at h;split at h
  .rename_i hk;cases h;refine⟨.agg ((cs.drop off).take k).toArray,?_,VR.agg ((hl.drop off).take k)⟩;have hlen:=hl.length;simp only[part,NG,a,NA,vq,vG,b k rfl];simp_all
  grind
def Sz{i:Int}{n k:Nat}(h:within i n=B1 k):i=(k:Int)/\k<n:=by
 unfold within at h;cases i with
 |ofNat m =>
  grind [A6]
 |negSucc m=>cases h
def q7r{o:P7}{t:Lx}{x:M7}{i:Nat}{fs:Array Field}{f:Field}{n:Nat}(ho:o.op=.fieldAddr t x i)(j:P.underlying t=B1 (.struct fs))(g:fs[i]? = B1 f)(hn:bV P f.type=B1 n)(a:n≠0) :
 dv P o [x] (Op.fieldAddr f.offset):=by
 intro D θ ρ w vs v h c;unfold Op.fieldAddr at c;split at c
 .rename_i b d;have⟨y,heq,ha⟩:=h.pO;injection heq with heq _;subst heq
  cases c;have hr:=ha.now;refine⟨.pointer (B1 ⟨θ.cq b,θ.off b+d+f.offset,B5⟩),.inl ?_,λ θ' hg=>?_⟩
  .simp [execOp,ho,Instr.fieldAt,kq j,g,<-hr,aB,CE,fieldPlace,uw hn,a,zJ]
  .have:=ha θ' hg
   grind [aB]
 grind
def xas{o:P7}{t e:Lx}{x i:M7}{len size:Nat}{n:Option Nat}(ho:o.op=.index t x i)(q:P.underlying t=B1 (.array len e))(hs:bV P e=B1 size)(hn:nG P e=B1 n) :
 dv P o [x,i] (Op.bF len size n):=by
 intro D θ ρ w vs v h b;unfold Op.bF at b;split at b
 .rename_i l k j;have⟨y,z,heq,ha,hb⟩:=h.rE;injection heq with d a;injection a with a _;subst d;subst a
  cases hw:within j len with
  |none=>grind
  |some m =>
   rw[hw]at b;obtain⟨rfl,p⟩:=Sz hw;have⟨cs,f,hl⟩:=ha.fE;have⟨c,d,a⟩:=Lu (w:=w) hn hl b;refine⟨c,.inl ?_,a⟩;have g:(0:Int)<=(m:Int)/\(m:Int)<(len:Int):=by omega
   simp[execOp,ho,Instr.index,kq q,f,<-hb.now,aB,asIntOf,g,uw hs,d];omega
 grind
def xau{o:P7}{t:Lx}{x i:M7}(ho:o.op=.index t x i)(l:P.underlying t=B1 .string):dv P o [x,i] Op.bQ:=by
 intro D θ ρ w vs v h a;unfold Op.bQ at a;split at a
 .rename_i s k j;have⟨y,z,heq,ha,hb⟩:=h.rE;injection heq with f b;injection b with b _;subst f;subst b
  cases hw:within j s.length with
  |none=>grind
  |some m =>
   rw[hw]at a;obtain⟨rfl,c⟩:=Sz hw;simp only[qr,jN]at a;obtain⟨u,hu⟩:∃u,s[m]? = B1 u:=⟨_,xf c⟩
   rw[hu]at a;cases a;refine⟨.int .u8 u.toNat,.inl ?_,.int _ _⟩;have d:(0:Int)<=(m:Int):=by omega
   have hg:getElem? (⟨s.toArray⟩:ByteArray) m=B1 u:=by
    have n:m<(⟨s.toArray⟩:ByteArray).size:=by grind [LP]
    rw[getElem?_pos (⟨s.toArray⟩:ByteArray) m n];have g:=(qt.1 hu).2;simp only[qk];exact g
   simp[execOp,ho,Instr.index,kq l,<-ha.now,<-hb.now,aB,asIntOf,d,hg]
 grind
def q4f{x:AV}{c:K1}{size j b o:Nat}(h:VR D θ x c)(he:elemAt size x j=B1 (b,o)) :
 ∃n m,c=.slice (B1 ⟨θ.cq b,θ.off b+o-j*size,B5⟩) n m/\j<n/\j*size<=o/\(∀θ',Ag D θ θ' -> θ'.cq b = θ.cq b /\ θ'.off b+o = θ.off b+o):=by
 have hr:=h.now;unfold elemAt at he;split at he
 .rename_i d o' n' i;cases hb:OO j n'<;>rw[hb]at he
  .cases he
  .simp only[xt,qk,zh]at he;obtain⟨rfl,rfl⟩:=he;refine⟨n',i,?_,by simp_all,by omega,λ θ' ha=>?_⟩
   .grind [aB]
   .have:=h θ' ha;grind [aB]
 .rename_i d f g p a n';cases hb:(OO j n' && JW p size && OO (f+j) g)<;>rw[hb]at he
  .cases he
  .simp only[xt,qk,zh]at he;obtain⟨rfl,rfl⟩:=he;simp only[zm,A6,jy]at hb;obtain⟨⟨l,rfl⟩,q⟩:=hb;refine⟨n',g-f + θ.ext d,?_,l,by omega,λ θ' ha=>?_⟩
   .rw [<-hr];simp only[aB];grind
   .have:=h θ' ha;rw[<-hr]at this;simp only[aB,BO,qk,C5]at this
    grind
 grind
def xdc{o:P7}{t e:Lx}{x i:M7}{size:Nat}(ho:o.op=.indexAddr t x i)(B:P.underlying t=B1 (.slice e))(hs:bV P e=B1 size) :
 dv P o [x,i] (Op.aR size):=by
 intro D θ ρ w vs v h d;unfold Op.aR at d;split at d
 .rename_i a k j;have⟨y,z,heq,ha,hb⟩:=h.rE;injection heq with l g;injection g with g _;subst l;subst g
  cases hl:eN a with
  |none=>grind
  |some n0 =>
   rw[hl]at d;simp only[qr]at d;cases hw:within j n0 with
   |none=>grind
   |some m =>
    rw[hw]at d;simp only[qr]at d;obtain⟨rfl,u⟩:=Sz hw;cases he:elemAt size a m with
    |none=>grind
    |some p =>
     have⟨b,f⟩:=p;rw[he]at d;cases d;have⟨n,c,q,s,hle,A⟩:=q4f ha he;refine⟨.pointer (B1 ⟨θ.cq b,θ.off b+f,B5⟩),.inl ?_,λ θ' hg=>?_⟩
     .have r:(0:Int)<=(m:Int)/\(m:Int)<(n:Int):=by omega
      have heq:θ.off b+f-m*size+m*size = θ.off b+f:=by omega
      simp[execOp,ho,Instr.indexAt,kq B,q,<-hb.now,aB,asIntOf,r,uw hs,zJ,heq];omega
     grind [aB]
 grind
def xat{o:P7}{t e:Lx}{x i:M7}{len size:Nat}(ho:o.op=.indexAddr t x i)(n:P.underlying t=B1 (.array len e))(hs:bV P e=B1 size) :
 dv P o [x,i] (Op.aV len size):=by
 intro D θ ρ w vs v h a;unfold Op.aV at a;split at a
 .rename_i b d k j;have⟨y,z,heq,ha,hb⟩:=h.rE;injection heq with f c;injection c with c _;subst f;subst c
  cases hw:within j len with
  |none=>grind
  |some m =>
   rw[hw]at a;cases a;obtain⟨rfl,l⟩:=Sz hw;have g:(0:Int)<=(m:Int)/\(m:Int)<(len:Int):=by omega
   refine⟨.pointer (B1 ⟨θ.cq b,θ.off b+d+m*size,B5⟩),.inl ?_,λ θ' hg=>?_⟩
   .simp [execOp,ho,Instr.indexAt,kq n,<-ha.now,<-hb.now,aB,asIntOf,CE,g,uw hs,zJ];omega
   .have:=ha θ' hg;rw[<-ha.now]at this
    grind [aB]
 grind
def xav{o:P7}{x:M7}(ho:o.op=.nilCheck x):dv P o [x] Op.nilCheck:=by
 intro D θ ρ w vs v h b;obtain⟨a,rfl,ha⟩:=bN.iZ h;have hr:=ha.now;unfold Op.nilCheck at b;split at b
 .cases b
 .cases b
 .cases b
 .rename_i f d g heq;injection heq with heq;subst heq
  injection b with b;subst b
  exact⟨ρ x,.inl (by simp[execOp,ho,<-hr,aB,fQ]),ha⟩
 .cases b
 .rename_i c i j l m n heq;injection heq with heq;subst heq
  injection b with b;subst b
  refine⟨ρ x,.inl ?_,ha⟩;have p:=hr.symm;clear hr ha h;cases a
  case nilp=>grind
  case nili=>grind
  case nilf=>grind
  case fn f' c b'=>grind
  all_goals simp_all[aB,execOp]
 grind
def _N(off:Nat):∀(cs:List K1)(j:Nat)(arr:List K1),off+j+cs.length<=arr.length ->
 ((cs.zipIdx j).foldl (λ acc(p:K1×Nat)=>acc.setIfInBounds (off+p.2) p.1) arr.toArray)=(arr.take (off+j)++cs++arr.drop (off+j+cs.length)).toArray
 |[],j,arr,_=>by simp
 |c::cs,j,arr,h=>by
  simp only[List.zipIdx_cons,List.foldl_cons,List.setIfInBounds_toArray];rw[_N off cs (j+1) (arr.set (off+j) c) (by grind)];congr 1;have a:=list_seg_step arr (off+j) c cs (by simp at h⊢;omega)
  simpa[Ad]using a
theorem xl3(off:Nat)(cs:Array K1)(arr:List K1)(h:off+cs.size<=arr.length) :
 (cs.zipIdx.foldl (λ acc(p:K1×Nat)=>acc.setIfInBounds (off+p.2) p.1) arr.toArray)=(arr.take off++cs.toList++arr.drop (off+cs.size)).toArray:=by
 have:=_N off cs.toList 0 arr (by simpa using h);rw[<-Array.foldl_toList]
 simpa using this
def Y4:∀(places:List (Nat×Nat))(vs:List AV)(parts:List (Nat×M7))(pl:Nat->Option (Nat×Nat))(out:List AV),
 BN pl parts=B1 places->bN D θ vs (parts.map λ p=>ρ p.2) -> ∀(cells:List AV)(a:List K1),bN D θ cells a->jH cells places vs=B1 out ->
 ∃cout:List K1,Instr.fill pl a.toArray (parts.map λ p=>(p.1,ρ p.2))=B1 cout.toArray/\bN D θ out cout:=by
 intro places vs parts
 induction parts generalizing places vs with
 |nil =>
  intro pl out hp m cells a f d;simp only[BN,qk]at hp;subst hp;have:vs=[]:=by have:=m.length;grind
  subst this;simp only[jH,qk]at d;subst d;exact⟨a,rfl,f⟩
 |cons p parts ih =>
  intro pl out hp m cells a f d;have⟨i,x⟩:=p;simp only[BN]at hp;cases h:pl i with
  |none=>grind
  |some q =>
   have⟨off,size⟩:=q;rw[h]at hp;simp only[qr]at hp;cases hr:BN pl parts with
   |none=>grind
   |some l =>
    rw[hr]at hp;cases hp;cases vs with
    |nil=>grind [jH]
    |cons v vs =>
     have⟨c,cs',n,o,r⟩:=m.eI;simp only[kh,zz]at n;obtain⟨rfl,rfl⟩:=n;simp only[jH,Ie]at d;cases hb:JW v.cells.length size
     .grind
     .rw [hb]at d;simp only[xt,AQ]at d;have b:=o.cells;have hlen:=b.length;have j:(ρ x).cells.size=size:=by simp_all
      split at d
      .rename_i hle;simp only[qr]at d;have t:=f.length;have g:bN D θ (cells.take off++v.cells++cells.drop (off+v.cells.length)) (a.take off++(ρ x).cells.toList++a.drop (off+v.cells.length)) :=
        ((f.take off).app b).app (f.drop _)
       have⟨cout,u,s⟩:=ih l vs pl out hr r _ _ g d;refine⟨cout,?_,s⟩;simp only[kh,Instr.fill,h];rw[qy (by simp only[List.size_toArray];rw[j];rw[<-Array.length_toList]at j;simp;omega)]
       grind [xl3]
      grind
def xmp(parts:Array (Nat×M7)):(parts.map λ(p:Nat×M7)=>(p.1,ρ p.2)).toList=parts.toList.map λ p=>(p.1,ρ p.2):=by simp
def xa7(fs:Array Field)(a:∀f∈fs,∃n,bV P f.type=B1 n) :
 ∃pl:Array (Nat×Nat),(fs.mapM λ(f:Field)=>(do pure (f.offset,<-sizeOf f.type):Sem (Nat×Nat))).run P w=.ok pl w /\ ∀i:Nat,pl[i]? = NK P fs i:=by
 have key:∀l:List Field,(∀f∈l,∃n,bV P f.type=B1 n) ->
  ∃pl:List (Nat×Nat),(l.mapM λ(f:Field)=>(do pure (f.offset,<-sizeOf f.type):Sem (Nat×Nat))).run P w=.ok pl w /\ ∀i:Nat,pl[i]? = (l[i]?).bind λ(f:Field)=>(bV P f.type).bind λ n=>B1 (f.offset,n):=by
  intro l
  induction l with
  |nil=>simp_all
  |cons f l ih =>
   intro hl;have⟨n,hn⟩:=hl f (by simp);have⟨pl,b,c⟩:=ih (λ g hg=>hl g (by simp[hg]));refine⟨(f.offset,n)::pl,?_,λ i=>?_⟩
   .simp_all [uw]
   grind
 have⟨pl,b,c⟩:=key fs.toList (by grind);simp_all[Array.mapM_eq_mapM_toList,NK]
def qye{o:P7}{t:Lx}{parts:Array (Nat×M7)}{z:AV}{fs:Array Field}{b:List (Nat×Nat)}(ho:o.op=.build t parts)(r:zeroOf P t=B1 z)
 (A:P.underlying t=B1 (.struct fs)) (a:∀f∈fs,∃n,bV P f.type=B1 n) (hp:BN (NK P fs) parts.toList=B1 b):dv P o (parts.toList.map (·.2)) (Op.build z.cells b):=by
 intro D θ ρ w vs v h c;have⟨u,s,d⟩:=KV (w:=w) r;have⟨pl,x,l⟩:=xa7 (w:=w) fs a;unfold Op.build at c;cases g:jH z.cells b vs with
 |none=>grind
 |some out =>
  rw[g]at c;cases c;have j:bN D θ vs (parts.toList.map λ p=>ρ p.2):=by grind [Function.comp_def]
  have⟨cout,y,m⟩:=Y4 (ρ:=ρ) b vs parts.toList (NK P fs) out hp j z.cells u.cells.toList (d D θ).cells g;refine⟨.agg cout.toArray,.inl ?_,VR.agg m⟩;have q:(λ i=>pl[i]?)=NK P fs:=funext l;simp_all[execOp,Instr.build,kq]
def q03{o:P7}{t e:Lx}{parts:Array (Nat×M7)}{z:AV}{len n:Nat}{a:List (Nat×Nat)}(ho:o.op=.build t parts)(r:zeroOf P t=B1 z)
 (q:P.underlying t=B1 (.array len e)) (hn:bV P e=B1 n) (hp:BN (ML n) parts.toList=B1 a):dv P o (parts.toList.map (·.2)) (Op.build z.cells a):=by
 intro D θ ρ w vs v h b;have⟨s,c,d⟩:=KV (w:=w) r;unfold Op.build at b;cases f:jH z.cells a vs with
 |none=>grind
 |some out =>
  rw[f]at b;cases b;have g:bN D θ vs (parts.toList.map λ p=>ρ p.2):=by grind [Function.comp_def]
  have⟨cout,j,l⟩:=Y4 (ρ:=ρ) a vs parts.toList (ML n) out hp g z.cells s.cells.toList (d D θ).cells f;refine⟨.agg cout.toArray,.inl ?_,VR.agg l⟩;simp only[execOp,ho,Instr.build,NG,c,NA,kq q,uw hn];have e:(parts.map λ(p:Nat×M7)=>(p.1,ρ p.2)).toList=parts.toList.map λ p=>(p.1,ρ p.2):=by simp
  simp only[CD]at j;have m:(λ i=>B1 (i*n,n))=ML n:=rfl;simp_all
end
end Go.Am
namespace Go.Am
section
variable{P:Jl}{D:Nat->Prop}{θ:Th}{ρ:M7->K1}{w:N6}
def nh(D:Nat->Prop)(θ:Th)(ρ:M7->K1):Option M7->Option AV->Prop
 |none,a=>a=B5
 |some x,a=>∃v,a=B1 v/\VR D θ v (ρ x)
def Uk:∀(opts:List (Option M7))(pre rest:List AV),bN D θ rest ((kA opts).map ρ) -> ∀(j:Nat)(o:Option M7)(idx:Option Nat),opts[j]? = B1 o->(gM pre.length opts)[j]? = B1 idx ->
 ∀a,arg (pre++rest) idx=B1 a->nh D θ ρ o a
 |[],pre,rest,h,j,o,idx,ho,hi,a,ha=>by grind
 |none::opts,pre,rest,h,j,o,idx,ho,hi,a,ha=>by
  cases j with
  |zero =>
   simp only[gM,zj,qk]at ho hi;subst ho;subst hi;simp only[arg,qk]at ha;exact ha.symm
  |succ j=>exact Uk opts pre rest h j o idx (by simpa using ho) (by simpa[gM]using hi) a ha
 |some x::opts,pre,rest,h,j,o,idx,ho,hi,a,ha=>by
  cases rest with
  |nil=>have:=h.length;grind [kA]
  |cons v rest =>
   have⟨c,cs,b,d,f⟩:=h.eI;simp only[kA,kh,zz]at b;obtain⟨rfl,rfl⟩:=b;cases j with
   |zero =>
    simp only[gM,zj,qk]at ho hi;subst ho;subst hi;simp only[arg,jN]at ha;rw[z4 (qm _)]at ha;simp at ha;exact⟨v,ha.symm,d⟩
   |succ j =>
    refine Uk opts (pre ++ [v]) rest f j o idx (by simpa using ho) (by simpa[gM]using hi) a ?_
    simpa using ha
def YG{o:Option M7}{a:Option AV}{d mx r:Nat}(h:nh D θ ρ o a)(hb:bound a d mx=B1 r) :
 (match o with
  |none=>r=d
  |some x=>(∀code y,mx<=y->(Instr.sliceBound (ρ x) y code).run P w=.ok r w)/\r<=mx):=by
 cases o with
 |none =>
  grind [nh,bound]
 |some x =>
  obtain⟨v,rfl,g⟩:=h;unfold bound at hb;split at hb
  .grind
  .rename_i k i heq;cases heq;cases hle:Nu i mx<;>rw[hle]at hb
   .cases hb
   .injection hb with hb;subst hb
    have b:i<=mx:=by simpa[ub]using hle
    refine⟨λ code y j=>?_,b⟩;have c:(0:Int)<=(i:Int)/\(i:Int)<=(y:Int):=by omega
    have f:i<=y:=by omega
    simp[Instr.sliceBound,<-g.now,aB,asIntOf,c]
  .cases hb
def QM{lo c mx:Option M7}{a b m:Option AV}{g:Bool}{len cap low M Y h l:Nat}(ha:nh D θ ρ lo a)(hb:nh D θ ρ c b)(hm:nh D θ ρ mx m)
 (i:(mx=B5/\M=cap) \/ ∃d,bound m d low=B1 M/\low<=cap/\mx.isSome=B4) (q:Y<=M) (n:bound b len Y=B1 h) (hl:bound a 0 h=B1 l) (o:mx.isSome=B4->c.isSome=B4) :
 (BF g len cap (lo.map ρ) (c.map ρ) (mx.map ρ)).run P w=.ok (l,h,M) w:=by
 have e2:=YG (P:=P) (w:=w) hb n;have p:=YG (P:=P) (w:=w) ha hl;cases mx with
 |none =>
  obtain⟨_,rfl⟩|⟨_,_,_,f⟩:=i
  .cases c with
   |none =>
    simp only at e2;subst e2;cases lo with
    |none=>simp_all[BF]
    |some x=>simp_all[BF]
   |some y =>
    cases lo with
    |none=>simp_all[BF]
    |some x=>simp_all[BF]
  grind
 |some z =>
  obtain⟨f,_⟩|⟨d,f,j,_⟩:=i
  .cases f
  .have e1:=YG (P:=P) (w:=w) hm f;cases c with
   |none=>grind
   |some y =>
    cases lo with
    |none=>simp_all[BF]
    |some x=>simp_all[BF]
theorem xh7(v:AV)(d a:Nat){mx:Nat}:bound (B1 v) d mx=bound (B1 v) a mx:=by
 cases v<;>try rfl
 rename_i k n;cases n<;>rfl
def JQ{o:Option M7}{a:Option AV}{d mx r:Nat}(h:nh D θ ρ o a)(hb:bound a d mx=B1 r)(b:d<=mx):r<=mx:=by
 cases o with
 |none=>grind [nh,bound]
 |some x =>
  obtain⟨v,rfl,c⟩:=h;unfold bound at hb;split at hb
  .grind
  .grind [ub]
  grind
def W_(lo a mx:Option M7):∃i j k,gM 0 [lo,a,mx]=[i,j,k]:=by cases lo<;>cases a<;>cases mx<;>simp[gM]
def q8w{size:Nat}{x:AV}{c:K1}{lo A mx:Option M7}{a b m:Option AV}{v:AV}(F:VR D θ x c)(ha:nh D θ ρ lo a)(hb:nh D θ ρ A b)(hm:nh D θ ρ mx m)(f:dk size x a b m=B1 v) :
 ∃ad len cap l h M,c=.slice ad len cap/\(∀o,(BF o len cap (lo.map ρ) (A.map ρ) (mx.map ρ)).run P w=.ok (l,h,M) w) /\
  VR D θ v (.slice (if M=l then ad else ad.map (·.add (l*size))) (h-l) (M-l)):=by
 have hr:=F.now;unfold dk at f;split at f
 .-- nil
  split at f
  .rename_i R;cases j:bound b 0 0 with
   |none=>grind
   |some h =>
    rw[j]at f;simp only[qr]at f;cases hl:bound a 0 h with
    |none=>grind
    |some l =>
     rw[hl]at f;cases f;have p:mx=none:=by
      cases mx with
      |none=>rfl
      |some z=>have⟨_,q,_⟩:=hm;cases q
     subst p;have G:h=0/\l=0:=by
      have S:=JQ hb j (qm _);have T:=JQ ha hl (xw _);omega
     obtain⟨rfl,rfl⟩:=G;refine⟨B5,0,0,0,0,0,hr.symm,λ o=>QM (low:=0) ha hb hm (by grind) (qm _) j hl (by simp),λ θ' _=>by simp[aB]⟩
  grind
 .-- a slice of a known capacity
  rename_i bb oo n t;split at f
  .cases f
  .rename_i hnn;cases C:bound m t t with
   |none=>grind
   |some M =>
    rw[C]at f;simp only[qr]at f;cases j:bound b n M with
    |none=>grind
    |some h =>
     rw[j]at f;simp only[qr]at f;cases hl:bound a 0 h with
     |none=>grind
     |some l =>
      rw[hl]at f;cases f;have O:mx.isSome=B4->A.isSome=true:=by
       intro q;cases mx with
       |none=>cases q
       |some z =>
        have⟨_,X,_⟩:=hm;cases A with
        |some _=>rfl
        |none=>grind [nh]
      have I:(mx=B5/\M=t) \/ ∃d,bound m d t=B1 M/\t<=t/\mx.isSome=true:=by
       cases mx with
       |none=>grind [nh,bound]
       |some z=>grind
      refine⟨_,n,t,l,h,M,hr.symm,λ o=>QM ha hb hm I (qm _) j hl O,λ θ' hg=>?_⟩;have g:=F θ' hg;rw[<-hr]at g;simp only[aB,BO,qk,C5]at g⊢
      by_cases e:M=l
      .simp_all
      .have e':JW M l=false:=by simp_all[Bool.eq_false_iff]
       grind [zJ]
 .-- a grown row's slice
  rename_i bb i B s alt n;cases J:(JW s size && Nu i B)<;>rw[J]at f
  .cases f
  .simp only[zm,jy,ub]at J;obtain⟨rfl,him⟩:=J;simp only[xt]at f;split at f
   .-- no third bound
    rename_i hi';have p:mx=none:=by
     cases mx with
     |none=>rfl
     |some z=>have⟨_,q,_⟩:=hm;cases q
    subst p;cases j:bound b n (B-i)with
    |none=>grind
    |some h =>
     rw[j]at f;simp only[qr]at f;cases hl:bound a 0 h with
     |none=>grind
     |some l =>
      rw[hl]at f;simp only[qr]at f;cases u:Nu h (B-i)<;>rw[u]at f
      .cases f
      .cases f;have Z:h<=B-i:=by simp_all
       have L:=JQ ha hl (xw _);refine⟨_,n,_,l,h,_,hr.symm,λ o=>QM (low:=0) ha hb hm (.inl ⟨rfl,rfl⟩) (Nat.le_add_right _ _) j hl (by simp),λ θ' hg=>?_⟩;have g:=F θ' hg;rw[<-hr]at g;simp only[aB,BO,qk,C5,uj,FO]at g;have⟨⟨q1,S⟩,T⟩:=g;have r:θ'.ext bb = θ.ext bb:=by omega
       have hmul:(i+l)*s=i*s+l*s:=vz i l s;simp only[aB,BO,FO,r,hmul];refine⟨?_,by omega⟩
       by_cases e:B-i + θ.ext bb=l
       .rw [xg e,xg (by omega)];simp_all
       .rw [qy e,qy (by omega)];simp only[GA,zJ,qk,C5,uj]
        grind
   .cases f
   .-- a third bound
    rename_i V W;cases C:bound m 0 (B-i)with
    |none=>grind
    |some M =>
     rw[C]at f;simp only[qr]at f;cases j:bound b 0 M with
     |none=>grind
     |some h =>
      rw[j]at f;simp only[qr]at f;cases hl:bound a 0 h with
      |none=>grind
      |some l =>
       rw[hl]at f;simp only[qr]at f;cases u:JW M l<;>rw[u]at f
       .cases f;have N:M≠l:=by intro e;simp_all
        obtain⟨z,X,Q⟩:∃z,mx=B1 z /\ ∃v,m=B1 v:=by
         cases mx with
         |none=>grind [nh]
         |some z=>have⟨v,q,_⟩:=hm;grind
        have⟨mv,hmv⟩:=Q;have E:A.isSome=true:=by
         cases A with
         |some _=>rfl
         |none=>grind [nh]
        have U:=JQ hm C (xw _);have Y:=JQ hb j (xw _);have L:=JQ ha hl (xw _);have K:bound b n M=B1 h:=by
         have⟨y,hy⟩:=Option.isSome_iff_exists.1 E;subst hy;have⟨bv,q,_⟩:=hb
         grind [xh7]
        refine⟨_,n,_,l,h,M,hr.symm,λ o=>QM ha hb hm (.inr ⟨0,C,Nat.le_add_right _ _,by rw[X];rfl⟩) (qm _) K hl (λ _=>E),λ θ' hg=>?_⟩;have g:=F θ' hg;rw[<-hr]at g;simp only[aB,BO,qk,C5,uj,FO]at g;have⟨⟨q1,S⟩,T⟩:=g;have r:θ'.ext bb = θ.ext bb:=by omega
        have hmul:(i+l)*s=i*s+l*s:=vz i l s;simp only[aB,BO,uj,hmul,qy N,GA,zJ,qk,C5]
        grind
       grind
 .-- a slice without room
  rename_i bb;split at f
  .rename_i R;cases j:bound b 0 0 with
   |none=>grind
   |some h =>
    rw[j]at f;simp only[qr]at f;cases hl:bound a 0 h with
    |none=>grind
    |some l =>
     rw[hl]at f;cases f;have p:mx=none:=by
      cases mx with
      |none=>rfl
      |some z=>have⟨_,q,_⟩:=hm;cases q
     subst p;have G:h=0/\l=0:=by
      have S:=JQ hb j (qm _);have T:=JQ ha hl (xw _);omega
     obtain⟨rfl,rfl⟩:=G;refine⟨_,0,0,0,0,0,hr.symm,λ o=>QM (low:=0) ha hb hm (by grind) (qm _) j hl (by simp),λ θ' hg=>?_⟩;rw[F θ' hg,<-hr];rfl
  grind
 grind
def xdf{o:P7}{t e:Lx}{x:M7}{lo n mx:Option M7}{size:Nat}(ho:o.op=.slice t x lo n mx)(K:P.underlying t=B1 (.slice e))(hs:bV P e=B1 size) :
 dv P o (x::kA [lo,n,mx]) (Op.aA size (gM 0 [lo,n,mx])):=by
 intro D θ ρ w vs v h f;have⟨i,j,k,s⟩:=W_ lo n mx;rw[s]at f;unfold Op.aA at f;split at f
 .rename_i F E G y g heq;injection heq with e1 e2;injection e2 with e2 r;injection r with r _;subst e1;subst e2;subst r
  have⟨c,cs,p,z,C⟩:=h.eI;simp only[kh,zz]at p;obtain⟨rfl,rfl⟩:=p;have d:=λ(q:Nat)(B:Option M7)(idx:Option Nat)(p:[lo,n,mx][q]? = B1 B)(z:[i,j,k][q]? = B1 idx)=>Uk [lo,n,mx] [] g C q B idx p (by grind);cases ha:arg g i with
  |none=>grind
  |some a =>
   rw[ha]at f;simp only[qr]at f;cases hb:arg g j with
   |none=>grind
   |some b =>
    rw[hb]at f;simp only[qr]at f;cases hm:arg g k with
    |none=>grind
    |some m =>
     rw[hm]at f;simp only[qr]at f;have⟨ad,len,cap,l,J,M,I,A,u⟩:=q8w (P:=P) (w:=w) z (d 0 lo i rfl rfl a ha) (d 1 n j rfl rfl b hb) (d 2 mx k rfl rfl m hm) f;refine⟨_,.inl ?_,u⟩;simp_all[execOp,Instr.sliceAt,kq,Instr.slice,uw]
 grind
def xaw{o:P7}{t e:Lx}{x:M7}{lo r mx:Option M7}{n size:Nat}(ho:o.op=.slice t x lo r mx)(O:P.underlying t=B1 (.array n e))(hs:bV P e=B1 size) :
 dv P o (x::kA [lo,r,mx]) (Op.cT n size (gM 0 [lo,r,mx])):=by
 intro D θ ρ w vs v h f;have⟨i,j,k,C⟩:=W_ lo r mx;rw[C]at f;unfold Op.cT at f;split at f
 .rename_i R N S p y g heq;injection heq with e1 e2;injection e2 with e2 B;injection B with B _;subst e1;subst e2;subst B
  have⟨c,cs,z,A,K⟩:=h.eI;simp only[kh,zz]at z;obtain⟨rfl,rfl⟩:=z;have d:=λ(q:Nat)(F:Option M7)(idx:Option Nat)(z:[lo,r,mx][q]? = B1 F)(A:[i,j,k][q]? = B1 idx)=>Uk [lo,r,mx] [] g K q F idx z (by grind);cases ha:arg g i with
  |none=>grind
  |some a =>
   rw[ha]at f;simp only[qr]at f;cases hb:arg g j with
   |none=>grind
   |some b =>
    rw[hb]at f;simp only[qr]at f;cases hm:arg g k with
    |none=>grind
    |some m =>
     rw[hm]at f;simp only[qr]at f;have Q:VR D θ (.slice p y n n) (.slice (B1 ⟨θ.cq p,θ.off p+y,B5⟩) n n):=λ θ' hg=>by
      have:=A θ' hg;rw[<-A.now]at this;grind [aB]
     have⟨ad,len,cap,l,T,M,L,u,E⟩:=q8w (P:=P) (w:=w) Q (d 0 lo i rfl rfl a ha) (d 1 r j rfl rfl b hb) (d 2 mx k rfl rfl m hm) f;injection L with G I J;subst G;subst I;subst J
     refine⟨_,.inl ?_,E⟩;have s:=u B2;simp only[execOp,ho,Instr.sliceAt,NG,kq O,NA,<-A.now,aB,CE,B8,s,uw hs]
     grind
 grind
def _w{mx:Bool}{k:OM}:∀(l:List AV)(cs:List K1)(a r:Int),bN D θ l cs->Op.iJ mx a l=B1 r ->
 (cs.foldlM (λ x y=>if mx then Builtin.max2 x y else Builtin.min2 x y) (K1.int k a)).run P w=.ok (.int k r) w
 |[],cs,a,r,h,hg=>by
  have:=h.mC;simp_all[Op.iJ]
 |v::l,cs,a,r,h,hg=>by
  obtain⟨c,cs',rfl,f,hl⟩:=h.eI;cases v with
  |int k' b =>
   simp only[Op.iJ]at hg;have g:=_w (mx:=mx) (k:=k) l cs' _ r hl hg;have d:=f.now;simp only[aB]at d;subst d;simp only[Kk]at g;have s1:(Builtin.min2 (.int k a) (.int k' b)).run P w=.ok (.int k (if b<a then b else a)) w:=rfl;have s2:(Builtin.max2 (.int k a) (.int k' b)).run P w=.ok (.int k (if b > a then b else a)) w:=rfl;cases mx
   .simp only[List.foldlM_cons,ja,wn,NG,s1,NA]
    grind
   .simp only[List.foldlM_cons,vG,NG,s2,NA]
    grind
  |_=>grind [Op.iJ]
def xfs{o:P7}{c:Call}{xs:List M7}{mx:Bool}(ho:o.op=.call c)(m:c.callee=.builtin (if mx then .max else .min))(n:c.args.toList=xs):dv P o xs (Op.fg mx):=by
 intro D θ ρ w vs v h d;have⟨consts,he⟩:=Kr (ρ:=ρ) ho m;unfold Op.fg at d;split at d
 .rename_i k a l;cases hg:Op.iJ mx a l with
  |none=>rw[hg]at d;cases d
  |some r =>
   rw[hg]at d;cases d;have⟨p,cs',g,i,j⟩:=h.eI;have b:=_w (P:=P) (w:=w) (k:=k) l cs' a r j hg;have f:=i.now;simp only[aB]at f;subst f;refine⟨.int k r,.inl ?_,.int _ _⟩;rw[he,AO n,g];cases mx
   .simp only[ja,wn]at b⊢;simp[builtin,Builtin.min_,b]
   simp_all[builtin,Builtin.max_]
 grind
def af0{o:P7}{c:Call}{f:FuncId}{fn:Func}{e:Array K1->Sem K1}(ho:o.op=.call c)(d:c.callee=.value (.func f))(h:ρ (.func f)=.func (.func f) #[] #[])(g:P.funcs[f]? = B1 fn)(hb:fn.body=B5)
 (hn:fn.name≠ "runtime.NumGoroutine") (a:Extern.findNext fn=B5) (b:Extern.find fn=B1 e) :
 (execOp ρ o).run P w=((e (c.args.map ρ)).run P w).andThen λ v w'=>.ok (.value v) w':=by
 simp[execOp,ho,resolve,d,h,BX,invoke,callFunc,g,hb,hn,a,b]
def xel(s:List UInt8):(Extern.Bytes.bytesOf (.string ⟨s.toArray⟩)).run P w=.ok ⟨s.toArray⟩ w:=rfl
def xh4(n:Int):(Extern.Bytes.asByte (.int .u8 n)).run P w=.ok (BU n.toNat) w:=rfl
theorem xe0(c:UInt8)(s:List UInt8)(k:Nat):IC c s k=((MX s.length).find? λ i=>s[i]! == c).map (·+k):=by
 induction s generalizing k with
 |nil=>rfl
 |cons x s ih =>
  simp only[IC,WU,zu];rw[List.range_succ_eq_map,List.find?_cons];have hm:(List.find? (λ i=>(x::s)[i]! == c) (List.map Nat.succ (MX s.length)))=((MX s.length).find? λ i=>s[i]! == c).map Nat.succ:=by
   rw[List.find?_map];rfl
  rw[hm,ih (k+1)];have a:(x::s)[0]! = x:=rfl;rw[a];cases h:(x == c)
  .simp only[zn,Option.map_map];congr 1
   grind
  .simp
def zD(s:List UInt8)(i:Nat):(⟨s.toArray⟩:ByteArray)[i]! = s[i]!:=by
 by_cases h:i<s.length
 .have a:i<(⟨s.toArray⟩:ByteArray).size:=by grind [LP]
  rw[getElem!_pos (⟨s.toArray⟩:ByteArray) i a,getElem!_pos s i h];rfl
 grind [LP]
def xcf{P:Jl}{w:N6}(s:List UInt8)(n:Int):(Extern.BytealgIndexByte.indexByte #[.string ⟨s.toArray⟩,.int .u8 n]).run P w =
 .ok (match(MX s.length).find? (λ i=>s[i]! == BU n.toNat)with|some i=>goInt i|none=>goInt (-1)) w:=by
 change Sem.run P (Extern.Bytes.bytesOf (.string ⟨s.toArray⟩) >>= _) w=_;rw[NG,xel];change Sem.run P (Extern.Bytes.asByte (.int .u8 n) >>= _) w=_;rw[NG,xh4];have a:(λ i=>(⟨s.toArray⟩:ByteArray)[i]! == BU n.toNat)=(λ i=>s[i]! == BU n.toNat):=funext λ i=>by rw[zD]
 simp only[NA,LP,a];cases(MX s.length).find? (λ i=>s[i]! == BU n.toNat)<;>rfl
def qss{o:P7}{c:Call}{f:FuncId}{fn:Func}{xs:List M7}(ho:o.op=.call c)(l:c.callee=.value (.func f))(m:P.funcs[f]? = B1 fn)(hb:fn.body=B5)
 (hn:fn.name≠ "runtime.NumGoroutine") (g:Extern.findNext fn=B5) (j:Extern.find fn=B1 Extern.BytealgIndexByte.indexByte) (p:c.args.toList=xs) :
 ∀(D:Nat->Prop)θ(ρ:M7->K1)w vs v,ρ (.func f)=.func (.func f) #[] #[]->bN D θ vs (xs.map ρ)->Op.aF vs=B1 v -> ∃c,sV P (execOp ρ o) w c w/\VR D θ v c:=by
 intro D θ ρ w vs v q h b;unfold Op.aF at b;split at b
 .rename_i s n;obtain⟨x,y,rfl,ha,a⟩:=h.rE;cases b;refine⟨_,.inl ?_,.int _ _⟩;rw[af0 ho l q m hb hn g j,AO p];have d:(λ i=>(⟨s.toArray⟩:ByteArray)[i]! == BU n.toNat)=(λ i=>s[i]! == BU n.toNat):=funext λ i=>by rw[zD]
  simp only[kh,FN,<-ha.now,<-a.now,aB,xcf,NA]
  grind [xe0,goInt]
 grind
def xmt{o:P7}(xs:List M7):dv P o xs Op.fail:=by
 intro D θ ρ w vs v _ a;cases a
end
end Go.Am
namespace Go.Am
def qW(P:Jl)(o:P7)(xs:List M7)(f:List AV->ar->Option AV):Prop :=
 ∀(base:Nat)(D:Nat->Prop)θ H(ρ:M7->K1)w vs v,HR P base D θ H w->bN D θ vs (xs.map ρ)->f vs H=B1 v -> ∃c,sV P (execOp ρ o) w c w/\VR D θ v c
section
variable{P:Jl}
def xjg{o:P7}{t:Lx}{x:M7}(ho:o.op=.load t x)(j:nG P t=B1 B5):qW P o [x] Op.ae:=by
 intro base D θ H ρ w vs v i h a;unfold Op.ae at a;split at a
 .rename_i b off;have⟨l,he,ha⟩:=h.pO;simp only[zz,uj]at he;subst he;have⟨c,f,g⟩:=i.ae a;refine⟨c,.inl ?_,g⟩;have⟨d,_⟩:=Ur (w:=w) j;simp only[execOp,ho,<-ha.now,aB,Instr.loadAt,CE,loadVar,NG,B8,NA,d,Nn,ja,wn,f]
 grind
def xjh{o:P7}{t:Lx}{x:M7}{n:Nat}(ho:o.op=.load t x)(j:nG P t=B1 (B1 n)):qW P o [x] (Op.aq n):=by
 intro base D θ H ρ w vs v i h a;unfold Op.aq at a;split at a
 .rename_i b off;have⟨m,he,ha⟩:=h.pO;simp only[zz,uj]at he;subst he;cases hl:H.aq b off n with
  |none=>grind
  |some l =>
   rw[hl]at a;cases a;have⟨cs,f,g,_⟩:=i.aq hl;refine⟨.agg cs.toArray,.inl ?_,.agg g⟩;have⟨c,d⟩:=Ur (w:=w) j;simp only[execOp,ho,<-ha.now,aB,Instr.loadAt,CE,loadVar,NG,B8,NA,c,d n rfl,vq,vG,f]
 grind
theorem HR.fC{base:Nat}{D:Nat->Prop}{θ:Th}{H:ar}{w:N6}(h:HR P base D θ H w){b:Nat}{m:List (AV×AV×Nat)×Nat}(hb:H.fC b=B1 m) :
 H.get b=B1 (.map m.1 m.2)/\D b /\ ∃ms:List Bh,w.heap[θ.cq b]? = B1 (.map ms.toArray m.2)/\dD D θ m.1 ms:=by
 unfold ar.fC at hb;cases hg:H.get b with
 |none=>grind
 |some o =>
  rw[hg]at hb;have⟨f,co,d,hr⟩:=h.obj b o hg;cases o<;>simp only[reduceCtorEq,qk]at hb;subst hb;have⟨ms,a,c⟩:=hr
  grind
def Kl{w:N6}{r:Nat}{ms:Array Bh}{c:Nat}(h:w.heap[r]? = B1 (.map ms c)):(getObj r).run P w=.ok (.map ms c) w:=by
 simp[getObj,Sem.run,h]
def dD.length{D:Nat->Prop}{θ:Th}:∀(es:List (AV×AV×Nat))(ms:List Bh),dD D θ es ms->es.length=ms.length
 |[],[],_=>rfl
 |_::es,_::ms,⟨_,h⟩=>by simp[dD.length es ms h]
 |[],_::_,h=>h.elim
 |_::_,[],h=>h.elim
def VR.isAgg{D:Nat->Prop}{θ:Th}{l:List AV}{c:K1}(h:VR D θ (.agg l) c):∃cs:List K1,c=.agg cs.toArray/\bN D θ l cs:=h.fE
def xey{t:Lx}{fs:Array Field}(h:P.underlying t=B1 (.struct fs)):P.fieldsOf t=fs:=by
 simp[Jl.fieldsOf,h]
def xig{x y:AV}{r:Bool}(h:aY .int x y=B1 r):∃k a b,x=.int k a/\y=.int k b/\r=(a == b):=by
 cases x<;>cases y<;>simp only[aY,reduceCtorEq]at h;rename_i k a k' b;cases hk:sJ k k' with
 |false=>grind
 |true =>
  rw[hk]at h;simp only[xt,qk]at h;have:k=k':=by simpa[Sv]using hk
  subst this
  grind [DC]
def xih{x y:AV}{r:Bool}(h:aY .str x y=B1 r):∃a b,x=.str a/\y=.str b/\r=(a == b):=by
 cases x<;>cases y<;>simp only[aY,reduceCtorEq,qk]at h
 grind [K5]
def xew{x y:AV}{r:Bool}(h:aY .bool x y=B1 r):∃a b,x=.bool a/\y=.bool b/\r=(a == b):=by
 cases x<;>cases y<;>simp only[aY,reduceCtorEq,qk]at h
 grind
theorem TO{off:Nat}{n:Option Nat}{t rest:aT}{x y:AV}{r:Bool}(h:aY (.part off n t rest) x y=B1 r) :
 ∃l c a b q,x=.agg l/\y=.agg c/\partAt l off n=B1 a/\partAt c off n=B1 b/\aY t a b=B1 q/\(q=B4->aY rest (.agg l) (.agg c)=B1 r)/\(q=B2->r=B2):=by
 cases x<;>cases y<;>simp only[aY,reduceCtorEq]at h
 grind [qj]
theorem Sq{x y:AV}{r:Bool}(h:aY .nil x y=B1 r):r=B4/\(∃l,x=.agg l)/\(∃l,y=.agg l):=by
 cases x<;>cases y<;>simp only[aY,reduceCtorEq,qk]at h
 grind
def u_(s:Nat)(a:Option Nat)(q:aT)(n i:Nat){x y:AV}{r:Bool}(h:aY (dH.itemsT s a q n i) x y=B1 r):(∃l,x=.agg l)/\(∃l,y=.agg l):=by
 cases n with
 |zero=>exact(Sq h).2
 |succ n=>have⟨l,d,_,_,_,b,c,_⟩:=TO h;grind
def q4k{go:Lx->Option aT}{fs:List Field}{q:aT}(a:dH.fieldsT P go fs=B1 q){x y:AV}{r:Bool}(h:aY q x y=B1 r):(∃l,x=.agg l)/\(∃l,y=.agg l):=by
 cases fs with
 |nil=>cases a;grind [Sq]
 |cons f fs =>
  simp only[dH.fieldsT]at a;split at a
  .cases a
  .simp only[qj]at a
   grind [TO]
def Er(P:Jl)(w:N6)(D:Nat->Prop)(θ:Th)(m:Nat)(t:Lx)(q:aT):Prop :=
 ∀(x y:AV)(cx cy:K1)(r:Bool),VR D θ x cx->VR D θ y cy->aY q x y=B1 r->(BJ m t cx cy).run P w=.ok r w
def qzg{w:N6}{D:Nat->Prop}{θ:Th}{m:Nat}{go:Lx->Option aT}(o:∀t q,go t=B1 q->Er P w D θ m t q){l p:List AV}{cs cs':List K1}(hl:bN D θ l cs)(d:bN D θ p cs') :
 ∀(fs:List Field)(q:aT)(r:Bool),dH.fieldsT P go fs=B1 q->aY q (.agg l) (.agg p)=B1 r->(Op.eqFields m cs.toArray cs'.toArray fs).run P w=.ok r w
 |[],q,r,b,h=>by
  cases b;rw[(Sq h).1];simp[Op.eqFields]
 |f::fs,q,r,b,h=>by
  simp only[dH.fieldsT]at b;split at b
  .cases b
  .rename_i hn;simp only[qj]at b;have⟨a,ha,F,j,G,n,b⟩:=b;cases b;have⟨l1,l2,x,y,e,g,i,u,v,z,A,I⟩:=TO h;injection g with g;injection i with i;subst g;subst i
   have⟨c,B,v1⟩:=Lu (w:=w) ha hl u;have⟨s,C,v2⟩:=Lu (w:=w) ha d v;have E:=o f.type F j x y c s e v1 v2 z;simp only[Op.eqFields,hn,ne_eq,not_false_eq_true,vG,NG,B,C,E,NA];cases e
   .simp_all
   .simpa using qzg o hl d fs G r n (A rfl)
def q4i{w:N6}{D:Nat->Prop}{θ:Th}{m:Nat}{e:Lx}{s:Nat}{a:Option Nat}{q:aT}(ha:nG P e=B1 a)(j:Er P w D θ m e q){l o:List AV}{cs cs':List K1}(hl:bN D θ l cs)(d:bN D θ o cs') :
 ∀(n i:Nat)(r:Bool),aY (dH.itemsT s a q n i) (.agg l) (.agg o)=B1 r->(Op.eqItems m e s cs.toArray cs'.toArray (List.range' i n)).run P w=.ok r w
 |0,i,r,h=>by rw[(Sq h).1];simp[Op.eqItems]
 |n+1,i,r,h=>by
  have⟨l1,l2,x,y,b,f,g,t,u,v,z,E⟩:=TO h;injection f with f;injection g with g;subst f;subst g
  have⟨c,A,v1⟩:=Lu (w:=w) ha hl t;have⟨p,B,v2⟩:=Lu (w:=w) ha d u;have C:=j x y c p b v1 v2 v;simp only[List.range'_succ,Op.eqItems,NG,A,B,C,NA];cases b
  .simp_all
  .simpa using q4i ha j hl d n (i+1) r (z rfl)
def T0(m:Nat){D:Nat->Prop}{θ:Th}(w:N6):∀(d:Nat)(t:Lx)(q:aT),dH P d t=B1 q->Er P w D θ (d+m) t q
 |0,_,_,h=>by cases h
 |d+1,t,q,h=>by
  intro x y G I r g j hr;unfold dH at h;have v:d+1+m=(d+m)+1:=by omega
  rw[v];cases hu:P.underlying t with
  |none=>grind
  |some kd =>
   rw[hu]at h;cases kd
   case int k0 =>
    cases h;obtain⟨k,a,b,rfl,rfl,rfl⟩:=xig hr;rw[<-g.now,<-j.now,aB,aB,run_equalIn_int w _ t k k0 a b hu]
   case string =>
    cases h;obtain⟨a,b,rfl,rfl,rfl⟩:=xih hr;rw[<-g.now,<-j.now,aB,aB,run_equalIn_string w _ t _ _ hu,yb,yb]
   case bool =>
    cases h;obtain⟨a,b,rfl,rfl,rfl⟩:=xew hr;rw[<-g.now,<-j.now,aB,aB,run_equalIn_bool' w _ t _ _ hu]
   case struct fs =>
    simp only at h;split at h
    .cases h
    .rename_i p;have f:P.stoodInHeld t=false:=by simpa using p
     obtain⟨⟨l,rfl⟩,⟨E,rfl⟩⟩:=q4k h hr;obtain⟨cs,rfl,hl⟩:=g.fE;obtain⟨cs',rfl,c⟩:=j.fE;have u:=xey hu;rw[run_equalIn_struct w _ t _ _ (by rw[u];exact hu) f,u];exact qzg (λ t q C=>T0 m w d t q C) hl c _ _ _ h hr
   case array n e =>
    simp only[qj]at h;have⟨s,hs,a,ha,F,o,h⟩:=h;cases h;obtain⟨⟨l,rfl⟩,⟨E,rfl⟩⟩:=u_ _ _ _ _ _ hr;obtain⟨cs,rfl,hl⟩:=g.fE;obtain⟨cs',rfl,c⟩:=j.fE;have⟨i,A,B⟩:=hQ hs;rw[run_equalIn_array _ _ _ _ hu A,List.range_eq_range'];have z:P.cellsOf e=s:=by grind [Jl.cellsOf]
    rw[z];exact q4i ha (T0 m w d e F o) hl c n 0 r hr
   all_goals grind
theorem Tv{off:Nat}{n:Option Nat}{t rest:aT}{x:AV}(h:dh (.part off n t rest) x=B4) :
 ∃l a,x=.agg l/\partAt l off n=B1 a/\dh t a=B4/\dh rest (.agg l)=true:=by
 cases x<;>simp only[dh,ja]at h
 grind
def _t{x:AV}(h:dh .nil x=B4):∃l,x=.agg l:=by
 cases x<;>simp only[dh,ja]at h
 grind
def xfp(s:Nat)(a:Option Nat)(q:aT)(n i:Nat){x:AV}(h:dh (dH.itemsT s a q n i) x=B4):∃l,x=.agg l:=by
 cases n with
 |zero=>exact _t h
 |succ n=>have⟨l,_,b,_⟩:=Tv h;grind
def xc5{go:Lx->Option aT}{fs:List Field}{q:aT}(a:dH.fieldsT P go fs=B1 q){x:AV}(h:dh q x=B4):∃l,x=.agg l:=by
 cases fs with
 |nil=>cases a;exact _t h
 |cons f fs =>
  simp only[dH.fieldsT]at a;split at a
  .cases a
  .simp only[qj]at a
   grind [Tv]
def Jx(P:Jl)(w:N6)(D:Nat->Prop)(θ:Th)(em:Bool)(m:Nat)(t:Lx)(q:aT):Prop :=
 ∀(x:AV)(cx:K1),VR D θ x cx->dh q x=B4->(BZ em m t cx).run P w=.ok () w
def sM{w:N6}{D:Nat->Prop}{θ:Th}{em:Bool}{m:Nat}{e:Lx}{s:Nat}{a:Option Nat}{q:aT}(ha:nG P e=B1 a)(hs:bV P e=B1 s)(b:Jx P w D θ em m e q){l:List AV}{cs:List K1}(hl:bN D θ l cs) :
 ∀(n i:Nat),dh (dH.itemsT s a q n i) (.agg l)=B4 ->
  (forIn (List.range' i n) PUnit.unit (λ i _=>(do BZ em m e (<-part e cs.toArray (i*(<-sizeOf e)));pure (ForInStep.yield PUnit.unit):Sem (ForInStep PUnit)))).run P w=.ok PUnit.unit w
 |0,i,h=>by simp
 |n+1,i,h=>by
  have⟨l1,x,d,f,g,j⟩:=Tv h;cases d;have⟨c,o,v1⟩:=Lu (w:=w) ha hl f;have p:=b x c v1 g;simp only[List.range'_succ,List.forIn_cons,NG,uw hs,o,p,NA,B8]
  simpa using sM ha hs b hl n (i+1) j
def UN(em:Bool)(m:Nat){D:Nat->Prop}{θ:Th}(w:N6):∀(d:Nat)(t:Lx)(q:aT),dH P d t=B1 q->Jx P w D θ em (d+m) t q
 |0,_,_,h=>by cases h
 |d+1,t,q,h=>by
  intro x B j hr;unfold dH at h;have o:d+1+m=(d+m)+1:=by omega
  rw[o];cases hu:P.underlying t with
  |none=>grind
  |some kd =>
   rw[hu]at h;cases kd
   case int k0=>simp[BZ,kq hu]
   case string=>simp[BZ,kq hu]
   case bool=>simp[BZ,kq hu]
   case struct fs =>
    simp only at h;split at h
    .cases h
    .obtain ⟨l,rfl⟩:=xc5 h hr;obtain⟨cs,rfl,hl⟩:=j.fE;simp only[BZ,NG,kq hu,NA];rw[<-Array.forIn_toList];clear hu;generalize fs.toList=L at h
     induction L generalizing q with
     |nil=>simp
     |cons f L ihL =>
      simp only[dH.fieldsT]at h;split at h
      .cases h
      .rename_i hn;simp only[qj]at h;have⟨a,ha,i,b,A,g,h⟩:=h;cases h;have⟨l1,x,p,r,u,v⟩:=Tv hr;cases p;have⟨c,y,v1⟩:=Lu (w:=w) ha hl r;have z:=UN em m w d f.type i b x c v1 u;simp only[List.forIn_cons,NG,hn,ne_eq,not_false_eq_true,vG,NA,y,z,B8];exact ihL A v g
   case array n e =>
    simp only[qj]at h;have⟨s,hs,a,ha,i,b,h⟩:=h;cases h;obtain⟨l,rfl⟩:=xfp _ _ _ _ _ hr;obtain⟨cs,rfl,hl⟩:=j.fE;have:=sM (w:=w) (em:=em) ha hs (UN em m w d e i b) hl n 0 hr;simp_all[BZ,kq]
   all_goals grind
def XQ{em:Bool}{D:Nat->Prop}{θ:Th}{w:N6}{t:Lx}{q:aT}(h:pZ P t=B1 q){x:AV}{a:K1}(b:VR D θ x a)(hr:dh q x=B4) :
 (BZ em 10000 t a).run P w=.ok () w:=UN em 9980 w 20 t q h x a b hr
def Cy{D:Nat->Prop}{θ:Th}{w:N6}{t:Lx}{q:aT}(h:pZ P t=B1 q){x y:AV}{a b:K1}{r:Bool}(c:VR D θ x a)(d:VR D θ y b)(hr:aY q x y=B1 r) :
 (Cz t a b).run P w=.ok r w:=T0 9980 w 20 t q h x y a b r c d hr
def JT(D:Nat->Prop)(θ:Th):Option (Nat×AV)->Option (Nat×K1)->Prop
 |none,B5=>True
 |some (i,v),B1 (j,c)=>i=j/\VR D θ v c
 |_,_=>False
def qti{D:Nat->Prop}{θ:Th}{w:N6}{t:Lx}{q:aT}(h:pZ P t=B1 q){k:AV}{d:K1}(hk:VR D θ k d) :
 ∀(es:List (AV×AV×Nat))(ms:List Bh)(i:Nat)(r:Option (Nat×AV)),dD D θ es ms->findKey q k es i=B1 r ->
  ∃a,(BK t d ms i).run P w=.ok a w/\JT D θ r a
 |[],[],i,r,_,hr=>by
  simp only[findKey,qk]at hr;subst hr;exact⟨B5,by simp[BK],trivial⟩
 |(k',v,b)::es,e::ms,i,r,⟨⟨h1,h2,_⟩,hes⟩,hr=>by
  simp only[findKey,qj]at hr;have⟨c,j,hr⟩:=hr;have:=Cy (w:=w) h hk h1 j;cases c
  .have ⟨a,f,g⟩:=qti (w:=w) h hk es ms (i+1) r hes hr;exact⟨a,by simp[BK,this,f],g⟩
  .simp only[xt,qk]at hr;subst hr;exact⟨B1 (i,e.val),by simp[BK,this],rfl,h2⟩
 |[],_::_,_,_,h,_=>h.elim
 |_::_,[],_,_,h,_=>h.elim
def xfy{t:Lx}{d:TypeDesc}(hu:P.underlying t=B1 d){x y:K1}{b:Bool}(h:Instr.sameNow d x y=B1 b)(w:N6):(Cz t x y).run P w=.ok b w:=by
 unfold Instr.sameNow at h;split at h
 .rename_i k a k' c;split at h
  .rename_i hk;subst hk;cases h;exact run_equalIn_int w _ t _ _ _ _ hu
  grind
 .cases h;show(BJ (9999+1) t _ _).run P w=_
  grind [run_equalIn_string,beq_toListBytes]
 .cases h;exact run_equalIn_bool' w _ t _ _ hu
 grind
def _I{t:Lx}{d:TypeDesc}(hu:P.underlying t=B1 d){c:K1}(w:N6):∀(ms:List Bh)(i:Nat)(r a:Option (Nat×K1)),
 CX d c ms i=B1 r->(BK t c ms i).run P w=.ok a w->r=a
 |[],i,r,a,h,h'=>by
  simp_all[CX,BK]
 |e::ms,i,r,a,h,h'=>by
  simp only[CX]at h;cases hs:Instr.sameNow d c e.key with
  |none=>grind
  |some b =>
   rw[hs]at h;have:=xfy hu hs w;cases b
   .simp [BK,this]at h';exact _I hu w ms (i+1) r a h h'
   simp_all[BK]
def _1{D:Nat->Prop}{θ:Th}{w:N6}{t:Lx}{q:aT}(h:pZ P t=B1 q){k:AV}{b:K1}(hk:VR D θ k b){es:List (AV×AV×Nat)}{ms:List Bh}{r:Option (Nat×AV)}
 (c:dD D θ es ms) (hr:findKey q k es 0=B1 r):∃a,(Cx t b ms).run P w=.ok a w/\JT D θ r a:=by
 have⟨a,f,g⟩:=qti (w:=w) h hk es ms 0 r c hr;have hu:∃d,P.underlying t=B1 d:=by
  grind [pZ,dH]
 have⟨d,hu⟩:=hu;refine⟨a,?_,g⟩;simp only[Cx,NG,kq hu,NA];cases hn:CX d b ms 0 with
 |none=>simpa using f
 |some r2=>simp[_I hu w ms 0 r2 a hn f]
def xfv{o:P7}{t u e:Lx}{E kk:M7}{ok:Bool}{q:aT}{z:AV}(ho:o.op=.lookup t E kk ok)(hu:P.underlying t=B1 (.map u e))(B:pZ P u=B1 q)(J:zeroOf P e=B1 z) :
 qW P o [E,kk] (Op.lookup q z ok):=by
 intro base D θ H ρ w vs v I h a;have⟨A,f,g⟩:=KV (w:=w) J;unfold Op.lookup at a;split at a
 .rename_i k;have⟨x,y,he,ha,hb⟩:=h.rE;simp only[zz,uj]at he;obtain⟨rfl,rfl⟩:=he;cases c:dh q k with
  |false=>grind
  |true =>
   rw[c]at a;simp only[xt,qk]at a;have j:=λ em=>XQ (em:=em) (w:=w) B hb c;have C:(Cx u (ρ kk) []).run P w=.ok B5 w:=by
    have hu:∃d,P.underlying u=B1 d:=by
     grind [pZ,dH]
    have⟨d,hu⟩:=hu;simp[Cx,kq hu,CX]
   subst a;cases ok
   .refine ⟨A,.inl ?_,g _ _⟩;simp[execOp,ho,CW,kq hu,<-ha.now,aB,j,C,f]
   .refine ⟨.tuple [A,.bool B2].toArray,.inl ?_,.tuple (.cons (g _ _) (.one (.bool _)))⟩;simp[execOp,ho,CW,kq hu,<-ha.now,aB,j,C,f]
 .rename_i b k;have⟨x,y,he,ha,hb⟩:=h.rE;simp only[zz,uj]at he;obtain⟨rfl,rfl⟩:=he;cases c:dh q k with
  |false=>grind
  |true =>
   rw[c]at a;simp only[xt,qj]at a;have⟨m,hm,r,hr,a⟩:=a;have⟨_,_,ms,s,G⟩:=I.fC hm;have j:=λ em=>XQ (em:=em) (w:=w) B hb c;have⟨F,n,l⟩:=_1 (w:=w) B hb G hr;cases r with
   |none =>
    cases F with
    |some _=>exact l.elim
    |none =>
     simp only[qk]at a;subst a;cases ok
     .refine ⟨A,.inl ?_,g _ _⟩;simp[execOp,ho,CW,kq hu,<-ha.now,aB,j,n,f,Kl s]
     .refine ⟨.tuple [A,.bool B2].toArray,.inl ?_,.tuple (.cons (g _ _) (.one (.bool _)))⟩;simp[execOp,ho,CW,kq hu,<-ha.now,aB,j,n,f,Kl s]
   |some p =>
    have⟨i,pv⟩:=p;cases F with
    |none=>exact l.elim
    |some p' =>
     have⟨K,pc⟩:=p';have⟨_,l⟩:=l;simp only[qk]at a;subst a;cases ok
     .refine ⟨pc,.inl ?_,l⟩;simp[execOp,ho,CW,kq hu,<-ha.now,aB,j,n,Kl s]
     .refine ⟨.tuple [pc,.bool B4].toArray,.inl ?_,.tuple (.cons l (.one (.bool _)))⟩;simp[execOp,ho,CW,kq hu,<-ha.now,aB,j,n,Kl s]
 grind
end
end Go.Am
namespace Go.Am
section
variable{P:Jl}{base:Nat}{D:Nat->Prop}{θ:Th}{H:ar}{w:N6}
def isStr:AV->Bool
 | .str _=>B4
 |_=>B2
def X9(g:HR P base D θ H w){x:AV}{c:K1}{size n k:Nat}{l:List AV}(d:VR D θ x c)(hk:eN x=B1 k)(hn:n<=k)(hs:isStr x=B2)
 (h:firstCells H size n x=B1 l):∃a len cap,c=.slice a len cap/\len=k/\((a=B5/\l=[]/\n=0/\k=0) \/
  ∃ad cs,a=B1 ad/\(loadCells ad (n*size)).run P w=.ok cs.toArray w/\bN D θ l cs/\l.length=n*size):=by
 have t:∀a,(loadCells a 0).run P w=.ok ([]:List K1).toArray w:=λ a=>rfl;cases x<;>simp only[eN,reduceCtorEq,qk]at hk
 case str s=>cases hs
 case nils =>
  subst hk;simp only[firstCells,qk]at h;subst h;exact⟨B5,0,0,d.now.symm,rfl,(by grind)⟩
 case slice b o n' cp =>
  subst hk;simp only[firstCells]at h;refine⟨_,_,_,d.now.symm,rfl,.inr ?_⟩;cases hb:JW n 0 with
  |true =>
   have:n=0:=by simpa using hb
   subst this;rw[hb]at h;cases h;exact⟨_,[],rfl,by grind,.nil,by simp⟩
  |false =>
   rw[hb]at h;have⟨cs,j,p,q⟩:=g.aq h
   grind
 case eslice b =>
  subst hk;have:n=0:=by omega
  subst this;simp only[firstCells,JW,xt,qk]at h;subst h;exact⟨_,_,_,d.now.symm,rfl,.inr ⟨_,[],rfl,by grind,.nil,by simp⟩⟩
 case gslice b i m s alt n' =>
  subst hk;simp only[firstCells]at h;refine⟨_,_,_,d.now.symm,rfl,.inr ?_⟩;cases hb:JW n 0 with
  |true =>
   have:n=0:=by simpa using hb
   subst this;rw[hb]at h;cases h;exact⟨_,[],rfl,by grind,.nil,by simp⟩
  |false =>
   rw[hb]at h;simp only[zn]at h;cases f:(JW s size && OO i m)with
   |false=>grind
   |true =>
    rw[f]at h;simp only[zm,jy,A6]at f;obtain⟨rfl,r⟩:=f;have⟨cs,j,p,q⟩:=g.aq h
    grind
end
end Go.Am
namespace Go.Am
section
variable{P:Jl}{base:Nat}{D:Nat->Prop}{θ:Th}{H:ar}{w:N6}
def WV{w:N6}{r:Nat}{c:Array K1}{e:Lx}{fz:Nat×Nat}(h:w.heap[r]? = B1 (.cells c e fz)):w.shape? r=B1 (e,c.size):=by
 simp[N6.shape?,h]
def q1a{w:N6}{r:Nat}{c:Array K1}{e:Lx}{fz:Nat×Nat}(h:w.heap[r]? = B1 (.cells c e fz)):(viewAt r).run P w=.ok B5 w:=by
 simp[viewAt,WV h]
def H_{w:N6}{a:Addr}{c:Array K1}{e:Lx}{fz:Nat×Nat}(h:w.heap[a.block]? = B1 (.cells c e fz)):(noView a).run P w=.ok () w:=by
 simp[noView,q1a h]
def Ss{a b:AV->Bool}{x y:AV}{q:Bool}(h:sE a b x y=B1 q) :
 (a x=B4/\a y=B4/\q=B4)\/(a x=B4/\b y=B4/\q=B2)\/(b x=B4/\a y=B4/\q=B2):=by
 grind [sE]
def Mp.not{a:Nat×Nat}(h:Mp (0,0) a)(i:Nat):¬(a.1<=i/\i<a.2):=by
 rcases h with h|⟨_,h⟩<;>simp at *<;>omega
def xms(p:HR P base D θ H w){b d o o':Nat}(J:b≠d)(h:yT H b d=B4) :
 (sameAddr ⟨θ.cq b,θ.off b+o,B5⟩ ⟨θ.cq d,θ.off d+o',B5⟩).run P w=.ok B2 w:=by
 have key:∀(f g o1 o2:Nat)(z A:Array K1)(e1 e2:Lx)(m n:Nat×Nat),f≠g->w.heap[f]? = B1 (.cells z e1 m)->w.heap[g]? = B1 (.cells A e2 n) ->
  ((∀i,¬(m.1<=i/\i<m.2))/\A.size≠0\/(∀i,¬(n.1<=i/\i<n.2))/\z.size≠0)->(sameAddr ⟨f,o1,B5⟩ ⟨g,o2,B5⟩).run P w=.ok B2 w:=by
  intro f g o1 o2 z A e1 e2 m n hk G r u;have s1:=WV G;have s2:=WV r;have n1:(noView ⟨f,o1,B5⟩).run P w=_:=H_ G;have n2:(noView ⟨g,o2,B5⟩).run P w=_:=H_ r;have O:∀i,w.frozen? ⟨f,i,B5⟩=(decide (m.1<=i) && decide (i<m.2)):=λ i=>by simp[N6.frozen?,G]
  have Q:∀i,w.frozen? ⟨g,i,B5⟩=(decide (n.1<=i) && decide (i<n.2)):=λ i=>by simp[N6.frozen?,r]
  have v:(f == g)=false:=by simpa using hk
  rcases u with⟨S,T⟩|⟨S,T⟩
  .have E:∀i,w.frozen? ⟨f,i,B5⟩=false:=λ i=>by simp_all
   simp only[sameAddr,NG,run_frozen,E,n1,n2,v,mayBeOne,stringish,run_shape,s1,s2,Sem.run_ite,Bool.false_and,ja,wn,B8,NA];simp_all
  .have F:∀i,w.frozen? ⟨g,i,B5⟩=false:=λ i=>by simp_all
   simp only[sameAddr,NG,run_frozen,F,n1,n2,v,mayBeOne,stringish,run_shape,s1,Sem.run_ite,Bool.and_false,ja,wn,B8,NA];simp_all
 unfold yT at h;split at h
 .rename_i c e x M e' R U hb a;obtain⟨_,co,u,pre,cs,post,B,N,rfl,r,K,L⟩:=p.obj b _ hb;obtain⟨_,co',j,y,cs',l,q,C,rfl,I,s,t⟩:=p.obj d _ a;refine key _ _ _ _ _ _ _ _ _ _ (p.inj b d _ _ hb a rfl J) u j (.inl ⟨(L rfl).2.2.2.not,?_⟩);have:=s.length
  grind
 .rename_i c e fz ow M e' hb a;obtain⟨_,co,u,pre,cs,post,B,N,rfl,r,K,L⟩:=p.obj b _ hb;obtain⟨_,co',j,y,cs',l,q,C,rfl,I,s,t⟩:=p.obj d _ a;refine key _ _ _ _ _ _ _ _ _ _ (λ e=>p.inj d b _ _ a hb rfl (by omega) e.symm) u j (.inr ⟨(t rfl).2.2.2.not,?_⟩);have:=K.length
  grind
 grind
def wI(P:Jl)(t:Lx)(x y:M7):wM->Prop
 | .bool=>P.underlying t=B1 .bool
 | .ptr=>∃e n,P.underlying t=B1 (.pointer e)/\bV P e=B1 (n+1)
 | .slice=>∃e,P.underlying t=B1 (.slice e)
 | .map=>∃k e,P.underlying t=B1 (.map k e)
 | .func=>∃a b c,P.underlying t=B1 (.func a b c)
 | .iface=>∃ms,P.underlying t=B1 (.interface ms)/\((∃v,x=.const v) \/ ∃v,y=.const v)
 | .ifaces f=>(∃ms,P.underlying t=B1 (.interface ms)) /\ ∀u q,f u=B1 q->dH P 20 u=B1 q /\ ∃i,P.info? u=B1 i/\i.comparable=B4
 | .agg q=>P.eqGuardType P.depth t=B2/\pZ P t=B1 q/\((∃fs,P.underlying t=B1 (.struct fs)) \/ ∃n e,P.underlying t=B1 (.array n e))
set_option maxHeartbeats 2000000 in
def Ls(hh:HR P base D θ H w){t:Lx}{x y:M7}{ρ:M7->K1}{k:wM}(hk:wI P t x y k){a b:AV}(ha:VR D θ a (ρ x))(hb:VR D θ b (ρ y)){q:Bool}
 (h:IJ H k a b=B1 q) (op:BinOp) (g:op=.eql\/op=.neq) :
 ((do eqGuard op t x y (ρ x) (ρ y);binOp op t (ρ x) (ρ y)):Sem K1).run P w=.ok (.bool (if op=.neq then !q else q)) w:=by
 have fin:(eqGuard op t x y (ρ x) (ρ y)).run P w=.ok () w->(Cz t (ρ x) (ρ y)).run P w=.ok q w->(binOp .eql t (ρ x) (ρ y)).run P w=((do pure (.bool (<-Cz t (ρ x) (ρ y)))):Sem K1).run P w ->
  (binOp .neq t (ρ x) (ρ y)).run P w=((do pure (.bool (!(<-Cz t (ρ x) (ρ y))))):Sem K1).run P w ->
  ((do eqGuard op t x y (ρ x) (ρ y);binOp op t (ρ x) (ρ y)):Sem K1).run P w=.ok (.bool (if op=.neq then !q else q)) w:=by
  intro G F Z h4;rw[NG,G,NA];rcases g with rfl|rfl
  .rw [Z];simp[F]
  .rw [h4];simp[F]
 obtain⟨dd,e1,V⟩:∃d,(∀p q,Cz t p q=BJ (d+1) t p q) /\ ∃m,d=20+m:=⟨9999,λ _ _=>rfl,9979,rfl⟩
 cases k
 case bool =>
  cases a<;>cases b<;>simp only[IJ,reduceCtorEq,qk]at h;subst h;have hu:P.underlying t=B1 .bool:=hk;rw[<-ha.now,<-hb.now];rw[<-ha.now,<-hb.now]at fin;refine fin ?_ (run_equalIn_bool' w _ t _ _ hu) (by simp only[aB,binOp]) (by simp only[aB,binOp]);rcases g with rfl|rfl<;>simp[eqGuard,aB]
 case ptr =>
  have⟨e,n,hu,hs⟩:=hk;have K:=uw (w:=w) hs;have A:(Cz t (ρ x) (ρ y)).run P w=.ok q w:=by
   cases a<;>cases b<;>simp only[IJ,reduceCtorEq,qk]at h
   .subst h;rw[<-ha.now,<-hb.now,e1];simp[aB,BJ,kq hu]
   .subst h;rw[<-ha.now,<-hb.now,e1];simp[aB,BJ,kq hu]
   .subst h;rw[<-ha.now,<-hb.now,e1];simp[aB,BJ,kq hu]
   .rename_i C o1 E o2;rw[<-ha.now,<-hb.now,e1];simp only[aB,BJ,NG,kq hu,NA,K,ne_eq,Nat.succ_ne_zero,not_false_eq_true,vG];cases r:JW C E with
    |true =>
     rw[r]at h;have:C=E:=by simpa using r
     subst this;simp only[xt,qk]at h;subst h;simp only[sameAddr,beq_self_eq_true,vG,B8];congr 1
     by_cases ho:o1=o2
     .subst ho;simp
     .have:JW o1 o2=false:=by simpa[<-Bool.not_eq_true,jy]using ho
      rw[this];simp[ho]
    |false =>
     rw[r]at h;simp only[zn]at h;cases hp:yT H C E with
     |false=>rw[hp]at h;cases h
     |true =>
      rw[hp]at h;simp only[xt,qk]at h;subst h;have u:C≠E:=λ e=>by subst e;simp at r
      exact xms hh u hp
  cases a<;>cases b<;>simp only[IJ,reduceCtorEq,qk]at h <;>
   (rw[<-ha.now,<-hb.now]at A⊢;rw[<-ha.now,<-hb.now]at fin
    exact fin (by rcases g with rfl|rfl<;>simp[eqGuard,aB]) A (by simp only[aB,binOp]) (by simp only[aB,binOp]))
 case slice =>
  have⟨e,hu⟩:=hk;have o:=Ss h;cases a<;>cases b<;>simp[EA,isSlice]at o <;>
   (subst o;rw[<-ha.now,<-hb.now];rw[<-ha.now,<-hb.now]at fin
    exact fin (by rcases g with rfl|rfl<;>simp[eqGuard,aB]) (by rw[e1];simp[aB,BJ,kq hu]) (by simp only[aB,binOp]) (by simp only[aB,binOp]))
 case map =>
  have⟨k,e,hu⟩:=hk;have o:=Ss h;cases a<;>cases b<;>simp[Ez,isMap]at o <;>
   (subst o;rw[<-ha.now,<-hb.now];rw[<-ha.now,<-hb.now]at fin
    exact fin (by rcases g with rfl|rfl<;>simp[eqGuard,aB]) (by rw[e1];simp[aB,BJ,kq hu]) (by simp only[aB,binOp]) (by simp only[aB,binOp]))
 case func =>
  have⟨p1,p2,p3,hu⟩:=hk;have o:=Ss h;cases a<;>cases b<;>simp[Cc,Rv]at o <;>
   (subst o;rw[<-ha.now,<-hb.now];rw[<-ha.now,<-hb.now]at fin
    exact fin (by rcases g with rfl|rfl<;>simp[eqGuard,aB]) (by rw[e1];simp[aB,BJ,kq hu]) (by simp only[aB,binOp]) (by simp only[aB,binOp]))
 case iface =>
  have⟨ms,hu,O⟩:=hk;have o:=Ss h;cases a<;>cases b<;>simp[ED,isIface]at o <;>
   (subst o;rw[<-ha.now,<-hb.now];rw[<-ha.now,<-hb.now]at fin
    exact fin (by rcases g with rfl|rfl<;>rcases O with⟨v,rfl⟩|⟨v,rfl⟩<;>simp[eqGuard,aB]) (by rw[e1];simp[aB,BJ,kq hu]) (by simp only[aB,binOp]) (by simp only[aB,binOp]))
 case ifaces f =>
  have⟨⟨ms,hu⟩,hf⟩:=hk;cases a<;>cases b<;>simp only[IJ,reduceCtorEq,qk]at h
  .rename_i Q v1 S v2;have⟨T,I,M⟩:=ha.mr;have⟨U,J,N⟩:=hb.mr;rw[I,J]at fin⊢;refine fin (by rcases g with rfl|rfl<;>simp[eqGuard]) ?_ (by simp only[binOp]) (by simp only[binOp]);rw[e1];cases j:JW Q S with
   |true =>
    rw[j]at h;simp only[jy]at j;subst j;simp only[xt,qj]at h;have⟨R,L,h⟩:=h;have⟨W,i,X,Y⟩:=hf _ _ L;obtain⟨m,rfl⟩:=V;have B:=T0 m (D:=D) (θ:=θ) w 20 Q R W v1 v2 T U q M N h;simp[BJ,kq hu,typeInfo,X,Y,B]
   |false =>
    rw[j]at h;have u:Q≠S:=λ e=>by subst e;simp at j
    simp only[zn,qk]at h;subst h;simp[BJ,kq hu,u]
  .subst h;rw[<-ha.now,<-hb.now];rw[<-ha.now,<-hb.now]at fin;exact fin (by rcases g with rfl|rfl<;>simp[eqGuard,aB]) (by rw[e1];simp[aB,BJ,kq hu]) (by simp only[aB,binOp]) (by simp only[aB,binOp])
  .subst h;rw[<-ha.now,<-hb.now];rw[<-ha.now,<-hb.now]at fin;exact fin (by rcases g with rfl|rfl<;>simp[eqGuard,aB]) (by rw[e1];simp[aB,BJ,kq hu]) (by simp only[aB,binOp]) (by simp only[aB,binOp])
 case agg R =>
  have⟨hg,c,hu⟩:=hk;have A:=Cy (w:=w) c ha hb h;have z:(∃l,a=.agg l) /\ ∃l,b=.agg l:=by
   have c:dH P (19+1) t=B1 R:=c;rw[dH]at c;rcases hu with⟨fs,hu⟩|⟨n,e,hu⟩
   .rw [hu]at c;simp only at c;split at c
    .cases c
    .exact q4k c h
   .rw [hu]at c;simp only[qj]at c;have⟨s,hs,a',ha',q1,hq1,c⟩:=c;cases c;exact u_ _ _ _ _ _ h
  obtain⟨⟨l,rfl⟩,⟨l',rfl⟩⟩:=z;have⟨cs,G,_⟩:=ha.fE;have⟨cs',F,_⟩:=hb.fE;rw[G,F]at A fin⊢;exact fin (run_eqGuard_agg w _ t x y _ _ hg) A (by simp only[binOp]) (by simp only[binOp])
def G_{o:P7}{t g:Lx}{x y:M7}{k:wM}{neg:Bool}(ho:o.op=.binOp (if neg then .neq else .eql) t x y g)(hk:wI P t x y k):qW P o [x,y] (Op.eq k neg):=by
 intro base D θ H ρ w vs v d h c;unfold Op.eq at c;split at c
 .rename_i a b;have⟨i,j,he,ha,hb⟩:=h.rE;simp only[zz,uj]at he;obtain⟨rfl,rfl⟩:=he;simp only[qj]at c;have⟨q,f,c⟩:=c;cases c;have:=Ls d hk ha hb f (if neg then .neq else .eql) (by grind);refine⟨_,.inl ?_,.bool _⟩;simp only[execOp,ho];rw[NG,this];simp_all
 grind
end
end Go.Am
namespace Go.Am
structure lK(w w0:N6):Prop where
 heap:w0.heap=w.heap
 os:w0.os=w.os
 tape:w0.tape=w.tape
 output:w0.output=w.output
theorem lK.refl(w:N6):lK w w:=⟨rfl,rfl,rfl,rfl⟩
def lK.drew(w:N6):lK w w.drew:=⟨rfl,rfl,rfl,rfl⟩
theorem lK.trans{a b c:N6}(h:lK a b)(d:lK b c):lK a c:=⟨d.heap.trans h.heap,d.os.trans h.os,d.tape.trans h.tape,d.output.trans h.output⟩
def mB(P:Jl)(o:P7)(xs:List M7)(f:List AV->Option (bE×(Nat->AV))):Prop :=
 ∀(D:Nat->Prop)θ(ρ:M7->K1)w vs ob mk,bN D θ vs (xs.map ρ)->f vs=B1 (ob,mk) ->
  own ob=B4 /\ ∃w0 co ext c,(execOp ρ o).run P w=.ok (.value c) (w0.alloc co)/\lK w w0 /\
   ∀(D':Nat->Prop)θ' id,Ag D θ θ'->(∀b,D b->D' b)->D' id -> θ'.cq id=w.heap.size -> θ'.off id=0 -> θ'.ext id=ext->oP P D' θ' id ob co/\VR D' θ' (mk id) c
section
variable{P:Jl}
def Tk{D':Nat->Prop}{θ':Th}{id:Nat}{cells:List AV}{cs:List K1}{e:Lx}(h:bN D' θ' cells cs)(ho:θ'.off id=0) :
 oP P D' θ' id (.row cells e (0,0) B4) (.cells cs.toArray e (0,0)) :=
 ⟨[],cs,[],(0,0),_,by simp,by grind,h,λ _=>⟨rfl,rfl,rfl,.inl rfl⟩⟩
def _8{D':Nat->Prop}{θ':Th}{id k:Nat}(a:D' id)(hb:θ'.cq id=k)(ho:θ'.off id=0):VR D' θ' (Op.ptrTo id) (.pointer (B1 ⟨k,0,B5⟩)):=by
 have:=VR.ptr (θ:=θ') (o:=0) a;rw[hb,ho]at this;exact this
def q8l{D':Nat->Prop}{θ':Th}{id k n m:Nat}(a:D' id)(hb:θ'.cq id=k)(ho:θ'.off id=0):VR D' θ' (Op.sliceTo n m id) (.slice (B1 ⟨k,0,B5⟩) n m):=by
 have:=VR.slice (θ:=θ') (o:=0) (n:=n) (c:=m) a;simp only[aB,hb,ho]at this;exact this
def xee{o:P7}{e:Lx}{z:AV}(ho:o.op=.alloc e)(f:zeroOf P e=B1 z):mB P o [] (Op.alloc e z.cells):=by
 intro D θ ρ w vs l mk h c;unfold Op.alloc at c;split at c
 .cases c;have⟨i,g,d⟩:=KV (w:=w) f;refine⟨rfl,w,.cells i.cells e (0,0),0,.pointer (B1 ⟨w.heap.size,0,B5⟩),?_,.refl w,λ D' θ' id ha j b hb a _=>⟨?_,_8 b hb a⟩⟩
  .simp_all [execOp,Instr.alloc,newVar,newRow]
  .have:=Tk (P:=P) (e:=e) (d D' θ').cells a
   simpa using this
 grind
def xki{o:P7}{e:Lx}{x:M7}(ho:o.op=.box e x):mB P o [x] (Op.box e):=by
 intro D θ ρ w vs f mk h c;unfold Op.box at c;split at c
 .rename_i v;have⟨g,he,ha⟩:=h.pO;simp only[zz,uj]at he;subst he;cases c;refine⟨rfl,w,.cells (ρ x).cells e (0,0),0,.pointer (B1 ⟨w.heap.size,0,B5⟩),?_,.refl w,λ D' θ' id hg d b hb a _=>⟨?_,_8 b hb a⟩⟩
  .simp [execOp,ho,Instr.box,newVar,newRow]
  .have:=Tk (P:=P) (e:=e) (ha.up hg d).cells a
   simpa using this
 grind
def _r{o:P7}{t:Lx}{r:Option M7}(ho:o.op=.makeMap t r)(hr:r=B5\/(∃k n,r=B1 (.const (.int k n)) /\ ∃a b,P.underlying t=B1 (.map a b)))
 (j:∀(ρ:M7->K1),True):∀(D:Nat->Prop)θ(ρ:M7->K1)w vs d mk,(∀v,ρ (.const v)=v)->bN D θ vs (([]:List M7).map ρ)->Op.mkMap vs=B1 (d,mk) ->
 own d=B4 /\ ∃w0 co ext c,(execOp ρ o).run P w=.ok (.value c) (w0.alloc co)/\lK w w0 /\
  ∀(D':Nat->Prop)θ' id,Ag D θ θ'->(∀b,D b->D' b)->D' id -> θ'.cq id=w.heap.size -> θ'.off id=0 -> θ'.ext id=ext->oP P D' θ' id d co/\VR D' θ' (mk id) c:=by
 intro D θ ρ w vs d mk m h f;unfold Op.mkMap at f;split at f
 .cases f;refine⟨rfl,w,.map #[] 0,0,.map (B1 w.heap.size),?_,.refl w,λ D' θ' id hg l i hb g _=>⟨⟨[],rfl,trivial⟩,?_⟩⟩
  .rcases hr with rfl|⟨k,n,rfl,a,b,hu⟩
   .simp [execOp,ho,Instr.makeMap]
   simp_all[execOp,Instr.makeMap,kq,asInt,asIntOf]
  grind [VR.map]
 grind
def YT{D:Nat->Prop}{θ:Th}{z:List AV}{a:List K1}(h:bN D θ z a)(n:Nat):bN D θ (fY n z) (Ji n a).flatten:=by
 induction n with
 |zero=>exact .nil
 |succ n ih =>
  simp only[fY,pq,OC,List.flatten_cons];exact h.app ih
def WT(a:List K1)(n:Nat):((Cq (n*a.length)).map (λ i=>a.toArray[i % a.toArray.size]!))=(Ji n a).flatten.toArray:=by
 apply Array.ext';simp only[Array.toList_map,Array.toList_range,List.size_toArray]
 induction n with
 |zero=>simp
 |succ n ih =>
  rw[show(n+1)*a.length=a.length+n*a.length from by rw[vz];omega,List.range_add,Jz,AF,OC,List.flatten_cons];congr 1
  .apply List.ext_getElem
   .simp
   grind [Nat.mod_eq_of_lt]
  simp_all[List.map_congr_left]
def qzr{o:P7}{t e:Lx}{len n:Nat}{parts:Array (Nat×M7)}{z:AV}{u:List (Nat×Nat)}(ho:o.op=.buildSlice t len parts)(hu:P.underlying t=B1 (.slice e))
 (hs:bV P e=B1 n) (E:zeroOf P e=B1 z) (hp:BN (ML n) parts.toList=B1 u) (G:z.cells.length=n) (x:len*n<=16777216) :
 mB P o (parts.toList.map (·.2)) (Op.buildSlice e len z.cells u):=by
 intro D θ ρ w vs I mk h l;simp only[Op.buildSlice,qj]at l;have⟨c,B,l⟩:=l;cases l;have⟨f,s,j⟩:=KV (w:=w) E;have F:=(j D θ).cells.length;have g:bN D θ (fY len z.cells) (Ji len f.cells.toList).flatten:=YT (j D θ).cells len;have hv':bN D θ vs (parts.toList.map λ p=>ρ p.2):=by grind [Function.comp_def]
 have⟨cout,y,A⟩:=Y4 u vs parts.toList (ML n) c hp hv' _ _ g B;have r:f.cells.size=n:=by rw[<-Array.length_toList];omega
 refine⟨rfl,w,.cells cout.toArray e (0,0),0,.slice (B1 ⟨w.heap.size,0,B5⟩) len len,?_,.refl w,λ D' θ' id hg C q hb d _=>⟨Tk (A.up hg C) d,q8l q hb d⟩⟩;have a:=WT f.cells.toList len;rw[show f.cells.toList.length=n from by omega]at a;simp only[CD]at a;have m:Instr.fill (λ i=>B1 (i*n,n)) (((Cq (len*n)).map (λ i=>f.cells[i % f.cells.size]!))) ((parts.map λ(p:Nat×M7)=>(p.1,ρ p.2)).toList)=B1 cout.toArray:=by
  rw[a,xmp];exact y
 by_cases v:len*n=0
 .have b:Instr.fill (λ i=>B1 (i*n,n)) #[] ((parts.map λ(p:Nat×M7)=>(p.1,ρ p.2)).toList)=B1 cout.toArray:=by
   grind
  simp only[execOp,ho,Instr.buildSlice,NG,kq hu,NA,uw hs,v,show Cq 0 = #[]from rfl,Array.map_empty,vG,B8,b];simp[newRow]
 .have hb:¬(len*n > 2 ^ 24):=by omega
  simp only[execOp,ho,Instr.buildSlice,NG,kq hu,NA,uw hs,v,hb,wn,s,B8];simp_all[newRow]
def q87{o:P7}{t e:Lx}{l c:M7}{b n:Nat}{z:AV}(ho:o.op=.makeSlice t l c)(hu:P.underlying t=B1 (.slice e))(hb:nC P e=B1 b)
 (hs:bV P e=B1 n) (L:zeroOf P e=B1 z) (N:z.cells.length=n):mB P o [l,c] (Op.mkSlice e b z.cells):=by
 intro D θ ρ w vs W mk h p;unfold Op.mkSlice at p;split at p
 .rename_i U m V f;have⟨x,y,he,ha,u⟩:=h.rE;simp only[zz,uj]at he;obtain⟨rfl,rfl⟩:=he;cases d:(vK 0 m && vK m f && vK (f*b) 140737488355328 && vK f 140737488355328)with
  |false=>grind
  |true =>
   rw[d]at p;simp only[xt,qk,zh]at p;obtain⟨rfl,rfl⟩:=p;simp only[zm,Nl,decide_eq_true_eq]at d;have⟨⟨⟨O,Q⟩,R⟩,S⟩:=d;have⟨r,C,q⟩:=KV (w:=w) L;have M:=(q D θ).cells.length;have B:r.cells.size=n:=by grind
   refine⟨rfl,w,.cells (Ji f.toNat r.cells.toList).flatten.toArray e (0,0),0,.slice (B1 ⟨w.heap.size,0,B5⟩) m.toNat f.toNat,?_,.refl w,
    λ D' θ' id hg T A hb j _=>⟨Tk (YT ((q D' θ').cells) _) j,q8l A hb j⟩⟩
   have w1:OM.i64.wrap m=m:=by grind [IntKind.wrap,IntKind.bits]
   have w2:OM.i64.wrap f=f:=by grind [IntKind.wrap,IntKind.bits]
   have v:∃i,P.info? e=B1 i/\i.bytes=b:=by
    unfold nC at hb;cases E:P.info? e with
    |none=>grind
    |some i=>grind
   obtain⟨inf,E,rfl⟩:=v;have a:=WT r.cells.toList f.toNat;rw[show r.cells.toList.length=n from by omega]at a;simp only[CD]at a;have F:¬(f<0):=by omega
   have G:¬((inf.bytes:Int)*f > 2 ^ 48):=by grind
   have I:¬(m<0):=by omega
   have J:¬(m > f):=by omega
   have K:¬(f.toNat*inf.bytes > roomBytes):=by
    grind [roomBytes]
   have X:(2:Int) ^ 48=281474976710656:=by decide
   simp only[execOp,ho,<-ha.now,<-u.now,aB,Instr.makeSlice,NG,kq hu,NA,asInt,asIntOf,B8,typeInfo,run_program,E,w1,w2]
   by_cases s:f.toNat*n=0
   .have g:(Ji f.toNat r.cells.toList).flatten.toArray = #[]:=by rw[<-a,s,show Cq 0 = #[]from rfl,Array.map_empty]
    simp only[F,G,I,J,K,s,askRoom,g,JJ,Bool.or_self,ja,wn,vG,NG,B8,NA,uw hs,show Cq 0 = #[]from rfl,Array.map_empty];simp[newRow]
   .simp only[F,G,I,J,K,s,askRoom,JJ,Bool.or_self,ja,wn,NG,B8,NA,uw hs,C,a];simp[newRow]
 grind
end
end Go.Am
