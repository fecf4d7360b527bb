import GoSem.Step
import Derived.CallsIn
import Derived.WalkKit
import Derived.WalkLawsBesides
import Derived.Lib.Strings
import Derived.Lib.Bytealg
import Derived.DeepKeys3
import Derived.Laws.Cover3
import Derived.Laws.Pointers
import Derived.Room.MakeNoZero
import Derived.Laws.IdiomStrings
set_option linter.defProp false
set_option linter.unusedVariables false
set_option linter.unusedSimpArgs false
open Array renaming map_empty→Cg,range→CU
open BitVec renaming ofInt→Aa
open Bool renaming eq_iff_iff→CM,false→B2,true→B4
open Go renaming Op→Cl,IntKind→Pl,MapEntry→Bk,Oper→Qa,Operand→N0,Program→Kc,TypeId→Ma,Value→Km,World→Nl
open Go.Addr.mk renaming injEq→BK
open Go.Builtin renaming len_→D7
open Go.Deferred renaming ofValue→Bb
open Go.Instr renaming checkKey→Be,findAsking→BF,findKey→D5,findNow→CR,lookup→CO,sliceBounds→B7,sureAddr→C6
open Go.IntKind renaming bits→Bj,signed→Bi
open Go.Op renaming equal→D6,equalIn→B8
open Go.Region renaming before→CJ
open Go.Result renaming andThen_ok→N8
open Go.Sem renaming run_bind→Nn,run_pure→Q1
open Go.Value.slice renaming injEq→AZ
open List renaming range→N1,rec→A6,replicate→JV,size_toArray→CP
open Nat renaming beq→J3,ble→Ow,blt→QS
open Option renaming none→B5,some→B1
open UInt8 renaming ofNat→BP
namespace Go.Am
def qj:type_of% @Option.bind_eq_some_iff:=@Option.bind_eq_some_iff
def qk:type_of% @Option.some.injEq:=@Option.some.injEq
def qm:type_of% @Nat.le_refl:=@Nat.le_refl
def qn:type_of% @Nat.lt_of_lt_of_le:=@Nat.lt_of_lt_of_le
def qo:type_of% @List.getElem?_eq_some_iff:=@List.getElem?_eq_some_iff
def qr:type_of% @Option.bind_some:=@Option.bind_some
def qt:type_of% @if_neg:=@if_neg
def qy:type_of% @List.getElem?_eq_getElem:=@List.getElem?_eq_getElem
def xb:type_of% @if_pos:=@if_pos
def xe:type_of% @List.length_append:=@List.length_append
def xg:type_of% @eq_true:=@eq_true
def xk:type_of% @List.getElem?_map:=@List.getElem?_map
def xm:type_of% @Option.map_eq_some_iff:=@Option.map_eq_some_iff
def xq:type_of% @List.length_set:=@List.length_set
def xu:type_of% @List.length_map:=@List.length_map
def xw:type_of% @cond_true:=@cond_true
def xx:type_of% @Nat.lt_or_ge:=@Nat.lt_or_ge
def xy:type_of% @List.getElem?_set_self:=@List.getElem?_set_self
def xz:type_of% @List.getElem?_set_ne:=@List.getElem?_set_ne
def x9:type_of% @Nat.zero_le:=@Nat.zero_le
def zd:type_of% @Bool.and_eq_true:=@Bool.and_eq_true
def ze:type_of% @Nat.le_trans:=@Nat.le_trans
def zf:type_of% @Prod.mk.injEq:=@Prod.mk.injEq
def zi:type_of% @Classical.byContradiction:=@Classical.byContradiction
def zj:type_of% @List.mem_of_getElem?:=@List.mem_of_getElem?
def zm:type_of% @cond_false:=@cond_false
def zp:type_of% @List.take_of_length_le:=@List.take_of_length_le
def zq:type_of% @List.length_cons:=@List.length_cons
def zr:type_of% @List.getElem?_cons_succ:=@List.getElem?_cons_succ
def zt:type_of% @List.append_nil:=@List.append_nil
def zu:type_of% @List.getElem?_append_right:=@List.getElem?_append_right
def zw:type_of% @Bool.false_eq_true:=@Bool.false_eq_true
def zx:type_of% @List.cons.injEq:=@List.cons.injEq
def zy:type_of% @List.append_assoc:=@List.append_assoc
def zz:type_of% @Nat.lt_succ_self:=@Nat.lt_succ_self
def z4:type_of% @List.getElem?_eq_none:=@List.getElem?_eq_none
def z6:type_of% @List.mem_append:=@List.mem_append
def ja:type_of% @List.getD_eq_getElem?_getD:=@List.getD_eq_getElem?_getD
def jb:type_of% @List.getElem?_cons_zero:=@List.getElem?_cons_zero
def jc:type_of% @List.nil_append:=@List.nil_append
def jd:type_of% @List.length_take:=@List.length_take
def je:type_of% @List.length_replicate:=@List.length_replicate
def jf:type_of% @List.length_range:=@List.length_range
def jg:type_of% @List.length_drop:=@List.length_drop
def ji:type_of% @List.mem_cons:=@List.mem_cons
def jo:type_of% @Nat.mul_le_mul_right:=@Nat.mul_le_mul_right
def jp:type_of% @List.getElem?_range:=@List.getElem?_range
def jq:type_of% @List.getElem?_append_left:=@List.getElem?_append_left
def jr:type_of% @List.drop_eq_nil_of_le:=@List.drop_eq_nil_of_le
def js:type_of% @Bool.and_self:=@Bool.and_self
def jt:type_of% @Int.eq_ofNat_of_zero_le:=@Int.eq_ofNat_of_zero_le
def jv:type_of% @Nat.beq_eq:=@Nat.beq_eq
def jw:type_of% @List.map_cons:=@List.map_cons
def jy:type_of% @List.length_eq_zero_iff:=@List.length_eq_zero_iff
def j0:type_of% @List.mem_singleton:=@List.mem_singleton
def j5:type_of% @List.flatMap_cons:=@List.flatMap_cons
def ke:type_of% @Nat.le_succ:=@Nat.le_succ
def kh:type_of% @Array.getElem?_toList:=@Array.getElem?_toList
def ki:type_of% @List.take_append_of_le_length:=@List.take_append_of_le_length
def kq:type_of% @Iff.rfl:=@Iff.rfl
def ku:type_of% @decide_eq_true:=@decide_eq_true
def kw:type_of% @decide_eq_false:=@decide_eq_false
def kz:type_of% @Option.bind_assoc:=@Option.bind_assoc
def ye:type_of% @Array.getD_eq_getD_getElem?:=@Array.getD_eq_getD_getElem?
def yf:type_of% @Nat.add_mul:=@Nat.add_mul
def ym:type_of% @List.flatMap_append:=@List.flatMap_append
def yo:type_of% @Array.getElem?_eq_some_iff:=@Array.getElem?_eq_some_iff
def yq:type_of% @List.take_zero:=@List.take_zero
def yr:type_of% @Nat.zero_add:=@Nat.zero_add
def yt:type_of% @Classical.not_not:=@Classical.not_not
def yu:type_of% @List.ext_getElem?:=@List.ext_getElem?
def yw:type_of% @List.getElem?_take:=@List.getElem?_take
def yx:type_of% @List.length_nil:=@List.length_nil
def y8:type_of% @List.drop_zero:=@List.drop_zero
def y9:type_of% @List.drop_append_of_le_length:=@List.drop_append_of_le_length
def vc:type_of% @List.getElem?_drop:=@List.getElem?_drop
def vd:type_of% @List.take_append_drop:=@List.take_append_drop
def ve:type_of% @Nat.add_sub_cancel_left:=@Nat.add_sub_cancel_left
def vj:type_of% @Nat.add_zero:=@Nat.add_zero
def vk:type_of% @if_false:=@if_false
def vx:type_of% @Option.isSome_some:=@Option.isSome_some
def we:type_of% @Array.length_toList:=@Array.length_toList
def wh:type_of% @Option.getD_some:=@Option.getD_some
def wv:type_of% @List.map_map:=@List.map_map
def ww:type_of% @List.mem_cons_of_mem:=@List.mem_cons_of_mem
def wx:type_of% @Nat.zero_mul:=@Nat.zero_mul
def NK:type_of% @Array.getElem?_setIfInBounds:=@Array.getElem?_setIfInBounds
def wT:type_of% @Nat.add_assoc:=@Nat.add_assoc
def M0:type_of% @List.eq_of_mem_replicate:=@List.eq_of_mem_replicate
def AQ:type_of% @Bool.or_eq_true:=@Bool.or_eq_true
def Jj:type_of% @Nat.eq_of_beq_eq_true:=@Nat.eq_of_beq_eq_true
def vE:type_of% @Nat.succ_mul:=@Nat.succ_mul
def Ce:type_of% @List.all_eq_true:=@List.all_eq_true
def BE:type_of% @List.drop_append:=@List.drop_append
def FO:type_of% @Int.toNat_natCast:=@Int.toNat_natCast
def FQ:type_of% @List.take_add_one:=@List.take_add_one
def sH:type_of% @Nat.ble_eq:=@Nat.ble_eq
def NF:type_of% @Decidable.byContradiction:=@Decidable.byContradiction
def Ax:type_of% @List.drop_drop:=@List.drop_drop
def vJ:type_of% @Int.le_refl:=@Int.le_refl
def mO:type_of% @Ne.symm:=@Ne.symm
def Q2:type_of% @List.drop_length_add_append:=@List.drop_length_add_append
def FD:type_of% @List.map_append:=@List.map_append
def Js:type_of% @List.mem_cons_self:=@List.mem_cons_self
def Md:type_of% @List.getElem?_of_mem:=@List.getElem?_of_mem
def uH:type_of% @Nat.blt_eq:=@Nat.blt_eq
def Ik:type_of% @List.cons_append:=@List.cons_append
def P4:type_of% @Int.tmod_eq_emod_of_nonneg:=@Int.tmod_eq_emod_of_nonneg
def Kv:type_of% @Int.toNat_of_nonneg:=@Int.toNat_of_nonneg
def Lm:type_of% @List.drop_succ_cons:=@List.drop_succ_cons
def AE:type_of% @List.map_nil:=@List.map_nil
def Od:type_of% @List.set_append_right:=@List.set_append_right
def HI:type_of% @Option.map_some:=@Option.map_some
def oO:type_of% @if_true:=@if_true
def LZ:type_of% @Option.isSome_none:=@Option.isSome_none
def sj:type_of% @and_true:=@and_true
def Fz:type_of% @Nat.lt_irrefl:=@Nat.lt_irrefl
def LM:type_of% @decide_eq_true_eq:=@decide_eq_true_eq
def Tt:type_of% @List.take_length_add_append:=@List.take_length_add_append
def Qc:type_of% @Nat.ne_of_beq_eq_false:=@Nat.ne_of_beq_eq_false
def Li:type_of% @List.mem_nil_iff:=@List.mem_nil_iff
def L6:type_of% @List.take_length:=@List.take_length
def Rm:type_of% @List.mem_iff_getElem?:=@List.mem_iff_getElem?
def FI:type_of% @List.mem_map:=@List.mem_map
def F7:type_of% @decide_false:=@decide_false
def Q4:type_of% @Array.toArray_toList:=@Array.toArray_toList
def N5:type_of% @Nat.lt_succ_of_lt:=@Nat.lt_succ_of_lt
def Nh:type_of% @Nat.min_eq_left:=@Nat.min_eq_left
def K6:type_of% @Option.some.inj:=@Option.some.inj
def T1:type_of% @List.getElem?_replicate:=@List.getElem?_replicate
def Qr:type_of% @List.replicate_succ:=@List.replicate_succ
def Oh:type_of% @List.take_append:=@List.take_append
def Nu:type_of% @Nat.le_add_right:=@Nat.le_add_right
def Oq:type_of% @List.foldl_cons:=@List.foldl_cons
def Ja:type_of% @Nat.sub_zero:=@Nat.sub_zero
def tZ:type_of% @eq_self:=@eq_self
def Ph:type_of% @Bool.not_eq_true':=@Bool.not_eq_true'
def Qy:type_of% @List.flatten_cons:=@List.flatten_cons
def Hf:type_of% @Array.ext':=@Array.ext'
def HD:type_of% @Int.not_lt:=@Int.not_lt
def KP:type_of% @Nat.ne_of_lt:=@Nat.ne_of_lt
def G2:type_of% @beq_iff_eq:=@beq_iff_eq
def LA:type_of% @Nat.sub_mul:=@Nat.sub_mul
def Nd:type_of% @decide_true:=@decide_true
def BZ:type_of% @true_and:=@true_and
inductive T(α:Type)where
 |nil
 |node (l:T α) (v:Option α) (r:T α)
noncomputable section
namespace T
variable{α:Type}
def l:T α->T α
 | .nil=>.nil
 | .node a _ _=>a
def r:T α->T α
 | .nil=>.nil
 | .node _ _ b=>b
def val:T α->Option α
 | .nil=>B5
 | .node _ v _=>v
def path(i:Nat):List Bool:=go i i
 where go:Nat->Nat->List Bool
 |0,_=>[]
 |f+1,i=>match i with
  |0=>[]
  |n+1=>J3 (Nat.mod n 2) 0::go f (Nat.div n 2)
def wY:List Bool->T α->Option α
 |[],t=>t.val
 |b::p,t=>wY p (cond b t.l t.r)
def fG(v:Option α):List Bool->T α->T α
 |[],t=>.node t.l v t.r
 |b::p,t=>cond b (.node (fG v p t.l) t.val t.r) (.node t.l t.val (fG v p t.r))
def get(t:T α)(i:Nat):Option α:=wY (path i) t
def put(t:T α)(i:Nat)(v:Option α):T α:=fG v (path i) t
def set(t:T α)(i:Nat)(v:α):T α:=t.put i (B1 v)
structure Get(α:Type)where
 run:T α->Option α
structure Put(α:Type)where
 run:Option α->T α->T α
def oP:List Bool->Get α
 |[]=>⟨val⟩
 |true::p=>⟨λ t=>(oP p).run t.l⟩
 |false::p=>⟨λ t=>(oP p).run t.r⟩
def zT:List Bool->Put α
 |[]=>⟨λ v t=>.node t.l v t.r⟩
 |true::p=>⟨λ v t=>.node ((zT p).run v t.l) t.val t.r⟩
 |false::p=>⟨λ v t=>.node t.l t.val ((zT p).run v t.r)⟩
end T
def nth{α:Type}(l:List α):Nat->Option α :=
 A6 (motive:=λ _=>Nat->Option α) (λ _=>B5) (λ x _ ih i=>Nat.rec (motive:=λ _=>Option α) (B1 x) (λ n _=>ih n) i) l
def kO{α:Type}(a b:List α):List α:=A6 (motive:=λ _=>List α) b (λ x _ ih=>x::ih) a
def cS{α:Type}(l:List α):Nat:=A6 (motive:=λ _=>Nat) 0 (λ _ _ ih=>ih+1) l
def Ru{α:Type}:List α->List α
 |[]=>[]
 |_::l=>l
def da{α:Type}(n:Nat):List α->List α:=Nat.rec (motive:=λ _=>List α->List α) (λ l=>l) (λ _ ih l=>ih (Ru l)) n
def Fe{α:Type}(n:Nat):List α->Option (List α) :=
 Nat.rec (motive:=λ _=>List α->Option (List α)) (λ _=>B1 [])
  (λ _ ih l=>A6 (motive:=λ _=>Option (List α)) B5 (λ x t _=>(ih t).bind λ r=>B1 (x::r)) l) n
def xV{α:Type}(new:List α):List α->Option (List α) :=
 A6 (motive:=λ _=>List α->Option (List α)) (λ l=>B1 l)
  (λ x _ ih l=>A6 (motive:=λ _=>Option (List α)) B5 (λ _ t _=>(ih t).bind λ r=>B1 (x::r)) l) new
def putAt{α:Type}(o:Nat)(new:List α):List α->Option (List α) :=
 Nat.rec (motive:=λ _=>List α->Option (List α)) (λ l=>xV new l)
  (λ _ ih l=>A6 (motive:=λ _=>Option (List α)) B5 (λ x t _=>(ih t).bind λ r=>B1 (x::r)) l) o
def fM{α:Type}(l:List α)(o n:Nat):Option (List α):=Fe n (da o l)
inductive mA where
 |func (f:Nat)
 |yield (l:Nat)
inductive AV where
 |bool (b:Bool)
 |int (k:Pl) (n:Int)
 |str (s:List UInt8)
 |nilp
 |ptr (b o:Nat)
 |nils
 |slice (b o n c:Nat)
 |gslice (b i m size alt n:Nat)
 |eslice (b:Nat)
 |mz
 |map (b:Nat)
 |fn (f:mA) (first captured:List AV)
 |nilf
 |iface (t:Nat) (v:AV)
 |nili
 |agg (l:List AV)
 |tuple (l:List AV)
instance:Inhabited AV:=⟨.nili⟩
def AV.undef:AV:=.tuple []
def AV.cells:AV->List AV
 | .agg l=>l
 |v=>[v]
inductive bJ where
 |tmp (t:Nat)
 |const (v:AV)
 |eF (g:Nat)
 |func (f:Nat)
inductive ei where
 |tmp (t:Nat)
 |kR (a:Nat)
 |cM (n:Nat) (a:Nat)
inductive ic where
 |exit (id:Nat)|goto (l:Nat)|ret
inductive mV where
 |ready|busy|done|exhausted
inductive aM where
 |jJ (b:Nat)
 |fn (f:mA) (args:List AV)
inductive bC where
 |row (cells:List AV) (elem:Nat) (fz:Nat×Nat) (own:Bool)
 |grown (m size:Nat) (cells:List AV) (elem:Nat) (fz:Nat×Nat)
 |map (es:List (AV×AV×Nat)) (clock:Nat)
 |mj (s:List UInt8) (pos:Nat)
 |loop (st:mV) (pend:Option ic) (fn k:Nat) (tm:T AV) (defers:Nat)
 |deferred (calls:Option (List aM))
structure ar where
 t:T bC
 au:Nat
namespace ar
def get(H:ar)(b:Nat):Option bC:=H.t.get b
def set(H:ar)(b:Nat)(o:bC):ar:={H with t:=H.t.set b o}
def alloc(H:ar)(o:bC):ar:={t:=H.t.set H.au o,au:=H.au+1}
def kill(H:ar)(b:Nat):ar:={H with t:=H.t.put b B5}
def bP(H:ar)(b:Nat):Option (List AV) :=
 match H.get b with
 |some (.row c _ _ _)=>B1 c
 |some (.grown _ _ c _ _)=>B1 c
 |_=>B5
end ar
def ar.ae(H:ar)(b o:Nat):Option AV:=(H.bP b).bind λ l=>nth l o
def ar.eW(H:ar)(b:Nat):Option (List (AV×AV×Nat)×Nat) :=
 match H.get b with
 |some (.map es c)=>B1 (es,c)
 |_=>B5
def ar.av(H:ar)(b o n:Nat):Option (List AV):=(H.bP b).bind λ l=>fM l o n
def eD(fz:Nat×Nat)(o n:Nat):Bool:=Ow (o+n) fz.1 ||Ow fz.2 o
def az:AV->Bool
 | .agg _| .tuple _=>B2
 |_=>B4
def aQ(l:List AV):Bool:=A6 (motive:=λ _=>Bool) B4 (λ x _ ih=>cond (az x) ih B2) l
def ar.store(H:ar)(b o:Nat)(new:List AV):Option ar :=
 cond (aQ new) (match H.get b with
  |some (.row c e fz B4)=>cond (eD fz o (cS new)) ((putAt o new c).bind λ c'=>B1 (H.set b (.row c' e fz B4))) B5
  |some (.grown m s c e fz)=>cond (eD fz o (cS new)) ((putAt o new c).bind λ c'=>B1 (H.set b (.grown m s c' e fz))) B5
  |_=>B5) B5
def rQ(tm:T AV):bJ->Option AV
 | .tmp t=>tm.get t
 | .const v=>B1 v
 | .eF g=>B1 (.ptr g 0)
 | .func f=>B1 (.fn (.func f) [] [])
def mB(tm:T AV):List bJ->Option (List AV)
 |[]=>B1 []
 |x::xs=>(rQ tm x).bind λ v=>(mB tm xs).bind λ vs=>B1 (v::vs)
structure Ev where
 run:T AV->Option AV
structure Evs where
 run:T AV->Option (List AV)
def Om:bJ->Ev
 | .tmp t=>⟨(T.oP (T.path t)).run⟩
 | .const v=>⟨λ _=>B1 v⟩
 | .eF g=>⟨λ _=>B1 (.ptr g 0)⟩
 | .func f=>⟨λ _=>B1 (.fn (.func f) [] [])⟩
def u7:List bJ->Evs
 |[]=>⟨λ _=>B1 []⟩
 |[x]=>⟨λ tm=>((Om x).run tm).bind λ v=>B1 [v]⟩
 |x::xs=>⟨λ tm=>((Om x).run tm).bind λ v=>((u7 xs).run tm).bind λ vs=>B1 (v::vs)⟩
def sZ(a b:Int):Bool:=match a,b with
 | .ofNat m,.ofNat n=>Ow m n
 | .ofNat _,.negSucc _=>B2
 | .negSucc _,.ofNat _=>B4
 | .negSucc m,.negSucc n=>Ow n m
def Av(a b:Int):Bool:=!sZ b a
def uT(a b:Int):Bool:=match a,b with
 | .ofNat m,.ofNat n=>J3 m n
 | .negSucc m,.negSucc n=>J3 m n
 |_,_=>B2
def iV:Pl->Nat
 | .i8=>0| .i16=>1| .i32=>2| .i64=>3| .u8=>4| .u16=>5| .u32=>6| .u64=>7
def rT(a b:Pl):Bool:=J3 (iV a) (iV b)
def CF(a b:UInt8):Bool:=J3 a.toNat b.toNat
def Az:List UInt8->List UInt8->Bool
 |[],[]=>B4
 |a::x,b::y=>cond (CF a b) (Az x y) B2
 |_,_=>B2
inductive aR where
 |int|str|bool
 |nil
 |part (off:Nat) (n:Option Nat) (t rest:aR)
def partAt(l:List AV)(off:Nat):Option Nat->Option AV
 |none=>nth l off
 |some k=>(fM l off k).bind λ c=>B1 (.agg c)
def aV:aR->AV->AV->Option Bool
 | .int,.int k a,.int k' b=>cond (rT k k') (B1 (uT a b)) B5
 | .str,.str a,.str b=>B1 (Az a b)
 | .bool,.bool a,.bool b=>B1 (a == b)
 | .nil,.agg _,.agg _=>B1 B4
 | .part off n t rest,.agg x,.agg y=>(partAt x off n).bind λ a=>(partAt y off n).bind λ b=>(aV t a b).bind λ q =>
  cond q (aV rest (.agg x) (.agg y)) (B1 B2)
 |_,_,_=>B5
def cH:aR->AV->Bool
 | .int,.int _ _=>B4
 | .str,.str _=>B4
 | .bool,.bool _=>B4
 | .nil,.agg _=>B4
 | .part off n t rest,.agg x=>match partAt x off n with
  |some a=>cond (cH t a) (cH rest (.agg x)) B2
  |none=>B2
 |_,_=>B2
def bytesLess:List UInt8->List UInt8->Bool
 |_,[]=>B2
 |[],_::_=>B4
 |a::x,b::y=>QS a.toNat b.toNat ||(CF a b && bytesLess x y)
def rq(op:BinOp)(a b:List UInt8):Option AV :=
 match op with
 | .add=>cond (Ow (a.length+b.length) 140737488355328) (B1 (.str (a++b))) B5
 | .eql=>B1 (.bool (Az a b))
 | .neq=>B1 (.bool (!(Az a b)))
 | .lss=>B1 (.bool (bytesLess a b))
 | .leq=>B1 (.bool (bytesLess a b ||Az a b))
 | .gtr=>B1 (.bool (!(bytesLess a b ||Az a b)))
 | .geq=>B1 (.bool (!bytesLess a b))
 |_=>B5
def aj(k:Pl)(n:Int):Int:=k.wrap n
def gF(op:BinOp)(k:Pl)(a b:Int):Option AV :=
 match op with
 | .add=>B1 (.int k (aj k (a+b)))
 | .sub=>B1 (.int k (aj k (a-b)))
 | .mul=>B1 (.int k (aj k (a*b)))
 | .quo=>cond (uT b 0) B5 (B1 (.int k (aj k (a.tdiv b))))
 | .rem=>cond (uT b 0) B5 (B1 (.int k (a.tmod b)))
 | .and=>B1 (.int k (aj k ((Aa k.bits a &&& Aa k.bits b).toNat)))
 | .or=>B1 (.int k (aj k ((Aa k.bits a |||Aa k.bits b).toNat)))
 | .xor=>B1 (.int k (aj k ((Aa k.bits a ^^^ Aa k.bits b).toNat)))
 | .andNot=>B1 (.int k (aj k ((Aa k.bits a &&& ~~~(Aa k.bits b)).toNat)))
 | .eql=>B1 (.bool (uT a b))
 | .neq=>B1 (.bool (!uT a b))
 | .lss=>B1 (.bool (Av a b))
 | .leq=>B1 (.bool (sZ a b))
 | .gtr=>B1 (.bool (Av b a))
 | .geq=>B1 (.bool (sZ b a))
 |_=>B5
inductive wC where
 |bool|ptr|slice|map|func|iface
 |ifaces (f:Nat->Option aR)
 |agg (t:aR)
def sX(isNil isSome:AV->Bool)(x y:AV):Option Bool :=
 cond (isNil x) (cond (isNil y) (B1 B4) (cond (isSome y) (B1 B2) B5)) (cond (isSome x && isNil y) (B1 B2) B5)
def Cu:AV->Bool
 | .nils=>B4
 |_=>B2
def isSlice:AV->Bool
 | .slice ..=>B4
 | .gslice ..=>B4
 | .eslice _=>B4
 |_=>B2
def Ep:AV->Bool
 | .mz=>B4
 |_=>B2
def isMap:AV->Bool
 | .map _=>B4
 |_=>B2
def ET:AV->Bool
 | .nilf=>B4
 |_=>B2
def RX:AV->Bool
 | .fn ..=>B4
 |_=>B2
def EI:AV->Bool
 | .nili=>B4
 |_=>B2
def isIface:AV->Bool
 | .iface ..=>B4
 |_=>B2
def zH(H:ar)(b b':Nat):Bool :=
 match H.get b,H.get b' with
 |some (.row _ _ (0,0) B4),B1 (.row (_::_) _ _ _)=>B4
 |some (.row (_::_) _ _ _),B1 (.row _ _ (0,0) B4)=>B4
 |_,_=>B2
def tw(op:BinOp)(k:Pl)(a b:Int):Option AV :=
 cond (Av b 0) B5 (match op with
  | .shl=>B1 (.int k (aj k (a*2 ^ (min b.toNat k.bits))))
  |_=>B1 (.int k (a.fdiv (2 ^ (min b.toNat k.bits)))))
def dZ:BinOp->Bool
 | .shl| .shr=>B4
 |_=>B2
def J1(H:ar):wC->AV->AV->Option Bool
 | .bool,.bool a,.bool b=>B1 (a == b)
 | .ptr,.nilp,.nilp=>B1 B4
 | .ptr,.nilp,.ptr _ _=>B1 B2
 | .ptr,.ptr _ _,.nilp=>B1 B2
 | .ptr,.ptr b o,.ptr b' o'=>cond (J3 b b') (B1 (J3 o o')) (cond (zH H b b') (B1 B2) B5)
 | .slice,x,y=>sX Cu isSlice x y
 | .map,x,y=>sX Ep isMap x y
 | .func,x,y=>sX ET RX x y
 | .iface,x,y=>sX EI isIface x y
 | .ifaces f,.iface t a,.iface u b=>cond (J3 t u) ((f t).bind λ q=>aV q a b) (B1 B2)
 | .ifaces _,.nili,.iface _ _=>B1 B2
 | .ifaces _,.iface _ _,.nili=>B1 B2
 | .agg t,x,y=>aV t x y
 |_,_,_=>B5
def nC(op:BinOp)(x y:AV):Option AV :=
 match x,y with
 | .int k a,.int k' b=>cond (dZ op) (tw op k a b) (cond (rT k k') (gF op k a b) B5)
 | .str a,.str b=>rq op a b
 |_,_=>B5
def lL(op:UnOp)(x:AV):Option AV :=
 match op,x with
 | .neg,.int k n=>B1 (.int k (aj k (0-n)))
 | .xor,.int k n=>gF .xor k (if k.signed then -1 else k.max) n
 | .not,.bool b=>B1 (.bool (!b))
 |_,_=>B5
def jG(cells:List AV):List (Nat×Nat)->List AV->Option (List AV)
 |[],[]=>B1 cells
 |(off,size)::ps,v::vs=>cond (J3 (cS v.cells) size) ((putAt off v.cells cells).bind λ c=>jG c ps vs) B5
 |_,_=>B5
def fX(n:Nat)(z:List AV):List AV :=
 match n with
 |0=>[]
 |n+1=>kO z (fX n z)
def within(i:Int)(n:Nat):Option Nat:=match i with
 | .ofNat k=>cond (QS k n) (B1 k) B5
 | .negSucc _=>B5
def arg(vs:List AV):Option Nat->Option (Option AV)
 |none=>B1 B5
 |some i=>(nth vs i).bind λ v=>B1 (B1 v)
def bound(v:Option AV)(d mx:Nat):Option Nat :=
 match v with
 |none=>B1 d
 |some (.int _ (.ofNat i))=>cond (Ow i mx) (B1 i) B5
 |_=>B5
def dv(size:Nat)(x:AV)(lo hi mx:Option AV):Option AV :=
 match x with
 | .nils=>match mx with
  |none=>(bound hi 0 0).bind λ h=>(bound lo 0 h).bind λ _=>B1 .nils
  |some _=>B5
 | .slice b o n c=>match mx,hi with
  |some _,B5=>B5
  |mx,hi=>(bound mx c c).bind λ m=>(bound hi n m).bind λ h=>(bound lo 0 h).bind λ l =>
   B1 (.slice b (cond (J3 m l) o (o+l*size)) (h-l) (m-l))
 | .gslice b i m s alt n =>
  cond (J3 s size && Ow i m) (match mx,hi with
   |none,hi=>(bound hi n (m-i)).bind λ h=>(bound lo 0 h).bind λ l =>
    cond (Ow h (m-i)) (B1 (.gslice b (i+l) m s (cond (J3 l 0) alt (i*s)) (h-l))) B5
   |some _,B5=>B5
   |mx,hi=>(bound mx 0 (m-i)).bind λ x=>(bound hi 0 x).bind λ h=>(bound lo 0 h).bind λ l =>
    cond (J3 x l) B5 (B1 (.slice b ((i+l)*s) (h-l) (x-l)))) B5
 | .eslice b=>match mx with
  |none=>(bound hi 0 0).bind λ h=>(bound lo 0 h).bind λ _=>B1 (.eslice b)
  |some _=>B5
 |_=>B5
def fy:AV->Option Nat
 | .str s=>B1 (cS s)
 | .nils=>B1 0
 | .slice _ _ n _=>B1 n
 | .gslice _ _ _ _ _ n=>B1 n
 | .eslice _=>B1 0
 |_=>B5
def elemAt(size:Nat)(x:AV)(j:Nat):Option (Nat×Nat) :=
 match x with
 | .slice b o n _=>cond (QS j n) (B1 (b,o+j*size)) B5
 | .gslice b i m s _ n=>cond (QS j n && J3 s size && QS (i+j) m) (B1 (b,i*s+j*s)) B5
 |_=>B5
def firstCells(H:ar)(size n:Nat)(x:AV):Option (List AV) :=
 match x with
 | .nils=>B1 []
 | .str s=>cond (J3 size 1) (B1 ((s.take n).map λ b=>.int .u8 b.toNat)) B5
 | .slice b o _ _=>cond (J3 n 0) (B1 []) (H.av b o (n*size))
 | .gslice b i m s _ _=>cond (J3 n 0) (B1 []) (cond (J3 s size && QS i m) (H.av b (i*s) (n*size)) B5)
 | .eslice _=>cond (J3 n 0) (B1 []) B5
 |_=>B5
def eS(n:Int):AV:=.int .i64 n
def findKey(t:aR)(k:AV):List (AV×AV×Nat)->Nat->Option (Option (Nat×AV))
 |[],_=>B1 B5
 |(k',v,_)::es,i=>(aV t k k').bind λ q=>cond q (B1 (B1 (i,v))) (findKey t k es (i+1))
def Hk(c:UInt8):List UInt8->Nat->Option Nat
 |[],_=>B5
 |x::l,i=>cond (CF x c) (B1 i) (Hk c l (i+1))
def xF(c:UInt8):List UInt8->Nat
 |[]=>0
 |x::l=>cond (CF x c) (xF c l+1) (xF c l)
def byteOf:AV->Option UInt8
 | .int .u8 n=>B1 (BP n.toNat)
 |_=>B5
def bytesOf:List AV->Option (List UInt8)
 |[]=>B1 []
 |x::l=>(byteOf x).bind λ b=>(bytesOf l).bind λ r=>B1 (b::r)
def fits(n bytes:Nat):Bool:=Ow (n*bytes) 140737488355328 && Ow n 140737488355328
def dB(H:ar)(e size n:Nat)(cells:List AV)(fz:Nat×Nat):AV×ar :=
 (.gslice H.au 0 n size 0 n,H.alloc (.grown n size cells e fz))
def de(H:ar)(e size bytes:Nat)(s:AV)(n:Nat)(new:List AV):Option (AV×ar) :=
 match s with
 | .nils=>cond (J3 n 0) (B1 (.nils,H)) (cond (fits n bytes && QS 0 size) (B1 (dB H e size n new (0,0))) B5)
 | .slice b o len c =>
  cond (Ow (len+n) c)
   (cond (J3 n 0) (B1 (.slice b o (len+n) c,H)) ((H.store b (o+len*size) new).bind λ H'=>B1 (.slice b o (len+n) c,H')))
   (cond (fits (len+n) bytes && Ow c (len+n) && QS 0 size)
    ((firstCells H size len (.slice b o len c)).bind λ old=>B1 (dB H e size (len+n) (kO old new) (0,0))) B5)
 | .gslice b i m sz alt len =>
  cond (J3 n 0) (cond (Ow (i+len) m) (B1 (.gslice b i m sz alt len,H)) B5) (cond (J3 sz size && Ow (i+len) m && QS 0 size)
   (cond (Ow (i+len+n) m)
    ((H.store b ((i+len)*size) new).bind λ H'=>B1 (.gslice b i m sz alt (len+n),H'))
    (cond (fits (len+n) bytes) (match H.get b with
     |some (.grown m' sz' c e' fz) =>
      cond (J3 m m' && J3 sz sz' && J3 e' e)
       (cond (J3 i 0 && J3 len m && Ow fz.2 (m*size)) (B1 (dB (H.kill b) e size (len+n) (kO c new) fz)) (cond (Ow fz.2 (i*size))
        ((fM c (i*size) (len*size)).bind λ old=>B1 (dB (H.kill b) e size (len+n) (kO old new) (cond (J3 fz.1 fz.2) (0,0) (1,0))))
        (cond (J3 i 0 && Ow fz.2 (len*size))
         ((fM c 0 (len*size)).bind λ old=>B1 (dB (H.kill b) e size (len+n) (kO old new) fz)) B5))) B5
     |_=>B5) B5)) B5)
 |_=>B5
namespace Op
def fail:List AV->Option AV:=λ _=>B5
def move:List AV->Option AV
 |[v]=>B1 v
 |_=>B5
def pick:List AV->Option AV
 |[.bool q,a,b]=>B1 (cond q a b)
 |_=>B5
def build(zero:List AV)(places:List (Nat×Nat))(vs:List AV):Option AV :=
 (jG zero places vs).bind λ c=>B1 (.agg c)
def nilCheck:List AV->Option AV
 |[.nilp]|[.nili]|[.nilf]=>B5
 |[.fn (.func f) a b]=>B1 (.fn (.func f) a b)
 |[.fn _ _ _]=>B5
 |[v]=>B1 v
 |_=>B5
def bin(op:BinOp):List AV->Option AV
 |[x,y]=>nC op x y
 |_=>B5
def eq(t:wC)(neg:Bool):List AV->ar->Option AV
 |[x,y],H=>(J1 H t x y).bind λ q=>B1 (.bool (cond neg (!q) q))
 |_,_=>B5
def un(op:UnOp):List AV->Option AV
 |[x]=>lL op x
 |_=>B5
def wrap(k:Pl):List AV->Option AV
 |[.int _ n]=>B1 (.int k (aj k n))
 |_=>B5
def dL:List AV->Option AV
 |[.int _ n]=>cond (sZ 0 n && Av n 128) (B1 (.str [BP n.toNat])) B5
 |_=>B5
def eM:List AV->Option AV
 |[.str s]=>B1 (.str s)
 |_=>B5
def dq(t:Nat):List AV->Option AV
 |[v]=>B1 (.iface t v)
 |_=>B5
def bt(f nf:Nat)(l:List AV):Option AV:=B1 (.fn (.func f) (l.take nf) (l.drop nf))
def dS:List (Option Nat)->List AV->Option AV
 |[lo,hi],.str s::vs =>
  (arg vs hi).bind λ b=>(arg vs lo).bind λ a=>(bound b s.length s.length).bind λ h=>(bound a 0 h).bind λ l=>B1 (.str ((s.take h).drop l))
 |_,_=>B5
def aB(size:Nat):List (Option Nat)->List AV->Option AV
 |[lo,hi,mx],x::vs=>(arg vs lo).bind λ a=>(arg vs hi).bind λ b=>(arg vs mx).bind λ m=>dv size x a b m
 |_,_=>B5
def cJ(n size:Nat):List (Option Nat)->List AV->Option AV
 |[lo,hi,mx],.ptr p o::vs=>(arg vs lo).bind λ a=>(arg vs hi).bind λ b=>(arg vs mx).bind λ m=>dv size (.slice p o n n) a b m
 |_,_=>B5
def fieldAddr(off:Nat):List AV->Option AV
 |[.ptr b o]=>B1 (.ptr b (o+off))
 |_=>B5
def field(off:Nat)(n:Option Nat):List AV->Option AV
 |[.agg l]=>partAt l off n
 |_=>B5
def aP(size:Nat):List AV->Option AV
 |[x,.int _ j]=>(fy x).bind λ n=>(within j n).bind λ k=>(elemAt size x k).bind λ p=>B1 (.ptr p.1 p.2)
 |_=>B5
def aY(len size:Nat):List AV->Option AV
 |[.ptr b o,.int _ j]=>(within j len).bind λ k=>B1 (.ptr b (o+k*size))
 |_=>B5
def bB(len size:Nat)(n:Option Nat):List AV->Option AV
 |[.agg l,.int _ j]=>(within j len).bind λ k=>partAt l (k*size) n
 |_=>B5
def bN:List AV->Option AV
 |[.str s,.int _ j]=>(within j s.length).bind λ k=>(nth s k).bind λ b=>B1 (.int .u8 b.toNat)
 |_=>B5
def typeAssert(t:Nat)(ok:Bool)(zero:AV):List AV->Option AV
 |[.nili]=>cond ok (B1 (.tuple [zero,.bool B2])) B5
 |[.iface u v]=>cond (J3 u t) (B1 (cond ok (.tuple [v,.bool B4]) v)) (cond ok (B1 (.tuple [zero,.bool B2])) B5)
 |_=>B5
def extract(i:Nat):List AV->Option AV
 |[.tuple l]=>nth l i
 |_=>B5
def fE:List AV->Option AV
 |[.str s]=>B1 (eS (cS s))
 |_=>B5
def dm:List AV->Option AV
 |[.nils]=>B1 (eS 0)
 |[.slice _ _ n _]=>B1 (eS n)
 |[.gslice _ _ _ _ _ n]=>B1 (eS n)
 |[.eslice _]=>B1 (eS 0)
 |_=>B5
def oQ(n:Nat):List AV->Option AV
 |[_]=>B1 (eS n)
 |_=>B5
def cap:List AV->Option AV
 |[.nils]=>B1 (eS 0)
 |[.slice _ _ _ c]=>B1 (eS c)
 |_=>B5
def gP(mx:Bool):Int->List AV->Option Int
 |a,[]=>B1 a
 |a,.int _ b::l=>gP mx (cond mx (cond (Av a b) b a) (cond (Av b a) b a)) l
 |_,_=>B5
def eB(mx:Bool):List AV->Option AV
 | .int k a::l=>(gP mx a l).bind λ r=>B1 (.int k r)
 |_=>B5
def dh:List AV->Option AV
 |[.nils]=>B1 .nilp
 |[.slice b o _ c]=>cond (J3 c 0) B5 (B1 (.ptr b o))
 |[.gslice b i m s _ _]=>cond (QS i m) (B1 (.ptr b (i*s))) B5
 |_=>B5
def dR:List AV->Option AV
 |[x]=>B1 x
 |_=>B5
def aF:List AV->Option AV
 |[.str s,.int .u8 c]=>B1 (eS (match Hk (BP c.toNat) s 0 with|some i=>i|none=>-1))
 |_=>B5
def bT:List AV->Option AV
 |[.str s,.int .u8 c]=>B1 (eS (Int.ofNat (xF (BP c.toNat) s)))
 |_=>B5
def ae:List AV->ar->Option AV
 |[.ptr b o],H=>H.ae b o
 |_,_=>B5
def av(n:Nat):List AV->ar->Option AV
 |[.ptr b o],H=>(H.av b o n).bind λ l=>B1 (.agg l)
 |_,_=>B5
def cw:List AV->ar->Option AV
 |[.str _],_=>B5
 |[v],H=>(fy v).bind λ n=>(firstCells H 1 n v).bind λ l=>(bytesOf l).bind λ s=>B1 (.str s)
 |_,_=>B5
def lookup(key:aR)(zero:AV)(ok:Bool):List AV->ar->Option AV
 |[.mz,k],_=>cond (cH key k) (B1 (cond ok (.tuple [zero,.bool B2]) zero)) B5
 |[.map b,k],H=>cond (cH key k) ((H.eW b).bind λ m=>(findKey key k m.1 0).bind λ r=>match r with
  |some p=>B1 (cond ok (.tuple [p.2,.bool B4]) p.2)
  |none=>B1 (cond ok (.tuple [zero,.bool B2]) zero)) B5
 |_,_=>B5
def gJ:List AV->ar->Option AV
 |[.mz],_=>B1 (eS 0)
 |[.map b],H=>(H.eW b).bind λ m=>B1 (eS m.1.length)
 |_,_=>B5
def eI(lies:Nat->Nat->Nat->Bool):List AV->ar->Option AV
 |[.nilp],_=>B1 .nilp
 |[.ptr b o],H=>match H.get b with
  |some (.row c e _ B4)=>cond (lies e c.length o) (B1 (.ptr b o)) B5
  |_=>B5
 |_,_=>B5
def ptrTo(b:Nat):AV:=.ptr b 0
def alloc(e:Nat)(zero:List AV):List AV->Option (bC×(Nat->AV))
 |[]=>B1 (.row zero e (0,0) B4,ptrTo)
 |_=>B5
def box(e:Nat):List AV->Option (bC×(Nat->AV))
 |[v]=>B1 (.row v.cells e (0,0) B4,ptrTo)
 |_=>B5
def sliceTo(n m:Nat)(b:Nat):AV:=.slice b 0 n m
def buildSlice(e n:Nat)(zero:List AV)(places:List (Nat×Nat))(vs:List AV):Option (bC×(Nat->AV)) :=
 (jG (fX n zero) places vs).bind λ c=>B1 (.row c e (0,0) B4,sliceTo n n)
def mkMap:List AV->Option (bC×(Nat->AV))
 |[]=>B1 (.map [] 0,.map)
 |_=>B5
def mkSlice(e bytes:Nat)(zero:List AV):List AV->Option (bC×(Nat->AV))
 |[.int _ n,.int _ m]=>cond (sZ 0 n && sZ n m && sZ (m*bytes) 140737488355328 && sZ m 140737488355328)
  (B1 (.row (fX m.toNat zero) e (0,0) B4,sliceTo n.toNat m.toNat)) B5
 |_=>B5
def υ(m n:Nat)(b:Nat):AV:=.gslice b 0 m 1 0 n
def cz(e:Nat):List AV->Option (bC×(Nat->AV))
 |[.str s]=>cond (Ow s.length 140737488355328) (B1 (.grown s.length 1 (s.map λ b=>.int .u8 b.toNat) e (1,0),υ s.length s.length)) B5
 |_=>B5
def dJ:List AV->Option (bC×(Nat->AV))
 |[.str s]=>B1 (.mj s 0,ptrTo)
 |_=>B5
def makeNoZero(e:Nat):List AV->Option (bC×(Nat->AV))
 |[.int .i64 n]=>cond (sZ 0 n && sZ n 140737488355328) (B1 (.grown 0 1 [] e (0,0),υ 0 n.toNat)) B5
 |_=>B5
def store(n:Nat):List AV->ar->Option (AV×ar)
 |[.ptr b o,v],H=>cond (J3 (cS v.cells) n) ((H.store b o v.cells).bind λ H'=>B1 (.undef,H')) B5
 |_,_=>B5
def vD:AV->AV->Bool
 | .int k a,.int k' b=>rT k k' && uT a b
 | .str a,.str b=>Az a b
 | .bool a,.bool b=>a == b
 |_,_=>B2
def fj:List AV->List AV->Bool
 |[],[]=>B4
 |a::x,b::y=>cond (vD a b) (fj x y) B2
 |_,_=>B2
def stays:AV->AV->Bool
 | .agg a,.agg b=>fj a b
 |a,b=>vD a b
def mapUpdate(key:aR):List AV->ar->Option (AV×ar)
 |[.map b,k,v],H=>cond (cH key k) ((H.eW b).bind λ m=>(findKey key k m.1 0).bind λ r=>match r with
  |some p=>(nth m.1 p.1).bind λ e=>cond (stays e.1 k) (B1 (.undef,H.set b (.map (m.1.modify p.1 λ e=>(k,v,e.2.2)) m.2))) B5
  |none=>B1 (.undef,H.set b (.map (m.1 ++ [(k,v,m.2)]) (m.2+1)))) B5
 |_,_=>B5
def dg(key:aR):List AV->ar->Option (AV×ar)
 |[.mz,k],H=>cond (cH key k) (B1 (.tuple [],H)) B5
 |[.map b,k],H=>cond (cH key k) ((H.eW b).bind λ m=>(findKey key k m.1 0).bind λ r=>match r with
  |some p=>B1 (.tuple [],H.set b (.map (m.1.eraseIdx p.1) m.2))
  |none=>B1 (.tuple [],H.set b (.map m.1 m.2))) B5
 |_,_=>B5
def eN:List AV->ar->Option (AV×ar)
 |[.ptr b 0],H=>match H.get b with
  |some (.mj s p)=>match nth s p with
   |some c=>cond (QS c.toNat 128) (B1 (.tuple [.bool B4,eS p,.int .i32 c.toNat],H.set b (.mj s (p+1)))) B5
   |none=>B1 (.tuple [.bool B2],H)
  |_=>B5
 |_,_=>B5
def append(e size bytes:Nat):List AV->ar->Option (AV×ar)
 |[a,b],H=>(fy b).bind λ n=>(firstCells H size n b).bind λ new=>cond (aQ new) (de H e size bytes a n new) B5
 |_,_=>B5
def copy(size:Nat):List AV->ar->Option (AV×ar)
 |[.str _,_],_=>B5
 |[d,r],H=>(fy d).bind λ dn=>(fy r).bind λ rn=>(firstCells H size (min rn dn) r).bind λ l =>
  cond (J3 (min rn dn) 0) (B1 (eS 0,H)) ((elemAt size d 0).bind λ p=>(H.store p.1 p.2 l).bind λ H'=>B1 (eS (min rn dn),H'))
 |_,_=>B5
def bZ(zero:List AV):List AV->ar->Option (AV×ar)
 |[.str _],_=>B5
 |[x],H=>(fy x).bind λ n=>cond (J3 n 0) (B1 (.tuple [],H))
  ((elemAt zero.length x 0).bind λ p=>(H.store p.1 p.2 (fX n zero)).bind λ H'=>B1 (.tuple [],H'))
 |_,_=>B5
def bW:List AV->ar->Option (AV×ar)
 |[.mz],H=>B1 (.tuple [],H)
 |[.map b],H=>(H.eW b).bind λ m=>B1 (.tuple [],H.set b (.map [] m.2))
 |_,_=>B5
def wS(fz:Nat×Nat)(o n:Nat):Nat×Nat:=cond (J3 fz.1 fz.2) (o,o+n) (min fz.1 o,max fz.2 (o+n))
def eJ:List AV->ar->Option (AV×ar)
 |[.slice b o n c],H=>match H.get b with
  |some (.row cs e fz B4)=>B1 (.slice b o n c,H.set b (.row cs e (wS fz (cS cs) 1) B4))
  |_=>B5
 |_,_=>B5
def dK(u:Nat):List AV->ar->Option (AV×ar)
 |[.nilp,.int _ k],H=>cond (uT k 0) (B1 (.str [],H)) B5
 |[.ptr b o,.int _ k],H=>cond (uT k 0) (B1 (.str [],H)) (cond (Av k 0 ||Av 140737488355328 k) B5 (match H.get b with
  |some (.row c e fz B4)=>cond (J3 e u) ((fM c o k.toNat).bind λ l=>(bytesOf l).bind λ s=>B1 (.str s,H.set b (.row c e (wS fz o k.toNat) B4))) B5
  |some (.grown m z c e fz)=>cond (J3 e u && Ow fz.1 fz.2) ((fM c o k.toNat).bind λ l=>(bytesOf l).bind λ s=>B1 (.str s,H.set b (.grown m z c e (wS fz o k.toNat)))) B5
  |_=>B5))
 |_,_=>B5
end Op
inductive fJ where
 |pure (f:List AV->Option AV)
 |read (f:List AV->ar->Option AV)
 |alloc (f:List AV->Option (bC×(Nat->AV)))
 |gN (f:List AV->ar->Option (AV×ar))
 |iq (f:Nat)
 |ik
 |invoke (name:String)
 |recover
 |defer
 |panic
structure aO where
 ij:Bool
 dst:Option Nat
 guard:Option (Nat×Bool)
 args:List bJ
 op:fJ
 cA:Option (List Nat)
inductive ai where
 |skip
 |region (steps:List aO)
 |seq (a b:ai)
 |cond (c:bJ) (thn els:ai)
 |block (id:Nat) (body:ai)
 |loop (ah:Option (List Nat)) (body:ai)
 |rangeFunc (f:bJ) (k:Nat)
 |exit (id:Nat)
 |scope (body:ai)
 |label (l:Nat)
 |goto (l:Nat)
 |ret
 |stuck
instance:Inhabited ai:=⟨.skip⟩
structure dM where
 params:List Nat
 assign:ai
 body:ai
structure bV where
 results:List ei
 body:ai
 loops:List dM
structure jQ where
 func:Nat->Option bV
 kF:Nat->String->Option Nat
abbrev aG:=List (AV×Bool)
structure St where
 tm:T AV
 aZ:List aM
 up:Option aG
 H:ar
inductive aX where
 |normal
 |exit (id:Nat)
 |goto (l:Nat)
 |ret
 |panic (chain:aG)
inductive bH where
 |ret (v:AV)
 |panic (chain:aG)
abbrev bY:=Nat->List AV->Option aG->ar->Option (bH×Option aG×ar)
structure Ctx where
 round:Option Nat
 fn:Nat
end
end Go.Am
namespace Go.Am
noncomputable section
def Ml:T AV->List Nat->List AV->Option (T AV)
 |tm,[],[]=>B1 tm
 |tm,p::ps,v::vs=>Ml (tm.set p v) ps vs
 |_,_,_=>B5
def jV:Nat->List AV->T AV->T AV
 |_,[],t=>t
 |i,v::vs,t=>jV (i+1) vs (t.set i v)
def kY:aX->Option ic
 | .exit id=>B1 (.exit id)
 | .goto l=>B1 (.goto l)
 | .ret=>B1 .ret
 |_=>B5
def rN:Option ic->aX
 |none=>.normal
 |some (.exit id)=>.exit id
 |some (.goto l)=>.goto l
 |some .ret=>.ret
def zZ:aX->Bool
 | .normal=>B4
 |_=>B2
def Y1(tm:T AV):List Nat->T AV->T AV
 |[],acc=>acc
 |k::ks,acc=>Y1 tm ks (acc.put k (tm.get k))
def forget:List Nat->T AV->T AV
 |[],t=>t
 |d::ds,t=>forget ds (t.put d B5)
def eH(dst:Option Nat)(v:AV)(tm:T AV):T AV :=
 match dst with
 |some d=>tm.set d v
 |none=>tm
structure aa8 where
 run:AV->T AV->T AV
def lM:Option Nat->aa8
 |some d=>⟨λ v tm=>(T.zT (T.path d)).run (B1 v) tm⟩
 |none=>⟨λ _ tm=>tm⟩
abbrev gQ:=Option (aX×St)
def gT(ah:Option (List Nat))(body:St->gQ):Nat->St->gQ
 |0,_=>B5
 |n+1,st =>
  (body (match ah with|none=>st|some ks=>{st with tm:=Y1 st.tm ks .nil})).bind λ r=>match r.1 with
   | .normal=>gT ah body n r.2
   |e=>B1 (e,r.2)
def FY:ai->Nat->Bool
 | .seq a b,l=>FY a l ||FY b l
 | .label l',l=>J3 l' l
 |_,_=>B2
mutual
def ct:AV->AV->Bool
 | .bool a,.bool b=>a == b
 | .int k a,.int k' b=>rT k k' && uT a b
 | .str a,.str b=>Az a b
 | .nilp,.nilp=>B4
 | .ptr a b,.ptr c d=>J3 a c && J3 b d
 | .nils,.nils=>B4
 | .slice a b c d,.slice a' b' c' d'=>J3 a a' && J3 b b' && J3 c c' && J3 d d'
 | .gslice a b c d e f,.gslice a' b' c' d' e' f'=>J3 a a' && J3 b b' && J3 c c' && J3 d d' && J3 e e' && J3 f f'
 | .eslice a,.eslice b=>J3 a b
 | .mz,.mz=>B4
 | .map a,.map b=>J3 a b
 | .nilf,.nilf=>B4
 | .nili,.nili=>B4
 | .fn (.func f) x a,.fn (.func g) y b=>J3 f g && fj x y && fj a b
 | .fn (.yield f) x a,.fn (.yield g) y b=>J3 f g && fj x y && fj a b
 | .iface t a,.iface u b=>J3 t u && ct a b
 | .agg a,.agg b=>fj a b
 | .tuple a,.tuple b=>fj a b
 |_,_=>B2
def fj:List AV->List AV->Bool
 |[],[]=>B4
 |x::xs,y::ys=>ct x y && fj xs ys
 |_,_=>B2
end
abbrev iT:=List AV->Nat->ar->Option (bH×ar)
structure RT where
 AP:jQ
 call:bY
 round:iT
 n:Nat
 ctx:Ctx
def cV(call:bY)(round:iT)(f:mA)(args:List AV)(H:ar):Option (bH×ar) :=
 match f with
 | .func g=>(call g args B5 H).bind λ r=>B1 (r.1,r.2.2)
 | .yield l=>round args l H
def fI(put:AV->T AV->T AV)(cA:Option (List Nat))(st:St)(k:St->gQ)(r:bH×ar):gQ :=
 match r.1 with
 | .ret v=>k ⟨put v st.tm,st.aZ,st.up,r.2⟩
 | .panic c=>cA.bind λ ds=>B1 (.panic c,⟨forget ds st.tm,st.aZ,st.up,r.2⟩)
def Sg(put:AV->T AV->T AV)(st:St):St :=
 match st.up with
 |some ((v,B2)::older)=>⟨put v st.tm,st.aZ,B1 ((v,B4)::older),st.H⟩
 |_=>⟨put .nili st.tm,st.aZ,st.up,st.H⟩
def EE(f:List AV->Option AV)(put:AV->T AV->T AV)(st:St)(k:St->gQ)(vs:List AV):gQ :=
 (f vs).bind λ v=>k ⟨put v st.tm,st.aZ,st.up,st.H⟩
def Cr(f:List AV->ar->Option AV)(put:AV->T AV->T AV)(st:St)(k:St->gQ)(vs:List AV):gQ :=
 (f vs st.H).bind λ v=>k ⟨put v st.tm,st.aZ,st.up,st.H⟩
def xC(f:List AV->Option (bC×(Nat->AV)))(put:AV->T AV->T AV)(st:St)(k:St->gQ)(vs:List AV):gQ :=
 (f vs).bind λ r=>k ⟨put (r.2 st.H.au) st.tm,st.aZ,st.up,st.H.alloc r.1⟩
def Lp(f:List AV->ar->Option (AV×ar))(put:AV->T AV->T AV)(st:St)(k:St->gQ)(vs:List AV):gQ :=
 (f vs st.H).bind λ r=>k ⟨put r.1 st.tm,st.aZ,st.up,r.2⟩
def Cy(f:Nat)(rt:RT)(put:AV->T AV->T AV)(cA:Option (List Nat))(st:St)(k:St->gQ)(vs:List AV):gQ :=
 (cV rt.call rt.round (.func f) vs st.H).bind λ r=>fI put cA st k r
def CZ(rt:RT)(put:AV->T AV->T AV)(cA:Option (List Nat))(st:St)(k:St->gQ)(vs:List AV):gQ :=
 match vs with
 | .fn (.func f) first cap::args=>(cV rt.call rt.round (.func f) (first++(args++cap)) st.H).bind λ r=>fI put cA st k r
 | .fn (.yield l) first []::args=>(cV rt.call rt.round (.yield l) (first++args) st.H).bind λ r=>fI put cA st k r
 |_=>B5
def tJ(name:String)(rt:RT)(put:AV->T AV->T AV)(cA:Option (List Nat))(st:St)(k:St->gQ)(vs:List AV):gQ :=
 match vs with
 | .iface t v::args=>(rt.AP.kF t name).bind λ f=>(cV rt.call rt.round (.func f) (v::args) st.H).bind λ r=>fI put cA st k r
 |_=>B5
def UE(rt:RT)(put:AV->T AV->T AV)(st:St)(k:St->gQ)(vs:List AV):gQ :=
 match rt.ctx.round with
 |some _=>B5
 |none=>match vs with
  |[]=>k (Sg put st)
  |_=>B5
def wL(rt:RT)(put:AV->T AV->T AV)(st:St)(k:St->gQ)(vs:List AV):gQ :=
 match rt.ctx.round with
 |some _=>B5
 |none=>match vs with
  | .fn (.func f) first cap::args=>k ⟨put .undef st.tm,.fn (.func f) (first++(args++cap))::st.aZ,st.up,st.H⟩
  |_=>B5
def vZ(put:AV->T AV->T AV)(cA:Option (List Nat))(st:St)(k:St->gQ)(vs:List AV):gQ :=
 match vs with
 |[.iface t v]=>fI put cA st k (.panic [(.iface t v,B2)],st.H)
 |_=>B5
structure OpC where
 run:RT->St->(St->gQ)->List AV->gQ
def ri(put:AV->T AV->T AV)(cA:Option (List Nat)):fJ->OpC
 | .pure f=>⟨λ _ st k vs=>EE f put st k vs⟩
 | .read f=>⟨λ _ st k vs=>Cr f put st k vs⟩
 | .alloc f=>⟨λ _ st k vs=>xC f put st k vs⟩
 | .gN f=>⟨λ _ st k vs=>Lp f put st k vs⟩
 | .iq f=>⟨λ rt st k vs=>Cy f rt put cA st k vs⟩
 | .ik=>⟨λ rt st k vs=>CZ rt put cA st k vs⟩
 | .invoke name=>⟨λ rt st k vs=>tJ name rt put cA st k vs⟩
 | .recover=>⟨λ rt st k vs=>UE rt put st k vs⟩
 | .defer=>⟨λ rt st k vs=>wL rt put st k vs⟩
 | .panic=>⟨λ _ st k vs=>vZ put cA st k vs⟩
def rL(get:T AV->Option AV)(st:St)(vs:List AV):fJ->Bool
 | .read f=>match f vs st.H,get st.tm with
  |some v,B1 v'=>ct v v'
  |_,_=>B2
 |_=>B2
def cP(b:Bool):Option AV->Option Bool
 |some (.bool q)=>B1 (cond q b (!b))
 |some (.tuple [])=>B1 B2
 |_=>B5
structure P1 where
 run:RT->(St->gQ)->St->gQ
def gR(s:aO):P1 :=
 match s.ij with
 |false=>match s.guard with
  |none=>⟨λ rt k st=>((u7 s.args).run st.tm).bind λ vs=>(ri (lM s.dst).run s.cA s.op).run rt st k vs⟩
  |some g=>⟨λ rt k st=>(cP g.2 ((T.oP (T.path g.1)).run st.tm)).bind λ w =>
   cond w (((u7 s.args).run st.tm).bind λ vs=>(ri (lM s.dst).run s.cA s.op).run rt st k vs) (k ⟨(lM s.dst).run .undef st.tm,st.aZ,st.up,st.H⟩)⟩
 |true=>match s.guard,s.dst with
  |none,B1 d=>⟨λ _ k st=>((u7 s.args).run st.tm).bind λ vs=>cond (rL (T.oP (T.path d)).run st vs s.op) (k st) B5⟩
  |some g,B1 d=>⟨λ _ k st=>(cP g.2 ((T.oP (T.path g.1)).run st.tm)).bind λ w =>
   cond w (((u7 s.args).run st.tm).bind λ vs=>cond (rL (T.oP (T.path d)).run st vs s.op) (k st) B5) (k st)⟩
  |_,B5=>⟨λ _ _ _=>B5⟩
structure Jd where
 run:RT->St->gQ
def gW:List aO->Jd
 |[]=>⟨λ _ st=>B1 (.normal,st)⟩
 |s::rest=>⟨λ rt st=>(gR s).run rt ((gW rest).run rt) st⟩
def cO(H:ar)(l:Nat)(s:mV)(p:Option ic):Option ar :=
 match H.get l with
 |some (.loop _ _ f k tm d)=>B1 (H.set l (.loop s p f k tm d))
 |_=>B5
def BH(H:ar)(l:Nat):Option Nat :=
 match H.get l with
 |some (.loop _ _ _ _ _ d)=>B1 d
 |_=>B5
def N9(st:St)(aZ:List aM)(l:Nat)(e:bH)(H:ar):gQ :=
 match e with
 | .panic c=>B1 (.panic c,{st with aZ:=aZ,H:=H})
 | .ret _=>match H.get l with
  |some (.loop .busy _ _ _ _ _)=>B5
  |some (.loop _ p f k tm d)=>B1 (rN p,{st with aZ:=aZ,H:=H.set l (.loop .exhausted p f k tm d)})
  |_=>B5
def jB(call:bY)(round:iT)(ctx:Ctx)(st:St)(k:Nat)(H0:ar)(aZ:List aM)(d:Nat):AV->gQ
 | .fn (.func g) first cap =>
  (cV call round (.func g) (first++(.fn (.yield H0.au) [] []::cap)) (H0.alloc (.loop .ready B5 ctx.fn k st.tm d))).bind λ r =>
   N9 st aZ H0.au r.1 r.2
 |_=>B5
def uR(next:RT->St->gQ)(rt:RT)(r:aX×St):gQ :=
 match r.1 with
 | .normal=>next rt r.2
 |e=>B1 (e,r.2)
def uD(a b:RT->St->gQ)(rt:RT)(st:St)(v:AV):gQ :=
 match v with
 | .bool q=>cond q (a rt st) (b rt st)
 |_=>B5
def kM(id:Nat)(r:aX×St):gQ :=
 match r.1 with
 | .exit id'=>B1 (cond (J3 id id') .normal (.exit id'),r.2)
 |e=>B1 (e,r.2)
def lW(b:ai)(r:aX×St):gQ :=
 match r.1 with
 | .goto l=>cond (FY b l) B5 (B1 (.goto l,r.2))
 |e=>B1 (e,r.2)
def rE(rt:RT)(k:Nat)(st:St)(v:AV):gQ :=
 match rt.ctx.round with
 |none=>jB rt.call rt.round rt.ctx st k (st.H.alloc (.deferred (B1 []))) (.jJ st.H.au::st.aZ) st.H.au v
 |some l=>(BH st.H l).bind λ d=>jB rt.call rt.round rt.ctx st k st.H st.aZ d v
def bG:ai->Jd
 | .skip=>⟨λ _ st=>B1 (.normal,st)⟩
 | .label _=>⟨λ _ st=>B1 (.normal,st)⟩
 | .region steps=>gW steps
 | .seq a b=>⟨λ rt st=>((bG a).run rt st).bind (uR (bG b).run rt)⟩
 | .cond c a b=>⟨λ rt st=>((Om c).run st.tm).bind (uD (bG a).run (bG b).run rt st)⟩
 | .block id b=>⟨λ rt st=>((bG b).run rt st).bind (kM id)⟩
 | .loop ah b=>⟨λ rt st=>gT ah ((bG b).run rt) rt.n st⟩
 | .exit id=>⟨λ _ st=>B1 (.exit id,st)⟩
 | .goto l=>⟨λ _ st=>B1 (.goto l,st)⟩
 | .ret=>⟨λ _ st=>B1 (.ret,st)⟩
 | .stuck=>⟨λ _ _=>B5⟩
 | .scope b=>⟨λ rt st=>((bG b).run rt st).bind (lW b)⟩
 | .rangeFunc f k=>⟨λ rt st=>((Om f).run st.tm).bind (rE rt k st)⟩
def exec(AP:jQ)(call:bY)(round:iT)(n:Nat)(ctx:Ctx)(c:ai)(st:St):gQ:=(bG c).run ⟨AP,call,round,n,ctx⟩ st
def Gn(l:Nat)(r:aX×St):Option (bH×ar) :=
 match r.1 with
 | .panic c=>B1 (.panic c,r.2.H)
 |e=>(cO r.2.H l (cond (zZ e) .ready .done) (kY e)).bind λ H=>B1 (.ret (.bool (zZ e)),H)
def beginRound(H:ar)(l:Nat):Option ar :=
 match H.get l with
 |some (.loop .ready p f k tm d)=>B1 (H.set l (.loop .busy p f k tm d))
 |_=>B5
def roundOf(AP:jQ)(ex:Ctx->ai->St->gQ)(args:List AV)(l:Nat)(H:ar):Option (bH×ar) :=
 match H.get l with
 |some (.loop _ _ f k tm _) =>
  (AP.func f).bind λ fn=>(nth fn.loops k).bind λ lp=>(Ml tm lp.params args).bind λ tm1 =>
  (ex ⟨B1 l,f⟩ lp.assign {tm:=tm1,aZ:=[],up:=B5,H:=H}).bind λ r=>match r.1 with
   | .normal=>(beginRound r.2.H l).bind λ H2=>(ex ⟨B1 l,f⟩ lp.body {r.2 with H:=H2}).bind λ q=>cond (noDefs q.2.aZ) (Gn l q) B5
   |_=>B5
 |_=>B5
 where noDefs:List aM->Bool
 |[]=>B4
 |_=>B2
def NG(H:ar)(tm:T AV):ei->Option AV
 | .tmp t=>tm.get t
 | .kR a=>(tm.get a).bind λ v=>match v with| .ptr b o=>H.ae b o|_=>B5
 | .cM n a=>(tm.get a).bind λ v=>match v with| .ptr b o=>(H.av b o n).bind λ l=>B1 (.agg l)|_=>B5
def d8(H:ar)(tm:T AV):List ei->Option (List AV)
 |[]=>B1 []
 |r::rs=>(NG H tm r).bind λ v=>(d8 H tm rs).bind λ vs=>B1 (v::vs)
def jN:List AV->AV
 |[v]=>v
 |l=>.tuple l
def nQ(m:Option aG)(up:aG):Option (Option aG) :=
 match m,up with
 |none,[]=>B1 B5
 |some _,(_,B4)::_=>B1 B5
 |some _,(v,B2)::c=>B1 (B1 ((v,B2)::c))
 |_,_=>B5
def cm(call:bY)(rs:List ei)(tm:T AV):List aM->Option aG->ar->Option (bH×ar)
 |[],B5,H=>(d8 H tm rs).bind λ l=>B1 (.ret (jN l),H)
 |[],B1 c,H=>B1 (.panic c,H)
 | .jJ b::ds,m,H=>match H.get b with
  |some (.deferred (B1 []))=>cm call rs tm ds m (H.set b (.deferred B5))
  |_=>B5
 | .fn (.func f) args::ds,m,H=>(call f args (B1 (m.getD [])) H).bind λ r =>
  match r.1,r.2.1 with
  | .ret _,B1 up'=>(nQ m up').bind λ m'=>cm call rs tm ds m' r.2.2
  |_,_=>B5
 | .fn (.yield _) _::_,_,_=>B5
def qG(call:bY)(fn:bV)(r:aX×St):Option (bH×Option aG×ar) :=
 let fin (m:Option aG):Option (bH×Option aG×ar):=(cm call fn.results r.2.tm r.2.aZ m r.2.H).bind λ q=>B1 (q.1,r.2.up,q.2)
 match r.1 with
 | .normal=>fin B5
 | .ret=>fin B5
 | .panic c=>fin (B1 c)
 |_=>B5
def rounds(AP:jQ)(call:bY)(m:Nat):Nat->iT
 |0=>λ _ _ _=>B5
 |n+1=>roundOf AP (exec AP call (rounds AP call m n) m)
def Iz(AP:jQ)(call:bY)(n:Nat):bY:=λ f args up H =>
 (AP.func f).bind λ fn =>
  (exec AP call (rounds AP call n n) n ⟨B5,f⟩ fn.body {tm:=jV 0 args .nil,aZ:=[],up:=up,H:=H}).bind λ r =>
   qG call fn r
def Da(AP:jQ):Nat->bY
 |0=>λ _ _ _ _=>B5
 |n+1=>Iz AP (Da AP n) n
def kI(AP:jQ)(told:bY):Nat->bY
 |0=>told
 |n+1=>λ f args up H=>match told f args up H with
  |some r=>B1 r
  |none=>Iz AP (kI AP told n) n f args up H
end
end Go.Am
namespace Go.Am
noncomputable section
mutual
def fU:Km->Option AV
 | .bool b=>B1 (.bool b)
 | .int k n=>B1 (.int k n)
 | .string s=>B1 (.str s.data.toList)
 | .pointer B5=>B1 .nilp
 | .slice B5 0 0=>B1 .nils
 | .map B5=>B1 .mz
 | .nilFunc=>B1 .nilf
 | .nilIface=>B1 .nili
 | .iface t v=>(fU v).bind λ x=>B1 (.iface t x)
 | .agg cs=>(nY cs.toList).bind λ l=>B1 (.agg l)
 | .tuple cs=>(nY cs.toList).bind λ l=>B1 (.tuple l)
 |_=>B5
def nY:List Km->Option (List AV)
 |[]=>B1 []
 |v::vs=>(fU v).bind λ x=>(nY vs).bind λ xs=>B1 (x::xs)
end
def rD(G:Nat):N0->Option bJ
 | .tmp t=>B1 (.tmp t)
 | .const v=>(fU v).bind λ x=>B1 (.const x)
 | .global g=>if QS g G then B1 (.eF g)else B5
 | .func f=>B1 (.func f)
def nS(G:Nat):List N0->Option (List bJ)
 |[]=>B1 []
 |x::xs=>(rD G x).bind λ y=>(nS G xs).bind λ ys=>B1 (y::ys)
def zeroOf(P:Kc)(t:Ma):Option AV:=((P.info? t).bind (·.zero)).bind fU
def bR(P:Kc)(t:Ma):Option Nat:=(P.info? t).bind λ i=>B1 i.size
def mS(P:Kc)(t:Ma):Option Nat:=(P.info? t).bind λ i=>B1 i.bytes
def oi(P:Kc)(t:Ma):Option (Option Nat) :=
 match P.underlying t with
 |some (.struct _)|some (.array _ _)=>(bR P t).bind λ n=>B1 (B1 n)
 |some _=>B1 B5
 |none=>B5
def dC(P:Kc):Nat->Ma->Option aR
 |0,_=>B5
 |d+1,t=>match P.underlying t with
  |some (.int _)=>B1 .int
  |some .string=>B1 .str
  |some .bool=>B1 .bool
  |some (.struct fs)=>if P.stoodInHeld t then B5 else fieldsT (dC P d) fs.toList
  |some (.array n e)=>(bR P e).bind λ s=>(oi P e).bind λ a=>(dC P d e).bind λ q=>B1 (itemsT s a q n 0)
  |_=>B5
 where
 fieldsT (go:Ma->Option aR):List Field->Option aR
  |[]=>B1 .nil
  |f::fs=>if f.name = "_" then B5 else(oi P f.type).bind λ a=>(go f.type).bind λ q=>(fieldsT go fs).bind λ r=>B1 (.part f.offset a q r)
 itemsT (s:Nat) (a:Option Nat) (q:aR):Nat->Nat->aR
  |0,_=>.nil
  |n+1,i=>.part (i*s) a q (itemsT s a q n (i+1))
def pU(P:Kc)(t:Ma):Option aR:=dC P 20 t
def gI:Nat->List (Option N0)->List (Option Nat)
 |_,[]=>[]
 |n,B5::r=>B5::gI n r
 |n,B1 _::r=>B1 n::gI (n+1) r
def kH:List (Option N0)->List N0
 |[]=>[]
 |none::r=>kH r
 |some x::r=>x::kH r
def Dy(pl:Nat->Option (Nat×Nat)):List (Nat×N0)->Option (List (Nat×Nat))
 |[]=>B1 []
 |(i,_)::r=>(pl i).bind λ p=>(Dy pl r).bind λ l=>B1 (p::l)
def NZ(P:Kc)(fs:Array Field)(i:Nat):Option (Nat×Nat):=(fs[i]?).bind λ f=>(bR P f.type).bind λ n=>B1 (f.offset,n)
def Mm(n:Nat)(i:Nat):Option (Nat×Nat):=B1 (i*n,n)
def Wi(P:Kc)(b:Builtin)(ts:Array Ma)(args:List N0):Option (List N0×fJ) :=
 match b with
 | .len=>match(ts[0]?).bind P.underlying with
  |some (.slice _)=>B1 (args,.pure Op.dm)
  |_=>B5
 | .append=>match ts.toList with
  |[t,tx]=>match P.underlying t,P.underlying tx with
   |some (.slice e),B1 (.slice _)=>(bR P e).bind λ n=>(mS P e).bind λ z=>(zeroOf P e).bind λ zv=>if zv.cells.length=n then B1 (args,.gN (Op.append e n z))else B5
   |_,_=>B5
  |_=>B5
 | .min=>B1 (args,.pure (Op.eB B2))
 | .clear=>match(ts[0]?).bind P.underlying with
  |some (.slice e)=>(zeroOf P e).bind λ z=>B1 (args,.gN (Op.bZ z.cells))
  |some (.map _ _)=>B1 (args,.gN Op.bW)
  |_=>B5
 | .recover=>B1 (args,.recover)
 | .panic=>B1 (args,.panic)
 |_=>B5
def LF(_P:Kc)(fn:Func)(args:List N0):Option (List N0×fJ) :=
 if fn.origin != "" then B5
 else if fn.name == "internal/bytealg.IndexByteString" then B1 (args,.pure Op.aF)
 else B5
def Ff(P:Kc)(src dst:Ma)(x:N0):Option (List N0×fJ) :=
 match P.underlying src,P.underlying dst with
 |some (.int _),B1 (.int k)=>B1 ([x],.pure (Op.wrap k))
 |_,_=>B5
def Oj(P:Kc):Nat->Ma->Bool
 |0,_=>B4
 |d+1,t=>match P.underlying t with
  |some (.interface ms)=>!ms.isEmpty
  |some (.struct fs)=>fs.toList.any λ f=>f.name != "_" && Oj P d f.type
  |some (.array _ e)=>Oj P d e
  |_=>B2
def Vg(P:Kc):∀(d:Nat)(t:Ma),Oj P d t=P.eqGuardType d t
 |0,_=>rfl
 |d+1,t=>by
  rw[Oj,Kc.eqGuardType];cases P.underlying t with
  |none=>rfl
  |some u =>
   cases u with
   |struct fs =>
    show fs.toList.any _=fs.any _;rw[<-Array.any_toList];congr 1;funext f;rw[Vg P d]
   |array _ e=>exact Vg P d e
   |_=>rfl
def HK(P:Kc)(t:Ma)(x y:N0):Option wC :=
 match P.underlying t with
 |some .bool=>B1 .bool
 |some (.pointer e)=>match bR P e with
  |some (_+1)=>B1 .ptr
  |_=>B5
 |some (.slice _)=>B1 .slice
 |some (.map _ _)=>B1 .map
 |some (.func _ _ _)=>B1 .func
 |some (.interface _)=>match x,y with
  | .const .nilIface,_=>B1 .iface
  |_,.const .nilIface=>B1 .iface
  |_,_=>B1 (.ifaces λ u=>(P.info? u).bind λ i=>if i.comparable then dC P 20 u else B5)
 |some (.struct _)=>if Oj P P.depth t then B5 else(dC P 20 t).bind λ q=>B1 (.agg q)
 |some (.array _ _)=>if Oj P P.depth t then B5 else(dC P 20 t).bind λ q=>B1 (.agg q)
 |_=>B5
def LU(P:Kc)(op:BinOp)(t:Ma)(x y:N0):Option (List N0×fJ) :=
 match P.underlying t with
 |some (.int _)=>B1 ([x,y],.pure (Op.bin op))
 |some .string=>B1 ([x,y],.pure (Op.bin op))
 |_=>match op with
  | .eql=>(HK P t x y).bind λ k=>B1 ([x,y],.read (Op.eq k B2))
  | .neq=>(HK P t x y).bind λ k=>B1 ([x,y],.read (Op.eq k B4))
  |_=>B5
def Dj(P:Kc)(c:Call):Option (List N0×fJ) :=
 match c.callee with
 | .value (.func f)=>(P.funcs[f]?).bind λ fn =>
  match fn.body with
  |some _=>B1 (c.args.toList,.iq f)
  |none=>LF P fn c.args.toList
 | .value f=>B1 (f::c.args.toList,.ik)
 | .invoke r m=>B1 (r::c.args.toList,.invoke m)
 | .builtin b=>Wi P b c.argTypes c.args.toList
def Ro(P:Kc)(op:Cl):Option (List N0×fJ) :=
 match op with
 | .move x=>B1 ([x],.pure Op.move)
 | .assign x=>B1 ([x],.pure Op.move)
 | .pick c a b=>B1 ([c,a,b],.pure Op.pick)
 | .alloc e=>(zeroOf P e).bind λ z=>B1 ([],.alloc (Op.alloc e z.cells))
 | .box e x=>B1 ([x],.alloc (Op.box e))
 | .build t parts=>(zeroOf P t).bind λ z =>
  match P.underlying t with
  |some (.struct fs)=>if fs.toList.all (λ f=>(bR P f.type).isSome)then(Dy (NZ P fs) parts.toList).bind λ ps=>B1 (parts.toList.map (·.2),.pure (Op.build z.cells ps))else B5
  |some (.array _ e)=>(bR P e).bind λ n=>(Dy (Mm n) parts.toList).bind λ ps=>B1 (parts.toList.map (·.2),.pure (Op.build z.cells ps))
  |_=>B5
 | .buildSlice t len parts =>
  match P.underlying t with
  |some (.slice e)=>(bR P e).bind λ n=>(zeroOf P e).bind λ z=>(Dy (Mm n) parts.toList).bind λ ps=>if z.cells.length=n/\len*n<=16777216 then B1 (parts.toList.map (·.2),.alloc (Op.buildSlice e len z.cells ps))else B5
  |_=>B5
 | .load t a=>(oi P t).bind λ r=>match r with
  |none=>B1 ([a],.read Op.ae)
  |some n=>B1 ([a],.read (Op.av n))
 | .store t a x=>(bR P t).bind λ n=>B1 ([a,x],.gN (Op.store n))
 | .nilCheck x=>B1 ([x],.pure Op.nilCheck)
 | .binOp op t x y _=>LU P op t x y
 | .unOp op _ x=>B1 ([x],.pure (Op.un op))
 | .convert src dst x=>Ff P src dst x
 | .makeInterface t x=>match P.underlying t with
  |some (.interface _)=>B5
  |some _=>B1 ([x],.pure (Op.dq t))
  |none=>B5
 | .makeFunc (.func f) a b=>B1 (a.toList++b.toList,.pure (Op.bt f a.size))
 | .makeMap _ B5=>B1 ([],.alloc Op.mkMap)
 | .makeMap t (B1 (.const (.int _ _)))=>match P.underlying t with
  |some (.map _ _)=>B1 ([],.alloc Op.mkMap)
  |_=>B5
 | .makeSlice t l c =>
  match P.underlying t with
  |some (.slice e)=>(mS P e).bind λ b=>(zeroOf P e).bind λ z=>(bR P e).bind λ n=>if z.cells.length=n then B1 ([l,c],.alloc (Op.mkSlice e b z.cells))else B5
  |_=>B5
 | .slice t x lo hi mx =>
  match P.underlying t with
  |some (.slice e)=>(bR P e).bind λ n=>B1 (x::kH [lo,hi,mx],.pure (Op.aB n (gI 0 [lo,hi,mx])))
  |some (.array k e)=>(bR P e).bind λ n=>B1 (x::kH [lo,hi,mx],.pure (Op.cJ k n (gI 0 [lo,hi,mx])))
  |_=>B5
 | .fieldAddr t x i =>
  match P.underlying t with
  |some (.struct fs)=>(fs[i]?).bind λ f=>(bR P f.type).bind λ n=>if n == 0 then B5 else B1 ([x],.pure (Op.fieldAddr f.offset))
  |_=>B5
 | .indexAddr t x i =>
  match P.underlying t with
  |some (.slice e)=>(bR P e).bind λ n=>B1 ([x,i],.pure (Op.aP n))
  |some (.array k e)=>(bR P e).bind λ n=>B1 ([x,i],.pure (Op.aY k n))
  |_=>B5
 | .index t x i =>
  match P.underlying t with
  |some .string=>B1 ([x,i],.pure Op.bN)
  |some (.array k e)=>(bR P e).bind λ n=>(oi P e).bind λ a=>B1 ([x,i],.pure (Op.bB k n a))
  |_=>B5
 | .lookup t m k ok =>
  match P.underlying t with
  |some (.map kt e)=>(pU P kt).bind λ key=>(zeroOf P e).bind λ z=>B1 ([m,k],.read (Op.lookup key z ok))
  |_=>B5
 | .mapUpdate t m k v =>
  match P.underlying t with
  |some (.map kt _)=>(pU P kt).bind λ key=>B1 ([m,k,v],.gN (Op.mapUpdate key))
  |_=>B5
 | .insert t m k v =>
  match P.underlying t with
  |some (.map kt _)=>(pU P kt).bind λ key=>B1 ([m,k,v],.gN (Op.mapUpdate key))
  |_=>B5
 | .extract x i=>B1 ([x],.pure (Op.extract i))
 | .call c=>Dj P c
 | .defer c=>match c.callee with
  | .value f=>B1 (f::c.args.toList,.defer)
  |_=>B5
 | .panic x=>B1 ([x],.panic)
 |_=>B5
def gy(P:Kc)(o:Qa):Option (List bJ×fJ) :=
 match(Ro P o.op).bind λ r=>(nS P.globals.size r.1).bind λ args=>B1 (args,r.2)with
 |some r=>B1 r
 |none=>B1 ([],.pure Op.fail)
inductive LQ where
 |pure|read|alloc|gN
 deriving DecidableEq
def rG:fJ->LQ
 | .pure _=>.pure
 | .read _=>.read
 | .alloc _=>.alloc
 |_=>.gN
def mQ(cls:Nat->LQ)(gh:Nat->Nat)(n:Nat):Nat->Nat->List (Bool×Nat)->List (Bool×Nat)
 |0,_,acc=>acc.reverse
 |fuel+1,done,acc =>
  let ready (i:Nat):Bool:=!done.testBit i && (gh i &&& done) == gh i
  let todo:=(N1 n).filter λ i=>!done.testBit i
  match todo.find? (λ i=>ready i && (cls i == .pure ||cls i == .read))with
  |some i=>mQ cls gh n fuel (done |||2 ^ i) ((B2,i)::acc)
  |none =>
   -- the next effect: the first one (effects are in a row)
   match todo.find? (λ i=>cls i == .gN)with
   |some e =>
    if ready e then
     let again:=(acc.reverse.filter λ q=>!q.1 && cls q.2 == .read && !(gh e).testBit q.2).map λ q=>(B4,q.2)
     mQ cls gh n fuel (done |||2 ^ e) (again.reverse++((B2,e)::acc))
    else match todo.find? (λ i=>ready i && (gh e).testBit i)with
     |some i=>mQ cls gh n fuel (done |||2 ^ i) ((B2,i)::acc)
     |none=>acc.reverse
   |none=>match todo.find? ready with
    |some i=>mQ cls gh n fuel (done |||2 ^ i) ((B2,i)::acc)
    |none=>acc.reverse
def du{α:Type}:List (Option α)->Option (List α)
 |[]=>B1 []
 |x::xs=>x.bind λ a=>(du xs).bind λ l=>B1 (a::l)
def guardOf(ops:Array Qa):Option (Nat×Bool)->Option (Option (Nat×Bool))
 |none=>B1 B5
 |some g=>((ops[g.1]?).bind (·.dst)).bind λ t=>B1 (B1 (t,g.2))
def jL(ops:Array Qa)(l:List (List bJ×fJ))(safe:Nat->Option (List Nat))(q:Bool×Nat):Option aO :=
 (ops[q.2]?).bind λ o=>(l[q.2]?).bind λ a=>(guardOf ops o.guard).bind λ g =>
  B1 {ij:=q.1,dst:=o.dst,guard:=g,args:=a.1,op:=a.2,cA:=safe q.2}
def pC(nt:Nat)(o:Qa):Bool :=
 match o.dst with
 |none=>B4
 |some d=>QS d nt
def pZ(a b:Nat):Bool:=J3 (Nat.land a b) a
def bitsOf:List (Bool×Nat)->Nat->Nat
 |[],d=>d
 |(B4,_)::l,d=>bitsOf l d
 |(B2,i)::l,d=>bitsOf l (Nat.lor d (2 ^ i))
def nM:List (Bool×Nat)->Nat->Nat
 |(B4,r)::l,d=>nM l (Nat.lor d (2 ^ r))
 |_,d=>d
def rF(c d:LQ):Bool:=match c,d with
 | .pure,.pure=>B4
 | .read,.read=>B4
 | .alloc,.alloc=>B4
 | .gN,.gN=>B4
 |_,_=>B2
def jM(p:Nat->Bool):Nat->Nat
 |0=>0
 |n+1=>cond (p n) (Nat.lor (jM p n) (2 ^ n)) (jM p n)
structure mG where
 n:Nat
 gh:Nat->Nat
 cls:Nat->LQ
 jX:Nat->Nat->Bool
 self:Nat->Bool
 made:Nat
 reads:Nat
def OM(I:mG)(done:Nat)(post:List (Bool×Nat)):Bool×Nat->Bool
 |(B2,i)=>QS i I.n && (!done.testBit i && (pZ (I.gh i) done && (match I.cls i with
  | .read=>pZ (Nat.land done I.made) (I.gh i)
  | .gN=>pZ (Nat.land done I.made) (I.gh i) && pZ (Nat.land done I.reads) (Nat.lor (I.gh i) (nM post 0))
  |_=>B4)))
 |(B4,r)=>rF (I.cls r) .read && (I.self r && (done.testBit r && pZ (Nat.land done (jM (λ w=>!Nat.beq w r && I.jX r w) I.n)) (I.gh r)))
def KO(I:mG):List (Bool×Nat)->Nat->Bool
 |[],done=>pZ (2 ^ I.n-1) done
 |(B2,i)::post,done=>OM I done post (B2,i) && KO I post (Nat.lor done (2 ^ i))
 |(B4,r)::post,done=>OM I done post (B4,r) && KO I post done
def sV(p:Nat->Bool):Nat->Bool
 |0=>B4
 |n+1=>p n && sV p n
def yL(I:mG):Bool:=sV (λ r=>sV (λ w=>J3 r w ||((I.gh r).testBit w ||((I.gh w).testBit r ||!I.jX r w))) I.n) I.n
def tmpsOf:List bJ->List Nat
 |[]=>[]
 | .tmp t::l=>t::tmpsOf l
 |_::l=>tmpsOf l
def oW(t:Nat):List Nat->Bool
 |[]=>B2
 |x::l=>J3 x t ||oW t l
def iY(ops:Array Qa)(l:List (List bJ×fJ))(r:Nat):List Nat :=
 match ops[r]?,l[r]? with
 |some o,B1 a=>(match guardOf ops o.guard with|some (B1 g)=>[g.1]|_=>[])++tmpsOf a.1
 |_,_=>[]
def ib(ops:Array Qa)(w:Nat):Option Nat:=(ops[w]?).bind (·.dst)
def gK(ops:Array Qa)(l:List (List bJ×fJ))(r:Nat):List Nat :=
 (match ib ops r with|some d=>[d]|none=>[])++iY ops l r
def Et(ops:Array Qa)(l:List (List bJ×fJ))(r w:Nat):Bool :=
 match ib ops w with
 |some t=>oW t (gK ops l r)
 |none=>B2
def Dn(ops:Array Qa)(l:List (List bJ×fJ))(r:Nat):Bool :=
 match ib ops r with
 |some t=>!oW t (iY ops l r)
 |none=>B4
def nE(l:List (List bJ×fJ))(i:Nat):LQ:=rG ((l[i]?.getD ([],.recover)).2)
def wM(c:LQ):Bool:=rF c .alloc ||rF c .gN
def aT(ops:Array Qa)(l:List (List bJ×fJ)):mG :=
 {n:=ops.size,gh:=λ i=>(CJ ops).getD i 0,cls:=nE l,jX:=Et ops l,self:=Dn ops l,made:=jM (λ i=>wM (nE l i)) ops.size,reads:=jM (λ i=>rF (nE l i) .read) ops.size}
def u9(i:Nat):List (Bool×Nat)->List (Bool×Nat)
 |[]=>[]
 |(c,j)::l=>cond (!c && J3 j i) [] ((c,j)::u9 i l)
def OB(ops:Array Qa)(I:mG)(plan:List (Bool×Nat))(i:Nat):Option (List Nat) :=
 let d:=bitsOf (u9 i plan) 0
 cond (sV (λ j=>J3 j i ||(d.testBit j ||(I.gh j).testBit i)) I.n) (B1 (ops.toList.filterMap (·.dst))) B5
def iU(P:Kc)(nt:Nat)(ops:Array Qa)(draw:Bool):Option ai :=
 if ops.toList.all (pC nt)then
 (du (ops.toList.map (gy P))).bind λ l =>
  if draw then
   let I:=aT ops l
   let plan:=mQ I.cls I.gh ops.size (2*ops.size) 0 []
   cond (KO I plan 0 && yL I) ((du (plan.map (jL ops l (OB ops I plan)))).bind λ steps=>B1 (.region steps)) (B1 .stuck)
  else(du ((N1 ops.size).map λ i=>jL ops l (λ _=>B1 []) (B2,i))).bind λ steps=>B1 (.region steps)
 else B5
def cq(P:Kc)(nt:Nat):Nat->Code->Option (ai×List dM)
 |_,.skip=>B1 (.skip,[])
 |_,.region _ ops draw=>(iU P nt ops draw).bind λ c=>B1 (c,[])
 |k,.seq a b=>(cq P nt k a).bind λ a=>(cq P nt (k+a.2.length) b).bind λ b=>B1 (.seq a.1 b.1,a.2++b.2)
 |k,.cond c a b=>(rD P.globals.size c).bind λ c=>(cq P nt k a).bind λ a=>(cq P nt (k+a.2.length) b).bind λ b=>B1 (.cond c a.1 b.1,a.2++b.2)
 |k,.block id b=>(cq P nt k b).bind λ b=>B1 (.block id b.1,b.2)
 |k,.loop b=>(cq P nt k b).bind λ b=>B1 (.loop B5 b.1,b.2)
 |k,.rangeFunc f ps a b=>(rD P.globals.size f).bind λ f=>(cq P nt (k+1) a).bind λ a=>(cq P nt (k+1+a.2.length) b).bind λ b =>
  if ps.toList.all λ p=>QS p nt then B1 (.rangeFunc f k,{params:=ps.toList,assign:=a.1,body:=b.1}::(a.2++b.2))else B5
 |_,.exit id=>B1 (.exit id,[])
 |k,.scope b=>(cq P nt k b).bind λ b=>B1 (.scope b.1,b.2)
 |_,.label l=>B1 (.label l,[])
 |_,.goto l=>B1 (.goto l,[])
 |_,.ret=>B1 (.ret,[])
 |_,.refuse _=>B1 (.stuck,[])
def qX(P:Kc):List ResultVar->Option (List ei)
 |[]=>B1 []
 | .tmp t::r=>(qX P r).bind λ l=>B1 (.tmp t::l)
 | .cell a t::r=>(oi P t).bind λ n=>(qX P r).bind λ l=>B1 ((match n with|none=>.kR a|some n=>.cM n a)::l)
def uQ(P:Kc)(fn:Func):Option bV :=
 fn.body.bind λ b=>(cq P fn.ntmps 0 b).bind λ c=>(qX P fn.results.toList).bind λ r=>B1 {results:=r,body:=c.1,loops:=c.2}
def yY(P:Kc)(t:Ma)(name:String):Option Nat :=
 (P.info? t).bind λ i=>(i.methods.find? (·.name == name)).bind λ m =>
  if !m.path.isEmpty then B5 else m.func.bind λ p =>
   match P.underlying t,p.2 with
   |none,_=>B5
   |some (.pointer _),B4=>B1 p.1
   |some (.pointer _),B2=>B5
   |some _,B4=>B5
   |some _,B2=>B1 p.1
def aW(P:Kc):jQ:={func:=λ f=>(P.funcs[f]?).bind (uQ P),kF:=yY P}
end
end Go.Am
namespace Go.Am
namespace T
variable{α:Type}
def go_eq(f:Nat):∀(g i:Nat),i<=f->i<=g->path.go f i=path.go g i:=by
 induction f with
 |zero=>intro g i a hg;obtain rfl:i=0:=by omega
        cases g<;>simp[path.go]
 |succ f ih =>
  intro g i a hg;cases i with
  |zero=>cases g<;>simp[path.go]
  |succ n =>
   cases g with
   |zero=>omega
   |succ g =>
    simp only[path.go];have h:n / 2<=n:=Nat.div_le_self n 2;congr 1;exact ih g (n / 2) (by omega) (by omega)
def xc6:path 0=[]:=rfl
def Tz(n:Nat):path (n+1)=J3 (n % 2) 0::path (n / 2):=by
 show path.go (n+1) (n+1)=_;simp only[path.go];have h:n / 2<=n:=Nat.div_le_self n 2;exact congrArg (J3 (n % 2) 0 :: ·) (go_eq n (n / 2) (n / 2) h (qm _))
def ad1:∀(i j:Nat),path i=path j->i=j:=by
 intro i
 induction i using Nat.strongRecOn with
 |_ i ih =>
  intro j h;cases i with
  |zero=>cases j with
   |zero=>rfl
   |succ m=>rw[xc6,Tz]at h;cases h
  |succ n=>cases j with
   |zero=>rw[xc6,Tz]at h;cases h
   |succ m =>
    rw[Tz,Tz]at h;injection h with d c
    have f:=ih (n / 2) (by have:=Nat.div_le_self n 2;omega) (m / 2) c;have g:n % 2=m % 2:=by
     rcases Nat.mod_two_eq_zero_or_one n with a|a<;>rcases Nat.mod_two_eq_zero_or_one m with b|b<;>simp_all
    omega
def af4(p:List Bool):wY p (.nil:T α)=none:=by
 induction p with
 |nil=>rfl
 |cons b p ih=>cases b<;>exact ih
def q6y(v:Option α):∀(p:List Bool)(t:T α),wY p (fG v p t)=v:=by
 intro p
 induction p with
 |nil=>intro t;rfl
 |cons b p ih=>intro t;cases b<;>exact ih _
def xb7(v:Option α):∀(p q:List Bool)(t:T α),p≠q->wY q (fG v p t)=wY q t:=by
 intro p
 induction p with
 |nil =>
  intro q t h;cases q with
  |nil=>exact absurd rfl h
  |cons b q=>cases b<;>rfl
 |cons b p ih =>
  intro q t h;cases q with
  |nil=>cases b<;>rfl
  |cons c q =>
   cases b<;>cases c
   .exact ih q _ (λ e=>h (by rw[e]))
   .rfl
   .rfl
   .exact ih q _ (λ e=>h (by rw[e]))
def kG(t:T α)(i j:Nat)(v:Option α):(t.put i v).get j=if i=j then v else t.get j:=by
 unfold get put
 by_cases h:i=j
 .subst h;simp[q6y]
 .simp only[h,vk];exact xb7 v _ _ t (λ e=>h (ad1 i j e))
def aJ(t:T α)(i j:Nat)(v:α):(t.set i v).get j=if i=j then B1 v else t.get j:=kG t i j (B1 v)
def get_nil(j:Nat):(T.nil:T α).get j=none:=af4 _
def jT(p:List Bool)(t:T α):(oP p).run t=wY p t:=by
 induction p generalizing t with
 |nil=>rfl
 |cons b p ih=>cases b<;>exact ih _
def CX(v:Option α)(p:List Bool)(t:T α):(zT p).run v t=fG v p t:=by
 induction p generalizing t with
 |nil=>rfl
 |cons b p ih =>
  cases b
  .show T.node t.l t.val ((zT p).run v t.r)=T.node t.l t.val (fG v p t.r);rw[ih]
  .show T.node ((zT p).run v t.l) t.val t.r=T.node (fG v p t.l) t.val t.r;rw[ih]
end T
section
variable{α:Type}
def kE(l:List α)(i:Nat):nth l i=l[i]?:=by
 induction l generalizing i with
 |nil=>rfl
 |cons x l ih=>cases i with
  |zero=>rfl
  |succ n=>exact ih n
def pD(a b:List α):kO a b=a++b:=by
 induction a with
 |nil=>rfl
 |cons x a ih=>exact congrArg (x :: ·) ih
def IX(l:List α):cS l=l.length:=by
 induction l with
 |nil=>rfl
 |cons x l ih=>exact congrArg (·+1) ih
def ad8(n:Nat)(l:List α):da n l=l.drop n:=by
 induction n generalizing l with
 |zero=>rfl
 |succ n ih=>cases l with
  |nil=>exact(ih []).trans (by simp)
  |cons x l=>exact ih l
def Ek(n:Nat)(l:List α):Fe n l=if n<=l.length then B1 (l.take n)else none:=by
 induction n generalizing l with
 |zero=>rfl
 |succ n ih=>cases l with
  |nil=>rfl
  |cons x l =>
   show(Fe n l).bind (λ r=>B1 (x::r))=_;rw[ih]
   by_cases h:n<=l.length<;>simp[h]
def DJ(new l:List α):xV new l=if new.length<=l.length then B1 (new++l.drop new.length)else none:=by
 induction new generalizing l with
 |nil=>rfl
 |cons x new ih=>cases l with
  |nil=>rfl
  |cons y l =>
   show(xV new l).bind (λ r=>B1 (x::r))=_;rw[ih]
   by_cases h:new.length<=l.length<;>simp[h]
def FV(o:Nat)(new l:List α):putAt o new l=if o+new.length<=l.length then B1 (l.take o++new++l.drop (o+new.length))else none:=by
 induction o generalizing l with
 |zero=>show xV new l=_;rw[DJ];simp
 |succ o ih=>cases l with
  |nil =>
   show B5=_;rw[qt (by simp only[yx];omega)]
  |cons x l =>
   show(putAt o new l).bind (λ r=>B1 (x::r))=_;rw[ih]
   by_cases h:o+new.length<=l.length
   .rw [xb h,xb (by simp;omega)];simp[show o+1+new.length=(o+new.length)+1 from by omega]
   .rw [qt h,qt (by simp;omega)];rfl
def sO(l:List α)(o n:Nat):fM l o n=if n<=l.length-o then B1 ((l.drop o).take n)else none:=by
 unfold fM;rw[Ek,ad8,jg]
end
def GB(a b:Int):sZ a b=decide (a<=b):=by
 cases a<;>cases b<;>rw[CM]<;>simp[sZ,sH]<;>try omega
def JM(a b:Int):Av a b=decide (a<b):=by
 unfold Av;rw[GB];rw[CM];simp
def EA(a b:Int):uT a b=(a == b):=by
 rw[CM,G2];cases a<;>cases b<;>simp[uT]<;>omega
def TZ(a b:Pl):rT a b=decide (a=b):=by cases a<;>cases b<;>rfl
def YB(a b:UInt8):CF a b=(a == b):=by
 unfold CF;rw[CM];simp only[jv,G2];exact⟨λ h=>UInt8.toNat_inj.1 h,λ h=>by rw[h]⟩
def Kn(a b:List UInt8):Az a b=(a == b):=by
 induction a generalizing b with
 |nil=>cases b<;>rfl
 |cons x a ih=>cases b with
  |nil=>rfl
  |cons y b =>
   show cond (CF x y) (Az a b) B2=_;rw[ih,YB];cases h:(x == y)<;>simp[h]
end Go.Am
namespace Go.Am
structure Th where
 b9:Nat->Nat
 off:Nat->Nat
 ext:Nat->Nat
def fP(θ:Th):mA->Fn
 | .func f=>.func f
 | .yield l=>.yield (θ.b9 l)
def EC:Nat->Option Nat
 |0=>B5
 |n+1=>B1 n
mutual
def aw(θ:Th):AV->Km
 | .bool b=>.bool b
 | .int k n=>.int k n
 | .str s=>.string ⟨s.toArray⟩
 | .nilp=>.pointer B5
 | .ptr b o=>.pointer (B1 ⟨θ.b9 b,θ.off b+o,B5⟩)
 | .nils=>.slice B5 0 0
 | .slice b o n c=>.slice (B1 ⟨θ.b9 b,θ.off b+o,B5⟩) n c
 | .gslice b i m s alt n=>.slice (B1 ⟨θ.b9 b,θ.off b+(if(m-i) + θ.ext b=0 then alt else i*s),B5⟩) n ((m-i) + θ.ext b)
 | .eslice b=>.slice (B1 ⟨θ.b9 b,θ.off b,EC (θ.ext b)⟩) 0 0
 | .mz=>.map B5
 | .map b=>.map (B1 (θ.b9 b))
 | .fn f a b=>.func (fP θ f) (bS θ a).toArray (bS θ b).toArray
 | .nilf=>.nilFunc
 | .iface t v=>.iface t (aw θ v)
 | .nili=>.nilIface
 | .agg l=>.agg (bS θ l).toArray
 | .tuple l=>.tuple (bS θ l).toArray
def bS(θ:Th):List AV->List Km
 |[]=>[]
 |v::vs=>aw θ v::bS θ vs
end
def ub(θ:Th)(l:List AV):bS θ l=l.map (aw θ):=by
 induction l with
 |nil=>rfl
 |cons x l ih=>simp[bS,ih]
def Ag(D:Nat->Prop)(θ θ':Th):Prop:=∀b,D b -> θ'.b9 b = θ.b9 b /\ θ'.off b = θ.off b /\ θ'.ext b = θ.ext b
def Ag.refl(D:Nat->Prop)(θ:Th):Ag D θ θ:=λ _ _=>⟨rfl,rfl,rfl⟩
def Ag.trans{D D':Nat->Prop}{θ θ' θ'':Th}(h:Ag D θ θ')(a:Ag D' θ' θ'')(c:∀b,D b->D' b):Ag D θ θ'':=λ b hb =>
 let⟨a1,a2,a3⟩:=h b hb;let⟨b1,b2,b3⟩:=a b (c b hb);⟨b1.trans a1,b2.trans a2,b3.trans a3⟩
def Ag.mono{D D':Nat->Prop}{θ θ':Th}(h:Ag D θ θ')(a:∀b,D' b->D b):Ag D' θ θ':=λ b hb=>h b (a b hb)
def VR(D:Nat->Prop)(θ:Th)(v:AV)(c:Km):Prop:=∀θ',Ag D θ θ'->aw θ' v=c
def bL(D:Nat->Prop)(θ:Th)(l:List AV)(cs:List Km):Prop:=∀θ',Ag D θ θ'->bS θ' l=cs
section
variable{D D':Nat->Prop}{θ θ':Th}
def VR.now{v:AV}{c:Km}(h:VR D θ v c):aw θ v=c:=h θ (Ag.refl D θ)
def bL.now{l:List AV}{cs:List Km}(h:bL D θ l cs):bS θ l=cs:=h θ (Ag.refl D θ)
def VR.up{v:AV}{c:Km}(h:VR D θ v c)(ha:Ag D θ θ')(d:∀b,D b->D' b):VR D' θ' v c:=λ θ'' a=>h θ'' (ha.trans a d)
def bL.up{l:List AV}{cs:List Km}(h:bL D θ l cs)(ha:Ag D θ θ')(c:∀b,D b->D' b):bL D' θ' l cs:=λ θ'' a=>h θ'' (ha.trans a c)
def bL.nil:bL D θ [] []:=λ _ _=>rfl
def bL.cons{v:AV}{c:Km}{l:List AV}{cs:List Km}(h:VR D θ v c)(hl:bL D θ l cs):bL D θ (v::l) (c::cs) :=
 λ θ' ha=>by simp[bS,h θ' ha,hl θ' ha]
def bL.eC{v:AV}{l:List AV}{cs:List Km}(h:bL D θ (v::l) cs):∃c cs',cs=c::cs'/\VR D θ v c/\bL D θ l cs':=by
 refine⟨aw θ v,bS θ l,(by rw[<-h.now];rfl),λ θ' ha=>?_,λ θ' ha=>?_⟩
 .have:=(h θ' ha).trans h.now.symm;simp only[bS]at this;injection this
 .have:=(h θ' ha).trans h.now.symm;simp only[bS]at this;injection this
def bL.my{cs:List Km}(h:bL D θ [] cs):cs=[]:=h.now.symm
def bL.length{l:List AV}{cs:List Km}(h:bL D θ l cs):cs.length=l.length:=by rw[<-h.now,ub];simp
def bL.app{l a:List AV}{cs cs':List Km}(h:bL D θ l cs)(b:bL D θ a cs'):bL D θ (l++a) (cs++cs'):=by
 intro θ' ha;rw[ub,FD,<-ub,<-ub,h θ' ha,b θ' ha]
def bL.qY{l:List AV}{cs:List Km}(h:bL D θ l cs){i:Nat}{v:AV}(b:l[i]? = B1 v):∃c,cs[i]? = B1 c/\VR D θ v c:=by
 refine⟨aw θ v,?_,λ θ' ha=>?_⟩
 .rw [<-h.now,ub,xk,b];rfl
 .have:=(h θ' ha).trans h.now.symm;rw[ub,ub]at this;have a:=congrArg (λ l=>l[i]?) this;simp only[xk,b,HI,qk]at a;exact a
def bL.drop{l:List AV}{cs:List Km}(h:bL D θ l cs)(n:Nat):bL D θ (l.drop n) (cs.drop n):=by
 intro θ' ha;rw[ub,List.map_drop,<-ub,h θ' ha]
def bL.take{l:List AV}{cs:List Km}(h:bL D θ l cs)(n:Nat):bL D θ (l.take n) (cs.take n):=by
 intro θ' ha;rw[ub,List.map_take,<-ub,h θ' ha]
def bL.one{v:AV}{c:Km}(h:VR D θ v c):bL D θ [v] [c]:=.cons h .nil
def VR.agg{l:List AV}{cs:List Km}(h:bL D θ l cs):VR D θ (.agg l) (.agg cs.toArray):=λ θ' ha=>by simp[aw,h θ' ha]
def VR.tuple{l:List AV}{cs:List Km}(h:bL D θ l cs):VR D θ (.tuple l) (.tuple cs.toArray):=λ θ' ha=>by simp[aw,h θ' ha]
def VR.fp{l:List AV}{c:Km}(h:VR D θ (.agg l) c):∃cs:List Km,c=.agg cs.toArray/\bL D θ l cs:=by
 refine⟨bS θ l,h.now.symm,λ θ' ha=>?_⟩;have:=(h θ' ha).trans h.now.symm;simpa[aw]using this
def VR.Aq{l:List AV}{c:Km}(h:VR D θ (.tuple l) c):∃cs:List Km,c=.tuple cs.toArray/\bL D θ l cs:=by
 refine⟨bS θ l,h.now.symm,λ θ' ha=>?_⟩;have:=(h θ' ha).trans h.now.symm;simpa[aw]using this
def VR.iface{t:Nat}{v:AV}{c:Km}(h:VR D θ v c):VR D θ (.iface t v) (.iface t c):=λ θ' ha=>by simp[aw,h θ' ha]
def VR.mr{t:Nat}{v:AV}{c:Km}(h:VR D θ (.iface t v) c):∃a,c=.iface t a/\VR D θ v a:=by
 refine⟨aw θ v,h.now.symm,λ θ' ha=>?_⟩;have:=(h θ' ha).trans h.now.symm;simpa[aw]using this
def VR.undef:VR D θ .undef Go.undef:=λ _ _=>rfl
def VR.bool(b:Bool):VR D θ (.bool b) (.bool b):=λ _ _=>rfl
def VR.int(k:Pl)(n:Int):VR D θ (.int k n) (.int k n):=λ _ _=>rfl
def VR.str(s:List UInt8):VR D θ (.str s) (.string ⟨s.toArray⟩):=λ _ _=>rfl
def VR.ptr{b o:Nat}(hb:D b):VR D θ (.ptr b o) (.pointer (B1 ⟨θ.b9 b,θ.off b+o,B5⟩)):=λ θ' ha=>by obtain⟨a,c,_⟩:=ha b hb;simp[aw,a,c]
def VR.map{b:Nat}(hb:D b):VR D θ (.map b) (.map (B1 (θ.b9 b))):=λ θ' ha=>by obtain⟨a,_,_⟩:=ha b hb;simp[aw,a]
def VR.slice{b o n c:Nat}(hb:D b):VR D θ (.slice b o n c) (aw θ (.slice b o n c)):=λ θ' ha=>by obtain⟨a,d,_⟩:=ha b hb;simp[aw,a,d]
def VR.gslice{b i m s alt n:Nat}(hb:D b):VR D θ (.gslice b i m s alt n) (aw θ (.gslice b i m s alt n)):=λ θ' ha=>by
 obtain⟨a,c,d⟩:=ha b hb;simp[aw,a,c,d]
end
def SP(fz cfz:Nat×Nat)(off size:Nat):Prop:=cfz.1=cfz.2\/(cfz.1<cfz.2/\off+fz.1<=cfz.1/\cfz.2<=off+fz.2)\/(fz.2<fz.1/\(size<=cfz.1\/cfz.2<=off))
def Yy(fz cfz:Nat×Nat):Prop:=cfz.1=cfz.2\/(cfz.1<cfz.2/\fz.1<=cfz.1/\cfz.2<=fz.2)
def own:bC->Bool
 | .row _ _ _ o=>o
 |_=>B4
def pW(D:Nat->Prop)(θ:Th)(tm:T AV)(a:Array Km):Prop:=∀t v,tm.get t=B1 v -> ∃c,a[t]? = B1 c/\VR D θ v c
def S1:mV->LoopState
 | .ready=>.ready| .busy=>.busy| .done=>.done| .exhausted=>.exhausted
def mE:ic->Code
 | .exit id=>.exit id
 | .goto l=>.goto l
 | .ret=>.ret
def Qg(D:Nat->Prop)(θ:Th)(e:AV×AV×Nat)(m:Bk):Prop:=VR D θ e.1 m.key/\VR D θ e.2.1 m.val/\m.born=e.2.2
def dp(D:Nat->Prop)(θ:Th):List (AV×AV×Nat)->List Bk->Prop
 |[],[]=>True
 |e::es,m::ms=>Qg D θ e m/\dp D θ es ms
 |_,_=>False
def wU(P:Kc)(f k n:Nat)(params:Array Tmp)(assign body:Code):Prop :=
 ∃fn af lp ka kb L1 L2,P.funcs[f]? = B1 fn/\uQ P fn=B1 af/\nth af.loops k=B1 lp/\lp.params=params.toList/\(∀p∈params.toList,p<fn.ntmps)/\fn.ntmps<=n /\
  cq P fn.ntmps ka assign=B1 (lp.assign,L1)/\(∀i l,nth L1 i=B1 l->nth af.loops (ka+i)=B1 l) /\
  cq P fn.ntmps kb body=B1 (lp.body,L2)/\(∀i l,nth L2 i=B1 l->nth af.loops (kb+i)=B1 l)
def WC(D:Nat->Prop)(θ:Th):aM->Deferred->Prop
 | .jJ b,d=>D b/\d = {target:=.collected (θ.b9 b),args:=#[]}
 | .fn f args,d=>∃c cap:Array Km,d = {target:=.fn (fP θ f) cap,args:=c}/\(∀θ',Ag D θ θ'->fP θ' f=fP θ f)/\bL D θ args (c++cap).toList
def oH(P:Kc)(D:Nat->Prop)(θ:Th)(b:Nat):bC->Obj->Prop
 | .row cells e fz ow,o=>∃pre cs post cfz e',o=.cells (pre++cs++post).toArray e' cfz/\pre.length = θ.off b/\bL D θ cells cs /\
  (ow=B4->e'=e/\pre=[]/\post=[]/\Yy fz cfz)
 | .grown m size cells e fz,o=>∃pre cs post cfz,o=.cells (pre++cs++post).toArray e cfz/\pre.length = θ.off b/\bL D θ cells cs /\
  cells.length=m*size/\post.length = θ.ext b*size/\0<size/\m + θ.ext b<=maxLen/\SP fz cfz (θ.off b) (pre.length+cs.length+post.length)
 | .map es clock,o=>∃ms:List Bk,o=.map ms.toArray clock/\dp D θ es ms
 | .mj s pos,o=>o=.stringIter ⟨s.toArray⟩ pos /\ θ.off b=0
 | .loop st pend f k tm d,o=>∃r:Loop,o=.loop r/\r.state=S1 st/\r.pending=pend.map mE/\r.fn=f/\pW D θ tm r.tmps/\wU P f k r.tmps.size r.params r.assign r.body /\
  D d/\r.defers = θ.b9 d
 | .deferred calls,o=>∃ds,o=.deferred ds/\(match calls,ds with
  |none,B5=>True
  |some l,B1 l'=>l=[]/\l'=[]
  |_,_=>False)
structure HR(P:Kc)(base:Nat)(D:Nat->Prop)(θ:Th)(H:ar)(w:Nl):Prop where
 obj:∀b o,H.get b=B1 o->D b /\ ∃co,w.heap[θ.b9 b]? = B1 co/\oH P D θ b o co
 inj:∀b b' o o',H.get b=B1 o->H.get b'=B1 o'->own o=B4->b≠b' -> θ.b9 b≠θ.b9 b'
 mf:∀b o,H.get b=B1 o->own o=B4->base <= θ.b9 b
 eF:∀g,g<P.globals.size->D g /\ θ.b9 g=g /\ θ.off g=0
 low:base<=w.heap.size
def Lt(n:Nat):Nat->Prop:=λ b=>b<n
end Go.Am
namespace Go.Am
def zD(k o i:Nat):(⟨k,o,B5⟩:Addr).add i=⟨k,o+i,B5⟩:=by unfold Addr.add;split<;>simp_all
def fD(w:Nl)(k:Nat)(o:Obj):World:={w with heap:=w.heap.setIfInBounds k o}
def Sw(w:Nl)(k:Nat)(o:Obj):(fD w k o).heap.size=w.heap.size:=by simp[fD]
def ML(w:Nl)(k j:Nat)(o:Obj)(h:k<w.heap.size):(fD w k o).heap[j]? = if k=j then B1 o else w.heap[j]?:=by
 simp only[fD,NK];split<;>simp_all
def xni(w:Nl)(k:Nat)(o o':Obj):fD (fD w k o) k o'=fD w k o':=by
 simp[fD]
def xnh(w:Nl)(k:Nat)(o:Obj)(h:w.heap[k]? = B1 o):fD w k o=w:=by
 have:w.heap.setIfInBounds k o=w.heap:=by
  apply Array.ext_getElem?;intro j;rw[NK]
  by_cases a:k=j
  .subst a;have⟨hk,b⟩:=yo.1 h;simp[hk,b]
  .simp [a]
 simp only[fD,this]
def Dm(w:Nl)(o:Obj)(j:Nat):(w.alloc o).heap[j]? = if j=w.heap.size then B1 o else w.heap[j]?:=by
 simp only[Nl.alloc,Array.getElem?_push]
section
variable{P:Kc}{w:Nl}{k:Nat}{arr:Array Km}{e:Ma}{fz:Nat×Nat}
def RP(h:w.heap[k]? = B1 (.cells arr e fz))(o:Nat):w.cell? ⟨k,o,B5⟩=arr[o]?:=by simp[World.cell?,h]
def xm2(h:w.heap[k]? = B1 (.cells arr e fz)){o:Nat}{v:Km}(a:arr[o]? = B1 v):(load ⟨k,o,B5⟩).run P w=.ok v w:=by
 rw[run_load,RP h,a]
def _3(h:w.heap[k]? = B1 (.cells arr e fz))(o n:Nat)(hn:n<=arr.size-o) :
 (loadCells ⟨k,o,B5⟩ n).run P w=.ok ((arr.toList.drop o).take n).toArray w:=by
 have hl:((arr.toList.drop o).take n).length=n:=by simp;omega
 have:=run_loadCells_list (P:=P) w ⟨k,o,B5⟩ ((arr.toList.drop o).take n) (λ j v a=>by
  rw[zD,RP h];rw[yw]at a;split at a
  .simpa using a
  .cases a)
 rwa [hl]at this
def UB(a:Nat):∀(vs:List Km)(i:Nat)(arr:Array Km)(w:Nl),w.heap[k]? = B1 (.cells arr e fz) ->
 a+i+vs.length<=arr.size->(∀j,j<vs.length -> ¬(fz.1<=a+i+j/\a+i+j<fz.2))->(∀v∈vs,v.oneCell'=B4) ->
 (storeCells ⟨k,a,B5⟩ vs i).run P w=.ok () (fD w k (.cells (arr.toList.take (a+i)++vs++arr.toList.drop (a+i+vs.length)).toArray e fz))
 |[],i,arr,w,hg,_,_,_=>by
  simp only[storeCells,zt,yx,vj,vd,Q4];rw[xnh w k _ hg];rfl
 |v::rest,i,arr,w,hg,hl,hf,h1=>by
  have m:a+i<arr.size:=by simp at hl;omega
  have hk:k<w.heap.size:=(yo.1 hg).1;have b:w.cell? ⟨k,a+i,B5⟩=B1 arr[a+i]:=by rw[RP hg];simp[m]
  have c:w.frozen? ⟨k,a+i,B5⟩=false:=by
   have:=hf 0 (by simp);simp only[Nl.frozen?,hg];simp at this⊢;omega
  have d:w.setCell ⟨k,a+i,B5⟩ v=fD w k (.cells (arr.setIfInBounds (a+i) v) e fz):=by
   simp only[Nl.setCell,fD];congr 1;apply Array.ext_getElem?;intro j;rw[Array.getElem?_modify,NK]
   by_cases f:k=j
   .subst f;have l:=(yo.1 hg).2;simp[hk,l]
   .simp [f]
  have g:(store ((⟨k,a,B5⟩:Addr).add i) v).run P w=.ok () (fD w k (.cells (arr.setIfInBounds (a+i) v) e fz)):=by
   rw[zD,run_store P w _ v _ (h1 v (by simp)),b];simp[c,d]
  have o:=UB a rest (i+1) (arr.setIfInBounds (a+i) v) (fD w k (.cells (arr.setIfInBounds (a+i) v) e fz))
   (by rw[ML _ _ _ _ hk];simp) (by simp at hl⊢;omega)
   (λ j f=>by have:=hf (j+1) (by simpa using f);rwa [show a+i+(j+1)=a+(i+1)+j from by omega]at this)
   (λ x n=>h1 x (by simp[n]))
  simp only[storeCells,Nn,g,N8,o,xni];congr 3;have h:=list_seg_step arr.toList (a+i) v rest (by simp at hl⊢;omega)
  simpa[Array.toList_setIfInBounds,wT]using h
end
def Up(D:Nat->Prop)(n m:Nat):Nat->Prop:=λ b=>D b\/(n<=b/\b<m)
def Up.of{D:Nat->Prop}{n m:Nat}:∀b,D b->Up D n m b:=λ _ h=>.inl h
def d9(D:Nat->Prop)(n m:Nat):Prop:=∀b,n<=b->b<m -> ¬D b
def Up.up{D:Nat->Prop}{n m k:Nat}(h:n<=m)(d:m<=k):Up (Up D n m) m k=Up D n k:=by
 funext b;simp only[Up,eq_iff_iff];constructor
 .rintro ((a|⟨a,c⟩)|⟨a,c⟩)
  .exact .inl a
  .exact .inr ⟨a,by omega⟩
  .exact .inr ⟨by omega,c⟩
 .rintro (a|⟨a,c⟩)
  .exact .inl (.inl a)
  .by_cases hb:b<m
   .exact .inl (.inr ⟨a,hb⟩)
   .exact .inr ⟨by omega,c⟩
def Up.none{D:Nat->Prop}{n:Nat}:Up D n n=D:=by
 funext b;simp only[Up,eq_iff_iff];constructor
 .rintro (h|⟨a,c⟩)
  .exact h
  .omega
 .exact .inl
def d9.left{D:Nat->Prop}{n m k:Nat}(h:d9 D n k)(hk:m<=k):d9 D n m:=λ b a c=>h b a (by omega)
def d9.right{D:Nat->Prop}{n m k:Nat}(h:d9 D n k)(hm:n<=m):d9 (Up D n m) m k:=λ b d c a=>by
 rcases a with a|⟨_,f⟩
 .exact h b (by omega) c a
 .omega
structure bD(D:Nat->Prop)(H:ar)(θ:Th)(w:Nl)(H':ar)(θ':Th)(w':Nl):Prop where
 au:H.au<=H'.au
 ag:Ag D θ θ'
 size:w.heap.size<=w'.heap.size
 os:w'.os=w.os
 tape:w'.tape=w.tape
 output:w'.output=w.output
 ah:∀k,k<w.heap.size->(∀b o,H.get b=B1 o->own o=B4 -> θ.b9 b≠k)->w'.heap[k]? = w.heap[k]?
 news:∀b o,H'.get b=B1 o->own o=B4 -> θ'.b9 b<w.heap.size -> ∃b' o',H.get b'=B1 o'/\own o'=B4 /\ θ.b9 b' = θ'.b9 b
def bD.refl(D:Nat->Prop)(H:ar)(θ:Th)(w:Nl):bD D H θ w H θ w :=
 ⟨qm _,Ag.refl _ _,qm _,rfl,rfl,rfl,λ _ _ _=>rfl,λ b o h ho _=>⟨b,o,h,ho,rfl⟩⟩
def bD.trans{D D':Nat->Prop}{H H' c:ar}{θ θ' θ'':Th}{w w' f:Nl}(a:bD D H θ w H' θ' w')(b:bD D' H' θ' w' c θ'' f)(s:∀b,D b->D' b):bD D H θ w c θ'' f:=by
 refine⟨ze a.au b.au,a.ag.trans b.ag s,ze a.size b.size,b.os.trans a.os,b.tape.trans a.tape,b.output.trans a.output,?_,?_⟩
 .intro k hk d;refine(b.ah k (qn hk a.size) ?_).trans (a.ah k hk d);intro x o m ho he;have⟨g,o',i,j,r⟩:=a.news x o m ho (by omega);exact d g o' i j (by omega)
 .intro x o m ho l;have⟨g,o',i,j,r⟩:=b.news x o m ho (qn l a.size);have⟨h,n,p,q,t⟩:=a.news g o' i j (by omega);exact⟨h,n,p,q,by omega⟩
def bD.draw{D:Nat->Prop}{H:ar}{θ:Th}{w w':Nl}(a:w'.heap=w.heap)(ho:w'.os=w.os)(c:w'.tape=w.tape)(hp:w'.output=w.output):bD D H θ w H θ w' :=
 ⟨qm _,Ag.refl _ _,by rw[a];exact qm _,ho,c,hp,λ _ _ _=>by rw[a],λ b o h hw _=>⟨b,o,h,hw,rfl⟩⟩
def HR.draw{P:Kc}{base:Nat}{D:Nat->Prop}{θ:Th}{H:ar}{w w':Nl}(h:HR P base D θ H w)(a:w'.heap=w.heap):HR P base D θ H w' :=
 ⟨λ b o hb=>by rw[a];exact h.obj b o hb,h.inj,h.mf,h.eF,by rw[a];exact h.low⟩
def dp.up{D D':Nat->Prop}{θ θ':Th}(ha:Ag D θ θ')(a:∀b,D b->D' b):∀(es:List (AV×AV×Nat))(ms:List Bk),dp D θ es ms->dp D' θ' es ms
 |[],[],_=>trivial
 |e::es,m::ms,⟨⟨h1,h2,h3⟩,h⟩=>⟨⟨h1.up ha a,h2.up ha a,h3⟩,dp.up ha a es ms h⟩
 |[],_::_,h=>h.elim
 |_::_,[],h=>h.elim
def oH.up{P:Kc}{D D':Nat->Prop}{θ θ':Th}{b:Nat}{o:bC}{co:Obj}(h:oH P D θ b o co)(hb:D b)(ha:Ag D θ θ')(n:∀b,D b->D' b):oH P D' θ' b o co:=by
 have⟨e1,e2,y⟩:=ha b hb;cases o with
 |row cells e fz ow =>
  have⟨pre,cs,post,a,z,g,i,j,l⟩:=h;exact⟨pre,cs,post,a,z,g,by rw[e2];exact i,j.up ha n,l⟩
 |grown m size cells e fz =>
  have⟨pre,cs,post,a,g,i,j,l,q,u,p,x⟩:=h;exact⟨pre,cs,post,a,g,by rw[e2];exact i,j.up ha n,l,by rw[y];exact q,u,by rw[y];exact p,by rw[e2];exact x⟩
 |map es clock =>
  have⟨ms,g,i⟩:=h;exact⟨ms,g,dp.up ha n _ _ i⟩
 |mj s pos=>exact⟨h.1,e2.trans h.2⟩
 |loop st pend f k tm d =>
  have⟨r,g,i,j,l,q,u,p,x⟩:=h;exact⟨r,g,i,j,l,λ t v A=>let⟨c,hc,hr⟩:=q t v A;⟨c,hc,hr.up ha n⟩,u,n d p,by rw[(ha d p).1];exact x⟩
 |deferred calls=>exact h
def HR.up{P:Kc}{base:Nat}{D D':Nat->Prop}{θ:Th}{H:ar}{w:Nl}(h:HR P base D θ H w)(a:∀b,D b->D' b):HR P base D' θ H w :=
 ⟨λ b o hb=>let⟨h1,co,h2,h3⟩:=h.obj b o hb;⟨a b h1,co,h2,h3.up h1 (Ag.refl _ _) a⟩,h.inj,h.mf,λ g hg=>⟨a g (h.eF g hg).1,(h.eF g hg).2⟩,h.low⟩
section
variable{P:Kc}{base:Nat}{D:Nat->Prop}{θ:Th}{H:ar}{w:Nl}
def HR.lt(h:HR P base D θ H w){b:Nat}{o:bC}(hb:H.get b=B1 o):θ.b9 b<w.heap.size:=by
 have⟨_,co,a,_⟩:=h.obj b o hb;exact(yo.1 a).1
def ar.aJ(H:ar)(b a:Nat)(o:bC):(H.set b o).get a=if b=a then B1 o else H.get a:=T.aJ _ _ _ _
def ar.bK(H:ar)(a:Nat)(o:bC):(H.alloc o).get a=if H.au=a then B1 o else H.get a:=T.aJ _ _ _ _
def ar.rz(H:ar)(b a:Nat):(H.kill b).get a=if b=a then B5 else H.get a:=T.kG _ _ _ _
def HR.set(h:HR P base D θ H w){b:Nat}{o o':bC}{co':Obj}(hb:H.get b=B1 o)(ho:own o=B4)(p:own o'=B4)(hr:oH P D θ b o' co') :
 HR P base D θ (H.set b o') (fD w (θ.b9 b) co'):=by
 have g:=h.lt hb;refine⟨λ x f a=>?_,λ x y f j a i d c=>?_,λ x f a d=>?_,h.eF,by rw[Sw];exact h.low⟩
 .rw [ar.aJ]at a
  by_cases e:b=x
  .subst e;simp only[oO,qk]at a;subst a;exact⟨(h.obj b o hb).1,co',by rw[ML _ _ _ _ g];simp,hr⟩
  .simp only[e,vk]at a;have⟨l,co,m,n⟩:=h.obj x f a;exact⟨l,co,by rw[ML _ _ _ _ g,qt (h.inj b x o f hb a ho e)];exact m,n⟩
 .rw [ar.aJ]at a i
  by_cases e:b=x<;>by_cases e':b=y
  .exact absurd (e.symm.trans e') c
  .subst e;simp only[e',vk]at i;exact h.inj b y o j hb i ho c
  .subst e';simp only[e,vk]at a;exact h.inj x b f o a hb d c
  .simp only[e,e',vk]at a i;exact h.inj x y f j a i d c
 .rw [ar.aJ]at a
  by_cases e:b=x
  .subst e;exact h.mf b o hb ho
  .simp only[e,vk]at a;exact h.mf x f a d
def bD.set{b:Nat}{o o':bC}{co':Obj}(hb:H.get b=B1 o)(ho:own o=B4)(a:θ.b9 b<w.heap.size) :
 bD D H θ w (H.set b o') θ (fD w (θ.b9 b) co'):=by
 refine⟨qm _,Ag.refl _ _,by rw[Sw];exact qm _,rfl,rfl,rfl,λ k hk c=>?_,λ x g f d _=>?_⟩
 .rw [ML _ _ _ _ a,qt (c b o hb ho)]
 .rw [ar.aJ]at f
  by_cases e:b=x
  .subst e;exact⟨b,o,hb,ho,rfl⟩
  .simp only[e,vk]at f;exact⟨x,g,f,d,rfl⟩
def Th.add(θ:Th)(n b9 off ext:Nat):Th:={b9:=λ b=>if b=n then b9 else θ.b9 b,off:=λ b=>if b=n then off else θ.off b,ext:=λ b=>if b=n then ext else θ.ext b}
def Th.eL(θ:Th)(n b9 off ext:Nat):(θ.add n b9 off ext).b9 n=b9/\(θ.add n b9 off ext).off n=off/\(θ.add n b9 off ext).ext n=ext:=by simp[Th.add]
def Th.hO(θ:Th)(n b9 off ext:Nat){D:Nat->Prop}(hn:¬D n):Ag D θ (θ.add n b9 off ext):=λ b hb=>by
 have:b≠n:=λ e=>hn (e▸hb);simp[Th.add,this]
end
section
variable{P:Kc}{base:Nat}{D:Nat->Prop}{θ:Th}{H:ar}{w:Nl}
def HR.alloc(h:HR P base D θ H w)(hn:¬D H.au){o:bC}{co:Obj}{k off ext:Nat}{w':Nl}(hk:w'.heap[k]? = B1 co)(f:∀j,j<w.heap.size->w'.heap[j]? = w.heap[j]?)(u:w.heap.size<=k)
 (hs:w.heap.size<=w'.heap.size) (hr:oH P (Up D H.au (H.au+1)) (θ.add H.au k off ext) H.au o co) :
 HR P base (Up D H.au (H.au+1)) (θ.add H.au k off ext) (H.alloc o) w':=by
 have d:=Th.hO θ H.au k off ext hn;have⟨e1,e2,v⟩:=Th.eL θ H.au k off ext;have old:∀x b,H.get x=B1 b->(θ.add H.au k off ext).b9 x = θ.b9 x:=λ x b a=>(d x (h.obj x b a).1).1;refine⟨λ x b a=>?_,λ x y b r a l i n=>?_,λ x b a i=>?_,λ g hg=>?_,by have:=h.low;omega⟩
 .rw [ar.bK]at a
  by_cases e:H.au=x
  .subst e;simp only[oO,qk]at a;subst a;exact⟨.inr ⟨qm _,zz _⟩,co,by rw[e1];exact hk,hr⟩
  .simp only[e,vk]at a;have⟨m,c,p,q⟩:=h.obj x b a;refine⟨.inl m,c,?_,q.up m d Up.of⟩;rw[old x b a,f _ (h.lt a)];exact p
 .rw [ar.bK]at a l
  by_cases e:H.au=x<;>by_cases e':H.au=y
  .exact absurd (e.symm.trans e') n
  .subst e;simp only[e',vk]at l;rw[e1,old y r l];have:=h.lt l;omega
  .subst e';simp only[e,vk]at a;rw[e1,old x b a];have:=h.lt a;omega
  .simp only[e,e',vk]at a l;rw[old x b a,old y r l];exact h.inj x y b r a l i n
 .rw [ar.bK]at a
  by_cases e:H.au=x
  .subst e;rw[e1];have:=h.low;omega
  .simp only[e,vk]at a;rw[old x b a];exact h.mf x b a i
 .have ⟨m,p,q⟩:=h.eF g hg;have⟨s,t,_⟩:=d g m;exact⟨.inl m,s.trans p,t.trans q⟩
def bD.alloc(h:HR P base D θ H w)(hn:¬D H.au)(o:bC)(co:Obj)(off ext:Nat):bD D H θ w (H.alloc o) (θ.add H.au w.heap.size off ext) (w.alloc co):=by
 have a:=Th.hO θ H.au w.heap.size off ext hn;have⟨e1,e2,g⟩:=Th.eL θ H.au w.heap.size off ext;refine⟨ke _,a,by simp,rfl,rfl,rfl,λ k hk _=>?_,λ x f b d c=>?_⟩
 .rw [Dm,qt (KP hk)]
 .rw [ar.bK]at b
  by_cases e:H.au=x
  .subst e;rw[e1]at c;omega
  .simp only[e,vk]at b;have:=(a x (h.obj x f b).1).1;exact⟨x,f,b,d,this.symm⟩
end
section
variable{P:Kc}{base:Nat}{D:Nat->Prop}{θ:Th}{H:ar}{w:Nl}
def HR.cells(h:HR P base D θ H w){b:Nat}{l:List AV}(hb:H.bP b=B1 l) :
 ∃pre cs post e fz,w.heap[θ.b9 b]? = B1 (.cells (pre++cs++post).toArray e fz)/\pre.length = θ.off b/\bL D θ l cs:=by
 unfold ar.bP at hb;cases hg:H.get b with
 |none=>rw[hg]at hb;cases hb
 |some o =>
  rw[hg]at hb;have⟨_,co,g,hr⟩:=h.obj b o hg;cases o with
  |row cells e fz ow =>
   have⟨pre,cs,post,a,i,c,d,f,_⟩:=hr;cases hb;exact⟨pre,cs,post,i,a,by rw[g,c],d,f⟩
  |grown m size cells e fz =>
   have⟨pre,cs,post,a,c,d,f,_⟩:=hr;cases hb;exact⟨pre,cs,post,e,a,by rw[g,c],d,f⟩
  |map _ _=>cases hb
  |mj _ _=>cases hb
  |loop _ _ _ _ _ _=>cases hb
  |deferred _=>cases hb
def Gw(pre cs post:List Km)(o:Nat){c:Km}(h:cs[o]? = B1 c):(pre++cs++post).toArray[pre.length+o]? = B1 c:=by
 have a:=(qo.1 h).1;simp only[List.getElem?_toArray,zy];rw[zu (by omega),show pre.length+o-pre.length=o from by omega,jq a];exact h
def _J(pre cs post:List Km)(o n:Nat)(h:n<=cs.length-o):(((pre++cs++post).toArray.toList.drop (pre.length+o)).take n)=(cs.drop o).take n:=by
 simp only[zy];rw[BE,show pre.length+o-pre.length=o from by omega,List.drop_of_length_le (l:=pre) (by omega),jc,BE]
 by_cases ho:o<=cs.length
 .rw [Oh,show n-(cs.drop o).length=0 from by simp;omega];simp
 .have:n=0:=by omega
  subst this;simp
def HR.ae(h:HR P base D θ H w){b o:Nat}{v:AV}(hl:H.ae b o=B1 v) :
 ∃c,(load ⟨θ.b9 b,θ.off b+o,B5⟩).run P w=.ok c w/\VR D θ v c:=by
 unfold ar.ae at hl;cases a:H.bP b with
 |none=>rw[a]at hl;cases hl
 |some l =>
  rw[a]at hl;have⟨pre,cs,post,e,fz,g,i,j⟩:=h.cells a;simp only[qr,kE]at hl;have⟨c,d,f⟩:=j.qY hl;exact⟨c,xm2 g (by rw[<-i];exact Gw pre cs post o d),f⟩
def HR.av(h:HR P base D θ H w){b o n:Nat}{l:List AV}(hl:H.av b o n=B1 l) :
 ∃cs:List Km,(loadCells ⟨θ.b9 b,θ.off b+o,B5⟩ n).run P w=.ok cs.toArray w/\bL D θ l cs/\l.length=n:=by
 unfold ar.av at hl;cases a:H.bP b with
 |none=>rw[a]at hl;cases hl
 |some l0 =>
  rw[a]at hl;have⟨pre,cs,post,e,fz,d,f,c⟩:=h.cells a;simp only[qr,sO]at hl;split at hl
  .rename_i hn;cases hl;have hlen:=c.length;refine⟨(cs.drop o).take n,?_,(c.drop o).take n,by simp;omega⟩;rw[<-f,_3 d (pre.length+o) n (by simp;omega),_J pre cs post o n (by omega)]
  .cases hl
def xc2{v:AV}{c:Km}(h:VR D θ v c)(a:az v=B4):c.oneCell'=true:=by
 rw[<-h.now];cases v<;>simp_all[az,aw,Km.oneCell']
def vz(l:List AV):aQ l=l.all az:=by
 induction l with
 |nil=>rfl
 |cons x l ih =>
  show cond (az x) (aQ l) B2=_;rw[ih];cases h:az x<;>simp[h]
def q3k{l:List AV}{cs:List Km}(h:bL D θ l cs)(b:aQ l=B4):∀c∈cs,c.oneCell'=true:=by
 intro c j;have⟨i,f⟩:=Md j;rw[vz,Ce]at b;have a:i<l.length:=by rw[<-h.length];exact(qo.1 f).1
 have⟨m,d,g⟩:=h.qY (qy a);rw[f]at d;cases d;exact xc2 g (b _ (List.getElem_mem a))
end
end Go.Am
namespace Go.Am
def td(P:Kc)(s:Sem Next)(w:Nl)(c:Km)(w':Nl):Prop:=s.run P w=.ok (.value c) w'\/(s.run P w=.ok .skip w'/\c=Go.undef)
def di(P:Kc)(o:Qa)(xs:List N0)(f:List AV->Option AV):Prop :=
 ∀(D:Nat->Prop)θ(ρ:N0->Km)w vs v,bL D θ vs (xs.map ρ)->f vs=B1 v -> ∃c,td P (execOp ρ o) w c w/\VR D θ v c
section
variable{P:Kc}{w:Nl}
def yd{t:Ma}{d:TypeDesc}(h:P.underlying t=B1 d):(underlying t).run P w=.ok d w:=run_underlying h w
def uO{t:Ma}{n:Nat}(h:bR P t=B1 n):(sizeOf t).run P w=.ok n w:=by
 unfold bR at h;cases a:P.info? t with
 |none=>rw[a]at h;cases h
 |some i=>rw[a]at h;cases h;simp[sizeOf,typeInfo,a]
def qzh{t:Ma}{n:Nat}(h:bR P t=B1 n):∃i,P.info? t=B1 i/\i.size=n:=by
 unfold bR at h;cases a:P.info? t with
 |none=>rw[a]at h;cases h
 |some i=>rw[a]at h;injection h with h;exact⟨i,rfl,h⟩
def TO{t:Ma}{n:Option Nat}(h:oi P t=B1 n):(isAgg t).run P w=.ok n.isSome w /\ ∀k,n=B1 k->(sizeOf t).run P w=.ok k w:=by
 unfold oi at h;cases hu:P.underlying t with
 |none=>rw[hu]at h;cases h
 |some d =>
  rw[hu]at h;cases d
  case struct fs =>
   simp only at h;cases hs:bR P t with
   |none=>rw[hs]at h;cases h
   |some m =>
    rw[hs]at h;cases h;exact⟨by simp[isAgg,yd hu],λ k hk=>by cases hk;exact uO hs⟩
  case array m e =>
   simp only at h;cases hs:bR P t with
   |none=>rw[hs]at h;cases h
   |some m =>
    rw[hs]at h;cases h;exact⟨by simp[isAgg,yd hu],λ k hk=>by cases hk;exact uO hs⟩
  all_goals
   (cases h
    exact⟨by simp[isAgg,yd hu],λ k hk=>by cases hk⟩)
mutual
def U6(θ:Th):∀(c:Km)(v:AV),fU c=B1 v->aw θ v=c
 | .bool b,v,h=>by simp[fU]at h;subst h;rfl
 | .int k n,v,h=>by simp[fU]at h;subst h;rfl
 | .string s,v,h=>by simp[fU]at h;subst h;simp[aw]
 | .pointer B5,v,h=>by simp[fU]at h;subst h;rfl
 | .pointer (B1 a),v,h=>by simp[fU]at h
 | .slice B5 0 0,v,h=>by simp[fU]at h;subst h;rfl
 | .slice B5 0 (n+1),v,h=>by simp[fU]at h
 | .slice B5 (n+1) c,v,h=>by simp[fU]at h
 | .slice (B1 a) n c,v,h=>by simp[fU]at h
 | .map B5,v,h=>by simp[fU]at h;subst h;rfl
 | .map (B1 r),v,h=>by simp[fU]at h
 | .nilFunc,v,h=>by simp[fU]at h;subst h;rfl
 | .nilIface,v,h=>by simp[fU]at h;subst h;rfl
 | .iface t x,v,h=>by
  simp only[fU]at h;cases d:fU x with
  |none=>rw[d]at h;cases h
  |some y=>rw[d]at h;cases h;simp[aw,U6 θ x y d]
 | .agg cs,v,h=>by
  simp only[fU]at h;cases d:nY cs.toList with
  |none=>rw[d]at h;cases h
  |some l=>rw[d]at h;cases h;simp[aw,Wb θ cs.toList l d]
 | .tuple cs,v,h=>by
  simp only[fU]at h;cases d:nY cs.toList with
  |none=>rw[d]at h;cases h
  |some l=>rw[d]at h;cases h;simp[aw,Wb θ cs.toList l d]
 | .float _ _,v,h=>by simp[fU]at h
 | .complex _ _ _,v,h=>by simp[fU]at h
 | .chan _,v,h=>by simp[fU]at h
 | .func _ _ _,v,h=>by simp[fU]at h
def Wb(θ:Th):∀(cs:List Km)(l:List AV),nY cs=B1 l->bS θ l=cs
 |[],l,h=>by simp[nY]at h;subst h;rfl
 |c::cs,l,h=>by
  simp only[nY]at h;cases a:fU c with
  |none=>rw[a]at h;cases h
  |some y =>
   rw[a]at h;simp only[qr]at h;cases b:nY cs with
   |none=>rw[b]at h;cases h
   |some ys=>rw[b]at h;cases h;simp[bS,U6 θ c y a,Wb θ cs ys b]
end
def Sv{D:Nat->Prop}{θ:Th}{c:Km}{v:AV}(h:fU c=B1 v):VR D θ v c:=λ θ' _=>U6 θ' c v h
def Mv{t:Ma}{z:AV}(h:zeroOf P t=B1 z):∃c,(zeroValue t).run P w=.ok c w /\ ∀D θ,VR D θ z c:=by
 unfold zeroOf at h;cases a:P.info? t with
 |none=>rw[a]at h;cases h
 |some i =>
  rw[a]at h;simp only[qr]at h;cases b:i.zero with
  |none=>rw[b]at h;cases h
  |some c=>rw[b]at h;exact⟨c,by simp[zeroValue,typeInfo,a,b],λ D θ=>Sv h⟩
end
section
variable{D:Nat->Prop}{θ:Th}
def VR.cells{v:AV}{c:Km}(h:VR D θ v c):bL D θ v.cells c.cells.toList:=by
 intro θ' ha;have a:=h θ' ha;subst a;cases v<;>simp[AV.cells,aw,Km.cells,bS]
end
section
variable{P:Kc}{D:Nat->Prop}{θ:Th}{ρ:N0->Km}{w:Nl}
def bL.iP{x:N0}{vs:List AV}(h:bL D θ vs ([x].map ρ)):∃v,vs=[v]/\VR D θ v (ρ x):=by
 cases vs with
 |nil=>have:=h.length;simp at this
 |cons v vs =>
  have⟨c,cs,a,b,d⟩:=h.eC;simp only[jw,AE,zx]at a;obtain⟨rfl,rfl⟩:=a;have:=d.length;cases vs with
  |nil=>exact⟨v,rfl,b⟩
  |cons _ _=>simp at this
def bL.tE{x y:N0}{vs:List AV}(h:bL D θ vs ([x,y].map ρ)):∃a b,vs=[a,b]/\VR D θ a (ρ x)/\VR D θ b (ρ y):=by
 cases vs with
 |nil=>have:=h.length;simp at this
 |cons v vs =>
  have⟨c,cs,d,f,g⟩:=h.eC;simp only[jw,AE,zx]at d;obtain⟨rfl,rfl⟩:=d;obtain⟨b,rfl,hb⟩:=bL.iP (ρ:=ρ) (x:=y) g;exact⟨v,b,rfl,f,hb⟩
def bL.sA{x y z:N0}{vs:List AV}(h:bL D θ vs ([x,y,z].map ρ)):∃a b c,vs=[a,b,c]/\VR D θ a (ρ x)/\VR D θ b (ρ y)/\VR D θ c (ρ z):=by
 cases vs with
 |nil=>have:=h.length;simp at this
 |cons v vs =>
  have⟨c,cs,d,f,g⟩:=h.eC;simp only[jw,AE,zx]at d;obtain⟨rfl,rfl⟩:=d;obtain⟨a,b,rfl,ha,hb⟩:=bL.tE (ρ:=ρ) (x:=y) (y:=z) g;exact⟨v,a,b,rfl,f,ha,hb⟩
def N_{o:Qa}{x:N0}(ho:o.op=.move x\/o.op=.assign x):di P o [x] Op.move:=by
 intro D θ ρ w vs v h b;obtain⟨a,rfl,ha⟩:=bL.iP h;simp only[Op.move,qk]at b;subst b;refine⟨ρ x,.inl ?_,ha⟩;rcases ho with ho|ho<;>simp[execOp,ho]
def xms{o:Qa}{c a b:N0}(ho:o.op=.pick c a b):di P o [c,a,b] Op.pick:=by
 intro D θ ρ w vs v h d;obtain⟨q,x,y,rfl,l,m,n⟩:=bL.sA h;unfold Op.pick at d;split at d
 .rename_i i p r heq;injection heq with j f;subst j;injection f with f g;subst f;injection g with g _;subst g
  cases d;have hb:ρ c=.bool i:=l.now.symm;cases i
  .exact ⟨ρ b,.inl (by simp[execOp,ho,hb,asBool]),n⟩
  .exact ⟨ρ a,.inl (by simp[execOp,ho,hb,asBool]),m⟩
 .cases d
def Ht{o:Qa}{op:UnOp}{t:Ma}{x:N0}(ho:o.op=.unOp op t x):di P o [x] (Op.un op):=by
 intro D θ ρ w vs v h b;obtain⟨a,rfl,ha⟩:=bL.iP h;simp only[Op.un,lL]at b;have hr:=ha.now;split at b
 .rename_i k n;cases b;exact⟨_,.inl (by simp[execOp,ho,<-hr,aw,Cl.unary,Cl.intArith]<;>rfl),.int _ _⟩
 .rename_i k n;simp only[gF]at b;cases b;exact⟨_,.inl (by simp[execOp,ho,<-hr,aw,Cl.unary,Cl.intBits]<;>rfl),.int _ _⟩
 .cases b;exact⟨_,.inl (by simp[execOp,ho,<-hr,aw,Cl.unary]),.bool _⟩
 .cases b
def xmt{o:Qa}{src dst:Ma}{x:N0}{k j:Pl}(ho:o.op=.convert src dst x)(c:P.underlying src=B1 (.int j))(d:P.underlying dst=B1 (.int k)):di P o [x] (Op.wrap k):=by
 intro D θ ρ w vs v h b;obtain⟨a,rfl,ha⟩:=bL.iP h;have hr:=ha.now;unfold Op.wrap at b;split at b
 .rename_i k' n heq;cases heq;cases b;exact⟨_,.inl (by simp[execOp,ho,<-hr,aw,convert,yd c,yd d,Conv.intToInt]<;>rfl),.int _ _⟩
 .cases b
def xdb{o:Qa}{t:Ma}{x:N0}(ho:o.op=.makeInterface t x)(g:∃d,P.underlying t=B1 d/\(match d with| .interface _=>B2|_=>B4)=B4):di P o [x] (Op.dq t):=by
 intro D θ ρ w vs v h b;obtain⟨a,rfl,ha⟩:=bL.iP h;simp only[Op.dq,qk]at b;subst b;have⟨d,c,f⟩:=g;refine⟨.iface t (ρ x),.inl ?_,ha.iface⟩;cases d<;>simp_all[execOp,Instr.makeInterface,yd c]
def xfm{o:Qa}{f:FuncId}{a b:Array N0}(ho:o.op=.makeFunc (.func f) a b):di P o (a.toList++b.toList) (Op.bt f a.size):=by
 intro D θ ρ w vs v h c;simp only[Op.bt,qk]at c;subst c;refine⟨.func (.func f) (a.map ρ) (b.map ρ),.inl (by simp[execOp,ho,Instr.makeFunc]),λ θ' hg=>?_⟩;have d:=(h.take a.size) θ' hg;have g:=(h.drop a.size) θ' hg;simp only[aw,fP,d,g];congr 1
 .rw [FD,ki (by simp)];apply Hf;simp[zp]
 .rw [FD,y9 (by simp)];apply Hf;simp[List.drop_of_length_le]
def xc9{o:Qa}{x:N0}{i:Nat}(ho:o.op=.extract x i):di P o [x] (Op.extract i):=by
 intro D θ ρ w vs v h b;obtain⟨a,rfl,ha⟩:=bL.iP h;unfold Op.extract at b;split at b
 .rename_i l heq;cases heq;have⟨cs,g,hl⟩:=ha.Aq;rw[kE]at b;have⟨c,d,f⟩:=hl.qY b;exact⟨c,.inl (by simp[execOp,ho,g,Instr.extract,d]),f⟩
 .cases b
def L7{o:Qa}{c:Call}{b:Builtin}(ho:o.op=.call c)(a:c.callee=.builtin b) :
 ∃consts,execOp ρ o=builtin b c.argTypes o.type consts (c.args.map ρ):=by
 refine⟨c.args.map λ| .const _=>B4|_=>B2,?_⟩;simp only[execOp,ho,resolve,a,invoke];rfl
def AL{c:Call}{xs:List N0}(a:c.args.toList=xs):c.args.map ρ = (xs.map ρ).toArray:=by
 subst a;apply Hf;simp
def bL.qB{xs:List N0}{a:AV}(h:bL D θ [a] (xs.map ρ)):∃x,xs=[x]/\VR D θ a (ρ x):=by
 have:=h.length
 match xs,this,h with
 |[x],_,h=>have⟨_,heq,ha⟩:=bL.iP h;injection heq with heq _;subst heq;exact⟨x,rfl,ha⟩
def bL.rJ{xs:List N0}{a b:AV}(h:bL D θ [a,b] (xs.map ρ)):∃x y,xs=[x,y]/\VR D θ a (ρ x)/\VR D θ b (ρ y):=by
 have:=h.length
 match xs,this,h with
 |[x,y],_,h =>
  have⟨_,_,heq,ha,hb⟩:=bL.tE h;injection heq with d c;injection c with c _;subst d;subst c;exact⟨x,y,rfl,ha,hb⟩
def Mx(s:List UInt8):(⟨s.toArray⟩:ByteArray).size=s.length:=by simp[ByteArray.size]
def xjd{o:Qa}{c:Call}{xs:List N0}{t e:Ma}(ho:o.op=.call c)(f:c.callee=.builtin .len)(d:c.args.toList=xs)(b:c.argTypes[0]? = B1 t)
 (hu:P.underlying t=B1 (.slice e)):di P o xs Op.dm:=by
 intro D θ ρ w vs v h a;have⟨consts,he⟩:=L7 (ρ:=ρ) ho f;unfold Op.dm at a;split at a
 .obtain ⟨x,rfl,ha⟩:=h.qB;cases a;refine⟨_,.inl ?_,.int _ _⟩;rw[he,AL d];simp[builtin,D7,yd hu,b,<-ha.now,aw,goInt]<;>rfl
 .obtain ⟨x,rfl,ha⟩:=h.qB;cases a;refine⟨_,.inl ?_,.int _ _⟩;rw[he,AL d];simp[builtin,D7,yd hu,b,<-ha.now,aw,goInt]<;>rfl
 .obtain ⟨x,rfl,ha⟩:=h.qB;cases a;refine⟨_,.inl ?_,.int _ _⟩;rw[he,AL d];simp[builtin,D7,yd hu,b,<-ha.now,aw,goInt]<;>rfl
 .obtain ⟨x,rfl,ha⟩:=h.qB;cases a;refine⟨_,.inl ?_,.int _ _⟩;rw[he,AL d];simp[builtin,D7,yd hu,b,<-ha.now,aw,goInt]<;>rfl
 .cases a
def xim{op:BinOp}{k:Pl}{a b:Int}{v:AV}(hs:dZ op=B2)(h:gF op k a b=B1 v)(t:Ma) :
 ∃c,(binOp op t (.int k a) (.int k b)).run P w=.ok c w/\VR D θ v c:=by
 cases op<;>simp only[gF,dZ,qk,EA,JM,GB,Bool.true_eq_false]at h hs
 case quo =>
  cases hb:(b == 0)<;>rw[hb]at h<;>simp at h;subst h;exact⟨_,by simp[binOp,Cl.intDiv,by simpa using hb]<;>rfl,.int _ _⟩
 case rem =>
  cases hb:(b == 0)<;>rw[hb]at h<;>simp at h;subst h;exact⟨_,by simp[binOp,Cl.intDiv,by simpa using hb]<;>rfl,.int _ _⟩
 all_goals
  subst h
  first|refine⟨_,?_,VR.int _ _⟩|refine⟨_,?_,VR.bool _⟩
  simp only[binOp,ne_eq,not_true_eq_false,vk,Cl.intBits,Cl.intArith,Cl.intCmp];rfl
def xbn(a b:List UInt8):bytesLess a b=Cl.bytesLess a b:=by
 induction a generalizing b with
 |nil=>cases b<;>rfl
 |cons x a ih=>cases b with
  |nil=>rfl
  |cons y b =>
   simp only[bytesLess,Cl.bytesLess,ih,YB];congr 1;rw[CM];simp[UInt8.lt_iff_toNat_lt]
def _V(s:List UInt8):(⟨s.toArray⟩:ByteArray).toList=s:=by rw[ByteArray.toList_eq]
def xjv{op:BinOp}{a b:List UInt8}{v:AV}(h:rq op a b=B1 v)(t:Ma) :
 ∃c,(binOp op t (.string ⟨a.toArray⟩) (.string ⟨b.toArray⟩)).run P w=.ok c w/\VR D θ v c:=by
 cases op<;>simp only[rq,qk,reduceCtorEq,Kn,xbn]at h
 case add =>
  cases hb:Ow (a.length+b.length) 140737488355328<;>rw[hb]at h<;>simp at h;subst h;have hle:a.length+b.length<=140737488355328:=by simpa[sH]using hb
  refine⟨.string (⟨a.toArray⟩++⟨b.toArray⟩),?_,λ θ' _=>?_⟩
  .simp only[binOp,Cl.stringOp,Mx,Sem.run_ite];rw[qt (by simp[Pl.max,Bj,Bi];omega)];rfl
  .show Km.string ⟨(a++b).toArray⟩=_;congr 1
 all_goals
  subst h;exact⟨_,by simp[binOp,Cl.stringOp]<;>rfl,.bool _⟩
def xha{o:Qa}{op:BinOp}{t p:Ma}{x y:N0}(ho:o.op=.binOp op t x y p):di P o [x,y] (Op.bin op):=by
 intro D θ ρ w vs v h d;obtain⟨a,b,rfl,ha,hb⟩:=bL.tE h;simp only[Op.bin,nC]at d;have g:=ha.now;have i:=hb.now;have guard:∀(u n:Km),(∀l,u≠ .agg l)->u≠ .nilIface->(eqGuard op t x y u n).run P w=.ok () w:=by
  intro u n q r;unfold eqGuard;cases u<;>cases op<;>simp_all
 split at d
 .rename_i k a k' b;cases hs:dZ op
  .rw [hs]at d;simp only[zm,TZ]at d
   by_cases hk:k=k'
   .subst hk;simp only[Nd,xw]at d;have⟨c,j,m⟩:=xim (P:=P) (w:=w) (D:=D) (θ:=θ) hs d t;refine⟨c,.inl ?_,m⟩;have hg:=guard (.int k a) (.int k b) (λ _=>by simp) (by simp);simp[execOp,ho,<-g,<-i,aw,hg,j]
   .simp [hk]at d
  .rw [hs]at d;simp only[xw,tw,JM]at d
   by_cases f:b<0
   .simp [f]at d
   .simp only[f,F7,zm]at d;have hg:=guard (.int k a) (.int k' b) (λ _=>by simp) (by simp);cases op<;>simp only[dZ,zw]at hs
    all_goals
     cases d;exact⟨_,.inl (by simp[execOp,ho,<-g,<-i,aw,hg,binOp,Cl.shift,f]<;>rfl),.int _ _⟩
 .rename_i a b;have⟨c,j,m⟩:=xjv (P:=P) (w:=w) (D:=D) (θ:=θ) d t;have hg:=guard (.string ⟨a.toArray⟩) (.string ⟨b.toArray⟩) (λ _=>by simp) (by simp);exact⟨c,.inl (by simp[execOp,ho,<-g,<-i,aw,hg,j]),m⟩
 .cases d
end
end Go.Am
namespace Go.Am
section
variable{P:Kc}{D:Nat->Prop}{θ:Th}{ρ:N0->Km}{w:Nl}
def M9{t:Ma}{l:List AV}{cs:List Km}{off:Nat}{n:Option Nat}{v:AV}(hn:oi P t=B1 n)(hl:bL D θ l cs)(h:partAt l off n=B1 v) :
 ∃c,(part t cs.toArray off).run P w=.ok c w/\VR D θ v c:=by
 have⟨a,b⟩:=TO (w:=w) hn;cases n with
 |none =>
  simp only[partAt,kE]at h;have⟨c,d,f⟩:=hl.qY h;exact⟨c,by simp[part,a,d],f⟩
 |some k =>
  simp only[partAt,sO]at h;split at h
  .rename_i hk;cases h;refine⟨.agg ((cs.drop off).take k).toArray,?_,VR.agg ((hl.drop off).take k)⟩;have hlen:=hl.length;simp only[part,Nn,a,N8,vx,oO,b k rfl];simp only[Q1,Result.ok.injEq,Km.agg.injEq,sj];apply Hf;simp[List.extract,ve]
  .cases h
def Uj{i:Int}{n k:Nat}(h:within i n=B1 k):i=(k:Int)/\k<n:=by
 unfold within at h;cases i with
 |ofNat m =>
  simp only at h;cases hb:QS m n<;>rw[hb]at h
  .cases h
  .cases h;exact⟨rfl,by simpa[uH]using hb⟩
 |negSucc m=>cases h
def q7j{o:Qa}{t:Ma}{x:N0}{i:Nat}{fs:Array Field}{f:Field}{n:Nat}(ho:o.op=.fieldAddr t x i)(j:P.underlying t=B1 (.struct fs))(g:fs[i]? = B1 f)(hn:bR P f.type=B1 n)(c:n≠0) :
 di P o [x] (Op.fieldAddr f.offset):=by
 intro D θ ρ w vs v h a;unfold Op.fieldAddr at a;split at a
 .rename_i b d;have⟨y,heq,ha⟩:=h.qB;injection heq with heq _;subst heq
  cases a;have hr:=ha.now;refine⟨.pointer (B1 ⟨θ.b9 b,θ.off b+d+f.offset,B5⟩),.inl ?_,λ θ' hg=>?_⟩
  .simp [execOp,ho,Instr.fieldAt,yd j,g,<-hr,aw,C6,fieldPlace,uO hn,c,zD]
  .have:=ha θ' hg;rw[<-hr]at this;simp[aw]at this⊢;omega
 .cases a
def xap{o:Qa}{t e:Ma}{x i:N0}{len size:Nat}{n:Option Nat}(ho:o.op=.index t x i)(q:P.underlying t=B1 (.array len e))(hs:bR P e=B1 size)(hn:oi P e=B1 n) :
 di P o [x,i] (Op.bB len size n):=by
 intro D θ ρ w vs v h a;unfold Op.bB at a;split at a
 .rename_i l k j;have⟨y,z,heq,ha,hb⟩:=h.rJ;injection heq with d b;injection b with b _;subst d;subst b
  cases hw:within j len with
  |none=>rw[hw]at a;cases a
  |some m =>
   rw[hw]at a;obtain⟨rfl,p⟩:=Uj hw;have⟨cs,f,hl⟩:=ha.fp;have⟨c,d,b⟩:=M9 (w:=w) hn hl a;refine⟨c,.inl ?_,b⟩;have g:(0:Int)<=(m:Int)/\(m:Int)<(len:Int):=by omega
   simp[execOp,ho,Instr.index,yd q,f,<-hb.now,aw,asIntOf,g,uO hs,d];intro r;omega
 .cases a
def xar{o:Qa}{t:Ma}{x i:N0}(ho:o.op=.index t x i)(l:P.underlying t=B1 .string):di P o [x,i] Op.bN:=by
 intro D θ ρ w vs v h a;unfold Op.bN at a;split at a
 .rename_i s k j;have⟨y,z,heq,ha,hb⟩:=h.rJ;injection heq with f c;injection c with c _;subst f;subst c
  cases hw:within j s.length with
  |none=>rw[hw]at a;cases a
  |some m =>
   rw[hw]at a;obtain⟨rfl,b⟩:=Uj hw;simp only[qr,kE]at a;obtain⟨u,hu⟩:∃u,s[m]? = B1 u:=⟨_,qy b⟩
   rw[hu]at a;cases a;refine⟨.int .u8 u.toNat,.inl ?_,.int _ _⟩;have d:(0:Int)<=(m:Int):=by omega
   have hg:getElem? (⟨s.toArray⟩:ByteArray) m=B1 u:=by
    have n:m<(⟨s.toArray⟩:ByteArray).size:=by rw[Mx];exact b
    rw[getElem?_pos (⟨s.toArray⟩:ByteArray) m n];have g:=(qo.1 hu).2;simp only[qk];exact g
   simp[execOp,ho,Instr.index,yd l,<-ha.now,<-hb.now,aw,asIntOf,d,hg]
 .cases a
def sM{x:AV}{c:Km}{size j b o:Nat}(h:VR D θ x c)(he:elemAt size x j=B1 (b,o)) :
 ∃n m,c=.slice (B1 ⟨θ.b9 b,θ.off b+o-j*size,B5⟩) n m/\j<n/\j*size<=o/\(∀θ',Ag D θ θ' -> θ'.b9 b = θ.b9 b /\ θ'.off b+o = θ.off b+o):=by
 have hr:=h.now;unfold elemAt at he;split at he
 .rename_i d o' n' i;cases hb:QS j n'<;>rw[hb]at he
  .cases he
  .simp only[xw,qk,zf]at he;obtain⟨rfl,rfl⟩:=he;refine⟨n',i,?_,by simpa[uH]using hb,by omega,λ θ' ha=>?_⟩
   .rw [<-hr];simp only[aw];congr 3;omega
   .have:=h θ' ha;rw[<-hr]at this;simp only[aw,AZ,qk,BK]at this;omega
 .rename_i d f g p a n';cases hb:(QS j n' && J3 p size && QS (f+j) g)<;>rw[hb]at he
  .cases he
  .simp only[xw,qk,zf]at he;obtain⟨rfl,rfl⟩:=he;simp only[zd,uH,jv]at hb;obtain⟨⟨l,rfl⟩,q⟩:=hb;refine⟨n',g-f + θ.ext d,?_,l,by omega,λ θ' ha=>?_⟩
   .rw [<-hr];simp only[aw];rw[qt (by omega)];congr 3;omega
   .have:=h θ' ha;rw[<-hr]at this;simp only[aw,AZ,qk,BK]at this;rw[qt (by omega),qt (by omega)]at this;omega
 .cases he
def xda{o:Qa}{t e:Ma}{x i:N0}{size:Nat}(ho:o.op=.indexAddr t x i)(B:P.underlying t=B1 (.slice e))(hs:bR P e=B1 size) :
 di P o [x,i] (Op.aP size):=by
 intro D θ ρ w vs v h d;unfold Op.aP at d;split at d
 .rename_i a k j;have⟨y,z,heq,ha,hb⟩:=h.rJ;injection heq with l g;injection g with g _;subst l;subst g
  cases hl:fy a with
  |none=>rw[hl]at d;cases d
  |some n0 =>
   rw[hl]at d;simp only[qr]at d;cases hw:within j n0 with
   |none=>rw[hw]at d;cases d
   |some m =>
    rw[hw]at d;simp only[qr]at d;obtain⟨rfl,A⟩:=Uj hw;cases he:elemAt size a m with
    |none=>rw[he]at d;cases d
    |some p =>
     have⟨b,f⟩:=p;rw[he]at d;cases d;have⟨n,c,r,u,hle,q⟩:=sM ha he;refine⟨.pointer (B1 ⟨θ.b9 b,θ.off b+f,B5⟩),.inl ?_,λ θ' hg=>?_⟩
     .have s:(0:Int)<=(m:Int)/\(m:Int)<(n:Int):=by omega
      have heq:θ.off b+f-m*size+m*size = θ.off b+f:=by omega
      simp[execOp,ho,Instr.indexAt,yd B,r,<-hb.now,aw,asIntOf,s,uO hs,zD,heq];intro C;omega
     .have ⟨l,g⟩:=q θ' hg;simp only[aw,l,g]
 .cases d
def xaq{o:Qa}{t e:Ma}{x i:N0}{len size:Nat}(ho:o.op=.indexAddr t x i)(n:P.underlying t=B1 (.array len e))(hs:bR P e=B1 size) :
 di P o [x,i] (Op.aY len size):=by
 intro D θ ρ w vs v h a;unfold Op.aY at a;split at a
 .rename_i b d k j;have⟨y,z,heq,ha,hb⟩:=h.rJ;injection heq with f c;injection c with c _;subst f;subst c
  cases hw:within j len with
  |none=>rw[hw]at a;cases a
  |some m =>
   rw[hw]at a;cases a;obtain⟨rfl,l⟩:=Uj hw;have g:(0:Int)<=(m:Int)/\(m:Int)<(len:Int):=by omega
   refine⟨.pointer (B1 ⟨θ.b9 b,θ.off b+d+m*size,B5⟩),.inl ?_,λ θ' hg=>?_⟩
   .simp [execOp,ho,Instr.indexAt,yd n,<-ha.now,<-hb.now,aw,asIntOf,C6,g,uO hs,zD];intro p;omega
   .have:=ha θ' hg;rw[<-ha.now]at this;simp[aw]at this⊢;omega
 .cases a
def xas{o:Qa}{x:N0}(ho:o.op=.nilCheck x):di P o [x] Op.nilCheck:=by
 intro D θ ρ w vs v h b;obtain⟨a,rfl,ha⟩:=bL.iP h;have hr:=ha.now;unfold Op.nilCheck at b;split at b
 .cases b
 .cases b
 .cases b
 .rename_i f m n heq;injection heq with heq;subst heq
  injection b with b;subst b
  exact⟨ρ x,.inl (by simp[execOp,ho,<-hr,aw,fP]),ha⟩
 .cases b
 .rename_i c g i j p l heq;injection heq with heq;subst heq
  injection b with b;subst b
  refine⟨ρ x,.inl ?_,ha⟩;have d:=hr.symm;clear hr ha h;cases a
  case nilp=>exact absurd rfl g
  case nili=>exact absurd rfl i
  case nilf=>exact absurd rfl j
  case fn f' c b'=>exact absurd rfl (l f' c b')
  all_goals (simp only[aw]at d;simp[execOp,ho,d])
 .cases b
def I'(off:Nat):∀(cs:List Km)(j:Nat)(arr:List Km),off+j+cs.length<=arr.length ->
 ((cs.zipIdx j).foldl (λ acc(p:Km×Nat)=>acc.setIfInBounds (off+p.2) p.1) arr.toArray)=(arr.take (off+j)++cs++arr.drop (off+j+cs.length)).toArray
 |[],j,arr,_=>by simp
 |c::cs,j,arr,h=>by
  simp only[List.zipIdx_cons,Oq,List.setIfInBounds_toArray];rw[I' off cs (j+1) (arr.set (off+j) c) (by simp at h⊢;omega)];congr 1;have a:=list_seg_step arr (off+j) c cs (by simp at h⊢;omega)
  simpa[wT]using a
def xl3(off:Nat)(cs:Array Km)(arr:List Km)(h:off+cs.size<=arr.length) :
 (cs.zipIdx.foldl (λ acc(p:Km×Nat)=>acc.setIfInBounds (off+p.2) p.1) arr.toArray)=(arr.take off++cs.toList++arr.drop (off+cs.size)).toArray:=by
 have:=I' off cs.toList 0 arr (by simpa using h);rw[<-Array.foldl_toList]
 simpa using this
def YI:∀(places:List (Nat×Nat))(vs:List AV)(parts:List (Nat×N0))(pl:Nat->Option (Nat×Nat))(out:List AV),
 Dy pl parts=B1 places->bL D θ vs (parts.map λ p=>ρ p.2) -> ∀(cells:List AV)(a:List Km),bL D θ cells a->jG cells places vs=B1 out ->
 ∃cout:List Km,Instr.fill pl a.toArray (parts.map λ p=>(p.1,ρ p.2))=B1 cout.toArray/\bL D θ out cout:=by
 intro places vs parts
 induction parts generalizing places vs with
 |nil =>
  intro pl out hp n cells a g d;simp only[Dy,qk]at hp;subst hp;have:vs=[]:=by have:=n.length;simp at this;exact List.eq_nil_of_length_eq_zero (by omega)
  subst this;simp only[jG,qk]at d;subst d;exact⟨a,rfl,g⟩
 |cons p parts ih =>
  intro pl out hp n cells a g d;have⟨i,x⟩:=p;simp only[Dy]at hp;cases f:pl i with
  |none=>rw[f]at hp;cases hp
  |some q =>
   have⟨off,size⟩:=q;rw[f]at hp;simp only[qr]at hp;cases hr:Dy pl parts with
   |none=>rw[hr]at hp;cases hp
   |some l =>
    rw[hr]at hp;cases hp;cases vs with
    |nil=>simp only[jG]at d;cases d
    |cons v vs =>
     have⟨c,cs',o,r,s⟩:=n.eC;simp only[jw,zx]at o;obtain⟨rfl,rfl⟩:=o;simp only[jG,IX]at d;cases hb:J3 v.cells.length size
     .rw [hb]at d;cases d
     .rw [hb]at d;simp only[xw,FV]at d;have b:=r.cells;have hlen:=b.length;have j:(ρ x).cells.size=size:=by rw[<-we,hlen];simpa[jv]using hb
      split at d
      .rename_i hle;simp only[qr]at d;have y:=g.length;have h:bL D θ (cells.take off++v.cells++cells.drop (off+v.cells.length)) (a.take off++(ρ x).cells.toList++a.drop (off+v.cells.length)) :=
        ((g.take off).app b).app (g.drop _)
       have⟨cout,t,u⟩:=ih l vs pl out hr s _ _ h d;refine⟨cout,?_,u⟩;simp only[jw,Instr.fill,f];rw[qt (by simp only[CP];rw[j];rw[<-we]at j;simp;omega)];rw[<-t];congr 1;have m:=xl3 off (ρ x).cells a (by rw[<-we];omega);rw[show v.cells.length=(ρ x).cells.size from by rw[<-we];omega];exact m
      .cases d
def xmo(parts:Array (Nat×N0)):(parts.map λ(p:Nat×N0)=>(p.1,ρ p.2)).toList=parts.toList.map λ p=>(p.1,ρ p.2):=by simp
def xa3(fs:Array Field)(a:∀f∈fs,∃n,bR P f.type=B1 n) :
 ∃pl:Array (Nat×Nat),(fs.mapM λ(f:Field)=>(do pure (f.offset,<-sizeOf f.type):Sem (Nat×Nat))).run P w=.ok pl w /\ ∀i:Nat,pl[i]? = NZ P fs i:=by
 have key:∀l:List Field,(∀f∈l,∃n,bR P f.type=B1 n) ->
  ∃pl:List (Nat×Nat),(l.mapM λ(f:Field)=>(do pure (f.offset,<-sizeOf f.type):Sem (Nat×Nat))).run P w=.ok pl w /\ ∀i:Nat,pl[i]? = (l[i]?).bind λ(f:Field)=>(bR P f.type).bind λ n=>B1 (f.offset,n):=by
  intro l
  induction l with
  |nil=>intro _;exact⟨[],by simp,by simp⟩
  |cons f l ih =>
   intro hl;have⟨n,hn⟩:=hl f (by simp);have⟨pl,b,c⟩:=ih (λ g hg=>hl g (by simp[hg]));refine⟨(f.offset,n)::pl,?_,λ i=>?_⟩
   .simp only[List.mapM_cons,Nn,uO hn,N8,Q1,b]
   .cases i with
    |zero=>simp[hn]
    |succ i=>simpa using c i
 have⟨pl,b,c⟩:=key fs.toList (λ f d=>a f (by simpa using d));refine⟨pl.toArray,?_,λ i=>?_⟩
 .rw [Array.mapM_eq_mapM_toList];simp only[Sem.run_map,b,N8]
 .simp [NZ,c i]
def qye{o:Qa}{t:Ma}{parts:Array (Nat×N0)}{z:AV}{fs:Array Field}{c:List (Nat×Nat)}(ho:o.op=.build t parts)(y:zeroOf P t=B1 z)
 (x:P.underlying t=B1 (.struct fs)) (a:∀f∈fs,∃n,bR P f.type=B1 n) (hp:Dy (NZ P fs) parts.toList=B1 c):di P o (parts.toList.map (·.2)) (Op.build z.cells c):=by
 intro D θ ρ w vs v h b;have⟨zc,j,l⟩:=Mv (w:=w) y;have⟨pl,r,s⟩:=xa3 (w:=w) fs a;unfold Op.build at b;cases d:jG z.cells c vs with
 |none=>rw[d]at b;cases b
 |some out =>
  rw[d]at b;cases b;have q:bL D θ vs (parts.toList.map λ p=>ρ p.2):=by simpa[wv,Function.comp_def]using h
  have⟨cout,m,u⟩:=YI (ρ:=ρ) c vs parts.toList (NZ P fs) out hp q z.cells zc.cells.toList (l D θ).cells d;refine⟨.agg cout.toArray,.inl ?_,VR.agg u⟩;have g:(λ i=>pl[i]?)=NZ P fs:=funext s;simp only[execOp,ho,Instr.build,Nn,j,N8,yd x,r,g];have e:(parts.map λ(p:Nat×N0)=>(p.1,ρ p.2)).toList=parts.toList.map λ p=>(p.1,ρ p.2):=by simp
  simp only[Q4]at m;simp[m]
def q0z{o:Qa}{t e:Ma}{parts:Array (Nat×N0)}{z:AV}{len n:Nat}{b:List (Nat×Nat)}(ho:o.op=.build t parts)(r:zeroOf P t=B1 z)
 (q:P.underlying t=B1 (.array len e)) (hn:bR P e=B1 n) (hp:Dy (Mm n) parts.toList=B1 b):di P o (parts.toList.map (·.2)) (Op.build z.cells b):=by
 intro D θ ρ w vs v h a;have⟨zc,f,g⟩:=Mv (w:=w) r;unfold Op.build at a;cases c:jG z.cells b vs with
 |none=>rw[c]at a;cases a
 |some out =>
  rw[c]at a;cases a;have l:bL D θ vs (parts.toList.map λ p=>ρ p.2):=by simpa[wv,Function.comp_def]using h
  have⟨cout,j,m⟩:=YI (ρ:=ρ) b vs parts.toList (Mm n) out hp l z.cells zc.cells.toList (g D θ).cells c;refine⟨.agg cout.toArray,.inl ?_,VR.agg m⟩;simp only[execOp,ho,Instr.build,Nn,f,N8,yd q,uO hn];have e:(parts.map λ(p:Nat×N0)=>(p.1,ρ p.2)).toList=parts.toList.map λ p=>(p.1,ρ p.2):=by simp
  simp only[Q4]at j;have d:(λ i=>B1 (i*n,n))=Mm n:=rfl;simp[d,j]
end
end Go.Am
namespace Go.Am
section
variable{P:Kc}{D:Nat->Prop}{θ:Th}{ρ:N0->Km}{w:Nl}
def ng(D:Nat->Prop)(θ:Th)(ρ:N0->Km):Option N0->Option AV->Prop
 |none,a=>a=B5
 |some x,a=>∃v,a=B1 v/\VR D θ v (ρ x)
def Tq:∀(opts:List (Option N0))(pre rest:List AV),bL D θ rest ((kH opts).map ρ) -> ∀(j:Nat)(o:Option N0)(idx:Option Nat),opts[j]? = B1 o->(gI pre.length opts)[j]? = B1 idx ->
 ∀a,arg (pre++rest) idx=B1 a->ng D θ ρ o a
 |[],pre,rest,h,j,o,idx,ho,hi,a,ha=>by simp at ho
 |none::opts,pre,rest,h,j,o,idx,ho,hi,a,ha=>by
  cases j with
  |zero =>
   simp only[gI,jb,qk]at ho hi;subst ho;subst hi;simp only[arg,qk]at ha;exact ha.symm
  |succ j=>exact Tq opts pre rest h j o idx (by simpa using ho) (by simpa[gI]using hi) a ha
 |some x::opts,pre,rest,h,j,o,idx,ho,hi,a,ha=>by
  cases rest with
  |nil=>have:=h.length;simp[kH]at this
  |cons v rest =>
   have⟨c,cs,b,d,f⟩:=h.eC;simp only[kH,jw,zx]at b;obtain⟨rfl,rfl⟩:=b;cases j with
   |zero =>
    simp only[gI,jb,qk]at ho hi;subst ho;subst hi;simp only[arg,kE]at ha;rw[zu (qm _)]at ha;simp at ha;exact⟨v,ha.symm,d⟩
   |succ j =>
    refine Tq opts (pre ++ [v]) rest f j o idx (by simpa using ho) (by simpa[gI]using hi) a ?_
    simpa using ha
def YY{o:Option N0}{a:Option AV}{d mx r:Nat}(h:ng D θ ρ o a)(hb:bound a d mx=B1 r) :
 (match o with
  |none=>r=d
  |some x=>(∀code y,mx<=y->(Instr.sliceBound (ρ x) y code).run P w=.ok r w)/\r<=mx):=by
 cases o with
 |none =>
  simp only[ng]at h;subst h;simp only[bound,qk]at hb;exact hb.symm
 |some x =>
  obtain⟨v,rfl,g⟩:=h;unfold bound at hb;split at hb
  .rename_i heq;cases heq
  .rename_i k i heq;cases heq;cases hle:Ow i mx<;>rw[hle]at hb
   .cases hb
   .injection hb with hb;subst hb
    have b:i<=mx:=by simpa[sH]using hle
    refine⟨λ code y j=>?_,b⟩;have c:(0:Int)<=(i:Int)/\(i:Int)<=(y:Int):=by omega
    have f:i<=y:=by omega
    simp[Instr.sliceBound,<-g.now,aw,asIntOf,c]
  .cases hb
def PC{lo i mx:Option N0}{a b m:Option AV}{o:Bool}{len cap low M Y h l:Nat}(ha:ng D θ ρ lo a)(hb:ng D θ ρ i b)(hm:ng D θ ρ mx m)
 (p:(mx=B5/\M=cap) \/ ∃d,bound m d low=B1 M/\low<=cap/\mx.isSome=B4) (j:Y<=M) (q:bound b len Y=B1 h) (hl:bound a 0 h=B1 l) (n:mx.isSome=B4->i.isSome=B4) :
 (B7 o len cap (lo.map ρ) (i.map ρ) (mx.map ρ)).run P w=.ok (l,h,M) w:=by
 have e2:=YY (P:=P) (w:=w) hb q;have c:=YY (P:=P) (w:=w) ha hl;cases mx with
 |none =>
  obtain⟨_,rfl⟩|⟨_,_,_,g⟩:=p
  .cases i with
   |none =>
    simp only at e2;subst e2;cases lo with
    |none=>simp only at c;subst c;simp[B7]
    |some x=>simp[B7,c.1 _ _ (qm _)]
   |some y =>
    cases lo with
    |none=>simp only at c;subst c;simp[B7,e2.1 _ _ j]
    |some x=>simp[B7,e2.1 _ _ j,c.1 _ _ (qm _)]
  .cases g
 |some z =>
  obtain⟨g,_⟩|⟨d,g,f,_⟩:=p
  .cases g
  .have e1:=YY (P:=P) (w:=w) hm g;cases i with
   |none=>simp at n
   |some y =>
    cases lo with
    |none=>simp only at c;subst c;simp[B7,e1.1 _ _ f,e2.1 _ _ j]
    |some x=>simp[B7,e1.1 _ _ f,e2.1 _ _ j,c.1 _ _ (qm _)]
def xh6(v:AV)(d a:Nat){mx:Nat}:bound (B1 v) d mx=bound (B1 v) a mx:=by
 cases v<;>try rfl
 rename_i k n;cases n<;>rfl
def JU{o:Option N0}{a:Option AV}{d mx r:Nat}(h:ng D θ ρ o a)(hb:bound a d mx=B1 r)(b:d<=mx):r<=mx:=by
 cases o with
 |none=>simp only[ng]at h;subst h;simp only[bound,qk]at hb;omega
 |some x =>
  obtain⟨v,rfl,c⟩:=h;unfold bound at hb;split at hb
  .rename_i heq;cases heq
  .rename_i k i heq;cases hle:Ow i mx<;>rw[hle]at hb
   .cases hb
   .cases hb;simpa[sH]using hle
  .cases hb
def ζ(lo a mx:Option N0):∃i j k,gI 0 [lo,a,mx]=[i,j,k]:=by cases lo<;>cases a<;>cases mx<;>simp[gI]
def q8q{size:Nat}{x:AV}{c:Km}{lo C mx:Option N0}{a b m:Option AV}{v:AV}(J:VR D θ x c)(ha:ng D θ ρ lo a)(hb:ng D θ ρ C b)(hm:ng D θ ρ mx m)(f:dv size x a b m=B1 v) :
 ∃ad len cap l h M,c=.slice ad len cap/\(∀p,(B7 p len cap (lo.map ρ) (C.map ρ) (mx.map ρ)).run P w=.ok (l,h,M) w) /\
  VR D θ v (.slice (if M=l then ad else ad.map (·.add (l*size))) (h-l) (M-l)):=by
 have hr:=J.now;unfold dv at f;split at f
 .-- nil
  split at f
  .rename_i Y;cases g:bound b 0 0 with
   |none=>rw[g]at f;cases f
   |some h =>
    rw[g]at f;simp only[qr]at f;cases hl:bound a 0 h with
    |none=>rw[hl]at f;cases f
    |some l =>
     rw[hl]at f;cases f;have t:mx=none:=by
      cases mx with
      |none=>rfl
      |some z=>have⟨_,q,_⟩:=hm;cases q
     subst t;have L:h=0/\l=0:=by
      have u:=JU hb g (qm _);have Z:=JU ha hl (x9 _);omega
     obtain⟨rfl,rfl⟩:=L;refine⟨B5,0,0,0,0,0,hr.symm,λ p=>PC (low:=0) ha hb hm (.inl ⟨rfl,rfl⟩) (qm _) g hl (by simp),λ θ' _=>by simp[aw]⟩
  .cases f
 .-- a slice of a known capacity
  rename_i bb oo n B;split at f
  .cases f
  .rename_i U;cases A:bound m B B with
   |none=>rw[A]at f;cases f
   |some M =>
    rw[A]at f;simp only[qr]at f;cases g:bound b n M with
    |none=>rw[g]at f;cases f
    |some h =>
     rw[g]at f;simp only[qr]at f;cases hl:bound a 0 h with
     |none=>rw[hl]at f;cases f
     |some l =>
      rw[hl]at f;cases f;have V:mx.isSome=B4->C.isSome=true:=by
       intro q;cases mx with
       |none=>cases q
       |some z =>
        have⟨_,W,_⟩:=hm;cases C with
        |some _=>rfl
        |none=>simp only[ng]at hb;subst hb;exact absurd (U _ W) (by simp)
      have N:(mx=B5/\M=B) \/ ∃d,bound m d B=B1 M/\B<=B/\mx.isSome=true:=by
       cases mx with
       |none=>simp only[ng]at hm;subst hm;simp only[bound,qk]at A;exact .inl ⟨rfl,A.symm⟩
       |some z=>exact .inr ⟨B,A,qm _,rfl⟩
      refine⟨_,n,B,l,h,M,hr.symm,λ p=>PC ha hb hm N (qm _) g hl V,λ θ' hg=>?_⟩;have j:=J θ' hg;rw[<-hr]at j;simp only[aw,AZ,qk,BK]at j⊢
      by_cases e:M=l
      .subst e;simp[Nat.beq_refl]<;>omega
      .have e':J3 M l=false:=by rw[Bool.eq_false_iff];simpa[jv]using e
       rw[e'];simp[e,zD]<;>omega
 .-- a grown row's slice
  rename_i bb i E s alt n;cases O:(J3 s size && Ow i E)<;>rw[O]at f
  .cases f
  .simp only[zd,jv,sH]at O;obtain⟨rfl,him⟩:=O;simp only[xw]at f;split at f
   .-- no third bound
    rename_i hi';have t:mx=none:=by
     cases mx with
     |none=>rfl
     |some z=>have⟨_,q,_⟩:=hm;cases q
    subst t;cases g:bound b n (E-i)with
    |none=>rw[g]at f;cases f
    |some h =>
     rw[g]at f;simp only[qr]at f;cases hl:bound a 0 h with
     |none=>rw[hl]at f;cases f
     |some l =>
      rw[hl]at f;simp only[qr]at f;cases r:Ow h (E-i)<;>rw[r]at f
      .cases f
      .cases f;have hhm:h<=E-i:=by simpa[sH]using r
       have R:=JU ha hl (x9 _);refine⟨_,n,_,l,h,_,hr.symm,λ p=>PC (low:=0) ha hb hm (.inl ⟨rfl,rfl⟩) (Nu _ _) g hl (by simp),λ θ' hg=>?_⟩;have j:=J θ' hg;rw[<-hr]at j;simp only[aw,AZ,qk,BK,sj,BZ]at j;have⟨⟨K,u⟩,Z⟩:=j;have o:θ'.ext bb = θ.ext bb:=by omega
       have hmul:(i+l)*s=i*s+l*s:=yf i l s;simp only[aw,AZ,BZ,o,hmul];refine⟨?_,by omega⟩
       by_cases e:E-i + θ.ext bb=l
       .rw [xb e,xb (by omega)];simp only[qk,BK,sj];refine⟨K,?_⟩;rw[o]at u
        by_cases l0:l=0
        .subst l0;rw[xb e]at u⊢;exact u
        .have:J3 l 0=false:=by rw[Bool.eq_false_iff];simpa[jv]using l0
         rw[this];rw[qt (by omega)]at u⊢;exact u
       .rw [qt e,qt (by omega)];simp only[HI,zD,qk,BK,sj];refine⟨K,?_⟩;rw[o]at u;rw[qt (by omega)]at u⊢;omega
   .cases f
   .-- a third bound
    rename_i G I;cases A:bound m 0 (E-i)with
    |none=>rw[A]at f;cases f
    |some M =>
     rw[A]at f;simp only[qr]at f;cases g:bound b 0 M with
     |none=>rw[g]at f;cases f
     |some h =>
      rw[g]at f;simp only[qr]at f;cases hl:bound a 0 h with
      |none=>rw[hl]at f;cases f
      |some l =>
       rw[hl]at f;simp only[qr]at f;cases r:J3 M l<;>rw[r]at f
       .cases f;have T:M≠l:=by intro e;subst e;simp at r
        obtain⟨z,W,X⟩:∃z,mx=B1 z /\ ∃v,m=B1 v:=by
         cases mx with
         |none=>simp only[ng]at hm;exact absurd hm G
         |some z=>have⟨v,q,_⟩:=hm;exact⟨z,rfl,v,q⟩
        have⟨mv,S⟩:=X;have F:C.isSome=true:=by
         cases C with
         |some _=>rfl
         |none=>simp only[ng]at hb;exact absurd hb (I _ S)
        have hMle:=JU hm A (x9 _);have hhM:=JU hb g (x9 _);have R:=JU ha hl (x9 _);have Q:bound b n M=B1 h:=by
         have⟨y,hy⟩:=Option.isSome_iff_exists.1 F;subst hy;have⟨bv,q,_⟩:=hb;subst q;rw[xh6 bv n 0];exact g
        refine⟨_,n,_,l,h,M,hr.symm,λ p=>PC ha hb hm (.inr ⟨0,A,Nu _ _,by rw[W];rfl⟩) (qm _) Q hl (λ _=>F),λ θ' hg=>?_⟩;have j:=J θ' hg;rw[<-hr]at j;simp only[aw,AZ,qk,BK,sj,BZ]at j;have⟨⟨K,u⟩,Z⟩:=j;have o:θ'.ext bb = θ.ext bb:=by omega
        have hmul:(i+l)*s=i*s+l*s:=yf i l s;simp only[aw,AZ,sj,hmul,qt T,HI,zD,qk,BK];refine⟨K,?_⟩;rw[o,qt (by omega)]at u;rw[qt (by omega)];omega
       .cases f
 .-- a slice without room
  rename_i bb;split at f
  .rename_i Y;cases g:bound b 0 0 with
   |none=>rw[g]at f;cases f
   |some h =>
    rw[g]at f;simp only[qr]at f;cases hl:bound a 0 h with
    |none=>rw[hl]at f;cases f
    |some l =>
     rw[hl]at f;cases f;have t:mx=none:=by
      cases mx with
      |none=>rfl
      |some z=>have⟨_,q,_⟩:=hm;cases q
     subst t;have L:h=0/\l=0:=by
      have u:=JU hb g (qm _);have Z:=JU ha hl (x9 _);omega
     obtain⟨rfl,rfl⟩:=L;refine⟨_,0,0,0,0,0,hr.symm,λ p=>PC (low:=0) ha hb hm (.inl ⟨rfl,rfl⟩) (qm _) g hl (by simp),λ θ' hg=>?_⟩;rw[J θ' hg,<-hr];rfl
  .cases f
 .cases f
def xdd{o:Qa}{t e:Ma}{x:N0}{lo n mx:Option N0}{size:Nat}(ho:o.op=.slice t x lo n mx)(G:P.underlying t=B1 (.slice e))(hs:bR P e=B1 size) :
 di P o (x::kH [lo,n,mx]) (Op.aB size (gI 0 [lo,n,mx])):=by
 intro D θ ρ w vs v h d;have⟨i,j,k,p⟩:=ζ lo n mx;rw[p]at d;unfold Op.aB at d;split at d
 .rename_i I F J y g heq;injection heq with e1 e2;injection e2 with e2 u;injection u with u _;subst e1;subst e2;subst u
  have⟨c,cs,s,z,C⟩:=h.eC;simp only[jw,zx]at s;obtain⟨rfl,rfl⟩:=s;have f:=λ(q:Nat)(B:Option N0)(idx:Option Nat)(s:[lo,n,mx][q]? = B1 B)(z:[i,j,k][q]? = B1 idx)=>Tq [lo,n,mx] [] g C q B idx s (by simpa[p]using z);cases ha:arg g i with
  |none=>rw[ha]at d;cases d
  |some a =>
   rw[ha]at d;simp only[qr]at d;cases hb:arg g j with
   |none=>rw[hb]at d;cases d
   |some b =>
    rw[hb]at d;simp only[qr]at d;cases hm:arg g k with
    |none=>rw[hm]at d;cases d
    |some m =>
     rw[hm]at d;simp only[qr]at d;have⟨ad,len,cap,l,K,M,E,r,A⟩:=q8q (P:=P) (w:=w) z (f 0 lo i rfl rfl a ha) (f 1 n j rfl rfl b hb) (f 2 mx k rfl rfl m hm) d;refine⟨_,.inl ?_,A⟩;simp[execOp,ho,Instr.sliceAt,yd G,Instr.slice,E,r,uO hs]
 .cases d
def xat{o:Qa}{t e:Ma}{x:N0}{lo r mx:Option N0}{n size:Nat}(ho:o.op=.slice t x lo r mx)(O:P.underlying t=B1 (.array n e))(hs:bR P e=B1 size) :
 di P o (x::kH [lo,r,mx]) (Op.cJ n size (gI 0 [lo,r,mx])):=by
 intro D θ ρ w vs v h d;have⟨i,j,k,y⟩:=ζ lo r mx;rw[y]at d;unfold Op.cJ at d;split at d
 .rename_i R N S p A g heq;injection heq with e1 e2;injection e2 with e2 C;injection C with C _;subst e1;subst e2;subst C
  have⟨c,cs,B,u,K⟩:=h.eC;simp only[jw,zx]at B;obtain⟨rfl,rfl⟩:=B;have f:=λ(q:Nat)(F:Option N0)(idx:Option Nat)(B:[lo,r,mx][q]? = B1 F)(u:[i,j,k][q]? = B1 idx)=>Tq [lo,r,mx] [] g K q F idx B (by simpa[y]using u);cases ha:arg g i with
  |none=>rw[ha]at d;cases d
  |some a =>
   rw[ha]at d;simp only[qr]at d;cases hb:arg g j with
   |none=>rw[hb]at d;cases d
   |some b =>
    rw[hb]at d;simp only[qr]at d;cases hm:arg g k with
    |none=>rw[hm]at d;cases d
    |some m =>
     rw[hm]at d;simp only[qr]at d;have Q:VR D θ (.slice p A n n) (.slice (B1 ⟨θ.b9 p,θ.off p+A,B5⟩) n n):=λ θ' hg=>by
      have:=u θ' hg;rw[<-u.now]at this;simp[aw]at this⊢;omega
     have⟨ad,len,cap,l,T,M,L,z,E⟩:=q8q (P:=P) (w:=w) Q (f 0 lo i rfl rfl a ha) (f 1 r j rfl rfl b hb) (f 2 mx k rfl rfl m hm) d;injection L with G I J;subst G;subst I;subst J
     refine⟨_,.inl ?_,E⟩;have s:=z B2;simp only[execOp,ho,Instr.sliceAt,Nn,yd O,N8,<-u.now,aw,C6,Q1,s,uO hs]
     by_cases e:M=l<;>simp[e]
 .cases d
def J_{mx:Bool}{k:Pl}:∀(l:List AV)(cs:List Km)(a r:Int),bL D θ l cs->Op.gP mx a l=B1 r ->
 (cs.foldlM (λ x y=>if mx then Builtin.max2 x y else Builtin.min2 x y) (Km.int k a)).run P w=.ok (.int k r) w
 |[],cs,a,r,h,hg=>by
  have:=h.my;subst this;simp only[Op.gP,qk]at hg;subst hg;simp
 |v::l,cs,a,r,h,hg=>by
  obtain⟨c,cs',rfl,g,hl⟩:=h.eC;cases v with
  |int k' b =>
   simp only[Op.gP]at hg;have d:=J_ (mx:=mx) (k:=k) l cs' _ r hl hg;have f:=g.now;simp only[aw]at f;subst f;simp only[JM]at d;have s1:(Builtin.min2 (.int k a) (.int k' b)).run P w=.ok (.int k (if b<a then b else a)) w:=rfl;have s2:(Builtin.max2 (.int k a) (.int k' b)).run P w=.ok (.int k (if b > a then b else a)) w:=rfl;cases mx
   .simp only[List.foldlM_cons,zw,vk,Nn,s1,N8];simp only[zw,vk,zm]at d
    by_cases q:b<a
    .simp only[q,Nd,xw,oO]at d⊢;exact d
    .simp only[q,F7,zm,vk]at d⊢;exact d
   .simp only[List.foldlM_cons,oO,Nn,s2,N8];simp only[oO,xw]at d
    by_cases q:a<b
    .have i:b > a:=q;simp only[q,Nd,xw,oO]at d⊢;exact d
    .have i:¬b > a:=q;simp only[q,F7,zm,vk]at d⊢;exact d
  |_=>simp[Op.gP]at hg
def xfl{o:Qa}{c:Call}{xs:List N0}{mx:Bool}(ho:o.op=.call c)(m:c.callee=.builtin (if mx then .max else .min))(n:c.args.toList=xs):di P o xs (Op.eB mx):=by
 intro D θ ρ w vs v h d;have⟨consts,he⟩:=L7 (ρ:=ρ) ho m;unfold Op.eB at d;split at d
 .rename_i k a l;cases hg:Op.gP mx a l with
  |none=>rw[hg]at d;cases d
  |some r =>
   rw[hg]at d;cases d;have⟨p,cs',g,i,j⟩:=h.eC;have b:=J_ (P:=P) (w:=w) (k:=k) l cs' a r j hg;have f:=i.now;simp only[aw]at f;subst f;refine⟨.int k r,.inl ?_,.int _ _⟩;rw[he,AL n,g];cases mx
   .simp only[zw,vk]at b⊢;simp[builtin,Builtin.min_,b]
   .simp only[oO]at b⊢;simp[builtin,Builtin.max_,b]
 .cases d
def DR{o:Qa}{c:Call}{f:FuncId}{fn:Func}{e:Array Km->Sem Km}(ho:o.op=.call c)(d:c.callee=.value (.func f))(h:ρ (.func f)=.func (.func f) #[] #[])(g:P.funcs[f]? = B1 fn)(hb:fn.body=B5)
 (hn:fn.name≠ "runtime.NumGoroutine") (a:Extern.findNext fn=B5) (b:Extern.find fn=B1 e) :
 (execOp ρ o).run P w=((e (c.args.map ρ)).run P w).andThen λ v w'=>.ok (.value v) w':=by
 simp[execOp,ho,resolve,d,h,Bb,invoke,callFunc,g,hb,hn,a,b]
def xeg(s:List UInt8):(Extern.Bytes.bytesOf (.string ⟨s.toArray⟩)).run P w=.ok ⟨s.toArray⟩ w:=rfl
def xh3(n:Int):(Extern.Bytes.asByte (.int .u8 n)).run P w=.ok (BP n.toNat) w:=rfl
def xeu(c:UInt8)(s:List UInt8)(k:Nat):Hk c s k=((N1 s.length).find? λ i=>s[i]! == c).map (·+k):=by
 induction s generalizing k with
 |nil=>rfl
 |cons x s ih =>
  simp only[Hk,YB,zq];rw[List.range_succ_eq_map,List.find?_cons];have hm:(List.find? (λ i=>(x::s)[i]! == c) (List.map Nat.succ (N1 s.length)))=((N1 s.length).find? λ i=>s[i]! == c).map Nat.succ:=by
   rw[List.find?_map];rfl
  rw[hm,ih (k+1)];have a:(x::s)[0]! = x:=rfl;rw[a];cases h:(x == c)
  .simp only[zm,Option.map_map];congr 1;funext i;simp;omega
  .simp
def yC(s:List UInt8)(i:Nat):(⟨s.toArray⟩:ByteArray)[i]! = s[i]!:=by
 by_cases h:i<s.length
 .have a:i<(⟨s.toArray⟩:ByteArray).size:=by rw[Mx];exact h
  rw[getElem!_pos (⟨s.toArray⟩:ByteArray) i a,getElem!_pos s i h];rfl
 .have a:¬i<(⟨s.toArray⟩:ByteArray).size:=by rw[Mx];exact h
  rw[getElem!_neg (⟨s.toArray⟩:ByteArray) i a,getElem!_neg s i h]
def xcc{P:Kc}{w:Nl}(s:List UInt8)(n:Int):(Extern.BytealgIndexByte.indexByte #[.string ⟨s.toArray⟩,.int .u8 n]).run P w =
 .ok (match(N1 s.length).find? (λ i=>s[i]! == BP n.toNat)with|some i=>goInt i|none=>goInt (-1)) w:=by
 change Sem.run P (Extern.Bytes.bytesOf (.string ⟨s.toArray⟩) >>= _) w=_;rw[Nn,xeg];change Sem.run P (Extern.Bytes.asByte (.int .u8 n) >>= _) w=_;rw[Nn,xh3];have a:(λ i=>(⟨s.toArray⟩:ByteArray)[i]! == BP n.toNat)=(λ i=>s[i]! == BP n.toNat):=funext λ i=>by rw[yC]
 simp only[N8,Mx,a];cases(N1 s.length).find? (λ i=>s[i]! == BP n.toNat)<;>rfl
def qso{o:Qa}{c:Call}{f:FuncId}{fn:Func}{xs:List N0}(ho:o.op=.call c)(l:c.callee=.value (.func f))(m:P.funcs[f]? = B1 fn)(hb:fn.body=B5)
 (hn:fn.name≠ "runtime.NumGoroutine") (g:Extern.findNext fn=B5) (j:Extern.find fn=B1 Extern.BytealgIndexByte.indexByte) (p:c.args.toList=xs) :
 ∀(D:Nat->Prop)θ(ρ:N0->Km)w vs v,ρ (.func f)=.func (.func f) #[] #[]->bL D θ vs (xs.map ρ)->Op.aF vs=B1 v -> ∃c,td P (execOp ρ o) w c w/\VR D θ v c:=by
 intro D θ ρ w vs v q h a;unfold Op.aF at a;split at a
 .rename_i s n;obtain⟨x,y,rfl,ha,b⟩:=h.rJ;cases a;refine⟨_,.inl ?_,.int _ _⟩;rw[DR ho l q m hb hn g j,AL p];have d:(λ i=>(⟨s.toArray⟩:ByteArray)[i]! == BP n.toNat)=(λ i=>s[i]! == BP n.toNat):=funext λ i=>by rw[yC]
  simp only[jw,AE,<-ha.now,<-b.now,aw,xcc,N8];rw[xeu];cases r:(N1 s.length).find? (λ i=>s[i]! == BP n.toNat)<;>simp[goInt]
 .cases a
def xmr{o:Qa}(xs:List N0):di P o xs Op.fail:=by
 intro D θ ρ w vs v _ a;cases a
end
end Go.Am
namespace Go.Am
def rO(P:Kc)(o:Qa)(xs:List N0)(f:List AV->ar->Option AV):Prop :=
 ∀(base:Nat)(D:Nat->Prop)θ H(ρ:N0->Km)w vs v,HR P base D θ H w->bL D θ vs (xs.map ρ)->f vs H=B1 v -> ∃c,td P (execOp ρ o) w c w/\VR D θ v c
section
variable{P:Kc}
def xje{o:Qa}{t:Ma}{x:N0}(ho:o.op=.load t x)(j:oi P t=B1 B5):rO P o [x] Op.ae:=by
 intro base D θ H ρ w vs v i h a;unfold Op.ae at a;split at a
 .rename_i b off;have⟨l,he,ha⟩:=h.qB;simp only[zx,sj]at he;subst he;have⟨c,f,g⟩:=i.ae a;refine⟨c,.inl ?_,g⟩;have⟨d,_⟩:=TO (w:=w) j;simp only[execOp,ho,<-ha.now,aw,Instr.loadAt,C6,loadVar,Nn,Q1,N8,d,LZ,zw,vk,f]
 .cases a
def xjf{o:Qa}{t:Ma}{x:N0}{n:Nat}(ho:o.op=.load t x)(j:oi P t=B1 (B1 n)):rO P o [x] (Op.av n):=by
 intro base D θ H ρ w vs v i h a;unfold Op.av at a;split at a
 .rename_i b off;have⟨m,he,ha⟩:=h.qB;simp only[zx,sj]at he;subst he;cases hl:H.av b off n with
  |none=>rw[hl]at a;cases a
  |some l =>
   rw[hl]at a;cases a;have⟨cs,f,g,_⟩:=i.av hl;refine⟨.agg cs.toArray,.inl ?_,.agg g⟩;have⟨c,d⟩:=TO (w:=w) j;simp only[execOp,ho,<-ha.now,aw,Instr.loadAt,C6,loadVar,Nn,Q1,N8,c,d n rfl,vx,oO,f]
 .cases a
def HR.eW{base:Nat}{D:Nat->Prop}{θ:Th}{H:ar}{w:Nl}(h:HR P base D θ H w){b:Nat}{m:List (AV×AV×Nat)×Nat}(hb:H.eW b=B1 m) :
 H.get b=B1 (.map m.1 m.2)/\D b /\ ∃ms:List Bk,w.heap[θ.b9 b]? = B1 (.map ms.toArray m.2)/\dp D θ m.1 ms:=by
 unfold ar.eW at hb;cases hg:H.get b with
 |none=>rw[hg]at hb;cases hb
 |some o =>
  rw[hg]at hb;have⟨f,co,d,hr⟩:=h.obj b o hg;cases o<;>simp only[reduceCtorEq,qk]at hb;subst hb;have⟨ms,a,c⟩:=hr;exact⟨rfl,f,ms,by rw[d,a],c⟩
def MD{w:Nl}{r:Nat}{ms:Array Bk}{c:Nat}(h:w.heap[r]? = B1 (.map ms c)):(getObj r).run P w=.ok (.map ms c) w:=by
 simp[getObj,Sem.run,h]
def dp.length{D:Nat->Prop}{θ:Th}:∀(es:List (AV×AV×Nat))(ms:List Bk),dp D θ es ms->es.length=ms.length
 |[],[],_=>rfl
 |_::es,_::ms,⟨_,h⟩=>by simp[dp.length es ms h]
 |[],_::_,h=>h.elim
 |_::_,[],h=>h.elim
def VR.isAgg{D:Nat->Prop}{θ:Th}{l:List AV}{c:Km}(h:VR D θ (.agg l) c):∃cs:List Km,c=.agg cs.toArray/\bL D θ l cs:=h.fp
def xes{t:Ma}{fs:Array Field}(h:P.underlying t=B1 (.struct fs)):P.fieldsOf t=fs:=by
 simp[Kc.fieldsOf,h]
def xie{x y:AV}{r:Bool}(h:aV .int x y=B1 r):∃k a b,x=.int k a/\y=.int k b/\r=(a == b):=by
 cases x<;>cases y<;>simp only[aV,reduceCtorEq]at h;rename_i k a k' b;cases hk:rT k k' with
 |false=>rw[hk]at h;cases h
 |true =>
  rw[hk]at h;simp only[xw,qk]at h;have:k=k':=by simpa[TZ]using hk
  subst this;exact⟨k,a,b,rfl,rfl,by rw[<-h,EA]⟩
def xif{x y:AV}{r:Bool}(h:aV .str x y=B1 r):∃a b,x=.str a/\y=.str b/\r=(a == b):=by
 cases x<;>cases y<;>simp only[aV,reduceCtorEq,qk]at h;exact⟨_,_,rfl,rfl,by rw[<-h,Kn]⟩
def xer{x y:AV}{r:Bool}(h:aV .bool x y=B1 r):∃a b,x=.bool a/\y=.bool b/\r=(a == b):=by
 cases x<;>cases y<;>simp only[aV,reduceCtorEq,qk]at h;exact⟨_,_,rfl,rfl,h.symm⟩
def Tv{off:Nat}{n:Option Nat}{t rest:aR}{x y:AV}{r:Bool}(h:aV (.part off n t rest) x y=B1 r) :
 ∃l c a b q,x=.agg l/\y=.agg c/\partAt l off n=B1 a/\partAt c off n=B1 b/\aV t a b=B1 q/\(q=B4->aV rest (.agg l) (.agg c)=B1 r)/\(q=B2->r=B2):=by
 cases x<;>cases y<;>simp only[aV,reduceCtorEq]at h;rename_i l c;simp only[qj]at h;have⟨a,ha,b,hb,q,d,h⟩:=h;refine⟨l,c,a,b,q,rfl,rfl,ha,hb,d,λ e=>?_,λ e=>?_⟩
 .subst e;exact h
 .subst e;simpa using h.symm
def TT{x y:AV}{r:Bool}(h:aV .nil x y=B1 r):r=B4/\(∃l,x=.agg l)/\(∃l,y=.agg l):=by
 cases x<;>cases y<;>simp only[aV,reduceCtorEq,qk]at h;exact⟨h.symm,⟨_,rfl⟩,⟨_,rfl⟩⟩
def q78(s:Nat)(a:Option Nat)(q:aR)(n i:Nat){x y:AV}{r:Bool}(h:aV (dC.itemsT s a q n i) x y=B1 r):(∃l,x=.agg l)/\(∃l,y=.agg l):=by
 cases n with
 |zero=>exact(TT h).2
 |succ n=>have⟨l,d,_,_,_,b,c,_⟩:=Tv h;exact⟨⟨l,b⟩,⟨d,c⟩⟩
def q4g{go:Ma->Option aR}{fs:List Field}{q:aR}(b:dC.fieldsT P go fs=B1 q){x y:AV}{r:Bool}(h:aV q x y=B1 r):(∃l,x=.agg l)/\(∃l,y=.agg l):=by
 cases fs with
 |nil=>cases b;exact(TT h).2
 |cons f fs =>
  simp only[dC.fieldsT]at b;split at b
  .cases b
  .simp only[qj]at b;have⟨a,_,i,_,j,_,b⟩:=b;cases b;have⟨l,g,_,_,_,c,d,_⟩:=Tv h;exact⟨⟨l,c⟩,⟨g,d⟩⟩
def Bl(P:Kc)(w:Nl)(D:Nat->Prop)(θ:Th)(m:Nat)(t:Ma)(q:aR):Prop :=
 ∀(x y:AV)(cx cy:Km)(r:Bool),VR D θ x cx->VR D θ y cy->aV q x y=B1 r->(B8 m t cx cy).run P w=.ok r w
def qzc{w:Nl}{D:Nat->Prop}{θ:Th}{m:Nat}{go:Ma->Option aR}(o:∀t q,go t=B1 q->Bl P w D θ m t q){l p:List AV}{cs cs':List Km}(hl:bL D θ l cs)(d:bL D θ p cs') :
 ∀(fs:List Field)(q:aR)(r:Bool),dC.fieldsT P go fs=B1 q->aV q (.agg l) (.agg p)=B1 r->(Op.eqFields m cs.toArray cs'.toArray fs).run P w=.ok r w
 |[],q,r,b,h=>by
  cases b;rw[(TT h).1];simp[Op.eqFields]
 |f::fs,q,r,b,h=>by
  simp only[dC.fieldsT]at b;split at b
  .cases b
  .rename_i hn;simp only[qj]at b;have⟨a,ha,G,j,I,n,b⟩:=b;cases b;have⟨l1,l2,x,y,e,g,i,u,v,z,A,B⟩:=Tv h;injection g with g;injection i with i;subst g;subst i
   have⟨c,C,v1⟩:=M9 (w:=w) ha hl u;have⟨s,E,v2⟩:=M9 (w:=w) ha d v;have F:=o f.type G j x y c s e v1 v2 z;simp only[Op.eqFields,hn,ne_eq,not_false_eq_true,oO,Nn,C,E,F,N8];cases e
   .simp [B rfl]
   .simpa using qzc o hl d fs I r n (A rfl)
def _S{w:Nl}{D:Nat->Prop}{θ:Th}{m:Nat}{e:Ma}{s:Nat}{a:Option Nat}{q:aR}(ha:oi P e=B1 a)(j:Bl P w D θ m e q){l o:List AV}{cs cs':List Km}(hl:bL D θ l cs)(d:bL D θ o cs') :
 ∀(n i:Nat)(r:Bool),aV (dC.itemsT s a q n i) (.agg l) (.agg o)=B1 r->(Op.eqItems m e s cs.toArray cs'.toArray (List.range' i n)).run P w=.ok r w
 |0,i,r,h=>by rw[(TT h).1];simp[Op.eqItems]
 |n+1,i,r,h=>by
  have⟨l1,l2,x,y,b,f,g,t,u,v,z,A⟩:=Tv h;injection f with f;injection g with g;subst f;subst g
  have⟨c,B,v1⟩:=M9 (w:=w) ha hl t;have⟨p,C,v2⟩:=M9 (w:=w) ha d u;have E:=j x y c p b v1 v2 v;simp only[List.range'_succ,Op.eqItems,Nn,B,C,E,N8];cases b
  .simp [A rfl]
  .simpa using _S ha j hl d n (i+1) r (z rfl)
def Tl(m:Nat){D:Nat->Prop}{θ:Th}(w:Nl):∀(d:Nat)(t:Ma)(q:aR),dC P d t=B1 q->Bl P w D θ (d+m) t q
 |0,_,_,h=>by cases h
 |d+1,t,q,h=>by
  intro x y G I r g j hr;unfold dC at h;have A:d+1+m=(d+m)+1:=by omega
  rw[A];cases hu:P.underlying t with
  |none=>rw[hu]at h;cases h
  |some kd =>
   rw[hu]at h;cases kd
   case int k0 =>
    cases h;obtain⟨k,a,b,rfl,rfl,rfl⟩:=xie hr;rw[<-g.now,<-j.now,aw,aw,run_equalIn_int w _ t k k0 a b hu]
   case string =>
    cases h;obtain⟨a,b,rfl,rfl,rfl⟩:=xif hr;rw[<-g.now,<-j.now,aw,aw,run_equalIn_string w _ t _ _ hu,_V,_V]
   case bool =>
    cases h;obtain⟨a,b,rfl,rfl,rfl⟩:=xer hr;rw[<-g.now,<-j.now,aw,aw,run_equalIn_bool' w _ t _ _ hu]
   case struct fs =>
    simp only at h;split at h
    .cases h
    .rename_i u;have f:P.stoodInHeld t=false:=by simpa using u
     obtain⟨⟨l,rfl⟩,⟨E,rfl⟩⟩:=q4g h hr;obtain⟨cs,rfl,hl⟩:=g.fp;obtain⟨cs',rfl,c⟩:=j.fp;have v:=xes hu;rw[run_equalIn_struct w _ t _ _ (by rw[v];exact hu) f,v];exact qzc (λ t q C=>Tl m w d t q C) hl c _ _ _ h hr
   case array n e =>
    simp only[qj]at h;have⟨s,hs,a,ha,F,p,h⟩:=h;cases h;obtain⟨⟨l,rfl⟩,⟨E,rfl⟩⟩:=q78 _ _ _ _ _ hr;obtain⟨cs,rfl,hl⟩:=g.fp;obtain⟨cs',rfl,c⟩:=j.fp;have⟨i,z,o⟩:=qzh hs;rw[run_equalIn_array _ _ _ _ hu z,List.range_eq_range'];have B:P.cellsOf e=s:=by simp[Kc.cellsOf,z,o]
    rw[B];exact _S ha (Tl m w d e F p) hl c n 0 r hr
   all_goals (cases h)
def TF{off:Nat}{n:Option Nat}{t rest:aR}{x:AV}(h:cH (.part off n t rest) x=B4) :
 ∃l a,x=.agg l/\partAt l off n=B1 a/\cH t a=B4/\cH rest (.agg l)=true:=by
 cases x<;>simp only[cH,zw]at h;rename_i l;split at h
 .rename_i a ha;cases b:cH t a with
  |false=>rw[b]at h;cases h
  |true=>rw[b]at h;exact⟨l,a,rfl,ha,b,h⟩
 .cases h
def _6{x:AV}(h:cH .nil x=B4):∃l,x=.agg l:=by
 cases x<;>simp only[cH,zw]at h;exact⟨_,rfl⟩
def xfi(s:Nat)(a:Option Nat)(q:aR)(n i:Nat){x:AV}(h:cH (dC.itemsT s a q n i) x=B4):∃l,x=.agg l:=by
 cases n with
 |zero=>exact _6 h
 |succ n=>have⟨l,_,b,_⟩:=TF h;exact⟨l,b⟩
def xc0{go:Ma->Option aR}{fs:List Field}{q:aR}(b:dC.fieldsT P go fs=B1 q){x:AV}(h:cH q x=B4):∃l,x=.agg l:=by
 cases fs with
 |nil=>cases b;exact _6 h
 |cons f fs =>
  simp only[dC.fieldsT]at b;split at b
  .cases b
  .simp only[qj]at b;have⟨a,_,d,_,g,_,b⟩:=b;cases b;have⟨l,_,c,_⟩:=TF h;exact⟨l,c⟩
def Kd(P:Kc)(w:Nl)(D:Nat->Prop)(θ:Th)(em:Bool)(m:Nat)(t:Ma)(q:aR):Prop :=
 ∀(x:AV)(cx:Km),VR D θ x cx->cH q x=B4->(Be em m t cx).run P w=.ok () w
def q5u{w:Nl}{D:Nat->Prop}{θ:Th}{em:Bool}{m:Nat}{e:Ma}{s:Nat}{a:Option Nat}{q:aR}(ha:oi P e=B1 a)(hs:bR P e=B1 s)(b:Kd P w D θ em m e q){l:List AV}{cs:List Km}(hl:bL D θ l cs) :
 ∀(n i:Nat),cH (dC.itemsT s a q n i) (.agg l)=B4 ->
  (forIn (List.range' i n) PUnit.unit (λ i _=>(do Be em m e (<-part e cs.toArray (i*(<-sizeOf e)));pure (ForInStep.yield PUnit.unit):Sem (ForInStep PUnit)))).run P w=.ok PUnit.unit w
 |0,i,h=>by simp
 |n+1,i,h=>by
  have⟨l1,x,d,f,g,j⟩:=TF h;cases d;have⟨c,o,v1⟩:=M9 (w:=w) ha hl f;have p:=b x c v1 g;simp only[List.range'_succ,List.forIn_cons,Nn,uO hs,o,p,N8,Q1]
  simpa using q5u ha hs b hl n (i+1) j
def Wk(em:Bool)(m:Nat){D:Nat->Prop}{θ:Th}(w:Nl):∀(d:Nat)(t:Ma)(q:aR),dC P d t=B1 q->Kd P w D θ em (d+m) t q
 |0,_,_,h=>by cases h
 |d+1,t,q,h=>by
  intro x B j hr;unfold dC at h;have o:d+1+m=(d+m)+1:=by omega
  rw[o];cases hu:P.underlying t with
  |none=>rw[hu]at h;cases h
  |some kd =>
   rw[hu]at h;cases kd
   case int k0=>simp[Be,yd hu]
   case string=>simp[Be,yd hu]
   case bool=>simp[Be,yd hu]
   case struct fs =>
    simp only at h;split at h
    .cases h
    .obtain ⟨l,rfl⟩:=xc0 h hr;obtain⟨cs,rfl,hl⟩:=j.fp;simp only[Be,Nn,yd hu,N8];rw[<-Array.forIn_toList];clear hu;generalize fs.toList=L at h
     induction L generalizing q with
     |nil=>simp
     |cons f L ihL =>
      simp only[dC.fieldsT]at h;split at h
      .cases h
      .rename_i hn;simp only[qj]at h;have⟨a,ha,i,b,A,g,h⟩:=h;cases h;have⟨l1,x,p,r,u,v⟩:=TF hr;cases p;have⟨c,y,v1⟩:=M9 (w:=w) ha hl r;have z:=Wk em m w d f.type i b x c v1 u;simp only[List.forIn_cons,Nn,hn,ne_eq,not_false_eq_true,oO,N8,y,z,Q1];exact ihL A v g
   case array n e =>
    simp only[qj]at h;have⟨s,hs,a,ha,i,b,h⟩:=h;cases h;obtain⟨l,rfl⟩:=xfi _ _ _ _ _ hr;obtain⟨cs,rfl,hl⟩:=j.fp;have:=q5u (w:=w) (em:=em) ha hs (Wk em m w d e i b) hl n 0 hr;simp only[Be,Nn,yd hu,N8];simp only[Std.Legacy.Range.forIn_eq_forIn_range',Std.Legacy.Range.size,Ja,Nat.add_one_sub_one,Nat.div_one];simp at this;simp[this]
   all_goals (cases h)
def VH{em:Bool}{D:Nat->Prop}{θ:Th}{w:Nl}{t:Ma}{q:aR}(h:pU P t=B1 q){x:AV}{a:Km}(b:VR D θ x a)(hr:cH q x=B4) :
 (Be em 10000 t a).run P w=.ok () w:=Wk em 9980 w 20 t q h x a b hr
def Fh{D:Nat->Prop}{θ:Th}{w:Nl}{t:Ma}{q:aR}(h:pU P t=B1 q){x y:AV}{a b:Km}{r:Bool}(c:VR D θ x a)(d:VR D θ y b)(hr:aV q x y=B1 r) :
 (D6 t a b).run P w=.ok r w:=Tl 9980 w 20 t q h x y a b r c d hr
def Jn(D:Nat->Prop)(θ:Th):Option (Nat×AV)->Option (Nat×Km)->Prop
 |none,B5=>True
 |some (i,v),B1 (j,c)=>i=j/\VR D θ v c
 |_,_=>False
def qta{D:Nat->Prop}{θ:Th}{w:Nl}{t:Ma}{q:aR}(h:pU P t=B1 q){k:AV}{d:Km}(hk:VR D θ k d) :
 ∀(es:List (AV×AV×Nat))(ms:List Bk)(i:Nat)(r:Option (Nat×AV)),dp D θ es ms->findKey q k es i=B1 r ->
  ∃a,(BF t d ms i).run P w=.ok a w/\Jn D θ r a
 |[],[],i,r,_,hr=>by
  simp only[findKey,qk]at hr;subst hr;exact⟨B5,by simp[BF],trivial⟩
 |(k',v,b)::es,e::ms,i,r,⟨⟨h1,h2,_⟩,hes⟩,hr=>by
  simp only[findKey,qj]at hr;have⟨c,j,hr⟩:=hr;have:=Fh (w:=w) h hk h1 j;cases c
  .have ⟨a,f,g⟩:=qta (w:=w) h hk es ms (i+1) r hes hr;exact⟨a,by simp[BF,this,f],g⟩
  .simp only[xw,qk]at hr;subst hr;exact⟨B1 (i,e.val),by simp[BF,this],rfl,h2⟩
 |[],_::_,_,_,h,_=>h.elim
 |_::_,[],_,_,h,_=>h.elim
def xfs{t:Ma}{d:TypeDesc}(hu:P.underlying t=B1 d){x y:Km}{b:Bool}(h:Instr.sameNow d x y=B1 b)(w:Nl):(D6 t x y).run P w=.ok b w:=by
 unfold Instr.sameNow at h;split at h
 .rename_i k a k' c;split at h
  .rename_i hk;subst hk;cases h;exact run_equalIn_int w _ t _ _ _ _ hu
  .cases h
 .cases h;show(B8 (9999+1) t _ _).run P w=_;rw[run_equalIn_string w _ t _ _ hu,beq_toListBytes]
 .cases h;exact run_equalIn_bool' w _ t _ _ hu
 .cases h
def q4j{t:Ma}{d:TypeDesc}(hu:P.underlying t=B1 d){c:Km}(w:Nl):∀(ms:List Bk)(i:Nat)(r a:Option (Nat×Km)),
 CR d c ms i=B1 r->(BF t c ms i).run P w=.ok a w->r=a
 |[],i,r,a,h,h'=>by
  simp[CR]at h;simp[BF]at h';rw[<-h,<-h']
 |e::ms,i,r,a,h,h'=>by
  simp only[CR]at h;cases hs:Instr.sameNow d c e.key with
  |none=>rw[hs]at h;cases h
  |some b =>
   rw[hs]at h;have:=xfs hu hs w;cases b
   .simp [BF,this]at h';exact q4j hu w ms (i+1) r a h h'
   .simp [BF,this]at h';simp at h;rw[<-h,<-h']
def q4i{D:Nat->Prop}{θ:Th}{w:Nl}{t:Ma}{q:aR}(h:pU P t=B1 q){k:AV}{b:Km}(hk:VR D θ k b){es:List (AV×AV×Nat)}{ms:List Bk}{r:Option (Nat×AV)}
 (c:dp D θ es ms) (hr:findKey q k es 0=B1 r):∃a,(D5 t b ms).run P w=.ok a w/\Jn D θ r a:=by
 have⟨a,f,g⟩:=qta (w:=w) h hk es ms 0 r c hr;have hu:∃d,P.underlying t=B1 d:=by
  cases hu:P.underlying t with
  |none=>simp[pU,dC,hu]at h
  |some d=>exact⟨d,rfl⟩
 have⟨d,hu⟩:=hu;refine⟨a,?_,g⟩;simp only[D5,Nn,yd hu,N8];cases hn:CR d b ms 0 with
 |none=>simpa using f
 |some r2=>simp[q4j hu w ms 0 r2 a hn f]
def xfp{o:Qa}{t n e:Ma}{C kk:N0}{ok:Bool}{q:aR}{z:AV}(ho:o.op=.lookup t C kk ok)(hu:P.underlying t=B1 (.map n e))(A:pU P n=B1 q)(I:zeroOf P e=B1 z) :
 rO P o [C,kk] (Op.lookup q z ok):=by
 intro base D θ H ρ w vs v G h a;have⟨zc,f,g⟩:=Mv (w:=w) I;unfold Op.lookup at a;split at a
 .rename_i k;have⟨x,y,he,ha,hb⟩:=h.rJ;simp only[zx,sj]at he;obtain⟨rfl,rfl⟩:=he;cases c:cH q k with
  |false=>rw[c]at a;cases a
  |true =>
   rw[c]at a;simp only[xw,qk]at a;have j:=λ em=>VH (em:=em) (w:=w) A hb c;have B:(D5 n (ρ kk) []).run P w=.ok B5 w:=by
    have hu:∃d,P.underlying n=B1 d:=by
     cases hu:P.underlying n with
     |none=>simp[pU,dC,hu]at A
     |some d=>exact⟨d,rfl⟩
    have⟨d,hu⟩:=hu;simp[D5,yd hu,CR]
   subst a;cases ok
   .refine ⟨zc,.inl ?_,g _ _⟩;simp[execOp,ho,CO,yd hu,<-ha.now,aw,j,B,f]
   .refine ⟨.tuple [zc,.bool B2].toArray,.inl ?_,.tuple (.cons (g _ _) (.one (.bool _)))⟩;simp[execOp,ho,CO,yd hu,<-ha.now,aw,j,B,f]
 .rename_i b k;have⟨x,y,he,ha,hb⟩:=h.rJ;simp only[zx,sj]at he;obtain⟨rfl,rfl⟩:=he;cases c:cH q k with
  |false=>rw[c]at a;cases a
  |true =>
   rw[c]at a;simp only[xw,qj]at a;have⟨m,hm,r,hr,a⟩:=a;have⟨_,_,ms,u,F⟩:=G.eW hm;have j:=λ em=>VH (em:=em) (w:=w) A hb c;have⟨E,s,l⟩:=q4i (w:=w) A hb F hr;cases r with
   |none =>
    cases E with
    |some _=>exact l.elim
    |none =>
     simp only[qk]at a;subst a;cases ok
     .refine ⟨zc,.inl ?_,g _ _⟩;simp[execOp,ho,CO,yd hu,<-ha.now,aw,j,s,f,MD u]
     .refine ⟨.tuple [zc,.bool B2].toArray,.inl ?_,.tuple (.cons (g _ _) (.one (.bool _)))⟩;simp[execOp,ho,CO,yd hu,<-ha.now,aw,j,s,f,MD u]
   |some p =>
    have⟨i,pv⟩:=p;cases E with
    |none=>exact l.elim
    |some p' =>
     have⟨J,pc⟩:=p';have⟨_,l⟩:=l;simp only[qk]at a;subst a;cases ok
     .refine ⟨pc,.inl ?_,l⟩;simp[execOp,ho,CO,yd hu,<-ha.now,aw,j,s,MD u]
     .refine ⟨.tuple [pc,.bool B4].toArray,.inl ?_,.tuple (.cons l (.one (.bool _)))⟩;simp[execOp,ho,CO,yd hu,<-ha.now,aw,j,s,MD u]
 .cases a
end
end Go.Am
namespace Go.Am
section
variable{P:Kc}{base:Nat}{D:Nat->Prop}{θ:Th}{H:ar}{w:Nl}
def isStr:AV->Bool
 | .str _=>B4
 |_=>B2
def Xx(r:HR P base D θ H w){x:AV}{c:Km}{size n k:Nat}{l:List AV}(f:VR D θ x c)(hk:fy x=B1 k)(hn:n<=k)(hs:isStr x=B2)
 (h:firstCells H size n x=B1 l):∃a len cap,c=.slice a len cap/\len=k/\((a=B5/\l=[]/\n=0/\k=0) \/
  ∃ad cs,a=B1 ad/\(loadCells ad (n*size)).run P w=.ok cs.toArray w/\bL D θ l cs/\l.length=n*size):=by
 have q:∀a,(loadCells a 0).run P w=.ok ([]:List Km).toArray w:=λ a=>rfl;cases x<;>simp only[fy,reduceCtorEq,qk]at hk
 case str s=>cases hs
 case nils =>
  subst hk;simp only[firstCells,qk]at h;subst h;exact⟨B5,0,0,f.now.symm,rfl,.inl ⟨rfl,rfl,by omega,rfl⟩⟩
 case slice b o n' cp =>
  subst hk;simp only[firstCells]at h;refine⟨_,_,_,f.now.symm,rfl,.inr ?_⟩;cases hb:J3 n 0 with
  |true =>
   have:n=0:=by simpa using hb
   subst this;rw[hb]at h;cases h;exact⟨_,[],rfl,by simpa using q _,.nil,by simp⟩
  |false =>
   rw[hb]at h;have⟨cs,g,j,p⟩:=r.av h;exact⟨_,cs,rfl,g,j,p⟩
 case eslice b =>
  subst hk;have:n=0:=by omega
  subst this;simp only[firstCells,J3,xw,qk]at h;subst h;exact⟨_,_,_,f.now.symm,rfl,.inr ⟨_,[],rfl,by simpa using q _,.nil,by simp⟩⟩
 case gslice b i m s alt n' =>
  subst hk;simp only[firstCells]at h;refine⟨_,_,_,f.now.symm,rfl,.inr ?_⟩;cases hb:J3 n 0 with
  |true =>
   have:n=0:=by simpa using hb
   subst this;rw[hb]at h;cases h;exact⟨_,[],rfl,by simpa using q _,.nil,by simp⟩
  |false =>
   rw[hb]at h;simp only[zm]at h;cases d:(J3 s size && QS i m)with
   |false=>rw[d]at h;cases h
   |true =>
    rw[d]at h;simp only[zd,jv,uH]at d;obtain⟨rfl,t⟩:=d;have⟨cs,g,j,p⟩:=r.av h;refine⟨_,cs,rfl,?_,j,p⟩;rw[qt (by omega)];exact g
end
end Go.Am
namespace Go.Am
section
variable{P:Kc}{base:Nat}{D:Nat->Prop}{θ:Th}{H:ar}{w:Nl}
def XN{w:Nl}{r:Nat}{c:Array Km}{e:Ma}{fz:Nat×Nat}(h:w.heap[r]? = B1 (.cells c e fz)):w.shape? r=B1 (e,c.size):=by
 simp[Nl.shape?,h]
def q06{w:Nl}{r:Nat}{c:Array Km}{e:Ma}{fz:Nat×Nat}(h:w.heap[r]? = B1 (.cells c e fz)):(viewAt r).run P w=.ok B5 w:=by
 simp[viewAt,XN h]
def Θ{w:Nl}{a:Addr}{c:Array Km}{e:Ma}{fz:Nat×Nat}(h:w.heap[a.block]? = B1 (.cells c e fz)):(noView a).run P w=.ok () w:=by
 simp[noView,q06 h]
def TR{a b:AV->Bool}{x y:AV}{q:Bool}(h:sX a b x y=B1 q) :
 (a x=B4/\a y=B4/\q=B4)\/(a x=B4/\b y=B4/\q=B2)\/(b x=B4/\a y=B4/\q=B2):=by
 unfold sX at h;cases c:a x<;>cases d:a y<;>cases f:b x<;>cases g:b y<;>simp_all
def Yy.not{a:Nat×Nat}(h:Yy (0,0) a)(i:Nat):¬(a.1<=i/\i<a.2):=by
 rcases h with h|⟨_,h⟩<;>simp at *<;>omega
def xmq(p:HR P base D θ H w){b g o o':Nat}(z:b≠g)(h:zH H b g=B4) :
 (sameAddr ⟨θ.b9 b,θ.off b+o,B5⟩ ⟨θ.b9 g,θ.off g+o',B5⟩).run P w=.ok B2 w:=by
 have key:∀(d f o1 o2:Nat)(B C:Array Km)(e1 e2:Ma)(m n:Nat×Nat),d≠f->w.heap[d]? = B1 (.cells B e1 m)->w.heap[f]? = B1 (.cells C e2 n) ->
  ((∀i,¬(m.1<=i/\i<m.2))/\C.size≠0\/(∀i,¬(n.1<=i/\i<n.2))/\B.size≠0)->(sameAddr ⟨d,o1,B5⟩ ⟨f,o2,B5⟩).run P w=.ok B2 w:=by
  intro d f o1 o2 B C e1 e2 m n hk K s v;have s1:=XN K;have s2:=XN s;have n1:(noView ⟨d,o1,B5⟩).run P w=_:=Θ K;have n2:(noView ⟨f,o2,B5⟩).run P w=_:=Θ s;have G:∀i,w.frozen? ⟨d,i,B5⟩=(decide (m.1<=i) && decide (i<m.2)):=λ i=>by simp[Nl.frozen?,K]
  have I:∀i,w.frozen? ⟨f,i,B5⟩=(decide (n.1<=i) && decide (i<n.2)):=λ i=>by simp[Nl.frozen?,s]
  have y:(d == f)=false:=by simpa using hk
  rcases v with⟨M,N⟩|⟨M,N⟩
  .have J:∀i,w.frozen? ⟨d,i,B5⟩=false:=λ i=>by rw[G];have:=M i;simp at this⊢;omega
   simp only[sameAddr,Nn,run_frozen,J,n1,n2,y,mayBeOne,stringish,run_shape,s1,s2,Sem.run_ite,Bool.false_and,zw,vk,Q1,N8];cases w.frozen? ⟨f,o2,B5⟩<;>simp[N,s2]
  .have r:∀i,w.frozen? ⟨f,i,B5⟩=false:=λ i=>by rw[I];have:=M i;simp at this⊢;omega
   simp only[sameAddr,Nn,run_frozen,r,n1,n2,y,mayBeOne,stringish,run_shape,s1,Sem.run_ite,Bool.and_false,zw,vk,Q1,N8];cases w.frozen? ⟨d,o1,B5⟩<;>simp[N,s1,s2,r]
 unfold zH at h;split at h
 .rename_i c e x R e' T U hb a;obtain⟨_,co,v,pre,cs,post,E,S,rfl,s,O,Q⟩:=p.obj b _ hb;obtain⟨_,co',j,A,cs',l,q,F,rfl,L,t,u⟩:=p.obj g _ a;refine key _ _ _ _ _ _ _ _ _ _ (p.inj b g _ _ hb a rfl z) v j (.inl ⟨(Q rfl).2.2.2.not,?_⟩);have:=t.length;simp only[CP,xe,zq]at this⊢;omega
 .rename_i c e fz ow R e' hb a;obtain⟨_,co,v,pre,cs,post,E,S,rfl,s,O,Q⟩:=p.obj b _ hb;obtain⟨_,co',j,A,cs',l,q,F,rfl,L,t,u⟩:=p.obj g _ a;refine key _ _ _ _ _ _ _ _ _ _ (λ e=>p.inj g b _ _ a hb rfl (λ e=>z e.symm) e.symm) v j (.inr ⟨(u rfl).2.2.2.not,?_⟩);have:=O.length;simp only[CP,xe,zq]at this⊢;omega
 .cases h
def xE(P:Kc)(t:Ma)(x y:N0):wC->Prop
 | .bool=>P.underlying t=B1 .bool
 | .ptr=>∃e n,P.underlying t=B1 (.pointer e)/\bR P e=B1 (n+1)
 | .slice=>∃e,P.underlying t=B1 (.slice e)
 | .map=>∃k e,P.underlying t=B1 (.map k e)
 | .func=>∃a b c,P.underlying t=B1 (.func a b c)
 | .iface=>∃ms,P.underlying t=B1 (.interface ms)/\((∃v,x=.const v) \/ ∃v,y=.const v)
 | .ifaces f=>(∃ms,P.underlying t=B1 (.interface ms)) /\ ∀u q,f u=B1 q->dC P 20 u=B1 q /\ ∃i,P.info? u=B1 i/\i.comparable=B4
 | .agg q=>P.eqGuardType P.depth t=B2/\pU P t=B1 q/\((∃fs,P.underlying t=B1 (.struct fs)) \/ ∃n e,P.underlying t=B1 (.array n e))
set_option maxHeartbeats 2000000 in
def Kz(hh:HR P base D θ H w){t:Ma}{x y:N0}{ρ:N0->Km}{k:wC}(hk:xE P t x y k){a b:AV}(ha:VR D θ a (ρ x))(hb:VR D θ b (ρ y)){q:Bool}
 (h:J1 H k a b=B1 q) (op:BinOp) (g:op=.eql\/op=.neq) :
 ((do eqGuard op t x y (ρ x) (ρ y);binOp op t (ρ x) (ρ y)):Sem Km).run P w=.ok (.bool (if op=.neq then !q else q)) w:=by
 have fin:(eqGuard op t x y (ρ x) (ρ y)).run P w=.ok () w->(D6 t (ρ x) (ρ y)).run P w=.ok q w->(binOp .eql t (ρ x) (ρ y)).run P w=((do pure (.bool (<-D6 t (ρ x) (ρ y)))):Sem Km).run P w ->
  (binOp .neq t (ρ x) (ρ y)).run P w=((do pure (.bool (!(<-D6 t (ρ x) (ρ y))))):Sem Km).run P w ->
  ((do eqGuard op t x y (ρ x) (ρ y);binOp op t (ρ x) (ρ y)):Sem Km).run P w=.ok (.bool (if op=.neq then !q else q)) w:=by
  intro G F Z h4;rw[Nn,G,N8];rcases g with rfl|rfl
  .rw [Z];simp[F]
  .rw [h4];simp[F]
 obtain⟨dd,e1,V⟩:∃d,(∀p q,D6 t p q=B8 (d+1) t p q) /\ ∃m,d=20+m:=⟨9999,λ _ _=>rfl,9979,rfl⟩
 cases k
 case bool =>
  cases a<;>cases b<;>simp only[J1,reduceCtorEq,qk]at h;subst h;have hu:P.underlying t=B1 .bool:=hk;rw[<-ha.now,<-hb.now];rw[<-ha.now,<-hb.now]at fin;refine fin ?_ (run_equalIn_bool' w _ t _ _ hu) (by simp only[aw,binOp]) (by simp only[aw,binOp]);rcases g with rfl|rfl<;>simp[eqGuard,aw]
 case ptr =>
  have⟨e,n,hu,hs⟩:=hk;have K:=uO (w:=w) hs;have A:(D6 t (ρ x) (ρ y)).run P w=.ok q w:=by
   cases a<;>cases b<;>simp only[J1,reduceCtorEq,qk]at h
   .subst h;rw[<-ha.now,<-hb.now,e1];simp[aw,B8,yd hu]
   .subst h;rw[<-ha.now,<-hb.now,e1];simp[aw,B8,yd hu]
   .subst h;rw[<-ha.now,<-hb.now,e1];simp[aw,B8,yd hu]
   .rename_i C o1 E o2;rw[<-ha.now,<-hb.now,e1];simp only[aw,B8,Nn,yd hu,N8,K,ne_eq,Nat.succ_ne_zero,not_false_eq_true,oO];cases r:J3 C E with
    |true =>
     rw[r]at h;have:C=E:=by simpa using r
     subst this;simp only[xw,qk]at h;subst h;simp only[sameAddr,beq_self_eq_true,oO,Q1];congr 1
     by_cases ho:o1=o2
     .subst ho;simp
     .have:J3 o1 o2=false:=by simpa[<-Bool.not_eq_true,jv]using ho
      rw[this];simp[ho]
    |false =>
     rw[r]at h;simp only[zm]at h;cases hp:zH H C E with
     |false=>rw[hp]at h;cases h
     |true =>
      rw[hp]at h;simp only[xw,qk]at h;subst h;have u:C≠E:=λ e=>by subst e;simp at r
      exact xmq hh u hp
  cases a<;>cases b<;>simp only[J1,reduceCtorEq,qk]at h <;>
   (rw[<-ha.now,<-hb.now]at A⊢;rw[<-ha.now,<-hb.now]at fin
    exact fin (by rcases g with rfl|rfl<;>simp[eqGuard,aw]) A (by simp only[aw,binOp]) (by simp only[aw,binOp]))
 case slice =>
  have⟨e,hu⟩:=hk;have o:=TR h;cases a<;>cases b<;>simp[Cu,isSlice]at o <;>
   (subst o;rw[<-ha.now,<-hb.now];rw[<-ha.now,<-hb.now]at fin
    exact fin (by rcases g with rfl|rfl<;>simp[eqGuard,aw]) (by rw[e1];simp[aw,B8,yd hu]) (by simp only[aw,binOp]) (by simp only[aw,binOp]))
 case map =>
  have⟨k,e,hu⟩:=hk;have o:=TR h;cases a<;>cases b<;>simp[Ep,isMap]at o <;>
   (subst o;rw[<-ha.now,<-hb.now];rw[<-ha.now,<-hb.now]at fin
    exact fin (by rcases g with rfl|rfl<;>simp[eqGuard,aw]) (by rw[e1];simp[aw,B8,yd hu]) (by simp only[aw,binOp]) (by simp only[aw,binOp]))
 case func =>
  have⟨p1,p2,p3,hu⟩:=hk;have o:=TR h;cases a<;>cases b<;>simp[ET,RX]at o <;>
   (subst o;rw[<-ha.now,<-hb.now];rw[<-ha.now,<-hb.now]at fin
    exact fin (by rcases g with rfl|rfl<;>simp[eqGuard,aw]) (by rw[e1];simp[aw,B8,yd hu]) (by simp only[aw,binOp]) (by simp only[aw,binOp]))
 case iface =>
  have⟨ms,hu,O⟩:=hk;have o:=TR h;cases a<;>cases b<;>simp[EI,isIface]at o <;>
   (subst o;rw[<-ha.now,<-hb.now];rw[<-ha.now,<-hb.now]at fin
    exact fin (by rcases g with rfl|rfl<;>rcases O with⟨v,rfl⟩|⟨v,rfl⟩<;>simp[eqGuard,aw]) (by rw[e1];simp[aw,B8,yd hu]) (by simp only[aw,binOp]) (by simp only[aw,binOp]))
 case ifaces f =>
  have⟨⟨ms,hu⟩,hf⟩:=hk;cases a<;>cases b<;>simp only[J1,reduceCtorEq,qk]at h
  .rename_i Q v1 S v2;have⟨T,I,M⟩:=ha.mr;have⟨U,J,N⟩:=hb.mr;rw[I,J]at fin⊢;refine fin (by rcases g with rfl|rfl<;>simp[eqGuard]) ?_ (by simp only[binOp]) (by simp only[binOp]);rw[e1];cases j:J3 Q S with
   |true =>
    rw[j]at h;simp only[jv]at j;subst j;simp only[xw,qj]at h;have⟨R,L,h⟩:=h;have⟨W,i,X,Y⟩:=hf _ _ L;obtain⟨m,rfl⟩:=V;have B:=Tl m (D:=D) (θ:=θ) w 20 Q R W v1 v2 T U q M N h;simp[B8,yd hu,typeInfo,X,Y,B]
   |false =>
    rw[j]at h;have u:Q≠S:=λ e=>by subst e;simp at j
    simp only[zm,qk]at h;subst h;simp[B8,yd hu,u]
  .subst h;rw[<-ha.now,<-hb.now];rw[<-ha.now,<-hb.now]at fin;exact fin (by rcases g with rfl|rfl<;>simp[eqGuard,aw]) (by rw[e1];simp[aw,B8,yd hu]) (by simp only[aw,binOp]) (by simp only[aw,binOp])
  .subst h;rw[<-ha.now,<-hb.now];rw[<-ha.now,<-hb.now]at fin;exact fin (by rcases g with rfl|rfl<;>simp[eqGuard,aw]) (by rw[e1];simp[aw,B8,yd hu]) (by simp only[aw,binOp]) (by simp only[aw,binOp])
 case agg R =>
  have⟨hg,c,hu⟩:=hk;have A:=Fh (w:=w) c ha hb h;have z:(∃l,a=.agg l) /\ ∃l,b=.agg l:=by
   have c:dC P (19+1) t=B1 R:=c;rw[dC]at c;rcases hu with⟨fs,hu⟩|⟨n,e,hu⟩
   .rw [hu]at c;simp only at c;split at c
    .cases c
    .exact q4g c h
   .rw [hu]at c;simp only[qj]at c;have⟨s,hs,a',ha',q1,hq1,c⟩:=c;cases c;exact q78 _ _ _ _ _ h
  obtain⟨⟨l,rfl⟩,⟨l',rfl⟩⟩:=z;have⟨cs,G,_⟩:=ha.fp;have⟨cs',F,_⟩:=hb.fp;rw[G,F]at A fin⊢;exact fin (run_eqGuard_agg w _ t x y _ _ hg) A (by simp only[binOp]) (by simp only[binOp])
def uK{o:Qa}{t g:Ma}{x y:N0}{k:wC}{neg:Bool}(ho:o.op=.binOp (if neg then .neq else .eql) t x y g)(hk:xE P t x y k):rO P o [x,y] (Op.eq k neg):=by
 intro base D θ H ρ w vs v d h c;unfold Op.eq at c;split at c
 .rename_i a b;have⟨i,j,he,ha,hb⟩:=h.rJ;simp only[zx,sj]at he;obtain⟨rfl,rfl⟩:=he;simp only[qj]at c;have⟨q,f,c⟩:=c;cases c;have:=Kz d hk ha hb f (if neg then .neq else .eql) (by cases neg<;>simp);refine⟨_,.inl ?_,.bool _⟩;simp only[execOp,ho];rw[Nn,this];cases neg<;>simp
 .cases c
end
end Go.Am
namespace Go.Am
structure nZ(w w0:Nl):Prop where
 heap:w0.heap=w.heap
 os:w0.os=w.os
 tape:w0.tape=w.tape
 output:w0.output=w.output
def nZ.refl(w:Nl):nZ w w:=⟨rfl,rfl,rfl,rfl⟩
def nZ.trans{a b c:Nl}(h:nZ a b)(d:nZ b c):nZ a c:=⟨d.heap.trans h.heap,d.os.trans h.os,d.tape.trans h.tape,d.output.trans h.output⟩
def mi(P:Kc)(o:Qa)(xs:List N0)(f:List AV->Option (bC×(Nat->AV))):Prop :=
 ∀(D:Nat->Prop)θ(ρ:N0->Km)w vs ob mk,bL D θ vs (xs.map ρ)->f vs=B1 (ob,mk) ->
  own ob=B4 /\ ∃w0 co ext c,(execOp ρ o).run P w=.ok (.value c) (w0.alloc co)/\nZ w w0 /\
   ∀(D':Nat->Prop)θ' id,Ag D θ θ'->(∀b,D b->D' b)->D' id -> θ'.b9 id=w.heap.size -> θ'.off id=0 -> θ'.ext id=ext->oH P D' θ' id ob co/\VR D' θ' (mk id) c
section
variable{P:Kc}
def SL{D':Nat->Prop}{θ':Th}{id:Nat}{cells:List AV}{cs:List Km}{e:Ma}(h:bL D' θ' cells cs)(ho:θ'.off id=0) :
 oH P D' θ' id (.row cells e (0,0) B4) (.cells cs.toArray e (0,0)) :=
 ⟨[],cs,[],(0,0),_,by simp,by simp[ho],h,λ _=>⟨rfl,rfl,rfl,.inl rfl⟩⟩
def l_{D':Nat->Prop}{θ':Th}{id k:Nat}(a:D' id)(hb:θ'.b9 id=k)(ho:θ'.off id=0):VR D' θ' (Op.ptrTo id) (.pointer (B1 ⟨k,0,B5⟩)):=by
 have:=VR.ptr (θ:=θ') (o:=0) a;rw[hb,ho]at this;exact this
def q8c{D':Nat->Prop}{θ':Th}{id k n m:Nat}(a:D' id)(hb:θ'.b9 id=k)(ho:θ'.off id=0):VR D' θ' (Op.sliceTo n m id) (.slice (B1 ⟨k,0,B5⟩) n m):=by
 have:=VR.slice (θ:=θ') (o:=0) (n:=n) (c:=m) a;simp only[aw,hb,ho]at this;exact this
def xd9{o:Qa}{e:Ma}{z:AV}(ho:o.op=.alloc e)(g:zeroOf P e=B1 z):mi P o [] (Op.alloc e z.cells):=by
 intro D θ ρ w vs j mk h b;unfold Op.alloc at b;split at b
 .cases b;have⟨zc,d,f⟩:=Mv (w:=w) g;refine⟨rfl,w,.cells zc.cells e (0,0),0,.pointer (B1 ⟨w.heap.size,0,B5⟩),?_,.refl w,λ D' θ' id ha i c hb a _=>⟨?_,l_ c hb a⟩⟩
  .simp [execOp,ho,Instr.alloc,d,newVar,newRow]
  .have:=SL (P:=P) (e:=e) (f D' θ').cells a
   simpa using this
 .cases b
def xkg{o:Qa}{e:Ma}{x:N0}(ho:o.op=.box e x):mi P o [x] (Op.box e):=by
 intro D θ ρ w vs f mk h b;unfold Op.box at b;split at b
 .rename_i v;have⟨g,he,ha⟩:=h.qB;simp only[zx,sj]at he;subst he;cases b;refine⟨rfl,w,.cells (ρ x).cells e (0,0),0,.pointer (B1 ⟨w.heap.size,0,B5⟩),?_,.refl w,λ D' θ' id hg d c hb a _=>⟨?_,l_ c hb a⟩⟩
  .simp [execOp,ho,Instr.box,newVar,newRow]
  .have:=SL (P:=P) (e:=e) (ha.up hg d).cells a
   simpa using this
 .cases b
def d_{o:Qa}{t:Ma}{r:Option N0}(ho:o.op=.makeMap t r)(hr:r=B5\/(∃k n,r=B1 (.const (.int k n)) /\ ∃a b,P.underlying t=B1 (.map a b)))
 (l:∀(ρ:N0->Km),True):∀(D:Nat->Prop)θ(ρ:N0->Km)w vs f mk,(∀v,ρ (.const v)=v)->bL D θ vs (([]:List N0).map ρ)->Op.mkMap vs=B1 (f,mk) ->
 own f=B4 /\ ∃w0 co ext c,(execOp ρ o).run P w=.ok (.value c) (w0.alloc co)/\nZ w w0 /\
  ∀(D':Nat->Prop)θ' id,Ag D θ θ'->(∀b,D b->D' b)->D' id -> θ'.b9 id=w.heap.size -> θ'.off id=0 -> θ'.ext id=ext->oH P D' θ' id f co/\VR D' θ' (mk id) c:=by
 intro D θ ρ w vs f mk j h d;unfold Op.mkMap at d;split at d
 .cases d;refine⟨rfl,w,.map #[] 0,0,.map (B1 w.heap.size),?_,.refl w,λ D' θ' id hg m g hb i _=>⟨⟨[],rfl,trivial⟩,?_⟩⟩
  .rcases hr with rfl|⟨k,n,rfl,a,b,hu⟩
   .simp [execOp,ho,Instr.makeMap]
   .simp [execOp,ho,Instr.makeMap,yd hu,j,asInt,asIntOf]
  .have:=VR.map (θ:=θ') g
   rwa [hb]at this
 .cases d
def YM{D:Nat->Prop}{θ:Th}{z:List AV}{zc:List Km}(h:bL D θ z zc)(n:Nat):bL D θ (fX n z) (JV n zc).flatten:=by
 induction n with
 |zero=>exact .nil
 |succ n ih =>
  simp only[fX,pD,Qr,Qy];exact h.app ih
def XW(zc:List Km)(n:Nat):((CU (n*zc.length)).map (λ i=>zc.toArray[i % zc.toArray.size]!))=(JV n zc).flatten.toArray:=by
 apply Hf;simp only[Array.toList_map,Array.toList_range,CP]
 induction n with
 |zero=>simp
 |succ n ih =>
  rw[show(n+1)*zc.length=zc.length+n*zc.length from by rw[yf];omega,List.range_add,FD,wv,Qr,Qy];congr 1
  .apply List.ext_getElem
   .simp
   .intro i a b;simp at a;simp[Nat.mod_eq_of_lt a,a]
  .rw [<-ih];apply List.map_congr_left;intro i c;simp
def qzn{o:Qa}{t e:Ma}{len n:Nat}{parts:Array (Nat×N0)}{z:AV}{u:List (Nat×Nat)}(ho:o.op=.buildSlice t len parts)(hu:P.underlying t=B1 (.slice e))
 (hs:bR P e=B1 n) (C:zeroOf P e=B1 z) (hp:Dy (Mm n) parts.toList=B1 u) (F:z.cells.length=n) (v:len*n<=16777216) :
 mi P o (parts.toList.map (·.2)) (Op.buildSlice e len z.cells u):=by
 intro D θ ρ w vs G mk h l;simp only[Op.buildSlice,qj]at l;have⟨c,A,l⟩:=l;cases l;have⟨zc,s,j⟩:=Mv (w:=w) C;have E:=(j D θ).cells.length;have g:bL D θ (fX len z.cells) (JV len zc.cells.toList).flatten:=YM (j D θ).cells len;have hv':bL D θ vs (parts.toList.map λ p=>ρ p.2):=by simpa[wv,Function.comp_def]using h
 have⟨cout,x,y⟩:=YI u vs parts.toList (Mm n) c hp hv' _ _ g A;have r:zc.cells.size=n:=by rw[<-we];omega
 refine⟨rfl,w,.cells cout.toArray e (0,0),0,.slice (B1 ⟨w.heap.size,0,B5⟩) len len,?_,.refl w,λ D' θ' id hg B q hb f _=>⟨SL (y.up hg B) f,q8c q hb f⟩⟩;have a:=XW zc.cells.toList len;rw[show zc.cells.toList.length=n from by omega]at a;simp only[Q4]at a;have b:Instr.fill (λ i=>B1 (i*n,n)) (((CU (len*n)).map (λ i=>zc.cells[i % zc.cells.size]!))) ((parts.map λ(p:Nat×N0)=>(p.1,ρ p.2)).toList)=B1 cout.toArray:=by
  rw[a,xmo];exact x
 by_cases m:len*n=0
 .have d:Instr.fill (λ i=>B1 (i*n,n)) #[] ((parts.map λ(p:Nat×N0)=>(p.1,ρ p.2)).toList)=B1 cout.toArray:=by
   rw[m,show CU 0 = #[]from rfl]at b;simpa only[Cg]using b
  simp only[execOp,ho,Instr.buildSlice,Nn,yd hu,N8,uO hs,m,show CU 0 = #[]from rfl,Cg,oO,Q1,d];simp[newRow]
 .have hb:¬(len*n > 2 ^ 24):=by omega
  simp only[execOp,ho,Instr.buildSlice,Nn,yd hu,N8,uO hs,m,hb,vk,s,Q1];simp only[b];simp[newRow]
def q80{o:Qa}{t e:Ma}{l c:N0}{b n:Nat}{z:AV}(ho:o.op=.makeSlice t l c)(hu:P.underlying t=B1 (.slice e))(hb:mS P e=B1 b)
 (hs:bR P e=B1 n) (K:zeroOf P e=B1 z) (M:z.cells.length=n):mi P o [l,c] (Op.mkSlice e b z.cells):=by
 intro D θ ρ w vs V mk h m;unfold Op.mkSlice at m;split at m
 .rename_i T p U f;have⟨x,y,he,ha,u⟩:=h.rJ;simp only[zx,sj]at he;obtain⟨rfl,rfl⟩:=he;cases d:(sZ 0 p && sZ p f && sZ (f*b) 140737488355328 && sZ f 140737488355328)with
  |false=>rw[d]at m;cases m
  |true =>
   rw[d]at m;simp only[xw,qk,zf]at m;obtain⟨rfl,rfl⟩:=m;simp only[zd,GB,LM]at d;have⟨⟨⟨N,O⟩,Q⟩,R⟩:=d;have⟨zc,C,q⟩:=Mv (w:=w) K;have L:=(q D θ).cells.length;have B:zc.cells.size=n:=by rw[<-we];omega
   refine⟨rfl,w,.cells (JV f.toNat zc.cells.toList).flatten.toArray e (0,0),0,.slice (B1 ⟨w.heap.size,0,B5⟩) p.toNat f.toNat,?_,.refl w,
    λ D' θ' id hg S A hb j _=>⟨SL (YM ((q D' θ').cells) _) j,q8c A hb j⟩⟩
   have w1:Pl.i64.wrap p=p:=by simp[IntKind.wrap,Bi,Bj];omega
   have w2:Pl.i64.wrap f=f:=by simp[IntKind.wrap,Bi,Bj];omega
   have v:∃i,P.info? e=B1 i/\i.bytes=b:=by
    unfold mS at hb;cases r:P.info? e with
    |none=>rw[r]at hb;cases hb
    |some i=>rw[r]at hb;injection hb with hb;exact⟨i,rfl,hb⟩
   obtain⟨inf,r,rfl⟩:=v;have a:=XW zc.cells.toList f.toNat;rw[show zc.cells.toList.length=n from by omega]at a;simp only[Q4]at a;have E:¬(f<0):=by omega
   have F:¬((inf.bytes:Int)*f > 2 ^ 48):=by rw[Int.mul_comm];omega
   have G:¬(p<0):=by omega
   have I:¬(p > f):=by omega
   have J:¬(f.toNat*inf.bytes > roomBytes):=by
    have:((f.toNat*inf.bytes:Nat):Int)=f*inf.bytes:=by rw[Int.natCast_mul];congr 1;omega
    unfold roomBytes;omega
   have W:(2:Int) ^ 48=281474976710656:=by decide
   simp only[execOp,ho,<-ha.now,<-u.now,aw,Instr.makeSlice,Nn,yd hu,N8,asInt,asIntOf,Q1,typeInfo,run_program,r,w1,w2]
   by_cases s:f.toNat*n=0
   .have g:(JV f.toNat zc.cells.toList).flatten.toArray = #[]:=by rw[<-a,s,show CU 0 = #[]from rfl,Cg]
    simp only[E,F,G,I,J,s,askRoom,g,F7,Bool.or_self,zw,vk,oO,Nn,Q1,N8,uO hs,show CU 0 = #[]from rfl,Cg];simp[newRow]
   .simp only[E,F,G,I,J,s,askRoom,F7,Bool.or_self,zw,vk,Nn,Q1,N8,uO hs,C,a];simp[newRow]
 .cases m
end
end Go.Am
