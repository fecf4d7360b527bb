/- LqOp: ParP ParQ ParR TokP TxtP TxtQ TxtR Iter3. -/
import Derived.Test.YtbimikjajohflaaDoorAmOLqO0
import Derived.Test.YtbimikjajohflaaDoorAmOB4
set_option linter.unusedVariables false
set_option linter.unusedSimpArgs false
namespace Go.Am
namespace Lang
abbrev Tk:=List UInt8
def skp:Bool->Tk->Tk
 | _,[]=>[]
 | true,c::s=>if c=10 then skp false s else skp true s
 | false,c::s=>if c=35 then skp true s else if c=32\/c=9\/c=10 then skp false s else c::s
def span (a b:UInt8):Tk->Nat
 | []=>0
 | c::s=>if a<=c/\c<=b then span a b s+1 else 0
abbrev two (s:Tk):Prop:=s.take 2=[61,61]\/s.take 2=[33,61]\/s.take 2=[60,60]\/s.take 2=[62,62]
def tkn (s:Tk):Nat:=if two s then 2 else max 1 (max (span 97 122 s) (span 48 57 s))
def tok (s:Tk):Tk:=s.take (tkn s)
def adv (s:Tk):Tk:=skp false (s.drop (tkn s))
theorem q0r (a b:UInt8):∀ s:Tk,span a b s<=s.length
 | []=>qg _
 | c::s=>by have:=q0r a b s;simp only [span,qk];split<;>omega
theorem q0x (s:Tk):1<=tkn s:=by
 unfold tkn;split
 ·omega
 ·exact Nat.le_max_left ..
theorem tkn_le {s:Tk} (h:s ≠ []):tkn s<=s.length:=by
 have h1:1<=s.length:=by cases s with|nil=>exact (h rfl).elim|cons c s=>simp
 have h2:=q0r 97 122 s
 have h3:=q0r 48 57 s
 unfold tkn;split
 ·rename_i q
  have:(s.take 2).length=2:=by rcases q with q|q|q|q<;>rw [q]<;>rfl
  rw [z9] at this;omega
 ·exact Nat.max_le.2 ⟨h1,Nat.max_le.2 ⟨h2,h3⟩⟩
theorem qpd:∀ (q:Bool) (s:Tk),(skp q s).length<=s.length
 | true,[]=>qg _
 | false,[]=>qg _
 | true,c::s=>by
  have:=qpd false s;have:=qpd true s
  simp only [skp,qk];split<;>omega
 | false,c::s=>by
  have:=qpd false s;have:=qpd true s
  simp only [skp];split
  ·simp only [qk];omega
  ·split
   ·simp only [qk];omega
   ·exact qg _
theorem qrw {s:Tk} (h:s ≠ []):(adv s).length<s.length:=by
 have h1:1<=s.length:=by cases s with|nil=>exact (h rfl).elim|cons c s=>simp
 have h2:=qpd false (s.drop (tkn s))
 have:=q0x s
 rw [ym] at h2
 unfold adv;omega
theorem qe5:tok []=[]:=by simp [tok]
theorem qo6 {s:Tk} (h:tok s ≠ []):s ≠ []:=fun q=>h (by rw [q];exact qe5)
def varOf:Tk->Option Nat
 | [c]=>if 97<=c/\c<=104 then some (c.toNat-97) else none
 | _=>none
def valD (s:Tk):Nat:=s.foldl (fun a c=>a*10+(c.toNat-48)) 0
def numOf (s:Tk):Option Nat:=if s ≠ []/\(∀ c ∈ s,48<=c/\c<=57) /\ ¬ (1<s.length/\s.head? = some 48)/\valD s<18446744073709551616 then some (valD s) else none
def sigK (t:Tk):Nat:=if t=[43] then 4 else if t=[45] then 5 else if t=[94] then 8 else if t=[42] then 6 else if t=[38] then 7 else if t=[60,60] then 9 else if t=[62,62] then 10 else 0
def sigR (t:Tk):Nat:=if sigK t=0 then 0 else rowOf (sigK t)
def csgK (t:Tk):Nat:=if t=[61,61] then 11 else if t=[33,61] then 12 else if t=[60] then 13 else 0
abbrev wLoad:Tk:=[108,111,97,100]
abbrev wStore:Tk:=[115,116,111,114,101]
abbrev wIf:Tk:=[105,102]
abbrev wElse:Tk:=[101,108,115,101]
abbrev wWhile:Tk:=[119,104,105,108,101]
abbrev wAtomic:Tk:=[97,116,111,109,105,99]
abbrev wHalt:Tk:=[104,97,108,116]
inductive PS where
 | ok (L:Tk)
 | bad (L:Tk)
def PS.left:PS->Tk
 | .ok L=>L
 | .bad L=>L
def take (s:Tk) (o:Nat):PS->PS
 | .bad L=>.bad L
 | .ok L=>if tok L=s /\ ¬ ((s=[40]\/s=[123])/\50<=o) then .ok (adv L) else .bad L
inductive NT where
 | fac
 | row (n:Nat)
 | rowl (n:Nat) (x:Ex)
 | cnd
 | stm
 | sts (e:Tk)
 | blk
def part (n:Nat):NT:=if n=1 then .row 2 else .fac
inductive P:NT->Nat->Bool->PS->It->PS->Prop
 | bad {nt:NT} {o:Nat} {a:Bool} {L:Tk} (x:It):P nt o a (.bad L) x (.bad L)
 | num {o:Nat} {a:Bool} {L:Tk} {n:Nat} (h:numOf (tok L)=some n):P .fac o a (.ok L) (.e (.num n)) (.ok (adv L))
 | var {o:Nat} {a:Bool} {L:Tk} {v:Nat} (h:varOf (tok L)=some v):P .fac o a (.ok L) (.e (.var v)) (.ok (adv L))
 | load {o:Nat} {a:Bool} {L:Tk} {x:Ex} {σ:PS} (h:tok L=wLoad) (hx:P (.row 1) (o+1) a (take [40] o (.ok (adv L))) (.e x) σ):P .fac o a (.ok L) (.e (.load x)) (take [41] (o+1) σ)
 | par {o:Nat} {a:Bool} {L:Tk} {x:Ex} {σ:PS} (h:tok L=[40]) (hx:P (.row 1) (o+1) a (take [40] o (.ok L)) (.e x) σ):P .fac o a (.ok L) (.e x) (take [41] (o+1) σ)
 | nofac {o:Nat} {a:Bool} {L:Tk} (x:It) (h1:varOf (tok L)=none) (h2:tok L ≠ wLoad) (h3:tok L ≠ [40]) (h4:numOf (tok L)=none):P .fac o a (.ok L) x (.bad L)
 | row {n o:Nat} {a:Bool} {L:Tk} {x y:Ex} {σ τ:PS} (hx:P (part n) o a (.ok L) (.e x) σ) (hy:P (.rowl n x) o a σ (.e y) τ):P (.row n) o a (.ok L) (.e y) τ
 | stop {n o:Nat} {a:Bool} {L:Tk} {x:Ex} (h:sigR (tok L) ≠ n):P (.rowl n x) o a (.ok L) (.e x) (.ok L)
 | more {n o:Nat} {a:Bool} {L:Tk} {x y z:Ex} {σ τ:PS} (h:sigR (tok L)=n) (hy:P (part n) o a (.ok (adv L)) (.e y) σ) (hz:P (.rowl n (.bin (sigK (tok L)) x y)) o a σ (.e z) τ):P (.rowl n x) o a (.ok L) (.e z) τ
 | cnd {o:Nat} {a:Bool} {L L1:Tk} {x y:Ex} {σ:PS} (hx:P (.row 1) o a (.ok L) (.e x) (.ok L1)) (h:csgK (tok L1) ≠ 0) (hy:P (.row 1) o a (.ok (adv L1)) (.e y) σ):P .cnd o a (.ok L) (.c ⟨csgK (tok L1),x,y⟩) σ
 | cnd1 {o:Nat} {a:Bool} {L L1:Tk} {x:Ex} (z:It) (hx:P (.row 1) o a (.ok L) (.e x) (.bad L1)):P .cnd o a (.ok L) z (.bad L1)
 | cnd2 {o:Nat} {a:Bool} {L L1:Tk} {x:Ex} (z:It) (hx:P (.row 1) o a (.ok L) (.e x) (.ok L1)) (h:csgK (tok L1)=0):P .cnd o a (.ok L) z (.bad L1)
 | set {o:Nat} {a:Bool} {L:Tk} {v:Nat} {x:Ex} {σ:PS} (h:varOf (tok L)=some v) (hx:P (.row 1) o a (take [61] o (.ok (adv L))) (.e x) σ):P .stm o a (.ok L) (.s (.set v x)) (take [59] o σ)
 | store {o:Nat} {a:Bool} {L:Tk} {x y:Ex} {σ τ:PS} (h:tok L=wStore) (hx:P (.row 1) (o+1) a (take [40] o (.ok (adv L))) (.e x) σ) (hy:P (.row 1) (o+1) a (take [44] (o+1) σ) (.e y) τ):P .stm o a (.ok L) (.s (.store x y)) (take [59] o (take [41] (o+1) τ))
 | ite {o:Nat} {a:Bool} {L L2:Tk} {c:Cn} {l:Ls} {σ:PS} (h:tok L=wIf) (hc:P .cnd (o+1) a (take [40] o (.ok (adv L))) (.c c) σ) (hl:P .blk o a (take [41] (o+1) σ) (.l l) (.ok L2)) (he:tok L2 ≠ wElse):P .stm o a (.ok L) (.s (.ite c l)) (.ok L2)
 | ite1 {o:Nat} {a:Bool} {L L2:Tk} {c:Cn} {l:Ls} {σ:PS} (h:tok L=wIf) (hc:P .cnd (o+1) a (take [40] o (.ok (adv L))) (.c c) σ) (hl:P .blk o a (take [41] (o+1) σ) (.l l) (.bad L2)):P .stm o a (.ok L) (.s (.ite c l)) (.bad L2)
 | ites {o:Nat} {a:Bool} {L L2:Tk} {c:Cn} {l m:Ls} {σ τ:PS} (h:tok L=wIf) (hc:P .cnd (o+1) a (take [40] o (.ok (adv L))) (.c c) σ) (hl:P .blk o a (take [41] (o+1) σ) (.l l) (.ok L2)) (he:tok L2=wElse) (hm:P .blk o a (.ok (adv L2)) (.l m) τ):P .stm o a (.ok L) (.s (.ites c l m)) τ
 | loop {o:Nat} {a:Bool} {L:Tk} {c:Cn} {l:Ls} {σ τ:PS} (h:tok L=wWhile) (hc:P .cnd (o+1) a (take [40] o (.ok (adv L))) (.c c) σ) (hl:P .blk o a (take [41] (o+1) σ) (.l l) τ):P .stm o a (.ok L) (.s (.loop c l)) τ
 | atom {o:Nat} {L:Tk} {l:Ls} {τ:PS} (h:tok L=wAtomic) (hl:P .blk o true (.ok (adv L)) (.l l) τ):P .stm o false (.ok L) (.s (.atom l)) τ
 | halt {o:Nat} {a:Bool} {L:Tk} (h:tok L=wHalt):P .stm o a (.ok L) (.s .halt) (take [59] o (.ok (adv L)))
 | nostm {o:Nat} {a:Bool} {L:Tk} (x:It) (h1:varOf (tok L)=none) (h2:tok L ≠ wStore) (h3:tok L ≠ wIf) (h4:tok L ≠ wWhile) (h5:a=true\/tok L ≠ wAtomic) (h6:tok L ≠ wHalt):P .stm o a (.ok L) x (.bad L)
 | nil {e:Tk} {o:Nat} {a:Bool} {L:Tk} (h:tok L=e):P (.sts e) o a (.ok L) (.l .nil) (.ok L)
 | cons {e:Tk} {o:Nat} {a:Bool} {L:Tk} {s:St} {l:Ls} {σ τ:PS} (h:tok L ≠ e) (hs:P .stm o a (.ok L) (.s s) σ) (hl:P (.sts e) o a σ (.l l) τ):P (.sts e) o a (.ok L) (.l (.cons s l)) τ
 | blk {o:Nat} {a:Bool} {L:Tk} {l:Ls} {σ:PS} (hl:P (.sts [125]) (o+1) a (take [123] o (.ok L)) (.l l) σ):P .blk o a (.ok L) (.l l) (take [125] (o+1) σ)
end Lang
end Go.Am
namespace Go.Am
namespace Lang
theorem qg4 (s:Tk) (o:Nat) (σ:PS):(take s o σ).left.length <= σ.left.length:=by
 cases σ with
 | bad L=>exact qg _
 | ok L =>
  simp only [take];split
  ·rename_i h
   show (adv L).length<=L.length
   by_cases q:L=[]
   ·subst q;simp [adv,skp]
   ·exact qah (qrw q)
  ·exact qg _
theorem take_le' (s:Tk) (o:Nat) (L:Tk):(take s o (.ok L)).left.length<=L.length:=qg4 s o (.ok L)
theorem q6y {s:Tk} (hs:s ≠ []) {o:Nat} {L L':Tk} (h:take s o (.ok L)=.ok L'):L'.length<L.length:=by
 simp only [take] at h
 split at h
 ·rename_i q;injection h with h;subst h;exact qrw (qo6 (by rw [q.1];exact hs))
 ·cases h
theorem qma {s:Tk} {o:Nat} {σ:PS} {L':Tk} (h:take s o σ = .ok L'):∃ L,σ = .ok L/\tok L=s /\ ¬ ((s=[40]\/s=[123])/\50<=o)/\L'=adv L:=by
 cases σ with
 | bad L=>cases h
 | ok L =>
  simp only [take] at h
  split at h
  ·rename_i q;injection h with h;exact ⟨L,rfl,q.1,q.2,h.symm⟩
  ·cases h
theorem qdu {L:Tk} (h:tok L ≠ []):(adv L).length<L.length:=qrw (qo6 h)
theorem qtq {t:Tk} {v:Nat} (h:varOf t=some v):t ≠ []:=by rintro rfl;cases h
theorem num_ne {t:Tk} {v:Nat} (h:numOf t=some v):t ≠ []:=by rintro rfl;simp [numOf] at h
theorem q0o {t:Tk} (h:sigR t ≠ 0):t ≠ []:=by rintro rfl;exact h rfl
theorem q1c {t:Tk} (h:csgK t ≠ 0):t ≠ []:=by rintro rfl;exact h rfl
def NT.eats:NT->Prop
 | .rowl _ _=>False
 | .sts _=>False
 | _=>True
theorem P.le {nt:NT} {o:Nat} {a:Bool} {σ τ:PS} {x:It} (h:P nt o a σ x τ):τ.left.length <= σ.left.length/\((∀ n y,nt=.rowl n y->n ≠ 0)->(∀ n,nt=.row n->n ≠ 0)->nt.eats -> ∀ L L',σ = .ok L -> τ = .ok L'->L'.length<L.length):=by
 have tw:∀ {s:Tk} {o:Nat} {σ τ:PS} {L:Tk},s ≠ [] -> σ.left.length<=L.length -> ∀ L1 L',PS.ok L=PS.ok L1->take s o σ = .ok L'->L'.length<L1.length:=by
  intro s o σ τ L hs hl L1 L' e1 e2
  injection e1 with e1;subst e1
  obtain ⟨L2,rfl,h1,_,rfl⟩:=qma e2
  have:=qdu (L:=L2) (by rw [h1];exact hs)
  exact qi this hl
 have sl:∀ {σ:PS} {L:Tk},σ.left.length<L.length -> ∀ L1 L',PS.ok L=PS.ok L1 -> σ = .ok L'->L'.length<L1.length:=by
  intro σ L hl L1 L' e1 e2
  injection e1 with e1;subst e1;subst e2;exact hl
 induction h with
 | bad x=>exact ⟨qg _,fun _ _ _ L L' e=>by cases e⟩
 | num h=>have:=qdu (num_ne h);exact ⟨qah this,fun _ _ _=>sl this⟩
 | var h=>have:=qdu (qtq h);exact ⟨qah this,fun _ _ _=>sl this⟩
 | @load o a L x σ h hx ih =>
  have h0:=qdu (L:=L) (by rw [h];decide)
  have h1:=take_le' [40] o (adv L)
  have h2:=qg4 [41] (o+1) σ
  have h3:=ih.1
  have:(take [41] (o+1) σ).left.length<L.length:=by omega
  exact ⟨qah this,fun _ _ _=>sl this⟩
 | @par o a L x σ h hx ih =>
  have h1:=take_le' [40] o L
  have h2:=qg4 [41] (o+1) σ
  have h3:=ih.1
  exact ⟨by simp only [PS.left] at *;omega,fun _ _ _=>tw (τ:=σ) (by decide) (by omega)⟩
 | nofac x h1 h2 h3 h4=>exact ⟨qg _,fun _ _ _ L L' e e'=>by cases e'⟩
 | @row n o a L x y σ τ hx hy ihx ihy =>
  refine ⟨x3 ihy.1 ihx.1,fun _ hn _ L1 L' e1 e2=>?_⟩
  have hpe:(part n).eats:=by unfold part;split<;>trivial
  subst e2
  cases σ with
  | bad L2=>cases hy
  | ok L2 =>
   have:=ihx.2 (fun m y q=>by unfold part at q;split at q<;>cases q) (fun m q=>by unfold part at q;split at q<;>first|(cases q;decide) | cases q) hpe L L2 rfl rfl
   have h2:=ihy.1
   injection e1 with e1;subst e1
   simp only [PS.left] at h2;omega
 | stop h=>exact ⟨qg _,fun _ _ q=>q.elim⟩
 | @more n o a L x y z σ τ h hy hz ihy ihz =>
  refine ⟨?_,fun _ _ q=>q.elim⟩
  have h1:=ihy.1;have h2:=ihz.1
  by_cases q:L=[]
  ·subst q;simp only [PS.left,adv,skp,wy] at h1 h2 ⊢;omega
  ·have:=qrw q;simp only [PS.left] at h1 h2 ⊢;omega
 | @cnd o a L L1 x y σ hx h hy ihx ihy =>
  have h1:=ihx.1;have h2:=ihy.1;have h3:=qdu (q1c h)
  have:σ.left.length<L.length:=by simp only [PS.left] at *;omega
  exact ⟨qah this,fun _ _ _=>sl this⟩
 | cnd1 z hx ihx=>exact ⟨ihx.1,fun _ _ _ L L' e e'=>by cases e'⟩
 | cnd2 z hx h ihx=>exact ⟨ihx.1,fun _ _ _ L L' e e'=>by cases e'⟩
 | @set o a L v x σ h hx ih =>
  have h0:=qdu (qtq h)
  have h1:=take_le' [61] o (adv L)
  have h2:=qg4 [59] o σ
  have h3:=ih.1
  have:(take [59] o σ).left.length<L.length:=by omega
  exact ⟨qah this,fun _ _ _=>sl this⟩
 | @store o a L x y σ τ h hx hy ihx ihy =>
  have h0:=qdu (L:=L) (by rw [h];decide)
  have h1:=take_le' [40] o (adv L)
  have h2:=qg4 [44] (o+1) σ
  have h3:=qg4 [41] (o+1) τ
  have h4:=qg4 [59] o (take [41] (o+1) τ)
  have h5:=ihx.1;have h6:=ihy.1
  have:(take [59] o (take [41] (o+1) τ)).left.length<L.length:=by omega
  exact ⟨qah this,fun _ _ _=>sl this⟩
 | @ite o a L L2 c l σ h hc hl he ihc ihl =>
  have h0:=qdu (L:=L) (by rw [h];decide)
  have h1:=take_le' [40] o (adv L)
  have h2:=qg4 [41] (o+1) σ
  have h3:=ihc.1;have h4:=ihl.1
  have:(PS.ok L2).left.length<L.length:=by simp only [PS.left] at *;omega
  exact ⟨qah this,fun _ _ _=>sl this⟩
 | @ite1 o a L L2 c l σ h hc hl ihc ihl =>
  have h0:=qdu (L:=L) (by rw [h];decide)
  have h1:=take_le' [40] o (adv L)
  have h2:=qg4 [41] (o+1) σ
  have h3:=ihc.1;have h4:=ihl.1
  have:(PS.bad L2).left.length<L.length:=by simp only [PS.left] at *;omega
  exact ⟨qah this,fun _ _ _=>sl this⟩
 | @ites o a L L2 c l m σ τ h hc hl he hm ihc ihl ihm =>
  have h0:=qdu (L:=L) (by rw [h];decide)
  have h1:=take_le' [40] o (adv L)
  have h2:=qg4 [41] (o+1) σ
  have h3:=ihc.1;have h4:=ihl.1;have h5:=ihm.1
  have h6:=qdu (L:=L2) (by rw [he];decide)
  have:τ.left.length<L.length:=by simp only [PS.left] at *;omega
  exact ⟨qah this,fun _ _ _=>sl this⟩
 | @loop o a L c l σ τ h hc hl ihc ihl =>
  have h0:=qdu (L:=L) (by rw [h];decide)
  have h1:=take_le' [40] o (adv L)
  have h2:=qg4 [41] (o+1) σ
  have h3:=ihc.1;have h4:=ihl.1
  have:τ.left.length<L.length:=by omega
  exact ⟨qah this,fun _ _ _=>sl this⟩
 | @atom o L l τ h hl ihl =>
  have h0:=qdu (L:=L) (by rw [h];decide)
  have h3:=ihl.1
  have:τ.left.length<L.length:=by simp only [PS.left] at *;omega
  exact ⟨qah this,fun _ _ _=>sl this⟩
 | @halt o a L h =>
  have h0:=qdu (L:=L) (by rw [h];decide)
  have h1:=take_le' [59] o (adv L)
  have:(take [59] o (.ok (adv L))).left.length<L.length:=by simp only [PS.left] at *;omega
  exact ⟨qah this,fun _ _ _=>sl this⟩
 | nostm x h1 h2 h3 h4 h5 h6=>exact ⟨qg _,fun _ _ _ L L' e e'=>by cases e'⟩
 | nil h=>exact ⟨qg _,fun _ _ q=>q.elim⟩
 | cons h hs hl ihs ihl=>exact ⟨x3 ihl.1 ihs.1,fun _ _ q=>q.elim⟩
 | @blk o a L l σ hl ih =>
  have h1:=take_le' [123] o L
  have h2:=qg4 [125] (o+1) σ
  have h3:=ih.1
  exact ⟨by simp only [PS.left] at *;omega,fun _ _ _=>tw (τ:=σ) (by decide) (by simp only [PS.left] at h3;omega)⟩
end Lang
end Go.Am
namespace Go.Am.Lang
theorem qrp {a b:UInt8} {c:UInt8} {s:Tk} (h:a<=c/\c<=b):span a b (c::s)=span a b s+1:=by simp only [span,xi h]
theorem vt {a b:UInt8} {c:UInt8} {s:Tk} (h:¬ (a<=c/\c<=b)):span a b (c::s)=0:=by simp only [span,qt h]
theorem qwr (a b:UInt8):∀ (s:Tk) (n:Nat),n<=span a b s -> ∀ c ∈ s.take n,a<=c/\c<=b
 | [],n,_,c,h=>by simp at h
 | x::s,0,_,c,h=>by simp at h
 | x::s,n+1,hn,c,h=>by
  by_cases q:a<=x/\x<=b
  ·rw [qrp q] at hn
   rw [zr] at h
   rcases zg.1 h with rfl|h
   ·exact q
   ·exact qwr a b s n (by omega) c h
  ·rw [vt q] at hn;omega
theorem u8lt {a b:UInt8} (h:a<=b):a.toNat<=b.toNat:=xm.1 h
theorem q30 {L:Tk} {y:UInt8} {s:Tk} (h:tok L=y::s) (h1:48<=y) (h2:y<=57):∀ c ∈ tok L,48<=c/\c<=57:=by
 cases L with
 | nil=>rw [qe5] at h;cases h
 | cons x L =>
  have hx:x=y:=by
   unfold tok at h
   have:=q0x (x::L)
   obtain ⟨m,hm⟩:∃ m,tkn (x::L)=m+1:=⟨tkn (x::L)-1,by omega⟩
   rw [hm,zr] at h
   injection h
  subst hx
  have g1:48<=x.toNat:=u8lt h1
  have g2:x.toNat<=57:=u8lt h2
  have nt:¬ two (x::L):=by
   rintro (q|q|q|q)<;>(cases L<;>simp at q)<;>(rw [q.1] at g1 g2;revert g1 g2;decide)
  have sw:span 97 122 (x::L)=0:=vt fun q=>by have:=u8lt q.1;revert this;show 97<=x.toNat->False;omega
  have sd:=qrp (s:=L) ⟨h1,h2⟩
  have ht:tkn (x::L)=span 48 57 (x::L):=by
   unfold tkn;rw [qt nt,sw];omega
  unfold tok
  rw [ht]
  exact qwr 48 57 _ _ (qg _)
end Go.Am.Lang
namespace Go.Am.Lang
def PS.isBad:PS->Bool
 | .ok _=>false
 | .bad _=>true
theorem qcp {s:Tk} {o:Nat} {σ:PS} (h:(take s o σ).isBad=false):σ.isBad=false:=by
 cases σ with
 | ok L=>rfl
 | bad L=>cases h
theorem P.okIn {nt:NT} {o:Nat} {a:Bool} {σ τ:PS} {x:It} (h:P nt o a σ x τ) (ht:τ.isBad=false):σ.isBad=false:=by
 cases h<;>first|rfl|cases ht
theorem qbl {s:Tk} (hs:s=[40]\/s=[123]) {o:Nat} {σ:PS} (h:(take s o σ).isBad=false):o+1<=50:=by
 cases hq:take s o σ with
 | bad L=>rw [hq] at h;cases h
 | ok L =>
  obtain ⟨_,_,_,q,_⟩:=qma hq
  rcases ke o 50 with w|w
  ·exact w
  ·exact (q ⟨hs,w⟩).elim
def exOf:It->Ex
 | .e x=>x
 | _=>.num 0
def lsOf:It->Ls
 | .l x=>x
 | _=>.nil
end Go.Am.Lang
namespace Go.Am
namespace Lang
structure PEx (n:Nat):Prop where
 fac:∀ (L:Tk) (o:Nat) (a:Bool),L.length<=n -> ∃ x σ,P .fac o a (.ok L) (.e x) σ
 row:∀ (k:Nat) (L:Tk) (o:Nat) (a:Bool),k=1\/k=2->L.length<=n -> ∃ x σ,P (.row k) o a (.ok L) (.e x) σ
 rowl:∀ (k:Nat) (y:Ex) (L:Tk) (o:Nat) (a:Bool),k=1\/k=2->L.length<=n -> ∃ x σ,P (.rowl k y) o a (.ok L) (.e x) σ
 cnd:∀ (L:Tk) (o:Nat) (a:Bool),L.length<=n -> ∃ x σ,P .cnd o a (.ok L) (.c x) σ
 stm:∀ (L:Tk) (o:Nat) (a:Bool),L.length<=n -> ∃ x σ,P .stm o a (.ok L) (.s x) σ
 sts:∀ (e L:Tk) (o:Nat) (a:Bool),L.length<=n -> ∃ x σ,P (.sts e) o a (.ok L) (.l x) σ
 blk:∀ (L:Tk) (o:Nat) (a:Bool),L.length<=n -> ∃ x σ,P .blk o a (.ok L) (.l x) σ
theorem lift {α:Type} {f:α->It} {nt:NT} {o:Nat} {a:Bool} {n:Nat} (d:α) (h:∀ (L:Tk),L.length<=n -> ∃ x σ,P nt o a (.ok L) (f x) σ):∀ σ:PS,σ.left.length<=n -> ∃ x τ,P nt o a σ (f x) τ:=by
 intro σ hs
 cases σ with
 | bad L=>exact ⟨d,_,.bad _⟩
 | ok L=>exact h L hs
theorem P.ex:∀ n,PEx n:=by
 intro n
 induction n with
 | zero =>
  have nil:∀ {L:Tk},L.length<=0->L=[]:=fun h=>yi.1 (Nat.le_zero.1 h)
  have hf:∀ (o:Nat) (a:Bool) (x:It),P .fac o a (.ok []) x (.bad []):=fun o a x=>.nofac x (by rw [qe5];rfl) (by rw [qe5];decide) (by rw [qe5];decide) (by rw [qe5];simp [numOf])
  have hr:∀ (o:Nat) (a:Bool),P (.row 2) o a (.ok []) (.e (.num 0)) (.bad []):=fun o a=>.row (x:=.num 0) (σ:=.bad []) (hf o a _) (.bad _)
  have hr1:∀ (o:Nat) (a:Bool),P (.row 1) o a (.ok []) (.e (.num 0)) (.bad []):=fun o a=>.row (x:=.num 0) (σ:=.bad []) (hr o a) (.bad _)
  have hl:∀ (k:Nat) (y:Ex) (o:Nat) (a:Bool),k=1\/k=2->P (.rowl k y) o a (.ok []) (.e y) (.ok []):=fun k y o a hk=>.stop (by rw [qe5,show sigR []=0 from rfl];omega)
  have hs:∀ (o:Nat) (a:Bool) (x:It),P .stm o a (.ok []) x (.bad []):=fun o a x=>.nostm x (by rw [qe5];rfl) (by rw [qe5];decide) (by rw [qe5];decide) (by rw [qe5];decide) (.inr (by rw [qe5];decide)) (by rw [qe5];decide)
  have ht:∀ (e:Tk) (o:Nat) (a:Bool),∃ x σ,P (.sts e) o a (.ok []) (.l x) σ:=fun e o a=>by
   by_cases q:tok []=e
   ·exact ⟨_,_,.nil q⟩
   ·exact ⟨_,_,.cons q (hs o a (.s .halt)) (.bad (.l .nil))⟩
  refine ⟨fun L o a h=>?_,fun k L o a hk h=>?_,fun k y L o a hk h=>?_,fun L o a h=>?_,fun L o a h=>?_,fun e L o a h=>?_,fun L o a h=>?_⟩<;>rw [nil h]
  ·exact ⟨.num 0,_,hf o a _⟩
  ·rcases hk with rfl|rfl
   ·exact ⟨_,_,hr1 o a⟩
   ·exact ⟨_,_,hr o a⟩
  ·exact ⟨_,_,hl k y o a hk⟩
  ·exact ⟨⟨11,.num 0,.num 0⟩,_,.cnd1 _ (hr1 o a)⟩
  ·exact ⟨.halt,_,hs o a _⟩
  ·exact ht e o a
  ·have e:Lang.take [123] o (.ok [])=.bad []:=by simp [Lang.take,qe5]
   exact ⟨.nil,_,.blk (by rw [e];exact .bad _)⟩
 | succ n ih =>
  have x0:Ex:=.num 0
  have rowS:∀ (o:Nat) (a:Bool) (σ:PS),σ.left.length<=n -> ∃ x τ,P (.row 1) o a σ (.e x) τ:=fun o a=>lift (f:=It.e) (.num 0) fun L h=>ih.row 1 L o a (.inl rfl) h
  have cndS:∀ (o:Nat) (a:Bool) (σ:PS),σ.left.length<=n -> ∃ x τ,P .cnd o a σ (.c x) τ:=fun o a=>lift (f:=It.c) ⟨11,.num 0,.num 0⟩ fun L h=>ih.cnd L o a h
  have blkS:∀ (o:Nat) (a:Bool) (σ:PS),σ.left.length<=n -> ∃ x τ,P .blk o a σ (.l x) τ:=fun o a=>lift (f:=It.l) .nil fun L h=>ih.blk L o a h
  have stsS:∀ (e:Tk) (o:Nat) (a:Bool) (σ:PS),σ.left.length<=n -> ∃ x τ,P (.sts e) o a σ (.l x) τ:=fun e o a=>lift (f:=It.l) .nil fun L h=>ih.sts e L o a h
  have rowlS:∀ (k:Nat) (y:Ex) (o:Nat) (a:Bool) (σ:PS),k=1\/k=2 -> σ.left.length<=n -> ∃ x τ,P (.rowl k y) o a σ (.e x) τ:=fun k y o a σ hk=>lift (f:=It.e) (.num 0) (fun L h=>ih.rowl k y L o a hk h) σ
  have tkl:=fun (s:Tk) (o:Nat) (L:Tk)=>take_le' s o L
  have tks:=fun (s:Tk) (o:Nat) (σ:PS)=>qg4 s o σ
  have fac:∀ (L:Tk) (o:Nat) (a:Bool),L.length<=n+1 -> ∃ x σ,P .fac o a (.ok L) (.e x) σ:=by
   intro L o a hL
   by_cases h1:∃ v,varOf (tok L)=some v
   ·obtain ⟨v,h⟩:=h1;exact ⟨_,_,.var h⟩
   by_cases h2:tok L=wLoad
   ·have h0:=qdu (L:=L) (by rw [h2];decide)
    have:=tkl [40] o (adv L)
    obtain ⟨x,σ,hx⟩:=rowS (o+1) a _ (show (Lang.take [40] o (.ok (adv L))).left.length<=n by omega)
    exact ⟨_,_,.load h2 hx⟩
   by_cases h3:tok L=[40]
   ·by_cases q:∃ L',Lang.take [40] o (.ok L)=.ok L'
    ·obtain ⟨L',hq⟩:=q
     have h0:=q6y (s:=[40]) (by decide) hq
     obtain ⟨x,σ,hx⟩:=rowS (o+1) a (.ok L') (show L'.length<=n by omega)
     rw [<-hq] at hx
     exact ⟨_,_,.par h3 hx⟩
    ·have:∃ L',Lang.take [40] o (.ok L)=.bad L':=by
      cases hq:Lang.take [40] o (.ok L) with
      | ok L'=>exact (q ⟨L',hq⟩).elim
      | bad L'=>exact ⟨L',rfl⟩
     obtain ⟨L',hq⟩:=this
     exact ⟨.num 0,_,.par h3 (by rw [hq];exact .bad _)⟩
   by_cases h4:∃ m,numOf (tok L)=some m
   ·obtain ⟨m,h⟩:=h4;exact ⟨_,_,.num h⟩
   ·refine ⟨.num 0,_,.nofac _ ?_ h2 h3 ?_⟩
    ·cases q:varOf (tok L) with
     | none=>rfl
     | some v=>exact (h1 ⟨v,q⟩).elim
    ·cases q:numOf (tok L) with
     | none=>rfl
     | some v=>exact (h4 ⟨v,q⟩).elim
  have row2:∀ (L:Tk) (o:Nat) (a:Bool),L.length<=n+1 -> ∃ x σ,P (.row 2) o a (.ok L) (.e x) σ:=by
   intro L o a hL
   obtain ⟨x,σ,hx⟩:=fac L o a hL
   cases σ with
   | bad L1=>exact ⟨.num 0,_,.row (n:=2) hx (.bad _)⟩
   | ok L1 =>
    have:=hx.le.2 (fun _ _ q=>by cases q) (fun _ q=>by cases q) trivial L L1 rfl rfl
    obtain ⟨y,τ,hy⟩:=rowlS 2 x o a (.ok L1) (.inr rfl) (show L1.length<=n by omega)
    exact ⟨_,_,.row (n:=2) hx hy⟩
  have row1:∀ (L:Tk) (o:Nat) (a:Bool),L.length<=n+1 -> ∃ x σ,P (.row 1) o a (.ok L) (.e x) σ:=by
   intro L o a hL
   obtain ⟨x,σ,hx⟩:=row2 L o a hL
   cases σ with
   | bad L1=>exact ⟨.num 0,_,.row (n:=1) hx (.bad _)⟩
   | ok L1 =>
    have:=hx.le.2 (fun _ _ q=>by cases q) (fun _ q=>by cases q;decide) trivial L L1 rfl rfl
    obtain ⟨y,τ,hy⟩:=rowlS 1 x o a (.ok L1) (.inl rfl) (show L1.length<=n by omega)
    exact ⟨_,_,.row (n:=1) hx hy⟩
  have rowl:∀ (k:Nat) (y:Ex) (L:Tk) (o:Nat) (a:Bool),k=1\/k=2->L.length<=n+1 -> ∃ x σ,P (.rowl k y) o a (.ok L) (.e x) σ:=by
   intro k y L o a hk hL
   by_cases h:sigR (tok L)=k
   ·have h0:=qdu (L:=L) (q0o (by omega))
    obtain ⟨x,σ,hx⟩:∃ x σ,P (part k) o a (.ok (adv L)) (.e x) σ:=by
     rcases hk with rfl|rfl
     ·exact ih.row 2 (adv L) o a (.inr rfl) (by omega)
     ·exact ih.fac (adv L) o a (by omega)
    have h1:σ.left.length<=(adv L).length:=hx.le.1
    obtain ⟨z,τ,hz⟩:=rowlS k (.bin (sigK (tok L)) y x) o a σ hk (by omega)
    exact ⟨_,_,.more h hx hz⟩
   ·exact ⟨_,_,.stop h⟩
  have cnd:∀ (L:Tk) (o:Nat) (a:Bool),L.length<=n+1 -> ∃ x σ,P .cnd o a (.ok L) (.c x) σ:=by
   intro L o a hL
   obtain ⟨x,σ,hx⟩:=row1 L o a hL
   cases σ with
   | bad L1=>exact ⟨⟨11,.num 0,.num 0⟩,_,.cnd1 _ hx⟩
   | ok L1 =>
    by_cases h:csgK (tok L1)=0
    ·exact ⟨⟨11,.num 0,.num 0⟩,_,.cnd2 _ hx h⟩
    ·have h0:=qdu (L:=L1) (q1c h)
     have h1:L1.length<=L.length:=hx.le.1
     obtain ⟨y,τ,hy⟩:=ih.row 1 (adv L1) o a (.inl rfl) (by omega)
     exact ⟨_,_,.cnd hx h hy⟩
  have blk:∀ (L:Tk) (o:Nat) (a:Bool),L.length<=n+1 -> ∃ x σ,P .blk o a (.ok L) (.l x) σ:=by
   intro L o a hL
   cases hq:Lang.take [123] o (.ok L) with
   | bad L1=>exact ⟨.nil,_,.blk (by rw [hq];exact .bad _)⟩
   | ok L1 =>
    have h0:=q6y (s:=[123]) (by decide) hq
    obtain ⟨x,σ,hx⟩:=ih.sts [125] L1 (o+1) a (by omega)
    exact ⟨_,_,.blk (by rw [hq];exact hx)⟩
  have stm:∀ (L:Tk) (o:Nat) (a:Bool),L.length<=n+1 -> ∃ x σ,P .stm o a (.ok L) (.s x) σ:=by
   intro L o a hL
   by_cases h1:∃ v,varOf (tok L)=some v
   ·obtain ⟨v,h⟩:=h1
    have h0:=qdu (qtq h);have:=tkl [61] o (adv L)
    obtain ⟨x,σ,hx⟩:=rowS o a _ (show (Lang.take [61] o (.ok (adv L))).left.length<=n by omega)
    exact ⟨_,_,.set h hx⟩
   by_cases h2:tok L=wStore
   ·have h0:=qdu (L:=L) (by rw [h2];decide);have:=tkl [40] o (adv L)
    obtain ⟨x,σ,hx⟩:=rowS (o+1) a _ (show (Lang.take [40] o (.ok (adv L))).left.length<=n by omega)
    have:=hx.le.1;have:=tks [44] (o+1) σ
    obtain ⟨y,τ,hy⟩:=rowS (o+1) a _ (show (Lang.take [44] (o+1) σ).left.length<=n by omega)
    exact ⟨_,_,.store h2 hx hy⟩
   have cb:tok L=wIf\/tok L=wWhile -> ∃ c l σ τ,P .cnd (o+1) a (Lang.take [40] o (.ok (adv L))) (.c c) σ/\P .blk o a (Lang.take [41] (o+1) σ) (.l l) τ /\ τ.left.length<=n:=fun h=>by
    have h0:=qdu (L:=L) (by rcases h with h|h<;>(rw [h];decide));have:=tkl [40] o (adv L)
    obtain ⟨c,σ,hc⟩:=cndS (o+1) a _ (show (Lang.take [40] o (.ok (adv L))).left.length<=n by omega)
    have:=hc.le.1;have:=tks [41] (o+1) σ
    obtain ⟨l,τ,hl⟩:=blkS o a _ (show (Lang.take [41] (o+1) σ).left.length<=n by omega)
    have:=hl.le.1
    exact ⟨c,l,σ,τ,hc,hl,by omega⟩
   by_cases h3:tok L=wIf
   ·obtain ⟨c,l,σ,τ,hc,hl,hn⟩:=cb (.inl h3)
    cases τ with
    | bad L2=>exact ⟨_,_,.ite1 h3 hc hl⟩
    | ok L2 =>
     by_cases he:tok L2=wElse
     ·have h0:=qdu (L:=L2) (by rw [he];decide)
      have hn:L2.length<=n:=hn
      obtain ⟨m,τ,hm⟩:=ih.blk (adv L2) o a (by omega)
      exact ⟨_,_,.ites h3 hc hl he hm⟩
     ·exact ⟨_,_,.ite h3 hc hl he⟩
   by_cases h4:tok L=wWhile
   ·obtain ⟨c,l,σ,τ,hc,hl,hn⟩:=cb (.inr h4)
    exact ⟨_,_,.loop h4 hc hl⟩
   by_cases h5:a=false/\tok L=wAtomic
   ·obtain ⟨rfl,h5⟩:=h5
    have h0:=qdu (L:=L) (by rw [h5];decide)
    obtain ⟨l,τ,hl⟩:=ih.blk (adv L) o true (by omega)
    exact ⟨_,_,.atom h5 hl⟩
   by_cases h6:tok L=wHalt
   ·exact ⟨_,_,.halt h6⟩
   ·refine ⟨.halt,_,.nostm _ ?_ h2 h3 h4 ?_ h6⟩
    ·cases q:varOf (tok L) with
     | none=>rfl
     | some v=>exact (h1 ⟨v,q⟩).elim
    ·cases a with
     | true=>exact .inl rfl
     | false=>exact .inr fun q=>h5 ⟨rfl,q⟩
  refine ⟨fac,fun k L o a hk h=>?_,rowl,cnd,stm,fun e L o a h=>?_,blk⟩
  ·rcases hk with rfl|rfl
   ·exact row1 L o a h
   ·exact row2 L o a h
  ·by_cases q:tok L=e
   ·exact ⟨_,_,.nil q⟩
   ·obtain ⟨s,σ,hs⟩:=stm L o a h
    cases σ with
    | bad L1=>exact ⟨_,_,.cons q hs (.bad (.l .nil))⟩
    | ok L1 =>
     have:=hs.le.2 (fun _ _ q=>by cases q) (fun _ q=>by cases q) trivial L L1 rfl rfl
     obtain ⟨l,τ,hl⟩:=ih.sts e L1 o a (by omega)
     exact ⟨_,_,.cons q hs hl⟩
end Lang
end Go.Am
namespace Go.Am
namespace Lang
def sfx:Nat->Tk->List Tk
 | 0,s=>[s]
 | n+1,s=>if s=[] then [[]] else s::sfx n (adv s)
theorem q1u (n:Nat) (s:Tk):(sfx n s)[0]? = some s:=by
 cases n with
 | zero=>rfl
 | succ n=>by_cases h:s=[]<;>simp [sfx,h]
theorem q1v:∀ (n:Nat) (s:Tk),s.length<=n -> ∀ (i:Nat) (L:Tk),(sfx n s)[i]? = some L->L ≠ []->(sfx n s)[i+1]? = some (adv L)
 | 0,s,hn,i,L,h,hL=>by
  have:s=[]:=yi.1 (Nat.le_zero.1 hn)
  subst this
  cases i with
  | zero=>simp [sfx] at h;exact (hL h).elim
  | succ i=>simp [sfx] at h
 | n+1,s,hn,i,L,h,hL=>by
  by_cases q:s=[]
  ·subst q
   cases i with
   | zero=>simp [sfx] at h;exact (hL h).elim
   | succ i=>simp [sfx] at h
  ·simp only [sfx,qt q] at h ⊢
   rw [xv]
   cases i with
   | zero =>
    simp at h;subst h
    exact q1u n _
   | succ i =>
    rw [xv] at h
    exact q1v n (adv s) (by have:=qrw q;omega) i L h hL
theorem q6h:∀ (n:Nat) (s:Tk),(sfx n s).length<=n+1
 | 0,s=>qg _
 | n+1,s=>by
  have:=q6h n (adv s)
  by_cases h:s=[]
  ·simp [sfx,h]
  ·simp only [sfx,qt h,qk];omega
theorem q6g:∀ (n:Nat) (s:Tk),s.length<=n -> ∀ (i:Nat),(sfx n s)[i]? = some []->i+1=(sfx n s).length
 | 0,s,hn,i,h=>by
  cases i with
  | zero=>rfl
  | succ i=>simp [sfx] at h
 | n+1,s,hn,i,h=>by
  by_cases q:s=[]
  ·subst q
   cases i with
   | zero=>rfl
   | succ i=>simp [sfx] at h
  ·simp only [sfx,qt q] at h ⊢
   cases i with
   | zero=>simp at h;exact (q h).elim
   | succ i =>
    rw [xv] at h
    have:=q6g n (adv s) (by have:=qrw q;omega) i h
    simp only [qk];omega
theorem q6i:∀ (n:Nat) (s:Tk),∀ L ∈ sfx n s,L.length<=s.length
 | 0,s,L,h=>by simp [sfx] at h;subst h;exact qg _
 | n+1,s,L,h=>by
  by_cases q:s=[]
  ·subst q;simp [sfx] at h;subst h;exact qg _
  ·simp only [sfx,qt q] at h
   rcases zg.1 h with rfl|h
   ·exact qg _
   ·have:=q6i n (adv s) L h
    have:=qrw q;omega
def places (text:Tk):List Tk:=sfx text.length (skp false text)
theorem qs6 (text:Tk):(places text)[0]? = some (skp false text):=q1u ..
theorem qs7 (text:Tk) (i:Nat) (L:Tk) (h:(places text)[i]? = some L) (hL:L ≠ []):(places text)[i+1]? = some (adv L):=q1v _ _ (qpd _ _) i L h hL
theorem q3g (text:Tk) (i:Nat) (h:(places text)[i]? = some []):i+1=(places text).length:=q6g _ _ (qpd _ _) i h
theorem qut (text:Tk):(places text).length<=text.length+1:=q6h ..
theorem q3h (text:Tk):∀ L ∈ places text,L.length<=text.length:=fun L h=>x3 (q6i _ _ L h) (qpd _ _)
def lcStep (q:Int × Int) (c:UInt8):Int × Int:=if c=10 then (q.1+1,1) else (q.1,q.2+1)
def lc (s:Tk):Int × Int:=s.foldl lcStep (1,1)
theorem lc_snoc (s:Tk) (c:UInt8):lc (s ++ [c])=lcStep (lc s) c:=by simp [lc]
theorem q5f {s:Tk} {i:Nat} {c:UInt8} (h:s[i]? = some c):lc (s.take (i+1))=lcStep (lc (s.take i)) c:=by rw [vk,h];exact lc_snoc _ _
def lcOf (text L:Tk):Int × Int:=lc (text.take (text.length-L.length))
def recOf (text L:Tk):Tk × Int × Int:=(tok L,(lcOf text L).1,(lcOf text L).2)
theorem lc_range (s:Tk):1<=(lc s).1/\(lc s).1<=s.length+1/\1<=(lc s).2/\(lc s).2<=s.length+1:=by
 have key:∀ (s:Tk) (q:Int × Int),1<=q.1->1<=q.2->1<=(s.foldl lcStep q).1/\(s.foldl lcStep q).1<=q.1+s.length/\1<=(s.foldl lcStep q).2/\(s.foldl lcStep q).2<=q.2+s.length:=by
  intro s
  induction s with
  | nil=>intro q h1 h2;simp;omega
  | cons c s ih =>
   intro q h1 h2
   have:=ih (lcStep q c) (by unfold lcStep;split<;>simp<;>omega) (by unfold lcStep;split<;>simp<;>omega)
   have a1:(lcStep q c).1<=q.1+1:=by unfold lcStep;split<;>simp<;>omega
   have a2:(lcStep q c).2<=q.2+1:=by unfold lcStep;split<;>simp<;>omega
   simp only [qak,qk];omega
 have:=key s (1,1) (by decide) (by decide)
 simp only at this
 unfold lc;omega
theorem skp_tok {c:UInt8} {s:Tk} (h:¬ (c=35\/c=32\/c=9\/c=10)):skp false (c::s)=c::s:=by
 have h1:¬ c=35:=fun q=>h (.inl q)
 have h2:¬ (c=32\/c=9\/c=10):=fun q=>h (.inr q)
 simp only [skp,qt h1,qt h2]
theorem qti {c:UInt8} {s:Tk} (h:c=32\/c=9\/c=10):skp false (c::s)=skp false s:=by
 have h1:¬ c=35:=by rintro rfl;rcases h with h|h|h<;>cases h
 simp only [skp,qt h1,xi h]
theorem skp_note {s:Tk}:skp false (35::s)=skp true s:=by simp [skp]
theorem skp_in {c:UInt8} {s:Tk} (h:c ≠ 10):skp true (c::s)=skp true s:=by simp only [skp,qt h]
theorem skp_nl {s:Tk}:skp true (10::s)=skp false (10::s):=by simp [skp]
end Lang
end Go.Am
namespace Go.Am.Lang
theorem q5e:∀ (s:Tk) (q:Int × Int),(∀ c ∈ s,c ≠ 10)->s.foldl lcStep q=(q.1,q.2+s.length)
 | [],q,_=>by simp
 | c::s,q,h=>by
  rw [qak,q5e s _ fun x hx=>h x (by simp [hx]),lcStep,qt (h c (by simp))]
  simp only [qk];congr 1;omega
theorem qyx {a b:UInt8} (ha:10<a):∀ (s:Tk) (n:Nat),n<=span a b s -> ∀ c ∈ s.take n,c ≠ 10:=fun s n hn c hc q=>by
 have:=(qwr a b s n hn c hc).1
 subst q
 have h1:=UInt8.lt_iff_toNat_lt.1 ha
 have h2:=xm.1 this
 omega
theorem tok_no10 {L:Tk} {c:UInt8} {r:Tk} (hc:L=c::r) (h:c ≠ 10):∀ x ∈ tok L,x ≠ 10:=by
 intro x hx
 unfold tok tkn at hx
 split at hx
 ·rename_i q
  rcases q with q|q|q|q<;>(rw [q] at hx;simp at hx;rintro rfl;revert hx;decide)
 ·rcases ke 1 (max (span 97 122 L) (span 48 57 L)) with w|w
  ·rw [Nat.max_eq_right (by omega)] at hx
   rcases Nat.le_total (span 97 122 L) (span 48 57 L) with v|v
   ·rw [Nat.max_eq_right v] at hx;exact qyx (by decide) L _ (qg _) x hx
   ·rw [Nat.max_eq_left v] at hx;exact qyx (by decide) L _ (qg _) x hx
  ·rw [Nat.max_eq_left w,hc] at hx
   simp at hx;subst hx;exact h
theorem lc_tok {text:Tk} {p n:Nat} (h:∀ x ∈ (text.drop p).take n,x ≠ 10) (hn:p+n<=text.length):lc (text.take (p+n))=((lc (text.take p)).1,(lc (text.take p)).2+n):=by
 have e:text.take (p+n)=text.take p++(text.drop p).take n:=by rw [List.take_add]
 rw [e]
 unfold lc
 rw [List.foldl_append,q5e _ _ h,z9,ym,qan (by omega)]
end Go.Am.Lang
namespace Go.Am
namespace Lang
def letr (c:UInt8):Prop:=97<=c/\c<=122
def digt (c:UInt8):Prop:=48<=c/\c<=57
instance (c:UInt8):Decidable (letr c):=by unfold letr;infer_instance
instance (c:UInt8):Decidable (digt c):=by unfold digt;infer_instance
def Sep (R:Tk):Prop:=span 97 122 R=0/\span 48 57 R=0
theorem qjx {c:UInt8} {R:Tk} (h1:¬ letr c) (h2:¬ digt c):Sep (c::R):=⟨vt h1,vt h2⟩
theorem q61 {s:Tk} (h:tkn s=1) {c:UInt8} {R:Tk} (e:s=c::R):tok s=[c]/\adv s=skp false R:=by
 subst e;unfold tok adv;rw [h];exact ⟨rfl,rfl⟩
theorem qi9 {c:UInt8} (R:Tk) (h:c ≠ 61/\c ≠ 33/\c ≠ 60/\c ≠ 62 /\ ¬ letr c /\ ¬ digt c):tok (c::R)=[c]/\adv (c::R)=skp false R:=by
 obtain ⟨h1,h2,h3,h4,h5,h6⟩:=h
 refine q61 ?_ rfl
 have nt:¬ two (c::R):=by
  rintro (q|q|q|q)<;>(rw [zr] at q;injection q with q _;contradiction)
 unfold tkn
 rw [qt nt,vt h5,vt h6];rfl
theorem tok_eq (R:Tk) {c:UInt8} (h:c=61\/c=60):tok (c::32::R)=[c]/\adv (c::32::R)=skp false R:=by
 have e:tkn (c::32::R)=1:=by
  have nt:¬ two (c::32::R):=by rintro (q|q|q|q)<;>(rcases h with rfl|rfl<;>simp at q)
  unfold tkn
  rw [qt nt]
  rcases h with rfl|rfl<;>rw [vt (by decide),vt (by decide)]<;>rfl
 obtain ⟨h1,h2⟩:=q61 e rfl
 exact ⟨h1,by rw [h2];simp [skp]⟩
theorem qwy (R:Tk) {s:Tk} (h:s=[61,61]\/s=[33,61]\/s=[60,60]\/s=[62,62]):tok (s++R)=s/\adv (s++R)=skp false R:=by
 rcases h with rfl|rfl|rfl|rfl<;>(unfold tok adv tkn;rw [xi (by simp [two])];exact ⟨rfl,rfl⟩)
theorem qws {a b:UInt8} {R:Tk} (hR:span a b R=0):∀ w:Tk,(∀ c ∈ w,a<=c/\c<=b)->span a b (w++R)=w.length
 | [],_=>hR
 | c::w,h=>by
  rw [z8,qrp (h c (by simp)),qws hR w fun x hx=>h x (by simp [hx])];rfl
theorem q62 {w R:Tk} (hn:w ≠ []) (h:tkn (w++R)=w.length):tok (w++R)=w/\adv (w++R)=skp false R:=by
 unfold tok adv;rw [h];simp
theorem qgl {w R:Tk} (hn:w ≠ []) (hw:∀ c ∈ w,letr c) (hR:span 97 122 R=0):tok (w++R)=w/\adv (w++R)=skp false R:=by
 refine q62 hn ?_
 obtain ⟨c,r,rfl⟩:∃ c r,w=c::r:=by cases w with|nil=>exact (hn rfl).elim|cons c r=>exact ⟨c,r,rfl⟩
 have hc:=hw c (by simp)
 have h1:97<=c.toNat:=u8lt hc.1
 have h2:c.toNat<=122:=u8lt hc.2
 have nt:¬ two (c::r++R):=by
  rw [z8]
  rintro (q|q|q|q)<;>(rw [zr] at q;injection q with q _;subst q;revert h1;decide)
 have hd:span 48 57 (c::r++R)=0:=vt fun q=>by have:=u8lt q.2;have:c.toNat<=57:=this;omega
 unfold tkn
 rw [qt nt,hd,qws hR _ hw]
 simp
theorem tok_digs {w R:Tk} (hn:w ≠ []) (hw:∀ c ∈ w,digt c) (hR:span 48 57 R=0):tok (w++R)=w/\adv (w++R)=skp false R:=by
 refine q62 hn ?_
 obtain ⟨c,r,rfl⟩:∃ c r,w=c::r:=by cases w with|nil=>exact (hn rfl).elim|cons c r=>exact ⟨c,r,rfl⟩
 have hc:=hw c (by simp)
 have h1:48<=c.toNat:=u8lt hc.1
 have h2:c.toNat<=57:=u8lt hc.2
 have nt:¬ two (c::r++R):=by
  rw [z8]
  rintro (q|q|q|q)<;>(rw [zr] at q;injection q with q _;subst q;revert h1 h2;decide)
 have hd:span 97 122 (c::r++R)=0:=vt fun q=>by have:=u8lt q.1;have:97<=c.toNat:=this;omega
 unfold tkn
 rw [qt nt,hd,qws hR _ hw]
 simp
theorem dec_head:∀ n:Nat,1<=n->(dec n).head? ≠ some 48:=by
 intro n
 induction n using Nat.strongRecOn with
 | ind n ih =>
  intro h1 h
  by_cases h10:n<10
  ·rw [dec_lt h10] at h
   simp only [List.head?_cons,qc] at h
   have:=congrArg UInt8.toNat h
   rw [ju] at this
   have e:(48:UInt8).toNat=48:=rfl
   omega
  ·rw [dec_ge (by omega)] at h
   have:=ih (n / 10) (by omega) (by omega)
   cases hq:dec (n / 10) with
   | nil=>exact qxc _ hq
   | cons c r=>rw [hq] at h this;simp at h this;exact this h
theorem qvf (n:Nat):∀ c ∈ dec n,digt c:=fun c hc=>by
 obtain ⟨h1,h2⟩:=q4x n c hc
 exact ⟨xm.2 h1,xm.2 h2⟩
theorem q5y {n:Nat} (h:n<18446744073709551616):numOf (dec n)=some n:=by
 have hv:valD (dec n)=n:=Tr.valOf_dec n
 have hz:¬ (1<(dec n).length/\(dec n).head? = some 48):=by
  rintro ⟨h1,h2⟩
  rcases ke n 10 with q|q
  ·rw [dec_lt q] at h1;simp at h1
  ·exact dec_head n (by omega) h2
 unfold numOf
 rw [xi ⟨qxc n,qvf n,hz,by rw [hv];exact h⟩,hv]
theorem qk2 {v:Nat} (h:v<=7):∀ c ∈ letter v,letr c:=fun c hc=>by
 unfold letter at hc
 rw [xb] at hc
 subst hc
 exact ⟨xm.2 (by rw [ju];show 97<=_;omega),xm.2 (by rw [ju];show _<=122;omega)⟩
theorem qqv {v:Nat} (h:v<=7):varOf (letter v)=some v:=by
 have e:(UInt8.ofNat (97+v)).toNat=97+v:=by rw [ju];omega
 show (if 97<=UInt8.ofNat (97+v)/\UInt8.ofNat (97+v)<=104 then some ((UInt8.ofNat (97+v)).toNat-97) else none)=some v
 rw [xi ⟨xm.2 (by rw [e];show 97<=_;omega),xm.2 (by rw [e];show _<=104;omega)⟩,e]
 congr 1;omega
theorem q0n {k:Nat} (h:4<=k/\k<=10) (R:Tk):tok (sgn k++(32::R))=sgn k/\adv (sgn k++(32::R))=skp false R/\sigK (sgn k)=k/\sigR (sgn k)=rowOf k/\skp false (sgn k++(32::R))=sgn k++(32::R):=by
 have hb:∀ s:Tk,skp false (32::s)=skp false s:=fun s=>by simp [skp]
 have:k=4\/k=5\/k=6\/k=7\/k=8\/k=9\/k=10:=by omega
 rcases this with rfl|rfl|rfl|rfl|rfl|rfl|rfl
 ·obtain ⟨a,b⟩:=qi9 (c:=43) (32::R) (by decide)
  exact ⟨a,by show adv (43::32::R)=_;rw [b,hb],rfl,rfl,by simp [sgn,skp]⟩
 ·obtain ⟨a,b⟩:=qi9 (c:=45) (32::R) (by decide)
  exact ⟨a,by show adv (45::32::R)=_;rw [b,hb],rfl,rfl,by simp [sgn,skp]⟩
 ·obtain ⟨a,b⟩:=qi9 (c:=42) (32::R) (by decide)
  exact ⟨a,by show adv (42::32::R)=_;rw [b,hb],rfl,rfl,by simp [sgn,skp]⟩
 ·obtain ⟨a,b⟩:=qi9 (c:=38) (32::R) (by decide)
  exact ⟨a,by show adv (38::32::R)=_;rw [b,hb],rfl,rfl,by simp [sgn,skp]⟩
 ·obtain ⟨a,b⟩:=qi9 (c:=94) (32::R) (by decide)
  exact ⟨a,by show adv (94::32::R)=_;rw [b,hb],rfl,rfl,by simp [sgn,skp]⟩
 ·obtain ⟨a,b⟩:=qwy (32::R) (s:=[60,60]) (by decide)
  exact ⟨a,by show adv ([60,60]++32::R)=_;rw [b,hb],rfl,rfl,by simp [sgn,skp]⟩
 ·obtain ⟨a,b⟩:=qwy (32::R) (s:=[62,62]) (by decide)
  exact ⟨a,by show adv ([62,62]++32::R)=_;rw [b,hb],rfl,rfl,by simp [sgn,skp]⟩
theorem csgn_tok {k:Nat} (h:11<=k/\k<=13) (R:Tk):∃ L,skp false (csgn k++R)=L/\csgK (tok L)=k/\sigR (tok L)=0/\adv L=skp false R:=by
 have hb:∀ s:Tk,skp false (32::s)=skp false s:=fun s=>by simp [skp]
 have:k=11\/k=12\/k=13:=by omega
 rcases this with rfl|rfl|rfl
 ·obtain ⟨a,b⟩:=qwy (32::R) (s:=[61,61]) (by decide)
  exact ⟨[61,61]++32::R,by simp [csgn,skp],by rw [a];rfl,by rw [a];rfl,by rw [b,hb]⟩
 ·obtain ⟨a,b⟩:=qwy (32::R) (s:=[33,61]) (by decide)
  exact ⟨[33,61]++32::R,by simp [csgn,skp],by rw [a];rfl,by rw [a];rfl,by rw [b,hb]⟩
 ·obtain ⟨a,b⟩:=tok_eq R (c:=60) (by decide)
  exact ⟨60::32::R,by simp [csgn,skp],by rw [a];rfl,by rw [a];rfl,b⟩
def Nb (s:Tk):Prop:=∃ c r,s=c::r /\ ¬ (c=35\/c=32\/c=9\/c=10)
theorem Nb.skp {s:Tk} (h:Nb s) (R:Tk):skp false (s++R)=s++R:=by
 obtain ⟨c,r,rfl,hc⟩:=h
 have h1:¬ c=35:=fun q=>hc (.inl q)
 have h2:¬ (c=32\/c=9\/c=10):=fun q=>hc (.inr q)
 simp only [z8,Lang.skp,qt h1,qt h2]
theorem Nb.app {s:Tk} (h:Nb s) (t:Tk):Nb (s++t):=by
 obtain ⟨c,r,rfl,hc⟩:=h
 exact ⟨c,r++t,rfl,hc⟩
theorem q5u {s:Tk} (hn:s ≠ []) (h:∀ c ∈ s,letr c):Nb s:=by
 cases s with
 | nil=>exact (hn rfl).elim
 | cons c r =>
  refine ⟨c,r,rfl,?_⟩
  have:=u8lt (h c (by simp)).1
  rintro (rfl|rfl|rfl|rfl)<;>revert this<;>decide
theorem nb_digt {s:Tk} (hn:s ≠ []) (h:∀ c ∈ s,digt c):Nb s:=by
 cases s with
 | nil=>exact (hn rfl).elim
 | cons c r =>
  refine ⟨c,r,rfl,?_⟩
  have:=u8lt (h c (by simp)).1
  rintro (rfl|rfl|rfl|rfl)<;>revert this<;>decide
theorem Ex.nb:∀ (x:Ex) (d:Nat),x.ok->Nb (x.txt d)
 | .num n,d,_=>nb_digt (qxc n) (qvf n)
 | .var v,d,h=>q5u (by simp [Ex.txt,letter]) (qk2 h)
 | .load a,d,_=>⟨108,_,by simp only [Ex.txt,z8,qo];rfl,by decide⟩
 | .bin k a b,d,h=>by
  simp only [Ex.txt,qo]
  by_cases q:rowOf k<d
  ·exact ⟨40,_,by simp only [par,xi q,z8];rfl,by decide⟩
  ·simp only [par,qt q,x8]
   exact (a.nb (rowOf k) h.2.2.1).app _
theorem row12 (k:Nat):rowOf k=1\/rowOf k=2:=by unfold rowOf;split<;>simp
theorem qpe {x:Ex} {d:Nat} (h:x.ok) (R:Tk):skp false (x.txt d++R)=x.txt d++R:=(x.nb d h).skp R
theorem qdk {s:Tk} {o:Nat} {L R:Tk} (h:tok L=s/\adv L=R) (ho:¬ ((s=[40]\/s=[123])/\50<=o)):take s o (.ok L)=.ok R:=by
 simp only [take];rw [xi ⟨h.1,ho⟩,h.2]
theorem t40 (R:Tk):tok (40::R)=[40]/\adv (40::R)=skp false R:=qi9 R (by decide)
theorem t41 (R:Tk):tok (41::R)=[41]/\adv (41::R)=skp false R:=qi9 R (by decide)
theorem t44 (R:Tk):tok (44::R)=[44]/\adv (44::R)=skp false R:=qi9 R (by decide)
theorem t59 (R:Tk):tok (59::R)=[59]/\adv (59::R)=skp false R:=qi9 R (by decide)
theorem t123 (R:Tk):tok (123::R)=[123]/\adv (123::R)=skp false R:=qi9 R (by decide)
theorem t125 (R:Tk):tok (125::R)=[125]/\adv (125::R)=skp false R:=qi9 R (by decide)
theorem s41 (R:Tk):skp false (41::R)=41::R:=by simp [skp]
theorem s59 (R:Tk):skp false (59::R)=59::R:=by simp [skp]
theorem s44 (R:Tk):skp false (44::R)=44::R:=by simp [skp]
structure RdE (x:Ex):Prop where
 f3:∀ (R:Tk) (o:Nat) (a:Bool),Sep R->o+x.dep 3<=50->P .fac o a (.ok (x.txt 3++R)) (.e x) (.ok (skp false R))
 f2:∀ (R:Tk) (o:Nat) (a:Bool) (z:Ex) (τ:PS),Sep R->o+x.dep 2<=50->P (.rowl 2 x) o a (.ok (skp false R)) (.e z) τ->P (.row 2) o a (.ok (x.txt 2++R)) (.e z) τ
 f1:∀ (R:Tk) (o:Nat) (a:Bool) (z:Ex) (τ:PS),Sep R->sigR (tok (skp false R)) ≠ 2->o+x.dep 1<=50->P (.rowl 1 x) o a (.ok (skp false R)) (.e z) τ->P (.row 1) o a (.ok (x.txt 1++R)) (.e z) τ
theorem RdE.of3 {x:Ex} (h:∀ (R:Tk) (o:Nat) (a:Bool),Sep R->o+x.dep 3<=50->P .fac o a (.ok (x.txt 3++R)) (.e x) (.ok (skp false R))) (e2:x.txt 2=x.txt 3/\x.dep 2=x.dep 3) (e1:x.txt 1=x.txt 2/\x.dep 1=x.dep 2):RdE x:=by
 have f2:∀ (R:Tk) (o:Nat) (a:Bool) (z:Ex) (τ:PS),Sep R->o+x.dep 2<=50->P (.rowl 2 x) o a (.ok (skp false R)) (.e z) τ->P (.row 2) o a (.ok (x.txt 2++R)) (.e z) τ:=fun R o a z τ hR ho hz=>by
  rw [e2.1];exact .row (n:=2) (h R o a hR (by rw [<-e2.2];exact ho)) hz
 refine ⟨h,f2,fun R o a z τ hR hs ho hz=>?_⟩
 rw [e1.1]
 exact .row (n:=1) (f2 R o a x _ hR (by rw [<-e1.2];exact ho) (.stop hs)) hz
theorem txt01:∀ x:Ex,x.txt 0=x.txt 1/\x.dep 0=x.dep 1
 | .num _=>⟨rfl,rfl⟩
 | .var _=>⟨rfl,rfl⟩
 | .load _=>⟨rfl,rfl⟩
 | .bin k x y=>by rcases row12 k with h|h<;>simp [Ex.txt,Ex.dep,par,h]
theorem par_f3 {x:Ex} (hx:x.ok) {I:Tk} (e3:x.txt 3=40::(x.txt 1 ++ [41])) (ed:x.dep 3=x.dep 1+1)
 (f1:∀ (R:Tk) (o:Nat) (a:Bool) (z:Ex) (τ:PS),Sep R->sigR (tok (skp false R)) ≠ 2->o+x.dep 1<=50->P (.rowl 1 x) o a (.ok (skp false R)) (.e z) τ->P (.row 1) o a (.ok (x.txt 1++R)) (.e z) τ) (R:Tk) (o:Nat) (a:Bool) (hR:Sep R) (ho:o+x.dep 3<=50) :
 P .fac o a (.ok (x.txt 3++R)) (.e x) (.ok (skp false R)):=by
 have e:x.txt 3++R=40::(x.txt 1++(41::R)):=by rw [e3];simp
 rw [e]
 have h40:=t40 (x.txt 1++(41::R))
 have tk1:take [40] o (.ok (40::(x.txt 1++(41::R))))=.ok (x.txt 1++(41::R)):=qdk ⟨h40.1,by rw [h40.2,qpe hx]⟩ (by omega)
 have n41:sigR (tok (skp false (41::R)))=0:=by rw [s41,(t41 R).1];rfl
 have h1:=f1 (41::R) (o+1) a x (.ok (41::R)) (qjx (by decide) (by decide)) (by rw [n41];decide) (by omega) (by rw [s41];exact .stop (by rw [(t41 R).1];decide))
 have tk2:take [41] (o+1) (.ok (41::R))=.ok (skp false R):=qdk (t41 R) (by simp)
 rw [<-tk2]
 exact .par h40.1 (by rw [tk1];exact h1)
theorem rdE:∀ (x:Ex),x.ok->x.small->RdE x:=by
 intro x
 induction x with
 | num n =>
  intro _ hs
  have hs:n<18446744073709551616:=hs
  refine RdE.of3 (fun R o a hR _=>?_) ⟨rfl,rfl⟩ ⟨rfl,rfl⟩
  obtain ⟨h1,h2⟩:=tok_digs (qxc n) (qvf n) hR.2
  have:=P.num (o:=o) (a:=a) (L:=dec n++R) (n:=n) (by rw [h1];exact q5y hs)
  rw [h2] at this;exact this
 | var v =>
  intro hv _
  have hv:v<=7:=hv
  refine RdE.of3 (fun R o a hR _=>?_) ⟨rfl,rfl⟩ ⟨rfl,rfl⟩
  obtain ⟨h1,h2⟩:=qgl (R:=R) (w:=letter v) (by simp [letter]) (qk2 hv) hR.1
  have:=P.var (o:=o) (a:=a) (L:=letter v++R) (v:=v) (by rw [h1];exact qqv hv)
  rw [h2] at this;exact this
 | load y ih =>
  intro ho hs
  have ih:=ih ho hs
  have e01:y.txt 0=y.txt 1/\y.dep 0=y.dep 1:=txt01 y
  refine RdE.of3 (fun R o a hR hd=>?_) ⟨rfl,rfl⟩ ⟨rfl,rfl⟩
  have hd:o+(1+y.dep 0)<=50:=hd
  have e:Ex.txt (.load y) 3++R=wLoad++(40::(y.txt 1++(41::R))):=by simp [Ex.txt,e01.1]
  rw [e]
  obtain ⟨h1,h2⟩:=qgl (w:=wLoad) (R:=40::(y.txt 1++(41::R))) (by decide) (by decide) (vt (by decide))
  have h40:=t40 (y.txt 1++(41::R))
  have s40:skp false (40::(y.txt 1++(41::R)))=40::(y.txt 1++(41::R)):=by simp [skp]
  have tk1:take [40] o (.ok (adv (wLoad++(40::(y.txt 1++(41::R))))))=.ok (y.txt 1++(41::R)):=by rw [h2,s40];exact qdk ⟨h40.1,by rw [h40.2,qpe (x:=y) ho]⟩ (by omega)
  have n41:sigR (tok (skp false (41::R)))=0:=by rw [s41,(t41 R).1];rfl
  have h3:=ih.f1 (41::R) (o+1) a y (.ok (41::R)) (qjx (by decide) (by decide)) (by rw [n41];decide) (by omega) (by rw [s41];exact .stop (by rw [(t41 R).1];decide))
  have tk2:take [41] (o+1) (.ok (41::R))=.ok (skp false R):=qdk (t41 R) (by simp)
  rw [<-tk2]
  exact .load h1 (by rw [tk1];exact h3)
 | bin k x y ihx ihy =>
  intro ho hs
  obtain ⟨k1,k2,hx,hy⟩:=ho
  have ihx:=ihx hx hs.1
  have ihy:=ihy hy hs.2
  have hok:(Ex.bin k x y).ok:=⟨k1,k2,hx,hy⟩
  have sp:∀ (r:Nat) (R:Tk),skp false (32::(sgn k++(32::(y.txt r++R))))=sgn k++(32::(y.txt r++R)):=fun r R=>by
   have h1:skp false (32::(sgn k++(32::(y.txt r++R))))=skp false (sgn k++(32::(y.txt r++R))):=by simp [skp]
   rw [h1,(q0n ⟨k1,k2⟩ _).2.2.2.2]
  rcases row12 k with hr|hr
  ·-- of the first row
   have t1:Ex.txt (.bin k x y) 1=x.txt 1++(32::(sgn k++(32::y.txt 2))):=by simp [Ex.txt,hr,par]
   have t3:∀ d,d=2\/d=3->Ex.txt (.bin k x y) d=40::(Ex.txt (.bin k x y) 1 ++ [41]):=fun d hd=>by
    rw [t1];rcases hd with rfl|rfl<;>simp [Ex.txt,hr,par]
   have d1:Ex.dep (.bin k x y) 1=max (x.dep 1) (y.dep 2):=by simp [Ex.dep,hr]
   have d3:∀ d,d=2\/d=3->Ex.dep (.bin k x y) d=Ex.dep (.bin k x y) 1+1:=fun d hd=>by
    rw [d1];rcases hd with rfl|rfl<;>simp [Ex.dep,hr]
   have f1:∀ (R:Tk) (o:Nat) (a:Bool) (z:Ex) (τ:PS),Sep R->sigR (tok (skp false R)) ≠ 2->o+(Ex.bin k x y).dep 1<=50->P (.rowl 1 (.bin k x y)) o a (.ok (skp false R)) (.e z) τ->P (.row 1) o a (.ok ((Ex.bin k x y).txt 1++R)) (.e z) τ:=by
    intro R o a z τ hR hsg hd hz
    rw [d1] at hd
    have e:(Ex.bin k x y).txt 1++R=x.txt 1++(32::(sgn k++(32::(y.txt 2++R)))):=by rw [t1];simp
    rw [e]
    obtain ⟨q1,q2,q3,q4,q5⟩:=q0n ⟨k1,k2⟩ (y.txt 2++R)
    refine ihx.f1 _ o a z τ (qjx (by decide) (by decide)) (by rw [sp,q1,q4,hr];decide) (by omega) ?_
    rw [sp]
    refine .more (by rw [q1,q4];exact hr) (σ:=.ok (skp false R)) (y:=y) ?_ (by rw [q1,q3];exact hz)
    rw [q2,qpe hy]
    exact ihy.f2 R o a y _ hR (by omega) (.stop hsg)
   have f3:=par_f3 (I:=[]) hok (t3 3 (.inr rfl)) (d3 3 (.inr rfl)) f1
   refine ⟨f3,fun R o a z τ hR hd hz=>?_,f1⟩
   rw [t3 2 (.inl rfl),<-t3 3 (.inr rfl)]
   exact .row (n:=2) (f3 R o a hR (by rw [d3 3 (.inr rfl),<-d3 2 (.inl rfl)];exact hd)) hz
  ·-- of the second one
   have t2:∀ d,d=1\/d=2->Ex.txt (.bin k x y) d=x.txt 2++(32::(sgn k++(32::y.txt 3))):=fun d hd=>by
    rcases hd with rfl|rfl<;>simp [Ex.txt,hr,par]
   have t3:Ex.txt (.bin k x y) 3=40::(Ex.txt (.bin k x y) 1 ++ [41]):=by rw [t2 1 (.inl rfl)];simp [Ex.txt,hr,par]
   have d2:∀ d,d=1\/d=2->Ex.dep (.bin k x y) d=max (x.dep 2) (y.dep 3):=fun d hd=>by rcases hd with rfl|rfl<;>simp [Ex.dep,hr]
   have d3:Ex.dep (.bin k x y) 3=Ex.dep (.bin k x y) 1+1:=by rw [d2 1 (.inl rfl)];simp [Ex.dep,hr]
   have f2:∀ (R:Tk) (o:Nat) (a:Bool) (z:Ex) (τ:PS),Sep R->o+(Ex.bin k x y).dep 2<=50->P (.rowl 2 (.bin k x y)) o a (.ok (skp false R)) (.e z) τ->P (.row 2) o a (.ok ((Ex.bin k x y).txt 2++R)) (.e z) τ:=by
    intro R o a z τ hR hd hz
    rw [d2 2 (.inr rfl)] at hd
    have e:(Ex.bin k x y).txt 2++R=x.txt 2++(32::(sgn k++(32::(y.txt 3++R)))):=by rw [t2 2 (.inr rfl)];simp
    rw [e]
    obtain ⟨q1,q2,q3,q4,q5⟩:=q0n ⟨k1,k2⟩ (y.txt 3++R)
    refine ihx.f2 _ o a z τ (qjx (by decide) (by decide)) (by omega) ?_
    rw [sp]
    refine .more (by rw [q1,q4];exact hr) (σ:=.ok (skp false R)) (y:=y) ?_ (by rw [q1,q3];exact hz)
    rw [q2,qpe hy]
    exact ihy.f3 R o a hR (by omega)
   have f1:∀ (R:Tk) (o:Nat) (a:Bool) (z:Ex) (τ:PS),Sep R->sigR (tok (skp false R)) ≠ 2->o+(Ex.bin k x y).dep 1<=50->P (.rowl 1 (.bin k x y)) o a (.ok (skp false R)) (.e z) τ->P (.row 1) o a (.ok ((Ex.bin k x y).txt 1++R)) (.e z) τ:=by
    intro R o a z τ hR hsg hd hz
    rw [t2 1 (.inl rfl),<-t2 2 (.inr rfl)]
    exact .row (n:=1) (f2 R o a _ _ hR (by rw [d2 2 (.inr rfl),<-d2 1 (.inl rfl)];exact hd) (.stop hsg)) hz
   exact ⟨par_f3 (I:=[]) hok t3 d3 f1,f2,f1⟩
end Lang
end Go.Am
namespace Go.Am
namespace Lang
theorem qtj (R:Tk):skp false (32::R)=skp false R:=by simp [skp]
theorem q0q (R:Tk):skp false (10::R)=skp false R:=by simp [skp]
theorem q0p:∀ (d:Nat) (R:Tk),skp false (ind d++R)=skp false R:=by
 have key:∀ (n:Nat) (R:Tk),skp false (List.replicate n 32++R)=skp false R:=by
  intro n
  induction n with
  | zero=>intro R;rfl
  | succ n ih=>intro R;rw [qad,z8,qtj,ih]
 exact fun d R=>key _ R
theorem sep41 (R:Tk):Sep (41::R):=qjx (by decide) (by decide)
theorem sep59 (R:Tk):Sep (59::R):=qjx (by decide) (by decide)
theorem sep44 (R:Tk):Sep (44::R):=qjx (by decide) (by decide)
theorem rdE0 {x:Ex} (hx:x.ok) (hs:x.small) {R:Tk} (hR:Sep R) (hg:sigR (tok (skp false R))=0) {o:Nat} {a:Bool} (ho:o+x.dep 0<=50):P (.row 1) o a (.ok (x.txt 0++R)) (.e x) (.ok (skp false R)):=by
 rw [(txt01 x).1]
 exact (rdE x hx hs).f1 R o a x _ hR (by rw [hg];decide) (by rw [<-(txt01 x).2];exact ho) (.stop (by rw [hg];decide))
theorem rdC {c:Cn} (hc:c.ok) (hs:c.small) {o:Nat} {a:Bool} (ho:o+1+c.dep<=50) (R:Tk):∃ σ,P .cnd (o+1) a (take [40] o (.ok (40::(c.txt++(41::R))))) (.c c) σ/\take [41] (o+1) σ = .ok (skp false R):=by
 obtain ⟨k1,k2,ha,hb⟩:=hc
 have hd:c.dep=max (c.a.dep 0) (c.b.dep 0):=rfl
 obtain ⟨L,l1,l2,l3,l4⟩:=csgn_tok ⟨k1,k2⟩ (c.b.txt 0++(41::R))
 have e:c.txt++(41::R)=c.a.txt 0++(csgn c.k++(c.b.txt 0++(41::R))):=by simp [Cn.txt]
 have h40:=t40 (c.txt++(41::R))
 have tk:take [40] o (.ok (40::(c.txt++(41::R))))=.ok (c.a.txt 0++(csgn c.k++(c.b.txt 0++(41::R)))):=qdk ⟨h40.1,by rw [h40.2,e,qpe ha]⟩ (by omega)
 have sepc:Sep (csgn c.k++(c.b.txt 0++(41::R))):=by
  have:c.k=11\/c.k=12\/c.k=13:=by omega
  rcases this with q|q|q<;>(rw [q];exact qjx (c:=32) (by decide) (by decide))
 have n41:sigR (tok (skp false (41::R)))=0:=by rw [s41,(t41 R).1];rfl
 have hx:=rdE0 ha hs.1 sepc (by rw [l1];exact l3) (o:=o+1) (a:=a) (by omega)
 rw [l1] at hx
 have hy:=rdE0 hb hs.2 (sep41 R) n41 (o:=o+1) (a:=a) (by omega)
 rw [s41] at hy
 refine ⟨.ok (41::R),?_,qdk (t41 R) (by simp)⟩
 rw [tk]
 have key:P .cnd (o+1) a (.ok (c.a.txt 0++(csgn c.k++(c.b.txt 0++(41::R))))) (.c ⟨csgK (tok L),c.a,c.b⟩) (.ok (41::R)):=.cnd hx (by rw [l2];omega) (by rw [l4,qpe hb];exact hy)
 rw [l2] at key
 exact key
theorem St.first:∀ (s:St) (d:Nat) (R:Tk),s.ok->Nb (s.txt d)/\tok (s.txt d++R) ≠ wElse/\tok (s.txt d++R) ≠ [125]/\tok (s.txt d++R) ≠ []:=by
 have wd:∀ (w:Tk) (t R:Tk) (c:UInt8),w ≠ []->(∀ x ∈ w,letr x) -> ¬ letr c->Nb (w++(c::t))/\tok (w++(c::t)++R)=w:=fun w t R c hn hw hc=>by
  refine ⟨(q5u hn hw).app _,?_⟩
  rw [qo,z8]
  exact (qgl hn hw (vt hc)).1
 intro s d R ho
 cases s with
 | set v x =>
  have hv:v<=7:=ho.1
  obtain ⟨h1,h2⟩:=wd (letter v) ([61,32]++(x.txt 0 ++ [59])) R 32 (by simp [letter]) (qk2 hv) (by decide)
  have e:St.txt (.set v x) d=letter v++(32::([61,32]++(x.txt 0 ++ [59]))):=by simp [St.txt]
  rw [e]
  refine ⟨h1,?_,?_,?_⟩<;>rw [h2]<;>unfold letter
  ·simp
  ·intro q
   have:=congrArg (fun l:Tk=>(l.headD 0).toNat) q
   simp only [List.headD_cons,ju] at this
   have e2:(125:UInt8).toNat=125:=rfl
   omega
  ·simp
 | store x y =>
  obtain ⟨h1,h2⟩:=wd wStore (x.txt 0++([44,32]++(y.txt 0 ++ [41,59]))) R 40 (by decide) (by decide) (by decide)
  have e:St.txt (.store x y) d=wStore++(40::(x.txt 0++([44,32]++(y.txt 0 ++ [41,59])))):=by simp [St.txt]
  rw [e];exact ⟨h1,by rw [h2];decide,by rw [h2];decide,by rw [h2];decide⟩
 | ite c l =>
  obtain ⟨h1,h2⟩:=wd wIf (40::(c.txt++([41,32]++([123,10]++(l.txt (d+1)++(ind d ++ [125])))))) R 32 (by decide) (by decide) (by decide)
  have e:St.txt (.ite c l) d=wIf++(32::(40::(c.txt++([41,32]++([123,10]++(l.txt (d+1)++(ind d ++ [125]))))))):=by simp [St.txt]
  rw [e];exact ⟨h1,by rw [h2];decide,by rw [h2];decide,by rw [h2];decide⟩
 | ites c l m =>
  obtain ⟨h1,h2⟩:=wd wIf (40::(c.txt++([41,32]++([123,10]++(l.txt (d+1)++(ind d++([125]++([32,101,108,115,101,32]++([123,10]++(m.txt (d+1)++(ind d ++ [125]))))))))))) R 32 (by decide) (by decide) (by decide)
  have e:St.txt (.ites c l m) d=wIf++(32::(40::(c.txt++([41,32]++([123,10]++(l.txt (d+1)++(ind d++([125]++([32,101,108,115,101,32]++([123,10]++(m.txt (d+1)++(ind d ++ [125])))))))))))):=by simp [St.txt]
  rw [e];exact ⟨h1,by rw [h2];decide,by rw [h2];decide,by rw [h2];decide⟩
 | loop c l =>
  obtain ⟨h1,h2⟩:=wd wWhile (40::(c.txt++([41,32]++([123,10]++(l.txt (d+1)++(ind d ++ [125])))))) R 32 (by decide) (by decide) (by decide)
  have e:St.txt (.loop c l) d=wWhile++(32::(40::(c.txt++([41,32]++([123,10]++(l.txt (d+1)++(ind d ++ [125]))))))):=by simp [St.txt]
  rw [e];exact ⟨h1,by rw [h2];decide,by rw [h2];decide,by rw [h2];decide⟩
 | atom l =>
  obtain ⟨h1,h2⟩:=wd wAtomic ([123,10]++(l.txt (d+1)++(ind d ++ [125]))) R 32 (by decide) (by decide) (by decide)
  have e:St.txt (.atom l) d=wAtomic++(32::([123,10]++(l.txt (d+1)++(ind d ++ [125])))):=by simp [St.txt]
  rw [e];exact ⟨h1,by rw [h2];decide,by rw [h2];decide,by rw [h2];decide⟩
 | halt =>
  obtain ⟨h1,h2⟩:=wd wHalt [] R 59 (by decide) (by decide) (by decide)
  have e:St.txt .halt d=wHalt++(59 :: []):=by simp [St.txt]
  rw [e];exact ⟨h1,by rw [h2];decide,by rw [h2];decide,by rw [h2];decide⟩
theorem Ls.first (l:Ls) (d:Nat) (R:Tk) (ho:l.ok) (hR:tok (skp false R) ≠ wElse):tok (skp false (l.txt d++R)) ≠ wElse:=by
 cases l with
 | nil=>exact hR
 | cons s l =>
  obtain ⟨h1,h2,_⟩:=s.first d (10::(l.txt d++R)) ho.1
  have e:Ls.txt (.cons s l) d++R=ind d++(s.txt d++(10::(l.txt d++R))):=by simp [Ls.txt]
  rw [e,q0p,h1.skp];exact h2
def RdL (l:Ls):Prop:=∀ (d o:Nat) (a:Bool) (R e:Tk),l.ok->l.small->(a=true->l.atm=false)->o+l.dep<=50->tok (skp false R)=e->(e=[125]\/e=[])->P (.sts e) o a (.ok (skp false (l.txt d++R))) (.l l) (.ok (skp false R))
def RdS (s:St):Prop:=∀ (d o:Nat) (a:Bool) (R:Tk),s.ok->s.small->(a=true->s.atm=false)->o+s.dep<=50->tok (skp false R) ≠ wElse->P .stm o a (.ok (s.txt d++R)) (.s s) (.ok (skp false R))
theorem rdB {l:Ls} (hl:RdL l) {d o:Nat} {a:Bool} (R:Tk) (ho:l.ok) (hs:l.small) (ha:a=true->l.atm=false) (hd:o+1+l.dep<=50):P .blk o a (.ok (skp false ([123,10]++(l.txt (d+1)++(ind d++(125::R)))))) (.l l) (.ok (skp false R)):=by
 have e1:skp false ([123,10]++(l.txt (d+1)++(ind d++(125::R))))=123::(10::(l.txt (d+1)++(ind d++(125::R)))):=by simp [skp]
 have e2:skp false (ind d++(125::R))=125::R:=by rw [q0p];simp [skp]
 have h1:=hl (d+1) (o+1) a (ind d++(125::R)) [125] ho hs ha hd (by rw [e2];exact (t125 R).1) (.inl rfl)
 rw [e2] at h1
 have h123:=t123 (10::(l.txt (d+1)++(ind d++(125::R))))
 have tk:take [123] o (.ok (123::(10::(l.txt (d+1)++(ind d++(125::R))))))=.ok (skp false (l.txt (d+1)++(ind d++(125::R)))):=qdk ⟨h123.1,by rw [h123.2,q0q]⟩ (by omega)
 have tk2:take [125] (o+1) (.ok (125::R))=.ok (skp false R):=qdk (t125 R) (by simp)
 rw [e1,<-tk2]
 exact .blk (by rw [tk];exact h1)
mutual
theorem rdS:∀ (s:St),RdS s
 | .set v x=>fun d o a R ho hs ha hd he=>by
  have hv:v<=7:=ho.1
  have e:St.txt (.set v x) d++R=letter v++(32::61::32::(x.txt 0++(59::R))):=by simp [St.txt]
  rw [e]
  obtain ⟨h1,h2⟩:=qgl (R:=32::61::32::(x.txt 0++(59::R))) (w:=letter v) (by simp [letter]) (qk2 hv) (vt (by decide))
  have h3:=tok_eq (x.txt 0++(59::R)) (c:=61) (.inl rfl)
  have s61:skp false (32::61::32::(x.txt 0++(59::R)))=61::32::(x.txt 0++(59::R)):=by simp [skp]
  have tk:take [61] o (.ok (adv (letter v++(32::61::32::(x.txt 0++(59::R))))))=.ok (x.txt 0++(59::R)):=by
   rw [h2,s61];exact qdk ⟨h3.1,by rw [h3.2,qpe ho.2]⟩ (by simp)
  have n59:sigR (tok (skp false (59::R)))=0:=by rw [s59,(t59 R).1];rfl
  have hx:=rdE0 ho.2 hs (sep59 R) n59 (o:=o) (a:=a) hd
  rw [s59] at hx
  have tk2:take [59] o (.ok (59::R))=.ok (skp false R):=qdk (t59 R) (by simp)
  rw [<-tk2]
  exact .set (by rw [h1];exact qqv hv) (by rw [tk];exact hx)
 | .store x y=>fun d o a R ho hs ha hd he=>by
  have hd:o+(1+max (x.dep 0) (y.dep 0))<=50:=hd
  have e:St.txt (.store x y) d++R=wStore++(40::(x.txt 0++(44::32::(y.txt 0++(41::59::R))))):=by simp [St.txt]
  rw [e]
  obtain ⟨h1,h2⟩:=qgl (R:=40::(x.txt 0++(44::32::(y.txt 0++(41::59::R))))) (w:=wStore) (by decide) (by decide) (vt (by decide))
  have h40:=t40 (x.txt 0++(44::32::(y.txt 0++(41::59::R))))
  have s40:skp false (40::(x.txt 0++(44::32::(y.txt 0++(41::59::R)))))=40::(x.txt 0++(44::32::(y.txt 0++(41::59::R)))):=by simp [skp]
  have tk:take [40] o (.ok (adv (wStore++(40::(x.txt 0++(44::32::(y.txt 0++(41::59::R))))))))=.ok (x.txt 0++(44::32::(y.txt 0++(41::59::R)))):=by
   rw [h2,s40];exact qdk ⟨h40.1,by rw [h40.2,qpe ho.1]⟩ (by omega)
  have n44:sigR (tok (skp false (44::32::(y.txt 0++(41::59::R)))))=0:=by rw [s44,(t44 _).1];rfl
  have hx:=rdE0 ho.1 hs.1 (sep44 _) n44 (o:=o+1) (a:=a) (by omega)
  rw [s44] at hx
  have h44:=t44 (32::(y.txt 0++(41::59::R)))
  have tk2:take [44] (o+1) (.ok (44::32::(y.txt 0++(41::59::R))))=.ok (y.txt 0++(41::59::R)):=qdk ⟨h44.1,by rw [h44.2,qtj,qpe ho.2]⟩ (by simp)
  have n41:sigR (tok (skp false (41::59::R)))=0:=by rw [s41,(t41 _).1];rfl
  have hy:=rdE0 ho.2 hs.2 (sep41 _) n41 (o:=o+1) (a:=a) (by omega)
  rw [s41] at hy
  have tk3:take [41] (o+1) (.ok (41::59::R))=.ok (59::R):=qdk ⟨(t41 _).1,by rw [(t41 _).2,s59]⟩ (by simp)
  have tk4:take [59] o (take [41] (o+1) (.ok (41::59::R)))=.ok (skp false R):=by rw [tk3];exact qdk (t59 R) (by simp)
  rw [<-tk4]
  exact .store h1 (by rw [tk];exact hx) (by rw [tk2];exact hy)
 | .ite c l=>fun d o a R ho hs ha hd he=>by
  have hd:o+(1+max c.dep l.dep)<=50:=hd
  have e:St.txt (.ite c l) d++R=wIf++(32::(40::(c.txt++(41::32::([123,10]++(l.txt (d+1)++(ind d++(125::R)))))))):=by simp [St.txt]
  rw [e]
  obtain ⟨h1,h2⟩:=qgl (R:=32::(40::(c.txt++(41::32::([123,10]++(l.txt (d+1)++(ind d++(125::R)))))))) (w:=wIf) (by decide) (by decide) (vt (by decide))
  have s40:adv (wIf++(32::(40::(c.txt++(41::32::([123,10]++(l.txt (d+1)++(ind d++(125::R)))))))))=40::(c.txt++(41::32::([123,10]++(l.txt (d+1)++(ind d++(125::R)))))):=by rw [h2];simp [skp]
  obtain ⟨σ,hc,tk⟩:=rdC ho.1 hs.1 (o:=o) (a:=a) (by omega) (32::([123,10]++(l.txt (d+1)++(ind d++(125::R)))))
  rw [qtj] at tk
  have hb:=rdB (rdL l) (d:=d) (o:=o) (a:=a) R ho.2 hs.2 (fun q=>ha q) (by omega)
  exact .ite h1 (by rw [s40];exact hc) (by rw [tk];exact hb) he
 | .ites c l m=>fun d o a R ho hs ha hd he=>by
  have hd:o+(1+max c.dep (max l.dep m.dep))<=50:=hd
  have ha':a=true->l.atm=false/\m.atm=false:=fun q=>by
   have:=ha q
   simp only [St.atm,Bool.or_eq_false_iff] at this;exact this
  obtain ⟨T,hT⟩:∃ T,T=32::(wElse++(32::([123,10]++(m.txt (d+1)++(ind d++(125::R)))))):=⟨_,rfl⟩
  have e:St.txt (.ites c l m) d++R=wIf++(32::(40::(c.txt++(41::32::([123,10]++(l.txt (d+1)++(ind d++(125::T)))))))):=by rw [hT];simp [St.txt]
  rw [e]
  obtain ⟨h1,h2⟩:=qgl (R:=32::(40::(c.txt++(41::32::([123,10]++(l.txt (d+1)++(ind d++(125::T)))))))) (w:=wIf) (by decide) (by decide) (vt (by decide))
  have s40:adv (wIf++(32::(40::(c.txt++(41::32::([123,10]++(l.txt (d+1)++(ind d++(125::T)))))))))=40::(c.txt++(41::32::([123,10]++(l.txt (d+1)++(ind d++(125::T)))))):=by rw [h2];simp [skp]
  obtain ⟨σ,hc,tk⟩:=rdC ho.1 hs.1 (o:=o) (a:=a) (by omega) (32::([123,10]++(l.txt (d+1)++(ind d++(125::T)))))
  rw [qtj] at tk
  have hb:=rdB (rdL l) (d:=d) (o:=o) (a:=a) T ho.2.1 hs.2.1 (fun q=>(ha' q).1) (by omega)
  have hm:=rdB (rdL m) (d:=d) (o:=o) (a:=a) R ho.2.2 hs.2.2 (fun q=>(ha' q).2) (by omega)
  obtain ⟨g1,g2⟩:=qgl (R:=32::([123,10]++(m.txt (d+1)++(ind d++(125::R))))) (w:=wElse) (by decide) (by decide) (vt (by decide))
  have sT:skp false T=wElse++(32::([123,10]++(m.txt (d+1)++(ind d++(125::R))))):=by rw [hT];simp [skp]
  rw [sT] at hb
  exact .ites h1 (by rw [s40];exact hc) (by rw [tk];exact hb) g1 (by rw [g2,qtj];exact hm)
 | .loop c l=>fun d o a R ho hs ha hd he=>by
  have hd:o+(1+max c.dep l.dep)<=50:=hd
  have e:St.txt (.loop c l) d++R=wWhile++(32::(40::(c.txt++(41::32::([123,10]++(l.txt (d+1)++(ind d++(125::R)))))))):=by simp [St.txt]
  rw [e]
  obtain ⟨h1,h2⟩:=qgl (R:=32::(40::(c.txt++(41::32::([123,10]++(l.txt (d+1)++(ind d++(125::R)))))))) (w:=wWhile) (by decide) (by decide) (vt (by decide))
  have s40:adv (wWhile++(32::(40::(c.txt++(41::32::([123,10]++(l.txt (d+1)++(ind d++(125::R)))))))))=40::(c.txt++(41::32::([123,10]++(l.txt (d+1)++(ind d++(125::R)))))):=by rw [h2];simp [skp]
  obtain ⟨σ,hc,tk⟩:=rdC ho.1 hs.1 (o:=o) (a:=a) (by omega) (32::([123,10]++(l.txt (d+1)++(ind d++(125::R)))))
  rw [qtj] at tk
  have hb:=rdB (rdL l) (d:=d) (o:=o) (a:=a) R ho.2 hs.2 (fun q=>ha q) (by omega)
  exact .loop h1 (by rw [s40];exact hc) (by rw [tk];exact hb)
 | .atom l=>fun d o a R ho hs ha hd he=>by
  have hd:o+(1+l.dep)<=50:=hd
  have haf:a=false:=by
   cases a with
   | false=>rfl
   | true=>have:=ha rfl;cases this
  subst haf
  have e:St.txt (.atom l) d++R=wAtomic++(32::([123,10]++(l.txt (d+1)++(ind d++(125::R))))):=by simp [St.txt]
  rw [e]
  obtain ⟨h1,h2⟩:=qgl (R:=32::([123,10]++(l.txt (d+1)++(ind d++(125::R))))) (w:=wAtomic) (by decide) (by decide) (vt (by decide))
  have hb:=rdB (rdL l) (d:=d) (o:=o) (a:=true) R ho.1 hs (fun _=>ho.2) (by omega)
  exact .atom h1 (by rw [h2,qtj];exact hb)
 | .halt=>fun d o a R ho hs ha hd he=>by
  have e:St.txt .halt d++R=wHalt++(59::R):=by simp [St.txt]
  rw [e]
  obtain ⟨h1,h2⟩:=qgl (R:=59::R) (w:=wHalt) (by decide) (by decide) (vt (by decide))
  have tk:take [59] o (.ok (adv (wHalt++(59::R))))=.ok (skp false R):=by rw [h2,s59];exact qdk (t59 R) (by simp)
  rw [<-tk]
  exact .halt h1
theorem rdL:∀ (l:Ls),RdL l
 | .nil=>fun d o a R e ho hs ha hd he h=>by
  show P (.sts e) o a (.ok (skp false R)) (.l .nil) (.ok (skp false R))
  exact .nil he
 | .cons s l=>fun d o a R e ho hs ha hd he h=>by
  have hd:o+max s.dep l.dep<=50:=hd
  have ha':a=true->s.atm=false/\l.atm=false:=fun q=>by
   have:=ha q
   simp only [Ls.atm,Bool.or_eq_false_iff] at this;exact this
  have e1:Ls.txt (.cons s l) d++R=ind d++(s.txt d++(10::(l.txt d++R))):=by simp [Ls.txt]
  obtain ⟨f1,f2,f3,f4⟩:=s.first d (10::(l.txt d++R)) ho.1
  rw [e1,q0p,f1.skp]
  have hne:tok (s.txt d++(10::(l.txt d++R))) ≠ e:=by rcases h with rfl|rfl;exact f3;exact f4
  have hR:tok (skp false R) ≠ wElse:=by rw [he];rcases h with rfl|rfl<;>decide
  have h1:=rdS s d o a (10::(l.txt d++R)) ho.1 hs.1 (fun q=>(ha' q).1) (by omega) (by rw [q0q];exact l.first d R ho.2 hR)
  rw [q0q] at h1
  exact .cons hne h1 (rdL l d o a R e ho.2 hs.2 (fun q=>(ha' q).2) (by omega) he h)
end
theorem Ls.back {p:Ls} (ho:p.ok) (hs:p.small) (hd:p.dep<=50):P (.sts []) 0 false (.ok (skp false (p.txt 0))) (.l p) (.ok []):=by
 have:=rdL p 0 0 false [] [] ho hs (fun q=>by cases q) (by omega) (by simp [skp,qe5]) (.inr rfl)
 simpa [skp] using this
end Lang
end Go.Am
namespace Go.Am
namespace Lang
mutual
theorem St.txt_dep:∀ (x:St) (d k:Nat),x.small->d+x.dep<=k->(x.txt d).length+(2*d+1)<=(40+8*k)*x.sz
 | .set v a,d,k,h,hd=>by
  have:=a.txt_len 0 h
  simp only [St.txt,St.sz,letter,qe,qk,qu,ku]
  have:8*k*(a.sz+1)=8*k*a.sz+8*k:=by rw [qa6,yu]
  omega
 | .store a b,d,k,h,hd=>by
  have:=a.txt_len 0 h.1;have:=b.txt_len 0 h.2
  simp only [St.dep] at hd
  have e:(40+8*k)*(a.sz+b.sz+1)=40*a.sz+8*k*a.sz+(40*b.sz+8*k*b.sz)+(40+8*k):=by simp only [qa6,yu,ku]
  simp only [St.txt,St.sz,qe,qk,qu];omega
 | .ite c l,d,k,h,hd=>by
  simp only [St.dep] at hd
  have cp:=c.pos
  have:=c.txt_len h.1;have:=l.txt_dep (d+1) k h.2 (by omega);have:=qed d
  have e:(40+8*k)*(c.sz+(l.sz+1)+1)=(40+8*k)*c.sz+(40+8*k)*l.sz+(40+8*k)+(40+8*k):=by simp only [qa6,yu];omega
  have e2:30*c.sz<=(40+8*k)*c.sz:=zi _ (by omega)
  simp only [St.txt,St.sz,qe,qk,qu];omega
 | .ites c l m,d,k,h,hd=>by
  simp only [St.dep] at hd
  have cp:=c.pos
  have:=c.txt_len h.1;have:=l.txt_dep (d+1) k h.2.1 (by omega);have:=m.txt_dep (d+1) k h.2.2 (by omega);have:=qed d
  have e:(40+8*k)*(c.sz+(l.sz+1)+(m.sz+1)+1)=(40+8*k)*c.sz+(40+8*k)*l.sz+(40+8*k)*m.sz+(40+8*k)+(40+8*k)+(40+8*k):=by simp only [qa6,yu];omega
  have e2:30*c.sz<=(40+8*k)*c.sz:=zi _ (by omega)
  simp only [St.txt,St.sz,qe,qk,qu];omega
 | .loop c l,d,k,h,hd=>by
  simp only [St.dep] at hd
  have cp:=c.pos
  have:=c.txt_len h.1;have:=l.txt_dep (d+1) k h.2 (by omega);have:=qed d
  have e:(40+8*k)*(c.sz+(l.sz+1)+1)=(40+8*k)*c.sz+(40+8*k)*l.sz+(40+8*k)+(40+8*k):=by simp only [qa6,yu];omega
  have e2:30*c.sz<=(40+8*k)*c.sz:=zi _ (by omega)
  simp only [St.txt,St.sz,qe,qk,qu];omega
 | .atom l,d,k,h,hd=>by
  simp only [St.dep] at hd
  have:=l.txt_dep (d+1) k h (by omega);have:=qed d
  have e:(40+8*k)*(l.sz+1+1)=(40+8*k)*l.sz+(40+8*k)+(40+8*k):=by simp only [qa6,yu]
  simp only [St.txt,St.sz,qe,qk,qu];omega
 | .halt,d,k,h,hd=>by simp only [St.txt,St.sz,qk,qu];omega
theorem Ls.txt_dep:∀ (x:Ls) (d k:Nat),x.small->d+x.dep<=k->(x.txt d).length<=(40+8*k)*x.sz
 | .nil,d,k,h,hd=>by simp [Ls.txt]
 | .cons s l,d,k,h,hd=>by
  simp only [Ls.dep] at hd
  have:=s.txt_dep d k h.1 (by omega);have:=l.txt_dep d k h.2 (by omega);have:=qed d
  have e:(40+8*k)*(s.sz+l.sz)=(40+8*k)*s.sz+(40+8*k)*l.sz:=qa6 ..
  simp only [Ls.txt,Ls.sz,qe,qk,qu];omega
end
theorem qbd (L:Tk):(PS.ok L).left=L:=rfl
theorem qfd (L:Tk):(PS.bad L).left=L:=rfl
theorem qb7 {s:Tk} (hs:s ≠ []) {o:Nat} {σ:PS} (h:(take s o σ).isBad=false):(take s o σ).left.length+1 <= σ.left.length:=by
 cases hq:take s o σ with
 | bad L=>rw [hq] at h;cases h
 | ok L =>
  obtain ⟨L1,rfl,h1,_,rfl⟩:=qma hq
  exact qdu (by rw [h1];exact hs)
theorem qjd:∀ (x:Ex),x.dep 0=x.dep 1/\x.dep 1<=x.dep 2/\x.dep 2<=x.dep 3/\x.dep 3<=x.dep 1+1
 | .num _=>by simp [Ex.dep]
 | .var _=>by simp [Ex.dep]
 | .load _=>by simp [Ex.dep]
 | .bin k x y=>by rcases row12 k with h|h<;>simp [Ex.dep,h]
theorem q13 {t:Tk} {v:Nat} (h:varOf t=some v):v<=7:=by
 unfold varOf at h
 split at h
 ·rename_i c
  split at h
  ·rename_i q;injection h with h;have:=u8lt q.2;have e:(104:UInt8).toNat=104:=rfl;omega
  ·cases h
 ·cases h
theorem numOf_lt {t:Tk} {n:Nat} (h:numOf t=some n):n<18446744073709551616:=by
 unfold numOf at h
 split at h
 ·rename_i q;injection h with h;rw [<-h];exact q.2.2.2
 ·cases h
theorem sigK_ok {t:Tk} {n:Nat} (h:sigR t=n) (hn:n ≠ 0):4<=sigK t/\sigK t<=10/\rowOf (sigK t)=n:=by
 have h0:sigK t ≠ 0:=fun q=>hn (by rw [<-h];unfold sigR;rw [xi q])
 refine ⟨?_,?_,by rw [<-h];unfold sigR;rw [qt h0]⟩<;>(unfold sigK at h0 ⊢;(repeat' split)<;>simp_all)
theorem csgK_ok {t:Tk} (h:csgK t ≠ 0):11<=csgK t/\csgK t<=13:=by
 unfold csgK at h ⊢;(repeat' split)<;>simp_all
def GdE (x:Ex) (o d:Nat) (σ τ:PS):Prop:=x.ok/\x.small/\o+x.dep d<=50/\x.sz + τ.left.length <= σ.left.length
def Gd (nt:NT) (o:Nat) (a:Bool) (σ:PS) (x:It) (τ:PS):Prop:=match nt with
 | .fac=>∃ e,x=.e e/\GdE e o 3 σ τ
 | .row n=>n=1\/n=2 -> ∃ e,x=.e e/\GdE e o n σ τ
 | .rowl n y=>n=1\/n=2->y.ok->y.small->o+y.dep n<=50 -> ∃ e,x=.e e/\e.ok/\e.small/\o+e.dep n<=50/\e.sz + τ.left.length <= σ.left.length+y.sz
 | .cnd=>∃ c,x=.c c/\c.ok/\c.small/\o+c.dep<=50/\c.sz + τ.left.length <= σ.left.length
 | .stm=>∃ s,x=.s s/\s.ok/\s.small/\o+s.dep<=50/\s.sz + τ.left.length <= σ.left.length/\(a=true->s.atm=false)
 | .sts _=>∃ l,x=.l l/\l.ok/\l.small/\o+l.dep<=50/\l.sz + τ.left.length <= σ.left.length/\(a=true->l.atm=false)
 | .blk=>∃ l,x=.l l/\l.ok/\l.small/\o+1+l.dep<=50/\l.sz+1 + τ.left.length <= σ.left.length/\(a=true->l.atm=false)
theorem q5c {n o:Nat} {a:Bool} {σ τ:PS} {x:It} (hn:n=1\/n=2) (h:Gd (part n) o a σ x τ):∃ e,x=.e e/\GdE e o (n+1) σ τ:=by
 rcases hn with rfl|rfl
 ·exact h (.inr rfl)
 ·exact h
theorem P.good {nt:NT} {o:Nat} {a:Bool} {σ τ:PS} {x:It} (h:P nt o a σ x τ):τ.isBad=false->(σ.isBad=false->o<=50)->Gd nt o a σ x τ:=by
 have adv1:∀ {L:Tk},tok L ≠ []->(adv L).length+1<=L.length:=fun h=>qdu h
 induction h with
 | bad x=>intro h;cases h
 | @num o a L n h =>
  intro _ ho
  have:=adv1 (num_ne h)
  exact ⟨_,rfl,trivial,numOf_lt h,by simpa [Ex.dep] using ho rfl,by simp only [qbd,Ex.sz];omega⟩
 | @var o a L v h =>
  intro _ ho
  have:=adv1 (qtq h)
  exact ⟨_,rfl,q13 h,trivial,by simpa [Ex.dep] using ho rfl,by simp only [qbd,Ex.sz];omega⟩
 | @load o a L x σ h hx ih =>
  intro hb ho
  have hσ:=qcp hb
  have h1:=hx.okIn hσ
  obtain ⟨e,he,g1,g2,g3,g4⟩:=ih hσ (fun q=>qbl (.inl rfl) q) (.inl rfl)
  injection he with he;subst he
  have:=qb7 (s:=[41]) (by decide) hb
  have:=qb7 (s:=[40]) (by decide) h1
  have:=adv1 (L:=L) (by rw [h];decide)
  have hd:=qjd x
  simp only [qbd,qfd] at *
  exact ⟨_,rfl,g1,g2,by simp only [Ex.dep];omega,by simp only [qbd,Ex.sz];omega⟩
 | @par o a L x σ h hx ih =>
  intro hb ho
  have hσ:=qcp hb
  have h1:=hx.okIn hσ
  obtain ⟨e,he,g1,g2,g3,g4⟩:=ih hσ (fun q=>qbl (.inl rfl) q) (.inl rfl)
  injection he with he;subst he
  have:=qb7 (s:=[41]) (by decide) hb
  have:=qb7 (s:=[40]) (by decide) h1
  have hd:=qjd x
  simp only [qbd,qfd] at *
  exact ⟨_,rfl,g1,g2,by omega,by simp only [qbd];omega⟩
 | nofac x h1 h2 h3 h4=>intro h;cases h
 | @row n o a L x y σ τ hx hy ihx ihy =>
  intro hb ho hn
  have hσ:=hy.okIn hb
  obtain ⟨e,he,g1,g2,g3,g4⟩:=q5c hn (ihx hσ ho)
  injection he with he;subst he
  have hd:=qjd x
  have g3':o+x.dep n<=50:=by rcases hn with rfl|rfl<;>(simp only [Nat.reduceAdd] at g3;omega)
  obtain ⟨z,hz,k1,k2,k3,k4⟩:=ihy hb (fun _=>ho rfl) hn g1 g2 g3'
  exact ⟨z,hz,k1,k2,k3,by omega⟩
 | @stop n o a L x h=>intro _ _ _ h1 h2 h3;exact ⟨_,rfl,h1,h2,h3,by omega⟩
 | @more n o a L x y z σ τ h hy hz ihy ihz =>
  intro hb ho hn h1 h2 h3
  have hn0:n ≠ 0:=by omega
  have hσ:=hz.okIn hb
  obtain ⟨e,he,g1,g2,g3,g4⟩:=q5c hn (ihy hσ fun _=>ho rfl)
  injection he with he;subst he
  obtain ⟨s1,s2,s3⟩:=sigK_ok h hn0
  have:=adv1 (L:=L) (q0o (by omega))
  have hdep:(Ex.bin (sigK (tok L)) x y).dep n=max (x.dep n) (y.dep (n+1)):=by simp [Ex.dep,s3]
  have g3:o+y.dep (n+1)<=50:=g3
  obtain ⟨w,hw,k1,k2,k3,k4⟩:=ihz hb (fun _=>ho rfl) hn ⟨s1,s2,h1,g1⟩ ⟨h2,g2⟩ (by rw [hdep];omega)
  simp only [qbd,qfd,Ex.sz] at *
  exact ⟨w,hw,k1,k2,k3,by omega⟩
 | @cnd o a L L1 x y σ hx h hy ihx ihy =>
  intro hb ho
  obtain ⟨e,he,g1,g2,g3,g4⟩:=ihx rfl ho (.inl rfl)
  injection he with he;subst he
  obtain ⟨e,he,k1,k2,k3,k4⟩:=ihy hb (fun _=>ho rfl) (.inl rfl)
  injection he with he;subst he
  obtain ⟨c1,c2⟩:=csgK_ok h
  have:=adv1 (q1c h)
  have hd1:=qjd x
  have hd2:=qjd y
  simp only [qbd,qfd] at *
  exact ⟨_,rfl,⟨c1,c2,g1,k1⟩,⟨g2,k2⟩,by simp only [Cn.dep];omega,by simp only [qbd,Cn.sz];omega⟩
 | cnd1 z hx ihx=>intro h;cases h
 | cnd2 z hx h ihx=>intro h;cases h
 | @set o a L v x σ h hx ih =>
  intro hb ho
  have hσ:=qcp hb
  have h1:=hx.okIn hσ
  obtain ⟨e,he,g1,g2,g3,g4⟩:=ih hσ (fun _=>ho rfl) (.inl rfl)
  injection he with he;subst he
  have:=qb7 (s:=[59]) (by decide) hb
  have:=qb7 (s:=[61]) (by decide) h1
  have:=adv1 (qtq h)
  have hd:=qjd x
  simp only [qbd,qfd] at *
  exact ⟨_,rfl,⟨q13 h,g1⟩,g2,by simp only [St.dep];omega,by simp only [qbd,St.sz];omega,fun _=>rfl⟩
 | @store o a L x y σ τ h hx hy ihx ihy =>
  intro hb ho
  have hb1:=qcp hb
  have hτ:=qcp hb1
  have h2:=hy.okIn hτ
  have hσ:=qcp h2
  have h1:=hx.okIn hσ
  obtain ⟨e,he,g1,g2,g3,g4⟩:=ihx hσ (fun q=>qbl (.inl rfl) q) (.inl rfl)
  injection he with he;subst he
  obtain ⟨e,he,k1,k2,k3,k4⟩:=ihy hτ (fun _=>qbl (.inl rfl) h1) (.inl rfl)
  injection he with he;subst he
  have:=qb7 (s:=[59]) (by decide) hb
  have:=qb7 (s:=[41]) (by decide) hb1
  have:=qb7 (s:=[44]) (by decide) h2
  have:=qb7 (s:=[40]) (by decide) h1
  have:=adv1 (L:=L) (by rw [h];decide)
  have hd1:=qjd x
  have hd2:=qjd y
  simp only [qbd,qfd] at *
  exact ⟨_,rfl,⟨g1,k1⟩,⟨g2,k2⟩,by simp only [St.dep];omega,by simp only [qbd,St.sz];omega,fun _=>rfl⟩
 | @ite o a L L2 c l σ h hc hl he ihc ihl =>
  intro hb ho
  have h2:=hl.okIn hb
  have hσ:=qcp h2
  have h1:=hc.okIn hσ
  obtain ⟨e,he,g1,g2,g3,g4⟩:=ihc hσ (fun q=>qbl (.inl rfl) q)
  injection he with he;subst he
  obtain ⟨e,he,k1,k2,k3,k4,k5⟩:=ihl hb (fun _=>ho rfl)
  injection he with he;subst he
  have:=qb7 (s:=[41]) (by decide) h2
  have:=qb7 (s:=[40]) (by decide) h1
  have:=adv1 (L:=L) (by rw [h];decide)
  simp only [qbd,qfd] at *
  exact ⟨_,rfl,⟨g1,k1⟩,⟨g2,k2⟩,by simp only [St.dep];omega,by simp only [qbd,St.sz];omega,fun q=>k5 q⟩
 | ite1 h hc hl ihc ihl=>intro h;cases h
 | @ites o a L L2 c l m σ τ h hc hl he hm ihc ihl ihm =>
  intro hb ho
  have h2:=hl.okIn rfl
  have hσ:=qcp h2
  have h1:=hc.okIn hσ
  obtain ⟨e,hee,g1,g2,g3,g4⟩:=ihc hσ (fun q=>qbl (.inl rfl) q)
  injection hee with hee;subst hee
  obtain ⟨e,hee,k1,k2,k3,k4,k5⟩:=ihl rfl (fun _=>ho rfl)
  injection hee with hee;subst hee
  obtain ⟨e,hee,m1,m2,m3,m4,m5⟩:=ihm hb (fun _=>ho rfl)
  injection hee with hee;subst hee
  have:=qb7 (s:=[41]) (by decide) h2
  have:=qb7 (s:=[40]) (by decide) h1
  have:=adv1 (L:=L) (by rw [h];decide)
  have:=adv1 (L:=L2) (by rw [he];decide)
  simp only [qbd,qfd] at *
  exact ⟨_,rfl,⟨g1,k1,m1⟩,⟨g2,k2,m2⟩,by simp only [St.dep];omega,by simp only [qbd,St.sz];omega,fun q=>by simp only [St.atm,k5 q,m5 q,Bool.or_self]⟩
 | @loop o a L c l σ τ h hc hl ihc ihl =>
  intro hb ho
  have h2:=hl.okIn hb
  have hσ:=qcp h2
  have h1:=hc.okIn hσ
  obtain ⟨e,he,g1,g2,g3,g4⟩:=ihc hσ (fun q=>qbl (.inl rfl) q)
  injection he with he;subst he
  obtain ⟨e,he,k1,k2,k3,k4,k5⟩:=ihl hb (fun _=>ho rfl)
  injection he with he;subst he
  have:=qb7 (s:=[41]) (by decide) h2
  have:=qb7 (s:=[40]) (by decide) h1
  have:=adv1 (L:=L) (by rw [h];decide)
  simp only [qbd,qfd] at *
  exact ⟨_,rfl,⟨g1,k1⟩,⟨g2,k2⟩,by simp only [St.dep];omega,by simp only [qbd,St.sz];omega,fun q=>k5 q⟩
 | @atom o L l τ h hl ihl =>
  intro hb ho
  obtain ⟨e,he,k1,k2,k3,k4,k5⟩:=ihl hb (fun _=>ho rfl)
  injection he with he;subst he
  have:=adv1 (L:=L) (by rw [h];decide)
  simp only [qbd,qfd] at *
  exact ⟨_,rfl,⟨k1,k5 trivial⟩,k2,by simp only [St.dep];omega,by simp only [qbd,St.sz];omega,fun q=>by cases q⟩
 | @halt o a L h =>
  intro hb ho
  have:=qb7 (s:=[59]) (by decide) hb
  have:=adv1 (L:=L) (by rw [h];decide)
  simp only [qbd,qfd] at *
  exact ⟨_,rfl,trivial,trivial,by simpa [St.dep] using ho rfl,by simp only [qbd,St.sz];omega,fun _=>rfl⟩
 | nostm x h1 h2 h3 h4 h5 h6=>intro h;cases h
 | @nil e o a L h=>intro _ ho;exact ⟨_,rfl,trivial,trivial,by simpa [Ls.dep] using ho rfl,by simp only [Ls.sz,qbd];omega,fun _=>rfl⟩
 | @cons e o a L s l σ τ h hs hl ihs ihl =>
  intro hb ho
  have hσ:=hl.okIn hb
  obtain ⟨e,he,g1,g2,g3,g4,g5⟩:=ihs hσ ho
  injection he with he;subst he
  obtain ⟨e,he,k1,k2,k3,k4,k5⟩:=ihl hb (fun _=>ho rfl)
  injection he with he;subst he
  exact ⟨_,rfl,⟨g1,k1⟩,⟨g2,k2⟩,by simp only [Ls.dep];omega,by simp only [Ls.sz];omega,fun q=>by simp only [Ls.atm,g5 q,k5 q,Bool.or_self]⟩
 | @blk o a L l σ hl ih =>
  intro hb ho
  have hσ:=qcp hb
  have h1:=hl.okIn hσ
  obtain ⟨e,he,k1,k2,k3,k4,k5⟩:=ih hσ (fun q=>qbl (.inr rfl) q)
  injection he with he;subst he
  have:=qb7 (s:=[125]) (by decide) hb
  have:=qb7 (s:=[123]) (by decide) h1
  simp only [qbd,qfd] at *
  exact ⟨_,rfl,k1,k2,by omega,by simp only [qbd];omega,k5⟩
theorem P.whole {text:Tk} {x:It} {L:Tk} (h:P (.sts []) 0 false (.ok (skp false text)) x (.ok L)):∃ p:Ls,x=.l p/\p.ok/\p.small/\p.dep<=50/\p.sz<=text.length:=by
 obtain ⟨p,h1,h2,h3,h4,h5,_⟩:=h.good rfl fun _=>by decide
 have:=qpd false text
 simp only [qbd] at h5
 exact ⟨p,h1,h2,h3,by omega,by omega⟩
end Lang
end Go.Am
namespace Go.Am
def ITERO (AP:Mac) (g:Nat) (pre cap:List AV) (N O:Nat->Prop) (H0:AHeap) (xs:List (List AV)):Prop :=
 ∀ (L:Nat) (R:Nat->(Nat->Prop)->AHeap->Prop) (S:(Nat->Prop)->AHeap->Prop) (W0:Nat->Prop) (H:AHeap),
  H0.next<=H.next->(∀ b,N b\/O b->b<H0.next/\H.get b=H0.get b /\ ¬ W0 b)->R 0 W0 H->(∀ b,W0 b->b<H.next) ->
  (∀ i W H H',R i W H->(∀ b,W b->H'.get b=H.get b)->H.next<=H'.next->R i W H')->(∀ W H H',S W H->(∀ b,W b->H'.get b=H.get b)->H.next<=H'.next->S W H') ->
  (∀ (i:Nat) x,xs[i]? = some x -> ∀ W H',R i W H'->(∀ b,W b->b<H'.next/\(W0 b\/H.next<=b))->Fr (fun b=>W0 b\/O b) H H' ->
   ∃ bb H'' W',ROUND AP L x H' (.ret (.bool bb)) H''/\Fr W H' H''/\(∀ b,W' b->b<H''.next/\(W b\/H'.next<=b))/\(bb=true->R (i+1) W' H'')/\(bb=false->S W' H'')) ->
  ∃ v H' W',CALL AP g (pre++(.fn (.yield L) [] []::cap)) H (.ret v) H'/\Fr (fun b=>W0 b\/O b) H H'/\(∀ b,W' b->b<H'.next/\(W0 b\/H.next<=b))/\(R xs.length W' H'\/S W' H')
section
variable {AP:Mac}
theorem q6c {f:Nat} {fn:AFunc} {k:Nat} {lp:ALoop} (hf:AP.func f=some fn) (hk:nth fn.loops k=some lp) {tm:T AV} {dfs:List ADef} {up:Option Chain} {H:AHeap} {Q:Post}
 {g:Nat} {pre cap:List AV} {N O:Nat->Prop} {H0:AHeap} {xs:List (List AV)} (hit:ITERO AP g pre cap N O H0 xs)
 (P:Nat->(Nat->Prop)->AHeap->Prop) (PS:AExit->(Nat->Prop)->AHeap->Prop) (W0:Nat->Prop)
 (hn:H0.next<=H.next) (hN:∀ b,N b\/O b->b<H0.next/\H.get b=H0.get b /\ ¬ W0 b) (hW0:∀ b,W0 b->b<H.next) (h0:P 0 W0 H)
 (loc:∀ i W H H',P i W H->(∀ b,W b->H'.get b=H.get b)->H.next<=H'.next->P i W H') (locS:∀ e W H H',PS e W H->(∀ b,W b->H'.get b=H.get b)->H.next<=H'.next->PS e W H')
 (hbody:∀ (L d i:Nat) x,xs[i]? = some x->H.next<=L -> ∀ W H1,P i W H1->(∀ b,W b->b<H1.next/\(W0 b\/H.next<=b))->Fr (fun b=>W0 b\/O b) H H1 -> ¬ W L->L<H1.next->H1.get L=some (.loop .ready none f k tm d) ->
  ∃ tm1,qii tm lp.params x=some tm1/\WP AP ⟨some L,f⟩ lp.assign ⟨tm1,[],none,H1⟩ fun e st1=>e=.normal/\st1.H.get L=some (.loop .ready none f k tm d) /\
   WP AP ⟨some L,f⟩ lp.body ⟨st1.tm,st1.dfs,st1.up,st1.H.set L (.loop .busy none f k tm d)⟩ fun e2 st2=>st2.dfs=[]/\st2.H.get L=some (.loop .busy none f k tm d) /\
    ∃ W':Nat->Prop,(∀ b,W' b->b<st2.H.next/\(W b\/H1.next<=b))/\Fr (fun b=>W b\/b=L) H1 st2.H/\(e2=.normal/\P (i+1) W' st2.H\/isJump e2/\PS e2 W' st2.H))
 (hend:∀ d W' H',H.next<=d->d<H'.next->H'.get d=some (.deferred (some []))->Fr (fun b=>W0 b\/O b) H H'->(∀ b,W' b->b<H'.next/\(W0 b\/H.next<=b)/\b ≠ d)->P xs.length W' H'->Q .normal ⟨tm,.coll d::dfs,up,H'⟩)
 (hstop:∀ e d W' H',isJump e->H.next<=d->d<H'.next->H'.get d=some (.deferred (some []))->Fr (fun b=>W0 b\/O b) H H'->(∀ b,W' b->b<H'.next/\(W0 b\/H.next<=b)/\b ≠ d)->PS e W' H'->Q e ⟨tm,.coll d::dfs,up,H'⟩) :
 RNG AP ⟨none,f⟩ k ⟨tm,dfs,up,H⟩ Q (.fn (.func g) pre cap):=by
 let d:=H.next
 let L:=H.next+1
 let Hd:=H.alloc (.deferred (some []))
 let HL:=Hd.alloc (.loop .ready none f k tm d)
 have hHL:HL.next=H.next+2:=rfl
 have hgL:HL.get L=some (.loop .ready none f k tm d):=xr Hd _
 have hgd:HL.get d=some (.deferred (some [])):=by rw [show HL.get d=Hd.get d from qfq (by show H.next<H.next+1;omega) _];exact xr H _
 have hfr0:Fr Em H HL:=((Fr.refl H).alloc _).alloc _
 have hold:∀ b,b<H.next->HL.get b=H.get b:=fun b hb=>hfr0.keep b hb (fun q=>q)
 obtain ⟨v,H',W',hc,hfr,hW',hres⟩:=hit L
  (fun i W H'=>∃ V:Nat->Prop,(∀ b,V b->W b)/\W L /\ ¬ V L /\ ¬ W d/\(∀ b,W b->V b\/b=L)/\P i V H'/\H'.get L=some (.loop .ready none f k tm d)/\L<H'.next)
  (fun W H'=>∃ (V:Nat->Prop) (e:AExit) (j:AJump),(∀ b,V b->W b)/\W L /\ ¬ V L /\ ¬ W d/\(∀ b,W b->V b\/b=L)/\isJump e/\endOf e=some j/\PS e V H'/\H'.get L=some (.loop .done (some j) f k tm d)/\L<H'.next)
  (fun b=>W0 b\/b=L) HL (by rw [hHL];omega)
  (fun b hb=>by
   obtain ⟨h1,h2,h3⟩:=hN b hb
   exact ⟨h1,by rw [hold b (by omega)];exact h2,fun q=>q.elim h3 fun q=>by have:L=H.next+1:=rfl;omega⟩)
  ⟨W0,fun b hb=>.inl hb,.inr rfl,fun q=>by have:=hW0 _ q;have:L=H.next+1:=rfl;omega,fun q=>q.elim (fun q=>by have:=hW0 _ q;have:d=H.next:=rfl;omega) fun q=>by have:d=H.next:=rfl;have:L=H.next+1:=rfl;omega,
   fun b hb=>hb,loc 0 W0 H HL h0 (fun b hb=>hold b (hW0 b hb)) (by rw [hHL];omega),hgL,by rw [hHL];show H.next+1<H.next+2;omega⟩
  (fun b hb=>hb.elim (fun q=>by have:=hW0 b q;rw [hHL];omega) fun q=>by rw [hHL,q];show H.next+1<H.next+2;omega)
  (fun i W H1 H2 ⟨V,v1,v2,v3,v4,v5,v6,v7,v8⟩ hs hle=>⟨V,v1,v2,v3,v4,v5,loc i V H1 H2 v6 (fun b hb=>hs b (v1 b hb)) hle,by rw [hs L v2];exact v7,qi v8 hle⟩)
  (fun W H1 H2 ⟨V,e,j,v1,v2,v3,v4,v5,v6,v7,v8,v9,v10⟩ hs hle=>⟨V,e,j,v1,v2,v3,v4,v5,v6,v7,locS e V H1 H2 v8 (fun b hb=>hs b (v1 b hb)) hle,by rw [hs L v2];exact v9,qi v10 hle⟩)
  (fun i x hx W H1 ⟨V,v1,v2,v3,v4,v5,v6,v7,v8⟩ hb hfrS=>by
   have hLn0:L=H.next+1:=rfl
   have hfr1:Fr (fun b=>W0 b\/O b) H H1:=⟨x3 (by rw [hHL];omega) hfrS.next,fun b hb hw=>by rw [hfrS.keep b (by rw [hHL];omega) (fun q=>q.elim (fun q=>q.elim (fun q=>hw (.inl q)) fun q=>by omega) fun q=>hw (.inr q)),hold b hb]⟩
   have hbV:∀ b,V b->b<H1.next/\(W0 b\/H.next<=b):=fun b q=>⟨(hb b (v1 b q)).1,(hb b (v1 b q)).2.elim (fun r=>r.elim .inl fun r=>by subst r;exact (v3 q).elim) fun r=>.inr (by rw [hHL] at r;omega)⟩
   obtain ⟨tm1,hbp,hw⟩:=hbody L d i x hx (by show H.next<=H.next+1;omega) V H1 v6 hbV hfr1 v3 v8 v7
   obtain ⟨e,H2,hr,bb,rfl,W2,k1,k2,k3,k4⟩:=q0h (Q:=fun e H2=>∃ bb,e=.ret (.bool bb) /\ ∃ W2:Nat->Prop,Fr W H1 H2/\(∀ b,W2 b->b<H2.next/\(W b\/H1.next<=b)) /\
    (bb=true -> ∃ V:Nat->Prop,(∀ b,V b->W2 b)/\W2 L /\ ¬ V L /\ ¬ W2 d/\(∀ b,W2 b->V b\/b=L)/\P (i+1) V H2/\H2.get L=some (.loop .ready none f k tm d)/\L<H2.next) /\
    (bb=false -> ∃ (V:Nat->Prop) (e:AExit) (j:AJump),(∀ b,V b->W2 b)/\W2 L /\ ¬ V L /\ ¬ W2 d/\(∀ b,W2 b->V b\/b=L)/\isJump e/\endOf e=some j/\PS e V H2/\H2.get L=some (.loop .done (some j) f k tm d)/\L<H2.next)) v7 hf hk hbp
    (qey hw fun e st1 ⟨he,hgl,hw2⟩=>by
     subst he
     show BIND dirty (beginRound st1.H L) _
     have:beginRound st1.H L=some (st1.H.set L (.loop .busy none f k tm d)):=by unfold beginRound;rw [hgl]
     rw [this]
     refine qey hw2 fun e2 st2 ⟨hd2,hg2,W',w1,w2,w3⟩=>⟨hd2,?_⟩
     have hLn:L<st2.H.next:=qi v8 w2.next
     have hd1:d<H1.next:=by have:d=H.next:=rfl;have:L=H.next+1:=rfl;omega
     have fin:∀ s p,Fr W H1 (st2.H.set L (.loop s p f k tm d)):=fun s p=>⟨w2.next,fun b hb hw=>by
      rw [AHeap.get_set,qt (by rintro rfl;exact hw v2)]
      exact w2.keep b hb fun q=>q.elim (fun q=>hw (v1 b q)) fun q=>hw (by rw [q];exact v2)⟩
     have hW'L:∀ b,(W' b/\b ≠ L)->(st2.H.set L (.loop .ready none f k tm d)).get b=st2.H.get b:=fun b hb=>by rw [AHeap.get_set,qt (fun q=>hb.2 q.symm)]
     have hnV:¬ W' L:=fun q=>by
      rcases (w1 L q).2 with q|q
      ·exact v3 q
      ·omega
     have hnd:¬ W' d:=fun q=>by
      rcases (w1 d q).2 with q|q
      ·exact v4 (v1 d q)
      ·omega
     have hdL:d ≠ L:=by show H.next ≠ H.next+1;omega
     have bounds:∀ b,(W' b\/b=L)->b<st2.H.next/\(W b\/H1.next<=b):=fun b hb=>hb.elim (fun q=>⟨(w1 b q).1,(w1 b q).2.imp (v1 b) id⟩) fun q=>by subst q;exact ⟨hLn,.inl v2⟩
     rcases w3 with ⟨rfl,w3⟩|⟨hj,w3⟩
     ·show BIND dirty (setLoop st2.H L (cond true .ready .done) none) _
      have:setLoop st2.H L .ready none=some (st2.H.set L (.loop .ready none f k tm d)):=by unfold setLoop;rw [hg2]
      rw [qn,this]
      refine ⟨true,rfl,fun b=>W' b\/b=L,fin _ _,bounds,fun _=>⟨W',fun b hb=>.inl hb,.inr rfl,hnV,fun q=>q.elim hnd hdL,fun b hb=>hb,loc _ _ _ _ w3 (fun b hb=>by rw [AHeap.get_set,qt (by rintro rfl;exact hnV hb)]) (qg _),ji _ _ _,hLn⟩,fun h=>by cases h⟩
     ·obtain ⟨j,hj2⟩:∃ j,endOf e2=some j:=by cases e2<;>first|exact hj.elim|exact ⟨_,rfl⟩
      have hnn:qg6 e2=false:=by cases e2<;>first|exact hj.elim|rfl
      have hmatch:∀ (A:Prop),(BIND dirty (setLoop st2.H L (cond (qg6 e2) .ready .done) (endOf e2)) fun H=>∃ bb,(AEnd.ret (.bool (qg6 e2))=.ret (.bool bb)) /\ ∃ W2:Nat->Prop,Fr W H1 H/\(∀ b,W2 b->b<H.next/\(W b\/H1.next<=b)) /\
       (bb=true -> ∃ V:Nat->Prop,(∀ b,V b->W2 b)/\W2 L /\ ¬ V L /\ ¬ W2 d/\(∀ b,W2 b->V b\/b=L)/\P (i+1) V H/\H.get L=some (.loop .ready none f k tm d)/\L<H.next) /\
       (bb=false -> ∃ (V:Nat->Prop) (e:AExit) (j:AJump),(∀ b,V b->W2 b)/\W2 L /\ ¬ V L /\ ¬ W2 d/\(∀ b,W2 b->V b\/b=L)/\isJump e/\endOf e=some j/\PS e V H/\H.get L=some (.loop .done (some j) f k tm d)/\L<H.next)):=fun _=>by
       have:setLoop st2.H L .done (some j)=some (st2.H.set L (.loop .done (some j) f k tm d)):=by unfold setLoop;rw [hg2]
       rw [hnn,hj2,qy,this]
       refine ⟨false,rfl,fun b=>W' b\/b=L,fin _ _,bounds,fun h=>(by cases h),fun _=>⟨W',e2,j,fun b hb=>.inl hb,.inr rfl,hnV,fun q=>q.elim hnd hdL,fun b hb=>hb,hj,hj2,locS _ _ _ _ w3 (fun b hb=>by rw [AHeap.get_set,qt (by rintro rfl;exact hnV hb)]) (qg _),ji _ _ _,hLn⟩⟩
      cases e2 with
      | normal=>exact hj.elim
      | panic _=>exact hj.elim
      | exit _=>exact hmatch True
      | goto _=>exact hmatch True
      | ret=>exact hmatch True)
   exact ⟨bb,H2,W2,hr,k1,k2,k3,k4⟩)
 have hdL:d ≠ L:=by show H.next ≠ H.next+1;omega
 have hdW:¬ ((W0 d\/d=L)\/O d):=fun q=>q.elim (fun q=>q.elim (fun q=>by have:=hW0 _ q;have:d=H.next:=rfl;omega) hdL) fun q=>by have:=(hN d (.inr q)).1;have:d=H.next:=rfl;omega
 have hgd':H'.get d=some (.deferred (some [])):=by rw [hfr.keep d (by rw [hHL];show H.next<H.next+2;omega) hdW];exact hgd
 have hd':d<H'.next:=qi (by rw [hHL];show H.next<H.next+2;omega) hfr.next
 have hout:∀ (o:AObj),Fr (fun b=>W0 b\/O b) H (H'.set L o):=fun o=>⟨x3 (by rw [hHL];omega) hfr.next,fun b hb hw=>by
  have:L=H.next+1:=rfl
  rw [AHeap.get_set,qt (by omega),hfr.keep b (by rw [hHL];omega) (fun q=>q.elim (fun q=>q.elim (fun q=>hw (.inl q)) fun q=>by omega) fun q=>hw (.inr q)),hold b hb]⟩
 refine ⟨.ret v,H',hc,?_⟩
 rcases hres with ⟨V,v1,v2,v3,v4,v5,v6,v7,v8⟩|⟨V,e,j,v1,v2,v3,v4,v5,v6,v7,v8,v9,v10⟩
 ·refine ⟨.ready,none,f,k,tm,d,v7,by simp,?_⟩
  refine hend d V _ (qg _) hd' (by rw [AHeap.get_set,qt (fun q=>hdL q.symm)];exact hgd') (hout _) (fun b hb=>⟨(hW' b (v1 b hb)).1,?_,fun q=>v4 (by rw [<-q];exact v1 b hb)⟩) (loc _ _ _ _ v6 (fun b hb=>by rw [AHeap.get_set,qt (by rintro rfl;exact v3 hb)]) (qg _))
  rcases (hW' b (v1 b hb)).2 with q|q
  ·exact q.imp id fun q=>by subst q;exact (v3 hb).elim
  ·rw [hHL] at q;exact .inr (by omega)
 ·refine ⟨.done,some j,f,k,tm,d,v9,by simp,?_⟩
  have he:exitOf (some j)=e:=by cases e<;>first|exact v6.elim|(injection v7 with v7;subst v7;rfl)
  rw [he]
  refine hstop e d V _ v6 (qg _) hd' (by rw [AHeap.get_set,qt (fun q=>hdL q.symm)];exact hgd') (hout _) (fun b hb=>⟨(hW' b (v1 b hb)).1,?_,fun q=>v4 (by rw [<-q];exact v1 b hb)⟩) (locS _ _ _ _ v8 (fun b hb=>by rw [AHeap.get_set,qt (by rintro rfl;exact v3 hb)]) (qg _))
  rcases (hW' b (v1 b hb)).2 with q|q
  ·exact q.imp id fun q=>by subst q;exact (v3 hb).elim
  ·rw [hHL] at q;exact .inr (by omega)
def bindE:List Nat->List AV->Env->Option Env
 | [],[],E=>some E
 | t::ts,v::vs,E=>bindE ts vs ((t,v)::E)
 | _,_,_=>none
def AS3 (M:Mac) (ctx:Ctx) (b:Kp × ACode) (L:Nat) (lr lb:AObj) (Q:Post3):Post3:=fun e E D H=>match e with
 | .normal=>H.get L=some lr/\W M ctx b true Q E D (H.set L lb)
 | _=>False
theorem q16 (M:Mac) (ctx:Ctx) (b:Kp × ACode) (L:Nat) (lr lb:AObj) (Q:Post3) (E:Env) (D:List ADef) (H:AHeap):AS3 M ctx b L lr lb Q .normal E D H=(H.get L=some lr/\W M ctx b true Q E D (H.set L lb)):=propext js
def BD3 (P:(Nat->Prop)->AHeap->Prop) (PS:AExit->(Nat->Prop)->AHeap->Prop) (L:Nat) (lb:AObj) (W:Nat->Prop) (H1:AHeap):Post3:=fun e _ D H=>D=[]/\H.get L=some lb /\
 ∃ W':Nat->Prop,(∀ b,W' b->b<H.next/\(W b\/H1.next<=b))/\Fr (fun b=>W b\/b=L) H1 H/\(e=.normal/\P W' H\/isJump e/\PS e W' H)
theorem ESub.cons {ks:List Nat} {E:Env} {tm:T AV} (h:ESub ks E tm) {t:Nat} (v:AV) (ht:memN t ks=true):ESub ks ((t,v)::E) (tm.set t v):=fun u x hu=>by
 rw [qe2] at hu
 split at hu
 ·rename_i e;subst e;injection hu with hu;subst hu
  exact ⟨by rw [T.get_set,xi rfl],ht⟩
 ·rename_i e
  obtain ⟨h1,h2⟩:=h u x hu
  exact ⟨by rw [T.get_set,qt e,h1],h2⟩
theorem q1a {ks:List Nat}:∀ {ts:List Nat} {vs:List AV} {E E1:Env} {tm:T AV},ESub ks E tm->(∀ t ∈ ts,memN t ks=true)->bindE ts vs E=some E1 -> ∃ tm1,qii tm ts vs=some tm1/\ESub ks E1 tm1
 | [],[],E,E1,tm,h,ht,hb=>by injection hb with hb;subst hb;exact ⟨tm,rfl,h⟩
 | [],_::_,_,_,_,_,_,hb=>nomatch hb
 | _::_,[],_,_,_,_,_,hb=>nomatch hb
 | t::ts,v::vs,E,E1,tm,h,ht,hb=>q1a (ts:=ts) (vs:=vs) (h.cons v (ht t (qal ..))) (fun u hu=>ht u (vw _ hu)) hb
theorem RNG3.iter {f:Nat} {fn:AFunc} {k:Nat} {lp:ALoop} (hf:AP.func f=some fn) (hk:nth fn.loops k=some lp) {ks:List Nat} {ts:List Nat} (hp:lp.params=ts) (hts:∀ t ∈ ts,memN t ks=true) {pa pb:Kp × ACode} (ha:pa.1.keep=ks/\pa.2=lp.assign) (hb:pb.1.keep=ks/\pb.2=lp.body)
 {E:Env} {D:List ADef} {H:AHeap} {Q:Post3} {g:Nat} {pre cap:List AV} {N O:Nat->Prop} {H0:AHeap} {xs:List (List AV)} (hit:ITERO AP g pre cap N O H0 xs)
 (P:Nat->(Nat->Prop)->AHeap->Prop) (PS:AExit->(Nat->Prop)->AHeap->Prop) (W0:Nat->Prop)
 (hn:H0.next<=H.next) (hN:∀ b,N b\/O b->b<H0.next/\H.get b=H0.get b /\ ¬ W0 b) (hW0:∀ b,W0 b->b<H.next) (h0:P 0 W0 H)
 (loc:∀ i W H H',P i W H->(∀ b,W b->H'.get b=H.get b)->H.next<=H'.next->P i W H') (locS:∀ e W H H',PS e W H->(∀ b,W b->H'.get b=H.get b)->H.next<=H'.next->PS e W H')
 (hbody:∀ (L i:Nat) (lr lb:AObj) x,xs[i]? = some x->H.next<=L -> ∀ W' H1,P i W' H1->(∀ b,W' b->b<H1.next/\(W0 b\/H.next<=b))->Fr (fun b=>W0 b\/O b) H H1 -> ¬ W' L->L<H1.next->H1.get L=some lr ->
  ∃ E1,bindE ts x E=some E1/\W AP ⟨some L,f⟩ pa true (AS3 AP ⟨some L,f⟩ pb L lr lb (BD3 (P (i+1)) PS L lb W' H1)) E1 [] H1)
 (hend:∀ d W' H',H.next<=d->d<H'.next->H'.get d=some (.deferred (some []))->Fr (fun b=>W0 b\/O b) H H'->(∀ b,W' b->b<H'.next/\(W0 b\/H.next<=b)/\b ≠ d)->P xs.length W' H'->Q .normal E (.coll d::D) H')
 (hstop:∀ e d W' H',isJump e->H.next<=d->d<H'.next->H'.get d=some (.deferred (some []))->Fr (fun b=>W0 b\/O b) H H'->(∀ b,W' b->b<H'.next/\(W0 b\/H.next<=b)/\b ≠ d)->PS e W' H'->Q e E (.coll d::D) H') :
 RNG3 AP ks ⟨none,f⟩ k E D H Q (.fn (.func g) pre cap):=by
 intro tm up he
 refine q6c hf hk hit P PS W0 hn hN hW0 h0 loc locS ?_ (fun d W' H' h1 h2 h3 h4 h5 h6=>⟨rfl,rfl,hend d W' H' h1 h2 h3 h4 h5 h6⟩) (fun e d W' H' h0 h1 h2 h3 h4 h5 h6=>⟨rfl,rfl,hstop e d W' H' h0 h1 h2 h3 h4 h5 h6⟩)
 intro L d i x hx hL W' H1 hP hW hfr hnL hLn hgL
 obtain ⟨E1,hE1,hw⟩:=hbody L i (.loop .ready none f k tm d) (.loop .busy none f k tm d) x hx hL W' H1 hP hW hfr hnL hLn hgL
 obtain ⟨tm1,hb1,he1⟩:=q1a he hts hE1
 refine ⟨tm1,by rw [hp];exact hb1,?_⟩
 rw [W_def] at hw
 have:=W3.wp _ _ (qg _) (up:=none) hw (by rw [ha.1];exact he1)
 rw [ha.2] at this
 refine qey this fun e st1 ⟨hup,E',hE',hq⟩=>?_
 cases e with
 | normal =>
  obtain ⟨hg,hw2⟩:=hq
  refine ⟨rfl,hg,?_⟩
  rw [W_def] at hw2
  have:=W3.wp _ _ (qg _) (up:=none) hw2 (show ESub pb.1.keep E' st1.tm by rw [hb.1,<-ha.1];exact hE')
  rw [hb.2] at this
  rw [hup]
  refine qey this fun e2 st2 ⟨hup2,E2,hE2,hd,hg2,W2,k1,k2,k3⟩=>⟨hd,hg2,W2,k1,k2,k3⟩
 | _=>exact hq.elim
theorem q38 (rs:List ARes) (Q:AEnd->AHeap->Prop) (E:Env) (d:Nat) (H:AHeap):FIN3 AP rs Q .ret E [.coll d] H=(H.get d=some (.deferred (some []))/\RES3 E (H.set d (.deferred none)) rs fun l=>Q (.ret (tupled l)) (H.set d (.deferred none))):=propext js
end
end Go.Am
