/- LrQp: ParP ParQ ParR TokP TxtP TxtQ TxtR Iter3. -/
import Derived.Test.YtbimikjajohflaaDoorAmQLrQ0
import Derived.Test.YtbimikjajohflaaDoorAmQB4
set_option linter.unusedVariables false
set_option linter.unusedSimpArgs false
namespace Go.Am
namespace Lang
abbrev Tk:=List UInt8
def skp:Bool->Tk->Tk
 | _,[]=>[]
 | true,c::s=>if c=10 then skp false s else skp true s
 | false,c::s=>if c=35 then skp true s else if c=32\/c=9\/c=10 then skp false s else c::s
def span (a b:UInt8):Tk->Nat
 | []=>0
 | c::s=>if a<=c/\c<=b then span a b s+1 else 0
abbrev two (s:Tk):Prop:=s.take 2=[61,61]\/s.take 2=[33,61]\/s.take 2=[60,60]\/s.take 2=[62,62]
def tkn (s:Tk):Nat:=if two s then 2 else max 1 (max (span 97 122 s) (span 48 57 s))
def tok (s:Tk):Tk:=s.take (tkn s)
def adv (s:Tk):Tk:=skp false (s.drop (tkn s))
theorem qpp (a b:UInt8):∀ s:Tk,span a b s<=s.length
 | []=>qf _
 | c::s=>by have:=qpp a b s;simp only [span,xk];split<;>omega
theorem qso (s:Tk):1<=tkn s:=by
 unfold tkn;split
 ·omega
 ·exact Nat.le_max_left ..
theorem qm7 {s:Tk} (h:s ≠ []):tkn s<=s.length:=by
 have h1:1<=s.length:=by cases s with|nil=>exact (h rfl).elim|cons c s=>simp
 have h2:=qpp 97 122 s
 have h3:=qpp 48 57 s
 unfold tkn;split
 ·rename_i q
  have:(s.take 2).length=2:=by rcases q with q|q|q|q<;>rw [q]<;>rfl
  rw [jk] at this;omega
 ·exact Nat.max_le.2 ⟨h1,Nat.max_le.2 ⟨h2,h3⟩⟩
theorem qit:∀ (q:Bool) (s:Tk),(skp q s).length<=s.length
 | true,[]=>qf _
 | false,[]=>qf _
 | true,c::s=>by
  have:=qit false s;have:=qit true s
  simp only [skp,xk];split<;>omega
 | false,c::s=>by
  have:=qit false s;have:=qit true s
  simp only [skp];split
  ·simp only [xk];omega
  ·split
   ·simp only [xk];omega
   ·exact qf _
theorem qn4 {s:Tk} (h:s ≠ []):(adv s).length<s.length:=by
 have h1:1<=s.length:=by cases s with|nil=>exact (h rfl).elim|cons c s=>simp
 have h2:=qit false (s.drop (tkn s))
 have:=qso s
 rw [zy] at h2
 unfold adv;omega
theorem qc0:tok []=[]:=by simp [tok]
theorem qav {s:Tk} (h:tok s ≠ []):s ≠ []:=fun q=>h (by rw [q];exact qc0)
def varOf:Tk->Option Nat
 | [c]=>if 97<=c/\c<=104 then some (c.toNat-97) else none
 | _=>none
def valD (s:Tk):Nat:=s.foldl (fun a c=>a*10+(c.toNat-48)) 0
def numOf (s:Tk):Option Nat:=if s ≠ []/\(∀ c ∈ s,48<=c/\c<=57) /\ ¬ (1<s.length/\s.head? = some 48)/\valD s<18446744073709551616 then some (valD s) else none
def sigK (t:Tk):Nat:=if t=[43] then 4 else if t=[45] then 5 else if t=[94] then 8 else if t=[42] then 6 else if t=[38] then 7 else if t=[60,60] then 9 else if t=[62,62] then 10 else 0
def sigR (t:Tk):Nat:=if sigK t=0 then 0 else rowOf (sigK t)
def csgK (t:Tk):Nat:=if t=[61,61] then 11 else if t=[33,61] then 12 else if t=[60] then 13 else 0
abbrev wLoad:Tk:=[108,111,97,100]
abbrev wStore:Tk:=[115,116,111,114,101]
abbrev wIf:Tk:=[105,102]
abbrev wElse:Tk:=[101,108,115,101]
abbrev wWhile:Tk:=[119,104,105,108,101]
abbrev wAtomic:Tk:=[97,116,111,109,105,99]
abbrev wHalt:Tk:=[104,97,108,116]
inductive PS where
 | ok (L:Tk)
 | bad (L:Tk)
def PS.left:PS->Tk
 | .ok L=>L
 | .bad L=>L
def take (s:Tk) (o:Nat):PS->PS
 | .bad L=>.bad L
 | .ok L=>if tok L=s /\ ¬ ((s=[40]\/s=[123])/\50<=o) then .ok (adv L) else .bad L
inductive NT where
 | fac
 | row (n:Nat)
 | rowl (n:Nat) (x:Ex)
 | cnd
 | stm
 | sts (e:Tk)
 | blk
def part (n:Nat):NT:=if n=1 then .row 2 else .fac
inductive P:NT->Nat->Bool->PS->It->PS->Prop
 | bad {nt:NT} {o:Nat} {a:Bool} {L:Tk} (x:It):P nt o a (.bad L) x (.bad L)
 | num {o:Nat} {a:Bool} {L:Tk} {n:Nat} (h:numOf (tok L)=some n):P .fac o a (.ok L) (.e (.num n)) (.ok (adv L))
 | var {o:Nat} {a:Bool} {L:Tk} {v:Nat} (h:varOf (tok L)=some v):P .fac o a (.ok L) (.e (.var v)) (.ok (adv L))
 | load {o:Nat} {a:Bool} {L:Tk} {x:Ex} {σ:PS} (h:tok L=wLoad) (hx:P (.row 1) (o+1) a (take [40] o (.ok (adv L))) (.e x) σ):P .fac o a (.ok L) (.e (.load x)) (take [41] (o+1) σ)
 | par {o:Nat} {a:Bool} {L:Tk} {x:Ex} {σ:PS} (h:tok L=[40]) (hx:P (.row 1) (o+1) a (take [40] o (.ok L)) (.e x) σ):P .fac o a (.ok L) (.e x) (take [41] (o+1) σ)
 | nofac {o:Nat} {a:Bool} {L:Tk} (x:It) (h1:varOf (tok L)=none) (h2:tok L ≠ wLoad) (h3:tok L ≠ [40]) (h4:numOf (tok L)=none):P .fac o a (.ok L) x (.bad L)
 | row {n o:Nat} {a:Bool} {L:Tk} {x y:Ex} {σ τ:PS} (hx:P (part n) o a (.ok L) (.e x) σ) (hy:P (.rowl n x) o a σ (.e y) τ):P (.row n) o a (.ok L) (.e y) τ
 | stop {n o:Nat} {a:Bool} {L:Tk} {x:Ex} (h:sigR (tok L) ≠ n):P (.rowl n x) o a (.ok L) (.e x) (.ok L)
 | more {n o:Nat} {a:Bool} {L:Tk} {x y z:Ex} {σ τ:PS} (h:sigR (tok L)=n) (hy:P (part n) o a (.ok (adv L)) (.e y) σ) (hz:P (.rowl n (.bin (sigK (tok L)) x y)) o a σ (.e z) τ):P (.rowl n x) o a (.ok L) (.e z) τ
 | cnd {o:Nat} {a:Bool} {L L1:Tk} {x y:Ex} {σ:PS} (hx:P (.row 1) o a (.ok L) (.e x) (.ok L1)) (h:csgK (tok L1) ≠ 0) (hy:P (.row 1) o a (.ok (adv L1)) (.e y) σ):P .cnd o a (.ok L) (.c ⟨csgK (tok L1),x,y⟩) σ
 | cnd1 {o:Nat} {a:Bool} {L L1:Tk} {x:Ex} (z:It) (hx:P (.row 1) o a (.ok L) (.e x) (.bad L1)):P .cnd o a (.ok L) z (.bad L1)
 | cnd2 {o:Nat} {a:Bool} {L L1:Tk} {x:Ex} (z:It) (hx:P (.row 1) o a (.ok L) (.e x) (.ok L1)) (h:csgK (tok L1)=0):P .cnd o a (.ok L) z (.bad L1)
 | set {o:Nat} {a:Bool} {L:Tk} {v:Nat} {x:Ex} {σ:PS} (h:varOf (tok L)=some v) (hx:P (.row 1) o a (take [61] o (.ok (adv L))) (.e x) σ):P .stm o a (.ok L) (.s (.set v x)) (take [59] o σ)
 | store {o:Nat} {a:Bool} {L:Tk} {x y:Ex} {σ τ:PS} (h:tok L=wStore) (hx:P (.row 1) (o+1) a (take [40] o (.ok (adv L))) (.e x) σ) (hy:P (.row 1) (o+1) a (take [44] (o+1) σ) (.e y) τ):P .stm o a (.ok L) (.s (.store x y)) (take [59] o (take [41] (o+1) τ))
 | ite {o:Nat} {a:Bool} {L L2:Tk} {c:Cn} {l:Ls} {σ:PS} (h:tok L=wIf) (hc:P .cnd (o+1) a (take [40] o (.ok (adv L))) (.c c) σ) (hl:P .blk o a (take [41] (o+1) σ) (.l l) (.ok L2)) (he:tok L2 ≠ wElse):P .stm o a (.ok L) (.s (.ite c l)) (.ok L2)
 | ite1 {o:Nat} {a:Bool} {L L2:Tk} {c:Cn} {l:Ls} {σ:PS} (h:tok L=wIf) (hc:P .cnd (o+1) a (take [40] o (.ok (adv L))) (.c c) σ) (hl:P .blk o a (take [41] (o+1) σ) (.l l) (.bad L2)):P .stm o a (.ok L) (.s (.ite c l)) (.bad L2)
 | ites {o:Nat} {a:Bool} {L L2:Tk} {c:Cn} {l m:Ls} {σ τ:PS} (h:tok L=wIf) (hc:P .cnd (o+1) a (take [40] o (.ok (adv L))) (.c c) σ) (hl:P .blk o a (take [41] (o+1) σ) (.l l) (.ok L2)) (he:tok L2=wElse) (hm:P .blk o a (.ok (adv L2)) (.l m) τ):P .stm o a (.ok L) (.s (.ites c l m)) τ
 | loop {o:Nat} {a:Bool} {L:Tk} {c:Cn} {l:Ls} {σ τ:PS} (h:tok L=wWhile) (hc:P .cnd (o+1) a (take [40] o (.ok (adv L))) (.c c) σ) (hl:P .blk o a (take [41] (o+1) σ) (.l l) τ):P .stm o a (.ok L) (.s (.loop c l)) τ
 | atom {o:Nat} {L:Tk} {l:Ls} {τ:PS} (h:tok L=wAtomic) (hl:P .blk o true (.ok (adv L)) (.l l) τ):P .stm o false (.ok L) (.s (.atom l)) τ
 | halt {o:Nat} {a:Bool} {L:Tk} (h:tok L=wHalt):P .stm o a (.ok L) (.s .halt) (take [59] o (.ok (adv L)))
 | nostm {o:Nat} {a:Bool} {L:Tk} (x:It) (h1:varOf (tok L)=none) (h2:tok L ≠ wStore) (h3:tok L ≠ wIf) (h4:tok L ≠ wWhile) (h5:a=true\/tok L ≠ wAtomic) (h6:tok L ≠ wHalt):P .stm o a (.ok L) x (.bad L)
 | nil {e:Tk} {o:Nat} {a:Bool} {L:Tk} (h:tok L=e):P (.sts e) o a (.ok L) (.l .nil) (.ok L)
 | cons {e:Tk} {o:Nat} {a:Bool} {L:Tk} {s:St} {l:Ls} {σ τ:PS} (h:tok L ≠ e) (hs:P .stm o a (.ok L) (.s s) σ) (hl:P (.sts e) o a σ (.l l) τ):P (.sts e) o a (.ok L) (.l (.cons s l)) τ
 | blk {o:Nat} {a:Bool} {L:Tk} {l:Ls} {σ:PS} (hl:P (.sts [125]) (o+1) a (take [123] o (.ok L)) (.l l) σ):P .blk o a (.ok L) (.l l) (take [125] (o+1) σ)
end Lang
end Go.Am
namespace Go.Am
namespace Lang
theorem qes (s:Tk) (o:Nat) (σ:PS):(take s o σ).left.length <= σ.left.length:=by
 cases σ with
 | bad L=>exact qf _
 | ok L =>
  simp only [take];split
  ·rename_i h
   show (adv L).length<=L.length
   by_cases q:L=[]
   ·subst q;simp [adv,skp]
   ·exact vi (qn4 q)
  ·exact qf _
theorem take_le' (s:Tk) (o:Nat) (L:Tk):(take s o (.ok L)).left.length<=L.length:=qes s o (.ok L)
theorem q0f {s:Tk} (hs:s ≠ []) {o:Nat} {L L':Tk} (h:take s o (.ok L)=.ok L'):L'.length<L.length:=by
 simp only [take] at h
 split at h
 ·rename_i q;injection h with h;subst h;exact qn4 (qav (by rw [q.1];exact hs))
 ·cases h
theorem qe7 {s:Tk} {o:Nat} {σ:PS} {L':Tk} (h:take s o σ = .ok L'):∃ L,σ = .ok L/\tok L=s /\ ¬ ((s=[40]\/s=[123])/\50<=o)/\L'=adv L:=by
 cases σ with
 | bad L=>cases h
 | ok L =>
  simp only [take] at h
  split at h
  ·rename_i q;injection h with h;exact ⟨L,rfl,q.1,q.2,h.symm⟩
  ·cases h
theorem qb6 {L:Tk} (h:tok L ≠ []):(adv L).length<L.length:=qn4 (qav h)
theorem ql1 {t:Tk} {v:Nat} (h:varOf t=some v):t ≠ []:=by rintro rfl;cases h
theorem qze {t:Tk} {v:Nat} (h:numOf t=some v):t ≠ []:=by rintro rfl;simp [numOf] at h
theorem qpo {t:Tk} (h:sigR t ≠ 0):t ≠ []:=by rintro rfl;exact h rfl
theorem qsy {t:Tk} (h:csgK t ≠ 0):t ≠ []:=by rintro rfl;exact h rfl
def NT.eats:NT->Prop
 | .rowl _ _=>False
 | .sts _=>False
 | _=>True
theorem P.le {nt:NT} {o:Nat} {a:Bool} {σ τ:PS} {x:It} (h:P nt o a σ x τ):τ.left.length <= σ.left.length/\((∀ n y,nt=.rowl n y->n ≠ 0)->(∀ n,nt=.row n->n ≠ 0)->nt.eats -> ∀ L L',σ = .ok L -> τ = .ok L'->L'.length<L.length):=by
 have tw:∀ {s:Tk} {o:Nat} {σ τ:PS} {L:Tk},s ≠ [] -> σ.left.length<=L.length -> ∀ L1 L',PS.ok L=PS.ok L1->take s o σ = .ok L'->L'.length<L1.length:=by
  intro s o σ τ L hs hl L1 L' e1 e2
  injection e1 with e1;subst e1
  obtain ⟨L2,rfl,h1,_,rfl⟩:=qe7 e2
  have:=qb6 (L:=L2) (by rw [h1];exact hs)
  exact qj this hl
 have sl:∀ {σ:PS} {L:Tk},σ.left.length<L.length -> ∀ L1 L',PS.ok L=PS.ok L1 -> σ = .ok L'->L'.length<L1.length:=by
  intro σ L hl L1 L' e1 e2
  injection e1 with e1;subst e1;subst e2;exact hl
 induction h with
 | bad x=>exact ⟨qf _,fun _ _ _ L L' e=>by cases e⟩
 | num h=>have:=qb6 (qze h);exact ⟨vi this,fun _ _ _=>sl this⟩
 | var h=>have:=qb6 (ql1 h);exact ⟨vi this,fun _ _ _=>sl this⟩
 | @load o a L x σ h hx ih =>
  have h0:=qb6 (L:=L) (by rw [h];decide)
  have h1:=take_le' [40] o (adv L)
  have h2:=qes [41] (o+1) σ
  have h3:=ih.1
  have:(take [41] (o+1) σ).left.length<L.length:=by omega
  exact ⟨vi this,fun _ _ _=>sl this⟩
 | @par o a L x σ h hx ih =>
  have h1:=take_le' [40] o L
  have h2:=qes [41] (o+1) σ
  have h3:=ih.1
  exact ⟨by simp only [PS.left] at *;omega,fun _ _ _=>tw (τ:=σ) (by decide) (by omega)⟩
 | nofac x h1 h2 h3 h4=>exact ⟨qf _,fun _ _ _ L L' e e'=>by cases e'⟩
 | @row n o a L x y σ τ hx hy ihx ihy =>
  refine ⟨xw ihy.1 ihx.1,fun _ hn _ L1 L' e1 e2=>?_⟩
  have hpe:(part n).eats:=by unfold part;split<;>trivial
  subst e2
  cases σ with
  | bad L2=>cases hy
  | ok L2 =>
   have:=ihx.2 (fun m y q=>by unfold part at q;split at q<;>cases q) (fun m q=>by unfold part at q;split at q<;>first|(cases q;decide) | cases q) hpe L L2 rfl rfl
   have h2:=ihy.1
   injection e1 with e1;subst e1
   simp only [PS.left] at h2;omega
 | stop h=>exact ⟨qf _,fun _ _ q=>q.elim⟩
 | @more n o a L x y z σ τ h hy hz ihy ihz =>
  refine ⟨?_,fun _ _ q=>q.elim⟩
  have h1:=ihy.1;have h2:=ihz.1
  by_cases q:L=[]
  ·subst q;simp only [PS.left,adv,skp,List.drop_nil] at h1 h2 ⊢;omega
  ·have:=qn4 q;simp only [PS.left] at h1 h2 ⊢;omega
 | @cnd o a L L1 x y σ hx h hy ihx ihy =>
  have h1:=ihx.1;have h2:=ihy.1;have h3:=qb6 (qsy h)
  have:σ.left.length<L.length:=by simp only [PS.left] at *;omega
  exact ⟨vi this,fun _ _ _=>sl this⟩
 | cnd1 z hx ihx=>exact ⟨ihx.1,fun _ _ _ L L' e e'=>by cases e'⟩
 | cnd2 z hx h ihx=>exact ⟨ihx.1,fun _ _ _ L L' e e'=>by cases e'⟩
 | @set o a L v x σ h hx ih =>
  have h0:=qb6 (ql1 h)
  have h1:=take_le' [61] o (adv L)
  have h2:=qes [59] o σ
  have h3:=ih.1
  have:(take [59] o σ).left.length<L.length:=by omega
  exact ⟨vi this,fun _ _ _=>sl this⟩
 | @store o a L x y σ τ h hx hy ihx ihy =>
  have h0:=qb6 (L:=L) (by rw [h];decide)
  have h1:=take_le' [40] o (adv L)
  have h2:=qes [44] (o+1) σ
  have h3:=qes [41] (o+1) τ
  have h4:=qes [59] o (take [41] (o+1) τ)
  have h5:=ihx.1;have h6:=ihy.1
  have:(take [59] o (take [41] (o+1) τ)).left.length<L.length:=by omega
  exact ⟨vi this,fun _ _ _=>sl this⟩
 | @ite o a L L2 c l σ h hc hl he ihc ihl =>
  have h0:=qb6 (L:=L) (by rw [h];decide)
  have h1:=take_le' [40] o (adv L)
  have h2:=qes [41] (o+1) σ
  have h3:=ihc.1;have h4:=ihl.1
  have:(PS.ok L2).left.length<L.length:=by simp only [PS.left] at *;omega
  exact ⟨vi this,fun _ _ _=>sl this⟩
 | @ite1 o a L L2 c l σ h hc hl ihc ihl =>
  have h0:=qb6 (L:=L) (by rw [h];decide)
  have h1:=take_le' [40] o (adv L)
  have h2:=qes [41] (o+1) σ
  have h3:=ihc.1;have h4:=ihl.1
  have:(PS.bad L2).left.length<L.length:=by simp only [PS.left] at *;omega
  exact ⟨vi this,fun _ _ _=>sl this⟩
 | @ites o a L L2 c l m σ τ h hc hl he hm ihc ihl ihm =>
  have h0:=qb6 (L:=L) (by rw [h];decide)
  have h1:=take_le' [40] o (adv L)
  have h2:=qes [41] (o+1) σ
  have h3:=ihc.1;have h4:=ihl.1;have h5:=ihm.1
  have h6:=qb6 (L:=L2) (by rw [he];decide)
  have:τ.left.length<L.length:=by simp only [PS.left] at *;omega
  exact ⟨vi this,fun _ _ _=>sl this⟩
 | @loop o a L c l σ τ h hc hl ihc ihl =>
  have h0:=qb6 (L:=L) (by rw [h];decide)
  have h1:=take_le' [40] o (adv L)
  have h2:=qes [41] (o+1) σ
  have h3:=ihc.1;have h4:=ihl.1
  have:τ.left.length<L.length:=by omega
  exact ⟨vi this,fun _ _ _=>sl this⟩
 | @atom o L l τ h hl ihl =>
  have h0:=qb6 (L:=L) (by rw [h];decide)
  have h3:=ihl.1
  have:τ.left.length<L.length:=by simp only [PS.left] at *;omega
  exact ⟨vi this,fun _ _ _=>sl this⟩
 | @halt o a L h =>
  have h0:=qb6 (L:=L) (by rw [h];decide)
  have h1:=take_le' [59] o (adv L)
  have:(take [59] o (.ok (adv L))).left.length<L.length:=by simp only [PS.left] at *;omega
  exact ⟨vi this,fun _ _ _=>sl this⟩
 | nostm x h1 h2 h3 h4 h5 h6=>exact ⟨qf _,fun _ _ _ L L' e e'=>by cases e'⟩
 | nil h=>exact ⟨qf _,fun _ _ q=>q.elim⟩
 | cons h hs hl ihs ihl=>exact ⟨xw ihl.1 ihs.1,fun _ _ q=>q.elim⟩
 | @blk o a L l σ hl ih =>
  have h1:=take_le' [123] o L
  have h2:=qes [125] (o+1) σ
  have h3:=ih.1
  exact ⟨by simp only [PS.left] at *;omega,fun _ _ _=>tw (τ:=σ) (by decide) (by simp only [PS.left] at h3;omega)⟩
end Lang
end Go.Am
namespace Go.Am.Lang
theorem qlw {a b:UInt8} {c:UInt8} {s:Tk} (h:a<=c/\c<=b):span a b (c::s)=span a b s+1:=by simp only [span,xv h]
theorem qa8 {a b:UInt8} {c:UInt8} {s:Tk} (h:¬ (a<=c/\c<=b)):span a b (c::s)=0:=by simp only [span,qx h]
theorem qsj (a b:UInt8):∀ (s:Tk) (n:Nat),n<=span a b s -> ∀ c ∈ s.take n,a<=c/\c<=b
 | [],n,_,c,h=>by simp at h
 | x::s,0,_,c,h=>by simp at h
 | x::s,n+1,hn,c,h=>by
  by_cases q:a<=x/\x<=b
  ·rw [qlw q] at hn
   rw [qbs] at h
   rcases z6.1 h with rfl|h
   ·exact q
   ·exact qsj a b s n (by omega) c h
  ·rw [qa8 q] at hn;omega
theorem u8lt {a b:UInt8} (h:a<=b):a.toNat<=b.toNat:=qw.1 h
theorem qmq {L:Tk} {y:UInt8} {s:Tk} (h:tok L=y::s) (h1:48<=y) (h2:y<=57):∀ c ∈ tok L,48<=c/\c<=57:=by
 cases L with
 | nil=>rw [qc0] at h;cases h
 | cons x L =>
  have hx:x=y:=by
   unfold tok at h
   have:=qso (x::L)
   obtain ⟨m,hm⟩:∃ m,tkn (x::L)=m+1:=⟨tkn (x::L)-1,by omega⟩
   rw [hm,qbs] at h
   injection h
  subst hx
  have g1:48<=x.toNat:=u8lt h1
  have g2:x.toNat<=57:=u8lt h2
  have nt:¬ two (x::L):=by
   rintro (q|q|q|q)<;>(cases L<;>simp at q)<;>(rw [q.1] at g1 g2;revert g1 g2;decide)
  have sw:span 97 122 (x::L)=0:=qa8 fun q=>by have:=u8lt q.1;revert this;show 97<=x.toNat->False;omega
  have sd:=qlw (s:=L) ⟨h1,h2⟩
  have ht:tkn (x::L)=span 48 57 (x::L):=by
   unfold tkn;rw [qx nt,sw];omega
  unfold tok
  rw [ht]
  exact qsj 48 57 _ _ (qf _)
end Go.Am.Lang
namespace Go.Am.Lang
def PS.isBad:PS->Bool
 | .ok _=>false
 | .bad _=>true
theorem qaa {s:Tk} {o:Nat} {σ:PS} (h:(take s o σ).isBad=false):σ.isBad=false:=by
 cases σ with
 | ok L=>rfl
 | bad L=>cases h
theorem P.okIn {nt:NT} {o:Nat} {a:Bool} {σ τ:PS} {x:It} (h:P nt o a σ x τ) (ht:τ.isBad=false):σ.isBad=false:=by
 cases h<;>first|rfl|cases ht
theorem jw {s:Tk} (hs:s=[40]\/s=[123]) {o:Nat} {σ:PS} (h:(take s o σ).isBad=false):o+1<=50:=by
 cases hq:take s o σ with
 | bad L=>rw [hq] at h;cases h
 | ok L =>
  obtain ⟨_,_,_,q,_⟩:=qe7 hq
  rcases j2 o 50 with w|w
  ·exact w
  ·exact (q ⟨hs,w⟩).elim
def exOf:It->Ex
 | .e x=>x
 | _=>.num 0
def lsOf:It->Ls
 | .l x=>x
 | _=>.nil
end Go.Am.Lang
namespace Go.Am
namespace Lang
structure PEx (n:Nat):Prop where
 fac:∀ (L:Tk) (o:Nat) (a:Bool),L.length<=n -> ∃ x σ,P .fac o a (.ok L) (.e x) σ
 row:∀ (k:Nat) (L:Tk) (o:Nat) (a:Bool),k=1\/k=2->L.length<=n -> ∃ x σ,P (.row k) o a (.ok L) (.e x) σ
 rowl:∀ (k:Nat) (y:Ex) (L:Tk) (o:Nat) (a:Bool),k=1\/k=2->L.length<=n -> ∃ x σ,P (.rowl k y) o a (.ok L) (.e x) σ
 cnd:∀ (L:Tk) (o:Nat) (a:Bool),L.length<=n -> ∃ x σ,P .cnd o a (.ok L) (.c x) σ
 stm:∀ (L:Tk) (o:Nat) (a:Bool),L.length<=n -> ∃ x σ,P .stm o a (.ok L) (.s x) σ
 sts:∀ (e L:Tk) (o:Nat) (a:Bool),L.length<=n -> ∃ x σ,P (.sts e) o a (.ok L) (.l x) σ
 blk:∀ (L:Tk) (o:Nat) (a:Bool),L.length<=n -> ∃ x σ,P .blk o a (.ok L) (.l x) σ
theorem lift {α:Type} {f:α->It} {nt:NT} {o:Nat} {a:Bool} {n:Nat} (d:α) (h:∀ (L:Tk),L.length<=n -> ∃ x σ,P nt o a (.ok L) (f x) σ):∀ σ:PS,σ.left.length<=n -> ∃ x τ,P nt o a σ (f x) τ:=by
 intro σ hs
 cases σ with
 | bad L=>exact ⟨d,_,.bad _⟩
 | ok L=>exact h L hs
theorem P.ex:∀ n,PEx n:=by
 intro n
 induction n with
 | zero =>
  have nil:∀ {L:Tk},L.length<=0->L=[]:=fun h=>jz.1 (Nat.le_zero.1 h)
  have hf:∀ (o:Nat) (a:Bool) (x:It),P .fac o a (.ok []) x (.bad []):=fun o a x=>.nofac x (by rw [qc0];rfl) (by rw [qc0];decide) (by rw [qc0];decide) (by rw [qc0];simp [numOf])
  have hr:∀ (o:Nat) (a:Bool),P (.row 2) o a (.ok []) (.e (.num 0)) (.bad []):=fun o a=>.row (x:=.num 0) (σ:=.bad []) (hf o a _) (.bad _)
  have hr1:∀ (o:Nat) (a:Bool),P (.row 1) o a (.ok []) (.e (.num 0)) (.bad []):=fun o a=>.row (x:=.num 0) (σ:=.bad []) (hr o a) (.bad _)
  have hl:∀ (k:Nat) (y:Ex) (o:Nat) (a:Bool),k=1\/k=2->P (.rowl k y) o a (.ok []) (.e y) (.ok []):=fun k y o a hk=>.stop (by rw [qc0,show sigR []=0 from rfl];omega)
  have hs:∀ (o:Nat) (a:Bool) (x:It),P .stm o a (.ok []) x (.bad []):=fun o a x=>.nostm x (by rw [qc0];rfl) (by rw [qc0];decide) (by rw [qc0];decide) (by rw [qc0];decide) (.inr (by rw [qc0];decide)) (by rw [qc0];decide)
  have ht:∀ (e:Tk) (o:Nat) (a:Bool),∃ x σ,P (.sts e) o a (.ok []) (.l x) σ:=fun e o a=>by
   by_cases q:tok []=e
   ·exact ⟨_,_,.nil q⟩
   ·exact ⟨_,_,.cons q (hs o a (.s .halt)) (.bad (.l .nil))⟩
  refine ⟨fun L o a h=>?_,fun k L o a hk h=>?_,fun k y L o a hk h=>?_,fun L o a h=>?_,fun L o a h=>?_,fun e L o a h=>?_,fun L o a h=>?_⟩<;>rw [nil h]
  ·exact ⟨.num 0,_,hf o a _⟩
  ·rcases hk with rfl|rfl
   ·exact ⟨_,_,hr1 o a⟩
   ·exact ⟨_,_,hr o a⟩
  ·exact ⟨_,_,hl k y o a hk⟩
  ·exact ⟨⟨11,.num 0,.num 0⟩,_,.cnd1 _ (hr1 o a)⟩
  ·exact ⟨.halt,_,hs o a _⟩
  ·exact ht e o a
  ·have e:Lang.take [123] o (.ok [])=.bad []:=by simp [Lang.take,qc0]
   exact ⟨.nil,_,.blk (by rw [e];exact .bad _)⟩
 | succ n ih =>
  have x0:Ex:=.num 0
  have rowS:∀ (o:Nat) (a:Bool) (σ:PS),σ.left.length<=n -> ∃ x τ,P (.row 1) o a σ (.e x) τ:=fun o a=>lift (f:=It.e) (.num 0) fun L h=>ih.row 1 L o a (.inl rfl) h
  have cndS:∀ (o:Nat) (a:Bool) (σ:PS),σ.left.length<=n -> ∃ x τ,P .cnd o a σ (.c x) τ:=fun o a=>lift (f:=It.c) ⟨11,.num 0,.num 0⟩ fun L h=>ih.cnd L o a h
  have blkS:∀ (o:Nat) (a:Bool) (σ:PS),σ.left.length<=n -> ∃ x τ,P .blk o a σ (.l x) τ:=fun o a=>lift (f:=It.l) .nil fun L h=>ih.blk L o a h
  have stsS:∀ (e:Tk) (o:Nat) (a:Bool) (σ:PS),σ.left.length<=n -> ∃ x τ,P (.sts e) o a σ (.l x) τ:=fun e o a=>lift (f:=It.l) .nil fun L h=>ih.sts e L o a h
  have rowlS:∀ (k:Nat) (y:Ex) (o:Nat) (a:Bool) (σ:PS),k=1\/k=2 -> σ.left.length<=n -> ∃ x τ,P (.rowl k y) o a σ (.e x) τ:=fun k y o a σ hk=>lift (f:=It.e) (.num 0) (fun L h=>ih.rowl k y L o a hk h) σ
  have tkl:=fun (s:Tk) (o:Nat) (L:Tk)=>take_le' s o L
  have tks:=fun (s:Tk) (o:Nat) (σ:PS)=>qes s o σ
  have fac:∀ (L:Tk) (o:Nat) (a:Bool),L.length<=n+1 -> ∃ x σ,P .fac o a (.ok L) (.e x) σ:=by
   intro L o a hL
   by_cases h1:∃ v,varOf (tok L)=some v
   ·obtain ⟨v,h⟩:=h1;exact ⟨_,_,.var h⟩
   by_cases h2:tok L=wLoad
   ·have h0:=qb6 (L:=L) (by rw [h2];decide)
    have:=tkl [40] o (adv L)
    obtain ⟨x,σ,hx⟩:=rowS (o+1) a _ (show (Lang.take [40] o (.ok (adv L))).left.length<=n by omega)
    exact ⟨_,_,.load h2 hx⟩
   by_cases h3:tok L=[40]
   ·by_cases q:∃ L',Lang.take [40] o (.ok L)=.ok L'
    ·obtain ⟨L',hq⟩:=q
     have h0:=q0f (s:=[40]) (by decide) hq
     obtain ⟨x,σ,hx⟩:=rowS (o+1) a (.ok L') (show L'.length<=n by omega)
     rw [<-hq] at hx
     exact ⟨_,_,.par h3 hx⟩
    ·have:∃ L',Lang.take [40] o (.ok L)=.bad L':=by
      cases hq:Lang.take [40] o (.ok L) with
      | ok L'=>exact (q ⟨L',hq⟩).elim
      | bad L'=>exact ⟨L',rfl⟩
     obtain ⟨L',hq⟩:=this
     exact ⟨.num 0,_,.par h3 (by rw [hq];exact .bad _)⟩
   by_cases h4:∃ m,numOf (tok L)=some m
   ·obtain ⟨m,h⟩:=h4;exact ⟨_,_,.num h⟩
   ·refine ⟨.num 0,_,.nofac _ ?_ h2 h3 ?_⟩
    ·cases q:varOf (tok L) with
     | none=>rfl
     | some v=>exact (h1 ⟨v,q⟩).elim
    ·cases q:numOf (tok L) with
     | none=>rfl
     | some v=>exact (h4 ⟨v,q⟩).elim
  have row2:∀ (L:Tk) (o:Nat) (a:Bool),L.length<=n+1 -> ∃ x σ,P (.row 2) o a (.ok L) (.e x) σ:=by
   intro L o a hL
   obtain ⟨x,σ,hx⟩:=fac L o a hL
   cases σ with
   | bad L1=>exact ⟨.num 0,_,.row (n:=2) hx (.bad _)⟩
   | ok L1 =>
    have:=hx.le.2 (fun _ _ q=>by cases q) (fun _ q=>by cases q) trivial L L1 rfl rfl
    obtain ⟨y,τ,hy⟩:=rowlS 2 x o a (.ok L1) (.inr rfl) (show L1.length<=n by omega)
    exact ⟨_,_,.row (n:=2) hx hy⟩
  have row1:∀ (L:Tk) (o:Nat) (a:Bool),L.length<=n+1 -> ∃ x σ,P (.row 1) o a (.ok L) (.e x) σ:=by
   intro L o a hL
   obtain ⟨x,σ,hx⟩:=row2 L o a hL
   cases σ with
   | bad L1=>exact ⟨.num 0,_,.row (n:=1) hx (.bad _)⟩
   | ok L1 =>
    have:=hx.le.2 (fun _ _ q=>by cases q) (fun _ q=>by cases q;decide) trivial L L1 rfl rfl
    obtain ⟨y,τ,hy⟩:=rowlS 1 x o a (.ok L1) (.inl rfl) (show L1.length<=n by omega)
    exact ⟨_,_,.row (n:=1) hx hy⟩
  have rowl:∀ (k:Nat) (y:Ex) (L:Tk) (o:Nat) (a:Bool),k=1\/k=2->L.length<=n+1 -> ∃ x σ,P (.rowl k y) o a (.ok L) (.e x) σ:=by
   intro k y L o a hk hL
   by_cases h:sigR (tok L)=k
   ·have h0:=qb6 (L:=L) (qpo (by omega))
    obtain ⟨x,σ,hx⟩:∃ x σ,P (part k) o a (.ok (adv L)) (.e x) σ:=by
     rcases hk with rfl|rfl
     ·exact ih.row 2 (adv L) o a (.inr rfl) (by omega)
     ·exact ih.fac (adv L) o a (by omega)
    have h1:σ.left.length<=(adv L).length:=hx.le.1
    obtain ⟨z,τ,hz⟩:=rowlS k (.bin (sigK (tok L)) y x) o a σ hk (by omega)
    exact ⟨_,_,.more h hx hz⟩
   ·exact ⟨_,_,.stop h⟩
  have cnd:∀ (L:Tk) (o:Nat) (a:Bool),L.length<=n+1 -> ∃ x σ,P .cnd o a (.ok L) (.c x) σ:=by
   intro L o a hL
   obtain ⟨x,σ,hx⟩:=row1 L o a hL
   cases σ with
   | bad L1=>exact ⟨⟨11,.num 0,.num 0⟩,_,.cnd1 _ hx⟩
   | ok L1 =>
    by_cases h:csgK (tok L1)=0
    ·exact ⟨⟨11,.num 0,.num 0⟩,_,.cnd2 _ hx h⟩
    ·have h0:=qb6 (L:=L1) (qsy h)
     have h1:L1.length<=L.length:=hx.le.1
     obtain ⟨y,τ,hy⟩:=ih.row 1 (adv L1) o a (.inl rfl) (by omega)
     exact ⟨_,_,.cnd hx h hy⟩
  have blk:∀ (L:Tk) (o:Nat) (a:Bool),L.length<=n+1 -> ∃ x σ,P .blk o a (.ok L) (.l x) σ:=by
   intro L o a hL
   cases hq:Lang.take [123] o (.ok L) with
   | bad L1=>exact ⟨.nil,_,.blk (by rw [hq];exact .bad _)⟩
   | ok L1 =>
    have h0:=q0f (s:=[123]) (by decide) hq
    obtain ⟨x,σ,hx⟩:=ih.sts [125] L1 (o+1) a (by omega)
    exact ⟨_,_,.blk (by rw [hq];exact hx)⟩
  have stm:∀ (L:Tk) (o:Nat) (a:Bool),L.length<=n+1 -> ∃ x σ,P .stm o a (.ok L) (.s x) σ:=by
   intro L o a hL
   by_cases h1:∃ v,varOf (tok L)=some v
   ·obtain ⟨v,h⟩:=h1
    have h0:=qb6 (ql1 h);have:=tkl [61] o (adv L)
    obtain ⟨x,σ,hx⟩:=rowS o a _ (show (Lang.take [61] o (.ok (adv L))).left.length<=n by omega)
    exact ⟨_,_,.set h hx⟩
   by_cases h2:tok L=wStore
   ·have h0:=qb6 (L:=L) (by rw [h2];decide);have:=tkl [40] o (adv L)
    obtain ⟨x,σ,hx⟩:=rowS (o+1) a _ (show (Lang.take [40] o (.ok (adv L))).left.length<=n by omega)
    have:=hx.le.1;have:=tks [44] (o+1) σ
    obtain ⟨y,τ,hy⟩:=rowS (o+1) a _ (show (Lang.take [44] (o+1) σ).left.length<=n by omega)
    exact ⟨_,_,.store h2 hx hy⟩
   have cb:tok L=wIf\/tok L=wWhile -> ∃ c l σ τ,P .cnd (o+1) a (Lang.take [40] o (.ok (adv L))) (.c c) σ/\P .blk o a (Lang.take [41] (o+1) σ) (.l l) τ /\ τ.left.length<=n:=fun h=>by
    have h0:=qb6 (L:=L) (by rcases h with h|h<;>(rw [h];decide));have:=tkl [40] o (adv L)
    obtain ⟨c,σ,hc⟩:=cndS (o+1) a _ (show (Lang.take [40] o (.ok (adv L))).left.length<=n by omega)
    have:=hc.le.1;have:=tks [41] (o+1) σ
    obtain ⟨l,τ,hl⟩:=blkS o a _ (show (Lang.take [41] (o+1) σ).left.length<=n by omega)
    have:=hl.le.1
    exact ⟨c,l,σ,τ,hc,hl,by omega⟩
   by_cases h3:tok L=wIf
   ·obtain ⟨c,l,σ,τ,hc,hl,hn⟩:=cb (.inl h3)
    cases τ with
    | bad L2=>exact ⟨_,_,.ite1 h3 hc hl⟩
    | ok L2 =>
     by_cases he:tok L2=wElse
     ·have h0:=qb6 (L:=L2) (by rw [he];decide)
      have hn:L2.length<=n:=hn
      obtain ⟨m,τ,hm⟩:=ih.blk (adv L2) o a (by omega)
      exact ⟨_,_,.ites h3 hc hl he hm⟩
     ·exact ⟨_,_,.ite h3 hc hl he⟩
   by_cases h4:tok L=wWhile
   ·obtain ⟨c,l,σ,τ,hc,hl,hn⟩:=cb (.inr h4)
    exact ⟨_,_,.loop h4 hc hl⟩
   by_cases h5:a=false/\tok L=wAtomic
   ·obtain ⟨rfl,h5⟩:=h5
    have h0:=qb6 (L:=L) (by rw [h5];decide)
    obtain ⟨l,τ,hl⟩:=ih.blk (adv L) o true (by omega)
    exact ⟨_,_,.atom h5 hl⟩
   by_cases h6:tok L=wHalt
   ·exact ⟨_,_,.halt h6⟩
   ·refine ⟨.halt,_,.nostm _ ?_ h2 h3 h4 ?_ h6⟩
    ·cases q:varOf (tok L) with
     | none=>rfl
     | some v=>exact (h1 ⟨v,q⟩).elim
    ·cases a with
     | true=>exact .inl rfl
     | false=>exact .inr fun q=>h5 ⟨rfl,q⟩
  refine ⟨fac,fun k L o a hk h=>?_,rowl,cnd,stm,fun e L o a h=>?_,blk⟩
  ·rcases hk with rfl|rfl
   ·exact row1 L o a h
   ·exact row2 L o a h
  ·by_cases q:tok L=e
   ·exact ⟨_,_,.nil q⟩
   ·obtain ⟨s,σ,hs⟩:=stm L o a h
    cases σ with
    | bad L1=>exact ⟨_,_,.cons q hs (.bad (.l .nil))⟩
    | ok L1 =>
     have:=hs.le.2 (fun _ _ q=>by cases q) (fun _ q=>by cases q) trivial L L1 rfl rfl
     obtain ⟨l,τ,hl⟩:=ih.sts e L1 o a (by omega)
     exact ⟨_,_,.cons q hs hl⟩
end Lang
end Go.Am
namespace Go.Am
namespace Lang
def sfx:Nat->Tk->List Tk
 | 0,s=>[s]
 | n+1,s=>if s=[] then [[]] else s::sfx n (adv s)
theorem qwj (n:Nat) (s:Tk):(sfx n s)[0]? = some s:=by
 cases n with
 | zero=>rfl
 | succ n=>by_cases h:s=[]<;>simp [sfx,h]
theorem qwk:∀ (n:Nat) (s:Tk),s.length<=n -> ∀ (i:Nat) (L:Tk),(sfx n s)[i]? = some L->L ≠ []->(sfx n s)[i+1]? = some (adv L)
 | 0,s,hn,i,L,h,hL=>by
  have:s=[]:=jz.1 (Nat.le_zero.1 hn)
  subst this
  cases i with
  | zero=>simp [sfx] at h;exact (hL h).elim
  | succ i=>simp [sfx] at h
 | n+1,s,hn,i,L,h,hL=>by
  by_cases q:s=[]
  ·subst q
   cases i with
   | zero=>simp [sfx] at h;exact (hL h).elim
   | succ i=>simp [sfx] at h
  ·simp only [sfx,qx q] at h ⊢
   rw [xz]
   cases i with
   | zero =>
    simp at h;subst h
    exact qwj n _
   | succ i =>
    rw [xz] at h
    exact qwk n (adv s) (by have:=qn4 q;omega) i L h hL
theorem qz0:∀ (n:Nat) (s:Tk),(sfx n s).length<=n+1
 | 0,s=>qf _
 | n+1,s=>by
  have:=qz0 n (adv s)
  by_cases h:s=[]
  ·simp [sfx,h]
  ·simp only [sfx,qx h,xk];omega
theorem qzz:∀ (n:Nat) (s:Tk),s.length<=n -> ∀ (i:Nat),(sfx n s)[i]? = some []->i+1=(sfx n s).length
 | 0,s,hn,i,h=>by
  cases i with
  | zero=>rfl
  | succ i=>simp [sfx] at h
 | n+1,s,hn,i,h=>by
  by_cases q:s=[]
  ·subst q
   cases i with
   | zero=>rfl
   | succ i=>simp [sfx] at h
  ·simp only [sfx,qx q] at h ⊢
   cases i with
   | zero=>simp at h;exact (q h).elim
   | succ i =>
    rw [xz] at h
    have:=qzz n (adv s) (by have:=qn4 q;omega) i h
    simp only [xk];omega
theorem qz1:∀ (n:Nat) (s:Tk),∀ L ∈ sfx n s,L.length<=s.length
 | 0,s,L,h=>by simp [sfx] at h;subst h;exact qf _
 | n+1,s,L,h=>by
  by_cases q:s=[]
  ·subst q;simp [sfx] at h;subst h;exact qf _
  ·simp only [sfx,qx q] at h
   rcases z6.1 h with rfl|h
   ·exact qf _
   ·have:=qz1 n (adv s) L h
    have:=qn4 q;omega
def places (text:Tk):List Tk:=sfx text.length (skp false text)
theorem qpb (text:Tk):(places text)[0]? = some (skp false text):=qwj ..
theorem qpc (text:Tk) (i:Nat) (L:Tk) (h:(places text)[i]? = some L) (hL:L ≠ []):(places text)[i+1]? = some (adv L):=qwk _ _ (qit _ _) i L h hL
theorem qxl (text:Tk) (i:Nat) (h:(places text)[i]? = some []):i+1=(places text).length:=qzz _ _ (qit _ _) i h
theorem qqp (text:Tk):(places text).length<=text.length+1:=qz0 ..
theorem qxm (text:Tk):∀ L ∈ places text,L.length<=text.length:=fun L h=>xw (qz1 _ _ L h) (qit _ _)
def lcStep (q:Int × Int) (c:UInt8):Int × Int:=if c=10 then (q.1+1,1) else (q.1,q.2+1)
def lc (s:Tk):Int × Int:=s.foldl lcStep (1,1)
theorem lc_snoc (s:Tk) (c:UInt8):lc (s ++ [c])=lcStep (lc s) c:=by simp [lc]
theorem qu1 {s:Tk} {i:Nat} {c:UInt8} (h:s[i]? = some c):lc (s.take (i+1))=lcStep (lc (s.take i)) c:=by rw [List.take_add_one,h];exact lc_snoc _ _
def lcOf (text L:Tk):Int × Int:=lc (text.take (text.length-L.length))
def recOf (text L:Tk):Tk × Int × Int:=(tok L,(lcOf text L).1,(lcOf text L).2)
theorem qv8 (s:Tk):1<=(lc s).1/\(lc s).1<=s.length+1/\1<=(lc s).2/\(lc s).2<=s.length+1:=by
 have key:∀ (s:Tk) (q:Int × Int),1<=q.1->1<=q.2->1<=(s.foldl lcStep q).1/\(s.foldl lcStep q).1<=q.1+s.length/\1<=(s.foldl lcStep q).2/\(s.foldl lcStep q).2<=q.2+s.length:=by
  intro s
  induction s with
  | nil=>intro q h1 h2;simp;omega
  | cons c s ih =>
   intro q h1 h2
   have:=ih (lcStep q c) (by unfold lcStep;split<;>simp<;>omega) (by unfold lcStep;split<;>simp<;>omega)
   have a1:(lcStep q c).1<=q.1+1:=by unfold lcStep;split<;>simp<;>omega
   have a2:(lcStep q c).2<=q.2+1:=by unfold lcStep;split<;>simp<;>omega
   simp only [yx,xk];omega
 have:=key s (1,1) (by decide) (by decide)
 simp only at this
 unfold lc;omega
theorem qz4 {c:UInt8} {s:Tk} (h:¬ (c=35\/c=32\/c=9\/c=10)):skp false (c::s)=c::s:=by
 have h1:¬ c=35:=fun q=>h (.inl q)
 have h2:¬ (c=32\/c=9\/c=10):=fun q=>h (.inr q)
 simp only [skp,qx h1,qx h2]
theorem qhm {c:UInt8} {s:Tk} (h:c=32\/c=9\/c=10):skp false (c::s)=skp false s:=by
 have h1:¬ c=35:=by rintro rfl;rcases h with h|h|h<;>cases h
 simp only [skp,qx h1,xv h]
theorem qsh {s:Tk}:skp false (35::s)=skp true s:=by simp [skp]
theorem skp_in {c:UInt8} {s:Tk} (h:c ≠ 10):skp true (c::s)=skp true s:=by simp only [skp,qx h]
theorem skp_nl {s:Tk}:skp true (10::s)=skp false (10::s):=by simp [skp]
end Lang
end Go.Am
namespace Go.Am.Lang
theorem qy7:∀ (s:Tk) (q:Int × Int),(∀ c ∈ s,c ≠ 10)->s.foldl lcStep q=(q.1,q.2+s.length)
 | [],q,_=>by simp
 | c::s,q,h=>by
  rw [yx,qy7 s _ fun x hx=>h x (by simp [hx]),lcStep,qx (h c (by simp))]
  simp only [xk];congr 1;omega
theorem qt4 {a b:UInt8} (ha:10<a):∀ (s:Tk) (n:Nat),n<=span a b s -> ∀ c ∈ s.take n,c ≠ 10:=fun s n hn c hc q=>by
 have:=(qsj a b s n hn c hc).1
 subst q
 have h1:=UInt8.lt_iff_toNat_lt.1 ha
 have h2:=qw.1 this
 omega
theorem tok_no10 {L:Tk} {c:UInt8} {r:Tk} (hc:L=c::r) (h:c ≠ 10):∀ x ∈ tok L,x ≠ 10:=by
 intro x hx
 unfold tok tkn at hx
 split at hx
 ·rename_i q
  rcases q with q|q|q|q<;>(rw [q] at hx;simp at hx;rintro rfl;revert hx;decide)
 ·rcases j2 1 (max (span 97 122 L) (span 48 57 L)) with w|w
  ·rw [Nat.max_eq_right (by omega)] at hx
   rcases Nat.le_total (span 97 122 L) (span 48 57 L) with v|v
   ·rw [Nat.max_eq_right v] at hx;exact qt4 (by decide) L _ (qf _) x hx
   ·rw [Nat.max_eq_left v] at hx;exact qt4 (by decide) L _ (qf _) x hx
  ·rw [Nat.max_eq_left w,hc] at hx
   simp at hx;subst hx;exact h
theorem lc_tok {text:Tk} {p n:Nat} (h:∀ x ∈ (text.drop p).take n,x ≠ 10) (hn:p+n<=text.length):lc (text.take (p+n))=((lc (text.take p)).1,(lc (text.take p)).2+n):=by
 have e:text.take (p+n)=text.take p++(text.drop p).take n:=by rw [List.take_add]
 rw [e]
 unfold lc
 rw [List.foldl_append,qy7 _ _ h,jk,zy,Nat.min_eq_left (by omega)]
end Go.Am.Lang
namespace Go.Am
namespace Lang
def letr (c:UInt8):Prop:=97<=c/\c<=122
def digt (c:UInt8):Prop:=48<=c/\c<=57
instance (c:UInt8):Decidable (letr c):=by unfold letr;infer_instance
instance (c:UInt8):Decidable (digt c):=by unfold digt;infer_instance
def Sep (R:Tk):Prop:=span 97 122 R=0/\span 48 57 R=0
theorem tok_one {s:Tk} (h:tkn s=1) {c:UInt8} {R:Tk} (e:s=c::R):tok s=[c]/\adv s=skp false R:=by
 subst e;unfold tok adv;rw [h];exact ⟨rfl,rfl⟩
theorem qpu {c:UInt8} (R:Tk) (h:c ≠ 61/\c ≠ 33/\c ≠ 60/\c ≠ 62 /\ ¬ letr c /\ ¬ digt c):tok (c::R)=[c]/\adv (c::R)=skp false R:=by
 obtain ⟨h1,h2,h3,h4,h5,h6⟩:=h
 refine tok_one ?_ rfl
 have nt:¬ two (c::R):=by
  rintro (q|q|q|q)<;>(rw [qbs] at q;injection q with q _;contradiction)
 unfold tkn
 rw [qx nt,qa8 h5,qa8 h6];rfl
theorem qwl {a b:UInt8} {R:Tk} (hR:span a b R=0):∀ w:Tk,(∀ c ∈ w,a<=c/\c<=b)->span a b (w++R)=w.length
 | [],_=>hR
 | c::w,h=>by
  rw [jj,qlw (h c (by simp)),qwl hR w fun x hx=>h x (by simp [hx])];rfl
theorem tok_run {w R:Tk} (hn:w ≠ []) (h:tkn (w++R)=w.length):tok (w++R)=w/\adv (w++R)=skp false R:=by
 unfold tok adv;rw [h];simp
theorem tok_word {w R:Tk} (hn:w ≠ []) (hw:∀ c ∈ w,letr c) (hR:span 97 122 R=0):tok (w++R)=w/\adv (w++R)=skp false R:=by
 refine tok_run hn ?_
 obtain ⟨c,r,rfl⟩:∃ c r,w=c::r:=by cases w with|nil=>exact (hn rfl).elim|cons c r=>exact ⟨c,r,rfl⟩
 have hc:=hw c (by simp)
 have h1:97<=c.toNat:=u8lt hc.1
 have h2:c.toNat<=122:=u8lt hc.2
 have nt:¬ two (c::r++R):=by
  rw [jj]
  rintro (q|q|q|q)<;>(rw [qbs] at q;injection q with q _;subst q;revert h1;decide)
 have hd:span 48 57 (c::r++R)=0:=qa8 fun q=>by have:=u8lt q.2;have:c.toNat<=57:=this;omega
 unfold tkn
 rw [qx nt,hd,qwl hR _ hw]
 simp
theorem dec_digt (n:Nat):∀ c ∈ dec n,digt c:=fun c hc=>by
 obtain ⟨h1,h2⟩:=qym n c hc
 exact ⟨qw.2 h1,qw.2 h2⟩
theorem qow {v:Nat} (h:v<=7):∀ c ∈ letter v,letr c:=fun c hc=>by
 unfold letter at hc
 rw [xp] at hc
 subst hc
 exact ⟨qw.2 (by rw [ww];show 97<=_;omega),qw.2 (by rw [ww];show _<=122;omega)⟩
def Nb (s:Tk):Prop:=∃ c r,s=c::r /\ ¬ (c=35\/c=32\/c=9\/c=10)
theorem Nb.skp {s:Tk} (h:Nb s) (R:Tk):skp false (s++R)=s++R:=by
 obtain ⟨c,r,rfl,hc⟩:=h
 have h1:¬ c=35:=fun q=>hc (.inl q)
 have h2:¬ (c=32\/c=9\/c=10):=fun q=>hc (.inr q)
 simp only [jj,Lang.skp,qx h1,qx h2]
theorem Nb.app {s:Tk} (h:Nb s) (t:Tk):Nb (s++t):=by
 obtain ⟨c,r,rfl,hc⟩:=h
 exact ⟨c,r++t,rfl,hc⟩
theorem qzc {s:Tk} (hn:s ≠ []) (h:∀ c ∈ s,letr c):Nb s:=by
 cases s with
 | nil=>exact (hn rfl).elim
 | cons c r =>
  refine ⟨c,r,rfl,?_⟩
  have:=u8lt (h c (by simp)).1
  rintro (rfl|rfl|rfl|rfl)<;>revert this<;>decide
theorem nb_digt {s:Tk} (hn:s ≠ []) (h:∀ c ∈ s,digt c):Nb s:=by
 cases s with
 | nil=>exact (hn rfl).elim
 | cons c r =>
  refine ⟨c,r,rfl,?_⟩
  have:=u8lt (h c (by simp)).1
  rintro (rfl|rfl|rfl|rfl)<;>revert this<;>decide
theorem Ex.nb:∀ (x:Ex) (d:Nat),x.ok->Nb (x.txt d)
 | .num n,d,_=>nb_digt (dec_ne n) (dec_digt n)
 | .var v,d,h=>qzc (by simp [Ex.txt,letter]) (qow h)
 | .load a,d,_=>⟨108,_,by simp only [Ex.txt,jj,qu];rfl,by decide⟩
 | .bin k a b,d,h=>by
  simp only [Ex.txt,qu]
  by_cases q:rowOf k<d
  ·exact ⟨40,_,by simp only [par,xv q,jj];rfl,by decide⟩
  ·simp only [par,qx q,zo]
   exact (a.nb (rowOf k) h.2.2.1).app _
theorem row12 (k:Nat):rowOf k=1\/rowOf k=2:=by unfold rowOf;split<;>simp
theorem t40 (R:Tk):tok (40::R)=[40]/\adv (40::R)=skp false R:=qpu R (by decide)
theorem t41 (R:Tk):tok (41::R)=[41]/\adv (41::R)=skp false R:=qpu R (by decide)
theorem t44 (R:Tk):tok (44::R)=[44]/\adv (44::R)=skp false R:=qpu R (by decide)
theorem t59 (R:Tk):tok (59::R)=[59]/\adv (59::R)=skp false R:=qpu R (by decide)
theorem t123 (R:Tk):tok (123::R)=[123]/\adv (123::R)=skp false R:=qpu R (by decide)
structure RdE (x:Ex):Prop where
 f3:∀ (R:Tk) (o:Nat) (a:Bool),Sep R->o+x.dep 3<=50->P .fac o a (.ok (x.txt 3++R)) (.e x) (.ok (skp false R))
 f2:∀ (R:Tk) (o:Nat) (a:Bool) (z:Ex) (τ:PS),Sep R->o+x.dep 2<=50->P (.rowl 2 x) o a (.ok (skp false R)) (.e z) τ->P (.row 2) o a (.ok (x.txt 2++R)) (.e z) τ
 f1:∀ (R:Tk) (o:Nat) (a:Bool) (z:Ex) (τ:PS),Sep R->sigR (tok (skp false R)) ≠ 2->o+x.dep 1<=50->P (.rowl 1 x) o a (.ok (skp false R)) (.e z) τ->P (.row 1) o a (.ok (x.txt 1++R)) (.e z) τ
end Lang
end Go.Am
namespace Go.Am
namespace Lang
theorem skp_sp (R:Tk):skp false (32::R)=skp false R:=by simp [skp]
theorem skp_ind:∀ (d:Nat) (R:Tk),skp false (ind d++R)=skp false R:=by
 have key:∀ (n:Nat) (R:Tk),skp false (List.replicate n 32++R)=skp false R:=by
  intro n
  induction n with
  | zero=>intro R;rfl
  | succ n ih=>intro R;rw [qbr,jj,skp_sp,ih]
 exact fun d R=>key _ R
theorem St.first:∀ (s:St) (d:Nat) (R:Tk),s.ok->Nb (s.txt d)/\tok (s.txt d++R) ≠ wElse/\tok (s.txt d++R) ≠ [125]/\tok (s.txt d++R) ≠ []:=by
 have wd:∀ (w:Tk) (t R:Tk) (c:UInt8),w ≠ []->(∀ x ∈ w,letr x) -> ¬ letr c->Nb (w++(c::t))/\tok (w++(c::t)++R)=w:=fun w t R c hn hw hc=>by
  refine ⟨(qzc hn hw).app _,?_⟩
  rw [qu,jj]
  exact (tok_word hn hw (qa8 hc)).1
 intro s d R ho
 cases s with
 | set v x =>
  have hv:v<=7:=ho.1
  obtain ⟨h1,h2⟩:=wd (letter v) ([61,32]++(x.txt 0 ++ [59])) R 32 (by simp [letter]) (qow hv) (by decide)
  have e:St.txt (.set v x) d=letter v++(32::([61,32]++(x.txt 0 ++ [59]))):=by simp [St.txt]
  rw [e]
  refine ⟨h1,?_,?_,?_⟩<;>rw [h2]<;>unfold letter
  ·simp
  ·intro q
   have:=congrArg (fun l:Tk=>(l.headD 0).toNat) q
   simp only [List.headD_cons,ww] at this
   have e2:(125:UInt8).toNat=125:=rfl
   omega
  ·simp
 | store x y =>
  obtain ⟨h1,h2⟩:=wd wStore (x.txt 0++([44,32]++(y.txt 0 ++ [41,59]))) R 40 (by decide) (by decide) (by decide)
  have e:St.txt (.store x y) d=wStore++(40::(x.txt 0++([44,32]++(y.txt 0 ++ [41,59])))):=by simp [St.txt]
  rw [e];exact ⟨h1,by rw [h2];decide,by rw [h2];decide,by rw [h2];decide⟩
 | ite c l =>
  obtain ⟨h1,h2⟩:=wd wIf (40::(c.txt++([41,32]++([123,10]++(l.txt (d+1)++(ind d ++ [125])))))) R 32 (by decide) (by decide) (by decide)
  have e:St.txt (.ite c l) d=wIf++(32::(40::(c.txt++([41,32]++([123,10]++(l.txt (d+1)++(ind d ++ [125]))))))):=by simp [St.txt]
  rw [e];exact ⟨h1,by rw [h2];decide,by rw [h2];decide,by rw [h2];decide⟩
 | ites c l m =>
  obtain ⟨h1,h2⟩:=wd wIf (40::(c.txt++([41,32]++([123,10]++(l.txt (d+1)++(ind d++([125]++([32,101,108,115,101,32]++([123,10]++(m.txt (d+1)++(ind d ++ [125]))))))))))) R 32 (by decide) (by decide) (by decide)
  have e:St.txt (.ites c l m) d=wIf++(32::(40::(c.txt++([41,32]++([123,10]++(l.txt (d+1)++(ind d++([125]++([32,101,108,115,101,32]++([123,10]++(m.txt (d+1)++(ind d ++ [125])))))))))))):=by simp [St.txt]
  rw [e];exact ⟨h1,by rw [h2];decide,by rw [h2];decide,by rw [h2];decide⟩
 | loop c l =>
  obtain ⟨h1,h2⟩:=wd wWhile (40::(c.txt++([41,32]++([123,10]++(l.txt (d+1)++(ind d ++ [125])))))) R 32 (by decide) (by decide) (by decide)
  have e:St.txt (.loop c l) d=wWhile++(32::(40::(c.txt++([41,32]++([123,10]++(l.txt (d+1)++(ind d ++ [125]))))))):=by simp [St.txt]
  rw [e];exact ⟨h1,by rw [h2];decide,by rw [h2];decide,by rw [h2];decide⟩
 | atom l =>
  obtain ⟨h1,h2⟩:=wd wAtomic ([123,10]++(l.txt (d+1)++(ind d ++ [125]))) R 32 (by decide) (by decide) (by decide)
  have e:St.txt (.atom l) d=wAtomic++(32::([123,10]++(l.txt (d+1)++(ind d ++ [125])))):=by simp [St.txt]
  rw [e];exact ⟨h1,by rw [h2];decide,by rw [h2];decide,by rw [h2];decide⟩
 | halt =>
  obtain ⟨h1,h2⟩:=wd wHalt [] R 59 (by decide) (by decide) (by decide)
  have e:St.txt .halt d=wHalt++(59 :: []):=by simp [St.txt]
  rw [e];exact ⟨h1,by rw [h2];decide,by rw [h2];decide,by rw [h2];decide⟩
theorem Ls.first (l:Ls) (d:Nat) (R:Tk) (ho:l.ok) (hR:tok (skp false R) ≠ wElse):tok (skp false (l.txt d++R)) ≠ wElse:=by
 cases l with
 | nil=>exact hR
 | cons s l =>
  obtain ⟨h1,h2,_⟩:=s.first d (10::(l.txt d++R)) ho.1
  have e:Ls.txt (.cons s l) d++R=ind d++(s.txt d++(10::(l.txt d++R))):=by simp [Ls.txt]
  rw [e,skp_ind,h1.skp];exact h2
end Lang
end Go.Am
namespace Go.Am
namespace Lang
theorem vv (L:Tk):(PS.ok L).left=L:=rfl
theorem qda (L:Tk):(PS.bad L).left=L:=rfl
theorem qan {s:Tk} (hs:s ≠ []) {o:Nat} {σ:PS} (h:(take s o σ).isBad=false):(take s o σ).left.length+1 <= σ.left.length:=by
 cases hq:take s o σ with
 | bad L=>rw [hq] at h;cases h
 | ok L =>
  obtain ⟨L1,rfl,h1,_,rfl⟩:=qe7 hq
  exact qb6 (by rw [h1];exact hs)
theorem qgl:∀ (x:Ex),x.dep 0=x.dep 1/\x.dep 1<=x.dep 2/\x.dep 2<=x.dep 3/\x.dep 3<=x.dep 1+1
 | .num _=>by simp [Ex.dep]
 | .var _=>by simp [Ex.dep]
 | .load _=>by simp [Ex.dep]
 | .bin k x y=>by rcases row12 k with h|h<;>simp [Ex.dep,h]
theorem qwo {t:Tk} {v:Nat} (h:varOf t=some v):v<=7:=by
 unfold varOf at h
 split at h
 ·rename_i c
  split at h
  ·rename_i q;injection h with h;have:=u8lt q.2;have e:(104:UInt8).toNat=104:=rfl;omega
  ·cases h
 ·cases h
theorem numOf_lt {t:Tk} {n:Nat} (h:numOf t=some n):n<18446744073709551616:=by
 unfold numOf at h
 split at h
 ·rename_i q;injection h with h;rw [<-h];exact q.2.2.2
 ·cases h
theorem sigK_ok {t:Tk} {n:Nat} (h:sigR t=n) (hn:n ≠ 0):4<=sigK t/\sigK t<=10/\rowOf (sigK t)=n:=by
 have h0:sigK t ≠ 0:=fun q=>hn (by rw [<-h];unfold sigR;rw [xv q])
 refine ⟨?_,?_,by rw [<-h];unfold sigR;rw [qx h0]⟩<;>(unfold sigK at h0 ⊢;(repeat' split)<;>simp_all)
theorem csgK_ok {t:Tk} (h:csgK t ≠ 0):11<=csgK t/\csgK t<=13:=by
 unfold csgK at h ⊢;(repeat' split)<;>simp_all
def GdE (x:Ex) (o d:Nat) (σ τ:PS):Prop:=x.ok/\x.small/\o+x.dep d<=50/\x.sz + τ.left.length <= σ.left.length
def Gd (nt:NT) (o:Nat) (a:Bool) (σ:PS) (x:It) (τ:PS):Prop:=match nt with
 | .fac=>∃ e,x=.e e/\GdE e o 3 σ τ
 | .row n=>n=1\/n=2 -> ∃ e,x=.e e/\GdE e o n σ τ
 | .rowl n y=>n=1\/n=2->y.ok->y.small->o+y.dep n<=50 -> ∃ e,x=.e e/\e.ok/\e.small/\o+e.dep n<=50/\e.sz + τ.left.length <= σ.left.length+y.sz
 | .cnd=>∃ c,x=.c c/\c.ok/\c.small/\o+c.dep<=50/\c.sz + τ.left.length <= σ.left.length
 | .stm=>∃ s,x=.s s/\s.ok/\s.small/\o+s.dep<=50/\s.sz + τ.left.length <= σ.left.length/\(a=true->s.atm=false)
 | .sts _=>∃ l,x=.l l/\l.ok/\l.small/\o+l.dep<=50/\l.sz + τ.left.length <= σ.left.length/\(a=true->l.atm=false)
 | .blk=>∃ l,x=.l l/\l.ok/\l.small/\o+1+l.dep<=50/\l.sz+1 + τ.left.length <= σ.left.length/\(a=true->l.atm=false)
theorem qy2 {n o:Nat} {a:Bool} {σ τ:PS} {x:It} (hn:n=1\/n=2) (h:Gd (part n) o a σ x τ):∃ e,x=.e e/\GdE e o (n+1) σ τ:=by
 rcases hn with rfl|rfl
 ·exact h (.inr rfl)
 ·exact h
theorem P.good {nt:NT} {o:Nat} {a:Bool} {σ τ:PS} {x:It} (h:P nt o a σ x τ):τ.isBad=false->(σ.isBad=false->o<=50)->Gd nt o a σ x τ:=by
 have adv1:∀ {L:Tk},tok L ≠ []->(adv L).length+1<=L.length:=fun h=>qb6 h
 induction h with
 | bad x=>intro h;cases h
 | @num o a L n h =>
  intro _ ho
  have:=adv1 (qze h)
  exact ⟨_,rfl,trivial,numOf_lt h,by simpa [Ex.dep] using ho rfl,by simp only [vv,Ex.sz];omega⟩
 | @var o a L v h =>
  intro _ ho
  have:=adv1 (ql1 h)
  exact ⟨_,rfl,qwo h,trivial,by simpa [Ex.dep] using ho rfl,by simp only [vv,Ex.sz];omega⟩
 | @load o a L x σ h hx ih =>
  intro hb ho
  have hσ:=qaa hb
  have h1:=hx.okIn hσ
  obtain ⟨e,he,g1,g2,g3,g4⟩:=ih hσ (fun q=>jw (.inl rfl) q) (.inl rfl)
  injection he with he;subst he
  have:=qan (s:=[41]) (by decide) hb
  have:=qan (s:=[40]) (by decide) h1
  have:=adv1 (L:=L) (by rw [h];decide)
  have hd:=qgl x
  simp only [vv,qda] at *
  exact ⟨_,rfl,g1,g2,by simp only [Ex.dep];omega,by simp only [vv,Ex.sz];omega⟩
 | @par o a L x σ h hx ih =>
  intro hb ho
  have hσ:=qaa hb
  have h1:=hx.okIn hσ
  obtain ⟨e,he,g1,g2,g3,g4⟩:=ih hσ (fun q=>jw (.inl rfl) q) (.inl rfl)
  injection he with he;subst he
  have:=qan (s:=[41]) (by decide) hb
  have:=qan (s:=[40]) (by decide) h1
  have hd:=qgl x
  simp only [vv,qda] at *
  exact ⟨_,rfl,g1,g2,by omega,by simp only [vv];omega⟩
 | nofac x h1 h2 h3 h4=>intro h;cases h
 | @row n o a L x y σ τ hx hy ihx ihy =>
  intro hb ho hn
  have hσ:=hy.okIn hb
  obtain ⟨e,he,g1,g2,g3,g4⟩:=qy2 hn (ihx hσ ho)
  injection he with he;subst he
  have hd:=qgl x
  have g3':o+x.dep n<=50:=by rcases hn with rfl|rfl<;>(simp only [Nat.reduceAdd] at g3;omega)
  obtain ⟨z,hz,k1,k2,k3,k4⟩:=ihy hb (fun _=>ho rfl) hn g1 g2 g3'
  exact ⟨z,hz,k1,k2,k3,by omega⟩
 | @stop n o a L x h=>intro _ _ _ h1 h2 h3;exact ⟨_,rfl,h1,h2,h3,by omega⟩
 | @more n o a L x y z σ τ h hy hz ihy ihz =>
  intro hb ho hn h1 h2 h3
  have hn0:n ≠ 0:=by omega
  have hσ:=hz.okIn hb
  obtain ⟨e,he,g1,g2,g3,g4⟩:=qy2 hn (ihy hσ fun _=>ho rfl)
  injection he with he;subst he
  obtain ⟨s1,s2,s3⟩:=sigK_ok h hn0
  have:=adv1 (L:=L) (qpo (by omega))
  have hdep:(Ex.bin (sigK (tok L)) x y).dep n=max (x.dep n) (y.dep (n+1)):=by simp [Ex.dep,s3]
  have g3:o+y.dep (n+1)<=50:=g3
  obtain ⟨w,hw,k1,k2,k3,k4⟩:=ihz hb (fun _=>ho rfl) hn ⟨s1,s2,h1,g1⟩ ⟨h2,g2⟩ (by rw [hdep];omega)
  simp only [vv,qda,Ex.sz] at *
  exact ⟨w,hw,k1,k2,k3,by omega⟩
 | @cnd o a L L1 x y σ hx h hy ihx ihy =>
  intro hb ho
  obtain ⟨e,he,g1,g2,g3,g4⟩:=ihx rfl ho (.inl rfl)
  injection he with he;subst he
  obtain ⟨e,he,k1,k2,k3,k4⟩:=ihy hb (fun _=>ho rfl) (.inl rfl)
  injection he with he;subst he
  obtain ⟨c1,c2⟩:=csgK_ok h
  have:=adv1 (qsy h)
  have hd1:=qgl x
  have hd2:=qgl y
  simp only [vv,qda] at *
  exact ⟨_,rfl,⟨c1,c2,g1,k1⟩,⟨g2,k2⟩,by simp only [Cn.dep];omega,by simp only [vv,Cn.sz];omega⟩
 | cnd1 z hx ihx=>intro h;cases h
 | cnd2 z hx h ihx=>intro h;cases h
 | @set o a L v x σ h hx ih =>
  intro hb ho
  have hσ:=qaa hb
  have h1:=hx.okIn hσ
  obtain ⟨e,he,g1,g2,g3,g4⟩:=ih hσ (fun _=>ho rfl) (.inl rfl)
  injection he with he;subst he
  have:=qan (s:=[59]) (by decide) hb
  have:=qan (s:=[61]) (by decide) h1
  have:=adv1 (ql1 h)
  have hd:=qgl x
  simp only [vv,qda] at *
  exact ⟨_,rfl,⟨qwo h,g1⟩,g2,by simp only [St.dep];omega,by simp only [vv,St.sz];omega,fun _=>rfl⟩
 | @store o a L x y σ τ h hx hy ihx ihy =>
  intro hb ho
  have hb1:=qaa hb
  have hτ:=qaa hb1
  have h2:=hy.okIn hτ
  have hσ:=qaa h2
  have h1:=hx.okIn hσ
  obtain ⟨e,he,g1,g2,g3,g4⟩:=ihx hσ (fun q=>jw (.inl rfl) q) (.inl rfl)
  injection he with he;subst he
  obtain ⟨e,he,k1,k2,k3,k4⟩:=ihy hτ (fun _=>jw (.inl rfl) h1) (.inl rfl)
  injection he with he;subst he
  have:=qan (s:=[59]) (by decide) hb
  have:=qan (s:=[41]) (by decide) hb1
  have:=qan (s:=[44]) (by decide) h2
  have:=qan (s:=[40]) (by decide) h1
  have:=adv1 (L:=L) (by rw [h];decide)
  have hd1:=qgl x
  have hd2:=qgl y
  simp only [vv,qda] at *
  exact ⟨_,rfl,⟨g1,k1⟩,⟨g2,k2⟩,by simp only [St.dep];omega,by simp only [vv,St.sz];omega,fun _=>rfl⟩
 | @ite o a L L2 c l σ h hc hl he ihc ihl =>
  intro hb ho
  have h2:=hl.okIn hb
  have hσ:=qaa h2
  have h1:=hc.okIn hσ
  obtain ⟨e,he,g1,g2,g3,g4⟩:=ihc hσ (fun q=>jw (.inl rfl) q)
  injection he with he;subst he
  obtain ⟨e,he,k1,k2,k3,k4,k5⟩:=ihl hb (fun _=>ho rfl)
  injection he with he;subst he
  have:=qan (s:=[41]) (by decide) h2
  have:=qan (s:=[40]) (by decide) h1
  have:=adv1 (L:=L) (by rw [h];decide)
  simp only [vv,qda] at *
  exact ⟨_,rfl,⟨g1,k1⟩,⟨g2,k2⟩,by simp only [St.dep];omega,by simp only [vv,St.sz];omega,fun q=>k5 q⟩
 | ite1 h hc hl ihc ihl=>intro h;cases h
 | @ites o a L L2 c l m σ τ h hc hl he hm ihc ihl ihm =>
  intro hb ho
  have h2:=hl.okIn rfl
  have hσ:=qaa h2
  have h1:=hc.okIn hσ
  obtain ⟨e,hee,g1,g2,g3,g4⟩:=ihc hσ (fun q=>jw (.inl rfl) q)
  injection hee with hee;subst hee
  obtain ⟨e,hee,k1,k2,k3,k4,k5⟩:=ihl rfl (fun _=>ho rfl)
  injection hee with hee;subst hee
  obtain ⟨e,hee,m1,m2,m3,m4,m5⟩:=ihm hb (fun _=>ho rfl)
  injection hee with hee;subst hee
  have:=qan (s:=[41]) (by decide) h2
  have:=qan (s:=[40]) (by decide) h1
  have:=adv1 (L:=L) (by rw [h];decide)
  have:=adv1 (L:=L2) (by rw [he];decide)
  simp only [vv,qda] at *
  exact ⟨_,rfl,⟨g1,k1,m1⟩,⟨g2,k2,m2⟩,by simp only [St.dep];omega,by simp only [vv,St.sz];omega,fun q=>by simp only [St.atm,k5 q,m5 q,Bool.or_self]⟩
 | @loop o a L c l σ τ h hc hl ihc ihl =>
  intro hb ho
  have h2:=hl.okIn hb
  have hσ:=qaa h2
  have h1:=hc.okIn hσ
  obtain ⟨e,he,g1,g2,g3,g4⟩:=ihc hσ (fun q=>jw (.inl rfl) q)
  injection he with he;subst he
  obtain ⟨e,he,k1,k2,k3,k4,k5⟩:=ihl hb (fun _=>ho rfl)
  injection he with he;subst he
  have:=qan (s:=[41]) (by decide) h2
  have:=qan (s:=[40]) (by decide) h1
  have:=adv1 (L:=L) (by rw [h];decide)
  simp only [vv,qda] at *
  exact ⟨_,rfl,⟨g1,k1⟩,⟨g2,k2⟩,by simp only [St.dep];omega,by simp only [vv,St.sz];omega,fun q=>k5 q⟩
 | @atom o L l τ h hl ihl =>
  intro hb ho
  obtain ⟨e,he,k1,k2,k3,k4,k5⟩:=ihl hb (fun _=>ho rfl)
  injection he with he;subst he
  have:=adv1 (L:=L) (by rw [h];decide)
  simp only [vv,qda] at *
  exact ⟨_,rfl,⟨k1,k5 trivial⟩,k2,by simp only [St.dep];omega,by simp only [vv,St.sz];omega,fun q=>by cases q⟩
 | @halt o a L h =>
  intro hb ho
  have:=qan (s:=[59]) (by decide) hb
  have:=adv1 (L:=L) (by rw [h];decide)
  simp only [vv,qda] at *
  exact ⟨_,rfl,trivial,trivial,by simpa [St.dep] using ho rfl,by simp only [vv,St.sz];omega,fun _=>rfl⟩
 | nostm x h1 h2 h3 h4 h5 h6=>intro h;cases h
 | @nil e o a L h=>intro _ ho;exact ⟨_,rfl,trivial,trivial,by simpa [Ls.dep] using ho rfl,by simp only [Ls.sz,vv];omega,fun _=>rfl⟩
 | @cons e o a L s l σ τ h hs hl ihs ihl =>
  intro hb ho
  have hσ:=hl.okIn hb
  obtain ⟨e,he,g1,g2,g3,g4,g5⟩:=ihs hσ ho
  injection he with he;subst he
  obtain ⟨e,he,k1,k2,k3,k4,k5⟩:=ihl hb (fun _=>ho rfl)
  injection he with he;subst he
  exact ⟨_,rfl,⟨g1,k1⟩,⟨g2,k2⟩,by simp only [Ls.dep];omega,by simp only [Ls.sz];omega,fun q=>by simp only [Ls.atm,g5 q,k5 q,Bool.or_self]⟩
 | @blk o a L l σ hl ih =>
  intro hb ho
  have hσ:=qaa hb
  have h1:=hl.okIn hσ
  obtain ⟨e,he,k1,k2,k3,k4,k5⟩:=ih hσ (fun q=>jw (.inr rfl) q)
  injection he with he;subst he
  have:=qan (s:=[125]) (by decide) hb
  have:=qan (s:=[123]) (by decide) h1
  simp only [vv,qda] at *
  exact ⟨_,rfl,k1,k2,by omega,by simp only [vv];omega,k5⟩
theorem P.whole {text:Tk} {x:It} {L:Tk} (h:P (.sts []) 0 false (.ok (skp false text)) x (.ok L)):∃ p:Ls,x=.l p/\p.ok/\p.small/\p.dep<=50/\p.sz<=text.length:=by
 obtain ⟨p,h1,h2,h3,h4,h5,_⟩:=h.good rfl fun _=>by decide
 have:=qit false text
 simp only [vv] at h5
 exact ⟨p,h1,h2,h3,by omega,by omega⟩
end Lang
end Go.Am
namespace Go.Am
def ITERO (AP:Mac) (g:Nat) (pre cap:List AV) (N O:Nat->Prop) (H0:AHeap) (xs:List (List AV)):Prop :=
 ∀ (L:Nat) (R:Nat->(Nat->Prop)->AHeap->Prop) (S:(Nat->Prop)->AHeap->Prop) (W0:Nat->Prop) (H:AHeap),
  H0.next<=H.next->(∀ b,N b\/O b->b<H0.next/\H.get b=H0.get b /\ ¬ W0 b)->R 0 W0 H->(∀ b,W0 b->b<H.next) ->
  (∀ i W H H',R i W H->(∀ b,W b->H'.get b=H.get b)->H.next<=H'.next->R i W H')->(∀ W H H',S W H->(∀ b,W b->H'.get b=H.get b)->H.next<=H'.next->S W H') ->
  (∀ (i:Nat) x,xs[i]? = some x -> ∀ W H',R i W H'->(∀ b,W b->b<H'.next/\(W0 b\/H.next<=b))->Fr (fun b=>W0 b\/O b) H H' ->
   ∃ bb H'' W',ROUND AP L x H' (.ret (.bool bb)) H''/\Fr W H' H''/\(∀ b,W' b->b<H''.next/\(W b\/H'.next<=b))/\(bb=true->R (i+1) W' H'')/\(bb=false->S W' H'')) ->
  ∃ v H' W',CALL AP g (pre++(.fn (.yield L) [] []::cap)) H (.ret v) H'/\Fr (fun b=>W0 b\/O b) H H'/\(∀ b,W' b->b<H'.next/\(W0 b\/H.next<=b))/\(R xs.length W' H'\/S W' H')
section
variable {AP:Mac}
theorem qzu {f:Nat} {fn:AFunc} {k:Nat} {lp:ALoop} (hf:AP.func f=some fn) (hk:nth fn.loops k=some lp) {tm:T AV} {dfs:List ADef} {up:Option Chain} {H:AHeap} {Q:Post}
 {g:Nat} {pre cap:List AV} {N O:Nat->Prop} {H0:AHeap} {xs:List (List AV)} (hit:ITERO AP g pre cap N O H0 xs)
 (P:Nat->(Nat->Prop)->AHeap->Prop) (PS:AExit->(Nat->Prop)->AHeap->Prop) (W0:Nat->Prop)
 (hn:H0.next<=H.next) (hN:∀ b,N b\/O b->b<H0.next/\H.get b=H0.get b /\ ¬ W0 b) (hW0:∀ b,W0 b->b<H.next) (h0:P 0 W0 H)
 (loc:∀ i W H H',P i W H->(∀ b,W b->H'.get b=H.get b)->H.next<=H'.next->P i W H') (locS:∀ e W H H',PS e W H->(∀ b,W b->H'.get b=H.get b)->H.next<=H'.next->PS e W H')
 (hbody:∀ (L d i:Nat) x,xs[i]? = some x->H.next<=L -> ∀ W H1,P i W H1->(∀ b,W b->b<H1.next/\(W0 b\/H.next<=b))->Fr (fun b=>W0 b\/O b) H H1 -> ¬ W L->L<H1.next->H1.get L=some (.loop .ready none f k tm d) ->
  ∃ tm1,qfs tm lp.params x=some tm1/\WP AP ⟨some L,f⟩ lp.assign ⟨tm1,[],none,H1⟩ fun e st1=>e=.normal/\st1.H.get L=some (.loop .ready none f k tm d) /\
   WP AP ⟨some L,f⟩ lp.body ⟨st1.tm,st1.dfs,st1.up,st1.H.set L (.loop .busy none f k tm d)⟩ fun e2 st2=>st2.dfs=[]/\st2.H.get L=some (.loop .busy none f k tm d) /\
    ∃ W':Nat->Prop,(∀ b,W' b->b<st2.H.next/\(W b\/H1.next<=b))/\Fr (fun b=>W b\/b=L) H1 st2.H/\(e2=.normal/\P (i+1) W' st2.H\/isJump e2/\PS e2 W' st2.H))
 (hend:∀ d W' H',H.next<=d->d<H'.next->H'.get d=some (.deferred (some []))->Fr (fun b=>W0 b\/O b) H H'->(∀ b,W' b->b<H'.next/\(W0 b\/H.next<=b)/\b ≠ d)->P xs.length W' H'->Q .normal ⟨tm,.coll d::dfs,up,H'⟩)
 (hstop:∀ e d W' H',isJump e->H.next<=d->d<H'.next->H'.get d=some (.deferred (some []))->Fr (fun b=>W0 b\/O b) H H'->(∀ b,W' b->b<H'.next/\(W0 b\/H.next<=b)/\b ≠ d)->PS e W' H'->Q e ⟨tm,.coll d::dfs,up,H'⟩) :
 RNG AP ⟨none,f⟩ k ⟨tm,dfs,up,H⟩ Q (.fn (.func g) pre cap):=by
 let d:=H.next
 let L:=H.next+1
 let Hd:=H.alloc (.deferred (some []))
 let HL:=Hd.alloc (.loop .ready none f k tm d)
 have hHL:HL.next=H.next+2:=rfl
 have hgL:HL.get L=some (.loop .ready none f k tm d):=jb Hd _
 have hgd:HL.get d=some (.deferred (some [])):=by rw [show HL.get d=Hd.get d from qmz (by show H.next<H.next+1;omega) _];exact jb H _
 have hfr0:Fr Em H HL:=((Fr.refl H).alloc _).alloc _
 have hold:∀ b,b<H.next->HL.get b=H.get b:=fun b hb=>hfr0.keep b hb (fun q=>q)
 obtain ⟨v,H',W',hc,hfr,hW',hres⟩:=hit L
  (fun i W H'=>∃ V:Nat->Prop,(∀ b,V b->W b)/\W L /\ ¬ V L /\ ¬ W d/\(∀ b,W b->V b\/b=L)/\P i V H'/\H'.get L=some (.loop .ready none f k tm d)/\L<H'.next)
  (fun W H'=>∃ (V:Nat->Prop) (e:AExit) (j:AJump),(∀ b,V b->W b)/\W L /\ ¬ V L /\ ¬ W d/\(∀ b,W b->V b\/b=L)/\isJump e/\endOf e=some j/\PS e V H'/\H'.get L=some (.loop .done (some j) f k tm d)/\L<H'.next)
  (fun b=>W0 b\/b=L) HL (by rw [hHL];omega)
  (fun b hb=>by
   obtain ⟨h1,h2,h3⟩:=hN b hb
   exact ⟨h1,by rw [hold b (by omega)];exact h2,fun q=>q.elim h3 fun q=>by have:L=H.next+1:=rfl;omega⟩)
  ⟨W0,fun b hb=>.inl hb,.inr rfl,fun q=>by have:=hW0 _ q;have:L=H.next+1:=rfl;omega,fun q=>q.elim (fun q=>by have:=hW0 _ q;have:d=H.next:=rfl;omega) fun q=>by have:d=H.next:=rfl;have:L=H.next+1:=rfl;omega,
   fun b hb=>hb,loc 0 W0 H HL h0 (fun b hb=>hold b (hW0 b hb)) (by rw [hHL];omega),hgL,by rw [hHL];show H.next+1<H.next+2;omega⟩
  (fun b hb=>hb.elim (fun q=>by have:=hW0 b q;rw [hHL];omega) fun q=>by rw [hHL,q];show H.next+1<H.next+2;omega)
  (fun i W H1 H2 ⟨V,v1,v2,v3,v4,v5,v6,v7,v8⟩ hs hle=>⟨V,v1,v2,v3,v4,v5,loc i V H1 H2 v6 (fun b hb=>hs b (v1 b hb)) hle,by rw [hs L v2];exact v7,qj v8 hle⟩)
  (fun W H1 H2 ⟨V,e,j,v1,v2,v3,v4,v5,v6,v7,v8,v9,v10⟩ hs hle=>⟨V,e,j,v1,v2,v3,v4,v5,v6,v7,locS e V H1 H2 v8 (fun b hb=>hs b (v1 b hb)) hle,by rw [hs L v2];exact v9,qj v10 hle⟩)
  (fun i x hx W H1 ⟨V,v1,v2,v3,v4,v5,v6,v7,v8⟩ hb hfrS=>by
   have hLn0:L=H.next+1:=rfl
   have hfr1:Fr (fun b=>W0 b\/O b) H H1:=⟨xw (by rw [hHL];omega) hfrS.next,fun b hb hw=>by rw [hfrS.keep b (by rw [hHL];omega) (fun q=>q.elim (fun q=>q.elim (fun q=>hw (.inl q)) fun q=>by omega) fun q=>hw (.inr q)),hold b hb]⟩
   have hbV:∀ b,V b->b<H1.next/\(W0 b\/H.next<=b):=fun b q=>⟨(hb b (v1 b q)).1,(hb b (v1 b q)).2.elim (fun r=>r.elim .inl fun r=>by subst r;exact (v3 q).elim) fun r=>.inr (by rw [hHL] at r;omega)⟩
   obtain ⟨tm1,hbp,hw⟩:=hbody L d i x hx (by show H.next<=H.next+1;omega) V H1 v6 hbV hfr1 v3 v8 v7
   obtain ⟨e,H2,hr,bb,rfl,W2,k1,k2,k3,k4⟩:=qvk (Q:=fun e H2=>∃ bb,e=.ret (.bool bb) /\ ∃ W2:Nat->Prop,Fr W H1 H2/\(∀ b,W2 b->b<H2.next/\(W b\/H1.next<=b)) /\
    (bb=true -> ∃ V:Nat->Prop,(∀ b,V b->W2 b)/\W2 L /\ ¬ V L /\ ¬ W2 d/\(∀ b,W2 b->V b\/b=L)/\P (i+1) V H2/\H2.get L=some (.loop .ready none f k tm d)/\L<H2.next) /\
    (bb=false -> ∃ (V:Nat->Prop) (e:AExit) (j:AJump),(∀ b,V b->W2 b)/\W2 L /\ ¬ V L /\ ¬ W2 d/\(∀ b,W2 b->V b\/b=L)/\isJump e/\endOf e=some j/\PS e V H2/\H2.get L=some (.loop .done (some j) f k tm d)/\L<H2.next)) v7 hf hk hbp
    (qcu hw fun e st1 ⟨he,hgl,hw2⟩=>by
     subst he
     show BIND dirty (beginRound st1.H L) _
     have:beginRound st1.H L=some (st1.H.set L (.loop .busy none f k tm d)):=by unfold beginRound;rw [hgl]
     rw [this]
     refine qcu hw2 fun e2 st2 ⟨hd2,hg2,W',w1,w2,w3⟩=>⟨hd2,?_⟩
     have hLn:L<st2.H.next:=qj v8 w2.next
     have hd1:d<H1.next:=by have:d=H.next:=rfl;have:L=H.next+1:=rfl;omega
     have fin:∀ s p,Fr W H1 (st2.H.set L (.loop s p f k tm d)):=fun s p=>⟨w2.next,fun b hb hw=>by
      rw [AHeap.get_set,qx (by rintro rfl;exact hw v2)]
      exact w2.keep b hb fun q=>q.elim (fun q=>hw (v1 b q)) fun q=>hw (by rw [q];exact v2)⟩
     have hW'L:∀ b,(W' b/\b ≠ L)->(st2.H.set L (.loop .ready none f k tm d)).get b=st2.H.get b:=fun b hb=>by rw [AHeap.get_set,qx (fun q=>hb.2 q.symm)]
     have hnV:¬ W' L:=fun q=>by
      rcases (w1 L q).2 with q|q
      ·exact v3 q
      ·omega
     have hnd:¬ W' d:=fun q=>by
      rcases (w1 d q).2 with q|q
      ·exact v4 (v1 d q)
      ·omega
     have hdL:d ≠ L:=by show H.next ≠ H.next+1;omega
     have bounds:∀ b,(W' b\/b=L)->b<st2.H.next/\(W b\/H1.next<=b):=fun b hb=>hb.elim (fun q=>⟨(w1 b q).1,(w1 b q).2.imp (v1 b) id⟩) fun q=>by subst q;exact ⟨hLn,.inl v2⟩
     rcases w3 with ⟨rfl,w3⟩|⟨hj,w3⟩
     ·show BIND dirty (setLoop st2.H L (cond true .ready .done) none) _
      have:setLoop st2.H L .ready none=some (st2.H.set L (.loop .ready none f k tm d)):=by unfold setLoop;rw [hg2]
      rw [qq,this]
      refine ⟨true,rfl,fun b=>W' b\/b=L,fin _ _,bounds,fun _=>⟨W',fun b hb=>.inl hb,.inr rfl,hnV,fun q=>q.elim hnd hdL,fun b hb=>hb,loc _ _ _ _ w3 (fun b hb=>by rw [AHeap.get_set,qx (by rintro rfl;exact hnV hb)]) (qf _),yk _ _ _,hLn⟩,fun h=>by cases h⟩
     ·obtain ⟨j,hj2⟩:∃ j,endOf e2=some j:=by cases e2<;>first|exact hj.elim|exact ⟨_,rfl⟩
      have hnn:qeu e2=false:=by cases e2<;>first|exact hj.elim|rfl
      have hmatch:∀ (A:Prop),(BIND dirty (setLoop st2.H L (cond (qeu e2) .ready .done) (endOf e2)) fun H=>∃ bb,(AEnd.ret (.bool (qeu e2))=.ret (.bool bb)) /\ ∃ W2:Nat->Prop,Fr W H1 H/\(∀ b,W2 b->b<H.next/\(W b\/H1.next<=b)) /\
       (bb=true -> ∃ V:Nat->Prop,(∀ b,V b->W2 b)/\W2 L /\ ¬ V L /\ ¬ W2 d/\(∀ b,W2 b->V b\/b=L)/\P (i+1) V H/\H.get L=some (.loop .ready none f k tm d)/\L<H.next) /\
       (bb=false -> ∃ (V:Nat->Prop) (e:AExit) (j:AJump),(∀ b,V b->W2 b)/\W2 L /\ ¬ V L /\ ¬ W2 d/\(∀ b,W2 b->V b\/b=L)/\isJump e/\endOf e=some j/\PS e V H/\H.get L=some (.loop .done (some j) f k tm d)/\L<H.next)):=fun _=>by
       have:setLoop st2.H L .done (some j)=some (st2.H.set L (.loop .done (some j) f k tm d)):=by unfold setLoop;rw [hg2]
       rw [hnn,hj2,xl,this]
       refine ⟨false,rfl,fun b=>W' b\/b=L,fin _ _,bounds,fun h=>(by cases h),fun _=>⟨W',e2,j,fun b hb=>.inl hb,.inr rfl,hnV,fun q=>q.elim hnd hdL,fun b hb=>hb,hj,hj2,locS _ _ _ _ w3 (fun b hb=>by rw [AHeap.get_set,qx (by rintro rfl;exact hnV hb)]) (qf _),yk _ _ _,hLn⟩⟩
      cases e2 with
      | normal=>exact hj.elim
      | panic _=>exact hj.elim
      | exit _=>exact hmatch True
      | goto _=>exact hmatch True
      | ret=>exact hmatch True)
   exact ⟨bb,H2,W2,hr,k1,k2,k3,k4⟩)
 have hdL:d ≠ L:=by show H.next ≠ H.next+1;omega
 have hdW:¬ ((W0 d\/d=L)\/O d):=fun q=>q.elim (fun q=>q.elim (fun q=>by have:=hW0 _ q;have:d=H.next:=rfl;omega) hdL) fun q=>by have:=(hN d (.inr q)).1;have:d=H.next:=rfl;omega
 have hgd':H'.get d=some (.deferred (some [])):=by rw [hfr.keep d (by rw [hHL];show H.next<H.next+2;omega) hdW];exact hgd
 have hd':d<H'.next:=qj (by rw [hHL];show H.next<H.next+2;omega) hfr.next
 have hout:∀ (o:AObj),Fr (fun b=>W0 b\/O b) H (H'.set L o):=fun o=>⟨xw (by rw [hHL];omega) hfr.next,fun b hb hw=>by
  have:L=H.next+1:=rfl
  rw [AHeap.get_set,qx (by omega),hfr.keep b (by rw [hHL];omega) (fun q=>q.elim (fun q=>q.elim (fun q=>hw (.inl q)) fun q=>by omega) fun q=>hw (.inr q)),hold b hb]⟩
 refine ⟨.ret v,H',hc,?_⟩
 rcases hres with ⟨V,v1,v2,v3,v4,v5,v6,v7,v8⟩|⟨V,e,j,v1,v2,v3,v4,v5,v6,v7,v8,v9,v10⟩
 ·refine ⟨.ready,none,f,k,tm,d,v7,by simp,?_⟩
  refine hend d V _ (qf _) hd' (by rw [AHeap.get_set,qx (fun q=>hdL q.symm)];exact hgd') (hout _) (fun b hb=>⟨(hW' b (v1 b hb)).1,?_,fun q=>v4 (by rw [<-q];exact v1 b hb)⟩) (loc _ _ _ _ v6 (fun b hb=>by rw [AHeap.get_set,qx (by rintro rfl;exact v3 hb)]) (qf _))
  rcases (hW' b (v1 b hb)).2 with q|q
  ·exact q.imp id fun q=>by subst q;exact (v3 hb).elim
  ·rw [hHL] at q;exact .inr (by omega)
 ·refine ⟨.done,some j,f,k,tm,d,v9,by simp,?_⟩
  have he:exitOf (some j)=e:=by cases e<;>first|exact v6.elim|(injection v7 with v7;subst v7;rfl)
  rw [he]
  refine hstop e d V _ v6 (qf _) hd' (by rw [AHeap.get_set,qx (fun q=>hdL q.symm)];exact hgd') (hout _) (fun b hb=>⟨(hW' b (v1 b hb)).1,?_,fun q=>v4 (by rw [<-q];exact v1 b hb)⟩) (locS _ _ _ _ v8 (fun b hb=>by rw [AHeap.get_set,qx (by rintro rfl;exact v3 hb)]) (qf _))
  rcases (hW' b (v1 b hb)).2 with q|q
  ·exact q.imp id fun q=>by subst q;exact (v3 hb).elim
  ·rw [hHL] at q;exact .inr (by omega)
def bindE:List Nat->List AV->Env->Option Env
 | [],[],E=>some E
 | t::ts,v::vs,E=>bindE ts vs ((t,v)::E)
 | _,_,_=>none
def AS3 (M:Mac) (ctx:Ctx) (b:Kp × ACode) (L:Nat) (lr lb:AObj) (Q:Post3):Post3:=fun e E D H=>match e with
 | .normal=>H.get L=some lr/\W M ctx b true Q E D (H.set L lb)
 | _=>False
theorem qwp (M:Mac) (ctx:Ctx) (b:Kp × ACode) (L:Nat) (lr lb:AObj) (Q:Post3) (E:Env) (D:List ADef) (H:AHeap):AS3 M ctx b L lr lb Q .normal E D H=(H.get L=some lr/\W M ctx b true Q E D (H.set L lb)):=propext je
def BD3 (P:(Nat->Prop)->AHeap->Prop) (PS:AExit->(Nat->Prop)->AHeap->Prop) (L:Nat) (lb:AObj) (W:Nat->Prop) (H1:AHeap):Post3:=fun e _ D H=>D=[]/\H.get L=some lb /\
 ∃ W':Nat->Prop,(∀ b,W' b->b<H.next/\(W b\/H1.next<=b))/\Fr (fun b=>W b\/b=L) H1 H/\(e=.normal/\P W' H\/isJump e/\PS e W' H)
theorem ESub.cons {ks:List Nat} {E:Env} {tm:T AV} (h:ESub ks E tm) {t:Nat} (v:AV) (ht:memN t ks=true):ESub ks ((t,v)::E) (tm.set t v):=fun u x hu=>by
 rw [qdd] at hu
 split at hu
 ·rename_i e;subst e;injection hu with hu;subst hu
  exact ⟨by rw [T.get_set,xv rfl],ht⟩
 ·rename_i e
  obtain ⟨h1,h2⟩:=h u x hu
  exact ⟨by rw [T.get_set,qx e,h1],h2⟩
theorem qv0 {ks:List Nat}:∀ {ts:List Nat} {vs:List AV} {E E1:Env} {tm:T AV},ESub ks E tm->(∀ t ∈ ts,memN t ks=true)->bindE ts vs E=some E1 -> ∃ tm1,qfs tm ts vs=some tm1/\ESub ks E1 tm1
 | [],[],E,E1,tm,h,ht,hb=>by injection hb with hb;subst hb;exact ⟨tm,rfl,h⟩
 | [],_::_,_,_,_,_,_,hb=>nomatch hb
 | _::_,[],_,_,_,_,_,hb=>nomatch hb
 | t::ts,v::vs,E,E1,tm,h,ht,hb=>qv0 (ts:=ts) (vs:=vs) (h.cons v (ht t (y0 ..))) (fun u hu=>ht u (yf _ hu)) hb
theorem RNG3.iter {f:Nat} {fn:AFunc} {k:Nat} {lp:ALoop} (hf:AP.func f=some fn) (hk:nth fn.loops k=some lp) {ks:List Nat} {ts:List Nat} (hp:lp.params=ts) (hts:∀ t ∈ ts,memN t ks=true) {pa pb:Kp × ACode} (ha:pa.1.keep=ks/\pa.2=lp.assign) (hb:pb.1.keep=ks/\pb.2=lp.body)
 {E:Env} {D:List ADef} {H:AHeap} {Q:Post3} {g:Nat} {pre cap:List AV} {N O:Nat->Prop} {H0:AHeap} {xs:List (List AV)} (hit:ITERO AP g pre cap N O H0 xs)
 (P:Nat->(Nat->Prop)->AHeap->Prop) (PS:AExit->(Nat->Prop)->AHeap->Prop) (W0:Nat->Prop)
 (hn:H0.next<=H.next) (hN:∀ b,N b\/O b->b<H0.next/\H.get b=H0.get b /\ ¬ W0 b) (hW0:∀ b,W0 b->b<H.next) (h0:P 0 W0 H)
 (loc:∀ i W H H',P i W H->(∀ b,W b->H'.get b=H.get b)->H.next<=H'.next->P i W H') (locS:∀ e W H H',PS e W H->(∀ b,W b->H'.get b=H.get b)->H.next<=H'.next->PS e W H')
 (hbody:∀ (L i:Nat) (lr lb:AObj) x,xs[i]? = some x->H.next<=L -> ∀ W' H1,P i W' H1->(∀ b,W' b->b<H1.next/\(W0 b\/H.next<=b))->Fr (fun b=>W0 b\/O b) H H1 -> ¬ W' L->L<H1.next->H1.get L=some lr ->
  ∃ E1,bindE ts x E=some E1/\W AP ⟨some L,f⟩ pa true (AS3 AP ⟨some L,f⟩ pb L lr lb (BD3 (P (i+1)) PS L lb W' H1)) E1 [] H1)
 (hend:∀ d W' H',H.next<=d->d<H'.next->H'.get d=some (.deferred (some []))->Fr (fun b=>W0 b\/O b) H H'->(∀ b,W' b->b<H'.next/\(W0 b\/H.next<=b)/\b ≠ d)->P xs.length W' H'->Q .normal E (.coll d::D) H')
 (hstop:∀ e d W' H',isJump e->H.next<=d->d<H'.next->H'.get d=some (.deferred (some []))->Fr (fun b=>W0 b\/O b) H H'->(∀ b,W' b->b<H'.next/\(W0 b\/H.next<=b)/\b ≠ d)->PS e W' H'->Q e E (.coll d::D) H') :
 RNG3 AP ks ⟨none,f⟩ k E D H Q (.fn (.func g) pre cap):=by
 intro tm up he
 refine qzu hf hk hit P PS W0 hn hN hW0 h0 loc locS ?_ (fun d W' H' h1 h2 h3 h4 h5 h6=>⟨rfl,rfl,hend d W' H' h1 h2 h3 h4 h5 h6⟩) (fun e d W' H' h0 h1 h2 h3 h4 h5 h6=>⟨rfl,rfl,hstop e d W' H' h0 h1 h2 h3 h4 h5 h6⟩)
 intro L d i x hx hL W' H1 hP hW hfr hnL hLn hgL
 obtain ⟨E1,hE1,hw⟩:=hbody L i (.loop .ready none f k tm d) (.loop .busy none f k tm d) x hx hL W' H1 hP hW hfr hnL hLn hgL
 obtain ⟨tm1,hb1,he1⟩:=qv0 he hts hE1
 refine ⟨tm1,by rw [hp];exact hb1,?_⟩
 rw [W_def] at hw
 have:=W3.wp _ _ (qf _) (up:=none) hw (by rw [ha.1];exact he1)
 rw [ha.2] at this
 refine qcu this fun e st1 ⟨hup,E',hE',hq⟩=>?_
 cases e with
 | normal =>
  obtain ⟨hg,hw2⟩:=hq
  refine ⟨rfl,hg,?_⟩
  rw [W_def] at hw2
  have:=W3.wp _ _ (qf _) (up:=none) hw2 (show ESub pb.1.keep E' st1.tm by rw [hb.1,<-ha.1];exact hE')
  rw [hb.2] at this
  rw [hup]
  refine qcu this fun e2 st2 ⟨hup2,E2,hE2,hd,hg2,W2,k1,k2,k3⟩=>⟨hd,hg2,W2,k1,k2,k3⟩
 | _=>exact hq.elim
theorem qx5 (rs:List ARes) (Q:AEnd->AHeap->Prop) (E:Env) (d:Nat) (H:AHeap):FIN3 AP rs Q .ret E [.coll d] H=(H.get d=some (.deferred (some []))/\RES3 E (H.set d (.deferred none)) rs fun l=>Q (.ret (tupled l)) (H.set d (.deferred none))):=propext je
end
end Go.Am
