/- LqK2: LpF LpG StB StC. -/
import Derived.Test.YtbimikjajohflaaDoorAmKLqK1
import Derived.Test.YtbimikjajohflaaDoorAmKLqK0
set_option linter.unusedVariables false
set_option linter.unusedSimpArgs false
set_option linter.unusedSectionVars false
set_option maxRecDepth 100000
namespace Go.Am
open Lang Go.Proofs
variable {M:Mac} [MK M]
def fitB (t:List Nd) (x:Nd) (top:List Nat):Bool:=match Lang.shape x.k x.n x.kids.length with
 | none=>false
 | some w=>decide (w.length=x.kids.length/\top.map (Lang.clsAt t)=w)
def wantF (k:Int) (i:Nat):Int:=if k=16\/k=17 then (if i=0 then 2 else 4) else if k=18 then 4 else if k=20 then 3 else 1
def wants (k:Int) (m:Nat):List Int:=(List.range m).map (wantF k)
theorem qq0 {t:List Nd} {x:Nd} {top:List Nat} (h:Lang.shape x.k x.n x.kids.length=none):fitB t x top=false:=by unfold fitB;rw [h]
theorem qgz {t:List Nd} {x:Nd} {top:List Nat} {w:List Int} (h:Lang.shape x.k x.n x.kids.length=some w) (hl:w.length ≠ x.kids.length):fitB t x top=false:=by
 unfold fitB;rw [h];exact jg fun q=>hl q.1
theorem q3v {t:List Nd} {x:Nd} {top:List Nat} {w:List Int} (h:Lang.shape x.k x.n x.kids.length=some w) (hl:w=wants x.k x.kids.length):fitB t x top=decide (top.map (Lang.clsAt t)=wants x.k x.kids.length):=by
 unfold fitB;rw [h];subst hl;exact decide_eq_decide.2 ⟨fun q=>q.2,fun q=>⟨by simp [wants],q⟩⟩
theorem wants20 (m:Nat):List.replicate m 3=wants 20 m:=by
 unfold wants
 apply qbq
 intro i
 rw [qx]
 by_cases h:i<m
 ·rw [qcw h];simp [wantF,h]
 ·rw [jd (by simp;omega),jd (by simp;omega)];rfl
theorem q3w {Hc:AHeap} {tv a:AV} {t:List Nd} {x:Nd} {top:List Nat} {c m:Nat} {P:AV->AHeap->Prop} {E:Env} (hn:Nds Hc tv t) (ha:SlT encI 1 Hc a x.kids) (hk:x.kids=ints top) (hm:top.length=m) (ht:∀ s ∈ top,s<t.length) (hl:m<=4000)
 (hrow:Hc.get c=some (OR [.int .i64 x.k,.int .u64 x.n,a] qo)) (e0:lk E 0=some tv) (e3:lk E 3=some (.ptr c 0)) (hP:P (.bool (decide (top.map (Lang.clsAt t)=wants x.k m))) Hc) :
 W M ⟨none,wq⟩ (qz 40) true (FIN3 M [.tmp 4] (RT3 P)) E [] Hc:=by
 obtain ⟨-,-,-,-,-,-,-,w40,w89,w45,w51,w88,w57,w69,w63,w75,w81⟩:=qo8 M ⟨none,wq⟩
 have hkl:x.kids.length=m:=by rw [hk];simpa [ints] using hm
 have hlen:Op.lenSl [a]=some (.int .i64 (m:Nat)):=by rw [ha.len,hkl]
 have l:∀ o,Op.load1 [.ptr c o] Hc=[AV.int .i64 x.k,.int .u64 x.n,a][o]?:=fun o=>qae (x8 hrow) o
 simp only [↓qe,qq,reduceIte,Nat.reduceEqDiff,w40]
 refine LOOP3.intro (fun k E' H'=>∃ i,H'=Hc/\E'=[(7,.int .i64 (i:Nat)),(0,tv),(3,.ptr c 0)]/\k=m-i/\i<=m/\(top.take i).map (Lang.clsAt t)=wants x.k i) ?_ ?_
 ·exact ⟨_,_,⟨0,rfl,rfl,rfl,by omega,rfl⟩,by simp only [↓qe,qq,reduceIte,Nat.reduceEqDiff,e0,e3]⟩
 rintro k E' H' ⟨i,rfl,rfl,rfl,hi,hw⟩
 rcases zy i m with hlt|hge
 ·have d1:(i:Int)<(m:Nat):=by omega
  obtain ⟨s,hs⟩:∃ s,top[i]? = some s:=⟨top[i]'(by omega),by simp [show i<top.length by omega]⟩
  have hsl:=ht s (xo hs)
  obtain ⟨y,hy⟩:∃ y,t[s]? = some y:=⟨t[s],by simp [hsl]⟩
  have hki:x.kids[i]? = some (s:Int):=by rw [hk,ints,qx,hs];rfl
  obtain ⟨ki,kl⟩:=ha.getI hki
  obtain ⟨b,_,_,n1,_,n2,_,_⟩:=hn.get hy
  have wi:wrapI .i64 ((i:Int)+1)=((i+1:Nat):Int):=by rw [xz (by omega) (by omega)];omega
  have hcl:Lang.clsAt t s=Lang.cls y.k:=by unfold Lang.clsAt;rw [hy]
  simp only [↓qe,qq,reduceIte,Nat.reduceEqDiff,w45,w51,l,hlen,d1,ki,kl,n1,n2]
  refine C3.q (qrq (M:=M) y.k) fun v H2 ⟨hv,hh⟩=>?_
  subst hv;subst hh
  have hwi:wants x.k (i+1)=wants x.k i ++ [wantF x.k i]:=by unfold wants;rw [List.range_succ,qa0];rfl
  have htk:(top.take (i+1)).map (Lang.clsAt t)=wants x.k i ++ [Lang.cls y.k]:=by rw [jw,hs,qa0,hw];simp [hcl]
  have key:∀ (E':Env),lk E' 8=some (.int .i64 (Lang.cls y.k))->lk E' 9=some (.int .i64 (wantF x.k i))->lk E' 7=some (.int .i64 (i:Nat))->lk E' 0=some tv->lk E' 3=some (.ptr c 0) ->
   W M ⟨none,wq⟩ (qz 81) true (BLK3 1 (SEQ3 (W M ⟨none,wq⟩ (qz 88)) (LQ3 (fun k E' H'=>∃ i,H'=H2/\E'=[(7,.int .i64 (i:Nat)),(0,tv),(3,.ptr c 0)]/\k=m-i/\i<=m/\(top.take i).map (Lang.clsAt t)=wants x.k i) [] (m-i) (BLK3 0 (SEQ3 (W M ⟨none,wq⟩ (qz 89)) (FIN3 M [.tmp 4] (RT3 P))))))) E' [] H2:=by
   intro E' r8 r9 r7 r0 r3
   by_cases hq:Lang.cls y.k=wantF x.k i
   ·simp only [↓qe,qq,reduceIte,Nat.reduceEqDiff,w81,r8,r9,zj hq,w88,r7,wi]
    exact ⟨_,_,⟨i+1,rfl,rfl,by omega,by rw [htk,hwi,hq]⟩,by simp only [↓qe,qq,reduceIte,Nat.reduceEqDiff,r0,r3],by omega⟩
   ·simp only [↓qe,qq,reduceIte,Nat.reduceEqDiff,w81,r8,r9,hq]
    rw [jg fun q=>hq ?_] at hP
    ·exact hP
    ·have:=congrArg (fun l=>l[i]?) q
     simp only [qx,hs,vr,hcl,wants,qcw hlt] at this
     exact jf this
  by_cases k16:x.k=16
  ·have l0:Op.load1 [.ptr c 0] H2=some (.int .i64 16):=by rw [l,k16];rfl
   by_cases i0:i=0
   ·subst i0
    have:=zj (show ((0:Nat):Int)=0 from rfl)
    simp only [↓qe,qq,reduceIte,Nat.reduceEqDiff,w57,w63,w69,w75,l0,Int.reduceEq,this]
    exact key _ rfl (by rw [wantF,qu (.inl k16)];rfl) rfl rfl rfl
   ·have:¬ (i:Int)=0:=by omega
    simp only [↓qe,qq,reduceIte,Nat.reduceEqDiff,w57,w63,w69,w75,l0,Int.reduceEq,this]
    exact key _ rfl (by rw [wantF,qu (.inl k16),qj i0];rfl) rfl rfl rfl
  by_cases k17:x.k=17
  ·have l0:Op.load1 [.ptr c 0] H2=some (.int .i64 17):=by rw [l,k17];rfl
   by_cases i0:i=0
   ·subst i0
    have:=zj (show ((0:Nat):Int)=0 from rfl)
    simp only [↓qe,qq,reduceIte,Nat.reduceEqDiff,w57,w63,w69,w75,l0,Int.reduceEq,this]
    exact key _ rfl (by rw [wantF,qu (.inr k17)];rfl) rfl rfl rfl
   ·have:¬ (i:Int)=0:=by omega
    simp only [↓qe,qq,reduceIte,Nat.reduceEqDiff,w57,w63,w69,w75,l0,Int.reduceEq,this]
    exact key _ rfl (by rw [wantF,qu (.inr k17),qj i0];rfl) rfl rfl rfl
  by_cases k18:x.k=18
  ·have l0:Op.load1 [.ptr c 0] H2=some (.int .i64 18):=by rw [l,k18];rfl
   simp only [↓qe,qq,reduceIte,Nat.reduceEqDiff,w57,w63,w69,w75,l0,Int.reduceEq]
   exact key _ rfl (by rw [wantF,qj (fun q=>q.elim k16 k17),qu k18];rfl) rfl rfl rfl
  by_cases k20:x.k=20
  ·have l0:Op.load1 [.ptr c 0] H2=some (.int .i64 20):=by rw [l,k20];rfl
   simp only [↓qe,qq,reduceIte,Nat.reduceEqDiff,w57,w63,w69,w75,l0,Int.reduceEq]
   exact key _ rfl (by rw [wantF,qj (fun q=>q.elim k16 k17),qj k18,qu k20];rfl) rfl rfl rfl
  ·simp only [↓qe,qq,reduceIte,Nat.reduceEqDiff,w57,w63,w69,w75,l,k16,k17,k18,k20]
   exact key _ rfl (by rw [wantF,qj (fun q=>q.elim k16 k17),qj k18,qj k20];rfl) rfl rfl rfl
 ·have him:i=m:=by omega
  subst him
  have d1:¬ (i:Int)<(i:Nat):=by omega
  rw [xn (by omega)] at hw
  rw [zn hw] at hP
  simp only [↓qe,qq,reduceIte,Nat.reduceEqDiff,w45,w89,l,hlen,d1]
  exact hP
theorem q3x {Hc:AHeap} {tv a:AV} {t:List Nd} {k n:Int} {kids:List Int} {top:List Nat} (hn:Nds Hc tv t) (ha:SlT encI 1 Hc a kids) (hk:kids=ints top) (ht:∀ s ∈ top,s<t.length) (hl:top.length<=4000) (hc:Lang.cls k ≠ 0) :
 yg M wq [tv,.agg [.int .i64 k,.int .u64 n,a]] Hc fun v H'=>v=.bool (fitB t ⟨k,n,kids⟩ top)/\Fr Em Hc H':=by
 refine qxg ?_
 have hf1:Fr Em Hc (Hc.alloc (OR [.int .i64 k,.int .u64 n,a] qo)):=(Fr.refl Hc).alloc _
 have hkl:kids.length=top.length:=by rw [hk];simp [ints]
 have ha1:=ha.em hf1
 have fin:∀ (E:Env) (w:List Int),Lang.shape k n kids.length=some w->w=wants k kids.length->lk E 0=some tv->lk E 3=some (.ptr Hc.next 0) ->
  W M ⟨none,wq⟩ (qz 40) true (FIN3 M [.tmp 4] (RT3 fun v H'=>v=.bool (fitB t ⟨k,n,kids⟩ top)/\Fr Em Hc H')) E [] (Hc.alloc (OR [.int .i64 k,.int .u64 n,a] qo)):=by
  intro E w h1 h2 e0 e3
  refine q3w (x:=⟨k,n,kids⟩) (hn.em hf1) ha1 hk hkl.symm ht (by omega) (xk ..) e0 e3 ⟨?_,hf1⟩
  rw [q3v (x:=⟨k,n,kids⟩) h1 h2]
 have len1:=ha1.len
 obtain ⟨w0,w4,w12,w14,w20,w26,w32,-,-,-,-,-,-,-,-,-,-⟩:=qo8 M ⟨none,wq⟩
 by_cases k2:k=2
 ·subst k2
  by_cases h7:7<n
  ·rw [qq0 (by show Lang.shape 2 n kids.length=none;unfold Lang.shape;rw [qu (.inl ⟨.inl rfl,h7⟩)])]
   simp only [↓qe,qq,reduceIte,Nat.reduceEqDiff,w0,w4,zd,Int.reduceEq,h7];exact hf1
  ·have hsh:Lang.shape 2 n kids.length=some []:=by unfold Lang.shape;rw [qj (by omega),qu (by omega)]
   by_cases h0:kids.length=0
   ·have h0':=zj (show ((kids.length:Nat):Int)=0 by omega)
    simp only [↓qe,qq,reduceIte,Nat.reduceEqDiff,w0,w4,w12,w14,w20,w26,w32,zd,Int.reduceEq,Int.reduceLE,h7,len1,h0']
    exact fin _ _ hsh (by rw [h0];rfl) rfl rfl
   ·have h0':¬ ((kids.length:Nat):Int)=0:=by omega
    rw [qgz (x:=⟨2,n,kids⟩) hsh (by intro q;exact h0 q.symm)]
    simp only [↓qe,qq,reduceIte,Nat.reduceEqDiff,w0,w4,w12,w14,w20,w26,w32,zd,Int.reduceEq,Int.reduceLE,h7,len1,h0'];exact hf1
 by_cases k14:k=14
 ·subst k14
  by_cases h7:7<n
  ·rw [qq0 (by show Lang.shape 14 n kids.length=none;unfold Lang.shape;rw [qu (.inl ⟨.inr rfl,h7⟩)])]
   simp only [↓qe,qq,reduceIte,Nat.reduceEqDiff,w0,w4,zd,Int.reduceEq,h7];exact hf1
  ·have hsh:Lang.shape 14 n kids.length=some [1]:=by unfold Lang.shape;rw [qj (by omega),qj (by omega),qu (by omega)]
   by_cases h0:kids.length=1
   ·have h0':=zj (show ((kids.length:Nat):Int)=1 by omega)
    simp only [↓qe,qq,reduceIte,Nat.reduceEqDiff,w0,w4,w12,w14,w20,w26,w32,zd,Int.reduceEq,Int.reduceLE,h7,len1,h0']
    exact fin _ _ hsh (by rw [h0];rfl) rfl rfl
   ·have h0':¬ ((kids.length:Nat):Int)=1:=by omega
    rw [qgz (x:=⟨14,n,kids⟩) hsh (by intro q;exact h0 q.symm)]
    simp only [↓qe,qq,reduceIte,Nat.reduceEqDiff,w0,w4,w12,w14,w20,w26,w32,zd,Int.reduceEq,Int.reduceLE,h7,len1,h0'];exact hf1
 by_cases k1:k=1
 ·subst k1
  have hsh:Lang.shape 1 n kids.length=some []:=by unfold Lang.shape;rw [qj (by omega),qu (by omega)]
  by_cases h0:kids.length=0
  ·have h0':=zj (show ((kids.length:Nat):Int)=0 by omega)
   simp only [↓qe,qq,reduceIte,Nat.reduceEqDiff,w0,w4,w12,w14,w20,w26,w32,zd,Int.reduceEq,Int.reduceLE,len1,h0']
   exact fin _ _ hsh (by rw [h0];rfl) rfl rfl
  ·have h0':¬ ((kids.length:Nat):Int)=0:=by omega
   rw [qgz (x:=⟨1,n,kids⟩) hsh (by intro q;exact h0 q.symm)]
   simp only [↓qe,qq,reduceIte,Nat.reduceEqDiff,w0,w4,w12,w14,w20,w26,w32,zd,Int.reduceEq,Int.reduceLE,len1,h0'];exact hf1
 by_cases h0:n=0
 ·subst h0
  have one:∀ (w:List Int) (m:Nat),(∃ o:Option Bool,True)->True:=fun _ _ _=>trivial
  by_cases k19:k=19
  ·subst k19
   have hsh:Lang.shape 19 0 kids.length=some []:=by unfold Lang.shape;rw [qj (by omega),qu (by omega)]
   by_cases h0:kids.length=0
   ·have h0':=zj (show ((kids.length:Nat):Int)=0 by omega)
    simp only [↓qe,qq,reduceIte,Nat.reduceEqDiff,w0,w4,w12,w14,w20,w26,w32,zd,Int.reduceEq,Int.reduceLE,len1,h0']
    exact fin _ _ hsh (by rw [h0];rfl) rfl rfl
   ·have h0':¬ ((kids.length:Nat):Int)=0:=by omega
    rw [qgz (x:=⟨19,0,kids⟩) hsh (by intro q;exact h0 q.symm)]
    simp only [↓qe,qq,reduceIte,Nat.reduceEqDiff,w0,w4,w12,w14,w20,w26,w32,zd,Int.reduceEq,Int.reduceLE,len1,h0'];exact hf1
  by_cases k3:k=3
  ·subst k3
   have hsh:Lang.shape 3 0 kids.length=some [1]:=by unfold Lang.shape;rw [qj (by omega),qj (by omega),qu (by omega)]
   by_cases h0:kids.length=1
   ·have h0':=zj (show ((kids.length:Nat):Int)=1 by omega)
    simp only [↓qe,qq,reduceIte,Nat.reduceEqDiff,w0,w4,w12,w14,w20,w26,w32,zd,Int.reduceEq,Int.reduceLE,len1,h0']
    exact fin _ _ hsh (by rw [h0];rfl) rfl rfl
   ·have h0':¬ ((kids.length:Nat):Int)=1:=by omega
    rw [qgz (x:=⟨3,0,kids⟩) hsh (by intro q;exact h0 q.symm)]
    simp only [↓qe,qq,reduceIte,Nat.reduceEqDiff,w0,w4,w12,w14,w20,w26,w32,zd,Int.reduceEq,Int.reduceLE,len1,h0'];exact hf1
  by_cases k4:4<=k/\k<=13\/k=15
  ·have hsh:Lang.shape k 0 kids.length=some [1,1]:=by unfold Lang.shape;rw [qj (by omega),qj (by omega),qj (by omega),qu (by omega)]
   have g2:¬ k<=2:=by omega
   have g18:¬ k=18:=by omega
   have g16:¬ k=16:=by omega
   have g17:¬ k=17:=by omega
   have g20:¬ k=20:=by omega
   by_cases h0:kids.length=2
   ·have h0':=zj (show ((kids.length:Nat):Int)=2 by omega)
    simp only [↓qe,qq,reduceIte,Nat.reduceEqDiff,w0,w4,w12,w14,w20,w26,w32,zd,k2,k14,k1,k19,k3,g2,g18,g16,g20,len1,h0']
    exact fin _ _ hsh (by rw [h0];simp [wants,List.range_succ,wantF,g16,g17,g18,g20]) rfl rfl
   ·have h0':¬ ((kids.length:Nat):Int)=2:=by omega
    rw [qgz (x:=⟨k,0,kids⟩) hsh (by intro q;exact h0 q.symm)]
    simp only [↓qe,qq,reduceIte,Nat.reduceEqDiff,w0,w4,w12,w14,w20,w26,w32,zd,k2,k14,k1,k19,k3,g2,g18,g16,g20,len1,h0'];exact hf1
  by_cases k16:k=16
  ·subst k16
   by_cases hl:kids.length=3
   ·have hl':=zj (show ((kids.length:Nat):Int)=3 by omega)
    have hsh:Lang.shape 16 0 kids.length=some [2,4,4]:=by unfold Lang.shape;rw [qj (by omega),qj (by omega),qj (by omega),qj (by omega),qu (by omega)]
    simp only [↓qe,qq,reduceIte,Nat.reduceEqDiff,w0,w4,w12,w14,w20,w26,w32,zd,Int.reduceEq,Int.reduceLE,len1,hl']
    exact fin _ _ hsh (by rw [hl];rfl) rfl rfl
   ·have hl':¬ ((kids.length:Nat):Int)=3:=by omega
    have hsh:Lang.shape 16 0 kids.length=some [2,4]:=by unfold Lang.shape;rw [qj (by omega),qj (by omega),qj (by omega),qj (by omega),qj (by omega),qu (by omega)]
    by_cases h0:kids.length=2
    ·have h0':=zj (show ((kids.length:Nat):Int)=2 by omega)
     simp only [↓qe,qq,reduceIte,Nat.reduceEqDiff,w0,w4,w12,w14,w20,w26,w32,zd,Int.reduceEq,Int.reduceLE,len1,hl',h0']
     exact fin _ _ hsh (by rw [h0];rfl) rfl rfl
    ·have h0':¬ ((kids.length:Nat):Int)=2:=by omega
     rw [qgz (x:=⟨16,0,kids⟩) hsh (by intro q;exact h0 q.symm)]
     simp only [↓qe,qq,reduceIte,Nat.reduceEqDiff,w0,w4,w12,w14,w20,w26,w32,zd,Int.reduceEq,Int.reduceLE,len1,hl',h0'];exact hf1
  by_cases k17:k=17
  ·subst k17
   have hsh:Lang.shape 17 0 kids.length=some [2,4]:=by unfold Lang.shape;rw [qj (by omega),qj (by omega),qj (by omega),qj (by omega),qj (by omega),qu (by omega)]
   by_cases h0:kids.length=2
   ·have h0':=zj (show ((kids.length:Nat):Int)=2 by omega)
    simp only [↓qe,qq,reduceIte,Nat.reduceEqDiff,w0,w4,w12,w14,w20,w26,w32,zd,Int.reduceEq,Int.reduceLE,len1,h0']
    exact fin _ _ hsh (by rw [h0];rfl) rfl rfl
   ·have h0':¬ ((kids.length:Nat):Int)=2:=by omega
    rw [qgz (x:=⟨17,0,kids⟩) hsh (by intro q;exact h0 q.symm)]
    simp only [↓qe,qq,reduceIte,Nat.reduceEqDiff,w0,w4,w12,w14,w20,w26,w32,zd,Int.reduceEq,Int.reduceLE,len1,h0'];exact hf1
  by_cases k18:k=18
  ·subst k18
   have hsh:Lang.shape 18 0 kids.length=some [4]:=by unfold Lang.shape;rw [qj (by omega),qj (by omega),qj (by omega),qj (by omega),qj (by omega),qj (by omega),qu (by omega)]
   by_cases h0:kids.length=1
   ·have h0':=zj (show ((kids.length:Nat):Int)=1 by omega)
    simp only [↓qe,qq,reduceIte,Nat.reduceEqDiff,w0,w4,w12,w14,w20,w26,w32,zd,Int.reduceEq,Int.reduceLE,len1,h0']
    exact fin _ _ hsh (by rw [h0];rfl) rfl rfl
   ·have h0':¬ ((kids.length:Nat):Int)=1:=by omega
    rw [qgz (x:=⟨18,0,kids⟩) hsh (by intro q;exact h0 q.symm)]
    simp only [↓qe,qq,reduceIte,Nat.reduceEqDiff,w0,w4,w12,w14,w20,w26,w32,zd,Int.reduceEq,Int.reduceLE,len1,h0'];exact hf1
  have k20:k=20:=by
   unfold Lang.cls at hc
   by_cases q1:1<=k/\k<=10
   ·omega
   by_cases q2:11<=k/\k<=13
   ·omega
   by_cases q3:14<=k/\k<=19
   ·omega
   rw [qj q1,qj q2,qj q3] at hc
   by_cases q4:k=20
   ·exact q4
   ·rw [qj q4] at hc;exact (hc rfl).elim
  subst k20
  have hsh:Lang.shape 20 0 kids.length=some (List.replicate kids.length 3):=by unfold Lang.shape;rw [qj (by omega),qj (by omega),qj (by omega),qj (by omega),qj (by omega),qj (by omega),qj (by omega),qu (by omega)]
  simp only [↓qe,qq,reduceIte,Nat.reduceEqDiff,w0,w4,w12,w14,w20,w26,w32,zd,Int.reduceEq,Int.reduceLE]
  exact fin _ _ hsh (wants20 _) rfl rfl
 ·rw [qq0 (by show Lang.shape k n kids.length=none;unfold Lang.shape;rw [qu (by omega)])]
  simp only [↓qe,qq,reduceIte,Nat.reduceEqDiff,w0,w4,zd,k2,k14,k1,h0];exact hf1
end Go.Am
namespace Go.Am
open Lang Go.Proofs
variable {M:Mac} [MK M]
theorem q2h {k n:Int} {m:Nat} (h:Lang.cls k=0):Lang.shape k n m=none:=by
 have hk:k<1\/20<k:=by
  unfold Lang.cls at h
  by_cases q1:1<=k/\k<=10
  ·rw [qu q1] at h;cases h
  by_cases q2:11<=k/\k<=13
  ·rw [qj q1,qu q2] at h;cases h
  by_cases q3:14<=k/\k<=19
  ·rw [qj q1,qj q2,qu q3] at h;cases h
  rw [qj q1,qj q2,qj q3] at h
  by_cases q4:k=20
  ·rw [qu q4] at h;cases h
  ·omega
 unfold Lang.shape
 by_cases h0:(k=2\/k=14)/\7<n \/ ¬ (k=2\/k=14)/\k ≠ 1/\n ≠ 0
 ·rw [qu h0]
 ·rw [qj h0,qj (by omega),qj (by omega),qj (by omega),qj (by omega),qj (by omega),qj (by omega),qj (by omega)]
theorem q4i {t:List Nd} {x:Nd} {i m:Nat} {st:List Nat} {fl:List Bool} (hm:x.kids.length=m) :
 mstep t x i st fl=if m<=st.length/\x.kids=ints (st.drop (st.length-m))/\fitB t x (st.drop (st.length-m))=true then
  (if x.k=18/\((st.drop (st.length-m)).any fun j=>fl.getD j false)=true then none else some (st.take (st.length-m) ++ [i],fl ++ [((st.drop (st.length-m)).any fun j=>fl.getD j false) || decide (x.k=18)])) else none:=by
 unfold mstep fitB
 cases hsh:Lang.shape x.k x.n x.kids.length with
 | none=>simp only;rw [qj (fun q=>nomatch q.2.2)]
 | some w =>
  simp only
  by_cases hw:w.length=x.kids.length
  ·have e:m=w.length:=by omega
   subst e
   by_cases hc:w.length<=st.length/\x.kids=ints (st.drop (st.length-w.length))/\(st.drop (st.length-w.length)).map (Lang.clsAt t)=w
   ·rw [qu ⟨hw,hc⟩]
    symm
    rw [qu ⟨hc.1,hc.2.1,zn ⟨hw,hc.2.2⟩⟩]
   ·rw [qj (fun q=>hc ⟨q.2.1,q.2.2.1,q.2.2.2⟩),qj (fun q=>hc ⟨q.1,q.2.1,(of_decide_eq_true q.2.2).2⟩)]
  ·rw [qj (fun q=>hw q.1),qj (fun q=>hw (of_decide_eq_true q.2.2).1)]
theorem q2d {H Hc:AHeap} {tv sv kv:AV} {t:List Nd} {B c i m:Nat} {st:List Nat} {fl r:List Bool} {x:Nd} {Q:Post3} {E:Env}
 (hs:MayS H Hc tv t B sv st (fl++false::r)) (hi:fl.length=i) (hn:t.length=i+1+r.length) (hn2:t.length<=2000) (hm:x.kids.length=m) (hms:m<=st.length) (hst:∀ s ∈ st,s<i) (hsl:st.length<=2000)
 (hkv:SlT encI 1 H kv x.kids) (hrow:Hc.get c=some (OR [.int .i64 x.k,.int .u64 x.n,kv] qo)) (hcB:c ≠ B) (hc:c<Hc.next)
 (e7:lk E 7=some (.int .i64 (m:Nat))) (e0:lk E 0=some tv) (e4:lk E 4=some (.slice B 0 t.length t.length)) (e5:lk E 5=some (.int .i64 (i:Int))) (e3:lk E 3=some sv) (e6:lk E 6=some (.ptr c 0))
 (hbad:∀ E' H',lk E' 2=some (.bool false)->Fr Em H H'->x.kids ≠ ints (st.drop (st.length-m))->Q .ret E' [] H')
 (hok:∀ H',MayS H H' tv t B sv st (fl++((st.drop (st.length-m)).any fun j=>fl.getD j false)::r)->Fr (On B) Hc H'->x.kids=ints (st.drop (st.length-m)) ->
  W M ⟨none,qbv⟩ (xi 62) true Q [(8,.int .i64 (m:Nat)),(7,.int .i64 (m:Nat)),(0,tv),(4,.slice B 0 t.length t.length),(5,.int .i64 (i:Int)),(3,sv),(6,.ptr c 0)] [] H') :
 LOOP3 (W M ⟨none,qbv⟩ (xi 44)) (BLK3 2 (SEQ3 (W M ⟨none,qbv⟩ (xi 62)) Q)) ((8,.int .i64 0)::E) [] Hc:=by
 obtain ⟨-,-,-,-,-,-,-,-,-,-,-,w44,-,w50,-,w61,w60⟩:=qru M ⟨none,qbv⟩
 have htl:(st.drop (st.length-m)).length=m:=by rw [yf];omega
 refine LOOP3.intro (fun k E' H'=>∃ j,E'=[(8,.int .i64 (j:Nat)),(7,.int .i64 (m:Nat)),(0,tv),(4,.slice B 0 t.length t.length),(5,.int .i64 (i:Int)),(3,sv),(6,.ptr c 0)]/\k=m-j/\j<=m /\
  MayS H H' tv t B sv st (fl++(((st.drop (st.length-m)).take j).any fun j=>fl.getD j false)::r)/\Fr (On B) Hc H'/\x.kids.take j=ints ((st.drop (st.length-m)).take j)) ?_ ?_
 ·exact ⟨_,_,⟨0,rfl,rfl,by omega,hs,Fr.refl _,rfl⟩,by simp only [↓qe,qq,reduceIte,Nat.reduceEqDiff,e7,e0,e4,e5,e3,e6]⟩
 rintro k E' H' ⟨j,rfl,rfl,hj,hs',hf,hk1⟩
 rcases zy j m with hlt|hge
 ·have c1:(j:Int)<(m:Nat):=by omega
  obtain ⟨kid,hkid⟩:∃ y,x.kids[j]? = some y:=⟨x.kids[j]'(by omega),by simp [show j<x.kids.length by omega]⟩
  obtain ⟨tj,htj⟩:∃ y,(st.drop (st.length-m))[j]? = some y:=⟨(st.drop (st.length-m))[j]'(by omega),by simp [show j<(st.drop (st.length-m)).length by omega]⟩
  have hkv':=hkv.em hs'.stk.fr
  obtain ⟨ki,kl⟩:=hkv'.getI hkid
  have hstj:st[st.length-m+j]? = some tj:=by rw [kw] at htj;exact htj
  have ti:=hs'.stk.sl.idx hstj (z:=((st.length-m+j:Nat):Int)) rfl .i64
  have tl:Op.load1 [.ptr (slB sv) (slO 1 sv (st.length-m+j))] H'=some (.int .i64 (tj:Nat)):=by rw [hs'.stk.sl.load0 qpv hstj (by decide)];rfl
  have htjm:tj ∈ st:=xo hstj
  have htji:=hst tj htjm
  have hrow':H'.get c=some (OR [.int .i64 x.k,.int .u64 x.n,kv] qo):=by rw [hf.keep c hc (fun q=>hcB q),hrow]
  have l:∀ o,Op.load1 [.ptr c o] H'=[AV.int .i64 x.k,.int .u64 x.n,kv][o]?:=fun o=>qae (x8 hrow') o
  have w1:wrapI .i64 (((st.length:Nat):Int)-((m:Nat):Int))=((st.length-m:Nat):Int):=by rw [xz (by omega) (by omega)];omega
  have w2:wrapI .i64 (((st.length-m:Nat):Int)+(j:Int))=((st.length-m+j:Nat):Int):=by rw [xz (by omega) (by omega)];omega
  have wt:wrapI .i64 ((j:Int)+1)=((j+1:Nat):Int):=by rw [xz (by omega) (by omega)];omega
  by_cases hkt:kid=(tj:Int)
  ·subst hkt
   have l1:=hs'.ld (fl_at fl r _)
   have l2:=hs'.ld (fl_get (a:=((st.drop (st.length-m)).take j).any fun j=>fl.getD j false) (r:=r) (j:=tj) (by omega))
   have i1:=hs'.ix t.length (j:=i) (by omega) .i64
   have i2:=hs'.ix t.length (j:=tj) (by omega) .i64
   rw [hi] at l1
   have any1:(((st.drop (st.length-m)).take (j+1)).any fun j=>fl.getD j false)=((((st.drop (st.length-m)).take j).any fun j=>fl.getD j false) || fl.getD tj false):=by
    rw [jw,htj];simp
   have fin:∀ (q:Bool),q=(((st.drop (st.length-m)).take (j+1)).any fun j=>fl.getD j false) -> ∃ Hd,Op.store 1 [.ptr B i,.bool q] H'=some (.undef,Hd)/\MayS H Hd tv t B sv st (fl++(((st.drop (st.length-m)).take (j+1)).any fun j=>fl.getD j false)::r)/\Fr (On B) H' Hd:=fun q hq=>by
    obtain ⟨Hd,s1,s2,s3⟩:=hs'.put (j:=i) (by simp;omega) q
    refine ⟨Hd,s1,?_,s3⟩
    rw [<-hi,qz2,hq] at s2;exact s2
   have hstep:x.kids.take (j+1)=ints ((st.drop (st.length-m)).take (j+1)):=by
    rw [jw,hkid,jw,htj,hk1];simp [ints]
   cases hq:((st.drop (st.length-m)).take j).any fun j=>fl.getD j false with
   | true =>
    rw [hq] at l1 any1
    obtain ⟨Hd,s1,s2,s3⟩:=fin true (by rw [any1];rfl)
    simp only [↓qe,qq,reduceIte,Nat.reduceEqDiff,w44,w50,w60,w61,c1,l,ki,kl,hs'.stk.sl.len,w1,w2,ti,tl,i1,l1,s1,wt]
    exact ⟨_,_,⟨j+1,rfl,rfl,by omega,s2,hf.trans s3 (fun x h=>.inl h),hstep⟩,by simp only [↓qe,qq,reduceIte,Nat.reduceEqDiff],by omega⟩
   | false =>
    rw [hq] at l1 any1
    obtain ⟨Hd,s1,s2,s3⟩:=fin (fl.getD tj false) (by rw [any1];rfl)
    simp only [↓qe,qq,reduceIte,Nat.reduceEqDiff,w44,w50,w60,w61,c1,l,ki,kl,hs'.stk.sl.len,w1,w2,ti,tl,i1,l1,i2,l2,s1,wt]
    exact ⟨_,_,⟨j+1,rfl,rfl,by omega,s2,hf.trans s3 (fun x h=>.inl h),hstep⟩,by simp only [↓qe,qq,reduceIte,Nat.reduceEqDiff],by omega⟩
  ·simp only [↓qe,qq,reduceIte,Nat.reduceEqDiff,w44,w50,c1,l,ki,kl,hs'.stk.sl.len,w1,w2,ti,tl,hkt]
   refine hbad _ _ rfl hs'.stk.fr fun q=>hkt ?_
   have:=congrArg (fun l=>l[j]?) q
   simp only [hkid,ints,qx,htj,vr] at this
   exact jf this
 ·have hjm:j=m:=by omega
  subst hjm
  have c1:¬ (j:Int)<(j:Nat):=by omega
  rw [xn (l:=st.drop (st.length-j)) (by omega)] at hs' hk1
  rw [xn (l:=x.kids) (by omega)] at hk1
  simp only [↓qe,qq,reduceIte,Nat.reduceEqDiff,w44,c1]
  exact hok _ hs' hf hk1
theorem qxn {H:AHeap} {tv:AV} {t:List Nd} (hn:Nds H tv t) (hz:∀ x ∈ t,x.kids.length*8<=140737488355328):yg M qbv [tv] H fun v H'=>v=.bool (mayB t)/\Fr Em H H':=by
 refine qy5 ?_
 obtain ⟨w0,w2,w10,w14,w76,w19,w25,w75,w31,w39,w62,-,w64,-,w72,-,-⟩:=qru M ⟨none,qbv⟩
 by_cases c1:((t.length:Nat):Int)<1
 ·rw [qn7 (by omega)]
  simp only [↓qe,qq,reduceIte,Nat.reduceEqDiff,w0,w2,hn.len,c1]
  exact Fr.refl _
 by_cases c2:(2000:Int)<((t.length:Nat):Int)
 ·rw [qn7 (by omega)]
  simp only [↓qe,qq,reduceIte,Nat.reduceEqDiff,w0,w2,hn.len,c1,c2]
  exact Fr.refl _
 obtain ⟨x0,hx0⟩:∃ x,t[t.length-1]? = some x:=⟨t[t.length-1]'(by omega),by simp [show t.length-1<t.length by omega]⟩
 have wl:wrapI .i64 (((t.length:Nat):Int)-1)=((t.length-1:Nat):Int):=by rw [xz (by omega) (by omega)];omega
 have hkl:kLast t=x0.k:=by unfold kLast;rw [hx0]
 obtain ⟨a0,_,_,n1,_,n2,_,_⟩:=hn.get hx0
 by_cases c3:x0.k=20
 ·have c3':=zj c3
  have hmk:=qrf qoj 1 [.bool false] t.length .i64 .i64 (by omega) (by omega)
  rw [repl1] at hmk
  simp only [↓qe,qq,reduceIte,Nat.reduceEqDiff,w0,w2,w10,w14,hn.len,c1,c2,wl,n1,n2,c3',hmk]
  rw [q4e (by omega)]
  have hB:(Op.sliceTo t.length t.length H.next)=.slice H.next 0 t.length t.length:=rfl
  have hm0:MayS H (H.alloc (OR (List.replicate t.length (.bool false)) qoj)) tv t H.next .nils [] ([]++List.replicate (t.length-0) false) :=
   ⟨hn,⟨.inl ⟨rfl,rfl⟩,(Fr.refl H).alloc _⟩,by rw [xk];simp [bls],qf _,by rw [x4];omega,fun q=>q.1 rfl⟩
  refine LOOP3.intro (fun k E' H'=>∃ i sv st fl,E'=[(5,.int .i64 (i:Nat)),(4,.slice H.next 0 t.length t.length),(3,sv),(0,tv)]/\k=t.length-i/\i<=t.length/\fl.length=i/\(∀ s ∈ st,s<i)/\st.length<=i /\
   MayS H H' tv t H.next sv st (fl++List.replicate (t.length-i) false)/\mgo t (t.drop i) i st fl=mgo t t 0 [] []) ?_ ?_
  ·exact ⟨_,_,⟨0,.nils,[],[],rfl,rfl,by omega,rfl,by simp,by simp,hm0,rfl⟩,by simp only [↓qe,qq,reduceIte,Nat.reduceEqDiff];rfl⟩
  rintro k E' Hc ⟨i,sv,st,fl,rfl,rfl,hi,hfl,hst,hsl,hs,hgo⟩
  rcases zy i t.length with hlt|hge
  ·have d1:(i:Int)<(t.length:Nat):=by omega
   obtain ⟨x,hx⟩:∃ x,t[i]? = some x:=⟨t[i],by simp [hlt]⟩
   obtain ⟨a,ha0,ha1,m1,m2,_⟩:=hn.getF hx hs.stk.fr
   rw [qmp hx] at hgo
   rw [q0h hlt] at hs
   have hst0:=qf7 Hc x ha1 qo
   have hs1:=hs.em ((Fr.refl Hc).alloc (OR [.int .i64 x.k,.int .u64 x.n,a] qo))
   have hkb:=hz x (xo hx)
   obtain ⟨m,hm⟩:∃ m,m=x.kids.length:=⟨_,rfl⟩
   have hal:Op.lenSl [a]=some (.int .i64 (m:Nat)):=by rw [ha0.len,hm]
   have hms:=q4i (t:=t) (i:=i) (st:=st) (fl:=fl) hm.symm
   have l1:∀ o,Op.load1 [.ptr Hc.next o] (Hc.alloc (OR [.int .i64 x.k,.int .u64 x.n,a] qo))=[AV.int .i64 x.k,.int .u64 x.n,a][o]?:=fun o=>zd ..
   have hc1:Hc.next<(Hc.alloc (OR [.int .i64 x.k,.int .u64 x.n,a] qo)).next:=by rw [x4];omega
   have hrow:=xk Hc (OR [.int .i64 x.k,.int .u64 x.n,a] qo)
   simp only [↓qe,qq,reduceIte,Nat.reduceEqDiff,w19,w25,hn.em hs.stk.fr |>.len,d1,m1,m2,hst0,l1,hal,w31]
   have hn1:(Hc.alloc (OR [.int .i64 x.k,.int .u64 x.n,a] qo)).next=Hc.next+1:=rfl
   obtain ⟨c,hcdef⟩:∃ c,c=Hc.next:=⟨_,rfl⟩
   rw [<-hcdef] at hrow l1 hc1 hn1 ⊢
   have hBc:H.next<c:=by rw [hcdef];exact hs.hi
   generalize Hc.alloc (OR [.int .i64 x.k,.int .u64 x.n,a] qo)=H1 at *
   refine C3.q (qrq (M:=M) x.k) fun v H2 ⟨hv,hh⟩=>?_
   subst hv;subst hh
   have stl:=hs1.stk.sl.len
   by_cases hc0:Lang.cls x.k=0
   ·rw [qf6 (by rw [hms,qj];intro q;unfold fitB at q;rw [q2h hc0] at q;exact nomatch q.2.2)] at hgo
    simp only [↓qe,qq,reduceIte,Nat.reduceEqDiff,zj hc0]
    exact ⟨by rw [<-hgo],hs1.stk.fr⟩
   by_cases hml:m<=st.length
   ·have f2:¬ ((st.length:Nat):Int)<((m:Nat):Int):=by omega
    simp only [↓qe,qq,reduceIte,Nat.reduceEqDiff,hc0,stl,f2,w39]
    refine q2d (M:=M) (x:=x) hs1 hfl (by simp;omega) (by omega) hm.symm hml hst (by omega) ha0 hrow (by omega) hc1 rfl rfl rfl rfl rfl rfl (fun E' H' q2 hf hne=>?_) fun H3 hs3 hf3 hk1=>?_
    ·rw [qf6 (by rw [hms,qj];intro q;exact hne q.2.1)] at hgo
     simp only [↓qe,qq,reduceIte,Nat.reduceEqDiff,q2]
     exact ⟨by rw [<-hgo],hf⟩
    ·have hrow3:H3.get c=some (OR [.int .i64 x.k,.int .u64 x.n,a] qo):=by rw [hf3.keep c hc1 (fun q=>by have:c=H.next:=q;omega),hrow]
     have lN:Op.loadN 3 [.ptr c 0] H3=some (nodeV x a):=by rw [qky (x8 hrow3) (by simp)];rfl
     simp only [↓qe,qq,reduceIte,Nat.reduceEqDiff,w62,lN]
     have htop:∀ s ∈ st.drop (st.length-m),s<t.length:=fun s hs=>by have:=hst s (List.mem_of_mem_drop hs);omega
     refine C3.q (q3x (M:=M) (hn.em hs3.stk.fr) (ha0.em hs3.stk.fr) hk1 htop (by rw [yf];omega) hc0) fun v H4 ⟨hv,hf4⟩=>?_
     subst hv
     have hs4:=hs3.em hf4
     have hc3:c<H3.next:=qk hc1 hf3.next
     have hrow4:H4.get c=some (OR [.int .i64 x.k,.int .u64 x.n,a] qo):=by rw [hf4.keep c hc3 id,hrow3]
     have l4:∀ o,Op.load1 [.ptr c o] H4=[AV.int .i64 x.k,.int .u64 x.n,a][o]?:=fun o=>qae (x8 hrow4) o
     cases hfit:fitB t x (st.drop (st.length-m)) with
     | false =>
      have hfit':fitB t ⟨x.k,x.n,x.kids⟩ (st.drop (st.length-m))=false:=hfit
      rw [qf6 (by rw [hms,qj];intro q;rw [hfit] at q;exact nomatch q.2.2)] at hgo
      simp only [↓qe,qq,reduceIte,Nat.reduceEqDiff,w64,hfit']
      exact ⟨by rw [<-hgo],hs4.stk.fr⟩
     | true =>
      have hfit':fitB t ⟨x.k,x.n,x.kids⟩ (st.drop (st.length-m))=true:=hfit
      rw [qu ⟨hml,hk1,hfit⟩] at hms
      generalize ((st.drop (st.length-m)).any fun j=>fl.getD j false)=q at hms hs3 hs4
      have i1:=hs4.ix t.length (j:=i) (by omega) .i64
      have fa:=hs4.ld (fl_at fl (List.replicate (t.length-i-1) false) q)
      rw [hfl] at fa
      have ws:wrapI .i64 (((st.length:Nat):Int)-((m:Nat):Int))=((st.length-m:Nat):Int):=by rw [xz (by omega) (by omega)];omega
      have wi:wrapI .i64 ((i:Int)+1)=((i+1:Nat):Int):=by rw [xz (by omega) (by omega)];omega
      obtain ⟨H5,s1,s2,s3⟩:=hs4.put (j:=i) (by simp;omega) (q || decide (x.k=18))
      have s2':MayS H H5 tv t H.next sv st (fl++(q || decide (x.k=18))::List.replicate (t.length-i-1) false):=by rw [<-hfl,qz2] at s2;rw [<-hfl];exact s2
      obtain ⟨sv',p1,p2⟩:=qz8 (i:=i) (m:=m) s2' hml (by omega) (z:=((st.length-m:Nat):Int)) rfl
      have stl4:=hs4.stk.sl.len
      have nxt:mstep t x i st fl=some (st.take (st.length-m) ++ [i],fl ++ [q || decide (x.k=18)]) -> ∀ sv2 H6,MayS H H6 tv t H.next sv2 (st.take (st.length-m) ++ [i]) (fl++(q || decide (x.k=18))::List.replicate (t.length-i-1) false) ->
       ∃ E' A,(∃ i sv st fl,E'=[(5,.int .i64 (i:Nat)),(4,.slice H.next 0 t.length t.length),(3,sv),(0,tv)]/\A=t.length-i/\i<=t.length/\fl.length=i/\(∀ s ∈ st,s<i)/\st.length<=i/\MayS H H6 tv t H.next sv st (fl++List.replicate (t.length-i) false)/\mgo t (t.drop i) i st fl=mgo t t 0 [] [])/\E'=[(5,.int .i64 ((i+1:Nat):Int)),(4,.slice H.next 0 t.length t.length),(3,sv2),(0,tv)]/\A<t.length-i:=by
       intro hmm sv2 H6 hs6
       rw [q0b hmm] at hgo
       refine ⟨_,_,⟨i+1,sv2,st.take (st.length-m) ++ [i],fl ++ [q || decide (x.k=18)],rfl,rfl,by omega,by simp;omega,fun s hs=>?_,?_,?_,hgo⟩,rfl,by omega⟩
       ·rcases za.1 hs with hs|hs
        ·have:=hst s (List.mem_of_mem_take hs);omega
        ·rw [j0.1 hs];omega
       ·rw [qc,jj];simp;omega
       ·rw [show t.length-(i+1)=t.length-i-1 by omega,qp];exact hs6
      by_cases k18:x.k=18
      ·cases q with
       | true =>
        rw [qu ⟨k18,rfl⟩] at hms
        rw [qf6 hms] at hgo
        simp only [↓qe,qq,reduceIte,Nat.reduceEqDiff,w64,hfit',l4,zj k18,i1,fa]
        exact ⟨by rw [<-hgo],hs4.stk.fr⟩
       | false =>
        rw [qj (fun q=>nomatch q.2)] at hms
        rw [zn k18,Bool.or_true] at s1
        simp only [↓qe,qq,reduceIte,Nat.reduceEqDiff,w64,w72,hfit',l4,zj k18,i1,fa,s1,stl4,s2'.stk.sl.len,ws,p1]
        refine p2 fun sv2 H6 hs6=>?_
        obtain ⟨E',A,h1,rfl,h3⟩:=nxt hms sv2 H6 hs6
        simp only [↓qe,qq,reduceIte,Nat.reduceEqDiff,w75,wi]
        exact ⟨_,_,h1,by simp only [↓qe,qq,reduceIte,Nat.reduceEqDiff],h3⟩
      ·rw [qj (fun q=>k18 q.1)] at hms
       rw [jg k18,y9] at s1
       cases q with
       | true =>
        simp only [↓qe,qq,reduceIte,Nat.reduceEqDiff,w64,w72,hfit',l4,k18,i1,fa,s1,stl4,s2'.stk.sl.len,ws,p1]
        refine p2 fun sv2 H6 hs6=>?_
        obtain ⟨E',A,h1,rfl,h3⟩:=nxt hms sv2 H6 hs6
        simp only [↓qe,qq,reduceIte,Nat.reduceEqDiff,w75,wi]
        exact ⟨_,_,h1,by simp only [↓qe,qq,reduceIte,Nat.reduceEqDiff],h3⟩
       | false =>
        simp only [↓qe,qq,reduceIte,Nat.reduceEqDiff,w64,w72,hfit',l4,k18,i1,fa,s1,stl4,s2'.stk.sl.len,ws,p1]
        refine p2 fun sv2 H6 hs6=>?_
        obtain ⟨E',A,h1,rfl,h3⟩:=nxt hms sv2 H6 hs6
        simp only [↓qe,qq,reduceIte,Nat.reduceEqDiff,w75,wi]
        exact ⟨_,_,h1,by simp only [↓qe,qq,reduceIte,Nat.reduceEqDiff],h3⟩
   ·have f2:((st.length:Nat):Int)<((m:Nat):Int):=by omega
    rw [qf6 (by rw [hms,qj];intro q;exact hml q.1)] at hgo
    simp only [↓qe,qq,reduceIte,Nat.reduceEqDiff,hc0,stl,f2]
    exact ⟨by rw [<-hgo],hs1.stk.fr⟩
  ·have hin:i=t.length:=by omega
   subst hin
   have d1:¬ ((t.length:Nat):Int)<(t.length:Nat):=by omega
   rw [List.drop_length] at hgo
   simp only [↓qe,qq,reduceIte,Nat.reduceEqDiff,w19,w76,hn.em hs.stk.fr |>.len,d1,hs.stk.sl.len]
   refine ⟨?_,hs.stk.fr⟩
   rw [<-hgo,mgo];congr 1;exact decide_eq_decide.2 (by omega)
 ·rw [qn7 (by omega)]
  simp only [↓qe,qq,reduceIte,Nat.reduceEqDiff,w0,w2,hn.len,c1,c2,wl,n1,n2,c3]
  exact Fr.refl _
end Go.Am
namespace Go.Am
open Go.Proofs
variable {M:Mac} [MK M]
structure BufZ (H0 H:AHeap) (v:AV) (xs:List UInt8):Prop where
 own:(v=.nils/\xs=[]) \/ ∃ d fz,v=.gslice d 0 xs.length 1 0 xs.length/\d<H.next/\H0.next<=d/\H.get d=some (.grown xs.length 1 (xs.flatMap encB) qbd fz)/\fz.2<=xs.length/\fz.1=0
 fr:Fr Em H0 H
section
variable {H0 H H':AHeap} {v:AV} {xs:List UInt8}
theorem BufZ.nil (f:Fr Em H0 H):BufZ H0 H .nils []:=⟨.inl ⟨rfl,rfl⟩,f⟩
theorem BufZ.on (h:BufZ H0 H v xs):∀ x,OnS v x->H0.next<=x/\x<H.next:=by
 rintro x ⟨h1,rfl⟩
 rcases h.own with ⟨rfl,_⟩|⟨d,fz,rfl,q1,q2,_⟩
 ·exact (h1 rfl).elim
 ·exact ⟨q2,q1⟩
theorem BufZ.frW {W:Nat->Prop} (h:BufZ H0 H v xs) (f:Fr W H H') (f0:Fr Em H0 H') (hw:∀ x,OnS v x -> ¬ W x):BufZ H0 H' v xs:=by
 refine ⟨?_,f0⟩
 rcases h.own with q|⟨d,fz,rfl,q1,q2,q3,q4⟩
 ·exact .inl q
 ·exact .inr ⟨d,fz,rfl,qk q1 f.next,q2,by rw [f.keep d q1 (hw d ⟨by simp,rfl⟩)];exact q3,q4⟩
theorem BufZ.em (h:BufZ H0 H v xs) (f:Fr Em H H'):BufZ H0 H' v xs:=h.frW f (h.fr.em f) fun _ _ q=>q
theorem BufZ.setOff (h:BufZ H0 H v xs) {b:Nat} (hb:H0.next<=b) (hn:¬ OnS v b) (o:AObj):BufZ H0 (H.set b o) v xs :=
 h.frW ((Fr.refl H).set (W:=On b) (.inl rfl) o) (h.fr.set (.inr hb) _) fun x hx (q:x=b)=>hn (by rw [<-q];exact hx)
theorem BufZ.one (h:BufZ H0 H v xs):oneCell v=true:=by
 rcases h.own with ⟨rfl,_⟩|⟨d,fz,rfl,_⟩<;>rfl
theorem BufZ.len (h:BufZ H0 H v xs):Op.lenSl [v]=some (.int .i64 (xs.length:Nat)):=by
 rcases h.own with ⟨rfl,rfl⟩|⟨d,fz,rfl,_⟩<;>rfl
theorem BufZ.app (h:BufZ H0 H v xs) {s:List UInt8} (hf:xs.length+s.length<=140737488355328) {K:Bool->AV->AHeap->Prop} {m:Bool}
 (hk:∀ v' H',BufZ H0 H' v' (xs++s)->Fr (OnS v) H H'->(∀ b,OnS v' b->OnS v b\/H.next<=b)->(s=[]->v'=v)->K m v' H'):B32 m (Op.append qbd 1 1 [v,.str s] H) K:=by
 have hfit:fits (xs.length+s.length) 1=true:=qye (by omega) (by omega)
 have ha:allOne (s.map fun c=>AV.int .u8 c.toNat)=true:=by rw [qe7];simp [oneCell]
 have e1:∀ n,Nat.beq n n=true:=fun n=>by simp
 have hlt:Nat.blt 0 1=true:=rfl
 by_cases hs:s=[]
 ·subst hs
  rcases h.own with ⟨rfl,rfl⟩|⟨d,fz,rfl,q1,q2,q3,q4⟩
  ·exact B32.intro (a:=.nils) (b:=H) rfl (hk _ _ h (Fr.refl _) (fun b q=>.inl q) fun _=>rfl)
  ·refine B32.intro (a:=.gslice d 0 xs.length 1 0 xs.length) (b:=H) ?_ (hk _ _ (by simpa using h) (Fr.refl _) (fun b q=>.inl q) fun _=>rfl)
   have f0:firstCells H 1 0 (.str [])=some []:=rfl
   simp only [Op.append,qt5,qi,qd,f0,qnp,qm,appendV,Nat.beq,x9,qay (qf xs.length)]
 ·have hs0:s.length ≠ 0:=fun q=>hs (qcx.1 q)
  have h0:Nat.beq s.length 0=false:=qbw hs0
  rcases h.own with ⟨rfl,rfl⟩|⟨d,fz,rfl,q1,q2,q3,q4,q5⟩
  ·simp only [qi,x9] at hfit
   refine B32.intro (a:=.gslice H.next 0 s.length 1 0 s.length) (b:=H.alloc (.grown s.length 1 (s.map fun c=>AV.int .u8 c.toNat) qbd (0,0))) ?_ (hk _ _ ⟨.inr ⟨H.next,(0,0),rfl,by rw [x4];omega,h.fr.next,by rw [xk,zl,qms],by simp,rfl⟩,h.fr.alloc _⟩ ((Fr.refl H).alloc _) (fun b q=>.inr (by rw [q.2];exact qf _)) fun q=>(hs q).elim)
   simp only [Op.append,qt5,qd,qv2,ha,qm,appendV,h0,qy,hfit,hlt,jt,grownV]
  ·have h3:Nat.ble (0+xs.length+s.length) xs.length=false:=by cases hq:Nat.ble (0+xs.length+s.length) xs.length with|false=>rfl|true=>rw [yt] at hq;omega
   have h4:=qay (show 0+xs.length<=xs.length by omega)
   have h5:=qay (show fz.2<=xs.length*1 by omega)
   refine B32.intro (a:=.gslice H.next 0 (xs.length+s.length) 1 0 (xs.length+s.length)) (b:=(H.kill d).alloc (.grown (xs.length+s.length) 1 (xs.flatMap encB++s.map fun c=>AV.int .u8 c.toNat) qbd fz)) ?_ (hk _ _ ⟨.inr ⟨H.next,fz,?_,?_,?_,?_,?_,q5⟩,?_⟩ ?_ (fun b q=>.inr (by rw [q.2];exact qf _)) fun q=>(hs q).elim)
   ·simp only [Op.append,qt5,qd,qv2,ha,qm,appendV,h0,qy,e1,h4,hlt,jt,h3,hfit,q3,h5,grownV,qfa,qb5,Nat.beq]
   ·rw [qc]
   ·rw [x4,qfa];omega
   ·have:=h.fr.next;omega
   ·have:=xk (H.kill d) (.grown (xs.length+s.length) 1 (xs.flatMap encB++s.map fun c=>AV.int .u8 c.toNat) qbd fz)
    rw [qfa] at this
    rw [this,qc,v9,qms s]
   ·rw [qc];omega
   ·exact (h.fr.kill (.inr q2)).alloc _
   ·exact (Fr.kill (W:=OnS (AV.gslice d 0 xs.length 1 0 xs.length)) (Fr.refl H) (.inl ⟨by simp,rfl⟩)).alloc _
end
theorem cast_B {H:AHeap} {b T:Nat} {c:List AV} (h:H.get b=some (OR c T)) (hl:liesB Tryd.prog 78 T c.length 0=true):Op.castPtr (liesB Tryd.prog 78) [.ptr b 0] H=some (.ptr b 0):=by
 simp only [Op.castPtr,h]
 rw [hl];rfl
theorem eq_np (H:AHeap):Op.eq .ptr false [.nilp,.nilp] H=some (.bool true):=rfl
theorem eq_pn (H:AHeap) (b o:Nat):Op.eq .ptr false [.ptr b o,.nilp] H=some (.bool false):=rfl
theorem ne_pp (H:AHeap) (b o:Nat):Op.eq .ptr true [.ptr b o,.ptr b o] H=some (.bool false):=by simp [Op.eq,eqV]
theorem noEsc (x:AV):Op.noEscape [x]=some x:=rfl
theorem qlk {H:AHeap} {b T:Nat} {p buf:AV} {rest:List AV} (h:H.get b=some (OR (p::buf::rest) T)) (hp:p=.nilp\/p=.ptr b 0) (hl:liesB Tryd.prog 78 T (rest.length+2) 0=true) :
 yg M js [.ptr b 0] H fun v H'=>H'.get b=some (OR (.ptr b 0::buf::rest) T)/\Fr (On b) H H'/\H'.next=H.next:=by
 refine qht ?_
 rcases hp with rfl|rfl
 ·simp (maxSteps:=4000000) (disch:=first|(simp only [z4,jy];done) | (simp only [z4,jy];omega) | omega) only [↓qe,qq,q2p,qg,qi,jr,zp,z5,zf,qab,wz,Nat.reduceAdd,Nat.reduceSub,Nat.reduceLeDiff,Int.reduceLT,Int.reduceLE,Int.reduceEq,reduceIte,Nat.reduceEqDiff,qd2,h,eq_np,cast_B h hl,noEsc,qg,Nat.le_add_left]
  exact (Fr.refl H).set (W:=On b) (.inl rfl) _
 ·simp (maxSteps:=4000000) (disch:=first|(simp only [z4,jy];done) | (simp only [z4,jy];omega) | omega) only [↓qe,qq,q2p,qg,qi,jr,zp,z5,zf,qab,wz,Nat.reduceAdd,Nat.reduceSub,Nat.reduceLeDiff,Int.reduceLT,Int.reduceLE,Int.reduceEq,reduceIte,Nat.reduceEqDiff,qd2,h,eq_pn,ne_pp]
  exact Fr.refl _
structure BE (q:Bool) (T:Nat) (H0 H:AHeap) (b:Nat) (xs:List UInt8) (rest:List AV):Prop where
 row:∃ p buf,H.get b=some (OR (p::buf::rest) T)/\(p=.nilp\/p=.ptr b 0)/\BufZ H0 H buf xs /\ ¬ OnS buf b/\(xs=[]->q=false->buf=.nils)
 lo:H0.next<=b
 hi:b<H.next
 ty:liesB Tryd.prog 78 T (rest.length+2) 0=true
def BOn (H:AHeap) (b:Nat) (x:Nat):Prop:=x=b \/ ∃ p buf rest T,H.get b=some (OR (p::buf::rest) T)/\OnS buf x
def BK (b:Nat) (H H':AHeap):Prop:=H.next<=H'.next /\ ∀ c,c<H.next -> ¬ BOn H b c->H'.get c=H.get c /\ ¬ BOn H' b c
theorem BK.refl (b:Nat) (H:AHeap):BK b H H:=⟨qf _,fun c _ h=>⟨rfl,h⟩⟩
theorem BK.trans {b:Nat} {H H1 H2:AHeap} (h:BK b H H1) (h':BK b H1 H2):BK b H H2 :=
 ⟨je h.1 h'.1,fun c hc hn=>by
  obtain ⟨q1,q2⟩:=h.2 c hc hn
  obtain ⟨r1,r2⟩:=h'.2 c (qk hc h.1) q2
  exact ⟨r1.trans q1,r2⟩⟩
theorem BOn.iff {T:Nat} {H:AHeap} {b:Nat} {p buf:AV} {rest:List AV} (h:H.get b=some (OR (p::buf::rest) T)) (x:Nat):BOn H b x ↔ x=b\/OnS buf x:=by
 constructor
 ·rintro (q|⟨p',buf',rest',T',q1,q2⟩)
  ·exact .inl q
  ·rw [h] at q1;injection q1 with q1;injection q1 with q1 _;injection q1 with _ q1;injection q1 with q1 _;subst q1;exact .inr q2
 ·rintro (q|q)
  ·exact .inl q
  ·exact .inr ⟨p,buf,rest,T,h,q⟩
theorem BK.of {T T':Nat} {H H':AHeap} {b:Nat} {p buf p' buf':AV} {rest rest':List AV} (h:H.get b=some (OR (p::buf::rest) T)) (h':H'.get b=some (OR (p'::buf'::rest') T')) (hn:H.next<=H'.next)
 (hk:∀ c,c<H.next->c ≠ b -> ¬ OnS buf c->H'.get c=H.get c) (ho:∀ c,OnS buf' c->OnS buf c\/H.next<=c):BK b H H' :=
 ⟨hn,fun c hc hb=>by
  rw [BOn.iff h] at hb
  rw [BOn.iff h']
  exact ⟨hk c hc (fun q=>hb (.inl q)) fun q=>hb (.inr q),fun q=>q.elim (fun q=>hb (.inl q)) fun q=>(ho c q).elim (fun r=>hb (.inr r)) fun r=>by omega⟩⟩
theorem BK.fr {b:Nat} {H H':AHeap} (f:Fr Em H H') (hb:b<H.next):BK b H H' :=
 ⟨f.next,fun c hc hn=>⟨f.keep c hc id,fun q=>hn (q.imp id fun ⟨p,buf,rest,T,h1,h2⟩=>⟨p,buf,rest,T,by rw [<-f.keep b hb id];exact h1,h2⟩)⟩⟩
section
variable {q:Bool} {T:Nat} {H0 H H':AHeap} {b:Nat} {xs:List UInt8} {rest:List AV}
theorem BE.em (h:BE q T H0 H b xs rest) (f:Fr Em H H'):BE q T H0 H' b xs rest:=by
 obtain ⟨⟨p,buf,h1,h2,h3,h4,h5⟩,lo,hi,ty⟩:=h
 exact ⟨⟨p,buf,by rw [f.keep b hi id,h1],h2,h3.em f,h4,h5⟩,lo,qk hi f.next,ty⟩
theorem BE.fr (h:BE q T H0 H b xs rest):Fr Em H0 H:=by obtain ⟨⟨p,buf,h1,h2,h3,h4,h5⟩,lo,hi,ty⟩:=h;exact h3.fr
theorem BE.off (h:BE q T H0 H b xs rest) {c:Nat} (hc:H.next<=c):¬ BOn H b c:=by
 obtain ⟨⟨p,buf,h1,h2,h3,h4,h5⟩,lo,hi,ty⟩:=h
 rw [BOn.iff h1]
 rintro (r|r)
 ·omega
 ·have:=(h3.on c r).2;omega
theorem BE.put (h:BE q T H0 H b xs rest) {p buf:AV} {rest':List AV} (hg:H.get b=some (OR (p::buf::rest) T)) (hl:rest'.length=rest.length):BE q T H0 (H.set b (OR (p::buf::rest') T)) b xs rest'/\BK b H (H.set b (OR (p::buf::rest') T)):=by
 obtain ⟨⟨p',buf',h1,h2,h3,h4,h5⟩,lo,hi,ty⟩:=h
 rw [hg] at h1;injection h1 with h1;injection h1 with h1 _;injection h1 with e1 h1;injection h1 with e2 _
 subst e1;subst e2
 refine ⟨⟨⟨p,buf,jl ..,h2,h3.setOff lo h4 _,h4,h5⟩,lo,hi,by rw [hl];exact ty⟩,BK.of hg (jl ..) (qf _) (fun c _ hc _=>by rw [qhd (fun q=>hc q.symm)]) fun c q=>.inl q⟩
end
theorem qlw {q:Bool} {T:Nat} {H0 H:AHeap} {b:Nat} {xs s:List UInt8} {rest:List AV} (h:BE q T H0 H b xs rest) (hl:xs.length+s.length<=140737488355328) :
 yg M z0 [.ptr b 0,.str s] H fun v H'=>BE q T H0 H' b (xs++s) rest/\BK b H H':=by
 obtain ⟨⟨p,buf,h1,h2,h3,h4,h5⟩,lo,hi,ty⟩:=h
 refine qgn ?_
 simp only [↓qe,qq,reduceIte,Nat.reduceEqDiff,qbh]
 refine C3.q (qlk (M:=M) h1 h2 ty) fun v H1 ⟨g1,f1,n1⟩=>?_
 have h3':BufZ H0 H1 buf xs:=h3.frW f1 (h3.fr.trans f1 fun x (r:x=b)=>.inr (by omega)) fun x hx (r:x=b)=>h4 (by rw [<-r];exact hx)
 simp (maxSteps:=4000000) (disch:=first|(simp only [z4,jy];done) | (simp only [z4,jy];omega) | omega) only [↓qe,qq,q2p,qg,qi,jr,zp,z5,zf,qab,wz,Nat.reduceAdd,Nat.reduceSub,Nat.reduceLeDiff,Int.reduceLT,Int.reduceLE,Int.reduceEq,reduceIte,Nat.reduceEqDiff,qbh,g1]
 refine h3'.app hl fun v' H2 hv' hf hfr hsv=>?_
 have g2:H2.get b=some (OR (.ptr b 0::buf::rest) T):=by rw [hf.keep b (qk hi f1.next) h4,g1]
 have hone:oneCell v'=true:=hv'.one
 have hn:¬ OnS v' b:=fun k=>(hfr b k).elim h4 fun r=>by have:=f1.next;omega
 have hcl:AV.cells v'=[v']:=by cases v'<;>first|rfl|cases hone
 simp (maxSteps:=4000000) (disch:=first|(simp only [z4,jy];done) | (simp only [z4,jy];omega) | omega) only [↓qe,qq,q2p,qg,qi,jr,zp,z5,zf,qab,wz,Nat.reduceAdd,Nat.reduceSub,Nat.reduceLeDiff,Int.reduceLT,Int.reduceLE,Int.reduceEq,reduceIte,Nat.reduceEqDiff,qbh,g2,hcl,hone,qg,Nat.le_add_left]
 have hv2:=hv'.setOff (b:=b) lo hn (OR (.ptr b 0::v'::rest) T)
 refine ⟨⟨⟨_,_,jl ..,.inr rfl,hv2,hn,fun k1 k2=>?_⟩,lo,by rw [qk5];have:=f1.next;have:=hf.next;omega,ty⟩,BK.of h1 (jl ..) (by rw [qk5];exact je f1.next hf.next) (fun c hc hcb hco=>?_) fun c q=>(hfr c q).imp id fun r=>by omega⟩
 ·obtain ⟨k3,k4⟩:=List.append_eq_nil_iff.1 k1
  rw [hsv k4];exact h5 k3 k2
 rw [qhd (fun q=>hcb q.symm),hf.keep c (qk hc f1.next) hco,f1.keep c hc hcb]
theorem makeNZ {n:Nat} (h:n<=140737488355328):Op.makeNoZero qbd [.int .i64 (n:Int)]=some (.grown 0 1 [] qbd (0,0),Op.gsliceTo 0 n):=by
 have e1:leI 0 (n:Int)=true:=by rw [qh8];simp
 have e2:leI (n:Int) 140737488355328=true:=by rw [qh8];simp;omega
 simp only [Op.makeNoZero,e1,e2,jt,qm,we]
theorem tyB:liesB Tryd.prog 78 qco 2 0=true:=by kernel_rfl
abbrev BS (H0 H:AHeap) (b:Nat) (xs:List UInt8):Prop:=BE true qco H0 H b xs []
theorem q2t {H0 H:AHeap} {b n:Nat} (h:H.get b=some (OR [.nilp,.nils] qco)) (lo:H0.next<=b) (hi:b<H.next) (hf0:Fr Em H0 H) (hn:n<=140737488355328) :
 yg M vm [.ptr b 0,.int .i64 (n:Int)] H fun v H'=>BS H0 H' b []:=by
 refine qjx ?_
 simp only [↓qe,qq,reduceIte,Nat.reduceEqDiff,qb4]
 refine C3.q (qlk (M:=M) h (.inl rfl) tyB) fun v H1 ⟨g1,f1,n1⟩=>?_
 have ef1:Fr Em H0 H1:=hf0.trans f1 fun x (q:x=b)=>.inr (by omega)
 have e0:¬ (n:Int)<0:=by omega
 have c0:Op.cap [.nils]=some (.int .i64 0):=rfl
 have l0:Op.lenSl [.nils]=some (.int .i64 0):=rfl
 have w0:wrapI .i64 (0-0)=0:=rfl
 have hi1:b<H1.next:=qk hi f1.next
 by_cases hz:(0:Int)<(n:Int)
 ·simp (maxSteps:=4000000) (disch:=first|(simp only [z4,jy];done) | (simp only [z4,jy];omega) | omega) only [↓qe,qq,q2p,qg,qi,jr,zp,z5,zf,qab,wz,Nat.reduceAdd,Nat.reduceSub,Nat.reduceLeDiff,Int.reduceLT,Int.reduceLE,Int.reduceEq,reduceIte,Nat.reduceEqDiff,qb4,e0,g1,c0,l0,w0,hz]
  refine C3.q (R:=fun v H'=>BS H0 H' b []) (qjz ?_) fun v H' hb=>?_
  ·have w1:wrapI .i64 (2*0)=0:=rfl
   have w2:wrapI .i64 (0+(n:Int))=(n:Int):=by rw [xz (by omega) (by omega)];omega
   have s0:Op.sliceSl 1 [none,some 0,none] [.gslice H1.next 0 0 1 0 n,.int .i64 0]=some (.gslice H1.next 0 0 1 0 0):=rfl
   have k0:Op.gsliceTo 0 n H1.next=.gslice H1.next 0 0 1 0 n:=rfl
   have cp:∀ H,Op.copy 1 [.gslice H1.next 0 0 1 0 0,.nils] H=some (.int .i64 0,H):=fun H=>rfl
   have hcl:AV.cells (.gslice H1.next 0 0 1 0 0)=[.gslice H1.next 0 0 1 0 0]:=rfl
   have hone:oneCell (.gslice H1.next 0 0 1 0 0)=true:=rfl
   simp (maxSteps:=4000000) (disch:=first|(simp only [z4,jy];done) | (simp only [z4,jy];omega) | omega) only [↓qe,qq,q2p,qg,qi,jr,zp,z5,zf,qab,wz,Nat.reduceAdd,Nat.reduceSub,Nat.reduceLeDiff,Int.reduceLT,Int.reduceLE,Int.reduceEq,reduceIte,Nat.reduceEqDiff,qj0,g1,c0,l0,w1,w2,makeNZ hn,k0,s0,cp,hcl,hone]
   have hnew:BufZ H0 (H1.alloc (.grown 0 1 [] qbd (0,0))) (.gslice H1.next 0 0 1 0 0) [] :=
    ⟨.inr ⟨H1.next,(0,0),rfl,by rw [x4];omega,ef1.next,xk ..,by simp,rfl⟩,ef1.alloc _⟩
   have hnb:¬ OnS (.gslice H1.next 0 0 1 0 0) b:=fun q=>by have:b=H1.next:=q.2;omega
   have hv2:=hnew.setOff (b:=b) lo hnb (OR [.ptr b 0,.gslice H1.next 0 0 1 0 0] qco)
   exact ⟨⟨_,_,jl ..,.inr rfl,hv2,hnb,fun _ k=>nomatch k⟩,lo,by rw [qk5,x4];omega,tyB⟩
  ·simp only [↓qe,qq,reduceIte,Nat.reduceEqDiff,qb4]
   exact hb
 ·simp (maxSteps:=4000000) (disch:=first|(simp only [z4,jy];done) | (simp only [z4,jy];omega) | omega) only [↓qe,qq,q2p,qg,qi,jr,zp,z5,zf,qab,wz,Nat.reduceAdd,Nat.reduceSub,Nat.reduceLeDiff,Int.reduceLT,Int.reduceLE,Int.reduceEq,reduceIte,Nat.reduceEqDiff,qb4,e0,g1,c0,l0,w0,hz]
  exact ⟨⟨_,_,g1,.inr rfl,BufZ.nil ef1,fun q=>q.1 rfl,fun _ _=>rfl⟩,lo,hi1,tyB⟩
theorem Len_spec {q:Bool} {T:Nat} {H0 H:AHeap} {b:Nat} {xs:List UInt8} {rest:List AV} (h:BE q T H0 H b xs rest) :
 yg M kx [.ptr b 0] H fun v H'=>v=.int .i64 (xs.length:Nat)/\H'=H:=by
 obtain ⟨⟨p,buf,h1,h2,h3,h4,h5⟩,lo,hi,ty⟩:=h
 refine qkp ?_
 simp (maxSteps:=4000000) (disch:=first|(simp only [z4,jy];done) | (simp only [z4,jy];omega) | omega) only [↓qe,qq,q2p,qg,qi,jr,zp,z5,zf,qab,wz,Nat.reduceAdd,Nat.reduceSub,Nat.reduceLeDiff,Int.reduceLT,Int.reduceLE,Int.reduceEq,reduceIte,Nat.reduceEqDiff,qkq,h1,h3.len]
theorem q27 (xs:List UInt8):bytesOf (xs.flatMap encB)=some xs:=by rw [qms];exact qlx xs
theorem qlv {q:Bool} {T:Nat} {H0 H:AHeap} {b:Nat} {xs:List UInt8} {rest:List AV} (h:BE q T H0 H b xs rest) (hl:xs.length<=140737488355328) (hq:xs ≠ []\/q=false) :
 yg M ju [.ptr b 0] H fun v H'=>v=.str xs/\BE q T H0 H' b xs rest/\BK b H H':=by
 have hbe:=h
 obtain ⟨⟨p,buf,h1,h2,h3,h4,h5⟩,lo,hi,ty⟩:=h
 refine qi2 ?_
 by_cases hx:xs=[]
 ·have hb:buf=.nils:=h5 hx (hq.resolve_left fun k=>k hx)
  subst hb;subst hx
  have e1:Op.sliceData [.nils]=some .nilp:=rfl
  have e2:Op.lenSl [.nils]=some (.int .i64 0):=rfl
  have e3:Op.strOfPtr qbd [.nilp,.int .i64 0] H=some (.str [],H):=rfl
  simp (maxSteps:=4000000) (disch:=first|(simp only [z4,jy];done) | (simp only [z4,jy];omega) | omega) only [↓qe,qq,q2p,qg,qi,jr,zp,z5,zf,qab,wz,Nat.reduceAdd,Nat.reduceSub,Nat.reduceLeDiff,Int.reduceLT,Int.reduceLE,Int.reduceEq,reduceIte,Nat.reduceEqDiff,qe4,h1,e1,e2,e3]
  exact ⟨hbe,BK.refl _ _⟩
 have hlen:0<xs.length:=List.length_pos_iff.2 hx
 rcases h3.own with ⟨_,k⟩|⟨d,fz,rfl,q1,q2,q3,q4,q5⟩
 ·exact (hx k).elim
 have e1:Op.sliceData [.gslice d 0 xs.length 1 0 xs.length]=some (.ptr d 0):=by
  show cond (Nat.blt 0 xs.length) (some (AV.ptr d (0*1))) none=_
  rw [qe8 hlen];rfl
 have e2:Op.lenSl [.gslice d 0 xs.length 1 0 xs.length]=some (.int .i64 (xs.length:Nat)):=rfl
 have k4:takeAt (xs.flatMap encB) 0 xs.length=some (xs.flatMap encB):=by
  rw [vy,qms,qu (by simp),z5,xn (by simp)]
 have k5:Op.fzJoin fz 0 xs.length=(0,xs.length):=by
  show cond (Nat.beq fz.1 fz.2) _ _=_
  cases hb:Nat.beq fz.1 fz.2 with
  | true=>rw [qm];simp
  | false=>rw [qy,q5];simp;omega
 have e3:Op.strOfPtr qbd [.ptr d 0,.int .i64 (xs.length:Nat)] H=some (.str xs,H.set d (.grown xs.length 1 (xs.flatMap encB) qbd (0,xs.length))):=by
  have k1:eqI (xs.length:Int) 0=false:=by rw [qip];simp;omega
  have k2:(ltI (xs.length:Int) 0 || ltI 140737488355328 (xs.length:Int))=false:=by rw [qh9,qh9];simp;omega
  have k3:∀ n,Nat.beq n n=true:=fun n=>by simp
  simp only [Op.strOfPtr,k1,k2,qy,q3,k3,qay (show fz.1<=fz.2 by omega),jt,qm,we,k4,qd,q27,k5]
 simp (maxSteps:=4000000) (disch:=first|(simp only [z4,jy];done) | (simp only [z4,jy];omega) | omega) only [↓qe,qq,q2p,qg,qi,jr,zp,z5,zf,qab,wz,Nat.reduceAdd,Nat.reduceSub,Nat.reduceLeDiff,Int.reduceLT,Int.reduceLE,Int.reduceEq,reduceIte,Nat.reduceEqDiff,qe4,h1,e1,e2,e3]
 have hdb:d ≠ b:=fun k=>h4 ⟨by simp,k.symm⟩
 have g:(H.set d (.grown xs.length 1 (xs.flatMap encB) qbd (0,xs.length))).get b=some (OR (p::.gslice d 0 xs.length 1 0 xs.length::rest) T):=by rw [qhd hdb,h1]
 exact ⟨⟨⟨p,_,g,h2,⟨.inr ⟨d,(0,xs.length),rfl,q1,q2,jl ..,qf _,rfl⟩,h3.fr.set (.inr q2) _⟩,h4,h5⟩,lo,hi,ty⟩,
  BK.of h1 g (qf _) (fun c _ _ hc=>qhd (fun k=>hc ⟨by simp,k.symm⟩) _) fun c k=>.inl k⟩
end Go.Am
namespace Go.Am
open Go.Proofs Lang
variable {M:Mac} [MK M]
theorem qmk:qfr=List.replicate 128 32:=by decide +kernel
theorem qr3 {H:AHeap}:yg M kg [.str qfr,.str [32,32]] H fun v H'=>v=.bool true/\H'=H:=by
 refine qme ?_
 simp only [↓qe,qq,reduceIte,Nat.reduceEqDiff,qhw]
 refine C3.q (R:=fun v H'=>v=.bool true/\H'=H) (qfl ?_) fun v H1 ⟨hv,hh⟩=>?_
 ·have l1:Op.lenStr [.str qfr]=some (.int .i64 128):=by rw [qmk];rfl
  have l2:Op.lenStr [.str [32,32]]=some (.int .i64 2):=rfl
  have s1:Op.sliceStr [none,some 0] [.str qfr,.int .i64 2]=some (.str [32,32]):=by rw [qmk];rfl
  simp only [↓qe,qq,reduceIte,Nat.reduceEqDiff,qfm,l1,l2,s1,Int.reduceLE]
 ·subst hv;subst hh
  simp only [↓qe,qq,reduceIte,Nat.reduceEqDiff,qhw]
theorem min3 {a b c:Nat} (h:a<=c\/b<=c):Op.minmax false [.int .i64 (a:Int),.int .i64 (b:Int),.int .i64 (c:Int)]=some (.int .i64 ((min a b:Nat):Int)):=by
 simp only [Op.minmax,Op.minmaxGo,qd,qy,qh9]
 have e:(cond (decide ((b:Int)<(a:Int))) (b:Int) (a:Int))=((min a b:Nat):Int):=by
  by_cases q:b<a
  ·rw [zn (by omega),qm];omega
  ·rw [jg (by omega),qy];omega
 rw [e,jg (by omega),qy]
theorem qqe {H:AHeap} {d:Nat} (hd:d<=4000):yg M qai [.str [32,32],.int .i64 (d:Int)] H fun v H'=>v=.str (ind d)/\Fr Em H H':=by
 refine qpq ?_
 obtain ⟨w0,w2,w19,w25,w27,w33,w35,w43,w99,w65,-,w101,w79,-,w113,-,w91,w117,w119,w132,w122,w128⟩:=qpr M ⟨none,qai⟩
 by_cases d0:d=0
 ·subst d0
  have:=zj (show ((0:Nat):Int)=0 from rfl)
  simp only [↓qe,qq,reduceIte,Nat.reduceEqDiff,w0,w2,this]
  exact ⟨rfl,Fr.refl _⟩
 have c0:¬ (d:Int)=0:=by omega
 by_cases d1:d=1
 ·subst d1
  have h1:=zj (show ((1:Nat):Int)=1 from rfl)
  simp only [↓qe,qq,reduceIte,Nat.reduceEqDiff,w0,w2,c0,h1]
  exact ⟨rfl,Fr.refl _⟩
 have c1:¬ (d:Int)=1:=by omega
 have c2:¬ (d:Int)<0:=by omega
 have l2:Op.lenStr [.str [32,32]]=some (.int .i64 2):=rfl
 have wl:wrapI .u64 2=2:=rfl
 have wd:wrapI .u64 (d:Int)=(d:Int):=qc7 (by omega) (by omega)
 simp only [↓qe,qq,reduceIte,Nat.reduceEqDiff,w0,w2,w19,w25,c0,c1,c2,l2,wl,wd]
 refine C3.q (qzt (M:=M) (x:=2) (.inr rfl) (y:=d) (by omega)) fun v H1 ⟨hv,hh⟩=>?_
 obtain ⟨n,hn⟩:∃ n,n=2*d:=⟨_,rfl⟩
 rw [<-hn] at hv
 subst hv;subst hh
 have e1:¬ (9223372036854775807:Int)<(n:Int):=by omega
 have e2:¬ (0:Int)<0:=by decide
 have wi:wrapI .i64 (n:Int)=(n:Int):=xz (by omega) (by omega)
 have e3:¬ (2:Int)=0:=by decide
 have ix:Op.indexStr [.str [32,32],.int .i64 0]=some (.int .u8 32):=rfl
 have e4:=zj (show (32:Int)=32 from rfl)
 have hind:ind d=List.replicate n 32:=by rw [hn];rfl
 by_cases hs:(n:Int)<=128
 ·simp only [↓qe,qq,reduceIte,Nat.reduceEqDiff,w27,w33,w35,w43,w65,jo,e1,e2,wi,l2,e3,ix,hs]
  refine C3.q qr3 fun v H2 ⟨hv,hh⟩=>?_
  subst hv;subst hh
  have s1:Op.sliceStr [none,some 0] [.str qfr,.int .i64 (n:Int)]=some (.str (ind d)):=by
   rw [qri (by rw [qmk];simp;omega),qmk,List.take_replicate,qbt (by omega),hind]
  simp only [↓qe,qq,reduceIte,Nat.reduceEqDiff,s1]
  exact Fr.refl _
 ·have hs2:¬ (n:Int)<=64:=by omega
  have hs3:¬ (8192:Int)<(n:Int):=by omega
  simp only [↓qe,qq,reduceIte,Nat.reduceEqDiff,w27,w33,w35,w43,w65,w79,w91,w99,w101,w113,jo,e1,e2,wi,l2,e3,ix,hs,hs2,hs3]
  refine C3.q (q2t (M:=M) (H0:=H1) (xk ..) (qf _) (by rw [x4];omega) ((Fr.refl H1).alloc _) (by omega)) fun v H2 hb2=>?_
  simp only [↓qe,qq,reduceIte,Nat.reduceEqDiff,w117]
  refine C3.q (qlw (M:=M) (s:=[32,32]) hb2 (by simp)) fun v H3 ⟨hb3,_⟩=>?_
  simp only [↓qe,qq,reduceIte,Nat.reduceEqDiff,w119]
  refine LOOP3.intro (fun k E' H'=>∃ L,E'=[(8,.int .i64 (n:Nat)),(7,.int .i64 (n:Nat)),(9,.ptr H1.next 0)]/\k=n-L/\2<=L/\L<=n/\BS H1 H' H1.next (List.replicate L 32)) ?_ ?_
  ·exact ⟨_,_,⟨2,rfl,rfl,by omega,by omega,hb3⟩,by simp only [↓qe,qq,reduceIte,Nat.reduceEqDiff]⟩
  rintro k E' Hc ⟨L,rfl,rfl,hL,hLn,hb⟩
  simp only [↓qe,qq,reduceIte,Nat.reduceEqDiff,w122]
  have hlen:=Len_spec (M:=M) hb
  rw [List.length_replicate] at hlen
  refine C3.q hlen fun v H4 ⟨hv,hh⟩=>?_
  subst hv;subst hh
  rcases zy L n with hlt|hge
  ·have f1:(L:Int)<(n:Nat):=by omega
   simp only [↓qe,qq,reduceIte,Nat.reduceEqDiff,f1,w128]
   refine C3.q hlen fun v H5 ⟨hv,hh⟩=>?_
   subst hv;subst hh
   have ws:wrapI .i64 ((n:Int)-(L:Int))=((n-L:Nat):Int):=by rw [xz (by omega) (by omega)];omega
   simp only [↓qe,qq,reduceIte,Nat.reduceEqDiff,ws]
   refine C3.q hlen fun v H6 ⟨hv,hh⟩=>?_
   subst hv;subst hh
   simp only [↓qe,qq,reduceIte,Nat.reduceEqDiff,min3 (show n-L<=n\/L<=n by omega)]
   refine C3.q (qlv (M:=M) hb (by simp;omega) (.inl (by simp;omega))) fun v H7 ⟨hv,hb7,_⟩=>?_
   subst hv
   have s1:Op.sliceStr [none,some 0] [.str (List.replicate L 32),.int .i64 ((min (n-L) L:Nat):Int)]=some (.str (List.replicate (min (n-L) L) 32)):=by
    rw [qri (by simp;omega),List.take_replicate,qbt (by omega)]
   simp only [↓qe,qq,reduceIte,Nat.reduceEqDiff,s1]
   refine C3.q (qlw (M:=M) hb7 (by simp;omega)) fun v H8 ⟨hb8,_⟩=>?_
   rw [List.replicate_append_replicate] at hb8
   simp only [↓qe,qq,reduceIte,Nat.reduceEqDiff]
   exact ⟨_,_,⟨L+min (n-L) L,rfl,rfl,by omega,by omega,hb8⟩,by simp only [↓qe,qq,reduceIte,Nat.reduceEqDiff],by omega⟩
  ·have hLe:L=n:=by omega
   subst hLe
   have f1:¬ (L:Int)<(L:Nat):=by omega
   simp only [↓qe,qq,reduceIte,Nat.reduceEqDiff,f1,w132]
   refine C3.q (qlv (M:=M) hb (by simp;omega) (.inl (by simp;omega))) fun v H7 ⟨hv,hb7,_⟩=>?_
   subst hv
   simp only [↓qe,qq,reduceIte,Nat.reduceEqDiff]
   exact ⟨by rw [hind],hb7.fr⟩
end Go.Am
