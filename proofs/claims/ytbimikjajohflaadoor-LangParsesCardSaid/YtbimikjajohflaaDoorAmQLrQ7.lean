/- LrQ7: PkA. -/
import Derived.Test.YtbimikjajohflaaDoorAmQLrQ6
import Derived.Test.YtbimikjajohflaaDoorAmQLrQ4
import Derived.Test.YtbimikjajohflaaDoorAmQLrQp
import Derived.Test.YtbimikjajohflaaDoorAmQLrQ0
set_option linter.unusedVariables false
set_option linter.unusedSimpArgs false
set_option linter.unusedSectionVars false
set_option maxRecDepth 100000
namespace Go.Am
open Lang Go.Proofs
variable {M:Mac} [MK M]
theorem Lang.Ex.n_lt:∀ (x:Ex) (b:Nat),x.ok->x.small -> ∀ y ∈ x.enc b,0<=y.n/\y.n<18446744073709551616
 | .num n,b,ho,hs,y,hy=>by
  have hs:n<18446744073709551616:=hs
  simp only [Ex.enc,xp] at hy;subst hy;exact ⟨by show (0:Int)<=(n:Int);omega,by show (n:Int)<_;omega⟩
 | .var v,b,ho,hs,y,hy=>by
  have ho:v<=7:=ho
  simp only [Ex.enc,xp] at hy;subst hy;exact ⟨by show (0:Int)<=(v:Int);omega,by show (v:Int)<_;omega⟩
 | .load a,b,ho,hs,y,hy=>by
  simp only [Ex.enc,xm,xp] at hy
  rcases hy with h|rfl
  ·exact a.n_lt b ho hs y h
  ·exact ⟨by show (0:Int)<=0;decide,by show (0:Int)<_;decide⟩
 | .bin o x z,b,ho,hs,y,hy=>by
  simp only [Ex.enc,xm,xp] at hy
  rcases hy with h|h|rfl
  ·exact x.n_lt b ho.2.2.1 hs.1 y h
  ·exact z.n_lt _ ho.2.2.2 hs.2 y h
  ·exact ⟨by show (0:Int)<=0;decide,by show (0:Int)<_;decide⟩
theorem Lang.Cn.n_lt (c:Cn) (b:Nat) (ho:c.ok) (hs:c.small):∀ y ∈ c.enc b,0<=y.n/\y.n<18446744073709551616:=fun y hy=>by
 simp only [Cn.enc,xm,xp] at hy
 rcases hy with h|h|rfl
 ·exact c.a.n_lt b ho.2.2.1 hs.1 y h
 ·exact c.b.n_lt _ ho.2.2.2 hs.2 y h
 ·exact ⟨by show (0:Int)<=0;decide,by show (0:Int)<_;decide⟩
mutual
theorem Lang.St.n_lt:∀ (x:Lang.St) (b:Nat),x.ok->x.small -> ∀ y ∈ x.enc b,0<=y.n/\y.n<18446744073709551616
 | .set v a,b,ho,hs,y,hy=>by
  have hv:v<=7:=ho.1
  simp only [Lang.St.enc,xm,xp] at hy
  rcases hy with h|rfl
  ·exact a.n_lt b ho.2 hs y h
  ·exact ⟨by show (0:Int)<=(v:Int);omega,by show (v:Int)<_;omega⟩
 | .store x z,b,ho,hs,y,hy=>by
  simp only [Lang.St.enc,xm,xp] at hy
  rcases hy with h|h|rfl
  ·exact x.n_lt b ho.1 hs.1 y h
  ·exact z.n_lt _ ho.2 hs.2 y h
  ·exact ⟨by show (0:Int)<=0;decide,by show (0:Int)<_;decide⟩
 | .ite c l,b,ho,hs,y,hy=>by
  simp only [Lang.St.enc,xm,xp] at hy
  rcases hy with h|h|rfl|rfl
  ·exact c.n_lt b ho.1 hs.1 y h
  ·exact l.n_lt _ ho.2 hs.2 y h
  all_goals exact ⟨by show (0:Int)<=0;decide,by show (0:Int)<_;decide⟩
 | .ites c l m,b,ho,hs,y,hy=>by
  simp only [Lang.St.enc,xm,xp] at hy
  rcases hy with h|h|rfl|h|rfl|rfl
  ·exact c.n_lt b ho.1 hs.1 y h
  ·exact l.n_lt _ ho.2.1 hs.2.1 y h
  ·exact ⟨by show (0:Int)<=0;decide,by show (0:Int)<_;decide⟩
  ·exact m.n_lt _ ho.2.2 hs.2.2 y h
  all_goals exact ⟨by show (0:Int)<=0;decide,by show (0:Int)<_;decide⟩
 | .loop c l,b,ho,hs,y,hy=>by
  simp only [Lang.St.enc,xm,xp] at hy
  rcases hy with h|h|rfl|rfl
  ·exact c.n_lt b ho.1 hs.1 y h
  ·exact l.n_lt _ ho.2 hs.2 y h
  all_goals exact ⟨by show (0:Int)<=0;decide,by show (0:Int)<_;decide⟩
 | .atom l,b,ho,hs,y,hy=>by
  simp only [Lang.St.enc,xm,xp] at hy
  rcases hy with h|rfl|rfl
  ·exact l.n_lt _ ho.1 hs y h
  all_goals exact ⟨by show (0:Int)<=0;decide,by show (0:Int)<_;decide⟩
 | .halt,b,ho,hs,y,hy=>by
  simp only [Lang.St.enc,xp] at hy
  subst hy;exact ⟨by show (0:Int)<=0;decide,by show (0:Int)<_;decide⟩
theorem Lang.Ls.n_lt:∀ (x:Ls) (b:Nat),x.ok->x.small -> ∀ y ∈ x.enc b,0<=y.n/\y.n<18446744073709551616
 | .nil,b,ho,hs,y,hy=>by cases hy
 | .cons s l,b,ho,hs,y,hy=>by
  simp only [Ls.enc,xm] at hy
  rcases hy with h|h
  ·exact s.n_lt b ho.1 hs.1 y h
  ·exact l.n_lt _ ho.2 hs.2 y h
end
theorem x4 (a b c d:AV):Op.extract 0 [.tuple [a,b,c,d]]=some a/\Op.extract 1 [.tuple [a,b,c,d]]=some b/\Op.extract 2 [.tuple [a,b,c,d]]=some c/\Op.extract 3 [.tuple [a,b,c,d]]=some d:=⟨rfl,rfl,rfl,rfl⟩
end Go.Am
