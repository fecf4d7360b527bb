/- LqMb: CmpM CmpN CmpO CmpR. -/
import Derived.Test.YtbimikjajohflaaGreatDoorAmMLqM0
import Derived.Test.YtbimikjajohflaaGreatDoorAmMLqMa
set_option linter.unusedVariables false
set_option linter.unusedSimpArgs false
namespace Go.Am
namespace Lang
def nF (f:cF) (r q:Nat):List bB:=[⟨2,6,0,0,f.many⟩,⟨16,(r:Nat),6,0,((q+3:Nat):Int)⟩,⟨0,0,0,0,0⟩]
def Ex.cl:Ex->Nat
 | .num _=>1
 | .var _=>1
 | .load a=>a.cl+4
 | .bin _ a b=>a.cl+b.cl+1
def Ex.de (f:cF):Ex->Nat->Nat->List bB
 | .num n,r,p=>[⟨2,(r:Nat),0,0,ae .i64 (n:Nat)⟩]
 | .var v,r,p=>[⟨11,(r:Nat),7,0,f.vars+(v:Nat)⟩]
 | .load a,r,p=>a.de f r p++(nF f r (p+a.cl) ++ [⟨11,(r:Nat),(r:Nat),0,f.base⟩])
 | .bin o a b,r,p=>a.de f r p++(b.de f (r+1) (p+a.cl) ++ [⟨(o:Nat),(r:Nat),(r:Nat),((r+1:Nat):Int),0⟩])
def Ex.fits:Ex->Nat->Prop
 | .num _,r=>r<6
 | .var _,r=>r<6
 | .load a,r=>r<6/\a.fits r
 | .bin _ a b,r=>r<6/\a.fits r/\b.fits (r+1)
theorem Ex.Aa:∀ {x:Ex} {r:Nat},x.fits r->r<6
 | .num _,r,h=>h
 | .var _,r,h=>h
 | .load a,r,h=>h.1
 | .bin _ a b,r,h=>h.1
theorem Ex.aA (f:cF):∀ (x:Ex) (r p:Nat),(x.de f r p).length=x.cl
 | .num n,r,p=>rfl
 | .var v,r,p=>rfl
 | .load a,r,p=>by simp [Ex.de,Ex.cl,nF,a.aA f r p]
 | .bin o a b,r,p=>by simp [Ex.de,Ex.cl,a.aA f r p,b.aA f (r+1) (p+a.cl)];omega
def Cn.cl (c:Cn):Nat:=c.a.cl+c.b.cl+2
def Cn.de (f:cF) (c:Cn) (p t:Nat):List bB:=c.a.de f 0 p++(c.b.de f 1 (p+c.a.cl) ++ [⟨((c.k+3:Nat):Int),0,1,0,((p+c.a.cl+c.b.cl+2:Nat):Int)⟩,⟨13,0,0,0,(t:Nat)⟩])
def Cn.fits (c:Cn):Prop:=c.a.fits 0/\c.b.fits 1
theorem Cn.aA (f:cF) (c:Cn) (p t:Nat):(c.de f p t).length=c.cl:=by simp [Cn.de,Cn.cl,Ex.aA];omega
mutual
def St.cl:St->Nat
 | .set _ a=>a.cl+1
 | .store a b=>a.cl+b.cl+4
 | .ite c l=>c.cl+l.cl
 | .cG c l e=>c.cl+l.cl+1+e.cl
 | .loop c l=>c.cl+l.cl+1
 | .atom l=>l.cl+2
 | .halt=>1
def Ls.cl:Ls->Nat
 | .nil=>0
 | .cons s l=>s.cl+l.cl
end
mutual
def St.de (f:cF):St->Nat->List bB
 | .set v a,p=>a.de f 0 p ++ [⟨12,0,7,0,f.vars+(v:Nat)⟩]
 | .store a b,p=>a.de f 0 p++(b.de f 1 (p+a.cl)++(nF f 0 (p+a.cl+b.cl) ++ [⟨12,1,0,0,f.base⟩]))
 | .ite c l,p=>c.de f p (p+c.cl+l.cl)++l.de f (p+c.cl)
 | .cG c l e,p=>c.de f p (p+c.cl+l.cl+1)++(l.de f (p+c.cl)++(⟨13,0,0,0,((p+c.cl+l.cl+1+e.cl:Nat):Int)⟩::e.de f (p+c.cl+l.cl+1)))
 | .loop c l,p=>c.de f p (p+c.cl+l.cl+1)++(l.de f (p+c.cl) ++ [⟨13,0,0,0,(p:Nat)⟩])
 | .atom l,p=>⟨17,0,0,0,0⟩::(l.de f (p+1) ++ [⟨18,0,0,0,0⟩])
 | .halt,p=>[⟨1,0,0,0,0⟩]
def Ls.de (f:cF):Ls->Nat->List bB
 | .nil,p=>[]
 | .cons s l,p=>s.de f p++l.de f (p+s.cl)
end
mutual
def St.fits:St->Prop
 | .set _ a=>a.fits 0
 | .store a b=>a.fits 0/\b.fits 1
 | .ite c l=>c.fits/\l.fits
 | .cG c l e=>c.fits/\l.fits/\e.fits
 | .loop c l=>c.fits/\l.fits
 | .atom l=>l.fits
 | .halt=>True
def Ls.fits:Ls->Prop
 | .nil=>True
 | .cons s l=>s.fits/\l.fits
end
mutual
theorem St.aA (f:cF):∀ (x:St) (p:Nat),(x.de f p).length=x.cl
 | .set v a,p=>by simp [St.de,St.cl,Ex.aA]
 | .store a b,p=>by simp [St.de,St.cl,Ex.aA,nF];omega
 | .ite c l,p=>by simp [St.de,St.cl,Cn.aA,l.aA f]
 | .cG c l e,p=>by simp [St.de,St.cl,Cn.aA,l.aA f,e.aA f];omega
 | .loop c l,p=>by simp [St.de,St.cl,Cn.aA,l.aA f];omega
 | .atom l,p=>by simp [St.de,St.cl,l.aA f]
 | .halt,p=>rfl
theorem Ls.aA (f:cF):∀ (x:Ls) (p:Nat),(x.de f p).length=x.cl
 | .nil,p=>rfl
 | .cons s l,p=>by simp [Ls.de,Ls.cl,s.aA f,l.aA f]
end
theorem J2 {α:Type} (g:α -> α) (l:List α) (x:α) (r:List α) {i:Nat} (hi:i=l.length):(l++(x::r)).modify i g=l++(g x::r):=by
 subst hi
 induction l with
 | nil=>rfl
 | cons a l ih=>simp [ih]
theorem Ex.bX (f:cF):∀ (x:Ex) (r:Nat) (w:CW),(x.cmp f r w).d=false->w.d=false/\x.fits r/\(x.cmp f r w).l=w.l++x.de f r w.l.length
 | .num n,r,w,h=>by
  simp only [Ex.cmp] at h ⊢
  by_cases q:6<=r
  ·rw [qk q] at h;cases h
  ·rw [qc q] at h ⊢;exact ⟨h,by show r<6;omega,rfl⟩
 | .var v,r,w,h=>by
  simp only [Ex.cmp] at h ⊢
  by_cases q:6<=r
  ·rw [qk q] at h;cases h
  ·rw [qc q] at h ⊢;exact ⟨h,by show r<6;omega,rfl⟩
 | .load a,r,w,h=>by
  simp only [Ex.cmp] at h ⊢
  by_cases q:6<=r
  ·rw [qk q] at h;cases h
  ·rw [qc q] at h ⊢;obtain ⟨h1,h2,h3⟩:=a.bX f r w h;refine ⟨h1,⟨by omega,h2⟩,?_⟩;have hl:(a.cmp f r w).l.length=w.l.length+a.cl:=by rw [h3,qg,Ex.aA]
   show (CW.bounds f r (a.cmp f r w)).l++_=_;have e:(CW.bounds f r (a.cmp f r w)).l=(a.cmp f r w).l++nF f r (w.l.length+a.cl):=by
    show List.modify (((a.cmp f r w).l ++ [⟨2,6,0,0,f.many⟩]) ++ [⟨16,(r:Nat),6,0,0⟩] ++ [⟨0,0,0,0,0⟩]) ((a.cmp f r w).l.length+1) _=_;rw [qt _ [_] [_],List.singleton_append,J2 _ _ _ _ (by simp)];simp [nF,CW.aZ,hl]
    try omega
   rw [e,h3];simp [Ex.de]
 | .bin o a b,r,w,h=>by
  simp only [Ex.cmp] at h ⊢
  by_cases q:6<=r
  ·rw [qk q] at h;cases h
  ·rw [qc q] at h ⊢;obtain ⟨h1,h2,h3⟩:=b.bX f (r+1) _ h;obtain ⟨k1,k2,k3⟩:=a.bX f r w h1;refine ⟨k1,⟨by omega,k2,h2⟩,?_⟩;have hl:(a.cmp f r w).l.length=w.l.length+a.cl:=by rw [k3,qg,Ex.aA]
   show (b.cmp f (r+1) (a.cmp f r w)).l++_=_;rw [h3,hl,k3];simp [Ex.de]
theorem Cn.bX (f:cF) (c:Cn) (w:CW) (h:(c.cmp f w).d=false):w.d=false/\c.fits/\(c.cmp f w).l=w.l++c.de f w.l.length 0:=by
 have h:(c.b.cmp f 1 (c.a.cmp f 0 w)).d=false:=h;obtain ⟨h1,h2,h3⟩:=c.b.bX f 1 _ h;obtain ⟨k1,k2,k3⟩:=c.a.bX f 0 w h1;refine ⟨k1,⟨k2,h2⟩,?_⟩;have hl:(c.a.cmp f 0 w).l.length=w.l.length+c.a.cl:=by rw [k3,qg,Ex.aA]
 have hl2:(c.b.cmp f 1 (c.a.cmp f 0 w)).l.length=w.l.length+c.a.cl+c.b.cl:=by rw [h3,qg,Ex.aA,hl]
 show List.modify ((c.b.cmp f 1 (c.a.cmp f 0 w)).l ++ [⟨((c.k+3:Nat):Int),0,1,0,0⟩] ++ [⟨13,0,0,0,0⟩]) (c.b.cmp f 1 (c.a.cmp f 0 w)).l.length _=_;rw [qt,List.singleton_append,J2 _ _ _ _ rfl,h3,hl,k3];simp [Cn.de,hl2,Ex.aA,CW.aZ];omega
theorem Cn.lU (f:cF) (c:Cn) (p t:Nat) (pre post:List bB) {i:Nat} (hi:i=pre.length+c.cl-1):(pre++c.de f p 0++post).modify i (λ x=>{ x with mA:=((t:Nat):Int) })=pre++c.de f p t++post:=by
 have e:pre++c.de f p 0++post=(pre++(c.a.de f 0 p++(c.b.de f 1 (p+c.a.cl) ++ [⟨((c.k+3:Nat):Int),0,1,0,((p+c.a.cl+c.b.cl+2:Nat):Int)⟩])))++(⟨13,0,0,0,0⟩::post):=by simp [Cn.de]
 rw [e,J2 _ _ _ _ (by simp [Cn.cl,Ex.aA] at hi ⊢;omega)];simp [Cn.de]
mutual
theorem St.bX (f:cF):∀ (x:St) (w:CW),(x.cmp f w).d=false->w.d=false/\x.fits/\(x.cmp f w).l=w.l++x.de f w.l.length
 | .set v a,w,h=>by
  have h:(a.cmp f 0 w).d=false:=h;obtain ⟨h1,h2,h3⟩:=a.bX f 0 w h;refine ⟨h1,h2,?_⟩;show (a.cmp f 0 w).l++_=_;rw [h3];simp [St.de]
 | .store a b,w,h=>by
  have h:(b.cmp f 1 (a.cmp f 0 w)).d=false:=h;obtain ⟨h1,h2,h3⟩:=b.bX f 1 _ h;obtain ⟨k1,k2,k3⟩:=a.bX f 0 w h1;refine ⟨k1,⟨k2,h2⟩,?_⟩;have hl:(a.cmp f 0 w).l.length=w.l.length+a.cl:=by rw [k3,qg,Ex.aA]
  have hl2:(b.cmp f 1 (a.cmp f 0 w)).l.length=w.l.length+a.cl+b.cl:=by rw [h3,qg,Ex.aA,hl]
  show (CW.bounds f 0 (b.cmp f 1 (a.cmp f 0 w))).l++_=_;have e:(CW.bounds f 0 (b.cmp f 1 (a.cmp f 0 w))).l=(b.cmp f 1 (a.cmp f 0 w)).l++nF f 0 (w.l.length+a.cl+b.cl):=by
   show List.modify (((b.cmp f 1 (a.cmp f 0 w)).l ++ [⟨2,6,0,0,f.many⟩]) ++ [⟨16,((0:Nat):Int),6,0,0⟩] ++ [⟨0,0,0,0,0⟩]) ((b.cmp f 1 (a.cmp f 0 w)).l.length+1) _=_;rw [qt _ [_] [_],List.singleton_append,J2 _ _ _ _ (by simp)];simp [nF,CW.aZ,hl2]
   try omega
  rw [e,h3,hl,k3];simp [St.de]
 | .ite c l,w,h=>by
  have h:(l.cmp f (c.cmp f w)).d=false:=h;obtain ⟨h1,h2,h3⟩:=l.bX f _ h;obtain ⟨k1,k2,k3⟩:=c.bX f w h1;refine ⟨k1,⟨k2,h2⟩,?_⟩;have hl:(c.cmp f w).l.length=w.l.length+c.cl:=by rw [k3,qg,Cn.aA]
  have hl2:(l.cmp f (c.cmp f w)).l.length=w.l.length+c.cl+l.cl:=by rw [h3,qg,Ls.aA,hl]
  show List.modify (l.cmp f (c.cmp f w)).l ((c.cmp f w).l.length-1) _=_;rw [hl,hl2,h3,hl,k3,Cn.lU _ _ _ _ _ _ rfl];simp [St.de]
 | .cG c l e,w,h=>by
  have h:(e.cmp f (((l.cmp f (c.cmp f w)).put ⟨13,0,0,0,0⟩).goto ((c.cmp f w).l.length-1))).d=false:=h;obtain ⟨g1,g2,g3⟩:=e.bX f _ h;have g1:(l.cmp f (c.cmp f w)).d=false:=g1;obtain ⟨h1,h2,h3⟩:=l.bX f _ g1;obtain ⟨k1,k2,k3⟩:=c.bX f w h1;refine ⟨k1,⟨k2,h2,g2⟩,?_⟩;have hl:(c.cmp f w).l.length=w.l.length+c.cl:=by rw [k3,qg,Cn.aA]
  have hl2:(l.cmp f (c.cmp f w)).l.length=w.l.length+c.cl+l.cl:=by rw [h3,qg,Ls.aA,hl]
  have e1:(((l.cmp f (c.cmp f w)).put ⟨13,0,0,0,0⟩).goto ((c.cmp f w).l.length-1)).l=w.l++c.de f w.l.length (w.l.length+c.cl+l.cl+1)++(l.de f (w.l.length+c.cl) ++ [⟨13,0,0,0,0⟩]):=by
   show List.modify ((l.cmp f (c.cmp f w)).l ++ [⟨13,0,0,0,0⟩]) ((c.cmp f w).l.length-1) (λ x:bB=>{ x with mA:=((((l.cmp f (c.cmp f w)).l++([⟨13,0,0,0,0⟩]:List bB)).length:Nat):Int) })=_;rw [qg,hl2,hl,h3,hl,k3,qt (w.l++_),List.length_singleton,Cn.lU _ _ _ _ _ _ rfl]
  have hl3:(((l.cmp f (c.cmp f w)).put ⟨13,0,0,0,0⟩).goto ((c.cmp f w).l.length-1)).l.length=w.l.length+c.cl+l.cl+1:=by rw [CW.dI,CW.aZ,hl2]
  rw [hl3,e1] at g3;have hl4:(e.cmp f (((l.cmp f (c.cmp f w)).put ⟨13,0,0,0,0⟩).goto ((c.cmp f w).l.length-1))).l.length=w.l.length+c.cl+l.cl+1+e.cl:=by
   rw [g3];simp [Cn.aA,Ls.aA];omega
  show List.modify (e.cmp f (((l.cmp f (c.cmp f w)).put ⟨13,0,0,0,0⟩).goto ((c.cmp f w).l.length-1))).l (l.cmp f (c.cmp f w)).l.length _=_;rw [hl4,hl2,g3];have e2:(w.l++c.de f w.l.length (w.l.length+c.cl+l.cl+1)++(l.de f (w.l.length+c.cl) ++ [⟨13,0,0,0,0⟩]))++e.de f (w.l.length+c.cl+l.cl+1)=(w.l++(c.de f w.l.length (w.l.length+c.cl+l.cl+1)++l.de f (w.l.length+c.cl)))++(⟨13,0,0,0,0⟩::e.de f (w.l.length+c.cl+l.cl+1)):=by simp
  rw [e2,J2 _ _ _ _ (by simp [Cn.aA,Ls.aA];omega)];simp [St.de]
 | .loop c l,w,h=>by
  have h:(l.cmp f (c.cmp f w)).d=false:=h;obtain ⟨h1,h2,h3⟩:=l.bX f _ h;obtain ⟨k1,k2,k3⟩:=c.bX f w h1;refine ⟨k1,⟨k2,h2⟩,?_⟩;have hl:(c.cmp f w).l.length=w.l.length+c.cl:=by rw [k3,qg,Cn.aA]
  have hl2:(l.cmp f (c.cmp f w)).l.length=w.l.length+c.cl+l.cl:=by rw [h3,qg,Ls.aA,hl]
  show List.modify ((l.cmp f (c.cmp f w)).l ++ [⟨13,0,0,0,((w.l.length:Nat):Int)⟩]) ((c.cmp f w).l.length-1) (λ x:bB=>{ x with mA:=((((l.cmp f (c.cmp f w)).l++([⟨13,0,0,0,((w.l.length:Nat):Int)⟩]:List bB)).length:Nat):Int) })=_;rw [qg,hl2,hl,h3,hl,k3,qt (w.l++_),List.length_singleton,Cn.lU _ _ _ _ _ _ rfl];simp [St.de]
 | .atom l,w,h=>by
  have h:(l.cmp f (w.put ⟨17,0,0,0,0⟩)).d=false:=h;obtain ⟨h1,h2,h3⟩:=l.bX f _ h;refine ⟨h1,h2,?_⟩;show (l.cmp f (w.put ⟨17,0,0,0,0⟩)).l++_=_;rw [h3,CW.aZ];simp [St.de,CW.put]
 | .halt,w,h=>⟨h,trivial,rfl⟩
theorem Ls.bX (f:cF):∀ (x:Ls) (w:CW),(x.cmp f w).d=false->w.d=false/\x.fits/\(x.cmp f w).l=w.l++x.de f w.l.length
 | .nil,w,h=>⟨h,trivial,by simp [Ls.cmp,Ls.de]⟩
 | .cons s l,w,h=>by
  have h:(l.cmp f (s.cmp f w)).d=false:=h;obtain ⟨h1,h2,h3⟩:=l.bX f _ h;obtain ⟨k1,k2,k3⟩:=s.bX f w h1;refine ⟨k1,⟨k2,h2⟩,?_⟩;have hl:(s.cmp f w).l.length=w.l.length+s.cl:=by rw [k3,qg,St.aA]
  show (l.cmp f (s.cmp f w)).l=_;rw [h3,hl,k3];simp [Ls.de]
end
end Lang
end Go.Am
namespace Go.Am
namespace Lang
def At (C:List bB) (p:Nat) (l:List bB):Prop:=∀ (i:Nat) (x:bB),l[i]? = some x->C[p+i]? = some x
theorem At.app {C a b:List bB} {p:Nat} (h:At C p (a++b)):At C p a/\At C (p+a.length) b:=by
 refine ⟨λ i x hx=>h i x ?_,λ i x hx=>?_⟩
 ·rw [xi (qv.1 hx).1];exact hx
 ·have:=h (a.length+i) x (by rw [xn (by omega),show a.length+i-a.length=i by omega];exact hx);rw [<-this];congr 1;omega
theorem At.hd {C l:List bB} {p:Nat} {x:bB} (h:At C p (x::l)):C[p]? = some x/\At C (p+1) l :=
 ⟨by simpa using h 0 x rfl,λ i y hy=>by have:=h (i+1) y (by simpa using hy);rw [<-this];congr 1;omega⟩
def SM.Go (C:List bB):Nat->SM->SM->Prop
 | 0,m,x=>x=m
 | n+1,m,x=>m.stop C=none/\SM.Go C n (m.bx.take C) x
theorem SM.Go.trans {C:List bB}:∀ {n k:Nat} {a b c:SM},SM.Go C n a b->SM.Go C k b c->SM.Go C (n+k) a c
 | 0,k,a,b,c,h,g=>by
  have h:b=a:=h;subst h;rw [x6];exact g
 | n+1,k,a,b,c,h,g=>by
  rw [show n+1+k=(n+k)+1 by omega];exact ⟨h.1,SM.Go.trans h.2 g⟩
theorem SM.Go.runs {C:List bB}:∀ {n:Nat} {a b:SM},SM.Go C n a b->a.runs C=b.runs C
 | 0,a,b,h=>by have h:b=a:=h;rw [h]
 | n+1,a,b,h=>by
  have hl:=SM.jG h.1;rw [<-SM.Go.runs h.2];show a.run C (a.left+1)=(a.bx.take C).run C ((a.bx.take C).left+1);rw [hl];simp only [SM.run,h.1]
structure Rn (m:SM) (p:Nat):Prop where
 ov:m.over=false
 pc:m.pc=(p:Int)
 r8:m.rs.length=8
 r7:m.rs[7]? = some 0
def SM.mv (m:SM) (rs:List Int) (p k:Nat):SM:={ m with rs:=rs,pc:=(p:Int),left:=m.left-k }
theorem fk (m:SM) (rs rs':List Int) (p p' k k':Nat):(m.mv rs p k).mv rs' p' k'=m.mv rs' p' (k+k'):=by
 unfold SM.mv;simp [Nat.sub_sub]
theorem Rn.mv {m:SM} {p:Nat} (h:Rn m p) {rs:List Int} (r8:rs.length=8) (r7:rs[7]? = some 0) (q k:Nat):Rn (m.mv rs q k) q:=⟨h.ov,rfl,r8,r7⟩
theorem q9f {C:List bB} {m:SM} {p:Nat} {i:bB} (h:Rn m p) (hi:C[p]? = some i) (hl:m.left ≠ 0):m.stop C=none/\m.bx.take C=(m.bx.bQ (i.bZ m.rs (p:Int))).getD (m.bx.fin 111):=by
 have hp:=(qv.1 hi).1;have hpc:=h.pc;refine ⟨?_,?_⟩
 ·unfold SM.stop;rw [qc (by rw [h.ov];decide),qc (by rw [hpc];omega),qc hl]
 ·unfold SM.take;show (match C[m.pc.toNat]? with|none=>m.bx.fin 111|some i=>(m.bx.bQ (i.bZ m.rs m.pc)).getD (m.bx.fin 111))=_;rw [hpc,yB,hi]
theorem CS {C:List bB} {m x:SM} {p:Nat} {i:bB} {f:i7} (h:Rn m p) (hi:C[p]? = some i) (hl:m.left ≠ 0) (hf:i.bZ m.rs (p:Int)=f) (he:m.bx.bQ f=some x):SM.Go C 1 m x:=by
 obtain ⟨h1,h2⟩:=q9f h hi hl;rw [hf,he] at h2;exact ⟨h1,h2.symm⟩
theorem HB {C:List bB} {m:SM} {p:Nat} {i:bB} {f:i7} (h:Rn m p) (hi:C[p]? = some i) (hl:m.left ≠ 0) (hf:i.bZ m.rs (p:Int)=f) (he:m.bx.bQ f=none):SM.Go C 1 m (m.bx.fin 111):=by
 obtain ⟨h1,h2⟩:=q9f h hi hl;rw [hf,he] at h2;exact ⟨h1,h2.symm⟩
theorem wY:∀ r:Nat,r<8->jH ((r:Nat):Int)=r:=by decide
theorem Ac (rs:List Int) {r:Nat} (h:r<8):rg rs ((r:Nat):Int)=rs.getD r 0:=by unfold rg;rw [wY r h]
section
variable {rs:List Int} {p:Nat} (hp:p<1024)
theorem se {i:bB} (hl:i.eE) (hp:p<1024):¬ (¬ i.eE\/((p:Nat):Int)<0\/1024<=((p:Nat):Int)):=by
 rintro (q|q|q)
 ·exact q hl
 ·omega
 ·omega
theorem sc {op a b c n:Int} (h1:1<=op) (h2:op<=18) (ha:65 ∈ gJ op.toNat->0<=a/\a<8) (hb:66 ∈ gJ op.toNat->0<=b/\b<8) (hc:67 ∈ gJ op.toNat->0<=c/\c<8):(bB.mk op a b c n).eE:=⟨h1,h2,ha,hb,hc⟩
theorem rq {op a b c n:Int} {rs:List Int} {pc:Int}:bB.bZ ⟨op,a,b,c,n⟩ rs pc =
 if ¬ (bB.mk op a b c n).eE\/pc<0\/1024<=pc then fS
 else if op=1 then ⟨7,pc+1,0,0,0⟩
 else if op=2 then ⟨1,pc+1,a,ae .u64 n,0⟩
 else if op=3 then ⟨1,pc+1,a,rg rs b,0⟩
 else if op<=10 then ⟨1,pc+1,a,jX op.toNat (rg rs b) (rg rs c),0⟩
 else if op=11 then ⟨3,pc+1,a,0,ae .u64 (rg rs b+ae .u64 n)⟩
 else if op=12 then ⟨4,pc+1,0,rg rs a,ae .u64 (rg rs b+ae .u64 n)⟩
 else if op=13 then dW ⟨op,a,b,c,n⟩ pc true
 else if op=14 then dW ⟨op,a,b,c,n⟩ pc (decide (rg rs a=rg rs b))
 else if op=15 then dW ⟨op,a,b,c,n⟩ pc (decide (rg rs a ≠ rg rs b))
 else if op=16 then dW ⟨op,a,b,c,n⟩ pc (decide (rg rs a<rg rs b))
 else if op=17 then ⟨5,pc+1,0,0,0⟩
 else ⟨6,pc+1,0,0,0⟩:=rfl
theorem Ck {r:Nat} (hr:r<8) (hp:p<1024) (n:Int):bB.bZ ⟨2,(r:Nat),0,0,n⟩ rs (p:Nat)=⟨1,((p+1:Nat):Int),(r:Nat),ae .u64 n,0⟩:=by
 rw [rq];rw [qc (se (sc (by decide) (by decide) (λ _=>⟨by show 0<=((r:Nat):Int);omega,by show ((r:Nat):Int)<8;omega⟩) (λ q=>absurd q (by decide)) (λ q=>absurd q (by decide))) hp),qc (by decide),qk rfl];rfl
theorem tQ {r b:Nat} (hr:r<8) (hb:b<8) (hp:p<1024) (n:Int):bB.bZ ⟨11,(r:Nat),(b:Nat),0,n⟩ rs (p:Nat)=⟨3,((p+1:Nat):Int),(r:Nat),0,ae .u64 (rs.getD b 0+ae .u64 n)⟩:=by
 rw [rq];rw [qc (se (sc (by decide) (by decide) (λ _=>⟨by show 0<=((r:Nat):Int);omega,by show ((r:Nat):Int)<8;omega⟩) (λ _=>⟨by show 0<=((b:Nat):Int);omega,by show ((b:Nat):Int)<8;omega⟩) (λ q=>absurd q (by decide))) hp),qc (by decide),qc (by decide),qc (by decide),qc (by decide),qk rfl];rw [Ac rs hb];rfl
theorem xdb {a b:Nat} (ha:a<8) (hb:b<8) (hp:p<1024) (n:Int):bB.bZ ⟨12,(a:Nat),(b:Nat),0,n⟩ rs (p:Nat)=⟨4,((p+1:Nat):Int),0,rs.getD a 0,ae .u64 (rs.getD b 0+ae .u64 n)⟩:=by
 rw [rq];rw [qc (se (sc (by decide) (by decide) (λ _=>⟨by show 0<=((a:Nat):Int);omega,by show ((a:Nat):Int)<8;omega⟩) (λ _=>⟨by show 0<=((b:Nat):Int);omega,by show ((b:Nat):Int)<8;omega⟩) (λ q=>absurd q (by decide))) hp),qc (by decide),qc (by decide),qc (by decide),qc (by decide),qc (by decide),qk rfl];rw [Ac rs hb,Ac rs ha];rfl
theorem HF {o r:Nat} (ho:4<=o/\o<=10) (hr:r+1<8) (hp:p<1024):bB.bZ ⟨(o:Nat),(r:Nat),(r:Nat),((r+1:Nat):Int),0⟩ rs (p:Nat)=⟨1,((p+1:Nat):Int),(r:Nat),jX o (rs.getD r 0) (rs.getD (r+1) 0),0⟩:=by
 rw [rq];rw [qc (se (sc (by show 1<=((o:Nat):Int);omega) (by show ((o:Nat):Int)<=18;omega) (λ _=>⟨by show 0<=((r:Nat):Int);omega,by show ((r:Nat):Int)<8;omega⟩) (λ _=>⟨by show 0<=((r:Nat):Int);omega,by show ((r:Nat):Int)<8;omega⟩) (λ _=>⟨by show 0<=((r+1:Nat):Int);omega,by show ((r+1:Nat):Int)<8;omega⟩)) hp),
  qc (by show ¬ ((o:Nat):Int)=1;omega),qc (by show ¬ ((o:Nat):Int)=2;omega),qc (by show ¬ ((o:Nat):Int)=3;omega),qk (by show ((o:Nat):Int)<=10;omega)]
 show i7.mk 1 (((p:Nat):Int)+1) (r:Nat) (jX (((o:Nat):Int).toNat) (rg rs ((r:Nat):Int)) (rg rs ((r+1:Nat):Int))) 0=_;rw [Ac rs (show r<8 by omega),Ac rs hr,yB];rfl
theorem C0 (hp:p<1024):bB.bZ ⟨0,0,0,0,0⟩ rs (p:Nat)=fS:=by
 rw [rq];rw [qk (.inl λ q=>absurd (show (1:Int)<=0 from q.1) (by decide))]
theorem Ip {i:bB} {t:Nat} (hi:i.mA=((t:Nat):Int)) (ht:t<=1024) (q:Bool):dW i (p:Nat) q=⟨2,(((if q=true then t else p+1):Nat):Int),0,0,0⟩:=by
 unfold dW;cases q with
 | false=>rfl
 | true=>rw [qk rfl,qc (by rw [hi];omega),hi];rfl
theorem wS (hp:p<1024) {t:Nat} (ht:t<=1024):bB.bZ ⟨13,0,0,0,(t:Nat)⟩ rs (p:Nat)=⟨2,((t:Nat):Int),0,0,0⟩:=by
 rw [rq];rw [qc (se (sc (by decide) (by decide) (λ q=>absurd q (by decide)) (λ q=>absurd q (by decide)) (λ q=>absurd q (by decide))) hp),qc (by decide),qc (by decide),qc (by decide),qc (by decide),qc (by decide),qc (by decide),qk rfl,Ip rfl ht];rfl
theorem PT (hp:p<1024) {r t:Nat} (hr:r<8) (ht:t<=1024):bB.bZ ⟨16,(r:Nat),6,0,(t:Nat)⟩ rs (p:Nat)=⟨2,(((if decide (rs.getD r 0<rs.getD 6 0)=true then t else p+1):Nat):Int),0,0,0⟩:=by
 rw [rq];rw [qc (se (sc (by decide) (by decide) (λ _=>⟨by show 0<=((r:Nat):Int);omega,by show ((r:Nat):Int)<8;omega⟩) (λ _=>⟨by decide,by decide⟩) (λ q=>absurd q (by decide))) hp),qc (by decide),qc (by decide),qc (by decide),qc (by decide),qc (by decide),qc (by decide),qc (by decide),qc (by decide),qc (by decide),qk rfl,Ip rfl ht];rw [Ac rs hr,show rg rs 6=rs.getD 6 0 from Ac rs (r:=6) (by decide)]
def Dy (k:Nat) (x y:Int):Bool:=if k=11 then decide (x=y) else if k=12 then decide (x ≠ y) else decide (x<y)
theorem Jw (hp:p<1024) {k t:Nat} (hk:11<=k/\k<=13) (ht:t<=1024):bB.bZ ⟨((k+3:Nat):Int),0,1,0,(t:Nat)⟩ rs (p:Nat)=⟨2,(((if Dy k (rs.getD 0 0) (rs.getD 1 0)=true then t else p+1):Nat):Int),0,0,0⟩:=by
 have e0:rg rs 0=rs.getD 0 0:=Ac rs (r:=0) (by decide);have e1:rg rs 1=rs.getD 1 0:=Ac rs (r:=1) (by decide);rcases (show k=11\/k=12\/k=13 by omega) with rfl|rfl|rfl
 ·rw [show (((11:Nat)+3:Nat):Int)=14 from rfl,rq,qc (se (sc (by decide) (by decide) (λ _=>⟨by decide,by decide⟩) (λ _=>⟨by decide,by decide⟩) (λ q=>absurd q (by decide))) hp),qc (by decide),qc (by decide),qc (by decide),qc (by decide),qc (by decide),qc (by decide),qc (by decide),qk rfl,Ip rfl ht,e0,e1];rfl
 ·rw [show (((12:Nat)+3:Nat):Int)=15 from rfl,rq,qc (se (sc (by decide) (by decide) (λ _=>⟨by decide,by decide⟩) (λ _=>⟨by decide,by decide⟩) (λ q=>absurd q (by decide))) hp),qc (by decide),qc (by decide),qc (by decide),qc (by decide),qc (by decide),qc (by decide),qc (by decide),qc (by decide),qk rfl,Ip rfl ht,e0,e1];rfl
 ·rw [show (((13:Nat)+3:Nat):Int)=16 from rfl,rq,qc (se (sc (by decide) (by decide) (λ _=>⟨by decide,by decide⟩) (λ _=>⟨by decide,by decide⟩) (λ q=>absurd q (by decide))) hp),qc (by decide),qc (by decide),qc (by decide),qc (by decide),qc (by decide),qc (by decide),qc (by decide),qc (by decide),qc (by decide),qk rfl,Ip rfl ht,e0,e1];rfl
theorem C5 (hp:p<1024):bB.bZ ⟨1,0,0,0,0⟩ rs (p:Nat)=⟨7,((p+1:Nat):Int),0,0,0⟩:=by
 rw [rq];rw [qc (se (sc (by decide) (by decide) (λ q=>absurd q (by decide)) (λ q=>absurd q (by decide)) (λ q=>absurd q (by decide))) hp),qk rfl];rfl
theorem zW (hp:p<1024):bB.bZ ⟨17,0,0,0,0⟩ rs (p:Nat)=⟨5,((p+1:Nat):Int),0,0,0⟩:=by
 rw [rq];rw [qc (se (sc (by decide) (by decide) (λ q=>absurd q (by decide)) (λ q=>absurd q (by decide)) (λ q=>absurd q (by decide))) hp),qc (by decide),qc (by decide),qc (by decide),qc (by decide),qc (by decide),qc (by decide),qc (by decide),qc (by decide),qc (by decide),qc (by decide),qk rfl];rfl
theorem HA (hp:p<1024):bB.bZ ⟨18,0,0,0,0⟩ rs (p:Nat)=⟨6,((p+1:Nat):Int),0,0,0⟩:=by
 rw [rq];rw [qc (se (sc (by decide) (by decide) (λ q=>absurd q (by decide)) (λ q=>absurd q (by decide)) (λ q=>absurd q (by decide))) hp),qc (by decide),qc (by decide),qc (by decide),qc (by decide),qc (by decide),qc (by decide),qc (by decide),qc (by decide),qc (by decide),qc (by decide),qc (by decide)];rfl
end
end Lang
end Go.Am
namespace Go.Am
namespace Lang
def l9 (x:Int):Prop:=0<=x/\x<18446744073709551616
structure nu (f:cF):Prop where
 v0:0<=f.vars
 v1:f.vars<=300
 b0:0<=f.base
 b1:f.base<=300
 m0:0<=f.many
 m1:f.many<=300
 sep:f.many=0\/f.vars+8<=f.base\/f.base+f.many<=f.vars
def cF.all (f:cF):Nat:=max (f.vars.toNat+8) (f.base.toNat+f.many.toNat)
structure lA (f:cF) (W v w:List Int):Prop where
 len:W.length=f.all
 vl:v.length=8
 wl:w.length=f.many.toNat
 vs:∀ i,i<8->W[f.vars.toNat+i]? = v[i]?
 ws:∀ i,i<f.many.toNat->W[f.base.toNat+i]? = w[i]?
 no:∀ j,j<f.all -> ¬ (f.vars.toNat<=j/\j<f.vars.toNat+8) -> ¬ (f.base.toNat<=j/\j<f.base.toNat+f.many.toNat)->W[j]? = some ((j:Int)*7+1)
theorem lA.eq {f:cF} {W W' v w:List Int} (h:lA f W v w) (h':lA f W' v w):W=W':=by
 refine Df λ j=>?_;rcases kg j f.all with hj|hj
 ·by_cases q1:f.vars.toNat<=j/\j<f.vars.toNat+8
  ·have a:=h.vs (j-f.vars.toNat) (by omega);have b:=h'.vs (j-f.vars.toNat) (by omega);rw [show f.vars.toNat+(j-f.vars.toNat)=j by omega] at a b;rw [a,b]
  ·by_cases q2:f.base.toNat<=j/\j<f.base.toNat+f.many.toNat
   ·have a:=h.ws (j-f.base.toNat) (by omega);have b:=h'.ws (j-f.base.toNat) (by omega);rw [show f.base.toNat+(j-f.base.toNat)=j by omega] at a b;rw [a,b]
   ·rw [h.no j hj q1 q2,h'.no j hj q1 q2]
 ·rw [je (by rw [h.len];exact hj),je (by rw [h'.len];exact hj)]
theorem lA.M6 {f:cF} (hF:nu f) {W v w:List Int} (h:lA f W v w) {x:Nat} (hx:x<8) (y:Int):lA f (W.set (f.vars.toNat+x) y) (v.set x y) w:=by
 have hsep:=hF.sep;have:=hF.v0;have:=hF.b0;have:=hF.m0;refine ⟨by rw [xm];exact h.len,by rw [xm];exact h.vl,h.wl,λ i hi=>?_,λ i hi=>?_,λ j hj h1 h2=>?_⟩
 ·by_cases q:x=i
  ·subst q;rw [jt (by rw [h.len];unfold cF.all;omega),jt (by rw [h.vl];exact hx)]
  ·rw [xu (by omega),xu q,h.vs i hi]
 ·rw [xu (by omega),h.ws i hi]
 ·rw [xu (by omega),h.no j hj h1 h2]
theorem lA.C6 {f:cF} (hF:nu f) {W v w:List Int} (h:lA f W v w) {x:Nat} (hx:x<f.many.toNat) (y:Int):lA f (W.set (f.base.toNat+x) y) v (w.set x y):=by
 have hsep:=hF.sep;have:=hF.v0;have:=hF.b0;have:=hF.m0;refine ⟨by rw [xm];exact h.len,h.vl,by rw [xm];exact h.wl,λ i hi=>?_,λ i hi=>?_,λ j hj h1 h2=>?_⟩
 ·rw [xu (by omega),h.vs i hi]
 ·by_cases q:x=i
  ·subst q;rw [jt (by rw [h.len];unfold cF.all;omega),jt (by rw [h.wl];exact hx)]
  ·rw [xu (by omega),xu q,h.ws i hi]
 ·rw [xu (by omega),h.no j hj h1 h2]
theorem Ex.KC {w v:List Int} (hw:∀ x ∈ w,l9 x) (hv:∀ x ∈ v,l9 x):∀ {x:Ex} {y:Int},x.small->x.val w v=some y->l9 y
 | .num n,y,hs,h=>by
  have hs:n<18446744073709551616:=hs;injection h with h;subst h;constructor<;>omega
 | .var n,y,hs,h=>hv y (xv h)
 | .load a,y,hs,h=>by
  simp only [Ex.val] at h;split at h
  ·exact hw y (xv h)
  ·cases h
 | .bin o a b,y,hs,h=>by
  simp only [Ex.val] at h;split at h
  ·split at h
   ·injection h with h;subst h
    have wr:∀ n,l9 (ae .u64 n):=λ n=>by rw [BV];constructor<;>omega
    unfold jX;(repeat' split)<;>exact wr _
   ·cases h
  ·cases h
theorem qR {l:List Int} {i:Nat} {y:Int} (h:l[i]? = some y):l.getD i 0=y:=by rw [yf,h];rfl
theorem Mi {C:List bB} {m:SM} {p:Nat} {i:bB} {r:Nat} {y:Int} (h:Rn m p) (hi:C[p]? = some i) (hl:m.left ≠ 0) (hf:i.bZ m.rs (p:Int)=⟨1,((p+1:Nat):Int),(r:Nat),y,0⟩):SM.Go C 1 m (m.mv (m.rs.set r y) (p+1) 1):=by
 refine CS h hi hl hf ?_;unfold SM.bQ;rw [qk rfl];rfl
theorem xdr {C:List bB} {m:SM} {p:Nat} {i:bB} {r a:Nat} {y:Int} (h:Rn m p) (hi:C[p]? = some i) (hl:m.left ≠ 0) (hf:i.bZ m.rs (p:Int)=⟨3,((p+1:Nat):Int),(r:Nat),0,(a:Nat)⟩) (hy:m.w[a]? = some y):SM.Go C 1 m (m.mv (m.rs.set r y) (p+1) 1):=by
 have ha:=(qv.1 hy).1;refine CS h hi hl hf ?_;unfold SM.bQ;rw [qc (show ¬ (3:Int)=1 by decide),qc (show ¬ (3:Int)=2 by decide),qk rfl];refine Eq.trans (qk (by show ((a:Nat):Int)<(m.w.length:Nat);omega)) ?_;show some { m.bx with rs:=m.rs.set r (m.w.getD a 0),pc:=((p+1:Nat):Int) } = _;rw [qR hy];rfl
theorem pS {C:List bB} {m:SM} {p t:Nat} {i:bB} (h:Rn m p) (hi:C[p]? = some i) (hl:m.left ≠ 0) (hf:i.bZ m.rs (p:Int)=⟨2,((t:Nat):Int),0,0,0⟩):SM.Go C 1 m (m.mv m.rs t 1):=by
 refine CS h hi hl hf ?_;unfold SM.bQ;rw [qc (show ¬ (2:Int)=1 by decide),qk rfl];rfl
theorem px (m:SM) (rs:List Int) (p k:Nat):(m.mv rs p k).left=m.left-k:=rfl
theorem AG {rs:List Int} {r:Nat} {y:Int} (hr:r<7) (h:rs[7]? = some 0):(rs.set r y)[7]? = some 0:=by rw [xu (by omega)];exact h
theorem tV {C:List bB} {f:cF} (hF:nu f) (hC:C.length<=1024) {m:SM} {q r:Nat} (hA:At C q (nF f r q)) (h:Rn m q) (hr:r<6) {y:Int} (hy:m.rs[r]? = some y) (hl:3<=m.left) (hq:q+3<=1024) :
 (y<f.many->SM.Go C 2 m (m.mv (m.rs.set 6 f.many) (q+3) 2))/\(¬ y<f.many->SM.Go C 3 m ((m.mv (m.rs.set 6 f.many) (q+2) 3).fin 111)):=by
 obtain ⟨i0,hA⟩:=hA.hd;obtain ⟨i1,hA⟩:=hA.hd;obtain ⟨i2,_⟩:=hA.hd;have hmw:ae .u64 f.many=f.many:=ww hF.m0 (by have:=hF.m1;omega);have d0:=Ck (rs:=m.rs) (r:=6) (p:=q) (by decide) (by omega) f.many;rw [hmw] at d0;have s0:=Mi h i0 (by omega) d0;have n1:=h.mv (rs:=m.rs.set 6 f.many) (by rw [xm];exact h.r8) (AG (by decide) h.r7) (q+1) 1;have hl1:(m.mv (m.rs.set 6 f.many) (q+1) 1).left ≠ 0:=by rw [px];omega
 have d1:=PT (rs:=m.rs.set 6 f.many) (r:=r) (p:=q+1) (t:=q+3) (by omega) (by omega) (by omega);have e6:(m.rs.set 6 f.many).getD 6 0=f.many:=qR (jt (by rw [h.r8];decide));have er:(m.rs.set 6 f.many).getD r 0=y:=qR (by rw [xu (by omega)];exact hy);rw [e6,er] at d1;have s1:=pS n1 i1 hl1 d1;rw [fk] at s1;refine ⟨λ aT=>?_,λ aT=>?_⟩
 ·rw [jd aT,qk rfl] at s1;exact s0.trans s1
 ·rw [jf aT,qc (by decide)] at s1;have n2:=h.mv (rs:=m.rs.set 6 f.many) (by rw [xm];exact h.r8) (AG (by decide) h.r7) (q+2) 2;have s2:=HB n2 i2 (by rw [px];omega) (C0 (rs:=m.rs.set 6 f.many) (p:=q+2) (by omega)) rfl;have e:(m.mv (m.rs.set 6 f.many) (q+2) 2).bx=m.mv (m.rs.set 6 f.many) (q+2) 3:=by unfold SM.bx SM.mv;simp only [SM.mk.injEq,mQ,kr];omega
  rw [e] at s2;exact (s0.trans s1).trans s2
def F6 (C:List bB) (m:SM) (r p n:Nat):Option Int->Prop
 | some y=>∃ k rs',k<=n/\SM.Go C k m (m.mv rs' (p+n) k)/\rs'.length=8/\rs'[r]? = some y /\ ∀ j,j<r\/j=7->rs'[j]? = m.rs[j]?
 | none=>∃ k rs' q,k<=n/\SM.Go C k m ((m.mv rs' q k).fin 111)
theorem At.le {C l:List bB} {p:Nat} (h:At C p l) (hn:0<l.length):p+l.length<=C.length:=by
 have:=h (l.length-1) (l[l.length-1]) (by rw [za (by omega)]);have:=(qv.1 this).1;omega
theorem Ex.tc:∀ (x:Ex),0<x.cl
 | .num _=>Nat.one_pos
 | .var _=>Nat.one_pos
 | .load a=>CF _
 | .bin _ a b=>CF _
theorem Ex.go {C:List bB} {f:cF} (hF:nu f) (hC:C.length<=1024) {v w:List Int} (hv:∀ x ∈ v,l9 x) (hw:∀ x ∈ w,l9 x):∀ (x:Ex) (r p:Nat) (m:SM),x.ok->x.small->x.fits r->At C p (x.de f r p)->Rn m p->lA f m.w v w->x.cl<=m.left->F6 C m r p x.cl (x.val w v)
 | .num n,r,p,m,ho,hs,hf,hA,h,hL,hl=>by
  have hf:r<6:=hf;have hs:n<18446744073709551616:=hs;have hle:=hA.le Nat.one_pos;obtain ⟨i0,_⟩:=hA.hd;have hle:p+1<=C.length:=hle;have d0:=Ck (rs:=m.rs) (r:=r) (p:=p) (by omega) (by omega) (ae .i64 (n:Nat));have e:ae .u64 (ae .i64 ((n:Nat):Int))=((n:Nat):Int):=by rw [BV,JA];omega
  rw [e] at d0;have hl:1<=m.left:=hl;exact ⟨1,_,qf _,Mi h i0 (by omega) d0,by rw [xm];exact h.r8,jt (by rw [h.r8];omega),λ j hj=>xu (by omega)⟩
 | .var x,r,p,m,ho,hs,hf,hA,h,hL,hl=>by
  have hf:r<6:=hf;have ho:x<=7:=ho;have hle:p+1<=C.length:=hA.le Nat.one_pos;obtain ⟨i0,_⟩:=hA.hd;have hl:1<=m.left:=hl;have:=hF.v0;have:=hF.v1;have d0:=tQ (rs:=m.rs) (r:=r) (b:=7) (p:=p) (by omega) (by decide) (by omega) (f.vars+(x:Nat));rw [qR h.r7,ww (n:=f.vars+(x:Nat)) (by omega) (by omega),Int.zero_add,ww (by omega) (by omega),show f.vars+((x:Nat):Int)=((f.vars.toNat+x:Nat):Int) by omega] at d0;obtain ⟨y,hy⟩:∃ y,v[x]? = some y:=⟨v[x]'(by rw [hL.vl];omega),by simp [hL.vl,show x<8 by omega]⟩
  show F6 C m r p 1 v[x]?;rw [hy];have hmw:m.w[f.vars.toNat+x]? = some y:=by rw [hL.vs x (by omega)];exact hy
  have i0':C[p]? = some ⟨11,(r:Nat),((7:Nat):Int),0,((f.vars.toNat+x:Nat):Int)⟩:=by rw [i0,show f.vars+((x:Nat):Int)=((f.vars.toNat+x:Nat):Int) by omega];rfl
  exact ⟨1,_,qf _,xdr h i0' (by omega) d0 hmw,by rw [xm];exact h.r8,jt (by rw [h.r8];omega),λ j hj=>xu (by omega)⟩
 | .load a,r,p,m,ho,hs,hf,hA,h,hL,hl=>by
  obtain ⟨hr,hfa⟩:=hf;have hle:p+(a.cl+4)<=C.length:=by have:=hA.le (by rw [Ex.aA];exact CF _);rw [Ex.aA] at this;exact this
  obtain ⟨hA1,hA2⟩:=hA.app;rw [Ex.aA] at hA2;obtain ⟨hA3,hA4⟩:=hA2.app;have hA4:At C (p+a.cl+3) [⟨11,(r:Nat),(r:Nat),0,f.base⟩]:=hA4;have hl:a.cl+4<=m.left:=hl;have ih:=Ex.go hF hC hv hw a r p m ho hs hfa hA1 h hL (by omega);show F6 C m r p (a.cl+4) (match a.val w v with|some u=>w[u.toNat]? | none=>none);cases hu:a.val w v with
  | none =>
   rw [hu] at ih;obtain ⟨k,rs',q,hk,hgo⟩:=ih;exact ⟨k,rs',q,by omega,hgo⟩
  | some u =>
   rw [hu] at ih;obtain ⟨k,rs1,hk,hgo,h8,hru,hkeep⟩:=ih;have h7:rs1[7]? = some 0:=by rw [hkeep 7 (.inr rfl)];exact h.r7
   have n1:=h.mv h8 h7 (p+a.cl) k;have ru:=Ex.KC hw hv (x:=a) hs hu;obtain ⟨b1,b2⟩:=tV hF hC hA3 n1 hr (y:=u) hru (by rw [px];omega) (by omega);show F6 C m r p (a.cl+4) w[u.toNat]?;have ru0:=ru.1;have:=hF.m0;have:=hF.m1;have:=hF.b0;have:=hF.b1
   by_cases aT:u<f.many
   ·have b1:=b1 aT;rw [fk] at b1;have e0:(m.mv rs1 (p+a.cl) k).rs=rs1:=rfl;rw [e0] at b1;have n2:=h.mv (rs:=rs1.set 6 f.many) (by rw [xm];exact h8) (AG (by decide) h7) (p+a.cl+3) (k+2);obtain ⟨i3,_⟩:=hA4.hd;have er:(rs1.set 6 f.many).getD r 0=u:=qR (by rw [xu (by omega)];exact hru);have d3:=tQ (rs:=rs1.set 6 f.many) (r:=r) (b:=r) (p:=p+a.cl+3) (by omega) (by omega) (by omega) f.base;rw [er,ww (n:=f.base) (by omega) (by omega),ww (by omega) (by omega),show u+f.base=((f.base.toNat+u.toNat:Nat):Int) by omega] at d3;obtain ⟨y,hy⟩:∃ y,w[u.toNat]? = some y:=⟨w[u.toNat]'(by rw [hL.wl];omega),by simp [hL.wl,show u.toNat<f.many.toNat by omega]⟩
    rw [hy];have hmw:m.w[f.base.toNat+u.toNat]? = some y:=by rw [hL.ws _ (by omega)];exact hy
    have s3:=xdr n2 i3 (by rw [px];omega) d3 hmw;rw [fk] at s3;refine ⟨k+2+1,_,by omega,(hgo.trans b1).trans s3,?_,?_,?_⟩
    ·show ((rs1.set 6 f.many).set r y).length=8;rw [xm,xm];exact h8
    ·exact jt (by show r<(rs1.set 6 f.many).length;rw [xm,h8];omega)
    ·intro j hj;show ((rs1.set 6 f.many).set r y)[j]? = _;rw [xu (by omega),xu (by omega),hkeep j hj]
   ·have b2:=b2 aT;rw [fk] at b2;rw [je (by rw [hL.wl];omega)];exact ⟨k+3,_,_,by omega,hgo.trans b2⟩
 | .bin o a b,r,p,m,ho,hs,hf,hA,h,hL,hl=>by
  obtain ⟨hr,hfa,hfb⟩:=hf;obtain ⟨o1,o2,ha,hb⟩:=ho;have hrb:=Ex.Aa hfb;have hle:p+(a.cl+b.cl+1)<=C.length:=by have:=hA.le (by rw [Ex.aA];exact CF _);rw [Ex.aA] at this;exact this
  obtain ⟨hA1,hA2⟩:=hA.app;rw [Ex.aA] at hA2;obtain ⟨hA3,hA4⟩:=hA2.app;rw [Ex.aA] at hA4;have hl:a.cl+b.cl+1<=m.left:=hl;have ih:=Ex.go hF hC hv hw a r p m ha hs.1 hfa hA1 h hL (by omega);show F6 C m r p (a.cl+b.cl+1) (match a.val w v with|some x=>(match b.val w v with|some y=>some (jX o x y) | none=>none) | none=>none);cases hu:a.val w v with
  | none =>
   rw [hu] at ih;obtain ⟨k,rs',q,hk,hgo⟩:=ih;exact ⟨k,rs',q,by omega,hgo⟩
  | some u =>
   rw [hu] at ih;obtain ⟨k,rs1,hk,hgo,h8,hru,hkeep⟩:=ih;have h7:rs1[7]? = some 0:=by rw [hkeep 7 (.inr rfl)];exact h.r7
   have n1:=h.mv h8 h7 (p+a.cl) k;have ih2:=Ex.go hF hC hv hw b (r+1) (p+a.cl) _ hb hs.2 hfb hA3 n1 hL (by rw [px];omega);show F6 C m r p (a.cl+b.cl+1) (match b.val w v with|some y=>some (jX o u y) | none=>none);cases hy:b.val w v with
   | none =>
    rw [hy] at ih2;obtain ⟨k2,rs',q,hk2,hgo2⟩:=ih2;rw [fk] at hgo2;exact ⟨k+k2,rs',q,by omega,hgo.trans hgo2⟩
   | some y =>
    rw [hy] at ih2;obtain ⟨k2,rs2,hk2,hgo2,h82,hry,hkeep2⟩:=ih2;rw [fk] at hgo2;have h72:rs2[7]? = some 0:=by rw [hkeep2 7 (.inr rfl)];exact h7
    have n2:=h.mv h82 h72 (p+a.cl+b.cl) (k+k2);obtain ⟨i3,_⟩:=hA4.hd;have er:rs2.getD r 0=u:=qR (by rw [hkeep2 r (.inl (by omega))];exact hru);have er1:rs2.getD (r+1) 0=y:=qR hry;have d3:=HF (rs:=rs2) (o:=o) (r:=r) (p:=p+a.cl+b.cl) ⟨o1,o2⟩ (by omega) (by omega);rw [er,er1] at d3;have s3:=Mi n2 i3 (by rw [px];omega) d3;rw [fk,show p+a.cl+b.cl+1=p+(a.cl+b.cl+1) by omega] at s3;refine ⟨k+k2+1,_,by omega,(hgo.trans hgo2).trans s3,?_,?_,?_⟩
    ·show (rs2.set r (jX o u y)).length=8;rw [xm];exact h82
    ·exact jt (by show r<rs2.length;rw [h82];omega)
    ·intro j hj;show (rs2.set r (jX o u y))[j]? = _;rw [xu (by omega),hkeep2 j (hj.imp (λ q=>by omega) id)];exact hkeep j hj
end Lang
end Go.Am
namespace Go.Am
namespace Lang
def CnR (C:List bB) (m:SM) (p t n:Nat):Option Bool->Prop
 | some b=>∃ k rs',k<=n/\SM.Go C k m (m.mv rs' (if b=true then p+n else t) k)/\rs'.length=8/\rs'[7]? = some 0
 | none=>∃ k rs' q,k<=n/\SM.Go C k m ((m.mv rs' q k).fin 111)
theorem Cn.go {C:List bB} {f:cF} (hF:nu f) (hC:C.length<=1024) {v w:List Int} (hv:∀ x ∈ v,l9 x) (hw:∀ x ∈ w,l9 x) (c:Cn) {p t:Nat} {m:SM} (ho:c.ok) (hs:c.small) (hf:c.fits) (ht:t<=1024) (hA:At C p (c.de f p t)) (h:Rn m p) (hL:lA f m.w v w) (hl:c.cl<=m.left):CnR C m p t c.cl (c.so w v):=by
 obtain ⟨o1,o2,ha,hb⟩:=ho;have hle:p+c.cl<=C.length:=by have:=hA.le (by rw [Cn.aA];exact CF _);rw [Cn.aA] at this;exact this
 obtain ⟨hA1,hA2⟩:=hA.app;rw [Ex.aA] at hA2;obtain ⟨hA3,hA4⟩:=hA2.app;rw [Ex.aA] at hA4;have hcl:c.cl=c.a.cl+c.b.cl+2:=rfl;have ih:=Ex.go hF hC hv hw c.a 0 p m ha hs.1 hf.1 hA1 h hL (by omega);unfold Cn.so;cases hu:c.a.val w v with
 | none =>
  rw [hu] at ih;obtain ⟨k,rs',q,hk,hgo⟩:=ih;exact ⟨k,rs',q,by omega,hgo⟩
 | some u =>
  rw [hu] at ih;obtain ⟨k,rs1,hk,hgo,h8,hru,hkeep⟩:=ih;have h7:rs1[7]? = some 0:=by rw [hkeep 7 (.inr rfl)];exact h.r7
  have n1:=h.mv h8 h7 (p+c.a.cl) k;have ih2:=Ex.go hF hC hv hw c.b 1 (p+c.a.cl) _ hb hs.2 hf.2 hA3 n1 hL (by rw [px];omega);simp only;cases hy:c.b.val w v with
  | none =>
   rw [hy] at ih2;obtain ⟨k2,rs',q,hk2,hgo2⟩:=ih2;rw [fk] at hgo2;exact ⟨k+k2,rs',q,by omega,hgo.trans hgo2⟩
  | some y =>
   rw [hy] at ih2;obtain ⟨k2,rs2,hk2,hgo2,h82,hry,hkeep2⟩:=ih2;rw [fk] at hgo2;have h72:rs2[7]? = some 0:=by rw [hkeep2 7 (.inr rfl)];exact h7
   have n2:=h.mv h82 h72 (p+c.a.cl+c.b.cl) (k+k2);obtain ⟨i3,hA5⟩:=hA4.hd;obtain ⟨i4,_⟩:=hA5.hd;have e0:rs2.getD 0 0=u:=qR (by rw [hkeep2 0 (.inl (by decide))];exact hru);have e1:rs2.getD 1 0=y:=qR hry;have d3:=Jw (rs:=rs2) (p:=p+c.a.cl+c.b.cl) (by omega) (k:=c.k) (t:=p+c.a.cl+c.b.cl+2) ⟨o1,o2⟩ (by omega);rw [e0,e1] at d3;have s3:=pS n2 i3 (by rw [px];omega) d3;rw [fk] at s3;have eb:(if c.k=11 then decide (u=y) else if c.k=12 then decide (u ≠ y) else decide (u<y))=Dy c.k u y:=rfl;simp only;rw [eb];cases hcb:Dy c.k u y with
   | true =>
    rw [hcb,qk rfl] at s3;exact ⟨k+k2+1,rs2,by omega,by rw [qk rfl,hcl,show p+(c.a.cl+c.b.cl+2)=p+c.a.cl+c.b.cl+2 by omega];exact (hgo.trans hgo2).trans s3,h82,h72⟩
   | false =>
    rw [hcb,qc (by decide)] at s3;have n3:=h.mv h82 h72 (p+c.a.cl+c.b.cl+1) (k+k2+1);have s4:=pS n3 i4 (by rw [px];omega) (wS (by omega) ht);rw [fk] at s4;exact ⟨k+k2+1+1,rs2,by omega,by rw [qc (by decide)];exact ((hgo.trans hgo2).trans s3).trans s4,h82,h72⟩
structure nn (f:cF) (m:SM) (s:MS) (p:Nat) (i:Bool):Prop where
 rn:Rn m p
 lay:lA f m.w s.v s.w
 hv:∀ x ∈ s.v,l9 x
 hw:∀ x ∈ s.w,l9 x
 on:s.on
 cr:m.cr=i
 fuel:1100*s.left+1100<=m.left
inductive Lx (f:cF) (m:SM) (s':MS) (q:Nat) (x:SM):Prop where
 | on (h:s'.on) (r:Rn x q) (l:lA f x.w s'.v s'.w) (hv:∀ y ∈ s'.v,l9 y) (hw:∀ y ∈ s'.w,l9 y) (i:x.cr=m.cr) (b:m.cr=true->x.bw=m.bw)
 | gE (h:s'.err=111) (o:x.over=true) (e:x.err=111) (l:m.cr=true->x.w=m.bw) (l':m.cr=false->lA f x.w s'.v s'.w)
 | aT (h:s'.aT=true) (e:s'.err=0) (i:m.cr=false) (o:x.over=true) (xe:x.err=0) (l:lA f x.w s'.v s'.w)
def gN (C:List bB) (f:cF) (m:SM) (s s':MS) (q:Nat):Prop :=
 s'.err=190 \/ ∃ k x,SM.Go C k m x/\k<=1100*(s.left-s'.left)/\s'.left<=s.left/\x.left=m.left-k/\x.aN+s.aN=m.aN+s'.aN/\Lx f m s' q x
theorem AY {m:SM} (h:m.cr=true) (e:Nat) (he:e ≠ 0):(m.fin e).w=m.bw/\(m.fin e).aN=m.aN:=by unfold SM.fin;rw [qk ⟨h,he⟩];exact ⟨rfl,rfl⟩
theorem Na {m:SM} (h:m.cr=false) (e:Nat):(m.fin e).w=m.w/\(m.fin e).aN=m.aN:=by unfold SM.fin;rw [qc (by rw [h];exact λ q=>by cases q.1)];exact ⟨rfl,rfl⟩
theorem ML (m:SM) (e:Nat):(m.fin e).aN=m.aN:=by unfold SM.fin;split<;>rfl
theorem Lx.die {f:cF} {m:SM} {s s':MS} {q p:Nat} {i:Bool} (h:nn f m s p i) (hs:s'.err=111) (hv:s'.v=s.v) (hw:s'.w=s.w) {x:SM} (hx:x.w=m.w/\x.bw=m.bw/\x.cr=m.cr):Lx f m s' q (x.fin 111):=by
 obtain ⟨x1,x2,x3⟩:=hx;refine .gE hs (x.iY _) (x.nK _) (λ q=>?_) λ q=>?_
 ·rw [(AY (by rw [x3];exact q) 111 (by decide)).1,x2]
 ·rw [(Na (by rw [x3];exact q) 111).1,x1,hv,hw];exact h.lay
theorem nO {s:MS} (h:s.left ≠ 0):s.bx = { s with left:=s.left-1 }:=by unfold MS.bx;rw [qc h]
end Lang
end Go.Am
