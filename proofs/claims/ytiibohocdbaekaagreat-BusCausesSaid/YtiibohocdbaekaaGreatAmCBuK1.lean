/- BuK1: SkT BuA BuB BuC. -/
import Derived.Test.YtiibohocdbaekaaGreatAmCB4
import Derived.Test.YtiibohocdbaekaaGreatAmCNmK2
set_option linter.unusedVariables false
set_option linter.unusedSimpArgs false
namespace Go.Am
structure lM {α:Type} (enc:α->List AV) (e size:Nat) (H:AHeap) (v:AV) (xs:List α) (b i alt r:Nat):Prop where
 eq:v=.gslice b i (i+xs.length+r) size alt xs.length
 lt:b<H.next
 cells:∃ P R,P.length=i*size/\R.length=r*size/\H.get b=some (.grown (i+xs.length+r) size (P++(xs.flatMap enc++R)) e (0,0))
def Sk {α:Type} (enc:α->List AV) (e size:Nat) (H:AHeap) (v:AV) (xs:List α):Prop:=(v=.nils/\xs=[]) \/ ∃ b i alt r,lM enc e size H v xs b i alt r
section
variable {α:Type} {enc:α->List AV} {e size:Nat} {H H':AHeap} {v:AV} {xs ys:List α} {b i alt r:Nat}
theorem Sk.nil (H:AHeap):Sk enc e size H .nils ([]:List α):=.inl ⟨rfl,rfl⟩
theorem lM.fr {W:Nat->Prop} (h:lM enc e size H v xs b i alt r) (f:Fr W H H') (hw:¬ W b):lM enc e size H' v xs b i alt r:=by
 obtain ⟨P,R,a,c,d⟩:=h.cells;exact ⟨h.eq,qk h.lt f.next,P,R,a,c,by rw [f.ah b h.lt hw];exact d⟩
theorem lM.on (h:lM enc e size H v xs b i alt r):aI v b:=⟨by rw [h.eq];simp,by rw [h.eq];rfl⟩
theorem lM.KG (h:lM enc e size H v xs b i alt r) {x:Nat} (hx:aI v x):x=b:=by rw [hx.2,h.eq];rfl
theorem Sk.fr {W:Nat->Prop} (h:Sk enc e size H v xs) (f:Fr W H H') (hw:∀ x,aI v x -> ¬ W x):Sk enc e size H' v xs:=by
 rcases h with q|⟨b,i,alt,r,h⟩
 ·exact .inl q
 ·exact .inr ⟨b,i,alt,r,h.fr f (hw b h.on)⟩
theorem Sk.em (h:Sk enc e size H v xs) (f:Fr Em H H'):Sk enc e size H' v xs:=h.fr f λ _ _ q=>q
theorem Sk.lt (h:Sk enc e size H v xs):∀ x,aI v x->x<H.next:=by
 intro x hx;rcases h with ⟨rfl,-⟩|⟨b,i,alt,r,h⟩
 ·exact (hx.1 rfl).elim
 ·rw [h.KG hx];exact h.lt
theorem tu (hs:∀ x,(enc x).length=size):∀ (l:List α),(l.flatMap enc).length=l.length*size
 | []=>by simp
 | a::l=>by rw [zx,qx,hs,tu hs l,ky,j4];omega
theorem lM.sl (hs:∀ x,(enc x).length=size) (h:lM enc e size H v xs b i alt r):du enc size H v xs:=by
 obtain ⟨P,R,a,c,d⟩:=h.cells;rw [h.eq];refine ⟨tu hs xs,rfl,rfl,by omega,.inr ⟨h.lt,_,OC d,?_⟩⟩;have hl:=tu hs xs;rw [qP,ql (by simp only [qx];omega),<-a,List.drop_left,<-hl,List.take_left]
theorem Sk.sl (hs:∀ x,(enc x).length=size) (h:Sk enc e size H v xs):du enc size H v xs:=by
 rcases h with ⟨rfl,rfl⟩|⟨b,i,alt,r,h⟩
 ·exact ⟨by simp,rfl⟩
 ·exact h.sl hs
theorem Sk.len (hs:∀ x,(enc x).length=size) (h:Sk enc e size H v xs):Op.dC [v]=some (.int .i64 xs.length):=(h.sl hs).len
theorem lM.wQ (hs:∀ x,(enc x).length=size) (h0:0<size) (h:lM enc e size H v xs b i alt r) {x:AV} {k:Nat} {new:List AV} (hk:k<=r) (hl:k=ys.length) (hn:new=ys.flatMap enc) (hxl:dD x=some k) (hxf:firstCells H size k x=some new) (hnew:aO new=true) (bytes:Nat) :
 ∃ v' H',Op.append e size bytes [v,x] H=some (v',H')/\lM enc e size H' v' (xs++ys) b i alt (r-k)/\Fr (On b) H H':=by
 obtain ⟨P,R,a,c,d⟩:=h.cells;have e1:∀ n,Nat.beq n n=true:=λ n=>by simp
 have hle:=k9 (show i+xs.length<=i+xs.length+r by omega);have hxs:=tu hs xs;have hys:=tu hs ys;rw [h.eq];have hm:i+xs.length+r=i+(xs++ys).length+(r-k):=by rw [qx];omega
 by_cases hk0:k=0
 ·subst hk0;have hy:ys=[]:=jm.1 hl.symm;subst hy;refine ⟨.gslice b i (i+xs.length+r) size alt xs.length,H,?_,?_,Fr.refl H⟩
  ·simp only [Op.append,hxl,hxf,qj,hnew,xf,bQ,Nat.beq,hle]
  ·rw [xt,E5,<-h.eq];exact h
 ·have h0k:Nat.beq k 0=false:=by cases hq:Nat.beq k 0 with|false=>rfl|true=>rw [zp] at hq;exact absurd hq hk0
  have hlt:Nat.blt 0 size=true:=Ck h0;have hle2:=k9 (show i+xs.length+k<=i+xs.length+r by omega);have hnl:new.length=k*size:=by rw [hn,hys,hl]
  have hmul:k*size<=r*size:=jl _ hk;have hst:H.store b ((i+xs.length)*size) new=some (H.set b (.grown (i+xs.length+r) size (P++((xs++ys).flatMap enc++R.drop (k*size))) e (0,0))):=by
   have ht:cN (0,0) ((i+xs.length)*size) (bL new)=true:=by simp [cN]
   have e2:(i+xs.length)*size=(P++xs.flatMap enc).length:=by rw [qx,a,hxs,j4]
   have hL:(P++(xs.flatMap enc++R)).take ((i+xs.length)*size)++new++(P++(xs.flatMap enc++R)).drop ((i+xs.length)*size+new.length)=P++((xs++ys).flatMap enc++R.drop (k*size)):=by
    rw [e2,<-zf P,List.take_left,yp,hnl,jh (by omega),zn,show (P++xs.flatMap enc).length+k*size-(P++xs.flatMap enc).length=k*size by omega,jd,hn];simp only [zf]
   simp only [AHeap.store,hnew,xf,d,ht,Ae];rw [ql (by rw [hnl,e2];simp only [qx];omega),qj,hL]
  refine ⟨.gslice b i (i+xs.length+r) size alt (xs.length+k),H.set b (.grown (i+xs.length+r) size (P++((xs++ys).flatMap enc++R.drop (k*size))) e (0,0)),?_,⟨?_,?_,P,R.drop (k*size),a,?_,?_⟩,(Fr.refl H).set (W:=On b) (.inl rfl) _⟩
  ·simp only [Op.append,hxl,hxf,qj,hnew,xf,bQ,h0k,za,e1,hle,hlt,zu,hle2,hst]
  ·rw [<-hm,qx,hl]
  ·exact h.lt
  ·rw [ju,c,Nat.sub_mul]
  ·rw [<-hm];exact xb ..
theorem Sk.app (hs:∀ x,(enc x).length=size) (h0:0<size) (h:Sk enc e size H v xs) {x:AV} {k:Nat} {new:List AV} (hl:k=ys.length) (hn:new=ys.flatMap enc) (hxl:dD x=some k) (hxf:firstCells H size k x=some new) (hnew:aO new=true) {bytes:Nat}
 (hf:(xs.length+k)*bytes<=140737488355328) (hf':xs.length+k<=140737488355328) :
 ∃ v' H',Op.append e size bytes [v,x] H=some (v',H')/\Sk enc e size H' v' (xs++ys)/\Fr (aI v) H H' /\ ∀ z,aI v' z->aI v z\/H.next<=z:=by
 have e1:∀ n,Nat.beq n n=true:=λ n=>by simp
 have hfit:=KI hf hf';have hlt:Nat.blt 0 size=true:=Ck h0;have hys:=tu hs ys
 by_cases hk0:k=0
 ·subst hk0;have hy:ys=[]:=jm.1 hl.symm;subst hy;refine ⟨v,H,?_,by rw [xt];exact h,Fr.refl H,λ z q=>.inl q⟩;rcases h with ⟨rfl,rfl⟩|⟨b,i,alt,r,h⟩
  ·simp only [Op.append,hxl,hxf,qj,hnew,xf,bQ,Nat.beq]
  ·rw [h.eq];have hle:=k9 (show i+xs.length<=i+xs.length+r by omega);simp only [Op.append,hxl,hxf,qj,hnew,xf,bQ,Nat.beq,hle]
 ·have h0k:Nat.beq k 0=false:=by cases hq:Nat.beq k 0 with|false=>rfl|true=>rw [zp] at hq;exact absurd hq hk0
  rcases h with ⟨rfl,rfl⟩|⟨b,i,alt,r,h⟩
  ·have hfit:fits k bytes=true:=by simpa using hfit
   refine ⟨.gslice H.next 0 k size 0 k,H.alloc (.grown k size new e (0,0)),?_,.inr ⟨H.next,0,0,0,?_,?_,[],[],?_,?_,?_⟩,(Fr.refl H).alloc _,λ z q=>.inr ?_⟩
   ·simp only [Op.append,hxl,hxf,qj,hnew,xf,bQ,h0k,za,hfit,hlt,zu,cj]
   ·rw [zn,hl,jy,qh]
   ·rw [xd];omega
   ·simp
   ·simp
   ·rw [qw,zn,zn,xt,hn,hl,jy,qh]
   ·rw [q.2];exact qf _
  ·by_cases hr:k<=r
   ·obtain ⟨v',H',h1,h2,h3⟩:=h.wQ hs h0 hr hl hn hxl hxf hnew bytes;exact ⟨v',H',h1,.inr ⟨_,_,_,_,h2⟩,h3.mono λ z hz (q:z=b)=>by rw [q];exact h.on,λ z q=>.inl (by rw [h2.KG q];exact h.on)⟩
   ·obtain ⟨P,R,a,c,d⟩:=h.cells;have hxs:=tu hs xs;have hon:=h.on;rw [h.eq] at hon ⊢;have hle:=k9 (show i+xs.length<=i+xs.length+r by omega);have h3:Nat.ble (i+xs.length+k) (i+xs.length+r)=false:=by cases hq:Nat.ble (i+xs.length+k) (i+xs.length+r) with|false=>rfl|true=>rw [yr] at hq;omega
    have hz1:=k9 (xx ((i+xs.length+r)*size));have hz2:=k9 (xx (i*size));have hkl:Fr (aI (.gslice b i (i+xs.length+r) size alt xs.length)) H (H.kill b):=Fr.kill (Fr.refl H) (.inl hon);have fin:∀ cs,cs=xs.flatMap enc->Sk enc e size ((H.kill b).alloc (.grown (xs.length+k) size (cs++new) e (0,0))) (.gslice (H.kill b).next 0 (xs.length+k) size 0 (xs.length+k)) (xs++ys):=λ cs hcs=>by
     refine .inr ⟨H.next,0,0,0,?_,?_,[],[],?_,?_,?_⟩
     ·rw [BG,qx,hl,jy,qh]
     ·rw [xd,BG];omega
     ·simp
     ·simp
     ·have:=qw (H.kill b) (.grown (xs.length+k) size (cs++new) e (0,0));rw [BG] at this;rw [this,zn,xt,jd,hcs,hn,qx,hl,jy,qh]
    by_cases hw:i=0/\r=0
    ·obtain ⟨rfl,rfl⟩:=hw;have hP:P=[]:=jm.1 (by simpa using a);have hR:R=[]:=jm.1 (by simpa using c);subst hP hR;have hlb:Nat.beq xs.length (0+xs.length+0)=true:=by simp
     refine ⟨_,_,?_,fin (xs.flatMap enc) rfl,hkl.alloc _,λ z q=>.inr (by rw [q.2];exact qf _)⟩;simp only [Op.append,hxl,hxf,qj,hnew,xf,bQ,h0k,za,e1,hle,hlt,zu,h3,hfit,d,hz1,hlb,cj,Nat.beq,lG,zn,xt]
    ·have hlb:(Nat.beq i 0 && Nat.beq xs.length (i+xs.length+r))=false:=by
      cases hq:(Nat.beq i 0 && Nat.beq xs.length (i+xs.length+r)) with
      | false=>rfl
      | true =>
       rw [xh,zp,zp] at hq;exact absurd ⟨hq.1,by omega⟩ hw
     have ht:dK (P++(xs.flatMap enc++R)) (i*size) (xs.length*size)=some (xs.flatMap enc):=by
      rw [qP,ql (by simp only [qx];omega),<-a,List.drop_left,<-hxs,List.take_left]
     refine ⟨_,_,?_,fin (xs.flatMap enc) rfl,hkl.alloc _,λ z q=>.inr (by rw [q.2];exact qf _)⟩;simp only [Op.append,hxl,hxf,qj,hnew,xf,bQ,h0k,za,e1,hle,hlt,zu,h3,hfit,d,hz1,hlb,Bool.false_and,hz2,ht,cj,Nat.beq,lG]
theorem lM.off (h:lM enc e size H v xs b i alt r) (hs:∀ x,(enc x).length=size) {k:Nat} (hk:k<=xs.length) (kk:IntKind):∃ v' alt',Op.aJ size [some 0,none,none] [v,.int kk (k:Int)]=some v'/\lM enc e size H v' (xs.drop k) b (i+k) alt' r/\(alt'=cond (Nat.beq k 0) alt (i*size)):=by
 obtain ⟨P,R,a,c,d⟩:=h.cells;have e1:∀ n,Nat.beq n n=true:=λ n=>by simp
 have hb1:∀ d m,bound none d m=some d:=λ _ _=>rfl;have hlen:i+k+(xs.drop k).length+r=i+xs.length+r:=by rw [ju];omega
 rw [h.eq];refine ⟨.gslice b (i+k) (i+xs.length+r) size (cond (Nat.beq k 0) alt (i*size)) (xs.length-k),_,?_,⟨?_,h.lt,P++(xs.take k).flatMap enc,R,?_,c,?_⟩,rfl⟩
 ·simp only [Op.aJ,arg,jO,je,qj,df,hb1,rN (z:=(k:Int)) (k:=k) rfl hk kk,e1,k9 (show xs.length<=i+xs.length+r-i by omega),k9 (show i<=i+xs.length+r by omega),zu,xf]
 ·rw [hlen,ju]
 ·rw [qx,a,tu hs,ja,Nat.min_eq_left hk,j4]
 ·rw [hlen,d];congr 2;rw [zf,<-zf (List.flatMap enc (List.take k xs)),<-jd,kr]
theorem lM.upto (h:lM enc e size H v xs b i alt r) (hs:∀ x,(enc x).length=size) {k:Nat} (hk:k<=xs.length) (kk:IntKind):∃ v',Op.aJ size [none,some 0,none] [v,.int kk (k:Int)]=some v'/\lM enc e size H v' (xs.take k) b i alt (r+(xs.length-k)):=by
 obtain ⟨P,R,a,c,d⟩:=h.cells;have e1:∀ n,Nat.beq n n=true:=λ n=>by simp
 have hb1:∀ d m,bound none d m=some d:=λ _ _=>rfl;have hlt:(xs.take k).length=k:=by rw [ja];omega
 have hlen:i+(xs.take k).length+(r+(xs.length-k))=i+xs.length+r:=by rw [hlt];omega
 rw [h.eq];refine ⟨.gslice b (i+0) (i+xs.length+r) size (cond (Nat.beq 0 0) alt (i*size)) (k-0),?_,⟨?_,h.lt,P,(xs.drop k).flatMap enc++R,a,?_,?_⟩⟩
 ·simp only [Op.aJ,arg,jO,je,qj,df,hb1,rN (z:=(k:Int)) (k:=k) rfl (show k<=i+xs.length+r-i by omega) kk,e1,k9 (show k<=i+xs.length+r-i by omega),k9 (show i<=i+xs.length+r by omega),zu,xf]
 ·rw [hlen,hlt];rfl
 ·rw [qx,tu hs,ju,c,<-j4];congr 1;omega
 ·rw [hlen,d,<-zf (List.flatMap enc (List.take k xs)),<-jd,kr]
theorem lM.Qb (h:lM enc e size H v xs b i alt (r+1)) (hs:∀ x,(enc x).length=size) (h0:0<size) {zero:List AV} (hz:zero.length=size) (hz1:aO zero=true) (kk:IntKind) :
 ∃ v' H',Op.aJ size [some 0,some 1,none] [v,.int kk (xs.length:Int),.int kk ((xs.length+1:Nat):Int)]=some v'/\Op.ct zero [v'] H=some (.tuple [],H')/\lM enc e size H' v xs b i alt (r+1)/\Fr (On b) H H':=by
 obtain ⟨P,R,a,c,d⟩:=h.cells;have e1:∀ n,Nat.beq n n=true:=λ n=>by simp
 have hxs:=tu hs xs;have he:=h.eq;refine ⟨.gslice b (i+xs.length) (i+xs.length+(r+1)) size (cond (Nat.beq xs.length 0) alt (i*size)) (xs.length+1-xs.length),H.set b (.grown (i+xs.length+(r+1)) size (P++(xs.flatMap enc++(zero++R.drop size))) e (0,0)),?_,?_,⟨h.eq,h.lt,P,zero++R.drop size,a,?_,xb ..⟩,(Fr.refl H).set (W:=On b) (.inl rfl) _⟩
 ·rw [he];simp only [Op.aJ,arg,jO,je,zk,qj,df,rN (z:=((xs.length+1:Nat):Int)) (k:=xs.length+1) rfl (show xs.length+1<=i+xs.length+(r+1)-i by omega) kk,rN (z:=(xs.length:Int)) (k:=xs.length) rfl (show xs.length<=xs.length+1 by omega) kk,e1,k9 (show xs.length+1<=i+xs.length+(r+1)-i by omega),k9 (show i<=i+xs.length+(r+1) by omega),zu,xf]
 ·rw [show xs.length+1-xs.length=1 by omega];have hlt:Nat.blt 0 1=true:=rfl;have hlt2:Nat.blt (i+xs.length+0) (i+xs.length+(r+1))=true:=Ck (by omega);have e2:(i+xs.length)*size+0*size=(P++xs.flatMap enc).length:=by rw [qx,a,hxs,j4,yl,qh]
  have hsz:R.length=r*size+size:=by rw [c,j4,Nat.one_mul]
  have hL:(P++(xs.flatMap enc++R)).take ((i+xs.length)*size+0*size)++dG 1 zero++(P++(xs.flatMap enc++R)).drop ((i+xs.length)*size+0*size+(dG 1 zero).length)=P++(xs.flatMap enc++(zero++R.drop size)):=by
   have hr:dG 1 zero=zero:=by simp [dG,lG]
   rw [e2,<-zf P,List.take_left,yp,hr,hz,jh (by omega),zn,show (P++xs.flatMap enc).length+size-(P++xs.flatMap enc).length=size by omega];simp only [zf]
  have hr:dG 1 zero=zero:=by simp [dG,lG]
  have ht:cN (0,0) ((i+xs.length)*size+0*size) (bL (dG 1 zero))=true:=by simp [cN]
  have hst:H.store b ((i+xs.length)*size+0*size) (dG 1 zero)=some (H.set b (.grown (i+xs.length+(r+1)) size (P++(xs.flatMap enc++(zero++R.drop size))) e (0,0))):=by
   have h1:aO (dG 1 zero)=true:=by rw [hr];exact hz1
   simp only [AHeap.store,h1,xf,d,ht,Ae];rw [ql (by rw [hr,hz,e2];simp only [qx];omega),qj,hL]
  have hb0:Nat.beq 1 0=false:=rfl;have hzl:zero.length=size:=hz;simp only [Op.ct,dD,qj,hb0,za,hzl,elemAt,hlt,e1,hlt2,zu,xf,hst]
 ·rw [qx,hz,ju,c,j4,Nat.one_mul];omega
theorem lM.del (h:lM enc e size H v xs b i alt r) (hs:∀ x,(enc x).length=size) (h1:∀ x,aO (enc x)=true) (h0:0<size) {n:Nat} (hn:n<xs.length) {zero:List AV} (hz:zero.length=size) (hz1:aO zero=true) (bytes:Nat) :
 ∃ v0 v1 v2 v3 H1 v4 H2,Op.aJ size [some 0,some 1,some 2] [v,.int .i64 (n:Int),.int .i64 ((n+1:Nat):Int),.int .i64 (xs.length:Int)]=some v0/\Op.aJ size [none,some 0,none] [v,.int .i64 (n:Int)]=some v1/\Op.aJ size [some 0,none,none] [v,.int .i64 ((n+1:Nat):Int)]=some v2 /\
  Op.append e size bytes [v1,v2] H=some (v3,H1)/\Op.dC [v3]=some (.int .i64 ((xs.length-1:Nat):Int))/\Op.aJ size [some 0,some 1,none] [v3,.int .i64 ((xs.length-1:Nat):Int),.int .i64 (xs.length:Int)]=some v4/\Op.ct zero [v4] H1=some (.tuple [],H2) /\
  lM enc e size H2 v3 (xs.eraseIdx n) b i alt (r+1)/\Fr (On b) H H2:=by
 obtain ⟨v1,a1,b1⟩:=h.upto hs (k:=n) (by omega) .i64;obtain ⟨v2,alt2,a2,b2,-⟩:=h.off hs (k:=n+1) (by omega) .i64;have s2:=b2.sl hs;have hall:∀ l:List α,aO (l.flatMap enc)=true:=λ l=>by
  rw [oQ,List.all_flatMap,wg];intro x _;have:=h1 x;rw [oQ] at this;exact this
 obtain ⟨v3,H1,a3,b3,f3⟩:=b1.wQ hs h0 (ys:=xs.drop (n+1)) (x:=v2) (k:=(xs.drop (n+1)).length) (by rw [ju];omega) rfl rfl (Sl.dD s2) (Sl.first s2) (hall _) bytes;have hroom:r+(xs.length-n)-(xs.drop (n+1)).length=r+1:=by rw [ju];omega
 rw [hroom,<-List.eraseIdx_eq_take_drop_succ] at b3;have hlen:(xs.eraseIdx n).length=xs.length-1:=by rw [List.length_eraseIdx,ql hn]
 obtain ⟨v4,H2,a4,a5,b5,f5⟩:=b3.Qb hs h0 hz hz1 .i64;have a6:=(b3.sl hs).len;rw [hlen] at a4 a6;rw [show xs.length-1+1=xs.length by omega] at a4;obtain ⟨v0,a0⟩:∃ v0,Op.aJ size [some 0,some 1,some 2] [v,.int .i64 (n:Int),.int .i64 ((n+1:Nat):Int),.int .i64 (xs.length:Int)]=some v0:=by
  have e1:∀ n,Nat.beq n n=true:=λ n=>by simp
  have hne:Nat.beq xs.length n=false:=by cases hq:Nat.beq xs.length n with|false=>rfl|true=>rw [zp] at hq;omega
  rw [h.eq];refine ⟨.slice b ((i+n)*size) (n+1-n) (xs.length-n),?_⟩;simp only [Op.aJ,arg,jO,je,zk,qj,df,rN (z:=(xs.length:Int)) (k:=xs.length) rfl (show xs.length<=i+xs.length+r-i by omega) .i64,rN (z:=((n+1:Nat):Int)) (k:=n+1) rfl (show n+1<=xs.length by omega) .i64,rN (z:=(n:Int)) (k:=n) rfl (show n<=n+1 by omega) .i64,e1,hne,k9 (show i<=i+xs.length+r by omega),zu,xf,za]
 exact ⟨v0,v1,v2,v3,H1,v4,H2,a0,a1,a2,a3,a6,a4,a5,b5,f3.trans f5 λ _ q=>.inl q⟩
end
end Go.Am
namespace Go.Am
namespace Ca
section
variable {lines:Int} {c c':Ca}
theorem CI.cZ (h:CI lines c) {l:Int} {e:En}:c.find l=some e ↔ ∃ i,i<c.sl.length/\c.en i=e/\e.st ≠ 0/\e.line=l:=by
 constructor
 ·intro q;obtain ⟨i,a,rfl⟩:=CS q;obtain ⟨-,b,d,f,-⟩:=h.aN a;exact ⟨i,b,rfl,d,f⟩
 ·rintro ⟨i,hi,rfl,hs,rfl⟩;unfold find;rw [h.p9 hi hs];rfl
theorem CI.fX (h:CI lines c) {l:Int}:c.find l=none ↔ ∀ i,i<c.sl.length->(c.en i).st ≠ 0->(c.en i).line ≠ l:=by
 constructor
 ·intro q i hi hs e;have:=h.cZ.2 ⟨i,hi,rfl,hs,e⟩;rw [q] at this;cases this
 ·intro q;cases hf:c.find l with
  | none=>rfl
  | some e =>
   obtain ⟨i,hi,rfl,hs,hl⟩:=h.cZ.1 hf;exact (q i hi hs hl).elim
theorem CI.mC (h:CI lines c) (h':CI lines c') (hl:c'.sl.length=c.sl.length) {i:Nat} (hi:i<c.sl.length) {e:En} (he:∀ j,c'.en j=if i=j then e else c.en j) (l:Int) :
 c'.find l=if e.st ≠ 0/\e.line=l then some e else if (c.en i).st ≠ 0/\(c.en i).line=l then none else c.find l:=by
 split
 ·rename_i q;exact h'.cZ.2 ⟨i,by rw [hl];exact hi,by rw [he,ql rfl],q⟩
 ·rename_i q;split
  ·rename_i q2;refine h'.fX.2 λ j hj hs=>?_;rw [hl] at hj;rw [he] at hs ⊢;split at hs
   ·rename_i w;rw [ql w];exact λ w2=>q ⟨hs,w2⟩
   ·rename_i w;rw [qg w];exact λ w2=>w (h.uq i j hi hj q2.1 hs (q2.2.trans w2.symm))
  ·rename_i q2;cases hf:c.find l with
   | none =>
    refine h'.fX.2 λ j hj hs=>?_;rw [hl] at hj;rw [he] at hs ⊢;split at hs
    ·rename_i w;rw [ql w];exact λ w2=>q ⟨hs,w2⟩
    ·rename_i w;rw [qg w];exact h.fX.1 hf j hj hs
   | some x =>
    obtain ⟨j,hj,rfl,hs,hlj⟩:=h.cZ.1 hf;refine h'.cZ.2 ⟨j,by rw [hl];exact hj,?_,hs,hlj⟩;rw [he,qg];rintro rfl;exact q2 ⟨hs,hlj⟩
theorem CI.py (h:CI lines c) {g:En->En} (h':CI lines { c with sl:=c.sl.map g }) (hl:∀ e,(g e).line=e.line) (hs:∀ e,(g e).st=e.st) (l:Int):Ca.find { c with sl:=c.sl.map g } l=(c.find l).map g:=by
 have hlen:(c.sl.map g).length=c.sl.length:=xu _;cases hf:c.find l with
 | none =>
  refine h'.fX.2 λ j hj hv=>?_;have hj:j<c.sl.length:=by rw [<-hlen];exact hj
  rw [Gn hj] at hv ⊢;rw [hs] at hv;rw [hl];exact h.fX.1 hf j hj hv
 | some e =>
  obtain ⟨i,hi,rfl,hv,hli⟩:=h.cZ.1 hf;exact h'.cZ.2 ⟨i,by show i<(c.sl.map g).length;rw [hlen];exact hi,Gn hi,by rw [hs];exact hv,by rw [hl];exact hli⟩
theorem CI.wX (h:CI lines c) (us:Int) {i:Nat} {e:En} (hi:i<c.sl.length) (h':CI lines { c.set i e with us:=us }) (hv:(c.en i).st ≠ 0) (hl:e.line=(c.en i).line) (hs:e.st ≠ 0) (l:Int) :
 Ca.find { c.set i e with us:=us } l=if l=(c.en i).line then some e else c.find l:=by
 rw [h.mC h' (qv) hi (λ j=>qF hi)]
 by_cases q:l=(c.en i).line
 ·rw [ql q,ql ⟨hs,by rw [hl,q]⟩]
 ·rw [qg q,qg (λ w=>q (by rw [<-hl];exact w.2.symm)),qg (λ w=>q w.2.symm)]
end
end Ca
open Ca
structure Vw where
 st:Int
 w:Bool
 d:L8
 o:L8
namespace Vw
def no:Vw:=⟨0,false,.zero,.zero⟩
def base (v:Vw):L8:=if v.w then v.o else v.d
def back (v:Vw):Vw:={ v with w:=false,o:=.zero,d:=v.base }
def kH (v:Vw):Vw:={ v with w:=false,o:=.zero }
def put (v:Vw) (live:Bool) (i:Nat) (y:Int):Vw:={ v with w:=v.w || live,o:=if live && !v.w then v.d else v.o,d:=v.d.put i y }
theorem Gm (v:Vw):v.back.st=v.st:=rfl
theorem zR (v:Vw):v.kH.base=v.d:=rfl
end Vw
def En.vw (e:En):Vw:=⟨e.st,e.w,e.d,e.o⟩
def O2:Option En->Vw
 | none=>.no
 | some e=>e.vw
def Ca.vw (c:Ca) (l:Int):Vw:=O2 (c.find l)
namespace Ca
section
variable {lines:Int} {c:Ca}
theorem CI.u5 (h:CI lines c) (l:Int):(c.vw l).st=0/\c.find l=none\/((c.vw l).st=1\/(c.vw l).st=2)/\0<=l/\l<lines/\((c.vw l).w=true->(c.vw l).st=2):=by
 unfold Ca.vw;cases hf:c.find l with
 | none=>exact .inl ⟨rfl,rfl⟩
 | some e =>
  obtain ⟨i,hi,rfl,hv,hl⟩:=h.cZ.1 hf;obtain ⟨a,b,d,-,f⟩:=h.ok i hi hv;rw [hl] at b d;exact .inr ⟨a,b,d,f⟩
theorem I1 {l:Int} (h:c.find l=none):c.vw l=.no:=by unfold Ca.vw;rw [h];rfl
theorem bf {l:Int} {e:En} (h:c.find l=some e):c.vw l=e.vw:=by unfold Ca.vw;rw [h];rfl
theorem CI.oi (h:CI lines c) {l:Int} {e:En} (hf:c.find l=some e):e.st ≠ 0/\e.line=l:=by
 obtain ⟨i,hi,rfl,hv,hl⟩:=h.cZ.1 hf;exact ⟨hv,hl⟩
theorem CI.cY (h:CI lines c) {l:Int} {i:Nat} (hp:c.pos l=some i):c.find l=some (c.en i)/\i<c.sl.length/\(c.en i).st ≠ 0/\(c.en i).line=l:=by
 obtain ⟨-,b,d,f,-⟩:=h.aN hp;exact ⟨by unfold find;rw [hp];rfl,b,d,f⟩
theorem q33 {l:Int} (hp:c.pos l=none):c.find l=none:=by unfold find;rw [hp];rfl
theorem CI.kM (h:CI lines c) (us:Int) {i:Nat} {e:En} (hi:i<c.sl.length) (h':CI lines { c.set i e with us:=us }) (hv:(c.en i).st ≠ 0) (hl:e.line=(c.en i).line) (hs:e.st ≠ 0) (l:Int) :
 Ca.vw { c.set i e with us:=us } l=if l=(c.en i).line then e.vw else c.vw l:=by
 unfold Ca.vw;rw [h.wX us hi h' hv hl hs];split<;>rfl
theorem CI.oa (h:CI lines c) (a:Nat) (l:Int):(c.word a).1.vw l=c.vw l:=by
 have hw:=h.word a;unfold Ca.word at hw ⊢;cases hp:c.pos ((a / 8:Nat):Int) with
 | none=>rfl
 | some i =>
  rw [hp] at hw;obtain ⟨hf,hi,hv,hl⟩:=h.cY hp;show Ca.vw { c.set i { c.en i with u:=c.us+1 } with us:=c.us+1 } l=_;rw [h.kM (c.us+1) hi hw hv rfl hv];split
  ·rename_i q;rw [q,hl,bf hf];rfl
  ·rfl
theorem CI.Bm (h:CI lines c) (line l:Int):(c.mark line false).vw l=c.vw l:=by
 have hw:=h.mark line false;unfold Ca.mark at hw ⊢;rw [qg (by decide)] at hw ⊢;rw [lF] at hw ⊢;cases hp:c.pos line with
 | none=>rfl
 | some i =>
  rw [hp] at hw;obtain ⟨hf,hi,hv,hl⟩:=h.cY hp;show Ca.vw { c.set i { c.en i with r:=true } with us:=c.us } l=_;rw [h.kM c.us hi hw hv rfl hv];split
  ·rename_i q;rw [q,hl,bf hf];rfl
  ·rfl
theorem ON {line:Int} {i:Nat} (hp:c.pos line=some i) (hs:(c.en i).st=2):c.gq line 2=some i:=by
 unfold gq;rw [hp];simp only;rw [qg (λ q=>q.2 hs)]
theorem CI.px (h:CI lines c) (live:Bool) {a:Nat} {i:Nat} (hp:c.pos ((a / 8:Nat):Int)=some i) (hs:(c.en i).st=2) (y l:Int):((if live then c.mark ((a / 8:Nat):Int) true else c).put a y).vw l=if l=((a / 8:Nat):Int) then (c.vw l).put live (a % 8) y else c.vw l:=by
 obtain ⟨hf,hi,hv,hl⟩:=h.cY hp;have hput:∀ (c1:Ca),CI lines c1->c1.pos ((a / 8:Nat):Int)=some i->(c1.en i).st=2->(c1.put a y).vw l=if l=((a / 8:Nat):Int) then { c1.vw l with d:=(c1.vw l).d.put (a % 8) y } else c1.vw l:=by
  intro c1 h1 hp1 hs1;obtain ⟨hf1,hi1,hv1,hl1⟩:=h1.cY hp1;have hw:=h1.put a y;unfold Ca.put at hw ⊢;rw [ON hp1 hs1] at hw ⊢;show Ca.vw { c1.set i { c1.en i with u:=c1.us+1,d:=(c1.en i).d.put (a % 8) y } with us:=c1.us+1 } l=_;rw [h1.kM (c1.us+1) hi1 hw hv1 rfl hv1,hl1];split
  ·rename_i q;rw [q,bf hf1];rfl
  ·rfl
 cases live with
 | false =>
  rw [qg (by decide),hput c h hp hs];split
  ·unfold Vw.put;simp only [Bool.or_false,Bool.false_and,ko,qo]
  ·rfl
 | true =>
  rw [ql rfl];have hm:=h.mark ((a / 8:Nat):Int) true;have hmv:(c.mark ((a / 8:Nat):Int) true).pos ((a / 8:Nat):Int)=some i/\((c.mark ((a / 8:Nat):Int) true).en i).st=2 /\ ∀ l,(c.mark ((a / 8:Nat):Int) true).vw l=if l=((a / 8:Nat):Int) then { c.vw l with w:=true,o:=if (c.vw l).w then (c.vw l).o else (c.vw l).d } else c.vw l:=by
   unfold Ca.mark at hm ⊢;rw [ql rfl] at hm ⊢;rw [ON hp hs] at hm ⊢;simp only at hm ⊢;cases hw:(c.en i).w with
   | true =>
    rw [ql rfl];refine ⟨hp,hs,λ l=>?_⟩;split
    ·rename_i q;rw [q,bf hf];unfold En.vw;rw [hw];rfl
    ·rfl
   | false =>
    rw [hw] at hm;rw [qg (by decide)] at hm ⊢;have e1:(c.set i { c.en i with w:=true,o:=(c.en i).d }).en i = { c.en i with w:=true,o:=(c.en i).d }:=by rw [qF hi,ql rfl]
    refine ⟨?_,by rw [e1];exact hs,λ l=>?_⟩
    ·have:=hm.p9 (i:=i) (by show i<(c.sl.set i _).length;rw [qv];exact hi) (by rw [e1];exact hv);rw [e1] at this;rw [<-hl];exact this
    ·show Ca.vw { c.set i { c.en i with w:=true,o:=(c.en i).d } with us:=c.us } l=_;rw [h.kM c.us hi hm hv rfl hv,hl];split
     ·rename_i q;rw [q,bf hf];unfold En.vw;rw [hw];rfl
     ·rfl
  rw [hput _ hm hmv.1 hmv.2.1,hmv.2.2];split
  ·unfold Vw.put;cases (c.vw l).w<;>rfl
  ·rfl
theorem CI.si (h:CI lines c) (l:Int):c.bj.vw l=(c.vw l).kH:=by
 unfold Ca.vw;rw [show c.bj = { c with sl:=c.sl.map Ca.kH } from rfl,h.py h.bj q1j KY];cases hf:c.find l with
 | none=>rfl
 | some e=>show (Ca.kH e).vw=_;unfold Ca.kH;rw [qg (h.oi hf).1];rfl
theorem CI.pX (h:CI lines c) (l:Int):c.discard.vw l=(c.vw l).back:=by
 unfold Ca.vw;rw [show c.discard = { c with sl:=c.sl.map Ca.back } from rfl,h.py h.discard Lk Gm];cases hf:c.find l with
 | none=>rfl
 | some e=>show (Ca.back e).vw=_;unfold Ca.back;rw [qg (h.oi hf).1];rfl
theorem CI.nT (h:CI lines c) (line l:Int):(c.drop line).1.vw l=if l=line then .no else c.vw l:=by
 have hw:=h.drop line;unfold Ca.drop at hw ⊢;rw [lF] at hw ⊢;cases hp:c.pos line with
 | none =>
  show c.vw l=_;split
  ·rename_i q;rw [q,I1 (q33 hp)]
  ·rfl
 | some i =>
  rw [hp] at hw;obtain ⟨hf,hi,hv,hl⟩:=h.cY hp;show O2 ((c.set i .zero).find l)=_;rw [h.mC (c':=c.set i .zero) hw (qv) hi (λ j=>qF hi),qg (λ q=>q.1 rfl)]
  by_cases q:l=line
  ·rw [ql q,ql ⟨hv,by rw [hl,q]⟩];rfl
  ·rw [qg q,qg (λ w=>q (by rw [<-hl];exact w.2.symm))];rfl
theorem CI.sn (h:CI lines c) {line:Int} {i:Nat} (hp:c.pos line=some i) (hs:(c.en i).st=2) (hu:(c.en i).w=false) (l:Int):(c.bq line).1.vw l=(if l=line then { c.vw l with st:=1 } else c.vw l)/\(c.bq line).2=(c.vw line).d:=by
 have hw:=h.bq line (λ j hj=>by rw [hp] at hj;injection hj with hj;rw [<-hj];exact hu);unfold Ca.bq at hw ⊢;rw [ON hp hs] at hw ⊢;obtain ⟨hf,hi,hv,hl⟩:=h.cY hp;refine ⟨?_,by rw [bf hf];rfl⟩;show Ca.vw { c.set i { c.en i with st:=1 } with us:=c.us } l=_;rw [h.kM c.us hi hw hv rfl (by show (1:Int) ≠ 0;decide),hl];split
 ·rename_i q;rw [q,bf hf];rfl
 ·rfl
theorem CI.qB (h:CI lines c) {line:Int} {i:Nat} (hp:c.pos line=some i) (hs:(c.en i).st=1) (d:L8) (l:Int):(c.bH line d).vw l=if l=line then { c.vw l with st:=2,d:=d } else c.vw l:=by
 have hw:=h.bH line d;unfold Ca.bH at hw ⊢;have e:c.gq line 1=some i:=by unfold gq;rw [hp];simp only;rw [qg (λ q=>q.2 hs)]
 rw [e] at hw ⊢;obtain ⟨hf,hi,hv,hl⟩:=h.cY hp;show Ca.vw { c.set i { c.en i with st:=2,d:=d } with us:=c.us } l=_;rw [h.kM c.us hi hw hv rfl (by show (2:Int) ≠ 0;decide),hl];split
 ·rename_i q;rw [q,bf hf];rfl
 ·rfl
end
end Ca
end Go.Am
namespace Go.Am
namespace Ca
section
variable {lines:Int} {c:Ca}
theorem CI.B7 (h:CI lines c) {line st:Int} (h0:0<=line) (h1:line<lines) (hs:st=1\/st=2) (d:L8) {i:Nat} (hp:c.find line=none) (hr:c.room line=some i) :
 (c.fill line st d).2=(c.en i,0)/\i<c.sl.length/\((c.en i).st ≠ 0->c.find (c.en i).line=some (c.en i)/\(c.en i).line ≠ line/\(c.en i).r=false/\(c.en i).w=false) /\
 ∀ l,(c.fill line st d).1.vw l=if l=line then ⟨st,false,d,.zero⟩ else if (c.en i).st ≠ 0/\(c.en i).line=l then .no else c.vw l:=by
 have hpn:c.pos line=none:=by
  unfold find at hp;cases hq:c.pos line with
  | none=>rfl
  | some k=>rw [hq] at hp;cases hp
 have hw:=h.fill (st:=st) (x:=d) h0 h1 hs;obtain ⟨k,a,b,e⟩:=LL hr;have hi:i<c.sl.length:=by rw [b];exact h.gk line a
 have hn:=h.pC hpn;unfold Ca.fill at hw ⊢;rw [hpn] at hw ⊢;simp only at hw ⊢;rw [hr] at hw ⊢;refine ⟨rfl,hi,λ hv=>⟨h.cZ.2 ⟨i,hi,rfl,hv,rfl⟩,hn i hi hv,?_⟩,λ l=>?_⟩
 ·rcases e with e|e
  ·exact absurd e hv
  ·exact e
 ·show O2 (Ca.find { c.set i ⟨line,st,false,false,d,.zero,c.us+1⟩ with us:=c.us+1 } l)=_;rw [h.mC (c':={ c.set i ⟨line,st,false,false,d,.zero,c.us+1⟩ with us:=c.us+1 }) hw (qv) hi (λ j=>qF hi)];have hst:st ≠ 0:=by omega
  by_cases q:l=line
  ·rw [ql q,ql ⟨hst,q.symm⟩];rfl
  ·rw [qg q,qg (λ w=>q w.2.symm)];split<;>rfl
theorem qxw {line:Int}:∀ {n:Nat},c.eE line n=none -> ∀ j,j<n->(c.en (c.fr line+j)).r=true\/(c.en (c.fr line+j)).w=true
 | 0,_,j,hj=>by omega
 | n+1,h,j,hj=>by
  rw [eE] at h;split at h
  ·rename_i q;rcases zt j n with w|w
   ·exact qxw h j w
   ·have:j=n:=by omega
    subst this;simpa using q
  ·cases hb:c.eE line n with
   | none=>rw [hb] at h;cases h
   | some k=>rw [hb] at h;simp only at h;split at h<;>cases h
theorem qza {line:Int} (h:c.room line=none):∀ j,j<c.ways->(c.en (c.fr line+j)).st ≠ 0/\((c.en (c.fr line+j)).r=true\/(c.en (c.fr line+j)).w=true):=by
 intro j hj;unfold room at h;cases hf:b9 (c.free line) c.ways with
 | some i=>rw [hf] at h;cases h
 | none =>
  rw [hf] at h;simp only [Option.map_eq_none_iff] at h;refine ⟨?_,qxw h j hj⟩;have:=OZ hf j hj;unfold free at this
  simpa using this
theorem CI.qX (h:CI lines c) (hp:c.plain) (line:Int):∃ i,c.room line=some i:=by
 cases hr:c.room line with
 | some i=>exact ⟨i,rfl⟩
 | none =>
  obtain ⟨a,b⟩:=qza hr 0 h.w0;have hl:=h.gk line h.w0;have:=hp _ hl a;rw [this.1,this.2] at b;rcases b with b|b<;>cases b
theorem tV {line st:Int} {d:L8} (hp:c.find line=none):((c.fill line st d).2.2=22 ↔ c.room line=none):=by
 have hpn:c.pos line=none:=by
  unfold find at hp;cases hq:c.pos line with
  | none=>rfl
  | some k=>rw [hq] at hp;cases hp
 unfold Ca.fill;rw [hpn];show (match c.room line with|none=>(c,En.zero,(22:Int)) | some i=>({ c with us:=c.us+1,sl:=c.sl.set i ⟨line,st,false,false,d,.zero,c.us+1⟩ },c.en i,0)).2.2=22 ↔ _;cases c.room line with
 | none=>simp
 | some i=>simp
end
end Ca
open Ca
namespace No
def vw (n:No) (l:Int):Vw:=n.c.vw l
def st (n:No) (l:Int):Int:=(n.vw l).st
def Ab (n n':No) (l:Int):Prop:=n'.live=n.live/\n'.vw l=n.vw l\/n'.live=false/\n'.vw l=(n.vw l).back
theorem Ab.st {n n':No} {l:Int} (h:Ab n n' l):(n'.vw l).st=(n.vw l).st/\(n'.vw l).base=(n.vw l).base/\((n'.vw l).w=true->(n.vw l).w=true):=by
 rcases h with ⟨-,h⟩|⟨-,h⟩<;>rw [h]
 ·exact ⟨rfl,rfl,id⟩
 ·exact ⟨rfl,rfl,λ q=>by cases q⟩
theorem Ab.refl (n:No) (l:Int):Ab n n l:=.inl ⟨rfl,rfl⟩
structure Keep (n n':No):Prop where
 core:n'.core=n.core
 lines:n'.lines=n.lines
section
variable {n:No}
theorem Ff (h:n.NI) (k l:Int):(n.dO k).vw l=(n.vw l).back:=h.ci.pX l
theorem q6g (h:n.NI) (x:En) (too:Bool) (l:Int):(n.lost x too).vw l=if (x.w || (x.r && too))=true then (n.vw l).back else n.vw l:=by
 unfold lost
 by_cases q:(x.w || (x.r && too))=true
 ·rw [ql q,ql q];split<;>exact Ff h _ l
 ·rw [qg q,qg q]
theorem ID (x:En) (too:Bool):(n.lost x too).live=if (x.w || (x.r && too))=true then false else n.live:=by
 unfold lost
 by_cases q:(x.w || (x.r && too))=true
 ·rw [ql q,ql q];split<;>rfl
 ·rw [qg q,qg q]
theorem Nw (h:n.NI) (x:En) (too:Bool) (l:Int):Ab n (n.lost x too) l:=by
 by_cases q:(x.w || (x.r && too))=true
 ·exact .inr ⟨by rw [ID,ql q],by rw [q6g h,ql q]⟩
 ·exact .inl ⟨by rw [ID,qg q],by rw [q6g h,qg q]⟩
theorem L6 (x:En) (too:Bool):(n.lost x too).core=n.core/\(n.lost x too).lines=n.lines/\(n.lost x too).out=n.out/\(n.lost x too).aq=n.aq:=by
 unfold lost;split
 ·split<;>exact ⟨rfl,rfl,rfl,rfl⟩
 ·exact ⟨rfl,rfl,rfl,rfl⟩
theorem Cr {l:Int} (h:n.NI):((n.vw l).st=0 ↔ n.c.find l=none):=by
 unfold vw Ca.vw;cases hf:n.c.find l with
 | none=>exact ⟨λ _=>rfl,λ _=>rfl⟩
 | some e=>exact ⟨λ q=>absurd q (h.ci.oi hf).1,λ q=>by cases q⟩
theorem bf {l:Int} (h:n.NI) (hs:n.st l ≠ 0):∃ i,n.c.pos l=some i/\n.c.find l=some (n.c.en i)/\n.vw l=(n.c.en i).vw/\i<n.c.sl.length/\(n.c.en i).st=n.st l/\(n.c.en i).line=l:=by
 cases hf:n.c.find l with
 | none=>exact absurd ((Cr h).2 hf) hs
 | some e =>
  obtain ⟨i,hp,rfl⟩:=CS hf;have hv:n.vw l=(n.c.en i).vw:=by unfold vw;rw [Ca.bf hf]
  obtain ⟨-,hi,-,hl⟩:=h.ci.cY hp;exact ⟨i,hp,rfl,hv,hi,by unfold st;rw [hv];rfl,hl⟩
theorem Bj {k l:Int} (h1:n.out.k=0) (h2:l ∉ n.aq):n.ask k l=({ n with out:=n.msg k l },[n.msg k l]):=by
 unfold ask;rw [qg];rintro (q|q)
 ·exact q h1
 ·exact h2 q
theorem DZ {k l:Int} (h:¬ (n.out.k=0/\l ∉ n.aq)):n.ask k l=(n,[]):=by
 unfold ask;rw [ql]
 by_cases q:n.out.k=0
 ·exact .inr (vg.1 λ w=>h ⟨q,w⟩)
 ·exact .inl q
theorem wG (h:n.NI) {a:Int} (hm:n.may a) (hs:n.st (ln a) ≠ 0):(n.load a).2=(((n.vw (ln a)).d.get (a.toNat % 8)),true,[],0)/\(n.load a).1.core=n.core/\(n.load a).1.lines=n.lines/\(n.load a).1.out=n.out/\(n.load a).1.aq=n.aq/\(n.load a).1.live=n.live/\(n.load a).1.code=n.code /\ ∀ l,(n.load a).1.vw l=n.vw l:=by
 obtain ⟨i,hp,hf,hv,hi,-,hl⟩:=bf h hs;unfold load;rw [ql hm,hf];have hc:CI n.lines (if n.live=true then n.c.mark (ln a) false else n.c)/\(∀ l,(if n.live=true then n.c.mark (ln a) false else n.c).vw l=n.vw l):=by
  split
  ·exact ⟨h.ci.mark _ _,λ l=>h.ci.Bm _ l⟩
  ·exact ⟨h.ci,λ l=>rfl⟩
 generalize (if n.live=true then n.c.mark (ln a) false else n.c)=c1 at hc;refine ⟨?_,rfl,rfl,rfl,rfl,rfl,rfl,λ l=>?_⟩
 ·have h1:c1.vw (ln a)=n.vw (ln a):=hc.2 _;cases hf1:c1.find (ln a) with
  | none =>
   exfalso;apply hs;show (n.vw (ln a)).st=0;rw [<-h1,I1 hf1];rfl
  | some e1 =>
   obtain ⟨j,hp1,rfl⟩:=CS hf1;have e:(c1.word a.toNat).2=some ((c1.en j).d.get (a.toNat % 8)):=by
    unfold Ca.word;rw [show c1.pos ((a.toNat / 8:Nat):Int)=some j from hp1]
   simp only [e,wq];rw [<-h1,Ca.bf hf1];rfl
 ·show (c1.word a.toNat).1.vw l=_;rw [hc.1.oa,hc.2]
theorem q6e (h:n.NI) {a:Int} (hm:n.may a) (hs:n.st (ln a)=0):n.load a=((n.ask 1 (ln a)).1,0,false,(n.ask 1 (ln a)).2,0):=by
 unfold load;rw [ql hm,(Cr h).1 hs]
theorem Lp (h:n.NI) (l:Int):n.owned l=true ↔ n.st l=2:=by
 unfold owned;cases hf:n.c.find l with
 | none =>
  have:n.st l=0:=(Cr h).2 hf;rw [this];simp
 | some e =>
  have:n.st l=e.st:=by show (n.c.vw l).st=_;rw [Ca.bf hf];rfl
  rw [this];simp
theorem q7h (h:n.NI) {a:Int} (y:Int) (hm:n.may a) (hs:n.st (ln a)=2):(n.store a y).2=(true,[],0)/\(n.store a y).1.core=n.core/\(n.store a y).1.lines=n.lines/\(n.store a y).1.out=n.out/\(n.store a y).1.aq=n.aq/\(n.store a y).1.live=n.live/\(n.store a y).1.code=n.code /\ ∀ l,(n.store a y).1.vw l=if l=ln a then (n.vw l).put n.live (a.toNat % 8) y else n.vw l:=by
 obtain ⟨i,hp,hf,hv,hi,hst,hl⟩:=bf h (by rw [hs];decide);unfold store;rw [ql hm,ql ((Lp h _).2 hs)];exact ⟨rfl,rfl,rfl,rfl,rfl,rfl,rfl,λ l=>h.ci.px n.live hp (hst.trans hs) y l⟩
theorem q4f (h:n.NI) {a:Int} (y:Int) (hm:n.may a) (hs:n.st (ln a) ≠ 2):n.store a y=((n.ask 2 (ln a)).1,false,(n.ask 2 (ln a)).2,0):=by
 unfold store;rw [ql hm,qg (λ q=>hs ((Lp h _).1 q))]
theorem uZ (h:n.NI) {a:Int} (o y:Int) (hm:n.may a) (hl:n.live=false) (hs:n.st (ln a) ≠ 2):n.fq a o y=n.ask 2 (ln a):=by
 unfold fq;rw [ql hm,qg (by rw [hl];decide),qg (λ q=>hs ((Lp h _).1 q))]
theorem Bi (h:n.NI) {a:Int} (o y:Int) (hm:n.may a) (hl:n.live=false) (hs:n.st (ln a)=2):(n.fq a o y).2=[]/\(n.fq a o y).1.core=n.core/\(n.fq a o y).1.lines=n.lines/\(n.fq a o y).1.out=n.out/\(n.fq a o y).1.aq=n.aq/\(n.fq a o y).1.live=n.live/\(n.fq a o y).1.code=n.code /\
 (n.c.word a.toNat).2=some ((n.vw (ln a)).d.get (a.toNat % 8)) /\ ∀ l,(n.fq a o y).1.vw l=if l=ln a/\(n.vw l).d.get (a.toNat % 8)=o then (n.vw l).put false (a.toNat % 8) y else n.vw l:=by
 obtain ⟨i,hp,hf,hv,hi,hst,hll⟩:=bf h (by rw [hs];decide);have hw:(n.c.word a.toNat).2=some ((n.vw (ln a)).d.get (a.toNat % 8)):=by
  unfold Ca.word;rw [show n.c.pos ((a.toNat / 8:Nat):Int)=some i from hp,hv];rfl
 have e1:(n.c.word a.toNat).1=n.c.use i:=by
  unfold Ca.word;rw [show n.c.pos ((a.toNat / 8:Nat):Int)=some i from hp]
 unfold fq;rw [ql hm,qg (by rw [hl];decide),ql ((Lp h _).2 hs)];refine ⟨rfl,rfl,rfl,rfl,rfl,rfl,rfl,hw,λ l=>?_⟩;show (if (n.c.word a.toNat).2.getD 0=o then (n.c.word a.toNat).1.put a.toNat y else (n.c.word a.toNat).1).vw l=_;rw [hw,wq];have hci:=h.ci.word a.toNat
 by_cases q:(n.vw (ln a)).d.get (a.toNat % 8)=o
 ·rw [ql q];have hvw:∀ l,(n.c.word a.toNat).1.vw l=n.vw l:=λ l=>h.ci.oa _ l;have hsw:((n.c.word a.toNat).1.vw (ln a)).st=2:=by rw [hvw];exact hs
  cases hf1:(n.c.word a.toNat).1.find (ln a) with
  | none=>rw [I1 hf1] at hsw;exact absurd hsw (by decide)
  | some e2 =>
   obtain ⟨j,hp1,rfl⟩:=CS hf1;have hs2:((n.c.word a.toNat).1.en j).st=2:=by rw [Ca.bf hf1] at hsw;exact hsw
   have:=hci.px false hp1 hs2 y l;rw [qg (by decide)] at this;rw [this,hvw]
   by_cases w:l=ln a
   ·rw [ql (show l=((a.toNat / 8:Nat):Int) from w),ql ⟨w,by rw [w];exact q⟩]
   ·rw [qg (show ¬ l=((a.toNat / 8:Nat):Int) from w),qg (λ x=>w x.1)]
 ·rw [qg q,qg (λ x=>q (by rw [<-x.1];exact x.2))];exact h.ci.oa _ l
end
end No
end Go.Am
namespace Go.Am
open Ca
namespace No
section
variable {n:No}
structure Fp (n n':No):Prop where
 core:n'.core=n.core
 lines:n'.lines=n.lines
theorem IQ {l:Int} (h:n.NI) (hs:n.st l=0):n.vw l=.no:=I1 ((Cr h).1 hs)
theorem DO {m:Mg} (hc:m.core=n.core) (h0:0<=m.line) (h1:m.line<n.lines) (hh:n.cR m ((n.c.find m.line).getD .zero)):¬ (m.core ≠ n.core\/m.line<0\/n.lines<=m.line \/ ¬ n.cR m ((n.c.find m.line).getD .zero)):=by
 rintro (q|q|q|q)
 ·exact q hc
 ·omega
 ·omega
 ·exact q hh
theorem K8 (h:n.NI) (l:Int):((n.c.find l).getD .zero).st=n.st l/\((n.c.find l).getD .zero).w=(n.vw l).w:=by
 unfold st vw Ca.vw;cases n.c.find l<;>exact ⟨rfl,rfl⟩
theorem yY (h:n.NI) {m:Mg} (hc:m.core=n.core) (h0:0<=m.line) (h1:m.line<n.lines) (hk:m.k=11) (hs:n.st m.line ≠ 2) :
 (n.az m).2=[n.msg 4 m.line]/\Fp n (n.az m).1/\(n.az m).1.out=n.out/\(n.az m).1.aq=n.aq/\(n.az m).1.vw m.line=.no /\ ∀ l,l ≠ m.line->Ab n (n.az m).1 l:=by
 have hg:=DO hc h0 h1 (show n.cR m _ from .inl ⟨hk,by rw [(K8 h _).1];exact hs⟩);unfold az;rw [qg hg,ql hk];obtain ⟨e1,e2,e3,e4⟩:=L6 (n:=n) ((n.c.find m.line).getD .zero) true;have hl:=h.lost ((n.c.find m.line).getD .zero) true;have hv:∀ l,((n.lost ((n.c.find m.line).getD .zero) true).c.drop m.line).1.vw l=if l=m.line then .no else (n.lost ((n.c.find m.line).getD .zero) true).vw l:=λ l=>hl.ci.nT m.line l
 refine ⟨rfl,⟨e1,e2⟩,e3,e4,?_,λ l q=>?_⟩
 ·show ((n.lost ((n.c.find m.line).getD .zero) true).c.drop m.line).1.vw m.line=_;rw [hv,ql rfl]
 ·have:=Nw h ((n.c.find m.line).getD .zero) true l;unfold Ab at this ⊢;show (n.lost ((n.c.find m.line).getD .zero) true).live=n.live/\((n.lost ((n.c.find m.line).getD .zero) true).c.drop m.line).1.vw l=_\/(n.lost ((n.c.find m.line).getD .zero) true).live=false/\((n.lost ((n.c.find m.line).getD .zero) true).c.drop m.line).1.vw l=_;rw [hv,qg q];exact this
theorem kK (h:n.NI) {m:Mg} (hc:m.core=n.core) (h0:0<=m.line) (h1:m.line<n.lines) (hk:m.k=12\/m.k=13) (hs:n.st m.line=0):n.az m=(n,[n.msg 6 m.line]):=by
 have hg:=DO hc h0 h1 (show n.cR m _ from .inr (.inl ⟨hk,by rw [(K8 h _).1,hs];decide⟩));unfold az;rw [qg hg,qg (by omega),ql hk,(Cr h).1 hs]
theorem q0f (h:n.NI) {m:Mg} (hc:m.core=n.core) (h0:0<=m.line) (h1:m.line<n.lines) (hk:m.k=12) (hs:n.st m.line=2) :
 (n.az m).2=[⟨5,n.core,m.line,(n.vw m.line).base⟩]/\Fp n (n.az m).1/\(n.az m).1.out=n.out/\(n.az m).1.aq=n.aq/\((n.az m).1.vw m.line).st=1/\((n.az m).1.vw m.line).w=false/\((n.az m).1.vw m.line).d=(n.vw m.line).base /\
 ((n.az m).1.live=n.live/\(n.vw m.line).w=false\/(n.az m).1.live=false) /\ ∀ l,l ≠ m.line->Ab n (n.az m).1 l:=by
 have hg:=DO hc h0 h1 (show n.cR m _ from .inr (.inl ⟨.inl hk,by rw [(K8 h _).1,hs];decide⟩));obtain ⟨i,hp,hf,hv,hi,hst,hll⟩:=bf h (by rw [hs];decide);unfold az;rw [qg hg,qg (by omega),ql (.inl hk),hf];simp only;rw [ql hk];obtain ⟨e1,e2,e3,e4⟩:=L6 (n:=n) (n.c.en i) false;have hl:=h.lost (n.c.en i) false;have hpl:(n.lost (n.c.en i) false).c.pos m.line=some i:=by rw [Pk];exact hp
 have hw:((n.lost (n.c.en i) false).c.en i).w=false:=NU h hi (by rw [hst,hs];decide) rfl;obtain ⟨hf',hi',hv',hl'⟩:=hl.ci.cY hpl;have hvw:(n.lost (n.c.en i) false).vw m.line=((n.lost (n.c.en i) false).c.en i).vw:=Ca.bf hf';have hab:=Nw h (n.c.en i) false;have hs2:((n.lost (n.c.en i) false).c.en i).st=2:=by
  have:=(Ab.st (hab m.line)).1;rw [hvw] at this;exact this.trans hs
 have hb:((n.lost (n.c.en i) false).vw m.line).d=(n.vw m.line).base:=by
  have:=(Ab.st (hab m.line)).2.1;rw [<-this,hvw];unfold Vw.base En.vw;simp only;rw [hw];rfl
 have hd:=λ l=>hl.ci.sn hpl hs2 hw l;refine ⟨?_,⟨e1,e2⟩,e3,e4,?_,?_,?_,?_,λ l q=>?_⟩
 ·rw [(hd m.line).2];exact congrArg (λ x=>[(⟨5,n.core,m.line,x⟩:Mg)]) hb
 ·show (((n.lost (n.c.en i) false).c.bq m.line).1.vw m.line).st=1;rw [(hd _).1,ql rfl]
 ·show (((n.lost (n.c.en i) false).c.bq m.line).1.vw m.line).w=false;rw [(hd _).1,ql rfl];show ((n.lost (n.c.en i) false).vw m.line).w=false;rw [hvw];exact hw
 ·show (((n.lost (n.c.en i) false).c.bq m.line).1.vw m.line).d=_;rw [(hd _).1,ql rfl];exact hb
 ·show (n.lost (n.c.en i) false).live=n.live/\_\/(n.lost (n.c.en i) false).live=false;rw [ID]
  by_cases q:((n.c.en i).w || ((n.c.en i).r && false))=true
  ·rw [ql q];exact .inr rfl
  ·rw [qg q];refine .inl ⟨rfl,?_⟩;rw [hv];show (n.c.en i).w=false
   simpa using q
 ·have:=hab l;unfold Ab at this ⊢;show (n.lost (n.c.en i) false).live=n.live/\((n.lost (n.c.en i) false).c.bq m.line).1.vw l=_\/(n.lost (n.c.en i) false).live=false/\((n.lost (n.c.en i) false).c.bq m.line).1.vw l=_;rw [(hd l).1,qg q];exact this
theorem q0g (h:n.NI) {m:Mg} (hc:m.core=n.core) (h0:0<=m.line) (h1:m.line<n.lines) (hk:m.k=13) (hs:n.st m.line=2) :
 (n.az m).2=[⟨5,n.core,m.line,(n.vw m.line).base⟩]/\Fp n (n.az m).1/\(n.az m).1.out=n.out/\(n.az m).1.aq=n.aq/\(n.az m).1.vw m.line=.no /\
 ((n.az m).1.live=n.live/\(n.vw m.line).w=false\/(n.az m).1.live=false) /\ ∀ l,l ≠ m.line->Ab n (n.az m).1 l:=by
 have hg:=DO hc h0 h1 (show n.cR m _ from .inr (.inl ⟨.inr hk,by rw [(K8 h _).1,hs];decide⟩));obtain ⟨i,hp,hf,hv,hi,hst,hll⟩:=bf h (by rw [hs];decide);unfold az;rw [qg hg,qg (by omega),ql (.inr hk),hf];simp only;rw [qg (by omega)];obtain ⟨e1,e2,e3,e4⟩:=L6 (n:=n) (n.c.en i) true;have hl:=h.lost (n.c.en i) true;have hpl:(n.lost (n.c.en i) true).c.pos m.line=some i:=by rw [Pk];exact hp
 have hw:((n.lost (n.c.en i) true).c.en i).w=false:=NU h hi (by rw [hst,hs];decide) rfl;obtain ⟨hf',hi',hv',hl'⟩:=hl.ci.cY hpl;have hvw:(n.lost (n.c.en i) true).vw m.line=((n.lost (n.c.en i) true).c.en i).vw:=Ca.bf hf';have hab:=Nw h (n.c.en i) true;have hb:((n.lost (n.c.en i) true).c.en i).d=(n.vw m.line).base:=by
  have:=(Ab.st (hab m.line)).2.1;rw [<-this,hvw];unfold Vw.base En.vw;simp only;rw [hw];rfl
 have hd:=λ l=>hl.ci.nT m.line l;refine ⟨?_,⟨e1,e2⟩,e3,e4,?_,?_,λ l q=>?_⟩
 ·rw [q1n hpl];exact congrArg (λ x=>[(⟨5,n.core,m.line,x⟩:Mg)]) hb
 ·show ((n.lost (n.c.en i) true).c.drop m.line).1.vw m.line=_;rw [hd,ql rfl]
 ·show (n.lost (n.c.en i) true).live=n.live/\_\/(n.lost (n.c.en i) true).live=false;rw [ID]
  by_cases q:((n.c.en i).w || ((n.c.en i).r && true))=true
  ·rw [ql q];exact .inr rfl
  ·rw [qg q];refine .inl ⟨rfl,?_⟩;rw [hv];show (n.c.en i).w=false;cases hq:(n.c.en i).w with
   | false=>rfl
   | true=>rw [hq] at q;exact absurd rfl q
 ·have:=hab l;unfold Ab at this ⊢;show (n.lost (n.c.en i) true).live=n.live/\((n.lost (n.c.en i) true).c.drop m.line).1.vw l=_\/(n.lost (n.c.en i) true).live=false/\((n.lost (n.c.en i) true).c.drop m.line).1.vw l=_;rw [hd,qg q];exact this
theorem jY {m:Mg} (hc:m.core=n.core) (h0:0<=m.line) (h1:m.line<n.lines) (hk:m.k=16) (hb:m.line ∈ n.aq):n.az m=({ n with aq:=n.aq.filter (· ≠ m.line) },[]):=by
 have hg:=DO hc h0 h1 (show n.cR m _ from .inr (.inr (.inr (.inr ⟨hk,hb⟩))));unfold az;rw [qg hg,qg (by omega),qg (by omega),ql hk]
theorem AX (h:n.NI) {m:Mg} (hc:m.core=n.core) (h0:0<=m.line) (h1:m.line<n.lines) (hk:m.k=15) (ho:n.out=n.msg 2 m.line) (hs:n.st m.line=1) :
 (n.az m).2=[n.msg 7 m.line]/\Fp n (n.az m).1/\(n.az m).1.out=⟨0,0,0,.zero⟩/\(n.az m).1.aq=n.aq/\(n.az m).1.live=n.live /\ ∀ l,(n.az m).1.vw l=if l=m.line then { n.vw l with st:=2,d:=m.d } else n.vw l:=by
 have hg:=DO hc h0 h1 (show n.cR m _ from .inr (.inr (.inr (.inl ⟨hk,ho⟩))));obtain ⟨i,hp,hf,hv,hi,hst,hll⟩:=bf h (by rw [hs];decide);unfold az;rw [qg hg,qg (by omega),qg (by omega),qg (by omega),hf];exact ⟨rfl,⟨rfl,rfl⟩,rfl,rfl,rfl,λ l=>h.ci.qB hp (hst.trans hs) m.d l⟩
structure Kw (n n':No) (o:List Mg) (line st:Int) (d:L8):Prop where
 kp:Fp n n'
 out:n'.out=n.out
 new:n'.vw line=⟨st,false,d,.zero⟩
 go:(o=[]/\n'.aq=n.aq /\ ∀ l,l ≠ line->Ab n n' l) \/ ∃ b,b ≠ line/\0<=b/\b<n.lines/\n'.vw b=.no/\(∀ l,l ≠ line->l ≠ b->Ab n n' l)/\(n'.live=n.live/\(n.vw b).w=false\/n'.live=false) /\
  (n.st b=1/\o=[]/\n'.aq=n.aq\/n.st b=2/\o=[⟨3,n.core,b,(n.vw b).base⟩]/\n'.aq=n.aq ++ [b])
theorem qya (h:n.NI) {m:Mg} {st:Int} (hs:st=1\/st=2) (h0:0<=m.line) (h1:m.line<n.lines) (hz:n.st m.line=0) {i:Nat} (hr:n.c.room m.line=some i):Kw n (n.bV m st).1 (n.bV m st).2 m.line st m.d/\(n.bV m st).1.live=n.live:=by
 obtain ⟨e1,hi,e2,e3⟩:=h.ci.B7 h0 h1 hs m.d ((Cr h).1 hz) hr;unfold bV;rw [e1];simp only [sy]
 by_cases q:(n.c.en i).st ≠ 0
 ·rw [ql q];obtain ⟨hf,hne,hur,huw⟩:=e2 q;have hb:=h.ci.cZ.1 hf;obtain ⟨hok,hl0,hl1,-⟩:=h.ci.ok i hi q;have hvb:n.vw (n.c.en i).line=(n.c.en i).vw:=Ca.bf hf;have hbase:(n.vw (n.c.en i).line).base=(n.c.en i).d:=by rw [hvb];unfold Vw.base En.vw;simp only;rw [huw];rfl
  have hst:n.st (n.c.en i).line=(n.c.en i).st:=by show (n.vw (n.c.en i).line).st=_;rw [hvb];rfl
  refine ⟨?_,by rw [FZ]⟩;have hvn:∀ l,(gone { n with c:=(n.c.fill m.line st m.d).1 } (n.c.en i)).1.vw l=(n.c.fill m.line st m.d).1.vw l:=λ l=>by unfold gone;split<;>rfl
  refine ⟨⟨?_,?_⟩,?_,?_,.inr ⟨(n.c.en i).line,hne,hl0,hl1,?_,λ l a b=>.inl ⟨by rw [FZ],?_⟩,.inl ⟨by rw [FZ],?_⟩,?_⟩⟩
  ·unfold gone;split<;>rfl
  ·unfold gone;split<;>rfl
  ·unfold gone;split<;>rfl
  ·rw [hvn,e3,ql rfl]
  ·rw [hvn,e3,qg hne,ql ⟨q,rfl⟩]
  ·rw [hvn,e3,qg a,qg (λ w=>b w.2.symm)];rfl
  ·rw [hvb];exact huw
  ·unfold gone;rw [hst,hbase]
   by_cases w:(n.c.en i).st=2
   ·rw [ql w];exact .inr ⟨w,rfl,rfl⟩
   ·rw [qg w];exact .inl ⟨by omega,rfl,rfl⟩
 ·rw [qg q];refine ⟨⟨⟨rfl,rfl⟩,rfl,?_,.inl ⟨rfl,rfl,λ l a=>.inl ⟨rfl,?_⟩⟩⟩,rfl⟩
  ·show (n.c.fill m.line st m.d).1.vw m.line=_;rw [e3,ql rfl]
  ·show (n.c.fill m.line st m.d).1.vw l=_;rw [e3,qg a,qg (λ w=>q w.1)];rfl
theorem q5x (h:n.NI) {m:Mg} {st:Int} (hs:st=1\/st=2) (h0:0<=m.line) (h1:m.line<n.lines) (hz:n.st m.line=0):Kw n (n.fG m st).1 (n.fG m st).2 m.line st m.d:=by
 unfold fG
 by_cases q:(n.c.fill m.line st m.d).2.2=22
 ·rw [ql q];have ha:=h.dO 3;have hz':(n.dO 3).st m.line=0:=by show ((n.dO 3).vw m.line).st=0;rw [Ff h];exact hz
  obtain ⟨i,hr⟩:=ha.ci.qX (ha.pl rfl) m.line;obtain ⟨f,hlv⟩:=qya ha hs h0 h1 hz' hr;have hab:∀ l,Ab (n.dO 3) ((n.dO 3).bV m st).1 l->Ab n ((n.dO 3).bV m st).1 l:=λ l w=>by
   refine .inr ⟨hlv,?_⟩;rcases w with ⟨-,w⟩|⟨-,w⟩<;>rw [w,Ff h]
   unfold Vw.back Vw.base;rfl
  refine ⟨⟨f.kp.core,f.kp.lines⟩,f.out,f.new,?_⟩;rcases f.go with ⟨a,b,c⟩|⟨b,a1,a2,a3,a4,a5,a6,a7⟩
  ·exact .inl ⟨a,b,λ l w=>hab l (c l w)⟩
  ·refine .inr ⟨b,a1,a2,a3,a4,λ l w w2=>hab l (a5 l w w2),.inr hlv,?_⟩;have hb:(n.dO 3).st b=n.st b/\((n.dO 3).vw b).base=(n.vw b).base:=by
    unfold No.st;rw [Ff h];exact ⟨rfl,rfl⟩
   rw [hb.1,hb.2] at a7;exact a7
 ·rw [qg q];cases hr:n.c.room m.line with
  | none=>exact absurd ((tV ((Cr h).1 hz)).2 hr) q
  | some i=>exact (qya h hs h0 h1 hz hr).1
theorem qyh (h:n.NI) {m:Mg} (hc:m.core=n.core) (h0:0<=m.line) (h1:m.line<n.lines) (hk:m.k=14/\n.out=n.msg 1 m.line\/m.k=15/\n.out=n.msg 2 m.line) (hs:n.st m.line=0) :
 ∃ o,(n.az m).2=o ++ [n.msg 7 m.line]/\Kw { n with out:=⟨0,0,0,.zero⟩ } (n.az m).1 o m.line (if m.k=15 then 2 else 1) m.d:=by
 have hg:=DO hc h0 h1 (show n.cR m _ from by
  rcases hk with q|q
  ·exact .inr (.inr (.inl q))
  ·exact .inr (.inr (.inr (.inl q))))
 unfold az;rw [qg hg,qg (by omega),qg (by omega),qg (by omega),(Cr h).1 hs];refine ⟨_,rfl,?_⟩;exact q5x (n:={ n with out:=⟨0,0,0,.zero⟩ }) ⟨h.ci,h.pl⟩ (by split<;>simp) h0 h1 hs
theorem xE (h:n.NI) {l:Int} (hs:n.st l=0):n.aH l=(n,[]):=by
 unfold aH;split
 ·rfl
 ·rw [(Cr h).1 hs]
theorem q5o (h:n.NI) {line:Int} (hs:n.st line ≠ 0) :
 Fp n (n.aH line).1/\(n.aH line).1.out=n.out/\(n.aH line).1.vw line=.no/\(∀ l,l ≠ line->Ab n (n.aH line).1 l)/\((n.aH line).1.live=n.live/\(n.vw line).w=false\/(n.aH line).1.live=false) /\
 (n.st line=1/\(n.aH line).2=[]/\(n.aH line).1.aq=n.aq\/n.st line=2/\(n.aH line).2=[⟨3,n.core,line,(n.vw line).base⟩]/\(n.aH line).1.aq=n.aq ++ [line]):=by
 obtain ⟨i,hp,hf,hv,hi,hst,hll⟩:=bf h hs;obtain ⟨hok,hl0,hl1,-⟩:=h.ci.ok i hi (by rw [hst];exact hs);unfold aH;rw [qg (by rw [hll] at hl0 hl1;omega),hf];simp only;have hb:NI (if ((n.c.en i).r || (n.c.en i).w)=true then n.dO 4 else n)/\(if ((n.c.en i).r || (n.c.en i).w)=true then n.dO 4 else n).c.pos line=some i/\(∀ l,Ab n (if ((n.c.en i).r || (n.c.en i).w)=true then n.dO 4 else n) l) /\
  ((if ((n.c.en i).r || (n.c.en i).w)=true then n.dO 4 else n).live=n.live/\(n.c.en i).w=false\/(if ((n.c.en i).r || (n.c.en i).w)=true then n.dO 4 else n).live=false)/\((if ((n.c.en i).r || (n.c.en i).w)=true then n.dO 4 else n).c.en i).w=false /\
  (if ((n.c.en i).r || (n.c.en i).w)=true then n.dO 4 else n).core=n.core/\(if ((n.c.en i).r || (n.c.en i).w)=true then n.dO 4 else n).lines=n.lines/\(if ((n.c.en i).r || (n.c.en i).w)=true then n.dO 4 else n).out=n.out/\(if ((n.c.en i).r || (n.c.en i).w)=true then n.dO 4 else n).aq=n.aq:=by
  by_cases q:((n.c.en i).r || (n.c.en i).w)=true
  ·rw [ql q];have e:(n.dO 4).c.en i=Ca.back (n.c.en i):=D4 hi;refine ⟨h.dO 4,?_,λ l=>.inr ⟨rfl,Ff h 4 l⟩,.inr rfl,by rw [e];exact (JP (by rw [hst];exact hs)).2.1,rfl,rfl,rfl,rfl⟩;show Ca.pos { n.c with sl:=n.c.sl.map Ca.back } line=_;rw [q6y Lk Gm];exact hp
  ·rw [qg q];have hw:(n.c.en i).w=false:=by
    cases hq:(n.c.en i).w with
    | false=>rfl
    | true=>exact absurd (by rw [hq,Bool.or_true]) q
   exact ⟨h,hp,λ l=>.refl n l,.inl ⟨rfl,hw⟩,hw,rfl,rfl,rfl,rfl⟩
 generalize (if ((n.c.en i).r || (n.c.en i).w)=true then n.dO 4 else n)=n1 at hb;obtain ⟨h1,hp1,hab,hlv,hw,e1,e2,e3,e4⟩:=hb;obtain ⟨hf',hi',hv',hl'⟩:=h1.ci.cY hp1;have hvw:n1.vw line=(n1.c.en i).vw:=Ca.bf hf';have hs1:(n1.c.en i).st=n.st line:=by
  have:=(Ab.st (hab line)).1;rw [hvw] at this;exact this
 have hbs:(n1.c.en i).d=(n.vw line).base:=by
  have:=(Ab.st (hab line)).2.1;rw [<-this,hvw];unfold Vw.base En.vw;simp only;rw [hw];rfl
 rw [q1n hp1];have hvn:∀ l,(gone { n1 with c:=(n1.c.drop line).1 } (n1.c.en i)).1.vw l=if l=line then .no else n1.vw l:=λ l=>by
  have:(gone { n1 with c:=(n1.c.drop line).1 } (n1.c.en i)).1.vw l=(n1.c.drop line).1.vw l:=by unfold gone;split<;>rfl
  rw [this,h1.ci.nT];rfl
 have hlive:(gone { n1 with c:=(n1.c.drop line).1 } (n1.c.en i)).1.live=n1.live:=FZ;refine ⟨⟨?_,?_⟩,?_,?_,λ l q=>?_,?_,?_⟩
 ·rw [<-e1];unfold gone;split<;>rfl
 ·rw [<-e2];unfold gone;split<;>rfl
 ·rw [<-e3];unfold gone;split<;>rfl
 ·rw [hvn,ql rfl]
 ·have:=hab l;unfold Ab at this ⊢;rw [hlive,hvn,qg q];exact this
 ·rw [hlive,hv];exact hlv
 ·unfold gone;rw [<-hs1,<-hbs,<-e1,<-e4]
  by_cases w:(n1.c.en i).st=2
  ·rw [ql w,hl'];exact .inr ⟨w,rfl,rfl⟩
  ·rw [qg w];exact .inl ⟨by omega,rfl,rfl⟩
end
end No
end Go.Am
