/- LrQ5: PnA PaA PaB PaC PaD PaE. -/
import Derived.Test.YtbimikjajohflaaDoorAmQCodeQ
import Derived.Test.YtbimikjajohflaaDoorAmQLrQ0
import Derived.Test.YtbimikjajohflaaDoorAmQLrQp
import Derived.Test.YtbimikjajohflaaDoorAmQB4
import Derived.Test.YtbimikjajohflaaDoorAmQCodeQb
set_option linter.unusedVariables false
set_option linter.unusedSimpArgs false
set_option linter.unusedSectionVars false
set_option maxRecDepth 100000
namespace Go.Am
open Tr Go.Proofs
open Lang (dec)
variable {M:Mac} [MK M]
def DV (s:B) (m:Nat):Prop:=s ≠ []/\(∀ c ∈ s,48<=c.toNat/\c.toNat<=57)/\Tr.valOf s=m
def Pu (r:AV) (H:AHeap) (v:AV) (H':AHeap):Prop:=v=r/\H'=H
def EmQ (r:AV) (H:AHeap) (v:AV) (H':AHeap):Prop:=v=r/\Fr Em H H'
theorem qqc {H:AHeap} {s:B} (hl:s.length<1000000):y9 M jp [.str s] H (EmQ (.str s) H):=by
 refine qfn ?_
 by_cases hs:s.length=0
 ·have:s=[]:=jz.1 hs
  subst this
  have hl0:Op.lenStr [.str []]=some (.int .i64 0):=rfl
  simp only [↓qi,qy,reduceIte,Nat.reduceEqDiff,qb9,hl0]
  exact ⟨rfl,Fr.refl _⟩
 have e0:¬ ((s.length:Nat):Int)=0:=by omega
 have hb0:∀ k:Nat,k ≠ 0->Nat.beq k 0=false:=fun k hk=>by cases k with
  | zero=>exact absurd rfl hk
  | succ k=>rfl
 have hb1:∀ k:Nat,Nat.beq k k=true:=fun k=>by simp
 have hrepl:∀ n:Nat,(repl n [AV.int .u8 0]).length=n:=fun n=>by
  induction n with
  | zero=>rfl
  | succ n ih=>rw [repl,qat,qe,ih,qt];omega
 have hall:allOne (s.map fun c=>AV.int .u8 c.toNat)=true:=by rw [qex];simp [oneCell]
 have hcp:Op.copy 1 [Op.sliceTo s.length s.length H.next,.str s] (H.alloc (.row (repl s.length [.int .u8 0]) qae (0,0) true))=some (.int .i64 (s.length:Nat),H.alloc (.row (s.map fun c=>AV.int .u8 c.toNat) qae (0,0) true)):=by
  show ((lenV (Op.sliceTo s.length s.length H.next)).bind fun dn=>(lenV (.str s)).bind fun rn=>(firstCells (H.alloc (.row (repl s.length [.int .u8 0]) qae (0,0) true)) 1 (min rn dn) (.str s)).bind fun l =>
   cond (Nat.beq (min rn dn) 0) (some (goIntV 0,H.alloc (.row (repl s.length [.int .u8 0]) qae (0,0) true))) ((elemAt 1 (Op.sliceTo s.length s.length H.next) 0).bind fun p=>(AHeap.store (H.alloc (.row (repl s.length [.int .u8 0]) qae (0,0) true)) p.1 p.2 l).bind fun H'=>some (goIntV (min rn dn),H')))=_
  have h1:lenV (Op.sliceTo s.length s.length H.next)=some s.length:=rfl
  have h2:elemAt 1 (Op.sliceTo s.length s.length H.next) 0=some (H.next,0):=by
   show cond (Nat.blt 0 s.length) (some (H.next,0+0*1)) none=_
   rw [qfh (by omega)];rfl
  have h3:thawed (0,0) 0 s.length=true:=by simp [thawed]
  simp only [h1,qnv,qh,Nat.min_self,qok,hb0 _ hs,xl,h2,AHeap.store,hall,qq,jb,qbk,qn,h3,qd7,hrepl,ju,qf,vm,qsu]
  rw [qa9,zo,zx (by rw [hrepl];omega),j7,Int.min_self];rfl
 have hix:Op.indexSl 1 [Op.sliceTo s.length s.length H.next,.int .i64 0]=some (.ptr H.next 0):=by
  have hw:SlT encB 1 (H.alloc (.row (s.map fun c=>AV.int .u8 c.toNat) qae (0,0) true)) (.slice H.next 0 s.length s.length) s:=by
   have:=sl_row H (s.map fun c=>AV.int .u8 c.toNat) qae (0,0) true
   unfold SlT;rw [qkp];simpa using this
  obtain ⟨c,hc⟩:∃ c,s[0]? = some c:=⟨s[0]'(by omega),yr (by omega)⟩
  exact hw.idx hc rfl .i64
 have hst:Op.strOfPtr qae [.ptr H.next 0,.int .i64 (s.length:Nat)] (H.alloc (.row (s.map fun c=>AV.int .u8 c.toNat) qae (0,0) true))=some (.str s,(H.alloc (.row (s.map fun c=>AV.int .u8 c.toNat) qae (0,0) true)).set H.next (.row (s.map fun c=>AV.int .u8 c.toNat) qae (0,s.length) true)):=by
  have k1:eqI (s.length:Int) 0=false:=by rw [qia];exact qbg e0
  have k2:(ltI (s.length:Int) 0 || ltI 140737488355328 (s.length:Int))=false:=by rw [qio,qio];simp;omega
  have k4:takeAt (s.map fun c=>AV.int .u8 c.toNat) 0 s.length=some (s.map fun c=>AV.int .u8 c.toNat):=by
   rw [vk,xv (by simp),List.drop_zero,ji (by simp)]
  have k5:Op.fzJoin (0,0) 0 s.length=(0,s.length):=by
   show cond (Nat.beq 0 0) _ _=_
   rw [hb1];simp
  simp only [Op.strOfPtr,k1,k2,xl,jb,hb1,qq,Int.toNat_natCast,k4,qh,qul,k5]
 simp only [↓qi,qy,reduceIte,Nat.reduceEqDiff,qb9,e0,qzh qae 1 [.int .u8 0] s.length .i64 .i64 (by omega) (by omega),hcp,hix,hst]
 have hls:Op.lenSl [Op.sliceTo s.length s.length H.next]=some (.int .i64 (s.length:Nat)):=rfl
 simp only [↓qi,qy,reduceIte,Nat.reduceEqDiff,hls,hst]
 exact ⟨rfl,((Fr.refl H).alloc _).set (.inr (qf _)) _⟩
def ErrV (H:AHeap) (g:Nat):Prop:=g<H.next /\ ∃ x,H.cellsAt g=some [x]/\x.cells=[x]/\oneCell x=true
theorem ErrV.em {H H':AHeap} {g:Nat} (h:ErrV H g) (f:Fr Em H H'):ErrV H' g:=by
 obtain ⟨h0,x,h1,h2⟩:=h
 exact ⟨qj h0 f.next,x,by rw [f.cells h0 id,h1],h2⟩
def PtrQ (H:AHeap) (v:AV) (H':AHeap):Prop:=(∃ b,v=.ptr b 0)/\Fr Em H H'
theorem qyx {H H':AHeap} (f:Fr Em H H') {g:Nat} (h:g<H.next):H'.cellsAt g=H.cellsAt g:=f.cells h id
theorem qnh {H:AHeap} {f s:B} (hs:s.length<1000000) (he:ErrV H ky):y9 M yv [.str f,.str s] H (PtrQ H):=by
 refine qiw ?_
 obtain ⟨h0,x,h1,h2,h3⟩:=he
 have l1:Op.load1 [.ptr ky 0] H=some x:=by rw [vy h1];rfl
 simp only [↓qi,qy,reduceIte,Nat.reduceEqDiff,qe5,l1]
 refine C3.q (qqc (M:=M) hs) fun v H' ⟨hv,hf⟩=>?_
 subst hv
 have l2:Op.load1 [.ptr ky 0] H'=some x:=by rw [vy ((qyx hf h0).trans h1)];rfl
 have b1:Op.build [.str [],.str [],.nili] [(0,1),(1,1),(2,1)] [.str f,.str s,x]=some (.agg [.str f,.str s,x]):=by
  simp [Op.build,fillAt,h2,qd7,qbk];rfl
 simp only [↓qi,qy,reduceIte,Nat.reduceEqDiff,qe5,l2,b1,qki]
 exact ⟨⟨_,rfl⟩,hf.alloc _⟩
theorem qph {H:AHeap} {f s:B} (hs:s.length<1000000) (he:ErrV H yj):y9 M vg [.str f,.str s] H (PtrQ H):=by
 refine qjg ?_
 obtain ⟨h0,x,h1,h2,h3⟩:=he
 have l1:Op.load1 [.ptr yj 0] H=some x:=by rw [vy h1];rfl
 simp only [↓qi,qy,reduceIte,Nat.reduceEqDiff,qfg,l1]
 refine C3.q (qqc (M:=M) hs) fun v H' ⟨hv,hf⟩=>?_
 subst hv
 have l2:Op.load1 [.ptr yj 0] H'=some x:=by rw [vy ((qyx hf h0).trans h1)];rfl
 have b1:Op.build [.str [],.str [],.nili] [(0,1),(1,1),(2,1)] [.str f,.str s,x]=some (.agg [.str f,.str s,x]):=by
  simp [Op.build,fillAt,h2,qd7,qbk];rfl
 simp only [↓qi,qy,reduceIte,Nat.reduceEqDiff,qfg,l2,b1,qki]
 exact ⟨⟨_,rfl⟩,hf.alloc _⟩
theorem eqE (a b:Int) (H:AHeap):Op.eq (.ifaces (ifT Tryd.prog)) false [.iface xj (.int .i64 a),.iface xj (.int .i64 b)] H=some (.bool (decide (a=b))):=by
 have h:ifT Tryd.prog xj=some .int:=by kernel_rfl
 have hk:eqK .i64 .i64=true:=rfl
 simp [Op.eq,eqV,h,eqTree,hk,qia];rfl
def ErrQ (H:AHeap) (v:AV) (H':AHeap):Prop:=(∃ b,v=.iface qah (.ptr b 0))/\Fr Em H H'
theorem qua {H:AHeap} {f s:B} {x y:AV} {k:Int} (hs:s.length<1000000) (he:ErrV H ky) (he':ErrV H yj) (hk:k=1\/k=2) :
 y9 M qap [.str f,.str s,x,y,.iface xj (.int .i64 k)] H (ErrQ H):=by
 refine qmo ?_
 rcases hk with rfl|rfl
 ·simp only [↓qi,qy,reduceIte,Nat.reduceEqDiff,qho,eqE,Int.reduceEq]
  refine C3.q (qph (M:=M) hs he') fun v H' ⟨⟨b,hv⟩,hf⟩=>?_
  subst hv
  simp only [↓qi,qy,reduceIte,Nat.reduceEqDiff]
  exact ⟨⟨b,rfl⟩,hf⟩
 ·simp only [↓qi,qy,reduceIte,Nat.reduceEqDiff,qho,eqE,Int.reduceEq]
  refine C3.q (qnh (M:=M) hs he) fun v H' ⟨⟨b,hv⟩,hf⟩=>?_
  subst hv
  simp only [↓qi,qy,reduceIte,Nat.reduceEqDiff]
  exact ⟨⟨b,rfl⟩,hf⟩
theorem qx1 {s:B} {i:Nat} {c:UInt8} (h:s[i]? = some c):Tr.valOf (s.take (i+1))=Tr.valOf (s.take i)*10+(c.toNat-48):=by
 rw [List.take_add_one,h];exact q0l _ _
theorem qvu (s:B):∀ a:Nat,a<=s.foldl (fun a c=>a*10+(c.toNat-48)) a:=by
 induction s with
 | nil=>intro a;exact qf _
 | cons c s ih=>intro a;exact xw (show a<=a*10+(c.toNat-48) by omega) (ih _)
theorem qx2 (s:B) (i:Nat):Tr.valOf (s.take i)<=Tr.valOf s:=by
 conv=>rhs;rw [<-List.take_append_drop i s]
 unfold Tr.valOf
 rw [List.foldl_append]
 exact qvu _ _
theorem qmd {H:AHeap} {c:UInt8}:y9 M zu [.int .u8 c.toNat] H (Pu (.int .u8 ((c.toNat ||| 32:Nat):Int)) H):=by
 refine qhc ?_
 have e:Op.bin .or [.int .u8 (c.toNat:Int),.int .u8 32]=some (.int .u8 ((c.toNat ||| 32:Nat):Int)):=by
  have key:∀ n:Fin 256,wrapI .u8 ((BitVec.ofInt 8 ((n.1:Nat):Int) ||| BitVec.ofInt 8 32).toNat:Int)=((n.1 ||| 32:Nat):Int):=by decide +kernel
  have:=key ⟨c.toNat,c.toNat_lt⟩
  show some (AV.int .u8 (wrapI .u8 ((BitVec.ofInt 8 ((c.toNat:Nat):Int) ||| BitVec.ofInt 8 32).toNat:Int)))=_
  rw [this]
 simp only [↓qi,qy,reduceIte,Nat.reduceEqDiff,qhd,e]
 exact ⟨rfl,rfl⟩
def PuQ (s:B) (H:AHeap) (v:AV) (H':AHeap):Prop:=Fr Em H H' /\ ∃ (n:Nat) (err:AV),v=.tuple [.int .u64 (n:Nat),err]/\n<18446744073709551616/\(err=.nili \/ ∃ k:Int,(k=1\/k=2)/\err=.iface xj (.int .i64 k))/\(∀ m,DV s m->m<18446744073709551616->err=.nili/\n=m)/\(err=.nili -> ∀ m,DV s m->n=m)
theorem PuQ.bad {s:B} {H H':AHeap} (f:Fr Em H H') {n:Nat} (hn:n<18446744073709551616) {k:Int} (hk:k=1\/k=2) (h:∀ m,DV s m->m<18446744073709551616->False):PuQ s H (.tuple [.int .u64 (n:Nat),.iface xj (.int .i64 k)]) H' :=
 ⟨f,n,_,rfl,hn,.inr ⟨k,hk,rfl⟩,fun m h1 h2=>(h m h1 h2).elim,fun q=>by cases q⟩
theorem bytes_sl (H:AHeap) (s:B):SlT encB 1 (H.alloc (.grown s.length 1 (s.map fun b=>.int .u8 b.toNat) qae (1,0))) (.gslice H.next 0 s.length 1 0 s.length) s:=by
 unfold SlT
 rw [qkp]
 refine ⟨by simp,rfl,rfl,by omega,.inr ⟨by rw [jh];omega,_,qht (jb ..),?_⟩⟩
 rw [vk,xv (by simp)]
 simp [ji]
theorem qn1 {H:AHeap} {s:B} (hl:s.length<1000000):y9 M zw [.str s,.int .i64 10,.int .i64 64] H (PuQ s H):=by
 refine qfk ?_
 obtain ⟨w0,w2,w10,w14,w54,-,w66,-,w68,w81,w85,w87,w153,w92,w161,w98,w152,w104,w123,w116,w131,w139,w143,w151⟩:=qfl M ⟨none,zw⟩
 by_cases hs:s=[]
 ·subst hs
  simp only [↓qi,qy,reduceIte,Nat.reduceEqDiff,w0,w2]
  exact PuQ.bad (n:=0) (Fr.refl _) (by omega) (.inr rfl) fun m h _=>h.1 rfl
 have hbs:Op.bytesOfStr qae [.str s]=some (.grown s.length 1 (s.map fun b=>.int .u8 b.toNat) qae (1,0),Op.gsliceTo s.length s.length):=by
  show cond (Nat.ble s.length 140737488355328) _ none=_
  rw [w5 (by omega)];rfl
 have hsl:=bytes_sl H s
 have hgs:Op.gsliceTo s.length s.length H.next=.gslice H.next 0 s.length 1 0 s.length:=rfl
 have wsh:Op.bin .shl [.int .u64 1,.int .u64 64]=some (.int .u64 0):=by kernel_rfl
 have wm:wrapI .u64 (0-1)=18446744073709551615:=by decide +kernel
 have w64:wrapI .u64 64=64:=by decide +kernel
 simp only [↓qi,qy,reduceIte,Nat.reduceEqDiff,w0,w2,w10,w14,w54,w66,w68,w81,w85,w87,hs,Int.reduceEq,Int.reduceLE,Int.reduceLT,wsh,wm,w64,hbs,hgs,hsl.len]
 have hf1:Fr Em H (H.alloc (.grown s.length 1 (s.map fun b=>.int .u8 b.toNat) qae (1,0))):=(Fr.refl H).alloc _
 generalize (H.alloc (.grown s.length 1 (s.map fun b=>.int .u8 b.toNat) qae (1,0)))=H1 at *
 generalize (AV.gslice H.next 0 s.length 1 0 s.length)=a at *
 refine LOOP3.intro (fun n E Hx=>∃ i x:Nat,Hx=H1/\E=[(101,.int .i64 (i:Nat)),(100,.int .i64 (s.length:Nat)),(99,a),(13,.int .u64 (x:Nat)),(12,.bool false),(11,.int .u64 18446744073709551615),(10,.int .u64 1844674407370955162),(8,.bool false),(1,.int .i64 10)]/\n=s.length-i/\i<=s.length/\x<18446744073709551616 /\ ∀ m,DV s m->x=Tr.valOf (s.take i)) ?_ ?_
 ·exact ⟨_,_,⟨0,0,rfl,rfl,rfl,by omega,by omega,fun m _=>rfl⟩,by simp only [↓qi,qy,reduceIte,Nat.reduceEqDiff]⟩
 rintro n E Hx ⟨i,x,rfl,rfl,rfl,hi,hx,hgood⟩
 rcases j2 i s.length with hlt|hge
 ·obtain ⟨c,hc⟩:∃ c,s[i]? = some c:=⟨s[i],by simp [hlt]⟩
  have e1:(i:Int)<(s.length:Nat):=by omega
  have lx:Op.load1 [.ptr (slB a) (slO 1 a i)] Hx=some (.int .u8 c.toNat):=by rw [hsl.load0 encB_len hc (by omega)];rfl
  have wi:wrapI .i64 ((i:Int)+1)=((i+1:Nat):Int):=by rw [kr (by omega) (by omega)];omega
  have hdig:∀ m,DV s m->48<=c.toNat/\c.toNat<=57:=fun m hm=>hm.2.1 c (jv hc)
  have hval:=qx1 hc
  have hle:∀ m,DV s m->m<18446744073709551616->Tr.valOf (s.take (i+1))<18446744073709551616:=fun m hm hlt=>by
   have:=qx2 s (i+1)
   rw [hm.2.2] at this;omega
  have hcl:=c.toNat_lt
  simp only [↓qi,qy,reduceIte,Nat.reduceEqDiff,w92,w98,e1,hsl.idx hc rfl,lx]
  by_cases hd:48<=c.toNat/\c.toNat<=57
  ·obtain ⟨d1,d2⟩:=hd
   have c95:¬ (c.toNat:Int)=95:=by omega
   have c48:(48:Int)<=(c.toNat:Int):=by omega
   have c57:(c.toNat:Int)<=57:=by omega
   have wd:wrapI .u8 ((c.toNat:Int)-48)=((c.toNat-48:Nat):Int):=by rw [qms (by omega) (by omega)];omega
   have w10':wrapI .u8 10=10:=by decide +kernel
   have w10u:wrapI .u64 10=10:=by decide +kernel
   have cd:¬ (10:Int)<=((c.toNat-48:Nat):Int):=by omega
   by_cases hbig:1844674407370955162<=x
   ·have hb:(1844674407370955162:Int)<=(x:Int):=by omega
    simp only [↓qi,qy,reduceIte,Nat.reduceEqDiff,w104,w123,w131,c95,c48,c57,wd,w10',cd,hb]
    refine PuQ.bad (n:=18446744073709551615) hf1 (by omega) (.inl rfl) fun m hm hmlt=>?_
    have:=hle m hm hmlt;have:=hgood m hm;omega
   ·have hb:¬ (1844674407370955162:Int)<=(x:Int):=by omega
    have wm10:wrapI .u64 ((x:Int)*10)=((x*10:Nat):Int):=by rw [qg2 (by omega) (by omega)];omega
    have wdu:wrapI .u64 ((c.toNat-48:Nat):Int)=((c.toNat-48:Nat):Int):=w_u64 (by omega)
    by_cases hov:x*10+(c.toNat-48)<18446744073709551616
    ·have ws:wrapI .u64 (((x*10:Nat):Int)+((c.toNat-48:Nat):Int))=((x*10+(c.toNat-48):Nat):Int):=by rw [qg2 (by omega) (by omega)];omega
     have n1:¬ ((x*10+(c.toNat-48):Nat):Int)<((x*10:Nat):Int):=by omega
     have n2:¬ (18446744073709551615:Int)<((x*10+(c.toNat-48):Nat):Int):=by omega
     simp only [↓qi,qy,reduceIte,Nat.reduceEqDiff,w104,w123,w131,w139,w143,w151,w152,c95,c48,c57,wd,w10',w10u,cd,hb,wm10,wdu,ws,n1,n2,wi]
     exact ⟨_,_,⟨i+1,x*10+(c.toNat-48),rfl,rfl,by omega,hov,fun m hm=>by rw [hval,hgood m hm]⟩,by simp only [↓qi,qy,reduceIte,Nat.reduceEqDiff],by omega⟩
    ·have ws:wrapI .u64 (((x*10:Nat):Int)+((c.toNat-48:Nat):Int))=((x*10+(c.toNat-48)-18446744073709551616:Nat):Int):=by rw [qpv];omega
     have n1:((x*10+(c.toNat-48)-18446744073709551616:Nat):Int)<((x*10:Nat):Int):=by omega
     simp only [↓qi,qy,reduceIte,Nat.reduceEqDiff,w104,w123,w131,w139,w143,c95,c48,c57,wd,w10',w10u,cd,hb,wm10,wdu,ws,n1]
     refine PuQ.bad (n:=18446744073709551615) hf1 (by omega) (.inl rfl) fun m hm hmlt=>?_
     have:=hle m hm hmlt;have:=hgood m hm;omega
  ·have hbad:∀ m,DV s m->m<18446744073709551616->False:=fun m hm _=>hd (hdig m hm)
   have hlow:c.toNat ||| 32<256:=by
    have key:∀ n:Fin 256,n.1 ||| 32<256:=by decide +kernel
    exact key ⟨c.toNat,hcl⟩
   have go:∀ (E:Env) (QQ:Post3),lk E 15=some (.int .u8 c.toNat)->lk E 1=some (.int .i64 10)->(∀ E',QQ .ret ((7,.iface xj (.int .i64 2))::(6,.int .u64 0)::E') [] Hx)->W M ⟨none,zw⟩ (qd 116) true (BLK3 5 (SEQ3 (W M ⟨none,zw⟩ (qd 123)) QQ)) E [] Hx:=by
    intro E QQ q15 q1 hq
    simp only [↓qi,qy,reduceIte,Nat.reduceEqDiff,w116,q15]
    refine C3.q (qmd (M:=M)) fun v H2 ⟨hv,hH⟩=>?_
    subst hv;subst hH
    obtain ⟨d,hdd⟩:∃ d,d=c.toNat ||| 32:=⟨_,rfl⟩
    rw [<-hdd] at hlow ⊢
    by_cases hd1:97<=d
    ·have k1:(97:Int)<=(d:Int):=by omega
     simp only [↓qi,qy,reduceIte,Nat.reduceEqDiff,k1]
     refine C3.q (qmd (M:=M)) fun v H2 ⟨hv,hH⟩=>?_
     subst hv;subst hH
     rw [<-hdd]
     by_cases hd2:d<=122
     ·have k2:(d:Int)<=122:=by omega
      simp only [↓qi,qy,reduceIte,Nat.reduceEqDiff,k2,q15]
      refine C3.q (qmd (M:=M)) fun v H2 ⟨hv,hH⟩=>?_
      subst hv;subst hH
      rw [<-hdd]
      have u1:wrapI .u8 ((d:Int)-97)=((d-97:Nat):Int):=by rw [qms (by omega) (by omega)];omega
      have u2:wrapI .u8 (((d-97:Nat):Int)+10)=((d-97+10:Nat):Int):=by rw [qms (by omega) (by omega)];omega
      have u3:(10:Int)<=((d-97+10:Nat):Int):=by omega
      have w10':wrapI .u8 10=10:=by decide +kernel
      simp only [↓qi,qy,reduceIte,Nat.reduceEqDiff,u1,u2,w123,q1,w10',u3]
      exact hq _
     ·have k2:¬ (d:Int)<=122:=by omega
      simp only [↓qi,qy,reduceIte,Nat.reduceEqDiff,k2]
      exact hq _
    ·have k1:¬ (97:Int)<=(d:Int):=by omega
     simp only [↓qi,qy,reduceIte,Nat.reduceEqDiff,k1]
     exact hq _
   rcases (show c.toNat=95\/(c.toNat ≠ 95 /\ ¬ 48<=c.toNat)\/(c.toNat ≠ 95/\48<=c.toNat /\ ¬ c.toNat<=57) by omega) with h95|⟨h95,h48⟩|⟨h95,h48,h57⟩
   ·have c95:(c.toNat:Int)=95:=by omega
    have c48:(48:Int)<=(c.toNat:Int):=by omega
    have c57:¬ (c.toNat:Int)<=57:=by omega
    simp only [↓qi,qy,reduceIte,Nat.reduceEqDiff,w104,c48,c57,c95,Int.reduceLE]
    refine go _ _ (congrArg (fun z=>some (AV.int .u8 z)) c95.symm) rfl fun E'=>?_
    simp only [↓qi,qy,reduceIte,Nat.reduceEqDiff]
    exact PuQ.bad (n:=0) hf1 (by omega) (.inr rfl) hbad
   ·have c95:¬ (c.toNat:Int)=95:=by omega
    have c48:¬ (48:Int)<=(c.toNat:Int):=by omega
    simp only [↓qi,qy,reduceIte,Nat.reduceEqDiff,w104,c48,c95]
    refine go _ _ rfl rfl fun E'=>?_
    simp only [↓qi,qy,reduceIte,Nat.reduceEqDiff]
    exact PuQ.bad (n:=0) hf1 (by omega) (.inr rfl) hbad
   ·have c95:¬ (c.toNat:Int)=95:=by omega
    have c48:(48:Int)<=(c.toNat:Int):=by omega
    have c57:¬ (c.toNat:Int)<=57:=by omega
    simp only [↓qi,qy,reduceIte,Nat.reduceEqDiff,w104,c48,c57,c95]
    refine go _ _ rfl rfl fun E'=>?_
    simp only [↓qi,qy,reduceIte,Nat.reduceEqDiff]
    exact PuQ.bad (n:=0) hf1 (by omega) (.inr rfl) hbad
 ·have hi:i=s.length:=by omega
  subst hi
  have e1:¬ ((s.length:Nat):Int)<(s.length:Nat):=by omega
  simp only [↓qi,qy,reduceIte,Nat.reduceEqDiff,w92,w153,w161,e1]
  exact ⟨hf1,x,.nili,rfl,hx,.inl rfl,fun m hm hmlt=>⟨rfl,by rw [hgood m hm,qb1,hm.2.2]⟩,fun _ m hm=>by rw [hgood m hm,qb1,hm.2.2]⟩
structure Ers (H:AHeap):Prop where
 e1:ErrV H ky
 e2:ErrV H yj
theorem Ers.em {H H':AHeap} (h:Ers H) (f:Fr Em H H'):Ers H':=⟨h.e1.em f,h.e2.em f⟩
def PuN (s:B) (H:AHeap) (v:AV) (H':AHeap):Prop:=Fr Em H H' /\ ∃ (n:Nat) (err:AV),v=.tuple [.int .u64 (n:Nat),err]/\n<18446744073709551616/\(err=.nili \/ ∃ t b,err=.iface t (.ptr b 0))/\(∀ m,DV s m->m<18446744073709551616->err=.nili/\n=m)/\(err=.nili -> ∀ m,DV s m->n=m)
theorem eqN (H:AHeap) (q:Bool):Op.eq .iface q [.nili,.nili] H=some (.bool (!q)):=by cases q<;>rfl
theorem eqNi (H:AHeap) (q:Bool) (t:Nat) (x:AV):Op.eq .iface q [.iface t x,.nili] H=some (.bool q):=by cases q<;>rfl
theorem qjh {H:AHeap} {s:B} (hl:s.length<1000000) (ht:Ers H):y9 M vo [.str s,.int .i64 10,.int .i64 64] H (PuN s H):=by
 refine qke ?_
 simp only [↓qi,qy,reduceIte,Nat.reduceEqDiff,qbz]
 refine C3.q (qn1 (M:=M) hl) fun v H' ⟨hf,n,err,hv,hn,he,hg⟩=>?_
 subst hv
 rcases he with rfl|⟨k,hk,rfl⟩
 ·simp only [↓qi,qy,reduceIte,Nat.reduceEqDiff,qbz,vx,eqN]
  exact ⟨hf,n,.nili,rfl,hn,.inl rfl,hg.1,fun _=>hg.2 rfl⟩
 ·simp only [↓qi,qy,reduceIte,Nat.reduceEqDiff,qbz,vx,eqNi]
  refine C3.q (qua (M:=M) hl (ht.e1.em hf) (ht.e2.em hf) hk) fun v H2 ⟨⟨b,hv⟩,hf2⟩=>?_
  subst hv
  simp only [↓qi,qy,reduceIte,Nat.reduceEqDiff,qbz]
  exact ⟨hf.em hf2,n,_,rfl,hn,.inr ⟨_,_,rfl⟩,(fun m h1 h2=>nomatch (hg.1 m h1 h2).1),fun q=>nomatch q⟩
end Go.Am
namespace Go.Am
open Lang
structure NS (en:Nat) (H0 H:AHeap) (r T:Nat) (hd nv:AV) (p o:Int) (a b:Bool) (zs:List (Nd × AV)):Prop where
 row:H.get r=some (OR [hd,.int .i64 p,nv,.int .i64 o,.bool a,.bool b] T)
 lo:H0.next<=r
 hi:r<H.next
 nw:New encN en 3 H0 H nv zs
 kd:∀ z ∈ zs,SlT encI 1 H z.2 z.1.kids/\(z.1.kids.length=0\/slB z.2<H.next/\slB z.2 ≠ r /\ ¬ OnS nv (slB z.2))
 off:¬ OnS nv r
structure PK (r:Nat) (nv:AV) (zs:List (Nd × AV)) (H:AHeap) (nv':AV) (zs':List (Nd × AV)) (H':AHeap):Prop where
 fr:Fr (fun c=>c=r\/OnS nv c) H H'
 on:∀ b,OnS nv' b->OnS nv b\/H.next<=b
 nx:∃ ys,zs'=zs++ys /\ ∀ z ∈ ys,z.1.kids.length=0\/H.next<=slB z.2
structure Bs (H:AHeap) (r:Nat) (nv:AV) (zs:List (Nd × AV)) (c:Nat):Prop where
 lt:c<H.next
 nr:c ≠ r
 ns:¬ OnS nv c
 nk:∀ z ∈ zs,z.1.kids.length=0\/slB z.2 ≠ c
section
variable {en r T c:Nat} {H0 H H' H2:AHeap} {hd nv nv' nv2:AV} {p o:Int} {a b:Bool} {zs zs' zs2:List (Nd × AV)}
theorem PK.em (f:Fr Em H H'):PK r nv zs H nv zs H':=⟨f.mono fun _ _ q=>q.elim,fun b q=>.inl q,[],by simp,fun z hz=>by cases hz⟩
theorem PK.refl:PK r nv zs H nv zs H:=PK.em (Fr.refl H)
theorem PK.trans (h:PK r nv zs H nv' zs' H') (g:PK r nv' zs' H' nv2 zs2 H2):PK r nv zs H nv2 zs2 H2:=by
 obtain ⟨ys,h1,h2⟩:=h.nx
 obtain ⟨ws,g1,g2⟩:=g.nx
 refine ⟨h.fr.trans g.fr fun x q=>q.elim (fun q=>.inl (.inl q)) fun q=>(h.on x q).imp (fun q=>.inr q) id,fun b q=>(g.on b q).elim (h.on b) fun q=>.inr (xw h.fr.next q),ys++ws,by rw [g1,h1,qu],fun z hz=>?_⟩
 rcases xm.1 hz with q|q
 ·exact h2 z q
 ·exact (g2 z q).imp id fun w=>xw h.fr.next w
theorem Bs.step (h:Bs H r nv zs c) (k:PK r nv zs H nv' zs' H'):Bs H' r nv' zs' c:=by
 obtain ⟨ys,k1,k2⟩:=k.nx
 refine ⟨qj h.lt k.fr.next,h.nr,fun q=>(k.on c q).elim h.ns fun q=>by have:=h.lt;omega,fun z hz=>?_⟩
 rw [k1] at hz
 rcases xm.1 hz with q|q
 ·exact h.nk z q
 ·exact (k2 z q).imp id fun w=>by have:=h.lt;omega
theorem Bs.keep (h:Bs H r nv zs c) (k:PK r nv zs H nv' zs' H'):H'.get c=H.get c:=k.fr.keep c h.lt fun q=>q.elim h.nr h.ns
theorem NS.em (h:NS en H0 H r T hd nv p o a b zs) (f:Fr Em H H'):NS en H0 H' r T hd nv p o a b zs :=
 ⟨by rw [f.keep r h.hi id];exact h.row,h.lo,qj h.hi f.next,h.nw.em f,fun z hz=>⟨(h.kd z hz).1.em f,(h.kd z hz).2.imp id fun w=>⟨qj w.1 f.next,w.2⟩⟩,h.off⟩
theorem NS.ld (h:NS en H0 H r T hd nv p o a b zs) (i:Nat):Op.load1 [.ptr r i] H=[hd,.int .i64 p,nv,.int .i64 o,.bool a,.bool b][i]?:=vy (kh h.row) i
theorem NS.bs (h:NS en H0 H r T hd nv p o a b zs) (f:Fr Em H H') (h1:H.next<=c) (h2:c<H'.next):Bs H' r nv zs c :=
 ⟨h2,by have:=h.hi;omega,fun q=>by have:=Own.lt h.nw.own _ q;omega,fun z hz=>(h.kd z hz).2.imp id fun w=>by have:=w.1;omega⟩
theorem NS.only (h:NS en H0 H r T hd nv p o a b zs) {W:Nat->Prop} (f:Fr W H H') (hw:∀ c,W c->Bs H r nv zs c/\H0.next<=c):NS en H0 H' r T hd nv p o a b zs:=by
 refine ⟨by rw [f.keep r h.hi fun q=>(hw r q).1.nr rfl];exact h.row,h.lo,qj h.hi f.next,⟨Own.fr h.nw.own f fun x hx q=>(hw x q).1.ns hx,h.nw.fr.trans f fun x hx=>.inr (hw x hx).2,h.nw.fresh⟩,fun z hz=>?_,h.off⟩
 obtain ⟨k1,k2⟩:=h.kd z hz
 rcases k2 with k2|k2
 ·exact ⟨Sl.fr k1 f (.inl k2),.inl k2⟩
 ·by_cases hq:W (slB z.2)
  ·rcases (hw _ hq).1.nk z hz with q|q
   ·exact ⟨Sl.fr k1 f (.inl q),.inl q⟩
   ·exact (q rfl).elim
  ·exact ⟨Sl.fr k1 f (.inr hq),.inr ⟨qj k2.1 f.next,k2.2⟩⟩
theorem NS.set (h:NS en H0 H r T hd nv p o a b zs) (p' o':Int) (a' b':Bool):NS en H0 (H.set r (OR [hd,.int .i64 p',nv,.int .i64 o',.bool a',.bool b'] T)) r T hd nv p' o' a' b' zs/\PK r nv zs H nv zs (H.set r (OR [hd,.int .i64 p',nv,.int .i64 o',.bool a',.bool b'] T)):=by
 have f:Fr (On r) H (H.set r (OR [hd,.int .i64 p',nv,.int .i64 o',.bool a',.bool b'] T)):=(Fr.refl H).set (W:=On r) (.inl rfl) _
 refine ⟨⟨yk ..,h.lo,h.hi,⟨Own.fr h.nw.own f fun x hx q=>h.off (by rw [<-show x=r from q];exact hx),h.nw.fr.trans f fun x hx=>.inr (by rw [show x=r from hx];exact h.lo),h.nw.fresh⟩,fun z hz=>?_,h.off⟩,⟨f.mono fun _ _ q=>.inl q,fun b q=>.inl q,[],by simp,fun z hz=>by cases hz⟩⟩
 obtain ⟨k1,k2⟩:=h.kd z hz
 exact ⟨Sl.fr k1 f (k2.imp id fun w q=>w.2.1 q),k2⟩
theorem NS.st1 (h:NS en H0 H r T hd nv p o a b zs) (p':Int):Op.store 1 [.ptr r 1,.int .i64 p'] H=some (.undef,H.set r (OR [hd,.int .i64 p',nv,.int .i64 o,.bool a,.bool b] T)):=qc7 h.row (o:=1) (n:=1) (v:=.int .i64 p') rfl (by simp) rfl
theorem NS.st3 (h:NS en H0 H r T hd nv p o a b zs) (o':Int):Op.store 1 [.ptr r 3,.int .i64 o'] H=some (.undef,H.set r (OR [hd,.int .i64 p,nv,.int .i64 o',.bool a,.bool b] T)):=qc7 h.row (o:=3) (n:=1) (v:=.int .i64 o') rfl (by simp) rfl
theorem NS.st4 (h:NS en H0 H r T hd nv p o a b zs) (a':Bool):Op.store 1 [.ptr r 4,.bool a'] H=some (.undef,H.set r (OR [hd,.int .i64 p,nv,.int .i64 o,.bool a',.bool b] T)):=qc7 h.row (o:=4) (n:=1) (v:=.bool a') rfl (by simp) rfl
theorem NS.st5 (h:NS en H0 H r T hd nv p o a b zs) (b':Bool):Op.store 1 [.ptr r 5,.bool b'] H=some (.undef,H.set r (OR [hd,.int .i64 p,nv,.int .i64 o,.bool a,.bool b'] T)):=qc7 h.row (o:=5) (n:=1) (v:=.bool b') rfl (by simp) rfl
theorem NS.putn (h:NS en H0 H r T hd nv p o a b zs) {H1:AHeap} {z:Nd × AV} (n:New encN en 3 H0 H1 nv' (zs ++ [z])) (k1:Fr (OnS nv) H H1) (k2:∀ b,OnS nv' b->OnS nv b\/H.next<=b) (hk:SlT encI 1 H z.2 z.1.kids) (hb:z.1.kids.length=0\/Bs H r nv zs (slB z.2)) :
 ∃ H2,Op.store 1 [.ptr r 2,nv'] H1=some (.undef,H2)/\NS en H0 H2 r T hd nv' p o a b (zs ++ [z])/\Fr (fun c=>c=r\/OnS nv c) H H2/\H2=H1.set r (OR [hd,.int .i64 p,nv',.int .i64 o,.bool a,.bool b] T):=by
 have hr:H1.get r=some (OR [hd,.int .i64 p,nv,.int .i64 o,.bool a,.bool b] T):=by rw [k1.keep r h.hi h.off];exact h.row
 have hn:=k1.next
 have hi:=h.hi
 have o1:=n.sl.one
 have nr:¬ OnS nv' r:=fun q=>(k2 r q).elim h.off fun q=>by omega
 have oc:nv'.cells=[nv']:=by cases nv'<;>first|rfl|cases o1
 have st:=qc7 hr (o:=2) (n:=1) (v:=nv') (by rw [oc];rfl) (by simp) (by rw [oc];exact (by rw [qex,List.all_cons,o1];rfl))
 rw [oc] at st
 have f:Fr (On r) H1 (H1.set r (OR [hd,.int .i64 p,nv',.int .i64 o,.bool a,.bool b] T)):=(Fr.refl H1).set (W:=On r) (.inl rfl) _
 refine ⟨_,st,⟨yk ..,h.lo,qj hi hn,⟨Own.fr n.own f fun x hx q=>nr (by rw [<-show x=r from q];exact hx),n.fr.trans f fun x hx=>.inr (by rw [show x=r from hx];exact h.lo),n.fresh⟩,fun w hw=>?_,nr⟩,(k1.mono fun _ _ q=>.inr q).trans f fun x hx=>.inl (.inl hx),rfl⟩
 have old:∀ w:Nd × AV,SlT encI 1 H w.2 w.1.kids->(w.1.kids.length=0\/slB w.2<H.next/\slB w.2 ≠ r /\ ¬ OnS nv (slB w.2))->SlT encI 1 (H1.set r (OR [hd,.int .i64 p,nv',.int .i64 o,.bool a,.bool b] T)) w.2 w.1.kids/\(w.1.kids.length=0\/slB w.2<H1.next/\slB w.2 ≠ r /\ ¬ OnS nv' (slB w.2)):=fun w s1 s2 =>
  ⟨Sl.fr (Sl.fr s1 k1 (s2.imp id fun q=>q.2.2)) f (s2.imp id fun q w=>q.2.1 w),s2.imp id fun q=>⟨qj q.1 hn,q.2.1,fun w=>(k2 _ w).elim q.2.2 fun w=>by have:=q.1;omega⟩⟩
 rcases xm.1 hw with q|q
 ·exact old w (h.kd w q).1 (h.kd w q).2
 ·rw [xp] at q;subst q
  exact old w hk (hb.imp id fun q=>⟨q.lt,q.nr,q.ns⟩)
end
def VOK (x:It) (zs zs':List (Nd × AV)) (τ:PS) (v:AV):Prop:=match τ with
 | .ok _=>v=.int .i64 ((zs.length+x.sz-1:Nat):Int)/\zs'.map (·.1)=zs.map (·.1)++x.enc zs.length
 | .bad _=>∃ i:Int,v=.int .i64 i
theorem VOK.int {x:It} {zs zs':List (Nd × AV)} {τ:PS} {v:AV} (h:VOK x zs zs' τ v):∃ i:Int,v=.int .i64 i:=by
 cases τ with
 | ok L=>exact ⟨_,h.1⟩
 | bad L=>exact h
end Go.Am
namespace Go.Am
open Lang Go.Proofs
variable {M:Mac} [MK M]
def encT (x:Tk × Int × Int):List AV:=[.str x.1,.int .i64 x.2.1,.int .i64 x.2.2]
theorem qnm (x:Tk × Int × Int):(encT x).length=3:=rfl
structure TKs (S:List Tk) (rs:List (Tk × Int × Int)):Prop where
 tk:∀ (i:Nat) (L:Tk),S[i]? = some L -> ∃ l c,rs[i]? = some (tok L,l,c)
 nx:∀ (i:Nat) (L:Tk),S[i]? = some L->L ≠ []->S[i+1]? = some (adv L)
 sm:S.length<=100000000
 sh:∀ L ∈ S,(tok L).length<1000000
structure RBk where
 H0:AHeap
 r:Nat
 lv:AV
 S:List Tk
 rs:List (Tk × Int × Int)
structure RS (c:RBk) (H:AHeap) (nv:AV) (zs:List (Nd × AV)) (σ:PS) (k o:Nat) (a:Bool):Prop where
 ns:∃ (o1:Int) (a1:Bool),NS qdn c.H0 H c.r vw c.lv nv (k:Int) o1 a1 σ.isBad zs/\(σ.isBad=false->o1=(o:Int)/\a1=a)
 tk:SlT encT 3 H c.lv c.rs
 tb:c.rs.length=0\/Bs H c.r nv zs (slB c.lv)
 ps:c.S[k]? = some σ.left
section
variable {c:RBk} {H H':AHeap} {nv nv':AV} {zs zs':List (Nd × AV)} {σ τ:PS} {k k' o o':Nat} {a a':Bool}
theorem RS.up (h:RS c H nv zs σ k o a) (pk:PK c.r nv zs H nv' zs' H') (n:∃ (o1:Int) (a1:Bool),NS qdn c.H0 H' c.r vw c.lv nv' (k':Int) o1 a1 τ.isBad zs'/\(τ.isBad=false->o1=(o':Int)/\a1=a')) (p:c.S[k']? = some τ.left):RS c H' nv' zs' τ k' o' a' :=
 ⟨n,Sl.fr h.tk pk.fr (h.tb.imp id fun q w=>w.elim q.nr q.ns),h.tb.imp id fun q=>q.step pk,p⟩
theorem RS.em (h:RS c H nv zs σ k o a) (f:Fr Em H H'):RS c H' nv zs σ k o a:=by
 obtain ⟨o1,a1,n,q⟩:=h.ns
 exact h.up (PK.em f) ⟨o1,a1,n.em f,q⟩ h.ps
theorem RS.bad {L:Tk} (h:RS c H nv zs (.bad L) k o a):RS c H nv zs (.bad L) k o' a':=by
 obtain ⟨o1,a1,n,q⟩:=h.ns
 exact ⟨⟨o1,a1,n,fun q=>by cases q⟩,h.tk,h.tb,h.ps⟩
theorem RS.ld5 (h:RS c H nv zs σ k o a):Op.load1 [.ptr c.r 5] H=some (.bool σ.isBad):=by
 obtain ⟨o1,a1,n,q⟩:=h.ns
 exact n.ld 5
theorem RS.ld1 (h:RS c H nv zs σ k o a):Op.load1 [.ptr c.r 1] H=some (.int .i64 (k:Nat)):=by
 obtain ⟨o1,a1,n,q⟩:=h.ns
 exact n.ld 1
theorem RS.ld2 (h:RS c H nv zs σ k o a):Op.load1 [.ptr c.r 2] H=some nv:=by
 obtain ⟨o1,a1,n,q⟩:=h.ns
 exact n.ld 2
theorem RS.ld4 {L:Tk} (h:RS c H nv zs (.ok L) k o a):Op.load1 [.ptr c.r 4] H=some (.bool a):=by
 obtain ⟨o1,a1,n,q⟩:=h.ns
 obtain ⟨-,rfl⟩:=q rfl
 exact n.ld 4
theorem RS.sz (h:RS c H nv zs σ k o a) (hT:TKs c.S c.rs):k<=100000000:=by
 have:=(xb.1 h.ps).1
 have:=hT.sm;omega
theorem RS.adv {L:Tk} (h:RS c H nv zs (.ok L) k o a) (hT:TKs c.S c.rs) (hL:tok L ≠ []):wrapI .i64 ((k:Int)+1)=((k+1:Nat):Int) /\ ∃ H',Op.store 1 [.ptr c.r 1,.int .i64 (k+1:Nat)] H=some (.undef,H')/\RS c H' nv zs (.ok (Lang.adv L)) (k+1) o a/\PK c.r nv zs H nv zs H':=by
 obtain ⟨o1,a1,n,q⟩:=h.ns
 have:=h.sz hT
 obtain ⟨n1,n2⟩:=n.set ((k+1:Nat):Int) o1 a1 false
 refine ⟨by rw [kr (by omega) (by omega)];omega,_,n.st1 _,h.up n2 ⟨o1,a1,n1,q⟩ (hT.nx k L h.ps (qav hL)),n2⟩
theorem RS.atm {L:Tk} (h:RS c H nv zs (.ok L) k o a) (a':Bool):∃ H',Op.store 1 [.ptr c.r 4,.bool a'] H=some (.undef,H')/\RS c H' nv zs (.ok L) k o a'/\PK c.r nv zs H nv zs H':=by
 obtain ⟨o1,a1,n,q⟩:=h.ns
 obtain ⟨n1,n2⟩:=n.set (k:Int) o1 a' false
 exact ⟨_,n.st4 _,h.up n2 ⟨o1,a',n1,fun w=>⟨(q w).1,rfl⟩⟩ h.ps,n2⟩
theorem RS.atmB {L:Tk} (h:RS c H nv zs (.bad L) k o a) (a':Bool):∃ H',Op.store 1 [.ptr c.r 4,.bool a'] H=some (.undef,H')/\RS c H' nv zs (.bad L) k o a/\PK c.r nv zs H nv zs H':=by
 obtain ⟨o1,a1,n,q⟩:=h.ns
 obtain ⟨n1,n2⟩:=n.set (k:Int) o1 a' true
 exact ⟨_,n.st4 _,h.up n2 ⟨o1,a',n1,fun w=>by cases w⟩ h.ps,n2⟩
end
section
variable {c:RBk} {H:AHeap} {nv:AV} {zs:List (Nd × AV)} {σ:PS} {k o:Nat} {a:Bool}
theorem qcs (h:RS c H nv zs σ k o a) (hT:TKs c.S c.rs):y9 M jx [.ptr c.r 0] H fun v H'=>v=.str (tok σ.left)/\H'=H:=by
 refine ql9 ?_
 obtain ⟨o1,a1,n,q⟩:=h.ns
 obtain ⟨l,cc,ht⟩:=hT.tk k _ h.ps
 have ix:=h.tk.idx ht rfl .i64 (z:=(k:Int))
 have l0:Op.load1 [.ptr c.r 0] H=some c.lv:=n.ld 0
 have l1:=h.ld1
 have l2:Op.load1 [.ptr (slB c.lv) (slO 3 c.lv k)] H=some (.str (tok σ.left)):=h.tk.load0 qnm ht (by decide)
 simp only [↓qi,qy,reduceIte,Nat.reduceEqDiff,qma,qg,l0,l1,ix,l2]
theorem qij {L:Tk} (h:RS c H nv zs σ k o a) (hL:σ.left=L) {o':Nat} {a':Bool}:y9 M z7 [.ptr c.r 0] H fun v H'=>v=.int .i64 0/\RS c H' nv zs (.bad L) k o' a'/\PK c.r nv zs H nv zs H':=by
 refine qk0 ?_
 obtain ⟨o1,a1,n,q⟩:=h.ns
 obtain ⟨n1,n2⟩:=n.set (k:Int) o1 a1 true
 simp only [↓qi,qy,reduceIte,Nat.reduceEqDiff,qk1,qg,n.st5]
 exact ⟨h.up n2 ⟨o1,a1,n1,fun q=>by cases q⟩ (by rw [h.ps,hL];rfl),n2⟩
def Opn (s:Tk) (o o':Nat):Prop:=(s=[40]\/s=[123])/\o'=o+1\/(s=[41]\/s=[125])/\o=o'+1\/(s ≠ [40]/\s ≠ [123]/\s ≠ [41]/\s ≠ [125])/\o'=o
theorem qee {s:Tk} (hs:s ≠ []) {o':Nat} (ho:Opn s o o') (ho5:σ.isBad=false->o<=1000) (h:RS c H nv zs σ k o a) (hT:TKs c.S c.rs):y9 M za [.ptr c.r 0,.str s] H fun _ H'=>∃ k',RS c H' nv zs (Lang.take s o σ) k' o' a/\PK c.r nv zs H nv zs H'/\k<=k'/\(∀ L',Lang.take s o σ = .ok L'->k'=k+1):=by
 refine qk6 ?_
 obtain ⟨w0,w8,w29,w18,w20,w26⟩:=qk7 M ⟨none,za⟩
 cases σ with
 | bad L =>
  have l5:Op.load1 [.ptr c.r 5] H=some (.bool true):=h.ld5
  simp only [↓qi,qy,reduceIte,Nat.reduceEqDiff,w0,qg,l5]
  refine C3.q (qij (M:=M) (L:=L) (o':=o') (a':=a) h rfl) fun v H1 ⟨hv,h1,p1⟩=>?_
  simp only [↓qi,qy,reduceIte,Nat.reduceEqDiff]
  exact ⟨k,h1,p1,qf _,fun L' q=>by cases q⟩
 | ok L =>
  have ho5:=ho5 rfl
  have l5:Op.load1 [.ptr c.r 5] H=some (.bool false):=h.ld5
  have no:∀ {P:AHeap->Prop},Lang.take s o (.ok L)=.bad L->(∀ H',(∃ k',RS c H' nv zs (Lang.take s o (.ok L)) k' o' a/\PK c.r nv zs H nv zs H'/\k<=k'/\(∀ L',Lang.take s o (.ok L)=.ok L'->k'=k+1))->P H')->y9 M z7 [.ptr c.r 0] H fun _ H'=>P H':=by
   intro P e hp
   refine (qij (M:=M) (L:=L) (o':=o') (a':=a) h rfl).mono fun v H' ⟨_,h1,p1⟩=>hp H' ⟨k,by rw [e];exact h1,p1,qf _,fun L' q=>by rw [e] at q;cases q⟩
  simp only [↓qi,qy,reduceIte,Nat.reduceEqDiff,w0,qg,l5]
  refine C3.q (qcs (M:=M) h hT) fun v H1 ⟨hv,hh⟩=>?_
  subst hv;subst hh
  simp only [PS.left]
  by_cases ht:tok L=s
  ·have hne:tok L ≠ []:=by rw [ht];exact hs
   obtain ⟨o1,a1,n,q⟩:=h.ns
   obtain ⟨rfl,rfl⟩:=q rfl
   have hk:=h.sz hT
   have wk:wrapI .i64 ((k:Int)+1)=((k+1:Nat):Int):=by rw [kr (by omega) (by omega)];omega
   -- it is taken
   have fin:∀ {E:Env} {Hx:AHeap} (o2:Nat),o2=o'->(¬ ((s=[40]\/s=[123])/\50<=o))->lk E 0=some (.ptr c.r 0)->Hx.get c.r=some (OR [c.lv,.int .i64 (k:Int),nv,.int .i64 (o2:Int),.bool a1,.bool false] vw)->PK c.r nv zs H1 nv zs Hx->NS qdn c.H0 Hx c.r vw c.lv nv (k:Int) (o2:Int) a1 false zs ->
    W M ⟨none,za⟩ (zm 29) true (FIN3 M [] (RT3 fun _ H'=>∃ k',RS c H' nv zs (Lang.take s o (.ok L)) k' o' a1/\PK c.r nv zs H1 nv zs H'/\k<=k'/\(∀ L',Lang.take s o (.ok L)=.ok L'->k'=k+1))) E [] Hx:=by
    intro E Hx o2 ho2 hn r0 hg hp hns
    subst ho2
    have l1:Op.load1 [.ptr c.r 1] Hx=some (.int .i64 (k:Int)):=hns.ld 1
    obtain ⟨n1,n2⟩:=hns.set ((k+1:Nat):Int) (o2:Int) a1 false
    have st:=hns.st1 ((k+1:Nat):Int)
    simp only [↓qi,qy,reduceIte,Nat.reduceEqDiff,w29,r0,qg,l1,wk,st]
    have e:Lang.take s o (.ok L)=.ok (Lang.adv L):=by simp only [Lang.take];rw [xv ⟨ht,hn⟩]
    rw [e]
    exact ⟨k+1,h.up (hp.trans n2) ⟨(o2:Int),a1,n1,fun _=>⟨rfl,rfl⟩⟩ (hT.nx k L h.ps (qav hne)),hp.trans n2,by omega,fun _ _=>rfl⟩
   have l3:Op.load1 [.ptr c.r 3] H1=some (.int .i64 (o:Int)):=n.ld 3
   have tne:∀ (x y:Tk),(x=y)=(x=y):=fun _ _=>rfl
   by_cases s1:s=[40]
   ·subst s1
    have ho':o'=o+1:=by
     rcases ho with ⟨_,q⟩|⟨q,_⟩|⟨q,_⟩
     ·exact q
     ·rcases q with q|q<;>exact absurd q (by decide)
     ·exact (q.1 rfl).elim
    by_cases h50:(50:Int)<=(o:Nat)
    ·simp only [↓qi,qy,reduceIte,Nat.reduceEqDiff,ht,qg,l3,h50,jn]
     refine C3.q (no (P:=fun H'=>∃ k',RS c H' nv zs (Lang.take [40] o (.ok L)) k' o' a1/\PK c.r nv zs H1 nv zs H'/\k<=k'/\(∀ L',Lang.take [40] o (.ok L)=.ok L'->k'=k+1)) (by simp only [Lang.take];rw [qx (fun q=>q.2 ⟨by simp,by omega⟩)]) fun H' q=>q) fun v H2 hq=>?_
     simp only [↓qi,qy,reduceIte,Nat.reduceEqDiff];exact hq
    ·have wo:wrapI .i64 ((o:Int)+1)=((o+1:Nat):Int):=by rw [kr (by omega) (by omega)];omega
     obtain ⟨n1,n2⟩:=n.set (k:Int) ((o+1:Nat):Int) a1 false
     have st:=n.st3 ((o+1:Nat):Int)
     simp only [↓qi,qy,reduceIte,Nat.reduceEqDiff,ht,qg,l3,h50,jn,w8,w18,wo,st]
     exact fin (o+1) ho'.symm (fun q=>by omega) rfl n1.row n2 n1
   by_cases s2:s=[123]
   ·subst s2
    have ho':o'=o+1:=by
     rcases ho with ⟨_,q⟩|⟨q,_⟩|⟨q,_⟩
     ·exact q
     ·rcases q with q|q<;>exact absurd q (by decide)
     ·exact (q.2.1 rfl).elim
    by_cases h50:(50:Int)<=(o:Nat)
    ·simp only [↓qi,qy,reduceIte,Nat.reduceEqDiff,ht,qg,l3,h50,jn,s1]
     refine C3.q (no (P:=fun H'=>∃ k',RS c H' nv zs (Lang.take [123] o (.ok L)) k' o' a1/\PK c.r nv zs H1 nv zs H'/\k<=k'/\(∀ L',Lang.take [123] o (.ok L)=.ok L'->k'=k+1)) (by simp only [Lang.take];rw [qx (fun q=>q.2 ⟨by simp,by omega⟩)]) fun H' q=>q) fun v H2 hq=>?_
     simp only [↓qi,qy,reduceIte,Nat.reduceEqDiff];exact hq
    ·have wo:wrapI .i64 ((o:Int)+1)=((o+1:Nat):Int):=by rw [kr (by omega) (by omega)];omega
     obtain ⟨n1,n2⟩:=n.set (k:Int) ((o+1:Nat):Int) a1 false
     have st:=n.st3 ((o+1:Nat):Int)
     simp only [↓qi,qy,reduceIte,Nat.reduceEqDiff,ht,qg,l3,h50,jn,s1,w8,w18,wo,st]
     exact fin (o+1) ho'.symm (fun q=>by omega) rfl n1.row n2 n1
   have nb:¬ ((s=[40]\/s=[123])/\50<=o):=fun q=>q.1.elim s1 s2
   by_cases s3:s=[41]
   ·have ho':o=o'+1:=by
     rcases ho with ⟨q,_⟩|⟨_,q⟩|⟨q,_⟩
     ·exact (q.elim s1 s2).elim
     ·exact q
     ·exact (q.2.2.1 s3).elim
    have wo:wrapI .i64 ((o:Int)-1)=((o':Nat):Int):=by rw [kr (by omega) (by omega)];omega
    obtain ⟨n1,n2⟩:=n.set (k:Int) ((o':Nat):Int) a1 false
    have st:=n.st3 ((o':Nat):Int)
    simp only [↓qi,qy,reduceIte,Nat.reduceEqDiff,ht,qg,l3,s1,s2,kx s3,jn,w8,w18,w20,w26,wo,st]
    exact fin o' rfl nb rfl n1.row n2 n1
   by_cases s4:s=[125]
   ·have ho':o=o'+1:=by
     rcases ho with ⟨q,_⟩|⟨_,q⟩|⟨q,_⟩
     ·exact (q.elim s1 s2).elim
     ·exact q
     ·exact (q.2.2.2 s4).elim
    have wo:wrapI .i64 ((o:Int)-1)=((o':Nat):Int):=by rw [kr (by omega) (by omega)];omega
    obtain ⟨n1,n2⟩:=n.set (k:Int) ((o':Nat):Int) a1 false
    have st:=n.st3 ((o':Nat):Int)
    simp only [↓qi,qy,reduceIte,Nat.reduceEqDiff,ht,qg,l3,s1,s2,s3,kx s4,jn,w8,w18,w20,w26,wo,st]
    exact fin o' rfl nb rfl n1.row n2 n1
   have ho':o'=o:=by
    rcases ho with ⟨q,_⟩|⟨q,_⟩|⟨_,q⟩
    ·exact (q.elim s1 s2).elim
    ·exact (q.elim s3 s4).elim
    ·exact q
   simp only [↓qi,qy,reduceIte,Nat.reduceEqDiff,ht,qg,l3,s1,s2,s3,s4,jn,w8,w18,w20,w26]
   exact fin o ho'.symm nb rfl n.row PK.refl n
  ·simp only [↓qi,qy,reduceIte,Nat.reduceEqDiff,qg,ht]
   refine C3.q (no (P:=fun H'=>∃ k',RS c H' nv zs (Lang.take s o (.ok L)) k' o' a/\PK c.r nv zs H1 nv zs H'/\k<=k'/\(∀ L',Lang.take s o (.ok L)=.ok L'->k'=k+1)) (by simp only [Lang.take];rw [qx (fun q=>ht q.1)]) fun H' q=>q) fun v H2 hq=>?_
   simp only [↓qi,qy,reduceIte,Nat.reduceEqDiff];exact hq
end
end Go.Am
namespace Go.Am
open Lang Go.Proofs
variable {M:Mac} [MK M]
theorem bsI (e:Nat) (zero:List AV):Op.buildSlice e 0 zero [] []=some (.row [] e (0,0) true,Op.sliceTo 0 0):=rfl
theorem nilsI (H:AHeap):Op.eq .slice false [.nils,.nils] H=some (.bool true):=rfl
theorem nilsI' {H:AHeap} {size:Nat} {v:AV} {n:Nat} {cells:List AV} (h:Sl H size v n cells) (hv:v ≠ .nils) (H':AHeap):Op.eq .slice false [v,.nils] H'=some (.bool false):=by
 obtain ⟨_,h⟩:=h
 cases v<;>first|exact (hv rfl).elim|rfl|exact h.elim
theorem flatI (l:List Int):allOne (l.flatMap encI)=true:=by rw [qex,List.all_flatMap];simp [encI,oneCell]
theorem qun {H:AHeap} {a:AV} {ws:List Int} (ha:SlT encI 1 H a ws) (hl:ws.length<=200000000):y9 M wy [a] H fun v H'=>New encI T_int 1 H H' v ws:=by
 refine qlv ?_
 by_cases hn:a=.nils
 ·subst hn
  have:ws=[]:=by obtain ⟨_,h⟩:=ha;exact jz.1 h
  subst this
  simp only [↓qi,qy,reduceIte,Nat.reduceEqDiff,qed,nilsI]
  exact New.nil H
 ·simp only [↓qi,qy,reduceIte,Nat.reduceEqDiff,qed,nilsI' ha hn,bsI]
  have hf1:Fr Em H (H.alloc (.row [] T_int (0,0) true)):=(Fr.refl H).alloc _
  refine append3s (e:=T_int) (n:=0) (cells:=[]) ⟨rfl,.inl ⟨rfl,.inr ⟨H.next,rfl,by rw [jh];omega⟩⟩⟩ (ha.em hf1) (flatI ws) (by omega) (by omega) (by omega) fun v' H2 hv' hf hfr=>?_
  simp only [↓qi,qy,reduceIte,Nat.reduceEqDiff,qed]
  rw [ju,zo] at hv'
  exact ⟨hv',hf1.trans hf fun x hx=>.inr (by rw [hx.2];exact qf _),fun b hb=>(hfr b hb).elim (fun q=>by rw [q.2];exact qf _) fun q=>xw hf1.next q⟩
theorem bdK {k n:Int} {v:AV} (h:oneCell v=true):Op.build [.int .i64 0,.int .u64 0,.nils] [(0,1),(1,1),(2,1)] [.int .i64 k,.int .u64 n,v]=some (.agg [.int .i64 k,.int .u64 n,v]):=by
 have oc:v.cells=[v]:=by cases v<;>first|rfl|cases h
 simp only [m_build,qy0,fill_nil,oc,qsx];rfl
theorem New.blk {α:Type} {enc:α->List AV} {e size:Nat} {H0 H:AHeap} {v:AV} {xs:List α} (h:New enc e size H0 H v xs) (h0:0<size):xs.length=0\/H0.next<=slB v/\slB v<H.next:=by
 rcases Nat.eq_zero_or_pos xs.length with q|q
 ·exact .inl q
 ·have hn:v ≠ .nils:=fun e=>by
   have w:=h.sl
   rw [e] at w
   have:=w.2
   omega
  exact .inr ⟨h.fresh _ ⟨hn,rfl⟩,Own.lt h.own _ ⟨hn,rfl⟩⟩
section
variable {c:RBk} {H:AHeap} {nv:AV} {zs:List (Nd × AV)} {σ:PS} {k o:Nat} {a:Bool}
theorem qa5 (h:RS c H nv zs σ k o a) (hz:zs.length<=200000000) {kind n:Int} {kv:AV} {kids:List Int} (hk:SlT encI 1 H kv kids) (hkl:kids.length<=200000000) :
 y9 M zf [.ptr c.r 0,.int .i64 kind,.int .u64 n,kv] H fun v H'=>∃ nv' w,v=.int .i64 ((zs.length:Nat):Int)/\RS c H' nv' (zs ++ [(⟨kind,n,kids⟩,w)]) σ k o a/\PK c.r nv zs H nv' (zs ++ [(⟨kind,n,kids⟩,w)]) H':=by
 refine qk3 ?_
 obtain ⟨o1,a1,ns,q⟩:=h.ns
 have l2:=h.ld2
 simp only [↓qi,qy,reduceIte,Nat.reduceEqDiff,qk4,qg,l2]
 refine C3.q (qun (M:=M) hk hkl) fun w H1 hc=>?_
 have f1:=hc.fr
 have n1:=ns.em f1
 have h1:=h.em f1
 have l2':=h1.ld2
 have ok1:=hc.sl.one
 simp only [↓qi,qy,reduceIte,Nat.reduceEqDiff,l2',qki,bdK ok1]
 refine n1.nw.app3 (bytes:=40) (a:=(⟨kind,n,kids⟩,w)) rfl rfl rfl (by simp [encN,qn6,ql4,qo9,ok1]) (by decide) (by omega) (by omega) fun nv' H2 hv' hf hfr=>?_
 have hb:kids.length=0\/Bs H1 c.r nv zs (slB w):=(hc.blk (by decide)).imp id fun q=>ns.bs f1 q.1 q.2
 obtain ⟨H3,st,n3,f3,e3⟩:=n1.putn (z:=(⟨kind,n,kids⟩,w)) hv' hf hfr hc.sl hb
 have ln:Op.lenSl [nv']=some (.int .i64 ((zs.length+1:Nat):Int)):=by rw [hv'.len];simp
 have l3:Op.load1 [.ptr c.r 2] H3=some nv':=n3.ld 2
 have wz:wrapI .i64 (((zs.length+1:Nat):Int)-1)=((zs.length:Nat):Int):=by rw [kr (by omega) (by omega)];omega
 simp only [↓qi,qy,reduceIte,Nat.reduceEqDiff,qg,st,l3,ln,wz]
 have pk:PK c.r nv zs H nv' (zs ++ [(⟨kind,n,kids⟩,w)]) H3:=by
  refine ⟨(f1.mono fun _ _ q=>q.elim).trans f3 fun x hx=>.inl hx,fun b q=>(hfr b q).imp id fun q=>xw f1.next q,[(⟨kind,n,kids⟩,w)],rfl,fun z hz=>?_⟩
  rw [xp] at hz;subst hz
  exact (hc.blk (by decide)).imp id fun q=>q.1
 exact ⟨nv',⟨w,h.up pk ⟨o1,a1,n3,q⟩ h.ps,pk⟩⟩
theorem qfq {t:Tk} {H:AHeap}:y9 M qas [.str t] H fun v H'=>H'=H/\v=match varOf t with
 | some x=>.tuple [.int .u64 (x:Int),.bool true]
 | none=>.tuple [.int .u64 0,.bool false]:=by
 refine qov ?_
 match t with
 | [] =>
  have l0:Op.lenStr [.str []]=some (.int .i64 0):=rfl
  simp only [↓qi,qy,reduceIte,Nat.reduceEqDiff,qci,l0,Int.reduceEq]
  rfl
 | x::y::t =>
  have l0:Op.lenStr [.str (x::y::t)]=some (.int .i64 ((t.length+2:Nat):Int)):=by rw [qev];simp;omega
  have e0:¬ ((t.length+2:Nat):Int)=1:=by omega
  simp only [↓qi,qy,reduceIte,Nat.reduceEqDiff,qci,l0,e0]
  rfl
 | [x] =>
  have l0:Op.lenStr [.str [x]]=some (.int .i64 1):=rfl
  have i0:Op.indexStr [.str [x],.int .i64 0]=some (.int .u8 x.toNat):=qaq (i:=0) rfl rfl
  by_cases h1:(x.toNat:Int)<97
  ·simp only [↓qi,qy,reduceIte,Nat.reduceEqDiff,qci,l0,i0,h1]
   have:¬ (97<=x/\x<=104):=fun q=>by have:=qw.1 q.1;simp at this;omega
   simp only [varOf,qx this]
  by_cases h2:(104:Int)<x.toNat
  ·simp only [↓qi,qy,reduceIte,Nat.reduceEqDiff,qci,l0,i0,h1,h2]
   have:¬ (97<=x/\x<=104):=fun q=>by have:=qw.1 q.2;simp at this;omega
   simp only [varOf,qx this]
  have:97<=x/\x<=104:=⟨qw.2 (by simp;omega),qw.2 (by simp;omega)⟩
  have w1:wrapI .u8 ((x.toNat:Int)-97)=((x.toNat-97:Nat):Int):=by rw [qms (by omega) (by omega)];omega
  have w2:wrapI .u64 ((x.toNat-97:Nat):Int)=((x.toNat-97:Nat):Int):=qg2 (by omega) (by omega)
  simp only [↓qi,qy,reduceIte,Nat.reduceEqDiff,qci,l0,i0,h1,h2,w1,w2]
  simp only [varOf,xv this]
end
end Go.Am
namespace Go.Am
open Lang Go.Proofs
variable {M:Mac} [MK M]
theorem qqw {t:Tk} {H:AHeap}:y9 M qel [.str t] H fun v H'=>H'=H/\v=.tuple [.int .i64 (sigK t:Nat),.int .i64 (sigR t:Nat)]:=by
 refine qux ?_
 unfold sigR sigK
 by_cases h1:t=[43]
 ·subst h1;simp only [↓qi,qy,reduceIte,Nat.reduceEqDiff,qch,jn];rfl
 by_cases h2:t=[45]
 ·subst h2;simp only [↓qi,qy,reduceIte,Nat.reduceEqDiff,qch,jn,h1];rfl
 by_cases h3:t=[94]
 ·subst h3;simp only [↓qi,qy,reduceIte,Nat.reduceEqDiff,qch,jn,h1,h2];rfl
 by_cases h4:t=[42]
 ·subst h4;simp only [↓qi,qy,reduceIte,Nat.reduceEqDiff,qch,jn,h1,h2,h3];rfl
 by_cases h5:t=[38]
 ·subst h5;simp only [↓qi,qy,reduceIte,Nat.reduceEqDiff,qch,jn,h1,h2,h3,h4];rfl
 by_cases h6:t=[60,60]
 ·subst h6;simp only [↓qi,qy,reduceIte,Nat.reduceEqDiff,qch,jn,h1,h2,h3,h4,h5];rfl
 by_cases h7:t=[62,62]
 ·subst h7;simp only [↓qi,qy,reduceIte,Nat.reduceEqDiff,qch,jn,h1,h2,h3,h4,h5,h6];rfl
 simp only [↓qi,qy,reduceIte,Nat.reduceEqDiff,qch,h1,h2,h3,h4,h5,h6,h7]
def PQ (c:RBk) (H:AHeap) (nv:AV) (zs:List (Nd × AV)) (d o:Nat) (a:Bool) (τ:PS) (V:List (Nd × AV)->AV->Prop) (v:AV) (H':AHeap):Prop :=
 ∃ nv' zs' k',RS c H' nv' zs' τ k' o a/\PK c.r nv zs H nv' zs' H'/\zs'.length+d<=k'/\V zs' v
def CQ (M:Mac) (f:Nat) (args:List AV) (c:RBk) (x:It) (σ:PS) (o:Nat) (a:Bool) (τ:PS):Prop :=
 ∀ (H:AHeap) (nv:AV) (zs:List (Nd × AV)) (k d:Nat),RS c H nv zs σ k o a->zs.length+d<=k->y9 M f (.ptr c.r 0::args) H (PQ c H nv zs d o a τ (VOK x zs · τ))
theorem VOK.take {x:It} {zs zs':List (Nd × AV)} {τ:PS} {v:AV} {s:Tk} {o:Nat} (h:VOK x zs zs' τ v):VOK x zs zs' (Lang.take s o τ) v:=by
 cases hq:Lang.take s o τ with
 | bad L=>exact h.int
 | ok L =>
  obtain ⟨L1,rfl,_⟩:=qe7 hq
  exact h
section
variable {c:RBk} {x:It} {σ τ:PS} {o:Nat} {a:Bool} {f:Nat}
theorem PQ.bad0 {H:AHeap} {nv:AV} {zs:List (Nd × AV)} {k d o o':Nat} {a a':Bool} {L:Tk} (h:RS c H nv zs (.bad L) k o a) (hd:zs.length+d<=k) (i:Int):PQ c H nv zs d o' a' (.bad L) (VOK x zs · (.bad L)) (.int .i64 i) H :=
 ⟨nv,zs,k,h.bad,PK.refl,hd,i,rfl⟩
theorem PQ.pre {H H1 H':AHeap} {nv nv1:AV} {zs:List (Nd × AV)} {d:Nat} {V:List (Nd × AV)->AV->Prop} {v:AV} (p:PK c.r nv zs H nv1 zs H1) (h:PQ c H1 nv1 zs d o a τ V v H'):PQ c H nv zs d o a τ V v H':=by
 obtain ⟨nv',zs',k',h1,h2,h3,h4⟩:=h
 exact ⟨nv',zs',k',h1,p.trans h2,h3,h4⟩
theorem qh8 (hT:TKs c.S c.rs) (ho:σ.isBad=false->o<=50) (hf:CQ M f [] c x (Lang.take [40] o σ) (o+1) a τ) (hst:τ.isBad=false -> σ.isBad=false) :
 CQ M j6 [.fn (.func f) [.ptr c.r 0] []] c x σ o a (Lang.take [41] (o+1) τ):=by
 intro H nv zs k d h hd
 refine qjb ?_
 simp only [↓qi,qy,reduceIte,Nat.reduceEqDiff,qjc]
 refine C3.q (qee (M:=M) (o':=o+1) (by decide) (.inl ⟨.inl rfl,rfl⟩) (fun q=>xw (ho q) (by decide)) h hT) fun u H1 ⟨k1,h1,p1,hk1,_⟩=>?_
 simp only [↓qi,qy,reduceIte,Nat.reduceEqDiff]
 refine C3.q (hf H1 nv zs k1 d h1 (by omega)) fun v H2 ⟨nv2,zs2,k2,h2,p2,hd2,hv⟩=>?_
 simp only [↓qi,qy,reduceIte,Nat.reduceEqDiff]
 refine C3.q (qee (M:=M) (o':=o) (by decide) (.inr (.inl ⟨.inl rfl,rfl⟩)) (fun q=>by have:=ho (hst q);omega) h2 hT) fun u H3 ⟨k3,h3,p3,hk3,_⟩=>?_
 simp only [↓qi,qy,reduceIte,Nat.reduceEqDiff]
 exact ⟨nv2,zs2,k3,h3,(p1.trans p2).trans p3,by omega,hv.take⟩
theorem kid1 {H:AHeap} (x:Int):SlT encI 1 (H.alloc (OR [.int .i64 x] T_int)) (Op.sliceTo 1 1 H.next) [x]:=⟨rfl,rfl,qf _,.inr ⟨by rw [jh];omega,_,kh (jb ..),rfl⟩⟩
theorem kid2 {H:AHeap} (x y:Int):SlT encI 1 (H.alloc (OR [.int .i64 x,.int .i64 y] T_int)) (Op.sliceTo 2 2 H.next) [x,y]:=⟨rfl,rfl,qf _,.inr ⟨by rw [jh];omega,_,kh (jb ..),rfl⟩⟩
theorem bsk1 (x:Int):Op.buildSlice T_int 1 [.int .i64 0] [(0,1)] [.int .i64 x]=some (OR [.int .i64 x] T_int,Op.sliceTo 1 1):=rfl
theorem bsk2 (x y:Int):Op.buildSlice T_int 2 [.int .i64 0] [(0,1),(1,1)] [.int .i64 x,.int .i64 y]=some (OR [.int .i64 x,.int .i64 y] T_int,Op.sliceTo 2 2):=rfl
section
variable {L:Tk} (hT:TKs c.S c.rs)
theorem qnp {H:AHeap} {nv:AV} {zs:List (Nd × AV)} {k:Nat} (h:RS c H nv zs (.ok L) k o a) (hT:TKs c.S c.rs) {Q:AV->AHeap->Prop} (hv:varOf (tok L)=none)
 (go:W M ⟨none,xc⟩ (xd 24) true (FIN3 M [.tmp 2] (RT3 Q)) [(5,.bool false),(4,.int .u64 0),(3,.str (tok L)),(2,.int .i64 0),(0,.ptr c.r 0)] [] H):y9 M xc [.ptr c.r 0] H Q:=by
 refine qcw ?_
 obtain ⟨w0,w2,w10,w12,-,-,-,-,-⟩:=yh M ⟨none,xc⟩
 have l5:Op.load1 [.ptr c.r 5] H=some (.bool false):=h.ld5
 simp only [↓qi,qy,reduceIte,Nat.reduceEqDiff,w0,w2,qg,l5,w10]
 refine C3.q (qcs (M:=M) h hT) fun v H1 ⟨hv1,hh⟩=>?_
 subst hv1;subst hh
 simp only [↓qi,qy,reduceIte,Nat.reduceEqDiff,w12]
 refine C3.q (qfq (M:=M)) fun v H1 ⟨hh,hv1⟩=>?_
 subst hh
 simp only [PS.left,hv] at hv1
 subst hv1
 simp only [↓qi,qy,reduceIte,Nat.reduceEqDiff,vx,PS.left]
 exact go
theorem qyz {x:It}:CQ M xc [] c x (.bad L) o a (.bad L):=by
 intro H nv zs k d h hd
 refine qcw ?_
 have l5:Op.load1 [.ptr c.r 5] H=some (.bool true):=h.ld5
 simp only [↓qi,qy,reduceIte,Nat.reduceEqDiff,yh,qg,l5]
 exact PQ.bad0 h hd 0
theorem fac_var (hT:TKs c.S c.rs) {v:Nat} (hv:varOf (tok L)=some v):CQ M xc [] c (.e (.var v)) (.ok L) o a (.ok (adv L)):=by
 intro H nv zs k d h hd
 refine qcw ?_
 obtain ⟨w0,w2,w10,w12,-,-,-,-,-⟩:=yh M ⟨none,xc⟩
 have l5:Op.load1 [.ptr c.r 5] H=some (.bool false):=h.ld5
 simp only [↓qi,qy,reduceIte,Nat.reduceEqDiff,w0,w2,qg,l5,w10]
 refine C3.q (qcs (M:=M) h hT) fun w H1 ⟨hv1,hh⟩=>?_
 subst hv1;subst hh
 simp only [↓qi,qy,reduceIte,Nat.reduceEqDiff,w12]
 refine C3.q (qfq (M:=M)) fun w H2 ⟨hh,hv1⟩=>?_
 subst hh
 simp only [PS.left,hv] at hv1
 subst hv1
 have hk:=h.sz hT
 obtain ⟨wk,H3,st,h3,p3⟩:=h.adv hT (ql1 hv)
 simp only [↓qi,qy,reduceIte,Nat.reduceEqDiff,vx,qg,h.ld1,wk,st]
 refine C3.q (qa5 (M:=M) h3 (by omega) (kids:=[]) ⟨rfl,rfl⟩ (by simp)) fun w H4 ⟨nv',kv,hw,h4,p4⟩=>?_
 subst hw
 simp only [↓qi,qy,reduceIte,Nat.reduceEqDiff]
 refine ⟨nv',_,k+1,h4,p3.trans p4,by rw [qe,qt];omega,?_,?_⟩
 ·simp [It.sz,Ex.sz]
 ·simp [It.enc,Ex.enc]
theorem fac_load (hT:TKs c.S c.rs) (ho:o<=50) (hl:tok L=wLoad) {x:Ex} (hx:CQ M xe [] c (.e x) (Lang.take [40] o (.ok (adv L))) (o+1) a σ):CQ M xc [] c (.e (.load x)) (.ok L) o a (Lang.take [41] (o+1) σ):=by
 intro H nv zs k d h hd
 refine qnp h hT (by rw [hl];rfl) ?_
 obtain ⟨-,-,-,-,w24,-,-,-,-⟩:=yh M ⟨none,xc⟩
 have hk:=h.sz hT
 obtain ⟨wk,H3,st,h3,p3⟩:=h.adv hT (by rw [hl];decide)
 have mk:Op.mkFunc xe 1 [.ptr c.r 0]=some (.fn (.func xe) [.ptr c.r 0] []):=rfl
 simp only [↓qi,qy,reduceIte,Nat.reduceEqDiff,w24,hl,jn,qg,h.ld1,wk,st,mk]
 refine C3.q (qh8 (M:=M) (f:=xe) hT (fun _=>ho) hx (fun _=>rfl) H3 nv zs (k+1) (d+1) h3 (by omega)) fun v H4 ⟨nv4,zs4,k4,h4,p4,hd4,hv4⟩=>?_
 obtain ⟨i,rfl⟩:=hv4.int
 have hk4:=h4.sz hT
 simp only [↓qi,qy,reduceIte,Nat.reduceEqDiff,bsk1]
 have f5:Fr Em H4 (H4.alloc (OR [.int .i64 i] T_int)):=(Fr.refl H4).alloc _
 refine C3.q (qa5 (M:=M) (h4.em f5) (by omega) (kids:=[i]) (kid1 i) (by simp)) fun w H6 ⟨nv6,kv,hw,h6,p6⟩=>?_
 subst hw
 simp only [↓qi,qy,reduceIte,Nat.reduceEqDiff]
 refine ⟨nv6,_,k4,h6,((p3.trans p4).trans (PK.em f5)).trans p6,by rw [qe,qt];omega,?_⟩
 cases hq:Lang.take [41] (o+1) σ with
 | bad L'=>exact ⟨_,rfl⟩
 | ok L' =>
  rw [hq] at hv4
  obtain ⟨hv,hz⟩:=hv4
  injection hv with _ hv
  have hzl:=congrArg List.length hz
  rw [qn,qe,qn,It.len] at hzl
  have hp:=x.pos
  have hsz:(It.e x).sz=x.sz:=rfl
  refine ⟨?_,?_⟩
  ·congr 2<;>simp only [It.sz,Ex.sz]<;>omega
  ·rw [jt,hz];simp [It.enc,Ex.enc,hv,It.sz]
theorem fac_par (hT:TKs c.S c.rs) (ho:o<=50) (hl:tok L=[40]) {x:Ex} (hx:CQ M xe [] c (.e x) (Lang.take [40] o (.ok L)) (o+1) a σ):CQ M xc [] c (.e x) (.ok L) o a (Lang.take [41] (o+1) σ):=by
 intro H nv zs k d h hd
 refine qnp h hT (by rw [hl];rfl) ?_
 obtain ⟨-,-,-,-,w24,-,-,-,-⟩:=yh M ⟨none,xc⟩
 have mk:Op.mkFunc xe 1 [.ptr c.r 0]=some (.fn (.func xe) [.ptr c.r 0] []):=rfl
 have n1:¬ tok L=[108,111,97,100]:=by rw [hl];decide
 simp only [↓qi,qy,reduceIte,Nat.reduceEqDiff,w24,n1,kx hl,mk]
 refine C3.q (qh8 (M:=M) (f:=xe) hT (fun _=>ho) hx (fun _=>rfl) H nv zs k d h hd) fun v H4 hq=>?_
 simp only [↓qi,qy,reduceIte,Nat.reduceEqDiff]
 exact hq
theorem fac_num (hT:TKs c.S c.rs) (hE:Ers c.H0) {n:Nat} (hn:numOf (tok L)=some n):CQ M xc [] c (.e (.num n)) (.ok L) o a (.ok (adv L)):=by
 intro H nv zs k d h hd
 unfold numOf at hn
 split at hn
 case isFalse=>cases hn
 rename_i hq
 injection hn with hn
 obtain ⟨hne,hdg,hz,hlt⟩:=hq
 obtain ⟨y,s,hys⟩:∃ y s,tok L=y::s:=by cases hq:tok L with|nil=>exact (hne hq).elim|cons y s=>exact ⟨y,s,rfl⟩
 have hy:=hdg y (by rw [hys];simp)
 have hy1:48<=y.toNat:=qw.1 hy.1
 have hy2:y.toNat<=57:=qw.1 hy.2
 have vn:varOf (tok L)=none:=by
  rw [hys]
  cases s with
  | nil =>
   have:¬ (97<=y/\y<=104):=fun q=>by have:=qw.1 q.1;simp at this;omega
   simp only [varOf,qx this]
  | cons _ _=>rfl
 refine qnp h hT vn ?_
 obtain ⟨-,-,-,-,w24,w49,w42,w51,w59⟩:=yh M ⟨none,xc⟩
 have n1:¬ tok L=[108,111,97,100]:=by
  rw [hys];intro q;injection q with q;subst q;revert hy2;decide
 have n2:¬ tok L=[40]:=by
  rw [hys];intro q;injection q with q;subst q;revert hy1;decide
 have n3:¬ tok L=[]:=hne
 have i0:Op.indexStr [.str (tok L),.int .i64 0]=some (.int .u8 y.toNat):=qaq (i:=0) rfl (by rw [hys];rfl)
 have c1:¬ (y.toNat:Int)<48:=by omega
 have c2:¬ (57:Int)<(y.toNat:Int):=by omega
 obtain ⟨o1,a1,ns,_⟩:=h.ns
 have hE':=hE.em ns.nw.fr
 have hmem:=jv h.ps
 have hsh:=hT.sh _ hmem
 have hk:=h.sz hT
 obtain ⟨wk,H3,st,h3,p3⟩:=h.adv hT hne
 have dv:DV (tok L) n:=⟨hne,fun x hx=>⟨qw.1 (hdg x hx).1,qw.1 (hdg x hx).2⟩,hn⟩
 have tail:∀ {E:Env},lk E 0=some (.ptr c.r 0)->lk E 3=some (.str (tok L))->W M ⟨none,xc⟩ (xd 49) true (FIN3 M [.tmp 2] (RT3 (PQ c H nv zs d o a (.ok (adv L)) (VOK (.e (.num n)) zs · (.ok (adv L)))))) E [] H:=by
  intro E r0 r3
  simp only [↓qi,qy,reduceIte,Nat.reduceEqDiff,w49,r3]
  refine C3.q (qjh (M:=M) hsh hE') fun v H1 ⟨f1,m,err,hv,hm,_,hg,_⟩=>?_
  subst hv
  obtain ⟨rfl,rfl⟩:=hg n dv (by omega)
  have h1:=h.em f1
  obtain ⟨wk,H3,st,h3,p3⟩:=h1.adv hT hne
  simp only [↓qi,qy,reduceIte,Nat.reduceEqDiff,vx,w51,eqN,w59,r0,qg,h1.ld1,wk,st]
  refine C3.q (qa5 (M:=M) h3 (by omega) (kids:=[]) ⟨rfl,rfl⟩ (by simp)) fun w H4 ⟨nv',kv,hw,h4,p4⟩=>?_
  subst hw
  simp only [↓qi,qy,reduceIte,Nat.reduceEqDiff]
  refine ⟨nv',_,k+1,h4,((PK.em f1).trans p3).trans p4,by rw [qe,qt];omega,?_,?_⟩
  ·simp [It.sz,Ex.sz]
  ·simp [It.enc,Ex.enc]
 have ln:Op.lenStr [.str (tok L)]=some (.int .i64 ((tok L).length:Nat)):=qev _
 by_cases h1:1<(tok L).length
 ·have c3:(1:Int)<((tok L).length:Nat):=by omega
  have y48:¬ (y.toNat:Int)=48:=fun q=>hz ⟨h1,by rw [hys];show some y=some 48;congr 1;exact j9.1 (by show y.toNat=48;omega)⟩
  simp only [↓qi,qy,reduceIte,Nat.reduceEqDiff,w24,n1,n2,w42,n3,i0,c1,c2,ln,c3,y48]
  exact tail rfl rfl
 ·have c3:¬ (1:Int)<((tok L).length:Nat):=by omega
  simp only [↓qi,qy,reduceIte,Nat.reduceEqDiff,w24,n1,n2,w42,n3,i0,c1,c2,ln,c3]
  exact tail rfl rfl
theorem fac_no (hT:TKs c.S c.rs) (hE:Ers c.H0) {x:It} (h1:varOf (tok L)=none) (h2:tok L ≠ wLoad) (h3:tok L ≠ [40]) (h4:numOf (tok L)=none):CQ M xc [] c x (.ok L) o a (.bad L):=by
 intro H nv zs k d h hd
 refine qnp h hT h1 ?_
 obtain ⟨-,-,-,-,w24,w49,w42,w51,w59⟩:=yh M ⟨none,xc⟩
 have h2:¬ tok L=[108,111,97,100]:=h2
 have bad:∀ {Hx:AHeap},Fr Em H Hx->y9 M z7 [.ptr c.r 0] Hx (PQ c H nv zs d o a (.bad L) (VOK x zs · (.bad L))):=fun f =>
  (qij (M:=M) (h.em f) (L:=L) rfl).mono fun v H' ⟨hv,q1,q2⟩=>⟨nv,zs,k,q1,(PK.em f).trans q2,hd,0,hv⟩
 by_cases hne:tok L=[]
 ·simp only [↓qi,qy,reduceIte,Nat.reduceEqDiff,w24,h2,h3,w42,kx hne]
  refine C3.q (bad (Fr.refl _)) fun v H1 hq=>?_
  simp only [↓qi,qy,reduceIte,Nat.reduceEqDiff];exact hq
 obtain ⟨y,s,hys⟩:∃ y s,tok L=y::s:=by cases hq:tok L with|nil=>exact (hne hq).elim|cons y s=>exact ⟨y,s,rfl⟩
 have i0:Op.indexStr [.str (tok L),.int .i64 0]=some (.int .u8 y.toNat):=qaq (i:=0) rfl (by rw [hys];rfl)
 have ln:Op.lenStr [.str (tok L)]=some (.int .i64 ((tok L).length:Nat)):=qev _
 by_cases c1:(y.toNat:Int)<48
 ·simp only [↓qi,qy,reduceIte,Nat.reduceEqDiff,w24,h2,h3,w42,hne,i0,c1]
  refine C3.q (bad (Fr.refl _)) fun v H1 hq=>?_
  simp only [↓qi,qy,reduceIte,Nat.reduceEqDiff];exact hq
 by_cases c2:(57:Int)<(y.toNat:Int)
 ·simp only [↓qi,qy,reduceIte,Nat.reduceEqDiff,w24,h2,h3,w42,hne,i0,c1,c2]
  refine C3.q (bad (Fr.refl _)) fun v H1 hq=>?_
  simp only [↓qi,qy,reduceIte,Nat.reduceEqDiff];exact hq
 -- all of it are digits
 have hdg:∀ z ∈ tok L,48<=z/\z<=57:=qmq hys (qw.2 (by show 48<=y.toNat;omega)) (qw.2 (by show y.toNat<=57;omega))
 obtain ⟨o1,a1,ns,_⟩:=h.ns
 have hE':=hE.em ns.nw.fr
 have hsh:=hT.sh _ (jv h.ps)
 have tail:∀ {E:Env},¬ (1<(tok L).length/\(tok L).head? = some 48)->lk E 0=some (.ptr c.r 0)->lk E 3=some (.str (tok L))->W M ⟨none,xc⟩ (xd 49) true (FIN3 M [.tmp 2] (RT3 (PQ c H nv zs d o a (.bad L) (VOK x zs · (.bad L))))) E [] H:=by
  intro E hz r0 r3
  simp only [↓qi,qy,reduceIte,Nat.reduceEqDiff,w49,r3]
  refine C3.q (qjh (M:=M) hsh hE') fun v H1 ⟨f1,m,err,hv,hm,he,_,hg⟩=>?_
  subst hv
  have dv:DV (tok L) (valD (tok L)):=⟨hne,fun x hx=>⟨qw.1 (hdg x hx).1,qw.1 (hdg x hx).2⟩,rfl⟩
  rcases he with rfl|⟨t,b,rfl⟩
  ·have:=hg rfl _ dv
   subst this
   unfold numOf at h4
   rw [xv ⟨hne,hdg,hz,hm⟩] at h4
   cases h4
  ·simp only [↓qi,qy,reduceIte,Nat.reduceEqDiff,vx,w51,eqNi,r0]
   refine C3.q (bad f1) fun v H2 hq=>?_
   simp only [↓qi,qy,reduceIte,Nat.reduceEqDiff];exact hq
 by_cases c3:(1:Int)<((tok L).length:Nat)
 ·by_cases c4:(y.toNat:Int)=48
  ·simp only [↓qi,qy,reduceIte,Nat.reduceEqDiff,w24,h2,h3,w42,hne,i0,c1,c2,ln,c3,kx c4]
   refine C3.q (bad (Fr.refl _)) fun v H1 hq=>?_
   simp only [↓qi,qy,reduceIte,Nat.reduceEqDiff];exact hq
  ·simp only [↓qi,qy,reduceIte,Nat.reduceEqDiff,w24,h2,h3,w42,hne,i0,c1,c2,ln,c3,c4]
   refine tail (fun q=>c4 ?_) rfl rfl
   have:=q.2
   rw [hys] at this
   injection this with this
   subst this;rfl
 ·simp only [↓qi,qy,reduceIte,Nat.reduceEqDiff,w24,h2,h3,w42,hne,i0,c1,c2,ln,c3]
  exact tail (fun q=>c3 (by have:=q.1;omega)) rfl rfl
end
end
end Go.Am
namespace Go.Am
open Lang Go.Proofs
variable {M:Mac} [MK M]
theorem qs4 (a b:AV):Op.extract 0 [.tuple [a,b]]=some a/\Op.extract 1 [.tuple [a,b]]=some b:=⟨rfl,rfl⟩
def AtE (pre:List Nd) (x:Ex) (zs:List (Nd × AV)) (σ:PS) (i:Int):Prop:=σ.isBad=false->i=((pre.length+x.sz-1:Nat):Int)/\zs.map (·.1)=pre++x.enc pre.length
def RL (M:Mac) (pf:Nat) (c:RBk) (n:Nat) (x:Ex) (σ:PS) (o:Nat) (a:Bool) (y:Ex) (τ:PS):Prop:=∃ m,∀ (H:AHeap) (nv:AV) (zs:List (Nd × AV)) (k d:Nat) (pre:List Nd) (i:Int) (E:Env) (R:AV->AHeap->Prop),
 RS c H nv zs σ k o a->zs.length+d<=k->AtE pre x zs σ i->lk E 7=some (.int .i64 i)->lk E 0=some (.ptr c.r 0)->lk E 1=some (.int .i64 (n:Nat))->lk E 2=some (.fn (.func pf) [.ptr c.r 0] []) ->
 (∀ (i:Int) (H':AHeap) (nv':AV) (zs':List (Nd × AV)) (k':Nat),RS c H' nv' zs' τ k' o a->PK c.r nv zs H nv' zs' H'->zs'.length+d<=k'->AtE pre y zs' τ i->R (.int .i64 i) H') ->
 LN (W M ⟨none,z9⟩ (zn 7)) (BLK3 0 (SEQ3 (W M ⟨none,z9⟩ (zn 27)) (FIN3 M [.tmp 6] (RT3 R)))) m E [] H
section
variable {c:RBk} {σ τ:PS} {o n pf:Nat} {a:Bool} {L:Tk} {x y z:Ex}
theorem qzt:RL M pf c n x (.bad L) o a y (.bad L):=by
 refine ⟨1,fun H nv zs k d pre i E R h hd ha e7 e0 e1 e2 hR=>?_⟩
 obtain ⟨-,-,w27,w7,-,-,-⟩:=qcr M ⟨none,z9⟩
 have l5:Op.load1 [.ptr c.r 5] H=some (.bool true):=h.ld5
 simp only [↓qi,qy,reduceIte,Nat.reduceEqDiff,w7,e0,qg,l5,reduceCtorEq,w27,e7]
 exact hR i H nv zs k h PK.refl hd fun q=>by cases q
theorem rl_stop (hT:TKs c.S c.rs) (hs:sigR (tok L) ≠ n):RL M pf c n x (.ok L) o a x (.ok L):=by
 refine ⟨1,fun H nv zs k d pre i E R h hd ha e7 e0 e1 e2 hR=>?_⟩
 obtain ⟨-,-,w27,w7,w13,w16,-⟩:=qcr M ⟨none,z9⟩
 have l5:Op.load1 [.ptr c.r 5] H=some (.bool false):=h.ld5
 simp only [↓qi,qy,reduceIte,Nat.reduceEqDiff,w7,e0,qg,l5,w13]
 refine C3.q (qcs (M:=M) h hT) fun v H1 ⟨hv1,hh⟩=>?_
 subst hv1;subst hh
 simp only [↓qi,qy,reduceIte,Nat.reduceEqDiff,PS.left]
 refine C3.q (qqw (M:=M)) fun v H2 ⟨hh,hv⟩=>?_
 subst hv;subst hh
 have hne:¬ ((sigR (tok L):Nat):Int)=(n:Nat):=by omega
 simp only [↓qi,qy,reduceIte,Nat.reduceEqDiff,qs4,w16,e1,hne,reduceCtorEq,w27,e7]
 exact hR i H2 nv zs k h PK.refl hd ha
theorem rl_more (hT:TKs c.S c.rs) (hn:n ≠ 0) (hs:sigR (tok L)=n) (hp:CQ M pf [] c (.e y) (.ok (adv L)) o a σ) (hz:RL M pf c n (.bin (sigK (tok L)) x y) σ o a z τ):RL M pf c n x (.ok L) o a z τ:=by
 obtain ⟨m,hz⟩:=hz
 refine ⟨m+1,fun H nv zs k d pre i E R h hd ha e7 e0 e1 e2 hR=>?_⟩
 obtain ⟨-,-,-,w7,w13,w16,w22⟩:=qcr M ⟨none,z9⟩
 have l5:Op.load1 [.ptr c.r 5] H=some (.bool false):=h.ld5
 simp only [↓qi,qy,reduceIte,Nat.reduceEqDiff,w7,e0,qg,l5,w13]
 refine C3.q (qcs (M:=M) h hT) fun v H1 ⟨hv1,hh⟩=>?_
 subst hv1;subst hh
 simp only [↓qi,qy,reduceIte,Nat.reduceEqDiff,PS.left]
 refine C3.q (qqw (M:=M)) fun v H2 ⟨hh,hv⟩=>?_
 subst hv;subst hh
 have hne:((sigR (tok L):Nat):Int)=(n:Nat):=by omega
 have hk:=h.sz hT
 obtain ⟨wk,H3,st,h3,p3⟩:=h.adv hT (qpo (by omega))
 simp only [↓qi,qy,reduceIte,Nat.reduceEqDiff,qs4,w16,e1,hne,jn,w22,e0,qg,h.ld1,wk,st,e2]
 refine C3.q (hp H3 nv zs (k+1) (d+1) h3 (by omega)) fun v H4 ⟨nv4,zs4,k4,h4,p4,hd4,hv4⟩=>?_
 obtain ⟨j,hj⟩:=hv4.int
 subst hj
 have hk4:=h4.sz hT
 have f5:Fr Em H4 (H4.alloc (OR [.int .i64 i,.int .i64 j] T_int)):=(Fr.refl H4).alloc _
 simp only [↓qi,qy,reduceIte,Nat.reduceEqDiff,e0,e7,bsk2]
 refine C3.q (qa5 (M:=M) (h4.em f5) (by omega) (kids:=[i,j]) (kid2 i j) (by simp)) fun w H6 ⟨nv6,kv,hw,h6,p6⟩=>?_
 subst hw
 simp only [↓qi,qy,reduceIte,Nat.reduceEqDiff]
 refine hz H6 nv6 _ k4 d pre ((zs4.length:Nat):Int) _ R h6 (by rw [qe,qt];omega) (fun hb=>?_) ?_ ?_ ?_ ?_ fun i' H' nv' zs' k' q1 q2 q3 q4=>hR i' H' nv' zs' k' q1 ((((p3.trans p4).trans (PK.em f5)).trans p6).trans q2) q3 q4
 rotate_left
 ·simp only [↓qi,qy,reduceIte,Nat.reduceEqDiff]
 ·simp only [↓qi,qy,reduceIte,Nat.reduceEqDiff,e0]
 ·simp only [↓qi,qy,reduceIte,Nat.reduceEqDiff,e1]
 ·simp only [↓qi,qy,reduceIte,Nat.reduceEqDiff,e2]
 obtain ⟨hi,hzs⟩:=ha rfl
 cases σ with
 | bad L'=>cases hb
 | ok L' =>
  obtain ⟨hj,hz4⟩:=hv4
  injection hj with _ hj
  have hzl:=congrArg List.length hz4
  have hzl0:=congrArg List.length hzs
  rw [qn,qe,qn,It.len] at hzl
  rw [qn,qe,Ex.len] at hzl0
  have hsy:(It.e y).sz=y.sz:=rfl
  have px:=x.pos
  have py:=y.pos
  refine ⟨?_,?_⟩
  ·simp only [Ex.sz];omega
  ·rw [jt,hz4,hzs]
   simp only [It.enc,Ex.enc,qu,x3,j0,hzl0]
   congr 3
   rw [hi,hj]
   simp only [hzl0,hsy]
theorem qn0 (hT:TKs c.S c.rs) (hn:n ≠ 0) (hp:CQ M pf [] c (.e x) σ o a τ) {τ2:PS} (hz:RL M pf c n x τ o a y τ2):CQ M z9 [.int .i64 (n:Nat),.fn (.func pf) [.ptr c.r 0] []] c (.e y) σ o a τ2:=by
 intro H nv zs k d h hd
 obtain ⟨m,hz⟩:=hz
 refine qmc ?_
 obtain ⟨w0,w4,-,-,-,-,-⟩:=qcr M ⟨none,z9⟩
 simp only [↓qi,qy,reduceIte,Nat.reduceEqDiff,w0]
 refine C3.q (hp H nv zs k d h hd) fun v H4 ⟨nv4,zs4,k4,h4,p4,hd4,hv4⟩=>?_
 obtain ⟨j,hj⟩:=hv4.int
 subst hj
 simp only [↓qi,qy,reduceIte,Nat.reduceEqDiff,w4]
 refine LOOP3.few m (hz H4 nv4 zs4 k4 d (zs.map (·.1)) j _ _ h4 hd4 (fun hb=>?_) ?_ ?_ ?_ ?_ fun i' H' nv' zs' k' q1 q2 q3 q4=>⟨nv',zs',k',q1,p4.trans q2,q3,?_⟩)
 ·cases τ with
  | bad L'=>cases hb
  | ok L' =>
   obtain ⟨hj,hz4⟩:=hv4
   injection hj with _ hj
   rw [qn]
   exact ⟨hj,hz4⟩
 ·simp only [↓qi,qy,reduceIte,Nat.reduceEqDiff]
 ·simp only [↓qi,qy,reduceIte,Nat.reduceEqDiff]
 ·simp only [↓qi,qy,reduceIte,Nat.reduceEqDiff]
 ·simp only [↓qi,qy,reduceIte,Nat.reduceEqDiff]
 ·cases τ2 with
  | bad L'=>exact ⟨_,rfl⟩
  | ok L' =>
   obtain ⟨q5,q6⟩:=q4 rfl
   rw [qn] at q5 q6
   exact ⟨by rw [q5];rfl,q6⟩
theorem qt7 (h:CQ M z9 [.int .i64 2,.fn (.func xc) [.ptr c.r 0] []] c (.e y) σ o a τ):CQ M jr [] c (.e y) σ o a τ:=by
 intro H nv zs k d hs hd
 refine qk9 ?_
 have mk:Op.mkFunc xc 1 [.ptr c.r 0]=some (.fn (.func xc) [.ptr c.r 0] []):=rfl
 simp only [↓qi,qy,reduceIte,Nat.reduceEqDiff,qla,mk]
 refine C3.q (h H nv zs k d hs hd) fun v H4 hq=>?_
 simp only [↓qi,qy,reduceIte,Nat.reduceEqDiff]
 exact hq
theorem qqo (h:CQ M z9 [.int .i64 1,.fn (.func jr) [.ptr c.r 0] []] c (.e y) σ o a τ):CQ M xe [] c (.e y) σ o a τ:=by
 intro H nv zs k d hs hd
 refine qkx ?_
 have mk:Op.mkFunc jr 1 [.ptr c.r 0]=some (.fn (.func jr) [.ptr c.r 0] []):=rfl
 simp only [↓qi,qy,reduceIte,Nat.reduceEqDiff,qky,mk]
 refine C3.q (h H nv zs k d hs hd) fun v H4 hq=>?_
 simp only [↓qi,qy,reduceIte,Nat.reduceEqDiff]
 exact hq
theorem CQ.any {f:Nat} {args:List AV} {u w:It} {L:Tk} (h:CQ M f args c u (.bad L) o a (.bad L)):CQ M f args c w (.bad L) o a (.bad L):=h
theorem qwm (hT:TKs c.S c.rs):CQ M jr [] c (.e y) (.bad L) o a (.bad L):=qt7 (qn0 (n:=2) (x:=y) (τ:=.bad L) hT (by decide) qyz qzt)
theorem qv3 (hT:TKs c.S c.rs):CQ M xe [] c (.e y) (.bad L) o a (.bad L):=qqo (qn0 (n:=1) (x:=y) (τ:=.bad L) hT (by decide) (qwm hT) qzt)
end
end Go.Am
