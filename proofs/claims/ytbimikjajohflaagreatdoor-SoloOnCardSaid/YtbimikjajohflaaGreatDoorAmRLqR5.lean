/- LqR5: SoL SoM SoN. -/
import Derived.Test.YtbimikjajohflaaGreatDoorAmRCodeR
import Derived.Test.YtbimikjajohflaaGreatDoorAmRLqR4
import Derived.Test.YtbimikjajohflaaGreatDoorAmRLqR0
set_option linter.unusedVariables false
set_option linter.unusedSimpArgs false
set_option linter.unusedSectionVars false
set_option maxRecDepth 100000
namespace Go.Am
open Lang Go.Proofs
variable {M:Mac} [MK M]
theorem qq7 {code:List Ins}:∀ (n:Nat) (m:SM),m.good->(m.run code n).good
 | 0,m,h=>h
 | n+1,m,h=>by
  unfold SM.run
  cases hs:m.stop code with
  | some x =>
   rcases SM.stop_cases hs with ⟨_,rfl⟩|⟨_,_,rfl⟩|⟨_,_,_,rfl⟩
   ·exact h
   ·exact h.fin 0
   ·exact h.fin 190
  | none =>
   obtain ⟨_,_,h3⟩:=SM.stop_none hs
   have:=h.fl
   have hp:m.pay.good:=⟨SM.pay_ok h.ok,h.wl,h.bl,h.wr,h.rr,h.br,h.qr,by show m.left-1+m.blk<=2000000;omega⟩
   exact qq7 n _ (hp.take (by show m.left-1+m.blk+1<=2000000;omega) code)
theorem qlf {code:List Ins}:∀ (n:Nat) (m:SM),m.ok -> ∀ p ∈ m.places code n,0<=p
 | 0,m,h,p,hp=>by cases hp
 | n+1,m,h,p,hp=>by
  unfold SM.places at hp
  cases hs:m.stop code with
  | some x=>rw [hs] at hp;cases hp
  | none =>
   rw [hs] at hp
   rcases xe.1 hp with rfl|q
   ·exact h.p0
   ·exact qlf n _ (SM.take_ok (SM.pay_ok h) code) p q
def inS (code:List Ins) (b:Bool) (p:Int):Bool:=match code[p.toNat]? with
 | some i=>if i.op=17 then true else if i.op=18 then false else b
 | none=>b
theorem qqv {code:List Ins}:∀ (l:List Int) (b:Bool) (p:Int),inT code b (l ++ [p])=inS code (inT code b l) p
 | [],b,p=>rfl
 | q::l,b,p=>qqv l _ p
theorem eqRegs {rs:List Int} (h:rs.length=8) (H:AHeap):Op.eq (.agg (.part 0 none .int (.part 1 none .int (.part 2 none .int (.part 3 none .int (.part 4 none .int (.part 5 none .int (.part 6 none .int (.part 7 none .int .nil))))))))) false [.agg (rs.map uC),.agg (rs.map uC)] H=some (.bool true):=by
 obtain ⟨a0,a1,a2,a3,a4,a5,a6,a7,e⟩:=list8 h
 rw [e]
 have q:∀ a:Int,eqTree .int (uC a) (uC a)=some true:=fun a=>by simp only [uC,eqTree,qef];simp [eqK]
 have p:∀ (k:Nat) (a:Int) (t:EqTree) (l:List AV),nth l k=some (uC a)->eqTree (.part k none .int t) (.agg l) (.agg l)=eqTree t (.agg l) (.agg l):=fun k a t l h=>by
  simp only [eqTree,partAt,h,qd,q,qi]
 have r:eqTree (.part 0 none .int (.part 1 none .int (.part 2 none .int (.part 3 none .int (.part 4 none .int (.part 5 none .int (.part 6 none .int (.part 7 none .int .nil)))))))) (.agg ([a0,a1,a2,a3,a4,a5,a6,a7].map uC)) (.agg ([a0,a1,a2,a3,a4,a5,a6,a7].map uC))=some true:=by
  rw [p 0 a0 _ _ rfl,p 1 a1 _ _ rfl,p 2 a2 _ _ rfl,p 3 a3 _ _ rfl,p 4 a4 _ _ rfl,p 5 a5 _ _ rfl,p 6 a6 _ _ rfl,p 7 a7 _ _ rfl]
  rfl
 show (eqTree _ _ _).bind _=_
 rw [r];rfl
theorem qqj {H:AHeap} {va vb:AV} {ws rs:List Int} {x y z u:Int} (h1:SlT encW 1 H va ws) (h2:SlT encW 1 H vb ws) (h8:rs.length=8) (hl:ws.length<=4096) :
 vg M vq [.agg (va::(rs.map uC ++ [.int .i64 x,.int .i64 y,.int .i64 z,.int .i64 u])),.agg (vb::(rs.map uC ++ [.int .i64 x,.int .i64 y,.int .i64 z,.int .i64 u]))] H fun v H'=>v=.bool true/\Fr Em H H':=by
 refine qom ?_
 obtain ⟨w0,w2,w10,w31,w15,w21,w30⟩:=qon M ⟨none,vq⟩
 obtain ⟨c1,hc1⟩:∃ l:List AV,l=va::(rs.map uC ++ [.int .i64 x,.int .i64 y,.int .i64 z,.int .i64 u]):=⟨_,rfl⟩
 obtain ⟨c2,hc2⟩:∃ l:List AV,l=vb::(rs.map uC ++ [.int .i64 x,.int .i64 y,.int .i64 z,.int .i64 u]):=⟨_,rfl⟩
 rw [<-hc1,<-hc2]
 have at':∀ {w:AV} {c:List AV},c=w::(rs.map uC ++ [.int .i64 x,.int .i64 y,.int .i64 z,.int .i64 u])->c[0]? = some w/\c[9]? = some (.int .i64 x)/\c[10]? = some (.int .i64 y)/\c[11]? = some (.int .i64 z)/\c[12]? = some (.int .i64 u)/\(c.drop 1).take 8=rs.map uC/\c.length=13:=fun {w c} e=>by
  obtain ⟨a0,a1,a2,a3,a4,a5,a6,a7,e8⟩:=list8 h8
  rw [e,e8];exact ⟨rfl,rfl,rfl,rfl,rfl,rfl,rfl⟩
 obtain ⟨H1,e1⟩:∃ X,X=H.alloc (OR c1 zf):=⟨_,rfl⟩
 obtain ⟨H2,e2⟩:∃ X,X=H1.alloc (OR c2 zf):=⟨_,rfl⟩
 have f1:Fr Em H H1:=by rw [e1];exact (Fr.refl H).alloc _
 have f12:Fr Em H1 H2:=by rw [e2];exact (Fr.refl H1).alloc _
 have f2:Fr Em H H2:=f1.trans f12 fun _ q=>q.elim
 have n1:H1.next=H.next+1:=by rw [e1,x4]
 have g1:H2.get H.next=some (OR c1 zf):=by rw [f12.keep _ (by omega) id,e1,xa]
 have g2:H2.get (H.next+1)=some (OR c2 zf):=by rw [e2,<-n1,xa]
 obtain ⟨p0,p9,p10,p11,p12,p8,pl⟩:=at' hc1
 obtain ⟨q0,q9,q10,q11,q12,q8,ql⟩:=at' hc2
 have L1:=fun o=>ye (xm g1) o
 have L2:=fun o=>ye (xm g2) o
 have r1:Op.loadN 8 [.ptr H.next 1] H2=some (.agg (rs.map uC)):=by rw [wx (xm g1) (by rw [pl];decide),p8]
 have r2:Op.loadN 8 [.ptr (H.next+1) 1] H2=some (.agg (rs.map uC)):=by rw [wx (xm g2) (by rw [ql];decide),q8]
 have k1:=h1.em f2
 have k2:=h2.em f2
 have ln1:=k1.len
 have ln2:=k2.len
 have ca:∀ l,AV.cells (.agg l)=l:=jg
 have a0:=(L1 0).trans p0
 have b0:=(L2 0).trans q0
 simp only [↓qq,ze,reduceIte,Nat.reduceEqDiff,w0,ca,<-e1,<-e2,n1,w2,a0,b0,ln1,ln2,yw,w10]
 refine LOOP3.intro (fun n E Hx=>∃ i:Nat,E=[(5,.int .i64 (i:Nat)),(3,.ptr (H.next+1) 0),(2,.ptr H.next 0)]/\n=ws.length-i/\i<=ws.length/\Hx=H2) ?_ ?_
 ·exact ⟨_,_,⟨0,rfl,rfl,xu _,rfl⟩,by simp only [↓qq,ze,reduceIte,Nat.reduceEqDiff]⟩
 rintro n E Hx ⟨i,rfl,rfl,hi,rfl⟩
 rcases yf i ws.length with hlt|hge
 ·have q1:(i:Int)<(ws.length:Nat):=by omega
  obtain ⟨v,hv⟩:∃ v,ws[i]? = some v:=⟨ws[i],by simp [hlt]⟩
  have i1:=k1.idx hv (z:=(i:Int)) rfl .i64
  have i2:=k2.idx hv (z:=(i:Int)) rfl .i64
  have v1:Op.load1 [.ptr (slB va) (slO 1 va i)] Hx=some (.int .u64 v):=k1.load0 qio hv (by decide)
  have v2:Op.load1 [.ptr (slB vb) (slO 1 vb i)] Hx=some (.int .u64 v):=k2.load0 qio hv (by decide)
  have wi:wrapI .i64 ((i:Int)+1)=((i+1:Nat):Int):=by rw [vy (by omega) (by omega)];omega
  simp only [↓qq,ze,reduceIte,Nat.reduceEqDiff,w15,a0,ln1,q1,w21,i1,v1,b0,i2,v2,yw,w30,wi]
  exact ⟨_,_,⟨i+1,rfl,rfl,by omega⟩,by simp only [↓qq,ze,reduceIte,Nat.reduceEqDiff],by omega⟩
 ·have q1:¬ (i:Int)<(ws.length:Nat):=by omega
  simp only [↓qq,ze,reduceIte,Nat.reduceEqDiff,w15,a0,ln1,q1,reduceCtorEq,w31,r1,r2,eqRegs h8,(L1 9).trans p9,(L2 9).trans q9,(L1 10).trans p10,(L2 10).trans q10,(L1 11).trans p11,(L2 11).trans q11,(L1 12).trans p12,(L2 12).trans q12,yw]
  exact f2
end Go.Am
namespace Go.Am
open Lang Go.Proofs
variable {M:Mac} [MK M]
theorem slW {H H':AHeap} {W:Nat->Prop} {v:AV} {xs:List Int} (h:SlT encW 1 H v xs) (f:Fr W H H') (hw:∀ b,OnS v b -> ¬ W b):SlT encW 1 H' v xs:=by
 by_cases hn:v=.nils
 ·subst hn;exact ⟨h.1,h.2⟩
 ·exact Sl.fr h f (.inr (hw _ ⟨hn,rfl⟩))
def askC (cv wsv:AV) (rs:List Int) (pc steps:Int):List AV:=cv::(rs.map uC ++ [.int .i64 pc,wsv,.int .i64 steps])
structure AskM (cv wsv:AV) (rs:List Int) (pc steps:Int) (b:Nat) (H:AHeap):Prop where
 get:H.get b=some (OR (askC cv wsv rs pc steps) vz)
 lt:b<H.next
theorem AskM.em {cv wsv:AV} {rs:List Int} {pc steps:Int} {b:Nat} {H H':AHeap} (h:AskM cv wsv rs pc steps b H) (f:Fr Em H H'):AskM cv wsv rs pc steps b H':=⟨by rw [f.keep _ h.lt id];exact h.get,qf h.lt f.next⟩
theorem AskM.ld {cv wsv:AV} {rs:List Int} {pc steps:Int} {b:Nat} {H:AHeap} (h:AskM cv wsv rs pc steps b H) (h8:rs.length=8):Op.load1 [.ptr b 0] H=some cv/\Op.loadN 8 [.ptr b 1] H=some (.agg (rs.map uC))/\Op.load1 [.ptr b 9] H=some (.int .i64 pc)/\Op.load1 [.ptr b 10] H=some wsv/\Op.load1 [.ptr b 11] H=some (.int .i64 steps)/\Op.loadN 12 [.ptr b 0] H=some (.agg (askC cv wsv rs pc steps)):=by
 obtain ⟨a0,a1,a2,a3,a4,a5,a6,a7,e⟩:=list8 h8
 have l:=fun o=>ye (xm h.get) o
 have q:(askC cv wsv rs pc steps)[0]? = some cv/\((askC cv wsv rs pc steps).drop 1).take 8=rs.map uC/\(askC cv wsv rs pc steps)[9]? = some (.int .i64 pc)/\(askC cv wsv rs pc steps)[10]? = some wsv/\(askC cv wsv rs pc steps)[11]? = some (.int .i64 steps)/\(askC cv wsv rs pc steps).length=12:=by
  unfold askC;rw [e];exact ⟨rfl,rfl,rfl,rfl,rfl,rfl⟩
 obtain ⟨q0,q1,q2,q3,q4,q5⟩:=q
 exact ⟨(l 0).trans q0,by rw [wx (xm h.get) (by rw [q5];decide),q1],(l 9).trans q2,(l 10).trans q3,(l 11).trans q4,by rw [wx (xm h.get) (by rw [q5];decide),kx,xn (by rw [q5];decide)]⟩
structure EndM (wv:AV) (m:SM) (b:Nat) (H:AHeap):Prop where
 get:H.get b=some (OR (endC wv m) zf)
 lt:b<H.next
theorem EndM.em {wv:AV} {m:SM} {b:Nat} {H H':AHeap} (h:EndM wv m b H) (f:Fr Em H H'):EndM wv m b H':=⟨by rw [f.keep _ h.lt id];exact h.get,qf h.lt f.next⟩
theorem EndM.ld {wv:AV} {m:SM} {b:Nat} {H:AHeap} (h:EndM wv m b H) (h8:m.rs.length=8):Op.load1 [.ptr b 0] H=some wv/\Op.loadN 8 [.ptr b 1] H=some (.agg (m.rs.map uC))/\Op.load1 [.ptr b 9] H=some (.int .i64 m.pc)/\Op.load1 [.ptr b 10] H=some (.int .i64 (m.left:Nat))/\Op.load1 [.ptr b 11] H=some (.int .i64 (m.blk:Nat))/\Op.load1 [.ptr b 12] H=some (.int .i64 (m.err:Nat))/\Op.loadN 13 [.ptr b 0] H=some (.agg (endC wv m)):=by
 obtain ⟨a0,a1,a2,a3,a4,a5,a6,a7,e⟩:=list8 h8
 have l:=fun o=>ye (xm h.get) o
 have q:(endC wv m)[0]? = some wv/\((endC wv m).drop 1).take 8=m.rs.map uC/\(endC wv m)[9]? = some (.int .i64 m.pc)/\(endC wv m)[10]? = some (.int .i64 (m.left:Nat))/\(endC wv m)[11]? = some (.int .i64 (m.blk:Nat))/\(endC wv m)[12]? = some (.int .i64 (m.err:Nat))/\(endC wv m).length=13:=by
  unfold endC;rw [e];exact ⟨rfl,rfl,rfl,rfl,rfl,rfl,rfl⟩
 obtain ⟨q0,q1,q2,q3,q4,q5,q6⟩:=q
 exact ⟨(l 0).trans q0,by rw [wx (xm h.get) (by rw [q6];decide),q1],(l 9).trans q2,(l 10).trans q3,(l 11).trans q4,(l 12).trans q5,ld13 h.get q6⟩
theorem qpf (H:AHeap) {wv:AV} {m:SM} (h8:m.rs.length=8) (ow:oneCell wv=true):∃ H',Op.store 13 [.ptr H.next 0,.agg (endC wv m)] (H.alloc (OR endZ zf))=some (.undef,H')/\EndM wv m H.next H'/\Fr Em H H':=by
 have st:=st13 (x:=endC wv m) (xa H (OR endZ zf)) rfl (qgw h8) (qqp ow)
 exact ⟨_,st,⟨xc ..,by show H.next<H.next+1;omega⟩,((Fr.refl H).alloc _).set (.inr (qc _)) _⟩
theorem end_left {H:AHeap} {wv:AV} {m:SM} {b:Nat} (h:EndM wv m b H) (h8:m.rs.length=8) (k:Nat):∃ H',Op.store 1 [.ptr b 10,.int .i64 (k:Nat)] H=some (.undef,H')/\EndM wv { m with left:=k } b H'/\Fr (On b) H H':=by
 obtain ⟨a0,a1,a2,a3,a4,a5,a6,a7,e⟩:=list8 h8
 have st:=qfu h.get (o:=10) (by rw [qgw h8];decide) (v:=.int .i64 (k:Nat)) rfl
 have eq:(endC wv m).set 10 (.int .i64 (k:Nat))=endC wv { m with left:=k }:=by unfold endC;simp only [e];rfl
 rw [eq] at st
 exact ⟨_,st,⟨xc ..,h.lt⟩,(Fr.refl H).set (W:=On b) (.inl rfl) _⟩
theorem end_blk {H:AHeap} {wv:AV} {m:SM} {b:Nat} (h:EndM wv m b H) (h8:m.rs.length=8) (k:Nat):∃ H',Op.store 1 [.ptr b 11,.int .i64 (k:Nat)] H=some (.undef,H')/\EndM wv { m with blk:=k } b H'/\Fr (On b) H H':=by
 obtain ⟨a0,a1,a2,a3,a4,a5,a6,a7,e⟩:=list8 h8
 have st:=qfu h.get (o:=11) (by rw [qgw h8];decide) (v:=.int .i64 (k:Nat)) rfl
 have eq:(endC wv m).set 11 (.int .i64 (k:Nat))=endC wv { m with blk:=k }:=by unfold endC;simp only [e];rfl
 rw [eq] at st
 exact ⟨_,st,⟨xc ..,h.lt⟩,(Fr.refl H).set (W:=On b) (.inl rfl) _⟩
theorem qrd {H:AHeap} {cv wsv:AV} {code:List Ins} {rs ws:List Int} {pc steps:Int} (h:SoA H cv wsv code rs ws) (hs:steps<=999):vg M vv [.agg (askC cv wsv rs pc steps)] H fun v H'=>(v=.int .i64 0\/v=.int .i64 1)/\Fr Em H H':=by
 refine qmc ?_
 obtain ⟨w0,w2,w10⟩:=qmd M ⟨none,vv⟩
 obtain ⟨H1,e1⟩:∃ X,X=H.alloc (OR (askC cv wsv rs pc steps) vz):=⟨_,rfl⟩
 have f1:Fr Em H H1:=by rw [e1];exact (Fr.refl H).alloc _
 have g1:AskM cv wsv rs pc steps H.next H1:=⟨by rw [e1,xa],by rw [e1,x4];omega⟩
 obtain ⟨l0,l1,l9,l10,l11,l12⟩:=g1.ld h.r8
 have lc:=(h.cd.em f1).len
 have lw:=(h.sl.em f1).len
 have ca:AV.cells (.agg (askC cv wsv rs pc steps))=askC cv wsv rs pc steps:=jg _
 have c3:¬ (5000:Int)<steps:=by omega
 obtain ⟨QQ,hQ⟩:∃ QQ:AV->AHeap->Prop,QQ=fun v H'=>(v=.int .i64 0\/v=.int .i64 1)/\Fr Em H H':=⟨_,rfl⟩
 rw [<-hQ]
 have q0:QQ (.int .i64 0) H1:=by rw [hQ];exact ⟨.inl rfl,f1⟩
 have q1:QQ (.int .i64 1) H1:=by rw [hQ];exact ⟨.inr rfl,f1⟩
 by_cases c1:(5000:Int)<(ws.length:Nat)
 ·simp only [↓qq,ze,reduceIte,Nat.reduceEqDiff,w0,ca,<-e1,w2,l10,lw,c1]
  exact q1
 by_cases c2:(2000:Int)<(code.length:Nat)
 ·simp only [↓qq,ze,reduceIte,Nat.reduceEqDiff,w0,ca,<-e1,w2,l10,lw,c1,l0,lc,c2]
  exact q1
 simp only [↓qq,ze,reduceIte,Nat.reduceEqDiff,w0,ca,<-e1,w2,l10,lw,c1,l0,lc,c2,l11,c3,w10]
 exact q0
theorem qj8 {code:List Ins} {m:SM} (h:m.good):(m.runs code).good:=qq7 _ m h
theorem qrk {H:AHeap} {cv wsv:AV} {code:List Ins} {rs ws:List Int} {pc steps more:Int} (hal:∀ H1,Fr Em H H1->vg M qgo [] H1 fun v H'=>v=.bool true/\H'=H1) (h:SoA H cv wsv code rs ws) (hst:-9223372036854775808<=steps/\steps<9223372036854775808) (hmo:0<=more/\more<65536) :
 vg M wh [.agg (askC cv wsv rs pc steps),.int .u16 more] H fun v _=>v=.bool true:=by
 refine qkl ?_
 obtain ⟨w0,w4,w6,w14,w18,w20,w28,w38,w42,w67,w47,w75,w53,w66,w61⟩:=qkm M ⟨none,wh⟩
 obtain ⟨H1,e1⟩:∃ X,X=H.alloc (OR (askC cv wsv rs pc steps) vz):=⟨_,rfl⟩
 have f1:Fr Em H H1:=by rw [e1];exact (Fr.refl H).alloc _
 have n1:H1.next=H.next+1:=by rw [e1,x4]
 have g1:AskM cv wsv rs pc steps H.next H1:=⟨by rw [e1,xa],by omega⟩
 have ca:AV.cells (.agg (askC cv wsv rs pc steps))=askC cv wsv rs pc steps:=jg _
 simp only [↓qq,ze,reduceIte,Nat.reduceEqDiff,w0,ca,<-e1]
 refine C3.q (hal H1 f1) fun v Ha ⟨hv,hh⟩=>?_
 subst hv;rw [hh]
 obtain ⟨l0,l1,l9,l10,l11,l12⟩:=g1.ld h.r8
 have t1:-999<=steps.tmod 1000/\steps.tmod 1000<=999:=by
  have a:=Int.tmod_lt_of_pos steps (b:=1000) (by decide)
  have b:=Int.lt_tmod_of_pos steps (b:=1000) (by decide)
  omega
 obtain ⟨S,hS,hS2⟩:∃ S:Nat,(S:Int)=(steps.tmod 1000+1000).tmod 1000/\S<=999:=by
  have hp:0<=steps.tmod 1000+1000:=by omega
  rw [yl hp]
  exact ⟨((steps.tmod 1000+1000) % 1000).toNat,by omega,by omega⟩
 obtain ⟨mm,hm,hm2⟩:∃ mm:Nat,(mm:Int)=more.tmod 1000/\mm<=999:=by
  rw [yl hmo.1]
  exact ⟨(more % 1000).toNat,by omega,by omega⟩
 have rm1:Op.bin .rem [.int .i64 steps,.int .i64 1000]=some (.int .i64 (steps.tmod 1000)):=o_rem .i64 _ _ (by decide)
 have wr1:wrapI .i64 (steps.tmod 1000+1000)=steps.tmod 1000+1000:=vy (by omega) (by omega)
 have rm2:Op.bin .rem [.int .i64 (steps.tmod 1000+1000),.int .i64 1000]=some (.int .i64 (S:Nat)):=by rw [o_rem .i64 _ _ (by decide),hS]
 have wm:wrapI .i64 more=more:=vy (by omega) (by omega)
 have rm3:Op.bin .rem [.int .i64 more,.int .i64 1000]=some (.int .i64 (mm:Nat)):=by rw [o_rem .i64 _ _ (by decide),hm]
 -- the steps are set
 obtain ⟨H2,st2,g2,f2⟩:∃ H2,Op.store 1 [.ptr H.next 11,.int .i64 (S:Nat)] H1=some (.undef,H2)/\AskM cv wsv rs pc (S:Nat) H.next H2/\Fr Em H H2:=by
  obtain ⟨a0,a1,a2,a3,a4,a5,a6,a7,e⟩:=list8 h.r8
  have st:=qfu g1.get (o:=11) (by unfold askC;rw [e];show 11<12;decide) (v:=.int .i64 (S:Nat)) rfl
  have eq:(askC cv wsv rs pc steps).set 11 (.int .i64 (S:Nat))=askC cv wsv rs pc (S:Nat):=by unfold askC;rw [e];rfl
  rw [eq] at st
  exact ⟨_,st,⟨xc ..,g1.lt⟩,f1.set (.inr (qc _)) _⟩
 have h2:=h.em f2
 obtain ⟨k0,k1,k9,k10,k11,k12⟩:=g2.ld h.r8
 simp only [↓qq,ze,reduceIte,Nat.reduceEqDiff,w4,l11,rm1,wr1,rm2,st2,w6,k12]
 refine C3.q (qrd (M:=M) h2 (by omega)) fun v H3 ⟨hv,f23⟩=>?_
 rcases hv with rfl|rfl
 case inr =>
  simp only [↓qq,ze,reduceIte,Nat.reduceEqDiff,Int.reduceLT]
 have f3:=f2.trans f23 fun _ q=>q.elim
 have h3:=h.em f3
 have g3:=g2.em f23
 obtain ⟨k0,k1,k9,k10,k11,k12⟩:=g3.ld h.r8
 simp only [↓qq,ze,reduceIte,Nat.reduceEqDiff,Int.reduceLT,w14,wm,rm3,k0,k1,k9,k10,k11]
 refine C3.q (qim (M:=M) h3) fun v H4 ⟨f34,hv⟩=>?_
 have f4:=f3.trans f34 fun _ q=>q.elim
 have hSm:wrapI .i64 (((S:Nat):Int)+((mm:Nat):Int))=((S+mm:Nat):Int):=by rw [vy (by omega) (by omega)];omega
 have bads:soBad code pc ws ((S+mm:Nat):Int) ↔ soBad code pc ws ((S:Nat):Int):=by unfold soBad;omega
 rcases hv with ⟨hb,rfl⟩|⟨hb,wvA,rfl,owA,frA⟩
 ·-- what may not be
  have st:=st13 (x:=endZ) (xa H4 (OR endZ zf)) rfl rfl rfl
  obtain ⟨H5,e5⟩:∃ X,X=(H4.alloc (OR endZ zf)).set H4.next (OR endZ zf):=⟨_,rfl⟩
  rw [<-e5] at st
  have f45:Fr Em H4 H5:=by rw [e5];exact ((Fr.refl H4).alloc _).set (.inr (qc _)) _
  have f5:=f4.trans f45 fun _ q=>q.elim
  have g5:=(g3.em f34).em f45
  obtain ⟨k0,k1,k9,k10,k11,k12⟩:=g5.ld h.r8
  simp only [↓qq,ze,reduceIte,Nat.reduceEqDiff,zg,qbi,st,w18,k0,k1,k9,k10,k11,hSm]
  refine C3.q (qim (M:=M) (h.em f5)) fun v H6 ⟨f56,hv⟩=>?_
  rcases hv with ⟨_,rfl⟩|⟨hb',_⟩
  ·have st6:=st13 (x:=endZ) (xa H6 (OR endZ zf)) rfl rfl rfl
   have n2:¬ (2:Int)=0:=by decide
   simp only [↓qq,ze,reduceIte,Nat.reduceEqDiff,zg,qbi,st6,w20,n2,yw]
  ·exact (hb' (bads.2 hb)).elim
 have hb2:¬ soBad code pc ws ((S+mm:Nat):Int):=fun q=>hb (bads.1 q)
 obtain ⟨m0,hm0⟩:∃ m0,m0=SM.init ws rs pc S:=⟨_,rfl⟩
 have hmS:SM.init ws rs pc ((S:Nat):Int).toNat=m0:=hm0.symm
 have hmS2:SM.init ws rs pc ((S+mm:Nat):Int).toNat=m0.add mm:=by rw [hm0];rfl
 have gm:m0.good:=by rw [<-hmS];exact qer h.r8 h.rr h.wr hb
 have gm2:(m0.add mm).good:=by rw [<-hmS2];exact qer h.r8 h.rr h.wr hb2
 rw [hmS] at owA ⊢
 obtain ⟨A,hA⟩:∃ A,A=m0.runs code:=⟨_,rfl⟩
 have gA:A.good:=by rw [hA];exact qj8 gm
 rw [<-hA] at owA ⊢
 have oA:oneCell wvA=true:=(OwnT.sl owA).one
 obtain ⟨H5,st5,a5,f45⟩:=qpf H4 (wv:=wvA) (m:=A) gA.ok.r8 oA
 have f5:=f4.trans f45 fun _ q=>q.elim
 have g5:=(g3.em f34).em f45
 obtain ⟨k0,k1,k9,k10,k11,k12⟩:=g5.ld h.r8
 simp only [↓qq,ze,reduceIte,Nat.reduceEqDiff,zg,qbi,st5,w18,k0,k1,k9,k10,k11,hSm]
 refine C3.q (qim (M:=M) (h.em f5)) fun v H6 ⟨f56,hv⟩=>?_
 rcases hv with ⟨hb',_⟩|⟨_,wvB,rfl,owB,frB⟩
 ·exact (hb2 hb').elim
 rw [hmS2] at owB ⊢
 obtain ⟨B,hB⟩:∃ B,B=(m0.add mm).runs code:=⟨_,rfl⟩
 have gB:B.good:=by rw [hB];exact qj8 gm2
 rw [<-hB] at owB ⊢
 have oB:oneCell wvB=true:=(OwnT.sl owB).one
 obtain ⟨H7,st7,b7,f67⟩:=qpf H6 (wv:=wvB) (m:=B) gB.ok.r8 oB
 have f57:=f56.trans f67 fun _ q=>q.elim
 have f7:=f5.trans f57 fun _ q=>q.elim
 have a7:=a5.em f57
 have g7:=g5.em f57
 have owA7:SlT encW 1 H7 wvA A.w:=((OwnT.sl owA).em f45).em f57
 have owB7:SlT encW 1 H7 wvB B.w:=(OwnT.sl owB).em f67
 obtain ⟨p0,p1,p9,p10,p11,p12,p13⟩:=a7.ld gA.ok.r8
 obtain ⟨q0,q1,q9,q10,q11,q12,q13⟩:=b7.ld gB.ok.r8
 have z0:=eq_true (show (0:Int)=0 from rfl)
 have hne:H4.next ≠ H6.next:=by have:=f45.next;have:=f56.next;have:=a5.lt;omega
 by_cases he:A.err=190
 case neg =>
  -- it did not end for its steps
  have hBA:B=A.add mm:=by rw [hB,hA];exact SM.runs_add mm (by rw [<-hA];exact he)
  have e190:¬ ((A.err:Nat):Int)=190:=by omega
  have hl:=gA.fl
  have wl:wrapI .i64 (((A.left:Nat):Int)+((mm:Nat):Int))=((A.left+mm:Nat):Int):=by rw [vy (by omega) (by omega)];omega
  obtain ⟨H8,st8,a8,f78⟩:=end_left a7 gA.ok.r8 (A.left+mm)
  have b8:EndM wvB B H6.next H8:=⟨by rw [f78.keep _ b7.lt fun (q:H6.next=H4.next)=>hne q.symm];exact b7.get,qf b7.lt f78.next⟩
  have pa:=(a8.ld gA.ok.r8).2.2.2.2.2.2
  have pb:=(b8.ld gB.ok.r8).2.2.2.2.2.2
  have sa:SlT encW 1 H8 wvA A.w:=slW owA7 f78 fun b hbq (q:b=H4.next)=>by have:=Own.lt owA b hbq;omega
  have sb:SlT encW 1 H8 wvB A.w:=by
   have:=slW owB7 f78 fun b hbq (q:b=H4.next)=>by have:=frB b hbq;have:=f45.next;have:=a5.lt;omega
   rwa [hBA] at this
  have ea:endC wvB B=wvB::(A.rs.map uC ++ [.int .i64 A.pc,.int .i64 ((A.left+mm:Nat):Int),.int .i64 (A.blk:Nat),.int .i64 (A.err:Nat)]):=by rw [hBA];rfl
  rw [ea] at pb
  have pa:Op.loadN 13 [.ptr H4.next 0] H8=some (.agg (wvA::(A.rs.map uC ++ [.int .i64 A.pc,.int .i64 ((A.left+mm:Nat):Int),.int .i64 (A.blk:Nat),.int .i64 (A.err:Nat)]))):=pa
  simp only [↓qq,ze,reduceIte,Nat.reduceEqDiff,zg,qbi,st7,w20,z0,w28,p12,e190,p10,wl,st8,pa,pb]
  refine C3.q (qqj (M:=M) sa sb gA.ok.r8 gA.wl) fun v H9 ⟨hv,_⟩=>?_
  subst hv
  simp only [↓qq,ze,reduceIte,Nat.reduceEqDiff]
 case pos =>
  have e190:((A.err:Nat):Int)=190:=by omega
  obtain ⟨k0,k1,k9,k10,k11,k12⟩:=g7.ld h.r8
  simp only [↓qq,ze,reduceIte,Nat.reduceEqDiff,zg,qbi,st7,w20,z0,w28,p12,eq_true e190,w38,k0,k1,k9,k10,k11]
  refine C3.q (qrl (M:=M) (h.em f7) hb) fun v H8 ⟨f78,lv,hv,hlv⟩=>?_
  subst hv
  have hTn:((S:Nat):Int).toNat=S:=rfl
  rw [hmS] at hlv
  obtain ⟨ps,hps⟩:∃ ps,ps=m0.places code (S+1):=⟨_,rfl⟩
  rw [show m0.places code (((S:Nat):Int).toNat+1)=m0.places code (S+1) from rfl,<-hps] at hlv
  have hpos:∀ p ∈ ps,0<=p:=by rw [hps];exact qlf _ _ gm.ok
  have hpl:ps.length<=S+1:=by rw [hps];exact qjv _ _
  have f8:=f7.trans f78 fun _ q=>q.elim
  have g8:=g7.em f78
  have a8:=a7.em f78
  have b8:=b7.em f78
  have h8:=h.em f8
  obtain ⟨k0,k1,k9,k10,k11,k12⟩:=g8.ld h.r8
  have lnv:=hlv.len
  have lnc:=h8.cd.len
  simp only [↓qq,ze,reduceIte,Nat.reduceEqDiff,zg,w42]
  refine LOOP3.intro (fun n E Hx=>∃ i:Nat,E=[(14,.int .i64 (i:Nat)),(13,.bool (inT code false (ps.take i))),(11,lv),(9,.ptr H6.next 0),(7,.ptr H4.next 0),(6,.int .i64 (mm:Nat)),(5,.bool true),(2,.ptr H.next 0)]/\n=ps.length-i/\i<=ps.length/\Hx=H8) ?_ ?_
  ·exact ⟨_,_,⟨0,rfl,rfl,xu _,rfl⟩,by simp only [↓qq,ze,reduceIte,Nat.reduceEqDiff,wg];rfl⟩
  rintro n E Hx ⟨i,rfl,rfl,hi,rfl⟩
  rcases yf i ps.length with hlt|hge
  ·have c1:(i:Int)<(ps.length:Nat):=by omega
   obtain ⟨p,hp⟩:∃ p,ps[i]? = some p:=⟨ps[i],by simp [hlt]⟩
   have hp0:=hpos p (z4 hp)
   have ix:=hlv.idx hp (z:=(i:Int)) rfl .i64
   have lx:Op.load1 [.ptr (slB lv) (slO 1 lv i)] Hx=some (.int .i64 p):=hlv.load0 (fun x=>(rfl:(encI x).length=1)) hp (by decide)
   have wi:wrapI .i64 ((i:Int)+1)=((i+1:Nat):Int):=by rw [vy (by omega) (by omega)];omega
   have hsn:inT code false (ps.take (i+1))=inS code (inT code false (ps.take i)) p:=by rw [List.take_add_one,hp];exact qqv _ _ _
   by_cases c2:p<(code.length:Nat)
   ·obtain ⟨y,hy⟩:∃ y,code[p.toNat]? = some y:=⟨code[p.toNat]'(by omega),by simp [show p.toNat<code.length by omega]⟩
    have iy:=h8.cd.idx hy (z:=p) (by omega) .i64
    have ly:Op.load1 [.ptr (slB cv) (slO 5 cv p.toNat)] Hx=some (.int .i64 y.op):=h8.cd.load0 qqw hy (by decide)
    have hin:inS code (inT code false (ps.take i)) p=if y.op=17 then true else if y.op=18 then false else inT code false (ps.take i):=by unfold inS;rw [hy]
    by_cases o17:y.op=17
    ·have o18:¬ y.op=18:=by omega
     simp only [↓qq,ze,reduceIte,Nat.reduceEqDiff,w47,lnv,c1,w53,ix,lx,hp0,k0,lnc,c2,iy,ly,eq_true o17,w61,o18,w66,wi]
     refine ⟨_,_,⟨i+1,rfl,rfl,by omega⟩,?_,by omega⟩
     rw [hsn,hin,qh o17]
     simp only [↓qq,ze,reduceIte,Nat.reduceEqDiff]
    ·by_cases o18:y.op=18
     ·simp only [↓qq,ze,reduceIte,Nat.reduceEqDiff,w47,lnv,c1,w53,ix,lx,hp0,k0,lnc,c2,iy,ly,o17,w61,eq_true o18,w66,wi]
      refine ⟨_,_,⟨i+1,rfl,rfl,by omega⟩,?_,by omega⟩
      rw [hsn,hin,qe o17,qh o18]
      simp only [↓qq,ze,reduceIte,Nat.reduceEqDiff]
     ·simp only [↓qq,ze,reduceIte,Nat.reduceEqDiff,w47,lnv,c1,w53,ix,lx,hp0,k0,lnc,c2,iy,ly,o17,w61,o18,w66,wi]
      refine ⟨_,_,⟨i+1,rfl,rfl,by omega⟩,?_,by omega⟩
      rw [hsn,hin,qe o17,qe o18]
      simp only [↓qq,ze,reduceIte,Nat.reduceEqDiff]
   ·have hin:inS code (inT code false (ps.take i)) p=inT code false (ps.take i):=by unfold inS;rw [jb (by omega)]
    simp only [↓qq,ze,reduceIte,Nat.reduceEqDiff,w47,lnv,c1,w53,ix,lx,hp0,k0,lnc,c2,w61,w66,wi]
    refine ⟨_,_,⟨i+1,rfl,rfl,by omega⟩,?_,by omega⟩
    rw [hsn,hin]
    simp only [↓qq,ze,reduceIte,Nat.reduceEqDiff]
  ·have c1:¬ (i:Int)<(ps.length:Nat):=by omega
   have htk:ps.take i=ps:=xn hge
   rw [htk]
   cases hin:inT code false ps with
   | true=>simp only [↓qq,ze,reduceIte,Nat.reduceEqDiff,w47,lnv,c1,reduceCtorEq,w67]
   | false =>
    obtain ⟨p0,p1,p9,p10,p11,p12,p13⟩:=a8.ld gA.ok.r8
    have sA:SoA Hx cv wvA code A.rs A.w:=⟨h8.cd,owA7.em f78,gA.ok.r8,gA.rr,gA.wr,h8.sh⟩
    simp only [↓qq,ze,reduceIte,Nat.reduceEqDiff,w47,lnv,c1,reduceCtorEq,w67,w75,k0,p0,p1,p9]
    refine C3.q (qim (M:=M) sA) fun v H9 ⟨f89,hv⟩=>?_
    have hb3:¬ soBad code A.pc A.w ((mm:Nat):Int):=by
     have:=gA.ok.p0;have:=gA.ok.p1;have:=gA.wl
     unfold soBad at hb ⊢;omega
    rcases hv with ⟨hb',_⟩|⟨_,wvC,rfl,owC,frC⟩
    ·exact (hb3 hb').elim
    obtain ⟨C,hC⟩:∃ C,C=(SM.init A.w A.rs A.pc ((mm:Nat):Int).toNat).runs code:=⟨_,rfl⟩
    rw [<-hC] at owC ⊢
    have gC:C.good:=by rw [hC];exact qj8 (qer gA.ok.r8 gA.rr gA.wr hb3)
    have like:C.like A.blk B:=by
     rw [hC,hB,hA,hm0]
     exact SM.runs_on mm (by rw [<-hm0,<-hA];exact he) (by rw [<-hm0,<-hps];exact hin)
    have oC:oneCell wvC=true:=(OwnT.sl owC).one
    obtain ⟨Ha,sta,ca',f9a⟩:=qpf H9 (wv:=wvC) (m:=C) gC.ok.r8 oC
    have f8a:=f89.trans f9a fun _ q=>q.elim
    have aa:=a8.em f8a
    have ba:=b8.em f8a
    obtain ⟨r0,r1,r9,r10,r11,r12,r13⟩:=ca'.ld gC.ok.r8
    have r11a:=(aa.ld gA.ok.r8).2.2.2.2.1
    have hlC:=gC.fl
    have hlA:=gA.fl
    have wb:wrapI .i64 (((C.blk:Nat):Int)+((A.blk:Nat):Int))=((C.blk+A.blk:Nat):Int):=by rw [vy (by omega) (by omega)];omega
    obtain ⟨Hb,stb,cb,fab⟩:=end_blk ca' gC.ok.r8 (C.blk+A.blk)
    have hne2:H6.next ≠ H9.next:=by have:=b8.lt;have:=f89.next;omega
    have bb:EndM wvB B H6.next Hb:=⟨by rw [fab.keep _ ba.lt fun (q:H6.next=H9.next)=>hne2 q];exact ba.get,qf ba.lt fab.next⟩
    have pc':=(cb.ld gC.ok.r8).2.2.2.2.2.2
    have pb':=(bb.ld gB.ok.r8).2.2.2.2.2.2
    have ea:endC wvB B=wvB::(C.rs.map uC ++ [.int .i64 C.pc,.int .i64 (C.left:Nat),.int .i64 ((C.blk+A.blk:Nat):Int),.int .i64 (C.err:Nat)]):=by
     unfold endC;rw [<-like.rs,<-like.pc,<-like.left,<-like.blk,<-like.err]
    rw [ea] at pb'
    have pc':Op.loadN 13 [.ptr H9.next 0] Hb=some (.agg (wvC::(C.rs.map uC ++ [.int .i64 C.pc,.int .i64 (C.left:Nat),.int .i64 ((C.blk+A.blk:Nat):Int),.int .i64 (C.err:Nat)]))):=pc'
    have sc:SlT encW 1 Hb wvC C.w:=slW ((OwnT.sl owC).em f9a) fab fun b hbq (q:b=H9.next)=>by have:=Own.lt owC b hbq;omega
    have sb:SlT encW 1 Hb wvB C.w:=by
     have:=slW ((owB7.em f78).em f8a) fab fun b hbq (q:b=H9.next)=>by have:=Own.lt owB b hbq;have:=b8.lt;have:=f89.next;have:=f67.next;have:=f78.next;omega
     rwa [<-like.w] at this
    simp only [↓qq,ze,reduceIte,Nat.reduceEqDiff,zg,qbi,sta,r11,r11a,wb,stb,z0,pc',pb']
    refine C3.q (qqj (M:=M) sc sb gC.ok.r8 gC.wl) fun v Hc ⟨hv,_⟩=>?_
    subst hv
    simp only [↓qq,ze,reduceIte,Nat.reduceEqDiff]
end Go.Am
namespace Go.Am
open Go.RowKit Lang
theorem qq6:∀ (n:Nat) (l:List AV),isParts (List.replicate n (isIntL .u64)) l -> ∃ v:List Int,l=v.map uC/\v.length=n /\ ∀ x ∈ v,U64 x
 | 0,l,h=>by cases h;exact ⟨[],rfl,rfl,fun x hx=>by cases hx⟩
 | n+1,l,h=>by
  obtain ⟨a,b,rfl,⟨x,rfl,hx⟩,hb⟩:=h
  obtain ⟨v,rfl,h2,h3⟩:=qq6 n b hb
  exact ⟨x::v,rfl,by simp [h2],fun y hy=>(xe.1 hy).elim (fun q=>by rw [q];exact wf_u64' hx) (h3 y)⟩
structure AskArg (H:AHeap) (l:List AV) (cv wsv:AV) (code:List Ins) (rs ws:List Int) (pc steps:Int):Prop where
 eq:l=askC cv wsv rs pc steps
 cd:SlT insC 5 H cv code
 sl:SlT encW 1 H wsv ws
 r8:rs.length=8
 rr:∀ x ∈ rs,U64 x
 wr:∀ x ∈ ws,U64 x
 st:-9223372036854775808<=steps/\steps<9223372036854775808
section
variable {P:Program}
theorem rdw_ask {tA tC tI tR tW tU tN:TypeId} {fs gs:Array Field} (uA:P.underlying tA=some (.struct fs)) (hA:fs.toList.map (·.type)=[tC,tR,tN,tW,tN]) (uC':P.underlying tC=some (.slice tI)) (uI:P.underlying tI=some (.struct gs)) (hI:gs.toList.map (·.type)=[tN,tN,tN,tN,tN])
 (uN:P.underlying tN=some (.int .i64)) (uR:P.underlying tR=some (.array 8 tU)) (uU:P.underlying tU=some (.int .u64)) (uW:P.underlying tW=some (.slice tU)) (cU:P.cellsOf tU=1) (cR:8*P.cellsOf tU=P.cellsOf tR) (cI:P.cellsOf tI=5)
 (oI:qds P 0 gs.toList=true) (sI:(gs.toList.map fun f=>P.cellsOf f.type).sum=P.cellsOf tI) (oA:qds P 0 fs.toList=true) (sA:(fs.toList.map fun f=>P.cellsOf f.type).sum=P.cellsOf tA) :
 RdW P tA fun H l=>∃ cv wsv code rs ws pc steps,AskArg H l cv wsv code rs ws pc steps:=by
 have hn5:gs.toList.length=5:=by have:=congrArg List.length hI;simpa using this
 have hf5:fs.toList.length=5:=by have:=congrArg List.length hA;simpa using this
 have hIns:=qlh (Rs:=[fun _ l=>isIntL .i64 l,fun _ l=>isIntL .i64 l,fun _ l=>isIntL .i64 l,fun _ l=>isIntL .i64 l,fun _ l=>isIntL .i64 l]) uI (by rw [hn5];rfl)
  (qna (f:=Field.type) (Q:=RdW P) _ _ (by
   rw [hI]
   intro x hx
   simp only [wu,List.zip_nil_right,xe,List.mem_nil_iff,or_false] at hx
   rcases hx with rfl|rfl|rfl|rfl|rfl<;>exact (qj1 (qgy uN)).toW)) oI sI
 have hCode:RdW P tC fun H l=>∃ u,l=[u] /\ ∃ code:List Ins,SlT insC 5 H u code:=by
  refine (qoj uC' hIns (by rw [cI];decide)).imp ?_ fun H l h=>?_
  ·rintro H H' l ⟨u,h1,xs,h2⟩ f;exact ⟨u,h1,xs,h2.em f⟩
  ·obtain ⟨u,rfl,h1,h2⟩:=h
   rw [cI] at h1
   obtain ⟨xs,h3,_⟩:=slt_of (enc:=insC) (Q:=fun _=>True) (fun l h=>by
    obtain ⟨_,_,rfl,⟨a,rfl,_⟩,_,_,rfl,⟨b,rfl,_⟩,_,_,rfl,⟨c,rfl,_⟩,_,_,rfl,⟨d,rfl,_⟩,_,_,rfl,⟨e,rfl,_⟩,rfl⟩:=h
    exact ⟨⟨a,b,c,d,e⟩,rfl,trivial⟩) h1
   exact ⟨u,rfl,xs,h3⟩
 have hW:=rdw_ints uW uU cU
 have hR:=(qj1 (qrw uR (qgy uU) cR)).toW
 have hAsk:=qlh (Rs:=[fun H l=>∃ u,l=[u] /\ ∃ code:List Ins,SlT insC 5 H u code,fun _ l=>isParts (List.replicate 8 (isIntL .u64)) l,fun _ l=>isIntL .i64 l,
  fun H l=>∃ u,l=[u] /\ ∃ xs:List Int,SlT (fun x=>[AV.int .u64 x]) 1 H u xs/\xs.length*P.bytesOf tU<=reachBytes /\ ∀ x ∈ xs,(Lit.int .u64 x).wf=true,fun _ l=>isIntL .i64 l]) uA (by rw [hf5];rfl)
  (qna (f:=Field.type) (Q:=RdW P) _ _ (by
   rw [hA]
   intro x hx
   simp only [wu,List.zip_nil_right,xe,List.mem_nil_iff,or_false] at hx
   rcases hx with rfl|rfl|rfl|rfl|rfl
   ·exact hCode
   ·exact hR
   ·exact (qj1 (qgy uN)).toW
   ·exact hW
   ·exact (qj1 (qgy uN)).toW)) oA sA
 refine hAsk.imp ?_ fun H l h=>?_
 ·rintro H H' l ⟨cv,wsv,code,rs,ws,pc,steps,h⟩ f
  exact ⟨cv,wsv,code,rs,ws,pc,steps,h.eq,h.cd.em f,h.sl.em f,h.r8,h.rr,h.wr,h.st⟩
 ·obtain ⟨_,_,rfl,⟨cv,rfl,code,h1⟩,_,_,rfl,hreg,_,_,rfl,⟨pc,rfl,_⟩,_,_,rfl,⟨wsv,rfl,ws,h2,_,h3⟩,_,_,rfl,⟨steps,rfl,h4⟩,rfl⟩:=h
  obtain ⟨rs,rfl,r8,rr⟩:=qq6 8 _ hreg
  refine ⟨cv,wsv,code,rs,ws,pc,steps,?_,h1,h2,r8,rr,fun x hx=>wf_u64' (h3 x hx),wf_i64' h4⟩
  simp [askC]
end
end Go.Am
