/- B2: Effects Effects2 EffMono Ops Step Step2 Run Region Code. -/
import Derived.Test.YtbimikjajohflaaGreatDoorAmMB1
import Derived.Deep.Upon
import Derived.Lib.UnsafeStr
import Derived.Defers
import Derived.RangeFuncRecord
import Derived.ControlIn
import Derived.RangeFuncIn
set_option linter.unusedVariables false
set_option linter.unusedSimpArgs false
namespace Go.Am
def lD (P:Program) (o:Oper) (xs:List Operand) (f:List AV->AHeap->Option (AV × AHeap)):Prop :=
 ∀ base (D:Nat->Prop) θ H (ρ:Operand->Value) w vs v H',HR P base D θ H w->bG D θ vs (xs.map ρ)->f vs H=some (v,H')->dh D H.next H'.next ->
  ∃ θ' w' c,kQ P (execOp ρ o) w c w'/\HR P base (Up D H.next H'.next) θ' H' w'/\bt D H θ w H' θ' w'/\VR (Up D H.next H'.next) θ' v c
section
variable {P:Program} {base:Nat} {D:Nat->Prop} {θ:Th} {H:AHeap} {w:World}
theorem q6e {fz:Nat × Nat} {o n:Nat} (h:cC fz o n=true):∀ j,j<n -> ¬ (fz.1<=o+j/\o+j<fz.2):=by
 intro j hj;unfold cC at h;simp only [wy,wq,zz] at h;omega
theorem q5j (pre cs post new:List Value) (o:Nat) (h:o+new.length<=cs.length) :
 ((pre++cs++post).toArray.toList.take (pre.length+o)++new++(pre++cs++post).toArray.toList.drop (pre.length+o+new.length))=pre++(cs.take o++new++cs.drop (o+new.length))++post:=by
 have e1:(pre++cs++post).take (pre.length+o)=pre++cs.take o:=by
  rw [qt,IK,IK];have:pre.length+o-pre.length-cs.length=0:=by omega
  rw [xo (by omega),this,show pre.length+o-pre.length=o from by omega];simp
 have e2:(pre++cs++post).drop (pre.length+o+new.length)=cs.drop (o+new.length)++post:=by
  rw [qt,Cr,List.drop_of_length_le (by omega),Cr];have:pre.length+o+new.length-pre.length-cs.length=0:=by omega
  rw [this,show pre.length+o+new.length-pre.length=o+new.length from by omega];simp
 simp only [List.toList_toArray];rw [e1,e2];simp
theorem HR.store (hh:HR P base D θ H w) {b o:Nat} {new:List AV} {cs:List Value} {H':AHeap} (hv:bG D θ new cs) (h:H.store b o new=some H') :
 ∃ w',(storeCells ⟨θ.aN b,θ.off b+o,none⟩ cs).run P w=.ok () w'/\HR P base D θ H' w'/\bt D H θ w H' θ w'/\H'.next=H.next:=by
 unfold AHeap.store at h;cases hone:bh new with
 | false=>rw [hone] at h;cases h
 | true =>
  rw [hone] at h;simp only [ql] at h;have h1:=qya hv hone;have hlen:=hv.length;split at h
  ·rename_i c e fz hg;obtain ⟨hd,co,hc,hr⟩:=hh.obj b _ hg;obtain ⟨pre,ccs,post,cfz,et,rfl,h2,h3,h4⟩:=hr;obtain ⟨rfl,rfl,rfl,hfz⟩:=h4 rfl;have hl3:=h3.length;cases ht:cC fz o (bW new) with
   | false=>rw [ht] at h;cases h
   | true =>
    rw [ht] at h;simp only [ql,sd] at h;split at h
    ·rename_i hle;simp only [qd,qb] at h;subst h;have hthaw:=q6e ht;rw [nU] at hthaw;have hst:=Ku (P:=P) (θ.off b+o) cs 0 _ w hc (by simp [<-h2];simp at h2;omega) (λ j hj=>by
      have:=hthaw j (by omega);simp only [qw] at h2;rcases hfz with hfz|⟨f1,f2⟩<;>omega) h1
     rw [jv,<-h2,q5j [] ccs [] cs o (by omega)] at hst;rw [<-h2];refine ⟨_,hst,?_,?_,rfl⟩
     ·refine hh.set hg rfl rfl ⟨[],ccs.take o++cs++ccs.drop (o+cs.length),[],cfz,_,rfl,h2,?_,λ _=>⟨rfl,rfl,rfl,hfz⟩⟩;rw [hlen];exact ((h3.take o).app hv).app (h3.drop _)
     ·exact bt.set hg rfl (hh.lt hg)
    ·cases h
  ·rename_i m s c e fz hg;obtain ⟨hd,co,hc,hr⟩:=hh.obj b _ hg;obtain ⟨pre,ccs,post,cfz,rfl,h2,h3,h4,h5,h6,h7,h8⟩:=hr;have hl3:=h3.length;cases ht:cC fz o (bW new) with
   | false=>rw [ht] at h;cases h
   | true =>
    rw [ht] at h;simp only [ql,sd] at h;split at h
    ·rename_i hle;simp only [qd,qb] at h;subst h;have hthaw:=q6e ht;rw [nU] at hthaw;have hst:=Ku (P:=P) (θ.off b+o) cs 0 _ w hc (by simp;omega) (λ j hj=>by
      have:=hthaw j (by omega);unfold Bo at h8;omega) h1
     rw [jv,<-h2,q5j pre ccs post cs o (by omega)] at hst;rw [<-h2];refine ⟨_,hst,?_,?_,rfl⟩
     ·have hnl:(ccs.take o++cs++ccs.drop (o+cs.length)).length=ccs.length:=by simp;omega
      refine hh.set hg rfl rfl ⟨pre,ccs.take o++cs++ccs.drop (o+cs.length),post,cfz,rfl,h2,?_,?_,h5,h6,h7,?_⟩
      ·rw [hlen];exact ((h3.take o).app hv).app (h3.drop _)
      ·simp;omega
      ·rw [hnl];exact h8
     ·exact bt.set hg rfl (hh.lt hg)
    ·cases h
  ·cases h
theorem xdj {o:Oper} {t:TypeId} {x y:Operand} {n:Nat} (ho:o.op=.store t x y) (hs:bF P t=some n):lD P o [x,y] (Op.store n):=by
 intro base D θ H ρ w vs v H' hh h hv hfr;unfold Op.store at hv;split at hv
 ·rename_i b off a;obtain ⟨x',y',he,ha,hb⟩:=h.gu;simp only [xc,kr] at he;obtain ⟨rfl,rfl⟩:=he;cases hn:Nat.beq (bW a.cells) n with
  | false=>rw [hn] at hv;cases hv
  | true =>
   rw [hn] at hv;simp only [ql,qa,qb,qu] at hv;obtain ⟨H1,h1,rfl,rfl⟩:=hv;obtain ⟨w',g1,g2,g3,g4⟩:=hh.store hb.cells h1;have hl:=hb.cells.length;simp only [nU,zz] at hn;have hsz:(ρ y).cells.size=n:=by rw [<-wx];omega
   refine ⟨θ,w',_,.inr ⟨?_,rfl⟩,by rw [g4,Up.none];exact g2,g3,.undef⟩;simp only [execOp,ho,<-ha.now,ao,Instr.storeAt,Instr.sureAddr,storeVar,Sem.run_bind,Sem.run_pure,Result.andThen_ok,mr hs,hsz,ne_eq,zG,ve,g1]
 ·cases hv
theorem q1w {w:World} {r:Nat} {o:Obj} {ms:Array MapEntry} {c:Nat} (h:w.heap[r]? = some (.map ms c)):(setObj r o).run P w=.ok () (dp w r o):=by
 simp [setObj,Sem.run,h,dp]
theorem HR.uD (hh:HR P base D θ H w) {b:Nat} {m:List (AV × AV × Nat) × Nat} (hm:H.dZ b=some m) {es:List (AV × AV × Nat)} {ms:List MapEntry} {c:Nat} (h:cJ D θ es ms) :
 HR P base D θ (H.set b (.map es c)) (dp w (θ.aN b) (.map ms.toArray c))/\bt D H θ w (H.set b (.map es c)) θ (dp w (θ.aN b) (.map ms.toArray c)):=by
 obtain ⟨hg,_,_⟩:=hh.dZ hm;exact ⟨hh.set hg rfl rfl ⟨ms,rfl,h⟩,bt.set hg rfl (hh.lt hg)⟩
theorem q1y {n:Nat} {a b:AV} {ca cb:Value} (ha:VR D θ a ca) (hb:VR D θ b cb) (h:Op.oD a b=true):Instr.sameBits n ca cb=true:=by
 rw [<-ha.now,<-hb.now];cases a<;>cases b<;>simp only [Op.oD,reduceCtorEq,jc] at h
 ·cases n<;>simpa [ao,Instr.sameBits] using h
 ·simp only [qx,rH,beq_iff_eq,Lf,yh] at h;cases n<;>simp [ao,Instr.sameBits,h]
 ·simp only [Di,beq_iff_eq] at h;cases n<;>simp [ao,Instr.sameBits,h,beq_toListBytes]
theorem q1z {n:Nat}:∀ {a b:List AV} {ca cb:List Value},bG D θ a ca->bG D θ b cb->Op.dv a b=true->ca.length=cb.length/\((ca.zip cb).all λ (x,y)=>Instr.sameBits n x y)=true
 | [],[],ca,cb,ha,hb,_=>by rw [ha.fK,hb.fK];simp
 | a::x,b::y,ca,cb,ha,hb,h=>by
  obtain ⟨c1,cs1,rfl,p1,q1⟩:=ha.cT;obtain ⟨c2,cs2,rfl,p2,q2⟩:=hb.cT;simp only [Op.dv] at h;cases hs:Op.oD a b with
  | false=>rw [hs] at h;cases h
  | true =>
   rw [hs] at h;obtain ⟨e1,e2⟩:=q1z (n:=n) q1 q2 h;simp only [qn,e1,Fz,C2,q1y p1 p2 hs,Bool.true_and,e2,and_self]
 | [],_::_,_,_,_,_,h=>by cases h
 | _::_,[],_,_,_,_,h=>by cases h
theorem xb8 {n:Nat} {a b:AV} {ca cb:Value} (ha:VR D θ a ca) (hb:VR D θ b cb) (h:Op.stays a b=true):Instr.sameBits (n+1) ca cb=true:=by
 by_cases hagg:(∃ l,a=.agg l) /\ ∃ l,b=.agg l
 ·obtain ⟨⟨l,rfl⟩,⟨l',rfl⟩⟩:=hagg;obtain ⟨cs,rfl,h1⟩:=ha.dJ;obtain ⟨cs',rfl,h2⟩:=hb.dJ;obtain ⟨e1,e2⟩:=q1z (n:=n) h1 h2 h;simp [Instr.sameBits,e1]
  simpa using e2
 ·refine q1y ha hb ?_;cases a<;>cases b<;>first|exact h|exact absurd ⟨⟨_,rfl⟩,⟨_,rfl⟩⟩ hagg
theorem cJ.get {D:Nat->Prop} {θ:Th}:∀ (es:List (AV × AV × Nat)) (ms:List MapEntry) (i:Nat) (e:AV × AV × Nat),cJ D θ es ms->es[i]? = some e -> ∃ m,ms[i]? = some m/\JZ D θ e m
 | _::_,m::_,0,e,⟨h,_⟩,he=>⟨m,rfl,by simp at he;subst he;exact h⟩
 | _::es,_::ms,i+1,e,⟨_,h⟩,he=>by simpa using cJ.get es ms i e h (by simpa using he)
 | [],_,_,_,_,he=>by simp at he
 | _::_,[],_,_,h,_=>h.elim
theorem cJ.modify {D:Nat->Prop} {θ:Th} {k v:AV} {ck cv:Value} (hk:VR D θ k ck) (hv:VR D θ v cv):∀ (es:List (AV × AV × Nat)) (ms:List MapEntry) (i:Nat),cJ D θ es ms ->
 cJ D θ (es.modify i λ e=>(k,v,e.2.2)) (ms.modify i λ e=>{ e with key:=ck,val:=cv })
 | [],[],_,_=>by simp [cJ]
 | _::_,_::_,0,⟨⟨_,_,h3⟩,h⟩=>by simpa [cJ] using ⟨⟨hk,hv,h3⟩,h⟩
 | _::es,_::ms,i+1,⟨h1,h⟩=>by simpa [cJ] using ⟨h1,cJ.modify hk hv es ms i h⟩
 | [],_::_,_,h=>h.elim
 | _::_,[],_,h=>h.elim
theorem cJ.push {D:Nat->Prop} {θ:Th} {k v:AV} {ck cv:Value} {c:Nat} (hk:VR D θ k ck) (hv:VR D θ v cv):∀ (es:List (AV × AV × Nat)) (ms:List MapEntry),cJ D θ es ms ->
 cJ D θ (es ++ [(k,v,c)]) (ms ++ [{ key:=ck,val:=cv,born:=c }])
 | [],[],_=>⟨⟨hk,hv,rfl⟩,trivial⟩
 | _::es,_::ms,⟨h1,h⟩=>⟨h1,cJ.push hk hv es ms h⟩
 | [],_::_,h=>h.elim
 | _::_,[],h=>h.elim
theorem qtz {o:Oper} {t kt e:TypeId} {x y z:Operand} {q:bq} (ho:o.op=.mapUpdate t x y z\/o.op=.insert t x y z) (hu:P.underlying t=some (.map kt e)) (hq:jV P kt=some q) :
 lD P o [x,y,z] (Op.mapUpdate q):=by
 intro base D θ H ρ w vs v H' hh h hv hfr;unfold Op.mapUpdate at hv;split at hv
 ·rename_i b k va;obtain ⟨k0,v0,c0,he,ha,hb,hc⟩:=h.mS;simp only [xc,kr] at he;obtain ⟨rfl,rfl,rfl⟩:=he;cases hok:ct q k with
  | false=>rw [hok] at hv;cases hv
  | true =>
   rw [hok] at hv;simp only [ql,qa] at hv;obtain ⟨m,hm,r,hr,hv⟩:=hv;obtain ⟨_,_,ms,h1,h2⟩:=hh.dZ hm;have hk:=λ em=>Ob (em:=em) (w:=w) hq hb hok;obtain ⟨r',g1,g2⟩:=qyu (w:=w) hq hb h2 hr;cases r with
   | none =>
    cases r' with
    | some _=>exact g2.elim
    | none =>
     simp only [qb,qu] at hv;obtain ⟨rfl,rfl⟩:=hv;obtain ⟨k1,k2⟩:=hh.uD hm (c:=m.2+1) (cJ.push (c:=m.2) hb hc _ _ h2);refine ⟨θ,_,_,.inr ⟨?_,rfl⟩,by rw [show (H.set b (.map (m.1 ++ [(k,va,m.2)]) (m.2+1))).next=H.next from rfl,Up.none];exact k1,k2,.undef⟩;rcases ho with ho|ho<;>simp [execOp,ho,Instr.mapUpdate,<-ha.now,ao,zw hu,hk,g1,Fy h1,q1w h1]
   | some p =>
    obtain ⟨i,pv⟩:=p;cases r' with
    | none=>exact g2.elim
    | some p' =>
     obtain ⟨i',pc⟩:=p';obtain ⟨rfl,g2⟩:=g2;simp only [qa,gM] at hv;obtain ⟨en,hen,hv⟩:=hv;cases hst:Op.stays en.1 k with
     | false=>rw [hst] at hv;cases hv
     | true =>
      rw [hst] at hv;simp only [ql,qb,qu] at hv;obtain ⟨rfl,rfl⟩:=hv;obtain ⟨me,hme,⟨e1,e2,e3⟩⟩:=cJ.get _ _ i en h2 hen;have hsb:Instr.sameBits 10000 me.key (ρ y)=true:=xb8 (n:=9999) e1 hb hst;have hks:(Instr.keyThatStays me.key (ρ y)).run P w=.ok (ρ y) w:=by unfold Instr.keyThatStays;rw [qk hsb];rfl
      obtain ⟨k1,k2⟩:=hh.uD hm (c:=m.2) (cJ.modify hb hc _ _ i h2);refine ⟨θ,_,_,.inr ⟨?_,rfl⟩,by rw [show (H.set b (.map (m.1.modify i λ e=>(k,va,e.2.2)) m.2)).next=H.next from rfl,Up.none];exact k1,k2,.undef⟩;rcases ho with ho|ho<;>simp [execOp,ho,Instr.mapUpdate,<-ha.now,ao,zw hu,hk,g1,Fy h1,q1w h1,hme,hks]
 ·cases hv
theorem qz3 {w:World} {r:Nat} {s:ByteArray} {p:Nat} (h:w.heap[r]? = some (.stringIter s p)):(getObj r).run P w=.ok (.stringIter s p) w:=by
 simp [getObj,Sem.run,h]
theorem q70 {w:World} {r:Nat} {o:Obj} {s:ByteArray} {p:Nat} (h:w.heap[r]? = some (.stringIter s p)):(setObj r o).run P w=.ok () (dp w r o):=by
 simp [setObj,Sem.run,h,dp]
theorem q6t {o:Oper} {x:Operand} (ho:o.op=.next x true):lD P o [x] Op.ez:=by
 intro base D θ H ρ w vs v H' hh h hv hfr;unfold Op.ez at hv;split at hv
 ·rename_i b;obtain ⟨x',he,ha⟩:=h.eI;simp only [xc,kr] at he;subst he;split at hv
  ·rename_i s p hg;obtain ⟨hd,co,hc,rfl,hz⟩:=hh.obj b _ hg;split at hv
   ·rename_i ch hch;cases hb:Nat.blt ch.toNat 128 with
    | false=>rw [hb] at hv;cases hv
    | true =>
     rw [hb] at hv;simp only [ql,qb,qu] at hv;obtain ⟨rfl,rfl⟩:=hv;rw [gM] at hch;have aT:p<s.length:=(qv.1 hch).1;have hget:(⟨s.toArray⟩:ByteArray).get! p=ch:=by
      show s.toArray[p]! = ch;simp [hch]
     have hdec:Utf8.decode ⟨s.toArray⟩ p=(ch.toNat,1):=by
      unfold Utf8.decode;simp only [jv,hget];rw [qk (by simpa [mW] using hb)]
     refine ⟨θ,_,.tuple [.bool true,goInt p,.int .i32 ch.toNat].toArray,.inl ?_,by rw [show (H.set b (.cW s (p+1))).next=H.next from rfl,Up.none];exact hh.set hg rfl rfl ⟨rfl,hz⟩,bt.set hg rfl (hh.lt hg),.tuple (.cons (.bool _) (.cons (.int _ _) (.one (.int _ _))))⟩;simp [execOp,ho,Instr.next,<-ha.now,ao,hz,qz3 hc,q70 hc,qN,aT,hdec]
   ·rename_i hch;simp only [qb,qu] at hv;obtain ⟨rfl,rfl⟩:=hv;rw [gM] at hch;have aT:¬ p<s.length:=by have:=List.getElem?_eq_none_iff.1 hch;omega
    refine ⟨θ,w,.tuple [.bool false].toArray,.inl ?_,by rw [Up.none];exact hh,.refl _ _ _ _,.tuple (.one (.bool _))⟩;simp [execOp,ho,Instr.next,<-ha.now,ao,hz,qz3 hc,qN,aT]
  ·cases hv
 ·cases hv
end
end Go.Am
namespace Go.Am
section
variable {P:Program} {base:Nat} {D:Nat->Prop} {θ:Th} {H:AHeap} {w:World}
theorem HR.sub (h:HR P base D θ H w) {H':AHeap} (hs:∀ b o,H'.get b=some o->H.get b=some o):HR P base D θ H' w :=
 ⟨λ b o hb=>h.obj b o (hs b o hb),λ b b' o o' hb hb'=>h.inj b b' o o' (hs b o hb) (hs b' o' hb'),λ b o hb=>h.gZ b o (hs b o hb),h.dx,h.low⟩
theorem Oa (H:AHeap) (k:Nat):∀ b o,(H.kill k).get b=some o->H.get b=some o:=by
 intro b o h;rw [AHeap.lR] at h;split at h
 ·cases h
 ·exact h
theorem bt.kill (H:AHeap) (k:Nat):bt D H θ w (H.kill k) θ w :=
 ⟨qf _,Ag.refl _ _,qf _,rfl,rfl,rfl,λ _ _ _=>rfl,λ b o h ho _=>⟨b,o,Oa H k b o h,ho,rfl⟩⟩
theorem HR.move (h:HR P base D θ H w) (hn:¬ D H.next) {b:Nat} {o o':bg} {co':Obj} {off ext:Nat} (hb:H.get b=some o) (ho:own o=true) (ho':own o'=true)
 (hr:iZ P (Up D H.next (H.next+1)) (θ.add H.next (θ.aN b) off ext) H.next o' co') :
 HR P base (Up D H.next (H.next+1)) (θ.add H.next (θ.aN b) off ext) ((H.kill b).alloc o') (dp w (θ.aN b) co') /\
 bt D H θ w ((H.kill b).alloc o') (θ.add H.next (θ.aN b) off ext) (dp w (θ.aN b) co'):=by
 have aT:=h.lt hb;have hag:=Th.eR θ H.next (θ.aN b) off ext hn
 obtain ⟨e1,e2,e3⟩:=Th.dy θ H.next (θ.aN b) off ext
 have old:∀ x ox,H.get x=some ox->(θ.add H.next (θ.aN b) off ext).aN x = θ.aN x:=λ x ox hx=>(hag x (h.obj x ox hx).1).1;have hget:∀ x ox,((H.kill b).alloc o').get x=some ox->(x=H.next/\ox=o')\/(x ≠ H.next/\x ≠ b/\H.get x=some ox):=by
  intro x ox hx;rw [AHeap.bR,AHeap.lR] at hx
  by_cases e:H.next=x
  ·rw [qk (show (H.kill b).next=x from e)] at hx;injection hx with hx
   exact .inl ⟨e.symm,hx.symm⟩
  ·rw [qc (show ¬ (H.kill b).next=x from e)] at hx
   by_cases e':b=x
   ·rw [qk e'] at hx;cases hx
   ·rw [qc e'] at hx;exact .inr ⟨λ q=>e q.symm,λ q=>e' q.symm,hx⟩
 refine ⟨⟨λ x ox hx=>?_,λ x y ox oy hx hy hox hne=>?_,λ x ox hx hox=>?_,λ g hg=>?_,by rw [Kw];exact h.low⟩,⟨AR _,hag,by rw [Kw];exact qf _,rfl,rfl,rfl,λ k hk hno=>?_,λ x ox hx hox hlt'=>?_⟩⟩
 ·rcases hget x ox hx with ⟨rfl,rfl⟩|⟨g1,g2,g3⟩
  ·exact ⟨.inr ⟨qf _,x9 _⟩,co',by rw [e1,DB _ _ _ _ aT];simp,hr⟩
  ·obtain ⟨h1,co,h2,h3⟩:=h.obj x ox g3;refine ⟨.inl h1,co,?_,h3.up h1 hag Up.of⟩;rw [old x ox g3,DB _ _ _ _ aT,qc (h.inj b x o ox hb g3 ho (λ q=>g2 q.symm))];exact h2
 ·rcases hget x ox hx with ⟨rfl,rfl⟩|⟨g1,g2,g3⟩<;>rcases hget y oy hy with ⟨rfl,rfl⟩|⟨k1,k2,k3⟩
  ·exact absurd rfl hne
  ·rw [e1,old y oy k3];exact h.inj b y o oy hb k3 ho (λ q=>k2 q.symm)
  ·rw [e1,old x ox g3];exact h.inj x b ox o g3 hb hox g2
  ·rw [old x ox g3,old y oy k3];exact h.inj x y ox oy g3 k3 hox hne
 ·rcases hget x ox hx with ⟨rfl,rfl⟩|⟨g1,g2,g3⟩
  ·rw [e1];exact h.gZ b o hb ho
  ·rw [old x ox g3];exact h.gZ x ox g3 hox
 ·obtain ⟨h1,h2,h3⟩:=h.dx g hg;obtain ⟨a1,a2,_⟩:=hag g h1;exact ⟨.inl h1,a1.trans h2,a2.trans h3⟩
 ·rw [DB _ _ _ _ aT,qc (hno b o hb ho)]
 ·rcases hget x ox hx with ⟨rfl,rfl⟩|⟨g1,g2,g3⟩
  ·exact ⟨b,o,hb,ho,e1.symm⟩
  ·exact ⟨x,ox,g3,hox,(old x ox g3).symm⟩
theorem D5 (hh:HR P base D θ H w) {tx:TypeId} (hk:(∃ e',P.underlying tx=some (.slice e'))\/P.underlying tx=some .string) {x:AV} {c:Value} {size k:Nat} {l:List AV}
 (hx:VR D θ x c) (hl:dE x=some k) (h:firstCells H size k x=some l) (h1:bh l=true):∃ cs,Src P size tx c k cs w/\bG D θ l cs:=by
 cases hs:isStr x with
 | true =>
  cases x<;>try (cases hs)
  rename_i s;simp only [dE,nU,qb] at hl;subst hl;simp only [firstCells,Jq] at h;cases hsz:Nat.beq size 1 with
  | false=>rw [hsz] at h;cases h
  | true =>
  rw [hsz] at h;simp only [ql,qb] at h;subst h;simp only [zz] at hsz;subst hsz;rw [<-hx.now];show ∃ cs,Src P 1 tx (.string ⟨s.toArray⟩) s.length cs w/\bG D θ _ cs;have hf:∀ w:World,(Builtin.firstCells 1 s.length (.string ⟨s.toArray⟩)).run P w=.ok (s.map λ b=>Value.int .u8 b.toNat).toArray w:=by
   intro w;have:=firstCells_string (P:=P) ⟨s.toArray⟩ w;rw [qN] at this;exact this
  refine ⟨s.map λ b=>.int .u8 b.toNat,⟨hk,λ w'=>?_,hf w,hf w.drew,by simp,λ u hu=>?_⟩,λ θ' _=>by rw [kT,vu];rfl⟩
  ·show Result.ok (ByteArray.size ⟨s.toArray⟩) w'=_;rw [qN]
  ·obtain ⟨_,_,rfl⟩:=DH.1 hu;rfl
 | false =>
  obtain ⟨a,len,cap,rfl,rfl,hcase⟩:=Jx hh hx hl (qf _) hs h;obtain ⟨a',len',cap',hc',rfl,hcase'⟩:=Jx (hh.draw (w':=w.drew) rfl) hx hl (qf _) hs h;injection hc' with hc1 hc2 hc3;subst hc1;subst hc3
  rcases hcase with ⟨rfl,rfl,_,hk0⟩|⟨ad,cs,rfl,g1,g2,g3⟩
  ·exact ⟨[],⟨hk,λ _=>rfl,rfl,rfl,by simp [hk0],by simp⟩,.nil⟩
  ·rcases hcase' with ⟨h0,_⟩|⟨ad',cs',he,k1,k2,k3⟩
   ·cases h0
   ·injection he with he;subst he
    have:cs'=cs:=by rw [<-k2.now,<-g2.now]
    subst this;exact ⟨cs',⟨hk,λ _=>rfl,g1,k1,by rw [g2.length];exact g3,qya g2 h1⟩,g2⟩
theorem Pb {t tx ty e:TypeId} {i:TypeInfo} (ht:P.underlying t=some (.slice e)) (hi:P.info? e=some i) {a:Addr} {sLen sCap n:Nat} {x:Value} {news:List Value} (hs:Src P i.size tx x n news w)
 (hroom:sLen+n<=sCap) {w':World} (hst:(storeCells (a.add (sLen*i.size)) news).run P w=.ok () w') :
 (Builtin.append_ #[t,tx] ty #[.slice (some a) sLen sCap,x]).run P w=.ok (.slice (some a) (sLen+n) sCap) w':=by
 rcases hs.kind with ⟨e',hk⟩|hk<;>simp [Builtin.append_,run_underlying ht,run_underlying hk,sizeOf,typeInfo,hi,hs.len,hroom,hs.cells,hst]
theorem q37 (z:Array Value) (n:Nat):(Builtin.zeroCells z n).size=n*z.size:=by simp [Builtin.zeroCells]
theorem xbq {D':Nat->Prop} {θ':Th} {id m size:Nat} {cells:List AV} {cs rest:List Value} {e:TypeId} {fz:Nat × Nat} (h:bG D' θ' cells cs) (ho:θ'.off id=0) (hl:cells.length=m*size)
 (hr:rest.length = θ'.ext id*size) (hz:0<size) (hm:m + θ'.ext id<=maxLen):iZ P D' θ' id (.grown m size cells e fz) (.cells (cs++rest).toArray e (0,0)) :=
 ⟨[],cs,rest,(0,0),by simp,by simp [ho],h,hl,hr,hz,hm,.inl rfl⟩
theorem HR.grow (hh:HR P base D θ H w) (hn:¬ D H.next) {t tx ty e:TypeId} {i:TypeInfo} {z:Value} (ht:P.underlying t=some (.slice e)) (hi:P.info? e=some i) (hz:i.zero=some z) (hzs:z.cells.size=i.size)
 (h0:0<i.size) {bs:Option Addr} {sLen sCap n:Nat} {x:Value} {old new:List AV} {olds news:List Value} (hold:(Builtin.firstCells i.size sLen (.slice bs sLen sCap)).run P w.drew=.ok olds.toArray w.drew)
 (hs:Src P i.size tx x n news w) (hg:sCap<sLen+n) (hf:fits (sLen+n) i.bytes=true) (ho:bG D θ old olds) (hnw:bG D θ new news) (hol:old.length=sLen*i.size) (fz:Nat × Nat) :
 ∃ θ' w' c,(Builtin.append_ #[t,tx] ty #[.slice bs sLen sCap,x]).run P w=.ok c w'/\HR P base (Up D H.next (H.next+1)) θ' (cX H e i.size (sLen+n) (gC old new) fz).2 w' /\
  bt D H θ w (cX H e i.size (sLen+n) (gC old new) fz).2 θ' w'/\VR (Up D H.next (H.next+1)) θ' (cX H e i.size (sLen+n) (gC old new) fz).1 c:=by
 unfold fits at hf;simp only [qx,wq] at hf;obtain ⟨f1,f2⟩:=hf;have hrun:=run_append_grow_src (P:=P) w t tx ty e i z ht hi hz bs sLen sCap olds hold x n news hs hg (by omega) (growslice_fits hg f1);have hcap:=grownCap_ge w (sLen+n) sCap e;have hcm:=grownCap_le_maxLen w (sLen+n) sCap e (by unfold maxLen;omega);generalize grownCap w (sLen+n) sCap e=cap at hrun hcap hcm;have hnl:=hs.newsLen;have hlen:(gC old new).length=(sLen+n)*i.size:=by
  rw [mb,qg,hol,<-hnw.length,hnl,nW]
 have hco:(Obj.cells ((olds++news).toArray++Builtin.zeroCells z.cells (cap-(sLen+n))) e:Obj)=.cells ((olds++news)++(Builtin.zeroCells z.cells (cap-(sLen+n))).toList).toArray e (0,0):=by
  congr 1;apply yL;simp
 have hag:=Th.eR θ H.next w.drew.heap.size 0 (cap-(sLen+n)) hn
 have hup:bG (Up D H.next (H.next+1)) (θ.add H.next w.drew.heap.size 0 (cap-(sLen+n))) (gC old new) (olds++news):=by
  rw [mb];exact (ho.app hnw).up hag Up.of
 obtain ⟨e1,e2,e3⟩:=Th.dy θ H.next w.drew.heap.size 0 (cap-(sLen+n))
 have hR:=xbq (P:=P) (id:=H.next) (m:=sLen+n) (size:=i.size) (e:=e) (fz:=fz) (rest:=(Builtin.zeroCells z.cells (cap-(sLen+n))).toList) hup e2 hlen
  (by rw [e3,wx,q37,hzs]) h0 (by rw [e3];omega)
 rw [<-hco] at hR;refine ⟨_,_,_,hrun,HR.alloc (w:=w.drew) (hh.draw rfl) hn ?_ ?_ (qf _) ?_ hR,?_,?_⟩
 ·rw [uv];simp
 ·intro j hj;rw [uv,qc (E8 hj)]
 ·show w.drew.heap.size<=(w.drew.alloc _).heap.size;simp
 ·exact (bt.draw (w:=w) (w':=w.drew) rfl rfl rfl rfl).trans (bt.alloc (w:=w.drew) (hh.draw rfl) hn _ _ _ _) (λ _ h=>h)
 ·have hid:(Up D H.next (H.next+1)) H.next:=.inr ⟨qf _,x9 _⟩
  have:=VR.gslice (θ:=θ.add H.next w.drew.heap.size 0 (cap-(sLen+n))) (i:=0) (m:=sLen+n) (s:=i.size) (alt:=0) (n:=sLen+n) hid;intro θ'' hag';show ao θ'' (.gslice H.next 0 (sLen+n) i.size 0 (sLen+n))=_;rw [this θ'' hag'];simp only [ao,e1,e2,e3,oJ,ite_self,jv,zH];congr 1;omega
theorem Lr {b i m s alt n:Nat} {c:Value} (h:VR D θ (.gslice b i m s alt n) c):c=.slice (some ⟨θ.aN b,θ.off b+(if (m-i) + θ.ext b=0 then alt else i*s),none⟩) n ((m-i) + θ.ext b):=by
 rw [<-h.now];rfl
theorem Gw {b o n cp:Nat} {c:Value} (h:VR D θ (.slice b o n cp) c):c=.slice (some ⟨θ.aN b,θ.off b+o,none⟩) n cp:=by
 rw [<-h.now];rfl
theorem HR.Dt (hh:HR P base D θ H w) (hn:¬ D H.next) {t tx ty e:TypeId} {i:TypeInfo} {z:Value} (ht:P.underlying t=some (.slice e)) (hi:P.info? e=some i) (hz:i.zero=some z) (hzs:z.cells.size=i.size)
 (h0:0<i.size) {b k m sLen n:Nat} {c:List AV} {fz fz':Nat × Nat} {alt:Nat} {s x:Value} {old new:List AV} {news:List Value} (hg:H.get b=some (.grown m i.size c e fz))
 (hsv:VR D θ (.gslice b k m i.size alt sLen) s) (hs:Src P i.size tx x n news w) (hnw:bG D θ new news) (hn0:0<n) (hkm:k+sLen<=m) (hbig:m<k+sLen+n) (hf:fits (sLen+n) i.bytes=true)
 (hold:dL c (k*i.size) (sLen*i.size)=some old)
 (hfz:(fz.2<fz.1\/fz.2<=(k+sLen)*i.size)/\((k=0/\fz'=fz)\/(fz.2<=k*i.size/\fz'=cond (Nat.beq fz.1 fz.2) (0,0) (1,0)))) :
 ∃ θ' w' v,(Builtin.append_ #[t,tx] ty #[s,x]).run P w=.ok v w'/\HR P base (Up D H.next (H.next+1)) θ' (cX (H.kill b) e i.size (sLen+n) (gC old new) fz').2 w' /\
  bt D H θ w (cX (H.kill b) e i.size (sLen+n) (gC old new) fz').2 θ' w'/\VR (Up D H.next (H.next+1)) θ' (cX (H.kill b) e i.size (sLen+n) (gC old new) fz').1 v:=by
 have hsc:=Lr hsv;subst hsc;obtain ⟨hd,co,hc,pre,cs,post,cfz,rfl,r2,r3,r4,r5,r6,r7,r8⟩:=hh.obj b _ hg;have hcl:=r3.length;have hnl:=hs.newsLen;rw [mB] at hold;have hle:sLen*i.size<=c.length-k*i.size:=by
  rw [r4,<-Nat.sub_mul];exact jm _ (by omega)
 rw [qk hle] at hold;injection hold with hold;subst hold
 have hol:bG D θ ((c.drop (k*i.size)).take (sLen*i.size)) ((cs.drop (k*i.size)).take (sLen*i.size)):=(r3.drop _).take _;have hkc:(k+sLen)*i.size<=c.length:=by rw [r4];exact jm _ hkm
 have hkadd:(k+sLen)*i.size=k*i.size+sLen*i.size:=nW _ _ _
 by_cases hroom:sLen+n<=(m-k) + θ.ext b
 ·-- in place
  have hcap:¬ (m-k) + θ.ext b=0:=by omega
  rw [qc hcap];have htot:(k+sLen+n)*i.size<=cs.length+post.length:=by
   rw [hcl,r4,r5,<-nW];exact jm _ (by omega)
  have hadd2:(k+sLen+n)*i.size=k*i.size+sLen*i.size+n*i.size:=by rw [nW,nW]
  have hst:=Ku (P:=P) (θ.off b+k*i.size+sLen*i.size) news 0 _ w hc (by simp;omega) (λ j hj=>by
   unfold Bo at r8;obtain ⟨q1,q2⟩:=hfz;omega) hs.one
  rw [jv] at hst;have hrun:=Pb (ty:=ty) ht hi (a:=⟨θ.aN b,θ.off b+k*i.size,none⟩) (sLen:=sLen) (sCap:=(m-k) + θ.ext b) hs hroom (by rw [o7];exact hst)
  -- the block's cells from the slice's head on
  have hw:((pre++cs++post).take (θ.off b+k*i.size+sLen*i.size)++news++(pre++cs++post).drop (θ.off b+k*i.size+sLen*i.size+news.length)) =
   (pre++cs.take (k*i.size))++((cs.drop (k*i.size)).take (sLen*i.size)++news)++(pre++cs++post).drop (θ.off b+k*i.size+sLen*i.size+news.length):=by
   have e1:(pre++cs++post).take (θ.off b+k*i.size+sLen*i.size)=pre++cs.take (k*i.size)++(cs.drop (k*i.size)).take (sLen*i.size):=by
    rw [qt,IK,xo (l:=pre) (by omega),qt,show θ.off b+k*i.size+sLen*i.size-pre.length=k*i.size+sLen*i.size from by omega,IK,
     show k*i.size+sLen*i.size-cs.length=0 from by omega,zt,kh,List.take_add]
   rw [e1];simp
  have hdrop:((pre++cs++post).drop (θ.off b+k*i.size+sLen*i.size+news.length)).length=((m-k) + θ.ext b-(sLen+n))*i.size:=by
   rw [tY,qg,qg,hnl,Nat.sub_mul,nW,nW,Nat.sub_mul,hcl,r4,r5,r2];have:=jm i.size (show k<=m by omega);omega
  have hag:=Th.eR θ H.next (θ.aN b) (θ.off b+k*i.size) ((m-k) + θ.ext b-(sLen+n)) hn
  obtain ⟨e1,e2,e3⟩:=Th.dy θ H.next (θ.aN b) (θ.off b+k*i.size) ((m-k) + θ.ext b-(sLen+n))
  have hsz:((cs.drop (k*i.size)).take (sLen*i.size)).length=sLen*i.size:=by rw [ky,tY];omega
  obtain ⟨g1,g2⟩:=hh.move hn (o':=.grown (sLen+n) i.size (gC ((c.drop (k*i.size)).take (sLen*i.size)) new) e fz') (co':=.cells ((pre++cs.take (k*i.size))++((cs.drop (k*i.size)).take (sLen*i.size)++news)++(pre++cs++post).drop (θ.off b+k*i.size+sLen*i.size+news.length)).toArray e cfz)
   (off:=θ.off b+k*i.size) (ext:=(m-k) + θ.ext b-(sLen+n)) hg rfl rfl ⟨_,_,_,cfz,rfl,by rw [e2,qg,ky];omega,by rw [mb];exact (hol.app hnw).up hag Up.of,
    by rw [mb,qg,<-hol.length,hsz,<-hnw.length,hnl,nW],by rw [e3];exact hdrop,h0,by rw [e3];unfold maxLen at r7 ⊢;omega,by
     rw [e2];have hlen2:(pre++cs.take (k*i.size)).length+((cs.drop (k*i.size)).take (sLen*i.size)++news).length+((pre++cs++post).drop (θ.off b+k*i.size+sLen*i.size+news.length)).length=pre.length+cs.length+post.length:=by
      rw [<-qg,<-qg,<-hw];simp;omega
     rw [hlen2];obtain ⟨_,q|⟨q1,q2⟩⟩:=hfz
     ·obtain ⟨rfl,rfl⟩:=q;simpa using r8
     ·unfold Bo at r8 ⊢;cases hbq:Nat.beq fz.1 fz.2 with
      | true =>
       simp only [zz] at hbq;rw [hbq] at q2;simp only [Nat.beq_refl,ql] at q2;omega
      | false =>
       rw [hbq] at q2;subst q2;have:¬ fz.1=fz.2:=by intro h;rw [h,Nat.beq_refl] at hbq;cases hbq
       simp only [xa];omega⟩
  refine ⟨θ.add H.next (θ.aN b) (θ.off b+k*i.size) ((m-k) + θ.ext b-(sLen+n)),_,_,hrun,?_,?_,?_⟩
  ·rw [show (pre++cs++post).toArray.toList=pre++cs++post from rfl,hw];exact g1
  ·rw [show (pre++cs++post).toArray.toList=pre++cs++post from rfl,hw];exact g2
  ·have hid:(Up D H.next (H.next+1)) H.next:=.inr ⟨qf _,x9 _⟩
   have:=VR.gslice (θ:=θ.add H.next (θ.aN b) (θ.off b+k*i.size) ((m-k) + θ.ext b-(sLen+n))) (i:=0) (m:=sLen+n) (s:=i.size) (alt:=0) (n:=sLen+n) hid;intro θ'' hag';show ao θ'' (.gslice H.next 0 (sLen+n) i.size 0 (sLen+n))=_;rw [this θ'' hag'];simp only [ao,e1,e2,e3,oJ,ite_self,jv,zH];congr 1;omega
 ·have hfc:(Builtin.firstCells i.size sLen (.slice (some ⟨θ.aN b,θ.off b+(if (m-k) + θ.ext b=0 then alt else k*i.size),none⟩) sLen ((m-k) + θ.ext b))).run P w.drew=.ok ((cs.drop (k*i.size)).take (sLen*i.size)).toArray w.drew:=by
   by_cases hl0:sLen=0
   ·subst hl0;show (loadCells _ (0*i.size)).run P w.drew=_;rw [oJ,zt];rfl
   ·have hcap:¬ (m-k) + θ.ext b=0:=by omega
    rw [qc hcap];show (loadCells _ (sLen*i.size)).run P w.drew=_;have:=q57 (P:=P) (w:=w.drew) (k:=θ.aN b) (fz:=cfz) (e:=e) (arr:=(pre++cs++post).toArray) hc (pre.length+k*i.size) (sLen*i.size) (by simp;omega);rw [q9d pre cs post _ _ (by rw [hcl];exact hle),r2] at this;exact this
  have:=(hh.sub (Oa H b)).grow (ty:=ty) (H:=H.kill b) hn ht hi hz hzs h0 hfc hs (by omega) hf hol hnw (by rw [ky,tY];omega) fz';obtain ⟨θ',w',v,g1,g2,g3,g4⟩:=this;exact ⟨θ',w',v,g1,g2,(bt.kill H b).trans g3 (λ _ h=>h),g4⟩
theorem yQ {e:TypeId} {n z:Nat} {zv:AV} (hs:bF P e=some n) (hb:gP P e=some z) (hz:zeroOf P e=some zv) (hzn:zv.cells.length=n) :
 ∃ i zc,P.info? e=some i/\i.size=n/\i.bytes=z/\i.zero=some zc/\zc.cells.size=n:=by
 obtain ⟨i,h1,h2⟩:=OB hs;unfold gP at hb;rw [h1] at hb;simp only [qd,qb] at hb;unfold zeroOf at hz;rw [h1] at hz;simp only [qd,qa] at hz;obtain ⟨zc,h3,h4⟩:=hz;refine ⟨i,zc,h1,h2,hb,h3,?_⟩;have:=(LZ (D:=λ _=>False) (θ:=⟨λ _=>0,λ _=>0,λ _=>0⟩) h4).cells.length;rw [hzn] at this;simpa using this
theorem xe2 {b o n cp:Nat} {c:Value} (h:VR D θ (.slice b o n cp) c) (n':Nat):VR D θ (.slice b o n' cp) (.slice (some ⟨θ.aN b,θ.off b+o,none⟩) n' cp):=λ θ' ha=>by
 have:=(h θ' ha).trans h.now.symm;simp only [ao,Value.slice.injEq,qb,Addr.mk.injEq,kr,mQ] at this;simp only [ao,this.1,this.2]
theorem xat {b i m s alt n:Nat} {c:Value} (h:VR D θ (.gslice b i m s alt n) c) (n':Nat):VR D θ (.gslice b i m s alt n') (.slice (some ⟨θ.aN b,θ.off b+(if (m-i) + θ.ext b=0 then alt else i*s),none⟩) n' ((m-i) + θ.ext b)):=λ θ' ha=>by
 have:=(h θ' ha).trans h.now.symm;simp only [ao,Value.slice.injEq,qb,Addr.mk.injEq,kr,mQ] at this;obtain ⟨⟨h1,h2⟩,h3⟩:=this;rw [h3] at h2;simp only [ao,h1,h3,h2]
theorem q05 {o:Oper} {c:Call} {xs:List Operand} {t tx e:TypeId} {sz z:Nat} {zv:AV} (ho:o.op=.call c) (hc:c.callee=.builtin .append) (hx:c.args.toList=xs) (hts:c.argTypes.toList=[t,tx])
 (hu:P.underlying t=some (.slice e)) (hk:(∃ e',P.underlying tx=some (.slice e'))\/(P.underlying tx=some .string)) (hs:bF P e=some sz) (hb:gP P e=some z) (hz:zeroOf P e=some zv) (hzn:zv.cells.length=sz) :
 lD P o xs (Op.append e sz z):=by
 intro base D θ H ρ w vs v H' hh h hv hfr;obtain ⟨cc,hE⟩:=xY (ρ:=ρ) ho hc;have hats:c.argTypes = #[t,tx]:=by apply yL;simpa using hts
 obtain ⟨i,zc,hi,rfl,rfl,hiz,hzs⟩:=yQ hs hb hz hzn;unfold Op.append at hv;split at hv
 ·rename_i a b;obtain ⟨x,y,rfl,ha,hbv⟩:=h.gu;simp only [qa] at hv;obtain ⟨n,hn,new,hnew,hv⟩:=hv;cases hone:bh new with
  | false=>rw [hone] at hv;cases hv
  | true =>
   rw [hone] at hv;simp only [ql] at hv;obtain ⟨news,hsrc,hnv⟩:=D5 hh (tx:=tx) hk hbv hn hnew hone;have hfin:∀ (c':Value) (w':World),(Builtin.append_ #[t,tx] o.type #[ρ x,ρ y]).run P w=.ok c' w'->(execOp ρ o).run P w=.ok (.value c') w':=by
    intro c' w' hr;rw [hE,mh hx,hats];simp [builtin,hr]
   have hnl:=hsrc.newsLen;have hnlen:=hnv.length;have hnothing:n=0 -> ∀ bs len cp,ρ x=.slice bs len cp->len<=cp->(Builtin.append_ #[t,tx] o.type #[ρ x,ρ y]).run P w=.ok (ρ x) w:=by
    intro h0 bs len cp he hle;subst h0;have:news=[]:=List.eq_nil_of_length_eq_zero (by simpa using hnl);subst this;rw [he];exact run_append_nothing w t tx o.type e i hu hi bs len cp hle (ρ y) hsrc
   unfold dk at hv;split at hv
   ·-- nil
    cases h0:Nat.beq n 0 with
    | true =>
     rw [h0] at hv;simp only [ql,qb,qu] at hv;obtain ⟨rfl,rfl⟩:=hv;exact ⟨θ,w,ρ x,.inl (hfin _ _ (hnothing (by simpa using h0) none 0 0 ha.now.symm (qf _))),by rw [Up.none];exact hh,.refl _ _ _ _,by rw [Up.none];exact ha⟩
    | false =>
     rw [h0] at hv;simp only [xa] at hv;cases hf:(fits n i.bytes && Nat.blt 0 i.size) with
     | false=>rw [hf] at hv;cases hv
     | true =>
      rw [hf] at hv;simp only [ql,qb] at hv;simp only [qx,mW] at hf;have hn0:n ≠ 0:=by intro q;subst q;cases h0
      obtain ⟨θ',w',c',g1,g2,g3,g4⟩:=hh.grow (ty:=o.type) (hfr H.next (qf _) (by rw [<-(Prod.mk.inj hv).2];exact x9 _)) hu hi hiz hzs hf.2 (bs:=none) (sLen:=0) (sCap:=0) (old:=[]) (olds:=[]) rfl hsrc (by omega) (by simpa using hf.1) .nil hnv (by simp) (0,0);rw [show gC ([]:List AV) new=new from rfl,x6] at g2 g3 g4;rw [hv] at g2 g3 g4;have:H'.next=H.next+1:=by rw [<-(Prod.mk.inj hv).2];rfl
      rw [<-this] at g2 g4;refine ⟨θ',w',c',.inl (hfin _ _ ?_),g2,g3,g4⟩;rw [<-ha.now];exact g1
   ·-- a slice of a row
    rename_i bb oo len cp;cases hle:Nat.ble (len+n) cp with
    | true =>
     rw [hle] at hv;simp only [wq] at hle;simp only [ql] at hv;cases h0:Nat.beq n 0 with
     | true =>
      rw [h0] at hv;simp only [ql,qb,qu] at hv;obtain ⟨rfl,rfl⟩:=hv;simp only [zz] at h0;subst h0;exact ⟨θ,w,ρ x,.inl (hfin _ _ (hnothing rfl _ len cp (Gw ha) (by omega))),by rw [Up.none];exact hh,.refl _ _ _ _,by rw [Up.none];exact ha⟩
     | false =>
      rw [h0] at hv;simp only [xa,qa,qb,qu] at hv;obtain ⟨H1,h1,rfl,rfl⟩:=hv;obtain ⟨w',g1,g2,g3,g4⟩:=hh.store hnv h1;refine ⟨θ,w',_,.inl (hfin _ _ ?_),by rw [g4,Up.none];exact g2,g3,by rw [g4,Up.none];exact xe2 ha _⟩;rw [Gw ha];exact Pb hu hi hsrc hle (by rw [o7,vj];exact g1)
    | false =>
     rw [hle] at hv;have hle':¬ len+n<=cp:=by intro q;rw [Nat.ble_eq_true_of_le q] at hle;cases hle
     simp only [xa] at hv;cases hf:(fits (len+n) i.bytes && Nat.ble cp (len+n) && Nat.blt 0 i.size) with
     | false=>rw [hf] at hv;cases hv
     | true =>
      rw [hf] at hv;simp only [ql,qa,qb] at hv;obtain ⟨old,hold,hv⟩:=hv;simp only [qx,mW] at hf;obtain ⟨olds,k1,k2,k3⟩:∃ olds:List Value,(Builtin.firstCells i.size len (ρ x)).run P w.drew=.ok olds.toArray w.drew/\bG D θ old olds/\old.length=len*i.size:=by
       obtain ⟨ad,len',cap',hc',hl',hcase⟩:=Jx (hh.draw (w':=w.drew) rfl) ha (n:=len) rfl (qf _) rfl hold;rcases hcase with ⟨rfl,rfl,_,h0⟩|⟨ad',cs',rfl,k1,k2,k3⟩
       ·rw [Gw ha] at hc';cases hc'
       ·exact ⟨cs',by rw [hc'];exact k1,k2,k3⟩
      rw [Gw ha] at k1;obtain ⟨θ',w',c',g1,g2,g3,g4⟩:=hh.grow (ty:=o.type) (hfr H.next (qf _) (by rw [<-(Prod.mk.inj hv).2];exact x9 _)) hu hi hiz hzs hf.2 k1 hsrc (by omega) hf.1.1 k2 hnv k3 (0,0);rw [hv] at g2 g3 g4;have:H'.next=H.next+1:=by rw [<-(Prod.mk.inj hv).2];rfl
      rw [<-this] at g2 g4;refine ⟨θ',w',c',.inl (hfin _ _ ?_),g2,g3,g4⟩;rw [Gw ha];exact g1
   ·-- a slice of a grown row
    rename_i bb ii m sz alt len;cases h0:Nat.beq n 0 with
    | true =>
     rw [h0] at hv;simp only [ql] at hv;cases hil:Nat.ble (ii+len) m with
     | false=>rw [hil] at hv;cases hv
     | true =>
     rw [hil] at hv;simp only [ql,qb,qu] at hv;obtain ⟨rfl,rfl⟩:=hv;simp only [zz] at h0;subst h0;simp only [wq] at hil;exact ⟨θ,w,ρ x,.inl (hfin _ _ (hnothing rfl _ len _ (Lr ha) (by omega))),by rw [Up.none];exact hh,.refl _ _ _ _,by rw [Up.none];exact ha⟩
    | false =>
     rw [h0] at hv;have hn0:n ≠ 0:=by intro q;subst q;cases h0
     simp only [xa] at hv;cases hcc:(Nat.beq sz i.size && Nat.ble (ii+len) m && Nat.blt 0 i.size) with
     | false=>rw [hcc] at hv;cases hv
     | true =>
      rw [hcc] at hv;simp only [qx,zz,wq,mW] at hcc;obtain ⟨⟨rfl,hil⟩,hsz⟩:=hcc;simp only [ql] at hv;cases hle:Nat.ble (ii+len+n) m with
      | true =>
       rw [hle] at hv;simp only [wq] at hle;simp only [ql,qa,qb,qu] at hv;obtain ⟨H1,h1,rfl,rfl⟩:=hv;obtain ⟨w',g1,g2,g3,g4⟩:=hh.store hnv h1;refine ⟨θ,w',_,.inl (hfin _ _ ?_),by rw [g4,Up.none];exact g2,g3,by rw [g4,Up.none];exact xat ha _⟩;rw [Lr ha];refine Pb hu hi hsrc (by omega) ?_;rw [qc (by omega),o7,vj,<-nW];exact g1
      | false =>
       rw [hle] at hv;have hle':¬ ii+len+n<=m:=by intro q;rw [Nat.ble_eq_true_of_le q] at hle;cases hle
       simp only [xa] at hv;cases hf:fits (len+n) i.bytes with
       | false=>rw [hf] at hv;cases hv
       | true =>
        rw [hf] at hv;simp only [ql] at hv;split at hv
        ·rename_i m' sz' c0 e' fz hget;cases hcc:(Nat.beq m m' && Nat.beq i.size sz' && Nat.beq e' e) with
         | false=>rw [hcc] at hv;cases hv
         | true =>
          rw [hcc] at hv;simp only [qx,zz] at hcc;obtain ⟨⟨rfl,rfl⟩,rfl⟩:=hcc;simp only [ql] at hv;have hfin2:∀ old fz',dL c0 (ii*i.size) (len*i.size)=some old->((fz.2<fz.1\/fz.2<=(ii+len)*i.size)/\((ii=0/\fz'=fz)\/(fz.2<=ii*i.size/\fz'=cond (Nat.beq fz.1 fz.2) (0,0) (1,0)))) ->
           cX (H.kill bb) e' i.size (len+n) (gC old new) fz'=(v,H') -> ∃ θ' w' c,kQ P (execOp ρ o) w c w'/\HR P base (Up D H.next H'.next) θ' H' w'/\bt D H θ w H' θ' w'/\VR (Up D H.next H'.next) θ' v c:=by
           intro old fz' hold hfz hv;have hnx:H'.next=H.next+1:=by rw [<-(Prod.mk.inj hv).2];rfl
           obtain ⟨θ',w',c',g1,g2,g3,g4⟩:=hh.Dt (ty:=o.type) (hfr H.next (qf _) (by rw [hnx];exact x9 _)) hu hi hiz hzs hsz hget ha hsrc hnv (by omega) hil (by omega) hf hold hfz;rw [hv] at g2 g3 g4;rw [<-hnx] at g2 g4;exact ⟨θ',w',c',.inl (hfin _ _ g1),g2,g3,g4⟩
          cases hq1:(Nat.beq ii 0 && Nat.beq len m && Nat.ble fz.2 (m*i.size)) with
          | true =>
           rw [hq1] at hv;simp only [qx,zz,wq] at hq1;obtain ⟨⟨rfl,rfl⟩,hq1⟩:=hq1;simp only [ql,qb] at hv;obtain ⟨_,co,_,pre,cs,post,cfz,_,_,_,r4,_⟩:=hh.obj bb _ hget;refine hfin2 c0 fz ?_ ⟨.inr (by simpa using hq1),.inl ⟨rfl,rfl⟩⟩ hv;rw [mB,oJ,<-r4,qk (by omega),xq,Jq]
          | false =>
           rw [hq1] at hv;simp only [xa] at hv;cases hq2:Nat.ble fz.2 (ii*i.size) with
           | true =>
            rw [hq2] at hv;simp only [wq] at hq2;simp only [ql,qa,qb] at hv;obtain ⟨old,hold,hv⟩:=hv;exact hfin2 old _ hold ⟨.inr (by rw [nW];omega),.inr ⟨hq2,rfl⟩⟩ hv
           | false =>
            rw [hq2] at hv;simp only [xa] at hv;cases hq3:(Nat.beq ii 0 && Nat.ble fz.2 (len*i.size)) with
            | false=>rw [hq3] at hv;cases hv
            | true =>
             rw [hq3] at hv;simp only [qx,zz,wq] at hq3;obtain ⟨rfl,hq3⟩:=hq3;simp only [ql,qa,qb] at hv;obtain ⟨old,hold,hv⟩:=hv;exact hfin2 old fz (by rw [oJ];exact hold) ⟨.inr (by rw [x6];exact hq3),.inl ⟨rfl,rfl⟩⟩ hv
        ·cases hv
   ·cases hv
 ·cases hv
theorem tt {o:Oper} {c:Call} {xs:List Operand} {t e:TypeId} {sz:Nat} (ho:o.op=.call c) (hc:c.callee=.builtin .copy) (hx:c.args.toList=xs) (ht:c.argTypes[0]? = some t)
 (hu:P.underlying t=some (.slice e)) (hs:bF P e=some sz):lD P o xs (Op.copy sz):=by
 intro base D θ H ρ w vs v H' hh h hv hfr;obtain ⟨cc,hE⟩:=xY (ρ:=ρ) ho hc;unfold Op.copy at hv;split at hv
 ·cases hv
 ·rename_i d r hns;obtain ⟨x,y,rfl,ha,hb⟩:=h.gu;simp only [qa] at hv;obtain ⟨dn,hdn,rn,hrn,l,hl,hv⟩:=hv;have hd:isStr d=false:=by cases d<;>first|rfl|exact (hns _ rfl).elim
  obtain ⟨lr,_⟩:=uZ (P:=P) (w:=w) hb hrn
  -- what is copied
  obtain ⟨cs,g1,g2⟩:∃ cs:List Value,(Builtin.firstCells sz (min rn dn) (ρ y)).run P w=.ok cs.toArray w/\bG D θ l cs:=by
   cases hstr:isStr r with
   | true =>
    obtain ⟨s,rfl⟩:∃ s,r=.str s:=by cases r<;>first|exact ⟨_,rfl⟩|cases hstr
    simp only [dE,nU,qb] at hrn;subst hrn;simp only [firstCells] at hl;cases hsz:Nat.beq sz 1 with
    | false=>rw [hsz] at hl;cases hl
    | true =>
     rw [hsz] at hl;simp only [ql,qb] at hl;subst hl;refine ⟨(s.take (min s.length dn)).map λ b=>.int .u8 b.toNat,?_,λ θ' _=>by rw [kT,vu];rfl⟩;rw [<-hb.now];simp only [ao,Builtin.firstCells,Sem.run_pure];congr 1;apply yL;simp only [Array.toList_map];rw [Lib.extract_data];simp
   | false =>
    obtain ⟨ad,len',cap',hc',hl',hcase⟩:=Jx hh hb hrn (Nat.min_le_left rn dn) hstr hl;rw [hc'];rcases hcase with ⟨rfl,rfl,_,h0⟩|⟨ad',cs',rfl,k1,k2,k3⟩
    ·exact ⟨[],rfl,.nil⟩
    ·exact ⟨cs',k1,k2⟩
  have hsl:∃ bs cp,ρ x=.slice bs dn cp:=by
   cases d<;>simp only [dE,reduceCtorEq,qb] at hdn
   ·cases hd
   ·subst hdn;exact ⟨none,0,ha.now.symm⟩
   ·subst hdn;exact ⟨_,_,Gw ha⟩
   ·subst hdn;exact ⟨_,_,Lr ha⟩
   ·subst hdn;exact ⟨_,_,ha.now.symm⟩
  obtain ⟨bs,cp,hxe⟩:=hsl;have hcs:=g2.length;cases hz:Nat.beq (min rn dn) 0 with
  | true =>
   rw [hz] at hv;simp only [ql,qb,qu] at hv;obtain ⟨rfl,rfl⟩:=hv;simp only [zz] at hz;have hcs0:cs=[]:=by
    rw [hz] at hl;have:l=[]:=by
     unfold firstCells at hl;split at hl
     ·injection hl with hl;exact hl.symm
     ·cases hq:Nat.beq sz 1<;>rw [hq] at hl
      ·cases hl
      ·injection hl with hl;rw [<-hl];rfl
     ·injection hl with hl;exact hl.symm
     ·injection hl with hl;exact hl.symm
     ·injection hl with hl;exact hl.symm
     ·cases hl
    subst this;exact g2.fK
   subst hcs0;refine ⟨θ,w,goInt 0,.inl ?_,by rw [Up.none];exact hh,.refl _ _ _ _,.int _ _⟩;rw [hE,mh hx];have hmin:Nat.min rn dn=0:=hz;cases bs<;>simp [builtin,hxe,Builtin.copy_,ht,zw hu,mr hs,lr,hmin,hz,show (Builtin.firstCells sz 0 (ρ y)).run P w=.ok #[] w from by rw [hz] at g1;exact g1,storeCells]
  | false =>
   rw [hz] at hv;simp only [xa,qa,qb,qu] at hv;obtain ⟨p,hp,H1,h1,rfl,rfl⟩:=hv;obtain ⟨n',m',k1,k2,k3,k4⟩:=qyo ha hp;rw [oJ,zH] at k1;obtain ⟨w',q1,q2,q3,q4⟩:=hh.store g2 h1;rw [hxe] at k1;injection k1 with k1 k1' k1''
   subst k1;refine ⟨θ,w',goInt (min rn dn:Nat),.inl ?_,by rw [q4,Up.none];exact q2,q3,by rw [show ((min rn dn:Nat):Int)=min (rn:Int) (dn:Int) from by omega];exact .int _ _⟩;rw [hE,mh hx];have hmin:Nat.min rn dn=min rn dn:=rfl;simp [builtin,Builtin.copy_,ht,zw hu,mr hs,lr,hxe,hmin,g1,q1]
 ·cases hv
theorem xdq {k o n:Nat} {arr:Array Value} {e:TypeId} {fz:Nat × Nat} (h:w.heap[k]? = some (.cells arr e fz)) (hn:n ≠ 0) :
 w.freeze ⟨k,o,none⟩ n=dp w k (.cells arr e (if fz.1 == fz.2 then (o,o+n) else (min fz.1 o,max fz.2 (o+n)))):=by
 unfold World.freeze;rw [qc hn];simp only [dp];congr 1;apply Array.ext_getElem?;intro j;rw [Array.getElem?_modify,yu]
 by_cases hj:k=j
 ·subst hj;obtain ⟨hk,h2⟩:=js.1 h;simp [hk,h2]
 ·simp [hj]
theorem Dn.join {fz cfz:Nat × Nat} (h:Dn fz cfz) (o n:Nat) (hn:n ≠ 0):Dn (Op.gw fz o n) (if cfz.1 == cfz.2 then (o,o+n) else (min cfz.1 o,max cfz.2 (o+n))):=by
 unfold Dn at h ⊢;unfold Op.gw
 by_cases hc:cfz.1=cfz.2
 ·rw [qk (by simpa using hc)];cases hb:Nat.beq fz.1 fz.2 with
  | true=>simp only [ql];omega
  | false=>simp only [xa];omega
 ·rw [qc (by simpa using hc)];have hb:Nat.beq fz.1 fz.2=false:=by
   cases hb:Nat.beq fz.1 fz.2 with
   | false=>rfl
   | true=>simp only [zz] at hb;omega
  rw [hb];simp only [xa];omega
theorem Bo.join {fz cfz:Nat × Nat} {off size:Nat} (h:Bo fz cfz off size) (ht:fz.1<=fz.2) (o n:Nat) (hn:n ≠ 0):Bo (Op.gw fz o n) (if cfz.1 == cfz.2 then (off+o,off+o+n) else (min cfz.1 (off+o),max cfz.2 (off+o+n))) off size:=by
 unfold Bo at h ⊢;unfold Op.gw
 by_cases hc:cfz.1=cfz.2
 ·rw [qk (by simpa using hc)];cases hb:Nat.beq fz.1 fz.2 with
  | true=>simp only [ql];omega
  | false=>simp only [xa];omega
 ·rw [qc (by simpa using hc)];have hb:Nat.beq fz.1 fz.2=false:=by
   cases hb:Nat.beq fz.1 fz.2 with
   | false=>rfl
   | true=>simp only [zz] at hb;omega
  rw [hb];simp only [xa];omega
theorem ij:∀ (ns:List Int) (a:Addr) (acc:List UInt8),(∀ j x,ns[j]? = some x->w.cell? (a.add j)=some (.int .u8 x)) ->
 (loadBytes a ⟨acc.toArray⟩ ns.length).run P w=.ok ⟨(acc++ns.map (λ n=>UInt8.ofNat n.toNat)).toArray⟩ w
 | [],a,acc,h=>by simp [loadBytes]
 | x::l,a,acc,h=>by
  have h0:w.cell? a=some (.int .u8 x):=by
   have:=h 0 x rfl
   simpa [Addr.add] using this
  have ih:=ij l (a.add 1) (acc ++ [UInt8.ofNat x.toNat]) (λ j y hy=>by
   have:=h (j+1) y (by simpa using hy);have e:(a.add 1).add j=a.add (j+1):=by
    unfold Addr.add
    by_cases hj:j=0
    ·subst hj;simp
    ·simp [hj];omega
   rw [e];exact this)
  have e1:(⟨acc.toArray⟩:ByteArray).push (x.toNat).toUInt8=⟨(acc ++ [UInt8.ofNat x.toNat]).toArray⟩:=by simp [ByteArray.push,Nat.toUInt8]
  simp only [qn,loadBytes,Sem.run_bind,run_load,h0,Result.andThen,e1];rw [ih];simp
theorem my {e:TypeId} (hc:P.cellsOf e=1) (count off n:Nat) (hn:off+n<=count):liesAt P P.depth e count off e n=true:=by
 have hd:P.depth=(2*(P.types.size+Made.depth)+1)+1:=rfl;rw [hd];simp only [liesAt,wy];left;rw [hd];simp [rowAt,hc,hn,sameLayout,Nat.mod_one]
theorem qsy {ts:Array TypeId} {pt ty e:TypeId} (hts:ts[0]? = some pt) (hp:P.underlying pt=some (.pointer e)) (hc:P.cellsOf e=1) {g off cells:Nat} (hsh:w.shape? g=some (e,cells)) (ns:List Int) (h0:ns ≠ [])
 (hn:off+ns.length<=cells) (h63:ns.length<=9223372036854775807) (hcell:∀ j x,ns[j]? = some x->w.cell? ((⟨g,off,none⟩:Addr).add j)=some (.int .u8 x)) :
 (Builtin.unsafeString_ ts ty #[.pointer (some ⟨g,off,none⟩),.int .i64 ns.length]).run P w=.ok (.string ⟨(ns.map (λ n=>UInt8.ofNat n.toNat)).toArray⟩) (w.freeze ⟨g,off,none⟩ ns.length):=by
 have hl:ns.length ≠ 0:=by simpa using h0
 have hlb:=ij (P:=P) (w:=w) ns ⟨g,off,none⟩ [] hcell;have hlies:=my (P:=P) hc (cells / P.cellsOf e) off ns.length (by rw [hc];simpa using hn);have h63':¬ (9223372036854775807:Int)<(ns.length:Int):=by omega
 change Sem.run P (asInt (.int .i64 ns.length) >>= _) w=_;have hmax:IntKind.i64.max=9223372036854775807:=rfl;have hneg:¬ (ns.length:Int)<0:=by omega
 have hempty:ByteArray.empty=(⟨([]:List UInt8).toArray⟩:ByteArray):=rfl;simp only [zn] at hlb;simp [asInt,asIntOf,hmax,h63',hneg,hl,variablesAt,hsh,elemOf,run_underlying hp,hlies,hts,hempty,hlb,freeze,Sem.run,Array.getLit]
theorem q4r {o:Oper} {c:Call} {xs:List Operand} {t u:TypeId} (ho:o.op=.call c) (hc:c.callee=.builtin .unsafeString) (hx:c.args.toList=xs) (ht:c.argTypes[0]? = some t)
 (hu:P.underlying t=some (.pointer u)) (hs:bF P u=some 1):lD P o xs (Op.dX u):=by
 intro base D θ H ρ w vs v H' hh h hv hfr;obtain ⟨cc,hE⟩:=xY (ρ:=ρ) ho hc;have hco:P.cellsOf u=1:=by
  obtain ⟨i,h1,h2⟩:=OB hs;simp [Program.cellsOf,h1,h2]
 have hzero:∀ (k:IntKind) (p:Option Addr),(Builtin.unsafeString_ c.argTypes o.type #[.pointer p,.int k 0]).run P w=.ok (.string ⟨([]:List UInt8).toArray⟩) w:=by
  intro k p;have hmax:¬ (0:Int) > IntKind.i64.max:=by decide
  cases p with
  | none =>
   change Sem.run P (asInt (.int k 0) >>= _) w=_;simp [asInt,asIntOf,ht,hmax];rfl
  | some a =>
   change Sem.run P (asInt (.int k 0) >>= _) w=_;simp [asInt,asIntOf,ht,hmax];rfl
 -- the bytes of a row's cells
 have hrow:∀ (k:IntKind) (b o':Nat) (n:Int) (cells l:List AV) (s:List UInt8) (pre cs post:List Value) (cfz:Nat × Nat),w.heap[θ.aN b]? = some (.cells (pre++cs++post).toArray u cfz)->pre.length = θ.off b ->
  bG D θ cells cs->0<n->n<=140737488355328->dL cells o' n.toNat=some l->bytesOf l=some s ->
  (Builtin.unsafeString_ c.argTypes o.type #[.pointer (some ⟨θ.aN b,θ.off b+o',none⟩),.int k n]).run P w =
   .ok (.string ⟨s.toArray⟩) (dp w (θ.aN b) (.cells (pre++cs++post).toArray u (if cfz.1 == cfz.2 then (θ.off b+o',θ.off b+o'+n.toNat) else (min cfz.1 (θ.off b+o'),max cfz.2 (θ.off b+o'+n.toNat))))):=by
  intro k b o' n cells l s pre cs post cfz hcell hpre hcs hn0 hnb hl hs';rw [mB] at hl;split at hl
  ·rename_i hle;injection hl with hl;subst hl
   obtain ⟨ns,e1,e2⟩:=Qf _ _ s ((hcs.drop o').take n.toNat) hs';have hcl:=hcs.length;have hnl:ns.length=n.toNat:=by
    have:=congrArg List.length e1;simp at this;omega
   have hks:∀ j x,ns[j]? = some x->w.cell? ((⟨θ.aN b,θ.off b+o',none⟩:Addr).add j)=some (.int .u8 x):=by
    intro j x hj;rw [o7,FG hcell,<-hpre,vj];apply xea;have hjl:j<ns.length:=(qv.1 hj).1;have:=congrArg (λ l=>l[j]?) e1;simp only [vx,vw,xj,hj,AM] at this;rw [qk (by omega)] at this;exact this
   have hk:(Builtin.unsafeString_ c.argTypes o.type #[.pointer (some ⟨θ.aN b,θ.off b+o',none⟩),.int k n])=(Builtin.unsafeString_ c.argTypes o.type #[.pointer (some ⟨θ.aN b,θ.off b+o',none⟩),.int .i64 n]):=by
    rfl
   have hr:=qsy (P:=P) (w:=w) (ty:=o.type) ht hu hco (off:=θ.off b+o') (IQ hcell) ns (by intro q;subst q;simp at hnl;omega) (by simp;omega) (by omega) hks;rw [hk,show n=(ns.length:Int) from by omega,hr,xdq hcell (by omega),e2];rw [show ((ns.length:Int)).toNat=ns.length from rfl]
  ·cases hl
 unfold Op.dX at hv;split at hv
 ·rename_i k n;obtain ⟨x,y,rfl,ha,hb⟩:=h.gu;cases hz:nJ n 0 with
  | false=>rw [hz] at hv;cases hv
  | true =>
   rw [hz] at hv;simp only [rH,beq_iff_eq] at hz;subst hz;simp only [ql,qb,qu] at hv;obtain ⟨rfl,rfl⟩:=hv;refine ⟨θ,w,_,.inl ?_,by rw [Up.none];exact hh,.refl _ _ _ _,.str _⟩;rw [hE,mh hx];simp only [xx,kw,<-ha.now,<-hb.now,ao,builtin,Sem.run_bind,hzero,Result.andThen_ok,Sem.run_pure]
 ·rename_i b o' k n;obtain ⟨x,y,rfl,ha,hb⟩:=h.gu;cases hz:nJ n 0 with
  | true =>
   rw [hz] at hv;simp only [rH,beq_iff_eq] at hz;subst hz;simp only [ql,qb,qu] at hv;obtain ⟨rfl,rfl⟩:=hv;refine ⟨θ,w,_,.inl ?_,by rw [Up.none];exact hh,.refl _ _ _ _,.str _⟩;rw [hE,mh hx];simp only [xx,kw,<-ha.now,<-hb.now,ao,builtin,Sem.run_bind,hzero,Result.andThen_ok,Sem.run_pure]
  | false =>
   rw [hz] at hv;have hn0:n ≠ 0:=by intro q;subst q;simp [rH] at hz
   simp only [xa] at hv;cases aT:(oC n 0 || oC 140737488355328 n) with
   | true=>rw [aT] at hv;cases hv
   | false =>
    rw [aT] at hv;simp only [BL,p8,decide_eq_false_iff_not] at aT;simp only [xa] at hv;split at hv
    ·rename_i cells e fz hg;cases heu:Nat.beq e u with
     | false=>rw [heu] at hv;cases hv
     | true =>
      rw [heu] at hv;simp only [zz] at heu;subst heu;simp only [ql,qa,qb,qu] at hv;obtain ⟨l,hl,s,hs',rfl,rfl⟩:=hv;obtain ⟨hd,co,hcc,pre,cs,post,cfz,et,rfl,r2,r3,r4⟩:=hh.obj b _ hg;obtain ⟨rfl,rfl,rfl,r5⟩:=r4 rfl;have hoff:θ.off b=0:=by simpa using r2.symm
      have hr:=hrow k b o' n cells l s [] cs [] cfz hcc r2 r3 (by omega) (by omega) hl hs';have r6:=r5.join o' n.toNat (by omega);rw [hoff,x6] at hr;refine ⟨θ,_,_,.inl ?_,by rw [show (H.set b (.row cells et (Op.gw fz o' n.toNat) true)).next=H.next from rfl,Up.none];exact hh.set hg rfl rfl ⟨[],cs,[],_,_,rfl,r2,r3,λ _=>⟨rfl,rfl,rfl,r6⟩⟩,bt.set hg rfl (hh.lt hg),.str _⟩;rw [hE,mh hx];have:=hr;simp only [xx,kw,<-ha.now,<-hb.now,ao,builtin,Sem.run_bind,hoff,x6,hr,Result.andThen_ok,Sem.run_pure]
    ·rename_i m z cells e fz hg;cases heu:(Nat.beq e u && Nat.ble fz.1 fz.2) with
     | false=>rw [heu] at hv;cases hv
     | true =>
      rw [heu] at hv;simp only [qx,zz,wq] at heu;obtain ⟨rfl,hft⟩:=heu;simp only [ql,qa,qb,qu] at hv;obtain ⟨l,hl,s,hs',rfl,rfl⟩:=hv;obtain ⟨hd,co,hcc,pre,cs,post,cfz,rfl,r2,r3,r4,r5,r6,r7,r8⟩:=hh.obj b _ hg;have hr:=hrow k b o' n cells l s pre cs post cfz hcc r2 r3 (by omega) (by omega) hl hs';have r9:=r8.join hft o' n.toNat (by omega);refine ⟨θ,_,_,.inl ?_,by rw [show (H.set b (.grown m z cells e (Op.gw fz o' n.toNat))).next=H.next from rfl,Up.none];exact hh.set hg rfl rfl ⟨pre,cs,post,_,rfl,r2,r3,r4,r5,r6,r7,r9⟩,bt.set hg rfl (hh.lt hg),.str _⟩;rw [hE,mh hx];simp only [xx,kw,<-ha.now,<-hb.now,ao,builtin,Sem.run_bind,hr,Result.andThen_ok,Sem.run_pure]
    ·cases hv
 ·cases hv
end
end Go.Am
namespace Go.Am
def Ext (H H':AHeap):Prop:=H.next<=H'.next /\ ∀ b o,H'.get b=some o->(∃ o',H.get b=some o'/\(own o'=true->own o=true))\/(H.next<=b/\b<H'.next/\own o=true)
theorem Ext.refl (H:AHeap):Ext H H:=⟨qf _,λ b o h=>.inl ⟨o,h,λ h=>h⟩⟩
theorem Ext.trans {H H' H'':AHeap} (h:Ext H H') (h':Ext H' H''):Ext H H'':=by
 refine ⟨xz h.1 h'.1,λ b o hb=>?_⟩;rcases h'.2 b o hb with ⟨o',h1,h0⟩|⟨h1,h2,h3⟩
 ·rcases h.2 b o' h1 with ⟨o'',h3,h4⟩|⟨h3,h4,h5⟩
  ·exact .inl ⟨o'',h3,λ q=>h0 (h4 q)⟩
  ·exact .inr ⟨h3,qe h4 h'.1,h0 h5⟩
 ·exact .inr ⟨xz h.1 h1,h2,h3⟩
theorem Ext.set {H:AHeap} {b:Nat} {o:bg} (h:H.get b=some o) (o':bg) (ho:own o=true->own o'=true):Ext H (H.set b o'):=by
 refine ⟨qf _,λ x ox hx=>?_⟩;rw [AHeap.aI] at hx;split at hx
 ·rename_i e;subst e;injection hx with hx;subst hx
  exact .inl ⟨o,h,ho⟩
 ·exact .inl ⟨ox,hx,λ h=>h⟩
theorem Ext.alloc (H:AHeap) (o:bg) (ho:own o=true):Ext H (H.alloc o):=by
 refine ⟨AR _,λ x ox hx=>?_⟩;rw [AHeap.bR] at hx;split at hx
 ·rename_i e;subst e;injection hx with hx;subst hx
  exact .inr ⟨qf _,x9 _,ho⟩
 ·exact .inl ⟨ox,hx,λ h=>h⟩
theorem Ext.kill (H:AHeap) (b:Nat):Ext H (H.kill b):=⟨qf _,λ x ox hx=>.inl ⟨ox,Oa H b x ox hx,λ h=>h⟩⟩
theorem xd7 {H:AHeap} {b:Nat} {m:List (AV × AV × Nat) × Nat} (h:H.dZ b=some m):∃ o,H.get b=some o:=by
 unfold AHeap.dZ at h;split at h
 ·exact ⟨_,by assumption⟩
 ·cases h
def cE:dS->Prop
 | .alloc f=>∀ vs ob mk,f vs=some (ob,mk)->own ob=true
 | .bQ f=>∀ vs H v H',f vs H=some (v,H')->Ext H H'
 | _=>True
theorem z8 {α:Type} {c:Bool} {a b:Option α} {x:α} (h:cond c a b=some x):(c=true/\a=some x)\/(c=false/\b=some x):=by
 cases c<;>simp_all
theorem LV {H H':AHeap} {b o:Nat} {l:List AV} (h:H.store b o l=some H'):Ext H H':=by
 unfold AHeap.store at h;rcases z8 h with ⟨_,h⟩|⟨_,h⟩
 ·split at h
  ·rename_i hg;rcases z8 h with ⟨_,h⟩|⟨_,h⟩
   ·simp only [qa,qb] at h;obtain ⟨_,_,rfl⟩:=h;exact Ext.set hg _ (λ _=>rfl)
   ·cases h
  ·rename_i hg;rcases z8 h with ⟨_,h⟩|⟨_,h⟩
   ·simp only [qa,qb] at h;obtain ⟨_,_,rfl⟩:=h;exact Ext.set hg _ (λ _=>rfl)
   ·cases h
  ·cases h
 ·cases h
theorem xbo (n:Nat):cE (.bQ (Op.store n)):=by
 intro vs H v H' h;unfold Op.store at h;split at h
 ·rcases z8 h with ⟨_,h⟩|⟨_,h⟩
  ·simp only [qa,qb,qu] at h;obtain ⟨_,h1,_,rfl⟩:=h;exact LV h1
  ·cases h
 ·cases h
theorem qsc (q:bq):cE (.bQ (Op.mapUpdate q)):=by
 intro vs H v H' h;unfold Op.mapUpdate at h;split at h
 ·rcases z8 h with ⟨_,h⟩|⟨_,h⟩
  ·simp only [qa] at h;obtain ⟨m,hm,r,_,h⟩:=h;obtain ⟨ob,hob⟩:=xd7 hm;split at h
   ·simp only [qa] at h;obtain ⟨e,_,h⟩:=h;rcases z8 h with ⟨_,h⟩|⟨_,h⟩
    ·injection h with h;injection h with _ h;subst h;exact Ext.set hob _ (λ _=>rfl)
    ·cases h
   ·injection h with h;injection h with _ h;subst h;exact Ext.set hob _ (λ _=>rfl)
  ·cases h
 ·cases h
theorem q5m:cE (.bQ Op.ez):=by
 intro vs H v H' h;unfold Op.ez at h;split at h
 ·split at h
  ·rename_i hg;split at h
   ·rcases z8 h with ⟨_,h⟩|⟨_,h⟩
    ·injection h with h;injection h with _ h;subst h;exact Ext.set hg _ (λ _=>rfl)
    ·cases h
   ·injection h with h;injection h with _ h;subst h;exact Ext.refl _
  ·cases h
 ·cases h
theorem xeb (n:Nat):cE (.bQ (Op.copy n)):=by
 intro vs H v H' h;unfold Op.copy at h;split at h
 ·cases h
 ·simp only [qa] at h;obtain ⟨_,_,_,_,_,_,h⟩:=h;rcases z8 h with ⟨_,h⟩|⟨_,h⟩
  ·injection h with h;injection h with _ h;subst h;exact Ext.refl _
  ·simp only [qa,qb,qu] at h;obtain ⟨_,_,_,h1,_,rfl⟩:=h;exact LV h1
 ·cases h
theorem q3g (u:Nat):cE (.bQ (Op.dX u)):=by
 intro vs H v H' h;unfold Op.dX at h;split at h
 ·rcases z8 h with ⟨_,h⟩|⟨_,h⟩
  ·injection h with h;injection h with _ h;subst h;exact Ext.refl _
  ·cases h
 ·rcases z8 h with ⟨_,h⟩|⟨_,h⟩
  ·injection h with h;injection h with _ h;subst h;exact Ext.refl _
  ·rcases z8 h with ⟨_,h⟩|⟨_,h⟩
   ·cases h
   ·split at h
    ·rename_i hg;rcases z8 h with ⟨_,h⟩|⟨_,h⟩
     ·simp only [qa,qb,qu] at h;obtain ⟨_,_,_,_,_,rfl⟩:=h;exact Ext.set hg _ (λ _=>rfl)
     ·cases h
    ·rename_i hg;rcases z8 h with ⟨_,h⟩|⟨_,h⟩
     ·simp only [qa,qb,qu] at h;obtain ⟨_,_,_,_,_,rfl⟩:=h;exact Ext.set hg _ (λ _=>rfl)
     ·cases h
    ·cases h
 ·cases h
theorem IL {H H':AHeap} {e s n:Nat} {c:List AV} {fz:Nat × Nat} {v:AV} (h:some (cX H e s n c fz)=some (v,H')):Ext H H':=by
 injection h with h;injection h with _ h;subst h;exact Ext.alloc _ _ rfl
theorem qzd (e s z:Nat):cE (.bQ (Op.append e s z)):=by
 intro vs H v H' h;unfold Op.append at h;split at h
 ·simp only [qa] at h;obtain ⟨n,_,new,_,h⟩:=h;rcases z8 h with ⟨_,h⟩|⟨_,h⟩
  ·unfold dk at h;split at h
   ·rcases z8 h with ⟨_,h⟩|⟨_,h⟩
    ·injection h with h;injection h with _ h;subst h;exact Ext.refl _
    ·rcases z8 h with ⟨_,h⟩|⟨_,h⟩
     ·exact IL h
     ·cases h
   ·rcases z8 h with ⟨_,h⟩|⟨_,h⟩
    ·rcases z8 h with ⟨_,h⟩|⟨_,h⟩
     ·injection h with h;injection h with _ h;subst h;exact Ext.refl _
     ·simp only [qa,qb,qu] at h;obtain ⟨_,h1,_,rfl⟩:=h;exact LV h1
    ·rcases z8 h with ⟨_,h⟩|⟨_,h⟩
     ·simp only [qa] at h;obtain ⟨_,_,h⟩:=h;exact IL h
     ·cases h
   ·rcases z8 h with ⟨_,h⟩|⟨_,h⟩
    ·rcases z8 h with ⟨_,h⟩|⟨_,h⟩
     ·injection h with h;injection h with _ h;subst h;exact Ext.refl _
     ·cases h
    ·rcases z8 h with ⟨_,h⟩|⟨_,h⟩
     ·rcases z8 h with ⟨_,h⟩|⟨_,h⟩
      ·simp only [qa,qb,qu] at h;obtain ⟨_,h1,_,rfl⟩:=h;exact LV h1
      ·rcases z8 h with ⟨_,h⟩|⟨_,h⟩
       ·split at h
        ·rcases z8 h with ⟨_,h⟩|⟨_,h⟩
         ·rcases z8 h with ⟨_,h⟩|⟨_,h⟩
          ·exact (Ext.kill _ _).trans (IL (H:=H.kill _) h)
          ·rcases z8 h with ⟨_,h⟩|⟨_,h⟩
           ·simp only [qa] at h;obtain ⟨_,_,h⟩:=h;exact (Ext.kill _ _).trans (IL (H:=H.kill _) h)
           ·rcases z8 h with ⟨_,h⟩|⟨_,h⟩
            ·simp only [qa] at h;obtain ⟨_,_,h⟩:=h;exact (Ext.kill _ _).trans (IL (H:=H.kill _) h)
            ·cases h
         ·cases h
        ·cases h
       ·cases h
     ·cases h
   ·cases h
  ·cases h
 ·cases h
end Go.Am
namespace Go.Am
structure uE (ρ:Operand->Value):Prop where
 const:∀ v,ρ (.const v)=v
 func:∀ f,ρ (.func f)=.func (.func f) #[] #[]
def pP (P:Program) (o:Oper) (xs:List Operand) (f:List AV->Option AV):Prop :=
 ∀ (D:Nat->Prop) θ (ρ:Operand->Value) w vs v,uE ρ->bG D θ vs (xs.map ρ)->f vs=some v -> ∃ c,kQ P (execOp ρ o) w c w/\VR D θ v c
def oa (P:Program) (o:Oper) (xs:List Operand) (f:List AV->Option (bg × (Nat->AV))):Prop :=
 ∀ (D:Nat->Prop) θ (ρ:Operand->Value) w vs ob mk,uE ρ->bG D θ vs (xs.map ρ)->f vs=some (ob,mk) ->
  own ob=true /\ ∃ w0 co ext c,(execOp ρ o).run P w=.ok (.value c) (w0.alloc co)/\fI w w0 /\
   ∀ (D':Nat->Prop) θ' id,Ag D θ θ'->(∀ b,D b->D' b)->D' id -> θ'.aN id=w.heap.size -> θ'.off id=0 -> θ'.ext id=ext->iZ P D' θ' id ob co/\VR D' θ' (mk id) c
structure db (P:Program):Prop where
 names:∀ (f:FuncId) (fn:Func),P.funcs[f]? = some fn->fn.name ≠ "runtime.NumGoroutine"
 mixed:P.follows .mixedOrders=true
def mw (P:Program) (o:Oper) (xs:List Operand):dS->Prop
 | .pure f=>pP P o xs f
 | .read f=>iG P o xs f
 | .alloc f=>oa P o xs f/\cE (.alloc f)
 | .bQ f=>lD P o xs f/\cE (.bQ f)
 | .eM f=>∃ c fn b,o.op=.call c/\c.callee=.value (.func f)/\xs=c.args.toList/\P.funcs[f]? = some fn/\fn.body=some b
 | .ec=>∃ c x,o.op=.call c/\c.callee=.value x/\xs=x::c.args.toList
 | .invoke m=>∃ c x,o.op=.call c/\c.callee=.invoke x m/\xs=x::c.args.toList
 | .recover=>∃ c,o.op=.call c/\c.callee=.builtin .recover/\xs=c.args.toList
 | .defer=>∃ c x,o.op=.defer c/\c.callee=.value x/\xs=x::c.args.toList
 | .panic=>(∃ x,o.op=.panic x/\xs=[x]) \/ ∃ c,o.op=.call c/\c.callee=.builtin .panic/\xs=c.args.toList
theorem xbn {e:Nat} {z:List AV}:cE (.alloc (Op.alloc e z)):=by
 intro vs ob mk h;unfold Op.alloc at h;split at h
 ·injection h with h;injection h with h _;subst h;rfl
 ·cases h
theorem uq {e:Nat}:cE (.alloc (Op.box e)):=by
 intro vs ob mk h;unfold Op.box at h;split at h
 ·injection h with h;injection h with h _;subst h;rfl
 ·cases h
theorem qze {e n:Nat} {z:List AV} {ps:List (Nat × Nat)}:cE (.alloc (Op.buildSlice e n z ps)):=by
 intro vs ob mk h;simp only [Op.buildSlice,qa] at h;obtain ⟨_,_,h⟩:=h;injection h with h;injection h with h _;subst h;rfl
theorem q5l {e b:Nat} {z:List AV}:cE (.alloc (Op.mkSlice e b z)):=by
 intro vs ob mk h;unfold Op.mkSlice at h;split at h
 ·rcases z8 h with ⟨_,h⟩|⟨_,h⟩
  ·injection h with h;injection h with h _;subst h;rfl
  ·cases h
 ·cases h
theorem q3f:cE (.alloc Op.fo):=by
 intro vs ob mk h;unfold Op.fo at h;split at h
 ·injection h with h;injection h with h _;subst h;rfl
 ·cases h
theorem qzf {e:Nat}:cE (.alloc (Op.fm e)):=by
 intro vs ob mk h;unfold Op.fm at h;split at h
 ·rcases z8 h with ⟨_,h⟩|⟨_,h⟩
  ·injection h with h;injection h with h _;subst h;rfl
  ·cases h
 ·cases h
theorem q1p:cE (.alloc Op.mkMap):=by
 intro vs ob mk h;unfold Op.mkMap at h;split at h
 ·injection h with h;injection h with h _;subst h;rfl
 ·cases h
theorem qzg {e:Nat}:cE (.alloc (Op.makeNoZero e)):=by
 intro vs ob mk h;unfold Op.makeNoZero at h;split at h
 ·rcases z8 h with ⟨_,h⟩|⟨_,h⟩
  ·injection h with h;injection h with h _;subst h;rfl
  ·cases h
 ·cases h
section
variable {P:Program} {o:Oper} {xs:List Operand}
theorem bT.up {f:List AV->Option AV} (h:bT P o xs f):pP P o xs f:=λ D θ ρ w vs v _=>h D θ ρ w vs v
theorem fL.up {f:List AV->Option (bg × (Nat->AV))} (h:fL P o xs f):oa P o xs f:=λ D θ ρ w vs ob mk _=>h D θ ρ w vs ob mk
theorem AL {src dst:TypeId} {x:Operand} (ho:o.op=.convert src dst x) {r:List Operand × dS} (h:vA P src dst x=some r):mw P o r.1 r.2:=by
 unfold vA at h;split at h
 ·rename_i h1 h2;injection h with h;subst h;exact (xeo ho h1 h2).up
 ·rename_i h1 h2;injection h with h;subst h;exact (q3t ho h1 h2).up
 ·cases h
 ·rename_i e h1 h2;split at h
  ·rename_i he;injection h with h;subst h;exact qzz ho h1 he h2
  ·cases h
 ·rename_i u h1 h2;injection h with h;subst h;exact qw3 ho (.inl ⟨h1,h2⟩)
 ·rename_i u h1 h2;injection h with h;subst h;exact qw3 ho (.inr ⟨h1,h2⟩)
 ·rename_i e h1 h2;split at h
  ·rename_i he;injection h with h;subst h;exact ⟨(qxb ho h1 h2 he).up,qzf⟩
  ·cases h
 ·cases h
theorem xdo {t:TypeId} {x y:Operand} {k:oS} (h:A6 P t x y=some k):pC P t x y k:=by
 unfold A6 at h;split at h
 ·rename_i hu;injection h with h;subst h;exact hu
 ·rename_i e hu;split at h
  ·rename_i n hs;injection h with h;subst h;exact ⟨e,n,hu,hs⟩
  ·cases h
 ·rename_i e hu;injection h with h;subst h;exact ⟨e,hu⟩
 ·rename_i k e hu;injection h with h;subst h;exact ⟨k,e,hu⟩
 ·rename_i a b c hu;injection h with h;subst h;exact ⟨a,b,c,hu⟩
 ·rename_i ms hu;split at h
  ·injection h with h;subst h;exact ⟨ms,hu,.inl ⟨_,rfl⟩⟩
  ·injection h with h;subst h;exact ⟨ms,hu,.inr ⟨_,rfl⟩⟩
  ·injection h with h;subst h
   refine ⟨⟨ms,hu⟩,λ u q hq=>?_⟩;simp only [qa] at hq;obtain ⟨i,hi,hq⟩:=hq;split at hq
   ·rename_i hcmp;exact ⟨hq,i,hi,hcmp⟩
   ·cases hq
 ·rename_i fs hu;split at h
  ·cases h
  ·rename_i hg;simp only [qa,qb] at h;obtain ⟨q,hq,rfl⟩:=h;exact ⟨by simpa using hg,hq,.inl ⟨fs,hu⟩⟩
 ·rename_i n e hu;split at h
  ·cases h
  ·rename_i hg;simp only [qa,qb] at h;obtain ⟨q,hq,rfl⟩:=h;exact ⟨by simpa using hg,hq,.inr ⟨n,e,hu⟩⟩
 ·cases h
theorem Ep {op:BinOp} {t t':TypeId} {x y:Operand} (ho:o.op=.binOp op t x y t') {r:List Operand × dS} (h:C9 P op t x y=some r):mw P o r.1 r.2:=by
 unfold C9 at h;split at h
 ·injection h with h;subst h;exact (q9i ho).up
 ·injection h with h;subst h;exact (q9i ho).up
 ·split at h
  ·simp only [qa,qb] at h;obtain ⟨k,hk,rfl⟩:=h;exact xeq (neg:=false) (by simpa using ho) (xdo hk)
  ·simp only [qa,qb] at h;obtain ⟨k,hk,rfl⟩:=h;exact xeq (neg:=true) (by simpa using ho) (xdo hk)
  ·cases h
theorem xaf {c:Call} {b:Builtin} (ho:o.op=.call c) (hc:c.callee=.builtin b) {r:List Operand × dS} (h:Mw P b c.argTypes c.args.toList=some r):mw P o r.1 r.2:=by
 have hb2:∀ {d:TypeDesc},(c.argTypes[0]?).bind P.underlying=some d -> ∃ t,c.argTypes[0]? = some t/\P.underlying t=some d:=λ h=>by simpa [qa] using h
 unfold Mw at h;split at h
 ·split at h
  ·rename_i hu;obtain ⟨t,ht,hu⟩:=hb2 hu;injection h with h;subst h;exact (q7r ho hc rfl ht hu).up
  ·rename_i hu;obtain ⟨t,ht,hu⟩:=hb2 hu;injection h with h;subst h;exact (xbr ho hc rfl ht hu).up
  ·cases h
 ·split at h
  ·rename_i hu;obtain ⟨t,ht,hu⟩:=hb2 hu;injection h with h;subst h;exact (wD ho hc rfl ht hu).up
  ·cases h
 ·split at h
  ·rename_i t tx hts;split at h
   ·rename_i e e' hu hx;simp only [qa] at h;obtain ⟨n,hn,z,hz,zv,hzv,h⟩:=h;split at h
    ·rename_i hl;injection h with h;subst h;exact ⟨q05 ho hc rfl hts hu (.inl ⟨_,hx⟩) hn hz hzv hl,qzd _ _ _⟩
    ·cases h
   ·rename_i e hu hx;simp only [qa] at h;obtain ⟨n,hn,z,hz,zv,hzv,h⟩:=h;split at h
    ·rename_i hl;injection h with h;subst h;exact ⟨q05 ho hc rfl hts hu (.inr hx) hn hz hzv hl,qzd _ _ _⟩
    ·cases h
   ·cases h
  ·cases h
 ·split at h
  ·rename_i hu;obtain ⟨t,ht,hu⟩:=hb2 hu;simp only [qa,qb] at h;obtain ⟨n,hn,rfl⟩:=h;exact ⟨tt ho hc rfl ht hu hn,xeb _⟩
  ·cases h
 ·injection h with h;subst h;exact (qzu (mx:=false) ho hc rfl).up
 ·injection h with h;subst h;exact (qzu (mx:=true) ho hc rfl).up
 ·cases h
 ·cases h
 ·injection h with h;subst h;exact ⟨c,ho,hc,rfl⟩
 ·injection h with h;subst h;exact (q0o ho hc rfl).up
 ·split at h
  ·rename_i hu;obtain ⟨t,ht,hu⟩:=hb2 hu;split at h
   ·rename_i hs;injection h with h;subst h;exact ⟨q4r ho hc rfl ht hu hs,q3g _⟩
   ·cases h
  ·cases h
 ·injection h with h;subst h;exact .inr ⟨c,ho,hc,rfl⟩
 ·cases h
theorem M4 {fn:Func} (n:String) (hn:fn.name=n) (ho:fn.origin = "") {e:Array TypeId->Array TypeId->Array TypeId->Array Value->Sem Value}
 (h1:∀ (ps rs:Array TypeId),(((Extern.allNextRows.lookup n).map (· ps rs)) <|> ((Extern.allNextRows.lookup "").map (· ps rs)))=none)
 (h2:∀ (ts ps rs:Array TypeId),((Extern.allGenericRows.lookup n).map (· ts ps rs) <|> (Extern.allTypedRows.lookup n).map (· ps rs) <|> Extern.allRows.lookup n)=some (e ts ps rs)) :
 Extern.findNext fn=none/\Extern.find fn=some (e fn.targs fn.params fn.resultTypes):=by
 unfold Extern.findNext Extern.find;rw [hn,ho];refine ⟨h1 fn.params fn.resultTypes,?_⟩;show (((Extern.allGenericRows.lookup n).map (· fn.targs fn.params fn.resultTypes) <|> (Extern.allTypedRows.lookup n).map (· fn.params fn.resultTypes) <|> Extern.allRows.lookup n) <|> _)=_;rw [h2];rfl
theorem Fk {c:Call} {f:FuncId} {fn:Func} (hn:fn.name ≠ "runtime.NumGoroutine") (ho:o.op=.call c) (hc:c.callee=.value (.func f)) (hf:P.funcs[f]? = some fn) (hb:fn.body=none) {r:List Operand × dS}
 (h:CM P fn c.args.toList=some r):mw P o r.1 r.2:=by
 unfold CM at h;split at h
 ·cases h
 ·rename_i hor;have hor:fn.origin = "" := by simpa using hor
  split at h
  ·rename_i hnm;have hnm:=eq_of_beq hnm;injection h with h;subst h
   obtain ⟨e1,e2⟩:=M4 (e:=λ _ _ _=>Extern.BytealgIndexByte.indexByte) _ hnm hor (λ ps rs=>by kernel_rfl) (λ ts ps rs=>by kernel_rfl);intro D θ ρ w vs v hρ;exact qrt ho hc hf hb hn e1 e2 rfl D θ ρ w vs v (hρ.func f)
  ·split at h
   ·cases h
   ·split at h
    ·rename_i hnm;have hnm:=eq_of_beq hnm;injection h with h;subst h
     obtain ⟨e1,e2⟩:=M4 (e:=λ _ _ _=>Extern.AbiNoEscape.same) _ hnm hor (λ ps rs=>by kernel_rfl) (λ ts ps rs=>by kernel_rfl);intro D θ ρ w vs v hρ;exact q3q ho hc hf hb hn e1 e2 rfl D θ ρ w vs v (hρ.func f)
    ·split at h
     ·rename_i hnm;have hnm:=eq_of_beq hnm;simp only [qa] at h;obtain ⟨t,ht,h⟩:=h;split at h
      ·rename_i e hu;injection h with h;subst h
       obtain ⟨e1,e2⟩:=M4 (e:=λ _ ps rs=>Extern.BytealgMakeNoZero.makeNoZero ps rs) _ hnm hor (λ ps rs=>by kernel_rfl) (λ ts ps rs=>by kernel_rfl);exact ⟨λ D θ ρ w vs ob mk hρ=>qxc ho hc hf hb hn e1 e2 rfl ht hu D θ ρ w vs ob mk (hρ.func f),qzg⟩
      ·cases h
     ·cases h
theorem Au (hP:db P) {c:Call} (ho:o.op=.call c) {r:List Operand × dS} (h:sL P c=some r):mw P o r.1 r.2:=by
 unfold sL at h;split at h
 ·rename_i f hc;simp only [qa] at h;obtain ⟨fn,hf,h⟩:=h;split at h
  ·rename_i b hb;injection h with h;subst h
   exact ⟨c,fn,b,ho,hc,rfl,hf,hb⟩
  ·rename_i hb;exact Fk (hP.names f fn hf) ho hc hf hb h
 ·rename_i x _ hc;injection h with h;subst h;exact ⟨c,_,ho,hc,rfl⟩
 ·rename_i hc;injection h with h;subst h;exact ⟨c,_,ho,hc,rfl⟩
 ·rename_i b hc;exact xaf ho hc h
theorem JR (hP:db P) {r:List Operand × dS} (h:JG P o.op=some r):mw P o r.1 r.2:=by
 unfold JG at h;split at h
 ·rename_i ho;injection h with h;subst h;exact (q50 (.inl ho)).up
 ·rename_i ho;injection h with h;subst h;exact (q50 (.inr ho)).up
 ·rename_i ho;injection h with h;subst h;exact (xen ho).up
 ·rename_i ho;simp only [qa,qb] at h;obtain ⟨z,hz,rfl⟩:=h;exact ⟨(q6o ho hz).up,xbn⟩
 ·rename_i ho;injection h with h;subst h;exact ⟨(xcx ho).up,uq⟩
 ·rename_i t parts ho;simp only [qa] at h;obtain ⟨z,hz,h⟩:=h;split at h
  ·rename_i fs hu;split at h
   ·rename_i hall;simp only [qa,qb] at h;obtain ⟨ps,hps,rfl⟩:=h;refine (qwg ho hz hu (λ f hf=>?_) hps).up;have:=Array.all_eq_true'.1 hall f hf;exact Option.isSome_iff_exists.1 this
   ·cases h
  ·rename_i hu;simp only [qa,qb] at h;obtain ⟨n,hn,ps,hps,rfl⟩:=h;exact (qxl ho hz hu hn hps).up
  ·cases h
 ·rename_i t len parts ho;split at h
  ·rename_i e hu;simp only [qa] at h;obtain ⟨n,hn,z,hz,ps,hps,h⟩:=h;split at h
   ·rename_i hc;injection h with h;subst h
    exact ⟨(qxa ho hu hn hz hps hc.1 hc.2).up,qze⟩
   ·cases h
  ·cases h
 ·rename_i t a ho;simp only [qa] at h;obtain ⟨r',hr,h⟩:=h;split at h
  ·injection h with h;subst h;exact xbt ho hr
  ·injection h with h;subst h;exact xbu ho hr
 ·rename_i t a x ho;simp only [qa,qb] at h;obtain ⟨n,hn,rfl⟩:=h;exact ⟨xdj ho hn,xbo _⟩
 ·rename_i ho;injection h with h;subst h;exact (q3p ho).up
 ·rename_i ho;exact Ep ho h
 ·rename_i ho;injection h with h;subst h;exact (zV ho).up
 ·rename_i ho;exact AL ho h
 ·rename_i t x ho;split at h
  ·cases h
  ·rename_i d hd hu;injection h with h;subst h
   exact (q5z ho ⟨d,hu,by cases d<;>first|rfl|exact (hd _ rfl).elim⟩).up
  ·cases h
 ·rename_i ho;injection h with h;subst h;exact (q7s ho).up
 ·rename_i ho;injection h with h;subst h
  exact ⟨λ D θ ρ w vs ob mk hρ=>qyc ho (.inl rfl) (λ _=>trivial) D θ ρ w vs ob mk hρ.const,q1p⟩
 ·rename_i t k n ho;split at h
  ·rename_i a b hu;injection h with h;subst h
   exact ⟨λ D θ ρ w vs ob mk hρ=>qyc ho (.inr ⟨k,n,rfl,a,b,hu⟩) (λ _=>trivial) D θ ρ w vs ob mk hρ.const,q1p⟩
  ·cases h
 ·rename_i t l c ho;split at h
  ·rename_i e hu;simp only [qa] at h;obtain ⟨b,hb,z,hz,n,hn,h⟩:=h;split at h
   ·rename_i hc;injection h with h;subst h
    exact ⟨(q2f ho hu hb hn hz hc).up,q5l⟩
   ·cases h
  ·cases h
 ·rename_i t x lo hi mx ho;split at h
  ·rename_i hu;split at h
   ·injection h with h;subst h;exact (q3s ho hu).up
   ·cases h
  ·rename_i e hu;simp only [qa,qb] at h;obtain ⟨n,hn,rfl⟩:=h;exact (q51 ho hu hn).up
  ·rename_i k e hu;simp only [qa,qb] at h;obtain ⟨n,hn,rfl⟩:=h;exact (q3r ho hu hn).up
  ·cases h
 ·rename_i t x i ho;split at h
  ·rename_i fs hu;simp only [qa] at h;obtain ⟨f,hf,n,hn,h⟩:=h;split at h
   ·cases h
   ·rename_i hn0;injection h with h;subst h
    exact (q0n ho hu hf hn (by simpa using hn0)).up
  ·cases h
 ·cases h
 ·rename_i t x i ho;split at h
  ·rename_i e hu;simp only [qa,qb] at h;obtain ⟨n,hn,rfl⟩:=h;exact (q5y ho hu hn).up
  ·rename_i k e hu;simp only [qa,qb] at h;obtain ⟨n,hn,rfl⟩:=h;exact (q3n ho hu hn).up
  ·cases h
 ·rename_i t x i ho;split at h
  ·rename_i hu;injection h with h;subst h;exact (q3o ho hu).up
  ·rename_i k e hu;simp only [qa,qb] at h;obtain ⟨n,hn,a,ha,rfl⟩:=h;exact (q3m ho hu hn ha).up
  ·cases h
 ·rename_i t m k ok ho;split at h
  ·rename_i kt e hu;simp only [qa,qb] at h;obtain ⟨q,hq,z,hz,rfl⟩:=h;exact q7w ho hu hq hz
  ·cases h
 ·rename_i t m k v ho;split at h
  ·rename_i kt e hu;simp only [qa,qb] at h;obtain ⟨q,hq,rfl⟩:=h;exact ⟨qtz (.inl ho) hu hq,qsc _⟩
  ·cases h
 ·rename_i t m k v ho;split at h
  ·rename_i kt e hu;simp only [qa,qb] at h;obtain ⟨q,hq,rfl⟩:=h;exact ⟨qtz (.inr ho) hu hq,qsc _⟩
  ·cases h
 ·rename_i t x ho;split at h
  ·rename_i hu;injection h with h;subst h;exact ⟨(q0d ho hu).up,q3f⟩
  ·cases h
 ·rename_i ho;injection h with h;subst h;exact ⟨q6t ho,q5m⟩
 ·rename_i x xt t ok ho;split at h
  ·cases h
  ·rename_i d hd hu;simp only [qa,qb] at h;obtain ⟨z,hz,rfl⟩:=h;exact (qzv ho hu (by cases d<;>first|rfl|exact (hd _ rfl).elim) hz).up
  ·cases h
 ·rename_i ho;injection h with h;subst h;exact (q5x ho).up
 ·rename_i c ho;exact Au hP ho h
 ·rename_i c ho;split at h
  ·rename_i f hc;injection h with h;subst h;exact ⟨c,f,ho,hc,rfl⟩
  ·cases h
 ·rename_i x ho;injection h with h;subst h;exact .inl ⟨x,ho,rfl⟩
 ·cases h
theorem mw.mono {aop:dS} (h:mw P o xs aop):cE aop:=by
 cases aop with
 | alloc f=>exact h.2
 | bQ f=>exact h.2
 | _=>trivial
def sZ (o:Oper) (aop:dS):Prop:=(∀ c,o.op ≠ .defer c)\/aop=.defer\/aop=.pure Op.fail
theorem DT {r:List Operand × dS} (h:JG P o.op=some r):sZ o r.2:=by
 by_cases hd:∃ c,o.op=.defer c
 ·obtain ⟨c,hc⟩:=hd;rw [hc] at h;simp only [JG] at h;split at h
  ·injection h with h;subst h;exact .inr (.inl rfl)
  ·cases h
 ·exact .inl λ c hc=>hd ⟨c,hc⟩
theorem Gd (hP:db P) {r:List bP × dS} (h:eW P o=some r):∃ xs,jP P.globals.size xs=some r.1/\mw P o xs r.2/\sZ o r.2:=by
 unfold eW at h;split at h
 ·rename_i r' hr;injection h with h;subst h
  simp only [qa,qb] at hr;obtain ⟨q,hq,args,hargs,rfl⟩:=hr;exact ⟨q.1,hargs,JR hP hq,DT hq⟩
 ·injection h with h;subst h
  exact ⟨[],rfl,(xem []).up,.inr (.inr rfl)⟩
end
end Go.Am
namespace Go.Am
def eO (D:Nat->Prop) (θ:Th):List aC->List Deferred->Prop
 | [],[]=>True
 | d::ds,e::es=>Oe D θ d e/\eO D θ ds es
 | _,_=>False
def De (D:Nat->Prop) (θ:Th) (e:AV × Bool) (p:PanicEntry):Prop:=VR D θ e.1 p.v/\p.recovered=e.2/\p.goexit=false
def d7 (D:Nat->Prop) (θ:Th):ah->List PanicEntry->Prop
 | [],[]=>True
 | e::es,p::ps=>De D θ e p/\d7 D θ es ps
 | _,_=>False
def lJ (D:Nat->Prop) (θ:Th) (c:ah) (m:FrameMode):Prop :=
 match m with
 | .run=>False
 | .returning=>c=[]
 | .panicking ps=>c ≠ []/\d7 D θ c ps
def lg (D:Nat->Prop) (θ:Th) (kind:CallKind):Option ah->List Frame->Prop
 | none,_=>kind=.normal
 | some ch,c::_=>kind=.deferred/\lJ D θ ch c.mode
 | some _,[]=>False
def dM:Option ah->List Frame->List Frame->Prop
 | none,cs,cs'=>cs'=cs
 | some _,c::rest,cs'=>∃ u,cs' = { c with mode:=u }::rest
 | some _,[],_=>False
def rk (D:Nat->Prop) (θ:Th) (ro:Option Nat):Option Nat->Prop
 | none=>ro=none
 | some l=>D l/\ro=some (θ.aN l)
def sK (D:Nat->Prop) (θ:Th):aF->Exit->Prop
 | .normal,.normal=>True
 | .exit i,.exit j=>j=i
 | .goto i,.goto j=>j=i
 | .ret,.ret=>True
 | .panic c,.panic ps=>c ≠ []/\d7 D θ c ps
 | _,_=>False
def IP (D:Nat->Prop) (θ:Th):bE->Ending->Prop
 | .ret v,.returned c=>VR D θ v c
 | .panic c,.panicked ps=>c ≠ []/\d7 D θ c ps
 | _,_=>False
section
variable {D D':Nat->Prop} {θ θ':Th}
theorem eO.up (ha:Ag D θ θ') (hd:∀ b,D b->D' b):∀ {l:List aC} {m:List Deferred},eO D θ l m->eO D' θ' l m
 | [],[],_=>trivial
 | d::ds,e::es,⟨h1,h2⟩=>by
  refine ⟨?_,eO.up ha hd h2⟩;cases d with
  | ic b=>exact ⟨hd b h1.1,by rw [(ha b h1.1).1];exact h1.2⟩
  | fn f args =>
   obtain ⟨c,cap,h3,h4,h5⟩:=h1;refine ⟨c,cap,?_,λ θ'' h''=>?_,h5.up ha hd⟩
   ·rw [h3,h4 θ' ha]
   ·rw [h4 θ'' (ha.trans h'' hd),h4 θ' ha]
 | [],_::_,h=>h.elim
 | _::_,[],h=>h.elim
theorem d7.up (ha:Ag D θ θ') (hd:∀ b,D b->D' b):∀ {l:ah} {m:List PanicEntry},d7 D θ l m->d7 D' θ' l m
 | [],[],_=>trivial
 | e::es,p::ps,⟨⟨h1,h2,h3⟩,h⟩=>⟨⟨h1.up ha hd,h2,h3⟩,d7.up ha hd h⟩
 | [],_::_,h=>h.elim
 | _::_,[],h=>h.elim
theorem lJ.up (ha:Ag D θ θ') (hd:∀ b,D b->D' b) {c:ah} {m:FrameMode} (h:lJ D θ c m):lJ D' θ' c m:=by
 cases m with
 | run=>exact h.elim
 | returning=>exact h
 | panicking ps=>exact ⟨h.1,d7.up ha hd h.2⟩
theorem lg.up (ha:Ag D θ θ') (hd:∀ b,D b->D' b) {k:CallKind} {u:Option ah} {cs:List Frame} (h:lg D θ k u cs):lg D' θ' k u cs:=by
 cases u with
 | none=>exact h
 | some ch =>
  cases cs with
  | nil=>exact h.elim
  | cons c r=>exact ⟨h.1,lJ.up ha hd h.2⟩
theorem rk.up (ha:Ag D θ θ') (hd:∀ b,D b->D' b) {ro r:Option Nat} (h:rk D θ ro r):rk D' θ' ro r:=by
 cases r with
 | none=>exact h
 | some l=>exact ⟨hd l h.1,by rw [(ha l h.1).1];exact h.2⟩
theorem dM.refl {D:Nat->Prop} {θ:Th} {k:CallKind} {u:Option ah} {cs:List Frame} (h:lg D θ k u cs):dM u cs cs:=by
 cases u with
 | none=>rfl
 | some ch =>
  cases cs with
  | nil=>exact h.elim
  | cons c r=>exact ⟨c.mode,rfl⟩
theorem dM.trans {u u':Option ah} (hu:u'.isSome=u.isSome) {cs cs' cs'':List Frame} (h:dM u cs cs') (h':dM u' cs' cs''):dM u cs cs'':=by
 cases u with
 | none =>
  cases u' with
  | none=>exact Eq.trans h' h
  | some _=>cases hu
 | some ch =>
  cases u' with
  | none=>cases hu
  | some ch' =>
   cases cs with
   | nil=>exact h.elim
   | cons c r =>
    obtain ⟨m,rfl⟩:=h;obtain ⟨m',rfl⟩:=h';exact ⟨m',rfl⟩
theorem kF.up (ha:Ag D θ θ') (hd:∀ b,D b->D' b) {tm:T AV} {a:Array Value} (h:kF D θ tm a):kF D' θ' tm a:=λ t v hv =>
 let ⟨c,h1,h2⟩:=h t v hv;⟨c,h1,h2.up ha hd⟩
theorem kF.put {tm:T AV} {a:Array Value} (h:kF D θ tm a) {d:Nat} (hd:d<a.size) {v:AV} {c:Value} (hv:VR D θ v c):kF D θ (tm.set d v) (a.setIfInBounds d c):=by
 intro t x hx;rw [T.aI] at hx;rw [yu]
 by_cases e:d=t
 ·subst e;simp only [iW,qb] at hx;subst hx;exact ⟨c,by simp [hd],hv⟩
 ·simp only [e,ve] at hx ⊢;exact h t x hx
theorem kF.forget {a:Array Value}:∀ (ds:List Nat) {tm:T AV},kF D θ tm a->kF D θ (forget ds tm) a
 | [],_,h=>h
 | d::ds,tm,h=>kF.forget ds (tm:=tm.put d none) (λ t v hv=>by
  rw [T.gy] at hv;split at hv
  ·cases hv
  ·exact h t v hv)
theorem T.kP:∀ (ds:List Nat) (tm:T AV) (t:Nat),(forget ds tm).get t=if t ∈ ds then none else tm.get t
 | [],tm,t=>by simp [Am.forget]
 | d::ds,tm,t=>by
  rw [Am.forget,T.kP ds,T.gy]
  by_cases h1:t ∈ ds
  ·simp [h1]
  ·by_cases h2:d=t
   ·simp [h2]
   ·have h3:¬ t=d:=λ e=>h2 e.symm;simp [h1,h2,h3]
end
section
variable {P:Program} {base:Nat} {D:Nat->Prop} {θ:Th} {H:AHeap} {w:World} {a:Act} {tm:T AV}
theorem xI (hh:HR P base D θ H w) (ht:kF D θ tm a.tmps) {x:Operand} {y:bP} (hc:nG P.globals.size x=some y) {v:AV} (hv:mj tm y=some v):VR D θ v (a.eval x):=by
 cases x with
 | tmp t =>
  injection hc with hc;subst hc
  obtain ⟨c,h1,h2⟩:=ht t v hv
  simpa [Act.eval,h1] using h2
 | const k =>
  simp only [nG,qa,qb] at hc;obtain ⟨u,hu,rfl⟩:=hc;injection hv with hv;subst hv
  exact LZ hu
 | global g =>
  simp only [nG] at hc;split at hc
  ·rename_i hg;injection hc with hc;subst hc
   injection hv with hv;subst hv
   obtain ⟨h1,h2,h3⟩:=hh.dx g (by simpa [mW] using hg);have:=VR.ptr (θ:=θ) (o:=0) h1;rw [h2,h3] at this;exact this
  ·cases hc
 | func f =>
  injection hc with hc;subst hc
  injection hv with hv;subst hv
  exact λ _ _=>rfl
theorem Bx (hh:HR P base D θ H w) (ht:kF D θ tm a.tmps):∀ {xs:List Operand} {ys:List bP},jP P.globals.size xs=some ys -> ∀ {vs:List AV},iv tm ys=some vs->bG D θ vs (xs.map a.eval)
 | [],ys,hc,vs,hv=>by
  injection hc with hc;subst hc
  injection hv with hv;subst hv
  exact .nil
 | x::xs,ys,hc,vs,hv=>by
  simp only [jP,qa,qb] at hc;obtain ⟨y,hy,ys',hys,rfl⟩:=hc;simp only [iv,qa,qb] at hv;obtain ⟨v,h1,vs',h2,rfl⟩:=hv;exact .cons (xI hh ht hy h1) (Bx hh ht hys h2)
theorem BW (x:bP) (tm:T AV):(FL x).run tm=mj tm x:=by
 cases x<;>simp [FL,mj,T.fZ,T.get]
theorem yT:∀ (xs:List bP) (tm:T AV),(om xs).run tm=iv tm xs
 | [],_=>rfl
 | [x],tm=>by simp [om,iv,BW]
 | x::y::xs,tm=>by
  rw [om,iv]
  ·simp only [BW,yT (y::xs) tm]
  ·simp
theorem LY (a:Act):uE a.eval:=⟨λ _=>rfl,λ _=>rfl⟩
theorem P9 (d:Option Nat) (v:AV) (tm:T AV):(il d).run v tm=dr d v tm:=by
 cases d<;>simp [il,dr,T.uj,T.set,T.put]
end
inductive eV where
 | val (v:AV) (az:List aC) (up:Option ah) (H:AHeap)
 | panic (c:ah) (H:AHeap)
def iS (az:List aC) (up:Option ah) (r:bE × AHeap):eV :=
 match r.1 with
 | .ret v=>.val v az up r.2
 | .panic c=>.panic c r.2
def fh (rt:RT) (st:St) (vs:List AV):dS->Option eV
 | .pure f=>(f vs).bind λ v=>some (.val v st.az st.up st.H)
 | .read f=>(f vs st.H).bind λ v=>some (.val v st.az st.up st.H)
 | .alloc f=>(f vs).bind λ r=>some (.val (r.2 st.H.next) st.az st.up (st.H.alloc r.1))
 | .bQ f=>(f vs st.H).bind λ r=>some (.val r.1 st.az st.up r.2)
 | .eM f=>(cD rt.call rt.round (.func f) vs st.H).bind λ r=>some (iS st.az st.up r)
 | .ec=>match vs with
  | .fn (.func f) first cap::args=>(cD rt.call rt.round (.func f) (first++(args++cap)) st.H).bind λ r=>some (iS st.az st.up r)
  | .fn (.yield l) first []::args=>(cD rt.call rt.round (.yield l) (first++args) st.H).bind λ r=>some (iS st.az st.up r)
  | _=>none
 | .invoke name=>match vs with
  | .iface t v::args=>(rt.AP.mC t name).bind λ f=>(cD rt.call rt.round (.func f) (v::args) st.H).bind λ r=>some (iS st.az st.up r)
  | _=>none
 | .recover=>match rt.ctx.round with
  | some _=>none
  | none=>match vs with
   | []=>match st.up with
    | some ((v,false)::older)=>some (.val v st.az (some ((v,true)::older)) st.H)
    | _=>some (.val .nili st.az st.up st.H)
   | _=>none
 | .defer=>match rt.ctx.round with
  | some _=>none
  | none=>match vs with
   | .fn (.func f) first cap::args=>some (.val .undef (.fn (.func f) (first++(args++cap))::st.az) st.up st.H)
   | _=>none
 | .panic=>match vs with
  | [.iface t v]=>some (.panic [(.iface t v,false)] st.H)
  | _=>none
def oH (put:AV->T AV->T AV) (cj:Option (List Nat)) (st:St) (k:St->eC):eV->eC
 | .val v az up H=>k ⟨put v st.tm,az,up,H⟩
 | .panic c H=>cj.bind λ ds=>some (.panic c,⟨forget ds st.tm,st.az,st.up,H⟩)
theorem Kc (put:AV->T AV->T AV) (cj:Option (List Nat)) (st:St) (k:St->eC) (r:bE × AHeap):dV put cj st k r=oH put cj st k (iS st.az st.up r):=by
 unfold dV iS;split<;>rename_i h<;>rw [h]<;>rfl
theorem xeg (put:AV->T AV->T AV) (cj:Option (List Nat)) (rt:RT) (st:St) (k:St->eC) (vs:List AV) (op:dS) :
 (lE put cj op).run rt st k vs=(fh rt st vs op).bind (oH put cj st k):=by
 cases op with
 | pure f=>simp only [lE,uw,fh,jx,qd];rfl
 | read f=>simp only [lE,uM,fh,jx,qd];rfl
 | alloc f=>simp only [lE,pB,fh,jx,qd];rfl
 | bQ f=>simp only [lE,Fj,fh,jx,qd];rfl
 | eM f=>simp only [lE,wU,fh,jx,qd,Kc]
 | ec =>
  simp only [lE,wH,fh];split
  ·simp only [jx,qd,Kc]
  ·simp only [jx,qd,Kc]
  ·rename_i h1 h2;split
   ·exact (h1 _ _ _ _ rfl).elim
   ·exact (h2 _ _ _ rfl).elim
   ·rfl
 | invoke name =>
  simp only [lE,nQ,fh];split
  ·simp only [jx,qd,Kc]
  ·rename_i h1;split
   ·exact (h1 _ _ _ rfl).elim
   ·rfl
 | recover =>
  simp only [lE,L4,fh];cases rt.ctx.round with
  | some l=>rfl
  | none =>
   cases vs with
   | cons x xs=>rfl
   | nil =>
    rcases hu:st.up with _|_|⟨⟨v,_|_⟩,older⟩<;>simp only [Jd,hu]<;>rfl
 | defer =>
  simp only [lE,pw,fh];cases rt.ctx.round with
  | some l=>rfl
  | none =>
   simp only;split
   ·rfl
   ·rename_i h;split
    ·exact (h _ _ _ _ rfl).elim
    ·rfl
 | panic =>
  simp only [lE,pz,fh];split
  ·simp only [Kc,iS,qd]
  ·rename_i h;split
   ·exact (h _ _ rfl).elim
   ·rfl
end Go.Am
namespace Go.Am
section moves
variable {P:Program} {b:Frame} {a:Act} {k:List Item} {cs cs':List Frame} {w w':World} {ops:Array Oper} {i:Nat} {rest:List Nat} {o:Oper}
theorem Hg (ho:ops[i]? = some o) (v:Value):(b.atR a (.inRegion ops (i::rest)::k)).finish v=b.atR (a.put o.dst v) (.inRegion ops rest::k):=by
 rw [Frame.finish_atR,ho];rfl
theorem EH (ho:ops[i]? = some o) (hw:Region.wanted o (yielded ops a.tmps)=true) {v:Value} (hr:(o.semAt b.roundOf a.eval).run P w=.ok (.value v) w') :
 step P (lone (b.atR a (.inRegion ops (i::rest)::k)) cs w)=.next (lone (b.atR (a.put o.dst v) (.inRegion ops rest::k)) cs w') :=
 step_lone_go (by rw [stepGR_op ho hw,<-Hg ho];simp [stepG.apply,hr])
theorem I8 (ho:ops[i]? = some o) (hw:Region.wanted o (yielded ops a.tmps)=true) (hr:(o.semAt b.roundOf a.eval).run P w=.ok .skip w') :
 step P (lone (b.atR a (.inRegion ops (i::rest)::k)) cs w)=.next (lone (b.atR (a.put o.dst undef) (.inRegion ops rest::k)) cs w') :=
 step_lone_go (by rw [stepGR_op ho hw,<-Hg ho];simp [stepG.apply,hr])
theorem sA (ho:ops[i]? = some o) (hw:Region.wanted o (yielded ops a.tmps)=true) {d:Deferred} (hr:(o.semAt b.roundOf a.eval).run P w=.ok (.defer d) w') :
 step P (lone (b.atR a (.inRegion ops (i::rest)::k)) cs w)=.next (lone (b.atR (({ a with defers:=d::a.defers }:Act).put o.dst undef) (.inRegion ops rest::k)) cs w'):=by
 refine step_lone_go ?_;have:({ b.atR a (.inRegion ops (i::rest)::k) with defers:=d::a.defers }:Frame).finish undef =
  b.atR ({ a with defers:=d::a.defers }.put o.dst undef) (.inRegion ops rest::k):=by
  have:=Frame.finish_atR b { a with defers:=d::a.defers } ops i rest k undef;rw [ho] at this;exact this
 rw [stepGR_op ho hw];simp only [stepG.apply,Sem.runT_eq,hr,GStep.bare_after];exact congrArg (λ fr=>GStep.go { frame:=fr,callers:=cs,status:=.running,dying:=none } w') this
theorem NG (ho:ops[i]? = some o) (hw:Region.wanted o (yielded ops a.tmps)=true) {f:FuncId} {args:Array Value} (hr:(o.semAt b.roundOf a.eval).run P w=.ok (.enter f args) w') :
 step P (lone (b.atR a (.inRegion ops (i::rest)::k)) cs w)=.next (lone (Frame.enter P f args .normal) (b.atR a (.inRegion ops (i::rest)::k)::cs) w') :=
 step_lone_go (by rw [stepGR_op ho hw];simp [stepG.apply,hr,Frame.atR])
theorem tf (ho:ops[i]? = some o) (hw:Region.wanted o (yielded ops a.tmps)=true) {l:Nat} {f:FuncId} {tmps:Array Value} {as body:Code} (hr:(o.semAt b.roundOf a.eval).run P w=.ok (.round l f tmps as body) w') :
 step P (lone (b.atR a (.inRegion ops (i::rest)::k)) cs w)=.next (lone (Frame.round l f tmps as body .normal) (b.atR a (.inRegion ops (i::rest)::k)::cs) w') :=
 step_lone_go (by rw [stepGR_op ho hw];simp [stepG.apply,hr,Frame.atR])
theorem sY (ho:ops[i]? = some o) (hw:Region.wanted o (yielded ops a.tmps)=true) {v:Value} (hr:(o.semAt b.roundOf a.eval).run P w=.halt (.panic v) w') :
 step P (lone (b.atR a (.inRegion ops (i::rest)::k)) cs w)=.next (lone { b.atR a (.inRegion ops (i::rest)::k) with mode:=.panicking [{ v,recovered:=false }] } cs w') :=
 step_lone_go (by rw [stepGR_op ho hw,<-Frame.raise_atR];simp [stepG.apply,hr])
theorem xac (ho:ops[i]? = some o) (hw:Region.wanted o (yielded ops a.tmps)=true) (hb:b.roundOf=none) (hr:(o.semAt b.roundOf a.eval).run P w=.ok .recover w') {v:Value}
 (ht:tryRecover (b.atR a (.inRegion ops (i::rest)::k)) cs=some (v,cs')) :
 step P (lone (b.atR a (.inRegion ops (i::rest)::k)) cs w)=.next (lone (b.atR (a.put o.dst v) (.inRegion ops rest::k)) cs' w') :=
 step_lone_go (by
  rw [stepGR_op ho hw,<-Hg ho];have hb':(b.atR a (.inRegion ops (i::rest)::k)).roundOf=none:=hb;simp [stepG.apply,hr,hb',ht])
theorem qyd (ho:ops[i]? = some o) (hw:Region.wanted o (yielded ops a.tmps)=true) (hb:b.roundOf=none) (hr:(o.semAt b.roundOf a.eval).run P w=.ok .recover w')
 (ht:tryRecover (b.atR a (.inRegion ops (i::rest)::k)) cs=none) :
 step P (lone (b.atR a (.inRegion ops (i::rest)::k)) cs w)=.next (lone (b.atR (a.put o.dst .nilIface) (.inRegion ops rest::k)) cs w') :=
 step_lone_go (by
  rw [stepGR_op ho hw,<-Hg ho];have hb':(b.atR a (.inRegion ops (i::rest)::k)).roundOf=none:=hb;simp [stepG.apply,hr,hb',ht])
end moves
def lY (P:Program) (base:Nat) (call:bU):Prop :=
 ∀ (D:Nat->Prop) θ H w f vs (args:Array Value) up H' e up' kind cs,HR P base D θ H w->bG D θ vs args.toList->lg D θ kind up cs->call f vs up H=some (e,up',H')->dh D H.next H'.next ->
  (∃ fn c,P.funcs[f]? = some fn/\fn.body=some c) /\
  ∃ θ' w' cs' fr e',Steps P (lone (Frame.enter P f args kind) cs w) (lone fr cs' w')/\fr.kind=kind/\fr.fn=f/\fr.going P w' e'/\IP (Up D H.next H'.next) θ' e e' /\
   HR P base (Up D H.next H'.next) θ' H' w'/\bt D H θ w H' θ' w'/\up'.isSome=up.isSome/\dM up cs cs'/\lg (Up D H.next H'.next) θ' kind up' cs'
def oY (P:Program) (base:Nat) (round:fO):Prop :=
 ∀ (D:Nat->Prop) θ H w l vs (args:Array Value) H' e (c:Frame) cs,HR P base D θ H w->bG D θ vs args.toList->round vs l H=some (e,H')->dh D H.next H'.next ->
  ∃ f tmps as body,(Instr.yield (θ.aN l) args).run P w=.ok (.round (θ.aN l) f tmps as body) w /\
  ∃ θ' w' fin,Steps P (lone (Frame.round (θ.aN l) f tmps as body .normal) (c::cs) w) (lone fin cs w') /\
   (match e with
    | .ret v=>∃ cv,VR (Up D H.next H'.next) θ' v cv/\fin=c.finish cv
    | .panic ch=>∃ ps,ch ≠ []/\d7 (Up D H.next H'.next) θ' ch ps/\fin=c.raise ps) /\
   HR P base (Up D H.next H'.next) θ' H' w'/\bt D H θ w H' θ' w'
def eV.heap:eV->AHeap
 | .val _ _ _ H=>H
 | .panic _ H=>H
def Cc (P:Program) (base:Nat) (D:Nat->Prop) (θ:Th) (st:St) (b:Frame) (a:Act) (ops:Array Oper) (i:Nat) (rest:List Nat) (k:List Item) (cs:List Frame) (w:World) (o:Oper):eV->Prop
 | .val v az up H'=>∃ θ' w' c cs' ds,Steps P (lone (b.atR a (.inRegion ops (i::rest)::k)) cs w) (lone (b.atR (({ a with defers:=ds }:Act).put o.dst c) (.inRegion ops rest::k)) cs' w') /\
  HR P base (Up D st.H.next H'.next) θ' H' w'/\bt D st.H θ w H' θ' w'/\VR (Up D st.H.next H'.next) θ' v c/\eO (Up D st.H.next H'.next) θ' az ds/\up.isSome=st.up.isSome /\
  lg (Up D st.H.next H'.next) θ' b.kind up cs'/\dM st.up cs cs'
 | .panic ch H'=>∃ θ' w' ps todo,Steps P (lone (b.atR a (.inRegion ops (i::rest)::k)) cs w) (lone { b.atR a todo with mode:=.panicking ps } cs w') /\
  HR P base (Up D st.H.next H'.next) θ' H' w'/\bt D st.H θ w H' θ' w'/\ch ≠ []/\d7 (Up D st.H.next H'.next) θ' ch ps
section
variable {P:Program} {base:Nat} {D:Nat->Prop} {θ:Th}
theorem Lo {fr:Frame} {w:World} {e:Ending} (h:fr.going P w e) (hk:fr.kind=.normal):fr.leaving P w e:=by
 cases e with
 | returned v=>obtain ⟨h1,h2,h3⟩:=h;exact ⟨h1,h2,hk,h3⟩
 | panicked c=>exact h
 | outgrown=>trivial
theorem Jm {f:FuncId} {fn:Func} {c:Code} {args:Array Value} {w:World} (hP:db P) (hf:P.funcs[f]? = some fn) (hb:fn.body=some c):(callFunc f args).run P w=.ok (.enter f args) w:=by
 simp [callFunc,hf,hb,hP.names f fn hf]
theorem xby {t:TypeId} {name:String} {f:Nat} (h:pR P t name=some f) (v:Value) (w:World):(method (P.types.size+Made.depth) t v name).run P w=.ok (f,v) w:=by
 unfold pR at h;simp only [qa] at h;obtain ⟨i,hi,m,hm,h⟩:=h;split at h
 ·cases h
 ·rename_i hpe;simp only [qa] at h;obtain ⟨p,hp,h⟩:=h;have hpath:m.path.toList=[]:=by
   have:m.path.isEmpty=true:=by simpa using hpe
   simpa using this
  obtain ⟨n,hn⟩:∃ n,P.types.size+Made.depth=n+1:=⟨P.types.size+99,rfl⟩
  rw [hn];obtain ⟨pf,pr⟩:=p;have hinfo:(typeInfo t).run P w=.ok i w:=by simp [typeInfo,hi]
  simp only [method,Sem.run_bind,hinfo,Result.andThen_ok,hm,hpath,follow,Sem.run_pure,hp];cases hu:P.underlying t with
  | none=>rw [hu] at h;cases h
  | some d =>
   rw [hu] at h;have hr:∀ wr,d=d->(receiverAt t (.val v) pr wr).run P w=.ok v w/\pf=f:=by
    intro wr _;cases d<;>cases pr<;>simp only [reduceCtorEq,qb] at h<;>exact ⟨by simp [receiverAt,zw hu,Place.get],h⟩
   simp [(hr _ rfl).1,(hr none rfl).2]
theorem Pf {call:bU} (hc:lY P base call) {st:St} {b:Frame} {a:Act} {ops:Array Oper} {i:Nat} {rest:List Nat} {k:List Item} {cs:List Frame} {w:World} {o:Oper}
 (ho:ops[i]? = some o) (hh:HR P base D θ st.H w) (hd:eO D θ st.az a.defers) (hu:lg D θ b.kind st.up cs) {f:Nat} {vs:List AV} {args:Array Value} (hv:bG D θ vs args.toList)
 (hs:(∃ fn c,P.funcs[f]? = some fn/\fn.body=some c)->step P (lone (b.atR a (.inRegion ops (i::rest)::k)) cs w)=.next (lone (Frame.enter P f args .normal) (b.atR a (.inRegion ops (i::rest)::k)::cs) w))
 {r:bE × AHeap} {u:Option ah} (hr:call f vs none st.H=some (r.1,u,r.2)) (hf:dh D st.H.next r.2.next) :
 Cc P base D θ st b a ops i rest k cs w o (iS st.az st.up r):=by
 obtain ⟨hfn,θ',w',cs',fr,e',g1,g2,g3,g4,g5,g6,g7,g8,g9,g10⟩:=hc D θ st.H w f vs args none r.2 r.1 u .normal (b.atR a (.inRegion ops (i::rest)::k)::cs) hh hv rfl hr hf;have hcs:cs'=b.atR a (.inRegion ops (i::rest)::k)::cs:=g9;subst hcs;have hstep:=hs hfn;have hl:=Lo g4 g2;obtain ⟨e,H'⟩:=r;cases e with
 | ret v =>
  cases e' with
  | returned c =>
   refine ⟨θ',w',c,cs,a.defers,.head hstep (g1.trans (.one ?_)),g6,g7,g5,eO.up g7.ag Up.of hd,rfl,lg.up g7.ag Up.of hu,dM.refl hu⟩;rw [step_leave_returned hl,Hg ho]
  | panicked c=>exact g5.elim
  | outgrown=>exact g5.elim
 | panic ch =>
  cases e' with
  | returned c=>exact g5.elim
  | panicked ps =>
   refine ⟨θ',w',ps,.inRegion ops (i::rest)::k,.head hstep (g1.trans (.one ?_)),g6,g7,g5.1,g5.2⟩;rw [step_leave_panicked hl,Frame.raise_atR]
  | outgrown=>exact g5.elim
theorem KV {f:fC} {first cap:List AV} {c:Value} (h:VR D θ (.fn f first cap) c):∃ x y:List Value,c=.func (dU θ f) x.toArray y.toArray/\bG D θ first x/\bG D θ cap y/\(∀ θ',Ag D θ θ'->dU θ' f=dU θ f):=by
 refine ⟨bM θ first,bM θ cap,h.now.symm,λ θ' ha=>?_,λ θ' ha=>?_,λ θ' ha=>?_⟩ <;>
 ·have:=(h θ' ha).trans h.now.symm;simp only [ao,Value.func.injEq] at this
  first
  | exact this.1
  | (have:=this.2.1;simpa using this)
  | (have:=this.2.2;simpa using this)
set_option maxHeartbeats 1000000 in
theorem Pw (hP:db P) {rt:RT} (hcall:lY P base rt.call) (hround:oY P base rt.round) (hAP:rt.AP=ak P) {o:Oper} {aop:dS} {xs:List Operand} (hok:mw P o xs aop) (hdef:sZ o aop)
 {ops:Array Oper} {i:Nat} {rest:List Nat} {a:Act} (ho:ops[i]? = some o) (hw:Region.wanted o (yielded ops a.tmps)=true) {st:St} {w:World} {b:Frame} {k:List Item} {cs:List Frame} {vs:List AV} {r:eV}
 (hh:HR P base D θ st.H w) (hd:eO D θ st.az a.defers) (hu:lg D θ b.kind st.up cs) (hb:rk D θ b.roundOf rt.ctx.round) (hv:bG D θ vs (xs.map a.eval)) (hr:fh rt st vs aop=some r)
 (hf:dh D st.H.next r.heap.next):Cc P base D θ st b a ops i rest k cs w o r:=by
 have hsame:Up D st.H.next st.H.next=D:=Up.none
 have hnd:aop ≠ .defer->aop ≠ .pure Op.fail->o.semAt b.roundOf a.eval=execOp a.eval o:=λ q1 q2=>Oper.semAt_eq _ _ _ (by
  rcases hdef with h|h|h
  ·exact h
  ·exact absurd h q1
  ·exact absurd h q2)
 cases aop with
 | pure f =>
  simp only [fh,qa,qb] at hr;obtain ⟨v,h1,rfl⟩:=hr;obtain ⟨c,g1,g2⟩:=hok D θ a.eval w vs v (LY a) hv h1;have hsem:o.semAt b.roundOf a.eval=execOp a.eval o:=hnd (by intro q;cases q) (by intro q;injection q with q;subst q;cases h1);refine ⟨θ,w,c,cs,a.defers,.one ?_,by rw [hsame];exact hh,.refl _ _ _ _,by rw [hsame];exact g2,by rw [hsame];exact hd,rfl,by rw [hsame];exact hu,dM.refl hu⟩;rcases g1 with g1|⟨g1,rfl⟩
  ·exact EH ho hw (by rw [hsem];exact g1)
  ·exact I8 ho hw (by rw [hsem];exact g1)
 | read f =>
  simp only [fh,qa,qb] at hr;obtain ⟨v,h1,rfl⟩:=hr;obtain ⟨c,g1,g2⟩:=hok base D θ st.H a.eval w vs v hh hv h1;have hsem:o.semAt b.roundOf a.eval=execOp a.eval o:=hnd (by intro q;cases q) (by intro q;cases q);refine ⟨θ,w,c,cs,a.defers,.one ?_,by rw [hsame];exact hh,.refl _ _ _ _,by rw [hsame];exact g2,by rw [hsame];exact hd,rfl,by rw [hsame];exact hu,dM.refl hu⟩;rcases g1 with g1|⟨g1,rfl⟩
  ·exact EH ho hw (by rw [hsem];exact g1)
  ·exact I8 ho hw (by rw [hsem];exact g1)
 | alloc f =>
  simp only [fh,qa,qb] at hr;obtain ⟨⟨ob,mk⟩,h1,rfl⟩:=hr;obtain ⟨hown,w0,co,ext,c,g1,g2,g3⟩:=hok.1 D θ a.eval w vs ob mk (LY a) hv h1;have hsem:o.semAt b.roundOf a.eval=execOp a.eval o:=hnd (by intro q;cases q) (by intro q;cases q);have hn:¬ D st.H.next:=hf _ (qf _) (x9 _)
  have hag:=Th.eR θ st.H.next w0.heap.size 0 ext hn
  obtain ⟨e1,e2,e3⟩:=Th.dy θ st.H.next w0.heap.size 0 ext
  obtain ⟨k1,k2⟩:=g3 (Up D st.H.next (st.H.next+1)) (θ.add st.H.next w0.heap.size 0 ext) st.H.next hag Up.of (.inr ⟨qf _,x9 _⟩) (by rw [e1,g2.heap]) e2 e3
  have hh0:HR P base D θ st.H w0:=hh.draw g2.heap;refine ⟨θ.add st.H.next w0.heap.size 0 ext,w0.alloc co,c,cs,a.defers,.one (EH ho hw (by rw [hsem];exact g1)),?_,?_,k2,eO.up hag Up.of hd,rfl,lg.up hag Up.of hu,dM.refl hu⟩
  ·refine hh0.alloc hn ?_ ?_ (qf _) ?_ k1
   ·rw [uv];simp
   ·intro j hj;rw [uv,qc (E8 hj)]
   ·simp
  ·exact (bt.draw (w:=w) (w':=w0) g2.heap g2.os g2.tape g2.output).trans (bt.alloc (w:=w0) hh0 hn _ _ _ _) (λ _ h=>h)
 | bQ f =>
  simp only [fh,qa,qb] at hr;obtain ⟨⟨v,H'⟩,h1,rfl⟩:=hr;obtain ⟨θ',w',c,g1,g2,g3,g4⟩:=hok.1 base D θ st.H a.eval w vs v H' hh hv h1 hf;have hsem:o.semAt b.roundOf a.eval=execOp a.eval o:=hnd (by intro q;cases q) (by intro q;cases q);refine ⟨θ',w',c,cs,a.defers,.one ?_,g2,g3,g4,eO.up g3.ag Up.of hd,rfl,lg.up g3.ag Up.of hu,dM.refl hu⟩;rcases g1 with g1|⟨g1,rfl⟩
  ·exact EH ho hw (by rw [hsem];exact g1)
  ·exact I8 ho hw (by rw [hsem];exact g1)
 | eM f =>
  obtain ⟨c,fn,body,h1,h2,rfl,h3,h4⟩:=hok;simp only [fh,cD,jx,qd,qa,qb] at hr;obtain ⟨⟨e,u,H'⟩,hc,rfl⟩:=hr;have hsem:o.semAt b.roundOf a.eval=execOp a.eval o:=Oper.semAt_eq _ _ _ (λ c'=>by rw [h1];simp);refine Pf hcall ho hh hd hu (args:=c.args.map a.eval) (by simpa using hv) (λ _=>NG ho hw ?_) hc (by cases e<;>exact hf);rw [hsem];simp [execOp,h1,resolve,h2,Act.eval,Deferred.ofValue,invoke,Jm hP h3 h4]
 | ec =>
  obtain ⟨c,x,h1,h2,rfl⟩:=hok;have hsem:o.semAt b.roundOf a.eval=execOp a.eval o:=Oper.semAt_eq _ _ _ (λ c'=>by rw [h1];simp);simp only [fh] at hr;split at hr
  ·rename_i f first cap args
   simp only [cD,jx,qd,qa,qb] at hr;obtain ⟨⟨e,u,H'⟩,hc,rfl⟩:=hr;obtain ⟨cf,ca,hce,q1,q2⟩:=hv.cT;simp only [xx,xc] at hce;obtain ⟨rfl,rfl⟩:=hce;obtain ⟨fi,ci,q3,q4,q5,_⟩:=KV q1;refine Pf hcall ho hh hd hu (args:=(fi.toArray++c.args.map a.eval)++ci.toArray) ?_ (λ hfn=>NG ho hw ?_) hc (by cases e<;>exact hf)
   ·simpa using q4.app (q2.app q5)
   ·obtain ⟨fn,body,h3,h4⟩:=hfn;rw [hsem];simp [execOp,h1,resolve,h2,q3,dU,Deferred.ofValue,invoke,Jm hP h3 h4]
  ·rename_i l first args
   simp only [cD,qa,qb] at hr;obtain ⟨⟨e,H'⟩,hc,rfl⟩:=hr;obtain ⟨cf,ca,hce,q1,q2⟩:=hv.cT;simp only [xx,xc] at hce;obtain ⟨rfl,rfl⟩:=hce;obtain ⟨fi,ci,q3,q4,q5,_⟩:=KV q1;have hf':dh D st.H.next H'.next:=by cases e<;>exact hf
   obtain ⟨f,tmps,as,body,g1,θ',w',fin,g2,g3,g4,g5⟩:=hround D θ st.H w l (first++args) (fi.toArray++c.args.map a.eval) H' e (b.atR a (.inRegion ops (i::rest)::k)) cs hh (by simpa using q4.app q2) hc hf';have hstep:=tf (P:=P) (b:=b) (k:=k) (cs:=cs) (w:=w) (rest:=rest) ho hw (l:=θ.aN l) (f:=f) (tmps:=tmps) (as:=as) (body:=body) (w':=w) (by
    rw [hsem];simp [execOp,h1,resolve,h2,q3,dU,Deferred.ofValue,invoke,g1])
   cases e with
   | ret v =>
    obtain ⟨cv,k1,rfl⟩:=g3;refine ⟨θ',w',cv,cs,a.defers,.head hstep ?_,g4,g5,k1,eO.up g5.ag Up.of hd,rfl,lg.up g5.ag Up.of hu,dM.refl hu⟩;rw [Hg ho] at g2;exact g2
   | panic ch =>
    obtain ⟨ps,k0,k1,rfl⟩:=g3;refine ⟨θ',w',ps,.inRegion ops (i::rest)::k,.head hstep ?_,g4,g5,k0,k1⟩;rw [Frame.raise_atR] at g2;exact g2
  ·cases hr
 | invoke m =>
  obtain ⟨c,x,h1,h2,rfl⟩:=hok;have hsem:o.semAt b.roundOf a.eval=execOp a.eval o:=Oper.semAt_eq _ _ _ (λ c'=>by rw [h1];simp);simp only [fh] at hr;split at hr
  ·rename_i t v args;simp only [cD,jx,qd,qa,qb] at hr;obtain ⟨f,hm,⟨e,u,H'⟩,hc,rfl⟩:=hr;obtain ⟨cf,ca,hce,q1,q2⟩:=hv.cT;simp only [xx,xc] at hce;obtain ⟨rfl,rfl⟩:=hce;obtain ⟨cv,q3,q4⟩:=q1.gf;rw [hAP] at hm;have hm':pR P t m=some f:=hm;refine Pf hcall ho hh hd hu (args:=#[cv]++c.args.map a.eval) (by simpa using bG.cons q4 q2) (λ hfn=>NG ho hw ?_) hc (by cases e<;>exact hf);obtain ⟨fn,body,h3,h4⟩:=hfn;rw [hsem];have hx:(#[Value.iface t cv]++c.args.map a.eval)[0]? = some (.iface t cv):=by
    rw [Array.getElem?_append];simp
   have hx2:(#[Value.iface t cv]++c.args.map a.eval).extract 1 (#[Value.iface t cv]++c.args.map a.eval).size=c.args.map a.eval:=by
    apply yL;rw [Array.toList_extract,Array.toList_append];simp [List.extract,xo]
   simp only [execOp,h1,resolve,h2,Sem.run_bind,Sem.run_pure,Result.andThen_ok,invoke,q3,hx,hx2,callMethod,program,Sem.run,xby hm',Jm hP h3 h4]
  ·cases hr
 | recover =>
  obtain ⟨c,h1,h2,rfl⟩:=hok;have hsem:o.semAt b.roundOf a.eval=execOp a.eval o:=Oper.semAt_eq _ _ _ (λ c'=>by rw [h1];simp);simp only [fh] at hr;split at hr
  ·cases hr
  ·rename_i hnone;rw [hnone] at hb;have hb:b.roundOf=none:=hb;have hrun:(o.semAt b.roundOf a.eval).run P w=.ok .recover w:=by
    rw [hsem];obtain ⟨cc,hE⟩:=xY (ρ:=a.eval) h1 h2;rw [hE];rfl
   split at hr
   ·split at hr
    ·rename_i v older hup;injection hr with hr;subst hr
     rw [hup] at hu;cases cs with
     | nil=>exact hu.elim
     | cons c0 cs0 =>
      obtain ⟨hk,hm⟩:=hu;cases hmode:c0.mode with
      | run=>rw [hmode] at hm;exact hm.elim
      | returning=>rw [hmode] at hm;cases hm
      | panicking ps =>
       rw [hmode] at hm;obtain ⟨_,hm⟩:=hm;cases ps with
       | nil=>exact hm.elim
       | cons p ps =>
        obtain ⟨⟨m1,m2,m3⟩,m4⟩:=hm;obtain ⟨pv,pr,pg⟩:=p;simp only at m1 m2 m3;subst m2;subst m3;refine ⟨θ,w,pv,{ c0 with mode:=.panicking ({ v:=pv,recovered:=true }::ps) }::cs0,a.defers,.one ?_,by rw [hsame];exact hh,.refl _ _ _ _,by rw [hsame];exact m1,by rw [hsame];exact hd,by rw [hup];rfl,?_,?_⟩
        ·refine xac ho hw hb hrun ?_;simp [tryRecover,Frame.atR,hk,hmode]
        ·rw [hsame];exact ⟨hk,by simp,⟨m1,rfl,rfl⟩,m4⟩
        ·rw [hup];exact ⟨_,rfl⟩
    ·rename_i hup;injection hr with hr;subst hr
     refine ⟨θ,w,.nilIface,cs,a.defers,.one (qyd ho hw hb hrun ?_),by rw [hsame];exact hh,.refl _ _ _ _,λ _ _=>rfl,by rw [hsame];exact hd,rfl,by rw [hsame];exact hu,dM.refl hu⟩;unfold tryRecover;cases hupc:st.up with
     | none =>
      rw [hupc] at hu;have hk:b.kind=.normal:=hu;simp [Frame.atR,hk]
     | some ch =>
      rw [hupc] at hu;cases cs with
      | nil=>exact hu.elim
      | cons c0 cs0 =>
       obtain ⟨hk,hm⟩:=hu;cases hmode:c0.mode with
       | run=>rw [hmode] at hm;exact hm.elim
       | returning=>simp [Frame.atR,hk,hmode]
       | panicking ps =>
        rw [hmode] at hm;obtain ⟨_,hm⟩:=hm;cases ps with
        | nil=>simp [Frame.atR,hk,hmode]
        | cons p ps =>
         cases ch with
         | nil=>exact hm.elim
         | cons e es =>
          obtain ⟨⟨m1,m2,m3⟩,m4⟩:=hm;obtain ⟨pv,pr,pg⟩:=p;obtain ⟨ev,er⟩:=e;simp only at m2 m3;subst m2;subst m3;cases pr with
          | false=>exact absurd hupc (hup _ _)
          | true=>simp [Frame.atR,hk,hmode]
   ·cases hr
 | defer =>
  obtain ⟨c,x,h1,h2,rfl⟩:=hok;simp only [fh] at hr;split at hr
  ·cases hr
  ·rename_i hnone;rw [hnone] at hb;have hb:b.roundOf=none:=hb;split at hr
   ·rename_i f first cap args
    injection hr with hr;subst hr
    obtain ⟨cf,ca,hce,q1,q2⟩:=hv.cT;simp only [xx,xc] at hce;obtain ⟨rfl,rfl⟩:=hce;obtain ⟨fi,ci,q3,q4,q5,q6⟩:=KV q1;refine ⟨θ,w,undef,cs,{ target:=.fn (.func f) ci.toArray,args:=fi.toArray++c.args.map a.eval }::a.defers,.one ?_,by rw [hsame];exact hh,.refl _ _ _ _,.undef,?_,rfl,by rw [hsame];exact hu,dM.refl hu⟩
    ·refine sA ho hw ?_;rw [hb,Oper.semAt_none];simp [execOp,h1,resolve,h2,q3,dU,Deferred.ofValue]
    ·rw [hsame];exact ⟨⟨_,_,rfl,λ _ _=>rfl,by simpa using q4.app (q2.app q5)⟩,hd⟩
   ·cases hr
 | panic =>
  simp only [fh] at hr;split at hr
  ·rename_i t v;injection hr with hr;subst hr
   obtain ⟨x,rfl,q1⟩:=hv.eI;obtain ⟨cv,q3,q4⟩:=q1.gf;have hrun:(o.semAt b.roundOf a.eval).run P w=.halt (.panic (a.eval x)) w:=by
    rcases hok with ⟨y,h1,hy⟩|⟨c,h1,h2,hy⟩
    ·simp only [xc,kr] at hy;subst hy;rw [Oper.semAt_eq _ _ _ (λ c'=>by rw [h1];simp)];simp [execOp,h1,q3,Instr.panic,goPanic]
    ·rw [Oper.semAt_eq _ _ _ (λ c'=>by rw [h1];simp)];obtain ⟨cc,hE⟩:=xY (ρ:=a.eval) h1 h2;rw [hE,mh hy.symm];simp [builtin,q3,Instr.panic,goPanic]
   refine ⟨θ,w,[{ v:=a.eval x,recovered:=false }],.inRegion ops (i::rest)::k,.one (sY ho hw hrun),by rw [hsame];exact hh,.refl _ _ _ _,by simp,?_⟩;rw [hsame];exact ⟨⟨q1,rfl,rfl⟩,trivial⟩
  ·cases hr
end
end Go.Am
namespace Go.Am
def cL (s:aQ) (tm:T AV):Option Bool :=
 match s.guard with
 | none=>some true
 | some g=>aE g.2 (tm.get g.1)
theorem OZ (s:aQ) (hc:s.eY=false) (rt:RT) (K:St->eC) (st:St) :
 (eG s).run rt K st=(cL s st.tm).bind λ w=>cond w ((iv st.tm s.args).bind λ vs=>(fh rt st vs s.op).bind (oH (dr s.dst) s.cj st K)) (K ⟨dr s.dst .undef st.tm,st.az,st.up,st.H⟩):=by
 have hput:(il s.dst).run=dr s.dst:=by funext v tm;exact P9 _ _ _
 unfold eG cL;rw [hc];cases hg:s.guard with
 | none=>simp only [qd,ql,yT,xeg,hput]
 | some g=>simp only [yT,xeg,hput,T.fZ,T.get]
theorem qu0 (s:aQ) (hc:s.eY=true) {d:Nat} (hd:s.dst=some d) (rt:RT) (K:St->eC) (st:St) :
 (eG s).run rt K st=(cL s st.tm).bind λ w=>cond w ((iv st.tm s.args).bind λ vs=>cond (lI (λ t=>t.get d) st vs s.op) (K st) none) (K st):=by
 have hget:(T.jK (α:=AV) (T.path d)).run=λ t=>t.get d:=by funext t;exact T.fZ _ _
 unfold eG cL;rw [hc,hd];cases hg:s.guard with
 | none=>simp only [qd,ql,yT,hget]
 | some g =>
  simp only [yT,hget];rw [show (T.jK (T.path g.1)).run st.tm=st.tm.get g.1 from T.fZ _ _]
theorem qse (s:aQ) (hc:s.eY=true) (hd:s.dst=none) (rt:RT) (K:St->eC) (st:St):(eG s).run rt K st=none:=by
 unfold eG;rw [hc,hd];cases s.guard<;>rfl
def jY (call:bU):Prop:=∀ f vs up H e up' H',call f vs up H=some (e,up',H')->Ext H H'
def qY (round:fO):Prop:=∀ vs l H e H',round vs l H=some (e,H')->Ext H H'
def nT:ab->Prop
 | .region steps=>∀ s ∈ steps,cE s.op
 | .seq a b=>nT a/\nT b
 | .cond _ a b=>nT a/\nT b
 | .block _ b=>nT b
 | .loop _ b=>nT b
 | .scope b=>nT b
 | _=>True
def u9 (fn:aq):Prop:=nT fn.body /\ ∀ lp ∈ fn.loops,nT lp.assign/\nT lp.body
def LA (AP:gm):Prop:=∀ f fn,AP.func f=some fn->u9 fn
section
variable {rt:RT} (hc:jY rt.call) (hr:qY rt.round)
include hc hr
theorem Ot {op:dS} (ho:cE op) {st:St} {vs:List AV} {r:eV} (h:fh rt st vs op=some r):Ext st.H r.heap:=by
 have hres:∀ (q:bE × AHeap),Ext st.H q.2->Ext st.H (iS st.az st.up q).heap:=by
  intro q hq;obtain ⟨e,H'⟩:=q;cases e<;>exact hq
 cases op with
 | pure f=>simp only [fh,qa,qb] at h;obtain ⟨_,_,rfl⟩:=h;exact Ext.refl _
 | read f=>simp only [fh,qa,qb] at h;obtain ⟨_,_,rfl⟩:=h;exact Ext.refl _
 | alloc f=>simp only [fh,qa,qb] at h;obtain ⟨⟨ob,mk⟩,h1,rfl⟩:=h;exact Ext.alloc _ _ (ho _ _ _ h1)
 | bQ f=>simp only [fh,qa,qb] at h;obtain ⟨⟨v,H'⟩,h1,rfl⟩:=h;exact ho _ _ _ _ h1
 | eM f =>
  simp only [fh,cD,jx,qd,qa,qb] at h;obtain ⟨⟨e,u,H'⟩,h1,rfl⟩:=h;exact hres _ (hc _ _ _ _ _ _ _ h1)
 | ec =>
  simp only [fh] at h;split at h
  ·simp only [cD,jx,qd,qa,qb] at h;obtain ⟨⟨e,u,H'⟩,h1,rfl⟩:=h;exact hres _ (hc _ _ _ _ _ _ _ h1)
  ·simp only [cD,qa,qb] at h;obtain ⟨⟨e,H'⟩,h1,rfl⟩:=h;exact hres _ (hr _ _ _ _ _ h1)
  ·cases h
 | invoke m =>
  simp only [fh] at h;split at h
  ·simp only [cD,jx,qd,qa,qb] at h;obtain ⟨_,_,⟨e,u,H'⟩,h1,rfl⟩:=h;exact hres _ (hc _ _ _ _ _ _ _ h1)
  ·cases h
 | recover =>
  simp only [fh] at h;split at h
  ·cases h
  ·split at h
   ·split at h<;>(injection h with h;subst h;exact Ext.refl _)
   ·cases h
 | defer =>
  simp only [fh] at h;split at h
  ·cases h
  ·split at h
   ·injection h with h;subst h;exact Ext.refl _
   ·cases h
 | panic =>
  simp only [fh] at h;split at h
  ·injection h with h;subst h;exact Ext.refl _
  ·cases h
theorem q9g {op:dS} (ho:cE op) {st:St} {vs:List AV} {r:eV} (h:fh rt st vs op=some r):st.H.next<=r.heap.next:=(Ot hc hr ho h).1
theorem xe6 {s:aQ} (ho:cE s.op) {K:St->eC} (hK:∀ st r,K st=some r->Ext st.H r.2.H) {st:St} {r:aF × St} (h:(eG s).run rt K st=some r):Ext st.H r.2.H:=by
 cases hch:s.eY with
 | false =>
  rw [OZ s hch,qa] at h;obtain ⟨w,hw,h⟩:=h;cases w with
  | false =>
   simp only [xa] at h;have h9:=hK _ _ h;exact h9
  | true =>
   simp only [ql,qa] at h;obtain ⟨vs,_,q,hq,h⟩:=h;have h1:=Ot hc hr ho hq;cases q with
   | val v d u H'=>exact Ext.trans h1 (hK _ _ h)
   | panic c H' =>
    simp only [oH,qa,qb] at h;obtain ⟨_,_,rfl⟩:=h;exact h1
 | true =>
  cases hd:s.dst with
  | none=>rw [qse s hch hd] at h;cases h
  | some d =>
   rw [qu0 s hch hd,qa] at h;obtain ⟨w,hw,h⟩:=h;cases w with
   | false =>
    simp only [xa] at h;exact hK _ _ h
   | true =>
    simp only [ql,qa] at h;obtain ⟨vs,_,h⟩:=h;rcases z8 h with ⟨_,h⟩|⟨_,h⟩
    ·exact hK _ _ h
    ·cases h
theorem Ng:∀ {l:List aQ},(∀ s ∈ l,cE s.op) -> ∀ {st:St} {r:aF × St},(eP l).run rt st=some r->Ext st.H r.2.H
 | [],_,st,r,h=>by injection h with h;subst h;exact Ext.refl _
 | s::l,ho,st,r,h=>xe6 hc hr (ho s (by simp)) (λ st r h=>Ng (λ s hs=>ho s (by simp [hs])) h) h
theorem q79 {l:List aQ} (hl:∀ s ∈ l,cE s.op) {st:St} {r:aF × St} (h:(eP l).run rt st=some r):st.H.next<=r.2.H.next:=(Ng hc hr hl h).1
omit hc hr in
theorem Mv {body:St->eC} (hb:∀ st r,body st=some r->Ext st.H r.2.H) (aj:Option (List Nat)):∀ (n:Nat) (st:St) (r:aF × St),eF aj body n st=some r->Ext st.H r.2.H
 | 0,st,r,h=>by cases h
 | n+1,st,r,h=>by
  simp only [eF,qa] at h;obtain ⟨q,hq,h⟩:=h;have h1:=hb _ _ hq;have h1:Ext st.H q.2.H:=by cases aj<;>exact h1
  split at h
  ·exact Ext.trans h1 (Mv hb aj n _ _ h)
  ·injection h with h;subst h;exact h1
omit hc hr in
theorem xbd {body:St->eC} (hb:∀ st r,body st=some r->Ext st.H r.2.H) (aj:Option (List Nat)) (n:Nat) (st:St) (r:aF × St) (h:eF aj body n st=some r):st.H.next<=r.2.H.next:=(Mv hb aj n st r h).1
omit hr in
theorem ON {st:St} {k:Nat} {H0:AHeap} {az:List aC} {d:Nat} {v:AV} {r:aF × St} (h0:Ext st.H H0) (h:fV rt.call rt.round rt.ctx st k H0 az d v=some r):Ext st.H r.2.H:=by
 unfold fV at h;split at h
 ·simp only [cD,jx,qd,qa] at h;obtain ⟨⟨e,u,H'⟩,h1,h⟩:=h;have h2:=(h0.trans (Ext.alloc _ _ rfl)).trans (hc _ _ _ _ _ _ _ h1);unfold Ga at h;split at h
  ·injection h with h;subst h;exact h2
  ·split at h
   ·cases h
   ·rename_i hg;injection h with h;subst h;exact h2.trans (Ext.set hg _ (λ _=>rfl))
   ·cases h
 ·cases h
omit hr in
theorem q7t {st:St} {k:Nat} {H0:AHeap} {az:List aC} {d:Nat} {v:AV} {r:aF × St} (h0:Ext st.H H0) (h:fV rt.call rt.round rt.ctx st k H0 az d v=some r):st.H.next<=r.2.H.next:=(ON hc h0 h).1
theorem rQ:∀ {c:ab},nT c -> ∀ {st:St} {r:aF × St},(bH c).run rt st=some r->Ext st.H r.2.H
 | .skip,_,st,r,h=>by injection h with h;subst h;exact Ext.refl _
 | .label _,_,st,r,h=>by injection h with h;subst h;exact Ext.refl _
 | .region steps,hm,st,r,h=>Ng hc hr hm h
 | .seq a b,hm,st,r,h=>by
  simp only [bH,qa] at h;obtain ⟨q,hq,h⟩:=h;have h1:=rQ hm.1 hq;unfold oB at h;split at h
  ·exact Ext.trans h1 (rQ hm.2 h)
  ·injection h with h;subst h;exact h1
 | .cond c a b,hm,st,r,h=>by
  simp only [bH,qa] at h;obtain ⟨v,hv,h⟩:=h;unfold oE at h;split at h
  ·rcases z8 h with ⟨_,h⟩|⟨_,h⟩
   ·exact rQ hm.1 h
   ·exact rQ hm.2 h
  ·cases h
 | .block id b,hm,st,r,h=>by
  simp only [bH,qa] at h;obtain ⟨q,hq,h⟩:=h;have h1:=rQ (c:=b) hm hq;unfold gF at h;split at h<;>(injection h with h;subst h;exact h1)
 | .loop aj b,hm,st,r,h=>Mv (λ st r h=>rQ (c:=b) hm h) aj _ _ _ h
 | .exit _,_,st,r,h=>by injection h with h;subst h;exact Ext.refl _
 | .goto _,_,st,r,h=>by injection h with h;subst h;exact Ext.refl _
 | .ret,_,st,r,h=>by injection h with h;subst h;exact Ext.refl _
 | .stuck,_,st,r,h=>by cases h
 | .scope b,hm,st,r,h=>by
  simp only [bH,qa] at h;obtain ⟨q,hq,h⟩:=h;have h1:=rQ (c:=b) hm hq;unfold ig at h;split at h
  ·rcases z8 h with ⟨_,h⟩|⟨_,h⟩
   ·cases h
   ·injection h with h;subst h;exact h1
  ·injection h with h;subst h;exact h1
 | .rangeFunc f k,_,st,r,h=>by
  simp only [bH,qa] at h;obtain ⟨v,hv,h⟩:=h;unfold lS at h;split at h
  ·exact ON hc (Ext.alloc _ _ rfl) h
  ·simp only [qa] at h;obtain ⟨d,_,h⟩:=h;exact ON hc (Ext.refl _) h
theorem Gv {c:ab} (hm:nT c) {st:St} {r:aF × St} (h:(bH c).run rt st=some r):st.H.next<=r.2.H.next:=(rQ hc hr hm h).1
end
theorem L9 {call:bU} (hc:jY call) {rs:List di} {tm:T AV}:∀ {ds:List aC} {m:Option ah} {H:AHeap} {r:bE × AHeap},bY call rs tm ds m H=some r->Ext H r.2
 | [],none,H,r,h=>by
  simp only [bY,qa,qb] at h;obtain ⟨_,_,rfl⟩:=h;exact Ext.refl _
 | [],some c,H,r,h=>by injection h with h;subst h;exact Ext.refl _
 | .ic b::ds,m,H,r,h=>by
  simp only [bY] at h;split at h
  ·rename_i hg;exact (Ext.set hg _ (λ _=>rfl)).trans (L9 (H:=H.set b _) hc h)
  ·cases h
 | .fn (.func f) args::ds,m,H,r,h=>by
  simp only [bY,qa] at h;obtain ⟨⟨e,u,H'⟩,h1,h⟩:=h;have h2:=hc _ _ _ _ _ _ _ h1;split at h
  ·simp only [qa] at h;obtain ⟨m',_,h⟩:=h;exact Ext.trans h2 (L9 hc h)
  ·cases h
 | .fn (.yield _) _::_,_,_,_,h=>by simp [bY] at h
theorem qw9 {call:bU} (hc:jY call) {rs:List di} {tm:T AV} {ds:List aC} {m:Option ah} {H:AHeap} {r:bE × AHeap} (h:bY call rs tm ds m H=some r):H.next<=r.2.next:=(L9 hc h).1
theorem q74 {H H':AHeap} {l:Nat} {s:iK} {p:Option gh} (h:dm H l s p=some H'):Ext H H':=by
 unfold dm at h;split at h
 ·rename_i hg;injection h with h;subst h;exact Ext.set hg _ (λ _=>rfl)
 ·cases h
theorem q0e {H H':AHeap} {l:Nat} (h:beginRound H l=some H'):Ext H H':=by
 unfold beginRound at h;split at h
 ·rename_i hg;injection h with h;subst h;exact Ext.set hg _ (λ _=>rfl)
 ·cases h
theorem q59 {H H':AHeap} {l:Nat} {s:iK} {p:Option gh} (h:dm H l s p=some H'):H'.next=H.next:=by
 unfold dm at h;split at h
 ·injection h with h;subst h;rfl
 ·cases h
theorem qyg {H H':AHeap} {l:Nat} (h:beginRound H l=some H'):H'.next=H.next:=by
 unfold beginRound at h;split at h
 ·injection h with h;subst h;rfl
 ·cases h
theorem La {AP:gm} (hp:LA AP) {call:bU} (hc:jY call) (m:Nat):∀ n,qY (rounds AP call m n)
 | 0=>λ vs l H e H' h=>by cases h
 | n+1=>λ vs l H e H' h=>by
  have ih:=La hp hc m n;simp only [rounds,roundOf] at h;split at h
  ·rename_i st pd f k tm d hg;simp only [qa] at h;obtain ⟨fn,hfn,lp,hlp,tm1,_,q,hq,h⟩:=h;have hlm:nT lp.assign/\nT lp.body:=(hp f fn hfn).2 lp (by rw [gM] at hlp;exact xv hlp);have h1:=rQ (rt:=⟨AP,call,rounds AP call m n,m,⟨some l,f⟩⟩) hc ih hlm.1 hq;have h1:Ext H q.2.H:=h1;split at h
   ·simp only [qa] at h;obtain ⟨H2,hb,q2,hq2,h⟩:=h;have h2:=rQ (rt:=⟨AP,call,rounds AP call m n,m,⟨some l,f⟩⟩) hc ih hlm.2 hq2;have h2:Ext H2 q2.2.H:=h2;have h3:=(h1.trans (q0e hb)).trans h2;rcases z8 h with ⟨_,h⟩|⟨_,h⟩
    ·unfold zQ at h;split at h
     ·injection h with h;injection h with _ h;subst h
      exact h3
     ·simp only [qa,qb,qu] at h;obtain ⟨H3,h4,_,rfl⟩:=h;exact h3.trans (q74 h4)
    ·cases h
   ·cases h
  ·cases h
theorem q3z {AP:gm} (hp:LA AP) {call:bU} (ih:jY call) (n:Nat):jY (zZ AP call n) :=
 λ f vs up H e up' H' h=>by
  simp only [zZ,qa] at h;obtain ⟨fn,hfn,q,hq,h⟩:=h;have h1:=rQ (rt:=⟨AP,call,rounds AP call n n,n,⟨none,f⟩⟩) ih (La hp ih n n) (hp f fn hfn).1 hq;have h1:Ext H q.2.H:=h1;have hfin:∀ m,((bY call fn.results q.2.tm q.2.az m q.2.H).bind λ z=>some (z.1,q.2.up,z.2))=some (e,up',H')->Ext H H':=by
   intro m h;simp only [qa,qb,qu] at h;obtain ⟨z,hz,_,_,rfl⟩:=h;exact Ext.trans h1 (L9 ih hz)
  unfold kI at h;split at h
  ·exact hfin _ h
  ·exact hfin _ h
  ·exact hfin _ h
  ·cases h
theorem qx9 {AP:gm} (hp:LA AP) {told:bU} (ht:jY told):∀ n,jY (gv AP told n)
 | 0=>ht
 | n+1=>λ f vs up H e up' H' h=>by
  simp only [gv] at h;split at h
  ·rename_i r hr;injection h with h;subst h
   exact ht _ _ _ _ _ _ _ hr
  ·exact q3z hp (qx9 hp ht n) n _ _ _ _ _ _ _ h
end Go.Am
namespace Go.Am
abbrev i9:Machine->Prop:=λ _=>True
structure SR (P:Program) (base:Nat) (D:Nat->Prop) (θ:Th) (b:Frame) (nt:Nat) (rd:Option Nat) (st:St) (a:Act) (cs:List Frame) (w:World):Prop where
 heap:HR P base D θ st.H w
 oz:kF D θ st.tm a.tmps
 size:nt<=a.tmps.size
 az:eO D θ st.az a.defers
 up:lg D θ b.kind st.up cs
 round:rk D θ b.roundOf rd
def Out (P:Program) (base:Nat) (D:Nat->Prop) (θ:Th) (b:Frame) (nt:Nat) (rd:Option Nat) (k:List Item) (st:St) (cs:List Frame) (w:World) (m:Machine) (e:aF) (st':St):Prop :=
 ∃ θ' a' w' cs' e',ArrivesIn i9 P m b k cs' e' a' w'/\SR P base (Up D st.H.next st'.H.next) θ' b nt rd st' a' cs' w'/\bt D st.H θ w st'.H θ' w'/\sK (Up D st.H.next st'.H.next) θ' e e' /\
  st'.up.isSome=st.up.isSome/\dM st.up cs cs'
section
variable {P:Program} {base:Nat} {D:Nat->Prop} {θ:Th}
theorem Out.after {b:Frame} {nt:Nat} {rd:Option Nat} {k:List Item} {st c8 st':St} {cs cs1:List Frame} {w w1:World} {m m1:Machine} {e:aF} {θ1:Th} (hs:Steps P m m1)
 (hg:bt D st.H θ w c8.H θ1 w1) (hu:c8.up.isSome=st.up.isSome) (ht:dM st.up cs cs1) (hn:c8.H.next<=st'.H.next)
 (h:Out P base (Up D st.H.next c8.H.next) θ1 b nt rd k c8 cs1 w1 m1 e st'):Out P base D θ b nt rd k st cs w m e st':=by
 obtain ⟨θ',a',w',cs',e',h1,h2,h3,h4,h5,h6⟩:=h;rw [Up.up hg.next hn] at h2 h4;exact ⟨θ',a',w',cs',e',.of_steps (StepsIn.of_steps hs) h1,h2,hg.trans h3 Up.of,h4,h5.trans hu,dM.trans hu ht h6⟩
theorem rJ {α:Type}:∀ {l:List (Option α)} {r:List α},cV l=some r->r.length=l.length /\ ∀ (i:Nat) (x:α),r[i]? = some x->l[i]? = some (some x)
 | [],r,h=>by injection h with h;subst h;exact ⟨rfl,λ i x hx=>by simp at hx⟩
 | y::l,r,h=>by
  simp only [cV,qa,qb] at h;obtain ⟨a,rfl,l',hl,rfl⟩:=h;obtain ⟨h1,h2⟩:=rJ hl;refine ⟨by simp [h1],λ i x hx=>?_⟩;cases i with
  | zero=>simpa using hx
  | succ i=>simpa using h2 i x (by simpa using hx)
theorem F9 {ops:Array Oper} {l:List (List bP × dS)} {safe:Nat->Option (List Nat)} {q:Bool × Nat} {s:aQ} (h:gA ops l safe q=some s) :
 ∃ o a g,ops[q.2]? = some o/\l[q.2]? = some a/\guardOf ops o.guard=some g/\s = { eY:=q.1,dst:=o.dst,guard:=g,args:=a.1,op:=a.2,cj:=safe q.2 }:=by
 simp only [gA,qa,qb] at h;obtain ⟨o,ho,a,ha,g,hg,rfl⟩:=h;exact ⟨o,a,g,ho,ha,hg,rfl⟩
theorem OS {ops:Array Oper} {o:Oper} {s:aQ} (hg:guardOf ops o.guard=some s.guard) {tm:T AV} {a:Array Value} (ht:kF D θ tm a) {q:Bool} (h:cL s tm=some q) :
 Region.wanted o (yielded ops a)=q:=by
 unfold cL at h;unfold Region.wanted;cases ho:o.guard with
 | none =>
  rw [ho] at hg;injection hg with hg
  rw [<-hg] at h;injection h
 | some g =>
  obtain ⟨j,want⟩:=g;rw [ho] at hg;simp only [guardOf,qa,qb] at hg;obtain ⟨t,⟨oj,hj1,hj2⟩,hg⟩:=hg;rw [<-hg] at h;simp only at h;have hy:((ops[j]?).bind (·.dst)).bind (a[·]?)=a[t]?:=by rw [hj1];simp [hj2]
  simp only [yielded,hy];unfold aE at h;split at h
  ·rename_i p hp;obtain ⟨c,h1,h2⟩:=ht t _ hp;injection h with h
   rw [h1,<-h2.now];simp only [ao];cases p<;>cases want<;>cases q<;>simp_all
  ·rename_i hp;obtain ⟨c,h1,h2⟩:=ht t _ hp;injection h with h
   rw [h1,<-h2.now];simp only [ao];subst h;rfl
  ·cases h
theorem Bz {nt:Nat} {tm:T AV} {a:Act} {dst:Option Nat} (hd:∀ d,dst=some d->d<nt) (hs:nt<=a.tmps.size) (ht:kF D θ tm a.tmps) {v:AV} {c:Value} (hv:VR D θ v c) :
 kF D θ (dr dst v tm) (a.put dst c).tmps/\nt<=(a.put dst c).tmps.size/\(a.put dst c).defers=a.defers:=by
 cases dst with
 | none=>exact ⟨ht,hs,rfl⟩
 | some d =>
  refine ⟨ht.put (qe (hd d rfl) hs) hv,?_,rfl⟩
  simpa [Act.put] using hs
theorem xca (hP:db P) {rt:RT} (hcall:lY P base rt.call) (hround:oY P base rt.round) (hAP:rt.AP=ak P) (hcm:jY rt.call) (hrm:qY rt.round)
 {ops:Array Oper} {o:Oper} {i:Nat} {rest:List Nat} {s:aQ} {ca:List bP × dS} (ho:ops[i]? = some o) (hca:eW P o=some ca) (hg:guardOf ops o.guard=some s.guard) (h1:s.eY=false) (h2:s.dst=o.dst) (h3:s.args=ca.1) (h4:s.op=ca.2)
 {b:Frame} {nt:Nat} (hdst:jQ nt o=true) {k:List Item} {st:St} {a:Act} {cs:List Frame} {w:World} (hS:SR P base D θ b nt rt.ctx.round st a cs w) {K:St->eC} {r:aF × St}
 (hKm:∀ st r,K st=some r->st.H.next<=r.2.H.next) (h:(eG s).run rt K st=some r) (hf:dh D st.H.next r.2.H.next)
 (hnext:∀ D1 θ1 c8 a1 cs1 w1,SR P base D1 θ1 b nt rt.ctx.round c8 a1 cs1 w1->K c8=some r->dh D1 c8.H.next r.2.H.next->Out P base D1 θ1 b nt rt.ctx.round k c8 cs1 w1 (lone (b.atR a1 (.inRegion ops rest::k)) cs1 w1) r.1 r.2) :
 Out P base D θ b nt rt.ctx.round k st cs w (lone (b.atR a (.inRegion ops (i::rest)::k)) cs w) r.1 r.2:=by
 have hdd:∀ d,o.dst=some d->d<nt:=by
  intro d hd;unfold jQ at hdst;rw [hd] at hdst
  simpa [mW] using hdst
 rw [OZ s h1,qa] at h;obtain ⟨q,hq,h⟩:=h;have hwant:=OS hg hS.oz hq;cases q with
 | false =>
  simp only [xa] at h;obtain ⟨p1,p2,p3⟩:=Bz (dst:=o.dst) hdd hS.size hS.oz (VR.undef (D:=D) (θ:=θ));rw [h2] at h;have hn:=hKm _ _ h;have hsk:=stepR_op_skip (P:=P) (b:=b) (a:=a) (k:=k) (cs:=cs) (w:=w) (ops:=ops) (i:=i) (rest:=rest) (by simp [ho,hwant]);rw [ho] at hsk;refine Out.after (.one hsk) (bt.refl D st.H θ w) rfl (dM.refl hS.up) hn ?_;rw [Up.none];exact hnext D θ ⟨dr o.dst .undef st.tm,st.az,st.up,st.H⟩ _ cs w ⟨hS.heap,p1,p2,by rw [show (a.put ((some o).bind (·.dst)) undef).defers=a.defers from p3];exact hS.az,hS.up,hS.round⟩ h hf
 | true =>
  simp only [ql,qa] at h;obtain ⟨vs,hvs,res,hres,h⟩:=h;obtain ⟨xs,hxs,hok,hdef⟩:=Gd hP hca;rw [h3] at hvs;rw [h4] at hres;have hv:=Bx (a:=a) hS.heap hS.oz hxs hvs;have hm1:=q9g hcm hrm hok.mono hres;have hle:res.heap.next<=r.2.H.next:=by
   cases res with
   | val v d u H'=>exact hKm _ _ h
   | panic c H' =>
    simp only [oH,qa,qb] at h;obtain ⟨_,_,rfl⟩:=h;exact qf _
  have hout:=Pw hP hcall hround hAP hok hdef (rest:=rest) (k:=k) ho hwant hS.heap hS.az hS.up hS.round hv hres (hf.left hle);cases res with
  | val v d u H' =>
   obtain ⟨θ',w',c,cs',ds,g1,g2,g3,g4,g5,g6,g7,g8⟩:=hout;simp only [oH,h2] at h;have hag:=g3.ag;obtain ⟨p1,p2,p3⟩:=Bz (a:={ a with defers:=ds }) (dst:=o.dst) hdd hS.size (hS.oz.up hag Up.of) g4;refine Out.after (c8:=⟨dr o.dst v st.tm,d,u,H'⟩) g1 g3 g6 g8 hle ?_;exact hnext _ θ' _ _ cs' w' ⟨g2,p1,p2,by rw [p3];exact g5,g7,rk.up hag Up.of hS.round⟩ h (hf.right hm1)
  | panic c H' =>
   obtain ⟨θ',w',ps,todo,g1,g2,g3,g4,g5⟩:=hout;simp only [oH,qa,qb] at h;obtain ⟨ds,hds,rfl⟩:=h;have hag:=g3.ag;refine ⟨θ',a,w',cs,.panic ps,⟨todo,StepsIn.of_steps g1⟩,⟨g2,kF.forget ds (hS.oz.up hag Up.of),hS.size,eO.up hag Up.of hS.az,lg.up hag Up.of hS.up,rk.up hag Up.of hS.round⟩,g3,⟨g4,g5⟩,rfl,dM.refl hS.up⟩
theorem M8 (hP:db P) {ops:Array Oper} {l:List (List bP × dS)} (hl:cV (ops.toList.map (eW P))=some l) {safe:Nat->Option (List Nat)} {qs:List (Bool × Nat)} {steps:List aQ}
 (h:cV (qs.map (gA ops l safe))=some steps):∀ s ∈ steps,cE s.op:=by
 intro s hs;obtain ⟨i,hi⟩:=List.getElem?_of_mem hs;have:=(rJ h).2 i s hi;rw [xj,xr] at this;obtain ⟨q,_,hq⟩:=this;obtain ⟨o,a,g,ho,ha,_,rfl⟩:=F9 hq;have:=(rJ hl).2 _ a ha;rw [xj,xr] at this;obtain ⟨o',_,hco⟩:=this;obtain ⟨xs,_,hok,_⟩:=Gd hP hco;exact hok.mono
theorem q13 (hP:db P) {rt:RT} (hcall:lY P base rt.call) (hround:oY P base rt.round) (hAP:rt.AP=ak P) (hcm:jY rt.call) (hrm:qY rt.round)
 {ops:Array Oper} {nt:Nat} (hdst:ops.toList.all (jQ nt)=true) {l:List (List bP × dS)} (hl:cV (ops.toList.map (eW P))=some l) {b:Frame} {k:List Item} {safe:Nat->Option (List Nat)} :
 ∀ (todo:List Nat) {steps:List aQ},cV (todo.map λ i=>gA ops l safe (false,i))=some steps -> ∀ {D:Nat->Prop} {θ:Th} {st:St} {a:Act} {cs:List Frame} {w:World} {r:aF × St},
  SR P base D θ b nt rt.ctx.round st a cs w->(eP steps).run rt st=some r->dh D st.H.next r.2.H.next->Out P base D θ b nt rt.ctx.round k st cs w (lone (b.atR a (.inRegion ops todo::k)) cs w) r.1 r.2
 | [],steps,hs,D,θ,st,a,cs,w,r,hS,h,hf=>by
  injection hs with hs;subst hs
  injection h with h;subst h
  refine ⟨θ,a,w,cs,.normal,StepsIn.one trivial stepR_region_end,by rw [Up.none];exact hS,bt.refl _ _ _ _,trivial,rfl,dM.refl hS.up⟩
 | i::todo,steps,hs,D,θ,st,a,cs,w,r,hS,h,hf=>by
  simp only [xx,cV,qa,qb] at hs;obtain ⟨s,hs1,rest,hs2,rfl⟩:=hs;obtain ⟨o,ca,g,ho,hla,hg,rfl⟩:=F9 hs1;have hco:eW P o=some ca:=by
   have:=(rJ hl).2 _ ca hla;rw [xj,z5,ho] at this
   simpa using this
  have hmem:jQ nt o=true:=by
   rw [yP] at hdst;exact hdst o (by have:=Array.mem_of_getElem? ho;simpa using this)
  have hmono:∀ s ∈ rest,cE s.op:=by
   have h9:cV ((todo.map λ i=>(false,i)).map (gA ops l safe))=some rest:=by rw [vu];exact hs2
   exact M8 hP hl h9
  exact xca hP hcall hround hAP hcm hrm (K:=(eP rest).run rt) ho hco hg rfl rfl rfl rfl hmem hS (λ st r h=>q79 hcm hrm hmono h) h hf
   (λ D1 θ1 c8 a1 cs1 w1 hS1 h1 hf1=>q13 hP hcall hround hAP hcm hrm hdst hl todo hs2 hS1 h1 hf1)
end
end Go.Am
namespace Go.Am
def F3 (P:Program) (base:Nat) (rt:RT):Prop :=
 ∀ (nt id:Nat) (ops:Array Oper) (c:ab),fJ P nt ops true=some c -> ∀ (D:Nat->Prop) θ (b:Frame) k st a cs w r,SR P base D θ b nt rt.ctx.round st a cs w->(bH c).run rt st=some r ->
  dh D st.H.next r.2.H.next->Out P base D θ b nt rt.ctx.round k st cs w (lone (b.atR a (.code (.region id ops true)::k)) cs w) r.1 r.2
section
variable {P:Program} {base:Nat}
theorem xbv {nt:Nat} {ops:Array Oper} {c:ab} (h:fJ P nt ops false=some c):∃ l steps,ops.toList.all (jQ nt)=true/\cV (ops.toList.map (eW P))=some l /\
 cV ((List.range ops.size).map λ i=>gA ops l (λ _=>some []) (false,i))=some steps/\c=.region steps:=by
 unfold fJ at h;split at h
 ·rename_i hd;simp only [qa] at h;obtain ⟨l,hl,h⟩:=h;simp only [jc,ve,qa,qb] at h;obtain ⟨steps,hs,rfl⟩:=h;exact ⟨l,steps,hd,hl,hs,rfl⟩
 ·cases h
theorem q7x (hP:db P) {nt:Nat} {ops:Array Oper} {draw:Bool} {c:ab} (h:fJ P nt ops draw=some c):nT c:=by
 unfold fJ at h;split at h
 ·simp only [qa] at h;obtain ⟨l,hl,h⟩:=h;split at h
  ·rcases z8 h with ⟨_,h⟩|⟨_,h⟩
   ·simp only [qa,qb] at h;obtain ⟨steps,hs,rfl⟩:=h;exact M8 hP hl hs
   ·injection h with h;subst h;trivial
  ·simp only [qa,qb] at h;obtain ⟨steps,hs,rfl⟩:=h;exact M8 (safe:=λ _=>some []) (qs:=(List.range ops.size).map λ i=>(false,i)) hP hl (by rw [vu];exact hs)
 ·cases h
theorem oM (hP:db P) {nt:Nat}:∀ (c:Code) {kk:Nat} {ac:ab} {L:List cP},cn P nt kk c=some (ac,L)->nT ac /\ ∀ lp ∈ L,nT lp.assign/\nT lp.body
 | .skip,kk,ac,L,h=>by injection h with h;injection h with h1 h2;subst h1;subst h2;exact ⟨trivial,by simp⟩
 | .region _ ops draw,kk,ac,L,h=>by
  simp only [cn,qa,qb,qu] at h;obtain ⟨c,hc,rfl,rfl⟩:=h;exact ⟨q7x hP hc,by simp⟩
 | .seq a b,kk,ac,L,h=>by
  simp only [cn,qa,qb,qu] at h;obtain ⟨⟨x,lx⟩,hx,⟨y,ly⟩,hy,rfl,rfl⟩:=h;obtain ⟨a1,a2⟩:=oM hP a hx;obtain ⟨b1,b2⟩:=oM hP b hy;exact ⟨⟨a1,b1⟩,λ lp hl=>by rcases zy.1 hl with hl|hl;exact a2 lp hl;exact b2 lp hl⟩
 | .cond c a b,kk,ac,L,h=>by
  simp only [cn,qa,qb,qu] at h;obtain ⟨cc,_,⟨x,lx⟩,hx,⟨y,ly⟩,hy,rfl,rfl⟩:=h;obtain ⟨a1,a2⟩:=oM hP a hx;obtain ⟨b1,b2⟩:=oM hP b hy;exact ⟨⟨a1,b1⟩,λ lp hl=>by rcases zy.1 hl with hl|hl;exact a2 lp hl;exact b2 lp hl⟩
 | .block id b,kk,ac,L,h=>by
  simp only [cn,qa,qb,qu] at h;obtain ⟨⟨x,lx⟩,hx,rfl,rfl⟩:=h;obtain ⟨b1,b2⟩:=oM hP b hx;exact ⟨b1,b2⟩
 | .loop b,kk,ac,L,h=>by
  simp only [cn,qa,qb,qu] at h;obtain ⟨⟨x,lx⟩,hx,rfl,rfl⟩:=h;obtain ⟨b1,b2⟩:=oM hP b hx;exact ⟨b1,b2⟩
 | .rangeFunc f ps a b,kk,ac,L,h=>by
  simp only [cn,qa] at h;obtain ⟨cc,_,⟨x,lx⟩,hx,⟨y,ly⟩,hy,h⟩:=h;split at h
  ·injection h with h;injection h with h1 h2;subst h1;subst h2
   obtain ⟨a1,a2⟩:=oM hP a hx;obtain ⟨b1,b2⟩:=oM hP b hy;refine ⟨trivial,λ lp hl=>?_⟩;rcases x8.1 hl with rfl|hl
   ·exact ⟨a1,b1⟩
   ·rcases zy.1 hl with hl|hl
    ·exact a2 lp hl
    ·exact b2 lp hl
  ·cases h
 | .exit _,kk,ac,L,h=>by injection h with h;injection h with h1 h2;subst h1;subst h2;exact ⟨trivial,by simp⟩
 | .scope b,kk,ac,L,h=>by
  simp only [cn,qa,qb,qu] at h;obtain ⟨⟨x,lx⟩,hx,rfl,rfl⟩:=h;obtain ⟨b1,b2⟩:=oM hP b hx;exact ⟨b1,b2⟩
 | .label _,kk,ac,L,h=>by injection h with h;injection h with h1 h2;subst h1;subst h2;exact ⟨trivial,by simp⟩
 | .goto _,kk,ac,L,h=>by injection h with h;injection h with h1 h2;subst h1;subst h2;exact ⟨trivial,by simp⟩
 | .ret,kk,ac,L,h=>by injection h with h;injection h with h1 h2;subst h1;subst h2;exact ⟨trivial,by simp⟩
 | .refuse _,kk,ac,L,h=>by injection h with h;injection h with h1 h2;subst h1;subst h2;exact ⟨trivial,by simp⟩
theorem Pj (hP:db P):LA (ak P):=by
 intro f af h;simp only [ak,qa] at h;obtain ⟨fn,_,h⟩:=h;simp only [oh,qa,qb] at h;obtain ⟨b,_,⟨c,L⟩,hc,_,_,rfl⟩:=h;exact oM hP b hc
theorem PZ {nt:Nat}:∀ (c:Code) {kk:Nat} {ac:ab} {L:List cP},cn P nt kk c=some (ac,L) -> ∀ l,xW ac l=(findLabel c l).isSome
 | .skip,kk,ac,L,h,l=>by injection h with h;injection h with h1 h2;subst h1;rfl
 | .region _ ops draw,kk,ac,L,h,l=>by
  simp only [cn,qa,qb,qu] at h;obtain ⟨c,hc,rfl,rfl⟩:=h;unfold fJ at hc;split at hc
  ·simp only [qa] at hc;obtain ⟨l,hl,hc⟩:=hc;split at hc
   ·rcases z8 hc with ⟨_,hc⟩|⟨_,hc⟩
    ·simp only [qa,qb] at hc;obtain ⟨_,_,rfl⟩:=hc;rfl
    ·injection hc with hc;subst hc;rfl
   ·simp only [qa,qb] at hc;obtain ⟨_,_,rfl⟩:=hc;rfl
  ·cases hc
 | .seq a b,kk,ac,L,h,l=>by
  simp only [cn,qa,qb,qu] at h;obtain ⟨⟨x,lx⟩,hx,⟨y,ly⟩,hy,rfl,rfl⟩:=h;have h1:=PZ a hx l;have h2:=PZ b hy l;simp only [xW,findLabel,h1,h2];cases findLabel a l<;>simp
 | .cond c a b,kk,ac,L,h,l=>by
  simp only [cn,qa,qb,qu] at h;obtain ⟨cc,_,⟨x,lx⟩,hx,⟨y,ly⟩,hy,rfl,rfl⟩:=h;rfl
 | .block id b,kk,ac,L,h,l=>by
  simp only [cn,qa,qb,qu] at h;obtain ⟨⟨x,lx⟩,hx,rfl,rfl⟩:=h;rfl
 | .loop b,kk,ac,L,h,l=>by
  simp only [cn,qa,qb,qu] at h;obtain ⟨⟨x,lx⟩,hx,rfl,rfl⟩:=h;rfl
 | .rangeFunc f ps a b,kk,ac,L,h,l=>by
  simp only [cn,qa] at h;obtain ⟨cc,_,⟨x,lx⟩,hx,⟨y,ly⟩,hy,h⟩:=h;split at h
  ·injection h with h;injection h with h1 h2;subst h1;rfl
  ·cases h
 | .exit _,kk,ac,L,h,l=>by injection h with h;injection h with h1 h2;subst h1;rfl
 | .scope b,kk,ac,L,h,l=>by
  simp only [cn,qa,qb,qu] at h;obtain ⟨⟨x,lx⟩,hx,rfl,rfl⟩:=h;rfl
 | .label l',kk,ac,L,h,l=>by
  injection h with h;injection h with h1 h2;subst h1
  simp only [xW,findLabel]
  by_cases e:l'=l
  ·simp [e]
  ·simp only [beq_iff_eq,e,ve,Option.isSome_none];cases hb:Nat.beq l' l with
   | false=>rfl
   | true=>simp only [zz] at hb;exact absurd hb e
 | .goto _,kk,ac,L,h,l=>by injection h with h;injection h with h1 h2;subst h1;rfl
 | .ret,kk,ac,L,h,l=>by injection h with h;injection h with h1 h2;subst h1;rfl
 | .refuse _,kk,ac,L,h,l=>by injection h with h;injection h with h1 h2;subst h1;rfl
theorem q30 {b:Frame} {a:Act} {body:Code} {k:List Item} {cs:List Frame} {w:World}:step P (lone (b.atR a (.inScope body::k)) cs w)=.next (lone (b.atR a k) cs w) :=
 step_lone_go (by simp [stepG,stepG.exec,Frame.atR])
theorem q78 {b:Frame} {a:Act} {body:Code} {k:List Item} {cs:List Frame} {w:World}:step P (lone (b.atR a (.code (.scope body)::k)) cs w)=.next (lone (b.atR a (.code body::.inScope body::k)) cs w) :=
 step_lone_go (by simp [stepG,stepG.exec,Frame.atR])
theorem Out.pass {D:Nat->Prop} {θ:Th} {b:Frame} {nt:Nat} {rd:Option Nat} {x:Item} (hx:x.plain=true) {k:List Item} {st:St} {cs:List Frame} {w:World} {m:Machine} {e:aF} {st':St} (he:yJ e=false)
 (h:Out P base D θ b nt rd (x::k) st cs w m e st'):Out P base D θ b nt rd k st cs w m e st':=by
 obtain ⟨θ',a',w',cs',e',h1,h2,h3,h4,h5,h6⟩:=h;refine ⟨θ',a',w',cs',e',.pass hx (λ _ _=>.inl ?_) h1,h2,h3,h4,h5,h6⟩;intro q;subst q;cases e<;>first|exact h4.elim|cases he
theorem Out.here {D:Nat->Prop} {θ:Th} {b:Frame} {nt:Nat} {rd:Option Nat} {k:List Item} {st:St} {a:Act} {cs:List Frame} {w:World} {m:Machine} {e:aF} {e':Exit} (hS:SR P base D θ b nt rd st a cs w)
 (h1:ArrivesIn i9 P m b k cs e' a w) (h2:sK D θ e e'):Out P base D θ b nt rd k st cs w m e st :=
 ⟨θ,a,w,cs,e',h1,by rw [Up.none];exact hS,bt.refl _ _ _ _,by rw [Up.none];exact h2,rfl,dM.refl hS.up⟩
theorem qsx {w:World} (fn:FuncId) (tmps:Array Value) (ps:Array Tmp) (as body:Code) {l:Nat} {r:Loop} (h:w.heap[l]? = some (.loop r)) :
 (Instr.enterLoop fn tmps ps as body (some l)).run P w=.ok (w.heap.size,[]) (w.alloc (.loop { state:=.ready,pending:=none,fn,tmps,params:=ps,assign:=as,body,defers:=r.defers })):=by
 unfold Instr.enterLoop;simp only [Sem.run_bind,run_getLoop h,run_newObj_alloc,Result.andThen,Sem.run_pure]
theorem q0i {nt:Nat} {c:Code} {kk:Nat} {ac:ab} {L:List cP} (h:cn P nt kk c=some (ac,L)) {l:Nat} (hl:xW ac l=false):findLabel c l=none:=by
 rw [PZ c h l] at hl
 simpa using hl
theorem qwo {b:Frame} {a:Act} {k:List Item} {cs:List Frame} {w:World} (id:Nat):ArrivesIn i9 P (lone (b.atR a (.code (.exit id)::k)) cs w) b k cs (.exit id) a w :=
 ⟨λ _ hk=>.one trivial (stepR_exit hk),λ _ hk=>⟨k,hk,.refl _⟩⟩
theorem qwt {b:Frame} {a:Act} {k:List Item} {cs:List Frame} {w:World} (l:Nat):ArrivesIn i9 P (lone (b.atR a (.code (.goto l)::k)) cs w) b k cs (.goto l) a w :=
 ⟨λ _ hk=>.one trivial (stepR_goto hk),λ _ hk=>⟨k,hk,.refl _⟩⟩
theorem qz1 {b:Frame} {a:Act} {k:List Item} {cs:List Frame} {w:World}:ArrivesIn i9 P (lone (b.atR a (.code .ret::k)) cs w) b k cs .ret a w :=
 ⟨λ hn=>⟨_,.one trivial (stepR_ret hn)⟩,λ _=>⟨k,.refl _⟩⟩
theorem q42 {D:Nat->Prop} {θ:Th} {b:Frame} {a:Act} {k:List Item} {cs:List Frame} {w:World} (p:Option gh):∃ e',sK D θ (nB p) e' /\
 ArrivesIn i9 P (lone (b.atR a (((p.map iA).map Item.code).toList++k)) cs w) b k cs e' a w:=by
 cases p with
 | none=>exact ⟨.normal,trivial,.refl _⟩
 | some j =>
  cases j with
  | exit id=>exact ⟨.exit id,rfl,qwo id⟩
  | goto l=>exact ⟨.goto l,rfl,qwt l⟩
  | ret=>exact ⟨.ret,trivial,qz1⟩
theorem qzx {call:bU} {round:fO} {ctx:Ctx} (hcall:lY P base call) {D:Nat->Prop} {θ:Th} {b:Frame} {nt:Nat} {st:St} {a:Act} {cs:List Frame} {w:World} {k:List Item} {H0:AHeap} {az:List aC} {w0:World} {mark:List Deferred} {d:Nat}
 (hP:db P) {g:Operand} {ps:Array Tmp} {as body:Code} {kk:Nat} {v:AV} {r:aF × St} {θ0:Th}
 (h0:HR P base (Up D st.H.next H0.next) θ0 H0 w0) (g0:bt D st.H θ w H0 θ0 w0) (hnx:st.H.next<=H0.next) (hS:SR P base D θ b nt ctx.round st a cs w) (hv:VR D θ v (a.eval g)) (hd:Up D st.H.next H0.next d)
 (hdf:eO (Up D st.H.next H0.next) θ0 az (mark++a.defers)) (hloop:pD P ctx.fn kk a.tmps.size ps as body) (hfn:b.fn=ctx.fn)
 (he:(Instr.enterLoop b.fn a.tmps ps as body b.roundOf).run P w=.ok (w0.heap.size,mark) (w0.alloc (.loop { state:=.ready,pending:=none,fn:=b.fn,tmps:=a.tmps,params:=ps,assign:=as,body,defers:=θ0.aN d })))
 (hr:fV call round ctx st kk H0 az d v=some r) (hf:dh D st.H.next r.2.H.next) (hm:jY call) :
 Out P base D θ b nt ctx.round k st cs w (lone (b.atR a (.code (.rangeFunc g ps as body)::k)) cs w) r.1 r.2:=by
 unfold fV at hr;split at hr
 ·rename_i f first cap
  simp only [cD,jx,qd,qa] at hr;obtain ⟨⟨e,u,H'⟩,hcl,hr⟩:=hr;have hmono:H0.next+1<=H'.next:=(hm _ _ _ _ _ _ _ hcl).1
  have hrn:r.2.H.next=H'.next/\r.2.az=az/\r.2.tm=st.tm/\r.2.up=st.up:=by
   unfold Ga at hr;split at hr
   ·injection hr with hr;subst hr;exact ⟨rfl,rfl,rfl,rfl⟩
   ·split at hr
    ·cases hr
    ·injection hr with hr;subst hr;exact ⟨rfl,rfl,rfl,rfl⟩
    ·cases hr
  rw [hrn.1] at hf;have hn:¬ Up D st.H.next H0.next H0.next:=λ q=>by
   rcases q with q|⟨_,q⟩
   ·exact hf _ hnx (by omega) q
   ·omega
  -- the record
  have hag0:=g0.ag;have hag:=Th.eR θ0 H0.next w0.heap.size 0 0 hn
  obtain ⟨e1,e2,e3⟩:=Th.dy θ0 H0.next w0.heap.size 0 0
  have hup1:∀ x,D x->Up (Up D st.H.next H0.next) H0.next (H0.next+1) x:=λ x hx=>.inl (.inl hx)
  have hDl:Up (Up D st.H.next H0.next) H0.next (H0.next+1) H0.next:=.inr ⟨qf _,x9 _⟩
  have hagd:Ag D θ (θ0.add H0.next w0.heap.size 0 0):=hag0.trans hag (λ x hx=>.inl hx);have hR:iZ P (Up (Up D st.H.next H0.next) H0.next (H0.next+1)) (θ0.add H0.next w0.heap.size 0 0) H0.next (.loop .ready none ctx.fn kk st.tm d)
   (.loop { state:=.ready,pending:=none,fn:=b.fn,tmps:=a.tmps,params:=ps,assign:=as,body,defers:=θ0.aN d }) :=
   ⟨_,rfl,rfl,rfl,hfn,hS.oz.up hagd hup1,hloop,.inl hd,((hag d hd).1).symm⟩
  have h1:=h0.alloc hn (w':=w0.alloc (.loop { state:=.ready,pending:=none,fn:=b.fn,tmps:=a.tmps,params:=ps,assign:=as,body,defers:=θ0.aN d })) (co:=.loop { state:=.ready,pending:=none,fn:=b.fn,tmps:=a.tmps,params:=ps,assign:=as,body,defers:=θ0.aN d }) (k:=w0.heap.size) (off:=0) (ext:=0) (by rw [uv];simp)
   (λ j hj=>by rw [uv,qc (E8 hj)]) (qf _) (by simp) hR
  have g1:=bt.alloc (base:=base) h0 hn (.loop .ready none ctx.fn kk st.tm d) (.loop { state:=.ready,pending:=none,fn:=b.fn,tmps:=a.tmps,params:=ps,assign:=as,body,defers:=θ0.aN d }) 0 0
  -- the call
  obtain ⟨fi,ci,q3,q4,q5,q6⟩:=KV hv;have hargs:bG (Up (Up D st.H.next H0.next) H0.next (H0.next+1)) (θ0.add H0.next w0.heap.size 0 0) (first++(.fn (.yield H0.next) [] []::cap)) ((fi.toArray ++ #[Value.func (.yield w0.heap.size) #[] #[]])++ci.toArray).toList:=by
   simp only [Array.toList_append,qt];refine (q4.up hagd hup1).app (.cons (λ θ'' h''=>?_) (q5.up hagd hup1));simp only [ao,dU,bM];rw [(h'' _ hDl).1,e1]
  obtain ⟨⟨fn,c,k1,k2⟩,θ',w',cs',fr,e',s1,s2,s3,s4,s5,s6,s7,s8,s9,s10⟩:=hcall _ _ _ _ f _ ((fi.toArray ++ #[Value.func (.yield w0.heap.size) #[] #[]])++ci.toArray) none H' e u .normal
   (b.atR { a with defers:=mark++a.defers } (.inRangeFunc w0.heap.size::k)::cs) h1 hargs rfl hcl (λ x h3 h4 h5=>by
    rw [Up.up hnx (AR _)] at h5;rcases h5 with h5|⟨_,h5⟩
    ·exact hf x (by have:H0.next+1<=x:=h3;omega) h4 h5
    ·have:H0.next+1<=x:=h3;omega)
  have hcs:cs'=b.atR { a with defers:=mark++a.defers } (.inRangeFunc w0.heap.size::k)::cs:=s9;subst hcs;have hstep:=stepR_rangeFunc (P:=P) (b:=b) (a:=a) (k:=k) (cs:=cs) (w:=w) (g:=g) (l:=w0.heap.size) (d:={ target:=.fn (.func f) ci.toArray,args:=fi.toArray ++ #[Value.func (.yield w0.heap.size) #[] #[]] }) he
   (by
   show (Deferred.ofValue (a.eval g) (#[Operand.const (.func (.yield w0.heap.size) #[] #[])].map a.eval)).run P _=_;rw [q3];simp [Deferred.ofValue,dU,Act.eval];rfl) (by
    show (callFunc f (_++ci.toArray)).run P _=_;exact Jm hP k1 k2)
  have hl:=Lo s4 s2;have hupa:Up (Up (Up D st.H.next H0.next) H0.next (H0.next+1)) (H0.next+1) H'.next=Up D st.H.next H'.next:=by
   rw [Up.up (AR _) hmono,Up.up hnx (by omega)]
  have hnext1:(H0.alloc (.loop .ready none ctx.fn kk st.tm d)).next=H0.next+1:=rfl
  rw [hnext1,hupa] at s5 s6 s10;have gall:bt D st.H θ w H' θ' w':=(g0.trans g1 Up.of).trans s7 hup1;have hDup:∀ x,Up D st.H.next H0.next x->Up D st.H.next H'.next x:=λ x hx=>by
   rcases hx with hx|⟨h1,h2⟩
   ·exact .inl hx
   ·exact .inr ⟨h1,by omega⟩
  have hagf:Ag (Up D st.H.next H0.next) θ0 θ':=hag.trans s7.ag (λ x hx=>.inl hx);have hSR:∀ (H'':AHeap) (w'':World),HR P base (Up D st.H.next H'.next) θ' H'' w''->SR P base (Up D st.H.next H'.next) θ' b nt ctx.round { st with az:=az,H:=H'' } { a with defers:=mark++a.defers } cs w'':=λ H'' w'' hh =>
   ⟨hh,hS.oz.up gall.ag Up.of,hS.size,eO.up hagf hDup hdf,lg.up gall.ag Up.of hS.up,rk.up gall.ag Up.of hS.round⟩
  unfold Ga at hr;cases e with
  | panic ch =>
   injection hr with hr;subst hr
   cases e' with
   | returned _=>exact s5.elim
   | outgrown=>exact s5.elim
   | panicked ps' =>
    refine ⟨θ',_,w',cs,.panic ps',⟨.inRangeFunc w0.heap.size::k,StepsIn.of_steps (.head hstep (s1.trans (.one (by rw [step_leave_panicked hl,Frame.raise_atR]))))⟩,hSR _ _ s6,gall,s5,rfl,dM.refl hS.up⟩
  | ret x =>
   cases e' with
   | panicked _=>exact s5.elim
   | outgrown=>exact s5.elim
   | returned cx =>
    have hback:Steps P (lone (b.atR a (.code (.rangeFunc g ps as body)::k)) cs w) (lone (b.atR { a with defers:=mark++a.defers } (.endRangeFunc w0.heap.size::k)) cs w'):=by
     exact .head hstep (s1.trans (.one (by rw [step_leave_returned hl,finish_atR_inRangeFunc])))
    simp only at hr;split at hr
    ·cases hr
    ·rename_i ls p f2 k2' tm2 d2 hnb hget;injection hr with hr;subst hr
     obtain ⟨hDl',co,hco,rl,rfl,r1,r2,r3,r4,r5,r6,r7⟩:=s6.obj _ _ hget;have hblk:θ'.aN H0.next=w0.heap.size:=by rw [(s7.ag _ hDl).1,e1]
     rw [hblk] at hco;have hbusy:rl.state ≠ .busy:=by
      intro q;rw [r1] at q;cases ls with
      | busy=>first|exact hnb _ _ _ _ _ rfl|exact hnb rfl|exact hnb
      | ready=>cases q
      | done=>cases q
      | exhausted=>cases q
     have hend:=run_endLoop (P:=P) hco hbusy;have hend2:=stepR_endRangeFunc (b:=b) (a:={ a with defers:=mark++a.defers }) (k:=k) (cs:=cs) hend;have hset:=s6.set (o':=.loop .exhausted p f2 k2' tm2 d2) (co':=.loop { rl with state:=.exhausted }) hget rfl rfl ⟨_,rfl,rfl,r2,r3,r4,r5,r6,r7⟩;rw [hblk] at hset;have gset:bt (Up D st.H.next H'.next) H' θ' w' (H'.set H0.next (.loop .exhausted p f2 k2' tm2 d2)) θ' (dp w' (θ'.aN H0.next) (.loop { rl with state:=.exhausted })):=bt.set hget rfl (s6.lt hget);rw [hblk] at gset;obtain ⟨e'',k3,k4⟩:=q42 (P:=P) (D:=Up D st.H.next H'.next) (θ:=θ') (b:=b) (a:={ a with defers:=mark++a.defers }) (k:=k) (cs:=cs) (w:=dp w' w0.heap.size (.loop { rl with state:=.exhausted })) p;rw [<-r2] at k4;exact ⟨θ',_,_,cs,e'',.of_steps (StepsIn.of_steps (hback.trans (.one hend2))) k4,hSR _ _ hset,gall.trans gset Up.of,k3,rfl,dM.refl hS.up⟩
    ·cases hr
 ·cases hr
theorem Out.normal {D:Nat->Prop} {θ:Th} {b:Frame} {nt:Nat} {rd:Option Nat} {k:List Item} {st:St} {cs:List Frame} {w:World} {m:Machine} {st':St} (h:Out P base D θ b nt rd k st cs w m .normal st') :
 ∃ θ' a' w' cs',Steps P m (lone (b.atR a' k) cs' w')/\SR P base (Up D st.H.next st'.H.next) θ' b nt rd st' a' cs' w'/\bt D st.H θ w st'.H θ' w'/\st'.up.isSome=st.up.isSome/\dM st.up cs cs':=by
 obtain ⟨θ',a',w',cs',e',h1,h2,h3,h4,h5,h6⟩:=h;cases e'<;>first|exact ⟨θ',a',w',cs',StepsIn.steps h1,h2,h3,h5,h6⟩|exact h4.elim
theorem Out.head {D:Nat->Prop} {θ:Th} {b:Frame} {nt:Nat} {rd:Option Nat} {k:List Item} {st:St} {cs:List Frame} {w:World} {m m1:Machine} {e:aF} {st':St} (hs:step P m=.next m1)
 (h:Out P base D θ b nt rd k st cs w m1 e st'):Out P base D θ b nt rd k st cs w m e st':=by
 obtain ⟨θ',a',w',cs',e',h1,h2,h3,h4,h5,h6⟩:=h;exact ⟨θ',a',w',cs',e',.of_steps (StepsIn.one trivial hs) h1,h2,h3,h4,h5,h6⟩
theorem qr7 (id id':Nat) (k:List Item):exitTo id' (.inBlock id::k)=if id=id' then some k else exitTo id' k:=by
 simp [exitTo]
theorem FW {α:Type} (a b:List α) (i:Nat):nth (a++b) i=if i<a.length then nth a i else nth b (i-a.length):=by
 simp only [gM,List.getElem?_append]
set_option maxHeartbeats 1000000 in
theorem rU (hP:db P) {rt:RT} (hcall:lY P base rt.call) (hround:oY P base rt.round) (hAP:rt.AP=ak P) (hcm:jY rt.call) (hrm:qY rt.round) (hdraw:F3 P base rt)
 {fn:Func} {af:aq} (hfn:P.funcs[rt.ctx.fn]? = some fn) (haf:oh P fn=some af):∀ (c:Code) {kk:Nat} {ac:ab} {L:List cP},cn P fn.ntmps kk c=some (ac,L)->(∀ i l,nth L i=some l->nth af.loops (kk+i)=some l) ->
 ∀ {D:Nat->Prop} {θ:Th} {b:Frame} {k:List Item} {st:St} {a:Act} {cs:List Frame} {w:World} {r:aF × St},SR P base D θ b fn.ntmps rt.ctx.round st a cs w->b.fn=rt.ctx.fn->(bH ac).run rt st=some r ->
  dh D st.H.next r.2.H.next->Out P base D θ b fn.ntmps rt.ctx.round k st cs w (lone (b.atR a (.code c::k)) cs w) r.1 r.2
 | .skip,kk,ac,L,h,hL,D,θ,b,k,st,a,cs,w,r,hS,hb,hr,hf=>by
  injection h with h;injection h with h1 h2;subst h1
  injection hr with hr;subst hr
  exact .here hS (e':=.normal) (StepsIn.one trivial stepR_skip) trivial
 | .label _,kk,ac,L,h,hL,D,θ,b,k,st,a,cs,w,r,hS,hb,hr,hf=>by
  injection h with h;injection h with h1 h2;subst h1
  injection hr with hr;subst hr
  exact .here hS (e':=.normal) (StepsIn.one trivial stepR_label) trivial
 | .exit id,kk,ac,L,h,hL,D,θ,b,k,st,a,cs,w,r,hS,hb,hr,hf=>by
  injection h with h;injection h with h1 h2;subst h1
  injection hr with hr;subst hr
  exact .here hS (qwo id) rfl
 | .goto l,kk,ac,L,h,hL,D,θ,b,k,st,a,cs,w,r,hS,hb,hr,hf=>by
  injection h with h;injection h with h1 h2;subst h1
  injection hr with hr;subst hr
  exact .here hS (qwt l) rfl
 | .ret,kk,ac,L,h,hL,D,θ,b,k,st,a,cs,w,r,hS,hb,hr,hf=>by
  injection h with h;injection h with h1 h2;subst h1
  injection hr with hr;subst hr
  exact .here hS qz1 trivial
 | .refuse _,kk,ac,L,h,hL,D,θ,b,k,st,a,cs,w,r,hS,hb,hr,hf=>by
  injection h with h;injection h with h1 h2;subst h1
  cases hr
 | .region id ops draw,kk,ac,L,h,hL,D,θ,b,k,st,a,cs,w,r,hS,hb,hr,hf=>by
  simp only [cn,qa,qb,qu] at h;obtain ⟨c,hc,rfl,rfl⟩:=h;cases draw with
  | false =>
   obtain ⟨l,steps,h1,h2,h3,rfl⟩:=xbv hc;exact .head stepR_region (q13 hP hcall hround hAP hcm hrm h1 h2 _ h3 hS hr hf)
  | true=>exact hdraw _ id ops c hc D θ b k st a cs w r hS hr hf
 | .seq x y,kk,ac,L,h,hL,D,θ,b,k,st,a,cs,w,r,hS,hb,hr,hf=>by
  simp only [cn,qa,qb,qu] at h;obtain ⟨⟨ax,lx⟩,hx,⟨ay,ly⟩,hy,rfl,rfl⟩:=h;simp only [bH,qa] at hr;obtain ⟨⟨e,c8⟩,hq,hr⟩:=hr;have hmy:=(oM hP y hy).1;have hmx:=Gv hcm hrm (oM hP x hx).1 hq;have hLx:∀ i l,nth lx i=some l->nth af.loops (kk+i)=some l:=λ i l hl=>hL i l (by
   rw [FW,qk]
   ·exact hl
   ·rw [gM] at hl;exact (qv.1 hl).1)
  have hLy:∀ i l,nth ly i=some l->nth af.loops (kk+lx.length+i)=some l:=λ i l hl=>by
   rw [vj];exact hL (lx.length+i) l (by
    show nth (lx++ly) (lx.length+i)=_;rw [FW,qc (by omega),CH];exact hl)
  refine .head stepR_seq ?_
  by_cases he:e=.normal
  ·subst he;simp only [oB] at hr;have hmono:=Gv hcm hrm hmy hr;obtain ⟨θ',a',w',cs',h1,h2,h3,h4,h5⟩:=(rU hP hcall hround hAP hcm hrm hdraw hfn haf x hx hLx (k:=.code y::k) hS hb hq (hf.left hmono)).normal;exact Out.after h1 h3 h4 h5 hmono (rU hP hcall hround hAP hcm hrm hdraw hfn haf y hy hLy h2 hb hr (hf.right hmx))
  ·have hn:yJ e=false:=by cases e<;>first|rfl|exact absurd rfl he
   have hr':r=(e,c8):=by
    cases e<;>first|exact absurd rfl he|(injection hr with hr;exact hr.symm)
   subst hr';exact Out.pass (x:=.code y) rfl hn (rU hP hcall hround hAP hcm hrm hdraw hfn haf x hx hLx hS hb hq hf)
 | .cond c x y,kk,ac,L,h,hL,D,θ,b,k,st,a,cs,w,r,hS,hb,hr,hf=>by
  simp only [cn,qa,qb,qu] at h;obtain ⟨cc,hcc,⟨ax,lx⟩,hx,⟨ay,ly⟩,hy,rfl,rfl⟩:=h;simp only [bH,qa] at hr;obtain ⟨v,hv,hr⟩:=hr;rw [BW] at hv;have hvr:=xI (a:=a) hS.heap hS.oz hcc hv;have hLx:∀ i l,nth lx i=some l->nth af.loops (kk+i)=some l:=λ i l hl=>hL i l (by
   rw [FW,qk]
   ·exact hl
   ·rw [gM] at hl;exact (qv.1 hl).1)
  have hLy:∀ i l,nth ly i=some l->nth af.loops (kk+lx.length+i)=some l:=λ i l hl=>by
   rw [vj];exact hL (lx.length+i) l (by
    show nth (lx++ly) (lx.length+i)=_;rw [FW,qc (by omega),CH];exact hl)
  unfold oE at hr;split at hr
  ·rename_i q;refine .head (stepR_cond hvr.now.symm) ?_;cases q with
   | true=>exact rU hP hcall hround hAP hcm hrm hdraw hfn haf x hx hLx hS hb hr hf
   | false=>exact rU hP hcall hround hAP hcm hrm hdraw hfn haf y hy hLy hS hb hr hf
  ·cases hr
 | .block id x,kk,ac,L,h,hL,D,θ,b,k,st,a,cs,w,r,hS,hb,hr,hf=>by
  simp only [cn,qa,qb,qu] at h;obtain ⟨⟨ax,lx⟩,hx,rfl,rfl⟩:=h;simp only [bH,qa] at hr;obtain ⟨⟨e,c8⟩,hq,hr⟩:=hr;have hst:r.2=c8:=by
   unfold gF at hr;split at hr<;>(injection hr with hr;subst hr;rfl)
  obtain ⟨θ',a',w',cs',e',h1,h2,h3,h4,h5,h6⟩:=rU hP hcall hround hAP hcm hrm hdraw hfn haf x hx hL (k:=.inBlock id::k) hS hb hq (hst ▸ hf);refine .head stepR_block ?_;rw [hst];unfold gF at hr;cases e with
  | normal =>
   injection hr with hr;subst hr
   cases e'<;>try exact h4.elim
   exact ⟨θ',a',w',cs',.normal,StepsIn.trans h1 (.one trivial stepR_inBlock),h2,h3,trivial,h5,h6⟩
  | exit id' =>
   injection hr with hr;subst hr
   cases e'<;>try exact h4.elim
   rename_i j;have h4:j=id':=h4;subst h4;cases hbq:Nat.beq id j with
   | true =>
    simp only [zz] at hbq;subst hbq;exact ⟨θ',a',w',cs',.normal,h1.1 k (by rw [qr7,qk rfl]),h2,h3,trivial,h5,h6⟩
   | false =>
    have hne:¬ id=j:=by intro q;subst q;simp at hbq
    have hx:exitTo j (.inBlock id::k)=exitTo j k:=by rw [qr7,qc hne]
    exact ⟨θ',a',w',cs',.exit j,⟨λ k' hk=>h1.1 k' (by rw [hx];exact hk),λ hr hk=>h1.2 hr (by rw [hx];exact hk)⟩,h2,h3,rfl,h5,h6⟩
  | goto l =>
   injection hr with hr;subst hr
   cases e'<;>try exact h4.elim
   rename_i j;have hx:gotoIn j (.inBlock id::k)=gotoIn j k:=rfl;exact ⟨θ',a',w',cs',.goto j,⟨λ k' hk=>h1.1 k' (by rw [hx];exact hk),λ hr hk=>h1.2 hr (by rw [hx];exact hk)⟩,h2,h3,h4,h5,h6⟩
  | ret =>
   injection hr with hr;subst hr
   cases e'<;>try exact h4.elim
   exact ⟨θ',a',w',cs',.ret,h1,h2,h3,trivial,h5,h6⟩
  | panic ch =>
   injection hr with hr;subst hr
   cases e'<;>try exact h4.elim
   rename_i ps;exact ⟨θ',a',w',cs',.panic ps,h1,h2,h3,h4,h5,h6⟩
 | .scope x,kk,ac,L,h,hL,D,θ,b,k,st,a,cs,w,r,hS,hb,hr,hf=>by
  simp only [cn,qa,qb,qu] at h;obtain ⟨⟨ax,lx⟩,hx,rfl,rfl⟩:=h;simp only [bH,qa] at hr;obtain ⟨⟨e,c8⟩,hq,hr⟩:=hr;have hst:r=(e,c8) /\ ∀ l,e=.goto l->xW ax l=false:=by
   unfold ig at hr;split at hr
   ·rename_i l he;simp only at he;rcases z8 hr with ⟨_,hr⟩|⟨hl,hr⟩
    ·cases hr
    ·injection hr with hr;subst he;exact ⟨hr.symm,λ l' h'=>by injection h' with h';subst h';exact hl⟩
   ·rename_i hne;injection hr with hr;exact ⟨hr.symm,λ l' h'=>(hne l' h').elim⟩
  obtain ⟨rfl,hlab⟩:=hst;obtain ⟨θ',a',w',cs',e',h1,h2,h3,h4,h5,h6⟩:=rU hP hcall hround hAP hcm hrm hdraw hfn haf x hx hL (k:=.inScope x::k) hS hb hq hf;refine .head q78 ?_;cases e with
  | normal =>
   cases e'<;>try exact h4.elim
   exact ⟨θ',a',w',cs',.normal,StepsIn.trans h1 (.one trivial q30),h2,h3,trivial,h5,h6⟩
  | exit id' =>
   cases e'<;>try exact h4.elim
   rename_i j;have hx:exitTo j (.inScope x::k)=exitTo j k:=rfl;exact ⟨θ',a',w',cs',.exit j,⟨λ k' hk=>h1.1 k' (by rw [hx];exact hk),λ hr hk=>h1.2 hr (by rw [hx];exact hk)⟩,h2,h3,h4,h5,h6⟩
  | goto l =>
   cases e'<;>try exact h4.elim
   rename_i j;have h4:j=l:=h4;subst h4;have hfl:=q0i hx (hlab j rfl);have hg:gotoIn j (.inScope x::k)=gotoIn j k:=by simp [gotoIn,hfl]
   exact ⟨θ',a',w',cs',.goto j,⟨λ k' hk=>h1.1 k' (by rw [hg];exact hk),λ hr hk=>h1.2 hr (by rw [hg];exact hk)⟩,h2,h3,rfl,h5,h6⟩
  | ret =>
   cases e'<;>try exact h4.elim
   exact ⟨θ',a',w',cs',.ret,h1,h2,h3,trivial,h5,h6⟩
  | panic ch =>
   cases e'<;>try exact h4.elim
   rename_i ps;exact ⟨θ',a',w',cs',.panic ps,h1,h2,h3,h4,h5,h6⟩
 | .loop x,kk,ac,L,h,hL,D,θ,b,k,st,a,cs,w,r,hS,hb,hr,hf=>by
  simp only [cn,qa,qb,qu] at h;obtain ⟨⟨ax,lx⟩,hx,rfl,rfl⟩:=h;simp only [bH] at hr;refine .head stepR_loop ?_;have hmx:=(oM hP x hx).1;have key:∀ (n:Nat) (D:Nat->Prop) (θ:Th) (st:St) (a:Act) (cs:List Frame) (w:World) (r:aF × St),SR P base D θ b fn.ntmps rt.ctx.round st a cs w->eF none ((bH ax).run rt) n st=some r->dh D st.H.next r.2.H.next ->
   Out P base D θ b fn.ntmps rt.ctx.round k st cs w (lone (b.atR a (.code x::.inLoop x::k)) cs w) r.1 r.2:=by
   intro n
   induction n with
   | zero=>intro D θ st a cs w r _ hr _;cases hr
   | succ n ih =>
    intro D θ st a cs w r hS hr hf;simp only [eF,qa] at hr;obtain ⟨⟨e,c8⟩,hq,hr⟩:=hr;have hm1:=Gv hcm hrm hmx hq
    by_cases he:e=.normal
    ·subst he;simp only at hr;have hmono:=xbd (λ st r h=>rQ hcm hrm hmx h) none n _ _ hr;obtain ⟨θ',a',w',cs',h1,h2,h3,h4,h5⟩:=(rU hP hcall hround hAP hcm hrm hdraw hfn haf x hx hL (k:=.inLoop x::k) hS hb hq (hf.left hmono)).normal;exact Out.after (h1.trans (.one stepR_inLoop)) h3 h4 h5 hmono (ih _ θ' c8 a' cs' w' r h2 hr (hf.right hm1))
    ·have hn:yJ e=false:=by cases e<;>first|rfl|exact absurd rfl he
     have hr':r=(e,c8):=by
      cases e<;>first|exact absurd rfl he|(injection hr with hr;exact hr.symm)
     subst hr';exact Out.pass (x:=.inLoop x) rfl hn (rU hP hcall hround hAP hcm hrm hdraw hfn haf x hx hL hS hb hq hf)
  exact key _ D θ st a cs w r hS hr hf
 | .rangeFunc g ps x y,kk,ac,L,h,hL,D,θ,b,k,st,a,cs,w,r,hS,hb,hr,hf=>by
  simp only [cn,qa] at h;obtain ⟨cg,hcg,⟨ax,lx⟩,hx,⟨ay,ly⟩,hy,h⟩:=h;split at h
  ·rename_i hps;have hps:∀ p ∈ ps.toList,p<fn.ntmps:=λ p hp=>by
    rw [yP] at hps
    simpa [mW] using hps p hp
   injection h with h;injection h with h1 h2;subst h1;subst h2
   simp only [bH,qa] at hr;obtain ⟨v,hv,hr⟩:=hr;rw [BW] at hv;have hvr:=xI (a:=a) hS.heap hS.oz hcg hv;have hloop:pD P rt.ctx.fn kk a.tmps.size ps x y:=by
    refine ⟨fn,af,_,kk+1,kk+1+lx.length,lx,ly,hfn,haf,hL 0 _ rfl,rfl,hps,hS.size,hx,λ i l hl=>?_,hy,λ i l hl=>?_⟩
    ·rw [vj];refine hL (1+i) l ?_;rw [Dc 1 i,gM,zd,<-gM,FW,qk]
     ·exact hl
     ·rw [gM] at hl;exact (qv.1 hl).1
    ·rw [vj,vj];refine hL (1+(lx.length+i)) l ?_;rw [Dc 1 _,gM,zd,<-gM];show nth (lx++ly) (lx.length+i)=_;rw [FW,qc (by omega),CH];exact hl
   unfold lS at hr;split at hr
   ·rename_i hnone;have hro:b.roundOf=none:=by have:=hS.round;rw [hnone] at this;exact this
    have hmono:st.H.next+1<=r.2.H.next:=by
     have:(st.H.alloc (.deferred (some []))).next<=r.2.H.next:=q7t (st:={ st with H:=st.H.alloc (.deferred (some [])) }) hcm (Ext.refl _) hr
     exact this
    have hn:¬ D st.H.next:=hf _ (qf _) hmono
    have hag:=Th.eR θ st.H.next w.heap.size 0 0 hn
    obtain ⟨e1,e2,e3⟩:=Th.dy θ st.H.next w.heap.size 0 0
    have hDn:Up D st.H.next (st.H.next+1) st.H.next:=.inr ⟨qf _,x9 _⟩
    have h0:=hS.heap.alloc hn (w':=w.alloc (.deferred (some []))) (co:=.deferred (some [])) (o:=.deferred (some [])) (k:=w.heap.size) (off:=0) (ext:=0) (by rw [uv];simp)
     (λ j hj=>by rw [uv,qc (E8 hj)]) (qf _) (by simp) ⟨some [],rfl,rfl,rfl⟩
    have g0:=bt.alloc (base:=base) hS.heap hn (.deferred (some [])) (.deferred (some [])) 0 0;refine qzx hcall hP (H0:=st.H.alloc (.deferred (some []))) (az:=.ic st.H.next::st.az) (d:=st.H.next) (mark:=[{ target:=.collected w.heap.size,args:=#[] }]) h0 g0 (AR _) hS hvr hDn ⟨⟨hDn,by rw [e1]⟩,eO.up hag Up.of hS.az⟩ hloop hb ?_ hr hf hcm;rw [hro,run_enterLoop_outer,e1];simp
   ·rename_i l hl;simp only [qa] at hr;obtain ⟨d,hd,hr⟩:=hr;unfold tg at hd;split at hd
    ·rename_i f2 k2 tm2 d2 hget;injection hd with hd;subst hd
     obtain ⟨hDl,co,hco,rl,rfl,r1,r2,r3,r4,r5,r6,r7⟩:=hS.heap.obj _ _ hget;have hro:b.roundOf=some (θ.aN l):=by have:=hS.round;rw [hl] at this;exact this.2
     refine qzx hcall hP (mark:=[]) (d:=d2) (by rw [Up.none];exact hS.heap) (bt.refl _ _ _ _) (qf _) hS hvr (by rw [Up.none];exact r6) (by rw [Up.none];exact hS.az) hloop hb ?_ hr hf hcm;rw [hro,qsx _ _ _ _ _ hco,r7]
    ·cases hd
  ·cases h
end
end Go.Am
