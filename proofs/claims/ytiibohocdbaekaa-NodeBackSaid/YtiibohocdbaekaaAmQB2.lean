/- B2: Effects Effects2 EffMono Ops Step Step2 Run Region Code. -/
import Derived.Test.YtiibohocdbaekaaAmQB1
import Derived.Deep.Upon
import Derived.Lib.UnsafeStr
import Derived.Defers
import Derived.RangeFuncRecord
import Derived.ControlIn
import Derived.RangeFuncIn
set_option linter.unusedVariables false
set_option linter.unusedSimpArgs false
namespace Go.Am
def EffOK (P:Program) (o:Oper) (xs:List Operand) (f:List AV->AHeap->Option (AV × AHeap)):Prop :=
 ∀ base (D:Nat->Prop) θ H (ρ:Operand->Value) w vs v H',HR P base D θ H w->VRL D θ vs (xs.map ρ)->f vs H=some (v,H')->Fresh D H.next H'.next ->
  ∃ θ' w' c,Gives P (execOp ρ o) w c w'/\HR P base (Up D H.next H'.next) θ' H' w'/\Grow D H θ w H' θ' w'/\VR (Up D H.next H'.next) θ' v c
section
variable {P:Program} {base:Nat} {D:Nat->Prop} {θ:Th} {H:AHeap} {w:World}
theorem q0n {fz:Nat × Nat} {o n:Nat} (h:thawed fz o n=true):∀ j,j<n -> ¬ (fz.1<=o+j/\o+j<fz.2):=by
 intro j hj
 unfold thawed at h
 simp only [yn,vl,zz] at h
 omega
theorem qzw (pre cs post new:List Value) (o:Nat) (h:o+new.length<=cs.length) :
 ((pre++cs++post).toArray.toList.take (pre.length+o)++new++(pre++cs++post).toArray.toList.drop (pre.length+o+new.length))=pre++(cs.take o++new++cs.drop (o+new.length))++post:=by
 have e1:(pre++cs++post).take (pre.length+o)=pre++cs.take o:=by
  rw [zj,qep,qep]
  have:pre.length+o-pre.length-cs.length=0:=by omega
  rw [zb (by omega),this,show pre.length+o-pre.length=o from by omega];simp
 have e2:(pre++cs++post).drop (pre.length+o+new.length)=cs.drop (o+new.length)++post:=by
  rw [zj,qbm,List.drop_of_length_le (by omega),qbm]
  have:pre.length+o+new.length-pre.length-cs.length=0:=by omega
  rw [this,show pre.length+o+new.length-pre.length=o+new.length from by omega];simp
 simp only [List.toList_toArray]
 rw [e1,e2];simp
theorem HR.store (hh:HR P base D θ H w) {b o:Nat} {new:List AV} {cs:List Value} {H':AHeap} (hv:VRL D θ new cs) (h:H.store b o new=some H') :
 ∃ w',(storeCells ⟨θ.blk b,θ.off b+o,none⟩ cs).run P w=.ok () w'/\HR P base D θ H' w'/\Grow D H θ w H' θ w'/\H'.next=H.next:=by
 unfold AHeap.store at h
 cases hone:allOne new with
 | false=>rw [hone] at h;cases h
 | true =>
  rw [hone] at h
  simp only [qz] at h
  have h1:=qsy hv hone
  have hlen:=hv.length
  split at h
  ·rename_i c e fz hg
   obtain ⟨hd,co,hc,hr⟩:=hh.obj b _ hg
   obtain ⟨pre,ccs,post,cfz,et,rfl,h2,h3,h4⟩:=hr
   obtain ⟨rfl,rfl,rfl,hfz⟩:=h4 rfl
   have hl3:=h3.length
   cases ht:thawed fz o (lenL new) with
   | false=>rw [ht] at h;cases h
   | true =>
    rw [ht] at h
    simp only [qz,qj0] at h
    split at h
    ·rename_i hle
     simp only [qf,qb] at h;subst h
     have hthaw:=q0n ht
     rw [qgq] at hthaw
     have hst:=qnx (P:=P) (θ.off b+o) cs 0 _ w hc (by simp [<-h2];simp at h2;omega) (fun j hj=>by
      have:=hthaw j (by omega)
      simp only [ya] at h2
      rcases hfz with hfz|⟨f1,f2⟩<;>omega) h1
     rw [kz,<-h2,qzw [] ccs [] cs o (by omega)] at hst
     rw [<-h2]
     refine ⟨_,hst,?_,?_,rfl⟩
     ·refine hh.set hg rfl rfl ⟨[],ccs.take o++cs++ccs.drop (o+cs.length),[],cfz,_,rfl,h2,?_,fun _=>⟨rfl,rfl,rfl,hfz⟩⟩
      rw [hlen]
      exact ((h3.take o).app hv).app (h3.drop _)
     ·exact Grow.set hg rfl (hh.lt hg)
    ·cases h
  ·rename_i m s c e fz hg
   obtain ⟨hd,co,hc,hr⟩:=hh.obj b _ hg
   obtain ⟨pre,ccs,post,cfz,rfl,h2,h3,h4,h5,h6,h7,h8⟩:=hr
   have hl3:=h3.length
   cases ht:thawed fz o (lenL new) with
   | false=>rw [ht] at h;cases h
   | true =>
    rw [ht] at h
    simp only [qz,qj0] at h
    split at h
    ·rename_i hle
     simp only [qf,qb] at h;subst h
     have hthaw:=q0n ht
     rw [qgq] at hthaw
     have hst:=qnx (P:=P) (θ.off b+o) cs 0 _ w hc (by simp;omega) (fun j hj=>by
      have:=hthaw j (by omega)
      unfold FzR at h8
      omega) h1
     rw [kz,<-h2,qzw pre ccs post cs o (by omega)] at hst
     rw [<-h2]
     refine ⟨_,hst,?_,?_,rfl⟩
     ·have hnl:(ccs.take o++cs++ccs.drop (o+cs.length)).length=ccs.length:=by simp;omega
      refine hh.set hg rfl rfl ⟨pre,ccs.take o++cs++ccs.drop (o+cs.length),post,cfz,rfl,h2,?_,?_,h5,h6,h7,?_⟩
      ·rw [hlen]
       exact ((h3.take o).app hv).app (h3.drop _)
      ·simp;omega
      ·rw [hnl];exact h8
     ·exact Grow.set hg rfl (hh.lt hg)
    ·cases h
  ·cases h
theorem q5j {o:Oper} {t:TypeId} {x y:Operand} {n:Nat} (ho:o.op=.store t x y) (hs:sizeT P t=some n):EffOK P o [x,y] (Op.store n):=by
 intro base D θ H ρ w vs v H' hh h hv hfr
 unfold Op.store at hv
 split at hv
 ·rename_i b off a
  obtain ⟨x',y',he,ha,hb⟩:=h.len2
  simp only [xl,vn] at he;obtain ⟨rfl,rfl⟩:=he
  cases hn:Nat.beq (lenL a.cells) n with
  | false=>rw [hn] at hv;cases hv
  | true =>
   rw [hn] at hv
   simp only [qz,qa,qb,qr] at hv
   obtain ⟨H1,h1,rfl,rfl⟩:=hv
   obtain ⟨w',g1,g2,g3,g4⟩:=hh.store hb.cells h1
   have hl:=hb.cells.length
   simp only [qgq,zz] at hn
   have hsz:(ρ y).cells.size=n:=by rw [<-kv];omega
   refine ⟨θ,w',_,.inr ⟨?_,rfl⟩,by rw [g4,Up.none];exact g2,g3,.undef⟩
   simp only [execOp,ho,<-ha.now,conc,Instr.storeAt,Instr.sureAddr,storeVar,Sem.run_bind,Sem.run_pure,Result.andThen_ok,qaj hs,hsz,ne_eq,not_true_eq_false,yl,g1]
 ·cases hv
theorem qk1 {w:World} {r:Nat} {o:Obj} {ms:Array MapEntry} {c:Nat} (h:w.heap[r]? = some (.map ms c)):(setObj r o).run P w=.ok () (wset w r o):=by
 simp [setObj,Sem.run,h,wset]
theorem entsR.erase {D:Nat->Prop} {θ:Th}:∀ (es:List (AV × AV × Nat)) (ms:List MapEntry) (i:Nat),entsR D θ es ms->entsR D θ (es.eraseIdx i) (ms.eraseIdx i)
 | [],[],_,_=>trivial
 | _::_,_::_,0,⟨_,h⟩=>h
 | _::es,_::ms,i+1,⟨h1,h⟩=>⟨h1,entsR.erase es ms i h⟩
 | [],_::_,_,h=>h.elim
 | _::_,[],_,h=>h.elim
theorem HR.setMap (hh:HR P base D θ H w) {b:Nat} {m:List (AV × AV × Nat) × Nat} (hm:H.mapAt b=some m) {es:List (AV × AV × Nat)} {ms:List MapEntry} {c:Nat} (h:entsR D θ es ms) :
 HR P base D θ (H.set b (.map es c)) (wset w (θ.blk b) (.map ms.toArray c))/\Grow D H θ w (H.set b (.map es c)) θ (wset w (θ.blk b) (.map ms.toArray c)):=by
 obtain ⟨hg,_,_⟩:=hh.mapAt hm
 exact ⟨hh.set hg rfl rfl ⟨ms,rfl,h⟩,Grow.set hg rfl (hh.lt hg)⟩
theorem qxh {o:Oper} {c:Call} {xs:List Operand} {t kt e:TypeId} {q:EqTree} (ho:o.op=.call c) (hc:c.callee=.builtin .delete) (hx:c.args.toList=xs) (ht:c.argTypes[0]? = some t)
 (hu:P.underlying t=some (.map kt e)) (hq:keyT P kt=some q):EffOK P o xs (Op.mapDelete q):=by
 intro base D θ H ρ w vs v H' hh h hv hfr
 obtain ⟨cc,hE⟩:=yw (ρ:=ρ) ho hc
 unfold Op.mapDelete at hv
 split at hv
 ·rename_i k
  obtain ⟨x,y,rfl,ha,hb⟩:=h.len2
  cases hok:okTree q k with
  | false=>rw [hok] at hv;cases hv
  | true =>
   rw [hok] at hv
   simp only [qz,qb,qr] at hv
   obtain ⟨rfl,rfl⟩:=hv
   have hk:=fun em=>qzm (em:=em) (w:=w) hq hb hok
   refine ⟨θ,w,.tuple #[],.inl ?_,by rw [Up.none];exact hh,.refl _ _ _ _,.tuple .nil⟩
   rw [hE,wx hx]
   simp [builtin,Builtin.delete_,ht,<-ha.now,conc,zh hu,hk]
 ·rename_i b k
  obtain ⟨x,y,rfl,ha,hb⟩:=h.len2
  cases hok:okTree q k with
  | false=>rw [hok] at hv;cases hv
  | true =>
   rw [hok] at hv
   simp only [qz,qa] at hv
   obtain ⟨m,hm,r,hr,hv⟩:=hv
   obtain ⟨_,_,ms,h1,h2⟩:=hh.mapAt hm
   have hk:=fun em=>qzm (em:=em) (w:=w) hq hb hok
   obtain ⟨r',g1,g2⟩:=qoh (w:=w) hq hb h2 hr
   cases r with
   | none =>
    cases r' with
    | some _=>exact g2.elim
    | none =>
     simp only [qb,qr] at hv
     obtain ⟨rfl,rfl⟩:=hv
     obtain ⟨k1,k2⟩:=hh.setMap hm (c:=m.2) h2
     refine ⟨θ,_,.tuple #[],.inl ?_,by rw [show (H.set b (.map m.1 m.2)).next=H.next from rfl,Up.none];exact k1,k2,.tuple .nil⟩
     rw [hE,wx hx]
     simp [builtin,Builtin.delete_,ht,<-ha.now,conc,zh hu,hk,g1,qey h1,qk1 h1]
   | some p =>
    obtain ⟨i,pv⟩:=p
    cases r' with
    | none=>exact g2.elim
    | some p' =>
     obtain ⟨i',pc⟩:=p'
     obtain ⟨rfl,g2⟩:=g2
     simp only [qb,qr] at hv
     obtain ⟨rfl,rfl⟩:=hv
     obtain ⟨k1,k2⟩:=hh.setMap hm (c:=m.2) (entsR.erase _ _ i h2)
     refine ⟨θ,_,.tuple #[],.inl ?_,by rw [show (H.set b (.map (m.1.eraseIdx i) m.2)).next=H.next from rfl,Up.none];exact k1,k2,.tuple .nil⟩
     rw [hE,wx hx]
     simp [builtin,Builtin.delete_,ht,<-ha.now,conc,zh hu,hk,g1,qey h1,qk1 h1]
 ·cases hv
theorem qy7 {o:Oper} {c:Call} {xs:List Operand} {t kt e:TypeId} (ho:o.op=.call c) (hc:c.callee=.builtin .clear) (hx:c.args.toList=xs) (ht:c.argTypes[0]? = some t)
 (hu:P.underlying t=some (.map kt e)):EffOK P o xs Op.clearMap:=by
 intro base D θ H ρ w vs v H' hh h hv hfr
 obtain ⟨cc,hE⟩:=yw (ρ:=ρ) ho hc
 unfold Op.clearMap at hv
 split at hv
 ·obtain ⟨x,rfl,ha⟩:=h.len1
  simp only [qb,qr] at hv
  obtain ⟨rfl,rfl⟩:=hv
  refine ⟨θ,w,.tuple #[],.inl ?_,by rw [Up.none];exact hh,.refl _ _ _ _,.tuple .nil⟩
  rw [hE,wx hx]
  simp [builtin,Builtin.clear_,ht,<-ha.now,conc,zh hu]
 ·rename_i b
  obtain ⟨x,rfl,ha⟩:=h.len1
  simp only [qa,qb,qr] at hv
  obtain ⟨m,hm,rfl,rfl⟩:=hv
  obtain ⟨_,_,ms,h1,h2⟩:=hh.mapAt hm
  obtain ⟨k1,k2⟩:=hh.setMap hm (c:=m.2) (es:=[]) (ms:=[]) trivial
  refine ⟨θ,_,.tuple #[],.inl ?_,by rw [show (H.set b (.map [] m.2)).next=H.next from rfl,Up.none];exact k1,k2,.tuple .nil⟩
  rw [hE,wx hx]
  simp [builtin,Builtin.clear_,ht,<-ha.now,conc,zh hu,qey h1,qk1 h1]
 ·cases hv
theorem qwy {n:Nat} {a b:AV} {ca cb:Value} (ha:VR D θ a ca) (hb:VR D θ b cb) (h:Op.sameC a b=true):Instr.sameBits n ca cb=true:=by
 rw [<-ha.now,<-hb.now]
 cases a<;>cases b<;>simp only [Op.sameC,reduceCtorEq,je] at h
 ·cases n<;>simpa [conc,Instr.sameBits] using h
 ·simp only [xb,qkh,qft,q2j,qaz] at h
  cases n<;>simp [conc,Instr.sameBits,h]
 ·simp only [qtf,qft] at h
  cases n<;>simp [conc,Instr.sameBits,h,beq_toListBytes]
theorem qwz {n:Nat}:∀ {a b:List AV} {ca cb:List Value},VRL D θ a ca->VRL D θ b cb->Op.sameL a b=true->ca.length=cb.length/\((ca.zip cb).all fun (x,y)=>Instr.sameBits n x y)=true
 | [],[],ca,cb,ha,hb,_=>by rw [ha.nil_inv,hb.nil_inv];simp
 | a::x,b::y,ca,cb,ha,hb,h=>by
  obtain ⟨c1,cs1,rfl,p1,q1⟩:=ha.uncons
  obtain ⟨c2,cs2,rfl,p2,q2⟩:=hb.uncons
  simp only [Op.sameL] at h
  cases hs:Op.sameC a b with
  | false=>rw [hs] at h;cases h
  | true =>
   rw [hs] at h
   obtain ⟨e1,e2⟩:=qwz (n:=n) q1 q2 h
   simp only [jn,e1,wz,List.all_cons,qwy p1 p2 hs,Bool.true_and,e2,and_self]
 | [],_::_,_,_,_,_,h=>by cases h
 | _::_,[],_,_,_,_,h=>by cases h
theorem q4p {n:Nat} {a b:AV} {ca cb:Value} (ha:VR D θ a ca) (hb:VR D θ b cb) (h:Op.stays a b=true):Instr.sameBits (n+1) ca cb=true:=by
 by_cases hagg:(∃ l,a=.agg l) /\ ∃ l,b=.agg l
 ·obtain ⟨⟨l,rfl⟩,⟨l',rfl⟩⟩:=hagg
  obtain ⟨cs,rfl,h1⟩:=ha.agg_inv
  obtain ⟨cs',rfl,h2⟩:=hb.agg_inv
  obtain ⟨e1,e2⟩:=qwz (n:=n) h1 h2 h
  simp [Instr.sameBits,e1]
  simpa using e2
 ·refine qwy ha hb ?_
  cases a<;>cases b<;>first|exact h|exact absurd ⟨⟨_,rfl⟩,⟨_,rfl⟩⟩ hagg
theorem entsR.get {D:Nat->Prop} {θ:Th}:∀ (es:List (AV × AV × Nat)) (ms:List MapEntry) (i:Nat) (e:AV × AV × Nat),entsR D θ es ms->es[i]? = some e -> ∃ m,ms[i]? = some m/\entR D θ e m
 | _::_,m::_,0,e,⟨h,_⟩,he=>⟨m,rfl,by simp at he;subst he;exact h⟩
 | _::es,_::ms,i+1,e,⟨_,h⟩,he=>by simpa using entsR.get es ms i e h (by simpa using he)
 | [],_,_,_,_,he=>by simp at he
 | _::_,[],_,_,h,_=>h.elim
theorem entsR.modify {D:Nat->Prop} {θ:Th} {k v:AV} {ck cv:Value} (hk:VR D θ k ck) (hv:VR D θ v cv):∀ (es:List (AV × AV × Nat)) (ms:List MapEntry) (i:Nat),entsR D θ es ms ->
 entsR D θ (es.modify i fun e=>(k,v,e.2.2)) (ms.modify i fun e=>{ e with key:=ck,val:=cv })
 | [],[],_,_=>by simp [entsR]
 | _::_,_::_,0,⟨⟨_,_,h3⟩,h⟩=>by simpa [entsR] using ⟨⟨hk,hv,h3⟩,h⟩
 | _::es,_::ms,i+1,⟨h1,h⟩=>by simpa [entsR] using ⟨h1,entsR.modify hk hv es ms i h⟩
 | [],_::_,_,h=>h.elim
 | _::_,[],_,h=>h.elim
theorem entsR.push {D:Nat->Prop} {θ:Th} {k v:AV} {ck cv:Value} {c:Nat} (hk:VR D θ k ck) (hv:VR D θ v cv):∀ (es:List (AV × AV × Nat)) (ms:List MapEntry),entsR D θ es ms ->
 entsR D θ (es ++ [(k,v,c)]) (ms ++ [{ key:=ck,val:=cv,born:=c }])
 | [],[],_=>⟨⟨hk,hv,rfl⟩,trivial⟩
 | _::es,_::ms,⟨h1,h⟩=>⟨h1,entsR.push hk hv es ms h⟩
 | [],_::_,h=>h.elim
 | _::_,[],h=>h.elim
theorem qo2 {o:Oper} {t kt e:TypeId} {x y z:Operand} {q:EqTree} (ho:o.op=.mapUpdate t x y z\/o.op=.insert t x y z) (hu:P.underlying t=some (.map kt e)) (hq:keyT P kt=some q) :
 EffOK P o [x,y,z] (Op.mapUpdate q):=by
 intro base D θ H ρ w vs v H' hh h hv hfr
 unfold Op.mapUpdate at hv
 split at hv
 ·rename_i b k va
  obtain ⟨k0,v0,c0,he,ha,hb,hc⟩:=h.three_inv
  simp only [xl,vn] at he;obtain ⟨rfl,rfl,rfl⟩:=he
  cases hok:okTree q k with
  | false=>rw [hok] at hv;cases hv
  | true =>
   rw [hok] at hv
   simp only [qz,qa] at hv
   obtain ⟨m,hm,r,hr,hv⟩:=hv
   obtain ⟨_,_,ms,h1,h2⟩:=hh.mapAt hm
   have hk:=fun em=>qzm (em:=em) (w:=w) hq hb hok
   obtain ⟨r',g1,g2⟩:=qoh (w:=w) hq hb h2 hr
   cases r with
   | none =>
    cases r' with
    | some _=>exact g2.elim
    | none =>
     simp only [qb,qr] at hv
     obtain ⟨rfl,rfl⟩:=hv
     obtain ⟨k1,k2⟩:=hh.setMap hm (c:=m.2+1) (entsR.push (c:=m.2) hb hc _ _ h2)
     refine ⟨θ,_,_,.inr ⟨?_,rfl⟩,by rw [show (H.set b (.map (m.1 ++ [(k,va,m.2)]) (m.2+1))).next=H.next from rfl,Up.none];exact k1,k2,.undef⟩
     rcases ho with ho|ho<;>simp [execOp,ho,Instr.mapUpdate,<-ha.now,conc,zh hu,hk,g1,qey h1,qk1 h1]
   | some p =>
    obtain ⟨i,pv⟩:=p
    cases r' with
    | none=>exact g2.elim
    | some p' =>
     obtain ⟨i',pc⟩:=p'
     obtain ⟨rfl,g2⟩:=g2
     simp only [qa,qcq] at hv
     obtain ⟨en,hen,hv⟩:=hv
     cases hst:Op.stays en.1 k with
     | false=>rw [hst] at hv;cases hv
     | true =>
      rw [hst] at hv
      simp only [qz,qb,qr] at hv
      obtain ⟨rfl,rfl⟩:=hv
      obtain ⟨me,hme,⟨e1,e2,e3⟩⟩:=entsR.get _ _ i en h2 hen
      have hsb:Instr.sameBits 10000 me.key (ρ y)=true:=q4p (n:=9999) e1 hb hst
      have hks:(Instr.keyThatStays me.key (ρ y)).run P w=.ok (ρ y) w:=by unfold Instr.keyThatStays;rw [xc hsb];rfl
      obtain ⟨k1,k2⟩:=hh.setMap hm (c:=m.2) (entsR.modify hb hc _ _ i h2)
      refine ⟨θ,_,_,.inr ⟨?_,rfl⟩,by rw [show (H.set b (.map (m.1.modify i fun e=>(k,va,e.2.2)) m.2)).next=H.next from rfl,Up.none];exact k1,k2,.undef⟩
      rcases ho with ho|ho<;>simp [execOp,ho,Instr.mapUpdate,<-ha.now,conc,zh hu,hk,g1,qey h1,qk1 h1,hme,hks]
 ·cases hv
theorem qve {w:World} {r:Nat} {s:ByteArray} {p:Nat} (h:w.heap[r]? = some (.stringIter s p)):(getObj r).run P w=.ok (.stringIter s p) w:=by
 simp [getObj,Sem.run,h]
theorem q1u {w:World} {r:Nat} {o:Obj} {s:ByteArray} {p:Nat} (h:w.heap[r]? = some (.stringIter s p)):(setObj r o).run P w=.ok () (wset w r o):=by
 simp [setObj,Sem.run,h,wset]
theorem q05 {o:Oper} {x:Operand} (ho:o.op=.next x true):EffOK P o [x] Op.nextStr:=by
 intro base D θ H ρ w vs v H' hh h hv hfr
 unfold Op.nextStr at hv
 split at hv
 ·rename_i b
  obtain ⟨x',he,ha⟩:=h.len1
  simp only [xl,vn] at he;subst he
  split at hv
  ·rename_i s p hg
   obtain ⟨hd,co,hc,rfl,hz⟩:=hh.obj b _ hg
   split at hv
   ·rename_i ch hch
    cases hb:Nat.blt ch.toNat 128 with
    | false=>rw [hb] at hv;cases hv
    | true =>
     rw [hb] at hv
     simp only [qz,qb,qr] at hv
     obtain ⟨rfl,rfl⟩:=hv
     rw [qcq] at hch
     have hlt:p<s.length:=(qi.1 hch).1
     have hget:(⟨s.toArray⟩:ByteArray).get! p=ch:=by
      show s.toArray[p]! = ch
      simp [hch]
     have hdec:Utf8.decode ⟨s.toArray⟩ p=(ch.toNat,1):=by
      unfold Utf8.decode
      simp only [kz,hget]
      rw [xc (by simpa [we] using hb)]
     refine ⟨θ,_,.tuple [.bool true,goInt p,.int .i32 ch.toNat].toArray,.inl ?_,by rw [show (H.set b (.strIter s (p+1))).next=H.next from rfl,Up.none];exact hh.set hg rfl rfl ⟨rfl,hz⟩,Grow.set hg rfl (hh.lt hg),.tuple (.cons (.bool _) (.cons (.int _ _) (.one (.int _ _))))⟩
     simp [execOp,ho,Instr.next,<-ha.now,conc,hz,qve hc,q1u hc,qgv,hlt,hdec]
   ·rename_i hch
    simp only [qb,qr] at hv
    obtain ⟨rfl,rfl⟩:=hv
    rw [qcq] at hch
    have hlt:¬ p<s.length:=by have:=List.getElem?_eq_none_iff.1 hch;omega
    refine ⟨θ,w,.tuple [.bool false].toArray,.inl ?_,by rw [Up.none];exact hh,.refl _ _ _ _,.tuple (.one (.bool _))⟩
    simp [execOp,ho,Instr.next,<-ha.now,conc,hz,qve hc,qgv,hlt]
  ·cases hv
 ·cases hv
end
end Go.Am
namespace Go.Am
section
variable {P:Program} {base:Nat} {D:Nat->Prop} {θ:Th} {H:AHeap} {w:World}
theorem HR.sub (h:HR P base D θ H w) {H':AHeap} (hs:∀ b o,H'.get b=some o->H.get b=some o):HR P base D θ H' w :=
 ⟨fun b o hb=>h.obj b o (hs b o hb),fun b b' o o' hb hb'=>h.inj b b' o o' (hs b o hb) (hs b' o' hb'),fun b o hb=>h.above b o (hs b o hb),h.glob,h.low⟩
theorem qxn (H:AHeap) (k:Nat):∀ b o,(H.kill k).get b=some o->H.get b=some o:=by
 intro b o h
 rw [AHeap.get_kill] at h
 split at h
 ·cases h
 ·exact h
theorem Grow.kill (H:AHeap) (k:Nat):Grow D H θ w (H.kill k) θ w :=
 ⟨qe _,Ag.refl _ _,qe _,rfl,rfl,rfl,fun _ _ _=>rfl,fun b o h ho _=>⟨b,o,qxn H k b o h,ho,rfl⟩⟩
theorem HR.move (h:HR P base D θ H w) (hn:¬ D H.next) {b:Nat} {o o':AObj} {co':Obj} {off ext:Nat} (hb:H.get b=some o) (ho:own o=true) (ho':own o'=true)
 (hr:ObjR P (Up D H.next (H.next+1)) (θ.add H.next (θ.blk b) off ext) H.next o' co') :
 HR P base (Up D H.next (H.next+1)) (θ.add H.next (θ.blk b) off ext) ((H.kill b).alloc o') (wset w (θ.blk b) co') /\
 Grow D H θ w ((H.kill b).alloc o') (θ.add H.next (θ.blk b) off ext) (wset w (θ.blk b) co'):=by
 have hlt:=h.lt hb
 have hag:=Th.add_ag θ H.next (θ.blk b) off ext hn
 obtain ⟨e1,e2,e3⟩:=Th.add_new θ H.next (θ.blk b) off ext
 have old:∀ x ox,H.get x=some ox->(θ.add H.next (θ.blk b) off ext).blk x = θ.blk x:=fun x ox hx=>(hag x (h.obj x ox hx).1).1
 have hget:∀ x ox,((H.kill b).alloc o').get x=some ox->(x=H.next/\ox=o')\/(x ≠ H.next/\x ≠ b/\H.get x=some ox):=by
  intro x ox hx
  rw [AHeap.get_alloc,AHeap.get_kill] at hx
  by_cases e:H.next=x
  ·rw [xc (show (H.kill b).next=x from e)] at hx
   injection hx with hx
   exact .inl ⟨e.symm,hx.symm⟩
  ·rw [qo (show ¬ (H.kill b).next=x from e)] at hx
   by_cases e':b=x
   ·rw [xc e'] at hx;cases hx
   ·rw [qo e'] at hx
    exact .inr ⟨fun q=>e q.symm,fun q=>e' q.symm,hx⟩
 refine ⟨⟨fun x ox hx=>?_,fun x y ox oy hx hy hox hne=>?_,fun x ox hx hox=>?_,fun g hg=>?_,by rw [qpy];exact h.low⟩,⟨yx _,hag,by rw [qpy];exact qe _,rfl,rfl,rfl,fun k hk hno=>?_,fun x ox hx hox hlt'=>?_⟩⟩
 ·rcases hget x ox hx with ⟨rfl,rfl⟩|⟨g1,g2,g3⟩
  ·exact ⟨.inr ⟨qe _,xp _⟩,co',by rw [e1,qlr _ _ _ _ hlt];simp,hr⟩
  ·obtain ⟨h1,co,h2,h3⟩:=h.obj x ox g3
   refine ⟨.inl h1,co,?_,h3.up h1 hag Up.of⟩
   rw [old x ox g3,qlr _ _ _ _ hlt,qo (h.inj b x o ox hb g3 ho (fun q=>g2 q.symm))];exact h2
 ·rcases hget x ox hx with ⟨rfl,rfl⟩|⟨g1,g2,g3⟩<;>rcases hget y oy hy with ⟨rfl,rfl⟩|⟨k1,k2,k3⟩
  ·exact absurd rfl hne
  ·rw [e1,old y oy k3];exact h.inj b y o oy hb k3 ho (fun q=>k2 q.symm)
  ·rw [e1,old x ox g3];exact h.inj x b ox o g3 hb hox g2
  ·rw [old x ox g3,old y oy k3];exact h.inj x y ox oy g3 k3 hox hne
 ·rcases hget x ox hx with ⟨rfl,rfl⟩|⟨g1,g2,g3⟩
  ·rw [e1];exact h.above b o hb ho
  ·rw [old x ox g3];exact h.above x ox g3 hox
 ·obtain ⟨h1,h2,h3⟩:=h.glob g hg
  obtain ⟨a1,a2,_⟩:=hag g h1
  exact ⟨.inl h1,a1.trans h2,a2.trans h3⟩
 ·rw [qlr _ _ _ _ hlt,qo (hno b o hb ho)]
 ·rcases hget x ox hx with ⟨rfl,rfl⟩|⟨g1,g2,g3⟩
  ·exact ⟨b,o,hb,ho,e1.symm⟩
  ·exact ⟨x,ox,g3,hox,(old x ox g3).symm⟩
theorem src_of (hh:HR P base D θ H w) {tx:TypeId} (hk:(∃ e',P.underlying tx=some (.slice e'))\/P.underlying tx=some .string) {x:AV} {c:Value} {size k:Nat} {l:List AV}
 (hx:VR D θ x c) (hl:lenV x=some k) (h:firstCells H size k x=some l) (h1:allOne l=true):∃ cs,Src P size tx c k cs w/\VRL D θ l cs:=by
 cases hs:isStr x with
 | true =>
  cases x<;>try (cases hs)
  rename_i s
  simp only [lenV,qgq,qb] at hl;subst hl
  simp only [firstCells,List.take_length] at h
  cases hsz:Nat.beq size 1 with
  | false=>rw [hsz] at h;cases h
  | true =>
  rw [hsz] at h
  simp only [qz,qb] at h;subst h
  simp only [zz] at hsz;subst hsz
  rw [<-hx.now]
  show ∃ cs,Src P 1 tx (.string ⟨s.toArray⟩) s.length cs w/\VRL D θ _ cs
  have hf:∀ w:World,(Builtin.firstCells 1 s.length (.string ⟨s.toArray⟩)).run P w=.ok (s.map fun b=>Value.int .u8 b.toNat).toArray w:=by
   intro w
   have:=firstCells_string (P:=P) ⟨s.toArray⟩ w
   rw [qgv] at this
   exact this
  refine ⟨s.map fun b=>.int .u8 b.toNat,⟨hk,fun w'=>?_,hf w,hf w.drew,by simp,fun u hu=>?_⟩,fun θ' _=>by rw [qbf,yg];rfl⟩
  ·show Result.ok (ByteArray.size ⟨s.toArray⟩) w'=_
   rw [qgv]
  ·obtain ⟨_,_,rfl⟩:=List.mem_map.1 hu;rfl
 | false =>
  obtain ⟨a,len,cap,rfl,rfl,hcase⟩:=qf4 hh hx hl (qe _) hs h
  obtain ⟨a',len',cap',hc',rfl,hcase'⟩:=qf4 (hh.draw (w':=w.drew) rfl) hx hl (qe _) hs h
  injection hc' with hc1 hc2 hc3;subst hc1;subst hc3
  rcases hcase with ⟨rfl,rfl,_,hk0⟩|⟨ad,cs,rfl,g1,g2,g3⟩
  ·exact ⟨[],⟨hk,fun _=>rfl,rfl,rfl,by simp [hk0],by simp⟩,.nil⟩
  ·rcases hcase' with ⟨h0,_⟩|⟨ad',cs',he,k1,k2,k3⟩
   ·cases h0
   ·injection he with he;subst he
    have:cs'=cs:=by rw [<-k2.now,<-g2.now]
    subst this
    exact ⟨cs',⟨hk,fun _=>rfl,g1,k1,by rw [g2.length];exact g3,qsy g2 h1⟩,g2⟩
theorem qje {t tx ty e:TypeId} {i:TypeInfo} (ht:P.underlying t=some (.slice e)) (hi:P.info? e=some i) {a:Addr} {sLen sCap n:Nat} {x:Value} {news:List Value} (hs:Src P i.size tx x n news w)
 (hroom:sLen+n<=sCap) {w':World} (hst:(storeCells (a.add (sLen*i.size)) news).run P w=.ok () w') :
 (Builtin.append_ #[t,tx] ty #[.slice (some a) sLen sCap,x]).run P w=.ok (.slice (some a) (sLen+n) sCap) w':=by
 rcases hs.kind with ⟨e',hk⟩|hk<;>simp [Builtin.append_,run_underlying ht,run_underlying hk,sizeOf,typeInfo,hi,hs.len,hroom,hs.cells,hst]
theorem qyw (z:Array Value) (n:Nat):(Builtin.zeroCells z n).size=n*z.size:=by simp [Builtin.zeroCells]
theorem q37 {D':Nat->Prop} {θ':Th} {id m size:Nat} {cells:List AV} {cs rest:List Value} {e:TypeId} {fz:Nat × Nat} (h:VRL D' θ' cells cs) (ho:θ'.off id=0) (hl:cells.length=m*size)
 (hr:rest.length = θ'.ext id*size) (hz:0<size) (hm:m + θ'.ext id<=maxLen):ObjR P D' θ' id (.grown m size cells e fz) (.cells (cs++rest).toArray e (0,0)) :=
 ⟨[],cs,rest,(0,0),by simp,by simp [ho],h,hl,hr,hz,hm,.inl rfl⟩
theorem HR.grow (hh:HR P base D θ H w) (hn:¬ D H.next) {t tx ty e:TypeId} {i:TypeInfo} {z:Value} (ht:P.underlying t=some (.slice e)) (hi:P.info? e=some i) (hz:i.zero=some z) (hzs:z.cells.size=i.size)
 (h0:0<i.size) {bs:Option Addr} {sLen sCap n:Nat} {x:Value} {old new:List AV} {olds news:List Value} (hold:(Builtin.firstCells i.size sLen (.slice bs sLen sCap)).run P w.drew=.ok olds.toArray w.drew)
 (hs:Src P i.size tx x n news w) (hg:sCap<sLen+n) (hf:fits (sLen+n) i.bytes=true) (ho:VRL D θ old olds) (hnw:VRL D θ new news) (hol:old.length=sLen*i.size) (fz:Nat × Nat) :
 ∃ θ' w' c,(Builtin.append_ #[t,tx] ty #[.slice bs sLen sCap,x]).run P w=.ok c w'/\HR P base (Up D H.next (H.next+1)) θ' (grownV H e i.size (sLen+n) (appL old new) fz).2 w' /\
  Grow D H θ w (grownV H e i.size (sLen+n) (appL old new) fz).2 θ' w'/\VR (Up D H.next (H.next+1)) θ' (grownV H e i.size (sLen+n) (appL old new) fz).1 c:=by
 unfold fits at hf
 simp only [xb,vl] at hf
 obtain ⟨f1,f2⟩:=hf
 have hrun:=run_append_grow_src (P:=P) w t tx ty e i z ht hi hz bs sLen sCap olds hold x n news hs hg (by omega) (growslice_fits hg f1)
 have hcap:=grownCap_ge w (sLen+n) sCap e
 have hcm:=grownCap_le_maxLen w (sLen+n) sCap e (by unfold maxLen;omega)
 generalize grownCap w (sLen+n) sCap e=cap at hrun hcap hcm
 have hnl:=hs.newsLen
 have hlen:(appL old new).length=(sLen+n)*i.size:=by
  rw [qdt,qu,hol,<-hnw.length,hnl,yk]
 have hco:(Obj.cells ((olds++news).toArray++Builtin.zeroCells z.cells (cap-(sLen+n))) e:Obj)=.cells ((olds++news)++(Builtin.zeroCells z.cells (cap-(sLen+n))).toList).toArray e (0,0):=by
  congr 1
  apply qfp;simp
 have hag:=Th.add_ag θ H.next w.drew.heap.size 0 (cap-(sLen+n)) hn
 have hup:VRL (Up D H.next (H.next+1)) (θ.add H.next w.drew.heap.size 0 (cap-(sLen+n))) (appL old new) (olds++news):=by
  rw [qdt];exact (ho.app hnw).up hag Up.of
 obtain ⟨e1,e2,e3⟩:=Th.add_new θ H.next w.drew.heap.size 0 (cap-(sLen+n))
 have hR:=q37 (P:=P) (id:=H.next) (m:=sLen+n) (size:=i.size) (e:=e) (fz:=fz) (rest:=(Builtin.zeroCells z.cells (cap-(sLen+n))).toList) hup e2 hlen
  (by rw [e3,kv,qyw,hzs]) h0 (by rw [e3];omega)
 rw [<-hco] at hR
 refine ⟨_,_,_,hrun,HR.alloc (w:=w.drew) (hh.draw rfl) hn ?_ ?_ (qe _) ?_ hR,?_,?_⟩
 ·rw [qe9];simp
 ·intro j hj;rw [qe9,qo (qgg hj)]
 ·show w.drew.heap.size<=(w.drew.alloc _).heap.size
  simp
 ·exact (Grow.draw (w:=w) (w':=w.drew) rfl rfl rfl rfl).trans (Grow.alloc (w:=w.drew) (hh.draw rfl) hn _ _ _ _) (fun _ h=>h)
 ·have hid:(Up D H.next (H.next+1)) H.next:=.inr ⟨qe _,xp _⟩
  have:=VR.gslice (θ:=θ.add H.next w.drew.heap.size 0 (cap-(sLen+n))) (i:=0) (m:=sLen+n) (s:=i.size) (alt:=0) (n:=sLen+n) hid
  intro θ'' hag'
  show conc θ'' (.gslice H.next 0 (sLen+n) i.size 0 (sLen+n))=_
  rw [this θ'' hag']
  simp only [conc,e1,e2,e3,yh,ite_self,kz,qef]
  congr 1
  omega
theorem qhm {b i m s alt n:Nat} {c:Value} (h:VR D θ (.gslice b i m s alt n) c):c=.slice (some ⟨θ.blk b,θ.off b+(if (m-i) + θ.ext b=0 then alt else i*s),none⟩) n ((m-i) + θ.ext b):=by
 rw [<-h.now];rfl
theorem qfw {b o n cp:Nat} {c:Value} (h:VR D θ (.slice b o n cp) c):c=.slice (some ⟨θ.blk b,θ.off b+o,none⟩) n cp:=by
 rw [<-h.now];rfl
theorem HR.regrow (hh:HR P base D θ H w) (hn:¬ D H.next) {t tx ty e:TypeId} {i:TypeInfo} {z:Value} (ht:P.underlying t=some (.slice e)) (hi:P.info? e=some i) (hz:i.zero=some z) (hzs:z.cells.size=i.size)
 (h0:0<i.size) {b k m sLen n:Nat} {c:List AV} {fz fz':Nat × Nat} {alt:Nat} {s x:Value} {old new:List AV} {news:List Value} (hg:H.get b=some (.grown m i.size c e fz))
 (hsv:VR D θ (.gslice b k m i.size alt sLen) s) (hs:Src P i.size tx x n news w) (hnw:VRL D θ new news) (hn0:0<n) (hkm:k+sLen<=m) (hbig:m<k+sLen+n) (hf:fits (sLen+n) i.bytes=true)
 (hold:takeAt c (k*i.size) (sLen*i.size)=some old)
 (hfz:(fz.2<fz.1\/fz.2<=(k+sLen)*i.size)/\((k=0/\fz'=fz)\/(fz.2<=k*i.size/\fz'=cond (Nat.beq fz.1 fz.2) (0,0) (1,0)))) :
 ∃ θ' w' v,(Builtin.append_ #[t,tx] ty #[s,x]).run P w=.ok v w'/\HR P base (Up D H.next (H.next+1)) θ' (grownV (H.kill b) e i.size (sLen+n) (appL old new) fz').2 w' /\
  Grow D H θ w (grownV (H.kill b) e i.size (sLen+n) (appL old new) fz').2 θ' w'/\VR (Up D H.next (H.next+1)) θ' (grownV (H.kill b) e i.size (sLen+n) (appL old new) fz').1 v:=by
 have hsc:=qhm hsv;subst hsc
 obtain ⟨hd,co,hc,pre,cs,post,cfz,rfl,r2,r3,r4,r5,r6,r7,r8⟩:=hh.obj b _ hg
 have hcl:=r3.length
 have hnl:=hs.newsLen
 rw [qce] at hold
 have hle:sLen*i.size<=c.length-k*i.size:=by
  rw [r4,<-Nat.sub_mul];exact zt _ (by omega)
 rw [xc hle] at hold
 injection hold with hold;subst hold
 have hol:VRL D θ ((c.drop (k*i.size)).take (sLen*i.size)) ((cs.drop (k*i.size)).take (sLen*i.size)):=(r3.drop _).take _
 have hkc:(k+sLen)*i.size<=c.length:=by rw [r4];exact zt _ hkm
 have hkadd:(k+sLen)*i.size=k*i.size+sLen*i.size:=yk _ _ _
 by_cases hroom:sLen+n<=(m-k) + θ.ext b
 ·-- in place
  have hcap:¬ (m-k) + θ.ext b=0:=by omega
  rw [qo hcap]
  have htot:(k+sLen+n)*i.size<=cs.length+post.length:=by
   rw [hcl,r4,r5,<-yk];exact zt _ (by omega)
  have hadd2:(k+sLen+n)*i.size=k*i.size+sLen*i.size+n*i.size:=by rw [yk,yk]
  have hst:=qnx (P:=P) (θ.off b+k*i.size+sLen*i.size) news 0 _ w hc (by simp;omega) (fun j hj=>by
   unfold FzR at r8
   obtain ⟨q1,q2⟩:=hfz
   omega) hs.one
  rw [kz] at hst
  have hrun:=qje (ty:=ty) ht hi (a:=⟨θ.blk b,θ.off b+k*i.size,none⟩) (sLen:=sLen) (sCap:=(m-k) + θ.ext b) hs hroom (by rw [qd5];exact hst)
  -- the block's cells from the slice's head on
  have hw:((pre++cs++post).take (θ.off b+k*i.size+sLen*i.size)++news++(pre++cs++post).drop (θ.off b+k*i.size+sLen*i.size+news.length)) =
   (pre++cs.take (k*i.size))++((cs.drop (k*i.size)).take (sLen*i.size)++news)++(pre++cs++post).drop (θ.off b+k*i.size+sLen*i.size+news.length):=by
   have e1:(pre++cs++post).take (θ.off b+k*i.size+sLen*i.size)=pre++cs.take (k*i.size)++(cs.drop (k*i.size)).take (sLen*i.size):=by
    rw [zj,qep,zb (l:=pre) (by omega),zj,show θ.off b+k*i.size+sLen*i.size-pre.length=k*i.size+sLen*i.size from by omega,qep,
     show k*i.size+sLen*i.size-cs.length=0 from by omega,qev,jb,List.take_add]
   rw [e1];simp
  have hdrop:((pre++cs++post).drop (θ.off b+k*i.size+sLen*i.size+news.length)).length=((m-k) + θ.ext b-(sLen+n))*i.size:=by
   rw [vx,qu,qu,hnl,Nat.sub_mul,yk,yk,Nat.sub_mul,hcl,r4,r5,r2]
   have:=zt i.size (show k<=m by omega)
   omega
  have hag:=Th.add_ag θ H.next (θ.blk b) (θ.off b+k*i.size) ((m-k) + θ.ext b-(sLen+n)) hn
  obtain ⟨e1,e2,e3⟩:=Th.add_new θ H.next (θ.blk b) (θ.off b+k*i.size) ((m-k) + θ.ext b-(sLen+n))
  have hsz:((cs.drop (k*i.size)).take (sLen*i.size)).length=sLen*i.size:=by rw [zm,vx];omega
  obtain ⟨g1,g2⟩:=hh.move hn (o':=.grown (sLen+n) i.size (appL ((c.drop (k*i.size)).take (sLen*i.size)) new) e fz') (co':=.cells ((pre++cs.take (k*i.size))++((cs.drop (k*i.size)).take (sLen*i.size)++news)++(pre++cs++post).drop (θ.off b+k*i.size+sLen*i.size+news.length)).toArray e cfz)
   (off:=θ.off b+k*i.size) (ext:=(m-k) + θ.ext b-(sLen+n)) hg rfl rfl ⟨_,_,_,cfz,rfl,by rw [e2,qu,zm];omega,by rw [qdt];exact (hol.app hnw).up hag Up.of,
    by rw [qdt,qu,<-hol.length,hsz,<-hnw.length,hnl,yk],by rw [e3];exact hdrop,h0,by rw [e3];unfold maxLen at r7 ⊢;omega,by
     rw [e2]
     have hlen2:(pre++cs.take (k*i.size)).length+((cs.drop (k*i.size)).take (sLen*i.size)++news).length+((pre++cs++post).drop (θ.off b+k*i.size+sLen*i.size+news.length)).length=pre.length+cs.length+post.length:=by
      rw [<-qu,<-qu,<-hw];simp;omega
     rw [hlen2]
     obtain ⟨_,q|⟨q1,q2⟩⟩:=hfz
     ·obtain ⟨rfl,rfl⟩:=q;simpa using r8
     ·unfold FzR at r8 ⊢
      cases hbq:Nat.beq fz.1 fz.2 with
      | true =>
       simp only [zz] at hbq
       rw [hbq] at q2;simp only [Nat.beq_refl,qz] at q2
       omega
      | false =>
       rw [hbq] at q2;subst q2
       have:¬ fz.1=fz.2:=by intro h;rw [h,Nat.beq_refl] at hbq;cases hbq
       simp only [xy]
       omega⟩
  refine ⟨θ.add H.next (θ.blk b) (θ.off b+k*i.size) ((m-k) + θ.ext b-(sLen+n)),_,_,hrun,?_,?_,?_⟩
  ·rw [show (pre++cs++post).toArray.toList=pre++cs++post from rfl,hw];exact g1
  ·rw [show (pre++cs++post).toArray.toList=pre++cs++post from rfl,hw];exact g2
  ·have hid:(Up D H.next (H.next+1)) H.next:=.inr ⟨qe _,xp _⟩
   have:=VR.gslice (θ:=θ.add H.next (θ.blk b) (θ.off b+k*i.size) ((m-k) + θ.ext b-(sLen+n))) (i:=0) (m:=sLen+n) (s:=i.size) (alt:=0) (n:=sLen+n) hid
   intro θ'' hag'
   show conc θ'' (.gslice H.next 0 (sLen+n) i.size 0 (sLen+n))=_
   rw [this θ'' hag']
   simp only [conc,e1,e2,e3,yh,ite_self,kz,qef]
   congr 1
   omega
 ·have hfc:(Builtin.firstCells i.size sLen (.slice (some ⟨θ.blk b,θ.off b+(if (m-k) + θ.ext b=0 then alt else k*i.size),none⟩) sLen ((m-k) + θ.ext b))).run P w.drew=.ok ((cs.drop (k*i.size)).take (sLen*i.size)).toArray w.drew:=by
   by_cases hl0:sLen=0
   ·subst hl0
    show (loadCells _ (0*i.size)).run P w.drew=_
    rw [yh,qev];rfl
   ·have hcap:¬ (m-k) + θ.ext b=0:=by omega
    rw [qo hcap]
    show (loadCells _ (sLen*i.size)).run P w.drew=_
    have:=q0j (P:=P) (w:=w.drew) (k:=θ.blk b) (fz:=cfz) (e:=e) (arr:=(pre++cs++post).toArray) hc (pre.length+k*i.size) (sLen*i.size) (by simp;omega)
    rw [q2v pre cs post _ _ (by rw [hcl];exact hle),r2] at this
    exact this
  have:=(hh.sub (qxn H b)).grow (ty:=ty) (H:=H.kill b) hn ht hi hz hzs h0 hfc hs (by omega) hf hol hnw (by rw [zm,vx];omega) fz'
  obtain ⟨θ',w',v,g1,g2,g3,g4⟩:=this
  exact ⟨θ',w',v,g1,g2,(Grow.kill H b).trans g3 (fun _ h=>h),g4⟩
theorem info_of {e:TypeId} {n z:Nat} {zv:AV} (hs:sizeT P e=some n) (hb:bytesT P e=some z) (hz:zeroOf P e=some zv) (hzn:zv.cells.length=n) :
 ∃ i zc,P.info? e=some i/\i.size=n/\i.bytes=z/\i.zero=some zc/\zc.cells.size=n:=by
 obtain ⟨i,h1,h2⟩:=qmu hs
 unfold bytesT at hb
 rw [h1] at hb
 simp only [qf,qb] at hb
 unfold zeroOf at hz
 rw [h1] at hz
 simp only [qf,qa] at hz
 obtain ⟨zc,h3,h4⟩:=hz
 refine ⟨i,zc,h1,h2,hb,h3,?_⟩
 have:=(qyt (D:=fun _=>False) (θ:=⟨fun _=>0,fun _=>0,fun _=>0⟩) h4).cells.length
 rw [hzn] at this;simpa using this
theorem q6q {b o n cp:Nat} {c:Value} (h:VR D θ (.slice b o n cp) c) (n':Nat):VR D θ (.slice b o n' cp) (.slice (some ⟨θ.blk b,θ.off b+o,none⟩) n' cp):=fun θ' ha=>by
 have:=(h θ' ha).trans h.now.symm
 simp only [conc,Value.slice.injEq,qb,Addr.mk.injEq,vn,true_and] at this
 simp only [conc,this.1,this.2]
theorem q3y {b i m s alt n:Nat} {c:Value} (h:VR D θ (.gslice b i m s alt n) c) (n':Nat):VR D θ (.gslice b i m s alt n') (.slice (some ⟨θ.blk b,θ.off b+(if (m-i) + θ.ext b=0 then alt else i*s),none⟩) n' ((m-i) + θ.ext b)):=fun θ' ha=>by
 have:=(h θ' ha).trans h.now.symm
 simp only [conc,Value.slice.injEq,qb,Addr.mk.injEq,vn,true_and] at this
 obtain ⟨⟨h1,h2⟩,h3⟩:=this
 rw [h3] at h2
 simp only [conc,h1,h3,h2]
theorem qwf {o:Oper} {c:Call} {xs:List Operand} {t tx e:TypeId} {sz z:Nat} {zv:AV} (ho:o.op=.call c) (hc:c.callee=.builtin .append) (hx:c.args.toList=xs) (hts:c.argTypes.toList=[t,tx])
 (hu:P.underlying t=some (.slice e)) (hk:(∃ e',P.underlying tx=some (.slice e'))\/(P.underlying tx=some .string)) (hs:sizeT P e=some sz) (hb:bytesT P e=some z) (hz:zeroOf P e=some zv) (hzn:zv.cells.length=sz) :
 EffOK P o xs (Op.append e sz z):=by
 intro base D θ H ρ w vs v H' hh h hv hfr
 obtain ⟨cc,hE⟩:=yw (ρ:=ρ) ho hc
 have hats:c.argTypes = #[t,tx]:=by apply qfp;simpa using hts
 obtain ⟨i,zc,hi,rfl,rfl,hiz,hzs⟩:=info_of hs hb hz hzn
 unfold Op.append at hv
 split at hv
 ·rename_i a b
  obtain ⟨x,y,rfl,ha,hbv⟩:=h.len2
  simp only [qa] at hv
  obtain ⟨n,hn,new,hnew,hv⟩:=hv
  cases hone:allOne new with
  | false=>rw [hone] at hv;cases hv
  | true =>
   rw [hone] at hv
   simp only [qz] at hv
   obtain ⟨news,hsrc,hnv⟩:=src_of hh (tx:=tx) hk hbv hn hnew hone
   have hfin:∀ (c':Value) (w':World),(Builtin.append_ #[t,tx] o.type #[ρ x,ρ y]).run P w=.ok c' w'->(execOp ρ o).run P w=.ok (.value c') w':=by
    intro c' w' hr
    rw [hE,wx hx,hats]
    simp [builtin,hr]
   have hnl:=hsrc.newsLen
   have hnlen:=hnv.length
   have hnothing:n=0 -> ∀ bs len cp,ρ x=.slice bs len cp->len<=cp->(Builtin.append_ #[t,tx] o.type #[ρ x,ρ y]).run P w=.ok (ρ x) w:=by
    intro h0 bs len cp he hle
    subst h0
    have:news=[]:=List.eq_nil_of_length_eq_zero (by simpa using hnl)
    subst this
    rw [he]
    exact run_append_nothing w t tx o.type e i hu hi bs len cp hle (ρ y) hsrc
   unfold appendV at hv
   split at hv
   ·-- nil
    cases h0:Nat.beq n 0 with
    | true =>
     rw [h0] at hv
     simp only [qz,qb,qr] at hv
     obtain ⟨rfl,rfl⟩:=hv
     exact ⟨θ,w,ρ x,.inl (hfin _ _ (hnothing (by simpa using h0) none 0 0 ha.now.symm (qe _))),by rw [Up.none];exact hh,.refl _ _ _ _,by rw [Up.none];exact ha⟩
    | false =>
     rw [h0] at hv
     simp only [xy] at hv
     cases hf:(fits n i.bytes && Nat.blt 0 i.size) with
     | false=>rw [hf] at hv;cases hv
     | true =>
      rw [hf] at hv
      simp only [qz,qb] at hv
      simp only [xb,we] at hf
      have hn0:n ≠ 0:=by intro q;subst q;cases h0
      obtain ⟨θ',w',c',g1,g2,g3,g4⟩:=hh.grow (ty:=o.type) (hfr H.next (qe _) (by rw [<-(Prod.mk.inj hv).2];exact xp _)) hu hi hiz hzs hf.2 (bs:=none) (sLen:=0) (sCap:=0) (old:=[]) (olds:=[]) rfl hsrc (by omega) (by simpa using hf.1) .nil hnv (by simp) (0,0)
      rw [show appL ([]:List AV) new=new from rfl,yv] at g2 g3 g4
      rw [hv] at g2 g3 g4
      have:H'.next=H.next+1:=by rw [<-(Prod.mk.inj hv).2];rfl
      rw [<-this] at g2 g4
      refine ⟨θ',w',c',.inl (hfin _ _ ?_),g2,g3,g4⟩
      rw [<-ha.now];exact g1
   ·-- a slice of a row
    rename_i bb oo len cp
    cases hle:Nat.ble (len+n) cp with
    | true =>
     rw [hle] at hv
     simp only [vl] at hle
     simp only [qz] at hv
     cases h0:Nat.beq n 0 with
     | true =>
      rw [h0] at hv
      simp only [qz,qb,qr] at hv
      obtain ⟨rfl,rfl⟩:=hv
      simp only [zz] at h0;subst h0
      exact ⟨θ,w,ρ x,.inl (hfin _ _ (hnothing rfl _ len cp (qfw ha) (by omega))),by rw [Up.none];exact hh,.refl _ _ _ _,by rw [Up.none];exact ha⟩
     | false =>
      rw [h0] at hv
      simp only [xy,qa,qb,qr] at hv
      obtain ⟨H1,h1,rfl,rfl⟩:=hv
      obtain ⟨w',g1,g2,g3,g4⟩:=hh.store hnv h1
      refine ⟨θ,w',_,.inl (hfin _ _ ?_),by rw [g4,Up.none];exact g2,g3,by rw [g4,Up.none];exact q6q ha _⟩
      rw [qfw ha]
      exact qje hu hi hsrc hle (by rw [qd5,yj];exact g1)
    | false =>
     rw [hle] at hv
     have hle':¬ len+n<=cp:=by intro q;rw [Nat.ble_eq_true_of_le q] at hle;cases hle
     simp only [xy] at hv
     cases hf:(fits (len+n) i.bytes && Nat.ble cp (len+n) && Nat.blt 0 i.size) with
     | false=>rw [hf] at hv;cases hv
     | true =>
      rw [hf] at hv
      simp only [qz,qa,qb] at hv
      obtain ⟨old,hold,hv⟩:=hv
      simp only [xb,we] at hf
      obtain ⟨olds,k1,k2,k3⟩:∃ olds:List Value,(Builtin.firstCells i.size len (ρ x)).run P w.drew=.ok olds.toArray w.drew/\VRL D θ old olds/\old.length=len*i.size:=by
       obtain ⟨ad,len',cap',hc',hl',hcase⟩:=qf4 (hh.draw (w':=w.drew) rfl) ha (n:=len) rfl (qe _) rfl hold
       rcases hcase with ⟨rfl,rfl,_,h0⟩|⟨ad',cs',rfl,k1,k2,k3⟩
       ·rw [qfw ha] at hc';cases hc'
       ·exact ⟨cs',by rw [hc'];exact k1,k2,k3⟩
      rw [qfw ha] at k1
      obtain ⟨θ',w',c',g1,g2,g3,g4⟩:=hh.grow (ty:=o.type) (hfr H.next (qe _) (by rw [<-(Prod.mk.inj hv).2];exact xp _)) hu hi hiz hzs hf.2 k1 hsrc (by omega) hf.1.1 k2 hnv k3 (0,0)
      rw [hv] at g2 g3 g4
      have:H'.next=H.next+1:=by rw [<-(Prod.mk.inj hv).2];rfl
      rw [<-this] at g2 g4
      refine ⟨θ',w',c',.inl (hfin _ _ ?_),g2,g3,g4⟩
      rw [qfw ha];exact g1
   ·-- a slice of a grown row
    rename_i bb ii m sz alt len
    cases h0:Nat.beq n 0 with
    | true =>
     rw [h0] at hv
     simp only [qz] at hv
     cases hil:Nat.ble (ii+len) m with
     | false=>rw [hil] at hv;cases hv
     | true =>
     rw [hil] at hv
     simp only [qz,qb,qr] at hv
     obtain ⟨rfl,rfl⟩:=hv
     simp only [zz] at h0;subst h0
     simp only [vl] at hil
     exact ⟨θ,w,ρ x,.inl (hfin _ _ (hnothing rfl _ len _ (qhm ha) (by omega))),by rw [Up.none];exact hh,.refl _ _ _ _,by rw [Up.none];exact ha⟩
    | false =>
     rw [h0] at hv
     have hn0:n ≠ 0:=by intro q;subst q;cases h0
     simp only [xy] at hv
     cases hcc:(Nat.beq sz i.size && Nat.ble (ii+len) m && Nat.blt 0 i.size) with
     | false=>rw [hcc] at hv;cases hv
     | true =>
      rw [hcc] at hv
      simp only [xb,zz,vl,we] at hcc
      obtain ⟨⟨rfl,hil⟩,hsz⟩:=hcc
      simp only [qz] at hv
      cases hle:Nat.ble (ii+len+n) m with
      | true =>
       rw [hle] at hv
       simp only [vl] at hle
       simp only [qz,qa,qb,qr] at hv
       obtain ⟨H1,h1,rfl,rfl⟩:=hv
       obtain ⟨w',g1,g2,g3,g4⟩:=hh.store hnv h1
       refine ⟨θ,w',_,.inl (hfin _ _ ?_),by rw [g4,Up.none];exact g2,g3,by rw [g4,Up.none];exact q3y ha _⟩
       rw [qhm ha]
       refine qje hu hi hsrc (by omega) ?_
       rw [qo (by omega),qd5,yj,<-yk]
       exact g1
      | false =>
       rw [hle] at hv
       have hle':¬ ii+len+n<=m:=by intro q;rw [Nat.ble_eq_true_of_le q] at hle;cases hle
       simp only [xy] at hv
       cases hf:fits (len+n) i.bytes with
       | false=>rw [hf] at hv;cases hv
       | true =>
        rw [hf] at hv
        simp only [qz] at hv
        split at hv
        ·rename_i m' sz' c0 e' fz hget
         cases hcc:(Nat.beq m m' && Nat.beq i.size sz' && Nat.beq e' e) with
         | false=>rw [hcc] at hv;cases hv
         | true =>
          rw [hcc] at hv
          simp only [xb,zz] at hcc
          obtain ⟨⟨rfl,rfl⟩,rfl⟩:=hcc
          simp only [qz] at hv
          have hfin2:∀ old fz',takeAt c0 (ii*i.size) (len*i.size)=some old->((fz.2<fz.1\/fz.2<=(ii+len)*i.size)/\((ii=0/\fz'=fz)\/(fz.2<=ii*i.size/\fz'=cond (Nat.beq fz.1 fz.2) (0,0) (1,0)))) ->
           grownV (H.kill bb) e' i.size (len+n) (appL old new) fz'=(v,H') -> ∃ θ' w' c,Gives P (execOp ρ o) w c w'/\HR P base (Up D H.next H'.next) θ' H' w'/\Grow D H θ w H' θ' w'/\VR (Up D H.next H'.next) θ' v c:=by
           intro old fz' hold hfz hv
           have hnx:H'.next=H.next+1:=by rw [<-(Prod.mk.inj hv).2];rfl
           obtain ⟨θ',w',c',g1,g2,g3,g4⟩:=hh.regrow (ty:=o.type) (hfr H.next (qe _) (by rw [hnx];exact xp _)) hu hi hiz hzs hsz hget ha hsrc hnv (by omega) hil (by omega) hf hold hfz
           rw [hv] at g2 g3 g4
           rw [<-hnx] at g2 g4
           exact ⟨θ',w',c',.inl (hfin _ _ g1),g2,g3,g4⟩
          cases hq1:(Nat.beq ii 0 && Nat.beq len m && Nat.ble fz.2 (m*i.size)) with
          | true =>
           rw [hq1] at hv
           simp only [xb,zz,vl] at hq1
           obtain ⟨⟨rfl,rfl⟩,hq1⟩:=hq1
           simp only [qz,qb] at hv
           obtain ⟨_,co,_,pre,cs,post,cfz,_,_,_,r4,_⟩:=hh.obj bb _ hget
           refine hfin2 c0 fz ?_ ⟨.inr (by simpa using hq1),.inl ⟨rfl,rfl⟩⟩ hv
           rw [qce,yh,<-r4,xc (by omega),qct,List.take_length]
          | false =>
           rw [hq1] at hv
           simp only [xy] at hv
           cases hq2:Nat.ble fz.2 (ii*i.size) with
           | true =>
            rw [hq2] at hv
            simp only [vl] at hq2
            simp only [qz,qa,qb] at hv
            obtain ⟨old,hold,hv⟩:=hv
            exact hfin2 old _ hold ⟨.inr (by rw [yk];omega),.inr ⟨hq2,rfl⟩⟩ hv
           | false =>
            rw [hq2] at hv
            simp only [xy] at hv
            cases hq3:(Nat.beq ii 0 && Nat.ble fz.2 (len*i.size)) with
            | false=>rw [hq3] at hv;cases hv
            | true =>
             rw [hq3] at hv
             simp only [xb,zz,vl] at hq3
             obtain ⟨rfl,hq3⟩:=hq3
             simp only [qz,qa,qb] at hv
             obtain ⟨old,hold,hv⟩:=hv
             exact hfin2 old fz (by rw [yh];exact hold) ⟨.inr (by rw [yv];exact hq3),.inl ⟨rfl,rfl⟩⟩ hv
        ·cases hv
   ·cases hv
 ·cases hv
theorem eff_copy {o:Oper} {c:Call} {xs:List Operand} {t e:TypeId} {sz:Nat} (ho:o.op=.call c) (hc:c.callee=.builtin .copy) (hx:c.args.toList=xs) (ht:c.argTypes[0]? = some t)
 (hu:P.underlying t=some (.slice e)) (hs:sizeT P e=some sz):EffOK P o xs (Op.copy sz):=by
 intro base D θ H ρ w vs v H' hh h hv hfr
 obtain ⟨cc,hE⟩:=yw (ρ:=ρ) ho hc
 unfold Op.copy at hv
 split at hv
 ·cases hv
 ·rename_i d r hns
  obtain ⟨x,y,rfl,ha,hb⟩:=h.len2
  simp only [qa] at hv
  obtain ⟨dn,hdn,rn,hrn,l,hl,hv⟩:=hv
  have hd:isStr d=false:=by cases d<;>first|rfl|exact (hns _ rfl).elim
  obtain ⟨lr,_⟩:=lenV_run (P:=P) (w:=w) hb hrn
  -- what is copied
  obtain ⟨cs,g1,g2⟩:∃ cs:List Value,(Builtin.firstCells sz (min rn dn) (ρ y)).run P w=.ok cs.toArray w/\VRL D θ l cs:=by
   cases hstr:isStr r with
   | true =>
    obtain ⟨s,rfl⟩:∃ s,r=.str s:=by cases r<;>first|exact ⟨_,rfl⟩|cases hstr
    simp only [lenV,qgq,qb] at hrn;subst hrn
    simp only [firstCells] at hl
    cases hsz:Nat.beq sz 1 with
    | false=>rw [hsz] at hl;cases hl
    | true =>
     rw [hsz] at hl
     simp only [qz,qb] at hl;subst hl
     refine ⟨(s.take (min s.length dn)).map fun b=>.int .u8 b.toNat,?_,fun θ' _=>by rw [qbf,yg];rfl⟩
     rw [<-hb.now]
     simp only [conc,Builtin.firstCells,Sem.run_pure]
     congr 1
     apply qfp
     simp only [Array.toList_map]
     rw [Lib.extract_data]
     simp
   | false =>
    obtain ⟨ad,len',cap',hc',hl',hcase⟩:=qf4 hh hb hrn (Nat.min_le_left rn dn) hstr hl
    rw [hc']
    rcases hcase with ⟨rfl,rfl,_,h0⟩|⟨ad',cs',rfl,k1,k2,k3⟩
    ·exact ⟨[],rfl,.nil⟩
    ·exact ⟨cs',k1,k2⟩
  have hsl:∃ bs cp,ρ x=.slice bs dn cp:=by
   cases d<;>simp only [lenV,reduceCtorEq,qb] at hdn
   ·cases hd
   ·subst hdn;exact ⟨none,0,ha.now.symm⟩
   ·subst hdn;exact ⟨_,_,qfw ha⟩
   ·subst hdn;exact ⟨_,_,qhm ha⟩
   ·subst hdn;exact ⟨_,_,ha.now.symm⟩
  obtain ⟨bs,cp,hxe⟩:=hsl
  have hcs:=g2.length
  cases hz:Nat.beq (min rn dn) 0 with
  | true =>
   rw [hz] at hv
   simp only [qz,qb,qr] at hv
   obtain ⟨rfl,rfl⟩:=hv
   simp only [zz] at hz
   have hcs0:cs=[]:=by
    rw [hz] at hl
    have:l=[]:=by
     unfold firstCells at hl
     split at hl
     ·injection hl with hl;exact hl.symm
     ·cases hq:Nat.beq sz 1<;>rw [hq] at hl
      ·cases hl
      ·injection hl with hl;rw [<-hl];rfl
     ·injection hl with hl;exact hl.symm
     ·injection hl with hl;exact hl.symm
     ·injection hl with hl;exact hl.symm
     ·cases hl
    subst this;exact g2.nil_inv
   subst hcs0
   refine ⟨θ,w,goInt 0,.inl ?_,by rw [Up.none];exact hh,.refl _ _ _ _,.int _ _⟩
   rw [hE,wx hx]
   have hmin:Nat.min rn dn=0:=hz
   cases bs<;>simp [builtin,hxe,Builtin.copy_,ht,zh hu,qaj hs,lr,hmin,hz,show (Builtin.firstCells sz 0 (ρ y)).run P w=.ok #[] w from by rw [hz] at g1;exact g1,storeCells]
  | false =>
   rw [hz] at hv
   simp only [xy,qa,qb,qr] at hv
   obtain ⟨p,hp,H1,h1,rfl,rfl⟩:=hv
   obtain ⟨n',m',k1,k2,k3,k4⟩:=qof ha hp
   rw [yh,qef] at k1
   obtain ⟨w',q1,q2,q3,q4⟩:=hh.store g2 h1
   rw [hxe] at k1
   injection k1 with k1 k1' k1''
   subst k1
   refine ⟨θ,w',goInt (min rn dn:Nat),.inl ?_,by rw [q4,Up.none];exact q2,q3,by rw [show ((min rn dn:Nat):Int)=min (rn:Int) (dn:Int) from by omega];exact .int _ _⟩
   rw [hE,wx hx]
   have hmin:Nat.min rn dn=min rn dn:=rfl
   simp [builtin,Builtin.copy_,ht,zh hu,qaj hs,lr,hxe,hmin,g1,q1]
 ·cases hv
theorem q03 {o:Oper} {c:Call} {xs:List Operand} {t e:TypeId} {z:AV} (ho:o.op=.call c) (hc:c.callee=.builtin .clear) (hx:c.args.toList=xs) (ht:c.argTypes[0]? = some t)
 (hu:P.underlying t=some (.slice e)) (hz:zeroOf P e=some z):EffOK P o xs (Op.clearSl z.cells):=by
 intro base D θ H ρ w vs v H' hh h hv hfr
 obtain ⟨cc,hE⟩:=yw (ρ:=ρ) ho hc
 unfold Op.clearSl at hv
 split at hv
 ·cases hv
 ·rename_i d hns
  obtain ⟨x,rfl,ha⟩:=h.len1
  simp only [qa] at hv
  obtain ⟨n,hn,hv⟩:=hv
  cases h0:Nat.beq n 0 with
  | true =>
   rw [h0] at hv
   simp only [qz,qb,qr] at hv
   obtain ⟨rfl,rfl⟩:=hv
   simp only [zz] at h0;subst h0
   refine ⟨θ,w,.tuple #[],.inl ?_,by rw [Up.none];exact hh,.refl _ _ _ _,.tuple .nil⟩
   rw [hE,wx hx]
   have hsl:∃ bs cp,ρ x=.slice bs 0 cp:=by
    cases d<;>simp only [lenV,reduceCtorEq,qb] at hn
    ·exact (hns _ rfl).elim
    ·exact ⟨none,0,ha.now.symm⟩
    ·subst hn;exact ⟨_,_,qfw ha⟩
    ·subst hn;exact ⟨_,_,qhm ha⟩
    ·exact ⟨_,_,ha.now.symm⟩
   obtain ⟨bs,cp,hxe⟩:=hsl
   cases bs<;>simp [builtin,Builtin.clear_,ht,zh hu,hxe]
  | false =>
   rw [h0] at hv
   simp only [xy,qa,qb,qr] at hv
   obtain ⟨p,hp,H1,h1,rfl,rfl⟩:=hv
   obtain ⟨n',m',k1,k2,k3,k4⟩:=qof ha hp
   rw [yh,qef] at k1
   obtain ⟨zc,hz1,hz2⟩:=qj1 (w:=w) hz
   have hnew:VRL D θ (repl n z.cells) (List.replicate n zc.cells.toList).flatten:=qyk (hz2 D θ).cells n
   obtain ⟨w',q1,q2,q3,q4⟩:=hh.store hnew h1
   refine ⟨θ,w',.tuple #[],.inl ?_,by rw [q4,Up.none];exact q2,q3,.tuple .nil⟩
   rw [hE,wx hx]
   have hnn:n'=n:=by
    cases d<;>simp only [lenV,reduceCtorEq,qb] at hn
    ·exact (hns _ rfl).elim
    ·rw [<-ha.now] at k1;cases k1
    ·subst hn;rw [qfw ha] at k1;injection k1 with _ k _;exact k.symm
    ·subst hn;rw [qhm ha] at k1;injection k1 with _ k _;exact k.symm
    ·cases hp
   subst hnn
   have hzz:(Builtin.zeroCells zc.cells n').toList=(List.replicate n' zc.cells.toList).flatten:=by
    have:=qyx zc.cells.toList n'
    unfold Builtin.zeroCells
    rw [<-kv]
    simpa using congrArg Array.toList this
   have hn0:n' ≠ 0:=by omega
   obtain ⟨k,rfl⟩:∃ k,n'=k+1:=⟨n'-1,by omega⟩
   simp [builtin,Builtin.clear_,ht,zh hu,k1,hz1,hzz,q1]
 ·cases hv
theorem qzg {k o n:Nat} {arr:Array Value} {e:TypeId} {fz:Nat × Nat} (h:w.heap[k]? = some (.cells arr e fz)) (hn:n ≠ 0) :
 w.freeze ⟨k,o,none⟩ n=wset w k (.cells arr e (if fz.1 == fz.2 then (o,o+n) else (min fz.1 o,max fz.2 (o+n)))):=by
 unfold World.freeze
 rw [qo hn]
 simp only [wset]
 congr 1
 apply Array.ext_getElem?
 intro j
 rw [Array.getElem?_modify,kx]
 by_cases hj:k=j
 ·subst hj
  obtain ⟨hk,h2⟩:=jr.1 h
  simp [hk,h2]
 ·simp [hj]
theorem FzE.join {fz cfz:Nat × Nat} (h:FzE fz cfz) (o n:Nat) (hn:n ≠ 0):FzE (Op.fzJoin fz o n) (if cfz.1 == cfz.2 then (o,o+n) else (min cfz.1 o,max cfz.2 (o+n))):=by
 unfold FzE at h ⊢
 unfold Op.fzJoin
 by_cases hc:cfz.1=cfz.2
 ·rw [xc (by simpa using hc)]
  cases hb:Nat.beq fz.1 fz.2 with
  | true=>simp only [qz];omega
  | false=>simp only [xy];omega
 ·rw [qo (by simpa using hc)]
  have hb:Nat.beq fz.1 fz.2=false:=by
   cases hb:Nat.beq fz.1 fz.2 with
   | false=>rfl
   | true=>simp only [zz] at hb;omega
  rw [hb]
  simp only [xy];omega
theorem FzR.join {fz cfz:Nat × Nat} {off size:Nat} (h:FzR fz cfz off size) (ht:fz.1<=fz.2) (o n:Nat) (hn:n ≠ 0):FzR (Op.fzJoin fz o n) (if cfz.1 == cfz.2 then (off+o,off+o+n) else (min cfz.1 (off+o),max cfz.2 (off+o+n))) off size:=by
 unfold FzR at h ⊢
 unfold Op.fzJoin
 by_cases hc:cfz.1=cfz.2
 ·rw [xc (by simpa using hc)]
  cases hb:Nat.beq fz.1 fz.2 with
  | true=>simp only [qz];omega
  | false=>simp only [xy];omega
 ·rw [qo (by simpa using hc)]
  have hb:Nat.beq fz.1 fz.2=false:=by
   cases hb:Nat.beq fz.1 fz.2 with
   | false=>rfl
   | true=>simp only [zz] at hb;omega
  rw [hb]
  simp only [xy];omega
theorem q04 {o:Oper} {src dst d e:TypeId} {x:Operand} (ho:o.op=.convert src dst x) (h1:P.underlying src=some (.slice d)) (h2:P.underlying dst=some (.slice e)) (he:P.underlying e=some (.int .u8)) (hsd:src=dst) :
 EffOK P o [x] Op.markStr:=by
 intro base D θ H ρ w vs v H' hh h hv hfr
 unfold Op.markStr at hv
 split at hv
 ·rename_i b oo n cp
  obtain ⟨x',hx',ha⟩:=h.len1
  simp only [xl,vn] at hx';subst hx'
  split at hv
  ·rename_i cells e0 fz hg
   simp only [qb,qr] at hv
   obtain ⟨rfl,rfl⟩:=hv
   obtain ⟨hd,co,hc,pre,cs,post,cfz,et,rfl,r2,r3,r4⟩:=hh.obj b _ hg
   obtain ⟨rfl,rfl,rfl,r5⟩:=r4 rfl
   have hoff:θ.off b=0:=by simpa using r2.symm
   have hcl:=r3.length
   have hfe:=qzg (o:=cs.length) (n:=1) hc (by decide)
   have hrun:(convert src dst (ρ x)).run P w=.ok (ρ x) (wset w (θ.blk b) (.cells (([]:List Value)++cs ++ []).toArray et (if cfz.1 == cfz.2 then (cs.length,cs.length+1) else (min cfz.1 cs.length,max cfz.2 (cs.length+1))))):=by
    rw [<-hfe,qfw ha]
    subst hsd
    obtain rfl:d=e:=by
     have:=h1.symm.trans h2
     injection this with this;injection this
    have hsh:=qed hc
    simp [convert,zh h1,he,run_underlying he,markStringish,shape,Sem.run,freeze,hsh]
   have r6:=r5.join cs.length 1 (by decide)
   generalize (if cfz.1 == cfz.2 then (cs.length,cs.length+1) else (min cfz.1 cs.length,max cfz.2 (cs.length+1)))=cfz' at hrun r6
   have r7:FzE (Op.fzJoin fz (lenL cells) 1) cfz':=by rw [qgq,<-hcl];exact r6
   refine ⟨θ,wset w (θ.blk b) (.cells (([]:List Value)++cs ++ []).toArray et cfz'),ρ x,.inl ?_,by rw [show (H.set b (.row cells et (Op.fzJoin fz (lenL cells) 1) true)).next=H.next from rfl,Up.none];exact hh.set hg rfl rfl ⟨[],cs,[],cfz',_,rfl,by simpa using r2,r3,fun _=>⟨rfl,rfl,rfl,r7⟩⟩,Grow.set hg rfl (hh.lt hg),by rw [show (H.set b (.row cells et (Op.fzJoin fz (lenL cells) 1) true)).next=H.next from rfl,Up.none];exact ha⟩
   simp [execOp,ho,hrun]
  ·cases hv
 ·cases hv
theorem run_loadBytes':∀ (ns:List Int) (a:Addr) (acc:List UInt8),(∀ j x,ns[j]? = some x->w.cell? (a.add j)=some (.int .u8 x)) ->
 (loadBytes a ⟨acc.toArray⟩ ns.length).run P w=.ok ⟨(acc++ns.map (fun n=>UInt8.ofNat n.toNat)).toArray⟩ w
 | [],a,acc,h=>by simp [loadBytes]
 | x::l,a,acc,h=>by
  have h0:w.cell? a=some (.int .u8 x):=by
   have:=h 0 x rfl
   simpa [Addr.add] using this
  have ih:=run_loadBytes' l (a.add 1) (acc ++ [UInt8.ofNat x.toNat]) (fun j y hy=>by
   have:=h (j+1) y (by simpa using hy)
   have e:(a.add 1).add j=a.add (j+1):=by
    unfold Addr.add
    by_cases hj:j=0
    ·subst hj;simp
    ·simp [hj];omega
   rw [e];exact this)
  have e1:(⟨acc.toArray⟩:ByteArray).push (x.toNat).toUInt8=⟨(acc ++ [UInt8.ofNat x.toNat]).toArray⟩:=by simp [ByteArray.push,Nat.toUInt8]
  simp only [jn,loadBytes,Sem.run_bind,run_load,h0,Result.andThen,e1]
  rw [ih];simp
theorem liesAt_bytes' {e:TypeId} (hc:P.cellsOf e=1) (count off n:Nat) (hn:off+n<=count):liesAt P P.depth e count off e n=true:=by
 have hd:P.depth=(2*(P.types.size+Made.depth)+1)+1:=rfl
 rw [hd]
 simp only [liesAt,yn]
 left
 rw [hd]
 simp [rowAt,hc,hn,sameLayout,Nat.mod_one]
theorem qot {ts:Array TypeId} {pt ty e:TypeId} (hts:ts[0]? = some pt) (hp:P.underlying pt=some (.pointer e)) (hc:P.cellsOf e=1) {g off cells:Nat} (hsh:w.shape? g=some (e,cells)) (ns:List Int) (h0:ns ≠ [])
 (hn:off+ns.length<=cells) (h63:ns.length<=9223372036854775807) (hcell:∀ j x,ns[j]? = some x->w.cell? ((⟨g,off,none⟩:Addr).add j)=some (.int .u8 x)) :
 (Builtin.unsafeString_ ts ty #[.pointer (some ⟨g,off,none⟩),.int .i64 ns.length]).run P w=.ok (.string ⟨(ns.map (fun n=>UInt8.ofNat n.toNat)).toArray⟩) (w.freeze ⟨g,off,none⟩ ns.length):=by
 have hl:ns.length ≠ 0:=by simpa using h0
 have hlb:=run_loadBytes' (P:=P) (w:=w) ns ⟨g,off,none⟩ [] hcell
 have hlies:=liesAt_bytes' (P:=P) hc (cells / P.cellsOf e) off ns.length (by rw [hc];simpa using hn)
 have h63':¬ (9223372036854775807:Int)<(ns.length:Int):=by omega
 change Sem.run P (asInt (.int .i64 ns.length) >>= _) w=_
 have hmax:IntKind.i64.max=9223372036854775807:=rfl
 have hneg:¬ (ns.length:Int)<0:=by omega
 have hempty:ByteArray.empty=(⟨([]:List UInt8).toArray⟩:ByteArray):=rfl
 simp only [jj] at hlb
 simp [asInt,asIntOf,hmax,h63',hneg,hl,variablesAt,hsh,elemOf,run_underlying hp,hlies,hts,hempty,hlb,freeze,Sem.run,Array.getLit]
theorem qy8 {o:Oper} {c:Call} {xs:List Operand} {t u:TypeId} (ho:o.op=.call c) (hc:c.callee=.builtin .unsafeString) (hx:c.args.toList=xs) (ht:c.argTypes[0]? = some t)
 (hu:P.underlying t=some (.pointer u)) (hs:sizeT P u=some 1):EffOK P o xs (Op.strOfPtr u):=by
 intro base D θ H ρ w vs v H' hh h hv hfr
 obtain ⟨cc,hE⟩:=yw (ρ:=ρ) ho hc
 have hco:P.cellsOf u=1:=by
  obtain ⟨i,h1,h2⟩:=qmu hs
  simp [Program.cellsOf,h1,h2]
 have hzero:∀ (k:IntKind) (p:Option Addr),(Builtin.unsafeString_ c.argTypes o.type #[.pointer p,.int k 0]).run P w=.ok (.string ⟨([]:List UInt8).toArray⟩) w:=by
  intro k p
  have hmax:¬ (0:Int) > IntKind.i64.max:=by decide
  cases p with
  | none =>
   change Sem.run P (asInt (.int k 0) >>= _) w=_
   simp [asInt,asIntOf,ht,hmax];rfl
  | some a =>
   change Sem.run P (asInt (.int k 0) >>= _) w=_
   simp [asInt,asIntOf,ht,hmax];rfl
 -- the bytes of a row's cells
 have hrow:∀ (k:IntKind) (b o':Nat) (n:Int) (cells l:List AV) (s:List UInt8) (pre cs post:List Value) (cfz:Nat × Nat),w.heap[θ.blk b]? = some (.cells (pre++cs++post).toArray u cfz)->pre.length = θ.off b ->
  VRL D θ cells cs->0<n->n<=140737488355328->takeAt cells o' n.toNat=some l->bytesOf l=some s ->
  (Builtin.unsafeString_ c.argTypes o.type #[.pointer (some ⟨θ.blk b,θ.off b+o',none⟩),.int k n]).run P w =
   .ok (.string ⟨s.toArray⟩) (wset w (θ.blk b) (.cells (pre++cs++post).toArray u (if cfz.1 == cfz.2 then (θ.off b+o',θ.off b+o'+n.toNat) else (min cfz.1 (θ.off b+o'),max cfz.2 (θ.off b+o'+n.toNat))))):=by
  intro k b o' n cells l s pre cs post cfz hcell hpre hcs hn0 hnb hl hs'
  rw [qce] at hl
  split at hl
  ·rename_i hle
   injection hl with hl;subst hl
   obtain ⟨ns,e1,e2⟩:=qml _ _ s ((hcs.drop o').take n.toNat) hs'
   have hcl:=hcs.length
   have hnl:ns.length=n.toNat:=by
    have:=congrArg List.length e1
    simp at this;omega
   have hks:∀ j x,ns[j]? = some x->w.cell? ((⟨θ.blk b,θ.off b+o',none⟩:Addr).add j)=some (.int .u8 x):=by
    intro j x hj
    rw [qd5,qp1 hcell,<-hpre,yj]
    apply q5z
    have hjl:j<ns.length:=(qi.1 hj).1
    have:=congrArg (fun l=>l[j]?) e1
    simp only [j6,j5,xf,hj,qc3] at this
    rw [xc (by omega)] at this
    exact this
   have hk:(Builtin.unsafeString_ c.argTypes o.type #[.pointer (some ⟨θ.blk b,θ.off b+o',none⟩),.int k n])=(Builtin.unsafeString_ c.argTypes o.type #[.pointer (some ⟨θ.blk b,θ.off b+o',none⟩),.int .i64 n]):=by
    rfl
   have hr:=qot (P:=P) (w:=w) (ty:=o.type) ht hu hco (off:=θ.off b+o') (qed hcell) ns (by intro q;subst q;simp at hnl;omega) (by simp;omega) (by omega) hks
   rw [hk,show n=(ns.length:Int) from by omega,hr,qzg hcell (by omega),e2]
   rw [show ((ns.length:Int)).toNat=ns.length from rfl]
  ·cases hl
 unfold Op.strOfPtr at hv
 split at hv
 ·rename_i k n
  obtain ⟨x,y,rfl,ha,hb⟩:=h.len2
  cases hz:eqI n 0 with
  | false=>rw [hz] at hv;cases hv
  | true =>
   rw [hz] at hv
   simp only [qkh,qft] at hz;subst hz
   simp only [qz,qb,qr] at hv
   obtain ⟨rfl,rfl⟩:=hv
   refine ⟨θ,w,_,.inl ?_,by rw [Up.none];exact hh,.refl _ _ _ _,.str _⟩
   rw [hE,wx hx]
   simp only [xw,qax,<-ha.now,<-hb.now,conc,builtin,Sem.run_bind,hzero,Result.andThen_ok,Sem.run_pure]
 ·rename_i b o' k n
  obtain ⟨x,y,rfl,ha,hb⟩:=h.len2
  cases hz:eqI n 0 with
  | true =>
   rw [hz] at hv
   simp only [qkh,qft] at hz;subst hz
   simp only [qz,qb,qr] at hv
   obtain ⟨rfl,rfl⟩:=hv
   refine ⟨θ,w,_,.inl ?_,by rw [Up.none];exact hh,.refl _ _ _ _,.str _⟩
   rw [hE,wx hx]
   simp only [xw,qax,<-ha.now,<-hb.now,conc,builtin,Sem.run_bind,hzero,Result.andThen_ok,Sem.run_pure]
  | false =>
   rw [hz] at hv
   have hn0:n ≠ 0:=by intro q;subst q;simp [qkh] at hz
   simp only [xy] at hv
   cases hlt:(ltI n 0 || ltI 140737488355328 n) with
   | true=>rw [hlt] at hv;cases hv
   | false =>
    rw [hlt] at hv
    simp only [Bool.or_eq_false_iff,qpf,decide_eq_false_iff_not] at hlt
    simp only [xy] at hv
    split at hv
    ·rename_i cells e fz hg
     cases heu:Nat.beq e u with
     | false=>rw [heu] at hv;cases hv
     | true =>
      rw [heu] at hv
      simp only [zz] at heu;subst heu
      simp only [qz,qa,qb,qr] at hv
      obtain ⟨l,hl,s,hs',rfl,rfl⟩:=hv
      obtain ⟨hd,co,hcc,pre,cs,post,cfz,et,rfl,r2,r3,r4⟩:=hh.obj b _ hg
      obtain ⟨rfl,rfl,rfl,r5⟩:=r4 rfl
      have hoff:θ.off b=0:=by simpa using r2.symm
      have hr:=hrow k b o' n cells l s [] cs [] cfz hcc r2 r3 (by omega) (by omega) hl hs'
      have r6:=r5.join o' n.toNat (by omega)
      rw [hoff,yv] at hr
      refine ⟨θ,_,_,.inl ?_,by rw [show (H.set b (.row cells et (Op.fzJoin fz o' n.toNat) true)).next=H.next from rfl,Up.none];exact hh.set hg rfl rfl ⟨[],cs,[],_,_,rfl,r2,r3,fun _=>⟨rfl,rfl,rfl,r6⟩⟩,Grow.set hg rfl (hh.lt hg),.str _⟩
      rw [hE,wx hx]
      have:=hr
      simp only [xw,qax,<-ha.now,<-hb.now,conc,builtin,Sem.run_bind,hoff,yv,hr,Result.andThen_ok,Sem.run_pure]
    ·rename_i m z cells e fz hg
     cases heu:(Nat.beq e u && Nat.ble fz.1 fz.2) with
     | false=>rw [heu] at hv;cases hv
     | true =>
      rw [heu] at hv
      simp only [xb,zz,vl] at heu
      obtain ⟨rfl,hft⟩:=heu
      simp only [qz,qa,qb,qr] at hv
      obtain ⟨l,hl,s,hs',rfl,rfl⟩:=hv
      obtain ⟨hd,co,hcc,pre,cs,post,cfz,rfl,r2,r3,r4,r5,r6,r7,r8⟩:=hh.obj b _ hg
      have hr:=hrow k b o' n cells l s pre cs post cfz hcc r2 r3 (by omega) (by omega) hl hs'
      have r9:=r8.join hft o' n.toNat (by omega)
      refine ⟨θ,_,_,.inl ?_,by rw [show (H.set b (.grown m z cells e (Op.fzJoin fz o' n.toNat))).next=H.next from rfl,Up.none];exact hh.set hg rfl rfl ⟨pre,cs,post,_,rfl,r2,r3,r4,r5,r6,r7,r9⟩,Grow.set hg rfl (hh.lt hg),.str _⟩
      rw [hE,wx hx]
      simp only [xw,qax,<-ha.now,<-hb.now,conc,builtin,Sem.run_bind,hr,Result.andThen_ok,Sem.run_pure]
    ·cases hv
 ·cases hv
end
end Go.Am
namespace Go.Am
def Ext (H H':AHeap):Prop:=H.next<=H'.next /\ ∀ b o,H'.get b=some o->(∃ o',H.get b=some o'/\(own o'=true->own o=true))\/(H.next<=b/\b<H'.next/\own o=true)
theorem Ext.refl (H:AHeap):Ext H H:=⟨qe _,fun b o h=>.inl ⟨o,h,fun h=>h⟩⟩
theorem Ext.trans {H H' H'':AHeap} (h:Ext H H') (h':Ext H' H''):Ext H H'':=by
 refine ⟨zn h.1 h'.1,fun b o hb=>?_⟩
 rcases h'.2 b o hb with ⟨o',h1,h0⟩|⟨h1,h2,h3⟩
 ·rcases h.2 b o' h1 with ⟨o'',h3,h4⟩|⟨h3,h4,h5⟩
  ·exact .inl ⟨o'',h3,fun q=>h0 (h4 q)⟩
  ·exact .inr ⟨h3,ql h4 h'.1,h0 h5⟩
 ·exact .inr ⟨zn h.1 h1,h2,h3⟩
theorem Ext.set {H:AHeap} {b:Nat} {o:AObj} (h:H.get b=some o) (o':AObj) (ho:own o=true->own o'=true):Ext H (H.set b o'):=by
 refine ⟨qe _,fun x ox hx=>?_⟩
 rw [AHeap.get_set] at hx
 split at hx
 ·rename_i e;subst e
  injection hx with hx;subst hx
  exact .inl ⟨o,h,ho⟩
 ·exact .inl ⟨ox,hx,fun h=>h⟩
theorem Ext.alloc (H:AHeap) (o:AObj) (ho:own o=true):Ext H (H.alloc o):=by
 refine ⟨yx _,fun x ox hx=>?_⟩
 rw [AHeap.get_alloc] at hx
 split at hx
 ·rename_i e;subst e
  injection hx with hx;subst hx
  exact .inr ⟨qe _,xp _,ho⟩
 ·exact .inl ⟨ox,hx,fun h=>h⟩
theorem Ext.kill (H:AHeap) (b:Nat):Ext H (H.kill b):=⟨qe _,fun x ox hx=>.inl ⟨ox,qxn H b x ox hx,fun h=>h⟩⟩
theorem que {H:AHeap} {b:Nat} {m:List (AV × AV × Nat) × Nat} (h:H.mapAt b=some m):∃ o,H.get b=some o:=by
 unfold AHeap.mapAt at h
 split at h
 ·exact ⟨_,by assumption⟩
 ·cases h
def OpMono:AOp->Prop
 | .alloc f=>∀ vs ob mk,f vs=some (ob,mk)->own ob=true
 | .eff f=>∀ vs H v H',f vs H=some (v,H')->Ext H H'
 | _=>True
theorem z9 {α:Type} {c:Bool} {a b:Option α} {x:α} (h:cond c a b=some x):(c=true/\a=some x)\/(c=false/\b=some x):=by
 cases c<;>simp_all
theorem qnl {H H':AHeap} {b o:Nat} {l:List AV} (h:H.store b o l=some H'):Ext H H':=by
 unfold AHeap.store at h
 rcases z9 h with ⟨_,h⟩|⟨_,h⟩
 ·split at h
  ·rename_i hg
   rcases z9 h with ⟨_,h⟩|⟨_,h⟩
   ·simp only [qa,qb] at h
    obtain ⟨_,_,rfl⟩:=h;exact Ext.set hg _ (fun _=>rfl)
   ·cases h
  ·rename_i hg
   rcases z9 h with ⟨_,h⟩|⟨_,h⟩
   ·simp only [qa,qb] at h
    obtain ⟨_,_,rfl⟩:=h;exact Ext.set hg _ (fun _=>rfl)
   ·cases h
  ·cases h
 ·cases h
theorem q36 (n:Nat):OpMono (.eff (Op.store n)):=by
 intro vs H v H' h
 unfold Op.store at h
 split at h
 ·rcases z9 h with ⟨_,h⟩|⟨_,h⟩
  ·simp only [qa,qb,qr] at h
   obtain ⟨_,h1,_,rfl⟩:=h
   exact qnl h1
  ·cases h
 ·cases h
theorem qoc (q:EqTree):OpMono (.eff (Op.mapUpdate q)):=by
 intro vs H v H' h
 unfold Op.mapUpdate at h
 split at h
 ·rcases z9 h with ⟨_,h⟩|⟨_,h⟩
  ·simp only [qa] at h
   obtain ⟨m,hm,r,_,h⟩:=h
   obtain ⟨ob,hob⟩:=que hm
   split at h
   ·simp only [qa] at h
    obtain ⟨e,_,h⟩:=h
    rcases z9 h with ⟨_,h⟩|⟨_,h⟩
    ·injection h with h;injection h with _ h;subst h;exact Ext.set hob _ (fun _=>rfl)
    ·cases h
   ·injection h with h;injection h with _ h;subst h;exact Ext.set hob _ (fun _=>rfl)
  ·cases h
 ·cases h
theorem qv2 (q:EqTree):OpMono (.eff (Op.mapDelete q)):=by
 intro vs H v H' h
 unfold Op.mapDelete at h
 split at h
 ·rcases z9 h with ⟨_,h⟩|⟨_,h⟩
  ·injection h with h;injection h with _ h;subst h;exact Ext.refl _
  ·cases h
 ·rcases z9 h with ⟨_,h⟩|⟨_,h⟩
  ·simp only [qa] at h
   obtain ⟨m,hm,r,_,h⟩:=h
   obtain ⟨ob,hob⟩:=que hm
   split at h<;>(injection h with h;injection h with _ h;subst h;exact Ext.set hob _ (fun _=>rfl))
  ·cases h
 ·cases h
theorem qz1:OpMono (.eff Op.nextStr):=by
 intro vs H v H' h
 unfold Op.nextStr at h
 split at h
 ·split at h
  ·rename_i hg
   split at h
   ·rcases z9 h with ⟨_,h⟩|⟨_,h⟩
    ·injection h with h;injection h with _ h;subst h;exact Ext.set hg _ (fun _=>rfl)
    ·cases h
   ·injection h with h;injection h with _ h;subst h;exact Ext.refl _
  ·cases h
 ·cases h
theorem qx0:OpMono (.eff Op.clearMap):=by
 intro vs H v H' h
 unfold Op.clearMap at h
 split at h
 ·injection h with h;injection h with _ h;subst h;exact Ext.refl _
 ·simp only [qa] at h
  obtain ⟨m,hm,h⟩:=h
  obtain ⟨ob,hob⟩:=que hm
  injection h with h;injection h with _ h;subst h;exact Ext.set hob _ (fun _=>rfl)
 ·cases h
theorem q50 (n:Nat):OpMono (.eff (Op.copy n)):=by
 intro vs H v H' h
 unfold Op.copy at h
 split at h
 ·cases h
 ·simp only [qa] at h
  obtain ⟨_,_,_,_,_,_,h⟩:=h
  rcases z9 h with ⟨_,h⟩|⟨_,h⟩
  ·injection h with h;injection h with _ h;subst h;exact Ext.refl _
  ·simp only [qa,qb,qr] at h
   obtain ⟨_,_,_,h1,_,rfl⟩:=h
   exact qnl h1
 ·cases h
theorem qzy (z:List AV):OpMono (.eff (Op.clearSl z)):=by
 intro vs H v H' h
 unfold Op.clearSl at h
 split at h
 ·cases h
 ·simp only [qa] at h
  obtain ⟨_,_,h⟩:=h
  rcases z9 h with ⟨_,h⟩|⟨_,h⟩
  ·injection h with h;injection h with _ h;subst h;exact Ext.refl _
  ·simp only [qa,qb,qr] at h
   obtain ⟨_,_,_,h1,_,rfl⟩:=h
   exact qnl h1
 ·cases h
theorem qzz:OpMono (.eff Op.markStr):=by
 intro vs H v H' h
 unfold Op.markStr at h
 split at h
 ·split at h
  ·rename_i hg;injection h with h;injection h with _ h;subst h;exact Ext.set hg _ (fun _=>rfl)
  ·cases h
 ·cases h
theorem qx2 (u:Nat):OpMono (.eff (Op.strOfPtr u)):=by
 intro vs H v H' h
 unfold Op.strOfPtr at h
 split at h
 ·rcases z9 h with ⟨_,h⟩|⟨_,h⟩
  ·injection h with h;injection h with _ h;subst h;exact Ext.refl _
  ·cases h
 ·rcases z9 h with ⟨_,h⟩|⟨_,h⟩
  ·injection h with h;injection h with _ h;subst h;exact Ext.refl _
  ·rcases z9 h with ⟨_,h⟩|⟨_,h⟩
   ·cases h
   ·split at h
    ·rename_i hg
     rcases z9 h with ⟨_,h⟩|⟨_,h⟩
     ·simp only [qa,qb,qr] at h
      obtain ⟨_,_,_,_,_,rfl⟩:=h;exact Ext.set hg _ (fun _=>rfl)
     ·cases h
    ·rename_i hg
     rcases z9 h with ⟨_,h⟩|⟨_,h⟩
     ·simp only [qa,qb,qr] at h
      obtain ⟨_,_,_,_,_,rfl⟩:=h;exact Ext.set hg _ (fun _=>rfl)
     ·cases h
    ·cases h
 ·cases h
theorem qki {H H':AHeap} {e s n:Nat} {c:List AV} {fz:Nat × Nat} {v:AV} (h:some (grownV H e s n c fz)=some (v,H')):Ext H H':=by
 injection h with h;injection h with _ h;subst h;exact Ext.alloc _ _ rfl
theorem qui (e s z:Nat):OpMono (.eff (Op.append e s z)):=by
 intro vs H v H' h
 unfold Op.append at h
 split at h
 ·simp only [qa] at h
  obtain ⟨n,_,new,_,h⟩:=h
  rcases z9 h with ⟨_,h⟩|⟨_,h⟩
  ·unfold appendV at h
   split at h
   ·rcases z9 h with ⟨_,h⟩|⟨_,h⟩
    ·injection h with h;injection h with _ h;subst h;exact Ext.refl _
    ·rcases z9 h with ⟨_,h⟩|⟨_,h⟩
     ·exact qki h
     ·cases h
   ·rcases z9 h with ⟨_,h⟩|⟨_,h⟩
    ·rcases z9 h with ⟨_,h⟩|⟨_,h⟩
     ·injection h with h;injection h with _ h;subst h;exact Ext.refl _
     ·simp only [qa,qb,qr] at h
      obtain ⟨_,h1,_,rfl⟩:=h
      exact qnl h1
    ·rcases z9 h with ⟨_,h⟩|⟨_,h⟩
     ·simp only [qa] at h
      obtain ⟨_,_,h⟩:=h
      exact qki h
     ·cases h
   ·rcases z9 h with ⟨_,h⟩|⟨_,h⟩
    ·rcases z9 h with ⟨_,h⟩|⟨_,h⟩
     ·injection h with h;injection h with _ h;subst h;exact Ext.refl _
     ·cases h
    ·rcases z9 h with ⟨_,h⟩|⟨_,h⟩
     ·rcases z9 h with ⟨_,h⟩|⟨_,h⟩
      ·simp only [qa,qb,qr] at h
       obtain ⟨_,h1,_,rfl⟩:=h
       exact qnl h1
      ·rcases z9 h with ⟨_,h⟩|⟨_,h⟩
       ·split at h
        ·rcases z9 h with ⟨_,h⟩|⟨_,h⟩
         ·rcases z9 h with ⟨_,h⟩|⟨_,h⟩
          ·exact (Ext.kill _ _).trans (qki (H:=H.kill _) h)
          ·rcases z9 h with ⟨_,h⟩|⟨_,h⟩
           ·simp only [qa] at h
            obtain ⟨_,_,h⟩:=h
            exact (Ext.kill _ _).trans (qki (H:=H.kill _) h)
           ·rcases z9 h with ⟨_,h⟩|⟨_,h⟩
            ·simp only [qa] at h
             obtain ⟨_,_,h⟩:=h
             exact (Ext.kill _ _).trans (qki (H:=H.kill _) h)
            ·cases h
         ·cases h
        ·cases h
       ·cases h
     ·cases h
   ·cases h
  ·cases h
 ·cases h
end Go.Am
namespace Go.Am
structure RhoOK (ρ:Operand->Value):Prop where
 const:∀ v,ρ (.const v)=v
 func:∀ f,ρ (.func f)=.func (.func f) #[] #[]
def PureOK' (P:Program) (o:Oper) (xs:List Operand) (f:List AV->Option AV):Prop :=
 ∀ (D:Nat->Prop) θ (ρ:Operand->Value) w vs v,RhoOK ρ->VRL D θ vs (xs.map ρ)->f vs=some v -> ∃ c,Gives P (execOp ρ o) w c w/\VR D θ v c
def AllocOK' (P:Program) (o:Oper) (xs:List Operand) (f:List AV->Option (AObj × (Nat->AV))):Prop :=
 ∀ (D:Nat->Prop) θ (ρ:Operand->Value) w vs ob mk,RhoOK ρ->VRL D θ vs (xs.map ρ)->f vs=some (ob,mk) ->
  own ob=true /\ ∃ w0 co ext c,(execOp ρ o).run P w=.ok (.value c) (w0.alloc co)/\Quiet w w0 /\
   ∀ (D':Nat->Prop) θ' id,Ag D θ θ'->(∀ b,D b->D' b)->D' id -> θ'.blk id=w.heap.size -> θ'.off id=0 -> θ'.ext id=ext->ObjR P D' θ' id ob co/\VR D' θ' (mk id) c
structure PGood (P:Program):Prop where
 names:∀ (f:FuncId) (fn:Func),P.funcs[f]? = some fn->fn.name ≠ "runtime.NumGoroutine"
 mixed:P.follows .mixedOrders=true
def OpOK (P:Program) (o:Oper) (xs:List Operand):AOp->Prop
 | .pure f=>PureOK' P o xs f
 | .read f=>ReadOK P o xs f
 | .alloc f=>AllocOK' P o xs f/\OpMono (.alloc f)
 | .eff f=>EffOK P o xs f/\OpMono (.eff f)
 | .callF f=>∃ c fn b,o.op=.call c/\c.callee=.value (.func f)/\xs=c.args.toList/\P.funcs[f]? = some fn/\fn.body=some b
 | .callV=>∃ c x,o.op=.call c/\c.callee=.value x/\xs=x::c.args.toList
 | .invoke m=>∃ c x,o.op=.call c/\c.callee=.invoke x m/\xs=x::c.args.toList
 | .recover=>∃ c,o.op=.call c/\c.callee=.builtin .recover/\xs=c.args.toList
 | .defer=>∃ c x,o.op=.defer c/\c.callee=.value x/\xs=x::c.args.toList
 | .panic=>(∃ x,o.op=.panic x/\xs=[x]) \/ ∃ c,o.op=.call c/\c.callee=.builtin .panic/\xs=c.args.toList
theorem q35 {e:Nat} {z:List AV}:OpMono (.alloc (Op.alloc e z)):=by
 intro vs ob mk h
 unfold Op.alloc at h
 split at h
 ·injection h with h;injection h with h _;subst h;rfl
 ·cases h
theorem mono_box {e:Nat}:OpMono (.alloc (Op.box e)):=by
 intro vs ob mk h
 unfold Op.box at h
 split at h
 ·injection h with h;injection h with h _;subst h;rfl
 ·cases h
theorem quj {e n:Nat} {z:List AV} {ps:List (Nat × Nat)}:OpMono (.alloc (Op.buildSlice e n z ps)):=by
 intro vs ob mk h
 simp only [Op.buildSlice,qa] at h
 obtain ⟨_,_,h⟩:=h
 injection h with h;injection h with h _;subst h;rfl
theorem qz0 {e b:Nat} {z:List AV}:OpMono (.alloc (Op.mkSlice e b z)):=by
 intro vs ob mk h
 unfold Op.mkSlice at h
 split at h
 ·rcases z9 h with ⟨_,h⟩|⟨_,h⟩
  ·injection h with h;injection h with h _;subst h;rfl
  ·cases h
 ·cases h
theorem qx1:OpMono (.alloc Op.rangeStr):=by
 intro vs ob mk h
 unfold Op.rangeStr at h
 split at h
 ·injection h with h;injection h with h _;subst h;rfl
 ·cases h
theorem quk {e:Nat}:OpMono (.alloc (Op.bytesOfStr e)):=by
 intro vs ob mk h
 unfold Op.bytesOfStr at h
 split at h
 ·rcases z9 h with ⟨_,h⟩|⟨_,h⟩
  ·injection h with h;injection h with h _;subst h;rfl
  ·cases h
 ·cases h
theorem qwn:OpMono (.alloc Op.mkMap):=by
 intro vs ob mk h
 unfold Op.mkMap at h
 split at h
 ·injection h with h;injection h with h _;subst h;rfl
 ·cases h
theorem qul {e:Nat}:OpMono (.alloc (Op.makeNoZero e)):=by
 intro vs ob mk h
 unfold Op.makeNoZero at h
 split at h
 ·rcases z9 h with ⟨_,h⟩|⟨_,h⟩
  ·injection h with h;injection h with h _;subst h;rfl
  ·cases h
 ·cases h
section
variable {P:Program} {o:Oper} {xs:List Operand}
theorem PureOK.up {f:List AV->Option AV} (h:PureOK P o xs f):PureOK' P o xs f:=fun D θ ρ w vs v _=>h D θ ρ w vs v
theorem AllocOK.up {f:List AV->Option (AObj × (Nat->AV))} (h:AllocOK P o xs f):AllocOK' P o xs f:=fun D θ ρ w vs ob mk _=>h D θ ρ w vs ob mk
theorem conv_ok {src dst:TypeId} {x:Operand} (ho:o.op=.convert src dst x) {r:List Operand × AOp} (h:cConv P src dst x=some r):OpOK P o r.1 r.2:=by
 unfold cConv at h
 split at h
 ·rename_i h1 h2;injection h with h;subst h;exact (q6f ho h1 h2).up
 ·rename_i h1 h2;injection h with h;subst h;exact (qyi ho h1 h2).up
 ·rename_i h1 h2;injection h with h;subst h;exact (q0e ho h1 h2).up
 ·rename_i e h1 h2
  split at h
  ·rename_i he;injection h with h;subst h;exact qu9 ho h1 he h2
  ·cases h
 ·rename_i u h1 h2;injection h with h;subst h;exact qre ho (.inl ⟨h1,h2⟩)
 ·rename_i u h1 h2;injection h with h;subst h;exact qre ho (.inr ⟨h1,h2⟩)
 ·rename_i e h1 h2
  split at h
  ·rename_i he;injection h with h;subst h;exact ⟨(qrj ho h1 h2 he).up,quk⟩
  ·cases h
 ·rename_i d e h1 h2
  split at h
  ·rename_i he
   split at h
   ·rename_i hsd;injection h with h;subst h;exact ⟨q04 ho h1 h2 he (by simpa using hsd),qzz⟩
   ·cases h
  ·cases h
 ·cases h
theorem q5n {t:TypeId} {x y:Operand} {k:EqTy} (h:eqTy P t x y=some k):EqTyOK P t x y k:=by
 unfold eqTy at h
 split at h
 ·rename_i hu;injection h with h;subst h;exact hu
 ·rename_i e hu
  split at h
  ·rename_i n hs;injection h with h;subst h;exact ⟨e,n,hu,hs⟩
  ·cases h
 ·rename_i e hu;injection h with h;subst h;exact ⟨e,hu⟩
 ·rename_i k e hu;injection h with h;subst h;exact ⟨k,e,hu⟩
 ·rename_i a b c hu;injection h with h;subst h;exact ⟨a,b,c,hu⟩
 ·rename_i ms hu
  split at h
  ·injection h with h;subst h;exact ⟨ms,hu,.inl ⟨_,rfl⟩⟩
  ·injection h with h;subst h;exact ⟨ms,hu,.inr ⟨_,rfl⟩⟩
  ·injection h with h;subst h
   refine ⟨⟨ms,hu⟩,fun u q hq=>?_⟩
   simp only [qa] at hq
   obtain ⟨i,hi,hq⟩:=hq
   split at hq
   ·rename_i hcmp;exact ⟨hq,i,hi,hcmp⟩
   ·cases hq
 ·rename_i fs hu
  split at h
  ·cases h
  ·rename_i hg
   simp only [qa,qb] at h
   obtain ⟨q,hq,rfl⟩:=h
   exact ⟨by simpa using hg,hq,.inl ⟨fs,hu⟩⟩
 ·rename_i n e hu
  split at h
  ·cases h
  ·rename_i hg
   simp only [qa,qb] at h
   obtain ⟨q,hq,rfl⟩:=h
   exact ⟨by simpa using hg,hq,.inr ⟨n,e,hu⟩⟩
 ·cases h
theorem bin_ok {op:BinOp} {t t':TypeId} {x y:Operand} (ho:o.op=.binOp op t x y t') {r:List Operand × AOp} (h:cBin P op t x y=some r):OpOK P o r.1 r.2:=by
 unfold cBin at h
 split at h
 ·injection h with h;subst h;exact (q2z ho).up
 ·injection h with h;subst h;exact (q2z ho).up
 ·split at h
  ·simp only [qa,qb] at h
   obtain ⟨k,hk,rfl⟩:=h
   exact q6i (neg:=false) (by simpa using ho) (q5n hk)
  ·simp only [qa,qb] at h
   obtain ⟨k,hk,rfl⟩:=h
   exact q6i (neg:=true) (by simpa using ho) (q5n hk)
  ·cases h
theorem q3p {c:Call} {b:Builtin} (ho:o.op=.call c) (hc:c.callee=.builtin b) {r:List Operand × AOp} (h:qxg P b c.argTypes c.args.toList=some r):OpOK P o r.1 r.2:=by
 have hb2:∀ {d:TypeDesc},(c.argTypes[0]?).bind P.underlying=some d -> ∃ t,c.argTypes[0]? = some t/\P.underlying t=some d:=fun h=>by simpa [qa] using h
 unfold qxg at h
 split at h
 ·split at h
  ·rename_i hu;obtain ⟨t,ht,hu⟩:=hb2 hu;injection h with h;subst h;exact (q1n ho hc rfl ht hu).up
  ·rename_i hu;obtain ⟨t,ht,hu⟩:=hb2 hu;injection h with h;subst h;exact (q4g ho hc rfl ht hu).up
  ·rename_i hu;obtain ⟨t,ht,hu⟩:=hb2 hu;injection h with h;subst h;exact (q0b ho hc rfl ht (.inl hu)).up
  ·rename_i hu;obtain ⟨t,ht,hu⟩:=hb2 hu
   split at h
   ·rename_i hu2;injection h with h;subst h;exact (q0b ho hc rfl ht (.inr ⟨_,hu,hu2⟩)).up
   ·cases h
  ·rename_i hu;obtain ⟨t,ht,hu⟩:=hb2 hu;injection h with h;subst h;exact q1q ho hc rfl ht hu
  ·cases h
 ·split at h
  ·rename_i hu;obtain ⟨t,ht,hu⟩:=hb2 hu;injection h with h;subst h;exact (pure_cap ho hc rfl ht hu).up
  ·cases h
 ·split at h
  ·rename_i t tx hts
   split at h
   ·rename_i e e' hu hx
    simp only [qa] at h
    obtain ⟨n,hn,z,hz,zv,hzv,h⟩:=h
    split at h
    ·rename_i hl;injection h with h;subst h;exact ⟨qwf ho hc rfl hts hu (.inl ⟨_,hx⟩) hn hz hzv hl,qui _ _ _⟩
    ·cases h
   ·rename_i e hu hx
    simp only [qa] at h
    obtain ⟨n,hn,z,hz,zv,hzv,h⟩:=h
    split at h
    ·rename_i hl;injection h with h;subst h;exact ⟨qwf ho hc rfl hts hu (.inr hx) hn hz hzv hl,qui _ _ _⟩
    ·cases h
   ·cases h
  ·cases h
 ·split at h
  ·rename_i hu;obtain ⟨t,ht,hu⟩:=hb2 hu
   simp only [qa,qb] at h
   obtain ⟨n,hn,rfl⟩:=h
   exact ⟨eff_copy ho hc rfl ht hu hn,q50 _⟩
  ·cases h
 ·injection h with h;subst h;exact (qu4 (mx:=false) ho hc rfl).up
 ·injection h with h;subst h;exact (qu4 (mx:=true) ho hc rfl).up
 ·split at h
  ·rename_i hu;obtain ⟨t,ht,hu⟩:=hb2 hu
   simp only [qa,qb] at h
   obtain ⟨q,hq,rfl⟩:=h
   exact ⟨qxh ho hc rfl ht hu hq,qv2 _⟩
  ·cases h
 ·split at h
  ·rename_i hu;obtain ⟨t,ht,hu⟩:=hb2 hu
   simp only [qa,qb] at h
   obtain ⟨z,hz,rfl⟩:=h
   exact ⟨q03 ho hc rfl ht hu hz,qzy _⟩
  ·rename_i hu;obtain ⟨t,ht,hu⟩:=hb2 hu;injection h with h;subst h;exact ⟨qy7 ho hc rfl ht hu,qx0⟩
  ·cases h
 ·injection h with h;subst h;exact ⟨c,ho,hc,rfl⟩
 ·injection h with h;subst h;exact (qv5 ho hc rfl).up
 ·split at h
  ·rename_i hu;obtain ⟨t,ht,hu⟩:=hb2 hu
   split at h
   ·rename_i hs;injection h with h;subst h;exact ⟨qy8 ho hc rfl ht hu hs,qx2 _⟩
   ·cases h
  ·cases h
 ·injection h with h;subst h;exact .inr ⟨c,ho,hc,rfl⟩
 ·cases h
theorem qsn {fn:Func} (n:String) (hn:fn.name=n) (ho:fn.origin = "") {e:Array TypeId->Array TypeId->Array TypeId->Array Value->Sem Value}
 (h1:∀ (ps rs:Array TypeId),(((Extern.allNextRows.lookup n).map (· ps rs)) <|> ((Extern.allNextRows.lookup "").map (· ps rs)))=none)
 (h2:∀ (ts ps rs:Array TypeId),((Extern.allGenericRows.lookup n).map (· ts ps rs) <|> (Extern.allTypedRows.lookup n).map (· ps rs) <|> Extern.allRows.lookup n)=some (e ts ps rs)) :
 Extern.findNext fn=none/\Extern.find fn=some (e fn.targs fn.params fn.resultTypes):=by
 unfold Extern.findNext Extern.find
 rw [hn,ho]
 refine ⟨h1 fn.params fn.resultTypes,?_⟩
 show (((Extern.allGenericRows.lookup n).map (· fn.targs fn.params fn.resultTypes) <|> (Extern.allTypedRows.lookup n).map (· fn.params fn.resultTypes) <|> Extern.allRows.lookup n) <|> _)=_
 rw [h2];rfl
theorem ext_ok {c:Call} {f:FuncId} {fn:Func} (hn:fn.name ≠ "runtime.NumGoroutine") (ho:o.op=.call c) (hc:c.callee=.value (.func f)) (hf:P.funcs[f]? = some fn) (hb:fn.body=none) {r:List Operand × AOp}
 (h:cExt P fn c.args.toList=some r):OpOK P o r.1 r.2:=by
 unfold cExt at h
 split at h
 ·cases h
 ·rename_i hor
  have hor:fn.origin = "" := by simpa using hor
  split at h
  ·rename_i hnm
   have hnm:=eq_of_beq hnm
   injection h with h;subst h
   obtain ⟨e1,e2⟩:=qsn (e:=fun _ _ _=>Extern.BytealgIndexByte.indexByte) _ hnm hor (fun ps rs=>by kernel_rfl) (fun ts ps rs=>by kernel_rfl)
   intro D θ ρ w vs v hρ
   exact qn0 ho hc hf hb hn e1 e2 rfl D θ ρ w vs v (hρ.func f)
  ·split at h
   ·rename_i hnm
    have hnm:=eq_of_beq hnm
    injection h with h;subst h
    obtain ⟨e1,e2⟩:=qsn (e:=fun _ _ _=>Extern.BytealgCount.count) _ hnm hor (fun ps rs=>by kernel_rfl) (fun ts ps rs=>by kernel_rfl)
    intro D θ ρ w vs v hρ
    exact qsh ho hc hf hb hn e1 e2 rfl D θ ρ w vs v (hρ.func f)
   ·split at h
    ·rename_i hnm
     have hnm:=eq_of_beq hnm
     injection h with h;subst h
     obtain ⟨e1,e2⟩:=qsn (e:=fun _ _ _=>Extern.AbiNoEscape.same) _ hnm hor (fun ps rs=>by kernel_rfl) (fun ts ps rs=>by kernel_rfl)
     intro D θ ρ w vs v hρ
     exact qyf ho hc hf hb hn e1 e2 rfl D θ ρ w vs v (hρ.func f)
    ·split at h
     ·rename_i hnm
      have hnm:=eq_of_beq hnm
      simp only [qa] at h
      obtain ⟨t,ht,h⟩:=h
      split at h
      ·rename_i e hu
       injection h with h;subst h
       obtain ⟨e1,e2⟩:=qsn (e:=fun _ ps rs=>Extern.BytealgMakeNoZero.makeNoZero ps rs) _ hnm hor (fun ps rs=>by kernel_rfl) (fun ts ps rs=>by kernel_rfl)
       exact ⟨fun D θ ρ w vs ob mk hρ=>qrk ho hc hf hb hn e1 e2 rfl ht hu D θ ρ w vs ob mk (hρ.func f),qul⟩
      ·cases h
     ·cases h
theorem call_ok (hP:PGood P) {c:Call} (ho:o.op=.call c) {r:List Operand × AOp} (h:cCall P c=some r):OpOK P o r.1 r.2:=by
 unfold cCall at h
 split at h
 ·rename_i f hc
  simp only [qa] at h
  obtain ⟨fn,hf,h⟩:=h
  split at h
  ·rename_i b hb
   injection h with h;subst h
   exact ⟨c,fn,b,ho,hc,rfl,hf,hb⟩
  ·rename_i hb
   exact ext_ok (hP.names f fn hf) ho hc hf hb h
 ·rename_i x _ hc;injection h with h;subst h;exact ⟨c,_,ho,hc,rfl⟩
 ·rename_i hc;injection h with h;subst h;exact ⟨c,_,ho,hc,rfl⟩
 ·rename_i b hc;exact q3p ho hc h
theorem op_ok (hP:PGood P) {r:List Operand × AOp} (h:cOp P o.op=some r):OpOK P o r.1 r.2:=by
 unfold cOp at h
 split at h
 ·rename_i ho;injection h with h;subst h;exact (q0d (.inl ho)).up
 ·rename_i ho;injection h with h;subst h;exact (q0d (.inr ho)).up
 ·rename_i ho;injection h with h;subst h;exact (q6e ho).up
 ·rename_i ho
  simp only [qa,qb] at h
  obtain ⟨z,hz,rfl⟩:=h
  exact ⟨(q0x ho hz).up,q35⟩
 ·rename_i ho;injection h with h;subst h;exact ⟨(q45 ho).up,mono_box⟩
 ·rename_i t parts ho
  simp only [qa] at h
  obtain ⟨z,hz,h⟩:=h
  split at h
  ·rename_i fs hu
   split at h
   ·rename_i hall
    simp only [qa,qb] at h
    obtain ⟨ps,hps,rfl⟩:=h
    refine (qq2 ho hz hu (fun f hf=>?_) hps).up
    have:=Array.all_eq_true'.1 hall f hf
    exact Option.isSome_iff_exists.1 this
   ·cases h
  ·rename_i hu
   simp only [qa,qb] at h
   obtain ⟨n,hn,ps,hps,rfl⟩:=h
   exact (qsg ho hz hu hn hps).up
  ·cases h
 ·rename_i t len parts ho
  split at h
  ·rename_i e hu
   simp only [qa] at h
   obtain ⟨n,hn,z,hz,ps,hps,h⟩:=h
   split at h
   ·rename_i hc
    injection h with h;subst h
    exact ⟨(qri ho hu hn hz hps hc.1 hc.2).up,quj⟩
   ·cases h
  ·cases h
 ·rename_i t a ho
  simp only [qa] at h
  obtain ⟨r',hr,h⟩:=h
  split at h
  ·injection h with h;subst h;exact q4i ho hr
  ·injection h with h;subst h;exact q4j ho hr
 ·rename_i t a x ho
  simp only [qa,qb] at h
  obtain ⟨n,hn,rfl⟩:=h
  exact ⟨q5j ho hn,q36 _⟩
 ·rename_i ho;injection h with h;subst h;exact (qye ho).up
 ·rename_i ho;exact bin_ok ho h
 ·rename_i ho;injection h with h;subst h;exact (pure_un ho).up
 ·rename_i ho;exact conv_ok ho h
 ·rename_i t x ho
  split at h
  ·cases h
  ·rename_i d hd hu
   injection h with h;subst h
   exact (q0c ho ⟨d,hu,by cases d<;>first|rfl|exact (hd _ rfl).elim⟩).up
  ·cases h
 ·rename_i ho;injection h with h;subst h;exact (q1o ho).up
 ·rename_i ho;injection h with h;subst h
  exact ⟨fun D θ ρ w vs ob mk hρ=>qsz ho (.inl rfl) (fun _=>trivial) D θ ρ w vs ob mk hρ.const,qwn⟩
 ·rename_i t k n ho
  split at h
  ·rename_i a b hu
   injection h with h;subst h
   exact ⟨fun D θ ρ w vs ob mk hρ=>qsz ho (.inr ⟨k,n,rfl,a,b,hu⟩) (fun _=>trivial) D θ ρ w vs ob mk hρ.const,qwn⟩
  ·cases h
 ·rename_i t l c ho
  split at h
  ·rename_i e hu
   simp only [qa] at h
   obtain ⟨b,hb,z,hz,n,hn,h⟩:=h
   split at h
   ·rename_i hc
    injection h with h;subst h
    exact ⟨(qw9 ho hu hb hn hz hc).up,qz0⟩
   ·cases h
  ·cases h
 ·rename_i t x lo hi mx ho
  split at h
  ·rename_i hu
   split at h
   ·injection h with h;subst h;exact (qyh ho hu).up
   ·cases h
  ·rename_i e hu
   simp only [qa,qb] at h
   obtain ⟨n,hn,rfl⟩:=h
   exact (q0f ho hu hn).up
  ·rename_i k e hu
   simp only [qa,qb] at h
   obtain ⟨n,hn,rfl⟩:=h
   exact (qyg ho hu hn).up
  ·cases h
 ·rename_i t x i ho
  split at h
  ·rename_i fs hu
   simp only [qa] at h
   obtain ⟨f,hf,n,hn,h⟩:=h
   split at h
   ·cases h
   ·rename_i hn0
    injection h with h;subst h
    exact (qv4 ho hu hf hn (by simpa using hn0)).up
  ·cases h
 ·rename_i t x i ho
  split at h
  ·rename_i fs hu
   simp only [qa,qb] at h
   obtain ⟨f,hf,n,hn,rfl⟩:=h
   exact (q4f ho hu hf hn).up
  ·cases h
 ·rename_i t x i ho
  split at h
  ·rename_i e hu
   simp only [qa,qb] at h
   obtain ⟨n,hn,rfl⟩:=h
   exact (q0a ho hu hn).up
  ·rename_i k e hu
   simp only [qa,qb] at h
   obtain ⟨n,hn,rfl⟩:=h
   exact (qyc ho hu hn).up
  ·cases h
 ·rename_i t x i ho
  split at h
  ·rename_i hu;injection h with h;subst h;exact (qyd ho hu).up
  ·rename_i k e hu
   simp only [qa,qb] at h
   obtain ⟨n,hn,a,ha,rfl⟩:=h
   exact (qyb ho hu hn ha).up
  ·cases h
 ·rename_i t m k ok ho
  split at h
  ·rename_i kt e hu
   simp only [qa,qb] at h
   obtain ⟨q,hq,z,hz,rfl⟩:=h
   exact q1r ho hu hq hz
  ·cases h
 ·rename_i t m k v ho
  split at h
  ·rename_i kt e hu
   simp only [qa,qb] at h
   obtain ⟨q,hq,rfl⟩:=h
   exact ⟨qo2 (.inl ho) hu hq,qoc _⟩
  ·cases h
 ·rename_i t m k v ho
  split at h
  ·rename_i kt e hu
   simp only [qa,qb] at h
   obtain ⟨q,hq,rfl⟩:=h
   exact ⟨qo2 (.inr ho) hu hq,qoc _⟩
  ·cases h
 ·rename_i t x ho
  split at h
  ·rename_i hu;injection h with h;subst h;exact ⟨(qvm ho hu).up,qx1⟩
  ·cases h
 ·rename_i ho;injection h with h;subst h;exact ⟨q05 ho,qz1⟩
 ·rename_i x xt t ok ho
  split at h
  ·cases h
  ·rename_i d hd hu
   simp only [qa,qb] at h
   obtain ⟨z,hz,rfl⟩:=h
   exact (qu5 ho hu (by cases d<;>first|rfl|exact (hd _ rfl).elim) hz).up
  ·cases h
 ·rename_i ho;injection h with h;subst h;exact (qz9 ho).up
 ·rename_i c ho;exact call_ok hP ho h
 ·rename_i c ho
  split at h
  ·rename_i f hc;injection h with h;subst h;exact ⟨c,f,ho,hc,rfl⟩
  ·cases h
 ·rename_i x ho;injection h with h;subst h;exact .inl ⟨x,ho,rfl⟩
 ·cases h
theorem OpOK.mono {aop:AOp} (h:OpOK P o xs aop):OpMono aop:=by
 cases aop with
 | alloc f=>exact h.2
 | eff f=>exact h.2
 | _=>trivial
def DefOK (o:Oper) (aop:AOp):Prop:=(∀ c,o.op ≠ .defer c)\/aop=.defer\/aop=.pure Op.fail
theorem def_ok {r:List Operand × AOp} (h:cOp P o.op=some r):DefOK o r.2:=by
 by_cases hd:∃ c,o.op=.defer c
 ·obtain ⟨c,hc⟩:=hd
  rw [hc] at h
  simp only [cOp] at h
  split at h
  ·injection h with h;subst h;exact .inr (.inl rfl)
  ·cases h
 ·exact .inl fun c hc=>hd ⟨c,hc⟩
theorem qq0 (hP:PGood P) {r:List AOpd × AOp} (h:cOper P o=some r):∃ xs,cOpds P.globals.size xs=some r.1/\OpOK P o xs r.2/\DefOK o r.2:=by
 unfold cOper at h
 split at h
 ·rename_i r' hr
  injection h with h;subst h
  simp only [qa,qb] at hr
  obtain ⟨q,hq,args,hargs,rfl⟩:=hr
  exact ⟨q.1,hargs,op_ok hP hq,def_ok hq⟩
 ·injection h with h;subst h
  exact ⟨[],rfl,(q6d []).up,.inr (.inr rfl)⟩
end
end Go.Am
namespace Go.Am
def dfsR (D:Nat->Prop) (θ:Th):List ADef->List Deferred->Prop
 | [],[]=>True
 | d::ds,e::es=>defR D θ d e/\dfsR D θ ds es
 | _,_=>False
def entryR (D:Nat->Prop) (θ:Th) (e:AV × Bool) (p:PanicEntry):Prop:=VR D θ e.1 p.v/\p.recovered=e.2/\p.goexit=false
def chainR (D:Nat->Prop) (θ:Th):Chain->List PanicEntry->Prop
 | [],[]=>True
 | e::es,p::ps=>entryR D θ e p/\chainR D θ es ps
 | _,_=>False
def modeR (D:Nat->Prop) (θ:Th) (c:Chain) (m:FrameMode):Prop :=
 match m with
 | .run=>False
 | .returning=>c=[]
 | .panicking ps=>c ≠ []/\chainR D θ c ps
def UpR (D:Nat->Prop) (θ:Th) (kind:CallKind):Option Chain->List Frame->Prop
 | none,_=>kind=.normal
 | some ch,c::_=>kind=.deferred/\modeR D θ ch c.mode
 | some _,[]=>False
def UpTo:Option Chain->List Frame->List Frame->Prop
 | none,cs,cs'=>cs'=cs
 | some _,c::rest,cs'=>∃ u,cs' = { c with mode:=u }::rest
 | some _,[],_=>False
def RdR (D:Nat->Prop) (θ:Th) (ro:Option Nat):Option Nat->Prop
 | none=>ro=none
 | some l=>D l/\ro=some (θ.blk l)
def exitR (D:Nat->Prop) (θ:Th):AExit->Exit->Prop
 | .normal,.normal=>True
 | .exit i,.exit j=>j=i
 | .goto i,.goto j=>j=i
 | .ret,.ret=>True
 | .panic c,.panic ps=>c ≠ []/\chainR D θ c ps
 | _,_=>False
def endR (D:Nat->Prop) (θ:Th):AEnd->Ending->Prop
 | .ret v,.returned c=>VR D θ v c
 | .panic c,.panicked ps=>c ≠ []/\chainR D θ c ps
 | _,_=>False
section
variable {D D':Nat->Prop} {θ θ':Th}
theorem dfsR.up (ha:Ag D θ θ') (hd:∀ b,D b->D' b):∀ {l:List ADef} {m:List Deferred},dfsR D θ l m->dfsR D' θ' l m
 | [],[],_=>trivial
 | d::ds,e::es,⟨h1,h2⟩=>by
  refine ⟨?_,dfsR.up ha hd h2⟩
  cases d with
  | coll b=>exact ⟨hd b h1.1,by rw [(ha b h1.1).1];exact h1.2⟩
  | fn f args =>
   obtain ⟨c,cap,h3,h4,h5⟩:=h1
   refine ⟨c,cap,?_,fun θ'' h''=>?_,h5.up ha hd⟩
   ·rw [h3,h4 θ' ha]
   ·rw [h4 θ'' (ha.trans h'' hd),h4 θ' ha]
 | [],_::_,h=>h.elim
 | _::_,[],h=>h.elim
theorem chainR.up (ha:Ag D θ θ') (hd:∀ b,D b->D' b):∀ {l:Chain} {m:List PanicEntry},chainR D θ l m->chainR D' θ' l m
 | [],[],_=>trivial
 | e::es,p::ps,⟨⟨h1,h2,h3⟩,h⟩=>⟨⟨h1.up ha hd,h2,h3⟩,chainR.up ha hd h⟩
 | [],_::_,h=>h.elim
 | _::_,[],h=>h.elim
theorem modeR.up (ha:Ag D θ θ') (hd:∀ b,D b->D' b) {c:Chain} {m:FrameMode} (h:modeR D θ c m):modeR D' θ' c m:=by
 cases m with
 | run=>exact h.elim
 | returning=>exact h
 | panicking ps=>exact ⟨h.1,chainR.up ha hd h.2⟩
theorem UpR.up (ha:Ag D θ θ') (hd:∀ b,D b->D' b) {k:CallKind} {u:Option Chain} {cs:List Frame} (h:UpR D θ k u cs):UpR D' θ' k u cs:=by
 cases u with
 | none=>exact h
 | some ch =>
  cases cs with
  | nil=>exact h.elim
  | cons c r=>exact ⟨h.1,modeR.up ha hd h.2⟩
theorem RdR.up (ha:Ag D θ θ') (hd:∀ b,D b->D' b) {ro r:Option Nat} (h:RdR D θ ro r):RdR D' θ' ro r:=by
 cases r with
 | none=>exact h
 | some l=>exact ⟨hd l h.1,by rw [(ha l h.1).1];exact h.2⟩
theorem UpTo.refl {D:Nat->Prop} {θ:Th} {k:CallKind} {u:Option Chain} {cs:List Frame} (h:UpR D θ k u cs):UpTo u cs cs:=by
 cases u with
 | none=>rfl
 | some ch =>
  cases cs with
  | nil=>exact h.elim
  | cons c r=>exact ⟨c.mode,rfl⟩
theorem UpTo.trans {u u':Option Chain} (hu:u'.isSome=u.isSome) {cs cs' cs'':List Frame} (h:UpTo u cs cs') (h':UpTo u' cs' cs''):UpTo u cs cs'':=by
 cases u with
 | none =>
  cases u' with
  | none=>exact Eq.trans h' h
  | some _=>cases hu
 | some ch =>
  cases u' with
  | none=>cases hu
  | some ch' =>
   cases cs with
   | nil=>exact h.elim
   | cons c r =>
    obtain ⟨m,rfl⟩:=h
    obtain ⟨m',rfl⟩:=h'
    exact ⟨m',rfl⟩
theorem tmR.up (ha:Ag D θ θ') (hd:∀ b,D b->D' b) {tm:T AV} {a:Array Value} (h:tmR D θ tm a):tmR D' θ' tm a:=fun t v hv =>
 let ⟨c,h1,h2⟩:=h t v hv;⟨c,h1,h2.up ha hd⟩
theorem tmR.put {tm:T AV} {a:Array Value} (h:tmR D θ tm a) {d:Nat} (hd:d<a.size) {v:AV} {c:Value} (hv:VR D θ v c):tmR D θ (tm.set d v) (a.setIfInBounds d c):=by
 intro t x hx
 rw [T.get_set] at hx
 rw [kx]
 by_cases e:d=t
 ·subst e
  simp only [qbr,qb] at hx;subst hx
  exact ⟨c,by simp [hd],hv⟩
 ·simp only [e,yl] at hx ⊢
  exact h t x hx
theorem tmR.forget {a:Array Value}:∀ (ds:List Nat) {tm:T AV},tmR D θ tm a->tmR D θ (forget ds tm) a
 | [],_,h=>h
 | d::ds,tm,h=>tmR.forget ds (tm:=tm.put d none) (fun t v hv=>by
  rw [T.get_put] at hv
  split at hv
  ·cases hv
  ·exact h t v hv)
theorem T.get_forget:∀ (ds:List Nat) (tm:T AV) (t:Nat),(forget ds tm).get t=if t ∈ ds then none else tm.get t
 | [],tm,t=>by simp [Am.forget]
 | d::ds,tm,t=>by
  rw [Am.forget,T.get_forget ds,T.get_put]
  by_cases h1:t ∈ ds
  ·simp [h1]
  ·by_cases h2:d=t
   ·simp [h2]
   ·have h3:¬ t=d:=fun e=>h2 e.symm
    simp [h1,h2,h3]
end
section
variable {P:Program} {base:Nat} {D:Nat->Prop} {θ:Th} {H:AHeap} {w:World} {a:Act} {tm:T AV}
theorem evO_R (hh:HR P base D θ H w) (ht:tmR D θ tm a.tmps) {x:Operand} {y:AOpd} (hc:cOpd P.globals.size x=some y) {v:AV} (hv:evO tm y=some v):VR D θ v (a.eval x):=by
 cases x with
 | tmp t =>
  injection hc with hc;subst hc
  obtain ⟨c,h1,h2⟩:=ht t v hv
  simpa [Act.eval,h1] using h2
 | const k =>
  simp only [cOpd,qa,qb] at hc
  obtain ⟨u,hu,rfl⟩:=hc
  injection hv with hv;subst hv
  exact qyt hu
 | global g =>
  simp only [cOpd] at hc
  split at hc
  ·rename_i hg
   injection hc with hc;subst hc
   injection hv with hv;subst hv
   obtain ⟨h1,h2,h3⟩:=hh.glob g (by simpa [we] using hg)
   have:=VR.ptr (θ:=θ) (o:=0) h1
   rw [h2,h3] at this;exact this
  ·cases hc
 | func f =>
  injection hc with hc;subst hc
  injection hv with hv;subst hv
  exact fun _ _=>rfl
theorem evL_R (hh:HR P base D θ H w) (ht:tmR D θ tm a.tmps):∀ {xs:List Operand} {ys:List AOpd},cOpds P.globals.size xs=some ys -> ∀ {vs:List AV},evL tm ys=some vs->VRL D θ vs (xs.map a.eval)
 | [],ys,hc,vs,hv=>by
  injection hc with hc;subst hc
  injection hv with hv;subst hv
  exact .nil
 | x::xs,ys,hc,vs,hv=>by
  simp only [cOpds,qa,qb] at hc
  obtain ⟨y,hy,ys',hys,rfl⟩:=hc
  simp only [evL,qa,qb] at hv
  obtain ⟨v,h1,vs',h2,rfl⟩:=hv
  exact .cons (evO_R hh ht hy h1) (evL_R hh ht hys h2)
theorem qmp (x:AOpd) (tm:T AV):(evC x).run tm=evO tm x:=by
 cases x<;>simp [evC,evO,T.getC_run,T.get]
theorem qih:∀ (xs:List AOpd) (tm:T AV),(evLC xs).run tm=evL tm xs
 | [],_=>rfl
 | [x],tm=>by simp [evLC,evL,qmp]
 | x::y::xs,tm=>by
  rw [evLC,evL]
  ·simp only [qmp,qih (y::xs) tm]
  ·simp
theorem qym (a:Act):RhoOK a.eval:=⟨fun _=>rfl,fun _=>rfl⟩
theorem qu6 (d:Option Nat) (v:AV) (tm:T AV):(putDC d).run v tm=putD d v tm:=by
 cases d<;>simp [putDC,putD,T.putC_run,T.set,T.put]
end
inductive OpRes where
 | val (v:AV) (dfs:List ADef) (up:Option Chain) (H:AHeap)
 | panic (c:Chain) (H:AHeap)
def resOf (dfs:List ADef) (up:Option Chain) (r:AEnd × AHeap):OpRes :=
 match r.1 with
 | .ret v=>.val v dfs up r.2
 | .panic c=>.panic c r.2
def opR (rt:RT) (st:St) (vs:List AV):AOp->Option OpRes
 | .pure f=>(f vs).bind fun v=>some (.val v st.dfs st.up st.H)
 | .read f=>(f vs st.H).bind fun v=>some (.val v st.dfs st.up st.H)
 | .alloc f=>(f vs).bind fun r=>some (.val (r.2 st.H.next) st.dfs st.up (st.H.alloc r.1))
 | .eff f=>(f vs st.H).bind fun r=>some (.val r.1 st.dfs st.up r.2)
 | .callF f=>(enterA rt.call rt.round (.func f) vs st.H).bind fun r=>some (resOf st.dfs st.up r)
 | .callV=>match vs with
  | .fn (.func f) first cap::args=>(enterA rt.call rt.round (.func f) (first++(args++cap)) st.H).bind fun r=>some (resOf st.dfs st.up r)
  | .fn (.yield l) first []::args=>(enterA rt.call rt.round (.yield l) (first++args) st.H).bind fun r=>some (resOf st.dfs st.up r)
  | _=>none
 | .invoke name=>match vs with
  | .iface t v::args=>(rt.AP.meth t name).bind fun f=>(enterA rt.call rt.round (.func f) (v::args) st.H).bind fun r=>some (resOf st.dfs st.up r)
  | _=>none
 | .recover=>match rt.ctx.round with
  | some _=>none
  | none=>match vs with
   | []=>match st.up with
    | some ((v,false)::older)=>some (.val v st.dfs (some ((v,true)::older)) st.H)
    | _=>some (.val .nili st.dfs st.up st.H)
   | _=>none
 | .defer=>match rt.ctx.round with
  | some _=>none
  | none=>match vs with
   | .fn (.func f) first cap::args=>some (.val .undef (.fn (.func f) (first++(args++cap))::st.dfs) st.up st.H)
   | _=>none
 | .panic=>match vs with
  | [.iface t v]=>some (.panic [(.iface t v,false)] st.H)
  | _=>none
def finR (put:AV->T AV->T AV) (psafe:Option (List Nat)) (st:St) (k:St->Res):OpRes->Res
 | .val v dfs up H=>k ⟨put v st.tm,dfs,up,H⟩
 | .panic c H=>psafe.bind fun ds=>some (.panic c,⟨forget ds st.tm,st.dfs,st.up,H⟩)
theorem qti (put:AV->T AV->T AV) (psafe:Option (List Nat)) (st:St) (k:St->Res) (r:AEnd × AHeap):stepEnd put psafe st k r=finR put psafe st k (resOf st.dfs st.up r):=by
 unfold stepEnd resOf
 split<;>rename_i h<;>rw [h]<;>rfl
theorem q56 (put:AV->T AV->T AV) (psafe:Option (List Nat)) (rt:RT) (st:St) (k:St->Res) (vs:List AV) (op:AOp) :
 (opC put psafe op).run rt st k vs=(opR rt st vs op).bind (finR put psafe st k):=by
 cases op with
 | pure f=>simp only [opC,kPure,opR,jv,qf];rfl
 | read f=>simp only [opC,kRead,opR,jv,qf];rfl
 | alloc f=>simp only [opC,kAlloc,opR,jv,qf];rfl
 | eff f=>simp only [opC,kEff,opR,jv,qf];rfl
 | callF f=>simp only [opC,kCallF,opR,jv,qf,qti]
 | callV =>
  simp only [opC,kCallV,opR]
  split
  ·simp only [jv,qf,qti]
  ·simp only [jv,qf,qti]
  ·rename_i h1 h2
   split
   ·exact (h1 _ _ _ _ rfl).elim
   ·exact (h2 _ _ _ rfl).elim
   ·rfl
 | invoke name =>
  simp only [opC,kInvoke,opR]
  split
  ·simp only [jv,qf,qti]
  ·rename_i h1
   split
   ·exact (h1 _ _ _ rfl).elim
   ·rfl
 | recover =>
  simp only [opC,qss,opR]
  cases rt.ctx.round with
  | some l=>rfl
  | none =>
   cases vs with
   | cons x xs=>rfl
   | nil =>
    rcases hu:st.up with _|_|⟨⟨v,_|_⟩,older⟩<;>simp only [qpp,hu]<;>rfl
 | defer =>
  simp only [opC,kDefer,opR]
  cases rt.ctx.round with
  | some l=>rfl
  | none =>
   simp only
   split
   ·rfl
   ·rename_i h
    split
    ·exact (h _ _ _ _ rfl).elim
    ·rfl
 | panic =>
  simp only [opC,kPanic,opR]
  split
  ·simp only [qti,resOf,qf]
  ·rename_i h
   split
   ·exact (h _ _ rfl).elim
   ·rfl
end Go.Am
namespace Go.Am
section moves
variable {P:Program} {b:Frame} {a:Act} {k:List Item} {cs cs':List Frame} {w w':World} {ops:Array Oper} {i:Nat} {rest:List Nat} {o:Oper}
theorem qwc (ho:ops[i]? = some o) (v:Value):(b.atR a (.inRegion ops (i::rest)::k)).finish v=b.atR (a.put o.dst v) (.inRegion ops rest::k):=by
 rw [Frame.finish_atR,ho];rfl
theorem qk4 (ho:ops[i]? = some o) (hw:Region.wanted o (yielded ops a.tmps)=true) {v:Value} (hr:(o.semAt b.roundOf a.eval).run P w=.ok (.value v) w') :
 step P (lone (b.atR a (.inRegion ops (i::rest)::k)) cs w)=.next (lone (b.atR (a.put o.dst v) (.inRegion ops rest::k)) cs w') :=
 step_lone_go (by rw [stepGR_op ho hw,<-qwc ho];simp [stepG.apply,hr])
theorem qs2 (ho:ops[i]? = some o) (hw:Region.wanted o (yielded ops a.tmps)=true) (hr:(o.semAt b.roundOf a.eval).run P w=.ok .skip w') :
 step P (lone (b.atR a (.inRegion ops (i::rest)::k)) cs w)=.next (lone (b.atR (a.put o.dst undef) (.inRegion ops rest::k)) cs w') :=
 step_lone_go (by rw [stepGR_op ho hw,<-qwc ho];simp [stepG.apply,hr])
theorem at_defer (ho:ops[i]? = some o) (hw:Region.wanted o (yielded ops a.tmps)=true) {d:Deferred} (hr:(o.semAt b.roundOf a.eval).run P w=.ok (.defer d) w') :
 step P (lone (b.atR a (.inRegion ops (i::rest)::k)) cs w)=.next (lone (b.atR (({ a with defers:=d::a.defers }:Act).put o.dst undef) (.inRegion ops rest::k)) cs w'):=by
 refine step_lone_go ?_
 have:({ b.atR a (.inRegion ops (i::rest)::k) with defers:=d::a.defers }:Frame).finish undef =
  b.atR ({ a with defers:=d::a.defers }.put o.dst undef) (.inRegion ops rest::k):=by
  have:=Frame.finish_atR b { a with defers:=d::a.defers } ops i rest k undef
  rw [ho] at this;exact this
 rw [stepGR_op ho hw];simp only [stepG.apply,Sem.runT_eq,hr,GStep.bare_after]
 exact congrArg (fun fr=>GStep.go { frame:=fr,callers:=cs,status:=.running,dying:=none } w') this
theorem qxc (ho:ops[i]? = some o) (hw:Region.wanted o (yielded ops a.tmps)=true) {f:FuncId} {args:Array Value} (hr:(o.semAt b.roundOf a.eval).run P w=.ok (.enter f args) w') :
 step P (lone (b.atR a (.inRegion ops (i::rest)::k)) cs w)=.next (lone (Frame.enter P f args .normal) (b.atR a (.inRegion ops (i::rest)::k)::cs) w') :=
 step_lone_go (by rw [stepGR_op ho hw];simp [stepG.apply,hr,Frame.atR])
theorem at_round (ho:ops[i]? = some o) (hw:Region.wanted o (yielded ops a.tmps)=true) {l:Nat} {f:FuncId} {tmps:Array Value} {as body:Code} (hr:(o.semAt b.roundOf a.eval).run P w=.ok (.round l f tmps as body) w') :
 step P (lone (b.atR a (.inRegion ops (i::rest)::k)) cs w)=.next (lone (Frame.round l f tmps as body .normal) (b.atR a (.inRegion ops (i::rest)::k)::cs) w') :=
 step_lone_go (by rw [stepGR_op ho hw];simp [stepG.apply,hr,Frame.atR])
theorem at_panic (ho:ops[i]? = some o) (hw:Region.wanted o (yielded ops a.tmps)=true) {v:Value} (hr:(o.semAt b.roundOf a.eval).run P w=.halt (.panic v) w') :
 step P (lone (b.atR a (.inRegion ops (i::rest)::k)) cs w)=.next (lone { b.atR a (.inRegion ops (i::rest)::k) with mode:=.panicking [{ v,recovered:=false }] } cs w') :=
 step_lone_go (by rw [stepGR_op ho hw,<-Frame.raise_atR];simp [stepG.apply,hr])
theorem q3l (ho:ops[i]? = some o) (hw:Region.wanted o (yielded ops a.tmps)=true) (hb:b.roundOf=none) (hr:(o.semAt b.roundOf a.eval).run P w=.ok .recover w') {v:Value}
 (ht:tryRecover (b.atR a (.inRegion ops (i::rest)::k)) cs=some (v,cs')) :
 step P (lone (b.atR a (.inRegion ops (i::rest)::k)) cs w)=.next (lone (b.atR (a.put o.dst v) (.inRegion ops rest::k)) cs' w') :=
 step_lone_go (by
  rw [stepGR_op ho hw,<-qwc ho]
  have hb':(b.atR a (.inRegion ops (i::rest)::k)).roundOf=none:=hb
  simp [stepG.apply,hr,hb',ht])
theorem qs1 (ho:ops[i]? = some o) (hw:Region.wanted o (yielded ops a.tmps)=true) (hb:b.roundOf=none) (hr:(o.semAt b.roundOf a.eval).run P w=.ok .recover w')
 (ht:tryRecover (b.atR a (.inRegion ops (i::rest)::k)) cs=none) :
 step P (lone (b.atR a (.inRegion ops (i::rest)::k)) cs w)=.next (lone (b.atR (a.put o.dst .nilIface) (.inRegion ops rest::k)) cs w') :=
 step_lone_go (by
  rw [stepGR_op ho hw,<-qwc ho]
  have hb':(b.atR a (.inRegion ops (i::rest)::k)).roundOf=none:=hb
  simp [stepG.apply,hr,hb',ht])
end moves
def wt (P:Program) (base:Nat) (call:CallFn):Prop :=
 ∀ (D:Nat->Prop) θ H w f vs (args:Array Value) up H' e up' kind cs,HR P base D θ H w->VRL D θ vs args.toList->UpR D θ kind up cs->call f vs up H=some (e,up',H')->Fresh D H.next H'.next ->
  (∃ fn c,P.funcs[f]? = some fn/\fn.body=some c) /\
  ∃ θ' w' cs' fr e',Steps P (lone (Frame.enter P f args kind) cs w) (lone fr cs' w')/\fr.kind=kind/\fr.fn=f/\fr.going P w' e'/\endR (Up D H.next H'.next) θ' e e' /\
   HR P base (Up D H.next H'.next) θ' H' w'/\Grow D H θ w H' θ' w'/\up'.isSome=up.isSome/\UpTo up cs cs'/\UpR (Up D H.next H'.next) θ' kind up' cs'
def qbz (P:Program) (base:Nat) (round:RoundFn):Prop :=
 ∀ (D:Nat->Prop) θ H w l vs (args:Array Value) H' e (c:Frame) cs,HR P base D θ H w->VRL D θ vs args.toList->round vs l H=some (e,H')->Fresh D H.next H'.next ->
  ∃ f tmps as body,(Instr.yield (θ.blk l) args).run P w=.ok (.round (θ.blk l) f tmps as body) w /\
  ∃ θ' w' fin,Steps P (lone (Frame.round (θ.blk l) f tmps as body .normal) (c::cs) w) (lone fin cs w') /\
   (match e with
    | .ret v=>∃ cv,VR (Up D H.next H'.next) θ' v cv/\fin=c.finish cv
    | .panic ch=>∃ ps,ch ≠ []/\chainR (Up D H.next H'.next) θ' ch ps/\fin=c.raise ps) /\
   HR P base (Up D H.next H'.next) θ' H' w'/\Grow D H θ w H' θ' w'
def OpRes.heap:OpRes->AHeap
 | .val _ _ _ H=>H
 | .panic _ H=>H
def OpOut (P:Program) (base:Nat) (D:Nat->Prop) (θ:Th) (st:St) (b:Frame) (a:Act) (ops:Array Oper) (i:Nat) (rest:List Nat) (k:List Item) (cs:List Frame) (w:World) (o:Oper):OpRes->Prop
 | .val v dfs up H'=>∃ θ' w' c cs' ds,Steps P (lone (b.atR a (.inRegion ops (i::rest)::k)) cs w) (lone (b.atR (({ a with defers:=ds }:Act).put o.dst c) (.inRegion ops rest::k)) cs' w') /\
  HR P base (Up D st.H.next H'.next) θ' H' w'/\Grow D st.H θ w H' θ' w'/\VR (Up D st.H.next H'.next) θ' v c/\dfsR (Up D st.H.next H'.next) θ' dfs ds/\up.isSome=st.up.isSome /\
  UpR (Up D st.H.next H'.next) θ' b.kind up cs'/\UpTo st.up cs cs'
 | .panic ch H'=>∃ θ' w' ps todo,Steps P (lone (b.atR a (.inRegion ops (i::rest)::k)) cs w) (lone { b.atR a todo with mode:=.panicking ps } cs w') /\
  HR P base (Up D st.H.next H'.next) θ' H' w'/\Grow D st.H θ w H' θ' w'/\ch ≠ []/\chainR (Up D st.H.next H'.next) θ' ch ps
section
variable {P:Program} {base:Nat} {D:Nat->Prop} {θ:Th}
theorem qii {fr:Frame} {w:World} {e:Ending} (h:fr.going P w e) (hk:fr.kind=.normal):fr.leaving P w e:=by
 cases e with
 | returned v=>obtain ⟨h1,h2,h3⟩:=h;exact ⟨h1,h2,hk,h3⟩
 | panicked c=>exact h
 | outgrown=>trivial
theorem qh3 {f:FuncId} {fn:Func} {c:Code} {args:Array Value} {w:World} (hP:PGood P) (hf:P.funcs[f]? = some fn) (hb:fn.body=some c):(callFunc f args).run P w=.ok (.enter f args) w:=by
 simp [callFunc,hf,hb,hP.names f fn hf]
theorem q4n {t:TypeId} {name:String} {f:Nat} (h:cMeth P t name=some f) (v:Value) (w:World):(method (P.types.size+Made.depth) t v name).run P w=.ok (f,v) w:=by
 unfold cMeth at h
 simp only [qa] at h
 obtain ⟨i,hi,m,hm,h⟩:=h
 split at h
 ·cases h
 ·rename_i hpe
  simp only [qa] at h
  obtain ⟨p,hp,h⟩:=h
  have hpath:m.path.toList=[]:=by
   have:m.path.isEmpty=true:=by simpa using hpe
   simpa using this
  obtain ⟨n,hn⟩:∃ n,P.types.size+Made.depth=n+1:=⟨P.types.size+99,rfl⟩
  rw [hn]
  obtain ⟨pf,pr⟩:=p
  have hinfo:(typeInfo t).run P w=.ok i w:=by simp [typeInfo,hi]
  simp only [method,Sem.run_bind,hinfo,Result.andThen_ok,hm,hpath,follow,Sem.run_pure,hp]
  cases hu:P.underlying t with
  | none=>rw [hu] at h;cases h
  | some d =>
   rw [hu] at h
   have hr:∀ wr,d=d->(receiverAt t (.val v) pr wr).run P w=.ok v w/\pf=f:=by
    intro wr _
    cases d<;>cases pr<;>simp only [reduceCtorEq,qb] at h<;>exact ⟨by simp [receiverAt,zh hu,Place.get],h⟩
   simp [(hr _ rfl).1,(hr none rfl).2]
theorem qog {call:CallFn} (hc:wt P base call) {st:St} {b:Frame} {a:Act} {ops:Array Oper} {i:Nat} {rest:List Nat} {k:List Item} {cs:List Frame} {w:World} {o:Oper}
 (ho:ops[i]? = some o) (hh:HR P base D θ st.H w) (hd:dfsR D θ st.dfs a.defers) (hu:UpR D θ b.kind st.up cs) {f:Nat} {vs:List AV} {args:Array Value} (hv:VRL D θ vs args.toList)
 (hs:(∃ fn c,P.funcs[f]? = some fn/\fn.body=some c)->step P (lone (b.atR a (.inRegion ops (i::rest)::k)) cs w)=.next (lone (Frame.enter P f args .normal) (b.atR a (.inRegion ops (i::rest)::k)::cs) w))
 {r:AEnd × AHeap} {u:Option Chain} (hr:call f vs none st.H=some (r.1,u,r.2)) (hf:Fresh D st.H.next r.2.next) :
 OpOut P base D θ st b a ops i rest k cs w o (resOf st.dfs st.up r):=by
 obtain ⟨hfn,θ',w',cs',fr,e',g1,g2,g3,g4,g5,g6,g7,g8,g9,g10⟩:=hc D θ st.H w f vs args none r.2 r.1 u .normal (b.atR a (.inRegion ops (i::rest)::k)::cs) hh hv rfl hr hf
 have hcs:cs'=b.atR a (.inRegion ops (i::rest)::k)::cs:=g9
 subst hcs
 have hstep:=hs hfn
 have hl:=qii g4 g2
 obtain ⟨e,H'⟩:=r
 cases e with
 | ret v =>
  cases e' with
  | returned c =>
   refine ⟨θ',w',c,cs,a.defers,.head hstep (g1.trans (.one ?_)),g6,g7,g5,dfsR.up g7.ag Up.of hd,rfl,UpR.up g7.ag Up.of hu,UpTo.refl hu⟩
   rw [step_leave_returned hl,qwc ho]
  | panicked c=>exact g5.elim
  | outgrown=>exact g5.elim
 | panic ch =>
  cases e' with
  | returned c=>exact g5.elim
  | panicked ps =>
   refine ⟨θ',w',ps,.inRegion ops (i::rest)::k,.head hstep (g1.trans (.one ?_)),g6,g7,g5.1,g5.2⟩
   rw [step_leave_panicked hl,Frame.raise_atR]
  | outgrown=>exact g5.elim
theorem q2p {f:AFn} {first cap:List AV} {c:Value} (h:VR D θ (.fn f first cap) c):∃ x y:List Value,c=.func (concFn θ f) x.toArray y.toArray/\VRL D θ first x/\VRL D θ cap y/\(∀ θ',Ag D θ θ'->concFn θ' f=concFn θ f):=by
 refine ⟨concL θ first,concL θ cap,h.now.symm,fun θ' ha=>?_,fun θ' ha=>?_,fun θ' ha=>?_⟩ <;>
 ·have:=(h θ' ha).trans h.now.symm
  simp only [conc,Value.func.injEq] at this
  first
  | exact this.1
  | (have:=this.2.1;simpa using this)
  | (have:=this.2.2;simpa using this)
set_option maxHeartbeats 1000000 in
theorem qx7 (hP:PGood P) {rt:RT} (hcall:wt P base rt.call) (hround:qbz P base rt.round) (hAP:rt.AP=cProg P) {o:Oper} {aop:AOp} {xs:List Operand} (hok:OpOK P o xs aop) (hdef:DefOK o aop)
 {ops:Array Oper} {i:Nat} {rest:List Nat} {a:Act} (ho:ops[i]? = some o) (hw:Region.wanted o (yielded ops a.tmps)=true) {st:St} {w:World} {b:Frame} {k:List Item} {cs:List Frame} {vs:List AV} {r:OpRes}
 (hh:HR P base D θ st.H w) (hd:dfsR D θ st.dfs a.defers) (hu:UpR D θ b.kind st.up cs) (hb:RdR D θ b.roundOf rt.ctx.round) (hv:VRL D θ vs (xs.map a.eval)) (hr:opR rt st vs aop=some r)
 (hf:Fresh D st.H.next r.heap.next):OpOut P base D θ st b a ops i rest k cs w o r:=by
 have hsame:Up D st.H.next st.H.next=D:=Up.none
 have hnd:aop ≠ .defer->aop ≠ .pure Op.fail->o.semAt b.roundOf a.eval=execOp a.eval o:=fun q1 q2=>Oper.semAt_eq _ _ _ (by
  rcases hdef with h|h|h
  ·exact h
  ·exact absurd h q1
  ·exact absurd h q2)
 cases aop with
 | pure f =>
  simp only [opR,qa,qb] at hr
  obtain ⟨v,h1,rfl⟩:=hr
  obtain ⟨c,g1,g2⟩:=hok D θ a.eval w vs v (qym a) hv h1
  have hsem:o.semAt b.roundOf a.eval=execOp a.eval o:=hnd (by intro q;cases q) (by intro q;injection q with q;subst q;cases h1)
  refine ⟨θ,w,c,cs,a.defers,.one ?_,by rw [hsame];exact hh,.refl _ _ _ _,by rw [hsame];exact g2,by rw [hsame];exact hd,rfl,by rw [hsame];exact hu,UpTo.refl hu⟩
  rcases g1 with g1|⟨g1,rfl⟩
  ·exact qk4 ho hw (by rw [hsem];exact g1)
  ·exact qs2 ho hw (by rw [hsem];exact g1)
 | read f =>
  simp only [opR,qa,qb] at hr
  obtain ⟨v,h1,rfl⟩:=hr
  obtain ⟨c,g1,g2⟩:=hok base D θ st.H a.eval w vs v hh hv h1
  have hsem:o.semAt b.roundOf a.eval=execOp a.eval o:=hnd (by intro q;cases q) (by intro q;cases q)
  refine ⟨θ,w,c,cs,a.defers,.one ?_,by rw [hsame];exact hh,.refl _ _ _ _,by rw [hsame];exact g2,by rw [hsame];exact hd,rfl,by rw [hsame];exact hu,UpTo.refl hu⟩
  rcases g1 with g1|⟨g1,rfl⟩
  ·exact qk4 ho hw (by rw [hsem];exact g1)
  ·exact qs2 ho hw (by rw [hsem];exact g1)
 | alloc f =>
  simp only [opR,qa,qb] at hr
  obtain ⟨⟨ob,mk⟩,h1,rfl⟩:=hr
  obtain ⟨hown,w0,co,ext,c,g1,g2,g3⟩:=hok.1 D θ a.eval w vs ob mk (qym a) hv h1
  have hsem:o.semAt b.roundOf a.eval=execOp a.eval o:=hnd (by intro q;cases q) (by intro q;cases q)
  have hn:¬ D st.H.next:=hf _ (qe _) (xp _)
  have hag:=Th.add_ag θ st.H.next w0.heap.size 0 ext hn
  obtain ⟨e1,e2,e3⟩:=Th.add_new θ st.H.next w0.heap.size 0 ext
  obtain ⟨k1,k2⟩:=g3 (Up D st.H.next (st.H.next+1)) (θ.add st.H.next w0.heap.size 0 ext) st.H.next hag Up.of (.inr ⟨qe _,xp _⟩) (by rw [e1,g2.heap]) e2 e3
  have hh0:HR P base D θ st.H w0:=hh.draw g2.heap
  refine ⟨θ.add st.H.next w0.heap.size 0 ext,w0.alloc co,c,cs,a.defers,.one (qk4 ho hw (by rw [hsem];exact g1)),?_,?_,k2,dfsR.up hag Up.of hd,rfl,UpR.up hag Up.of hu,UpTo.refl hu⟩
  ·refine hh0.alloc hn ?_ ?_ (qe _) ?_ k1
   ·rw [qe9];simp
   ·intro j hj;rw [qe9,qo (qgg hj)]
   ·simp
  ·exact (Grow.draw (w:=w) (w':=w0) g2.heap g2.os g2.tape g2.output).trans (Grow.alloc (w:=w0) hh0 hn _ _ _ _) (fun _ h=>h)
 | eff f =>
  simp only [opR,qa,qb] at hr
  obtain ⟨⟨v,H'⟩,h1,rfl⟩:=hr
  obtain ⟨θ',w',c,g1,g2,g3,g4⟩:=hok.1 base D θ st.H a.eval w vs v H' hh hv h1 hf
  have hsem:o.semAt b.roundOf a.eval=execOp a.eval o:=hnd (by intro q;cases q) (by intro q;cases q)
  refine ⟨θ',w',c,cs,a.defers,.one ?_,g2,g3,g4,dfsR.up g3.ag Up.of hd,rfl,UpR.up g3.ag Up.of hu,UpTo.refl hu⟩
  rcases g1 with g1|⟨g1,rfl⟩
  ·exact qk4 ho hw (by rw [hsem];exact g1)
  ·exact qs2 ho hw (by rw [hsem];exact g1)
 | callF f =>
  obtain ⟨c,fn,body,h1,h2,rfl,h3,h4⟩:=hok
  simp only [opR,enterA,jv,qf,qa,qb] at hr
  obtain ⟨⟨e,u,H'⟩,hc,rfl⟩:=hr
  have hsem:o.semAt b.roundOf a.eval=execOp a.eval o:=Oper.semAt_eq _ _ _ (fun c'=>by rw [h1];simp)
  refine qog hcall ho hh hd hu (args:=c.args.map a.eval) (by simpa using hv) (fun _=>qxc ho hw ?_) hc (by cases e<;>exact hf)
  rw [hsem]
  simp [execOp,h1,resolve,h2,Act.eval,Deferred.ofValue,invoke,qh3 hP h3 h4]
 | callV =>
  obtain ⟨c,x,h1,h2,rfl⟩:=hok
  have hsem:o.semAt b.roundOf a.eval=execOp a.eval o:=Oper.semAt_eq _ _ _ (fun c'=>by rw [h1];simp)
  simp only [opR] at hr
  split at hr
  ·rename_i f first cap args
   simp only [enterA,jv,qf,qa,qb] at hr
   obtain ⟨⟨e,u,H'⟩,hc,rfl⟩:=hr
   obtain ⟨cf,ca,hce,q1,q2⟩:=hv.uncons
   simp only [xw,xl] at hce
   obtain ⟨rfl,rfl⟩:=hce
   obtain ⟨fi,ci,q3,q4,q5,_⟩:=q2p q1
   refine qog hcall ho hh hd hu (args:=(fi.toArray++c.args.map a.eval)++ci.toArray) ?_ (fun hfn=>qxc ho hw ?_) hc (by cases e<;>exact hf)
   ·simpa using q4.app (q2.app q5)
   ·obtain ⟨fn,body,h3,h4⟩:=hfn
    rw [hsem]
    simp [execOp,h1,resolve,h2,q3,concFn,Deferred.ofValue,invoke,qh3 hP h3 h4]
  ·rename_i l first args
   simp only [enterA,qa,qb] at hr
   obtain ⟨⟨e,H'⟩,hc,rfl⟩:=hr
   obtain ⟨cf,ca,hce,q1,q2⟩:=hv.uncons
   simp only [xw,xl] at hce
   obtain ⟨rfl,rfl⟩:=hce
   obtain ⟨fi,ci,q3,q4,q5,_⟩:=q2p q1
   have hf':Fresh D st.H.next H'.next:=by cases e<;>exact hf
   obtain ⟨f,tmps,as,body,g1,θ',w',fin,g2,g3,g4,g5⟩:=hround D θ st.H w l (first++args) (fi.toArray++c.args.map a.eval) H' e (b.atR a (.inRegion ops (i::rest)::k)) cs hh (by simpa using q4.app q2) hc hf'
   have hstep:=at_round (P:=P) (b:=b) (k:=k) (cs:=cs) (w:=w) (rest:=rest) ho hw (l:=θ.blk l) (f:=f) (tmps:=tmps) (as:=as) (body:=body) (w':=w) (by
    rw [hsem]
    simp [execOp,h1,resolve,h2,q3,concFn,Deferred.ofValue,invoke,g1])
   cases e with
   | ret v =>
    obtain ⟨cv,k1,rfl⟩:=g3
    refine ⟨θ',w',cv,cs,a.defers,.head hstep ?_,g4,g5,k1,dfsR.up g5.ag Up.of hd,rfl,UpR.up g5.ag Up.of hu,UpTo.refl hu⟩
    rw [qwc ho] at g2;exact g2
   | panic ch =>
    obtain ⟨ps,k0,k1,rfl⟩:=g3
    refine ⟨θ',w',ps,.inRegion ops (i::rest)::k,.head hstep ?_,g4,g5,k0,k1⟩
    rw [Frame.raise_atR] at g2;exact g2
  ·cases hr
 | invoke m =>
  obtain ⟨c,x,h1,h2,rfl⟩:=hok
  have hsem:o.semAt b.roundOf a.eval=execOp a.eval o:=Oper.semAt_eq _ _ _ (fun c'=>by rw [h1];simp)
  simp only [opR] at hr
  split at hr
  ·rename_i t v args
   simp only [enterA,jv,qf,qa,qb] at hr
   obtain ⟨f,hm,⟨e,u,H'⟩,hc,rfl⟩:=hr
   obtain ⟨cf,ca,hce,q1,q2⟩:=hv.uncons
   simp only [xw,xl] at hce
   obtain ⟨rfl,rfl⟩:=hce
   obtain ⟨cv,q3,q4⟩:=q1.iface_inv
   rw [hAP] at hm
   have hm':cMeth P t m=some f:=hm
   refine qog hcall ho hh hd hu (args:=#[cv]++c.args.map a.eval) (by simpa using VRL.cons q4 q2) (fun hfn=>qxc ho hw ?_) hc (by cases e<;>exact hf)
   obtain ⟨fn,body,h3,h4⟩:=hfn
   rw [hsem]
   have hx:(#[Value.iface t cv]++c.args.map a.eval)[0]? = some (.iface t cv):=by
    rw [Array.getElem?_append];simp
   have hx2:(#[Value.iface t cv]++c.args.map a.eval).extract 1 (#[Value.iface t cv]++c.args.map a.eval).size=c.args.map a.eval:=by
    apply qfp
    rw [Array.toList_extract,Array.toList_append]
    simp [List.extract,zb]
   simp only [execOp,h1,resolve,h2,Sem.run_bind,Sem.run_pure,Result.andThen_ok,invoke,q3,hx,hx2,callMethod,program,Sem.run,q4n hm',qh3 hP h3 h4]
  ·cases hr
 | recover =>
  obtain ⟨c,h1,h2,rfl⟩:=hok
  have hsem:o.semAt b.roundOf a.eval=execOp a.eval o:=Oper.semAt_eq _ _ _ (fun c'=>by rw [h1];simp)
  simp only [opR] at hr
  split at hr
  ·cases hr
  ·rename_i hnone
   rw [hnone] at hb
   have hb:b.roundOf=none:=hb
   have hrun:(o.semAt b.roundOf a.eval).run P w=.ok .recover w:=by
    rw [hsem]
    obtain ⟨cc,hE⟩:=yw (ρ:=a.eval) h1 h2
    rw [hE];rfl
   split at hr
   ·split at hr
    ·rename_i v older hup
     injection hr with hr;subst hr
     rw [hup] at hu
     cases cs with
     | nil=>exact hu.elim
     | cons c0 cs0 =>
      obtain ⟨hk,hm⟩:=hu
      cases hmode:c0.mode with
      | run=>rw [hmode] at hm;exact hm.elim
      | returning=>rw [hmode] at hm;cases hm
      | panicking ps =>
       rw [hmode] at hm
       obtain ⟨_,hm⟩:=hm
       cases ps with
       | nil=>exact hm.elim
       | cons p ps =>
        obtain ⟨⟨m1,m2,m3⟩,m4⟩:=hm
        obtain ⟨pv,pr,pg⟩:=p
        simp only at m1 m2 m3
        subst m2;subst m3
        refine ⟨θ,w,pv,{ c0 with mode:=.panicking ({ v:=pv,recovered:=true }::ps) }::cs0,a.defers,.one ?_,by rw [hsame];exact hh,.refl _ _ _ _,by rw [hsame];exact m1,by rw [hsame];exact hd,by rw [hup];rfl,?_,?_⟩
        ·refine q3l ho hw hb hrun ?_
         simp [tryRecover,Frame.atR,hk,hmode]
        ·rw [hsame]
         exact ⟨hk,by simp,⟨m1,rfl,rfl⟩,m4⟩
        ·rw [hup];exact ⟨_,rfl⟩
    ·rename_i hup
     injection hr with hr;subst hr
     refine ⟨θ,w,.nilIface,cs,a.defers,.one (qs1 ho hw hb hrun ?_),by rw [hsame];exact hh,.refl _ _ _ _,fun _ _=>rfl,by rw [hsame];exact hd,rfl,by rw [hsame];exact hu,UpTo.refl hu⟩
     unfold tryRecover
     cases hupc:st.up with
     | none =>
      rw [hupc] at hu
      have hk:b.kind=.normal:=hu
      simp [Frame.atR,hk]
     | some ch =>
      rw [hupc] at hu
      cases cs with
      | nil=>exact hu.elim
      | cons c0 cs0 =>
       obtain ⟨hk,hm⟩:=hu
       cases hmode:c0.mode with
       | run=>rw [hmode] at hm;exact hm.elim
       | returning=>simp [Frame.atR,hk,hmode]
       | panicking ps =>
        rw [hmode] at hm
        obtain ⟨_,hm⟩:=hm
        cases ps with
        | nil=>simp [Frame.atR,hk,hmode]
        | cons p ps =>
         cases ch with
         | nil=>exact hm.elim
         | cons e es =>
          obtain ⟨⟨m1,m2,m3⟩,m4⟩:=hm
          obtain ⟨pv,pr,pg⟩:=p
          obtain ⟨ev,er⟩:=e
          simp only at m2 m3
          subst m2;subst m3
          cases pr with
          | false=>exact absurd hupc (hup _ _)
          | true=>simp [Frame.atR,hk,hmode]
   ·cases hr
 | defer =>
  obtain ⟨c,x,h1,h2,rfl⟩:=hok
  simp only [opR] at hr
  split at hr
  ·cases hr
  ·rename_i hnone
   rw [hnone] at hb
   have hb:b.roundOf=none:=hb
   split at hr
   ·rename_i f first cap args
    injection hr with hr;subst hr
    obtain ⟨cf,ca,hce,q1,q2⟩:=hv.uncons
    simp only [xw,xl] at hce
    obtain ⟨rfl,rfl⟩:=hce
    obtain ⟨fi,ci,q3,q4,q5,q6⟩:=q2p q1
    refine ⟨θ,w,undef,cs,{ target:=.fn (.func f) ci.toArray,args:=fi.toArray++c.args.map a.eval }::a.defers,.one ?_,by rw [hsame];exact hh,.refl _ _ _ _,.undef,?_,rfl,by rw [hsame];exact hu,UpTo.refl hu⟩
    ·refine at_defer ho hw ?_
     rw [hb,Oper.semAt_none]
     simp [execOp,h1,resolve,h2,q3,concFn,Deferred.ofValue]
    ·rw [hsame]
     exact ⟨⟨_,_,rfl,fun _ _=>rfl,by simpa using q4.app (q2.app q5)⟩,hd⟩
   ·cases hr
 | panic =>
  simp only [opR] at hr
  split at hr
  ·rename_i t v
   injection hr with hr;subst hr
   obtain ⟨x,rfl,q1⟩:=hv.len1
   obtain ⟨cv,q3,q4⟩:=q1.iface_inv
   have hrun:(o.semAt b.roundOf a.eval).run P w=.halt (.panic (a.eval x)) w:=by
    rcases hok with ⟨y,h1,hy⟩|⟨c,h1,h2,hy⟩
    ·simp only [xl,vn] at hy;subst hy
     rw [Oper.semAt_eq _ _ _ (fun c'=>by rw [h1];simp)]
     simp [execOp,h1,q3,Instr.panic,goPanic]
    ·rw [Oper.semAt_eq _ _ _ (fun c'=>by rw [h1];simp)]
     obtain ⟨cc,hE⟩:=yw (ρ:=a.eval) h1 h2
     rw [hE,wx hy.symm]
     simp [builtin,q3,Instr.panic,goPanic]
   refine ⟨θ,w,[{ v:=a.eval x,recovered:=false }],.inRegion ops (i::rest)::k,.one (at_panic ho hw hrun),by rw [hsame];exact hh,.refl _ _ _ _,by simp,?_⟩
   rw [hsame]
   exact ⟨⟨q1,rfl,rfl⟩,trivial⟩
  ·cases hr
end
end Go.Am
namespace Go.Am
def wantedA (s:AStep) (tm:T AV):Option Bool :=
 match s.guard with
 | none=>some true
 | some g=>wantV g.2 (tm.get g.1)
theorem qvf (s:AStep) (hc:s.chk=false) (rt:RT) (K:St->Res) (st:St) :
 (stepC s).run rt K st=(wantedA s st.tm).bind fun w=>cond w ((evL st.tm s.args).bind fun vs=>(opR rt st vs s.op).bind (finR (putD s.dst) s.psafe st K)) (K ⟨putD s.dst .undef st.tm,st.dfs,st.up,st.H⟩):=by
 have hput:(putDC s.dst).run=putD s.dst:=by funext v tm;exact qu6 _ _ _
 unfold stepC wantedA
 rw [hc]
 cases hg:s.guard with
 | none=>simp only [qf,qz,qih,q56,hput]
 | some g=>simp only [qih,q56,hput,T.getC_run,T.get]
theorem qpu (s:AStep) (hc:s.chk=true) {d:Nat} (hd:s.dst=some d) (rt:RT) (K:St->Res) (st:St) :
 (stepC s).run rt K st=(wantedA s st.tm).bind fun w=>cond w ((evL st.tm s.args).bind fun vs=>cond (chkOp (fun t=>t.get d) st vs s.op) (K st) none) (K st):=by
 have hget:(T.getC (α:=AV) (T.path d)).run=fun t=>t.get d:=by funext t;exact T.getC_run _ _
 unfold stepC wantedA
 rw [hc,hd]
 cases hg:s.guard with
 | none=>simp only [qf,qz,qih,hget]
 | some g =>
  simp only [qih,hget]
  rw [show (T.getC (T.path g.1)).run st.tm=st.tm.get g.1 from T.getC_run _ _]
theorem qoe (s:AStep) (hc:s.chk=true) (hd:s.dst=none) (rt:RT) (K:St->Res) (st:St):(stepC s).run rt K st=none:=by
 unfold stepC
 rw [hc,hd]
 cases s.guard<;>rfl
def qak (call:CallFn):Prop:=∀ f vs up H e up' H',call f vs up H=some (e,up',H')->Ext H H'
def qd8 (round:RoundFn):Prop:=∀ vs l H e H',round vs l H=some (e,H')->Ext H H'
def qdi:ACode->Prop
 | .region steps=>∀ s ∈ steps,OpMono s.op
 | .seq a b=>qdi a/\qdi b
 | .cond _ a b=>qdi a/\qdi b
 | .block _ b=>qdi b
 | .loop _ b=>qdi b
 | .scope b=>qdi b
 | _=>True
def funcMono (fn:AFunc):Prop:=qdi fn.body /\ ∀ lp ∈ fn.loops,qdi lp.assign/\qdi lp.body
def qsv (AP:AProg):Prop:=∀ f fn,AP.func f=some fn->funcMono fn
section
variable {rt:RT} (hc:qak rt.call) (hr:qd8 rt.round)
include hc hr
theorem q1l {op:AOp} (ho:OpMono op) {st:St} {vs:List AV} {r:OpRes} (h:opR rt st vs op=some r):Ext st.H r.heap:=by
 have hres:∀ (q:AEnd × AHeap),Ext st.H q.2->Ext st.H (resOf st.dfs st.up q).heap:=by
  intro q hq;obtain ⟨e,H'⟩:=q;cases e<;>exact hq
 cases op with
 | pure f=>simp only [opR,qa,qb] at h;obtain ⟨_,_,rfl⟩:=h;exact Ext.refl _
 | read f=>simp only [opR,qa,qb] at h;obtain ⟨_,_,rfl⟩:=h;exact Ext.refl _
 | alloc f=>simp only [opR,qa,qb] at h;obtain ⟨⟨ob,mk⟩,h1,rfl⟩:=h;exact Ext.alloc _ _ (ho _ _ _ h1)
 | eff f=>simp only [opR,qa,qb] at h;obtain ⟨⟨v,H'⟩,h1,rfl⟩:=h;exact ho _ _ _ _ h1
 | callF f =>
  simp only [opR,enterA,jv,qf,qa,qb] at h
  obtain ⟨⟨e,u,H'⟩,h1,rfl⟩:=h
  exact hres _ (hc _ _ _ _ _ _ _ h1)
 | callV =>
  simp only [opR] at h
  split at h
  ·simp only [enterA,jv,qf,qa,qb] at h
   obtain ⟨⟨e,u,H'⟩,h1,rfl⟩:=h
   exact hres _ (hc _ _ _ _ _ _ _ h1)
  ·simp only [enterA,qa,qb] at h
   obtain ⟨⟨e,H'⟩,h1,rfl⟩:=h
   exact hres _ (hr _ _ _ _ _ h1)
  ·cases h
 | invoke m =>
  simp only [opR] at h
  split at h
  ·simp only [enterA,jv,qf,qa,qb] at h
   obtain ⟨_,_,⟨e,u,H'⟩,h1,rfl⟩:=h
   exact hres _ (hc _ _ _ _ _ _ _ h1)
  ·cases h
 | recover =>
  simp only [opR] at h
  split at h
  ·cases h
  ·split at h
   ·split at h<;>(injection h with h;subst h;exact Ext.refl _)
   ·cases h
 | defer =>
  simp only [opR] at h
  split at h
  ·cases h
  ·split at h
   ·injection h with h;subst h;exact Ext.refl _
   ·cases h
 | panic =>
  simp only [opR] at h
  split at h
  ·injection h with h;subst h;exact Ext.refl _
  ·cases h
theorem q2w {op:AOp} (ho:OpMono op) {st:St} {vs:List AV} {r:OpRes} (h:opR rt st vs op=some r):st.H.next<=r.heap.next:=(q1l hc hr ho h).1
theorem q6r {s:AStep} (ho:OpMono s.op) {K:St->Res} (hK:∀ st r,K st=some r->Ext st.H r.2.H) {st:St} {r:AExit × St} (h:(stepC s).run rt K st=some r):Ext st.H r.2.H:=by
 cases hch:s.chk with
 | false =>
  rw [qvf s hch,qa] at h
  obtain ⟨w,hw,h⟩:=h
  cases w with
  | false =>
   simp only [xy] at h
   have h9:=hK _ _ h
   exact h9
  | true =>
   simp only [qz,qa] at h
   obtain ⟨vs,_,q,hq,h⟩:=h
   have h1:=q1l hc hr ho hq
   cases q with
   | val v d u H'=>exact Ext.trans h1 (hK _ _ h)
   | panic c H' =>
    simp only [finR,qa,qb] at h
    obtain ⟨_,_,rfl⟩:=h
    exact h1
 | true =>
  cases hd:s.dst with
  | none=>rw [qoe s hch hd] at h;cases h
  | some d =>
   rw [qpu s hch hd,qa] at h
   obtain ⟨w,hw,h⟩:=h
   cases w with
   | false =>
    simp only [xy] at h
    exact hK _ _ h
   | true =>
    simp only [qz,qa] at h
    obtain ⟨vs,_,h⟩:=h
    rcases z9 h with ⟨_,h⟩|⟨_,h⟩
    ·exact hK _ _ h
    ·cases h
theorem qq4:∀ {l:List AStep},(∀ s ∈ l,OpMono s.op) -> ∀ {st:St} {r:AExit × St},(stepsC l).run rt st=some r->Ext st.H r.2.H
 | [],_,st,r,h=>by injection h with h;subst h;exact Ext.refl _
 | s::l,ho,st,r,h=>q6r hc hr (ho s (by simp)) (fun st r h=>qq4 (fun s hs=>ho s (by simp [hs])) h) h
theorem q16 {l:List AStep} (hl:∀ s ∈ l,OpMono s.op) {st:St} {r:AExit × St} (h:(stepsC l).run rt st=some r):st.H.next<=r.2.H.next:=(qq4 hc hr hl h).1
omit hc hr in
theorem quc {body:St->Res} (hb:∀ st r,body st=some r->Ext st.H r.2.H) (keep:Option (List Nat)):∀ (n:Nat) (st:St) (r:AExit × St),loopN keep body n st=some r->Ext st.H r.2.H
 | 0,st,r,h=>by cases h
 | n+1,st,r,h=>by
  simp only [loopN,qa] at h
  obtain ⟨q,hq,h⟩:=h
  have h1:=hb _ _ hq
  have h1:Ext st.H q.2.H:=by cases keep<;>exact h1
  split at h
  ·exact Ext.trans h1 (quc hb keep n _ _ h)
  ·injection h with h;subst h;exact h1
omit hc hr in
theorem q34 {body:St->Res} (hb:∀ st r,body st=some r->Ext st.H r.2.H) (keep:Option (List Nat)) (n:Nat) (st:St) (r:AExit × St) (h:loopN keep body n st=some r):st.H.next<=r.2.H.next:=(quc hb keep n st r h).1
omit hr in
theorem qq3 {st:St} {k:Nat} {H0:AHeap} {dfs:List ADef} {d:Nat} {v:AV} {r:AExit × St} (h0:Ext st.H H0) (h:rangeA rt.call rt.round rt.ctx st k H0 dfs d v=some r):Ext st.H r.2.H:=by
 unfold rangeA at h
 split at h
 ·simp only [enterA,jv,qf,qa] at h
  obtain ⟨⟨e,u,H'⟩,h1,h⟩:=h
  have h2:=(h0.trans (Ext.alloc _ _ rfl)).trans (hc _ _ _ _ _ _ _ h1)
  unfold qnr at h
  split at h
  ·injection h with h;subst h;exact h2
  ·split at h
   ·cases h
   ·rename_i hg;injection h with h;subst h;exact h2.trans (Ext.set hg _ (fun _=>rfl))
   ·cases h
 ·cases h
omit hr in
theorem q1p {st:St} {k:Nat} {H0:AHeap} {dfs:List ADef} {d:Nat} {v:AV} {r:AExit × St} (h0:Ext st.H H0) (h:rangeA rt.call rt.round rt.ctx st k H0 dfs d v=some r):st.H.next<=r.2.H.next:=(qq3 hc h0 h).1
theorem qes:∀ {c:ACode},qdi c -> ∀ {st:St} {r:AExit × St},(codeC c).run rt st=some r->Ext st.H r.2.H
 | .skip,_,st,r,h=>by injection h with h;subst h;exact Ext.refl _
 | .label _,_,st,r,h=>by injection h with h;subst h;exact Ext.refl _
 | .region steps,hm,st,r,h=>qq4 hc hr hm h
 | .seq a b,hm,st,r,h=>by
  simp only [codeC,qa] at h
  obtain ⟨q,hq,h⟩:=h
  have h1:=qes hm.1 hq
  unfold seqK at h
  split at h
  ·exact Ext.trans h1 (qes hm.2 h)
  ·injection h with h;subst h;exact h1
 | .cond c a b,hm,st,r,h=>by
  simp only [codeC,qa] at h
  obtain ⟨v,hv,h⟩:=h
  unfold condK at h
  split at h
  ·rcases z9 h with ⟨_,h⟩|⟨_,h⟩
   ·exact qes hm.1 h
   ·exact qes hm.2 h
  ·cases h
 | .block id b,hm,st,r,h=>by
  simp only [codeC,qa] at h
  obtain ⟨q,hq,h⟩:=h
  have h1:=qes (c:=b) hm hq
  unfold blockK at h
  split at h<;>(injection h with h;subst h;exact h1)
 | .loop keep b,hm,st,r,h=>quc (fun st r h=>qes (c:=b) hm h) keep _ _ _ h
 | .exit _,_,st,r,h=>by injection h with h;subst h;exact Ext.refl _
 | .goto _,_,st,r,h=>by injection h with h;subst h;exact Ext.refl _
 | .ret,_,st,r,h=>by injection h with h;subst h;exact Ext.refl _
 | .stuck,_,st,r,h=>by cases h
 | .scope b,hm,st,r,h=>by
  simp only [codeC,qa] at h
  obtain ⟨q,hq,h⟩:=h
  have h1:=qes (c:=b) hm hq
  unfold scopeK at h
  split at h
  ·rcases z9 h with ⟨_,h⟩|⟨_,h⟩
   ·cases h
   ·injection h with h;subst h;exact h1
  ·injection h with h;subst h;exact h1
 | .rangeFunc f k,_,st,r,h=>by
  simp only [codeC,qa] at h
  obtain ⟨v,hv,h⟩:=h
  unfold rangeK at h
  split at h
  ·exact qq3 hc (Ext.alloc _ _ rfl) h
  ·simp only [qa] at h
   obtain ⟨d,_,h⟩:=h
   exact qq3 hc (Ext.refl _) h
theorem qir {c:ACode} (hm:qdi c) {st:St} {r:AExit × St} (h:(codeC c).run rt st=some r):st.H.next<=r.2.H.next:=(qes hc hr hm h).1
end
theorem qlq {call:CallFn} (hc:qak call) {rs:List ARes} {tm:T AV}:∀ {ds:List ADef} {m:Option Chain} {H:AHeap} {r:AEnd × AHeap},unwindA call rs tm ds m H=some r->Ext H r.2
 | [],none,H,r,h=>by
  simp only [unwindA,qa,qb] at h
  obtain ⟨_,_,rfl⟩:=h;exact Ext.refl _
 | [],some c,H,r,h=>by injection h with h;subst h;exact Ext.refl _
 | .coll b::ds,m,H,r,h=>by
  simp only [unwindA] at h
  split at h
  ·rename_i hg;exact (Ext.set hg _ (fun _=>rfl)).trans (qlq (H:=H.set b _) hc h)
  ·cases h
 | .fn (.func f) args::ds,m,H,r,h=>by
  simp only [unwindA,qa] at h
  obtain ⟨⟨e,u,H'⟩,h1,h⟩:=h
  have h2:=hc _ _ _ _ _ _ _ h1
  split at h
  ·simp only [qa] at h
   obtain ⟨m',_,h⟩:=h
   exact Ext.trans h2 (qlq hc h)
  ·cases h
 | .fn (.yield _) _::_,_,_,_,h=>by simp [unwindA] at h
theorem qrh {call:CallFn} (hc:qak call) {rs:List ARes} {tm:T AV} {ds:List ADef} {m:Option Chain} {H:AHeap} {r:AEnd × AHeap} (h:unwindA call rs tm ds m H=some r):H.next<=r.2.next:=(qlq hc h).1
theorem q1y {H H':AHeap} {l:Nat} {s:LState} {p:Option AJump} (h:setLoop H l s p=some H'):Ext H H':=by
 unfold setLoop at h
 split at h
 ·rename_i hg;injection h with h;subst h;exact Ext.set hg _ (fun _=>rfl)
 ·cases h
theorem qvn {H H':AHeap} {l:Nat} (h:beginRound H l=some H'):Ext H H':=by
 unfold beginRound at h
 split at h
 ·rename_i hg;injection h with h;subst h;exact Ext.set hg _ (fun _=>rfl)
 ·cases h
theorem q0l {H H':AHeap} {l:Nat} {s:LState} {p:Option AJump} (h:setLoop H l s p=some H'):H'.next=H.next:=by
 unfold setLoop at h
 split at h
 ·injection h with h;subst h;rfl
 ·cases h
theorem qs6 {H H':AHeap} {l:Nat} (h:beginRound H l=some H'):H'.next=H.next:=by
 unfold beginRound at h
 split at h
 ·injection h with h;subst h;rfl
 ·cases h
theorem qlh {AP:AProg} (hp:qsv AP) {call:CallFn} (hc:qak call) (m:Nat):∀ n,qd8 (rounds AP call m n)
 | 0=>fun vs l H e H' h=>by cases h
 | n+1=>fun vs l H e H' h=>by
  have ih:=qlh hp hc m n
  simp only [rounds,roundOf] at h
  split at h
  ·rename_i st pd f k tm d hg
   simp only [qa] at h
   obtain ⟨fn,hfn,lp,hlp,tm1,_,q,hq,h⟩:=h
   have hlm:qdi lp.assign/\qdi lp.body:=(hp f fn hfn).2 lp (by rw [qcq] at hlp;exact jf hlp)
   have h1:=qes (rt:=⟨AP,call,rounds AP call m n,m,⟨some l,f⟩⟩) hc ih hlm.1 hq
   have h1:Ext H q.2.H:=h1
   split at h
   ·simp only [qa] at h
    obtain ⟨H2,hb,q2,hq2,h⟩:=h
    have h2:=qes (rt:=⟨AP,call,rounds AP call m n,m,⟨some l,f⟩⟩) hc ih hlm.2 hq2
    have h2:Ext H2 q2.2.H:=h2
    have h3:=(h1.trans (qvn hb)).trans h2
    rcases z9 h with ⟨_,h⟩|⟨_,h⟩
    ·unfold qik at h
     split at h
     ·injection h with h;injection h with _ h;subst h
      exact h3
     ·simp only [qa,qb,qr] at h
      obtain ⟨H3,h4,_,rfl⟩:=h
      exact h3.trans (q1y h4)
    ·cases h
   ·cases h
  ·cases h
theorem qyq {AP:AProg} (hp:qsv AP) {call:CallFn} (ih:qak call) (n:Nat):qak (qim AP call n) :=
 fun f vs up H e up' H' h=>by
  simp only [qim,qa] at h
  obtain ⟨fn,hfn,q,hq,h⟩:=h
  have h1:=qes (rt:=⟨AP,call,rounds AP call n n,n,⟨none,f⟩⟩) ih (qlh hp ih n n) (hp f fn hfn).1 hq
  have h1:Ext H q.2.H:=h1
  have hfin:∀ m,((unwindA call fn.results q.2.tm q.2.dfs m q.2.H).bind fun z=>some (z.1,q.2.up,z.2))=some (e,up',H')->Ext H H':=by
   intro m h
   simp only [qa,qb,qr] at h
   obtain ⟨z,hz,_,_,rfl⟩:=h
   exact Ext.trans h1 (qlq ih hz)
  unfold endCall at h
  split at h
  ·exact hfin _ h
  ·exact hfin _ h
  ·exact hfin _ h
  ·cases h
theorem qsx {AP:AProg} (hp:qsv AP) {told:CallFn} (ht:qak told):∀ n,qak (acallT AP told n)
 | 0=>ht
 | n+1=>fun f vs up H e up' H' h=>by
  simp only [acallT] at h
  split at h
  ·rename_i r hr
   injection h with h;subst h
   exact ht _ _ _ _ _ _ _ hr
  ·exact qyq hp (qsx hp ht n) n _ _ _ _ _ _ _ h
end Go.Am
namespace Go.Am
abbrev Anyway:Machine->Prop:=fun _=>True
structure SR (P:Program) (base:Nat) (D:Nat->Prop) (θ:Th) (b:Frame) (nt:Nat) (rd:Option Nat) (st:St) (a:Act) (cs:List Frame) (w:World):Prop where
 heap:HR P base D θ st.H w
 tms:tmR D θ st.tm a.tmps
 size:nt<=a.tmps.size
 dfs:dfsR D θ st.dfs a.defers
 up:UpR D θ b.kind st.up cs
 round:RdR D θ b.roundOf rd
def Out (P:Program) (base:Nat) (D:Nat->Prop) (θ:Th) (b:Frame) (nt:Nat) (rd:Option Nat) (k:List Item) (st:St) (cs:List Frame) (w:World) (m:Machine) (e:AExit) (st':St):Prop :=
 ∃ θ' a' w' cs' e',ArrivesIn Anyway P m b k cs' e' a' w'/\SR P base (Up D st.H.next st'.H.next) θ' b nt rd st' a' cs' w'/\Grow D st.H θ w st'.H θ' w'/\exitR (Up D st.H.next st'.H.next) θ' e e' /\
  st'.up.isSome=st.up.isSome/\UpTo st.up cs cs'
section
variable {P:Program} {base:Nat} {D:Nat->Prop} {θ:Th}
theorem Out.after {b:Frame} {nt:Nat} {rd:Option Nat} {k:List Item} {st st1 st':St} {cs cs1:List Frame} {w w1:World} {m m1:Machine} {e:AExit} {θ1:Th} (hs:Steps P m m1)
 (hg:Grow D st.H θ w st1.H θ1 w1) (hu:st1.up.isSome=st.up.isSome) (ht:UpTo st.up cs cs1) (hn:st1.H.next<=st'.H.next)
 (h:Out P base (Up D st.H.next st1.H.next) θ1 b nt rd k st1 cs1 w1 m1 e st'):Out P base D θ b nt rd k st cs w m e st':=by
 obtain ⟨θ',a',w',cs',e',h1,h2,h3,h4,h5,h6⟩:=h
 rw [Up.up hg.next hn] at h2 h4
 exact ⟨θ',a',w',cs',e',.of_steps (StepsIn.of_steps hs) h1,h2,hg.trans h3 Up.of,h4,h5.trans hu,UpTo.trans hu ht h6⟩
theorem qb0 {α:Type}:∀ {l:List (Option α)} {r:List α},allSome l=some r->r.length=l.length /\ ∀ (i:Nat) (x:α),r[i]? = some x->l[i]? = some (some x)
 | [],r,h=>by injection h with h;subst h;exact ⟨rfl,fun i x hx=>by simp at hx⟩
 | y::l,r,h=>by
  simp only [allSome,qa,qb] at h
  obtain ⟨a,rfl,l',hl,rfl⟩:=h
  obtain ⟨h1,h2⟩:=qb0 hl
  refine ⟨by simp [h1],fun i x hx=>?_⟩
  cases i with
  | zero=>simpa using hx
  | succ i=>simpa using h2 i x (by simpa using hx)
theorem qis {ops:Array Oper} {l:List (List AOpd × AOp)} {safe:Nat->Option (List Nat)} {q:Bool × Nat} {s:AStep} (h:mkStep ops l safe q=some s) :
 ∃ o a g,ops[q.2]? = some o/\l[q.2]? = some a/\guardOf ops o.guard=some g/\s = { chk:=q.1,dst:=o.dst,guard:=g,args:=a.1,op:=a.2,psafe:=safe q.2 }:=by
 simp only [mkStep,qa,qb] at h
 obtain ⟨o,ho,a,ha,g,hg,rfl⟩:=h
 exact ⟨o,a,g,ho,ha,hg,rfl⟩
theorem qyv {ops:Array Oper} {o:Oper} {s:AStep} (hg:guardOf ops o.guard=some s.guard) {tm:T AV} {a:Array Value} (ht:tmR D θ tm a) {q:Bool} (h:wantedA s tm=some q) :
 Region.wanted o (yielded ops a)=q:=by
 unfold wantedA at h
 unfold Region.wanted
 cases ho:o.guard with
 | none =>
  rw [ho] at hg
  injection hg with hg
  rw [<-hg] at h
  injection h
 | some g =>
  obtain ⟨j,want⟩:=g
  rw [ho] at hg
  simp only [guardOf,qa,qb] at hg
  obtain ⟨t,⟨oj,hj1,hj2⟩,hg⟩:=hg
  rw [<-hg] at h
  simp only at h
  have hy:((ops[j]?).bind (·.dst)).bind (a[·]?)=a[t]?:=by rw [hj1];simp [hj2]
  simp only [yielded,hy]
  unfold wantV at h
  split at h
  ·rename_i p hp
   obtain ⟨c,h1,h2⟩:=ht t _ hp
   injection h with h
   rw [h1,<-h2.now]
   simp only [conc]
   cases p<;>cases want<;>cases q<;>simp_all
  ·rename_i hp
   obtain ⟨c,h1,h2⟩:=ht t _ hp
   injection h with h
   rw [h1,<-h2.now]
   simp only [conc]
   subst h;rfl
  ·cases h
theorem put_R {nt:Nat} {tm:T AV} {a:Act} {dst:Option Nat} (hd:∀ d,dst=some d->d<nt) (hs:nt<=a.tmps.size) (ht:tmR D θ tm a.tmps) {v:AV} {c:Value} (hv:VR D θ v c) :
 tmR D θ (putD dst v tm) (a.put dst c).tmps/\nt<=(a.put dst c).tmps.size/\(a.put dst c).defers=a.defers:=by
 cases dst with
 | none=>exact ⟨ht,hs,rfl⟩
 | some d =>
  refine ⟨ht.put (ql (hd d rfl) hs) hv,?_,rfl⟩
  simpa [Act.put] using hs
theorem q4q (hP:PGood P) {rt:RT} (hcall:wt P base rt.call) (hround:qbz P base rt.round) (hAP:rt.AP=cProg P) (hcm:qak rt.call) (hrm:qd8 rt.round)
 {ops:Array Oper} {o:Oper} {i:Nat} {rest:List Nat} {s:AStep} {ca:List AOpd × AOp} (ho:ops[i]? = some o) (hca:cOper P o=some ca) (hg:guardOf ops o.guard=some s.guard) (h1:s.chk=false) (h2:s.dst=o.dst) (h3:s.args=ca.1) (h4:s.op=ca.2)
 {b:Frame} {nt:Nat} (hdst:dstOk nt o=true) {k:List Item} {st:St} {a:Act} {cs:List Frame} {w:World} (hS:SR P base D θ b nt rt.ctx.round st a cs w) {K:St->Res} {r:AExit × St}
 (hKm:∀ st r,K st=some r->st.H.next<=r.2.H.next) (h:(stepC s).run rt K st=some r) (hf:Fresh D st.H.next r.2.H.next)
 (hnext:∀ D1 θ1 st1 a1 cs1 w1,SR P base D1 θ1 b nt rt.ctx.round st1 a1 cs1 w1->K st1=some r->Fresh D1 st1.H.next r.2.H.next->Out P base D1 θ1 b nt rt.ctx.round k st1 cs1 w1 (lone (b.atR a1 (.inRegion ops rest::k)) cs1 w1) r.1 r.2) :
 Out P base D θ b nt rt.ctx.round k st cs w (lone (b.atR a (.inRegion ops (i::rest)::k)) cs w) r.1 r.2:=by
 have hdd:∀ d,o.dst=some d->d<nt:=by
  intro d hd
  unfold dstOk at hdst
  rw [hd] at hdst
  simpa [we] using hdst
 rw [qvf s h1,qa] at h
 obtain ⟨q,hq,h⟩:=h
 have hwant:=qyv hg hS.tms hq
 cases q with
 | false =>
  simp only [xy] at h
  obtain ⟨p1,p2,p3⟩:=put_R (dst:=o.dst) hdd hS.size hS.tms (VR.undef (D:=D) (θ:=θ))
  rw [h2] at h
  have hn:=hKm _ _ h
  have hsk:=stepR_op_skip (P:=P) (b:=b) (a:=a) (k:=k) (cs:=cs) (w:=w) (ops:=ops) (i:=i) (rest:=rest) (by simp [ho,hwant])
  rw [ho] at hsk
  refine Out.after (.one hsk) (Grow.refl D st.H θ w) rfl (UpTo.refl hS.up) hn ?_
  rw [Up.none]
  exact hnext D θ ⟨putD o.dst .undef st.tm,st.dfs,st.up,st.H⟩ _ cs w ⟨hS.heap,p1,p2,by rw [show (a.put ((some o).bind (·.dst)) undef).defers=a.defers from p3];exact hS.dfs,hS.up,hS.round⟩ h hf
 | true =>
  simp only [qz,qa] at h
  obtain ⟨vs,hvs,res,hres,h⟩:=h
  obtain ⟨xs,hxs,hok,hdef⟩:=qq0 hP hca
  rw [h3] at hvs
  rw [h4] at hres
  have hv:=evL_R (a:=a) hS.heap hS.tms hxs hvs
  have hm1:=q2w hcm hrm hok.mono hres
  have hle:res.heap.next<=r.2.H.next:=by
   cases res with
   | val v d u H'=>exact hKm _ _ h
   | panic c H' =>
    simp only [finR,qa,qb] at h
    obtain ⟨_,_,rfl⟩:=h
    exact qe _
  have hout:=qx7 hP hcall hround hAP hok hdef (rest:=rest) (k:=k) ho hwant hS.heap hS.dfs hS.up hS.round hv hres (hf.left hle)
  cases res with
  | val v d u H' =>
   obtain ⟨θ',w',c,cs',ds,g1,g2,g3,g4,g5,g6,g7,g8⟩:=hout
   simp only [finR,h2] at h
   have hag:=g3.ag
   obtain ⟨p1,p2,p3⟩:=put_R (a:={ a with defers:=ds }) (dst:=o.dst) hdd hS.size (hS.tms.up hag Up.of) g4
   refine Out.after (st1:=⟨putD o.dst v st.tm,d,u,H'⟩) g1 g3 g6 g8 hle ?_
   exact hnext _ θ' _ _ cs' w' ⟨g2,p1,p2,by rw [p3];exact g5,g7,RdR.up hag Up.of hS.round⟩ h (hf.right hm1)
  | panic c H' =>
   obtain ⟨θ',w',ps,todo,g1,g2,g3,g4,g5⟩:=hout
   simp only [finR,qa,qb] at h
   obtain ⟨ds,hds,rfl⟩:=h
   have hag:=g3.ag
   refine ⟨θ',a,w',cs,.panic ps,⟨todo,StepsIn.of_steps g1⟩,⟨g2,tmR.forget ds (hS.tms.up hag Up.of),hS.size,dfsR.up hag Up.of hS.dfs,UpR.up hag Up.of hS.up,RdR.up hag Up.of hS.round⟩,g3,⟨g4,g5⟩,rfl,UpTo.refl hS.up⟩
theorem qj9 (hP:PGood P) {ops:Array Oper} {l:List (List AOpd × AOp)} (hl:allSome (ops.toList.map (cOper P))=some l) {safe:Nat->Option (List Nat)} {qs:List (Bool × Nat)} {steps:List AStep}
 (h:allSome (qs.map (mkStep ops l safe))=some steps):∀ s ∈ steps,OpMono s.op:=by
 intro s hs
 obtain ⟨i,hi⟩:=qbl hs
 have:=(qb0 h).2 i s hi
 rw [xf,qv] at this
 obtain ⟨q,_,hq⟩:=this
 obtain ⟨o,a,g,ho,ha,_,rfl⟩:=qis hq
 have:=(qb0 hl).2 _ a ha
 rw [xf,qv] at this
 obtain ⟨o',_,hco⟩:=this
 obtain ⟨xs,_,hok,_⟩:=qq0 hP hco
 exact hok.mono
theorem qw0 (hP:PGood P) {rt:RT} (hcall:wt P base rt.call) (hround:qbz P base rt.round) (hAP:rt.AP=cProg P) (hcm:qak rt.call) (hrm:qd8 rt.round)
 {ops:Array Oper} {nt:Nat} (hdst:ops.toList.all (dstOk nt)=true) {l:List (List AOpd × AOp)} (hl:allSome (ops.toList.map (cOper P))=some l) {b:Frame} {k:List Item} {safe:Nat->Option (List Nat)} :
 ∀ (todo:List Nat) {steps:List AStep},allSome (todo.map fun i=>mkStep ops l safe (false,i))=some steps -> ∀ {D:Nat->Prop} {θ:Th} {st:St} {a:Act} {cs:List Frame} {w:World} {r:AExit × St},
  SR P base D θ b nt rt.ctx.round st a cs w->(stepsC steps).run rt st=some r->Fresh D st.H.next r.2.H.next->Out P base D θ b nt rt.ctx.round k st cs w (lone (b.atR a (.inRegion ops todo::k)) cs w) r.1 r.2
 | [],steps,hs,D,θ,st,a,cs,w,r,hS,h,hf=>by
  injection hs with hs;subst hs
  injection h with h;subst h
  refine ⟨θ,a,w,cs,.normal,StepsIn.one trivial stepR_region_end,by rw [Up.none];exact hS,Grow.refl _ _ _ _,trivial,rfl,UpTo.refl hS.up⟩
 | i::todo,steps,hs,D,θ,st,a,cs,w,r,hS,h,hf=>by
  simp only [xw,allSome,qa,qb] at hs
  obtain ⟨s,hs1,rest,hs2,rfl⟩:=hs
  obtain ⟨o,ca,g,ho,hla,hg,rfl⟩:=qis hs1
  have hco:cOper P o=some ca:=by
   have:=(qb0 hl).2 _ ca hla
   rw [xf,jy,ho] at this
   simpa using this
  have hmem:dstOk nt o=true:=by
   rw [qdl] at hdst
   exact hdst o (by have:=Array.mem_of_getElem? ho;simpa using this)
  have hmono:∀ s ∈ rest,OpMono s.op:=by
   have h9:allSome ((todo.map fun i=>(false,i)).map (mkStep ops l safe))=some rest:=by rw [yg];exact hs2
   exact qj9 hP hl h9
  exact q4q hP hcall hround hAP hcm hrm (K:=(stepsC rest).run rt) ho hco hg rfl rfl rfl rfl hmem hS (fun st r h=>q16 hcm hrm hmono h) h hf
   (fun D1 θ1 st1 a1 cs1 w1 hS1 h1 hf1=>qw0 hP hcall hround hAP hcm hrm hdst hl todo hs2 hS1 h1 hf1)
end
end Go.Am
namespace Go.Am
def qka (P:Program) (base:Nat) (rt:RT):Prop :=
 ∀ (nt id:Nat) (ops:Array Oper) (c:ACode),cRegion P nt ops true=some c -> ∀ (D:Nat->Prop) θ (b:Frame) k st a cs w r,SR P base D θ b nt rt.ctx.round st a cs w->(codeC c).run rt st=some r ->
  Fresh D st.H.next r.2.H.next->Out P base D θ b nt rt.ctx.round k st cs w (lone (b.atR a (.code (.region id ops true)::k)) cs w) r.1 r.2
section
variable {P:Program} {base:Nat}
theorem q4k {nt:Nat} {ops:Array Oper} {c:ACode} (h:cRegion P nt ops false=some c):∃ l steps,ops.toList.all (dstOk nt)=true/\allSome (ops.toList.map (cOper P))=some l /\
 allSome ((List.range ops.size).map fun i=>mkStep ops l (fun _=>some []) (false,i))=some steps/\c=.region steps:=by
 unfold cRegion at h
 split at h
 ·rename_i hd
  simp only [qa] at h
  obtain ⟨l,hl,h⟩:=h
  simp only [je,yl,qa,qb] at h
  obtain ⟨steps,hs,rfl⟩:=h
  exact ⟨l,steps,hd,hl,hs,rfl⟩
 ·cases h
theorem q1s (hP:PGood P) {nt:Nat} {ops:Array Oper} {draw:Bool} {c:ACode} (h:cRegion P nt ops draw=some c):qdi c:=by
 unfold cRegion at h
 split at h
 ·simp only [qa] at h
  obtain ⟨l,hl,h⟩:=h
  split at h
  ·rcases z9 h with ⟨_,h⟩|⟨_,h⟩
   ·simp only [qa,qb] at h
    obtain ⟨steps,hs,rfl⟩:=h
    exact qj9 hP hl hs
   ·injection h with h;subst h;trivial
  ·simp only [qa,qb] at h
   obtain ⟨steps,hs,rfl⟩:=h
   exact qj9 (safe:=fun _=>some []) (qs:=(List.range ops.size).map fun i=>(false,i)) hP hl (by rw [yg];exact hs)
 ·cases h
theorem qco (hP:PGood P) {nt:Nat}:∀ (c:Code) {kk:Nat} {ac:ACode} {L:List ALoop},cCode P nt kk c=some (ac,L)->qdi ac /\ ∀ lp ∈ L,qdi lp.assign/\qdi lp.body
 | .skip,kk,ac,L,h=>by injection h with h;injection h with h1 h2;subst h1;subst h2;exact ⟨trivial,by simp⟩
 | .region _ ops draw,kk,ac,L,h=>by
  simp only [cCode,qa,qb,qr] at h
  obtain ⟨c,hc,rfl,rfl⟩:=h
  exact ⟨q1s hP hc,by simp⟩
 | .seq a b,kk,ac,L,h=>by
  simp only [cCode,qa,qb,qr] at h
  obtain ⟨⟨x,lx⟩,hx,⟨y,ly⟩,hy,rfl,rfl⟩:=h
  obtain ⟨a1,a2⟩:=qco hP a hx
  obtain ⟨b1,b2⟩:=qco hP b hy
  exact ⟨⟨a1,b1⟩,fun lp hl=>by rcases jt.1 hl with hl|hl;exact a2 lp hl;exact b2 lp hl⟩
 | .cond c a b,kk,ac,L,h=>by
  simp only [cCode,qa,qb,qr] at h
  obtain ⟨cc,_,⟨x,lx⟩,hx,⟨y,ly⟩,hy,rfl,rfl⟩:=h
  obtain ⟨a1,a2⟩:=qco hP a hx
  obtain ⟨b1,b2⟩:=qco hP b hy
  exact ⟨⟨a1,b1⟩,fun lp hl=>by rcases jt.1 hl with hl|hl;exact a2 lp hl;exact b2 lp hl⟩
 | .block id b,kk,ac,L,h=>by
  simp only [cCode,qa,qb,qr] at h
  obtain ⟨⟨x,lx⟩,hx,rfl,rfl⟩:=h
  obtain ⟨b1,b2⟩:=qco hP b hx
  exact ⟨b1,b2⟩
 | .loop b,kk,ac,L,h=>by
  simp only [cCode,qa,qb,qr] at h
  obtain ⟨⟨x,lx⟩,hx,rfl,rfl⟩:=h
  obtain ⟨b1,b2⟩:=qco hP b hx
  exact ⟨b1,b2⟩
 | .rangeFunc f ps a b,kk,ac,L,h=>by
  simp only [cCode,qa] at h
  obtain ⟨cc,_,⟨x,lx⟩,hx,⟨y,ly⟩,hy,h⟩:=h
  split at h
  ·injection h with h;injection h with h1 h2;subst h1;subst h2
   obtain ⟨a1,a2⟩:=qco hP a hx
   obtain ⟨b1,b2⟩:=qco hP b hy
   refine ⟨trivial,fun lp hl=>?_⟩
   rcases zp.1 hl with rfl|hl
   ·exact ⟨a1,b1⟩
   ·rcases jt.1 hl with hl|hl
    ·exact a2 lp hl
    ·exact b2 lp hl
  ·cases h
 | .exit _,kk,ac,L,h=>by injection h with h;injection h with h1 h2;subst h1;subst h2;exact ⟨trivial,by simp⟩
 | .scope b,kk,ac,L,h=>by
  simp only [cCode,qa,qb,qr] at h
  obtain ⟨⟨x,lx⟩,hx,rfl,rfl⟩:=h
  obtain ⟨b1,b2⟩:=qco hP b hx
  exact ⟨b1,b2⟩
 | .label _,kk,ac,L,h=>by injection h with h;injection h with h1 h2;subst h1;subst h2;exact ⟨trivial,by simp⟩
 | .goto _,kk,ac,L,h=>by injection h with h;injection h with h1 h2;subst h1;subst h2;exact ⟨trivial,by simp⟩
 | .ret,kk,ac,L,h=>by injection h with h;injection h with h1 h2;subst h1;subst h2;exact ⟨trivial,by simp⟩
 | .refuse _,kk,ac,L,h=>by injection h with h;injection h with h1 h2;subst h1;subst h2;exact ⟨trivial,by simp⟩
theorem qu3 (hP:PGood P):qsv (cProg P):=by
 intro f af h
 simp only [cProg,qa] at h
 obtain ⟨fn,_,h⟩:=h
 simp only [cFunc,qa,qb] at h
 obtain ⟨b,_,⟨c,L⟩,hc,_,_,rfl⟩:=h
 exact qco hP b hc
theorem q1e {nt:Nat}:∀ (c:Code) {kk:Nat} {ac:ACode} {L:List ALoop},cCode P nt kk c=some (ac,L) -> ∀ l,qhy ac l=(findLabel c l).isSome
 | .skip,kk,ac,L,h,l=>by injection h with h;injection h with h1 h2;subst h1;rfl
 | .region _ ops draw,kk,ac,L,h,l=>by
  simp only [cCode,qa,qb,qr] at h
  obtain ⟨c,hc,rfl,rfl⟩:=h
  unfold cRegion at hc
  split at hc
  ·simp only [qa] at hc
   obtain ⟨l,hl,hc⟩:=hc
   split at hc
   ·rcases z9 hc with ⟨_,hc⟩|⟨_,hc⟩
    ·simp only [qa,qb] at hc;obtain ⟨_,_,rfl⟩:=hc;rfl
    ·injection hc with hc;subst hc;rfl
   ·simp only [qa,qb] at hc;obtain ⟨_,_,rfl⟩:=hc;rfl
  ·cases hc
 | .seq a b,kk,ac,L,h,l=>by
  simp only [cCode,qa,qb,qr] at h
  obtain ⟨⟨x,lx⟩,hx,⟨y,ly⟩,hy,rfl,rfl⟩:=h
  have h1:=q1e a hx l
  have h2:=q1e b hy l
  simp only [qhy,findLabel,h1,h2]
  cases findLabel a l<;>simp
 | .cond c a b,kk,ac,L,h,l=>by
  simp only [cCode,qa,qb,qr] at h
  obtain ⟨cc,_,⟨x,lx⟩,hx,⟨y,ly⟩,hy,rfl,rfl⟩:=h
  rfl
 | .block id b,kk,ac,L,h,l=>by
  simp only [cCode,qa,qb,qr] at h
  obtain ⟨⟨x,lx⟩,hx,rfl,rfl⟩:=h
  rfl
 | .loop b,kk,ac,L,h,l=>by
  simp only [cCode,qa,qb,qr] at h
  obtain ⟨⟨x,lx⟩,hx,rfl,rfl⟩:=h
  rfl
 | .rangeFunc f ps a b,kk,ac,L,h,l=>by
  simp only [cCode,qa] at h
  obtain ⟨cc,_,⟨x,lx⟩,hx,⟨y,ly⟩,hy,h⟩:=h
  split at h
  ·injection h with h;injection h with h1 h2;subst h1;rfl
  ·cases h
 | .exit _,kk,ac,L,h,l=>by injection h with h;injection h with h1 h2;subst h1;rfl
 | .scope b,kk,ac,L,h,l=>by
  simp only [cCode,qa,qb,qr] at h
  obtain ⟨⟨x,lx⟩,hx,rfl,rfl⟩:=h
  rfl
 | .label l',kk,ac,L,h,l=>by
  injection h with h;injection h with h1 h2;subst h1
  simp only [qhy,findLabel]
  by_cases e:l'=l
  ·simp [e]
  ·simp only [qft,e,yl,qe3]
   cases hb:Nat.beq l' l with
   | false=>rfl
   | true=>simp only [zz] at hb;exact absurd hb e
 | .goto _,kk,ac,L,h,l=>by injection h with h;injection h with h1 h2;subst h1;rfl
 | .ret,kk,ac,L,h,l=>by injection h with h;injection h with h1 h2;subst h1;rfl
 | .refuse _,kk,ac,L,h,l=>by injection h with h;injection h with h1 h2;subst h1;rfl
theorem qyr {b:Frame} {a:Act} {body:Code} {k:List Item} {cs:List Frame} {w:World}:step P (lone (b.atR a (.inScope body::k)) cs w)=.next (lone (b.atR a k) cs w) :=
 step_lone_go (by simp [stepG,stepG.exec,Frame.atR])
theorem q1z {b:Frame} {a:Act} {body:Code} {k:List Item} {cs:List Frame} {w:World}:step P (lone (b.atR a (.code (.scope body)::k)) cs w)=.next (lone (b.atR a (.code body::.inScope body::k)) cs w) :=
 step_lone_go (by simp [stepG,stepG.exec,Frame.atR])
theorem Out.pass {D:Nat->Prop} {θ:Th} {b:Frame} {nt:Nat} {rd:Option Nat} {x:Item} (hx:x.plain=true) {k:List Item} {st:St} {cs:List Frame} {w:World} {m:Machine} {e:AExit} {st':St} (he:qfu e=false)
 (h:Out P base D θ b nt rd (x::k) st cs w m e st'):Out P base D θ b nt rd k st cs w m e st':=by
 obtain ⟨θ',a',w',cs',e',h1,h2,h3,h4,h5,h6⟩:=h
 refine ⟨θ',a',w',cs',e',.pass hx (fun _ _=>.inl ?_) h1,h2,h3,h4,h5,h6⟩
 intro q;subst q
 cases e<;>first|exact h4.elim|cases he
theorem Out.here {D:Nat->Prop} {θ:Th} {b:Frame} {nt:Nat} {rd:Option Nat} {k:List Item} {st:St} {a:Act} {cs:List Frame} {w:World} {m:Machine} {e:AExit} {e':Exit} (hS:SR P base D θ b nt rd st a cs w)
 (h1:ArrivesIn Anyway P m b k cs e' a w) (h2:exitR D θ e e'):Out P base D θ b nt rd k st cs w m e st :=
 ⟨θ,a,w,cs,e',h1,by rw [Up.none];exact hS,Grow.refl _ _ _ _,by rw [Up.none];exact h2,rfl,UpTo.refl hS.up⟩
theorem qos {w:World} (fn:FuncId) (tmps:Array Value) (ps:Array Tmp) (as body:Code) {l:Nat} {r:Loop} (h:w.heap[l]? = some (.loop r)) :
 (Instr.enterLoop fn tmps ps as body (some l)).run P w=.ok (w.heap.size,[]) (w.alloc (.loop { state:=.ready,pending:=none,fn,tmps,params:=ps,assign:=as,body,defers:=r.defers })):=by
 unfold Instr.enterLoop
 simp only [Sem.run_bind,run_getLoop h,run_newObj_alloc,Result.andThen,Sem.run_pure]
theorem qvo {nt:Nat} {c:Code} {kk:Nat} {ac:ACode} {L:List ALoop} (h:cCode P nt kk c=some (ac,L)) {l:Nat} (hl:qhy ac l=false):findLabel c l=none:=by
 rw [q1e c h l] at hl
 simpa using hl
theorem qq7 {b:Frame} {a:Act} {k:List Item} {cs:List Frame} {w:World} (id:Nat):ArrivesIn Anyway P (lone (b.atR a (.code (.exit id)::k)) cs w) b k cs (.exit id) a w :=
 ⟨fun _ hk=>.one trivial (stepR_exit hk),fun _ hk=>⟨k,hk,.refl _⟩⟩
theorem qrc {b:Frame} {a:Act} {k:List Item} {cs:List Frame} {w:World} (l:Nat):ArrivesIn Anyway P (lone (b.atR a (.code (.goto l)::k)) cs w) b k cs (.goto l) a w :=
 ⟨fun _ hk=>.one trivial (stepR_goto hk),fun _ hk=>⟨k,hk,.refl _⟩⟩
theorem qva {b:Frame} {a:Act} {k:List Item} {cs:List Frame} {w:World}:ArrivesIn Anyway P (lone (b.atR a (.code .ret::k)) cs w) b k cs .ret a w :=
 ⟨fun hn=>⟨_,.one trivial (stepR_ret hn)⟩,fun _=>⟨k,.refl _⟩⟩
theorem qzk {D:Nat->Prop} {θ:Th} {b:Frame} {a:Act} {k:List Item} {cs:List Frame} {w:World} (p:Option AJump):∃ e',exitR D θ (exitOf p) e' /\
 ArrivesIn Anyway P (lone (b.atR a (((p.map jumpR).map Item.code).toList++k)) cs w) b k cs e' a w:=by
 cases p with
 | none=>exact ⟨.normal,trivial,.refl _⟩
 | some j =>
  cases j with
  | exit id=>exact ⟨.exit id,rfl,qq7 id⟩
  | goto l=>exact ⟨.goto l,rfl,qrc l⟩
  | ret=>exact ⟨.ret,trivial,qva⟩
theorem qu7 {call:CallFn} {round:RoundFn} {ctx:Ctx} (hcall:wt P base call) {D:Nat->Prop} {θ:Th} {b:Frame} {nt:Nat} {st:St} {a:Act} {cs:List Frame} {w:World} {k:List Item} {H0:AHeap} {dfs:List ADef} {w0:World} {mark:List Deferred} {d:Nat}
 (hP:PGood P) {g:Operand} {ps:Array Tmp} {as body:Code} {kk:Nat} {v:AV} {r:AExit × St} {θ0:Th}
 (h0:HR P base (Up D st.H.next H0.next) θ0 H0 w0) (g0:Grow D st.H θ w H0 θ0 w0) (hnx:st.H.next<=H0.next) (hS:SR P base D θ b nt ctx.round st a cs w) (hv:VR D θ v (a.eval g)) (hd:Up D st.H.next H0.next d)
 (hdf:dfsR (Up D st.H.next H0.next) θ0 dfs (mark++a.defers)) (hloop:LoopAt P ctx.fn kk a.tmps.size ps as body) (hfn:b.fn=ctx.fn)
 (he:(Instr.enterLoop b.fn a.tmps ps as body b.roundOf).run P w=.ok (w0.heap.size,mark) (w0.alloc (.loop { state:=.ready,pending:=none,fn:=b.fn,tmps:=a.tmps,params:=ps,assign:=as,body,defers:=θ0.blk d })))
 (hr:rangeA call round ctx st kk H0 dfs d v=some r) (hf:Fresh D st.H.next r.2.H.next) (hm:qak call) :
 Out P base D θ b nt ctx.round k st cs w (lone (b.atR a (.code (.rangeFunc g ps as body)::k)) cs w) r.1 r.2:=by
 unfold rangeA at hr
 split at hr
 ·rename_i f first cap
  simp only [enterA,jv,qf,qa] at hr
  obtain ⟨⟨e,u,H'⟩,hcl,hr⟩:=hr
  have hmono:H0.next+1<=H'.next:=(hm _ _ _ _ _ _ _ hcl).1
  have hrn:r.2.H.next=H'.next/\r.2.dfs=dfs/\r.2.tm=st.tm/\r.2.up=st.up:=by
   unfold qnr at hr
   split at hr
   ·injection hr with hr;subst hr;exact ⟨rfl,rfl,rfl,rfl⟩
   ·split at hr
    ·cases hr
    ·injection hr with hr;subst hr;exact ⟨rfl,rfl,rfl,rfl⟩
    ·cases hr
  rw [hrn.1] at hf
  have hn:¬ Up D st.H.next H0.next H0.next:=fun q=>by
   rcases q with q|⟨_,q⟩
   ·exact hf _ hnx (by omega) q
   ·omega
  -- the record
  have hag0:=g0.ag
  have hag:=Th.add_ag θ0 H0.next w0.heap.size 0 0 hn
  obtain ⟨e1,e2,e3⟩:=Th.add_new θ0 H0.next w0.heap.size 0 0
  have hup1:∀ x,D x->Up (Up D st.H.next H0.next) H0.next (H0.next+1) x:=fun x hx=>.inl (.inl hx)
  have hDl:Up (Up D st.H.next H0.next) H0.next (H0.next+1) H0.next:=.inr ⟨qe _,xp _⟩
  have hagd:Ag D θ (θ0.add H0.next w0.heap.size 0 0):=hag0.trans hag (fun x hx=>.inl hx)
  have hR:ObjR P (Up (Up D st.H.next H0.next) H0.next (H0.next+1)) (θ0.add H0.next w0.heap.size 0 0) H0.next (.loop .ready none ctx.fn kk st.tm d)
   (.loop { state:=.ready,pending:=none,fn:=b.fn,tmps:=a.tmps,params:=ps,assign:=as,body,defers:=θ0.blk d }) :=
   ⟨_,rfl,rfl,rfl,hfn,hS.tms.up hagd hup1,hloop,.inl hd,((hag d hd).1).symm⟩
  have h1:=h0.alloc hn (w':=w0.alloc (.loop { state:=.ready,pending:=none,fn:=b.fn,tmps:=a.tmps,params:=ps,assign:=as,body,defers:=θ0.blk d })) (co:=.loop { state:=.ready,pending:=none,fn:=b.fn,tmps:=a.tmps,params:=ps,assign:=as,body,defers:=θ0.blk d }) (k:=w0.heap.size) (off:=0) (ext:=0) (by rw [qe9];simp)
   (fun j hj=>by rw [qe9,qo (qgg hj)]) (qe _) (by simp) hR
  have g1:=Grow.alloc (base:=base) h0 hn (.loop .ready none ctx.fn kk st.tm d) (.loop { state:=.ready,pending:=none,fn:=b.fn,tmps:=a.tmps,params:=ps,assign:=as,body,defers:=θ0.blk d }) 0 0
  -- the call
  obtain ⟨fi,ci,q3,q4,q5,q6⟩:=q2p hv
  have hargs:VRL (Up (Up D st.H.next H0.next) H0.next (H0.next+1)) (θ0.add H0.next w0.heap.size 0 0) (first++(.fn (.yield H0.next) [] []::cap)) ((fi.toArray ++ #[Value.func (.yield w0.heap.size) #[] #[]])++ci.toArray).toList:=by
   simp only [Array.toList_append,zj]
   refine (q4.up hagd hup1).app (.cons (fun θ'' h''=>?_) (q5.up hagd hup1))
   simp only [conc,concFn,concL]
   rw [(h'' _ hDl).1,e1]
  obtain ⟨⟨fn,c,k1,k2⟩,θ',w',cs',fr,e',s1,s2,s3,s4,s5,s6,s7,s8,s9,s10⟩:=hcall _ _ _ _ f _ ((fi.toArray ++ #[Value.func (.yield w0.heap.size) #[] #[]])++ci.toArray) none H' e u .normal
   (b.atR { a with defers:=mark++a.defers } (.inRangeFunc w0.heap.size::k)::cs) h1 hargs rfl hcl (fun x h3 h4 h5=>by
    rw [Up.up hnx (yx _)] at h5
    rcases h5 with h5|⟨_,h5⟩
    ·exact hf x (by have:H0.next+1<=x:=h3;omega) h4 h5
    ·have:H0.next+1<=x:=h3;omega)
  have hcs:cs'=b.atR { a with defers:=mark++a.defers } (.inRangeFunc w0.heap.size::k)::cs:=s9
  subst hcs
  have hstep:=stepR_rangeFunc (P:=P) (b:=b) (a:=a) (k:=k) (cs:=cs) (w:=w) (g:=g) (l:=w0.heap.size) (d:={ target:=.fn (.func f) ci.toArray,args:=fi.toArray ++ #[Value.func (.yield w0.heap.size) #[] #[]] }) he
   (by
   show (Deferred.ofValue (a.eval g) (#[Operand.const (.func (.yield w0.heap.size) #[] #[])].map a.eval)).run P _=_
   rw [q3];simp [Deferred.ofValue,concFn,Act.eval];rfl) (by
    show (callFunc f (_++ci.toArray)).run P _=_
    exact qh3 hP k1 k2)
  have hl:=qii s4 s2
  have hupa:Up (Up (Up D st.H.next H0.next) H0.next (H0.next+1)) (H0.next+1) H'.next=Up D st.H.next H'.next:=by
   rw [Up.up (yx _) hmono,Up.up hnx (by omega)]
  have hnext1:(H0.alloc (.loop .ready none ctx.fn kk st.tm d)).next=H0.next+1:=rfl
  rw [hnext1,hupa] at s5 s6 s10
  have gall:Grow D st.H θ w H' θ' w':=(g0.trans g1 Up.of).trans s7 hup1
  have hDup:∀ x,Up D st.H.next H0.next x->Up D st.H.next H'.next x:=fun x hx=>by
   rcases hx with hx|⟨h1,h2⟩
   ·exact .inl hx
   ·exact .inr ⟨h1,by omega⟩
  have hagf:Ag (Up D st.H.next H0.next) θ0 θ':=hag.trans s7.ag (fun x hx=>.inl hx)
  have hSR:∀ (H'':AHeap) (w'':World),HR P base (Up D st.H.next H'.next) θ' H'' w''->SR P base (Up D st.H.next H'.next) θ' b nt ctx.round { st with dfs:=dfs,H:=H'' } { a with defers:=mark++a.defers } cs w'':=fun H'' w'' hh =>
   ⟨hh,hS.tms.up gall.ag Up.of,hS.size,dfsR.up hagf hDup hdf,UpR.up gall.ag Up.of hS.up,RdR.up gall.ag Up.of hS.round⟩
  unfold qnr at hr
  cases e with
  | panic ch =>
   injection hr with hr;subst hr
   cases e' with
   | returned _=>exact s5.elim
   | outgrown=>exact s5.elim
   | panicked ps' =>
    refine ⟨θ',_,w',cs,.panic ps',⟨.inRangeFunc w0.heap.size::k,StepsIn.of_steps (.head hstep (s1.trans (.one (by rw [step_leave_panicked hl,Frame.raise_atR]))))⟩,hSR _ _ s6,gall,s5,rfl,UpTo.refl hS.up⟩
  | ret x =>
   cases e' with
   | panicked _=>exact s5.elim
   | outgrown=>exact s5.elim
   | returned cx =>
    have hback:Steps P (lone (b.atR a (.code (.rangeFunc g ps as body)::k)) cs w) (lone (b.atR { a with defers:=mark++a.defers } (.endRangeFunc w0.heap.size::k)) cs w'):=by
     exact .head hstep (s1.trans (.one (by rw [step_leave_returned hl,finish_atR_inRangeFunc])))
    simp only at hr
    split at hr
    ·cases hr
    ·rename_i ls p f2 k2' tm2 d2 hnb hget
     injection hr with hr;subst hr
     obtain ⟨hDl',co,hco,rl,rfl,r1,r2,r3,r4,r5,r6,r7⟩:=s6.obj _ _ hget
     have hblk:θ'.blk H0.next=w0.heap.size:=by rw [(s7.ag _ hDl).1,e1]
     rw [hblk] at hco
     have hbusy:rl.state ≠ .busy:=by
      intro q;rw [r1] at q
      cases ls with
      | busy=>first|exact hnb _ _ _ _ _ rfl|exact hnb rfl|exact hnb
      | ready=>cases q
      | done=>cases q
      | exhausted=>cases q
     have hend:=run_endLoop (P:=P) hco hbusy
     have hend2:=stepR_endRangeFunc (b:=b) (a:={ a with defers:=mark++a.defers }) (k:=k) (cs:=cs) hend
     have hset:=s6.set (o':=.loop .exhausted p f2 k2' tm2 d2) (co':=.loop { rl with state:=.exhausted }) hget rfl rfl ⟨_,rfl,rfl,r2,r3,r4,r5,r6,r7⟩
     rw [hblk] at hset
     have gset:Grow (Up D st.H.next H'.next) H' θ' w' (H'.set H0.next (.loop .exhausted p f2 k2' tm2 d2)) θ' (wset w' (θ'.blk H0.next) (.loop { rl with state:=.exhausted })):=Grow.set hget rfl (s6.lt hget)
     rw [hblk] at gset
     obtain ⟨e'',k3,k4⟩:=qzk (P:=P) (D:=Up D st.H.next H'.next) (θ:=θ') (b:=b) (a:={ a with defers:=mark++a.defers }) (k:=k) (cs:=cs) (w:=wset w' w0.heap.size (.loop { rl with state:=.exhausted })) p
     rw [<-r2] at k4
     exact ⟨θ',_,_,cs,e'',.of_steps (StepsIn.of_steps (hback.trans (.one hend2))) k4,hSR _ _ hset,gall.trans gset Up.of,k3,rfl,UpTo.refl hS.up⟩
    ·cases hr
 ·cases hr
theorem Out.normal {D:Nat->Prop} {θ:Th} {b:Frame} {nt:Nat} {rd:Option Nat} {k:List Item} {st:St} {cs:List Frame} {w:World} {m:Machine} {st':St} (h:Out P base D θ b nt rd k st cs w m .normal st') :
 ∃ θ' a' w' cs',Steps P m (lone (b.atR a' k) cs' w')/\SR P base (Up D st.H.next st'.H.next) θ' b nt rd st' a' cs' w'/\Grow D st.H θ w st'.H θ' w'/\st'.up.isSome=st.up.isSome/\UpTo st.up cs cs':=by
 obtain ⟨θ',a',w',cs',e',h1,h2,h3,h4,h5,h6⟩:=h
 cases e'<;>first|exact ⟨θ',a',w',cs',StepsIn.steps h1,h2,h3,h5,h6⟩|exact h4.elim
theorem Out.head {D:Nat->Prop} {θ:Th} {b:Frame} {nt:Nat} {rd:Option Nat} {k:List Item} {st:St} {cs:List Frame} {w:World} {m m1:Machine} {e:AExit} {st':St} (hs:step P m=.next m1)
 (h:Out P base D θ b nt rd k st cs w m1 e st'):Out P base D θ b nt rd k st cs w m e st':=by
 obtain ⟨θ',a',w',cs',e',h1,h2,h3,h4,h5,h6⟩:=h
 exact ⟨θ',a',w',cs',e',.of_steps (StepsIn.one trivial hs) h1,h2,h3,h4,h5,h6⟩
theorem qn1 (id id':Nat) (k:List Item):exitTo id' (.inBlock id::k)=if id=id' then some k else exitTo id' k:=by
 simp [exitTo]
theorem qqy {α:Type} (a b:List α) (i:Nat):nth (a++b) i=if i<a.length then nth a i else nth b (i-a.length):=by
 simp only [qcq,List.getElem?_append]
set_option maxHeartbeats 1000000 in
theorem qdn (hP:PGood P) {rt:RT} (hcall:wt P base rt.call) (hround:qbz P base rt.round) (hAP:rt.AP=cProg P) (hcm:qak rt.call) (hrm:qd8 rt.round) (hdraw:qka P base rt)
 {fn:Func} {af:AFunc} (hfn:P.funcs[rt.ctx.fn]? = some fn) (haf:cFunc P fn=some af):∀ (c:Code) {kk:Nat} {ac:ACode} {L:List ALoop},cCode P fn.ntmps kk c=some (ac,L)->(∀ i l,nth L i=some l->nth af.loops (kk+i)=some l) ->
 ∀ {D:Nat->Prop} {θ:Th} {b:Frame} {k:List Item} {st:St} {a:Act} {cs:List Frame} {w:World} {r:AExit × St},SR P base D θ b fn.ntmps rt.ctx.round st a cs w->b.fn=rt.ctx.fn->(codeC ac).run rt st=some r ->
  Fresh D st.H.next r.2.H.next->Out P base D θ b fn.ntmps rt.ctx.round k st cs w (lone (b.atR a (.code c::k)) cs w) r.1 r.2
 | .skip,kk,ac,L,h,hL,D,θ,b,k,st,a,cs,w,r,hS,hb,hr,hf=>by
  injection h with h;injection h with h1 h2;subst h1
  injection hr with hr;subst hr
  exact .here hS (e':=.normal) (StepsIn.one trivial stepR_skip) trivial
 | .label _,kk,ac,L,h,hL,D,θ,b,k,st,a,cs,w,r,hS,hb,hr,hf=>by
  injection h with h;injection h with h1 h2;subst h1
  injection hr with hr;subst hr
  exact .here hS (e':=.normal) (StepsIn.one trivial stepR_label) trivial
 | .exit id,kk,ac,L,h,hL,D,θ,b,k,st,a,cs,w,r,hS,hb,hr,hf=>by
  injection h with h;injection h with h1 h2;subst h1
  injection hr with hr;subst hr
  exact .here hS (qq7 id) rfl
 | .goto l,kk,ac,L,h,hL,D,θ,b,k,st,a,cs,w,r,hS,hb,hr,hf=>by
  injection h with h;injection h with h1 h2;subst h1
  injection hr with hr;subst hr
  exact .here hS (qrc l) rfl
 | .ret,kk,ac,L,h,hL,D,θ,b,k,st,a,cs,w,r,hS,hb,hr,hf=>by
  injection h with h;injection h with h1 h2;subst h1
  injection hr with hr;subst hr
  exact .here hS qva trivial
 | .refuse _,kk,ac,L,h,hL,D,θ,b,k,st,a,cs,w,r,hS,hb,hr,hf=>by
  injection h with h;injection h with h1 h2;subst h1
  cases hr
 | .region id ops draw,kk,ac,L,h,hL,D,θ,b,k,st,a,cs,w,r,hS,hb,hr,hf=>by
  simp only [cCode,qa,qb,qr] at h
  obtain ⟨c,hc,rfl,rfl⟩:=h
  cases draw with
  | false =>
   obtain ⟨l,steps,h1,h2,h3,rfl⟩:=q4k hc
   exact .head stepR_region (qw0 hP hcall hround hAP hcm hrm h1 h2 _ h3 hS hr hf)
  | true=>exact hdraw _ id ops c hc D θ b k st a cs w r hS hr hf
 | .seq x y,kk,ac,L,h,hL,D,θ,b,k,st,a,cs,w,r,hS,hb,hr,hf=>by
  simp only [cCode,qa,qb,qr] at h
  obtain ⟨⟨ax,lx⟩,hx,⟨ay,ly⟩,hy,rfl,rfl⟩:=h
  simp only [codeC,qa] at hr
  obtain ⟨⟨e,st1⟩,hq,hr⟩:=hr
  have hmy:=(qco hP y hy).1
  have hmx:=qir hcm hrm (qco hP x hx).1 hq
  have hLx:∀ i l,nth lx i=some l->nth af.loops (kk+i)=some l:=fun i l hl=>hL i l (by
   rw [qqy,xc]
   ·exact hl
   ·rw [qcq] at hl;exact (qi.1 hl).1)
  have hLy:∀ i l,nth ly i=some l->nth af.loops (kk+lx.length+i)=some l:=fun i l hl=>by
   rw [yj]
   exact hL (lx.length+i) l (by
    show nth (lx++ly) (lx.length+i)=_
    rw [qqy,qo (by omega),kr];exact hl)
  refine .head stepR_seq ?_
  by_cases he:e=.normal
  ·subst he
   simp only [seqK] at hr
   have hmono:=qir hcm hrm hmy hr
   obtain ⟨θ',a',w',cs',h1,h2,h3,h4,h5⟩:=(qdn hP hcall hround hAP hcm hrm hdraw hfn haf x hx hLx (k:=.code y::k) hS hb hq (hf.left hmono)).normal
   exact Out.after h1 h3 h4 h5 hmono (qdn hP hcall hround hAP hcm hrm hdraw hfn haf y hy hLy h2 hb hr (hf.right hmx))
  ·have hn:qfu e=false:=by cases e<;>first|rfl|exact absurd rfl he
   have hr':r=(e,st1):=by
    cases e<;>first|exact absurd rfl he|(injection hr with hr;exact hr.symm)
   subst hr'
   exact Out.pass (x:=.code y) rfl hn (qdn hP hcall hround hAP hcm hrm hdraw hfn haf x hx hLx hS hb hq hf)
 | .cond c x y,kk,ac,L,h,hL,D,θ,b,k,st,a,cs,w,r,hS,hb,hr,hf=>by
  simp only [cCode,qa,qb,qr] at h
  obtain ⟨cc,hcc,⟨ax,lx⟩,hx,⟨ay,ly⟩,hy,rfl,rfl⟩:=h
  simp only [codeC,qa] at hr
  obtain ⟨v,hv,hr⟩:=hr
  rw [qmp] at hv
  have hvr:=evO_R (a:=a) hS.heap hS.tms hcc hv
  have hLx:∀ i l,nth lx i=some l->nth af.loops (kk+i)=some l:=fun i l hl=>hL i l (by
   rw [qqy,xc]
   ·exact hl
   ·rw [qcq] at hl;exact (qi.1 hl).1)
  have hLy:∀ i l,nth ly i=some l->nth af.loops (kk+lx.length+i)=some l:=fun i l hl=>by
   rw [yj]
   exact hL (lx.length+i) l (by
    show nth (lx++ly) (lx.length+i)=_
    rw [qqy,qo (by omega),kr];exact hl)
  unfold condK at hr
  split at hr
  ·rename_i q
   refine .head (stepR_cond hvr.now.symm) ?_
   cases q with
   | true=>exact qdn hP hcall hround hAP hcm hrm hdraw hfn haf x hx hLx hS hb hr hf
   | false=>exact qdn hP hcall hround hAP hcm hrm hdraw hfn haf y hy hLy hS hb hr hf
  ·cases hr
 | .block id x,kk,ac,L,h,hL,D,θ,b,k,st,a,cs,w,r,hS,hb,hr,hf=>by
  simp only [cCode,qa,qb,qr] at h
  obtain ⟨⟨ax,lx⟩,hx,rfl,rfl⟩:=h
  simp only [codeC,qa] at hr
  obtain ⟨⟨e,st1⟩,hq,hr⟩:=hr
  have hst:r.2=st1:=by
   unfold blockK at hr
   split at hr<;>(injection hr with hr;subst hr;rfl)
  obtain ⟨θ',a',w',cs',e',h1,h2,h3,h4,h5,h6⟩:=qdn hP hcall hround hAP hcm hrm hdraw hfn haf x hx hL (k:=.inBlock id::k) hS hb hq (hst ▸ hf)
  refine .head stepR_block ?_
  rw [hst]
  unfold blockK at hr
  cases e with
  | normal =>
   injection hr with hr;subst hr
   cases e'<;>try exact h4.elim
   exact ⟨θ',a',w',cs',.normal,StepsIn.trans h1 (.one trivial stepR_inBlock),h2,h3,trivial,h5,h6⟩
  | exit id' =>
   injection hr with hr;subst hr
   cases e'<;>try exact h4.elim
   rename_i j
   have h4:j=id':=h4
   subst h4
   cases hbq:Nat.beq id j with
   | true =>
    simp only [zz] at hbq;subst hbq
    exact ⟨θ',a',w',cs',.normal,h1.1 k (by rw [qn1,xc rfl]),h2,h3,trivial,h5,h6⟩
   | false =>
    have hne:¬ id=j:=by intro q;subst q;simp at hbq
    have hx:exitTo j (.inBlock id::k)=exitTo j k:=by rw [qn1,qo hne]
    exact ⟨θ',a',w',cs',.exit j,⟨fun k' hk=>h1.1 k' (by rw [hx];exact hk),fun hr hk=>h1.2 hr (by rw [hx];exact hk)⟩,h2,h3,rfl,h5,h6⟩
  | goto l =>
   injection hr with hr;subst hr
   cases e'<;>try exact h4.elim
   rename_i j
   have hx:gotoIn j (.inBlock id::k)=gotoIn j k:=rfl
   exact ⟨θ',a',w',cs',.goto j,⟨fun k' hk=>h1.1 k' (by rw [hx];exact hk),fun hr hk=>h1.2 hr (by rw [hx];exact hk)⟩,h2,h3,h4,h5,h6⟩
  | ret =>
   injection hr with hr;subst hr
   cases e'<;>try exact h4.elim
   exact ⟨θ',a',w',cs',.ret,h1,h2,h3,trivial,h5,h6⟩
  | panic ch =>
   injection hr with hr;subst hr
   cases e'<;>try exact h4.elim
   rename_i ps
   exact ⟨θ',a',w',cs',.panic ps,h1,h2,h3,h4,h5,h6⟩
 | .scope x,kk,ac,L,h,hL,D,θ,b,k,st,a,cs,w,r,hS,hb,hr,hf=>by
  simp only [cCode,qa,qb,qr] at h
  obtain ⟨⟨ax,lx⟩,hx,rfl,rfl⟩:=h
  simp only [codeC,qa] at hr
  obtain ⟨⟨e,st1⟩,hq,hr⟩:=hr
  have hst:r=(e,st1) /\ ∀ l,e=.goto l->qhy ax l=false:=by
   unfold scopeK at hr
   split at hr
   ·rename_i l he
    simp only at he
    rcases z9 hr with ⟨_,hr⟩|⟨hl,hr⟩
    ·cases hr
    ·injection hr with hr;subst he;exact ⟨hr.symm,fun l' h'=>by injection h' with h';subst h';exact hl⟩
   ·rename_i hne
    injection hr with hr;exact ⟨hr.symm,fun l' h'=>(hne l' h').elim⟩
  obtain ⟨rfl,hlab⟩:=hst
  obtain ⟨θ',a',w',cs',e',h1,h2,h3,h4,h5,h6⟩:=qdn hP hcall hround hAP hcm hrm hdraw hfn haf x hx hL (k:=.inScope x::k) hS hb hq hf
  refine .head q1z ?_
  cases e with
  | normal =>
   cases e'<;>try exact h4.elim
   exact ⟨θ',a',w',cs',.normal,StepsIn.trans h1 (.one trivial qyr),h2,h3,trivial,h5,h6⟩
  | exit id' =>
   cases e'<;>try exact h4.elim
   rename_i j
   have hx:exitTo j (.inScope x::k)=exitTo j k:=rfl
   exact ⟨θ',a',w',cs',.exit j,⟨fun k' hk=>h1.1 k' (by rw [hx];exact hk),fun hr hk=>h1.2 hr (by rw [hx];exact hk)⟩,h2,h3,h4,h5,h6⟩
  | goto l =>
   cases e'<;>try exact h4.elim
   rename_i j
   have h4:j=l:=h4
   subst h4
   have hfl:=qvo hx (hlab j rfl)
   have hg:gotoIn j (.inScope x::k)=gotoIn j k:=by simp [gotoIn,hfl]
   exact ⟨θ',a',w',cs',.goto j,⟨fun k' hk=>h1.1 k' (by rw [hg];exact hk),fun hr hk=>h1.2 hr (by rw [hg];exact hk)⟩,h2,h3,rfl,h5,h6⟩
  | ret =>
   cases e'<;>try exact h4.elim
   exact ⟨θ',a',w',cs',.ret,h1,h2,h3,trivial,h5,h6⟩
  | panic ch =>
   cases e'<;>try exact h4.elim
   rename_i ps
   exact ⟨θ',a',w',cs',.panic ps,h1,h2,h3,h4,h5,h6⟩
 | .loop x,kk,ac,L,h,hL,D,θ,b,k,st,a,cs,w,r,hS,hb,hr,hf=>by
  simp only [cCode,qa,qb,qr] at h
  obtain ⟨⟨ax,lx⟩,hx,rfl,rfl⟩:=h
  simp only [codeC] at hr
  refine .head stepR_loop ?_
  have hmx:=(qco hP x hx).1
  have key:∀ (n:Nat) (D:Nat->Prop) (θ:Th) (st:St) (a:Act) (cs:List Frame) (w:World) (r:AExit × St),SR P base D θ b fn.ntmps rt.ctx.round st a cs w->loopN none ((codeC ax).run rt) n st=some r->Fresh D st.H.next r.2.H.next ->
   Out P base D θ b fn.ntmps rt.ctx.round k st cs w (lone (b.atR a (.code x::.inLoop x::k)) cs w) r.1 r.2:=by
   intro n
   induction n with
   | zero=>intro D θ st a cs w r _ hr _;cases hr
   | succ n ih =>
    intro D θ st a cs w r hS hr hf
    simp only [loopN,qa] at hr
    obtain ⟨⟨e,st1⟩,hq,hr⟩:=hr
    have hm1:=qir hcm hrm hmx hq
    by_cases he:e=.normal
    ·subst he
     simp only at hr
     have hmono:=q34 (fun st r h=>qes hcm hrm hmx h) none n _ _ hr
     obtain ⟨θ',a',w',cs',h1,h2,h3,h4,h5⟩:=(qdn hP hcall hround hAP hcm hrm hdraw hfn haf x hx hL (k:=.inLoop x::k) hS hb hq (hf.left hmono)).normal
     exact Out.after (h1.trans (.one stepR_inLoop)) h3 h4 h5 hmono (ih _ θ' st1 a' cs' w' r h2 hr (hf.right hm1))
    ·have hn:qfu e=false:=by cases e<;>first|rfl|exact absurd rfl he
     have hr':r=(e,st1):=by
      cases e<;>first|exact absurd rfl he|(injection hr with hr;exact hr.symm)
     subst hr'
     exact Out.pass (x:=.inLoop x) rfl hn (qdn hP hcall hround hAP hcm hrm hdraw hfn haf x hx hL hS hb hq hf)
  exact key _ D θ st a cs w r hS hr hf
 | .rangeFunc g ps x y,kk,ac,L,h,hL,D,θ,b,k,st,a,cs,w,r,hS,hb,hr,hf=>by
  simp only [cCode,qa] at h
  obtain ⟨cg,hcg,⟨ax,lx⟩,hx,⟨ay,ly⟩,hy,h⟩:=h
  split at h
  ·rename_i hps
   have hps:∀ p ∈ ps.toList,p<fn.ntmps:=fun p hp=>by
    rw [qdl] at hps
    simpa [we] using hps p hp
   injection h with h;injection h with h1 h2;subst h1;subst h2
   simp only [codeC,qa] at hr
   obtain ⟨v,hv,hr⟩:=hr
   rw [qmp] at hv
   have hvr:=evO_R (a:=a) hS.heap hS.tms hcg hv
   have hloop:LoopAt P rt.ctx.fn kk a.tmps.size ps x y:=by
    refine ⟨fn,af,_,kk+1,kk+1+lx.length,lx,ly,hfn,haf,hL 0 _ rfl,rfl,hps,hS.size,hx,fun i l hl=>?_,hy,fun i l hl=>?_⟩
    ·rw [yj]
     refine hL (1+i) l ?_
     rw [Nat.add_comm 1 i,qcq,z5,<-qcq,qqy,xc]
     ·exact hl
     ·rw [qcq] at hl;exact (qi.1 hl).1
    ·rw [yj,yj]
     refine hL (1+(lx.length+i)) l ?_
     rw [Nat.add_comm 1 _,qcq,z5,<-qcq]
     show nth (lx++ly) (lx.length+i)=_
     rw [qqy,qo (by omega),kr]
     exact hl
   unfold rangeK at hr
   split at hr
   ·rename_i hnone
    have hro:b.roundOf=none:=by have:=hS.round;rw [hnone] at this;exact this
    have hmono:st.H.next+1<=r.2.H.next:=by
     have:(st.H.alloc (.deferred (some []))).next<=r.2.H.next:=q1p (st:={ st with H:=st.H.alloc (.deferred (some [])) }) hcm (Ext.refl _) hr
     exact this
    have hn:¬ D st.H.next:=hf _ (qe _) hmono
    have hag:=Th.add_ag θ st.H.next w.heap.size 0 0 hn
    obtain ⟨e1,e2,e3⟩:=Th.add_new θ st.H.next w.heap.size 0 0
    have hDn:Up D st.H.next (st.H.next+1) st.H.next:=.inr ⟨qe _,xp _⟩
    have h0:=hS.heap.alloc hn (w':=w.alloc (.deferred (some []))) (co:=.deferred (some [])) (o:=.deferred (some [])) (k:=w.heap.size) (off:=0) (ext:=0) (by rw [qe9];simp)
     (fun j hj=>by rw [qe9,qo (qgg hj)]) (qe _) (by simp) ⟨some [],rfl,rfl,rfl⟩
    have g0:=Grow.alloc (base:=base) hS.heap hn (.deferred (some [])) (.deferred (some [])) 0 0
    refine qu7 hcall hP (H0:=st.H.alloc (.deferred (some []))) (dfs:=.coll st.H.next::st.dfs) (d:=st.H.next) (mark:=[{ target:=.collected w.heap.size,args:=#[] }]) h0 g0 (yx _) hS hvr hDn ⟨⟨hDn,by rw [e1]⟩,dfsR.up hag Up.of hS.dfs⟩ hloop hb ?_ hr hf hcm
    rw [hro,run_enterLoop_outer,e1]
    simp
   ·rename_i l hl
    simp only [qa] at hr
    obtain ⟨d,hd,hr⟩:=hr
    unfold loopD at hd
    split at hd
    ·rename_i f2 k2 tm2 d2 hget
     injection hd with hd;subst hd
     obtain ⟨hDl,co,hco,rl,rfl,r1,r2,r3,r4,r5,r6,r7⟩:=hS.heap.obj _ _ hget
     have hro:b.roundOf=some (θ.blk l):=by have:=hS.round;rw [hl] at this;exact this.2
     refine qu7 hcall hP (mark:=[]) (d:=d2) (by rw [Up.none];exact hS.heap) (Grow.refl _ _ _ _) (qe _) hS hvr (by rw [Up.none];exact r6) (by rw [Up.none];exact hS.dfs) hloop hb ?_ hr hf hcm
     rw [hro,qos _ _ _ _ _ hco,r7]
    ·cases hd
  ·cases h
end
end Go.Am
