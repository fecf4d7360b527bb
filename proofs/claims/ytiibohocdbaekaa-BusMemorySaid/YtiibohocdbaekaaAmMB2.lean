/- B2: Effects Effects2 EffMono Ops Step Step2 Run Region Code. -/
import Derived.Test.YtiibohocdbaekaaAmMB1
import Derived.Deep.Upon
import Derived.Lib.UnsafeStr
import Derived.Defers
import Derived.RangeFuncRecord
import Derived.ControlIn
import Derived.RangeFuncIn
set_option linter.unusedVariables false
set_option linter.unusedSimpArgs false
namespace Go.Am
def pA (P:Program) (o:Oper) (xs:List Operand) (f:List AV->AHeap->Option (AV × AHeap)):Prop :=
 ∀ base (D:Nat->Prop) θ H (ρ:Operand->Value) w vs v H',HR P base D θ H w->bz D θ vs (xs.map ρ)->f vs H=some (v,H')->cJ D H.next H'.next ->
  ∃ θ' w' c,na P (execOp ρ o) w c w'/\HR P base (Up D H.next H'.next) θ' H' w'/\ba D H θ w H' θ' w'/\VR (Up D H.next H'.next) θ' v c
section
variable {P:Program} {base:Nat} {D:Nat->Prop} {θ:Th} {H:AHeap} {w:World}
theorem q2z {fz:Nat × Nat} {o n:Nat} (h:cM fz o n=true):∀ j,j<n -> ¬ (fz.1<=o+j/\o+j<fz.2):=by
 intro j hj;unfold cM at h;simp only [vm,we,zy] at h;omega
theorem q2b (pre cs post new:List Value) (o:Nat) (h:o+new.length<=cs.length) :
 ((pre++cs++post).toArray.toList.take (pre.length+o)++new++(pre++cs++post).toArray.toList.drop (pre.length+o+new.length))=pre++(cs.take o++new++cs.drop (o+new.length))++post:=by
 have e1:(pre++cs++post).take (pre.length+o)=pre++cs.take o:=by
  rw [zi,Fc,Fc];have:pre.length+o-pre.length-cs.length=0:=by omega
  rw [zh (by omega),this,show pre.length+o-pre.length=o from by omega];simp
 have e2:(pre++cs++post).drop (pre.length+o+new.length)=cs.drop (o+new.length)++post:=by
  rw [zi,vz,List.drop_of_length_le (by omega),vz];have:pre.length+o+new.length-pre.length-cs.length=0:=by omega
  rw [this,show pre.length+o+new.length-pre.length=o+new.length from by omega];simp
 simp only [List.toList_toArray];rw [e1,e2];simp
theorem HR.store (hh:HR P base D θ H w) {b o:Nat} {new:List AV} {cs:List Value} {H':AHeap} (hv:bz D θ new cs) (h:H.store b o new=some H') :
 ∃ w',(storeCells ⟨θ.bF b,θ.off b+o,none⟩ cs).run P w=.ok () w'/\HR P base D θ H' w'/\ba D H θ w H' θ w'/\H'.next=H.next:=by
 unfold AHeap.store at h;cases hone:aX new with
 | false=>rw [hone] at h;cases h
 | true =>
  rw [hone] at h;simp only [xk] at h;have h1:=qup hv hone;have hlen:=hv.length;split at h
  ·rename_i c e fz hg;obtain ⟨hd,co,hc,hr⟩:=hh.obj b _ hg;obtain ⟨pre,ccs,post,cfz,et,rfl,h2,h3,h4⟩:=hr;obtain ⟨rfl,rfl,rfl,hfz⟩:=h4 rfl;have hl3:=h3.length;cases ht:cM fz o (ct new) with
   | false=>rw [ht] at h;cases h
   | true =>
    rw [ht] at h;simp only [xk,wM] at h;split at h
    ·rename_i hle;simp only [qn,qd] at h;subst h;have hthaw:=q2z ht;rw [zN] at hthaw;have hst:=J1 (P:=P) (θ.off b+o) cs 0 _ w hc (by simp [<-h2];simp at h2;omega) (λ j hj=>by
      have:=hthaw j (by omega);simp only [xK] at h2;rcases hfz with hfz|⟨f1,f2⟩<;>omega) h1
     rw [qf,<-h2,q2b [] ccs [] cs o (by omega)] at hst;rw [<-h2];refine ⟨_,hst,?_,?_,rfl⟩
     ·refine hh.set hg rfl rfl ⟨[],ccs.take o++cs++ccs.drop (o+cs.length),[],cfz,_,rfl,h2,?_,λ _=>⟨rfl,rfl,rfl,hfz⟩⟩;rw [hlen];exact ((h3.take o).app hv).app (h3.drop _)
     ·exact ba.set hg rfl (hh.lt hg)
    ·cases h
  ·rename_i m s c e fz hg;obtain ⟨hd,co,hc,hr⟩:=hh.obj b _ hg;obtain ⟨pre,ccs,post,cfz,rfl,h2,h3,h4,h5,h6,h7,h8⟩:=hr;have hl3:=h3.length;cases ht:cM fz o (ct new) with
   | false=>rw [ht] at h;cases h
   | true =>
    rw [ht] at h;simp only [xk,wM] at h;split at h
    ·rename_i hle;simp only [qn,qd] at h;subst h;have hthaw:=q2z ht;rw [zN] at hthaw;have hst:=J1 (P:=P) (θ.off b+o) cs 0 _ w hc (by simp;omega) (λ j hj=>by
      have:=hthaw j (by omega);unfold AW at h8;omega) h1
     rw [qf,<-h2,q2b pre ccs post cs o (by omega)] at hst;rw [<-h2];refine ⟨_,hst,?_,?_,rfl⟩
     ·have hnl:(ccs.take o++cs++ccs.drop (o+cs.length)).length=ccs.length:=by simp;omega
      refine hh.set hg rfl rfl ⟨pre,ccs.take o++cs++ccs.drop (o+cs.length),post,cfz,rfl,h2,?_,?_,h5,h6,h7,?_⟩
      ·rw [hlen];exact ((h3.take o).app hv).app (h3.drop _)
      ·simp;omega
      ·rw [hnl];exact h8
     ·exact ba.set hg rfl (hh.lt hg)
    ·cases h
  ·cases h
theorem q8p {o:Oper} {t:TypeId} {x y:Operand} {n:Nat} (ho:o.op=.store t x y) (hs:bO P t=some n):pA P o [x,y] (Op.store n):=by
 intro base D θ H ρ w vs v H' hh h hv hfr;unfold Op.store at hv;split at hv
 ·rename_i b off a;obtain ⟨x',y',he,ha,hb⟩:=h.qV;simp only [zu,mz] at he;obtain ⟨rfl,rfl⟩:=he;cases hn:Nat.beq (ct a.cells) n with
  | false=>rw [hn] at hv;cases hv
  | true =>
   rw [hn] at hv;simp only [xk,qc,qd,xw] at hv;obtain ⟨H1,h1,rfl,rfl⟩:=hv;obtain ⟨w',g1,g2,g3,g4⟩:=hh.store hb.cells h1;have hl:=hb.cells.length;simp only [zN,zy] at hn;have hsz:(ρ y).cells.size=n:=by rw [<-yp];omega
   refine ⟨θ,w',_,.inr ⟨?_,rfl⟩,by rw [g4,Up.none];exact g2,g3,.undef⟩;simp only [execOp,ho,<-ha.now,aD,Instr.storeAt,Instr.sureAddr,storeVar,Sem.run_bind,Sem.run_pure,Result.andThen_ok,oT hs,hsz,ne_eq,not_true_eq_false,qv,g1]
 ·cases hv
theorem du.get {D:Nat->Prop} {θ:Th}:∀ (es:List (AV × AV × Nat)) (ms:List MapEntry) (i:Nat) (e:AV × AV × Nat),du D θ es ms->es[i]? = some e -> ∃ m,ms[i]? = some m/\HA D θ e m
 | _::_,m::_,0,e,⟨h,_⟩,he=>⟨m,rfl,by simp at he;subst he;exact h⟩
 | _::es,_::ms,i+1,e,⟨_,h⟩,he=>by simpa using du.get es ms i e h (by simpa using he)
 | [],_,_,_,_,he=>by simp at he
 | _::_,[],_,_,h,_=>h.elim
theorem du.push {D:Nat->Prop} {θ:Th} {k v:AV} {ck cv:Value} {c:Nat} (hk:VR D θ k ck) (hv:VR D θ v cv):∀ (es:List (AV × AV × Nat)) (ms:List MapEntry),du D θ es ms ->
 du D θ (es ++ [(k,v,c)]) (ms ++ [{ key:=ck,val:=cv,born:=c }])
 | [],[],_=>⟨⟨hk,hv,rfl⟩,trivial⟩
 | _::es,_::ms,⟨h1,h⟩=>⟨h1,du.push hk hv es ms h⟩
 | [],_::_,h=>h.elim
 | _::_,[],h=>h.elim
end
end Go.Am
namespace Go.Am
section
variable {P:Program} {base:Nat} {D:Nat->Prop} {θ:Th} {H:AHeap} {w:World}
theorem HR.sub (h:HR P base D θ H w) {H':AHeap} (hs:∀ b o,H'.get b=some o->H.get b=some o):HR P base D θ H' w :=
 ⟨λ b o hb=>h.obj b o (hs b o hb),λ b b' o o' hb hb'=>h.inj b b' o o' (hs b o hb) (hs b' o' hb'),λ b o hb=>h.gw b o (hs b o hb),h.cY,h.low⟩
theorem KI (H:AHeap) (k:Nat):∀ b o,(H.kill k).get b=some o->H.get b=some o:=by
 intro b o h;rw [AHeap.kF] at h;split at h
 ·cases h
 ·exact h
theorem ba.kill (H:AHeap) (k:Nat):ba D H θ w (H.kill k) θ w :=
 ⟨qh _,Ag.refl _ _,qh _,rfl,rfl,rfl,λ _ _ _=>rfl,λ b o h ho _=>⟨b,o,KI H k b o h,ho,rfl⟩⟩
theorem HR.move (h:HR P base D θ H w) (hn:¬ D H.next) {b:Nat} {o o':bK} {co':Obj} {off ext:Nat} (hb:H.get b=some o) (ho:own o=true) (ho':own o'=true)
 (hr:jL P (Up D H.next (H.next+1)) (θ.add H.next (θ.bF b) off ext) H.next o' co') :
 HR P base (Up D H.next (H.next+1)) (θ.add H.next (θ.bF b) off ext) ((H.kill b).alloc o') (dB w (θ.bF b) co') /\
 ba D H θ w ((H.kill b).alloc o') (θ.add H.next (θ.bF b) off ext) (dB w (θ.bF b) co'):=by
 have hlt:=h.lt hb;have hag:=Th.dS θ H.next (θ.bF b) off ext hn
 obtain ⟨e1,e2,e3⟩:=Th.cS θ H.next (θ.bF b) off ext
 have old:∀ x ox,H.get x=some ox->(θ.add H.next (θ.bF b) off ext).bF x = θ.bF x:=λ x ox hx=>(hag x (h.obj x ox hx).1).1;have hget:∀ x ox,((H.kill b).alloc o').get x=some ox->(x=H.next/\ox=o')\/(x ≠ H.next/\x ≠ b/\H.get x=some ox):=by
  intro x ox hx;rw [AHeap.bj,AHeap.kF] at hx
  by_cases e:H.next=x
  ·rw [qm (show (H.kill b).next=x from e)] at hx;injection hx with hx
   exact .inl ⟨e.symm,hx.symm⟩
  ·rw [qe (show ¬ (H.kill b).next=x from e)] at hx
   by_cases e':b=x
   ·rw [qm e'] at hx;cases hx
   ·rw [qe e'] at hx;exact .inr ⟨λ q=>e q.symm,λ q=>e' q.symm,hx⟩
 refine ⟨⟨λ x ox hx=>?_,λ x y ox oy hx hy hox hne=>?_,λ x ox hx hox=>?_,λ g hg=>?_,by rw [JO];exact h.low⟩,⟨ki _,hag,by rw [JO];exact qh _,rfl,rfl,rfl,λ k hk hno=>?_,λ x ox hx hox hlt'=>?_⟩⟩
 ·rcases hget x ox hx with ⟨rfl,rfl⟩|⟨g1,g2,g3⟩
  ·exact ⟨.inr ⟨qh _,zn _⟩,co',by rw [e1,Cr _ _ _ _ hlt];simp,hr⟩
  ·obtain ⟨h1,co,h2,h3⟩:=h.obj x ox g3;refine ⟨.inl h1,co,?_,h3.up h1 hag Up.of⟩;rw [old x ox g3,Cr _ _ _ _ hlt,qe (h.inj b x o ox hb g3 ho (λ q=>g2 q.symm))];exact h2
 ·rcases hget x ox hx with ⟨rfl,rfl⟩|⟨g1,g2,g3⟩<;>rcases hget y oy hy with ⟨rfl,rfl⟩|⟨k1,k2,k3⟩
  ·exact absurd rfl hne
  ·rw [e1,old y oy k3];exact h.inj b y o oy hb k3 ho (λ q=>k2 q.symm)
  ·rw [e1,old x ox g3];exact h.inj x b ox o g3 hb hox g2
  ·rw [old x ox g3,old y oy k3];exact h.inj x y ox oy g3 k3 hox hne
 ·rcases hget x ox hx with ⟨rfl,rfl⟩|⟨g1,g2,g3⟩
  ·rw [e1];exact h.gw b o hb ho
  ·rw [old x ox g3];exact h.gw x ox g3 hox
 ·obtain ⟨h1,h2,h3⟩:=h.cY g hg;obtain ⟨a1,a2,_⟩:=hag g h1;exact ⟨.inl h1,a1.trans h2,a2.trans h3⟩
 ·rw [Cr _ _ _ _ hlt,qe (hno b o hb ho)]
 ·rcases hget x ox hx with ⟨rfl,rfl⟩|⟨g1,g2,g3⟩
  ·exact ⟨b,o,hb,ho,e1.symm⟩
  ·exact ⟨x,ox,g3,hox,(old x ox g3).symm⟩
theorem Eo (hh:HR P base D θ H w) {tx:TypeId} (hk:(∃ e',P.underlying tx=some (.slice e'))\/P.underlying tx=some .string) {x:AV} {c:Value} {size k:Nat} {l:List AV}
 (hx:VR D θ x c) (hl:dO x=some k) (h:firstCells H size k x=some l) (h1:aX l=true):∃ cs,Src P size tx c k cs w/\bz D θ l cs:=by
 cases hs:isStr x with
 | true =>
  cases x<;>try (cases hs)
  rename_i s;simp only [dO,zN,qd] at hl;subst hl;simp only [firstCells,List.take_length] at h;cases hsz:Nat.beq size 1 with
  | false=>rw [hsz] at h;cases h
  | true =>
  rw [hsz] at h;simp only [xk,qd] at h;subst h;simp only [zy] at hsz;subst hsz;rw [<-hx.now];show ∃ cs,Src P 1 tx (.string ⟨s.toArray⟩) s.length cs w/\bz D θ _ cs;have hf:∀ w:World,(Builtin.firstCells 1 s.length (.string ⟨s.toArray⟩)).run P w=.ok (s.map λ b=>Value.int .u8 b.toNat).toArray w:=by
   intro w;have:=firstCells_string (P:=P) ⟨s.toArray⟩ w;rw [MU] at this;exact this
  refine ⟨s.map λ b=>.int .u8 b.toNat,⟨hk,λ w'=>?_,hf w,hf w.drew,by simp,λ u hu=>?_⟩,λ θ' _=>by rw [mU,rj];rfl⟩
  ·show Result.ok (ByteArray.size ⟨s.toArray⟩) w'=_;rw [MU]
  ·obtain ⟨_,_,rfl⟩:=EO.1 hu;rfl
 | false =>
  obtain ⟨a,len,cap,rfl,rfl,hcase⟩:=Mk hh hx hl (qh _) hs h;obtain ⟨a',len',cap',hc',rfl,hcase'⟩:=Mk (hh.draw (w':=w.drew) rfl) hx hl (qh _) hs h;injection hc' with hc1 hc2 hc3;subst hc1;subst hc3
  rcases hcase with ⟨rfl,rfl,_,hk0⟩|⟨ad,cs,rfl,g1,g2,g3⟩
  ·exact ⟨[],⟨hk,λ _=>rfl,rfl,rfl,by simp [hk0],by simp⟩,.nil⟩
  ·rcases hcase' with ⟨h0,_⟩|⟨ad',cs',he,k1,k2,k3⟩
   ·cases h0
   ·injection he with he;subst he
    have:cs'=cs:=by rw [<-k2.now,<-g2.now]
    subst this;exact ⟨cs',⟨hk,λ _=>rfl,g1,k1,by rw [g2.length];exact g3,qup g2 h1⟩,g2⟩
theorem MD {t tx ty e:TypeId} {i:TypeInfo} (ht:P.underlying t=some (.slice e)) (hi:P.info? e=some i) {a:Addr} {sLen sCap n:Nat} {x:Value} {news:List Value} (hs:Src P i.size tx x n news w)
 (hroom:sLen+n<=sCap) {w':World} (hst:(storeCells (a.add (sLen*i.size)) news).run P w=.ok () w') :
 (Builtin.append_ #[t,tx] ty #[.slice (some a) sLen sCap,x]).run P w=.ok (.slice (some a) (sLen+n) sCap) w':=by
 rcases hs.kind with ⟨e',hk⟩|hk<;>simp [Builtin.append_,run_underlying ht,run_underlying hk,sizeOf,typeInfo,hi,hs.len,hroom,hs.cells,hst]
theorem q03 (z:Array Value) (n:Nat):(Builtin.zeroCells z n).size=n*z.size:=by simp [Builtin.zeroCells]
theorem q6y {D':Nat->Prop} {θ':Th} {id m size:Nat} {cells:List AV} {cs rest:List Value} {e:TypeId} {fz:Nat × Nat} (h:bz D' θ' cells cs) (ho:θ'.off id=0) (hl:cells.length=m*size)
 (hr:rest.length = θ'.ext id*size) (hz:0<size) (hm:m + θ'.ext id<=maxLen):jL P D' θ' id (.grown m size cells e fz) (.cells (cs++rest).toArray e (0,0)) :=
 ⟨[],cs,rest,(0,0),by simp,by simp [ho],h,hl,hr,hz,hm,.inl rfl⟩
theorem HR.grow (hh:HR P base D θ H w) (hn:¬ D H.next) {t tx ty e:TypeId} {i:TypeInfo} {z:Value} (ht:P.underlying t=some (.slice e)) (hi:P.info? e=some i) (hz:i.zero=some z) (hzs:z.cells.size=i.size)
 (h0:0<i.size) {bs:Option Addr} {sLen sCap n:Nat} {x:Value} {old new:List AV} {olds news:List Value} (hold:(Builtin.firstCells i.size sLen (.slice bs sLen sCap)).run P w.drew=.ok olds.toArray w.drew)
 (hs:Src P i.size tx x n news w) (hg:sCap<sLen+n) (hf:fits (sLen+n) i.bytes=true) (ho:bz D θ old olds) (hnw:bz D θ new news) (hol:old.length=sLen*i.size) (fz:Nat × Nat) :
 ∃ θ' w' c,(Builtin.append_ #[t,tx] ty #[.slice bs sLen sCap,x]).run P w=.ok c w'/\HR P base (Up D H.next (H.next+1)) θ' (cm H e i.size (sLen+n) (fH old new) fz).2 w' /\
  ba D H θ w (cm H e i.size (sLen+n) (fH old new) fz).2 θ' w'/\VR (Up D H.next (H.next+1)) θ' (cm H e i.size (sLen+n) (fH old new) fz).1 c:=by
 unfold fits at hf;simp only [xq,we] at hf;obtain ⟨f1,f2⟩:=hf;have hrun:=run_append_grow_src (P:=P) w t tx ty e i z ht hi hz bs sLen sCap olds hold x n news hs hg (by omega) (growslice_fits hg f1);have hcap:=grownCap_ge w (sLen+n) sCap e;have hcm:=grownCap_le_maxLen w (sLen+n) sCap e (by unfold maxLen;omega);generalize grownCap w (sLen+n) sCap e=cap at hrun hcap hcm;have hnl:=hs.newsLen;have hlen:(fH old new).length=(sLen+n)*i.size:=by
  rw [jF,qx,hol,<-hnw.length,hnl,kh]
 have hco:(Obj.cells ((olds++news).toArray++Builtin.zeroCells z.cells (cap-(sLen+n))) e:Obj)=.cells ((olds++news)++(Builtin.zeroCells z.cells (cap-(sLen+n))).toList).toArray e (0,0):=by
  congr 1;apply xH;simp
 have hag:=Th.dS θ H.next w.drew.heap.size 0 (cap-(sLen+n)) hn
 have hup:bz (Up D H.next (H.next+1)) (θ.add H.next w.drew.heap.size 0 (cap-(sLen+n))) (fH old new) (olds++news):=by
  rw [jF];exact (ho.app hnw).up hag Up.of
 obtain ⟨e1,e2,e3⟩:=Th.cS θ H.next w.drew.heap.size 0 (cap-(sLen+n))
 have hR:=q6y (P:=P) (id:=H.next) (m:=sLen+n) (size:=i.size) (e:=e) (fz:=fz) (rest:=(Builtin.zeroCells z.cells (cap-(sLen+n))).toList) hup e2 hlen
  (by rw [e3,yp,q03,hzs]) h0 (by rw [e3];omega)
 rw [<-hco] at hR;refine ⟨_,_,_,hrun,HR.alloc (w:=w.drew) (hh.draw rfl) hn ?_ ?_ (qh _) ?_ hR,?_,?_⟩
 ·rw [vL];simp
 ·intro j hj;rw [vL,qe (EB hj)]
 ·show w.drew.heap.size<=(w.drew.alloc _).heap.size;simp
 ·exact (ba.draw (w:=w) (w':=w.drew) rfl rfl rfl rfl).trans (ba.alloc (w:=w.drew) (hh.draw rfl) hn _ _ _ _) (λ _ h=>h)
 ·have hid:(Up D H.next (H.next+1)) H.next:=.inr ⟨qh _,zn _⟩
  have:=VR.gslice (θ:=θ.add H.next w.drew.heap.size 0 (cap-(sLen+n))) (i:=0) (m:=sLen+n) (s:=i.size) (alt:=0) (n:=sLen+n) hid;intro θ'' hag';show aD θ'' (.gslice H.next 0 (sLen+n) i.size 0 (sLen+n))=_;rw [this θ'' hag'];simp only [aD,e1,e2,e3,vp,ite_self,qf,Ey];congr 1;omega
theorem Iy {b i m s alt n:Nat} {c:Value} (h:VR D θ (.gslice b i m s alt n) c):c=.slice (some ⟨θ.bF b,θ.off b+(if (m-i) + θ.ext b=0 then alt else i*s),none⟩) n ((m-i) + θ.ext b):=by
 rw [<-h.now];rfl
theorem D4 {b o n cp:Nat} {c:Value} (h:VR D θ (.slice b o n cp) c):c=.slice (some ⟨θ.bF b,θ.off b+o,none⟩) n cp:=by
 rw [<-h.now];rfl
theorem HR.Ds (hh:HR P base D θ H w) (hn:¬ D H.next) {t tx ty e:TypeId} {i:TypeInfo} {z:Value} (ht:P.underlying t=some (.slice e)) (hi:P.info? e=some i) (hz:i.zero=some z) (hzs:z.cells.size=i.size)
 (h0:0<i.size) {b k m sLen n:Nat} {c:List AV} {fz fz':Nat × Nat} {alt:Nat} {s x:Value} {old new:List AV} {news:List Value} (hg:H.get b=some (.grown m i.size c e fz))
 (hsv:VR D θ (.gslice b k m i.size alt sLen) s) (hs:Src P i.size tx x n news w) (hnw:bz D θ new news) (hn0:0<n) (hkm:k+sLen<=m) (hbig:m<k+sLen+n) (hf:fits (sLen+n) i.bytes=true)
 (hold:dW c (k*i.size) (sLen*i.size)=some old)
 (hfz:(fz.2<fz.1\/fz.2<=(k+sLen)*i.size)/\((k=0/\fz'=fz)\/(fz.2<=k*i.size/\fz'=cond (Nat.beq fz.1 fz.2) (0,0) (1,0)))) :
 ∃ θ' w' v,(Builtin.append_ #[t,tx] ty #[s,x]).run P w=.ok v w'/\HR P base (Up D H.next (H.next+1)) θ' (cm (H.kill b) e i.size (sLen+n) (fH old new) fz').2 w' /\
  ba D H θ w (cm (H.kill b) e i.size (sLen+n) (fH old new) fz').2 θ' w'/\VR (Up D H.next (H.next+1)) θ' (cm (H.kill b) e i.size (sLen+n) (fH old new) fz').1 v:=by
 have hsc:=Iy hsv;subst hsc;obtain ⟨hd,co,hc,pre,cs,post,cfz,rfl,r2,r3,r4,r5,r6,r7,r8⟩:=hh.obj b _ hg;have hcl:=r3.length;have hnl:=hs.newsLen;rw [oe] at hold;have hle:sLen*i.size<=c.length-k*i.size:=by
  rw [r4,<-Nat.sub_mul];exact kc _ (by omega)
 rw [qm hle] at hold;injection hold with hold;subst hold
 have hol:bz D θ ((c.drop (k*i.size)).take (sLen*i.size)) ((cs.drop (k*i.size)).take (sLen*i.size)):=(r3.drop _).take _;have hkc:(k+sLen)*i.size<=c.length:=by rw [r4];exact kc _ hkm
 have hkadd:(k+sLen)*i.size=k*i.size+sLen*i.size:=kh _ _ _
 by_cases hroom:sLen+n<=(m-k) + θ.ext b
 ·-- in place
  have hcap:¬ (m-k) + θ.ext b=0:=by omega
  rw [qe hcap];have htot:(k+sLen+n)*i.size<=cs.length+post.length:=by
   rw [hcl,r4,r5,<-kh];exact kc _ (by omega)
  have hadd2:(k+sLen+n)*i.size=k*i.size+sLen*i.size+n*i.size:=by rw [kh,kh]
  have hst:=J1 (P:=P) (θ.off b+k*i.size+sLen*i.size) news 0 _ w hc (by simp;omega) (λ j hj=>by
   unfold AW at r8;obtain ⟨q1,q2⟩:=hfz;omega) hs.one
  rw [qf] at hst;have hrun:=MD (ty:=ty) ht hi (a:=⟨θ.bF b,θ.off b+k*i.size,none⟩) (sLen:=sLen) (sCap:=(m-k) + θ.ext b) hs hroom (by rw [pQ];exact hst)
  -- the block's cells from the slice's head on
  have hw:((pre++cs++post).take (θ.off b+k*i.size+sLen*i.size)++news++(pre++cs++post).drop (θ.off b+k*i.size+sLen*i.size+news.length)) =
   (pre++cs.take (k*i.size))++((cs.drop (k*i.size)).take (sLen*i.size)++news)++(pre++cs++post).drop (θ.off b+k*i.size+sLen*i.size+news.length):=by
   have e1:(pre++cs++post).take (θ.off b+k*i.size+sLen*i.size)=pre++cs.take (k*i.size)++(cs.drop (k*i.size)).take (sLen*i.size):=by
    rw [zi,Fc,zh (l:=pre) (by omega),zi,show θ.off b+k*i.size+sLen*i.size-pre.length=k*i.size+sLen*i.size from by omega,Fc,
     show k*i.size+sLen*i.size-cs.length=0 from by omega,CN,zb,List.take_add]
   rw [e1];simp
  have hdrop:((pre++cs++post).drop (θ.off b+k*i.size+sLen*i.size+news.length)).length=((m-k) + θ.ext b-(sLen+n))*i.size:=by
   rw [j5,qx,qx,hnl,Nat.sub_mul,kh,kh,Nat.sub_mul,hcl,r4,r5,r2];have:=kc i.size (show k<=m by omega);omega
  have hag:=Th.dS θ H.next (θ.bF b) (θ.off b+k*i.size) ((m-k) + θ.ext b-(sLen+n)) hn
  obtain ⟨e1,e2,e3⟩:=Th.cS θ H.next (θ.bF b) (θ.off b+k*i.size) ((m-k) + θ.ext b-(sLen+n))
  have hsz:((cs.drop (k*i.size)).take (sLen*i.size)).length=sLen*i.size:=by rw [j6,j5];omega
  obtain ⟨g1,g2⟩:=hh.move hn (o':=.grown (sLen+n) i.size (fH ((c.drop (k*i.size)).take (sLen*i.size)) new) e fz') (co':=.cells ((pre++cs.take (k*i.size))++((cs.drop (k*i.size)).take (sLen*i.size)++news)++(pre++cs++post).drop (θ.off b+k*i.size+sLen*i.size+news.length)).toArray e cfz)
   (off:=θ.off b+k*i.size) (ext:=(m-k) + θ.ext b-(sLen+n)) hg rfl rfl ⟨_,_,_,cfz,rfl,by rw [e2,qx,j6];omega,by rw [jF];exact (hol.app hnw).up hag Up.of,
    by rw [jF,qx,<-hol.length,hsz,<-hnw.length,hnl,kh],by rw [e3];exact hdrop,h0,by rw [e3];unfold maxLen at r7 ⊢;omega,by
     rw [e2];have hlen2:(pre++cs.take (k*i.size)).length+((cs.drop (k*i.size)).take (sLen*i.size)++news).length+((pre++cs++post).drop (θ.off b+k*i.size+sLen*i.size+news.length)).length=pre.length+cs.length+post.length:=by
      rw [<-qx,<-qx,<-hw];simp;omega
     rw [hlen2];obtain ⟨_,q|⟨q1,q2⟩⟩:=hfz
     ·obtain ⟨rfl,rfl⟩:=q;simpa using r8
     ·unfold AW at r8 ⊢;cases hbq:Nat.beq fz.1 fz.2 with
      | true =>
       simp only [zy] at hbq;rw [hbq] at q2;simp only [Nat.beq_refl,xk] at q2;omega
      | false =>
       rw [hbq] at q2;subst q2;have:¬ fz.1=fz.2:=by intro h;rw [h,Nat.beq_refl] at hbq;cases hbq
       simp only [zk];omega⟩
  refine ⟨θ.add H.next (θ.bF b) (θ.off b+k*i.size) ((m-k) + θ.ext b-(sLen+n)),_,_,hrun,?_,?_,?_⟩
  ·rw [show (pre++cs++post).toArray.toList=pre++cs++post from rfl,hw];exact g1
  ·rw [show (pre++cs++post).toArray.toList=pre++cs++post from rfl,hw];exact g2
  ·have hid:(Up D H.next (H.next+1)) H.next:=.inr ⟨qh _,zn _⟩
   have:=VR.gslice (θ:=θ.add H.next (θ.bF b) (θ.off b+k*i.size) ((m-k) + θ.ext b-(sLen+n))) (i:=0) (m:=sLen+n) (s:=i.size) (alt:=0) (n:=sLen+n) hid;intro θ'' hag';show aD θ'' (.gslice H.next 0 (sLen+n) i.size 0 (sLen+n))=_;rw [this θ'' hag'];simp only [aD,e1,e2,e3,vp,ite_self,qf,Ey];congr 1;omega
 ·have hfc:(Builtin.firstCells i.size sLen (.slice (some ⟨θ.bF b,θ.off b+(if (m-k) + θ.ext b=0 then alt else k*i.size),none⟩) sLen ((m-k) + θ.ext b))).run P w.drew=.ok ((cs.drop (k*i.size)).take (sLen*i.size)).toArray w.drew:=by
   by_cases hl0:sLen=0
   ·subst hl0;show (loadCells _ (0*i.size)).run P w.drew=_;rw [vp,CN];rfl
   ·have hcap:¬ (m-k) + θ.ext b=0:=by omega
    rw [qe hcap];show (loadCells _ (sLen*i.size)).run P w.drew=_;have:=q2r (P:=P) (w:=w.drew) (k:=θ.bF b) (fz:=cfz) (e:=e) (arr:=(pre++cs++post).toArray) hc (pre.length+k*i.size) (sLen*i.size) (by simp;omega);rw [q5h pre cs post _ _ (by rw [hcl];exact hle),r2] at this;exact this
  have:=(hh.sub (KI H b)).grow (ty:=ty) (H:=H.kill b) hn ht hi hz hzs h0 hfc hs (by omega) hf hol hnw (by rw [j6,j5];omega) fz';obtain ⟨θ',w',v,g1,g2,g3,g4⟩:=this;exact ⟨θ',w',v,g1,g2,(ba.kill H b).trans g3 (λ _ h=>h),g4⟩
theorem yD {e:TypeId} {n z:Nat} {zv:AV} (hs:bO P e=some n) (hb:im P e=some z) (hz:zeroOf P e=some zv) (hzn:zv.cells.length=n) :
 ∃ i zc,P.info? e=some i/\i.size=n/\i.bytes=z/\i.zero=some zc/\zc.cells.size=n:=by
 obtain ⟨i,h1,h2⟩:=qsy hs;unfold im at hb;rw [h1] at hb;simp only [qn,qd] at hb;unfold zeroOf at hz;rw [h1] at hz;simp only [qn,qc] at hz;obtain ⟨zc,h3,h4⟩:=hz;refine ⟨i,zc,h1,h2,hb,h3,?_⟩;have:=(Jq (D:=λ _=>False) (θ:=⟨λ _=>0,λ _=>0,λ _=>0⟩) h4).cells.length;rw [hzn] at this;simpa using this
theorem q93 {b o n cp:Nat} {c:Value} (h:VR D θ (.slice b o n cp) c) (n':Nat):VR D θ (.slice b o n' cp) (.slice (some ⟨θ.bF b,θ.off b+o,none⟩) n' cp):=λ θ' ha=>by
 have:=(h θ' ha).trans h.now.symm;simp only [aD,Value.slice.injEq,qd,Addr.mk.injEq,mz,qS] at this;simp only [aD,this.1,this.2]
theorem q6p {b i m s alt n:Nat} {c:Value} (h:VR D θ (.gslice b i m s alt n) c) (n':Nat):VR D θ (.gslice b i m s alt n') (.slice (some ⟨θ.bF b,θ.off b+(if (m-i) + θ.ext b=0 then alt else i*s),none⟩) n' ((m-i) + θ.ext b)):=λ θ' ha=>by
 have:=(h θ' ha).trans h.now.symm;simp only [aD,Value.slice.injEq,qd,Addr.mk.injEq,mz,qS] at this;obtain ⟨⟨h1,h2⟩,h3⟩:=this;rw [h3] at h2;simp only [aD,h1,h3,h2]
theorem q6m {o:Oper} {c:Call} {xs:List Operand} {t tx e:TypeId} {sz z:Nat} {zv:AV} (ho:o.op=.call c) (hc:c.callee=.builtin .append) (hx:c.args.toList=xs) (hts:c.argTypes.toList=[t,tx])
 (hu:P.underlying t=some (.slice e)) (hk:(∃ e',P.underlying tx=some (.slice e'))\/(P.underlying tx=some .string)) (hs:bO P e=some sz) (hb:im P e=some z) (hz:zeroOf P e=some zv) (hzn:zv.cells.length=sz) :
 pA P o xs (Op.append e sz z):=by
 intro base D θ H ρ w vs v H' hh h hv hfr;obtain ⟨cc,hE⟩:=Ip (ρ:=ρ) ho hc;have hats:c.argTypes = #[t,tx]:=by apply xH;simpa using hts
 obtain ⟨i,zc,hi,rfl,rfl,hiz,hzs⟩:=yD hs hb hz hzn;unfold Op.append at hv;split at hv
 ·rename_i a b;obtain ⟨x,y,rfl,ha,hbv⟩:=h.qV;simp only [qc] at hv;obtain ⟨n,hn,new,hnew,hv⟩:=hv;cases hone:aX new with
  | false=>rw [hone] at hv;cases hv
  | true =>
   rw [hone] at hv;simp only [xk] at hv;obtain ⟨news,hsrc,hnv⟩:=Eo hh (tx:=tx) hk hbv hn hnew hone;have hfin:∀ (c':Value) (w':World),(Builtin.append_ #[t,tx] o.type #[ρ x,ρ y]).run P w=.ok c' w'->(execOp ρ o).run P w=.ok (.value c') w':=by
    intro c' w' hr;rw [hE,AL hx,hats];simp [builtin,hr]
   have hnl:=hsrc.newsLen;have hnlen:=hnv.length;have hnothing:n=0 -> ∀ bs len cp,ρ x=.slice bs len cp->len<=cp->(Builtin.append_ #[t,tx] o.type #[ρ x,ρ y]).run P w=.ok (ρ x) w:=by
    intro h0 bs len cp he hle;subst h0;have:news=[]:=List.eq_nil_of_length_eq_zero (by simpa using hnl);subst this;rw [he];exact run_append_nothing w t tx o.type e i hu hi bs len cp hle (ρ y) hsrc
   unfold bX at hv;split at hv
   ·-- nil
    cases h0:Nat.beq n 0 with
    | true =>
     rw [h0] at hv;simp only [xk,qd,xw] at hv;obtain ⟨rfl,rfl⟩:=hv;exact ⟨θ,w,ρ x,.inl (hfin _ _ (hnothing (by simpa using h0) none 0 0 ha.now.symm (qh _))),by rw [Up.none];exact hh,.refl _ _ _ _,by rw [Up.none];exact ha⟩
    | false =>
     rw [h0] at hv;simp only [zk] at hv;cases hf:(fits n i.bytes && Nat.blt 0 i.size) with
     | false=>rw [hf] at hv;cases hv
     | true =>
      rw [hf] at hv;simp only [xk,qd] at hv;simp only [xq,mX] at hf;have hn0:n ≠ 0:=by intro q;subst q;cases h0
      obtain ⟨θ',w',c',g1,g2,g3,g4⟩:=hh.grow (ty:=o.type) (hfr H.next (qh _) (by rw [<-(Prod.mk.inj hv).2];exact zn _)) hu hi hiz hzs hf.2 (bs:=none) (sLen:=0) (sCap:=0) (old:=[]) (olds:=[]) rfl hsrc (by omega) (by simpa using hf.1) .nil hnv (by simp) (0,0);rw [show fH ([]:List AV) new=new from rfl,yd] at g2 g3 g4;rw [hv] at g2 g3 g4;have:H'.next=H.next+1:=by rw [<-(Prod.mk.inj hv).2];rfl
      rw [<-this] at g2 g4;refine ⟨θ',w',c',.inl (hfin _ _ ?_),g2,g3,g4⟩;rw [<-ha.now];exact g1
   ·-- a slice of a row
    rename_i bb oo len cp;cases hle:Nat.ble (len+n) cp with
    | true =>
     rw [hle] at hv;simp only [we] at hle;simp only [xk] at hv;cases h0:Nat.beq n 0 with
     | true =>
      rw [h0] at hv;simp only [xk,qd,xw] at hv;obtain ⟨rfl,rfl⟩:=hv;simp only [zy] at h0;subst h0;exact ⟨θ,w,ρ x,.inl (hfin _ _ (hnothing rfl _ len cp (D4 ha) (by omega))),by rw [Up.none];exact hh,.refl _ _ _ _,by rw [Up.none];exact ha⟩
     | false =>
      rw [h0] at hv;simp only [zk,qc,qd,xw] at hv;obtain ⟨H1,h1,rfl,rfl⟩:=hv;obtain ⟨w',g1,g2,g3,g4⟩:=hh.store hnv h1;refine ⟨θ,w',_,.inl (hfin _ _ ?_),by rw [g4,Up.none];exact g2,g3,by rw [g4,Up.none];exact q93 ha _⟩;rw [D4 ha];exact MD hu hi hsrc hle (by rw [pQ,vh];exact g1)
    | false =>
     rw [hle] at hv;have hle':¬ len+n<=cp:=by intro q;rw [Nat.ble_eq_true_of_le q] at hle;cases hle
     simp only [zk] at hv;cases hf:(fits (len+n) i.bytes && Nat.ble cp (len+n) && Nat.blt 0 i.size) with
     | false=>rw [hf] at hv;cases hv
     | true =>
      rw [hf] at hv;simp only [xk,qc,qd] at hv;obtain ⟨old,hold,hv⟩:=hv;simp only [xq,mX] at hf;obtain ⟨olds,k1,k2,k3⟩:∃ olds:List Value,(Builtin.firstCells i.size len (ρ x)).run P w.drew=.ok olds.toArray w.drew/\bz D θ old olds/\old.length=len*i.size:=by
       obtain ⟨ad,len',cap',hc',hl',hcase⟩:=Mk (hh.draw (w':=w.drew) rfl) ha (n:=len) rfl (qh _) rfl hold;rcases hcase with ⟨rfl,rfl,_,h0⟩|⟨ad',cs',rfl,k1,k2,k3⟩
       ·rw [D4 ha] at hc';cases hc'
       ·exact ⟨cs',by rw [hc'];exact k1,k2,k3⟩
      rw [D4 ha] at k1;obtain ⟨θ',w',c',g1,g2,g3,g4⟩:=hh.grow (ty:=o.type) (hfr H.next (qh _) (by rw [<-(Prod.mk.inj hv).2];exact zn _)) hu hi hiz hzs hf.2 k1 hsrc (by omega) hf.1.1 k2 hnv k3 (0,0);rw [hv] at g2 g3 g4;have:H'.next=H.next+1:=by rw [<-(Prod.mk.inj hv).2];rfl
      rw [<-this] at g2 g4;refine ⟨θ',w',c',.inl (hfin _ _ ?_),g2,g3,g4⟩;rw [D4 ha];exact g1
   ·-- a slice of a grown row
    rename_i bb ii m sz alt len;cases h0:Nat.beq n 0 with
    | true =>
     rw [h0] at hv;simp only [xk] at hv;cases hil:Nat.ble (ii+len) m with
     | false=>rw [hil] at hv;cases hv
     | true =>
     rw [hil] at hv;simp only [xk,qd,xw] at hv;obtain ⟨rfl,rfl⟩:=hv;simp only [zy] at h0;subst h0;simp only [we] at hil;exact ⟨θ,w,ρ x,.inl (hfin _ _ (hnothing rfl _ len _ (Iy ha) (by omega))),by rw [Up.none];exact hh,.refl _ _ _ _,by rw [Up.none];exact ha⟩
    | false =>
     rw [h0] at hv;have hn0:n ≠ 0:=by intro q;subst q;cases h0
     simp only [zk] at hv;cases hcc:(Nat.beq sz i.size && Nat.ble (ii+len) m && Nat.blt 0 i.size) with
     | false=>rw [hcc] at hv;cases hv
     | true =>
      rw [hcc] at hv;simp only [xq,zy,we,mX] at hcc;obtain ⟨⟨rfl,hil⟩,hsz⟩:=hcc;simp only [xk] at hv;cases hle:Nat.ble (ii+len+n) m with
      | true =>
       rw [hle] at hv;simp only [we] at hle;simp only [xk,qc,qd,xw] at hv;obtain ⟨H1,h1,rfl,rfl⟩:=hv;obtain ⟨w',g1,g2,g3,g4⟩:=hh.store hnv h1;refine ⟨θ,w',_,.inl (hfin _ _ ?_),by rw [g4,Up.none];exact g2,g3,by rw [g4,Up.none];exact q6p ha _⟩;rw [Iy ha];refine MD hu hi hsrc (by omega) ?_;rw [qe (by omega),pQ,vh,<-kh];exact g1
      | false =>
       rw [hle] at hv;have hle':¬ ii+len+n<=m:=by intro q;rw [Nat.ble_eq_true_of_le q] at hle;cases hle
       simp only [zk] at hv;cases hf:fits (len+n) i.bytes with
       | false=>rw [hf] at hv;cases hv
       | true =>
        rw [hf] at hv;simp only [xk] at hv;split at hv
        ·rename_i m' sz' c0 e' fz hget;cases hcc:(Nat.beq m m' && Nat.beq i.size sz' && Nat.beq e' e) with
         | false=>rw [hcc] at hv;cases hv
         | true =>
          rw [hcc] at hv;simp only [xq,zy] at hcc;obtain ⟨⟨rfl,rfl⟩,rfl⟩:=hcc;simp only [xk] at hv;have hfin2:∀ old fz',dW c0 (ii*i.size) (len*i.size)=some old->((fz.2<fz.1\/fz.2<=(ii+len)*i.size)/\((ii=0/\fz'=fz)\/(fz.2<=ii*i.size/\fz'=cond (Nat.beq fz.1 fz.2) (0,0) (1,0)))) ->
           cm (H.kill bb) e' i.size (len+n) (fH old new) fz'=(v,H') -> ∃ θ' w' c,na P (execOp ρ o) w c w'/\HR P base (Up D H.next H'.next) θ' H' w'/\ba D H θ w H' θ' w'/\VR (Up D H.next H'.next) θ' v c:=by
           intro old fz' hold hfz hv;have hnx:H'.next=H.next+1:=by rw [<-(Prod.mk.inj hv).2];rfl
           obtain ⟨θ',w',c',g1,g2,g3,g4⟩:=hh.Ds (ty:=o.type) (hfr H.next (qh _) (by rw [hnx];exact zn _)) hu hi hiz hzs hsz hget ha hsrc hnv (by omega) hil (by omega) hf hold hfz;rw [hv] at g2 g3 g4;rw [<-hnx] at g2 g4;exact ⟨θ',w',c',.inl (hfin _ _ g1),g2,g3,g4⟩
          cases hq1:(Nat.beq ii 0 && Nat.beq len m && Nat.ble fz.2 (m*i.size)) with
          | true =>
           rw [hq1] at hv;simp only [xq,zy,we] at hq1;obtain ⟨⟨rfl,rfl⟩,hq1⟩:=hq1;simp only [xk,qd] at hv;obtain ⟨_,co,_,pre,cs,post,cfz,_,_,_,r4,_⟩:=hh.obj bb _ hget;refine hfin2 c0 fz ?_ ⟨.inr (by simpa using hq1),.inl ⟨rfl,rfl⟩⟩ hv;rw [oe,vp,<-r4,qm (by omega),FJ,List.take_length]
          | false =>
           rw [hq1] at hv;simp only [zk] at hv;cases hq2:Nat.ble fz.2 (ii*i.size) with
           | true =>
            rw [hq2] at hv;simp only [we] at hq2;simp only [xk,qc,qd] at hv;obtain ⟨old,hold,hv⟩:=hv;exact hfin2 old _ hold ⟨.inr (by rw [kh];omega),.inr ⟨hq2,rfl⟩⟩ hv
           | false =>
            rw [hq2] at hv;simp only [zk] at hv;cases hq3:(Nat.beq ii 0 && Nat.ble fz.2 (len*i.size)) with
            | false=>rw [hq3] at hv;cases hv
            | true =>
             rw [hq3] at hv;simp only [xq,zy,we] at hq3;obtain ⟨rfl,hq3⟩:=hq3;simp only [xk,qc,qd] at hv;obtain ⟨old,hold,hv⟩:=hv;exact hfin2 old fz (by rw [vp];exact hold) ⟨.inr (by rw [yd];exact hq3),.inl ⟨rfl,rfl⟩⟩ hv
        ·cases hv
   ·cases hv
 ·cases hv
theorem q3n {o:Oper} {c:Call} {xs:List Operand} {t e:TypeId} {z:AV} (ho:o.op=.call c) (hc:c.callee=.builtin .clear) (hx:c.args.toList=xs) (ht:c.argTypes[0]? = some t)
 (hu:P.underlying t=some (.slice e)) (hz:zeroOf P e=some z):pA P o xs (Op.c5 z.cells):=by
 intro base D θ H ρ w vs v H' hh h hv hfr;obtain ⟨cc,hE⟩:=Ip (ρ:=ρ) ho hc;unfold Op.c5 at hv;split at hv
 ·cases hv
 ·rename_i d hns;obtain ⟨x,rfl,ha⟩:=h.lj;simp only [qc] at hv;obtain ⟨n,hn,hv⟩:=hv;cases h0:Nat.beq n 0 with
  | true =>
   rw [h0] at hv;simp only [xk,qd,xw] at hv;obtain ⟨rfl,rfl⟩:=hv;simp only [zy] at h0;subst h0;refine ⟨θ,w,.tuple #[],.inl ?_,by rw [Up.none];exact hh,.refl _ _ _ _,.tuple .nil⟩;rw [hE,AL hx];have hsl:∃ bs cp,ρ x=.slice bs 0 cp:=by
    cases d<;>simp only [dO,reduceCtorEq,qd] at hn
    ·exact (hns _ rfl).elim
    ·exact ⟨none,0,ha.now.symm⟩
    ·subst hn;exact ⟨_,_,D4 ha⟩
    ·subst hn;exact ⟨_,_,Iy ha⟩
    ·exact ⟨_,_,ha.now.symm⟩
   obtain ⟨bs,cp,hxe⟩:=hsl;cases bs<;>simp [builtin,Builtin.clear_,ht,wx hu,hxe]
  | false =>
   rw [h0] at hv;simp only [zk,qc,qd,xw] at hv;obtain ⟨p,hp,H1,h1,rfl,rfl⟩:=hv;obtain ⟨n',m',k1,k2,k3,k4⟩:=qve ha hp;rw [vp,Ey] at k1;obtain ⟨zc,hz1,hz2⟩:=F0 (w:=w) hz;have hnew:bz D θ (dh n z.cells) (List.replicate n zc.cells.toList).flatten:=LJ (hz2 D θ).cells n;obtain ⟨w',q1,q2,q3,q4⟩:=hh.store hnew h1;refine ⟨θ,w',.tuple #[],.inl ?_,by rw [q4,Up.none];exact q2,q3,.tuple .nil⟩;rw [hE,AL hx];have hnn:n'=n:=by
    cases d<;>simp only [dO,reduceCtorEq,qd] at hn
    ·exact (hns _ rfl).elim
    ·rw [<-ha.now] at k1;cases k1
    ·subst hn;rw [D4 ha] at k1;injection k1 with _ k _;exact k.symm
    ·subst hn;rw [Iy ha] at k1;injection k1 with _ k _;exact k.symm
    ·cases hp
   subst hnn;have hzz:(Builtin.zeroCells zc.cells n').toList=(List.replicate n' zc.cells.toList).flatten:=by
    have:=KG zc.cells.toList n';unfold Builtin.zeroCells;rw [<-yp]
    simpa using congrArg Array.toList this
   have hn0:n' ≠ 0:=by omega
   obtain ⟨k,rfl⟩:∃ k,n'=k+1:=⟨n'-1,by omega⟩
   simp [builtin,Builtin.clear_,ht,wx hu,k1,hz1,hzz,q1]
 ·cases hv
theorem B7.join {fz cfz:Nat × Nat} (h:B7 fz cfz) (o n:Nat) (hn:n ≠ 0):B7 (Op.mE fz o n) (if cfz.1 == cfz.2 then (o,o+n) else (min cfz.1 o,max cfz.2 (o+n))):=by
 unfold B7 at h ⊢;unfold Op.mE
 by_cases hc:cfz.1=cfz.2
 ·rw [qm (by simpa using hc)];cases hb:Nat.beq fz.1 fz.2 with
  | true=>simp only [xk];omega
  | false=>simp only [zk];omega
 ·rw [qe (by simpa using hc)];have hb:Nat.beq fz.1 fz.2=false:=by
   cases hb:Nat.beq fz.1 fz.2 with
   | false=>rfl
   | true=>simp only [zy] at hb;omega
  rw [hb];simp only [zk];omega
theorem AW.join {fz cfz:Nat × Nat} {off size:Nat} (h:AW fz cfz off size) (ht:fz.1<=fz.2) (o n:Nat) (hn:n ≠ 0):AW (Op.mE fz o n) (if cfz.1 == cfz.2 then (off+o,off+o+n) else (min cfz.1 (off+o),max cfz.2 (off+o+n))) off size:=by
 unfold AW at h ⊢;unfold Op.mE
 by_cases hc:cfz.1=cfz.2
 ·rw [qm (by simpa using hc)];cases hb:Nat.beq fz.1 fz.2 with
  | true=>simp only [xk];omega
  | false=>simp only [zk];omega
 ·rw [qe (by simpa using hc)];have hb:Nat.beq fz.1 fz.2=false:=by
   cases hb:Nat.beq fz.1 fz.2 with
   | false=>rfl
   | true=>simp only [zy] at hb;omega
  rw [hb];simp only [zk];omega
end
end Go.Am
namespace Go.Am
def Ext (H H':AHeap):Prop:=H.next<=H'.next /\ ∀ b o,H'.get b=some o->(∃ o',H.get b=some o'/\(own o'=true->own o=true))\/(H.next<=b/\b<H'.next/\own o=true)
theorem Ext.refl (H:AHeap):Ext H H:=⟨qh _,λ b o h=>.inl ⟨o,h,λ h=>h⟩⟩
theorem Ext.trans {H H' H'':AHeap} (h:Ext H H') (h':Ext H' H''):Ext H H'':=by
 refine ⟨xu h.1 h'.1,λ b o hb=>?_⟩;rcases h'.2 b o hb with ⟨o',h1,h0⟩|⟨h1,h2,h3⟩
 ·rcases h.2 b o' h1 with ⟨o'',h3,h4⟩|⟨h3,h4,h5⟩
  ·exact .inl ⟨o'',h3,λ q=>h0 (h4 q)⟩
  ·exact .inr ⟨h3,qp h4 h'.1,h0 h5⟩
 ·exact .inr ⟨xu h.1 h1,h2,h3⟩
theorem Ext.set {H:AHeap} {b:Nat} {o:bK} (h:H.get b=some o) (o':bK) (ho:own o=true->own o'=true):Ext H (H.set b o'):=by
 refine ⟨qh _,λ x ox hx=>?_⟩;rw [AHeap.aJ] at hx;split at hx
 ·rename_i e;subst e;injection hx with hx;subst hx
  exact .inl ⟨o,h,ho⟩
 ·exact .inl ⟨ox,hx,λ h=>h⟩
theorem Ext.alloc (H:AHeap) (o:bK) (ho:own o=true):Ext H (H.alloc o):=by
 refine ⟨ki _,λ x ox hx=>?_⟩;rw [AHeap.bj] at hx;split at hx
 ·rename_i e;subst e;injection hx with hx;subst hx
  exact .inr ⟨qh _,zn _,ho⟩
 ·exact .inl ⟨ox,hx,λ h=>h⟩
theorem Ext.kill (H:AHeap) (b:Nat):Ext H (H.kill b):=⟨qh _,λ x ox hx=>.inl ⟨ox,KI H b x ox hx,λ h=>h⟩⟩
def cL:dD->Prop
 | .alloc f=>∀ vs ob mk,f vs=some (ob,mk)->own ob=true
 | .eE f=>∀ vs H v H',f vs H=some (v,H')->Ext H H'
 | _=>True
theorem kq {α:Type} {c:Bool} {a b:Option α} {x:α} (h:cond c a b=some x):(c=true/\a=some x)\/(c=false/\b=some x):=by
 cases c<;>simp_all
theorem Jz {H H':AHeap} {b o:Nat} {l:List AV} (h:H.store b o l=some H'):Ext H H':=by
 unfold AHeap.store at h;rcases kq h with ⟨_,h⟩|⟨_,h⟩
 ·split at h
  ·rename_i hg;rcases kq h with ⟨_,h⟩|⟨_,h⟩
   ·simp only [qc,qd] at h;obtain ⟨_,_,rfl⟩:=h;exact Ext.set hg _ (λ _=>rfl)
   ·cases h
  ·rename_i hg;rcases kq h with ⟨_,h⟩|⟨_,h⟩
   ·simp only [qc,qd] at h;obtain ⟨_,_,rfl⟩:=h;exact Ext.set hg _ (λ _=>rfl)
   ·cases h
  ·cases h
 ·cases h
theorem q6x (n:Nat):cL (.eE (Op.store n)):=by
 intro vs H v H' h;unfold Op.store at h;split at h
 ·rcases kq h with ⟨_,h⟩|⟨_,h⟩
  ·simp only [qc,qd,xw] at h;obtain ⟨_,h1,_,rfl⟩:=h;exact Jz h1
  ·cases h
 ·cases h
theorem q2c (z:List AV):cL (.eE (Op.c5 z)):=by
 intro vs H v H' h;unfold Op.c5 at h;split at h
 ·cases h
 ·simp only [qc] at h;obtain ⟨_,_,h⟩:=h;rcases kq h with ⟨_,h⟩|⟨_,h⟩
  ·injection h with h;injection h with _ h;subst h;exact Ext.refl _
  ·simp only [qc,qd,xw] at h;obtain ⟨_,_,_,h1,_,rfl⟩:=h;exact Jz h1
 ·cases h
theorem HE {H H':AHeap} {e s n:Nat} {c:List AV} {fz:Nat × Nat} {v:AV} (h:some (cm H e s n c fz)=some (v,H')):Ext H H':=by
 injection h with h;injection h with _ h;subst h;exact Ext.alloc _ _ rfl
theorem q30 (e s z:Nat):cL (.eE (Op.append e s z)):=by
 intro vs H v H' h;unfold Op.append at h;split at h
 ·simp only [qc] at h;obtain ⟨n,_,new,_,h⟩:=h;rcases kq h with ⟨_,h⟩|⟨_,h⟩
  ·unfold bX at h;split at h
   ·rcases kq h with ⟨_,h⟩|⟨_,h⟩
    ·injection h with h;injection h with _ h;subst h;exact Ext.refl _
    ·rcases kq h with ⟨_,h⟩|⟨_,h⟩
     ·exact HE h
     ·cases h
   ·rcases kq h with ⟨_,h⟩|⟨_,h⟩
    ·rcases kq h with ⟨_,h⟩|⟨_,h⟩
     ·injection h with h;injection h with _ h;subst h;exact Ext.refl _
     ·simp only [qc,qd,xw] at h;obtain ⟨_,h1,_,rfl⟩:=h;exact Jz h1
    ·rcases kq h with ⟨_,h⟩|⟨_,h⟩
     ·simp only [qc] at h;obtain ⟨_,_,h⟩:=h;exact HE h
     ·cases h
   ·rcases kq h with ⟨_,h⟩|⟨_,h⟩
    ·rcases kq h with ⟨_,h⟩|⟨_,h⟩
     ·injection h with h;injection h with _ h;subst h;exact Ext.refl _
     ·cases h
    ·rcases kq h with ⟨_,h⟩|⟨_,h⟩
     ·rcases kq h with ⟨_,h⟩|⟨_,h⟩
      ·simp only [qc,qd,xw] at h;obtain ⟨_,h1,_,rfl⟩:=h;exact Jz h1
      ·rcases kq h with ⟨_,h⟩|⟨_,h⟩
       ·split at h
        ·rcases kq h with ⟨_,h⟩|⟨_,h⟩
         ·rcases kq h with ⟨_,h⟩|⟨_,h⟩
          ·exact (Ext.kill _ _).trans (HE (H:=H.kill _) h)
          ·rcases kq h with ⟨_,h⟩|⟨_,h⟩
           ·simp only [qc] at h;obtain ⟨_,_,h⟩:=h;exact (Ext.kill _ _).trans (HE (H:=H.kill _) h)
           ·rcases kq h with ⟨_,h⟩|⟨_,h⟩
            ·simp only [qc] at h;obtain ⟨_,_,h⟩:=h;exact (Ext.kill _ _).trans (HE (H:=H.kill _) h)
            ·cases h
         ·cases h
        ·cases h
       ·cases h
     ·cases h
   ·cases h
  ·cases h
 ·cases h
end Go.Am
namespace Go.Am
structure uG (ρ:Operand->Value):Prop where
 const:∀ v,ρ (.const v)=v
 func:∀ f,ρ (.func f)=.func (.func f) #[] #[]
def pC (P:Program) (o:Oper) (xs:List Operand) (f:List AV->Option AV):Prop :=
 ∀ (D:Nat->Prop) θ (ρ:Operand->Value) w vs v,uG ρ->bz D θ vs (xs.map ρ)->f vs=some v -> ∃ c,na P (execOp ρ o) w c w/\VR D θ v c
def nA (P:Program) (o:Oper) (xs:List Operand) (f:List AV->Option (bK × (Nat->AV))):Prop :=
 ∀ (D:Nat->Prop) θ (ρ:Operand->Value) w vs ob mk,uG ρ->bz D θ vs (xs.map ρ)->f vs=some (ob,mk) ->
  own ob=true /\ ∃ w0 co ext c,(execOp ρ o).run P w=.ok (.value c) (w0.alloc co)/\gZ w w0 /\
   ∀ (D':Nat->Prop) θ' id,Ag D θ θ'->(∀ b,D b->D' b)->D' id -> θ'.bF id=w.heap.size -> θ'.off id=0 -> θ'.ext id=ext->jL P D' θ' id ob co/\VR D' θ' (mk id) c
structure cF (P:Program):Prop where
 names:∀ (f:FuncId) (fn:Func),P.funcs[f]? = some fn->fn.name ≠ "runtime.NumGoroutine"
 mixed:P.follows .mixedOrders=true
def lA (P:Program) (o:Oper) (xs:List Operand):dD->Prop
 | .pure f=>pC P o xs f
 | .read f=>mA P o xs f
 | .alloc f=>nA P o xs f/\cL (.alloc f)
 | .eE f=>pA P o xs f/\cL (.eE f)
 | .ew f=>∃ c fn b,o.op=.call c/\c.callee=.value (.func f)/\xs=c.args.toList/\P.funcs[f]? = some fn/\fn.body=some b
 | .eD=>∃ c x,o.op=.call c/\c.callee=.value x/\xs=x::c.args.toList
 | .invoke m=>∃ c x,o.op=.call c/\c.callee=.invoke x m/\xs=x::c.args.toList
 | .recover=>∃ c,o.op=.call c/\c.callee=.builtin .recover/\xs=c.args.toList
 | .defer=>∃ c x,o.op=.defer c/\c.callee=.value x/\xs=x::c.args.toList
 | .panic=>(∃ x,o.op=.panic x/\xs=[x]) \/ ∃ c,o.op=.call c/\c.callee=.builtin .panic/\xs=c.args.toList
theorem q6w {e:Nat} {z:List AV}:cL (.alloc (Op.alloc e z)):=by
 intro vs ob mk h;unfold Op.alloc at h;split at h
 ·injection h with h;injection h with h _;subst h;rfl
 ·cases h
theorem rQ {e:Nat}:cL (.alloc (Op.box e)):=by
 intro vs ob mk h;unfold Op.box at h;split at h
 ·injection h with h;injection h with h _;subst h;rfl
 ·cases h
theorem qwl {e n:Nat} {z:List AV} {ps:List (Nat × Nat)}:cL (.alloc (Op.buildSlice e n z ps)):=by
 intro vs ob mk h;simp only [Op.buildSlice,qc] at h;obtain ⟨_,_,h⟩:=h;injection h with h;injection h with h _;subst h;rfl
theorem q2d {e b:Nat} {z:List AV}:cL (.alloc (Op.mkSlice e b z)):=by
 intro vs ob mk h;unfold Op.mkSlice at h;split at h
 ·rcases kq h with ⟨_,h⟩|⟨_,h⟩
  ·injection h with h;injection h with h _;subst h;rfl
  ·cases h
 ·cases h
section
variable {P:Program} {o:Oper} {xs:List Operand}
theorem cK.up {f:List AV->Option AV} (h:cK P o xs f):pC P o xs f:=λ D θ ρ w vs v _=>h D θ ρ w vs v
theorem gP.up {f:List AV->Option (bK × (Nat->AV))} (h:gP P o xs f):nA P o xs f:=λ D θ ρ w vs ob mk _=>h D θ ρ w vs ob mk
theorem xB {src dst:TypeId} {x:Operand} (ho:o.op=.convert src dst x) {r:List Operand × dD} (h:wA P src dst x=some r):lA P o r.1 r.2:=by
 unfold wA at h;split at h
 ·rename_i h1 h2;injection h with h;subst h;exact (q9s ho h1 h2).up
 ·cases h
theorem q8v {t:TypeId} {x y:Operand} {k:oM} (h:zD P t x y=some k):oV P t x y k:=by
 unfold zD at h;split at h
 ·rename_i hu;injection h with h;subst h;exact hu
 ·rename_i e hu;split at h
  ·rename_i n hs;injection h with h;subst h;exact ⟨e,n,hu,hs⟩
  ·cases h
 ·rename_i e hu;injection h with h;subst h;exact ⟨e,hu⟩
 ·rename_i k e hu;injection h with h;subst h;exact ⟨k,e,hu⟩
 ·rename_i a b c hu;injection h with h;subst h;exact ⟨a,b,c,hu⟩
 ·rename_i ms hu;split at h
  ·injection h with h;subst h;exact ⟨ms,hu,.inl ⟨_,rfl⟩⟩
  ·injection h with h;subst h;exact ⟨ms,hu,.inr ⟨_,rfl⟩⟩
  ·injection h with h;subst h
   refine ⟨⟨ms,hu⟩,λ u q hq=>?_⟩;simp only [qc] at hq;obtain ⟨i,hi,hq⟩:=hq;split at hq
   ·rename_i hcmp;exact ⟨hq,i,hi,hcmp⟩
   ·cases hq
 ·rename_i fs hu;split at h
  ·cases h
  ·rename_i hg;simp only [qc,qd] at h;obtain ⟨q,hq,rfl⟩:=h;exact ⟨by simpa using hg,hq,.inl ⟨fs,hu⟩⟩
 ·rename_i n e hu;split at h
  ·cases h
  ·rename_i hg;simp only [qc,qd] at h;obtain ⟨q,hq,rfl⟩:=h;exact ⟨by simpa using hg,hq,.inr ⟨n,e,hu⟩⟩
 ·cases h
theorem CE {op:BinOp} {t t':TypeId} {x y:Operand} (ho:o.op=.binOp op t x y t') {r:List Operand × dD} (h:CH P op t x y=some r):lA P o r.1 r.2:=by
 unfold CH at h;split at h
 ·injection h with h;subst h;exact (q5l ho).up
 ·injection h with h;subst h;exact (q5l ho).up
 ·split at h
  ·simp only [qc,qd] at h;obtain ⟨k,hk,rfl⟩:=h;exact q9u (neg:=false) (by simpa using ho) (q8v hk)
  ·simp only [qc,qd] at h;obtain ⟨k,hk,rfl⟩:=h;exact q9u (neg:=true) (by simpa using ho) (q8v hk)
  ·cases h
theorem q6e {c:Call} {b:Builtin} (ho:o.op=.call c) (hc:c.callee=.builtin b) {r:List Operand × dD} (h:NL P b c.argTypes c.args.toList=some r):lA P o r.1 r.2:=by
 have hb2:∀ {d:TypeDesc},(c.argTypes[0]?).bind P.underlying=some d -> ∃ t,c.argTypes[0]? = some t/\P.underlying t=some d:=λ h=>by simpa [qc] using h
 unfold NL at h;split at h
 ·split at h
  ·rename_i hu;obtain ⟨t,ht,hu⟩:=hb2 hu;injection h with h;subst h;exact (q66 ho hc rfl ht hu).up
  ·cases h
 ·split at h
  ·rename_i t tx hts;split at h
   ·rename_i e e' hu hx;simp only [qc] at h;obtain ⟨n,hn,z,hz,zv,hzv,h⟩:=h;split at h
    ·rename_i hl;injection h with h;subst h;exact ⟨q6m ho hc rfl hts hu (.inl ⟨_,hx⟩) hn hz hzv hl,q30 _ _ _⟩
    ·cases h
   ·cases h
  ·cases h
 ·split at h
  ·rename_i hu;obtain ⟨t,ht,hu⟩:=hb2 hu;simp only [qc,qd] at h;obtain ⟨z,hz,rfl⟩:=h;exact ⟨q3n ho hc rfl ht hu hz,q2c _⟩
  ·cases h
 ·injection h with h;subst h;exact ⟨c,ho,hc,rfl⟩
 ·injection h with h;subst h;exact .inr ⟨c,ho,hc,rfl⟩
 ·cases h
theorem D8 {c:Call} {f:FuncId} {fn:Func} (hn:fn.name ≠ "runtime.NumGoroutine") (ho:o.op=.call c) (hc:c.callee=.value (.func f)) (hf:P.funcs[f]? = some fn) (hb:fn.body=none) {r:List Operand × dD}
 (h:DH P fn c.args.toList=some r):lA P o r.1 r.2:=by
 unfold DH at h;cases h
theorem zQ (hP:cF P) {c:Call} (ho:o.op=.call c) {r:List Operand × dD} (h:tF P c=some r):lA P o r.1 r.2:=by
 unfold tF at h;split at h
 ·rename_i f hc;simp only [qc] at h;obtain ⟨fn,hf,h⟩:=h;split at h
  ·rename_i b hb;injection h with h;subst h
   exact ⟨c,fn,b,ho,hc,rfl,hf,hb⟩
  ·rename_i hb;exact D8 (hP.names f fn hf) ho hc hf hb h
 ·rename_i x _ hc;injection h with h;subst h;exact ⟨c,_,ho,hc,rfl⟩
 ·rename_i hc;injection h with h;subst h;exact ⟨c,_,ho,hc,rfl⟩
 ·rename_i b hc;exact q6e ho hc h
theorem GA (hP:cF P) {r:List Operand × dD} (h:HV P o.op=some r):lA P o r.1 r.2:=by
 unfold HV at h;split at h
 ·rename_i ho;injection h with h;subst h;exact (q2m (.inl ho)).up
 ·rename_i ho;injection h with h;subst h;exact (q2m (.inr ho)).up
 ·rename_i ho;injection h with h;subst h;exact (q9r ho).up
 ·rename_i ho;simp only [qc,qd] at h;obtain ⟨z,hz,rfl⟩:=h;exact ⟨(q3b ho hz).up,q6w⟩
 ·rename_i ho;injection h with h;subst h;exact ⟨(q7z ho).up,rQ⟩
 ·rename_i t parts ho;simp only [qc] at h;obtain ⟨z,hz,h⟩:=h;split at h
  ·rename_i fs hu;split at h
   ·rename_i hall;simp only [qc,qd] at h;obtain ⟨ps,hps,rfl⟩:=h;refine (qsk ho hz hu (λ f hf=>?_) hps).up;have:=Array.all_eq_true'.1 hall f hf;exact Option.isSome_iff_exists.1 this
   ·cases h
  ·rename_i hu;simp only [qc,qd] at h;obtain ⟨n,hn,ps,hps,rfl⟩:=h;exact (qt6 ho hz hu hn hps).up
  ·cases h
 ·rename_i t len parts ho;split at h
  ·rename_i e hu;simp only [qc] at h;obtain ⟨n,hn,z,hz,ps,hps,h⟩:=h;split at h
   ·rename_i hc;injection h with h;subst h
    exact ⟨(qs5 ho hu hn hz hps hc.1 hc.2).up,qwl⟩
   ·cases h
  ·cases h
 ·rename_i t a ho;simp only [qc] at h;obtain ⟨r',hr,h⟩:=h;split at h
  ·injection h with h;subst h;exact q67 ho hr
  ·injection h with h;subst h;exact q68 ho hr
 ·rename_i t a x ho;simp only [qc,qd] at h;obtain ⟨n,hn,rfl⟩:=h;exact ⟨q8p ho hn,q6x _⟩
 ·rename_i ho;injection h with h;subst h;exact (q0q ho).up
 ·rename_i ho;exact CE ho h
 ·rename_i ho;injection h with h;subst h;exact (xO ho).up
 ·rename_i ho;exact xB ho h
 ·rename_i ho;injection h with h;subst h;exact (q36 ho).up
 ·rename_i t l c ho;split at h
  ·rename_i e hu;simp only [qc] at h;obtain ⟨b,hb,z,hz,n,hn,h⟩:=h;split at h
   ·rename_i hc;injection h with h;subst h
    exact ⟨(qza ho hu hb hn hz hc).up,q2d⟩
   ·cases h
  ·cases h
 ·rename_i t x lo hi mx ho;split at h
  ·rename_i e hu;simp only [qc,qd] at h;obtain ⟨n,hn,rfl⟩:=h;exact (q2n ho hu hn).up
  ·cases h
 ·rename_i t x i ho;split at h
  ·rename_i fs hu;simp only [qc] at h;obtain ⟨f,hf,n,hn,h⟩:=h;split at h
   ·cases h
   ·rename_i hn0;injection h with h;subst h
    exact (qx6 ho hu hf hn (by simpa using hn0)).up
  ·cases h
 ·rename_i t x i ho;split at h
  ·rename_i e hu;simp only [qc,qd] at h;obtain ⟨n,hn,rfl⟩:=h;exact (q2l ho hu hn).up
  ·rename_i k e hu;simp only [qc,qd] at h;obtain ⟨n,hn,rfl⟩:=h;exact (q0p ho hu hn).up
  ·cases h
 ·rename_i ho;injection h with h;subst h;exact (q2k ho).up
 ·rename_i c ho;exact zQ hP ho h
 ·rename_i c ho;split at h
  ·rename_i f hc;injection h with h;subst h;exact ⟨c,f,ho,hc,rfl⟩
  ·cases h
 ·rename_i x ho;injection h with h;subst h;exact .inl ⟨x,ho,rfl⟩
 ·cases h
theorem lA.mono {aop:dD} (h:lA P o xs aop):cL aop:=by
 cases aop with
 | alloc f=>exact h.2
 | eE f=>exact h.2
 | _=>trivial
def uA (o:Oper) (aop:dD):Prop:=(∀ c,o.op ≠ .defer c)\/aop=.defer\/aop=.pure Op.fail
theorem Es {r:List Operand × dD} (h:HV P o.op=some r):uA o r.2:=by
 by_cases hd:∃ c,o.op=.defer c
 ·obtain ⟨c,hc⟩:=hd;rw [hc] at h;simp only [HV] at h;split at h
  ·injection h with h;subst h;exact .inr (.inl rfl)
  ·cases h
 ·exact .inl λ c hc=>hd ⟨c,hc⟩
theorem FI (hP:cF P) {r:List bA × dD} (h:d8 P o=some r):∃ xs,jH P.globals.size xs=some r.1/\lA P o xs r.2/\uA o r.2:=by
 unfold d8 at h;split at h
 ·rename_i r' hr;injection h with h;subst h
  simp only [qc,qd] at hr;obtain ⟨q,hq,args,hargs,rfl⟩:=hr;exact ⟨q.1,hargs,GA hP hq,Es hq⟩
 ·injection h with h;subst h
  exact ⟨[],rfl,(q9q []).up,.inr (.inr rfl)⟩
end
end Go.Am
namespace Go.Am
def dQ (D:Nat->Prop) (θ:Th):List aM->List Deferred->Prop
 | [],[]=>True
 | d::ds,e::es=>NV D θ d e/\dQ D θ ds es
 | _,_=>False
def Dy (D:Nat->Prop) (θ:Th) (e:AV × Bool) (p:PanicEntry):Prop:=VR D θ e.1 p.v/\p.recovered=e.2/\p.goexit=false
def de (D:Nat->Prop) (θ:Th):aC->List PanicEntry->Prop
 | [],[]=>True
 | e::es,p::ps=>Dy D θ e p/\de D θ es ps
 | _,_=>False
def kI (D:Nat->Prop) (θ:Th) (c:aC) (m:FrameMode):Prop :=
 match m with
 | .run=>False
 | .returning=>c=[]
 | .panicking ps=>c ≠ []/\de D θ c ps
def kJ (D:Nat->Prop) (θ:Th) (kind:CallKind):Option aC->List Frame->Prop
 | none,_=>kind=.normal
 | some ch,c::_=>kind=.deferred/\kI D θ ch c.mode
 | some _,[]=>False
def c8:Option aC->List Frame->List Frame->Prop
 | none,cs,cs'=>cs'=cs
 | some _,c::rest,cs'=>∃ u,cs' = { c with mode:=u }::rest
 | some _,[],_=>False
def qU (D:Nat->Prop) (θ:Th) (ro:Option Nat):Option Nat->Prop
 | none=>ro=none
 | some l=>D l/\ro=some (θ.bF l)
def rJ (D:Nat->Prop) (θ:Th):aE->Exit->Prop
 | .normal,.normal=>True
 | .exit i,.exit j=>j=i
 | .goto i,.goto j=>j=i
 | .ret,.ret=>True
 | .panic c,.panic ps=>c ≠ []/\de D θ c ps
 | _,_=>False
def IJ (D:Nat->Prop) (θ:Th):br->Ending->Prop
 | .ret v,.returned c=>VR D θ v c
 | .panic c,.panicked ps=>c ≠ []/\de D θ c ps
 | _,_=>False
section
variable {D D':Nat->Prop} {θ θ':Th}
theorem dQ.up (ha:Ag D θ θ') (hd:∀ b,D b->D' b):∀ {l:List aM} {m:List Deferred},dQ D θ l m->dQ D' θ' l m
 | [],[],_=>trivial
 | d::ds,e::es,⟨h1,h2⟩=>by
  refine ⟨?_,dQ.up ha hd h2⟩;cases d with
  | eU b=>exact ⟨hd b h1.1,by rw [(ha b h1.1).1];exact h1.2⟩
  | fn f args =>
   obtain ⟨c,cap,h3,h4,h5⟩:=h1;refine ⟨c,cap,?_,λ θ'' h''=>?_,h5.up ha hd⟩
   ·rw [h3,h4 θ' ha]
   ·rw [h4 θ'' (ha.trans h'' hd),h4 θ' ha]
 | [],_::_,h=>h.elim
 | _::_,[],h=>h.elim
theorem de.up (ha:Ag D θ θ') (hd:∀ b,D b->D' b):∀ {l:aC} {m:List PanicEntry},de D θ l m->de D' θ' l m
 | [],[],_=>trivial
 | e::es,p::ps,⟨⟨h1,h2,h3⟩,h⟩=>⟨⟨h1.up ha hd,h2,h3⟩,de.up ha hd h⟩
 | [],_::_,h=>h.elim
 | _::_,[],h=>h.elim
theorem kI.up (ha:Ag D θ θ') (hd:∀ b,D b->D' b) {c:aC} {m:FrameMode} (h:kI D θ c m):kI D' θ' c m:=by
 cases m with
 | run=>exact h.elim
 | returning=>exact h
 | panicking ps=>exact ⟨h.1,de.up ha hd h.2⟩
theorem kJ.up (ha:Ag D θ θ') (hd:∀ b,D b->D' b) {k:CallKind} {u:Option aC} {cs:List Frame} (h:kJ D θ k u cs):kJ D' θ' k u cs:=by
 cases u with
 | none=>exact h
 | some ch =>
  cases cs with
  | nil=>exact h.elim
  | cons c r=>exact ⟨h.1,kI.up ha hd h.2⟩
theorem qU.up (ha:Ag D θ θ') (hd:∀ b,D b->D' b) {ro r:Option Nat} (h:qU D θ ro r):qU D' θ' ro r:=by
 cases r with
 | none=>exact h
 | some l=>exact ⟨hd l h.1,by rw [(ha l h.1).1];exact h.2⟩
theorem c8.refl {D:Nat->Prop} {θ:Th} {k:CallKind} {u:Option aC} {cs:List Frame} (h:kJ D θ k u cs):c8 u cs cs:=by
 cases u with
 | none=>rfl
 | some ch =>
  cases cs with
  | nil=>exact h.elim
  | cons c r=>exact ⟨c.mode,rfl⟩
theorem c8.trans {u u':Option aC} (hu:u'.isSome=u.isSome) {cs cs' cs'':List Frame} (h:c8 u cs cs') (h':c8 u' cs' cs''):c8 u cs cs'':=by
 cases u with
 | none =>
  cases u' with
  | none=>exact Eq.trans h' h
  | some _=>cases hu
 | some ch =>
  cases u' with
  | none=>cases hu
  | some ch' =>
   cases cs with
   | nil=>exact h.elim
   | cons c r =>
    obtain ⟨m,rfl⟩:=h;obtain ⟨m',rfl⟩:=h';exact ⟨m',rfl⟩
theorem jS.up (ha:Ag D θ θ') (hd:∀ b,D b->D' b) {tm:T AV} {a:Array Value} (h:jS D θ tm a):jS D' θ' tm a:=λ t v hv =>
 let ⟨c,h1,h2⟩:=h t v hv;⟨c,h1,h2.up ha hd⟩
theorem jS.put {tm:T AV} {a:Array Value} (h:jS D θ tm a) {d:Nat} (hd:d<a.size) {v:AV} {c:Value} (hv:VR D θ v c):jS D θ (tm.set d v) (a.setIfInBounds d c):=by
 intro t x hx;rw [T.aJ] at hx;rw [vg]
 by_cases e:d=t
 ·subst e;simp only [xa,qd] at hx;subst hx;exact ⟨c,by simp [hd],hv⟩
 ·simp only [e,qv] at hx ⊢;exact h t x hx
theorem jS.forget {a:Array Value}:∀ (ds:List Nat) {tm:T AV},jS D θ tm a->jS D θ (forget ds tm) a
 | [],_,h=>h
 | d::ds,tm,h=>jS.forget ds (tm:=tm.put d none) (λ t v hv=>by
  rw [T.fN] at hv;split at hv
  ·cases hv
  ·exact h t v hv)
theorem T.kB:∀ (ds:List Nat) (tm:T AV) (t:Nat),(forget ds tm).get t=if t ∈ ds then none else tm.get t
 | [],tm,t=>by simp [Am.forget]
 | d::ds,tm,t=>by
  rw [Am.forget,T.kB ds,T.fN]
  by_cases h1:t ∈ ds
  ·simp [h1]
  ·by_cases h2:d=t
   ·simp [h2]
   ·have h3:¬ t=d:=λ e=>h2 e.symm;simp [h1,h2,h3]
end
section
variable {P:Program} {base:Nat} {D:Nat->Prop} {θ:Th} {H:AHeap} {w:World} {a:Act} {tm:T AV}
theorem vV (hh:HR P base D θ H w) (ht:jS D θ tm a.tmps) {x:Operand} {y:bA} (hc:mB P.globals.size x=some y) {v:AV} (hv:lf tm y=some v):VR D θ v (a.eval x):=by
 cases x with
 | tmp t =>
  injection hc with hc;subst hc
  obtain ⟨c,h1,h2⟩:=ht t v hv
  simpa [Act.eval,h1] using h2
 | const k =>
  simp only [mB,qc,qd] at hc;obtain ⟨u,hu,rfl⟩:=hc;injection hv with hv;subst hv
  exact Jq hu
 | global g =>
  simp only [mB] at hc;split at hc
  ·rename_i hg;injection hc with hc;subst hc
   injection hv with hv;subst hv
   obtain ⟨h1,h2,h3⟩:=hh.cY g (by simpa [mX] using hg);have:=VR.ptr (θ:=θ) (o:=0) h1;rw [h2,h3] at this;exact this
  ·cases hc
 | func f =>
  injection hc with hc;subst hc
  injection hv with hv;subst hv
  exact λ _ _=>rfl
theorem Bx (hh:HR P base D θ H w) (ht:jS D θ tm a.tmps):∀ {xs:List Operand} {ys:List bA},jH P.globals.size xs=some ys -> ∀ {vs:List AV},gR tm ys=some vs->bz D θ vs (xs.map a.eval)
 | [],ys,hc,vs,hv=>by
  injection hc with hc;subst hc
  injection hv with hv;subst hv
  exact .nil
 | x::xs,ys,hc,vs,hv=>by
  simp only [jH,qc,qd] at hc;obtain ⟨y,hy,ys',hys,rfl⟩:=hc;simp only [gR,qc,qd] at hv;obtain ⟨v,h1,vs',h2,rfl⟩:=hv;exact .cons (vV hh ht hy h1) (Bx hh ht hys h2)
theorem Bz (x:bA) (tm:T AV):(Fw x).run tm=lf tm x:=by
 cases x<;>simp [Fw,lf,T.fq,T.get]
theorem yP:∀ (xs:List bA) (tm:T AV),(nj xs).run tm=gR tm xs
 | [],_=>rfl
 | [x],tm=>by simp [nj,gR,Bz]
 | x::y::xs,tm=>by
  rw [nj,gR]
  ·simp only [Bz,yP (y::xs) tm]
  ·simp
theorem JX (a:Act):uG a.eval:=⟨λ _=>rfl,λ _=>rfl⟩
theorem LW (d:Option Nat) (v:AV) (tm:T AV):(gH d).run v tm=cO d v tm:=by
 cases d<;>simp [gH,cO,T.tE,T.set,T.put]
end
inductive dZ where
 | val (v:AV) (aR:List aM) (up:Option aC) (H:AHeap)
 | panic (c:aC) (H:AHeap)
def iL (aR:List aM) (up:Option aC) (r:br × AHeap):dZ :=
 match r.1 with
 | .ret v=>.val v aR up r.2
 | .panic c=>.panic c r.2
def ep (rt:RT) (st:St) (vs:List AV):dD->Option dZ
 | .pure f=>(f vs).bind λ v=>some (.val v st.aR st.up st.H)
 | .read f=>(f vs st.H).bind λ v=>some (.val v st.aR st.up st.H)
 | .alloc f=>(f vs).bind λ r=>some (.val (r.2 st.H.next) st.aR st.up (st.H.alloc r.1))
 | .eE f=>(f vs st.H).bind λ r=>some (.val r.1 st.aR st.up r.2)
 | .ew f=>(bT rt.call rt.round (.func f) vs st.H).bind λ r=>some (iL st.aR st.up r)
 | .eD=>match vs with
  | .fn (.func f) first cap::args=>(bT rt.call rt.round (.func f) (first++(args++cap)) st.H).bind λ r=>some (iL st.aR st.up r)
  | .fn (.yield l) first []::args=>(bT rt.call rt.round (.yield l) (first++args) st.H).bind λ r=>some (iL st.aR st.up r)
  | _=>none
 | .invoke name=>match vs with
  | .iface t v::args=>(rt.AP.lM t name).bind λ f=>(bT rt.call rt.round (.func f) (v::args) st.H).bind λ r=>some (iL st.aR st.up r)
  | _=>none
 | .recover=>match rt.ctx.round with
  | some _=>none
  | none=>match vs with
   | []=>match st.up with
    | some ((v,false)::older)=>some (.val v st.aR (some ((v,true)::older)) st.H)
    | _=>some (.val .nili st.aR st.up st.H)
   | _=>none
 | .defer=>match rt.ctx.round with
  | some _=>none
  | none=>match vs with
   | .fn (.func f) first cap::args=>some (.val .undef (.fn (.func f) (first++(args++cap))::st.aR) st.up st.H)
   | _=>none
 | .panic=>match vs with
  | [.iface t v]=>some (.panic [(.iface t v,false)] st.H)
  | _=>none
def nD (put:AV->T AV->T AV) (bN:Option (List Nat)) (st:St) (k:St->dL):dZ->dL
 | .val v aR up H=>k ⟨put v st.tm,aR,up,H⟩
 | .panic c H=>bN.bind λ ds=>some (.panic c,⟨forget ds st.tm,st.aR,st.up,H⟩)
theorem Ih (put:AV->T AV->T AV) (bN:Option (List Nat)) (st:St) (k:St->dL) (r:br × AHeap):dk put bN st k r=nD put bN st k (iL st.aR st.up r):=by
 unfold dk iL;split<;>rename_i h<;>rw [h]<;>rfl
theorem q9j (put:AV->T AV->T AV) (bN:Option (List Nat)) (rt:RT) (st:St) (k:St->dL) (vs:List AV) (op:dD) :
 (kS put bN op).run rt st k vs=(ep rt st vs op).bind (nD put bN st k):=by
 cases op with
 | pure f=>simp only [kS,vP,ep,jv,qn];rfl
 | read f=>simp only [kS,uL,ep,jv,qn];rfl
 | alloc f=>simp only [kS,oz,ep,jv,qn];rfl
 | eE f=>simp only [kS,DR,ep,jv,qn];rfl
 | ew f=>simp only [kS,rN,ep,jv,qn,Ih]
 | eD =>
  simp only [kS,vE,ep];split
  ·simp only [jv,qn,Ih]
  ·simp only [jv,qn,Ih]
  ·rename_i h1 h2;split
   ·exact (h1 _ _ _ _ rfl).elim
   ·exact (h2 _ _ _ rfl).elim
   ·rfl
 | invoke name =>
  simp only [kS,mu,ep];split
  ·simp only [jv,qn,Ih]
  ·rename_i h1;split
   ·exact (h1 _ _ _ rfl).elim
   ·rfl
 | recover =>
  simp only [kS,Jo,ep];cases rt.ctx.round with
  | some l=>rfl
  | none =>
   cases vs with
   | cons x xs=>rfl
   | nil =>
    rcases hu:st.up with _|_|⟨⟨v,_|_⟩,older⟩<;>simp only [GU,hu]<;>rfl
 | defer =>
  simp only [kS,pj,ep];cases rt.ctx.round with
  | some l=>rfl
  | none =>
   simp only;split
   ·rfl
   ·rename_i h;split
    ·exact (h _ _ _ _ rfl).elim
    ·rfl
 | panic =>
  simp only [kS,oI,ep];split
  ·simp only [Ih,iL,qn]
  ·rename_i h;split
   ·exact (h _ _ rfl).elim
   ·rfl
end Go.Am
namespace Go.Am
section moves
variable {P:Program} {b:Frame} {a:Act} {k:List Item} {cs cs':List Frame} {w w':World} {ops:Array Oper} {i:Nat} {rest:List Nat} {o:Oper}
theorem Gf (ho:ops[i]? = some o) (v:Value):(b.atR a (.inRegion ops (i::rest)::k)).finish v=b.atR (a.put o.dst v) (.inRegion ops rest::k):=by
 rw [Frame.finish_atR,ho];rfl
theorem Dj (ho:ops[i]? = some o) (hw:Region.wanted o (yielded ops a.tmps)=true) {v:Value} (hr:(o.semAt b.roundOf a.eval).run P w=.ok (.value v) w') :
 step P (lone (b.atR a (.inRegion ops (i::rest)::k)) cs w)=.next (lone (b.atR (a.put o.dst v) (.inRegion ops rest::k)) cs w') :=
 step_lone_go (by rw [stepGR_op ho hw,<-Gf ho];simp [stepG.apply,hr])
theorem IA (ho:ops[i]? = some o) (hw:Region.wanted o (yielded ops a.tmps)=true) (hr:(o.semAt b.roundOf a.eval).run P w=.ok .skip w') :
 step P (lone (b.atR a (.inRegion ops (i::rest)::k)) cs w)=.next (lone (b.atR (a.put o.dst undef) (.inRegion ops rest::k)) cs w') :=
 step_lone_go (by rw [stepGR_op ho hw,<-Gf ho];simp [stepG.apply,hr])
theorem tl (ho:ops[i]? = some o) (hw:Region.wanted o (yielded ops a.tmps)=true) {d:Deferred} (hr:(o.semAt b.roundOf a.eval).run P w=.ok (.defer d) w') :
 step P (lone (b.atR a (.inRegion ops (i::rest)::k)) cs w)=.next (lone (b.atR (({ a with defers:=d::a.defers }:Act).put o.dst undef) (.inRegion ops rest::k)) cs w'):=by
 refine step_lone_go ?_;have:({ b.atR a (.inRegion ops (i::rest)::k) with defers:=d::a.defers }:Frame).finish undef =
  b.atR ({ a with defers:=d::a.defers }.put o.dst undef) (.inRegion ops rest::k):=by
  have:=Frame.finish_atR b { a with defers:=d::a.defers } ops i rest k undef;rw [ho] at this;exact this
 rw [stepGR_op ho hw];simp only [stepG.apply,Sem.runT_eq,hr,GStep.bare_after];exact congrArg (λ fr=>GStep.go { frame:=fr,callers:=cs,status:=.running,dying:=none } w') this
theorem ME (ho:ops[i]? = some o) (hw:Region.wanted o (yielded ops a.tmps)=true) {f:FuncId} {args:Array Value} (hr:(o.semAt b.roundOf a.eval).run P w=.ok (.enter f args) w') :
 step P (lone (b.atR a (.inRegion ops (i::rest)::k)) cs w)=.next (lone (Frame.enter P f args .normal) (b.atR a (.inRegion ops (i::rest)::k)::cs) w') :=
 step_lone_go (by rw [stepGR_op ho hw];simp [stepG.apply,hr,Frame.atR])
theorem tR (ho:ops[i]? = some o) (hw:Region.wanted o (yielded ops a.tmps)=true) {l:Nat} {f:FuncId} {tmps:Array Value} {as body:Code} (hr:(o.semAt b.roundOf a.eval).run P w=.ok (.round l f tmps as body) w') :
 step P (lone (b.atR a (.inRegion ops (i::rest)::k)) cs w)=.next (lone (Frame.round l f tmps as body .normal) (b.atR a (.inRegion ops (i::rest)::k)::cs) w') :=
 step_lone_go (by rw [stepGR_op ho hw];simp [stepG.apply,hr,Frame.atR])
theorem tz (ho:ops[i]? = some o) (hw:Region.wanted o (yielded ops a.tmps)=true) {v:Value} (hr:(o.semAt b.roundOf a.eval).run P w=.halt (.panic v) w') :
 step P (lone (b.atR a (.inRegion ops (i::rest)::k)) cs w)=.next (lone { b.atR a (.inRegion ops (i::rest)::k) with mode:=.panicking [{ v,recovered:=false }] } cs w') :=
 step_lone_go (by rw [stepGR_op ho hw,<-Frame.raise_atR];simp [stepG.apply,hr])
theorem q59 (ho:ops[i]? = some o) (hw:Region.wanted o (yielded ops a.tmps)=true) (hb:b.roundOf=none) (hr:(o.semAt b.roundOf a.eval).run P w=.ok .recover w') {v:Value}
 (ht:tryRecover (b.atR a (.inRegion ops (i::rest)::k)) cs=some (v,cs')) :
 step P (lone (b.atR a (.inRegion ops (i::rest)::k)) cs w)=.next (lone (b.atR (a.put o.dst v) (.inRegion ops rest::k)) cs' w') :=
 step_lone_go (by
  rw [stepGR_op ho hw,<-Gf ho];have hb':(b.atR a (.inRegion ops (i::rest)::k)).roundOf=none:=hb;simp [stepG.apply,hr,hb',ht])
theorem qur (ho:ops[i]? = some o) (hw:Region.wanted o (yielded ops a.tmps)=true) (hb:b.roundOf=none) (hr:(o.semAt b.roundOf a.eval).run P w=.ok .recover w')
 (ht:tryRecover (b.atR a (.inRegion ops (i::rest)::k)) cs=none) :
 step P (lone (b.atR a (.inRegion ops (i::rest)::k)) cs w)=.next (lone (b.atR (a.put o.dst .nilIface) (.inRegion ops rest::k)) cs w') :=
 step_lone_go (by
  rw [stepGR_op ho hw,<-Gf ho];have hb':(b.atR a (.inRegion ops (i::rest)::k)).roundOf=none:=hb;simp [stepG.apply,hr,hb',ht])
end moves
def wq (P:Program) (base:Nat) (call:bB):Prop :=
 ∀ (D:Nat->Prop) θ H w f vs (args:Array Value) up H' e up' kind cs,HR P base D θ H w->bz D θ vs args.toList->kJ D θ kind up cs->call f vs up H=some (e,up',H')->cJ D H.next H'.next ->
  (∃ fn c,P.funcs[f]? = some fn/\fn.body=some c) /\
  ∃ θ' w' cs' fr e',Steps P (lone (Frame.enter P f args kind) cs w) (lone fr cs' w')/\fr.kind=kind/\fr.fn=f/\fr.going P w' e'/\IJ (Up D H.next H'.next) θ' e e' /\
   HR P base (Up D H.next H'.next) θ' H' w'/\ba D H θ w H' θ' w'/\up'.isSome=up.isSome/\c8 up cs cs'/\kJ (Up D H.next H'.next) θ' kind up' cs'
def oQ (P:Program) (base:Nat) (round:eQ):Prop :=
 ∀ (D:Nat->Prop) θ H w l vs (args:Array Value) H' e (c:Frame) cs,HR P base D θ H w->bz D θ vs args.toList->round vs l H=some (e,H')->cJ D H.next H'.next ->
  ∃ f tmps as body,(Instr.yield (θ.bF l) args).run P w=.ok (.round (θ.bF l) f tmps as body) w /\
  ∃ θ' w' fin,Steps P (lone (Frame.round (θ.bF l) f tmps as body .normal) (c::cs) w) (lone fin cs w') /\
   (match e with
    | .ret v=>∃ cv,VR (Up D H.next H'.next) θ' v cv/\fin=c.finish cv
    | .panic ch=>∃ ps,ch ≠ []/\de (Up D H.next H'.next) θ' ch ps/\fin=c.raise ps) /\
   HR P base (Up D H.next H'.next) θ' H' w'/\ba D H θ w H' θ' w'
def dZ.heap:dZ->AHeap
 | .val _ _ _ H=>H
 | .panic _ H=>H
def Br (P:Program) (base:Nat) (D:Nat->Prop) (θ:Th) (st:St) (b:Frame) (a:Act) (ops:Array Oper) (i:Nat) (rest:List Nat) (k:List Item) (cs:List Frame) (w:World) (o:Oper):dZ->Prop
 | .val v aR up H'=>∃ θ' w' c cs' ds,Steps P (lone (b.atR a (.inRegion ops (i::rest)::k)) cs w) (lone (b.atR (({ a with defers:=ds }:Act).put o.dst c) (.inRegion ops rest::k)) cs' w') /\
  HR P base (Up D st.H.next H'.next) θ' H' w'/\ba D st.H θ w H' θ' w'/\VR (Up D st.H.next H'.next) θ' v c/\dQ (Up D st.H.next H'.next) θ' aR ds/\up.isSome=st.up.isSome /\
  kJ (Up D st.H.next H'.next) θ' b.kind up cs'/\c8 st.up cs cs'
 | .panic ch H'=>∃ θ' w' ps todo,Steps P (lone (b.atR a (.inRegion ops (i::rest)::k)) cs w) (lone { b.atR a todo with mode:=.panicking ps } cs w') /\
  HR P base (Up D st.H.next H'.next) θ' H' w'/\ba D st.H θ w H' θ' w'/\ch ≠ []/\de (Up D st.H.next H'.next) θ' ch ps
section
variable {P:Program} {base:Nat} {D:Nat->Prop} {θ:Th}
theorem J2 {fr:Frame} {w:World} {e:Ending} (h:fr.going P w e) (hk:fr.kind=.normal):fr.leaving P w e:=by
 cases e with
 | returned v=>obtain ⟨h1,h2,h3⟩:=h;exact ⟨h1,h2,hk,h3⟩
 | panicked c=>exact h
 | outgrown=>trivial
theorem G5 {f:FuncId} {fn:Func} {c:Code} {args:Array Value} {w:World} (hP:cF P) (hf:P.funcs[f]? = some fn) (hb:fn.body=some c):(callFunc f args).run P w=.ok (.enter f args) w:=by
 simp [callFunc,hf,hb,hP.names f fn hf]
theorem q7c {t:TypeId} {name:String} {f:Nat} (h:pL P t name=some f) (v:Value) (w:World):(method (P.types.size+Made.depth) t v name).run P w=.ok (f,v) w:=by
 unfold pL at h;simp only [qc] at h;obtain ⟨i,hi,m,hm,h⟩:=h;split at h
 ·cases h
 ·rename_i hpe;simp only [qc] at h;obtain ⟨p,hp,h⟩:=h;have hpath:m.path.toList=[]:=by
   have:m.path.isEmpty=true:=by simpa using hpe
   simpa using this
  obtain ⟨n,hn⟩:∃ n,P.types.size+Made.depth=n+1:=⟨P.types.size+99,rfl⟩
  rw [hn];obtain ⟨pf,pr⟩:=p;have hinfo:(typeInfo t).run P w=.ok i w:=by simp [typeInfo,hi]
  simp only [method,Sem.run_bind,hinfo,Result.andThen_ok,hm,hpath,follow,Sem.run_pure,hp];cases hu:P.underlying t with
  | none=>rw [hu] at h;cases h
  | some d =>
   rw [hu] at h;have hr:∀ wr,d=d->(receiverAt t (.val v) pr wr).run P w=.ok v w/\pf=f:=by
    intro wr _;cases d<;>cases pr<;>simp only [reduceCtorEq,qd] at h<;>exact ⟨by simp [receiverAt,wx hu,Place.get],h⟩
   simp [(hr _ rfl).1,(hr none rfl).2]
theorem Md {call:bB} (hc:wq P base call) {st:St} {b:Frame} {a:Act} {ops:Array Oper} {i:Nat} {rest:List Nat} {k:List Item} {cs:List Frame} {w:World} {o:Oper}
 (ho:ops[i]? = some o) (hh:HR P base D θ st.H w) (hd:dQ D θ st.aR a.defers) (hu:kJ D θ b.kind st.up cs) {f:Nat} {vs:List AV} {args:Array Value} (hv:bz D θ vs args.toList)
 (hs:(∃ fn c,P.funcs[f]? = some fn/\fn.body=some c)->step P (lone (b.atR a (.inRegion ops (i::rest)::k)) cs w)=.next (lone (Frame.enter P f args .normal) (b.atR a (.inRegion ops (i::rest)::k)::cs) w))
 {r:br × AHeap} {u:Option aC} (hr:call f vs none st.H=some (r.1,u,r.2)) (hf:cJ D st.H.next r.2.next) :
 Br P base D θ st b a ops i rest k cs w o (iL st.aR st.up r):=by
 obtain ⟨hfn,θ',w',cs',fr,e',g1,g2,g3,g4,g5,g6,g7,g8,g9,g10⟩:=hc D θ st.H w f vs args none r.2 r.1 u .normal (b.atR a (.inRegion ops (i::rest)::k)::cs) hh hv rfl hr hf;have hcs:cs'=b.atR a (.inRegion ops (i::rest)::k)::cs:=g9;subst hcs;have hstep:=hs hfn;have hl:=J2 g4 g2;obtain ⟨e,H'⟩:=r;cases e with
 | ret v =>
  cases e' with
  | returned c =>
   refine ⟨θ',w',c,cs,a.defers,.head hstep (g1.trans (.one ?_)),g6,g7,g5,dQ.up g7.ag Up.of hd,rfl,kJ.up g7.ag Up.of hu,c8.refl hu⟩;rw [step_leave_returned hl,Gf ho]
  | panicked c=>exact g5.elim
  | outgrown=>exact g5.elim
 | panic ch =>
  cases e' with
  | returned c=>exact g5.elim
  | panicked ps =>
   refine ⟨θ',w',ps,.inRegion ops (i::rest)::k,.head hstep (g1.trans (.one ?_)),g6,g7,g5.1,g5.2⟩;rw [step_leave_panicked hl,Frame.raise_atR]
  | outgrown=>exact g5.elim
theorem Jj {f:ff} {first cap:List AV} {c:Value} (h:VR D θ (.fn f first cap) c):∃ x y:List Value,c=.func (db θ f) x.toArray y.toArray/\bz D θ first x/\bz D θ cap y/\(∀ θ',Ag D θ θ'->db θ' f=db θ f):=by
 refine ⟨bt θ first,bt θ cap,h.now.symm,λ θ' ha=>?_,λ θ' ha=>?_,λ θ' ha=>?_⟩ <;>
 ·have:=(h θ' ha).trans h.now.symm;simp only [aD,Value.func.injEq] at this
  first
  | exact this.1
  | (have:=this.2.1;simpa using this)
  | (have:=this.2.2;simpa using this)
set_option maxHeartbeats 1000000 in
theorem NM (hP:cF P) {rt:RT} (hcall:wq P base rt.call) (hround:oQ P base rt.round) (hAP:rt.AP=ak P) {o:Oper} {aop:dD} {xs:List Operand} (hok:lA P o xs aop) (hdef:uA o aop)
 {ops:Array Oper} {i:Nat} {rest:List Nat} {a:Act} (ho:ops[i]? = some o) (hw:Region.wanted o (yielded ops a.tmps)=true) {st:St} {w:World} {b:Frame} {k:List Item} {cs:List Frame} {vs:List AV} {r:dZ}
 (hh:HR P base D θ st.H w) (hd:dQ D θ st.aR a.defers) (hu:kJ D θ b.kind st.up cs) (hb:qU D θ b.roundOf rt.ctx.round) (hv:bz D θ vs (xs.map a.eval)) (hr:ep rt st vs aop=some r)
 (hf:cJ D st.H.next r.heap.next):Br P base D θ st b a ops i rest k cs w o r:=by
 have hsame:Up D st.H.next st.H.next=D:=Up.none
 have hnd:aop ≠ .defer->aop ≠ .pure Op.fail->o.semAt b.roundOf a.eval=execOp a.eval o:=λ q1 q2=>Oper.semAt_eq _ _ _ (by
  rcases hdef with h|h|h
  ·exact h
  ·exact absurd h q1
  ·exact absurd h q2)
 cases aop with
 | pure f =>
  simp only [ep,qc,qd] at hr;obtain ⟨v,h1,rfl⟩:=hr;obtain ⟨c,g1,g2⟩:=hok D θ a.eval w vs v (JX a) hv h1;have hsem:o.semAt b.roundOf a.eval=execOp a.eval o:=hnd (by intro q;cases q) (by intro q;injection q with q;subst q;cases h1);refine ⟨θ,w,c,cs,a.defers,.one ?_,by rw [hsame];exact hh,.refl _ _ _ _,by rw [hsame];exact g2,by rw [hsame];exact hd,rfl,by rw [hsame];exact hu,c8.refl hu⟩;rcases g1 with g1|⟨g1,rfl⟩
  ·exact Dj ho hw (by rw [hsem];exact g1)
  ·exact IA ho hw (by rw [hsem];exact g1)
 | read f =>
  simp only [ep,qc,qd] at hr;obtain ⟨v,h1,rfl⟩:=hr;obtain ⟨c,g1,g2⟩:=hok base D θ st.H a.eval w vs v hh hv h1;have hsem:o.semAt b.roundOf a.eval=execOp a.eval o:=hnd (by intro q;cases q) (by intro q;cases q);refine ⟨θ,w,c,cs,a.defers,.one ?_,by rw [hsame];exact hh,.refl _ _ _ _,by rw [hsame];exact g2,by rw [hsame];exact hd,rfl,by rw [hsame];exact hu,c8.refl hu⟩;rcases g1 with g1|⟨g1,rfl⟩
  ·exact Dj ho hw (by rw [hsem];exact g1)
  ·exact IA ho hw (by rw [hsem];exact g1)
 | alloc f =>
  simp only [ep,qc,qd] at hr;obtain ⟨⟨ob,mk⟩,h1,rfl⟩:=hr;obtain ⟨hown,w0,co,ext,c,g1,g2,g3⟩:=hok.1 D θ a.eval w vs ob mk (JX a) hv h1;have hsem:o.semAt b.roundOf a.eval=execOp a.eval o:=hnd (by intro q;cases q) (by intro q;cases q);have hn:¬ D st.H.next:=hf _ (qh _) (zn _)
  have hag:=Th.dS θ st.H.next w0.heap.size 0 ext hn
  obtain ⟨e1,e2,e3⟩:=Th.cS θ st.H.next w0.heap.size 0 ext
  obtain ⟨k1,k2⟩:=g3 (Up D st.H.next (st.H.next+1)) (θ.add st.H.next w0.heap.size 0 ext) st.H.next hag Up.of (.inr ⟨qh _,zn _⟩) (by rw [e1,g2.heap]) e2 e3
  have hh0:HR P base D θ st.H w0:=hh.draw g2.heap;refine ⟨θ.add st.H.next w0.heap.size 0 ext,w0.alloc co,c,cs,a.defers,.one (Dj ho hw (by rw [hsem];exact g1)),?_,?_,k2,dQ.up hag Up.of hd,rfl,kJ.up hag Up.of hu,c8.refl hu⟩
  ·refine hh0.alloc hn ?_ ?_ (qh _) ?_ k1
   ·rw [vL];simp
   ·intro j hj;rw [vL,qe (EB hj)]
   ·simp
  ·exact (ba.draw (w:=w) (w':=w0) g2.heap g2.os g2.tape g2.output).trans (ba.alloc (w:=w0) hh0 hn _ _ _ _) (λ _ h=>h)
 | eE f =>
  simp only [ep,qc,qd] at hr;obtain ⟨⟨v,H'⟩,h1,rfl⟩:=hr;obtain ⟨θ',w',c,g1,g2,g3,g4⟩:=hok.1 base D θ st.H a.eval w vs v H' hh hv h1 hf;have hsem:o.semAt b.roundOf a.eval=execOp a.eval o:=hnd (by intro q;cases q) (by intro q;cases q);refine ⟨θ',w',c,cs,a.defers,.one ?_,g2,g3,g4,dQ.up g3.ag Up.of hd,rfl,kJ.up g3.ag Up.of hu,c8.refl hu⟩;rcases g1 with g1|⟨g1,rfl⟩
  ·exact Dj ho hw (by rw [hsem];exact g1)
  ·exact IA ho hw (by rw [hsem];exact g1)
 | ew f =>
  obtain ⟨c,fn,body,h1,h2,rfl,h3,h4⟩:=hok;simp only [ep,bT,jv,qn,qc,qd] at hr;obtain ⟨⟨e,u,H'⟩,hc,rfl⟩:=hr;have hsem:o.semAt b.roundOf a.eval=execOp a.eval o:=Oper.semAt_eq _ _ _ (λ c'=>by rw [h1];simp);refine Md hcall ho hh hd hu (args:=c.args.map a.eval) (by simpa using hv) (λ _=>ME ho hw ?_) hc (by cases e<;>exact hf);rw [hsem];simp [execOp,h1,resolve,h2,Act.eval,Deferred.ofValue,invoke,G5 hP h3 h4]
 | eD =>
  obtain ⟨c,x,h1,h2,rfl⟩:=hok;have hsem:o.semAt b.roundOf a.eval=execOp a.eval o:=Oper.semAt_eq _ _ _ (λ c'=>by rw [h1];simp);simp only [ep] at hr;split at hr
  ·rename_i f first cap args
   simp only [bT,jv,qn,qc,qd] at hr;obtain ⟨⟨e,u,H'⟩,hc,rfl⟩:=hr;obtain ⟨cf,ca,hce,q1,q2⟩:=hv.dF;simp only [kt,zu] at hce;obtain ⟨rfl,rfl⟩:=hce;obtain ⟨fi,ci,q3,q4,q5,_⟩:=Jj q1;refine Md hcall ho hh hd hu (args:=(fi.toArray++c.args.map a.eval)++ci.toArray) ?_ (λ hfn=>ME ho hw ?_) hc (by cases e<;>exact hf)
   ·simpa using q4.app (q2.app q5)
   ·obtain ⟨fn,body,h3,h4⟩:=hfn;rw [hsem];simp [execOp,h1,resolve,h2,q3,db,Deferred.ofValue,invoke,G5 hP h3 h4]
  ·rename_i l first args
   simp only [bT,qc,qd] at hr;obtain ⟨⟨e,H'⟩,hc,rfl⟩:=hr;obtain ⟨cf,ca,hce,q1,q2⟩:=hv.dF;simp only [kt,zu] at hce;obtain ⟨rfl,rfl⟩:=hce;obtain ⟨fi,ci,q3,q4,q5,_⟩:=Jj q1;have hf':cJ D st.H.next H'.next:=by cases e<;>exact hf
   obtain ⟨f,tmps,as,body,g1,θ',w',fin,g2,g3,g4,g5⟩:=hround D θ st.H w l (first++args) (fi.toArray++c.args.map a.eval) H' e (b.atR a (.inRegion ops (i::rest)::k)) cs hh (by simpa using q4.app q2) hc hf';have hstep:=tR (P:=P) (b:=b) (k:=k) (cs:=cs) (w:=w) (rest:=rest) ho hw (l:=θ.bF l) (f:=f) (tmps:=tmps) (as:=as) (body:=body) (w':=w) (by
    rw [hsem];simp [execOp,h1,resolve,h2,q3,db,Deferred.ofValue,invoke,g1])
   cases e with
   | ret v =>
    obtain ⟨cv,k1,rfl⟩:=g3;refine ⟨θ',w',cv,cs,a.defers,.head hstep ?_,g4,g5,k1,dQ.up g5.ag Up.of hd,rfl,kJ.up g5.ag Up.of hu,c8.refl hu⟩;rw [Gf ho] at g2;exact g2
   | panic ch =>
    obtain ⟨ps,k0,k1,rfl⟩:=g3;refine ⟨θ',w',ps,.inRegion ops (i::rest)::k,.head hstep ?_,g4,g5,k0,k1⟩;rw [Frame.raise_atR] at g2;exact g2
  ·cases hr
 | invoke m =>
  obtain ⟨c,x,h1,h2,rfl⟩:=hok;have hsem:o.semAt b.roundOf a.eval=execOp a.eval o:=Oper.semAt_eq _ _ _ (λ c'=>by rw [h1];simp);simp only [ep] at hr;split at hr
  ·rename_i t v args;simp only [bT,jv,qn,qc,qd] at hr;obtain ⟨f,hm,⟨e,u,H'⟩,hc,rfl⟩:=hr;obtain ⟨cf,ca,hce,q1,q2⟩:=hv.dF;simp only [kt,zu] at hce;obtain ⟨rfl,rfl⟩:=hce;obtain ⟨cv,q3,q4⟩:=q1.gO;rw [hAP] at hm;have hm':pL P t m=some f:=hm;refine Md hcall ho hh hd hu (args:=#[cv]++c.args.map a.eval) (by simpa using bz.cons q4 q2) (λ hfn=>ME ho hw ?_) hc (by cases e<;>exact hf);obtain ⟨fn,body,h3,h4⟩:=hfn;rw [hsem];have hx:(#[Value.iface t cv]++c.args.map a.eval)[0]? = some (.iface t cv):=by
    rw [Array.getElem?_append];simp
   have hx2:(#[Value.iface t cv]++c.args.map a.eval).extract 1 (#[Value.iface t cv]++c.args.map a.eval).size=c.args.map a.eval:=by
    apply xH;rw [Array.toList_extract,Array.toList_append];simp [List.extract,zh]
   simp only [execOp,h1,resolve,h2,Sem.run_bind,Sem.run_pure,Result.andThen_ok,invoke,q3,hx,hx2,callMethod,program,Sem.run,q7c hm',G5 hP h3 h4]
  ·cases hr
 | recover =>
  obtain ⟨c,h1,h2,rfl⟩:=hok;have hsem:o.semAt b.roundOf a.eval=execOp a.eval o:=Oper.semAt_eq _ _ _ (λ c'=>by rw [h1];simp);simp only [ep] at hr;split at hr
  ·cases hr
  ·rename_i hnone;rw [hnone] at hb;have hb:b.roundOf=none:=hb;have hrun:(o.semAt b.roundOf a.eval).run P w=.ok .recover w:=by
    rw [hsem];obtain ⟨cc,hE⟩:=Ip (ρ:=a.eval) h1 h2;rw [hE];rfl
   split at hr
   ·split at hr
    ·rename_i v older hup;injection hr with hr;subst hr
     rw [hup] at hu;cases cs with
     | nil=>exact hu.elim
     | cons c0 cs0 =>
      obtain ⟨hk,hm⟩:=hu;cases hmode:c0.mode with
      | run=>rw [hmode] at hm;exact hm.elim
      | returning=>rw [hmode] at hm;cases hm
      | panicking ps =>
       rw [hmode] at hm;obtain ⟨_,hm⟩:=hm;cases ps with
       | nil=>exact hm.elim
       | cons p ps =>
        obtain ⟨⟨m1,m2,m3⟩,m4⟩:=hm;obtain ⟨pv,pr,pg⟩:=p;simp only at m1 m2 m3;subst m2;subst m3;refine ⟨θ,w,pv,{ c0 with mode:=.panicking ({ v:=pv,recovered:=true }::ps) }::cs0,a.defers,.one ?_,by rw [hsame];exact hh,.refl _ _ _ _,by rw [hsame];exact m1,by rw [hsame];exact hd,by rw [hup];rfl,?_,?_⟩
        ·refine q59 ho hw hb hrun ?_;simp [tryRecover,Frame.atR,hk,hmode]
        ·rw [hsame];exact ⟨hk,by simp,⟨m1,rfl,rfl⟩,m4⟩
        ·rw [hup];exact ⟨_,rfl⟩
    ·rename_i hup;injection hr with hr;subst hr
     refine ⟨θ,w,.nilIface,cs,a.defers,.one (qur ho hw hb hrun ?_),by rw [hsame];exact hh,.refl _ _ _ _,λ _ _=>rfl,by rw [hsame];exact hd,rfl,by rw [hsame];exact hu,c8.refl hu⟩;unfold tryRecover;cases hupc:st.up with
     | none =>
      rw [hupc] at hu;have hk:b.kind=.normal:=hu;simp [Frame.atR,hk]
     | some ch =>
      rw [hupc] at hu;cases cs with
      | nil=>exact hu.elim
      | cons c0 cs0 =>
       obtain ⟨hk,hm⟩:=hu;cases hmode:c0.mode with
       | run=>rw [hmode] at hm;exact hm.elim
       | returning=>simp [Frame.atR,hk,hmode]
       | panicking ps =>
        rw [hmode] at hm;obtain ⟨_,hm⟩:=hm;cases ps with
        | nil=>simp [Frame.atR,hk,hmode]
        | cons p ps =>
         cases ch with
         | nil=>exact hm.elim
         | cons e es =>
          obtain ⟨⟨m1,m2,m3⟩,m4⟩:=hm;obtain ⟨pv,pr,pg⟩:=p;obtain ⟨ev,er⟩:=e;simp only at m2 m3;subst m2;subst m3;cases pr with
          | false=>exact absurd hupc (hup _ _)
          | true=>simp [Frame.atR,hk,hmode]
   ·cases hr
 | defer =>
  obtain ⟨c,x,h1,h2,rfl⟩:=hok;simp only [ep] at hr;split at hr
  ·cases hr
  ·rename_i hnone;rw [hnone] at hb;have hb:b.roundOf=none:=hb;split at hr
   ·rename_i f first cap args
    injection hr with hr;subst hr
    obtain ⟨cf,ca,hce,q1,q2⟩:=hv.dF;simp only [kt,zu] at hce;obtain ⟨rfl,rfl⟩:=hce;obtain ⟨fi,ci,q3,q4,q5,q6⟩:=Jj q1;refine ⟨θ,w,undef,cs,{ target:=.fn (.func f) ci.toArray,args:=fi.toArray++c.args.map a.eval }::a.defers,.one ?_,by rw [hsame];exact hh,.refl _ _ _ _,.undef,?_,rfl,by rw [hsame];exact hu,c8.refl hu⟩
    ·refine tl ho hw ?_;rw [hb,Oper.semAt_none];simp [execOp,h1,resolve,h2,q3,db,Deferred.ofValue]
    ·rw [hsame];exact ⟨⟨_,_,rfl,λ _ _=>rfl,by simpa using q4.app (q2.app q5)⟩,hd⟩
   ·cases hr
 | panic =>
  simp only [ep] at hr;split at hr
  ·rename_i t v;injection hr with hr;subst hr
   obtain ⟨x,rfl,q1⟩:=hv.lj;obtain ⟨cv,q3,q4⟩:=q1.gO;have hrun:(o.semAt b.roundOf a.eval).run P w=.halt (.panic (a.eval x)) w:=by
    rcases hok with ⟨y,h1,hy⟩|⟨c,h1,h2,hy⟩
    ·simp only [zu,mz] at hy;subst hy;rw [Oper.semAt_eq _ _ _ (λ c'=>by rw [h1];simp)];simp [execOp,h1,q3,Instr.panic,goPanic]
    ·rw [Oper.semAt_eq _ _ _ (λ c'=>by rw [h1];simp)];obtain ⟨cc,hE⟩:=Ip (ρ:=a.eval) h1 h2;rw [hE,AL hy.symm];simp [builtin,q3,Instr.panic,goPanic]
   refine ⟨θ,w,[{ v:=a.eval x,recovered:=false }],.inRegion ops (i::rest)::k,.one (tz ho hw hrun),by rw [hsame];exact hh,.refl _ _ _ _,by simp,?_⟩;rw [hsame];exact ⟨⟨q1,rfl,rfl⟩,trivial⟩
  ·cases hr
end
end Go.Am
namespace Go.Am
def b9 (s:aU) (tm:T AV):Option Bool :=
 match s.guard with
 | none=>some true
 | some g=>aB g.2 (tm.get g.1)
theorem NO (s:aU) (hc:s.eC=false) (rt:RT) (K:St->dL) (st:St) :
 (dJ s).run rt K st=(b9 s st.tm).bind λ w=>cond w ((gR st.tm s.args).bind λ vs=>(ep rt st vs s.op).bind (nD (cO s.dst) s.bN st K)) (K ⟨cO s.dst .undef st.tm,st.aR,st.up,st.H⟩):=by
 have hput:(gH s.dst).run=cO s.dst:=by funext v tm;exact LW _ _ _
 unfold dJ b9;rw [hc];cases hg:s.guard with
 | none=>simp only [qn,xk,yP,q9j,hput]
 | some g=>simp only [yP,q9j,hput,T.fq,T.get]
theorem qq8 (s:aU) (hc:s.eC=true) {d:Nat} (hd:s.dst=some d) (rt:RT) (K:St->dL) (st:St) :
 (dJ s).run rt K st=(b9 s st.tm).bind λ w=>cond w ((gR st.tm s.args).bind λ vs=>cond (kO (λ t=>t.get d) st vs s.op) (K st) none) (K st):=by
 have hget:(T.iT (α:=AV) (T.path d)).run=λ t=>t.get d:=by funext t;exact T.fq _ _
 unfold dJ b9;rw [hc,hd];cases hg:s.guard with
 | none=>simp only [qn,xk,yP,hget]
 | some g =>
  simp only [yP,hget];rw [show (T.iT (T.path g.1)).run st.tm=st.tm.get g.1 from T.fq _ _]
theorem qpa (s:aU) (hc:s.eC=true) (hd:s.dst=none) (rt:RT) (K:St->dL) (st:St):(dJ s).run rt K st=none:=by
 unfold dJ;rw [hc,hd];cases s.guard<;>rfl
def jN (call:bB):Prop:=∀ f vs up H e up' H',call f vs up H=some (e,up',H')->Ext H H'
def qH (round:eQ):Prop:=∀ vs l H e H',round vs l H=some (e,H')->Ext H H'
def mS:ah->Prop
 | .region steps=>∀ s ∈ steps,cL s.op
 | .seq a b=>mS a/\mS b
 | .cond _ a b=>mS a/\mS b
 | .block _ b=>mS b
 | .loop _ b=>mS b
 | .scope b=>mS b
 | _=>True
def uM (fn:av):Prop:=mS fn.body /\ ∀ lp ∈ fn.loops,mS lp.assign/\mS lp.body
def I8 (AP:fj):Prop:=∀ f fn,AP.func f=some fn->uM fn
section
variable {rt:RT} (hc:jN rt.call) (hr:qH rt.round)
include hc hr
theorem NB {op:dD} (ho:cL op) {st:St} {vs:List AV} {r:dZ} (h:ep rt st vs op=some r):Ext st.H r.heap:=by
 have hres:∀ (q:br × AHeap),Ext st.H q.2->Ext st.H (iL st.aR st.up q).heap:=by
  intro q hq;obtain ⟨e,H'⟩:=q;cases e<;>exact hq
 cases op with
 | pure f=>simp only [ep,qc,qd] at h;obtain ⟨_,_,rfl⟩:=h;exact Ext.refl _
 | read f=>simp only [ep,qc,qd] at h;obtain ⟨_,_,rfl⟩:=h;exact Ext.refl _
 | alloc f=>simp only [ep,qc,qd] at h;obtain ⟨⟨ob,mk⟩,h1,rfl⟩:=h;exact Ext.alloc _ _ (ho _ _ _ h1)
 | eE f=>simp only [ep,qc,qd] at h;obtain ⟨⟨v,H'⟩,h1,rfl⟩:=h;exact ho _ _ _ _ h1
 | ew f =>
  simp only [ep,bT,jv,qn,qc,qd] at h;obtain ⟨⟨e,u,H'⟩,h1,rfl⟩:=h;exact hres _ (hc _ _ _ _ _ _ _ h1)
 | eD =>
  simp only [ep] at h;split at h
  ·simp only [bT,jv,qn,qc,qd] at h;obtain ⟨⟨e,u,H'⟩,h1,rfl⟩:=h;exact hres _ (hc _ _ _ _ _ _ _ h1)
  ·simp only [bT,qc,qd] at h;obtain ⟨⟨e,H'⟩,h1,rfl⟩:=h;exact hres _ (hr _ _ _ _ _ h1)
  ·cases h
 | invoke m =>
  simp only [ep] at h;split at h
  ·simp only [bT,jv,qn,qc,qd] at h;obtain ⟨_,_,⟨e,u,H'⟩,h1,rfl⟩:=h;exact hres _ (hc _ _ _ _ _ _ _ h1)
  ·cases h
 | recover =>
  simp only [ep] at h;split at h
  ·cases h
  ·split at h
   ·split at h<;>(injection h with h;subst h;exact Ext.refl _)
   ·cases h
 | defer =>
  simp only [ep] at h;split at h
  ·cases h
  ·split at h
   ·injection h with h;subst h;exact Ext.refl _
   ·cases h
 | panic =>
  simp only [ep] at h;split at h
  ·injection h with h;subst h;exact Ext.refl _
  ·cases h
theorem q5k {op:dD} (ho:cL op) {st:St} {vs:List AV} {r:dZ} (h:ep rt st vs op=some r):st.H.next<=r.heap.next:=(NB hc hr ho h).1
theorem q94 {s:aU} (ho:cL s.op) {K:St->dL} (hK:∀ st r,K st=some r->Ext st.H r.2.H) {st:St} {r:aE × St} (h:(dJ s).run rt K st=some r):Ext st.H r.2.H:=by
 cases hch:s.eC with
 | false =>
  rw [NO s hch,qc] at h;obtain ⟨w,hw,h⟩:=h;cases w with
  | false =>
   simp only [zk] at h;have h9:=hK _ _ h;exact h9
  | true =>
   simp only [xk,qc] at h;obtain ⟨vs,_,q,hq,h⟩:=h;have h1:=NB hc hr ho hq;cases q with
   | val v d u H'=>exact Ext.trans h1 (hK _ _ h)
   | panic c H' =>
    simp only [nD,qc,qd] at h;obtain ⟨_,_,rfl⟩:=h;exact h1
 | true =>
  cases hd:s.dst with
  | none=>rw [qpa s hch hd] at h;cases h
  | some d =>
   rw [qq8 s hch hd,qc] at h;obtain ⟨w,hw,h⟩:=h;cases w with
   | false =>
    simp only [zk] at h;exact hK _ _ h
   | true =>
    simp only [xk,qc] at h;obtain ⟨vs,_,h⟩:=h;rcases kq h with ⟨_,h⟩|⟨_,h⟩
    ·exact hK _ _ h
    ·cases h
theorem KC:∀ {l:List aU},(∀ s ∈ l,cL s.op) -> ∀ {st:St} {r:aE × St},(dV l).run rt st=some r->Ext st.H r.2.H
 | [],_,st,r,h=>by injection h with h;subst h;exact Ext.refl _
 | s::l,ho,st,r,h=>q94 hc hr (ho s (by simp)) (λ st r h=>KC (λ s hs=>ho s (by simp [hs])) h) h
theorem q4g {l:List aU} (hl:∀ s ∈ l,cL s.op) {st:St} {r:aE × St} (h:(dV l).run rt st=some r):st.H.next<=r.2.H.next:=(KC hc hr hl h).1
omit hc hr in
theorem MA {body:St->dL} (hb:∀ st r,body st=some r->Ext st.H r.2.H) (ae:Option (List Nat)):∀ (n:Nat) (st:St) (r:aE × St),dI ae body n st=some r->Ext st.H r.2.H
 | 0,st,r,h=>by cases h
 | n+1,st,r,h=>by
  simp only [dI,qc] at h;obtain ⟨q,hq,h⟩:=h;have h1:=hb _ _ hq;have h1:Ext st.H q.2.H:=by cases ae<;>exact h1
  split at h
  ·exact Ext.trans h1 (MA hb ae n _ _ h)
  ·injection h with h;subst h;exact h1
omit hc hr in
theorem q6v {body:St->dL} (hb:∀ st r,body st=some r->Ext st.H r.2.H) (ae:Option (List Nat)) (n:Nat) (st:St) (r:aE × St) (h:dI ae body n st=some r):st.H.next<=r.2.H.next:=(MA hb ae n st r h).1
omit hr in
theorem Lw {st:St} {k:Nat} {H0:AHeap} {aR:List aM} {d:Nat} {v:AV} {r:aE × St} (h0:Ext st.H H0) (h:eY rt.call rt.round rt.ctx st k H0 aR d v=some r):Ext st.H r.2.H:=by
 unfold eY at h;split at h
 ·simp only [bT,jv,qn,qc] at h;obtain ⟨⟨e,u,H'⟩,h1,h⟩:=h;have h2:=(h0.trans (Ext.alloc _ _ rfl)).trans (hc _ _ _ _ _ _ _ h1);unfold Fm at h;split at h
  ·injection h with h;subst h;exact h2
  ·split at h
   ·cases h
   ·rename_i hg;injection h with h;subst h;exact h2.trans (Ext.set hg _ (λ _=>rfl))
   ·cases h
 ·cases h
omit hr in
theorem q38 {st:St} {k:Nat} {H0:AHeap} {aR:List aM} {d:Nat} {v:AV} {r:aE × St} (h0:Ext st.H H0) (h:eY rt.call rt.round rt.ctx st k H0 aR d v=some r):st.H.next<=r.2.H.next:=(Lw hc h0 h).1
theorem rC:∀ {c:ah},mS c -> ∀ {st:St} {r:aE × St},(bf c).run rt st=some r->Ext st.H r.2.H
 | .skip,_,st,r,h=>by injection h with h;subst h;exact Ext.refl _
 | .label _,_,st,r,h=>by injection h with h;subst h;exact Ext.refl _
 | .region steps,hm,st,r,h=>KC hc hr hm h
 | .seq a b,hm,st,r,h=>by
  simp only [bf,qc] at h;obtain ⟨q,hq,h⟩:=h;have h1:=rC hm.1 hq;unfold ng at h;split at h
  ·exact Ext.trans h1 (rC hm.2 h)
  ·injection h with h;subst h;exact h1
 | .cond c a b,hm,st,r,h=>by
  simp only [bf,qc] at h;obtain ⟨v,hv,h⟩:=h;unfold m8 at h;split at h
  ·rcases kq h with ⟨_,h⟩|⟨_,h⟩
   ·exact rC hm.1 h
   ·exact rC hm.2 h
  ·cases h
 | .block id b,hm,st,r,h=>by
  simp only [bf,qc] at h;obtain ⟨q,hq,h⟩:=h;have h1:=rC (c:=b) hm hq;unfold fO at h;split at h<;>(injection h with h;subst h;exact h1)
 | .loop ae b,hm,st,r,h=>MA (λ st r h=>rC (c:=b) hm h) ae _ _ _ h
 | .exit _,_,st,r,h=>by injection h with h;subst h;exact Ext.refl _
 | .goto _,_,st,r,h=>by injection h with h;subst h;exact Ext.refl _
 | .ret,_,st,r,h=>by injection h with h;subst h;exact Ext.refl _
 | .stuck,_,st,r,h=>by cases h
 | .scope b,hm,st,r,h=>by
  simp only [bf,qc] at h;obtain ⟨q,hq,h⟩:=h;have h1:=rC (c:=b) hm hq;unfold gB at h;split at h
  ·rcases kq h with ⟨_,h⟩|⟨_,h⟩
   ·cases h
   ·injection h with h;subst h;exact h1
  ·injection h with h;subst h;exact h1
 | .rangeFunc f k,_,st,r,h=>by
  simp only [bf,qc] at h;obtain ⟨v,hv,h⟩:=h;unfold kG at h;split at h
  ·exact Lw hc (Ext.alloc _ _ rfl) h
  ·simp only [qc] at h;obtain ⟨d,_,h⟩:=h;exact Lw hc (Ext.refl _) h
theorem FL {c:ah} (hm:mS c) {st:St} {r:aE × St} (h:(bf c).run rt st=some r):st.H.next<=r.2.H.next:=(rC hc hr hm h).1
end
theorem J7 {call:bB} (hc:jN call) {rs:List cQ} {tm:T AV}:∀ {ds:List aM} {m:Option aC} {H:AHeap} {r:br × AHeap},bE call rs tm ds m H=some r->Ext H r.2
 | [],none,H,r,h=>by
  simp only [bE,qc,qd] at h;obtain ⟨_,_,rfl⟩:=h;exact Ext.refl _
 | [],some c,H,r,h=>by injection h with h;subst h;exact Ext.refl _
 | .eU b::ds,m,H,r,h=>by
  simp only [bE] at h;split at h
  ·rename_i hg;exact (Ext.set hg _ (λ _=>rfl)).trans (J7 (H:=H.set b _) hc h)
  ·cases h
 | .fn (.func f) args::ds,m,H,r,h=>by
  simp only [bE,qc] at h;obtain ⟨⟨e,u,H'⟩,h1,h⟩:=h;have h2:=hc _ _ _ _ _ _ _ h1;split at h
  ·simp only [qc] at h;obtain ⟨m',_,h⟩:=h;exact Ext.trans h2 (J7 hc h)
  ·cases h
 | .fn (.yield _) _::_,_,_,_,h=>by simp [bE] at h
theorem qs4 {call:bB} (hc:jN call) {rs:List cQ} {tm:T AV} {ds:List aM} {m:Option aC} {H:AHeap} {r:br × AHeap} (h:bE call rs tm ds m H=some r):H.next<=r.2.next:=(J7 hc h).1
theorem q4d {H H':AHeap} {l:Nat} {s:iq} {p:Option dX} (h:bQ H l s p=some H'):Ext H H':=by
 unfold bQ at h;split at h
 ·rename_i hg;injection h with h;subst h;exact Ext.set hg _ (λ _=>rfl)
 ·cases h
theorem qxe {H H':AHeap} {l:Nat} (h:beginRound H l=some H'):Ext H H':=by
 unfold beginRound at h;split at h
 ·rename_i hg;injection h with h;subst h;exact Ext.set hg _ (λ _=>rfl)
 ·cases h
theorem q2t {H H':AHeap} {l:Nat} {s:iq} {p:Option dX} (h:bQ H l s p=some H'):H'.next=H.next:=by
 unfold bQ at h;split at h
 ·injection h with h;subst h;rfl
 ·cases h
theorem quv {H H':AHeap} {l:Nat} (h:beginRound H l=some H'):H'.next=H.next:=by
 unfold beginRound at h;split at h
 ·injection h with h;subst h;rfl
 ·cases h
theorem JJ {AP:fj} (hp:I8 AP) {call:bB} (hc:jN call) (m:Nat):∀ n,qH (rounds AP call m n)
 | 0=>λ vs l H e H' h=>by cases h
 | n+1=>λ vs l H e H' h=>by
  have ih:=JJ hp hc m n;simp only [rounds,roundOf] at h;split at h
  ·rename_i st pd f k tm d hg;simp only [qc] at h;obtain ⟨fn,hfn,lp,hlp,tm1,_,q,hq,h⟩:=h;have hlm:mS lp.assign/\mS lp.body:=(hp f fn hfn).2 lp (by rw [iS] at hlp;exact ja hlp);have h1:=rC (rt:=⟨AP,call,rounds AP call m n,m,⟨some l,f⟩⟩) hc ih hlm.1 hq;have h1:Ext H q.2.H:=h1;split at h
   ·simp only [qc] at h;obtain ⟨H2,hb,q2,hq2,h⟩:=h;have h2:=rC (rt:=⟨AP,call,rounds AP call m n,m,⟨some l,f⟩⟩) hc ih hlm.2 hq2;have h2:Ext H2 q2.2.H:=h2;have h3:=(h1.trans (qxe hb)).trans h2;rcases kq h with ⟨_,h⟩|⟨_,h⟩
    ·unfold Ah at h;split at h
     ·injection h with h;injection h with _ h;subst h
      exact h3
     ·simp only [qc,qd,xw] at h;obtain ⟨H3,h4,_,rfl⟩:=h;exact h3.trans (q4d h4)
    ·cases h
   ·cases h
  ·cases h
theorem q0x {AP:fj} (hp:I8 AP) {call:bB} (ih:jN call) (n:Nat):jN (yY AP call n) :=
 λ f vs up H e up' H' h=>by
  simp only [yY,qc] at h;obtain ⟨fn,hfn,q,hq,h⟩:=h;have h1:=rC (rt:=⟨AP,call,rounds AP call n n,n,⟨none,f⟩⟩) ih (JJ hp ih n n) (hp f fn hfn).1 hq;have h1:Ext H q.2.H:=h1;have hfin:∀ m,((bE call fn.results q.2.tm q.2.aR m q.2.H).bind λ z=>some (z.1,q.2.up,z.2))=some (e,up',H')->Ext H H':=by
   intro m h;simp only [qc,qd,xw] at h;obtain ⟨z,hz,_,_,rfl⟩:=h;exact Ext.trans h1 (J7 ih hz)
  unfold jV at h;split at h
  ·exact hfin _ h
  ·exact hfin _ h
  ·exact hfin _ h
  ·cases h
theorem qun {AP:fj} (hp:I8 AP) {told:bB} (ht:jN told):∀ n,jN (fF AP told n)
 | 0=>ht
 | n+1=>λ f vs up H e up' H' h=>by
  simp only [fF] at h;split at h
  ·rename_i r hr;injection h with h;subst h
   exact ht _ _ _ _ _ _ _ hr
  ·exact q0x hp (qun hp ht n) n _ _ _ _ _ _ _ h
end Go.Am
namespace Go.Am
abbrev iW:Machine->Prop:=λ _=>True
structure SR (P:Program) (base:Nat) (D:Nat->Prop) (θ:Th) (b:Frame) (nt:Nat) (rd:Option Nat) (st:St) (a:Act) (cs:List Frame) (w:World):Prop where
 heap:HR P base D θ st.H w
 nO:jS D θ st.tm a.tmps
 size:nt<=a.tmps.size
 aR:dQ D θ st.aR a.defers
 up:kJ D θ b.kind st.up cs
 round:qU D θ b.roundOf rd
def Out (P:Program) (base:Nat) (D:Nat->Prop) (θ:Th) (b:Frame) (nt:Nat) (rd:Option Nat) (k:List Item) (st:St) (cs:List Frame) (w:World) (m:Machine) (e:aE) (st':St):Prop :=
 ∃ θ' a' w' cs' e',ArrivesIn iW P m b k cs' e' a' w'/\SR P base (Up D st.H.next st'.H.next) θ' b nt rd st' a' cs' w'/\ba D st.H θ w st'.H θ' w'/\rJ (Up D st.H.next st'.H.next) θ' e e' /\
  st'.up.isSome=st.up.isSome/\c8 st.up cs cs'
section
variable {P:Program} {base:Nat} {D:Nat->Prop} {θ:Th}
theorem Out.after {b:Frame} {nt:Nat} {rd:Option Nat} {k:List Item} {st bV st':St} {cs cs1:List Frame} {w w1:World} {m m1:Machine} {e:aE} {θ1:Th} (hs:Steps P m m1)
 (hg:ba D st.H θ w bV.H θ1 w1) (hu:bV.up.isSome=st.up.isSome) (ht:c8 st.up cs cs1) (hn:bV.H.next<=st'.H.next)
 (h:Out P base (Up D st.H.next bV.H.next) θ1 b nt rd k bV cs1 w1 m1 e st'):Out P base D θ b nt rd k st cs w m e st':=by
 obtain ⟨θ',a',w',cs',e',h1,h2,h3,h4,h5,h6⟩:=h;rw [Up.up hg.next hn] at h2 h4;exact ⟨θ',a',w',cs',e',.of_steps (StepsIn.of_steps hs) h1,h2,hg.trans h3 Up.of,h4,h5.trans hu,c8.trans hu ht h6⟩
theorem p8 {α:Type}:∀ {l:List (Option α)} {r:List α},cA l=some r->r.length=l.length /\ ∀ (i:Nat) (x:α),r[i]? = some x->l[i]? = some (some x)
 | [],r,h=>by injection h with h;subst h;exact ⟨rfl,λ i x hx=>by simp at hx⟩
 | y::l,r,h=>by
  simp only [cA,qc,qd] at h;obtain ⟨a,rfl,l',hl,rfl⟩:=h;obtain ⟨h1,h2⟩:=p8 hl;refine ⟨by simp [h1],λ i x hx=>?_⟩;cases i with
  | zero=>simpa using hx
  | succ i=>simpa using h2 i x (by simpa using hx)
theorem FZ {ops:Array Oper} {l:List (List bA × dD)} {safe:Nat->Option (List Nat)} {q:Bool × Nat} {s:aU} (h:fL ops l safe q=some s) :
 ∃ o a g,ops[q.2]? = some o/\l[q.2]? = some a/\guardOf ops o.guard=some g/\s = { eC:=q.1,dst:=o.dst,guard:=g,args:=a.1,op:=a.2,bN:=safe q.2 }:=by
 simp only [fL,qc,qd] at h;obtain ⟨o,ho,a,ha,g,hg,rfl⟩:=h;exact ⟨o,a,g,ho,ha,hg,rfl⟩
theorem LD {ops:Array Oper} {o:Oper} {s:aU} (hg:guardOf ops o.guard=some s.guard) {tm:T AV} {a:Array Value} (ht:jS D θ tm a) {q:Bool} (h:b9 s tm=some q) :
 Region.wanted o (yielded ops a)=q:=by
 unfold b9 at h;unfold Region.wanted;cases ho:o.guard with
 | none =>
  rw [ho] at hg;injection hg with hg
  rw [<-hg] at h;injection h
 | some g =>
  obtain ⟨j,want⟩:=g;rw [ho] at hg;simp only [guardOf,qc,qd] at hg;obtain ⟨t,⟨oj,hj1,hj2⟩,hg⟩:=hg;rw [<-hg] at h;simp only at h;have hy:((ops[j]?).bind (·.dst)).bind (a[·]?)=a[t]?:=by rw [hj1];simp [hj2]
  simp only [yielded,hy];unfold aB at h;split at h
  ·rename_i p hp;obtain ⟨c,h1,h2⟩:=ht t _ hp;injection h with h
   rw [h1,<-h2.now];simp only [aD];cases p<;>cases want<;>cases q<;>simp_all
  ·rename_i hp;obtain ⟨c,h1,h2⟩:=ht t _ hp;injection h with h
   rw [h1,<-h2.now];simp only [aD];subst h;rfl
  ·cases h
theorem AY {nt:Nat} {tm:T AV} {a:Act} {dst:Option Nat} (hd:∀ d,dst=some d->d<nt) (hs:nt<=a.tmps.size) (ht:jS D θ tm a.tmps) {v:AV} {c:Value} (hv:VR D θ v c) :
 jS D θ (cO dst v tm) (a.put dst c).tmps/\nt<=(a.put dst c).tmps.size/\(a.put dst c).defers=a.defers:=by
 cases dst with
 | none=>exact ⟨ht,hs,rfl⟩
 | some d =>
  refine ⟨ht.put (qp (hd d rfl) hs) hv,?_,rfl⟩
  simpa [Act.put] using hs
theorem q7f (hP:cF P) {rt:RT} (hcall:wq P base rt.call) (hround:oQ P base rt.round) (hAP:rt.AP=ak P) (hcm:jN rt.call) (hrm:qH rt.round)
 {ops:Array Oper} {o:Oper} {i:Nat} {rest:List Nat} {s:aU} {ca:List bA × dD} (ho:ops[i]? = some o) (hca:d8 P o=some ca) (hg:guardOf ops o.guard=some s.guard) (h1:s.eC=false) (h2:s.dst=o.dst) (h3:s.args=ca.1) (h4:s.op=ca.2)
 {b:Frame} {nt:Nat} (hdst:i9 nt o=true) {k:List Item} {st:St} {a:Act} {cs:List Frame} {w:World} (hS:SR P base D θ b nt rt.ctx.round st a cs w) {K:St->dL} {r:aE × St}
 (hKm:∀ st r,K st=some r->st.H.next<=r.2.H.next) (h:(dJ s).run rt K st=some r) (hf:cJ D st.H.next r.2.H.next)
 (hnext:∀ D1 θ1 bV a1 cs1 w1,SR P base D1 θ1 b nt rt.ctx.round bV a1 cs1 w1->K bV=some r->cJ D1 bV.H.next r.2.H.next->Out P base D1 θ1 b nt rt.ctx.round k bV cs1 w1 (lone (b.atR a1 (.inRegion ops rest::k)) cs1 w1) r.1 r.2) :
 Out P base D θ b nt rt.ctx.round k st cs w (lone (b.atR a (.inRegion ops (i::rest)::k)) cs w) r.1 r.2:=by
 have hdd:∀ d,o.dst=some d->d<nt:=by
  intro d hd;unfold i9 at hdst;rw [hd] at hdst
  simpa [mX] using hdst
 rw [NO s h1,qc] at h;obtain ⟨q,hq,h⟩:=h;have hwant:=LD hg hS.nO hq;cases q with
 | false =>
  simp only [zk] at h;obtain ⟨p1,p2,p3⟩:=AY (dst:=o.dst) hdd hS.size hS.nO (VR.undef (D:=D) (θ:=θ));rw [h2] at h;have hn:=hKm _ _ h;have hsk:=stepR_op_skip (P:=P) (b:=b) (a:=a) (k:=k) (cs:=cs) (w:=w) (ops:=ops) (i:=i) (rest:=rest) (by simp [ho,hwant]);rw [ho] at hsk;refine Out.after (.one hsk) (ba.refl D st.H θ w) rfl (c8.refl hS.up) hn ?_;rw [Up.none];exact hnext D θ ⟨cO o.dst .undef st.tm,st.aR,st.up,st.H⟩ _ cs w ⟨hS.heap,p1,p2,by rw [show (a.put ((some o).bind (·.dst)) undef).defers=a.defers from p3];exact hS.aR,hS.up,hS.round⟩ h hf
 | true =>
  simp only [xk,qc] at h;obtain ⟨vs,hvs,res,hres,h⟩:=h;obtain ⟨xs,hxs,hok,hdef⟩:=FI hP hca;rw [h3] at hvs;rw [h4] at hres;have hv:=Bx (a:=a) hS.heap hS.nO hxs hvs;have hm1:=q5k hcm hrm hok.mono hres;have hle:res.heap.next<=r.2.H.next:=by
   cases res with
   | val v d u H'=>exact hKm _ _ h
   | panic c H' =>
    simp only [nD,qc,qd] at h;obtain ⟨_,_,rfl⟩:=h;exact qh _
  have hout:=NM hP hcall hround hAP hok hdef (rest:=rest) (k:=k) ho hwant hS.heap hS.aR hS.up hS.round hv hres (hf.left hle);cases res with
  | val v d u H' =>
   obtain ⟨θ',w',c,cs',ds,g1,g2,g3,g4,g5,g6,g7,g8⟩:=hout;simp only [nD,h2] at h;have hag:=g3.ag;obtain ⟨p1,p2,p3⟩:=AY (a:={ a with defers:=ds }) (dst:=o.dst) hdd hS.size (hS.nO.up hag Up.of) g4;refine Out.after (bV:=⟨cO o.dst v st.tm,d,u,H'⟩) g1 g3 g6 g8 hle ?_;exact hnext _ θ' _ _ cs' w' ⟨g2,p1,p2,by rw [p3];exact g5,g7,qU.up hag Up.of hS.round⟩ h (hf.right hm1)
  | panic c H' =>
   obtain ⟨θ',w',ps,todo,g1,g2,g3,g4,g5⟩:=hout;simp only [nD,qc,qd] at h;obtain ⟨ds,hds,rfl⟩:=h;have hag:=g3.ag;refine ⟨θ',a,w',cs,.panic ps,⟨todo,StepsIn.of_steps g1⟩,⟨g2,jS.forget ds (hS.nO.up hag Up.of),hS.size,dQ.up hag Up.of hS.aR,kJ.up hag Up.of hS.up,qU.up hag Up.of hS.round⟩,g3,⟨g4,g5⟩,rfl,c8.refl hS.up⟩
theorem Nq (hP:cF P) {ops:Array Oper} {l:List (List bA × dD)} (hl:cA (ops.toList.map (d8 P))=some l) {safe:Nat->Option (List Nat)} {qs:List (Bool × Nat)} {steps:List aU}
 (h:cA (qs.map (fL ops l safe))=some steps):∀ s ∈ steps,cL s.op:=by
 intro s hs;obtain ⟨i,hi⟩:=DM hs;have:=(p8 h).2 i s hi;rw [xj,xh] at this;obtain ⟨q,_,hq⟩:=this;obtain ⟨o,a,g,ho,ha,_,rfl⟩:=FZ hq;have:=(p8 hl).2 _ a ha;rw [xj,xh] at this;obtain ⟨o',_,hco⟩:=this;obtain ⟨xs,_,hok,_⟩:=FI hP hco;exact hok.mono
theorem qy0 (hP:cF P) {rt:RT} (hcall:wq P base rt.call) (hround:oQ P base rt.round) (hAP:rt.AP=ak P) (hcm:jN rt.call) (hrm:qH rt.round)
 {ops:Array Oper} {nt:Nat} (hdst:ops.toList.all (i9 nt)=true) {l:List (List bA × dD)} (hl:cA (ops.toList.map (d8 P))=some l) {b:Frame} {k:List Item} {safe:Nat->Option (List Nat)} :
 ∀ (todo:List Nat) {steps:List aU},cA (todo.map λ i=>fL ops l safe (false,i))=some steps -> ∀ {D:Nat->Prop} {θ:Th} {st:St} {a:Act} {cs:List Frame} {w:World} {r:aE × St},
  SR P base D θ b nt rt.ctx.round st a cs w->(dV steps).run rt st=some r->cJ D st.H.next r.2.H.next->Out P base D θ b nt rt.ctx.round k st cs w (lone (b.atR a (.inRegion ops todo::k)) cs w) r.1 r.2
 | [],steps,hs,D,θ,st,a,cs,w,r,hS,h,hf=>by
  injection hs with hs;subst hs
  injection h with h;subst h
  refine ⟨θ,a,w,cs,.normal,StepsIn.one trivial stepR_region_end,by rw [Up.none];exact hS,ba.refl _ _ _ _,trivial,rfl,c8.refl hS.up⟩
 | i::todo,steps,hs,D,θ,st,a,cs,w,r,hS,h,hf=>by
  simp only [kt,cA,qc,qd] at hs;obtain ⟨s,hs1,rest,hs2,rfl⟩:=hs;obtain ⟨o,ca,g,ho,hla,hg,rfl⟩:=FZ hs1;have hco:d8 P o=some ca:=by
   have:=(p8 hl).2 _ ca hla;rw [xj,kj,ho] at this
   simpa using this
  have hmem:i9 nt o=true:=by
   rw [BN] at hdst;exact hdst o (by have:=Array.mem_of_getElem? ho;simpa using this)
  have hmono:∀ s ∈ rest,cL s.op:=by
   have h9:cA ((todo.map λ i=>(false,i)).map (fL ops l safe))=some rest:=by rw [rj];exact hs2
   exact Nq hP hl h9
  exact q7f hP hcall hround hAP hcm hrm (K:=(dV rest).run rt) ho hco hg rfl rfl rfl rfl hmem hS (λ st r h=>q4g hcm hrm hmono h) h hf
   (λ D1 θ1 bV a1 cs1 w1 hS1 h1 hf1=>qy0 hP hcall hround hAP hcm hrm hdst hl todo hs2 hS1 h1 hf1)
end
end Go.Am
namespace Go.Am
def Gk (P:Program) (base:Nat) (rt:RT):Prop :=
 ∀ (nt id:Nat) (ops:Array Oper) (c:ah),eP P nt ops true=some c -> ∀ (D:Nat->Prop) θ (b:Frame) k st a cs w r,SR P base D θ b nt rt.ctx.round st a cs w->(bf c).run rt st=some r ->
  cJ D st.H.next r.2.H.next->Out P base D θ b nt rt.ctx.round k st cs w (lone (b.atR a (.code (.region id ops true)::k)) cs w) r.1 r.2
section
variable {P:Program} {base:Nat}
theorem q69 {nt:Nat} {ops:Array Oper} {c:ah} (h:eP P nt ops false=some c):∃ l steps,ops.toList.all (i9 nt)=true/\cA (ops.toList.map (d8 P))=some l /\
 cA ((List.range ops.size).map λ i=>fL ops l (λ _=>some []) (false,i))=some steps/\c=.region steps:=by
 unfold eP at h;split at h
 ·rename_i hd;simp only [qc] at h;obtain ⟨l,hl,h⟩:=h;simp only [ya,qv,qc,qd] at h;obtain ⟨steps,hs,rfl⟩:=h;exact ⟨l,steps,hd,hl,hs,rfl⟩
 ·cases h
theorem q39 (hP:cF P) {nt:Nat} {ops:Array Oper} {draw:Bool} {c:ah} (h:eP P nt ops draw=some c):mS c:=by
 unfold eP at h;split at h
 ·simp only [qc] at h;obtain ⟨l,hl,h⟩:=h;split at h
  ·rcases kq h with ⟨_,h⟩|⟨_,h⟩
   ·simp only [qc,qd] at h;obtain ⟨steps,hs,rfl⟩:=h;exact Nq hP hl hs
   ·injection h with h;subst h;trivial
  ·simp only [qc,qd] at h;obtain ⟨steps,hs,rfl⟩:=h;exact Nq (safe:=λ _=>some []) (qs:=(List.range ops.size).map λ i=>(false,i)) hP hl (by rw [rj];exact hs)
 ·cases h
theorem nS (hP:cF P) {nt:Nat}:∀ (c:Code) {kk:Nat} {ac:ah} {L:List df},bH P nt kk c=some (ac,L)->mS ac /\ ∀ lp ∈ L,mS lp.assign/\mS lp.body
 | .skip,kk,ac,L,h=>by injection h with h;injection h with h1 h2;subst h1;subst h2;exact ⟨trivial,by simp⟩
 | .region _ ops draw,kk,ac,L,h=>by
  simp only [bH,qc,qd,xw] at h;obtain ⟨c,hc,rfl,rfl⟩:=h;exact ⟨q39 hP hc,by simp⟩
 | .seq a b,kk,ac,L,h=>by
  simp only [bH,qc,qd,xw] at h;obtain ⟨⟨x,lx⟩,hx,⟨y,ly⟩,hy,rfl,rfl⟩:=h;obtain ⟨a1,a2⟩:=nS hP a hx;obtain ⟨b1,b2⟩:=nS hP b hy;exact ⟨⟨a1,b1⟩,λ lp hl=>by rcases xy.1 hl with hl|hl;exact a2 lp hl;exact b2 lp hl⟩
 | .cond c a b,kk,ac,L,h=>by
  simp only [bH,qc,qd,xw] at h;obtain ⟨cc,_,⟨x,lx⟩,hx,⟨y,ly⟩,hy,rfl,rfl⟩:=h;obtain ⟨a1,a2⟩:=nS hP a hx;obtain ⟨b1,b2⟩:=nS hP b hy;exact ⟨⟨a1,b1⟩,λ lp hl=>by rcases xy.1 hl with hl|hl;exact a2 lp hl;exact b2 lp hl⟩
 | .block id b,kk,ac,L,h=>by
  simp only [bH,qc,qd,xw] at h;obtain ⟨⟨x,lx⟩,hx,rfl,rfl⟩:=h;obtain ⟨b1,b2⟩:=nS hP b hx;exact ⟨b1,b2⟩
 | .loop b,kk,ac,L,h=>by
  simp only [bH,qc,qd,xw] at h;obtain ⟨⟨x,lx⟩,hx,rfl,rfl⟩:=h;obtain ⟨b1,b2⟩:=nS hP b hx;exact ⟨b1,b2⟩
 | .rangeFunc f ps a b,kk,ac,L,h=>by
  simp only [bH,qc] at h;obtain ⟨cc,_,⟨x,lx⟩,hx,⟨y,ly⟩,hy,h⟩:=h;split at h
  ·injection h with h;injection h with h1 h2;subst h1;subst h2
   obtain ⟨a1,a2⟩:=nS hP a hx;obtain ⟨b1,b2⟩:=nS hP b hy;refine ⟨trivial,λ lp hl=>?_⟩;rcases jg.1 hl with rfl|hl
   ·exact ⟨a1,b1⟩
   ·rcases xy.1 hl with hl|hl
    ·exact a2 lp hl
    ·exact b2 lp hl
  ·cases h
 | .exit _,kk,ac,L,h=>by injection h with h;injection h with h1 h2;subst h1;subst h2;exact ⟨trivial,by simp⟩
 | .scope b,kk,ac,L,h=>by
  simp only [bH,qc,qd,xw] at h;obtain ⟨⟨x,lx⟩,hx,rfl,rfl⟩:=h;obtain ⟨b1,b2⟩:=nS hP b hx;exact ⟨b1,b2⟩
 | .label _,kk,ac,L,h=>by injection h with h;injection h with h1 h2;subst h1;subst h2;exact ⟨trivial,by simp⟩
 | .goto _,kk,ac,L,h=>by injection h with h;injection h with h1 h2;subst h1;subst h2;exact ⟨trivial,by simp⟩
 | .ret,kk,ac,L,h=>by injection h with h;injection h with h1 h2;subst h1;subst h2;exact ⟨trivial,by simp⟩
 | .refuse _,kk,ac,L,h=>by injection h with h;injection h with h1 h2;subst h1;subst h2;exact ⟨trivial,by simp⟩
theorem Li (hP:cF P):I8 (ak P):=by
 intro f af h;simp only [ak,qc] at h;obtain ⟨fn,_,h⟩:=h;simp only [nE,qc,qd] at h;obtain ⟨b,_,⟨c,L⟩,hc,_,_,rfl⟩:=h;exact nS hP b hc
theorem KE {nt:Nat}:∀ (c:Code) {kk:Nat} {ac:ah} {L:List df},bH P nt kk c=some (ac,L) -> ∀ l,wG ac l=(findLabel c l).isSome
 | .skip,kk,ac,L,h,l=>by injection h with h;injection h with h1 h2;subst h1;rfl
 | .region _ ops draw,kk,ac,L,h,l=>by
  simp only [bH,qc,qd,xw] at h;obtain ⟨c,hc,rfl,rfl⟩:=h;unfold eP at hc;split at hc
  ·simp only [qc] at hc;obtain ⟨l,hl,hc⟩:=hc;split at hc
   ·rcases kq hc with ⟨_,hc⟩|⟨_,hc⟩
    ·simp only [qc,qd] at hc;obtain ⟨_,_,rfl⟩:=hc;rfl
    ·injection hc with hc;subst hc;rfl
   ·simp only [qc,qd] at hc;obtain ⟨_,_,rfl⟩:=hc;rfl
  ·cases hc
 | .seq a b,kk,ac,L,h,l=>by
  simp only [bH,qc,qd,xw] at h;obtain ⟨⟨x,lx⟩,hx,⟨y,ly⟩,hy,rfl,rfl⟩:=h;have h1:=KE a hx l;have h2:=KE b hy l;simp only [wG,findLabel,h1,h2];cases findLabel a l<;>simp
 | .cond c a b,kk,ac,L,h,l=>by
  simp only [bH,qc,qd,xw] at h;obtain ⟨cc,_,⟨x,lx⟩,hx,⟨y,ly⟩,hy,rfl,rfl⟩:=h;rfl
 | .block id b,kk,ac,L,h,l=>by
  simp only [bH,qc,qd,xw] at h;obtain ⟨⟨x,lx⟩,hx,rfl,rfl⟩:=h;rfl
 | .loop b,kk,ac,L,h,l=>by
  simp only [bH,qc,qd,xw] at h;obtain ⟨⟨x,lx⟩,hx,rfl,rfl⟩:=h;rfl
 | .rangeFunc f ps a b,kk,ac,L,h,l=>by
  simp only [bH,qc] at h;obtain ⟨cc,_,⟨x,lx⟩,hx,⟨y,ly⟩,hy,h⟩:=h;split at h
  ·injection h with h;injection h with h1 h2;subst h1;rfl
  ·cases h
 | .exit _,kk,ac,L,h,l=>by injection h with h;injection h with h1 h2;subst h1;rfl
 | .scope b,kk,ac,L,h,l=>by
  simp only [bH,qc,qd,xw] at h;obtain ⟨⟨x,lx⟩,hx,rfl,rfl⟩:=h;rfl
 | .label l',kk,ac,L,h,l=>by
  injection h with h;injection h with h1 h2;subst h1
  simp only [wG,findLabel]
  by_cases e:l'=l
  ·simp [e]
  ·simp only [BQ,e,qv,II];cases hb:Nat.beq l' l with
   | false=>rfl
   | true=>simp only [zy] at hb;exact absurd hb e
 | .goto _,kk,ac,L,h,l=>by injection h with h;injection h with h1 h2;subst h1;rfl
 | .ret,kk,ac,L,h,l=>by injection h with h;injection h with h1 h2;subst h1;rfl
 | .refuse _,kk,ac,L,h,l=>by injection h with h;injection h with h1 h2;subst h1;rfl
theorem q0y {b:Frame} {a:Act} {body:Code} {k:List Item} {cs:List Frame} {w:World}:step P (lone (b.atR a (.inScope body::k)) cs w)=.next (lone (b.atR a k) cs w) :=
 step_lone_go (by simp [stepG,stepG.exec,Frame.atR])
theorem q4f {b:Frame} {a:Act} {body:Code} {k:List Item} {cs:List Frame} {w:World}:step P (lone (b.atR a (.code (.scope body)::k)) cs w)=.next (lone (b.atR a (.code body::.inScope body::k)) cs w) :=
 step_lone_go (by simp [stepG,stepG.exec,Frame.atR])
theorem Out.pass {D:Nat->Prop} {θ:Th} {b:Frame} {nt:Nat} {rd:Option Nat} {x:Item} (hx:x.plain=true) {k:List Item} {st:St} {cs:List Frame} {w:World} {m:Machine} {e:aE} {st':St} (he:qP e=false)
 (h:Out P base D θ b nt rd (x::k) st cs w m e st'):Out P base D θ b nt rd k st cs w m e st':=by
 obtain ⟨θ',a',w',cs',e',h1,h2,h3,h4,h5,h6⟩:=h;refine ⟨θ',a',w',cs',e',.pass hx (λ _ _=>.inl ?_) h1,h2,h3,h4,h5,h6⟩;intro q;subst q;cases e<;>first|exact h4.elim|cases he
theorem Out.here {D:Nat->Prop} {θ:Th} {b:Frame} {nt:Nat} {rd:Option Nat} {k:List Item} {st:St} {a:Act} {cs:List Frame} {w:World} {m:Machine} {e:aE} {e':Exit} (hS:SR P base D θ b nt rd st a cs w)
 (h1:ArrivesIn iW P m b k cs e' a w) (h2:rJ D θ e e'):Out P base D θ b nt rd k st cs w m e st :=
 ⟨θ,a,w,cs,e',h1,by rw [Up.none];exact hS,ba.refl _ _ _ _,by rw [Up.none];exact h2,rfl,c8.refl hS.up⟩
theorem qpm {w:World} (fn:FuncId) (tmps:Array Value) (ps:Array Tmp) (as body:Code) {l:Nat} {r:Loop} (h:w.heap[l]? = some (.loop r)) :
 (Instr.enterLoop fn tmps ps as body (some l)).run P w=.ok (w.heap.size,[]) (w.alloc (.loop { state:=.ready,pending:=none,fn,tmps,params:=ps,assign:=as,body,defers:=r.defers })):=by
 unfold Instr.enterLoop;simp only [Sem.run_bind,run_getLoop h,run_newObj_alloc,Result.andThen,Sem.run_pure]
theorem qxr {nt:Nat} {c:Code} {kk:Nat} {ac:ah} {L:List df} (h:bH P nt kk c=some (ac,L)) {l:Nat} (hl:wG ac l=false):findLabel c l=none:=by
 rw [KE c h l] at hl
 simpa using hl
theorem qst {b:Frame} {a:Act} {k:List Item} {cs:List Frame} {w:World} (id:Nat):ArrivesIn iW P (lone (b.atR a (.code (.exit id)::k)) cs w) b k cs (.exit id) a w :=
 ⟨λ _ hk=>.one trivial (stepR_exit hk),λ _ hk=>⟨k,hk,.refl _⟩⟩
theorem qsx {b:Frame} {a:Act} {k:List Item} {cs:List Frame} {w:World} (l:Nat):ArrivesIn iW P (lone (b.atR a (.code (.goto l)::k)) cs w) b k cs (.goto l) a w :=
 ⟨λ _ hk=>.one trivial (stepR_goto hk),λ _ hk=>⟨k,hk,.refl _⟩⟩
theorem qw3 {b:Frame} {a:Act} {k:List Item} {cs:List Frame} {w:World}:ArrivesIn iW P (lone (b.atR a (.code .ret::k)) cs w) b k cs .ret a w :=
 ⟨λ hn=>⟨_,.one trivial (stepR_ret hn)⟩,λ _=>⟨k,.refl _⟩⟩
theorem q1z {D:Nat->Prop} {θ:Th} {b:Frame} {a:Act} {k:List Item} {cs:List Frame} {w:World} (p:Option dX):∃ e',rJ D θ (kQ p) e' /\
 ArrivesIn iW P (lone (b.atR a (((p.map hH).map Item.code).toList++k)) cs w) b k cs e' a w:=by
 cases p with
 | none=>exact ⟨.normal,trivial,.refl _⟩
 | some j =>
  cases j with
  | exit id=>exact ⟨.exit id,rfl,qst id⟩
  | goto l=>exact ⟨.goto l,rfl,qsx l⟩
  | ret=>exact ⟨.ret,trivial,qw3⟩
theorem qw1 {call:bB} {round:eQ} {ctx:Ctx} (hcall:wq P base call) {D:Nat->Prop} {θ:Th} {b:Frame} {nt:Nat} {st:St} {a:Act} {cs:List Frame} {w:World} {k:List Item} {H0:AHeap} {aR:List aM} {w0:World} {mark:List Deferred} {d:Nat}
 (hP:cF P) {g:Operand} {ps:Array Tmp} {as body:Code} {kk:Nat} {v:AV} {r:aE × St} {θ0:Th}
 (h0:HR P base (Up D st.H.next H0.next) θ0 H0 w0) (g0:ba D st.H θ w H0 θ0 w0) (hnx:st.H.next<=H0.next) (hS:SR P base D θ b nt ctx.round st a cs w) (hv:VR D θ v (a.eval g)) (hd:Up D st.H.next H0.next d)
 (hdf:dQ (Up D st.H.next H0.next) θ0 aR (mark++a.defers)) (hloop:oq P ctx.fn kk a.tmps.size ps as body) (hfn:b.fn=ctx.fn)
 (he:(Instr.enterLoop b.fn a.tmps ps as body b.roundOf).run P w=.ok (w0.heap.size,mark) (w0.alloc (.loop { state:=.ready,pending:=none,fn:=b.fn,tmps:=a.tmps,params:=ps,assign:=as,body,defers:=θ0.bF d })))
 (hr:eY call round ctx st kk H0 aR d v=some r) (hf:cJ D st.H.next r.2.H.next) (hm:jN call) :
 Out P base D θ b nt ctx.round k st cs w (lone (b.atR a (.code (.rangeFunc g ps as body)::k)) cs w) r.1 r.2:=by
 unfold eY at hr;split at hr
 ·rename_i f first cap
  simp only [bT,jv,qn,qc] at hr;obtain ⟨⟨e,u,H'⟩,hcl,hr⟩:=hr;have hmono:H0.next+1<=H'.next:=(hm _ _ _ _ _ _ _ hcl).1
  have hrn:r.2.H.next=H'.next/\r.2.aR=aR/\r.2.tm=st.tm/\r.2.up=st.up:=by
   unfold Fm at hr;split at hr
   ·injection hr with hr;subst hr;exact ⟨rfl,rfl,rfl,rfl⟩
   ·split at hr
    ·cases hr
    ·injection hr with hr;subst hr;exact ⟨rfl,rfl,rfl,rfl⟩
    ·cases hr
  rw [hrn.1] at hf;have hn:¬ Up D st.H.next H0.next H0.next:=λ q=>by
   rcases q with q|⟨_,q⟩
   ·exact hf _ hnx (by omega) q
   ·omega
  -- the record
  have hag0:=g0.ag;have hag:=Th.dS θ0 H0.next w0.heap.size 0 0 hn
  obtain ⟨e1,e2,e3⟩:=Th.cS θ0 H0.next w0.heap.size 0 0
  have hup1:∀ x,D x->Up (Up D st.H.next H0.next) H0.next (H0.next+1) x:=λ x hx=>.inl (.inl hx)
  have hDl:Up (Up D st.H.next H0.next) H0.next (H0.next+1) H0.next:=.inr ⟨qh _,zn _⟩
  have hagd:Ag D θ (θ0.add H0.next w0.heap.size 0 0):=hag0.trans hag (λ x hx=>.inl hx);have hR:jL P (Up (Up D st.H.next H0.next) H0.next (H0.next+1)) (θ0.add H0.next w0.heap.size 0 0) H0.next (.loop .ready none ctx.fn kk st.tm d)
   (.loop { state:=.ready,pending:=none,fn:=b.fn,tmps:=a.tmps,params:=ps,assign:=as,body,defers:=θ0.bF d }) :=
   ⟨_,rfl,rfl,rfl,hfn,hS.nO.up hagd hup1,hloop,.inl hd,((hag d hd).1).symm⟩
  have h1:=h0.alloc hn (w':=w0.alloc (.loop { state:=.ready,pending:=none,fn:=b.fn,tmps:=a.tmps,params:=ps,assign:=as,body,defers:=θ0.bF d })) (co:=.loop { state:=.ready,pending:=none,fn:=b.fn,tmps:=a.tmps,params:=ps,assign:=as,body,defers:=θ0.bF d }) (k:=w0.heap.size) (off:=0) (ext:=0) (by rw [vL];simp)
   (λ j hj=>by rw [vL,qe (EB hj)]) (qh _) (by simp) hR
  have g1:=ba.alloc (base:=base) h0 hn (.loop .ready none ctx.fn kk st.tm d) (.loop { state:=.ready,pending:=none,fn:=b.fn,tmps:=a.tmps,params:=ps,assign:=as,body,defers:=θ0.bF d }) 0 0
  -- the call
  obtain ⟨fi,ci,q3,q4,q5,q6⟩:=Jj hv;have hargs:bz (Up (Up D st.H.next H0.next) H0.next (H0.next+1)) (θ0.add H0.next w0.heap.size 0 0) (first++(.fn (.yield H0.next) [] []::cap)) ((fi.toArray ++ #[Value.func (.yield w0.heap.size) #[] #[]])++ci.toArray).toList:=by
   simp only [Array.toList_append,zi];refine (q4.up hagd hup1).app (.cons (λ θ'' h''=>?_) (q5.up hagd hup1));simp only [aD,db,bt];rw [(h'' _ hDl).1,e1]
  obtain ⟨⟨fn,c,k1,k2⟩,θ',w',cs',fr,e',s1,s2,s3,s4,s5,s6,s7,s8,s9,s10⟩:=hcall _ _ _ _ f _ ((fi.toArray ++ #[Value.func (.yield w0.heap.size) #[] #[]])++ci.toArray) none H' e u .normal
   (b.atR { a with defers:=mark++a.defers } (.inRangeFunc w0.heap.size::k)::cs) h1 hargs rfl hcl (λ x h3 h4 h5=>by
    rw [Up.up hnx (ki _)] at h5;rcases h5 with h5|⟨_,h5⟩
    ·exact hf x (by have:H0.next+1<=x:=h3;omega) h4 h5
    ·have:H0.next+1<=x:=h3;omega)
  have hcs:cs'=b.atR { a with defers:=mark++a.defers } (.inRangeFunc w0.heap.size::k)::cs:=s9;subst hcs;have hstep:=stepR_rangeFunc (P:=P) (b:=b) (a:=a) (k:=k) (cs:=cs) (w:=w) (g:=g) (l:=w0.heap.size) (d:={ target:=.fn (.func f) ci.toArray,args:=fi.toArray ++ #[Value.func (.yield w0.heap.size) #[] #[]] }) he
   (by
   show (Deferred.ofValue (a.eval g) (#[Operand.const (.func (.yield w0.heap.size) #[] #[])].map a.eval)).run P _=_;rw [q3];simp [Deferred.ofValue,db,Act.eval];rfl) (by
    show (callFunc f (_++ci.toArray)).run P _=_;exact G5 hP k1 k2)
  have hl:=J2 s4 s2;have hupa:Up (Up (Up D st.H.next H0.next) H0.next (H0.next+1)) (H0.next+1) H'.next=Up D st.H.next H'.next:=by
   rw [Up.up (ki _) hmono,Up.up hnx (by omega)]
  have hnext1:(H0.alloc (.loop .ready none ctx.fn kk st.tm d)).next=H0.next+1:=rfl
  rw [hnext1,hupa] at s5 s6 s10;have gall:ba D st.H θ w H' θ' w':=(g0.trans g1 Up.of).trans s7 hup1;have hDup:∀ x,Up D st.H.next H0.next x->Up D st.H.next H'.next x:=λ x hx=>by
   rcases hx with hx|⟨h1,h2⟩
   ·exact .inl hx
   ·exact .inr ⟨h1,by omega⟩
  have hagf:Ag (Up D st.H.next H0.next) θ0 θ':=hag.trans s7.ag (λ x hx=>.inl hx);have hSR:∀ (H'':AHeap) (w'':World),HR P base (Up D st.H.next H'.next) θ' H'' w''->SR P base (Up D st.H.next H'.next) θ' b nt ctx.round { st with aR:=aR,H:=H'' } { a with defers:=mark++a.defers } cs w'':=λ H'' w'' hh =>
   ⟨hh,hS.nO.up gall.ag Up.of,hS.size,dQ.up hagf hDup hdf,kJ.up gall.ag Up.of hS.up,qU.up gall.ag Up.of hS.round⟩
  unfold Fm at hr;cases e with
  | panic ch =>
   injection hr with hr;subst hr
   cases e' with
   | returned _=>exact s5.elim
   | outgrown=>exact s5.elim
   | panicked ps' =>
    refine ⟨θ',_,w',cs,.panic ps',⟨.inRangeFunc w0.heap.size::k,StepsIn.of_steps (.head hstep (s1.trans (.one (by rw [step_leave_panicked hl,Frame.raise_atR]))))⟩,hSR _ _ s6,gall,s5,rfl,c8.refl hS.up⟩
  | ret x =>
   cases e' with
   | panicked _=>exact s5.elim
   | outgrown=>exact s5.elim
   | returned cx =>
    have hback:Steps P (lone (b.atR a (.code (.rangeFunc g ps as body)::k)) cs w) (lone (b.atR { a with defers:=mark++a.defers } (.endRangeFunc w0.heap.size::k)) cs w'):=by
     exact .head hstep (s1.trans (.one (by rw [step_leave_returned hl,finish_atR_inRangeFunc])))
    simp only at hr;split at hr
    ·cases hr
    ·rename_i ls p f2 k2' tm2 d2 hnb hget;injection hr with hr;subst hr
     obtain ⟨hDl',co,hco,rl,rfl,r1,r2,r3,r4,r5,r6,r7⟩:=s6.obj _ _ hget;have hblk:θ'.bF H0.next=w0.heap.size:=by rw [(s7.ag _ hDl).1,e1]
     rw [hblk] at hco;have hbusy:rl.state ≠ .busy:=by
      intro q;rw [r1] at q;cases ls with
      | busy=>first|exact hnb _ _ _ _ _ rfl|exact hnb rfl|exact hnb
      | ready=>cases q
      | done=>cases q
      | exhausted=>cases q
     have hend:=run_endLoop (P:=P) hco hbusy;have hend2:=stepR_endRangeFunc (b:=b) (a:={ a with defers:=mark++a.defers }) (k:=k) (cs:=cs) hend;have hset:=s6.set (o':=.loop .exhausted p f2 k2' tm2 d2) (co':=.loop { rl with state:=.exhausted }) hget rfl rfl ⟨_,rfl,rfl,r2,r3,r4,r5,r6,r7⟩;rw [hblk] at hset;have gset:ba (Up D st.H.next H'.next) H' θ' w' (H'.set H0.next (.loop .exhausted p f2 k2' tm2 d2)) θ' (dB w' (θ'.bF H0.next) (.loop { rl with state:=.exhausted })):=ba.set hget rfl (s6.lt hget);rw [hblk] at gset;obtain ⟨e'',k3,k4⟩:=q1z (P:=P) (D:=Up D st.H.next H'.next) (θ:=θ') (b:=b) (a:={ a with defers:=mark++a.defers }) (k:=k) (cs:=cs) (w:=dB w' w0.heap.size (.loop { rl with state:=.exhausted })) p;rw [<-r2] at k4;exact ⟨θ',_,_,cs,e'',.of_steps (StepsIn.of_steps (hback.trans (.one hend2))) k4,hSR _ _ hset,gall.trans gset Up.of,k3,rfl,c8.refl hS.up⟩
    ·cases hr
 ·cases hr
theorem Out.normal {D:Nat->Prop} {θ:Th} {b:Frame} {nt:Nat} {rd:Option Nat} {k:List Item} {st:St} {cs:List Frame} {w:World} {m:Machine} {st':St} (h:Out P base D θ b nt rd k st cs w m .normal st') :
 ∃ θ' a' w' cs',Steps P m (lone (b.atR a' k) cs' w')/\SR P base (Up D st.H.next st'.H.next) θ' b nt rd st' a' cs' w'/\ba D st.H θ w st'.H θ' w'/\st'.up.isSome=st.up.isSome/\c8 st.up cs cs':=by
 obtain ⟨θ',a',w',cs',e',h1,h2,h3,h4,h5,h6⟩:=h;cases e'<;>first|exact ⟨θ',a',w',cs',StepsIn.steps h1,h2,h3,h5,h6⟩|exact h4.elim
theorem Out.head {D:Nat->Prop} {θ:Th} {b:Frame} {nt:Nat} {rd:Option Nat} {k:List Item} {st:St} {cs:List Frame} {w:World} {m m1:Machine} {e:aE} {st':St} (hs:step P m=.next m1)
 (h:Out P base D θ b nt rd k st cs w m1 e st'):Out P base D θ b nt rd k st cs w m e st':=by
 obtain ⟨θ',a',w',cs',e',h1,h2,h3,h4,h5,h6⟩:=h;exact ⟨θ',a',w',cs',e',.of_steps (StepsIn.one trivial hs) h1,h2,h3,h4,h5,h6⟩
theorem qo0 (id id':Nat) (k:List Item):exitTo id' (.inBlock id::k)=if id=id' then some k else exitTo id' k:=by
 simp [exitTo]
theorem FK {α:Type} (a b:List α) (i:Nat):nth (a++b) i=if i<a.length then nth a i else nth b (i-a.length):=by
 simp only [iS,List.getElem?_append]
set_option maxHeartbeats 1000000 in
theorem rk (hP:cF P) {rt:RT} (hcall:wq P base rt.call) (hround:oQ P base rt.round) (hAP:rt.AP=ak P) (hcm:jN rt.call) (hrm:qH rt.round) (hdraw:Gk P base rt)
 {fn:Func} {af:av} (hfn:P.funcs[rt.ctx.fn]? = some fn) (haf:nE P fn=some af):∀ (c:Code) {kk:Nat} {ac:ah} {L:List df},bH P fn.ntmps kk c=some (ac,L)->(∀ i l,nth L i=some l->nth af.loops (kk+i)=some l) ->
 ∀ {D:Nat->Prop} {θ:Th} {b:Frame} {k:List Item} {st:St} {a:Act} {cs:List Frame} {w:World} {r:aE × St},SR P base D θ b fn.ntmps rt.ctx.round st a cs w->b.fn=rt.ctx.fn->(bf ac).run rt st=some r ->
  cJ D st.H.next r.2.H.next->Out P base D θ b fn.ntmps rt.ctx.round k st cs w (lone (b.atR a (.code c::k)) cs w) r.1 r.2
 | .skip,kk,ac,L,h,hL,D,θ,b,k,st,a,cs,w,r,hS,hb,hr,hf=>by
  injection h with h;injection h with h1 h2;subst h1
  injection hr with hr;subst hr
  exact .here hS (e':=.normal) (StepsIn.one trivial stepR_skip) trivial
 | .label _,kk,ac,L,h,hL,D,θ,b,k,st,a,cs,w,r,hS,hb,hr,hf=>by
  injection h with h;injection h with h1 h2;subst h1
  injection hr with hr;subst hr
  exact .here hS (e':=.normal) (StepsIn.one trivial stepR_label) trivial
 | .exit id,kk,ac,L,h,hL,D,θ,b,k,st,a,cs,w,r,hS,hb,hr,hf=>by
  injection h with h;injection h with h1 h2;subst h1
  injection hr with hr;subst hr
  exact .here hS (qst id) rfl
 | .goto l,kk,ac,L,h,hL,D,θ,b,k,st,a,cs,w,r,hS,hb,hr,hf=>by
  injection h with h;injection h with h1 h2;subst h1
  injection hr with hr;subst hr
  exact .here hS (qsx l) rfl
 | .ret,kk,ac,L,h,hL,D,θ,b,k,st,a,cs,w,r,hS,hb,hr,hf=>by
  injection h with h;injection h with h1 h2;subst h1
  injection hr with hr;subst hr
  exact .here hS qw3 trivial
 | .refuse _,kk,ac,L,h,hL,D,θ,b,k,st,a,cs,w,r,hS,hb,hr,hf=>by
  injection h with h;injection h with h1 h2;subst h1
  cases hr
 | .region id ops draw,kk,ac,L,h,hL,D,θ,b,k,st,a,cs,w,r,hS,hb,hr,hf=>by
  simp only [bH,qc,qd,xw] at h;obtain ⟨c,hc,rfl,rfl⟩:=h;cases draw with
  | false =>
   obtain ⟨l,steps,h1,h2,h3,rfl⟩:=q69 hc;exact .head stepR_region (qy0 hP hcall hround hAP hcm hrm h1 h2 _ h3 hS hr hf)
  | true=>exact hdraw _ id ops c hc D θ b k st a cs w r hS hr hf
 | .seq x y,kk,ac,L,h,hL,D,θ,b,k,st,a,cs,w,r,hS,hb,hr,hf=>by
  simp only [bH,qc,qd,xw] at h;obtain ⟨⟨ax,lx⟩,hx,⟨ay,ly⟩,hy,rfl,rfl⟩:=h;simp only [bf,qc] at hr;obtain ⟨⟨e,bV⟩,hq,hr⟩:=hr;have hmy:=(nS hP y hy).1;have hmx:=FL hcm hrm (nS hP x hx).1 hq;have hLx:∀ i l,nth lx i=some l->nth af.loops (kk+i)=some l:=λ i l hl=>hL i l (by
   rw [FK,qm]
   ·exact hl
   ·rw [iS] at hl;exact (qj.1 hl).1)
  have hLy:∀ i l,nth ly i=some l->nth af.loops (kk+lx.length+i)=some l:=λ i l hl=>by
   rw [vh];exact hL (lx.length+i) l (by
    show nth (lx++ly) (lx.length+i)=_;rw [FK,qe (by omega),yc];exact hl)
  refine .head stepR_seq ?_
  by_cases he:e=.normal
  ·subst he;simp only [ng] at hr;have hmono:=FL hcm hrm hmy hr;obtain ⟨θ',a',w',cs',h1,h2,h3,h4,h5⟩:=(rk hP hcall hround hAP hcm hrm hdraw hfn haf x hx hLx (k:=.code y::k) hS hb hq (hf.left hmono)).normal;exact Out.after h1 h3 h4 h5 hmono (rk hP hcall hround hAP hcm hrm hdraw hfn haf y hy hLy h2 hb hr (hf.right hmx))
  ·have hn:qP e=false:=by cases e<;>first|rfl|exact absurd rfl he
   have hr':r=(e,bV):=by
    cases e<;>first|exact absurd rfl he|(injection hr with hr;exact hr.symm)
   subst hr';exact Out.pass (x:=.code y) rfl hn (rk hP hcall hround hAP hcm hrm hdraw hfn haf x hx hLx hS hb hq hf)
 | .cond c x y,kk,ac,L,h,hL,D,θ,b,k,st,a,cs,w,r,hS,hb,hr,hf=>by
  simp only [bH,qc,qd,xw] at h;obtain ⟨cc,hcc,⟨ax,lx⟩,hx,⟨ay,ly⟩,hy,rfl,rfl⟩:=h;simp only [bf,qc] at hr;obtain ⟨v,hv,hr⟩:=hr;rw [Bz] at hv;have hvr:=vV (a:=a) hS.heap hS.nO hcc hv;have hLx:∀ i l,nth lx i=some l->nth af.loops (kk+i)=some l:=λ i l hl=>hL i l (by
   rw [FK,qm]
   ·exact hl
   ·rw [iS] at hl;exact (qj.1 hl).1)
  have hLy:∀ i l,nth ly i=some l->nth af.loops (kk+lx.length+i)=some l:=λ i l hl=>by
   rw [vh];exact hL (lx.length+i) l (by
    show nth (lx++ly) (lx.length+i)=_;rw [FK,qe (by omega),yc];exact hl)
  unfold m8 at hr;split at hr
  ·rename_i q;refine .head (stepR_cond hvr.now.symm) ?_;cases q with
   | true=>exact rk hP hcall hround hAP hcm hrm hdraw hfn haf x hx hLx hS hb hr hf
   | false=>exact rk hP hcall hround hAP hcm hrm hdraw hfn haf y hy hLy hS hb hr hf
  ·cases hr
 | .block id x,kk,ac,L,h,hL,D,θ,b,k,st,a,cs,w,r,hS,hb,hr,hf=>by
  simp only [bH,qc,qd,xw] at h;obtain ⟨⟨ax,lx⟩,hx,rfl,rfl⟩:=h;simp only [bf,qc] at hr;obtain ⟨⟨e,bV⟩,hq,hr⟩:=hr;have hst:r.2=bV:=by
   unfold fO at hr;split at hr<;>(injection hr with hr;subst hr;rfl)
  obtain ⟨θ',a',w',cs',e',h1,h2,h3,h4,h5,h6⟩:=rk hP hcall hround hAP hcm hrm hdraw hfn haf x hx hL (k:=.inBlock id::k) hS hb hq (hst ▸ hf);refine .head stepR_block ?_;rw [hst];unfold fO at hr;cases e with
  | normal =>
   injection hr with hr;subst hr
   cases e'<;>try exact h4.elim
   exact ⟨θ',a',w',cs',.normal,StepsIn.trans h1 (.one trivial stepR_inBlock),h2,h3,trivial,h5,h6⟩
  | exit id' =>
   injection hr with hr;subst hr
   cases e'<;>try exact h4.elim
   rename_i j;have h4:j=id':=h4;subst h4;cases hbq:Nat.beq id j with
   | true =>
    simp only [zy] at hbq;subst hbq;exact ⟨θ',a',w',cs',.normal,h1.1 k (by rw [qo0,qm rfl]),h2,h3,trivial,h5,h6⟩
   | false =>
    have hne:¬ id=j:=by intro q;subst q;simp at hbq
    have hx:exitTo j (.inBlock id::k)=exitTo j k:=by rw [qo0,qe hne]
    exact ⟨θ',a',w',cs',.exit j,⟨λ k' hk=>h1.1 k' (by rw [hx];exact hk),λ hr hk=>h1.2 hr (by rw [hx];exact hk)⟩,h2,h3,rfl,h5,h6⟩
  | goto l =>
   injection hr with hr;subst hr
   cases e'<;>try exact h4.elim
   rename_i j;have hx:gotoIn j (.inBlock id::k)=gotoIn j k:=rfl;exact ⟨θ',a',w',cs',.goto j,⟨λ k' hk=>h1.1 k' (by rw [hx];exact hk),λ hr hk=>h1.2 hr (by rw [hx];exact hk)⟩,h2,h3,h4,h5,h6⟩
  | ret =>
   injection hr with hr;subst hr
   cases e'<;>try exact h4.elim
   exact ⟨θ',a',w',cs',.ret,h1,h2,h3,trivial,h5,h6⟩
  | panic ch =>
   injection hr with hr;subst hr
   cases e'<;>try exact h4.elim
   rename_i ps;exact ⟨θ',a',w',cs',.panic ps,h1,h2,h3,h4,h5,h6⟩
 | .scope x,kk,ac,L,h,hL,D,θ,b,k,st,a,cs,w,r,hS,hb,hr,hf=>by
  simp only [bH,qc,qd,xw] at h;obtain ⟨⟨ax,lx⟩,hx,rfl,rfl⟩:=h;simp only [bf,qc] at hr;obtain ⟨⟨e,bV⟩,hq,hr⟩:=hr;have hst:r=(e,bV) /\ ∀ l,e=.goto l->wG ax l=false:=by
   unfold gB at hr;split at hr
   ·rename_i l he;simp only at he;rcases kq hr with ⟨_,hr⟩|⟨hl,hr⟩
    ·cases hr
    ·injection hr with hr;subst he;exact ⟨hr.symm,λ l' h'=>by injection h' with h';subst h';exact hl⟩
   ·rename_i hne;injection hr with hr;exact ⟨hr.symm,λ l' h'=>(hne l' h').elim⟩
  obtain ⟨rfl,hlab⟩:=hst;obtain ⟨θ',a',w',cs',e',h1,h2,h3,h4,h5,h6⟩:=rk hP hcall hround hAP hcm hrm hdraw hfn haf x hx hL (k:=.inScope x::k) hS hb hq hf;refine .head q4f ?_;cases e with
  | normal =>
   cases e'<;>try exact h4.elim
   exact ⟨θ',a',w',cs',.normal,StepsIn.trans h1 (.one trivial q0y),h2,h3,trivial,h5,h6⟩
  | exit id' =>
   cases e'<;>try exact h4.elim
   rename_i j;have hx:exitTo j (.inScope x::k)=exitTo j k:=rfl;exact ⟨θ',a',w',cs',.exit j,⟨λ k' hk=>h1.1 k' (by rw [hx];exact hk),λ hr hk=>h1.2 hr (by rw [hx];exact hk)⟩,h2,h3,h4,h5,h6⟩
  | goto l =>
   cases e'<;>try exact h4.elim
   rename_i j;have h4:j=l:=h4;subst h4;have hfl:=qxr hx (hlab j rfl);have hg:gotoIn j (.inScope x::k)=gotoIn j k:=by simp [gotoIn,hfl]
   exact ⟨θ',a',w',cs',.goto j,⟨λ k' hk=>h1.1 k' (by rw [hg];exact hk),λ hr hk=>h1.2 hr (by rw [hg];exact hk)⟩,h2,h3,rfl,h5,h6⟩
  | ret =>
   cases e'<;>try exact h4.elim
   exact ⟨θ',a',w',cs',.ret,h1,h2,h3,trivial,h5,h6⟩
  | panic ch =>
   cases e'<;>try exact h4.elim
   rename_i ps;exact ⟨θ',a',w',cs',.panic ps,h1,h2,h3,h4,h5,h6⟩
 | .loop x,kk,ac,L,h,hL,D,θ,b,k,st,a,cs,w,r,hS,hb,hr,hf=>by
  simp only [bH,qc,qd,xw] at h;obtain ⟨⟨ax,lx⟩,hx,rfl,rfl⟩:=h;simp only [bf] at hr;refine .head stepR_loop ?_;have hmx:=(nS hP x hx).1;have key:∀ (n:Nat) (D:Nat->Prop) (θ:Th) (st:St) (a:Act) (cs:List Frame) (w:World) (r:aE × St),SR P base D θ b fn.ntmps rt.ctx.round st a cs w->dI none ((bf ax).run rt) n st=some r->cJ D st.H.next r.2.H.next ->
   Out P base D θ b fn.ntmps rt.ctx.round k st cs w (lone (b.atR a (.code x::.inLoop x::k)) cs w) r.1 r.2:=by
   intro n
   induction n with
   | zero=>intro D θ st a cs w r _ hr _;cases hr
   | succ n ih =>
    intro D θ st a cs w r hS hr hf;simp only [dI,qc] at hr;obtain ⟨⟨e,bV⟩,hq,hr⟩:=hr;have hm1:=FL hcm hrm hmx hq
    by_cases he:e=.normal
    ·subst he;simp only at hr;have hmono:=q6v (λ st r h=>rC hcm hrm hmx h) none n _ _ hr;obtain ⟨θ',a',w',cs',h1,h2,h3,h4,h5⟩:=(rk hP hcall hround hAP hcm hrm hdraw hfn haf x hx hL (k:=.inLoop x::k) hS hb hq (hf.left hmono)).normal;exact Out.after (h1.trans (.one stepR_inLoop)) h3 h4 h5 hmono (ih _ θ' bV a' cs' w' r h2 hr (hf.right hm1))
    ·have hn:qP e=false:=by cases e<;>first|rfl|exact absurd rfl he
     have hr':r=(e,bV):=by
      cases e<;>first|exact absurd rfl he|(injection hr with hr;exact hr.symm)
     subst hr';exact Out.pass (x:=.inLoop x) rfl hn (rk hP hcall hround hAP hcm hrm hdraw hfn haf x hx hL hS hb hq hf)
  exact key _ D θ st a cs w r hS hr hf
 | .rangeFunc g ps x y,kk,ac,L,h,hL,D,θ,b,k,st,a,cs,w,r,hS,hb,hr,hf=>by
  simp only [bH,qc] at h;obtain ⟨cg,hcg,⟨ax,lx⟩,hx,⟨ay,ly⟩,hy,h⟩:=h;split at h
  ·rename_i hps;have hps:∀ p ∈ ps.toList,p<fn.ntmps:=λ p hp=>by
    rw [BN] at hps
    simpa [mX] using hps p hp
   injection h with h;injection h with h1 h2;subst h1;subst h2
   simp only [bf,qc] at hr;obtain ⟨v,hv,hr⟩:=hr;rw [Bz] at hv;have hvr:=vV (a:=a) hS.heap hS.nO hcg hv;have hloop:oq P rt.ctx.fn kk a.tmps.size ps x y:=by
    refine ⟨fn,af,_,kk+1,kk+1+lx.length,lx,ly,hfn,haf,hL 0 _ rfl,rfl,hps,hS.size,hx,λ i l hl=>?_,hy,λ i l hl=>?_⟩
    ·rw [vh];refine hL (1+i) l ?_;rw [Nat.add_comm 1 i,iS,zx,<-iS,FK,qm]
     ·exact hl
     ·rw [iS] at hl;exact (qj.1 hl).1
    ·rw [vh,vh];refine hL (1+(lx.length+i)) l ?_;rw [Nat.add_comm 1 _,iS,zx,<-iS];show nth (lx++ly) (lx.length+i)=_;rw [FK,qe (by omega),yc];exact hl
   unfold kG at hr;split at hr
   ·rename_i hnone;have hro:b.roundOf=none:=by have:=hS.round;rw [hnone] at this;exact this
    have hmono:st.H.next+1<=r.2.H.next:=by
     have:(st.H.alloc (.deferred (some []))).next<=r.2.H.next:=q38 (st:={ st with H:=st.H.alloc (.deferred (some [])) }) hcm (Ext.refl _) hr
     exact this
    have hn:¬ D st.H.next:=hf _ (qh _) hmono
    have hag:=Th.dS θ st.H.next w.heap.size 0 0 hn
    obtain ⟨e1,e2,e3⟩:=Th.cS θ st.H.next w.heap.size 0 0
    have hDn:Up D st.H.next (st.H.next+1) st.H.next:=.inr ⟨qh _,zn _⟩
    have h0:=hS.heap.alloc hn (w':=w.alloc (.deferred (some []))) (co:=.deferred (some [])) (o:=.deferred (some [])) (k:=w.heap.size) (off:=0) (ext:=0) (by rw [vL];simp)
     (λ j hj=>by rw [vL,qe (EB hj)]) (qh _) (by simp) ⟨some [],rfl,rfl,rfl⟩
    have g0:=ba.alloc (base:=base) hS.heap hn (.deferred (some [])) (.deferred (some [])) 0 0;refine qw1 hcall hP (H0:=st.H.alloc (.deferred (some []))) (aR:=.eU st.H.next::st.aR) (d:=st.H.next) (mark:=[{ target:=.collected w.heap.size,args:=#[] }]) h0 g0 (ki _) hS hvr hDn ⟨⟨hDn,by rw [e1]⟩,dQ.up hag Up.of hS.aR⟩ hloop hb ?_ hr hf hcm;rw [hro,run_enterLoop_outer,e1];simp
   ·rename_i l hl;simp only [qc] at hr;obtain ⟨d,hd,hr⟩:=hr;unfold sg at hd;split at hd
    ·rename_i f2 k2 tm2 d2 hget;injection hd with hd;subst hd
     obtain ⟨hDl,co,hco,rl,rfl,r1,r2,r3,r4,r5,r6,r7⟩:=hS.heap.obj _ _ hget;have hro:b.roundOf=some (θ.bF l):=by have:=hS.round;rw [hl] at this;exact this.2
     refine qw1 hcall hP (mark:=[]) (d:=d2) (by rw [Up.none];exact hS.heap) (ba.refl _ _ _ _) (qh _) hS hvr (by rw [Up.none];exact r6) (by rw [Up.none];exact hS.aR) hloop hb ?_ hr hf hcm;rw [hro,qpm _ _ _ _ _ hco,r7]
    ·cases hd
  ·cases h
end
end Go.Am
