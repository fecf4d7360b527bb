/- B2: Effects Effects2 EffMono Ops Step Step2 Run Region Code. -/
import Derived.Test.YtiibohocdbaekaaGreatAmCB1
import Derived.Deep.Upon
import Derived.Lib.UnsafeStr
import Derived.Defers
import Derived.RangeFuncRecord
import Derived.ControlIn
import Derived.RangeFuncIn
set_option linter.unusedVariables false
set_option linter.unusedSimpArgs false
namespace Go.Am
def rY (P:Program) (o:Oper) (xs:List Operand) (f:List AV->AHeap->Option (AV × AHeap)):Prop :=
 ∀ base (D:Nat->Prop) θ H (ρ:Operand->Value) w vs v H',HR P base D θ H w->bt D θ vs (xs.map ρ)->f vs H=some (v,H')->cK D H.next H'.next ->
  ∃ θ' w' c,pH P (execOp ρ o) w c w'/\HR P base (Up D H.next H'.next) θ' H' w'/\aX D H θ w H' θ' w'/\VR (Up D H.next H'.next) θ' v c
section
variable {P:Program} {base:Nat} {D:Nat->Prop} {θ:Th} {H:AHeap} {w:World}
theorem qzj {fz:Nat × Nat} {o n:Nat} (h:cN fz o n=true):∀ j,j<n -> ¬ (fz.1<=o+j/\o+j<fz.2):=by
 intro j hj;unfold cN at h;simp only [yj,yr,zp] at h;omega
theorem qyt (pre cs post new:List Value) (o:Nat) (h:o+new.length<=cs.length) :
 ((pre++cs++post).toArray.toList.take (pre.length+o)++new++(pre++cs++post).toArray.toList.drop (pre.length+o+new.length))=pre++(cs.take o++new++cs.drop (o+new.length))++post:=by
 have e1:(pre++cs++post).take (pre.length+o)=pre++cs.take o:=by
  rw [zf,Gk,Gk];have:pre.length+o-pre.length-cs.length=0:=by omega
  rw [zj (by omega),this,show pre.length+o-pre.length=o from by omega];simp
 have e2:(pre++cs++post).drop (pre.length+o+new.length)=cs.drop (o+new.length)++post:=by
  rw [zf,yp,List.drop_of_length_le (by omega),yp];have:pre.length+o+new.length-pre.length-cs.length=0:=by omega
  rw [this,show pre.length+o+new.length-pre.length=o+new.length from by omega];simp
 simp only [List.toList_toArray];rw [e1,e2];simp
theorem HR.store (hh:HR P base D θ H w) {b o:Nat} {new:List AV} {cs:List Value} {H':AHeap} (hv:bt D θ new cs) (h:H.store b o new=some H') :
 ∃ w',(storeCells ⟨θ.bz b,θ.off b+o,none⟩ cs).run P w=.ok () w'/\HR P base D θ H' w'/\aX D H θ w H' θ w'/\H'.next=H.next:=by
 unfold AHeap.store at h;cases hone:aO new with
 | false=>rw [hone] at h;cases h
 | true =>
  rw [hone] at h;simp only [xf] at h;have h1:=qrt hv hone;have hlen:=hv.length;split at h
  ·rename_i c e fz hg;obtain ⟨hd,co,hc,hr⟩:=hh.obj b _ hg;obtain ⟨pre,ccs,post,cfz,et,rfl,h2,h3,h4⟩:=hr;obtain ⟨rfl,rfl,rfl,hfz⟩:=h4 rfl;have hl3:=h3.length;cases ht:cN fz o (bL new) with
   | false=>rw [ht] at h;cases h
   | true =>
    rw [ht] at h;simp only [xf,Ae] at h;split at h
    ·rename_i hle;simp only [qj,qc] at h;subst h;have hthaw:=qzj ht;rw [Cq] at hthaw;have hst:=K0 (P:=P) (θ.off b+o) cs 0 _ w hc (by simp [<-h2];simp at h2;omega) (λ j hj=>by
      have:=hthaw j (by omega);simp only [vq] at h2;rcases hfz with hfz|⟨f1,f2⟩<;>omega) h1
     rw [qh,<-h2,qyt [] ccs [] cs o (by omega)] at hst;rw [<-h2];refine ⟨_,hst,?_,?_,rfl⟩
     ·refine hh.set hg rfl rfl ⟨[],ccs.take o++cs++ccs.drop (o+cs.length),[],cfz,_,rfl,h2,?_,λ _=>⟨rfl,rfl,rfl,hfz⟩⟩;rw [hlen];exact ((h3.take o).app hv).app (h3.drop _)
     ·exact aX.set hg rfl (hh.lt hg)
    ·cases h
  ·rename_i m s c e fz hg;obtain ⟨hd,co,hc,hr⟩:=hh.obj b _ hg;obtain ⟨pre,ccs,post,cfz,rfl,h2,h3,h4,h5,h6,h7,h8⟩:=hr;have hl3:=h3.length;cases ht:cN fz o (bL new) with
   | false=>rw [ht] at h;cases h
   | true =>
    rw [ht] at h;simp only [xf,Ae] at h;split at h
    ·rename_i hle;simp only [qj,qc] at h;subst h;have hthaw:=qzj ht;rw [Cq] at hthaw;have hst:=K0 (P:=P) (θ.off b+o) cs 0 _ w hc (by simp;omega) (λ j hj=>by
      have:=hthaw j (by omega);unfold Dg at h8;omega) h1
     rw [qh,<-h2,qyt pre ccs post cs o (by omega)] at hst;rw [<-h2];refine ⟨_,hst,?_,?_,rfl⟩
     ·have hnl:(ccs.take o++cs++ccs.drop (o+cs.length)).length=ccs.length:=by simp;omega
      refine hh.set hg rfl rfl ⟨pre,ccs.take o++cs++ccs.drop (o+cs.length),post,cfz,rfl,h2,?_,?_,h5,h6,h7,?_⟩
      ·rw [hlen];exact ((h3.take o).app hv).app (h3.drop _)
      ·simp;omega
      ·rw [hnl];exact h8
     ·exact aX.set hg rfl (hh.lt hg)
    ·cases h
  ·cases h
theorem q5q {o:Oper} {t:TypeId} {x y:Operand} {n:Nat} (ho:o.op=.store t x y) (hs:bF P t=some n):rY P o [x,y] (Op.store n):=by
 intro base D θ H ρ w vs v H' hh h hv hfr;unfold Op.store at hv;split at hv
 ·rename_i b off a;obtain ⟨x',y',he,ha,hb⟩:=h.qI;simp only [zi,od] at he;obtain ⟨rfl,rfl⟩:=he;cases hn:Nat.beq (bL a.cells) n with
  | false=>rw [hn] at hv;cases hv
  | true =>
   rw [hn] at hv;simp only [xf,qb,qc,xn] at hv;obtain ⟨H1,h1,rfl,rfl⟩:=hv;obtain ⟨w',g1,g2,g3,g4⟩:=hh.store hb.cells h1;have hl:=hb.cells.length;simp only [Cq,zp] at hn;have hsz:(ρ y).cells.size=n:=by rw [<-yc];omega
   refine ⟨θ,w',_,.inr ⟨?_,rfl⟩,by rw [g4,Up.none];exact g2,g3,.undef⟩;simp only [execOp,ho,<-ha.now,aB,Instr.storeAt,Instr.sureAddr,storeVar,Sem.run_bind,Sem.run_pure,Result.andThen_ok,qC hs,hsz,ne_eq,not_true_eq_false,qo,g1]
 ·cases hv
theorem cM.get {D:Nat->Prop} {θ:Th}:∀ (es:List (AV × AV × Nat)) (ms:List MapEntry) (i:Nat) (e:AV × AV × Nat),cM D θ es ms->es[i]? = some e -> ∃ m,ms[i]? = some m/\I4 D θ e m
 | _::_,m::_,0,e,⟨h,_⟩,he=>⟨m,rfl,by simp at he;subst he;exact h⟩
 | _::es,_::ms,i+1,e,⟨_,h⟩,he=>by simpa using cM.get es ms i e h (by simpa using he)
 | [],_,_,_,_,he=>by simp at he
 | _::_,[],_,_,h,_=>h.elim
theorem cM.modify {D:Nat->Prop} {θ:Th} {k v:AV} {ck cv:Value} (hk:VR D θ k ck) (hv:VR D θ v cv):∀ (es:List (AV × AV × Nat)) (ms:List MapEntry) (i:Nat),cM D θ es ms ->
 cM D θ (es.modify i λ e=>(k,v,e.2.2)) (ms.modify i λ e=>{ e with key:=ck,val:=cv })
 | [],[],_,_=>by simp [cM]
 | _::_,_::_,0,⟨⟨_,_,h3⟩,h⟩=>by simpa [cM] using ⟨⟨hk,hv,h3⟩,h⟩
 | _::es,_::ms,i+1,⟨h1,h⟩=>by simpa [cM] using ⟨h1,cM.modify hk hv es ms i h⟩
 | [],_::_,_,h=>h.elim
 | _::_,[],_,h=>h.elim
theorem cM.push {D:Nat->Prop} {θ:Th} {k v:AV} {ck cv:Value} {c:Nat} (hk:VR D θ k ck) (hv:VR D θ v cv):∀ (es:List (AV × AV × Nat)) (ms:List MapEntry),cM D θ es ms ->
 cM D θ (es ++ [(k,v,c)]) (ms ++ [{ key:=ck,val:=cv,born:=c }])
 | [],[],_=>⟨⟨hk,hv,rfl⟩,trivial⟩
 | _::es,_::ms,⟨h1,h⟩=>⟨h1,cM.push hk hv es ms h⟩
 | [],_::_,h=>h.elim
 | _::_,[],h=>h.elim
end
end Go.Am
namespace Go.Am
section
variable {P:Program} {base:Nat} {D:Nat->Prop} {θ:Th} {H:AHeap} {w:World}
theorem HR.sub (h:HR P base D θ H w) {H':AHeap} (hs:∀ b o,H'.get b=some o->H.get b=some o):HR P base D θ H' w :=
 ⟨λ b o hb=>h.obj b o (hs b o hb),λ b b' o o' hb hb'=>h.inj b b' o o' (hs b o hb) (hs b' o' hb'),λ b o hb=>h.ir b o (hs b o hb),h.cU,h.low⟩
theorem M3 (H:AHeap) (k:Nat):∀ b o,(H.kill k).get b=some o->H.get b=some o:=by
 intro b o h;rw [AHeap.mi] at h;split at h
 ·cases h
 ·exact h
theorem aX.kill (H:AHeap) (k:Nat):aX D H θ w (H.kill k) θ w :=
 ⟨qf _,Ag.refl _ _,qf _,rfl,rfl,rfl,λ _ _ _=>rfl,λ b o h ho _=>⟨b,o,M3 H k b o h,ho,rfl⟩⟩
theorem HR.move (h:HR P base D θ H w) (hn:¬ D H.next) {b:Nat} {o o':bm} {co':Obj} {off ext:Nat} (hb:H.get b=some o) (ho:own o=true) (ho':own o'=true)
 (hr:lW P (Up D H.next (H.next+1)) (θ.add H.next (θ.bz b) off ext) H.next o' co') :
 HR P base (Up D H.next (H.next+1)) (θ.add H.next (θ.bz b) off ext) ((H.kill b).alloc o') (dZ w (θ.bz b) co') /\
 aX D H θ w ((H.kill b).alloc o') (θ.add H.next (θ.bz b) off ext) (dZ w (θ.bz b) co'):=by
 have hlt:=h.lt hb;have hag:=Th.eD θ H.next (θ.bz b) off ext hn
 obtain ⟨e1,e2,e3⟩:=Th.c9 θ H.next (θ.bz b) off ext
 have old:∀ x ox,H.get x=some ox->(θ.add H.next (θ.bz b) off ext).bz x = θ.bz x:=λ x ox hx=>(hag x (h.obj x ox hx).1).1;have hget:∀ x ox,((H.kill b).alloc o').get x=some ox->(x=H.next/\ox=o')\/(x ≠ H.next/\x ≠ b/\H.get x=some ox):=by
  intro x ox hx;rw [AHeap.bc,AHeap.mi] at hx
  by_cases e:H.next=x
  ·rw [ql (show (H.kill b).next=x from e)] at hx;injection hx with hx
   exact .inl ⟨e.symm,hx.symm⟩
  ·rw [qg (show ¬ (H.kill b).next=x from e)] at hx
   by_cases e':b=x
   ·rw [ql e'] at hx;cases hx
   ·rw [qg e'] at hx;exact .inr ⟨λ q=>e q.symm,λ q=>e' q.symm,hx⟩
 refine ⟨⟨λ x ox hx=>?_,λ x y ox oy hx hy hox hne=>?_,λ x ox hx hox=>?_,λ g hg=>?_,by rw [J2];exact h.low⟩,⟨j5 _,hag,by rw [J2];exact qf _,rfl,rfl,rfl,λ k hk hno=>?_,λ x ox hx hox hlt'=>?_⟩⟩
 ·rcases hget x ox hx with ⟨rfl,rfl⟩|⟨g1,g2,g3⟩
  ·exact ⟨.inr ⟨qf _,ze _⟩,co',by rw [e1,Fo _ _ _ _ hlt];simp,hr⟩
  ·obtain ⟨h1,co,h2,h3⟩:=h.obj x ox g3;refine ⟨.inl h1,co,?_,h3.up h1 hag Up.of⟩;rw [old x ox g3,Fo _ _ _ _ hlt,qg (h.inj b x o ox hb g3 ho (λ q=>g2 q.symm))];exact h2
 ·rcases hget x ox hx with ⟨rfl,rfl⟩|⟨g1,g2,g3⟩<;>rcases hget y oy hy with ⟨rfl,rfl⟩|⟨k1,k2,k3⟩
  ·exact absurd rfl hne
  ·rw [e1,old y oy k3];exact h.inj b y o oy hb k3 ho (λ q=>k2 q.symm)
  ·rw [e1,old x ox g3];exact h.inj x b ox o g3 hb hox g2
  ·rw [old x ox g3,old y oy k3];exact h.inj x y ox oy g3 k3 hox hne
 ·rcases hget x ox hx with ⟨rfl,rfl⟩|⟨g1,g2,g3⟩
  ·rw [e1];exact h.ir b o hb ho
  ·rw [old x ox g3];exact h.ir x ox g3 hox
 ·obtain ⟨h1,h2,h3⟩:=h.cU g hg;obtain ⟨a1,a2,_⟩:=hag g h1;exact ⟨.inl h1,a1.trans h2,a2.trans h3⟩
 ·rw [Fo _ _ _ _ hlt,qg (hno b o hb ho)]
 ·rcases hget x ox hx with ⟨rfl,rfl⟩|⟨g1,g2,g3⟩
  ·exact ⟨b,o,hb,ho,e1.symm⟩
  ·exact ⟨x,ox,g3,hox,(old x ox g3).symm⟩
theorem Eb (hh:HR P base D θ H w) {tx:TypeId} (hk:(∃ e',P.underlying tx=some (.slice e'))\/P.underlying tx=some .string) {x:AV} {c:Value} {size k:Nat} {l:List AV}
 (hx:VR D θ x c) (hl:dD x=some k) (h:firstCells H size k x=some l) (h1:aO l=true):∃ cs,Src P size tx c k cs w/\bt D θ l cs:=by
 cases hs:isStr x with
 | true =>
  cases x<;>try (cases hs)
  rename_i s;simp only [dD,Cq,qc] at hl;subst hl;simp only [firstCells,Gw] at h;cases hsz:Nat.beq size 1 with
  | false=>rw [hsz] at h;cases h
  | true =>
  rw [hsz] at h;simp only [xf,qc] at h;subst h;simp only [zp] at hsz;subst hsz;rw [<-hx.now];show ∃ cs,Src P 1 tx (.string ⟨s.toArray⟩) s.length cs w/\bt D θ _ cs;have hf:∀ w:World,(Builtin.firstCells 1 s.length (.string ⟨s.toArray⟩)).run P w=.ok (s.map λ b=>Value.int .u8 b.toNat).toArray w:=by
   intro w;have:=firstCells_string (P:=P) ⟨s.toArray⟩ w;rw [Kv] at this;exact this
  refine ⟨s.map λ b=>.int .u8 b.toNat,⟨hk,λ w'=>?_,hf w,hf w.drew,by simp,λ u hu=>?_⟩,λ θ' _=>by rw [oP,td];rfl⟩
  ·show Result.ok (ByteArray.size ⟨s.toArray⟩) w'=_;rw [Kv]
  ·obtain ⟨_,_,rfl⟩:=DD.1 hu;rfl
 | false =>
  obtain ⟨a,len,cap,rfl,rfl,hcase⟩:=P5 hh hx hl (qf _) hs h;obtain ⟨a',len',cap',hc',rfl,hcase'⟩:=P5 (hh.draw (w':=w.drew) rfl) hx hl (qf _) hs h;injection hc' with hc1 hc2 hc3;subst hc1;subst hc3
  rcases hcase with ⟨rfl,rfl,_,hk0⟩|⟨ad,cs,rfl,g1,g2,g3⟩
  ·exact ⟨[],⟨hk,λ _=>rfl,rfl,rfl,by simp [hk0],by simp⟩,.nil⟩
  ·rcases hcase' with ⟨h0,_⟩|⟨ad',cs',he,k1,k2,k3⟩
   ·cases h0
   ·injection he with he;subst he
    have:cs'=cs:=by rw [<-k2.now,<-g2.now]
    subst this;exact ⟨cs',⟨hk,λ _=>rfl,g1,k1,by rw [g2.length];exact g3,qrt g2 h1⟩,g2⟩
theorem Ov {t tx ty e:TypeId} {i:TypeInfo} (ht:P.underlying t=some (.slice e)) (hi:P.info? e=some i) {a:Addr} {sLen sCap n:Nat} {x:Value} {news:List Value} (hs:Src P i.size tx x n news w)
 (hroom:sLen+n<=sCap) {w':World} (hst:(storeCells (a.add (sLen*i.size)) news).run P w=.ok () w') :
 (Builtin.append_ #[t,tx] ty #[.slice (some a) sLen sCap,x]).run P w=.ok (.slice (some a) (sLen+n) sCap) w':=by
 rcases hs.kind with ⟨e',hk⟩|hk<;>simp [Builtin.append_,run_underlying ht,run_underlying hk,sizeOf,typeInfo,hi,hs.len,hroom,hs.cells,hst]
theorem qxm (z:Array Value) (n:Nat):(Builtin.zeroCells z n).size=n*z.size:=by simp [Builtin.zeroCells]
theorem q3x {D':Nat->Prop} {θ':Th} {id m size:Nat} {cells:List AV} {cs rest:List Value} {e:TypeId} {fz:Nat × Nat} (h:bt D' θ' cells cs) (ho:θ'.off id=0) (hl:cells.length=m*size)
 (hr:rest.length = θ'.ext id*size) (hz:0<size) (hm:m + θ'.ext id<=maxLen):lW P D' θ' id (.grown m size cells e fz) (.cells (cs++rest).toArray e (0,0)) :=
 ⟨[],cs,rest,(0,0),by simp,by simp [ho],h,hl,hr,hz,hm,.inl rfl⟩
theorem HR.grow (hh:HR P base D θ H w) (hn:¬ D H.next) {t tx ty e:TypeId} {i:TypeInfo} {z:Value} (ht:P.underlying t=some (.slice e)) (hi:P.info? e=some i) (hz:i.zero=some z) (hzs:z.cells.size=i.size)
 (h0:0<i.size) {bs:Option Addr} {sLen sCap n:Nat} {x:Value} {old new:List AV} {olds news:List Value} (hold:(Builtin.firstCells i.size sLen (.slice bs sLen sCap)).run P w.drew=.ok olds.toArray w.drew)
 (hs:Src P i.size tx x n news w) (hg:sCap<sLen+n) (hf:fits (sLen+n) i.bytes=true) (ho:bt D θ old olds) (hnw:bt D θ new news) (hol:old.length=sLen*i.size) (fz:Nat × Nat) :
 ∃ θ' w' c,(Builtin.append_ #[t,tx] ty #[.slice bs sLen sCap,x]).run P w=.ok c w'/\HR P base (Up D H.next (H.next+1)) θ' (cj H e i.size (sLen+n) (gK old new) fz).2 w' /\
  aX D H θ w (cj H e i.size (sLen+n) (gK old new) fz).2 θ' w'/\VR (Up D H.next (H.next+1)) θ' (cj H e i.size (sLen+n) (gK old new) fz).1 c:=by
 unfold fits at hf;simp only [xh,yr] at hf;obtain ⟨f1,f2⟩:=hf;have hrun:=run_append_grow_src (P:=P) w t tx ty e i z ht hi hz bs sLen sCap olds hold x n news hs hg (by omega) (growslice_fits hg f1);have hcap:=grownCap_ge w (sLen+n) sCap e;have hcm:=grownCap_le_maxLen w (sLen+n) sCap e (by unfold maxLen;omega);generalize grownCap w (sLen+n) sCap e=cap at hrun hcap hcm;have hnl:=hs.newsLen;have hlen:(gK old new).length=(sLen+n)*i.size:=by
  rw [lG,qx,hol,<-hnw.length,hnl,j4]
 have hco:(Obj.cells ((olds++news).toArray++Builtin.zeroCells z.cells (cap-(sLen+n))) e:Obj)=.cells ((olds++news)++(Builtin.zeroCells z.cells (cap-(sLen+n))).toList).toArray e (0,0):=by
  congr 1;apply B6;simp
 have hag:=Th.eD θ H.next w.drew.heap.size 0 (cap-(sLen+n)) hn
 have hup:bt (Up D H.next (H.next+1)) (θ.add H.next w.drew.heap.size 0 (cap-(sLen+n))) (gK old new) (olds++news):=by
  rw [lG];exact (ho.app hnw).up hag Up.of
 obtain ⟨e1,e2,e3⟩:=Th.c9 θ H.next w.drew.heap.size 0 (cap-(sLen+n))
 have hR:=q3x (P:=P) (id:=H.next) (m:=sLen+n) (size:=i.size) (e:=e) (fz:=fz) (rest:=(Builtin.zeroCells z.cells (cap-(sLen+n))).toList) hup e2 hlen
  (by rw [e3,yc,qxm,hzs]) h0 (by rw [e3];omega)
 rw [<-hco] at hR;refine ⟨_,_,_,hrun,HR.alloc (w:=w.drew) (hh.draw rfl) hn ?_ ?_ (qf _) ?_ hR,?_,?_⟩
 ·rw [ug];simp
 ·intro j hj;rw [ug,qg (D5 hj)]
 ·show w.drew.heap.size<=(w.drew.alloc _).heap.size;simp
 ·exact (aX.draw (w:=w) (w':=w.drew) rfl rfl rfl rfl).trans (aX.alloc (w:=w.drew) (hh.draw rfl) hn _ _ _ _) (λ _ h=>h)
 ·have hid:(Up D H.next (H.next+1)) H.next:=.inr ⟨qf _,ze _⟩
  have:=VR.gslice (θ:=θ.add H.next w.drew.heap.size 0 (cap-(sLen+n))) (i:=0) (m:=sLen+n) (s:=i.size) (alt:=0) (n:=sLen+n) hid;intro θ'' hag';show aB θ'' (.gslice H.next 0 (sLen+n) i.size 0 (sLen+n))=_;rw [this θ'' hag'];simp only [aB,e1,e2,e3,yl,ite_self,qh,E5];congr 1;omega
theorem JL {b i m s alt n:Nat} {c:Value} (h:VR D θ (.gslice b i m s alt n) c):c=.slice (some ⟨θ.bz b,θ.off b+(if (m-i) + θ.ext b=0 then alt else i*s),none⟩) n ((m-i) + θ.ext b):=by
 rw [<-h.now];rfl
theorem ER {b o n cp:Nat} {c:Value} (h:VR D θ (.slice b o n cp) c):c=.slice (some ⟨θ.bz b,θ.off b+o,none⟩) n cp:=by
 rw [<-h.now];rfl
theorem HR.Ew (hh:HR P base D θ H w) (hn:¬ D H.next) {t tx ty e:TypeId} {i:TypeInfo} {z:Value} (ht:P.underlying t=some (.slice e)) (hi:P.info? e=some i) (hz:i.zero=some z) (hzs:z.cells.size=i.size)
 (h0:0<i.size) {b k m sLen n:Nat} {c:List AV} {fz fz':Nat × Nat} {alt:Nat} {s x:Value} {old new:List AV} {news:List Value} (hg:H.get b=some (.grown m i.size c e fz))
 (hsv:VR D θ (.gslice b k m i.size alt sLen) s) (hs:Src P i.size tx x n news w) (hnw:bt D θ new news) (hn0:0<n) (hkm:k+sLen<=m) (hbig:m<k+sLen+n) (hf:fits (sLen+n) i.bytes=true)
 (hold:dK c (k*i.size) (sLen*i.size)=some old)
 (hfz:(fz.2<fz.1\/fz.2<=(k+sLen)*i.size)/\((k=0/\fz'=fz)\/(fz.2<=k*i.size/\fz'=cond (Nat.beq fz.1 fz.2) (0,0) (1,0)))) :
 ∃ θ' w' v,(Builtin.append_ #[t,tx] ty #[s,x]).run P w=.ok v w'/\HR P base (Up D H.next (H.next+1)) θ' (cj (H.kill b) e i.size (sLen+n) (gK old new) fz').2 w' /\
  aX D H θ w (cj (H.kill b) e i.size (sLen+n) (gK old new) fz').2 θ' w'/\VR (Up D H.next (H.next+1)) θ' (cj (H.kill b) e i.size (sLen+n) (gK old new) fz').1 v:=by
 have hsc:=JL hsv;subst hsc;obtain ⟨hd,co,hc,pre,cs,post,cfz,rfl,r2,r3,r4,r5,r6,r7,r8⟩:=hh.obj b _ hg;have hcl:=r3.length;have hnl:=hs.newsLen;rw [qP] at hold;have hle:sLen*i.size<=c.length-k*i.size:=by
  rw [r4,<-Nat.sub_mul];exact jl _ (by omega)
 rw [ql hle] at hold;injection hold with hold;subst hold
 have hol:bt D θ ((c.drop (k*i.size)).take (sLen*i.size)) ((cs.drop (k*i.size)).take (sLen*i.size)):=(r3.drop _).take _;have hkc:(k+sLen)*i.size<=c.length:=by rw [r4];exact jl _ hkm
 have hkadd:(k+sLen)*i.size=k*i.size+sLen*i.size:=j4 _ _ _
 by_cases hroom:sLen+n<=(m-k) + θ.ext b
 ·-- in place
  have hcap:¬ (m-k) + θ.ext b=0:=by omega
  rw [qg hcap];have htot:(k+sLen+n)*i.size<=cs.length+post.length:=by
   rw [hcl,r4,r5,<-j4];exact jl _ (by omega)
  have hadd2:(k+sLen+n)*i.size=k*i.size+sLen*i.size+n*i.size:=by rw [j4,j4]
  have hst:=K0 (P:=P) (θ.off b+k*i.size+sLen*i.size) news 0 _ w hc (by simp;omega) (λ j hj=>by
   unfold Dg at r8;obtain ⟨q1,q2⟩:=hfz;omega) hs.one
  rw [qh] at hst;have hrun:=Ov (ty:=ty) ht hi (a:=⟨θ.bz b,θ.off b+k*i.size,none⟩) (sLen:=sLen) (sCap:=(m-k) + θ.ext b) hs hroom (by rw [rA];exact hst)
  -- the block's cells from the slice's head on
  have hw:((pre++cs++post).take (θ.off b+k*i.size+sLen*i.size)++news++(pre++cs++post).drop (θ.off b+k*i.size+sLen*i.size+news.length)) =
   (pre++cs.take (k*i.size))++((cs.drop (k*i.size)).take (sLen*i.size)++news)++(pre++cs++post).drop (θ.off b+k*i.size+sLen*i.size+news.length):=by
   have e1:(pre++cs++post).take (θ.off b+k*i.size+sLen*i.size)=pre++cs.take (k*i.size)++(cs.drop (k*i.size)).take (sLen*i.size):=by
    rw [zf,Gk,zj (l:=pre) (by omega),zf,show θ.off b+k*i.size+sLen*i.size-pre.length=k*i.size+sLen*i.size from by omega,Gk,
     show k*i.size+sLen*i.size-cs.length=0 from by omega,BW,xt,List.take_add]
   rw [e1];simp
  have hdrop:((pre++cs++post).drop (θ.off b+k*i.size+sLen*i.size+news.length)).length=((m-k) + θ.ext b-(sLen+n))*i.size:=by
   rw [ju,qx,qx,hnl,Nat.sub_mul,j4,j4,Nat.sub_mul,hcl,r4,r5,r2];have:=jl i.size (show k<=m by omega);omega
  have hag:=Th.eD θ H.next (θ.bz b) (θ.off b+k*i.size) ((m-k) + θ.ext b-(sLen+n)) hn
  obtain ⟨e1,e2,e3⟩:=Th.c9 θ H.next (θ.bz b) (θ.off b+k*i.size) ((m-k) + θ.ext b-(sLen+n))
  have hsz:((cs.drop (k*i.size)).take (sLen*i.size)).length=sLen*i.size:=by rw [ja,ju];omega
  obtain ⟨g1,g2⟩:=hh.move hn (o':=.grown (sLen+n) i.size (gK ((c.drop (k*i.size)).take (sLen*i.size)) new) e fz') (co':=.cells ((pre++cs.take (k*i.size))++((cs.drop (k*i.size)).take (sLen*i.size)++news)++(pre++cs++post).drop (θ.off b+k*i.size+sLen*i.size+news.length)).toArray e cfz)
   (off:=θ.off b+k*i.size) (ext:=(m-k) + θ.ext b-(sLen+n)) hg rfl rfl ⟨_,_,_,cfz,rfl,by rw [e2,qx,ja];omega,by rw [lG];exact (hol.app hnw).up hag Up.of,
    by rw [lG,qx,<-hol.length,hsz,<-hnw.length,hnl,j4],by rw [e3];exact hdrop,h0,by rw [e3];unfold maxLen at r7 ⊢;omega,by
     rw [e2];have hlen2:(pre++cs.take (k*i.size)).length+((cs.drop (k*i.size)).take (sLen*i.size)++news).length+((pre++cs++post).drop (θ.off b+k*i.size+sLen*i.size+news.length)).length=pre.length+cs.length+post.length:=by
      rw [<-qx,<-qx,<-hw];simp;omega
     rw [hlen2];obtain ⟨_,q|⟨q1,q2⟩⟩:=hfz
     ·obtain ⟨rfl,rfl⟩:=q;simpa using r8
     ·unfold Dg at r8 ⊢;cases hbq:Nat.beq fz.1 fz.2 with
      | true =>
       simp only [zp] at hbq;rw [hbq] at q2;simp only [Nat.beq_refl,xf] at q2;omega
      | false =>
       rw [hbq] at q2;subst q2;have:¬ fz.1=fz.2:=by intro h;rw [h,Nat.beq_refl] at hbq;cases hbq
       simp only [za];omega⟩
  refine ⟨θ.add H.next (θ.bz b) (θ.off b+k*i.size) ((m-k) + θ.ext b-(sLen+n)),_,_,hrun,?_,?_,?_⟩
  ·rw [show (pre++cs++post).toArray.toList=pre++cs++post from rfl,hw];exact g1
  ·rw [show (pre++cs++post).toArray.toList=pre++cs++post from rfl,hw];exact g2
  ·have hid:(Up D H.next (H.next+1)) H.next:=.inr ⟨qf _,ze _⟩
   have:=VR.gslice (θ:=θ.add H.next (θ.bz b) (θ.off b+k*i.size) ((m-k) + θ.ext b-(sLen+n))) (i:=0) (m:=sLen+n) (s:=i.size) (alt:=0) (n:=sLen+n) hid;intro θ'' hag';show aB θ'' (.gslice H.next 0 (sLen+n) i.size 0 (sLen+n))=_;rw [this θ'' hag'];simp only [aB,e1,e2,e3,yl,ite_self,qh,E5];congr 1;omega
 ·have hfc:(Builtin.firstCells i.size sLen (.slice (some ⟨θ.bz b,θ.off b+(if (m-k) + θ.ext b=0 then alt else k*i.size),none⟩) sLen ((m-k) + θ.ext b))).run P w.drew=.ok ((cs.drop (k*i.size)).take (sLen*i.size)).toArray w.drew:=by
   by_cases hl0:sLen=0
   ·subst hl0;show (loadCells _ (0*i.size)).run P w.drew=_;rw [yl,BW];rfl
   ·have hcap:¬ (m-k) + θ.ext b=0:=by omega
    rw [qg hcap];show (loadCells _ (sLen*i.size)).run P w.drew=_;have:=qzb (P:=P) (w:=w.drew) (k:=θ.bz b) (fz:=cfz) (e:=e) (arr:=(pre++cs++post).toArray) hc (pre.length+k*i.size) (sLen*i.size) (by simp;omega);rw [q19 pre cs post _ _ (by rw [hcl];exact hle),r2] at this;exact this
  have:=(hh.sub (M3 H b)).grow (ty:=ty) (H:=H.kill b) hn ht hi hz hzs h0 hfc hs (by omega) hf hol hnw (by rw [ja,ju];omega) fz';obtain ⟨θ',w',v,g1,g2,g3,g4⟩:=this;exact ⟨θ',w',v,g1,g2,(aX.kill H b).trans g3 (λ _ h=>h),g4⟩
theorem AA {e:TypeId} {n z:Nat} {zv:AV} (hs:bF P e=some n) (hb:i6 P e=some z) (hz:zeroOf P e=some zv) (hzn:zv.cells.length=n) :
 ∃ i zc,P.info? e=some i/\i.size=n/\i.bytes=z/\i.zero=some zc/\zc.cells.size=n:=by
 obtain ⟨i,h1,h2⟩:=qpg hs;unfold i6 at hb;rw [h1] at hb;simp only [qj,qc] at hb;unfold zeroOf at hz;rw [h1] at hz;simp only [qj,qb] at hz;obtain ⟨zc,h3,h4⟩:=hz;refine ⟨i,zc,h1,h2,hb,h3,?_⟩;have:=(KM (D:=λ _=>False) (θ:=⟨λ _=>0,λ _=>0,λ _=>0⟩) h4).cells.length;rw [hzn] at this;simpa using this
theorem q7c {b o n cp:Nat} {c:Value} (h:VR D θ (.slice b o n cp) c) (n':Nat):VR D θ (.slice b o n' cp) (.slice (some ⟨θ.bz b,θ.off b+o,none⟩) n' cp):=λ θ' ha=>by
 have:=(h θ' ha).trans h.now.symm;simp only [aB,Value.slice.injEq,qc,Addr.mk.injEq,od,sy] at this;simp only [aB,this.1,this.2]
theorem q3m {b i m s alt n:Nat} {c:Value} (h:VR D θ (.gslice b i m s alt n) c) (n':Nat):VR D θ (.gslice b i m s alt n') (.slice (some ⟨θ.bz b,θ.off b+(if (m-i) + θ.ext b=0 then alt else i*s),none⟩) n' ((m-i) + θ.ext b)):=λ θ' ha=>by
 have:=(h θ' ha).trans h.now.symm;simp only [aB,Value.slice.injEq,qc,Addr.mk.injEq,od,sy] at this;obtain ⟨⟨h1,h2⟩,h3⟩:=this;rw [h3] at h2;simp only [aB,h1,h3,h2]
theorem q3j {o:Oper} {c:Call} {xs:List Operand} {t tx e:TypeId} {sz z:Nat} {zv:AV} (ho:o.op=.call c) (hc:c.callee=.builtin .append) (hx:c.args.toList=xs) (hts:c.argTypes.toList=[t,tx])
 (hu:P.underlying t=some (.slice e)) (hk:(∃ e',P.underlying tx=some (.slice e'))\/(P.underlying tx=some .string)) (hs:bF P e=some sz) (hb:i6 P e=some z) (hz:zeroOf P e=some zv) (hzn:zv.cells.length=sz) :
 rY P o xs (Op.append e sz z):=by
 intro base D θ H ρ w vs v H' hh h hv hfr;obtain ⟨cc,hE⟩:=G7 (ρ:=ρ) ho hc;have hats:c.argTypes = #[t,tx]:=by apply B6;simpa using hts
 obtain ⟨i,zc,hi,rfl,rfl,hiz,hzs⟩:=AA hs hb hz hzn;unfold Op.append at hv;split at hv
 ·rename_i a b;obtain ⟨x,y,rfl,ha,hbv⟩:=h.qI;simp only [qb] at hv;obtain ⟨n,hn,new,hnew,hv⟩:=hv;cases hone:aO new with
  | false=>rw [hone] at hv;cases hv
  | true =>
   rw [hone] at hv;simp only [xf] at hv;obtain ⟨news,hsrc,hnv⟩:=Eb hh (tx:=tx) hk hbv hn hnew hone;have hfin:∀ (c':Value) (w':World),(Builtin.append_ #[t,tx] o.type #[ρ x,ρ y]).run P w=.ok c' w'->(execOp ρ o).run P w=.ok (.value c') w':=by
    intro c' w' hr;rw [hE,C2 hx,hats];simp [builtin,hr]
   have hnl:=hsrc.newsLen;have hnlen:=hnv.length;have hnothing:n=0 -> ∀ bs len cp,ρ x=.slice bs len cp->len<=cp->(Builtin.append_ #[t,tx] o.type #[ρ x,ρ y]).run P w=.ok (ρ x) w:=by
    intro h0 bs len cp he hle;subst h0;have:news=[]:=List.eq_nil_of_length_eq_zero (by simpa using hnl);subst this;rw [he];exact run_append_nothing w t tx o.type e i hu hi bs len cp hle (ρ y) hsrc
   unfold bQ at hv;split at hv
   ·-- nil
    cases h0:Nat.beq n 0 with
    | true =>
     rw [h0] at hv;simp only [xf,qc,xn] at hv;obtain ⟨rfl,rfl⟩:=hv;exact ⟨θ,w,ρ x,.inl (hfin _ _ (hnothing (by simpa using h0) none 0 0 ha.now.symm (qf _))),by rw [Up.none];exact hh,.refl _ _ _ _,by rw [Up.none];exact ha⟩
    | false =>
     rw [h0] at hv;simp only [za] at hv;cases hf:(fits n i.bytes && Nat.blt 0 i.size) with
     | false=>rw [hf] at hv;cases hv
     | true =>
      rw [hf] at hv;simp only [xf,qc] at hv;simp only [xh,we] at hf;have hn0:n ≠ 0:=by intro q;subst q;cases h0
      obtain ⟨θ',w',c',g1,g2,g3,g4⟩:=hh.grow (ty:=o.type) (hfr H.next (qf _) (by rw [<-(Prod.mk.inj hv).2];exact ze _)) hu hi hiz hzs hf.2 (bs:=none) (sLen:=0) (sCap:=0) (old:=[]) (olds:=[]) rfl hsrc (by omega) (by simpa using hf.1) .nil hnv (by simp) (0,0);rw [show gK ([]:List AV) new=new from rfl,jy] at g2 g3 g4;rw [hv] at g2 g3 g4;have:H'.next=H.next+1:=by rw [<-(Prod.mk.inj hv).2];rfl
      rw [<-this] at g2 g4;refine ⟨θ',w',c',.inl (hfin _ _ ?_),g2,g3,g4⟩;rw [<-ha.now];exact g1
   ·-- a slice of a row
    rename_i bb oo len cp;cases hle:Nat.ble (len+n) cp with
    | true =>
     rw [hle] at hv;simp only [yr] at hle;simp only [xf] at hv;cases h0:Nat.beq n 0 with
     | true =>
      rw [h0] at hv;simp only [xf,qc,xn] at hv;obtain ⟨rfl,rfl⟩:=hv;simp only [zp] at h0;subst h0;exact ⟨θ,w,ρ x,.inl (hfin _ _ (hnothing rfl _ len cp (ER ha) (by omega))),by rw [Up.none];exact hh,.refl _ _ _ _,by rw [Up.none];exact ha⟩
     | false =>
      rw [h0] at hv;simp only [za,qb,qc,xn] at hv;obtain ⟨H1,h1,rfl,rfl⟩:=hv;obtain ⟨w',g1,g2,g3,g4⟩:=hh.store hnv h1;refine ⟨θ,w',_,.inl (hfin _ _ ?_),by rw [g4,Up.none];exact g2,g3,by rw [g4,Up.none];exact q7c ha _⟩;rw [ER ha];exact Ov hu hi hsrc hle (by rw [rA,kx];exact g1)
    | false =>
     rw [hle] at hv;have hle':¬ len+n<=cp:=by intro q;rw [Nat.ble_eq_true_of_le q] at hle;cases hle
     simp only [za] at hv;cases hf:(fits (len+n) i.bytes && Nat.ble cp (len+n) && Nat.blt 0 i.size) with
     | false=>rw [hf] at hv;cases hv
     | true =>
      rw [hf] at hv;simp only [xf,qb,qc] at hv;obtain ⟨old,hold,hv⟩:=hv;simp only [xh,we] at hf;obtain ⟨olds,k1,k2,k3⟩:∃ olds:List Value,(Builtin.firstCells i.size len (ρ x)).run P w.drew=.ok olds.toArray w.drew/\bt D θ old olds/\old.length=len*i.size:=by
       obtain ⟨ad,len',cap',hc',hl',hcase⟩:=P5 (hh.draw (w':=w.drew) rfl) ha (n:=len) rfl (qf _) rfl hold;rcases hcase with ⟨rfl,rfl,_,h0⟩|⟨ad',cs',rfl,k1,k2,k3⟩
       ·rw [ER ha] at hc';cases hc'
       ·exact ⟨cs',by rw [hc'];exact k1,k2,k3⟩
      rw [ER ha] at k1;obtain ⟨θ',w',c',g1,g2,g3,g4⟩:=hh.grow (ty:=o.type) (hfr H.next (qf _) (by rw [<-(Prod.mk.inj hv).2];exact ze _)) hu hi hiz hzs hf.2 k1 hsrc (by omega) hf.1.1 k2 hnv k3 (0,0);rw [hv] at g2 g3 g4;have:H'.next=H.next+1:=by rw [<-(Prod.mk.inj hv).2];rfl
      rw [<-this] at g2 g4;refine ⟨θ',w',c',.inl (hfin _ _ ?_),g2,g3,g4⟩;rw [ER ha];exact g1
   ·-- a slice of a grown row
    rename_i bb ii m sz alt len;cases h0:Nat.beq n 0 with
    | true =>
     rw [h0] at hv;simp only [xf] at hv;cases hil:Nat.ble (ii+len) m with
     | false=>rw [hil] at hv;cases hv
     | true =>
     rw [hil] at hv;simp only [xf,qc,xn] at hv;obtain ⟨rfl,rfl⟩:=hv;simp only [zp] at h0;subst h0;simp only [yr] at hil;exact ⟨θ,w,ρ x,.inl (hfin _ _ (hnothing rfl _ len _ (JL ha) (by omega))),by rw [Up.none];exact hh,.refl _ _ _ _,by rw [Up.none];exact ha⟩
    | false =>
     rw [h0] at hv;have hn0:n ≠ 0:=by intro q;subst q;cases h0
     simp only [za] at hv;cases hcc:(Nat.beq sz i.size && Nat.ble (ii+len) m && Nat.blt 0 i.size) with
     | false=>rw [hcc] at hv;cases hv
     | true =>
      rw [hcc] at hv;simp only [xh,zp,yr,we] at hcc;obtain ⟨⟨rfl,hil⟩,hsz⟩:=hcc;simp only [xf] at hv;cases hle:Nat.ble (ii+len+n) m with
      | true =>
       rw [hle] at hv;simp only [yr] at hle;simp only [xf,qb,qc,xn] at hv;obtain ⟨H1,h1,rfl,rfl⟩:=hv;obtain ⟨w',g1,g2,g3,g4⟩:=hh.store hnv h1;refine ⟨θ,w',_,.inl (hfin _ _ ?_),by rw [g4,Up.none];exact g2,g3,by rw [g4,Up.none];exact q3m ha _⟩;rw [JL ha];refine Ov hu hi hsrc (by omega) ?_;rw [qg (by omega),rA,kx,<-j4];exact g1
      | false =>
       rw [hle] at hv;have hle':¬ ii+len+n<=m:=by intro q;rw [Nat.ble_eq_true_of_le q] at hle;cases hle
       simp only [za] at hv;cases hf:fits (len+n) i.bytes with
       | false=>rw [hf] at hv;cases hv
       | true =>
        rw [hf] at hv;simp only [xf] at hv;split at hv
        ·rename_i m' sz' c0 e' fz hget;cases hcc:(Nat.beq m m' && Nat.beq i.size sz' && Nat.beq e' e) with
         | false=>rw [hcc] at hv;cases hv
         | true =>
          rw [hcc] at hv;simp only [xh,zp] at hcc;obtain ⟨⟨rfl,rfl⟩,rfl⟩:=hcc;simp only [xf] at hv;have hfin2:∀ old fz',dK c0 (ii*i.size) (len*i.size)=some old->((fz.2<fz.1\/fz.2<=(ii+len)*i.size)/\((ii=0/\fz'=fz)\/(fz.2<=ii*i.size/\fz'=cond (Nat.beq fz.1 fz.2) (0,0) (1,0)))) ->
           cj (H.kill bb) e' i.size (len+n) (gK old new) fz'=(v,H') -> ∃ θ' w' c,pH P (execOp ρ o) w c w'/\HR P base (Up D H.next H'.next) θ' H' w'/\aX D H θ w H' θ' w'/\VR (Up D H.next H'.next) θ' v c:=by
           intro old fz' hold hfz hv;have hnx:H'.next=H.next+1:=by rw [<-(Prod.mk.inj hv).2];rfl
           obtain ⟨θ',w',c',g1,g2,g3,g4⟩:=hh.Ew (ty:=o.type) (hfr H.next (qf _) (by rw [hnx];exact ze _)) hu hi hiz hzs hsz hget ha hsrc hnv (by omega) hil (by omega) hf hold hfz;rw [hv] at g2 g3 g4;rw [<-hnx] at g2 g4;exact ⟨θ',w',c',.inl (hfin _ _ g1),g2,g3,g4⟩
          cases hq1:(Nat.beq ii 0 && Nat.beq len m && Nat.ble fz.2 (m*i.size)) with
          | true =>
           rw [hq1] at hv;simp only [xh,zp,yr] at hq1;obtain ⟨⟨rfl,rfl⟩,hq1⟩:=hq1;simp only [xf,qc] at hv;obtain ⟨_,co,_,pre,cs,post,cfz,_,_,_,r4,_⟩:=hh.obj bb _ hget;refine hfin2 c0 fz ?_ ⟨.inr (by simpa using hq1),.inl ⟨rfl,rfl⟩⟩ hv;rw [qP,yl,<-r4,ql (by omega),GP,Gw]
          | false =>
           rw [hq1] at hv;simp only [za] at hv;cases hq2:Nat.ble fz.2 (ii*i.size) with
           | true =>
            rw [hq2] at hv;simp only [yr] at hq2;simp only [xf,qb,qc] at hv;obtain ⟨old,hold,hv⟩:=hv;exact hfin2 old _ hold ⟨.inr (by rw [j4];omega),.inr ⟨hq2,rfl⟩⟩ hv
           | false =>
            rw [hq2] at hv;simp only [za] at hv;cases hq3:(Nat.beq ii 0 && Nat.ble fz.2 (len*i.size)) with
            | false=>rw [hq3] at hv;cases hv
            | true =>
             rw [hq3] at hv;simp only [xh,zp,yr] at hq3;obtain ⟨rfl,hq3⟩:=hq3;simp only [xf,qb,qc] at hv;obtain ⟨old,hold,hv⟩:=hv;exact hfin2 old fz (by rw [yl];exact hold) ⟨.inr (by rw [jy];exact hq3),.inl ⟨rfl,rfl⟩⟩ hv
        ·cases hv
   ·cases hv
 ·cases hv
theorem q0a {o:Oper} {c:Call} {xs:List Operand} {t e:TypeId} {z:AV} (ho:o.op=.call c) (hc:c.callee=.builtin .clear) (hx:c.args.toList=xs) (ht:c.argTypes[0]? = some t)
 (hu:P.underlying t=some (.slice e)) (hz:zeroOf P e=some z):rY P o xs (Op.ct z.cells):=by
 intro base D θ H ρ w vs v H' hh h hv hfr;obtain ⟨cc,hE⟩:=G7 (ρ:=ρ) ho hc;unfold Op.ct at hv;split at hv
 ·cases hv
 ·rename_i d hns;obtain ⟨x,rfl,ha⟩:=h.nh;simp only [qb] at hv;obtain ⟨n,hn,hv⟩:=hv;cases h0:Nat.beq n 0 with
  | true =>
   rw [h0] at hv;simp only [xf,qc,xn] at hv;obtain ⟨rfl,rfl⟩:=hv;simp only [zp] at h0;subst h0;refine ⟨θ,w,.tuple #[],.inl ?_,by rw [Up.none];exact hh,.refl _ _ _ _,.tuple .nil⟩;rw [hE,C2 hx];have hsl:∃ bs cp,ρ x=.slice bs 0 cp:=by
    cases d<;>simp only [dD,reduceCtorEq,qc] at hn
    ·exact (hns _ rfl).elim
    ·exact ⟨none,0,ha.now.symm⟩
    ·subst hn;exact ⟨_,_,ER ha⟩
    ·subst hn;exact ⟨_,_,JL ha⟩
    ·exact ⟨_,_,ha.now.symm⟩
   obtain ⟨bs,cp,hxe⟩:=hsl;cases bs<;>simp [builtin,Builtin.clear_,ht,yv hu,hxe]
  | false =>
   rw [h0] at hv;simp only [za,qb,qc,xn] at hv;obtain ⟨p,hp,H1,h1,rfl,rfl⟩:=hv;obtain ⟨n',m',k1,k2,k3,k4⟩:=qsd ha hp;rw [yl,E5] at k1;obtain ⟨zc,hz1,hz2⟩:=FV (w:=w) hz;have hnew:bt D θ (dG n z.cells) (List.replicate n zc.cells.toList).flatten:=Nv (hz2 D θ).cells n;obtain ⟨w',q1,q2,q3,q4⟩:=hh.store hnew h1;refine ⟨θ,w',.tuple #[],.inl ?_,by rw [q4,Up.none];exact q2,q3,.tuple .nil⟩;rw [hE,C2 hx];have hnn:n'=n:=by
    cases d<;>simp only [dD,reduceCtorEq,qc] at hn
    ·exact (hns _ rfl).elim
    ·rw [<-ha.now] at k1;cases k1
    ·subst hn;rw [ER ha] at k1;injection k1 with _ k _;exact k.symm
    ·subst hn;rw [JL ha] at k1;injection k1 with _ k _;exact k.symm
    ·cases hp
   subst hnn;have hzz:(Builtin.zeroCells zc.cells n').toList=(List.replicate n' zc.cells.toList).flatten:=by
    have:=MY zc.cells.toList n';unfold Builtin.zeroCells;rw [<-yc]
    simpa using congrArg Array.toList this
   have hn0:n' ≠ 0:=by omega
   obtain ⟨k,rfl⟩:∃ k,n'=k+1:=⟨n'-1,by omega⟩
   simp [builtin,Builtin.clear_,ht,yv hu,k1,hz1,hzz,q1]
 ·cases hv
theorem Eh.join {fz cfz:Nat × Nat} (h:Eh fz cfz) (o n:Nat) (hn:n ≠ 0):Eh (Op.iY fz o n) (if cfz.1 == cfz.2 then (o,o+n) else (min cfz.1 o,max cfz.2 (o+n))):=by
 unfold Eh at h ⊢;unfold Op.iY
 by_cases hc:cfz.1=cfz.2
 ·rw [ql (by simpa using hc)];cases hb:Nat.beq fz.1 fz.2 with
  | true=>simp only [xf];omega
  | false=>simp only [za];omega
 ·rw [qg (by simpa using hc)];have hb:Nat.beq fz.1 fz.2=false:=by
   cases hb:Nat.beq fz.1 fz.2 with
   | false=>rfl
   | true=>simp only [zp] at hb;omega
  rw [hb];simp only [za];omega
theorem Dg.join {fz cfz:Nat × Nat} {off size:Nat} (h:Dg fz cfz off size) (ht:fz.1<=fz.2) (o n:Nat) (hn:n ≠ 0):Dg (Op.iY fz o n) (if cfz.1 == cfz.2 then (off+o,off+o+n) else (min cfz.1 (off+o),max cfz.2 (off+o+n))) off size:=by
 unfold Dg at h ⊢;unfold Op.iY
 by_cases hc:cfz.1=cfz.2
 ·rw [ql (by simpa using hc)];cases hb:Nat.beq fz.1 fz.2 with
  | true=>simp only [xf];omega
  | false=>simp only [za];omega
 ·rw [qg (by simpa using hc)];have hb:Nat.beq fz.1 fz.2=false:=by
   cases hb:Nat.beq fz.1 fz.2 with
   | false=>rfl
   | true=>simp only [zp] at hb;omega
  rw [hb];simp only [za];omega
end
end Go.Am
namespace Go.Am
def Ext (H H':AHeap):Prop:=H.next<=H'.next /\ ∀ b o,H'.get b=some o->(∃ o',H.get b=some o'/\(own o'=true->own o=true))\/(H.next<=b/\b<H'.next/\own o=true)
theorem Ext.refl (H:AHeap):Ext H H:=⟨qf _,λ b o h=>.inl ⟨o,h,λ h=>h⟩⟩
theorem Ext.trans {H H' H'':AHeap} (h:Ext H H') (h':Ext H' H''):Ext H H'':=by
 refine ⟨xj h.1 h'.1,λ b o hb=>?_⟩;rcases h'.2 b o hb with ⟨o',h1,h0⟩|⟨h1,h2,h3⟩
 ·rcases h.2 b o' h1 with ⟨o'',h3,h4⟩|⟨h3,h4,h5⟩
  ·exact .inl ⟨o'',h3,λ q=>h0 (h4 q)⟩
  ·exact .inr ⟨h3,qk h4 h'.1,h0 h5⟩
 ·exact .inr ⟨xj h.1 h1,h2,h3⟩
theorem Ext.set {H:AHeap} {b:Nat} {o:bm} (h:H.get b=some o) (o':bm) (ho:own o=true->own o'=true):Ext H (H.set b o'):=by
 refine ⟨qf _,λ x ox hx=>?_⟩;rw [AHeap.aE] at hx;split at hx
 ·rename_i e;subst e;injection hx with hx;subst hx
  exact .inl ⟨o,h,ho⟩
 ·exact .inl ⟨ox,hx,λ h=>h⟩
theorem Ext.alloc (H:AHeap) (o:bm) (ho:own o=true):Ext H (H.alloc o):=by
 refine ⟨j5 _,λ x ox hx=>?_⟩;rw [AHeap.bc] at hx;split at hx
 ·rename_i e;subst e;injection hx with hx;subst hx
  exact .inr ⟨qf _,ze _,ho⟩
 ·exact .inl ⟨ox,hx,λ h=>h⟩
theorem Ext.kill (H:AHeap) (b:Nat):Ext H (H.kill b):=⟨qf _,λ x ox hx=>.inl ⟨ox,M3 H b x ox hx,λ h=>h⟩⟩
def cO:dN->Prop
 | .alloc f=>∀ vs ob mk,f vs=some (ob,mk)->own ob=true
 | .eQ f=>∀ vs H v H',f vs H=some (v,H')->Ext H H'
 | _=>True
theorem j8 {α:Type} {c:Bool} {a b:Option α} {x:α} (h:cond c a b=some x):(c=true/\a=some x)\/(c=false/\b=some x):=by
 cases c<;>simp_all
theorem J4 {H H':AHeap} {b o:Nat} {l:List AV} (h:H.store b o l=some H'):Ext H H':=by
 unfold AHeap.store at h;rcases j8 h with ⟨_,h⟩|⟨_,h⟩
 ·split at h
  ·rename_i hg;rcases j8 h with ⟨_,h⟩|⟨_,h⟩
   ·simp only [qb,qc] at h;obtain ⟨_,_,rfl⟩:=h;exact Ext.set hg _ (λ _=>rfl)
   ·cases h
  ·rename_i hg;rcases j8 h with ⟨_,h⟩|⟨_,h⟩
   ·simp only [qb,qc] at h;obtain ⟨_,_,rfl⟩:=h;exact Ext.set hg _ (λ _=>rfl)
   ·cases h
  ·cases h
 ·cases h
theorem q3w (n:Nat):cO (.eQ (Op.store n)):=by
 intro vs H v H' h;unfold Op.store at h;split at h
 ·rcases j8 h with ⟨_,h⟩|⟨_,h⟩
  ·simp only [qb,qc,xn] at h;obtain ⟨_,h1,_,rfl⟩:=h;exact J4 h1
  ·cases h
 ·cases h
theorem qyu (z:List AV):cO (.eQ (Op.ct z)):=by
 intro vs H v H' h;unfold Op.ct at h;split at h
 ·cases h
 ·simp only [qb] at h;obtain ⟨_,_,h⟩:=h;rcases j8 h with ⟨_,h⟩|⟨_,h⟩
  ·injection h with h;injection h with _ h;subst h;exact Ext.refl _
  ·simp only [qb,qc,xn] at h;obtain ⟨_,_,_,h1,_,rfl⟩:=h;exact J4 h1
 ·cases h
theorem JW {H H':AHeap} {e s n:Nat} {c:List AV} {fz:Nat × Nat} {v:AV} (h:some (cj H e s n c fz)=some (v,H')):Ext H H':=by
 injection h with h;injection h with _ h;subst h;exact Ext.alloc _ _ rfl
theorem q0r (e s z:Nat):cO (.eQ (Op.append e s z)):=by
 intro vs H v H' h;unfold Op.append at h;split at h
 ·simp only [qb] at h;obtain ⟨n,_,new,_,h⟩:=h;rcases j8 h with ⟨_,h⟩|⟨_,h⟩
  ·unfold bQ at h;split at h
   ·rcases j8 h with ⟨_,h⟩|⟨_,h⟩
    ·injection h with h;injection h with _ h;subst h;exact Ext.refl _
    ·rcases j8 h with ⟨_,h⟩|⟨_,h⟩
     ·exact JW h
     ·cases h
   ·rcases j8 h with ⟨_,h⟩|⟨_,h⟩
    ·rcases j8 h with ⟨_,h⟩|⟨_,h⟩
     ·injection h with h;injection h with _ h;subst h;exact Ext.refl _
     ·simp only [qb,qc,xn] at h;obtain ⟨_,h1,_,rfl⟩:=h;exact J4 h1
    ·rcases j8 h with ⟨_,h⟩|⟨_,h⟩
     ·simp only [qb] at h;obtain ⟨_,_,h⟩:=h;exact JW h
     ·cases h
   ·rcases j8 h with ⟨_,h⟩|⟨_,h⟩
    ·rcases j8 h with ⟨_,h⟩|⟨_,h⟩
     ·injection h with h;injection h with _ h;subst h;exact Ext.refl _
     ·cases h
    ·rcases j8 h with ⟨_,h⟩|⟨_,h⟩
     ·rcases j8 h with ⟨_,h⟩|⟨_,h⟩
      ·simp only [qb,qc,xn] at h;obtain ⟨_,h1,_,rfl⟩:=h;exact J4 h1
      ·rcases j8 h with ⟨_,h⟩|⟨_,h⟩
       ·split at h
        ·rcases j8 h with ⟨_,h⟩|⟨_,h⟩
         ·rcases j8 h with ⟨_,h⟩|⟨_,h⟩
          ·exact (Ext.kill _ _).trans (JW (H:=H.kill _) h)
          ·rcases j8 h with ⟨_,h⟩|⟨_,h⟩
           ·simp only [qb] at h;obtain ⟨_,_,h⟩:=h;exact (Ext.kill _ _).trans (JW (H:=H.kill _) h)
           ·rcases j8 h with ⟨_,h⟩|⟨_,h⟩
            ·simp only [qb] at h;obtain ⟨_,_,h⟩:=h;exact (Ext.kill _ _).trans (JW (H:=H.kill _) h)
            ·cases h
         ·cases h
        ·cases h
       ·cases h
     ·cases h
   ·cases h
  ·cases h
 ·cases h
end Go.Am
namespace Go.Am
structure yW (ρ:Operand->Value):Prop where
 const:∀ v,ρ (.const v)=v
 func:∀ f,ρ (.func f)=.func (.func f) #[] #[]
def rF (P:Program) (o:Oper) (xs:List Operand) (f:List AV->Option AV):Prop :=
 ∀ (D:Nat->Prop) θ (ρ:Operand->Value) w vs v,yW ρ->bt D θ vs (xs.map ρ)->f vs=some v -> ∃ c,pH P (execOp ρ o) w c w/\VR D θ v c
def oT (P:Program) (o:Oper) (xs:List Operand) (f:List AV->Option (bm × (Nat->AV))):Prop :=
 ∀ (D:Nat->Prop) θ (ρ:Operand->Value) w vs ob mk,yW ρ->bt D θ vs (xs.map ρ)->f vs=some (ob,mk) ->
  own ob=true /\ ∃ w0 co ext c,(execOp ρ o).run P w=.ok (.value c) (w0.alloc co)/\iK w w0 /\
   ∀ (D':Nat->Prop) θ' id,Ag D θ θ'->(∀ b,D b->D' b)->D' id -> θ'.bz id=w.heap.size -> θ'.off id=0 -> θ'.ext id=ext->lW P D' θ' id ob co/\VR D' θ' (mk id) c
structure cF (P:Program):Prop where
 names:∀ (f:FuncId) (fn:Func),P.funcs[f]? = some fn->fn.name ≠ "runtime.NumGoroutine"
 mixed:P.follows .mixedOrders=true
def nj (P:Program) (o:Oper) (xs:List Operand):dN->Prop
 | .pure f=>rF P o xs f
 | .read f=>oA P o xs f
 | .alloc f=>oT P o xs f/\cO (.alloc f)
 | .eQ f=>rY P o xs f/\cO (.eQ f)
 | .eH f=>∃ c fn b,o.op=.call c/\c.callee=.value (.func f)/\xs=c.args.toList/\P.funcs[f]? = some fn/\fn.body=some b
 | .eK=>∃ c x,o.op=.call c/\c.callee=.value x/\xs=x::c.args.toList
 | .invoke m=>∃ c x,o.op=.call c/\c.callee=.invoke x m/\xs=x::c.args.toList
 | .recover=>∃ c,o.op=.call c/\c.callee=.builtin .recover/\xs=c.args.toList
 | .defer=>∃ c x,o.op=.defer c/\c.callee=.value x/\xs=x::c.args.toList
 | .panic=>(∃ x,o.op=.panic x/\xs=[x]) \/ ∃ c,o.op=.call c/\c.callee=.builtin .panic/\xs=c.args.toList
theorem q3v {e:Nat} {z:List AV}:cO (.alloc (Op.alloc e z)):=by
 intro vs ob mk h;unfold Op.alloc at h;split at h
 ·injection h with h;injection h with h _;subst h;rfl
 ·cases h
theorem wY {e:Nat}:cO (.alloc (Op.box e)):=by
 intro vs ob mk h;unfold Op.box at h;split at h
 ·injection h with h;injection h with h _;subst h;rfl
 ·cases h
theorem qtd {e n:Nat} {z:List AV} {ps:List (Nat × Nat)}:cO (.alloc (Op.buildSlice e n z ps)):=by
 intro vs ob mk h;simp only [Op.buildSlice,qb] at h;obtain ⟨_,_,h⟩:=h;injection h with h;injection h with h _;subst h;rfl
theorem qyv {e b:Nat} {z:List AV}:cO (.alloc (Op.mkSlice e b z)):=by
 intro vs ob mk h;unfold Op.mkSlice at h;split at h
 ·rcases j8 h with ⟨_,h⟩|⟨_,h⟩
  ·injection h with h;injection h with h _;subst h;rfl
  ·cases h
 ·cases h
section
variable {P:Program} {o:Oper} {xs:List Operand}
theorem cH.up {f:List AV->Option AV} (h:cH P o xs f):rF P o xs f:=λ D θ ρ w vs v _=>h D θ ρ w vs v
theorem iD.up {f:List AV->Option (bm × (Nat->AV))} (h:iD P o xs f):oT P o xs f:=λ D θ ρ w vs ob mk _=>h D θ ρ w vs ob mk
theorem BZ {src dst:TypeId} {x:Operand} (ho:o.op=.convert src dst x) {r:List Operand × dN} (h:uO P src dst x=some r):nj P o r.1 r.2:=by
 unfold uO at h;split at h
 ·rename_i h1 h2;injection h with h;subst h;exact (q63 ho h1 h2).up
 ·cases h
theorem q5w {t:TypeId} {x y:Operand} {k:qJ} (h:Ba P t x y=some k):re P t x y k:=by
 unfold Ba at h;simp only [Oe] at h;split at h
 ·rename_i hu;injection h with h;subst h;exact hu
 ·rename_i e hu;split at h
  ·rename_i n hs;injection h with h;subst h;exact ⟨e,n,hu,hs⟩
  ·cases h
 ·rename_i e hu;injection h with h;subst h;exact ⟨e,hu⟩
 ·rename_i k e hu;injection h with h;subst h;exact ⟨k,e,hu⟩
 ·rename_i a b c hu;injection h with h;subst h;exact ⟨a,b,c,hu⟩
 ·rename_i ms hu;split at h
  ·injection h with h;subst h;exact ⟨ms,hu,.inl ⟨_,rfl⟩⟩
  ·injection h with h;subst h;exact ⟨ms,hu,.inr ⟨_,rfl⟩⟩
  ·injection h with h;subst h
   refine ⟨⟨ms,hu⟩,λ u q hq=>?_⟩;simp only [qb] at hq;obtain ⟨i,hi,hq⟩:=hq;split at hq
   ·rename_i hcmp;exact ⟨hq,i,hi,hcmp⟩
   ·cases hq
 ·rename_i fs hu;split at h
  ·cases h
  ·rename_i hg;simp only [qb,qc] at h;obtain ⟨q,hq,rfl⟩:=h;exact ⟨by simpa using hg,hq,.inl ⟨fs,hu⟩⟩
 ·rename_i n e hu;split at h
  ·cases h
  ·rename_i hg;simp only [qb,qc] at h;obtain ⟨q,hq,rfl⟩:=h;exact ⟨by simpa using hg,hq,.inr ⟨n,e,hu⟩⟩
 ·cases h
theorem ET {op:BinOp} {t t':TypeId} {x y:Operand} (ho:o.op=.binOp op t x y t') {r:List Operand × dN} (h:Fa P op t x y=some r):nj P o r.1 r.2:=by
 unfold Fa at h;split at h
 ·injection h with h;subst h;exact (q2f ho).up
 ·injection h with h;subst h;exact (q2f ho).up
 ·split at h
  ·simp only [qb,qc] at h;obtain ⟨k,hk,rfl⟩:=h;exact q65 (neg:=false) (by simpa using ho) (q5w hk)
  ·simp only [qb,qc] at h;obtain ⟨k,hk,rfl⟩:=h;exact q65 (neg:=true) (by simpa using ho) (q5w hk)
  ·cases h
theorem q3a {c:Call} {b:Builtin} (ho:o.op=.call c) (hc:c.callee=.builtin b) {r:List Operand × dN} (h:NK P b c.argTypes c.args.toList=some r):nj P o r.1 r.2:=by
 have hb2:∀ {d:TypeDesc},(c.argTypes[0]?).bind P.underlying=some d -> ∃ t,c.argTypes[0]? = some t/\P.underlying t=some d:=λ h=>by simpa [qb] using h
 unfold NK at h;split at h
 ·split at h
  ·rename_i hu;obtain ⟨t,ht,hu⟩:=hb2 hu;injection h with h;subst h;exact (q34 ho hc rfl ht hu).up
  ·cases h
 ·split at h
  ·rename_i t tx hts;split at h
   ·rename_i e e' hu hx;simp only [qb] at h;obtain ⟨n,hn,z,hz,zv,hzv,h⟩:=h;split at h
    ·rename_i hl;injection h with h;subst h;exact ⟨q3j ho hc rfl hts hu (.inl ⟨_,hx⟩) hn hz hzv hl,q0r _ _ _⟩
    ·cases h
   ·cases h
  ·cases h
 ·split at h
  ·rename_i hu;obtain ⟨t,ht,hu⟩:=hb2 hu;simp only [qb,qc] at h;obtain ⟨z,hz,rfl⟩:=h;exact ⟨q0a ho hc rfl ht hu hz,qyu _⟩
  ·cases h
 ·injection h with h;subst h;exact ⟨c,ho,hc,rfl⟩
 ·injection h with h;subst h;exact .inr ⟨c,ho,hc,rfl⟩
 ·cases h
theorem Fe {c:Call} {f:FuncId} {fn:Func} (hn:fn.name ≠ "runtime.NumGoroutine") (ho:o.op=.call c) (hc:c.callee=.value (.func f)) (hf:P.funcs[f]? = some fn) (hb:fn.body=none) {r:List Operand × dN}
 (h:Fv P fn c.args.toList=some r):nj P o r.1 r.2:=by
 unfold Fv at h;cases h
theorem BU (hP:cF P) {c:Call} (ho:o.op=.call c) {r:List Operand × dN} (h:yZ P c=some r):nj P o r.1 r.2:=by
 unfold yZ at h;split at h
 ·rename_i f hc;simp only [qb] at h;obtain ⟨fn,hf,h⟩:=h;split at h
  ·rename_i b hb;injection h with h;subst h
   exact ⟨c,fn,b,ho,hc,rfl,hf,hb⟩
  ·rename_i hb;exact Fe (hP.names f fn hf) ho hc hf hb h
 ·rename_i x _ hc;injection h with h;subst h;exact ⟨c,_,ho,hc,rfl⟩
 ·rename_i hc;injection h with h;subst h;exact ⟨c,_,ho,hc,rfl⟩
 ·rename_i b hc;exact q3a ho hc h
theorem Jb (hP:cF P) {r:List Operand × dN} (h:Iw P o.op=some r):nj P o r.1 r.2:=by
 unfold Iw at h;split at h
 ·rename_i ho;injection h with h;subst h;exact (qy5 (.inl ho)).up
 ·rename_i ho;injection h with h;subst h;exact (qy5 (.inr ho)).up
 ·rename_i ho;injection h with h;subst h;exact (q62 ho).up
 ·rename_i ho;simp only [qb,qc] at h;obtain ⟨z,hz,rfl⟩:=h;exact ⟨(qzx ho hz).up,q3v⟩
 ·rename_i ho;injection h with h;subst h;exact ⟨(q42 ho).up,wY⟩
 ·rename_i t parts ho;simp only [qb] at h;obtain ⟨z,hz,h⟩:=h;split at h
  ·rename_i fs hu;split at h
   ·rename_i hall;simp only [qb,qc] at h;obtain ⟨ps,hps,rfl⟩:=h;refine (qo5 ho hz hu (λ f hf=>?_) hps).up;have:=wg.1 hall f (Array.mem_toList_iff.2 hf);exact Option.isSome_iff_exists.1 this
   ·cases h
  ·rename_i hu;simp only [qb,qc] at h;obtain ⟨n,hn,ps,hps,rfl⟩:=h;exact (qqe ho hz hu hn hps).up
  ·cases h
 ·rename_i t len parts ho;split at h
  ·rename_i e hu;simp only [qb] at h;obtain ⟨n,hn,z,hz,ps,hps,h⟩:=h;split at h
   ·rename_i hc;injection h with h;subst h
    exact ⟨(qpm ho hu hn hz hps hc.1 hc.2).up,qtd⟩
   ·cases h
  ·cases h
 ·rename_i t a ho;simp only [qb] at h;obtain ⟨r',hr,h⟩:=h;split at h
  ·injection h with h;subst h;exact q35 ho hr
  ·injection h with h;subst h;exact q36 ho hr
 ·rename_i t a x ho;simp only [qb,qc] at h;obtain ⟨n,hn,rfl⟩:=h;exact ⟨q5q ho hn,q3w _⟩
 ·rename_i ho;injection h with h;subst h;exact (qw7 ho).up
 ·rename_i ho;exact ET ho h
 ·rename_i ho;injection h with h;subst h;exact (Bw ho).up
 ·rename_i ho;exact BZ ho h
 ·rename_i ho;injection h with h;subst h;exact (q0x ho).up
 ·rename_i t l c ho;split at h
  ·rename_i e hu;simp only [qb] at h;obtain ⟨b,hb,z,hz,n,hn,h⟩:=h;split at h
   ·rename_i hc;injection h with h;subst h
    exact ⟨(qvt ho hu hb hn hz hc).up,qyv⟩
   ·cases h
  ·cases h
 ·rename_i t x lo hi mx ho;split at h
  ·rename_i e hu;simp only [qb,qc] at h;obtain ⟨n,hn,rfl⟩:=h;exact (qy6 ho hu hn).up
  ·cases h
 ·rename_i t x i ho;split at h
  ·rename_i fs hu;simp only [qb] at h;obtain ⟨f,hf,n,hn,h⟩:=h;split at h
   ·cases h
   ·rename_i hn0;injection h with h;subst h
    exact (qun ho hu hf hn (by simpa using hn0)).up
  ·cases h
 ·rename_i t x i ho;split at h
  ·rename_i e hu;simp only [qb,qc] at h;obtain ⟨n,hn,rfl⟩:=h;exact (qy4 ho hu hn).up
  ·rename_i k e hu;simp only [qb,qc] at h;obtain ⟨n,hn,rfl⟩:=h;exact (qw5 ho hu hn).up
  ·cases h
 ·rename_i t x i ho;split at h
  ·rename_i hu;injection h with h;subst h;exact (qw6 ho hu).up
  ·cases h
 ·rename_i ho;injection h with h;subst h;exact (qy3 ho).up
 ·rename_i c ho;exact BU hP ho h
 ·rename_i c ho;split at h
  ·rename_i f hc;injection h with h;subst h;exact ⟨c,f,ho,hc,rfl⟩
  ·cases h
 ·rename_i x ho;injection h with h;subst h;exact .inl ⟨x,ho,rfl⟩
 ·cases h
theorem nj.mono {aop:dN} (h:nj P o xs aop):cO aop:=by
 cases aop with
 | alloc f=>exact h.2
 | eQ f=>exact h.2
 | _=>trivial
def uT (o:Oper) (aop:dN):Prop:=(∀ c,o.op ≠ .defer c)\/aop=.defer\/aop=.pure Op.fail
theorem EG {r:List Operand × dN} (h:Iw P o.op=some r):uT o r.2:=by
 by_cases hd:∃ c,o.op=.defer c
 ·obtain ⟨c,hc⟩:=hd;rw [hc] at h;simp only [Iw] at h;split at h
  ·injection h with h;subst h;exact .inr (.inl rfl)
  ·cases h
 ·exact .inl λ c hc=>hd ⟨c,hc⟩
theorem FM (hP:cF P) {r:List ba × dN} (h:dT P o=some r):∃ xs,jZ P.globals.size xs=some r.1/\nj P o xs r.2/\uT o r.2:=by
 unfold dT at h;split at h
 ·rename_i r' hr;injection h with h;subst h
  simp only [qb,qc] at hr;obtain ⟨q,hq,args,hargs,rfl⟩:=hr;exact ⟨q.1,hargs,Jb hP hq,EG hq⟩
 ·injection h with h;subst h
  exact ⟨[],rfl,(q61 []).up,.inr (.inr rfl)⟩
end
end Go.Am
namespace Go.Am
def eC (D:Nat->Prop) (θ:Th):List aD->List Deferred->Prop
 | [],[]=>True
 | d::ds,e::es=>NG D θ d e/\eC D θ ds es
 | _,_=>False
def DW (D:Nat->Prop) (θ:Th) (e:AV × Bool) (p:PanicEntry):Prop:=VR D θ e.1 p.v/\p.recovered=e.2/\p.goexit=false
def dH (D:Nat->Prop) (θ:Th):aw->List PanicEntry->Prop
 | [],[]=>True
 | e::es,p::ps=>DW D θ e p/\dH D θ es ps
 | _,_=>False
def mH (D:Nat->Prop) (θ:Th) (c:aw) (m:FrameMode):Prop :=
 match m with
 | .run=>False
 | .returning=>c=[]
 | .panicking ps=>c ≠ []/\dH D θ c ps
def mQ (D:Nat->Prop) (θ:Th) (kind:CallKind):Option aw->List Frame->Prop
 | none,_=>kind=.normal
 | some ch,c::_=>kind=.deferred/\mH D θ ch c.mode
 | some _,[]=>False
def dp:Option aw->List Frame->List Frame->Prop
 | none,cs,cs'=>cs'=cs
 | some _,c::rest,cs'=>∃ u,cs' = { c with mode:=u }::rest
 | some _,[],_=>False
def sg (D:Nat->Prop) (θ:Th) (ro:Option Nat):Option Nat->Prop
 | none=>ro=none
 | some l=>D l/\ro=some (θ.bz l)
def vE (D:Nat->Prop) (θ:Th):aC->Exit->Prop
 | .normal,.normal=>True
 | .exit i,.exit j=>j=i
 | .goto i,.goto j=>j=i
 | .ret,.ret=>True
 | .panic c,.panic ps=>c ≠ []/\dH D θ c ps
 | _,_=>False
def HV (D:Nat->Prop) (θ:Th):bg->Ending->Prop
 | .ret v,.returned c=>VR D θ v c
 | .panic c,.panicked ps=>c ≠ []/\dH D θ c ps
 | _,_=>False
section
variable {D D':Nat->Prop} {θ θ':Th}
theorem eC.up (ha:Ag D θ θ') (hd:∀ b,D b->D' b):∀ {l:List aD} {m:List Deferred},eC D θ l m->eC D' θ' l m
 | [],[],_=>trivial
 | d::ds,e::es,⟨h1,h2⟩=>by
  refine ⟨?_,eC.up ha hd h2⟩;cases d with
  | fT b=>exact ⟨hd b h1.1,by rw [(ha b h1.1).1];exact h1.2⟩
  | fn f args =>
   obtain ⟨c,cap,h3,h4,h5⟩:=h1;refine ⟨c,cap,?_,λ θ'' h''=>?_,h5.up ha hd⟩
   ·rw [h3,h4 θ' ha]
   ·rw [h4 θ'' (ha.trans h'' hd),h4 θ' ha]
 | [],_::_,h=>h.elim
 | _::_,[],h=>h.elim
theorem dH.up (ha:Ag D θ θ') (hd:∀ b,D b->D' b):∀ {l:aw} {m:List PanicEntry},dH D θ l m->dH D' θ' l m
 | [],[],_=>trivial
 | e::es,p::ps,⟨⟨h1,h2,h3⟩,h⟩=>⟨⟨h1.up ha hd,h2,h3⟩,dH.up ha hd h⟩
 | [],_::_,h=>h.elim
 | _::_,[],h=>h.elim
theorem mH.up (ha:Ag D θ θ') (hd:∀ b,D b->D' b) {c:aw} {m:FrameMode} (h:mH D θ c m):mH D' θ' c m:=by
 cases m with
 | run=>exact h.elim
 | returning=>exact h
 | panicking ps=>exact ⟨h.1,dH.up ha hd h.2⟩
theorem mQ.up (ha:Ag D θ θ') (hd:∀ b,D b->D' b) {k:CallKind} {u:Option aw} {cs:List Frame} (h:mQ D θ k u cs):mQ D' θ' k u cs:=by
 cases u with
 | none=>exact h
 | some ch =>
  cases cs with
  | nil=>exact h.elim
  | cons c r=>exact ⟨h.1,mH.up ha hd h.2⟩
theorem sg.up (ha:Ag D θ θ') (hd:∀ b,D b->D' b) {ro r:Option Nat} (h:sg D θ ro r):sg D' θ' ro r:=by
 cases r with
 | none=>exact h
 | some l=>exact ⟨hd l h.1,by rw [(ha l h.1).1];exact h.2⟩
theorem dp.refl {D:Nat->Prop} {θ:Th} {k:CallKind} {u:Option aw} {cs:List Frame} (h:mQ D θ k u cs):dp u cs cs:=by
 cases u with
 | none=>rfl
 | some ch =>
  cases cs with
  | nil=>exact h.elim
  | cons c r=>exact ⟨c.mode,rfl⟩
theorem dp.trans {u u':Option aw} (hu:u'.isSome=u.isSome) {cs cs' cs'':List Frame} (h:dp u cs cs') (h':dp u' cs' cs''):dp u cs cs'':=by
 cases u with
 | none =>
  cases u' with
  | none=>exact Eq.trans h' h
  | some _=>cases hu
 | some ch =>
  cases u' with
  | none=>cases hu
  | some ch' =>
   cases cs with
   | nil=>exact h.elim
   | cons c r =>
    obtain ⟨m,rfl⟩:=h;obtain ⟨m',rfl⟩:=h';exact ⟨m',rfl⟩
theorem lV.up (ha:Ag D θ θ') (hd:∀ b,D b->D' b) {tm:T AV} {a:Array Value} (h:lV D θ tm a):lV D' θ' tm a:=λ t v hv =>
 let ⟨c,h1,h2⟩:=h t v hv;⟨c,h1,h2.up ha hd⟩
theorem lV.put {tm:T AV} {a:Array Value} (h:lV D θ tm a) {d:Nat} (hd:d<a.size) {v:AV} {c:Value} (hv:VR D θ v c):lV D θ (tm.set d v) (a.setIfInBounds d c):=by
 intro t x hx;rw [T.aE] at hx;rw [yg]
 by_cases e:d=t
 ·subst e;simp only [xa,qc] at hx;subst hx;exact ⟨c,by simp [hd],hv⟩
 ·simp only [e,qo] at hx ⊢;exact h t x hx
theorem lV.forget {a:Array Value}:∀ (ds:List Nat) {tm:T AV},lV D θ tm a->lV D θ (forget ds tm) a
 | [],_,h=>h
 | d::ds,tm,h=>lV.forget ds (tm:=tm.put d none) (λ t v hv=>by
  rw [T.gJ] at hv;split at hv
  ·cases hv
  ·exact h t v hv)
theorem T.mM:∀ (ds:List Nat) (tm:T AV) (t:Nat),(forget ds tm).get t=if t ∈ ds then none else tm.get t
 | [],tm,t=>by simp [Am.forget]
 | d::ds,tm,t=>by
  rw [Am.forget,T.mM ds,T.gJ]
  by_cases h1:t ∈ ds
  ·simp [h1]
  ·by_cases h2:d=t
   ·simp [h2]
   ·have h3:¬ t=d:=λ e=>h2 e.symm;simp [h1,h2,h3]
end
section
variable {P:Program} {base:Nat} {D:Nat->Prop} {θ:Th} {H:AHeap} {w:World} {a:Act} {tm:T AV}
theorem vB (hh:HR P base D θ H w) (ht:lV D θ tm a.tmps) {x:Operand} {y:ba} (hc:mP P.globals.size x=some y) {v:AV} (hv:mY tm y=some v):VR D θ v (a.eval x):=by
 cases x with
 | tmp t =>
  injection hc with hc;subst hc
  obtain ⟨c,h1,h2⟩:=ht t v hv
  simpa [Act.eval,h1] using h2
 | const k =>
  simp only [mP,qb,qc] at hc;obtain ⟨u,hu,rfl⟩:=hc;injection hv with hv;subst hv
  exact KM hu
 | global g =>
  simp only [mP] at hc;split at hc
  ·rename_i hg;injection hc with hc;subst hc
   injection hv with hv;subst hv
   obtain ⟨h1,h2,h3⟩:=hh.cU g (by simpa [we] using hg);have:=VR.ptr (θ:=θ) (o:=0) h1;rw [h2,h3] at this;exact this
  ·cases hc
 | func f =>
  injection hc with hc;subst hc
  injection hv with hv;subst hv
  exact λ _ _=>rfl
theorem C5 (hh:HR P base D θ H w) (ht:lV D θ tm a.tmps):∀ {xs:List Operand} {ys:List ba},jZ P.globals.size xs=some ys -> ∀ {vs:List AV},iI tm ys=some vs->bt D θ vs (xs.map a.eval)
 | [],ys,hc,vs,hv=>by
  injection hc with hc;subst hc
  injection hv with hv;subst hv
  exact .nil
 | x::xs,ys,hc,vs,hv=>by
  simp only [jZ,qb,qc] at hc;obtain ⟨y,hy,ys',hys,rfl⟩:=hc;simp only [iI,qb,qc] at hv;obtain ⟨v,h1,vs',h2,rfl⟩:=hv;exact .cons (vB hh ht hy h1) (C5 hh ht hys h2)
theorem C4 (x:ba) (tm:T AV):(Gz x).run tm=mY tm x:=by
 cases x<;>simp [Gz,mY,T.fZ,T.get]
theorem AL:∀ (xs:List ba) (tm:T AV),(oX xs).run tm=iI tm xs
 | [],_=>rfl
 | [x],tm=>by simp [oX,iI,C4]
 | x::y::xs,tm=>by
  rw [oX,iI]
  ·simp only [C4,AL (y::xs) tm]
  ·simp
theorem JZ (a:Act):yW a.eval:=⟨λ _=>rfl,λ _=>rfl⟩
theorem PU (d:Option Nat) (v:AV) (tm:T AV):(iA d).run v tm=c5 d v tm:=by
 cases d<;>simp [iA,c5,T.tT,T.set,T.put]
end
inductive eL where
 | val (v:AV) (aM:List aD) (up:Option aw) (H:AHeap)
 | panic (c:aw) (H:AHeap)
def jP (aM:List aD) (up:Option aw) (r:bg × AHeap):eL :=
 match r.1 with
 | .ret v=>.val v aM up r.2
 | .panic c=>.panic c r.2
def eP (rt:RT) (st:St) (vs:List AV):dN->Option eL
 | .pure f=>(f vs).bind λ v=>some (.val v st.aM st.up st.H)
 | .read f=>(f vs st.H).bind λ v=>some (.val v st.aM st.up st.H)
 | .alloc f=>(f vs).bind λ r=>some (.val (r.2 st.H.next) st.aM st.up (st.H.alloc r.1))
 | .eQ f=>(f vs st.H).bind λ r=>some (.val r.1 st.aM st.up r.2)
 | .eH f=>(bN rt.call rt.round (.func f) vs st.H).bind λ r=>some (jP st.aM st.up r)
 | .eK=>match vs with
  | .fn (.func f) first cap::args=>(bN rt.call rt.round (.func f) (first++(args++cap)) st.H).bind λ r=>some (jP st.aM st.up r)
  | .fn (.yield l) first []::args=>(bN rt.call rt.round (.yield l) (first++args) st.H).bind λ r=>some (jP st.aM st.up r)
  | _=>none
 | .invoke name=>match vs with
  | .iface t v::args=>(rt.AP.nA t name).bind λ f=>(bN rt.call rt.round (.func f) (v::args) st.H).bind λ r=>some (jP st.aM st.up r)
  | _=>none
 | .recover=>match rt.ctx.round with
  | some _=>none
  | none=>match vs with
   | []=>match st.up with
    | some ((v,false)::older)=>some (.val v st.aM (some ((v,true)::older)) st.H)
    | _=>some (.val .nili st.aM st.up st.H)
   | _=>none
 | .defer=>match rt.ctx.round with
  | some _=>none
  | none=>match vs with
   | .fn (.func f) first cap::args=>some (.val .undef (.fn (.func f) (first++(args++cap))::st.aM) st.up st.H)
   | _=>none
 | .panic=>match vs with
  | [.iface t v]=>some (.panic [(.iface t v,false)] st.H)
  | _=>none
def po (put:AV->T AV->T AV) (bG:Option (List Nat)) (st:St) (k:St->ew):eL->ew
 | .val v aM up H=>k ⟨put v st.tm,aM,up,H⟩
 | .panic c H=>bG.bind λ ds=>some (.panic c,⟨forget ds st.tm,st.aM,st.up,H⟩)
theorem Hm (put:AV->T AV->T AV) (bG:Option (List Nat)) (st:St) (k:St->ew) (r:bg × AHeap):dE put bG st k r=po put bG st k (jP st.aM st.up r):=by
 unfold dE jP;split<;>rename_i h<;>rw [h]<;>rfl
theorem q6r (put:AV->T AV->T AV) (bG:Option (List Nat)) (rt:RT) (st:St) (k:St->ew) (vs:List AV) (op:dN) :
 (mN put bG op).run rt st k vs=(eP rt st vs op).bind (po put bG st k):=by
 cases op with
 | pure f=>simp only [mN,yV,eP,jj,qj];rfl
 | read f=>simp only [mN,wN,eP,jj,qj];rfl
 | alloc f=>simp only [mN,qW,eP,jj,qj];rfl
 | eQ f=>simp only [mN,Ey,eP,jj,qj];rfl
 | eH f=>simp only [mN,yQ,eP,jj,qj,Hm]
 | eK =>
  simp only [mN,tI,eP];split
  ·simp only [jj,qj,Hm]
  ·simp only [jj,qj,Hm]
  ·rename_i h1 h2;split
   ·exact (h1 _ _ _ _ rfl).elim
   ·exact (h2 _ _ _ rfl).elim
   ·rfl
 | invoke name =>
  simp only [mN,nY,eP];split
  ·simp only [jj,qj,Hm]
  ·rename_i h1;split
   ·exact (h1 _ _ _ rfl).elim
   ·rfl
 | recover =>
  simp only [mN,Li,eP];cases rt.ctx.round with
  | some l=>rfl
  | none =>
   cases vs with
   | cons x xs=>rfl
   | nil =>
    rcases hu:st.up with _|_|⟨⟨v,_|_⟩,older⟩<;>simp only [Jm,hu]<;>rfl
 | defer =>
  simp only [mN,p6,eP];cases rt.ctx.round with
  | some l=>rfl
  | none =>
   simp only;split
   ·rfl
   ·rename_i h;split
    ·exact (h _ _ _ _ rfl).elim
    ·rfl
 | panic =>
  simp only [mN,p8,eP];split
  ·simp only [Hm,jP,qj]
  ·rename_i h;split
   ·exact (h _ _ rfl).elim
   ·rfl
end Go.Am
namespace Go.Am
section moves
variable {P:Program} {b:Frame} {a:Act} {k:List Item} {cs cs':List Frame} {w w':World} {ops:Array Oper} {i:Nat} {rest:List Nat} {o:Oper}
theorem FH (ho:ops[i]? = some o) (v:Value):(b.atR a (.inRegion ops (i::rest)::k)).finish v=b.atR (a.put o.dst v) (.inRegion ops rest::k):=by
 rw [Frame.finish_atR,ho];rfl
theorem DK (ho:ops[i]? = some o) (hw:Region.wanted o (yielded ops a.tmps)=true) {v:Value} (hr:(o.semAt b.roundOf a.eval).run P w=.ok (.value v) w') :
 step P (lone (b.atR a (.inRegion ops (i::rest)::k)) cs w)=.next (lone (b.atR (a.put o.dst v) (.inRegion ops rest::k)) cs w') :=
 step_lone_go (by rw [stepGR_op ho hw,<-FH ho];simp [stepG.apply,hr])
theorem Jy (ho:ops[i]? = some o) (hw:Region.wanted o (yielded ops a.tmps)=true) (hr:(o.semAt b.roundOf a.eval).run P w=.ok .skip w') :
 step P (lone (b.atR a (.inRegion ops (i::rest)::k)) cs w)=.next (lone (b.atR (a.put o.dst undef) (.inRegion ops rest::k)) cs w') :=
 step_lone_go (by rw [stepGR_op ho hw,<-FH ho];simp [stepG.apply,hr])
theorem yK (ho:ops[i]? = some o) (hw:Region.wanted o (yielded ops a.tmps)=true) {d:Deferred} (hr:(o.semAt b.roundOf a.eval).run P w=.ok (.defer d) w') :
 step P (lone (b.atR a (.inRegion ops (i::rest)::k)) cs w)=.next (lone (b.atR (({ a with defers:=d::a.defers }:Act).put o.dst undef) (.inRegion ops rest::k)) cs w'):=by
 refine step_lone_go ?_;have:({ b.atR a (.inRegion ops (i::rest)::k) with defers:=d::a.defers }:Frame).finish undef =
  b.atR ({ a with defers:=d::a.defers }.put o.dst undef) (.inRegion ops rest::k):=by
  have:=Frame.finish_atR b { a with defers:=d::a.defers } ops i rest k undef;rw [ho] at this;exact this
 rw [stepGR_op ho hw];simp only [stepG.apply,Sem.runT_eq,hr,GStep.bare_after];exact congrArg (λ fr=>GStep.go { frame:=fr,callers:=cs,status:=.running,dying:=none } w') this
theorem OE (ho:ops[i]? = some o) (hw:Region.wanted o (yielded ops a.tmps)=true) {f:FuncId} {args:Array Value} (hr:(o.semAt b.roundOf a.eval).run P w=.ok (.enter f args) w') :
 step P (lone (b.atR a (.inRegion ops (i::rest)::k)) cs w)=.next (lone (Frame.enter P f args .normal) (b.atR a (.inRegion ops (i::rest)::k)::cs) w') :=
 step_lone_go (by rw [stepGR_op ho hw];simp [stepG.apply,hr,Frame.atR])
theorem t8 (ho:ops[i]? = some o) (hw:Region.wanted o (yielded ops a.tmps)=true) {l:Nat} {f:FuncId} {tmps:Array Value} {as body:Code} (hr:(o.semAt b.roundOf a.eval).run P w=.ok (.round l f tmps as body) w') :
 step P (lone (b.atR a (.inRegion ops (i::rest)::k)) cs w)=.next (lone (Frame.round l f tmps as body .normal) (b.atR a (.inRegion ops (i::rest)::k)::cs) w') :=
 step_lone_go (by rw [stepGR_op ho hw];simp [stepG.apply,hr,Frame.atR])
theorem uI (ho:ops[i]? = some o) (hw:Region.wanted o (yielded ops a.tmps)=true) {v:Value} (hr:(o.semAt b.roundOf a.eval).run P w=.halt (.panic v) w') :
 step P (lone (b.atR a (.inRegion ops (i::rest)::k)) cs w)=.next (lone { b.atR a (.inRegion ops (i::rest)::k) with mode:=.panicking [{ v,recovered:=false }] } cs w') :=
 step_lone_go (by rw [stepGR_op ho hw,<-Frame.raise_atR];simp [stepG.apply,hr])
theorem q25 (ho:ops[i]? = some o) (hw:Region.wanted o (yielded ops a.tmps)=true) (hb:b.roundOf=none) (hr:(o.semAt b.roundOf a.eval).run P w=.ok .recover w') {v:Value}
 (ht:tryRecover (b.atR a (.inRegion ops (i::rest)::k)) cs=some (v,cs')) :
 step P (lone (b.atR a (.inRegion ops (i::rest)::k)) cs w)=.next (lone (b.atR (a.put o.dst v) (.inRegion ops rest::k)) cs' w') :=
 step_lone_go (by
  rw [stepGR_op ho hw,<-FH ho];have hb':(b.atR a (.inRegion ops (i::rest)::k)).roundOf=none:=hb;simp [stepG.apply,hr,hb',ht])
theorem qrv (ho:ops[i]? = some o) (hw:Region.wanted o (yielded ops a.tmps)=true) (hb:b.roundOf=none) (hr:(o.semAt b.roundOf a.eval).run P w=.ok .recover w')
 (ht:tryRecover (b.atR a (.inRegion ops (i::rest)::k)) cs=none) :
 step P (lone (b.atR a (.inRegion ops (i::rest)::k)) cs w)=.next (lone (b.atR (a.put o.dst .nilIface) (.inRegion ops rest::k)) cs w') :=
 step_lone_go (by
  rw [stepGR_op ho hw,<-FH ho];have hb':(b.atR a (.inRegion ops (i::rest)::k)).roundOf=none:=hb;simp [stepG.apply,hr,hb',ht])
end moves
def yw (P:Program) (base:Nat) (call:bu):Prop :=
 ∀ (D:Nat->Prop) θ H w f vs (args:Array Value) up H' e up' kind cs,HR P base D θ H w->bt D θ vs args.toList->mQ D θ kind up cs->call f vs up H=some (e,up',H')->cK D H.next H'.next ->
  (∃ fn c,P.funcs[f]? = some fn/\fn.body=some c) /\
  ∃ θ' w' cs' fr e',Steps P (lone (Frame.enter P f args kind) cs w) (lone fr cs' w')/\fr.kind=kind/\fr.fn=f/\fr.going P w' e'/\HV (Up D H.next H'.next) θ' e e' /\
   HR P base (Up D H.next H'.next) θ' H' w'/\aX D H θ w H' θ' w'/\up'.isSome=up.isSome/\dp up cs cs'/\mQ (Up D H.next H'.next) θ' kind up' cs'
def qZ (P:Program) (base:Nat) (round:fH):Prop :=
 ∀ (D:Nat->Prop) θ H w l vs (args:Array Value) H' e (c:Frame) cs,HR P base D θ H w->bt D θ vs args.toList->round vs l H=some (e,H')->cK D H.next H'.next ->
  ∃ f tmps as body,(Instr.yield (θ.bz l) args).run P w=.ok (.round (θ.bz l) f tmps as body) w /\
  ∃ θ' w' fin,Steps P (lone (Frame.round (θ.bz l) f tmps as body .normal) (c::cs) w) (lone fin cs w') /\
   (match e with
    | .ret v=>∃ cv,VR (Up D H.next H'.next) θ' v cv/\fin=c.finish cv
    | .panic ch=>∃ ps,ch ≠ []/\dH (Up D H.next H'.next) θ' ch ps/\fin=c.raise ps) /\
   HR P base (Up D H.next H'.next) θ' H' w'/\aX D H θ w H' θ' w'
def eL.heap:eL->AHeap
 | .val _ _ _ H=>H
 | .panic _ H=>H
def Dn (P:Program) (base:Nat) (D:Nat->Prop) (θ:Th) (st:St) (b:Frame) (a:Act) (ops:Array Oper) (i:Nat) (rest:List Nat) (k:List Item) (cs:List Frame) (w:World) (o:Oper):eL->Prop
 | .val v aM up H'=>∃ θ' w' c cs' ds,Steps P (lone (b.atR a (.inRegion ops (i::rest)::k)) cs w) (lone (b.atR (({ a with defers:=ds }:Act).put o.dst c) (.inRegion ops rest::k)) cs' w') /\
  HR P base (Up D st.H.next H'.next) θ' H' w'/\aX D st.H θ w H' θ' w'/\VR (Up D st.H.next H'.next) θ' v c/\eC (Up D st.H.next H'.next) θ' aM ds/\up.isSome=st.up.isSome /\
  mQ (Up D st.H.next H'.next) θ' b.kind up cs'/\dp st.up cs cs'
 | .panic ch H'=>∃ θ' w' ps todo,Steps P (lone (b.atR a (.inRegion ops (i::rest)::k)) cs w) (lone { b.atR a todo with mode:=.panicking ps } cs w') /\
  HR P base (Up D st.H.next H'.next) θ' H' w'/\aX D st.H θ w H' θ' w'/\ch ≠ []/\dH (Up D st.H.next H'.next) θ' ch ps
section
variable {P:Program} {base:Nat} {D:Nat->Prop} {θ:Th}
theorem K6 {fr:Frame} {w:World} {e:Ending} (h:fr.going P w e) (hk:fr.kind=.normal):fr.leaving P w e:=by
 cases e with
 | returned v=>obtain ⟨h1,h2,h3⟩:=h;exact ⟨h1,h2,hk,h3⟩
 | panicked c=>exact h
 | outgrown=>trivial
theorem Is {f:FuncId} {fn:Func} {c:Code} {args:Array Value} {w:World} (hP:cF P) (hf:P.funcs[f]? = some fn) (hb:fn.body=some c):(callFunc f args).run P w=.ok (.enter f args) w:=by
 simp [callFunc,hf,hb,hP.names f fn hf]
theorem q4a {t:TypeId} {name:String} {f:Nat} (h:rk P t name=some f) (v:Value) (w:World):(method (P.types.size+Made.depth) t v name).run P w=.ok (f,v) w:=by
 unfold rk at h;simp only [qb] at h;obtain ⟨i,hi,m,hm,h⟩:=h;split at h
 ·cases h
 ·rename_i hpe;simp only [qb] at h;obtain ⟨p,hp,h⟩:=h;have hpath:m.path.toList=[]:=by
   have:m.path.isEmpty=true:=by simpa using hpe
   simpa using this
  obtain ⟨n,hn⟩:∃ n,P.types.size+Made.depth=n+1:=⟨P.types.size+99,rfl⟩
  rw [hn];obtain ⟨pf,pr⟩:=p;have hinfo:(typeInfo t).run P w=.ok i w:=by simp [typeInfo,hi]
  simp only [method,Sem.run_bind,hinfo,Result.andThen_ok,hm,hpath,follow,Sem.run_pure,hp];cases hu:P.underlying t with
  | none=>rw [hu] at h;cases h
  | some d =>
   rw [hu] at h;have hr:∀ wr,d=d->(receiverAt t (.val v) pr wr).run P w=.ok v w/\pf=f:=by
    intro wr _;cases d<;>cases pr<;>simp only [reduceCtorEq,qc] at h<;>exact ⟨by simp [receiverAt,yv hu,Place.get],h⟩
   simp [(hr _ rfl).1,(hr none rfl).2]
theorem Qk {call:bu} (hc:yw P base call) {st:St} {b:Frame} {a:Act} {ops:Array Oper} {i:Nat} {rest:List Nat} {k:List Item} {cs:List Frame} {w:World} {o:Oper}
 (ho:ops[i]? = some o) (hh:HR P base D θ st.H w) (hd:eC D θ st.aM a.defers) (hu:mQ D θ b.kind st.up cs) {f:Nat} {vs:List AV} {args:Array Value} (hv:bt D θ vs args.toList)
 (hs:(∃ fn c,P.funcs[f]? = some fn/\fn.body=some c)->step P (lone (b.atR a (.inRegion ops (i::rest)::k)) cs w)=.next (lone (Frame.enter P f args .normal) (b.atR a (.inRegion ops (i::rest)::k)::cs) w))
 {r:bg × AHeap} {u:Option aw} (hr:call f vs none st.H=some (r.1,u,r.2)) (hf:cK D st.H.next r.2.next) :
 Dn P base D θ st b a ops i rest k cs w o (jP st.aM st.up r):=by
 obtain ⟨hfn,θ',w',cs',fr,e',g1,g2,g3,g4,g5,g6,g7,g8,g9,g10⟩:=hc D θ st.H w f vs args none r.2 r.1 u .normal (b.atR a (.inRegion ops (i::rest)::k)::cs) hh hv rfl hr hf;have hcs:cs'=b.atR a (.inRegion ops (i::rest)::k)::cs:=g9;subst hcs;have hstep:=hs hfn;have hl:=K6 g4 g2;obtain ⟨e,H'⟩:=r;cases e with
 | ret v =>
  cases e' with
  | returned c =>
   refine ⟨θ',w',c,cs,a.defers,.head hstep (g1.trans (.one ?_)),g6,g7,g5,eC.up g7.ag Up.of hd,rfl,mQ.up g7.ag Up.of hu,dp.refl hu⟩;rw [step_leave_returned hl,FH ho]
  | panicked c=>exact g5.elim
  | outgrown=>exact g5.elim
 | panic ch =>
  cases e' with
  | returned c=>exact g5.elim
  | panicked ps =>
   refine ⟨θ',w',ps,.inRegion ops (i::rest)::k,.head hstep (g1.trans (.one ?_)),g6,g7,g5.1,g5.2⟩;rw [step_leave_panicked hl,Frame.raise_atR]
  | outgrown=>exact g5.elim
theorem K4 {f:eR} {first cap:List AV} {c:Value} (h:VR D θ (.fn f first cap) c):∃ x y:List Value,c=.func (dI θ f) x.toArray y.toArray/\bt D θ first x/\bt D θ cap y/\(∀ θ',Ag D θ θ'->dI θ' f=dI θ f):=by
 refine ⟨br θ first,br θ cap,h.now.symm,λ θ' ha=>?_,λ θ' ha=>?_,λ θ' ha=>?_⟩ <;>
 ·have:=(h θ' ha).trans h.now.symm;simp only [aB,Value.func.injEq] at this
  first
  | exact this.1
  | (have:=this.2.1;simpa using this)
  | (have:=this.2.2;simpa using this)
set_option maxHeartbeats 1000000 in
theorem NB (hP:cF P) {rt:RT} (hcall:yw P base rt.call) (hround:qZ P base rt.round) (hAP:rt.AP=aP P) {o:Oper} {aop:dN} {xs:List Operand} (hok:nj P o xs aop) (hdef:uT o aop)
 {ops:Array Oper} {i:Nat} {rest:List Nat} {a:Act} (ho:ops[i]? = some o) (hw:Region.wanted o (yielded ops a.tmps)=true) {st:St} {w:World} {b:Frame} {k:List Item} {cs:List Frame} {vs:List AV} {r:eL}
 (hh:HR P base D θ st.H w) (hd:eC D θ st.aM a.defers) (hu:mQ D θ b.kind st.up cs) (hb:sg D θ b.roundOf rt.ctx.round) (hv:bt D θ vs (xs.map a.eval)) (hr:eP rt st vs aop=some r)
 (hf:cK D st.H.next r.heap.next):Dn P base D θ st b a ops i rest k cs w o r:=by
 have hsame:Up D st.H.next st.H.next=D:=Up.none
 have hnd:aop ≠ .defer->aop ≠ .pure Op.fail->o.semAt b.roundOf a.eval=execOp a.eval o:=λ q1 q2=>Oper.semAt_eq _ _ _ (by
  rcases hdef with h|h|h
  ·exact h
  ·exact absurd h q1
  ·exact absurd h q2)
 cases aop with
 | pure f =>
  simp only [eP,qb,qc] at hr;obtain ⟨v,h1,rfl⟩:=hr;obtain ⟨c,g1,g2⟩:=hok D θ a.eval w vs v (JZ a) hv h1;have hsem:o.semAt b.roundOf a.eval=execOp a.eval o:=hnd (by intro q;cases q) (by intro q;injection q with q;subst q;cases h1);refine ⟨θ,w,c,cs,a.defers,.one ?_,by rw [hsame];exact hh,.refl _ _ _ _,by rw [hsame];exact g2,by rw [hsame];exact hd,rfl,by rw [hsame];exact hu,dp.refl hu⟩;rcases g1 with g1|⟨g1,rfl⟩
  ·exact DK ho hw (by rw [hsem];exact g1)
  ·exact Jy ho hw (by rw [hsem];exact g1)
 | read f =>
  simp only [eP,qb,qc] at hr;obtain ⟨v,h1,rfl⟩:=hr;obtain ⟨c,g1,g2⟩:=hok base D θ st.H a.eval w vs v hh hv h1;have hsem:o.semAt b.roundOf a.eval=execOp a.eval o:=hnd (by intro q;cases q) (by intro q;cases q);refine ⟨θ,w,c,cs,a.defers,.one ?_,by rw [hsame];exact hh,.refl _ _ _ _,by rw [hsame];exact g2,by rw [hsame];exact hd,rfl,by rw [hsame];exact hu,dp.refl hu⟩;rcases g1 with g1|⟨g1,rfl⟩
  ·exact DK ho hw (by rw [hsem];exact g1)
  ·exact Jy ho hw (by rw [hsem];exact g1)
 | alloc f =>
  simp only [eP,qb,qc] at hr;obtain ⟨⟨ob,mk⟩,h1,rfl⟩:=hr;obtain ⟨hown,w0,co,ext,c,g1,g2,g3⟩:=hok.1 D θ a.eval w vs ob mk (JZ a) hv h1;have hsem:o.semAt b.roundOf a.eval=execOp a.eval o:=hnd (by intro q;cases q) (by intro q;cases q);have hn:¬ D st.H.next:=hf _ (qf _) (ze _)
  have hag:=Th.eD θ st.H.next w0.heap.size 0 ext hn
  obtain ⟨e1,e2,e3⟩:=Th.c9 θ st.H.next w0.heap.size 0 ext
  obtain ⟨k1,k2⟩:=g3 (Up D st.H.next (st.H.next+1)) (θ.add st.H.next w0.heap.size 0 ext) st.H.next hag Up.of (.inr ⟨qf _,ze _⟩) (by rw [e1,g2.heap]) e2 e3
  have hh0:HR P base D θ st.H w0:=hh.draw g2.heap;refine ⟨θ.add st.H.next w0.heap.size 0 ext,w0.alloc co,c,cs,a.defers,.one (DK ho hw (by rw [hsem];exact g1)),?_,?_,k2,eC.up hag Up.of hd,rfl,mQ.up hag Up.of hu,dp.refl hu⟩
  ·refine hh0.alloc hn ?_ ?_ (qf _) ?_ k1
   ·rw [ug];simp
   ·intro j hj;rw [ug,qg (D5 hj)]
   ·simp
  ·exact (aX.draw (w:=w) (w':=w0) g2.heap g2.os g2.tape g2.output).trans (aX.alloc (w:=w0) hh0 hn _ _ _ _) (λ _ h=>h)
 | eQ f =>
  simp only [eP,qb,qc] at hr;obtain ⟨⟨v,H'⟩,h1,rfl⟩:=hr;obtain ⟨θ',w',c,g1,g2,g3,g4⟩:=hok.1 base D θ st.H a.eval w vs v H' hh hv h1 hf;have hsem:o.semAt b.roundOf a.eval=execOp a.eval o:=hnd (by intro q;cases q) (by intro q;cases q);refine ⟨θ',w',c,cs,a.defers,.one ?_,g2,g3,g4,eC.up g3.ag Up.of hd,rfl,mQ.up g3.ag Up.of hu,dp.refl hu⟩;rcases g1 with g1|⟨g1,rfl⟩
  ·exact DK ho hw (by rw [hsem];exact g1)
  ·exact Jy ho hw (by rw [hsem];exact g1)
 | eH f =>
  obtain ⟨c,fn,body,h1,h2,rfl,h3,h4⟩:=hok;simp only [eP,bN,jj,qj,qb,qc] at hr;obtain ⟨⟨e,u,H'⟩,hc,rfl⟩:=hr;have hsem:o.semAt b.roundOf a.eval=execOp a.eval o:=Oper.semAt_eq _ _ _ (λ c'=>by rw [h1];simp);refine Qk hcall ho hh hd hu (args:=c.args.map a.eval) (by simpa using hv) (λ _=>OE ho hw ?_) hc (by cases e<;>exact hf);rw [hsem];simp [execOp,h1,resolve,h2,Act.eval,Deferred.ofValue,invoke,Is hP h3 h4]
 | eK =>
  obtain ⟨c,x,h1,h2,rfl⟩:=hok;have hsem:o.semAt b.roundOf a.eval=execOp a.eval o:=Oper.semAt_eq _ _ _ (λ c'=>by rw [h1];simp);simp only [eP] at hr;split at hr
  ·rename_i f first cap args
   simp only [bN,jj,qj,qb,qc] at hr;obtain ⟨⟨e,u,H'⟩,hc,rfl⟩:=hr;obtain ⟨cf,ca,hce,q1,q2⟩:=hv.dW;simp only [kh,zi] at hce;obtain ⟨rfl,rfl⟩:=hce;obtain ⟨fi,ci,q3,q4,q5,_⟩:=K4 q1;refine Qk hcall ho hh hd hu (args:=(fi.toArray++c.args.map a.eval)++ci.toArray) ?_ (λ hfn=>OE ho hw ?_) hc (by cases e<;>exact hf)
   ·simpa using q4.app (q2.app q5)
   ·obtain ⟨fn,body,h3,h4⟩:=hfn;rw [hsem];simp [execOp,h1,resolve,h2,q3,dI,Deferred.ofValue,invoke,Is hP h3 h4]
  ·rename_i l first args
   simp only [bN,qb,qc] at hr;obtain ⟨⟨e,H'⟩,hc,rfl⟩:=hr;obtain ⟨cf,ca,hce,q1,q2⟩:=hv.dW;simp only [kh,zi] at hce;obtain ⟨rfl,rfl⟩:=hce;obtain ⟨fi,ci,q3,q4,q5,_⟩:=K4 q1;have hf':cK D st.H.next H'.next:=by cases e<;>exact hf
   obtain ⟨f,tmps,as,body,g1,θ',w',fin,g2,g3,g4,g5⟩:=hround D θ st.H w l (first++args) (fi.toArray++c.args.map a.eval) H' e (b.atR a (.inRegion ops (i::rest)::k)) cs hh (by simpa using q4.app q2) hc hf';have hstep:=t8 (P:=P) (b:=b) (k:=k) (cs:=cs) (w:=w) (rest:=rest) ho hw (l:=θ.bz l) (f:=f) (tmps:=tmps) (as:=as) (body:=body) (w':=w) (by
    rw [hsem];simp [execOp,h1,resolve,h2,q3,dI,Deferred.ofValue,invoke,g1])
   cases e with
   | ret v =>
    obtain ⟨cv,k1,rfl⟩:=g3;refine ⟨θ',w',cv,cs,a.defers,.head hstep ?_,g4,g5,k1,eC.up g5.ag Up.of hd,rfl,mQ.up g5.ag Up.of hu,dp.refl hu⟩;rw [FH ho] at g2;exact g2
   | panic ch =>
    obtain ⟨ps,k0,k1,rfl⟩:=g3;refine ⟨θ',w',ps,.inRegion ops (i::rest)::k,.head hstep ?_,g4,g5,k0,k1⟩;rw [Frame.raise_atR] at g2;exact g2
  ·cases hr
 | invoke m =>
  obtain ⟨c,x,h1,h2,rfl⟩:=hok;have hsem:o.semAt b.roundOf a.eval=execOp a.eval o:=Oper.semAt_eq _ _ _ (λ c'=>by rw [h1];simp);simp only [eP] at hr;split at hr
  ·rename_i t v args;simp only [bN,jj,qj,qb,qc] at hr;obtain ⟨f,hm,⟨e,u,H'⟩,hc,rfl⟩:=hr;obtain ⟨cf,ca,hce,q1,q2⟩:=hv.dW;simp only [kh,zi] at hce;obtain ⟨rfl,rfl⟩:=hce;obtain ⟨cv,q3,q4⟩:=q1.iF;rw [hAP] at hm;have hm':rk P t m=some f:=hm;refine Qk hcall ho hh hd hu (args:=#[cv]++c.args.map a.eval) (by simpa using bt.cons q4 q2) (λ hfn=>OE ho hw ?_) hc (by cases e<;>exact hf);obtain ⟨fn,body,h3,h4⟩:=hfn;rw [hsem];have hx:(#[Value.iface t cv]++c.args.map a.eval)[0]? = some (.iface t cv):=by
    rw [Array.getElem?_append];simp
   have hx2:(#[Value.iface t cv]++c.args.map a.eval).extract 1 (#[Value.iface t cv]++c.args.map a.eval).size=c.args.map a.eval:=by
    apply B6;rw [Array.toList_extract,Array.toList_append];simp [List.extract,zj]
   simp only [execOp,h1,resolve,h2,Sem.run_bind,Sem.run_pure,Result.andThen_ok,invoke,q3,hx,hx2,callMethod,program,Sem.run,q4a hm',Is hP h3 h4]
  ·cases hr
 | recover =>
  obtain ⟨c,h1,h2,rfl⟩:=hok;have hsem:o.semAt b.roundOf a.eval=execOp a.eval o:=Oper.semAt_eq _ _ _ (λ c'=>by rw [h1];simp);simp only [eP] at hr;split at hr
  ·cases hr
  ·rename_i hnone;rw [hnone] at hb;have hb:b.roundOf=none:=hb;have hrun:(o.semAt b.roundOf a.eval).run P w=.ok .recover w:=by
    rw [hsem];obtain ⟨cc,hE⟩:=G7 (ρ:=a.eval) h1 h2;rw [hE];rfl
   split at hr
   ·split at hr
    ·rename_i v older hup;injection hr with hr;subst hr
     rw [hup] at hu;cases cs with
     | nil=>exact hu.elim
     | cons c0 cs0 =>
      obtain ⟨hk,hm⟩:=hu;cases hmode:c0.mode with
      | run=>rw [hmode] at hm;exact hm.elim
      | returning=>rw [hmode] at hm;cases hm
      | panicking ps =>
       rw [hmode] at hm;obtain ⟨_,hm⟩:=hm;cases ps with
       | nil=>exact hm.elim
       | cons p ps =>
        obtain ⟨⟨m1,m2,m3⟩,m4⟩:=hm;obtain ⟨pv,pr,pg⟩:=p;simp only at m1 m2 m3;subst m2;subst m3;refine ⟨θ,w,pv,{ c0 with mode:=.panicking ({ v:=pv,recovered:=true }::ps) }::cs0,a.defers,.one ?_,by rw [hsame];exact hh,.refl _ _ _ _,by rw [hsame];exact m1,by rw [hsame];exact hd,by rw [hup];rfl,?_,?_⟩
        ·refine q25 ho hw hb hrun ?_;simp [tryRecover,Frame.atR,hk,hmode]
        ·rw [hsame];exact ⟨hk,by simp,⟨m1,rfl,rfl⟩,m4⟩
        ·rw [hup];exact ⟨_,rfl⟩
    ·rename_i hup;injection hr with hr;subst hr
     refine ⟨θ,w,.nilIface,cs,a.defers,.one (qrv ho hw hb hrun ?_),by rw [hsame];exact hh,.refl _ _ _ _,λ _ _=>rfl,by rw [hsame];exact hd,rfl,by rw [hsame];exact hu,dp.refl hu⟩;unfold tryRecover;cases hupc:st.up with
     | none =>
      rw [hupc] at hu;have hk:b.kind=.normal:=hu;simp [Frame.atR,hk]
     | some ch =>
      rw [hupc] at hu;cases cs with
      | nil=>exact hu.elim
      | cons c0 cs0 =>
       obtain ⟨hk,hm⟩:=hu;cases hmode:c0.mode with
       | run=>rw [hmode] at hm;exact hm.elim
       | returning=>simp [Frame.atR,hk,hmode]
       | panicking ps =>
        rw [hmode] at hm;obtain ⟨_,hm⟩:=hm;cases ps with
        | nil=>simp [Frame.atR,hk,hmode]
        | cons p ps =>
         cases ch with
         | nil=>exact hm.elim
         | cons e es =>
          obtain ⟨⟨m1,m2,m3⟩,m4⟩:=hm;obtain ⟨pv,pr,pg⟩:=p;obtain ⟨ev,er⟩:=e;simp only at m2 m3;subst m2;subst m3;cases pr with
          | false=>exact absurd hupc (hup _ _)
          | true=>simp [Frame.atR,hk,hmode]
   ·cases hr
 | defer =>
  obtain ⟨c,x,h1,h2,rfl⟩:=hok;simp only [eP] at hr;split at hr
  ·cases hr
  ·rename_i hnone;rw [hnone] at hb;have hb:b.roundOf=none:=hb;split at hr
   ·rename_i f first cap args
    injection hr with hr;subst hr
    obtain ⟨cf,ca,hce,q1,q2⟩:=hv.dW;simp only [kh,zi] at hce;obtain ⟨rfl,rfl⟩:=hce;obtain ⟨fi,ci,q3,q4,q5,q6⟩:=K4 q1;refine ⟨θ,w,undef,cs,{ target:=.fn (.func f) ci.toArray,args:=fi.toArray++c.args.map a.eval }::a.defers,.one ?_,by rw [hsame];exact hh,.refl _ _ _ _,.undef,?_,rfl,by rw [hsame];exact hu,dp.refl hu⟩
    ·refine yK ho hw ?_;rw [hb,Oper.semAt_none];simp [execOp,h1,resolve,h2,q3,dI,Deferred.ofValue]
    ·rw [hsame];exact ⟨⟨_,_,rfl,λ _ _=>rfl,by simpa using q4.app (q2.app q5)⟩,hd⟩
   ·cases hr
 | panic =>
  simp only [eP] at hr;split at hr
  ·rename_i t v;injection hr with hr;subst hr
   obtain ⟨x,rfl,q1⟩:=hv.nh;obtain ⟨cv,q3,q4⟩:=q1.iF;have hrun:(o.semAt b.roundOf a.eval).run P w=.halt (.panic (a.eval x)) w:=by
    rcases hok with ⟨y,h1,hy⟩|⟨c,h1,h2,hy⟩
    ·simp only [zi,od] at hy;subst hy;rw [Oper.semAt_eq _ _ _ (λ c'=>by rw [h1];simp)];simp [execOp,h1,q3,Instr.panic,goPanic]
    ·rw [Oper.semAt_eq _ _ _ (λ c'=>by rw [h1];simp)];obtain ⟨cc,hE⟩:=G7 (ρ:=a.eval) h1 h2;rw [hE,C2 hy.symm];simp [builtin,q3,Instr.panic,goPanic]
   refine ⟨θ,w,[{ v:=a.eval x,recovered:=false }],.inRegion ops (i::rest)::k,.one (uI ho hw hrun),by rw [hsame];exact hh,.refl _ _ _ _,by simp,?_⟩;rw [hsame];exact ⟨⟨q1,rfl,rfl⟩,trivial⟩
  ·cases hr
end
end Go.Am
namespace Go.Am
def bY (s:aL) (tm:T AV):Option Bool :=
 match s.guard with
 | none=>some true
 | some g=>cB g.2 (tm.get g.1)
theorem Np (s:aL) (hc:s.eO=false) (rt:RT) (K:St->ew) (st:St) :
 (ep s).run rt K st=(bY s st.tm).bind λ w=>cond w ((iI st.tm s.args).bind λ vs=>(eP rt st vs s.op).bind (po (c5 s.dst) s.bG st K)) (K ⟨c5 s.dst .undef st.tm,st.aM,st.up,st.H⟩):=by
 have hput:(iA s.dst).run=c5 s.dst:=by funext v tm;exact PU _ _ _
 unfold ep bY;rw [hc];cases hg:s.guard with
 | none=>simp only [qj,xf,AL,q6r,hput]
 | some g=>simp only [AL,q6r,hput,T.fZ,T.get]
theorem qns (s:aL) (hc:s.eO=true) {d:Nat} (hd:s.dst=some d) (rt:RT) (K:St->ew) (st:St) :
 (ep s).run rt K st=(bY s st.tm).bind λ w=>cond w ((iI st.tm s.args).bind λ vs=>cond (mE (λ t=>t.get d) st vs s.op) (K st) none) (K st):=by
 have hget:(T.kN (α:=AV) (T.path d)).run=λ t=>t.get d:=by funext t;exact T.fZ _ _
 unfold ep bY;rw [hc,hd];cases hg:s.guard with
 | none=>simp only [qj,xf,AL,hget]
 | some g =>
  simp only [AL,hget];rw [show (T.kN (T.path g.1)).run st.tm=st.tm.get g.1 from T.fZ _ _]
theorem ql5 (s:aL) (hc:s.eO=true) (hd:s.dst=none) (rt:RT) (K:St->ew) (st:St):(ep s).run rt K st=none:=by
 unfold ep;rw [hc,hd];cases s.guard<;>rfl
def ve (call:bu):Prop:=∀ f vs up H e up' H',call f vs up H=some (e,up',H')->Ext H H'
def sF (round:fH):Prop:=∀ vs l H e H',round vs l H=some (e,H')->Ext H H'
def oK:aj->Prop
 | .region steps=>∀ s ∈ steps,cO s.op
 | .seq a b=>oK a/\oK b
 | .cond _ a b=>oK a/\oK b
 | .block _ b=>oK b
 | .loop _ b=>oK b
 | .scope b=>oK b
 | _=>True
def xS (fn:cm):Prop:=oK fn.body /\ ∀ lp ∈ fn.loops,oK lp.assign/\oK lp.body
def LM (AP:gj):Prop:=∀ f fn,AP.func f=some fn->xS fn
section
variable {rt:RT} (hc:ve rt.call) (hr:sF rt.round)
include hc hr
theorem L5 {op:dN} (ho:cO op) {st:St} {vs:List AV} {r:eL} (h:eP rt st vs op=some r):Ext st.H r.heap:=by
 have hres:∀ (q:bg × AHeap),Ext st.H q.2->Ext st.H (jP st.aM st.up q).heap:=by
  intro q hq;obtain ⟨e,H'⟩:=q;cases e<;>exact hq
 cases op with
 | pure f=>simp only [eP,qb,qc] at h;obtain ⟨_,_,rfl⟩:=h;exact Ext.refl _
 | read f=>simp only [eP,qb,qc] at h;obtain ⟨_,_,rfl⟩:=h;exact Ext.refl _
 | alloc f=>simp only [eP,qb,qc] at h;obtain ⟨⟨ob,mk⟩,h1,rfl⟩:=h;exact Ext.alloc _ _ (ho _ _ _ h1)
 | eQ f=>simp only [eP,qb,qc] at h;obtain ⟨⟨v,H'⟩,h1,rfl⟩:=h;exact ho _ _ _ _ h1
 | eH f =>
  simp only [eP,bN,jj,qj,qb,qc] at h;obtain ⟨⟨e,u,H'⟩,h1,rfl⟩:=h;exact hres _ (hc _ _ _ _ _ _ _ h1)
 | eK =>
  simp only [eP] at h;split at h
  ·simp only [bN,jj,qj,qb,qc] at h;obtain ⟨⟨e,u,H'⟩,h1,rfl⟩:=h;exact hres _ (hc _ _ _ _ _ _ _ h1)
  ·simp only [bN,qb,qc] at h;obtain ⟨⟨e,H'⟩,h1,rfl⟩:=h;exact hres _ (hr _ _ _ _ _ h1)
  ·cases h
 | invoke m =>
  simp only [eP] at h;split at h
  ·simp only [bN,jj,qj,qb,qc] at h;obtain ⟨_,_,⟨e,u,H'⟩,h1,rfl⟩:=h;exact hres _ (hc _ _ _ _ _ _ _ h1)
  ·cases h
 | recover =>
  simp only [eP] at h;split at h
  ·cases h
  ·split at h
   ·split at h<;>(injection h with h;subst h;exact Ext.refl _)
   ·cases h
 | defer =>
  simp only [eP] at h;split at h
  ·cases h
  ·split at h
   ·injection h with h;subst h;exact Ext.refl _
   ·cases h
 | panic =>
  simp only [eP] at h;split at h
  ·injection h with h;subst h;exact Ext.refl _
  ·cases h
theorem q2d {op:dN} (ho:cO op) {st:St} {vs:List AV} {r:eL} (h:eP rt st vs op=some r):st.H.next<=r.heap.next:=(L5 hc hr ho h).1
theorem q7d {s:aL} (ho:cO s.op) {K:St->ew} (hK:∀ st r,K st=some r->Ext st.H r.2.H) {st:St} {r:aC × St} (h:(ep s).run rt K st=some r):Ext st.H r.2.H:=by
 cases hch:s.eO with
 | false =>
  rw [Np s hch,qb] at h;obtain ⟨w,hw,h⟩:=h;cases w with
  | false =>
   simp only [za] at h;have h9:=hK _ _ h;exact h9
  | true =>
   simp only [xf,qb] at h;obtain ⟨vs,_,q,hq,h⟩:=h;have h1:=L5 hc hr ho hq;cases q with
   | val v d u H'=>exact Ext.trans h1 (hK _ _ h)
   | panic c H' =>
    simp only [po,qb,qc] at h;obtain ⟨_,_,rfl⟩:=h;exact h1
 | true =>
  cases hd:s.dst with
  | none=>rw [ql5 s hch hd] at h;cases h
  | some d =>
   rw [qns s hch hd,qb] at h;obtain ⟨w,hw,h⟩:=h;cases w with
   | false =>
    simp only [za] at h;exact hK _ _ h
   | true =>
    simp only [xf,qb] at h;obtain ⟨vs,_,h⟩:=h;rcases j8 h with ⟨_,h⟩|⟨_,h⟩
    ·exact hK _ _ h
    ·cases h
theorem PK:∀ {l:List aL},(∀ s ∈ l,cO s.op) -> ∀ {st:St} {r:aC × St},(eG l).run rt st=some r->Ext st.H r.2.H
 | [],_,st,r,h=>by injection h with h;subst h;exact Ext.refl _
 | s::l,ho,st,r,h=>q7d hc hr (ho s (by simp)) (λ st r h=>PK (λ s hs=>ho s (by simp [hs])) h) h
theorem q07 {l:List aL} (hl:∀ s ∈ l,cO s.op) {st:St} {r:aC × St} (h:(eG l).run rt st=some r):st.H.next<=r.2.H.next:=(PK hc hr hl h).1
omit hc hr in
theorem Pa {body:St->ew} (hb:∀ st r,body st=some r->Ext st.H r.2.H) (ah:Option (List Nat)):∀ (n:Nat) (st:St) (r:aC × St),eB ah body n st=some r->Ext st.H r.2.H
 | 0,st,r,h=>by cases h
 | n+1,st,r,h=>by
  simp only [eB,qb] at h;obtain ⟨q,hq,h⟩:=h;have h1:=hb _ _ hq;have h1:Ext st.H q.2.H:=by cases ah<;>exact h1
  split at h
  ·exact Ext.trans h1 (Pa hb ah n _ _ h)
  ·injection h with h;subst h;exact h1
omit hc hr in
theorem q3u {body:St->ew} (hb:∀ st r,body st=some r->Ext st.H r.2.H) (ah:Option (List Nat)) (n:Nat) (st:St) (r:aC × St) (h:eB ah body n st=some r):st.H.next<=r.2.H.next:=(Pa hb ah n st r h).1
omit hr in
theorem P8 {st:St} {k:Nat} {H0:AHeap} {aM:List aD} {d:Nat} {v:AV} {r:aC × St} (h0:Ext st.H H0) (h:fN rt.call rt.round rt.ctx st k H0 aM d v=some r):Ext st.H r.2.H:=by
 unfold fN at h;split at h
 ·simp only [bN,jj,qj,qb] at h;obtain ⟨⟨e,u,H'⟩,h1,h⟩:=h;have h2:=(h0.trans (Ext.alloc _ _ rfl)).trans (hc _ _ _ _ _ _ _ h1);unfold GQ at h;split at h
  ·injection h with h;subst h;exact h2
  ·split at h
   ·cases h
   ·rename_i hg;injection h with h;subst h;exact h2.trans (Ext.set hg _ (λ _=>rfl))
   ·cases h
 ·cases h
omit hr in
theorem q00 {st:St} {k:Nat} {H0:AHeap} {aM:List aD} {d:Nat} {v:AV} {r:aC × St} (h0:Ext st.H H0) (h:fN rt.call rt.round rt.ctx st k H0 aM d v=some r):st.H.next<=r.2.H.next:=(P8 hc h0 h).1
theorem sY:∀ {c:aj},oK c -> ∀ {st:St} {r:aC × St},(aY c).run rt st=some r->Ext st.H r.2.H
 | .skip,_,st,r,h=>by injection h with h;subst h;exact Ext.refl _
 | .label _,_,st,r,h=>by injection h with h;subst h;exact Ext.refl _
 | .region steps,hm,st,r,h=>PK hc hr hm h
 | .seq a b,hm,st,r,h=>by
  simp only [aY,qb] at h;obtain ⟨q,hq,h⟩:=h;have h1:=sY hm.1 hq;unfold o9 at h;split at h
  ·exact Ext.trans h1 (sY hm.2 h)
  ·injection h with h;subst h;exact h1
 | .cond c a b,hm,st,r,h=>by
  simp only [aY,qb] at h;obtain ⟨v,hv,h⟩:=h;unfold pz at h;split at h
  ·rcases j8 h with ⟨_,h⟩|⟨_,h⟩
   ·exact sY hm.1 h
   ·exact sY hm.2 h
  ·cases h
 | .block id b,hm,st,r,h=>by
  simp only [aY,qb] at h;obtain ⟨q,hq,h⟩:=h;have h1:=sY (c:=b) hm hq;unfold gH at h;split at h<;>(injection h with h;subst h;exact h1)
 | .loop ah b,hm,st,r,h=>Pa (λ st r h=>sY (c:=b) hm h) ah _ _ _ h
 | .exit _,_,st,r,h=>by injection h with h;subst h;exact Ext.refl _
 | .goto _,_,st,r,h=>by injection h with h;subst h;exact Ext.refl _
 | .ret,_,st,r,h=>by injection h with h;subst h;exact Ext.refl _
 | .stuck,_,st,r,h=>by cases h
 | .scope b,hm,st,r,h=>by
  simp only [aY,qb] at h;obtain ⟨q,hq,h⟩:=h;have h1:=sY (c:=b) hm hq;unfold ik at h;split at h
  ·rcases j8 h with ⟨_,h⟩|⟨_,h⟩
   ·cases h
   ·injection h with h;subst h;exact h1
  ·injection h with h;subst h;exact h1
 | .rangeFunc f k,_,st,r,h=>by
  simp only [aY,qb] at h;obtain ⟨v,hv,h⟩:=h;unfold mA at h;split at h
  ·exact P8 hc (Ext.alloc _ _ rfl) h
  ·simp only [qb] at h;obtain ⟨d,_,h⟩:=h;exact P8 hc (Ext.refl _) h
theorem GJ {c:aj} (hm:oK c) {st:St} {r:aC × St} (h:(aY c).run rt st=some r):st.H.next<=r.2.H.next:=(sY hc hr hm h).1
end
theorem K9 {call:bu} (hc:ve call) {rs:List cu} {tm:T AV}:∀ {ds:List aD} {m:Option aw} {H:AHeap} {r:bg × AHeap},bA call rs tm ds m H=some r->Ext H r.2
 | [],none,H,r,h=>by
  simp only [bA,qb,qc] at h;obtain ⟨_,_,rfl⟩:=h;exact Ext.refl _
 | [],some c,H,r,h=>by injection h with h;subst h;exact Ext.refl _
 | .fT b::ds,m,H,r,h=>by
  simp only [bA] at h;split at h
  ·rename_i hg;exact (Ext.set hg _ (λ _=>rfl)).trans (K9 (H:=H.set b _) hc h)
  ·cases h
 | .fn (.func f) args::ds,m,H,r,h=>by
  simp only [bA,qb] at h;obtain ⟨⟨e,u,H'⟩,h1,h⟩:=h;have h2:=hc _ _ _ _ _ _ _ h1;split at h
  ·simp only [qb] at h;obtain ⟨m',_,h⟩:=h;exact Ext.trans h2 (K9 hc h)
  ·cases h
 | .fn (.yield _) _::_,_,_,_,h=>by simp [bA] at h
theorem qpl {call:bu} (hc:ve call) {rs:List cu} {tm:T AV} {ds:List aD} {m:Option aw} {H:AHeap} {r:bg × AHeap} (h:bA call rs tm ds m H=some r):H.next<=r.2.next:=(K9 hc h).1
theorem q05 {H H':AHeap} {l:Nat} {s:i7} {p:Option eI} (h:bJ H l s p=some H'):Ext H H':=by
 unfold bJ at h;split at h
 ·rename_i hg;injection h with h;subst h;exact Ext.set hg _ (λ _=>rfl)
 ·cases h
theorem qt3 {H H':AHeap} {l:Nat} (h:beginRound H l=some H'):Ext H H':=by
 unfold beginRound at h;split at h
 ·rename_i hg;injection h with h;subst h;exact Ext.set hg _ (λ _=>rfl)
 ·cases h
theorem qzd {H H':AHeap} {l:Nat} {s:i7} {p:Option eI} (h:bJ H l s p=some H'):H'.next=H.next:=by
 unfold bJ at h;split at h
 ·injection h with h;subst h;rfl
 ·cases h
theorem qrz {H H':AHeap} {l:Nat} (h:beginRound H l=some H'):H'.next=H.next:=by
 unfold beginRound at h;split at h
 ·injection h with h;subst h;rfl
 ·cases h
theorem Kq {AP:gj} (hp:LM AP) {call:bu} (hc:ve call) (m:Nat):∀ n,sF (rounds AP call m n)
 | 0=>λ vs l H e H' h=>by cases h
 | n+1=>λ vs l H e H' h=>by
  have ih:=Kq hp hc m n;simp only [rounds,roundOf] at h;split at h
  ·rename_i st pd f k tm d hg;simp only [qb] at h;obtain ⟨fn,hfn,lp,hlp,tm1,_,q,hq,h⟩:=h;have hlm:oK lp.assign/\oK lp.body:=(hp f fn hfn).2 lp (by rw [jO] at hlp;exact zg hlp);have h1:=sY (rt:=⟨AP,call,rounds AP call m n,m,⟨some l,f⟩⟩) hc ih hlm.1 hq;have h1:Ext H q.2.H:=h1;split at h
   ·simp only [qb] at h;obtain ⟨H2,hb,q2,hq2,h⟩:=h;have h2:=sY (rt:=⟨AP,call,rounds AP call m n,m,⟨some l,f⟩⟩) hc ih hlm.2 hq2;have h2:Ext H2 q2.2.H:=h2;have h3:=(h1.trans (qt3 hb)).trans h2;rcases j8 h with ⟨_,h⟩|⟨_,h⟩
    ·unfold AW at h;split at h
     ·injection h with h;injection h with _ h;subst h
      exact h3
     ·simp only [qb,qc,xn] at h;obtain ⟨H3,h4,_,rfl⟩:=h;exact h3.trans (q05 h4)
    ·cases h
   ·cases h
  ·cases h
theorem qxf {AP:gj} (hp:LM AP) {call:bu} (ih:ve call) (n:Nat):ve (AY AP call n) :=
 λ f vs up H e up' H' h=>by
  simp only [AY,qb] at h;obtain ⟨fn,hfn,q,hq,h⟩:=h;have h1:=sY (rt:=⟨AP,call,rounds AP call n n,n,⟨none,f⟩⟩) ih (Kq hp ih n n) (hp f fn hfn).1 hq;have h1:Ext H q.2.H:=h1;have hfin:∀ m,((bA call fn.results q.2.tm q.2.aM m q.2.H).bind λ z=>some (z.1,q.2.up,z.2))=some (e,up',H')->Ext H H':=by
   intro m h;simp only [qb,qc,xn] at h;obtain ⟨z,hz,_,_,rfl⟩:=h;exact Ext.trans h1 (K9 ih hz)
  unfold mh at h;split at h
  ·exact hfin _ h
  ·exact hfin _ h
  ·exact hfin _ h
  ·cases h
theorem qrs {AP:gj} (hp:LM AP) {told:bu} (ht:ve told):∀ n,ve (gF AP told n)
 | 0=>ht
 | n+1=>λ f vs up H e up' H' h=>by
  simp only [gF] at h;split at h
  ·rename_i r hr;injection h with h;subst h
   exact ht _ _ _ _ _ _ _ hr
  ·exact qxf hp (qrs hp ht n) n _ _ _ _ _ _ _ h
end Go.Am
namespace Go.Am
abbrev kL:Machine->Prop:=λ _=>True
structure SR (P:Program) (base:Nat) (D:Nat->Prop) (θ:Th) (b:Frame) (nt:Nat) (rd:Option Nat) (st:St) (a:Act) (cs:List Frame) (w:World):Prop where
 heap:HR P base D θ st.H w
 oY:lV D θ st.tm a.tmps
 size:nt<=a.tmps.size
 aM:eC D θ st.aM a.defers
 up:mQ D θ b.kind st.up cs
 round:sg D θ b.roundOf rd
def Out (P:Program) (base:Nat) (D:Nat->Prop) (θ:Th) (b:Frame) (nt:Nat) (rd:Option Nat) (k:List Item) (st:St) (cs:List Frame) (w:World) (m:Machine) (e:aC) (st':St):Prop :=
 ∃ θ' a' w' cs' e',ArrivesIn kL P m b k cs' e' a' w'/\SR P base (Up D st.H.next st'.H.next) θ' b nt rd st' a' cs' w'/\aX D st.H θ w st'.H θ' w'/\vE (Up D st.H.next st'.H.next) θ' e e' /\
  st'.up.isSome=st.up.isSome/\dp st.up cs cs'
section
variable {P:Program} {base:Nat} {D:Nat->Prop} {θ:Th}
theorem Out.after {b:Frame} {nt:Nat} {rd:Option Nat} {k:List Item} {st bS st':St} {cs cs1:List Frame} {w w1:World} {m m1:Machine} {e:aC} {θ1:Th} (hs:Steps P m m1)
 (hg:aX D st.H θ w bS.H θ1 w1) (hu:bS.up.isSome=st.up.isSome) (ht:dp st.up cs cs1) (hn:bS.H.next<=st'.H.next)
 (h:Out P base (Up D st.H.next bS.H.next) θ1 b nt rd k bS cs1 w1 m1 e st'):Out P base D θ b nt rd k st cs w m e st':=by
 obtain ⟨θ',a',w',cs',e',h1,h2,h3,h4,h5,h6⟩:=h;rw [Up.up hg.next hn] at h2 h4;exact ⟨θ',a',w',cs',e',.of_steps (StepsIn.of_steps hs) h1,h2,hg.trans h3 Up.of,h4,h5.trans hu,dp.trans hu ht h6⟩
theorem sB {α:Type}:∀ {l:List (Option α)} {r:List α},bX l=some r->r.length=l.length /\ ∀ (i:Nat) (x:α),r[i]? = some x->l[i]? = some (some x)
 | [],r,h=>by injection h with h;subst h;exact ⟨rfl,λ i x hx=>by simp at hx⟩
 | y::l,r,h=>by
  simp only [bX,qb,qc] at h;obtain ⟨a,rfl,l',hl,rfl⟩:=h;obtain ⟨h1,h2⟩:=sB hl;refine ⟨by simp [h1],λ i x hx=>?_⟩;cases i with
  | zero=>simpa using hx
  | succ i=>simpa using h2 i x (by simpa using hx)
theorem Gg {ops:Array Oper} {l:List (List ba × dN)} {safe:Nat->Option (List Nat)} {q:Bool × Nat} {s:aL} (h:fM ops l safe q=some s) :
 ∃ o a g,ops[q.2]? = some o/\l[q.2]? = some a/\guardOf ops o.guard=some g/\s = { eO:=q.1,dst:=o.dst,guard:=g,args:=a.1,op:=a.2,bG:=safe q.2 }:=by
 simp only [fM,qb,qc] at h;obtain ⟨o,ho,a,ha,g,hg,rfl⟩:=h;exact ⟨o,a,g,ho,ha,hg,rfl⟩
theorem ND {ops:Array Oper} {o:Oper} {s:aL} (hg:guardOf ops o.guard=some s.guard) {tm:T AV} {a:Array Value} (ht:lV D θ tm a) {q:Bool} (h:bY s tm=some q) :
 Region.wanted o (yielded ops a)=q:=by
 unfold bY at h;unfold Region.wanted;cases ho:o.guard with
 | none =>
  rw [ho] at hg;injection hg with hg
  rw [<-hg] at h;injection h
 | some g =>
  obtain ⟨j,want⟩:=g;rw [ho] at hg;simp only [guardOf,qb,qc] at hg;obtain ⟨t,⟨oj,hj1,hj2⟩,hg⟩:=hg;rw [<-hg] at h;simp only at h;have hy:((ops[j]?).bind (·.dst)).bind (a[·]?)=a[t]?:=by rw [hj1];simp [hj2]
  simp only [yielded,hy];unfold cB at h;split at h
  ·rename_i p hp;obtain ⟨c,h1,h2⟩:=ht t _ hp;injection h with h
   rw [h1,<-h2.now];simp only [aB];cases p<;>cases want<;>cases q<;>simp_all
  ·rename_i hp;obtain ⟨c,h1,h2⟩:=ht t _ hp;injection h with h
   rw [h1,<-h2.now];simp only [aB];subst h;rfl
  ·cases h
theorem CP {nt:Nat} {tm:T AV} {a:Act} {dst:Option Nat} (hd:∀ d,dst=some d->d<nt) (hs:nt<=a.tmps.size) (ht:lV D θ tm a.tmps) {v:AV} {c:Value} (hv:VR D θ v c) :
 lV D θ (c5 dst v tm) (a.put dst c).tmps/\nt<=(a.put dst c).tmps.size/\(a.put dst c).defers=a.defers:=by
 cases dst with
 | none=>exact ⟨ht,hs,rfl⟩
 | some d =>
  refine ⟨ht.put (qk (hd d rfl) hs) hv,?_,rfl⟩
  simpa [Act.put] using hs
theorem q4d (hP:cF P) {rt:RT} (hcall:yw P base rt.call) (hround:qZ P base rt.round) (hAP:rt.AP=aP P) (hcm:ve rt.call) (hrm:sF rt.round)
 {ops:Array Oper} {o:Oper} {i:Nat} {rest:List Nat} {s:aL} {ca:List ba × dN} (ho:ops[i]? = some o) (hca:dT P o=some ca) (hg:guardOf ops o.guard=some s.guard) (h1:s.eO=false) (h2:s.dst=o.dst) (h3:s.args=ca.1) (h4:s.op=ca.2)
 {b:Frame} {nt:Nat} (hdst:kY nt o=true) {k:List Item} {st:St} {a:Act} {cs:List Frame} {w:World} (hS:SR P base D θ b nt rt.ctx.round st a cs w) {K:St->ew} {r:aC × St}
 (hKm:∀ st r,K st=some r->st.H.next<=r.2.H.next) (h:(ep s).run rt K st=some r) (hf:cK D st.H.next r.2.H.next)
 (hnext:∀ D1 θ1 bS a1 cs1 w1,SR P base D1 θ1 b nt rt.ctx.round bS a1 cs1 w1->K bS=some r->cK D1 bS.H.next r.2.H.next->Out P base D1 θ1 b nt rt.ctx.round k bS cs1 w1 (lone (b.atR a1 (.inRegion ops rest::k)) cs1 w1) r.1 r.2) :
 Out P base D θ b nt rt.ctx.round k st cs w (lone (b.atR a (.inRegion ops (i::rest)::k)) cs w) r.1 r.2:=by
 have hdd:∀ d,o.dst=some d->d<nt:=by
  intro d hd;unfold kY at hdst;rw [hd] at hdst
  simpa [we] using hdst
 rw [Np s h1,qb] at h;obtain ⟨q,hq,h⟩:=h;have hwant:=ND hg hS.oY hq;cases q with
 | false =>
  simp only [za] at h;obtain ⟨p1,p2,p3⟩:=CP (dst:=o.dst) hdd hS.size hS.oY (VR.undef (D:=D) (θ:=θ));rw [h2] at h;have hn:=hKm _ _ h;have hsk:=stepR_op_skip (P:=P) (b:=b) (a:=a) (k:=k) (cs:=cs) (w:=w) (ops:=ops) (i:=i) (rest:=rest) (by simp [ho,hwant]);rw [ho] at hsk;refine Out.after (.one hsk) (aX.refl D st.H θ w) rfl (dp.refl hS.up) hn ?_;rw [Up.none];exact hnext D θ ⟨c5 o.dst .undef st.tm,st.aM,st.up,st.H⟩ _ cs w ⟨hS.heap,p1,p2,by rw [show (a.put ((some o).bind (·.dst)) undef).defers=a.defers from p3];exact hS.aM,hS.up,hS.round⟩ h hf
 | true =>
  simp only [xf,qb] at h;obtain ⟨vs,hvs,res,hres,h⟩:=h;obtain ⟨xs,hxs,hok,hdef⟩:=FM hP hca;rw [h3] at hvs;rw [h4] at hres;have hv:=C5 (a:=a) hS.heap hS.oY hxs hvs;have hm1:=q2d hcm hrm hok.mono hres;have hle:res.heap.next<=r.2.H.next:=by
   cases res with
   | val v d u H'=>exact hKm _ _ h
   | panic c H' =>
    simp only [po,qb,qc] at h;obtain ⟨_,_,rfl⟩:=h;exact qf _
  have hout:=NB hP hcall hround hAP hok hdef (rest:=rest) (k:=k) ho hwant hS.heap hS.aM hS.up hS.round hv hres (hf.left hle);cases res with
  | val v d u H' =>
   obtain ⟨θ',w',c,cs',ds,g1,g2,g3,g4,g5,g6,g7,g8⟩:=hout;simp only [po,h2] at h;have hag:=g3.ag;obtain ⟨p1,p2,p3⟩:=CP (a:={ a with defers:=ds }) (dst:=o.dst) hdd hS.size (hS.oY.up hag Up.of) g4;refine Out.after (bS:=⟨c5 o.dst v st.tm,d,u,H'⟩) g1 g3 g6 g8 hle ?_;exact hnext _ θ' _ _ cs' w' ⟨g2,p1,p2,by rw [p3];exact g5,g7,sg.up hag Up.of hS.round⟩ h (hf.right hm1)
  | panic c H' =>
   obtain ⟨θ',w',ps,todo,g1,g2,g3,g4,g5⟩:=hout;simp only [po,qb,qc] at h;obtain ⟨ds,hds,rfl⟩:=h;have hag:=g3.ag;refine ⟨θ',a,w',cs,.panic ps,⟨todo,StepsIn.of_steps g1⟩,⟨g2,lV.forget ds (hS.oY.up hag Up.of),hS.size,eC.up hag Up.of hS.aM,mQ.up hag Up.of hS.up,sg.up hag Up.of hS.round⟩,g3,⟨g4,g5⟩,rfl,dp.refl hS.up⟩
theorem Mc (hP:cF P) {ops:Array Oper} {l:List (List ba × dN)} (hl:bX (ops.toList.map (dT P))=some l) {safe:Nat->Option (List Nat)} {qs:List (Bool × Nat)} {steps:List aL}
 (h:bX (qs.map (fM ops l safe))=some steps):∀ s ∈ steps,cO s.op:=by
 intro s hs;obtain ⟨i,hi⟩:=ki hs;have:=(sB h).2 i s hi;rw [xg,xe] at this;obtain ⟨q,_,hq⟩:=this;obtain ⟨o,a,g,ho,ha,_,rfl⟩:=Gg hq;have:=(sB hl).2 _ a ha;rw [xg,xe] at this;obtain ⟨o',_,hco⟩:=this;obtain ⟨xs,_,hok,_⟩:=FM hP hco;exact hok.mono
theorem qvj (hP:cF P) {rt:RT} (hcall:yw P base rt.call) (hround:qZ P base rt.round) (hAP:rt.AP=aP P) (hcm:ve rt.call) (hrm:sF rt.round)
 {ops:Array Oper} {nt:Nat} (hdst:ops.toList.all (kY nt)=true) {l:List (List ba × dN)} (hl:bX (ops.toList.map (dT P))=some l) {b:Frame} {k:List Item} {safe:Nat->Option (List Nat)} :
 ∀ (todo:List Nat) {steps:List aL},bX (todo.map λ i=>fM ops l safe (false,i))=some steps -> ∀ {D:Nat->Prop} {θ:Th} {st:St} {a:Act} {cs:List Frame} {w:World} {r:aC × St},
  SR P base D θ b nt rt.ctx.round st a cs w->(eG steps).run rt st=some r->cK D st.H.next r.2.H.next->Out P base D θ b nt rt.ctx.round k st cs w (lone (b.atR a (.inRegion ops todo::k)) cs w) r.1 r.2
 | [],steps,hs,D,θ,st,a,cs,w,r,hS,h,hf=>by
  injection hs with hs;subst hs
  injection h with h;subst h
  refine ⟨θ,a,w,cs,.normal,StepsIn.one trivial stepR_region_end,by rw [Up.none];exact hS,aX.refl _ _ _ _,trivial,rfl,dp.refl hS.up⟩
 | i::todo,steps,hs,D,θ,st,a,cs,w,r,hS,h,hf=>by
  simp only [kh,bX,qb,qc] at hs;obtain ⟨s,hs1,rest,hs2,rfl⟩:=hs;obtain ⟨o,ca,g,ho,hla,hg,rfl⟩:=Gg hs1;have hco:dT P o=some ca:=by
   have:=(sB hl).2 _ ca hla;rw [xg,j6,ho] at this
   simpa using this
  have hmem:kY nt o=true:=by
   rw [wg] at hdst;exact hdst o (by have:=Array.mem_of_getElem? ho;simpa using this)
  have hmono:∀ s ∈ rest,cO s.op:=by
   have h9:bX ((todo.map λ i=>(false,i)).map (fM ops l safe))=some rest:=by rw [td];exact hs2
   exact Mc hP hl h9
  exact q4d hP hcall hround hAP hcm hrm (K:=(eG rest).run rt) ho hco hg rfl rfl rfl rfl hmem hS (λ st r h=>q07 hcm hrm hmono h) h hf
   (λ D1 θ1 bS a1 cs1 w1 hS1 h1 hf1=>qvj hP hcall hround hAP hcm hrm hdst hl todo hs2 hS1 h1 hf1)
end
end Go.Am
namespace Go.Am
def Gc (P:Program) (base:Nat) (rt:RT):Prop :=
 ∀ (nt id:Nat) (ops:Array Oper) (c:aj),fC P nt ops true=some c -> ∀ (D:Nat->Prop) θ (b:Frame) k st a cs w r,SR P base D θ b nt rt.ctx.round st a cs w->(aY c).run rt st=some r ->
  cK D st.H.next r.2.H.next->Out P base D θ b nt rt.ctx.round k st cs w (lone (b.atR a (.code (.region id ops true)::k)) cs w) r.1 r.2
section
variable {P:Program} {base:Nat}
theorem q37 {nt:Nat} {ops:Array Oper} {c:aj} (h:fC P nt ops false=some c):∃ l steps,ops.toList.all (kY nt)=true/\bX (ops.toList.map (dT P))=some l /\
 bX ((List.range ops.size).map λ i=>fM ops l (λ _=>some []) (false,i))=some steps/\c=.region steps:=by
 unfold fC at h;split at h
 ·rename_i hd;simp only [qb] at h;obtain ⟨l,hl,h⟩:=h;simp only [ko,qo,qb,qc] at h;obtain ⟨steps,hs,rfl⟩:=h;exact ⟨l,steps,hd,hl,hs,rfl⟩
 ·cases h
theorem q01 (hP:cF P) {nt:Nat} {ops:Array Oper} {draw:Bool} {c:aj} (h:fC P nt ops draw=some c):oK c:=by
 unfold fC at h;split at h
 ·simp only [qb] at h;obtain ⟨l,hl,h⟩:=h;split at h
  ·rcases j8 h with ⟨_,h⟩|⟨_,h⟩
   ·simp only [qb,qc] at h;obtain ⟨steps,hs,rfl⟩:=h;exact Mc hP hl hs
   ·injection h with h;subst h;trivial
  ·simp only [qb,qc] at h;obtain ⟨steps,hs,rfl⟩:=h;exact Mc (safe:=λ _=>some []) (qs:=(List.range ops.size).map λ i=>(false,i)) hP hl (by rw [td];exact hs)
 ·cases h
theorem pP (hP:cF P) {nt:Nat}:∀ (c:Code) {kk:Nat} {ac:aj} {L:List db},bC P nt kk c=some (ac,L)->oK ac /\ ∀ lp ∈ L,oK lp.assign/\oK lp.body
 | .skip,kk,ac,L,h=>by injection h with h;injection h with h1 h2;subst h1;subst h2;exact ⟨trivial,by simp⟩
 | .region _ ops draw,kk,ac,L,h=>by
  simp only [bC,qb,qc,xn] at h;obtain ⟨c,hc,rfl,rfl⟩:=h;exact ⟨q01 hP hc,by simp⟩
 | .seq a b,kk,ac,L,h=>by
  simp only [bC,qb,qc,xn] at h;obtain ⟨⟨x,lx⟩,hx,⟨y,ly⟩,hy,rfl,rfl⟩:=h;obtain ⟨a1,a2⟩:=pP hP a hx;obtain ⟨b1,b2⟩:=pP hP b hy;exact ⟨⟨a1,b1⟩,λ lp hl=>by rcases xw.1 hl with hl|hl;exact a2 lp hl;exact b2 lp hl⟩
 | .cond c a b,kk,ac,L,h=>by
  simp only [bC,qb,qc,xn] at h;obtain ⟨cc,_,⟨x,lx⟩,hx,⟨y,ly⟩,hy,rfl,rfl⟩:=h;obtain ⟨a1,a2⟩:=pP hP a hx;obtain ⟨b1,b2⟩:=pP hP b hy;exact ⟨⟨a1,b1⟩,λ lp hl=>by rcases xw.1 hl with hl|hl;exact a2 lp hl;exact b2 lp hl⟩
 | .block id b,kk,ac,L,h=>by
  simp only [bC,qb,qc,xn] at h;obtain ⟨⟨x,lx⟩,hx,rfl,rfl⟩:=h;obtain ⟨b1,b2⟩:=pP hP b hx;exact ⟨b1,b2⟩
 | .loop b,kk,ac,L,h=>by
  simp only [bC,qb,qc,xn] at h;obtain ⟨⟨x,lx⟩,hx,rfl,rfl⟩:=h;obtain ⟨b1,b2⟩:=pP hP b hx;exact ⟨b1,b2⟩
 | .rangeFunc f ps a b,kk,ac,L,h=>by
  simp only [bC,qb] at h;obtain ⟨cc,_,⟨x,lx⟩,hx,⟨y,ly⟩,hy,h⟩:=h;split at h
  ·injection h with h;injection h with h1 h2;subst h1;subst h2
   obtain ⟨a1,a2⟩:=pP hP a hx;obtain ⟨b1,b2⟩:=pP hP b hy;refine ⟨trivial,λ lp hl=>?_⟩;rcases zr.1 hl with rfl|hl
   ·exact ⟨a1,b1⟩
   ·rcases xw.1 hl with hl|hl
    ·exact a2 lp hl
    ·exact b2 lp hl
  ·cases h
 | .exit _,kk,ac,L,h=>by injection h with h;injection h with h1 h2;subst h1;subst h2;exact ⟨trivial,by simp⟩
 | .scope b,kk,ac,L,h=>by
  simp only [bC,qb,qc,xn] at h;obtain ⟨⟨x,lx⟩,hx,rfl,rfl⟩:=h;obtain ⟨b1,b2⟩:=pP hP b hx;exact ⟨b1,b2⟩
 | .label _,kk,ac,L,h=>by injection h with h;injection h with h1 h2;subst h1;subst h2;exact ⟨trivial,by simp⟩
 | .goto _,kk,ac,L,h=>by injection h with h;injection h with h1 h2;subst h1;subst h2;exact ⟨trivial,by simp⟩
 | .ret,kk,ac,L,h=>by injection h with h;injection h with h1 h2;subst h1;subst h2;exact ⟨trivial,by simp⟩
 | .refuse _,kk,ac,L,h=>by injection h with h;injection h with h1 h2;subst h1;subst h2;exact ⟨trivial,by simp⟩
theorem MN (hP:cF P):LM (aP P):=by
 intro f af h;simp only [aP,qb] at h;obtain ⟨fn,_,h⟩:=h;simp only [pB,qb,qc] at h;obtain ⟨b,_,⟨c,L⟩,hc,_,_,rfl⟩:=h;exact pP hP b hc
theorem O3 {nt:Nat}:∀ (c:Code) {kk:Nat} {ac:aj} {L:List db},bC P nt kk c=some (ac,L) -> ∀ l,Al ac l=(findLabel c l).isSome
 | .skip,kk,ac,L,h,l=>by injection h with h;injection h with h1 h2;subst h1;rfl
 | .region _ ops draw,kk,ac,L,h,l=>by
  simp only [bC,qb,qc,xn] at h;obtain ⟨c,hc,rfl,rfl⟩:=h;unfold fC at hc;split at hc
  ·simp only [qb] at hc;obtain ⟨l,hl,hc⟩:=hc;split at hc
   ·rcases j8 hc with ⟨_,hc⟩|⟨_,hc⟩
    ·simp only [qb,qc] at hc;obtain ⟨_,_,rfl⟩:=hc;rfl
    ·injection hc with hc;subst hc;rfl
   ·simp only [qb,qc] at hc;obtain ⟨_,_,rfl⟩:=hc;rfl
  ·cases hc
 | .seq a b,kk,ac,L,h,l=>by
  simp only [bC,qb,qc,xn] at h;obtain ⟨⟨x,lx⟩,hx,⟨y,ly⟩,hy,rfl,rfl⟩:=h;have h1:=O3 a hx l;have h2:=O3 b hy l;simp only [Al,findLabel,h1,h2];cases findLabel a l<;>simp
 | .cond c a b,kk,ac,L,h,l=>by
  simp only [bC,qb,qc,xn] at h;obtain ⟨cc,_,⟨x,lx⟩,hx,⟨y,ly⟩,hy,rfl,rfl⟩:=h;rfl
 | .block id b,kk,ac,L,h,l=>by
  simp only [bC,qb,qc,xn] at h;obtain ⟨⟨x,lx⟩,hx,rfl,rfl⟩:=h;rfl
 | .loop b,kk,ac,L,h,l=>by
  simp only [bC,qb,qc,xn] at h;obtain ⟨⟨x,lx⟩,hx,rfl,rfl⟩:=h;rfl
 | .rangeFunc f ps a b,kk,ac,L,h,l=>by
  simp only [bC,qb] at h;obtain ⟨cc,_,⟨x,lx⟩,hx,⟨y,ly⟩,hy,h⟩:=h;split at h
  ·injection h with h;injection h with h1 h2;subst h1;rfl
  ·cases h
 | .exit _,kk,ac,L,h,l=>by injection h with h;injection h with h1 h2;subst h1;rfl
 | .scope b,kk,ac,L,h,l=>by
  simp only [bC,qb,qc,xn] at h;obtain ⟨⟨x,lx⟩,hx,rfl,rfl⟩:=h;rfl
 | .label l',kk,ac,L,h,l=>by
  injection h with h;injection h with h1 h2;subst h1
  simp only [Al,findLabel]
  by_cases e:l'=l
  ·simp [e]
  ·simp only [AN,e,qo,JU];cases hb:Nat.beq l' l with
   | false=>rfl
   | true=>simp only [zp] at hb;exact absurd hb e
 | .goto _,kk,ac,L,h,l=>by injection h with h;injection h with h1 h2;subst h1;rfl
 | .ret,kk,ac,L,h,l=>by injection h with h;injection h with h1 h2;subst h1;rfl
 | .refuse _,kk,ac,L,h,l=>by injection h with h;injection h with h1 h2;subst h1;rfl
theorem qxg {b:Frame} {a:Act} {body:Code} {k:List Item} {cs:List Frame} {w:World}:step P (lone (b.atR a (.inScope body::k)) cs w)=.next (lone (b.atR a k) cs w) :=
 step_lone_go (by simp [stepG,stepG.exec,Frame.atR])
theorem q06 {b:Frame} {a:Act} {body:Code} {k:List Item} {cs:List Frame} {w:World}:step P (lone (b.atR a (.code (.scope body)::k)) cs w)=.next (lone (b.atR a (.code body::.inScope body::k)) cs w) :=
 step_lone_go (by simp [stepG,stepG.exec,Frame.atR])
theorem Out.pass {D:Nat->Prop} {θ:Th} {b:Frame} {nt:Nat} {rd:Option Nat} {x:Item} (hx:x.plain=true) {k:List Item} {st:St} {cs:List Frame} {w:World} {m:Machine} {e:aC} {st':St} (he:so e=false)
 (h:Out P base D θ b nt rd (x::k) st cs w m e st'):Out P base D θ b nt rd k st cs w m e st':=by
 obtain ⟨θ',a',w',cs',e',h1,h2,h3,h4,h5,h6⟩:=h;refine ⟨θ',a',w',cs',e',.pass hx (λ _ _=>.inl ?_) h1,h2,h3,h4,h5,h6⟩;intro q;subst q;cases e<;>first|exact h4.elim|cases he
theorem Out.here {D:Nat->Prop} {θ:Th} {b:Frame} {nt:Nat} {rd:Option Nat} {k:List Item} {st:St} {a:Act} {cs:List Frame} {w:World} {m:Machine} {e:aC} {e':Exit} (hS:SR P base D θ b nt rd st a cs w)
 (h1:ArrivesIn kL P m b k cs e' a w) (h2:vE D θ e e'):Out P base D θ b nt rd k st cs w m e st :=
 ⟨θ,a,w,cs,e',h1,by rw [Up.none];exact hS,aX.refl _ _ _ _,by rw [Up.none];exact h2,rfl,dp.refl hS.up⟩
theorem qmi {w:World} (fn:FuncId) (tmps:Array Value) (ps:Array Tmp) (as body:Code) {l:Nat} {r:Loop} (h:w.heap[l]? = some (.loop r)) :
 (Instr.enterLoop fn tmps ps as body (some l)).run P w=.ok (w.heap.size,[]) (w.alloc (.loop { state:=.ready,pending:=none,fn,tmps,params:=ps,assign:=as,body,defers:=r.defers })):=by
 unfold Instr.enterLoop;simp only [Sem.run_bind,run_getLoop h,run_newObj_alloc,Result.andThen,Sem.run_pure]
theorem qt9 {nt:Nat} {c:Code} {kk:Nat} {ac:aj} {L:List db} (h:bC P nt kk c=some (ac,L)) {l:Nat} (hl:Al ac l=false):findLabel c l=none:=by
 rw [O3 c h l] at hl
 simpa using hl
theorem qpb {b:Frame} {a:Act} {k:List Item} {cs:List Frame} {w:World} (id:Nat):ArrivesIn kL P (lone (b.atR a (.code (.exit id)::k)) cs w) b k cs (.exit id) a w :=
 ⟨λ _ hk=>.one trivial (stepR_exit hk),λ _ hk=>⟨k,hk,.refl _⟩⟩
theorem qpf {b:Frame} {a:Act} {k:List Item} {cs:List Frame} {w:World} (l:Nat):ArrivesIn kL P (lone (b.atR a (.code (.goto l)::k)) cs w) b k cs (.goto l) a w :=
 ⟨λ _ hk=>.one trivial (stepR_goto hk),λ _ hk=>⟨k,hk,.refl _⟩⟩
theorem qtr {b:Frame} {a:Act} {k:List Item} {cs:List Frame} {w:World}:ArrivesIn kL P (lone (b.atR a (.code .ret::k)) cs w) b k cs .ret a w :=
 ⟨λ hn=>⟨_,.one trivial (stepR_ret hn)⟩,λ _=>⟨k,.refl _⟩⟩
theorem qyi {D:Nat->Prop} {θ:Th} {b:Frame} {a:Act} {k:List Item} {cs:List Frame} {w:World} (p:Option eI):∃ e',vE D θ (mn p) e' /\
 ArrivesIn kL P (lone (b.atR a (((p.map iP).map Item.code).toList++k)) cs w) b k cs e' a w:=by
 cases p with
 | none=>exact ⟨.normal,trivial,.refl _⟩
 | some j =>
  cases j with
  | exit id=>exact ⟨.exit id,rfl,qpb id⟩
  | goto l=>exact ⟨.goto l,rfl,qpf l⟩
  | ret=>exact ⟨.ret,trivial,qtr⟩
theorem qtp {call:bu} {round:fH} {ctx:Ctx} (hcall:yw P base call) {D:Nat->Prop} {θ:Th} {b:Frame} {nt:Nat} {st:St} {a:Act} {cs:List Frame} {w:World} {k:List Item} {H0:AHeap} {aM:List aD} {w0:World} {mark:List Deferred} {d:Nat}
 (hP:cF P) {g:Operand} {ps:Array Tmp} {as body:Code} {kk:Nat} {v:AV} {r:aC × St} {θ0:Th}
 (h0:HR P base (Up D st.H.next H0.next) θ0 H0 w0) (g0:aX D st.H θ w H0 θ0 w0) (hnx:st.H.next<=H0.next) (hS:SR P base D θ b nt ctx.round st a cs w) (hv:VR D θ v (a.eval g)) (hd:Up D st.H.next H0.next d)
 (hdf:eC (Up D st.H.next H0.next) θ0 aM (mark++a.defers)) (hloop:qQ P ctx.fn kk a.tmps.size ps as body) (hfn:b.fn=ctx.fn)
 (he:(Instr.enterLoop b.fn a.tmps ps as body b.roundOf).run P w=.ok (w0.heap.size,mark) (w0.alloc (.loop { state:=.ready,pending:=none,fn:=b.fn,tmps:=a.tmps,params:=ps,assign:=as,body,defers:=θ0.bz d })))
 (hr:fN call round ctx st kk H0 aM d v=some r) (hf:cK D st.H.next r.2.H.next) (hm:ve call) :
 Out P base D θ b nt ctx.round k st cs w (lone (b.atR a (.code (.rangeFunc g ps as body)::k)) cs w) r.1 r.2:=by
 unfold fN at hr;split at hr
 ·rename_i f first cap
  simp only [bN,jj,qj,qb] at hr;obtain ⟨⟨e,u,H'⟩,hcl,hr⟩:=hr;have hmono:H0.next+1<=H'.next:=(hm _ _ _ _ _ _ _ hcl).1
  have hrn:r.2.H.next=H'.next/\r.2.aM=aM/\r.2.tm=st.tm/\r.2.up=st.up:=by
   unfold GQ at hr;split at hr
   ·injection hr with hr;subst hr;exact ⟨rfl,rfl,rfl,rfl⟩
   ·split at hr
    ·cases hr
    ·injection hr with hr;subst hr;exact ⟨rfl,rfl,rfl,rfl⟩
    ·cases hr
  rw [hrn.1] at hf;have hn:¬ Up D st.H.next H0.next H0.next:=λ q=>by
   rcases q with q|⟨_,q⟩
   ·exact hf _ hnx (by omega) q
   ·omega
  -- the record
  have hag0:=g0.ag;have hag:=Th.eD θ0 H0.next w0.heap.size 0 0 hn
  obtain ⟨e1,e2,e3⟩:=Th.c9 θ0 H0.next w0.heap.size 0 0
  have hup1:∀ x,D x->Up (Up D st.H.next H0.next) H0.next (H0.next+1) x:=λ x hx=>.inl (.inl hx)
  have hDl:Up (Up D st.H.next H0.next) H0.next (H0.next+1) H0.next:=.inr ⟨qf _,ze _⟩
  have hagd:Ag D θ (θ0.add H0.next w0.heap.size 0 0):=hag0.trans hag (λ x hx=>.inl hx);have hR:lW P (Up (Up D st.H.next H0.next) H0.next (H0.next+1)) (θ0.add H0.next w0.heap.size 0 0) H0.next (.loop .ready none ctx.fn kk st.tm d)
   (.loop { state:=.ready,pending:=none,fn:=b.fn,tmps:=a.tmps,params:=ps,assign:=as,body,defers:=θ0.bz d }) :=
   ⟨_,rfl,rfl,rfl,hfn,hS.oY.up hagd hup1,hloop,.inl hd,((hag d hd).1).symm⟩
  have h1:=h0.alloc hn (w':=w0.alloc (.loop { state:=.ready,pending:=none,fn:=b.fn,tmps:=a.tmps,params:=ps,assign:=as,body,defers:=θ0.bz d })) (co:=.loop { state:=.ready,pending:=none,fn:=b.fn,tmps:=a.tmps,params:=ps,assign:=as,body,defers:=θ0.bz d }) (k:=w0.heap.size) (off:=0) (ext:=0) (by rw [ug];simp)
   (λ j hj=>by rw [ug,qg (D5 hj)]) (qf _) (by simp) hR
  have g1:=aX.alloc (base:=base) h0 hn (.loop .ready none ctx.fn kk st.tm d) (.loop { state:=.ready,pending:=none,fn:=b.fn,tmps:=a.tmps,params:=ps,assign:=as,body,defers:=θ0.bz d }) 0 0
  -- the call
  obtain ⟨fi,ci,q3,q4,q5,q6⟩:=K4 hv;have hargs:bt (Up (Up D st.H.next H0.next) H0.next (H0.next+1)) (θ0.add H0.next w0.heap.size 0 0) (first++(.fn (.yield H0.next) [] []::cap)) ((fi.toArray ++ #[Value.func (.yield w0.heap.size) #[] #[]])++ci.toArray).toList:=by
   simp only [Array.toList_append,zf];refine (q4.up hagd hup1).app (.cons (λ θ'' h''=>?_) (q5.up hagd hup1));simp only [aB,dI,br];rw [(h'' _ hDl).1,e1]
  obtain ⟨⟨fn,c,k1,k2⟩,θ',w',cs',fr,e',s1,s2,s3,s4,s5,s6,s7,s8,s9,s10⟩:=hcall _ _ _ _ f _ ((fi.toArray ++ #[Value.func (.yield w0.heap.size) #[] #[]])++ci.toArray) none H' e u .normal
   (b.atR { a with defers:=mark++a.defers } (.inRangeFunc w0.heap.size::k)::cs) h1 hargs rfl hcl (λ x h3 h4 h5=>by
    rw [Up.up hnx (j5 _)] at h5;rcases h5 with h5|⟨_,h5⟩
    ·exact hf x (by have:H0.next+1<=x:=h3;omega) h4 h5
    ·have:H0.next+1<=x:=h3;omega)
  have hcs:cs'=b.atR { a with defers:=mark++a.defers } (.inRangeFunc w0.heap.size::k)::cs:=s9;subst hcs;have hstep:=stepR_rangeFunc (P:=P) (b:=b) (a:=a) (k:=k) (cs:=cs) (w:=w) (g:=g) (l:=w0.heap.size) (d:={ target:=.fn (.func f) ci.toArray,args:=fi.toArray ++ #[Value.func (.yield w0.heap.size) #[] #[]] }) he
   (by
   show (Deferred.ofValue (a.eval g) (#[Operand.const (.func (.yield w0.heap.size) #[] #[])].map a.eval)).run P _=_;rw [q3];simp [Deferred.ofValue,dI,Act.eval];rfl) (by
    show (callFunc f (_++ci.toArray)).run P _=_;exact Is hP k1 k2)
  have hl:=K6 s4 s2;have hupa:Up (Up (Up D st.H.next H0.next) H0.next (H0.next+1)) (H0.next+1) H'.next=Up D st.H.next H'.next:=by
   rw [Up.up (j5 _) hmono,Up.up hnx (by omega)]
  have hnext1:(H0.alloc (.loop .ready none ctx.fn kk st.tm d)).next=H0.next+1:=rfl
  rw [hnext1,hupa] at s5 s6 s10;have gall:aX D st.H θ w H' θ' w':=(g0.trans g1 Up.of).trans s7 hup1;have hDup:∀ x,Up D st.H.next H0.next x->Up D st.H.next H'.next x:=λ x hx=>by
   rcases hx with hx|⟨h1,h2⟩
   ·exact .inl hx
   ·exact .inr ⟨h1,by omega⟩
  have hagf:Ag (Up D st.H.next H0.next) θ0 θ':=hag.trans s7.ag (λ x hx=>.inl hx);have hSR:∀ (H'':AHeap) (w'':World),HR P base (Up D st.H.next H'.next) θ' H'' w''->SR P base (Up D st.H.next H'.next) θ' b nt ctx.round { st with aM:=aM,H:=H'' } { a with defers:=mark++a.defers } cs w'':=λ H'' w'' hh =>
   ⟨hh,hS.oY.up gall.ag Up.of,hS.size,eC.up hagf hDup hdf,mQ.up gall.ag Up.of hS.up,sg.up gall.ag Up.of hS.round⟩
  unfold GQ at hr;cases e with
  | panic ch =>
   injection hr with hr;subst hr
   cases e' with
   | returned _=>exact s5.elim
   | outgrown=>exact s5.elim
   | panicked ps' =>
    refine ⟨θ',_,w',cs,.panic ps',⟨.inRangeFunc w0.heap.size::k,StepsIn.of_steps (.head hstep (s1.trans (.one (by rw [step_leave_panicked hl,Frame.raise_atR]))))⟩,hSR _ _ s6,gall,s5,rfl,dp.refl hS.up⟩
  | ret x =>
   cases e' with
   | panicked _=>exact s5.elim
   | outgrown=>exact s5.elim
   | returned cx =>
    have hback:Steps P (lone (b.atR a (.code (.rangeFunc g ps as body)::k)) cs w) (lone (b.atR { a with defers:=mark++a.defers } (.endRangeFunc w0.heap.size::k)) cs w'):=by
     exact .head hstep (s1.trans (.one (by rw [step_leave_returned hl,finish_atR_inRangeFunc])))
    simp only at hr;split at hr
    ·cases hr
    ·rename_i ls p f2 k2' tm2 d2 hnb hget;injection hr with hr;subst hr
     obtain ⟨hDl',co,hco,rl,rfl,r1,r2,r3,r4,r5,r6,r7⟩:=s6.obj _ _ hget;have hblk:θ'.bz H0.next=w0.heap.size:=by rw [(s7.ag _ hDl).1,e1]
     rw [hblk] at hco;have hbusy:rl.state ≠ .busy:=by
      intro q;rw [r1] at q;cases ls with
      | busy=>first|exact hnb _ _ _ _ _ rfl|exact hnb rfl|exact hnb
      | ready=>cases q
      | done=>cases q
      | exhausted=>cases q
     have hend:=run_endLoop (P:=P) hco hbusy;have hend2:=stepR_endRangeFunc (b:=b) (a:={ a with defers:=mark++a.defers }) (k:=k) (cs:=cs) hend;have hset:=s6.set (o':=.loop .exhausted p f2 k2' tm2 d2) (co':=.loop { rl with state:=.exhausted }) hget rfl rfl ⟨_,rfl,rfl,r2,r3,r4,r5,r6,r7⟩;rw [hblk] at hset;have gset:aX (Up D st.H.next H'.next) H' θ' w' (H'.set H0.next (.loop .exhausted p f2 k2' tm2 d2)) θ' (dZ w' (θ'.bz H0.next) (.loop { rl with state:=.exhausted })):=aX.set hget rfl (s6.lt hget);rw [hblk] at gset;obtain ⟨e'',k3,k4⟩:=qyi (P:=P) (D:=Up D st.H.next H'.next) (θ:=θ') (b:=b) (a:={ a with defers:=mark++a.defers }) (k:=k) (cs:=cs) (w:=dZ w' w0.heap.size (.loop { rl with state:=.exhausted })) p;rw [<-r2] at k4;exact ⟨θ',_,_,cs,e'',.of_steps (StepsIn.of_steps (hback.trans (.one hend2))) k4,hSR _ _ hset,gall.trans gset Up.of,k3,rfl,dp.refl hS.up⟩
    ·cases hr
 ·cases hr
theorem Out.normal {D:Nat->Prop} {θ:Th} {b:Frame} {nt:Nat} {rd:Option Nat} {k:List Item} {st:St} {cs:List Frame} {w:World} {m:Machine} {st':St} (h:Out P base D θ b nt rd k st cs w m .normal st') :
 ∃ θ' a' w' cs',Steps P m (lone (b.atR a' k) cs' w')/\SR P base (Up D st.H.next st'.H.next) θ' b nt rd st' a' cs' w'/\aX D st.H θ w st'.H θ' w'/\st'.up.isSome=st.up.isSome/\dp st.up cs cs':=by
 obtain ⟨θ',a',w',cs',e',h1,h2,h3,h4,h5,h6⟩:=h;cases e'<;>first|exact ⟨θ',a',w',cs',StepsIn.steps h1,h2,h3,h5,h6⟩|exact h4.elim
theorem Out.head {D:Nat->Prop} {θ:Th} {b:Frame} {nt:Nat} {rd:Option Nat} {k:List Item} {st:St} {cs:List Frame} {w:World} {m m1:Machine} {e:aC} {st':St} (hs:step P m=.next m1)
 (h:Out P base D θ b nt rd k st cs w m1 e st'):Out P base D θ b nt rd k st cs w m e st':=by
 obtain ⟨θ',a',w',cs',e',h1,h2,h3,h4,h5,h6⟩:=h;exact ⟨θ',a',w',cs',e',.of_steps (StepsIn.one trivial hs) h1,h2,h3,h4,h5,h6⟩
theorem ql2 (id id':Nat) (k:List Item):exitTo id' (.inBlock id::k)=if id=id' then some k else exitTo id' k:=by
 simp [exitTo]
theorem FB {α:Type} (a b:List α) (i:Nat):nth (a++b) i=if i<a.length then nth a i else nth b (i-a.length):=by
 simp only [jO,List.getElem?_append]
set_option maxHeartbeats 1000000 in
theorem tv (hP:cF P) {rt:RT} (hcall:yw P base rt.call) (hround:qZ P base rt.round) (hAP:rt.AP=aP P) (hcm:ve rt.call) (hrm:sF rt.round) (hdraw:Gc P base rt)
 {fn:Func} {af:cm} (hfn:P.funcs[rt.ctx.fn]? = some fn) (haf:pB P fn=some af):∀ (c:Code) {kk:Nat} {ac:aj} {L:List db},bC P fn.ntmps kk c=some (ac,L)->(∀ i l,nth L i=some l->nth af.loops (kk+i)=some l) ->
 ∀ {D:Nat->Prop} {θ:Th} {b:Frame} {k:List Item} {st:St} {a:Act} {cs:List Frame} {w:World} {r:aC × St},SR P base D θ b fn.ntmps rt.ctx.round st a cs w->b.fn=rt.ctx.fn->(aY ac).run rt st=some r ->
  cK D st.H.next r.2.H.next->Out P base D θ b fn.ntmps rt.ctx.round k st cs w (lone (b.atR a (.code c::k)) cs w) r.1 r.2
 | .skip,kk,ac,L,h,hL,D,θ,b,k,st,a,cs,w,r,hS,hb,hr,hf=>by
  injection h with h;injection h with h1 h2;subst h1
  injection hr with hr;subst hr
  exact .here hS (e':=.normal) (StepsIn.one trivial stepR_skip) trivial
 | .label _,kk,ac,L,h,hL,D,θ,b,k,st,a,cs,w,r,hS,hb,hr,hf=>by
  injection h with h;injection h with h1 h2;subst h1
  injection hr with hr;subst hr
  exact .here hS (e':=.normal) (StepsIn.one trivial stepR_label) trivial
 | .exit id,kk,ac,L,h,hL,D,θ,b,k,st,a,cs,w,r,hS,hb,hr,hf=>by
  injection h with h;injection h with h1 h2;subst h1
  injection hr with hr;subst hr
  exact .here hS (qpb id) rfl
 | .goto l,kk,ac,L,h,hL,D,θ,b,k,st,a,cs,w,r,hS,hb,hr,hf=>by
  injection h with h;injection h with h1 h2;subst h1
  injection hr with hr;subst hr
  exact .here hS (qpf l) rfl
 | .ret,kk,ac,L,h,hL,D,θ,b,k,st,a,cs,w,r,hS,hb,hr,hf=>by
  injection h with h;injection h with h1 h2;subst h1
  injection hr with hr;subst hr
  exact .here hS qtr trivial
 | .refuse _,kk,ac,L,h,hL,D,θ,b,k,st,a,cs,w,r,hS,hb,hr,hf=>by
  injection h with h;injection h with h1 h2;subst h1
  cases hr
 | .region id ops draw,kk,ac,L,h,hL,D,θ,b,k,st,a,cs,w,r,hS,hb,hr,hf=>by
  simp only [bC,qb,qc,xn] at h;obtain ⟨c,hc,rfl,rfl⟩:=h;cases draw with
  | false =>
   obtain ⟨l,steps,h1,h2,h3,rfl⟩:=q37 hc;exact .head stepR_region (qvj hP hcall hround hAP hcm hrm h1 h2 _ h3 hS hr hf)
  | true=>exact hdraw _ id ops c hc D θ b k st a cs w r hS hr hf
 | .seq x y,kk,ac,L,h,hL,D,θ,b,k,st,a,cs,w,r,hS,hb,hr,hf=>by
  simp only [bC,qb,qc,xn] at h;obtain ⟨⟨ax,lx⟩,hx,⟨ay,ly⟩,hy,rfl,rfl⟩:=h;simp only [aY,qb] at hr;obtain ⟨⟨e,bS⟩,hq,hr⟩:=hr;have hmy:=(pP hP y hy).1;have hmx:=GJ hcm hrm (pP hP x hx).1 hq;have hLx:∀ i l,nth lx i=some l->nth af.loops (kk+i)=some l:=λ i l hl=>hL i l (by
   rw [FB,ql]
   ·exact hl
   ·rw [jO] at hl;exact (qe.1 hl).1)
  have hLy:∀ i l,nth ly i=some l->nth af.loops (kk+lx.length+i)=some l:=λ i l hl=>by
   rw [kx];exact hL (lx.length+i) l (by
    show nth (lx++ly) (lx.length+i)=_;rw [FB,qg (by omega),kt];exact hl)
  refine .head stepR_seq ?_
  by_cases he:e=.normal
  ·subst he;simp only [o9] at hr;have hmono:=GJ hcm hrm hmy hr;obtain ⟨θ',a',w',cs',h1,h2,h3,h4,h5⟩:=(tv hP hcall hround hAP hcm hrm hdraw hfn haf x hx hLx (k:=.code y::k) hS hb hq (hf.left hmono)).normal;exact Out.after h1 h3 h4 h5 hmono (tv hP hcall hround hAP hcm hrm hdraw hfn haf y hy hLy h2 hb hr (hf.right hmx))
  ·have hn:so e=false:=by cases e<;>first|rfl|exact absurd rfl he
   have hr':r=(e,bS):=by
    cases e<;>first|exact absurd rfl he|(injection hr with hr;exact hr.symm)
   subst hr';exact Out.pass (x:=.code y) rfl hn (tv hP hcall hround hAP hcm hrm hdraw hfn haf x hx hLx hS hb hq hf)
 | .cond c x y,kk,ac,L,h,hL,D,θ,b,k,st,a,cs,w,r,hS,hb,hr,hf=>by
  simp only [bC,qb,qc,xn] at h;obtain ⟨cc,hcc,⟨ax,lx⟩,hx,⟨ay,ly⟩,hy,rfl,rfl⟩:=h;simp only [aY,qb] at hr;obtain ⟨v,hv,hr⟩:=hr;rw [C4] at hv;have hvr:=vB (a:=a) hS.heap hS.oY hcc hv;have hLx:∀ i l,nth lx i=some l->nth af.loops (kk+i)=some l:=λ i l hl=>hL i l (by
   rw [FB,ql]
   ·exact hl
   ·rw [jO] at hl;exact (qe.1 hl).1)
  have hLy:∀ i l,nth ly i=some l->nth af.loops (kk+lx.length+i)=some l:=λ i l hl=>by
   rw [kx];exact hL (lx.length+i) l (by
    show nth (lx++ly) (lx.length+i)=_;rw [FB,qg (by omega),kt];exact hl)
  unfold pz at hr;split at hr
  ·rename_i q;refine .head (stepR_cond hvr.now.symm) ?_;cases q with
   | true=>exact tv hP hcall hround hAP hcm hrm hdraw hfn haf x hx hLx hS hb hr hf
   | false=>exact tv hP hcall hround hAP hcm hrm hdraw hfn haf y hy hLy hS hb hr hf
  ·cases hr
 | .block id x,kk,ac,L,h,hL,D,θ,b,k,st,a,cs,w,r,hS,hb,hr,hf=>by
  simp only [bC,qb,qc,xn] at h;obtain ⟨⟨ax,lx⟩,hx,rfl,rfl⟩:=h;simp only [aY,qb] at hr;obtain ⟨⟨e,bS⟩,hq,hr⟩:=hr;have hst:r.2=bS:=by
   unfold gH at hr;split at hr<;>(injection hr with hr;subst hr;rfl)
  obtain ⟨θ',a',w',cs',e',h1,h2,h3,h4,h5,h6⟩:=tv hP hcall hround hAP hcm hrm hdraw hfn haf x hx hL (k:=.inBlock id::k) hS hb hq (hst ▸ hf);refine .head stepR_block ?_;rw [hst];unfold gH at hr;cases e with
  | normal =>
   injection hr with hr;subst hr
   cases e'<;>try exact h4.elim
   exact ⟨θ',a',w',cs',.normal,StepsIn.trans h1 (.one trivial stepR_inBlock),h2,h3,trivial,h5,h6⟩
  | exit id' =>
   injection hr with hr;subst hr
   cases e'<;>try exact h4.elim
   rename_i j;have h4:j=id':=h4;subst h4;cases hbq:Nat.beq id j with
   | true =>
    simp only [zp] at hbq;subst hbq;exact ⟨θ',a',w',cs',.normal,h1.1 k (by rw [ql2,ql rfl]),h2,h3,trivial,h5,h6⟩
   | false =>
    have hne:¬ id=j:=by intro q;subst q;simp at hbq
    have hx:exitTo j (.inBlock id::k)=exitTo j k:=by rw [ql2,qg hne]
    exact ⟨θ',a',w',cs',.exit j,⟨λ k' hk=>h1.1 k' (by rw [hx];exact hk),λ hr hk=>h1.2 hr (by rw [hx];exact hk)⟩,h2,h3,rfl,h5,h6⟩
  | goto l =>
   injection hr with hr;subst hr
   cases e'<;>try exact h4.elim
   rename_i j;have hx:gotoIn j (.inBlock id::k)=gotoIn j k:=rfl;exact ⟨θ',a',w',cs',.goto j,⟨λ k' hk=>h1.1 k' (by rw [hx];exact hk),λ hr hk=>h1.2 hr (by rw [hx];exact hk)⟩,h2,h3,h4,h5,h6⟩
  | ret =>
   injection hr with hr;subst hr
   cases e'<;>try exact h4.elim
   exact ⟨θ',a',w',cs',.ret,h1,h2,h3,trivial,h5,h6⟩
  | panic ch =>
   injection hr with hr;subst hr
   cases e'<;>try exact h4.elim
   rename_i ps;exact ⟨θ',a',w',cs',.panic ps,h1,h2,h3,h4,h5,h6⟩
 | .scope x,kk,ac,L,h,hL,D,θ,b,k,st,a,cs,w,r,hS,hb,hr,hf=>by
  simp only [bC,qb,qc,xn] at h;obtain ⟨⟨ax,lx⟩,hx,rfl,rfl⟩:=h;simp only [aY,qb] at hr;obtain ⟨⟨e,bS⟩,hq,hr⟩:=hr;have hst:r=(e,bS) /\ ∀ l,e=.goto l->Al ax l=false:=by
   unfold ik at hr;split at hr
   ·rename_i l he;simp only at he;rcases j8 hr with ⟨_,hr⟩|⟨hl,hr⟩
    ·cases hr
    ·injection hr with hr;subst he;exact ⟨hr.symm,λ l' h'=>by injection h' with h';subst h';exact hl⟩
   ·rename_i hne;injection hr with hr;exact ⟨hr.symm,λ l' h'=>(hne l' h').elim⟩
  obtain ⟨rfl,hlab⟩:=hst;obtain ⟨θ',a',w',cs',e',h1,h2,h3,h4,h5,h6⟩:=tv hP hcall hround hAP hcm hrm hdraw hfn haf x hx hL (k:=.inScope x::k) hS hb hq hf;refine .head q06 ?_;cases e with
  | normal =>
   cases e'<;>try exact h4.elim
   exact ⟨θ',a',w',cs',.normal,StepsIn.trans h1 (.one trivial qxg),h2,h3,trivial,h5,h6⟩
  | exit id' =>
   cases e'<;>try exact h4.elim
   rename_i j;have hx:exitTo j (.inScope x::k)=exitTo j k:=rfl;exact ⟨θ',a',w',cs',.exit j,⟨λ k' hk=>h1.1 k' (by rw [hx];exact hk),λ hr hk=>h1.2 hr (by rw [hx];exact hk)⟩,h2,h3,h4,h5,h6⟩
  | goto l =>
   cases e'<;>try exact h4.elim
   rename_i j;have h4:j=l:=h4;subst h4;have hfl:=qt9 hx (hlab j rfl);have hg:gotoIn j (.inScope x::k)=gotoIn j k:=by simp [gotoIn,hfl]
   exact ⟨θ',a',w',cs',.goto j,⟨λ k' hk=>h1.1 k' (by rw [hg];exact hk),λ hr hk=>h1.2 hr (by rw [hg];exact hk)⟩,h2,h3,rfl,h5,h6⟩
  | ret =>
   cases e'<;>try exact h4.elim
   exact ⟨θ',a',w',cs',.ret,h1,h2,h3,trivial,h5,h6⟩
  | panic ch =>
   cases e'<;>try exact h4.elim
   rename_i ps;exact ⟨θ',a',w',cs',.panic ps,h1,h2,h3,h4,h5,h6⟩
 | .loop x,kk,ac,L,h,hL,D,θ,b,k,st,a,cs,w,r,hS,hb,hr,hf=>by
  simp only [bC,qb,qc,xn] at h;obtain ⟨⟨ax,lx⟩,hx,rfl,rfl⟩:=h;simp only [aY] at hr;refine .head stepR_loop ?_;have hmx:=(pP hP x hx).1;have key:∀ (n:Nat) (D:Nat->Prop) (θ:Th) (st:St) (a:Act) (cs:List Frame) (w:World) (r:aC × St),SR P base D θ b fn.ntmps rt.ctx.round st a cs w->eB none ((aY ax).run rt) n st=some r->cK D st.H.next r.2.H.next ->
   Out P base D θ b fn.ntmps rt.ctx.round k st cs w (lone (b.atR a (.code x::.inLoop x::k)) cs w) r.1 r.2:=by
   intro n
   induction n with
   | zero=>intro D θ st a cs w r _ hr _;cases hr
   | succ n ih =>
    intro D θ st a cs w r hS hr hf;simp only [eB,qb] at hr;obtain ⟨⟨e,bS⟩,hq,hr⟩:=hr;have hm1:=GJ hcm hrm hmx hq
    by_cases he:e=.normal
    ·subst he;simp only at hr;have hmono:=q3u (λ st r h=>sY hcm hrm hmx h) none n _ _ hr;obtain ⟨θ',a',w',cs',h1,h2,h3,h4,h5⟩:=(tv hP hcall hround hAP hcm hrm hdraw hfn haf x hx hL (k:=.inLoop x::k) hS hb hq (hf.left hmono)).normal;exact Out.after (h1.trans (.one stepR_inLoop)) h3 h4 h5 hmono (ih _ θ' bS a' cs' w' r h2 hr (hf.right hm1))
    ·have hn:so e=false:=by cases e<;>first|rfl|exact absurd rfl he
     have hr':r=(e,bS):=by
      cases e<;>first|exact absurd rfl he|(injection hr with hr;exact hr.symm)
     subst hr';exact Out.pass (x:=.inLoop x) rfl hn (tv hP hcall hround hAP hcm hrm hdraw hfn haf x hx hL hS hb hq hf)
  exact key _ D θ st a cs w r hS hr hf
 | .rangeFunc g ps x y,kk,ac,L,h,hL,D,θ,b,k,st,a,cs,w,r,hS,hb,hr,hf=>by
  simp only [bC,qb] at h;obtain ⟨cg,hcg,⟨ax,lx⟩,hx,⟨ay,ly⟩,hy,h⟩:=h;split at h
  ·rename_i hps;have hps:∀ p ∈ ps.toList,p<fn.ntmps:=λ p hp=>by
    rw [wg] at hps
    simpa [we] using hps p hp
   injection h with h;injection h with h1 h2;subst h1;subst h2
   simp only [aY,qb] at hr;obtain ⟨v,hv,hr⟩:=hr;rw [C4] at hv;have hvr:=vB (a:=a) hS.heap hS.oY hcg hv;have hloop:qQ P rt.ctx.fn kk a.tmps.size ps x y:=by
    refine ⟨fn,af,_,kk+1,kk+1+lx.length,lx,ly,hfn,haf,hL 0 _ rfl,rfl,hps,hS.size,hx,λ i l hl=>?_,hy,λ i l hl=>?_⟩
    ·rw [kx];refine hL (1+i) l ?_;rw [Nat.add_comm 1 i,jO,zk,<-jO,FB,ql]
     ·exact hl
     ·rw [jO] at hl;exact (qe.1 hl).1
    ·rw [kx,kx];refine hL (1+(lx.length+i)) l ?_;rw [Nat.add_comm 1 _,jO,zk,<-jO];show nth (lx++ly) (lx.length+i)=_;rw [FB,qg (by omega),kt];exact hl
   unfold mA at hr;split at hr
   ·rename_i hnone;have hro:b.roundOf=none:=by have:=hS.round;rw [hnone] at this;exact this
    have hmono:st.H.next+1<=r.2.H.next:=by
     have:(st.H.alloc (.deferred (some []))).next<=r.2.H.next:=q00 (st:={ st with H:=st.H.alloc (.deferred (some [])) }) hcm (Ext.refl _) hr
     exact this
    have hn:¬ D st.H.next:=hf _ (qf _) hmono
    have hag:=Th.eD θ st.H.next w.heap.size 0 0 hn
    obtain ⟨e1,e2,e3⟩:=Th.c9 θ st.H.next w.heap.size 0 0
    have hDn:Up D st.H.next (st.H.next+1) st.H.next:=.inr ⟨qf _,ze _⟩
    have h0:=hS.heap.alloc hn (w':=w.alloc (.deferred (some []))) (co:=.deferred (some [])) (o:=.deferred (some [])) (k:=w.heap.size) (off:=0) (ext:=0) (by rw [ug];simp)
     (λ j hj=>by rw [ug,qg (D5 hj)]) (qf _) (by simp) ⟨some [],rfl,rfl,rfl⟩
    have g0:=aX.alloc (base:=base) hS.heap hn (.deferred (some [])) (.deferred (some [])) 0 0;refine qtp hcall hP (H0:=st.H.alloc (.deferred (some []))) (aM:=.fT st.H.next::st.aM) (d:=st.H.next) (mark:=[{ target:=.collected w.heap.size,args:=#[] }]) h0 g0 (j5 _) hS hvr hDn ⟨⟨hDn,by rw [e1]⟩,eC.up hag Up.of hS.aM⟩ hloop hb ?_ hr hf hcm;rw [hro,run_enterLoop_outer,e1];simp
   ·rename_i l hl;simp only [qb] at hr;obtain ⟨d,hd,hr⟩:=hr;unfold tX at hd;split at hd
    ·rename_i f2 k2 tm2 d2 hget;injection hd with hd;subst hd
     obtain ⟨hDl,co,hco,rl,rfl,r1,r2,r3,r4,r5,r6,r7⟩:=hS.heap.obj _ _ hget;have hro:b.roundOf=some (θ.bz l):=by have:=hS.round;rw [hl] at this;exact this.2
     refine qtp hcall hP (mark:=[]) (d:=d2) (by rw [Up.none];exact hS.heap) (aX.refl _ _ _ _) (qf _) hS hvr (by rw [Up.none];exact r6) (by rw [Up.none];exact hS.aM) hloop hb ?_ hr hf hcm;rw [hro,qmi _ _ _ _ _ hco,r7]
    ·cases hd
  ·cases h
end
end Go.Am
