import Derived.Test.YtbpnpfalldaocaaGreatDoorAmCZf
import Derived.Test.YtbpnpfalldaocaaGreatDoorAmCZj
import Derived.Test.YtbpnpfalldaocaaGreatDoorAmCZi
set_option linter.defProp false
set_option linter.unusedVariables false
set_option linter.unusedSimpArgs false
set_option linter.unusedSectionVars false
set_option maxRecDepth 100000
open Bool renaming false→B2,true→B4
open False renaming elim→Ja
open Option renaming none→B5,some→B1
open Nat renaming reduceEqDiff→bc
namespace Go.Am
open Lang Go.Proofs
variable{M:ak}[MK M]
def cj(c:Co)(f l sp:Nat)(cv rv ov pv:AV):List AV:=[.int .i64 c.id,.int .i64 c.lines,cv,.ptr f 0,.ptr l 0,.ptr sp 0,.int .i64 c.ph,.int .i64 c.want.kind,.int .i64 c.want.au,.int .i64 c.want.nQ,.int .u64 c.want.value,.int .u64 c.want.addr,.int .u64 c.seq,rv,.int .i64 c.done,.bool c.wrote,.bool c.held,.bool c.said,.int .i64 c.blocks,.int .i64 c.nc,.bool c.halted,.bool c.A4,ov,pv]
def qW(ps:List Pr):Prop:=∀i x,ps[i]? = B1 x->gM ps x.a=B1 i
structure FZ(c:Co)(k:Nat):Prop where
 id:0<=c.id
 l2:2<=c.lines
 l64:c.lines<=64
 cl:c.code.length<=1024
 ru:∀y∈c.aO,fm y.v
 rl:c.aO.length<=k
 d0:0<=c.done
 wu:fm c.want.addr
 G5:qW c.aO
structure dG(H:ar)(o:Nat->Nat)(p f l sp:Nat)(cv rv ov pv:AV)(c:Co)(os:List iW)(k:Nat):Prop where
 row:At H p D3 (cj c f l sp cv rv ov pv)
 fi:oP H o f c.fi
 la:jX H l c.la
 so:∃g fv,dy H o sp c.so g fv
 cd:eS fX 5 H cv c.code
 rd:AH H rv c.aO
 ou:bU iW.enc vc 9 H ov os
 op:o p=1
 of:o f=2
 ol:o l=3
 oJ:∀z,bm rv z->o z=5
 oV:∀z,bm ov z->o z=6
 lC:c.code≠[]->aG cv<H.au/\o (aG cv)=7
 CU:aC pv=B4
 w:FZ c k
section
variable{H H':ar}{o o':Nat->Nat}{p f l sp k k':Nat}{cv rv ov pv:AV}{c d:Co}{os os':List iW}
def FP{α:Type}{enc:α->List AV}{size:Nat}{W:Nat->Prop}{lv:AV}{xs:List α}(h:eS enc size H lv xs)(a:Fr W H H')(hw:xs≠[] -> ¬W (aG lv)):eS enc size H' lv xs:=by
 cases xs with
 |nil=>exact Sl.fr h a (.inl rfl)
 |cons y l=>exact Sl.fr h a (.inr (hw (by simp)))
def dG.ZM{W:Nat->Prop}(h:dG H o p f l sp cv rv ov pv c os k)(a:Fr W H H')(hw:∀z,z<H.au->o z≠0->o z≠4 -> ¬W z)(ho:∀z,z<H.au->o' z=o z)(hk:k<=k'):dG H' o' p f l sp cv rv ov pv c os k':=by
 have⟨g,fv,hs⟩:=h.so;have r:=λ z(q:bm rv z)=>Own.lt h.rd z q;have u:=λ z(q:bm ov z)=>Own.lt h.ou z q;exact⟨h.row.fr a (hw p h.row.2 (by rw[h.op];decide) (by rw[h.op];decide)),h.fi.fr a h.of (λ z q e=>hw z q (by omega) (by omega)) ho,h.la.fr a (hw l h.la.at'.2 (by rw[h.ol];decide) (by rw[h.ol];decide)),⟨g,fv,hs.fr a (λ z q e=>hw z q (by omega) (by omega)) ho⟩,
  FP h.cd a λ e=>hw _ (h.lC e).1 (by rw[(h.lC e).2];decide) (by rw[(h.lC e).2];decide),Own.fr h.rd a λ z q=>hw z (r z q) (by rw[h.oJ z q];decide) (by rw[h.oJ z q];decide),Own.fr h.ou a λ z q=>hw z (u z q) (by rw[h.oV z q];decide) (by rw[h.oV z q];decide),
  (ho p h.row.2).trans h.op,(ho f (by obtain⟨pv,q,-⟩:=h.fi.at';exact q.2)).trans h.of,(ho l h.la.at'.2).trans h.ol,λ z q=>(ho z (r z q)).trans (h.oJ z q),λ z q=>(ho z (u z q)).trans (h.oV z q),λ e=>⟨qj (h.lC e).1 a.au,(ho _ (h.lC e).1).trans (h.lC e).2⟩,h.CU,
  {h.w with rl:=xm h.w.rl hk}⟩
def dG.fr{W:Nat->Prop}(h:dG H o p f l sp cv rv ov pv c os k)(a:Fr W H H')(hw:∀z,z<H.au->o z≠0 -> ¬W z)(ho:∀z,z<H.au->o' z=o z)(hk:k<=k'):dG H' o' p f l sp cv rv ov pv c os k':=h.ZM a (λ z q r _=>hw z q r) ho hk
def gq(H:ar)(o:Nat->Nat)(p f l sp:Nat)(cv pv:AV)(c:Co)(os:List iW)(k:Nat)(H':ar):Prop:=∃o' rv ov,dG H' o' p f l sp cv rv ov pv c os k/\(∀z,z<H.au->o' z=o z)/\Fr (λ z=>o z≠0) H H'
def dG.bq(h:dG H o p f l sp cv rv ov pv c os k):Op.ae [.ptr p 0] H=B1 (.int .i64 c.id)/\Op.ae [.ptr p 1] H=B1 (.int .i64 c.lines)/\Op.ae [.ptr p 2] H=B1 cv/\Op.ae [.ptr p 3] H=B1 (.ptr f 0)/\Op.ae [.ptr p 4] H=B1 (.ptr l 0)/\Op.ae [.ptr p 5] H=B1 (.ptr sp 0)/\Op.ae [.ptr p 6] H=B1 (.int .i64 c.ph)/\Op.ae [.ptr p 7] H=B1 (.int .i64 c.want.kind)/\Op.ae [.ptr p 12] H=B1 (.int .u64 c.seq) /\
 Op.ae [.ptr p 13] H=B1 rv/\Op.ae [.ptr p 14] H=B1 (.int .i64 c.done)/\Op.ae [.ptr p 15] H=B1 (.bool c.wrote)/\Op.ae [.ptr p 16] H=B1 (.bool c.held)/\Op.ae [.ptr p 17] H=B1 (.bool c.said)/\Op.ae [.ptr p 18] H=B1 (.int .i64 c.blocks)/\Op.ae [.ptr p 19] H=B1 (.int .i64 c.nc)/\Op.ae [.ptr p 20] H=B1 (.bool c.halted)/\Op.ae [.ptr p 21] H=B1 (.bool c.A4)/\Op.ae [.ptr p 22] H=B1 ov/\Op.ae [.ptr p 23] H=B1 pv/\Op.av 5 [.ptr p 7] H=B1 (.agg (aY c.want)) :=
 ⟨h.row.ld 0,h.row.ld 1,h.row.ld 2,h.row.ld 3,h.row.ld 4,h.row.ld 5,h.row.ld 6,h.row.ld 7,h.row.ld 12,h.row.ld 13,h.row.ld 14,h.row.ld 15,h.row.ld 16,h.row.ld 17,h.row.ld 18,h.row.ld 19,h.row.ld 20,h.row.ld 21,h.row.ld 22,h.row.ld 23,h.row.gn (k:=7) (n:=5) (by simp[cj])⟩
def dG.np(h:dG H o p f l sp cv rv ov pv c os k):∀z,o z≠1 -> ¬On p z:=λ z e(w:z=p)=>e (by rw[w];exact h.op)
def dG.cell(h:dG H o p f l sp cv rv ov pv c os k){rv' ov' pv':AV}(hs:d.fi=c.fi/\d.la=c.la/\d.so=c.so/\d.code=c.code)(hr:AH H rv' d.aO /\ ∀z,bm rv' z->o z=5)(hu:bU iW.enc vc 9 H ov' os' /\ ∀z,bm ov' z->o z=6)(hp:aC pv'=B4)(hw:FZ d k') :
 dG (H.set p (OR (cj d f l sp cv rv' ov' pv') D3)) o p f l sp cv rv' ov' pv' d os' k'/\Fr (On p) H (H.set p (OR (cj d f l sp cv rv' ov' pv') D3)):=by
 have a:Fr (On p) H (H.set p (OR (cj d f l sp cv rv' ov' pv') D3)):=cW ..;have⟨g,fv,b⟩:=h.so;have⟨j,m,n,i⟩:=hs;refine⟨⟨h.row.set _,?_,?_,⟨g,fv,?_⟩,?_,Own.fr hr.1 a λ z q=>h.np z (by rw[hr.2 z q];decide),Own.fr hu.1 a λ z q=>h.np z (by rw[hu.2 z q];decide),h.op,h.of,h.ol,hr.2,hu.2,?_,hp,hw⟩,a⟩
 .rw [j];exact h.fi.fr a h.of (λ z q e=>h.np z (by omega)) λ _ _=>rfl
 .rw [m];exact h.la.fr a (h.np l (by rw[h.ol];decide))
 .rw [n];exact b.fr a (λ z q e=>h.np z (by omega)) λ _ _=>rfl
 .rw [i];exact FP h.cd a λ e=>h.np _ (by rw[(h.lC e).2];decide)
 .rw [i];exact h.lC
theorem dG.put(h:dG H o p f l sp cv rv ov pv c os k)(i:Nat){v:AV}(d:Co)(a:aC v=B4)(b:i<24)(he:(cj c f l sp cv rv ov pv).set i v=cj d f l sp cv rv ov pv)(hs:d.fi=c.fi/\d.la=c.la/\d.so=c.so/\d.code=c.code)(hr:d.aO=c.aO)(hw:FZ d k) :
 ∃H',Op.store 1 [.ptr p i,v] H=B1 (.undef,H')/\dG H' o p f l sp cv rv ov pv d os k/\Fr (On p) H H':=by
 have⟨e,g⟩:=h.cell (d:=d) hs (rv':=rv) ⟨by rw[hr];exact h.rd,h.oJ⟩ ⟨h.ou,h.oV⟩ h.CU hw;exact⟨_,by rw[h.row.st i a b,he],e,g⟩
def dG.xP(h:dG H o p f l sp cv rv ov pv c os k){H1:ar}(a:Fr (On p) H H1){e b:AV}(g:dG H1 o p f l sp cv e b pv d os' k'):gq H o p f l sp cv pv d os' k' H1:=⟨o,e,b,g,λ _ _=>rfl,a.mono λ z _(q:z=p)=>by rw[q,h.op];decide⟩
def dG.D7(h:dG H o p f l sp cv rv ov pv c os k){y:Fi}(hp:HB H o f y H'):gq H o p f l sp cv pv {c with fi:=y} os k H':=by
 have⟨i,a⟩:=hp;have ho:∀z,z<H.au->bw o H.au 2 z=o z:=λ z q=>vx q;have b:∀z,o z≠2 -> ¬On f z:=λ z e(w:z=f)=>e (by rw[w];exact h.of);have⟨g,fv,hs⟩:=h.so;have r:=λ z(q:bm rv z)=>Own.lt h.rd z q;have u:=λ z(q:bm ov z)=>Own.lt h.ou z q;refine⟨bw o H.au 2,rv,ov,⟨h.row.fr a (b p (by rw[h.op];decide)),i,h.la.fr a (b l (by rw[h.ol];decide)),⟨g,fv,hs.fr a (λ z q e=>b z (by omega)) ho⟩,FP h.cd a λ e=>b _ (by rw[(h.lC e).2];decide),Own.fr h.rd a λ z q=>b z (by rw[h.oJ z q];decide),Own.fr h.ou a λ z q=>b z (by rw[h.oV z q];decide),
  (ho p h.row.2).trans h.op,(ho f (by obtain⟨pv,q,-⟩:=h.fi.at';exact q.2)).trans h.of,(ho l h.la.at'.2).trans h.ol,λ z q=>(ho z (r z q)).trans (h.oJ z q),λ z q=>(ho z (u z q)).trans (h.oV z q),λ e=>⟨qj (h.lC e).1 a.au,(ho _ (h.lC e).1).trans (h.lC e).2⟩,h.CU,{h.w with}⟩,ho,a.mono λ z _(q:z=f)=>by rw[q,h.of];decide⟩
def dG.TM(h:dG H o p f l sp cv rv ov pv c os k){y:La}(hp:LS H l y H'):gq H o p f l sp cv pv {c with la:=y} os k H':=by
 have⟨b,a⟩:=hp;have nl:∀z,o z≠3 -> ¬On l z:=λ z e(w:z=l)=>e (by rw[w];exact h.ol);have⟨g,fv,hs⟩:=h.so;exact⟨o,rv,ov,⟨h.row.fr a (nl p (by rw[h.op];decide)),h.fi.fr a h.of (λ z q e=>nl z (by omega)) λ _ _=>rfl,b,⟨g,fv,hs.fr a (λ z q e=>nl z (by omega)) λ _ _=>rfl⟩,FP h.cd a λ e=>nl _ (by rw[(h.lC e).2];decide),Own.fr h.rd a λ z q=>nl z (by rw[h.oJ z q];decide),Own.fr h.ou a λ z q=>nl z (by rw[h.oV z q];decide),
  h.op,h.of,h.ol,h.oJ,h.oV,λ e=>⟨qj (h.lC e).1 a.au,(h.lC e).2⟩,h.CU,{h.w with}⟩,λ _ _=>rfl,a.mono λ z _(q:z=l)=>by rw[q,h.ol];decide⟩
def dG.JM(h:dG H o p f l sp cv rv ov pv c os k){y:So}(hp:dU H o sp y H'):gq H o p f l sp cv pv {c with so:=y} os k H':=by
 have⟨o',g,fv,b,ho,a⟩:=hp;have nl:∀z,o z<8 -> ¬(8<=o z):=λ z e w=>by omega
 have r:=λ z(q:bm rv z)=>Own.lt h.rd z q;have u:=λ z(q:bm ov z)=>Own.lt h.ou z q;exact⟨o',rv,ov,⟨h.row.fr a (nl p (by rw[h.op];decide)),h.fi.fr a h.of (λ z q e=>nl z (by omega)) ho,h.la.fr a (nl l (by rw[h.ol];decide)),⟨g,fv,b⟩,FP h.cd a λ e=>nl _ (by rw[(h.lC e).2];decide),Own.fr h.rd a λ z q=>nl z (by rw[h.oJ z q];decide),Own.fr h.ou a λ z q=>nl z (by rw[h.oV z q];decide),
  (ho p h.row.2).trans h.op,(ho f (by obtain⟨pv,q,-⟩:=h.fi.at';exact q.2)).trans h.of,(ho l h.la.at'.2).trans h.ol,λ z q=>(ho z (r z q)).trans (h.oJ z q),λ z q=>(ho z (u z q)).trans (h.oV z q),λ e=>⟨qj (h.lC e).1 a.au,(ho _ (h.lC e).1).trans (h.lC e).2⟩,h.CU,{h.w with}⟩,ho,a.mono λ z _(q:8<=o z)=>by omega⟩
def FZ.mono(h:FZ c k)(hk:k<=k'):FZ c k':={h with rl:=xm h.rl hk}
end
end Go.Am
namespace Go.Am
open Lang Go.Proofs
variable{M:ak}[MK M]
section
variable{H H1 H':ar}{o o1:Nat->Nat}{p f l sp k k':Nat}{cv rv ov pv:AV}{c d:Co}{os os':List iW}{s t:CS}
def dG.em(h:dG H o p f l sp cv rv ov pv c os k)(a:Fr Em H H'):dG H' o p f l sp cv rv ov pv c os k:=h.fr a (λ _ _ _ q=>q) (λ _ _=>rfl) (qg _)
def gq.then(a:gq H o p f l sp cv pv c os k H1)(b:∀o1 g e,dG H1 o1 p f l sp cv g e pv c os k->gq H1 o1 p f l sp cv pv d os' k' H'):gq H o p f l sp cv pv d os' k' H':=by
 have⟨o1,g,e,n,j,m⟩:=a;have⟨o2,i,h,r,u,v⟩:=b _ _ _ n;refine⟨o2,i,h,r,λ z q=>(u z (qj q m.au)).trans (j z q),m.trans v λ z q=>?_⟩;rcases xp z H.au with w|w
 .exact .inl (by rw[<-j z w];exact q)
 .exact .inr w
theorem gq.pre(a:Fr Em H H1)(b:gq H1 o p f l sp cv pv d os' k' H'):gq H o p f l sp cv pv d os' k' H':=by
 have⟨o2,g,e,h,i,j⟩:=b;exact⟨o2,g,e,h,λ z q=>i z (qj q a.au),(a.mono λ _ _ q=>q.elim).trans j λ z q=>.inl q⟩
def Oq(x:iW):x.enc.length=9:=rfl
def JS:iW:=⟨0,0,0,0,0,0,0,0,0⟩
def He:[AV.int .i64 0,.int .i64 0,.int .i64 0,.int .i64 0,.int .i64 0,.int .i64 0,.int .i64 0,.int .u64 0,.int .i64 0]=JS.enc:=rfl
def II(h:dG H o p f l sp cv rv ov pv c os k):∀K,C3 M B4 (.func Xx) [.ptr p 0] H K=K B4 (.bool B2) H:=by
 refine dX (qvp ?_);simp only[aa,bc,qvq,aw,h.bq]
def CR(h:dG H o p f l sp cv rv ov pv s.c s.o k)(hl:s.o.length<=1000)(r a v cd:Int):xz M Ue [.ptr p 0,.int .i64 r,.int .i64 a,.int .u64 v,.int .i64 cd] H λ _ H'=>gq H o p f l sp cv pv (s.tell r a v cd).c (s.tell r a v cd).o k H':=by
 refine qvr ?_;obtain⟨H1,E,f1,-,-⟩:=de H (OR JS.enc vc);have R:At H1 H.au vc _:=E▸At.new H _ _;obtain⟨e,he⟩:∃e:iW,e=⟨r,0,s.c.id,-1,0,0,a,v,cd⟩:=⟨_,rfl⟩
 have U:Op.build JS.enc [(0,1),(2,1),(3,1),(6,1),(7,1),(8,1)] [.int .i64 r,.int .i64 s.c.id,.int .i64 (-1),.int .i64 a,.int .u64 v,.int .i64 cd]=B1 (.agg e.enc):=by rw[he];rfl
 have s1:=R.ir (k:=0) (n:=9) (v:=.agg e.enc) rfl (by simp[iW.len]) rfl;have D:JS.enc.take 0++AV.cells (.agg e.enc)++JS.enc.drop (0+9)=e.enc:=by rw[zb];rfl
 rw[D]at s1;obtain⟨J,N⟩:∃X,X=H1.set H.au (OR e.enc vc):=⟨_,rfl⟩
 rw[<-N]at s1;have L:At J H.au vc e.enc:=N▸R.set _;have O:Fr Em H J:=N▸f1.set (.inr (qg _)) _;have C:=h.em O;have n2:H.au<J.au:=L.2
 -- the list
 have app:∀{j:ar}(x:iW),Fr Em H j -> ∀{K:bB->(Nat->AV)->Bool->AV->ar->Prop}{m:Bool},(∀u y A,Op.store 1 [.ptr p 22,u] y=B1 (.undef,A)->gq H o p f l sp cv pv s.c (s.o ++ [x]) k A->K (.row (AV.cells (.agg x.enc)) vc (0,0) B4) (Op.sliceTo 1 1) m u y) ->
  iG m (Op.buildSlice vc 1 JS.enc [(0,9)] [.agg x.enc]) λ g o mk=>iG g (Op.append vc 9 72 [ov,mk j.au] (j.alloc o)) (K o mk):=λ{j}x B{K m}hk=>by
  have b:=h.em B;refine bU.tX b.ou (x:=.agg x.enc) (a:=x) rfl rfl rfl rfl (by decide) (by omega) (by omega) λ u y o4 P hz=>?_;have one:aC u=true:=Sl.one (Own.sl o4);have lu:=λ z(q:bm ov z)=>Own.lt b.ou z q
  -- new rows are of the told list
  have ho:∀z,z<j.au->bw o j.au 6 z=o z:=λ z q=>vx q;have Z:∀z,o z≠6 -> ¬bm ov z:=λ z q w=>q (b.oV z w);have f34:Fr (λ z=>o z≠0) j y:=P.mono λ z _ q=>by rw[b.oV z q];decide
  have⟨g,fv,hs⟩:=b.so;have lr:=λ z(q:bm rv z)=>Own.lt b.rd z q;have r4:At y p D3 _:=b.row.fr P (Z p (by rw[b.op];decide));have st:=r4.st 22 one (by simp[cj]);have e5:(cj s.c f l sp cv rv ov pv).set 22 u=cj s.c f l sp cv rv u pv:=rfl;rw[e5]at st;obtain⟨A,Q⟩:∃X,X=y.set p (OR (cj s.c f l sp cv rv u pv) D3):=⟨_,rfl⟩
  rw[<-Q]at st;have W:Fr (On p) y A:=Q▸cW ..;have i:Fr (λ z=>bm ov z\/z=p) j A:=(P.mono λ z _ q=>.inl q).trans W λ z q=>.inl (.inr q);have nw:∀z,o z≠6->o z≠1 -> ¬(bm ov z\/z=p):=λ z e6 E w=>w.elim (Z z e6) λ w=>E (by rw[w];exact b.op);have no:∀z,bm u z->bw o j.au 6 z=6:=λ z q=>(hz z q).elim (λ w=>(ho z (lu z w)).trans (b.oV z w)) λ w=>mG w;refine hk u y A st (gq.pre B ⟨bw o j.au 6,rv,u,⟨Q▸r4.set _,b.fi.fr i b.of (λ z q e=>nw z (by omega) (by omega)) ho,b.la.fr i (nw l (by rw[b.ol];decide) (by rw[b.ol];decide)),⟨g,fv,hs.fr i (λ z q e=>nw z (by omega) (by omega)) ho⟩,FP b.cd i λ e=>nw _ (by rw[(b.lC e).2];decide) (by rw[(b.lC e).2];decide),Own.fr b.rd i λ z q=>nw z (by rw[b.oJ z q];decide) (by rw[b.oJ z q];decide),Own.fr o4 W λ z q(w:z=p)=>?_,
   (ho p b.row.2).trans b.op,(ho f (by obtain⟨pv,q,-⟩:=b.fi.at';exact q.2)).trans b.of,(ho l b.la.at'.2).trans b.ol,λ z q=>(ho z (lr z q)).trans (b.oJ z q),no,λ e=>⟨qj (b.lC e).1 i.au,(ho _ (b.lC e).1).trans (b.lC e).2⟩,b.CU,b.w⟩,ho,i.mono λ z _ q=>q.elim (λ q=>by rw[b.oV z q];decide) λ q=>by rw[q,b.op];decide⟩)
  have:=no z q;rw[w,ho p b.row.2,b.op]at this;omega
 have ld:∀{j:ar}{x:iW},At j H.au vc x.enc->Op.av 9 [.ptr H.au 0] j=B1 (.agg x.enc):=λ a=>a.gn (k:=0) (n:=9) (by simp[iW.len])
 by_cases q:s.c.la.lane=0
 .have ev:CS.uO s.c r a v cd=e:=by rw[he];unfold CS.uO;rw[qv q]
  unfold CS.tell;rw[ev];simp only[aa,bc,Tf,aw,He,<-E,h.bq,U,s1,C.bq,ia C.la,qr q,ld L];refine app e O λ u y A st hp=>?_;simp only[aa,bc,st];exact hp
 .obtain ⟨D,F⟩:∃x:iW,x=⟨r,0,s.c.id,aj .i64 (s.c.blocks-1),0,0,a,v,cd⟩:=⟨_,rfl⟩
  obtain⟨I,G⟩:∃x:iW,x=⟨r,0,s.c.id,aj .i64 (s.c.blocks-1),s.c.la.tries,0,a,v,cd⟩:=⟨_,rfl⟩
  have ev:CS.uO s.c r a v cd=⟨r,0,s.c.id,aj .i64 (s.c.blocks-1),s.c.la.tries,s.c.la.lane,a,v,cd⟩:=by unfold CS.uO;rw[qn q]
  unfold CS.tell;rw[ev];simp only[aa,bc,Tf,aw,He,<-E,h.bq,U,s1,C.bq,ia C.la,q];refine C3.q (Td C.la) λ w j⟨hw,B⟩=>?_;subst hw;have b:=C.em B;have S:=L.em B;have t1:=S.st 3 (v:=.int .i64 (aj .i64 (s.c.blocks-1))) rfl (by simp[iW.len]);have y1:e.enc.set 3 (.int .i64 (aj .i64 (s.c.blocks-1)))=D.enc:=by rw[he,F];rfl
  rw[y1]at t1;have T:=S.set D.enc;have t2:=T.st 4 (v:=.int .i64 s.c.la.tries) rfl (by simp[iW.len]);have y2:D.enc.set 4 (.int .i64 s.c.la.tries)=I.enc:=by rw[F,G];rfl
  rw[y2]at t2;have V:=T.set I.enc;have t3:=V.st 5 (v:=.int .i64 s.c.la.lane) rfl (by simp[iW.len]);have y3:I.enc.set 5 (.int .i64 s.c.la.lane)=iW.enc ⟨r,0,s.c.id,aj .i64 (s.c.blocks-1),s.c.la.tries,s.c.la.lane,a,v,cd⟩:=by rw[G];rfl
  rw[y3]at t3;have d3:=V.set (iW.enc ⟨r,0,s.c.id,aj .i64 (s.c.blocks-1),s.c.la.tries,s.c.la.lane,a,v,cd⟩);have Y:Fr Em H _:=(((O.em B).set (.inr (qg _)) (OR D.enc vc)).set (.inr (qg _)) (OR I.enc vc)).set (.inr (qg _)) (OR (iW.enc ⟨r,0,s.c.id,aj .i64 (s.c.blocks-1),s.c.la.tries,s.c.la.lane,a,v,cd⟩) vc);have h6:=h.em Y;simp only[aa,bc,Tf,aw,b.bq,ia b.la,t1,t2,t3,h6.bq,ld d3];refine app _ Y λ u y A st hp=>?_;simp only[aa,bc,st];exact hp
end
end Go.Am
namespace Go.Am
open Lang Go.Proofs
variable{M:ak}[MK M]
section
variable{H H1 H':ar}{o o1:Nat->Nat}{p f l sp k k':Nat}{cv rv ov pv:AV}{c d:Co}{os os':List iW}{s t:CS}
def gq.qX(a:∀z,z<H.au->o1 z=o z)(w:Fr (λ z=>o z≠0) H H1)(b:gq H1 o1 p f l sp cv pv d os' k' H'):gq H o p f l sp cv pv d os' k' H':=by
 have⟨o2,g,e,h,i,j⟩:=b;refine⟨o2,g,e,h,λ z q=>(i z (qj q w.au)).trans (a z q),w.trans j λ z q=>?_⟩;rcases xp z H.au with r|r
 .exact .inl (by rw[<-a z r];exact q)
 .exact .inr r
def dG.loc(h:dG H o p f l sp cv rv ov pv c os k)(a:Fr Em H H1)(hn:H.au<H1.au):dG H1 (bw o H.au 0) p f l sp cv rv ov pv c os k/\(∀z,z<H.au->bw o H.au 0 z=o z)/\bw o H.au 0 H.au=0 :=
 ⟨h.fr a (λ _ _ _ q=>q) (λ z q=>vx q) (qg _),λ z q=>vx q,mG (qg _)⟩
def dG.lK(h:dG H o p f l sp cv rv ov pv c os k){H1:ar}(a:Fr (On p) H H1):Fr (λ z=>o z≠0) H H1:=a.mono λ z _(q:z=p)=>by rw[q,h.op];decide
def dG.one(h:dG H o p f l sp cv rv ov pv c os k){H1:ar}(a:Fr (On p) H H1)(b:gq H1 o p f l sp cv pv d os' k' H'):gq H o p f l sp cv pv d os' k' H':=gq.qX (λ _ _=>rfl) (h.lK a) b
def G0(h:dG H o p f l sp cv rv ov pv s.c s.o k)(n:Int):xz M PO [.ptr p 0,.int .i64 n] H λ _ H'=>gq H o p f l sp cv pv (s.ft n).c (s.ft n).o k H':=by
 refine _o ?_;simp only[aa,bc,qvk,aw,h.bq];refine C3.q (FT h.fi n) λ _ H1 hp=>?_;have⟨o1,m,j,a,b,e⟩:=h.D7 hp;have⟨r,s2,i,g⟩:=a.put 19 (v:=.int .i64 (aj .i64 (s.c.nc+1))) (s.ft n).c rfl (by decide) rfl ⟨rfl,rfl,rfl,rfl⟩ rfl {a.w with};simp only[aa,bc,aw,a.bq,s2];exact gq.qX b e (a.xP g i)
def U0(h:dG H o p f l sp cv rv ov pv s.c s.o k):xz M ZO [.ptr p 0] H λ _ H'=>gq H o p f l sp cv pv s.leave.c s.leave.o k H':=by
 refine qs8 ?_;simp only[aa,bc,y_,aw,h.bq];refine C3.q (GQ h.la) λ _ H1 hp=>?_;have⟨o1,z,x,a,g,j⟩:=h.TM hp;simp only[aa,bc,aw,a.bq];refine C3.q (Lx a.fi) λ _ D hp=>?_;have⟨o2,A,y,b,i,m⟩:=a.D7 hp;have⟨E,B,e,n⟩:=b.put 16 (v:=.bool B2) {s.c with la:=s.c.la.leave,fi:=s.c.fi.drop,held:=B2} rfl (by decide) rfl ⟨rfl,rfl,rfl,rfl⟩ rfl {b.w with};have⟨F,C,u,r⟩:=e.put 6 (v:=.int .i64 0) s.leave.c rfl (by decide) rfl ⟨rfl,rfl,rfl,rfl⟩ rfl {e.w with};simp only[aa,bc,aw,B,C];exact gq.qX g j (gq.qX i m (b.one n (e.xP r u)))
def sg(h:dG H o p f l sp cv rv ov pv s.c s.o k)(hl:s.o.length<=1000):xz M t8 [.ptr p 0] H λ _ H'=>gq H o p f l sp cv pv s.az.c s.az.o k H':=by
 refine qnr ?_;have fin:∀{H1:ar}{o1:Nat->Nat}{b a:AV}{t:CS},dG H1 o1 p f l sp cv b a pv t.c t.o k -> ∃r e,Op.store 1 [.ptr p 17,.bool B4] H1=B1 (.undef,r)/\Op.store 1 [.ptr p 16,.bool B2] r=B1 (.undef,e)/\gq H1 o1 p f l sp cv pv {t.c with said:=B4,held:=B2} t.o k e:=λ{H1 o1 b a t}g=>by
  have⟨e,i,n,y⟩:=g.put 17 (v:=.bool B4) {t.c with said:=B4} rfl (by decide) rfl ⟨rfl,rfl,rfl,rfl⟩ rfl {g.w with};have⟨m,j,A,z⟩:=n.put 16 (v:=.bool B2) {t.c with said:=B4,held:=B2} rfl (by decide) rfl ⟨rfl,rfl,rfl,rfl⟩ rfl {n.w with};exact⟨e,m,i,j,g.one y (n.xP z A)⟩
 unfold CS.az;cases q:s.c.said with
 |true =>
  have⟨e,m,i,j,hp⟩:=fin h;simp only[aa,bc,UI,aw,h.bq,q,i,j];exact hp
 |false =>
  simp only[aa,bc,UI,aw,h.bq,q,za];refine C3.q (CR h hl 5 0 0 0) λ _ H1⟨o1,b,a,g,u,x⟩=>?_;have⟨e,m,i,j,hp⟩:=fin (t:=s.tell 5 0 0 0) g;simp only[aa,bc,UI,aw,i,j];exact gq.qX u x hp
def q88(s:CS):s.az.o.length<=s.o.length+1:=by
 unfold CS.az;simp only;split
 .omega
 .show (s.o ++ [_]).length<=_;rw[xk];simp
def _r(s:CS):s.az.leave.c.fi.pc=s.c.fi.pc:=by
 unfold CS.az;simp only;split<;>rfl
def M8(h:dG H o p f l sp cv rv ov pv s.c s.o k)(hl:s.o.length<=1000):xz M XA [.ptr p 0] H λ _ H'=>gq H o p f l sp cv pv s.dk.c s.dk.o k H':=by
 refine qp4 ?_;simp only[aa,bc,qp5];refine C3.q (sg h hl) λ _ H1⟨o1,C,z,x,g,m⟩=>?_;simp only[aa,bc];refine C3.q (U0 x) λ _ G⟨o2,D,A,a,i,n⟩=>?_;have e:=_r s;simp only[aa,bc,aw,a.bq,UT a.fi,e];refine C3.q (FT a.fi (aj .i64 (s.c.fi.pc+1))) λ _ I hp=>?_;have⟨o3,E,B,b,j,r⟩:=a.D7 hp;have⟨J,F,y,u⟩:=b.put 19 (v:=.int .i64 (aj .i64 (s.az.leave.c.nc+1))) s.dk.c rfl (by decide) rfl ⟨rfl,rfl,rfl,rfl⟩ rfl {b.w with};simp only[aa,bc,aw,b.bq,F];exact gq.qX g m (gq.qX i n (gq.qX j r (b.xP u y)))
def UZ(h:dG H o p f l sp cv rv ov pv s.c s.o k)(hl:s.o.length<=1000)(cd:Int):xz M Tj [.ptr p 0,.int .i64 cd] H λ _ H'=>gq H o p f l sp cv pv (s.abort cd).c (s.abort cd).o k H':=by
 refine ν ?_;simp only[aa,bc,I'];refine C3.q (CR h hl 6 0 0 cd) λ _ H1⟨o1,B,y,a,g,m⟩=>?_;simp only[aa,bc,aw,a.bq];refine C3.q (UR a.fi) λ _ F hp=>?_;have⟨o2,C,z,b,i,n⟩:=a.D7 hp;simp only[aa,bc,aw,b.bq];refine C3.q (Gl b.la cd) λ _ G hp=>?_;have⟨o3,D,A,e,j,r⟩:=b.TM hp;have⟨I,E,x,u⟩:=e.put 6 (v:=.int .i64 1) (s.abort cd).c rfl (by decide) rfl ⟨rfl,rfl,rfl,rfl⟩ rfl {e.w with};simp only[aa,bc,aw,E];exact gq.qX g m (gq.qX i n (gq.qX j r (e.xP u x)))
def SI(h:dG H o p f l sp cv rv ov pv s.c s.o k)(hl:s.o.length<=1000):xz M Wf [.ptr p 0] H λ _ H'=>gq H o p f l sp cv pv s.breaks.c s.breaks.o k H':=by
 refine qri ?_;simp only[aa,bc,Z5];refine C3.q (CR h hl 6 0 0 7) λ _ H1⟨o1,D,A,a,g,m⟩=>?_;simp only[aa,bc,aw,a.bq];refine C3.q (UR a.fi) λ _ J hp=>?_;have⟨o2,E,B,y,i,n⟩:=a.D7 hp;simp only[aa,bc];refine C3.q (U0 (s:=(s.tell 6 0 0 7).fi .restore) y) λ _ K⟨o3,F,C,b,j,r⟩=>?_;have⟨L,G,e,u⟩:=b.put 20 (v:=.bool B4) {((s.tell 6 0 0 7).fi .restore).leave.c with halted:=B4} rfl (by decide) rfl ⟨rfl,rfl,rfl,rfl⟩ rfl {b.w with};have⟨N,I,z,x⟩:=e.put 21 (v:=.bool B4) s.breaks.c rfl (by decide) rfl ⟨rfl,rfl,rfl,rfl⟩ rfl {e.w with};simp only[aa,bc,aw,G,I];exact gq.qX g m (gq.qX i n (gq.qX j r (b.one u (e.xP x z))))
def K1(h:dG H o p f l sp cv rv ov pv c os k){u:Int}(hu:fm u):∀K,C3 M B4 (.func Xi) [.ptr p 0,.int .u64 u] H K=K B4 (.tuple [.int .i64 (if CS.CC c u=B4 then 8+u else 0),.bool (CS.CC c u)]) H:=by
 refine dX (q2b ?_);have j:=h.w.l2;have m:=h.w.l64;have b:aj .i64 (c.lines-1)=c.lines-1:=jr (by omega) (by omega);have e:aj .i64 ((c.lines-1)*8)=(c.lines-1)*8:=jr (by omega) (by omega);have g:aj .u64 ((c.lines-1)*8)=(c.lines-1)*8:=XN (by omega) (by omega);unfold CS.CC
 by_cases q:(c.lines-1)*8<=u
 .have a:¬u<(c.lines-1)*8:=Int.not_lt.2 q;simp only[aa,bc,nB,aw,h.bq,b,e,g,qr q,a,za]
 .have a:u<(c.lines-1)*8:=Int.not_le.1 q;have w4:aj .i64 u=u:=jr (by have:=hu.1;omega) (by omega);have i:aj .i64 (8+u)=8+u:=jr (by have:=hu.1;omega) (by omega);simp only[aa,bc,nB,aw,h.bq,b,e,g,q,qr a,w4,i]
def Nw(h:dG H o p f l sp cv rv ov pv s.c s.o k)(hl:s.o.length<=1000)(e:lW)(hu:fm e.addr){v:Int}(T:fm v):xz M Um [.ptr p 0,.agg (aY e),.int .u64 v] H λ _ H'=>gq H o p f l sp cv pv (s.dE e v).c (s.dE e v).o k H':=by
 refine qrm ?_;obtain⟨H1,A,J,-,-⟩:=de H (OR (aY e) zq);have z:At H1 H.au zq _:=A▸At.new H _ _;have⟨r,P,n1⟩:=h.loc J (show H.au<H1.au from z.2);have l4:Op.ae [.ptr H.au 4] H1=B1 (.int .u64 e.addr):=z.ld 4;have ce:AV.cells (.agg (aY e))=aY e:=zb _;obtain⟨m,b⟩:∃m:Int,m=if s.c.la.lane=0 then 7 else 2:=⟨_,rfl⟩
 obtain⟨a,ha⟩:∃a:Int,a=if CS.CC s.c e.addr=B4 then 8+e.addr else 0:=⟨_,rfl⟩
 have n:=K1 (M:=M) r hu;rw[<-ha]at n;have main:∀{K:Bool->AV->ar->Prop},(∀w j o2 i g,dG j o2 p f l sp cv i g pv (s.tell m a v 0).c (s.tell m a v 0).o k->Op.ae [.ptr p 3] j=B1 (.ptr f 0)->Op.ae [.ptr H.au 2] j=B1 (.int .i64 e.nQ)->(xz M QI [.ptr f 0,.int .i64 e.nQ,.int .u64 v] j λ _ x=>Op.ae [.ptr H.au 1] x=B1 (.int .i64 e.au)/\xz M PO [.ptr p 0,.int .i64 e.au] x λ _ y=>gq H o p f l sp cv pv (s.dE e v).c (s.dE e v).o k y)->K B4 w j)->C3 M B4 (.func Ue) [.ptr p 0,.int .i64 m,.int .i64 a,.int .u64 v,.int .i64 0] H1 K:=λ hk=>by
  refine C3.q (CR r hl m a v 0) λ w j⟨o2,i,g,u,I,L⟩=>?_;have G:=z.fr L (λ q=>q n1);have n2:o2 H.au=0:=(I _ z.2).trans n1;refine hk w j o2 i g u u.bq.2.2.2.1 (G.ld 2) ((Gv u.fi e.nQ T).mono λ _ x hp=>?_);have⟨o3,V,U,S,Q,N⟩:=u.D7 hp;have O:=G.fr N (λ q=>q n2);refine⟨O.ld 1,(G0 (s:=(s.tell m a v 0).fi (·.set e.nQ v)) S e.au).mono λ _ y hp=>?_⟩;have R:s.dE e v=((s.tell m a v 0).fi (·.set e.nQ v)).ft e.au:=by rw[b,ha];rfl
  rw[R];exact gq.qX P (J.mono λ _ _ q=>q.elim) (gq.qX I L (gq.qX Q N hp))
 by_cases q:s.c.la.lane=0
 .rw [qv q]at b;subst b;simp only[aa,bc,Xm,aw,ce,<-A,l4,n,r.bq,ia r.la,qr q];refine main λ w j o2 i g u B C D=>?_;simp only[aa,bc,aw,B,C];refine C3.q D λ _ x⟨E,F⟩=>?_;simp only[aa,bc,E];refine C3.q F λ _ y hp=>?_;simp only[aa,bc];exact hp
 .rw [qn q]at b;subst b;simp only[aa,bc,Xm,aw,ce,<-A,l4,n,r.bq,ia r.la,q];refine main λ w j o2 i g u B C D=>?_;simp only[aa,bc,aw,B,C];refine C3.q D λ _ x⟨E,F⟩=>?_;simp only[aa,bc,E];refine C3.q F λ _ y hp=>?_;simp only[aa,bc];exact hp
def Kd(h:dG H o p f l sp cv rv ov pv s.c s.o k)(hl:s.o.length<=1000)(b:Int)(e:lW)(a:Int):xz M Yp [.ptr p 0,.int .i64 b,.agg (aY e),.int .i64 a] H λ _ H'=>gq H o p f l sp cv pv (s.stored b e a).c (s.stored b e a).o k H':=by
 refine E_ ?_;obtain⟨H1,i,j,-,-⟩:=de H (OR (aY e) zq);have g:At H1 H.au zq _:=i▸At.new H _ _;have⟨v,r,n1⟩:=h.loc j (show H.au<H1.au from g.2);have l3:Op.ae [.ptr H.au 3] H1=B1 (.int .u64 e.value):=g.ld 3;have ce:AV.cells (.agg (aY e))=aY e:=zb _;simp only[aa,bc,qrp,ce,<-i,l3];refine C3.q (CR v hl b a e.value 0) λ _ n⟨o2,y,x,w,u,m⟩=>?_;have l1:Op.ae [.ptr H.au 1] n=B1 (.int .i64 e.au):=(g.fr m (λ q=>q n1)).ld 1;simp only[aa,bc,l1];refine C3.q (G0 (s:=s.tell b a e.value 0) w e.au) λ _ z hp=>?_;simp only[aa,bc];exact gq.qX r (j.mono λ _ _ q=>q.elim) (gq.qX u m hp)
end
end Go.Am
namespace Go.Am
open Lang Go.Proofs
variable{M:ak}[MK M]
def wM.pK{b:Bu}(h:wM b)(i:Nat):wM (b.pK i):=by
 unfold Bu.pK;cases hm:b.fl[i]? with
 |none=>exact h
 |some m =>
  have g:=h.f m (xl hm);have d:oO (b.fl.eraseIdx i):=λ x q=>h.f x (List.mem_of_mem_eraseIdx q);simp only;split
  .cases j:b.l[m.line.toNat]? with
   |none=>exact h
   |some x =>
    cases hw:b.m[m.line.toNat]? with
    |none=>exact h
    |some w =>
     have⟨a,c⟩:=De.Iv x (h.m w (xl hw)) g;exact⟨λ y q=>(uy q).elim (h.m y) λ e=>e▸a,h.n,d.app c⟩
  .cases hn:b.ns[m.core.toNat]? with
   |none=>exact h
   |some n =>
    have⟨a,c⟩:=No.U.bh (h.n n (xl hn)) g;exact⟨h.m,λ y q=>(uy q).elim (h.n y) λ e=>e▸a,d.app c⟩
def wM.step{b:Bu}(h:wM b)(x:Bt)(d:fm x.v):wM (b.step x):=by
 unfold Bu.step;split
 .split
  .exact h.pK _
  .exact h
 split
 .cases hn:b.ns[x.c.toNat]? with
  |none=>exact h
  |some n =>
   have a:=h.n n (xl hn);simp only;unfold No.call;split
   .exact h.put _ (No.U.load a _).1 (No.U.load a _).2.2
   split
   .exact h.put _ (No.U.store a _ d).1 (No.U.store a _ d).2
   split
   .exact h.put _ (No.U.mL a _ _ d).1 (No.U.mL a _ _ d).2
   split
   .exact h.put _ (No.U.begin a) .nil
   split
   .exact h.put _ (No.U.aT a) .nil
   split
   .exact h.put _ (No.U.abort a _) .nil
   split
   .exact h.put _ (No.U.eQ a _).1 (No.U.eQ a _).2
   .exact h.put _ a .nil
 .exact h
def ae8{b:Bu}{x:Bt}{n:No}(hk:x.k≠7)(a:0<=x.c)(hn:b.ns[x.c.toNat]? = B1 n):b.step x=b.put x.c.toNat (n.call x):=by
 unfold Bu.step;rw[qn hk,qv a,hn]
structure SX where
 H:ar
 o:Nat->Nat
 W:Nat->Prop
 p:Nat
 f:Nat
 l:Nat
 sp:Nat
 B:Nat
 cv:AV
 Hb:ar
 k:Nat
abbrev SX.pv(X:SX):AV:=.iface Cx (.ptr X.B 0)
structure dt(X:SX)(n:Nat)(s:CS)(H:ar)(o:Nat->Nat)(rv ov:AV)(bs:Bs)(own:Nat->Nat)(V:Int->L8):Prop where
 c:dG H o X.p X.f X.l X.sp X.cv rv ov X.pv s.c s.o (X.k+n)
 b:fK X.Hb H X.B bs s.b own
 I:BuI s.b V
 C:BC s.b (X.k+n)
 U:wM s.b
 nn:s.c.id<s.b.ns.length
 dj:∀z,iV X.B bs z->o z=0
 hb:∀z,z<H.au->o z≠0->X.Hb.au<=z
 go:∀z,z<H.au->o z≠0->(z<X.H.au/\X.o z≠0)\/X.H.au<=z
 gb:∀z,iV X.B bs z->X.W z\/X.H.au<=z
 fr:Fr (λ z=>X.o z≠0\/X.W z) X.H H
def jU(X:SX)(n:Nat)(s:CS)(H:ar):Prop:=∃o rv ov bs own V,dt X n s H o rv ov bs own V
section
variable{X:SX}{n n':Nat}{s t:CS}{H H':ar}{o:Nat->Nat}{rv ov:AV}{bs:Bs}{own:Nat->Nat}{V:Int->L8}
def dt.hn(h:dt X n s H o rv ov bs own V):X.Hb.au<=H.au:=by
 have:=h.b.lo X.B (.inl rfl);have:=h.b.lt;omega
def dt.DG(h:dt X n s H o rv ov bs own V){o':Nat->Nat}{rv' ov':AV}(hb:t.b=s.b)(d:t.c.id=s.c.id)(g:dG H' o' X.p X.f X.l X.sp X.cv rv' ov' X.pv t.c t.o (X.k+n'))(a:∀z,z<H.au->o' z=o z)(f:Fr (λ z=>o z≠0) H H')(hn:n<=n'):dt X n' t H' o' rv' ov' bs own V:=by
 have i:=h.hn;have fn:=f.au;have j:=h.fr.au;refine⟨g,?_,by rw[hb];exact h.I,by rw[hb];exact h.C.mono (by omega),by rw[hb];exact h.U,by rw[hb,d];exact h.nn,λ z q=>(a z (h.b.low q)).trans (h.dj z q),λ z q e=>?_,λ z q e=>?_,h.gb,h.fr.trans f λ z q=>?_⟩
 .rw [hb];refine h.b.fr (f.mono (W':=λ z=>o z≠0/\z<H.au) λ z w q=>⟨q,w⟩) λ z⟨q,w⟩=>⟨h.hb z w q,λ e=>q (h.dj z e)⟩
 .rcases xp z H.au with w|w
  .rw [a z w]at e;exact h.hb z w e
  .omega
 .rcases xp z H.au with w|w
  .rw [a z w]at e;exact h.go z w e
  .exact .inr (by omega)
 .rcases xp z H.au with w|w
  .exact (h.go z w q).imp (λ e=>.inl e.2) id
  .exact .inr (by omega)
def dt.co(h:dt X n s H o rv ov bs own V)(hb:t.b=s.b)(d:t.c.id=s.c.id)(hp:gq H o X.p X.f X.l X.sp X.cv X.pv t.c t.o (X.k+n') H')(hn:n<=n'):jU X n' t H':=by
 have⟨o',rv',ov',e,a,f⟩:=hp;exact⟨o',rv',ov',bs,own,V,h.DG hb d e a f hn⟩
def jU.mono(h:jU X n s H)(hn:n<=n'):jU X n' s H:=by
 have⟨o,rv,ov,bs,own,V,q⟩:=h;exact⟨o,rv,ov,bs,own,V,{q with c:=q.c.fr (Fr.refl H) (λ _ _ _ w=>w) (λ _ _=>rfl) (by omega),C:=q.C.mono (by omega)}⟩
def dt.em(h:dt X n s H o rv ov bs own V)(f:Fr Em H H'):∃o',dt X n s H' o' rv ov bs own V/\(∀z,z<H.au->o' z=o z) /\ ∀z,H.au<=z->o' z=0:=by
 have ho:∀z,z<H.au->bw o H.au 0 z=o z:=λ z q=>vx q;refine⟨bw o H.au 0,{h with c:=h.c.fr f (λ _ _ _ q=>q) ho (qg _),b:=h.b.em f,dj:=λ z q=>(ho z (h.b.low q)).trans (h.dj z q),hb:=λ z q e=>?_,go:=λ z q e=>?_,fr:=h.fr.em f},ho,λ z q=>mG q⟩
 .rcases xp z H.au with w|w
  .rw [ho z w]at e;exact h.hb z w e
  .rw [mG w]at e;exact(e rfl).elim
 .rcases xp z H.au with w|w
  .rw [ho z w]at e;exact h.go z w e
  .rw [mG w]at e;exact(e rfl).elim
def dt.bu(h:dt X n s H o rv ov bs own V){x:Bt}(p:x.k≠7)(m:fm x.v)(hp:kV X.Hb H X.B bs (s.b.step x) H'):jU X (n+1) {s with b:=s.b.step x} H':=by
 have⟨a,d,j,g,f⟩:=hp;have ho:∀z,z<H.au->Go.Am.bw o H.au 0 z=o z:=λ z q=>vx q;have l:=h.hn;have fn:=f.au;have r:=h.fr.au;have hl:(s.b.step x).ns.length=s.b.ns.length:=by
  unfold Bu.step;rw[qn p];split
  .split
   .rfl
   .show (s.b.ns.set _ _).length=_;rw[xw]
  .rfl
 have i:=zF h.I x;refine⟨Go.Am.bw o H.au 0,rv,ov,a,d,_,h.c.fr f (λ z q e w=>e (h.dj z w)) ho (by omega),j,i,Ai h.C x,h.U.step x m,by show s.c.id<((s.b.step x).ns.length:Int);rw[hl];exact h.nn,λ z q=>?_,λ z q e=>?_,λ z q e=>?_,λ z q=>?_,h.fr.trans f λ z q=>?_⟩
 .rcases g z q with w|w
  .exact (ho z (h.b.low w)).trans (h.dj z w)
  .exact mG w
 .rcases xp z H.au with w|w
  .rw [ho z w]at e;exact h.hb z w e
  .rw [mG w]at e;exact(e rfl).elim
 .rcases xp z H.au with w|w
  .rw [ho z w]at e;exact h.go z w e
  .rw [mG w]at e;exact(e rfl).elim
 .rcases g z q with w|w
  .exact h.gb z w
  .exact .inr (by omega)
 .exact (h.gb z q).imp .inr id
def SX.at(X:SX)(H:ar)(o:Nat->Nat)(bs:Bs):SX:={X with H:=H,o:=o,W:=iV X.B bs}
def dt.re(h:dt X n s H o rv ov bs own V):dt (X.at H o bs) n s H o rv ov bs own V :=
 {h with go:=λ z q e=>.inl ⟨q,e⟩,gb:=λ z q=>.inl q,fr:=Fr.refl H}
def dt.qN(h:dt X n s H o rv ov bs own V){o2:Nat->Nat}{f d:AV}{c:Bs}{b:Nat->Nat}{i:Int->L8}(q:dt (X.at H o bs) n' t H' o2 f d c b i):dt X n' t H' o2 f d c b i:=by
 have g:=h.fr.au;refine{q with go:=λ z a e=>?_,gb:=λ z a=>?_,fr:=h.fr.trans q.fr λ z a=>?_}
 .rcases q.go z a e with⟨w,r⟩|w
  .exact h.go z w r
  .exact .inr (xm g w)
 .rcases q.gb z a with w|w
  .exact h.gb z w
  .exact .inr (xm g w)
 .rcases a with a|a
  .rcases xp z H.au with w|w
   .exact (h.go z w a).imp (λ r=>.inl r.2) id
   .exact .inr (xm g w)
  .exact (h.gb z a).imp .inr id
theorem dt.back(h:dt X n s H o rv ov bs own V)(f:jU (X.at H o bs) n' t H'):jU X n' t H':=by
 have⟨o2,d,c,b,a,e,q⟩:=f;exact⟨o2,d,c,b,a,e,h.qN q⟩
def Ch(H:ar)(o:Nat->Nat)(B:Nat)(bs:Bs)(z:Nat):Prop:=z<H.au/\o z=0 /\ ¬iV B bs z
def dt.lo{b:ar}{o2:Nat->Nat}{a:Bs}(q:dt (X.at H o bs) n' t b o2 rv ov a own V){z:Nat}(h:Ch H o X.B bs z):Ch b o2 X.B a z/\b.get z=H.get z:=by
 have fn:=q.fr.au;refine⟨⟨qj h.1 fn,?_,λ w=>?_⟩,q.fr.ah z h.1 λ w=>w.elim (λ e=>e h.2.1) h.2.2⟩
 .rcases Nat.eq_zero_or_pos (o2 z)with w|w
  .exact w
  .rcases q.go z (qj h.1 fn) (by omega)with⟨_,r⟩|r
   .exact (r h.2.1).elim
   .have:=h.1;exact absurd r (Nat.not_le.2 this)
 .rcases q.gb z w with r|r
  .exact h.2.2 r
  .have:=h.1;exact absurd r (Nat.not_le.2 this)
def dt.nR(h:dt X n s H o rv ov bs own V){d:Nat}(a:Ch H o X.B bs d)(g:X.H.au<=d)(hb:X.Hb.au<=d)(e:bB):dt X n s (H.set d e) o rv ov bs own V:=by
 have f:Fr (On d) H (H.set d e):=(Fr.refl H).set (W:=On d) (.inl rfl) _;exact{h with c:=h.c.fr f (λ z _ q(r:z=d)=>q (by rw[r];exact a.2.1)) (λ _ _=>rfl) (qg _),b:=h.b.fr f λ z(r:z=d)=>⟨by omega,by rw[r];exact a.2.2⟩,fr:=h.fr.trans f λ z(r:z=d)=>.inr (by omega)}
def dt.loc(h:dt X n s H o rv ov bs own V)(f:Fr Em H H'):∃o',dt X n s H' o' rv ov bs own V /\ ∀z,(H.au<=z/\z<H'.au->Ch H' o' X.B bs z)/\(Ch H o X.B bs z->Ch H' o' X.B bs z):=by
 have⟨o',c,a,b⟩:=h.em f;refine⟨o',c,λ z=>⟨λ q=>⟨q.2,b z q.1,λ w=>by have:=h.b.low w;omega⟩,λ q=>⟨qj q.1 f.au,(a z q.1).trans q.2.1,q.2.2⟩⟩⟩
end
def tG(t:Nat)(v:AV):Op.nilCheck [.iface t v]=B1 (.iface t v):=rfl
def Hn:M.jB Cx "Load" = B1 Oo:=(MK.mt _ _).trans (by kernel_rfl)
def DP:M.jB Cx "Store" = B1 N8:=(MK.mt _ _).trans (by kernel_rfl)
def LL:M.jB Cx "Cas" = B1 O4:=(MK.mt _ _).trans (by kernel_rfl)
def Y2:M.jB Cx "Begin" = B1 PE:=(MK.mt _ _).trans (by kernel_rfl)
def Sh:M.jB Cx "Commit" = B1 NF:=(MK.mt _ _).trans (by kernel_rfl)
def Sn:M.jB Cx "Abort" = B1 N9:=(MK.mt _ _).trans (by kernel_rfl)
def OS:M.jB Cx "Live" = B1 OX:=(MK.mt _ _).trans (by kernel_rfl)
def RX:M.jB Cx "Code" = B1 NM:=(MK.mt _ _).trans (by kernel_rfl)
section
variable{X:SX}{n n':Nat}{s t:CS}{H H':ar}{o:Nat->Nat}{rv ov:AV}{bs:Bs}{own:Nat->Nat}{V:Int->L8}
def dt.node(h:dt X n s H o rv ov bs own V):0<=s.c.id/\s.b.ns[s.c.id.toNat]? = B1 s.node:=by
 have a:=h.c.w.id;have hn:=h.nn;refine⟨a,?_⟩;have hl:s.c.id.toNat<s.b.ns.length:=by omega
 unfold CS.node;rw[xj hl];rfl
def dt.bb(h:dt X n s H o rv ov bs own V)(hk:X.k+n<=90000):BB s.b:=h.C.bb h.I (by omega)
def dt.D2(h:dt X n s H o rv ov bs own V)(k v:Int)(a w:Int)(hk:k≠7):s.b.step ⟨k,s.c.id,a,v,w⟩=s.b.put s.c.id.toNat (s.node.call ⟨k,s.c.id,a,v,w⟩):=ae8 hk h.node.1 h.node.2
def J9(h:dt X n s H o rv ov bs own V)(hk:X.k+n<=90000)(a:Int):xz M Ur [.ptr X.p 0,.int .i64 a] H λ v H'=>v=.tuple [.int .u64 (s.iX a).1,.bool (s.iX a).2]/\fm (s.iX a).1/\jU X (n+1) (s.ld a) H':=by
 refine qvn ?_;have hu:fm (s.iX a).1:=(No.U.load (h.U.n s.node (xl h.node.2)) a).2.1;simp only[aa,bc,qvo,aw,h.c.bq,SX.pv,tG,Hn];refine C3.q (xek h.b (h.bb hk) h.node.1 h.node.2 a) λ v H1⟨g,hp⟩=>?_;subst g;have e:=h.D2 0 0 a 0 (by decide);have st:jU X (n+1) (s.ld a) H1:=h.bu (x:=⟨0,s.c.id,a,0,0⟩) (by show(0:Int)≠7;decide) bI (by rw[e];exact hp);cases q:(s.node.load a).2.2.1 with
 |false =>
  have f:(s.iX a).2=false:=by unfold CS.iX;rw[q];rfl
  have d:(s.iX a).1=(s.node.load a).2.1:=rfl;simp only[aa,bc,aw,f,d];exact⟨hu,st⟩
 |true =>
  have f:(s.iX a).2=decide ((s.node.load a).2.2.2.2=0):=by unfold CS.iX;rw[q];rfl
  have d:(s.iX a).1=(s.node.load a).2.1:=rfl;simp only[aa,bc,aw,f,d];exact⟨hu,st⟩
def M6(h:dt X n s H o rv ov bs own V)(hk:X.k+n<=90000)(a:Int){v:Int}(f:fm v):xz M Yi [.ptr X.p 0,.int .i64 a,.int .u64 v] H λ w H'=>w=.bool (s.sy a v)/\jU X (n+1) (s.st a v) H':=by
 refine M' ?_;simp only[aa,bc,qte,aw,h.c.bq,SX.pv,tG,DP];refine C3.q (xck h.b (h.bb hk) h.node.1 h.node.2 a v) λ w H1⟨hw,hp⟩=>?_;subst hw;have e:=h.D2 1 v a 0 (by decide);have st:jU X (n+1) (s.st a v) H1:=h.bu (x:=⟨1,s.c.id,a,v,0⟩) (by show(1:Int)≠7;decide) f (by rw[e];exact hp);cases q:(s.node.store a v).2.1 with
 |false =>
  have d:s.sy a v=false:=by unfold CS.sy;rw[q];rfl
  simp only[aa,bc,aw,d];exact st
 |true =>
  have d:s.sy a v=decide ((s.node.store a v).2.2.2=0):=by unfold CS.sy;rw[q];rfl
  simp only[aa,bc,aw,d];exact st
def FJ(h:dt X n s H o rv ov bs own V)(hk:X.k+n<=90000)(a w:Int){v:Int}(g:fm v):xz M YZ [.ptr X.p 0,.int .i64 a,.int .u64 w,.int .u64 v] H λ r H'=>r=.tuple [.bool (s.u5 a w).1,.bool (s.u5 a w).2]/\jU X (n+1) (s.cs a w v) H':=by
 refine qzg ?_;simp only[aa,bc,qzh,aw,h.c.bq,SX.pv,tG,LL];refine C3.q (yU h.b (h.bb hk) h.node.1 h.node.2 a w v) λ r H1⟨hr,hp⟩=>?_;subst hr;have e:=h.D2 2 v a w (by decide);have st:jU X (n+1) (s.cs a w v) H1:=h.bu (x:=⟨2,s.c.id,a,v,w⟩) (by show(2:Int)≠7;decide) g (by rw[e];exact hp);have f:(s.u5 a w).1=(s.node.iN a w).1:=rfl;cases q:(s.node.iN a w).2.1 with
 |false =>
  have d:(s.u5 a w).2=false:=by unfold CS.u5;rw[q];rfl
  simp only[aa,bc,aw,d,f];exact st
 |true =>
  have d:(s.u5 a w).2=decide ((s.node.iN a w).2.2=0):=by unfold CS.u5;rw[q];rfl
  simp only[aa,bc,aw,d,f];exact st
def pe(h:dt X n s H o rv ov bs own V)(hk:X.k+n<=90000):xz M PE [.ptr X.B 0,.int .i64 s.c.id] H λ _ H'=>jU X (n+1) (s.lI 3 0 0 0) H' :=
 (xca h.b (h.bb hk) h.node.1 h.node.2).mono λ _ H1⟨_,hp⟩=>h.bu (x:=⟨3,s.c.id,0,0,0⟩) (by show(3:Int)≠7;decide) bI (by rw[h.D2 3 0 0 0 (by decide)];exact hp)
def RH(h:dt X n s H o rv ov bs own V)(hk:X.k+n<=90000):xz M NF [.ptr X.B 0,.int .i64 s.c.id] H λ _ H'=>jU X (n+1) (s.lI 4 0 0 0) H' :=
 (q8t h.b (h.bb hk) h.node.1 h.node.2).mono λ _ H1⟨_,hp⟩=>h.bu (x:=⟨4,s.c.id,0,0,0⟩) (by show(4:Int)≠7;decide) bI (by rw[h.D2 4 0 0 0 (by decide)];exact hp)
def RD(h:dt X n s H o rv ov bs own V)(hk:X.k+n<=90000)(c:Int):xz M N9 [.ptr X.B 0,.int .i64 s.c.id,.int .i64 c] H λ _ H'=>jU X (n+1) (s.lI 5 c 0 0) H' :=
 (D_ h.b (h.bb hk) h.node.1 h.node.2 c).mono λ _ H1 hp=>h.bu (x:=⟨5,s.c.id,c,0,0⟩) (by show(5:Int)≠7;decide) bI (by rw[h.D2 5 0 c 0 (by decide)];exact hp)
def ID(h:dt X n s H o rv ov bs own V)(hk:X.k+n<=90000):∀K,C3 M B4 (.func OX) [.ptr X.B 0,.int .i64 s.c.id] H K=K B4 (.bool s.node.live) H:=dX (q6f h.b (h.bb hk) h.node.1 h.node.2)
end
end Go.Am
namespace Go.Am
open Lang Go.Proofs
variable{M:ak}[MK M]
section
variable{X:SX}{n n':Nat}{s t:CS}{H H':ar}{o:Nat->Nat}{rv ov:AV}{bs:Bs}{own:Nat->Nat}{V:Int->L8}
def dt.here(h:dt X n s H o rv ov bs own V):jU X n s H:=⟨o,rv,ov,bs,own,V,h⟩
def dt.dK(h:dt X n s H o rv ov bs own V)(hn:n<=n'):jU X n' s H:=h.here.mono hn
def dt.on(h:dt X n s H o rv ov bs own V){d:Co}{rv':AV}(a:d.id=s.c.id)(f:Fr (On X.p) H H')(g:dG H' o X.p X.f X.l X.sp X.cv rv' ov X.pv d s.o (X.k+n)):dt X n {s with c:=d} H' o rv' ov bs own V:=by
 have i:=h.hn;have fn:=f.au;have j:=h.fr.au;have hp:=h.c.op;refine{h with c:=g,b:=?_,nn:=by show d.id<_;rw[a];exact h.nn,hb:=λ z q e=>?_,go:=λ z q e=>?_,fr:=h.fr.trans f λ z(q:z=X.p)=>?_}
 .refine h.b.fr (f.mono (W':=λ z=>o z≠0/\z<H.au) λ z w(q:z=X.p)=>⟨by rw[q,hp];decide,w⟩) λ z⟨q,w⟩=>⟨h.hb z w q,λ e=>q (h.dj z e)⟩
 .rcases xp z H.au with w|w
  .exact h.hb z w e
  .omega
 .rcases xp z H.au with w|w
  .exact h.go z w e
  .exact .inr (by omega)
 .rw [q];exact(h.go X.p h.c.row.2 (by rw[hp];decide)).imp (λ e=>.inl e.2) id
theorem dt.put(h:dt X n s H o rv ov bs own V)(i:Nat){v:AV}(d:Co)(a:aC v=B4)(e:i<24)(he:(cj s.c X.f X.l X.sp X.cv rv ov X.pv).set i v=cj d X.f X.l X.sp X.cv rv ov X.pv)(hs:d.fi=s.c.fi/\d.la=s.c.la/\d.so=s.c.so/\d.code=s.c.code)(hr:d.aO=s.c.aO/\d.id=s.c.id)(hw:FZ d (X.k+n)) :
 ∃H',Op.store 1 [.ptr X.p i,v] H=B1 (.undef,H')/\dt X n {s with c:=d} H' o rv ov bs own V:=by
 have⟨H1,s1,a,b⟩:=h.c.put i d a e he hs hr.1 hw;exact⟨H1,s1,h.on hr.2 b a⟩
def dt.want(h:dt X n s H o rv ov bs own V)(e:lW)(he:fm e.addr):∃H',Op.store 5 [.ptr X.p 7,.agg (aY e)] H=B1 (.undef,H')/\dt X n {s with c:={s.c with want:=e}} H' o rv ov bs own V:=by
 have s1:=h.c.row.ir (k:=7) (n:=5) (v:=.agg (aY e)) (by rw[zb];rfl) (by simp[cj]) (by rw[zb];rfl);have a:(cj s.c X.f X.l X.sp X.cv rv ov X.pv).take 7++AV.cells (.agg (aY e))++(cj s.c X.f X.l X.sp X.cv rv ov X.pv).drop (7+5)=cj {s.c with want:=e} X.f X.l X.sp X.cv rv ov X.pv:=by rw[zb];rfl
 rw[a]at s1;have⟨b,g⟩:=h.c.cell (d:={s.c with want:=e}) (k':=X.k+n) ⟨rfl,rfl,rfl,rfl⟩ (rv':=rv) ⟨h.c.rd,h.c.oJ⟩ ⟨h.c.ou,h.c.oV⟩ h.c.CU {h.c.w with wu:=he};exact⟨_,s1,h.on rfl g b⟩
def dt.forget(h:dt X n s H o rv ov bs own V):∃H',Op.store 1 [.ptr X.p 13,.nils] H=B1 (.undef,H')/\dt X n {s with c:={s.c with aO:=[]}} H' o .nils ov bs own V:=by
 have s1:=h.c.row.st 13 (v:=.nils) rfl (by simp[cj]);have⟨a,b⟩:=h.c.cell (d:={s.c with aO:=[]}) (k':=X.k+n) ⟨rfl,rfl,rfl,rfl⟩ (rv':=.nils) ⟨Own.nil ..,λ z q=>(q.1 rfl).elim⟩ ⟨h.c.ou,h.c.oV⟩ h.c.CU {h.c.w with ru:=λ y w=>(List.not_mem_nil w).elim,rl:=xu _,G5:=λ i x w=>by rw[List.getElem?_nil]at w;cases w};exact⟨_,s1,h.on rfl b a⟩
def iO:[AV.int .i64 0,.int .i64 0,.int .i64 0,.int .u64 0,.int .u64 0]=aY gw:=rfl
def Nl:Op.build (aY gw) [] []=B1 (.agg (aY gw)):=rfl
def Fj(k:Int):Op.build (aY gw) [(0,1)] [.int .i64 k]=B1 (.agg (aY ⟨k,0,0,0,0⟩)):=rfl
def um(s:CS):s.az.b=s.b:=by unfold CS.az;simp only;split<;>rfl
def Vw(s:CS):s.az.c.id=s.c.id:=by unfold CS.az;simp only;split<;>rfl
def KH(s:CS):s.dk.b=s.b:=um s
def KJ(s:CS):s.dk.c.id=s.c.id:=Vw s
def X5(h:dt X n s H o rv ov bs own V)(hk:X.k+n<=90000)(hl:s.o.length<=1000):xz M Sx [.ptr X.p 0] H λ _ H'=>jU X (n+1) s.cz H':=by
 refine qp6 ?_;unfold CS.cz
 by_cases b:s.c.la.lane=0
 .rw [qv b];have⟨H1,s1,a⟩:=h.put 20 (v:=.bool B4) {s.c with halted:=B4} rfl (by decide) rfl ⟨rfl,rfl,rfl,rfl⟩ ⟨rfl,rfl⟩ {h.c.w with};have⟨u,s2,e⟩:=a.put 21 (v:=.bool B4) {s.c with halted:=B4,A4:=B4} rfl (by decide) rfl ⟨rfl,rfl,rfl,rfl⟩ ⟨rfl,rfl⟩ {h.c.w with};simp only[aa,bc,NV,aw,h.c.bq,ia h.c.la,qr b,s1,s2];exact e.dK (by omega)
 rw[qn b]
 by_cases d:s.c.la.lane=3
 .rw [qv d];simp only[aa,bc,NV,aw,h.c.bq,ia h.c.la,b,qr d,iO,Nl];have⟨g,fv,hs⟩:=h.c.so;refine C3.q (xd4 hs) λ _ H1 hp=>?_;have⟨o1,m,l,i,lK,y,a⟩:=h.co (t:=s.so .Ae) rfl rfl (h.c.JM hp) (qg _);have⟨u,s2,e⟩:=a.want gw bI;have⟨x,r,j⟩:=e.put 6 (v:=.int .i64 6) {(s.so .Ae).c with want:=gw,ph:=6} rfl (by decide) rfl ⟨rfl,rfl,rfl,rfl⟩ ⟨rfl,rfl⟩ {e.c.w with};simp only[aa,bc,aw,s2,r];exact j.dK (by omega)
 rw[qn d]
 by_cases f:s.c.la.lane=4
 .rw [qv f];have⟨x,r,j⟩:=h.put 6 (v:=.int .i64 10) {s.c with ph:=10} rfl (by decide) rfl ⟨rfl,rfl,rfl,rfl⟩ ⟨rfl,rfl⟩ {h.c.w with};simp only[aa,bc,NV,aw,h.c.bq,ia h.c.la,b,d,qr f,r];exact j.dK (by omega)
 rw[qn f];simp only[aa,bc,NV,aw,h.c.bq,ia h.c.la,b,d,f,SX.pv,tG,Sn];refine C3.q (RD h hk 7) λ _ H1⟨o1,m,l,i,lK,y,a⟩=>?_;simp only[aa,bc];refine C3.q (SI (s:=s.lI 5 7 0 0) a.c hl) λ _ u hp=>?_;simp only[aa,bc];exact a.co (t:=(s.lI 5 7 0 0).breaks) rfl rfl hp (qg _)
def CS.y0(s:CS):CS:={s.tell 1 0 0 0 with c:={s.c with aO:=[],done:=0,wrote:=B2,said:=B2}}
def CS.W1(t:CS):CS :=
 if t.c.la.lane=1 then(t.lI 3 0 0 0).ph 2
 else if t.c.la.lane=2 then(t.lI 3 0 0 0).ph 3
 else if t.c.la.lane=3 then let u:=t.so .begin
  {u with c:={u.c with want:=⟨5,0,0,0,0⟩,ph:=6}}
 else t.ph 4
def xex(s:CS):s.iH=s.y0.W1:=rfl
def Ci(h:dt X n s H o rv ov bs own V)(hk:X.k+n<=90000)(hl:s.o.length<=1000):xz M Wx [.ptr X.p 0] H λ _ H'=>jU X (n+1) s.iH H':=by
 refine qrh ?_;rw[xex];simp only[aa,bc,Mz];refine C3.q (CR h.c hl 1 0 0 0) λ _ H1 hp=>?_;have⟨o1,Q,C,B,lK,N,O⟩:=h.co (t:=s.tell 1 0 0 0) rfl rfl hp (qg _);have⟨R,s2,F⟩:=O.forget;have⟨S,x,G⟩:=F.put 14 (v:=.int .i64 0) {s.c with aO:=[],done:=0} rfl (by decide) rfl ⟨rfl,rfl,rfl,rfl⟩ ⟨rfl,rfl⟩ {F.c.w with d0:=vE _};have⟨T,y,I⟩:=G.put 15 (v:=.bool B2) {s.c with aO:=[],done:=0,wrote:=B2} rfl (by decide) rfl ⟨rfl,rfl,rfl,rfl⟩ ⟨rfl,rfl⟩ {G.c.w with};have⟨L,z,a⟩:=I.put 17 (v:=.bool B2) {s.c with aO:=[],done:=0,wrote:=B2,said:=B2} rfl (by decide) rfl ⟨rfl,rfl,rfl,rfl⟩ ⟨rfl,rfl⟩ {I.c.w with};obtain⟨t,J⟩:∃t:CS,t=s.y0:=⟨_,rfl⟩
 have a:dt X n t L o1 .nils C B lK N:=J▸a;rw[<-J];unfold CS.W1;simp only;have ln:=ia (M:=M) a.c.la
 by_cases i:t.c.la.lane=1
 .rw [qv i];simp only[aa,bc,Mz,aw,s2,x,y,z,a.c.bq,ln,qr i,SX.pv,tG,Y2];refine C3.q (pe a hk) λ _ D⟨K,r,l,j,d,E,e⟩=>?_;have⟨A,f,b⟩:=e.put 6 (v:=.int .i64 2) {(t.lI 3 0 0 0).c with ph:=2} rfl (by decide) rfl ⟨rfl,rfl,rfl,rfl⟩ ⟨rfl,rfl⟩ {e.c.w with};simp only[aa,bc,aw,f];exact b.here
 rw[qn i]
 by_cases m:t.c.la.lane=2
 .rw [qv m];simp only[aa,bc,Mz,aw,s2,x,y,z,a.c.bq,ln,i,qr m,SX.pv,tG,Y2];refine C3.q (pe a hk) λ _ D⟨K,r,l,j,d,E,e⟩=>?_;have⟨A,f,b⟩:=e.put 6 (v:=.int .i64 3) {(t.lI 3 0 0 0).c with ph:=3} rfl (by decide) rfl ⟨rfl,rfl,rfl,rfl⟩ ⟨rfl,rfl⟩ {e.c.w with};simp only[aa,bc,aw,f];exact b.here
 rw[qn m]
 by_cases u:t.c.la.lane=3
 .rw [qv u];simp only[aa,bc,Mz,aw,s2,x,y,z,a.c.bq,ln,i,m,qr u,iO,Fj];have⟨g,fv,hs⟩:=a.c.so;refine C3.q (HH hs) λ _ D hp=>?_;have⟨K,r,l,j,d,E,e⟩:=a.co (t:=t.so .begin) rfl rfl (a.c.JM hp) (qg _);have⟨A,f,b⟩:=e.want ⟨5,0,0,0,0⟩ bI;have⟨U,s8,P⟩:=b.put 6 (v:=.int .i64 6) {(t.so .begin).c with want:=⟨5,0,0,0,0⟩,ph:=6} rfl (by decide) rfl ⟨rfl,rfl,rfl,rfl⟩ ⟨rfl,rfl⟩ {b.c.w with};simp only[aa,bc,aw,f,s8];exact P.dK (by omega)
 rw[qn u];have⟨A,f,b⟩:=a.put 6 (v:=.int .i64 4) {t.c with ph:=4} rfl (by decide) rfl ⟨rfl,rfl,rfl,rfl⟩ ⟨rfl,rfl⟩ {a.c.w with};simp only[aa,bc,Mz,aw,s2,x,y,z,a.c.bq,ln,i,m,u,f];exact b.dK (by omega)
def Dv(h:dt X n s H o rv ov bs own V)(hk:X.k+n<=90000)(hl:s.o.length<=1000):xz M Wu [.ptr X.p 0] H λ _ H'=>jU X (n+1) s.rY H':=by
 refine qtb ?_;unfold CS.rY;simp only;simp only[aa,bc,qtc,aw,h.c.bq];refine C3.q (FJ h hk 0 s.c.seq (BL _)) λ r H1⟨hr,o1,x,m,i,lK,C,a⟩=>?_;subst hr;cases F:(s.u5 0 s.c.seq).2 with
 |false =>
  rw[qv rfl];simp only[aa,bc,aw];exact a.here
 |true =>
  rw[qn (by decide)];cases E:(s.u5 0 s.c.seq).1 with
  |true =>
   rw[qv rfl];simp only[aa,bc,aw];refine C3.q (CR (s:=s.cs 0 s.c.seq (aj .u64 (s.c.seq+1))) a.c hl 4 0 0 0) λ _ A hp=>?_;have⟨o2,y,u,j,f,D,e⟩:=a.co (t:=(s.cs 0 s.c.seq (aj .u64 (s.c.seq+1))).tell 4 0 0 0) rfl rfl hp (qg _);have⟨g,d,b⟩:=e.put 6 (v:=.int .i64 0) {s.c with ph:=0} rfl (by decide) rfl ⟨rfl,rfl,rfl,rfl⟩ ⟨rfl,rfl⟩ {e.c.w with};have⟨B,z,l⟩:=b.put 16 (v:=.bool B4) {s.c with ph:=0,held:=B4} rfl (by decide) rfl ⟨rfl,rfl,rfl,rfl⟩ ⟨rfl,rfl⟩ {b.c.w with};simp only[aa,bc,aw,d,z];exact l.here
  |false =>
   rw[qn (by decide)];have⟨g,d,b⟩:=a.put 6 (v:=.int .i64 4) {s.c with ph:=4} rfl (by decide) rfl ⟨rfl,rfl,rfl,rfl⟩ ⟨rfl,rfl⟩ {a.c.w with};simp only[aa,bc,aw,d];exact b.here
def IB(h:dt X n s H o rv ov bs own V)(hk:X.k+n<=90000)(hl:s.o.length<=1000):xz M YE [.ptr X.p 0] H λ _ H'=>jU X (n+1) s.ends H':=by
 refine qvi ?_;unfold CS.ends;have ln:=ia (M:=M) h.c.la
 by_cases a:s.c.la.lane=3
 .rw [qv a];simp only[aa,bc,L5,aw,h.c.bq,ln,qr a,iO,Fj];have⟨g,fv,hs⟩:=h.c.so;refine C3.q (q8g hs) λ _ I hp=>?_;have⟨N,F,E,B,u,L,C⟩:=h.co (t:=s.so .aT) rfl rfl (h.c.JM hp) (qg _);have⟨J,G,r⟩:=C.want ⟨6,0,0,0,0⟩ bI;have⟨K,s8,D⟩:=r.put 6 (v:=.int .i64 6) {(s.so .aT).c with want:=⟨6,0,0,0,0⟩,ph:=6} rfl (by decide) rfl ⟨rfl,rfl,rfl,rfl⟩ ⟨rfl,rfl⟩ {r.c.w with};simp only[aa,bc,aw,G,s8];exact D.dK (by omega)
 rw[qn a]
 by_cases b:s.c.la.lane=4
 .rw [qv b];have⟨z,m,i⟩:=h.put 6 (v:=.int .i64 9) {s.c with ph:=9} rfl (by decide) rfl ⟨rfl,rfl,rfl,rfl⟩ ⟨rfl,rfl⟩ {h.c.w with};simp only[aa,bc,L5,aw,h.c.bq,ln,a,qr b,m];exact i.dK (by omega)
 rw[qn b]
 by_cases e:s.c.la.lane=2
 .cases x:s.c.wrote with
  |true =>
   rw[qv ⟨e,rfl⟩];have⟨z,m,i⟩:=h.put 6 (v:=.int .i64 7) {s.c with ph:=7} rfl (by decide) rfl ⟨rfl,rfl,rfl,rfl⟩ ⟨rfl,rfl⟩ {h.c.w with};simp only[aa,bc,L5,aw,h.c.bq,ln,a,b,qr e,x,m];exact i.dK (by omega)
  |false =>
   rw[qn (λ w=>by cases w.2)];simp only[aa,bc,L5,aw,h.c.bq,ln,a,b,qr e,x,SX.pv,tG,Sh];refine C3.q (RH h hk) λ _ H1⟨o1,l,j,f,lK,A,d⟩=>?_;simp only[aa,bc];refine C3.q (M8 (s:=s.lI 4 0 0 0) d.c hl) λ _ y hp=>?_;simp only[aa,bc];exact d.co (t:=(s.lI 4 0 0 0).dk) (KH _) (KJ _) hp (qg _)
 .rw [qn (λ w=>e w.1)];simp only[aa,bc,L5,aw,h.c.bq,ln,a,b,e,SX.pv,tG,Sh];refine C3.q (RH h hk) λ _ H1⟨o1,l,j,f,lK,A,d⟩=>?_;simp only[aa,bc];refine C3.q (M8 (s:=s.lI 4 0 0 0) d.c hl) λ _ y hp=>?_;simp only[aa,bc];exact d.co (t:=(s.lI 4 0 0 0).dk) (KH _) (KJ _) hp (qg _)
end
end Go.Am
namespace Go.Am
open Lang Go.Proofs
variable{M:ak}[MK M]
def gP(ps:List Pr)(a:Int):List (List AV):=match gM ps a with
 |some i=>[[.int .i64 (i:Int),.int .u64 (ps.getD i ⟨0,0⟩).v]]
 |none=>[]
def jE(ps:List Pr)(a:Int)(i:Nat):Nat:=match gM ps a with
 |some j=>if j<i then 1 else 0
 |none=>0
def DD(b:List Pr)(a:Int):jE b a 0=0:=by unfold jE;split<;>simp
def xf9(b:List Pr)(a:Int):jE b a b.length=(gP b a).length:=by
 unfold jE gP;cases h:gM b a with
 |none=>rfl
 |some j=>simp only;rw[qv (nM h).1];rfl
def ah0{c:List Pr}{a:Int}{i:Nat}{x:Pr}(f:c[i]? = B1 x)(h:x.a≠a):jE c a (i+1)=jE c a i:=by
 unfold jE;cases q:gM c a with
 |none=>rfl
 |some j =>
  have:j≠i:=λ e=>by
   obtain⟨-,y,b,d⟩:=nM q;rw[e,f]at b;injection b with b;rw[b]at h;exact h d
  simp only
  by_cases w:j<i
  .rw [qv w,qv (by omega)]
  .rw [qn w,qn (by omega)]
def zC{b:List Pr}(d:qW b){i:Nat}{x:Pr}(c:b[i]? = B1 x):jE b x.a (i+1)=jE b x.a i+1/\(gP b x.a)[jE b x.a i]? = B1 [.int .i64 (i:Int),.int .u64 x.v]:=by
 have q:=d i x c;unfold jE gP;rw[q];simp only;rw[qv (by omega),qn (by omega),zi,c];exact⟨rfl,rfl⟩
def X8{H0:ar}{k l p:Nat}{a:Int}{rv:AV}{c:List Pr}(g1:H0.get k=B1 (OR [.ptr p 0] wg))(g2:H0.get l=B1 (OR [.int .i64 a] cM))(l1:k<H0.au)(l2:l<H0.au)(hd:qW c)(hl:c.length<=1000000) :
 rC M JJ [] [.ptr k 0,.ptr l 0] (λ z=>z=k\/z=l) (λ _=>False) (λ _ H=>Op.ae [.ptr p 13] H=B1 rv/\eS cm 2 H rv c) H0 (gP c a):=by
 intro Y R S m H1 hnx W B K loc Z hI step;have⟨p1,p2,p3⟩:=W k (.inl (.inl rfl));have⟨q1,P,Q⟩:=W l (.inl (.inr rfl))
 suffices h:xz M JJ [.fn (.yield Y) [] [],.ptr k 0,.ptr l 0] H1 (Jp R S m (λ _=>False) H1 (gP c a).length)by
  have⟨v,H',hc,W',q1,P,Q⟩:=h.elim;exact⟨v,H',W',hc,q1,P,Q⟩
 refine qrl ?_;have lp:Op.ae [.ptr k 0] H1=B1 (.ptr p 0):=by rw[xv (qt (by rw[p2];exact g1))];rfl
 have lq:∀{d:ar},Fr m H1 d->Op.ae [.ptr l 0] d=B1 (.int .i64 a):=λ f=>by rw[xv (qt (by rw[f.ah _ (by omega) Q,P];exact g2))];rfl
 have⟨lr,s0⟩:=hI 0 m H1 B;simp only[aa,bc,Ke,lp,aw,lr,s0.len];refine dA.intro (λ n E d=>∃(i:Nat)(V:Nat->Prop),E=[(11,.int .i64 (i:Int)),(10,.int .i64 ((c.length:Nat):Int)),(9,rv),(0,.fn (.yield Y) [] []),(1,.ptr k 0),(2,.ptr l 0)]/\n=c.length-i/\i<=c.length/\JU R m H1 d (jE c a i) V) ?_ ?_
 .exact ⟨_,_,⟨0,m,rfl,rfl,xu _,⟨by rw[DD];exact B,λ b hb=>⟨K b hb,.inl hb⟩,Fr.refl _⟩⟩,by simp only[aa,bc]⟩
 rintro n E d ⟨i,V,rfl,rfl,hi,g⟩;rcases xp i c.length with N|hge
 .have F:(i:Int)<((c.length:Nat):Int):=by omega
  obtain⟨e,he⟩:∃e,c[i]? = B1 e:=⟨c[i],by simp[N]⟩
  obtain⟨-,sl⟩:=hI _ V d g.hR;have ix:Op.aN 2 [rv,.int .i64 (i:Int)]=B1 (Jc rv i):=sl.idx he rfl .i64;have ld:Op.av 2 [Jc rv i] d=B1 (.agg (cm e)):=sl.av yS (by decide) he;have bx:=Pv (H1:=d) e;obtain⟨u,I⟩:∃X,X=(d.alloc (OR [.int .i64 0,.int .u64 0] yg)).set d.au (OR (cm e) yg):=⟨_,rfl⟩
  rw[<-I]at bx;have J:Fr Em d u:=by rw[I];exact wN _ _
  have A:u.get d.au=B1 (OR (cm e) yg):=by rw[I,xb]
  have uE:Op.ae [.ptr d.au 0] u=B1 (.int .i64 e.a):=xv (qt A) 0;have O:Op.ae [.ptr d.au 1] u=B1 (.int .u64 e.v):=xv (qt A) 1;have n2:=J.au;have j:=g.fr.em J;have wj:aj .i64 ((i:Int)+1)=((i+1:Nat):Int):=by rw[jr (by omega) (by omega)];omega
  have U:=loc _ _ _ _ g.hR (λ y r=>J.ah y (g.hV y r).1 id) n2
  by_cases q:e.a=a
  .subst q;have⟨k1,k2⟩:=zC hd he;have⟨bb,T,G,hr,hf,D,ht,hs⟩:=step _ _ k2 V u U (λ y r=>⟨by have:=(g.hV y r).1;omega,(g.hV y r).2⟩) (j.mono λ _ _ q=>.inl q);have x:Fr m H1 T:=j.trans hf λ y q=>(g.hV y q).2;have C:∀y,G y->y<T.au/\(m y\/H1.au<=y):=λ y q=>⟨(D y q).1,(D y q).2.elim (λ w=>(g.hV y w).2) λ w=>.inr (by have:=g.fr.au;omega)⟩
   simp only[aa,bc,Ke,F,ix,ld,bx,uE,O,lq j];refine C3.vM hr ?_;cases bb with
   |true =>
    simp only[aa,bc,Ke,wj];exact⟨_,_,⟨i+1,G,rfl,rfl,by omega,⟨by rw[k1];exact ht rfl,C,x⟩⟩,by simp only[aa,bc],by omega⟩
   |false =>
    simp only[aa,bc];exact⟨G,x.mono λ _ _ q=>.inl q,C,.inr (hs rfl)⟩
  .simp only[aa,bc,Ke,F,ix,ld,bx,uE,lq j,q,wj];exact⟨_,_,⟨i+1,V,rfl,rfl,by omega,⟨by rw[ah0 he q];exact U,λ y r=>⟨by have:=(g.hV y r).1;omega,(g.hV y r).2⟩,j⟩⟩,by simp only[aa,bc],by omega⟩
 .have F:¬(i:Int)<((c.length:Nat):Int):=by omega
  have L:i=c.length:=by omega
  simp only[aa,bc,Ke,F];exact⟨V,g.fr.mono λ _ _ q=>.inl q,g.hV,.inl (by rw[<-xf9,<-L];exact g.hR)⟩
end Go.Am
namespace Go.Am
open Lang Go.Proofs
variable{M:ak}[MK M]
def WY{H:ar}(p:Nat)(a:Int):xz M X9 [.ptr p 0,.int .i64 a] H λ v H'=>v=.fn (.func JJ) [] [.ptr H.au 0,.ptr (H.alloc (OR [.ptr p 0] wg)).au 0]/\H'=(H.alloc (OR [.ptr p 0] wg)).alloc (OR [.int .i64 a] cM):=by
 refine _U ?_;have mk:∀b e,Op.bS JJ 0 [.ptr b 0,.ptr e 0]=B1 (.fn (.func JJ) [] [.ptr b 0,.ptr e 0]):=λ _ _=>rfl;simp only[aa,bc,qvm];rfl
section
variable{X:SX}{n n':Nat}{s t:CS}{H H':ar}{o:Nat->Nat}{rv ov:AV}{bs:Bs}{own:Nat->Nat}{V:Int->L8}
def oa{a:ar}{z t:Nat}{c:List AV}(h:a.get z=H.get z)(g:H.get z=B1 (OR c t)):a.get z=B1 (OR c t):=h.trans g
def lX{z t:Nat}{c:List AV}(g:H.get z=B1 (OR c t))(k:Nat):Op.ae [.ptr z k] H=c[k]?:=xv (qt g) k
def yX{z t:Nat}{e:lW}(g:H.get z=B1 (OR (aY e) t)):Op.av 5 [.ptr z 0] H=B1 (.agg (aY e)):=sf (qt g) (by simp[aY])
def Hv(X:SX)(n:Nat)(t:CS)(Hx:ar)(ox:Nat->Nat)(bsx:Bs)(Z:ar):Prop:=jU X (n+1) t Z /\ ∀d,Ch Hx ox X.B bsx d->X.H.au<=d->X.Hb.au<=d->Z.get d=Hx.get d/\jU X (n+1) t (Z.set d (.deferred B5))
def HF(H4:ar)(o4:Nat->Nat)(p f l sp:Nat)(cv rv pv:AV)(c:Co)(os:List iW)(k:Nat)(W:Nat->Prop)(Hx:ar):Prop:=∃ox ovx,dG Hx ox p f l sp cv rv ovx pv c os k/\(∀z,z<H4.au->ox z=o4 z)/\(∀z,z<Hx.au->ox z≠0->W z)/\H4.au<=Hx.au
def HF.loc{e a Hb:ar}{g:Nat->Nat}{p f l sp k:Nat}{cv rv pv:AV}{c:Co}{os:List iW}{W:Nat->Prop}(h:HF e g p f l sp cv rv pv c os k W a)(hs:∀z,W z->Hb.get z=a.get z)(hn:a.au<=Hb.au):HF e g p f l sp cv rv pv c os k W Hb:=by
 have⟨m,b,u,v,i,j⟩:=h;refine⟨bw m a.au 0,b,u.fr (W:=λ z=>¬W z) ⟨hn,λ z w q=>hs z (vy.1 q)⟩ (λ z w q r=>r (i z w q)) (λ z q=>vx q) (qg _),λ z w=>?_,λ z w q=>?_,xm j hn⟩
 .rw [vx (qj w j)];exact v z w
 .rcases xp z a.au with r|r
  .rw [vx r]at q;exact i z r q
  .rw [mG r]at q;exact(q rfl).elim
def Zu(h:dt X n s H o rv ov bs own V)(hk:X.k+n<=90000)(hl:s.o.length<=1000)(e:lW)(hu:fm e.addr)(a:Int):xz M Kv [.ptr X.p 0,.agg (aY e),.int .i64 a] H λ _ H'=>jU X (n+1) (s.kC e a) H':=by
 refine qta ?_;obtain⟨H1,e1,f1,n1,-⟩:=de H (OR [.ptr X.p 0] wg);obtain⟨H2,e2,f12,-,g2⟩:=de H1 (OR (aY e) zq);have n2:H2.au=H.au+2:=by rw[e2,xt,n1]
 have g1:H2.get H.au=B1 (OR [.ptr X.p 0] wg):=by rw[f12.ah _ (by omega) id,e1,xf]
 have⟨o2,L,lo⟩:=h.loc (f1.em f12);have D:=(lo H.au).1 ⟨qg _,by omega⟩;have N:=(lo H1.au).1 ⟨by omega,by omega⟩;have hr:=L.re;have ln:=ia (M:=M) L.c.la;have l1:=lX g1 0;have l2:=yX g2;unfold CS.kC
 by_cases T:s.c.la.lane=3
 .rw [qv T];simp only;simp only[aa,bc,we,aw,<-e1,<-e2,l1,L.c.bq,ln,qr T];have⟨g,fv,hs⟩:=L.c.so;refine C3.q (_x hs a) λ _ O hp=>?_;have⟨o3,rv3,ov3,bs3,own3,V3,h3⟩:=hr.co (t:=s.so (·.load a)) rfl rfl (L.c.JM hp) (qg _);have⟨lo1',r1⟩:=h3.lo D;have⟨lo2',r2⟩:=h3.lo N;have c3:dG O o3 X.p X.f X.l X.sp X.cv rv3 ov3 X.pv (s.so (·.load a)).c s.o (X.k+n):=h3.c;have⟨g3,fv3,Q⟩:=c3.so;have m1:=lX (oa r1 g1) 0;have m2:=yX (oa r2 g2);cases b:(s.so (·.load a)).c.so.busy with
  |true =>
   rw[qv rfl];have⟨J,s4,A⟩:=h3.want e hu;have s4:Op.store 5 [.ptr X.p 7,.agg (aY e)] O=B1 (.undef,J):=s4;have⟨_,r4⟩:=A.lo D;have m4:=lX (oa r4 g1) 0;have⟨H5,s5,h5⟩:=A.put 6 (v:=.int .i64 6) {(s.so (·.load a)).c with want:=e,ph:=6} rfl (by decide) rfl ⟨rfl,rfl,rfl,rfl⟩ ⟨rfl,rfl⟩ {A.c.w with};have s5:Op.store 1 [.ptr X.p 6,.int .i64 6] J=B1 (.undef,H5):=s5;simp only[aa,bc,we,aw,m1,c3.bq,gG Q,b,m2,s4,m4,s5];exact L.back (h5.dK (by omega))
  |false =>
   rw[qn (by decide)];simp only[aa,bc,we,aw,m1,c3.bq,gG Q,b,m2,xH Q];refine C3.q (Nw (s:=s.so (·.load a)) c3 hl e hu Q.vu) λ _ J hp=>?_;simp only[aa,bc];exact L.back ((h3.co (t:=(s.so (·.load a)).dE e (s.so (·.load a)).c.so.value) rfl rfl hp (qg _)).mono (by omega))
 rw[qn T];have tail:∀{G:ar}{C:Nat->Nat}{x u:AV}{I:Bs}{ownx:Nat->Nat}{Vx:Int->L8},dt (X.at H2 o2 bs) n s G C x u I ownx Vx->Op.ae [.ptr H.au 0] G=B1 (.ptr X.p 0)/\xz M Ur [.ptr X.p 0,.int .i64 a] G λ v J=>v=.tuple [.int .u64 (s.iX a).1,.bool (s.iX a).2]/\Op.ae [.ptr H.au 0] J=B1 (.ptr X.p 0)/\Op.av 5 [.ptr H1.au 0] J=B1 (.agg (aY e))/\Hv X n (s.ld a) G C I J/\xz M Um [.ptr X.p 0,.agg (aY e),.int .u64 (s.iX a).1] J λ _ H5=>Hv X n ((s.ld a).dE e (s.iX a).1) G C I H5:=λ{G C x u I ownx Vx}Y=>by
  have fin:∀{t:CS}{Z:ar}{oz:Nat->Nat}{rvz ovz:AV}{bsz:Bs}{ownz:Nat->Nat}{Vz:Int->L8},dt ((X.at H2 o2 bs).at G C I) (n+1) t Z oz rvz ovz bsz ownz Vz->Hv X n t G C I Z:=λ hz =>
   ⟨L.back (Y.back hz.here),λ d hd h1 h2'=>⟨(hz.lo hd).2,((L.qN (Y.qN hz)).nR (hz.lo hd).1 h1 h2' _).here⟩⟩
  refine⟨lX (oa (Y.lo D).2 g1) 0,(J9 Y.re hk a).mono λ v J⟨U,hu2,o4,rv4,ov4,bs4,own4,V4,A⟩=>?_⟩;have r1:=(Y.lo D).1;have r2:=(Y.lo N).1;refine⟨U,lX (oa ((A.lo r1).2.trans (Y.lo D).2) g1) 0,yX (oa ((A.lo r2).2.trans (Y.lo N).2) g2),fin A,?_⟩;refine(Nw (s:=s.ld a) A.c hl e hu hu2).mono λ _ H5⟨o5,rv5,ov5,c5,a5,f5⟩=>?_;exact fin (A.DG (t:=(s.ld a).dE e (s.iX a).1) rfl rfl c5 a5 f5 (qg _))
 by_cases q4:s.c.la.lane=4
 .rw [qv q4];simp only[aa,bc,we,aw,<-e1,<-e2,l1,L.c.bq,ln,T,qr q4];refine C3.q (WY X.p a) λ v m⟨U,hh⟩=>?_;obtain⟨O,e3,f23,-,-⟩:=de H2 (OR [.ptr X.p 0] wg);obtain⟨J,e4⟩:∃Z,Z=O.alloc (OR [.int .i64 a] cM):=⟨_,rfl⟩
  rw[<-e3]at U hh;rw[<-e4]at hh;subst U;subst hh;have f34:Fr Em O m:=e4▸(Fr.refl O).alloc _;have n3:O.au=H.au+3:=by rw[e3,xt,n2]
  have n4:m.au=H.au+4:=by rw[e4,xt,n3]
  have g3:m.get H2.au=B1 (OR [.ptr X.p 0] wg):=by rw[f34.ah _ (by omega) id,e3,xf]
  have g4:m.get O.au=B1 (OR [.int .i64 a] cM):=by rw[e4,xf]
  have⟨o4,A,R⟩:=hr.loc (f23.em f34);have k1:=(R H.au).2 D;have k2:=(R H1.au).2 N;have k3:=(R H2.au).1 ⟨qg _,by omega⟩;have k4:=(R O.au).1 ⟨by omega,by omega⟩;have r1:=(A.lo D).2;have r2:=(A.lo N).2;have c4:dG m o4 X.p X.f X.l X.sp X.cv rv ov X.pv s.c s.o (X.k+n):=A.c;have rl:=c4.w.rl;have kL:∀i,gM s.c.aO a=B1 i->(gP s.c.aO a)=[[.int .i64 (i:Int),.int .u64 (s.c.aO.getD i ⟨0,0⟩).v]]:=λ i q=>by unfold gP;rw[q]
  simp only[aa,bc];refine iL.rG (fn:=N1) (lp:=My) (pa:=S4 0) (pb:=R4 0) qrn j3.1 j3.2 (by decide) qp7 C'
   (X8 (rv:=rv) g3 g4 (by omega) (by omega) c4.w.G5 (by omega)) (λ i W G=>i=0/\HF m o4 X.p X.f X.l X.sp X.cv rv X.pv s.c s.o (X.k+n) W G)
   (λ ex W G=>ex=.ret /\ ∃i,gM s.c.aO a=B1 i /\ ∃x,HF m o4 X.p X.f X.l X.sp X.cv x X.pv (s.dE e (s.c.aO.getD i ⟨0,0⟩).v).c (s.dE e (s.c.aO.getD i ⟨0,0⟩).v).o (X.k+n) W G)
   (λ z=>o4 z≠0/\z<m.au) (qg _) ?_ ?_ ?_ ?_ ?_ ?_ ?_ ?_ ?_
  .rintro z ((q|q)|q)
   .exact ⟨by omega,rfl,λ w=>w.1 (by rw[q];exact k3.2.1)⟩
   .exact ⟨by omega,rfl,λ w=>w.1 (by rw[q];exact k4.2.1)⟩
   .exact q.elim
  .exact λ z hz=>hz.2
  .exact ⟨rfl,o4,ov,c4,λ _ _=>rfl,λ z w q=>⟨q,w⟩,qg _⟩
  .exact λ i W Ha Hb⟨S,F⟩hs hn=>⟨S,F.loc hs hn⟩
  .exact λ i W Ha Hb⟨S,i,F,x,T⟩hs hn=>⟨S,i,F,x,T.loc hs hn⟩
  .exact λ i W G⟨S,C,u,F,_⟩=>⟨F.row.ld 13,bU.sl F.rd⟩
  .intro E i lr lb y hy hL2 W K ⟨hi,C,u,c6,a6,w6,le6⟩ hb hf6 hnL hL6 hgL;subst hi;obtain⟨j,hj⟩:∃j,gM s.c.aO a=B1 j:=by
    cases q:gM s.c.aO a with
    |some j=>exact⟨j,rfl⟩
    |none=>unfold gP at hy;rw[q]at hy;cases hy
   rw[kL j hj]at hy;cases hy;obtain⟨vv,hvv⟩:∃vv,vv=(s.c.aO.getD j ⟨0,0⟩).v:=⟨_,rfl⟩
   have hvu:fm vv:=by
    obtain⟨S,y,F,-⟩:=nM hj;rw[hvv,zi,F];exact h.c.w.ru y (xl F)
   rw[<-hvv];refine⟨_,rfl,?_⟩;have w:=we M ⟨B1 E,Kv⟩;simp only[aa,bc,w,DQ];refine⟨hgL,?_⟩;have fx:Fr (On E) K (K.set E lb):=(Fr.refl K).set (W:=On E) (.inl rfl) _;have gL:(K.set E lb).get E=B1 lb:=xb ..;have nL:(K.set E lb).au=K.au:=rfl;have oL:C E=0:=jj λ q=>hnL (w6 E hL6 q);have c7:dG (K.set E lb) C X.p X.f X.l X.sp X.cv rv u X.pv s.c s.o (X.k+n):=c6.fr fx (λ z _ q(r:z=E)=>q (by rw[r];exact oL)) (λ _ _=>rfl) (qg _);have gk:∀z c t,z<m.au->o4 z=0->m.get z=B1 (OR c t)->(K.set E lb).get z=B1 (OR c t):=λ z c t S F T=>by
    rw[jx (by omega),hf6.ah z S (λ r=>r.elim (λ r=>r.1 F) id)];exact T
   have m1:=lX (gk H.au _ _ (by omega) k1.2.1 (oa r1 g1)) 0;have m2:=yX (gk H1.au _ _ (by omega) k2.2.1 (oa r2 g2));generalize K.set E lb=H7 at *;simp only[aa,bc,m1,m2];refine C3.q (Nw c7 hl e hu hvu) λ _ H8⟨o8,rv8,ov8,c8,a8,f8⟩=>?_;simp only[aa,bc];have n8:=f8.au;refine⟨rfl,by rw[f8.ah E (by omega) (λ q=>q oL)];exact gL,λ z=>z<H8.au/\(W z\/K.au<=z),λ z q=>q,?_,.inr ⟨trivial,rfl,j,hj,rv8,o8,ov8,by rw[<-hvv];exact c8,λ z q=>(a8 z (by omega)).trans (a6 z q),λ z S F=>⟨S,?_⟩,by omega⟩⟩
   .refine (fx.mono λ z _ q=>.inr q).trans f8 λ z q=>?_;rcases xp z K.au with r|r
    .exact .inl (.inl (w6 z r q))
    .exact .inr r
   .rcases xp z K.au with r|r
    .rw [a8 z (by omega)]at F;exact .inl (w6 z r F)
    .exact .inr r
  .rintro d W H' hd P hg hf hW ⟨hi,C,u,c6,a6,w6,le6⟩;have hz:gM s.c.aO a=none:=by
    cases q:gM s.c.aO a with
    |none=>rfl
    |some j=>rw[kL j q]at hi;cases hi
   have hlk:cR s.c.aO a=none:=by rw[Fa,hz];rfl
   rw[hlk];simp only;have od:C d=0:=jj λ q=>(hW d (w6 d P q)).2.2 rfl;have h9:=A.DG (t:=s) rfl rfl c6 a6 (hf.mono λ z _ q=>q.elim (λ r=>r.1) Ja) (qg _);have ld:Ch H' C X.B bs d:=⟨P,od,λ w=>by have:=A.b.low w;omega⟩
   have xd:X.H.au<=d:=by have:=h.fr.au;omega
   have bd:X.Hb.au<=d:=by have:=h.hn;omega
   have⟨t1,t2⟩:=tail h9;simp only[aa,bc,we,t1];refine C3.q t2 λ v J⟨U,m1,m2,m3,m4⟩=>?_;subst U;cases b:(s.iX a).2 with
   |true =>
    rw[qv rfl];simp only[aa,bc,aw,m1,m2];refine C3.q m4 λ _ H5 hp=>?_;simp only[aa,bc];exact⟨(hp.2 d ld xd bd).1.trans hg,(hp.2 d ld xd bd).2⟩
   |false =>
    rw[qn (by decide)];simp only[aa,bc,aw];exact⟨(m3.2 d ld xd bd).1.trans hg,(m3.2 d ld xd bd).2⟩
  .rintro ex d W H' he hd P hg hf hW ⟨rfl,j,hj,x,C,u,c6,a6,w6,le6⟩;have hlk:cR s.c.aO a=B1 (s.c.aO.getD j ⟨0,0⟩).v:=by rw[Fa,hj];rfl
   rw[hlk];simp only;have fd:Fr (On d) H' (H'.set d (.deferred B5)):=(Fr.refl H').set (W:=On d) (.inl rfl) _;have od:C d=0:=jj λ q=>(hW d (w6 d P q)).2.2 rfl;have c9:=c6.fr fd (λ z _ q(r:z=d)=>q (by rw[r];exact od)) (λ _ _=>rfl) (qg _);simp only[aa,bc];have fr9:Fr (λ z=>o4 z≠0) m (H'.set d (.deferred B5)):=(hf.mono λ z _ q=>q.elim (λ r=>r.1) Ja).trans fd λ z(q:z=d)=>.inr (by omega);exact⟨hg,L.back ((A.co (t:=s.dE e (s.c.aO.getD j ⟨0,0⟩).v) rfl rfl ⟨C,x,u,c9,a6,fr9⟩ (qg _)).mono (by omega))⟩
 rw[qn q4];simp only;have⟨t1,t2⟩:=tail hr;simp only[aa,bc,we,aw,<-e1,<-e2,l1,L.c.bq,ln,T,q4];refine C3.q t2 λ v J⟨U,m1,m2,m3,m4⟩=>?_;subst U;cases b:(s.iX a).2 with
 |true =>
  rw[qv rfl];simp only[aa,bc,aw,m1,m2];refine C3.q m4 λ _ H5 hp=>?_;simp only[aa,bc];exact hp.1
 |false =>
  rw[qn (by decide)];simp only[aa,bc,aw];exact m3.1
end
end Go.Am
namespace Go.Am
open Lang Go.Proofs
variable{M:ak}[MK M]
def Br:∀(b:List Pr)(x:Pr)(a:Int),gM (b ++ [x]) a=(gM b a).or (if x.a=a then B1 b.length else B5)
 |[],x,a=>by unfold gM;show(if x.a=a then B1 0 else(gM [] a).map _)=_;unfold gM;split<;>rfl
 |y::r,x,a=>by
  show(if y.a=a then B1 0 else(gM (r ++ [x]) a).map (·+1))=Option.or (if y.a=a then B1 0 else(gM r a).map (·+1)) _
  by_cases q:y.a=a
  .rw [qv q,qv q];rfl
  .rw [qn q,qn q,Br r x a];cases gM r a with
   |some i=>rfl
   |none=>simp only[Option.none_or,Option.map_none];split<;>rfl
def BP:∀{b:List Pr}{i:Nat}{x:Pr}(v a:Int),b[i]? = B1 x->gM (b.set i ⟨x.a,v⟩) a=gM b a
 |y::r,0,x,v,a,h=>by cases h;rfl
 |y::r,i+1,x,v,a,h=>by
  show(if y.a=a then B1 0 else(gM (r.set i ⟨x.a,v⟩) a).map (·+1))=_;rw[BP v a (show r[i]? = B1 x from h)];rfl
def qW.app{g:List Pr}(h:qW g){a v:Int}(hn:gM g a=B5):qW (g ++ [⟨a,v⟩]):=λ i x b=>by
 rw[Br];rcases xp i g.length with q|q
 .rw [ya q]at b;rw[h i x b];rfl
 .rw [z7 q]at b;have e:i=g.length:=by
   have:=(qo.1 b).1;simp only[zy,j7]at this;omega
  subst e;rw[Nat.sub_self]at b;cases b;rw[hn,qv rfl];rfl
theorem qW.set{m:List Pr}(h:qW m){i:Nat}{x:Pr}(g:m[i]? = B1 x)(v:Int):qW (m.set i ⟨x.a,v⟩):=λ j y b=>by
 rw[BP v _ g]
 by_cases q:j=i
 .subst q;rw[zf (by exact(qo.1 g).1)]at b;cases b;exact h j x g
 .rw [zm (λ e=>q e.symm)]at b;exact h j y b
section
variable{H H1 H':ar}{o o1:Nat->Nat}{p f l sp k k':Nat}{cv rv ov pv:AV}{c d:Co}{os os':List iW}
def dG.ue(h:dG H o p f l sp cv rv ov pv c os k){i:Nat}{x:Pr}(A:c.aO[i]? = B1 x){v:Int}(B:fm v):∃H',Op.store 1 [.ptr (aG rv) (cw 2 rv i+1),.int .u64 v] H=B1 (.undef,H')/\gq H o p f l sp cv pv {c with aO:=c.aO.set i ⟨x.a,v⟩} os k H':=by
 have⟨H1,s1,r,b⟩:=bU.u9 yS h.rd A (j:=1) (by decide) (u:=.int .u64 v) rfl (y:=⟨x.a,v⟩) rfl;have⟨g,fv,hs⟩:=h.so;have m:∀z,o z≠5 -> ¬bm rv z:=λ z q w=>q (h.oJ z w);refine⟨H1,s1,o,rv,ov,⟨h.row.fr b (m p (by rw[h.op];decide)),h.fi.fr b h.of (λ z q e=>m z (by omega)) λ _ _=>rfl,h.la.fr b (m l (by rw[h.ol];decide)),⟨g,fv,hs.fr b (λ z q e=>m z (by omega)) λ _ _=>rfl⟩,FP h.cd b λ e=>m _ (by rw[(h.lC e).2];decide),r,Own.fr h.ou b λ z q=>m z (by rw[h.oV z q];decide),h.op,h.of,h.ol,h.oJ,h.oV,λ e=>⟨qj (h.lC e).1 b.au,(h.lC e).2⟩,h.CU,{h.w with ru:=λ y w=>(uy w).elim (h.w.ru y) λ w=>by rw[w];exact B,rl:=by show(c.aO.set i _).length<=k;rw[xw];exact h.w.rl,G5:=h.w.G5.set A v}⟩,λ _ _=>rfl,b.mono λ z _ q=>by rw[h.oJ z q];decide⟩
def dG.AD(h:dG H o p f l sp cv rv ov pv c os k)(hk:k<=100000){a:Int}(hn:gM c.aO a=B5){K:bB->(Nat->AV)->Bool->AV->ar->Prop}{m:Bool}
 (I:∀i j r,Op.store 1 [.ptr p 13,i] j=B1 (.undef,r)->(∃o',dG r o' p f l sp cv i ov pv {c with aO:=c.aO ++ [⟨a,0⟩]} os (k+1)/\(∀z,z<H.au->o' z=o z)/\Fr (λ z=>o z=5\/o z=1) H r)->K (.row (AV.cells (.agg (cm ⟨a,0⟩))) yg (0,0) B4) (Op.sliceTo 1 1) m i j) :
 iG m (Op.buildSlice yg 1 [.int .i64 0,.int .u64 0] [(0,2)] [.agg (cm ⟨a,0⟩)]) λ g o mk=>iG g (Op.append yg 2 16 [rv,mk H.au] (H.alloc o)) (K o mk):=by
 have rl:=h.w.rl;refine bU.tX (bytes:=16) h.rd (x:=.agg (cm ⟨a,0⟩)) (a:=⟨a,0⟩) rfl rfl rfl rfl (by decide) (by omega) (by omega) λ i j C v J=>?_;have one:aC i=true:=Sl.one (Own.sl C);have L:=λ z(q:bm rv z)=>Own.lt h.rd z q;have ho:∀z,z<H.au->bw o H.au 5 z=o z:=λ z q=>vx q;have B:∀z,o z≠5 -> ¬bm rv z:=λ z q w=>q (h.oJ z w);have⟨g,fv,hs⟩:=h.so;have lr:=λ z(q:bm ov z)=>Own.lt h.ou z q;have D:At j p D3 _:=h.row.fr v (B p (by rw[h.op];decide));have st:=D.st 13 one (by simp[cj]);have F:(cj c f l sp cv rv ov pv).set 13 i=cj {c with aO:=c.aO ++ [⟨a,0⟩]} f l sp cv i ov pv:=rfl;rw[F]at st;obtain⟨r,u⟩:∃X,X=j.set p (OR (cj {c with aO:=c.aO ++ [⟨a,0⟩]} f l sp cv i ov pv) D3):=⟨_,rfl⟩
 rw[<-u]at st;have A:Fr (On p) j r:=u▸cW ..;have b:Fr (λ z=>bm rv z\/z=p) H r:=(v.mono λ z _ q=>.inl q).trans A λ z q=>.inl (.inr q);have nw:∀z,o z≠5->o z≠1 -> ¬(bm rv z\/z=p):=λ z G E w=>w.elim (B z G) λ w=>E (by rw[w];exact h.op);have no:∀z,bm i z->bw o H.au 5 z=5:=λ z q=>(J z q).elim (λ w=>(ho z (L z w)).trans (h.oJ z w)) λ w=>mG w;refine I i j r st ⟨bw o H.au 5,⟨u▸D.set _,h.fi.fr b h.of (λ z q e=>nw z (by omega) (by omega)) ho,h.la.fr b (nw l (by rw[h.ol];decide) (by rw[h.ol];decide)),⟨g,fv,hs.fr b (λ z q e=>nw z (by omega) (by omega)) ho⟩,FP h.cd b λ e=>nw _ (by rw[(h.lC e).2];decide) (by rw[(h.lC e).2];decide),Own.fr C A λ z q(w:z=p)=>?_,Own.fr h.ou b λ z q=>nw z (by rw[h.oV z q];decide) (by rw[h.oV z q];decide),
  (ho p h.row.2).trans h.op,(ho f (by obtain⟨pv,q,-⟩:=h.fi.at';exact q.2)).trans h.of,(ho l h.la.at'.2).trans h.ol,no,λ z q=>(ho z (lr z q)).trans (h.oV z q),λ e=>⟨qj (h.lC e).1 b.au,(ho _ (h.lC e).1).trans (h.lC e).2⟩,h.CU,{h.w with ru:=λ y w=>(zr.1 w).elim (h.w.ru y) λ w=>by rw[z4.1 w];exact bI,rl:=by show(c.aO ++ [_]).length<=k+1;rw[xk];simp only[zy,j7];omega,G5:=h.w.G5.app hn}⟩,ho,b.mono λ z _ q=>q.imp (h.oJ z) λ q=>by rw[q];exact h.op⟩
 have:=no z q;rw[w,ho p h.row.2,h.op]at this;omega
end
section
variable{X:SX}{n n':Nat}{s t:CS}{H H':ar}{o:Nat->Nat}{rv ov:AV}{bs:Bs}{own:Nat->Nat}{V:Int->L8}
def dt.tag(h:dt X n s H o rv ov bs own V)(f:Fr Em H H')(t:Nat):dt X n s H' (bw o H.au t) rv ov bs own V:=by
 have ho:∀z,z<H.au->bw o H.au t z=o z:=λ z q=>vx q;have hn:=h.hn;have a:=h.fr.au;refine{h with c:=h.c.fr f (λ _ _ _ q=>q) ho (qg _),b:=h.b.em f,dj:=λ z q=>(ho z (h.b.low q)).trans (h.dj z q),hb:=λ z q e=>?_,go:=λ z q e=>?_,fr:=h.fr.em f}
 .rcases xp z H.au with w|w
  .rw [ho z w]at e;exact h.hb z w e
  .omega
 .rcases xp z H.au with w|w
  .rw [ho z w]at e;exact h.go z w e
  .exact .inr (by omega)
def qp(h:dt X n s H o rv ov bs own V)(hk:X.k+n<=90000)(hl:s.o.length<=1000)(e:lW)(hu:fm e.addr)(hv:fm e.value)(a:Int):xz M Nh [.ptr X.p 0,.agg (aY e),.int .i64 a] H λ _ H'=>jU X (n+1) (s.gU e a) H':=by
 refine qrq ?_;have⟨H1,e1,f1,n1,P⟩:=de H (OR (aY e) zq);have⟨o1,A,lo⟩:=h.loc f1;have R:=(lo H.au).1 ⟨qg _,by omega⟩;have hr:=A.re;have ln:=ia (M:=M) A.c.la;have l3:=lX P 3;have l5:=yX P;have l3:Op.ae [.ptr H.au 3] H1=B1 (.int .u64 e.value):=l3;unfold CS.gU
 by_cases q3:s.c.la.lane=3
 .rw [qv q3];have q0:¬s.c.la.lane=0:=by omega
  simp only;simp only[aa,bc,ku,aw,<-e1,l3,A.c.bq,ln,q0,qr q3];have⟨g,fv,hs⟩:=A.c.so;refine C3.q (P_ hs a hv) λ _ F hp=>?_;have⟨o3,rv3,ov3,bs3,own3,V3,E⟩:=hr.co (t:=s.so (·.store a e.value)) rfl rfl (A.c.JM hp) (qg _);have⟨lo1',r1⟩:=E.lo R;have c3:dG F o3 X.p X.f X.l X.sp X.cv rv3 ov3 X.pv (s.so (·.store a e.value)).c s.o (X.k+n):=E.c;have⟨g3,fv3,hs3⟩:=c3.so;have m2:=yX (oa r1 P);cases b:(s.so (·.store a e.value)).c.so.busy with
  |true =>
   rw[qv rfl];have⟨H4,s4,I⟩:=E.want e hu;have s4:Op.store 5 [.ptr X.p 7,.agg (aY e)] F=B1 (.undef,H4):=s4;have⟨H5,s5,h5⟩:=I.put 6 (v:=.int .i64 6) {(s.so (·.store a e.value)).c with want:=e,ph:=6} rfl (by decide) rfl ⟨rfl,rfl,rfl,rfl⟩ ⟨rfl,rfl⟩ {I.c.w with};have s5:Op.store 1 [.ptr X.p 6,.int .i64 6] H4=B1 (.undef,H5):=s5;simp only[aa,bc,ku,aw,c3.bq,gG hs3,b,m2,s4,s5];exact A.back (h5.dK (by omega))
  |false =>
   rw[qn (by decide)];simp only[aa,bc,ku,aw,c3.bq,gG hs3,b,m2];refine C3.q (Kd (s:=s.so (·.store a e.value)) c3 hl 3 e a) λ _ H4 hp=>?_;simp only[aa,bc];exact A.back ((E.co (t:=(s.so (·.store a e.value)).stored 3 e a) rfl rfl hp (qg _)).mono (by omega))
 rw[qn q3]
 by_cases q4:s.c.la.lane=4
 .rw [qv q4];have q0:¬s.c.la.lane=0:=by omega
  have lr:=(bU.sl A.c.rd).len;have rl0:=A.c.w.rl;obtain⟨U,e2⟩:∃Z,Z=(H1.alloc (OR [.int .i64 0] cM)).set H1.au (OR [.int .i64 ((s.c.aO.length:Nat):Int)] cM):=⟨_,rfl⟩
  have s2:Op.store 1 [.ptr H1.au 0,.int .i64 ((s.c.aO.length:Nat):Int)] (H1.alloc (OR [.int .i64 0] cM))=B1 (.undef,U):=by rw[e2];exact(At.new H1 _ _).st 0 rfl (by simp)
  have f2:Fr Em H1 U:=e2▸((Fr.refl H1).alloc _).set (.inr (qg _)) _;have n2:U.au=H.au+2:=by rw[e2,si,xt,n1]
  have g2:U.get H1.au=B1 (OR [.int .i64 ((s.c.aO.length:Nat):Int)] cM):=by rw[e2,xb]
  have h2:=hr.tag f2 4;have t2:bw o1 H1.au 4 H1.au=4:=mG (qg _);simp only[aa,bc,ku,aw,<-e1,A.c.bq,ln,q0,q3,qr q4,lr,s2];refine C3.q (WY X.p a) λ v m⟨hv',hh⟩=>?_;obtain⟨F,e3,f23,-,-⟩:=de U (OR [.ptr X.p 0] wg);obtain⟨H4,e4⟩:∃Z,Z=F.alloc (OR [.int .i64 a] cM):=⟨_,rfl⟩
  rw[<-e3]at hv' hh;rw[<-e4]at hh;subst hv';subst hh;have f34:Fr Em F m:=e4▸(Fr.refl F).alloc _;have n3:F.au=H.au+3:=by rw[e3,xt,n2]
  have n4:m.au=H.au+4:=by rw[e4,xt,n3]
  have g3:m.get U.au=B1 (OR [.ptr X.p 0] wg):=by rw[f34.ah _ (by omega) id,e3,xf]
  have g4:m.get F.au=B1 (OR [.int .i64 a] cM):=by rw[e4,xf]
  have g2':m.get H1.au=B1 (OR [.int .i64 ((s.c.aO.length:Nat):Int)] cM):=by rw[f34.ah _ (by omega) id,f23.ah _ (by omega) id];exact g2
  have I:=h2.tag (f23.em f34) 0;obtain⟨S,Q⟩:∃S,S=bw (bw o1 H1.au 4) U.au 0:=⟨_,rfl⟩
  rw[<-Q]at I;have t4:S H1.au=4:=by rw[Q,vx (by omega)];exact t2
  have k3:S U.au=0:=by rw[Q];exact mG (qg _)
  have k4:S F.au=0:=by rw[Q];exact mG (by omega)
  have c4:dG m S X.p X.f X.l X.sp X.cv rv ov X.pv s.c s.o (X.k+n):=I.c;have kL:∀i,gM s.c.aO a=B1 i->(gP s.c.aO a)=[[.int .i64 (i:Int),.int .u64 (s.c.aO.getD i ⟨0,0⟩).v]]:=λ i q=>by unfold gP;rw[q]
  obtain⟨vl,hvl⟩:∃vl:Nat->Nat,vl=λ i=>if i=0 then s.c.aO.length else(gM s.c.aO a).getD 0:=⟨_,rfl⟩
  have vl0:vl 0=s.c.aO.length:=by rw[hvl];rfl
  simp only[aa,bc];refine iL.rG (fn:=Oc) (lp:=Nk) (pa:=SZ 0) (pb:=Tw 0) qp9 Yv.1 Yv.2 (by decide) qo2 qo3
   (X8 (rv:=rv) g3 g4 (by omega) (by omega) c4.w.G5 (by omega)) (λ i W Hx=>HF m S X.p X.f X.l X.sp X.cv rv X.pv s.c s.o (X.k+n) W Hx/\W H1.au/\Hx.get H1.au=B1 (OR [.int .i64 ((vl i:Nat):Int)] cM))
   (λ ex W Hx=>False)
   (λ z=>S z≠0/\z<m.au) (qg _) ?_ ?_ ?_ ?_ ?_ ?_ ?_ ?_ ?_
  .rintro z ((q|q)|q)
   .exact ⟨by omega,rfl,λ w=>w.1 (by rw[q];exact k3)⟩
   .exact ⟨by omega,rfl,λ w=>w.1 (by rw[q];exact k4)⟩
   .exact q.elim
  .exact λ z hz=>hz.2
  .exact ⟨⟨S,ov,c4,λ _ _=>rfl,λ z w q=>⟨q,w⟩,qg _⟩,⟨by rw[t4];decide,by omega⟩,by rw[vl0];exact g2'⟩
  .exact λ i W Ha Hb⟨q1,q2,q3⟩hs hn=>⟨q1.loc hs hn,q2,by rw[hs _ q2];exact q3⟩
  .exact λ i W Ha Hb q hs hn=>q
  .exact λ i W Hx⟨⟨L,T,q2,_⟩,_⟩=>⟨q2.row.ld 13,bU.sl q2.rd⟩
  .intro C i lr lb y hy hL2 W N ⟨⟨L,T,Y,a6,w6,le6⟩,wt,gt⟩ hb hf6 hnL hL6 hgL;obtain⟨j,K⟩:∃j,gM s.c.aO a=B1 j:=by
    cases q:gM s.c.aO a with
    |some j=>exact⟨j,rfl⟩
    |none=>unfold gP at hy;rw[q]at hy;cases hy
   have hv1:vl (i+1)=j:=by rw[hvl];simp only;rw[qn (by omega),K];rfl
   rw[kL j K]at hy;have hi:i=0:=by
    have:=(qo.1 hy).1;simp only[zy,j7]at this;omega
   subst hi;cases hy;refine⟨_,rfl,?_⟩;have w:=ku M ⟨B1 C,Nh⟩;simp only[aa,bc,w,DQ];refine⟨hgL,?_⟩;have fx:Fr (On C) N (N.set C lb):=(Fr.refl N).set (W:=On C) (.inl rfl) _;have gL:(N.set C lb).get C=B1 lb:=xb ..;have nL:(N.set C lb).au=N.au:=rfl;have oL:L C=0:=jj λ q=>hnL (w6 C hL6 q);have ot:L H1.au=4:=(a6 _ (by omega)).trans t4;have nt:H1.au≠C:=by omega
   have c7:dG (N.set C lb) L X.p X.f X.l X.sp X.cv rv T X.pv s.c s.o (X.k+n):=Y.fr fx (λ z _ q(r:z=C)=>q (by rw[r];exact oL)) (λ _ _=>rfl) (qg _);have a7:At (N.set C lb) H1.au cM [.int .i64 ((vl 0:Nat):Int)]:=⟨by rw[jx nt.symm];exact gt,by rw[nL];omega⟩
   generalize N.set C lb=H7 at *;have s7:=a7.st 0 (v:=.int .i64 (j:Int)) rfl (by simp);have a8:=a7.set [.int .i64 (j:Int)];have f8:Fr (On H1.au) H7 (H7.set H1.au (OR [.int .i64 (j:Int)] cM)):=cW ..;simp only[aa,bc,s7,List.set];refine⟨rfl,by rw[f8.ah C (by omega) λ q:C=H1.au=>nt q.symm];exact gL,W,λ z q=>⟨by have:=(hb z q).1;rw[si,nL];exact this,.inl q⟩,?_,.inl ⟨rfl,⟨L,T,c7.ZM f8 (λ z _ q r(u:z=H1.au)=>r (by rw[u];exact ot)) (λ _ _=>rfl) (qg _),a6,λ z q1 q2=>w6 z (by rw[si,nL]at q1;exact q1) q2,by rw[si,nL];exact le6⟩,wt,by rw[hv1];exact a8.1⟩⟩;exact(fx.mono λ z _ q=>.inr q).trans f8 λ z(q:z=H1.au)=>.inl (.inl (by rw[q];exact wt))
  .rintro d W H' hd hd2 hg hf hW ⟨⟨L,T,Y,a6,w6,le6⟩,wt,gt⟩;have od:L d=0:=jj λ q=>(hW d (w6 d hd2 q)).2.2 rfl;have h9:=I.DG (t:=s) rfl rfl Y a6 (hf.mono λ z _ q=>q.elim (λ r=>r.1) Ja) (qg _);have h9r:=h9.re;have ld:Ch H' L X.B bs d:=⟨hd2,od,λ w=>by have:=I.b.low w;omega⟩
   have lb:Ch H' L X.B bs H.au/\H'.get H.au=H1.get H.au:=h9.lo R;have xd:X.H.au<=d:=by have:=h.fr.au;omega
   have bd:X.Hb.au<=d:=by have:=h.hn;omega
   have fin:∀{t:CS}{Z:ar}{oz:Nat->Nat}{rvz ovz:AV}{bsz:Bs}{ownz:Nat->Nat}{Vz:Int->L8},dt ((X.at H1 o1 bs).at H' L bs) (n+1) t Z oz rvz ovz bsz ownz Vz->Z.get d=B1 (.deferred (B1 []))/\jU X (n+1) t (Z.set d (.deferred B5)):=λ hz =>
    ⟨(hz.lo ld).2.trans hg,((A.qN (h9.qN hz)).nR (hz.lo ld).1 xd bd _).here⟩
   have lt:=lX gt 0;have l3':=lX (oa lb.2 P) 3;have l3':Op.ae [.ptr H.au 3] H'=B1 (.int .u64 e.value):=l3';have e12:(X.k+n)+1=X.k+(n+1):=by omega
   cases K:gM s.c.aO a with
   |none =>
    have hL:(gP s.c.aO a).length=0:=by unfold gP;rw[K];rfl
    have lt:Op.ae [.ptr H1.au 0] H'=B1 (.int .i64 ((s.c.aO.length:Nat):Int)):=by rw[lt,hL,vl0];rfl
    have bp:Op.build [.int .i64 0,.int .u64 0] [(0,1)] [.int .i64 a]=B1 (.agg (cm ⟨a,0⟩)):=rfl;simp only[aa,bc,ku,aw,lt,Y.bq,lr,bp];refine Y.AD (by omega) K λ v' H10 H11 st'⟨o11,c11,a11,O⟩=>?_;have lt11:Op.ae [.ptr H1.au 0] H11=B1 (.int .i64 ((s.c.aO.length:Nat):Int)):=by
     rw[<-lt];exact(lX (oa (O.ah _ (by omega) λ q=>by rw[(a6 _ (by omega)).trans t4]at q;omega) gt) 0).trans (lX gt 0).symm
    have l311:Op.ae [.ptr H.au 3] H11=B1 (.int .u64 e.value):=lX (oa (O.ah _ lb.1.1 λ q=>by rw[lb.1.2.1]at q;omega) (oa lb.2 P)) 3;have hx:(s.c.aO ++ [(⟨a,0⟩:Pr)])[s.c.aO.length]? = B1 ⟨a,0⟩:=by rw[z7 (qg _),Nat.sub_self];rfl
    have ix:=(bU.sl c11.rd).idx hx (z:=((s.c.aO.length:Nat):Int)) rfl .i64;have⟨H12,s12,o12,rv12,ov12,G,a12,f12⟩:=c11.ue hx hv;have er:(s.c.aO ++ [(⟨a,0⟩:Pr)]).set s.c.aO.length ⟨a,e.value⟩=eU s.c.aO a e.value:=by rw[Ou K,wn _ _ (qg _),Nat.sub_self];rfl
    rw[er]at G;have D:=h9r.DG (n':=n+1) (t:={s with c:={s.c with aO:=eU s.c.aO a e.value}}) rfl rfl (G.fr (Fr.refl _) (λ _ _ _ w=>w) (λ _ _=>rfl) (show X.k+n+1<=X.k+(n+1)by omega)) (λ z q=>(a12 z (qj q O.au)).trans (a11 z q)) ((O.mono λ z _ q=>by omega).trans f12 λ z q=>by
     rcases xp z H'.au with w|w
     .exact .inl (by rw[<-a11 z w];exact q)
     .exact .inr w) (by omega)
    have J:=yX (oa (D.lo lb.1).2 (oa lb.2 P));simp only[aa,bc,ku,aw,st',c11.bq,lt11,l311,ix,s12,J];refine C3.q (Kd (s:={s with c:={s.c with aO:=eU s.c.aO a e.value}}) D.c hl 3 e a) λ _ H13⟨o13,rv13,ov13,c13,a13,f13⟩=>?_;simp only[aa,bc];exact fin (D.DG (t:=({s with c:={s.c with aO:=eU s.c.aO a e.value}}:CS).stored 3 e a) rfl rfl c13 a13 f13 (qg _))
   |some j =>
    have hL:(gP s.c.aO a).length=1:=by rw[kL j K];rfl
    have hv1:vl 1=j:=by rw[hvl];simp only;rw[qn (by omega),K];rfl
    have lt:Op.ae [.ptr H1.au 0] H'=B1 (.int .i64 (j:Int)):=by rw[lt,hL,hv1];rfl
    have⟨jl,x,hx,xa⟩:=nM K;have jn:¬(j:Int)=((s.c.aO.length:Nat):Int):=by omega
    have ix:=(bU.sl Y.rd).idx hx (z:=(j:Int)) rfl .i64;have⟨H12,s12,o12,rv12,ov12,G,a12,f12⟩:=Y.ue hx hv;have er:s.c.aO.set j ⟨x.a,e.value⟩=eU s.c.aO a e.value:=by rw[Ox K,xa]
    rw[er]at G;have D:=h9r.DG (n':=n) (t:={s with c:={s.c with aO:=eU s.c.aO a e.value}}) rfl rfl G a12 f12 (qg _);have J:=yX (oa (D.lo lb.1).2 (oa lb.2 P));simp only[aa,bc,ku,aw,lt,Y.bq,lr,jn,l3',ix,s12,J];refine C3.q (Kd (s:={s with c:={s.c with aO:=eU s.c.aO a e.value}}) D.c hl 3 e a) λ _ H13⟨o13,rv13,ov13,c13,a13,f13⟩=>?_;simp only[aa,bc];exact fin (D.DG (n':=n+1) (t:=({s with c:={s.c with aO:=eU s.c.aO a e.value}}:CS).stored 3 e a) rfl rfl (c13.fr (Fr.refl _) (λ _ _ _ w=>w) (λ _ _=>rfl) (show X.k+n<=X.k+(n+1)by omega)) a13 f13 (by omega))
  .exact λ e d W H' he hd hd2 hg hf hW q=>q.elim
 rw[qn q4];have st:=M6 (M:=M) hr hk a hv
 by_cases q0:s.c.la.lane=0
 .rw [qv q0];simp only[aa,bc,ku,aw,<-e1,l3,A.c.bq,ln,qr q0];refine C3.q st λ w F⟨hw,o3,rv3,ov3,bs3,own3,V3,E⟩=>?_;subst hw;cases b:s.sy a e.value with
  |true =>
   rw[qv rfl];have m2:=yX (oa (E.lo R).2 P);simp only[aa,bc,m2];refine C3.q (Kd (s:=s.st a e.value) E.c hl 8 e a) λ _ H4 hp=>?_;simp only[aa,bc];exact A.back (E.co (t:=(s.st a e.value).stored 8 e a) rfl rfl hp (qg _))
  |false =>
   rw[qn (by decide)];simp only[aa,bc];exact A.back E.here
 .simp only[aa,bc,ku,aw,<-e1,l3,A.c.bq,ln,q0,q3,q4];refine C3.q st λ w F⟨hw,o3,rv3,ov3,bs3,own3,V3,E⟩=>?_;subst hw;cases b:s.sy a e.value with
  |true =>
   rw[qv rfl];have⟨H4,s4,I⟩:=E.put 15 (v:=.bool B4) {s.c with wrote:=B4} rfl (by decide) rfl ⟨rfl,rfl,rfl,rfl⟩ ⟨rfl,rfl⟩ {E.c.w with};have s4:Op.store 1 [.ptr X.p 15,.bool B4] F=B1 (.undef,H4):=s4;have m2:=yX (oa (I.lo R).2 P);simp only[aa,bc,aw,s4,m2];refine C3.q (Kd (s:={s.st a e.value with c:={s.c with wrote:=B4}}) I.c hl 3 e a) λ _ H5 hp=>?_;simp only[aa,bc];exact A.back (I.co (t:=({s.st a e.value with c:={s.c with wrote:=B4}}:CS).stored 3 e a) rfl rfl hp (qg _))
  |false =>
   rw[qn (by decide)];simp only[aa,bc];exact A.back E.here
end
end Go.Am
