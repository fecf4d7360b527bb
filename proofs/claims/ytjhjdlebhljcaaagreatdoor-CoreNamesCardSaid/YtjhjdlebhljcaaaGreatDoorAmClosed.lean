/- LAWS WITHOUT PARAMETERS: one run of the machine. The listed variables: data without references, and errors made by errors.New. -/
import Derived.Test.YtjhjdlebhljcaaaGreatDoorAmData
import Derived.ChangeSame
import Derived.LaidSub
import Derived.LaidLaws
namespace Go.Am
open Go.RowKit Go.ChangeShapes
set_option linter.unusedVariables false

theorem HR.givenD {P : Program} {w : World} {gl : List (Nat × List AV)} {base n : Nat} {θ : Th} (hb : base ≤ w.heap.size) (hn : P.globals.size ≤ n) (hθ : ∀ g, g < P.globals.size → θ.blk g = g ∧ θ.off g = 0)
    (h : ∀ b l, (b, l) ∈ gl → b < n ∧ ∃ pre cs post e fz, w.heap[θ.blk b]? = some (.cells (pre ++ cs ++ post).toArray e fz) ∧ pre.length = θ.off b ∧ VRL (Lt n) θ l cs) :
    HR P base (Lt n) θ (givenHeap gl n) w := by
  refine ⟨fun b o hg => ?_, fun b b' o o' h1 _ h3 _ => ?_, fun b o h1 h2 => ?_, fun g hg => ⟨Nat.lt_of_lt_of_le hg hn, hθ g hg⟩, hb⟩
  · obtain ⟨l, h1, rfl⟩ := givenRows_get hg
    obtain ⟨hlt, pre, cs, post, e, fz, h2, h3, h4⟩ := h b l h1
    exact ⟨hlt, _, h2, pre, cs, post, fz, e, rfl, h3, h4, fun h => by cases h⟩
  · rw [given_heap gl _ b o h1] at h3; cases h3
  · rw [given_heap gl _ b o h1] at h2; cases h2

/-! ### errors made by errors.New -/
def errOkB (P : Program) (tp : TypeId) : Bool :=
  match P.underlying tp with
  | some (.pointer te) => match P.underlying te with
    | some (.struct ⟨[f]⟩) => Nat.beq f.offset 0 && (match P.underlying f.type with | some .string => true | _ => false) && Nat.beq (P.cellsOf te) 1 && Nat.beq (P.cellsOf f.type) 1
    | _ => false
  | _ => false
structure ErrT (P : Program) (tp : TypeId) : Prop where
  row : ∀ u, P.typeName? 3 u = some "*errors.errorString" → u = tp
  ok : errOkB P tp = true

def sentText : DataW Unit → Option (List UInt8)
  | .iface nm (.ptr (.agg [.lit (.string text)])) => if nm = "*errors.errorString" then some text else none
  | _ => none
theorem sentText_eq {d : DataW Unit} {s : List UInt8} (h : sentText d = some s) : d = .iface "*errors.errorString" (.ptr (.agg [.lit (.string s)])) := by
  unfold sentText at h
  split at h
  · split at h
    · rename_i e; subst e; injection h with h; subst h; rfl
    · cases h
  · cases h
def isIfaceT : Option TypeDesc → Bool
  | some (.interface _) => true
  | _ => false

/-- the rows of a list: a listed error's text lies in a block of its own -/
def varT (P : Program) (x : String × DataW Unit) : Option (Nat × TypeId) := (P.globalNamed x.1).bind fun g => ((P.globals[g]?).map (·.type)).map fun t => (g, t)
def rowsOf1 (P : Program) (tp : TypeId) (i : Nat) (x : String × DataW Unit) : List (Nat × List AV) :=
  match varT P x with
  | none => []
  | some (g, t) => match flatA P 30 t x.2 with
    | some l => [(g, l)]
    | none => match isIfaceT (P.underlying t), sentText x.2 with
      | true, some s => [(g, [.iface tp (.ptr i 0)]), (i, [.str s])]
      | _, _ => []
def rowsOf (P : Program) (tp : TypeId) : Nat → List (String × DataW Unit) → List (Nat × List AV)
  | _, [] => []
  | i, x :: r => rowsOf1 P tp i x ++ rowsOf P tp (i + 1) r

def laidHeap (P : Program) (tp : TypeId) (laid : List (String × DataW Unit)) : AHeap := givenHeap (rowsOf P tp P.globals.size laid) (P.globals.size + laid.length)

theorem rowsOf_mem {P : Program} {tp : TypeId} : ∀ {laid : List (String × DataW Unit)} {i b : Nat} {l : List AV}, (b, l) ∈ rowsOf P tp i laid → ∃ j x, laid[j]? = some x ∧ (b, l) ∈ rowsOf1 P tp (i + j) x
  | [], i, b, l, h => by cases h
  | x :: r, i, b, l, h => by
    rcases List.mem_append.1 h with h | h
    · exact ⟨0, x, rfl, h⟩
    · obtain ⟨j, y, h1, h2⟩ := rowsOf_mem h
      exact ⟨j + 1, y, by simpa using h1, by rw [show i + (j + 1) = i + 1 + j from by omega]; exact h2⟩

theorem varT_eq {P : Program} {x : String × DataW Unit} {g : Nat} {t : TypeId} (h : varT P x = some (g, t)) : P.globalNamed x.1 = some g ∧ (P.globals[g]?).map (·.type) = some t := by
  simp only [varT, Option.bind_eq_some_iff, Option.map_eq_some_iff, Prod.mk.injEq] at h
  obtain ⟨g', h1, t', h2, rfl, rfl⟩ := h
  exact ⟨h1, by simpa [Option.map_eq_some_iff] using h2⟩

/-- where a listed error's text lies -/
def SentAt (P : Program) (tp : TypeId) (w : World) (x : String × DataW Unit) (a : Addr) : Prop :=
  ∀ g t s, varT P x = some (g, t) → isIfaceT (P.underlying t) = true → sentText x.2 = some s →
    a.spot = none ∧ (∃ e fz, w.heap[g]? = some (.cells #[.iface tp (.pointer (some a))] e fz)) ∧ ∃ cs e fz, w.heap[a.block]? = some (.cells cs e fz) ∧ cs[a.off]? = some (.string ⟨s.toArray⟩)

theorem sent_at {P : Program} {tp : TypeId} (hT : ErrT P tp) {w : World} {laid : List (String × DataW Unit)} (h : laidMet P laid w) {x : String × DataW Unit} (hx : x ∈ laid) : ∃ a, SentAt P tp w x a := by
  by_cases hq : ∃ g t s, varT P x = some (g, t) ∧ isIfaceT (P.underlying t) = true ∧ sentText x.2 = some s
  · obtain ⟨g, t, s, h1, h2, h3⟩ := hq
    obtain ⟨k1, k2⟩ := varT_eq h1
    have hd := sentText_eq h3
    obtain ⟨ps, hv, hnd, hrows⟩ := h
    have key : ∀ {laid : List (String × DataW Unit)} {ps : List MemPlace}, DataW.LaidVars P w laid ps → x ∈ laid →
        ∃ g t cs fuel p, P.globalNamed x.1 = some g ∧ (P.globals[g]?).map (·.type) = some t ∧ w.var? P x.1 = some cs ∧ DataW.trod (fun _ => ()) P w 0 (fun _ => true) false fuel t cs.toList = some (x.2, p) ∧ ∀ q ∈ MemPlace.row ⟨g, 0, none⟩ cs.size, q ∈ ps := by
      intro laid
      induction laid with
      | nil => intro _ _ hm; cases hm
      | cons y r ih =>
        intro ps hv hm
        obtain ⟨g, t, cs, fuel, p, q, e1, e2, e3, e4, e5, e6⟩ := hv
        rcases List.mem_cons.1 hm with rfl | hm
        · exact ⟨g, t, cs, fuel, p, e1, e2, e3, e4, fun z hz => by rw [e6]; simp [hz]⟩
        · obtain ⟨g', t', cs', fuel', p', f1, f2, f3, f4, f5⟩ := ih e5 hm
          exact ⟨g', t', cs', fuel', p', f1, f2, f3, f4, fun z hz => by rw [e6]; simp [f5 z hz]⟩
    obtain ⟨g', t', cs, fuel, p, e1, e2, e3, e4, e5⟩ := key hv hx
    obtain rfl := Option.some.inj (k1.symm.trans e1)
    obtain rfl := Option.some.inj (k2.symm.trans e2)
    rw [hd] at e4
    obtain ⟨ms, hi⟩ : ∃ ms, P.underlying t = some (.interface ms) := by
      unfold isIfaceT at h2
      split at h2
      · rename_i ms hu; exact ⟨ms, hu⟩
      · cases h2
    obtain ⟨te, f, hp, he, ho, hs, hc1, hc2⟩ : ∃ te f, P.underlying tp = some (.pointer te) ∧ P.underlying te = some (.struct #[f]) ∧ f.offset = 0 ∧ P.underlying f.type = some .string ∧ P.cellsOf te = 1 ∧ P.cellsOf f.type = 1 := by
      have := hT.ok
      unfold errOkB at this
      split at this
      · rename_i te hte
        split at this
        · rename_i f hf
          simp only [Bool.and_eq_true, Nat.beq_eq] at this
          obtain ⟨⟨⟨a1, a2⟩, a3⟩, a4⟩ := this
          split at a2
          · rename_i hs; exact ⟨te, f, hte, hf, a1, hs, a3, a4⟩
          · cases a2
        · cases this
      · cases this
    have hvar := e3
    unfold World.var? at hvar
    rw [e1] at hvar
    simp only [Option.bind_some] at hvar
    split at hvar
    · rename_i c e fz hc
      injection hvar with hvar; subst hvar
      have ok : ∀ u v, c.toList = [.iface u v] → Value.okWide P w .any 0 u v := fun u v q => by
        have hsz : c.size = 1 := by simpa using congrArg List.length q
        refine (hrows g 0 (e5 _ (by rw [hsz]; simp [MemPlace.row]))).2 u v ?_
        have hc0 : c[0]? = some (.iface u v) := by rw [← Array.getElem?_toList, q]; rfl
        simp [World.cell?, hc, hc0]
      obtain ⟨a, sb, q1, q2, q3, q4, _⟩ := errorString_of_trod hi hT.row hp he rfl ho hs hc1 hc2 e4 ok
      refine ⟨a, fun g2 t2 s2 r1 r2 r3 => ?_⟩
      obtain ⟨rfl, rfl⟩ : g = g2 ∧ t = t2 := by have := h1.symm.trans r1; simpa using this
      obtain rfl := Option.some.inj (h3.symm.trans r3)
      refine ⟨World.cell?_spot q2, ⟨e, fz, by rw [hc, Array.eq_one_of_toList q1]⟩, ?_⟩
      unfold World.cell? at q2
      split at q2
      · rename_i cs' e' fz' hh
        refine ⟨_, _, _, hh, ?_⟩
        rw [← q3]
        have q2' : a.spot = none ∧ cs'[a.off]? = some (.string sb) := by simpa using q2
        rw [q2'.2]
      · cases q2
    · cases hvar
  · exact ⟨default, fun g t s h1 h2 h3 => (hq ⟨g, t, s, h1, h2, h3⟩).elim⟩

/-- where the listed variables lie -/
theorem laidS {P : Program} {tp : TypeId} {w : World} {laid : List (String × DataW Unit)} (h : laidMet P laid w) (hS : ∀ x ∈ laid, ∃ a, SentAt P tp w x a) :
    ∃ θ : Th, (∀ g, g < P.globals.size → θ.blk g = g ∧ θ.off g = 0) ∧ ∀ b l, (b, l) ∈ rowsOf P tp P.globals.size laid → b < P.globals.size + laid.length ∧ ∃ pre cs post e fz, w.heap[θ.blk b]? = some (.cells (pre ++ cs ++ post).toArray e fz) ∧ pre.length = θ.off b ∧ VRL (Lt (P.globals.size + laid.length)) θ l cs := by
  have hall : ∀ j : Nat, ∃ a : Addr, ∀ x, laid[j]? = some x → SentAt P tp w x a := fun j => by
    cases hj : laid[j]? with
    | none => exact ⟨default, fun x hx => by cases hx⟩
    | some x =>
      obtain ⟨a, ha⟩ := hS x (List.mem_of_getElem? hj)
      exact ⟨a, fun y hy => by injection hy with hy; subst hy; exact ha⟩
  obtain ⟨F, hF⟩ := Classical.axiomOfChoice hall
  let N := P.globals.size
  refine ⟨⟨fun b => if b < N then b else (F (b - N)).block, fun b => if b < N then 0 else (F (b - N)).off, fun _ => 0⟩, fun g hg => ⟨if_pos hg, if_pos hg⟩, fun b l hm => ?_⟩
  obtain ⟨j, x, hj, hm⟩ := rowsOf_mem hm
  have hjl := (List.getElem?_eq_some_iff.1 hj).1
  unfold rowsOf1 at hm
  split at hm
  · cases hm
  · rename_i g t hv
    obtain ⟨k1, k2⟩ := varT_eq hv
    have hg : g < N := by
      rcases Nat.lt_or_ge g N with q | q
      · exact q
      · rw [Array.getElem?_eq_none q] at k2; cases k2
    split at hm
    · rename_i l' hl
      simp only [List.mem_singleton, Prod.mk.injEq] at hm
      obtain ⟨rfl, rfl⟩ := hm
      obtain ⟨_, cs, e, fz, h1, h2⟩ := laid_row (d := x.2) (n := x.1) h (List.mem_of_getElem? hj) k1 k2 hl
      refine ⟨Nat.lt_of_lt_of_le hg (by omega), [], cs.toList, [], e, fz, ?_, by simp [hg], fun θ' _ => h2 θ'⟩
      simp [hg, h1]
    · split at hm
      · rename_i s hi hs
        obtain ⟨q1, ⟨e, fz, q2⟩, cs, e', fz', q3, q4⟩ := hF j x hj g t s hv hi hs
        rcases List.mem_cons.1 hm with hm | hm
        · injection hm with hm1 hm2; subst hm1; subst hm2
          refine ⟨Nat.lt_of_lt_of_le hg (by omega), [], [.iface tp (.pointer (some (F j)))], [], e, fz, ?_, by simp [hg], ?_⟩
          · simp [hg, q2]
          · refine .one (.iface ?_)
            have := VR.ptr (D := Lt (N + laid.length)) (θ := ⟨fun b => if b < N then b else (F (b - N)).block, fun b => if b < N then 0 else (F (b - N)).off, fun _ => 0⟩) (b := N + j) (o := 0) (by show N + j < _; omega)
            have hn : ¬ N + j < N := by omega
            simp only [hn, if_false, Nat.add_sub_cancel_left, Nat.add_zero] at this
            have hF1 : (F j) = ⟨(F j).block, (F j).off, none⟩ := by rw [← q1]
            rw [hF1]; exact this
        · simp only [List.mem_singleton, Prod.mk.injEq] at hm
          obtain ⟨rfl, rfl⟩ := hm
          have hn : ¬ N + j < N := by omega
          have hlt := (Array.getElem?_eq_some_iff.1 q4).1
          refine ⟨by omega, cs.toList.take (F j).off, [.string ⟨s.toArray⟩], cs.toList.drop ((F j).off + 1), e', fz', ?_, ?_, .one (.str s)⟩
          · show w.heap[if N + j < N then _ else (F (N + j - N)).block]? = _
            rw [if_neg hn, Nat.add_sub_cancel_left, q3]
            congr 2
            apply Array.ext'
            have hq : cs.toList[(F j).off]? = some (.string ⟨s.toArray⟩) := by rw [Array.getElem?_toList]; exact q4
            have := List.take_append_drop (F j).off cs.toList
            rw [List.drop_eq_getElem?_toList_append, hq] at this
            simpa using this.symm
          · show _ = if N + j < N then 0 else (F (N + j - N)).off
            rw [if_neg hn, Nat.add_sub_cancel_left]
            simp; omega
      · cases hm

theorem HR.laidS {P : Program} {tp : TypeId} {w : World} {laid : List (String × DataW Unit)} (h : laidMet P laid w) (hS : ∀ x ∈ laid, ∃ a, SentAt P tp w x a) {base : Nat} (hb : base ≤ w.heap.size) :
    ∃ θ, HR P base (Lt (P.globals.size + laid.length)) θ (laidHeap P tp laid) w := by
  obtain ⟨θ, h1, h2⟩ := Go.Am.laidS h hS
  exact ⟨θ, HR.givenD hb (by omega) h1 h2⟩
theorem HR.laid {P : Program} {tp : TypeId} (hT : ErrT P tp) {w : World} {laid : List (String × DataW Unit)} (h : laidMet P laid w) {base : Nat} (hb : base ≤ w.heap.size) :
    ∃ θ, HR P base (Lt (P.globals.size + laid.length)) θ (laidHeap P tp laid) w := HR.laidS h (fun x hx => sent_at hT h hx) hb
/-- is no listed variable an error? -/
def noSent (laid : List (String × DataW Unit)) : Bool := laid.all fun x => (sentText x.2).isNone
theorem HR.laidN {P : Program} {tp : TypeId} {w : World} {laid : List (String × DataW Unit)} (hn : noSent laid = true) (h : laidMet P laid w) {base : Nat} (hb : base ≤ w.heap.size) :
    ∃ θ, HR P base (Lt (P.globals.size + laid.length)) θ (laidHeap P tp laid) w := HR.laidS h (fun x hx => ⟨default, fun g t s h1 h2 h3 => by
      have := List.all_eq_true.1 hn x hx
      rw [h3] at this; cases this⟩) hb

def retTrue : Option (AEnd × Option Chain × AHeap) → Bool
  | some (.ret (.bool true), _, _) => true
  | _ => false
theorem retTrue_eq {o : Option (AEnd × Option Chain × AHeap)} (h : retTrue o = true) : ∃ u H', o = some (.ret (.bool true), u, H') := by
  unfold retTrue at h
  split at h
  · exact ⟨_, _, rfl⟩
  · cases h

theorem calls_closed {P : Program} (hP : PGood P) {tp : TypeId} (hT : ErrT P tp) {laid : List (String × DataW Unit)} {w : World} (h : laidMet P laid w) {f n : Nat} (hr : retTrue (acall (cProg P) n f [] none (laidHeap P tp laid)) = true) :
    Calls P f #[] w fun e w' => e = .returned (.bool true) ∧ Below w.heap.size w w' := by
  obtain ⟨u, H', hr⟩ := retTrue_eq hr
  obtain ⟨θ, hh⟩ := HR.laid hT h (Nat.zero_le _)
  refine (calls_of_acall hP hh .nil (fun b hb => hb) hr).mono fun e w' ⟨c, θ', he, hv, _, g⟩ => ⟨?_, g.below (given_heap _ _)⟩
  rw [he, ← hv.now]; rfl
/-- where no listed variable is an error -/
theorem calls_closedN {P : Program} (hP : PGood P) {tp : TypeId} {laid : List (String × DataW Unit)} (hn : noSent laid = true) {w : World} (h : laidMet P laid w) {f n : Nat} (hr : retTrue (acall (cProg P) n f [] none (laidHeap P tp laid)) = true) :
    Calls P f #[] w fun e w' => e = .returned (.bool true) ∧ Below w.heap.size w w' := by
  obtain ⟨u, H', hr⟩ := retTrue_eq hr
  obtain ⟨θ, hh⟩ := HR.laidN hn h (Nat.zero_le _)
  refine (calls_of_acall hP hh .nil (fun b hb => hb) hr).mono fun e w' ⟨c, θ', he, hv, _, g⟩ => ⟨?_, g.below (given_heap _ _)⟩
  rw [he, ← hv.now]; rfl
/-- where no variable is listed -/
theorem calls_closed0 {P : Program} (hP : PGood P) {w : World} {f n : Nat} (hr : retTrue (acall (cProg P) n f [] none (givenHeap [] P.globals.size)) = true) :
    Calls P f #[] w fun e w' => e = .returned (.bool true) ∧ Below w.heap.size w w' := by
  obtain ⟨u, H', hr⟩ := retTrue_eq hr
  have hh : HR P 0 (Lt P.globals.size) θ0 (givenHeap [] P.globals.size) w := HR.given (Nat.zero_le _) fun g l h => by cases h
  refine (calls_of_acall hP hh .nil (fun b hb => hb) hr).mono fun e w' ⟨c, θ', he, hv, _, g⟩ => ⟨?_, g.below (given_heap _ _)⟩
  rw [he, ← hv.now]; rfl
end Go.Am
