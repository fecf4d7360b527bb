/- EQUATIONS FOR GOING THROUGH CODE. -/
import Derived.Test.YtkfheegmlgfdoaaTAmVal
namespace Go.Am
set_option linter.unusedVariables false
set_option linter.unusedSimpArgs false
theorem look_cons (k t : Nat) (v : AV) (E : Env) (tm : T AV) : lookE ((k, v) :: E) t tm = if k = t then some v else lookE E t tm := by
  rw [← get_setsE, setsE_cons, T.get_set, get_setsE]
theorem args0 : argsT 0 [] .nil = setsE [] .nil := rfl
theorem args1 (a : AV) : argsT 0 [a] .nil = setsE [(0, a)] .nil := rfl
theorem args2 (a b : AV) : argsT 0 [a, b] .nil = setsE [(1, b), (0, a)] .nil := rfl
theorem args3 (a b c : AV) : argsT 0 [a, b, c] .nil = setsE [(2, c), (1, b), (0, a)] .nil := rfl
theorem args4 (a b c d : AV) : argsT 0 [a, b, c, d] .nil = setsE [(3, d), (2, c), (1, b), (0, a)] .nil := rfl
theorem args5 (a b c d e : AV) : argsT 0 [a, b, c, d, e] .nil = setsE [(4, e), (3, d), (2, c), (1, b), (0, a)] .nil := rfl
theorem args6 (a b c d e f : AV) : argsT 0 [a, b, c, d, e, f] .nil = setsE [(5, f), (4, e), (3, d), (2, c), (1, b), (0, a)] .nil := rfl
theorem BLK_exit' (id l : Nat) (st : St) (Q : Post) : BLK id Q (.exit l) st = if id = l then Q .normal st else Q (.exit l) st := by
  rw [BLK_exit]
  by_cases h : id = l
  · subst h; simp
  · rw [if_neg h, beq_false h]; rfl
theorem FIN_ret (AP : AProg) (rs : List ARes) (Q : AEnd → Option Chain → AHeap → Prop) (tm : T AV) (up : Option Chain) (H : AHeap) :
    FIN AP rs Q .ret ⟨tm, [], up, H⟩ = BI dirty (readRes H tm rs) fun _ l => Q (.ret (tupled l)) up H := by
  show BIND dirty _ _ = _
  refine Eq.symm ?_
  exact BI_eq fun g v => rfl
theorem FIN_normal (AP : AProg) (rs : List ARes) (Q : AEnd → Option Chain → AHeap → Prop) (tm : T AV) (up : Option Chain) (H : AHeap) :
    FIN AP rs Q .normal ⟨tm, [], up, H⟩ = BI dirty (readRes H tm rs) fun _ l => Q (.ret (tupled l)) up H := by
  show BIND dirty _ _ = _
  refine Eq.symm ?_
  exact BI_eq fun g v => rfl
theorem FIN_panic (AP : AProg) (rs : List ARes) (Q : AEnd → Option Chain → AHeap → Prop) (tm : T AV) (up : Option Chain) (H : AHeap) (c : Chain) :
    FIN AP rs Q (.panic c) ⟨tm, [], up, H⟩ = Q (.panic c) up H := propext Iff.rfl
theorem res_nil (H : AHeap) (tm : T AV) : readRes H tm [] = some [] := rfl
theorem res_tmp (H : AHeap) (tm : T AV) (t : Nat) (rs : List ARes) : readRes H tm (.tmp t :: rs) = (tm.get t).bind fun v => (readRes H tm rs).bind fun vs => some (v :: vs) := rfl
theorem res_cell1 (H : AHeap) (tm : T AV) (t : Nat) (rs : List ARes) : readRes H tm (.cell1 t :: rs) = (((tm.get t).bind fun v => Op.load1 [v] H)).bind fun v => (readRes H tm rs).bind fun vs => some (v :: vs) := by
  simp only [readRes, readRes1]
  congr 1; cases tm.get t with
  | none => rfl
  | some v => cases v <;> rfl
theorem res_cellN (H : AHeap) (tm : T AV) (n t : Nat) (rs : List ARes) : readRes H tm (.cellN n t :: rs) = (((tm.get t).bind fun v => Op.loadN n [v] H)).bind fun v => (readRes H tm rs).bind fun vs => some (v :: vs) := by
  simp only [readRes, readRes1]
  congr 1; cases tm.get t with
  | none => rfl
  | some v => cases v <;> rfl
theorem tup1 (v : AV) : tupled [v] = v := rfl
theorem tup0 : tupled [] = .tuple [] := rfl
theorem tup2 (a b : AV) (l : List AV) : tupled (a :: b :: l) = .tuple (a :: b :: l) := rfl
theorem keep_none (st : St) : keepT none st = st := rfl
theorem mkptr (b : Nat) : Op.ptrTo b = .ptr b 0 := rfl
theorem o_alloc (e : Nat) (z : List AV) : Op.alloc e z [] = some (.row z e (0, 0) true, Op.ptrTo) := rfl
theorem o_box (e : Nat) (v : AV) : Op.box e [v] = some (.row v.cells e (0, 0) true, Op.ptrTo) := rfl
theorem eqTy_agg (t : EqTree) (x y : AV) (H : AHeap) (q : Bool) (h : eqTree t x y = some q) : Op.eq (.agg t) true [x, y] H = some (.bool (!q)) := by simp [Op.eq, eqV, h]
theorem eqTy_agg' (t : EqTree) (x y : AV) (H : AHeap) (q : Bool) (h : eqTree t x y = some q) : Op.eq (.agg t) false [x, y] H = some (.bool q) := by simp [Op.eq, eqV, h]

theorem st_tm (tm : T AV) (dfs : List ADef) (up : Option Chain) (H : AHeap) : (St.mk tm dfs up H).tm = tm := rfl
theorem st_dfs (tm : T AV) (dfs : List ADef) (up : Option Chain) (H : AHeap) : (St.mk tm dfs up H).dfs = dfs := rfl
theorem st_up (tm : T AV) (dfs : List ADef) (up : Option Chain) (H : AHeap) : (St.mk tm dfs up H).up = up := rfl
theorem st_H (tm : T AV) (dfs : List ADef) (up : Option Chain) (H : AHeap) : (St.mk tm dfs up H).H = H := rfl
/-- behind a loop over a function -/
theorem FIN_coll (AP : AProg) (rs : List ARes) (Q : AEnd → Option Chain → AHeap → Prop) (tm : T AV) (d : Nat) (ds : List ADef) (up : Option Chain) (H : AHeap) (e : AExit) (he : e = .normal ∨ e = .ret) (hd : H.get d = some (.deferred (some []))) :
    FIN AP rs Q e ⟨tm, .coll d :: ds, up, H⟩ = FIN AP rs Q e ⟨tm, ds, up, H.set d (.deferred none)⟩ := by
  rcases he with rfl | rfl <;> simp [FIN, UNW, hd]

/-! ### events -/
structure Evt where
  kind : Int
  time : Int
  core : Int
  block : Int
  try' : Int
  lane : Int
  addr : Int
  value : Int
  code : Int
deriving DecidableEq
def Evt.enc (x : Evt) : List AV := [.int .i64 x.kind, .int .i64 x.time, .int .i64 x.core, .int .i64 x.block, .int .i64 x.try', .int .i64 x.lane, .int .i64 x.addr, .int .u64 x.value, .int .i64 x.code]
theorem Evt.len (x : Evt) : x.enc.length = 9 := rfl
abbrev evTree : EqTree := .part 0 none .int (.part 1 none .int (.part 2 none .int (.part 3 none .int (.part 4 none .int (.part 5 none .int (.part 6 none .int (.part 7 none .int (.part 8 none .int .nil))))))))
theorem eqI_dec (a b : Int) : eqI a b = decide (a = b) := by rw [eqI_eq]; rfl
theorem ev_eq (x y : Evt) : eqTree evTree (.agg x.enc) (.agg y.enc) = some (decide (x = y)) := by
  obtain ⟨a1, a2, a3, a4, a5, a6, a7, a8, a9⟩ := x
  obtain ⟨b1, b2, b3, b4, b5, b6, b7, b8, b9⟩ := y
  simp only [evTree, eqTree, partAt, nth_eq, Evt.enc, List.getElem?_cons_zero, List.getElem?_cons_succ, Option.bind_some, eqK, kindN, Nat.beq, cond_true, eqI_dec, Evt.mk.injEq]
  by_cases h1 : a1 = b1
  · by_cases h2 : a2 = b2
    · by_cases h3 : a3 = b3
      · by_cases h4 : a4 = b4
        · by_cases h5 : a5 = b5
          · by_cases h6 : a6 = b6
            · by_cases h7 : a7 = b7
              · by_cases h8 : a8 = b8
                · by_cases h9 : a9 = b9
                  · simp [h1, h2, h3, h4, h5, h6, h7, h8, h9]
                  · simp [h1, h2, h3, h4, h5, h6, h7, h8, h9]
                · simp [h1, h2, h3, h4, h5, h6, h7, h8]
              · simp [h1, h2, h3, h4, h5, h6, h7]
            · simp [h1, h2, h3, h4, h5, h6]
          · simp [h1, h2, h3, h4, h5]
        · simp [h1, h2, h3, h4]
      · simp [h1, h2, h3]
    · simp [h1, h2]
  · simp [h1]
theorem ev_ne (x y : Evt) (H : AHeap) : Op.eq (.agg (.part 0 none .int (.part 1 none .int (.part 2 none .int (.part 3 none .int (.part 4 none .int (.part 5 none .int (.part 6 none .int (.part 7 none .int (.part 8 none .int .nil)))))))))) true [.agg x.enc, .agg y.enc] H = some (.bool (!decide (x = y))) := eqTy_agg _ _ _ H _ (ev_eq x y)
end Go.Am
