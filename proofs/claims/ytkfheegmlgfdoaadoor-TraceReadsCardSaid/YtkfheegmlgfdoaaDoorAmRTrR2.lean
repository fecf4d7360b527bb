/- TrR2: TwC TwD TwG TwH RdA RdB RdC. -/
import Derived.Test.YtkfheegmlgfdoaaDoorAmRTrR1
import Derived.Test.YtkfheegmlgfdoaaDoorAmRCodeR
set_option linter.unusedVariables false
set_option linter.unusedSimpArgs false
set_option linter.unusedSectionVars false
set_option maxRecDepth 100000
namespace Go.Am
open Tr
open Lang (dec)
variable {M : Mac} [MK M]
abbrev NewW := New encS qm 1
def Wds (H0 H : AHeap) (v : AV) (ws : List B) : Prop := NewW H0 H v ws ∨ (Fr Em H0 H ∧ 0 < ws.length ∧ ∃ b, v = .slice b 0 ws.length ws.length ∧ H.get b = some (OR (ws.map AV.str) qm) ∧ H0.next ≤ b ∧ b < H.next)
theorem Wds.em {H0 H H' : AHeap} {v : AV} {ws : List B} (h : Wds H0 H v ws) (f : Fr Em H H') : Wds H0 H' v ws := by
  rcases h with h | ⟨h, h0, b, rfl, h2, h3, h4⟩
  · exact .inl (h.em f)
  · exact .inr ⟨h.em f, h0, b, rfl, by rw [f.keep b h4 id, h2], h3, Nat.lt_of_lt_of_le h4 f.next⟩
theorem Wds.lo {H0 H : AHeap} {v : AV} {ws : List B} (h : Wds H0 H v ws) : ∀ x, OnS v x → H0.next ≤ x ∧ x < H.next := by
  rcases h with h | ⟨h, h0, b, rfl, h2, h3, h4⟩
  · exact fun x hx => ⟨h.fresh x hx, Own.lt h.own x hx⟩
  · rintro x ⟨_, rfl⟩; exact ⟨h3, h4⟩
theorem Wds.setOff {H0 H : AHeap} {v : AV} {ws : List B} (h : Wds H0 H v ws) {b : Nat} (hb : H0.next ≤ b) (hn : ¬ OnS v b) (o : AObj) : Wds H0 (H.set b o) v ws := by
  rcases h with h | ⟨h, h0, c, rfl, h2, h3, h4⟩
  · exact .inl (h.setOff hb hn o)
  · exact .inr ⟨h.set (.inr hb) _, h0, c, rfl, by rw [qr (fun q => hn ⟨by simp, by rw [q]; rfl⟩), h2], h3, h4⟩
theorem Wds.sl {H0 H : AHeap} {v : AV} {ws : List B} (h : Wds H0 H v ws) : SlT encS 1 H v ws := by
  rcases h with h | ⟨h, h0, b, rfl, h2, h3, h4⟩
  · exact h.sl
  · unfold SlT
    rw [qhe]
    exact ⟨by simp, rfl, Nat.le_refl _, .inr ⟨h4, _, zo h2, by rw [jb, if_pos (by simp), Nat.mul_one, List.drop_zero, List.take_of_length_le (by simp)]⟩⟩
theorem app_row {H : AHeap} {b : Nat} {ws : List B} {a : B} (hb : H.get b = some (OR (ws.map AV.str) qm)) (hlt : b < H.next) (h0 : 0 < ws.length) (hs : ws.length < 1000000) :
    Op.append qm 1 16 [.slice b 0 ws.length ws.length, .slice H.next 0 1 1] (H.alloc (OR [.str a] qm)) = some (.gslice (H.next + 1) 0 (ws.length + 1) 1 0 (ws.length + 1), (H.alloc (OR [.str a] qm)).alloc (.grown (ws.length + 1) 1 ((ws ++ [a]).map AV.str) qm (0, 0))) := by
  have e1 : firstCells (H.alloc (OR [.str a] qm)) 1 1 (.slice H.next 0 1 1) = some [.str a] := by
    have : Nat.beq 1 0 = false := rfl
    simp only [firstCells, this, cond_false]
    rw [qtl (zo (qn ..)) (by simp)]; rfl
  have e2 : firstCells (H.alloc (OR [.str a] qm)) 1 ws.length (.slice b 0 ws.length ws.length) = some (ws.map AV.str) := by
    simp only [firstCells, vq (show ws.length ≠ 0 by omega), cond_false]
    rw [qtl (zo (by rw [zd hlt]; exact hb)) (by simp), Nat.mul_one, List.drop_zero, List.take_of_length_le (by simp)]
  have e3 : Nat.ble (ws.length + 1) ws.length = false := by
    cases q : Nat.ble (ws.length + 1) ws.length with
    | false => rfl
    | true => have := Nat.le_of_ble_eq_true q; omega
  have e4 : fits (ws.length + 1) 16 = true := q1p (by omega) (by omega)
  simp only [Op.append, lenV, Option.bind_some, e1, qom, qol, qqy, cond_true, appendV, e3, cond_false, e4, qam (Nat.le_add_right ws.length 1), qdr (show 0 < 1 by decide), Bool.and_self, e2, kv, grownV, z6]
  simp
theorem Wds.app {H0 H : AHeap} {v : AV} {ws : List B} (h : Wds H0 H v ws) {a : B} (hs : ws.length < 1000000) {K : AObj → (Nat → AV) → Bool → AV → AHeap → Prop} {m : Bool}
    (hk : ∀ v' H', NewW H0 H' v' (ws ++ [a]) → Aft v H v' H' → K (.row (AV.str a).cells qm (0, 0) true) (Op.sliceTo 1 1) m v' H') :
    B32 m (Op.buildSlice qm 1 [.str []] [(0, 1)] [.str a]) fun g o mk => B32 g (Op.append qm 1 16 [v, mk H.next] (H.alloc o)) (K o mk) := by
  rcases h with h | ⟨hf, h0, b, rfl, h2, h3, h4⟩
  · exact h.app4 (bytes := 16) (a := a) rfl rfl rfl rfl (by decide) (by omega) (by omega) hk
  · have e0 : Op.buildSlice qm 1 [.str []] [(0, 1)] [.str a] = some (.row [.str a] qm (0, 0) true, Op.sliceTo 1 1) := rfl
    refine B32.intro e0 (B32.intro (app_row h2 h4 h0 hs) (hk _ _ ⟨⟨?_, .inr ⟨H.next + 1, ?_, ?_, ?_⟩⟩, (hf.alloc _).alloc _, ?_⟩ ⟨(((Fr.refl H).alloc _).alloc _), ?_⟩))
    · rw [qhe]; simp
    · rw [List.length_append]; rfl
    · rw [z6, z6]; omega
    · have := qn (H.alloc (OR [.str a] qm)) (.grown (ws.length + 1) 1 ((ws ++ [a]).map AV.str) qm (0, 0))
      rw [z6] at this
      rw [this, qhe, List.length_append]; rfl
    · rintro x ⟨_, rfl⟩; have := hf.next; show H0.next ≤ H.next + 1; omega
    · rintro x ⟨_, rfl⟩; right; show H.next ≤ H.next + 1; omega
theorem Tab.pt {H : AHeap} (h : Tab H) : PowT H ∧ xx < H.next := ⟨h.pow, by have := h.lt; show 2 < H.next; omega⟩
theorem Tab.kd {H : AHeap} (h : Tab H) {k : Int} (h1 : 1 ≤ k) (h2 : k ≤ 8) : Op.indexArr 9 1 [.ptr qbg 0, .int .i64 k] = some (.ptr qbg k.toNat) ∧ Op.load1 [.ptr qbg k.toNat] H = some (.str (kword k)) := by
  refine ⟨by rw [qlj (i := k.toNat) (by omega) (by omega), Nat.zero_add, Nat.mul_one], ?_⟩
  rw [yv h.kinds, List.getElem?_map, List.getElem?_range (by omega)]
  show some (AV.str (kword (k.toNat : Nat))) = _
  rw [show ((k.toNat : Nat) : Int) = k by omega]
def lineW (x : Evt) : List B := [dec x.time.toNat, dec x.core.toNat, kword x.kind] ++ (named x.kind).map (wordB x)
theorem qqv (l : UInt8) : (wordsOf l).length ≤ 9 := by unfold wordsOf; (repeat' split) <;> decide
end Go.Am
namespace Go.Am
open Tr
open Lang (dec)
variable {M : Mac} [MK M]
def TxtW (h : List Evt) : List B := h.map fun x => lineB x ++ [10]
def AllSQ (h : List Evt) (H : AHeap) (v : AV) (H' : AHeap) : Prop := Fr Em H H' ∧ ((h.all fineB = true ∧ ∃ w, v = .tuple [w, .int .i64 0] ∧ NewW H H' w (TxtW h)) ∨ (h.all fineB = false ∧ v = .tuple [.nils, .int .i64 2]))
def TextQ (h : List Evt) (H : AHeap) (v : AV) (H' : AHeap) : Prop := Fr Em H H' ∧ ((h.all fineB = true ∧ v = .tuple [.str (textB h), .int .i64 0]) ∨ (h.all fineB = false ∧ v = .tuple [.str [], .int .i64 2]))
end Go.Am
namespace Go.Am
variable {M : Mac} [MK M]
theorem Evt.one (x : Evt) : allOne x.enc = true := rfl
abbrev NewE := New Evt.enc qb 9
theorem qwf {H : AHeap} {a b : AV} {xs ys : List Evt} (ha : SlT Evt.enc 9 H a xs) (hb : SlT Evt.enc 9 H b ys) (hl : xs.length < 1000000) :
    CALLQ M vc [a, b] H fun v H' => v = .bool (decide (xs = ys)) ∧ H' = H := by
  refine qwk ?_
  by_cases hne : xs.length = ys.length
  · have e0 : ¬ ((xs.length : Nat) : Int) ≠ (ys.length : Nat) := by omega
    simp only [↓JN_eq, CTL3, OPS3, cast0, reduceIte, Nat.reduceEqDiff, qaz, ha.len, hb.len, hne]
    refine LOOP3.intro (fun n E H' => ∃ i, H' = H ∧ E = [(0, a), (1, b), (5, .int .i64 (i : Nat))] ∧ n = xs.length - i ∧ i ≤ xs.length ∧ ∀ j, j < i → xs[j]? = ys[j]?) ?_ ?_
    · exact ⟨_, _, ⟨0, rfl, rfl, rfl, by omega, fun j hj => by omega⟩, by simp only [↓JN_eq, CTL3, OPS3, cast0, reduceIte, Nat.reduceEqDiff]⟩
    rintro n E H' ⟨i, rfl, rfl, rfl, hi, hj⟩
    simp only [↓JN_eq, CTL3, OPS3, cast0, reduceIte, Nat.reduceEqDiff, qaz, ha.len]
    refine IF3.dec (fun hlt => ?_) (fun hge => ?_)
    · have hlt : i < xs.length := by omega
      obtain ⟨x, hx⟩ : ∃ x, xs[i]? = some x := ⟨xs[i], by simp [hlt]⟩
      obtain ⟨y, hy⟩ : ∃ y, ys[i]? = some y := ⟨ys[i]'(by omega), by simp [show i < ys.length by omega]⟩
      have ew : wrapI .i64 ((i : Nat) + 1 : Int) = ((i + 1 : Nat) : Int) := xc (by omega) (by omega)
      by_cases hxy : x = y
      · simp only [↓JN_eq, CTL3, OPS3, cast0, reduceIte, Nat.reduceEqDiff, qaz, ha.idx hx rfl, hb.idx hy rfl, ha.loadN Evt.len (by omega) hx, hb.loadN Evt.len (by omega) hy, ev_ne, hxy, ew]
        refine ⟨_, _, ⟨i + 1, rfl, rfl, by omega, fun j hj' => ?_⟩, by simp only [↓JN_eq, CTL3, OPS3, cast0, reduceIte, Nat.reduceEqDiff], by omega⟩
        rcases Nat.lt_succ_iff_lt_or_eq.1 hj' with q | rfl
        · exact hj j q
        · rw [hx, hy, hxy]
      · simp only [↓JN_eq, CTL3, OPS3, cast0, reduceIte, Nat.reduceEqDiff, qaz, ha.idx hx rfl, hb.idx hy rfl, ha.loadN Evt.len (by omega) hx, hb.loadN Evt.len (by omega) hy, ev_ne, hxy]
        have : xs ≠ ys := fun h => by subst h; rw [hx] at hy; injection hy with hy; exact hxy hy
        simp [this]
    · simp only [↓JN_eq, CTL3, OPS3, cast0, reduceIte, Nat.reduceEqDiff, qaz]
      have : xs = ys := List.ext_getElem? fun j => by
        by_cases q : j < i
        · exact hj j q
        · rw [List.getElem?_eq_none (by omega), List.getElem?_eq_none (by omega)]
      simp [this]
  · have e0 : ((xs.length : Nat) : Int) ≠ (ys.length : Nat) := by omega
    simp only [↓JN_eq, CTL3, OPS3, cast0, reduceIte, Nat.reduceEqDiff, qaz, ha.len, hb.len, e0]
    have : xs ≠ ys := fun h => hne (by rw [h])
    simp [this]
end Go.Am
namespace Go.Am
open Tr
variable {M : Mac} [MK M]
def eN (h : List Evt) : Int := if h.all fineB = true then 0 else 2
def eB (h : List Evt) : B := if h.all fineB = true then h.flatMap encE else []
def tB (h : List Evt) : B := if h.all fineB = true then textB h else []
end Go.Am
namespace Go.Am
open Tr
variable {M : Mac} [MK M]
theorem and127 (c : UInt8) : Op.bin .and [.int .u8 (c.toNat : Int), .int .u8 127] = some (.int .u8 ((c.toNat % 128 : Nat) : Int)) := by
  have key : ∀ n : Fin 256, wrapI .u8 ((BitVec.ofInt 8 ((n.1 : Nat) : Int) &&& BitVec.ofInt 8 127).toNat : Int) = ((n.1 % 128 : Nat) : Int) := by decide +kernel
  have := key ⟨c.toNat, c.toNat_lt⟩
  show some (AV.int .u8 (wrapI .u8 ((BitVec.ofInt 8 ((c.toNat : Nat) : Int) &&& BitVec.ofInt 8 127).toNat : Int))) = _
  rw [this]
theorem or_add {a b i : Nat} (ha : a < 2 ^ i) (hb : 2 ^ i ∣ b) (hs : a + b < 18446744073709551616) : Op.bin .or [.int .u64 (a : Int), .int .u64 (b : Int)] = some (.int .u64 ((a + b : Nat) : Int)) := by
  show some (AV.int .u64 (wrapI .u64 ((BitVec.ofInt 64 (a : Int) ||| BitVec.ofInt 64 (b : Int)).toNat : Int))) = _
  have h1 : (BitVec.ofInt 64 (a : Int)).toNat = a := by simp [BitVec.toNat_ofInt]; omega
  have h2 : (BitVec.ofInt 64 (b : Int)).toNat = b := by simp [BitVec.toNat_ofInt]; omega
  obtain ⟨c, rfl⟩ := hb
  have h3 : a ||| 2 ^ i * c = a + 2 ^ i * c := by
    rw [Nat.or_comm, ← Nat.two_pow_add_eq_or_of_lt ha]; omega
  rw [BitVec.toNat_or, h1, h2, h3, qeo (by omega) (by omega)]
theorem shl_nat {a n : Nat} (hn : n ≤ 64) (h : a * 2 ^ n < 18446744073709551616) : Op.bin .shl [.int .u64 (a : Int), .int .i64 (n : Int)] = some (.int .u64 ((a * 2 ^ n : Nat) : Int)) := by
  have e : IntKind.bits .u64 = 64 := rfl
  rw [o_shl, e, Nat.min_eq_left hn]
  have : (a : Int) * 2 ^ n = ((a * 2 ^ n : Nat) : Int) := by simp
  rw [this, qeo (by omega) (by omega)]
theorem pow7 (k : Nat) : 2 ^ (7 * k) = 128 ^ k := by rw [Nat.pow_mul]
structure Rd (H : AHeap) (p : Nat) (bs : B) : Prop where
  row : ∃ w e, H.get p = some (OR [w] e) ∧ SlT encB 1 H w bs ∧ (w = .nils ∨ slB w < p)
  lt : p < H.next
theorem Rd.em {H H' : AHeap} {p : Nat} {bs : B} (h : Rd H p bs) (f : Fr Em H H') : Rd H' p bs := by
  obtain ⟨⟨w, e, h1, h2, h3⟩, h4⟩ := h
  exact ⟨⟨w, e, by rw [f.keep p h4 (fun q => q), h1], h2.em f, h3⟩, Nat.lt_of_lt_of_le h4 f.next⟩
theorem Rd.off {H H' : AHeap} {p b : Nat} {bs : B} (h : Rd H p bs) (f : Fr (On b) H H') (hb : p < b) : Rd H' p bs := by
  obtain ⟨⟨w, e, h1, h2, h3⟩, h4⟩ := h
  refine ⟨⟨w, e, by rw [f.keep p h4 (fun (q : p = b) => by omega), h1], ?_, h3⟩, Nat.lt_of_lt_of_le h4 f.next⟩
  rcases h3 with rfl | h3
  · exact ⟨h2.1, h2.2⟩
  · exact SlT.fr h2 f fun (q : slB w = b) => by omega
def TkQ (H : AHeap) (p : Nat) (bs : B) (v : AV) (H' : AHeap) : Prop := Fr (On p) H H' ∧ ∃ (n : Nat) (ok : Bool) (r : B), v = .tuple [.int .u64 (n : Nat), .bool ok] ∧ n < 18446744073709551616 ∧ Rd H' p r ∧ r.length ≤ bs.length ∧ (ok = true → takeB bs = some (n, r)) ∧ (ok = false → takeB bs = none)
def soFar (bs : B) : Nat → Nat
  | 0 => 0
  | i + 1 => soFar bs i + (match bs[i]? with | some c => c.toNat % 128 * 128 ^ i | none => 0)
theorem qsw (bs : B) : ∀ i, soFar bs i < 128 ^ i
  | 0 => by simp [soFar]
  | i + 1 => by
    have ih := qsw bs i
    rw [soFar, Nat.pow_succ]
    cases bs[i]? with
    | none => simp only; have : 0 < 128 ^ i := Nat.pow_pos (by decide); omega
    | some c =>
      simp only
      have : c.toNat % 128 * 128 ^ i ≤ 127 * 128 ^ i := Nat.mul_le_mul_right _ (by omega)
      omega
theorem qy4 {bs : B} {i : Nat} {c : UInt8} (h : bs[i]? = some c) : takeGo i (soFar bs i) (bs.drop i) = if i = 10 ∨ i = 9 ∧ 1 < c.toNat then none else if c.toNat < 128 then (if i = 0 ∨ 0 < c.toNat then some (soFar bs (i + 1), bs.drop (i + 1)) else none) else takeGo (i + 1) (soFar bs (i + 1)) (bs.drop (i + 1)) := by
  have hi : i < bs.length := (List.getElem?_eq_some_iff.1 h).1
  have hd : bs.drop i = c :: bs.drop (i + 1) := by rw [List.drop_eq_getElem_cons hi]; congr 1; simpa [hi] using h
  rw [hd, takeGo, soFar, h]
theorem take19 {E : Env} {H : AHeap} {Q : Post3} {i : Nat} {c : UInt8} (e5 : lk E 5 = some (.int .i64 (i : Int))) (e6 : lk E 6 = some (.int .u8 c.toNat))
    (hb : (i = 10 ∨ i = 9 ∧ 1 < c.toNat) → Q .ret ((3, .bool false) :: (2, .int .u64 0) :: E) [] H) (hg : ¬ (i = 10 ∨ i = 9 ∧ 1 < c.toNat) → W M ⟨none, jh⟩ (xz 27) true Q E [] H) :
    W M ⟨none, jh⟩ (xz 19) true Q E [] H := by
  obtain ⟨-, -, -, -, -, -, w19, -⟩ := qe5 M ⟨none, jh⟩
  by_cases h10 : i = 10
  · subst h10
    have e5 : lk E 5 = some (.int .i64 10) := e5
    simp only [↓JN_eq, CTL3, OPS3, cast0, reduceIte, Nat.reduceEqDiff, w19, e5]
    exact hb (.inl rfl)
  have n10 : ¬ (i : Int) = 10 := by omega
  by_cases h9 : i = 9
  · subst h9
    have e5 : lk E 5 = some (.int .i64 9) := e5
    by_cases hc : 1 < c.toNat
    · have h1 : (1 : Int) < (c.toNat : Int) := by omega
      simp only [↓JN_eq, CTL3, OPS3, cast0, reduceIte, Nat.reduceEqDiff, w19, e5, e6, h1, Int.reduceEq]
      exact hb (.inr ⟨rfl, hc⟩)
    · have h1 : ¬ (1 : Int) < (c.toNat : Int) := by omega
      simp only [↓JN_eq, CTL3, OPS3, cast0, reduceIte, Nat.reduceEqDiff, w19, e5, e6, h1, Int.reduceEq]
      exact hg (fun q => q.elim (by omega) fun q => hc q.2)
  · have n9 : ¬ (i : Int) = 9 := by omega
    simp only [↓JN_eq, CTL3, OPS3, cast0, reduceIte, Nat.reduceEqDiff, w19, e5, n10, n9]
    exact hg (fun q => q.elim h10 fun q => h9 q.1)
theorem qpj {H : AHeap} {p : Nat} {bs : B} (h : Rd H p bs) (hl : bs.length < 1000000) : CALLQ M jh [.ptr p 0] H (TkQ H p bs) := by
  refine qvb ?_
  obtain ⟨⟨w, e, h1, h2, h3⟩, h4⟩ := h
  have l1 : Op.load1 [.ptr p 0] H = some w := by rw [yv (zo h1)]; rfl
  simp only [↓JN_eq, CTL3, OPS3, cast0, reduceIte, Nat.reduceEqDiff, qe5, qa1, l1, h2.len]
  refine LOOP3.intro (fun n E H' => ∃ i, H' = H ∧ E = [(9, w), (10, .int .i64 bs.length), (11, .int .i64 (i : Nat)), (4, .int .u64 (soFar bs i : Nat)), (0, .ptr p 0)] ∧ n = bs.length - i ∧ i ≤ bs.length ∧ i ≤ 10 ∧ takeGo i (soFar bs i) (bs.drop i) = takeB bs) ?_ ?_
  · exact ⟨_, _, ⟨0, rfl, rfl, rfl, by omega, by omega, rfl⟩, by simp only [↓JN_eq, CTL3, OPS3, cast0, reduceIte, Nat.reduceEqDiff]; rfl⟩
  rintro n E H' ⟨i, rfl, rfl, rfl, hi, hi10, hgo⟩
  rcases Nat.lt_or_ge i bs.length with hlt | hge
  · obtain ⟨c, hc⟩ : ∃ c, bs[i]? = some c := ⟨bs[i], by simp [hlt]⟩
    have e1 : (i : Int) < (bs.length : Nat) := by omega
    rw [qy4 hc] at hgo
    have ek : wrapI .i64 ((i : Int) + 1) = ((i + 1 : Nat) : Int) := by rw [xc (by omega) (by omega)]; omega
    have hrd : Rd H' p bs := ⟨⟨w, e, h1, h2, h3⟩, h4⟩
    have lx : Op.load1 [.ptr (slB w) (slO 1 w i)] H' = some (.int .u8 c.toNat) := by rw [h2.load0 qdl hc (by omega)]; rfl
    obtain ⟨-, -, w39, w9, w15, w38, -, w27⟩ := qe5 M ⟨none, jh⟩
    simp only [↓JN_eq, CTL3, OPS3, cast0, reduceIte, Nat.reduceEqDiff, w9, w15, e1, h2.idx hc rfl, lx]
    refine take19 rfl rfl (fun hbad => ?_) fun hok => ?_
    · rw [if_pos hbad] at hgo
      simp only [↓JN_eq, CTL3, OPS3, cast0, reduceIte, Nat.reduceEqDiff]
      exact ⟨Fr.refl _, 0, false, bs, rfl, by omega, hrd, Nat.le_refl _, (fun q => nomatch q), fun _ => hgo.symm⟩
    rw [if_neg hok] at hgo
    have hsf := qsw bs i
    have hstep : soFar bs (i + 1) = soFar bs i + c.toNat % 128 * 128 ^ i := by rw [soFar, hc]
    have hi9 : i ≤ 9 := by omega
    have hbig : soFar bs i + c.toNat % 128 * 128 ^ i < 18446744073709551616 := by
      by_cases h9 : i = 9
      · subst h9
        have : (128 : Nat) ^ 9 = 9223372036854775808 := by decide
        rw [this] at hsf ⊢
        have : c.toNat ≤ 1 := by omega
        omega
      · have hp : 128 ^ i ≤ 72057594037927936 := by
          have : 128 ^ i ≤ 128 ^ 8 := Nat.pow_le_pow_right (by decide) (by omega)
          exact Nat.le_trans this (by decide)
        have : c.toNat % 128 * 128 ^ i ≤ 127 * 72057594037927936 := Nat.mul_le_mul (by omega) hp
        omega
    have w7 : wrapI .u64 ((c.toNat % 128 : Nat) : Int) = ((c.toNat % 128 : Nat) : Int) := w_u64 (by omega)
    have m7 : wrapI .i64 (7 * (i : Int)) = ((7 * i : Nat) : Int) := by rw [xc (by omega) (by omega)]; omega
    have s7 : Op.bin .shl [.int .u64 ((c.toNat % 128 : Nat) : Int), .int .i64 ((7 * i : Nat) : Int)] = some (.int .u64 ((c.toNat % 128 * 128 ^ i : Nat) : Int)) := by
      rw [shl_nat (by omega) (by rw [pow7]; omega), pow7]
    have r7 : Op.bin .or [.int .u64 ((soFar bs i : Nat) : Int), .int .u64 ((c.toNat % 128 * 128 ^ i : Nat) : Int)] = some (.int .u64 ((soFar bs (i + 1) : Nat) : Int)) := by
      rw [or_add (i := 7 * i) (by rw [pow7]; exact hsf) (by rw [pow7]; exact Nat.dvd_mul_left ..) hbig, hstep]
    by_cases h128 : c.toNat < 128
    · have e4 : (c.toNat : Int) < 128 := by omega
      rw [if_pos h128] at hgo
      obtain ⟨w2, hs2, hsl2, hor⟩ := h2.from qdl (k := i + 1) (by omega) (z := ((i + 1 : Nat) : Int)) rfl .i64
      have hone : oneCell w2 = true := SlT.one hsl2
      have hcl : AV.cells w2 = [w2] := by cases w2 <;> first | rfl | cases hone
      have hst : Op.store 1 [.ptr p 0, w2] H' = some (.undef, H'.set p (OR [w2] e)) := by
        rw [qbl (o := 0) (n := 1) (v := w2) h1 (by rw [hcl]; rfl) (by simp) (by rw [hcl, qaq]; simp [hone])]
        simp [hcl]
      have hap : w2 = .nils ∨ slB w2 < p := hor.imp id fun q => by
        rcases h3 with rfl | h3
        · have h20 := h2.2
          have : bs.length = 0 := h20
          omega
        · omega
      have hrd2 : Rd (H'.set p (OR [w2] e)) p (bs.drop (i + 1)) := by
        refine ⟨⟨w2, e, ql .., ?_, hap⟩, h4⟩
        rcases hap with rfl | hap
        · exact ⟨hsl2.1, hsl2.2⟩
        · exact SlT.fr hsl2 ((Fr.refl H').set (W := On p) (.inl rfl) _) fun (q : slB w2 = p) => by omega
      have hlt64 : soFar bs (i + 1) < 18446744073709551616 := by omega
      have hfr : Fr (On p) H' (H'.set p (OR [w2] e)) := (Fr.refl H').set (W := On p) (.inl rfl) _
      by_cases hi0 : i = 0
      · subst hi0
        rw [if_pos (.inl rfl)] at hgo
        have z0 : ((0 : Nat) : Int) = 0 := rfl
        rw [z0] at m7 s7 ek
        have hs2' : Op.sliceSl 1 [some 0, none, none] [w, .int .i64 ((0 + 1 : Nat) : Int)] = some w2 := hs2
        simp only [↓JN_eq, CTL3, OPS3, cast0, reduceIte, Nat.reduceEqDiff, w27, and127, w7, m7, s7, r7, e4, qa1, l1, ek, hs2', hst]
        exact ⟨hfr, _, true, _, rfl, hlt64, hrd2, by rw [List.length_drop]; omega, fun _ => hgo.symm, (fun q => nomatch q)⟩
      · have e0 : ¬ (i : Int) = 0 := by omega
        by_cases hc0 : 0 < c.toNat
        · have e6 : (0 : Int) < (c.toNat : Int) := by omega
          rw [if_pos (.inr hc0)] at hgo
          simp only [↓JN_eq, CTL3, OPS3, cast0, reduceIte, Nat.reduceEqDiff, w27, and127, w7, m7, s7, r7, e4, qa1, l1, ek, hs2, hst, e0, e6]
          exact ⟨hfr, _, true, _, rfl, hlt64, hrd2, by rw [List.length_drop]; omega, fun _ => hgo.symm, (fun q => nomatch q)⟩
        · have e6 : ¬ (0 : Int) < (c.toNat : Int) := by omega
          rw [if_neg (fun q => q.elim hi0 hc0)] at hgo
          simp only [↓JN_eq, CTL3, OPS3, cast0, reduceIte, Nat.reduceEqDiff, w27, and127, w7, m7, s7, r7, e4, qa1, l1, ek, hs2, hst, e0, e6]
          exact ⟨hfr, _, false, _, rfl, hlt64, hrd2, by rw [List.length_drop]; omega, (fun q => nomatch q), fun _ => hgo.symm⟩
    · have e4 : ¬ (c.toNat : Int) < 128 := by omega
      rw [if_neg h128] at hgo
      simp only [↓JN_eq, CTL3, OPS3, cast0, reduceIte, Nat.reduceEqDiff, w27, w38, and127, w7, m7, s7, r7, e4, ek]
      exact ⟨_, _, ⟨i + 1, rfl, rfl, by omega, by omega, hgo⟩, by simp only [↓JN_eq, CTL3, OPS3, cast0, reduceIte, Nat.reduceEqDiff], by omega⟩
  · have hi : i = bs.length := by omega
    subst hi
    have e1 : ¬ ((bs.length : Nat) : Int) < (bs.length : Nat) := by omega
    simp only [↓JN_eq, CTL3, OPS3, cast0, reduceIte, Nat.reduceEqDiff, qe5, e1]
    rw [List.drop_length, takeGo] at hgo
    exact ⟨Fr.refl _, 0, false, bs, rfl, by omega, ⟨⟨w, e, h1, h2, h3⟩, h4⟩, Nat.le_refl _, (fun q => nomatch q), fun _ => hgo.symm⟩
end Go.Am
namespace Go.Am
open Tr
variable {M : Mac} [MK M]
theorem Tab.off {H H' : AHeap} {p : Nat} (h : Tab H) (f : Fr (On p) H H') (hp : 10 ≤ p) : Tab H' := by
  have hl := h.lt
  exact ⟨Nat.le_trans hl f.next, (f.cells (show (0 : Nat) < H.next by omega) (fun (q : 0 = p) => by omega)).trans h.named, (f.cells (show (1 : Nat) < H.next by omega) (fun (q : 1 = p) => by omega)).trans h.kinds, (f.cells (show (2 : Nat) < H.next by omega) (fun (q : 2 = p) => by omega)).trans h.pow⟩
def zE : Evt := ⟨0, 0, 0, 0, 0, 0, 0, 0, 0⟩
theorem qe4 : zE.enc = [.int .i64 0, .int .i64 0, .int .i64 0, .int .i64 0, .int .i64 0, .int .i64 0, .int .i64 0, .int .u64 0, .int .i64 0] := rfl
def EvQ (H : AHeap) (p : Nat) (bs : B) (v : AV) (H' : AHeap) : Prop := Fr (On p) H H' ∧ ∃ (y : Evt) (ok : Bool) (r : B), v = .tuple [.agg y.enc, .bool ok] ∧ Rd H' p r ∧ r.length ≤ bs.length ∧ (ok = true → oneB bs = some (y, r)) ∧ (ok = false → oneB bs = none)
theorem st_ev {H : AHeap} {b : Nat} {x y : Evt} (h : H.get b = some (OR x.enc qb)) : Op.store 9 [.ptr b 0, .agg y.enc] H = some (.undef, H.set b (OR y.enc qb)) := by
  rw [qbl (o := 0) (n := 9) (v := .agg y.enc) h rfl (by rw [ev9]; omega) (Evt.one y)]; rfl
theorem ld_ev {H : AHeap} {b : Nat} {x : Evt} (h : H.get b = some (OR x.enc qb)) : Op.loadN 9 [.ptr b 0] H = some (.agg x.enc) := by
  rw [qy2 (c := x.enc) (zo h) (by rw [ev9]; omega)]; rfl
structure EvM (H : AHeap) (p : Nat) (Hc : AHeap) (r : B) : Prop where
  fr : Fr (On p) H Hc
  rd : Rd Hc p r
  t2 : Hc.get H.next = some (OR zE.enc qb)
  lt : H.next < Hc.next
  tab : Tab Hc
theorem EvM.step {H H1 H2 : AHeap} {p : Nat} {r r' : B} (h : EvM H p H1 r) (f : Fr (On p) H1 H2) (hr : Rd H2 p r') (hp : 10 ≤ p) (hl : p < H.next) : EvM H p H2 r' :=
  ⟨h.fr.trans f (fun _ q => .inl q), hr, by rw [f.keep _ h.lt (fun (q : H.next = p) => by omega), h.t2], Nat.lt_of_lt_of_le h.lt f.next, h.tab.off f hp⟩
theorem EvM.em {H H1 H2 : AHeap} {p : Nat} {r : B} (h : EvM H p H1 r) (f : Fr Em H1 H2) (hp : 10 ≤ p) (hl : p < H.next) : EvM H p H2 r :=
  h.step (f.mono (W' := On p) fun _ _ q => q.elim) (h.rd.em f) hp hl
theorem EvM.setOff {H H1 : AHeap} {p : Nat} {r : B} (h : EvM H p H1 r) {b : Nat} (hb : H.next < b) (hp : 10 ≤ p) (hl : p < H.next) (o : AObj) : EvM H p (H1.set b o) r := by
  have hf : Fr (On b) H1 (H1.set b o) := (Fr.refl _).set (W := On b) (.inl rfl) _
  refine ⟨h.fr.set (.inr (by omega)) _, h.rd.off hf (by omega), by rw [qr (by omega), h.t2], h.lt, h.tab.off hf (by omega)⟩
theorem yt : Op.build [.int .i64 0, .int .i64 0, .int .i64 0, .int .i64 0, .int .i64 0, .int .i64 0, .int .i64 0, .int .u64 0, .int .i64 0] [] [] = some (.agg zE.enc) := rfl
theorem ld_z {Hc : AHeap} {b : Nat} {y : Evt} : Op.loadN 9 [.ptr b 0] (Hc.set b (OR y.enc qb)) = some (.agg y.enc) := ld_ev (ql ..)
theorem EvM.bad {H Hc : AHeap} {p : Nat} {r bs : B} (h : EvM H p Hc r) (hr : r.length ≤ bs.length) (ho : oneB bs = none) (hl : p < H.next) :
    EvQ H p bs (.tuple [.agg zE.enc, .bool false]) (Hc.set H.next (OR zE.enc qb)) := by
  have hf : Fr (On H.next) Hc (Hc.set H.next (OR zE.enc qb)) := (Fr.refl _).set (W := On H.next) (.inl rfl) _
  exact ⟨h.fr.set (.inr (Nat.le_refl _)) _, zE, false, r, rfl, h.rd.off hf hl, hr, (fun q => nomatch q), fun _ => ho⟩
theorem qzn {H : AHeap} {p : Nat} {bs : B} {r0 : B} {y0 : Evt} {Hc : AHeap} {E : Env} {k : Nat} (h : EvM H p Hc r0) (hk1 : 1 ≤ k) (hk2 : k ≤ 8) (hl : bs.length < 1000000) (hr0 : r0.length ≤ bs.length) (hp : 10 ≤ p) (hlp : p < H.next)
    {b5 : Nat} (h5 : Hc.get b5 = some (OR y0.enc qb)) (hb5 : H.next < b5) (hb5' : b5 < Hc.next) (hgo : goTake (named k) y0 r0 = oneB bs)
    (e0 : lk E 0 = some (.ptr p 0)) (e2 : lk E 2 = some (.ptr H.next 0)) (e3 : lk E 3 = some (.bool false)) (e4 : lk E 4 = some (.int .i64 (k : Int))) (e5 : lk E 5 = some (.ptr b5 0)) :
    W M ⟨none, ke⟩ (qu 30) true (FIN3 M [.cellN 9 2, .tmp 3] (RT3 (EvQ H p bs))) E [] Hc := by
  obtain ⟨n1, n2⟩ := h.tab.nm (show 1 ≤ (k : Int) by omega) (show (k : Int) ≤ 8 by omega)
  simp only [↓JN_eq, CTL3, OPS3, cast0, reduceIte, Nat.reduceEqDiff, xn, e4, n1, n2, qo9]
  obtain ⟨s, hs⟩ : ∃ s, s = named k := ⟨_, rfl⟩
  rw [← hs] at hgo ⊢
  have hi0 : Fr Em Hc (Hc.alloc (.strIter s 0)) := (Fr.refl Hc).alloc _
  refine LOOP3.intro (fun n E Hx => ∃ q y r, E = [(69, .ptr Hc.next 0), (5, .ptr b5 0), (2, .ptr H.next 0), (0, .ptr p 0)] ∧ n = s.length - q ∧ q ≤ s.length ∧ EvM H p Hx r ∧ r.length ≤ bs.length ∧ Hx.get b5 = some (OR y.enc qb) ∧ Hx.get Hc.next = some (.strIter s q) ∧ Hc.next < Hx.next ∧ goTake (s.drop q) y r = oneB bs) ?_ ?_
  · exact ⟨_, _, ⟨0, y0, r0, rfl, rfl, by omega, h.em hi0 hp hlp, hr0, by rw [zd hb5', h5], qn .., by rw [z6]; omega, hgo⟩, by simp only [↓JN_eq, CTL3, OPS3, cast0, reduceIte, Nat.reduceEqDiff, e0, e2, e5]⟩
  rintro n E Hx ⟨q, y, r, rfl, rfl, hq, hm, hr, g5, gi, hlt, hgo⟩
  rcases Nat.lt_or_ge q s.length with hlq | hlq
  · obtain ⟨l, hl'⟩ : ∃ l, s[q]? = some l := ⟨s[q], by simp [hlq]⟩
    obtain ⟨hil, h128⟩ := qjv (hs ▸ List.mem_of_getElem? hl' : l ∈ named k)
    have hd : s.drop q = l :: s.drop (q + 1) := by rw [List.drop_eq_getElem_cons hlq]; congr 1; simpa [hlq] using hl'
    rw [hd, goTake] at hgo
    have hlx : p < Hx.next := by have := hm.rd.lt; omega
    simp only [↓JN_eq, CTL3, OPS3, cast0, reduceIte, Nat.reduceEqDiff, xn, qvk gi hl' h128, qg]
    have hm1 := hm.setOff (b := Hc.next) (by have := h.lt; omega) hp hlp (.strIter s (q + 1))
    refine C3.q (qpj (M := M) hm1.rd (by omega)) fun v H1 ⟨hf1, n, ok, r1, hv, hn, hr1, hrl, ht1, ht2⟩ => ?_
    subst hv
    have hm2 := hm1.step hf1 hr1 hp hlp
    have g5' : H1.get b5 = some (OR y.enc qb) := by rw [hf1.keep _ (by rw [qs4]; omega) (fun (z : b5 = p) => by omega), qr (by omega), g5]
    have gi' : H1.get Hc.next = some (.strIter s (q + 1)) := by rw [hf1.keep _ (by rw [qs4]; omega) (fun (z : Hc.next = p) => by have := h.rd.lt; omega), ql]
    have hn1 := hf1.next
    rw [qs4] at hn1
    cases ok with
    | false =>
      rw [ht2 rfl] at hgo
      simp only [↓JN_eq, CTL3, OPS3, cast0, reduceIte, Nat.reduceEqDiff, xn, qg, yt, st_ev hm2.t2, ld_z]
      exact hm2.bad (by omega) hgo.symm hlp
    | true =>
      rw [ht1 rfl] at hgo
      simp only at hgo
      simp only [↓JN_eq, CTL3, OPS3, cast0, reduceIte, Nat.reduceEqDiff, xn, qg]
      refine C3.q (qy0 (M := M) hil g5' (by omega)) fun v H2 ⟨hv, hf2⟩ => ?_
      have hm3 : EvM H p H2 r1 := by
        refine ⟨?_, hm2.rd.off hf2 (by omega), by rw [hf2.keep _ hm2.lt (fun (z : H.next = b5) => by omega), hm2.t2], Nat.lt_of_lt_of_le hm2.lt hf2.next, hm2.tab.off hf2 (by omega)⟩
        exact hm2.fr.trans hf2 fun x (z : x = b5) => .inr (by omega)
      have gi'' : H2.get Hc.next = some (.strIter s (q + 1)) := by rw [hf2.keep _ (by omega) (fun (z : Hc.next = b5) => by omega), gi']
      have hn2 := hf2.next
      rcases hv with ⟨h118, rfl, hrow⟩ | ⟨h118, rfl, hrow⟩
      · rw [if_pos ⟨.inl h118, by rw [h118]; rfl⟩] at hgo
        simp only [↓JN_eq, CTL3, OPS3, cast0, reduceIte, Nat.reduceEqDiff, xn]
        exact ⟨_, _, ⟨q + 1, _, r1, rfl, rfl, by omega, hm3, by omega, hrow, gi'', by omega, hgo⟩, by simp only [↓JN_eq, CTL3, OPS3, cast0, reduceIte, Nat.reduceEqDiff], by omega⟩
      · by_cases hc : n < 9223372036854775808
        · have e63 : (n : Int) ≤ 9223372036854775807 := by omega
          have ew : wrapI .i64 (n : Int) = (n : Int) := xc (by omega) (by omega)
          rw [ew] at hrow
          simp only [h118, hc, false_or, true_and] at hgo
          by_cases hmay : mayN l n = true
          · rw [if_pos hmay] at hgo
            simp only [e63, decide_true, ew, hmay, Bool.and_self]
            simp only [↓JN_eq, CTL3, OPS3, cast0, reduceIte, Nat.reduceEqDiff, xn]
            exact ⟨_, _, ⟨q + 1, _, r1, rfl, rfl, by omega, hm3, by omega, hrow, gi'', by omega, hgo⟩, by simp only [↓JN_eq, CTL3, OPS3, cast0, reduceIte, Nat.reduceEqDiff], by omega⟩
          · rw [if_neg hmay] at hgo
            have hmay : mayN l n = false := by simpa using hmay
            simp only [e63, decide_true, ew, hmay, Bool.and_false]
            simp only [↓JN_eq, CTL3, OPS3, cast0, reduceIte, Nat.reduceEqDiff, xn, yt, st_ev hm3.t2, ld_z]
            exact hm3.bad (by omega) hgo.symm hlp
        · have e63 : ¬ (n : Int) ≤ 9223372036854775807 := by omega
          simp only [h118, hc, or_false, false_and, if_false] at hgo
          simp only [e63, decide_false, Bool.false_and]
          simp only [↓JN_eq, CTL3, OPS3, cast0, reduceIte, Nat.reduceEqDiff, xn, yt, st_ev hm3.t2, ld_z]
          exact hm3.bad (by omega) hgo.symm hlp
  · have hq : q = s.length := by omega
    subst hq
    rw [List.drop_length, goTake] at hgo
    simp only [↓JN_eq, CTL3, OPS3, cast0, reduceIte, Nat.reduceEqDiff, xn, qt4 gi (Nat.le_refl _), qg, ld_ev g5, st_ev hm.t2, ld_z]
    have hf : Fr (On H.next) Hx (Hx.set H.next (OR y.enc qb)) := (Fr.refl _).set (W := On H.next) (.inl rfl) _
    exact ⟨hm.fr.set (.inr (Nat.le_refl _)) _, y, true, r, rfl, hm.rd.off hf hlp, hr, (fun _ => hgo.symm), fun q => nomatch q⟩
theorem st_1 {H : AHeap} {b o : Nat} {y y' : Evt} {v : AV} (h : H.get b = some (OR y.enc qb)) (hv : v.cells = [v]) (h1 : oneCell v = true) (ho : o < 9) (e : y.enc.take o ++ [v] ++ y.enc.drop (o + 1) = y'.enc) : Op.store 1 [.ptr b o, v] H = some (.undef, H.set b (OR y'.enc qb)) := by
  rw [qbl (o := o) (n := 1) (v := v) h (by rw [hv]; rfl) (by rw [ev9]; omega) (by rw [hv, qaq]; simp [h1]), hv, e]
theorem qzf {H : AHeap} {p : Nat} {bs : B} (h : Rd H p bs) {c : UInt8} {r : B} (hb : bs = c :: r) : ∃ w w2 e, Op.load1 [.ptr p 0] H = some w ∧ Op.indexSl 1 [w, .int .i64 0] = some (.ptr (slB w) (slO 1 w 0)) ∧ Op.load1 [.ptr (slB w) (slO 1 w 0)] H = some (.int .u8 c.toNat) ∧
    Op.sliceSl 1 [some 0, none, none] [w, .int .i64 1] = some w2 ∧ Op.store 1 [.ptr p 0, w2] H = some (.undef, H.set p (OR [w2] e)) ∧ Rd (H.set p (OR [w2] e)) p r := by
  obtain ⟨⟨w, e, h1, h2, h3⟩, h4⟩ := h
  have hc : bs[0]? = some c := by rw [hb]; rfl
  have hbl : bs.length = r.length + 1 := by rw [hb]; rfl
  obtain ⟨w2, hs2, hsl2, hor⟩ := h2.from qdl (k := 1) (by omega) (z := 1) rfl .i64
  have hone : oneCell w2 = true := SlT.one hsl2
  have hcl : AV.cells w2 = [w2] := by cases w2 <;> first | rfl | cases hone
  have hap : w2 = .nils ∨ slB w2 < p := hor.imp id fun q => by
    rcases h3 with rfl | h3
    · have h20 := h2.2
      have : bs.length = 0 := h20
      omega
    · omega
  have hd : bs.drop 1 = r := by rw [hb]; rfl
  rw [hd] at hsl2
  refine ⟨w, w2, e, by rw [yv (zo h1)]; rfl, h2.idx hc rfl .i64, by rw [h2.load0 qdl hc (by omega)]; rfl, hs2, ?_, ⟨⟨w2, e, ql .., ?_, hap⟩, h4⟩⟩
  · rw [qbl (o := 0) (n := 1) (v := w2) h1 (by rw [hcl]; rfl) (by simp) (by rw [hcl, qaq]; simp [hone])]
    simp [hcl]
  · rcases hap with rfl | hap
    · exact ⟨hsl2.1, hsl2.2⟩
    · exact SlT.fr hsl2 ((Fr.refl H).set (W := On p) (.inl rfl) _) fun (q : slB w2 = p) => by omega
theorem qzs {H : AHeap} {p : Nat} {bs : B} (h : Rd H p bs) (hne : bs ≠ []) (hl : bs.length < 1000000) (ht : Tab H) (hp : 10 ≤ p) : CALLQ M ke [.ptr p 0] H (EvQ H p bs) := by
  refine qs1 ?_
  obtain ⟨c, r, rfl⟩ : ∃ c r, bs = c :: r := by cases bs with
    | nil => exact absurd rfl hne
    | cons c r => exact ⟨c, r, rfl⟩
  have hlp := h.lt
  have ha : Fr Em H (H.alloc (OR zE.enc qb)) := (Fr.refl H).alloc _
  have hr0 := h.em ha
  obtain ⟨w, w2, e, f1, f2, f3, f4, f5, f6⟩ := qzf hr0 rfl
  have hm0 : EvM H p (H.alloc (OR zE.enc qb)) (c :: r) := ⟨ha.mono fun _ _ q => q.elim, hr0, qn .., by rw [z6]; omega, ht.em ha⟩
  have hm1 := hm0.step ((Fr.refl _).set (W := On p) (.inl rfl) _) f6 hp hlp
  rw [qe4] at f1 f3 f5 f6 hm1
  have wk : wrapI .i64 ((c.toNat : Nat) : Int) = ((c.toNat : Nat) : Int) := w_i64 (by have := c.toNat_lt; omega)
  simp only [↓JN_eq, CTL3, OPS3, cast0, reduceIte, Nat.reduceEqDiff, xn, qa1, f1, f2, f3, f4, f5, wk]
  generalize ((H.alloc (OR [.int .i64 0, .int .i64 0, .int .i64 0, .int .i64 0, .int .i64 0, .int .i64 0, .int .i64 0, .int .u64 0, .int .i64 0] qb)).set p (OR [w2] e)) = H1 at *
  have hlr : r.length ≤ (c :: r).length := by simp
  have bad1 : oneB (c :: r) = none → EvQ H p (c :: r) (.tuple [.agg zE.enc, .bool false]) (H1.set H.next (OR zE.enc qb)) := fun q => hm1.bad hlr q hlp
  by_cases c1 : c.toNat < 1
  · have c1' : (c.toNat : Int) < 1 := by omega
    simp only [↓JN_eq, CTL3, OPS3, cast0, reduceIte, Nat.reduceEqDiff, xn, c1', yt, st_ev hm1.t2, ld_z]
    exact bad1 (by rw [oneB, if_neg (by omega)])
  by_cases c2 : 8 < c.toNat
  · have c1' : ¬ (c.toNat : Int) < 1 := by omega
    have c2' : (8 : Int) < (c.toNat : Int) := by omega
    simp only [↓JN_eq, CTL3, OPS3, cast0, reduceIte, Nat.reduceEqDiff, xn, c1', c2', yt, st_ev hm1.t2, ld_z]
    exact bad1 (by rw [oneB, if_neg (by omega)])
  have c1' : ¬ (c.toNat : Int) < 1 := by omega
  have c2' : ¬ (8 : Int) < (c.toNat : Int) := by omega
  simp only [↓JN_eq, CTL3, OPS3, cast0, reduceIte, Nat.reduceEqDiff, xn, c1', c2']
  have hone : oneB (c :: r) = match takeB r with
      | none => none
      | some (c', b1) => match takeB b1 with
        | none => none
        | some (t, b2) => if c' < 4 ∧ t < 9223372036854775808 then goTake (named c.toNat) (fresh c.toNat c' t) b2 else none := by
    rw [oneB, if_pos ⟨by omega, by omega⟩]; rfl
  have hc8 : c.toNat ≤ 8 := by omega
  have hc1 : 1 ≤ c.toNat := by omega
  have hrl : r.length < 1000000 := by simp at hl; omega
  have hbl : (c :: r).length = r.length + 1 := rfl
  clear bad1
  generalize hbs : c :: r = bs at *
  generalize hk : c.toNat = k at *
  clear hk hbs c
  refine C3.q (qre (M := M)) fun v H2 ⟨hv, hf2⟩ => ?_
  subst hv
  have hm2 := hm1.em hf2 hp hlp
  have hst : Op.store 9 [.ptr H2.next 0, .agg (fresh (k : Nat) 0 0).enc] (H2.alloc (OR zE.enc qb)) = some (.undef, (H2.alloc (OR zE.enc qb)).set H2.next (OR (fresh (k : Nat) 0 0).enc qb)) := st_ev (qn ..)
  have hm3 : EvM H p ((H2.alloc (OR zE.enc qb)).set H2.next (OR (fresh (k : Nat) 0 0).enc qb)) r := (hm2.em ((Fr.refl H2).alloc _) hp hlp).setOff hm2.lt hp hlp _
  have h53 : ((H2.alloc (OR zE.enc qb)).set H2.next (OR (fresh (k : Nat) 0 0).enc qb)).get H2.next = some (OR (fresh (k : Nat) 0 0).enc qb) := ql ..
  have hn3 : ((H2.alloc (OR zE.enc qb)).set H2.next (OR (fresh (k : Nat) 0 0).enc qb)).next = H2.next + 1 := rfl
  rw [qe4] at hst hm3 h53 hn3
  simp only [↓JN_eq, CTL3, OPS3, cast0, reduceIte, Nat.reduceEqDiff, xn, hst]
  have hlt2 := hm2.lt
  generalize ((H2.alloc (OR [.int .i64 0, .int .i64 0, .int .i64 0, .int .i64 0, .int .i64 0, .int .i64 0, .int .i64 0, .int .u64 0, .int .i64 0] qb)).set H2.next (OR (fresh (k : Nat) 0 0).enc qb)) = H3 at *
  refine C3.q (qpj (M := M) hm3.rd hrl) fun v H4 ⟨hf4, n1, ok1, r1, hv, hn1, hr1, hrl1, ht1, ht2⟩ => ?_
  subst hv
  have hm4 := hm3.step hf4 hr1 hp hlp
  have h54 : H4.get H2.next = some (OR (fresh (k : Nat) 0 0).enc qb) := by rw [hf4.keep _ (by omega) (fun (z : H2.next = p) => by omega), h53]
  simp only [↓JN_eq, CTL3, OPS3, cast0, reduceIte, Nat.reduceEqDiff, xn, qg]
  refine C3.q (qpj (M := M) hm4.rd (by omega)) fun v H5 ⟨hf5, n2, ok2, r2, hv, hn2, hr2, hrl2, ht3, ht4⟩ => ?_
  subst hv
  have hm5 := hm4.step hf5 hr2 hp hlp
  have h55 : H5.get H2.next = some (OR (fresh (k : Nat) 0 0).enc qb) := by rw [hf5.keep _ (by have := hf4.next; omega) (fun (z : H2.next = p) => by omega), h54]
  have hn5 : H2.next < H5.next := by have := hf4.next; have := hf5.next; omega
  have bad5 : oneB bs = none → EvQ H p bs (.tuple [.agg zE.enc, .bool false]) (H5.set H.next (OR zE.enc qb)) := fun q => hm5.bad (by omega) q hlp
  cases ok1 with
  | false =>
    rw [ht2 rfl] at hone
    simp only [↓JN_eq, CTL3, OPS3, cast0, reduceIte, Nat.reduceEqDiff, xn, qg, yt, st_ev hm5.t2, ld_z]
    exact bad5 hone
  | true =>
  rw [ht1 rfl] at hone
  simp only at hone
  cases ok2 with
  | false =>
    rw [ht4 rfl] at hone
    simp only [↓JN_eq, CTL3, OPS3, cast0, reduceIte, Nat.reduceEqDiff, xn, qg, yt, st_ev hm5.t2, ld_z]
    exact bad5 hone
  | true =>
  rw [ht3 rfl] at hone
  simp only at hone
  by_cases d1 : n1 < 4
  · have d1' : ¬ (4 : Int) ≤ (n1 : Int) := by omega
    by_cases d2 : n2 < 9223372036854775808
    · have d2' : ¬ (9223372036854775807 : Int) < (n2 : Int) := by omega
      rw [if_pos ⟨d1, d2⟩] at hone
      have w1 : wrapI .i64 (n1 : Int) = (n1 : Int) := xc (by omega) (by omega)
      have w2 : wrapI .i64 (n2 : Int) = (n2 : Int) := xc (by omega) (by omega)
      have s1 : Op.store 1 [.ptr H2.next 2, .int .i64 (n1 : Int)] H5 = some (.undef, H5.set H2.next (OR (fresh k n1 0).enc qb)) := st_1 h55 rfl rfl (by omega) (by simp [fresh, Evt.enc])
      have s2 : Op.store 1 [.ptr H2.next 1, .int .i64 (n2 : Int)] (H5.set H2.next (OR (fresh k n1 0).enc qb)) = some (.undef, (H5.set H2.next (OR (fresh k n1 0).enc qb)).set H2.next (OR (fresh k n1 n2).enc qb)) := st_1 (ql ..) rfl rfl (by omega) (by simp [fresh, Evt.enc])
      rw [qpc] at s2
      have hm6 : EvM H p (H5.set H2.next (OR (fresh k n1 n2).enc qb)) r2 := hm5.setOff hlt2 hp hlp _
      obtain ⟨-, -, -, -, -, w20, w28, -⟩ := xn M ⟨none, ke⟩
      simp only [↓JN_eq, CTL3, OPS3, cast0, reduceIte, Nat.reduceEqDiff, w20, w28, qg, d1', d2', w1, w2, s1, s2]
      exact qzn hm6 hc1 hc8 hl (by omega) hp hlp (ql ..) hlt2 hn5 hone.symm rfl rfl rfl rfl rfl
    · have d2' : (9223372036854775807 : Int) < (n2 : Int) := by omega
      rw [if_neg (fun q => d2 q.2)] at hone
      simp only [↓JN_eq, CTL3, OPS3, cast0, reduceIte, Nat.reduceEqDiff, xn, qg, d1', d2', yt, st_ev hm5.t2, ld_z]
      exact bad5 hone
  · have d1' : (4 : Int) ≤ (n1 : Int) := by omega
    rw [if_neg (fun q => d1 q.1)] at hone
    simp only [↓JN_eq, CTL3, OPS3, cast0, reduceIte, Nat.reduceEqDiff, xn, qg, d1', yt, st_ev hm5.t2, ld_z]
    exact bad5 hone
end Go.Am
namespace Go.Am
open Tr
variable {M : Mac} [MK M]
theorem SlT.bnd {α : Type} {enc : α → List AV} {size : Nat} {H : AHeap} {v : AV} {xs : List α} (h : SlT enc size H v xs) (hn : xs ≠ []) : slB v < H.next := by
  obtain ⟨_, h⟩ := h
  have hl : xs.length ≠ 0 := fun q => hn (List.length_eq_zero_iff.1 q)
  split at h
  · exact absurd h hl
  · exact (h.2.2.resolve_left hl).1
  · exact (h.2.2.2.resolve_left hl).1
  · exact absurd h.1 hl
  · exact h.elim
theorem Rd.fr {W : Nat → Prop} {H H' : AHeap} {p : Nat} {bs : B} (h : Rd H p bs) (f : Fr W H H') (hw : ∀ b, W b → p < b) : Rd H' p bs := by
  obtain ⟨⟨w, e, h1, h2, h3⟩, h4⟩ := h
  refine ⟨⟨w, e, by rw [f.keep p h4 (fun q => by have := hw p q; omega), h1], ?_, h3⟩, Nat.lt_of_lt_of_le h4 f.next⟩
  rcases h3 with rfl | h3
  · exact ⟨h2.1, h2.2⟩
  · exact SlT.fr h2 f fun q => by have := hw _ q; omega
theorem New.off {α : Type} {enc : α → List AV} {e size : Nat} {H0 H H' : AHeap} {v : AV} {xs : List α} (h : New enc e size H0 H v xs) {b : Nat} (hb : H0.next ≤ b) (hn : ¬ OnS v b) (f : Fr (On b) H H') : New enc e size H0 H' v xs :=
  ⟨Own.fr h.own f fun x hx (q : x = b) => hn (q ▸ hx), h.fr.trans f fun x (q : x = b) => .inr (q ▸ hb), h.fresh⟩
def DecQ (H : AHeap) (o : Option (List Evt)) (v : AV) (H' : AHeap) : Prop := (∃ l w, o = some l ∧ v = .tuple [w, .int .i64 0] ∧ NewE H H' w l) ∨ (o = none ∧ v = .tuple [.nils, .int .i64 230] ∧ Fr Em H H')
theorem qt3 {n : Nat} {bs : B} (h : bs ≠ []) : decB (n + 1) bs = match oneB bs with
    | none => none
    | some (x, r) => match decB n r with
      | none => none
      | some l => some (x :: l) := by
  cases bs with
  | nil => exact absurd rfl h
  | cons c r => rfl
theorem qyc {H : AHeap} {a : AV} {bs : B} (ha : SlT encB 1 H a bs) (hl : bs.length < 1000000) (ht : Tab H) {N : Nat} (hN : bs.length ≤ N) : CALLQ M yk [a] H (DecQ H (decB N bs)) := by
  refine qp0 ?_
  have hone : oneCell a = true := SlT.one ha
  have hcl : AV.cells a = [a] := by cases a <;> first | rfl | cases hone
  have hf0 : Fr Em H (H.alloc (OR [a] T__8)) := (Fr.refl H).alloc _
  by_cases hne : bs = []
  · subst hne
    have l1 : Op.load1 [.ptr H.next 0] (H.alloc (OR [a] T__8)) = some a := by rw [yv (zo (qn ..))]; rfl
    have hd : decB N [] = some [] := by cases N <;> rfl
    have hlen : Op.lenSl [a] = some (.int .i64 0) := ha.len
    simp only [↓JN_eq, CTL3, OPS3, cast0, reduceIte, Nat.reduceEqDiff, ki, hcl]
    refine LOOP3.intro (fun n E Hx => E = [(4, .nils), (1, .ptr H.next 0)] ∧ n = 0 ∧ Hx = H.alloc (OR [a] T__8)) ?_ ?_
    · exact ⟨_, _, ⟨rfl, rfl, rfl⟩, by simp only [↓JN_eq, CTL3, OPS3, cast0, reduceIte, Nat.reduceEqDiff]⟩
    rintro n E Hx ⟨rfl, rfl, rfl⟩
    simp only [↓JN_eq, CTL3, OPS3, cast0, reduceIte, Nat.reduceEqDiff, ki, l1, hlen, Int.reduceLT]
    exact .inl ⟨[], .nils, hd, rfl, ⟨Own.nil _ _ _, hf0, fun b h => (h.1 rfl).elim⟩⟩
  have hb := ha.bnd hne
  have hp : 10 ≤ H.next := ht.lt
  simp only [↓JN_eq, CTL3, OPS3, cast0, reduceIte, Nat.reduceEqDiff, ki, hcl]
  refine LOOP3.intro (fun n E Hx => ∃ w xs r k, E = [(4, w), (1, .ptr H.next 0)] ∧ n = r.length ∧ r.length ≤ bs.length ∧ r.length ≤ k ∧ Rd Hx H.next r ∧ NewE H Hx w xs ∧ ¬ OnS w H.next ∧ xs.length + r.length ≤ bs.length ∧ decB N bs = (decB k r).map (xs ++ ·)) ?_ ?_
  · refine ⟨_, _, ⟨.nils, [], bs, N, rfl, rfl, Nat.le_refl _, hN, ⟨⟨a, T__8, qn .., ha.em hf0, .inr hb⟩, by rw [z6]; omega⟩, ⟨Own.nil _ _ _, hf0, fun b h => (h.1 rfl).elim⟩, fun q => q.1 rfl, by simp, by simp⟩, by simp only [↓JN_eq, CTL3, OPS3, cast0, reduceIte, Nat.reduceEqDiff]⟩
  rintro n E Hx ⟨w, xs, r, k, rfl, rfl, hr, hrk, hrd, hw, hap, hxl, hdec⟩
  obtain ⟨⟨v1, e1, q1, q2, q3⟩, q4⟩ := hrd
  have l1 : Op.load1 [.ptr H.next 0] Hx = some v1 := by rw [yv (zo q1)]; rfl
  have hrd : Rd Hx H.next r := ⟨⟨v1, e1, q1, q2, q3⟩, q4⟩
  by_cases hrn : r = []
  · subst hrn
    have hlen : Op.lenSl [v1] = some (.int .i64 0) := q2.len
    have hd : decB k [] = some [] := by cases k <;> rfl
    rw [hd] at hdec
    simp only [↓JN_eq, CTL3, OPS3, cast0, reduceIte, Nat.reduceEqDiff, ki, l1, hlen, Int.reduceLT]
    exact .inl ⟨xs, w, by simpa using hdec, rfl, hw⟩
  have hpos : 0 < r.length := by cases r with
    | nil => exact absurd rfl hrn
    | cons => simp
  have e0 : (0 : Int) < (r.length : Nat) := by omega
  simp only [↓JN_eq, CTL3, OPS3, cast0, reduceIte, Nat.reduceEqDiff, ki, l1, q2.len, e0]
  refine C3.q (qzs (M := M) hrd hrn (by omega) (ht.em hw.fr) hp) fun v H1 ⟨hf1, y, ok, r', hv, hr', hrl, ho1, ho2⟩ => ?_
  subst hv
  obtain ⟨k, rfl⟩ : ∃ k', k = k' + 1 := ⟨k - 1, by omega⟩
  rw [qt3 hrn] at hdec
  have hst : Op.store 9 [.ptr H1.next 0, .agg y.enc] (H1.alloc (OR zE.enc qb)) = some (.undef, (H1.alloc (OR zE.enc qb)).set H1.next (OR y.enc qb)) := st_ev (qn ..)
  have hw1 : NewE H H1 w xs := hw.off (Nat.le_refl _) hap hf1
  have hw2 : NewE H ((H1.alloc (OR zE.enc qb)).set H1.next (OR y.enc qb)) w xs :=
    (hw1.em ((Fr.refl H1).alloc _)).setOff hw1.fr.next (fun q => by have := Own.lt hw1.own _ q; omega) _
  have hrd2 : Rd ((H1.alloc (OR zE.enc qb)).set H1.next (OR y.enc qb)) H.next r' := (hr'.em ((Fr.refl H1).alloc _)).fr ((Fr.refl _).set (W := On H1.next) (.inl rfl) _) fun b (q : b = H1.next) => by have := hr'.lt; omega
  have l9 : Op.loadN 9 [.ptr H1.next 0] ((H1.alloc (OR zE.enc qb)).set H1.next (OR y.enc qb)) = some (.agg y.enc) := ld_z
  rw [qe4] at hst hw2 hrd2 l9
  cases ok with
  | false =>
    rw [ho2 rfl] at hdec
    simp only [↓JN_eq, CTL3, OPS3, cast0, reduceIte, Nat.reduceEqDiff, ki, qg, hst]
    exact .inr ⟨by simpa using hdec, rfl, hw2.fr⟩
  | true =>
    rw [ho1 rfl] at hdec
    simp only at hdec
    have hlt : r'.length < r.length := by
      have := qtr (ho1 rfl)
      rw [this.1, List.length_append]
      have : 0 < (encE y).length := by cases h : encE y with
        | nil => exact absurd h (qxb y)
        | cons => simp
      omega
    simp only [↓JN_eq, CTL3, OPS3, cast0, reduceIte, Nat.reduceEqDiff, ki, qg, hst, l9]
    refine hw2.app4 (bytes := 72) (a := y) rfl rfl rfl rfl (by omega) (by omega) (by omega) fun v' H2 hv' hf2 => ?_
    simp only [↓JN_eq, CTL3, OPS3, cast0, reduceIte, Nat.reduceEqDiff, ki]
    refine ⟨_, _, ⟨v', xs ++ [y], r', k, rfl, rfl, by omega, by omega, hrd2.fr hf2.fr fun b hb => ?_, hv', ?_, by simp; omega, ?_⟩, by simp only [↓JN_eq, CTL3, OPS3, cast0, reduceIte, Nat.reduceEqDiff], by omega⟩
    · have h1 := hw.fresh b hb
      have h2 : b ≠ H.next := fun q => hap (q ▸ hb)
      omega
    · exact (hf2.get hrd2.lt hap).2.2
    · rw [hdec]; cases decB k r' <;> simp
end Go.Am
