/- TrK2: TwC TwD TwG TwH RdA RdB RdC. -/
import Derived.Test.YtkfheegmlgfdoaaDoorAmKTrK1
import Derived.Test.YtkfheegmlgfdoaaDoorAmKCodeK
set_option linter.unusedVariables false
set_option linter.unusedSimpArgs false
set_option linter.unusedSectionVars false
set_option maxRecDepth 100000
namespace Go.Am
open Tr
open Lang (dec)
variable {M : Mac} [MK M]
abbrev NewW := New encS qp 1
def Wds (H0 H : AHeap) (v : AV) (ws : List B) : Prop := NewW H0 H v ws ∨ (Fr Em H0 H ∧ 0 < ws.length ∧ ∃ b, v = .slice b 0 ws.length ws.length ∧ H.get b = some (OR (ws.map AV.str) qp) ∧ H0.next ≤ b ∧ b < H.next)
theorem Wds.fr0 {H0 H : AHeap} {v : AV} {ws : List B} (h : Wds H0 H v ws) : Fr Em H0 H := h.elim (fun h => h.fr) fun h => h.1
theorem Wds.em {H0 H H' : AHeap} {v : AV} {ws : List B} (h : Wds H0 H v ws) (f : Fr Em H H') : Wds H0 H' v ws := by
  rcases h with h | ⟨h, h0, b, rfl, h2, h3, h4⟩
  · exact .inl (h.em f)
  · exact .inr ⟨h.em f, h0, b, rfl, by rw [f.keep b h4 id, h2], h3, Nat.lt_of_lt_of_le h4 f.next⟩
theorem Wds.lo {H0 H : AHeap} {v : AV} {ws : List B} (h : Wds H0 H v ws) : ∀ x, OnS v x → H0.next ≤ x ∧ x < H.next := by
  rcases h with h | ⟨h, h0, b, rfl, h2, h3, h4⟩
  · exact fun x hx => ⟨h.fresh x hx, Own.lt h.own x hx⟩
  · rintro x ⟨_, rfl⟩; exact ⟨h3, h4⟩
theorem Wds.setOff {H0 H : AHeap} {v : AV} {ws : List B} (h : Wds H0 H v ws) {b : Nat} (hb : H0.next ≤ b) (hn : ¬ OnS v b) (o : AObj) : Wds H0 (H.set b o) v ws := by
  rcases h with h | ⟨h, h0, c, rfl, h2, h3, h4⟩
  · exact .inl (h.setOff hb hn o)
  · exact .inr ⟨h.set (.inr hb) _, h0, c, rfl, by rw [qn (fun q => hn ⟨by simp, by rw [q]; rfl⟩), h2], h3, h4⟩
theorem Wds.sl {H0 H : AHeap} {v : AV} {ws : List B} (h : Wds H0 H v ws) : SlT encS 1 H v ws := by
  rcases h with h | ⟨h, h0, b, rfl, h2, h3, h4⟩
  · exact h.sl
  · unfold SlT
    rw [qik]
    exact ⟨by simp, rfl, Nat.le_refl _, .inr ⟨h4, _, x4 h2, by rw [z8, if_pos (by simp), Nat.mul_one, List.drop_zero, List.take_of_length_le (by simp)]⟩⟩
theorem app_row {H : AHeap} {b : Nat} {ws : List B} {a : B} (hb : H.get b = some (OR (ws.map AV.str) qp)) (hlt : b < H.next) (h0 : 0 < ws.length) (hs : ws.length < 1000000) :
    Op.append qp 1 16 [.slice b 0 ws.length ws.length, .slice H.next 0 1 1] (H.alloc (OR [.str a] qp)) = some (.gslice (H.next + 1) 0 (ws.length + 1) 1 0 (ws.length + 1), (H.alloc (OR [.str a] qp)).alloc (.grown (ws.length + 1) 1 ((ws ++ [a]).map AV.str) qp (0, 0))) := by
  have e1 : firstCells (H.alloc (OR [.str a] qp)) 1 1 (.slice H.next 0 1 1) = some [.str a] := by
    have : Nat.beq 1 0 = false := rfl
    simp only [firstCells, this, cond_false]
    rw [qup (x4 (qk ..)) (by simp)]; rfl
  have e2 : firstCells (H.alloc (OR [.str a] qp)) 1 ws.length (.slice b 0 ws.length ws.length) = some (ws.map AV.str) := by
    simp only [firstCells, yf (show ws.length ≠ 0 by omega), cond_false]
    rw [qup (x4 (by rw [x6 hlt]; exact hb)) (by simp), Nat.mul_one, List.drop_zero, List.take_of_length_le (by simp)]
  have e3 : Nat.ble (ws.length + 1) ws.length = false := by
    cases q : Nat.ble (ws.length + 1) ws.length with
    | false => rfl
    | true => have := Nat.le_of_ble_eq_true q; omega
  have e4 : fits (ws.length + 1) 16 = true := qw4 (by omega) (by omega)
  simp only [Op.append, lenV, Option.bind_some, e1, qpu, qpp, qse, cond_true, appendV, e3, cond_false, e4, yj (Nat.le_add_right ws.length 1), qcd (show 0 < 1 by decide), Bool.and_self, e2, yk, grownV, xf]
  simp
theorem Wds.app {H0 H : AHeap} {v : AV} {ws : List B} (h : Wds H0 H v ws) {a : B} (hs : ws.length < 1000000) {K : AObj → (Nat → AV) → Bool → AV → AHeap → Prop} {m : Bool}
    (hk : ∀ v' H', NewW H0 H' v' (ws ++ [a]) → Aft v H v' H' → K (.row (AV.str a).cells qp (0, 0) true) (Op.sliceTo 1 1) m v' H') :
    B32 m (Op.buildSlice qp 1 [.str []] [(0, 1)] [.str a]) fun g o mk => B32 g (Op.append qp 1 16 [v, mk H.next] (H.alloc o)) (K o mk) := by
  rcases h with h | ⟨hf, h0, b, rfl, h2, h3, h4⟩
  · exact h.app4 (bytes := 16) (a := a) rfl rfl rfl rfl (by decide) (by omega) (by omega) hk
  · have e0 : Op.buildSlice qp 1 [.str []] [(0, 1)] [.str a] = some (.row [.str a] qp (0, 0) true, Op.sliceTo 1 1) := rfl
    refine B32.intro e0 (B32.intro (app_row h2 h4 h0 hs) (hk _ _ ⟨⟨?_, .inr ⟨H.next + 1, ?_, ?_, ?_⟩⟩, (hf.alloc _).alloc _, ?_⟩ ⟨(((Fr.refl H).alloc _).alloc _), ?_⟩))
    · rw [qik]; simp
    · rw [List.length_append]; rfl
    · rw [xf, xf]; omega
    · have := qk (H.alloc (OR [.str a] qp)) (.grown (ws.length + 1) 1 ((ws ++ [a]).map AV.str) qp (0, 0))
      rw [xf] at this
      rw [this, qik, List.length_append]; rfl
    · rintro x ⟨_, rfl⟩; have := hf.next; show H0.next ≤ H.next + 1; omega
    · rintro x ⟨_, rfl⟩; right; show H.next ≤ H.next + 1; omega
theorem Tab.pt {H : AHeap} (h : Tab H) : PowT H ∧ xg < H.next := ⟨h.pow, by have := h.lt; show 2 < H.next; omega⟩
theorem Tab.kd {H : AHeap} (h : Tab H) {k : Int} (h1 : 1 ≤ k) (h2 : k ≤ 8) : Op.indexArr 9 1 [.ptr qbe 0, .int .i64 k] = some (.ptr qbe k.toNat) ∧ Op.load1 [.ptr qbe k.toNat] H = some (.str (kword k)) := by
  refine ⟨by rw [qmw (i := k.toNat) (by omega) (by omega), Nat.zero_add, Nat.mul_one], ?_⟩
  rw [kx h.kinds, List.getElem?_map, List.getElem?_range (by omega)]
  show some (AV.str (kword (k.toNat : Nat))) = _
  rw [show ((k.toNat : Nat) : Int) = k by omega]
def lineW (x : Evt) : List B := [dec x.time.toNat, dec x.core.toNat, kword x.kind] ++ (named x.kind).map (wordB x)
theorem q0x (x : Evt) : joinS [32] (lineW x) = lineB x := by
  show dec x.time.toNat ++ List.flatMap (fun x => [32] ++ x) ([dec x.core.toNat, kword x.kind] ++ (named x.kind).map (wordB x)) = _
  simp [lineB, List.flatMap_map]
theorem q09 (l : UInt8) : (wordsOf l).length ≤ 9 := by unfold wordsOf; (repeat' split) <;> decide
theorem qyu {x : Evt} {l : UInt8} (h : numB x l < 18446744073709551616) : (wordB x l).length ≤ 20 := by
  have key : ∀ w ∈ wordsOf l, w.length ≤ 20 := by unfold wordsOf; (repeat' split) <;> decide
  unfold wordB
  split
  · rename_i w hw; exact key w (List.mem_of_getElem? hw)
  · exact Lang.dec_len20 h
theorem qva (k : Int) : (kword k).length ≤ 20 := by unfold kword; (repeat' split) <;> decide
theorem q34 {H : AHeap} {x : Evt} (hx : EvR x) (hfi : fineB x = true) (ht : Tab H) : CALLQ M yn [.agg x.enc] H fun v H' => v = .str (lineB x) ∧ Fr Em H H' := by
  refine qu9 ?_
  obtain ⟨⟨h1, h2, h3, h4, h5⟩, h6⟩ := qe6 hfi
  have e0 : x.enc[0]? = some (.int .i64 x.kind) := rfl
  have e1 : x.enc[1]? = some (.int .i64 x.time) := rfl
  have e2 : x.enc[2]? = some (.int .i64 x.core) := rfl
  have hf1 : Fr Em H (H.alloc (OR x.enc qc)) := (Fr.refl H).alloc _
  have ht1 := ht.em hf1
  obtain ⟨k1, k2⟩ := ht1.kd h1 h2
  simp only [↓JN_eq, CTL3, OPS3, cast0, reduceIte, Nat.reduceEqDiff, ku, q2j, e0, e1, e2, k1, k2]
  refine C3.q (qr2 (M := M) ht1.pt.1 ht1.pt.2 h5 hx.time) fun v H2 ⟨hv, hf2⟩ => ?_
  subst hv
  have ht2 := ht1.em hf2
  obtain ⟨_, k3⟩ := ht2.kd h1 h2
  have hg2 : H2.get H.next = some (OR x.enc qc) := by rw [hf2.keep _ (by rw [xf]; omega) (fun h => h), qk]
  have hl2 : H.next < H2.next := by have := hf2.next; rw [xf] at this; omega
  have l2 : ∀ o, Op.load1 [.ptr H.next o] H2 = x.enc[o]? := fun o => kx (x4 hg2) o
  simp only [↓JN_eq, CTL3, OPS3, cast0, reduceIte, Nat.reduceEqDiff, ku, l2, e0, e1, e2, k3, qdi]
  refine C3.q (qr2 (M := M) ht2.pt.1 ht2.pt.2 h3 hx.core) fun v H3 ⟨hv, hf3⟩ => ?_
  subst hv
  have ht3 := ht2.em hf3
  obtain ⟨_, k4⟩ := ht3.kd h1 h2
  have hg3 : H3.get H.next = some (OR x.enc qc) := by rw [hf3.keep _ hl2 (fun h => h), hg2]
  have hl3 : H.next < H3.next := Nat.lt_of_lt_of_le hl2 hf3.next
  have l3 : ∀ o, Op.load1 [.ptr H.next o] H3 = x.enc[o]? := fun o => kx (x4 hg3) o
  have b3 : (Op.buildSlice qp 3 [(.str [])] [(0, 1), (1, 1), (2, 1)]) [.str (dec x.time.toNat), .str (dec x.core.toNat), .str (kword x.kind)] = some (.row ([dec x.time.toNat, dec x.core.toNat, kword x.kind].map AV.str) qp (0, 0) true, Op.sliceTo 3 3) := rfl
  simp only [↓JN_eq, CTL3, OPS3, cast0, reduceIte, Nat.reduceEqDiff, ku, l3, e0, k4, qdi, b3]
  have hf4 : Fr Em H3 (H3.alloc (OR ([dec x.time.toNat, dec x.core.toNat, kword x.kind].map AV.str) qp)) := (Fr.refl H3).alloc _
  have ht4 := ht3.em hf4
  have hf04 : Fr Em H (H3.alloc (OR ([dec x.time.toNat, dec x.core.toNat, kword x.kind].map AV.str) qp)) := ((hf1.em hf2).em hf3).em hf4
  obtain ⟨n1, n2⟩ := ht4.nm h1 h2
  have hg4 : (H3.alloc (OR ([dec x.time.toNat, dec x.core.toNat, kword x.kind].map AV.str) qp)).get H.next = some (OR x.enc qc) := by rw [x6 hl3, hg3]
  have hw4 : Wds H3 (H3.alloc (OR ([dec x.time.toNat, dec x.core.toNat, kword x.kind].map AV.str) qp)) (.slice H3.next 0 3 3) [dec x.time.toNat, dec x.core.toNat, kword x.kind] := .inr ⟨hf4, Nat.succ_pos _, H3.next, rfl, qk .., Nat.le_refl _, by rw [xf]; omega⟩
  have hn4 : (H3.alloc (OR ([dec x.time.toNat, dec x.core.toNat, kword x.kind].map AV.str) qp)).next = H3.next + 1 := rfl
  generalize H3.alloc (OR ([dec x.time.toNat, dec x.core.toNat, kword x.kind].map AV.str) qp) = H4 at *
  have l4 : ∀ o, Op.load1 [.ptr H.next o] H4 = x.enc[o]? := fun o => kx (x4 hg4) o
  simp only [↓JN_eq, CTL3, OPS3, cast0, reduceIte, Nat.reduceEqDiff, ku, l4, e0, n1, n2, qff]
  obtain ⟨s, hs⟩ : ∃ s, s = named x.kind := ⟨_, rfl⟩
  rw [← hs]
  have hsl : s.length ≤ 4 := by rw [hs]; unfold named; (repeat' split) <;> decide
  have hmay : ∀ l ∈ s, mayN l (getN x l) = true := fun l hl => qio _ _ _ h6 l (hs ▸ hl)
  have hfld : ∀ l ∈ s, 0 ≤ getN x l ∧ getN x l < 18446744073709551616 ∧ isL l ∧ (l = 118 ∨ getN x l < 9223372036854775808) := fun l hl => by
    have hil := (qcm (hs ▸ hl : l ∈ named x.kind)).1
    obtain ⟨q1, q2, q3⟩ := hx.get hil (hmay l hl)
    exact ⟨q1, q2, hil, q3⟩
  refine LOOP3.intro (fun n E Hc => ∃ p w, E = [(26, .ptr H4.next 0), (3, w), (1, .ptr H.next 0)] ∧ n = s.length - p ∧ p ≤ s.length ∧ Hc.get H.next = some (OR x.enc qc) ∧ H.next < Hc.next ∧ Hc.get H4.next = some (.strIter s p) ∧ H4.next < Hc.next ∧ ¬ OnS w H4.next ∧ Wds H3 Hc w ([dec x.time.toNat, dec x.core.toNat, kword x.kind] ++ (s.take p).map (wordB x)) ∧ Tab Hc) ?_ ?_
  · have hfi4 : Fr Em H4 (H4.alloc (.strIter s 0)) := (Fr.refl H4).alloc _
    exact ⟨_, _, ⟨0, .slice H3.next 0 3 3, rfl, rfl, by omega, by rw [x6 (by omega), hg4], by rw [xf]; omega, qk .., by rw [xf]; omega, fun q => by have : H4.next = H3.next := q.2; omega, by simpa using hw4.em hfi4, ht4.em hfi4⟩, by simp only [↓JN_eq, CTL3, OPS3, cast0, reduceIte, Nat.reduceEqDiff]; rfl⟩
  rintro n E Hc ⟨p, w, rfl, rfl, hp, g1, g2, g4, g5, g6, hw, htc⟩
  have hwl : ([dec x.time.toNat, dec x.core.toNat, kword x.kind] ++ (s.take p).map (wordB x)).length < 1000000 := by
    rw [List.length_append, List.length_map, List.length_take]; simp only [List.length_cons, List.length_nil]; omega
  rcases Nat.lt_or_ge p s.length with hlp | hlp
  · obtain ⟨l, hl⟩ : ∃ l, s[p]? = some l := ⟨s[p], by simp [hlp]⟩
    have hlm := List.mem_of_getElem? hl
    obtain ⟨hil, h128⟩ := qcm (hs ▸ hlm : l ∈ named x.kind)
    obtain ⟨r0, r1, _, r2⟩ := hfld l hlm
    have egU : gU x l = getN x l := by
      unfold gU
      split
      · rename_i h; subst h; rfl
      · rw [qdf r0 r1]
    have lN : Op.loadN 9 [.ptr H.next 0] (Hc.set H4.next (.strIter s (p + 1))) = some (.agg x.enc) := by
      rw [qoe (c := x.enc) (x4 (by rw [qn (by omega)]; exact g1)) (by rw [ev9]; omega)]; rfl
    simp only [↓JN_eq, CTL3, OPS3, cast0, reduceIte, Nat.reduceEqDiff, ku, qis g4 hl h128, lN, qh]
    have hw1 := hw.setOff (b := H4.next) (by omega) g6 (.strIter s (p + 1))
    have htc1 : Tab (Hc.set H4.next (.strIter s (p + 1))) := by
      have hlt := ht.lt
      refine ⟨Nat.le_trans htc.lt (by rw [qbs]; omega), ?_, ?_, ?_⟩
      · rw [qjn (qn (show H4.next ≠ 0 by omega) _)]; exact htc.named
      · rw [qjn (qn (show H4.next ≠ 1 by omega) _)]; exact htc.kinds
      · rw [qjn (qn (show H4.next ≠ 2 by omega) _)]; exact htc.pow
    refine C3.q (qt8 (M := M) hil) fun v H5 ⟨hv, hf5⟩ => ?_
    subst hv
    have k1' : H5.get H.next = some (OR x.enc qc) := by rw [hf5.keep _ g2 (fun h => h), qn (by omega), g1]
    have k4' : H5.get H4.next = some (.strIter s (p + 1)) := by rw [hf5.keep _ g5 (fun h => h), qo]
    have hn5 := hf5.next
    rw [qbs] at hn5
    have ht5 := htc1.em hf5
    simp only [↓JN_eq, CTL3, OPS3, cast0, reduceIte, Nat.reduceEqDiff, ku, qh, egU]
    refine C3.q (qlf (M := M) ht5.pt.1 ht5.pt.2 r0 r1) fun v H6 ⟨hv, hf6⟩ => ?_
    subst hv
    have k1'' : H6.get H.next = some (OR x.enc qc) := by rw [hf6.keep _ (by omega) (fun h => h), k1']
    have k4'' : H6.get H4.next = some (.strIter s (p + 1)) := by rw [hf6.keep _ (by omega) (fun h => h), k4']
    have hw6 := (hw1.em hf5).em hf6
    have hn6 := hf6.next
    have ht6 := ht5.em hf6
    have htk : s.take (p + 1) = s.take p ++ [l] := by rw [List.take_add_one, hl]; rfl
    have fin : ∀ (word : B) (H7 : AHeap) (E' : Env), word = wordB x l → Fr Em H6 H7 → lk E' 3 = some w → lk E' 8 = some (.str word) → lk E' 26 = some (.ptr H4.next 0) → lk E' 1 = some (.ptr H.next 0) → W M ⟨none, yn⟩ (xv 34) true (BLK3 1 (LQ3 (fun n E Hc => ∃ p w, E = [(26, .ptr H4.next 0), (3, w), (1, .ptr H.next 0)] ∧ n = s.length - p ∧ p ≤ s.length ∧ Hc.get H.next = some (OR x.enc qc) ∧ H.next < Hc.next ∧ Hc.get H4.next = some (.strIter s p) ∧ H4.next < Hc.next ∧ ¬ OnS w H4.next ∧ Wds H3 Hc w ([dec x.time.toNat, dec x.core.toNat, kword x.kind] ++ (s.take p).map (wordB x)) ∧ Tab Hc) [] (s.length - p) (BLK3 0 (SEQ3 (W M ⟨none, yn⟩ (xv 35)) (FIN3 M [.tmp 2] (RT3 fun v H' => v = .str (lineB x) ∧ Fr Em H H')))))) E' [] H7 := by
      intro word H7 E' hword hf7 q3 q8 q26 q1
      have hw7 := hw6.em hf7
      have hn7 := hf7.next
      simp only [↓JN_eq, CTL3, OPS3, cast0, reduceIte, Nat.reduceEqDiff, ku, q3, q8]
      refine hw7.app hwl fun v8 H8 hv8 hf8 => ?_
      obtain ⟨m1, m2, m3⟩ := hf8.get (b := H.next) (by omega) (fun q => by have := (hw7.lo _ q).1; omega)
      obtain ⟨m4, m5, m6⟩ := hf8.get (b := H4.next) (by omega) g6
      simp only [↓JN_eq, CTL3, OPS3, cast0, reduceIte, Nat.reduceEqDiff, ku]
      refine ⟨_, _, ⟨p + 1, v8, rfl, rfl, by omega, by rw [m1, hf7.keep _ (by omega) (fun h => h), k1''], m2, by rw [m4, hf7.keep _ (by omega) (fun h => h), k4''], m5, m6, ?_, ht3.em hv8.fr⟩, by simp only [↓JN_eq, CTL3, OPS3, cast0, reduceIte, Nat.reduceEqDiff, q26, q1], by omega⟩
      rw [htk, List.map_append]
      rw [hword] at hv8
      exact .inl (by simpa using hv8)
    obtain ⟨-, -, -, -, -, -, w22, -, w28⟩ := ku M ⟨none, yn⟩
    by_cases h118 : l = 118
    · have e9 : Op.bin .neq [.int .i32 (l.toNat : Int), .int .i32 118] = some (.bool false) := by subst h118; rfl
      simp only [↓JN_eq, CTL3, OPS3, cast0, reduceIte, Nat.reduceEqDiff, w22, e9]
      exact fin _ _ _ (by subst h118; rfl) (Fr.refl _) rfl rfl rfl rfl
    · have e9 : Op.bin .neq [.int .i32 (l.toNat : Int), .int .i32 118] = some (.bool true) := by
        rcases hil with rfl | rfl | rfl | rfl | rfl | rfl <;> first | rfl | exact absurd rfl h118
      simp only [↓JN_eq, CTL3, OPS3, cast0, reduceIte, Nat.reduceEqDiff, w22, e9]
      refine C3.q (qjl (M := M) hil h118) fun v H7 ⟨w2, hv, hf7, hw2, hap⟩ => ?_
      subst hv
      by_cases hz : (wordsOf l).length = 0
      · have e10 : ¬ (0 : Int) < (((wordsOf l).length : Nat) : Int) := by omega
        simp only [↓JN_eq, CTL3, OPS3, cast0, reduceIte, Nat.reduceEqDiff, w28, qh, hw2.len, e10]
        refine fin _ _ _ ?_ hf7 rfl rfl rfl rfl
        unfold wordB; rw [List.getElem?_eq_none (by omega)]; rfl
      · have e10 : (0 : Int) < (((wordsOf l).length : Nat) : Int) := by omega
        have hm := hmay l hlm
        have hm2 : 1 ≤ getN x l ∧ getN x l < (wordsOf l).length := by
          unfold mayN at hm
          rw [if_neg h118] at hm
          have := (of_decide_eq_true hm).2
          omega
        obtain ⟨word, hwd⟩ : ∃ word, (wordsOf l)[numB x l]? = some word := ⟨(wordsOf l)[numB x l]'(by unfold numB; omega), by rw [List.getElem?_eq_getElem]⟩
        simp only [↓JN_eq, CTL3, OPS3, cast0, reduceIte, Nat.reduceEqDiff, w28, qh, hw2.len, e10, hw2.idx hwd (z := getN x l) (by unfold numB; omega), hw2.load0 vu hwd (by omega), encS]
        exact fin word _ _ (by unfold wordB; rw [hwd]) hf7 rfl rfl rfl rfl
  · have hp : p = s.length := by omega
    subst hp
    rw [List.take_length] at hw hwl
    simp only [↓JN_eq, CTL3, OPS3, cast0, reduceIte, Nat.reduceEqDiff, ku, qjg g4 (Nat.le_refl _), qh]
    have hlen7 : (lineW x).length ≤ 7 := by unfold lineW; rw [List.length_append, List.length_map, ← hs]; simp only [List.length_cons, List.length_nil]; omega
    have hlw : [dec x.time.toNat, dec x.core.toNat, kword x.kind] ++ s.map (wordB x) = lineW x := by rw [hs]; rfl
    rw [hlw] at hw
    have hjn := q0x x
    have hne : joinS [32] (lineW x) ≠ [] := by rw [hjn]; unfold lineB; simp [Lang.dec_ne]
    refine C3.q (qp7 (M := M) hw.sl (by omega) (by simp) ?_ fun _ => hne) fun r H5 ⟨hr, hf5⟩ => ?_
    · refine Nat.le_trans (qhn (k := 20) fun y hy => ?_) (show (lineW x).length * 20 ≤ 100000000000 by omega)
      rw [← hlw] at hy
      rcases List.mem_append.1 hy with hy | hy
      · have ht20 := Lang.dec_len20 (n := x.time.toNat) (by have := hx.time; omega)
        have hc20 := Lang.dec_len20 (n := x.core.toNat) (by omega)
        simp only [List.mem_cons, List.mem_nil_iff, or_false] at hy
        rcases hy with rfl | rfl | rfl
        · exact ht20
        · exact hc20
        · exact qva _
      · obtain ⟨l, hl, rfl⟩ := List.mem_map.1 hy
        obtain ⟨_, q2, _⟩ := hfld l (hs ▸ hl)
        exact qyu (by unfold numB; omega)
    subst hr
    rw [hjn]
    simp only [↓JN_eq, CTL3, OPS3, cast0, reduceIte, Nat.reduceEqDiff, ku]
    exact ((((hf1.em hf2).em hf3).em hw.fr0).em hf5)
end Go.Am
namespace Go.Am
open Tr
open Lang (dec)
variable {M : Mac} [MK M]
theorem qtb {x : Evt} (hx : EvR x) (hfi : fineB x = true) : (lineB x).length ≤ 200 := by
  obtain ⟨⟨h1, h2, h3, h4, h5⟩, h6⟩ := qe6 hfi
  have hsl : (named x.kind).length ≤ 4 := by unfold named; (repeat' split) <;> decide
  have ht20 := Lang.dec_len20 (n := x.time.toNat) (by have := hx.time; omega)
  have hc20 := Lang.dec_len20 (n := x.core.toNat) (by omega)
  have hk := qva x.kind
  have hw := qhn (l := named x.kind) (f := fun l => 32 :: wordB x l) (k := 21) fun l hl => by
    obtain ⟨q1, q2, q3⟩ := hx.get (qcm hl).1 (qio _ _ _ h6 l hl)
    have := qyu (x := x) (l := l) (by unfold numB; omega)
    rw [List.length_cons]; omega
  unfold lineB
  simp only [List.length_append, List.length_singleton]
  omega
theorem cat_str {a b : B} (h : a.length + b.length ≤ 140737488355328) : Op.bin .add [.str a, .str b] = some (.str (a ++ b)) := o_cat a b h
theorem q0d {H0 H : AHeap} {a : AV} {ws : List B} {x : Evt} (ht : Tab H0) (hx : EvR x) (hfi : fineB x = true) (ha : NewW H0 H a ws) (hl : ws.length < 900000) :
    CALLQ M kr [a, .agg x.enc] H fun v H' => NewW H0 H' v (ws ++ [lineB x ++ [10]]) := by
  refine qrq ?_
  have hf1 : Fr Em H (H.alloc (OR x.enc qc)) := (Fr.refl H).alloc _
  simp only [↓JN_eq, CTL3, OPS3, cast0, reduceIte, Nat.reduceEqDiff, qgh, q32 H x.enc _ _ _ 9 rfl]
  refine C3.q (q34 (M := M) hx hfi (ht.em (ha.fr.em hf1))) fun v H2 ⟨hv, hf2⟩ => ?_
  subst hv
  have hll := qtb hx hfi
  simp only [↓JN_eq, CTL3, OPS3, cast0, reduceIte, Nat.reduceEqDiff, qgh, cat_str (a := lineB x) (b := [10]) (by simp only [List.length_singleton]; omega)]
  refine (ha.em (hf1.em hf2)).app4 (bytes := 16) (a := lineB x ++ [10]) rfl rfl rfl rfl (by omega) (by omega) (by omega) fun v' H3 hv' hf3 => ?_
  simp only [↓JN_eq, CTL3, OPS3, cast0, reduceIte, Nat.reduceEqDiff, qgh]
  exact hv'
def TxtW (h : List Evt) : List B := h.map fun x => lineB x ++ [10]
def AllSQ (h : List Evt) (H : AHeap) (v : AV) (H' : AHeap) : Prop := Fr Em H H' ∧ ((h.all fineB = true ∧ ∃ w, v = .tuple [w, .int .i64 0] ∧ NewW H H' w (TxtW h)) ∨ (h.all fineB = false ∧ v = .tuple [.nils, .int .i64 2]))
theorem q2o {H : AHeap} {a : AV} {h : List Evt} (ha : SlT Evt.enc 9 H a h) (ht : Tab H) (hx : ∀ x ∈ h, EvR x) (hl : h.length ≤ 5000) :
    CALLQ M j9 [a, .fn (.func kr) [] []] H (AllSQ h H) := by
  refine qmi ?_
  simp only [↓JN_eq, CTL3, OPS3, cast0, reduceIte, Nat.reduceEqDiff, kc, ha.len]
  refine LOOP3.intro (fun n E Hc => ∃ i w, E = [(9, a), (10, .int .i64 h.length), (11, .int .i64 (i : Nat)), (6, w), (1, .fn (.func kr) [] [])] ∧ n = h.length - i ∧ i ≤ h.length ∧ (h.take i).all fineB = true ∧ NewW H Hc w (TxtW (h.take i))) ?_ ?_
  · exact ⟨_, _, ⟨0, .nils, rfl, rfl, by omega, by simp, New.nil H⟩, by simp only [↓JN_eq, CTL3, OPS3, cast0, reduceIte, Nat.reduceEqDiff]⟩
  rintro n E Hc ⟨i, w, rfl, rfl, hi, hfi, hw⟩
  simp only [↓JN_eq, CTL3, OPS3, cast0, reduceIte, Nat.reduceEqDiff, kc]
  refine IF3.dec (fun hlt => ?_) (fun hge => ?_)
  · have hlt : i < h.length := by omega
    obtain ⟨x, hxi⟩ : ∃ x, h[i]? = some x := ⟨h[i], by simp [hlt]⟩
    have hxm := List.mem_of_getElem? hxi
    have ha1 := ha.em hw.fr
    have htk : h.take (i + 1) = h.take i ++ [x] := by rw [List.take_add_one, hxi]; rfl
    have ew : wrapI .i64 ((i : Nat) + 1 : Int) = ((i + 1 : Nat) : Int) := xm (by omega) (by omega)
    have hbl : (TxtW (h.take i)).length ≤ 5000 := by unfold TxtW; rw [List.length_map, List.length_take]; omega
    simp (maxSteps := 4000000) (disch := first | (simp only [qb, qd]; done) | (simp only [qb, qd]; omega) | omega) only [↓JN_eq, CTL3, OPS3, MEM3, List.length_cons, List.length_nil, List.take_zero, List.take_succ_cons, List.drop_zero, List.drop_succ_cons, List.take_nil, List.drop_nil, Nat.reduceAdd, Nat.reduceSub, Nat.reduceLeDiff, Int.reduceLT, Int.reduceLE, Int.reduceEq, cast0, reduceIte, Nat.reduceEqDiff, kc, ha1.idx hxi rfl, ha1.loadN Evt.len (show 0 < 9 by omega) hxi, ev9, evt9, ql6, Evt.one', List.append_nil]
    have hf1 : Fr Em Hc (Hc.alloc (OR x.enc qc)) := (Fr.refl Hc).alloc _
    refine C3.q (qwb (M := M) (hx x hxm) (ht.em (hw.fr.em hf1))) fun v H2 ⟨hv, hf2⟩ => ?_
    subst hv
    have hg : H2.get Hc.next = some (OR x.enc qc) := by rw [hf2.keep _ (by rw [xf]; omega) (fun h => h), qk]
    have hw2 := hw.em (hf1.em hf2)
    cases hq : fineB x with
    | false =>
      simp (maxSteps := 4000000) (disch := first | (simp only [qb, qd]; done) | (simp only [qb, qd]; omega) | omega) only [↓JN_eq, CTL3, OPS3, MEM3, List.length_cons, List.length_nil, List.take_zero, List.take_succ_cons, List.drop_zero, List.drop_succ_cons, List.take_nil, List.drop_nil, Nat.reduceAdd, Nat.reduceSub, Nat.reduceLeDiff, Int.reduceLT, Int.reduceLE, Int.reduceEq, cast0, reduceIte, Nat.reduceEqDiff, kc, hq]
      exact ⟨hw2.fr, .inr ⟨by
        rw [Bool.eq_false_iff]; intro hall
        have := List.all_eq_true.1 hall x hxm
        rw [hq] at this; exact absurd this (by decide), rfl⟩⟩
    | true =>
      simp (maxSteps := 4000000) (disch := first | (simp only [qb, qd]; done) | (simp only [qb, qd]; omega) | omega) only [↓JN_eq, CTL3, OPS3, MEM3, List.length_cons, List.length_nil, List.take_zero, List.take_succ_cons, List.drop_zero, List.drop_succ_cons, List.take_nil, List.drop_nil, Nat.reduceAdd, Nat.reduceSub, Nat.reduceLeDiff, Int.reduceLT, Int.reduceLE, Int.reduceEq, cast0, reduceIte, Nat.reduceEqDiff, kc, hq, hg, ev9, evt9, List.nil_append, List.append_nil]
      refine C3.q (q0d (M := M) ht (hx x hxm) hq hw2 (by omega)) fun v3 H3 hv3 => ?_
      simp only [↓JN_eq, CTL3, OPS3, cast0, reduceIte, Nat.reduceEqDiff, kc, ew]
      exact ⟨_, _, ⟨i + 1, v3, rfl, rfl, by omega, by rw [htk, List.all_append, hfi]; simp [hq], by unfold TxtW at hv3 ⊢; rw [htk, List.map_append]; simpa using hv3⟩, by simp only [↓JN_eq, CTL3, OPS3, cast0, reduceIte, Nat.reduceEqDiff], by omega⟩
  · simp only [↓JN_eq, CTL3, OPS3, cast0, reduceIte, Nat.reduceEqDiff, kc]
    rw [List.take_of_length_le (by omega)] at hfi hw
    exact ⟨hw.fr, .inl ⟨hfi, w, rfl, hw⟩⟩
theorem join_Txt (h : List Evt) : joinS [] (TxtW h) = textB h := by
  unfold TxtW textB
  cases h with
  | nil => rfl
  | cons x h => simp [joinS, List.flatMap_map]
def TextQ (h : List Evt) (H : AHeap) (v : AV) (H' : AHeap) : Prop := Fr Em H H' ∧ ((h.all fineB = true ∧ v = .tuple [.str (textB h), .int .i64 0]) ∨ (h.all fineB = false ∧ v = .tuple [.str [], .int .i64 2]))
theorem q1l {H : AHeap} {a : AV} {h : List Evt} (ha : SlT Evt.enc 9 H a h) (ht : Tab H) (hx : ∀ x ∈ h, EvR x) (hl : h.length ≤ 5000) :
    CALLQ M vf [a] H (TextQ h H) := by
  refine qvp ?_
  simp only [↓JN_eq, CTL3, OPS3, cast0, reduceIte, Nat.reduceEqDiff, qdv]
  refine C3.q (q2o (M := M) ha ht hx hl) fun v H' ⟨hf, hq⟩ => ?_
  rcases hq with ⟨h1, w, rfl, h3⟩ | ⟨h1, rfl⟩
  · simp only [↓JN_eq, CTL3, OPS3, cast0, reduceIte, Nat.reduceEqDiff, qdv, qh]
    have hjn := join_Txt h
    have hfl : totL (TxtW h) ≤ 5000 * 201 := by
      unfold totL TxtW
      rw [List.flatMap_map]
      refine Nat.le_trans (qhn (k := 201) fun x hxm => ?_) (Nat.mul_le_mul_right _ hl)
      have := qtb (hx x hxm) (List.all_eq_true.1 h1 x hxm)
      rw [List.length_append, List.length_singleton]; omega
    refine C3.q (qp7 (M := M) h3.sl (by unfold TxtW; rw [List.length_map]; omega) (by simp) (by omega) fun h2 => ?_) fun r H5 ⟨hr, hf5⟩ => ?_
    · rw [hjn]
      cases h with
      | nil => simp [TxtW] at h2
      | cons x h => simp [textB]
    subst hr
    rw [hjn]
    simp only [↓JN_eq, CTL3, OPS3, cast0, reduceIte, Nat.reduceEqDiff, qdv]
    exact ⟨hf.em hf5, .inl ⟨h1, rfl⟩⟩
  · simp only [↓JN_eq, CTL3, OPS3, cast0, reduceIte, Nat.reduceEqDiff, qdv, qh]
    have hsl : SlT encS 1 H' .nils [] := ⟨rfl, rfl⟩
    refine C3.q (qp7 (M := M) (sep := []) hsl (by simp) (by simp) (by simp [totL]) (by simp)) fun r H5 ⟨hr, hf5⟩ => ?_
    subst hr
    simp only [↓JN_eq, CTL3, OPS3, cast0, reduceIte, Nat.reduceEqDiff, qdv, joinS]
    exact ⟨hf.em hf5, .inr ⟨h1, rfl⟩⟩
end Go.Am
namespace Go.Am
variable {M : Mac} [MK M]
theorem Evt.one (x : Evt) : allOne x.enc = true := rfl
abbrev NewE := New Evt.enc qc 9
theorem qve {H : AHeap} {a b : AV} {xs ys : List Evt} (ha : SlT Evt.enc 9 H a xs) (hb : SlT Evt.enc 9 H b ys) (hl : xs.length < 1000000) :
    CALLQ M wl [a, b] H fun v H' => v = .bool (decide (xs = ys)) ∧ H' = H := by
  refine qu0 ?_
  by_cases hne : xs.length = ys.length
  · have e0 : ¬ ((xs.length : Nat) : Int) ≠ (ys.length : Nat) := by omega
    simp only [↓JN_eq, CTL3, OPS3, cast0, reduceIte, Nat.reduceEqDiff, qbx, ha.len, hb.len, hne]
    refine LOOP3.intro (fun n E H' => ∃ i, H' = H ∧ E = [(0, a), (1, b), (5, .int .i64 (i : Nat))] ∧ n = xs.length - i ∧ i ≤ xs.length ∧ ∀ j, j < i → xs[j]? = ys[j]?) ?_ ?_
    · exact ⟨_, _, ⟨0, rfl, rfl, rfl, by omega, fun j hj => by omega⟩, by simp only [↓JN_eq, CTL3, OPS3, cast0, reduceIte, Nat.reduceEqDiff]⟩
    rintro n E H' ⟨i, rfl, rfl, rfl, hi, hj⟩
    simp only [↓JN_eq, CTL3, OPS3, cast0, reduceIte, Nat.reduceEqDiff, qbx, ha.len]
    refine IF3.dec (fun hlt => ?_) (fun hge => ?_)
    · have hlt : i < xs.length := by omega
      obtain ⟨x, hx⟩ : ∃ x, xs[i]? = some x := ⟨xs[i], by simp [hlt]⟩
      obtain ⟨y, hy⟩ : ∃ y, ys[i]? = some y := ⟨ys[i]'(by omega), by simp [show i < ys.length by omega]⟩
      have ew : wrapI .i64 ((i : Nat) + 1 : Int) = ((i + 1 : Nat) : Int) := xm (by omega) (by omega)
      by_cases hxy : x = y
      · simp only [↓JN_eq, CTL3, OPS3, cast0, reduceIte, Nat.reduceEqDiff, qbx, ha.idx hx rfl, hb.idx hy rfl, ha.loadN Evt.len (by omega) hx, hb.loadN Evt.len (by omega) hy, ev_ne, hxy, ew]
        refine ⟨_, _, ⟨i + 1, rfl, rfl, by omega, fun j hj' => ?_⟩, by simp only [↓JN_eq, CTL3, OPS3, cast0, reduceIte, Nat.reduceEqDiff], by omega⟩
        rcases Nat.lt_succ_iff_lt_or_eq.1 hj' with q | rfl
        · exact hj j q
        · rw [hx, hy, hxy]
      · simp only [↓JN_eq, CTL3, OPS3, cast0, reduceIte, Nat.reduceEqDiff, qbx, ha.idx hx rfl, hb.idx hy rfl, ha.loadN Evt.len (by omega) hx, hb.loadN Evt.len (by omega) hy, ev_ne, hxy]
        have : xs ≠ ys := fun h => by subst h; rw [hx] at hy; injection hy with hy; exact hxy hy
        simp [this]
    · simp only [↓JN_eq, CTL3, OPS3, cast0, reduceIte, Nat.reduceEqDiff, qbx]
      have : xs = ys := List.ext_getElem? fun j => by
        by_cases q : j < i
        · exact hj j q
        · rw [List.getElem?_eq_none (by omega), List.getElem?_eq_none (by omega)]
      simp [this]
  · have e0 : ((xs.length : Nat) : Int) ≠ (ys.length : Nat) := by omega
    simp only [↓JN_eq, CTL3, OPS3, cast0, reduceIte, Nat.reduceEqDiff, qbx, ha.len, hb.len, e0]
    have : xs ≠ ys := fun h => hne (by rw [h])
    simp [this]
theorem qzu {H0 H : AHeap} {v : AV} {xs : List UInt8} (h : NewB H0 H v xs) : Op.strOfBytes [v] H = some (.str xs) := by
  have hs := h.sl
  have e : Op.strOfBytes [v] H = (lenV v).bind fun n => (firstCells H 1 n v).bind fun l => (bytesOf l).bind fun s => some (.str s) := by
    cases v <;> first | rfl | exact hs.2.elim
  rw [e, Sl.lenV hs, Option.bind_some, Sl.first hs, Option.bind_some, qgv, qfn]; rfl
end Go.Am
namespace Go.Am
open Tr
variable {M : Mac} [MK M]
theorem qnr {a : Int} (h : (Lit.int .i64 a).wf = true) : a < 9223372036854775808 := by
  simp only [Lit.wf, Bool.and_eq_true, decide_eq_true_eq] at h
  have : IntKind.max .i64 = 9223372036854775807 := by decide
  omega
theorem wf_u64 {a : Int} (h : (Lit.int .u64 a).wf = true) : 0 ≤ a ∧ a < 18446744073709551616 := by
  simp only [Lit.wf, Bool.and_eq_true, decide_eq_true_eq] at h
  have h1 : IntKind.max .u64 = 18446744073709551615 := by decide
  have h2 : IntKind.min .u64 = 0 := by decide
  omega
theorem textB_le {h : List Evt} (hx : ∀ x ∈ h, EvR x) (hf : h.all fineB = true) : (textB h).length ≤ h.length * 201 := by
  unfold textB
  exact qhn (k := 201) fun x hxm => by
    have := qtb (hx x hxm) (List.all_eq_true.1 hf x hxm)
    rw [List.length_append, List.length_singleton]; omega
theorem encs_le {h : List Evt} (hx : ∀ x ∈ h, EvR x) (hf : h.all fineB = true) : (h.flatMap encE).length ≤ h.length * 61 :=
  qhn (k := 61) fun x hxm => q14 (hx x hxm) (List.all_eq_true.1 hf x hxm)
def eN (h : List Evt) : Int := if h.all fineB = true then 0 else 2
def eB (h : List Evt) : B := if h.all fineB = true then h.flatMap encE else []
def tB (h : List Evt) : B := if h.all fineB = true then textB h else []
theorem qze {H : AHeap} {a : AV} {h : List Evt} (ha : SlT Evt.enc 9 H a h) (ht : Tab H) (hx : ∀ x ∈ h, EvR x) (hl : h.length ≤ 5000) :
    CALLQ M kp [a] H fun v H' => ∃ w, v = .tuple [w, .int .i64 (eN h)] ∧ NewB H H' w (eB h) :=
  (qyi (M := M) ha ht hx hl).mono fun v H' ⟨hf, hq⟩ => by
    rcases hq with ⟨h1, w, rfl, h3⟩ | ⟨h1, rfl⟩
    · exact ⟨w, by simp [eN, h1], by simpa [eB, h1] using h3⟩
    · exact ⟨.nils, by simp [eN, h1], by simpa [eB, h1] using (New.nil H).em hf⟩
theorem qy4 {H : AHeap} {a : AV} {h : List Evt} (ha : SlT Evt.enc 9 H a h) (ht : Tab H) (hx : ∀ x ∈ h, EvR x) (hl : h.length ≤ 5000) :
    CALLQ M vf [a] H fun v H' => v = .tuple [.str (tB h), .int .i64 (eN h)] ∧ Fr Em H H' :=
  (q1l (M := M) ha ht hx hl).mono fun v H' ⟨hf, hq⟩ => by
    rcases hq with ⟨h1, rfl⟩ | ⟨h1, rfl⟩
    · exact ⟨by simp [eN, tB, h1], hf⟩
    · exact ⟨by simp [eN, tB, h1], hf⟩
theorem eB_le {h : List Evt} (hx : ∀ x ∈ h, EvR x) : (eB h).length ≤ h.length * 61 := by
  unfold eB; split
  · rename_i hf; exact encs_le hx hf
  · simp
theorem tB_le {h : List Evt} (hx : ∀ x ∈ h, EvR x) : (tB h).length ≤ h.length * 201 := by
  unfold tB; split
  · rename_i hf; exact textB_le hx hf
  · simp
end Go.Am
namespace Go.Am
open Tr
variable {M : Mac} [MK M]
theorem and127 (c : UInt8) : Op.bin .and [.int .u8 (c.toNat : Int), .int .u8 127] = some (.int .u8 ((c.toNat % 128 : Nat) : Int)) := by
  have key : ∀ n : Fin 256, wrapI .u8 ((BitVec.ofInt 8 ((n.1 : Nat) : Int) &&& BitVec.ofInt 8 127).toNat : Int) = ((n.1 % 128 : Nat) : Int) := by decide +kernel
  have := key ⟨c.toNat, c.toNat_lt⟩
  show some (AV.int .u8 (wrapI .u8 ((BitVec.ofInt 8 ((c.toNat : Nat) : Int) &&& BitVec.ofInt 8 127).toNat : Int))) = _
  rw [this]
theorem or_add {a b i : Nat} (ha : a < 2 ^ i) (hb : 2 ^ i ∣ b) (hs : a + b < 18446744073709551616) : Op.bin .or [.int .u64 (a : Int), .int .u64 (b : Int)] = some (.int .u64 ((a + b : Nat) : Int)) := by
  show some (AV.int .u64 (wrapI .u64 ((BitVec.ofInt 64 (a : Int) ||| BitVec.ofInt 64 (b : Int)).toNat : Int))) = _
  have h1 : (BitVec.ofInt 64 (a : Int)).toNat = a := by simp [BitVec.toNat_ofInt]; omega
  have h2 : (BitVec.ofInt 64 (b : Int)).toNat = b := by simp [BitVec.toNat_ofInt]; omega
  obtain ⟨c, rfl⟩ := hb
  have h3 : a ||| 2 ^ i * c = a + 2 ^ i * c := by
    rw [Nat.or_comm, ← Nat.two_pow_add_eq_or_of_lt ha]; omega
  rw [BitVec.toNat_or, h1, h2, h3, qdf (by omega) (by omega)]
theorem shl_nat {a n : Nat} (hn : n ≤ 64) (h : a * 2 ^ n < 18446744073709551616) : Op.bin .shl [.int .u64 (a : Int), .int .i64 (n : Int)] = some (.int .u64 ((a * 2 ^ n : Nat) : Int)) := by
  have e : IntKind.bits .u64 = 64 := rfl
  rw [o_shl, e, Nat.min_eq_left hn]
  have : (a : Int) * 2 ^ n = ((a * 2 ^ n : Nat) : Int) := by simp
  rw [this, qdf (by omega) (by omega)]
theorem pow7 (k : Nat) : 2 ^ (7 * k) = 128 ^ k := by rw [Nat.pow_mul]
structure Rd (H : AHeap) (p : Nat) (bs : B) : Prop where
  row : ∃ w e, H.get p = some (OR [w] e) ∧ SlT encB 1 H w bs ∧ (w = .nils ∨ slB w < p)
  lt : p < H.next
theorem Rd.em {H H' : AHeap} {p : Nat} {bs : B} (h : Rd H p bs) (f : Fr Em H H') : Rd H' p bs := by
  obtain ⟨⟨w, e, h1, h2, h3⟩, h4⟩ := h
  exact ⟨⟨w, e, by rw [f.keep p h4 (fun q => q), h1], h2.em f, h3⟩, Nat.lt_of_lt_of_le h4 f.next⟩
theorem Rd.off {H H' : AHeap} {p b : Nat} {bs : B} (h : Rd H p bs) (f : Fr (On b) H H') (hb : p < b) : Rd H' p bs := by
  obtain ⟨⟨w, e, h1, h2, h3⟩, h4⟩ := h
  refine ⟨⟨w, e, by rw [f.keep p h4 (fun (q : p = b) => by omega), h1], ?_, h3⟩, Nat.lt_of_lt_of_le h4 f.next⟩
  rcases h3 with rfl | h3
  · exact ⟨h2.1, h2.2⟩
  · exact SlT.fr h2 f fun (q : slB w = b) => by omega
def TkQ (H : AHeap) (p : Nat) (bs : B) (v : AV) (H' : AHeap) : Prop := Fr (On p) H H' ∧ ∃ (n : Nat) (ok : Bool) (r : B), v = .tuple [.int .u64 (n : Nat), .bool ok] ∧ n < 18446744073709551616 ∧ Rd H' p r ∧ r.length ≤ bs.length ∧ (ok = true → takeB bs = some (n, r)) ∧ (ok = false → takeB bs = none)
def soFar (bs : B) : Nat → Nat
  | 0 => 0
  | i + 1 => soFar bs i + (match bs[i]? with | some c => c.toNat % 128 * 128 ^ i | none => 0)
theorem qzf (bs : B) : ∀ i, soFar bs i < 128 ^ i
  | 0 => by simp [soFar]
  | i + 1 => by
    have ih := qzf bs i
    rw [soFar, Nat.pow_succ]
    cases bs[i]? with
    | none => simp only; have : 0 < 128 ^ i := Nat.pow_pos (by decide); omega
    | some c =>
      simp only
      have : c.toNat % 128 * 128 ^ i ≤ 127 * 128 ^ i := Nat.mul_le_mul_right _ (by omega)
      omega
theorem take_unf {bs : B} {i : Nat} {c : UInt8} (h : bs[i]? = some c) : takeGo i (soFar bs i) (bs.drop i) = if i = 10 ∨ i = 9 ∧ 1 < c.toNat then none else if c.toNat < 128 then (if i = 0 ∨ 0 < c.toNat then some (soFar bs (i + 1), bs.drop (i + 1)) else none) else takeGo (i + 1) (soFar bs (i + 1)) (bs.drop (i + 1)) := by
  have hi : i < bs.length := (List.getElem?_eq_some_iff.1 h).1
  have hd : bs.drop i = c :: bs.drop (i + 1) := by rw [List.drop_eq_getElem_cons hi]; congr 1; simpa [hi] using h
  rw [hd, takeGo, soFar, h]
theorem take19 {E : Env} {H : AHeap} {Q : Post3} {i : Nat} {c : UInt8} (e5 : lk E 5 = some (.int .i64 (i : Int))) (e6 : lk E 6 = some (.int .u8 c.toNat))
    (hb : (i = 10 ∨ i = 9 ∧ 1 < c.toNat) → Q .ret ((3, .bool false) :: (2, .int .u64 0) :: E) [] H) (hg : ¬ (i = 10 ∨ i = 9 ∧ 1 < c.toNat) → W M ⟨none, js⟩ (x7 27) true Q E [] H) :
    W M ⟨none, js⟩ (x7 19) true Q E [] H := by
  obtain ⟨-, -, -, -, -, -, w19, -⟩ := qfz M ⟨none, js⟩
  by_cases h10 : i = 10
  · subst h10
    have e5 : lk E 5 = some (.int .i64 10) := e5
    simp only [↓JN_eq, CTL3, OPS3, cast0, reduceIte, Nat.reduceEqDiff, w19, e5]
    exact hb (.inl rfl)
  have n10 : ¬ (i : Int) = 10 := by omega
  by_cases h9 : i = 9
  · subst h9
    have e5 : lk E 5 = some (.int .i64 9) := e5
    by_cases hc : 1 < c.toNat
    · have h1 : (1 : Int) < (c.toNat : Int) := by omega
      simp only [↓JN_eq, CTL3, OPS3, cast0, reduceIte, Nat.reduceEqDiff, w19, e5, e6, h1, Int.reduceEq]
      exact hb (.inr ⟨rfl, hc⟩)
    · have h1 : ¬ (1 : Int) < (c.toNat : Int) := by omega
      simp only [↓JN_eq, CTL3, OPS3, cast0, reduceIte, Nat.reduceEqDiff, w19, e5, e6, h1, Int.reduceEq]
      exact hg (fun q => q.elim (by omega) fun q => hc q.2)
  · have n9 : ¬ (i : Int) = 9 := by omega
    simp only [↓JN_eq, CTL3, OPS3, cast0, reduceIte, Nat.reduceEqDiff, w19, e5, n10, n9]
    exact hg (fun q => q.elim h10 fun q => h9 q.1)
theorem qqs {H : AHeap} {p : Nat} {bs : B} (h : Rd H p bs) (hl : bs.length < 1000000) : CALLQ M js [.ptr p 0] H (TkQ H p bs) := by
  refine qwr ?_
  obtain ⟨⟨w, e, h1, h2, h3⟩, h4⟩ := h
  have l1 : Op.load1 [.ptr p 0] H = some w := by rw [kx (x4 h1)]; rfl
  simp only [↓JN_eq, CTL3, OPS3, cast0, reduceIte, Nat.reduceEqDiff, qfz, qbw, l1, h2.len]
  refine LOOP3.intro (fun n E H' => ∃ i, H' = H ∧ E = [(9, w), (10, .int .i64 bs.length), (11, .int .i64 (i : Nat)), (4, .int .u64 (soFar bs i : Nat)), (0, .ptr p 0)] ∧ n = bs.length - i ∧ i ≤ bs.length ∧ i ≤ 10 ∧ takeGo i (soFar bs i) (bs.drop i) = takeB bs) ?_ ?_
  · exact ⟨_, _, ⟨0, rfl, rfl, rfl, by omega, by omega, rfl⟩, by simp only [↓JN_eq, CTL3, OPS3, cast0, reduceIte, Nat.reduceEqDiff]; rfl⟩
  rintro n E H' ⟨i, rfl, rfl, rfl, hi, hi10, hgo⟩
  rcases Nat.lt_or_ge i bs.length with hlt | hge
  · obtain ⟨c, hc⟩ : ∃ c, bs[i]? = some c := ⟨bs[i], by simp [hlt]⟩
    have e1 : (i : Int) < (bs.length : Nat) := by omega
    rw [take_unf hc] at hgo
    have ek : wrapI .i64 ((i : Int) + 1) = ((i + 1 : Nat) : Int) := by rw [xm (by omega) (by omega)]; omega
    have hrd : Rd H' p bs := ⟨⟨w, e, h1, h2, h3⟩, h4⟩
    have lx : Op.load1 [.ptr (slB w) (slO 1 w i)] H' = some (.int .u8 c.toNat) := by rw [h2.load0 qlx hc (by omega)]; rfl
    obtain ⟨-, -, w39, w9, w15, w38, -, w27⟩ := qfz M ⟨none, js⟩
    simp only [↓JN_eq, CTL3, OPS3, cast0, reduceIte, Nat.reduceEqDiff, w9, w15, e1, h2.idx hc rfl, lx]
    refine take19 rfl rfl (fun hbad => ?_) fun hok => ?_
    · rw [if_pos hbad] at hgo
      simp only [↓JN_eq, CTL3, OPS3, cast0, reduceIte, Nat.reduceEqDiff]
      exact ⟨Fr.refl _, 0, false, bs, rfl, by omega, hrd, Nat.le_refl _, (fun q => nomatch q), fun _ => hgo.symm⟩
    rw [if_neg hok] at hgo
    have hsf := qzf bs i
    have hstep : soFar bs (i + 1) = soFar bs i + c.toNat % 128 * 128 ^ i := by rw [soFar, hc]
    have hi9 : i ≤ 9 := by omega
    have hbig : soFar bs i + c.toNat % 128 * 128 ^ i < 18446744073709551616 := by
      by_cases h9 : i = 9
      · subst h9
        have : (128 : Nat) ^ 9 = 9223372036854775808 := by decide
        rw [this] at hsf ⊢
        have : c.toNat ≤ 1 := by omega
        omega
      · have hp : 128 ^ i ≤ 72057594037927936 := by
          have : 128 ^ i ≤ 128 ^ 8 := Nat.pow_le_pow_right (by decide) (by omega)
          exact Nat.le_trans this (by decide)
        have : c.toNat % 128 * 128 ^ i ≤ 127 * 72057594037927936 := Nat.mul_le_mul (by omega) hp
        omega
    have w7 : wrapI .u64 ((c.toNat % 128 : Nat) : Int) = ((c.toNat % 128 : Nat) : Int) := w_u64 (by omega)
    have m7 : wrapI .i64 (7 * (i : Int)) = ((7 * i : Nat) : Int) := by rw [xm (by omega) (by omega)]; omega
    have s7 : Op.bin .shl [.int .u64 ((c.toNat % 128 : Nat) : Int), .int .i64 ((7 * i : Nat) : Int)] = some (.int .u64 ((c.toNat % 128 * 128 ^ i : Nat) : Int)) := by
      rw [shl_nat (by omega) (by rw [pow7]; omega), pow7]
    have r7 : Op.bin .or [.int .u64 ((soFar bs i : Nat) : Int), .int .u64 ((c.toNat % 128 * 128 ^ i : Nat) : Int)] = some (.int .u64 ((soFar bs (i + 1) : Nat) : Int)) := by
      rw [or_add (i := 7 * i) (by rw [pow7]; exact hsf) (by rw [pow7]; exact Nat.dvd_mul_left ..) hbig, hstep]
    by_cases h128 : c.toNat < 128
    · have e4 : (c.toNat : Int) < 128 := by omega
      rw [if_pos h128] at hgo
      obtain ⟨w2, hs2, hsl2, hor⟩ := h2.from qlx (k := i + 1) (by omega) (z := ((i + 1 : Nat) : Int)) rfl .i64
      have hone : oneCell w2 = true := SlT.one hsl2
      have hcl : AV.cells w2 = [w2] := by cases w2 <;> first | rfl | cases hone
      have hst : Op.store 1 [.ptr p 0, w2] H' = some (.undef, H'.set p (OR [w2] e)) := by
        rw [qco (o := 0) (n := 1) (v := w2) h1 (by rw [hcl]; rfl) (by simp) (by rw [hcl, qck]; simp [hone])]
        simp [hcl]
      have hap : w2 = .nils ∨ slB w2 < p := hor.imp id fun q => by
        rcases h3 with rfl | h3
        · have h20 := h2.2
          have : bs.length = 0 := h20
          omega
        · omega
      have hrd2 : Rd (H'.set p (OR [w2] e)) p (bs.drop (i + 1)) := by
        refine ⟨⟨w2, e, qo .., ?_, hap⟩, h4⟩
        rcases hap with rfl | hap
        · exact ⟨hsl2.1, hsl2.2⟩
        · exact SlT.fr hsl2 ((Fr.refl H').set (W := On p) (.inl rfl) _) fun (q : slB w2 = p) => by omega
      have hlt64 : soFar bs (i + 1) < 18446744073709551616 := by omega
      have hfr : Fr (On p) H' (H'.set p (OR [w2] e)) := (Fr.refl H').set (W := On p) (.inl rfl) _
      by_cases hi0 : i = 0
      · subst hi0
        rw [if_pos (.inl rfl)] at hgo
        have z0 : ((0 : Nat) : Int) = 0 := rfl
        rw [z0] at m7 s7 ek
        have hs2' : Op.sliceSl 1 [some 0, none, none] [w, .int .i64 ((0 + 1 : Nat) : Int)] = some w2 := hs2
        simp only [↓JN_eq, CTL3, OPS3, cast0, reduceIte, Nat.reduceEqDiff, w27, and127, w7, m7, s7, r7, e4, qbw, l1, ek, hs2', hst]
        exact ⟨hfr, _, true, _, rfl, hlt64, hrd2, by rw [List.length_drop]; omega, fun _ => hgo.symm, (fun q => nomatch q)⟩
      · have e0 : ¬ (i : Int) = 0 := by omega
        by_cases hc0 : 0 < c.toNat
        · have e6 : (0 : Int) < (c.toNat : Int) := by omega
          rw [if_pos (.inr hc0)] at hgo
          simp only [↓JN_eq, CTL3, OPS3, cast0, reduceIte, Nat.reduceEqDiff, w27, and127, w7, m7, s7, r7, e4, qbw, l1, ek, hs2, hst, e0, e6]
          exact ⟨hfr, _, true, _, rfl, hlt64, hrd2, by rw [List.length_drop]; omega, fun _ => hgo.symm, (fun q => nomatch q)⟩
        · have e6 : ¬ (0 : Int) < (c.toNat : Int) := by omega
          rw [if_neg (fun q => q.elim hi0 hc0)] at hgo
          simp only [↓JN_eq, CTL3, OPS3, cast0, reduceIte, Nat.reduceEqDiff, w27, and127, w7, m7, s7, r7, e4, qbw, l1, ek, hs2, hst, e0, e6]
          exact ⟨hfr, _, false, _, rfl, hlt64, hrd2, by rw [List.length_drop]; omega, (fun q => nomatch q), fun _ => hgo.symm⟩
    · have e4 : ¬ (c.toNat : Int) < 128 := by omega
      rw [if_neg h128] at hgo
      simp only [↓JN_eq, CTL3, OPS3, cast0, reduceIte, Nat.reduceEqDiff, w27, w38, and127, w7, m7, s7, r7, e4, ek]
      exact ⟨_, _, ⟨i + 1, rfl, rfl, by omega, by omega, hgo⟩, by simp only [↓JN_eq, CTL3, OPS3, cast0, reduceIte, Nat.reduceEqDiff], by omega⟩
  · have hi : i = bs.length := by omega
    subst hi
    have e1 : ¬ ((bs.length : Nat) : Int) < (bs.length : Nat) := by omega
    simp only [↓JN_eq, CTL3, OPS3, cast0, reduceIte, Nat.reduceEqDiff, qfz, e1]
    rw [List.drop_length, takeGo] at hgo
    exact ⟨Fr.refl _, 0, false, bs, rfl, by omega, ⟨⟨w, e, h1, h2, h3⟩, h4⟩, Nat.le_refl _, (fun q => nomatch q), fun _ => hgo.symm⟩
end Go.Am
namespace Go.Am
open Tr
variable {M : Mac} [MK M]
theorem Tab.off {H H' : AHeap} {p : Nat} (h : Tab H) (f : Fr (On p) H H') (hp : 10 ≤ p) : Tab H' := by
  have hl := h.lt
  exact ⟨Nat.le_trans hl f.next, (f.cells (show (0 : Nat) < H.next by omega) (fun (q : 0 = p) => by omega)).trans h.named, (f.cells (show (1 : Nat) < H.next by omega) (fun (q : 1 = p) => by omega)).trans h.kinds, (f.cells (show (2 : Nat) < H.next by omega) (fun (q : 2 = p) => by omega)).trans h.pow⟩
def zE : Evt := ⟨0, 0, 0, 0, 0, 0, 0, 0, 0⟩
theorem qos : zE.enc = [.int .i64 0, .int .i64 0, .int .i64 0, .int .i64 0, .int .i64 0, .int .i64 0, .int .i64 0, .int .u64 0, .int .i64 0] := rfl
def EvQ (H : AHeap) (p : Nat) (bs : B) (v : AV) (H' : AHeap) : Prop := Fr (On p) H H' ∧ ∃ (y : Evt) (ok : Bool) (r : B), v = .tuple [.agg y.enc, .bool ok] ∧ Rd H' p r ∧ r.length ≤ bs.length ∧ (ok = true → oneB bs = some (y, r)) ∧ (ok = false → oneB bs = none)
theorem st_ev {H : AHeap} {b : Nat} {x y : Evt} (h : H.get b = some (OR x.enc qc)) : Op.store 9 [.ptr b 0, .agg y.enc] H = some (.undef, H.set b (OR y.enc qc)) := by
  rw [qco (o := 0) (n := 9) (v := .agg y.enc) h rfl (by rw [ev9]; omega) (Evt.one y)]; rfl
theorem ld_ev {H : AHeap} {b : Nat} {x : Evt} (h : H.get b = some (OR x.enc qc)) : Op.loadN 9 [.ptr b 0] H = some (.agg x.enc) := by
  rw [qoe (c := x.enc) (x4 h) (by rw [ev9]; omega)]; rfl
structure EvM (H : AHeap) (p : Nat) (Hc : AHeap) (r : B) : Prop where
  fr : Fr (On p) H Hc
  rd : Rd Hc p r
  t2 : Hc.get H.next = some (OR zE.enc qc)
  lt : H.next < Hc.next
  tab : Tab Hc
theorem EvM.step {H H1 H2 : AHeap} {p : Nat} {r r' : B} (h : EvM H p H1 r) (f : Fr (On p) H1 H2) (hr : Rd H2 p r') (hp : 10 ≤ p) (hl : p < H.next) : EvM H p H2 r' :=
  ⟨h.fr.trans f (fun _ q => .inl q), hr, by rw [f.keep _ h.lt (fun (q : H.next = p) => by omega), h.t2], Nat.lt_of_lt_of_le h.lt f.next, h.tab.off f hp⟩
theorem EvM.em {H H1 H2 : AHeap} {p : Nat} {r : B} (h : EvM H p H1 r) (f : Fr Em H1 H2) (hp : 10 ≤ p) (hl : p < H.next) : EvM H p H2 r :=
  h.step (f.mono (W' := On p) fun _ _ q => q.elim) (h.rd.em f) hp hl
theorem EvM.setOff {H H1 : AHeap} {p : Nat} {r : B} (h : EvM H p H1 r) {b : Nat} (hb : H.next < b) (hp : 10 ≤ p) (hl : p < H.next) (o : AObj) : EvM H p (H1.set b o) r := by
  have hf : Fr (On b) H1 (H1.set b o) := (Fr.refl _).set (W := On b) (.inl rfl) _
  refine ⟨h.fr.set (.inr (by omega)) _, h.rd.off hf (by omega), by rw [qn (by omega), h.t2], h.lt, h.tab.off hf (by omega)⟩
theorem qcl : Op.build [.int .i64 0, .int .i64 0, .int .i64 0, .int .i64 0, .int .i64 0, .int .i64 0, .int .i64 0, .int .u64 0, .int .i64 0] [] [] = some (.agg zE.enc) := rfl
theorem ld_z {Hc : AHeap} {b : Nat} {y : Evt} : Op.loadN 9 [.ptr b 0] (Hc.set b (OR y.enc qc)) = some (.agg y.enc) := ld_ev (qo ..)
theorem EvM.bad {H Hc : AHeap} {p : Nat} {r bs : B} (h : EvM H p Hc r) (hr : r.length ≤ bs.length) (ho : oneB bs = none) (hl : p < H.next) :
    EvQ H p bs (.tuple [.agg zE.enc, .bool false]) (Hc.set H.next (OR zE.enc qc)) := by
  have hf : Fr (On H.next) Hc (Hc.set H.next (OR zE.enc qc)) := (Fr.refl _).set (W := On H.next) (.inl rfl) _
  exact ⟨h.fr.set (.inr (Nat.le_refl _)) _, zE, false, r, rfl, h.rd.off hf hl, hr, (fun q => nomatch q), fun _ => ho⟩
theorem q0i {H : AHeap} {p : Nat} {bs : B} {r0 : B} {y0 : Evt} {Hc : AHeap} {E : Env} {k : Nat} (h : EvM H p Hc r0) (hk1 : 1 ≤ k) (hk2 : k ≤ 8) (hl : bs.length < 1000000) (hr0 : r0.length ≤ bs.length) (hp : 10 ≤ p) (hlp : p < H.next)
    {b5 : Nat} (h5 : Hc.get b5 = some (OR y0.enc qc)) (hb5 : H.next < b5) (hb5' : b5 < Hc.next) (hgo : goTake (named k) y0 r0 = oneB bs)
    (e0 : lk E 0 = some (.ptr p 0)) (e2 : lk E 2 = some (.ptr H.next 0)) (e3 : lk E 3 = some (.bool false)) (e4 : lk E 4 = some (.int .i64 (k : Int))) (e5 : lk E 5 = some (.ptr b5 0)) :
    W M ⟨none, yh⟩ (qu 30) true (FIN3 M [.cellN 9 2, .tmp 3] (RT3 (EvQ H p bs))) E [] Hc := by
  obtain ⟨n1, n2⟩ := h.tab.nm (show 1 ≤ (k : Int) by omega) (show (k : Int) ≤ 8 by omega)
  simp only [↓JN_eq, CTL3, OPS3, cast0, reduceIte, Nat.reduceEqDiff, xr, e4, n1, n2, qff]
  obtain ⟨s, hs⟩ : ∃ s, s = named k := ⟨_, rfl⟩
  rw [← hs] at hgo ⊢
  have hi0 : Fr Em Hc (Hc.alloc (.strIter s 0)) := (Fr.refl Hc).alloc _
  refine LOOP3.intro (fun n E Hx => ∃ q y r, E = [(69, .ptr Hc.next 0), (5, .ptr b5 0), (2, .ptr H.next 0), (0, .ptr p 0)] ∧ n = s.length - q ∧ q ≤ s.length ∧ EvM H p Hx r ∧ r.length ≤ bs.length ∧ Hx.get b5 = some (OR y.enc qc) ∧ Hx.get Hc.next = some (.strIter s q) ∧ Hc.next < Hx.next ∧ goTake (s.drop q) y r = oneB bs) ?_ ?_
  · exact ⟨_, _, ⟨0, y0, r0, rfl, rfl, by omega, h.em hi0 hp hlp, hr0, by rw [x6 hb5', h5], qk .., by rw [xf]; omega, hgo⟩, by simp only [↓JN_eq, CTL3, OPS3, cast0, reduceIte, Nat.reduceEqDiff, e0, e2, e5]⟩
  rintro n E Hx ⟨q, y, r, rfl, rfl, hq, hm, hr, g5, gi, hlt, hgo⟩
  rcases Nat.lt_or_ge q s.length with hlq | hlq
  · obtain ⟨l, hl'⟩ : ∃ l, s[q]? = some l := ⟨s[q], by simp [hlq]⟩
    obtain ⟨hil, h128⟩ := qcm (hs ▸ List.mem_of_getElem? hl' : l ∈ named k)
    have hd : s.drop q = l :: s.drop (q + 1) := by rw [List.drop_eq_getElem_cons hlq]; congr 1; simpa [hlq] using hl'
    rw [hd, goTake] at hgo
    have hlx : p < Hx.next := by have := hm.rd.lt; omega
    simp only [↓JN_eq, CTL3, OPS3, cast0, reduceIte, Nat.reduceEqDiff, xr, qis gi hl' h128, qh]
    have hm1 := hm.setOff (b := Hc.next) (by have := h.lt; omega) hp hlp (.strIter s (q + 1))
    refine C3.q (qqs (M := M) hm1.rd (by omega)) fun v H1 ⟨hf1, n, ok, r1, hv, hn, hr1, hrl, ht1, ht2⟩ => ?_
    subst hv
    have hm2 := hm1.step hf1 hr1 hp hlp
    have g5' : H1.get b5 = some (OR y.enc qc) := by rw [hf1.keep _ (by rw [qbs]; omega) (fun (z : b5 = p) => by omega), qn (by omega), g5]
    have gi' : H1.get Hc.next = some (.strIter s (q + 1)) := by rw [hf1.keep _ (by rw [qbs]; omega) (fun (z : Hc.next = p) => by have := h.rd.lt; omega), qo]
    have hn1 := hf1.next
    rw [qbs] at hn1
    cases ok with
    | false =>
      rw [ht2 rfl] at hgo
      simp only [↓JN_eq, CTL3, OPS3, cast0, reduceIte, Nat.reduceEqDiff, xr, qh, qcl, st_ev hm2.t2, ld_z]
      exact hm2.bad (by omega) hgo.symm hlp
    | true =>
      rw [ht1 rfl] at hgo
      simp only at hgo
      simp only [↓JN_eq, CTL3, OPS3, cast0, reduceIte, Nat.reduceEqDiff, xr, qh]
      refine C3.q (qti (M := M) hil g5' (by omega)) fun v H2 ⟨hv, hf2⟩ => ?_
      have hm3 : EvM H p H2 r1 := by
        refine ⟨?_, hm2.rd.off hf2 (by omega), by rw [hf2.keep _ hm2.lt (fun (z : H.next = b5) => by omega), hm2.t2], Nat.lt_of_lt_of_le hm2.lt hf2.next, hm2.tab.off hf2 (by omega)⟩
        exact hm2.fr.trans hf2 fun x (z : x = b5) => .inr (by omega)
      have gi'' : H2.get Hc.next = some (.strIter s (q + 1)) := by rw [hf2.keep _ (by omega) (fun (z : Hc.next = b5) => by omega), gi']
      have hn2 := hf2.next
      rcases hv with ⟨h118, rfl, hrow⟩ | ⟨h118, rfl, hrow⟩
      · rw [if_pos ⟨.inl h118, by rw [h118]; rfl⟩] at hgo
        simp only [↓JN_eq, CTL3, OPS3, cast0, reduceIte, Nat.reduceEqDiff, xr]
        exact ⟨_, _, ⟨q + 1, _, r1, rfl, rfl, by omega, hm3, by omega, hrow, gi'', by omega, hgo⟩, by simp only [↓JN_eq, CTL3, OPS3, cast0, reduceIte, Nat.reduceEqDiff], by omega⟩
      · by_cases hc : n < 9223372036854775808
        · have e63 : (n : Int) ≤ 9223372036854775807 := by omega
          have ew : wrapI .i64 (n : Int) = (n : Int) := xm (by omega) (by omega)
          rw [ew] at hrow
          simp only [h118, hc, false_or, true_and] at hgo
          by_cases hmay : mayN l n = true
          · rw [if_pos hmay] at hgo
            simp only [e63, decide_true, ew, hmay, Bool.and_self]
            simp only [↓JN_eq, CTL3, OPS3, cast0, reduceIte, Nat.reduceEqDiff, xr]
            exact ⟨_, _, ⟨q + 1, _, r1, rfl, rfl, by omega, hm3, by omega, hrow, gi'', by omega, hgo⟩, by simp only [↓JN_eq, CTL3, OPS3, cast0, reduceIte, Nat.reduceEqDiff], by omega⟩
          · rw [if_neg hmay] at hgo
            have hmay : mayN l n = false := by simpa using hmay
            simp only [e63, decide_true, ew, hmay, Bool.and_false]
            simp only [↓JN_eq, CTL3, OPS3, cast0, reduceIte, Nat.reduceEqDiff, xr, qcl, st_ev hm3.t2, ld_z]
            exact hm3.bad (by omega) hgo.symm hlp
        · have e63 : ¬ (n : Int) ≤ 9223372036854775807 := by omega
          simp only [h118, hc, or_false, false_and, if_false] at hgo
          simp only [e63, decide_false, Bool.false_and]
          simp only [↓JN_eq, CTL3, OPS3, cast0, reduceIte, Nat.reduceEqDiff, xr, qcl, st_ev hm3.t2, ld_z]
          exact hm3.bad (by omega) hgo.symm hlp
  · have hq : q = s.length := by omega
    subst hq
    rw [List.drop_length, goTake] at hgo
    simp only [↓JN_eq, CTL3, OPS3, cast0, reduceIte, Nat.reduceEqDiff, xr, qjg gi (Nat.le_refl _), qh, ld_ev g5, st_ev hm.t2, ld_z]
    have hf : Fr (On H.next) Hx (Hx.set H.next (OR y.enc qc)) := (Fr.refl _).set (W := On H.next) (.inl rfl) _
    exact ⟨hm.fr.set (.inr (Nat.le_refl _)) _, y, true, r, rfl, hm.rd.off hf hlp, hr, (fun _ => hgo.symm), fun q => nomatch q⟩
theorem st_1 {H : AHeap} {b o : Nat} {y y' : Evt} {v : AV} (h : H.get b = some (OR y.enc qc)) (hv : v.cells = [v]) (h1 : oneCell v = true) (ho : o < 9) (e : y.enc.take o ++ [v] ++ y.enc.drop (o + 1) = y'.enc) : Op.store 1 [.ptr b o, v] H = some (.undef, H.set b (OR y'.enc qc)) := by
  rw [qco (o := o) (n := 1) (v := v) h (by rw [hv]; rfl) (by rw [ev9]; omega) (by rw [hv, qck]; simp [h1]), hv, e]
theorem qzm {H : AHeap} {p : Nat} {bs : B} (h : Rd H p bs) {c : UInt8} {r : B} (hb : bs = c :: r) : ∃ w w2 e, Op.load1 [.ptr p 0] H = some w ∧ Op.indexSl 1 [w, .int .i64 0] = some (.ptr (slB w) (slO 1 w 0)) ∧ Op.load1 [.ptr (slB w) (slO 1 w 0)] H = some (.int .u8 c.toNat) ∧
    Op.sliceSl 1 [some 0, none, none] [w, .int .i64 1] = some w2 ∧ Op.store 1 [.ptr p 0, w2] H = some (.undef, H.set p (OR [w2] e)) ∧ Rd (H.set p (OR [w2] e)) p r := by
  obtain ⟨⟨w, e, h1, h2, h3⟩, h4⟩ := h
  have hc : bs[0]? = some c := by rw [hb]; rfl
  have hbl : bs.length = r.length + 1 := by rw [hb]; rfl
  obtain ⟨w2, hs2, hsl2, hor⟩ := h2.from qlx (k := 1) (by omega) (z := 1) rfl .i64
  have hone : oneCell w2 = true := SlT.one hsl2
  have hcl : AV.cells w2 = [w2] := by cases w2 <;> first | rfl | cases hone
  have hap : w2 = .nils ∨ slB w2 < p := hor.imp id fun q => by
    rcases h3 with rfl | h3
    · have h20 := h2.2
      have : bs.length = 0 := h20
      omega
    · omega
  have hd : bs.drop 1 = r := by rw [hb]; rfl
  rw [hd] at hsl2
  refine ⟨w, w2, e, by rw [kx (x4 h1)]; rfl, h2.idx hc rfl .i64, by rw [h2.load0 qlx hc (by omega)]; rfl, hs2, ?_, ⟨⟨w2, e, qo .., ?_, hap⟩, h4⟩⟩
  · rw [qco (o := 0) (n := 1) (v := w2) h1 (by rw [hcl]; rfl) (by simp) (by rw [hcl, qck]; simp [hone])]
    simp [hcl]
  · rcases hap with rfl | hap
    · exact ⟨hsl2.1, hsl2.2⟩
    · exact SlT.fr hsl2 ((Fr.refl H).set (W := On p) (.inl rfl) _) fun (q : slB w2 = p) => by omega
theorem qzp {H : AHeap} {p : Nat} {bs : B} (h : Rd H p bs) (hne : bs ≠ []) (hl : bs.length < 1000000) (ht : Tab H) (hp : 10 ≤ p) : CALLQ M yh [.ptr p 0] H (EvQ H p bs) := by
  refine qtq ?_
  obtain ⟨c, r, rfl⟩ : ∃ c r, bs = c :: r := by cases bs with
    | nil => exact absurd rfl hne
    | cons c r => exact ⟨c, r, rfl⟩
  have hlp := h.lt
  have ha : Fr Em H (H.alloc (OR zE.enc qc)) := (Fr.refl H).alloc _
  have hr0 := h.em ha
  obtain ⟨w, w2, e, f1, f2, f3, f4, f5, f6⟩ := qzm hr0 rfl
  have hm0 : EvM H p (H.alloc (OR zE.enc qc)) (c :: r) := ⟨ha.mono fun _ _ q => q.elim, hr0, qk .., by rw [xf]; omega, ht.em ha⟩
  have hm1 := hm0.step ((Fr.refl _).set (W := On p) (.inl rfl) _) f6 hp hlp
  rw [qos] at f1 f3 f5 f6 hm1
  have wk : wrapI .i64 ((c.toNat : Nat) : Int) = ((c.toNat : Nat) : Int) := w_i64 (by have := c.toNat_lt; omega)
  simp only [↓JN_eq, CTL3, OPS3, cast0, reduceIte, Nat.reduceEqDiff, xr, qbw, f1, f2, f3, f4, f5, wk]
  generalize ((H.alloc (OR [.int .i64 0, .int .i64 0, .int .i64 0, .int .i64 0, .int .i64 0, .int .i64 0, .int .i64 0, .int .u64 0, .int .i64 0] qc)).set p (OR [w2] e)) = H1 at *
  have hlr : r.length ≤ (c :: r).length := by simp
  have bad1 : oneB (c :: r) = none → EvQ H p (c :: r) (.tuple [.agg zE.enc, .bool false]) (H1.set H.next (OR zE.enc qc)) := fun q => hm1.bad hlr q hlp
  by_cases c1 : c.toNat < 1
  · have c1' : (c.toNat : Int) < 1 := by omega
    simp only [↓JN_eq, CTL3, OPS3, cast0, reduceIte, Nat.reduceEqDiff, xr, c1', qcl, st_ev hm1.t2, ld_z]
    exact bad1 (by rw [oneB, if_neg (by omega)])
  by_cases c2 : 8 < c.toNat
  · have c1' : ¬ (c.toNat : Int) < 1 := by omega
    have c2' : (8 : Int) < (c.toNat : Int) := by omega
    simp only [↓JN_eq, CTL3, OPS3, cast0, reduceIte, Nat.reduceEqDiff, xr, c1', c2', qcl, st_ev hm1.t2, ld_z]
    exact bad1 (by rw [oneB, if_neg (by omega)])
  have c1' : ¬ (c.toNat : Int) < 1 := by omega
  have c2' : ¬ (8 : Int) < (c.toNat : Int) := by omega
  simp only [↓JN_eq, CTL3, OPS3, cast0, reduceIte, Nat.reduceEqDiff, xr, c1', c2']
  have hone : oneB (c :: r) = match takeB r with
      | none => none
      | some (c', b1) => match takeB b1 with
        | none => none
        | some (t, b2) => if c' < 4 ∧ t < 9223372036854775808 then goTake (named c.toNat) (fresh c.toNat c' t) b2 else none := by
    rw [oneB, if_pos ⟨by omega, by omega⟩]; rfl
  have hc8 : c.toNat ≤ 8 := by omega
  have hc1 : 1 ≤ c.toNat := by omega
  have hrl : r.length < 1000000 := by simp at hl; omega
  have hbl : (c :: r).length = r.length + 1 := rfl
  clear bad1
  generalize hbs : c :: r = bs at *
  generalize hk : c.toNat = k at *
  clear hk hbs c
  refine C3.q (qmp (M := M)) fun v H2 ⟨hv, hf2⟩ => ?_
  subst hv
  have hm2 := hm1.em hf2 hp hlp
  have hst : Op.store 9 [.ptr H2.next 0, .agg (fresh (k : Nat) 0 0).enc] (H2.alloc (OR zE.enc qc)) = some (.undef, (H2.alloc (OR zE.enc qc)).set H2.next (OR (fresh (k : Nat) 0 0).enc qc)) := st_ev (qk ..)
  have hm3 : EvM H p ((H2.alloc (OR zE.enc qc)).set H2.next (OR (fresh (k : Nat) 0 0).enc qc)) r := (hm2.em ((Fr.refl H2).alloc _) hp hlp).setOff hm2.lt hp hlp _
  have h53 : ((H2.alloc (OR zE.enc qc)).set H2.next (OR (fresh (k : Nat) 0 0).enc qc)).get H2.next = some (OR (fresh (k : Nat) 0 0).enc qc) := qo ..
  have hn3 : ((H2.alloc (OR zE.enc qc)).set H2.next (OR (fresh (k : Nat) 0 0).enc qc)).next = H2.next + 1 := rfl
  rw [qos] at hst hm3 h53 hn3
  simp only [↓JN_eq, CTL3, OPS3, cast0, reduceIte, Nat.reduceEqDiff, xr, hst]
  have hlt2 := hm2.lt
  generalize ((H2.alloc (OR [.int .i64 0, .int .i64 0, .int .i64 0, .int .i64 0, .int .i64 0, .int .i64 0, .int .i64 0, .int .u64 0, .int .i64 0] qc)).set H2.next (OR (fresh (k : Nat) 0 0).enc qc)) = H3 at *
  refine C3.q (qqs (M := M) hm3.rd hrl) fun v H4 ⟨hf4, n1, ok1, r1, hv, hn1, hr1, hrl1, ht1, ht2⟩ => ?_
  subst hv
  have hm4 := hm3.step hf4 hr1 hp hlp
  have h54 : H4.get H2.next = some (OR (fresh (k : Nat) 0 0).enc qc) := by rw [hf4.keep _ (by omega) (fun (z : H2.next = p) => by omega), h53]
  simp only [↓JN_eq, CTL3, OPS3, cast0, reduceIte, Nat.reduceEqDiff, xr, qh]
  refine C3.q (qqs (M := M) hm4.rd (by omega)) fun v H5 ⟨hf5, n2, ok2, r2, hv, hn2, hr2, hrl2, ht3, ht4⟩ => ?_
  subst hv
  have hm5 := hm4.step hf5 hr2 hp hlp
  have h55 : H5.get H2.next = some (OR (fresh (k : Nat) 0 0).enc qc) := by rw [hf5.keep _ (by have := hf4.next; omega) (fun (z : H2.next = p) => by omega), h54]
  have hn5 : H2.next < H5.next := by have := hf4.next; have := hf5.next; omega
  have bad5 : oneB bs = none → EvQ H p bs (.tuple [.agg zE.enc, .bool false]) (H5.set H.next (OR zE.enc qc)) := fun q => hm5.bad (by omega) q hlp
  cases ok1 with
  | false =>
    rw [ht2 rfl] at hone
    simp only [↓JN_eq, CTL3, OPS3, cast0, reduceIte, Nat.reduceEqDiff, xr, qh, qcl, st_ev hm5.t2, ld_z]
    exact bad5 hone
  | true =>
  rw [ht1 rfl] at hone
  simp only at hone
  cases ok2 with
  | false =>
    rw [ht4 rfl] at hone
    simp only [↓JN_eq, CTL3, OPS3, cast0, reduceIte, Nat.reduceEqDiff, xr, qh, qcl, st_ev hm5.t2, ld_z]
    exact bad5 hone
  | true =>
  rw [ht3 rfl] at hone
  simp only at hone
  by_cases d1 : n1 < 4
  · have d1' : ¬ (4 : Int) ≤ (n1 : Int) := by omega
    by_cases d2 : n2 < 9223372036854775808
    · have d2' : ¬ (9223372036854775807 : Int) < (n2 : Int) := by omega
      rw [if_pos ⟨d1, d2⟩] at hone
      have w1 : wrapI .i64 (n1 : Int) = (n1 : Int) := xm (by omega) (by omega)
      have w2 : wrapI .i64 (n2 : Int) = (n2 : Int) := xm (by omega) (by omega)
      have s1 : Op.store 1 [.ptr H2.next 2, .int .i64 (n1 : Int)] H5 = some (.undef, H5.set H2.next (OR (fresh k n1 0).enc qc)) := st_1 h55 rfl rfl (by omega) (by simp [fresh, Evt.enc])
      have s2 : Op.store 1 [.ptr H2.next 1, .int .i64 (n2 : Int)] (H5.set H2.next (OR (fresh k n1 0).enc qc)) = some (.undef, (H5.set H2.next (OR (fresh k n1 0).enc qc)).set H2.next (OR (fresh k n1 n2).enc qc)) := st_1 (qo ..) rfl rfl (by omega) (by simp [fresh, Evt.enc])
      rw [qmm] at s2
      have hm6 : EvM H p (H5.set H2.next (OR (fresh k n1 n2).enc qc)) r2 := hm5.setOff hlt2 hp hlp _
      obtain ⟨-, -, -, -, -, w20, w28, -⟩ := xr M ⟨none, yh⟩
      simp only [↓JN_eq, CTL3, OPS3, cast0, reduceIte, Nat.reduceEqDiff, w20, w28, qh, d1', d2', w1, w2, s1, s2]
      exact q0i hm6 hc1 hc8 hl (by omega) hp hlp (qo ..) hlt2 hn5 hone.symm rfl rfl rfl rfl rfl
    · have d2' : (9223372036854775807 : Int) < (n2 : Int) := by omega
      rw [if_neg (fun q => d2 q.2)] at hone
      simp only [↓JN_eq, CTL3, OPS3, cast0, reduceIte, Nat.reduceEqDiff, xr, qh, d1', d2', qcl, st_ev hm5.t2, ld_z]
      exact bad5 hone
  · have d1' : (4 : Int) ≤ (n1 : Int) := by omega
    rw [if_neg (fun q => d1 q.1)] at hone
    simp only [↓JN_eq, CTL3, OPS3, cast0, reduceIte, Nat.reduceEqDiff, xr, qh, d1', qcl, st_ev hm5.t2, ld_z]
    exact bad5 hone
end Go.Am
namespace Go.Am
open Tr
variable {M : Mac} [MK M]
theorem SlT.bnd {α : Type} {enc : α → List AV} {size : Nat} {H : AHeap} {v : AV} {xs : List α} (h : SlT enc size H v xs) (hn : xs ≠ []) : slB v < H.next := by
  obtain ⟨_, h⟩ := h
  have hl : xs.length ≠ 0 := fun q => hn (List.length_eq_zero_iff.1 q)
  split at h
  · exact absurd h hl
  · exact (h.2.2.resolve_left hl).1
  · exact (h.2.2.2.resolve_left hl).1
  · exact absurd h.1 hl
  · exact h.elim
theorem Rd.fr {W : Nat → Prop} {H H' : AHeap} {p : Nat} {bs : B} (h : Rd H p bs) (f : Fr W H H') (hw : ∀ b, W b → p < b) : Rd H' p bs := by
  obtain ⟨⟨w, e, h1, h2, h3⟩, h4⟩ := h
  refine ⟨⟨w, e, by rw [f.keep p h4 (fun q => by have := hw p q; omega), h1], ?_, h3⟩, Nat.lt_of_lt_of_le h4 f.next⟩
  rcases h3 with rfl | h3
  · exact ⟨h2.1, h2.2⟩
  · exact SlT.fr h2 f fun q => by have := hw _ q; omega
theorem New.off {α : Type} {enc : α → List AV} {e size : Nat} {H0 H H' : AHeap} {v : AV} {xs : List α} (h : New enc e size H0 H v xs) {b : Nat} (hb : H0.next ≤ b) (hn : ¬ OnS v b) (f : Fr (On b) H H') : New enc e size H0 H' v xs :=
  ⟨Own.fr h.own f fun x hx (q : x = b) => hn (q ▸ hx), h.fr.trans f fun x (q : x = b) => .inr (q ▸ hb), h.fresh⟩
def DecQ (H : AHeap) (o : Option (List Evt)) (v : AV) (H' : AHeap) : Prop := (∃ l w, o = some l ∧ v = .tuple [w, .int .i64 0] ∧ NewE H H' w l) ∨ (o = none ∧ v = .tuple [.nils, .int .i64 230] ∧ Fr Em H H')
theorem q2a {n : Nat} {bs : B} (h : bs ≠ []) : decB (n + 1) bs = match oneB bs with
    | none => none
    | some (x, r) => match decB n r with
      | none => none
      | some l => some (x :: l) := by
  cases bs with
  | nil => exact absurd rfl h
  | cons c r => rfl
theorem qql {H : AHeap} {a : AV} {bs : B} (ha : SlT encB 1 H a bs) (hl : bs.length < 1000000) (ht : Tab H) {N : Nat} (hN : bs.length ≤ N) : CALLQ M ym [a] H (DecQ H (decB N bs)) := by
  refine qri ?_
  have hone : oneCell a = true := SlT.one ha
  have hcl : AV.cells a = [a] := by cases a <;> first | rfl | cases hone
  have hf0 : Fr Em H (H.alloc (OR [a] T__8)) := (Fr.refl H).alloc _
  by_cases hne : bs = []
  · subst hne
    have l1 : Op.load1 [.ptr H.next 0] (H.alloc (OR [a] T__8)) = some a := by rw [kx (x4 (qk ..))]; rfl
    have hd : decB N [] = some [] := by cases N <;> rfl
    have hlen : Op.lenSl [a] = some (.int .i64 0) := ha.len
    simp only [↓JN_eq, CTL3, OPS3, cast0, reduceIte, Nat.reduceEqDiff, yo, hcl]
    refine LOOP3.intro (fun n E Hx => E = [(4, .nils), (1, .ptr H.next 0)] ∧ n = 0 ∧ Hx = H.alloc (OR [a] T__8)) ?_ ?_
    · exact ⟨_, _, ⟨rfl, rfl, rfl⟩, by simp only [↓JN_eq, CTL3, OPS3, cast0, reduceIte, Nat.reduceEqDiff]⟩
    rintro n E Hx ⟨rfl, rfl, rfl⟩
    simp only [↓JN_eq, CTL3, OPS3, cast0, reduceIte, Nat.reduceEqDiff, yo, l1, hlen, Int.reduceLT]
    exact .inl ⟨[], .nils, hd, rfl, ⟨Own.nil _ _ _, hf0, fun b h => (h.1 rfl).elim⟩⟩
  have hb := ha.bnd hne
  have hp : 10 ≤ H.next := ht.lt
  simp only [↓JN_eq, CTL3, OPS3, cast0, reduceIte, Nat.reduceEqDiff, yo, hcl]
  refine LOOP3.intro (fun n E Hx => ∃ w xs r k, E = [(4, w), (1, .ptr H.next 0)] ∧ n = r.length ∧ r.length ≤ bs.length ∧ r.length ≤ k ∧ Rd Hx H.next r ∧ NewE H Hx w xs ∧ ¬ OnS w H.next ∧ xs.length + r.length ≤ bs.length ∧ decB N bs = (decB k r).map (xs ++ ·)) ?_ ?_
  · refine ⟨_, _, ⟨.nils, [], bs, N, rfl, rfl, Nat.le_refl _, hN, ⟨⟨a, T__8, qk .., ha.em hf0, .inr hb⟩, by rw [xf]; omega⟩, ⟨Own.nil _ _ _, hf0, fun b h => (h.1 rfl).elim⟩, fun q => q.1 rfl, by simp, by simp⟩, by simp only [↓JN_eq, CTL3, OPS3, cast0, reduceIte, Nat.reduceEqDiff]⟩
  rintro n E Hx ⟨w, xs, r, k, rfl, rfl, hr, hrk, hrd, hw, hap, hxl, hdec⟩
  obtain ⟨⟨v1, e1, q1, q2, q3⟩, q4⟩ := hrd
  have l1 : Op.load1 [.ptr H.next 0] Hx = some v1 := by rw [kx (x4 q1)]; rfl
  have hrd : Rd Hx H.next r := ⟨⟨v1, e1, q1, q2, q3⟩, q4⟩
  by_cases hrn : r = []
  · subst hrn
    have hlen : Op.lenSl [v1] = some (.int .i64 0) := q2.len
    have hd : decB k [] = some [] := by cases k <;> rfl
    rw [hd] at hdec
    simp only [↓JN_eq, CTL3, OPS3, cast0, reduceIte, Nat.reduceEqDiff, yo, l1, hlen, Int.reduceLT]
    exact .inl ⟨xs, w, by simpa using hdec, rfl, hw⟩
  have hpos : 0 < r.length := by cases r with
    | nil => exact absurd rfl hrn
    | cons => simp
  have e0 : (0 : Int) < (r.length : Nat) := by omega
  simp only [↓JN_eq, CTL3, OPS3, cast0, reduceIte, Nat.reduceEqDiff, yo, l1, q2.len, e0]
  refine C3.q (qzp (M := M) hrd hrn (by omega) (ht.em hw.fr) hp) fun v H1 ⟨hf1, y, ok, r', hv, hr', hrl, ho1, ho2⟩ => ?_
  subst hv
  obtain ⟨k, rfl⟩ : ∃ k', k = k' + 1 := ⟨k - 1, by omega⟩
  rw [q2a hrn] at hdec
  have hst : Op.store 9 [.ptr H1.next 0, .agg y.enc] (H1.alloc (OR zE.enc qc)) = some (.undef, (H1.alloc (OR zE.enc qc)).set H1.next (OR y.enc qc)) := st_ev (qk ..)
  have hw1 : NewE H H1 w xs := hw.off (Nat.le_refl _) hap hf1
  have hw2 : NewE H ((H1.alloc (OR zE.enc qc)).set H1.next (OR y.enc qc)) w xs :=
    (hw1.em ((Fr.refl H1).alloc _)).setOff hw1.fr.next (fun q => by have := Own.lt hw1.own _ q; omega) _
  have hrd2 : Rd ((H1.alloc (OR zE.enc qc)).set H1.next (OR y.enc qc)) H.next r' := (hr'.em ((Fr.refl H1).alloc _)).fr ((Fr.refl _).set (W := On H1.next) (.inl rfl) _) fun b (q : b = H1.next) => by have := hr'.lt; omega
  have l9 : Op.loadN 9 [.ptr H1.next 0] ((H1.alloc (OR zE.enc qc)).set H1.next (OR y.enc qc)) = some (.agg y.enc) := ld_z
  rw [qos] at hst hw2 hrd2 l9
  cases ok with
  | false =>
    rw [ho2 rfl] at hdec
    simp only [↓JN_eq, CTL3, OPS3, cast0, reduceIte, Nat.reduceEqDiff, yo, qh, hst]
    exact .inr ⟨by simpa using hdec, rfl, hw2.fr⟩
  | true =>
    rw [ho1 rfl] at hdec
    simp only at hdec
    have hlt : r'.length < r.length := by
      have := qyq (ho1 rfl)
      rw [this.1, List.length_append]
      have : 0 < (encE y).length := by cases h : encE y with
        | nil => exact absurd h (q2g y)
        | cons => simp
      omega
    simp only [↓JN_eq, CTL3, OPS3, cast0, reduceIte, Nat.reduceEqDiff, yo, qh, hst, l9]
    refine hw2.app4 (bytes := 72) (a := y) rfl rfl rfl rfl (by omega) (by omega) (by omega) fun v' H2 hv' hf2 => ?_
    simp only [↓JN_eq, CTL3, OPS3, cast0, reduceIte, Nat.reduceEqDiff, yo]
    refine ⟨_, _, ⟨v', xs ++ [y], r', k, rfl, rfl, by omega, by omega, hrd2.fr hf2.fr fun b hb => ?_, hv', ?_, by simp; omega, ?_⟩, by simp only [↓JN_eq, CTL3, OPS3, cast0, reduceIte, Nat.reduceEqDiff], by omega⟩
    · have h1 := hw.fresh b hb
      have h2 : b ≠ H.next := fun q => hap (q ▸ hb)
      omega
    · exact (hf2.get hrd2.lt hap).2.2
    · rw [hdec]; cases decB k r' <;> simp
end Go.Am
