/- LpP4: LpK LpL LpM LpN LpO LpP. -/
import Derived.Test.YtbimikjajohflaaDoorAmPLpP3
import Derived.Test.YtbimikjajohflaaDoorAmPCodeP
set_option linter.unusedVariables false
set_option linter.unusedSimpArgs false
set_option linter.unusedSectionVars false
set_option maxRecDepth 100000
namespace Go.Am
open Lang Go.Proofs
variable {M : Mac} [MK M]
theorem Seg.szle {ts : List Nd} {H0 : AHeap} {tv : AV} (hc : WC H0 tv ts) {b : Nat} {x : It} (h : Seg ts b (x.enc b)) : x.sz ≤ 2000 := by
  have := h.lt; have := hc.len; omega
theorem qrp {H0 H1 : AHeap} {tv a : AV} {ts : List Nd} (hc : WC H0 tv ts) {c : Cn} {l : Ls} (hsp : ∀ s ∈ sts l, SP M H0 tv ts s) {b bb d p : Nat} {k : Int} {xs w : List UInt8} {kids : List Int} {Q : Post3} {E : Env} (hk : k = 16 ∧ w = [105, 102, 32, 40] ∨ k = 17 ∧ w = [119, 104, 105, 108, 101, 32, 40])
    (hsc : Seg ts bb (c.enc bb)) (hsl : Seg ts (bb + c.sz) (l.encL (bb + c.sz))) (ho : c.ok ∧ l.ok) (hsm : c.small ∧ l.small) (hd : d + 1 + l.sz ≤ 4000) (ha : SlT encI 1 H0 a kids) (k0 : kids[0]? = some ((bb + c.sz - 1 : Nat) : Int)) (k1 : kids[1]? = some ((bb + c.sz + l.sz : Nat) : Int)) (hkl : kids.length ≤ 3)
    (h : WS H0 H1 b tv xs) (hl : xs.length + (w ++ c.txt ++ [41, 32] ++ blkT l d).length ≤ 1000000000) (lo : Loc H1 b p [.int .i64 k, .int .u64 0, a] qc)
    (e0 : lk E 0 = some (.ptr b 0)) (e6 : lk E 6 = some (.ptr p 0)) (e54 : lk E 54 = some (.bool true)) (e2 : lk E 2 = some (.int .i64 (d : Int)))
    (hq : ∀ H5, WS H0 H5 b tv (xs ++ (w ++ c.txt ++ [41, 32] ++ blkT l d)) → Loc H5 b p [.int .i64 k, .int .u64 0, a] qc → BK b H1 H5 →
      IF3 true (.bool (decide (((kids.length : Nat) : Int) = 3))) (fun g => LK g (some (.ptr b 0)) fun g t0_1 => C3 M g (.func qd) [t0_1, (.str [32, 101, 108, 115, 101, 32])] H5 fun g t85 H2 => LK g (some (.ptr b 0)) fun g t0_2 => LK g (some (.ptr p 0)) fun g t6_2 => B3 g ((Op.fieldAddr 2) [t6_2]) fun g t87 => B3 g (Op.load1 [t87] H2) fun g t88 => B3 g ((Op.indexSl 1) [t88, (.int .i64 2)]) fun g t89 => B3 g (Op.load1 [t89] H2) fun g t90 => LK g (some (.int .i64 (d : Int))) fun g t2_1 => C3 M g (.func x5) [t0_2, t90, t2_1] H2 fun g t92 H3 => GO3 g Q .normal E [] H3) (fun g => GO3 g Q .normal E [] H5)) :
    W M ⟨none, qw⟩ (qj 31) true Q E [] H1 := by
  obtain ⟨-, -, -, w31, w34, -, w38⟩ := qf M ⟨none, qw⟩
  obtain ⟨o, b1, b2, b3⟩ := ifw_row H1 hk
  have hf1 : Fr Em H1 (H1.alloc o) := (Fr.refl H1).alloc _
  have kk1 := BK.fr (b := b) hf1 h.hi
  have lo1 := lo.step kk1
  have hwl : w.length ≤ 7 := by rcases hk with ⟨_, rfl⟩ | ⟨_, rfl⟩ <;> decide
  have hwa : ascii w := by rcases hk with ⟨_, rfl⟩ | ⟨_, rfl⟩ <;> decide
  simp only [List.length_append, List.length_cons, List.length_nil] at hl
  have hcz : c.sz ≤ 2000 := Seg.szle hc (x := .c c) hsc
  simp only [↓JN_eq, CTL3, OPS3, cast0, reduceIte, Nat.reduceEqDiff, w31, e54, e0, e6, b1, lo1.ld, b2, b3]
  refine C3.q (zn (M := M) (s := w) (h.em hf1) hwa (by omega)) fun v H2 ⟨h2, k2⟩ => ?_
  have lo2 := lo1.step k2
  obtain ⟨i1, i2⟩ := wk ha h2.fr k0 (z := 0) rfl
  simp only [↓JN_eq, CTL3, OPS3, cast0, reduceIte, Nat.reduceEqDiff, w34, e0, e6, lo2.ld, i1 .i64, i2]
  refine C3.q (qxb (M := M) hc c hsc ho.1 hsm.1 h2 (by unfold big; simp only [List.length_append]; omega)) fun v H3 ⟨h3, k3⟩ => ?_
  simp only [↓JN_eq, CTL3, OPS3, cast0, reduceIte, Nat.reduceEqDiff, e0]
  refine C3.q (zn (M := M) (s := [41, 32]) h3 (by decide) (by simp only [List.length_append, List.length_cons, List.length_nil]; omega)) fun v H4 ⟨h4, k4⟩ => ?_
  have lo4 := (lo2.step k3).step k4
  obtain ⟨j1, j2⟩ := wk ha h4.fr k1 (z := 1) rfl
  simp only [↓JN_eq, CTL3, OPS3, cast0, reduceIte, Nat.reduceEqDiff, w38, e0, e6, e2, lo4.ld, j1 .i64, j2]
  refine C3.q (qoi hc l hsp (d := d) hsl ho.2 hsm.2 hd h4 (by simp only [List.length_append, List.length_cons, List.length_nil]; omega)) fun v H5 ⟨h5, k5⟩ => ?_
  have lo5 := lo4.step k5
  have hal := (ha.em h5.fr).len
  simp only [↓JN_eq, CTL3, OPS3, cast0, reduceIte, Nat.reduceEqDiff, e6, lo5.ld, hal]
  exact hq H5 (by simpa only [List.append_assoc] using h5) lo5 ((((kk1.trans k2).trans k3).trans k4).trans k5)
def LsP (M : Mac) (H0 : AHeap) (tv : AV) (ts : List Nd) (l : Ls) : Prop := ∀ s ∈ sts l, SP M H0 tv ts s
mutual
theorem St_spec {H0 : AHeap} {tv : AV} {ts : List Nd} (hc : WC H0 tv ts) : ∀ x : Lang.St, SP M H0 tv ts x
  | .set w x => by
    intro H b bb d xs hs ho hsm hd h hl
    refine x9 ?_
    obtain ⟨hnd, hks⟩ := Seg.nd (x := .s (.set w x)) hs
    have hsx : Seg ts bb (x.enc bb) := hks.cons.1
    have hxz : x.sz ≤ 2000 := Seg.szle hc (x := .e x) hsx
    obtain ⟨a, ha, e1, e2, e3, e4, h1, l1, k1⟩ := qbm hc h hnd
    have hnd' : (It.s (.set w x)).nd bb = ⟨14, w, [((bb + x.sz - 1 : Nat) : Int)]⟩ := by simp [It.nd, It.kn, It.ks, endsF, ints, It.sz]
    rw [hnd'] at ha e3 e4 h1 l1 k1
    have hlt : (St.txt (.set w x) d) = letter w ++ [32, 61, 32] ++ x.txt 0 ++ [59] := rfl
    rw [hlt] at hl ⊢
    obtain ⟨tx, htx⟩ : ∃ tx : List UInt8, tx = letter w ++ [32, 61, 32] ++ x.txt 0 ++ [59] := ⟨_, rfl⟩
    rw [← htx]
    simp only [List.length_append, letter, List.length_cons, List.length_nil] at hl
    simp only [It.sz] at e2 e3
    simp only at e4 h1 l1 k1
    obtain ⟨ho7, hox⟩ := ho
    generalize H.alloc (OR [.int .i64 14, .int .u64 (w : Nat), a] qc) = H1 at *
    have w1 : wrapI .u64 (97 + (w : Int)) = ((97 + w : Nat) : Int) := by rw [yq (by omega) (by omega)]; omega
    have w2 : wrapI .i32 ((97 + w : Nat) : Int) = ((97 + w : Nat) : Int) := by rw [qph]; omega
    have hcat : Op.bin .add [.str (letter w), .str [32, 61, 32]] = some (.str (letter w ++ [32, 61, 32])) := o_cat _ _ (by simp [letter])
    have t1 := eq_true (show (14 : Int) = 14 from rfl)
    simp only [↓JN_eq, CTL3, OPS3, cast0, reduceIte, Nat.reduceEqDiff, qf, xr, e1, e2, e3, e4, l1.ld, t1, w1, w2, qm8 w ho7, hcat]
    refine C3.q (zn (M := M) (s := letter w ++ [32, 61, 32]) h1 (qfd (qi1 w ho7) (by decide)) (by simp [letter]; omega)) fun v H2 ⟨h2, k2⟩ => ?_
    have l2 := l1.step k2
    obtain ⟨i1, i2⟩ := wk ha h2.fr (i := 0) rfl (z := 0) rfl
    simp only [↓JN_eq, CTL3, OPS3, cast0, reduceIte, Nat.reduceEqDiff, qf, l2.ld, i1 .i64, i2]
    refine C3.q (qbe hc x (d := 0) hsx hox hsm (by omega) h2 (by unfold big; simp [letter]; omega)) fun v H3 ⟨h3, k3⟩ => ?_
    simp only [↓JN_eq, CTL3, OPS3, cast0, reduceIte, Nat.reduceEqDiff, qf]
    refine C3.q (zn (M := M) (s := [59]) h3 (by decide) (by simp [letter]; omega)) fun v H4 ⟨h4, k4⟩ => ?_
    simp only [↓JN_eq, CTL3, OPS3, cast0, reduceIte, Nat.reduceEqDiff, qf]
    exact ⟨by rw [htx]; simpa only [List.append_assoc] using h4, ((k1.trans k2).trans k3).trans k4⟩
  | .store x y => by
    intro H b bb d xs hs ho hsm hd h hl
    refine x9 ?_
    obtain ⟨hnd, hks⟩ := Seg.nd (x := .s (.store x y)) hs
    have hsx : Seg ts bb (x.enc bb) := hks.cons.1
    have hsy : Seg ts (bb + x.sz) (y.enc (bb + x.sz)) := hks.cons.2.cons.1
    have hxz : x.sz ≤ 2000 := Seg.szle hc (x := .e x) hsx
    have hyz : y.sz ≤ 2000 := Seg.szle hc (x := .e y) hsy
    obtain ⟨a, ha, e1, e2, e3, e4, h1, l1, k1⟩ := qbm hc h hnd
    have hnd' : (It.s (.store x y)).nd bb = ⟨15, 0, [((bb + x.sz - 1 : Nat) : Int), ((bb + x.sz + y.sz - 1 : Nat) : Int)]⟩ := by simp [It.nd, It.kn, It.ks, endsF, ints, It.sz]
    rw [hnd'] at ha e3 e4 h1 l1 k1
    have hlt : (St.txt (.store x y) d) = [115, 116, 111, 114, 101, 40] ++ x.txt 0 ++ [44, 32] ++ y.txt 0 ++ [41, 59] := rfl
    rw [hlt] at hl ⊢
    obtain ⟨tx, htx⟩ : ∃ tx : List UInt8, tx = [115, 116, 111, 114, 101, 40] ++ x.txt 0 ++ [44, 32] ++ y.txt 0 ++ [41, 59] := ⟨_, rfl⟩
    rw [← htx]
    simp only [List.length_append, List.length_cons, List.length_nil] at hl
    simp only [It.sz] at e2 e3
    simp only at e4 h1 l1 k1
    obtain ⟨hox, hoy⟩ := ho
    generalize H.alloc (OR [.int .i64 15, .int .u64 0, a] qc) = H1 at *
    simp only [↓JN_eq, CTL3, OPS3, cast0, reduceIte, Nat.reduceEqDiff, qf, xr, e1, e2, e3, e4, l1.ld, Int.reduceEq]
    refine C3.q (zn (M := M) (s := [115, 116, 111, 114, 101, 40]) h1 (by decide) (by simp only [List.length_cons, List.length_nil]; omega)) fun v H2 ⟨h2, k2⟩ => ?_
    have l2 := l1.step k2
    obtain ⟨i1, i2⟩ := wk ha h2.fr (i := 0) rfl (z := 0) rfl
    simp only [↓JN_eq, CTL3, OPS3, cast0, reduceIte, Nat.reduceEqDiff, qf, l2.ld, i1 .i64, i2]
    refine C3.q (qbe hc x (d := 0) hsx hox hsm.1 (by omega) h2 (by unfold big; simp only [List.length_append, List.length_cons, List.length_nil]; omega)) fun v H3 ⟨h3, k3⟩ => ?_
    simp only [↓JN_eq, CTL3, OPS3, cast0, reduceIte, Nat.reduceEqDiff, qf]
    refine C3.q (zn (M := M) (s := [44, 32]) h3 (by decide) (by simp only [List.length_append, List.length_cons, List.length_nil]; omega)) fun v H4 ⟨h4, k4⟩ => ?_
    have l4 := (l2.step k3).step k4
    obtain ⟨j1, j2⟩ := wk ha h4.fr (i := 1) rfl (z := 1) rfl
    simp only [↓JN_eq, CTL3, OPS3, cast0, reduceIte, Nat.reduceEqDiff, qf, l4.ld, j1 .i64, j2]
    refine C3.q (qbe hc y (d := 0) hsy hoy hsm.2 (by omega) h4 (by unfold big; simp only [List.length_append, List.length_cons, List.length_nil]; omega)) fun v H5 ⟨h5, k5⟩ => ?_
    simp only [↓JN_eq, CTL3, OPS3, cast0, reduceIte, Nat.reduceEqDiff, qf]
    refine C3.q (zn (M := M) (s := [41, 59]) h5 (by decide) (by simp only [List.length_append, List.length_cons, List.length_nil]; omega)) fun v H6 ⟨h6, k6⟩ => ?_
    simp only [↓JN_eq, CTL3, OPS3, cast0, reduceIte, Nat.reduceEqDiff, qf]
    exact ⟨by rw [htx]; simpa only [List.append_assoc] using h6, ((((k1.trans k2).trans k3).trans k4).trans k5).trans k6⟩
  | .ite c l => by
    intro H b bb d xs hs ho hsm hd h hl
    refine x9 ?_
    obtain ⟨hnd, hks⟩ := Seg.nd (x := .s (.ite c l)) hs
    have hsc : Seg ts bb (c.enc bb) := hks.cons.1
    have hsl : Seg ts (bb + c.sz) (l.encL (bb + c.sz)) := hks.cons.2.cons.1
    obtain ⟨a, ha, e1, e2, e3, e4, h1, l1, k1⟩ := qbm hc h hnd
    have hnd' : (It.s (.ite c l)).nd bb = ⟨16, 0, [((bb + c.sz - 1 : Nat) : Int), ((bb + c.sz + l.sz : Nat) : Int)]⟩ := by simp [It.nd, It.kn, It.ks, endsF, ints, It.sz]
    rw [hnd'] at ha e3 e4 h1 l1 k1
    have hlt : (St.txt (.ite c l) d) = [105, 102, 32, 40] ++ c.txt ++ [41, 32] ++ blkT l d := rfl
    rw [hlt] at hl ⊢
    obtain ⟨tx, htx⟩ : ∃ tx : List UInt8, tx = [105, 102, 32, 40] ++ c.txt ++ [41, 32] ++ blkT l d := ⟨_, rfl⟩
    rw [← htx]
    simp only [It.sz] at e2 e3
    simp only at e4 h1 l1 k1
    simp only [St.sz] at hd
    generalize H.alloc (OR [.int .i64 16, .int .u64 0, a] qc) = H1 at *
    obtain ⟨w0, w13, w25, -, -, -, -⟩ := qf M ⟨none, qw⟩
    simp only [↓JN_eq, CTL3, OPS3, cast0, reduceIte, Nat.reduceEqDiff, w0, w13, w25, xr, e1, e2, e3, e4, l1.ld, Int.reduceEq]
    refine qrp (M := M) hc (qgg hc l) (.inl ⟨rfl, rfl⟩) hsc hsl ho hsm (by omega) ha rfl rfl (by simp) h1 hl l1 rfl rfl rfl rfl fun H5 h5 l5 k5 => ?_
    have t1 : ¬ (([((bb + c.sz - 1 : Nat) : Int), ((bb + c.sz + l.sz : Nat) : Int)].length : Nat) : Int) = 3 := by simp
    simp only [↓JN_eq, CTL3, OPS3, cast0, reduceIte, Nat.reduceEqDiff, t1]
    exact ⟨by rw [htx]; exact h5, k1.trans k5⟩
  | .ites c l m => by
    intro H b bb d xs hs ho hsm hd h hl
    refine x9 ?_
    obtain ⟨hnd, hks⟩ := Seg.nd (x := .s (.ites c l m)) hs
    have hsc : Seg ts bb (c.enc bb) := hks.cons.1
    have hsl : Seg ts (bb + c.sz) (l.encL (bb + c.sz)) := hks.cons.2.cons.1
    have hsm' : Seg ts (bb + c.sz + (l.sz + 1)) (m.encL (bb + c.sz + (l.sz + 1))) := hks.cons.2.cons.2.cons.1
    obtain ⟨a, ha, e1, e2, e3, e4, h1, l1, k1⟩ := qbm hc h hnd
    have hnd' : (It.s (.ites c l m)).nd bb = ⟨16, 0, [((bb + c.sz - 1 : Nat) : Int), ((bb + c.sz + l.sz : Nat) : Int), ((bb + c.sz + (l.sz + 1) + m.sz : Nat) : Int)]⟩ := by
      simp [It.nd, It.kn, It.ks, endsF, ints, It.sz]
    rw [hnd'] at ha e3 e4 h1 l1 k1
    have hlt : (St.txt (.ites c l m) d) = ([105, 102, 32, 40] ++ c.txt ++ [41, 32] ++ blkT l d) ++ [32, 101, 108, 115, 101, 32] ++ blkT m d := by simp [St.txt, blkT]
    rw [hlt] at hl ⊢
    obtain ⟨tx, htx⟩ : ∃ tx : List UInt8, tx = ([105, 102, 32, 40] ++ c.txt ++ [41, 32] ++ blkT l d) ++ [32, 101, 108, 115, 101, 32] ++ blkT m d := ⟨_, rfl⟩
    rw [← htx]
    simp only [It.sz] at e2 e3
    simp only at e4 h1 l1 k1
    simp only [St.sz] at hd
    have hl' : xs.length + ([105, 102, 32, 40] ++ c.txt ++ [41, 32] ++ blkT l d).length ≤ 1000000000 := by simp only [List.length_append] at hl ⊢; omega
    generalize H.alloc (OR [.int .i64 16, .int .u64 0, a] qc) = H1 at *
    obtain ⟨w0, w13, w25, -, -, -, -⟩ := qf M ⟨none, qw⟩
    simp only [↓JN_eq, CTL3, OPS3, cast0, reduceIte, Nat.reduceEqDiff, w0, w13, w25, xr, e1, e2, e3, e4, l1.ld, Int.reduceEq]
    refine qrp (M := M) hc (qgg hc l) (.inl ⟨rfl, rfl⟩) hsc hsl ⟨ho.1, ho.2.1⟩ ⟨hsm.1, hsm.2.1⟩ (by omega) ha rfl rfl (by simp) h1 hl' l1 rfl rfl rfl rfl fun H5 h5 l5 k5 => ?_
    have t1 := eq_true (show (([((bb + c.sz - 1 : Nat) : Int), ((bb + c.sz + l.sz : Nat) : Int), ((bb + c.sz + (l.sz + 1) + m.sz : Nat) : Int)].length : Nat) : Int) = 3 by simp)
    simp only [↓JN_eq, CTL3, OPS3, cast0, reduceIte, Nat.reduceEqDiff, t1]
    refine C3.q (zn (M := M) (s := [32, 101, 108, 115, 101, 32]) h5 (by decide) (by simp only [List.length_append, List.length_cons, List.length_nil] at hl ⊢; omega)) fun v H6 ⟨h6, k6⟩ => ?_
    have l6 := l5.step k6
    obtain ⟨j1, j2⟩ := wk ha h6.fr (i := 2) rfl (z := 2) rfl
    simp only [↓JN_eq, CTL3, OPS3, cast0, reduceIte, Nat.reduceEqDiff, l6.ld, j1 .i64, j2]
    refine C3.q (qoi hc m (qgg hc m) (d := d) hsm' ho.2.2 hsm.2.2 (by omega) h6 (by simp only [List.length_append, List.length_cons, List.length_nil] at hl ⊢; omega)) fun v H7 ⟨h7, k7⟩ => ?_
    simp only [↓JN_eq, CTL3, OPS3, cast0, reduceIte, Nat.reduceEqDiff]
    exact ⟨by rw [htx]; simpa only [List.append_assoc] using h7, ((k1.trans k5).trans k6).trans k7⟩
  | .loop c l => by
    intro H b bb d xs hs ho hsm hd h hl
    refine x9 ?_
    obtain ⟨hnd, hks⟩ := Seg.nd (x := .s (.loop c l)) hs
    have hsc : Seg ts bb (c.enc bb) := hks.cons.1
    have hsl : Seg ts (bb + c.sz) (l.encL (bb + c.sz)) := hks.cons.2.cons.1
    obtain ⟨a, ha, e1, e2, e3, e4, h1, l1, k1⟩ := qbm hc h hnd
    have hnd' : (It.s (.loop c l)).nd bb = ⟨17, 0, [((bb + c.sz - 1 : Nat) : Int), ((bb + c.sz + l.sz : Nat) : Int)]⟩ := by simp [It.nd, It.kn, It.ks, endsF, ints, It.sz]
    rw [hnd'] at ha e3 e4 h1 l1 k1
    have hlt : (St.txt (.loop c l) d) = [119, 104, 105, 108, 101, 32, 40] ++ c.txt ++ [41, 32] ++ blkT l d := rfl
    rw [hlt] at hl ⊢
    obtain ⟨tx, htx⟩ : ∃ tx : List UInt8, tx = [119, 104, 105, 108, 101, 32, 40] ++ c.txt ++ [41, 32] ++ blkT l d := ⟨_, rfl⟩
    rw [← htx]
    simp only [It.sz] at e2 e3
    simp only at e4 h1 l1 k1
    simp only [St.sz] at hd
    generalize H.alloc (OR [.int .i64 17, .int .u64 0, a] qc) = H1 at *
    obtain ⟨w0, w13, w25, -, -, -, -⟩ := qf M ⟨none, qw⟩
    simp only [↓JN_eq, CTL3, OPS3, cast0, reduceIte, Nat.reduceEqDiff, w0, w13, w25, xr, e1, e2, e3, e4, l1.ld, Int.reduceEq]
    refine qrp (M := M) hc (qgg hc l) (.inr ⟨rfl, rfl⟩) hsc hsl ho hsm (by omega) ha rfl rfl (by simp) h1 hl l1 rfl rfl rfl rfl fun H5 h5 l5 k5 => ?_
    have t1 : ¬ (([((bb + c.sz - 1 : Nat) : Int), ((bb + c.sz + l.sz : Nat) : Int)].length : Nat) : Int) = 3 := by simp
    simp only [↓JN_eq, CTL3, OPS3, cast0, reduceIte, Nat.reduceEqDiff, t1]
    exact ⟨by rw [htx]; exact h5, k1.trans k5⟩
  | .atom l => by
    intro H b bb d xs hs ho hsm hd h hl
    refine x9 ?_
    obtain ⟨hnd, hks⟩ := Seg.nd (x := .s (.atom l)) hs
    have hsl : Seg ts bb (l.encL bb) := hks.cons.1
    obtain ⟨a, ha, e1, e2, e3, e4, h1, l1, k1⟩ := qbm hc h hnd
    have hnd' : (It.s (.atom l)).nd bb = ⟨18, 0, [((bb + l.sz : Nat) : Int)]⟩ := by simp [It.nd, It.kn, It.ks, endsF, ints, It.sz]
    rw [hnd'] at ha e3 e4 h1 l1 k1
    have hlt : (St.txt (.atom l) d) = [97, 116, 111, 109, 105, 99, 32] ++ blkT l d := rfl
    rw [hlt] at hl ⊢
    obtain ⟨tx, htx⟩ : ∃ tx : List UInt8, tx = [97, 116, 111, 109, 105, 99, 32] ++ blkT l d := ⟨_, rfl⟩
    rw [← htx]
    simp only [List.length_append, List.length_cons, List.length_nil] at hl
    simp only [It.sz] at e2 e3
    simp only at e4 h1 l1 k1
    simp only [St.sz] at hd
    generalize H.alloc (OR [.int .i64 18, .int .u64 0, a] qc) = H1 at *
    simp only [↓JN_eq, CTL3, OPS3, cast0, reduceIte, Nat.reduceEqDiff, qf, xr, e1, e2, e3, e4, l1.ld, Int.reduceEq]
    refine C3.q (zn (M := M) (s := [97, 116, 111, 109, 105, 99, 32]) h1 (by decide) (by simp only [List.length_cons, List.length_nil]; omega)) fun v H2 ⟨h2, k2⟩ => ?_
    have l2 := l1.step k2
    obtain ⟨i1, i2⟩ := wk ha h2.fr (i := 0) rfl (z := 0) rfl
    simp only [↓JN_eq, CTL3, OPS3, cast0, reduceIte, Nat.reduceEqDiff, qf, l2.ld, i1 .i64, i2]
    refine C3.q (qoi hc l (qgg hc l) (d := d) hsl ho.1 hsm (by omega) h2 (by simp only [List.length_append, List.length_cons, List.length_nil]; omega)) fun v H3 ⟨h3, k3⟩ => ?_
    simp only [↓JN_eq, CTL3, OPS3, cast0, reduceIte, Nat.reduceEqDiff, qf]
    exact ⟨by rw [htx]; simpa only [List.append_assoc] using h3, (k1.trans k2).trans k3⟩
  | .halt => by
    intro H b bb d xs hs ho hsm hd h hl
    refine x9 ?_
    obtain ⟨hnd, hks⟩ := Seg.nd (x := .s .halt) hs
    obtain ⟨a, ha, e1, e2, e3, e4, h1, l1, k1⟩ := qbm hc h hnd
    have hnd' : (It.s .halt).nd bb = ⟨19, 0, []⟩ := by simp [It.nd, It.kn, It.ks, endsF, ints]
    rw [hnd'] at ha e3 e4 h1 l1 k1
    have hlt : (St.txt .halt d) = [104, 97, 108, 116, 59] := rfl
    rw [hlt] at hl ⊢
    obtain ⟨tx, htx⟩ : ∃ tx : List UInt8, tx = [104, 97, 108, 116, 59] := ⟨_, rfl⟩
    rw [← htx]
    simp only [List.length_cons, List.length_nil] at hl
    simp only [It.sz] at e2 e3
    simp only at e4 h1 l1 k1
    generalize H.alloc (OR [.int .i64 19, .int .u64 0, a] qc) = H1 at *
    simp only [↓JN_eq, CTL3, OPS3, cast0, reduceIte, Nat.reduceEqDiff, qf, xr, e1, e2, e3, e4, l1.ld, Int.reduceEq]
    refine C3.q (zn (M := M) (s := [104, 97, 108, 116, 59]) h1 (by decide) (by simp only [List.length_cons, List.length_nil]; omega)) fun v H2 ⟨h2, k2⟩ => ?_
    simp only [↓JN_eq, CTL3, OPS3, cast0, reduceIte, Nat.reduceEqDiff, qf]
    exact ⟨by rw [htx]; exact h2, k1.trans k2⟩
theorem qgg {H0 : AHeap} {tv : AV} {ts : List Nd} (hc : WC H0 tv ts) : ∀ (l : Ls), LsP M H0 tv ts l
  | .nil => fun s h => by cases h
  | .cons x l => fun s h => by
    rcases List.mem_cons.1 h with h | h
    · rw [h]; exact St_spec hc x
    · exact qgg hc l s h
end
end Go.Am
namespace Go.Am
open Lang Go.Proofs
variable {M : Mac} [MK M]
abbrev lt64 (l : List Nd) : Prop := ∀ y ∈ l, y.n < 18446744073709551616
theorem lt64.app {a b : List Nd} (h : lt64 (a ++ b)) : lt64 a ∧ lt64 b := ⟨fun y hy => h y (by simp [hy]), fun y hy => h y (by simp [hy])⟩
theorem Ex.small_of : ∀ (x : Ex) (b : Nat), lt64 (x.enc b) → x.small
  | .num n, b, h => by have := h ⟨1, n, []⟩ (by simp [Ex.enc]); simp only at this; show n < 18446744073709551616; omega
  | .var v, b, h => trivial
  | .load a, b, h => Ex.small_of a b h.app.1
  | .bin o a c, b, h => ⟨Ex.small_of a b h.app.1, Ex.small_of c _ h.app.2.app.1⟩
theorem Cn.small_of (c : Cn) (b : Nat) (h : lt64 (c.enc b)) : c.small := ⟨Ex.small_of c.a b h.app.1, Ex.small_of c.b _ h.app.2.app.1⟩
mutual
theorem St.small_of : ∀ (x : Lang.St) (b : Nat), lt64 (x.enc b) → x.small
  | .set v a, b, h => Ex.small_of a b h.app.1
  | .store a c, b, h => ⟨Ex.small_of a b h.app.1, Ex.small_of c _ h.app.2.app.1⟩
  | .ite c l, b, h => ⟨Cn.small_of c b h.app.1, Ls.small_of l _ h.app.2.app.1⟩
  | .ites c l e, b, h => ⟨Cn.small_of c b h.app.1, Ls.small_of l _ h.app.2.app.1, Ls.small_of e _ h.app.2.app.2.app.2.app.1⟩
  | .loop c l, b, h => ⟨Cn.small_of c b h.app.1, Ls.small_of l _ h.app.2.app.1⟩
  | .atom l, b, h => Ls.small_of l _ h.app.1
  | .halt, b, h => trivial
theorem Ls.small_of : ∀ (x : Ls) (b : Nat), lt64 (x.enc b) → x.small
  | .nil, b, h => trivial
  | .cons s l, b, h => ⟨St.small_of s b h.app.1, Ls.small_of l _ h.app.2⟩
end
def printR (p : Ls) : List UInt8 × Int := if (scan (p.txt 0) (0, 0)).2 ≤ 50 then (p.txt 0, 0) else ([], 2)
theorem lies_W : liesB Tryd.prog 78 xy 5 0 = true := by kernel_rfl
theorem qpy {p : Ls} (hs : p.small) (hz : p.sz + 1 ≤ 2000) : (p.txt 0).length ≤ 100000000 := by
  have h := p.txt_len 0 p.sz hs (by omega)
  have : (40 + 8 * p.sz) * p.sz ≤ (40 + 8 * 2000) * 2000 := Nat.mul_le_mul (by omega) (by omega)
  omega
theorem Print_no {H : AHeap} {tv : AV} {t : List Nd} (hn : Nds H tv t) (hz : ∀ x ∈ t, x.kids.length * 8 ≤ 140737488355328) (hm : mayB t = false) : CALLQ M jn [tv] H fun v H' => v = .tuple [.str [], .int .i64 2] ∧ Fr Em H H' := by
  refine qjk ?_
  obtain ⟨w0, w2, -, -, -⟩ := qiy M ⟨none, jn⟩
  simp only [↓JN_eq, CTL3, OPS3, cast0, reduceIte, Nat.reduceEqDiff, w0, w2]
  refine C3.q (qtl (M := M) hn hz) fun v H1 ⟨hv, hf⟩ => ?_
  rw [hm] at hv; subst hv
  simp only [↓JN_eq, CTL3, OPS3, cast0, reduceIte, Nat.reduceEqDiff]
  exact hf
theorem qwc {H : AHeap} {tv : AV} {p : Ls} (hn : Nds H tv (p.encL 0)) (hz : ∀ x ∈ p.encL 0, x.kids.length * 8 ≤ 140737488355328) (hm : mayB (p.encL 0) = true) (ho : p.ok) (hs : p.small) (hl : p.sz + 1 ≤ 2000) (hp : PowT H) (hpl : xe < H.next) :
    CALLQ M jn [tv] H fun v H' => v = .tuple [.str (printR p).1, .int .i64 (printR p).2] ∧ Fr Em H H' := by
  refine qjk ?_
  obtain ⟨w0, w2, w10, w14, w22⟩ := qiy M ⟨none, jn⟩
  simp only [↓JN_eq, CTL3, OPS3, cast0, reduceIte, Nat.reduceEqDiff, w0, w2]
  refine C3.q (qtl (M := M) hn hz) fun v H1 ⟨hv, hf⟩ => ?_
  rw [hm] at hv; subst hv
  have hn1 := hn.em hf
  have hc : WC H1 tv (p.encL 0) := ⟨hn1, (hf.cells hpl id).trans hp, Nat.lt_of_lt_of_le hpl hf.next, by rw [Ls.lenL]; omega⟩
  have hb : Op.build [.nilp, .nils, .nils, .int .i64 0, .int .i64 0] [(2, 1)] [tv] = some (.agg [.nilp, .nils, tv, .int .i64 0, .int .i64 0]) := by
    obtain ⟨zs, _, h2, _⟩ := hn1.ex
    have hcl : tv.cells = [tv] := by have := h2.one; cases tv <;> first | rfl | cases this
    simp only [qyg, qpj, qtf, hcl]; rfl
  have wl : wrapI .i64 (((p.encL 0).length : Nat) - 1 : Int) = ((0 + p.sz : Nat) : Int) := by rw [Ls.lenL, xf (by omega) (by omega)]; omega
  simp only [↓JN_eq, CTL3, OPS3, cast0, reduceIte, Nat.reduceEqDiff, w10, hb, hn1.len, wl]
  have hf2 : Fr Em H1 (H1.alloc (OR [.nilp, .nils, tv, .int .i64 0, .int .i64 0] xy)) := (Fr.refl H1).alloc _
  have hws : WS H1 (H1.alloc (OR [.nilp, .nils, tv, .int .i64 0, .int .i64 0] xy)) H1.next tv [] :=
    ⟨⟨.nilp, .nils, qp .., .inl rfl, BufZ.nil hf2, fun q => q.1 rfl, fun _ _ => rfl⟩, Nat.le_refl _, by rw [qy]; omega, lies_W⟩
  have htl := qpy hs hl
  have hlo := qvx (M := M) hc p (qgg hc p) (bb := 0) (d := 0) (Seg.all _) ho hs (by omega) hws (by simp; omega)
  rw [Nat.zero_add] at hlo
  refine C3.q hlo fun v H2 ⟨h2, k2⟩ => ?_
  rw [List.nil_append] at h2
  have hpk : Op.load1 [.ptr H1.next 4] H2 = some (.int .i64 (scan (p.txt 0) (0, 0)).2) := by
    obtain ⟨⟨pp, buf, h1, _⟩, _⟩ := h2
    rw [kq (xj h1)]; rfl
  by_cases hq : (scan (p.txt 0) (0, 0)).2 ≤ 50
  · have q1 : ¬ (50 : Int) < (scan (p.txt 0) (0, 0)).2 := by omega
    rw [show printR p = (p.txt 0, 0) by unfold printR; rw [if_pos hq]]
    simp only [↓JN_eq, CTL3, OPS3, cast0, reduceIte, Nat.reduceEqDiff, w14, w22, xr, hpk, q1]
    refine C3.q (qgn (M := M) h2 (by omega) (.inr rfl)) fun v H3 ⟨hv, h3, _⟩ => ?_
    subst hv
    simp only [↓JN_eq, CTL3, OPS3, cast0, reduceIte, Nat.reduceEqDiff]
    exact hf.em h3.fr
  · have q1 : (50 : Int) < (scan (p.txt 0) (0, 0)).2 := by omega
    rw [show printR p = ([], 2) by unfold printR; rw [if_neg hq]]
    simp only [↓JN_eq, CTL3, OPS3, cast0, reduceIte, Nat.reduceEqDiff, w14, xr, hpk, q1]
    exact hf.em h2.fr
end Go.Am
namespace Go.Am
open Lang Go.Proofs
variable {M : Mac} [MK M]
theorem yl {a b : List UInt8} (h : a.length + b.length ≤ 140737488355328) : Op.bin .add [.str a, .str b] = some (.str (a ++ b)) := o_cat a b h
theorem qnj (H : AHeap) (n : Nat) (hn : n < 256) : Op.buildSlice j4 1 [.int .u8 0] [(0, 1)] [.int .u8 (n : Int)] = some (.row [.int .u8 (n : Int)] j4 (0, 0) true, Op.sliceTo 1 1) ∧
    Op.strOfBytes [Op.sliceTo 1 1 H.next] (H.alloc (.row [.int .u8 (n : Int)] j4 (0, 0) true)) = some (.str [UInt8.ofNat n]) := by
  refine ⟨rfl, ?_⟩
  have e : ((n : Nat) : Int) = ((UInt8.ofNat n).toNat : Nat) := by rw [UInt8.toNat_ofNat', Nat.mod_eq_of_lt hn]
  have hs := qww H ([UInt8.ofNat n].map fun c => AV.int .u8 (c.toNat : Nat)) j4 (0, 0) true
  have hfc := hs.first
  have hlv := hs.lenV
  simp only [List.map_cons, List.map_nil, ← e, List.length_cons, List.length_nil, Nat.zero_add] at hfc hlv
  have e2 : Op.strOfBytes [Op.sliceTo 1 1 H.next] (H.alloc (.row [.int .u8 (n : Int)] j4 (0, 0) true)) = (lenV (Op.sliceTo 1 1 H.next)).bind fun m => (firstCells (H.alloc (.row [.int .u8 (n : Int)] j4 (0, 0) true)) 1 m (Op.sliceTo 1 1 H.next)).bind fun l => (bytesOf l).bind fun s => some (.str s) := rfl
  rw [e2]
  have hn' : Op.sliceTo 1 1 H.next = .slice H.next 0 1 1 := rfl
  rw [hn', hlv, Option.bind_some, hfc, Option.bind_some]
  have := qgu [UInt8.ofNat n]
  simp only [List.map_cons, List.map_nil, ← e] at this
  rw [this]; rfl
theorem qsd {H : AHeap} {n : Nat} (hn : n < 18446744073709551616) : CALLQ M ke [.int .u64 (n : Int)] H fun v H' => v = .str (dec n) ∧ Fr Em H H' := by
  refine qmd ?_
  obtain ⟨w0, w4, w25, w7, w13, w18⟩ := qmn M ⟨none, ke⟩
  simp only [↓JN_eq, CTL3, OPS3, cast0, reduceIte, Nat.reduceEqDiff, w0, w4]
  have hl20 := qlg hn
  refine LOOP3.intro (fun k E' H' => ∃ m s, E' = [(0, .int .u64 (m : Nat)), (3, .str s)] ∧ k = m + (if s = [] then 1 else 0) ∧ dec n = dec m ++ s ∧ m < 18446744073709551616 ∧ (s = [] ∨ 0 < m) ∧ Fr Em H H') ?_ ?_
  · exact ⟨_, _, ⟨n, [], rfl, rfl, by simp, hn, .inl rfl, Fr.refl _⟩, by simp only [↓JN_eq, CTL3, OPS3, cast0, reduceIte, Nat.reduceEqDiff]⟩
  rintro k E' H' ⟨m, s, rfl, rfl, hdec, hm, hz, hf⟩
  have hsl : s.length ≤ 20 := by have := congrArg List.length hdec; rw [List.length_append] at this; omega
  by_cases h9 : 9 < m ∨ s = []
  · have r1 : Op.bin .rem [.int .u64 (m : Int), .int .u64 10] = some (.int .u64 ((m % 10 : Nat) : Int)) := by
      rw [o_rem .u64 _ _ (by decide), Int.tmod_eq_emod_of_nonneg (by omega)]; rfl
    have r2 : Op.bin .quo [.int .u64 (m : Int), .int .u64 10] = some (.int .u64 ((m / 10 : Nat) : Int)) := by
      rw [o_quo .u64 _ _ (by decide), Int.tdiv_eq_ediv_of_nonneg (by omega)]
      have : (m : Int) / 10 = ((m / 10 : Nat) : Int) := by rw [Int.natCast_ediv]; rfl
      rw [this, yq (by omega) (by omega)]
    have w1 : wrapI .u64 (48 + ((m % 10 : Nat) : Int)) = ((48 + m % 10 : Nat) : Int) := by rw [yq (by omega) (by omega)]; omega
    have w2 : wrapI .u8 ((48 + m % 10 : Nat) : Int) = ((48 + m % 10 : Nat) : Int) := qsc (by omega) (by omega)
    obtain ⟨b1, b2⟩ := qnj H' (48 + m % 10) (by omega)
    have hcat : Op.bin .add [.str [UInt8.ofNat (48 + m % 10)], .str s] = some (.str (UInt8.ofNat (48 + m % 10) :: s)) := o_cat [_] s (by simp; omega)
    have hf2 : Fr Em H (H'.alloc (.row [.int .u8 ((48 + m % 10 : Nat) : Int)] j4 (0, 0) true)) := hf.alloc _
    have cond : ∀ {A B : Bool → Prop}, A true → IF3 true (.bool (cond (decide ((9 : Int) < (m : Int))) true (decide (s = [])))) A B := by
      intro A B h
      have : cond (decide ((9 : Int) < (m : Int))) true (decide (s = [])) = true := by
        rcases h9 with q | q
        · rw [decide_eq_true (by omega)]; rfl
        · rw [decide_eq_true q]; cases decide ((9 : Int) < (m : Int)) <;> rfl
      rw [this]; exact h
    by_cases g9 : (9 : Int) < (m : Int)
    · have hm10 : 10 ≤ m := by omega
      have z : ¬ ((m / 10 : Nat) : Int) = 0 := by omega
      simp only [↓JN_eq, CTL3, OPS3, cast0, reduceIte, Nat.reduceEqDiff, w7, w13, w18, g9, r1, w1, w2, b1, b2, hcat, r2, z]
      refine ⟨_, _, ⟨m / 10, UInt8.ofNat (48 + m % 10) :: s, rfl, rfl, ?_, by omega, .inr (by omega), hf2⟩, by simp only [↓JN_eq, CTL3, OPS3, cast0, reduceIte, Nat.reduceEqDiff], by simp only [List.cons_ne_nil, if_false]; split <;> omega⟩
      rw [hdec, dec_ge hm10]; simp
    · have hs : s = [] := h9.resolve_left (by omega)
      have hm9 : m < 10 := by omega
      have z := eq_true (show ((m / 10 : Nat) : Int) = 0 by omega)
      simp only [↓JN_eq, CTL3, OPS3, cast0, reduceIte, Nat.reduceEqDiff, w7, w13, w18, g9, eq_true hs, r1, w1, w2, b1, b2, hcat, r2, z]
      refine ⟨?_, hf2⟩
      rw [hdec, dec_lt hm9, hs, Nat.mod_eq_of_lt hm9]; rfl
  · have g9 : ¬ (9 : Int) < (m : Int) := by omega
    have gs : ¬ s = [] := fun q => h9 (.inr q)
    have w1 : wrapI .u64 (48 + (m : Int)) = ((48 + m : Nat) : Int) := by rw [yq (by omega) (by omega)]; omega
    have w2 : wrapI .u8 ((48 + m : Nat) : Int) = ((48 + m : Nat) : Int) := qsc (by omega) (by omega)
    obtain ⟨b1, b2⟩ := qnj H' (48 + m) (by omega)
    have hcat : Op.bin .add [.str [UInt8.ofNat (48 + m)], .str s] = some (.str (UInt8.ofNat (48 + m) :: s)) := o_cat [_] s (by simp; omega)
    simp only [↓JN_eq, CTL3, OPS3, cast0, reduceIte, Nat.reduceEqDiff, w7, w25, g9, gs, w1, w2, b1, b2, hcat]
    refine ⟨?_, hf.alloc _⟩
    rw [hdec, dec_lt (by omega)]; rfl
theorem qiq {H : AHeap} {v : Nat} (hv : v ≤ 7) : CALLQ M kc [.int .u64 (v : Int)] H fun r H' => r = .str (letter v) ∧ Fr Em H H' := by
  refine qmj ?_
  have w1 : wrapI .u64 (97 + (v : Int)) = ((97 + v : Nat) : Int) := by rw [yq (by omega) (by omega)]; omega
  have w2 : wrapI .u8 ((97 + v : Nat) : Int) = ((97 + v : Nat) : Int) := qsc (by omega) (by omega)
  obtain ⟨b1, b2⟩ := qnj H (97 + v) (by omega)
  simp only [↓JN_eq, CTL3, OPS3, cast0, reduceIte, Nat.reduceEqDiff, ql6, w1, w2, b1, b2]
  exact ⟨rfl, (Fr.refl H).alloc _⟩
theorem qq9 {H : AHeap} {o : Nat} (h1 : 4 ≤ o) (h2 : o ≤ 10) : CALLQ M yb [.int .i64 (o : Int)] H fun v H' => v = .tuple [.str (sgn o), .int .i64 (rowOf o : Int)] ∧ Fr Em H H' := by
  refine ql7 ?_
  have hb : Op.buildSlice zh 7 [.str []] [(0, 1), (1, 1), (2, 1), (3, 1), (4, 1), (5, 1), (6, 1)] [.str [43], .str [45], .str [42], .str [38], .str [94], .str [60, 60], .str [62, 62]] = some (.row ([[43], [45], [42], [38], [94], [60, 60], [62, 62]].map AV.str) zh (0, 0) true, Op.sliceTo 7 7) := rfl
  have hw := qg3 H [[43], [45], [42], [38], [94], [60, 60], [62, 62]] zh 7 (0, 0) true rfl
  have hi : ([[43], [45], [42], [38], [94], [60, 60], [62, 62]] : List (List UInt8))[o - 4]? = some (sgn o) := by
    rcases (show o = 4 ∨ o = 5 ∨ o = 6 ∨ o = 7 ∨ o = 8 ∨ o = 9 ∨ o = 10 by omega) with rfl | rfl | rfl | rfl | rfl | rfl | rfl <;> rfl
  have ws : wrapI .i64 ((o : Int) - 4) = ((o - 4 : Nat) : Int) := by rw [xf (by omega) (by omega)]; omega
  have e1 := hw.idx hi (z := ((o - 4 : Nat) : Int)) rfl .i64
  have e2 := hw.load0 qg6 hi (by decide)
  have hn : Op.sliceTo 7 7 H.next = .slice H.next 0 7 7 := rfl
  have hf := (Fr.refl (W := Em) H).alloc (.row ([[43], [45], [42], [38], [94], [60, 60], [62, 62]].map AV.str) zh (0, 0) true)
  by_cases q : o = 4 ∨ o = 5 ∨ o = 8
  · have hr : rowOf o = 1 := by unfold rowOf; rw [if_pos q]
    rcases q with q | q | q
    · have q1 := eq_true (show (o : Int) = 4 by omega)
      simp only [↓JN_eq, CTL3, OPS3, cast0, reduceIte, Nat.reduceEqDiff, qa5, hb, ws, hn, e1, e2, encS, q1]
      exact ⟨by rw [hr]; rfl, hf⟩
    · have q1 : ¬ (o : Int) = 4 := by omega
      have q2 := eq_true (show (o : Int) = 5 by omega)
      simp only [↓JN_eq, CTL3, OPS3, cast0, reduceIte, Nat.reduceEqDiff, qa5, hb, ws, hn, e1, e2, encS, q1, q2]
      exact ⟨by rw [hr]; rfl, hf⟩
    · have q1 : ¬ (o : Int) = 4 := by omega
      have q2 : ¬ (o : Int) = 5 := by omega
      have q3 := eq_true (show (o : Int) = 8 by omega)
      simp only [↓JN_eq, CTL3, OPS3, cast0, reduceIte, Nat.reduceEqDiff, qa5, hb, ws, hn, e1, e2, encS, q1, q2, q3]
      exact ⟨by rw [hr]; rfl, hf⟩
  · have hr : rowOf o = 2 := by unfold rowOf; rw [if_neg q]
    have q1 : ¬ (o : Int) = 4 := by omega
    have q2 : ¬ (o : Int) = 5 := by omega
    have q3 : ¬ (o : Int) = 8 := by omega
    simp only [↓JN_eq, CTL3, OPS3, cast0, reduceIte, Nat.reduceEqDiff, qa5, hb, ws, hn, e1, e2, encS, q1, q2, q3]
    exact ⟨by rw [hr]; rfl, hf⟩
theorem qad {H0 : AHeap} {tv : AV} {ts : List Nd} (hn : Nds H0 tv ts) (h2k : ts.length ≤ 2000) : ∀ (x : Ex) {H : AHeap} {bb d : Nat}, Fr Em H0 H → Seg ts bb (x.enc bb) → x.ok → x.small → d ≤ 100 →
    CALLQ M zr [tv, .int .i64 ((bb + x.sz - 1 : Nat) : Int), .int .i64 (d : Int)] H fun v H' => v = .str (x.txt d) ∧ Fr Em H H'
  | .num n, H, bb, d, hf, hs, ho, hsm, hd => by
    refine qdp ?_
    obtain ⟨hnd, -⟩ := Seg.nd (x := .e (.num n)) hs
    have hsm : n < 18446744073709551616 := hsm
    obtain ⟨a, ha, a1, e2, e3, _⟩ := hn.getF hnd hf
    have e4 := qb6 H ((It.e (.num n)).nd bb) a1 qc
    simp only [It.nd, It.kn, It.ks, endsF, It.sz, ints, List.map_nil] at e2 e3 e4
    have t1 := eq_true (show (1 : Int) = 1 from rfl)
    simp only [↓JN_eq, CTL3, OPS3, cast0, reduceIte, Nat.reduceEqDiff, jw, e2, e3, e4, qr, t1]
    refine C3.q (qsd (M := M) hsm) fun v H2 ⟨hv, hf2⟩ => ?_
    subst hv
    simp only [↓JN_eq, CTL3, OPS3, cast0, reduceIte, Nat.reduceEqDiff, jw]
    exact ⟨rfl, ((Fr.refl H).alloc _).em hf2⟩
  | .var w, H, bb, d, hf, hs, ho, hsm, hd => by
    refine qdp ?_
    obtain ⟨hnd, -⟩ := Seg.nd (x := .e (.var w)) hs
    have ho : w ≤ 7 := ho
    obtain ⟨a, ha, a1, e2, e3, _⟩ := hn.getF hnd hf
    have e4 := qb6 H ((It.e (.var w)).nd bb) a1 qc
    simp only [It.nd, It.kn, It.ks, endsF, It.sz, ints, List.map_nil] at e2 e3 e4
    simp only [↓JN_eq, CTL3, OPS3, cast0, reduceIte, Nat.reduceEqDiff, jw, e2, e3, e4, qr, Int.reduceEq]
    refine C3.q (qiq (M := M) ho) fun v H2 ⟨hv, hf2⟩ => ?_
    subst hv
    simp only [↓JN_eq, CTL3, OPS3, cast0, reduceIte, Nat.reduceEqDiff, jw]
    exact ⟨rfl, ((Fr.refl H).alloc _).em hf2⟩
  | .load x, H, bb, d, hf, hs, ho, hsm, hd => by
    refine qdp ?_
    obtain ⟨hnd, hks⟩ := Seg.nd (x := .e (.load x)) hs
    have hsx : Seg ts bb (x.enc bb) := hks.cons.1
    have hxz : x.sz ≤ 2000 := by have := Seg.lt (x := .e x) hsx; simp only [It.sz] at this; omega
    have hxt := x.txt_len 0 hsm
    have hnd' : (It.e (.load x)).nd bb = ⟨3, 0, [((bb + x.sz - 1 : Nat) : Int)]⟩ := by simp [It.nd, It.kn, It.ks, endsF, ints, It.sz]
    rw [hnd'] at hnd
    obtain ⟨a, ha, a1, e2, e3, _⟩ := hn.getF hnd hf
    have e4 := qb6 H ⟨3, 0, [((bb + x.sz - 1 : Nat) : Int)]⟩ a1 qc
    simp only [It.sz] at e2 e3
    simp only at e4
    have hf1 : Fr Em H (H.alloc (OR [.int .i64 3, .int .u64 0, a] qc)) := (Fr.refl H).alloc _
    obtain ⟨i1, i2⟩ := wk ha (hf.em hf1) (i := 0) rfl (z := 0) rfl
    simp only [↓JN_eq, CTL3, OPS3, cast0, reduceIte, Nat.reduceEqDiff, jw, e2, e3, e4, qr, Int.reduceEq, i1 .i64, i2]
    refine C3.q (qad hn h2k x (d := 0) (hf.em hf1) hsx ho hsm (by omega)) fun v H2 ⟨hv, hf2⟩ => ?_
    subst hv
    simp (disch := first | omega | (simp only [List.length_append, List.length_cons, List.length_nil, x3]; omega)) only [↓JN_eq, CTL3, OPS3, yl, cast0, reduceIte, Nat.reduceEqDiff, jw]
    exact ⟨by simp [Ex.txt], hf1.em hf2⟩
  | .bin o x y, H, bb, d, hf, hs, ho, hsm, hd => by
    refine qdp ?_
    obtain ⟨hnd, hks⟩ := Seg.nd (x := .e (.bin o x y)) hs
    have hsx : Seg ts bb (x.enc bb) := hks.cons.1
    have hsy : Seg ts (bb + x.sz) (y.enc (bb + x.sz)) := hks.cons.2.cons.1
    have hxz : x.sz ≤ 2000 := by have := Seg.lt (x := .e x) hsx; simp only [It.sz] at this; omega
    have hyz : y.sz ≤ 2000 := by have := Seg.lt (x := .e y) hsy; simp only [It.sz] at this; omega
    obtain ⟨o4, o10, hox, hoy⟩ := ho
    have hxt := x.txt_len (rowOf o) hsm.1
    have hyt := y.txt_len (rowOf o + 1) hsm.2
    have hsl := qrs o
    have hrw := qtr o
    have hnd' : (It.e (.bin o x y)).nd bb = ⟨o, 0, [((bb + x.sz - 1 : Nat) : Int), ((bb + x.sz + y.sz - 1 : Nat) : Int)]⟩ := by simp [It.nd, It.kn, It.ks, endsF, ints, It.sz]
    rw [hnd'] at hnd
    obtain ⟨a, ha, a1, e2, e3, _⟩ := hn.getF hnd hf
    have e4 := qb6 H ⟨o, 0, [((bb + x.sz - 1 : Nat) : Int), ((bb + x.sz + y.sz - 1 : Nat) : Int)]⟩ a1 qc
    simp only [It.sz] at e2 e3
    simp only at e4
    have hf1 : Fr Em H (H.alloc (OR [.int .i64 (o : Nat), .int .u64 0, a] qc)) := (Fr.refl H).alloc _
    have g1 := qp H (OR [.int .i64 (o : Nat), .int .u64 0, a] qc)
    have n1 : H.next < (H.alloc (OR [.int .i64 (o : Nat), .int .u64 0, a] qc)).next := by rw [qy]; omega
    have L1 : ∀ k, Op.load1 [.ptr H.next k] (H.alloc (OR [.int .i64 (o : Nat), .int .u64 0, a] qc)) = [AV.int .i64 (o : Nat), .int .u64 0, a][k]? := fun k => kq (xj g1) k
    generalize H.alloc (OR [.int .i64 (o : Nat), .int .u64 0, a] qc) = H1 at *
    have t1 : ¬ (o : Int) = 1 := by omega
    have t2 : ¬ (o : Int) = 2 := by omega
    have t3 : ¬ (o : Int) = 3 := by omega
    have wr : wrapI .i64 ((rowOf o : Int) + 1) = ((rowOf o + 1 : Nat) : Int) := by rw [xf (by omega) (by omega)]; omega
    simp only [↓JN_eq, CTL3, OPS3, cast0, reduceIte, Nat.reduceEqDiff, jw, e2, e3, e4, L1, t1, t2, t3]
    refine C3.q (qq9 (M := M) o4 o10) fun v H2 ⟨hv, hf2⟩ => ?_
    subst hv
    have g2 : H2.get H.next = some (OR [.int .i64 (o : Nat), .int .u64 0, a] qc) := by rw [hf2.keep _ n1 id, g1]
    have n2 := Nat.lt_of_lt_of_le n1 hf2.next
    have L2 : ∀ k, Op.load1 [.ptr H.next k] H2 = [AV.int .i64 (o : Nat), .int .u64 0, a][k]? := fun k => kq (xj g2) k
    have hf02 := (hf.em hf1).em hf2
    obtain ⟨i1, i2⟩ := wk ha hf02 (i := 0) rfl (z := 0) rfl
    simp only [↓JN_eq, CTL3, OPS3, cast0, reduceIte, Nat.reduceEqDiff, jw, xh, L2, i1 .i64, i2]
    refine C3.q (qad hn h2k x (d := rowOf o) hf02 hsx hox hsm.1 (by omega)) fun v H3 ⟨hv, hf3⟩ => ?_
    subst hv
    have g3 : H3.get H.next = some (OR [.int .i64 (o : Nat), .int .u64 0, a] qc) := by rw [hf3.keep _ n2 id, g2]
    have L3 : ∀ k, Op.load1 [.ptr H.next k] H3 = [AV.int .i64 (o : Nat), .int .u64 0, a][k]? := fun k => kq (xj g3) k
    have hf03 := hf02.em hf3
    obtain ⟨j1, j2⟩ := wk ha hf03 (i := 1) rfl (z := 1) rfl
    simp only [↓JN_eq, CTL3, OPS3, cast0, reduceIte, Nat.reduceEqDiff, jw, L3, j1 .i64, j2, wr]
    refine C3.q (qad hn h2k y (d := rowOf o + 1) hf03 hsy hoy hsm.2 (by omega)) fun v H4 ⟨hv, hf4⟩ => ?_
    subst hv
    have hff := ((hf1.em hf2).em hf3).em hf4
    by_cases hlt : rowOf o < d
    · have q1 : (rowOf o : Int) < (d : Int) := by omega
      simp (disch := first | omega | (simp only [List.length_append, List.length_cons, List.length_nil, x3]; omega)) only [↓JN_eq, CTL3, OPS3, yl, cast0, reduceIte, Nat.reduceEqDiff, jw, q1]
      exact ⟨by simp [Ex.txt, par, hlt], hff⟩
    · have q1 : ¬ (rowOf o : Int) < (d : Int) := by omega
      simp (disch := first | omega | (simp only [List.length_append, List.length_cons, List.length_nil, x3]; omega)) only [↓JN_eq, CTL3, OPS3, yl, cast0, reduceIte, Nat.reduceEqDiff, jw, q1]
      exact ⟨by simp [Ex.txt, par, hlt], hff⟩
theorem qia {H0 H : AHeap} {tv : AV} {ts : List Nd} (hn : Nds H0 tv ts) (h2k : ts.length ≤ 2000) (x : Cn) {bb : Nat} (hf : Fr Em H0 H) (hs : Seg ts bb (x.enc bb)) (ho : x.ok) (hsm : x.small) :
    CALLQ M ym [tv, .int .i64 ((bb + x.sz - 1 : Nat) : Int)] H fun v H' => v = .str x.txt ∧ Fr Em H H' := by
  refine qqr ?_
  obtain ⟨hnd, hks⟩ := Seg.nd (x := .c x) hs
  have hsx : Seg ts bb (x.a.enc bb) := hks.cons.1
  have hsy : Seg ts (bb + x.a.sz) (x.b.enc (bb + x.a.sz)) := hks.cons.2.cons.1
  have hxz : x.a.sz ≤ 2000 := by have := Seg.lt (x := .e x.a) hsx; simp only [It.sz] at this; omega
  have hyz : x.b.sz ≤ 2000 := by have := Seg.lt (x := .e x.b) hsy; simp only [It.sz] at this; omega
  obtain ⟨o4, o10, hox, hoy⟩ := ho
  have hxt := x.a.txt_len 0 hsm.1
  have hyt := x.b.txt_len 0 hsm.2
  have hcl := qny x.k
  have hnd' : (It.c x).nd bb = ⟨x.k, 0, [((bb + x.a.sz - 1 : Nat) : Int), ((bb + x.a.sz + x.b.sz - 1 : Nat) : Int)]⟩ := by simp [It.nd, It.kn, It.ks, endsF, ints, It.sz]
  rw [hnd'] at hnd
  have hbs : Op.buildSlice zh 3 [.str []] [(0, 1), (1, 1), (2, 1)] [.str [32, 61, 61, 32], .str [32, 33, 61, 32], .str [32, 60, 32]] = some (.row ([[32, 61, 61, 32], [32, 33, 61, 32], [32, 60, 32]].map AV.str) zh (0, 0) true, Op.sliceTo 3 3) := rfl
  have hf1 : Fr Em H (H.alloc (.row ([[32, 61, 61, 32], [32, 33, 61, 32], [32, 60, 32]].map AV.str) zh (0, 0) true)) := (Fr.refl H).alloc _
  have hw := qg3 H [[32, 61, 61, 32], [32, 33, 61, 32], [32, 60, 32]] zh 3 (0, 0) true rfl
  have hi : ([[32, 61, 61, 32], [32, 33, 61, 32], [32, 60, 32]] : List (List UInt8))[x.k - 11]? = some (csgn x.k) := by
    rcases (show x.k = 11 ∨ x.k = 12 ∨ x.k = 13 by omega) with q | q | q <;> rw [q] <;> rfl
  have ws : wrapI .i64 ((x.k : Int) - 11) = ((x.k - 11 : Nat) : Int) := by rw [xf (by omega) (by omega)]; omega
  have f1 := hw.idx hi (z := ((x.k - 11 : Nat) : Int)) rfl .i64
  have f2 := hw.load0 qg6 hi (by decide)
  have sn : Op.sliceTo 3 3 H.next = .slice H.next 0 3 3 := rfl
  obtain ⟨H1, hH1⟩ : ∃ H1, H.alloc (.row ([[32, 61, 61, 32], [32, 33, 61, 32], [32, 60, 32]].map AV.str) zh (0, 0) true) = H1 := ⟨_, rfl⟩
  rw [hH1] at hf1 hw f2
  obtain ⟨a, ha, a1, e2, _, e3, _, e4⟩ := hn.getF hnd (hf.em hf1)
  simp only [It.sz] at e2 e3 e4
  obtain ⟨i1, i2⟩ := wk ha (hf.em hf1) (i := 0) rfl (z := 0) rfl
  obtain ⟨j1, j2⟩ := wk ha (hf.em hf1) (i := 1) rfl (z := 1) rfl
  simp only [↓JN_eq, CTL3, OPS3, cast0, reduceIte, Nat.reduceEqDiff, qfc, hbs, hH1, sn, e2, e3, e4, i1 .i64, i2, ws, f1, f2, encS, j1 .i64, j2]
  refine C3.q (qad (M := M) hn h2k x.a (d := 0) (hf.em hf1) hsx hox hsm.1 (by omega)) fun v H2 ⟨hv, hf2⟩ => ?_
  subst hv
  have hf02 := (hf.em hf1).em hf2
  have chk : ∀ {H2 : AHeap}, Fr Em H1 H2 → Op.load1 [.ptr (slB tv) (slO 3 tv (bb + x.sz - 1))] H2 = some (.int .i64 (x.k : Nat)) ∧ Op.load1 [.ptr (slB tv) (slO 3 tv (bb + x.sz - 1) + 2)] H2 = some a ∧ Op.load1 [.ptr (slB a) (slO 1 a 1)] H2 = some (.int .i64 ((bb + x.a.sz + x.b.sz - 1 : Nat) : Int)) ∧
      Op.load1 [.ptr (slB (.slice H.next 0 3 3)) (slO 1 (.slice H.next 0 3 3) (x.k - 11))] H2 = some (.str (csgn x.k)) := by
    intro H2 f
    have ff := (hf.em hf1).em f
    obtain ⟨zs, z1, z2, z3⟩ := hn.ex
    obtain ⟨z, hz, hzx⟩ : ∃ z, zs[bb + x.sz - 1]? = some z ∧ z.1 = ⟨x.k, 0, [((bb + x.a.sz - 1 : Nat) : Int), ((bb + x.a.sz + x.b.sz - 1 : Nat) : Int)]⟩ := by
      rw [← z1, List.getElem?_map] at hnd
      cases hq : zs[bb + (It.c x).sz - 1]? with
      | none => rw [hq] at hnd; cases hnd
      | some z => rw [hq] at hnd; injection hnd with hx; exact ⟨z, hq, hx⟩
    have z2' := z2.em ff
    have z2'' := z2.em (hf.em hf1)
    have l2 := z2''.load1 vp hz (j := 2) (by decide)
    have : z.2 = a := by
      have e : Op.load1 [.ptr (slB tv) (slO 3 tv (bb + x.sz - 1) + 2)] H1 = some z.2 := l2
      rw [e4] at e; exact (Option.some.inj e).symm
    refine ⟨by rw [z2'.load0 vp hz (by decide)]; show some (AV.int .i64 z.1.k) = _; rw [hzx], by rw [z2'.load1 vp hz (j := 2) (by decide)]; show some z.2 = _; rw [this], (wk ha ff (i := 1) rfl (z := 1) rfl).2, ?_⟩
    rw [(hw.em f).load0 qg6 hi (by decide)]; rfl
  obtain ⟨c1, c2, c3, c4⟩ := chk hf2
  simp (disch := first | omega | (simp only [List.length_append, List.length_cons, List.length_nil, x3]; omega)) only [↓JN_eq, CTL3, OPS3, yl, cast0, reduceIte, Nat.reduceEqDiff, qfc, c1, c2, c3, c4]
  refine C3.q (qad (M := M) hn h2k x.b (d := 0) hf02 hsy hoy hsm.2 (by omega)) fun v H3 ⟨hv, hf3⟩ => ?_
  subst hv
  obtain ⟨d1, d2, d3, d4⟩ := chk (hf2.em hf3)
  simp (disch := first | omega | (simp only [List.length_append, List.length_cons, List.length_nil, x3]; omega)) only [↓JN_eq, CTL3, OPS3, yl, cast0, reduceIte, Nat.reduceEqDiff, qfc, d1, d2, d3, d4]
  exact ⟨by simp [Cn.txt], (hf1.em hf2).em hf3⟩
end Go.Am
namespace Go.Am
open Lang Go.Proofs
variable {M : Mac} [MK M]
theorem ind_succ (d : Nat) : ind d ++ [32, 32] = ind (d + 1) := by
  unfold ind; rw [show 2 * (d + 1) = 2 * d + 2 by omega, ← List.replicate_append_replicate]; rfl
def RP (M : Mac) (H0 : AHeap) (tv : AV) (ts : List Nd) (l : Ls) : Prop := ∀ (H : AHeap) (bb d : Nat), Fr Em H0 H → Seg ts bb (l.encL bb) → l.ok → l.small → d + l.sz ≤ 4000 → (l.txt d).length ≤ 1000000000 →
  CALLQ M zk [tv, .int .i64 ((bb + l.sz : Nat) : Int), .str (ind d)] H fun v H' => v = .str (l.txt d) ∧ Fr Em H H'
def SL (M : Mac) (H0 : AHeap) (tv : AV) (ts : List Nd) : Lang.St → Prop
  | .ite _ l => RP M H0 tv ts l
  | .ites _ l m => RP M H0 tv ts l ∧ RP M H0 tv ts m
  | .loop _ l => RP M H0 tv ts l
  | .atom l => RP M H0 tv ts l
  | _ => True
structure RdC (H0 : AHeap) (tv : AV) (ts : List Nd) : Prop where
  nd : Nds H0 tv ts
  len : ts.length ≤ 2000
theorem RdC.szle {ts : List Nd} {H0 : AHeap} {tv : AV} (hc : RdC H0 tv ts) {b : Nat} {x : It} (h : Seg ts b (x.enc b)) : x.sz ≤ 2000 := by
  have := h.lt; have := hc.len; omega
theorem rstmt {H0 H : AHeap} {tv a : AV} {ts : List Nd} (hc : RdC H0 tv ts) (s : Lang.St) (hsl : SL M H0 tv ts s) {c d p : Nat} {acc : List UInt8} {Q : Post3} {E : Env} {k n : Int} {kids : List Int} (hf : Fr Em H0 H) (hs : Seg ts c (s.enc c)) (ho : s.ok) (hsm : s.small) (hd : d + s.sz ≤ 4000) (hl : acc.length + (s.txt d).length ≤ 2000000000) (hl2 : (s.txt d).length ≤ 1000000000)
    (hnd : (It.s s).nd c = ⟨k, n, kids⟩) (ha : SlT encI 1 H0 a kids) (hrow : H.get p = some (OR [.int .i64 k, .int .u64 n, a] qc)) (hp : p < H.next)
    (e9 : lk E 9 = some (.ptr p 0)) (e7 : lk E 7 = some (.str acc)) (e0 : lk E 0 = some tv) (e2 : lk E 2 = some (.str (ind d)))
    (hq : ∀ H' E', lk E' 7 = some (.str (acc ++ s.txt d)) → lk E' 8 = lk E 8 → lk E' 0 = lk E 0 → lk E' 1 = lk E 1 → lk E' 2 = lk E 2 → Fr Em H H' → W M ⟨none, zk⟩ (qt 56) true (BLK3 1 Q) E' [] H') :
    W M ⟨none, zk⟩ (qt 21) true (BLK3 1 Q) E [] H := by
  obtain ⟨-, -, -, -, -, -, w21, -, w33, w38, w46, w47⟩ := qi3 M ⟨none, zk⟩
  have L : ∀ {H'}, Fr Em H H' → ∀ o, Op.load1 [.ptr p o] H' = [AV.int .i64 k, .int .u64 n, a][o]? := fun {H'} f o => kq (xj (by rw [f.keep p hp id, hrow])) o
  have L0 := L (Fr.refl H)
  have K : ∀ {H'}, Fr Em H H' → ∀ {i : Nat} {x : Int}, kids[i]? = some x → ∀ {z : Int}, z = (i : Int) → (∀ k, Op.indexSl 1 [a, .int k z] = some (.ptr (slB a) (slO 1 a i))) ∧ Op.load1 [.ptr (slB a) (slO 1 a i)] H' = some (.int .i64 x) := fun {H'} f {i x} hx {z} hz => wk ha (hf.em f) hx hz
  have hin : Op.bin .add [.str (ind d), .str [32, 32]] = some (.str (ind (d + 1))) := by rw [yl (by rw [x3]; simp; omega), ind_succ]
  cases s with
  | set w x =>
    have hnd' : (It.s (.set w x)).nd c = ⟨14, w, [((c + x.sz - 1 : Nat) : Int)]⟩ := by simp [It.nd, It.kn, It.ks, endsF, ints, It.sz]
    rw [hnd'] at hnd; injection hnd with q1 q2 q3; subst q1; subst q2; subst q3
    have hsx : Seg ts c (x.enc c) := (Seg.nd (x := .s (.set w x)) hs).2.cons.1
    obtain ⟨tx, htx⟩ : ∃ tx, tx = St.txt (.set w x) d := ⟨_, rfl⟩
    rw [← htx] at hq
    have hlx : (St.txt (.set w x) d).length = 1 + 3 + (x.txt 0).length + 1 := by simp [St.txt, letter]; omega
    obtain ⟨i1, i2⟩ := K (Fr.refl H) (i := 0) rfl (z := 0) rfl
    have t1 := eq_true (show (14 : Int) = 14 from rfl)
    simp only [↓JN_eq, CTL3, OPS3, cast0, reduceIte, Nat.reduceEqDiff, w21, e9, e7, e0, L0, t1, i1 .i64, i2]
    refine C3.q (qiq (M := M) ho.1) fun v H2 ⟨hv, hf2⟩ => ?_
    subst hv
    have hll : (letter w).length = 1 := rfl
    obtain ⟨-, i3⟩ := K hf2 (i := 0) rfl (z := 0) rfl
    simp (disch := first | omega | (simp only [List.length_append, List.length_cons, List.length_nil, x3]; omega)) only [↓JN_eq, CTL3, OPS3, yl, cast0, reduceIte, Nat.reduceEqDiff, L hf2, i3, hll]
    refine C3.q (qad (M := M) hc.nd hc.len x (d := 0) (hf.em hf2) hsx ho.2 hsm (by omega)) fun v H3 ⟨hv, hf3⟩ => ?_
    subst hv
    simp (disch := first | omega | (simp only [List.length_append, List.length_cons, List.length_nil, x3]; omega)) only [↓JN_eq, CTL3, OPS3, yl, cast0, reduceIte, Nat.reduceEqDiff, hll]
    exact hq H3 _ (by rw [htx]; simp [St.txt, ku]) rfl rfl rfl rfl (hf2.em hf3)
  | store x y =>
    have hnd' : (It.s (.store x y)).nd c = ⟨15, 0, [((c + x.sz - 1 : Nat) : Int), ((c + x.sz + y.sz - 1 : Nat) : Int)]⟩ := by simp [It.nd, It.kn, It.ks, endsF, ints, It.sz]
    rw [hnd'] at hnd; injection hnd with q1 q2 q3; subst q1; subst q2; subst q3
    have hks := (Seg.nd (x := .s (.store x y)) hs).2
    have hsx : Seg ts c (x.enc c) := hks.cons.1
    have hsy : Seg ts (c + x.sz) (y.enc (c + x.sz)) := hks.cons.2.cons.1
    obtain ⟨tx, htx⟩ : ∃ tx, tx = St.txt (.store x y) d := ⟨_, rfl⟩
    rw [← htx] at hq
    have hlx : (St.txt (.store x y) d).length = 6 + (x.txt 0).length + 2 + (y.txt 0).length + 2 := by simp [St.txt]; omega
    obtain ⟨i1, i2⟩ := K (Fr.refl H) (i := 0) rfl (z := 0) rfl
    obtain ⟨j1, j2⟩ := K (Fr.refl H) (i := 1) rfl (z := 1) rfl
    simp (disch := first | omega | (simp only [List.length_append, List.length_cons, List.length_nil, x3]; omega)) only [↓JN_eq, CTL3, OPS3, yl, cast0, reduceIte, Nat.reduceEqDiff, w21, e9, e7, e0, L0, Int.reduceEq, i1 .i64, i2, j1 .i64, j2]
    refine C3.q (qad (M := M) hc.nd hc.len x (d := 0) hf hsx ho.1 hsm.1 (by omega)) fun v H2 ⟨hv, hf2⟩ => ?_
    subst hv
    obtain ⟨-, j3⟩ := K hf2 (i := 1) rfl (z := 1) rfl
    simp (disch := first | omega | (simp only [List.length_append, List.length_cons, List.length_nil, x3]; omega)) only [↓JN_eq, CTL3, OPS3, yl, cast0, reduceIte, Nat.reduceEqDiff, L hf2, j3]
    refine C3.q (qad (M := M) hc.nd hc.len y (d := 0) (hf.em hf2) hsy ho.2 hsm.2 (by omega)) fun v H3 ⟨hv, hf3⟩ => ?_
    subst hv
    simp (disch := first | omega | (simp only [List.length_append, List.length_cons, List.length_nil, x3]; omega)) only [↓JN_eq, CTL3, OPS3, yl, cast0, reduceIte, Nat.reduceEqDiff]
    exact hq H3 _ (by rw [htx]; simp [St.txt, ku]) rfl rfl rfl rfl (hf2.em hf3)
  | ite q l =>
    have hnd' : (It.s (.ite q l)).nd c = ⟨16, 0, [((c + q.sz - 1 : Nat) : Int), ((c + q.sz + l.sz : Nat) : Int)]⟩ := by simp [It.nd, It.kn, It.ks, endsF, ints, It.sz]
    rw [hnd'] at hnd; injection hnd with q1 q2 q3; subst q1; subst q2; subst q3
    have hks := (Seg.nd (x := .s (.ite q l)) hs).2
    have hsx : Seg ts c (q.enc c) := hks.cons.1
    have hsy : Seg ts (c + q.sz) (l.encL (c + q.sz)) := hks.cons.2.cons.1
    obtain ⟨tx, htx⟩ : ∃ tx, tx = St.txt (.ite q l) d := ⟨_, rfl⟩
    rw [← htx] at hq
    simp only [St.sz] at hd
    have hlx : (St.txt (.ite q l) d).length = 4 + q.txt.length + 2 + 2 + (l.txt (d + 1)).length + 2 * d + 1 := by simp [St.txt, x3]; omega
    obtain ⟨i1, i2⟩ := K (Fr.refl H) (i := 0) rfl (z := 0) rfl
    obtain ⟨j1, j2⟩ := K (Fr.refl H) (i := 1) rfl (z := 1) rfl
    simp (disch := first | omega | (simp only [List.length_append, List.length_cons, List.length_nil, x3]; omega)) only [↓JN_eq, CTL3, OPS3, yl, cast0, reduceIte, Nat.reduceEqDiff, w21, w33, e9, e7, e0, e2, L0, Int.reduceEq, i1 .i64, i2, j1 .i64, j2, hin]
    refine C3.q (qia (M := M) hc.nd hc.len q hf hsx ho.1 hsm.1) fun v H2 ⟨hv, hf2⟩ => ?_
    subst hv
    obtain ⟨-, j3⟩ := K hf2 (i := 1) rfl (z := 1) rfl
    simp (disch := first | omega | (simp only [List.length_append, List.length_cons, List.length_nil, x3]; omega)) only [↓JN_eq, CTL3, OPS3, yl, cast0, reduceIte, Nat.reduceEqDiff, L hf2, j3]
    refine C3.q (hsl H2 _ _ (hf.em hf2) hsy ho.2 hsm.2 (by omega) (by omega)) fun v H3 ⟨hv, hf3⟩ => ?_
    subst hv
    have t1 : ¬ (([((c + q.sz - 1 : Nat) : Int), ((c + q.sz + l.sz : Nat) : Int)].length : Nat) : Int) = 3 := by simp
    have hal := (ha.em (hf.em (hf2.em hf3))).len
    simp (disch := first | omega | (simp only [List.length_append, List.length_cons, List.length_nil, x3]; omega)) only [↓JN_eq, CTL3, OPS3, yl, cast0, reduceIte, Nat.reduceEqDiff, w38, e9, e2, L (hf2.em hf3), hal, t1]
    exact hq H3 _ (by rw [htx]; simp [St.txt, ku]) rfl rfl rfl rfl (hf2.em hf3)
  | ites q l m =>
    have hnd' : (It.s (.ites q l m)).nd c = ⟨16, 0, [((c + q.sz - 1 : Nat) : Int), ((c + q.sz + l.sz : Nat) : Int), ((c + q.sz + (l.sz + 1) + m.sz : Nat) : Int)]⟩ := by
      simp [It.nd, It.kn, It.ks, endsF, ints, It.sz]
    rw [hnd'] at hnd; injection hnd with q1 q2 q3; subst q1; subst q2; subst q3
    have hks := (Seg.nd (x := .s (.ites q l m)) hs).2
    have hsx : Seg ts c (q.enc c) := hks.cons.1
    have hsy : Seg ts (c + q.sz) (l.encL (c + q.sz)) := hks.cons.2.cons.1
    have hsz : Seg ts (c + q.sz + (l.sz + 1)) (m.encL (c + q.sz + (l.sz + 1))) := hks.cons.2.cons.2.cons.1
    obtain ⟨tx, htx⟩ : ∃ tx, tx = St.txt (.ites q l m) d := ⟨_, rfl⟩
    rw [← htx] at hq
    simp only [St.sz] at hd
    have hlx : (St.txt (.ites q l m) d).length = 4 + q.txt.length + 2 + 2 + (l.txt (d + 1)).length + 2 * d + 1 + 6 + 2 + (m.txt (d + 1)).length + 2 * d + 1 := by simp [St.txt, x3]; omega
    obtain ⟨i1, i2⟩ := K (Fr.refl H) (i := 0) rfl (z := 0) rfl
    obtain ⟨j1, j2⟩ := K (Fr.refl H) (i := 1) rfl (z := 1) rfl
    simp (disch := first | omega | (simp only [List.length_append, List.length_cons, List.length_nil, x3]; omega)) only [↓JN_eq, CTL3, OPS3, yl, cast0, reduceIte, Nat.reduceEqDiff, w21, w33, e9, e7, e0, e2, L0, Int.reduceEq, i1 .i64, i2, j1 .i64, j2, hin]
    refine C3.q (qia (M := M) hc.nd hc.len q hf hsx ho.1 hsm.1) fun v H2 ⟨hv, hf2⟩ => ?_
    subst hv
    obtain ⟨-, j3⟩ := K hf2 (i := 1) rfl (z := 1) rfl
    simp (disch := first | omega | (simp only [List.length_append, List.length_cons, List.length_nil, x3]; omega)) only [↓JN_eq, CTL3, OPS3, yl, cast0, reduceIte, Nat.reduceEqDiff, L hf2, j3]
    refine C3.q (hsl.1 H2 _ _ (hf.em hf2) hsy ho.2.1 hsm.2.1 (by omega) (by omega)) fun v H3 ⟨hv, hf3⟩ => ?_
    subst hv
    have hff := hf2.em hf3
    have t1 := eq_true (show (([((c + q.sz - 1 : Nat) : Int), ((c + q.sz + l.sz : Nat) : Int), ((c + q.sz + (l.sz + 1) + m.sz : Nat) : Int)].length : Nat) : Int) = 3 by simp)
    have hal := (ha.em (hf.em hff)).len
    obtain ⟨k1, k2⟩ := K hff (i := 2) rfl (z := 2) rfl
    simp (disch := first | omega | (simp only [List.length_append, List.length_cons, List.length_nil, x3]; omega)) only [↓JN_eq, CTL3, OPS3, yl, cast0, reduceIte, Nat.reduceEqDiff, w38, e9, e0, e2, L hff, hal, t1, k1 .i64, k2, hin]
    refine C3.q (hsl.2 H3 _ _ (hf.em hff) hsz ho.2.2 hsm.2.2 (by omega) (by omega)) fun v H4 ⟨hv, hf4⟩ => ?_
    subst hv
    simp (disch := first | omega | (simp only [List.length_append, List.length_cons, List.length_nil, x3]; omega)) only [↓JN_eq, CTL3, OPS3, yl, cast0, reduceIte, Nat.reduceEqDiff, e2]
    exact hq H4 _ (by rw [htx]; simp [St.txt, ku]) rfl rfl rfl rfl (hff.em hf4)
  | loop q l =>
    have hnd' : (It.s (.loop q l)).nd c = ⟨17, 0, [((c + q.sz - 1 : Nat) : Int), ((c + q.sz + l.sz : Nat) : Int)]⟩ := by simp [It.nd, It.kn, It.ks, endsF, ints, It.sz]
    rw [hnd'] at hnd; injection hnd with q1 q2 q3; subst q1; subst q2; subst q3
    have hks := (Seg.nd (x := .s (.loop q l)) hs).2
    have hsx : Seg ts c (q.enc c) := hks.cons.1
    have hsy : Seg ts (c + q.sz) (l.encL (c + q.sz)) := hks.cons.2.cons.1
    obtain ⟨tx, htx⟩ : ∃ tx, tx = St.txt (.loop q l) d := ⟨_, rfl⟩
    rw [← htx] at hq
    simp only [St.sz] at hd
    have hlx : (St.txt (.loop q l) d).length = 7 + q.txt.length + 2 + 2 + (l.txt (d + 1)).length + 2 * d + 1 := by simp [St.txt, x3]; omega
    obtain ⟨i1, i2⟩ := K (Fr.refl H) (i := 0) rfl (z := 0) rfl
    obtain ⟨j1, j2⟩ := K (Fr.refl H) (i := 1) rfl (z := 1) rfl
    simp (disch := first | omega | (simp only [List.length_append, List.length_cons, List.length_nil, x3]; omega)) only [↓JN_eq, CTL3, OPS3, yl, cast0, reduceIte, Nat.reduceEqDiff, w21, w33, w46, e9, e7, e0, e2, L0, Int.reduceEq, i1 .i64, i2, j1 .i64, j2, hin]
    refine C3.q (qia (M := M) hc.nd hc.len q hf hsx ho.1 hsm.1) fun v H2 ⟨hv, hf2⟩ => ?_
    subst hv
    obtain ⟨-, j3⟩ := K hf2 (i := 1) rfl (z := 1) rfl
    simp (disch := first | omega | (simp only [List.length_append, List.length_cons, List.length_nil, x3]; omega)) only [↓JN_eq, CTL3, OPS3, yl, cast0, reduceIte, Nat.reduceEqDiff, L hf2, j3]
    refine C3.q (hsl H2 _ _ (hf.em hf2) hsy ho.2 hsm.2 (by omega) (by omega)) fun v H3 ⟨hv, hf3⟩ => ?_
    subst hv
    simp (disch := first | omega | (simp only [List.length_append, List.length_cons, List.length_nil, x3]; omega)) only [↓JN_eq, CTL3, OPS3, yl, cast0, reduceIte, Nat.reduceEqDiff]
    exact hq H3 _ (by rw [htx]; simp [St.txt, ku]) rfl rfl rfl rfl (hf2.em hf3)
  | atom l =>
    have hnd' : (It.s (.atom l)).nd c = ⟨18, 0, [((c + l.sz : Nat) : Int)]⟩ := by simp [It.nd, It.kn, It.ks, endsF, ints, It.sz]
    rw [hnd'] at hnd; injection hnd with q1 q2 q3; subst q1; subst q2; subst q3
    have hsy : Seg ts c (l.encL c) := (Seg.nd (x := .s (.atom l)) hs).2.cons.1
    obtain ⟨tx, htx⟩ : ∃ tx, tx = St.txt (.atom l) d := ⟨_, rfl⟩
    rw [← htx] at hq
    simp only [St.sz] at hd
    have hlx : (St.txt (.atom l) d).length = 7 + 2 + (l.txt (d + 1)).length + 2 * d + 1 := by simp [St.txt, x3]; omega
    obtain ⟨i1, i2⟩ := K (Fr.refl H) (i := 0) rfl (z := 0) rfl
    simp (disch := first | omega | (simp only [List.length_append, List.length_cons, List.length_nil, x3]; omega)) only [↓JN_eq, CTL3, OPS3, yl, cast0, reduceIte, Nat.reduceEqDiff, w21, w33, w47, e9, e7, e0, e2, L0, Int.reduceEq, i1 .i64, i2, hin]
    refine C3.q (hsl H _ _ hf hsy ho.1 hsm (by omega) (by omega)) fun v H3 ⟨hv, hf3⟩ => ?_
    subst hv
    simp (disch := first | omega | (simp only [List.length_append, List.length_cons, List.length_nil, x3]; omega)) only [↓JN_eq, CTL3, OPS3, yl, cast0, reduceIte, Nat.reduceEqDiff, e2]
    exact hq H3 _ (by rw [htx]; simp [St.txt, ku]) rfl rfl rfl rfl hf3
  | halt =>
    have hnd' : (It.s .halt).nd c = ⟨19, 0, []⟩ := by simp [It.nd, It.kn, It.ks, endsF, ints]
    rw [hnd'] at hnd; injection hnd with q1 q2 q3; subst q1; subst q2; subst q3
    have hlx : (St.txt .halt d).length = 5 := rfl
    simp (disch := first | omega | (simp only [List.length_append, List.length_cons, List.length_nil, x3]; omega)) only [↓JN_eq, CTL3, OPS3, yl, cast0, reduceIte, Nat.reduceEqDiff, w21, w33, w47, e9, e7, e0, L0, Int.reduceEq]
    exact hq H _ (by simp [St.txt, ku]) rfl rfl rfl rfl (Fr.refl _)
theorem qfv {H0 : AHeap} {tv : AV} {ts : List Nd} (hc : RdC H0 tv ts) (l : Ls) (hsl : ∀ s ∈ sts l, SL M H0 tv ts s) : RP M H0 tv ts l := by
  intro H bb d hf hs ho hsm hd hl
  refine qp9 ?_
  obtain ⟨w0, w4, w58, w9, w15, w57, -, w56, -, -, -, -⟩ := qi3 M ⟨none, zk⟩
  obtain ⟨hnd, -⟩ := Seg.nd (x := .l l) hs
  have hse : Seg ts bb (l.enc bb) := hs.left
  have hsz : (It.l l).sz = l.sz + 1 := rfl
  rw [hsz, show bb + (l.sz + 1) - 1 = bb + l.sz by omega] at hnd
  have hnd' : (It.l l).nd bb = ⟨20, 0, ints (l.ends bb)⟩ := by simp [It.nd, It.kn, It.ks, Ls.its_ends]
  rw [hnd'] at hnd
  have hlen := qsw l
  rw [qrm] at hl ⊢
  simp only [↓JN_eq, CTL3, OPS3, cast0, reduceIte, Nat.reduceEqDiff, w0, w4]
  refine LOOP3.intro (fun k E' H' => ∃ j, E' = [(8, .int .i64 (j : Nat)), (7, .str (((sts l).take j).flatMap (lineT d))), (0, tv), (1, .int .i64 ((bb + l.sz : Nat) : Int)), (2, .str (ind d))] ∧ k = (sts l).length - j ∧ j ≤ (sts l).length ∧ Fr Em H H') ?_ ?_
  · exact ⟨_, _, ⟨0, rfl, rfl, by omega, Fr.refl _⟩, by simp only [↓JN_eq, CTL3, OPS3, cast0, reduceIte, Nat.reduceEqDiff]; rfl⟩
  rintro k E' Hc ⟨j, rfl, rfl, hj, hfc⟩
  obtain ⟨a, ha, _, n1, _, _, _, n4⟩ := hc.nd.getF hnd (hf.em hfc)
  have hal := (ha.em (hf.em hfc)).len
  rw [qtw] at hal
  rcases Nat.lt_or_ge j (sts l).length with hlt | hge
  · have q1 : (j : Int) < ((sts l).length : Nat) := by omega
    obtain ⟨s, hsj⟩ : ∃ s, (sts l)[j]? = some s := ⟨(sts l)[j], by simp [hlt]⟩
    have hm := List.mem_of_getElem? hsj
    obtain ⟨c, hkc, hsc⟩ := sts_at hse hsj
    obtain ⟨i1, i2⟩ := wk ha (hf.em hfc) hkc (z := (j : Int)) rfl
    have hfl := qhh (lineT d) (sts l) j hsj
    have hll : (lineT d s).length = 2 * d + (s.txt d).length + 1 := by simp [lineT, x3]; omega
    have hszs := qyd l s hm
    obtain ⟨hnds, -⟩ := Seg.nd (x := .s s) hsc
    have hss : (It.s s).sz = s.sz := rfl
    rw [hss] at hnds
    obtain ⟨b, hb, b1, m1, m2, _⟩ := hc.nd.getF hnds (hf.em hfc)
    have hst := qb6 Hc ((It.s s).nd c) b1 qc
    have wj : wrapI .i64 ((j : Int) + 1) = ((j + 1 : Nat) : Int) := by rw [xf (by omega) (by omega)]; omega
    have hcat : Op.bin .add [.str (((sts l).take j).flatMap (lineT d)), .str (ind d)] = some (.str (((sts l).take j).flatMap (lineT d) ++ ind d)) := yl (by rw [x3]; omega)
    simp only [↓JN_eq, CTL3, OPS3, cast0, reduceIte, Nat.reduceEqDiff, w9, w15, n1, n4, hal, q1, i1 .i64, i2, m1, m2, hst, hcat]
    have hf1 : Fr Em Hc (Hc.alloc (OR [.int .i64 ((It.s s).nd c).k, .int .u64 ((It.s s).nd c).n, b] qc)) := (Fr.refl Hc).alloc _
    refine rstmt hc s (hsl s hm) (hf.em (hfc.em hf1)) hsc (qyj l ho s hm) (qlw l hsm s hm) (by omega) (by rw [List.length_append, x3]; omega) (by omega) rfl hb (qp ..) (by rw [qy]; omega) rfl rfl rfl rfl fun H2 E2 r7 r8 r0 r1 r2 hf2 => ?_
    have hcat2 : Op.bin .add [.str (((sts l).take j).flatMap (lineT d) ++ ind d ++ s.txt d), .str [10]] = some (.str (((sts l).take (j + 1)).flatMap (lineT d))) := by
      rw [yl (by simp only [List.length_append, x3, List.length_cons, List.length_nil]; omega), List.take_add_one, hsj, List.flatMap_append]
      simp [lineT]
    simp only [↓JN_eq, CTL3, OPS3, cast0, reduceIte, Nat.reduceEqDiff, w56, w57, r7, hcat2, r8, wj]
    exact ⟨_, _, ⟨j + 1, rfl, rfl, by omega, (hfc.em hf1).em hf2⟩, by simp only [↓JN_eq, CTL3, OPS3, cast0, reduceIte, Nat.reduceEqDiff, r0, r1, r2], by omega⟩
  · have hje : j = (sts l).length := by omega
    subst hje
    have q1 : ¬ (((sts l).length : Nat) : Int) < ((sts l).length : Nat) := by omega
    rw [List.take_length]
    simp only [↓JN_eq, CTL3, OPS3, cast0, reduceIte, Nat.reduceEqDiff, w9, w58, n1, n4, hal, q1]
    exact hfc
def LsS (M : Mac) (H0 : AHeap) (tv : AV) (ts : List Nd) (l : Ls) : Prop := ∀ s ∈ sts l, SL M H0 tv ts s
mutual
theorem St_sl {H0 : AHeap} {tv : AV} {ts : List Nd} (hc : RdC H0 tv ts) : ∀ x : Lang.St, SL M H0 tv ts x
  | .set w x => trivial
  | .store x y => trivial
  | .ite c l => qfv hc l (Ls_sl hc l)
  | .ites c l m => ⟨qfv hc l (Ls_sl hc l), qfv hc m (Ls_sl hc m)⟩
  | .loop c l => qfv hc l (Ls_sl hc l)
  | .atom l => qfv hc l (Ls_sl hc l)
  | .halt => trivial
theorem Ls_sl {H0 : AHeap} {tv : AV} {ts : List Nd} (hc : RdC H0 tv ts) : ∀ (l : Ls), LsS M H0 tv ts l
  | .nil => fun s h => by cases h
  | .cons x l => fun s h => by
    rcases List.mem_cons.1 h with h | h
    · rw [h]; exact St_sl hc x
    · exact Ls_sl hc l s h
end
end Go.Am
namespace Go.Am
open Lang Go.Proofs
variable {M : Mac} [MK M]
theorem qw5 {H : AHeap} {tv : AV} {t : List Nd} (hn : Nds H tv t) (hz : ∀ x ∈ t, x.kids.length * 8 ≤ 140737488355328) (hm : mayB t = false) : CALLQ M x4 [tv] H fun v H' => v = .tuple [.str [], .int .i64 2] ∧ Fr Em H H' := by
  refine qhu ?_
  obtain ⟨w0, w4, -, -, -, -, -, -, -, -⟩ := qeg M ⟨none, x4⟩
  simp only [↓JN_eq, CTL3, OPS3, cast0, reduceIte, Nat.reduceEqDiff, w0]
  refine C3.q (qrb (M := M) hn hz) fun v H1 ⟨hv, hf⟩ => ?_
  rw [hm] at hv; subst hv
  simp only [↓JN_eq, CTL3, OPS3, cast0, reduceIte, Nat.reduceEqDiff, w4]
  exact hf
theorem qx0 {s : List UInt8} {j : Nat} {c : UInt8} (h : s[j]? = some c) : scan (s.take (j + 1)) (0, 0) = brk c (scan (s.take j) (0, 0)).1 (scan (s.take j) (0, 0)).2 := by
  rw [List.take_add_one, h, qo8]; rfl
theorem scan_le {s : List UInt8} {j : Nat} : (scan (s.take j) (0, 0)).2 ≤ (scan s (0, 0)).2 := by
  have := qo8 (s.take j) (s.drop j) (0, 0)
  rw [List.take_append_drop] at this
  rw [this]; exact qvy _ _
theorem rcount {H : AHeap} {s : List UInt8} {E : Env} (hl : s.length ≤ 1000000000) (e5 : lk E 5 = some (.str s)) {P : AV → AHeap → Prop} (e6 : lk E 6 = some (.int .i64 0))
    (hP : P (.tuple [.str (if (scan s (0, 0)).2 ≤ 50 then (s, (0 : Int)) else ([], 2)).1, .int .i64 (if (scan s (0, 0)).2 ≤ 50 then (s, (0 : Int)) else ([], 2)).2]) H) :
    W M ⟨none, x4⟩ (qn 16) true (FIN3 M [.tmp 2, .tmp 3] (RT3 P)) E [] H := by
  obtain ⟨-, -, -, w16, w49, w21, w27, w48, w35, w41⟩ := qeg M ⟨none, x4⟩
  simp only [↓JN_eq, CTL3, OPS3, cast0, reduceIte, Nat.reduceEqDiff, w16]
  refine LOOP3.intro (fun k E' H' => ∃ j, H' = H ∧ E' = [(7, .int .i64 (j : Nat)), (6, .int .i64 (scan (s.take j) (0, 0)).1), (5, .str s)] ∧ k = s.length - j ∧ j ≤ s.length ∧ (scan (s.take j) (0, 0)).1 ≤ 50 ∧ (scan (s.take j) (0, 0)).2 ≤ 50) ?_ ?_
  · exact ⟨_, _, ⟨0, rfl, rfl, rfl, by omega, by simp [scan], by simp [scan]⟩, by simp only [↓JN_eq, CTL3, OPS3, cast0, reduceIte, Nat.reduceEqDiff, e5, e6]; rfl⟩
  rintro k E' H' ⟨j, rfl, rfl, rfl, hj, ho, hp⟩
  rcases Nat.lt_or_ge j s.length with hlt | hge
  · have q1 : (j : Int) < (s.length : Nat) := by omega
    obtain ⟨c, hc⟩ : ∃ c, s[j]? = some c := ⟨s[j], by simp [hlt]⟩
    have hst := qx0 hc
    obtain ⟨ha1, ha2⟩ := qxd c ho hp
    have hb := qoe (s.take j) 0 0
    rw [List.length_take] at hb
    have ix : Op.indexStr [.str s, .int .i64 (j : Int)] = some (.int .u8 c.toNat) := qfu rfl hc
    have wj : wrapI .i64 ((j : Int) + 1) = ((j + 1 : Nat) : Int) := by rw [xf (by omega) (by omega)]; omega
    obtain ⟨o, hoe⟩ : ∃ o, o = (scan (s.take j) (0, 0)).1 := ⟨_, rfl⟩
    rw [← hoe] at hst ha1 ha2 ho hb ⊢
    have fin : ∀ (E' : Env), lk E' 6 = some (.int .i64 (brk c o (scan (s.take j) (0, 0)).2).1) → lk E' 7 = some (.int .i64 (j : Nat)) → lk E' 5 = some (.str s) →
        W M ⟨none, x4⟩ (qn 41) true (BLK3 1 (SEQ3 (W M ⟨none, x4⟩ (qn 48)) (LQ3 (fun k E' H_1 => ∃ j, H_1 = H' ∧ E' = [(7, .int .i64 (j : Nat)), (6, .int .i64 (scan (s.take j) (0, 0)).1), (5, .str s)] ∧ k = s.length - j ∧ j ≤ s.length ∧ (scan (s.take j) (0, 0)).1 ≤ 50 ∧ (scan (s.take j) (0, 0)).2 ≤ 50) [] (s.length - j) (BLK3 0 (SEQ3 (W M ⟨none, x4⟩ (qn 49)) (FIN3 M [.tmp 2, .tmp 3] (RT3 P))))))) E' [] H' := by
      intro E' r6 r7 r5
      by_cases q : (50 : Int) < (brk c o (scan (s.take j) (0, 0)).2).1
      · have q2 : ¬ (scan s (0, 0)).2 ≤ 50 := by
          have h1 := ha1.1 q
          have h2 := scan_le (s := s) (j := j + 1)
          rw [hst] at h2; omega
        rw [if_neg q2] at hP
        simp only [↓JN_eq, CTL3, OPS3, cast0, reduceIte, Nat.reduceEqDiff, w41, r6, q]
        exact hP
      · have q2 : (brk c o (scan (s.take j) (0, 0)).2).2 ≤ 50 := by
          have := mt ha1.2 (by omega); omega
        simp only [↓JN_eq, CTL3, OPS3, cast0, reduceIte, Nat.reduceEqDiff, w41, w48, r6, r7, q, wj]
        exact ⟨_, _, ⟨j + 1, rfl, rfl, by omega, by rw [hst]; omega, by rw [hst]; exact q2⟩, by simp only [↓JN_eq, CTL3, OPS3, cast0, reduceIte, Nat.reduceEqDiff, r6, r5, hst], by omega⟩
    by_cases c40 : c.toNat = 40 ∨ c.toNat = 123
    · have hbr : brk c o (scan (s.take j) (0, 0)).2 = (o + 1, max (scan (s.take j) (0, 0)).2 (o + 1)) := by unfold brk; rw [if_pos (c40.imp (u40 c).2 (u123 c).2)]
      have w : wrapI .i64 (o + 1) = o + 1 := xf (by omega) (by omega)
      have n3 : ¬ ((c.toNat : Nat) : Int) = 41 := by omega
      have n4 : ¬ ((c.toNat : Nat) : Int) = 125 := by omega
      by_cases q : c.toNat = 40
      · have t1 := eq_true (show ((c.toNat : Nat) : Int) = 40 by omega)
        simp only [↓JN_eq, CTL3, OPS3, cast0, reduceIte, Nat.reduceEqDiff, w21, w27, w35, q1, ix, t1, w, n3, n4]
        exact fin _ (by rw [hbr]; rfl) rfl rfl
      · have t1 : ¬ ((c.toNat : Nat) : Int) = 40 := by omega
        have t2 := eq_true (show ((c.toNat : Nat) : Int) = 123 by omega)
        simp only [↓JN_eq, CTL3, OPS3, cast0, reduceIte, Nat.reduceEqDiff, w21, w27, w35, q1, ix, t1, t2, w, n3, n4]
        exact fin _ (by rw [hbr]; rfl) rfl rfl
    · have n1 : ¬ ((c.toNat : Nat) : Int) = 40 := by omega
      have n2 : ¬ ((c.toNat : Nat) : Int) = 123 := by omega
      have b1 : ¬ (c = 40 ∨ c = 123) := fun q => c40 (q.imp (u40 c).1 (u123 c).1)
      by_cases c41 : c.toNat = 41 ∨ c.toNat = 125
      · have hbr : brk c o (scan (s.take j) (0, 0)).2 = (o - 1, (scan (s.take j) (0, 0)).2) := by unfold brk; rw [if_neg b1, if_pos (c41.imp (u41 c).2 (u125 c).2)]
        have w : wrapI .i64 (o - 1) = o - 1 := xf (by omega) (by omega)
        by_cases q : c.toNat = 41
        · have t1 := eq_true (show ((c.toNat : Nat) : Int) = 41 by omega)
          simp only [↓JN_eq, CTL3, OPS3, cast0, reduceIte, Nat.reduceEqDiff, w21, w27, w35, q1, ix, n1, n2, t1, w]
          exact fin _ (by rw [hbr]; rfl) rfl rfl
        · have t1 : ¬ ((c.toNat : Nat) : Int) = 41 := by omega
          have t2 := eq_true (show ((c.toNat : Nat) : Int) = 125 by omega)
          simp only [↓JN_eq, CTL3, OPS3, cast0, reduceIte, Nat.reduceEqDiff, w21, w27, w35, q1, ix, n1, n2, t1, t2, w]
          exact fin _ (by rw [hbr]; rfl) rfl rfl
      · have n3 : ¬ ((c.toNat : Nat) : Int) = 41 := by omega
        have n4 : ¬ ((c.toNat : Nat) : Int) = 125 := by omega
        have hbr : brk c o (scan (s.take j) (0, 0)).2 = (o, (scan (s.take j) (0, 0)).2) := by unfold brk; rw [if_neg b1, if_neg (fun q => c41 (q.imp (u41 c).1 (u125 c).1))]
        simp only [↓JN_eq, CTL3, OPS3, cast0, reduceIte, Nat.reduceEqDiff, w21, w27, w35, q1, ix, n1, n2, n3, n4]
        exact fin _ (by rw [hbr]; rfl) rfl rfl
  · have hje : j = s.length := by omega
    subst hje
    have q1 : ¬ ((s.length : Nat) : Int) < (s.length : Nat) := by omega
    rw [List.take_length] at hp
    rw [if_pos hp] at hP
    simp only [↓JN_eq, CTL3, OPS3, cast0, reduceIte, Nat.reduceEqDiff, w21, w49, q1]
    exact hP
theorem qvg {H : AHeap} {tv : AV} {p : Ls} (hn : Nds H tv (p.encL 0)) (hz : ∀ x ∈ p.encL 0, x.kids.length * 8 ≤ 140737488355328) (hm : mayB (p.encL 0) = true) (ho : p.ok) (hs : p.small) (hl : p.sz + 1 ≤ 2000) :
    CALLQ M x4 [tv] H fun v H' => v = .tuple [.str (printR p).1, .int .i64 (printR p).2] ∧ Fr Em H H' := by
  refine qhu ?_
  obtain ⟨w0, w4, w12, -, -, -, -, -, -, -⟩ := qeg M ⟨none, x4⟩
  simp only [↓JN_eq, CTL3, OPS3, cast0, reduceIte, Nat.reduceEqDiff, w0]
  refine C3.q (qrb (M := M) hn hz) fun v H1 ⟨hv, hf⟩ => ?_
  rw [hm] at hv; subst hv
  have hn1 := hn.em hf
  have hc : RdC H1 tv (p.encL 0) := ⟨hn1, by rw [Ls.lenL]; omega⟩
  have wl : wrapI .i64 (((p.encL 0).length : Nat) - 1 : Int) = (p.sz : Int) := by rw [Ls.lenL, xf (by omega) (by omega)]; omega
  have htl := qpy hs hl
  simp only [↓JN_eq, CTL3, OPS3, cast0, reduceIte, Nat.reduceEqDiff, w4, w12, hn1.len, wl]
  have hlo := qfv (M := M) hc p (Ls_sl hc p) H1 0 0 (Fr.refl _) (Seg.all _) ho hs (by omega) (by omega)
  rw [Nat.zero_add] at hlo
  refine C3.q hlo fun v H2 ⟨hv, hf2⟩ => ?_
  subst hv
  exact rcount (by omega) rfl rfl ⟨rfl, hf.em hf2⟩
theorem qxl {H : AHeap} {v1 v2 : AV} {t : List Nd} (h1 : Nds H v1 t) (h2 : Nds H v2 t) (hl : t.length ≤ 140737488355328) (hz : ∀ x ∈ t, x.kids.length * 8 ≤ 140737488355328) : CALLQ M ya [v1, v2] H fun v H' => v = .bool true ∧ H' = H := by
  refine qq1 ?_
  obtain ⟨w0, w2, w10, w52, w15, w21, w51, w31, w35, w41, w50⟩ := qpg M ⟨none, ya⟩
  have t0 := eq_true (show ((t.length : Nat) : Int) = ((t.length : Nat) : Int) from rfl)
  simp only [↓JN_eq, CTL3, OPS3, cast0, reduceIte, Nat.reduceEqDiff, w0, w2, w10, h1.len, h2.len, t0]
  refine LOOP3.intro (fun k E' H' => ∃ j, H' = H ∧ E' = [(5, .int .i64 (j : Nat)), (0, v1), (1, v2)] ∧ k = t.length - j ∧ j ≤ t.length) ?_ ?_
  · exact ⟨_, _, ⟨0, rfl, rfl, rfl, by omega⟩, by simp only [↓JN_eq, CTL3, OPS3, cast0, reduceIte, Nat.reduceEqDiff]⟩
  rintro k E' H' ⟨j, rfl, rfl, rfl, hj⟩
  rcases Nat.lt_or_ge j t.length with hlt | hge
  · have q1 : (j : Int) < (t.length : Nat) := by omega
    obtain ⟨x, hx⟩ : ∃ x, t[j]? = some x := ⟨t[j], by simp [hlt]⟩
    obtain ⟨a, ha, _, a1, _, a3, a4, a5⟩ := h1.get hx
    obtain ⟨b, hb, _, b1, _, b3, b4, b5⟩ := h2.get hx
    have t1 := eq_true (show x.k = x.k from rfl)
    have t2 := eq_true (show x.n = x.n from rfl)
    have t3 := eq_true (show ((x.kids.length : Nat) : Int) = ((x.kids.length : Nat) : Int) from rfl)
    have wj : wrapI .i64 ((j : Int) + 1) = ((j + 1 : Nat) : Int) := by rw [xf (by omega) (by omega)]; omega
    have hkz := hz x (List.mem_of_getElem? hx)
    simp only [↓JN_eq, CTL3, OPS3, cast0, reduceIte, Nat.reduceEqDiff, w15, w21, w31, h1.len, q1, a1, a3, a4, a5, b1, b3, b4, b5, ha.len, hb.len, t1, t2, t3]
    refine LOOP3.intro (fun k E' H_1 => ∃ i, H_1 = H' ∧ E' = [(6, .int .i64 (i : Nat)), (5, .int .i64 (j : Nat)), (0, v1), (1, v2)] ∧ k = x.kids.length - i ∧ i ≤ x.kids.length) ?_ ?_
    · exact ⟨_, _, ⟨0, rfl, rfl, rfl, by omega⟩, by simp only [↓JN_eq, CTL3, OPS3, cast0, reduceIte, Nat.reduceEqDiff]⟩
    rintro k E' H_1 ⟨i, rfl, rfl, rfl, hi⟩
    rcases Nat.lt_or_ge i x.kids.length with hil | hig
    · have q2 : (i : Int) < (x.kids.length : Nat) := by omega
      obtain ⟨y, hy⟩ : ∃ y, x.kids[i]? = some y := ⟨x.kids[i], by simp [hil]⟩
      obtain ⟨c1, c2⟩ := ha.getI hy
      obtain ⟨d1, d2⟩ := hb.getI hy
      have t4 := eq_true (show y = y from rfl)
      have wi : wrapI .i64 ((i : Int) + 1) = ((i + 1 : Nat) : Int) := by rw [xf (by omega) (by omega)]; omega
      simp only [↓JN_eq, CTL3, OPS3, cast0, reduceIte, Nat.reduceEqDiff, w35, w41, w50, a1, a5, b1, b5, ha.len, q2, c1, c2, d1, d2, t4, wi]
      exact ⟨_, _, ⟨i + 1, rfl, rfl, by omega⟩, by simp only [↓JN_eq, CTL3, OPS3, cast0, reduceIte, Nat.reduceEqDiff], by omega⟩
    · have hie : i = x.kids.length := by omega
      subst hie
      have q2 : ¬ ((x.kids.length : Nat) : Int) < (x.kids.length : Nat) := by omega
      simp only [↓JN_eq, CTL3, OPS3, cast0, reduceIte, Nat.reduceEqDiff, w35, w51, a1, a5, ha.len, q2, wj]
      exact ⟨_, _, ⟨j + 1, rfl, rfl, by omega⟩, by simp only [↓JN_eq, CTL3, OPS3, cast0, reduceIte, Nat.reduceEqDiff], by omega⟩
  · have hje : j = t.length := by omega
    subst hje
    have q1 : ¬ ((t.length : Nat) : Int) < (t.length : Nat) := by omega
    simp only [↓JN_eq, CTL3, OPS3, cast0, reduceIte, Nat.reduceEqDiff, w15, w52, h1.len, q1]
end Go.Am
namespace Go.Am
open Lang Go.Proofs
variable {M : Mac} [MK M]
theorem qun {H : AHeap} {tv : AV} {t : List Nd} (hn : Nds H tv t) (hl : t.length ≤ 140737488355328) : CALLQ M ky [tv] H fun v H' => (∃ q, v = .bool q) ∧ H' = H := by
  refine qof ?_
  obtain ⟨w0, w4, w19, w9, w15, w18⟩ := qnu M ⟨none, ky⟩
  simp only [↓JN_eq, CTL3, OPS3, cast0, reduceIte, Nat.reduceEqDiff, w0, w4]
  refine LOOP3.intro (fun k E' H' => ∃ j n, H' = H ∧ E' = [(4, .int .i64 (j : Nat)), (3, .int .i64 n), (0, tv)] ∧ k = t.length - j ∧ j ≤ t.length) ?_ ?_
  · exact ⟨_, _, ⟨0, 0, rfl, rfl, rfl, by omega⟩, by simp only [↓JN_eq, CTL3, OPS3, cast0, reduceIte, Nat.reduceEqDiff]⟩
  rintro k E' H' ⟨j, n, rfl, rfl, rfl, hj⟩
  rcases Nat.lt_or_ge j t.length with hlt | hge
  · have q1 : (j : Int) < (t.length : Nat) := by omega
    obtain ⟨x, hx⟩ : ∃ x, t[j]? = some x := ⟨t[j], by simp [hlt]⟩
    obtain ⟨a, ha, _, a1, _, a3, a4, a5⟩ := hn.get hx
    have wj : wrapI .i64 ((j : Int) + 1) = ((j + 1 : Nat) : Int) := by rw [xf (by omega) (by omega)]; omega
    simp only [↓JN_eq, CTL3, OPS3, cast0, reduceIte, Nat.reduceEqDiff, w9, w15, w18, hn.len, q1, a1, a5, ha.len, wj]
    exact ⟨_, _, ⟨j + 1, _, rfl, rfl, by omega⟩, by simp only [↓JN_eq, CTL3, OPS3, cast0, reduceIte, Nat.reduceEqDiff]; rfl, by omega⟩
  · have q1 : ¬ (j : Int) < (t.length : Nat) := by omega
    simp only [↓JN_eq, CTL3, OPS3, cast0, reduceIte, Nat.reduceEqDiff, w9, w19, hn.len, q1]
    exact ⟨_, rfl⟩
theorem qxx {H : AHeap} {tv : AV} {t : List Nd} (hn : Nds H tv t) (hl : t.length * 40 ≤ 140737488355328) (hz : ∀ x ∈ t, x.kids.length * 8 ≤ 140737488355328) : CALLQ M yn [tv] H fun v H' => Nds H' v t ∧ Fr Em H H' := by
  refine qpx ?_
  obtain ⟨w0, w4, w23, w9, w15, w22⟩ := qqj M ⟨none, yn⟩
  simp only [↓JN_eq, CTL3, OPS3, cast0, reduceIte, Nat.reduceEqDiff, w0, w4]
  refine LOOP3.intro (fun k E' Hc => ∃ j v zs, E' = [(4, .int .i64 (j : Nat)), (3, v), (0, tv)] ∧ k = t.length - j ∧ j ≤ t.length ∧ zs.map (·.1) = t.take j ∧ New encN qc 3 H Hc v zs ∧ (∀ z ∈ zs, SlT encI 1 Hc z.2 z.1.kids ∧ ∀ b, OnS z.2 b → H.next ≤ b ∧ b < Hc.next ∧ ¬ OnS v b)) ?_ ?_
  · exact ⟨_, _, ⟨0, .nils, [], rfl, rfl, by omega, rfl, New.nil H, fun z hz => by cases hz⟩, by simp only [↓JN_eq, CTL3, OPS3, cast0, reduceIte, Nat.reduceEqDiff]⟩
  rintro k E' Hc ⟨j, v, zs, rfl, rfl, hj, hzs, hv, hkz⟩
  rcases Nat.lt_or_ge j t.length with hlt | hge
  · have q1 : (j : Int) < (t.length : Nat) := by omega
    obtain ⟨x, hx⟩ : ∃ x, t[j]? = some x := ⟨t[j], by simp [hlt]⟩
    obtain ⟨a, ha, a1, i1, i2, _, _, i5⟩ := hn.getF hx hv.fr
    have hxk := hz x (List.mem_of_getElem? hx)
    have wj : wrapI .i64 ((j : Int) + 1) = ((j + 1 : Nat) : Int) := by rw [xf (by omega) (by omega)]; omega
    have hst := qb6 Hc x a1 qc
    have hb0 : Op.buildSlice T_int 0 [.int .i64 0] [] [] = some (.row [] T_int (0, 0) true, Op.sliceTo 0 0) := rfl
    have f1 : Fr Em Hc (Hc.alloc (OR [.int .i64 x.k, .int .u64 x.n, a] qc)) := (Fr.refl Hc).alloc _
    obtain ⟨H2, hH2⟩ : ∃ H2, (Hc.alloc (OR [.int .i64 x.k, .int .u64 x.n, a] qc)).alloc (OR [] T_int) = H2 := ⟨_, rfl⟩
    have f2 : Fr Em Hc H2 := by rw [← hH2]; exact f1.alloc _
    have n2 : H2.next = Hc.next + 2 := by rw [← hH2]; rfl
    have g2 : H2.get Hc.next = some (OR [.int .i64 x.k, .int .u64 x.n, a] qc) := by rw [← hH2, qaf (by rw [qy]; omega), qp]
    obtain ⟨_, _, _, _, _, _, _, i5'⟩ := hn.getF hx (hv.fr.em f2)
    have i5'' : Op.load1 [.ptr (slB tv) (slO 3 tv j + 2)] H2 = some a := by
      obtain ⟨zz, z1, z2, z3⟩ := hn.ex
      obtain ⟨z, hzj, hzx⟩ : ∃ z, zz[j]? = some z ∧ z.1 = x := by
        rw [← z1, List.getElem?_map] at hx
        cases hq : zz[j]? with
        | none => rw [hq] at hx; cases hx
        | some z => rw [hq] at hx; injection hx with hx; exact ⟨z, rfl, hx⟩
      have l1 := (z2.em hv.fr).load1 vp hzj (j := 2) (by decide)
      have l2 := (z2.em (hv.fr.em f2)).load1 vp hzj (j := 2) (by decide)
      rw [l2, ← l1]; exact i5
    have sn : Op.sliceTo 0 0 (Hc.alloc (OR [.int .i64 x.k, .int .u64 x.n, a] qc)).next = .slice (Hc.next + 1) 0 0 0 := rfl
    have hnew : New encI T_int 1 Hc H2 (.slice (Hc.next + 1) 0 0 0) [] := ⟨⟨rfl, .inl ⟨rfl, .inr ⟨_, rfl, by omega⟩⟩⟩, f2, fun b hb => by rw [hb.2]; show Hc.next ≤ Hc.next + 1; omega⟩
    simp only [↓JN_eq, CTL3, OPS3, cast0, reduceIte, Nat.reduceEqDiff, w9, w15, hn.em hv.fr |>.len, q1, i1, i2, hst, hb0, hH2, i5'', sn, xb]
    refine BI2.to3 (m := true) (hnew.appS (bytes := 8) (ha.em (hv.fr.em f2)) encI_one (by decide) (by simp; omega) (by simp; omega) fun u H3 hu hf3 hof => ?_)
    rw [List.nil_append] at hu
    have huo : ∀ b, OnS u b → b = Hc.next + 1 ∨ H2.next ≤ b := fun b hb => (hof b hb).imp (fun q => q.2) id
    have g3 : H3.get Hc.next = some (OR [.int .i64 x.k, .int .u64 x.n, a] qc) := by
      rw [hf3.keep _ (by omega) (fun q => by have : Hc.next = Hc.next + 1 := q.2; omega), g2]
    have hu1 := hu.sl.one
    have hcl : AV.cells u = [u] := by cases u <;> first | rfl | cases hu1
    have hst2 : Op.store 1 [.ptr Hc.next 2, u] H3 = some (.undef, H3.set Hc.next (OR [.int .i64 x.k, .int .u64 x.n, u] qc)) := by
      rw [qbi g3 (by rw [hcl]; rfl) (by simp) (by rw [hcl]; simp [qeu, qdv, hu1]), hcl]; rfl
    obtain ⟨H4, hH4⟩ : ∃ H4, H3.set Hc.next (OR [.int .i64 x.k, .int .u64 x.n, u] qc) = H4 := ⟨_, rfl⟩
    rw [hH4] at hst2
    have g4 : H4.get Hc.next = some (OR [.int .i64 x.k, .int .u64 x.n, u] qc) := by rw [← hH4]; exact xv ..
    have hl4 : Op.loadN 3 [.ptr Hc.next 0] H4 = some (nodeV x u) := by rw [qj9 (xj g4) (by simp)]; rfl
    have f4 : Fr Em Hc H4 := by rw [← hH4]; exact hu.fr.set (.inr (Nat.le_refl _)) _
    have n4 : H4.next = H3.next := by rw [← hH4]; rfl
    have hu4 : SlT encI 1 H4 u x.kids := by
      refine hu.sl.frS (W := On Hc.next) (by rw [← hH4]; exact (Fr.refl H3).set (W := On Hc.next) (.inl rfl) _) fun b hb (q : b = Hc.next) => ?_
      rcases huo b hb with r | r <;> omega
    have hv4 := hv.em f4
    simp only [↓JN_eq, CTL3, OPS3, cast0, reduceIte, Nat.reduceEqDiff, hst2, hl4]
    have hzl : zs.length = j := by have := congrArg List.length hzs; simpa [Nat.min_eq_left hj] using this
    refine hv4.app4 (bytes := 40) (a := (x, u)) rfl rfl rfl (by simp [encN, qeu, qdv, qgw, hu1]) (by decide) (by omega) (by omega) fun v' H5 hv' haf => ?_
    simp only [↓JN_eq, CTL3, OPS3, cast0, reduceIte, Nat.reduceEqDiff, w22, wj]
    refine ⟨_, _, ⟨j + 1, v', zs ++ [(x, u)], rfl, rfl, by omega, ?_, hv', fun z hz => ?_⟩, by simp only [↓JN_eq, CTL3, OPS3, cast0, reduceIte, Nat.reduceEqDiff], by omega⟩
    · rw [List.map_append, hzs, List.take_add_one, hx]; rfl
    · have hn5 := haf.fr.next
      have hnc := f4.next
      rcases List.mem_append.1 hz with hz | hz
      · obtain ⟨k1, k2⟩ := hkz z hz
        refine ⟨(k1.em f4).frS haf.fr fun b hb => (k2 b hb).2.2, fun b hb => ?_⟩
        obtain ⟨r1, r2, r3⟩ := k2 b hb
        exact ⟨r1, by omega, fun q => (haf.on b q).elim r3 fun r => by omega⟩
      · rw [List.mem_singleton.1 hz]
        have hnv : ∀ b, OnS u b → ¬ OnS v b := fun b hb q => by
          have h1 := Own.lt hv.own b q
          have h2 := hu.fresh b hb
          omega
        refine ⟨hu4.frS haf.fr hnv, fun b hb => ?_⟩
        have h2 := hu.fresh b hb
        have h3 := Own.lt hu.own b hb
        have h4 := hv.fr.next
        exact ⟨by omega, by omega, fun q => (haf.on b q).elim (hnv b hb) fun r => by omega⟩
  · have hje : j = t.length := by omega
    subst hje
    have q1 : ¬ ((t.length : Nat) : Int) < (t.length : Nat) := by omega
    rw [List.take_length] at hzs
    simp only [↓JN_eq, CTL3, OPS3, cast0, reduceIte, Nat.reduceEqDiff, w9, w23, hn.em hv.fr |>.len, q1]
    exact ⟨⟨zs, hzs, hv.sl, fun z hz => (hkz z hz).1⟩, hv.fr⟩
theorem qmg {H : AHeap} {tv : AV} {t : List Nd} (hn : Nds H tv t) (hl : t.length * 40 ≤ 140737488355328) (hz : ∀ x ∈ t, x.kids.length * 8 ≤ 140737488355328) (h0 : ∀ x ∈ t, 0 ≤ x.n) (h64 : lt64 t) (hp : PowT H) (hpl : xe < H.next) :
    CALLQ M jh [tv] H fun v _ => v = .bool true := by
  refine qho ?_
  obtain ⟨w0, w2, w10⟩ := qg1 M ⟨none, jh⟩
  simp only [↓JN_eq, CTL3, OPS3, cast0, reduceIte, Nat.reduceEqDiff, w0, w2]
  refine C3.q (qun (M := M) hn (by omega)) fun v H1 ⟨⟨q, hv⟩, hh⟩ => ?_
  subst hv; subst hh
  cases q with
  | true => simp only [↓JN_eq, CTL3, OPS3, cast0, reduceIte, Nat.reduceEqDiff]
  | false =>
    simp only [↓JN_eq, CTL3, OPS3, cast0, reduceIte, Nat.reduceEqDiff, w10]
    refine C3.q (qxx (M := M) hn hl hz) fun own H2 ⟨hn2, hf2⟩ => ?_
    have fin : ∀ (s : List UInt8) (e : Int), CALLQ M jn [own] H2 (fun v H' => v = .tuple [.str s, .int .i64 e] ∧ Fr Em H2 H') → (∀ H3, Fr Em H1 H3 → CALLQ M x4 [tv] H3 (fun v H' => v = .tuple [.str s, .int .i64 e] ∧ Fr Em H3 H')) → 
        C3 M true (.func jn) [own] H2 (fun g t14 H2 => B3 g ((Op.extract 0) [t14]) fun g t15 => B3 g ((Op.extract 1) [t14]) fun g t16 => LK g (some tv) fun g t0_1 => C3 M g (.func x4) [t0_1] H2 fun g t19 H3 => B3 g ((Op.extract 0) [t19]) fun g t20 => B3 g ((Op.extract 1) [t19]) fun g t21 => B3 g ((Op.bin .eql) [t15, t20]) fun g t24 => JN (fun (k : Bool → AV → AV → AV → AHeap → Prop) => B3 g (wantV true (some t24)) fun g w => IG3 g w (fun g => B3 g ((Op.bin .eql) [t16, t21]) fun g t28 => k g t28 t21 t16 H3) (fun g => k g uu uu uu H3)) (fun g t28_1 t27_1 t26_1 H4 => B3 g (Op.pick [t24, t28_1, (.bool false)]) fun g t29 => JN (fun (k : Bool → AV → AV → AV → AHeap → Prop) => B3 g (wantV true (some t29)) fun g w => IG3 g w (fun g => LK g (some tv) fun g t0_2 => C3 M g (.func ya) [own, t0_2] H4 fun g t33 H5 => k g t33 t0_2 own H5) (fun g => k g uu uu uu H4)) (fun g t33_1 t32_1 t31_1 H6 => B3 g (Op.pick [t29, t33_1, (.bool false)]) fun g t34 => GO3 g (FIN3 M [.tmp 2] (RT3 fun v _ => v = .bool true)) .ret [(2, t34), (7, t21), (6, t20), (5, t16), (4, t15), (3, own), (2, .bool false), (0, tv)] [] H6))) := by
      intro s e h1 h2
      refine C3.q h1 fun v H3 ⟨hv, hf3⟩ => ?_
      subst hv
      simp only [↓JN_eq, CTL3, OPS3, cast0, reduceIte, Nat.reduceEqDiff, xh]
      refine C3.q (h2 H3 (hf2.em hf3)) fun v H4 ⟨hv, hf4⟩ => ?_
      subst hv
      have t1 := eq_true (show s = s from rfl)
      have t2 := eq_true (show e = e from rfl)
      simp only [↓JN_eq, CTL3, OPS3, cast0, reduceIte, Nat.reduceEqDiff, xh, t1, t2]
      have hff := (hf2.em hf3).em hf4
      refine C3.q (qxl (M := M) (hn2.em (hf3.em hf4)) (hn.em hff) (by omega) hz) fun v H5 ⟨hv, hh⟩ => ?_
      subst hv; subst hh
      simp only [↓JN_eq, CTL3, OPS3, cast0, reduceIte, Nat.reduceEqDiff]
    cases hm : mayB t with
    | false => exact fin [] 2 (Print_no hn2 hz hm) fun H3 hf => qw5 (hn.em hf) hz hm
    | true =>
      obtain ⟨p, rfl, ho, hsz⟩ := (mayB_iff h0).1 hm
      have hsm := Ls.small_of p 0 (lt64.app h64).1
      exact fin _ _ (qwc hn2 hz hm ho hsm hsz ((hf2.cells hpl id).trans hp) (Nat.lt_of_lt_of_le hpl hf2.next)) fun H3 hf => qvg (hn.em hf) hz hm ho hsm hsz
end Go.Am
