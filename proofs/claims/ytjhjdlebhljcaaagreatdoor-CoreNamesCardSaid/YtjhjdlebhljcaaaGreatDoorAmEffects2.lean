/- MORE EFFECTS: append, copy, clear, strings of rows. -/
import Derived.Test.YtjhjdlebhljcaaaGreatDoorAmEffects
import Derived.Deep.Upon
import Derived.Lib.UnsafeStr
namespace Go.Am
set_option linter.unusedVariables false
set_option linter.unusedSimpArgs false

section
variable {P : Program} {base : Nat} {D : Nat → Prop} {θ : Th} {H : AHeap} {w : World}

/-- fewer blocks -/
theorem HR.sub (h : HR P base D θ H w) {H' : AHeap} (hs : ∀ b o, H'.get b = some o → H.get b = some o) : HR P base D θ H' w :=
  ⟨fun b o hb => h.obj b o (hs b o hb), fun b b' o o' hb hb' => h.inj b b' o o' (hs b o hb) (hs b' o' hb'), fun b o hb => h.above b o (hs b o hb), h.glob, h.low⟩
theorem kill_sub (H : AHeap) (k : Nat) : ∀ b o, (H.kill k).get b = some o → H.get b = some o := by
  intro b o h
  rw [AHeap.get_kill] at h
  split at h
  · cases h
  · exact h
theorem Grow.kill (H : AHeap) (k : Nat) : Grow D H θ w (H.kill k) θ w :=
  ⟨Nat.le_refl _, Ag.refl _ _, Nat.le_refl _, rfl, rfl, rfl, fun _ _ _ => rfl, fun b o h ho _ => ⟨b, o, kill_sub H k b o h, ho, rfl⟩⟩

/-- a block is turned, and bears another number from now on -/
theorem HR.move (h : HR P base D θ H w) (hn : ¬ D H.next) {b : Nat} {o o' : AObj} {co' : Obj} {off ext : Nat} (hb : H.get b = some o) (ho : own o = true) (ho' : own o' = true)
    (hr : ObjR P (Up D H.next (H.next + 1)) (θ.add H.next (θ.blk b) off ext) H.next o' co') :
    HR P base (Up D H.next (H.next + 1)) (θ.add H.next (θ.blk b) off ext) ((H.kill b).alloc o') (wset w (θ.blk b) co') ∧
    Grow D H θ w ((H.kill b).alloc o') (θ.add H.next (θ.blk b) off ext) (wset w (θ.blk b) co') := by
  have hlt := h.lt hb
  have hag := Th.add_ag θ H.next (θ.blk b) off ext hn
  obtain ⟨e1, e2, e3⟩ := Th.add_new θ H.next (θ.blk b) off ext
  have old : ∀ x ox, H.get x = some ox → (θ.add H.next (θ.blk b) off ext).blk x = θ.blk x := fun x ox hx => (hag x (h.obj x ox hx).1).1
  have hget : ∀ x ox, ((H.kill b).alloc o').get x = some ox → (x = H.next ∧ ox = o') ∨ (x ≠ H.next ∧ x ≠ b ∧ H.get x = some ox) := by
    intro x ox hx
    rw [AHeap.get_alloc, AHeap.get_kill] at hx
    by_cases e : H.next = x
    · rw [if_pos (show (H.kill b).next = x from e)] at hx
      injection hx with hx
      exact .inl ⟨e.symm, hx.symm⟩
    · rw [if_neg (show ¬ (H.kill b).next = x from e)] at hx
      by_cases e' : b = x
      · rw [if_pos e'] at hx; cases hx
      · rw [if_neg e'] at hx
        exact .inr ⟨fun q => e q.symm, fun q => e' q.symm, hx⟩
  refine ⟨⟨fun x ox hx => ?_, fun x y ox oy hx hy hox hne => ?_, fun x ox hx hox => ?_, fun g hg => ?_, by rw [wset_size]; exact h.low⟩, ⟨Nat.le_succ _, hag, by rw [wset_size]; exact Nat.le_refl _, rfl, rfl, rfl, fun k hk hno => ?_, fun x ox hx hox hlt' => ?_⟩⟩
  · rcases hget x ox hx with ⟨rfl, rfl⟩ | ⟨g1, g2, g3⟩
    · exact ⟨.inr ⟨Nat.le_refl _, Nat.lt_succ_self _⟩, co', by rw [e1, wset_get _ _ _ _ hlt]; simp, hr⟩
    · obtain ⟨h1, co, h2, h3⟩ := h.obj x ox g3
      refine ⟨.inl h1, co, ?_, h3.up h1 hag Up.of⟩
      rw [old x ox g3, wset_get _ _ _ _ hlt, if_neg (h.inj b x o ox hb g3 ho (fun q => g2 q.symm))]; exact h2
  · rcases hget x ox hx with ⟨rfl, rfl⟩ | ⟨g1, g2, g3⟩ <;> rcases hget y oy hy with ⟨rfl, rfl⟩ | ⟨k1, k2, k3⟩
    · exact absurd rfl hne
    · rw [e1, old y oy k3]; exact h.inj b y o oy hb k3 ho (fun q => k2 q.symm)
    · rw [e1, old x ox g3]; exact h.inj x b ox o g3 hb hox g2
    · rw [old x ox g3, old y oy k3]; exact h.inj x y ox oy g3 k3 hox hne
  · rcases hget x ox hx with ⟨rfl, rfl⟩ | ⟨g1, g2, g3⟩
    · rw [e1]; exact h.above b o hb ho
    · rw [old x ox g3]; exact h.above x ox g3 hox
  · obtain ⟨h1, h2, h3⟩ := h.glob g hg
    obtain ⟨a1, a2, _⟩ := hag g h1
    exact ⟨.inl h1, a1.trans h2, a2.trans h3⟩
  · rw [wset_get _ _ _ _ hlt, if_neg (hno b o hb ho)]
  · rcases hget x ox hx with ⟨rfl, rfl⟩ | ⟨g1, g2, g3⟩
    · exact ⟨b, o, hb, ho, e1.symm⟩
    · exact ⟨x, ox, g3, hox, (old x ox g3).symm⟩

/-- what an append's second argument yields -/
theorem src_of (hh : HR P base D θ H w) {tx : TypeId} (hk : (∃ e', P.underlying tx = some (.slice e')) ∨ P.underlying tx = some .string) {x : AV} {c : Value} {size k : Nat} {l : List AV}
    (hx : VR D θ x c) (hl : lenV x = some k) (h : firstCells H size k x = some l) (h1 : allOne l = true) : ∃ cs, Src P size tx c k cs w ∧ VRL D θ l cs := by
  cases hs : isStr x with
  | true =>
    cases x <;> try (cases hs)
    rename_i s
    simp only [lenV, lenL_eq, Option.some.injEq] at hl; subst hl
    simp only [firstCells, List.take_length] at h
    cases hsz : Nat.beq size 1 with
    | false => rw [hsz] at h; cases h
    | true =>
    rw [hsz] at h
    simp only [cond_true, Option.some.injEq] at h; subst h
    simp only [Nat.beq_eq] at hsz; subst hsz
    rw [← hx.now]
    show ∃ cs, Src P 1 tx (.string ⟨s.toArray⟩) s.length cs w ∧ VRL D θ _ cs
    have hf : ∀ w : World, (Builtin.firstCells 1 s.length (.string ⟨s.toArray⟩)).run P w = .ok (s.map fun b => Value.int .u8 b.toNat).toArray w := by
      intro w
      have := firstCells_string (P := P) ⟨s.toArray⟩ w
      rw [size_mk] at this
      exact this
    refine ⟨s.map fun b => .int .u8 b.toNat, ⟨hk, fun w' => ?_, hf w, hf w.drew, by simp, fun u hu => ?_⟩, fun θ' _ => by rw [concL_eq, List.map_map]; rfl⟩
    · show Result.ok (ByteArray.size ⟨s.toArray⟩) w' = _
      rw [size_mk]
    · obtain ⟨_, _, rfl⟩ := List.mem_map.1 hu; rfl
  | false =>
    obtain ⟨a, len, cap, rfl, rfl, hcase⟩ := firstCells_run hh hx hl (Nat.le_refl _) hs h
    obtain ⟨a', len', cap', hc', rfl, hcase'⟩ := firstCells_run (hh.draw (w' := w.drew) rfl) hx hl (Nat.le_refl _) hs h
    injection hc' with hc1 hc2 hc3; subst hc1; subst hc3
    rcases hcase with ⟨rfl, rfl, _, hk0⟩ | ⟨ad, cs, rfl, g1, g2, g3⟩
    · exact ⟨[], ⟨hk, fun _ => rfl, rfl, rfl, by simp [hk0], by simp⟩, .nil⟩
    · rcases hcase' with ⟨h0, _⟩ | ⟨ad', cs', he, k1, k2, k3⟩
      · cases h0
      · injection he with he; subst he
        have : cs' = cs := by rw [← k2.now, ← g2.now]
        subst this
        exact ⟨cs', ⟨hk, fun _ => rfl, g1, k1, by rw [g2.length]; exact g3, allOne_conc g2 h1⟩, g2⟩

/-- there is room -/
theorem run_append_here {t tx ty e : TypeId} {i : TypeInfo} (ht : P.underlying t = some (.slice e)) (hi : P.info? e = some i) {a : Addr} {sLen sCap n : Nat} {x : Value} {news : List Value} (hs : Src P i.size tx x n news w)
    (hroom : sLen + n ≤ sCap) {w' : World} (hst : (storeCells (a.add (sLen * i.size)) news).run P w = .ok () w') :
    (Builtin.append_ #[t, tx] ty #[.slice (some a) sLen sCap, x]).run P w = .ok (.slice (some a) (sLen + n) sCap) w' := by
  rcases hs.kind with ⟨e', hk⟩ | hk <;> simp [Builtin.append_, run_underlying ht, run_underlying hk, sizeOf, typeInfo, hi, hs.len, hroom, hs.cells, hst]

theorem zeroCells_len (z : Array Value) (n : Nat) : (Builtin.zeroCells z n).size = n * z.size := by simp [Builtin.zeroCells]

/-- the new row of an append: its cells, and room behind them -/
theorem newGrown_R {D' : Nat → Prop} {θ' : Th} {id m size : Nat} {cells : List AV} {cs rest : List Value} {e : TypeId} {fz : Nat × Nat} (h : VRL D' θ' cells cs) (ho : θ'.off id = 0) (hl : cells.length = m * size)
    (hr : rest.length = θ'.ext id * size) (hz : 0 < size) (hm : m + θ'.ext id ≤ maxLen) : ObjR P D' θ' id (.grown m size cells e fz) (.cells (cs ++ rest).toArray e (0, 0)) :=
  ⟨[], cs, rest, (0, 0), by simp, by simp [ho], h, hl, hr, hz, hm, .inl rfl⟩

theorem HR.grow (hh : HR P base D θ H w) (hn : ¬ D H.next) {t tx ty e : TypeId} {i : TypeInfo} {z : Value} (ht : P.underlying t = some (.slice e)) (hi : P.info? e = some i) (hz : i.zero = some z) (hzs : z.cells.size = i.size)
    (h0 : 0 < i.size) {bs : Option Addr} {sLen sCap n : Nat} {x : Value} {old new : List AV} {olds news : List Value} (hold : (Builtin.firstCells i.size sLen (.slice bs sLen sCap)).run P w.drew = .ok olds.toArray w.drew)
    (hs : Src P i.size tx x n news w) (hg : sCap < sLen + n) (hf : fits (sLen + n) i.bytes = true) (ho : VRL D θ old olds) (hnw : VRL D θ new news) (hol : old.length = sLen * i.size) (fz : Nat × Nat) :
    ∃ θ' w' c, (Builtin.append_ #[t, tx] ty #[.slice bs sLen sCap, x]).run P w = .ok c w' ∧ HR P base (Up D H.next (H.next + 1)) θ' (grownV H e i.size (sLen + n) (appL old new) fz).2 w' ∧
      Grow D H θ w (grownV H e i.size (sLen + n) (appL old new) fz).2 θ' w' ∧ VR (Up D H.next (H.next + 1)) θ' (grownV H e i.size (sLen + n) (appL old new) fz).1 c := by
  unfold fits at hf
  simp only [Bool.and_eq_true, Nat.ble_eq] at hf
  obtain ⟨f1, f2⟩ := hf
  have hrun := run_append_grow_src (P := P) w t tx ty e i z ht hi hz bs sLen sCap olds hold x n news hs hg (by omega) (growslice_fits hg f1)
  have hcap := grownCap_ge w (sLen + n) sCap e
  have hcm := grownCap_le_maxLen w (sLen + n) sCap e (by unfold maxLen; omega)
  generalize grownCap w (sLen + n) sCap e = cap at hrun hcap hcm
  have hnl := hs.newsLen
  have hlen : (appL old new).length = (sLen + n) * i.size := by
    rw [appL_eq, List.length_append, hol, ← hnw.length, hnl, Nat.add_mul]
  have hco : (Obj.cells ((olds ++ news).toArray ++ Builtin.zeroCells z.cells (cap - (sLen + n))) e : Obj) = .cells ((olds ++ news) ++ (Builtin.zeroCells z.cells (cap - (sLen + n))).toList).toArray e (0, 0) := by
    congr 1
    apply Array.ext'; simp
  have hag := Th.add_ag θ H.next w.drew.heap.size 0 (cap - (sLen + n)) hn
  have hup : VRL (Up D H.next (H.next + 1)) (θ.add H.next w.drew.heap.size 0 (cap - (sLen + n))) (appL old new) (olds ++ news) := by
    rw [appL_eq]; exact (ho.app hnw).up hag Up.of
  obtain ⟨e1, e2, e3⟩ := Th.add_new θ H.next w.drew.heap.size 0 (cap - (sLen + n))
  have hR := newGrown_R (P := P) (id := H.next) (m := sLen + n) (size := i.size) (e := e) (fz := fz) (rest := (Builtin.zeroCells z.cells (cap - (sLen + n))).toList) hup e2 hlen
    (by rw [e3, Array.length_toList, zeroCells_len, hzs]) h0 (by rw [e3]; omega)
  rw [← hco] at hR
  refine ⟨_, _, _, hrun, HR.alloc (w := w.drew) (hh.draw rfl) hn ?_ ?_ (Nat.le_refl _) ?_ hR, ?_, ?_⟩
  · rw [alloc_get]; simp
  · intro j hj; rw [alloc_get, if_neg (Nat.ne_of_lt hj)]
  · show w.drew.heap.size ≤ (w.drew.alloc _).heap.size
    simp
  · exact (Grow.draw (w := w) (w' := w.drew) rfl rfl rfl rfl).trans (Grow.alloc (w := w.drew) (hh.draw rfl) hn _ _ _ _) (fun _ h => h)
  · have hid : (Up D H.next (H.next + 1)) H.next := .inr ⟨Nat.le_refl _, Nat.lt_succ_self _⟩
    have := VR.gslice (θ := θ.add H.next w.drew.heap.size 0 (cap - (sLen + n))) (i := 0) (m := sLen + n) (s := i.size) (alt := 0) (n := sLen + n) hid
    intro θ'' hag'
    show conc θ'' (.gslice H.next 0 (sLen + n) i.size 0 (sLen + n)) = _
    rw [this θ'' hag']
    simp only [conc, e1, e2, e3, Nat.zero_mul, ite_self, Nat.add_zero, Nat.sub_zero]
    congr 1
    omega

/-- a grown slice's places in the model -/
theorem gslice_conc {b i m s alt n : Nat} {c : Value} (h : VR D θ (.gslice b i m s alt n) c) : c = .slice (some ⟨θ.blk b, θ.off b + (if (m - i) + θ.ext b = 0 then alt else i * s), none⟩) n ((m - i) + θ.ext b) := by
  rw [← h.now]; rfl
theorem slice_conc {b o n cp : Nat} {c : Value} (h : VR D θ (.slice b o n cp) c) : c = .slice (some ⟨θ.blk b, θ.off b + o, none⟩) n cp := by
  rw [← h.now]; rfl

/-- an append upon the end of what the machine knows of a grown row: in place, or in a new row -/
theorem HR.regrow (hh : HR P base D θ H w) (hn : ¬ D H.next) {t tx ty e : TypeId} {i : TypeInfo} {z : Value} (ht : P.underlying t = some (.slice e)) (hi : P.info? e = some i) (hz : i.zero = some z) (hzs : z.cells.size = i.size)
    (h0 : 0 < i.size) {b k m sLen n : Nat} {c : List AV} {fz fz' : Nat × Nat} {alt : Nat} {s x : Value} {old new : List AV} {news : List Value} (hg : H.get b = some (.grown m i.size c e fz))
    (hsv : VR D θ (.gslice b k m i.size alt sLen) s) (hs : Src P i.size tx x n news w) (hnw : VRL D θ new news) (hn0 : 0 < n) (hkm : k + sLen ≤ m) (hbig : m < k + sLen + n) (hf : fits (sLen + n) i.bytes = true)
    (hold : takeAt c (k * i.size) (sLen * i.size) = some old)
    (hfz : (fz.2 < fz.1 ∨ fz.2 ≤ (k + sLen) * i.size) ∧ ((k = 0 ∧ fz' = fz) ∨ (fz.2 ≤ k * i.size ∧ fz' = cond (Nat.beq fz.1 fz.2) (0, 0) (1, 0)))) :
    ∃ θ' w' v, (Builtin.append_ #[t, tx] ty #[s, x]).run P w = .ok v w' ∧ HR P base (Up D H.next (H.next + 1)) θ' (grownV (H.kill b) e i.size (sLen + n) (appL old new) fz').2 w' ∧
      Grow D H θ w (grownV (H.kill b) e i.size (sLen + n) (appL old new) fz').2 θ' w' ∧ VR (Up D H.next (H.next + 1)) θ' (grownV (H.kill b) e i.size (sLen + n) (appL old new) fz').1 v := by
  have hsc := gslice_conc hsv; subst hsc
  obtain ⟨hd, co, hc, pre, cs, post, cfz, rfl, r2, r3, r4, r5, r6, r7, r8⟩ := hh.obj b _ hg
  have hcl := r3.length
  have hnl := hs.newsLen
  rw [takeAt_eq] at hold
  have hle : sLen * i.size ≤ c.length - k * i.size := by
    rw [r4, ← Nat.sub_mul]; exact Nat.mul_le_mul_right _ (by omega)
  rw [if_pos hle] at hold
  injection hold with hold; subst hold
  have hol : VRL D θ ((c.drop (k * i.size)).take (sLen * i.size)) ((cs.drop (k * i.size)).take (sLen * i.size)) := (r3.drop _).take _
  have hkc : (k + sLen) * i.size ≤ c.length := by rw [r4]; exact Nat.mul_le_mul_right _ hkm
  have hkadd : (k + sLen) * i.size = k * i.size + sLen * i.size := Nat.add_mul _ _ _
  by_cases hroom : sLen + n ≤ (m - k) + θ.ext b
  · -- in place
    have hcap : ¬ (m - k) + θ.ext b = 0 := by omega
    rw [if_neg hcap]
    have htot : (k + sLen + n) * i.size ≤ cs.length + post.length := by
      rw [hcl, r4, r5, ← Nat.add_mul]; exact Nat.mul_le_mul_right _ (by omega)
    have hadd2 : (k + sLen + n) * i.size = k * i.size + sLen * i.size + n * i.size := by rw [Nat.add_mul, Nat.add_mul]
    have hst := run_stores (P := P) (θ.off b + k * i.size + sLen * i.size) news 0 _ w hc (by simp; omega) (fun j hj => by
      unfold FzR at r8
      obtain ⟨q1, q2⟩ := hfz
      omega) hs.one
    rw [Nat.add_zero] at hst
    have hrun := run_append_here (ty := ty) ht hi (a := ⟨θ.blk b, θ.off b + k * i.size, none⟩) (sLen := sLen) (sCap := (m - k) + θ.ext b) hs hroom (by rw [addr_add]; exact hst)
    -- the block's cells from the slice's head on
    have hw : ((pre ++ cs ++ post).take (θ.off b + k * i.size + sLen * i.size) ++ news ++ (pre ++ cs ++ post).drop (θ.off b + k * i.size + sLen * i.size + news.length)) =
        (pre ++ cs.take (k * i.size)) ++ ((cs.drop (k * i.size)).take (sLen * i.size) ++ news) ++ (pre ++ cs ++ post).drop (θ.off b + k * i.size + sLen * i.size + news.length) := by
      have e1 : (pre ++ cs ++ post).take (θ.off b + k * i.size + sLen * i.size) = pre ++ cs.take (k * i.size) ++ (cs.drop (k * i.size)).take (sLen * i.size) := by
        rw [List.append_assoc, List.take_append, List.take_of_length_le (l := pre) (by omega), List.append_assoc, show θ.off b + k * i.size + sLen * i.size - pre.length = k * i.size + sLen * i.size from by omega, List.take_append,
          show k * i.size + sLen * i.size - cs.length = 0 from by omega, List.take_zero, List.append_nil, List.take_add]
      rw [e1]; simp
    have hdrop : ((pre ++ cs ++ post).drop (θ.off b + k * i.size + sLen * i.size + news.length)).length = ((m - k) + θ.ext b - (sLen + n)) * i.size := by
      rw [List.length_drop, List.length_append, List.length_append, hnl, Nat.sub_mul, Nat.add_mul, Nat.add_mul, Nat.sub_mul, hcl, r4, r5, r2]
      have := Nat.mul_le_mul_right i.size (show k ≤ m by omega)
      omega
    have hag := Th.add_ag θ H.next (θ.blk b) (θ.off b + k * i.size) ((m - k) + θ.ext b - (sLen + n)) hn
    obtain ⟨e1, e2, e3⟩ := Th.add_new θ H.next (θ.blk b) (θ.off b + k * i.size) ((m - k) + θ.ext b - (sLen + n))
    have hsz : ((cs.drop (k * i.size)).take (sLen * i.size)).length = sLen * i.size := by rw [List.length_take, List.length_drop]; omega
    obtain ⟨g1, g2⟩ := hh.move hn (o' := .grown (sLen + n) i.size (appL ((c.drop (k * i.size)).take (sLen * i.size)) new) e fz') (co' := .cells ((pre ++ cs.take (k * i.size)) ++ ((cs.drop (k * i.size)).take (sLen * i.size) ++ news) ++ (pre ++ cs ++ post).drop (θ.off b + k * i.size + sLen * i.size + news.length)).toArray e cfz)
      (off := θ.off b + k * i.size) (ext := (m - k) + θ.ext b - (sLen + n)) hg rfl rfl ⟨_, _, _, cfz, rfl, by rw [e2, List.length_append, List.length_take]; omega, by rw [appL_eq]; exact (hol.app hnw).up hag Up.of,
        by rw [appL_eq, List.length_append, ← hol.length, hsz, ← hnw.length, hnl, Nat.add_mul], by rw [e3]; exact hdrop, h0, by rw [e3]; unfold maxLen at r7 ⊢; omega, by
          rw [e2]
          have hlen2 : (pre ++ cs.take (k * i.size)).length + ((cs.drop (k * i.size)).take (sLen * i.size) ++ news).length + ((pre ++ cs ++ post).drop (θ.off b + k * i.size + sLen * i.size + news.length)).length = pre.length + cs.length + post.length := by
            rw [← List.length_append, ← List.length_append, ← hw]; simp; omega
          rw [hlen2]
          obtain ⟨_, q | ⟨q1, q2⟩⟩ := hfz
          · obtain ⟨rfl, rfl⟩ := q; simpa using r8
          · unfold FzR at r8 ⊢
            cases hbq : Nat.beq fz.1 fz.2 with
            | true =>
              simp only [Nat.beq_eq] at hbq
              rw [hbq] at q2; simp only [Nat.beq_refl, cond_true] at q2
              omega
            | false =>
              rw [hbq] at q2; subst q2
              have : ¬ fz.1 = fz.2 := by intro h; rw [h, Nat.beq_refl] at hbq; cases hbq
              simp only [cond_false]
              omega⟩
    refine ⟨θ.add H.next (θ.blk b) (θ.off b + k * i.size) ((m - k) + θ.ext b - (sLen + n)), _, _, hrun, ?_, ?_, ?_⟩
    · rw [show (pre ++ cs ++ post).toArray.toList = pre ++ cs ++ post from rfl, hw]; exact g1
    · rw [show (pre ++ cs ++ post).toArray.toList = pre ++ cs ++ post from rfl, hw]; exact g2
    · have hid : (Up D H.next (H.next + 1)) H.next := .inr ⟨Nat.le_refl _, Nat.lt_succ_self _⟩
      have := VR.gslice (θ := θ.add H.next (θ.blk b) (θ.off b + k * i.size) ((m - k) + θ.ext b - (sLen + n))) (i := 0) (m := sLen + n) (s := i.size) (alt := 0) (n := sLen + n) hid
      intro θ'' hag'
      show conc θ'' (.gslice H.next 0 (sLen + n) i.size 0 (sLen + n)) = _
      rw [this θ'' hag']
      simp only [conc, e1, e2, e3, Nat.zero_mul, ite_self, Nat.add_zero, Nat.sub_zero]
      congr 1
      omega
  · have hfc : (Builtin.firstCells i.size sLen (.slice (some ⟨θ.blk b, θ.off b + (if (m - k) + θ.ext b = 0 then alt else k * i.size), none⟩) sLen ((m - k) + θ.ext b))).run P w.drew = .ok ((cs.drop (k * i.size)).take (sLen * i.size)).toArray w.drew := by
      by_cases hl0 : sLen = 0
      · subst hl0
        show (loadCells _ (0 * i.size)).run P w.drew = _
        rw [Nat.zero_mul, List.take_zero]; rfl
      · have hcap : ¬ (m - k) + θ.ext b = 0 := by omega
        rw [if_neg hcap]
        show (loadCells _ (sLen * i.size)).run P w.drew = _
        have := run_loadN (P := P) (w := w.drew) (k := θ.blk b) (fz := cfz) (e := e) (arr := (pre ++ cs ++ post).toArray) hc (pre.length + k * i.size) (sLen * i.size) (by simp; omega)
        rw [mid_take pre cs post _ _ (by rw [hcl]; exact hle), r2] at this
        exact this
    have := (hh.sub (kill_sub H b)).grow (ty := ty) (H := H.kill b) hn ht hi hz hzs h0 hfc hs (by omega) hf hol hnw (by rw [List.length_take, List.length_drop]; omega) fz'
    obtain ⟨θ', w', v, g1, g2, g3, g4⟩ := this
    exact ⟨θ', w', v, g1, g2, (Grow.kill H b).trans g3 (fun _ h => h), g4⟩

theorem info_of {e : TypeId} {n z : Nat} {zv : AV} (hs : sizeT P e = some n) (hb : bytesT P e = some z) (hz : zeroOf P e = some zv) (hzn : zv.cells.length = n) :
    ∃ i zc, P.info? e = some i ∧ i.size = n ∧ i.bytes = z ∧ i.zero = some zc ∧ zc.cells.size = n := by
  obtain ⟨i, h1, h2⟩ := info_of_size hs
  unfold bytesT at hb
  rw [h1] at hb
  simp only [Option.bind_some, Option.some.injEq] at hb
  unfold zeroOf at hz
  rw [h1] at hz
  simp only [Option.bind_some, Option.bind_eq_some_iff] at hz
  obtain ⟨zc, h3, h4⟩ := hz
  refine ⟨i, zc, h1, h2, hb, h3, ?_⟩
  have := (toAV_VR (D := fun _ => False) (θ := ⟨fun _ => 0, fun _ => 0, fun _ => 0⟩) h4).cells.length
  rw [hzn] at this; simpa using this

theorem slice_len {b o n cp : Nat} {c : Value} (h : VR D θ (.slice b o n cp) c) (n' : Nat) : VR D θ (.slice b o n' cp) (.slice (some ⟨θ.blk b, θ.off b + o, none⟩) n' cp) := fun θ' ha => by
  have := (h θ' ha).trans h.now.symm
  simp only [conc, Value.slice.injEq, Option.some.injEq, Addr.mk.injEq, and_true, true_and] at this
  simp only [conc, this.1, this.2]
theorem gslice_len {b i m s alt n : Nat} {c : Value} (h : VR D θ (.gslice b i m s alt n) c) (n' : Nat) : VR D θ (.gslice b i m s alt n') (.slice (some ⟨θ.blk b, θ.off b + (if (m - i) + θ.ext b = 0 then alt else i * s), none⟩) n' ((m - i) + θ.ext b)) := fun θ' ha => by
  have := (h θ' ha).trans h.now.symm
  simp only [conc, Value.slice.injEq, Option.some.injEq, Addr.mk.injEq, and_true, true_and] at this
  obtain ⟨⟨h1, h2⟩, h3⟩ := this
  rw [h3] at h2
  simp only [conc, h1, h3, h2]

theorem eff_append {o : Oper} {c : Call} {xs : List Operand} {t tx e : TypeId} {sz z : Nat} {zv : AV} (ho : o.op = .call c) (hc : c.callee = .builtin .append) (hx : c.args.toList = xs) (hts : c.argTypes.toList = [t, tx])
    (hu : P.underlying t = some (.slice e)) (hk : (∃ e', P.underlying tx = some (.slice e')) ∨ (P.underlying tx = some .string)) (hs : sizeT P e = some sz) (hb : bytesT P e = some z) (hz : zeroOf P e = some zv) (hzn : zv.cells.length = sz) :
    EffOK P o xs (Op.append e sz z) := by
  intro base D θ H ρ w vs v H' hh h hv hfr
  obtain ⟨cc, hE⟩ := exec_builtin (ρ := ρ) ho hc
  have hats : c.argTypes = #[t, tx] := by apply Array.ext'; simpa using hts
  obtain ⟨i, zc, hi, rfl, rfl, hiz, hzs⟩ := info_of hs hb hz hzn
  unfold Op.append at hv
  split at hv
  · rename_i a b
    obtain ⟨x, y, rfl, ha, hbv⟩ := h.len2
    simp only [Option.bind_eq_some_iff] at hv
    obtain ⟨n, hn, new, hnew, hv⟩ := hv
    cases hone : allOne new with
    | false => rw [hone] at hv; cases hv
    | true =>
      rw [hone] at hv
      simp only [cond_true] at hv
      obtain ⟨news, hsrc, hnv⟩ := src_of hh (tx := tx) hk hbv hn hnew hone
      have hfin : ∀ (c' : Value) (w' : World), (Builtin.append_ #[t, tx] o.type #[ρ x, ρ y]).run P w = .ok c' w' → (execOp ρ o).run P w = .ok (.value c') w' := by
        intro c' w' hr
        rw [hE, args_of hx, hats]
        simp [builtin, hr]
      have hnl := hsrc.newsLen
      have hnlen := hnv.length
      have hnothing : n = 0 → ∀ bs len cp, ρ x = .slice bs len cp → len ≤ cp → (Builtin.append_ #[t, tx] o.type #[ρ x, ρ y]).run P w = .ok (ρ x) w := by
        intro h0 bs len cp he hle
        subst h0
        have : news = [] := List.eq_nil_of_length_eq_zero (by simpa using hnl)
        subst this
        rw [he]
        exact run_append_nothing w t tx o.type e i hu hi bs len cp hle (ρ y) hsrc
      unfold appendV at hv
      split at hv
      · -- nil
        cases h0 : Nat.beq n 0 with
        | true =>
          rw [h0] at hv
          simp only [cond_true, Option.some.injEq, Prod.mk.injEq] at hv
          obtain ⟨rfl, rfl⟩ := hv
          exact ⟨θ, w, ρ x, .inl (hfin _ _ (hnothing (by simpa using h0) none 0 0 ha.now.symm (Nat.le_refl _))), by rw [Up.none]; exact hh, .refl _ _ _ _, by rw [Up.none]; exact ha⟩
        | false =>
          rw [h0] at hv
          simp only [cond_false] at hv
          cases hf : (fits n i.bytes && Nat.blt 0 i.size) with
          | false => rw [hf] at hv; cases hv
          | true =>
            rw [hf] at hv
            simp only [cond_true, Option.some.injEq] at hv
            simp only [Bool.and_eq_true, Nat.blt_eq] at hf
            have hn0 : n ≠ 0 := by intro q; subst q; cases h0
            obtain ⟨θ', w', c', g1, g2, g3, g4⟩ := hh.grow (ty := o.type) (hfr H.next (Nat.le_refl _) (by rw [← (Prod.mk.inj hv).2]; exact Nat.lt_succ_self _)) hu hi hiz hzs hf.2 (bs := none) (sLen := 0) (sCap := 0) (old := []) (olds := []) rfl hsrc (by omega) (by simpa using hf.1) .nil hnv (by simp) (0, 0)
            rw [show appL ([] : List AV) new = new from rfl, Nat.zero_add] at g2 g3 g4
            rw [hv] at g2 g3 g4
            have : H'.next = H.next + 1 := by rw [← (Prod.mk.inj hv).2]; rfl
            rw [← this] at g2 g4
            refine ⟨θ', w', c', .inl (hfin _ _ ?_), g2, g3, g4⟩
            rw [← ha.now]; exact g1
      · -- a slice of a row
        rename_i bb oo len cp
        cases hle : Nat.ble (len + n) cp with
        | true =>
          rw [hle] at hv
          simp only [Nat.ble_eq] at hle
          simp only [cond_true] at hv
          cases h0 : Nat.beq n 0 with
          | true =>
            rw [h0] at hv
            simp only [cond_true, Option.some.injEq, Prod.mk.injEq] at hv
            obtain ⟨rfl, rfl⟩ := hv
            simp only [Nat.beq_eq] at h0; subst h0
            exact ⟨θ, w, ρ x, .inl (hfin _ _ (hnothing rfl _ len cp (slice_conc ha) (by omega))), by rw [Up.none]; exact hh, .refl _ _ _ _, by rw [Up.none]; exact ha⟩
          | false =>
            rw [h0] at hv
            simp only [cond_false, Option.bind_eq_some_iff, Option.some.injEq, Prod.mk.injEq] at hv
            obtain ⟨H1, h1, rfl, rfl⟩ := hv
            obtain ⟨w', g1, g2, g3, g4⟩ := hh.store hnv h1
            refine ⟨θ, w', _, .inl (hfin _ _ ?_), by rw [g4, Up.none]; exact g2, g3, by rw [g4, Up.none]; exact slice_len ha _⟩
            rw [slice_conc ha]
            exact run_append_here hu hi hsrc hle (by rw [addr_add, Nat.add_assoc]; exact g1)
        | false =>
          rw [hle] at hv
          have hle' : ¬ len + n ≤ cp := by intro q; rw [Nat.ble_eq_true_of_le q] at hle; cases hle
          simp only [cond_false] at hv
          cases hf : (fits (len + n) i.bytes && Nat.ble cp (len + n) && Nat.blt 0 i.size) with
          | false => rw [hf] at hv; cases hv
          | true =>
            rw [hf] at hv
            simp only [cond_true, Option.bind_eq_some_iff, Option.some.injEq] at hv
            obtain ⟨old, hold, hv⟩ := hv
            simp only [Bool.and_eq_true, Nat.blt_eq] at hf
            obtain ⟨olds, k1, k2, k3⟩ : ∃ olds : List Value, (Builtin.firstCells i.size len (ρ x)).run P w.drew = .ok olds.toArray w.drew ∧ VRL D θ old olds ∧ old.length = len * i.size := by
              obtain ⟨ad, len', cap', hc', hl', hcase⟩ := firstCells_run (hh.draw (w' := w.drew) rfl) ha (n := len) rfl (Nat.le_refl _) rfl hold
              rcases hcase with ⟨rfl, rfl, _, h0⟩ | ⟨ad', cs', rfl, k1, k2, k3⟩
              · rw [slice_conc ha] at hc'; cases hc'
              · exact ⟨cs', by rw [hc']; exact k1, k2, k3⟩
            rw [slice_conc ha] at k1
            obtain ⟨θ', w', c', g1, g2, g3, g4⟩ := hh.grow (ty := o.type) (hfr H.next (Nat.le_refl _) (by rw [← (Prod.mk.inj hv).2]; exact Nat.lt_succ_self _)) hu hi hiz hzs hf.2 k1 hsrc (by omega) hf.1.1 k2 hnv k3 (0, 0)
            rw [hv] at g2 g3 g4
            have : H'.next = H.next + 1 := by rw [← (Prod.mk.inj hv).2]; rfl
            rw [← this] at g2 g4
            refine ⟨θ', w', c', .inl (hfin _ _ ?_), g2, g3, g4⟩
            rw [slice_conc ha]; exact g1
      · -- a slice of a grown row
        rename_i bb ii m sz alt len
        cases h0 : Nat.beq n 0 with
        | true =>
          rw [h0] at hv
          simp only [cond_true] at hv
          cases hil : Nat.ble (ii + len) m with
          | false => rw [hil] at hv; cases hv
          | true =>
          rw [hil] at hv
          simp only [cond_true, Option.some.injEq, Prod.mk.injEq] at hv
          obtain ⟨rfl, rfl⟩ := hv
          simp only [Nat.beq_eq] at h0; subst h0
          simp only [Nat.ble_eq] at hil
          exact ⟨θ, w, ρ x, .inl (hfin _ _ (hnothing rfl _ len _ (gslice_conc ha) (by omega))), by rw [Up.none]; exact hh, .refl _ _ _ _, by rw [Up.none]; exact ha⟩
        | false =>
          rw [h0] at hv
          have hn0 : n ≠ 0 := by intro q; subst q; cases h0
          simp only [cond_false] at hv
          cases hcc : (Nat.beq sz i.size && Nat.ble (ii + len) m && Nat.blt 0 i.size) with
          | false => rw [hcc] at hv; cases hv
          | true =>
            rw [hcc] at hv
            simp only [Bool.and_eq_true, Nat.beq_eq, Nat.ble_eq, Nat.blt_eq] at hcc
            obtain ⟨⟨rfl, hil⟩, hsz⟩ := hcc
            simp only [cond_true] at hv
            cases hle : Nat.ble (ii + len + n) m with
            | true =>
              rw [hle] at hv
              simp only [Nat.ble_eq] at hle
              simp only [cond_true, Option.bind_eq_some_iff, Option.some.injEq, Prod.mk.injEq] at hv
              obtain ⟨H1, h1, rfl, rfl⟩ := hv
              obtain ⟨w', g1, g2, g3, g4⟩ := hh.store hnv h1
              refine ⟨θ, w', _, .inl (hfin _ _ ?_), by rw [g4, Up.none]; exact g2, g3, by rw [g4, Up.none]; exact gslice_len ha _⟩
              rw [gslice_conc ha]
              refine run_append_here hu hi hsrc (by omega) ?_
              rw [if_neg (by omega), addr_add, Nat.add_assoc, ← Nat.add_mul]
              exact g1
            | false =>
              rw [hle] at hv
              have hle' : ¬ ii + len + n ≤ m := by intro q; rw [Nat.ble_eq_true_of_le q] at hle; cases hle
              simp only [cond_false] at hv
              cases hf : fits (len + n) i.bytes with
              | false => rw [hf] at hv; cases hv
              | true =>
                rw [hf] at hv
                simp only [cond_true] at hv
                split at hv
                · rename_i m' sz' c0 e' fz hget
                  cases hcc : (Nat.beq m m' && Nat.beq i.size sz' && Nat.beq e' e) with
                  | false => rw [hcc] at hv; cases hv
                  | true =>
                    rw [hcc] at hv
                    simp only [Bool.and_eq_true, Nat.beq_eq] at hcc
                    obtain ⟨⟨rfl, rfl⟩, rfl⟩ := hcc
                    simp only [cond_true] at hv
                    have hfin2 : ∀ old fz', takeAt c0 (ii * i.size) (len * i.size) = some old → ((fz.2 < fz.1 ∨ fz.2 ≤ (ii + len) * i.size) ∧ ((ii = 0 ∧ fz' = fz) ∨ (fz.2 ≤ ii * i.size ∧ fz' = cond (Nat.beq fz.1 fz.2) (0, 0) (1, 0)))) →
                        grownV (H.kill bb) e' i.size (len + n) (appL old new) fz' = (v, H') → ∃ θ' w' c, Gives P (execOp ρ o) w c w' ∧ HR P base (Up D H.next H'.next) θ' H' w' ∧ Grow D H θ w H' θ' w' ∧ VR (Up D H.next H'.next) θ' v c := by
                      intro old fz' hold hfz hv
                      have hnx : H'.next = H.next + 1 := by rw [← (Prod.mk.inj hv).2]; rfl
                      obtain ⟨θ', w', c', g1, g2, g3, g4⟩ := hh.regrow (ty := o.type) (hfr H.next (Nat.le_refl _) (by rw [hnx]; exact Nat.lt_succ_self _)) hu hi hiz hzs hsz hget ha hsrc hnv (by omega) hil (by omega) hf hold hfz
                      rw [hv] at g2 g3 g4
                      rw [← hnx] at g2 g4
                      exact ⟨θ', w', c', .inl (hfin _ _ g1), g2, g3, g4⟩
                    cases hq1 : (Nat.beq ii 0 && Nat.beq len m && Nat.ble fz.2 (m * i.size)) with
                    | true =>
                      rw [hq1] at hv
                      simp only [Bool.and_eq_true, Nat.beq_eq, Nat.ble_eq] at hq1
                      obtain ⟨⟨rfl, rfl⟩, hq1⟩ := hq1
                      simp only [cond_true, Option.some.injEq] at hv
                      obtain ⟨_, co, _, pre, cs, post, cfz, _, _, _, r4, _⟩ := hh.obj bb _ hget
                      refine hfin2 c0 fz ?_ ⟨.inr (by simpa using hq1), .inl ⟨rfl, rfl⟩⟩ hv
                      rw [takeAt_eq, Nat.zero_mul, ← r4, if_pos (by omega), List.drop_zero, List.take_length]
                    | false =>
                      rw [hq1] at hv
                      simp only [cond_false] at hv
                      cases hq2 : Nat.ble fz.2 (ii * i.size) with
                      | true =>
                        rw [hq2] at hv
                        simp only [Nat.ble_eq] at hq2
                        simp only [cond_true, Option.bind_eq_some_iff, Option.some.injEq] at hv
                        obtain ⟨old, hold, hv⟩ := hv
                        exact hfin2 old _ hold ⟨.inr (by rw [Nat.add_mul]; omega), .inr ⟨hq2, rfl⟩⟩ hv
                      | false =>
                        rw [hq2] at hv
                        simp only [cond_false] at hv
                        cases hq3 : (Nat.beq ii 0 && Nat.ble fz.2 (len * i.size)) with
                        | false => rw [hq3] at hv; cases hv
                        | true =>
                          rw [hq3] at hv
                          simp only [Bool.and_eq_true, Nat.beq_eq, Nat.ble_eq] at hq3
                          obtain ⟨rfl, hq3⟩ := hq3
                          simp only [cond_true, Option.bind_eq_some_iff, Option.some.injEq] at hv
                          obtain ⟨old, hold, hv⟩ := hv
                          exact hfin2 old fz (by rw [Nat.zero_mul]; exact hold) ⟨.inr (by rw [Nat.zero_add]; exact hq3), .inl ⟨rfl, rfl⟩⟩ hv
                · cases hv
      · cases hv
  · cases hv

theorem eff_copy {o : Oper} {c : Call} {xs : List Operand} {t e : TypeId} {sz : Nat} (ho : o.op = .call c) (hc : c.callee = .builtin .copy) (hx : c.args.toList = xs) (ht : c.argTypes[0]? = some t)
    (hu : P.underlying t = some (.slice e)) (hs : sizeT P e = some sz) : EffOK P o xs (Op.copy sz) := by
  intro base D θ H ρ w vs v H' hh h hv hfr
  obtain ⟨cc, hE⟩ := exec_builtin (ρ := ρ) ho hc
  unfold Op.copy at hv
  split at hv
  · cases hv
  · rename_i d r hns
    obtain ⟨x, y, rfl, ha, hb⟩ := h.len2
    simp only [Option.bind_eq_some_iff] at hv
    obtain ⟨dn, hdn, rn, hrn, l, hl, hv⟩ := hv
    have hd : isStr d = false := by cases d <;> first | rfl | exact (hns _ rfl).elim
    obtain ⟨lr, _⟩ := lenV_run (P := P) (w := w) hb hrn
    -- what is copied
    obtain ⟨cs, g1, g2⟩ : ∃ cs : List Value, (Builtin.firstCells sz (min rn dn) (ρ y)).run P w = .ok cs.toArray w ∧ VRL D θ l cs := by
      cases hstr : isStr r with
      | true =>
        obtain ⟨s, rfl⟩ : ∃ s, r = .str s := by cases r <;> first | exact ⟨_, rfl⟩ | cases hstr
        simp only [lenV, lenL_eq, Option.some.injEq] at hrn; subst hrn
        simp only [firstCells] at hl
        cases hsz : Nat.beq sz 1 with
        | false => rw [hsz] at hl; cases hl
        | true =>
          rw [hsz] at hl
          simp only [cond_true, Option.some.injEq] at hl; subst hl
          refine ⟨(s.take (min s.length dn)).map fun b => .int .u8 b.toNat, ?_, fun θ' _ => by rw [concL_eq, List.map_map]; rfl⟩
          rw [← hb.now]
          simp only [conc, Builtin.firstCells, Sem.run_pure]
          congr 1
          apply Array.ext'
          simp only [Array.toList_map]
          rw [Lib.extract_data]
          simp
      | false =>
        obtain ⟨ad, len', cap', hc', hl', hcase⟩ := firstCells_run hh hb hrn (Nat.min_le_left rn dn) hstr hl
        rw [hc']
        rcases hcase with ⟨rfl, rfl, _, h0⟩ | ⟨ad', cs', rfl, k1, k2, k3⟩
        · exact ⟨[], rfl, .nil⟩
        · exact ⟨cs', k1, k2⟩
    have hsl : ∃ bs cp, ρ x = .slice bs dn cp := by
      cases d <;> simp only [lenV, reduceCtorEq, Option.some.injEq] at hdn
      · cases hd
      · subst hdn; exact ⟨none, 0, ha.now.symm⟩
      · subst hdn; exact ⟨_, _, slice_conc ha⟩
      · subst hdn; exact ⟨_, _, gslice_conc ha⟩
      · subst hdn; exact ⟨_, _, ha.now.symm⟩
    obtain ⟨bs, cp, hxe⟩ := hsl
    have hcs := g2.length
    cases hz : Nat.beq (min rn dn) 0 with
    | true =>
      rw [hz] at hv
      simp only [cond_true, Option.some.injEq, Prod.mk.injEq] at hv
      obtain ⟨rfl, rfl⟩ := hv
      simp only [Nat.beq_eq] at hz
      have hcs0 : cs = [] := by
        rw [hz] at hl
        have : l = [] := by
          unfold firstCells at hl
          split at hl
          · injection hl with hl; exact hl.symm
          · cases hq : Nat.beq sz 1 <;> rw [hq] at hl
            · cases hl
            · injection hl with hl; rw [← hl]; rfl
          · injection hl with hl; exact hl.symm
          · injection hl with hl; exact hl.symm
          · injection hl with hl; exact hl.symm
          · cases hl
        subst this; exact g2.nil_inv
      subst hcs0
      refine ⟨θ, w, goInt 0, .inl ?_, by rw [Up.none]; exact hh, .refl _ _ _ _, .int _ _⟩
      rw [hE, args_of hx]
      have hmin : Nat.min rn dn = 0 := hz
      cases bs <;> simp [builtin, hxe, Builtin.copy_, ht, run_und hu, run_sizeT hs, lr, hmin, hz, show (Builtin.firstCells sz 0 (ρ y)).run P w = .ok #[] w from by rw [hz] at g1; exact g1, storeCells]
    | false =>
      rw [hz] at hv
      simp only [cond_false, Option.bind_eq_some_iff, Option.some.injEq, Prod.mk.injEq] at hv
      obtain ⟨p, hp, H1, h1, rfl, rfl⟩ := hv
      obtain ⟨n', m', k1, k2, k3, k4⟩ := elemAt_conc ha hp
      rw [Nat.zero_mul, Nat.sub_zero] at k1
      obtain ⟨w', q1, q2, q3, q4⟩ := hh.store g2 h1
      rw [hxe] at k1
      injection k1 with k1 k1' k1''
      subst k1
      refine ⟨θ, w', goInt (min rn dn : Nat), .inl ?_, by rw [q4, Up.none]; exact q2, q3, by rw [show ((min rn dn : Nat) : Int) = min (rn : Int) (dn : Int) from by omega]; exact .int _ _⟩
      rw [hE, args_of hx]
      have hmin : Nat.min rn dn = min rn dn := rfl
      simp [builtin, Builtin.copy_, ht, run_und hu, run_sizeT hs, lr, hxe, hmin, g1, q1]
  · cases hv

theorem eff_clearSl {o : Oper} {c : Call} {xs : List Operand} {t e : TypeId} {z : AV} (ho : o.op = .call c) (hc : c.callee = .builtin .clear) (hx : c.args.toList = xs) (ht : c.argTypes[0]? = some t)
    (hu : P.underlying t = some (.slice e)) (hz : zeroOf P e = some z) : EffOK P o xs (Op.clearSl z.cells) := by
  intro base D θ H ρ w vs v H' hh h hv hfr
  obtain ⟨cc, hE⟩ := exec_builtin (ρ := ρ) ho hc
  unfold Op.clearSl at hv
  split at hv
  · cases hv
  · rename_i d hns
    obtain ⟨x, rfl, ha⟩ := h.len1
    simp only [Option.bind_eq_some_iff] at hv
    obtain ⟨n, hn, hv⟩ := hv
    cases h0 : Nat.beq n 0 with
    | true =>
      rw [h0] at hv
      simp only [cond_true, Option.some.injEq, Prod.mk.injEq] at hv
      obtain ⟨rfl, rfl⟩ := hv
      simp only [Nat.beq_eq] at h0; subst h0
      refine ⟨θ, w, .tuple #[], .inl ?_, by rw [Up.none]; exact hh, .refl _ _ _ _, .tuple .nil⟩
      rw [hE, args_of hx]
      have hsl : ∃ bs cp, ρ x = .slice bs 0 cp := by
        cases d <;> simp only [lenV, reduceCtorEq, Option.some.injEq] at hn
        · exact (hns _ rfl).elim
        · exact ⟨none, 0, ha.now.symm⟩
        · subst hn; exact ⟨_, _, slice_conc ha⟩
        · subst hn; exact ⟨_, _, gslice_conc ha⟩
        · exact ⟨_, _, ha.now.symm⟩
      obtain ⟨bs, cp, hxe⟩ := hsl
      cases bs <;> simp [builtin, Builtin.clear_, ht, run_und hu, hxe]
    | false =>
      rw [h0] at hv
      simp only [cond_false, Option.bind_eq_some_iff, Option.some.injEq, Prod.mk.injEq] at hv
      obtain ⟨p, hp, H1, h1, rfl, rfl⟩ := hv
      obtain ⟨n', m', k1, k2, k3, k4⟩ := elemAt_conc ha hp
      rw [Nat.zero_mul, Nat.sub_zero] at k1
      obtain ⟨zc, hz1, hz2⟩ := run_zero (w := w) hz
      have hnew : VRL D θ (repl n z.cells) (List.replicate n zc.cells.toList).flatten := repl_VRL (hz2 D θ).cells n
      obtain ⟨w', q1, q2, q3, q4⟩ := hh.store hnew h1
      refine ⟨θ, w', .tuple #[], .inl ?_, by rw [q4, Up.none]; exact q2, q3, .tuple .nil⟩
      rw [hE, args_of hx]
      have hnn : n' = n := by
        cases d <;> simp only [lenV, reduceCtorEq, Option.some.injEq] at hn
        · exact (hns _ rfl).elim
        · rw [← ha.now] at k1; cases k1
        · subst hn; rw [slice_conc ha] at k1; injection k1 with _ k _; exact k.symm
        · subst hn; rw [gslice_conc ha] at k1; injection k1 with _ k _; exact k.symm
        · cases hp
      subst hnn
      have hzz : (Builtin.zeroCells zc.cells n').toList = (List.replicate n' zc.cells.toList).flatten := by
        have := zeros_eq zc.cells.toList n'
        unfold Builtin.zeroCells
        rw [← Array.length_toList]
        simpa using congrArg Array.toList this
      have hn0 : n' ≠ 0 := by omega
      obtain ⟨k, rfl⟩ : ∃ k, n' = k + 1 := ⟨n' - 1, by omega⟩
      simp [builtin, Builtin.clear_, ht, run_und hu, k1, hz1, hzz, q1]
  · cases hv

theorem freeze_eq {k o n : Nat} {arr : Array Value} {e : TypeId} {fz : Nat × Nat} (h : w.heap[k]? = some (.cells arr e fz)) (hn : n ≠ 0) :
    w.freeze ⟨k, o, none⟩ n = wset w k (.cells arr e (if fz.1 == fz.2 then (o, o + n) else (min fz.1 o, max fz.2 (o + n)))) := by
  unfold World.freeze
  rw [if_neg hn]
  simp only [wset]
  congr 1
  apply Array.ext_getElem?
  intro j
  rw [Array.getElem?_modify, Array.getElem?_setIfInBounds]
  by_cases hj : k = j
  · subst hj
    obtain ⟨hk, h2⟩ := Array.getElem?_eq_some_iff.1 h
    simp [hk, h2]
  · simp [hj]

theorem FzE.join {fz cfz : Nat × Nat} (h : FzE fz cfz) (o n : Nat) (hn : n ≠ 0) : FzE (Op.fzJoin fz o n) (if cfz.1 == cfz.2 then (o, o + n) else (min cfz.1 o, max cfz.2 (o + n))) := by
  unfold FzE at h ⊢
  unfold Op.fzJoin
  by_cases hc : cfz.1 = cfz.2
  · rw [if_pos (by simpa using hc)]
    cases hb : Nat.beq fz.1 fz.2 with
    | true => simp only [cond_true]; omega
    | false => simp only [cond_false]; omega
  · rw [if_neg (by simpa using hc)]
    have hb : Nat.beq fz.1 fz.2 = false := by
      cases hb : Nat.beq fz.1 fz.2 with
      | false => rfl
      | true => simp only [Nat.beq_eq] at hb; omega
    rw [hb]
    simp only [cond_false]; omega

theorem FzR.join {fz cfz : Nat × Nat} {off size : Nat} (h : FzR fz cfz off size) (ht : fz.1 ≤ fz.2) (o n : Nat) (hn : n ≠ 0) : FzR (Op.fzJoin fz o n) (if cfz.1 == cfz.2 then (off + o, off + o + n) else (min cfz.1 (off + o), max cfz.2 (off + o + n))) off size := by
  unfold FzR at h ⊢
  unfold Op.fzJoin
  by_cases hc : cfz.1 = cfz.2
  · rw [if_pos (by simpa using hc)]
    cases hb : Nat.beq fz.1 fz.2 with
    | true => simp only [cond_true]; omega
    | false => simp only [cond_false]; omega
  · rw [if_neg (by simpa using hc)]
    have hb : Nat.beq fz.1 fz.2 = false := by
      cases hb : Nat.beq fz.1 fz.2 with
      | false => rfl
      | true => simp only [Nat.beq_eq] at hb; omega
    rw [hb]
    simp only [cond_false]; omega

theorem eff_markStr {o : Oper} {src dst d e : TypeId} {x : Operand} (ho : o.op = .convert src dst x) (h1 : P.underlying src = some (.slice d)) (h2 : P.underlying dst = some (.slice e)) (he : P.underlying e = some (.int .u8)) (hsd : src = dst) :
    EffOK P o [x] Op.markStr := by
  intro base D θ H ρ w vs v H' hh h hv hfr
  unfold Op.markStr at hv
  split at hv
  · rename_i b oo n cp
    obtain ⟨x', hx', ha⟩ := h.len1
    simp only [List.cons.injEq, and_true] at hx'; subst hx'
    split at hv
    · rename_i cells e0 fz hg
      simp only [Option.some.injEq, Prod.mk.injEq] at hv
      obtain ⟨rfl, rfl⟩ := hv
      obtain ⟨hd, co, hc, pre, cs, post, cfz, et, rfl, r2, r3, r4⟩ := hh.obj b _ hg
      obtain ⟨rfl, rfl, rfl, r5⟩ := r4 rfl
      have hoff : θ.off b = 0 := by simpa using r2.symm
      have hcl := r3.length
      have hfe := freeze_eq (o := cs.length) (n := 1) hc (by decide)
      have hrun : (convert src dst (ρ x)).run P w = .ok (ρ x) (wset w (θ.blk b) (.cells (([] : List Value) ++ cs ++ []).toArray et (if cfz.1 == cfz.2 then (cs.length, cs.length + 1) else (min cfz.1 cs.length, max cfz.2 (cs.length + 1))))) := by
        rw [← hfe, slice_conc ha]
        subst hsd
        obtain rfl : d = e := by
          have := h1.symm.trans h2
          injection this with this; injection this
        have hsh := run_shape_cells hc
        simp [convert, run_und h1, he, run_underlying he, markStringish, shape, Sem.run, freeze, hsh]
      have r6 := r5.join cs.length 1 (by decide)
      generalize (if cfz.1 == cfz.2 then (cs.length, cs.length + 1) else (min cfz.1 cs.length, max cfz.2 (cs.length + 1))) = cfz' at hrun r6
      have r7 : FzE (Op.fzJoin fz (lenL cells) 1) cfz' := by rw [lenL_eq, ← hcl]; exact r6
      refine ⟨θ, wset w (θ.blk b) (.cells (([] : List Value) ++ cs ++ []).toArray et cfz'), ρ x, .inl ?_, by rw [show (H.set b (.row cells et (Op.fzJoin fz (lenL cells) 1) true)).next = H.next from rfl, Up.none]; exact hh.set hg rfl rfl ⟨[], cs, [], cfz', _, rfl, by simpa using r2, r3, fun _ => ⟨rfl, rfl, rfl, r7⟩⟩, Grow.set hg rfl (hh.lt hg), by rw [show (H.set b (.row cells et (Op.fzJoin fz (lenL cells) 1) true)).next = H.next from rfl, Up.none]; exact ha⟩
      simp [execOp, ho, hrun]
    · cases hv
  · cases hv

theorem run_loadBytes' : ∀ (ns : List Int) (a : Addr) (acc : List UInt8), (∀ j x, ns[j]? = some x → w.cell? (a.add j) = some (.int .u8 x)) →
    (loadBytes a ⟨acc.toArray⟩ ns.length).run P w = .ok ⟨(acc ++ ns.map (fun n => UInt8.ofNat n.toNat)).toArray⟩ w
  | [], a, acc, h => by simp [loadBytes]
  | x :: l, a, acc, h => by
    have h0 : w.cell? a = some (.int .u8 x) := by
      have := h 0 x rfl
      simpa [Addr.add] using this
    have ih := run_loadBytes' l (a.add 1) (acc ++ [UInt8.ofNat x.toNat]) (fun j y hy => by
      have := h (j + 1) y (by simpa using hy)
      have e : (a.add 1).add j = a.add (j + 1) := by
        unfold Addr.add
        by_cases hj : j = 0
        · subst hj; simp
        · simp [hj]; omega
      rw [e]; exact this)
    have e1 : (⟨acc.toArray⟩ : ByteArray).push (x.toNat).toUInt8 = ⟨(acc ++ [UInt8.ofNat x.toNat]).toArray⟩ := by simp [ByteArray.push, Nat.toUInt8]
    simp only [List.length_cons, loadBytes, Sem.run_bind, run_load, h0, Result.andThen, e1]
    rw [ih]; simp

theorem liesAt_bytes' {e : TypeId} (hc : P.cellsOf e = 1) (count off n : Nat) (hn : off + n ≤ count) : liesAt P P.depth e count off e n = true := by
  have hd : P.depth = (2 * (P.types.size + Made.depth) + 1) + 1 := rfl
  rw [hd]
  simp only [liesAt, Bool.or_eq_true]
  left
  rw [hd]
  simp [rowAt, hc, hn, sameLayout, Nat.mod_one]

theorem run_unsafeString_at {ts : Array TypeId} {pt ty e : TypeId} (hts : ts[0]? = some pt) (hp : P.underlying pt = some (.pointer e)) (hc : P.cellsOf e = 1) {g off cells : Nat} (hsh : w.shape? g = some (e, cells)) (ns : List Int) (h0 : ns ≠ [])
    (hn : off + ns.length ≤ cells) (h63 : ns.length ≤ 9223372036854775807) (hcell : ∀ j x, ns[j]? = some x → w.cell? ((⟨g, off, none⟩ : Addr).add j) = some (.int .u8 x)) :
    (Builtin.unsafeString_ ts ty #[.pointer (some ⟨g, off, none⟩), .int .i64 ns.length]).run P w = .ok (.string ⟨(ns.map (fun n => UInt8.ofNat n.toNat)).toArray⟩) (w.freeze ⟨g, off, none⟩ ns.length) := by
  have hl : ns.length ≠ 0 := by simpa using h0
  have hlb := run_loadBytes' (P := P) (w := w) ns ⟨g, off, none⟩ [] hcell
  have hlies := liesAt_bytes' (P := P) hc (cells / P.cellsOf e) off ns.length (by rw [hc]; simpa using hn)
  have h63' : ¬ (9223372036854775807 : Int) < (ns.length : Int) := by omega
  change Sem.run P (asInt (.int .i64 ns.length) >>= _) w = _
  have hmax : IntKind.i64.max = 9223372036854775807 := rfl
  have hneg : ¬ (ns.length : Int) < 0 := by omega
  have hempty : ByteArray.empty = (⟨([] : List UInt8).toArray⟩ : ByteArray) := rfl
  simp only [List.nil_append] at hlb
  simp [asInt, asIntOf, hmax, h63', hneg, hl, variablesAt, hsh, elemOf, run_underlying hp, hlies, hts, hempty, hlb, freeze, Sem.run, Array.getLit]

theorem eff_strOfPtr {o : Oper} {c : Call} {xs : List Operand} {t u : TypeId} (ho : o.op = .call c) (hc : c.callee = .builtin .unsafeString) (hx : c.args.toList = xs) (ht : c.argTypes[0]? = some t)
    (hu : P.underlying t = some (.pointer u)) (hs : sizeT P u = some 1) : EffOK P o xs (Op.strOfPtr u) := by
  intro base D θ H ρ w vs v H' hh h hv hfr
  obtain ⟨cc, hE⟩ := exec_builtin (ρ := ρ) ho hc
  have hco : P.cellsOf u = 1 := by
    obtain ⟨i, h1, h2⟩ := info_of_size hs
    simp [Program.cellsOf, h1, h2]
  have hzero : ∀ (k : IntKind) (p : Option Addr), (Builtin.unsafeString_ c.argTypes o.type #[.pointer p, .int k 0]).run P w = .ok (.string ⟨([] : List UInt8).toArray⟩) w := by
    intro k p
    have hmax : ¬ (0 : Int) > IntKind.i64.max := by decide
    cases p with
    | none =>
      change Sem.run P (asInt (.int k 0) >>= _) w = _
      simp [asInt, asIntOf, ht, hmax]; rfl
    | some a =>
      change Sem.run P (asInt (.int k 0) >>= _) w = _
      simp [asInt, asIntOf, ht, hmax]; rfl
  -- the bytes of a row's cells
  have hrow : ∀ (k : IntKind) (b o' : Nat) (n : Int) (cells l : List AV) (s : List UInt8) (pre cs post : List Value) (cfz : Nat × Nat), w.heap[θ.blk b]? = some (.cells (pre ++ cs ++ post).toArray u cfz) → pre.length = θ.off b →
      VRL D θ cells cs → 0 < n → n ≤ 140737488355328 → takeAt cells o' n.toNat = some l → bytesOf l = some s →
      (Builtin.unsafeString_ c.argTypes o.type #[.pointer (some ⟨θ.blk b, θ.off b + o', none⟩), .int k n]).run P w =
        .ok (.string ⟨s.toArray⟩) (wset w (θ.blk b) (.cells (pre ++ cs ++ post).toArray u (if cfz.1 == cfz.2 then (θ.off b + o', θ.off b + o' + n.toNat) else (min cfz.1 (θ.off b + o'), max cfz.2 (θ.off b + o' + n.toNat))))) := by
    intro k b o' n cells l s pre cs post cfz hcell hpre hcs hn0 hnb hl hs'
    rw [takeAt_eq] at hl
    split at hl
    · rename_i hle
      injection hl with hl; subst hl
      obtain ⟨ns, e1, e2⟩ := bytesOf_conc _ _ s ((hcs.drop o').take n.toNat) hs'
      have hcl := hcs.length
      have hnl : ns.length = n.toNat := by
        have := congrArg List.length e1
        simp at this; omega
      have hks : ∀ j x, ns[j]? = some x → w.cell? ((⟨θ.blk b, θ.off b + o', none⟩ : Addr).add j) = some (.int .u8 x) := by
        intro j x hj
        rw [addr_add, cell_of hcell, ← hpre, Nat.add_assoc]
        apply mid_get
        have hjl : j < ns.length := (List.getElem?_eq_some_iff.1 hj).1
        have := congrArg (fun l => l[j]?) e1
        simp only [List.getElem?_take, List.getElem?_drop, List.getElem?_map, hj, Option.map_some] at this
        rw [if_pos (by omega)] at this
        exact this
      have hk : (Builtin.unsafeString_ c.argTypes o.type #[.pointer (some ⟨θ.blk b, θ.off b + o', none⟩), .int k n]) = (Builtin.unsafeString_ c.argTypes o.type #[.pointer (some ⟨θ.blk b, θ.off b + o', none⟩), .int .i64 n]) := by
        rfl
      have hr := run_unsafeString_at (P := P) (w := w) (ty := o.type) ht hu hco (off := θ.off b + o') (run_shape_cells hcell) ns (by intro q; subst q; simp at hnl; omega) (by simp; omega) (by omega) hks
      rw [hk, show n = (ns.length : Int) from by omega, hr, freeze_eq hcell (by omega), e2]
      rw [show ((ns.length : Int)).toNat = ns.length from rfl]
    · cases hl
  unfold Op.strOfPtr at hv
  split at hv
  · rename_i k n
    obtain ⟨x, y, rfl, ha, hb⟩ := h.len2
    cases hz : eqI n 0 with
    | false => rw [hz] at hv; cases hv
    | true =>
      rw [hz] at hv
      simp only [eqI_eq, beq_iff_eq] at hz; subst hz
      simp only [cond_true, Option.some.injEq, Prod.mk.injEq] at hv
      obtain ⟨rfl, rfl⟩ := hv
      refine ⟨θ, w, _, .inl ?_, by rw [Up.none]; exact hh, .refl _ _ _ _, .str _⟩
      rw [hE, args_of hx]
      simp only [List.map_cons, List.map_nil, ← ha.now, ← hb.now, conc, builtin, Sem.run_bind, hzero, Result.andThen_ok, Sem.run_pure]
  · rename_i b o' k n
    obtain ⟨x, y, rfl, ha, hb⟩ := h.len2
    cases hz : eqI n 0 with
    | true =>
      rw [hz] at hv
      simp only [eqI_eq, beq_iff_eq] at hz; subst hz
      simp only [cond_true, Option.some.injEq, Prod.mk.injEq] at hv
      obtain ⟨rfl, rfl⟩ := hv
      refine ⟨θ, w, _, .inl ?_, by rw [Up.none]; exact hh, .refl _ _ _ _, .str _⟩
      rw [hE, args_of hx]
      simp only [List.map_cons, List.map_nil, ← ha.now, ← hb.now, conc, builtin, Sem.run_bind, hzero, Result.andThen_ok, Sem.run_pure]
    | false =>
      rw [hz] at hv
      have hn0 : n ≠ 0 := by intro q; subst q; simp [eqI_eq] at hz
      simp only [cond_false] at hv
      cases hlt : (ltI n 0 || ltI 140737488355328 n) with
      | true => rw [hlt] at hv; cases hv
      | false =>
        rw [hlt] at hv
        simp only [Bool.or_eq_false_iff, ltI_eq, decide_eq_false_iff_not] at hlt
        simp only [cond_false] at hv
        split at hv
        · rename_i cells e fz hg
          cases heu : Nat.beq e u with
          | false => rw [heu] at hv; cases hv
          | true =>
            rw [heu] at hv
            simp only [Nat.beq_eq] at heu; subst heu
            simp only [cond_true, Option.bind_eq_some_iff, Option.some.injEq, Prod.mk.injEq] at hv
            obtain ⟨l, hl, s, hs', rfl, rfl⟩ := hv
            obtain ⟨hd, co, hcc, pre, cs, post, cfz, et, rfl, r2, r3, r4⟩ := hh.obj b _ hg
            obtain ⟨rfl, rfl, rfl, r5⟩ := r4 rfl
            have hoff : θ.off b = 0 := by simpa using r2.symm
            have hr := hrow k b o' n cells l s [] cs [] cfz hcc r2 r3 (by omega) (by omega) hl hs'
            have r6 := r5.join o' n.toNat (by omega)
            rw [hoff, Nat.zero_add] at hr
            refine ⟨θ, _, _, .inl ?_, by rw [show (H.set b (.row cells et (Op.fzJoin fz o' n.toNat) true)).next = H.next from rfl, Up.none]; exact hh.set hg rfl rfl ⟨[], cs, [], _, _, rfl, r2, r3, fun _ => ⟨rfl, rfl, rfl, r6⟩⟩, Grow.set hg rfl (hh.lt hg), .str _⟩
            rw [hE, args_of hx]
            have := hr
            simp only [List.map_cons, List.map_nil, ← ha.now, ← hb.now, conc, builtin, Sem.run_bind, hoff, Nat.zero_add, hr, Result.andThen_ok, Sem.run_pure]
        · rename_i m z cells e fz hg
          cases heu : (Nat.beq e u && Nat.ble fz.1 fz.2) with
          | false => rw [heu] at hv; cases hv
          | true =>
            rw [heu] at hv
            simp only [Bool.and_eq_true, Nat.beq_eq, Nat.ble_eq] at heu
            obtain ⟨rfl, hft⟩ := heu
            simp only [cond_true, Option.bind_eq_some_iff, Option.some.injEq, Prod.mk.injEq] at hv
            obtain ⟨l, hl, s, hs', rfl, rfl⟩ := hv
            obtain ⟨hd, co, hcc, pre, cs, post, cfz, rfl, r2, r3, r4, r5, r6, r7, r8⟩ := hh.obj b _ hg
            have hr := hrow k b o' n cells l s pre cs post cfz hcc r2 r3 (by omega) (by omega) hl hs'
            have r9 := r8.join hft o' n.toNat (by omega)
            refine ⟨θ, _, _, .inl ?_, by rw [show (H.set b (.grown m z cells e (Op.fzJoin fz o' n.toNat))).next = H.next from rfl, Up.none]; exact hh.set hg rfl rfl ⟨pre, cs, post, _, rfl, r2, r3, r4, r5, r6, r7, r9⟩, Grow.set hg rfl (hh.lt hg), .str _⟩
            rw [hE, args_of hx]
            simp only [List.map_cons, List.map_nil, ← ha.now, ← hb.now, conc, builtin, Sem.run_bind, hr, Result.andThen_ok, Sem.run_pure]
        · cases hv
  · cases hv
end
end Go.Am
