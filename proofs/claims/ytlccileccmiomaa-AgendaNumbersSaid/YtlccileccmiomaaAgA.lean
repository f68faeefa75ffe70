/- The agenda's inner functions: before, and the heap's five methods over a pile. Conditions: as each theorem states them. -/
import Derived.Test.YtlccileccmiomaaBase
import Derived.Test.YtlccileccmiomaaHeap
import Derived.Test.YtlccileccmiomaaProg
import Derived.KernelRfl
import Derived.Deep.QuietTactic
import Derived.BigQuiet
import Derived.BigRegion
import Derived.RegionTactic
import Derived.StillTailTactics
import Derived.Laws.StructEq
import Derived.Deep.RegionLaw
import Derived.Deep.AppendLies
import Derived.WalkSpells
import Derived.WalkLawsBesides
namespace Go.Proofs.Ytlccileccmiomaa
open Go.RowKit
set_option linter.unusedVariables false
set_option linter.unusedSimpArgs false

def Ent.cells (e : Ent) : List Value := [.int .i64 e.tm, .int .i64 e.ord, .int .i64 e.wh]
def Ent.val (e : Ent) : Value := .agg #[.int .i64 e.tm, .int .i64 e.ord, .int .i64 e.wh]
theorem ent_eql (a b : Ent) (w : World) : (binOp .eql 49 (.agg #[.int .i64 a.tm, .int .i64 a.ord, .int .i64 a.wh]) (.agg #[.int .i64 b.tm, .int .i64 b.ord, .int .i64 b.wh])).run Try.prog w = .ok (.bool (decide (a = b))) w := by
  have u3 := Try.underlying3
  have a3 := Try.isAgg3
  have z3 := Try.sizeOf3
  have hS : Try.prog.underlying 49 = some (.struct (Try.prog.fieldsOf 49)) := by kernel_rfl
  have hp : Try.prog.stoodInHeld 49 = false := by kernel_rfl
  rw [run_eql_struct, show (10000 : Nat) = 9999 + 1 from rfl, run_equalIn_agg w 9999 49 _ _ hS hp]
  simp only [Program.fieldsOf, Try.underlying49]
  go_simp
  obtain ⟨a1, a2, a3⟩ := a
  obtain ⟨b1, b2, b3⟩ := b
  by_cases h1 : a1 = b1 <;> by_cases h2 : a2 = b2 <;> by_cases h3 : a3 = b3 <;> simp [h1, h2, h3]

/-- 'before': two boxes, nothing else. -/
theorem before_any (a b : Ent) (w : World) :
    Calls Try.prog 27 #[.agg #[.int .i64 a.tm, .int .i64 a.ord, .int .i64 a.wh], .agg #[.int .i64 b.tm, .int .i64 b.ord, .int .i64 b.wh]] w
      fun e w' => e = .returned (.int .i64 (cmpE a b)) ∧ ∃ n, w' = ((w.alloc (.cells a.cells.toArray 49)).alloc (.cells b.cells.toArray 49)).drewN n := by
  have heq := fun w => ent_eql a b w
  unfold cmpE
  by_cases h1 : a.tm < b.tm
  · rw [if_pos (.inl h1)]
    go_enter Try.func27, Try.ntmps27
    go_wp2
    go_ret
    exact ⟨rfl, 0, rfl⟩
  · by_cases h2 : a.tm = b.tm ∧ a.ord < b.ord
    · have h2a : (a.tm == b.tm) = true := beq_iff_eq.2 h2.1
      have h2b := h2.2
      rw [if_pos (.inr h2)]
      clear h2
      go_enter Try.func27, Try.ntmps27
      go_wp2
      go_ret
      exact ⟨rfl, 0, rfl⟩
    · rw [if_neg (fun h => h.elim h1 h2)]
      have hcase : ((a.tm == b.tm) = true ∧ ¬ a.ord < b.ord) ∨ (a.tm == b.tm) = false := by
        by_cases e : a.tm = b.tm
        · exact .inl ⟨beq_iff_eq.2 e, fun h => h2 ⟨e, h⟩⟩
        · exact .inr (beq_eq_false_iff_ne.2 e)
      clear h2
      rcases hcase with ⟨g1, g2⟩ | g1
      all_goals
        by_cases e : a = b
        · rw [if_pos e]
          have ed : decide (a = b) = true := decide_eq_true e
          clear e
          go_enter Try.func27, Try.ntmps27
          go_wp2
          go_ret
          exact ⟨rfl, 0, rfl⟩
        · rw [if_neg e]
          have ed : decide (a = b) = false := decide_eq_false e
          clear e
          go_enter Try.func27, Try.ntmps27
          go_wp2
          go_ret
          exact ⟨rfl, 0, rfl⟩

/-! ### Entries in a row -/
def cellsOf (l : List Ent) : List Value := l.flatMap Ent.cells
theorem cellsOf_length (l : List Ent) : (cellsOf l).length = l.length * 3 := by
  induction l with
  | nil => rfl
  | cons x l ih => simp only [cellsOf, List.flatMap_cons, List.length_append] at ih ⊢; rw [ih]; simp [Ent.cells]; omega
theorem cellsOf_cons (x : Ent) (l : List Ent) : cellsOf (x :: l) = x.cells ++ cellsOf l := rfl
theorem cellsOf_append (l m : List Ent) : cellsOf (l ++ m) = cellsOf l ++ cellsOf m := by simp [cellsOf]
theorem cellsOf_at (l : List Ent) : ∀ (i : Nat) (hi : i < l.length), (cellsOf l)[i * 3]? = some (.int .i64 l[i].tm) ∧ (cellsOf l)[i * 3 + 1]? = some (.int .i64 l[i].ord) ∧ (cellsOf l)[i * 3 + 2]? = some (.int .i64 l[i].wh) := by
  induction l with
  | nil => intro i hi; exact absurd hi (Nat.not_lt_zero _)
  | cons x l ih =>
    intro i hi
    cases i with
    | zero => exact ⟨rfl, rfl, rfl⟩
    | succ i =>
      have h := ih i (by simpa using hi)
      rw [cellsOf_cons]
      have e : ∀ j, (x.cells ++ cellsOf l)[(i + 1) * 3 + j]? = (cellsOf l)[i * 3 + j]? := by
        intro j
        rw [List.getElem?_append_right (by simp [Ent.cells]; omega)]
        congr 1
        simp [Ent.cells]; omega
      exact ⟨(e 0).trans h.1, (e 1).trans h.2.1, (e 2).trans h.2.2⟩
theorem cellsOf_set (l : List Ent) : ∀ (i : Nat) (x : Ent), i < l.length → cellsOf (l.set i x) = (((cellsOf l).set (i * 3) (.int .i64 x.tm)).set (i * 3 + 1) (.int .i64 x.ord)).set (i * 3 + 2) (.int .i64 x.wh) := by
  induction l with
  | nil => intro i x hi; exact absurd hi (Nat.not_lt_zero _)
  | cons y l ih =>
    intro i x hi
    cases i with
    | zero => rfl
    | succ i =>
      have h := ih i x (by simpa using hi)
      rw [List.set_cons_succ, cellsOf_cons, cellsOf_cons, h]
      have e : ∀ (m : List Value) (j : Nat) (v : Value), (y.cells ++ m).set ((i + 1) * 3 + j) v = y.cells ++ m.set (i * 3 + j) v := by
        intro m j v
        rw [List.set_append_right _ _ (by simp [Ent.cells]; omega)]
        congr 2
        simp [Ent.cells]; omega
      have e0 := fun m v => e m 0 v
      simp only [Nat.add_zero] at e0
      rw [e0, e, e]

/-- The block of a pile: its entries, and what room there is. -/
structure PileAt (w : World) (g cap : Nat) (l : List Ent) (rest : List Value) : Prop where
  blk : Blk w g 49 (cellsOf l ++ rest)
  le : l.length ≤ cap
  max : cap ≤ maxLen
  len : l.length * 3 + rest.length = cap * 3
namespace PileAt
variable {w w1 : World} {g cap : Nat} {l : List Ent} {rest : List Value} {S : Nat → Prop}
theorem chg (h : PileAt w g cap l rest) (hc : Chg w w1 S) (hn : ¬ S g) : PileAt w1 g cap l rest := ⟨h.blk.chg hc hn, h.le, h.max, h.len⟩
theorem below (h : PileAt w g cap l rest) (hc : Below w.heap.size w w1) : PileAt w1 g cap l rest := ⟨h.blk.below hc, h.le, h.max, h.len⟩
theorem alloc (h : PileAt w g cap l rest) (o : Obj) : PileAt (w.alloc o) g cap l rest := ⟨h.blk.alloc o, h.le, h.max, h.len⟩
theorem setOther (h : PileAt w g cap l rest) (p : Addr) (v : Value) (hp : g ≠ p.block) : PileAt (w.setCell p v) g cap l rest := ⟨h.blk.setOther p v hp, h.le, h.max, h.len⟩
theorem drop {x : Ent} (h : PileAt w g cap (l ++ [x]) rest) : PileAt w g cap l (x.cells ++ rest) := by
  obtain ⟨hb, h1, h2, h3⟩ := h
  rw [List.length_append, List.length_singleton] at h1 h3
  refine ⟨?_, by omega, h2, by simp [Ent.cells]; omega⟩
  rw [cellsOf_append] at hb
  simpa [cellsOf] using hb
theorem drew (h : PileAt w g cap l rest) : PileAt w.drew g cap l rest := ⟨h.blk, h.le, h.max, h.len⟩
theorem drewN (h : PileAt w g cap l rest) (n : Nat) : PileAt (w.drewN n) g cap l rest := ⟨h.blk, h.le, h.max, h.len⟩
theorem cells (h : PileAt w g cap l rest) (i : Nat) (hi : i < l.length) : w.cell? ⟨g, i * 3, none⟩ = some (.int .i64 l[i].tm) ∧ w.cell? ⟨g, i * 3 + 1, none⟩ = some (.int .i64 l[i].ord) ∧ w.cell? ⟨g, i * 3 + 2, none⟩ = some (.int .i64 l[i].wh) := by
  obtain ⟨h0, h1, h2⟩ := cellsOf_at l i hi
  have hl := cellsOf_length l
  refine ⟨h.blk.cell _ _ ?_, h.blk.cell _ _ ?_, h.blk.cell _ _ ?_⟩ <;> rw [List.getElem?_append_left (by omega)] <;> assumption
theorem free (h : PileAt w g cap l rest) (j : Nat) : w.frozen? ⟨g, j, none⟩ = false := h.blk.free j
/-- An entry is stored. -/
theorem set (h : PileAt w g cap l rest) (i : Nat) (x : Ent) (hi : i < l.length) :
    PileAt (((w.setCell ⟨g, i * 3, none⟩ (.int .i64 x.tm)).setCell ⟨g, i * 3 + 1, none⟩ (.int .i64 x.ord)).setCell ⟨g, i * 3 + 2, none⟩ (.int .i64 x.wh)) g cap (l.set i x) rest := by
  have hl := cellsOf_length l
  refine ⟨?_, by rw [List.length_set]; exact h.le, h.max, by rw [List.length_set]; exact h.len⟩
  have b := ((h.blk.set (i * 3) (.int .i64 x.tm) (by rw [List.length_append]; omega)).set (i * 3 + 1) (.int .i64 x.ord) (by rw [List.length_set, List.length_append]; omega)).set (i * 3 + 2) (.int .i64 x.wh) (by rw [List.length_set, List.length_set, List.length_append]; omega)
  rw [cellsOf_set l i x hi]
  rw [List.set_append_left _ _ (by omega), List.set_append_left _ _ (by rw [List.length_set]; omega), List.set_append_left _ _ (by rw [List.length_set, List.length_set]; omega)] at b
  exact b
end PileAt

theorem len_any (A : Option Addr) (n c : Nat) (w : World) : Calls Try.prog 70 #[.slice A n c] w fun e w' => e = .returned (.int .i64 n) ∧ w = w' := by
  go_enter Try.func70, Try.ntmps70
  go_wp2
  go_ret
  exact ⟨rfl, rfl⟩

theorem less_any (g cap : Nat) (l : List Ent) (rest : List Value) (i j : Nat) (hi : i < l.length) (hj : j < l.length) (w : World) (h : PileAt w g cap l rest) :
    Calls Try.prog 71 #[.slice (some ⟨g, 0, none⟩) l.length cap, .int .i64 i, .int .i64 j] w fun e w' => e = .returned (.bool (decide (cmpE l[i] l[j] < 0))) ∧ Below w.heap.size w w' := by
  obtain ⟨p0, p1, p2⟩ := h.cells i hi
  obtain ⟨q0, q1, q2⟩ := h.cells j hj
  have HI := Lib.hid h
  clear h
  have hi' : (i : Int) < (l.length : Int) := by omega
  have hj' : (j : Int) < (l.length : Int) := by omega
  generalize hx : l[i] = x at *
  generalize hy : l[j] = y at *
  go_enter Try.func71, Try.ntmps71
  go_wp2
  go_still_tail 8, (by kernel_rfl)
  go_wp2_with (go_at_call 27; refine (before_any x y _).mono ?_; rintro e w' ⟨rfl, n, rfl⟩)
  go_ret
  refine ⟨rfl, ?_⟩
  exact below_drewN (((Below.refl w.heap.size w).alloc (Nat.le_refl _) _).alloc (by simp) _) _

def swapL (l : List Ent) (i j : Nat) (hi : i < l.length) (hj : j < l.length) : List Ent := (l.set i l[j]).set j l[i]
theorem swapL_length (l : List Ent) (i j : Nat) (hi : i < l.length) (hj : j < l.length) : (swapL l i j hi hj).length = l.length := by simp [swapL]

theorem swap_ne (g cap : Nat) (l : List Ent) (rest : List Value) (i j : Nat) (hi : i < l.length) (hj : j < l.length) (hne : i ≠ j) (w : World) (h : PileAt w g cap l rest) :
    Calls Try.prog 72 #[.slice (some ⟨g, 0, none⟩) l.length cap, .int .i64 i, .int .i64 j] w fun e w' => e = .returned (.tuple #[]) ∧ PileAt w' g cap (swapL l i j hi hj) rest ∧ Chg w w' (fun k => k = g) := by
  obtain ⟨p0, p1, p2⟩ := h.cells i hi
  obtain ⟨q0, q1, q2⟩ := h.cells j hj
  have hf := h.free
  have HI := Lib.hid h
  clear h
  have hi' : (i : Int) < (l.length : Int) := by omega
  have hj' : (j : Int) < (l.length : Int) := by omega
  generalize hx : l[i] = x at *
  generalize hy : l[j] = y at *
  go_enter Try.func72, Try.ntmps72
  go_wp2
  go_region
  go_wp2
  go_end0
  refine ⟨rfl, ?_, by repeat (first | (with_reducible exact Chg.refl _ _) | (with_reducible refine Chg.drew ?_) | (with_reducible refine Chg.setCell ?_ _ _ ?_) | exact fun _ => rfl)⟩
  have h2 := ((HI.out.set i y hi).set j x (by rw [List.length_set]; exact hj))
  unfold swapL
  rw [hx, hy]
  with_reducible exact h2.drew

theorem swap_eq (g cap : Nat) (l : List Ent) (rest : List Value) (i : Nat) (hi : i < l.length) (w : World) (h : PileAt w g cap l rest) :
    Calls Try.prog 72 #[.slice (some ⟨g, 0, none⟩) l.length cap, .int .i64 i, .int .i64 i] w fun e w' => e = .returned (.tuple #[]) ∧ PileAt w' g cap (swapL l i i hi hi) rest ∧ Chg w w' (fun k => k = g) := by
  obtain ⟨p0, p1, p2⟩ := h.cells i hi
  have hf := h.free
  have HI := Lib.hid h
  clear h
  have hi' : (i : Int) < (l.length : Int) := by omega
  generalize hx : l[i] = x at *
  go_enter Try.func72, Try.ntmps72
  go_wp2
  go_region
  go_wp2
  go_end0
  refine ⟨rfl, ?_, by repeat (first | (with_reducible exact Chg.refl _ _) | (with_reducible refine Chg.drew ?_) | (with_reducible refine Chg.setCell ?_ _ _ ?_) | exact fun _ => rfl)⟩
  have h2 := ((HI.out.set i x hi).set i x (by rw [List.length_set]; exact hi))
  unfold swapL
  rw [hx]
  with_reducible exact h2.drew

theorem swap_any (g cap : Nat) (l : List Ent) (rest : List Value) (i j : Nat) (hi : i < l.length) (hj : j < l.length) (w : World) (h : PileAt w g cap l rest) :
    Calls Try.prog 72 #[.slice (some ⟨g, 0, none⟩) l.length cap, .int .i64 i, .int .i64 j] w fun e w' => e = .returned (.tuple #[]) ∧ PileAt w' g cap (swapL l i j hi hj) rest ∧ Chg w w' (fun k => k = g) := by
  by_cases e : i = j
  · subst e; exact swap_eq g cap l rest i hi w h
  · exact swap_ne g cap l rest i j hi hj e w h

/-! ### Push, Pop: through the pointer to the pile (the first field of block b) -/
theorem pop_any (b g cap : Nat) (l : List Ent) (x : Ent) (rest : List Value) (o : Value) (w : World) (hb : Blk w b 45 [.slice (some ⟨g, 0, none⟩) (l.length + 1) cap, o]) (h : PileAt w g cap (l ++ [x]) rest) (hbg : b ≠ g) :
    Calls Try.prog 73 #[.pointer (some ⟨b, 0, none⟩)] w fun e w' => e = .returned (.iface 49 (.agg #[.int .i64 x.tm, .int .i64 x.ord, .int .i64 x.wh])) ∧ Blk w' b 45 [.slice (some ⟨g, 0, none⟩) l.length cap, o] ∧ PileAt w' g cap l (x.cells ++ rest) ∧ Chg w w' (fun k => k = b) := by
  obtain ⟨p0, p1, p2⟩ := h.cells l.length (by simp)
  have hc := hb.cell 0 _ rfl
  have hf := hb.free
  have HI := Lib.hid h
  have HB := Lib.hid hb
  clear h hb
  have e : (l ++ [x])[l.length] = x := by simp
  rw [e] at p0 p1 p2
  clear e
  have hl1 := HI.out.le
  have hbl := HB.out.lt
  have hl2 := HI.out.max
  rw [List.length_append, List.length_singleton] at hl1
  unfold maxLen at hl2
  go_enter Try.func73, Try.ntmps73
  go_wp2
  go_ret
  refine ⟨rfl, (HB.out.set 0 _ (by simp)).alloc _, ?_, ?_⟩
  · exact (HI.out.drop.setOther ⟨b, 0, none⟩ _ (fun e => hbg e.symm)).alloc _
  · exact (((Chg.refl w (fun k => k = b)).setCell ⟨b, 0, none⟩ _ (fun _ => rfl)).alloc _)

theorem info_entry : (Try.prog.info? 49).map (fun i => (i.zero, i.size, i.bytes)) = some (some (.agg #[.int .i64 0, .int .i64 0, .int .i64 0]), 3, 24) := by kernel_rfl

theorem run_assert (x y z : Value) (w : World) : (Instr.typeAssert (.iface 49 (.agg #[x, y, z])) 20 49 false).run Try.prog w = .ok (.agg #[x, y, z]) w := by kernel_rfl
/-- Push into a pile that has a block. -/
theorem push_any (b : Nat) (v : Value) (l : List Ent) (x : Ent) (o : Value) (base : Nat) (w0 w : World) (hb : Blk w b 45 [v, o]) (hv : w.ownsRow base 49 3 v l.length (cellsOf l)) (hbb : base ≤ b) (hvb : v.ownBlock ≠ some b) (hl : l.length < 1000000000000) :
    Calls Try.prog 74 #[.pointer (some ⟨b, 0, none⟩), .iface 49 (.agg #[.int .i64 x.tm, .int .i64 x.ord, .int .i64 x.wh])] w fun e w' => e = .returned (.tuple #[]) ∧ ∃ v', Blk w' b 45 [v', o] ∧ w'.ownsRow base 49 3 v' (l.length + 1) (cellsOf (l ++ [x])) ∧ (v'.ownBlock = v.ownBlock ∨ ∃ k, v'.ownBlock = some k ∧ w.heap.size ≤ k) ∧ Chg w w' (fun k => k = b ∨ some k = v.ownBlock) := by
  have hc := hb.cell 0 _ rfl
  have hf := hb.free
  have hbl := hb.lt
  have HV := Lib.hid hv
  have HB := Lib.hid hb
  clear hv hb
  go_enter Try.func74, Try.ntmps74
  go_wp2
  obtain ⟨i0, hi, hz0, hz1, hz2⟩ := info_parts info_entry
  have hta := run_assert
  go_region_law (refine step_append_lies _ rfl _ _ 43 rfl base 49 i0 (.agg #[.int .i64 0, .int .i64 0, .int .i64 0]) 3 24 Try.underlying43 hi hz0 hz1 hz2 rfl (by decide) v l.length (cellsOf l) rfl (World.ownsRow.alloc (w := w.drew) HV.out _) ⟨w.heap.size, 0, none⟩ 1 1 x.cells rfl rfl (World.news_of_block (blk_new w.drew _)) (by simp [Ent.cells, Value.oneCell']) (by decide) (by unfold maxLen; omega) (by omega) (by simp; omega) _ rfl ?_; intro g cap w1 hown hgrow hat hlt; have HB1 := Lib.hid (Blk.grown (Blk.alloc (w := w.drew) HB.out _) hgrow (fun e => hvb e.symm)); have hc1 := HB1.out.cell 0 _ rfl; have hf1 := HB1.out.free)
  all_goals go_wp2
  all_goals go_end0
  all_goals
    have hgb : some g ≠ some b := by
      rcases hat with hat | hat
      · rw [← hat]; exact hvb
      · intro e; injection e with e; rw [hat] at e; simp at e; omega
    refine ⟨rfl, _, HB1.out.set 0 _ (by simp), ?_, ?_, ?_⟩
    · rw [show cellsOf (l ++ [x]) = cellsOf l ++ x.cells from by simp [cellsOf]]
      exact ownsRow_set hown ⟨b, 0, none⟩ _ hgb
    · rcases hat with hat | hat
      · exact .inl hat.symm
      · exact .inr ⟨g, rfl, by rw [hat]; simp⟩
    · have h1 : Chg w (w.alloc (.cells #[.int .i64 x.tm, .int .i64 x.ord, .int .i64 x.wh] 49)).drew (fun k => k = b ∨ some k = v.ownBlock) := ((Chg.refl w _).alloc _).drew
      exact (h1.trans (Chg.of_grown hgrow) (fun i _ h => .inr h)).setCell ⟨b, 0, none⟩ _ (fun _ => .inl rfl)
end Go.Proofs.Ytlccileccmiomaa
