/- A feeder in memory. A new feeder. Conditions: as each theorem states them. -/
import Derived.Test.YtlkgeifmppadmaaGreatKg
import Derived.Test.YtlkgeifmppadmaaGreatKi
import Derived.Test.YtlkgeifmppadmaaGreatKe
import Derived.Laws.MakeOwn
namespace Go.Proofs.YtlkgeifmppadmaaGreat
open Go.RowKit
set_option linter.unusedVariables false
set_option linter.unusedSimpArgs false

/-- What is thought of a witness. -/
structure WtD where
  size : Int
  tries : Int
  kept : Bool
def WtD.cells (x : WtD) : List Value := [.int .i64 x.size, .int .i64 x.tries, .bool x.kept]
def cellsW (l : List WtD) : List Value := l.flatMap WtD.cells
theorem cellsW_length (l : List WtD) : (cellsW l).length = l.length * 3 := by
  induction l with
  | nil => rfl
  | cons x l ih => simp only [cellsW, List.flatMap_cons, List.length_append] at ih ⊢; rw [ih]; simp [WtD.cells]; omega
theorem cellsW_cons (x : WtD) (l : List WtD) : cellsW (x :: l) = x.cells ++ cellsW l := rfl
theorem cellsW_at (l : List WtD) : ∀ (i : Nat) (hi : i < l.length), (cellsW l)[i * 3]? = some (.int .i64 l[i].size) ∧ (cellsW l)[i * 3 + 1]? = some (.int .i64 l[i].tries) ∧ (cellsW l)[i * 3 + 2]? = some (.bool l[i].kept) := by
  induction l with
  | nil => intro i hi; exact absurd hi (Nat.not_lt_zero _)
  | cons x l ih =>
    intro i hi
    cases i with
    | zero => exact ⟨rfl, rfl, rfl⟩
    | succ i =>
      have h := ih i (by simpa using hi)
      rw [cellsW_cons]
      have e : ∀ j, (x.cells ++ cellsW l)[(i + 1) * 3 + j]? = (cellsW l)[i * 3 + j]? := by
        intro j
        rw [List.getElem?_append_right (by simp [WtD.cells]; omega)]
        congr 1
        simp [WtD.cells]; omega
      exact ⟨(e 0).trans h.1, (e 1).trans h.2.1, (e 2).trans h.2.2⟩
theorem cellsW_set (l : List WtD) : ∀ (i : Nat) (x : WtD), i < l.length → cellsW (l.set i x) = (((cellsW l).set (i * 3) (.int .i64 x.size)).set (i * 3 + 1) (.int .i64 x.tries)).set (i * 3 + 2) (.bool x.kept) := by
  induction l with
  | nil => intro i x hi; exact absurd hi (Nat.not_lt_zero _)
  | cons y l ih =>
    intro i x hi
    cases i with
    | zero => rfl
    | succ i =>
      have h := ih i x (by simpa using hi)
      rw [List.set_cons_succ, cellsW_cons, cellsW_cons, h]
      have e : ∀ (m : List Value) (j : Nat) (v : Value), (y.cells ++ m).set ((i + 1) * 3 + j) v = y.cells ++ m.set (i * 3 + j) v := by
        intro m j v
        rw [List.set_append_right _ _ (by simp [WtD.cells]; omega)]
        congr 2
        simp [WtD.cells]; omega
      have e0 : ∀ (m : List Value) (v : Value), (y.cells ++ m).set ((i + 1) * 3) v = y.cells ++ m.set (i * 3) v := fun m v => e m 0 v
      rw [e0, e, e]
/-- The cells of cosignatures, their texts in blocks of D. -/
def CgRow (D : Nat → Prop) (w : World) (us : List Value) (ls : List CgD) : Prop :=
  us.length = ls.length * 4 ∧ ∀ i (h : i < ls.length), ∃ p q, us[i * 4]? = some (.int .i64 ls[i].wit) ∧ us[i * 4 + 1]? = some (.int .i64 ls[i].sig.index) ∧ us[i * 4 + 2]? = some p ∧ us[i * 4 + 3]? = some q ∧ RwsF D w p ls[i].sig.parts ∧ RwsF D w q ls[i].sig.path
theorem CgRow.nil (D : Nat → Prop) (w : World) : CgRow D w [] [] := ⟨rfl, fun i h => absurd h (Nat.not_lt_zero _)⟩
theorem CgRow.chg {S T : Nat → Prop} {w w1 : World} {us : List Value} {ls : List CgD} (h : CgRow S w us ls) (hc : Chg w w1 T) (hS : ∀ g, S g → ¬ T g) : CgRow S w1 us ls :=
  ⟨h.1, fun i hi => by obtain ⟨p, q, h1, h2, h3, h4, h5, h6⟩ := h.2 i hi; exact ⟨p, q, h1, h2, h3, h4, h5.chg hc hS, h6.chg hc hS⟩⟩
theorem CgRow.mono {S T : Nat → Prop} {w : World} {us : List Value} {ls : List CgD} (h : CgRow S w us ls) (hS : ∀ g, S g → T g) : CgRow T w us ls :=
  ⟨h.1, fun i hi => by obtain ⟨p, q, h1, h2, h3, h4, h5, h6⟩ := h.2 i hi; exact ⟨p, q, h1, h2, h3, h4, h5.mono hS, h6.mono hS⟩⟩
theorem Sho.cut {D : Nat → Prop} {w : World} {v : Value} {n k : Nat} {cs : List Value} (h : Sho w v n k cs) (hf : 0 < n → ∀ g, v.ownBlock = some g → D g) : 0 < n → ∀ g, v.ownBlock = some g → D g ∧ g < w.heap.size := fun h0 g hg => ⟨hf h0 g hg, h.lt h0 g hg⟩
theorem BysF.cut {D : Nat → Prop} {w : World} {v : Value} {l : List UInt8} (h : BysF D w v l) : BysF (fun g => D g ∧ g < w.heap.size) w v l := ⟨h.1, Sho.cut h.1 h.2⟩
theorem RwsF.cut {D : Nat → Prop} {w : World} {v : Value} {ls : List (List UInt8)} (h : RwsF D w v ls) : RwsF (fun g => D g ∧ g < w.heap.size) w v ls := by
  obtain ⟨us, h1, hf, h2⟩ := h
  exact ⟨us, h1, Sho.cut h1 hf, fun i hi => by obtain ⟨u, e, hu, hn⟩ := h2 i hi; exact ⟨u, e, hu, Sho.cut hu hn⟩⟩
theorem CgRow.cut {D : Nat → Prop} {w : World} {us : List Value} {ls : List CgD} (h : CgRow D w us ls) : CgRow (fun g => D g ∧ g < w.heap.size) w us ls :=
  ⟨h.1, fun i hi => by obtain ⟨p, q, h1, h2, h3, h4, h5, h6⟩ := h.2 i hi; exact ⟨p, q, h1, h2, h3, h4, h5.cut, h6.cut⟩⟩

/-- A feeder. -/
structure FdD where
  p : PolD
  retry : Int
  m : List Ent
  ord : Int
  l : List WtD
  cur : SgD
  has : Bool
  kept : List CgD
  done : SgD
  enough : List CgD
/-- Where its parts lie. -/
structure FdR where
  base : Nat
  kb : Nat
  lb : Nat
  ab : Nat
  av : Value
  kv : Value
  ev : Value
  pl : Value
  pw : Value
  cr : Value
  cp : Value
  cq : Value
  dr : Value
  dp : Value
  dq : Value
/-- The blocks that a feeder turns. -/
def FdM (f : Nat) (r : FdR) (k : Nat) : Prop := k = f ∨ k = r.lb ∨ r.kv.ownBlock = some k ∨ Foot r.ab r.av k
def fdCells (d : FdD) (r : FdR) : List Value := [r.pl, r.pw, .int .i64 d.p.quorum, .int .i64 d.retry, .pointer (some ⟨r.ab, 0, none⟩), .slice (some ⟨r.lb, 0, none⟩) d.l.length d.l.length, .int .i64 d.cur.ck.num, r.cr, .int .i64 d.cur.sig.index, r.cp, r.cq, .bool d.has, r.kv, .int .i64 d.done.ck.num, r.dr, .int .i64 d.done.sig.index, r.dp, r.dq, r.ev]
def FdDat (Z : Nat → Prop) (f : Nat) (r : FdR) (g : Nat) : Prop := Z g ∧ ¬ FdM f r g
/-- The texts of a feeder, in blocks of D. -/
structure FdT (D : Nat → Prop) (w : World) (d : FdD) (r : FdR) (us es : List Value) : Prop where
  pl : BysF D w r.pl d.p.log
  pw : RwsF D w r.pw d.p.wits
  cr : BysF D w r.cr d.cur.ck.root
  cp : RwsF D w r.cp d.cur.sig.parts
  cq : RwsF D w r.cq d.cur.sig.path
  dr : BysF D w r.dr d.done.ck.root
  dp : RwsF D w r.dp d.done.sig.parts
  dq : RwsF D w r.dq d.done.sig.path
  kd : CgRow D w us d.kept
  en : Sho w r.ev d.enough.length 4 es
  ef : 0 < d.enough.length → ∀ g, r.ev.ownBlock = some g → D g
  ed : CgRow D w es d.enough
theorem FdT.chg {S T : Nat → Prop} {w w1 : World} {d : FdD} {r : FdR} {us es : List Value} (h : FdT S w d r us es) (hc : Chg w w1 T) (hS : ∀ g, S g → ¬ T g) : FdT S w1 d r us es :=
  ⟨h.pl.chg hc hS, h.pw.chg hc hS, h.cr.chg hc hS, h.cp.chg hc hS, h.cq.chg hc hS, h.dr.chg hc hS, h.dp.chg hc hS, h.dq.chg hc hS, h.kd.chg hc hS, h.en.chgF h.ef hc hS, h.ef, h.ed.chg hc hS⟩
theorem FdT.mono {S T : Nat → Prop} {w : World} {d : FdD} {r : FdR} {us es : List Value} (h : FdT S w d r us es) (hS : ∀ g, S g → T g) : FdT T w d r us es :=
  ⟨h.pl.mono hS, h.pw.mono hS, h.cr.mono hS, h.cp.mono hS, h.cq.mono hS, h.dr.mono hS, h.dp.mono hS, h.dq.mono hS, h.kd.mono hS, h.en, fun h0 g hg => hS g (h.ef h0 g hg), h.ed.mono hS⟩
theorem FdT.cut {D : Nat → Prop} {w : World} {d : FdD} {r : FdR} {us es : List Value} (h : FdT D w d r us es) : FdT (fun g => D g ∧ g < w.heap.size) w d r us es :=
  ⟨h.pl.cut, h.pw.cut, h.cr.cut, h.cp.cut, h.cq.cut, h.dr.cut, h.dp.cut, h.dq.cut, h.kd.cut, h.en, Sho.cut h.en h.ef, h.ed.cut⟩
/-- A feeder at block f, all in blocks of Z. -/
structure FdOk (Z : Nat → Prop) (w : World) (f : Nat) (d : FdD) (r : FdR) (us es : List Value) : Prop where
  blk : Blk w f 68 (fdCells d r)
  wt : Blk w r.lb 74 (cellsW d.l)
  ag : AgS w r.base r.ab r.av d.m d.ord
  kp : w.ownsRow r.kb 47 4 r.kv d.kept.length us
  kbl : r.kb ≤ w.heap.size
  bal : r.base ≤ w.heap.size
  tx : FdT (FdDat Z f r) w d r us es
  n1 : f ≠ r.lb
  n2 : r.kv.ownBlock ≠ some f
  n3 : r.kv.ownBlock ≠ some r.lb
  n4 : ¬ Foot r.ab r.av f
  n5 : ¬ Foot r.ab r.av r.lb
  n6 : ∀ k, r.kv.ownBlock = some k → ¬ Foot r.ab r.av k
  mz : ∀ k, FdM f r k → Z k
def FdAt (Z : Nat → Prop) (w : World) (f : Nat) (d : FdD) : Prop := ∃ r us es, FdOk Z w f d r us es
theorem FdOk.chg {Z T : Nat → Prop} {w w1 : World} {f : Nat} {d : FdD} {r : FdR} {us es : List Value} (h : FdOk Z w f d r us es) (hc : Chg w w1 T) (hT : ∀ g, Z g → ¬ T g) : FdOk Z w1 f d r us es :=
  ⟨h.blk.chg hc (hT _ (h.mz _ (.inl rfl))), h.wt.chg hc (hT _ (h.mz _ (.inr (.inl rfl)))), h.ag.chg hc (fun k hk => hT _ (h.mz _ (.inr (.inr (.inr hk))))), ownsRow_chg h.kp hc (fun k hk => hT _ (h.mz _ (.inr (.inr (.inl hk))))), Nat.le_trans h.kbl hc.size, Nat.le_trans h.bal hc.size, h.tx.chg hc (fun g hg => hT g hg.1), h.n1, h.n2, h.n3, h.n4, h.n5, h.n6, h.mz⟩
theorem FdAt.chg {Z T : Nat → Prop} {w w1 : World} {f : Nat} {d : FdD} (h : FdAt Z w f d) (hc : Chg w w1 T) (hT : ∀ g, Z g → ¬ T g) : FdAt Z w1 f d := by
  obtain ⟨r, us, es, h⟩ := h
  exact ⟨r, us, es, h.chg hc hT⟩
theorem FdOk.below {Z : Nat → Prop} {w w1 : World} {f : Nat} {d : FdD} {r : FdR} {us es : List Value} (h : FdOk Z w f d r us es) (hb : Below w.heap.size w w1) : FdOk Z w1 f d r us es := h.chg (Chg.of_below (S := fun _ => False) hb) (fun _ _ h => h)
theorem FdAt.below {Z : Nat → Prop} {w w1 : World} {f : Nat} {d : FdD} (h : FdAt Z w f d) (hb : Below w.heap.size w w1) : FdAt Z w1 f d := h.chg (Chg.of_below (S := fun _ => False) hb) (fun _ _ h => h)
theorem FdOk.lt {Z : Nat → Prop} {w : World} {f : Nat} {d : FdD} {r : FdR} {us es : List Value} (h : FdOk Z w f d r us es) (k : Nat) (hk : FdM f r k) : k < w.heap.size := by
  rcases hk with rfl | rfl | hk | hk
  · exact h.blk.lt
  · exact h.wt.lt
  · exact (World.ownsRow.lt h.kp k hk).2
  · exact h.ag.foot_lt k hk
/-- Blocks of Z, and new ones. -/
def Wide (Z : Nat → Prop) (w w' : World) (g : Nat) : Prop := Z g ∨ Fresh w w' g
theorem Wide.step {Z : Nat → Prop} {w w1 w2 : World} {g : Nat} (h : Wide (Wide Z w w1) w1 w2 g) (h1 : w.heap.size ≤ w1.heap.size) (h2 : w1.heap.size ≤ w2.heap.size) : Wide Z w w2 g := by
  rcases h with (h | h) | h
  · exact .inl h
  · exact .inr ⟨h.1, Nat.lt_of_lt_of_le h.2 h2⟩
  · exact .inr ⟨Nat.le_trans h1 h.1, h.2⟩
/-- The agenda turns: its row may lie anew. -/
theorem FdOk.agenda {Z : Nat → Prop} {w w1 : World} {f : Nat} {d : FdD} {r : FdR} {us es : List Value} (h : FdOk Z w f d r us es) {v' : Value} {m' : List Ent} {ord' : Int} (ha : AgS w1 r.base r.ab v' m' ord') (hv : v'.ownBlock = r.av.ownBlock ∨ ∃ k, v'.ownBlock = some k ∧ w.heap.size ≤ k) (hc : Chg w w1 (Foot r.ab r.av)) :
    FdOk (Wide Z w w1) w1 f { d with m := m', ord := ord' } { r with av := v' } us es := by
  have hfoot : ∀ k, Foot r.ab v' k → Foot r.ab r.av k ∨ w.heap.size ≤ k := by
    intro k hk
    rcases hk with hk | hk
    · exact .inl (.inl hk)
    · rcases hv with e | ⟨q, e, hq⟩
      · exact .inl (.inr (by rw [← e]; exact hk))
      · rw [e] at hk
        injection hk with hk
        exact .inr (by omega)
  have hM : ∀ k, FdM f { r with av := v' } k → FdM f r k ∨ w.heap.size ≤ k := by
    intro k hk
    rcases hk with hk | hk | hk | hk
    · exact .inl (.inl hk)
    · exact .inl (.inr (.inl hk))
    · exact .inl (.inr (.inr (.inl hk)))
    · rcases hfoot k hk with h1 | h1
      · exact .inl (.inr (.inr (.inr h1)))
      · exact .inr h1
  have hnf : ∀ k, ¬ Foot r.ab r.av k → k < w.heap.size → ¬ Foot r.ab v' k := fun k hn hk hf => by
    rcases hfoot k hf with h1 | h1
    · exact hn h1
    · omega
  refine ⟨h.blk.chg hc h.n4, h.wt.chg hc h.n5, ha, ownsRow_chg h.kp hc h.n6, Nat.le_trans h.kbl hc.size, Nat.le_trans h.bal hc.size, ?_, h.n1, h.n2, h.n3, hnf f h.n4 h.blk.lt, hnf _ h.n5 h.wt.lt, fun k hk => hnf k (h.n6 k hk) (World.ownsRow.lt h.kp k hk).2, fun k hk => ?_⟩
  · have h1 := (h.tx.cut).chg hc (fun g hg e => hg.1.2 (.inr (.inr (.inr e))))
    exact FdT.mono ⟨h1.pl, h1.pw, h1.cr, h1.cp, h1.cq, h1.dr, h1.dp, h1.dq, h1.kd, h1.en, h1.ef, h1.ed⟩ (fun g hg => ⟨.inl hg.1.1, fun e => by
      rcases hM g e with e | e
      · exact hg.1.2 e
      · have := hg.2; omega⟩)
  · rcases hM k hk with e | e
    · exact .inl (h.mz k e)
    · refine .inr ⟨e, ?_⟩
      rcases hk with hk | hk | hk | hk
      · have := h.blk.lt; have := hc.size; omega
      · have := h.wt.lt; have := hc.size; have hk' : k = r.lb := hk; omega
      · have := (World.ownsRow.lt h.kp k hk).2; omega
      · exact ha.foot_lt k hk

set_option maxHeartbeats 1000000 in
/-- A witness is planned anew. -/
def PlanPost (Z : Nat → Prop) (w : World) (f : Nat) (d : FdD) (r : FdR) (us es : List Value) (tm wh : Int) (e : Ending) (w' : World) : Prop :=
  ∃ v', e = .returned (.tuple #[]) ∧ FdOk (Wide Z w w') w' f { d with m := insE ⟨tm, d.ord, wh⟩ (keepW wh d.m), ord := d.ord + 1 } { r with av := v' } us es ∧ Chg w w' (Foot r.ab r.av) ∧ (v'.ownBlock = r.av.ownBlock ∨ ∃ k, v'.ownBlock = some k ∧ w.heap.size ≤ k)
theorem keepW_le (what : Int) (l : List Ent) : (keepW what l).length ≤ l.length := List.length_filter_le _ _
set_option maxRecDepth 100000 in
set_option maxHeartbeats 1000000 in
theorem plan_any (Z : Nat → Prop) (f : Nat) (d : FdD) (r : FdR) (us es : List Value) (tm wh : Int) (hm : d.m.length ≤ 10000000) (ho : d.ord ≤ 1000000000) (w : World) (h : FdOk Z w f d r us es) :
    Calls Tryz.prog 29 #[.pointer (some ⟨f, 0, none⟩), .int .i64 tm, .int .i64 wh] w (PlanPost Z w f d r us es tm wh) := by
  have q2 := h.blk.cell 4 _ rfl
  have HC := Lib.hid (cancel_any r.base r.ab r.av d.m d.ord wh (by omega) w h.ag)
  have H := Lib.hid h
  clear h
  go_enter Tryz.func29, Tryz.ntmps29
  go_wp2_with fail
  refine HC.out.mono ?_
  rintro e w1 ⟨v1, rfl, h1, h2, h3⟩
  have H1 := Lib.hid (H.out.agenda h1 (.inl h2) h3)
  have q3 : w1.cell? ⟨f, 4, none⟩ = some (.pointer (some ⟨r.ab, 0, none⟩)) := H1.out.blk.cell 4 _ rfl
  have HA := Lib.hid (add_any r.base r.ab v1 (keepW wh d.m) d.ord tm wh (by have := keepW_le wh d.m; omega) (by omega) w1 h1)
  have HV := Lib.hid (And.intro h2 h3)
  clear h1 h2 h3 q2
  go_wp2_with fail
  refine HA.out.mono ?_
  rintro e w2 ⟨v2, rfl, h1, h2, h3⟩
  have H2 := Lib.hid (And.intro (H1.out.agenda h1 h2 h3) h3)
  have HLI := Lib.hid h2
  clear h1 h2 h3 q3
  go_wp2
  go_end0
  have hch : Chg w w2 (Foot r.ab r.av) := HV.out.2.trans H2.out.2 (fun i _ hi => by
    rcases hi with hi | hi
    · exact .inl hi
    · exact .inr (by rw [← HV.out.1]; exact hi))
  refine ⟨v2, rfl, ?_, hch, ?_⟩
  rotate_left 1
  · rcases HLI.out with e | ⟨k, e, hk⟩
    · exact .inl (e.trans HV.out.1)
    · exact .inr ⟨k, e, Nat.le_trans HV.out.2.size hk⟩
  have h9 := H2.out.1
  refine ⟨h9.blk, h9.wt, h9.ag, h9.kp, h9.kbl, h9.bal, ?_, h9.n1, h9.n2, h9.n3, h9.n4, h9.n5, h9.n6, fun k hk => (h9.mz k hk).step HV.out.2.size H2.out.2.size⟩
  exact h9.tx.mono (fun g hg => ⟨hg.1.step HV.out.2.size H2.out.2.size, hg.2⟩)
end Go.Proofs.YtlkgeifmppadmaaGreat
namespace Go.Proofs.YtlkgeifmppadmaaGreat
open Go.RowKit
set_option linter.unusedVariables false
set_option linter.unusedSimpArgs false

def zSg : SgD := ⟨⟨0, []⟩, ⟨0, [], []⟩⟩
/-- A feeder that was told nothing. -/
def fdNew (p : PolD) (retry : Int) : FdD := ⟨p, retry, [], 0, List.replicate p.wits.length ⟨0, 0, false⟩, zSg, false, [], zSg, []⟩
theorem info_state : (Tryz.prog.info? 74).map (fun i => (i.zero, i.size, i.bytes)) = some (some (.agg #[.int .i64 0, .int .i64 0, .bool false]), 3, 24) := by kernel_rfl
theorem made_state (n : Nat) (h : n ≤ 4) : madeCells (Value.agg #[.int .i64 0, .int .i64 0, .bool false]).cells (n * 3) = (cellsW (List.replicate n ⟨0, 0, false⟩)).toArray := by
  obtain rfl | rfl | rfl | rfl | rfl : n = 0 ∨ n = 1 ∨ n = 2 ∨ n = 3 ∨ n = 4 := by omega
  all_goals kernel_rfl
theorem make_state (n : Nat) (h : n ≤ 4) (w : World) : (Instr.makeSlice 66 (.int .i64 n) (.int .i64 n)).run Tryz.prog w = .ok (.slice (some ⟨w.heap.size, 0, none⟩) n n) (w.alloc (.cells (cellsW (List.replicate n ⟨0, 0, false⟩)).toArray 74)) := by
  obtain ⟨i0, hi0, hz0, hz1, hz2⟩ := info_parts info_state
  have hr := run_make (P := Tryz.prog) w 66 74 i0 _ Tryz.underlying66 hi0 hz0 .i64 .i64 n n (by omega) (Int.le_refl _) (by rw [hz2]; omega) (by omega)
  rw [hz1] at hr
  simp only [Int.toNat_natCast] at hr
  rw [made_state n h] at hr
  exact hr
/-- What stands when a feeder is built. -/
def NewSt (w W : World) (LB A : Nat) (lv wv : Value) (p : PolD) : Prop :=
  Below w.heap.size w W ∧ BysF (fun g => w.heap.size ≤ g ∧ g < W.heap.size ∧ g ≠ LB ∧ g ≠ A) W lv p.log ∧ RwsF (fun g => w.heap.size ≤ g ∧ g < W.heap.size ∧ g ≠ LB ∧ g ≠ A) W wv p.wits ∧ AgS W A A (.slice none 0 0) [] 0 ∧ Blk W LB 74 (cellsW (List.replicate p.wits.length ⟨0, 0, false⟩)) ∧ LB ≠ A ∧ w.heap.size ≤ LB ∧ w.heap.size ≤ A
def zeroR (base kb lb ab : Nat) (lv wv : Value) : FdR := ⟨base, kb, lb, ab, .slice none 0 0, .slice none 0 0, .slice none 0 0, lv, wv, .slice none 0 0, .slice none 0 0, .slice none 0 0, .slice none 0 0, .slice none 0 0, .slice none 0 0⟩
theorem bysF_nil (S : Nat → Prop) (w : World) : BysF S w (.slice none 0 0) [] := ⟨Sho.nil w 1, fun h => absurd h (Nat.lt_irrefl _)⟩
theorem rwsF_nil (S : Nat → Prop) (w : World) : RwsF S w (.slice none 0 0) [] := ⟨[], Sho.nil w 1, fun h => absurd h (Nat.lt_irrefl _), fun i h => absurd h (Nat.not_lt_zero _)⟩
theorem new_ok {w W : World} {LB A : Nat} {lv wv : Value} {p : PolD} {retry : Int} (h : NewSt w W LB A lv wv p) (W2 : World) (hW2 : W2 = W.alloc (.cells (fdCells (fdNew p retry) (zeroR A W.heap.size LB A lv wv)).toArray 68)) :
    FdAt (Fresh w W2) W2 W.heap.size (fdNew p retry) ∧ Below w.heap.size w W2 := by
  obtain ⟨h1, h2, h3, h4, h5, h6, h7, h8⟩ := h
  have hb : Below W.heap.size W W2 := by rw [hW2]; exact (Below.refl _ _).alloc (Nat.le_refl _) _
  have hblk : Blk W2 W.heap.size 68 (fdCells (fdNew p retry) (zeroR A W.heap.size LB A lv wv)) := by rw [hW2]; exact Blk.new W _ _
  have hsz : W2.heap.size = W.heap.size + 1 := by rw [hW2]; simp
  have hA := h4.blk.lt
  have hL := h5.lt
  have hw := h1.size
  refine ⟨⟨zeroR A W.heap.size LB A lv wv, [], [], ?_⟩, h1.trans (hb.mono hw)⟩
  have hft : ∀ k, Foot A (.slice none 0 0) k → k = A := fun k hk => by
    rcases hk with hk | hk
    · exact hk
    · exact absurd hk (by simp [Value.ownBlock])
  have hM : ∀ k, FdM W.heap.size (zeroR A W.heap.size LB A lv wv) k → k = W.heap.size ∨ k = LB ∨ k = A := fun k hk => by
    rcases hk with hk | hk | hk | hk
    · exact .inl hk
    · exact .inr (.inl hk)
    · exact absurd hk (by simp [zeroR, Value.ownBlock])
    · exact .inr (.inr (hft k hk))
  have hD : ∀ g, w.heap.size ≤ g ∧ g < W.heap.size ∧ g ≠ LB ∧ g ≠ A → FdDat (Fresh w W2) W.heap.size (zeroR A W.heap.size LB A lv wv) g := fun g hg => ⟨⟨hg.1, by omega⟩, fun e => by
    rcases hM g e with e | e | e
    · have := hg.2.1; omega
    · exact hg.2.2.1 e
    · exact hg.2.2.2 e⟩
  refine ⟨hblk, h5.below hb, h4.below hb, World.ownsRow_nil _ _ _ _, by show W.heap.size ≤ _; omega, by show A ≤ _; omega, ⟨(h2.below hb).mono hD, (h3.below hb).mono hD, bysF_nil _ _, rwsF_nil _ _, rwsF_nil _ _, bysF_nil _ _, rwsF_nil _ _, rwsF_nil _ _, CgRow.nil _ _, Sho.nil _ _, fun h => absurd h (Nat.lt_irrefl _), CgRow.nil _ _⟩, by show W.heap.size ≠ LB; omega, by simp [zeroR, Value.ownBlock], by simp [zeroR, Value.ownBlock], fun e => by have := hft _ e; omega, fun e => h6 (hft _ e), fun k hk => absurd hk (by simp [zeroR, Value.ownBlock]), fun k hk => ?_⟩
  rcases hM k hk with e | e | e
  · exact ⟨by omega, by omega⟩
  · exact ⟨by omega, by omega⟩
  · exact ⟨by omega, by omega⟩
theorem polB_facts {p : PolD} (h : polB p = true) : p.log.length = 32 ∧ 1 ≤ p.wits.length ∧ p.wits.length ≤ 4 ∧ 1 ≤ p.quorum ∧ p.quorum ≤ (p.wits.length : Int) ∧ witsN p.wits p.wits.length = true := by
  simp only [polB, Bool.and_eq_true, decide_eq_true_eq] at h
  obtain ⟨⟨⟨⟨⟨h1, h2⟩, h3⟩, h4⟩, h5⟩, h6⟩ := h
  exact ⟨h1, h2, h3, h4, h5, h6⟩
def NewPost (w : World) (p : PolD) (retry : Int) (e : Ending) (w' : World) : Prop :=
  ∃ f Z, e = .returned (.tuple #[.pointer (some ⟨f, 0, none⟩), .int .i64 0]) ∧ FdAt Z w' f (fdNew p retry) ∧ (∀ g, Z g → w.heap.size ≤ g ∧ g < w'.heap.size) ∧ Below w.heap.size w w'
set_option maxRecDepth 100000 in
set_option maxHeartbeats 4000000 in
theorem fnew_no (v : Value) (p : PolD) (retry : Int) (hs : SmallPol p) (hbad : polB p = false ∨ retry < 1 ∨ 100 < retry) (w : World) (hv : PolV w v p) :
    Calls Tryz.prog 9 #[v, .int .i64 retry] w fun e w' => e = .returned (.tuple #[.pointer none, .int .i64 1]) ∧ Below w.heap.size w w' := by
  have HR := Lib.hid (fun (wz : World) (v : Value) (hz : PolV wz v p) => coright_any v p hs.1 hs.2.1 hs.2.2.2 wz hz)
  obtain ⟨l, ws, rfl, h1, h2⟩ := hv
  obtain ⟨L, cl, rfl⟩ := h1.form
  obtain ⟨R, cr, rfl⟩ := h2.form
  have HX := Lib.hid (And.intro h1 h2)
  have HW := Lib.hid ((Below.refl w.heap.size w).alloc (Nat.le_refl _) (.cells #[.slice L p.log.length cl, .slice R p.wits.length cr, .int .i64 p.quorum] 29))
  have HB := Lib.hid hbad
  clear h1 h2 hs hbad
  go_enter Tryz.func9, Tryz.ntmps9
  go_wp2_with fail
  refine (HR.out _ _ ⟨_, _, rfl, HX.out.1.below HW.out, HX.out.2.below HW.out⟩).mono ?_
  rintro e w1 ⟨rfl, h1⟩
  have H1 := Lib.hid (HW.out.trans (h1.mono (by simp)))
  clear h1
  cases hpb : polB p with
  | false =>
    go_wp2
    go_ret2
    exact ⟨rfl, H1.out⟩
  | true =>
    by_cases c1 : retry < 1
    · go_wp2
      go_ret2
      exact ⟨rfl, H1.out⟩
    · have c2 : 100 < retry := by
        rcases HB.out with h | h | h
        · rw [hpb] at h; cases h
        · exact absurd h c1
        · exact h
      go_wp2
      go_ret2
      exact ⟨rfl, H1.out⟩
set_option maxRecDepth 100000 in
set_option maxHeartbeats 8000000 in
theorem fnew_yes (v : Value) (p : PolD) (retry : Int) (hs : SmallPol p) (hpb : polB p = true) (hr1 : 1 ≤ retry) (hr2 : retry ≤ 100) (w : World) (hv : PolV w v p) :
    Calls Tryz.prog 9 #[v, .int .i64 retry] w (NewPost w p retry) := by
  have HR := Lib.hid (fun (wz : World) (v : Value) (hz : PolV wz v p) => coright_any v p hs.1 hs.2.1 hs.2.2.2 wz hz)
  rw [hpb] at HR
  have HP := Lib.hid (fun (wz : World) (v : Value) (hz : PolV wz v p) => fpolicy_any v p hs wz hz)
  obtain ⟨g1, g2, g3, -⟩ := polB_facts hpb
  obtain ⟨l, ws, rfl, h1, h2⟩ := hv
  obtain ⟨L, cl, rfl⟩ := h1.form
  obtain ⟨R, cr, rfl⟩ := h2.form
  have HX := Lib.hid (And.intro h1 h2)
  have hk0 := Blk.new w 29 [.slice L p.log.length cl, .slice R p.wits.length cr, .int .i64 p.quorum]
  have hb0 := (Below.refl w.heap.size w).alloc (Nat.le_refl _) (.cells #[.slice L p.log.length cl, .slice R p.wits.length cr, .int .i64 p.quorum] 29)
  have HW := Lib.hid (And.intro hk0 hb0)
  clear h1 h2 hs hpb hk0 hb0 g1
  go_enter Tryz.func9, Tryz.ntmps9
  go_wp2_with fail
  refine (HR.out _ _ ⟨_, _, rfl, HX.out.1.below HW.out.2, HX.out.2.below HW.out.2⟩).mono ?_
  rintro e w1 ⟨rfl, h1⟩
  have H1 := Lib.hid (And.intro (HW.out.1.below h1) (HW.out.2.trans (h1.mono (by simp))))
  have hsz1 : w.heap.size < w1.heap.size := H1.out.1.lt
  have c0 := H1.out.1.cell 0 _ rfl
  have c1 := H1.out.1.cell 1 _ rfl
  have c2 := H1.out.1.cell 2 _ rfl
  clear h1
  go_wp2
  have hmk := fun v : World => make_state p.wits.length g3 v
  refine wp_region_held_drew (S := fun w' => w'.cell? ⟨w.heap.size, 0, none⟩ = some (.slice L p.log.length cl) ∧ w'.cell? ⟨w.heap.size, 1, none⟩ = some (.slice R p.wits.length cr) ∧ w'.cell? ⟨w.heap.size, 2, none⟩ = some (.int .i64 p.quorum)) (by kernel_rfl) ?_ (fun hHeld => ?_)
  · exact ⟨c0, c1, c2⟩
  refine take_yes 0 17 rfl rfl (by kernel_rfl) (by kernel_rfl) (by kernel_rfl) (fun _ _ _ h => h) (by assumption) (by rfl) (v := ?_) ?_ ?_
  rotate_left 1
  · (intro w hSw; (try dsimp only at hSw); go_simp; try with_reducible rfl)
  simp only [List.setIfInBounds_toArray, List.set_cons_zero, List.set_cons_succ]
  refine take_yes 2 19 rfl rfl (by kernel_rfl) (by kernel_rfl) (by kernel_rfl) (fun _ _ _ h => h) (by assumption) (by rfl) (v := ?_) ?_ ?_
  rotate_left 1
  · (intro w hSw; (try dsimp only at hSw); go_simp; try with_reducible rfl)
  simp only [List.setIfInBounds_toArray, List.set_cons_zero, List.set_cons_succ]
  refine take_yes 4 21 rfl rfl (by kernel_rfl) (by kernel_rfl) (by kernel_rfl) (fun _ _ _ h => h) (by assumption) (by rfl) (v := ?_) ?_ ?_
  rotate_left 1
  · (intro w hSw; (try dsimp only at hSw); go_simp; try with_reducible rfl)
  simp only [List.setIfInBounds_toArray, List.set_cons_zero, List.set_cons_succ]
  refine take_yes 5 22 rfl rfl (by kernel_rfl) (by kernel_rfl) (by kernel_rfl) (fun _ _ _ h => h) (by assumption) (by rfl) (v := ?_) ?_ ?_
  rotate_left 1
  · (intro w hSw; (try dsimp only at hSw); go_simp; try with_reducible rfl)
  simp only [List.setIfInBounds_toArray, List.set_cons_zero, List.set_cons_succ]
  refine take_yes 6 23 rfl rfl (by kernel_rfl) (by kernel_rfl) (by kernel_rfl) (fun _ _ _ h => h) (by assumption) (by rfl) (v := ?_) ?_ ?_
  rotate_left 1
  · (intro w hSw; (try dsimp only at hSw); go_simp; try with_reducible rfl)
  simp only [List.setIfInBounds_toArray, List.set_cons_zero, List.set_cons_succ]
  refine wpAnyH_ready (rs := [1, 7]) (by kernel_rfl) (by simp) ?_
  refine AllReadyH.cons rfl (fun K hK => ?w3_1) (AllReadyH.cons rfl (fun K hK => ?w3_7) AllReadyH.nil)
  case' w3_7 =>
    -- 7:  dst := some 24, op := Op.makeSlice 74 (Operand.tmp 23) (Operand.tmp 23), type := 74
    go_simp
    have hbl := ((Below.refl w1.heap.size w1).alloc (Nat.le_refl _) (.cells (cellsW (List.replicate p.wits.length ⟨0, 0, false⟩)).toArray 74)).drew
    have hkl : Blk (w1.alloc (.cells (cellsW (List.replicate p.wits.length ⟨0, 0, false⟩)).toArray 74)).drew w1.heap.size 74 (cellsW (List.replicate p.wits.length ⟨0, 0, false⟩)) := (Blk.new w1 74 (cellsW (List.replicate p.wits.length ⟨0, 0, false⟩))).drew
    have HBL := Lib.hid (And.intro hbl hkl)
    clear hbl hkl
    refine hK.out _ _ ⟨by go_keep, by go_keep, by go_keep⟩ (fun hHeld7 => ?_)
    clear hK K
    try simp only [Act.put, List.setIfInBounds_toArray, List.set_cons_zero, List.set_cons_succ]
    refine wpAnyH_ready (rs := [1]) (by kernel_rfl) (by simp) ?_
    refine AllReadyH.cons rfl (fun K hK => ?_) AllReadyH.nil
    -- 1:  dst := some 18, op := Op.call  callee := Callee.value (Operand.func 26), args := #[Operand.tmp 17], argTypes := #[33] , type :
    go_simp
    go_at_call 22
    have hbb : Below w1.heap.size w1 ((w1.alloc (.cells (cellsW (List.replicate p.wits.length ⟨0, 0, false⟩)).toArray 74)).drew) := HBL.out.1
    refine (HP.out _ _ ⟨_, _, rfl, HX.out.1.below (H1.out.2.trans (hbb.mono H1.out.2.size)), HX.out.2.below (H1.out.2.trans (hbb.mono H1.out.2.size))⟩).mono ?_
    rintro e w2 ⟨v2, rfl, ⟨lv, wv, rfl, h2, h3⟩, h4⟩
    obtain ⟨A2, n2, rfl⟩ := h2.1.form
    obtain ⟨A3, n3, rfl⟩ := h3.rws.form
    have hb2 : Below w1.heap.size w1 w2 := hbb.trans (h4.mono hbb.size)
    have k0 := H1.out.1.below hb2
    have e0 := k0.cell 0 _ rfl
    have e1 := k0.cell 1 _ rfl
    have e2 := k0.cell 2 _ rfl
    have hbw2 : w.heap.size < w2.heap.size := k0.lt
    have hgz : ((w1.alloc (.cells (cellsW (List.replicate p.wits.length ⟨0, 0, false⟩)).toArray 74)).drew).heap.size ≤ w2.heap.size := h4.size
    have hfs : (w1.alloc (.cells (cellsW (List.replicate p.wits.length ⟨0, 0, false⟩)).toArray 74)).drew.heap.size = w1.heap.size + 1 := by show (w1.alloc _).heap.size = _; simp
    have H2 := Lib.hid (And.intro (h2.mono (T := fun g => w1.heap.size + 1 ≤ g ∧ g < w2.heap.size) (fun g hg => ⟨by have := hg.1; rw [hfs] at this; exact this, hg.2⟩)) (And.intro (h3.mono (T := fun g => w1.heap.size + 1 ≤ g ∧ g < w2.heap.size) (fun g hg => ⟨by have := hg.1; rw [hfs] at this; exact this, hg.2⟩)) (And.intro hb2 (And.intro k0 (HBL.out.2.below h4)))))
    have hl2 : w1.heap.size + 1 ≤ w2.heap.size := by rw [← hfs]; exact hgz
    clear h2 h3 h4 hb2 k0 hbb hfs hgz
    go_wp2_with fail
    refine hK.out _ _ ⟨e0, e1, e2⟩ (fun hHeld1 => ?_)
    clear hK K
    try simp only [Act.put, List.setIfInBounds_toArray, List.set_cons_zero, List.set_cons_succ]
    refine wpAnyH_ready (rs := [3]) (by kernel_rfl) (by simp) ?_
    refine AllReadyH.cons rfl (fun K hK => ?_) AllReadyH.nil
    -- 3:  dst := some 20, op := Op.call  callee := Callee.value (Operand.func 27), args := #[], argTypes := #[] , type := 72
    go_simp
    go_at_call 23
    refine (new_any w2).mono ?_
    rintro e w3 ⟨rfl, h5, h6⟩
    have k0 := H2.out.2.2.2.1.below h6
    have i0 := k0.cell 0 _ rfl
    have i1 := k0.cell 1 _ rfl
    have i2 := k0.cell 2 _ rfl
    have H3 := Lib.hid (And.intro h5 h6)
    clear h5 h6 k0
    go_wp2_with fail
    refine hK.out _ _ ⟨i0, i1, i2⟩ (fun hHeld3 => ?_)
    clear hK K
    try simp only [Act.put, List.setIfInBounds_toArray, List.set_cons_zero, List.set_cons_succ]
    refine take_yes 8 25 rfl rfl (by kernel_rfl) (by kernel_rfl) (by kernel_rfl) (fun _ _ _ h => h) (by assumption) (by rfl) (v := ?_) ?_ ?_
    rotate_left 1
    · (intro w hSw; (try dsimp only at hSw); go_simp; try with_reducible rfl)
    simp only [List.setIfInBounds_toArray, List.set_cons_zero, List.set_cons_succ]
    refine wpAnyH_ready (rs := [9]) (by kernel_rfl) (by simp) ?_
    refine AllReadyH.cons rfl (fun K hK => ?_) AllReadyH.nil
    -- 9:  dst := some 26, op := Op.box 76 (Operand.tmp 25), type := 26
    go_simp
    have hz := H2.out.2.2.1.size
    have hz3 := H3.out.2.size
    have hA3 := H3.out.1.blk.lt
    have HS : Hid (NewSt w w3 w1.heap.size w2.heap.size (.slice A2 p.log.length n2) (.slice A3 p.wits.length n3) p) := Lib.hid ⟨(H1.out.2.trans (H2.out.2.2.1.mono H1.out.2.size)).trans (H3.out.2.mono (by omega)), (H2.out.1.below H3.out.2).mono (fun g hg => ⟨by have := hg.1; omega, by have := hg.2; omega, by have := hg.1; have := hg.2; omega, by have := hg.1; have := hg.2; omega⟩), (H2.out.2.1.below H3.out.2).mono (fun g hg => ⟨by have := hg.1; omega, by have := hg.2; omega, by have := hg.1; have := hg.2; omega, by have := hg.1; have := hg.2; omega⟩), H3.out.1, H2.out.2.2.2.2.below H3.out.2, by omega, by omega, by omega⟩
    refine hK.out _ _ ⟨by go_keep, by go_keep, by go_keep⟩ (fun hHeld9 => ?_)
    clear hK K
    try simp only [Act.put, List.setIfInBounds_toArray, List.set_cons_zero, List.set_cons_succ]
    refine take_yes 10 4 rfl rfl (by kernel_rfl) (by kernel_rfl) (by kernel_rfl) (fun _ _ _ h => h) (by assumption) (by rfl) (v := ?_) ?_ ?_
    rotate_left 1
    · (intro w hSw; (try dsimp only at hSw); go_simp; try with_reducible rfl)
    simp only [List.setIfInBounds_toArray, List.set_cons_zero, List.set_cons_succ]
    refine take_yes 11 5 rfl rfl (by kernel_rfl) (by kernel_rfl) (by kernel_rfl) (fun _ _ _ h => h) (by assumption) (by rfl) (v := ?_) ?_ ?_
    rotate_left 1
    · (intro w hSw; (try dsimp only at hSw); go_simp; try with_reducible rfl)
    simp only [List.setIfInBounds_toArray, List.set_cons_zero, List.set_cons_succ]
    refine wpAnyH_done (by kernel_rfl) ?_ _
    have HN := Lib.hid (new_ok (retry := retry) HS.out ((w3).alloc (.cells #[.slice A2 p.log.length n2, .slice A3 p.wits.length n3, .int .i64 p.quorum, .int .i64 retry, .pointer (some ⟨w2.heap.size, 0, none⟩), .slice (some ⟨w1.heap.size, 0, none⟩) p.wits.length p.wits.length, .int .i64 0, .slice none 0 0, .int .i64 0, .slice none 0 0, .slice none 0 0, .bool false, .slice none 0 0, .int .i64 0, .slice none 0 0, .int .i64 0, .slice none 0 0, .slice none 0 0, .slice none 0 0] 68)) (by simp [fdCells, fdNew, zeroR, zSg]))
    go_wp2
    go_ret2
    exact ⟨_, _, rfl, HN.out.1, fun g hg => hg, HN.out.2⟩
  case' w3_1 =>
    -- 1:  dst := some 18, op := Op.call  callee := Callee.value (Operand.func 26), args := #[Operand.tmp 17], argTypes := #[33] , type :
    go_simp
    go_at_call 22
    have hbb : Below w1.heap.size w1 (w1.drew) := (Below.refl w1.heap.size w1).drew
    refine (HP.out _ _ ⟨_, _, rfl, HX.out.1.below (H1.out.2.trans (hbb.mono H1.out.2.size)), HX.out.2.below (H1.out.2.trans (hbb.mono H1.out.2.size))⟩).mono ?_
    rintro e w2 ⟨v2, rfl, ⟨lv, wv, rfl, h2, h3⟩, h4⟩
    obtain ⟨A2, n2, rfl⟩ := h2.1.form
    obtain ⟨A3, n3, rfl⟩ := h3.rws.form
    have hb2 : Below w1.heap.size w1 w2 := hbb.trans (h4.mono hbb.size)
    have k0 := H1.out.1.below hb2
    have e0 := k0.cell 0 _ rfl
    have e1 := k0.cell 1 _ rfl
    have e2 := k0.cell 2 _ rfl
    have hbw2 : w.heap.size < w2.heap.size := k0.lt
    have hgz : (w1.drew).heap.size ≤ w2.heap.size := h4.size
    have H2 := Lib.hid (And.intro (show BysF (fun g => w1.heap.size ≤ g ∧ g < w2.heap.size) w2 _ p.log from h2) (And.intro (show RwsF (fun g => w1.heap.size ≤ g ∧ g < w2.heap.size) w2 _ p.wits from h3) (And.intro hb2 k0)))
    clear h2 h3 h4 hb2 k0 hbb
    go_wp2_with fail
    refine hK.out _ _ ⟨e0, e1, e2⟩ (fun hHeld1 => ?_)
    clear hK K
    try simp only [Act.put, List.setIfInBounds_toArray, List.set_cons_zero, List.set_cons_succ]
    refine wpAnyH_ready (rs := [3, 7]) (by kernel_rfl) (by simp) ?_
    refine AllReadyH.cons rfl (fun K hK => ?w3_1_3) (AllReadyH.cons rfl (fun K hK => ?w3_1_7) AllReadyH.nil)
    case' w3_1_7 =>
      -- 7:  dst := some 24, op := Op.makeSlice 74 (Operand.tmp 23) (Operand.tmp 23), type := 74
      go_simp
      have hbl := ((Below.refl w2.heap.size w2).alloc (Nat.le_refl _) (.cells (cellsW (List.replicate p.wits.length ⟨0, 0, false⟩)).toArray 74))
      have hkl := Blk.new w2 74 (cellsW (List.replicate p.wits.length ⟨0, 0, false⟩))
      have HBL := Lib.hid (And.intro hbl hkl)
      clear hbl hkl
      refine hK.out _ _ ⟨by go_keep, by go_keep, by go_keep⟩ (fun hHeld7 => ?_)
      clear hK K
      try simp only [Act.put, List.setIfInBounds_toArray, List.set_cons_zero, List.set_cons_succ]
      refine wpAnyH_ready (rs := [3]) (by kernel_rfl) (by simp) ?_
      refine AllReadyH.cons rfl (fun K hK => ?_) AllReadyH.nil
      -- 3:  dst := some 20, op := Op.call  callee := Callee.value (Operand.func 27), args := #[], argTypes := #[] , type := 72
      go_simp
      go_at_call 23
      refine (new_any _).mono ?_
      rintro e w3 ⟨rfl, h5, h6⟩
      have k0 := (H2.out.2.2.2.below HBL.out.1).below h6
      have i0 := k0.cell 0 _ rfl
      have i1 := k0.cell 1 _ rfl
      have i2 := k0.cell 2 _ rfl
      have hl3 : (w2.alloc (.cells (cellsW (List.replicate p.wits.length ⟨0, 0, false⟩)).toArray 74)).heap.size = w2.heap.size + 1 := by simp
      rw [hl3] at h5
      have H3 := Lib.hid (And.intro h5 (And.intro (HBL.out.1.trans (h6.mono HBL.out.1.size)) (HBL.out.2.below h6)))
      clear h5 h6 k0 hl3
      go_wp2_with fail
      refine hK.out _ _ ⟨i0, i1, i2⟩ (fun hHeld3 => ?_)
      clear hK K
      try simp only [Act.put, List.setIfInBounds_toArray, List.set_cons_zero, List.set_cons_succ]
      refine take_yes 8 25 rfl rfl (by kernel_rfl) (by kernel_rfl) (by kernel_rfl) (fun _ _ _ h => h) (by assumption) (by rfl) (v := ?_) ?_ ?_
      rotate_left 1
      · (intro w hSw; (try dsimp only at hSw); go_simp; try with_reducible rfl)
      simp only [List.setIfInBounds_toArray, List.set_cons_zero, List.set_cons_succ]
      refine wpAnyH_ready (rs := [9]) (by kernel_rfl) (by simp) ?_
      refine AllReadyH.cons rfl (fun K hK => ?_) AllReadyH.nil
      -- 9:  dst := some 26, op := Op.box 76 (Operand.tmp 25), type := 26
      go_simp
      have hz := H2.out.2.2.1.size
      have hz3 := H3.out.2.1.size
      have hA3 := H3.out.1.blk.lt
      have HS : Hid (NewSt w w3 w2.heap.size (w2.heap.size + 1) (.slice A2 p.log.length n2) (.slice A3 p.wits.length n3) p) := Lib.hid ⟨(H1.out.2.trans (H2.out.2.2.1.mono H1.out.2.size)).trans (H3.out.2.1.mono (by omega)), (H2.out.1.below H3.out.2.1).mono (fun g hg => ⟨by have := hg.1; omega, by have := hg.2; omega, by have := hg.1; have := hg.2; omega, by have := hg.1; have := hg.2; omega⟩), (H2.out.2.1.below H3.out.2.1).mono (fun g hg => ⟨by have := hg.1; omega, by have := hg.2; omega, by have := hg.1; have := hg.2; omega, by have := hg.1; have := hg.2; omega⟩), H3.out.1, H3.out.2.2, by omega, by omega, by omega⟩
      refine hK.out _ _ ⟨by go_keep, by go_keep, by go_keep⟩ (fun hHeld9 => ?_)
      clear hK K
      try simp only [Act.put, List.setIfInBounds_toArray, List.set_cons_zero, List.set_cons_succ]
      refine take_yes 10 4 rfl rfl (by kernel_rfl) (by kernel_rfl) (by kernel_rfl) (fun _ _ _ h => h) (by assumption) (by rfl) (v := ?_) ?_ ?_
      rotate_left 1
      · (intro w hSw; (try dsimp only at hSw); go_simp; try with_reducible rfl)
      simp only [List.setIfInBounds_toArray, List.set_cons_zero, List.set_cons_succ]
      refine take_yes 11 5 rfl rfl (by kernel_rfl) (by kernel_rfl) (by kernel_rfl) (fun _ _ _ h => h) (by assumption) (by rfl) (v := ?_) ?_ ?_
      rotate_left 1
      · (intro w hSw; (try dsimp only at hSw); go_simp; try with_reducible rfl)
      simp only [List.setIfInBounds_toArray, List.set_cons_zero, List.set_cons_succ]
      refine wpAnyH_done (by kernel_rfl) ?_ _
      have HN := Lib.hid (new_ok (retry := retry) HS.out ((w3).alloc (.cells #[.slice A2 p.log.length n2, .slice A3 p.wits.length n3, .int .i64 p.quorum, .int .i64 retry, .pointer (some ⟨w2.heap.size + 1, 0, none⟩), .slice (some ⟨w2.heap.size, 0, none⟩) p.wits.length p.wits.length, .int .i64 0, .slice none 0 0, .int .i64 0, .slice none 0 0, .slice none 0 0, .bool false, .slice none 0 0, .int .i64 0, .slice none 0 0, .int .i64 0, .slice none 0 0, .slice none 0 0, .slice none 0 0] 68)) (by simp [fdCells, fdNew, zeroR, zSg]))
      go_wp2
      go_ret2
      exact ⟨_, _, rfl, HN.out.1, fun g hg => hg, HN.out.2⟩
    case' w3_1_3 =>
      -- 3:  dst := some 20, op := Op.call  callee := Callee.value (Operand.func 27), args := #[], argTypes := #[] , type := 72
      go_simp
      go_at_call 23
      refine (new_any w2).mono ?_
      rintro e w3 ⟨rfl, h5, h6⟩
      have k0 := H2.out.2.2.2.below h6
      have i0 := k0.cell 0 _ rfl
      have i1 := k0.cell 1 _ rfl
      have i2 := k0.cell 2 _ rfl
      have H3 := Lib.hid (And.intro h5 h6)
      have hbw3 : w.heap.size < w3.heap.size := k0.lt
      clear h5 h6 k0
      go_wp2_with fail
      refine hK.out _ _ ⟨i0, i1, i2⟩ (fun hHeld3 => ?_)
      clear hK K
      try simp only [Act.put, List.setIfInBounds_toArray, List.set_cons_zero, List.set_cons_succ]
      refine wpAnyH_ready (rs := [7]) (by kernel_rfl) (by simp) ?_
      refine AllReadyH.cons rfl (fun K hK => ?_) AllReadyH.nil
      -- 7:  dst := some 24, op := Op.makeSlice 74 (Operand.tmp 23) (Operand.tmp 23), type := 74
      go_simp
      refine hK.out _ _ ⟨by go_keep, by go_keep, by go_keep⟩ (fun hHeld7 => ?_)
      clear hK K
      try simp only [Act.put, List.setIfInBounds_toArray, List.set_cons_zero, List.set_cons_succ]
      refine take_yes 8 25 rfl rfl (by kernel_rfl) (by kernel_rfl) (by kernel_rfl) (fun _ _ _ h => h) (by assumption) (by rfl) (v := ?_) ?_ ?_
      rotate_left 1
      · (intro w hSw; (try dsimp only at hSw); go_simp; try with_reducible rfl)
      simp only [List.setIfInBounds_toArray, List.set_cons_zero, List.set_cons_succ]
      refine wpAnyH_ready (rs := [9]) (by kernel_rfl) (by simp) ?_
      refine AllReadyH.cons rfl (fun K hK => ?_) AllReadyH.nil
      -- 9:  dst := some 26, op := Op.box 76 (Operand.tmp 25), type := 26
      go_simp
      have hz := H2.out.2.2.1.size
      have hz3 := H3.out.2.size
      have hA3 := H3.out.1.blk.lt
      have ha := (Below.refl w3.heap.size w3).alloc (Nat.le_refl _) (.cells (cellsW (List.replicate p.wits.length ⟨0, 0, false⟩)).toArray 74)
      have haz := ha.size
      have HS : Hid (NewSt w (w3.alloc (.cells (cellsW (List.replicate p.wits.length ⟨0, 0, false⟩)).toArray 74)) w3.heap.size w2.heap.size (.slice A2 p.log.length n2) (.slice A3 p.wits.length n3) p) := Lib.hid ⟨((H1.out.2.trans (H2.out.2.2.1.mono H1.out.2.size)).trans (H3.out.2.mono (by omega))).trans (ha.mono (by omega)), ((H2.out.1.below H3.out.2).below ha).mono (fun g hg => ⟨by have := hg.1; omega, by have := hg.2; omega, by have := hg.1; have := hg.2; omega, by have := hg.1; have := hg.2; omega⟩), ((H2.out.2.1.below H3.out.2).below ha).mono (fun g hg => ⟨by have := hg.1; omega, by have := hg.2; omega, by have := hg.1; have := hg.2; omega, by have := hg.1; have := hg.2; omega⟩), H3.out.1.below ha, Blk.new w3 74 (cellsW (List.replicate p.wits.length ⟨0, 0, false⟩)), by omega, by omega, by omega⟩
      refine hK.out _ _ ⟨by go_keep, by go_keep, by go_keep⟩ (fun hHeld9 => ?_)
      clear hK K
      try simp only [Act.put, List.setIfInBounds_toArray, List.set_cons_zero, List.set_cons_succ]
      refine take_yes 10 4 rfl rfl (by kernel_rfl) (by kernel_rfl) (by kernel_rfl) (fun _ _ _ h => h) (by assumption) (by rfl) (v := ?_) ?_ ?_
      rotate_left 1
      · (intro w hSw; (try dsimp only at hSw); go_simp; try with_reducible rfl)
      simp only [List.setIfInBounds_toArray, List.set_cons_zero, List.set_cons_succ]
      refine take_yes 11 5 rfl rfl (by kernel_rfl) (by kernel_rfl) (by kernel_rfl) (fun _ _ _ h => h) (by assumption) (by rfl) (v := ?_) ?_ ?_
      rotate_left 1
      · (intro w hSw; (try dsimp only at hSw); go_simp; try with_reducible rfl)
      simp only [List.setIfInBounds_toArray, List.set_cons_zero, List.set_cons_succ]
      refine wpAnyH_done (by kernel_rfl) ?_ _
      have hn := new_ok (retry := retry) HS.out ((w3.alloc (.cells (cellsW (List.replicate p.wits.length ⟨0, 0, false⟩)).toArray 74)).alloc (.cells #[.slice A2 p.log.length n2, .slice A3 p.wits.length n3, .int .i64 p.quorum, .int .i64 retry, .pointer (some ⟨w2.heap.size, 0, none⟩), .slice (some ⟨w3.heap.size, 0, none⟩) p.wits.length p.wits.length, .int .i64 0, .slice none 0 0, .int .i64 0, .slice none 0 0, .slice none 0 0, .bool false, .slice none 0 0, .int .i64 0, .slice none 0 0, .int .i64 0, .slice none 0 0, .slice none 0 0, .slice none 0 0] 68)) (by simp [fdCells, fdNew, zeroR, zSg])
      have hsz : (w3.alloc (.cells (cellsW (List.replicate p.wits.length ⟨0, 0, false⟩)).toArray 74)).heap.size = w3.heap.size + 1 := by simp
      rw [hsz] at hn
      have HN := Lib.hid hn
      clear hn hsz
      go_wp2
      go_ret2
      exact ⟨_, _, rfl, HN.out.1, fun g hg => hg, HN.out.2⟩
end Go.Proofs.YtlkgeifmppadmaaGreat
