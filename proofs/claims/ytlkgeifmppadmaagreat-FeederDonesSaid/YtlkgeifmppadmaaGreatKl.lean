/- The feeder's Step. The feeder's Reply, where no cosignature is kept. slices.Clone at cosignatures. The feeder keeps a cosignature: how its blocks stand behind it. No walk. Conditions: as each theorem states them. -/
import Derived.Test.YtlkgeifmppadmaaGreatKk
import Derived.Test.YtlkgeifmppadmaaGreatKe
import Derived.Test.YtlkgeifmppadmaaGreatKg
import Derived.Test.YtlkgeifmppadmaaGreatKb
import Derived.Test.YtlkgeifmppadmaaGreatKf
namespace Go.Proofs.YtlkgeifmppadmaaGreat
open Go.RowKit
set_option linter.unusedVariables false
set_option linter.unusedSimpArgs false

def zW : WtD := ⟨0, 0, false⟩
def wAt (l : List WtD) (k : Nat) : WtD := l.getD k zW
theorem wAt_eq (l : List WtD) (k : Nat) (h : k < l.length) : wAt l k = l[k] := by simp [wAt, List.getD_eq_getElem?_getD, List.getElem?_eq_getElem h]
/-- When a witness is asked again. -/
def againZ (retry tries : Int) : Int := retry * 2 ^ (if 3 < tries then 3 else tries).toNat
theorem againZ_le (retry tries : Int) (h1 : 1 ≤ retry ∧ retry ≤ 1000) (h0 : 0 ≤ tries) : 0 ≤ againZ retry tries ∧ againZ retry tries ≤ 8000 := by
  unfold againZ
  by_cases h : 3 < tries
  · rw [if_pos h]; show 0 ≤ retry * 8 ∧ retry * 8 ≤ 8000; omega
  · rw [if_neg h]
    obtain rfl | rfl | rfl | rfl : tries = 0 ∨ tries = 1 ∨ tries = 2 ∨ tries = 3 := by omega
    · show 0 ≤ retry * 1 ∧ retry * 1 ≤ 8000; omega
    · show 0 ≤ retry * 2 ∧ retry * 2 ≤ 8000; omega
    · show 0 ≤ retry * 4 ∧ retry * 4 ≤ 8000; omega
    · show 0 ≤ retry * 8 ∧ retry * 8 ≤ 8000; omega
theorem cellsW_try (L : List WtD) (k : Nat) (t : Int) (h : k < L.length) : cellsW (L.set k ⟨(wAt L k).size, t, (wAt L k).kept⟩) = (cellsW L).set (k * 3 + 1) (.int .i64 t) := by
  rw [cellsW_set L k _ h, wAt_eq L k h]
  obtain ⟨h0, h1, h2⟩ := cellsW_at L k h
  have e : (cellsW L).set (k * 3) (.int .i64 L[k].size) = cellsW L := by
    obtain ⟨hlt, e⟩ := List.getElem?_eq_some_iff.1 h0
    rw [← e]; exact List.set_getElem_self hlt
  rw [e]
  obtain ⟨hlt, e⟩ := List.getElem?_eq_some_iff.1 h2
  rw [List.set_comm _ _ (by omega)]
  congr 1
  rw [← e]; exact List.set_getElem_self hlt
/-- A witness is asked. -/
def st1 (now : Int) (d : FdD) (k : Nat) : FdD :=
  { d with m := insE ⟨now + againZ d.retry (wAt d.l k).tries, d.ord, (k : Int)⟩ (keepW (k : Int) d.m), ord := d.ord + 1, l := d.l.set k ⟨(wAt d.l k).size, (wAt d.l k).tries + 1, (wAt d.l k).kept⟩ }
def stN (now : Int) (d : FdD) (ws : List Nat) : FdD := ws.foldl (st1 now) d
def dueL (m : List Ent) (now : Int) : List Ent := m.takeWhile (fun x => decide (x.tm ≤ now))
def dueN (m : List Ent) (now : Int) : Nat := (dueL m now).length
def whoL (m : List Ent) (now : Int) : List Nat := (dueL m now).map (fun x => x.wh.toNat)
/-- Whom a step asks, from which size. -/
def reqL (d : FdD) (now : Int) : List (Int × Int) := (whoL d.m now).map (fun k : Nat => ((k : Int), (wAt d.l k).size))
def stepD (d : FdD) (now : Int) : FdD := stN now { d with m := d.m.drop (dueN d.m now) } (whoL d.m now)
def reqCells (l : List (Int × Int)) : List Value := l.flatMap (fun x => [Value.int .i64 x.1, .int .i64 x.2])
theorem reqCells_length (l : List (Int × Int)) : (reqCells l).length = l.length * 2 := by
  induction l with
  | nil => rfl
  | cons x l ih => simp only [reqCells, List.flatMap_cons, List.length_append] at ih ⊢; rw [ih]; simp; omega
theorem reqCells_append (l m : List (Int × Int)) : reqCells (l ++ m) = reqCells l ++ reqCells m := by simp [reqCells]
theorem reqCells_at (l : List (Int × Int)) : ∀ (i : Nat) (hi : i < l.length), (reqCells l)[i * 2]? = some (.int .i64 l[i].1) ∧ (reqCells l)[i * 2 + 1]? = some (.int .i64 l[i].2) := by
  induction l with
  | nil => intro i hi; exact absurd hi (Nat.not_lt_zero _)
  | cons x l ih =>
    intro i hi
    cases i with
    | zero => exact ⟨rfl, rfl⟩
    | succ i =>
      have h := ih i (by simpa using hi)
      have e : ∀ j, (reqCells (x :: l))[(i + 1) * 2 + j]? = (reqCells l)[i * 2 + j]? := by
        intro j
        show ([Value.int .i64 x.1, .int .i64 x.2] ++ reqCells l)[(i + 1) * 2 + j]? = _
        rw [List.getElem?_append_right (by simp; omega)]
        congr 1
        simp; omega
      exact ⟨(e 0).trans h.1, (e 1).trans h.2⟩
theorem info_req : (Tryz.prog.info? 115).map (fun i => (i.zero, i.size, i.bytes)) = some (some (.agg #[.int .i64 0, .int .i64 0]), 2, 16) := by kernel_rfl
/-- The agenda turns, its row where it lay. -/
theorem FdOk.agenda0 {Z : Nat → Prop} {w w1 : World} {f : Nat} {d : FdD} {r : FdR} {us es : List Value} (h : FdOk Z w f d r us es) {v' : Value} {m' : List Ent} {ord' : Int} (ha : AgS w1 r.base r.ab v' m' ord') (hv : v'.ownBlock = r.av.ownBlock) (hc : Chg w w1 (Foot r.ab r.av)) :
    FdOk Z w1 f { d with m := m', ord := ord' } { r with av := v' } us es ∧ ∀ k, FdM f { r with av := v' } k ↔ FdM f r k := by
  have hfoot : ∀ k, Foot r.ab v' k ↔ Foot r.ab r.av k := fun k => by unfold Foot; rw [hv]
  have hM : ∀ k, FdM f { r with av := v' } k ↔ FdM f r k := fun k => by
    show (k = f ∨ k = r.lb ∨ r.kv.ownBlock = some k ∨ Foot r.ab v' k) ↔ (k = f ∨ k = r.lb ∨ r.kv.ownBlock = some k ∨ Foot r.ab r.av k)
    rw [hfoot]
  have h1 := h.tx.chg hc (fun g hg e => hg.2 (.inr (.inr (.inr e))))
  refine ⟨⟨h.blk.chg hc h.n4, h.wt.chg hc h.n5, ha, ownsRow_chg h.kp hc h.n6, Nat.le_trans h.kbl hc.size, Nat.le_trans h.bal hc.size, ?_, h.n1, h.n2, h.n3, fun e => h.n4 ((hfoot f).1 e), fun e => h.n5 ((hfoot _).1 e), fun k hk e => h.n6 k hk ((hfoot k).1 e), fun k hk => h.mz k ((hM k).1 hk)⟩, hM⟩
  exact FdT.mono ⟨h1.pl, h1.pw, h1.cr, h1.cp, h1.cq, h1.dr, h1.dp, h1.dq, h1.kd, h1.en, h1.ef, h1.ed⟩ (fun g hg => ⟨hg.1, fun e => hg.2 ((hM g).1 e)⟩)
theorem stN_l (now : Int) (ws : List Nat) : ∀ d : FdD, (stN now d ws).l.length = d.l.length := by
  induction ws with
  | nil => intro d; rfl
  | cons k ws ih => intro d; show (stN now (st1 now d k) ws).l.length = _; rw [ih]; simp [st1]
theorem stN_snoc (now : Int) (d : FdD) (ws : List Nat) (k : Nat) : stN now d (ws ++ [k]) = st1 now (stN now d ws) k := by simp [stN]
theorem stN_m (now : Int) (ws : List Nat) : ∀ d : FdD, (stN now d ws).m.length ≤ d.m.length + ws.length := by
  induction ws with
  | nil => intro d; exact Nat.le_refl _
  | cons k ws ih =>
    intro d
    have h1 := ih (st1 now d k)
    have h2 : (st1 now d k).m.length ≤ d.m.length + 1 := by
      show (insE _ (keepW _ _)).length ≤ _
      rw [insE_length]
      have := keepW_le (k : Int) d.m
      omega
    show (stN now (st1 now d k) ws).m.length ≤ d.m.length + (ws.length + 1)
    omega
theorem stN_ord (now : Int) (ws : List Nat) : ∀ d : FdD, (stN now d ws).ord = d.ord + (ws.length : Int) := by
  induction ws with
  | nil => intro d; simp [stN]
  | cons k ws ih => intro d; show (stN now (st1 now d k) ws).ord = _; rw [ih]; show d.ord + 1 + _ = _; simp; omega
theorem stN_retry (now : Int) (ws : List Nat) : ∀ d : FdD, (stN now d ws).retry = d.retry := by
  induction ws with
  | nil => intro d; rfl
  | cons k ws ih => intro d; show (stN now (st1 now d k) ws).retry = _; rw [ih]; rfl
theorem stN_p (now : Int) (ws : List Nat) : ∀ d : FdD, (stN now d ws).p = d.p := by
  induction ws with
  | nil => intro d; rfl
  | cons k ws ih => intro d; show (stN now (st1 now d k) ws).p = _; rw [ih]; rfl
def TrOk (l : List WtD) (B : Int) : Prop := ∀ k, 0 ≤ (wAt l k).tries ∧ (wAt l k).tries ≤ B
theorem wAt_set (l : List WtD) (k j : Nat) (x : WtD) : wAt (l.set k x) j = if k = j ∧ k < l.length then x else wAt l j := by
  unfold wAt
  rw [List.getD_eq_getElem?_getD, List.getD_eq_getElem?_getD, List.getElem?_set]
  by_cases e : k = j
  · subst e
    by_cases h : k < l.length
    · simp [h]
    · simp [h]
  · simp [e]
theorem stN_tr (now : Int) (ws : List Nat) : ∀ (d : FdD) (B : Int), TrOk d.l B → TrOk (stN now d ws).l (B + ws.length) := by
  induction ws with
  | nil => intro d B h; simpa [stN] using h
  | cons k ws ih =>
    intro d B h
    have h1 : TrOk (st1 now d k).l (B + 1) := by
      intro j
      have h2 := h j
      have h3 := h k
      have e : wAt (st1 now d k).l j = if k = j ∧ k < d.l.length then ⟨(wAt d.l k).size, (wAt d.l k).tries + 1, (wAt d.l k).kept⟩ else wAt d.l j := wAt_set d.l k j _
      rw [e]
      split
      · exact ⟨by show 0 ≤ (wAt d.l k).tries + 1; omega, by show (wAt d.l k).tries + 1 ≤ B + 1; omega⟩
      · exact ⟨h2.1, by omega⟩
    have h2 := ih (st1 now d k) (B + 1) h1
    show TrOk (stN now (st1 now d k) ws).l (B + ((ws.length + 1 : Nat) : Int))
    rw [show B + ((ws.length + 1 : Nat) : Int) = B + 1 + (ws.length : Int) by omega]
    exact h2
theorem dueN_le (m : List Ent) (now : Int) : dueN m now ≤ m.length := (List.takeWhile_prefix _).length_le
theorem due_at (m : List Ent) (now : Int) (j : Nat) (h : j < dueN m now) : ∃ x, (dueL m now)[j]? = some x ∧ m.drop j = x :: m.drop (j + 1) ∧ x.tm ≤ now ∧ x ∈ m := by
  have hl := dueN_le m now
  have hj : j < m.length := by omega
  have hx : (dueL m now)[j]'h = m[j] := by
    have hp := List.takeWhile_prefix (fun x : Ent => decide (x.tm ≤ now)) (l := m)
    exact (List.prefix_iff_getElem.1 hp).2 j h
  refine ⟨m[j], by rw [List.getElem?_eq_getElem h, hx], List.drop_eq_getElem_cons hj, ?_, List.getElem_mem hj⟩
  have h2 : (dueL m now)[j]'h ∈ dueL m now := List.getElem_mem h
  rw [hx] at h2
  have h3 : (dueL m now).all (fun x : Ent => decide (x.tm ≤ now)) = true := List.all_takeWhile
  have := List.all_eq_true.1 h3 _ h2
  simpa using this
theorem due_end (m : List Ent) (now : Int) : m.drop (dueN m now) = [] ∨ ∃ x t, m.drop (dueN m now) = x :: t ∧ now < x.tm := by
  unfold dueN dueL
  induction m with
  | nil => exact .inl rfl
  | cons y m ih =>
    by_cases h : y.tm ≤ now
    · simp only [List.takeWhile_cons, h, decide_true, if_true, List.length_cons, List.drop_succ_cons]
      exact ih
    · right
      refine ⟨y, m, ?_, by omega⟩
      simp [List.takeWhile_cons, h]
theorem who_at (m : List Ent) (now : Int) (j : Nat) (x : Ent) (h : (dueL m now)[j]? = some x) : (whoL m now)[j]? = some x.wh.toNat := by simp [whoL, h]
def StepPost (Z : Nat → Prop) (w : World) (f : Nat) (d : FdD) (now : Int) (e : Ending) (w' : World) : Prop :=
  ∃ v, e = .returned v ∧ w'.ownsRow w.heap.size 115 2 v (reqL d now).length (reqCells (reqL d now)) ∧ FdAt (Wide Z w w') w' f (stepD d now) ∧ Chg w w' Z
def StepPost2 (Z : Nat → Prop) (w : World) (f : Nat) (d : FdD) (now : Int) (e : Ending) (w' : World) : Prop :=
  ∃ v, e = .returned v ∧ w'.ownsRow w.heap.size 115 2 v (reqL d now).length (reqCells (reqL d now)) ∧ FdAt (fun g => Wide Z w w' g ∧ v.ownBlock ≠ some g) w' f (stepD d now) ∧ Chg w w' Z
/-- What the first loop keeps. -/
def StI (Z : Nat → Prop) (w wr : World) (f : Nat) (d : FdD) (r0 : FdR) (us es : List Value) (now : Int) (j : Nat) (v : Value) : Prop :=
  ∃ av, FdOk Z wr f { d with m := d.m.drop j } { r0 with av := av } us es ∧ (∀ k, FdM f { r0 with av := av } k ↔ FdM f r0 k) ∧ wr.ownsRow w.heap.size 115 2 v j (reqCells ((reqL d now).take j)) ∧ Chg w wr Z
/-- What the second loop keeps. -/
def StJ (Z : Nat → Prop) (w W1 wr : World) (f : Nat) (d1 : FdD) (now : Int) (ws : List Nat) (us es : List Value) (v : Value) (cs : List Value) (n : Nat) : Prop :=
  ∃ Zj rr, FdOk Zj wr f (stN now d1 ws) rr us es ∧ (∀ g, Zj g → Z g ∨ (W1.heap.size ≤ g ∧ g < wr.heap.size)) ∧ (∀ g, FdM f rr g → g < w.heap.size ∨ W1.heap.size ≤ g) ∧ Chg w wr Z ∧ wr.ownsRow w.heap.size 115 2 v n cs ∧ W1.heap.size ≤ wr.heap.size
set_option maxRecDepth 100000 in
set_option maxHeartbeats 8000000 in
theorem step_any2 (Z : Nat → Prop) (f : Nat) (d : FdD) (now : Int) (hn : 0 ≤ now ∧ now ≤ 1000000000000) (hre : 1 ≤ d.retry ∧ d.retry ≤ 1000) (hm : d.m.length ≤ 1000000) (ho : d.ord ≤ 100000000) (hwh : ∀ x ∈ d.m, 0 ≤ x.wh ∧ x.wh < (d.l.length : Int)) (htr : TrOk d.l 1000000) (hl : d.l.length ≤ 1000) (w : World) (hZ : ∀ g, Z g → g < w.heap.size) (hok : FdAt Z w f d) :
    Calls Tryz.prog 35 #[.pointer (some ⟨f, 0, none⟩), .int .i64 now] w (StepPost2 Z w f d now) := by
  obtain ⟨r, us, es, hok⟩ := hok
  obtain ⟨i0, hi0, hz0, hz1, hz2⟩ := info_parts info_req
  have HO := Lib.hid hok
  have HWH := Lib.hid hwh
  have HTR := Lib.hid htr
  have HZ := Lib.hid hZ
  have hNm := dueN_le d.m now
  have hRl : (reqL d now).length = dueN d.m now := by simp [reqL, whoL, dueN]
  have HRL := Lib.hid hRl
  clear hok hwh htr hZ hRl
  go_enter Tryz.func35, Tryz.ntmps35
  go_wp2
  go_loopw [5] (fun v5 wr => ∃ (j : Nat) (A : Option Addr) (c : Nat), v5 = .slice A j c ∧ j ≤ dueN d.m now ∧ Hid (StI Z w wr f d r us es now j (.slice A j c))) (fun v _ => dueN d.m now - lenV v)
  case atStart => exact ⟨0, none, 0, rfl, Nat.zero_le _, Lib.hid ⟨r.av, HO.out, fun k => Iff.rfl, World.ownsRow_nil _ _ _ _, Chg.refl _ _⟩⟩
  case round =>
    obtain ⟨j, A, c, rfl, hj, HI⟩ := hrel
    obtain ⟨av, hI1, hI2, hI3, hI4⟩ := HI.out
    have q4 : wr.cell? ⟨f, 4, none⟩ = some (.pointer (some ⟨r.ab, 0, none⟩)) := hI1.blk.cell 4 _ rfl
    have q5 : wr.cell? ⟨f, 5, none⟩ = some (.slice (some ⟨r.lb, 0, none⟩) d.l.length d.l.length) := cell5 hI1.blk
    have hfl := hI1.blk.lt
    have HI1 := Lib.hid (And.intro hI1 (And.intro hI2 (And.intro hI3 hI4)))
    clear hI1 hI2 hI3 hI4 HI
    by_cases hlt : j < dueN d.m now
    · obtain ⟨x, hx1, hx2, hx3, hx4⟩ := due_at d.m now j hlt
      obtain ⟨hw0, hw1⟩ := HWH.out x hx4
      obtain ⟨tm, xo, wh⟩ := x
      obtain ⟨k, rfl⟩ := Int.eq_ofNat_of_zero_le (show 0 ≤ wh from hw0)
      have hkl : k < d.l.length := by have : ((k : Nat) : Int) < (d.l.length : Int) := hw1; omega
      have HREQ : Hid ((reqL d now).take (j + 1) = (reqL d now).take j ++ [((k : Int), d.l[k].size)]) := Lib.hid (by
        have hjr : j < (reqL d now).length := by rw [HRL.out]; exact hlt
        rw [List.take_succ_eq_append_getElem hjr]
        congr 2
        have h9 := who_at d.m now j _ hx1
        obtain ⟨h10, h11⟩ := List.getElem?_eq_some_iff.1 h9
        simp only [reqL, List.getElem_map, h11]
        rw [show (Ent.mk tm xo (k : Int)).wh.toNat = k by simp, wAt_eq d.l k hkl])
      have HD := Lib.hid (due_yes r.base r.ab av ⟨tm, xo, (k : Int)⟩ (d.m.drop (j + 1)) d.ord now (by rw [List.length_drop]; omega) hx3 wr (by
        have h9 := HI1.out.1.ag
        have e : d.m.drop j = ⟨tm, xo, (k : Int)⟩ :: d.m.drop (j + 1) := hx2
        show AgS wr r.base r.ab av (⟨tm, xo, (k : Int)⟩ :: d.m.drop (j + 1)) d.ord
        rw [← e]
        exact h9))
      clear hx1 hx2 hx3 hx4 hw0 hw1
      go_wp2_with fail
      refine HD.out.mono ?_
      rintro e w1 ⟨v1, rfl, h1, h2, h3⟩
      obtain ⟨h4, h5⟩ := HI1.out.1.agenda0 h1 h2 h3
      have h6 : w1.ownsRow w.heap.size 115 2 (.slice A j c) j (reqCells ((reqL d now).take j)) := ownsRow_chg HI1.out.2.2.1 h3 (fun g hg e => by
        have h7 := HZ.out g (HI1.out.1.mz g (.inr (.inr (.inr e))))
        have h8 := (World.ownsRow.lt HI1.out.2.2.1 g hg).1
        omega)
      have h7 : Chg w w1 Z := HI1.out.2.2.2.trans h3 (fun g hg e => HI1.out.1.mz g (.inr (.inr (.inr e))))
      have h8 := h4.wt
      have p5 : w1.cell? ⟨f, 5, none⟩ = some (.slice (some ⟨r.lb, 0, none⟩) d.l.length d.l.length) := cell5 h4.blk
      have p0 : w1.cell? ⟨r.lb, k * 3, none⟩ = some (.int .i64 d.l[k].size) := h8.cell _ _ (cellsW_at d.l k hkl).1
      have hkI : ((k : Nat) : Int) < (d.l.length : Int) := by omega
      have hsz1 := h7.size
      have H1 := Lib.hid (And.intro h4 (And.intro (fun g => (h5 g).trans (HI1.out.2.1 g)) (And.intro h6 h7)))
      clear h1 h2 h3 h4 h5 h6 h7 h8 q4 q5
      generalize d.l[k].size = xs at *
      go_wp2_with (at_builtin; (refine wpList_append_lie rfl (.tmp 22) (.tmp 33) 80 rfl w.heap.size 115 i0 (.agg #[.int .i64 0, .int .i64 0]) 2 16 Tryz.underlying80 hi0 hz0 hz1 hz2 rfl (by decide) _ j _ rfl (World.ownsRow.alloc H1.out.2.2.1 _) _ 1 [.int .i64 k, .int .i64 xs] rfl ((Sho.new w1 115 [.int .i64 k, .int .i64 xs] 1 2 1 rfl (Nat.le_refl _) (by decide)).news (fun u hu => by simp at hu; rcases hu with rfl | rfl <;> rfl)) (by unfold maxLen; omega) (by omega) (by simp; omega) ?_); intro v2 W2 hown2 hgrow2 hlie2; obtain ⟨A2, c2, rfl⟩ := (Sho.own hown2).form; have H2 : Hid (StI Z w W2 f d r us es now (j + 1) (.slice A2 (j + 1) c2)) := Lib.hid (by
          have hc2 : Chg w1 W2 (fun g => (Value.slice A j c).ownBlock = some g) := ((Chg.refl w1 _).alloc _).trans (Chg.of_grown hgrow2) (fun i _ h => h.symm)
          have hT : ∀ g, (Value.slice A j c).ownBlock = some g → w.heap.size ≤ g := fun g hg => (World.ownsRow.lt H1.out.2.2.1 g hg).1
          refine ⟨v1, H1.out.1.chg hc2 (fun g hg e => by have := HZ.out g hg; have := hT g e; omega), H1.out.2.1, ?_, H1.out.2.2.2.trans hc2 (fun g hg e => absurd (hT g e) (by omega))⟩
          rw [HREQ.out, reqCells_append]
          exact hown2); clear hown2 hgrow2 hlie2)
      go_roundw
      case rel => exact ⟨j + 1, A2, c2, rfl, by omega, H2⟩
      case measure => simp [lenV]; omega
    · obtain rfl : j = dueN d.m now := by omega
      have HD : Hid (Calls Tryz.prog 63 #[.pointer (some ⟨r.ab, 0, none⟩), .int .i64 now] wr fun e w' => e = .returned (.tuple #[.int .i64 0, .bool false]) ∧ ∃ n, w' = wr.drewN n) := Lib.hid (by
        have h9 := HI1.out.1.ag
        rcases due_end d.m now with e | ⟨x, t, e, ht⟩
        · exact due_none r.base r.ab av d.ord now wr (by
            show AgS wr r.base r.ab av [] d.ord
            rw [← e]; exact h9)
        · exact due_early r.base r.ab av x t d.ord now ht wr (by
            show AgS wr r.base r.ab av (x :: t) d.ord
            rw [← e]; exact h9))
      have hwl : (whoL d.m now).length = dueN d.m now := by simp [whoL, dueN]
      have HWL := Lib.hid hwl
      clear hwl
      go_wp2_with fail
      refine HD.out.mono ?_
      rintro e w1 ⟨rfl, n1, rfl⟩
      have hwW1 : w.heap.size ≤ (wr.drewN n1).heap.size := HI1.out.2.2.2.size
      have HVL : Hid (∀ k, (Value.slice A (dueN d.m now) c).ownBlock = some k → k < (wr.drewN n1).heap.size) := Lib.hid (fun k hk => (World.ownsRow.lt HI1.out.2.2.1 k hk).2)
      have H1 : Hid (StJ Z w (wr.drewN n1) (wr.drewN n1) f { d with m := d.m.drop (dueN d.m now) } now ((whoL d.m now).take 0) us es (.slice A (dueN d.m now) c) (reqCells (reqL d now)) (dueN d.m now)) := Lib.hid (by
        have h9 := HI1.out.2.2.1
        rw [List.take_of_length_le (by rw [HRL.out]; exact Nat.le_refl _)] at h9
        exact ⟨Z, _, HI1.out.1.below (below_drewN (Below.refl _ _) _), fun g hg => .inl hg, fun g hg => .inl (HZ.out g (HI1.out.1.mz g hg)), HI1.out.2.2.2.drewN _, ownsRow_chg h9 ((Chg.refl wr (fun _ => False)).drewN n1) (fun _ _ h => h), Nat.le_refl _⟩)
      clear q4 q5 HD
      generalize wr.drewN n1 = W1 at *
      have hd1 : ({ d with m := d.m.drop (dueN d.m now) } : FdD).m.length ≤ 1000000 := by show (d.m.drop _).length ≤ _; rw [List.length_drop]; omega
      have HD1 : Hid (({ d with m := d.m.drop (dueN d.m now) } : FdD).l = d.l ∧ ({ d with m := d.m.drop (dueN d.m now) } : FdD).retry = d.retry ∧ ({ d with m := d.m.drop (dueN d.m now) } : FdD).ord = d.ord ∧ stN now { d with m := d.m.drop (dueN d.m now) } (whoL d.m now) = stepD d now ∧ ∀ k ∈ whoL d.m now, k < d.l.length) := Lib.hid ⟨rfl, rfl, rfl, rfl, fun k hk => by
        simp only [whoL, List.mem_map] at hk
        obtain ⟨x, hx, rfl⟩ := hk
        have hx2 : x ∈ d.m := (List.takeWhile_prefix _).subset hx
        have := HWH.out x hx2
        omega⟩
      have HRQ : Hid (∀ j (h : j < (whoL d.m now).length) (h2 : j < (reqL d now).length), (reqL d now)[j] = (((whoL d.m now)[j] : Int), (wAt d.l (whoL d.m now)[j]).size)) := Lib.hid (fun j h h2 => by simp [reqL])
      generalize ({ d with m := d.m.drop (dueN d.m now) } : FdD) = d1 at *
      generalize whoL d.m now = ws at *
      generalize hrqE : reqL d now = rq at *
      have HRQE := Lib.hid hrqE
      clear hrqE
      generalize dueN d.m now = n at *
      clear HI1
      go_wp2
      go_loopw [37] (fun v37 wr => ∃ j : Nat, v37 = .int .i64 j ∧ j ≤ n ∧ Hid (StJ Z w W1 wr f d1 now (ws.take j) us es (.slice A n c) (reqCells rq) n)) (fun v _ => n - (intOf v).toNat)
      case atStart => exact ⟨0, rfl, Nat.zero_le _, H1⟩
      case round =>
        obtain ⟨j, rfl, hj2, HJ⟩ := hrel
        by_cases hlt2 : j < n
        · obtain ⟨Zj, rr, hJ1, hJ2, hJ3, hJ4, hJ5, hJ6⟩ := HJ.out
          obtain ⟨g, cap, eA, hgw, hgl⟩ := hJ5.form (by omega)
          injection eA with eA1 eA2 eA3
          subst eA1 eA3
          have hjw : j < ws.length := by rw [HWL.out]; exact hlt2
          have hjr : j < rq.length := by rw [HRL.out]; exact hlt2
          have hcell : ∀ i u, (reqCells rq)[i]? = some u → wr.cell? ⟨g, i, none⟩ = some u := fun i u hu => by
            obtain ⟨g', o', e1, -, -, -, -, h8⟩ := (Sho.own hJ5).place (by omega)
            injection e1 with e1
            injection e1 with e1 e2
            subst e1 e2
            have := h8 i u hu
            rwa [Nat.zero_add] at this
          have hk : ws[j] < d.l.length := HD1.out.2.2.2.2 _ (List.getElem_mem hjw)
          have hrq := HRQ.out j hjw hjr
          have p0 := hcell (j * 2) _ (reqCells_at rq j hjr).1
          have p1 := hcell (j * 2 + 1) _ (reqCells_at rq j hjr).2
          rw [hrq] at p0 p1
          have HTK : Hid (ws.take (j + 1) = ws.take j ++ [ws[j]]) := Lib.hid (List.take_succ_eq_append_getElem hjw)
          have hdl : (stN now d1 (ws.take j)).l.length = d.l.length := by rw [stN_l, HD1.out.1]
          have hdr : (stN now d1 (ws.take j)).retry = d.retry := by rw [stN_retry, HD1.out.2.1]
          have htk : (ws.take j).length ≤ 1000000 := by rw [List.length_take]; omega
          have hdm : (stN now d1 (ws.take j)).m.length ≤ 10000000 := by have := stN_m now (ws.take j) d1; omega
          have hdo : (stN now d1 (ws.take j)).ord ≤ 1000000000 := by rw [stN_ord, HD1.out.2.2.1]; omega
          have htr2 : 0 ≤ (wAt (stN now d1 (ws.take j)).l ws[j]).tries ∧ (wAt (stN now d1 (ws.take j)).l ws[j]).tries ≤ 2000000 := by
            have h9 := stN_tr now (ws.take j) d1 1000000 (by rw [HD1.out.1]; exact HTR.out) ws[j]
            exact ⟨h9.1, by omega⟩
          have HST : Hid (stN now d1 (ws.take (j + 1)) = st1 now (stN now d1 (ws.take j)) ws[j]) := Lib.hid (by rw [HTK.out, stN_snoc])
          have hwl := hJ1.wt
          have hc5 := cell5 hJ1.blk
          have hc3 : wr.cell? ⟨f, 3, none⟩ = some (.int .i64 d.retry) := by rw [← hdr]; exact hJ1.blk.cell 3 _ rfl
          rw [hdl] at hc5
          generalize (wAt d.l ws[j]).size = sz at *
          generalize hkE : ws[j] = k at *
          generalize stN now d1 (ws.take j) = dj at *
          have hw0 := cellsW_at dj.l k (by rw [hdl]; exact hk)
          rw [← wAt_eq dj.l k (by rw [hdl]; exact hk)] at hw0
          have ht1 : wr.cell? ⟨rr.lb, k * 3 + 1, none⟩ = some (.int .i64 (wAt dj.l k).tries) := hwl.cell _ _ hw0.2.1
          have hltl := hwl.lt
          have hltf := hJ1.blk.lt
          have HK := Lib.hid (And.intro hJ1 (And.intro hJ2 (And.intro hJ3 (And.intro hJ4 hJ5))))
          have HDJ := Lib.hid (And.intro hdl (And.intro hdr (And.intro hdm hdo)))
          obtain ⟨ht0, ht2⟩ := htr2
          have hkI : ((k : Nat) : Int) < (d.l.length : Int) := by omega
          clear hJ1 hJ2 hJ3 hJ4 hJ5 hcell hrq hwl hw0 hdl hdr hdm hdo htk HJ
          generalize hTR : (wAt dj.l k).tries = tr at *
          have HTRE := Lib.hid hTR
          clear hTR hkE
          have e1 : IntKind.i64.wrap (d.retry * 2 ^ (if 3 < tr then 3 else tr).toNat) = againZ d.retry tr := IntWalk.i64_in _ (by have := againZ_le d.retry tr hre ht0; unfold againZ at this; omega)
          have e2 : IntKind.i64.wrap (now + againZ d.retry tr) = now + againZ d.retry tr := IntWalk.i64_in _ (by have := againZ_le d.retry tr hre ht0; omega)
          have HE12 := Lib.hid (And.intro e1 e2)
          clear e1 e2
          have hgW : g < W1.heap.size := by
            obtain ⟨_, _, _, _, _, _, h9, _⟩ := H1.out
            exact (World.ownsRow.lt h9 g rfl).2
          have hrs := HK.out.2.2.2.1.size
          go_wp2
          refine code_at (fun W2 => Below wr.heap.size wr W2 ∧ Blk W2 wr.heap.size 115 [.int .i64 k, .int .i64 sz]) ⟨(Below.refl _ _).alloc (Nat.le_refl _) _, Blk.new wr 115 [.int .i64 k, .int .i64 sz]⟩ ?_
          rintro W2 ⟨hb2, hk2⟩
          have c5 := (hb2.cell (p := ⟨f, 5, none⟩) hltf).trans hc5
          have c0 := hk2.cell 0 _ rfl
          refine wp_region_held_drew (S := fun w' => w'.cell? ⟨f, 5, none⟩ = some (.slice (some ⟨rr.lb, 0, none⟩) d.l.length d.l.length) ∧ w'.cell? ⟨wr.heap.size, 0, none⟩ = some (.int .i64 k)) (by kernel_rfl) ?_ (fun hHeld => ?_)
          · exact ⟨c5, c0⟩
          refine take_yes 0 41 rfl rfl (by kernel_rfl) (by kernel_rfl) (by kernel_rfl) (fun _ _ _ h => h) (by assumption) (by rfl) (v := ?_) ?_ ?_
          rotate_left 1
          · (intro w hSw; (try dsimp only at hSw); go_simp; try with_reducible rfl)
          simp only [List.setIfInBounds_toArray, List.set_cons_zero, List.set_cons_succ]
          refine take_yes 1 42 rfl rfl (by kernel_rfl) (by kernel_rfl) (by kernel_rfl) (fun _ _ _ h => h) (by assumption) (by rfl) (v := ?_) ?_ ?_
          rotate_left 1
          · (intro w hSw; (try dsimp only at hSw); go_simp; try with_reducible rfl)
          simp only [List.setIfInBounds_toArray, List.set_cons_zero, List.set_cons_succ]
          refine take_yes 2 43 rfl rfl (by kernel_rfl) (by kernel_rfl) (by kernel_rfl) (fun _ _ _ h => h) (by assumption) (by rfl) (v := ?_) ?_ ?_
          rotate_left 1
          · (intro w hSw; (try dsimp only at hSw); go_simp; try with_reducible rfl)
          simp only [List.setIfInBounds_toArray, List.set_cons_zero, List.set_cons_succ]
          refine take_yes 3 44 rfl rfl (by kernel_rfl) (by kernel_rfl) (by kernel_rfl) (fun _ _ _ h => h) (by assumption) (by rfl) (v := ?_) ?_ ?_
          rotate_left 1
          · (intro w hSw; (try dsimp only at hSw); go_simp; try with_reducible rfl)
          simp only [List.setIfInBounds_toArray, List.set_cons_zero, List.set_cons_succ]
          refine take_yes 4 45 rfl rfl (by kernel_rfl) (by kernel_rfl) (by kernel_rfl) (fun _ _ _ h => h) (by assumption) (by rfl) (v := ?_) ?_ ?_
          rotate_left 1
          · (intro w hSw; (try dsimp only at hSw); go_simp; try with_reducible rfl)
          simp only [List.setIfInBounds_toArray, List.set_cons_zero, List.set_cons_succ]
          refine take_yes 5 46 rfl rfl (by kernel_rfl) (by kernel_rfl) (by kernel_rfl) (fun _ _ _ h => h) (by assumption) (by rfl) (v := ?_) ?_ ?_
          rotate_left 1
          · (intro w hSw; (try dsimp only at hSw); go_simp; try with_reducible rfl)
          simp only [List.setIfInBounds_toArray, List.set_cons_zero, List.set_cons_succ]
          refine take_yes 6 47 rfl rfl (by kernel_rfl) (by kernel_rfl) (by kernel_rfl) (fun _ _ _ h => h) (by assumption) (by rfl) (v := ?_) ?_ ?_
          rotate_left 1
          · (intro w hSw; (try dsimp only at hSw); go_simp; try with_reducible rfl)
          simp only [List.setIfInBounds_toArray, List.set_cons_zero, List.set_cons_succ]
          refine take_yes 7 10 rfl rfl (by kernel_rfl) (by kernel_rfl) (by kernel_rfl) (fun _ _ _ h => h) (by assumption) (by rfl) (v := ?_) ?_ ?_
          rotate_left 1
          · (intro w hSw; (try dsimp only at hSw); go_simp; try with_reducible rfl)
          simp only [List.setIfInBounds_toArray, List.set_cons_zero, List.set_cons_succ]
          refine wpAnyH_done (by kernel_rfl) ?_ _
          go_wp2
          refine code_at (fun W3 => Below wr.heap.size wr W3 ∧ Blk W3 wr.heap.size 115 [.int .i64 k, .int .i64 sz]) ⟨hb2.drew, hk2.drew⟩ ?_
          rintro W3 ⟨hb3, hk3⟩
          clear hHeld c5 c0 hb2 hk2
          have c3 := (hb3.cell (p := ⟨f, 3, none⟩) hltf).trans hc3
          have c1 := (hb3.cell (p := ⟨rr.lb, k * 3 + 1, none⟩) hltl).trans ht1
          have c0 := hk3.cell 0 _ rfl
          refine wp_region_held_drew (S := fun w' => w'.cell? ⟨f, 3, none⟩ = some (.int .i64 d.retry) ∧ w'.cell? ⟨rr.lb, k * 3 + 1, none⟩ = some (.int .i64 tr) ∧ w'.cell? ⟨wr.heap.size, 0, none⟩ = some (.int .i64 k)) (by kernel_rfl) ?_ (fun hHeld => ?_)
          · exact ⟨c3, c1, c0⟩
          refine take_yes 0 48 rfl rfl (by kernel_rfl) (by kernel_rfl) (by kernel_rfl) (fun _ _ _ h => h) (by assumption) (by rfl) (v := ?_) ?_ ?_
          rotate_left 1
          · (intro w hSw; (try dsimp only at hSw); go_simp; try with_reducible rfl)
          simp only [List.setIfInBounds_toArray, List.set_cons_zero, List.set_cons_succ]
          refine take_yes 1 49 rfl rfl (by kernel_rfl) (by kernel_rfl) (by kernel_rfl) (fun _ _ _ h => h) (by assumption) (by rfl) (v := ?_) ?_ ?_
          rotate_left 1
          · (intro w hSw; (try dsimp only at hSw); go_simp; try with_reducible rfl)
          simp only [List.setIfInBounds_toArray, List.set_cons_zero, List.set_cons_succ]
          refine take_yes 2 50 rfl rfl (by kernel_rfl) (by kernel_rfl) (by kernel_rfl) (fun _ _ _ h => h) (by assumption) (by rfl) (v := ?_) ?_ ?_
          rotate_left 1
          · (intro w hSw; (try dsimp only at hSw); go_simp; try with_reducible rfl)
          simp only [List.setIfInBounds_toArray, List.set_cons_zero, List.set_cons_succ]
          refine take_yes 3 51 rfl rfl (by kernel_rfl) (by kernel_rfl) (by kernel_rfl) (fun _ _ _ h => h) (by assumption) (by rfl) (v := ?_) ?_ ?_
          rotate_left 1
          · (intro w hSw; (try dsimp only at hSw); go_simp; try with_reducible rfl)
          simp only [List.setIfInBounds_toArray, List.set_cons_zero, List.set_cons_succ]
          refine take_yes 4 52 rfl rfl (by kernel_rfl) (by kernel_rfl) (by kernel_rfl) (fun _ _ _ h => h) (by assumption) (by rfl) (v := ?_) ?_ ?_
          rotate_left 1
          · (intro w hSw; (try dsimp only at hSw); go_simp; try with_reducible rfl)
          simp only [List.setIfInBounds_toArray, List.set_cons_zero, List.set_cons_succ]
          refine take_yes 5 53 rfl rfl (by kernel_rfl) (by kernel_rfl) (by kernel_rfl) (fun _ _ _ h => h) (by assumption) (by rfl) (v := ?_) ?_ ?_
          rotate_left 1
          · (intro w hSw; (try dsimp only at hSw); go_simp; try with_reducible rfl)
          simp only [List.setIfInBounds_toArray, List.set_cons_zero, List.set_cons_succ]
          refine take_yes 6 54 rfl rfl (by kernel_rfl) (by kernel_rfl) (by kernel_rfl) (fun _ _ _ h => h) (by assumption) (by rfl) (v := ?_) ?_ ?_
          rotate_left 1
          · (intro w hSw; (try dsimp only at hSw); go_simp; try with_reducible rfl)
          simp only [List.setIfInBounds_toArray, List.set_cons_zero, List.set_cons_succ]
          refine take_yes 7 55 rfl rfl (by kernel_rfl) (by kernel_rfl) (by kernel_rfl) (fun _ _ _ h => h) (by assumption) (by rfl) (v := ?_) ?_ ?_
          rotate_left 1
          · (intro w hSw; (try dsimp only at hSw); go_simp; try with_reducible rfl)
          simp only [List.setIfInBounds_toArray, List.set_cons_zero, List.set_cons_succ]
          refine take_yes 8 56 rfl rfl (by kernel_rfl) (by kernel_rfl) (by kernel_rfl) (fun _ _ _ h => h) (by assumption) (by rfl) (v := ?_) ?_ ?_
          rotate_left 1
          · (intro w hSw; (try dsimp only at hSw); go_simp; try with_reducible rfl)
          simp only [List.setIfInBounds_toArray, List.set_cons_zero, List.set_cons_succ]
          refine take_yes 9 57 rfl rfl (by kernel_rfl) (by kernel_rfl) (by kernel_rfl) (fun _ _ _ h => h) (by assumption) (by rfl) (v := ?_) ?_ ?_
          rotate_left 1
          · (intro w hSw; (try dsimp only at hSw); go_simp; try with_reducible rfl)
          simp only [List.setIfInBounds_toArray, List.set_cons_zero, List.set_cons_succ]
          refine take_yes 10 58 rfl rfl (by kernel_rfl) (by kernel_rfl) (by kernel_rfl) (fun _ _ _ h => h) (by assumption) (by rfl) (v := ?_) ?_ ?_
          rotate_left 1
          · (intro w hSw; (try dsimp only at hSw); go_simp; try with_reducible rfl)
          simp only [List.setIfInBounds_toArray, List.set_cons_zero, List.set_cons_succ]
          refine take_yes 11 59 rfl rfl (by kernel_rfl) (by kernel_rfl) (by kernel_rfl) (fun _ _ _ h => h) (by assumption) (by rfl) (v := ?_) ?_ ?_
          rotate_left 1
          · (intro w hSw; (try dsimp only at hSw); go_simp; try with_reducible rfl)
          simp only [List.setIfInBounds_toArray, List.set_cons_zero, List.set_cons_succ]
          refine take_yes 12 60 rfl rfl (by kernel_rfl) (by kernel_rfl) (by kernel_rfl) (fun _ _ _ h => h) (by assumption) (by rfl) (v := ?_) ?_ ?_
          rotate_left 1
          · (intro w hSw; (try dsimp only at hSw); go_simp; try with_reducible rfl)
          simp only [List.setIfInBounds_toArray, List.set_cons_zero, List.set_cons_succ]
          refine take_yes 13 61 rfl rfl (by kernel_rfl) (by kernel_rfl) (by kernel_rfl) (fun _ _ _ h => h) (by assumption) (by rfl) (v := ?_) ?_ ?_
          rotate_left 1
          · (intro w hSw; (try dsimp only at hSw); go_simp; try with_reducible rfl)
          simp only [List.setIfInBounds_toArray, List.set_cons_zero, List.set_cons_succ]
          refine take_yes 14 62 rfl rfl (by kernel_rfl) (by kernel_rfl) (by kernel_rfl) (fun _ _ _ h => h) (by assumption) (by rfl) (v := ?_) ?_ ?_
          rotate_left 1
          · (intro w hSw; (try dsimp only at hSw); go_simp; try with_reducible rfl)
          simp only [List.setIfInBounds_toArray, List.set_cons_zero, List.set_cons_succ]
          refine wpAnyH_ready (rs := [15]) (by kernel_rfl) (by simp) ?_
          refine AllReadyH.cons rfl (fun K hK => ?_) AllReadyH.nil
          -- 15:  dst := some 63, op := Op.call  callee := Callee.value (Operand.func 35), args := #[Operand.tmp 48, Operand.tmp 60, Operand.tmp 
          go_simp
          go_at_call 29
          rw [HE12.out.1, HE12.out.2]
          have hok3 := HK.out.1.below hb3.drew
          refine (plan_any Zj f dj rr us es (now + againZ d.retry tr) (k : Int) HDJ.out.2.2.1 HDJ.out.2.2.2 W3.drew hok3).mono ?_
          rintro e w4 ⟨v4, rfl, h7, h8, h9⟩
          have g3 : w4.cell? ⟨f, 3, none⟩ = some (.int .i64 d.retry) := by rw [← HDJ.out.2.1]; exact h7.blk.cell 3 _ rfl
          have g1 : w4.cell? ⟨rr.lb, k * 3 + 1, none⟩ = some (.int .i64 tr) := by
            have hkl : k < dj.l.length := by rw [HDJ.out.1]; exact hk
            have h10 := (cellsW_at dj.l k hkl).2.1
            rw [← wAt_eq dj.l k hkl, HTRE.out] at h10
            exact h7.wt.cell _ _ h10
          have gf1 := h7.wt.free (k * 3 + 1)
          have hk4 : Blk w4 wr.heap.size 115 [.int .i64 k, .int .i64 sz] := (hk3.drew).chg h8 (fun e => by
            have := HK.out.1.lt _ (.inr (.inr (.inr e)))
            omega)
          have g0 := hk4.cell 0 _ rfl
          have hlt4 := h7.wt.lt
          have hsz4 : W3.heap.size ≤ w4.heap.size := h8.size
          have hszr := hb3.size
          have H4 := Lib.hid (And.intro h7 (And.intro (show Chg W3 w4 (Foot rr.ab rr.av) from ⟨h8.os, h8.tape, h8.output, h8.size, h8.block⟩) (And.intro (show v4.ownBlock = rr.av.ownBlock ∨ ∃ k, v4.ownBlock = some k ∧ W3.heap.size ≤ k from h9) (And.intro hb3 hk4))))
          clear h7 h8 h9 hk4 hok3 c3 c1 c0 hb3 hk3
          generalize (if (3 : Int) < tr then (3 : Int) else tr) = mn
          go_wp2_with fail
          refine hK.out _ _ ⟨g3, g1, g0⟩ (fun hHeld15 => ?_)
          clear hK K
          try simp only [Act.put, List.setIfInBounds_toArray, List.set_cons_zero, List.set_cons_succ]
          refine wpAnyH_done (by kernel_rfl) ?_ _
          go_wp2
          have hcs : Chg w4 (w4.setCell ⟨rr.lb, k * 3 + 1, none⟩ (.int .i64 (tr + 1))) (fun x => x = rr.lb) := chg_cell (Chg.refl w4 _) _ _
          have hz5 : (w4.setCell ⟨rr.lb, k * 3 + 1, none⟩ (.int .i64 (tr + 1))).heap.size = w4.heap.size := by simp
          have HN : Hid (StJ Z w W1 (w4.setCell ⟨rr.lb, k * 3 + 1, none⟩ (.int .i64 (tr + 1))) f d1 now (ws.take (j + 1)) us es (.slice (some ⟨g, 0, none⟩) n c) (reqCells rq) n) := Lib.hid (by
            obtain ⟨k1, k2, k3, k4, k5⟩ := HK.out
            obtain ⟨m1, m2, m3, m4, m5⟩ := H4.out
            have hkl : k < dj.l.length := by rw [HDJ.out.1]; exact hk
            have hwt : Blk (w4.setCell ⟨rr.lb, k * 3 + 1, none⟩ (.int .i64 (tr + 1))) rr.lb 74 (cellsW (dj.l.set k ⟨(wAt dj.l k).size, (wAt dj.l k).tries + 1, (wAt dj.l k).kept⟩)) := by
              rw [cellsW_try dj.l k _ hkl, HTRE.out]
              have h9 : Blk w4 rr.lb 74 (cellsW dj.l) := m1.wt
              exact h9.set _ _ (by rw [cellsW_length]; omega)
            have hst := m1.setW (dj.l.set k ⟨(wAt dj.l k).size, (wAt dj.l k).tries + 1, (wAt dj.l k).kept⟩) (by simp) hcs hwt
            have hM : ∀ x, FdM f rr x → x < w.heap.size ∨ W1.heap.size ≤ x := k3
            have hMz : ∀ x, FdM f rr x → x < w.heap.size → Z x := fun x hx hlt => by
              rcases k2 x (k1.mz x hx) with h | h
              · exact h
              · exact absurd h.1 (by omega)
            unfold StJ
            rw [HST.out]
            refine ⟨Wide Zj W3.drew w4, { rr with av := v4 }, ?_, fun x hx => ?_, fun x hx => ?_, ?_, ?_, by rw [hz5]; omega⟩
            · have e : st1 now dj k = { ({ dj with m := insE ⟨now + againZ d.retry tr, dj.ord, (k : Int)⟩ (keepW (k : Int) dj.m), ord := dj.ord + 1 } : FdD) with l := dj.l.set k ⟨(wAt dj.l k).size, (wAt dj.l k).tries + 1, (wAt dj.l k).kept⟩ } := by
                unfold st1
                rw [HTRE.out, HDJ.out.2.1]
              rw [e]
              exact hst
            · rcases hx with hx | hx
              · rcases k2 x hx with h | h
                · exact .inl h
                · exact .inr ⟨h.1, by rw [hz5]; have := h.2; omega⟩
              · exact .inr ⟨by have h10 : W3.heap.size ≤ x := hx.1; omega, by rw [hz5]; exact hx.2⟩
            · rcases hx with hx | hx | hx | hx
              · exact hM x (.inl hx)
              · exact hM x (.inr (.inl hx))
              · exact hM x (.inr (.inr (.inl hx)))
              · rcases hx with hx | hx
                · exact hM x (.inr (.inr (.inr (.inl hx))))
                · rcases m3 with e | ⟨q, e, hq⟩
                  · exact hM x (.inr (.inr (.inr (.inr (by rw [← e]; exact hx)))))
                  · have hx' : some x = some q := by rw [← e]; exact hx
                    injection hx' with hx'
                    right
                    omega
            · have hc3 : Chg w W3 Z := k4.trans (Chg.of_below (S := fun _ => False) m4) (fun _ _ h => h.elim)
              have hc4 : Chg w w4 Z := hc3.trans m2 (fun x hx e => hMz x (.inr (.inr (.inr e))) hx)
              exact hc4.trans hcs (fun x hx e => hMz x (.inr (.inl e)) hx)
            · have o3 := ownsRow_chg k5 (Chg.of_below (S := fun _ => False) m4) (fun _ _ h => h)
              have hgn : ¬ FdM f rr g := fun e => by
                rcases hM g e with h | h <;> omega
              have own : ∀ x, (Value.slice (some ⟨g, 0, none⟩) n c).ownBlock = some x → x = g := fun x hx => by simpa [Value.ownBlock] using hx.symm
              have o4 := ownsRow_chg o3 m2 (fun x hx e => hgn (by rw [← own x hx]; exact .inr (.inr (.inr e))))
              exact ownsRow_chg o4 hcs (fun x hx e => hgn (by rw [← own x hx]; exact .inr (.inl e))))
          clear hcs hz5 HK H4 hHeld hHeld15
          go_roundw
          case rel => exact ⟨j + 1, by go_num, by omega, HN⟩
          case measure => simp [intOf]; omega
        · obtain rfl : j = n := by omega
          have HF := Lib.hid HJ.out
          clear HJ
          go_wp2
          go_ret
          obtain ⟨Zj, rr, h1, h2, h3, h4, h5, -⟩ := HF.out
          rw [List.take_of_length_le (by rw [HWL.out]; exact Nat.le_refl _), HD1.out.2.2.2.1] at h1
          have h6 : wr.ownsRow w.heap.size 115 2 (.slice A j c) rq.length (reqCells rq) := by rw [HRL.out]; exact h5
          rw [← HRQE.out] at h6
          exact ⟨_, rfl, h6, ⟨rr, us, es, h1.wide (fun x hx => by
            rcases h2 x hx with h | h
            · exact ⟨.inl h, fun e => by have := HZ.out x h; have := (World.ownsRow.lt h6 x e).1; omega⟩
            · exact ⟨.inr ⟨by omega, h.2⟩, fun e => by have := HVL.out x e; omega⟩)⟩, h4⟩
theorem step_any (Z : Nat → Prop) (f : Nat) (d : FdD) (now : Int) (hn : 0 ≤ now ∧ now ≤ 1000000000000) (hre : 1 ≤ d.retry ∧ d.retry ≤ 1000) (hm : d.m.length ≤ 1000000) (ho : d.ord ≤ 100000000) (hwh : ∀ x ∈ d.m, 0 ≤ x.wh ∧ x.wh < (d.l.length : Int)) (htr : TrOk d.l 1000000) (hl : d.l.length ≤ 1000) (w : World) (hZ : ∀ g, Z g → g < w.heap.size) (hok : FdAt Z w f d) :
    Calls Tryz.prog 35 #[.pointer (some ⟨f, 0, none⟩), .int .i64 now] w (StepPost Z w f d now) := by
  refine (step_any2 Z f d now hn hre hm ho hwh htr hl w hZ hok).mono ?_
  rintro e w' ⟨v, h1, h2, ⟨r, us, es, h3⟩, h4⟩
  exact ⟨v, h1, h2, ⟨r, us, es, h3.wide (fun g hg => hg.1)⟩, h4⟩
end Go.Proofs.YtlkgeifmppadmaaGreat
namespace Go.Proofs.YtlkgeifmppadmaaGreat
open Go.RowKit
set_option linter.unusedVariables false
set_option linter.unusedSimpArgs false

/-- Is a witness's size taken? -/
def repB (d : FdD) (wit size : Int) : Bool := d.has && (decide (0 ≤ wit) && (decide (wit < (d.l.length : Int)) && (!(wAt d.l wit.toNat).kept && (decide (0 ≤ size) && (decide (size ≤ d.cur.ck.num) && !decide (size = (wAt d.l wit.toNat).size))))))
def repD (d : FdD) (k : Nat) (size now : Int) : FdD := { d with m := insE ⟨now, d.ord, (k : Int)⟩ (keepW (k : Int) d.m), ord := d.ord + 1, l := d.l.set k ⟨size, (wAt d.l k).tries, (wAt d.l k).kept⟩ }
def repN (d : FdD) (wit size now : Int) : FdD := if repB d wit size = true then repD d wit.toNat size now else d
def RepPost (Z : Nat → Prop) (w : World) (f : Nat) (d : FdD) (wit size now : Int) (e : Ending) (w' : World) : Prop := e = .returned (.bool (repB d wit size)) ∧ FdAt (Wide Z w w') w' f (repN d wit size now) ∧ Chg w w' Z
theorem rep_no {Z : Nat → Prop} {w w' : World} {f : Nat} {d : FdD} {r : FdR} {us es : List Value} {wit size now : Int} (hok : FdOk Z w f d r us es) (hb : Below w.heap.size w w') (h : repB d wit size = false) : RepPost Z w f d wit size now (.returned (.bool false)) w' := by
  refine ⟨by rw [h], ?_, (Chg.refl w Z).trans (Chg.of_below (S := fun _ => False) hb) (fun _ _ h => h.elim)⟩
  unfold repN
  rw [h, if_neg (by decide)]
  exact ⟨r, us, es, (hok.below hb).wide (fun g hg => .inl hg)⟩
theorem cellsW_size (L : List WtD) (k : Nat) (z : Int) (h : k < L.length) : cellsW (L.set k ⟨z, (wAt L k).tries, (wAt L k).kept⟩) = (cellsW L).set (k * 3) (.int .i64 z) := by
  rw [cellsW_set L k _ h, wAt_eq L k h]
  obtain ⟨h0, h1, h2⟩ := cellsW_at L k h
  obtain ⟨hl1, e1⟩ := List.getElem?_eq_some_iff.1 h1
  obtain ⟨hl2, e2⟩ := List.getElem?_eq_some_iff.1 h2
  apply List.ext_getElem?
  intro j
  simp only [List.getElem?_set]
  by_cases j2 : k * 3 + 2 = j
  · subst j2; simp [hl2, e2]
  · by_cases j1 : k * 3 + 1 = j
    · subst j1; simp [hl1, e1]
    · simp [j1, j2]
set_option maxRecDepth 100000 in
set_option maxHeartbeats 8000000 in
theorem reply_nv (Z : Nat → Prop) (f : Nat) (d : FdD) (r : FdR) (us es : List Value) (v : Value) (g : CgD) (wit size now : Int) (hp : SmallPol d.p) (hr : d.cur.ck.root.length ≤ 100000000) (hs : SmallSig g.sig) (w : World) (hok : FdOk Z w f d r us es) (hv : CgV w v g) (hno : d.has = true → 0 ≤ wit → wit < (d.l.length : Int) → (wAt d.l wit.toNat).kept = false → g.wit = wit → cgVerB d.p d.cur.ck g = false) (hm : d.m.length ≤ 1000000) (ho : d.ord ≤ 100000000) (hl : d.l.length ≤ 1000) (hZ : ∀ g, Z g → g < w.heap.size) :
    Calls Tryz.prog 12 #[.pointer (some ⟨f, 0, none⟩), .int .i64 wit, v, .int .i64 size, .int .i64 now] w (RepPost Z w f d wit size now) := by
  have HZ := Lib.hid hZ
  have HNO := Lib.hid hno
  have HVF := Lib.hid (fun (wz : World) (vp vc vg : Value) (z1 : PolV wz vp d.p) (z2 : CkV wz vc d.cur.ck) (z3 : CgV wz vg g) => pcgverify_any vp vc vg d.p d.cur.ck g hp hr hs wz z1 z2 z3)
  obtain ⟨p1, q1, rfl, h1, h2⟩ := hv
  obtain ⟨P, cp, rfl⟩ := h1.form
  obtain ⟨Q, cq, rfl⟩ := h2.form
  obtain ⟨PA, pc, hpl⟩ := hok.tx.pl.1.form
  obtain ⟨PW, pwc, hpw⟩ := hok.tx.pw.rws.form
  obtain ⟨RA, rc, hcr⟩ := hok.tx.cr.1.form
  have HPL := Lib.hid (And.intro hpl (And.intro hpw hcr))
  have HX := Lib.hid (And.intro h1 h2)
  have HREP : Hid (repB d wit size = (d.has && (decide (0 ≤ wit) && (decide (wit < (d.l.length : Int)) && (!(wAt d.l wit.toNat).kept && (decide (0 ≤ size) && (decide (size ≤ d.cur.ck.num) && !decide (size = (wAt d.l wit.toNat).size)))))))) := Lib.hid rfl
  have HNOT := Lib.hid (fun (w' : World) (hb : Below w.heap.size w w') (h : repB d wit size = false) => rep_no (now := now) hok hb h)
  clear h1 h2 hp hr hs hno hZ hpl hpw hcr
  have hb0 := (Below.refl w.heap.size w).alloc (Nat.le_refl _) (.cells #[.int .i64 g.wit, .int .i64 g.sig.index, .slice P g.sig.parts.length cp, .slice Q g.sig.path.length cq] 47)
  have hk0 := Blk.new w 47 [.int .i64 g.wit, .int .i64 g.sig.index, .slice P g.sig.parts.length cp, .slice Q g.sig.path.length cq]
  have hok1 := hok.below hb0
  have H1 := Lib.hid (And.intro hk0 (And.intro hb0 hok1))
  have f11 := hok1.blk.cell 11 _ rfl
  have f5 := cell5 hok1.blk
  have hfl := hok1.blk.lt
  have hfw := hok.blk.lt
  have HOK := Lib.hid hok
  generalize hHA : d.has = HA at *
  have HHA := Lib.hid hHA
  clear hHA hok hok1 hb0 hk0
  go_enter Tryz.func12, Tryz.ntmps12
  cases HA with
  | false =>
    have HF : Hid (repB d wit size = false) := Lib.hid (by rw [HREP.out]; rfl)
    go_wp2
    go_ret
    exact HNOT.out _ H1.out.2.1 HF.out
  | true =>
    by_cases h0 : 0 ≤ wit
    · by_cases h1 : wit < (d.l.length : Int)
      · obtain ⟨k, rfl⟩ := Int.eq_ofNat_of_zero_le h0
        have hkl : k < d.l.length := by omega
        rw [Int.toNat_natCast, Bool.true_and, decide_eq_true h0, Bool.true_and, decide_eq_true h1, Bool.true_and] at HREP
        have hc := cellsW_at d.l k hkl
        have p2 := H1.out.2.2.wt.cell _ _ hc.2.2
        have p0 := H1.out.2.2.wt.cell _ _ hc.1
        rw [← wAt_eq d.l k hkl] at p2 p0
        have hlb := H1.out.2.2.wt.lt
        clear hc
        generalize hKE : (wAt d.l k).kept = KE at *
        have HKE := Lib.hid hKE
        clear hKE
        cases KE with
        | true =>
          have HF : Hid (repB d k size = false) := Lib.hid (by rw [HREP.out]; rfl)
          go_wp2
          go_ret
          exact HNOT.out _ H1.out.2.1 HF.out
        | false =>
          rw [Bool.not_false, Bool.true_and] at HREP
          have hx := (wAt d.l k).size
          clear hx
          go_wp2
          refine code_at (fun w1 => Blk w1 w.heap.size 47 [.int .i64 g.wit, .int .i64 g.sig.index, .slice P g.sig.parts.length cp, .slice Q g.sig.path.length cq] ∧ Below w.heap.size w w1 ∧ FdOk Z w1 f d r us es) H1.out ?_
          rintro w1 ⟨k0, kb, kd⟩
          have c0 := k0.cell 0 _ rfl
          have c1 := k0.cell 1 _ rfl
          have c2 := k0.cell 2 _ rfl
          have c3 := k0.cell 3 _ rfl
          have g0 : w1.cell? ⟨f, 0, none⟩ = some (.slice PA d.p.log.length pc) := by rw [← HPL.out.1]; exact kd.blk.cell 0 _ rfl
          have g1 : w1.cell? ⟨f, 1, none⟩ = some (.slice PW d.p.wits.length pwc) := by rw [← HPL.out.2.1]; exact kd.blk.cell 1 _ rfl
          have g2 : w1.cell? ⟨f, 2, none⟩ = some (.int .i64 d.p.quorum) := kd.blk.cell 2 _ rfl
          have g6 : w1.cell? ⟨f, 6, none⟩ = some (.int .i64 d.cur.ck.num) := kd.blk.cell 6 _ rfl
          have g7 : w1.cell? ⟨f, 7, none⟩ = some (.slice RA d.cur.ck.root.length rc) := by rw [← HPL.out.2.2]; exact kd.blk.cell 7 _ rfl
          have hfl1 := kd.blk.lt
          have hkl1 := k0.lt
          have H2 := Lib.hid (And.intro k0 (And.intro kb kd))
          clear k0 kb kd f11 f5 p2 p0 hlb hfl hfw
          by_cases hgw : g.wit = (k : Int)
          · have HNV := Lib.hid (HNO.out (by first | trivial | rfl | exact HHA.out) h0 h1 (by rw [Int.toNat_natCast]; exact HKE.out) hgw)
            rw [hgw] at c0
            refine wp_region_held_drew (S := fun w' => w'.cell? ⟨w.heap.size, 0, none⟩ = some (.int .i64 k) ∧ w'.cell? ⟨w.heap.size, 1, none⟩ = some (.int .i64 g.sig.index) ∧ w'.cell? ⟨w.heap.size, 2, none⟩ = some (.slice P g.sig.parts.length cp) ∧ w'.cell? ⟨w.heap.size, 3, none⟩ = some (.slice Q g.sig.path.length cq) ∧ w'.cell? ⟨f, 0, none⟩ = some (.slice PA d.p.log.length pc) ∧ w'.cell? ⟨f, 1, none⟩ = some (.slice PW d.p.wits.length pwc) ∧ w'.cell? ⟨f, 2, none⟩ = some (.int .i64 d.p.quorum) ∧ w'.cell? ⟨f, 6, none⟩ = some (.int .i64 d.cur.ck.num) ∧ w'.cell? ⟨f, 7, none⟩ = some (.slice RA d.cur.ck.root.length rc)) (by kernel_rfl) ?_ (fun hHeld => ?_)
            · exact ⟨c0, c1, c2, c3, g0, g1, g2, g6, g7⟩
            refine take_yes 0 40 rfl rfl (by kernel_rfl) (by kernel_rfl) (by kernel_rfl) (fun _ _ _ h => h) (by assumption) (by rfl) (v := ?_) ?_ ?_
            rotate_left 1
            · (intro w hSw; (try dsimp only at hSw); go_simp; try with_reducible rfl)
            simp only [List.setIfInBounds_toArray, List.set_cons_zero, List.set_cons_succ]
            refine take_yes 1 41 rfl rfl (by kernel_rfl) (by kernel_rfl) (by kernel_rfl) (fun _ _ _ h => h) (by assumption) (by rfl) (v := ?_) ?_ ?_
            rotate_left 1
            · (intro w hSw; (try dsimp only at hSw); go_simp; try with_reducible rfl)
            simp only [List.setIfInBounds_toArray, List.set_cons_zero, List.set_cons_succ]
            refine take_yes 2 42 rfl rfl (by kernel_rfl) (by kernel_rfl) (by kernel_rfl) (fun _ _ _ h => h) (by assumption) (by rfl) (v := ?_) ?_ ?_
            rotate_left 1
            · (intro w hSw; (try dsimp only at hSw); go_simp; try with_reducible rfl)
            simp only [List.setIfInBounds_toArray, List.set_cons_zero, List.set_cons_succ]
            refine take_yes 3 43 rfl rfl (by kernel_rfl) (by kernel_rfl) (by kernel_rfl) (fun _ _ _ h => h) (by assumption) (by rfl) (v := ?_) ?_ ?_
            rotate_left 1
            · (intro w hSw; (try dsimp only at hSw); go_simp; try with_reducible rfl)
            simp only [List.setIfInBounds_toArray, List.set_cons_zero, List.set_cons_succ]
            refine take_yes 4 44 rfl rfl (by kernel_rfl) (by kernel_rfl) (by kernel_rfl) (fun _ _ _ h => h) (by assumption) (by rfl) (v := ?_) ?_ ?_
            rotate_left 1
            · (intro w hSw; (try dsimp only at hSw); go_simp; try with_reducible rfl)
            simp only [List.setIfInBounds_toArray, List.set_cons_zero, List.set_cons_succ]
            refine take_yes 5 45 rfl rfl (by kernel_rfl) (by kernel_rfl) (by kernel_rfl) (fun _ _ _ h => h) (by assumption) (by rfl) (v := ?_) ?_ ?_
            rotate_left 1
            · (intro w hSw; (try dsimp only at hSw); go_simp; try with_reducible rfl)
            simp only [List.setIfInBounds_toArray, List.set_cons_zero, List.set_cons_succ]
            refine take_yes 6 46 rfl rfl (by kernel_rfl) (by kernel_rfl) (by kernel_rfl) (fun _ _ _ h => h) (by assumption) (by rfl) (v := ?_) ?_ ?_
            rotate_left 1
            · (intro w hSw; (try dsimp only at hSw); go_simp; try with_reducible rfl)
            simp only [List.setIfInBounds_toArray, List.set_cons_zero, List.set_cons_succ]
            refine take_yes 7 47 rfl rfl (by kernel_rfl) (by kernel_rfl) (by kernel_rfl) (fun _ _ _ h => h) (by assumption) (by rfl) (v := ?_) ?_ ?_
            rotate_left 1
            · (intro w hSw; (try dsimp only at hSw); go_simp; try with_reducible rfl)
            simp only [List.setIfInBounds_toArray, List.set_cons_zero, List.set_cons_succ]
            refine take_yes 8 48 rfl rfl (by kernel_rfl) (by kernel_rfl) (by kernel_rfl) (fun _ _ _ h => h) (by assumption) (by rfl) (v := ?_) ?_ ?_
            rotate_left 1
            · (intro w hSw; (try dsimp only at hSw); go_simp; try with_reducible rfl)
            simp only [List.setIfInBounds_toArray, List.set_cons_zero, List.set_cons_succ]
            refine take_yes 9 49 rfl rfl (by kernel_rfl) (by kernel_rfl) (by kernel_rfl) (fun _ _ _ h => h) (by assumption) (by rfl) (v := ?_) ?_ ?_
            rotate_left 1
            · (intro w hSw; (try dsimp only at hSw); go_simp; try with_reducible rfl)
            simp only [List.setIfInBounds_toArray, List.set_cons_zero, List.set_cons_succ]
            refine take_yes 10 50 rfl rfl (by kernel_rfl) (by kernel_rfl) (by kernel_rfl) (fun _ _ _ h => h) (by assumption) (by rfl) (v := ?_) ?_ ?_
            rotate_left 1
            · (intro w hSw; (try dsimp only at hSw); go_simp; try with_reducible rfl)
            simp only [List.setIfInBounds_toArray, List.set_cons_zero, List.set_cons_succ]
            refine take_yes 11 51 rfl rfl (by kernel_rfl) (by kernel_rfl) (by kernel_rfl) (fun _ _ _ h => h) (by assumption) (by rfl) (v := ?_) ?_ ?_
            rotate_left 1
            · (intro w hSw; (try dsimp only at hSw); go_simp; try with_reducible rfl)
            simp only [List.setIfInBounds_toArray, List.set_cons_zero, List.set_cons_succ]
            refine take_yes 12 52 rfl rfl (by kernel_rfl) (by kernel_rfl) (by kernel_rfl) (fun _ _ _ h => h) (by assumption) (by rfl) (v := ?_) ?_ ?_
            rotate_left 1
            · (intro w hSw; (try dsimp only at hSw); go_simp; try with_reducible rfl)
            simp only [List.setIfInBounds_toArray, List.set_cons_zero, List.set_cons_succ]
            refine take_yes 13 53 rfl rfl (by kernel_rfl) (by kernel_rfl) (by kernel_rfl) (fun _ _ _ h => h) (by assumption) (by rfl) (v := ?_) ?_ ?_
            rotate_left 1
            · (intro w hSw; (try dsimp only at hSw); go_simp; try with_reducible rfl)
            simp only [List.setIfInBounds_toArray, List.set_cons_zero, List.set_cons_succ]
            refine take_yes 14 54 rfl rfl (by kernel_rfl) (by kernel_rfl) (by kernel_rfl) (fun _ _ _ h => h) (by assumption) (by rfl) (v := ?_) ?_ ?_
            rotate_left 1
            · (intro w hSw; (try dsimp only at hSw); go_simp; try with_reducible rfl)
            simp only [List.setIfInBounds_toArray, List.set_cons_zero, List.set_cons_succ]
            refine wpAnyH_ready (rs := [15]) (by kernel_rfl) (by simp) ?_
            refine AllReadyH.cons rfl (fun K hK => ?_) AllReadyH.nil
            -- 15:  dst := some 55, op := Op.call  callee := Callee.value (Operand.func 37), args := #[Operand.tmp 48, Operand.tmp 53, Operand.tmp 
            go_simp
            go_at_call 30
            refine (HVF.out w1.drew _ _ _ ⟨_, _, rfl, by rw [← HPL.out.1]; exact H2.out.2.2.tx.pl.1.below (Below.refl _ _).drew, by rw [← HPL.out.2.1]; exact H2.out.2.2.tx.pw.rws.below (Below.refl _ _).drew⟩ ⟨_, rfl, by rw [← HPL.out.2.2]; exact H2.out.2.2.tx.cr.1.below (Below.refl _ _).drew⟩ ⟨_, _, by rw [hgw], HX.out.1.below H2.out.2.1.drew, HX.out.2.below H2.out.2.1.drew⟩).mono ?_
            rw [HNV.out]
            rintro e w2 ⟨rfl, h2'⟩
            have h2 : Below w1.heap.size w1 w2 := ⟨h2'.os, h2'.tape, h2'.output, h2'.size, h2'.block⟩
            have kA := H2.out.1.below h2
            have kF := H2.out.2.2.blk.below h2
            have j0 := kA.cell 0 _ rfl
            rw [hgw] at j0
            have j1 := kA.cell 1 _ rfl
            have j2 := kA.cell 2 _ rfl
            have j3 := kA.cell 3 _ rfl
            have i0 : w2.cell? ⟨f, 0, none⟩ = some (.slice PA d.p.log.length pc) := by rw [← HPL.out.1]; exact kF.cell 0 _ rfl
            have i1 : w2.cell? ⟨f, 1, none⟩ = some (.slice PW d.p.wits.length pwc) := by rw [← HPL.out.2.1]; exact kF.cell 1 _ rfl
            have i2 : w2.cell? ⟨f, 2, none⟩ = some (.int .i64 d.p.quorum) := kF.cell 2 _ rfl
            have i6 : w2.cell? ⟨f, 6, none⟩ = some (.int .i64 d.cur.ck.num) := kF.cell 6 _ rfl
            have i7 : w2.cell? ⟨f, 7, none⟩ = some (.slice RA d.cur.ck.root.length rc) := by rw [← HPL.out.2.2]; exact kF.cell 7 _ rfl
            have H3 := Lib.hid (And.intro (H2.out.2.1.trans (h2.mono H2.out.2.1.size)) (H2.out.2.2.below h2))
            clear h2 h2' kA kF
            go_wp2_with fail
            refine hK.out _ _ ⟨j0, j1, j2, j3, i0, i1, i2, i6, i7⟩ (fun hHeld15 => ?_)
            clear hK K
            try simp only [Act.put, List.setIfInBounds_toArray, List.set_cons_zero, List.set_cons_succ]
            refine take_yes 16 56 rfl rfl (by kernel_rfl) (by kernel_rfl) (by kernel_rfl) (fun _ _ _ h => h) (by assumption) (by rfl) (v := ?_) ?_ ?_
            rotate_left 1
            · (intro w hSw; (try dsimp only at hSw); go_simp; try with_reducible rfl)
            simp only [List.setIfInBounds_toArray, List.set_cons_zero, List.set_cons_succ]
            refine wpAnyH_done (by kernel_rfl) ?_ _
            clear hHeld hHeld15 j0 j1 j2 j3 i0 i1 i2 i6 i7 c0 c1 c2 c3 g0 g1 g2 g6 g7
            have m6 : w2.cell? ⟨f, 6, none⟩ = some (.int .i64 d.cur.ck.num) := H3.out.2.blk.cell 6 _ rfl
            have m5 := cell5 H3.out.2.blk
            have mz := H3.out.2.wt.cell _ _ (cellsW_at d.l k hkl).1
            rw [← wAt_eq d.l k hkl] at mz
            have my := H3.out.2.wt.free (k * 3)
            have mlb := H3.out.2.wt.lt
            have mfl := H3.out.2.blk.lt
            by_cases hs0 : 0 ≤ size
            · by_cases hs1 : size ≤ d.cur.ck.num
              · rw [decide_eq_true hs0, decide_eq_true hs1, Bool.true_and, Bool.true_and] at HREP
                by_cases hs2 : size = (wAt d.l k).size
                · have HF : Hid (repB d k size = false) := Lib.hid (by rw [HREP.out, decide_eq_true hs2]; rfl)
                  rw [← hs2] at mz
                  go_wp2
                  go_ret
                  exact HNOT.out _ H3.out.1 HF.out
                · have HT : Hid (repB d k size = true) := Lib.hid (by rw [HREP.out, decide_eq_false hs2]; rfl)
                  have hcs : Chg w2 (w2.setCell ⟨r.lb, k * 3, none⟩ (.int .i64 size)) (fun k => k = r.lb) := chg_cell (Chg.refl w2 _) (k * 3) (.int .i64 size)
                  have hbl : Blk (w2.setCell ⟨r.lb, k * 3, none⟩ (.int .i64 size)) r.lb 74 (cellsW (d.l.set k ⟨size, (wAt d.l k).tries, (wAt d.l k).kept⟩)) := by
                    rw [cellsW_size d.l k size hkl]
                    exact H3.out.2.wt.set (k * 3) _ (by have := (List.getElem?_eq_some_iff.1 (cellsW_at d.l k hkl).1).1; exact this)
                  have HK := Lib.hid (And.intro (H3.out.2.setW (d.l.set k ⟨size, (wAt d.l k).tries, (wAt d.l k).kept⟩) (by simp) hcs hbl) hcs)
                  have HP := Lib.hid (plan_any Z f { d with l := d.l.set k ⟨size, (wAt d.l k).tries, (wAt d.l k).kept⟩ } r us es now (k : Int) (show d.m.length ≤ 10000000 by omega) (show d.ord ≤ 1000000000 by omega) _ HK.out.1)
                  have n2 : ((size == (wAt d.l k).size) : Bool) = false := by simpa using hs2
                  clear hcs hbl
                  go_wp2_with fail
                  refine HP.out.mono ?_
                  rintro e w4 ⟨v4, rfl, h1, h2, -⟩
                  have H4 := Lib.hid (And.intro h1 h2)
                  clear h1 h2
                  go_wp2
                  go_ret
                  have hz3 := HK.out.2.size
                  have hz2 := H3.out.1.size
                  refine ⟨by rw [HT.out]; rfl, ?_, ?_⟩
                  · unfold repN
                    rw [HT.out, if_pos rfl, Int.toNat_natCast]
                    exact ⟨_, us, es, H4.out.1.wide (fun x hx => by
                      rcases hx with hx | hx
                      · exact .inl hx
                      · exact .inr ⟨by have : (w2.setCell ⟨r.lb, k * 3, none⟩ (.int .i64 size)).heap.size ≤ x := hx.1; omega, hx.2⟩)⟩
                  · have c1 : Chg w w2 Z := (Chg.refl w Z).trans (Chg.of_below (S := fun _ => False) H3.out.1) (fun _ _ h => h.elim)
                    have c2 := c1.trans HK.out.2 (fun x _ e => HOK.out.mz x (.inr (.inl e)))
                    exact c2.trans H4.out.2 (fun x _ e => HOK.out.mz x (.inr (.inr (.inr e))))
              · have HF : Hid (repB d k size = false) := Lib.hid (by rw [HREP.out, decide_eq_false hs1]; simp)
                go_wp2
                go_ret
                exact HNOT.out _ H3.out.1 HF.out
            · have HF : Hid (repB d k size = false) := Lib.hid (by rw [HREP.out, decide_eq_false hs0]; rfl)
              go_wp2
              go_ret
              exact HNOT.out _ H3.out.1 HF.out
          · have n0 : ((g.wit == (k : Int)) : Bool) = false := by simpa using hgw
            refine wp_region_held_drew (S := fun w' => w'.cell? ⟨w.heap.size, 0, none⟩ = some (.int .i64 g.wit)) (by kernel_rfl) ?_ (fun hHeld => ?_)
            · exact c0
            refine take_yes 0 40 rfl rfl (by kernel_rfl) (by kernel_rfl) (by kernel_rfl) (fun _ _ _ h => h) (by assumption) (by rfl) (v := ?_) ?_ ?_
            rotate_left 1
            · (intro w hSw; (try dsimp only at hSw); go_simp; try with_reducible rfl)
            simp only [List.setIfInBounds_toArray, List.set_cons_zero, List.set_cons_succ]
            refine take_yes 1 41 rfl rfl (by kernel_rfl) (by kernel_rfl) (by kernel_rfl) (fun _ _ _ h => h) (by assumption) (by rfl) (v := ?_) ?_ ?_
            rotate_left 1
            · (intro w hSw; (try dsimp only at hSw); go_simp; try with_reducible rfl)
            simp only [List.setIfInBounds_toArray, List.set_cons_zero, List.set_cons_succ]
            refine take_yes 2 42 rfl rfl (by kernel_rfl) (by kernel_rfl) (by kernel_rfl) (fun _ _ _ h => h) (by assumption) (by rfl) (v := ?_) ?_ ?_
            rotate_left 1
            · (intro w hSw; (try dsimp only at hSw); go_simp; try with_reducible rfl)
            simp only [List.setIfInBounds_toArray, List.set_cons_zero, List.set_cons_succ]
            refine take_yes 3 43 rfl rfl (by kernel_rfl) (by kernel_rfl) (by kernel_rfl) (fun _ _ _ h => h) (by assumption) (by rfl) (v := ?_) ?_ ?_
            rotate_left 1
            · (intro w hSw; (try dsimp only at hSw); go_simp; try with_reducible rfl)
            simp only [List.setIfInBounds_toArray, List.set_cons_zero, List.set_cons_succ]
            refine take_yes 4 44 rfl rfl (by kernel_rfl) (by kernel_rfl) (by kernel_rfl) (fun _ _ _ h => h) (by assumption) (by rfl) (v := ?_) ?_ ?_
            rotate_left 1
            · (intro w hSw; (try dsimp only at hSw); go_simp; try with_reducible rfl)
            simp only [List.setIfInBounds_toArray, List.set_cons_zero, List.set_cons_succ]
            refine take_no 5 45 rfl rfl (by kernel_rfl) (by kernel_rfl) (by kernel_rfl) (fun _ _ _ h => h) (by assumption) (by rfl) ?_
            simp only [List.setIfInBounds_toArray, List.set_cons_zero, List.set_cons_succ]
            refine take_no 6 46 rfl rfl (by kernel_rfl) (by kernel_rfl) (by kernel_rfl) (fun _ _ _ h => h) (by assumption) (by rfl) ?_
            simp only [List.setIfInBounds_toArray, List.set_cons_zero, List.set_cons_succ]
            refine take_no 7 47 rfl rfl (by kernel_rfl) (by kernel_rfl) (by kernel_rfl) (fun _ _ _ h => h) (by assumption) (by rfl) ?_
            simp only [List.setIfInBounds_toArray, List.set_cons_zero, List.set_cons_succ]
            refine take_no 8 48 rfl rfl (by kernel_rfl) (by kernel_rfl) (by kernel_rfl) (fun _ _ _ h => h) (by assumption) (by rfl) ?_
            simp only [List.setIfInBounds_toArray, List.set_cons_zero, List.set_cons_succ]
            refine take_no 9 49 rfl rfl (by kernel_rfl) (by kernel_rfl) (by kernel_rfl) (fun _ _ _ h => h) (by assumption) (by rfl) ?_
            simp only [List.setIfInBounds_toArray, List.set_cons_zero, List.set_cons_succ]
            refine take_no 10 50 rfl rfl (by kernel_rfl) (by kernel_rfl) (by kernel_rfl) (fun _ _ _ h => h) (by assumption) (by rfl) ?_
            simp only [List.setIfInBounds_toArray, List.set_cons_zero, List.set_cons_succ]
            refine take_no 11 51 rfl rfl (by kernel_rfl) (by kernel_rfl) (by kernel_rfl) (fun _ _ _ h => h) (by assumption) (by rfl) ?_
            simp only [List.setIfInBounds_toArray, List.set_cons_zero, List.set_cons_succ]
            refine take_no 12 52 rfl rfl (by kernel_rfl) (by kernel_rfl) (by kernel_rfl) (fun _ _ _ h => h) (by assumption) (by rfl) ?_
            simp only [List.setIfInBounds_toArray, List.set_cons_zero, List.set_cons_succ]
            refine take_no 13 53 rfl rfl (by kernel_rfl) (by kernel_rfl) (by kernel_rfl) (fun _ _ _ h => h) (by assumption) (by rfl) ?_
            simp only [List.setIfInBounds_toArray, List.set_cons_zero, List.set_cons_succ]
            refine take_no 14 54 rfl rfl (by kernel_rfl) (by kernel_rfl) (by kernel_rfl) (fun _ _ _ h => h) (by assumption) (by rfl) ?_
            simp only [List.setIfInBounds_toArray, List.set_cons_zero, List.set_cons_succ]
            refine take_no 15 55 rfl rfl (by kernel_rfl) (by kernel_rfl) (by kernel_rfl) (fun _ _ _ h => h) (by assumption) (by rfl) ?_
            simp only [List.setIfInBounds_toArray, List.set_cons_zero, List.set_cons_succ]
            refine take_yes 16 56 rfl rfl (by kernel_rfl) (by kernel_rfl) (by kernel_rfl) (fun _ _ _ h => h) (by assumption) (by rfl) (v := ?_) ?_ ?_
            rotate_left 1
            · (intro w hSw; (try dsimp only at hSw); go_simp; try with_reducible rfl)
            simp only [List.setIfInBounds_toArray, List.set_cons_zero, List.set_cons_succ]
            refine wpAnyH_done (by kernel_rfl) ?_ _
            have hb2 : Below w1.heap.size w1 w1.drew := (Below.refl _ _).drew
            generalize w1.drew = w2 at *
            have H3 := Lib.hid (And.intro (H2.out.2.1.trans (hb2.mono H2.out.2.1.size)) (H2.out.2.2.below hb2))
            clear hb2 hHeld c0 c1 c2 c3 g0 g1 g2 g6 g7
            have m6 : w2.cell? ⟨f, 6, none⟩ = some (.int .i64 d.cur.ck.num) := H3.out.2.blk.cell 6 _ rfl
            have m5 := cell5 H3.out.2.blk
            have mz := H3.out.2.wt.cell _ _ (cellsW_at d.l k hkl).1
            rw [← wAt_eq d.l k hkl] at mz
            have my := H3.out.2.wt.free (k * 3)
            have mlb := H3.out.2.wt.lt
            have mfl := H3.out.2.blk.lt
            by_cases hs0 : 0 ≤ size
            · by_cases hs1 : size ≤ d.cur.ck.num
              · rw [decide_eq_true hs0, decide_eq_true hs1, Bool.true_and, Bool.true_and] at HREP
                by_cases hs2 : size = (wAt d.l k).size
                · have HF : Hid (repB d k size = false) := Lib.hid (by rw [HREP.out, decide_eq_true hs2]; rfl)
                  rw [← hs2] at mz
                  go_wp2
                  go_ret
                  exact HNOT.out _ H3.out.1 HF.out
                · have HT : Hid (repB d k size = true) := Lib.hid (by rw [HREP.out, decide_eq_false hs2]; rfl)
                  have hcs : Chg w2 (w2.setCell ⟨r.lb, k * 3, none⟩ (.int .i64 size)) (fun k => k = r.lb) := chg_cell (Chg.refl w2 _) (k * 3) (.int .i64 size)
                  have hbl : Blk (w2.setCell ⟨r.lb, k * 3, none⟩ (.int .i64 size)) r.lb 74 (cellsW (d.l.set k ⟨size, (wAt d.l k).tries, (wAt d.l k).kept⟩)) := by
                    rw [cellsW_size d.l k size hkl]
                    exact H3.out.2.wt.set (k * 3) _ (by have := (List.getElem?_eq_some_iff.1 (cellsW_at d.l k hkl).1).1; exact this)
                  have HK := Lib.hid (And.intro (H3.out.2.setW (d.l.set k ⟨size, (wAt d.l k).tries, (wAt d.l k).kept⟩) (by simp) hcs hbl) hcs)
                  have HP := Lib.hid (plan_any Z f { d with l := d.l.set k ⟨size, (wAt d.l k).tries, (wAt d.l k).kept⟩ } r us es now (k : Int) (show d.m.length ≤ 10000000 by omega) (show d.ord ≤ 1000000000 by omega) _ HK.out.1)
                  have n2 : ((size == (wAt d.l k).size) : Bool) = false := by simpa using hs2
                  clear hcs hbl
                  go_wp2_with fail
                  refine HP.out.mono ?_
                  rintro e w4 ⟨v4, rfl, h1, h2, -⟩
                  have H4 := Lib.hid (And.intro h1 h2)
                  clear h1 h2
                  go_wp2
                  go_ret
                  have hz3 := HK.out.2.size
                  have hz2 := H3.out.1.size
                  refine ⟨by rw [HT.out]; rfl, ?_, ?_⟩
                  · unfold repN
                    rw [HT.out, if_pos rfl, Int.toNat_natCast]
                    exact ⟨_, us, es, H4.out.1.wide (fun x hx => by
                      rcases hx with hx | hx
                      · exact .inl hx
                      · exact .inr ⟨by have : (w2.setCell ⟨r.lb, k * 3, none⟩ (.int .i64 size)).heap.size ≤ x := hx.1; omega, hx.2⟩)⟩
                  · have c1 : Chg w w2 Z := (Chg.refl w Z).trans (Chg.of_below (S := fun _ => False) H3.out.1) (fun _ _ h => h.elim)
                    have c2 := c1.trans HK.out.2 (fun x _ e => HOK.out.mz x (.inr (.inl e)))
                    exact c2.trans H4.out.2 (fun x _ e => HOK.out.mz x (.inr (.inr (.inr e))))
              · have HF : Hid (repB d k size = false) := Lib.hid (by rw [HREP.out, decide_eq_false hs1]; simp)
                go_wp2
                go_ret
                exact HNOT.out _ H3.out.1 HF.out
            · have HF : Hid (repB d k size = false) := Lib.hid (by rw [HREP.out, decide_eq_false hs0]; rfl)
              go_wp2
              go_ret
              exact HNOT.out _ H3.out.1 HF.out
      · have HF : Hid (repB d wit size = false) := Lib.hid (by rw [HREP.out, decide_eq_false h1]; simp)
        go_wp2
        go_ret
        exact HNOT.out _ H1.out.2.1 HF.out
    · have HF : Hid (repB d wit size = false) := Lib.hid (by rw [HREP.out, decide_eq_false h0]; simp)
      go_wp2
      go_ret
      exact HNOT.out _ H1.out.2.1 HF.out
end Go.Proofs.YtlkgeifmppadmaaGreat
namespace Go.Proofs.YtlkgeifmppadmaaGreat
open Go.RowKit
set_option linter.unusedVariables false
set_option linter.unusedSimpArgs false

theorem info_cosig : (Tryz.prog.info? 47).map (fun i => (i.zero, i.size, i.bytes)) = some (some (.agg #[.int .i64 0, .int .i64 0, .slice none 0 0, .slice none 0 0]), 4, 64) := by kernel_rfl
theorem eqnil_cosigs (w : World) (a : Option Addr) (n c n' c' : Nat) : (binOp .eql 49 (.slice a n c) (.slice none n' c')).run Tryz.prog w = .ok (.bool a.isNone) w := Lib.run_eql_slice_nil w _ _ a n c n' c' Tryz.underlying49
set_option maxRecDepth 100000 in
set_option maxHeartbeats 1000000 in
theorem clonecg_any (v : Value) (n : Nat) (us : List Value) (hsm : n ≤ 1000000) (hone : ∀ u ∈ us, u.oneCell' = true) (w : World) (hx : Sho w v n 4 us) :
    Calls Tryz.prog 59 #[v] w fun e w' => ∃ v', e = .returned v' ∧ w'.ownsRow w.heap.size 47 4 v' n us ∧ Below w.heap.size w w' := by
  obtain ⟨i0, hi0, hz0, hz1, hz2⟩ := info_parts info_cosig
  obtain ⟨A, c, rfl⟩ := hx.form
  cases A with
  | none =>
    have h0 := Sho.none hx
    subst h0
    have hu : us = [] := List.length_eq_zero_iff.1 (by have := hx.1; omega)
    subst hu
    have qn := eqnil_cosigs
    clear hx
    go_enter Tryz.func59, Tryz.ntmps59
    go_wp2
    go_ret
    exact ⟨_, rfl, World.ownsRow_nil _ _ _ _, Below.refl _ _⟩
  | some a =>
    have HX := Lib.hid (hx.below ((Below.refl w.heap.size w).alloc (Nat.le_refl _) (.cells #[] 47)))
    have HNB : Hid (Blk (w.alloc (.cells #[] 47)) w.heap.size 47 []) := Lib.hid (Blk.new w 47 [])
    clear hx
    have qn := eqnil_cosigs
    go_enter Tryz.func59, Tryz.ntmps59
    go_wp2_with (at_builtin; (refine wpList_append_any rfl (.tmp 5) (.tmp 6) 49 rfl w.heap.size 47 i0 (.agg #[.int .i64 0, .int .i64 0, .slice none 0 0, .slice none 0 0]) 4 64 Tryz.underlying49 hi0 hz0 hz1 hz2 rfl (by decide) _ 0 [] rfl (own_none HNB.out (Nat.le_refl _)) _ n us rfl (HX.out.news hone) (by unfold maxLen; omega) (by omega) (by simp) ?_); intro v2 W2 hown2 hgrow2; have HB2 : Hid (Below w.heap.size w W2) := Lib.hid (((Below.refl w.heap.size w).alloc (Nat.le_refl _) _).grown hgrow2 (by simp) (fun k e => by have e' : some w.heap.size = some k := e; injection e' with e'; omega)); have HO2 : Hid (W2.ownsRow w.heap.size 47 4 v2 n us) := Lib.hid (by simpa only [Nat.zero_add, List.nil_append] using hown2); clear hown2 hgrow2)
    go_ret
    exact ⟨_, rfl, HO2.out, HB2.out⟩
end Go.Proofs.YtlkgeifmppadmaaGreat
namespace Go.Proofs.YtlkgeifmppadmaaGreat
open Go.RowKit
set_option linter.unusedVariables false
set_option linter.unusedSimpArgs false

theorem CgRow.snoc {D : Nat → Prop} {w : World} {us new : List Value} {ls : List CgD} {g : CgD} (h : CgRow D w us ls) (hn : CgRow D w new [g]) : CgRow D w (us ++ new) (ls ++ [g]) := by
  refine ⟨by rw [List.length_append, List.length_append, h.1, hn.1]; simp; omega, fun i hi => ?_⟩
  have hl := h.1
  by_cases hlt : i < ls.length
  · obtain ⟨p, q, h1, h2, h3, h4, h5, h6⟩ := h.2 i hlt
    rw [List.getElem_append_left hlt]
    refine ⟨p, q, ?_, ?_, ?_, ?_, h5, h6⟩
    · rw [List.getElem?_append_left (by omega)]; exact h1
    · rw [List.getElem?_append_left (by omega)]; exact h2
    · rw [List.getElem?_append_left (by omega)]; exact h3
    · rw [List.getElem?_append_left (by omega)]; exact h4
  · have e : i = ls.length := by simp at hi; omega
    subst e
    obtain ⟨p, q, h1, h2, h3, h4, h5, h6⟩ := hn.2 0 (by simp)
    rw [List.getElem_append_right (Nat.le_refl _)]
    simp only [Nat.sub_self]
    have e2 : ∀ j, (us ++ new)[ls.length * 4 + j]? = new[0 * 4 + j]? := fun j => by
      rw [List.getElem?_append_right (by omega)]
      congr 1
      omega
    exact ⟨p, q, (e2 0).trans h1, (e2 1).trans h2, (e2 2).trans h3, (e2 3).trans h4, h5, h6⟩
theorem CgRow.one {D : Nat → Prop} {w : World} {us : List Value} {ls : List CgD} (h : CgRow D w us ls) : ∀ u ∈ us, u.oneCell' = true := by
  intro u hu
  obtain ⟨j, hj, e⟩ := List.getElem_of_mem hu
  have hl := h.1
  have hd : j / 4 < ls.length := by omega
  obtain ⟨p, q, h1, h2, h3, h4, h5, h6⟩ := h.2 (j / 4) hd
  have hu' : us[j]? = some u := by rw [List.getElem?_eq_getElem hj, e]
  obtain ⟨P, c1, rfl⟩ := h5.rws.form
  obtain ⟨Q, c2, rfl⟩ := h6.rws.form
  have hm : j = j / 4 * 4 ∨ j = j / 4 * 4 + 1 ∨ j = j / 4 * 4 + 2 ∨ j = j / 4 * 4 + 3 := by omega
  rcases hm with hm | hm | hm | hm
  · rw [hm, h1] at hu'; injection hu' with hu'; subst hu'; rfl
  · rw [hm, h2] at hu'; injection hu' with hu'; subst hu'; rfl
  · rw [hm, h3] at hu'; injection hu' with hu'; subst hu'; rfl
  · rw [hm, h4] at hu'; injection hu' with hu'; subst hu'; rfl
/-- A cosignature is laid behind the kept ones. -/
theorem FdOk.kept {Z : Nat → Prop} {w W W2 : World} {f : Nat} {d : FdD} {r : FdR} {us es new : List Value} (h : FdOk Z w f d r us es) {v' : Value} {g : CgD}
    (hrow : W.ownsRow r.kb 47 4 v' (d.kept.length + 1) (us ++ new)) (hlie : v'.ownBlock = r.kv.ownBlock ∨ ∃ k, v'.ownBlock = some k ∧ w.heap.size ≤ k) (hc : Chg w W (fun k => r.kv.ownBlock = some k))
    (hg : CgRow (fun k => Fresh w W k ∧ v'.ownBlock ≠ some k) W new [g]) (hc2 : Chg W W2 (fun k => k = f)) (hb : Blk W2 f 68 (fdCells { d with kept := d.kept ++ [g] } { r with kv := v' })) :
    FdOk (Wide Z w W2) W2 f { d with kept := d.kept ++ [g] } { r with kv := v' } (us ++ new) es := by
  have hfw : f < w.heap.size := h.blk.lt
  have hlw : r.lb < w.heap.size := h.wt.lt
  have hs1 := hc.size
  have hs2 := hc2.size
  have hM : ∀ k, FdM f { r with kv := v' } k → FdM f r k ∨ w.heap.size ≤ k := by
    intro k hk
    rcases hk with hk | hk | hk | hk
    · exact .inl (.inl hk)
    · exact .inl (.inr (.inl hk))
    · have hk' : v'.ownBlock = some k := hk
      rcases hlie with e | ⟨q, e, hq⟩
      · exact .inl (.inr (.inr (.inl (by rw [← e]; exact hk'))))
      · rw [e] at hk'; injection hk' with hk'; exact .inr (by omega)
    · exact .inl (.inr (.inr (.inr hk)))
  have hD : ∀ k, (FdDat Z f r k ∧ k < w.heap.size) → FdDat (Wide Z w W2) f { r with kv := v' } k := fun k hk => ⟨.inl hk.1.1, fun e => by
    rcases hM k e with e | e
    · exact hk.1.2 e
    · have := hk.2; omega⟩
  have hN : ∀ k, (Fresh w W k ∧ v'.ownBlock ≠ some k) → FdDat (Wide Z w W2) f { r with kv := v' } k := fun k hk => ⟨.inr ⟨hk.1.1, Nat.lt_of_lt_of_le hk.1.2 hs2⟩, fun e => by
    have h9 : w.heap.size ≤ k := hk.1.1
    rcases e with e | e | e | e
    · have h8 : k = f := e; omega
    · have h8 : k = r.lb := e; omega
    · exact hk.2 e
    · have := h.ag.foot_lt k e; omega⟩
  have t1 := ((h.tx.cut).chg hc (fun k hk e => hk.1.2 (.inr (.inr (.inl e))))).chg hc2 (fun k hk e => hk.1.2 (.inl e))
  have t2 := hg.chg hc2 (fun k hk e => by have h9 : w.heap.size ≤ k := hk.1.1; have h8 : k = f := e; omega)
  have own : ∀ k, k < w.heap.size → r.kv.ownBlock ≠ some k → v'.ownBlock ≠ some k := fun k hk hn e => by
    rcases hlie with e1 | ⟨q, e1, hq⟩
    · exact hn (by rw [← e1]; exact e)
    · rw [e1] at e; injection e with e; omega
  refine ⟨hb, (h.wt.chg hc h.n3).chg hc2 (fun e => h.n1 e.symm), (h.ag.chg hc (fun k hk e => h.n6 k e hk)).chg hc2 (fun k hk e => h.n4 (by rw [← show k = f from e]; exact hk)), ?_, Nat.le_trans h.kbl (Nat.le_trans hs1 hs2), Nat.le_trans h.bal (Nat.le_trans hs1 hs2), ?_, h.n1, own f hfw h.n2, own r.lb hlw h.n3, h.n4, h.n5, ?_, ?_⟩
  · rw [show ({ d with kept := d.kept ++ [g] } : FdD).kept.length = d.kept.length + 1 by simp]
    exact ownsRow_chg hrow hc2 (fun k hk e => own f hfw h.n2 (by rw [← show k = f from e]; exact hk))
  · exact ⟨t1.pl.mono hD, t1.pw.mono hD, t1.cr.mono hD, t1.cp.mono hD, t1.cq.mono hD, t1.dr.mono hD, t1.dp.mono hD, t1.dq.mono hD, (t1.kd.mono hD).snoc (t2.mono hN), t1.en, fun h0 k hk => hD k (t1.ef h0 k hk), t1.ed.mono hD⟩
  · intro k hk hf
    have hk' : v'.ownBlock = some k := hk
    rcases hlie with e | ⟨q, e, hq⟩
    · exact h.n6 k (by rw [← e]; exact hk') hf
    · rw [e] at hk'; injection hk' with hk'; have := h.ag.foot_lt k hf; omega
  · intro k hk
    rcases hM k hk with e | e
    · exact .inl (h.mz k e)
    · refine .inr ⟨e, ?_⟩
      rcases hk with hk | hk | hk | hk
      · have hk' : k = f := hk; omega
      · have hk' : k = r.lb := hk; omega
      · have := (World.ownsRow.lt hrow k hk).2; omega
      · have := h.ag.foot_lt k hk; omega
/-- The quorum is reached: what is offered is done, what is kept is enough. -/
theorem FdOk.finish {Z : Nat → Prop} {w W2 : World} {f : Nat} {d : FdD} {r : FdR} {us es : List Value} (h : FdOk Z w f d r us es) {ev : Value} (hen : Sho w ev d.kept.length 4 us) (hef : 0 < d.kept.length → ∀ g, ev.ownBlock = some g → FdDat Z f r g)
    (hc2 : Chg w W2 (fun k => k = f)) (hb : Blk W2 f 68 (fdCells { d with done := d.cur, enough := d.kept } { r with ev := ev, dr := r.cr, dp := r.cp, dq := r.cq })) :
    FdOk Z W2 f { d with done := d.cur, enough := d.kept } { r with ev := ev, dr := r.cr, dp := r.cp, dq := r.cq } us us := by
  have hS : ∀ g, FdDat Z f r g → ¬ (g = f) := fun g hg e => hg.2 (.inl e)
  have t := h.tx.chg hc2 hS
  exact ⟨hb, h.wt.chg hc2 (fun e => h.n1 e.symm), h.ag.chg hc2 (fun k hk e => h.n4 (by rw [← show k = f from e]; exact hk)), ownsRow_chg h.kp hc2 (fun k hk e => h.n2 (by rw [← show k = f from e]; exact hk)), Nat.le_trans h.kbl hc2.size, Nat.le_trans h.bal hc2.size,
    ⟨t.pl, t.pw, t.cr, t.cp, t.cq, t.cr, t.cp, t.cq, t.kd, hen.chgF hef hc2 hS, hef, t.kd⟩, h.n1, h.n2, h.n3, h.n4, h.n5, h.n6, h.mz⟩
end Go.Proofs.YtlkgeifmppadmaaGreat
