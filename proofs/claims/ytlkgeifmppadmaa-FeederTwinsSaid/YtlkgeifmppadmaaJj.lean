/- The feeder's Step. The feeder's Current. The reference's signatures, and which blocks are theirs. Conditions: as each theorem states them. -/
import Derived.Test.YtlkgeifmppadmaaJi
import Derived.Test.YtlkgeifmppadmaaJf
import Derived.Laws.ResultCell
import Derived.Test.YtlkgeifmppadmaaJc
import Derived.Test.YtlkgeifmppadmaaJg
namespace Go.Proofs.Ytlkgeifmppadmaa
open Go.RowKit
set_option linter.unusedVariables false
set_option linter.unusedSimpArgs false

def zW : WtD := ⟨0, 0, false⟩
def wAt (l : List WtD) (k : Nat) : WtD := l.getD k zW
theorem wAt_eq (l : List WtD) (k : Nat) (h : k < l.length) : wAt l k = l[k] := by simp [wAt, List.getD_eq_getElem?_getD, List.getElem?_eq_getElem h]
/-- When a witness is asked again. -/
def againZ (retry tries : Int) : Int := retry * 2 ^ (if 3 < tries then 3 else tries).toNat
theorem againZ_le (retry tries : Int) (h1 : 1 ≤ retry ∧ retry ≤ 1000) (h0 : 0 ≤ tries) : 0 ≤ againZ retry tries ∧ againZ retry tries ≤ 8000 := by
  unfold againZ
  by_cases h : 3 < tries
  · rw [if_pos h]; show 0 ≤ retry * 8 ∧ retry * 8 ≤ 8000; omega
  · rw [if_neg h]
    obtain rfl | rfl | rfl | rfl : tries = 0 ∨ tries = 1 ∨ tries = 2 ∨ tries = 3 := by omega
    · show 0 ≤ retry * 1 ∧ retry * 1 ≤ 8000; omega
    · show 0 ≤ retry * 2 ∧ retry * 2 ≤ 8000; omega
    · show 0 ≤ retry * 4 ∧ retry * 4 ≤ 8000; omega
    · show 0 ≤ retry * 8 ∧ retry * 8 ≤ 8000; omega
theorem cellsW_try (L : List WtD) (k : Nat) (t : Int) (h : k < L.length) : cellsW (L.set k ⟨(wAt L k).size, t, (wAt L k).kept⟩) = (cellsW L).set (k * 3 + 1) (.int .i64 t) := by
  rw [cellsW_set L k _ h, wAt_eq L k h]
  obtain ⟨h0, h1, h2⟩ := cellsW_at L k h
  have e : (cellsW L).set (k * 3) (.int .i64 L[k].size) = cellsW L := by
    obtain ⟨hlt, e⟩ := List.getElem?_eq_some_iff.1 h0
    rw [← e]; exact List.set_getElem_self hlt
  rw [e]
  obtain ⟨hlt, e⟩ := List.getElem?_eq_some_iff.1 h2
  rw [List.set_comm _ _ (by omega)]
  congr 1
  rw [← e]; exact List.set_getElem_self hlt
/-- A witness is asked. -/
def st1 (now : Int) (d : FdD) (k : Nat) : FdD :=
  { d with m := insE ⟨now + againZ d.retry (wAt d.l k).tries, d.ord, (k : Int)⟩ (keepW (k : Int) d.m), ord := d.ord + 1, l := d.l.set k ⟨(wAt d.l k).size, (wAt d.l k).tries + 1, (wAt d.l k).kept⟩ }
def stN (now : Int) (d : FdD) (ws : List Nat) : FdD := ws.foldl (st1 now) d
def dueL (m : List Ent) (now : Int) : List Ent := m.takeWhile (fun x => decide (x.tm ≤ now))
def dueN (m : List Ent) (now : Int) : Nat := (dueL m now).length
def whoL (m : List Ent) (now : Int) : List Nat := (dueL m now).map (fun x => x.wh.toNat)
/-- Whom a step asks, from which size. -/
def reqL (d : FdD) (now : Int) : List (Int × Int) := (whoL d.m now).map (fun k : Nat => ((k : Int), (wAt d.l k).size))
def stepD (d : FdD) (now : Int) : FdD := stN now { d with m := d.m.drop (dueN d.m now) } (whoL d.m now)
def reqCells (l : List (Int × Int)) : List Value := l.flatMap (fun x => [Value.int .i64 x.1, .int .i64 x.2])
theorem reqCells_length (l : List (Int × Int)) : (reqCells l).length = l.length * 2 := by
  induction l with
  | nil => rfl
  | cons x l ih => simp only [reqCells, List.flatMap_cons, List.length_append] at ih ⊢; rw [ih]; simp; omega
theorem reqCells_append (l m : List (Int × Int)) : reqCells (l ++ m) = reqCells l ++ reqCells m := by simp [reqCells]
theorem reqCells_at (l : List (Int × Int)) : ∀ (i : Nat) (hi : i < l.length), (reqCells l)[i * 2]? = some (.int .i64 l[i].1) ∧ (reqCells l)[i * 2 + 1]? = some (.int .i64 l[i].2) := by
  induction l with
  | nil => intro i hi; exact absurd hi (Nat.not_lt_zero _)
  | cons x l ih =>
    intro i hi
    cases i with
    | zero => exact ⟨rfl, rfl⟩
    | succ i =>
      have h := ih i (by simpa using hi)
      have e : ∀ j, (reqCells (x :: l))[(i + 1) * 2 + j]? = (reqCells l)[i * 2 + j]? := by
        intro j
        show ([Value.int .i64 x.1, .int .i64 x.2] ++ reqCells l)[(i + 1) * 2 + j]? = _
        rw [List.getElem?_append_right (by simp; omega)]
        congr 1
        simp; omega
      exact ⟨(e 0).trans h.1, (e 1).trans h.2⟩
theorem info_req : (Try.prog.info? 62).map (fun i => (i.zero, i.size, i.bytes)) = some (some (.agg #[.int .i64 0, .int .i64 0]), 2, 16) := by kernel_rfl
/-- The agenda turns, its row where it lay. -/
theorem FdOk.agenda0 {Z : Nat → Prop} {w w1 : World} {f : Nat} {d : FdD} {r : FdR} {us es : List Value} (h : FdOk Z w f d r us es) {v' : Value} {m' : List Ent} {ord' : Int} (ha : AgS w1 r.base r.ab v' m' ord') (hv : v'.ownBlock = r.av.ownBlock) (hc : Chg w w1 (Foot r.ab r.av)) :
    FdOk Z w1 f { d with m := m', ord := ord' } { r with av := v' } us es ∧ ∀ k, FdM f { r with av := v' } k ↔ FdM f r k := by
  have hfoot : ∀ k, Foot r.ab v' k ↔ Foot r.ab r.av k := fun k => by unfold Foot; rw [hv]
  have hM : ∀ k, FdM f { r with av := v' } k ↔ FdM f r k := fun k => by
    show (k = f ∨ k = r.lb ∨ r.kv.ownBlock = some k ∨ Foot r.ab v' k) ↔ (k = f ∨ k = r.lb ∨ r.kv.ownBlock = some k ∨ Foot r.ab r.av k)
    rw [hfoot]
  have h1 := h.tx.chg hc (fun g hg e => hg.2 (.inr (.inr (.inr e))))
  refine ⟨⟨h.blk.chg hc h.n4, h.wt.chg hc h.n5, ha, ownsRow_chg h.kp hc h.n6, Nat.le_trans h.kbl hc.size, Nat.le_trans h.bal hc.size, ?_, h.n1, h.n2, h.n3, fun e => h.n4 ((hfoot f).1 e), fun e => h.n5 ((hfoot _).1 e), fun k hk e => h.n6 k hk ((hfoot k).1 e), fun k hk => h.mz k ((hM k).1 hk)⟩, hM⟩
  exact FdT.mono ⟨h1.pl, h1.pw, h1.cr, h1.cp, h1.cq, h1.dr, h1.dp, h1.dq, h1.kd, h1.en, h1.ef, h1.ed⟩ (fun g hg => ⟨hg.1, fun e => hg.2 ((hM g).1 e)⟩)
theorem stN_l (now : Int) (ws : List Nat) : ∀ d : FdD, (stN now d ws).l.length = d.l.length := by
  induction ws with
  | nil => intro d; rfl
  | cons k ws ih => intro d; show (stN now (st1 now d k) ws).l.length = _; rw [ih]; simp [st1]
theorem stN_snoc (now : Int) (d : FdD) (ws : List Nat) (k : Nat) : stN now d (ws ++ [k]) = st1 now (stN now d ws) k := by simp [stN]
theorem stN_m (now : Int) (ws : List Nat) : ∀ d : FdD, (stN now d ws).m.length ≤ d.m.length + ws.length := by
  induction ws with
  | nil => intro d; exact Nat.le_refl _
  | cons k ws ih =>
    intro d
    have h1 := ih (st1 now d k)
    have h2 : (st1 now d k).m.length ≤ d.m.length + 1 := by
      show (insE _ (keepW _ _)).length ≤ _
      rw [insE_length]
      have := keepW_le (k : Int) d.m
      omega
    show (stN now (st1 now d k) ws).m.length ≤ d.m.length + (ws.length + 1)
    omega
theorem stN_ord (now : Int) (ws : List Nat) : ∀ d : FdD, (stN now d ws).ord = d.ord + (ws.length : Int) := by
  induction ws with
  | nil => intro d; simp [stN]
  | cons k ws ih => intro d; show (stN now (st1 now d k) ws).ord = _; rw [ih]; show d.ord + 1 + _ = _; simp; omega
theorem stN_retry (now : Int) (ws : List Nat) : ∀ d : FdD, (stN now d ws).retry = d.retry := by
  induction ws with
  | nil => intro d; rfl
  | cons k ws ih => intro d; show (stN now (st1 now d k) ws).retry = _; rw [ih]; rfl
theorem stN_p (now : Int) (ws : List Nat) : ∀ d : FdD, (stN now d ws).p = d.p := by
  induction ws with
  | nil => intro d; rfl
  | cons k ws ih => intro d; show (stN now (st1 now d k) ws).p = _; rw [ih]; rfl
def TrOk (l : List WtD) (B : Int) : Prop := ∀ k, 0 ≤ (wAt l k).tries ∧ (wAt l k).tries ≤ B
theorem wAt_set (l : List WtD) (k j : Nat) (x : WtD) : wAt (l.set k x) j = if k = j ∧ k < l.length then x else wAt l j := by
  unfold wAt
  rw [List.getD_eq_getElem?_getD, List.getD_eq_getElem?_getD, List.getElem?_set]
  by_cases e : k = j
  · subst e
    by_cases h : k < l.length
    · simp [h]
    · simp [h]
  · simp [e]
theorem stN_tr (now : Int) (ws : List Nat) : ∀ (d : FdD) (B : Int), TrOk d.l B → TrOk (stN now d ws).l (B + ws.length) := by
  induction ws with
  | nil => intro d B h; simpa [stN] using h
  | cons k ws ih =>
    intro d B h
    have h1 : TrOk (st1 now d k).l (B + 1) := by
      intro j
      have h2 := h j
      have h3 := h k
      have e : wAt (st1 now d k).l j = if k = j ∧ k < d.l.length then ⟨(wAt d.l k).size, (wAt d.l k).tries + 1, (wAt d.l k).kept⟩ else wAt d.l j := wAt_set d.l k j _
      rw [e]
      split
      · exact ⟨by show 0 ≤ (wAt d.l k).tries + 1; omega, by show (wAt d.l k).tries + 1 ≤ B + 1; omega⟩
      · exact ⟨h2.1, by omega⟩
    have h2 := ih (st1 now d k) (B + 1) h1
    show TrOk (stN now (st1 now d k) ws).l (B + ((ws.length + 1 : Nat) : Int))
    rw [show B + ((ws.length + 1 : Nat) : Int) = B + 1 + (ws.length : Int) by omega]
    exact h2
theorem dueN_le (m : List Ent) (now : Int) : dueN m now ≤ m.length := (List.takeWhile_prefix _).length_le
theorem due_at (m : List Ent) (now : Int) (j : Nat) (h : j < dueN m now) : ∃ x, (dueL m now)[j]? = some x ∧ m.drop j = x :: m.drop (j + 1) ∧ x.tm ≤ now ∧ x ∈ m := by
  have hl := dueN_le m now
  have hj : j < m.length := by omega
  have hx : (dueL m now)[j]'h = m[j] := by
    have hp := List.takeWhile_prefix (fun x : Ent => decide (x.tm ≤ now)) (l := m)
    exact (List.prefix_iff_getElem.1 hp).2 j h
  refine ⟨m[j], by rw [List.getElem?_eq_getElem h, hx], List.drop_eq_getElem_cons hj, ?_, List.getElem_mem hj⟩
  have h2 : (dueL m now)[j]'h ∈ dueL m now := List.getElem_mem h
  rw [hx] at h2
  have h3 : (dueL m now).all (fun x : Ent => decide (x.tm ≤ now)) = true := List.all_takeWhile
  have := List.all_eq_true.1 h3 _ h2
  simpa using this
theorem due_end (m : List Ent) (now : Int) : m.drop (dueN m now) = [] ∨ ∃ x t, m.drop (dueN m now) = x :: t ∧ now < x.tm := by
  unfold dueN dueL
  induction m with
  | nil => exact .inl rfl
  | cons y m ih =>
    by_cases h : y.tm ≤ now
    · simp only [List.takeWhile_cons, h, decide_true, if_true, List.length_cons, List.drop_succ_cons]
      exact ih
    · right
      refine ⟨y, m, ?_, by omega⟩
      simp [List.takeWhile_cons, h]
theorem who_at (m : List Ent) (now : Int) (j : Nat) (x : Ent) (h : (dueL m now)[j]? = some x) : (whoL m now)[j]? = some x.wh.toNat := by simp [whoL, h]
def StepPost (Z : Nat → Prop) (w : World) (f : Nat) (d : FdD) (now : Int) (e : Ending) (w' : World) : Prop :=
  ∃ v, e = .returned v ∧ w'.ownsRow w.heap.size 62 2 v (reqL d now).length (reqCells (reqL d now)) ∧ FdAt (Wide Z w w') w' f (stepD d now) ∧ Chg w w' Z
/-- What the first loop keeps. -/
def StI (Z : Nat → Prop) (w wr : World) (f : Nat) (d : FdD) (r0 : FdR) (us es : List Value) (now : Int) (j : Nat) (v : Value) : Prop :=
  ∃ av, FdOk Z wr f { d with m := d.m.drop j } { r0 with av := av } us es ∧ (∀ k, FdM f { r0 with av := av } k ↔ FdM f r0 k) ∧ wr.ownsRow w.heap.size 62 2 v j (reqCells ((reqL d now).take j)) ∧ Chg w wr Z
/-- What the second loop keeps. -/
def StJ (Z : Nat → Prop) (w W1 wr : World) (f : Nat) (d1 : FdD) (now : Int) (ws : List Nat) (us es : List Value) (v : Value) (cs : List Value) (n : Nat) : Prop :=
  ∃ Zj rr, FdOk Zj wr f (stN now d1 ws) rr us es ∧ (∀ g, Zj g → Wide Z w wr g) ∧ (∀ g, FdM f rr g → g < w.heap.size ∨ W1.heap.size ≤ g) ∧ Chg w wr Z ∧ wr.ownsRow w.heap.size 62 2 v n cs ∧ W1.heap.size ≤ wr.heap.size
set_option maxRecDepth 100000 in
set_option maxHeartbeats 8000000 in
theorem step_any (Z : Nat → Prop) (f : Nat) (d : FdD) (now : Int) (hn : 0 ≤ now ∧ now ≤ 1000000000000) (hre : 1 ≤ d.retry ∧ d.retry ≤ 1000) (hm : d.m.length ≤ 1000000) (ho : d.ord ≤ 100000000) (hwh : ∀ x ∈ d.m, 0 ≤ x.wh ∧ x.wh < (d.l.length : Int)) (htr : TrOk d.l 1000000) (hl : d.l.length ≤ 1000) (w : World) (hZ : ∀ g, Z g → g < w.heap.size) (hok : FdAt Z w f d) :
    Calls Try.prog 16 #[.pointer (some ⟨f, 0, none⟩), .int .i64 now] w (StepPost Z w f d now) := by
  obtain ⟨r, us, es, hok⟩ := hok
  obtain ⟨i0, hi0, hz0, hz1, hz2⟩ := info_parts info_req
  have HO := Lib.hid hok
  have HWH := Lib.hid hwh
  have HTR := Lib.hid htr
  have HZ := Lib.hid hZ
  have hNm := dueN_le d.m now
  have hRl : (reqL d now).length = dueN d.m now := by simp [reqL, whoL, dueN]
  have HRL := Lib.hid hRl
  clear hok hwh htr hZ hRl
  go_enter Try.func16, Try.ntmps16
  go_wp2
  go_loopw [5] (fun v5 wr => ∃ (j : Nat) (A : Option Addr) (c : Nat), v5 = .slice A j c ∧ j ≤ dueN d.m now ∧ Hid (StI Z w wr f d r us es now j (.slice A j c))) (fun v _ => dueN d.m now - lenV v)
  case atStart => exact ⟨0, none, 0, rfl, Nat.zero_le _, Lib.hid ⟨r.av, HO.out, fun k => Iff.rfl, World.ownsRow_nil _ _ _ _, Chg.refl _ _⟩⟩
  case round =>
    obtain ⟨j, A, c, rfl, hj, HI⟩ := hrel
    obtain ⟨av, hI1, hI2, hI3, hI4⟩ := HI.out
    have q4 : wr.cell? ⟨f, 4, none⟩ = some (.pointer (some ⟨r.ab, 0, none⟩)) := hI1.blk.cell 4 _ rfl
    have q5 : wr.cell? ⟨f, 5, none⟩ = some (.slice (some ⟨r.lb, 0, none⟩) d.l.length d.l.length) := cell5 hI1.blk
    have hfl := hI1.blk.lt
    have HI1 := Lib.hid (And.intro hI1 (And.intro hI2 (And.intro hI3 hI4)))
    clear hI1 hI2 hI3 hI4 HI
    by_cases hlt : j < dueN d.m now
    · obtain ⟨x, hx1, hx2, hx3, hx4⟩ := due_at d.m now j hlt
      obtain ⟨hw0, hw1⟩ := HWH.out x hx4
      obtain ⟨tm, xo, wh⟩ := x
      obtain ⟨k, rfl⟩ := Int.eq_ofNat_of_zero_le (show 0 ≤ wh from hw0)
      have hkl : k < d.l.length := by have : ((k : Nat) : Int) < (d.l.length : Int) := hw1; omega
      have HREQ : Hid ((reqL d now).take (j + 1) = (reqL d now).take j ++ [((k : Int), d.l[k].size)]) := Lib.hid (by
        have hjr : j < (reqL d now).length := by rw [HRL.out]; exact hlt
        rw [List.take_succ_eq_append_getElem hjr]
        congr 2
        have h9 := who_at d.m now j _ hx1
        obtain ⟨h10, h11⟩ := List.getElem?_eq_some_iff.1 h9
        simp only [reqL, List.getElem_map, h11]
        rw [show (Ent.mk tm xo (k : Int)).wh.toNat = k by simp, wAt_eq d.l k hkl])
      have HD := Lib.hid (due_yes r.base r.ab av ⟨tm, xo, (k : Int)⟩ (d.m.drop (j + 1)) d.ord now (by rw [List.length_drop]; omega) hx3 wr (by
        have h9 := HI1.out.1.ag
        have e : d.m.drop j = ⟨tm, xo, (k : Int)⟩ :: d.m.drop (j + 1) := hx2
        show AgS wr r.base r.ab av (⟨tm, xo, (k : Int)⟩ :: d.m.drop (j + 1)) d.ord
        rw [← e]
        exact h9))
      clear hx1 hx2 hx3 hx4 hw0 hw1
      go_wp2_with fail
      refine HD.out.mono ?_
      rintro e w1 ⟨v1, rfl, h1, h2, h3⟩
      obtain ⟨h4, h5⟩ := HI1.out.1.agenda0 h1 h2 h3
      have h6 : w1.ownsRow w.heap.size 62 2 (.slice A j c) j (reqCells ((reqL d now).take j)) := ownsRow_chg HI1.out.2.2.1 h3 (fun g hg e => by
        have h7 := HZ.out g (HI1.out.1.mz g (.inr (.inr (.inr e))))
        have h8 := (World.ownsRow.lt HI1.out.2.2.1 g hg).1
        omega)
      have h7 : Chg w w1 Z := HI1.out.2.2.2.trans h3 (fun g hg e => HI1.out.1.mz g (.inr (.inr (.inr e))))
      have h8 := h4.wt
      have p5 : w1.cell? ⟨f, 5, none⟩ = some (.slice (some ⟨r.lb, 0, none⟩) d.l.length d.l.length) := cell5 h4.blk
      have p0 : w1.cell? ⟨r.lb, k * 3, none⟩ = some (.int .i64 d.l[k].size) := h8.cell _ _ (cellsW_at d.l k hkl).1
      have hkI : ((k : Nat) : Int) < (d.l.length : Int) := by omega
      have hsz1 := h7.size
      have H1 := Lib.hid (And.intro h4 (And.intro (fun g => (h5 g).trans (HI1.out.2.1 g)) (And.intro h6 h7)))
      clear h1 h2 h3 h4 h5 h6 h7 h8 q4 q5
      generalize d.l[k].size = xs at *
      go_wp2_with (at_builtin; (refine wpList_append_lie rfl (.tmp 22) (.tmp 33) 48 rfl w.heap.size 62 i0 (.agg #[.int .i64 0, .int .i64 0]) 2 16 Try.underlying48 hi0 hz0 hz1 hz2 rfl (by decide) _ j _ rfl (World.ownsRow.alloc H1.out.2.2.1 _) _ 1 [.int .i64 k, .int .i64 xs] rfl ((Sho.new w1 62 [.int .i64 k, .int .i64 xs] 1 2 1 rfl (Nat.le_refl _) (by decide)).news (fun u hu => by simp at hu; rcases hu with rfl | rfl <;> rfl)) (by unfold maxLen; omega) (by omega) (by simp; omega) ?_); intro v2 W2 hown2 hgrow2 hlie2; obtain ⟨A2, c2, rfl⟩ := (Sho.own hown2).form; have H2 : Hid (StI Z w W2 f d r us es now (j + 1) (.slice A2 (j + 1) c2)) := Lib.hid (by
          have hc2 : Chg w1 W2 (fun g => (Value.slice A j c).ownBlock = some g) := ((Chg.refl w1 _).alloc _).trans (Chg.of_grown hgrow2) (fun i _ h => h.symm)
          have hT : ∀ g, (Value.slice A j c).ownBlock = some g → w.heap.size ≤ g := fun g hg => (World.ownsRow.lt H1.out.2.2.1 g hg).1
          refine ⟨v1, H1.out.1.chg hc2 (fun g hg e => by have := HZ.out g hg; have := hT g e; omega), H1.out.2.1, ?_, H1.out.2.2.2.trans hc2 (fun g hg e => absurd (hT g e) (by omega))⟩
          rw [HREQ.out, reqCells_append]
          exact hown2); clear hown2 hgrow2 hlie2)
      go_roundw
      case rel => exact ⟨j + 1, A2, c2, rfl, by omega, H2⟩
      case measure => simp [lenV]; omega
    · obtain rfl : j = dueN d.m now := by omega
      have HD : Hid (Calls Try.prog 36 #[.pointer (some ⟨r.ab, 0, none⟩), .int .i64 now] wr fun e w' => e = .returned (.tuple #[.int .i64 0, .bool false]) ∧ ∃ n, w' = wr.drewN n) := Lib.hid (by
        have h9 := HI1.out.1.ag
        rcases due_end d.m now with e | ⟨x, t, e, ht⟩
        · exact due_none r.base r.ab av d.ord now wr (by
            show AgS wr r.base r.ab av [] d.ord
            rw [← e]; exact h9)
        · exact due_early r.base r.ab av x t d.ord now ht wr (by
            show AgS wr r.base r.ab av (x :: t) d.ord
            rw [← e]; exact h9))
      have hwl : (whoL d.m now).length = dueN d.m now := by simp [whoL, dueN]
      have HWL := Lib.hid hwl
      clear hwl
      go_wp2_with fail
      refine HD.out.mono ?_
      rintro e w1 ⟨rfl, n1, rfl⟩
      have H1 : Hid (StJ Z w (wr.drewN n1) (wr.drewN n1) f { d with m := d.m.drop (dueN d.m now) } now ((whoL d.m now).take 0) us es (.slice A (dueN d.m now) c) (reqCells (reqL d now)) (dueN d.m now)) := Lib.hid (by
        have h9 := HI1.out.2.2.1
        rw [List.take_of_length_le (by rw [HRL.out]; exact Nat.le_refl _)] at h9
        exact ⟨Z, _, HI1.out.1.below (below_drewN (Below.refl _ _) _), fun g hg => .inl hg, fun g hg => .inl (HZ.out g (HI1.out.1.mz g hg)), HI1.out.2.2.2.drewN _, ownsRow_chg h9 ((Chg.refl wr (fun _ => False)).drewN n1) (fun _ _ h => h), Nat.le_refl _⟩)
      clear q4 q5 HD
      generalize wr.drewN n1 = W1 at *
      have hd1 : ({ d with m := d.m.drop (dueN d.m now) } : FdD).m.length ≤ 1000000 := by show (d.m.drop _).length ≤ _; rw [List.length_drop]; omega
      have HD1 : Hid (({ d with m := d.m.drop (dueN d.m now) } : FdD).l = d.l ∧ ({ d with m := d.m.drop (dueN d.m now) } : FdD).retry = d.retry ∧ ({ d with m := d.m.drop (dueN d.m now) } : FdD).ord = d.ord ∧ stN now { d with m := d.m.drop (dueN d.m now) } (whoL d.m now) = stepD d now ∧ ∀ k ∈ whoL d.m now, k < d.l.length) := Lib.hid ⟨rfl, rfl, rfl, rfl, fun k hk => by
        simp only [whoL, List.mem_map] at hk
        obtain ⟨x, hx, rfl⟩ := hk
        have hx2 : x ∈ d.m := (List.takeWhile_prefix _).subset hx
        have := HWH.out x hx2
        omega⟩
      have HRQ : Hid (∀ j (h : j < (whoL d.m now).length) (h2 : j < (reqL d now).length), (reqL d now)[j] = (((whoL d.m now)[j] : Int), (wAt d.l (whoL d.m now)[j]).size)) := Lib.hid (fun j h h2 => by simp [reqL])
      generalize ({ d with m := d.m.drop (dueN d.m now) } : FdD) = d1 at *
      generalize whoL d.m now = ws at *
      generalize hrqE : reqL d now = rq at *
      have HRQE := Lib.hid hrqE
      clear hrqE
      generalize dueN d.m now = n at *
      clear HI1
      go_wp2
      go_loopw [37] (fun v37 wr => ∃ j : Nat, v37 = .int .i64 j ∧ j ≤ n ∧ Hid (StJ Z w W1 wr f d1 now (ws.take j) us es (.slice A n c) (reqCells rq) n)) (fun v _ => n - (intOf v).toNat)
      case atStart => exact ⟨0, rfl, Nat.zero_le _, H1⟩
      case round =>
        obtain ⟨j, rfl, hj2, HJ⟩ := hrel
        by_cases hlt2 : j < n
        · obtain ⟨Zj, rr, hJ1, hJ2, hJ3, hJ4, hJ5, hJ6⟩ := HJ.out
          obtain ⟨g, cap, eA, hgw, hgl⟩ := hJ5.form (by omega)
          injection eA with eA1 eA2 eA3
          subst eA1 eA3
          have hjw : j < ws.length := by rw [HWL.out]; exact hlt2
          have hjr : j < rq.length := by rw [HRL.out]; exact hlt2
          have hcell : ∀ i u, (reqCells rq)[i]? = some u → wr.cell? ⟨g, i, none⟩ = some u := fun i u hu => by
            obtain ⟨g', o', e1, -, -, -, -, h8⟩ := (Sho.own hJ5).place (by omega)
            injection e1 with e1
            injection e1 with e1 e2
            subst e1 e2
            have := h8 i u hu
            rwa [Nat.zero_add] at this
          have hk : ws[j] < d.l.length := HD1.out.2.2.2.2 _ (List.getElem_mem hjw)
          have hrq := HRQ.out j hjw hjr
          have p0 := hcell (j * 2) _ (reqCells_at rq j hjr).1
          have p1 := hcell (j * 2 + 1) _ (reqCells_at rq j hjr).2
          rw [hrq] at p0 p1
          have HTK : Hid (ws.take (j + 1) = ws.take j ++ [ws[j]]) := Lib.hid (List.take_succ_eq_append_getElem hjw)
          have hdl : (stN now d1 (ws.take j)).l.length = d.l.length := by rw [stN_l, HD1.out.1]
          have hdr : (stN now d1 (ws.take j)).retry = d.retry := by rw [stN_retry, HD1.out.2.1]
          have htk : (ws.take j).length ≤ 1000000 := by rw [List.length_take]; omega
          have hdm : (stN now d1 (ws.take j)).m.length ≤ 10000000 := by have := stN_m now (ws.take j) d1; omega
          have hdo : (stN now d1 (ws.take j)).ord ≤ 1000000000 := by rw [stN_ord, HD1.out.2.2.1]; omega
          have htr2 : 0 ≤ (wAt (stN now d1 (ws.take j)).l ws[j]).tries ∧ (wAt (stN now d1 (ws.take j)).l ws[j]).tries ≤ 2000000 := by
            have h9 := stN_tr now (ws.take j) d1 1000000 (by rw [HD1.out.1]; exact HTR.out) ws[j]
            exact ⟨h9.1, by omega⟩
          have HST : Hid (stN now d1 (ws.take (j + 1)) = st1 now (stN now d1 (ws.take j)) ws[j]) := Lib.hid (by rw [HTK.out, stN_snoc])
          have hwl := hJ1.wt
          have hc5 := cell5 hJ1.blk
          have hc3 : wr.cell? ⟨f, 3, none⟩ = some (.int .i64 d.retry) := by rw [← hdr]; exact hJ1.blk.cell 3 _ rfl
          rw [hdl] at hc5
          generalize (wAt d.l ws[j]).size = sz at *
          generalize hkE : ws[j] = k at *
          generalize stN now d1 (ws.take j) = dj at *
          have hw0 := cellsW_at dj.l k (by rw [hdl]; exact hk)
          rw [← wAt_eq dj.l k (by rw [hdl]; exact hk)] at hw0
          have ht1 : wr.cell? ⟨rr.lb, k * 3 + 1, none⟩ = some (.int .i64 (wAt dj.l k).tries) := hwl.cell _ _ hw0.2.1
          have hltl := hwl.lt
          have hltf := hJ1.blk.lt
          have HK := Lib.hid (And.intro hJ1 (And.intro hJ2 (And.intro hJ3 (And.intro hJ4 hJ5))))
          have HDJ := Lib.hid (And.intro hdl (And.intro hdr (And.intro hdm hdo)))
          obtain ⟨ht0, ht2⟩ := htr2
          have hkI : ((k : Nat) : Int) < (d.l.length : Int) := by omega
          clear hJ1 hJ2 hJ3 hJ4 hJ5 hcell hrq hwl hw0 hdl hdr hdm hdo htk HJ
          generalize hTR : (wAt dj.l k).tries = tr at *
          have HTRE := Lib.hid hTR
          clear hTR hkE
          have e1 : IntKind.i64.wrap (d.retry * 2 ^ (if 3 < tr then 3 else tr).toNat) = againZ d.retry tr := IntWalk.i64_in _ (by have := againZ_le d.retry tr hre ht0; unfold againZ at this; omega)
          have e2 : IntKind.i64.wrap (now + againZ d.retry tr) = now + againZ d.retry tr := IntWalk.i64_in _ (by have := againZ_le d.retry tr hre ht0; omega)
          have HE12 := Lib.hid (And.intro e1 e2)
          clear e1 e2
          have hgW : g < W1.heap.size := by
            obtain ⟨_, _, _, _, _, _, h9, _⟩ := H1.out
            exact (World.ownsRow.lt h9 g rfl).2
          have hrs := HK.out.2.2.2.1.size
          go_wp2
          refine code_at (fun W2 => Below wr.heap.size wr W2 ∧ Blk W2 wr.heap.size 62 [.int .i64 k, .int .i64 sz]) ⟨(Below.refl _ _).alloc (Nat.le_refl _) _, Blk.new wr 62 [.int .i64 k, .int .i64 sz]⟩ ?_
          rintro W2 ⟨hb2, hk2⟩
          have c5 := (hb2.cell (p := ⟨f, 5, none⟩) hltf).trans hc5
          have c0 := hk2.cell 0 _ rfl
          refine wp_region_held_drew (S := fun w' => w'.cell? ⟨f, 5, none⟩ = some (.slice (some ⟨rr.lb, 0, none⟩) d.l.length d.l.length) ∧ w'.cell? ⟨wr.heap.size, 0, none⟩ = some (.int .i64 k)) (by kernel_rfl) ?_ (fun hHeld => ?_)
          · exact ⟨c5, c0⟩
          refine take_yes 0 41 rfl rfl (by kernel_rfl) (by kernel_rfl) (by kernel_rfl) (fun _ _ _ h => h) (by assumption) (by rfl) (v := ?_) ?_ ?_
          rotate_left 1
          · (intro w hSw; (try dsimp only at hSw); go_simp; try with_reducible rfl)
          simp only [List.setIfInBounds_toArray, List.set_cons_zero, List.set_cons_succ]
          refine take_yes 1 42 rfl rfl (by kernel_rfl) (by kernel_rfl) (by kernel_rfl) (fun _ _ _ h => h) (by assumption) (by rfl) (v := ?_) ?_ ?_
          rotate_left 1
          · (intro w hSw; (try dsimp only at hSw); go_simp; try with_reducible rfl)
          simp only [List.setIfInBounds_toArray, List.set_cons_zero, List.set_cons_succ]
          refine take_yes 2 43 rfl rfl (by kernel_rfl) (by kernel_rfl) (by kernel_rfl) (fun _ _ _ h => h) (by assumption) (by rfl) (v := ?_) ?_ ?_
          rotate_left 1
          · (intro w hSw; (try dsimp only at hSw); go_simp; try with_reducible rfl)
          simp only [List.setIfInBounds_toArray, List.set_cons_zero, List.set_cons_succ]
          refine take_yes 3 44 rfl rfl (by kernel_rfl) (by kernel_rfl) (by kernel_rfl) (fun _ _ _ h => h) (by assumption) (by rfl) (v := ?_) ?_ ?_
          rotate_left 1
          · (intro w hSw; (try dsimp only at hSw); go_simp; try with_reducible rfl)
          simp only [List.setIfInBounds_toArray, List.set_cons_zero, List.set_cons_succ]
          refine take_yes 4 45 rfl rfl (by kernel_rfl) (by kernel_rfl) (by kernel_rfl) (fun _ _ _ h => h) (by assumption) (by rfl) (v := ?_) ?_ ?_
          rotate_left 1
          · (intro w hSw; (try dsimp only at hSw); go_simp; try with_reducible rfl)
          simp only [List.setIfInBounds_toArray, List.set_cons_zero, List.set_cons_succ]
          refine take_yes 5 46 rfl rfl (by kernel_rfl) (by kernel_rfl) (by kernel_rfl) (fun _ _ _ h => h) (by assumption) (by rfl) (v := ?_) ?_ ?_
          rotate_left 1
          · (intro w hSw; (try dsimp only at hSw); go_simp; try with_reducible rfl)
          simp only [List.setIfInBounds_toArray, List.set_cons_zero, List.set_cons_succ]
          refine take_yes 6 47 rfl rfl (by kernel_rfl) (by kernel_rfl) (by kernel_rfl) (fun _ _ _ h => h) (by assumption) (by rfl) (v := ?_) ?_ ?_
          rotate_left 1
          · (intro w hSw; (try dsimp only at hSw); go_simp; try with_reducible rfl)
          simp only [List.setIfInBounds_toArray, List.set_cons_zero, List.set_cons_succ]
          refine take_yes 7 10 rfl rfl (by kernel_rfl) (by kernel_rfl) (by kernel_rfl) (fun _ _ _ h => h) (by assumption) (by rfl) (v := ?_) ?_ ?_
          rotate_left 1
          · (intro w hSw; (try dsimp only at hSw); go_simp; try with_reducible rfl)
          simp only [List.setIfInBounds_toArray, List.set_cons_zero, List.set_cons_succ]
          refine wpAnyH_done (by kernel_rfl) ?_ _
          go_wp2
          refine code_at (fun W3 => Below wr.heap.size wr W3 ∧ Blk W3 wr.heap.size 62 [.int .i64 k, .int .i64 sz]) ⟨hb2.drew, hk2.drew⟩ ?_
          rintro W3 ⟨hb3, hk3⟩
          clear hHeld c5 c0 hb2 hk2
          have c3 := (hb3.cell (p := ⟨f, 3, none⟩) hltf).trans hc3
          have c1 := (hb3.cell (p := ⟨rr.lb, k * 3 + 1, none⟩) hltl).trans ht1
          have c0 := hk3.cell 0 _ rfl
          refine wp_region_held_drew (S := fun w' => w'.cell? ⟨f, 3, none⟩ = some (.int .i64 d.retry) ∧ w'.cell? ⟨rr.lb, k * 3 + 1, none⟩ = some (.int .i64 tr) ∧ w'.cell? ⟨wr.heap.size, 0, none⟩ = some (.int .i64 k)) (by kernel_rfl) ?_ (fun hHeld => ?_)
          · exact ⟨c3, c1, c0⟩
          refine take_yes 0 48 rfl rfl (by kernel_rfl) (by kernel_rfl) (by kernel_rfl) (fun _ _ _ h => h) (by assumption) (by rfl) (v := ?_) ?_ ?_
          rotate_left 1
          · (intro w hSw; (try dsimp only at hSw); go_simp; try with_reducible rfl)
          simp only [List.setIfInBounds_toArray, List.set_cons_zero, List.set_cons_succ]
          refine take_yes 1 49 rfl rfl (by kernel_rfl) (by kernel_rfl) (by kernel_rfl) (fun _ _ _ h => h) (by assumption) (by rfl) (v := ?_) ?_ ?_
          rotate_left 1
          · (intro w hSw; (try dsimp only at hSw); go_simp; try with_reducible rfl)
          simp only [List.setIfInBounds_toArray, List.set_cons_zero, List.set_cons_succ]
          refine take_yes 2 50 rfl rfl (by kernel_rfl) (by kernel_rfl) (by kernel_rfl) (fun _ _ _ h => h) (by assumption) (by rfl) (v := ?_) ?_ ?_
          rotate_left 1
          · (intro w hSw; (try dsimp only at hSw); go_simp; try with_reducible rfl)
          simp only [List.setIfInBounds_toArray, List.set_cons_zero, List.set_cons_succ]
          refine take_yes 3 51 rfl rfl (by kernel_rfl) (by kernel_rfl) (by kernel_rfl) (fun _ _ _ h => h) (by assumption) (by rfl) (v := ?_) ?_ ?_
          rotate_left 1
          · (intro w hSw; (try dsimp only at hSw); go_simp; try with_reducible rfl)
          simp only [List.setIfInBounds_toArray, List.set_cons_zero, List.set_cons_succ]
          refine take_yes 4 52 rfl rfl (by kernel_rfl) (by kernel_rfl) (by kernel_rfl) (fun _ _ _ h => h) (by assumption) (by rfl) (v := ?_) ?_ ?_
          rotate_left 1
          · (intro w hSw; (try dsimp only at hSw); go_simp; try with_reducible rfl)
          simp only [List.setIfInBounds_toArray, List.set_cons_zero, List.set_cons_succ]
          refine take_yes 5 53 rfl rfl (by kernel_rfl) (by kernel_rfl) (by kernel_rfl) (fun _ _ _ h => h) (by assumption) (by rfl) (v := ?_) ?_ ?_
          rotate_left 1
          · (intro w hSw; (try dsimp only at hSw); go_simp; try with_reducible rfl)
          simp only [List.setIfInBounds_toArray, List.set_cons_zero, List.set_cons_succ]
          refine take_yes 6 54 rfl rfl (by kernel_rfl) (by kernel_rfl) (by kernel_rfl) (fun _ _ _ h => h) (by assumption) (by rfl) (v := ?_) ?_ ?_
          rotate_left 1
          · (intro w hSw; (try dsimp only at hSw); go_simp; try with_reducible rfl)
          simp only [List.setIfInBounds_toArray, List.set_cons_zero, List.set_cons_succ]
          refine take_yes 7 55 rfl rfl (by kernel_rfl) (by kernel_rfl) (by kernel_rfl) (fun _ _ _ h => h) (by assumption) (by rfl) (v := ?_) ?_ ?_
          rotate_left 1
          · (intro w hSw; (try dsimp only at hSw); go_simp; try with_reducible rfl)
          simp only [List.setIfInBounds_toArray, List.set_cons_zero, List.set_cons_succ]
          refine take_yes 8 56 rfl rfl (by kernel_rfl) (by kernel_rfl) (by kernel_rfl) (fun _ _ _ h => h) (by assumption) (by rfl) (v := ?_) ?_ ?_
          rotate_left 1
          · (intro w hSw; (try dsimp only at hSw); go_simp; try with_reducible rfl)
          simp only [List.setIfInBounds_toArray, List.set_cons_zero, List.set_cons_succ]
          refine take_yes 9 57 rfl rfl (by kernel_rfl) (by kernel_rfl) (by kernel_rfl) (fun _ _ _ h => h) (by assumption) (by rfl) (v := ?_) ?_ ?_
          rotate_left 1
          · (intro w hSw; (try dsimp only at hSw); go_simp; try with_reducible rfl)
          simp only [List.setIfInBounds_toArray, List.set_cons_zero, List.set_cons_succ]
          refine take_yes 10 58 rfl rfl (by kernel_rfl) (by kernel_rfl) (by kernel_rfl) (fun _ _ _ h => h) (by assumption) (by rfl) (v := ?_) ?_ ?_
          rotate_left 1
          · (intro w hSw; (try dsimp only at hSw); go_simp; try with_reducible rfl)
          simp only [List.setIfInBounds_toArray, List.set_cons_zero, List.set_cons_succ]
          refine take_yes 11 59 rfl rfl (by kernel_rfl) (by kernel_rfl) (by kernel_rfl) (fun _ _ _ h => h) (by assumption) (by rfl) (v := ?_) ?_ ?_
          rotate_left 1
          · (intro w hSw; (try dsimp only at hSw); go_simp; try with_reducible rfl)
          simp only [List.setIfInBounds_toArray, List.set_cons_zero, List.set_cons_succ]
          refine take_yes 12 60 rfl rfl (by kernel_rfl) (by kernel_rfl) (by kernel_rfl) (fun _ _ _ h => h) (by assumption) (by rfl) (v := ?_) ?_ ?_
          rotate_left 1
          · (intro w hSw; (try dsimp only at hSw); go_simp; try with_reducible rfl)
          simp only [List.setIfInBounds_toArray, List.set_cons_zero, List.set_cons_succ]
          refine take_yes 13 61 rfl rfl (by kernel_rfl) (by kernel_rfl) (by kernel_rfl) (fun _ _ _ h => h) (by assumption) (by rfl) (v := ?_) ?_ ?_
          rotate_left 1
          · (intro w hSw; (try dsimp only at hSw); go_simp; try with_reducible rfl)
          simp only [List.setIfInBounds_toArray, List.set_cons_zero, List.set_cons_succ]
          refine take_yes 14 62 rfl rfl (by kernel_rfl) (by kernel_rfl) (by kernel_rfl) (fun _ _ _ h => h) (by assumption) (by rfl) (v := ?_) ?_ ?_
          rotate_left 1
          · (intro w hSw; (try dsimp only at hSw); go_simp; try with_reducible rfl)
          simp only [List.setIfInBounds_toArray, List.set_cons_zero, List.set_cons_succ]
          refine wpAnyH_ready (rs := [15]) (by kernel_rfl) (by simp) ?_
          refine AllReadyH.cons rfl (fun K hK => ?_) AllReadyH.nil
          -- 15:  dst := some 63, op := Op.call  callee := Callee.value (Operand.func 35), args := #[Operand.tmp 48, Operand.tmp 60, Operand.tmp 
          go_simp
          go_at_call 35
          rw [HE12.out.1, HE12.out.2]
          have hok3 := HK.out.1.below hb3.drew
          refine (plan_any Zj f dj rr us es (now + againZ d.retry tr) (k : Int) HDJ.out.2.2.1 HDJ.out.2.2.2 W3.drew hok3).mono ?_
          rintro e w4 ⟨v4, rfl, h7, h8, h9⟩
          have g3 : w4.cell? ⟨f, 3, none⟩ = some (.int .i64 d.retry) := by rw [← HDJ.out.2.1]; exact h7.blk.cell 3 _ rfl
          have g1 : w4.cell? ⟨rr.lb, k * 3 + 1, none⟩ = some (.int .i64 tr) := by
            have hkl : k < dj.l.length := by rw [HDJ.out.1]; exact hk
            have h10 := (cellsW_at dj.l k hkl).2.1
            rw [← wAt_eq dj.l k hkl, HTRE.out] at h10
            exact h7.wt.cell _ _ h10
          have gf1 := h7.wt.free (k * 3 + 1)
          have hk4 : Blk w4 wr.heap.size 62 [.int .i64 k, .int .i64 sz] := (hk3.drew).chg h8 (fun e => by
            have := HK.out.1.lt _ (.inr (.inr (.inr e)))
            omega)
          have g0 := hk4.cell 0 _ rfl
          have hlt4 := h7.wt.lt
          have hsz4 : W3.heap.size ≤ w4.heap.size := h8.size
          have hszr := hb3.size
          have H4 := Lib.hid (And.intro h7 (And.intro (show Chg W3 w4 (Foot rr.ab rr.av) from ⟨h8.os, h8.tape, h8.output, h8.size, h8.block⟩) (And.intro (show v4.ownBlock = rr.av.ownBlock ∨ ∃ k, v4.ownBlock = some k ∧ W3.heap.size ≤ k from h9) (And.intro hb3 hk4))))
          clear h7 h8 h9 hk4 hok3 c3 c1 c0 hb3 hk3
          generalize (if (3 : Int) < tr then (3 : Int) else tr) = mn
          go_wp2_with fail
          refine hK.out _ _ ⟨g3, g1, g0⟩ (fun hHeld15 => ?_)
          clear hK K
          try simp only [Act.put, List.setIfInBounds_toArray, List.set_cons_zero, List.set_cons_succ]
          refine wpAnyH_done (by kernel_rfl) ?_ _
          go_wp2
          have hcs : Chg w4 (w4.setCell ⟨rr.lb, k * 3 + 1, none⟩ (.int .i64 (tr + 1))) (fun x => x = rr.lb) := chg_cell (Chg.refl w4 _) _ _
          have hz5 : (w4.setCell ⟨rr.lb, k * 3 + 1, none⟩ (.int .i64 (tr + 1))).heap.size = w4.heap.size := by simp
          have HN : Hid (StJ Z w W1 (w4.setCell ⟨rr.lb, k * 3 + 1, none⟩ (.int .i64 (tr + 1))) f d1 now (ws.take (j + 1)) us es (.slice (some ⟨g, 0, none⟩) n c) (reqCells rq) n) := Lib.hid (by
            obtain ⟨k1, k2, k3, k4, k5⟩ := HK.out
            obtain ⟨m1, m2, m3, m4, m5⟩ := H4.out
            have hkl : k < dj.l.length := by rw [HDJ.out.1]; exact hk
            have hwt : Blk (w4.setCell ⟨rr.lb, k * 3 + 1, none⟩ (.int .i64 (tr + 1))) rr.lb 87 (cellsW (dj.l.set k ⟨(wAt dj.l k).size, (wAt dj.l k).tries + 1, (wAt dj.l k).kept⟩)) := by
              rw [cellsW_try dj.l k _ hkl, HTRE.out]
              have h9 : Blk w4 rr.lb 87 (cellsW dj.l) := m1.wt
              exact h9.set _ _ (by rw [cellsW_length]; omega)
            have hst := m1.setW (dj.l.set k ⟨(wAt dj.l k).size, (wAt dj.l k).tries + 1, (wAt dj.l k).kept⟩) (by simp) hcs hwt
            have hM : ∀ x, FdM f rr x → x < w.heap.size ∨ W1.heap.size ≤ x := k3
            have hMz : ∀ x, FdM f rr x → x < w.heap.size → Z x := fun x hx hlt => by
              rcases k2 x (k1.mz x hx) with h | h
              · exact h
              · exact absurd h.1 (by omega)
            unfold StJ
            rw [HST.out]
            refine ⟨Wide Zj W3.drew w4, { rr with av := v4 }, ?_, fun x hx => ?_, fun x hx => ?_, ?_, ?_, by rw [hz5]; omega⟩
            · have e : st1 now dj k = { ({ dj with m := insE ⟨now + againZ d.retry tr, dj.ord, (k : Int)⟩ (keepW (k : Int) dj.m), ord := dj.ord + 1 } : FdD) with l := dj.l.set k ⟨(wAt dj.l k).size, (wAt dj.l k).tries + 1, (wAt dj.l k).kept⟩ } := by
                unfold st1
                rw [HTRE.out, HDJ.out.2.1]
              rw [e]
              exact hst
            · rcases hx with hx | hx
              · rcases k2 x hx with h | h
                · exact .inl h
                · exact .inr ⟨h.1, by rw [hz5]; have := h.2; omega⟩
              · exact .inr ⟨by have h10 : W3.heap.size ≤ x := hx.1; omega, by rw [hz5]; exact hx.2⟩
            · rcases hx with hx | hx | hx | hx
              · exact hM x (.inl hx)
              · exact hM x (.inr (.inl hx))
              · exact hM x (.inr (.inr (.inl hx)))
              · rcases hx with hx | hx
                · exact hM x (.inr (.inr (.inr (.inl hx))))
                · rcases m3 with e | ⟨q, e, hq⟩
                  · exact hM x (.inr (.inr (.inr (.inr (by rw [← e]; exact hx)))))
                  · have hx' : some x = some q := by rw [← e]; exact hx
                    injection hx' with hx'
                    right
                    omega
            · have hc3 : Chg w W3 Z := k4.trans (Chg.of_below (S := fun _ => False) m4) (fun _ _ h => h.elim)
              have hc4 : Chg w w4 Z := hc3.trans m2 (fun x hx e => hMz x (.inr (.inr (.inr e))) hx)
              exact hc4.trans hcs (fun x hx e => hMz x (.inr (.inl e)) hx)
            · have o3 := ownsRow_chg k5 (Chg.of_below (S := fun _ => False) m4) (fun _ _ h => h)
              have hgn : ¬ FdM f rr g := fun e => by
                rcases hM g e with h | h <;> omega
              have own : ∀ x, (Value.slice (some ⟨g, 0, none⟩) n c).ownBlock = some x → x = g := fun x hx => by simpa [Value.ownBlock] using hx.symm
              have o4 := ownsRow_chg o3 m2 (fun x hx e => hgn (by rw [← own x hx]; exact .inr (.inr (.inr e))))
              exact ownsRow_chg o4 hcs (fun x hx e => hgn (by rw [← own x hx]; exact .inr (.inl e))))
          clear hcs hz5 HK H4 hHeld hHeld15
          go_roundw
          case rel => exact ⟨j + 1, by go_num, by omega, HN⟩
          case measure => simp [intOf]; omega
        · obtain rfl : j = n := by omega
          have HF := Lib.hid HJ.out
          clear HJ
          go_wp2
          go_ret
          obtain ⟨Zj, rr, h1, h2, h3, h4, h5, -⟩ := HF.out
          rw [List.take_of_length_le (by rw [HWL.out]; exact Nat.le_refl _), HD1.out.2.2.2.1] at h1
          have h6 : wr.ownsRow w.heap.size 62 2 (.slice A j c) rq.length (reqCells rq) := by rw [HRL.out]; exact h5
          rw [← HRQE.out] at h6
          exact ⟨_, rfl, h6, ⟨rr, us, es, h1.wide h2⟩, h4⟩
end Go.Proofs.Ytlkgeifmppadmaa
namespace Go.Proofs.Ytlkgeifmppadmaa
open Go.RowKit
set_option linter.unusedVariables false
set_option linter.unusedSimpArgs false

theorem far5 (w : World) (b : Nat) (u0 u1 u2 u3 u4 : Value) (a : Addr) (h : b ≠ a.block) : (((((w.setCell ⟨b, 0, none⟩ u0).setCell ⟨b, 1, none⟩ u1).setCell ⟨b, 2, none⟩ u2).setCell ⟨b, 3, none⟩ u3).setCell ⟨b, 4, none⟩ u4).cell? a = w.cell? a := by
  rw [World.cell?_setCell_far _ _ _ _ h, World.cell?_setCell_far _ _ _ _ h, World.cell?_setCell_far _ _ _ _ h, World.cell?_setCell_far _ _ _ _ h, World.cell?_setCell_far _ _ _ _ h]
/-- A row out of a cell, and a slot beside it. -/
theorem results_row_tmp {P : Program} {fn : Func} {p u : Tmp} {ty : TypeId} (h : fn.results = #[.cell p ty, .tmp u]) (tmps : Array Value) (w : World) (g : Nat) (t : TypeId) (cs : Array Value) (fr : Nat × Nat) (d : TypeDesc)
    (hp : tmps.getD p undef = .pointer (some ⟨g, 0, none⟩)) (hg : w.heap[g]? = some (.cells cs t fr))
    (hu : P.underlying ty = some d) (hd : (match d with | .struct _ | .array _ _ => true | _ => false) = true) (hi : (P.info? ty).map (·.size) = some cs.size) (y : Value) (hy : tmps.getD u undef = y) :
    (results fn tmps).run P w = .ok (.tuple #[.agg cs, y]) w := by
  rw [results_cell_tmp h, hp, hy]
  simp [asAddr, run_loadVar_row w g t ty cs fr d hg hu hd hi, Result.andThen]
def CurPost (w : World) (d : FdD) (e : Ending) (w' : World) : Prop := ∃ v, e = .returned (.tuple #[v, .bool d.has]) ∧ SgF (Fresh w w') w' v d.cur ∧ Below w.heap.size w w'
set_option maxRecDepth 100000 in
set_option maxHeartbeats 8000000 in
theorem current_any (Z : Nat → Prop) (f : Nat) (d : FdD) (hr : d.cur.ck.root.length ≤ 100000000) (hs : SmallSig d.cur.sig) (w : World) (hok : FdAt Z w f d) :
    Calls Try.prog 17 #[.pointer (some ⟨f, 0, none⟩)] w (CurPost w d) := by
  obtain ⟨r, us, es, hok⟩ := hok
  have HC := Lib.hid (fun (wz : World) (v : Value) (hz : SgV wz v d.cur) => ckcopy_any v d.cur hr hs wz hz)
  obtain ⟨R, cr, er⟩ := hok.tx.cr.1.form
  obtain ⟨P, cp, ep⟩ := hok.tx.cp.rws.form
  obtain ⟨Q, cq, eq⟩ := hok.tx.cq.rws.form
  have hb0 := (Below.refl w.heap.size w).alloc (Nat.le_refl _) (.cells #[.int .i64 0, .slice none 0 0, .int .i64 0, .slice none 0 0, .slice none 0 0] 40)
  have hk0 := Blk.new w 40 [.int .i64 0, .slice none 0 0, .int .i64 0, .slice none 0 0, .slice none 0 0]
  have hfw := hok.blk.lt
  obtain ⟨base, kb, lb, ab, av, kv, ev, pl, pw, rc, rp, rq, dr, dp, dq⟩ := r
  simp only at er ep eq
  subst er ep eq
  have HW := Lib.hid (And.intro (hok.below hb0) (And.intro hk0 hb0))
  clear hb0 hk0 hok hr hs
  go_enter Try.func17, Try.ntmps17
  go_wp2
  refine code_at (fun w1 => FdOk Z w1 f d ⟨base, kb, lb, ab, av, kv, ev, pl, pw, .slice R d.cur.ck.root.length cr, .slice P d.cur.sig.parts.length cp, .slice Q d.cur.sig.path.length cq, dr, dp, dq⟩ us es ∧ Blk w1 w.heap.size 40 [.int .i64 0, .slice none 0 0, .int .i64 0, .slice none 0 0, .slice none 0 0] ∧ Below w.heap.size w w1) HW.out ?_
  rintro w1 ⟨k0, k1, kb1⟩
  have H1 := Lib.hid (And.intro k0 (And.intro k1 kb1))
  have hfl := k0.blk.lt
  have hbl := k1.lt
  have f6 : w1.cell? ⟨f, 6, none⟩ = some (.int .i64 d.cur.ck.num) := k0.blk.cell 6 _ rfl
  have f7 : w1.cell? ⟨f, 7, none⟩ = some (.slice R d.cur.ck.root.length cr) := k0.blk.cell 7 _ rfl
  have f8 : w1.cell? ⟨f, 8, none⟩ = some (.int .i64 d.cur.sig.index) := k0.blk.cell 8 _ rfl
  have f9 : w1.cell? ⟨f, 9, none⟩ = some (.slice P d.cur.sig.parts.length cp) := k0.blk.cell 9 _ rfl
  have f10 : w1.cell? ⟨f, 10, none⟩ = some (.slice Q d.cur.sig.path.length cq) := k0.blk.cell 10 _ rfl
  have f11 : w1.cell? ⟨f, 11, none⟩ = some (.bool d.has) := k0.blk.cell 11 _ rfl
  clear k0 k1 kb1 HW
  refine wp_region_held_drew (S := fun w' => w'.cell? ⟨f, 6, none⟩ = some (.int .i64 d.cur.ck.num) ∧ w'.cell? ⟨f, 7, none⟩ = some (.slice R d.cur.ck.root.length cr) ∧ w'.cell? ⟨f, 8, none⟩ = some (.int .i64 d.cur.sig.index) ∧ w'.cell? ⟨f, 9, none⟩ = some (.slice P d.cur.sig.parts.length cp) ∧ w'.cell? ⟨f, 10, none⟩ = some (.slice Q d.cur.sig.path.length cq) ∧ w'.cell? ⟨f, 11, none⟩ = some (.bool d.has)) (by kernel_rfl) ?_ (fun hHeld => ?_)
  · exact ⟨f6, f7, f8, f9, f10, f11⟩
  refine take_yes 0 4 rfl rfl (by kernel_rfl) (by kernel_rfl) (by kernel_rfl) (fun _ _ _ h => h) (by assumption) (by rfl) (v := ?_) ?_ ?_
  rotate_left 1
  · (intro w hSw; (try dsimp only at hSw); go_simp; try with_reducible rfl)
  simp only [List.setIfInBounds_toArray, List.set_cons_zero, List.set_cons_succ]
  refine take_yes 1 5 rfl rfl (by kernel_rfl) (by kernel_rfl) (by kernel_rfl) (fun _ _ _ h => h) (by assumption) (by rfl) (v := ?_) ?_ ?_
  rotate_left 1
  · (intro w hSw; (try dsimp only at hSw); go_simp; try with_reducible rfl)
  simp only [List.setIfInBounds_toArray, List.set_cons_zero, List.set_cons_succ]
  refine take_yes 2 6 rfl rfl (by kernel_rfl) (by kernel_rfl) (by kernel_rfl) (fun _ _ _ h => h) (by assumption) (by rfl) (v := ?_) ?_ ?_
  rotate_left 1
  · (intro w hSw; (try dsimp only at hSw); go_simp; try with_reducible rfl)
  simp only [List.setIfInBounds_toArray, List.set_cons_zero, List.set_cons_succ]
  refine take_yes 3 7 rfl rfl (by kernel_rfl) (by kernel_rfl) (by kernel_rfl) (fun _ _ _ h => h) (by assumption) (by rfl) (v := ?_) ?_ ?_
  rotate_left 1
  · (intro w hSw; (try dsimp only at hSw); go_simp; try with_reducible rfl)
  simp only [List.setIfInBounds_toArray, List.set_cons_zero, List.set_cons_succ]
  refine take_yes 5 9 rfl rfl (by kernel_rfl) (by kernel_rfl) (by kernel_rfl) (fun _ _ _ h => h) (by assumption) (by rfl) (v := ?_) ?_ ?_
  rotate_left 1
  · (intro w hSw; (try dsimp only at hSw); go_simp; try with_reducible rfl)
  simp only [List.setIfInBounds_toArray, List.set_cons_zero, List.set_cons_succ]
  refine take_yes 6 10 rfl rfl (by kernel_rfl) (by kernel_rfl) (by kernel_rfl) (fun _ _ _ h => h) (by assumption) (by rfl) (v := ?_) ?_ ?_
  rotate_left 1
  · (intro w hSw; (try dsimp only at hSw); go_simp; try with_reducible rfl)
  simp only [List.setIfInBounds_toArray, List.set_cons_zero, List.set_cons_succ]
  refine take_yes 7 11 rfl rfl (by kernel_rfl) (by kernel_rfl) (by kernel_rfl) (fun _ _ _ h => h) (by assumption) (by rfl) (v := ?_) ?_ ?_
  rotate_left 1
  · (intro w hSw; (try dsimp only at hSw); go_simp; try with_reducible rfl)
  simp only [List.setIfInBounds_toArray, List.set_cons_zero, List.set_cons_succ]
  refine take_yes 8 12 rfl rfl (by kernel_rfl) (by kernel_rfl) (by kernel_rfl) (fun _ _ _ h => h) (by assumption) (by rfl) (v := ?_) ?_ ?_
  rotate_left 1
  · (intro w hSw; (try dsimp only at hSw); go_simp; try with_reducible rfl)
  simp only [List.setIfInBounds_toArray, List.set_cons_zero, List.set_cons_succ]
  refine wpAnyH_ready (rs := [4]) (by kernel_rfl) (by simp) ?_
  refine AllReadyH.cons rfl (fun K hK => ?_) AllReadyH.nil
  -- 4:  dst := some 8, op := Op.call  callee := Callee.value (Operand.func 34), args := #[Operand.tmp 7], argTypes := #[40] , type := 
  go_simp
  go_at_call 34
  refine (HC.out w1.drew _ ⟨_, _, _, rfl, H1.out.1.tx.cr.1.below (Below.refl _ _).drew, H1.out.1.tx.cp.rws.below (Below.refl _ _).drew, H1.out.1.tx.cq.rws.below (Below.refl _ _).drew⟩).mono ?_
  rintro e w3 ⟨v3, rfl, ⟨r3, p3, q3, rfl, h3, h4, h5⟩, h6'⟩
  obtain ⟨A3, n3, rfl⟩ := h3.1.form
  obtain ⟨A4, n4, rfl⟩ := h4.rws.form
  obtain ⟨A5, n5, rfl⟩ := h5.rws.form
  have h6 : Below w1.heap.size w1 w3 := ⟨h6'.os, h6'.tape, h6'.output, h6'.size, h6'.block⟩
  have kf := H1.out.1.blk.below h6
  have kz := H1.out.2.1.below h6
  have e6 := kf.cell 6 _ rfl
  have e7 := kf.cell 7 _ rfl
  have e8 := kf.cell 8 _ rfl
  have e9 := kf.cell 9 _ rfl
  have e10 := kf.cell 10 _ rfl
  have e11 := kf.cell 11 _ rfl
  have z0 := kz.cell 0 _ rfl
  have z1 := kz.cell 1 _ rfl
  have z2 := kz.cell 2 _ rfl
  have z3 := kz.cell 3 _ rfl
  have z4 := kz.cell 4 _ rfl
  have y0 := kz.free 0
  have y1 := kz.free 1
  have y2 := kz.free 2
  have y3 := kz.free 3
  have y4 := kz.free 4
  have H3 := Lib.hid (And.intro (show BysF (fun g => w1.heap.size ≤ g ∧ g < w3.heap.size) w3 _ d.cur.ck.root from h3) (And.intro (show RwsF (fun g => w1.heap.size ≤ g ∧ g < w3.heap.size) w3 _ d.cur.sig.parts from h4) (And.intro (show RwsF (fun g => w1.heap.size ≤ g ∧ g < w3.heap.size) w3 _ d.cur.sig.path from h5) (And.intro h6 kz))))
  clear h3 h4 h5 h6 h6' kf kz
  go_wp2_with fail
  refine hK.out _ _ ⟨e6, e7, e8, e9, e10, e11⟩ (fun hHeld4 => ?_)
  clear hK K
  try simp only [Act.put, List.setIfInBounds_toArray, List.set_cons_zero, List.set_cons_succ]
  refine wpAnyH_ready (rs := [9]) (by kernel_rfl) (by simp) ?_
  refine AllReadyH.cons rfl (fun K hK => ?_) AllReadyH.nil
  -- 9:  dst := none, op := Op.store 40 (Operand.tmp 2) (Operand.tmp 8), type := 0
  go_simp
  refine hK.out _ _ (by refine ⟨?_, ?_, ?_, ?_, ?_, ?_⟩ <;> refine (far5 w3 w.heap.size _ _ _ _ _ _ (show w.heap.size ≠ f by omega)).trans ?_ <;> assumption) (fun hHeld9 => ?_)
  clear hK K
  try simp only [Act.put, List.setIfInBounds_toArray, List.set_cons_zero, List.set_cons_succ]
  refine take_yes 10 3 rfl rfl (by kernel_rfl) (by kernel_rfl) (by kernel_rfl) (fun _ _ _ h => h) (by assumption) (by rfl) (v := ?_) ?_ ?_
  rotate_left 1
  · (intro w hSw; (try dsimp only at hSw); go_simp; try with_reducible rfl)
  simp only [List.setIfInBounds_toArray, List.set_cons_zero, List.set_cons_succ]
  refine wpAnyH_done (by kernel_rfl) ?_ _
  have hch : Chg w3 (((((w3.setCell ⟨w.heap.size, 0, none⟩ (.int .i64 d.cur.ck.num)).setCell ⟨w.heap.size, 1, none⟩ (.slice A3 d.cur.ck.root.length n3)).setCell ⟨w.heap.size, 2, none⟩ (.int .i64 d.cur.sig.index)).setCell ⟨w.heap.size, 3, none⟩ (.slice A4 d.cur.sig.parts.length n4)).setCell ⟨w.heap.size, 4, none⟩ (.slice A5 d.cur.sig.path.length n5)) (fun k => k = w.heap.size) := chg_cell (chg_cell (chg_cell (chg_cell (chg_cell (Chg.refl w3 _) 0 _) 1 _) 2 _) 3 _) 4 _
  have hfin : Blk (((((w3.setCell ⟨w.heap.size, 0, none⟩ (.int .i64 d.cur.ck.num)).setCell ⟨w.heap.size, 1, none⟩ (.slice A3 d.cur.ck.root.length n3)).setCell ⟨w.heap.size, 2, none⟩ (.int .i64 d.cur.sig.index)).setCell ⟨w.heap.size, 3, none⟩ (.slice A4 d.cur.sig.parts.length n4)).setCell ⟨w.heap.size, 4, none⟩ (.slice A5 d.cur.sig.path.length n5)) w.heap.size 40 [.int .i64 d.cur.ck.num, .slice A3 d.cur.ck.root.length n3, .int .i64 d.cur.sig.index, .slice A4 d.cur.sig.parts.length n4, .slice A5 d.cur.sig.path.length n5] := ((((H3.out.2.2.2.2.set 0 _ (by simp)).set 1 _ (by simp)).set 2 _ (by simp)).set 3 _ (by simp)).set 4 _ (by simp)
  generalize ((((w3.setCell ⟨w.heap.size, 0, none⟩ (.int .i64 d.cur.ck.num)).setCell ⟨w.heap.size, 1, none⟩ (.slice A3 d.cur.ck.root.length n3)).setCell ⟨w.heap.size, 2, none⟩ (.int .i64 d.cur.sig.index)).setCell ⟨w.heap.size, 3, none⟩ (.slice A4 d.cur.sig.parts.length n4)).setCell ⟨w.heap.size, 4, none⟩ (.slice A5 d.cur.sig.path.length n5) = w4 at *
  have HF := Lib.hid (And.intro hch hfin)
  clear hch hfin z0 z1 z2 z3 z4 y0 y1 y2 y3 y4 e6 e7 e8 e9 e10 e11 f6 f7 f8 f9 f10 f11
  go_wp2
  obtain ⟨h5, h4, h6, h7, -⟩ := H3.out
  refine bodyPost_ret (v := .tuple #[.agg [.int .i64 d.cur.ck.num, .slice A3 d.cur.ck.root.length n3, .int .i64 d.cur.sig.index, .slice A4 d.cur.sig.parts.length n4, .slice A5 d.cur.sig.path.length n5].toArray, .bool d.has]) ?_ ?_ ⟨_, rfl, ⟨_, _, _, rfl, ?_, ?_, ?_⟩, ?_⟩
  · exact results_row_tmp Try.results17 _ _ w.heap.size 40 _ (0, 0) _ rfl HF.out.2 under_signed rfl size_signed _ rfl
  · rfl
  · exact (h5.chg HF.out.1 (fun g hg e => by have h1 : w1.heap.size ≤ g := hg.1; have h2 : g = w.heap.size := e; omega)).mono (fun g hg => ⟨by have h1 : w1.heap.size ≤ g := hg.1; omega, by have h1 : g < w3.heap.size := hg.2; have := HF.out.1.size; omega⟩)
  · exact (h4.chg HF.out.1 (fun g hg e => by have h1 : w1.heap.size ≤ g := hg.1; have h2 : g = w.heap.size := e; omega)).mono (fun g hg => ⟨by have h1 : w1.heap.size ≤ g := hg.1; omega, by have h1 : g < w3.heap.size := hg.2; have := HF.out.1.size; omega⟩)
  · exact (h6.chg HF.out.1 (fun g hg e => by have h1 : w1.heap.size ≤ g := hg.1; have h2 : g = w.heap.size := e; omega)).mono (fun g hg => ⟨by have h1 : w1.heap.size ≤ g := hg.1; omega, by have h1 : g < w3.heap.size := hg.2; have := HF.out.1.size; omega⟩)
  · exact (H1.out.2.2.trans (h7.mono H1.out.2.2.size)).trans (HF.out.1.below (by have := h7.size; have := H1.out.2.2.size; omega) (fun k hk => by omega))
end Go.Proofs.Ytlkgeifmppadmaa
namespace Go.Proofs.Ytlkgeifmppadmaa
open Go.RowKit
set_option linter.unusedVariables false
set_option linter.unusedSimpArgs false

/-- A row of one's own, of texts that lie below lo. -/
def OwnT (S : Nat → Prop) (w : World) (lo base : Nat) (v : Value) (ls : List (List UInt8)) : Prop :=
  ∃ us, w.ownsRow base 30 1 v ls.length us ∧ ∀ i (h : i < ls.length), ∃ u, us[i]? = some u ∧ Bys w u ls[i] ∧ (0 < ls[i].length → ∀ g, u.ownBlock = some g → S g ∧ g < lo)
theorem OwnT.nil (S : Nat → Prop) (w : World) (lo base : Nat) : OwnT S w lo base (.slice none 0 0) [] := ⟨[], World.ownsRow_nil _ _ _ _, fun i h => absurd h (Nat.not_lt_zero _)⟩
theorem OwnT.rws {S : Nat → Prop} {w : World} {lo base : Nat} {v : Value} {ls : List (List UInt8)} (h : OwnT S w lo base v ls) : Rws w v ls := by
  obtain ⟨us, h1, h2⟩ := h
  exact ⟨us, Sho.own h1, fun i hi => by obtain ⟨u, e, hu, _⟩ := h2 i hi; exact ⟨u, e, hu⟩⟩
theorem OwnT.chg {S : Nat → Prop} {w w1 : World} {lo base : Nat} {T : Nat → Prop} {v : Value} {ls : List (List UInt8)} (h : OwnT S w lo base v ls) (hc : Chg w w1 T) (hT : ∀ g, T g → lo ≤ g ∧ g < base) : OwnT S w1 lo base v ls := by
  obtain ⟨us, h1, h2⟩ := h
  refine ⟨us, ownsRow_chg h1 hc (fun k hk e => by have := (World.ownsRow.lt h1 k hk).1; have := hT k e; omega), fun i hi => ?_⟩
  obtain ⟨u, e, hx, hn⟩ := h2 i hi
  exact ⟨u, e, Sho.chgF hx (S := fun g => S g ∧ g < lo) hn hc (fun g hg e => by have := hT g e; have := hg.2; omega), hn⟩
theorem OwnT.chg2 {S : Nat → Prop} {w w1 : World} {lo base b : Nat} {v : Value} {ls : List (List UInt8)} (h : OwnT S w lo base v ls) (hc : Chg w w1 (fun k => k = b)) (hb : lo ≤ b ∧ b < base) : OwnT S w1 lo base v ls := h.chg hc (fun g hg => by omega)
theorem OwnT.push {S : Nat → Prop} {w W : World} {lo base : Nat} {v v' u : Value} {ls : List (List UInt8)} {l : List UInt8} {us : List Value} {t : TypeId} {cs : Array Value} (hlo : lo ≤ base)
    (h0 : w.ownsRow base 30 1 v ls.length us) (h1 : ∀ i (h : i < ls.length), ∃ u, us[i]? = some u ∧ Bys w u ls[i] ∧ (0 < ls[i].length → ∀ g, u.ownBlock = some g → S g ∧ g < lo))
    (hu : Bys w u l) (hun : 0 < l.length → ∀ g, u.ownBlock = some g → S g ∧ g < lo)
    (ho : W.ownsRow base 30 1 v' (ls.length + 1) (us ++ [u])) (hg : (w.alloc (.cells cs t)).grownBy W v.ownBlock) : OwnT S W lo base v' (ls ++ [l]) := by
  have hc : Chg w W (fun k => v.ownBlock = some k) := ((Chg.refl w _).alloc _).trans (Chg.of_grown hg) (fun i _ h => h.symm)
  have keep : ∀ (x : Value) (m : List UInt8), Bys w x m → (0 < m.length → ∀ g, x.ownBlock = some g → S g ∧ g < lo) → Bys W x m := fun x m hx hn =>
    Sho.chgF hx (S := fun g => S g ∧ g < lo) hn hc (fun g hg e => by have := (World.ownsRow.lt h0 g e).1; have := hg.2; omega)
  have hl : us.length = ls.length := by have := h0.1; omega
  refine ⟨us ++ [u], by rw [List.length_append]; exact ho, fun i hi => ?_⟩
  by_cases hi' : i < ls.length
  · obtain ⟨x, e, hx, hn⟩ := h1 i hi'
    refine ⟨x, by rw [List.getElem?_append_left (by omega)]; exact e, ?_, ?_⟩
    · rw [List.getElem_append_left hi']; exact keep x _ hx hn
    · rw [List.getElem_append_left hi']; exact hn
  · have : i = ls.length := by simp at hi; omega
    subst this
    refine ⟨u, by rw [List.getElem?_append_right (by omega), hl]; simp, ?_, ?_⟩
    · rw [List.getElem_append_right (Nat.le_refl _)]; simpa using keep u l hu hun
    · intro h0
      exact hun (by rw [List.getElem_append_right (Nat.le_refl _)] at h0; simpa using h0)

theorem OwnT.foot {S : Nat → Prop} {w : World} {lo base : Nat} {v : Value} {ls : List (List UInt8)} (h : OwnT S w lo base v ls) : RwsF (fun g => S g ∨ (base ≤ g ∧ g < w.heap.size)) w v ls := by
  obtain ⟨us, h1, h2⟩ := h
  exact ⟨us, Sho.own h1, fun _ g hg => .inr (World.ownsRow.lt h1 g hg), fun i hi => by obtain ⟨u, e, hu, hn⟩ := h2 i hi; exact ⟨u, e, hu, fun h0 g hg => .inl (hn h0 g hg).1⟩⟩
theorem RwsF.at' {S : Nat → Prop} {w : World} {A : Option Addr} {n c : Nat} {ls : List (List UInt8)} (h : RwsF S w (.slice A n c) ls) (i : Nat) (hi : i < ls.length) : ∃ g o u, A = some ⟨g, o, none⟩ ∧ g < w.heap.size ∧ n = ls.length ∧ ls.length ≤ c ∧ w.cell? ⟨g, o + i, none⟩ = some u ∧ Bys w u ls[i] ∧ (0 < ls[i].length → ∀ g, u.ownBlock = some g → S g) := by
  obtain ⟨us, h1, -, h2⟩ := h
  obtain ⟨u, e, hu, hn⟩ := h2 i hi
  obtain ⟨g, o, e1, e2, h3, h4, _, h5⟩ := h1.place (by omega)
  exact ⟨g, o, u, e1, h3, e2, h4, h5 i u e, hu, hn⟩
set_option maxRecDepth 100000 in
set_option maxHeartbeats 4000000 in
theorem rosign_s (S : Nat → Prop) (b : Nat) (vm : Value) (seed msg : List UInt8) (ix : Int) (h0 : 0 ≤ ix) (h1 : ix < 16) (hsm : seed.length ≤ 1000000000) (hsm2 : msg.length ≤ 1000000000) (w : World) (ho : OwnerS S w b seed) (hm : Bys w vm msg) :
    Calls Try.prog 28 #[.pointer (some ⟨b, 0, none⟩), .int .i64 ix, vm] w fun e w' => ∃ v, e = .returned v ∧ SigF (fun g => S g ∨ (w.heap.size ≤ g ∧ g < w'.heap.size)) w' v (signS seed ix msg) ∧ Below w.heap.size w w' := by
  obtain ⟨i0, hi0, hz0, hz1, hz2⟩ := info_parts info_bytes
  obtain ⟨vs, vl, us, k1, -, k2, -, k3, -, k4⟩ := ho
  obtain ⟨As, cs, rfl⟩ := k2.form
  obtain ⟨Am, cm, rfl⟩ := hm.form
  obtain ⟨Al, cl, rfl⟩ := k3.form
  obtain ⟨gl, ol, rfl, -, hgl, hcl, -, hcells⟩ := k3.place (by decide)
  have HO := Lib.hid (And.intro k1 (And.intro k2 (And.intro hm (And.intro hcells k4))))
  have hbw := k1.lt
  have q0 := k1.cell 0 _ rfl
  clear k1 k2 k3 k4 hcells hm
  go_enter Try.func28, Try.ntmps28
  go_wp2_with fail
  refine calls_at (fun w1 => Below w.heap.size w w1 ∧ Blk w1 w.heap.size 38 [.int .i64 0, .slice none 0 0, .slice none 0 0]) ⟨(Below.refl w.heap.size w).alloc (Nat.le_refl _) _, Blk.new w 38 [.int .i64 0, .slice none 0 0, .slice none 0 0]⟩ ?_
  rintro w1 ⟨hb1, hk1⟩
  refine (rsign_any _ _ seed msg ix (by omega) hsm hsm2 w1 (HO.out.2.1.below hb1) (HO.out.2.2.1.below hb1)).mono ?_
  rintro e w2 ⟨v2, rfl, h2, h3⟩
  have hlt1 := hk1.lt
  have H2 := Lib.hid (And.intro (hb1.trans (h3.mono hb1.size)) (And.intro (hk1.below h3) (h2.foot.mono (fun g hg => (show w.heap.size < g ∧ g < w2.heap.size from ⟨by omega, hg.2⟩)))))
  obtain ⟨A2, c2, rfl⟩ := h2.rws.form
  clear hb1 hk1 h2 h3 q0
  have HPL := Lib.hid (partsS_length seed ix msg)
  have HSG : Hid (signS seed ix msg = ⟨ix, partsS seed ix msg, sigPath seed ix 4⟩) := Lib.hid rfl
  generalize partsS seed ix msg = PS at *
  have hsw := H2.out.2.1.lt
  go_wp2
  refine code_at (fun w3 => Below w.heap.size w w3 ∧ Blk w3 w.heap.size 38 [.int .i64 0, .slice none 0 0, .slice none 0 0] ∧ RwsF (fun g => w.heap.size < g ∧ g < w2.heap.size) w3 (.slice A2 PS.length c2) PS ∧ Blk w3 w2.heap.size 38 [.int .i64 ix, .slice A2 PS.length c2, .slice none 0 0]) ?_ ?_
  · have hal : Below w2.heap.size w2 (w2.alloc (.cells #[.int .i64 ix, .slice A2 PS.length c2, .slice none 0 0] 38)) := (Below.refl _ _).alloc (Nat.le_refl _) _
    exact ⟨H2.out.1.trans (hal.mono H2.out.1.size), H2.out.2.1.below hal, H2.out.2.2.chg (Chg.of_below (S := fun _ => False) hal) (fun g hg h => h), Blk.new w2 38 [.int .i64 ix, .slice A2 PS.length c2, .slice none 0 0]⟩
  intro w3 hw3
  have HW := Lib.hid hw3
  clear hw3 H2
  have HLB7 : Hid (w.heap.size ≤ w2.heap.size) := Lib.hid (by omega)
  generalize w2.heap.size = B7 at *
  go_loopw [8] (fun v8 wr => ∃ h : Nat, v8 = .int .i64 h ∧ h ≤ 4 ∧ Hid (Below w.heap.size w wr ∧ Blk wr w.heap.size 38 [.int .i64 0, .slice none 0 0, .slice none 0 0] ∧ RwsF (fun g => w.heap.size < g ∧ g < B7) wr (.slice A2 PS.length c2) PS ∧ ∃ pv, Blk wr B7 38 [.int .i64 ix, .slice A2 PS.length c2, pv] ∧ OwnT S wr w.heap.size (B7 + 1) pv (sigPath seed ix h))) (fun v _ => 4 - (intOf v).toNat)
  case atStart => exact ⟨0, rfl, by decide, Lib.hid ⟨HW.out.1, HW.out.2.1, HW.out.2.2.1, _, HW.out.2.2.2, OwnT.nil _ _ _ _⟩⟩
  case round =>
    clear HW
    obtain ⟨h, rfl, hh, HI⟩ := hrel
    by_cases hlt : h < 4
    · obtain ⟨pv, kb7, kpu⟩ := HI.out.2.2.2
      obtain ⟨ul, eul, hul⟩ := HO.out.2.2.2.2 h (by omega)
      obtain ⟨Ah, ch, rfl⟩ := hul.rws.form
      have hsib := sib_lt seed ix h0 h1 h hlt
      have hsib0 := (sib_at ix h0 h1 h hlt).1
      obtain ⟨gh, oh, un, rfl, hgh, -, -, hcu, hbu, hbn⟩ := hul.at' (sibS ix h).toNat hsib
      have HACC : Hid (sigPath seed ix (h + 1) = sigPath seed ix h ++ [(levelS seed h)[(sibS ix h).toNat]]) := Lib.hid (by
        show sigPath seed ix h ++ [(levelS seed h).getD (sibS ix h).toNat []] = _
        rw [List.getD_eq_getElem?_getD, List.getElem?_eq_getElem hsib]; rfl)
      have esib : bits BinOp.xor .i64 (ix / 2 ^ h) 1 = ((sibS ix h).toNat : Int) := by rw [Int.toNat_of_nonneg hsib0]; rfl
      have hpl : (sigPath seed ix h).length ≤ 10 := by rw [sigPath_length]; omega
      have hslen : (((sibS ix h).toNat : Nat) : Int) < (((levelS seed h).length : Nat) : Int) := by omega
      obtain ⟨An, cn, rfl⟩ := hbu.form
      have HUN : Hid (0 < ((levelS seed h)[(sibS ix h).toNat]).length → ∀ g, (Value.slice An ((levelS seed h)[(sibS ix h).toNat]).length cn).ownBlock = some g → S g ∧ g < w.heap.size) := Lib.hid (fun hp g hg => ⟨hbn hp g hg, Sho.lt hbu hp g hg⟩)
      have HBU := Lib.hid (hbu.below HI.out.1)
      have r0 := (HI.out.1.cell (p := ⟨b, 1, none⟩) hbw).trans (HO.out.1.cell 1 _ rfl)
      have r1 := (HI.out.1.cell (p := ⟨gl, ol + h, none⟩) hgl).trans (HO.out.2.2.2.1 h _ eul)
      have r2 := (HI.out.1.cell (p := ⟨gh, oh + (sibS ix h).toNat, none⟩) hgh).trans hcu
      obtain ⟨us3, ku1, ku2⟩ := kpu
      obtain ⟨A3, c3, rfl⟩ := (Sho.own ku1).form
      have r3 := kb7.cell 2 _ rfl
      have HK := Lib.hid (And.intro kb7 (And.intro ku1 ku2))
      have hsz := HI.out.1.size
      have h7 := kb7.lt
      have hh5 : (h : Int) < 5 := by omega
      have hh0 : (0 : Int) ≤ (h : Int) := by omega
      have ehc : IntKind.u64.wrap (h : Int) = (h : Int) := by rw [show IntKind.u64.wrap (h : Int) = (h : Int) % 18446744073709551616 by simp [IntKind.wrap, IntKind.bits, IntKind.signed]]; omega
      clear hcu hbu hbn kb7 ku1 ku2 hul eul hsib0
      generalize (levelS seed h)[(sibS ix h).toNat] = X at *
      generalize (sibS ix h).toNat = sb at *
      generalize levelS seed h = L at *
      generalize sigPath seed ix h = SP at *
      go_wp2
      go_region_law (first
        | ((refine step_append_any rfl (.tmp 23) (.tmp 38) 31 rfl (B7 + 1) 30 i0 (.slice none 0 0) 1 24 Try.underlying31 hi0 hz0 hz1 hz2 rfl (by decide) _ SP.length us3 rfl (by first | exact HK.out.2.1 | exact World.ownsRow.alloc HK.out.2.1 _) _ 1 [.slice An X.length cn] rfl (by first | exact news1 _ 30 _ rfl | exact news1_drew _ 30 _ rfl) (by unfold maxLen; omega) (by omega) (by simp; omega) ?_); intro v9 W9 hown9 hgrow9'
           obtain ⟨A9, c9, rfl⟩ := (Sho.own hown9).form
           have hgrow9 : (wr.alloc (.cells #[.slice An X.length cn] 30)).grownBy W9 (Value.slice A3 SP.length c3).ownBlock := ⟨hgrow9'.os, hgrow9'.tape, hgrow9'.output, hgrow9'.size, hgrow9'.block⟩
           have HC9 : Hid (OwnT S W9 w.heap.size (B7 + 1) (.slice A9 (SP.length + 1) c9) (SP ++ [X]) ∧ Chg wr W9 (fun k => (Value.slice A3 SP.length c3).ownBlock = some k)) := Lib.hid ⟨OwnT.push (w := wr) (by omega) HK.out.2.1 HK.out.2.2 HBU.out HUN.out hown9 hgrow9, ((Chg.refl wr _).alloc _).trans (Chg.of_grown hgrow9) (fun i _ h => h.symm)⟩
           have HK9 : Hid (Blk W9 B7 38 [.int .i64 ix, .slice A2 PS.length c2, .slice A3 SP.length c3]) := Lib.hid (HK.out.1.chg HC9.out.2 (fun e => by have := (World.ownsRow.lt HK.out.2.1 B7 e).1; omega))
           have s3 := HK9.out.cell 2 _ rfl
           have f3 := HK9.out.free 2
           clear hown9 hgrow9 hgrow9'))
      all_goals
        have hset : Chg W9 (W9.setCell ⟨B7, 2, none⟩ (.slice A9 (SP.length + 1) c9)) (fun k => k = B7) := (Chg.refl W9 _).setCell _ _ (fun _ => rfl)
        have hC9 : Chg wr W9 (fun k => B7 + 1 ≤ k) := HC9.out.2.mono (fun k _ e => (World.ownsRow.lt HK.out.2.1 k e).1)
        have HALL := Lib.hid (show Below w.heap.size w (W9.setCell ⟨B7, 2, none⟩ (.slice A9 (SP.length + 1) c9)) ∧ Blk (W9.setCell ⟨B7, 2, none⟩ (.slice A9 (SP.length + 1) c9)) w.heap.size 38 [.int .i64 0, .slice none 0 0, .slice none 0 0] ∧ RwsF (fun g => w.heap.size < g ∧ g < B7) (W9.setCell ⟨B7, 2, none⟩ (.slice A9 (SP.length + 1) c9)) (.slice A2 PS.length c2) PS ∧ ∃ pv, Blk (W9.setCell ⟨B7, 2, none⟩ (.slice A9 (SP.length + 1) c9)) B7 38 [.int .i64 ix, .slice A2 PS.length c2, pv] ∧ OwnT S (W9.setCell ⟨B7, 2, none⟩ (.slice A9 (SP.length + 1) c9)) w.heap.size (B7 + 1) pv (sigPath seed ix (h + 1)) from
          ⟨(HI.out.1.trans (hC9.below hsz (fun k hk => by omega))).trans (hset.below (by have := hC9.size; omega) (fun k hk => by omega)), (HI.out.2.1.chg hC9 (by omega)).setOther _ _ (fun e => by have e' : w.heap.size = B7 := e; omega), (HI.out.2.2.1.chg hC9 (fun g hg e => by omega)).chg hset (fun g hg e => by omega), _, HK9.out.set 2 _ (by simp), by rw [HACC.out]; exact HC9.out.1.chg hset (fun g hg => by omega)⟩)
        clear hset hC9 s3 f3
        go_wp2
        go_roundw
        case rel => exact ⟨h + 1, by go_num, by omega, HALL⟩
        case measure => simp [intOf]; omega
    · obtain rfl : h = 4 := by omega
      obtain ⟨pv, kb7, kpu⟩ := HI.out.2.2.2
      obtain ⟨A3, c3, rfl⟩ := kpu.rws.form
      have HK := Lib.hid (And.intro kb7 (And.intro HI.out.2.1 (And.intro HI.out.2.2.1 kpu)))
      have HBel := Lib.hid HI.out.1
      clear kb7 kpu HI
      have q0 := HK.out.1.cell 0 _ rfl
      have q1 := HK.out.1.cell 1 _ rfl
      have q2 := HK.out.1.cell 2 _ rfl
      have z0 := HK.out.2.1.cell 0 _ rfl
      have z1 := HK.out.2.1.cell 1 _ rfl
      have z2 := HK.out.2.1.cell 2 _ rfl
      have ff : ∀ k, wr.frozen? ⟨w.heap.size, k, none⟩ = false := fun k => HK.out.2.1.free k
      go_wp2
      have hch : Chg wr (((wr.setCell ⟨w.heap.size, 0, none⟩ (.int .i64 ix)).setCell ⟨w.heap.size, 1, none⟩ (.slice A2 PS.length c2)).setCell ⟨w.heap.size, 2, none⟩ (.slice A3 (sigPath seed ix 4).length c3)) (fun k => k = w.heap.size) := chg_cell (chg_cell (chg_cell (Chg.refl wr _) 0 _) 1 _) 2 _
      have hfin : Blk (((wr.setCell ⟨w.heap.size, 0, none⟩ (.int .i64 ix)).setCell ⟨w.heap.size, 1, none⟩ (.slice A2 PS.length c2)).setCell ⟨w.heap.size, 2, none⟩ (.slice A3 (sigPath seed ix 4).length c3)) w.heap.size 38 [.int .i64 ix, .slice A2 PS.length c2, .slice A3 (sigPath seed ix 4).length c3] := ((HK.out.2.1.set 0 _ (by simp)).set 1 _ (by simp)).set 2 _ (by simp)
      refine bodyPost_ret (v := .agg [.int .i64 ix, .slice A2 PS.length c2, .slice A3 (sigPath seed ix 4).length c3].toArray) ?_ ?_ ⟨_, rfl, ?_, ?_⟩
      · exact results_cell_row Try.results28 _ _ w.heap.size 38 _ (0, 0) _ rfl hfin under_sig rfl size_sig
      · rfl
      · rw [HSG.out]
        exact ⟨_, _, rfl, (HK.out.2.2.1.chg hch (fun g hg e => by omega)).mono (fun g hg => .inr ⟨by have h1 : w.heap.size < g := hg.1; omega, by have h1 : g < B7 := hg.2; have := HK.out.1.lt; have := hch.size; omega⟩), (HK.out.2.2.2.chg2 hch (by omega)).foot.mono (fun g hg => by
          rcases hg with h | h
          · exact .inl h
          · exact .inr ⟨by have := HK.out.2.1.lt; have := HLB7.out; omega, h.2⟩)⟩
      · exact HBel.out.trans (hch.below HBel.out.size (fun k hk => by omega))
set_option maxRecDepth 100000 in
set_option maxHeartbeats 1000000 in
theorem rpub_s (S : Nat → Prop) (b : Nat) (seed : List UInt8) (w : World) (ho : OwnerS S w b seed) :
    Calls Try.prog 13 #[.pointer (some ⟨b, 0, none⟩)] w fun e w' => ∃ v, e = .returned v ∧ BysF S w v (ownerS seed) ∧ w = w' := by
  obtain ⟨v, vl, us, k1, -, k2, -, k3, -, k4⟩ := ho
  obtain ⟨u, e4, hu⟩ := k4 4 (Nat.le_refl _)
  obtain ⟨Al, cl, rfl⟩ := k3.form
  obtain ⟨gl, ol, rfl, -, hgl, hcl, -, hcells⟩ := k3.place (by decide)
  have p4 := hcells 4 u e4
  have hl1 := (levelS_length seed).2.2.2.2
  obtain ⟨A4, c4, rfl⟩ := hu.rws.form
  obtain ⟨g0, o0, u0, rfl, hg0, -, -, hcu, hbu, hbn⟩ := hu.at' 0 (by omega)
  rw [Nat.add_zero] at hcu
  have q1 := k1.cell 1 _ rfl
  have hl0 : (0 : Int) < ((levelS seed 4).length : Int) := by omega
  have HB : Hid (BysF S w u0 (ownerS seed)) := Lib.hid (by
    unfold ownerS
    rw [List.getD_eq_getElem?_getD, List.getElem?_eq_getElem (show 0 < (levelS seed 4).length by omega)]
    exact ⟨hbu, hbn⟩)
  clear hbu hbn
  obtain ⟨A0, c0, rfl⟩ := HB.out.1.form
  clear hcells hl1 k4 hu k1 k2 k3 e4
  go_enter Try.func13, Try.ntmps13
  go_wp2
  go_ret
  exact ⟨_, rfl, HB.out, rfl⟩
end Go.Proofs.Ytlkgeifmppadmaa
