/- The feeder keeps a cosignature: how its blocks stand behind it. No walk. The feeder's Done. The reference's Count of cosignatures. A region that draws its order, whose last operations write what its first ones read: a condition that holds till then. No program in sight. The law's model of a feeder: in memory, and its plans as lists. No walk. Conditions: as each theorem states them. -/
import Derived.Test.YtlkgeifmppadmaaGreatKg
import Derived.Test.YtlkgeifmppadmaaGreatKe
import Derived.Laws.MakeOwn
import Derived.Test.YtlkgeifmppadmaaGreatKd
namespace Go.Proofs.YtlkgeifmppadmaaGreat
open Go.RowKit
set_option linter.unusedVariables false
set_option linter.unusedSimpArgs false

theorem CgRow.snoc {D : Nat → Prop} {w : World} {us new : List Value} {ls : List CgD} {g : CgD} (h : CgRow D w us ls) (hn : CgRow D w new [g]) : CgRow D w (us ++ new) (ls ++ [g]) := by
 refine ⟨by rw [List.length_append, List.length_append, h.1, hn.1]; simp; omega, fun i hi => ?_⟩
 have hl := h.1
 by_cases hlt : i < ls.length
 ·obtain ⟨p, q, h1, h2, h3, h4, h5, h6⟩ := h.2 i hlt
  rw [List.getElem_append_left hlt]
  refine ⟨p, q, ?_, ?_, ?_, ?_, h5, h6⟩
  ·rw [List.getElem?_append_left (by omega)]; exact h1
  ·rw [List.getElem?_append_left (by omega)]; exact h2
  ·rw [List.getElem?_append_left (by omega)]; exact h3
  ·rw [List.getElem?_append_left (by omega)]; exact h4
 ·have e : i = ls.length := by simp at hi; omega
  subst e
  obtain ⟨p, q, h1, h2, h3, h4, h5, h6⟩ := hn.2 0 (by simp)
  rw [List.getElem_append_right (Nat.le_refl _)]
  simp only [Nat.sub_self]
  have e2 : ∀ j, (us ++ new)[ls.length * 4 + j]? = new[0 * 4 + j]? := fun j => by
   rw [List.getElem?_append_right (by omega)]
   congr 1
   omega
  exact ⟨p, q, (e2 0).trans h1, (e2 1).trans h2, (e2 2).trans h3, (e2 3).trans h4, h5, h6⟩
theorem CgRow.one {D : Nat → Prop} {w : World} {us : List Value} {ls : List CgD} (h : CgRow D w us ls) : ∀ u ∈ us, u.oneCell' = true := by
 intro u hu
 obtain ⟨j, hj, e⟩ := List.getElem_of_mem hu
 have hl := h.1
 have hd : j / 4 < ls.length := by omega
 obtain ⟨p, q, h1, h2, h3, h4, h5, h6⟩ := h.2 (j / 4) hd
 have hu' : us[j]? = some u := by rw [List.getElem?_eq_getElem hj, e]
 obtain ⟨P, c1, rfl⟩ := h5.rws.form
 obtain ⟨Q, c2, rfl⟩ := h6.rws.form
 have hm : j = j / 4 * 4 ∨ j = j / 4 * 4 + 1 ∨ j = j / 4 * 4 + 2 ∨ j = j / 4 * 4 + 3 := by omega
 rcases hm with hm | hm | hm | hm
 ·rw [hm, h1] at hu'; injection hu' with hu'; subst hu'; rfl
 ·rw [hm, h2] at hu'; injection hu' with hu'; subst hu'; rfl
 ·rw [hm, h3] at hu'; injection hu' with hu'; subst hu'; rfl
 ·rw [hm, h4] at hu'; injection hu' with hu'; subst hu'; rfl
theorem FdOk.kept {Z : Nat → Prop} {w W W2 : World} {f : Nat} {d : FdD} {r : FdR} {us es new : List Value} (h : FdOk Z w f d r us es) {v' : Value} {g : CgD}
  (hrow : W.ownsRow r.kb 47 4 v' (d.kept.length + 1) (us ++ new)) (hlie : v'.ownBlock = r.kv.ownBlock ∨ ∃ k, v'.ownBlock = some k ∧ w.heap.size ≤ k) (hc : Chg w W (fun k => r.kv.ownBlock = some k))
  (hg : CgRow (fun k => Fresh w W k ∧ v'.ownBlock ≠ some k) W new [g]) (hc2 : Chg W W2 (fun k => k = f)) (hb : Blk W2 f 68 (fdCells { d with kept := d.kept ++ [g] } { r with kv := v' })) :
  FdOk (Wide Z w W2) W2 f { d with kept := d.kept ++ [g] } { r with kv := v' } (us ++ new) es := by
 have hfw : f < w.heap.size := h.blk.lt
 have hlw : r.lb < w.heap.size := h.wt.lt
 have hs1 := hc.size
 have hs2 := hc2.size
 have hM : ∀ k, FdM f { r with kv := v' } k → FdM f r k ∨ w.heap.size ≤ k := by
  intro k hk
  rcases hk with hk | hk | hk | hk
  ·exact .inl (.inl hk)
  ·exact .inl (.inr (.inl hk))
  ·have hk' : v'.ownBlock = some k := hk
   rcases hlie with e | ⟨q, e, hq⟩
   ·exact .inl (.inr (.inr (.inl (by rw [← e]; exact hk'))))
   ·rw [e] at hk'; injection hk' with hk'; exact .inr (by omega)
  ·exact .inl (.inr (.inr (.inr hk)))
 have hD : ∀ k, (FdDat Z f r k ∧ k < w.heap.size) → FdDat (Wide Z w W2) f { r with kv := v' } k := fun k hk => ⟨.inl hk.1.1, fun e => by
  rcases hM k e with e | e
  ·exact hk.1.2 e
  ·have := hk.2; omega⟩
 have hN : ∀ k, (Fresh w W k ∧ v'.ownBlock ≠ some k) → FdDat (Wide Z w W2) f { r with kv := v' } k := fun k hk => ⟨.inr ⟨hk.1.1, Nat.lt_of_lt_of_le hk.1.2 hs2⟩, fun e => by
  have h9 : w.heap.size ≤ k := hk.1.1
  rcases e with e | e | e | e
  ·have h8 : k = f := e; omega
  ·have h8 : k = r.lb := e; omega
  ·exact hk.2 e
  ·have := h.ag.foot_lt k e; omega⟩
 have t1 := ((h.tx.cut).chg hc (fun k hk e => hk.1.2 (.inr (.inr (.inl e))))).chg hc2 (fun k hk e => hk.1.2 (.inl e))
 have t2 := hg.chg hc2 (fun k hk e => by have h9 : w.heap.size ≤ k := hk.1.1; have h8 : k = f := e; omega)
 have own : ∀ k, k < w.heap.size → r.kv.ownBlock ≠ some k → v'.ownBlock ≠ some k := fun k hk hn e => by
  rcases hlie with e1 | ⟨q, e1, hq⟩
  ·exact hn (by rw [← e1]; exact e)
  ·rw [e1] at e; injection e with e; omega
 refine ⟨hb, (h.wt.chg hc h.n3).chg hc2 (fun e => h.n1 e.symm), (h.ag.chg hc (fun k hk e => h.n6 k e hk)).chg hc2 (fun k hk e => h.n4 (by rw [← show k = f from e]; exact hk)), ?_, Nat.le_trans h.kbl (Nat.le_trans hs1 hs2), Nat.le_trans h.bal (Nat.le_trans hs1 hs2), ?_, h.n1, own f hfw h.n2, own r.lb hlw h.n3, h.n4, h.n5, ?_, ?_⟩
 ·rw [show ({ d with kept := d.kept ++ [g] } : FdD).kept.length = d.kept.length + 1 by simp]
  exact ownsRow_chg hrow hc2 (fun k hk e => own f hfw h.n2 (by rw [← show k = f from e]; exact hk))
 ·exact ⟨t1.pl.mono hD, t1.pw.mono hD, t1.cr.mono hD, t1.cp.mono hD, t1.cq.mono hD, t1.dr.mono hD, t1.dp.mono hD, t1.dq.mono hD, (t1.kd.mono hD).snoc (t2.mono hN), t1.en, fun h0 k hk => hD k (t1.ef h0 k hk), t1.ed.mono hD⟩
 ·intro k hk hf
  have hk' : v'.ownBlock = some k := hk
  rcases hlie with e | ⟨q, e, hq⟩
  ·exact h.n6 k (by rw [← e]; exact hk') hf
  ·rw [e] at hk'; injection hk' with hk'; have := h.ag.foot_lt k hf; omega
 ·intro k hk
  rcases hM k hk with e | e
  ·exact .inl (h.mz k e)
  ·refine .inr ⟨e, ?_⟩
   rcases hk with hk | hk | hk | hk
   ·have hk' : k = f := hk; omega
   ·have hk' : k = r.lb := hk; omega
   ·have := (World.ownsRow.lt hrow k hk).2; omega
   ·have := h.ag.foot_lt k hk; omega
theorem FdOk.finish {Z : Nat → Prop} {w W2 : World} {f : Nat} {d : FdD} {r : FdR} {us es : List Value} (h : FdOk Z w f d r us es) {ev : Value} (hen : Sho w ev d.kept.length 4 us) (hef : 0 < d.kept.length → ∀ g, ev.ownBlock = some g → FdDat Z f r g)
  (hc2 : Chg w W2 (fun k => k = f)) (hb : Blk W2 f 68 (fdCells { d with done := d.cur, enough := d.kept } { r with ev := ev, dr := r.cr, dp := r.cp, dq := r.cq })) :
  FdOk Z W2 f { d with done := d.cur, enough := d.kept } { r with ev := ev, dr := r.cr, dp := r.cp, dq := r.cq } us us := by
 have hS : ∀ g, FdDat Z f r g → ¬ (g = f) := fun g hg e => hg.2 (.inl e)
 have t := h.tx.chg hc2 hS
 exact ⟨hb, h.wt.chg hc2 (fun e => h.n1 e.symm), h.ag.chg hc2 (fun k hk e => h.n4 (by rw [← show k = f from e]; exact hk)), ownsRow_chg h.kp hc2 (fun k hk e => h.n2 (by rw [← show k = f from e]; exact hk)), Nat.le_trans h.kbl hc2.size, Nat.le_trans h.bal hc2.size,
  ⟨t.pl, t.pw, t.cr, t.cp, t.cq, t.cr, t.cp, t.cq, t.kd, hen.chgF hef hc2 hS, hef, t.kd⟩, h.n1, h.n2, h.n3, h.n4, h.n5, h.n6, h.mz⟩
def OwnC (w : World) (base : Nat) (v : Value) (ls : List CgD) : Prop := ∃ us, w.ownsRow base 47 4 v ls.length us ∧ CgRow (fun g => base ≤ g ∧ g < w.heap.size ∧ v.ownBlock ≠ some g) w us ls
theorem OwnC.nil (w : World) (base : Nat) : OwnC w base (.slice none 0 0) [] := ⟨[], World.ownsRow_nil _ _ _ _, CgRow.nil _ _⟩
theorem OwnC.form {w : World} {base : Nat} {v : Value} {ls : List CgD} (h : OwnC w base v ls) : ∃ A c, v = .slice A ls.length c := by
 obtain ⟨us, h1, _⟩ := h
 exact (Sho.own h1).form
theorem OwnC.below {w w1 : World} {base : Nat} {v : Value} {ls : List CgD} (h : OwnC w base v ls) (hb : Below w.heap.size w w1) : OwnC w1 base v ls := by
 obtain ⟨us, h1, h2⟩ := h
 have hs := hb.size
 exact ⟨us, ownsRow_chg h1 (Chg.of_below (S := fun _ => False) hb) (fun _ _ h => h), (h2.chg (Chg.of_below (S := fun _ => False) hb) (fun _ _ h => h)).mono (fun g hg => ⟨hg.1, by have := hg.2.1; omega, hg.2.2⟩)⟩
theorem OwnC.mono {w : World} {base b' : Nat} {v : Value} {ls : List CgD} (h : OwnC w base v ls) (hb : b' ≤ base) : OwnC w b' v ls := by
 obtain ⟨us, h1, h2⟩ := h
 exact ⟨us, own_mono' h1 hb, h2.mono (fun g hg => ⟨Nat.le_trans hb hg.1, hg.2⟩)⟩
theorem OwnC.push {w w2 W3 : World} {base : Nat} {v v' : Value} {ls : List CgD} {us new : List Value} {g : CgD}
  (hb2 : Below w.heap.size w w2) (hw : base ≤ w.heap.size) (hr : CgRow (fun g => base ≤ g ∧ g < w.heap.size ∧ v.ownBlock ≠ some g) w us ls) (ho : w.ownsRow base 47 4 v ls.length us)
  (hn : CgRow (fun x => w.heap.size ≤ x ∧ x < w2.heap.size) w2 new [g]) (hown : W3.ownsRow base 47 4 v' (ls.length + 1) (us ++ new)) (hc : Chg w2 W3 (fun k => v.ownBlock = some k)) (hlie : v'.ownBlock = v.ownBlock ∨ ∃ q, v'.ownBlock = some q ∧ w2.heap.size ≤ q) :
  OwnC W3 base v' (ls ++ [g]) := by
 have hs2 := hb2.size
 have hs3 := hc.size
 have hlt : ∀ k, v.ownBlock = some k → k < w.heap.size := fun k hk => (World.ownsRow.lt ho k hk).2
 have hne : ∀ k, k < w2.heap.size → v.ownBlock ≠ some k → v'.ownBlock ≠ some k := fun k hk hn e => by
  rcases hlie with e1 | ⟨q, e1, hq⟩
  ·exact hn (by rw [← e1]; exact e)
  ·rw [e1] at e; injection e with e; omega
 refine ⟨us ++ new, by rw [List.length_append]; exact hown, ?_⟩
 have a := ((hr.chg (Chg.of_below (S := fun _ => False) hb2) (fun _ _ h => h)).chg hc (fun k hk e => hk.2.2 e)).mono (T := fun x => base ≤ x ∧ x < W3.heap.size ∧ v'.ownBlock ≠ some x) (fun x hx => ⟨hx.1, by have := hx.2.1; omega, hne x (by have := hx.2.1; omega) hx.2.2⟩)
 have b := (hn.chg hc (fun k hk e => by have := hlt k e; have := hk.1; omega)).mono (T := fun x => base ≤ x ∧ x < W3.heap.size ∧ v'.ownBlock ≠ some x) (fun x hx => ⟨by have := hx.1; omega, by have := hx.2; omega, hne x hx.2 (fun e => by have := hlt x e; have := hx.1; omega)⟩)
 exact a.snoc b
theorem results_row_tmp2 {P : Program} {fn : Func} {p u t : Tmp} {ty : TypeId} (h : fn.results = #[.cell p ty, .tmp u, .tmp t]) (tmps : Array Value) (w : World) (g : Nat) (te : TypeId) (cs : Array Value) (fr : Nat × Nat) (d : TypeDesc)
  (hp : tmps.getD p undef = .pointer (some ⟨g, 0, none⟩)) (hg : w.heap[g]? = some (.cells cs te fr))
  (hu : P.underlying ty = some d) (hd : (match d with | .struct _ | .array _ _ => true | _ => false) = true) (hi : (P.info? ty).map (·.size) = some cs.size) (y z : Value) (hy : tmps.getD u undef = y) (hz : tmps.getD t undef = z) :
  (results fn tmps).run P w = .ok (.tuple #[.agg cs, y, z]) w := by
 have e : (results fn tmps).run P w = ((asAddr (tmps.getD p undef)).run P w).andThen fun a w₁ => ((loadVar ty a).run P w₁).andThen fun v w₂ => .ok (.tuple #[v, tmps.getD u undef, tmps.getD t undef]) w₂ := by
  simp only [results, h]
  simp [Sem.run_bind, Result.andThen]
 rw [e, hp, hy, hz]
 simp [asAddr, run_loadVar_row w g te ty cs fr d hg hu hd hi, Result.andThen]
def DonPost (w : World) (d : FdD) (e : Ending) (w' : World) : Prop :=
 ∃ r p q v, e = .returned (.tuple #[.agg #[.int .i64 (if d.enough.length = 0 then zSg else d.done).ck.num, r, .int .i64 (if d.enough.length = 0 then zSg else d.done).sig.index, p, q], v, .bool (decide (0 < d.enough.length))]) ∧ Bys w' r (if d.enough.length = 0 then zSg else d.done).ck.root ∧ Rws w' p (if d.enough.length = 0 then zSg else d.done).sig.parts ∧ Rws w' q (if d.enough.length = 0 then zSg else d.done).sig.path ∧ OwnC w' w.heap.size v d.enough ∧ Below w.heap.size w w'
set_option maxRecDepth 100000 in
set_option maxHeartbeats 8000000 in
theorem done_any (Z : Nat → Prop) (f : Nat) (d : FdD) (hl : d.enough.length ≤ 1000) (hg : ∀ g ∈ d.enough, SmallSig g.sig) (hr : d.done.ck.root.length ≤ 100000000) (hs : SmallSig d.done.sig) (w : World) (hok : FdAt Z w f d) :
  Calls Tryz.prog 14 #[.pointer (some ⟨f, 0, none⟩)] w (DonPost w d) := by
 obtain ⟨r, us, es, hok⟩ := hok
 obtain ⟨i0, hi0, hz0, hz1, hz2⟩ := info_parts info_cosig
 have HCK := Lib.hid (fun (wz : World) (v : Value) (hz : SgV wz v d.done) => ckcopy_any v d.done hr hs wz hz)
 have HCP := Lib.hid (fun (g : CgD) (hs : SmallSig g.sig) (wz : World) (v : Value) (hz : CgV wz v g) => cgcopy_any v g hs wz hz)
 have HSM := Lib.hid hg
 obtain ⟨R, cr, er⟩ := hok.tx.dr.1.form
 obtain ⟨P, cp, ep⟩ := hok.tx.dp.rws.form
 obtain ⟨Q, cq, eq⟩ := hok.tx.dq.rws.form
 obtain ⟨EA, ec, ee⟩ := hok.tx.en.form
 have HRC := Lib.hid (And.intro er (And.intro ep (And.intro eq ee)))
 have hb0 := (Below.refl w.heap.size w).alloc (Nat.le_refl _) (.cells #[.int .i64 0, .slice none 0 0, .int .i64 0, .slice none 0 0, .slice none 0 0] 40)
 have hk0 := Blk.new w 40 [.int .i64 0, .slice none 0 0, .int .i64 0, .slice none 0 0, .slice none 0 0]
 have hfw := hok.blk.lt
 have HW := Lib.hid (And.intro (hok.below hb0) (And.intro hk0 hb0))
 clear hb0 hk0 hok hr hs hg er ep eq ee
 have g18 : (w.alloc (.cells #[.int .i64 0, .slice none 0 0, .int .i64 0, .slice none 0 0, .slice none 0 0] 40)).cell? ⟨f, 18, none⟩ = some (.slice EA d.enough.length ec) := by rw [← HRC.out.2.2.2]; exact HW.out.1.blk.cell 18 _ rfl
 have hfl := HW.out.1.blk.lt
 by_cases h0 : d.enough.length = 0
 ·have hnil : d.enough = [] := List.length_eq_zero_iff.1 h0
  rw [h0] at g18
  have z0 := HW.out.2.1.cell 0 _ rfl
  have y0 := HW.out.2.1.free 0
  have z1 := HW.out.2.1.cell 1 _ rfl
  have y1 := HW.out.2.1.free 1
  have z2 := HW.out.2.1.cell 2 _ rfl
  have y2 := HW.out.2.1.free 2
  have z3 := HW.out.2.1.cell 3 _ rfl
  have y3 := HW.out.2.1.free 3
  have z4 := HW.out.2.1.cell 4 _ rfl
  have y4 := HW.out.2.1.free 4
  have HH := Lib.hid (And.intro h0 hnil)
  clear h0 hnil
  go_enter Tryz.func14, Tryz.ntmps14
  go_wp2
  refine bodyPost_ret (v := .tuple #[.agg #[.int .i64 0, .slice none 0 0, .int .i64 0, .slice none 0 0, .slice none 0 0], .slice none 0 0, .bool false]) ?_ ?_ ?_
  ·exact results_row_tmp2 Tryz.results14 _ _ w.heap.size 40 _ (0, 0) _ rfl HW.out.2.1 under_signed rfl size_signed _ _ rfl rfl
  ·rfl
  ·unfold DonPost
   rw [if_pos HH.out.1, HH.out.2]
   exact ⟨.slice none 0 0, .slice none 0 0, .slice none 0 0, .slice none 0 0, rfl, Sho.nil _ 1, ⟨[], Sho.nil _ 1, fun i h => absurd h (Nat.not_lt_zero _)⟩, ⟨[], Sho.nil _ 1, fun i h => absurd h (Nat.not_lt_zero _)⟩, OwnC.nil _ _, HW.out.2.2⟩
 ·have hpos : 0 < d.enough.length := by omega
  have hlen0 : (((d.enough.length : Int) == 0) : Bool) = false := by rw [beq_eq_false_iff_ne]; omega
  have HPP := Lib.hid h0
  have hpl := HW.out.1.tx.en
  rw [HRC.out.2.2.2] at hpl
  obtain ⟨eg, eo, rfl, -, hgl, hcl, hcm, hcells⟩ := hpl.place hpos
  have HEC := Lib.hid (And.intro hcells HW.out.1.tx.ed)
  clear h0 hpl hcells
  go_enter Tryz.func14, Tryz.ntmps14
  go_wp2
  clear g18 hfl
  generalize hw1 : w.alloc (.cells #[.int .i64 0, .slice none 0 0, .int .i64 0, .slice none 0 0, .slice none 0 0] 40) = w1 at *
  have hww : w.heap.size < w1.heap.size := HW.out.2.1.lt
  clear hw1
  go_loopw [5, 20] (fun v5 v20 wr => ∃ k : Nat, v20 = .int .i64 k ∧ k ≤ d.enough.length ∧ Hid (Below w1.heap.size w1 wr ∧ OwnC wr w1.heap.size v5 (d.enough.take k))) (fun _ v _ => d.enough.length - (intOf v).toNat)
  case atStart => exact ⟨0, rfl, Nat.zero_le _, Lib.hid ⟨Below.refl _ _, OwnC.nil _ _⟩⟩
  case round =>
   obtain ⟨k, rfl, hk, HJ⟩ := hrel
   by_cases hlt : k < d.enough.length
   ·obtain ⟨pv, qv, a0, a1, a2, a3, a4, a5⟩ := HEC.out.2.2 k hlt
    obtain ⟨P1, cp1, rfl⟩ := a4.rws.form
    obtain ⟨Q1, cq1, rfl⟩ := a5.rws.form
    have p0 := (HJ.out.1.cell (p := ⟨eg, eo + k * 4, none⟩) hgl).trans (HEC.out.1 _ _ a0)
    have p1 := (HJ.out.1.cell (p := ⟨eg, eo + k * 4 + 1, none⟩) hgl).trans (HEC.out.1 _ _ a1)
    have p2 := (HJ.out.1.cell (p := ⟨eg, eo + k * 4 + 2, none⟩) hgl).trans (HEC.out.1 _ _ a2)
    have p3 := (HJ.out.1.cell (p := ⟨eg, eo + k * 4 + 3, none⟩) hgl).trans (HEC.out.1 _ _ a3)
    have HG := Lib.hid (And.intro (HSM.out _ (List.getElem_mem hlt)) (And.intro (a4.rws.below HJ.out.1) (a5.rws.below HJ.out.1)))
    have HT : Hid (d.enough.take (k + 1) = d.enough.take k ++ [d.enough[k]]) := Lib.hid (List.take_succ_eq_append_getElem hlt)
    have HTL : Hid ((d.enough.take k).length = k) := Lib.hid (by rw [List.length_take]; omega)
    have hal : (d.enough.take k).length ≤ 1000 := by rw [HTL.out]; omega
    have hsz := HJ.out.1.size
    have hegl : eg < wr.heap.size := by omega
    clear a0 a1 a2 a3 a4 a5
    obtain ⟨A8, c8, rfl⟩ := HJ.out.2.form
    generalize d.enough[k] = G at *
    generalize d.enough.take k = L at *
    go_wp2_with fail
    refine (HCP.out G HG.out.1 _ _ ⟨_, _, rfl, HG.out.2.1.below ((Below.refl _ _).alloc (Nat.le_refl _) _), HG.out.2.2.below ((Below.refl _ _).alloc (Nat.le_refl _) _)⟩).mono ?_
    rintro e w2 ⟨v2, rfl, ⟨p2', q2', rfl, h2, h3⟩, h4⟩
    obtain ⟨A5, c5, rfl⟩ := h2.rws.form
    obtain ⟨A6, c6, rfl⟩ := h3.rws.form
    have hb2 : Below wr.heap.size wr w2 := ((Below.refl wr.heap.size wr).alloc (Nat.le_refl _) _).trans (h4.mono (by simp))
    have hsz2 := hb2.size
    have hsz4 := h4.size
    obtain ⟨us', hu1, hu2⟩ := HJ.out.2
    have hu3 := ownsRow_chg hu1 (Chg.of_below (S := fun _ => False) hb2) (fun _ _ h => h)
    have H2 := Lib.hid (And.intro (show RwsF (fun x => wr.heap.size ≤ x ∧ x < w2.heap.size) w2 (.slice A5 G.sig.parts.length c5) G.sig.parts from h2.mono (fun x hx => ⟨by have h9 := hx.1; simp at h9; omega, hx.2⟩)) (And.intro (show RwsF (fun x => wr.heap.size ≤ x ∧ x < w2.heap.size) w2 (.slice A6 G.sig.path.length c6) G.sig.path from h3.mono (fun x hx => ⟨by have h9 := hx.1; simp at h9; omega, hx.2⟩)) (And.intro hb2 (And.intro hu1 (And.intro hu2 hu3)))))
    clear h2 h3 h4 hb2 hu1 hu2 hu3 p0 p1 p2 p3
    go_wp2_with (at_builtin; (refine wpList_append_lie rfl (.tmp 24) (.tmp 27) 49 rfl w1.heap.size 47 i0 (.agg #[.int .i64 0, .int .i64 0, .slice none 0 0, .slice none 0 0]) 4 64 Tryz.underlying49 hi0 hz0 hz1 hz2 rfl (by decide) _ L.length us' rfl (World.ownsRow.alloc H2.out.2.2.2.2.2 _) _ 1 [.int .i64 G.wit, .int .i64 G.sig.index, .slice A5 G.sig.parts.length c5, .slice A6 G.sig.path.length c6] rfl ((Sho.new w2 47 [.int .i64 G.wit, .int .i64 G.sig.index, .slice A5 G.sig.parts.length c5, .slice A6 G.sig.path.length c6] 1 4 1 rfl (Nat.le_refl _) (by decide)).news (fun u hu => by simp at hu; rcases hu with rfl | rfl | rfl | rfl <;> rfl)) (by unfold maxLen; omega) (by omega) (by simp; omega) ?_); intro v3 W3 hown3 hgrow3 hlie3)
    have HN : Hid (Below w1.heap.size w1 W3 ∧ OwnC W3 w1.heap.size v3 (L ++ [G])) := Lib.hid (by
     have hcA : Chg w2 W3 (fun x => (Value.slice A8 L.length c8).ownBlock = some x) := ((Chg.refl w2 _).alloc _).trans (Chg.of_grown hgrow3) (fun i _ h => h.symm)
     have hlo : ∀ x, (Value.slice A8 L.length c8).ownBlock = some x → w1.heap.size ≤ x := fun x hx => (World.ownsRow.lt H2.out.2.2.2.1 x hx).1
     refine ⟨(HJ.out.1.trans (H2.out.2.2.1.mono hsz)).trans (hcA.below (by omega) hlo), ?_⟩
     refine OwnC.push H2.out.2.2.1 hsz H2.out.2.2.2.2.1 H2.out.2.2.2.1 (new := [.int .i64 G.wit, .int .i64 G.sig.index, .slice A5 G.sig.parts.length c5, .slice A6 G.sig.path.length c6]) ⟨rfl, fun i hi => ?_⟩ hown3 hcA ?_
     ·obtain rfl : i = 0 := by simpa using hi
      exact ⟨_, _, rfl, rfl, rfl, rfl, H2.out.1, H2.out.2.1⟩
     ·rcases hlie3 with e | ⟨q, e, hq⟩
      ·exact .inl e
      ·exact .inr ⟨q, e, by simp at hq; omega⟩)
    clear hown3 hgrow3 hlie3
    obtain ⟨A3, c3, rfl⟩ := HN.out.2.form
    go_roundw
    case rel => exact ⟨k + 1, by go_num, by omega, by rw [HT.out]; exact HN⟩
    case measure => simp [intOf]; omega
   ·obtain rfl : k = d.enough.length := by omega
    have HO := HJ.out.2
    rw [List.take_length] at HO
    obtain ⟨A3, c3, rfl⟩ := HO.form
    have hb := HJ.out.1
    have kf := HW.out.1.below hb
    have kz := HW.out.2.1.below hb
    have H5 := Lib.hid (And.intro HO (And.intro hb (And.intro kf kz)))
    have e13 : wr.cell? ⟨f, 13, none⟩ = some (.int .i64 d.done.ck.num) := kf.blk.cell 13 _ rfl
    have e14 : wr.cell? ⟨f, 14, none⟩ = some (.slice R d.done.ck.root.length cr) := by rw [← HRC.out.1]; exact kf.blk.cell 14 _ rfl
    have e15 : wr.cell? ⟨f, 15, none⟩ = some (.int .i64 d.done.sig.index) := kf.blk.cell 15 _ rfl
    have e16 : wr.cell? ⟨f, 16, none⟩ = some (.slice P d.done.sig.parts.length cp) := by rw [← HRC.out.2.1]; exact kf.blk.cell 16 _ rfl
    have e17 : wr.cell? ⟨f, 17, none⟩ = some (.slice Q d.done.sig.path.length cq) := by rw [← HRC.out.2.2.1]; exact kf.blk.cell 17 _ rfl
    have hfl9 := kf.blk.lt
    clear HO hb kf kz HJ
    go_wp2_with fail
    refine (HCK.out _ _ ⟨_, _, _, rfl, by rw [← HRC.out.1]; exact H5.out.2.2.1.tx.dr.1, by rw [← HRC.out.2.1]; exact H5.out.2.2.1.tx.dp.rws, by rw [← HRC.out.2.2.1]; exact H5.out.2.2.1.tx.dq.rws⟩).mono ?_
    rintro e w3 ⟨v3, rfl, ⟨r3, p3, q3, rfl, h3, h4, h5⟩, h6⟩
    obtain ⟨B3, n3, rfl⟩ := h3.1.form
    obtain ⟨B4, n4, rfl⟩ := h4.rws.form
    obtain ⟨B5, n5, rfl⟩ := h5.rws.form
    have kz := H5.out.2.2.2.below h6
    have z0 := kz.cell 0 _ rfl
    have z1 := kz.cell 1 _ rfl
    have z2 := kz.cell 2 _ rfl
    have z3 := kz.cell 3 _ rfl
    have z4 := kz.cell 4 _ rfl
    have y0 := kz.free 0
    have y1 := kz.free 1
    have y2 := kz.free 2
    have y3 := kz.free 3
    have y4 := kz.free 4
    have hzl := kz.lt
    have H6 := Lib.hid (And.intro h3 (And.intro h4 (And.intro h5 (And.intro h6 kz))))
    clear h3 h4 h5 h6 kz
    have hch : Chg w3 (((((w3.setCell ⟨w.heap.size, 0, none⟩ (.int .i64 d.done.ck.num)).setCell ⟨w.heap.size, 1, none⟩ (.slice B3 d.done.ck.root.length n3)).setCell ⟨w.heap.size, 2, none⟩ (.int .i64 d.done.sig.index)).setCell ⟨w.heap.size, 3, none⟩ (.slice B4 d.done.sig.parts.length n4)).setCell ⟨w.heap.size, 4, none⟩ (.slice B5 d.done.sig.path.length n5)) (fun k => k = w.heap.size) := chg_cell (chg_cell (chg_cell (chg_cell (chg_cell (Chg.refl w3 _) 0 _) 1 _) 2 _) 3 _) 4 _
    have hfin : Blk (((((w3.setCell ⟨w.heap.size, 0, none⟩ (.int .i64 d.done.ck.num)).setCell ⟨w.heap.size, 1, none⟩ (.slice B3 d.done.ck.root.length n3)).setCell ⟨w.heap.size, 2, none⟩ (.int .i64 d.done.sig.index)).setCell ⟨w.heap.size, 3, none⟩ (.slice B4 d.done.sig.parts.length n4)).setCell ⟨w.heap.size, 4, none⟩ (.slice B5 d.done.sig.path.length n5)) w.heap.size 40 [.int .i64 d.done.ck.num, .slice B3 d.done.ck.root.length n3, .int .i64 d.done.sig.index, .slice B4 d.done.sig.parts.length n4, .slice B5 d.done.sig.path.length n5] := ((((H6.out.2.2.2.2.set 0 _ (by simp)).set 1 _ (by simp)).set 2 _ (by simp)).set 3 _ (by simp)).set 4 _ (by simp)
    have HF := Lib.hid (And.intro hch hfin)
    clear hch hfin
    go_wp2
    have hs13 := H5.out.2.1.size
    have hs36 := H6.out.2.2.2.1.size
    have hs4 := HF.out.1.size
    refine bodyPost_ret (v := .tuple #[.agg [.int .i64 d.done.ck.num, .slice B3 d.done.ck.root.length n3, .int .i64 d.done.sig.index, .slice B4 d.done.sig.parts.length n4, .slice B5 d.done.sig.path.length n5].toArray, .slice A3 d.enough.length c3, .bool true]) ?_ ?_ ?_
    ·exact results_row_tmp2 Tryz.results14 _ _ w.heap.size 40 _ (0, 0) _ rfl HF.out.2 under_signed rfl size_signed _ _ rfl rfl
    ·rfl
    ·unfold DonPost
     rw [if_neg HPP.out, decide_eq_true hpos]
     refine ⟨_, _, _, _, rfl, ?_, ?_, ?_, ?_, ?_⟩
     ·exact (H6.out.1.chg HF.out.1 (fun g hg e => by have h1 : wr.heap.size ≤ g := hg.1; have h2 : g = w.heap.size := e; omega)).1
     ·exact (H6.out.2.1.chg HF.out.1 (fun g hg e => by have h1 : wr.heap.size ≤ g := hg.1; have h2 : g = w.heap.size := e; omega)).rws
     ·exact (H6.out.2.2.1.chg HF.out.1 (fun g hg e => by have h1 : wr.heap.size ≤ g := hg.1; have h2 : g = w.heap.size := e; omega)).rws
     ·obtain ⟨us9, o1, o2⟩ := (H5.out.1.below H6.out.2.2.2.1).mono (b' := w.heap.size) (by omega)
      obtain ⟨us8, o3, o4⟩ := H5.out.1.below H6.out.2.2.2.1
      have hne : ∀ x, (Value.slice A3 d.enough.length c3).ownBlock = some x → ¬ (x = w.heap.size) := fun x hx e => by have := (World.ownsRow.lt o3 x hx).1; omega
      exact ⟨us8, own_mono' (ownsRow_chg o3 HF.out.1 hne) (by omega), (o4.chg HF.out.1 (fun x hx e => by have := hx.1; omega)).mono (fun x hx => ⟨by have := hx.1; omega, by have := hx.2.1; omega, hx.2.2⟩)⟩
     ·exact ((HW.out.2.2.trans (H5.out.2.1.mono (by omega))).trans (H6.out.2.2.2.1.mono (by omega))).trans (HF.out.1.below (by omega) (fun k hk => by omega))
def CgsV (w : World) (v : Value) (gs : List CgD) : Prop := ∃ us, Sho w v gs.length 4 us ∧ CgRow (fun _ => True) w us gs
theorem CgsV.below {w w1 : World} {v : Value} {gs : List CgD} (h : CgsV w v gs) (hb : Below w.heap.size w w1) : CgsV w1 v gs := by
 obtain ⟨us, h1, h2⟩ := h
 exact ⟨us, h1.below hb, ⟨h2.1, fun i hi => by obtain ⟨p, q, a0, a1, a2, a3, a4, a5⟩ := h2.2 i hi; exact ⟨p, q, a0, a1, a2, a3, a4.below hb, a5.below hb⟩⟩⟩
theorem OwnC.cgsv {w : World} {base : Nat} {v : Value} {ls : List CgD} (h : OwnC w base v ls) : CgsV w v ls := by
 obtain ⟨us, h1, h2⟩ := h
 exact ⟨us, Sho.own h1, h2.mono (fun _ _ => True.intro)⟩
theorem CgsV.form {w : World} {v : Value} {gs : List CgD} (h : CgsV w v gs) : ∃ A c, v = .slice A gs.length c := by
 obtain ⟨us, h1, _⟩ := h
 exact h1.form
theorem CgsV.get {w : World} {A : Option Addr} {n c : Nat} {gs : List CgD} (h : CgsV w (.slice A n c) gs) (h0 : 0 < gs.length) : ∃ g o, A = some ⟨g, o, none⟩ ∧ g < w.heap.size ∧ n = gs.length ∧ gs.length ≤ c ∧ c ≤ maxLen ∧ ∀ i, i < gs.length → ∃ P cp Q cq, w.cell? ⟨g, o + i * 4, none⟩ = some (.int .i64 (gs.getD i ⟨0, ⟨0, [], []⟩⟩).wit) ∧ w.cell? ⟨g, o + i * 4 + 1, none⟩ = some (.int .i64 (gs.getD i ⟨0, ⟨0, [], []⟩⟩).sig.index) ∧ w.cell? ⟨g, o + i * 4 + 2, none⟩ = some (.slice P (gs.getD i ⟨0, ⟨0, [], []⟩⟩).sig.parts.length cp) ∧ w.cell? ⟨g, o + i * 4 + 3, none⟩ = some (.slice Q (gs.getD i ⟨0, ⟨0, [], []⟩⟩).sig.path.length cq) ∧ Rws w (.slice P (gs.getD i ⟨0, ⟨0, [], []⟩⟩).sig.parts.length cp) (gs.getD i ⟨0, ⟨0, [], []⟩⟩).sig.parts ∧ Rws w (.slice Q (gs.getD i ⟨0, ⟨0, [], []⟩⟩).sig.path.length cq) (gs.getD i ⟨0, ⟨0, [], []⟩⟩).sig.path := by
 obtain ⟨us, h1, h2⟩ := h
 obtain ⟨g, o, rfl, e1, hg, hc, hm, hcell⟩ := h1.place h0
 refine ⟨g, o, rfl, hg, e1, hc, hm, fun i hi => ?_⟩
 obtain ⟨p, q, a0, a1, a2, a3, a4, a5⟩ := h2.2 i hi
 have e : gs.getD i ⟨0, ⟨0, [], []⟩⟩ = gs[i] := by rw [List.getD_eq_getElem?_getD, List.getElem?_eq_getElem hi]; rfl
 rw [e]
 obtain ⟨P, cp, rfl⟩ := a4.rws.form
 obtain ⟨Q, cq, rfl⟩ := a5.rws.form
 exact ⟨P, cp, Q, cq, hcell _ _ a0, hcell _ _ a1, hcell _ _ a2, hcell _ _ a3, a4.rws, a5.rws⟩
section
variable {P : Program} {ops : Array Oper} {Q : Exit → Act → World → Prop} {md : Region.Mode} {S : World → Prop} {K : Nat}

def wpAnyT (P : Program) (md : Region.Mode) (ops : Array Oper) (Q : Exit → Act → World → Prop) (S : World → Prop) (K : Nat) : Nat → Array Bool → Act → World → Prop
 | 0, listed, a, w => Region.ready md ops listed = [] ∧ Q .normal a w
 | fuel + 1, listed, a, w =>
  (Region.ready md ops listed = [] → Q .normal a w) ∧
  ∀ i ∈ Region.ready md ops listed, wpOp P ops Q i (fun a' w' => (i < K → S w') ∧ wpAnyT P md ops Q S K fuel (listed.setIfInBounds i true) a' w') a w
theorem wpAny_of_T : ∀ (fuel : Nat) (listed : Array Bool) (a : Act) (w : World), wpAnyT P md ops Q S K fuel listed a w → wpAny P md ops Q fuel listed a w
 | 0, _, _, _, h => h
 | fuel + 1, _, _, _, h => ⟨h.1, fun i hi => wpOp_mono (fun a' w' h' => wpAny_of_T fuel _ a' w' h'.2) (h.2 i hi)⟩
def waitsB (md : Region.Mode) (ops : Array Oper) (K i : Nat) : Bool := (List.range ops.size).all (fun j => decide (j < K) || (match ops[j]? with | some o => o.after.any (fun e => Region.binds md e && e.on == i) | none => true))
theorem waits_spec {i : Nat} (h : waitsB md ops K i = true) : ∀ j oj, ops[j]? = some oj → (∀ e ∈ oj.after, Region.binds md e = true → e.on ≠ i) → j < K := by
 intro j oj hj hno
 have hlt : j < ops.size := (Array.getElem?_eq_some_iff.1 hj).1
 unfold waitsB at h
 rw [List.all_eq_true] at h
 have h1 := h j (List.mem_range.2 hlt)
 rw [hj] at h1
 simp only [Bool.or_eq_true, decide_eq_true_eq] at h1
 rcases h1 with h1 | h1
 ·exact h1
 ·obtain ⟨k, hk, hp⟩ := Array.any_eq_true.1 h1
  simp only [Bool.and_eq_true, beq_iff_eq] at hp
  exact absurd hp.2 (hno _ (Array.getElem_mem hk) hp.1)
theorem wpAnyT_first {i : Nat} {oi : Oper} {v : Value} (hi : ops[i]? = some oi) (hsel : ∀ (j : Nat) (o : Oper) cs b, ops[j]? = some o → o.op ≠ .select cs b)
  (hQ : ∀ c a w, Q (.panic c) (a.put oi.dst v) w → Q (.panic c) a w) (hwt : ∀ j oj, ops[j]? = some oj → (∀ e ∈ oj.after, Region.binds md e = true → e.on ≠ i) → j ≠ i → j < K) :
  ∀ (fuel : Nat) (listed : Array Bool) (a : Act) (w : World),
   (∀ j oj, ops[j]? = some oj → j ≠ i → listed.getD j true = false → (∀ e ∈ oj.after, Region.binds md e = true → e.on ≠ i) → oi.apart ops oj = true) →
   i ∈ Region.ready md ops listed → YieldsIf P ops S oi v a → S w →
   wpAnyT P md ops Q S K fuel (listed.setIfInBounds i true) (a.put oi.dst v) w → wpAnyT P md ops Q S K (fuel + 1) listed a w := by
 intro fuel
 induction fuel with
 | zero =>
  intro listed a w _ hr hy hS H
  refine ⟨fun h => (by rw [h] at hr; cases hr), fun j hj => ?_⟩
  by_cases hji : j = i
  ·subst hji; exact hy.wpOp hi hS ⟨fun _ => hS, H⟩
  ·have := ready_mono hj hji
   rw [H.1] at this
   cases this
 | succ fuel ih =>
  intro listed a w hfree hr hy hS H
  refine ⟨fun h => (by rw [h] at hr; cases hr), fun j hj => ?_⟩
  by_cases hji : j = i
  ·subst hji; exact hy.wpOp hi hS ⟨fun _ => hS, H⟩
  ·have h1 := H.2 j (ready_mono hj hji)
   obtain ⟨hjun, oj, hoj, hall⟩ := mem_ready.1 hj
   have hnot : ∀ e ∈ oj.after, Region.binds md e = true → e.on ≠ i := fun e he hb heq => by
    have h1 := hall e he hb
    have h0 := (mem_ready.1 hr).1
    rw [heq] at h1
    rcases Nat.lt_or_ge i listed.size with h' | h'
    ·simp [h'] at h0 h1; rw [h0] at h1; cases h1
    ·simp [Array.getElem?_eq_none h'] at h1
   have hjK : j < K := hwt j oj hoj hnot hji
   have h2 := wpOp_putIf hoj (hfree j oj hoj hji hjun hnot) (fun cs b => hsel i oi cs b hi) (fun cs b => hsel j oj cs b hoj) hQ hy h1
   have hfree' : ∀ k ok, ops[k]? = some ok → k ≠ i → (listed.setIfInBounds j true).getD k true = false →
     (∀ e ∈ ok.after, Region.binds md e = true → e.on ≠ i) → oi.apart ops ok = true := fun k ok hk hki hun hno => by
    refine hfree k ok hk hki ?_ hno
    by_cases hjk : j = k
    ·subst hjk; exact hjun
    ·rw [getD_set_ne true hjk] at hun; exact hun
   refine wpOp_mono (fun a' w' h3 => ⟨fun _ => h3.2.1 hjK, ih (listed.setIfInBounds j true) a' w' hfree' (ready_mono hr (Ne.symm hji)) h3.1 (h3.2.1 hjK) ?_⟩) h2
   rw [Array.setIfInBounds_comm _ _ hji]
   exact h3.2.2
theorem wpAnyT_take {i : Nat} {oi : Oper} {v : Value} {fuel : Nat} {listed : Array Bool} {a : Act} {w : World} (hi : ops[i]? = some oi)
  (hs : Region.noSelect ops = true) (hf : Region.free md ops listed i = true) (hr : (Region.ready md ops listed).contains i = true) (hw : waitsB md ops K i = true)
  (hQ : ∀ c a w, Q (.panic c) (a.put oi.dst v) w → Q (.panic c) a w) (hy : YieldsIf P ops S oi v a) (hS : S w)
  (h : wpAnyT P md ops Q S K fuel (listed.setIfInBounds i true) (a.put oi.dst v) w) : wpAnyT P md ops Q S K (fuel + 1) listed a w :=
 wpAnyT_first hi (Region.noSelect_spec hs) hQ (fun j oj hj hn _ => waits_spec hw j oj hj hn) fuel listed a w (Region.free_spec hi hf) (by simpa using hr) hy hS h
theorem takeT_yes (i d : Nat) {oi : Oper} {v : Value} {fuel : Nat} {listed : Array Bool} {a : Act} {w : World} (hi : ops[i]? = some oi) (hd : oi.dst = some d)
  (hs : Region.noSelect ops = true) (hf : Region.free md ops listed i = true) (hr : (Region.ready md ops listed).contains i = true) (hwt : waitsB md ops K i = true)
  (hQ : ∀ c a w, Q (.panic c) (a.put oi.dst v) w → Q (.panic c) a w) (hS : S w) (hw : Region.wanted oi (yielded ops a.tmps) = true) (hy : ∀ w, S w → (execOp a.eval oi).run P w = .ok (.value v) w)
  (h : wpAnyT P md ops Q S K fuel (listed.setIfInBounds i true) ⟨a.tmps.setIfInBounds d v, a.defers⟩ w) : wpAnyT P md ops Q S K (fuel + 1) listed a w :=
 wpAnyT_take hi hs hf hr hwt hQ (.inl ⟨hw, hy⟩) hS (by rw [put_some a oi d v hd]; exact h)
theorem wpAnyT_pure {i : Nat} {oi : Oper} {v : Value} (hi : ops[i]? = some oi) (hsel : ∀ (j : Nat) (o : Oper) cs b, ops[j]? = some o → o.op ≠ .select cs b)
  (hQ : ∀ c a w, Q (.panic c) (a.put oi.dst v) w → Q (.panic c) a w) (hK : K ≤ i) :
  ∀ (fuel : Nat) (listed : Array Bool) (a : Act) (w : World),
   (∀ j oj, ops[j]? = some oj → j ≠ i → listed.getD j true = false → (∀ e ∈ oj.after, Region.binds md e = true → e.on ≠ i) → oi.apart ops oj = true) →
   i ∈ Region.ready md ops listed → YieldsIf P ops (fun _ => True) oi v a →
   wpAnyT P md ops Q S K fuel (listed.setIfInBounds i true) (a.put oi.dst v) w → wpAnyT P md ops Q S K (fuel + 1) listed a w := by
 intro fuel
 induction fuel with
 | zero =>
  intro listed a w _ hr hy H
  refine ⟨fun h => (by rw [h] at hr; cases hr), fun j hj => ?_⟩
  by_cases hji : j = i
  ·subst hji; exact hy.wpOp hi True.intro ⟨fun h => absurd h (by omega), H⟩
  ·have := ready_mono hj hji
   rw [H.1] at this
   cases this
 | succ fuel ih =>
  intro listed a w hfree hr hy H
  refine ⟨fun h => (by rw [h] at hr; cases hr), fun j hj => ?_⟩
  by_cases hji : j = i
  ·subst hji; exact hy.wpOp hi True.intro ⟨fun h => absurd h (by omega), H⟩
  ·have h1 := H.2 j (ready_mono hj hji)
   obtain ⟨hjun, oj, hoj, hall⟩ := mem_ready.1 hj
   have hnot : ∀ e ∈ oj.after, Region.binds md e = true → e.on ≠ i := fun e he hb heq => by
    have h1 := hall e he hb
    have h0 := (mem_ready.1 hr).1
    rw [heq] at h1
    rcases Nat.lt_or_ge i listed.size with h' | h'
    ·simp [h'] at h0 h1; rw [h0] at h1; cases h1
    ·simp [Array.getElem?_eq_none h'] at h1
   have h2 := wpOp_putIf hoj (hfree j oj hoj hji hjun hnot) (fun cs b => hsel i oi cs b hi) (fun cs b => hsel j oj cs b hoj) hQ hy h1
   have hfree' : ∀ k ok, ops[k]? = some ok → k ≠ i → (listed.setIfInBounds j true).getD k true = false →
     (∀ e ∈ ok.after, Region.binds md e = true → e.on ≠ i) → oi.apart ops ok = true := fun k ok hk hki hun hno => by
    refine hfree k ok hk hki ?_ hno
    by_cases hjk : j = k
    ·subst hjk; exact hjun
    ·rw [getD_set_ne true hjk] at hun; exact hun
   refine wpOp_mono (fun a' w' h3 => ⟨h3.2.1, ih (listed.setIfInBounds j true) a' w' hfree' (ready_mono hr (Ne.symm hji)) h3.1 ?_⟩) h2
   rw [Array.setIfInBounds_comm _ _ hji]
   exact h3.2.2
theorem takeT_late (i d : Nat) {oi : Oper} {v : Value} {fuel : Nat} {listed : Array Bool} {a : Act} {w : World} (hi : ops[i]? = some oi) (hd : oi.dst = some d)
  (hs : Region.noSelect ops = true) (hf : Region.free md ops listed i = true) (hr : (Region.ready md ops listed).contains i = true) (hK : K ≤ i)
  (hQ : ∀ c a w, Q (.panic c) (a.put oi.dst v) w → Q (.panic c) a w) (hw : Region.wanted oi (yielded ops a.tmps) = true) (hy : ∀ w, (execOp a.eval oi).run P w = .ok (.value v) w)
  (h : wpAnyT P md ops Q S K fuel (listed.setIfInBounds i true) ⟨a.tmps.setIfInBounds d v, a.defers⟩ w) : wpAnyT P md ops Q S K (fuel + 1) listed a w :=
 wpAnyT_pure hi (Region.noSelect_spec hs) hQ hK fuel listed a w (Region.free_spec hi hf) (by simpa using hr) (.inl ⟨hw, fun w _ => hy w⟩) (by rw [put_some a oi d v hd]; exact h)
def AllReadyT (P : Program) (md : Region.Mode) (ops : Array Oper) (Q : Exit → Act → World → Prop) (S : World → Prop) (K fuel : Nat) (listed : Array Bool) (a : Act) (w : World) (rs : List Nat) : Prop :=
 ∀ i ∈ rs, wpOp P ops Q i (fun a' w' => (i < K → S w') ∧ wpAnyT P md ops Q S K fuel (listed.setIfInBounds i true) a' w') a w
theorem AllReadyT.nil {fuel : Nat} {listed : Array Bool} {a : Act} {w : World} : AllReadyT P md ops Q S K fuel listed a w [] := fun _ h => by cases h
theorem AllReadyT.cons {fuel : Nat} {listed : Array Bool} {a : Act} {w : World} {i : Nat} {o : Oper} {rs : List Nat} (ho : ops[i]? = some o)
  (h : ∀ K' : Act → World → Prop, Shut (∀ a w, (i < K → S w) → ((i < K → S w) → wpAnyT P md ops Q S K fuel (listed.setIfInBounds i true) a w) → K' a w) → if Region.wanted o (yielded ops a.tmps) = true then Oper.wp P o a w K' Q else K' (a.put o.dst undef) w)
  (hs : AllReadyT P md ops Q S K fuel listed a w rs) : AllReadyT P md ops Q S K fuel listed a w (i :: rs) := fun j hj => by
 rcases List.mem_cons.1 hj with rfl | hj
 ·exact wpOp_step ho (fun K' hK => h K' (fun a w hS hW => hK a w ⟨hS, hW hS⟩))
 ·exact hs j hj
theorem wpAnyT_ready {rs : List Nat} {fuel : Nat} {listed : Array Bool} {a : Act} {w : World} (hr : Region.ready md ops listed = rs) (hne : rs ≠ [])
  (h : AllReadyT P md ops Q S K fuel listed a w rs) : wpAnyT P md ops Q S K (fuel + 1) listed a w := ⟨fun h0 => absurd (hr ▸ h0) hne, hr ▸ h⟩
theorem wpAnyT_done {listed : Array Bool} {a : Act} {w : World} (hr : Region.ready md ops listed = []) (h : Q .normal a w) :
  ∀ fuel, wpAnyT P md ops Q S K fuel listed a w
 | 0 => ⟨hr, h⟩
 | _ + 1 => ⟨fun _ => h, by rw [hr]; simp⟩
theorem wp_region_drewT {id : Nat} {a : Act} {w : World} (K : Nat) (hm : P.follows .mixedOrders = true) (hS : S w.drew)
  (h : S w.drew → wpAnyT P .any ops Q S K ops.size (Array.replicate ops.size false) a w.drew) : (Code.region id ops true).wp P Q a w :=
 wp_region_any hm (wpAny_of_T _ _ _ _ (h hS))
end
section
variable {P : Program} {ops : Array Oper} {Q : Exit → Act → World → Prop} {md : Region.Mode} {S : World → Prop} {K : Nat}
theorem tt (i d : Nat) {oi : Oper} {v : Value} {fuel : Nat} {listed : Array Bool} {a : Act} {w : World} (hi : ops[i]? = some oi) (hd : oi.dst = some d) (h : wpAnyT P md ops Q S K fuel (listed.setIfInBounds i true) ⟨a.tmps.setIfInBounds d v, a.defers⟩ w)
    (hs : Region.noSelect ops = true := by kernel_rfl) (hf : Region.free md ops listed i = true := by kernel_rfl) (hr : (Region.ready md ops listed).contains i = true := by kernel_rfl) (hwt : waitsB md ops K i = true := by kernel_rfl) (hQ : ∀ c a w, Q (.panic c) (a.put oi.dst v) w → Q (.panic c) a w := by exact fun _ _ _ h => h) (hS : S w := by assumption) (hw : Region.wanted oi (yielded ops a.tmps) = true := by rfl)
    (hy : ∀ w, S w → (execOp a.eval oi).run P w = .ok (.value v) w := by (intro w hSw; (try dsimp only at hSw); go_simp; try with_reducible rfl)) : wpAnyT P md ops Q S K (fuel + 1) listed a w := takeT_yes i d hi hd hs hf hr hwt hQ hS hw hy h
theorem tl (i d : Nat) {oi : Oper} {v : Value} {fuel : Nat} {listed : Array Bool} {a : Act} {w : World} (hi : ops[i]? = some oi) (hd : oi.dst = some d) (h : wpAnyT P md ops Q S K fuel (listed.setIfInBounds i true) ⟨a.tmps.setIfInBounds d v, a.defers⟩ w)
    (hs : Region.noSelect ops = true := by kernel_rfl) (hf : Region.free md ops listed i = true := by kernel_rfl) (hr : (Region.ready md ops listed).contains i = true := by kernel_rfl) (hK : K ≤ i := by decide) (hQ : ∀ c a w, Q (.panic c) (a.put oi.dst v) w → Q (.panic c) a w := by exact fun _ _ _ h => h) (hw : Region.wanted oi (yielded ops a.tmps) = true := by rfl)
    (hy : ∀ w, (execOp a.eval oi).run P w = .ok (.value v) w := by (intro w; go_simp; try with_reducible rfl)) : wpAnyT P md ops Q S K (fuel + 1) listed a w := takeT_late i d hi hd hs hf hr hK hQ hw hy h
end
def ShoP (D : Nat → Prop) (w : World) (v : Value) (n k : Nat) (cs : List Value) : Prop :=
 cs.length = n * k ∧ ((v = .slice none 0 0 ∧ n = 0) ∨ ∃ g o c, v = .slice (some ⟨g, o, none⟩) n c ∧ n ≤ c ∧ c ≤ maxLen ∧ g < w.heap.size ∧ (0 < n → D g) ∧ ∀ j u, cs[j]? = some u → w.cell? ⟨g, o + j, none⟩ = some u)
theorem ShoP.nil (D : Nat → Prop) (w : World) (k : Nat) : ShoP D w (.slice none 0 0) 0 k [] := ⟨by simp, .inl ⟨rfl, rfl⟩⟩
theorem ShoP.sho {D : Nat → Prop} {w : World} {v : Value} {n k : Nat} {cs : List Value} (h : ShoP D w v n k cs) : Sho w v n k cs := by
 obtain ⟨hl, h | ⟨g, o, c, rfl, hc, hm, hg, _, hcell⟩⟩ := h
 ·obtain ⟨rfl, rfl⟩ := h
  have : cs = [] := List.length_eq_zero_iff.1 (by omega)
  subst this
  exact Sho.nil w k
 ·rcases Nat.eq_zero_or_pos n with h0 | h0
  ·subst h0
   have : cs = [] := List.length_eq_zero_iff.1 (by omega)
   subst this
   exact Sho.empty w k _ c
  ·exact ⟨hl, .inr ⟨g, o, c, rfl, hc, hm, hg, hcell⟩⟩
theorem ShoP.form {D : Nat → Prop} {w : World} {v : Value} {n k : Nat} {cs : List Value} (h : ShoP D w v n k cs) : (v = .slice none 0 0 ∧ n = 0) ∨ ∃ g o c, v = .slice (some ⟨g, o, none⟩) n c ∧ n ≤ c ∧ c ≤ maxLen ∧ g < w.heap.size := by
 obtain ⟨hl, h | ⟨g, o, c, h1, hc, hm, hg, _, hcell⟩⟩ := h
 ·exact .inl h
 ·exact .inr ⟨g, o, c, h1, hc, hm, hg⟩
theorem ShoP.mono {D T : Nat → Prop} {w : World} {v : Value} {n k : Nat} {cs : List Value} (h : ShoP D w v n k cs) (hT : ∀ g, D g → T g) : ShoP T w v n k cs := by
 obtain ⟨hl, h | ⟨g, o, c, h1, hc, hm, hg, hd, hcell⟩⟩ := h
 ·exact ⟨hl, .inl h⟩
 ·exact ⟨hl, .inr ⟨g, o, c, h1, hc, hm, hg, fun h0 => hT g (hd h0), hcell⟩⟩
theorem ShoP.chg {D T : Nat → Prop} {w w1 : World} {v : Value} {n k : Nat} {cs : List Value} (h : ShoP D w v n k cs) (hc : Chg w w1 T) (hT : ∀ g, D g → ¬ T g) : ShoP D w1 v n k cs := by
 obtain ⟨hl, h | ⟨g, o, c, h1, hcc, hm, hg, hd, hcell⟩⟩ := h
 ·exact ⟨hl, .inl h⟩
 ·refine ⟨hl, .inr ⟨g, o, c, h1, hcc, hm, Nat.lt_of_lt_of_le hg hc.size, hd, fun j u hj => ?_⟩⟩
  have h0 : 0 < n := by
   rcases Nat.eq_zero_or_pos n with h0 | h0
   ·subst h0
    have : j < cs.length := (List.getElem?_eq_some_iff.1 hj).1
    omega
   ·exact h0
  exact (hc.cell hg (hT g (hd h0))).trans (hcell j u hj)
theorem ShoP.own {w : World} {base : Nat} {e : TypeId} {k n : Nat} {v : Value} {xs : List Value} (h : w.ownsRow base e k v n xs) : ShoP (fun g => base ≤ g ∧ g < w.heap.size) w v n k xs := by
 have hs := Sho.own h
 obtain ⟨hl, h2 | ⟨g, cap, cur, rfl, hb, hh, hn, hcap, _⟩⟩ := h
 ·exact ⟨hl, .inl h2⟩
 ·have hg : g < w.heap.size := (Array.getElem?_eq_some_iff.1 hh).1
  refine ⟨hl, .inr ⟨g, 0, cap, rfl, hn, hcap, hg, fun _ => ⟨hb, hg⟩, fun j u hj => ?_⟩⟩
  have h0 : 0 < n := by
   rcases Nat.eq_zero_or_pos n with h0 | h0
   ·subst h0
    have : j < xs.length := (List.getElem?_eq_some_iff.1 hj).1
    omega
   ·exact h0
  obtain ⟨g', o', e1, _, _, _, _, hc⟩ := hs.place h0
  injection e1 with e1
  injection e1 with e1 e2
  subst e1 e2
  exact hc j u hj
theorem ShoP.head {D : Nat → Prop} {w : World} {g o n c k : Nat} {cs : List Value} (h : ShoP D w (.slice (some ⟨g, o, none⟩) n c) n k cs) (a : Nat) (ha : a ≤ n) : ShoP D w (.slice (some ⟨g, o, none⟩) a c) a k (cs.take (a * k)) := by
 obtain ⟨hl, h | ⟨g', o', c', h1, hc, hm, hg, hd, hcell⟩⟩ := h
 ·exact absurd h.1 (by simp)
 ·injection h1 with h1 _ h2
  injection h1 with h1
  injection h1 with h1 h3
  subst h1 h2 h3
  refine ⟨by rw [List.length_take, hl]; exact Nat.min_eq_left (Nat.mul_le_mul_right k ha), .inr ⟨g, o, c, rfl, by omega, hm, hg, fun h0 => hd (by omega), fun j u hj => hcell j u ?_⟩⟩
  rw [List.getElem?_take] at hj
  split at hj
  ·exact hj
  ·cases hj
theorem ShoP.tail {D : Nat → Prop} {w : World} {g o n c k : Nat} {cs : List Value} (h : ShoP D w (.slice (some ⟨g, o, none⟩) n c) n k cs) (a : Nat) (ha : a ≤ n) : ShoP D w (.slice (some ⟨g, o + a * k, none⟩) (n - a) (c - a)) (n - a) k (cs.drop (a * k)) := by
 obtain ⟨hl, h | ⟨g', o', c', h1, hc, hm, hg, hd, hcell⟩⟩ := h
 ·exact absurd h.1 (by simp)
 ·injection h1 with h1 _ h2
  injection h1 with h1
  injection h1 with h1 h3
  subst h1 h2 h3
  refine ⟨by rw [List.length_drop, hl, Nat.sub_mul], .inr ⟨g, o + a * k, c - a, rfl, by omega, by omega, hg, fun h0 => hd (by omega), fun j u hj => ?_⟩⟩
  rw [List.getElem?_drop] at hj
  rw [Nat.add_assoc]
  exact hcell _ u hj

def posP (l : List (Int × Int)) (at' : Int) : Nat → Nat
 | 0 => 0
 | k + 1 => if at' < (l.getD k (0, 0)).1 then posP l at' k else k + 1
theorem posP_le (l : List (Int × Int)) (at' : Int) : ∀ k, posP l at' k ≤ k
 | 0 => Nat.le_refl _
 | k + 1 => by
  have := posP_le l at' k
  unfold posP
  split <;> omega
def insP (at' wh : Int) (l : List (Int × Int)) : List (Int × Int) := l.take (posP l at' l.length) ++ (at', wh) :: l.drop (posP l at' l.length)
theorem insP_length (at' wh : Int) (l : List (Int × Int)) : (insP at' wh l).length = l.length + 1 := by
 have := posP_le l at' l.length
 unfold insP
 rw [List.length_append, List.length_take, List.length_cons, List.length_drop]
 omega
theorem reqCells_take (l : List (Int × Int)) : ∀ k, reqCells (l.take k) = (reqCells l).take (k * 2) := by
 induction l with
 | nil => intro k; simp [reqCells]
 | cons x l ih =>
  intro k
  cases k with
  | zero => simp [reqCells]
  | succ k =>
   have h := ih k
   show [Value.int .i64 x.1, .int .i64 x.2] ++ reqCells (l.take k) = ([Value.int .i64 x.1, .int .i64 x.2] ++ reqCells l).take ((k + 1) * 2)
   rw [h, show (k + 1) * 2 = 2 + k * 2 by omega, List.take_append]
   simp [List.take_of_length_le]
theorem reqCells_drop (l : List (Int × Int)) : ∀ k, reqCells (l.drop k) = (reqCells l).drop (k * 2) := by
 induction l with
 | nil => intro k; simp [reqCells]
 | cons x l ih =>
  intro k
  cases k with
  | zero => simp
  | succ k =>
   have h := ih k
   show reqCells (l.drop k) = ([Value.int .i64 x.1, .int .i64 x.2] ++ reqCells l).drop ((k + 1) * 2)
   rw [h, show (k + 1) * 2 = 2 + k * 2 by omega, List.drop_append]
   simp [List.drop_eq_nil_of_le]
theorem reqCells_one (l : List (Int × Int)) : ∀ u ∈ reqCells l, u.oneCell' = true := by
 intro u hu
 unfold reqCells at hu
 rw [List.mem_flatMap] at hu
 obtain ⟨x, _, hx⟩ := hu
 simp at hx
 rcases hx with rfl | rfl <;> rfl

structure MdD where
 p : PolD
 retry : Int
 cur : SgD
 has : Bool
 th : List Int
 tr : List Int
 kept : List CgD
 plans : List (Int × Int)
 done : SgD
 dh : Bool
 dk : List CgD
structure MdR where
 pl : Value
 pw : Value
 cr : Value
 cp : Value
 cq : Value
 kv : Value
 pv : Value
 dr : Value
 dp : Value
 dq : Value
 ev : Value
def mdCells (tb rb : Nat) (d : MdD) (r : MdR) : List Value := [r.pl, r.pw, .int .i64 d.p.quorum, .int .i64 d.retry, .int .i64 d.cur.ck.num, r.cr, .int .i64 d.cur.sig.index, r.cp, r.cq, .bool d.has, .slice (some ⟨tb, 0, none⟩) d.th.length d.th.length, .slice (some ⟨rb, 0, none⟩) d.tr.length d.tr.length, r.kv, r.pv, .int .i64 d.done.ck.num, r.dr, .int .i64 d.done.sig.index, r.dp, r.dq, .bool d.dh, r.ev]
def intsV (l : List Int) : List Value := l.map (fun x => Value.int .i64 x)
theorem intsV_at (l : List Int) (k : Nat) (h : k < l.length) : (intsV l)[k]? = some (.int .i64 (l.getD k 0)) := by
 unfold intsV
 rw [List.getElem?_map, List.getElem?_eq_getElem h, List.getD_eq_getElem?_getD, List.getElem?_eq_getElem h]
 rfl
theorem intsV_set (l : List Int) (k : Nat) (x : Int) : (intsV l).set k (.int .i64 x) = intsV (l.set k x) := by unfold intsV; rw [List.map_set]
def CgsP (D : Nat → Prop) (w : World) (v : Value) (gs : List CgD) : Prop := ∃ us, ShoP D w v gs.length 4 us ∧ CgRow D w us gs
theorem CgsP.chg {D T : Nat → Prop} {w w1 : World} {v : Value} {gs : List CgD} (h : CgsP D w v gs) (hc : Chg w w1 T) (hT : ∀ g, D g → ¬ T g) : CgsP D w1 v gs := by
 obtain ⟨us, h1, h2⟩ := h
 exact ⟨us, h1.chg hc hT, h2.chg hc hT⟩
theorem CgsP.mono {D T : Nat → Prop} {w : World} {v : Value} {gs : List CgD} (h : CgsP D w v gs) (hT : ∀ g, D g → T g) : CgsP T w v gs := by
 obtain ⟨us, h1, h2⟩ := h
 exact ⟨us, h1.mono hT, h2.mono hT⟩
theorem CgsP.cgsv {D : Nat → Prop} {w : World} {v : Value} {gs : List CgD} (h : CgsP D w v gs) : CgsV w v gs := by
 obtain ⟨us, h1, h2⟩ := h
 exact ⟨us, h1.sho, h2.mono (fun _ _ => True.intro)⟩
structure MdT (D : Nat → Prop) (w : World) (d : MdD) (r : MdR) : Prop where
 pl : BysF D w r.pl d.p.log
 pw : RwsF D w r.pw d.p.wits
 cr : BysF D w r.cr d.cur.ck.root
 cp : RwsF D w r.cp d.cur.sig.parts
 cq : RwsF D w r.cq d.cur.sig.path
 kv : CgsP D w r.kv d.kept
 pv : ShoP D w r.pv d.plans.length 2 (reqCells d.plans)
 dr : BysF D w r.dr d.done.ck.root
 dp : RwsF D w r.dp d.done.sig.parts
 dq : RwsF D w r.dq d.done.sig.path
 ev : CgsP D w r.ev d.dk
theorem MdT.chg {D T : Nat → Prop} {w w1 : World} {d : MdD} {r : MdR} (h : MdT D w d r) (hc : Chg w w1 T) (hT : ∀ g, D g → ¬ T g) : MdT D w1 d r :=
 ⟨h.pl.chg hc hT, h.pw.chg hc hT, h.cr.chg hc hT, h.cp.chg hc hT, h.cq.chg hc hT, h.kv.chg hc hT, h.pv.chg hc hT, h.dr.chg hc hT, h.dp.chg hc hT, h.dq.chg hc hT, h.ev.chg hc hT⟩
theorem MdT.mono {D T : Nat → Prop} {w : World} {d : MdD} {r : MdR} (h : MdT D w d r) (hT : ∀ g, D g → T g) : MdT T w d r :=
 ⟨h.pl.mono hT, h.pw.mono hT, h.cr.mono hT, h.cp.mono hT, h.cq.mono hT, h.kv.mono hT, h.pv.mono hT, h.dr.mono hT, h.dp.mono hT, h.dq.mono hT, h.ev.mono hT⟩
def MdM (mb tb rb : Nat) (k : Nat) : Prop := k = mb ∨ k = tb ∨ k = rb
structure MdOk (D : Nat → Prop) (w : World) (mb tb rb : Nat) (d : MdD) (r : MdR) : Prop where
 blk : Blk w mb 85 (mdCells tb rb d r)
 tbk : Blk w tb 3 (intsV d.th)
 rbk : Blk w rb 3 (intsV d.tr)
 tx : MdT D w d r
 dd : ∀ g, D g → ¬ MdM mb tb rb g ∧ g < w.heap.size
 n1 : mb ≠ tb
 n2 : mb ≠ rb
 n3 : tb ≠ rb
def MdAt (D : Nat → Prop) (w : World) (mb tb rb : Nat) (d : MdD) : Prop := ∃ r, MdOk D w mb tb rb d r
theorem MdOk.chg {D T : Nat → Prop} {w w1 : World} {mb tb rb : Nat} {d : MdD} {r : MdR} (h : MdOk D w mb tb rb d r) (hc : Chg w w1 T) (hM : ∀ g, MdM mb tb rb g → ¬ T g) (hD : ∀ g, D g → ¬ T g) : MdOk D w1 mb tb rb d r :=
 ⟨h.blk.chg hc (hM _ (.inl rfl)), h.tbk.chg hc (hM _ (.inr (.inl rfl))), h.rbk.chg hc (hM _ (.inr (.inr rfl))), h.tx.chg hc hD, fun g hg => ⟨(h.dd g hg).1, Nat.lt_of_lt_of_le (h.dd g hg).2 hc.size⟩, h.n1, h.n2, h.n3⟩
theorem MdOk.below {D : Nat → Prop} {w w1 : World} {mb tb rb : Nat} {d : MdD} {r : MdR} (h : MdOk D w mb tb rb d r) (hb : Below w.heap.size w w1) : MdOk D w1 mb tb rb d r :=
 h.chg (Chg.of_below (S := fun _ => False) hb) (fun _ _ h => h) (fun _ _ h => h)
theorem MdAt.chg {D T : Nat → Prop} {w w1 : World} {mb tb rb : Nat} {d : MdD} (h : MdAt D w mb tb rb d) (hc : Chg w w1 T) (hM : ∀ g, MdM mb tb rb g → ¬ T g) (hD : ∀ g, D g → ¬ T g) : MdAt D w1 mb tb rb d := by
 obtain ⟨r, h⟩ := h
 exact ⟨r, h.chg hc hM hD⟩
theorem MdOk.plans {D : Nat → Prop} {w W W2 : World} {mb tb rb : Nat} {d : MdD} {r : MdR} (h : MdOk D w mb tb rb d r) {pv : Value} {l : List (Int × Int)} (hb : Below w.heap.size w W)
  (hp : ShoP (fun g => D g ∨ Fresh w W g) W pv l.length 2 (reqCells l)) (hW : W2 = W.setCell ⟨mb, 13, none⟩ pv) :
  MdOk (fun g => D g ∨ Fresh w W2 g) W2 mb tb rb { d with plans := l } { r with pv := pv } ∧ Chg w W2 (fun k => k = mb) := by
 have hc2 : Chg W W2 (fun k => k = mb) := by rw [hW]; exact chg_cell (Chg.refl W _) 13 pv
 have hs1 := hb.size
 have hs2 := hc2.size
 have hm := h.blk.lt
 have ht := h.tbk.lt
 have hr := h.rbk.lt
 have h1 := h.below hb
 have hD : ∀ g, D g → ¬ (g = mb) := fun g hg e => (h.dd g hg).1 (.inl e)
 have hF : ∀ g, (D g ∨ Fresh w W g) → ¬ (g = mb) := fun g hg e => by
  rcases hg with hg | hg
  ·exact hD g hg e
  ·have := hg.1; omega
 have t := (h1.tx.chg hc2 hD).mono (T := fun g => D g ∨ Fresh w W2 g) (fun g hg => .inl hg)
 refine ⟨⟨?_, h1.tbk.chg hc2 (fun e => h.n1 e.symm), h1.rbk.chg hc2 (fun e => h.n2 e.symm), ⟨t.pl, t.pw, t.cr, t.cp, t.cq, t.kv, (hp.chg hc2 hF).mono (fun g hg => ?_), t.dr, t.dp, t.dq, t.ev⟩, fun g hg => ?_, h.n1, h.n2, h.n3⟩, ((Chg.refl w _).trans (Chg.of_below (S := fun _ => False) hb) (fun _ _ h => h.elim)).trans hc2 (fun _ _ h => h)⟩
 ·rw [hW]
  exact h1.blk.set 13 pv (by simp [mdCells])
 ·rcases hg with hg | hg
  ·exact .inl hg
  ·exact .inr ⟨hg.1, Nat.lt_of_lt_of_le hg.2 hs2⟩
 ·rcases hg with hg | hg
  ·exact ⟨(h.dd g hg).1, by have := (h.dd g hg).2; omega⟩
  ·have h9 : w.heap.size ≤ g := hg.1
   refine ⟨fun e => ?_, hg.2⟩
   rcases e with e | e | e <;> omega
end Go.Proofs.YtlkgeifmppadmaaGreat
