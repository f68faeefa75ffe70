/- The feeder's Offer. Conditions: as each theorem states them. -/
import Derived.Test.YtlkgeifmppadmaaGreatKj
import Derived.Test.YtlkgeifmppadmaaGreatKf
namespace Go.Proofs.YtlkgeifmppadmaaGreat
open Go.RowKit
set_option linter.unusedVariables false
set_option linter.unusedSimpArgs false

/-- Is it taken? -/
def offB (d : FdD) (s : SgD) : Bool := ckVerB d.p.log s && !(d.has && decide (s.ck.num ≤ d.cur.ck.num))
def ordN (o : Int) : Nat → Int
  | 0 => o
  | i + 1 => ordN o i + 1
theorem ordN_eq (o : Int) (i : Nat) : ordN o i = o + (i : Int) := by
  induction i with
  | zero => simp [ordN]
  | succ i ih => show ordN o i + 1 = _; rw [ih]; omega
def offM (m : List Ent) (ord now : Int) : Nat → List Ent
  | 0 => m
  | i + 1 => insE ⟨now, ordN ord i, (i : Int)⟩ (keepW (i : Int) (offM m ord now i))
def rst (x : WtD) : WtD := ⟨x.size, 0, false⟩
def offL (l : List WtD) (i : Nat) : List WtD := (l.take i).map rst ++ l.drop i
theorem offL_length (l : List WtD) (i : Nat) : (offL l i).length = l.length := by simp [offL, List.length_take, List.length_drop]; omega
theorem offL_zero (l : List WtD) : offL l 0 = l := by simp [offL]
theorem offL_all (l : List WtD) : offL l l.length = l.map rst := by simp [offL]
theorem offL_at (l : List WtD) (i : Nat) (h : i < l.length) : (offL l i)[i]'(by rw [offL_length]; exact h) = l[i] := by
  unfold offL
  rw [List.getElem_append_right (by simp [List.length_take]; omega)]
  simp [List.length_take, Nat.min_eq_left (Nat.le_of_lt h)]
theorem offL_succ (l : List WtD) (i : Nat) (h : i < l.length) : offL l (i + 1) = (offL l i).set i (rst l[i]) := by
  unfold offL
  rw [List.set_append_right _ _ (by simp [List.length_take]; omega), List.length_map, List.length_take, Nat.min_eq_left (Nat.le_of_lt h), Nat.sub_self, List.drop_eq_getElem_cons h, List.set_cons_zero, List.take_succ_eq_append_getElem h, List.map_append, List.append_assoc]
  rfl
theorem cellsW_rst (L : List WtD) (i : Nat) (x : WtD) (h : i < L.length) (hx : x.size = L[i].size) : cellsW (L.set i x) = ((cellsW L).set (i * 3 + 1) (.int .i64 x.tries)).set (i * 3 + 2) (.bool x.kept) := by
  rw [cellsW_set L i x h]
  have h0 := (cellsW_at L i h).1
  have e : (cellsW L).set (i * 3) (.int .i64 x.size) = cellsW L := by
    rw [hx]
    obtain ⟨hlt, e⟩ := List.getElem?_eq_some_iff.1 h0
    rw [← e]
    exact List.set_getElem_self hlt
  rw [e]
theorem insE_length (x : Ent) (m : List Ent) : (insE x m).length = m.length + 1 := by
  have := (insE_perm x m).length_eq
  simpa using this
theorem offM_length (m : List Ent) (ord now : Int) (i : Nat) : (offM m ord now i).length ≤ m.length + i := by
  induction i with
  | zero => exact Nat.le_refl _
  | succ i ih =>
    show (insE _ (keepW _ _)).length ≤ _
    rw [insE_length]
    have := keepW_le (i : Int) (offM m ord now i)
    omega
/-- The feeder behind an offer that is taken. -/
def offD (d : FdD) (s : SgD) (now : Int) : FdD := ⟨d.p, d.retry, offM d.m d.ord now d.l.length, ordN d.ord d.l.length, d.l.map rst, s, true, [], d.done, d.enough⟩
def offI (d : FdD) (s : SgD) (now : Int) (i : Nat) : FdD := ⟨d.p, d.retry, offM d.m d.ord now i, ordN d.ord i, offL d.l i, s, true, [], d.done, d.enough⟩
theorem FdM_kv {f : Nat} {r : FdR} {k : Nat} (cr cp cq : Value) (h : FdM f { r with kv := .slice none 0 0, cr := cr, cp := cp, cq := cq } k) : FdM f r k := by
  rcases h with h | h | h | h
  · exact .inl h
  · exact .inr (.inl h)
  · exact absurd h (by simp [Value.ownBlock])
  · exact .inr (.inr (.inr h))
/-- The checkpoint is laid into the feeder. -/
theorem FdOk.offer {Z : Nat → Prop} {w w3 w4 : World} {f : Nat} {d : FdD} {r : FdR} {us es : List Value} (h : FdOk Z w3 f d r us es) (hw : w.heap.size ≤ w3.heap.size) (s : SgD) (now : Int) {cr cp cq : Value} (h0 : BysF (Fresh w w3) w3 cr s.ck.root) (h1 : RwsF (Fresh w w3) w3 cp s.sig.parts) (h2 : RwsF (Fresh w w3) w3 cq s.sig.path)
    (hZ : ∀ g, Z g → g < w.heap.size) (hc : Chg w3 w4 (fun k => k = f)) (hb : Blk w4 f 68 (fdCells (offI d s now 0) { r with kv := .slice none 0 0, cr := cr, cp := cp, cq := cq })) :
    FdOk (Wide Z w w4) w4 f (offI d s now 0) { r with kv := .slice none 0 0, cr := cr, cp := cp, cq := cq } [] es := by
  have hf : FdM f r f := .inl rfl
  have hfw : f < w.heap.size := hZ f (h.mz f hf)
  have hD : ∀ g, FdDat Z f r g → FdDat (Wide Z w w4) f { r with kv := .slice none 0 0, cr := cr, cp := cp, cq := cq } g := fun g hg => ⟨.inl hg.1, fun e => hg.2 (FdM_kv cr cp cq e)⟩
  have hN : ∀ g, Fresh w w3 g → FdDat (Wide Z w w4) f { r with kv := .slice none 0 0, cr := cr, cp := cp, cq := cq } g := fun g hg => ⟨.inr ⟨hg.1, Nat.lt_of_lt_of_le hg.2 hc.size⟩, fun e => by
    have := hZ g (h.mz g (FdM_kv cr cp cq e))
    have := hg.1
    omega⟩
  have hFf : ∀ g, Fresh w w3 g → ¬ (g = f) := fun g hg e => by have := hg.1; omega
  have tx := h.tx.chg hc (fun g hg e => hg.2 (by rw [show g = f from e]; exact hf))
  refine ⟨hb, h.wt.chg hc (fun e => h.n1 e.symm), h.ag.chg hc (fun k hk e => h.n4 (by rw [← show k = f from e]; exact hk)), World.ownsRow_nil _ _ _ _, Nat.le_trans h.kbl hc.size, Nat.le_trans h.bal hc.size, ?_, h.n1, by simp [Value.ownBlock], by simp [Value.ownBlock], h.n4, h.n5, fun k hk => absurd hk (by simp [Value.ownBlock]), fun k hk => .inl (h.mz k (FdM_kv cr cp cq hk))⟩
  exact ⟨tx.pl.mono hD, tx.pw.mono hD, (h0.chg hc hFf).mono hN, (h1.chg hc hFf).mono hN, (h2.chg hc hFf).mono hN, tx.dr.mono hD, tx.dp.mono hD, tx.dq.mono hD, CgRow.nil _ _, tx.en, fun h0 g hg => hD g (tx.ef h0 g hg), tx.ed.mono hD⟩
/-- What is thought of the witnesses turns. -/
theorem FdOk.setW {Z : Nat → Prop} {w w1 : World} {f : Nat} {d : FdD} {r : FdR} {us es : List Value} (h : FdOk Z w f d r us es) (l' : List WtD) (hl : l'.length = d.l.length) (hc : Chg w w1 (fun k => k = r.lb)) (hb : Blk w1 r.lb 74 (cellsW l')) : FdOk Z w1 f { d with l := l' } r us es := by
  have hm : FdM f r r.lb := .inr (.inl rfl)
  have tx := h.tx.chg hc (fun g hg e => hg.2 (by rw [show g = r.lb from e]; exact hm))
  have hk := h.blk.chg hc h.n1
  refine ⟨?_, hb, h.ag.chg hc (fun k hk e => h.n5 (by rw [← show k = r.lb from e]; exact hk)), ownsRow_chg h.kp hc (fun k hk e => h.n3 (by rw [← show k = r.lb from e]; exact hk)), Nat.le_trans h.kbl hc.size, Nat.le_trans h.bal hc.size, ⟨tx.pl, tx.pw, tx.cr, tx.cp, tx.cq, tx.dr, tx.dp, tx.dq, tx.kd, tx.en, tx.ef, tx.ed⟩, h.n1, h.n2, h.n3, h.n4, h.n5, h.n6, h.mz⟩
  unfold fdCells at hk ⊢
  show Blk w1 f _ [_, _, _, _, _, .slice (some ⟨r.lb, 0, none⟩) l'.length l'.length, _, _, _, _, _, _, _, _, _, _, _, _, _]
  rw [hl]
  exact hk
theorem FdOk.wide {Z Z' : Nat → Prop} {w : World} {f : Nat} {d : FdD} {r : FdR} {us es : List Value} (h : FdOk Z w f d r us es) (hZ : ∀ g, Z g → Z' g) : FdOk Z' w f d r us es :=
  ⟨h.blk, h.wt, h.ag, h.kp, h.kbl, h.bal, h.tx.mono (fun g hg => ⟨hZ g hg.1, hg.2⟩), h.n1, h.n2, h.n3, h.n4, h.n5, h.n6, fun k hk => hZ k (h.mz k hk)⟩
theorem Wide.none {Z : Nat → Prop} {w w1 : World} {g : Nat} (h : Z g) : Wide Z w w1 g := .inl h

theorem cell5 {w : World} {f : Nat} {d : FdD} {r : FdR} (h : Blk w f 68 (fdCells d r)) : w.cell? ⟨f, 5, none⟩ = some (.slice (some ⟨r.lb, 0, none⟩) d.l.length d.l.length) := h.cell 5 _ rfl
set_option maxRecDepth 100000 in
set_option maxHeartbeats 8000000 in
theorem offer_nv (Z : Nat → Prop) (f : Nat) (d : FdD) (r : FdR) (us es : List Value) (v : Value) (s : SgD) (now : Int) (hsp : d.p.log.length ≤ 1000000000) (hr : s.ck.root.length ≤ 100000000) (hs : SmallSig s.sig) (w : World) (hok : FdOk Z w f d r us es) (hv : SgV w v s) (hver : ckVerB d.p.log s = false) :
    Calls Tryz.prog 11 #[.pointer (some ⟨f, 0, none⟩), v, .int .i64 now] w fun e w' => e = .returned (.bool false) ∧ Below w.heap.size w w' := by
  have HVR := Lib.hid hver
  clear hver
  obtain ⟨rt, p, q, rfl, h0, h1, h2⟩ := hv
  obtain ⟨R, cr, rfl⟩ := h0.form
  obtain ⟨P, cp, rfl⟩ := h1.form
  obtain ⟨Q, cq, rfl⟩ := h2.form
  obtain ⟨PA, pc, hpl⟩ := hok.tx.pl.1.form
  have HPL := Lib.hid hpl
  have HVF := Lib.hid (fun (wz : World) (vp v : Value) (z1 : Bys wz vp d.p.log) (z3 : SgV wz v s) => pckverify_any vp v d.p.log s (show d.p.log.length ≤ 1000000000 from hsp) hr hs wz z1 z3)
  have HX := Lib.hid (And.intro h0 (And.intro h1 h2))
  have HS := Lib.hid (And.intro hr hs)
  have HO := Lib.hid hok
  clear h0 h1 h2 hr hs hok hpl
  obtain ⟨⟨num, root⟩, ⟨ix, Ps, Qs⟩⟩ := s
  have hk0 := Blk.new w 40 [.int .i64 num, .slice R root.length cr, .int .i64 ix, .slice P Ps.length cp, .slice Q Qs.length cq]
  have hb0 := (Below.refl w.heap.size w).alloc (Nat.le_refl _) (.cells (List.toArray [.int .i64 num, .slice R root.length cr, .int .i64 ix, .slice P Ps.length cp, .slice Q Qs.length cq]) 40)
  have HW := Lib.hid (And.intro hk0 hb0)
  clear hk0 hb0
  go_enter Tryz.func11, Tryz.ntmps11
  go_wp2
  refine code_at (fun w1 => Blk w1 w.heap.size 40 [.int .i64 num, .slice R root.length cr, .int .i64 ix, .slice P Ps.length cp, .slice Q Qs.length cq] ∧ Below w.heap.size w w1) HW.out ?_
  rintro w1 ⟨k0, kb⟩
  have H1 := Lib.hid (And.intro k0 (And.intro kb (HO.out.below kb)))
  have hsz1 := k0.lt
  have c0 := k0.cell 0 _ rfl
  have c1 := k0.cell 1 _ rfl
  have c2 := k0.cell 2 _ rfl
  have c3 := k0.cell 3 _ rfl
  have c4 := k0.cell 4 _ rfl
  have kf := H1.out.2.2.blk
  have hfl := kf.lt
  have hfw := HO.out.blk.lt
  have f0 : w1.cell? ⟨f, 0, none⟩ = some (.slice PA d.p.log.length pc) := by rw [← HPL.out]; exact kf.cell 0 _ rfl
  have f6 : w1.cell? ⟨f, 6, none⟩ = some (.int .i64 d.cur.ck.num) := kf.cell 6 _ rfl
  have f11 : w1.cell? ⟨f, 11, none⟩ = some (.bool d.has) := kf.cell 11 _ rfl
  clear k0 kb kf HW
  generalize hCN : d.cur.ck.num = CN at *
  generalize hHA : d.has = HA at *
  have HE := Lib.hid (And.intro hCN hHA)
  clear hCN hHA
  cases HA with
  | false =>
    refine wp_region_held_drew (S := fun w' => w'.cell? ⟨w.heap.size, 0, none⟩ = some (.int .i64 num) ∧ w'.cell? ⟨w.heap.size, 1, none⟩ = some (.slice R root.length cr) ∧ w'.cell? ⟨w.heap.size, 2, none⟩ = some (.int .i64 ix) ∧ w'.cell? ⟨w.heap.size, 3, none⟩ = some (.slice P Ps.length cp) ∧ w'.cell? ⟨w.heap.size, 4, none⟩ = some (.slice Q Qs.length cq) ∧ w'.cell? ⟨f, 0, none⟩ = some (.slice PA d.p.log.length pc) ∧ w'.cell? ⟨f, 6, none⟩ = some (.int .i64 CN) ∧ w'.cell? ⟨f, 11, none⟩ = some (.bool false)) (by kernel_rfl) ?_ (fun hHeld => ?_)
    · exact ⟨c0, c1, c2, c3, c4, f0, f6, f11⟩
    refine take_yes 0 8 rfl rfl (by kernel_rfl) (by kernel_rfl) (by kernel_rfl) (fun _ _ _ h => h) (by assumption) (by rfl) (v := ?_) ?_ ?_
    rotate_left 1
    · (intro w hSw; (try dsimp only at hSw); go_simp; try with_reducible rfl)
    simp only [List.setIfInBounds_toArray, List.set_cons_zero, List.set_cons_succ]
    refine take_yes 1 9 rfl rfl (by kernel_rfl) (by kernel_rfl) (by kernel_rfl) (fun _ _ _ h => h) (by assumption) (by rfl) (v := ?_) ?_ ?_
    rotate_left 1
    · (intro w hSw; (try dsimp only at hSw); go_simp; try with_reducible rfl)
    simp only [List.setIfInBounds_toArray, List.set_cons_zero, List.set_cons_succ]
    refine take_yes 2 10 rfl rfl (by kernel_rfl) (by kernel_rfl) (by kernel_rfl) (fun _ _ _ h => h) (by assumption) (by rfl) (v := ?_) ?_ ?_
    rotate_left 1
    · (intro w hSw; (try dsimp only at hSw); go_simp; try with_reducible rfl)
    simp only [List.setIfInBounds_toArray, List.set_cons_zero, List.set_cons_succ]
    refine take_yes 3 11 rfl rfl (by kernel_rfl) (by kernel_rfl) (by kernel_rfl) (fun _ _ _ h => h) (by assumption) (by rfl) (v := ?_) ?_ ?_
    rotate_left 1
    · (intro w hSw; (try dsimp only at hSw); go_simp; try with_reducible rfl)
    simp only [List.setIfInBounds_toArray, List.set_cons_zero, List.set_cons_succ]
    refine take_yes 4 12 rfl rfl (by kernel_rfl) (by kernel_rfl) (by kernel_rfl) (fun _ _ _ h => h) (by assumption) (by rfl) (v := ?_) ?_ ?_
    rotate_left 1
    · (intro w hSw; (try dsimp only at hSw); go_simp; try with_reducible rfl)
    simp only [List.setIfInBounds_toArray, List.set_cons_zero, List.set_cons_succ]
    refine take_yes 5 13 rfl rfl (by kernel_rfl) (by kernel_rfl) (by kernel_rfl) (fun _ _ _ h => h) (by assumption) (by rfl) (v := ?_) ?_ ?_
    rotate_left 1
    · (intro w hSw; (try dsimp only at hSw); go_simp; try with_reducible rfl)
    simp only [List.setIfInBounds_toArray, List.set_cons_zero, List.set_cons_succ]
    refine wpAnyH_ready (rs := [6]) (by kernel_rfl) (by simp) ?_
    refine AllReadyH.cons rfl (fun K hK => ?_) AllReadyH.nil
    -- 6:  dst := some 14, op := Op.call  callee := Callee.value (Operand.func 33), args := #[Operand.tmp 12, Operand.tmp 13], argTypes :=
    go_simp
    go_at_call 27
    refine (HVF.out w1.drew _ _ (by rw [← HPL.out]; exact (H1.out.2.2.tx.pl.1.below (Below.refl _ _).drew)) ⟨_, _, _, rfl, HX.out.1.below H1.out.2.1.drew, HX.out.2.1.below H1.out.2.1.drew, HX.out.2.2.below H1.out.2.1.drew⟩).mono ?_
    rw [HVR.out]
    rintro e w2 ⟨rfl, h2⟩
    have hb2 : Below w1.heap.size w1 w2 := ⟨h2.os, h2.tape, h2.output, h2.size, h2.block⟩
    have k0 := H1.out.1.below hb2
    have kf := H1.out.2.2.blk.below hb2
    have e0 := k0.cell 0 _ rfl
    have e1 := k0.cell 1 _ rfl
    have e2 := k0.cell 2 _ rfl
    have e3 := k0.cell 3 _ rfl
    have e4 := k0.cell 4 _ rfl
    have g0 : w2.cell? ⟨f, 0, none⟩ = some (.slice PA d.p.log.length pc) := by rw [← HPL.out]; exact kf.cell 0 _ rfl
    have g6 : w2.cell? ⟨f, 6, none⟩ = some (.int .i64 CN) := by rw [← HE.out.1]; exact kf.cell 6 _ rfl
    have g11 : w2.cell? ⟨f, 11, none⟩ = some (.bool false) := by rw [← HE.out.2]; exact kf.cell 11 _ rfl
    have hfl2 := kf.lt
    have H2 := Lib.hid (And.intro k0 (And.intro (H1.out.2.1.trans (hb2.mono H1.out.2.1.size)) (H1.out.2.2.below hb2)))
    clear h2 hb2 k0 kf
    go_wp2_with fail
    refine hK.out _ _ ⟨e0, e1, e2, e3, e4, g0, g6, g11⟩ (fun hHeld6 => ?_)
    clear hK K
    try simp only [Act.put, List.setIfInBounds_toArray, List.set_cons_zero, List.set_cons_succ]
    refine take_yes 7 15 rfl rfl (by kernel_rfl) (by kernel_rfl) (by kernel_rfl) (fun _ _ _ h => h) (by assumption) (by rfl) (v := ?_) ?_ ?_
    rotate_left 1
    · (intro w hSw; (try dsimp only at hSw); go_simp; try with_reducible rfl)
    simp only [List.setIfInBounds_toArray, List.set_cons_zero, List.set_cons_succ]
    refine take_yes 8 16 rfl rfl (by kernel_rfl) (by kernel_rfl) (by kernel_rfl) (fun _ _ _ h => h) (by assumption) (by rfl) (v := ?_) ?_ ?_
    rotate_left 1
    · (intro w hSw; (try dsimp only at hSw); go_simp; try with_reducible rfl)
    simp only [List.setIfInBounds_toArray, List.set_cons_zero, List.set_cons_succ]
    refine take_no 9 17 rfl rfl (by kernel_rfl) (by kernel_rfl) (by kernel_rfl) (fun _ _ _ h => h) (by assumption) (by rfl) ?_
    simp only [List.setIfInBounds_toArray, List.set_cons_zero, List.set_cons_succ]
    refine take_no 10 18 rfl rfl (by kernel_rfl) (by kernel_rfl) (by kernel_rfl) (fun _ _ _ h => h) (by assumption) (by rfl) ?_
    simp only [List.setIfInBounds_toArray, List.set_cons_zero, List.set_cons_succ]
    refine take_no 11 19 rfl rfl (by kernel_rfl) (by kernel_rfl) (by kernel_rfl) (fun _ _ _ h => h) (by assumption) (by rfl) ?_
    simp only [List.setIfInBounds_toArray, List.set_cons_zero, List.set_cons_succ]
    refine take_no 12 20 rfl rfl (by kernel_rfl) (by kernel_rfl) (by kernel_rfl) (fun _ _ _ h => h) (by assumption) (by rfl) ?_
    simp only [List.setIfInBounds_toArray, List.set_cons_zero, List.set_cons_succ]
    refine take_no 13 21 rfl rfl (by kernel_rfl) (by kernel_rfl) (by kernel_rfl) (fun _ _ _ h => h) (by assumption) (by rfl) ?_
    simp only [List.setIfInBounds_toArray, List.set_cons_zero, List.set_cons_succ]
    refine take_no 14 22 rfl rfl (by kernel_rfl) (by kernel_rfl) (by kernel_rfl) (fun _ _ _ h => h) (by assumption) (by rfl) ?_
    simp only [List.setIfInBounds_toArray, List.set_cons_zero, List.set_cons_succ]
    refine take_no 15 23 rfl rfl (by kernel_rfl) (by kernel_rfl) (by kernel_rfl) (fun _ _ _ h => h) (by assumption) (by rfl) ?_
    simp only [List.setIfInBounds_toArray, List.set_cons_zero, List.set_cons_succ]
    refine take_no 16 24 rfl rfl (by kernel_rfl) (by kernel_rfl) (by kernel_rfl) (fun _ _ _ h => h) (by assumption) (by rfl) ?_
    simp only [List.setIfInBounds_toArray, List.set_cons_zero, List.set_cons_succ]
    refine take_no 17 25 rfl rfl (by kernel_rfl) (by kernel_rfl) (by kernel_rfl) (fun _ _ _ h => h) (by assumption) (by rfl) ?_
    simp only [List.setIfInBounds_toArray, List.set_cons_zero, List.set_cons_succ]
    refine take_no 18 26 rfl rfl (by kernel_rfl) (by kernel_rfl) (by kernel_rfl) (fun _ _ _ h => h) (by assumption) (by rfl) ?_
    simp only [List.setIfInBounds_toArray, List.set_cons_zero, List.set_cons_succ]
    refine take_no 19 27 rfl rfl (by kernel_rfl) (by kernel_rfl) (by kernel_rfl) (fun _ _ _ h => h) (by assumption) (by rfl) ?_
    simp only [List.setIfInBounds_toArray, List.set_cons_zero, List.set_cons_succ]
    refine take_no 20 28 rfl rfl (by kernel_rfl) (by kernel_rfl) (by kernel_rfl) (fun _ _ _ h => h) (by assumption) (by rfl) ?_
    simp only [List.setIfInBounds_toArray, List.set_cons_zero, List.set_cons_succ]
    refine take_no 21 29 rfl rfl (by kernel_rfl) (by kernel_rfl) (by kernel_rfl) (fun _ _ _ h => h) (by assumption) (by rfl) ?_
    simp only [List.setIfInBounds_toArray, List.set_cons_zero, List.set_cons_succ]
    refine take_no 22 30 rfl rfl (by kernel_rfl) (by kernel_rfl) (by kernel_rfl) (fun _ _ _ h => h) (by assumption) (by rfl) ?_
    simp only [List.setIfInBounds_toArray, List.set_cons_zero, List.set_cons_succ]
    refine take_no 23 31 rfl rfl (by kernel_rfl) (by kernel_rfl) (by kernel_rfl) (fun _ _ _ h => h) (by assumption) (by rfl) ?_
    simp only [List.setIfInBounds_toArray, List.set_cons_zero, List.set_cons_succ]
    refine take_no 24 32 rfl rfl (by kernel_rfl) (by kernel_rfl) (by kernel_rfl) (fun _ _ _ h => h) (by assumption) (by rfl) ?_
    simp only [List.setIfInBounds_toArray, List.set_cons_zero, List.set_cons_succ]
    refine take_yes 25 33 rfl rfl (by kernel_rfl) (by kernel_rfl) (by kernel_rfl) (fun _ _ _ h => h) (by assumption) (by rfl) (v := ?_) ?_ ?_
    rotate_left 1
    · (intro w hSw; (try dsimp only at hSw); go_simp; try with_reducible rfl)
    simp only [List.setIfInBounds_toArray, List.set_cons_zero, List.set_cons_succ]
    refine wpAnyH_done (by kernel_rfl) ?_ _
    go_wp2
    go_ret
    exact ⟨rfl, H2.out.2.1⟩
  | true =>
    refine wp_region_held_drew (S := fun w' => w'.cell? ⟨w.heap.size, 0, none⟩ = some (.int .i64 num) ∧ w'.cell? ⟨w.heap.size, 1, none⟩ = some (.slice R root.length cr) ∧ w'.cell? ⟨w.heap.size, 2, none⟩ = some (.int .i64 ix) ∧ w'.cell? ⟨w.heap.size, 3, none⟩ = some (.slice P Ps.length cp) ∧ w'.cell? ⟨w.heap.size, 4, none⟩ = some (.slice Q Qs.length cq) ∧ w'.cell? ⟨f, 0, none⟩ = some (.slice PA d.p.log.length pc) ∧ w'.cell? ⟨f, 6, none⟩ = some (.int .i64 CN) ∧ w'.cell? ⟨f, 11, none⟩ = some (.bool true)) (by kernel_rfl) ?_ (fun hHeld => ?_)
    · exact ⟨c0, c1, c2, c3, c4, f0, f6, f11⟩
    refine take_yes 0 8 rfl rfl (by kernel_rfl) (by kernel_rfl) (by kernel_rfl) (fun _ _ _ h => h) (by assumption) (by rfl) (v := ?_) ?_ ?_
    rotate_left 1
    · (intro w hSw; (try dsimp only at hSw); go_simp; try with_reducible rfl)
    simp only [List.setIfInBounds_toArray, List.set_cons_zero, List.set_cons_succ]
    refine take_yes 1 9 rfl rfl (by kernel_rfl) (by kernel_rfl) (by kernel_rfl) (fun _ _ _ h => h) (by assumption) (by rfl) (v := ?_) ?_ ?_
    rotate_left 1
    · (intro w hSw; (try dsimp only at hSw); go_simp; try with_reducible rfl)
    simp only [List.setIfInBounds_toArray, List.set_cons_zero, List.set_cons_succ]
    refine take_yes 2 10 rfl rfl (by kernel_rfl) (by kernel_rfl) (by kernel_rfl) (fun _ _ _ h => h) (by assumption) (by rfl) (v := ?_) ?_ ?_
    rotate_left 1
    · (intro w hSw; (try dsimp only at hSw); go_simp; try with_reducible rfl)
    simp only [List.setIfInBounds_toArray, List.set_cons_zero, List.set_cons_succ]
    refine take_yes 3 11 rfl rfl (by kernel_rfl) (by kernel_rfl) (by kernel_rfl) (fun _ _ _ h => h) (by assumption) (by rfl) (v := ?_) ?_ ?_
    rotate_left 1
    · (intro w hSw; (try dsimp only at hSw); go_simp; try with_reducible rfl)
    simp only [List.setIfInBounds_toArray, List.set_cons_zero, List.set_cons_succ]
    refine take_yes 4 12 rfl rfl (by kernel_rfl) (by kernel_rfl) (by kernel_rfl) (fun _ _ _ h => h) (by assumption) (by rfl) (v := ?_) ?_ ?_
    rotate_left 1
    · (intro w hSw; (try dsimp only at hSw); go_simp; try with_reducible rfl)
    simp only [List.setIfInBounds_toArray, List.set_cons_zero, List.set_cons_succ]
    refine take_yes 5 13 rfl rfl (by kernel_rfl) (by kernel_rfl) (by kernel_rfl) (fun _ _ _ h => h) (by assumption) (by rfl) (v := ?_) ?_ ?_
    rotate_left 1
    · (intro w hSw; (try dsimp only at hSw); go_simp; try with_reducible rfl)
    simp only [List.setIfInBounds_toArray, List.set_cons_zero, List.set_cons_succ]
    refine wpAnyH_ready (rs := [6]) (by kernel_rfl) (by simp) ?_
    refine AllReadyH.cons rfl (fun K hK => ?_) AllReadyH.nil
    -- 6:  dst := some 14, op := Op.call  callee := Callee.value (Operand.func 33), args := #[Operand.tmp 12, Operand.tmp 13], argTypes :=
    go_simp
    go_at_call 27
    refine (HVF.out w1.drew _ _ (by rw [← HPL.out]; exact (H1.out.2.2.tx.pl.1.below (Below.refl _ _).drew)) ⟨_, _, _, rfl, HX.out.1.below H1.out.2.1.drew, HX.out.2.1.below H1.out.2.1.drew, HX.out.2.2.below H1.out.2.1.drew⟩).mono ?_
    rw [HVR.out]
    rintro e w2 ⟨rfl, h2⟩
    have hb2 : Below w1.heap.size w1 w2 := ⟨h2.os, h2.tape, h2.output, h2.size, h2.block⟩
    have k0 := H1.out.1.below hb2
    have kf := H1.out.2.2.blk.below hb2
    have e0 := k0.cell 0 _ rfl
    have e1 := k0.cell 1 _ rfl
    have e2 := k0.cell 2 _ rfl
    have e3 := k0.cell 3 _ rfl
    have e4 := k0.cell 4 _ rfl
    have g0 : w2.cell? ⟨f, 0, none⟩ = some (.slice PA d.p.log.length pc) := by rw [← HPL.out]; exact kf.cell 0 _ rfl
    have g6 : w2.cell? ⟨f, 6, none⟩ = some (.int .i64 CN) := by rw [← HE.out.1]; exact kf.cell 6 _ rfl
    have g11 : w2.cell? ⟨f, 11, none⟩ = some (.bool true) := by rw [← HE.out.2]; exact kf.cell 11 _ rfl
    have hfl2 := kf.lt
    have H2 := Lib.hid (And.intro k0 (And.intro (H1.out.2.1.trans (hb2.mono H1.out.2.1.size)) (H1.out.2.2.below hb2)))
    clear h2 hb2 k0 kf
    go_wp2_with fail
    refine hK.out _ _ ⟨e0, e1, e2, e3, e4, g0, g6, g11⟩ (fun hHeld6 => ?_)
    clear hK K
    try simp only [Act.put, List.setIfInBounds_toArray, List.set_cons_zero, List.set_cons_succ]
    refine take_yes 7 15 rfl rfl (by kernel_rfl) (by kernel_rfl) (by kernel_rfl) (fun _ _ _ h => h) (by assumption) (by rfl) (v := ?_) ?_ ?_
    rotate_left 1
    · (intro w hSw; (try dsimp only at hSw); go_simp; try with_reducible rfl)
    simp only [List.setIfInBounds_toArray, List.set_cons_zero, List.set_cons_succ]
    refine take_yes 8 16 rfl rfl (by kernel_rfl) (by kernel_rfl) (by kernel_rfl) (fun _ _ _ h => h) (by assumption) (by rfl) (v := ?_) ?_ ?_
    rotate_left 1
    · (intro w hSw; (try dsimp only at hSw); go_simp; try with_reducible rfl)
    simp only [List.setIfInBounds_toArray, List.set_cons_zero, List.set_cons_succ]
    refine take_no 9 17 rfl rfl (by kernel_rfl) (by kernel_rfl) (by kernel_rfl) (fun _ _ _ h => h) (by assumption) (by rfl) ?_
    simp only [List.setIfInBounds_toArray, List.set_cons_zero, List.set_cons_succ]
    refine take_no 10 18 rfl rfl (by kernel_rfl) (by kernel_rfl) (by kernel_rfl) (fun _ _ _ h => h) (by assumption) (by rfl) ?_
    simp only [List.setIfInBounds_toArray, List.set_cons_zero, List.set_cons_succ]
    refine take_no 11 19 rfl rfl (by kernel_rfl) (by kernel_rfl) (by kernel_rfl) (fun _ _ _ h => h) (by assumption) (by rfl) ?_
    simp only [List.setIfInBounds_toArray, List.set_cons_zero, List.set_cons_succ]
    refine take_no 12 20 rfl rfl (by kernel_rfl) (by kernel_rfl) (by kernel_rfl) (fun _ _ _ h => h) (by assumption) (by rfl) ?_
    simp only [List.setIfInBounds_toArray, List.set_cons_zero, List.set_cons_succ]
    refine take_no 13 21 rfl rfl (by kernel_rfl) (by kernel_rfl) (by kernel_rfl) (fun _ _ _ h => h) (by assumption) (by rfl) ?_
    simp only [List.setIfInBounds_toArray, List.set_cons_zero, List.set_cons_succ]
    refine take_no 14 22 rfl rfl (by kernel_rfl) (by kernel_rfl) (by kernel_rfl) (fun _ _ _ h => h) (by assumption) (by rfl) ?_
    simp only [List.setIfInBounds_toArray, List.set_cons_zero, List.set_cons_succ]
    refine take_no 15 23 rfl rfl (by kernel_rfl) (by kernel_rfl) (by kernel_rfl) (fun _ _ _ h => h) (by assumption) (by rfl) ?_
    simp only [List.setIfInBounds_toArray, List.set_cons_zero, List.set_cons_succ]
    refine take_no 16 24 rfl rfl (by kernel_rfl) (by kernel_rfl) (by kernel_rfl) (fun _ _ _ h => h) (by assumption) (by rfl) ?_
    simp only [List.setIfInBounds_toArray, List.set_cons_zero, List.set_cons_succ]
    refine take_no 17 25 rfl rfl (by kernel_rfl) (by kernel_rfl) (by kernel_rfl) (fun _ _ _ h => h) (by assumption) (by rfl) ?_
    simp only [List.setIfInBounds_toArray, List.set_cons_zero, List.set_cons_succ]
    refine take_no 18 26 rfl rfl (by kernel_rfl) (by kernel_rfl) (by kernel_rfl) (fun _ _ _ h => h) (by assumption) (by rfl) ?_
    simp only [List.setIfInBounds_toArray, List.set_cons_zero, List.set_cons_succ]
    refine take_no 19 27 rfl rfl (by kernel_rfl) (by kernel_rfl) (by kernel_rfl) (fun _ _ _ h => h) (by assumption) (by rfl) ?_
    simp only [List.setIfInBounds_toArray, List.set_cons_zero, List.set_cons_succ]
    refine take_no 20 28 rfl rfl (by kernel_rfl) (by kernel_rfl) (by kernel_rfl) (fun _ _ _ h => h) (by assumption) (by rfl) ?_
    simp only [List.setIfInBounds_toArray, List.set_cons_zero, List.set_cons_succ]
    refine take_no 21 29 rfl rfl (by kernel_rfl) (by kernel_rfl) (by kernel_rfl) (fun _ _ _ h => h) (by assumption) (by rfl) ?_
    simp only [List.setIfInBounds_toArray, List.set_cons_zero, List.set_cons_succ]
    refine take_no 22 30 rfl rfl (by kernel_rfl) (by kernel_rfl) (by kernel_rfl) (fun _ _ _ h => h) (by assumption) (by rfl) ?_
    simp only [List.setIfInBounds_toArray, List.set_cons_zero, List.set_cons_succ]
    refine take_no 23 31 rfl rfl (by kernel_rfl) (by kernel_rfl) (by kernel_rfl) (fun _ _ _ h => h) (by assumption) (by rfl) ?_
    simp only [List.setIfInBounds_toArray, List.set_cons_zero, List.set_cons_succ]
    refine take_no 24 32 rfl rfl (by kernel_rfl) (by kernel_rfl) (by kernel_rfl) (fun _ _ _ h => h) (by assumption) (by rfl) ?_
    simp only [List.setIfInBounds_toArray, List.set_cons_zero, List.set_cons_succ]
    refine take_yes 25 33 rfl rfl (by kernel_rfl) (by kernel_rfl) (by kernel_rfl) (fun _ _ _ h => h) (by assumption) (by rfl) (v := ?_) ?_ ?_
    rotate_left 1
    · (intro w hSw; (try dsimp only at hSw); go_simp; try with_reducible rfl)
    simp only [List.setIfInBounds_toArray, List.set_cons_zero, List.set_cons_succ]
    refine wpAnyH_done (by kernel_rfl) ?_ _
    go_wp2
    go_ret
    exact ⟨rfl, H2.out.2.1⟩
set_option maxRecDepth 100000 in
set_option maxHeartbeats 8000000 in
theorem offer_old (Z : Nat → Prop) (f : Nat) (d : FdD) (r : FdR) (us es : List Value) (v : Value) (s : SgD) (now : Int) (hsp : d.p.log.length ≤ 1000000000) (hr : s.ck.root.length ≤ 100000000) (hs : SmallSig s.sig) (w : World) (hok : FdOk Z w f d r us es) (hv : SgV w v s) (hver : ckVerB d.p.log s = true) (hhas : d.has = true) (hle : s.ck.num ≤ d.cur.ck.num) :
    Calls Tryz.prog 11 #[.pointer (some ⟨f, 0, none⟩), v, .int .i64 now] w fun e w' => e = .returned (.bool false) ∧ Below w.heap.size w w' := by
  have HVR := Lib.hid hver
  have HHA := Lib.hid hhas
  clear hver hhas
  obtain ⟨rt, p, q, rfl, h0, h1, h2⟩ := hv
  obtain ⟨R, cr, rfl⟩ := h0.form
  obtain ⟨P, cp, rfl⟩ := h1.form
  obtain ⟨Q, cq, rfl⟩ := h2.form
  obtain ⟨PA, pc, hpl⟩ := hok.tx.pl.1.form
  have HPL := Lib.hid hpl
  have HVF := Lib.hid (fun (wz : World) (vp v : Value) (z1 : Bys wz vp d.p.log) (z3 : SgV wz v s) => pckverify_any vp v d.p.log s (show d.p.log.length ≤ 1000000000 from hsp) hr hs wz z1 z3)
  have HX := Lib.hid (And.intro h0 (And.intro h1 h2))
  have HS := Lib.hid (And.intro hr hs)
  have HO := Lib.hid hok
  clear h0 h1 h2 hr hs hok hpl
  obtain ⟨⟨num, root⟩, ⟨ix, Ps, Qs⟩⟩ := s
  have hk0 := Blk.new w 40 [.int .i64 num, .slice R root.length cr, .int .i64 ix, .slice P Ps.length cp, .slice Q Qs.length cq]
  have hb0 := (Below.refl w.heap.size w).alloc (Nat.le_refl _) (.cells (List.toArray [.int .i64 num, .slice R root.length cr, .int .i64 ix, .slice P Ps.length cp, .slice Q Qs.length cq]) 40)
  have HW := Lib.hid (And.intro hk0 hb0)
  clear hk0 hb0
  go_enter Tryz.func11, Tryz.ntmps11
  go_wp2
  refine code_at (fun w1 => Blk w1 w.heap.size 40 [.int .i64 num, .slice R root.length cr, .int .i64 ix, .slice P Ps.length cp, .slice Q Qs.length cq] ∧ Below w.heap.size w w1) HW.out ?_
  rintro w1 ⟨k0, kb⟩
  have H1 := Lib.hid (And.intro k0 (And.intro kb (HO.out.below kb)))
  have hsz1 := k0.lt
  have c0 := k0.cell 0 _ rfl
  have c1 := k0.cell 1 _ rfl
  have c2 := k0.cell 2 _ rfl
  have c3 := k0.cell 3 _ rfl
  have c4 := k0.cell 4 _ rfl
  have kf := H1.out.2.2.blk
  have hfl := kf.lt
  have hfw := HO.out.blk.lt
  have f0 : w1.cell? ⟨f, 0, none⟩ = some (.slice PA d.p.log.length pc) := by rw [← HPL.out]; exact kf.cell 0 _ rfl
  have f6 : w1.cell? ⟨f, 6, none⟩ = some (.int .i64 d.cur.ck.num) := kf.cell 6 _ rfl
  have f11 : w1.cell? ⟨f, 11, none⟩ = some (.bool d.has) := kf.cell 11 _ rfl
  clear k0 kb kf HW
  generalize hCN : d.cur.ck.num = CN at *
  generalize hHA : d.has = HA at *
  have HE := Lib.hid (And.intro hCN hHA)
  clear hCN hHA
  cases HA with
  | false =>
    exact absurd HHA.out (by decide)
  | true =>
    refine wp_region_held_drew (S := fun w' => w'.cell? ⟨w.heap.size, 0, none⟩ = some (.int .i64 num) ∧ w'.cell? ⟨w.heap.size, 1, none⟩ = some (.slice R root.length cr) ∧ w'.cell? ⟨w.heap.size, 2, none⟩ = some (.int .i64 ix) ∧ w'.cell? ⟨w.heap.size, 3, none⟩ = some (.slice P Ps.length cp) ∧ w'.cell? ⟨w.heap.size, 4, none⟩ = some (.slice Q Qs.length cq) ∧ w'.cell? ⟨f, 0, none⟩ = some (.slice PA d.p.log.length pc) ∧ w'.cell? ⟨f, 6, none⟩ = some (.int .i64 CN) ∧ w'.cell? ⟨f, 11, none⟩ = some (.bool true)) (by kernel_rfl) ?_ (fun hHeld => ?_)
    · exact ⟨c0, c1, c2, c3, c4, f0, f6, f11⟩
    refine take_yes 0 8 rfl rfl (by kernel_rfl) (by kernel_rfl) (by kernel_rfl) (fun _ _ _ h => h) (by assumption) (by rfl) (v := ?_) ?_ ?_
    rotate_left 1
    · (intro w hSw; (try dsimp only at hSw); go_simp; try with_reducible rfl)
    simp only [List.setIfInBounds_toArray, List.set_cons_zero, List.set_cons_succ]
    refine take_yes 1 9 rfl rfl (by kernel_rfl) (by kernel_rfl) (by kernel_rfl) (fun _ _ _ h => h) (by assumption) (by rfl) (v := ?_) ?_ ?_
    rotate_left 1
    · (intro w hSw; (try dsimp only at hSw); go_simp; try with_reducible rfl)
    simp only [List.setIfInBounds_toArray, List.set_cons_zero, List.set_cons_succ]
    refine take_yes 2 10 rfl rfl (by kernel_rfl) (by kernel_rfl) (by kernel_rfl) (fun _ _ _ h => h) (by assumption) (by rfl) (v := ?_) ?_ ?_
    rotate_left 1
    · (intro w hSw; (try dsimp only at hSw); go_simp; try with_reducible rfl)
    simp only [List.setIfInBounds_toArray, List.set_cons_zero, List.set_cons_succ]
    refine take_yes 3 11 rfl rfl (by kernel_rfl) (by kernel_rfl) (by kernel_rfl) (fun _ _ _ h => h) (by assumption) (by rfl) (v := ?_) ?_ ?_
    rotate_left 1
    · (intro w hSw; (try dsimp only at hSw); go_simp; try with_reducible rfl)
    simp only [List.setIfInBounds_toArray, List.set_cons_zero, List.set_cons_succ]
    refine take_yes 4 12 rfl rfl (by kernel_rfl) (by kernel_rfl) (by kernel_rfl) (fun _ _ _ h => h) (by assumption) (by rfl) (v := ?_) ?_ ?_
    rotate_left 1
    · (intro w hSw; (try dsimp only at hSw); go_simp; try with_reducible rfl)
    simp only [List.setIfInBounds_toArray, List.set_cons_zero, List.set_cons_succ]
    refine take_yes 5 13 rfl rfl (by kernel_rfl) (by kernel_rfl) (by kernel_rfl) (fun _ _ _ h => h) (by assumption) (by rfl) (v := ?_) ?_ ?_
    rotate_left 1
    · (intro w hSw; (try dsimp only at hSw); go_simp; try with_reducible rfl)
    simp only [List.setIfInBounds_toArray, List.set_cons_zero, List.set_cons_succ]
    refine wpAnyH_ready (rs := [6]) (by kernel_rfl) (by simp) ?_
    refine AllReadyH.cons rfl (fun K hK => ?_) AllReadyH.nil
    -- 6:  dst := some 14, op := Op.call  callee := Callee.value (Operand.func 33), args := #[Operand.tmp 12, Operand.tmp 13], argTypes :=
    go_simp
    go_at_call 27
    refine (HVF.out w1.drew _ _ (by rw [← HPL.out]; exact (H1.out.2.2.tx.pl.1.below (Below.refl _ _).drew)) ⟨_, _, _, rfl, HX.out.1.below H1.out.2.1.drew, HX.out.2.1.below H1.out.2.1.drew, HX.out.2.2.below H1.out.2.1.drew⟩).mono ?_
    rw [HVR.out]
    rintro e w2 ⟨rfl, h2⟩
    have hb2 : Below w1.heap.size w1 w2 := ⟨h2.os, h2.tape, h2.output, h2.size, h2.block⟩
    have k0 := H1.out.1.below hb2
    have kf := H1.out.2.2.blk.below hb2
    have e0 := k0.cell 0 _ rfl
    have e1 := k0.cell 1 _ rfl
    have e2 := k0.cell 2 _ rfl
    have e3 := k0.cell 3 _ rfl
    have e4 := k0.cell 4 _ rfl
    have g0 : w2.cell? ⟨f, 0, none⟩ = some (.slice PA d.p.log.length pc) := by rw [← HPL.out]; exact kf.cell 0 _ rfl
    have g6 : w2.cell? ⟨f, 6, none⟩ = some (.int .i64 CN) := by rw [← HE.out.1]; exact kf.cell 6 _ rfl
    have g11 : w2.cell? ⟨f, 11, none⟩ = some (.bool true) := by rw [← HE.out.2]; exact kf.cell 11 _ rfl
    have hfl2 := kf.lt
    have H2 := Lib.hid (And.intro k0 (And.intro (H1.out.2.1.trans (hb2.mono H1.out.2.1.size)) (H1.out.2.2.below hb2)))
    clear h2 hb2 k0 kf
    go_wp2_with fail
    refine hK.out _ _ ⟨e0, e1, e2, e3, e4, g0, g6, g11⟩ (fun hHeld6 => ?_)
    clear hK K
    try simp only [Act.put, List.setIfInBounds_toArray, List.set_cons_zero, List.set_cons_succ]
    refine take_yes 7 15 rfl rfl (by kernel_rfl) (by kernel_rfl) (by kernel_rfl) (fun _ _ _ h => h) (by assumption) (by rfl) (v := ?_) ?_ ?_
    rotate_left 1
    · (intro w hSw; (try dsimp only at hSw); go_simp; try with_reducible rfl)
    simp only [List.setIfInBounds_toArray, List.set_cons_zero, List.set_cons_succ]
    refine take_yes 8 16 rfl rfl (by kernel_rfl) (by kernel_rfl) (by kernel_rfl) (fun _ _ _ h => h) (by assumption) (by rfl) (v := ?_) ?_ ?_
    rotate_left 1
    · (intro w hSw; (try dsimp only at hSw); go_simp; try with_reducible rfl)
    simp only [List.setIfInBounds_toArray, List.set_cons_zero, List.set_cons_succ]
    refine take_yes 9 17 rfl rfl (by kernel_rfl) (by kernel_rfl) (by kernel_rfl) (fun _ _ _ h => h) (by assumption) (by rfl) (v := ?_) ?_ ?_
    rotate_left 1
    · (intro w hSw; (try dsimp only at hSw); go_simp; try with_reducible rfl)
    simp only [List.setIfInBounds_toArray, List.set_cons_zero, List.set_cons_succ]
    refine take_yes 10 18 rfl rfl (by kernel_rfl) (by kernel_rfl) (by kernel_rfl) (fun _ _ _ h => h) (by assumption) (by rfl) (v := ?_) ?_ ?_
    rotate_left 1
    · (intro w hSw; (try dsimp only at hSw); go_simp; try with_reducible rfl)
    simp only [List.setIfInBounds_toArray, List.set_cons_zero, List.set_cons_succ]
    refine take_yes 11 19 rfl rfl (by kernel_rfl) (by kernel_rfl) (by kernel_rfl) (fun _ _ _ h => h) (by assumption) (by rfl) (v := ?_) ?_ ?_
    rotate_left 1
    · (intro w hSw; (try dsimp only at hSw); go_simp; try with_reducible rfl)
    simp only [List.setIfInBounds_toArray, List.set_cons_zero, List.set_cons_succ]
    refine take_yes 12 20 rfl rfl (by kernel_rfl) (by kernel_rfl) (by kernel_rfl) (fun _ _ _ h => h) (by assumption) (by rfl) (v := ?_) ?_ ?_
    rotate_left 1
    · (intro w hSw; (try dsimp only at hSw); go_simp; try with_reducible rfl)
    simp only [List.setIfInBounds_toArray, List.set_cons_zero, List.set_cons_succ]
    refine take_yes 13 21 rfl rfl (by kernel_rfl) (by kernel_rfl) (by kernel_rfl) (fun _ _ _ h => h) (by assumption) (by rfl) (v := ?_) ?_ ?_
    rotate_left 1
    · (intro w hSw; (try dsimp only at hSw); go_simp; try with_reducible rfl)
    simp only [List.setIfInBounds_toArray, List.set_cons_zero, List.set_cons_succ]
    refine take_yes 14 22 rfl rfl (by kernel_rfl) (by kernel_rfl) (by kernel_rfl) (fun _ _ _ h => h) (by assumption) (by rfl) (v := ?_) ?_ ?_
    rotate_left 1
    · (intro w hSw; (try dsimp only at hSw); go_simp; try with_reducible rfl)
    simp only [List.setIfInBounds_toArray, List.set_cons_zero, List.set_cons_succ]
    refine take_yes 15 23 rfl rfl (by kernel_rfl) (by kernel_rfl) (by kernel_rfl) (fun _ _ _ h => h) (by assumption) (by rfl) (v := ?_) ?_ ?_
    rotate_left 1
    · (intro w hSw; (try dsimp only at hSw); go_simp; try with_reducible rfl)
    simp only [List.setIfInBounds_toArray, List.set_cons_zero, List.set_cons_succ]
    refine take_yes 16 24 rfl rfl (by kernel_rfl) (by kernel_rfl) (by kernel_rfl) (fun _ _ _ h => h) (by assumption) (by rfl) (v := ?_) ?_ ?_
    rotate_left 1
    · (intro w hSw; (try dsimp only at hSw); go_simp; try with_reducible rfl)
    simp only [List.setIfInBounds_toArray, List.set_cons_zero, List.set_cons_succ]
    refine take_yes 17 25 rfl rfl (by kernel_rfl) (by kernel_rfl) (by kernel_rfl) (fun _ _ _ h => h) (by assumption) (by rfl) (v := ?_) ?_ ?_
    rotate_left 1
    · (intro w hSw; (try dsimp only at hSw); go_simp; try with_reducible rfl)
    simp only [List.setIfInBounds_toArray, List.set_cons_zero, List.set_cons_succ]
    refine take_yes 18 26 rfl rfl (by kernel_rfl) (by kernel_rfl) (by kernel_rfl) (fun _ _ _ h => h) (by assumption) (by rfl) (v := ?_) ?_ ?_
    rotate_left 1
    · (intro w hSw; (try dsimp only at hSw); go_simp; try with_reducible rfl)
    simp only [List.setIfInBounds_toArray, List.set_cons_zero, List.set_cons_succ]
    refine take_yes 19 27 rfl rfl (by kernel_rfl) (by kernel_rfl) (by kernel_rfl) (fun _ _ _ h => h) (by assumption) (by rfl) (v := ?_) ?_ ?_
    rotate_left 1
    · (intro w hSw; (try dsimp only at hSw); go_simp; try with_reducible rfl)
    simp only [List.setIfInBounds_toArray, List.set_cons_zero, List.set_cons_succ]
    refine take_yes 20 28 rfl rfl (by kernel_rfl) (by kernel_rfl) (by kernel_rfl) (fun _ _ _ h => h) (by assumption) (by rfl) (v := ?_) ?_ ?_
    rotate_left 1
    · (intro w hSw; (try dsimp only at hSw); go_simp; try with_reducible rfl)
    simp only [List.setIfInBounds_toArray, List.set_cons_zero, List.set_cons_succ]
    refine take_yes 21 29 rfl rfl (by kernel_rfl) (by kernel_rfl) (by kernel_rfl) (fun _ _ _ h => h) (by assumption) (by rfl) (v := ?_) ?_ ?_
    rotate_left 1
    · (intro w hSw; (try dsimp only at hSw); go_simp; try with_reducible rfl)
    simp only [List.setIfInBounds_toArray, List.set_cons_zero, List.set_cons_succ]
    refine take_yes 22 30 rfl rfl (by kernel_rfl) (by kernel_rfl) (by kernel_rfl) (fun _ _ _ h => h) (by assumption) (by rfl) (v := ?_) ?_ ?_
    rotate_left 1
    · (intro w hSw; (try dsimp only at hSw); go_simp; try with_reducible rfl)
    simp only [List.setIfInBounds_toArray, List.set_cons_zero, List.set_cons_succ]
    refine take_yes 23 31 rfl rfl (by kernel_rfl) (by kernel_rfl) (by kernel_rfl) (fun _ _ _ h => h) (by assumption) (by rfl) (v := ?_) ?_ ?_
    rotate_left 1
    · (intro w hSw; (try dsimp only at hSw); go_simp; try with_reducible rfl)
    simp only [List.setIfInBounds_toArray, List.set_cons_zero, List.set_cons_succ]
    refine take_yes 24 32 rfl rfl (by kernel_rfl) (by kernel_rfl) (by kernel_rfl) (fun _ _ _ h => h) (by assumption) (by rfl) (v := ?_) ?_ ?_
    rotate_left 1
    · (intro w hSw; (try dsimp only at hSw); go_simp; try with_reducible rfl)
    simp only [List.setIfInBounds_toArray, List.set_cons_zero, List.set_cons_succ]
    refine take_yes 25 33 rfl rfl (by kernel_rfl) (by kernel_rfl) (by kernel_rfl) (fun _ _ _ h => h) (by assumption) (by rfl) (v := ?_) ?_ ?_
    rotate_left 1
    · (intro w hSw; (try dsimp only at hSw); go_simp; try with_reducible rfl)
    simp only [List.setIfInBounds_toArray, List.set_cons_zero, List.set_cons_succ]
    refine wpAnyH_done (by kernel_rfl) ?_ _
    go_wp2
    go_ret
    exact ⟨rfl, H2.out.2.1⟩
theorem offer_no (Z : Nat → Prop) (f : Nat) (d : FdD) (r : FdR) (us es : List Value) (v : Value) (s : SgD) (now : Int) (hsp : d.p.log.length ≤ 1000000000) (hr : s.ck.root.length ≤ 100000000) (hs : SmallSig s.sig) (w : World) (hok : FdOk Z w f d r us es) (hv : SgV w v s) (hno : offB d s = false) :
    Calls Tryz.prog 11 #[.pointer (some ⟨f, 0, none⟩), v, .int .i64 now] w fun e w' => e = .returned (.bool false) ∧ Below w.heap.size w w' := by
  cases hver : ckVerB d.p.log s with
  | false => exact offer_nv Z f d r us es v s now hsp hr hs w hok hv hver
  | true =>
    simp only [offB, hver, Bool.true_and, Bool.not_eq_false', Bool.and_eq_true, decide_eq_true_eq] at hno
    exact offer_old Z f d r us es v s now hsp hr hs w hok hv hver hno.1 hno.2
/-- Behind an offer that is taken. -/
def OffPost (Z : Nat → Prop) (w : World) (f : Nat) (d : FdD) (s : SgD) (now : Int) (e : Ending) (w' : World) : Prop := e = .returned (.bool true) ∧ FdAt (Wide Z w w') w' f (offD d s now) ∧ Chg w w' Z
set_option maxRecDepth 100000 in
set_option maxHeartbeats 8000000 in
theorem offer_yes (Z : Nat → Prop) (f : Nat) (d : FdD) (r : FdR) (us es : List Value) (v : Value) (s : SgD) (now : Int) (hsp : d.p.log.length ≤ 1000000000) (hr : s.ck.root.length ≤ 100000000) (hs : SmallSig s.sig) (w : World) (hok : FdOk Z w f d r us es) (hv : SgV w v s) (hver : ckVerB d.p.log s = true) (hnew : d.has = true → d.cur.ck.num < s.ck.num) (hm : d.m.length ≤ 1000000) (ho : d.ord ≤ 100000000) (hl : d.l.length ≤ 1000) (hZ : ∀ g, Z g → g < w.heap.size) :
    Calls Tryz.prog 11 #[.pointer (some ⟨f, 0, none⟩), v, .int .i64 now] w (OffPost Z w f d s now) := by
  have HVR := Lib.hid hver
  have HNW := Lib.hid hnew
  have HZ := Lib.hid hZ
  clear hver hnew hZ
  obtain ⟨rt, p, q, rfl, h0, h1, h2⟩ := hv
  obtain ⟨R, cr, rfl⟩ := h0.form
  obtain ⟨P, cp, rfl⟩ := h1.form
  obtain ⟨Q, cq, rfl⟩ := h2.form
  obtain ⟨PA, pc, hpl⟩ := hok.tx.pl.1.form
  have HPL := Lib.hid hpl
  have HVF := Lib.hid (fun (wz : World) (vp v : Value) (z1 : Bys wz vp d.p.log) (z3 : SgV wz v s) => pckverify_any vp v d.p.log s (show d.p.log.length ≤ 1000000000 from hsp) hr hs wz z1 z3)
  have HX := Lib.hid (And.intro h0 (And.intro h1 h2))
  have HS := Lib.hid (And.intro hr hs)
  have HO := Lib.hid hok
  clear h0 h1 h2 hr hs hok hpl
  obtain ⟨⟨num, root⟩, ⟨ix, Ps, Qs⟩⟩ := s
  have hk0 := Blk.new w 40 [.int .i64 num, .slice R root.length cr, .int .i64 ix, .slice P Ps.length cp, .slice Q Qs.length cq]
  have hb0 := (Below.refl w.heap.size w).alloc (Nat.le_refl _) (.cells (List.toArray [.int .i64 num, .slice R root.length cr, .int .i64 ix, .slice P Ps.length cp, .slice Q Qs.length cq]) 40)
  have HW := Lib.hid (And.intro hk0 hb0)
  clear hk0 hb0
  go_enter Tryz.func11, Tryz.ntmps11
  go_wp2
  refine code_at (fun w1 => Blk w1 w.heap.size 40 [.int .i64 num, .slice R root.length cr, .int .i64 ix, .slice P Ps.length cp, .slice Q Qs.length cq] ∧ Below w.heap.size w w1) HW.out ?_
  rintro w1 ⟨k0, kb⟩
  have H1 := Lib.hid (And.intro k0 (And.intro kb (HO.out.below kb)))
  have hsz1 := k0.lt
  have c0 := k0.cell 0 _ rfl
  have c1 := k0.cell 1 _ rfl
  have c2 := k0.cell 2 _ rfl
  have c3 := k0.cell 3 _ rfl
  have c4 := k0.cell 4 _ rfl
  have kf := H1.out.2.2.blk
  have hfl := kf.lt
  have hfw := HO.out.blk.lt
  have f0 : w1.cell? ⟨f, 0, none⟩ = some (.slice PA d.p.log.length pc) := by rw [← HPL.out]; exact kf.cell 0 _ rfl
  have f6 : w1.cell? ⟨f, 6, none⟩ = some (.int .i64 d.cur.ck.num) := kf.cell 6 _ rfl
  have f11 : w1.cell? ⟨f, 11, none⟩ = some (.bool d.has) := kf.cell 11 _ rfl
  clear k0 kb kf HW
  generalize hCN : d.cur.ck.num = CN at *
  generalize hHA : d.has = HA at *
  have HE := Lib.hid (And.intro hCN hHA)
  clear hCN hHA
  cases HA with
  | false =>
    refine wp_region_held_drew (S := fun w' => w'.cell? ⟨w.heap.size, 0, none⟩ = some (.int .i64 num) ∧ w'.cell? ⟨w.heap.size, 1, none⟩ = some (.slice R root.length cr) ∧ w'.cell? ⟨w.heap.size, 2, none⟩ = some (.int .i64 ix) ∧ w'.cell? ⟨w.heap.size, 3, none⟩ = some (.slice P Ps.length cp) ∧ w'.cell? ⟨w.heap.size, 4, none⟩ = some (.slice Q Qs.length cq) ∧ w'.cell? ⟨f, 0, none⟩ = some (.slice PA d.p.log.length pc) ∧ w'.cell? ⟨f, 6, none⟩ = some (.int .i64 CN) ∧ w'.cell? ⟨f, 11, none⟩ = some (.bool false)) (by kernel_rfl) ?_ (fun hHeld => ?_)
    · exact ⟨c0, c1, c2, c3, c4, f0, f6, f11⟩
    refine take_yes 0 8 rfl rfl (by kernel_rfl) (by kernel_rfl) (by kernel_rfl) (fun _ _ _ h => h) (by assumption) (by rfl) (v := ?_) ?_ ?_
    rotate_left 1
    · (intro w hSw; (try dsimp only at hSw); go_simp; try with_reducible rfl)
    simp only [List.setIfInBounds_toArray, List.set_cons_zero, List.set_cons_succ]
    refine take_yes 1 9 rfl rfl (by kernel_rfl) (by kernel_rfl) (by kernel_rfl) (fun _ _ _ h => h) (by assumption) (by rfl) (v := ?_) ?_ ?_
    rotate_left 1
    · (intro w hSw; (try dsimp only at hSw); go_simp; try with_reducible rfl)
    simp only [List.setIfInBounds_toArray, List.set_cons_zero, List.set_cons_succ]
    refine take_yes 2 10 rfl rfl (by kernel_rfl) (by kernel_rfl) (by kernel_rfl) (fun _ _ _ h => h) (by assumption) (by rfl) (v := ?_) ?_ ?_
    rotate_left 1
    · (intro w hSw; (try dsimp only at hSw); go_simp; try with_reducible rfl)
    simp only [List.setIfInBounds_toArray, List.set_cons_zero, List.set_cons_succ]
    refine take_yes 3 11 rfl rfl (by kernel_rfl) (by kernel_rfl) (by kernel_rfl) (fun _ _ _ h => h) (by assumption) (by rfl) (v := ?_) ?_ ?_
    rotate_left 1
    · (intro w hSw; (try dsimp only at hSw); go_simp; try with_reducible rfl)
    simp only [List.setIfInBounds_toArray, List.set_cons_zero, List.set_cons_succ]
    refine take_yes 4 12 rfl rfl (by kernel_rfl) (by kernel_rfl) (by kernel_rfl) (fun _ _ _ h => h) (by assumption) (by rfl) (v := ?_) ?_ ?_
    rotate_left 1
    · (intro w hSw; (try dsimp only at hSw); go_simp; try with_reducible rfl)
    simp only [List.setIfInBounds_toArray, List.set_cons_zero, List.set_cons_succ]
    refine take_yes 5 13 rfl rfl (by kernel_rfl) (by kernel_rfl) (by kernel_rfl) (fun _ _ _ h => h) (by assumption) (by rfl) (v := ?_) ?_ ?_
    rotate_left 1
    · (intro w hSw; (try dsimp only at hSw); go_simp; try with_reducible rfl)
    simp only [List.setIfInBounds_toArray, List.set_cons_zero, List.set_cons_succ]
    refine wpAnyH_ready (rs := [6]) (by kernel_rfl) (by simp) ?_
    refine AllReadyH.cons rfl (fun K hK => ?_) AllReadyH.nil
    -- 6:  dst := some 14, op := Op.call  callee := Callee.value (Operand.func 33), args := #[Operand.tmp 12, Operand.tmp 13], argTypes :=
    go_simp
    go_at_call 27
    refine (HVF.out w1.drew _ _ (by rw [← HPL.out]; exact (H1.out.2.2.tx.pl.1.below (Below.refl _ _).drew)) ⟨_, _, _, rfl, HX.out.1.below H1.out.2.1.drew, HX.out.2.1.below H1.out.2.1.drew, HX.out.2.2.below H1.out.2.1.drew⟩).mono ?_
    rw [HVR.out]
    rintro e w2 ⟨rfl, h2⟩
    have hb2 : Below w1.heap.size w1 w2 := ⟨h2.os, h2.tape, h2.output, h2.size, h2.block⟩
    have k0 := H1.out.1.below hb2
    have kf := H1.out.2.2.blk.below hb2
    have e0 := k0.cell 0 _ rfl
    have e1 := k0.cell 1 _ rfl
    have e2 := k0.cell 2 _ rfl
    have e3 := k0.cell 3 _ rfl
    have e4 := k0.cell 4 _ rfl
    have g0 : w2.cell? ⟨f, 0, none⟩ = some (.slice PA d.p.log.length pc) := by rw [← HPL.out]; exact kf.cell 0 _ rfl
    have g6 : w2.cell? ⟨f, 6, none⟩ = some (.int .i64 CN) := by rw [← HE.out.1]; exact kf.cell 6 _ rfl
    have g11 : w2.cell? ⟨f, 11, none⟩ = some (.bool false) := by rw [← HE.out.2]; exact kf.cell 11 _ rfl
    have hfl2 := kf.lt
    have H2 := Lib.hid (And.intro k0 (And.intro (H1.out.2.1.trans (hb2.mono H1.out.2.1.size)) (H1.out.2.2.below hb2)))
    clear h2 hb2 k0 kf
    go_wp2_with fail
    refine hK.out _ _ ⟨e0, e1, e2, e3, e4, g0, g6, g11⟩ (fun hHeld6 => ?_)
    clear hK K
    try simp only [Act.put, List.setIfInBounds_toArray, List.set_cons_zero, List.set_cons_succ]
    refine take_yes 7 15 rfl rfl (by kernel_rfl) (by kernel_rfl) (by kernel_rfl) (fun _ _ _ h => h) (by assumption) (by rfl) (v := ?_) ?_ ?_
    rotate_left 1
    · (intro w hSw; (try dsimp only at hSw); go_simp; try with_reducible rfl)
    simp only [List.setIfInBounds_toArray, List.set_cons_zero, List.set_cons_succ]
    refine take_yes 8 16 rfl rfl (by kernel_rfl) (by kernel_rfl) (by kernel_rfl) (fun _ _ _ h => h) (by assumption) (by rfl) (v := ?_) ?_ ?_
    rotate_left 1
    · (intro w hSw; (try dsimp only at hSw); go_simp; try with_reducible rfl)
    simp only [List.setIfInBounds_toArray, List.set_cons_zero, List.set_cons_succ]
    refine take_yes 9 17 rfl rfl (by kernel_rfl) (by kernel_rfl) (by kernel_rfl) (fun _ _ _ h => h) (by assumption) (by rfl) (v := ?_) ?_ ?_
    rotate_left 1
    · (intro w hSw; (try dsimp only at hSw); go_simp; try with_reducible rfl)
    simp only [List.setIfInBounds_toArray, List.set_cons_zero, List.set_cons_succ]
    refine take_yes 10 18 rfl rfl (by kernel_rfl) (by kernel_rfl) (by kernel_rfl) (fun _ _ _ h => h) (by assumption) (by rfl) (v := ?_) ?_ ?_
    rotate_left 1
    · (intro w hSw; (try dsimp only at hSw); go_simp; try with_reducible rfl)
    simp only [List.setIfInBounds_toArray, List.set_cons_zero, List.set_cons_succ]
    refine take_yes 11 19 rfl rfl (by kernel_rfl) (by kernel_rfl) (by kernel_rfl) (fun _ _ _ h => h) (by assumption) (by rfl) (v := ?_) ?_ ?_
    rotate_left 1
    · (intro w hSw; (try dsimp only at hSw); go_simp; try with_reducible rfl)
    simp only [List.setIfInBounds_toArray, List.set_cons_zero, List.set_cons_succ]
    refine take_yes 12 20 rfl rfl (by kernel_rfl) (by kernel_rfl) (by kernel_rfl) (fun _ _ _ h => h) (by assumption) (by rfl) (v := ?_) ?_ ?_
    rotate_left 1
    · (intro w hSw; (try dsimp only at hSw); go_simp; try with_reducible rfl)
    simp only [List.setIfInBounds_toArray, List.set_cons_zero, List.set_cons_succ]
    refine take_yes 13 21 rfl rfl (by kernel_rfl) (by kernel_rfl) (by kernel_rfl) (fun _ _ _ h => h) (by assumption) (by rfl) (v := ?_) ?_ ?_
    rotate_left 1
    · (intro w hSw; (try dsimp only at hSw); go_simp; try with_reducible rfl)
    simp only [List.setIfInBounds_toArray, List.set_cons_zero, List.set_cons_succ]
    refine take_no 14 22 rfl rfl (by kernel_rfl) (by kernel_rfl) (by kernel_rfl) (fun _ _ _ h => h) (by assumption) (by rfl) ?_
    simp only [List.setIfInBounds_toArray, List.set_cons_zero, List.set_cons_succ]
    refine take_no 15 23 rfl rfl (by kernel_rfl) (by kernel_rfl) (by kernel_rfl) (fun _ _ _ h => h) (by assumption) (by rfl) ?_
    simp only [List.setIfInBounds_toArray, List.set_cons_zero, List.set_cons_succ]
    refine take_no 16 24 rfl rfl (by kernel_rfl) (by kernel_rfl) (by kernel_rfl) (fun _ _ _ h => h) (by assumption) (by rfl) ?_
    simp only [List.setIfInBounds_toArray, List.set_cons_zero, List.set_cons_succ]
    refine take_no 17 25 rfl rfl (by kernel_rfl) (by kernel_rfl) (by kernel_rfl) (fun _ _ _ h => h) (by assumption) (by rfl) ?_
    simp only [List.setIfInBounds_toArray, List.set_cons_zero, List.set_cons_succ]
    refine take_no 18 26 rfl rfl (by kernel_rfl) (by kernel_rfl) (by kernel_rfl) (fun _ _ _ h => h) (by assumption) (by rfl) ?_
    simp only [List.setIfInBounds_toArray, List.set_cons_zero, List.set_cons_succ]
    refine take_no 19 27 rfl rfl (by kernel_rfl) (by kernel_rfl) (by kernel_rfl) (fun _ _ _ h => h) (by assumption) (by rfl) ?_
    simp only [List.setIfInBounds_toArray, List.set_cons_zero, List.set_cons_succ]
    refine take_no 20 28 rfl rfl (by kernel_rfl) (by kernel_rfl) (by kernel_rfl) (fun _ _ _ h => h) (by assumption) (by rfl) ?_
    simp only [List.setIfInBounds_toArray, List.set_cons_zero, List.set_cons_succ]
    refine take_no 21 29 rfl rfl (by kernel_rfl) (by kernel_rfl) (by kernel_rfl) (fun _ _ _ h => h) (by assumption) (by rfl) ?_
    simp only [List.setIfInBounds_toArray, List.set_cons_zero, List.set_cons_succ]
    refine take_no 22 30 rfl rfl (by kernel_rfl) (by kernel_rfl) (by kernel_rfl) (fun _ _ _ h => h) (by assumption) (by rfl) ?_
    simp only [List.setIfInBounds_toArray, List.set_cons_zero, List.set_cons_succ]
    refine take_no 23 31 rfl rfl (by kernel_rfl) (by kernel_rfl) (by kernel_rfl) (fun _ _ _ h => h) (by assumption) (by rfl) ?_
    simp only [List.setIfInBounds_toArray, List.set_cons_zero, List.set_cons_succ]
    refine take_yes 24 32 rfl rfl (by kernel_rfl) (by kernel_rfl) (by kernel_rfl) (fun _ _ _ h => h) (by assumption) (by rfl) (v := ?_) ?_ ?_
    rotate_left 1
    · (intro w hSw; (try dsimp only at hSw); go_simp; try with_reducible rfl)
    simp only [List.setIfInBounds_toArray, List.set_cons_zero, List.set_cons_succ]
    refine take_yes 25 33 rfl rfl (by kernel_rfl) (by kernel_rfl) (by kernel_rfl) (fun _ _ _ h => h) (by assumption) (by rfl) (v := ?_) ?_ ?_
    rotate_left 1
    · (intro w hSw; (try dsimp only at hSw); go_simp; try with_reducible rfl)
    simp only [List.setIfInBounds_toArray, List.set_cons_zero, List.set_cons_succ]
    refine wpAnyH_done (by kernel_rfl) ?_ _
    clear hHeld hHeld6 c0 c1 c2 c3 c4 f0 f6 f11 e0 e1 e2 e3 e4 g0 g6 g11
    have k0 := H2.out.1
    have e0 := k0.cell 0 _ rfl
    have e1 := k0.cell 1 _ rfl
    have e2 := k0.cell 2 _ rfl
    have e3 := k0.cell 3 _ rfl
    have e4 := k0.cell 4 _ rfl
    clear k0
    go_wp2_with fail
    refine (ckcopy_any _ ⟨⟨num, root⟩, ⟨ix, Ps, Qs⟩⟩ HS.out.1 HS.out.2 w2 ⟨_, _, _, rfl, HX.out.1.below H2.out.2.1, HX.out.2.1.below H2.out.2.1, HX.out.2.2.below H2.out.2.1⟩).mono ?_
    rintro e w3 ⟨v3, rfl, ⟨r3, p3, q3, rfl, h3, h4, h5⟩, h6⟩
    obtain ⟨A3, n3, rfl⟩ := h3.1.form
    obtain ⟨A4, n4, rfl⟩ := h4.rws.form
    obtain ⟨A5, n5, rfl⟩ := h5.rws.form
    have hb3 := H2.out.2.1.trans (h6.mono H2.out.2.1.size)
    have hk3 := H2.out.2.2.below h6
    have H3 := Lib.hid (And.intro (h3.mono (fun g hg => hg.wide (w0 := w) (w1 := w3) H2.out.2.1.size (Nat.le_refl _))) (And.intro (h4.mono (fun g hg => hg.wide (w0 := w) (w1 := w3) H2.out.2.1.size (Nat.le_refl _))) (And.intro (h5.mono (fun g hg => hg.wide (w0 := w) (w1 := w3) H2.out.2.1.size (Nat.le_refl _))) (And.intro hb3 hk3))))
    have s6 := hk3.blk.cell 6 _ rfl
    have s7 := hk3.blk.cell 7 _ rfl
    have s8 := hk3.blk.cell 8 _ rfl
    have s9 := hk3.blk.cell 9 _ rfl
    have s10 := hk3.blk.cell 10 _ rfl
    have s11 := hk3.blk.cell 11 _ rfl
    have s12 := hk3.blk.cell 12 _ rfl
    have y6 := hk3.blk.free 6
    have y7 := hk3.blk.free 7
    have y8 := hk3.blk.free 8
    have y9 := hk3.blk.free 9
    have y10 := hk3.blk.free 10
    have y11 := hk3.blk.free 11
    have y12 := hk3.blk.free 12
    have r5 := cell5 hk3.blk
    have hfl3 := hk3.blk.lt
    clear h3 h4 h5 h6 hb3 hk3 e0 e1 e2 e3 e4
    go_wp2
    have hc : Chg w3 (((((((w3.setCell ⟨f, 6, none⟩ (.int .i64 num)).setCell ⟨f, 7, none⟩ (.slice A3 root.length n3)).setCell ⟨f, 8, none⟩ (.int .i64 ix)).setCell ⟨f, 9, none⟩ (.slice A4 Ps.length n4)).setCell ⟨f, 10, none⟩ (.slice A5 Qs.length n5)).setCell ⟨f, 11, none⟩ (.bool true)).setCell ⟨f, 12, none⟩ (.slice none 0 0)) (fun k => k = f) := chg_cell (chg_cell (chg_cell (chg_cell (chg_cell (chg_cell (chg_cell (Chg.refl w3 _) 6 _) 7 _) 8 _) 9 _) 10 _) 11 _) 12 _
    have hb : Blk (((((((w3.setCell ⟨f, 6, none⟩ (.int .i64 num)).setCell ⟨f, 7, none⟩ (.slice A3 root.length n3)).setCell ⟨f, 8, none⟩ (.int .i64 ix)).setCell ⟨f, 9, none⟩ (.slice A4 Ps.length n4)).setCell ⟨f, 10, none⟩ (.slice A5 Qs.length n5)).setCell ⟨f, 11, none⟩ (.bool true)).setCell ⟨f, 12, none⟩ (.slice none 0 0)) f 68 (fdCells (offI d ⟨⟨num, root⟩, ⟨ix, Ps, Qs⟩⟩ now 0) { r with kv := .slice none 0 0, cr := .slice A3 root.length n3, cp := .slice A4 Ps.length n4, cq := .slice A5 Qs.length n5 }) := ((((((H3.out.2.2.2.2.blk.set 6 _ (by simp [fdCells])).set 7 _ (by simp [fdCells])).set 8 _ (by simp [fdCells])).set 9 _ (by simp [fdCells])).set 10 _ (by simp [fdCells])).set 11 _ (by simp [fdCells])).set 12 _ (by simp [fdCells])
    have hof := H3.out.2.2.2.2.offer (w := w) H3.out.2.2.2.1.size ⟨⟨num, root⟩, ⟨ix, Ps, Qs⟩⟩ now H3.out.1 H3.out.2.1 H3.out.2.2.1 HZ.out hc hb
    have hchw : Chg w (((((((w3.setCell ⟨f, 6, none⟩ (.int .i64 num)).setCell ⟨f, 7, none⟩ (.slice A3 root.length n3)).setCell ⟨f, 8, none⟩ (.int .i64 ix)).setCell ⟨f, 9, none⟩ (.slice A4 Ps.length n4)).setCell ⟨f, 10, none⟩ (.slice A5 Qs.length n5)).setCell ⟨f, 11, none⟩ (.bool true)).setCell ⟨f, 12, none⟩ (.slice none 0 0)) Z := (Chg.of_below (S := Z) H3.out.2.2.2.1).trans hc (fun i _ e => by rw [show i = f from e]; exact HO.out.mz f (.inl rfl))
    generalize ((((((w3.setCell ⟨f, 6, none⟩ (.int .i64 num)).setCell ⟨f, 7, none⟩ (.slice A3 root.length n3)).setCell ⟨f, 8, none⟩ (.int .i64 ix)).setCell ⟨f, 9, none⟩ (.slice A4 Ps.length n4)).setCell ⟨f, 10, none⟩ (.slice A5 Qs.length n5)).setCell ⟨f, 11, none⟩ (.bool true)).setCell ⟨f, 12, none⟩ (.slice none 0 0) = W at *
    have HI0 : Hid (∃ Zi rr, FdOk Zi W f (offI d ⟨⟨num, root⟩, ⟨ix, Ps, Qs⟩⟩ now 0) rr [] es ∧ (∀ g, Zi g → Wide Z w W g) ∧ Chg w W Z) := Lib.hid ⟨_, _, hof, fun g hg => hg, hchw⟩
    clear hc hb hof hchw s6 s7 s8 s9 s10 s11 s12 y6 y7 y8 y9 y10 y11 y12 r5 hfl3
    go_loopw [50] (fun v50 wr => ∃ i : Nat, v50 = .int .i64 i ∧ i ≤ d.l.length ∧ Hid (∃ Zi rr, FdOk Zi wr f (offI d ⟨⟨num, root⟩, ⟨ix, Ps, Qs⟩⟩ now i) rr [] es ∧ (∀ g, Zi g → Wide Z w wr g) ∧ Chg w wr Z)) (fun v _ => d.l.length - (intOf v).toNat)
    case atStart => exact ⟨0, rfl, Nat.zero_le _, HI0⟩
    case round =>
      obtain ⟨i, rfl, hi, HJ⟩ := hrel
      clear HI0
      by_cases hlti : i < d.l.length
      · obtain ⟨Zi, rr, hJ1, hJ2, hJ3⟩ := HJ.out
        have r5 := cell5 hJ1.blk
        rw [show (offI d ⟨⟨num, root⟩, ⟨ix, Ps, Qs⟩⟩ now i).l.length = d.l.length from offL_length _ _] at r5
        have hw1 : wr.cell? ⟨rr.lb, i * 3 + 1, none⟩ = some (.int .i64 d.l[i].tries) := hJ1.wt.cell _ _ (by have := (cellsW_at (offL d.l i) i (by rw [offL_length]; exact hlti)).2.1; rw [offL_at d.l i hlti] at this; exact this)
        have hw2 : wr.cell? ⟨rr.lb, i * 3 + 2, none⟩ = some (.bool d.l[i].kept) := hJ1.wt.cell _ _ (by have := (cellsW_at (offL d.l i) i (by rw [offL_length]; exact hlti)).2.2; rw [offL_at d.l i hlti] at this; exact this)
        have hz1 := hJ1.wt.free (i * 3 + 1)
        have hz2 := hJ1.wt.free (i * 3 + 2)
        have hfr := hJ1.blk.lt
        have hlr := hJ1.wt.lt
        have hne : f ≠ rr.lb := hJ1.n1
        have HJ1 := Lib.hid (And.intro hJ1 (And.intro hJ2 hJ3))
        clear hJ1 hJ2 hJ3 HJ
        generalize hlb : rr.lb = lb at *
        have HLB := Lib.hid hlb
        clear hlb
        go_wp2
        refine wp_region_held_drew (S := fun w' => w'.cell? ⟨f, 5, none⟩ = some (.slice (some ⟨lb, 0, none⟩) d.l.length d.l.length)) (by kernel_rfl) ?_ (fun hHeld => ?_)
        · exact r5
        refine take_yes 0 53 rfl rfl (by kernel_rfl) (by kernel_rfl) (by kernel_rfl) (fun _ _ _ h => h) (by assumption) (by rfl) (v := ?_) ?_ ?_
        rotate_left 1
        · (intro w hSw; (try dsimp only at hSw); go_simp; try with_reducible rfl)
        simp only [List.setIfInBounds_toArray, List.set_cons_zero, List.set_cons_succ]
        refine take_yes 1 54 rfl rfl (by kernel_rfl) (by kernel_rfl) (by kernel_rfl) (fun _ _ _ h => h) (by assumption) (by rfl) (v := ?_) ?_ ?_
        rotate_left 1
        · (intro w hSw; (try dsimp only at hSw); go_simp; try with_reducible rfl)
        simp only [List.setIfInBounds_toArray, List.set_cons_zero, List.set_cons_succ]
        refine take_yes 2 55 rfl rfl (by kernel_rfl) (by kernel_rfl) (by kernel_rfl) (fun _ _ _ h => h) (by assumption) (by rfl) (v := ?_) ?_ ?_
        rotate_left 1
        · (intro w hSw; (try dsimp only at hSw); go_simp; try with_reducible rfl)
        simp only [List.setIfInBounds_toArray, List.set_cons_zero, List.set_cons_succ]
        refine take_yes 3 56 rfl rfl (by kernel_rfl) (by kernel_rfl) (by kernel_rfl) (fun _ _ _ h => h) (by assumption) (by rfl) (v := ?_) ?_ ?_
        rotate_left 1
        · (intro w hSw; (try dsimp only at hSw); go_simp; try with_reducible rfl)
        simp only [List.setIfInBounds_toArray, List.set_cons_zero, List.set_cons_succ]
        refine take_yes 4 57 rfl rfl (by kernel_rfl) (by kernel_rfl) (by kernel_rfl) (fun _ _ _ h => h) (by assumption) (by rfl) (v := ?_) ?_ ?_
        rotate_left 1
        · (intro w hSw; (try dsimp only at hSw); go_simp; try with_reducible rfl)
        simp only [List.setIfInBounds_toArray, List.set_cons_zero, List.set_cons_succ]
        refine take_yes 5 58 rfl rfl (by kernel_rfl) (by kernel_rfl) (by kernel_rfl) (fun _ _ _ h => h) (by assumption) (by rfl) (v := ?_) ?_ ?_
        rotate_left 1
        · (intro w hSw; (try dsimp only at hSw); go_simp; try with_reducible rfl)
        simp only [List.setIfInBounds_toArray, List.set_cons_zero, List.set_cons_succ]
        refine take_yes 6 59 rfl rfl (by kernel_rfl) (by kernel_rfl) (by kernel_rfl) (fun _ _ _ h => h) (by assumption) (by rfl) (v := ?_) ?_ ?_
        rotate_left 1
        · (intro w hSw; (try dsimp only at hSw); go_simp; try with_reducible rfl)
        simp only [List.setIfInBounds_toArray, List.set_cons_zero, List.set_cons_succ]
        refine take_yes 7 60 rfl rfl (by kernel_rfl) (by kernel_rfl) (by kernel_rfl) (fun _ _ _ h => h) (by assumption) (by rfl) (v := ?_) ?_ ?_
        rotate_left 1
        · (intro w hSw; (try dsimp only at hSw); go_simp; try with_reducible rfl)
        simp only [List.setIfInBounds_toArray, List.set_cons_zero, List.set_cons_succ]
        refine take_yes 8 61 rfl rfl (by kernel_rfl) (by kernel_rfl) (by kernel_rfl) (fun _ _ _ h => h) (by assumption) (by rfl) (v := ?_) ?_ ?_
        rotate_left 1
        · (intro w hSw; (try dsimp only at hSw); go_simp; try with_reducible rfl)
        simp only [List.setIfInBounds_toArray, List.set_cons_zero, List.set_cons_succ]
        refine take_yes 9 62 rfl rfl (by kernel_rfl) (by kernel_rfl) (by kernel_rfl) (fun _ _ _ h => h) (by assumption) (by rfl) (v := ?_) ?_ ?_
        rotate_left 1
        · (intro w hSw; (try dsimp only at hSw); go_simp; try with_reducible rfl)
        simp only [List.setIfInBounds_toArray, List.set_cons_zero, List.set_cons_succ]
        refine take_yes 10 63 rfl rfl (by kernel_rfl) (by kernel_rfl) (by kernel_rfl) (fun _ _ _ h => h) (by assumption) (by rfl) (v := ?_) ?_ ?_
        rotate_left 1
        · (intro w hSw; (try dsimp only at hSw); go_simp; try with_reducible rfl)
        simp only [List.setIfInBounds_toArray, List.set_cons_zero, List.set_cons_succ]
        refine take_yes 11 64 rfl rfl (by kernel_rfl) (by kernel_rfl) (by kernel_rfl) (fun _ _ _ h => h) (by assumption) (by rfl) (v := ?_) ?_ ?_
        rotate_left 1
        · (intro w hSw; (try dsimp only at hSw); go_simp; try with_reducible rfl)
        simp only [List.setIfInBounds_toArray, List.set_cons_zero, List.set_cons_succ]
        refine wpAnyH_ready (rs := [12]) (by kernel_rfl) (by simp) ?_
        refine AllReadyH.cons rfl (fun K hK => ?_) AllReadyH.nil
        -- 12:  dst := none, op := Op.store 3 (Operand.tmp 64) (Operand.const (Value.int IntKind.i64 0)), type := 0
        go_simp
        refine hK.out _ _ (by refine (World.cell?_setCell_far _ _ _ _ (show lb ≠ f from fun e => hne e.symm)).trans ?_; exact r5) (fun hHeld12 => ?_)
        clear hK K
        try simp only [Act.put, List.setIfInBounds_toArray, List.set_cons_zero, List.set_cons_succ]
        refine take_yes 13 65 rfl rfl (by kernel_rfl) (by kernel_rfl) (by kernel_rfl) (fun _ _ _ h => h) (by assumption) (by rfl) (v := ?_) ?_ ?_
        rotate_left 1
        · (intro w hSw; (try dsimp only at hSw); go_simp; try with_reducible rfl)
        simp only [List.setIfInBounds_toArray, List.set_cons_zero, List.set_cons_succ]
        refine take_yes 14 66 rfl rfl (by kernel_rfl) (by kernel_rfl) (by kernel_rfl) (fun _ _ _ h => h) (by assumption) (by rfl) (v := ?_) ?_ ?_
        rotate_left 1
        · (intro w hSw; (try dsimp only at hSw); go_simp; try with_reducible rfl)
        simp only [List.setIfInBounds_toArray, List.set_cons_zero, List.set_cons_succ]
        refine wpAnyH_ready (rs := [15]) (by kernel_rfl) (by simp) ?_
        refine AllReadyH.cons rfl (fun K hK => ?_) AllReadyH.nil
        -- 15:  dst := none, op := Op.store 4 (Operand.tmp 66) (Operand.const (Value.bool false)), type := 0
        go_simp
        refine hK.out _ _ (by refine (World.cell?_setCell_far _ _ _ _ (show lb ≠ f from fun e => hne e.symm)).trans ?_; refine (World.cell?_setCell_far _ _ _ _ (show lb ≠ f from fun e => hne e.symm)).trans ?_; exact r5) (fun hHeld15 => ?_)
        clear hK K
        try simp only [Act.put, List.setIfInBounds_toArray, List.set_cons_zero, List.set_cons_succ]
        refine wpAnyH_done (by kernel_rfl) ?_ _
        have hcs : Chg wr (((wr.setCell ⟨lb, i * 3 + 1, none⟩ (.int .i64 0)).setCell ⟨lb, i * 3 + 2, none⟩ (.bool false)).drew) (fun k => k = rr.lb) := by rw [HLB.out]; exact (chg_cell (chg_cell (Chg.refl wr _) _ _) _ _).drew
        have hwt : Blk (((wr.setCell ⟨lb, i * 3 + 1, none⟩ (.int .i64 0)).setCell ⟨lb, i * 3 + 2, none⟩ (.bool false)).drew) rr.lb 74 (cellsW (offL d.l (i + 1))) := by
          have h9 : Blk wr rr.lb 74 (cellsW (offL d.l i)) := HJ1.out.1.wt
          have hlen : i * 3 + 2 < (cellsW (offL d.l i)).length := by rw [cellsW_length, offL_length]; omega
          rw [offL_succ d.l i hlti, cellsW_rst (offL d.l i) i (rst d.l[i]) (by rw [offL_length]; exact hlti) (by rw [offL_at d.l i hlti]; rfl), ← HLB.out]
          exact (h9.set (i * 3 + 1) _ (by omega)).set (i * 3 + 2) _ (by simpa using hlen)
        have hst := HJ1.out.1.setW (offL d.l (i + 1)) (by rw [offL_length]; exact (offL_length _ _).symm) hcs hwt
        have hmz : ∀ g, FdM f rr g → Wide Z w wr g := fun g hg => HJ1.out.2.1 g (HJ1.out.1.mz g hg)
        have hlw : ∀ g, g < w.heap.size → Wide Z w wr g → Z g := fun g hg h => by
          rcases h with h | h
          · exact h
          · exact absurd h.1 (by omega)
        have hch2 : Chg w (((wr.setCell ⟨lb, i * 3 + 1, none⟩ (.int .i64 0)).setCell ⟨lb, i * 3 + 2, none⟩ (.bool false)).drew) Z := HJ1.out.2.2.trans hcs (fun g hg e => hlw g hg (hmz g (.inr (.inl e))))
        have hz5 : (((wr.setCell ⟨lb, i * 3 + 1, none⟩ (.int .i64 0)).setCell ⟨lb, i * 3 + 2, none⟩ (.bool false)).drew).heap.size = wr.heap.size := by show ((wr.setCell _ _).setCell _ _).heap.size = _; simp
        have HP := Lib.hid (plan_any Zi f _ rr [] es now (i : Int) (by have := offM_length d.m d.ord now i; show (offM d.m d.ord now i).length ≤ _; omega) (by show ordN d.ord i ≤ _; rw [ordN_eq]; omega) (((wr.setCell ⟨lb, i * 3 + 1, none⟩ (.int .i64 0)).setCell ⟨lb, i * 3 + 2, none⟩ (.bool false)).drew) hst)
        have H5 := Lib.hid (And.intro hmz (And.intro hlw (And.intro hch2 hz5)))
        clear hcs hwt hst hmz hlw hch2 hz5 hw1 hw2 hz1 hz2 hHeld hHeld12 hHeld15 r5
        generalize ((wr.setCell ⟨lb, i * 3 + 1, none⟩ (.int .i64 0)).setCell ⟨lb, i * 3 + 2, none⟩ (.bool false)).drew = W5 at *
        go_wp2_with fail
        refine HP.out.mono ?_
        rintro e w6 ⟨v6, rfl, h7, h8, -⟩
        have HN : Hid (∃ Zi rr, FdOk Zi w6 f (offI d ⟨⟨num, root⟩, ⟨ix, Ps, Qs⟩⟩ now (i + 1)) rr [] es ∧ (∀ g, Zi g → Wide Z w w6 g) ∧ Chg w w6 Z) := Lib.hid (by
          have hs8 := h8.size
          have hs9 := HJ1.out.2.2.size
          refine ⟨_, _, h7, fun g hg => ?_, H5.out.2.2.1.trans h8 (fun g hg e => H5.out.2.1 g hg (H5.out.1 g (.inr (.inr (.inr e)))))⟩
          rcases hg with hg | hg
          · rcases HJ1.out.2.1 g hg with h | h
            · exact .inl h
            · exact .inr ⟨h.1, by have := h.2; have := H5.out.2.2.2; omega⟩
          · exact .inr ⟨by have := hg.1; have := H5.out.2.2.2; omega, hg.2⟩)
        clear h7 h8
        go_wp2
        go_roundw
        case rel => exact ⟨i + 1, by go_num, by omega, HN⟩
        case measure => simp [intOf]; omega
      · obtain rfl : i = d.l.length := by omega
        have HF := Lib.hid HJ.out
        clear HJ
        go_wp2
        go_ret
        obtain ⟨Zi, rr, h1, h2, h3⟩ := HF.out
        refine ⟨rfl, ⟨rr, [], es, ?_⟩, h3⟩
        have h4 := h1.wide h2
        have e : offI d ⟨⟨num, root⟩, ⟨ix, Ps, Qs⟩⟩ now d.l.length = offD d ⟨⟨num, root⟩, ⟨ix, Ps, Qs⟩⟩ now := by unfold offI offD; rw [offL_all]
        rwa [e] at h4
  | true =>
    have hlt : CN < num := HNW.out rfl
    have hle : ¬ num ≤ CN := by omega
    refine wp_region_held_drew (S := fun w' => w'.cell? ⟨w.heap.size, 0, none⟩ = some (.int .i64 num) ∧ w'.cell? ⟨w.heap.size, 1, none⟩ = some (.slice R root.length cr) ∧ w'.cell? ⟨w.heap.size, 2, none⟩ = some (.int .i64 ix) ∧ w'.cell? ⟨w.heap.size, 3, none⟩ = some (.slice P Ps.length cp) ∧ w'.cell? ⟨w.heap.size, 4, none⟩ = some (.slice Q Qs.length cq) ∧ w'.cell? ⟨f, 0, none⟩ = some (.slice PA d.p.log.length pc) ∧ w'.cell? ⟨f, 6, none⟩ = some (.int .i64 CN) ∧ w'.cell? ⟨f, 11, none⟩ = some (.bool true)) (by kernel_rfl) ?_ (fun hHeld => ?_)
    · exact ⟨c0, c1, c2, c3, c4, f0, f6, f11⟩
    refine take_yes 0 8 rfl rfl (by kernel_rfl) (by kernel_rfl) (by kernel_rfl) (fun _ _ _ h => h) (by assumption) (by rfl) (v := ?_) ?_ ?_
    rotate_left 1
    · (intro w hSw; (try dsimp only at hSw); go_simp; try with_reducible rfl)
    simp only [List.setIfInBounds_toArray, List.set_cons_zero, List.set_cons_succ]
    refine take_yes 1 9 rfl rfl (by kernel_rfl) (by kernel_rfl) (by kernel_rfl) (fun _ _ _ h => h) (by assumption) (by rfl) (v := ?_) ?_ ?_
    rotate_left 1
    · (intro w hSw; (try dsimp only at hSw); go_simp; try with_reducible rfl)
    simp only [List.setIfInBounds_toArray, List.set_cons_zero, List.set_cons_succ]
    refine take_yes 2 10 rfl rfl (by kernel_rfl) (by kernel_rfl) (by kernel_rfl) (fun _ _ _ h => h) (by assumption) (by rfl) (v := ?_) ?_ ?_
    rotate_left 1
    · (intro w hSw; (try dsimp only at hSw); go_simp; try with_reducible rfl)
    simp only [List.setIfInBounds_toArray, List.set_cons_zero, List.set_cons_succ]
    refine take_yes 3 11 rfl rfl (by kernel_rfl) (by kernel_rfl) (by kernel_rfl) (fun _ _ _ h => h) (by assumption) (by rfl) (v := ?_) ?_ ?_
    rotate_left 1
    · (intro w hSw; (try dsimp only at hSw); go_simp; try with_reducible rfl)
    simp only [List.setIfInBounds_toArray, List.set_cons_zero, List.set_cons_succ]
    refine take_yes 4 12 rfl rfl (by kernel_rfl) (by kernel_rfl) (by kernel_rfl) (fun _ _ _ h => h) (by assumption) (by rfl) (v := ?_) ?_ ?_
    rotate_left 1
    · (intro w hSw; (try dsimp only at hSw); go_simp; try with_reducible rfl)
    simp only [List.setIfInBounds_toArray, List.set_cons_zero, List.set_cons_succ]
    refine take_yes 5 13 rfl rfl (by kernel_rfl) (by kernel_rfl) (by kernel_rfl) (fun _ _ _ h => h) (by assumption) (by rfl) (v := ?_) ?_ ?_
    rotate_left 1
    · (intro w hSw; (try dsimp only at hSw); go_simp; try with_reducible rfl)
    simp only [List.setIfInBounds_toArray, List.set_cons_zero, List.set_cons_succ]
    refine wpAnyH_ready (rs := [6]) (by kernel_rfl) (by simp) ?_
    refine AllReadyH.cons rfl (fun K hK => ?_) AllReadyH.nil
    -- 6:  dst := some 14, op := Op.call  callee := Callee.value (Operand.func 33), args := #[Operand.tmp 12, Operand.tmp 13], argTypes :=
    go_simp
    go_at_call 27
    refine (HVF.out w1.drew _ _ (by rw [← HPL.out]; exact (H1.out.2.2.tx.pl.1.below (Below.refl _ _).drew)) ⟨_, _, _, rfl, HX.out.1.below H1.out.2.1.drew, HX.out.2.1.below H1.out.2.1.drew, HX.out.2.2.below H1.out.2.1.drew⟩).mono ?_
    rw [HVR.out]
    rintro e w2 ⟨rfl, h2⟩
    have hb2 : Below w1.heap.size w1 w2 := ⟨h2.os, h2.tape, h2.output, h2.size, h2.block⟩
    have k0 := H1.out.1.below hb2
    have kf := H1.out.2.2.blk.below hb2
    have e0 := k0.cell 0 _ rfl
    have e1 := k0.cell 1 _ rfl
    have e2 := k0.cell 2 _ rfl
    have e3 := k0.cell 3 _ rfl
    have e4 := k0.cell 4 _ rfl
    have g0 : w2.cell? ⟨f, 0, none⟩ = some (.slice PA d.p.log.length pc) := by rw [← HPL.out]; exact kf.cell 0 _ rfl
    have g6 : w2.cell? ⟨f, 6, none⟩ = some (.int .i64 CN) := by rw [← HE.out.1]; exact kf.cell 6 _ rfl
    have g11 : w2.cell? ⟨f, 11, none⟩ = some (.bool true) := by rw [← HE.out.2]; exact kf.cell 11 _ rfl
    have hfl2 := kf.lt
    have H2 := Lib.hid (And.intro k0 (And.intro (H1.out.2.1.trans (hb2.mono H1.out.2.1.size)) (H1.out.2.2.below hb2)))
    clear h2 hb2 k0 kf
    go_wp2_with fail
    refine hK.out _ _ ⟨e0, e1, e2, e3, e4, g0, g6, g11⟩ (fun hHeld6 => ?_)
    clear hK K
    try simp only [Act.put, List.setIfInBounds_toArray, List.set_cons_zero, List.set_cons_succ]
    refine take_yes 7 15 rfl rfl (by kernel_rfl) (by kernel_rfl) (by kernel_rfl) (fun _ _ _ h => h) (by assumption) (by rfl) (v := ?_) ?_ ?_
    rotate_left 1
    · (intro w hSw; (try dsimp only at hSw); go_simp; try with_reducible rfl)
    simp only [List.setIfInBounds_toArray, List.set_cons_zero, List.set_cons_succ]
    refine take_yes 8 16 rfl rfl (by kernel_rfl) (by kernel_rfl) (by kernel_rfl) (fun _ _ _ h => h) (by assumption) (by rfl) (v := ?_) ?_ ?_
    rotate_left 1
    · (intro w hSw; (try dsimp only at hSw); go_simp; try with_reducible rfl)
    simp only [List.setIfInBounds_toArray, List.set_cons_zero, List.set_cons_succ]
    refine take_yes 9 17 rfl rfl (by kernel_rfl) (by kernel_rfl) (by kernel_rfl) (fun _ _ _ h => h) (by assumption) (by rfl) (v := ?_) ?_ ?_
    rotate_left 1
    · (intro w hSw; (try dsimp only at hSw); go_simp; try with_reducible rfl)
    simp only [List.setIfInBounds_toArray, List.set_cons_zero, List.set_cons_succ]
    refine take_yes 10 18 rfl rfl (by kernel_rfl) (by kernel_rfl) (by kernel_rfl) (fun _ _ _ h => h) (by assumption) (by rfl) (v := ?_) ?_ ?_
    rotate_left 1
    · (intro w hSw; (try dsimp only at hSw); go_simp; try with_reducible rfl)
    simp only [List.setIfInBounds_toArray, List.set_cons_zero, List.set_cons_succ]
    refine take_yes 11 19 rfl rfl (by kernel_rfl) (by kernel_rfl) (by kernel_rfl) (fun _ _ _ h => h) (by assumption) (by rfl) (v := ?_) ?_ ?_
    rotate_left 1
    · (intro w hSw; (try dsimp only at hSw); go_simp; try with_reducible rfl)
    simp only [List.setIfInBounds_toArray, List.set_cons_zero, List.set_cons_succ]
    refine take_yes 12 20 rfl rfl (by kernel_rfl) (by kernel_rfl) (by kernel_rfl) (fun _ _ _ h => h) (by assumption) (by rfl) (v := ?_) ?_ ?_
    rotate_left 1
    · (intro w hSw; (try dsimp only at hSw); go_simp; try with_reducible rfl)
    simp only [List.setIfInBounds_toArray, List.set_cons_zero, List.set_cons_succ]
    refine take_yes 13 21 rfl rfl (by kernel_rfl) (by kernel_rfl) (by kernel_rfl) (fun _ _ _ h => h) (by assumption) (by rfl) (v := ?_) ?_ ?_
    rotate_left 1
    · (intro w hSw; (try dsimp only at hSw); go_simp; try with_reducible rfl)
    simp only [List.setIfInBounds_toArray, List.set_cons_zero, List.set_cons_succ]
    refine take_yes 14 22 rfl rfl (by kernel_rfl) (by kernel_rfl) (by kernel_rfl) (fun _ _ _ h => h) (by assumption) (by rfl) (v := ?_) ?_ ?_
    rotate_left 1
    · (intro w hSw; (try dsimp only at hSw); go_simp; try with_reducible rfl)
    simp only [List.setIfInBounds_toArray, List.set_cons_zero, List.set_cons_succ]
    refine take_yes 15 23 rfl rfl (by kernel_rfl) (by kernel_rfl) (by kernel_rfl) (fun _ _ _ h => h) (by assumption) (by rfl) (v := ?_) ?_ ?_
    rotate_left 1
    · (intro w hSw; (try dsimp only at hSw); go_simp; try with_reducible rfl)
    simp only [List.setIfInBounds_toArray, List.set_cons_zero, List.set_cons_succ]
    refine take_yes 16 24 rfl rfl (by kernel_rfl) (by kernel_rfl) (by kernel_rfl) (fun _ _ _ h => h) (by assumption) (by rfl) (v := ?_) ?_ ?_
    rotate_left 1
    · (intro w hSw; (try dsimp only at hSw); go_simp; try with_reducible rfl)
    simp only [List.setIfInBounds_toArray, List.set_cons_zero, List.set_cons_succ]
    refine take_yes 17 25 rfl rfl (by kernel_rfl) (by kernel_rfl) (by kernel_rfl) (fun _ _ _ h => h) (by assumption) (by rfl) (v := ?_) ?_ ?_
    rotate_left 1
    · (intro w hSw; (try dsimp only at hSw); go_simp; try with_reducible rfl)
    simp only [List.setIfInBounds_toArray, List.set_cons_zero, List.set_cons_succ]
    refine take_yes 18 26 rfl rfl (by kernel_rfl) (by kernel_rfl) (by kernel_rfl) (fun _ _ _ h => h) (by assumption) (by rfl) (v := ?_) ?_ ?_
    rotate_left 1
    · (intro w hSw; (try dsimp only at hSw); go_simp; try with_reducible rfl)
    simp only [List.setIfInBounds_toArray, List.set_cons_zero, List.set_cons_succ]
    refine take_yes 19 27 rfl rfl (by kernel_rfl) (by kernel_rfl) (by kernel_rfl) (fun _ _ _ h => h) (by assumption) (by rfl) (v := ?_) ?_ ?_
    rotate_left 1
    · (intro w hSw; (try dsimp only at hSw); go_simp; try with_reducible rfl)
    simp only [List.setIfInBounds_toArray, List.set_cons_zero, List.set_cons_succ]
    refine take_yes 20 28 rfl rfl (by kernel_rfl) (by kernel_rfl) (by kernel_rfl) (fun _ _ _ h => h) (by assumption) (by rfl) (v := ?_) ?_ ?_
    rotate_left 1
    · (intro w hSw; (try dsimp only at hSw); go_simp; try with_reducible rfl)
    simp only [List.setIfInBounds_toArray, List.set_cons_zero, List.set_cons_succ]
    refine take_yes 21 29 rfl rfl (by kernel_rfl) (by kernel_rfl) (by kernel_rfl) (fun _ _ _ h => h) (by assumption) (by rfl) (v := ?_) ?_ ?_
    rotate_left 1
    · (intro w hSw; (try dsimp only at hSw); go_simp; try with_reducible rfl)
    simp only [List.setIfInBounds_toArray, List.set_cons_zero, List.set_cons_succ]
    refine take_yes 22 30 rfl rfl (by kernel_rfl) (by kernel_rfl) (by kernel_rfl) (fun _ _ _ h => h) (by assumption) (by rfl) (v := ?_) ?_ ?_
    rotate_left 1
    · (intro w hSw; (try dsimp only at hSw); go_simp; try with_reducible rfl)
    simp only [List.setIfInBounds_toArray, List.set_cons_zero, List.set_cons_succ]
    refine take_yes 23 31 rfl rfl (by kernel_rfl) (by kernel_rfl) (by kernel_rfl) (fun _ _ _ h => h) (by assumption) (by rfl) (v := ?_) ?_ ?_
    rotate_left 1
    · (intro w hSw; (try dsimp only at hSw); go_simp; try with_reducible rfl)
    simp only [List.setIfInBounds_toArray, List.set_cons_zero, List.set_cons_succ]
    refine take_yes 24 32 rfl rfl (by kernel_rfl) (by kernel_rfl) (by kernel_rfl) (fun _ _ _ h => h) (by assumption) (by rfl) (v := ?_) ?_ ?_
    rotate_left 1
    · (intro w hSw; (try dsimp only at hSw); go_simp; try with_reducible rfl)
    simp only [List.setIfInBounds_toArray, List.set_cons_zero, List.set_cons_succ]
    refine take_yes 25 33 rfl rfl (by kernel_rfl) (by kernel_rfl) (by kernel_rfl) (fun _ _ _ h => h) (by assumption) (by rfl) (v := ?_) ?_ ?_
    rotate_left 1
    · (intro w hSw; (try dsimp only at hSw); go_simp; try with_reducible rfl)
    simp only [List.setIfInBounds_toArray, List.set_cons_zero, List.set_cons_succ]
    refine wpAnyH_done (by kernel_rfl) ?_ _
    clear hHeld hHeld6 c0 c1 c2 c3 c4 f0 f6 f11 e0 e1 e2 e3 e4 g0 g6 g11
    have k0 := H2.out.1
    have e0 := k0.cell 0 _ rfl
    have e1 := k0.cell 1 _ rfl
    have e2 := k0.cell 2 _ rfl
    have e3 := k0.cell 3 _ rfl
    have e4 := k0.cell 4 _ rfl
    clear k0
    go_wp2_with fail
    refine (ckcopy_any _ ⟨⟨num, root⟩, ⟨ix, Ps, Qs⟩⟩ HS.out.1 HS.out.2 w2 ⟨_, _, _, rfl, HX.out.1.below H2.out.2.1, HX.out.2.1.below H2.out.2.1, HX.out.2.2.below H2.out.2.1⟩).mono ?_
    rintro e w3 ⟨v3, rfl, ⟨r3, p3, q3, rfl, h3, h4, h5⟩, h6⟩
    obtain ⟨A3, n3, rfl⟩ := h3.1.form
    obtain ⟨A4, n4, rfl⟩ := h4.rws.form
    obtain ⟨A5, n5, rfl⟩ := h5.rws.form
    have hb3 := H2.out.2.1.trans (h6.mono H2.out.2.1.size)
    have hk3 := H2.out.2.2.below h6
    have H3 := Lib.hid (And.intro (h3.mono (fun g hg => hg.wide (w0 := w) (w1 := w3) H2.out.2.1.size (Nat.le_refl _))) (And.intro (h4.mono (fun g hg => hg.wide (w0 := w) (w1 := w3) H2.out.2.1.size (Nat.le_refl _))) (And.intro (h5.mono (fun g hg => hg.wide (w0 := w) (w1 := w3) H2.out.2.1.size (Nat.le_refl _))) (And.intro hb3 hk3))))
    have s6 := hk3.blk.cell 6 _ rfl
    have s7 := hk3.blk.cell 7 _ rfl
    have s8 := hk3.blk.cell 8 _ rfl
    have s9 := hk3.blk.cell 9 _ rfl
    have s10 := hk3.blk.cell 10 _ rfl
    have s11 := hk3.blk.cell 11 _ rfl
    have s12 := hk3.blk.cell 12 _ rfl
    have y6 := hk3.blk.free 6
    have y7 := hk3.blk.free 7
    have y8 := hk3.blk.free 8
    have y9 := hk3.blk.free 9
    have y10 := hk3.blk.free 10
    have y11 := hk3.blk.free 11
    have y12 := hk3.blk.free 12
    have r5 := cell5 hk3.blk
    have hfl3 := hk3.blk.lt
    clear h3 h4 h5 h6 hb3 hk3 e0 e1 e2 e3 e4
    go_wp2
    have hc : Chg w3 (((((((w3.setCell ⟨f, 6, none⟩ (.int .i64 num)).setCell ⟨f, 7, none⟩ (.slice A3 root.length n3)).setCell ⟨f, 8, none⟩ (.int .i64 ix)).setCell ⟨f, 9, none⟩ (.slice A4 Ps.length n4)).setCell ⟨f, 10, none⟩ (.slice A5 Qs.length n5)).setCell ⟨f, 11, none⟩ (.bool true)).setCell ⟨f, 12, none⟩ (.slice none 0 0)) (fun k => k = f) := chg_cell (chg_cell (chg_cell (chg_cell (chg_cell (chg_cell (chg_cell (Chg.refl w3 _) 6 _) 7 _) 8 _) 9 _) 10 _) 11 _) 12 _
    have hb : Blk (((((((w3.setCell ⟨f, 6, none⟩ (.int .i64 num)).setCell ⟨f, 7, none⟩ (.slice A3 root.length n3)).setCell ⟨f, 8, none⟩ (.int .i64 ix)).setCell ⟨f, 9, none⟩ (.slice A4 Ps.length n4)).setCell ⟨f, 10, none⟩ (.slice A5 Qs.length n5)).setCell ⟨f, 11, none⟩ (.bool true)).setCell ⟨f, 12, none⟩ (.slice none 0 0)) f 68 (fdCells (offI d ⟨⟨num, root⟩, ⟨ix, Ps, Qs⟩⟩ now 0) { r with kv := .slice none 0 0, cr := .slice A3 root.length n3, cp := .slice A4 Ps.length n4, cq := .slice A5 Qs.length n5 }) := ((((((H3.out.2.2.2.2.blk.set 6 _ (by simp [fdCells])).set 7 _ (by simp [fdCells])).set 8 _ (by simp [fdCells])).set 9 _ (by simp [fdCells])).set 10 _ (by simp [fdCells])).set 11 _ (by simp [fdCells])).set 12 _ (by simp [fdCells])
    have hof := H3.out.2.2.2.2.offer (w := w) H3.out.2.2.2.1.size ⟨⟨num, root⟩, ⟨ix, Ps, Qs⟩⟩ now H3.out.1 H3.out.2.1 H3.out.2.2.1 HZ.out hc hb
    have hchw : Chg w (((((((w3.setCell ⟨f, 6, none⟩ (.int .i64 num)).setCell ⟨f, 7, none⟩ (.slice A3 root.length n3)).setCell ⟨f, 8, none⟩ (.int .i64 ix)).setCell ⟨f, 9, none⟩ (.slice A4 Ps.length n4)).setCell ⟨f, 10, none⟩ (.slice A5 Qs.length n5)).setCell ⟨f, 11, none⟩ (.bool true)).setCell ⟨f, 12, none⟩ (.slice none 0 0)) Z := (Chg.of_below (S := Z) H3.out.2.2.2.1).trans hc (fun i _ e => by rw [show i = f from e]; exact HO.out.mz f (.inl rfl))
    generalize ((((((w3.setCell ⟨f, 6, none⟩ (.int .i64 num)).setCell ⟨f, 7, none⟩ (.slice A3 root.length n3)).setCell ⟨f, 8, none⟩ (.int .i64 ix)).setCell ⟨f, 9, none⟩ (.slice A4 Ps.length n4)).setCell ⟨f, 10, none⟩ (.slice A5 Qs.length n5)).setCell ⟨f, 11, none⟩ (.bool true)).setCell ⟨f, 12, none⟩ (.slice none 0 0) = W at *
    have HI0 : Hid (∃ Zi rr, FdOk Zi W f (offI d ⟨⟨num, root⟩, ⟨ix, Ps, Qs⟩⟩ now 0) rr [] es ∧ (∀ g, Zi g → Wide Z w W g) ∧ Chg w W Z) := Lib.hid ⟨_, _, hof, fun g hg => hg, hchw⟩
    clear hc hb hof hchw s6 s7 s8 s9 s10 s11 s12 y6 y7 y8 y9 y10 y11 y12 r5 hfl3
    go_loopw [50] (fun v50 wr => ∃ i : Nat, v50 = .int .i64 i ∧ i ≤ d.l.length ∧ Hid (∃ Zi rr, FdOk Zi wr f (offI d ⟨⟨num, root⟩, ⟨ix, Ps, Qs⟩⟩ now i) rr [] es ∧ (∀ g, Zi g → Wide Z w wr g) ∧ Chg w wr Z)) (fun v _ => d.l.length - (intOf v).toNat)
    case atStart => exact ⟨0, rfl, Nat.zero_le _, HI0⟩
    case round =>
      obtain ⟨i, rfl, hi, HJ⟩ := hrel
      clear HI0
      by_cases hlti : i < d.l.length
      · obtain ⟨Zi, rr, hJ1, hJ2, hJ3⟩ := HJ.out
        have r5 := cell5 hJ1.blk
        rw [show (offI d ⟨⟨num, root⟩, ⟨ix, Ps, Qs⟩⟩ now i).l.length = d.l.length from offL_length _ _] at r5
        have hw1 : wr.cell? ⟨rr.lb, i * 3 + 1, none⟩ = some (.int .i64 d.l[i].tries) := hJ1.wt.cell _ _ (by have := (cellsW_at (offL d.l i) i (by rw [offL_length]; exact hlti)).2.1; rw [offL_at d.l i hlti] at this; exact this)
        have hw2 : wr.cell? ⟨rr.lb, i * 3 + 2, none⟩ = some (.bool d.l[i].kept) := hJ1.wt.cell _ _ (by have := (cellsW_at (offL d.l i) i (by rw [offL_length]; exact hlti)).2.2; rw [offL_at d.l i hlti] at this; exact this)
        have hz1 := hJ1.wt.free (i * 3 + 1)
        have hz2 := hJ1.wt.free (i * 3 + 2)
        have hfr := hJ1.blk.lt
        have hlr := hJ1.wt.lt
        have hne : f ≠ rr.lb := hJ1.n1
        have HJ1 := Lib.hid (And.intro hJ1 (And.intro hJ2 hJ3))
        clear hJ1 hJ2 hJ3 HJ
        generalize hlb : rr.lb = lb at *
        have HLB := Lib.hid hlb
        clear hlb
        go_wp2
        refine wp_region_held_drew (S := fun w' => w'.cell? ⟨f, 5, none⟩ = some (.slice (some ⟨lb, 0, none⟩) d.l.length d.l.length)) (by kernel_rfl) ?_ (fun hHeld => ?_)
        · exact r5
        refine take_yes 0 53 rfl rfl (by kernel_rfl) (by kernel_rfl) (by kernel_rfl) (fun _ _ _ h => h) (by assumption) (by rfl) (v := ?_) ?_ ?_
        rotate_left 1
        · (intro w hSw; (try dsimp only at hSw); go_simp; try with_reducible rfl)
        simp only [List.setIfInBounds_toArray, List.set_cons_zero, List.set_cons_succ]
        refine take_yes 1 54 rfl rfl (by kernel_rfl) (by kernel_rfl) (by kernel_rfl) (fun _ _ _ h => h) (by assumption) (by rfl) (v := ?_) ?_ ?_
        rotate_left 1
        · (intro w hSw; (try dsimp only at hSw); go_simp; try with_reducible rfl)
        simp only [List.setIfInBounds_toArray, List.set_cons_zero, List.set_cons_succ]
        refine take_yes 2 55 rfl rfl (by kernel_rfl) (by kernel_rfl) (by kernel_rfl) (fun _ _ _ h => h) (by assumption) (by rfl) (v := ?_) ?_ ?_
        rotate_left 1
        · (intro w hSw; (try dsimp only at hSw); go_simp; try with_reducible rfl)
        simp only [List.setIfInBounds_toArray, List.set_cons_zero, List.set_cons_succ]
        refine take_yes 3 56 rfl rfl (by kernel_rfl) (by kernel_rfl) (by kernel_rfl) (fun _ _ _ h => h) (by assumption) (by rfl) (v := ?_) ?_ ?_
        rotate_left 1
        · (intro w hSw; (try dsimp only at hSw); go_simp; try with_reducible rfl)
        simp only [List.setIfInBounds_toArray, List.set_cons_zero, List.set_cons_succ]
        refine take_yes 4 57 rfl rfl (by kernel_rfl) (by kernel_rfl) (by kernel_rfl) (fun _ _ _ h => h) (by assumption) (by rfl) (v := ?_) ?_ ?_
        rotate_left 1
        · (intro w hSw; (try dsimp only at hSw); go_simp; try with_reducible rfl)
        simp only [List.setIfInBounds_toArray, List.set_cons_zero, List.set_cons_succ]
        refine take_yes 5 58 rfl rfl (by kernel_rfl) (by kernel_rfl) (by kernel_rfl) (fun _ _ _ h => h) (by assumption) (by rfl) (v := ?_) ?_ ?_
        rotate_left 1
        · (intro w hSw; (try dsimp only at hSw); go_simp; try with_reducible rfl)
        simp only [List.setIfInBounds_toArray, List.set_cons_zero, List.set_cons_succ]
        refine take_yes 6 59 rfl rfl (by kernel_rfl) (by kernel_rfl) (by kernel_rfl) (fun _ _ _ h => h) (by assumption) (by rfl) (v := ?_) ?_ ?_
        rotate_left 1
        · (intro w hSw; (try dsimp only at hSw); go_simp; try with_reducible rfl)
        simp only [List.setIfInBounds_toArray, List.set_cons_zero, List.set_cons_succ]
        refine take_yes 7 60 rfl rfl (by kernel_rfl) (by kernel_rfl) (by kernel_rfl) (fun _ _ _ h => h) (by assumption) (by rfl) (v := ?_) ?_ ?_
        rotate_left 1
        · (intro w hSw; (try dsimp only at hSw); go_simp; try with_reducible rfl)
        simp only [List.setIfInBounds_toArray, List.set_cons_zero, List.set_cons_succ]
        refine take_yes 8 61 rfl rfl (by kernel_rfl) (by kernel_rfl) (by kernel_rfl) (fun _ _ _ h => h) (by assumption) (by rfl) (v := ?_) ?_ ?_
        rotate_left 1
        · (intro w hSw; (try dsimp only at hSw); go_simp; try with_reducible rfl)
        simp only [List.setIfInBounds_toArray, List.set_cons_zero, List.set_cons_succ]
        refine take_yes 9 62 rfl rfl (by kernel_rfl) (by kernel_rfl) (by kernel_rfl) (fun _ _ _ h => h) (by assumption) (by rfl) (v := ?_) ?_ ?_
        rotate_left 1
        · (intro w hSw; (try dsimp only at hSw); go_simp; try with_reducible rfl)
        simp only [List.setIfInBounds_toArray, List.set_cons_zero, List.set_cons_succ]
        refine take_yes 10 63 rfl rfl (by kernel_rfl) (by kernel_rfl) (by kernel_rfl) (fun _ _ _ h => h) (by assumption) (by rfl) (v := ?_) ?_ ?_
        rotate_left 1
        · (intro w hSw; (try dsimp only at hSw); go_simp; try with_reducible rfl)
        simp only [List.setIfInBounds_toArray, List.set_cons_zero, List.set_cons_succ]
        refine take_yes 11 64 rfl rfl (by kernel_rfl) (by kernel_rfl) (by kernel_rfl) (fun _ _ _ h => h) (by assumption) (by rfl) (v := ?_) ?_ ?_
        rotate_left 1
        · (intro w hSw; (try dsimp only at hSw); go_simp; try with_reducible rfl)
        simp only [List.setIfInBounds_toArray, List.set_cons_zero, List.set_cons_succ]
        refine wpAnyH_ready (rs := [12]) (by kernel_rfl) (by simp) ?_
        refine AllReadyH.cons rfl (fun K hK => ?_) AllReadyH.nil
        -- 12:  dst := none, op := Op.store 3 (Operand.tmp 64) (Operand.const (Value.int IntKind.i64 0)), type := 0
        go_simp
        refine hK.out _ _ (by refine (World.cell?_setCell_far _ _ _ _ (show lb ≠ f from fun e => hne e.symm)).trans ?_; exact r5) (fun hHeld12 => ?_)
        clear hK K
        try simp only [Act.put, List.setIfInBounds_toArray, List.set_cons_zero, List.set_cons_succ]
        refine take_yes 13 65 rfl rfl (by kernel_rfl) (by kernel_rfl) (by kernel_rfl) (fun _ _ _ h => h) (by assumption) (by rfl) (v := ?_) ?_ ?_
        rotate_left 1
        · (intro w hSw; (try dsimp only at hSw); go_simp; try with_reducible rfl)
        simp only [List.setIfInBounds_toArray, List.set_cons_zero, List.set_cons_succ]
        refine take_yes 14 66 rfl rfl (by kernel_rfl) (by kernel_rfl) (by kernel_rfl) (fun _ _ _ h => h) (by assumption) (by rfl) (v := ?_) ?_ ?_
        rotate_left 1
        · (intro w hSw; (try dsimp only at hSw); go_simp; try with_reducible rfl)
        simp only [List.setIfInBounds_toArray, List.set_cons_zero, List.set_cons_succ]
        refine wpAnyH_ready (rs := [15]) (by kernel_rfl) (by simp) ?_
        refine AllReadyH.cons rfl (fun K hK => ?_) AllReadyH.nil
        -- 15:  dst := none, op := Op.store 4 (Operand.tmp 66) (Operand.const (Value.bool false)), type := 0
        go_simp
        refine hK.out _ _ (by refine (World.cell?_setCell_far _ _ _ _ (show lb ≠ f from fun e => hne e.symm)).trans ?_; refine (World.cell?_setCell_far _ _ _ _ (show lb ≠ f from fun e => hne e.symm)).trans ?_; exact r5) (fun hHeld15 => ?_)
        clear hK K
        try simp only [Act.put, List.setIfInBounds_toArray, List.set_cons_zero, List.set_cons_succ]
        refine wpAnyH_done (by kernel_rfl) ?_ _
        have hcs : Chg wr (((wr.setCell ⟨lb, i * 3 + 1, none⟩ (.int .i64 0)).setCell ⟨lb, i * 3 + 2, none⟩ (.bool false)).drew) (fun k => k = rr.lb) := by rw [HLB.out]; exact (chg_cell (chg_cell (Chg.refl wr _) _ _) _ _).drew
        have hwt : Blk (((wr.setCell ⟨lb, i * 3 + 1, none⟩ (.int .i64 0)).setCell ⟨lb, i * 3 + 2, none⟩ (.bool false)).drew) rr.lb 74 (cellsW (offL d.l (i + 1))) := by
          have h9 : Blk wr rr.lb 74 (cellsW (offL d.l i)) := HJ1.out.1.wt
          have hlen : i * 3 + 2 < (cellsW (offL d.l i)).length := by rw [cellsW_length, offL_length]; omega
          rw [offL_succ d.l i hlti, cellsW_rst (offL d.l i) i (rst d.l[i]) (by rw [offL_length]; exact hlti) (by rw [offL_at d.l i hlti]; rfl), ← HLB.out]
          exact (h9.set (i * 3 + 1) _ (by omega)).set (i * 3 + 2) _ (by simpa using hlen)
        have hst := HJ1.out.1.setW (offL d.l (i + 1)) (by rw [offL_length]; exact (offL_length _ _).symm) hcs hwt
        have hmz : ∀ g, FdM f rr g → Wide Z w wr g := fun g hg => HJ1.out.2.1 g (HJ1.out.1.mz g hg)
        have hlw : ∀ g, g < w.heap.size → Wide Z w wr g → Z g := fun g hg h => by
          rcases h with h | h
          · exact h
          · exact absurd h.1 (by omega)
        have hch2 : Chg w (((wr.setCell ⟨lb, i * 3 + 1, none⟩ (.int .i64 0)).setCell ⟨lb, i * 3 + 2, none⟩ (.bool false)).drew) Z := HJ1.out.2.2.trans hcs (fun g hg e => hlw g hg (hmz g (.inr (.inl e))))
        have hz5 : (((wr.setCell ⟨lb, i * 3 + 1, none⟩ (.int .i64 0)).setCell ⟨lb, i * 3 + 2, none⟩ (.bool false)).drew).heap.size = wr.heap.size := by show ((wr.setCell _ _).setCell _ _).heap.size = _; simp
        have HP := Lib.hid (plan_any Zi f _ rr [] es now (i : Int) (by have := offM_length d.m d.ord now i; show (offM d.m d.ord now i).length ≤ _; omega) (by show ordN d.ord i ≤ _; rw [ordN_eq]; omega) (((wr.setCell ⟨lb, i * 3 + 1, none⟩ (.int .i64 0)).setCell ⟨lb, i * 3 + 2, none⟩ (.bool false)).drew) hst)
        have H5 := Lib.hid (And.intro hmz (And.intro hlw (And.intro hch2 hz5)))
        clear hcs hwt hst hmz hlw hch2 hz5 hw1 hw2 hz1 hz2 hHeld hHeld12 hHeld15 r5
        generalize ((wr.setCell ⟨lb, i * 3 + 1, none⟩ (.int .i64 0)).setCell ⟨lb, i * 3 + 2, none⟩ (.bool false)).drew = W5 at *
        go_wp2_with fail
        refine HP.out.mono ?_
        rintro e w6 ⟨v6, rfl, h7, h8, -⟩
        have HN : Hid (∃ Zi rr, FdOk Zi w6 f (offI d ⟨⟨num, root⟩, ⟨ix, Ps, Qs⟩⟩ now (i + 1)) rr [] es ∧ (∀ g, Zi g → Wide Z w w6 g) ∧ Chg w w6 Z) := Lib.hid (by
          have hs8 := h8.size
          have hs9 := HJ1.out.2.2.size
          refine ⟨_, _, h7, fun g hg => ?_, H5.out.2.2.1.trans h8 (fun g hg e => H5.out.2.1 g hg (H5.out.1 g (.inr (.inr (.inr e)))))⟩
          rcases hg with hg | hg
          · rcases HJ1.out.2.1 g hg with h | h
            · exact .inl h
            · exact .inr ⟨h.1, by have := h.2; have := H5.out.2.2.2; omega⟩
          · exact .inr ⟨by have := hg.1; have := H5.out.2.2.2; omega, hg.2⟩)
        clear h7 h8
        go_wp2
        go_roundw
        case rel => exact ⟨i + 1, by go_num, by omega, HN⟩
        case measure => simp [intOf]; omega
      · obtain rfl : i = d.l.length := by omega
        have HF := Lib.hid HJ.out
        clear HJ
        go_wp2
        go_ret
        obtain ⟨Zi, rr, h1, h2, h3⟩ := HF.out
        refine ⟨rfl, ⟨rr, [], es, ?_⟩, h3⟩
        have h4 := h1.wide h2
        have e : offI d ⟨⟨num, root⟩, ⟨ix, Ps, Qs⟩⟩ now d.l.length = offD d ⟨⟨num, root⟩, ⟨ix, Ps, Qs⟩⟩ now := by unfold offI offD; rw [offL_all]
        rwa [e] at h4
end Go.Proofs.YtlkgeifmppadmaaGreat
