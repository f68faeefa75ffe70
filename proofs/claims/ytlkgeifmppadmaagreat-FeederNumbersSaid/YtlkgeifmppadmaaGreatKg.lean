/- The feeder's Offer. The feeder's Step. The feeder's Reply, where no cosignature is kept. slices.Clone at cosignatures. Conditions: as each theorem states them. -/
import Derived.Test.YtlkgeifmppadmaaGreatKf
import Derived.Test.YtlkgeifmppadmaaGreatKd
import Derived.Test.YtlkgeifmppadmaaGreatKc
import Derived.Test.YtlkgeifmppadmaaGreatKe
import Derived.Test.YtlkgeifmppadmaaGreatKa
namespace Go.Proofs.YtlkgeifmppadmaaGreat
open Go.RowKit
set_option linter.unusedVariables false
set_option linter.unusedSimpArgs false

def offB (d : FdD) (s : SgD) : Bool := ckVerB d.p.log s && !(d.has && decide (s.ck.num ≤ d.cur.ck.num))
def ordN (o : Int) : Nat → Int
 | 0 => o
 | i + 1 => ordN o i + 1
theorem ordN_eq (o : Int) (i : Nat) : ordN o i = o + (i : Int) := by
 induction i with
 | zero => simp [ordN]
 | succ i ih => show ordN o i + 1 = _; rw [ih]; omega
def offM (m : List Ent) (ord now : Int) : Nat → List Ent
 | 0 => m
 | i + 1 => insE ⟨now, ordN ord i, (i : Int)⟩ (keepW (i : Int) (offM m ord now i))
def rst (x : WtD) : WtD := ⟨x.size, 0, false⟩
def offL (l : List WtD) (i : Nat) : List WtD := (l.take i).map rst ++ l.drop i
theorem offL_length (l : List WtD) (i : Nat) : (offL l i).length = l.length := by simp [offL, List.length_take, List.length_drop]; omega
theorem offL_all (l : List WtD) : offL l l.length = l.map rst := by simp [offL]
theorem offL_at (l : List WtD) (i : Nat) (h : i < l.length) : (offL l i)[i]'(by rw [offL_length]; exact h) = l[i] := by
 unfold offL
 rw [List.getElem_append_right (by simp [List.length_take]; omega)]
 simp [List.length_take, Nat.min_eq_left (Nat.le_of_lt h)]
theorem offL_succ (l : List WtD) (i : Nat) (h : i < l.length) : offL l (i + 1) = (offL l i).set i (rst l[i]) := by
 unfold offL
 rw [List.set_append_right _ _ (by simp [List.length_take]; omega), List.length_map, List.length_take, Nat.min_eq_left (Nat.le_of_lt h), Nat.sub_self, List.drop_eq_getElem_cons h, List.set_cons_zero, List.take_succ_eq_append_getElem h, List.map_append, List.append_assoc]
 rfl
theorem cellsW_rst (L : List WtD) (i : Nat) (x : WtD) (h : i < L.length) (hx : x.size = L[i].size) : cellsW (L.set i x) = ((cellsW L).set (i * 3 + 1) (.int .i64 x.tries)).set (i * 3 + 2) (.bool x.kept) := by
 rw [cellsW_set L i x h]
 have h0 := (cellsW_at L i h).1
 have e : (cellsW L).set (i * 3) (.int .i64 x.size) = cellsW L := by
  rw [hx]
  obtain ⟨hlt, e⟩ := List.getElem?_eq_some_iff.1 h0
  rw [← e]
  exact List.set_getElem_self hlt
 rw [e]
theorem insE_length (x : Ent) (m : List Ent) : (insE x m).length = m.length + 1 := by
 have := (insE_perm x m).length_eq
 simpa using this
theorem offM_length (m : List Ent) (ord now : Int) (i : Nat) : (offM m ord now i).length ≤ m.length + i := by
 induction i with
 | zero => exact Nat.le_refl _
 | succ i ih =>
  show (insE _ (keepW _ _)).length ≤ _
  rw [insE_length]
  have := keepW_le (i : Int) (offM m ord now i)
  omega
def offD (d : FdD) (s : SgD) (now : Int) : FdD := ⟨d.p, d.retry, offM d.m d.ord now d.l.length, ordN d.ord d.l.length, d.l.map rst, s, true, [], d.done, d.enough⟩
def offI (d : FdD) (s : SgD) (now : Int) (i : Nat) : FdD := ⟨d.p, d.retry, offM d.m d.ord now i, ordN d.ord i, offL d.l i, s, true, [], d.done, d.enough⟩
theorem FdM_kv {f : Nat} {r : FdR} {k : Nat} (cr cp cq : Value) (h : FdM f { r with kv := .slice none 0 0, cr := cr, cp := cp, cq := cq } k) : FdM f r k := by
 rcases h with h | h | h | h
 ·exact .inl h
 ·exact .inr (.inl h)
 ·exact absurd h (by simp [Value.ownBlock])
 ·exact .inr (.inr (.inr h))
theorem FdOk.offer {Z : Nat → Prop} {w w3 w4 : World} {f : Nat} {d : FdD} {r : FdR} {us es : List Value} (h : FdOk Z w3 f d r us es) (hw : w.heap.size ≤ w3.heap.size) (s : SgD) (now : Int) {cr cp cq : Value} (h0 : BysF (Fresh w w3) w3 cr s.ck.root) (h1 : RwsF (Fresh w w3) w3 cp s.sig.parts) (h2 : RwsF (Fresh w w3) w3 cq s.sig.path)
  (hZ : ∀ g, Z g → g < w.heap.size) (hc : Chg w3 w4 (fun k => k = f)) (hb : Blk w4 f 68 (fdCells (offI d s now 0) { r with kv := .slice none 0 0, cr := cr, cp := cp, cq := cq })) :
  FdOk (Wide Z w w4) w4 f (offI d s now 0) { r with kv := .slice none 0 0, cr := cr, cp := cp, cq := cq } [] es := by
 have hf : FdM f r f := .inl rfl
 have hfw : f < w.heap.size := hZ f (h.mz f hf)
 have hD : ∀ g, FdDat Z f r g → FdDat (Wide Z w w4) f { r with kv := .slice none 0 0, cr := cr, cp := cp, cq := cq } g := fun g hg => ⟨.inl hg.1, fun e => hg.2 (FdM_kv cr cp cq e)⟩
 have hN : ∀ g, Fresh w w3 g → FdDat (Wide Z w w4) f { r with kv := .slice none 0 0, cr := cr, cp := cp, cq := cq } g := fun g hg => ⟨.inr ⟨hg.1, Nat.lt_of_lt_of_le hg.2 hc.size⟩, fun e => by
  have := hZ g (h.mz g (FdM_kv cr cp cq e))
  have := hg.1
  omega⟩
 have hFf : ∀ g, Fresh w w3 g → ¬ (g = f) := fun g hg e => by have := hg.1; omega
 have tx := h.tx.chg hc (fun g hg e => hg.2 (by rw [show g = f from e]; exact hf))
 refine ⟨hb, h.wt.chg hc (fun e => h.n1 e.symm), h.ag.chg hc (fun k hk e => h.n4 (by rw [← show k = f from e]; exact hk)), World.ownsRow_nil _ _ _ _, Nat.le_trans h.kbl hc.size, Nat.le_trans h.bal hc.size, ?_, h.n1, by simp [Value.ownBlock], by simp [Value.ownBlock], h.n4, h.n5, fun k hk => absurd hk (by simp [Value.ownBlock]), fun k hk => .inl (h.mz k (FdM_kv cr cp cq hk))⟩
 exact ⟨tx.pl.mono hD, tx.pw.mono hD, (h0.chg hc hFf).mono hN, (h1.chg hc hFf).mono hN, (h2.chg hc hFf).mono hN, tx.dr.mono hD, tx.dp.mono hD, tx.dq.mono hD, CgRow.nil _ _, tx.en, fun h0 g hg => hD g (tx.ef h0 g hg), tx.ed.mono hD⟩
theorem FdOk.setW {Z : Nat → Prop} {w w1 : World} {f : Nat} {d : FdD} {r : FdR} {us es : List Value} (h : FdOk Z w f d r us es) (l' : List WtD) (hl : l'.length = d.l.length) (hc : Chg w w1 (fun k => k = r.lb)) (hb : Blk w1 r.lb 74 (cellsW l')) : FdOk Z w1 f { d with l := l' } r us es := by
 have hm : FdM f r r.lb := .inr (.inl rfl)
 have tx := h.tx.chg hc (fun g hg e => hg.2 (by rw [show g = r.lb from e]; exact hm))
 have hk := h.blk.chg hc h.n1
 refine ⟨?_, hb, h.ag.chg hc (fun k hk e => h.n5 (by rw [← show k = r.lb from e]; exact hk)), ownsRow_chg h.kp hc (fun k hk e => h.n3 (by rw [← show k = r.lb from e]; exact hk)), Nat.le_trans h.kbl hc.size, Nat.le_trans h.bal hc.size, ⟨tx.pl, tx.pw, tx.cr, tx.cp, tx.cq, tx.dr, tx.dp, tx.dq, tx.kd, tx.en, tx.ef, tx.ed⟩, h.n1, h.n2, h.n3, h.n4, h.n5, h.n6, h.mz⟩
 unfold fdCells at hk ⊢
 show Blk w1 f _ [_, _, _, _, _, .slice (some ⟨r.lb, 0, none⟩) l'.length l'.length, _, _, _, _, _, _, _, _, _, _, _, _, _]
 rw [hl]
 exact hk
theorem FdOk.wide {Z Z' : Nat → Prop} {w : World} {f : Nat} {d : FdD} {r : FdR} {us es : List Value} (h : FdOk Z w f d r us es) (hZ : ∀ g, Z g → Z' g) : FdOk Z' w f d r us es :=
 ⟨h.blk, h.wt, h.ag, h.kp, h.kbl, h.bal, h.tx.mono (fun g hg => ⟨hZ g hg.1, hg.2⟩), h.n1, h.n2, h.n3, h.n4, h.n5, h.n6, fun k hk => hZ k (h.mz k hk)⟩

theorem cell5 {w : World} {f : Nat} {d : FdD} {r : FdR} (h : Blk w f 68 (fdCells d r)) : w.cell? ⟨f, 5, none⟩ = some (.slice (some ⟨r.lb, 0, none⟩) d.l.length d.l.length) := h.cell 5 _ rfl
set_option maxRecDepth 100000 in
set_option maxHeartbeats 8000000 in
theorem offer_nv (Z : Nat → Prop) (f : Nat) (d : FdD) (r : FdR) (us es : List Value) (v : Value) (s : SgD) (now : Int) (hsp : d.p.log.length ≤ 1000000000) (hr : s.ck.root.length ≤ 100000000) (hs : SmallSig s.sig) (w : World) (hok : FdOk Z w f d r us es) (hv : SgV w v s) (hver : ckVerB d.p.log s = false) :
  Calls Tryz.prog 11 #[.pointer (some ⟨f, 0, none⟩), v, .int .i64 now] w fun e w' => e = .returned (.bool false) ∧ Below w.heap.size w w' := by
 have HVR := Lib.hid hver
 clear hver
 obtain ⟨rt, p, q, rfl, h0, h1, h2⟩ := hv
 obtain ⟨R, cr, rfl⟩ := h0.form
 obtain ⟨P, cp, rfl⟩ := h1.form
 obtain ⟨Q, cq, rfl⟩ := h2.form
 obtain ⟨PA, pc, hpl⟩ := hok.tx.pl.1.form
 have HPL := Lib.hid hpl
 have HVF := Lib.hid (fun (wz : World) (vp v : Value) (z1 : Bys wz vp d.p.log) (z3 : SgV wz v s) => pckverify_any vp v d.p.log s (show d.p.log.length ≤ 1000000000 from hsp) hr hs wz z1 z3)
 have HX := Lib.hid (And.intro h0 (And.intro h1 h2))
 have HS := Lib.hid (And.intro hr hs)
 have HO := Lib.hid hok
 clear h0 h1 h2 hr hs hok hpl
 obtain ⟨⟨num, root⟩, ⟨ix, Ps, Qs⟩⟩ := s
 have hk0 := Blk.new w 40 [.int .i64 num, .slice R root.length cr, .int .i64 ix, .slice P Ps.length cp, .slice Q Qs.length cq]
 have hb0 := (Below.refl w.heap.size w).alloc (Nat.le_refl _) (.cells (List.toArray [.int .i64 num, .slice R root.length cr, .int .i64 ix, .slice P Ps.length cp, .slice Q Qs.length cq]) 40)
 have HW := Lib.hid (And.intro hk0 hb0)
 clear hk0 hb0
 go_enter Tryz.func11, Tryz.ntmps11
 go_wp2
 refine code_at (fun w1 => Blk w1 w.heap.size 40 [.int .i64 num, .slice R root.length cr, .int .i64 ix, .slice P Ps.length cp, .slice Q Qs.length cq] ∧ Below w.heap.size w w1) HW.out ?_
 rintro w1 ⟨k0, kb⟩
 have H1 := Lib.hid (And.intro k0 (And.intro kb (HO.out.below kb)))
 have hsz1 := k0.lt
 have c0 := k0.cell 0 _ rfl
 have c1 := k0.cell 1 _ rfl
 have c2 := k0.cell 2 _ rfl
 have c3 := k0.cell 3 _ rfl
 have c4 := k0.cell 4 _ rfl
 have kf := H1.out.2.2.blk
 have hfl := kf.lt
 have hfw := HO.out.blk.lt
 have f0 : w1.cell? ⟨f, 0, none⟩ = some (.slice PA d.p.log.length pc) := by rw [← HPL.out]; exact kf.cell 0 _ rfl
 have f6 : w1.cell? ⟨f, 6, none⟩ = some (.int .i64 d.cur.ck.num) := kf.cell 6 _ rfl
 have f11 : w1.cell? ⟨f, 11, none⟩ = some (.bool d.has) := kf.cell 11 _ rfl
 clear k0 kb kf HW
 generalize hCN : d.cur.ck.num = CN at *
 generalize hHA : d.has = HA at *
 have HE := Lib.hid (And.intro hCN hHA)
 clear hCN hHA
 cases HA with
 | false =>
  refine wp_region_held_drew (S := fun w' => w'.cell? ⟨w.heap.size, 0, none⟩ = some (.int .i64 num) ∧ w'.cell? ⟨w.heap.size, 1, none⟩ = some (.slice R root.length cr) ∧ w'.cell? ⟨w.heap.size, 2, none⟩ = some (.int .i64 ix) ∧ w'.cell? ⟨w.heap.size, 3, none⟩ = some (.slice P Ps.length cp) ∧ w'.cell? ⟨w.heap.size, 4, none⟩ = some (.slice Q Qs.length cq) ∧ w'.cell? ⟨f, 0, none⟩ = some (.slice PA d.p.log.length pc) ∧ w'.cell? ⟨f, 6, none⟩ = some (.int .i64 CN) ∧ w'.cell? ⟨f, 11, none⟩ = some (.bool false)) (by kernel_rfl) ?_ (fun hHeld => ?_)
  ·exact ⟨c0, c1, c2, c3, c4, f0, f6, f11⟩
  refine ty 0 8 rfl rfl ?_; simp only [sa, sb, sc]
  refine ty 1 9 rfl rfl ?_; simp only [sa, sb, sc]
  refine ty 2 10 rfl rfl ?_; simp only [sa, sb, sc]
  refine ty 3 11 rfl rfl ?_; simp only [sa, sb, sc]
  refine ty 4 12 rfl rfl ?_; simp only [sa, sb, sc]
  refine ty 5 13 rfl rfl ?_; simp only [sa, sb, sc]
  refine rd 6 (by kernel_rfl) rfl (fun K hK => ?_)
  go_simp
  go_at_call 27
  refine (HVF.out w1.drew _ _ (by rw [← HPL.out]; exact (H1.out.2.2.tx.pl.1.below (Below.refl _ _).drew)) ⟨_, _, _, rfl, HX.out.1.below H1.out.2.1.drew, HX.out.2.1.below H1.out.2.1.drew, HX.out.2.2.below H1.out.2.1.drew⟩).mono ?_
  rw [HVR.out]
  rintro e w2 ⟨rfl, h2⟩
  have hb2 : Below w1.heap.size w1 w2 := ⟨h2.os, h2.tape, h2.output, h2.size, h2.block⟩
  have k0 := H1.out.1.below hb2
  have kf := H1.out.2.2.blk.below hb2
  have e0 := k0.cell 0 _ rfl
  have e1 := k0.cell 1 _ rfl
  have e2 := k0.cell 2 _ rfl
  have e3 := k0.cell 3 _ rfl
  have e4 := k0.cell 4 _ rfl
  have g0 : w2.cell? ⟨f, 0, none⟩ = some (.slice PA d.p.log.length pc) := by rw [← HPL.out]; exact kf.cell 0 _ rfl
  have g6 : w2.cell? ⟨f, 6, none⟩ = some (.int .i64 CN) := by rw [← HE.out.1]; exact kf.cell 6 _ rfl
  have g11 : w2.cell? ⟨f, 11, none⟩ = some (.bool false) := by rw [← HE.out.2]; exact kf.cell 11 _ rfl
  have hfl2 := kf.lt
  have H2 := Lib.hid (And.intro k0 (And.intro (H1.out.2.1.trans (hb2.mono H1.out.2.1.size)) (H1.out.2.2.below hb2)))
  clear h2 hb2 k0 kf
  go_wp2_with fail
  refine hK.out _ _ ⟨e0, e1, e2, e3, e4, g0, g6, g11⟩ (fun hHeld6 => ?_)
  clear hK K; try simp only [Act.put, sa, sb, sc]
  refine ty 7 15 rfl rfl ?_; simp only [sa, sb, sc]
  refine ty 8 16 rfl rfl ?_; simp only [sa, sb, sc]
  refine tn 9 17 rfl rfl ?_; simp only [sa, sb, sc]
  refine tn 10 18 rfl rfl ?_; simp only [sa, sb, sc]
  refine tn 11 19 rfl rfl ?_; simp only [sa, sb, sc]
  refine tn 12 20 rfl rfl ?_; simp only [sa, sb, sc]
  refine tn 13 21 rfl rfl ?_; simp only [sa, sb, sc]
  refine tn 14 22 rfl rfl ?_; simp only [sa, sb, sc]
  refine tn 15 23 rfl rfl ?_; simp only [sa, sb, sc]
  refine tn 16 24 rfl rfl ?_; simp only [sa, sb, sc]
  refine tn 17 25 rfl rfl ?_; simp only [sa, sb, sc]
  refine tn 18 26 rfl rfl ?_; simp only [sa, sb, sc]
  refine tn 19 27 rfl rfl ?_; simp only [sa, sb, sc]
  refine tn 20 28 rfl rfl ?_; simp only [sa, sb, sc]
  refine tn 21 29 rfl rfl ?_; simp only [sa, sb, sc]
  refine tn 22 30 rfl rfl ?_; simp only [sa, sb, sc]
  refine tn 23 31 rfl rfl ?_; simp only [sa, sb, sc]
  refine tn 24 32 rfl rfl ?_; simp only [sa, sb, sc]
  refine ty 25 33 rfl rfl ?_; simp only [sa, sb, sc]
  refine wpAnyH_done (by kernel_rfl) ?_ _
  go_wp2
  go_ret
  exact ⟨rfl, H2.out.2.1⟩
 | true =>
  refine wp_region_held_drew (S := fun w' => w'.cell? ⟨w.heap.size, 0, none⟩ = some (.int .i64 num) ∧ w'.cell? ⟨w.heap.size, 1, none⟩ = some (.slice R root.length cr) ∧ w'.cell? ⟨w.heap.size, 2, none⟩ = some (.int .i64 ix) ∧ w'.cell? ⟨w.heap.size, 3, none⟩ = some (.slice P Ps.length cp) ∧ w'.cell? ⟨w.heap.size, 4, none⟩ = some (.slice Q Qs.length cq) ∧ w'.cell? ⟨f, 0, none⟩ = some (.slice PA d.p.log.length pc) ∧ w'.cell? ⟨f, 6, none⟩ = some (.int .i64 CN) ∧ w'.cell? ⟨f, 11, none⟩ = some (.bool true)) (by kernel_rfl) ?_ (fun hHeld => ?_)
  ·exact ⟨c0, c1, c2, c3, c4, f0, f6, f11⟩
  refine ty 0 8 rfl rfl ?_; simp only [sa, sb, sc]
  refine ty 1 9 rfl rfl ?_; simp only [sa, sb, sc]
  refine ty 2 10 rfl rfl ?_; simp only [sa, sb, sc]
  refine ty 3 11 rfl rfl ?_; simp only [sa, sb, sc]
  refine ty 4 12 rfl rfl ?_; simp only [sa, sb, sc]
  refine ty 5 13 rfl rfl ?_; simp only [sa, sb, sc]
  refine rd 6 (by kernel_rfl) rfl (fun K hK => ?_)
  go_simp
  go_at_call 27
  refine (HVF.out w1.drew _ _ (by rw [← HPL.out]; exact (H1.out.2.2.tx.pl.1.below (Below.refl _ _).drew)) ⟨_, _, _, rfl, HX.out.1.below H1.out.2.1.drew, HX.out.2.1.below H1.out.2.1.drew, HX.out.2.2.below H1.out.2.1.drew⟩).mono ?_
  rw [HVR.out]
  rintro e w2 ⟨rfl, h2⟩
  have hb2 : Below w1.heap.size w1 w2 := ⟨h2.os, h2.tape, h2.output, h2.size, h2.block⟩
  have k0 := H1.out.1.below hb2
  have kf := H1.out.2.2.blk.below hb2
  have e0 := k0.cell 0 _ rfl
  have e1 := k0.cell 1 _ rfl
  have e2 := k0.cell 2 _ rfl
  have e3 := k0.cell 3 _ rfl
  have e4 := k0.cell 4 _ rfl
  have g0 : w2.cell? ⟨f, 0, none⟩ = some (.slice PA d.p.log.length pc) := by rw [← HPL.out]; exact kf.cell 0 _ rfl
  have g6 : w2.cell? ⟨f, 6, none⟩ = some (.int .i64 CN) := by rw [← HE.out.1]; exact kf.cell 6 _ rfl
  have g11 : w2.cell? ⟨f, 11, none⟩ = some (.bool true) := by rw [← HE.out.2]; exact kf.cell 11 _ rfl
  have hfl2 := kf.lt
  have H2 := Lib.hid (And.intro k0 (And.intro (H1.out.2.1.trans (hb2.mono H1.out.2.1.size)) (H1.out.2.2.below hb2)))
  clear h2 hb2 k0 kf
  go_wp2_with fail
  refine hK.out _ _ ⟨e0, e1, e2, e3, e4, g0, g6, g11⟩ (fun hHeld6 => ?_)
  clear hK K; try simp only [Act.put, sa, sb, sc]
  refine ty 7 15 rfl rfl ?_; simp only [sa, sb, sc]
  refine ty 8 16 rfl rfl ?_; simp only [sa, sb, sc]
  refine tn 9 17 rfl rfl ?_; simp only [sa, sb, sc]
  refine tn 10 18 rfl rfl ?_; simp only [sa, sb, sc]
  refine tn 11 19 rfl rfl ?_; simp only [sa, sb, sc]
  refine tn 12 20 rfl rfl ?_; simp only [sa, sb, sc]
  refine tn 13 21 rfl rfl ?_; simp only [sa, sb, sc]
  refine tn 14 22 rfl rfl ?_; simp only [sa, sb, sc]
  refine tn 15 23 rfl rfl ?_; simp only [sa, sb, sc]
  refine tn 16 24 rfl rfl ?_; simp only [sa, sb, sc]
  refine tn 17 25 rfl rfl ?_; simp only [sa, sb, sc]
  refine tn 18 26 rfl rfl ?_; simp only [sa, sb, sc]
  refine tn 19 27 rfl rfl ?_; simp only [sa, sb, sc]
  refine tn 20 28 rfl rfl ?_; simp only [sa, sb, sc]
  refine tn 21 29 rfl rfl ?_; simp only [sa, sb, sc]
  refine tn 22 30 rfl rfl ?_; simp only [sa, sb, sc]
  refine tn 23 31 rfl rfl ?_; simp only [sa, sb, sc]
  refine tn 24 32 rfl rfl ?_; simp only [sa, sb, sc]
  refine ty 25 33 rfl rfl ?_; simp only [sa, sb, sc]
  refine wpAnyH_done (by kernel_rfl) ?_ _
  go_wp2
  go_ret
  exact ⟨rfl, H2.out.2.1⟩
set_option maxRecDepth 100000 in
set_option maxHeartbeats 8000000 in
theorem offer_old (Z : Nat → Prop) (f : Nat) (d : FdD) (r : FdR) (us es : List Value) (v : Value) (s : SgD) (now : Int) (hsp : d.p.log.length ≤ 1000000000) (hr : s.ck.root.length ≤ 100000000) (hs : SmallSig s.sig) (w : World) (hok : FdOk Z w f d r us es) (hv : SgV w v s) (hver : ckVerB d.p.log s = true) (hhas : d.has = true) (hle : s.ck.num ≤ d.cur.ck.num) :
  Calls Tryz.prog 11 #[.pointer (some ⟨f, 0, none⟩), v, .int .i64 now] w fun e w' => e = .returned (.bool false) ∧ Below w.heap.size w w' := by
 have HVR := Lib.hid hver
 have HHA := Lib.hid hhas
 clear hver hhas
 obtain ⟨rt, p, q, rfl, h0, h1, h2⟩ := hv
 obtain ⟨R, cr, rfl⟩ := h0.form
 obtain ⟨P, cp, rfl⟩ := h1.form
 obtain ⟨Q, cq, rfl⟩ := h2.form
 obtain ⟨PA, pc, hpl⟩ := hok.tx.pl.1.form
 have HPL := Lib.hid hpl
 have HVF := Lib.hid (fun (wz : World) (vp v : Value) (z1 : Bys wz vp d.p.log) (z3 : SgV wz v s) => pckverify_any vp v d.p.log s (show d.p.log.length ≤ 1000000000 from hsp) hr hs wz z1 z3)
 have HX := Lib.hid (And.intro h0 (And.intro h1 h2))
 have HS := Lib.hid (And.intro hr hs)
 have HO := Lib.hid hok
 clear h0 h1 h2 hr hs hok hpl
 obtain ⟨⟨num, root⟩, ⟨ix, Ps, Qs⟩⟩ := s
 have hk0 := Blk.new w 40 [.int .i64 num, .slice R root.length cr, .int .i64 ix, .slice P Ps.length cp, .slice Q Qs.length cq]
 have hb0 := (Below.refl w.heap.size w).alloc (Nat.le_refl _) (.cells (List.toArray [.int .i64 num, .slice R root.length cr, .int .i64 ix, .slice P Ps.length cp, .slice Q Qs.length cq]) 40)
 have HW := Lib.hid (And.intro hk0 hb0)
 clear hk0 hb0
 go_enter Tryz.func11, Tryz.ntmps11
 go_wp2
 refine code_at (fun w1 => Blk w1 w.heap.size 40 [.int .i64 num, .slice R root.length cr, .int .i64 ix, .slice P Ps.length cp, .slice Q Qs.length cq] ∧ Below w.heap.size w w1) HW.out ?_
 rintro w1 ⟨k0, kb⟩
 have H1 := Lib.hid (And.intro k0 (And.intro kb (HO.out.below kb)))
 have hsz1 := k0.lt
 have c0 := k0.cell 0 _ rfl
 have c1 := k0.cell 1 _ rfl
 have c2 := k0.cell 2 _ rfl
 have c3 := k0.cell 3 _ rfl
 have c4 := k0.cell 4 _ rfl
 have kf := H1.out.2.2.blk
 have hfl := kf.lt
 have hfw := HO.out.blk.lt
 have f0 : w1.cell? ⟨f, 0, none⟩ = some (.slice PA d.p.log.length pc) := by rw [← HPL.out]; exact kf.cell 0 _ rfl
 have f6 : w1.cell? ⟨f, 6, none⟩ = some (.int .i64 d.cur.ck.num) := kf.cell 6 _ rfl
 have f11 : w1.cell? ⟨f, 11, none⟩ = some (.bool d.has) := kf.cell 11 _ rfl
 clear k0 kb kf HW
 generalize hCN : d.cur.ck.num = CN at *
 generalize hHA : d.has = HA at *
 have HE := Lib.hid (And.intro hCN hHA)
 clear hCN hHA
 cases HA with
 | false =>
  exact absurd HHA.out (by decide)
 | true =>
  refine wp_region_held_drew (S := fun w' => w'.cell? ⟨w.heap.size, 0, none⟩ = some (.int .i64 num) ∧ w'.cell? ⟨w.heap.size, 1, none⟩ = some (.slice R root.length cr) ∧ w'.cell? ⟨w.heap.size, 2, none⟩ = some (.int .i64 ix) ∧ w'.cell? ⟨w.heap.size, 3, none⟩ = some (.slice P Ps.length cp) ∧ w'.cell? ⟨w.heap.size, 4, none⟩ = some (.slice Q Qs.length cq) ∧ w'.cell? ⟨f, 0, none⟩ = some (.slice PA d.p.log.length pc) ∧ w'.cell? ⟨f, 6, none⟩ = some (.int .i64 CN) ∧ w'.cell? ⟨f, 11, none⟩ = some (.bool true)) (by kernel_rfl) ?_ (fun hHeld => ?_)
  ·exact ⟨c0, c1, c2, c3, c4, f0, f6, f11⟩
  refine ty 0 8 rfl rfl ?_; simp only [sa, sb, sc]
  refine ty 1 9 rfl rfl ?_; simp only [sa, sb, sc]
  refine ty 2 10 rfl rfl ?_; simp only [sa, sb, sc]
  refine ty 3 11 rfl rfl ?_; simp only [sa, sb, sc]
  refine ty 4 12 rfl rfl ?_; simp only [sa, sb, sc]
  refine ty 5 13 rfl rfl ?_; simp only [sa, sb, sc]
  refine rd 6 (by kernel_rfl) rfl (fun K hK => ?_)
  go_simp
  go_at_call 27
  refine (HVF.out w1.drew _ _ (by rw [← HPL.out]; exact (H1.out.2.2.tx.pl.1.below (Below.refl _ _).drew)) ⟨_, _, _, rfl, HX.out.1.below H1.out.2.1.drew, HX.out.2.1.below H1.out.2.1.drew, HX.out.2.2.below H1.out.2.1.drew⟩).mono ?_
  rw [HVR.out]
  rintro e w2 ⟨rfl, h2⟩
  have hb2 : Below w1.heap.size w1 w2 := ⟨h2.os, h2.tape, h2.output, h2.size, h2.block⟩
  have k0 := H1.out.1.below hb2
  have kf := H1.out.2.2.blk.below hb2
  have e0 := k0.cell 0 _ rfl
  have e1 := k0.cell 1 _ rfl
  have e2 := k0.cell 2 _ rfl
  have e3 := k0.cell 3 _ rfl
  have e4 := k0.cell 4 _ rfl
  have g0 : w2.cell? ⟨f, 0, none⟩ = some (.slice PA d.p.log.length pc) := by rw [← HPL.out]; exact kf.cell 0 _ rfl
  have g6 : w2.cell? ⟨f, 6, none⟩ = some (.int .i64 CN) := by rw [← HE.out.1]; exact kf.cell 6 _ rfl
  have g11 : w2.cell? ⟨f, 11, none⟩ = some (.bool true) := by rw [← HE.out.2]; exact kf.cell 11 _ rfl
  have hfl2 := kf.lt
  have H2 := Lib.hid (And.intro k0 (And.intro (H1.out.2.1.trans (hb2.mono H1.out.2.1.size)) (H1.out.2.2.below hb2)))
  clear h2 hb2 k0 kf
  go_wp2_with fail
  refine hK.out _ _ ⟨e0, e1, e2, e3, e4, g0, g6, g11⟩ (fun hHeld6 => ?_)
  clear hK K; try simp only [Act.put, sa, sb, sc]
  refine ty 7 15 rfl rfl ?_; simp only [sa, sb, sc]
  refine ty 8 16 rfl rfl ?_; simp only [sa, sb, sc]
  refine ty 9 17 rfl rfl ?_; simp only [sa, sb, sc]
  refine ty 10 18 rfl rfl ?_; simp only [sa, sb, sc]
  refine ty 11 19 rfl rfl ?_; simp only [sa, sb, sc]
  refine ty 12 20 rfl rfl ?_; simp only [sa, sb, sc]
  refine ty 13 21 rfl rfl ?_; simp only [sa, sb, sc]
  refine ty 14 22 rfl rfl ?_; simp only [sa, sb, sc]
  refine ty 15 23 rfl rfl ?_; simp only [sa, sb, sc]
  refine ty 16 24 rfl rfl ?_; simp only [sa, sb, sc]
  refine ty 17 25 rfl rfl ?_; simp only [sa, sb, sc]
  refine ty 18 26 rfl rfl ?_; simp only [sa, sb, sc]
  refine ty 19 27 rfl rfl ?_; simp only [sa, sb, sc]
  refine ty 20 28 rfl rfl ?_; simp only [sa, sb, sc]
  refine ty 21 29 rfl rfl ?_; simp only [sa, sb, sc]
  refine ty 22 30 rfl rfl ?_; simp only [sa, sb, sc]
  refine ty 23 31 rfl rfl ?_; simp only [sa, sb, sc]
  refine ty 24 32 rfl rfl ?_; simp only [sa, sb, sc]
  refine ty 25 33 rfl rfl ?_; simp only [sa, sb, sc]
  refine wpAnyH_done (by kernel_rfl) ?_ _
  go_wp2
  go_ret
  exact ⟨rfl, H2.out.2.1⟩
theorem offer_no (Z : Nat → Prop) (f : Nat) (d : FdD) (r : FdR) (us es : List Value) (v : Value) (s : SgD) (now : Int) (hsp : d.p.log.length ≤ 1000000000) (hr : s.ck.root.length ≤ 100000000) (hs : SmallSig s.sig) (w : World) (hok : FdOk Z w f d r us es) (hv : SgV w v s) (hno : offB d s = false) :
  Calls Tryz.prog 11 #[.pointer (some ⟨f, 0, none⟩), v, .int .i64 now] w fun e w' => e = .returned (.bool false) ∧ Below w.heap.size w w' := by
 cases hver : ckVerB d.p.log s with
 | false => exact offer_nv Z f d r us es v s now hsp hr hs w hok hv hver
 | true =>
  simp only [offB, hver, Bool.true_and, Bool.not_eq_false', Bool.and_eq_true, decide_eq_true_eq] at hno
  exact offer_old Z f d r us es v s now hsp hr hs w hok hv hver hno.1 hno.2
def OffPost (Z : Nat → Prop) (w : World) (f : Nat) (d : FdD) (s : SgD) (now : Int) (e : Ending) (w' : World) : Prop := e = .returned (.bool true) ∧ FdAt (Wide Z w w') w' f (offD d s now) ∧ Chg w w' Z
set_option maxRecDepth 100000 in
set_option maxHeartbeats 8000000 in
theorem offer_yes (Z : Nat → Prop) (f : Nat) (d : FdD) (r : FdR) (us es : List Value) (v : Value) (s : SgD) (now : Int) (hsp : d.p.log.length ≤ 1000000000) (hr : s.ck.root.length ≤ 100000000) (hs : SmallSig s.sig) (w : World) (hok : FdOk Z w f d r us es) (hv : SgV w v s) (hver : ckVerB d.p.log s = true) (hnew : d.has = true → d.cur.ck.num < s.ck.num) (hm : d.m.length ≤ 1000000) (ho : d.ord ≤ 100000000) (hl : d.l.length ≤ 1000) (hZ : ∀ g, Z g → g < w.heap.size) :
  Calls Tryz.prog 11 #[.pointer (some ⟨f, 0, none⟩), v, .int .i64 now] w (OffPost Z w f d s now) := by
 have HVR := Lib.hid hver
 have HNW := Lib.hid hnew
 have HZ := Lib.hid hZ
 clear hver hnew hZ
 obtain ⟨rt, p, q, rfl, h0, h1, h2⟩ := hv
 obtain ⟨R, cr, rfl⟩ := h0.form
 obtain ⟨P, cp, rfl⟩ := h1.form
 obtain ⟨Q, cq, rfl⟩ := h2.form
 obtain ⟨PA, pc, hpl⟩ := hok.tx.pl.1.form
 have HPL := Lib.hid hpl
 have HVF := Lib.hid (fun (wz : World) (vp v : Value) (z1 : Bys wz vp d.p.log) (z3 : SgV wz v s) => pckverify_any vp v d.p.log s (show d.p.log.length ≤ 1000000000 from hsp) hr hs wz z1 z3)
 have HX := Lib.hid (And.intro h0 (And.intro h1 h2))
 have HS := Lib.hid (And.intro hr hs)
 have HO := Lib.hid hok
 clear h0 h1 h2 hr hs hok hpl
 obtain ⟨⟨num, root⟩, ⟨ix, Ps, Qs⟩⟩ := s
 have hk0 := Blk.new w 40 [.int .i64 num, .slice R root.length cr, .int .i64 ix, .slice P Ps.length cp, .slice Q Qs.length cq]
 have hb0 := (Below.refl w.heap.size w).alloc (Nat.le_refl _) (.cells (List.toArray [.int .i64 num, .slice R root.length cr, .int .i64 ix, .slice P Ps.length cp, .slice Q Qs.length cq]) 40)
 have HW := Lib.hid (And.intro hk0 hb0)
 clear hk0 hb0
 go_enter Tryz.func11, Tryz.ntmps11
 go_wp2
 refine code_at (fun w1 => Blk w1 w.heap.size 40 [.int .i64 num, .slice R root.length cr, .int .i64 ix, .slice P Ps.length cp, .slice Q Qs.length cq] ∧ Below w.heap.size w w1) HW.out ?_
 rintro w1 ⟨k0, kb⟩
 have H1 := Lib.hid (And.intro k0 (And.intro kb (HO.out.below kb)))
 have hsz1 := k0.lt
 have c0 := k0.cell 0 _ rfl
 have c1 := k0.cell 1 _ rfl
 have c2 := k0.cell 2 _ rfl
 have c3 := k0.cell 3 _ rfl
 have c4 := k0.cell 4 _ rfl
 have kf := H1.out.2.2.blk
 have hfl := kf.lt
 have hfw := HO.out.blk.lt
 have f0 : w1.cell? ⟨f, 0, none⟩ = some (.slice PA d.p.log.length pc) := by rw [← HPL.out]; exact kf.cell 0 _ rfl
 have f6 : w1.cell? ⟨f, 6, none⟩ = some (.int .i64 d.cur.ck.num) := kf.cell 6 _ rfl
 have f11 : w1.cell? ⟨f, 11, none⟩ = some (.bool d.has) := kf.cell 11 _ rfl
 clear k0 kb kf HW
 generalize hCN : d.cur.ck.num = CN at *
 generalize hHA : d.has = HA at *
 have HE := Lib.hid (And.intro hCN hHA)
 clear hCN hHA
 cases HA with
 | false =>
  refine wp_region_held_drew (S := fun w' => w'.cell? ⟨w.heap.size, 0, none⟩ = some (.int .i64 num) ∧ w'.cell? ⟨w.heap.size, 1, none⟩ = some (.slice R root.length cr) ∧ w'.cell? ⟨w.heap.size, 2, none⟩ = some (.int .i64 ix) ∧ w'.cell? ⟨w.heap.size, 3, none⟩ = some (.slice P Ps.length cp) ∧ w'.cell? ⟨w.heap.size, 4, none⟩ = some (.slice Q Qs.length cq) ∧ w'.cell? ⟨f, 0, none⟩ = some (.slice PA d.p.log.length pc) ∧ w'.cell? ⟨f, 6, none⟩ = some (.int .i64 CN) ∧ w'.cell? ⟨f, 11, none⟩ = some (.bool false)) (by kernel_rfl) ?_ (fun hHeld => ?_)
  ·exact ⟨c0, c1, c2, c3, c4, f0, f6, f11⟩
  refine ty 0 8 rfl rfl ?_; simp only [sa, sb, sc]
  refine ty 1 9 rfl rfl ?_; simp only [sa, sb, sc]
  refine ty 2 10 rfl rfl ?_; simp only [sa, sb, sc]
  refine ty 3 11 rfl rfl ?_; simp only [sa, sb, sc]
  refine ty 4 12 rfl rfl ?_; simp only [sa, sb, sc]
  refine ty 5 13 rfl rfl ?_; simp only [sa, sb, sc]
  refine rd 6 (by kernel_rfl) rfl (fun K hK => ?_)
  go_simp
  go_at_call 27
  refine (HVF.out w1.drew _ _ (by rw [← HPL.out]; exact (H1.out.2.2.tx.pl.1.below (Below.refl _ _).drew)) ⟨_, _, _, rfl, HX.out.1.below H1.out.2.1.drew, HX.out.2.1.below H1.out.2.1.drew, HX.out.2.2.below H1.out.2.1.drew⟩).mono ?_
  rw [HVR.out]
  rintro e w2 ⟨rfl, h2⟩
  have hb2 : Below w1.heap.size w1 w2 := ⟨h2.os, h2.tape, h2.output, h2.size, h2.block⟩
  have k0 := H1.out.1.below hb2
  have kf := H1.out.2.2.blk.below hb2
  have e0 := k0.cell 0 _ rfl
  have e1 := k0.cell 1 _ rfl
  have e2 := k0.cell 2 _ rfl
  have e3 := k0.cell 3 _ rfl
  have e4 := k0.cell 4 _ rfl
  have g0 : w2.cell? ⟨f, 0, none⟩ = some (.slice PA d.p.log.length pc) := by rw [← HPL.out]; exact kf.cell 0 _ rfl
  have g6 : w2.cell? ⟨f, 6, none⟩ = some (.int .i64 CN) := by rw [← HE.out.1]; exact kf.cell 6 _ rfl
  have g11 : w2.cell? ⟨f, 11, none⟩ = some (.bool false) := by rw [← HE.out.2]; exact kf.cell 11 _ rfl
  have hfl2 := kf.lt
  have H2 := Lib.hid (And.intro k0 (And.intro (H1.out.2.1.trans (hb2.mono H1.out.2.1.size)) (H1.out.2.2.below hb2)))
  clear h2 hb2 k0 kf
  go_wp2_with fail
  refine hK.out _ _ ⟨e0, e1, e2, e3, e4, g0, g6, g11⟩ (fun hHeld6 => ?_)
  clear hK K; try simp only [Act.put, sa, sb, sc]
  refine ty 7 15 rfl rfl ?_; simp only [sa, sb, sc]
  refine ty 8 16 rfl rfl ?_; simp only [sa, sb, sc]
  refine ty 9 17 rfl rfl ?_; simp only [sa, sb, sc]
  refine ty 10 18 rfl rfl ?_; simp only [sa, sb, sc]
  refine ty 11 19 rfl rfl ?_; simp only [sa, sb, sc]
  refine ty 12 20 rfl rfl ?_; simp only [sa, sb, sc]
  refine ty 13 21 rfl rfl ?_; simp only [sa, sb, sc]
  refine tn 14 22 rfl rfl ?_; simp only [sa, sb, sc]
  refine tn 15 23 rfl rfl ?_; simp only [sa, sb, sc]
  refine tn 16 24 rfl rfl ?_; simp only [sa, sb, sc]
  refine tn 17 25 rfl rfl ?_; simp only [sa, sb, sc]
  refine tn 18 26 rfl rfl ?_; simp only [sa, sb, sc]
  refine tn 19 27 rfl rfl ?_; simp only [sa, sb, sc]
  refine tn 20 28 rfl rfl ?_; simp only [sa, sb, sc]
  refine tn 21 29 rfl rfl ?_; simp only [sa, sb, sc]
  refine tn 22 30 rfl rfl ?_; simp only [sa, sb, sc]
  refine tn 23 31 rfl rfl ?_; simp only [sa, sb, sc]
  refine ty 24 32 rfl rfl ?_; simp only [sa, sb, sc]
  refine ty 25 33 rfl rfl ?_; simp only [sa, sb, sc]
  refine wpAnyH_done (by kernel_rfl) ?_ _
  clear hHeld hHeld6 c0 c1 c2 c3 c4 f0 f6 f11 e0 e1 e2 e3 e4 g0 g6 g11
  have k0 := H2.out.1
  have e0 := k0.cell 0 _ rfl
  have e1 := k0.cell 1 _ rfl
  have e2 := k0.cell 2 _ rfl
  have e3 := k0.cell 3 _ rfl
  have e4 := k0.cell 4 _ rfl
  clear k0
  go_wp2_with fail
  refine (ckcopy_any _ ⟨⟨num, root⟩, ⟨ix, Ps, Qs⟩⟩ HS.out.1 HS.out.2 w2 ⟨_, _, _, rfl, HX.out.1.below H2.out.2.1, HX.out.2.1.below H2.out.2.1, HX.out.2.2.below H2.out.2.1⟩).mono ?_
  rintro e w3 ⟨v3, rfl, ⟨r3, p3, q3, rfl, h3, h4, h5⟩, h6⟩
  obtain ⟨A3, n3, rfl⟩ := h3.1.form
  obtain ⟨A4, n4, rfl⟩ := h4.rws.form
  obtain ⟨A5, n5, rfl⟩ := h5.rws.form
  have hb3 := H2.out.2.1.trans (h6.mono H2.out.2.1.size)
  have hk3 := H2.out.2.2.below h6
  have H3 := Lib.hid (And.intro (h3.mono (fun g hg => hg.wide (w0 := w) (w1 := w3) H2.out.2.1.size (Nat.le_refl _))) (And.intro (h4.mono (fun g hg => hg.wide (w0 := w) (w1 := w3) H2.out.2.1.size (Nat.le_refl _))) (And.intro (h5.mono (fun g hg => hg.wide (w0 := w) (w1 := w3) H2.out.2.1.size (Nat.le_refl _))) (And.intro hb3 hk3))))
  have s6 := hk3.blk.cell 6 _ rfl
  have s7 := hk3.blk.cell 7 _ rfl
  have s8 := hk3.blk.cell 8 _ rfl
  have s9 := hk3.blk.cell 9 _ rfl
  have s10 := hk3.blk.cell 10 _ rfl
  have s11 := hk3.blk.cell 11 _ rfl
  have s12 := hk3.blk.cell 12 _ rfl
  have y6 := hk3.blk.free 6
  have y7 := hk3.blk.free 7
  have y8 := hk3.blk.free 8
  have y9 := hk3.blk.free 9
  have y10 := hk3.blk.free 10
  have y11 := hk3.blk.free 11
  have y12 := hk3.blk.free 12
  have r5 := cell5 hk3.blk
  have hfl3 := hk3.blk.lt
  clear h3 h4 h5 h6 hb3 hk3 e0 e1 e2 e3 e4
  go_wp2
  have hc : Chg w3 (((((((w3.setCell ⟨f, 6, none⟩ (.int .i64 num)).setCell ⟨f, 7, none⟩ (.slice A3 root.length n3)).setCell ⟨f, 8, none⟩ (.int .i64 ix)).setCell ⟨f, 9, none⟩ (.slice A4 Ps.length n4)).setCell ⟨f, 10, none⟩ (.slice A5 Qs.length n5)).setCell ⟨f, 11, none⟩ (.bool true)).setCell ⟨f, 12, none⟩ (.slice none 0 0)) (fun k => k = f) := chg_cell (chg_cell (chg_cell (chg_cell (chg_cell (chg_cell (chg_cell (Chg.refl w3 _) 6 _) 7 _) 8 _) 9 _) 10 _) 11 _) 12 _
  have hb : Blk (((((((w3.setCell ⟨f, 6, none⟩ (.int .i64 num)).setCell ⟨f, 7, none⟩ (.slice A3 root.length n3)).setCell ⟨f, 8, none⟩ (.int .i64 ix)).setCell ⟨f, 9, none⟩ (.slice A4 Ps.length n4)).setCell ⟨f, 10, none⟩ (.slice A5 Qs.length n5)).setCell ⟨f, 11, none⟩ (.bool true)).setCell ⟨f, 12, none⟩ (.slice none 0 0)) f 68 (fdCells (offI d ⟨⟨num, root⟩, ⟨ix, Ps, Qs⟩⟩ now 0) { r with kv := .slice none 0 0, cr := .slice A3 root.length n3, cp := .slice A4 Ps.length n4, cq := .slice A5 Qs.length n5 }) := ((((((H3.out.2.2.2.2.blk.set 6 _ (by simp [fdCells])).set 7 _ (by simp [fdCells])).set 8 _ (by simp [fdCells])).set 9 _ (by simp [fdCells])).set 10 _ (by simp [fdCells])).set 11 _ (by simp [fdCells])).set 12 _ (by simp [fdCells])
  have hof := H3.out.2.2.2.2.offer (w := w) H3.out.2.2.2.1.size ⟨⟨num, root⟩, ⟨ix, Ps, Qs⟩⟩ now H3.out.1 H3.out.2.1 H3.out.2.2.1 HZ.out hc hb
  have hchw : Chg w (((((((w3.setCell ⟨f, 6, none⟩ (.int .i64 num)).setCell ⟨f, 7, none⟩ (.slice A3 root.length n3)).setCell ⟨f, 8, none⟩ (.int .i64 ix)).setCell ⟨f, 9, none⟩ (.slice A4 Ps.length n4)).setCell ⟨f, 10, none⟩ (.slice A5 Qs.length n5)).setCell ⟨f, 11, none⟩ (.bool true)).setCell ⟨f, 12, none⟩ (.slice none 0 0)) Z := (Chg.of_below (S := Z) H3.out.2.2.2.1).trans hc (fun i _ e => by rw [show i = f from e]; exact HO.out.mz f (.inl rfl))
  generalize ((((((w3.setCell ⟨f, 6, none⟩ (.int .i64 num)).setCell ⟨f, 7, none⟩ (.slice A3 root.length n3)).setCell ⟨f, 8, none⟩ (.int .i64 ix)).setCell ⟨f, 9, none⟩ (.slice A4 Ps.length n4)).setCell ⟨f, 10, none⟩ (.slice A5 Qs.length n5)).setCell ⟨f, 11, none⟩ (.bool true)).setCell ⟨f, 12, none⟩ (.slice none 0 0) = W at *
  have HI0 : Hid (∃ Zi rr, FdOk Zi W f (offI d ⟨⟨num, root⟩, ⟨ix, Ps, Qs⟩⟩ now 0) rr [] es ∧ (∀ g, Zi g → Wide Z w W g) ∧ Chg w W Z) := Lib.hid ⟨_, _, hof, fun g hg => hg, hchw⟩
  clear hc hb hof hchw s6 s7 s8 s9 s10 s11 s12 y6 y7 y8 y9 y10 y11 y12 r5 hfl3
  go_loopw [50] (fun v50 wr => ∃ i : Nat, v50 = .int .i64 i ∧ i ≤ d.l.length ∧ Hid (∃ Zi rr, FdOk Zi wr f (offI d ⟨⟨num, root⟩, ⟨ix, Ps, Qs⟩⟩ now i) rr [] es ∧ (∀ g, Zi g → Wide Z w wr g) ∧ Chg w wr Z)) (fun v _ => d.l.length - (intOf v).toNat)
  case atStart => exact ⟨0, rfl, Nat.zero_le _, HI0⟩
  case round =>
   obtain ⟨i, rfl, hi, HJ⟩ := hrel
   clear HI0
   by_cases hlti : i < d.l.length
   ·obtain ⟨Zi, rr, hJ1, hJ2, hJ3⟩ := HJ.out
    have r5 := cell5 hJ1.blk
    rw [show (offI d ⟨⟨num, root⟩, ⟨ix, Ps, Qs⟩⟩ now i).l.length = d.l.length from offL_length _ _] at r5
    have hw1 : wr.cell? ⟨rr.lb, i * 3 + 1, none⟩ = some (.int .i64 d.l[i].tries) := hJ1.wt.cell _ _ (by have := (cellsW_at (offL d.l i) i (by rw [offL_length]; exact hlti)).2.1; rw [offL_at d.l i hlti] at this; exact this)
    have hw2 : wr.cell? ⟨rr.lb, i * 3 + 2, none⟩ = some (.bool d.l[i].kept) := hJ1.wt.cell _ _ (by have := (cellsW_at (offL d.l i) i (by rw [offL_length]; exact hlti)).2.2; rw [offL_at d.l i hlti] at this; exact this)
    have hz1 := hJ1.wt.free (i * 3 + 1)
    have hz2 := hJ1.wt.free (i * 3 + 2)
    have hfr := hJ1.blk.lt
    have hlr := hJ1.wt.lt
    have hne : f ≠ rr.lb := hJ1.n1
    have HJ1 := Lib.hid (And.intro hJ1 (And.intro hJ2 hJ3))
    clear hJ1 hJ2 hJ3 HJ
    generalize hlb : rr.lb = lb at *
    have HLB := Lib.hid hlb
    clear hlb
    go_wp2
    refine wp_region_held_drew (S := fun w' => w'.cell? ⟨f, 5, none⟩ = some (.slice (some ⟨lb, 0, none⟩) d.l.length d.l.length)) (by kernel_rfl) ?_ (fun hHeld => ?_)
    ·exact r5
    refine ty 0 53 rfl rfl ?_; simp only [sa, sb, sc]
    refine ty 1 54 rfl rfl ?_; simp only [sa, sb, sc]
    refine ty 2 55 rfl rfl ?_; simp only [sa, sb, sc]
    refine ty 3 56 rfl rfl ?_; simp only [sa, sb, sc]
    refine ty 4 57 rfl rfl ?_; simp only [sa, sb, sc]
    refine ty 5 58 rfl rfl ?_; simp only [sa, sb, sc]
    refine ty 6 59 rfl rfl ?_; simp only [sa, sb, sc]
    refine ty 7 60 rfl rfl ?_; simp only [sa, sb, sc]
    refine ty 8 61 rfl rfl ?_; simp only [sa, sb, sc]
    refine ty 9 62 rfl rfl ?_; simp only [sa, sb, sc]
    refine ty 10 63 rfl rfl ?_; simp only [sa, sb, sc]
    refine ty 11 64 rfl rfl ?_; simp only [sa, sb, sc]
    refine rd 12 (by kernel_rfl) rfl (fun K hK => ?_)
    go_simp
    refine hK.out _ _ (by refine (World.cell?_setCell_far _ _ _ _ (show lb ≠ f from fun e => hne e.symm)).trans ?_; exact r5) (fun hHeld12 => ?_)
    clear hK K; try simp only [Act.put, sa, sb, sc]
    refine ty 13 65 rfl rfl ?_; simp only [sa, sb, sc]
    refine ty 14 66 rfl rfl ?_; simp only [sa, sb, sc]
    refine rd 15 (by kernel_rfl) rfl (fun K hK => ?_)
    go_simp
    refine hK.out _ _ (by refine (World.cell?_setCell_far _ _ _ _ (show lb ≠ f from fun e => hne e.symm)).trans ?_; refine (World.cell?_setCell_far _ _ _ _ (show lb ≠ f from fun e => hne e.symm)).trans ?_; exact r5) (fun hHeld15 => ?_)
    clear hK K; try simp only [Act.put, sa, sb, sc]
    refine wpAnyH_done (by kernel_rfl) ?_ _
    have hcs : Chg wr (((wr.setCell ⟨lb, i * 3 + 1, none⟩ (.int .i64 0)).setCell ⟨lb, i * 3 + 2, none⟩ (.bool false)).drew) (fun k => k = rr.lb) := by rw [HLB.out]; exact (chg_cell (chg_cell (Chg.refl wr _) _ _) _ _).drew
    have hwt : Blk (((wr.setCell ⟨lb, i * 3 + 1, none⟩ (.int .i64 0)).setCell ⟨lb, i * 3 + 2, none⟩ (.bool false)).drew) rr.lb 74 (cellsW (offL d.l (i + 1))) := by
     have h9 : Blk wr rr.lb 74 (cellsW (offL d.l i)) := HJ1.out.1.wt
     have hlen : i * 3 + 2 < (cellsW (offL d.l i)).length := by rw [cellsW_length, offL_length]; omega
     rw [offL_succ d.l i hlti, cellsW_rst (offL d.l i) i (rst d.l[i]) (by rw [offL_length]; exact hlti) (by rw [offL_at d.l i hlti]; rfl), ← HLB.out]
     exact (h9.set (i * 3 + 1) _ (by omega)).set (i * 3 + 2) _ (by simpa using hlen)
    have hst := HJ1.out.1.setW (offL d.l (i + 1)) (by rw [offL_length]; exact (offL_length _ _).symm) hcs hwt
    have hmz : ∀ g, FdM f rr g → Wide Z w wr g := fun g hg => HJ1.out.2.1 g (HJ1.out.1.mz g hg)
    have hlw : ∀ g, g < w.heap.size → Wide Z w wr g → Z g := fun g hg h => by
     rcases h with h | h
     ·exact h
     ·exact absurd h.1 (by omega)
    have hch2 : Chg w (((wr.setCell ⟨lb, i * 3 + 1, none⟩ (.int .i64 0)).setCell ⟨lb, i * 3 + 2, none⟩ (.bool false)).drew) Z := HJ1.out.2.2.trans hcs (fun g hg e => hlw g hg (hmz g (.inr (.inl e))))
    have hz5 : (((wr.setCell ⟨lb, i * 3 + 1, none⟩ (.int .i64 0)).setCell ⟨lb, i * 3 + 2, none⟩ (.bool false)).drew).heap.size = wr.heap.size := by show ((wr.setCell _ _).setCell _ _).heap.size = _; simp
    have HP := Lib.hid (plan_any Zi f _ rr [] es now (i : Int) (by have := offM_length d.m d.ord now i; show (offM d.m d.ord now i).length ≤ _; omega) (by show ordN d.ord i ≤ _; rw [ordN_eq]; omega) (((wr.setCell ⟨lb, i * 3 + 1, none⟩ (.int .i64 0)).setCell ⟨lb, i * 3 + 2, none⟩ (.bool false)).drew) hst)
    have H5 := Lib.hid (And.intro hmz (And.intro hlw (And.intro hch2 hz5)))
    clear hcs hwt hst hmz hlw hch2 hz5 hw1 hw2 hz1 hz2 hHeld hHeld12 hHeld15 r5
    generalize ((wr.setCell ⟨lb, i * 3 + 1, none⟩ (.int .i64 0)).setCell ⟨lb, i * 3 + 2, none⟩ (.bool false)).drew = W5 at *
    go_wp2_with fail
    refine HP.out.mono ?_
    rintro e w6 ⟨v6, rfl, h7, h8, -⟩
    have HN : Hid (∃ Zi rr, FdOk Zi w6 f (offI d ⟨⟨num, root⟩, ⟨ix, Ps, Qs⟩⟩ now (i + 1)) rr [] es ∧ (∀ g, Zi g → Wide Z w w6 g) ∧ Chg w w6 Z) := Lib.hid (by
     have hs8 := h8.size
     have hs9 := HJ1.out.2.2.size
     refine ⟨_, _, h7, fun g hg => ?_, H5.out.2.2.1.trans h8 (fun g hg e => H5.out.2.1 g hg (H5.out.1 g (.inr (.inr (.inr e)))))⟩
     rcases hg with hg | hg
     ·rcases HJ1.out.2.1 g hg with h | h
      ·exact .inl h
      ·exact .inr ⟨h.1, by have := h.2; have := H5.out.2.2.2; omega⟩
     ·exact .inr ⟨by have := hg.1; have := H5.out.2.2.2; omega, hg.2⟩)
    clear h7 h8
    go_wp2
    go_roundw
    case rel => exact ⟨i + 1, by go_num, by omega, HN⟩
    case measure => simp [intOf]; omega
   ·obtain rfl : i = d.l.length := by omega
    have HF := Lib.hid HJ.out
    clear HJ
    go_wp2
    go_ret
    obtain ⟨Zi, rr, h1, h2, h3⟩ := HF.out
    refine ⟨rfl, ⟨rr, [], es, ?_⟩, h3⟩
    have h4 := h1.wide h2
    have e : offI d ⟨⟨num, root⟩, ⟨ix, Ps, Qs⟩⟩ now d.l.length = offD d ⟨⟨num, root⟩, ⟨ix, Ps, Qs⟩⟩ now := by unfold offI offD; rw [offL_all]
    rwa [e] at h4
 | true =>
  have hlt : CN < num := HNW.out rfl
  have hle : ¬ num ≤ CN := by omega
  refine wp_region_held_drew (S := fun w' => w'.cell? ⟨w.heap.size, 0, none⟩ = some (.int .i64 num) ∧ w'.cell? ⟨w.heap.size, 1, none⟩ = some (.slice R root.length cr) ∧ w'.cell? ⟨w.heap.size, 2, none⟩ = some (.int .i64 ix) ∧ w'.cell? ⟨w.heap.size, 3, none⟩ = some (.slice P Ps.length cp) ∧ w'.cell? ⟨w.heap.size, 4, none⟩ = some (.slice Q Qs.length cq) ∧ w'.cell? ⟨f, 0, none⟩ = some (.slice PA d.p.log.length pc) ∧ w'.cell? ⟨f, 6, none⟩ = some (.int .i64 CN) ∧ w'.cell? ⟨f, 11, none⟩ = some (.bool true)) (by kernel_rfl) ?_ (fun hHeld => ?_)
  ·exact ⟨c0, c1, c2, c3, c4, f0, f6, f11⟩
  refine ty 0 8 rfl rfl ?_; simp only [sa, sb, sc]
  refine ty 1 9 rfl rfl ?_; simp only [sa, sb, sc]
  refine ty 2 10 rfl rfl ?_; simp only [sa, sb, sc]
  refine ty 3 11 rfl rfl ?_; simp only [sa, sb, sc]
  refine ty 4 12 rfl rfl ?_; simp only [sa, sb, sc]
  refine ty 5 13 rfl rfl ?_; simp only [sa, sb, sc]
  refine rd 6 (by kernel_rfl) rfl (fun K hK => ?_)
  go_simp
  go_at_call 27
  refine (HVF.out w1.drew _ _ (by rw [← HPL.out]; exact (H1.out.2.2.tx.pl.1.below (Below.refl _ _).drew)) ⟨_, _, _, rfl, HX.out.1.below H1.out.2.1.drew, HX.out.2.1.below H1.out.2.1.drew, HX.out.2.2.below H1.out.2.1.drew⟩).mono ?_
  rw [HVR.out]
  rintro e w2 ⟨rfl, h2⟩
  have hb2 : Below w1.heap.size w1 w2 := ⟨h2.os, h2.tape, h2.output, h2.size, h2.block⟩
  have k0 := H1.out.1.below hb2
  have kf := H1.out.2.2.blk.below hb2
  have e0 := k0.cell 0 _ rfl
  have e1 := k0.cell 1 _ rfl
  have e2 := k0.cell 2 _ rfl
  have e3 := k0.cell 3 _ rfl
  have e4 := k0.cell 4 _ rfl
  have g0 : w2.cell? ⟨f, 0, none⟩ = some (.slice PA d.p.log.length pc) := by rw [← HPL.out]; exact kf.cell 0 _ rfl
  have g6 : w2.cell? ⟨f, 6, none⟩ = some (.int .i64 CN) := by rw [← HE.out.1]; exact kf.cell 6 _ rfl
  have g11 : w2.cell? ⟨f, 11, none⟩ = some (.bool true) := by rw [← HE.out.2]; exact kf.cell 11 _ rfl
  have hfl2 := kf.lt
  have H2 := Lib.hid (And.intro k0 (And.intro (H1.out.2.1.trans (hb2.mono H1.out.2.1.size)) (H1.out.2.2.below hb2)))
  clear h2 hb2 k0 kf
  go_wp2_with fail
  refine hK.out _ _ ⟨e0, e1, e2, e3, e4, g0, g6, g11⟩ (fun hHeld6 => ?_)
  clear hK K; try simp only [Act.put, sa, sb, sc]
  refine ty 7 15 rfl rfl ?_; simp only [sa, sb, sc]
  refine ty 8 16 rfl rfl ?_; simp only [sa, sb, sc]
  refine ty 9 17 rfl rfl ?_; simp only [sa, sb, sc]
  refine ty 10 18 rfl rfl ?_; simp only [sa, sb, sc]
  refine ty 11 19 rfl rfl ?_; simp only [sa, sb, sc]
  refine ty 12 20 rfl rfl ?_; simp only [sa, sb, sc]
  refine ty 13 21 rfl rfl ?_; simp only [sa, sb, sc]
  refine ty 14 22 rfl rfl ?_; simp only [sa, sb, sc]
  refine ty 15 23 rfl rfl ?_; simp only [sa, sb, sc]
  refine ty 16 24 rfl rfl ?_; simp only [sa, sb, sc]
  refine ty 17 25 rfl rfl ?_; simp only [sa, sb, sc]
  refine ty 18 26 rfl rfl ?_; simp only [sa, sb, sc]
  refine ty 19 27 rfl rfl ?_; simp only [sa, sb, sc]
  refine ty 20 28 rfl rfl ?_; simp only [sa, sb, sc]
  refine ty 21 29 rfl rfl ?_; simp only [sa, sb, sc]
  refine ty 22 30 rfl rfl ?_; simp only [sa, sb, sc]
  refine ty 23 31 rfl rfl ?_; simp only [sa, sb, sc]
  refine ty 24 32 rfl rfl ?_; simp only [sa, sb, sc]
  refine ty 25 33 rfl rfl ?_; simp only [sa, sb, sc]
  refine wpAnyH_done (by kernel_rfl) ?_ _
  clear hHeld hHeld6 c0 c1 c2 c3 c4 f0 f6 f11 e0 e1 e2 e3 e4 g0 g6 g11
  have k0 := H2.out.1
  have e0 := k0.cell 0 _ rfl
  have e1 := k0.cell 1 _ rfl
  have e2 := k0.cell 2 _ rfl
  have e3 := k0.cell 3 _ rfl
  have e4 := k0.cell 4 _ rfl
  clear k0
  go_wp2_with fail
  refine (ckcopy_any _ ⟨⟨num, root⟩, ⟨ix, Ps, Qs⟩⟩ HS.out.1 HS.out.2 w2 ⟨_, _, _, rfl, HX.out.1.below H2.out.2.1, HX.out.2.1.below H2.out.2.1, HX.out.2.2.below H2.out.2.1⟩).mono ?_
  rintro e w3 ⟨v3, rfl, ⟨r3, p3, q3, rfl, h3, h4, h5⟩, h6⟩
  obtain ⟨A3, n3, rfl⟩ := h3.1.form
  obtain ⟨A4, n4, rfl⟩ := h4.rws.form
  obtain ⟨A5, n5, rfl⟩ := h5.rws.form
  have hb3 := H2.out.2.1.trans (h6.mono H2.out.2.1.size)
  have hk3 := H2.out.2.2.below h6
  have H3 := Lib.hid (And.intro (h3.mono (fun g hg => hg.wide (w0 := w) (w1 := w3) H2.out.2.1.size (Nat.le_refl _))) (And.intro (h4.mono (fun g hg => hg.wide (w0 := w) (w1 := w3) H2.out.2.1.size (Nat.le_refl _))) (And.intro (h5.mono (fun g hg => hg.wide (w0 := w) (w1 := w3) H2.out.2.1.size (Nat.le_refl _))) (And.intro hb3 hk3))))
  have s6 := hk3.blk.cell 6 _ rfl
  have s7 := hk3.blk.cell 7 _ rfl
  have s8 := hk3.blk.cell 8 _ rfl
  have s9 := hk3.blk.cell 9 _ rfl
  have s10 := hk3.blk.cell 10 _ rfl
  have s11 := hk3.blk.cell 11 _ rfl
  have s12 := hk3.blk.cell 12 _ rfl
  have y6 := hk3.blk.free 6
  have y7 := hk3.blk.free 7
  have y8 := hk3.blk.free 8
  have y9 := hk3.blk.free 9
  have y10 := hk3.blk.free 10
  have y11 := hk3.blk.free 11
  have y12 := hk3.blk.free 12
  have r5 := cell5 hk3.blk
  have hfl3 := hk3.blk.lt
  clear h3 h4 h5 h6 hb3 hk3 e0 e1 e2 e3 e4
  go_wp2
  have hc : Chg w3 (((((((w3.setCell ⟨f, 6, none⟩ (.int .i64 num)).setCell ⟨f, 7, none⟩ (.slice A3 root.length n3)).setCell ⟨f, 8, none⟩ (.int .i64 ix)).setCell ⟨f, 9, none⟩ (.slice A4 Ps.length n4)).setCell ⟨f, 10, none⟩ (.slice A5 Qs.length n5)).setCell ⟨f, 11, none⟩ (.bool true)).setCell ⟨f, 12, none⟩ (.slice none 0 0)) (fun k => k = f) := chg_cell (chg_cell (chg_cell (chg_cell (chg_cell (chg_cell (chg_cell (Chg.refl w3 _) 6 _) 7 _) 8 _) 9 _) 10 _) 11 _) 12 _
  have hb : Blk (((((((w3.setCell ⟨f, 6, none⟩ (.int .i64 num)).setCell ⟨f, 7, none⟩ (.slice A3 root.length n3)).setCell ⟨f, 8, none⟩ (.int .i64 ix)).setCell ⟨f, 9, none⟩ (.slice A4 Ps.length n4)).setCell ⟨f, 10, none⟩ (.slice A5 Qs.length n5)).setCell ⟨f, 11, none⟩ (.bool true)).setCell ⟨f, 12, none⟩ (.slice none 0 0)) f 68 (fdCells (offI d ⟨⟨num, root⟩, ⟨ix, Ps, Qs⟩⟩ now 0) { r with kv := .slice none 0 0, cr := .slice A3 root.length n3, cp := .slice A4 Ps.length n4, cq := .slice A5 Qs.length n5 }) := ((((((H3.out.2.2.2.2.blk.set 6 _ (by simp [fdCells])).set 7 _ (by simp [fdCells])).set 8 _ (by simp [fdCells])).set 9 _ (by simp [fdCells])).set 10 _ (by simp [fdCells])).set 11 _ (by simp [fdCells])).set 12 _ (by simp [fdCells])
  have hof := H3.out.2.2.2.2.offer (w := w) H3.out.2.2.2.1.size ⟨⟨num, root⟩, ⟨ix, Ps, Qs⟩⟩ now H3.out.1 H3.out.2.1 H3.out.2.2.1 HZ.out hc hb
  have hchw : Chg w (((((((w3.setCell ⟨f, 6, none⟩ (.int .i64 num)).setCell ⟨f, 7, none⟩ (.slice A3 root.length n3)).setCell ⟨f, 8, none⟩ (.int .i64 ix)).setCell ⟨f, 9, none⟩ (.slice A4 Ps.length n4)).setCell ⟨f, 10, none⟩ (.slice A5 Qs.length n5)).setCell ⟨f, 11, none⟩ (.bool true)).setCell ⟨f, 12, none⟩ (.slice none 0 0)) Z := (Chg.of_below (S := Z) H3.out.2.2.2.1).trans hc (fun i _ e => by rw [show i = f from e]; exact HO.out.mz f (.inl rfl))
  generalize ((((((w3.setCell ⟨f, 6, none⟩ (.int .i64 num)).setCell ⟨f, 7, none⟩ (.slice A3 root.length n3)).setCell ⟨f, 8, none⟩ (.int .i64 ix)).setCell ⟨f, 9, none⟩ (.slice A4 Ps.length n4)).setCell ⟨f, 10, none⟩ (.slice A5 Qs.length n5)).setCell ⟨f, 11, none⟩ (.bool true)).setCell ⟨f, 12, none⟩ (.slice none 0 0) = W at *
  have HI0 : Hid (∃ Zi rr, FdOk Zi W f (offI d ⟨⟨num, root⟩, ⟨ix, Ps, Qs⟩⟩ now 0) rr [] es ∧ (∀ g, Zi g → Wide Z w W g) ∧ Chg w W Z) := Lib.hid ⟨_, _, hof, fun g hg => hg, hchw⟩
  clear hc hb hof hchw s6 s7 s8 s9 s10 s11 s12 y6 y7 y8 y9 y10 y11 y12 r5 hfl3
  go_loopw [50] (fun v50 wr => ∃ i : Nat, v50 = .int .i64 i ∧ i ≤ d.l.length ∧ Hid (∃ Zi rr, FdOk Zi wr f (offI d ⟨⟨num, root⟩, ⟨ix, Ps, Qs⟩⟩ now i) rr [] es ∧ (∀ g, Zi g → Wide Z w wr g) ∧ Chg w wr Z)) (fun v _ => d.l.length - (intOf v).toNat)
  case atStart => exact ⟨0, rfl, Nat.zero_le _, HI0⟩
  case round =>
   obtain ⟨i, rfl, hi, HJ⟩ := hrel
   clear HI0
   by_cases hlti : i < d.l.length
   ·obtain ⟨Zi, rr, hJ1, hJ2, hJ3⟩ := HJ.out
    have r5 := cell5 hJ1.blk
    rw [show (offI d ⟨⟨num, root⟩, ⟨ix, Ps, Qs⟩⟩ now i).l.length = d.l.length from offL_length _ _] at r5
    have hw1 : wr.cell? ⟨rr.lb, i * 3 + 1, none⟩ = some (.int .i64 d.l[i].tries) := hJ1.wt.cell _ _ (by have := (cellsW_at (offL d.l i) i (by rw [offL_length]; exact hlti)).2.1; rw [offL_at d.l i hlti] at this; exact this)
    have hw2 : wr.cell? ⟨rr.lb, i * 3 + 2, none⟩ = some (.bool d.l[i].kept) := hJ1.wt.cell _ _ (by have := (cellsW_at (offL d.l i) i (by rw [offL_length]; exact hlti)).2.2; rw [offL_at d.l i hlti] at this; exact this)
    have hz1 := hJ1.wt.free (i * 3 + 1)
    have hz2 := hJ1.wt.free (i * 3 + 2)
    have hfr := hJ1.blk.lt
    have hlr := hJ1.wt.lt
    have hne : f ≠ rr.lb := hJ1.n1
    have HJ1 := Lib.hid (And.intro hJ1 (And.intro hJ2 hJ3))
    clear hJ1 hJ2 hJ3 HJ
    generalize hlb : rr.lb = lb at *
    have HLB := Lib.hid hlb
    clear hlb
    go_wp2
    refine wp_region_held_drew (S := fun w' => w'.cell? ⟨f, 5, none⟩ = some (.slice (some ⟨lb, 0, none⟩) d.l.length d.l.length)) (by kernel_rfl) ?_ (fun hHeld => ?_)
    ·exact r5
    refine ty 0 53 rfl rfl ?_; simp only [sa, sb, sc]
    refine ty 1 54 rfl rfl ?_; simp only [sa, sb, sc]
    refine ty 2 55 rfl rfl ?_; simp only [sa, sb, sc]
    refine ty 3 56 rfl rfl ?_; simp only [sa, sb, sc]
    refine ty 4 57 rfl rfl ?_; simp only [sa, sb, sc]
    refine ty 5 58 rfl rfl ?_; simp only [sa, sb, sc]
    refine ty 6 59 rfl rfl ?_; simp only [sa, sb, sc]
    refine ty 7 60 rfl rfl ?_; simp only [sa, sb, sc]
    refine ty 8 61 rfl rfl ?_; simp only [sa, sb, sc]
    refine ty 9 62 rfl rfl ?_; simp only [sa, sb, sc]
    refine ty 10 63 rfl rfl ?_; simp only [sa, sb, sc]
    refine ty 11 64 rfl rfl ?_; simp only [sa, sb, sc]
    refine rd 12 (by kernel_rfl) rfl (fun K hK => ?_)
    go_simp
    refine hK.out _ _ (by refine (World.cell?_setCell_far _ _ _ _ (show lb ≠ f from fun e => hne e.symm)).trans ?_; exact r5) (fun hHeld12 => ?_)
    clear hK K; try simp only [Act.put, sa, sb, sc]
    refine ty 13 65 rfl rfl ?_; simp only [sa, sb, sc]
    refine ty 14 66 rfl rfl ?_; simp only [sa, sb, sc]
    refine rd 15 (by kernel_rfl) rfl (fun K hK => ?_)
    go_simp
    refine hK.out _ _ (by refine (World.cell?_setCell_far _ _ _ _ (show lb ≠ f from fun e => hne e.symm)).trans ?_; refine (World.cell?_setCell_far _ _ _ _ (show lb ≠ f from fun e => hne e.symm)).trans ?_; exact r5) (fun hHeld15 => ?_)
    clear hK K; try simp only [Act.put, sa, sb, sc]
    refine wpAnyH_done (by kernel_rfl) ?_ _
    have hcs : Chg wr (((wr.setCell ⟨lb, i * 3 + 1, none⟩ (.int .i64 0)).setCell ⟨lb, i * 3 + 2, none⟩ (.bool false)).drew) (fun k => k = rr.lb) := by rw [HLB.out]; exact (chg_cell (chg_cell (Chg.refl wr _) _ _) _ _).drew
    have hwt : Blk (((wr.setCell ⟨lb, i * 3 + 1, none⟩ (.int .i64 0)).setCell ⟨lb, i * 3 + 2, none⟩ (.bool false)).drew) rr.lb 74 (cellsW (offL d.l (i + 1))) := by
     have h9 : Blk wr rr.lb 74 (cellsW (offL d.l i)) := HJ1.out.1.wt
     have hlen : i * 3 + 2 < (cellsW (offL d.l i)).length := by rw [cellsW_length, offL_length]; omega
     rw [offL_succ d.l i hlti, cellsW_rst (offL d.l i) i (rst d.l[i]) (by rw [offL_length]; exact hlti) (by rw [offL_at d.l i hlti]; rfl), ← HLB.out]
     exact (h9.set (i * 3 + 1) _ (by omega)).set (i * 3 + 2) _ (by simpa using hlen)
    have hst := HJ1.out.1.setW (offL d.l (i + 1)) (by rw [offL_length]; exact (offL_length _ _).symm) hcs hwt
    have hmz : ∀ g, FdM f rr g → Wide Z w wr g := fun g hg => HJ1.out.2.1 g (HJ1.out.1.mz g hg)
    have hlw : ∀ g, g < w.heap.size → Wide Z w wr g → Z g := fun g hg h => by
     rcases h with h | h
     ·exact h
     ·exact absurd h.1 (by omega)
    have hch2 : Chg w (((wr.setCell ⟨lb, i * 3 + 1, none⟩ (.int .i64 0)).setCell ⟨lb, i * 3 + 2, none⟩ (.bool false)).drew) Z := HJ1.out.2.2.trans hcs (fun g hg e => hlw g hg (hmz g (.inr (.inl e))))
    have hz5 : (((wr.setCell ⟨lb, i * 3 + 1, none⟩ (.int .i64 0)).setCell ⟨lb, i * 3 + 2, none⟩ (.bool false)).drew).heap.size = wr.heap.size := by show ((wr.setCell _ _).setCell _ _).heap.size = _; simp
    have HP := Lib.hid (plan_any Zi f _ rr [] es now (i : Int) (by have := offM_length d.m d.ord now i; show (offM d.m d.ord now i).length ≤ _; omega) (by show ordN d.ord i ≤ _; rw [ordN_eq]; omega) (((wr.setCell ⟨lb, i * 3 + 1, none⟩ (.int .i64 0)).setCell ⟨lb, i * 3 + 2, none⟩ (.bool false)).drew) hst)
    have H5 := Lib.hid (And.intro hmz (And.intro hlw (And.intro hch2 hz5)))
    clear hcs hwt hst hmz hlw hch2 hz5 hw1 hw2 hz1 hz2 hHeld hHeld12 hHeld15 r5
    generalize ((wr.setCell ⟨lb, i * 3 + 1, none⟩ (.int .i64 0)).setCell ⟨lb, i * 3 + 2, none⟩ (.bool false)).drew = W5 at *
    go_wp2_with fail
    refine HP.out.mono ?_
    rintro e w6 ⟨v6, rfl, h7, h8, -⟩
    have HN : Hid (∃ Zi rr, FdOk Zi w6 f (offI d ⟨⟨num, root⟩, ⟨ix, Ps, Qs⟩⟩ now (i + 1)) rr [] es ∧ (∀ g, Zi g → Wide Z w w6 g) ∧ Chg w w6 Z) := Lib.hid (by
     have hs8 := h8.size
     have hs9 := HJ1.out.2.2.size
     refine ⟨_, _, h7, fun g hg => ?_, H5.out.2.2.1.trans h8 (fun g hg e => H5.out.2.1 g hg (H5.out.1 g (.inr (.inr (.inr e)))))⟩
     rcases hg with hg | hg
     ·rcases HJ1.out.2.1 g hg with h | h
      ·exact .inl h
      ·exact .inr ⟨h.1, by have := h.2; have := H5.out.2.2.2; omega⟩
     ·exact .inr ⟨by have := hg.1; have := H5.out.2.2.2; omega, hg.2⟩)
    clear h7 h8
    go_wp2
    go_roundw
    case rel => exact ⟨i + 1, by go_num, by omega, HN⟩
    case measure => simp [intOf]; omega
   ·obtain rfl : i = d.l.length := by omega
    have HF := Lib.hid HJ.out
    clear HJ
    go_wp2
    go_ret
    obtain ⟨Zi, rr, h1, h2, h3⟩ := HF.out
    refine ⟨rfl, ⟨rr, [], es, ?_⟩, h3⟩
    have h4 := h1.wide h2
    have e : offI d ⟨⟨num, root⟩, ⟨ix, Ps, Qs⟩⟩ now d.l.length = offD d ⟨⟨num, root⟩, ⟨ix, Ps, Qs⟩⟩ now := by unfold offI offD; rw [offL_all]
    rwa [e] at h4
def zW : WtD := ⟨0, 0, false⟩
def wAt (l : List WtD) (k : Nat) : WtD := l.getD k zW
theorem wAt_eq (l : List WtD) (k : Nat) (h : k < l.length) : wAt l k = l[k] := by simp [wAt, List.getD_eq_getElem?_getD, List.getElem?_eq_getElem h]
def againZ (retry tries : Int) : Int := retry * 2 ^ (if 3 < tries then 3 else tries).toNat
theorem againZ_le (retry tries : Int) (h1 : 1 ≤ retry ∧ retry ≤ 1000) (h0 : 0 ≤ tries) : 0 ≤ againZ retry tries ∧ againZ retry tries ≤ 8000 := by
 unfold againZ
 by_cases h : 3 < tries
 ·rw [if_pos h]; show 0 ≤ retry * 8 ∧ retry * 8 ≤ 8000; omega
 ·rw [if_neg h]
  obtain rfl | rfl | rfl | rfl : tries = 0 ∨ tries = 1 ∨ tries = 2 ∨ tries = 3 := by omega
  ·show 0 ≤ retry * 1 ∧ retry * 1 ≤ 8000; omega
  ·show 0 ≤ retry * 2 ∧ retry * 2 ≤ 8000; omega
  ·show 0 ≤ retry * 4 ∧ retry * 4 ≤ 8000; omega
  ·show 0 ≤ retry * 8 ∧ retry * 8 ≤ 8000; omega
theorem cellsW_try (L : List WtD) (k : Nat) (t : Int) (h : k < L.length) : cellsW (L.set k ⟨(wAt L k).size, t, (wAt L k).kept⟩) = (cellsW L).set (k * 3 + 1) (.int .i64 t) := by
 rw [cellsW_set L k _ h, wAt_eq L k h]
 obtain ⟨h0, h1, h2⟩ := cellsW_at L k h
 have e : (cellsW L).set (k * 3) (.int .i64 L[k].size) = cellsW L := by
  obtain ⟨hlt, e⟩ := List.getElem?_eq_some_iff.1 h0
  rw [← e]; exact List.set_getElem_self hlt
 rw [e]
 obtain ⟨hlt, e⟩ := List.getElem?_eq_some_iff.1 h2
 rw [List.set_comm _ _ (by omega)]
 congr 1
 rw [← e]; exact List.set_getElem_self hlt
def st1 (now : Int) (d : FdD) (k : Nat) : FdD :=
 { d with m := insE ⟨now + againZ d.retry (wAt d.l k).tries, d.ord, (k : Int)⟩ (keepW (k : Int) d.m), ord := d.ord + 1, l := d.l.set k ⟨(wAt d.l k).size, (wAt d.l k).tries + 1, (wAt d.l k).kept⟩ }
def stN (now : Int) (d : FdD) (ws : List Nat) : FdD := ws.foldl (st1 now) d
def dueL (m : List Ent) (now : Int) : List Ent := m.takeWhile (fun x => decide (x.tm ≤ now))
def dueN (m : List Ent) (now : Int) : Nat := (dueL m now).length
def whoL (m : List Ent) (now : Int) : List Nat := (dueL m now).map (fun x => x.wh.toNat)
def reqL (d : FdD) (now : Int) : List (Int × Int) := (whoL d.m now).map (fun k : Nat => ((k : Int), (wAt d.l k).size))
def stepD (d : FdD) (now : Int) : FdD := stN now { d with m := d.m.drop (dueN d.m now) } (whoL d.m now)
def reqCells (l : List (Int × Int)) : List Value := l.flatMap (fun x => [Value.int .i64 x.1, .int .i64 x.2])
theorem reqCells_append (l m : List (Int × Int)) : reqCells (l ++ m) = reqCells l ++ reqCells m := by simp [reqCells]
theorem reqCells_at (l : List (Int × Int)) : ∀ (i : Nat) (hi : i < l.length), (reqCells l)[i * 2]? = some (.int .i64 l[i].1) ∧ (reqCells l)[i * 2 + 1]? = some (.int .i64 l[i].2) := by
 induction l with
 | nil => intro i hi; exact absurd hi (Nat.not_lt_zero _)
 | cons x l ih =>
  intro i hi
  cases i with
  | zero => exact ⟨rfl, rfl⟩
  | succ i =>
   have h := ih i (by simpa using hi)
   have e : ∀ j, (reqCells (x :: l))[(i + 1) * 2 + j]? = (reqCells l)[i * 2 + j]? := by
    intro j
    show ([Value.int .i64 x.1, .int .i64 x.2] ++ reqCells l)[(i + 1) * 2 + j]? = _
    rw [List.getElem?_append_right (by simp; omega)]
    congr 1
    simp; omega
   exact ⟨(e 0).trans h.1, (e 1).trans h.2⟩
theorem info_req : (Tryz.prog.info? 115).map (fun i => (i.zero, i.size, i.bytes)) = some (some (.agg #[.int .i64 0, .int .i64 0]), 2, 16) := by kernel_rfl
theorem FdOk.agenda0 {Z : Nat → Prop} {w w1 : World} {f : Nat} {d : FdD} {r : FdR} {us es : List Value} (h : FdOk Z w f d r us es) {v' : Value} {m' : List Ent} {ord' : Int} (ha : AgS w1 r.base r.ab v' m' ord') (hv : v'.ownBlock = r.av.ownBlock) (hc : Chg w w1 (Foot r.ab r.av)) :
  FdOk Z w1 f { d with m := m', ord := ord' } { r with av := v' } us es ∧ ∀ k, FdM f { r with av := v' } k ↔ FdM f r k := by
 have hfoot : ∀ k, Foot r.ab v' k ↔ Foot r.ab r.av k := fun k => by unfold Foot; rw [hv]
 have hM : ∀ k, FdM f { r with av := v' } k ↔ FdM f r k := fun k => by
  show (k = f ∨ k = r.lb ∨ r.kv.ownBlock = some k ∨ Foot r.ab v' k) ↔ (k = f ∨ k = r.lb ∨ r.kv.ownBlock = some k ∨ Foot r.ab r.av k)
  rw [hfoot]
 have h1 := h.tx.chg hc (fun g hg e => hg.2 (.inr (.inr (.inr e))))
 refine ⟨⟨h.blk.chg hc h.n4, h.wt.chg hc h.n5, ha, ownsRow_chg h.kp hc h.n6, Nat.le_trans h.kbl hc.size, Nat.le_trans h.bal hc.size, ?_, h.n1, h.n2, h.n3, fun e => h.n4 ((hfoot f).1 e), fun e => h.n5 ((hfoot _).1 e), fun k hk e => h.n6 k hk ((hfoot k).1 e), fun k hk => h.mz k ((hM k).1 hk)⟩, hM⟩
 exact FdT.mono ⟨h1.pl, h1.pw, h1.cr, h1.cp, h1.cq, h1.dr, h1.dp, h1.dq, h1.kd, h1.en, h1.ef, h1.ed⟩ (fun g hg => ⟨hg.1, fun e => hg.2 ((hM g).1 e)⟩)
theorem stN_l (now : Int) (ws : List Nat) : ∀ d : FdD, (stN now d ws).l.length = d.l.length := by
 induction ws with
 | nil => intro d; rfl
 | cons k ws ih => intro d; show (stN now (st1 now d k) ws).l.length = _; rw [ih]; simp [st1]
theorem stN_snoc (now : Int) (d : FdD) (ws : List Nat) (k : Nat) : stN now d (ws ++ [k]) = st1 now (stN now d ws) k := by simp [stN]
theorem stN_m (now : Int) (ws : List Nat) : ∀ d : FdD, (stN now d ws).m.length ≤ d.m.length + ws.length := by
 induction ws with
 | nil => intro d; exact Nat.le_refl _
 | cons k ws ih =>
  intro d
  have h1 := ih (st1 now d k)
  have h2 : (st1 now d k).m.length ≤ d.m.length + 1 := by
   show (insE _ (keepW _ _)).length ≤ _
   rw [insE_length]
   have := keepW_le (k : Int) d.m
   omega
  show (stN now (st1 now d k) ws).m.length ≤ d.m.length + (ws.length + 1)
  omega
theorem stN_ord (now : Int) (ws : List Nat) : ∀ d : FdD, (stN now d ws).ord = d.ord + (ws.length : Int) := by
 induction ws with
 | nil => intro d; simp [stN]
 | cons k ws ih => intro d; show (stN now (st1 now d k) ws).ord = _; rw [ih]; show d.ord + 1 + _ = _; simp; omega
theorem stN_retry (now : Int) (ws : List Nat) : ∀ d : FdD, (stN now d ws).retry = d.retry := by
 induction ws with
 | nil => intro d; rfl
 | cons k ws ih => intro d; show (stN now (st1 now d k) ws).retry = _; rw [ih]; rfl
theorem stN_p (now : Int) (ws : List Nat) : ∀ d : FdD, (stN now d ws).p = d.p := by
 induction ws with
 | nil => intro d; rfl
 | cons k ws ih => intro d; show (stN now (st1 now d k) ws).p = _; rw [ih]; rfl
def TrOk (l : List WtD) (B : Int) : Prop := ∀ k, 0 ≤ (wAt l k).tries ∧ (wAt l k).tries ≤ B
theorem wAt_set (l : List WtD) (k j : Nat) (x : WtD) : wAt (l.set k x) j = if k = j ∧ k < l.length then x else wAt l j := by
 unfold wAt
 rw [List.getD_eq_getElem?_getD, List.getD_eq_getElem?_getD, List.getElem?_set]
 by_cases e : k = j
 ·subst e
  by_cases h : k < l.length
  ·simp [h]
  ·simp [h]
 ·simp [e]
theorem stN_tr (now : Int) (ws : List Nat) : ∀ (d : FdD) (B : Int), TrOk d.l B → TrOk (stN now d ws).l (B + ws.length) := by
 induction ws with
 | nil => intro d B h; simpa [stN] using h
 | cons k ws ih =>
  intro d B h
  have h1 : TrOk (st1 now d k).l (B + 1) := by
   intro j
   have h2 := h j
   have h3 := h k
   have e : wAt (st1 now d k).l j = if k = j ∧ k < d.l.length then ⟨(wAt d.l k).size, (wAt d.l k).tries + 1, (wAt d.l k).kept⟩ else wAt d.l j := wAt_set d.l k j _
   rw [e]
   split
   ·exact ⟨by show 0 ≤ (wAt d.l k).tries + 1; omega, by show (wAt d.l k).tries + 1 ≤ B + 1; omega⟩
   ·exact ⟨h2.1, by omega⟩
  have h2 := ih (st1 now d k) (B + 1) h1
  show TrOk (stN now (st1 now d k) ws).l (B + ((ws.length + 1 : Nat) : Int))
  rw [show B + ((ws.length + 1 : Nat) : Int) = B + 1 + (ws.length : Int) by omega]
  exact h2
theorem dueN_le (m : List Ent) (now : Int) : dueN m now ≤ m.length := (List.takeWhile_prefix _).length_le
theorem due_at (m : List Ent) (now : Int) (j : Nat) (h : j < dueN m now) : ∃ x, (dueL m now)[j]? = some x ∧ m.drop j = x :: m.drop (j + 1) ∧ x.tm ≤ now ∧ x ∈ m := by
 have hl := dueN_le m now
 have hj : j < m.length := by omega
 have hx : (dueL m now)[j]'h = m[j] := by
  have hp := List.takeWhile_prefix (fun x : Ent => decide (x.tm ≤ now)) (l := m)
  exact (List.prefix_iff_getElem.1 hp).2 j h
 refine ⟨m[j], by rw [List.getElem?_eq_getElem h, hx], List.drop_eq_getElem_cons hj, ?_, List.getElem_mem hj⟩
 have h2 : (dueL m now)[j]'h ∈ dueL m now := List.getElem_mem h
 rw [hx] at h2
 have h3 : (dueL m now).all (fun x : Ent => decide (x.tm ≤ now)) = true := List.all_takeWhile
 have := List.all_eq_true.1 h3 _ h2
 simpa using this
theorem due_end (m : List Ent) (now : Int) : m.drop (dueN m now) = [] ∨ ∃ x t, m.drop (dueN m now) = x :: t ∧ now < x.tm := by
 unfold dueN dueL
 induction m with
 | nil => exact .inl rfl
 | cons y m ih =>
  by_cases h : y.tm ≤ now
  ·simp only [List.takeWhile_cons, h, decide_true, if_true, List.length_cons, List.drop_succ_cons]
   exact ih
  ·right
   refine ⟨y, m, ?_, by omega⟩
   simp [List.takeWhile_cons, h]
theorem who_at (m : List Ent) (now : Int) (j : Nat) (x : Ent) (h : (dueL m now)[j]? = some x) : (whoL m now)[j]? = some x.wh.toNat := by simp [whoL, h]
def StepPost (Z : Nat → Prop) (w : World) (f : Nat) (d : FdD) (now : Int) (e : Ending) (w' : World) : Prop :=
 ∃ v, e = .returned v ∧ w'.ownsRow w.heap.size 115 2 v (reqL d now).length (reqCells (reqL d now)) ∧ FdAt (Wide Z w w') w' f (stepD d now) ∧ Chg w w' Z
def StepPost2 (Z : Nat → Prop) (w : World) (f : Nat) (d : FdD) (now : Int) (e : Ending) (w' : World) : Prop :=
 ∃ v, e = .returned v ∧ w'.ownsRow w.heap.size 115 2 v (reqL d now).length (reqCells (reqL d now)) ∧ FdAt (fun g => Wide Z w w' g ∧ v.ownBlock ≠ some g) w' f (stepD d now) ∧ Chg w w' Z
def StI (Z : Nat → Prop) (w wr : World) (f : Nat) (d : FdD) (r0 : FdR) (us es : List Value) (now : Int) (j : Nat) (v : Value) : Prop :=
 ∃ av, FdOk Z wr f { d with m := d.m.drop j } { r0 with av := av } us es ∧ (∀ k, FdM f { r0 with av := av } k ↔ FdM f r0 k) ∧ wr.ownsRow w.heap.size 115 2 v j (reqCells ((reqL d now).take j)) ∧ Chg w wr Z
def StJ (Z : Nat → Prop) (w W1 wr : World) (f : Nat) (d1 : FdD) (now : Int) (ws : List Nat) (us es : List Value) (v : Value) (cs : List Value) (n : Nat) : Prop :=
 ∃ Zj rr, FdOk Zj wr f (stN now d1 ws) rr us es ∧ (∀ g, Zj g → Z g ∨ (W1.heap.size ≤ g ∧ g < wr.heap.size)) ∧ (∀ g, FdM f rr g → g < w.heap.size ∨ W1.heap.size ≤ g) ∧ Chg w wr Z ∧ wr.ownsRow w.heap.size 115 2 v n cs ∧ W1.heap.size ≤ wr.heap.size
set_option maxRecDepth 100000 in
set_option maxHeartbeats 8000000 in
theorem step_any2 (Z : Nat → Prop) (f : Nat) (d : FdD) (now : Int) (hn : 0 ≤ now ∧ now ≤ 1000000000000) (hre : 1 ≤ d.retry ∧ d.retry ≤ 1000) (hm : d.m.length ≤ 1000000) (ho : d.ord ≤ 100000000) (hwh : ∀ x ∈ d.m, 0 ≤ x.wh ∧ x.wh < (d.l.length : Int)) (htr : TrOk d.l 1000000) (hl : d.l.length ≤ 1000) (w : World) (hZ : ∀ g, Z g → g < w.heap.size) (hok : FdAt Z w f d) :
  Calls Tryz.prog 35 #[.pointer (some ⟨f, 0, none⟩), .int .i64 now] w (StepPost2 Z w f d now) := by
 obtain ⟨r, us, es, hok⟩ := hok
 obtain ⟨i0, hi0, hz0, hz1, hz2⟩ := info_parts info_req
 have HO := Lib.hid hok
 have HWH := Lib.hid hwh
 have HTR := Lib.hid htr
 have HZ := Lib.hid hZ
 have hNm := dueN_le d.m now
 have hRl : (reqL d now).length = dueN d.m now := by simp [reqL, whoL, dueN]
 have HRL := Lib.hid hRl
 clear hok hwh htr hZ hRl
 go_enter Tryz.func35, Tryz.ntmps35
 go_wp2
 go_loopw [5] (fun v5 wr => ∃ (j : Nat) (A : Option Addr) (c : Nat), v5 = .slice A j c ∧ j ≤ dueN d.m now ∧ Hid (StI Z w wr f d r us es now j (.slice A j c))) (fun v _ => dueN d.m now - lenV v)
 case atStart => exact ⟨0, none, 0, rfl, Nat.zero_le _, Lib.hid ⟨r.av, HO.out, fun k => Iff.rfl, World.ownsRow_nil _ _ _ _, Chg.refl _ _⟩⟩
 case round =>
  obtain ⟨j, A, c, rfl, hj, HI⟩ := hrel
  obtain ⟨av, hI1, hI2, hI3, hI4⟩ := HI.out
  have q4 : wr.cell? ⟨f, 4, none⟩ = some (.pointer (some ⟨r.ab, 0, none⟩)) := hI1.blk.cell 4 _ rfl
  have q5 : wr.cell? ⟨f, 5, none⟩ = some (.slice (some ⟨r.lb, 0, none⟩) d.l.length d.l.length) := cell5 hI1.blk
  have hfl := hI1.blk.lt
  have HI1 := Lib.hid (And.intro hI1 (And.intro hI2 (And.intro hI3 hI4)))
  clear hI1 hI2 hI3 hI4 HI
  by_cases hlt : j < dueN d.m now
  ·obtain ⟨x, hx1, hx2, hx3, hx4⟩ := due_at d.m now j hlt
   obtain ⟨hw0, hw1⟩ := HWH.out x hx4
   obtain ⟨tm, xo, wh⟩ := x
   obtain ⟨k, rfl⟩ := Int.eq_ofNat_of_zero_le (show 0 ≤ wh from hw0)
   have hkl : k < d.l.length := by have : ((k : Nat) : Int) < (d.l.length : Int) := hw1; omega
   have HREQ : Hid ((reqL d now).take (j + 1) = (reqL d now).take j ++ [((k : Int), d.l[k].size)]) := Lib.hid (by
    have hjr : j < (reqL d now).length := by rw [HRL.out]; exact hlt
    rw [List.take_succ_eq_append_getElem hjr]
    congr 2
    have h9 := who_at d.m now j _ hx1
    obtain ⟨h10, h11⟩ := List.getElem?_eq_some_iff.1 h9
    simp only [reqL, List.getElem_map, h11]
    rw [show (Ent.mk tm xo (k : Int)).wh.toNat = k by simp, wAt_eq d.l k hkl])
   have HD := Lib.hid (due_yes r.base r.ab av ⟨tm, xo, (k : Int)⟩ (d.m.drop (j + 1)) d.ord now (by rw [List.length_drop]; omega) hx3 wr (by
    have h9 := HI1.out.1.ag
    have e : d.m.drop j = ⟨tm, xo, (k : Int)⟩ :: d.m.drop (j + 1) := hx2
    show AgS wr r.base r.ab av (⟨tm, xo, (k : Int)⟩ :: d.m.drop (j + 1)) d.ord
    rw [← e]
    exact h9))
   clear hx1 hx2 hx3 hx4 hw0 hw1
   go_wp2_with fail
   refine HD.out.mono ?_
   rintro e w1 ⟨v1, rfl, h1, h2, h3⟩
   obtain ⟨h4, h5⟩ := HI1.out.1.agenda0 h1 h2 h3
   have h6 : w1.ownsRow w.heap.size 115 2 (.slice A j c) j (reqCells ((reqL d now).take j)) := ownsRow_chg HI1.out.2.2.1 h3 (fun g hg e => by
    have h7 := HZ.out g (HI1.out.1.mz g (.inr (.inr (.inr e))))
    have h8 := (World.ownsRow.lt HI1.out.2.2.1 g hg).1
    omega)
   have h7 : Chg w w1 Z := HI1.out.2.2.2.trans h3 (fun g hg e => HI1.out.1.mz g (.inr (.inr (.inr e))))
   have h8 := h4.wt
   have p5 : w1.cell? ⟨f, 5, none⟩ = some (.slice (some ⟨r.lb, 0, none⟩) d.l.length d.l.length) := cell5 h4.blk
   have p0 : w1.cell? ⟨r.lb, k * 3, none⟩ = some (.int .i64 d.l[k].size) := h8.cell _ _ (cellsW_at d.l k hkl).1
   have hkI : ((k : Nat) : Int) < (d.l.length : Int) := by omega
   have hsz1 := h7.size
   have H1 := Lib.hid (And.intro h4 (And.intro (fun g => (h5 g).trans (HI1.out.2.1 g)) (And.intro h6 h7)))
   clear h1 h2 h3 h4 h5 h6 h7 h8 q4 q5
   generalize d.l[k].size = xs at *
   go_wp2_with (at_builtin; (refine wpList_append_lie rfl (.tmp 22) (.tmp 33) 80 rfl w.heap.size 115 i0 (.agg #[.int .i64 0, .int .i64 0]) 2 16 Tryz.underlying80 hi0 hz0 hz1 hz2 rfl (by decide) _ j _ rfl (World.ownsRow.alloc H1.out.2.2.1 _) _ 1 [.int .i64 k, .int .i64 xs] rfl ((Sho.new w1 115 [.int .i64 k, .int .i64 xs] 1 2 1 rfl (Nat.le_refl _) (by decide)).news (fun u hu => by simp at hu; rcases hu with rfl | rfl <;> rfl)) (by unfold maxLen; omega) (by omega) (by simp; omega) ?_); intro v2 W2 hown2 hgrow2 hlie2; obtain ⟨A2, c2, rfl⟩ := (Sho.own hown2).form; have H2 : Hid (StI Z w W2 f d r us es now (j + 1) (.slice A2 (j + 1) c2)) := Lib.hid (by
     have hc2 : Chg w1 W2 (fun g => (Value.slice A j c).ownBlock = some g) := ((Chg.refl w1 _).alloc _).trans (Chg.of_grown hgrow2) (fun i _ h => h.symm)
     have hT : ∀ g, (Value.slice A j c).ownBlock = some g → w.heap.size ≤ g := fun g hg => (World.ownsRow.lt H1.out.2.2.1 g hg).1
     refine ⟨v1, H1.out.1.chg hc2 (fun g hg e => by have := HZ.out g hg; have := hT g e; omega), H1.out.2.1, ?_, H1.out.2.2.2.trans hc2 (fun g hg e => absurd (hT g e) (by omega))⟩
     rw [HREQ.out, reqCells_append]
     exact hown2); clear hown2 hgrow2 hlie2)
   go_roundw
   case rel => exact ⟨j + 1, A2, c2, rfl, by omega, H2⟩
   case measure => simp [lenV]; omega
  ·obtain rfl : j = dueN d.m now := by omega
   have HD : Hid (Calls Tryz.prog 63 #[.pointer (some ⟨r.ab, 0, none⟩), .int .i64 now] wr fun e w' => e = .returned (.tuple #[.int .i64 0, .bool false]) ∧ ∃ n, w' = wr.drewN n) := Lib.hid (by
    have h9 := HI1.out.1.ag
    rcases due_end d.m now with e | ⟨x, t, e, ht⟩
    ·exact due_none r.base r.ab av d.ord now wr (by
      show AgS wr r.base r.ab av [] d.ord
      rw [← e]; exact h9)
    ·exact due_early r.base r.ab av x t d.ord now ht wr (by
      show AgS wr r.base r.ab av (x :: t) d.ord
      rw [← e]; exact h9))
   have hwl : (whoL d.m now).length = dueN d.m now := by simp [whoL, dueN]
   have HWL := Lib.hid hwl
   clear hwl
   go_wp2_with fail
   refine HD.out.mono ?_
   rintro e w1 ⟨rfl, n1, rfl⟩
   have hwW1 : w.heap.size ≤ (wr.drewN n1).heap.size := HI1.out.2.2.2.size
   have HVL : Hid (∀ k, (Value.slice A (dueN d.m now) c).ownBlock = some k → k < (wr.drewN n1).heap.size) := Lib.hid (fun k hk => (World.ownsRow.lt HI1.out.2.2.1 k hk).2)
   have H1 : Hid (StJ Z w (wr.drewN n1) (wr.drewN n1) f { d with m := d.m.drop (dueN d.m now) } now ((whoL d.m now).take 0) us es (.slice A (dueN d.m now) c) (reqCells (reqL d now)) (dueN d.m now)) := Lib.hid (by
    have h9 := HI1.out.2.2.1
    rw [List.take_of_length_le (by rw [HRL.out]; exact Nat.le_refl _)] at h9
    exact ⟨Z, _, HI1.out.1.below (below_drewN (Below.refl _ _) _), fun g hg => .inl hg, fun g hg => .inl (HZ.out g (HI1.out.1.mz g hg)), HI1.out.2.2.2.drewN _, ownsRow_chg h9 ((Chg.refl wr (fun _ => False)).drewN n1) (fun _ _ h => h), Nat.le_refl _⟩)
   clear q4 q5 HD
   generalize wr.drewN n1 = W1 at *
   have hd1 : ({ d with m := d.m.drop (dueN d.m now) } : FdD).m.length ≤ 1000000 := by show (d.m.drop _).length ≤ _; rw [List.length_drop]; omega
   have HD1 : Hid (({ d with m := d.m.drop (dueN d.m now) } : FdD).l = d.l ∧ ({ d with m := d.m.drop (dueN d.m now) } : FdD).retry = d.retry ∧ ({ d with m := d.m.drop (dueN d.m now) } : FdD).ord = d.ord ∧ stN now { d with m := d.m.drop (dueN d.m now) } (whoL d.m now) = stepD d now ∧ ∀ k ∈ whoL d.m now, k < d.l.length) := Lib.hid ⟨rfl, rfl, rfl, rfl, fun k hk => by
    simp only [whoL, List.mem_map] at hk
    obtain ⟨x, hx, rfl⟩ := hk
    have hx2 : x ∈ d.m := (List.takeWhile_prefix _).subset hx
    have := HWH.out x hx2
    omega⟩
   have HRQ : Hid (∀ j (h : j < (whoL d.m now).length) (h2 : j < (reqL d now).length), (reqL d now)[j] = (((whoL d.m now)[j] : Int), (wAt d.l (whoL d.m now)[j]).size)) := Lib.hid (fun j h h2 => by simp [reqL])
   generalize ({ d with m := d.m.drop (dueN d.m now) } : FdD) = d1 at *
   generalize whoL d.m now = ws at *
   generalize hrqE : reqL d now = rq at *
   have HRQE := Lib.hid hrqE
   clear hrqE
   generalize dueN d.m now = n at *
   clear HI1
   go_wp2
   go_loopw [37] (fun v37 wr => ∃ j : Nat, v37 = .int .i64 j ∧ j ≤ n ∧ Hid (StJ Z w W1 wr f d1 now (ws.take j) us es (.slice A n c) (reqCells rq) n)) (fun v _ => n - (intOf v).toNat)
   case atStart => exact ⟨0, rfl, Nat.zero_le _, H1⟩
   case round =>
    obtain ⟨j, rfl, hj2, HJ⟩ := hrel
    by_cases hlt2 : j < n
    ·obtain ⟨Zj, rr, hJ1, hJ2, hJ3, hJ4, hJ5, hJ6⟩ := HJ.out
     obtain ⟨g, cap, eA, hgw, hgl⟩ := hJ5.form (by omega)
     injection eA with eA1 eA2 eA3
     subst eA1 eA3
     have hjw : j < ws.length := by rw [HWL.out]; exact hlt2
     have hjr : j < rq.length := by rw [HRL.out]; exact hlt2
     have hcell : ∀ i u, (reqCells rq)[i]? = some u → wr.cell? ⟨g, i, none⟩ = some u := fun i u hu => by
      obtain ⟨g', o', e1, -, -, -, -, h8⟩ := (Sho.own hJ5).place (by omega)
      injection e1 with e1
      injection e1 with e1 e2
      subst e1 e2
      have := h8 i u hu
      rwa [Nat.zero_add] at this
     have hk : ws[j] < d.l.length := HD1.out.2.2.2.2 _ (List.getElem_mem hjw)
     have hrq := HRQ.out j hjw hjr
     have p0 := hcell (j * 2) _ (reqCells_at rq j hjr).1
     have p1 := hcell (j * 2 + 1) _ (reqCells_at rq j hjr).2
     rw [hrq] at p0 p1
     have HTK : Hid (ws.take (j + 1) = ws.take j ++ [ws[j]]) := Lib.hid (List.take_succ_eq_append_getElem hjw)
     have hdl : (stN now d1 (ws.take j)).l.length = d.l.length := by rw [stN_l, HD1.out.1]
     have hdr : (stN now d1 (ws.take j)).retry = d.retry := by rw [stN_retry, HD1.out.2.1]
     have htk : (ws.take j).length ≤ 1000000 := by rw [List.length_take]; omega
     have hdm : (stN now d1 (ws.take j)).m.length ≤ 10000000 := by have := stN_m now (ws.take j) d1; omega
     have hdo : (stN now d1 (ws.take j)).ord ≤ 1000000000 := by rw [stN_ord, HD1.out.2.2.1]; omega
     have htr2 : 0 ≤ (wAt (stN now d1 (ws.take j)).l ws[j]).tries ∧ (wAt (stN now d1 (ws.take j)).l ws[j]).tries ≤ 2000000 := by
      have h9 := stN_tr now (ws.take j) d1 1000000 (by rw [HD1.out.1]; exact HTR.out) ws[j]
      exact ⟨h9.1, by omega⟩
     have HST : Hid (stN now d1 (ws.take (j + 1)) = st1 now (stN now d1 (ws.take j)) ws[j]) := Lib.hid (by rw [HTK.out, stN_snoc])
     have hwl := hJ1.wt
     have hc5 := cell5 hJ1.blk
     have hc3 : wr.cell? ⟨f, 3, none⟩ = some (.int .i64 d.retry) := by rw [← hdr]; exact hJ1.blk.cell 3 _ rfl
     rw [hdl] at hc5
     generalize (wAt d.l ws[j]).size = sz at *
     generalize hkE : ws[j] = k at *
     generalize stN now d1 (ws.take j) = dj at *
     have hw0 := cellsW_at dj.l k (by rw [hdl]; exact hk)
     rw [← wAt_eq dj.l k (by rw [hdl]; exact hk)] at hw0
     have ht1 : wr.cell? ⟨rr.lb, k * 3 + 1, none⟩ = some (.int .i64 (wAt dj.l k).tries) := hwl.cell _ _ hw0.2.1
     have hltl := hwl.lt
     have hltf := hJ1.blk.lt
     have HK := Lib.hid (And.intro hJ1 (And.intro hJ2 (And.intro hJ3 (And.intro hJ4 hJ5))))
     have HDJ := Lib.hid (And.intro hdl (And.intro hdr (And.intro hdm hdo)))
     obtain ⟨ht0, ht2⟩ := htr2
     have hkI : ((k : Nat) : Int) < (d.l.length : Int) := by omega
     clear hJ1 hJ2 hJ3 hJ4 hJ5 hcell hrq hwl hw0 hdl hdr hdm hdo htk HJ
     generalize hTR : (wAt dj.l k).tries = tr at *
     have HTRE := Lib.hid hTR
     clear hTR hkE
     have e1 : IntKind.i64.wrap (d.retry * 2 ^ (if 3 < tr then 3 else tr).toNat) = againZ d.retry tr := IntWalk.i64_in _ (by have := againZ_le d.retry tr hre ht0; unfold againZ at this; omega)
     have e2 : IntKind.i64.wrap (now + againZ d.retry tr) = now + againZ d.retry tr := IntWalk.i64_in _ (by have := againZ_le d.retry tr hre ht0; omega)
     have HE12 := Lib.hid (And.intro e1 e2)
     clear e1 e2
     have hgW : g < W1.heap.size := by
      obtain ⟨_, _, _, _, _, _, h9, _⟩ := H1.out
      exact (World.ownsRow.lt h9 g rfl).2
     have hrs := HK.out.2.2.2.1.size
     go_wp2
     refine code_at (fun W2 => Below wr.heap.size wr W2 ∧ Blk W2 wr.heap.size 115 [.int .i64 k, .int .i64 sz]) ⟨(Below.refl _ _).alloc (Nat.le_refl _) _, Blk.new wr 115 [.int .i64 k, .int .i64 sz]⟩ ?_
     rintro W2 ⟨hb2, hk2⟩
     have c5 := (hb2.cell (p := ⟨f, 5, none⟩) hltf).trans hc5
     have c0 := hk2.cell 0 _ rfl
     refine wp_region_held_drew (S := fun w' => w'.cell? ⟨f, 5, none⟩ = some (.slice (some ⟨rr.lb, 0, none⟩) d.l.length d.l.length) ∧ w'.cell? ⟨wr.heap.size, 0, none⟩ = some (.int .i64 k)) (by kernel_rfl) ?_ (fun hHeld => ?_)
     ·exact ⟨c5, c0⟩
     refine ty 0 41 rfl rfl ?_; simp only [sa, sb, sc]
     refine ty 1 42 rfl rfl ?_; simp only [sa, sb, sc]
     refine ty 2 43 rfl rfl ?_; simp only [sa, sb, sc]
     refine ty 3 44 rfl rfl ?_; simp only [sa, sb, sc]
     refine ty 4 45 rfl rfl ?_; simp only [sa, sb, sc]
     refine ty 5 46 rfl rfl ?_; simp only [sa, sb, sc]
     refine ty 6 47 rfl rfl ?_; simp only [sa, sb, sc]
     refine ty 7 10 rfl rfl ?_; simp only [sa, sb, sc]
     refine wpAnyH_done (by kernel_rfl) ?_ _
     go_wp2
     refine code_at (fun W3 => Below wr.heap.size wr W3 ∧ Blk W3 wr.heap.size 115 [.int .i64 k, .int .i64 sz]) ⟨hb2.drew, hk2.drew⟩ ?_
     rintro W3 ⟨hb3, hk3⟩
     clear hHeld c5 c0 hb2 hk2
     have c3 := (hb3.cell (p := ⟨f, 3, none⟩) hltf).trans hc3
     have c1 := (hb3.cell (p := ⟨rr.lb, k * 3 + 1, none⟩) hltl).trans ht1
     have c0 := hk3.cell 0 _ rfl
     refine wp_region_held_drew (S := fun w' => w'.cell? ⟨f, 3, none⟩ = some (.int .i64 d.retry) ∧ w'.cell? ⟨rr.lb, k * 3 + 1, none⟩ = some (.int .i64 tr) ∧ w'.cell? ⟨wr.heap.size, 0, none⟩ = some (.int .i64 k)) (by kernel_rfl) ?_ (fun hHeld => ?_)
     ·exact ⟨c3, c1, c0⟩
     refine ty 0 48 rfl rfl ?_; simp only [sa, sb, sc]
     refine ty 1 49 rfl rfl ?_; simp only [sa, sb, sc]
     refine ty 2 50 rfl rfl ?_; simp only [sa, sb, sc]
     refine ty 3 51 rfl rfl ?_; simp only [sa, sb, sc]
     refine ty 4 52 rfl rfl ?_; simp only [sa, sb, sc]
     refine ty 5 53 rfl rfl ?_; simp only [sa, sb, sc]
     refine ty 6 54 rfl rfl ?_; simp only [sa, sb, sc]
     refine ty 7 55 rfl rfl ?_; simp only [sa, sb, sc]
     refine ty 8 56 rfl rfl ?_; simp only [sa, sb, sc]
     refine ty 9 57 rfl rfl ?_; simp only [sa, sb, sc]
     refine ty 10 58 rfl rfl ?_; simp only [sa, sb, sc]
     refine ty 11 59 rfl rfl ?_; simp only [sa, sb, sc]
     refine ty 12 60 rfl rfl ?_; simp only [sa, sb, sc]
     refine ty 13 61 rfl rfl ?_; simp only [sa, sb, sc]
     refine ty 14 62 rfl rfl ?_; simp only [sa, sb, sc]
     refine rd 15 (by kernel_rfl) rfl (fun K hK => ?_)
     go_simp
     go_at_call 29
     rw [HE12.out.1, HE12.out.2]
     have hok3 := HK.out.1.below hb3.drew
     refine (plan_any Zj f dj rr us es (now + againZ d.retry tr) (k : Int) HDJ.out.2.2.1 HDJ.out.2.2.2 W3.drew hok3).mono ?_
     rintro e w4 ⟨v4, rfl, h7, h8, h9⟩
     have g3 : w4.cell? ⟨f, 3, none⟩ = some (.int .i64 d.retry) := by rw [← HDJ.out.2.1]; exact h7.blk.cell 3 _ rfl
     have g1 : w4.cell? ⟨rr.lb, k * 3 + 1, none⟩ = some (.int .i64 tr) := by
      have hkl : k < dj.l.length := by rw [HDJ.out.1]; exact hk
      have h10 := (cellsW_at dj.l k hkl).2.1
      rw [← wAt_eq dj.l k hkl, HTRE.out] at h10
      exact h7.wt.cell _ _ h10
     have gf1 := h7.wt.free (k * 3 + 1)
     have hk4 : Blk w4 wr.heap.size 115 [.int .i64 k, .int .i64 sz] := (hk3.drew).chg h8 (fun e => by
      have := HK.out.1.lt _ (.inr (.inr (.inr e)))
      omega)
     have g0 := hk4.cell 0 _ rfl
     have hlt4 := h7.wt.lt
     have hsz4 : W3.heap.size ≤ w4.heap.size := h8.size
     have hszr := hb3.size
     have H4 := Lib.hid (And.intro h7 (And.intro (show Chg W3 w4 (Foot rr.ab rr.av) from ⟨h8.os, h8.tape, h8.output, h8.size, h8.block⟩) (And.intro (show v4.ownBlock = rr.av.ownBlock ∨ ∃ k, v4.ownBlock = some k ∧ W3.heap.size ≤ k from h9) (And.intro hb3 hk4))))
     clear h7 h8 h9 hk4 hok3 c3 c1 c0 hb3 hk3
     generalize (if (3 : Int) < tr then (3 : Int) else tr) = mn
     go_wp2_with fail
     refine hK.out _ _ ⟨g3, g1, g0⟩ (fun hHeld15 => ?_)
     clear hK K; try simp only [Act.put, sa, sb, sc]
     refine wpAnyH_done (by kernel_rfl) ?_ _
     go_wp2
     have hcs : Chg w4 (w4.setCell ⟨rr.lb, k * 3 + 1, none⟩ (.int .i64 (tr + 1))) (fun x => x = rr.lb) := chg_cell (Chg.refl w4 _) _ _
     have hz5 : (w4.setCell ⟨rr.lb, k * 3 + 1, none⟩ (.int .i64 (tr + 1))).heap.size = w4.heap.size := by simp
     have HN : Hid (StJ Z w W1 (w4.setCell ⟨rr.lb, k * 3 + 1, none⟩ (.int .i64 (tr + 1))) f d1 now (ws.take (j + 1)) us es (.slice (some ⟨g, 0, none⟩) n c) (reqCells rq) n) := Lib.hid (by
      obtain ⟨k1, k2, k3, k4, k5⟩ := HK.out
      obtain ⟨m1, m2, m3, m4, m5⟩ := H4.out
      have hkl : k < dj.l.length := by rw [HDJ.out.1]; exact hk
      have hwt : Blk (w4.setCell ⟨rr.lb, k * 3 + 1, none⟩ (.int .i64 (tr + 1))) rr.lb 74 (cellsW (dj.l.set k ⟨(wAt dj.l k).size, (wAt dj.l k).tries + 1, (wAt dj.l k).kept⟩)) := by
       rw [cellsW_try dj.l k _ hkl, HTRE.out]
       have h9 : Blk w4 rr.lb 74 (cellsW dj.l) := m1.wt
       exact h9.set _ _ (by rw [cellsW_length]; omega)
      have hst := m1.setW (dj.l.set k ⟨(wAt dj.l k).size, (wAt dj.l k).tries + 1, (wAt dj.l k).kept⟩) (by simp) hcs hwt
      have hM : ∀ x, FdM f rr x → x < w.heap.size ∨ W1.heap.size ≤ x := k3
      have hMz : ∀ x, FdM f rr x → x < w.heap.size → Z x := fun x hx hlt => by
       rcases k2 x (k1.mz x hx) with h | h
       ·exact h
       ·exact absurd h.1 (by omega)
      unfold StJ
      rw [HST.out]
      refine ⟨Wide Zj W3.drew w4, { rr with av := v4 }, ?_, fun x hx => ?_, fun x hx => ?_, ?_, ?_, by rw [hz5]; omega⟩
      ·have e : st1 now dj k = { ({ dj with m := insE ⟨now + againZ d.retry tr, dj.ord, (k : Int)⟩ (keepW (k : Int) dj.m), ord := dj.ord + 1 } : FdD) with l := dj.l.set k ⟨(wAt dj.l k).size, (wAt dj.l k).tries + 1, (wAt dj.l k).kept⟩ } := by
        unfold st1
        rw [HTRE.out, HDJ.out.2.1]
       rw [e]
       exact hst
      ·rcases hx with hx | hx
       ·rcases k2 x hx with h | h
        ·exact .inl h
        ·exact .inr ⟨h.1, by rw [hz5]; have := h.2; omega⟩
       ·exact .inr ⟨by have h10 : W3.heap.size ≤ x := hx.1; omega, by rw [hz5]; exact hx.2⟩
      ·rcases hx with hx | hx | hx | hx
       ·exact hM x (.inl hx)
       ·exact hM x (.inr (.inl hx))
       ·exact hM x (.inr (.inr (.inl hx)))
       ·rcases hx with hx | hx
        ·exact hM x (.inr (.inr (.inr (.inl hx))))
        ·rcases m3 with e | ⟨q, e, hq⟩
         ·exact hM x (.inr (.inr (.inr (.inr (by rw [← e]; exact hx)))))
         ·have hx' : some x = some q := by rw [← e]; exact hx
          injection hx' with hx'
          right
          omega
      ·have hc3 : Chg w W3 Z := k4.trans (Chg.of_below (S := fun _ => False) m4) (fun _ _ h => h.elim)
       have hc4 : Chg w w4 Z := hc3.trans m2 (fun x hx e => hMz x (.inr (.inr (.inr e))) hx)
       exact hc4.trans hcs (fun x hx e => hMz x (.inr (.inl e)) hx)
      ·have o3 := ownsRow_chg k5 (Chg.of_below (S := fun _ => False) m4) (fun _ _ h => h)
       have hgn : ¬ FdM f rr g := fun e => by
        rcases hM g e with h | h <;> omega
       have own : ∀ x, (Value.slice (some ⟨g, 0, none⟩) n c).ownBlock = some x → x = g := fun x hx => by simpa [Value.ownBlock] using hx.symm
       have o4 := ownsRow_chg o3 m2 (fun x hx e => hgn (by rw [← own x hx]; exact .inr (.inr (.inr e))))
       exact ownsRow_chg o4 hcs (fun x hx e => hgn (by rw [← own x hx]; exact .inr (.inl e))))
     clear hcs hz5 HK H4 hHeld hHeld15
     go_roundw
     case rel => exact ⟨j + 1, by go_num, by omega, HN⟩
     case measure => simp [intOf]; omega
    ·obtain rfl : j = n := by omega
     have HF := Lib.hid HJ.out
     clear HJ
     go_wp2
     go_ret
     obtain ⟨Zj, rr, h1, h2, h3, h4, h5, -⟩ := HF.out
     rw [List.take_of_length_le (by rw [HWL.out]; exact Nat.le_refl _), HD1.out.2.2.2.1] at h1
     have h6 : wr.ownsRow w.heap.size 115 2 (.slice A j c) rq.length (reqCells rq) := by rw [HRL.out]; exact h5
     rw [← HRQE.out] at h6
     exact ⟨_, rfl, h6, ⟨rr, us, es, h1.wide (fun x hx => by
      rcases h2 x hx with h | h
      ·exact ⟨.inl h, fun e => by have := HZ.out x h; have := (World.ownsRow.lt h6 x e).1; omega⟩
      ·exact ⟨.inr ⟨by omega, h.2⟩, fun e => by have := HVL.out x e; omega⟩)⟩, h4⟩
theorem step_any (Z : Nat → Prop) (f : Nat) (d : FdD) (now : Int) (hn : 0 ≤ now ∧ now ≤ 1000000000000) (hre : 1 ≤ d.retry ∧ d.retry ≤ 1000) (hm : d.m.length ≤ 1000000) (ho : d.ord ≤ 100000000) (hwh : ∀ x ∈ d.m, 0 ≤ x.wh ∧ x.wh < (d.l.length : Int)) (htr : TrOk d.l 1000000) (hl : d.l.length ≤ 1000) (w : World) (hZ : ∀ g, Z g → g < w.heap.size) (hok : FdAt Z w f d) :
  Calls Tryz.prog 35 #[.pointer (some ⟨f, 0, none⟩), .int .i64 now] w (StepPost Z w f d now) := by
 refine (step_any2 Z f d now hn hre hm ho hwh htr hl w hZ hok).mono ?_
 rintro e w' ⟨v, h1, h2, ⟨r, us, es, h3⟩, h4⟩
 exact ⟨v, h1, h2, ⟨r, us, es, h3.wide (fun g hg => hg.1)⟩, h4⟩
def repB (d : FdD) (wit size : Int) : Bool := d.has && (decide (0 ≤ wit) && (decide (wit < (d.l.length : Int)) && (!(wAt d.l wit.toNat).kept && (decide (0 ≤ size) && (decide (size ≤ d.cur.ck.num) && !decide (size = (wAt d.l wit.toNat).size))))))
def repD (d : FdD) (k : Nat) (size now : Int) : FdD := { d with m := insE ⟨now, d.ord, (k : Int)⟩ (keepW (k : Int) d.m), ord := d.ord + 1, l := d.l.set k ⟨size, (wAt d.l k).tries, (wAt d.l k).kept⟩ }
def repN (d : FdD) (wit size now : Int) : FdD := if repB d wit size = true then repD d wit.toNat size now else d
def RepPost (Z : Nat → Prop) (w : World) (f : Nat) (d : FdD) (wit size now : Int) (e : Ending) (w' : World) : Prop := e = .returned (.bool (repB d wit size)) ∧ FdAt (Wide Z w w') w' f (repN d wit size now) ∧ Chg w w' Z
theorem rep_no {Z : Nat → Prop} {w w' : World} {f : Nat} {d : FdD} {r : FdR} {us es : List Value} {wit size now : Int} (hok : FdOk Z w f d r us es) (hb : Below w.heap.size w w') (h : repB d wit size = false) : RepPost Z w f d wit size now (.returned (.bool false)) w' := by
 refine ⟨by rw [h], ?_, (Chg.refl w Z).trans (Chg.of_below (S := fun _ => False) hb) (fun _ _ h => h.elim)⟩
 unfold repN
 rw [h, if_neg (by decide)]
 exact ⟨r, us, es, (hok.below hb).wide (fun g hg => .inl hg)⟩
theorem cellsW_size (L : List WtD) (k : Nat) (z : Int) (h : k < L.length) : cellsW (L.set k ⟨z, (wAt L k).tries, (wAt L k).kept⟩) = (cellsW L).set (k * 3) (.int .i64 z) := by
 rw [cellsW_set L k _ h, wAt_eq L k h]
 obtain ⟨h0, h1, h2⟩ := cellsW_at L k h
 obtain ⟨hl1, e1⟩ := List.getElem?_eq_some_iff.1 h1
 obtain ⟨hl2, e2⟩ := List.getElem?_eq_some_iff.1 h2
 apply List.ext_getElem?
 intro j
 simp only [List.getElem?_set]
 by_cases j2 : k * 3 + 2 = j
 ·subst j2; simp [hl2, e2]
 ·by_cases j1 : k * 3 + 1 = j
  ·subst j1; simp [hl1, e1]
  ·simp [j1, j2]
set_option maxRecDepth 100000 in
set_option maxHeartbeats 8000000 in
theorem reply_nv (Z : Nat → Prop) (f : Nat) (d : FdD) (r : FdR) (us es : List Value) (v : Value) (g : CgD) (wit size now : Int) (hp : SmallPol d.p) (hr : d.cur.ck.root.length ≤ 100000000) (hs : SmallSig g.sig) (w : World) (hok : FdOk Z w f d r us es) (hv : CgV w v g) (hno : d.has = true → 0 ≤ wit → wit < (d.l.length : Int) → (wAt d.l wit.toNat).kept = false → g.wit = wit → cgVerB d.p d.cur.ck g = false) (hm : d.m.length ≤ 1000000) (ho : d.ord ≤ 100000000) (hl : d.l.length ≤ 1000) (hZ : ∀ g, Z g → g < w.heap.size) :
  Calls Tryz.prog 12 #[.pointer (some ⟨f, 0, none⟩), .int .i64 wit, v, .int .i64 size, .int .i64 now] w (RepPost Z w f d wit size now) := by
 have HZ := Lib.hid hZ
 have HNO := Lib.hid hno
 have HVF := Lib.hid (fun (wz : World) (vp vc vg : Value) (z1 : PolV wz vp d.p) (z2 : CkV wz vc d.cur.ck) (z3 : CgV wz vg g) => pcgverify_any vp vc vg d.p d.cur.ck g hp hr hs wz z1 z2 z3)
 obtain ⟨p1, q1, rfl, h1, h2⟩ := hv
 obtain ⟨P, cp, rfl⟩ := h1.form
 obtain ⟨Q, cq, rfl⟩ := h2.form
 obtain ⟨PA, pc, hpl⟩ := hok.tx.pl.1.form
 obtain ⟨PW, pwc, hpw⟩ := hok.tx.pw.rws.form
 obtain ⟨RA, rc, hcr⟩ := hok.tx.cr.1.form
 have HPL := Lib.hid (And.intro hpl (And.intro hpw hcr))
 have HX := Lib.hid (And.intro h1 h2)
 have HREP : Hid (repB d wit size = (d.has && (decide (0 ≤ wit) && (decide (wit < (d.l.length : Int)) && (!(wAt d.l wit.toNat).kept && (decide (0 ≤ size) && (decide (size ≤ d.cur.ck.num) && !decide (size = (wAt d.l wit.toNat).size)))))))) := Lib.hid rfl
 have HNOT := Lib.hid (fun (w' : World) (hb : Below w.heap.size w w') (h : repB d wit size = false) => rep_no (now := now) hok hb h)
 clear h1 h2 hp hr hs hno hZ hpl hpw hcr
 have hb0 := (Below.refl w.heap.size w).alloc (Nat.le_refl _) (.cells #[.int .i64 g.wit, .int .i64 g.sig.index, .slice P g.sig.parts.length cp, .slice Q g.sig.path.length cq] 47)
 have hk0 := Blk.new w 47 [.int .i64 g.wit, .int .i64 g.sig.index, .slice P g.sig.parts.length cp, .slice Q g.sig.path.length cq]
 have hok1 := hok.below hb0
 have H1 := Lib.hid (And.intro hk0 (And.intro hb0 hok1))
 have f11 := hok1.blk.cell 11 _ rfl
 have f5 := cell5 hok1.blk
 have hfl := hok1.blk.lt
 have hfw := hok.blk.lt
 have HOK := Lib.hid hok
 generalize hHA : d.has = HA at *
 have HHA := Lib.hid hHA
 clear hHA hok hok1 hb0 hk0
 go_enter Tryz.func12, Tryz.ntmps12
 cases HA with
 | false =>
  have HF : Hid (repB d wit size = false) := Lib.hid (by rw [HREP.out]; rfl)
  go_wp2
  go_ret
  exact HNOT.out _ H1.out.2.1 HF.out
 | true =>
  by_cases h0 : 0 ≤ wit
  ·by_cases h1 : wit < (d.l.length : Int)
   ·obtain ⟨k, rfl⟩ := Int.eq_ofNat_of_zero_le h0
    have hkl : k < d.l.length := by omega
    rw [Int.toNat_natCast, Bool.true_and, decide_eq_true h0, Bool.true_and, decide_eq_true h1, Bool.true_and] at HREP
    have hc := cellsW_at d.l k hkl
    have p2 := H1.out.2.2.wt.cell _ _ hc.2.2
    have p0 := H1.out.2.2.wt.cell _ _ hc.1
    rw [← wAt_eq d.l k hkl] at p2 p0
    have hlb := H1.out.2.2.wt.lt
    clear hc
    generalize hKE : (wAt d.l k).kept = KE at *
    have HKE := Lib.hid hKE
    clear hKE
    cases KE with
    | true =>
     have HF : Hid (repB d k size = false) := Lib.hid (by rw [HREP.out]; rfl)
     go_wp2
     go_ret
     exact HNOT.out _ H1.out.2.1 HF.out
    | false =>
     rw [Bool.not_false, Bool.true_and] at HREP
     have hx := (wAt d.l k).size
     clear hx
     go_wp2
     refine code_at (fun w1 => Blk w1 w.heap.size 47 [.int .i64 g.wit, .int .i64 g.sig.index, .slice P g.sig.parts.length cp, .slice Q g.sig.path.length cq] ∧ Below w.heap.size w w1 ∧ FdOk Z w1 f d r us es) H1.out ?_
     rintro w1 ⟨k0, kb, kd⟩
     have c0 := k0.cell 0 _ rfl
     have c1 := k0.cell 1 _ rfl
     have c2 := k0.cell 2 _ rfl
     have c3 := k0.cell 3 _ rfl
     have g0 : w1.cell? ⟨f, 0, none⟩ = some (.slice PA d.p.log.length pc) := by rw [← HPL.out.1]; exact kd.blk.cell 0 _ rfl
     have g1 : w1.cell? ⟨f, 1, none⟩ = some (.slice PW d.p.wits.length pwc) := by rw [← HPL.out.2.1]; exact kd.blk.cell 1 _ rfl
     have g2 : w1.cell? ⟨f, 2, none⟩ = some (.int .i64 d.p.quorum) := kd.blk.cell 2 _ rfl
     have g6 : w1.cell? ⟨f, 6, none⟩ = some (.int .i64 d.cur.ck.num) := kd.blk.cell 6 _ rfl
     have g7 : w1.cell? ⟨f, 7, none⟩ = some (.slice RA d.cur.ck.root.length rc) := by rw [← HPL.out.2.2]; exact kd.blk.cell 7 _ rfl
     have hfl1 := kd.blk.lt
     have hkl1 := k0.lt
     have H2 := Lib.hid (And.intro k0 (And.intro kb kd))
     clear k0 kb kd f11 f5 p2 p0 hlb hfl hfw
     by_cases hgw : g.wit = (k : Int)
     ·have HNV := Lib.hid (HNO.out (by first | trivial | rfl | exact HHA.out) h0 h1 (by rw [Int.toNat_natCast]; exact HKE.out) hgw)
      rw [hgw] at c0
      refine wp_region_held_drew (S := fun w' => w'.cell? ⟨w.heap.size, 0, none⟩ = some (.int .i64 k) ∧ w'.cell? ⟨w.heap.size, 1, none⟩ = some (.int .i64 g.sig.index) ∧ w'.cell? ⟨w.heap.size, 2, none⟩ = some (.slice P g.sig.parts.length cp) ∧ w'.cell? ⟨w.heap.size, 3, none⟩ = some (.slice Q g.sig.path.length cq) ∧ w'.cell? ⟨f, 0, none⟩ = some (.slice PA d.p.log.length pc) ∧ w'.cell? ⟨f, 1, none⟩ = some (.slice PW d.p.wits.length pwc) ∧ w'.cell? ⟨f, 2, none⟩ = some (.int .i64 d.p.quorum) ∧ w'.cell? ⟨f, 6, none⟩ = some (.int .i64 d.cur.ck.num) ∧ w'.cell? ⟨f, 7, none⟩ = some (.slice RA d.cur.ck.root.length rc)) (by kernel_rfl) ?_ (fun hHeld => ?_)
      ·exact ⟨c0, c1, c2, c3, g0, g1, g2, g6, g7⟩
      refine ty 0 40 rfl rfl ?_; simp only [sa, sb, sc]
      refine ty 1 41 rfl rfl ?_; simp only [sa, sb, sc]
      refine ty 2 42 rfl rfl ?_; simp only [sa, sb, sc]
      refine ty 3 43 rfl rfl ?_; simp only [sa, sb, sc]
      refine ty 4 44 rfl rfl ?_; simp only [sa, sb, sc]
      refine ty 5 45 rfl rfl ?_; simp only [sa, sb, sc]
      refine ty 6 46 rfl rfl ?_; simp only [sa, sb, sc]
      refine ty 7 47 rfl rfl ?_; simp only [sa, sb, sc]
      refine ty 8 48 rfl rfl ?_; simp only [sa, sb, sc]
      refine ty 9 49 rfl rfl ?_; simp only [sa, sb, sc]
      refine ty 10 50 rfl rfl ?_; simp only [sa, sb, sc]
      refine ty 11 51 rfl rfl ?_; simp only [sa, sb, sc]
      refine ty 12 52 rfl rfl ?_; simp only [sa, sb, sc]
      refine ty 13 53 rfl rfl ?_; simp only [sa, sb, sc]
      refine ty 14 54 rfl rfl ?_; simp only [sa, sb, sc]
      refine rd 15 (by kernel_rfl) rfl (fun K hK => ?_)
      go_simp
      go_at_call 30
      refine (HVF.out w1.drew _ _ _ ⟨_, _, rfl, by rw [← HPL.out.1]; exact H2.out.2.2.tx.pl.1.below (Below.refl _ _).drew, by rw [← HPL.out.2.1]; exact H2.out.2.2.tx.pw.rws.below (Below.refl _ _).drew⟩ ⟨_, rfl, by rw [← HPL.out.2.2]; exact H2.out.2.2.tx.cr.1.below (Below.refl _ _).drew⟩ ⟨_, _, by rw [hgw], HX.out.1.below H2.out.2.1.drew, HX.out.2.below H2.out.2.1.drew⟩).mono ?_
      rw [HNV.out]
      rintro e w2 ⟨rfl, h2'⟩
      have h2 : Below w1.heap.size w1 w2 := ⟨h2'.os, h2'.tape, h2'.output, h2'.size, h2'.block⟩
      have kA := H2.out.1.below h2
      have kF := H2.out.2.2.blk.below h2
      have j0 := kA.cell 0 _ rfl
      rw [hgw] at j0
      have j1 := kA.cell 1 _ rfl
      have j2 := kA.cell 2 _ rfl
      have j3 := kA.cell 3 _ rfl
      have i0 : w2.cell? ⟨f, 0, none⟩ = some (.slice PA d.p.log.length pc) := by rw [← HPL.out.1]; exact kF.cell 0 _ rfl
      have i1 : w2.cell? ⟨f, 1, none⟩ = some (.slice PW d.p.wits.length pwc) := by rw [← HPL.out.2.1]; exact kF.cell 1 _ rfl
      have i2 : w2.cell? ⟨f, 2, none⟩ = some (.int .i64 d.p.quorum) := kF.cell 2 _ rfl
      have i6 : w2.cell? ⟨f, 6, none⟩ = some (.int .i64 d.cur.ck.num) := kF.cell 6 _ rfl
      have i7 : w2.cell? ⟨f, 7, none⟩ = some (.slice RA d.cur.ck.root.length rc) := by rw [← HPL.out.2.2]; exact kF.cell 7 _ rfl
      have H3 := Lib.hid (And.intro (H2.out.2.1.trans (h2.mono H2.out.2.1.size)) (H2.out.2.2.below h2))
      clear h2 h2' kA kF
      go_wp2_with fail
      refine hK.out _ _ ⟨j0, j1, j2, j3, i0, i1, i2, i6, i7⟩ (fun hHeld15 => ?_)
      clear hK K; try simp only [Act.put, sa, sb, sc]
      refine ty 16 56 rfl rfl ?_; simp only [sa, sb, sc]
      refine wpAnyH_done (by kernel_rfl) ?_ _
      clear hHeld hHeld15 j0 j1 j2 j3 i0 i1 i2 i6 i7 c0 c1 c2 c3 g0 g1 g2 g6 g7
      have m6 : w2.cell? ⟨f, 6, none⟩ = some (.int .i64 d.cur.ck.num) := H3.out.2.blk.cell 6 _ rfl
      have m5 := cell5 H3.out.2.blk
      have mz := H3.out.2.wt.cell _ _ (cellsW_at d.l k hkl).1
      rw [← wAt_eq d.l k hkl] at mz
      have my := H3.out.2.wt.free (k * 3)
      have mlb := H3.out.2.wt.lt
      have mfl := H3.out.2.blk.lt
      by_cases hs0 : 0 ≤ size
      ·by_cases hs1 : size ≤ d.cur.ck.num
       ·rw [decide_eq_true hs0, decide_eq_true hs1, Bool.true_and, Bool.true_and] at HREP
        by_cases hs2 : size = (wAt d.l k).size
        ·have HF : Hid (repB d k size = false) := Lib.hid (by rw [HREP.out, decide_eq_true hs2]; rfl)
         rw [← hs2] at mz
         go_wp2
         go_ret
         exact HNOT.out _ H3.out.1 HF.out
        ·have HT : Hid (repB d k size = true) := Lib.hid (by rw [HREP.out, decide_eq_false hs2]; rfl)
         have hcs : Chg w2 (w2.setCell ⟨r.lb, k * 3, none⟩ (.int .i64 size)) (fun k => k = r.lb) := chg_cell (Chg.refl w2 _) (k * 3) (.int .i64 size)
         have hbl : Blk (w2.setCell ⟨r.lb, k * 3, none⟩ (.int .i64 size)) r.lb 74 (cellsW (d.l.set k ⟨size, (wAt d.l k).tries, (wAt d.l k).kept⟩)) := by
          rw [cellsW_size d.l k size hkl]
          exact H3.out.2.wt.set (k * 3) _ (by have := (List.getElem?_eq_some_iff.1 (cellsW_at d.l k hkl).1).1; exact this)
         have HK := Lib.hid (And.intro (H3.out.2.setW (d.l.set k ⟨size, (wAt d.l k).tries, (wAt d.l k).kept⟩) (by simp) hcs hbl) hcs)
         have HP := Lib.hid (plan_any Z f { d with l := d.l.set k ⟨size, (wAt d.l k).tries, (wAt d.l k).kept⟩ } r us es now (k : Int) (show d.m.length ≤ 10000000 by omega) (show d.ord ≤ 1000000000 by omega) _ HK.out.1)
         have n2 : ((size == (wAt d.l k).size) : Bool) = false := by simpa using hs2
         clear hcs hbl
         go_wp2_with fail
         refine HP.out.mono ?_
         rintro e w4 ⟨v4, rfl, h1, h2, -⟩
         have H4 := Lib.hid (And.intro h1 h2)
         clear h1 h2
         go_wp2
         go_ret
         have hz3 := HK.out.2.size
         have hz2 := H3.out.1.size
         refine ⟨by rw [HT.out]; rfl, ?_, ?_⟩
         ·unfold repN
          rw [HT.out, if_pos rfl, Int.toNat_natCast]
          exact ⟨_, us, es, H4.out.1.wide (fun x hx => by
           rcases hx with hx | hx
           ·exact .inl hx
           ·exact .inr ⟨by have : (w2.setCell ⟨r.lb, k * 3, none⟩ (.int .i64 size)).heap.size ≤ x := hx.1; omega, hx.2⟩)⟩
         ·have c1 : Chg w w2 Z := (Chg.refl w Z).trans (Chg.of_below (S := fun _ => False) H3.out.1) (fun _ _ h => h.elim)
          have c2 := c1.trans HK.out.2 (fun x _ e => HOK.out.mz x (.inr (.inl e)))
          exact c2.trans H4.out.2 (fun x _ e => HOK.out.mz x (.inr (.inr (.inr e))))
       ·have HF : Hid (repB d k size = false) := Lib.hid (by rw [HREP.out, decide_eq_false hs1]; simp)
        go_wp2
        go_ret
        exact HNOT.out _ H3.out.1 HF.out
      ·have HF : Hid (repB d k size = false) := Lib.hid (by rw [HREP.out, decide_eq_false hs0]; rfl)
       go_wp2
       go_ret
       exact HNOT.out _ H3.out.1 HF.out
     ·have n0 : ((g.wit == (k : Int)) : Bool) = false := by simpa using hgw
      refine wp_region_held_drew (S := fun w' => w'.cell? ⟨w.heap.size, 0, none⟩ = some (.int .i64 g.wit)) (by kernel_rfl) ?_ (fun hHeld => ?_)
      ·exact c0
      refine ty 0 40 rfl rfl ?_; simp only [sa, sb, sc]
      refine ty 1 41 rfl rfl ?_; simp only [sa, sb, sc]
      refine ty 2 42 rfl rfl ?_; simp only [sa, sb, sc]
      refine ty 3 43 rfl rfl ?_; simp only [sa, sb, sc]
      refine ty 4 44 rfl rfl ?_; simp only [sa, sb, sc]
      refine tn 5 45 rfl rfl ?_; simp only [sa, sb, sc]
      refine tn 6 46 rfl rfl ?_; simp only [sa, sb, sc]
      refine tn 7 47 rfl rfl ?_; simp only [sa, sb, sc]
      refine tn 8 48 rfl rfl ?_; simp only [sa, sb, sc]
      refine tn 9 49 rfl rfl ?_; simp only [sa, sb, sc]
      refine tn 10 50 rfl rfl ?_; simp only [sa, sb, sc]
      refine tn 11 51 rfl rfl ?_; simp only [sa, sb, sc]
      refine tn 12 52 rfl rfl ?_; simp only [sa, sb, sc]
      refine tn 13 53 rfl rfl ?_; simp only [sa, sb, sc]
      refine tn 14 54 rfl rfl ?_; simp only [sa, sb, sc]
      refine tn 15 55 rfl rfl ?_; simp only [sa, sb, sc]
      refine ty 16 56 rfl rfl ?_; simp only [sa, sb, sc]
      refine wpAnyH_done (by kernel_rfl) ?_ _
      have hb2 : Below w1.heap.size w1 w1.drew := (Below.refl _ _).drew
      generalize w1.drew = w2 at *
      have H3 := Lib.hid (And.intro (H2.out.2.1.trans (hb2.mono H2.out.2.1.size)) (H2.out.2.2.below hb2))
      clear hb2 hHeld c0 c1 c2 c3 g0 g1 g2 g6 g7
      have m6 : w2.cell? ⟨f, 6, none⟩ = some (.int .i64 d.cur.ck.num) := H3.out.2.blk.cell 6 _ rfl
      have m5 := cell5 H3.out.2.blk
      have mz := H3.out.2.wt.cell _ _ (cellsW_at d.l k hkl).1
      rw [← wAt_eq d.l k hkl] at mz
      have my := H3.out.2.wt.free (k * 3)
      have mlb := H3.out.2.wt.lt
      have mfl := H3.out.2.blk.lt
      by_cases hs0 : 0 ≤ size
      ·by_cases hs1 : size ≤ d.cur.ck.num
       ·rw [decide_eq_true hs0, decide_eq_true hs1, Bool.true_and, Bool.true_and] at HREP
        by_cases hs2 : size = (wAt d.l k).size
        ·have HF : Hid (repB d k size = false) := Lib.hid (by rw [HREP.out, decide_eq_true hs2]; rfl)
         rw [← hs2] at mz
         go_wp2
         go_ret
         exact HNOT.out _ H3.out.1 HF.out
        ·have HT : Hid (repB d k size = true) := Lib.hid (by rw [HREP.out, decide_eq_false hs2]; rfl)
         have hcs : Chg w2 (w2.setCell ⟨r.lb, k * 3, none⟩ (.int .i64 size)) (fun k => k = r.lb) := chg_cell (Chg.refl w2 _) (k * 3) (.int .i64 size)
         have hbl : Blk (w2.setCell ⟨r.lb, k * 3, none⟩ (.int .i64 size)) r.lb 74 (cellsW (d.l.set k ⟨size, (wAt d.l k).tries, (wAt d.l k).kept⟩)) := by
          rw [cellsW_size d.l k size hkl]
          exact H3.out.2.wt.set (k * 3) _ (by have := (List.getElem?_eq_some_iff.1 (cellsW_at d.l k hkl).1).1; exact this)
         have HK := Lib.hid (And.intro (H3.out.2.setW (d.l.set k ⟨size, (wAt d.l k).tries, (wAt d.l k).kept⟩) (by simp) hcs hbl) hcs)
         have HP := Lib.hid (plan_any Z f { d with l := d.l.set k ⟨size, (wAt d.l k).tries, (wAt d.l k).kept⟩ } r us es now (k : Int) (show d.m.length ≤ 10000000 by omega) (show d.ord ≤ 1000000000 by omega) _ HK.out.1)
         have n2 : ((size == (wAt d.l k).size) : Bool) = false := by simpa using hs2
         clear hcs hbl
         go_wp2_with fail
         refine HP.out.mono ?_
         rintro e w4 ⟨v4, rfl, h1, h2, -⟩
         have H4 := Lib.hid (And.intro h1 h2)
         clear h1 h2
         go_wp2
         go_ret
         have hz3 := HK.out.2.size
         have hz2 := H3.out.1.size
         refine ⟨by rw [HT.out]; rfl, ?_, ?_⟩
         ·unfold repN
          rw [HT.out, if_pos rfl, Int.toNat_natCast]
          exact ⟨_, us, es, H4.out.1.wide (fun x hx => by
           rcases hx with hx | hx
           ·exact .inl hx
           ·exact .inr ⟨by have : (w2.setCell ⟨r.lb, k * 3, none⟩ (.int .i64 size)).heap.size ≤ x := hx.1; omega, hx.2⟩)⟩
         ·have c1 : Chg w w2 Z := (Chg.refl w Z).trans (Chg.of_below (S := fun _ => False) H3.out.1) (fun _ _ h => h.elim)
          have c2 := c1.trans HK.out.2 (fun x _ e => HOK.out.mz x (.inr (.inl e)))
          exact c2.trans H4.out.2 (fun x _ e => HOK.out.mz x (.inr (.inr (.inr e))))
       ·have HF : Hid (repB d k size = false) := Lib.hid (by rw [HREP.out, decide_eq_false hs1]; simp)
        go_wp2
        go_ret
        exact HNOT.out _ H3.out.1 HF.out
      ·have HF : Hid (repB d k size = false) := Lib.hid (by rw [HREP.out, decide_eq_false hs0]; rfl)
       go_wp2
       go_ret
       exact HNOT.out _ H3.out.1 HF.out
   ·have HF : Hid (repB d wit size = false) := Lib.hid (by rw [HREP.out, decide_eq_false h1]; simp)
    go_wp2
    go_ret
    exact HNOT.out _ H1.out.2.1 HF.out
  ·have HF : Hid (repB d wit size = false) := Lib.hid (by rw [HREP.out, decide_eq_false h0]; simp)
   go_wp2
   go_ret
   exact HNOT.out _ H1.out.2.1 HF.out
theorem info_cosig : (Tryz.prog.info? 47).map (fun i => (i.zero, i.size, i.bytes)) = some (some (.agg #[.int .i64 0, .int .i64 0, .slice none 0 0, .slice none 0 0]), 4, 64) := by kernel_rfl
theorem eqnil_cosigs (w : World) (a : Option Addr) (n c n' c' : Nat) : (binOp .eql 49 (.slice a n c) (.slice none n' c')).run Tryz.prog w = .ok (.bool a.isNone) w := Lib.run_eql_slice_nil w _ _ a n c n' c' Tryz.underlying49
set_option maxRecDepth 100000 in
set_option maxHeartbeats 1000000 in
theorem clonecg_any (v : Value) (n : Nat) (us : List Value) (hsm : n ≤ 1000000) (hone : ∀ u ∈ us, u.oneCell' = true) (w : World) (hx : Sho w v n 4 us) :
  Calls Tryz.prog 59 #[v] w fun e w' => ∃ v', e = .returned v' ∧ w'.ownsRow w.heap.size 47 4 v' n us ∧ Below w.heap.size w w' := by
 obtain ⟨i0, hi0, hz0, hz1, hz2⟩ := info_parts info_cosig
 obtain ⟨A, c, rfl⟩ := hx.form
 cases A with
 | none =>
  have h0 := Sho.none hx
  subst h0
  have hu : us = [] := List.length_eq_zero_iff.1 (by have := hx.1; omega)
  subst hu
  have qn := eqnil_cosigs
  clear hx
  go_enter Tryz.func59, Tryz.ntmps59
  go_wp2
  go_ret
  exact ⟨_, rfl, World.ownsRow_nil _ _ _ _, Below.refl _ _⟩
 | some a =>
  have HX := Lib.hid (hx.below ((Below.refl w.heap.size w).alloc (Nat.le_refl _) (.cells #[] 47)))
  have HNB : Hid (Blk (w.alloc (.cells #[] 47)) w.heap.size 47 []) := Lib.hid (Blk.new w 47 [])
  clear hx
  have qn := eqnil_cosigs
  go_enter Tryz.func59, Tryz.ntmps59
  go_wp2_with (at_builtin; (refine wpList_append_any rfl (.tmp 5) (.tmp 6) 49 rfl w.heap.size 47 i0 (.agg #[.int .i64 0, .int .i64 0, .slice none 0 0, .slice none 0 0]) 4 64 Tryz.underlying49 hi0 hz0 hz1 hz2 rfl (by decide) _ 0 [] rfl (own_none HNB.out (Nat.le_refl _)) _ n us rfl (HX.out.news hone) (by unfold maxLen; omega) (by omega) (by simp) ?_); intro v2 W2 hown2 hgrow2; have HB2 : Hid (Below w.heap.size w W2) := Lib.hid (((Below.refl w.heap.size w).alloc (Nat.le_refl _) _).grown hgrow2 (by simp) (fun k e => by have e' : some w.heap.size = some k := e; injection e' with e'; omega)); have HO2 : Hid (W2.ownsRow w.heap.size 47 4 v2 n us) := Lib.hid (by simpa only [Nat.zero_add, List.nil_append] using hown2); clear hown2 hgrow2)
  go_ret
  exact ⟨_, rfl, HO2.out, HB2.out⟩
end Go.Proofs.YtlkgeifmppadmaaGreat
