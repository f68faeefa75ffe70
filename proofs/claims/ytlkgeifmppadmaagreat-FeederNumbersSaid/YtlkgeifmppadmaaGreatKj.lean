/- The model's offer. The model's step. Conditions: as each theorem states them. -/
import Derived.Test.YtlkgeifmppadmaaGreatKi
import Derived.Test.YtlkgeifmppadmaaGreatKd
namespace Go.Proofs.YtlkgeifmppadmaaGreat
open Go.RowKit
set_option linter.unusedVariables false
set_option linter.unusedSimpArgs false

theorem mdCells_length (tb rb : Nat) (d : MdD) (r : MdR) : (mdCells tb rb d r).length = 21 := rfl
def offP (now : Int) : Nat → List (Int × Int)
 | 0 => []
 | i + 1 => insP now (i : Int) (offP now i)
theorem offP_length (now : Int) : ∀ i, (offP now i).length = i
 | 0 => rfl
 | i + 1 => by show (insP now (i : Int) (offP now i)).length = _; rw [insP_length, offP_length now i]
def moffB (d : MdD) (s : SgD) : Bool := ckVerB d.p.log s && !(d.has && decide (s.ck.num ≤ d.cur.ck.num))
def moffI (d : MdD) (s : SgD) (now : Int) (i : Nat) : MdD := { d with cur := s, has := true, kept := [], plans := offP now i, tr := List.replicate i 0 ++ d.tr.drop i }
def moffN (d : MdD) (s : SgD) (now : Int) : MdD := if moffB d s = true then moffI d s now d.th.length else d
set_option maxRecDepth 100000 in
set_option maxHeartbeats 8000000 in
theorem moffer_any (D Y : Nat → Prop) (mb tb rb : Nat) (d : MdD) (v : Value) (s : SgD) (now : Int) (hlog : d.p.log.length ≤ 1000000000) (hr : s.ck.root.length ≤ 100000000) (hs : SmallSig s.sig) (hlen : d.tr.length = d.th.length) (hk : d.th.length ≤ 100) (w : World) (hok : MdAt D w mb tb rb d) (hv : SgF Y w v s) (hY : ∀ g, Y g → ¬ MdM mb tb rb g ∧ g < w.heap.size) :
  Calls Tryz.prog 36 #[.pointer (some ⟨mb, 0, none⟩), v, .int .i64 now] w fun e w' => e = .returned (.bool (moffB d s)) ∧ ∃ D', MdAt D' w' mb tb rb (moffN d s now) ∧ (∀ g, D' g → D g ∨ Y g ∨ Fresh w w' g) ∧ Chg w w' (fun k => k = mb ∨ k = rb) := by
 obtain ⟨r, hok⟩ := hok
 have HVF := Lib.hid (fun (wz : World) (vp v : Value) (z1 : Bys wz vp d.p.log) (z2 : SgV wz v s) => rckverify_any vp v d.p.log s hlog hr hs wz z1 z2)
 have HYM := Lib.hid hY
 have hYY : True := True.intro
 obtain ⟨rv, pv, qv, rfl, h1, h2, h3⟩ := hv
 obtain ⟨R, cr, rfl⟩ := h1.1.form
 obtain ⟨P, cp, rfl⟩ := h2.rws.form
 obtain ⟨Q, cq, rfl⟩ := h3.rws.form
 obtain ⟨PL, plc, hpl⟩ := hok.tx.pl.1.form
 have HPL := Lib.hid hpl
 have HX := Lib.hid (And.intro h1 (And.intro h2 h3))
 obtain ⟨HAS, hhas⟩ : ∃ b, d.has = b := ⟨_, rfl⟩
 have HHAS := Lib.hid hhas
 have HMB : Hid (moffB d s = (ckVerB d.p.log s && !(HAS && decide (s.ck.num ≤ d.cur.ck.num)))) := Lib.hid (by rw [← hhas]; rfl)
 generalize hVB : ckVerB d.p.log s = VB at *
 have hb0 := (Below.refl w.heap.size w).alloc (Nat.le_refl _) (.cells #[.int .i64 s.ck.num, .slice R s.ck.root.length cr, .int .i64 s.sig.index, .slice P s.sig.parts.length cp, .slice Q s.sig.path.length cq] 40)
 have hk0 := Blk.new w 40 [.int .i64 s.ck.num, .slice R s.ck.root.length cr, .int .i64 s.sig.index, .slice P s.sig.parts.length cp, .slice Q s.sig.path.length cq]
 have hm1 := hok.below hb0
 have H0 := Lib.hid (And.intro hk0 (And.intro hb0 hm1))
 clear hb0 hk0 hm1 h1 h2 h3 hpl hhas hVB hok hY hlog hr hs
 go_enter Tryz.func36, Tryz.ntmps36
 go_wp2
 refine code_at (fun w1 => Blk w1 w.heap.size 40 [.int .i64 s.ck.num, .slice R s.ck.root.length cr, .int .i64 s.sig.index, .slice P s.sig.parts.length cp, .slice Q s.sig.path.length cq] ∧ Below w.heap.size w w1 ∧ MdOk D w1 mb tb rb d r) H0.out ?_
 rintro w1 ⟨k0, kb, km⟩
 have z0 := k0.cell 0 _ rfl
 have z1 := k0.cell 1 _ rfl
 have z2 := k0.cell 2 _ rfl
 have z3 := k0.cell 3 _ rfl
 have z4 := k0.cell 4 _ rfl
 have z5 : w1.cell? ⟨mb, 0, none⟩ = some (.slice PL d.p.log.length plc) := by rw [← HPL.out]; exact km.blk.cell 0 _ rfl
 have z6 : w1.cell? ⟨mb, 9, none⟩ = some (.bool HAS) := by rw [← HHAS.out]; exact km.blk.cell 9 _ rfl
 have z7 := km.blk.cell 4 _ rfl
 have hl1 := k0.lt
 have hl2 := km.blk.lt
 have H1 := Lib.hid (And.intro k0 (And.intro kb km))
 clear k0 kb km H0
 cases VB with
 | false =>
  have HF : Hid (moffB d s = false) := Lib.hid (by rw [HMB.out]; rfl)
  refine wp_region_held_drew (S := fun w' => w'.cell? ⟨w.heap.size, 0, none⟩ = some (.int .i64 s.ck.num) ∧ w'.cell? ⟨w.heap.size, 1, none⟩ = some (.slice R s.ck.root.length cr) ∧ w'.cell? ⟨w.heap.size, 2, none⟩ = some (.int .i64 s.sig.index) ∧ w'.cell? ⟨w.heap.size, 3, none⟩ = some (.slice P s.sig.parts.length cp) ∧ w'.cell? ⟨w.heap.size, 4, none⟩ = some (.slice Q s.sig.path.length cq) ∧ w'.cell? ⟨mb, 0, none⟩ = some (.slice PL d.p.log.length plc) ∧ w'.cell? ⟨mb, 9, none⟩ = some (.bool HAS) ∧ w'.cell? ⟨mb, 4, none⟩ = some (.int .i64 d.cur.ck.num)) (by kernel_rfl) ?_ (fun hHeld => ?_)
  ·exact ⟨z0, z1, z2, z3, z4, z5, z6, z7⟩
  refine ty 0 8 rfl rfl ?_; simp only [sa, sb, sc]
  refine ty 1 9 rfl rfl ?_; simp only [sa, sb, sc]
  refine ty 2 10 rfl rfl ?_; simp only [sa, sb, sc]
  refine ty 3 11 rfl rfl ?_; simp only [sa, sb, sc]
  refine ty 4 12 rfl rfl ?_; simp only [sa, sb, sc]
  refine ty 5 13 rfl rfl ?_; simp only [sa, sb, sc]
  refine rd 6 (by kernel_rfl) rfl (fun K hK => ?_)
  go_simp
  go_at_call 64
  refine (HVF.out w1.drew _ _ (by rw [← HPL.out]; exact H1.out.2.2.tx.pl.1.below (Below.refl _ _).drew) ⟨_, _, _, rfl, (HX.out.1.1.below H1.out.2.1).below (Below.refl _ _).drew, (HX.out.2.1.rws.below H1.out.2.1).below (Below.refl _ _).drew, (HX.out.2.2.rws.below H1.out.2.1).below (Below.refl _ _).drew⟩).mono ?_
  rintro e w2 ⟨rfl, h2'⟩
  have h2 : Below w1.heap.size w1 w2 := ⟨h2'.os, h2'.tape, h2'.output, h2'.size, h2'.block⟩
  have kB := H1.out.1.below h2
  have kM := (H1.out.2.2.below h2).blk
  have x0 := kB.cell 0 _ rfl
  have x1 := kB.cell 1 _ rfl
  have x2 := kB.cell 2 _ rfl
  have x3 := kB.cell 3 _ rfl
  have x4 := kB.cell 4 _ rfl
  have x5 : w2.cell? ⟨mb, 0, none⟩ = some (.slice PL d.p.log.length plc) := by rw [← HPL.out]; exact kM.cell 0 _ rfl
  have x6 : w2.cell? ⟨mb, 9, none⟩ = some (.bool HAS) := by rw [← HHAS.out]; exact kM.cell 9 _ rfl
  have x7 := kM.cell 4 _ rfl
  have H2 := Lib.hid (And.intro kB (And.intro (H1.out.2.1.trans (h2.mono H1.out.2.1.size)) (H1.out.2.2.below h2)))
  clear h2 h2' kB kM
  try dsimp only
  refine hK.out _ _ ⟨x0, x1, x2, x3, x4, x5, x6, x7⟩ (fun hHeld6 => ?_)
  clear hK K; try simp only [Act.put, sa, sb, sc]
  refine ty 7 15 rfl rfl ?_; simp only [sa, sb, sc]
  refine ty 8 16 rfl rfl ?_; simp only [sa, sb, sc]
  refine tn 9 17 rfl rfl ?_; simp only [sa, sb, sc]
  refine tn 10 18 rfl rfl ?_; simp only [sa, sb, sc]
  refine tn 11 19 rfl rfl ?_; simp only [sa, sb, sc]
  refine tn 12 20 rfl rfl ?_; simp only [sa, sb, sc]
  refine tn 13 21 rfl rfl ?_; simp only [sa, sb, sc]
  refine tn 14 22 rfl rfl ?_; simp only [sa, sb, sc]
  refine tn 15 23 rfl rfl ?_; simp only [sa, sb, sc]
  refine tn 16 24 rfl rfl ?_; simp only [sa, sb, sc]
  refine tn 17 25 rfl rfl ?_; simp only [sa, sb, sc]
  refine tn 18 26 rfl rfl ?_; simp only [sa, sb, sc]
  refine tn 19 27 rfl rfl ?_; simp only [sa, sb, sc]
  refine tn 20 28 rfl rfl ?_; simp only [sa, sb, sc]
  refine tn 21 29 rfl rfl ?_; simp only [sa, sb, sc]
  refine tn 22 30 rfl rfl ?_; simp only [sa, sb, sc]
  refine tn 23 31 rfl rfl ?_; simp only [sa, sb, sc]
  refine tn 24 32 rfl rfl ?_; simp only [sa, sb, sc]
  refine ty 25 33 rfl rfl ?_; simp only [sa, sb, sc]
  refine wpAnyH_done (by kernel_rfl) ?_ _
  clear hHeld hHeld6 z0 z1 z2 z3 z4 z5 z6 z7 x5 x6 x7
  go_wp2
  go_ret
  refine ⟨by rw [HF.out]; rfl, D, ?_, fun g hg => .inl hg, (Chg.refl w _).trans (Chg.of_below (S := fun _ => False) H2.out.2.1) (fun _ _ h => h.elim)⟩
  unfold moffN
  rw [HF.out, if_neg (by decide)]
  exact ⟨r, H2.out.2.2⟩
 | true =>
  rw [Bool.true_and] at HMB
  cases HAS with
  | false =>
   have HT : Hid (moffB d s = true) := Lib.hid (by rw [HMB.out]; rfl)
   refine wp_region_held_drew (S := fun w' => w'.cell? ⟨w.heap.size, 0, none⟩ = some (.int .i64 s.ck.num) ∧ w'.cell? ⟨w.heap.size, 1, none⟩ = some (.slice R s.ck.root.length cr) ∧ w'.cell? ⟨w.heap.size, 2, none⟩ = some (.int .i64 s.sig.index) ∧ w'.cell? ⟨w.heap.size, 3, none⟩ = some (.slice P s.sig.parts.length cp) ∧ w'.cell? ⟨w.heap.size, 4, none⟩ = some (.slice Q s.sig.path.length cq) ∧ w'.cell? ⟨mb, 0, none⟩ = some (.slice PL d.p.log.length plc) ∧ w'.cell? ⟨mb, 9, none⟩ = some (.bool false) ∧ w'.cell? ⟨mb, 4, none⟩ = some (.int .i64 d.cur.ck.num)) (by kernel_rfl) ?_ (fun hHeld => ?_)
   ·exact ⟨z0, z1, z2, z3, z4, z5, z6, z7⟩
   refine ty 0 8 rfl rfl ?_; simp only [sa, sb, sc]
   refine ty 1 9 rfl rfl ?_; simp only [sa, sb, sc]
   refine ty 2 10 rfl rfl ?_; simp only [sa, sb, sc]
   refine ty 3 11 rfl rfl ?_; simp only [sa, sb, sc]
   refine ty 4 12 rfl rfl ?_; simp only [sa, sb, sc]
   refine ty 5 13 rfl rfl ?_; simp only [sa, sb, sc]
   refine rd 6 (by kernel_rfl) rfl (fun K hK => ?_)
   go_simp
   go_at_call 64
   refine (HVF.out w1.drew _ _ (by rw [← HPL.out]; exact H1.out.2.2.tx.pl.1.below (Below.refl _ _).drew) ⟨_, _, _, rfl, (HX.out.1.1.below H1.out.2.1).below (Below.refl _ _).drew, (HX.out.2.1.rws.below H1.out.2.1).below (Below.refl _ _).drew, (HX.out.2.2.rws.below H1.out.2.1).below (Below.refl _ _).drew⟩).mono ?_
   rintro e w2 ⟨rfl, h2'⟩
   have h2 : Below w1.heap.size w1 w2 := ⟨h2'.os, h2'.tape, h2'.output, h2'.size, h2'.block⟩
   have kB := H1.out.1.below h2
   have kM := (H1.out.2.2.below h2).blk
   have x0 := kB.cell 0 _ rfl
   have x1 := kB.cell 1 _ rfl
   have x2 := kB.cell 2 _ rfl
   have x3 := kB.cell 3 _ rfl
   have x4 := kB.cell 4 _ rfl
   have x5 : w2.cell? ⟨mb, 0, none⟩ = some (.slice PL d.p.log.length plc) := by rw [← HPL.out]; exact kM.cell 0 _ rfl
   have x6 : w2.cell? ⟨mb, 9, none⟩ = some (.bool false) := by rw [← HHAS.out]; exact kM.cell 9 _ rfl
   have x7 := kM.cell 4 _ rfl
   have H2 := Lib.hid (And.intro kB (And.intro (H1.out.2.1.trans (h2.mono H1.out.2.1.size)) (H1.out.2.2.below h2)))
   clear h2 h2' kB kM
   try dsimp only
   refine hK.out _ _ ⟨x0, x1, x2, x3, x4, x5, x6, x7⟩ (fun hHeld6 => ?_)
   clear hK K; try simp only [Act.put, sa, sb, sc]
   refine ty 7 15 rfl rfl ?_; simp only [sa, sb, sc]
   refine ty 8 16 rfl rfl ?_; simp only [sa, sb, sc]
   refine ty 9 17 rfl rfl ?_; simp only [sa, sb, sc]
   refine ty 10 18 rfl rfl ?_; simp only [sa, sb, sc]
   refine ty 11 19 rfl rfl ?_; simp only [sa, sb, sc]
   refine ty 12 20 rfl rfl ?_; simp only [sa, sb, sc]
   refine ty 13 21 rfl rfl ?_; simp only [sa, sb, sc]
   refine tn 14 22 rfl rfl ?_; simp only [sa, sb, sc]
   refine tn 15 23 rfl rfl ?_; simp only [sa, sb, sc]
   refine tn 16 24 rfl rfl ?_; simp only [sa, sb, sc]
   refine tn 17 25 rfl rfl ?_; simp only [sa, sb, sc]
   refine tn 18 26 rfl rfl ?_; simp only [sa, sb, sc]
   refine tn 19 27 rfl rfl ?_; simp only [sa, sb, sc]
   refine tn 20 28 rfl rfl ?_; simp only [sa, sb, sc]
   refine tn 21 29 rfl rfl ?_; simp only [sa, sb, sc]
   refine tn 22 30 rfl rfl ?_; simp only [sa, sb, sc]
   refine tn 23 31 rfl rfl ?_; simp only [sa, sb, sc]
   refine ty 24 32 rfl rfl ?_; simp only [sa, sb, sc]
   refine ty 25 33 rfl rfl ?_; simp only [sa, sb, sc]
   refine wpAnyH_done (by kernel_rfl) ?_ _
   clear hHeld hHeld6 z0 z1 z2 z3 z4 z5 z6 z7 x5 x6 x7
   have HY0 := Lib.hid hYY
   have y4 := H2.out.2.2.blk.free 4
   have y5 := H2.out.2.2.blk.free 5
   have y6 := H2.out.2.2.blk.free 6
   have y7 := H2.out.2.2.blk.free 7
   have y8 := H2.out.2.2.blk.free 8
   have y9 := H2.out.2.2.blk.free 9
   have y12 := H2.out.2.2.blk.free 12
   have y13 := H2.out.2.2.blk.free 13
   have v4 := H2.out.2.2.blk.cell 4 _ rfl
   have v5 := H2.out.2.2.blk.cell 5 _ rfl
   have v6 := H2.out.2.2.blk.cell 6 _ rfl
   have v7 := H2.out.2.2.blk.cell 7 _ rfl
   have v8 := H2.out.2.2.blk.cell 8 _ rfl
   have v9 := H2.out.2.2.blk.cell 9 _ rfl
   have v12 := H2.out.2.2.blk.cell 12 _ rfl
   have v13 := H2.out.2.2.blk.cell 13 _ rfl
   have hml := H2.out.2.2.blk.lt
   go_wp2
   have hcc0 : Chg w2 w2 (fun k => k = mb) := Chg.refl _ _
   have hbb0 := H2.out.2.2.blk
   have hcc1 := chg_cell hcc0 4 (.int .i64 s.ck.num)
   have hbb1 := hbb0.set 4 (.int .i64 s.ck.num) (by simp only [List.length_set, mdCells_length]; decide)
   have hcc2 := chg_cell hcc1 5 (.slice R s.ck.root.length cr)
   have hbb2 := hbb1.set 5 (.slice R s.ck.root.length cr) (by simp only [List.length_set, mdCells_length]; decide)
   have hcc3 := chg_cell hcc2 6 (.int .i64 s.sig.index)
   have hbb3 := hbb2.set 6 (.int .i64 s.sig.index) (by simp only [List.length_set, mdCells_length]; decide)
   have hcc4 := chg_cell hcc3 7 (.slice P s.sig.parts.length cp)
   have hbb4 := hbb3.set 7 (.slice P s.sig.parts.length cp) (by simp only [List.length_set, mdCells_length]; decide)
   have hcc5 := chg_cell hcc4 8 (.slice Q s.sig.path.length cq)
   have hbb5 := hbb4.set 8 (.slice Q s.sig.path.length cq) (by simp only [List.length_set, mdCells_length]; decide)
   have hcc6 := chg_cell hcc5 9 (.bool true)
   have hbb6 := hbb5.set 9 (.bool true) (by simp only [List.length_set, mdCells_length]; decide)
   have hcc7 := chg_cell hcc6 12 (.slice none 0 0)
   have hbb7 := hbb6.set 12 (.slice none 0 0) (by simp only [List.length_set, mdCells_length]; decide)
   have hcc8 := chg_cell hcc7 13 (.slice none 0 0)
   have hbb8 := hbb7.set 13 (.slice none 0 0) (by simp only [List.length_set, mdCells_length]; decide)
   clear hcc0 hbb0 hcc1 hbb1 hcc2 hbb2 hcc3 hbb3 hcc4 hbb4 hcc5 hbb5 hcc6 hbb6 hcc7 hbb7
   have hb3 := hbb8
   have hc3 := hcc8
   clear hbb8 hcc8
   generalize ((((((((w2.setCell ⟨mb, 4, none⟩ (.int .i64 s.ck.num)).setCell ⟨mb, 5, none⟩ (.slice R s.ck.root.length cr)).setCell ⟨mb, 6, none⟩ (.int .i64 s.sig.index)).setCell ⟨mb, 7, none⟩ (.slice P s.sig.parts.length cp)).setCell ⟨mb, 8, none⟩ (.slice Q s.sig.path.length cq)).setCell ⟨mb, 9, none⟩ (.bool true)).setCell ⟨mb, 12, none⟩ (.slice none 0 0)).setCell ⟨mb, 13, none⟩ (.slice none 0 0)) = w3 at *
   have HI0 : Hid (∃ D', MdAt D' w3 mb tb rb (moffI d s now 0) ∧ (∀ g, D' g → D g ∨ Y g ∨ Fresh w w3 g) ∧ Chg w w3 (fun k => k = mb ∨ k = rb)) := Lib.hid (by
    have hs2 := H2.out.2.1.size
    have hs3 := hc3.size
    have hD : ∀ g, D g → ¬ (g = mb) := fun g hg e => (H2.out.2.2.dd g hg).1 (.inl e)
    have t := (H2.out.2.2.tx.chg hc3 hD).mono (T := fun g => D g ∨ Y g) (fun g hg => .inl hg)
    have hYm : ∀ g, Y g → ¬ (g = mb) := fun g hg e => (HYM.out g hg).1 (.inl e)
    have tr := ((HX.out.1.below H2.out.2.1).chg hc3 hYm).mono (T := fun g => D g ∨ Y g) (fun g hg => .inr hg)
    have tp := ((HX.out.2.1.below H2.out.2.1).chg hc3 hYm).mono (T := fun g => D g ∨ Y g) (fun g hg => .inr hg)
    have tq := ((HX.out.2.2.below H2.out.2.1).chg hc3 hYm).mono (T := fun g => D g ∨ Y g) (fun g hg => .inr hg)
    refine ⟨fun g => D g ∨ Y g, ⟨{ r with cr := .slice R s.ck.root.length cr, cp := .slice P s.sig.parts.length cp, cq := .slice Q s.sig.path.length cq, kv := .slice none 0 0, pv := .slice none 0 0 }, ⟨hb3, H2.out.2.2.tbk.chg hc3 (fun e => H2.out.2.2.n1 e.symm), ?_, ⟨t.pl, t.pw, tr, tp, tq, ⟨[], ShoP.nil _ _ _, CgRow.nil _ _⟩, ShoP.nil _ _ _, t.dr, t.dp, t.dq, t.ev⟩, fun g hg => ?_, H2.out.2.2.n1, H2.out.2.2.n2, H2.out.2.2.n3⟩⟩, fun g hg => ?_, ?_⟩
    ·show Blk w3 rb _ (intsV (List.replicate 0 0 ++ d.tr.drop 0))
     rw [List.replicate_zero, List.nil_append, List.drop_zero]
     exact H2.out.2.2.rbk.chg hc3 (fun e => H2.out.2.2.n2 e.symm)
    ·rcases hg with hg | hg
     ·have := H2.out.2.2.dd g hg; exact ⟨this.1, by omega⟩
     ·have := HYM.out g hg; exact ⟨this.1, by omega⟩
    ·rcases hg with hg | hg
     ·exact .inl hg
     ·exact .inr (.inl hg)
    ·exact ((Chg.refl w _).trans (Chg.of_below (S := fun _ => False) H2.out.2.1) (fun _ _ h => h.elim)).trans hc3 (fun _ _ h => .inl h))
   clear hb3 hc3 hml y4 v4 y5 v5 y6 v6 y7 v7 y8 v8 y9 v9 y12 v12 y13 v13 H2
   go_loopw [7] (fun v7 wr => ∃ i : Nat, v7 = .int .i64 i ∧ i ≤ d.th.length ∧ Hid (∃ D', MdAt D' wr mb tb rb (moffI d s now i) ∧ (∀ g, D' g → D g ∨ Y g ∨ Fresh w wr g) ∧ Chg w wr (fun k => k = mb ∨ k = rb))) (fun v _ => d.th.length - (intOf v).toNat)
   case atStart => exact ⟨0, rfl, Nat.zero_le _, HI0⟩
   case round =>
    clear HI0
    obtain ⟨i, rfl, hi, HI⟩ := hrel
    obtain ⟨D2, hm2, hD2, hc2⟩ := HI.out
    obtain ⟨r2, hm3⟩ := hm2
    have c10 : wr.cell? ⟨mb, 10, none⟩ = some (.slice (some ⟨tb, 0, none⟩) d.th.length d.th.length) := hm3.blk.cell 10 _ rfl
    have hml := hm3.blk.lt
    by_cases hlt : i < d.th.length
    ·have c11 : wr.cell? ⟨mb, 11, none⟩ = some (.slice (some ⟨rb, 0, none⟩) (moffI d s now i).tr.length (moffI d s now i).tr.length) := hm3.blk.cell 11 _ rfl
     have htl : (moffI d s now i).tr.length = d.th.length := by show (List.replicate i 0 ++ d.tr.drop i).length = _; rw [List.length_append, List.length_replicate, List.length_drop]; omega
     rw [htl] at c11
     have hrl := hm3.rbk.lt
     have yr := hm3.rbk.free i
     have vr := hm3.rbk.cell i _ (intsV_at _ i (by omega))
     have hcs : Chg wr (wr.setCell ⟨rb, i, none⟩ (.int .i64 0)) (fun k => k = rb) := chg_cell (Chg.refl wr _) i (.int .i64 0)
     have hm4 : MdOk D2 (wr.setCell ⟨rb, i, none⟩ (.int .i64 0)) mb tb rb { moffI d s now i with tr := List.replicate (i + 1) 0 ++ d.tr.drop (i + 1) } r2 := by
      have e : (List.replicate i 0 ++ d.tr.drop i).set i 0 = List.replicate (i + 1) 0 ++ d.tr.drop (i + 1) := by
       rw [List.set_append_right _ _ (by simp), List.length_replicate, Nat.sub_self, List.drop_eq_getElem_cons (by omega), List.set_cons_zero, List.replicate_succ', List.append_assoc]
       rfl
      have htl2 : (List.replicate (i + 1) (0 : Int) ++ d.tr.drop (i + 1)).length = (moffI d s now i).tr.length := by rw [htl, List.length_append, List.length_replicate, List.length_drop]; omega
      have hD3 : ∀ g, D2 g → ¬ (g = rb) := fun g hg e => (hm3.dd g hg).1 (.inr (.inr e))
      have t := hm3.tx.chg hcs hD3
      refine ⟨?_, hm3.tbk.chg hcs hm3.n3, ?_, ⟨t.pl, t.pw, t.cr, t.cp, t.cq, t.kv, t.pv, t.dr, t.dp, t.dq, t.ev⟩, fun g hg => ⟨(hm3.dd g hg).1, Nat.lt_of_lt_of_le (hm3.dd g hg).2 hcs.size⟩, hm3.n1, hm3.n2, hm3.n3⟩
      ·have h9 := hm3.blk.chg hcs hm3.n2
       unfold mdCells at h9 ⊢
       dsimp only at h9 ⊢
       rw [htl2]
       exact h9
      ·show Blk _ rb _ (intsV (List.replicate (i + 1) 0 ++ d.tr.drop (i + 1)))
       rw [← e, ← intsV_set]
       exact hm3.rbk.set i _ (by unfold intsV; rw [List.length_map]; omega)
     have HM4 := Lib.hid (And.intro hm4 (And.intro hcs (And.intro hD2 hc2)))
     have HAD := Lib.hid (madd_any D2 mb tb rb _ now (i : Int) (by show (offP now i).length ≤ _; have := offP_length now i; omega) _ ⟨r2, hm4⟩)
     have hil : (i : Int) < (d.th.length : Int) := by omega
     clear hm4 hcs hD2 hc2 hm3 htl HI
     go_wp2_with fail
     refine HAD.out.mono ?_
     rintro e w5 ⟨rfl, h1, h2⟩
     have HN : Hid (∃ D', MdAt D' w5 mb tb rb (moffI d s now (i + 1)) ∧ (∀ g, D' g → D g ∨ Y g ∨ Fresh w w5 g) ∧ Chg w w5 (fun k => k = mb ∨ k = rb)) := Lib.hid (by
      have hs1 := HM4.out.2.1.size
      have hs2 := h2.size
      have hs0 := HM4.out.2.2.2.size
      refine ⟨_, h1, fun g hg => ?_, (HM4.out.2.2.2.trans HM4.out.2.1 (fun _ _ h => .inr h)).trans h2 (fun _ _ h => .inl h)⟩
      rcases hg with hg | hg
      ·rcases HM4.out.2.2.1 g hg with e | e | e
       ·exact .inl e
       ·exact .inr (.inl e)
       ·exact .inr (.inr ⟨e.1, by have := e.2; omega⟩)
      ·exact .inr (.inr ⟨by have := hg.1; omega, hg.2⟩))
     clear h1 h2 HM4
     go_wp2
     go_roundw
     case rel => exact ⟨i + 1, by go_num, by omega, HN⟩
     case measure => simp [intOf]; omega
    ·obtain rfl : i = d.th.length := by omega
     have HO := Lib.hid HI.out
     clear hm3 hD2 hc2 HI
     go_wp2
     go_ret
     obtain ⟨D3, a1, a2, a3⟩ := HO.out
     refine ⟨by rw [HT.out]; rfl, D3, ?_, a2, a3⟩
     unfold moffN
     rw [HT.out, if_pos rfl]
     exact a1
  | true =>
   rw [Bool.true_and] at HMB
   by_cases hle : s.ck.num ≤ d.cur.ck.num
   ·have HF : Hid (moffB d s = false) := Lib.hid (by rw [HMB.out, decide_eq_true hle]; rfl)
    refine wp_region_held_drew (S := fun w' => w'.cell? ⟨w.heap.size, 0, none⟩ = some (.int .i64 s.ck.num) ∧ w'.cell? ⟨w.heap.size, 1, none⟩ = some (.slice R s.ck.root.length cr) ∧ w'.cell? ⟨w.heap.size, 2, none⟩ = some (.int .i64 s.sig.index) ∧ w'.cell? ⟨w.heap.size, 3, none⟩ = some (.slice P s.sig.parts.length cp) ∧ w'.cell? ⟨w.heap.size, 4, none⟩ = some (.slice Q s.sig.path.length cq) ∧ w'.cell? ⟨mb, 0, none⟩ = some (.slice PL d.p.log.length plc) ∧ w'.cell? ⟨mb, 9, none⟩ = some (.bool true) ∧ w'.cell? ⟨mb, 4, none⟩ = some (.int .i64 d.cur.ck.num)) (by kernel_rfl) ?_ (fun hHeld => ?_)
    ·exact ⟨z0, z1, z2, z3, z4, z5, z6, z7⟩
    refine ty 0 8 rfl rfl ?_; simp only [sa, sb, sc]
    refine ty 1 9 rfl rfl ?_; simp only [sa, sb, sc]
    refine ty 2 10 rfl rfl ?_; simp only [sa, sb, sc]
    refine ty 3 11 rfl rfl ?_; simp only [sa, sb, sc]
    refine ty 4 12 rfl rfl ?_; simp only [sa, sb, sc]
    refine ty 5 13 rfl rfl ?_; simp only [sa, sb, sc]
    refine rd 6 (by kernel_rfl) rfl (fun K hK => ?_)
    go_simp
    go_at_call 64
    refine (HVF.out w1.drew _ _ (by rw [← HPL.out]; exact H1.out.2.2.tx.pl.1.below (Below.refl _ _).drew) ⟨_, _, _, rfl, (HX.out.1.1.below H1.out.2.1).below (Below.refl _ _).drew, (HX.out.2.1.rws.below H1.out.2.1).below (Below.refl _ _).drew, (HX.out.2.2.rws.below H1.out.2.1).below (Below.refl _ _).drew⟩).mono ?_
    rintro e w2 ⟨rfl, h2'⟩
    have h2 : Below w1.heap.size w1 w2 := ⟨h2'.os, h2'.tape, h2'.output, h2'.size, h2'.block⟩
    have kB := H1.out.1.below h2
    have kM := (H1.out.2.2.below h2).blk
    have x0 := kB.cell 0 _ rfl
    have x1 := kB.cell 1 _ rfl
    have x2 := kB.cell 2 _ rfl
    have x3 := kB.cell 3 _ rfl
    have x4 := kB.cell 4 _ rfl
    have x5 : w2.cell? ⟨mb, 0, none⟩ = some (.slice PL d.p.log.length plc) := by rw [← HPL.out]; exact kM.cell 0 _ rfl
    have x6 : w2.cell? ⟨mb, 9, none⟩ = some (.bool true) := by rw [← HHAS.out]; exact kM.cell 9 _ rfl
    have x7 := kM.cell 4 _ rfl
    have H2 := Lib.hid (And.intro kB (And.intro (H1.out.2.1.trans (h2.mono H1.out.2.1.size)) (H1.out.2.2.below h2)))
    clear h2 h2' kB kM
    try dsimp only
    refine hK.out _ _ ⟨x0, x1, x2, x3, x4, x5, x6, x7⟩ (fun hHeld6 => ?_)
    clear hK K; try simp only [Act.put, sa, sb, sc]
    refine ty 7 15 rfl rfl ?_; simp only [sa, sb, sc]
    refine ty 8 16 rfl rfl ?_; simp only [sa, sb, sc]
    refine ty 9 17 rfl rfl ?_; simp only [sa, sb, sc]
    refine ty 10 18 rfl rfl ?_; simp only [sa, sb, sc]
    refine ty 11 19 rfl rfl ?_; simp only [sa, sb, sc]
    refine ty 12 20 rfl rfl ?_; simp only [sa, sb, sc]
    refine ty 13 21 rfl rfl ?_; simp only [sa, sb, sc]
    refine ty 14 22 rfl rfl ?_; simp only [sa, sb, sc]
    refine ty 15 23 rfl rfl ?_; simp only [sa, sb, sc]
    refine ty 16 24 rfl rfl ?_; simp only [sa, sb, sc]
    refine ty 17 25 rfl rfl ?_; simp only [sa, sb, sc]
    refine ty 18 26 rfl rfl ?_; simp only [sa, sb, sc]
    refine ty 19 27 rfl rfl ?_; simp only [sa, sb, sc]
    refine ty 20 28 rfl rfl ?_; simp only [sa, sb, sc]
    refine ty 21 29 rfl rfl ?_; simp only [sa, sb, sc]
    refine ty 22 30 rfl rfl ?_; simp only [sa, sb, sc]
    refine ty 23 31 rfl rfl ?_; simp only [sa, sb, sc]
    refine ty 24 32 rfl rfl ?_; simp only [sa, sb, sc]
    refine ty 25 33 rfl rfl ?_; simp only [sa, sb, sc]
    refine wpAnyH_done (by kernel_rfl) ?_ _
    clear hHeld hHeld6 z0 z1 z2 z3 z4 z5 z6 z7 x5 x6 x7
    go_wp2
    go_ret
    refine ⟨by rw [HF.out]; rfl, D, ?_, fun g hg => .inl hg, (Chg.refl w _).trans (Chg.of_below (S := fun _ => False) H2.out.2.1) (fun _ _ h => h.elim)⟩
    unfold moffN
    rw [HF.out, if_neg (by decide)]
    exact ⟨r, H2.out.2.2⟩
   ·have HT : Hid (moffB d s = true) := Lib.hid (by rw [HMB.out, decide_eq_false hle]; rfl)
    refine wp_region_held_drew (S := fun w' => w'.cell? ⟨w.heap.size, 0, none⟩ = some (.int .i64 s.ck.num) ∧ w'.cell? ⟨w.heap.size, 1, none⟩ = some (.slice R s.ck.root.length cr) ∧ w'.cell? ⟨w.heap.size, 2, none⟩ = some (.int .i64 s.sig.index) ∧ w'.cell? ⟨w.heap.size, 3, none⟩ = some (.slice P s.sig.parts.length cp) ∧ w'.cell? ⟨w.heap.size, 4, none⟩ = some (.slice Q s.sig.path.length cq) ∧ w'.cell? ⟨mb, 0, none⟩ = some (.slice PL d.p.log.length plc) ∧ w'.cell? ⟨mb, 9, none⟩ = some (.bool true) ∧ w'.cell? ⟨mb, 4, none⟩ = some (.int .i64 d.cur.ck.num)) (by kernel_rfl) ?_ (fun hHeld => ?_)
    ·exact ⟨z0, z1, z2, z3, z4, z5, z6, z7⟩
    refine ty 0 8 rfl rfl ?_; simp only [sa, sb, sc]
    refine ty 1 9 rfl rfl ?_; simp only [sa, sb, sc]
    refine ty 2 10 rfl rfl ?_; simp only [sa, sb, sc]
    refine ty 3 11 rfl rfl ?_; simp only [sa, sb, sc]
    refine ty 4 12 rfl rfl ?_; simp only [sa, sb, sc]
    refine ty 5 13 rfl rfl ?_; simp only [sa, sb, sc]
    refine rd 6 (by kernel_rfl) rfl (fun K hK => ?_)
    go_simp
    go_at_call 64
    refine (HVF.out w1.drew _ _ (by rw [← HPL.out]; exact H1.out.2.2.tx.pl.1.below (Below.refl _ _).drew) ⟨_, _, _, rfl, (HX.out.1.1.below H1.out.2.1).below (Below.refl _ _).drew, (HX.out.2.1.rws.below H1.out.2.1).below (Below.refl _ _).drew, (HX.out.2.2.rws.below H1.out.2.1).below (Below.refl _ _).drew⟩).mono ?_
    rintro e w2 ⟨rfl, h2'⟩
    have h2 : Below w1.heap.size w1 w2 := ⟨h2'.os, h2'.tape, h2'.output, h2'.size, h2'.block⟩
    have kB := H1.out.1.below h2
    have kM := (H1.out.2.2.below h2).blk
    have x0 := kB.cell 0 _ rfl
    have x1 := kB.cell 1 _ rfl
    have x2 := kB.cell 2 _ rfl
    have x3 := kB.cell 3 _ rfl
    have x4 := kB.cell 4 _ rfl
    have x5 : w2.cell? ⟨mb, 0, none⟩ = some (.slice PL d.p.log.length plc) := by rw [← HPL.out]; exact kM.cell 0 _ rfl
    have x6 : w2.cell? ⟨mb, 9, none⟩ = some (.bool true) := by rw [← HHAS.out]; exact kM.cell 9 _ rfl
    have x7 := kM.cell 4 _ rfl
    have H2 := Lib.hid (And.intro kB (And.intro (H1.out.2.1.trans (h2.mono H1.out.2.1.size)) (H1.out.2.2.below h2)))
    clear h2 h2' kB kM
    try dsimp only
    refine hK.out _ _ ⟨x0, x1, x2, x3, x4, x5, x6, x7⟩ (fun hHeld6 => ?_)
    clear hK K; try simp only [Act.put, sa, sb, sc]
    refine ty 7 15 rfl rfl ?_; simp only [sa, sb, sc]
    refine ty 8 16 rfl rfl ?_; simp only [sa, sb, sc]
    refine ty 9 17 rfl rfl ?_; simp only [sa, sb, sc]
    refine ty 10 18 rfl rfl ?_; simp only [sa, sb, sc]
    refine ty 11 19 rfl rfl ?_; simp only [sa, sb, sc]
    refine ty 12 20 rfl rfl ?_; simp only [sa, sb, sc]
    refine ty 13 21 rfl rfl ?_; simp only [sa, sb, sc]
    refine ty 14 22 rfl rfl ?_; simp only [sa, sb, sc]
    refine ty 15 23 rfl rfl ?_; simp only [sa, sb, sc]
    refine ty 16 24 rfl rfl ?_; simp only [sa, sb, sc]
    refine ty 17 25 rfl rfl ?_; simp only [sa, sb, sc]
    refine ty 18 26 rfl rfl ?_; simp only [sa, sb, sc]
    refine ty 19 27 rfl rfl ?_; simp only [sa, sb, sc]
    refine ty 20 28 rfl rfl ?_; simp only [sa, sb, sc]
    refine ty 21 29 rfl rfl ?_; simp only [sa, sb, sc]
    refine ty 22 30 rfl rfl ?_; simp only [sa, sb, sc]
    refine ty 23 31 rfl rfl ?_; simp only [sa, sb, sc]
    refine ty 24 32 rfl rfl ?_; simp only [sa, sb, sc]
    refine ty 25 33 rfl rfl ?_; simp only [sa, sb, sc]
    refine wpAnyH_done (by kernel_rfl) ?_ _
    clear hHeld hHeld6 z0 z1 z2 z3 z4 z5 z6 z7 x5 x6 x7
    have HY0 := Lib.hid hYY
    have y4 := H2.out.2.2.blk.free 4
    have y5 := H2.out.2.2.blk.free 5
    have y6 := H2.out.2.2.blk.free 6
    have y7 := H2.out.2.2.blk.free 7
    have y8 := H2.out.2.2.blk.free 8
    have y9 := H2.out.2.2.blk.free 9
    have y12 := H2.out.2.2.blk.free 12
    have y13 := H2.out.2.2.blk.free 13
    have v4 := H2.out.2.2.blk.cell 4 _ rfl
    have v5 := H2.out.2.2.blk.cell 5 _ rfl
    have v6 := H2.out.2.2.blk.cell 6 _ rfl
    have v7 := H2.out.2.2.blk.cell 7 _ rfl
    have v8 := H2.out.2.2.blk.cell 8 _ rfl
    have v9 := H2.out.2.2.blk.cell 9 _ rfl
    have v12 := H2.out.2.2.blk.cell 12 _ rfl
    have v13 := H2.out.2.2.blk.cell 13 _ rfl
    have hml := H2.out.2.2.blk.lt
    go_wp2
    have hcc0 : Chg w2 w2 (fun k => k = mb) := Chg.refl _ _
    have hbb0 := H2.out.2.2.blk
    have hcc1 := chg_cell hcc0 4 (.int .i64 s.ck.num)
    have hbb1 := hbb0.set 4 (.int .i64 s.ck.num) (by simp only [List.length_set, mdCells_length]; decide)
    have hcc2 := chg_cell hcc1 5 (.slice R s.ck.root.length cr)
    have hbb2 := hbb1.set 5 (.slice R s.ck.root.length cr) (by simp only [List.length_set, mdCells_length]; decide)
    have hcc3 := chg_cell hcc2 6 (.int .i64 s.sig.index)
    have hbb3 := hbb2.set 6 (.int .i64 s.sig.index) (by simp only [List.length_set, mdCells_length]; decide)
    have hcc4 := chg_cell hcc3 7 (.slice P s.sig.parts.length cp)
    have hbb4 := hbb3.set 7 (.slice P s.sig.parts.length cp) (by simp only [List.length_set, mdCells_length]; decide)
    have hcc5 := chg_cell hcc4 8 (.slice Q s.sig.path.length cq)
    have hbb5 := hbb4.set 8 (.slice Q s.sig.path.length cq) (by simp only [List.length_set, mdCells_length]; decide)
    have hcc6 := chg_cell hcc5 9 (.bool true)
    have hbb6 := hbb5.set 9 (.bool true) (by simp only [List.length_set, mdCells_length]; decide)
    have hcc7 := chg_cell hcc6 12 (.slice none 0 0)
    have hbb7 := hbb6.set 12 (.slice none 0 0) (by simp only [List.length_set, mdCells_length]; decide)
    have hcc8 := chg_cell hcc7 13 (.slice none 0 0)
    have hbb8 := hbb7.set 13 (.slice none 0 0) (by simp only [List.length_set, mdCells_length]; decide)
    clear hcc0 hbb0 hcc1 hbb1 hcc2 hbb2 hcc3 hbb3 hcc4 hbb4 hcc5 hbb5 hcc6 hbb6 hcc7 hbb7
    have hb3 := hbb8
    have hc3 := hcc8
    clear hbb8 hcc8
    generalize ((((((((w2.setCell ⟨mb, 4, none⟩ (.int .i64 s.ck.num)).setCell ⟨mb, 5, none⟩ (.slice R s.ck.root.length cr)).setCell ⟨mb, 6, none⟩ (.int .i64 s.sig.index)).setCell ⟨mb, 7, none⟩ (.slice P s.sig.parts.length cp)).setCell ⟨mb, 8, none⟩ (.slice Q s.sig.path.length cq)).setCell ⟨mb, 9, none⟩ (.bool true)).setCell ⟨mb, 12, none⟩ (.slice none 0 0)).setCell ⟨mb, 13, none⟩ (.slice none 0 0)) = w3 at *
    have HI0 : Hid (∃ D', MdAt D' w3 mb tb rb (moffI d s now 0) ∧ (∀ g, D' g → D g ∨ Y g ∨ Fresh w w3 g) ∧ Chg w w3 (fun k => k = mb ∨ k = rb)) := Lib.hid (by
     have hs2 := H2.out.2.1.size
     have hs3 := hc3.size
     have hD : ∀ g, D g → ¬ (g = mb) := fun g hg e => (H2.out.2.2.dd g hg).1 (.inl e)
     have t := (H2.out.2.2.tx.chg hc3 hD).mono (T := fun g => D g ∨ Y g) (fun g hg => .inl hg)
     have hYm : ∀ g, Y g → ¬ (g = mb) := fun g hg e => (HYM.out g hg).1 (.inl e)
     have tr := ((HX.out.1.below H2.out.2.1).chg hc3 hYm).mono (T := fun g => D g ∨ Y g) (fun g hg => .inr hg)
     have tp := ((HX.out.2.1.below H2.out.2.1).chg hc3 hYm).mono (T := fun g => D g ∨ Y g) (fun g hg => .inr hg)
     have tq := ((HX.out.2.2.below H2.out.2.1).chg hc3 hYm).mono (T := fun g => D g ∨ Y g) (fun g hg => .inr hg)
     refine ⟨fun g => D g ∨ Y g, ⟨{ r with cr := .slice R s.ck.root.length cr, cp := .slice P s.sig.parts.length cp, cq := .slice Q s.sig.path.length cq, kv := .slice none 0 0, pv := .slice none 0 0 }, ⟨hb3, H2.out.2.2.tbk.chg hc3 (fun e => H2.out.2.2.n1 e.symm), ?_, ⟨t.pl, t.pw, tr, tp, tq, ⟨[], ShoP.nil _ _ _, CgRow.nil _ _⟩, ShoP.nil _ _ _, t.dr, t.dp, t.dq, t.ev⟩, fun g hg => ?_, H2.out.2.2.n1, H2.out.2.2.n2, H2.out.2.2.n3⟩⟩, fun g hg => ?_, ?_⟩
     ·show Blk w3 rb _ (intsV (List.replicate 0 0 ++ d.tr.drop 0))
      rw [List.replicate_zero, List.nil_append, List.drop_zero]
      exact H2.out.2.2.rbk.chg hc3 (fun e => H2.out.2.2.n2 e.symm)
     ·rcases hg with hg | hg
      ·have := H2.out.2.2.dd g hg; exact ⟨this.1, by omega⟩
      ·have := HYM.out g hg; exact ⟨this.1, by omega⟩
     ·rcases hg with hg | hg
      ·exact .inl hg
      ·exact .inr (.inl hg)
     ·exact ((Chg.refl w _).trans (Chg.of_below (S := fun _ => False) H2.out.2.1) (fun _ _ h => h.elim)).trans hc3 (fun _ _ h => .inl h))
    clear hb3 hc3 hml y4 v4 y5 v5 y6 v6 y7 v7 y8 v8 y9 v9 y12 v12 y13 v13 H2
    go_loopw [7] (fun v7 wr => ∃ i : Nat, v7 = .int .i64 i ∧ i ≤ d.th.length ∧ Hid (∃ D', MdAt D' wr mb tb rb (moffI d s now i) ∧ (∀ g, D' g → D g ∨ Y g ∨ Fresh w wr g) ∧ Chg w wr (fun k => k = mb ∨ k = rb))) (fun v _ => d.th.length - (intOf v).toNat)
    case atStart => exact ⟨0, rfl, Nat.zero_le _, HI0⟩
    case round =>
     clear HI0
     obtain ⟨i, rfl, hi, HI⟩ := hrel
     obtain ⟨D2, hm2, hD2, hc2⟩ := HI.out
     obtain ⟨r2, hm3⟩ := hm2
     have c10 : wr.cell? ⟨mb, 10, none⟩ = some (.slice (some ⟨tb, 0, none⟩) d.th.length d.th.length) := hm3.blk.cell 10 _ rfl
     have hml := hm3.blk.lt
     by_cases hlt : i < d.th.length
     ·have c11 : wr.cell? ⟨mb, 11, none⟩ = some (.slice (some ⟨rb, 0, none⟩) (moffI d s now i).tr.length (moffI d s now i).tr.length) := hm3.blk.cell 11 _ rfl
      have htl : (moffI d s now i).tr.length = d.th.length := by show (List.replicate i 0 ++ d.tr.drop i).length = _; rw [List.length_append, List.length_replicate, List.length_drop]; omega
      rw [htl] at c11
      have hrl := hm3.rbk.lt
      have yr := hm3.rbk.free i
      have vr := hm3.rbk.cell i _ (intsV_at _ i (by omega))
      have hcs : Chg wr (wr.setCell ⟨rb, i, none⟩ (.int .i64 0)) (fun k => k = rb) := chg_cell (Chg.refl wr _) i (.int .i64 0)
      have hm4 : MdOk D2 (wr.setCell ⟨rb, i, none⟩ (.int .i64 0)) mb tb rb { moffI d s now i with tr := List.replicate (i + 1) 0 ++ d.tr.drop (i + 1) } r2 := by
       have e : (List.replicate i 0 ++ d.tr.drop i).set i 0 = List.replicate (i + 1) 0 ++ d.tr.drop (i + 1) := by
        rw [List.set_append_right _ _ (by simp), List.length_replicate, Nat.sub_self, List.drop_eq_getElem_cons (by omega), List.set_cons_zero, List.replicate_succ', List.append_assoc]
        rfl
       have htl2 : (List.replicate (i + 1) (0 : Int) ++ d.tr.drop (i + 1)).length = (moffI d s now i).tr.length := by rw [htl, List.length_append, List.length_replicate, List.length_drop]; omega
       have hD3 : ∀ g, D2 g → ¬ (g = rb) := fun g hg e => (hm3.dd g hg).1 (.inr (.inr e))
       have t := hm3.tx.chg hcs hD3
       refine ⟨?_, hm3.tbk.chg hcs hm3.n3, ?_, ⟨t.pl, t.pw, t.cr, t.cp, t.cq, t.kv, t.pv, t.dr, t.dp, t.dq, t.ev⟩, fun g hg => ⟨(hm3.dd g hg).1, Nat.lt_of_lt_of_le (hm3.dd g hg).2 hcs.size⟩, hm3.n1, hm3.n2, hm3.n3⟩
       ·have h9 := hm3.blk.chg hcs hm3.n2
        unfold mdCells at h9 ⊢
        dsimp only at h9 ⊢
        rw [htl2]
        exact h9
       ·show Blk _ rb _ (intsV (List.replicate (i + 1) 0 ++ d.tr.drop (i + 1)))
        rw [← e, ← intsV_set]
        exact hm3.rbk.set i _ (by unfold intsV; rw [List.length_map]; omega)
      have HM4 := Lib.hid (And.intro hm4 (And.intro hcs (And.intro hD2 hc2)))
      have HAD := Lib.hid (madd_any D2 mb tb rb _ now (i : Int) (by show (offP now i).length ≤ _; have := offP_length now i; omega) _ ⟨r2, hm4⟩)
      have hil : (i : Int) < (d.th.length : Int) := by omega
      clear hm4 hcs hD2 hc2 hm3 htl HI
      go_wp2_with fail
      refine HAD.out.mono ?_
      rintro e w5 ⟨rfl, h1, h2⟩
      have HN : Hid (∃ D', MdAt D' w5 mb tb rb (moffI d s now (i + 1)) ∧ (∀ g, D' g → D g ∨ Y g ∨ Fresh w w5 g) ∧ Chg w w5 (fun k => k = mb ∨ k = rb)) := Lib.hid (by
       have hs1 := HM4.out.2.1.size
       have hs2 := h2.size
       have hs0 := HM4.out.2.2.2.size
       refine ⟨_, h1, fun g hg => ?_, (HM4.out.2.2.2.trans HM4.out.2.1 (fun _ _ h => .inr h)).trans h2 (fun _ _ h => .inl h)⟩
       rcases hg with hg | hg
       ·rcases HM4.out.2.2.1 g hg with e | e | e
        ·exact .inl e
        ·exact .inr (.inl e)
        ·exact .inr (.inr ⟨e.1, by have := e.2; omega⟩)
       ·exact .inr (.inr ⟨by have := hg.1; omega, hg.2⟩))
      clear h1 h2 HM4
      go_wp2
      go_roundw
      case rel => exact ⟨i + 1, by go_num, by omega, HN⟩
      case measure => simp [intOf]; omega
     ·obtain rfl : i = d.th.length := by omega
      have HO := Lib.hid HI.out
      clear hm3 hD2 hc2 HI
      go_wp2
      go_ret
      obtain ⟨D3, a1, a2, a3⟩ := HO.out
      refine ⟨by rw [HT.out]; rfl, D3, ?_, a2, a3⟩
      unfold moffN
      rw [HT.out, if_pos rfl]
      exact a1
def mdueN (l : List (Int × Int)) (now : Int) : Nat := (l.takeWhile (fun x => decide (x.1 ≤ now))).length
def mwho (l : List (Int × Int)) (now : Int) : List Int := (l.takeWhile (fun x => decide (x.1 ≤ now))).map (fun x => x.2)
def mst1 (now : Int) (d : MdD) (k : Int) : MdD := { d with plans := insP (now + againZ d.retry (d.tr.getD k.toNat 0)) k d.plans, tr := d.tr.set k.toNat (d.tr.getD k.toNat 0 + 1) }
def mstN (now : Int) (d : MdD) (ws : List Int) : MdD := ws.foldl (mst1 now) d
def mstepD (d : MdD) (now : Int) : MdD := mstN now { d with plans := d.plans.drop (mdueN d.plans now) } (mwho d.plans now)
def mreqL (d : MdD) (now : Int) : List (Int × Int) := (mwho d.plans now).map (fun k => (k, d.th.getD k.toNat 0))
theorem mwho_length (l : List (Int × Int)) (now : Int) : (mwho l now).length = mdueN l now := by simp [mwho, mdueN]
theorem mdue_le (l : List (Int × Int)) (now : Int) : mdueN l now ≤ l.length := (List.takeWhile_prefix _).length_le
theorem mdue_at (l : List (Int × Int)) (now : Int) (j : Nat) (h : j < mdueN l now) : ∃ x t, l.drop j = x :: t ∧ l.drop (j + 1) = t ∧ x.1 ≤ now ∧ (mwho l now)[j]? = some x.2 ∧ x ∈ l := by
 have hl := mdue_le l now
 have hj : j < l.length := by omega
 have hx : (l.takeWhile (fun x => decide (x.1 ≤ now)))[j]'h = l[j] := by
  have hp := List.takeWhile_prefix (fun x : Int × Int => decide (x.1 ≤ now)) (l := l)
  exact (List.prefix_iff_getElem.1 hp).2 j h
 refine ⟨l[j], l.drop (j + 1), List.drop_eq_getElem_cons hj, rfl, ?_, ?_, List.getElem_mem hj⟩
 ·have h2 : (l.takeWhile (fun x => decide (x.1 ≤ now)))[j]'h ∈ l.takeWhile (fun x => decide (x.1 ≤ now)) := List.getElem_mem h
  rw [hx] at h2
  have h3 : (l.takeWhile (fun x => decide (x.1 ≤ now))).all (fun x => decide (x.1 ≤ now)) = true := List.all_takeWhile
  have := List.all_eq_true.1 h3 _ h2
  simpa using this
 ·unfold mwho
  rw [List.getElem?_map, List.getElem?_eq_getElem h, hx]
  rfl
theorem mdue_end (l : List (Int × Int)) (now : Int) : l.drop (mdueN l now) = [] ∨ ∃ x t, l.drop (mdueN l now) = x :: t ∧ now < x.1 := by
 unfold mdueN
 induction l with
 | nil => exact .inl rfl
 | cons y l ih =>
  by_cases h : y.1 ≤ now
  ·simp only [List.takeWhile_cons, h, decide_true, if_true, List.length_cons, List.drop_succ_cons]
   exact ih
  ·right
   refine ⟨y, l, ?_, by omega⟩
   simp [List.takeWhile_cons, h]
theorem MdOk.plans0 {D : Nat → Prop} {w : World} {mb tb rb : Nat} {d : MdD} {r : MdR} (h : MdOk D w mb tb rb d r) {pv : Value} {l : List (Int × Int)} (hp : ShoP D w pv l.length 2 (reqCells l)) :
  MdOk D (w.setCell ⟨mb, 13, none⟩ pv) mb tb rb { d with plans := l } { r with pv := pv } ∧ Chg w (w.setCell ⟨mb, 13, none⟩ pv) (fun k => k = mb) := by
 obtain ⟨h1, h2⟩ := h.plans (Below.refl _ _) (hp.mono (T := fun g => D g ∨ Fresh w w g) (fun g hg => .inl hg)) rfl
 have hsz : (w.setCell ⟨mb, 13, none⟩ pv).heap.size = w.heap.size := by simp
 have e : (fun g => D g ∨ Fresh w (w.setCell ⟨mb, 13, none⟩ pv) g) = D := by
  funext g
  refine propext ⟨fun hg => ?_, fun hg => .inl hg⟩
  rcases hg with hg | hg
  ·exact hg
  ·have := hg.1; have := hg.2; omega
 rw [e] at h1
 exact ⟨h1, h2⟩
theorem ShoP.rest {D : Nat → Prop} {w : World} {g o n c k : Nat} {cs : List Value} (h : ShoP D w (.slice (some ⟨g, o, none⟩) n c) n k cs) (h0 : 0 < n) :
  ShoP D w (.slice (if c = 1 then some ⟨g, o, none⟩ else some ⟨g, o + 1 * k, none⟩) (n - 1) (c - 1)) (n - 1) k (cs.drop (1 * k)) := by
 have h2 := h.tail 1 (by omega)
 obtain ⟨hl, h | ⟨g', o', c', h1, hc, hm, hg, hd, hcell⟩⟩ := h
 ·exact absurd h.1 (by simp)
 ·injection h1 with h1 _ h3
  injection h1 with h1
  injection h1 with h1 h4
  subst h1 h3 h4
  by_cases hc1 : c = 1
  ·rw [if_pos hc1]
   have hn : n - 1 = 0 := by omega
   refine ⟨h2.1, .inr ⟨g, o, c - 1, rfl, by omega, by omega, hg, fun h => absurd h (by omega), fun j u hj => ?_⟩⟩
   have h5 := h2.1
   rw [hn, Nat.zero_mul] at h5
   have : j < (cs.drop (1 * k)).length := (List.getElem?_eq_some_iff.1 hj).1
   omega
  ·rw [if_neg hc1]
   exact h2
theorem MdOk.tries {D : Nat → Prop} {w : World} {mb tb rb : Nat} {d : MdD} {r : MdR} (h : MdOk D w mb tb rb d r) (k : Nat) (x : Int) (hk : k < d.tr.length) :
  MdOk D (w.setCell ⟨rb, k, none⟩ (.int .i64 x)) mb tb rb { d with tr := d.tr.set k x } r ∧ Chg w (w.setCell ⟨rb, k, none⟩ (.int .i64 x)) (fun g => g = rb) := by
 have hcs : Chg w (w.setCell ⟨rb, k, none⟩ (.int .i64 x)) (fun g => g = rb) := chg_cell (Chg.refl w _) k (.int .i64 x)
 have hD3 : ∀ g, D g → ¬ (g = rb) := fun g hg e => (h.dd g hg).1 (.inr (.inr e))
 have t := h.tx.chg hcs hD3
 refine ⟨⟨?_, h.tbk.chg hcs h.n3, ?_, ⟨t.pl, t.pw, t.cr, t.cp, t.cq, t.kv, t.pv, t.dr, t.dp, t.dq, t.ev⟩, fun g hg => ⟨(h.dd g hg).1, Nat.lt_of_lt_of_le (h.dd g hg).2 hcs.size⟩, h.n1, h.n2, h.n3⟩, hcs⟩
 ·have h9 := h.blk.chg hcs h.n2
  unfold mdCells at h9 ⊢
  dsimp only at h9 ⊢
  rw [List.length_set]
  exact h9
 ·rw [← intsV_set]
  exact h.rbk.set k _ (by unfold intsV; rw [List.length_map]; exact hk)
theorem mstN_snoc (now : Int) (d : MdD) (ws : List Int) (k : Int) : mstN now d (ws ++ [k]) = mst1 now (mstN now d ws) k := by simp [mstN]
theorem mstN_any (now : Int) (ws : List Int) : ∀ d : MdD, (mstN now d ws).retry = d.retry ∧ (mstN now d ws).th = d.th ∧ (mstN now d ws).tr.length = d.tr.length ∧ (mstN now d ws).plans.length = d.plans.length + ws.length := by
 induction ws with
 | nil => intro d; exact ⟨rfl, rfl, rfl, rfl⟩
 | cons k ws ih =>
  intro d
  obtain ⟨a, b, c, e⟩ := ih (mst1 now d k)
  refine ⟨a, b, c.trans (by simp [mst1]), ?_⟩
  have h1 : (mst1 now d k).plans.length = d.plans.length + 1 := insP_length _ _ _
  show (mstN now (mst1 now d k) ws).plans.length = d.plans.length + (ws.length + 1)
  rw [e, h1]; omega
theorem mstN_tr (now : Int) (ws : List Int) : ∀ (d : MdD) (B : Int), (∀ i, 0 ≤ d.tr.getD i 0 ∧ d.tr.getD i 0 ≤ B) → ∀ i, 0 ≤ (mstN now d ws).tr.getD i 0 ∧ (mstN now d ws).tr.getD i 0 ≤ B + ws.length := by
 induction ws with
 | nil => intro d B h; simpa [mstN] using h
 | cons k ws ih =>
  intro d B h i
  have h1 : ∀ i, 0 ≤ (mst1 now d k).tr.getD i 0 ∧ (mst1 now d k).tr.getD i 0 ≤ B + 1 := by
   intro j
   have h2 := h j
   have h3 := h k.toNat
   show 0 ≤ (d.tr.set k.toNat _).getD j 0 ∧ (d.tr.set k.toNat _).getD j 0 ≤ B + 1
   rw [List.getD_eq_getElem?_getD, List.getElem?_set]
   split
   ·split
    ·show 0 ≤ d.tr.getD k.toNat 0 + 1 ∧ d.tr.getD k.toNat 0 + 1 ≤ B + 1; omega
    ·show (0 : Int) ≤ 0 ∧ (0 : Int) ≤ B + 1; omega
   ·rw [← List.getD_eq_getElem?_getD]; omega
  have h2 := ih (mst1 now d k) (B + 1) h1 i
  show 0 ≤ (mstN now (mst1 now d k) ws).tr.getD i 0 ∧ (mstN now (mst1 now d k) ws).tr.getD i 0 ≤ B + ((ws.length + 1 : Nat) : Int)
  omega
set_option maxRecDepth 100000 in
set_option maxHeartbeats 8000000 in
theorem mstep_any (D : Nat → Prop) (mb tb rb : Nat) (d : MdD) (now : Int) (hnow : 0 ≤ now ∧ now ≤ 1000000000000) (hre : 1 ≤ d.retry ∧ d.retry ≤ 1000) (hpl : d.plans.length ≤ 1000) (hlen : d.tr.length = d.th.length) (hk : d.th.length ≤ 100) (hwh : ∀ x ∈ d.plans, 0 ≤ x.2 ∧ x.2 < (d.th.length : Int)) (htr : ∀ i, 0 ≤ d.tr.getD i 0 ∧ d.tr.getD i 0 ≤ 1000000) (w : World) (hok : MdAt D w mb tb rb d) :
  Calls Tryz.prog 38 #[.pointer (some ⟨mb, 0, none⟩), .int .i64 now] w fun e w' => ∃ v, e = .returned v ∧ w'.ownsRow w.heap.size 115 2 v (mreqL d now).length (reqCells (mreqL d now)) ∧ (∃ D', MdAt D' w' mb tb rb (mstepD d now) ∧ ∀ g, D' g → D g ∨ Fresh w w' g) ∧ Chg w w' (fun k => k = mb ∨ k = rb) := by
 obtain ⟨r, hok⟩ := hok
 obtain ⟨i0, hi0, hz0, hz1, hz2⟩ := info_parts (show (Tryz.prog.info? 3).map (fun i => (i.zero, i.size, i.bytes)) = some (some (.int .i64 0), 1, 8) by kernel_rfl)
 obtain ⟨j0, hj0, hjz0, hjz1, hjz2⟩ := info_parts info_req
 have HO := Lib.hid hok
 have HD0 : Hid (∀ g, D g → g < w.heap.size) := Lib.hid (fun g hg => (hok.dd g hg).2)
 have HM0 : Hid (∀ g, MdM mb tb rb g → g < w.heap.size) := Lib.hid (fun g hg => by
  rcases hg with rfl | rfl | rfl
  ·exact hok.blk.lt
  ·exact hok.tbk.lt
  ·exact hok.rbk.lt)
 have hdl := mdue_le d.plans now
 have HDE := Lib.hid (mdue_end d.plans now)
 have HDA := Lib.hid (mdue_at d.plans now)
 have HWL := Lib.hid (mwho_length d.plans now)
 clear hok
 go_enter Tryz.func38, Tryz.ntmps38
 go_wp2
 go_loopw [5] (fun v5 wr => ∃ (j : Nat) (A : Option Addr) (c : Nat), v5 = .slice A j c ∧ j ≤ mdueN d.plans now ∧ Hid (wr.ownsRow w.heap.size 3 1 (.slice A j c) j (intsV ((mwho d.plans now).take j)) ∧ MdAt D wr mb tb rb { d with plans := d.plans.drop j } ∧ Chg w wr (fun k => k = mb))) (fun v _ => mdueN d.plans now - lenV v)
 case atStart => exact ⟨0, none, 0, rfl, Nat.zero_le _, Lib.hid ⟨World.ownsRow_nil _ _ _ _, ⟨r, HO.out⟩, Chg.refl _ _⟩⟩
 case round =>
  obtain ⟨j, A, c, rfl, hj, HI⟩ := hrel
  obtain ⟨hown, ⟨r2, hm⟩, hch⟩ := HI.out
  have c13 := hm.blk.cell 13 _ rfl
  have hmb := hm.blk.lt
  have y13 := hm.blk.free 13
  have hpv := hm.tx.pv
  have HM := Lib.hid (And.intro hown (And.intro hm hch))
  by_cases hlt : j < mdueN d.plans now
  ·obtain ⟨x, t, hx, ht, hxn, hxw, hxm⟩ := HDA.out j hlt
   have hpv2 : ShoP D wr r2.pv (t.length + 1) 2 (reqCells (x :: t)) := by
    have h9 := hpv
    dsimp only at h9
    rw [hx] at h9
    exact h9
   rcases hpv2.form with ⟨_, e2⟩ | ⟨g, o, pc, e1, hnc, hcm, hg⟩
   ·omega
   ·rw [e1] at c13 hpv2
    obtain ⟨xa, xw⟩ := x
    have p0 : wr.cell? ⟨g, o, none⟩ = some (.int .i64 xa) := by
     obtain ⟨hl', h | ⟨g', o', c', h1, _, _, _, _, hc⟩⟩ := hpv2
     ·exact absurd h.1 (by simp)
     ·injection h1 with h1 _ h2
      injection h1 with h1
      injection h1 with h1 h3
      subst h1 h2 h3
      have := hc 0 _ rfl
      rwa [Nat.add_zero] at this
    have p1 : wr.cell? ⟨g, o + 1, none⟩ = some (.int .i64 xw) := by
     obtain ⟨hl', h | ⟨g', o', c', h1, _, _, _, _, hc⟩⟩ := hpv2
     ·exact absurd h.1 (by simp)
     ·injection h1 with h1 _ h2
      injection h1 with h1
      injection h1 with h1 h3
      subst h1 h2 h3
      exact hc 1 _ rfl
    have hrest := hpv2.rest (by omega)
    have HRE := Lib.hid hrest
    have hxn' : xa ≤ now := hxn
    have HXW := Lib.hid hxw
    have HT := Lib.hid ht
    have HE1 := Lib.hid e1
    unfold maxLen at hcm
    clear hpv hpv2 hrest hx ht hxw hxm hown hm hch HI e1
    by_cases hc1 : pc = 1
    ·subst hc1
     go_wp2_with (at_builtin; (refine wpList_append_lie rfl (.tmp 27) (.tmp 35) 22 rfl w.heap.size 3 i0 (.int .i64 0) 1 8 Tryz.underlying22 hi0 hz0 hz1 hz2 rfl (by decide) _ j _ rfl (World.ownsRow.alloc HM.out.1 _) _ 1 [.int .i64 xw] rfl ((Sho.new wr 3 [.int .i64 xw] 1 1 1 rfl (Nat.le_refl _) (by decide)).news (fun u hu => by simp at hu; rcases hu with rfl; rfl)) (by unfold maxLen; omega) (by omega) (by have := HM.out.2.2.size; simp; omega) ?_); intro v3 W3 hown3 hgrow3 hlie3; have hcA : Chg wr W3 (fun x => (Value.slice A j c).ownBlock = some x) := ((Chg.refl wr _).alloc _).trans (Chg.of_grown hgrow3) (fun i _ h => h.symm); have hm3 := HM.out.2.1.chg hcA (fun x hx e => by have h8 := (World.ownsRow.lt HM.out.1 x e).1; have h9 := HM0.out x hx; omega) (fun x hx e => by have h8 := (World.ownsRow.lt HM.out.1 x e).1; have h9 := HD0.out x hx; omega); have c13' : W3.cell? ⟨mb, 13, none⟩ = some (.slice (some ⟨g, o, none⟩) (t.length + 1) 1) := (by rw [← HE1.out]; exact hm3.blk.cell 13 _ rfl); have y13' := hm3.blk.free 13; have hmb3 := hm3.blk.lt; have H3 := Lib.hid (And.intro hown3 (And.intro hcA hm3)); clear hown3 hgrow3 hlie3 hcA hm3)
     obtain ⟨A3, c3, rfl⟩ := (Sho.own H3.out.1).form
     have HN : Hid ((W3.setCell ⟨mb, 13, none⟩ (.slice (some ⟨g, o, none⟩) 0 0)).ownsRow w.heap.size 3 1 (.slice A3 (j + 1) c3) (j + 1) (intsV ((mwho d.plans now).take (j + 1))) ∧ MdAt D (W3.setCell ⟨mb, 13, none⟩ (.slice (some ⟨g, o, none⟩) 0 0)) mb tb rb { d with plans := d.plans.drop (j + 1) } ∧ Chg w (W3.setCell ⟨mb, 13, none⟩ (.slice (some ⟨g, o, none⟩) 0 0)) (fun k => k = mb)) := Lib.hid (by
      have hp3 := HRE.out.chg H3.out.2.1 (fun x hx e => by have h8 := (World.ownsRow.lt HM.out.1 x e).1; have h9 := HD0.out x hx; omega)
      obtain rfl : t = [] := List.length_eq_zero_iff.1 (by omega)
      have hp4 : ShoP D W3 (.slice (some ⟨g, o, none⟩) 0 0) ([] : List (Int × Int)).length 2 (reqCells []) := by simpa [reqCells] using hp3
      obtain ⟨a1, a2⟩ := H3.out.2.2.plans0 hp4
      have hmbw : mb < w.heap.size := HM0.out mb (.inl rfl)
      refine ⟨ownsRow_chg ?_ a2 (fun x hx e => by have h8 := (World.ownsRow.lt H3.out.1 x hx).1; omega), ?_, ?_⟩
      ·have e : intsV ((mwho d.plans now).take (j + 1)) = intsV ((mwho d.plans now).take j) ++ [.int .i64 xw] := by
        obtain ⟨hlt', hx'⟩ := List.getElem?_eq_some_iff.1 HXW.out
        rw [List.take_succ_eq_append_getElem hlt', hx']
        simp [intsV]
       rw [e]
       exact H3.out.1
      ·rw [HT.out]
       exact ⟨_, a1⟩
      ·exact (HM.out.2.2.trans H3.out.2.1 (fun x hx e => by have h8 := (World.ownsRow.lt HM.out.1 x e).1; omega)).trans a2 (fun _ _ h => h))
     clear H3
     go_wp2
     go_roundw
     case rel => exact ⟨j + 1, A3, c3, rfl, by omega, HN⟩
     case measure => simp [lenV]; omega
    ·have hc2 : ¬ pc = 1 := hc1
     go_wp2_with (at_builtin; (refine wpList_append_lie rfl (.tmp 27) (.tmp 35) 22 rfl w.heap.size 3 i0 (.int .i64 0) 1 8 Tryz.underlying22 hi0 hz0 hz1 hz2 rfl (by decide) _ j _ rfl (World.ownsRow.alloc HM.out.1 _) _ 1 [.int .i64 xw] rfl ((Sho.new wr 3 [.int .i64 xw] 1 1 1 rfl (Nat.le_refl _) (by decide)).news (fun u hu => by simp at hu; rcases hu with rfl; rfl)) (by unfold maxLen; omega) (by omega) (by have := HM.out.2.2.size; simp; omega) ?_); intro v3 W3 hown3 hgrow3 hlie3; have hcA : Chg wr W3 (fun x => (Value.slice A j c).ownBlock = some x) := ((Chg.refl wr _).alloc _).trans (Chg.of_grown hgrow3) (fun i _ h => h.symm); have hm3 := HM.out.2.1.chg hcA (fun x hx e => by have h8 := (World.ownsRow.lt HM.out.1 x e).1; have h9 := HM0.out x hx; omega) (fun x hx e => by have h8 := (World.ownsRow.lt HM.out.1 x e).1; have h9 := HD0.out x hx; omega); have c13' : W3.cell? ⟨mb, 13, none⟩ = some (.slice (some ⟨g, o, none⟩) (t.length + 1) pc) := (by rw [← HE1.out]; exact hm3.blk.cell 13 _ rfl); have y13' := hm3.blk.free 13; have hmb3 := hm3.blk.lt; have H3 := Lib.hid (And.intro hown3 (And.intro hcA hm3)); clear hown3 hgrow3 hlie3 hcA hm3)
     obtain ⟨A3, c3, rfl⟩ := (Sho.own H3.out.1).form
     have HN : Hid ((W3.setCell ⟨mb, 13, none⟩ (.slice (some ⟨g, o + 2, none⟩) t.length (pc - 1))).ownsRow w.heap.size 3 1 (.slice A3 (j + 1) c3) (j + 1) (intsV ((mwho d.plans now).take (j + 1))) ∧ MdAt D (W3.setCell ⟨mb, 13, none⟩ (.slice (some ⟨g, o + 2, none⟩) t.length (pc - 1))) mb tb rb { d with plans := d.plans.drop (j + 1) } ∧ Chg w (W3.setCell ⟨mb, 13, none⟩ (.slice (some ⟨g, o + 2, none⟩) t.length (pc - 1))) (fun k => k = mb)) := Lib.hid (by
      have hp3 := HRE.out.chg H3.out.2.1 (fun x hx e => by have h8 := (World.ownsRow.lt HM.out.1 x e).1; have h9 := HD0.out x hx; omega)
      have hp4 : ShoP D W3 (.slice (some ⟨g, o + 2, none⟩) t.length (pc - 1)) t.length 2 (reqCells t) := by simpa [reqCells, hc2] using hp3
      obtain ⟨a1, a2⟩ := H3.out.2.2.plans0 hp4
      have hmbw : mb < w.heap.size := HM0.out mb (.inl rfl)
      refine ⟨ownsRow_chg ?_ a2 (fun x hx e => by have h8 := (World.ownsRow.lt H3.out.1 x hx).1; omega), ?_, ?_⟩
      ·have e : intsV ((mwho d.plans now).take (j + 1)) = intsV ((mwho d.plans now).take j) ++ [.int .i64 xw] := by
        obtain ⟨hlt', hx'⟩ := List.getElem?_eq_some_iff.1 HXW.out
        rw [List.take_succ_eq_append_getElem hlt', hx']
        simp [intsV]
       rw [e]
       exact H3.out.1
      ·rw [HT.out]
       exact ⟨_, a1⟩
      ·exact (HM.out.2.2.trans H3.out.2.1 (fun x hx e => by have h8 := (World.ownsRow.lt HM.out.1 x e).1; omega)).trans a2 (fun _ _ h => h))
     clear H3
     go_wp2
     go_roundw
     case rel => exact ⟨j + 1, A3, c3, rfl, by omega, HN⟩
     case measure => simp [lenV]; omega
  ·obtain rfl : j = mdueN d.plans now := by omega
   have HOW := Lib.hid hown
   have hwn : (mwho d.plans now).take (mdueN d.plans now) = mwho d.plans now := List.take_of_length_le (by rw [HWL.out]; exact Nat.le_refl _)
   rw [hwn] at hown
   have HW1 : Hid (wr.ownsRow w.heap.size 3 1 (.slice A (mdueN d.plans now) c) (mdueN d.plans now) (intsV (mwho d.plans now)) ∧ MdAt D wr mb tb rb { d with plans := d.plans.drop (mdueN d.plans now) } ∧ Chg w wr (fun k => k = mb)) := Lib.hid ⟨hown, ⟨r2, hm⟩, hch⟩
   have HST : Hid (mstN now { d with plans := d.plans.drop (mdueN d.plans now) } (mwho d.plans now) = mstepD d now) := Lib.hid rfl
   have HRQ : Hid (∀ i (h : i < (mwho d.plans now).length) , (mreqL d now).take (i + 1) = (mreqL d now).take i ++ [((mwho d.plans now)[i], d.th.getD ((mwho d.plans now)[i]).toNat 0)]) := Lib.hid (fun i h => by
    unfold mreqL
    rw [← List.map_take, ← List.map_take, List.take_succ_eq_append_getElem h, List.map_append]
    rfl)
   have HRL : Hid ((mreqL d now).length = mdueN d.plans now) := Lib.hid (by rw [← HWL.out]; simp [mreqL])
   have HWR : Hid (∀ i (h : i < (mwho d.plans now).length), 0 ≤ (mwho d.plans now)[i] ∧ (mwho d.plans now)[i] < (d.th.length : Int)) := Lib.hid (fun i h => by
    obtain ⟨x, t, _, _, _, hx, hm⟩ := HDA.out i (by rw [← HWL.out]; exact h)
    obtain ⟨h2, h3⟩ := List.getElem?_eq_some_iff.1 hx
    rw [h3]
    exact hwh x hm)
   have hdl2 : mdueN d.plans now ≤ 1000 := by omega
   have hx := HDE.out
   clear HOW hwn hown hch HI hlt
   have HD1 : Hid (({ d with plans := d.plans.drop (mdueN d.plans now) } : MdD).retry = d.retry ∧ ({ d with plans := d.plans.drop (mdueN d.plans now) } : MdD).th = d.th ∧ ({ d with plans := d.plans.drop (mdueN d.plans now) } : MdD).tr = d.tr ∧ ({ d with plans := d.plans.drop (mdueN d.plans now) } : MdD).plans.length ≤ 1000) := Lib.hid ⟨rfl, rfl, rfl, by show (d.plans.drop _).length ≤ _; rw [List.length_drop]; omega⟩
   have HTR := Lib.hid htr
   have hm' := hm
   generalize hd1 : ({ d with plans := d.plans.drop (mdueN d.plans now) } : MdD) = d1 at *
   have HPVD : Hid (ShoP D wr r2.pv (d.plans.drop (mdueN d.plans now)).length 2 (reqCells (d.plans.drop (mdueN d.plans now)))) := Lib.hid (by have h9 := hpv; rw [← hd1] at h9; exact h9)
   clear hd1 hpv hm' hm HM HDA htr
   generalize mwho d.plans now = ws at *
   generalize hRQ : mreqL d now = RQ at *
   have HRQE := Lib.hid hRQ
   generalize hSD : mstepD d now = SD at *
   have HSDE := Lib.hid hSD
   clear hRQ hSD
   generalize d.plans.drop (mdueN d.plans now) = DP at *
   generalize mdueN d.plans now = n at *
   rcases hx with hx | ⟨x, t, hx, hxn⟩
   ·subst hx
    have hp0 : r2.pv = .slice none 0 0 ∨ ∃ g o c, r2.pv = .slice (some ⟨g, o, none⟩) 0 c := by
     rcases HPVD.out.form with ⟨e, _⟩ | ⟨g, o, c, e, _⟩
     ·exact .inl e
     ·exact .inr ⟨g, o, c, e⟩
    rcases hp0 with e | ⟨g, o, pc, e⟩
    all_goals
     rw [e] at c13
     clear e HPVD
     go_wp2
     go_loopw [6, 47] (fun v6 v47 wr => ∃ (i : Nat) (A2 : Option Addr) (c2 : Nat), v6 = .slice A2 i c2 ∧ v47 = .int .i64 i ∧ i ≤ n ∧ Hid (wr.ownsRow w.heap.size 115 2 (.slice A2 i c2) i (reqCells (RQ.take i)) ∧ Sho wr (.slice A n c) n 1 (intsV ws) ∧ (∀ x, (Value.slice A n c).ownBlock = some x → w.heap.size ≤ x ∧ x < wr.heap.size ∧ (Value.slice A2 i c2).ownBlock ≠ some x) ∧ Chg w wr (fun k => k = mb ∨ k = rb) ∧ ∃ D', MdAt D' wr mb tb rb (mstN now d1 (ws.take i)) ∧ ∀ g, D' g → (D g ∨ Fresh w wr g) ∧ (Value.slice A n c).ownBlock ≠ some g ∧ (Value.slice A2 i c2).ownBlock ≠ some g)) (fun _ v _ => n - (intOf v).toNat)
     case atStart => exact ⟨0, none, 0, rfl, rfl, Nat.zero_le _, Lib.hid ⟨World.ownsRow_nil _ _ _ _, Sho.own HW1.out.1, fun x hx => ⟨(World.ownsRow.lt HW1.out.1 x hx).1, (World.ownsRow.lt HW1.out.1 x hx).2, by simp [Value.ownBlock]⟩, HW1.out.2.2.mono (fun _ _ h => .inl h), D, HW1.out.2.1, fun g hg => ⟨.inl hg, fun e => by have h8 := (World.ownsRow.lt HW1.out.1 g e).1; have h9 := HD0.out g hg; omega, by simp [Value.ownBlock]⟩⟩⟩
     case round =>
      clear HW1
      obtain ⟨i, A2, c2, rfl, rfl, hi, HI⟩ := hrel
      by_cases hlt : i < n
      ·obtain ⟨hown, hwho, hwb, hch, D2, ⟨r3, hm3⟩, hD2⟩ := HI.out
       obtain ⟨ga, oa, rfl, -, hga, hrm, hrm2, hce⟩ := hwho.place (by omega)
       have hiw : i < ws.length := by rw [HWL.out]; exact hlt
       have hkw := HWR.out i hiw
       have pk := hce i _ (intsV_at ws i hiw)
       have ek : ws.getD i 0 = ws[i] := by rw [List.getD_eq_getElem?_getD, List.getElem?_eq_getElem hiw]; rfl
       rw [ek] at pk
       have HRQ2 := Lib.hid (HRQ.out i hiw)
       have HTK : Hid (ws.take (i + 1) = ws.take i ++ [ws[i]]) := Lib.hid (List.take_succ_eq_append_getElem hiw)
       generalize ws[i] = K0 at *
       obtain ⟨kk, hkk⟩ := Int.eq_ofNat_of_zero_le hkw.1
       subst hkk
       have hkn : kk < d.th.length := by omega
       obtain ⟨q1, q2, q3, q4⟩ := mstN_any now (ws.take i) d1
       have q5 := mstN_tr now (ws.take i) d1 1000000 (by rw [HD1.out.2.2.1]; exact HTR.out) kk
       have hwl : (ws.take i).length = i := by rw [List.length_take]; omega
       rw [hwl] at q4 q5
       have e10 : (mstN now d1 (ws.take i)).th = d.th := q2.trans HD1.out.2.1
       have e11 : (mstN now d1 (ws.take i)).tr.length = d.th.length := q3.trans (by rw [HD1.out.2.2.1]; exact hlen)
       have e3 : (mstN now d1 (ws.take i)).retry = d.retry := q1.trans HD1.out.1
       have c10 := hm3.blk.cell 10 _ rfl
       have c11 := hm3.blk.cell 11 _ rfl
       rw [e10] at c10
       rw [e11] at c11
       have t10 := hm3.tbk.cell kk _ (intsV_at _ kk (by rw [e10]; exact hkn))
       rw [e10] at t10
       have hmb := hm3.blk.lt
       have htb := hm3.tbk.lt
       unfold maxLen at hrm2
       have HDI : Hid ((mstN now d1 (ws.take i)).plans.length ≤ 100000 ∧ (mstN now d1 (ws.take i)).tr.length = d.th.length ∧ (mstN now d1 (ws.take i)).retry = d.retry ∧ (mstN now d1 (ws.take i)).th = d.th) := Lib.hid ⟨by have := HD1.out.2.2.2; omega, e11, e3, e10⟩
       have HSN := Lib.hid (mstN_snoc now d1 (ws.take i) (kk : Int))
       have hT0 := q5.1
       have hT1 := q5.2
       have HT9 := Lib.hid (And.intro hown (And.intro hwho (And.intro hwb (And.intro hch (And.intro hm3 hD2)))))
       clear hown hwho hwb hch hD2 hce HI q1 q2 q3 q4 q5 e10 e11 e3 ek hkw
       have HTHE : Hid (d.th.getD ((kk : Int)).toNat 0 = d.th.getD kk 0) := Lib.hid (by rw [Int.toNat_natCast])
       have HTRE : Hid ((mstN now d1 (ws.take i)).tr.getD ((kk : Int)).toNat 0 = (mstN now d1 (ws.take i)).tr.getD kk 0) := Lib.hid (by rw [Int.toNat_natCast])
       have HVC : Hid (∀ (W : World), Blk W rb 3 (intsV (mstN now d1 (ws.take i)).tr) → W.cell? ⟨rb, kk, none⟩ = some (.int .i64 ((mstN now d1 (ws.take i)).tr.getD kk 0))) := Lib.hid (fun W hb => hb.cell kk _ (intsV_at _ kk (by rw [HDI.out.2.1]; exact hkn)))
       generalize d.th.getD kk 0 = TH at *
       generalize (mstN now d1 (ws.take i)).tr.getD kk 0 = TR at *
       have hag := againZ_le d.retry TR hre hT0
       have HEQ0 : Hid (wrap64 (now + againZ d.retry TR) = now + againZ d.retry TR) := Lib.hid (IntWalk.wrap64_in _ (by omega))
       have hsz9 := HT9.out.2.2.2.1.size
       by_cases h3 : 3 < TR
       ·have HEQ : Hid (d.retry * 8 = againZ d.retry TR) := Lib.hid (by unfold againZ; rw [if_pos h3]; rfl)
        go_wp2_with (at_builtin; (refine wpList_append_lie rfl (.tmp 51) (.tmp 61) 80 rfl w.heap.size 115 j0 (.agg #[.int .i64 0, .int .i64 0]) 2 16 Tryz.underlying80 hj0 hjz0 hjz1 hjz2 rfl (by decide) _ i _ rfl (World.ownsRow.alloc HT9.out.1 _) _ 1 [.int .i64 kk, .int .i64 TH] rfl ((Sho.new wr 115 [.int .i64 kk, .int .i64 TH] 1 2 1 rfl (Nat.le_refl _) (by decide)).news (fun u hu => by simp at hu; rcases hu with rfl | rfl <;> rfl)) (by unfold maxLen; omega) (by omega) (by have := HT9.out.2.2.2.1.size; simp; omega) ?_); intro v3 W3 hown3 hgrow3 hlie3; have hcA : Chg wr W3 (fun x => (Value.slice A2 i c2).ownBlock = some x) := ((Chg.refl wr _).alloc _).trans (Chg.of_grown hgrow3) (fun i _ h => h.symm); have hm4 := HT9.out.2.2.2.2.1.chg hcA (fun x hx e => by have h8 := (World.ownsRow.lt HT9.out.1 x e).1; have h9 := HM0.out x hx; omega) (fun x hx e => (HT9.out.2.2.2.2.2 x hx).2.2 e); have c3' := hm4.blk.cell 3 _ rfl; have c11' := hm4.blk.cell 11 _ rfl; (rw [HDI.out.2.1] at c11'); (rw [HDI.out.2.2.1] at c3'); have tr' := HVC.out _ hm4.rbk; have hmb4 := hm4.blk.lt; have hrb4 := hm4.rbk.lt; have H3 := Lib.hid (And.intro hown3 (And.intro hcA (And.intro hm4 hlie3))); clear hown3 hgrow3 hlie3 hcA hm4)
        obtain ⟨A3, c3, rfl⟩ := (Sho.own H3.out.1).form
        rw [HEQ.out]
        refine (madd_any D2 mb tb rb _ (now + againZ d.retry TR) (kk : Int) (by have := HDI.out.1; omega) W3 ⟨r3, H3.out.2.2.1⟩).mono ?_
        rintro e W4 ⟨rfl, ⟨r4, hm5⟩, m2⟩
        have c11w : W4.cell? ⟨mb, 11, none⟩ = some (.slice (some ⟨rb, 0, none⟩) d.th.length d.th.length) := by rw [← HDI.out.2.1]; exact hm5.blk.cell 11 _ rfl
        have trw := HVC.out _ hm5.rbk
        have yrw := hm5.rbk.free kk
        have hrb5 := hm5.rbk.lt
        have hmb5 := hm5.blk.lt
        have hmbw : mb < w.heap.size := HM0.out mb (.inl rfl)
        have hrbw : rb < w.heap.size := HM0.out rb (.inr (.inr rfl))
        obtain ⟨hm6, hc6⟩ := hm5.tries kk (TR + 1) (by show kk < (mstN now d1 (ws.take i)).tr.length; rw [HDI.out.2.1]; exact hkn)
        have HN : Hid ((W4.setCell ⟨rb, kk, none⟩ (.int .i64 (TR + 1))).ownsRow w.heap.size 115 2 (.slice A3 (i + 1) c3) (i + 1) (reqCells (RQ.take (i + 1))) ∧ Sho (W4.setCell ⟨rb, kk, none⟩ (.int .i64 (TR + 1))) (.slice (some ⟨ga, oa, none⟩) n c) n 1 (intsV ws) ∧ (∀ x, (Value.slice (some ⟨ga, oa, none⟩) n c).ownBlock = some x → w.heap.size ≤ x ∧ x < (W4.setCell ⟨rb, kk, none⟩ (.int .i64 (TR + 1))).heap.size ∧ (Value.slice A3 (i + 1) c3).ownBlock ≠ some x) ∧ Chg w (W4.setCell ⟨rb, kk, none⟩ (.int .i64 (TR + 1))) (fun k => k = mb ∨ k = rb) ∧ ∃ D', MdAt D' (W4.setCell ⟨rb, kk, none⟩ (.int .i64 (TR + 1))) mb tb rb (mstN now d1 (ws.take (i + 1))) ∧ ∀ g, D' g → (D g ∨ Fresh w (W4.setCell ⟨rb, kk, none⟩ (.int .i64 (TR + 1))) g) ∧ (Value.slice (some ⟨ga, oa, none⟩) n c).ownBlock ≠ some g ∧ (Value.slice A3 (i + 1) c3).ownBlock ≠ some g) := Lib.hid (by
         obtain ⟨b1, b2, b3, b4, b5, b6⟩ := HT9.out
         obtain ⟨a1, a2, a3, a4⟩ := H3.out
         have z1 := b4.size
         have z2 := a2.size
         have z3 := m2.size
         have z4 := hc6.size
         have hlo := fun x hx => World.ownsRow.lt b1 x hx
         have hlo3 := fun x hx => World.ownsRow.lt a1 x hx
         have hv3 : ∀ x, x < wr.heap.size → (Value.slice A2 i c2).ownBlock ≠ some x → (Value.slice A3 (i + 1) c3).ownBlock ≠ some x := fun x hx hne => LieOf.ne a4 hne (by simp; omega)
         have eM : ({ mstN now d1 (ws.take i) with plans := insP (now + againZ d.retry TR) (kk : Int) (mstN now d1 (ws.take i)).plans, tr := (mstN now d1 (ws.take i)).tr.set kk (TR + 1) } : MdD) = mstN now d1 (ws.take (i + 1)) := by
          rw [HTK.out, HSN.out]
          unfold mst1
          rw [HTRE.out, Int.toNat_natCast, ← HDI.out.2.2.1]
         refine ⟨?_, ?_, fun x hx => ?_, ?_, fun g => D2 g ∨ Fresh W3 W4 g, ?_, fun g hg => ?_⟩
         ·rw [HRQ2.out, reqCells_append]
          have o1 : W3.ownsRow w.heap.size 115 2 (.slice A3 (i + 1) c3) (i + 1) (reqCells (RQ.take i) ++ reqCells [((kk : Int), d.th.getD ((kk : Int)).toNat 0)]) := by
           rw [HTHE.out]
           exact a1
          exact ownsRow_chg (ownsRow_chg o1 m2 (fun x hx e => by have := (hlo3 x hx).1; omega)) hc6 (fun x hx e => by have := (hlo3 x hx).1; omega)
         ·exact ((b2.chg a2 (fun x hx e => (b3 x hx).2.2 e)).chg m2 (fun x hx e => by have := (b3 x hx).1; omega)).chg hc6 (fun x hx e => by have := (b3 x hx).1; omega)
         ·obtain ⟨h1, h2, h3⟩ := b3 x hx
          exact ⟨h1, by omega, hv3 x h2 h3⟩
         ·exact ((b4.trans a2 (fun x hx e => by have := (hlo x e).1; omega)).trans m2 (fun x _ e => .inl e)).trans hc6 (fun x _ e => .inr e)
         ·rw [← eM]
          exact ⟨r4, hm6⟩
         ·rcases hg with hg | hg
          ·obtain ⟨h1, h2, h3⟩ := b6 g hg
           have hgs := (b5.dd g hg).2
           refine ⟨?_, h2, hv3 g hgs h3⟩
           rcases h1 with h1 | h1
           ·exact .inl h1
           ·exact .inr ⟨h1.1, by have := h1.2; omega⟩
          ·have h1 : W3.heap.size ≤ g := hg.1
           have h2 : g < W4.heap.size := hg.2
           refine ⟨.inr ⟨by omega, by omega⟩, fun e => by have := (b3 g e).2.1; omega, fun e => by have := (hlo3 g e).2; omega⟩)
        clear hm5 hm6 hc6 m2 H3 HT9
        go_wp2
        go_roundw
        case rel => exact ⟨i + 1, A3, c3, rfl, by go_num, by omega, HN⟩
        case measure => simp [intOf]; omega
       ·have HEQ : Hid (wrap64 (d.retry * 2 ^ TR.toNat) = againZ d.retry TR ∧ wrap64 (now + againZ d.retry TR) = now + againZ d.retry TR) := Lib.hid ⟨by
         have e : againZ d.retry TR = d.retry * 2 ^ TR.toNat := by unfold againZ; rw [if_neg h3]
         rw [← e]; exact IntWalk.wrap64_in _ (by omega), HEQ0.out⟩
        go_wp2_with (at_builtin; (refine wpList_append_lie rfl (.tmp 51) (.tmp 61) 80 rfl w.heap.size 115 j0 (.agg #[.int .i64 0, .int .i64 0]) 2 16 Tryz.underlying80 hj0 hjz0 hjz1 hjz2 rfl (by decide) _ i _ rfl (World.ownsRow.alloc HT9.out.1 _) _ 1 [.int .i64 kk, .int .i64 TH] rfl ((Sho.new wr 115 [.int .i64 kk, .int .i64 TH] 1 2 1 rfl (Nat.le_refl _) (by decide)).news (fun u hu => by simp at hu; rcases hu with rfl | rfl <;> rfl)) (by unfold maxLen; omega) (by omega) (by have := HT9.out.2.2.2.1.size; simp; omega) ?_); intro v3 W3 hown3 hgrow3 hlie3; have hcA : Chg wr W3 (fun x => (Value.slice A2 i c2).ownBlock = some x) := ((Chg.refl wr _).alloc _).trans (Chg.of_grown hgrow3) (fun i _ h => h.symm); have hm4 := HT9.out.2.2.2.2.1.chg hcA (fun x hx e => by have h8 := (World.ownsRow.lt HT9.out.1 x e).1; have h9 := HM0.out x hx; omega) (fun x hx e => (HT9.out.2.2.2.2.2 x hx).2.2 e); have c3' := hm4.blk.cell 3 _ rfl; have c11' := hm4.blk.cell 11 _ rfl; (rw [HDI.out.2.1] at c11'); (rw [HDI.out.2.2.1] at c3'); have tr' := HVC.out _ hm4.rbk; have hmb4 := hm4.blk.lt; have hrb4 := hm4.rbk.lt; have H3 := Lib.hid (And.intro hown3 (And.intro hcA (And.intro hm4 hlie3))); clear hown3 hgrow3 hlie3 hcA hm4)
        obtain ⟨A3, c3, rfl⟩ := (Sho.own H3.out.1).form
        rw [HEQ.out.1, HEQ.out.2]
        refine (madd_any D2 mb tb rb _ (now + againZ d.retry TR) (kk : Int) (by have := HDI.out.1; omega) W3 ⟨r3, H3.out.2.2.1⟩).mono ?_
        rintro e W4 ⟨rfl, ⟨r4, hm5⟩, m2⟩
        have c11w : W4.cell? ⟨mb, 11, none⟩ = some (.slice (some ⟨rb, 0, none⟩) d.th.length d.th.length) := by rw [← HDI.out.2.1]; exact hm5.blk.cell 11 _ rfl
        have trw := HVC.out _ hm5.rbk
        have yrw := hm5.rbk.free kk
        have hrb5 := hm5.rbk.lt
        have hmb5 := hm5.blk.lt
        have hmbw : mb < w.heap.size := HM0.out mb (.inl rfl)
        have hrbw : rb < w.heap.size := HM0.out rb (.inr (.inr rfl))
        obtain ⟨hm6, hc6⟩ := hm5.tries kk (TR + 1) (by show kk < (mstN now d1 (ws.take i)).tr.length; rw [HDI.out.2.1]; exact hkn)
        have HN : Hid ((W4.setCell ⟨rb, kk, none⟩ (.int .i64 (TR + 1))).ownsRow w.heap.size 115 2 (.slice A3 (i + 1) c3) (i + 1) (reqCells (RQ.take (i + 1))) ∧ Sho (W4.setCell ⟨rb, kk, none⟩ (.int .i64 (TR + 1))) (.slice (some ⟨ga, oa, none⟩) n c) n 1 (intsV ws) ∧ (∀ x, (Value.slice (some ⟨ga, oa, none⟩) n c).ownBlock = some x → w.heap.size ≤ x ∧ x < (W4.setCell ⟨rb, kk, none⟩ (.int .i64 (TR + 1))).heap.size ∧ (Value.slice A3 (i + 1) c3).ownBlock ≠ some x) ∧ Chg w (W4.setCell ⟨rb, kk, none⟩ (.int .i64 (TR + 1))) (fun k => k = mb ∨ k = rb) ∧ ∃ D', MdAt D' (W4.setCell ⟨rb, kk, none⟩ (.int .i64 (TR + 1))) mb tb rb (mstN now d1 (ws.take (i + 1))) ∧ ∀ g, D' g → (D g ∨ Fresh w (W4.setCell ⟨rb, kk, none⟩ (.int .i64 (TR + 1))) g) ∧ (Value.slice (some ⟨ga, oa, none⟩) n c).ownBlock ≠ some g ∧ (Value.slice A3 (i + 1) c3).ownBlock ≠ some g) := Lib.hid (by
         obtain ⟨b1, b2, b3, b4, b5, b6⟩ := HT9.out
         obtain ⟨a1, a2, a3, a4⟩ := H3.out
         have z1 := b4.size
         have z2 := a2.size
         have z3 := m2.size
         have z4 := hc6.size
         have hlo := fun x hx => World.ownsRow.lt b1 x hx
         have hlo3 := fun x hx => World.ownsRow.lt a1 x hx
         have hv3 : ∀ x, x < wr.heap.size → (Value.slice A2 i c2).ownBlock ≠ some x → (Value.slice A3 (i + 1) c3).ownBlock ≠ some x := fun x hx hne => LieOf.ne a4 hne (by simp; omega)
         have eM : ({ mstN now d1 (ws.take i) with plans := insP (now + againZ d.retry TR) (kk : Int) (mstN now d1 (ws.take i)).plans, tr := (mstN now d1 (ws.take i)).tr.set kk (TR + 1) } : MdD) = mstN now d1 (ws.take (i + 1)) := by
          rw [HTK.out, HSN.out]
          unfold mst1
          rw [HTRE.out, Int.toNat_natCast, ← HDI.out.2.2.1]
         refine ⟨?_, ?_, fun x hx => ?_, ?_, fun g => D2 g ∨ Fresh W3 W4 g, ?_, fun g hg => ?_⟩
         ·rw [HRQ2.out, reqCells_append]
          have o1 : W3.ownsRow w.heap.size 115 2 (.slice A3 (i + 1) c3) (i + 1) (reqCells (RQ.take i) ++ reqCells [((kk : Int), d.th.getD ((kk : Int)).toNat 0)]) := by
           rw [HTHE.out]
           exact a1
          exact ownsRow_chg (ownsRow_chg o1 m2 (fun x hx e => by have := (hlo3 x hx).1; omega)) hc6 (fun x hx e => by have := (hlo3 x hx).1; omega)
         ·exact ((b2.chg a2 (fun x hx e => (b3 x hx).2.2 e)).chg m2 (fun x hx e => by have := (b3 x hx).1; omega)).chg hc6 (fun x hx e => by have := (b3 x hx).1; omega)
         ·obtain ⟨h1, h2, h3⟩ := b3 x hx
          exact ⟨h1, by omega, hv3 x h2 h3⟩
         ·exact ((b4.trans a2 (fun x hx e => by have := (hlo x e).1; omega)).trans m2 (fun x _ e => .inl e)).trans hc6 (fun x _ e => .inr e)
         ·rw [← eM]
          exact ⟨r4, hm6⟩
         ·rcases hg with hg | hg
          ·obtain ⟨h1, h2, h3⟩ := b6 g hg
           have hgs := (b5.dd g hg).2
           refine ⟨?_, h2, hv3 g hgs h3⟩
           rcases h1 with h1 | h1
           ·exact .inl h1
           ·exact .inr ⟨h1.1, by have := h1.2; omega⟩
          ·have h1 : W3.heap.size ≤ g := hg.1
           have h2 : g < W4.heap.size := hg.2
           refine ⟨.inr ⟨by omega, by omega⟩, fun e => by have := (b3 g e).2.1; omega, fun e => by have := (hlo3 g e).2; omega⟩)
        clear hm5 hm6 hc6 m2 H3 HT9
        go_wp2
        go_roundw
        case rel => exact ⟨i + 1, A3, c3, rfl, by go_num, by omega, HN⟩
        case measure => simp [intOf]; omega
      ·obtain rfl : i = n := by omega
       have HF := Lib.hid HI.out
       clear HI
       go_wp2
       go_ret
       obtain ⟨a1, a2, a3, a4, D2, a5, a6⟩ := HF.out
       have e1 : RQ.take i = RQ := List.take_of_length_le (by rw [HRL.out]; exact Nat.le_refl _)
       have e2 : ws.take i = ws := List.take_of_length_le (by rw [HWL.out]; exact Nat.le_refl _)
       rw [e1] at a1
       rw [e2, HST.out] at a5
       rw [HRQE.out, HSDE.out]
       exact ⟨_, rfl, by rw [HRL.out]; exact a1, ⟨D2, a5, fun g hg => (a6 g hg).1⟩, a4⟩
   ·subst hx
    obtain ⟨g, o, pc, e, hcl, p0⟩ : ∃ g o c, r2.pv = .slice (some ⟨g, o, none⟩) (t.length + 1) c ∧ t.length + 1 ≤ c ∧ wr.cell? ⟨g, o, none⟩ = some (.int .i64 x.1) := by
     obtain ⟨hl', h | ⟨g, o, c, h1, h2, _, _, _, hc⟩⟩ := HPVD.out
     ·exact absurd h.2 (by simp)
     ·refine ⟨g, o, c, h1, h2, ?_⟩
      have := hc 0 _ rfl
      rwa [Nat.add_zero] at this
    rw [e] at c13
    have hgl := World.block_lt_of_cell? wr _ p0
    have hxn' : ¬ x.1 ≤ now := by omega
    generalize x.1 = X at *
    clear e HPVD
    go_wp2
    go_loopw [6, 47] (fun v6 v47 wr => ∃ (i : Nat) (A2 : Option Addr) (c2 : Nat), v6 = .slice A2 i c2 ∧ v47 = .int .i64 i ∧ i ≤ n ∧ Hid (wr.ownsRow w.heap.size 115 2 (.slice A2 i c2) i (reqCells (RQ.take i)) ∧ Sho wr (.slice A n c) n 1 (intsV ws) ∧ (∀ x, (Value.slice A n c).ownBlock = some x → w.heap.size ≤ x ∧ x < wr.heap.size ∧ (Value.slice A2 i c2).ownBlock ≠ some x) ∧ Chg w wr (fun k => k = mb ∨ k = rb) ∧ ∃ D', MdAt D' wr mb tb rb (mstN now d1 (ws.take i)) ∧ ∀ g, D' g → (D g ∨ Fresh w wr g) ∧ (Value.slice A n c).ownBlock ≠ some g ∧ (Value.slice A2 i c2).ownBlock ≠ some g)) (fun _ v _ => n - (intOf v).toNat)
    case atStart => exact ⟨0, none, 0, rfl, rfl, Nat.zero_le _, Lib.hid ⟨World.ownsRow_nil _ _ _ _, Sho.own HW1.out.1, fun x hx => ⟨(World.ownsRow.lt HW1.out.1 x hx).1, (World.ownsRow.lt HW1.out.1 x hx).2, by simp [Value.ownBlock]⟩, HW1.out.2.2.mono (fun _ _ h => .inl h), D, HW1.out.2.1, fun g hg => ⟨.inl hg, fun e => by have h8 := (World.ownsRow.lt HW1.out.1 g e).1; have h9 := HD0.out g hg; omega, by simp [Value.ownBlock]⟩⟩⟩
    case round =>
     clear HW1
     obtain ⟨i, A2, c2, rfl, rfl, hi, HI⟩ := hrel
     by_cases hlt : i < n
     ·obtain ⟨hown, hwho, hwb, hch, D2, ⟨r3, hm3⟩, hD2⟩ := HI.out
      obtain ⟨ga, oa, rfl, -, hga, hrm, hrm2, hce⟩ := hwho.place (by omega)
      have hiw : i < ws.length := by rw [HWL.out]; exact hlt
      have hkw := HWR.out i hiw
      have pk := hce i _ (intsV_at ws i hiw)
      have ek : ws.getD i 0 = ws[i] := by rw [List.getD_eq_getElem?_getD, List.getElem?_eq_getElem hiw]; rfl
      rw [ek] at pk
      have HRQ2 := Lib.hid (HRQ.out i hiw)
      have HTK : Hid (ws.take (i + 1) = ws.take i ++ [ws[i]]) := Lib.hid (List.take_succ_eq_append_getElem hiw)
      generalize ws[i] = K0 at *
      obtain ⟨kk, hkk⟩ := Int.eq_ofNat_of_zero_le hkw.1
      subst hkk
      have hkn : kk < d.th.length := by omega
      obtain ⟨q1, q2, q3, q4⟩ := mstN_any now (ws.take i) d1
      have q5 := mstN_tr now (ws.take i) d1 1000000 (by rw [HD1.out.2.2.1]; exact HTR.out) kk
      have hwl : (ws.take i).length = i := by rw [List.length_take]; omega
      rw [hwl] at q4 q5
      have e10 : (mstN now d1 (ws.take i)).th = d.th := q2.trans HD1.out.2.1
      have e11 : (mstN now d1 (ws.take i)).tr.length = d.th.length := q3.trans (by rw [HD1.out.2.2.1]; exact hlen)
      have e3 : (mstN now d1 (ws.take i)).retry = d.retry := q1.trans HD1.out.1
      have c10 := hm3.blk.cell 10 _ rfl
      have c11 := hm3.blk.cell 11 _ rfl
      rw [e10] at c10
      rw [e11] at c11
      have t10 := hm3.tbk.cell kk _ (intsV_at _ kk (by rw [e10]; exact hkn))
      rw [e10] at t10
      have hmb := hm3.blk.lt
      have htb := hm3.tbk.lt
      unfold maxLen at hrm2
      have HDI : Hid ((mstN now d1 (ws.take i)).plans.length ≤ 100000 ∧ (mstN now d1 (ws.take i)).tr.length = d.th.length ∧ (mstN now d1 (ws.take i)).retry = d.retry ∧ (mstN now d1 (ws.take i)).th = d.th) := Lib.hid ⟨by have := HD1.out.2.2.2; omega, e11, e3, e10⟩
      have HSN := Lib.hid (mstN_snoc now d1 (ws.take i) (kk : Int))
      have hT0 := q5.1
      have hT1 := q5.2
      have HT9 := Lib.hid (And.intro hown (And.intro hwho (And.intro hwb (And.intro hch (And.intro hm3 hD2)))))
      clear hown hwho hwb hch hD2 hce HI q1 q2 q3 q4 q5 e10 e11 e3 ek hkw
      have HTHE : Hid (d.th.getD ((kk : Int)).toNat 0 = d.th.getD kk 0) := Lib.hid (by rw [Int.toNat_natCast])
      have HTRE : Hid ((mstN now d1 (ws.take i)).tr.getD ((kk : Int)).toNat 0 = (mstN now d1 (ws.take i)).tr.getD kk 0) := Lib.hid (by rw [Int.toNat_natCast])
      have HVC : Hid (∀ (W : World), Blk W rb 3 (intsV (mstN now d1 (ws.take i)).tr) → W.cell? ⟨rb, kk, none⟩ = some (.int .i64 ((mstN now d1 (ws.take i)).tr.getD kk 0))) := Lib.hid (fun W hb => hb.cell kk _ (intsV_at _ kk (by rw [HDI.out.2.1]; exact hkn)))
      generalize d.th.getD kk 0 = TH at *
      generalize (mstN now d1 (ws.take i)).tr.getD kk 0 = TR at *
      have hag := againZ_le d.retry TR hre hT0
      have HEQ0 : Hid (wrap64 (now + againZ d.retry TR) = now + againZ d.retry TR) := Lib.hid (IntWalk.wrap64_in _ (by omega))
      have hsz9 := HT9.out.2.2.2.1.size
      by_cases h3 : 3 < TR
      ·have HEQ : Hid (d.retry * 8 = againZ d.retry TR) := Lib.hid (by unfold againZ; rw [if_pos h3]; rfl)
       go_wp2_with (at_builtin; (refine wpList_append_lie rfl (.tmp 51) (.tmp 61) 80 rfl w.heap.size 115 j0 (.agg #[.int .i64 0, .int .i64 0]) 2 16 Tryz.underlying80 hj0 hjz0 hjz1 hjz2 rfl (by decide) _ i _ rfl (World.ownsRow.alloc HT9.out.1 _) _ 1 [.int .i64 kk, .int .i64 TH] rfl ((Sho.new wr 115 [.int .i64 kk, .int .i64 TH] 1 2 1 rfl (Nat.le_refl _) (by decide)).news (fun u hu => by simp at hu; rcases hu with rfl | rfl <;> rfl)) (by unfold maxLen; omega) (by omega) (by have := HT9.out.2.2.2.1.size; simp; omega) ?_); intro v3 W3 hown3 hgrow3 hlie3; have hcA : Chg wr W3 (fun x => (Value.slice A2 i c2).ownBlock = some x) := ((Chg.refl wr _).alloc _).trans (Chg.of_grown hgrow3) (fun i _ h => h.symm); have hm4 := HT9.out.2.2.2.2.1.chg hcA (fun x hx e => by have h8 := (World.ownsRow.lt HT9.out.1 x e).1; have h9 := HM0.out x hx; omega) (fun x hx e => (HT9.out.2.2.2.2.2 x hx).2.2 e); have c3' := hm4.blk.cell 3 _ rfl; have c11' := hm4.blk.cell 11 _ rfl; (rw [HDI.out.2.1] at c11'); (rw [HDI.out.2.2.1] at c3'); have tr' := HVC.out _ hm4.rbk; have hmb4 := hm4.blk.lt; have hrb4 := hm4.rbk.lt; have H3 := Lib.hid (And.intro hown3 (And.intro hcA (And.intro hm4 hlie3))); clear hown3 hgrow3 hlie3 hcA hm4)
       obtain ⟨A3, c3, rfl⟩ := (Sho.own H3.out.1).form
       rw [HEQ.out]
       refine (madd_any D2 mb tb rb _ (now + againZ d.retry TR) (kk : Int) (by have := HDI.out.1; omega) W3 ⟨r3, H3.out.2.2.1⟩).mono ?_
       rintro e W4 ⟨rfl, ⟨r4, hm5⟩, m2⟩
       have c11w : W4.cell? ⟨mb, 11, none⟩ = some (.slice (some ⟨rb, 0, none⟩) d.th.length d.th.length) := by rw [← HDI.out.2.1]; exact hm5.blk.cell 11 _ rfl
       have trw := HVC.out _ hm5.rbk
       have yrw := hm5.rbk.free kk
       have hrb5 := hm5.rbk.lt
       have hmb5 := hm5.blk.lt
       have hmbw : mb < w.heap.size := HM0.out mb (.inl rfl)
       have hrbw : rb < w.heap.size := HM0.out rb (.inr (.inr rfl))
       obtain ⟨hm6, hc6⟩ := hm5.tries kk (TR + 1) (by show kk < (mstN now d1 (ws.take i)).tr.length; rw [HDI.out.2.1]; exact hkn)
       have HN : Hid ((W4.setCell ⟨rb, kk, none⟩ (.int .i64 (TR + 1))).ownsRow w.heap.size 115 2 (.slice A3 (i + 1) c3) (i + 1) (reqCells (RQ.take (i + 1))) ∧ Sho (W4.setCell ⟨rb, kk, none⟩ (.int .i64 (TR + 1))) (.slice (some ⟨ga, oa, none⟩) n c) n 1 (intsV ws) ∧ (∀ x, (Value.slice (some ⟨ga, oa, none⟩) n c).ownBlock = some x → w.heap.size ≤ x ∧ x < (W4.setCell ⟨rb, kk, none⟩ (.int .i64 (TR + 1))).heap.size ∧ (Value.slice A3 (i + 1) c3).ownBlock ≠ some x) ∧ Chg w (W4.setCell ⟨rb, kk, none⟩ (.int .i64 (TR + 1))) (fun k => k = mb ∨ k = rb) ∧ ∃ D', MdAt D' (W4.setCell ⟨rb, kk, none⟩ (.int .i64 (TR + 1))) mb tb rb (mstN now d1 (ws.take (i + 1))) ∧ ∀ g, D' g → (D g ∨ Fresh w (W4.setCell ⟨rb, kk, none⟩ (.int .i64 (TR + 1))) g) ∧ (Value.slice (some ⟨ga, oa, none⟩) n c).ownBlock ≠ some g ∧ (Value.slice A3 (i + 1) c3).ownBlock ≠ some g) := Lib.hid (by
        obtain ⟨b1, b2, b3, b4, b5, b6⟩ := HT9.out
        obtain ⟨a1, a2, a3, a4⟩ := H3.out
        have z1 := b4.size
        have z2 := a2.size
        have z3 := m2.size
        have z4 := hc6.size
        have hlo := fun x hx => World.ownsRow.lt b1 x hx
        have hlo3 := fun x hx => World.ownsRow.lt a1 x hx
        have hv3 : ∀ x, x < wr.heap.size → (Value.slice A2 i c2).ownBlock ≠ some x → (Value.slice A3 (i + 1) c3).ownBlock ≠ some x := fun x hx hne => LieOf.ne a4 hne (by simp; omega)
        have eM : ({ mstN now d1 (ws.take i) with plans := insP (now + againZ d.retry TR) (kk : Int) (mstN now d1 (ws.take i)).plans, tr := (mstN now d1 (ws.take i)).tr.set kk (TR + 1) } : MdD) = mstN now d1 (ws.take (i + 1)) := by
         rw [HTK.out, HSN.out]
         unfold mst1
         rw [HTRE.out, Int.toNat_natCast, ← HDI.out.2.2.1]
        refine ⟨?_, ?_, fun x hx => ?_, ?_, fun g => D2 g ∨ Fresh W3 W4 g, ?_, fun g hg => ?_⟩
        ·rw [HRQ2.out, reqCells_append]
         have o1 : W3.ownsRow w.heap.size 115 2 (.slice A3 (i + 1) c3) (i + 1) (reqCells (RQ.take i) ++ reqCells [((kk : Int), d.th.getD ((kk : Int)).toNat 0)]) := by
          rw [HTHE.out]
          exact a1
         exact ownsRow_chg (ownsRow_chg o1 m2 (fun x hx e => by have := (hlo3 x hx).1; omega)) hc6 (fun x hx e => by have := (hlo3 x hx).1; omega)
        ·exact ((b2.chg a2 (fun x hx e => (b3 x hx).2.2 e)).chg m2 (fun x hx e => by have := (b3 x hx).1; omega)).chg hc6 (fun x hx e => by have := (b3 x hx).1; omega)
        ·obtain ⟨h1, h2, h3⟩ := b3 x hx
         exact ⟨h1, by omega, hv3 x h2 h3⟩
        ·exact ((b4.trans a2 (fun x hx e => by have := (hlo x e).1; omega)).trans m2 (fun x _ e => .inl e)).trans hc6 (fun x _ e => .inr e)
        ·rw [← eM]
         exact ⟨r4, hm6⟩
        ·rcases hg with hg | hg
         ·obtain ⟨h1, h2, h3⟩ := b6 g hg
          have hgs := (b5.dd g hg).2
          refine ⟨?_, h2, hv3 g hgs h3⟩
          rcases h1 with h1 | h1
          ·exact .inl h1
          ·exact .inr ⟨h1.1, by have := h1.2; omega⟩
         ·have h1 : W3.heap.size ≤ g := hg.1
          have h2 : g < W4.heap.size := hg.2
          refine ⟨.inr ⟨by omega, by omega⟩, fun e => by have := (b3 g e).2.1; omega, fun e => by have := (hlo3 g e).2; omega⟩)
       clear hm5 hm6 hc6 m2 H3 HT9
       go_wp2
       go_roundw
       case rel => exact ⟨i + 1, A3, c3, rfl, by go_num, by omega, HN⟩
       case measure => simp [intOf]; omega
      ·have HEQ : Hid (wrap64 (d.retry * 2 ^ TR.toNat) = againZ d.retry TR ∧ wrap64 (now + againZ d.retry TR) = now + againZ d.retry TR) := Lib.hid ⟨by
        have e : againZ d.retry TR = d.retry * 2 ^ TR.toNat := by unfold againZ; rw [if_neg h3]
        rw [← e]; exact IntWalk.wrap64_in _ (by omega), HEQ0.out⟩
       go_wp2_with (at_builtin; (refine wpList_append_lie rfl (.tmp 51) (.tmp 61) 80 rfl w.heap.size 115 j0 (.agg #[.int .i64 0, .int .i64 0]) 2 16 Tryz.underlying80 hj0 hjz0 hjz1 hjz2 rfl (by decide) _ i _ rfl (World.ownsRow.alloc HT9.out.1 _) _ 1 [.int .i64 kk, .int .i64 TH] rfl ((Sho.new wr 115 [.int .i64 kk, .int .i64 TH] 1 2 1 rfl (Nat.le_refl _) (by decide)).news (fun u hu => by simp at hu; rcases hu with rfl | rfl <;> rfl)) (by unfold maxLen; omega) (by omega) (by have := HT9.out.2.2.2.1.size; simp; omega) ?_); intro v3 W3 hown3 hgrow3 hlie3; have hcA : Chg wr W3 (fun x => (Value.slice A2 i c2).ownBlock = some x) := ((Chg.refl wr _).alloc _).trans (Chg.of_grown hgrow3) (fun i _ h => h.symm); have hm4 := HT9.out.2.2.2.2.1.chg hcA (fun x hx e => by have h8 := (World.ownsRow.lt HT9.out.1 x e).1; have h9 := HM0.out x hx; omega) (fun x hx e => (HT9.out.2.2.2.2.2 x hx).2.2 e); have c3' := hm4.blk.cell 3 _ rfl; have c11' := hm4.blk.cell 11 _ rfl; (rw [HDI.out.2.1] at c11'); (rw [HDI.out.2.2.1] at c3'); have tr' := HVC.out _ hm4.rbk; have hmb4 := hm4.blk.lt; have hrb4 := hm4.rbk.lt; have H3 := Lib.hid (And.intro hown3 (And.intro hcA (And.intro hm4 hlie3))); clear hown3 hgrow3 hlie3 hcA hm4)
       obtain ⟨A3, c3, rfl⟩ := (Sho.own H3.out.1).form
       rw [HEQ.out.1, HEQ.out.2]
       refine (madd_any D2 mb tb rb _ (now + againZ d.retry TR) (kk : Int) (by have := HDI.out.1; omega) W3 ⟨r3, H3.out.2.2.1⟩).mono ?_
       rintro e W4 ⟨rfl, ⟨r4, hm5⟩, m2⟩
       have c11w : W4.cell? ⟨mb, 11, none⟩ = some (.slice (some ⟨rb, 0, none⟩) d.th.length d.th.length) := by rw [← HDI.out.2.1]; exact hm5.blk.cell 11 _ rfl
       have trw := HVC.out _ hm5.rbk
       have yrw := hm5.rbk.free kk
       have hrb5 := hm5.rbk.lt
       have hmb5 := hm5.blk.lt
       have hmbw : mb < w.heap.size := HM0.out mb (.inl rfl)
       have hrbw : rb < w.heap.size := HM0.out rb (.inr (.inr rfl))
       obtain ⟨hm6, hc6⟩ := hm5.tries kk (TR + 1) (by show kk < (mstN now d1 (ws.take i)).tr.length; rw [HDI.out.2.1]; exact hkn)
       have HN : Hid ((W4.setCell ⟨rb, kk, none⟩ (.int .i64 (TR + 1))).ownsRow w.heap.size 115 2 (.slice A3 (i + 1) c3) (i + 1) (reqCells (RQ.take (i + 1))) ∧ Sho (W4.setCell ⟨rb, kk, none⟩ (.int .i64 (TR + 1))) (.slice (some ⟨ga, oa, none⟩) n c) n 1 (intsV ws) ∧ (∀ x, (Value.slice (some ⟨ga, oa, none⟩) n c).ownBlock = some x → w.heap.size ≤ x ∧ x < (W4.setCell ⟨rb, kk, none⟩ (.int .i64 (TR + 1))).heap.size ∧ (Value.slice A3 (i + 1) c3).ownBlock ≠ some x) ∧ Chg w (W4.setCell ⟨rb, kk, none⟩ (.int .i64 (TR + 1))) (fun k => k = mb ∨ k = rb) ∧ ∃ D', MdAt D' (W4.setCell ⟨rb, kk, none⟩ (.int .i64 (TR + 1))) mb tb rb (mstN now d1 (ws.take (i + 1))) ∧ ∀ g, D' g → (D g ∨ Fresh w (W4.setCell ⟨rb, kk, none⟩ (.int .i64 (TR + 1))) g) ∧ (Value.slice (some ⟨ga, oa, none⟩) n c).ownBlock ≠ some g ∧ (Value.slice A3 (i + 1) c3).ownBlock ≠ some g) := Lib.hid (by
        obtain ⟨b1, b2, b3, b4, b5, b6⟩ := HT9.out
        obtain ⟨a1, a2, a3, a4⟩ := H3.out
        have z1 := b4.size
        have z2 := a2.size
        have z3 := m2.size
        have z4 := hc6.size
        have hlo := fun x hx => World.ownsRow.lt b1 x hx
        have hlo3 := fun x hx => World.ownsRow.lt a1 x hx
        have hv3 : ∀ x, x < wr.heap.size → (Value.slice A2 i c2).ownBlock ≠ some x → (Value.slice A3 (i + 1) c3).ownBlock ≠ some x := fun x hx hne => LieOf.ne a4 hne (by simp; omega)
        have eM : ({ mstN now d1 (ws.take i) with plans := insP (now + againZ d.retry TR) (kk : Int) (mstN now d1 (ws.take i)).plans, tr := (mstN now d1 (ws.take i)).tr.set kk (TR + 1) } : MdD) = mstN now d1 (ws.take (i + 1)) := by
         rw [HTK.out, HSN.out]
         unfold mst1
         rw [HTRE.out, Int.toNat_natCast, ← HDI.out.2.2.1]
        refine ⟨?_, ?_, fun x hx => ?_, ?_, fun g => D2 g ∨ Fresh W3 W4 g, ?_, fun g hg => ?_⟩
        ·rw [HRQ2.out, reqCells_append]
         have o1 : W3.ownsRow w.heap.size 115 2 (.slice A3 (i + 1) c3) (i + 1) (reqCells (RQ.take i) ++ reqCells [((kk : Int), d.th.getD ((kk : Int)).toNat 0)]) := by
          rw [HTHE.out]
          exact a1
         exact ownsRow_chg (ownsRow_chg o1 m2 (fun x hx e => by have := (hlo3 x hx).1; omega)) hc6 (fun x hx e => by have := (hlo3 x hx).1; omega)
        ·exact ((b2.chg a2 (fun x hx e => (b3 x hx).2.2 e)).chg m2 (fun x hx e => by have := (b3 x hx).1; omega)).chg hc6 (fun x hx e => by have := (b3 x hx).1; omega)
        ·obtain ⟨h1, h2, h3⟩ := b3 x hx
         exact ⟨h1, by omega, hv3 x h2 h3⟩
        ·exact ((b4.trans a2 (fun x hx e => by have := (hlo x e).1; omega)).trans m2 (fun x _ e => .inl e)).trans hc6 (fun x _ e => .inr e)
        ·rw [← eM]
         exact ⟨r4, hm6⟩
        ·rcases hg with hg | hg
         ·obtain ⟨h1, h2, h3⟩ := b6 g hg
          have hgs := (b5.dd g hg).2
          refine ⟨?_, h2, hv3 g hgs h3⟩
          rcases h1 with h1 | h1
          ·exact .inl h1
          ·exact .inr ⟨h1.1, by have := h1.2; omega⟩
         ·have h1 : W3.heap.size ≤ g := hg.1
          have h2 : g < W4.heap.size := hg.2
          refine ⟨.inr ⟨by omega, by omega⟩, fun e => by have := (b3 g e).2.1; omega, fun e => by have := (hlo3 g e).2; omega⟩)
       clear hm5 hm6 hc6 m2 H3 HT9
       go_wp2
       go_roundw
       case rel => exact ⟨i + 1, A3, c3, rfl, by go_num, by omega, HN⟩
       case measure => simp [intOf]; omega
     ·obtain rfl : i = n := by omega
      have HF := Lib.hid HI.out
      clear HI
      go_wp2
      go_ret
      obtain ⟨a1, a2, a3, a4, D2, a5, a6⟩ := HF.out
      have e1 : RQ.take i = RQ := List.take_of_length_le (by rw [HRL.out]; exact Nat.le_refl _)
      have e2 : ws.take i = ws := List.take_of_length_le (by rw [HWL.out]; exact Nat.le_refl _)
      rw [e1] at a1
      rw [e2, HST.out] at a5
      rw [HRQE.out, HSDE.out]
      exact ⟨_, rfl, by rw [HRL.out]; exact a1, ⟨D2, a5, fun g hg => (a6 g hg).1⟩, a4⟩
end Go.Proofs.YtlkgeifmppadmaaGreat
