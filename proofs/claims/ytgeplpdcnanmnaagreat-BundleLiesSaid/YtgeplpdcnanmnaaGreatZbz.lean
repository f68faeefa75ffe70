/- law20's known. Conditions: as each theorem states them. -/
import Derived.Test.YtgeplpdcnanmnaaGreatZby
import Derived.Test.YtgeplpdcnanmnaaGreatZbu
import Derived.Test.YtgeplpdcnanmnaaGreatZbo
import Derived.Test.YtgeplpdcnanmnaaGreatZbt
import Derived.Test.YtgeplpdcnanmnaaGreatZbf
import Derived.Test.YtgeplpdcnanmnaaGreatZaa
import Derived.Deep.DeepCutAuto
namespace Go.Proofs.YtgeplpdcnanmnaaGreat
open Go.RowKit
set_option linter.unusedVariables false
set_option linter.unusedSimpArgs false

theorem bdE_nil : bdE [] = 12 := by
 have h : bdB [] = false := bdB_bad 0 (Nat.zero_le _) (by decide)
 unfold bdE
 rw [h]
 rfl
set_option maxRecDepth 100000 in
set_option maxHeartbeats 8000000 in
theorem known20_any (w : World) : Calls Tryz.prog 17 #[] w fun e w' => e = .returned (.bool true) ∧ Below w.heap.size w w' := by
 have HO := Lib.hid (fun wz : World => owners_any 2 (by decide) wz)
 change Hid (∀ wz : World, Calls Tryz.prog 9 #[.int .i64 2] wz fun e w' => ∃ v, e = .returned v ∧ OwnersS (fun g => wz.heap.size ≤ g ∧ g < w'.heap.size) w' v 3 ∧ Below wz.heap.size wz w') at HO
 have HPO := Lib.hid (fun (wz : World) (S : Nat → Prop) (v : Value) (z1 : OwnersS S wz v 3) (z2 : ∀ g, S g → g < wz.heap.size) => lpolicy_any S 2 2 v (by decide) wz z1 z2)
 have HM1 := Lib.hid (fun (wz : World) (S : Nat → Prop) (v : Value) (z1 : OwnersS S wz v 3) (z2 : ∀ g, S g → g < wz.heap.size) => made_any S 2 (by decide) drB v wz z1 z2)
 change Hid (∀ (wz : World) (S : Nat → Prop) (v : Value), OwnersS S wz v 3 → (∀ g, S g → g < wz.heap.size) → Calls Tryz.prog 12 #[.agg #[.int .i64 5, .int .i64 2, .int .i64 2, .int .i64 0, .int .i64 0, .int .u8 0], v] wz fun e w' => ∃ u, e = .returned u ∧ BunV w' u (madeD drB 2) ∧ Below wz.heap.size wz w') at HM1
 have HM2 := Lib.hid (fun (wz : World) (S : Nat → Prop) (v : Value) (z1 : OwnersS S wz v 3) (z2 : ∀ g, S g → g < wz.heap.size) => made_any S 2 (by decide) drC v wz z1 z2)
 change Hid (∀ (wz : World) (S : Nat → Prop) (v : Value), OwnersS S wz v 3 → (∀ g, S g → g < wz.heap.size) → Calls Tryz.prog 12 #[.agg #[.int .i64 5, .int .i64 2, .int .i64 1, .int .i64 6, .int .i64 0, .int .u8 0], v] wz fun e w' => ∃ u, e = .returned u ∧ BunV w' u (madeD drC 2) ∧ Below wz.heap.size wz w') at HM2
 have HC1 := Lib.hid (fun (wz : World) (vp vb : Value) (z1 : PolV wz vp (polS 2 2)) (z2 : BunV wz vb (madeD drB 2)) => bcheck_any vp vb (polS 2 2) (madeD drB 2) (pol_small 2 2 (by decide) (by decide) (by decide)) (small_made drB 2 (by decide)) wz z1 z2)
 rw [known_b] at HC1
 have HC2 := Lib.hid (fun (wz : World) (vp vb : Value) (z1 : PolV wz vp (polS 2 2)) (z2 : BunV wz vb (madeD drC 2)) => bcheck_any vp vb (polS 2 2) (madeD drC 2) (pol_small 2 2 (by decide) (by decide) (by decide)) (small_made drC 2 (by decide)) wz z1 z2)
 rw [known_c] at HC2
 have HDC := Lib.hid (fun (wz : World) => bdec_any (.slice none 0 0) [] (by decide) wz (Sho.nil wz 1))
 rw [bdE_nil] at HDC
 generalize madeD drB 2 = B1 at *
 generalize madeD drC 2 = B2 at *
 generalize polS 2 2 = P at *
 generalize bdV [] = B3 at *
 go_enter Tryz.func17, Tryz.ntmps17
 go_wp2_with fail
 refine (HO.out _).mono ?_
 rintro e w1 ⟨v1, rfl, h1, h2⟩
 obtain ⟨A, c, rfl⟩ := h1.form
 have H1 := Lib.hid (And.intro h1 h2)
 clear h1 h2
 go_wp2_with fail
 refine (HM1.out _ _ _ H1.out.1 (fun g hg => hg.2)).mono ?_
 rintro e w2 ⟨v2, rfl, h1, h2⟩
 obtain ⟨m, p, r, q, s, c1, rfl, g1, g2, g3, g4, g5, g6⟩ := h1
 obtain ⟨M1, cm1, rfl⟩ := g1.form
 obtain ⟨P1, cp1, rfl⟩ := g2.form
 obtain ⟨R1, cr1, rfl⟩ := g3.form
 obtain ⟨Q1, cq1, rfl⟩ := g4.form
 obtain ⟨S1, cs1, rfl⟩ := g5.form
 obtain ⟨C1, cc1, rfl⟩ := g6.form
 have H2 : Hid (BunX w2 (.slice M1 B1.man.length cm1) (.slice P1 B1.prf.path.length cp1) (.slice R1 B1.sg.ck.root.length cr1) (.slice Q1 B1.sg.sig.parts.length cq1) (.slice S1 B1.sg.sig.path.length cs1) (.slice C1 B1.cos.length cc1) B1 ∧ OwnersS (fun g => w.heap.size ≤ g ∧ g < w1.heap.size) w2 (.slice A 3 c) 3 ∧ Below w.heap.size w w2 ∧ w1.heap.size ≤ w2.heap.size) := Lib.hid ⟨⟨g1, g2, g3, g4, g5, g6⟩, H1.out.1.below h2, H1.out.2.trans (h2.mono H1.out.2.size), h2.size⟩
 clear g1 g2 g3 g4 g5 g6 h2
 go_wp2_with fail
 refine calls_at (fun w3 => Blk w3 w2.heap.size 42 [.slice M1 B1.man.length cm1, .int .i64 B1.prf.index, .int .i64 B1.prf.size, .slice P1 B1.prf.path.length cp1, .int .i64 B1.sg.ck.num, .slice R1 B1.sg.ck.root.length cr1, .int .i64 B1.sg.sig.index, .slice Q1 B1.sg.sig.parts.length cq1, .slice S1 B1.sg.sig.path.length cs1, .slice C1 B1.cos.length cc1] ∧ Below w2.heap.size w2 w3) ⟨Blk.new w2 42 [.slice M1 B1.man.length cm1, .int .i64 B1.prf.index, .int .i64 B1.prf.size, .slice P1 B1.prf.path.length cp1, .int .i64 B1.sg.ck.num, .slice R1 B1.sg.ck.root.length cr1, .int .i64 B1.sg.sig.index, .slice Q1 B1.sg.sig.parts.length cq1, .slice S1 B1.sg.sig.path.length cs1, .slice C1 B1.cos.length cc1], (Below.refl _ _).alloc (Nat.le_refl _) _⟩ ?_
 rintro w3 ⟨kb, h2⟩
 have H3 : Hid (BunX w3 (.slice M1 B1.man.length cm1) (.slice P1 B1.prf.path.length cp1) (.slice R1 B1.sg.ck.root.length cr1) (.slice Q1 B1.sg.sig.parts.length cq1) (.slice S1 B1.sg.sig.path.length cs1) (.slice C1 B1.cos.length cc1) B1 ∧ OwnersS (fun g => w.heap.size ≤ g ∧ g < w1.heap.size) w3 (.slice A 3 c) 3 ∧ Below w.heap.size w w3 ∧ w1.heap.size ≤ w3.heap.size ∧ Blk w3 w2.heap.size 42 [.slice M1 B1.man.length cm1, .int .i64 B1.prf.index, .int .i64 B1.prf.size, .slice P1 B1.prf.path.length cp1, .int .i64 B1.sg.ck.num, .slice R1 B1.sg.ck.root.length cr1, .int .i64 B1.sg.sig.index, .slice Q1 B1.sg.sig.parts.length cq1, .slice S1 B1.sg.sig.path.length cs1, .slice C1 B1.cos.length cc1]) := Lib.hid ⟨H2.out.1.below h2, H2.out.2.1.below h2, H2.out.2.2.1.trans (h2.mono H2.out.2.2.1.size), Nat.le_trans H2.out.2.2.2 h2.size, kb⟩
 clear kb h2 H2
 refine (HM2.out _ _ _ H3.out.2.1 (fun g hg => Nat.lt_of_lt_of_le hg.2 H3.out.2.2.2.1)).mono ?_
 rintro e w4 ⟨v4, rfl, h1, h2⟩
 obtain ⟨m, p, r, q, s, c1, rfl, g1, g2, g3, g4, g5, g6⟩ := h1
 obtain ⟨M2, cm2, rfl⟩ := g1.form
 obtain ⟨P2, cp2, rfl⟩ := g2.form
 obtain ⟨R2, cr2, rfl⟩ := g3.form
 obtain ⟨Q2, cq2, rfl⟩ := g4.form
 obtain ⟨S2, cs2, rfl⟩ := g5.form
 obtain ⟨C2, cc2, rfl⟩ := g6.form
 have H4 : Hid (BunX w4 (.slice M2 B2.man.length cm2) (.slice P2 B2.prf.path.length cp2) (.slice R2 B2.sg.ck.root.length cr2) (.slice Q2 B2.sg.sig.parts.length cq2) (.slice S2 B2.sg.sig.path.length cs2) (.slice C2 B2.cos.length cc2) B2 ∧ BunX w4 (.slice M1 B1.man.length cm1) (.slice P1 B1.prf.path.length cp1) (.slice R1 B1.sg.ck.root.length cr1) (.slice Q1 B1.sg.sig.parts.length cq1) (.slice S1 B1.sg.sig.path.length cs1) (.slice C1 B1.cos.length cc1) B1 ∧ OwnersS (fun g => w.heap.size ≤ g ∧ g < w1.heap.size) w4 (.slice A 3 c) 3 ∧ Below w.heap.size w w4 ∧ w1.heap.size ≤ w4.heap.size ∧ Blk w4 w2.heap.size 42 [.slice M1 B1.man.length cm1, .int .i64 B1.prf.index, .int .i64 B1.prf.size, .slice P1 B1.prf.path.length cp1, .int .i64 B1.sg.ck.num, .slice R1 B1.sg.ck.root.length cr1, .int .i64 B1.sg.sig.index, .slice Q1 B1.sg.sig.parts.length cq1, .slice S1 B1.sg.sig.path.length cs1, .slice C1 B1.cos.length cc1]) := Lib.hid ⟨⟨g1, g2, g3, g4, g5, g6⟩, H3.out.1.below h2, H3.out.2.1.below h2, H3.out.2.2.1.trans (h2.mono H3.out.2.2.1.size), Nat.le_trans H3.out.2.2.2.1 h2.size, H3.out.2.2.2.2.below h2⟩
 clear g1 g2 g3 g4 g5 g6 h2 H3
 go_wp2_with fail
 refine calls_at (fun w5 => Blk w5 w4.heap.size 42 [.slice M2 B2.man.length cm2, .int .i64 B2.prf.index, .int .i64 B2.prf.size, .slice P2 B2.prf.path.length cp2, .int .i64 B2.sg.ck.num, .slice R2 B2.sg.ck.root.length cr2, .int .i64 B2.sg.sig.index, .slice Q2 B2.sg.sig.parts.length cq2, .slice S2 B2.sg.sig.path.length cs2, .slice C2 B2.cos.length cc2] ∧ Below w4.heap.size w4 w5) ⟨Blk.new w4 42 [.slice M2 B2.man.length cm2, .int .i64 B2.prf.index, .int .i64 B2.prf.size, .slice P2 B2.prf.path.length cp2, .int .i64 B2.sg.ck.num, .slice R2 B2.sg.ck.root.length cr2, .int .i64 B2.sg.sig.index, .slice Q2 B2.sg.sig.parts.length cq2, .slice S2 B2.sg.sig.path.length cs2, .slice C2 B2.cos.length cc2], (Below.refl _ _).alloc (Nat.le_refl _) _⟩ ?_
 rintro w5 ⟨kb, h2⟩
 have H5 : Hid (BunX w5 (.slice M2 B2.man.length cm2) (.slice P2 B2.prf.path.length cp2) (.slice R2 B2.sg.ck.root.length cr2) (.slice Q2 B2.sg.sig.parts.length cq2) (.slice S2 B2.sg.sig.path.length cs2) (.slice C2 B2.cos.length cc2) B2 ∧ BunX w5 (.slice M1 B1.man.length cm1) (.slice P1 B1.prf.path.length cp1) (.slice R1 B1.sg.ck.root.length cr1) (.slice Q1 B1.sg.sig.parts.length cq1) (.slice S1 B1.sg.sig.path.length cs1) (.slice C1 B1.cos.length cc1) B1 ∧ OwnersS (fun g => w.heap.size ≤ g ∧ g < w1.heap.size) w5 (.slice A 3 c) 3 ∧ Below w.heap.size w w5 ∧ w1.heap.size ≤ w5.heap.size ∧ Blk w5 w2.heap.size 42 [.slice M1 B1.man.length cm1, .int .i64 B1.prf.index, .int .i64 B1.prf.size, .slice P1 B1.prf.path.length cp1, .int .i64 B1.sg.ck.num, .slice R1 B1.sg.ck.root.length cr1, .int .i64 B1.sg.sig.index, .slice Q1 B1.sg.sig.parts.length cq1, .slice S1 B1.sg.sig.path.length cs1, .slice C1 B1.cos.length cc1] ∧ Blk w5 w4.heap.size 42 [.slice M2 B2.man.length cm2, .int .i64 B2.prf.index, .int .i64 B2.prf.size, .slice P2 B2.prf.path.length cp2, .int .i64 B2.sg.ck.num, .slice R2 B2.sg.ck.root.length cr2, .int .i64 B2.sg.sig.index, .slice Q2 B2.sg.sig.parts.length cq2, .slice S2 B2.sg.sig.path.length cs2, .slice C2 B2.cos.length cc2]) := Lib.hid ⟨H4.out.1.below h2, H4.out.2.1.below h2, H4.out.2.2.1.below h2, H4.out.2.2.2.1.trans (h2.mono H4.out.2.2.2.1.size), Nat.le_trans H4.out.2.2.2.2.1 h2.size, H4.out.2.2.2.2.2.below h2, kb⟩
 clear kb h2 H4
 refine (HDC.out _).mono ?_
 rintro e w6 ⟨v6, rfl, h1, h2⟩
 obtain ⟨m, p, r, q, s, c1, rfl, g1, g2, g3, g4, g5, g6⟩ := h1
 obtain ⟨M3, cm3, rfl⟩ := g1.form
 obtain ⟨P3, cp3, rfl⟩ := g2.form
 obtain ⟨R3, cr3, rfl⟩ := g3.form
 obtain ⟨Q3, cq3, rfl⟩ := g4.form
 obtain ⟨S3, cs3, rfl⟩ := g5.form
 obtain ⟨C3, cc3, rfl⟩ := g6.form
 clear g1 g2 g3 g4 g5 g6
 have h3 := h2.alloc h2.size (.cells #[.slice M3 B3.man.length cm3, .int .i64 B3.prf.index, .int .i64 B3.prf.size, .slice P3 B3.prf.path.length cp3, .int .i64 B3.sg.ck.num, .slice R3 B3.sg.ck.root.length cr3, .int .i64 B3.sg.sig.index, .slice Q3 B3.sg.sig.parts.length cq3, .slice S3 B3.sg.sig.path.length cs3, .slice C3 B3.cos.length cc3] 42)
 have H6 : Hid (Below w5.heap.size w5 (w6.alloc (.cells #[.slice M3 B3.man.length cm3, .int .i64 B3.prf.index, .int .i64 B3.prf.size, .slice P3 B3.prf.path.length cp3, .int .i64 B3.sg.ck.num, .slice R3 B3.sg.ck.root.length cr3, .int .i64 B3.sg.sig.index, .slice Q3 B3.sg.sig.parts.length cq3, .slice S3 B3.sg.sig.path.length cs3, .slice C3 B3.cos.length cc3] 42))) := Lib.hid h3
 clear h2 h3
 go_upto_region 5 with fail
 refine code_at (fun w7 => Below w5.heap.size w5 w7) H6.out ?_
 rintro w7 hb7
 have HS : Hid (Below w5.heap.size w5 w7.drew) := Lib.hid hb7.drew
 have HCW : Hid (∀ W, Below w5.heap.size w5 W → W.cell? ⟨w2.heap.size, 0, none⟩ = some (.slice M1 B1.man.length cm1) ∧ W.cell? ⟨w2.heap.size, 1, none⟩ = some (.int .i64 B1.prf.index) ∧ W.cell? ⟨w2.heap.size, 2, none⟩ = some (.int .i64 B1.prf.size) ∧ W.cell? ⟨w2.heap.size, 3, none⟩ = some (.slice P1 B1.prf.path.length cp1) ∧ W.cell? ⟨w2.heap.size, 4, none⟩ = some (.int .i64 B1.sg.ck.num) ∧ W.cell? ⟨w2.heap.size, 5, none⟩ = some (.slice R1 B1.sg.ck.root.length cr1) ∧ W.cell? ⟨w2.heap.size, 6, none⟩ = some (.int .i64 B1.sg.sig.index) ∧ W.cell? ⟨w2.heap.size, 7, none⟩ = some (.slice Q1 B1.sg.sig.parts.length cq1) ∧ W.cell? ⟨w2.heap.size, 8, none⟩ = some (.slice S1 B1.sg.sig.path.length cs1) ∧ W.cell? ⟨w2.heap.size, 9, none⟩ = some (.slice C1 B1.cos.length cc1) ∧ W.cell? ⟨w4.heap.size, 0, none⟩ = some (.slice M2 B2.man.length cm2) ∧ W.cell? ⟨w4.heap.size, 1, none⟩ = some (.int .i64 B2.prf.index) ∧ W.cell? ⟨w4.heap.size, 2, none⟩ = some (.int .i64 B2.prf.size) ∧ W.cell? ⟨w4.heap.size, 3, none⟩ = some (.slice P2 B2.prf.path.length cp2) ∧ W.cell? ⟨w4.heap.size, 4, none⟩ = some (.int .i64 B2.sg.ck.num) ∧ W.cell? ⟨w4.heap.size, 5, none⟩ = some (.slice R2 B2.sg.ck.root.length cr2) ∧ W.cell? ⟨w4.heap.size, 6, none⟩ = some (.int .i64 B2.sg.sig.index) ∧ W.cell? ⟨w4.heap.size, 7, none⟩ = some (.slice Q2 B2.sg.sig.parts.length cq2) ∧ W.cell? ⟨w4.heap.size, 8, none⟩ = some (.slice S2 B2.sg.sig.path.length cs2) ∧ W.cell? ⟨w4.heap.size, 9, none⟩ = some (.slice C2 B2.cos.length cc2)) := Lib.hid (fun W hW => ⟨(H5.out.2.2.2.2.2.1.below hW).cell 0 _ rfl, (H5.out.2.2.2.2.2.1.below hW).cell 1 _ rfl, (H5.out.2.2.2.2.2.1.below hW).cell 2 _ rfl, (H5.out.2.2.2.2.2.1.below hW).cell 3 _ rfl, (H5.out.2.2.2.2.2.1.below hW).cell 4 _ rfl, (H5.out.2.2.2.2.2.1.below hW).cell 5 _ rfl, (H5.out.2.2.2.2.2.1.below hW).cell 6 _ rfl, (H5.out.2.2.2.2.2.1.below hW).cell 7 _ rfl, (H5.out.2.2.2.2.2.1.below hW).cell 8 _ rfl, (H5.out.2.2.2.2.2.1.below hW).cell 9 _ rfl, (H5.out.2.2.2.2.2.2.below hW).cell 0 _ rfl, (H5.out.2.2.2.2.2.2.below hW).cell 1 _ rfl, (H5.out.2.2.2.2.2.2.below hW).cell 2 _ rfl, (H5.out.2.2.2.2.2.2.below hW).cell 3 _ rfl, (H5.out.2.2.2.2.2.2.below hW).cell 4 _ rfl, (H5.out.2.2.2.2.2.2.below hW).cell 5 _ rfl, (H5.out.2.2.2.2.2.2.below hW).cell 6 _ rfl, (H5.out.2.2.2.2.2.2.below hW).cell 7 _ rfl, (H5.out.2.2.2.2.2.2.below hW).cell 8 _ rfl, (H5.out.2.2.2.2.2.2.below hW).cell 9 _ rfl⟩)
 clear hb7 H6
 refine wp_region_held_drew (S := fun w' => w'.cell? ⟨w2.heap.size, 0, none⟩ = some (.slice M1 B1.man.length cm1) ∧ w'.cell? ⟨w2.heap.size, 1, none⟩ = some (.int .i64 B1.prf.index) ∧ w'.cell? ⟨w2.heap.size, 2, none⟩ = some (.int .i64 B1.prf.size) ∧ w'.cell? ⟨w2.heap.size, 3, none⟩ = some (.slice P1 B1.prf.path.length cp1) ∧ w'.cell? ⟨w2.heap.size, 4, none⟩ = some (.int .i64 B1.sg.ck.num) ∧ w'.cell? ⟨w2.heap.size, 5, none⟩ = some (.slice R1 B1.sg.ck.root.length cr1) ∧ w'.cell? ⟨w2.heap.size, 6, none⟩ = some (.int .i64 B1.sg.sig.index) ∧ w'.cell? ⟨w2.heap.size, 7, none⟩ = some (.slice Q1 B1.sg.sig.parts.length cq1) ∧ w'.cell? ⟨w2.heap.size, 8, none⟩ = some (.slice S1 B1.sg.sig.path.length cs1) ∧ w'.cell? ⟨w2.heap.size, 9, none⟩ = some (.slice C1 B1.cos.length cc1) ∧ w'.cell? ⟨w4.heap.size, 0, none⟩ = some (.slice M2 B2.man.length cm2) ∧ w'.cell? ⟨w4.heap.size, 1, none⟩ = some (.int .i64 B2.prf.index) ∧ w'.cell? ⟨w4.heap.size, 2, none⟩ = some (.int .i64 B2.prf.size) ∧ w'.cell? ⟨w4.heap.size, 3, none⟩ = some (.slice P2 B2.prf.path.length cp2) ∧ w'.cell? ⟨w4.heap.size, 4, none⟩ = some (.int .i64 B2.sg.ck.num) ∧ w'.cell? ⟨w4.heap.size, 5, none⟩ = some (.slice R2 B2.sg.ck.root.length cr2) ∧ w'.cell? ⟨w4.heap.size, 6, none⟩ = some (.int .i64 B2.sg.sig.index) ∧ w'.cell? ⟨w4.heap.size, 7, none⟩ = some (.slice Q2 B2.sg.sig.parts.length cq2) ∧ w'.cell? ⟨w4.heap.size, 8, none⟩ = some (.slice S2 B2.sg.sig.path.length cs2) ∧ w'.cell? ⟨w4.heap.size, 9, none⟩ = some (.slice C2 B2.cos.length cc2)) (by kernel_rfl) (HCW.out _ HS.out) (fun hHeld => ?_)
 generalize w7.drew = wr at *
 refine ty 0 17 rfl rfl ?_; simp only [sa, sb, sc]
 refine ty 2 19 rfl rfl ?_; simp only [sa, sb, sc]
 refine rd 1 (by kernel_rfl) rfl (fun K hK => ?_)
 go_simp
 go_at_call 11
 refine (HPO.out _ _ _ (H5.out.2.2.1.below HS.out) (fun g hg => Nat.lt_of_lt_of_le hg.2 (Nat.le_trans H5.out.2.2.2.2.1 HS.out.size))).mono ?_
 rintro e W1 ⟨v9, rfl, h1, h2⟩
 obtain ⟨lp1, wp1, rfl, k1, k2⟩ := h1
 obtain ⟨AL1, cl1, rfl⟩ := k1.form
 obtain ⟨AW1, cw1, rfl⟩ := k2.form
 have HP := Lib.hid (And.intro k1 k2)
 replace HS := Lib.hid (HS.out.trans (h2.mono HS.out.size))
 clear h2 k1 k2
 try dsimp only
 refine hK.out _ _ (HCW.out _ HS.out) (fun hHeld1 => ?_)
 clear hK K; try simp only [Act.put, sa, sb, sc]
 refine rd 3 (by kernel_rfl) rfl (fun K hK => ?_)
 go_simp
 go_at_call 16
 refine (HC1.out _ _ _ ⟨_, _, rfl, HP.out.1, HP.out.2⟩ ⟨_, _, _, _, _, _, rfl, H5.out.2.1.below HS.out⟩).mono ?_
 rintro e W1_3 ⟨rfl, h2⟩
 replace HS := Lib.hid (HS.out.trans (h2.mono HS.out.size))
 clear h2 HP
 try dsimp only
 refine hK.out _ _ (HCW.out _ HS.out) (fun hHeld3 => ?_)
 clear hK K; try simp only [Act.put, sa, sb, sc]
 refine ty 4 21 rfl rfl ?_; simp only [sa, sb, sc]
 refine ty 5 22 rfl rfl ?_; simp only [sa, sb, sc]
 refine ty 6 23 rfl rfl ?_; simp only [sa, sb, sc]
 refine ty 8 25 rfl rfl ?_; simp only [sa, sb, sc]
 refine rd 7 (by kernel_rfl) rfl (fun K hK => ?_)
 go_simp
 go_at_call 11
 refine (HPO.out _ _ _ (H5.out.2.2.1.below HS.out) (fun g hg => Nat.lt_of_lt_of_le hg.2 (Nat.le_trans H5.out.2.2.2.2.1 HS.out.size))).mono ?_
 rintro e W1_3_7 ⟨v9, rfl, h1, h2⟩
 obtain ⟨lp7, wp7, rfl, k1, k2⟩ := h1
 obtain ⟨AL7, cl7, rfl⟩ := k1.form
 obtain ⟨AW7, cw7, rfl⟩ := k2.form
 have HP := Lib.hid (And.intro k1 k2)
 replace HS := Lib.hid (HS.out.trans (h2.mono HS.out.size))
 clear h2 k1 k2
 try dsimp only
 refine hK.out _ _ (HCW.out _ HS.out) (fun hHeld7 => ?_)
 clear hK K; try simp only [Act.put, sa, sb, sc]
 refine rd 9 (by kernel_rfl) rfl (fun K hK => ?_)
 go_simp
 go_at_call 16
 refine (HC2.out _ _ _ ⟨_, _, rfl, HP.out.1, HP.out.2⟩ ⟨_, _, _, _, _, _, rfl, H5.out.1.below HS.out⟩).mono ?_
 rintro e W1_3_7_9 ⟨rfl, h2⟩
 replace HS := Lib.hid (HS.out.trans (h2.mono HS.out.size))
 clear h2 HP
 try dsimp only
 refine hK.out _ _ (HCW.out _ HS.out) (fun hHeld9 => ?_)
 clear hK K; try simp only [Act.put, sa, sb, sc]
 refine ty 10 27 rfl rfl ?_; simp only [sa, sb, sc]
 refine ty 11 28 rfl rfl ?_; simp only [sa, sb, sc]
 refine ty 12 29 rfl rfl ?_; simp only [sa, sb, sc]
 refine ty 13 30 rfl rfl ?_; simp only [sa, sb, sc]
 refine ty 14 31 rfl rfl ?_; simp only [sa, sb, sc]
 refine ty 15 32 rfl rfl ?_; simp only [sa, sb, sc]
 refine ty 16 0 rfl rfl ?_; simp only [sa, sb, sc]
 refine wpAnyH_done (by kernel_rfl) ?_ _
 clear hHeld
 go_wp2
 go_ret
 exact ⟨rfl, H5.out.2.2.2.1.trans (HS.out.mono H5.out.2.2.2.1.size)⟩
end Go.Proofs.YtgeplpdcnanmnaaGreat
