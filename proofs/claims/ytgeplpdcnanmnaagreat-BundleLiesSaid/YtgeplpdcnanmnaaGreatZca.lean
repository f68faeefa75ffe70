/- BundleLies, walked. Conditions: as each theorem states them. -/
import Derived.Test.YtgeplpdcnanmnaaGreatZbz
import Derived.Test.YtgeplpdcnanmnaaGreatZbw
import Derived.Test.YtgeplpdcnanmnaaGreatZbl
import Derived.Test.YtgeplpdcnanmnaaGreatZav
import Derived.Test.YtgeplpdcnanmnaaGreatZbn
import Derived.Deep.CutBlock
namespace Go.Proofs.YtgeplpdcnanmnaaGreat
open Go.RowKit
set_option linter.unusedVariables false
set_option linter.unusedSimpArgs false

theorem CgsV.cut {w : World} {v : Value} {gs : List CgD} (h : CgsV w v gs) : CgsF (fun g => g < w.heap.size) w v gs := by
 obtain ⟨us, h1, h2⟩ := h
 exact ⟨us, h1, fun h0 g hg => h1.lt h0 g hg, h2.cut.mono (fun g hg => hg.2)⟩
def LiT (w5 wc : World) (bb : Nat) : Prop := Chg w5 wc (fun k => k = bb) ∧ ∃ (b : BunD) (m p r q s c : Value), SmallBun b ∧ Blk wc bb 42 [m, .int .i64 b.prf.index, .int .i64 b.prf.size, p, .int .i64 b.sg.ck.num, r, .int .i64 b.sg.sig.index, q, s, c] ∧ BunF (fun g => g ≠ bb) wc m p r q s c b
theorem LiT.man {w5 wc w6 : World} {bb : Nat} {b : BunD} {m p r q s c u : Value} {l : List UInt8} (h1 : Chg w5 wc (fun k => k = bb)) (hs : SmallBun b) (hk : Blk wc bb 42 [m, .int .i64 b.prf.index, .int .i64 b.prf.size, p, .int .i64 b.sg.ck.num, r, .int .i64 b.sg.sig.index, q, s, c]) (hF : BunF (fun g => g ≠ bb) wc m p r q s c b) (hb : Below wc.heap.size wc w6) (hu : BysF (fun g => g ≠ bb) w6 u l) (hl : l.length ≤ 1000000000) :
  LiT w5 (w6.setCell ⟨bb, 0, none⟩ u) bb := by
 have hst : Chg w6 (w6.setCell ⟨bb, 0, none⟩ u) (fun k => k = bb) := chg_cell (Chg.refl _ _) 0 u
 have hF6 := hF.below hb
 refine ⟨(h1.trans (Chg.of_below (S := fun k => k = bb) hb) (fun _ _ h => h)).trans hst (fun _ _ h => h), { b with man := l }, u, p, r, q, s, c, { hs with man := hl }, (hk.below hb).set 0 u (by simp), hu.chg hst (fun g hg e => hg e), hF6.2.1.chg hst (fun g hg e => hg e), hF6.2.2.1.chg hst (fun g hg e => hg e), hF6.2.2.2.1.chg hst (fun g hg e => hg e), hF6.2.2.2.2.1.chg hst (fun g hg e => hg e), hF6.2.2.2.2.2.chg hst (fun g hg e => hg e)⟩
theorem LiT.path {w5 wc w6 : World} {bb : Nat} {b : BunD} {m p r q s c u : Value} {ls : List (List UInt8)} (h1 : Chg w5 wc (fun k => k = bb)) (hs : SmallBun b) (hk : Blk wc bb 42 [m, .int .i64 b.prf.index, .int .i64 b.prf.size, p, .int .i64 b.sg.ck.num, r, .int .i64 b.sg.sig.index, q, s, c]) (hF : BunF (fun g => g ≠ bb) wc m p r q s c b) (hb : Below wc.heap.size wc w6) (hu : RwsF (fun g => g ≠ bb) w6 u ls) (hl : ls.length ≤ 1000000000) (hx : ∀ x ∈ ls, x.length ≤ 1000000) :
  LiT w5 (w6.setCell ⟨bb, 3, none⟩ u) bb := by
 have hst : Chg w6 (w6.setCell ⟨bb, 3, none⟩ u) (fun k => k = bb) := chg_cell (Chg.refl _ _) 3 u
 have hF6 := hF.below hb
 refine ⟨(h1.trans (Chg.of_below (S := fun k => k = bb) hb) (fun _ _ h => h)).trans hst (fun _ _ h => h), { b with prf := { b.prf with path := ls } }, m, u, r, q, s, c, { hs with path := hl, paths := hx }, (hk.below hb).set 3 u (by simp), hF6.1.chg hst (fun g hg e => hg e), hu.chg hst (fun g hg e => hg e), hF6.2.2.1.chg hst (fun g hg e => hg e), hF6.2.2.2.1.chg hst (fun g hg e => hg e), hF6.2.2.2.2.1.chg hst (fun g hg e => hg e), hF6.2.2.2.2.2.chg hst (fun g hg e => hg e)⟩
theorem let_by {P : PolD} {b : BunD} (h : bchk P b = 0) : decB b.man = true ∧ ckVerB P.log b.sg = true ∧ b.prf.size = b.sg.ck.num ∧ leadB b.prf (leafH b.man) = true ∧ leadQ b.prf (leafH b.man) = b.sg.ck.root ∧ P.quorum ≤ (cntN P b : Int) := by
 obtain ⟨_, h2, h3, h4, h5⟩ := bchk_zero.1 h
 unfold prfOk prfB at h4
 simp only [Bool.and_eq_true, decide_eq_true_eq, beq_iff_eq] at h4
 refine ⟨h2, h3, h4.1, h4.2.1, ?_, h5⟩
 unfold leadQ
 rw [if_pos h4.2.1]
 exact h4.2.2
set_option maxRecDepth 100000 in
set_option maxHeartbeats 1500000 in
theorem lies_any (x : DrD) (n qu : Int) (ov : Value) (other : List UInt8) (a v : Int) (w : World) (hov : Bys w ov other) : Calls Tryz.prog 3 #[.agg #[.int .i64 x.leaves, .int .i64 x.leaf, .int .i64 x.cosigs, .int .i64 x.wrong, .int .i64 x.at', .int .u8 x.turn.toNat], .int .i64 n, .int .i64 qu, ov, .int .i64 a, .int .i64 v] w fun e w' => e = .returned (.bool true) ∧ Below w.heap.size w w' := by
 obtain ⟨O, oc, rfl⟩ := hov.form
 have HOV := Lib.hid hov
 clear hov
 have HW := Lib.hid (fun wz : World => within_any n 1 3 (by omega) (by omega) (by omega) wz)
 have hK0 := withinZ_ge n 1 3 (by omega)
 generalize withinZ n 1 3 = KZ at *
 obtain ⟨k, rfl⟩ := Int.eq_ofNat_of_zero_le (show 0 ≤ KZ by omega)
 have hk1 : 1 ≤ k := by omega
 have hk3 : k ≤ 3 := by omega
 clear hK0
 have HWQ := Lib.hid (fun wz : World => within_any qu 1 (k : Int) (by omega) (by omega) (by omega) wz)
 have hQ0 := withinZ_ge qu 1 (k : Int) (by omega)
 generalize withinZ qu 1 (k : Int) = Q at *
 obtain ⟨hq1, hq2⟩ := hQ0
 have HO := Lib.hid (fun wz : World => owners_any k (by omega) wz)
 have HPO := Lib.hid (fun (wz : World) (S : Nat → Prop) (v : Value) (z1 : OwnersS S wz v (k + 1)) (z2 : ∀ g, S g → g < wz.heap.size) => lpolicy_any S k Q v (by omega) wz z1 z2)
 have HM1 := Lib.hid (fun (wz : World) (S : Nat → Prop) (v : Value) (z1 : OwnersS S wz v (k + 1)) (z2 : ∀ g, S g → g < wz.heap.size) => made_any S k (by omega) x v wz z1 z2)
 have HSP := Lib.hid (pol_small k Q (by omega) hq1 (by omega))
 have HSB := Lib.hid (small_made x k (by omega))
 have HPQ : Hid ((polS k Q).quorum = Q) := Lib.hid rfl
 have HC1 := Lib.hid (fun (b : BunD) (hb : SmallBun b) (wz : World) (vp vb : Value) (z1 : PolV wz vp (polS k Q)) (z2 : BunV wz vb b) => bcheck_any vp vb (polS k Q) b HSP.out hb wz z1 z2)
 have HKN := Lib.hid (fun wz : World => known20_any wz)
 have HIT := Lib.hid (fun wz : World => item_any a v 1 (by omega) (by omega) wz)
 have HIL := Lib.hid (itemI_length a v 1)
 generalize itemI a v 1 = IT at *
 generalize madeD x k = B1 at *
 generalize polS k Q = P at *
 go_enter Tryz.func3, Tryz.ntmps3
 go_wp2_with fail
 refine calls_at (fun w0 => Blk w0 w.heap.size 23 [.int .i64 x.leaves, .int .i64 x.leaf, .int .i64 x.cosigs, .int .i64 x.wrong, .int .i64 x.at', .int .u8 x.turn.toNat] ∧ Below w.heap.size w w0) ⟨Blk.new w 23 [.int .i64 x.leaves, .int .i64 x.leaf, .int .i64 x.cosigs, .int .i64 x.wrong, .int .i64 x.at', .int .u8 x.turn.toNat], (Below.refl _ _).alloc (Nat.le_refl _) _⟩ ?_
 rintro w0 ⟨kx, hb0⟩
 have H0 := Lib.hid (And.intro kx hb0)
 clear kx hb0
 refine (HW.out _).mono ?_
 rintro e w' ⟨rfl, rfl⟩
 go_wp2_with fail
 refine (HO.out _).mono ?_
 rintro e w1 ⟨v1, rfl, h1, h2⟩
 obtain ⟨A, c, rfl⟩ := h1.form
 have H1 := Lib.hid (And.intro h1 (And.intro (H0.out.2.trans (h2.mono H0.out.2.size)) (H0.out.1.below h2)))
 clear h1 h2
 go_wp2_with fail
 refine (HWQ.out _).mono ?_
 rintro e w' ⟨rfl, rfl⟩
 go_wp2_with fail
 refine (HPO.out _ _ _ H1.out.1 (fun g hg => hg.2)).mono ?_
 rintro e w2 ⟨v2, rfl, h1, h2⟩
 obtain ⟨lp, wp, rfl, k1, k2⟩ := h1
 obtain ⟨AL, cl, rfl⟩ := k1.form
 obtain ⟨AW, cw, rfl⟩ := k2.form
 have H2 := Lib.hid (And.intro k1 (And.intro k2 (And.intro (H1.out.1.below h2) (And.intro (H1.out.2.1.trans (h2.mono H1.out.2.1.size)) (And.intro (H1.out.2.2.below h2) h2.size)))))
 clear k1 k2 h2
 go_upto_region 4 with fail
 refine code_at (fun w3 => Blk w3 w2.heap.size 30 [.slice AL P.log.length cl, .slice AW P.wits.length cw, .int .i64 P.quorum] ∧ Below w2.heap.size w2 w3) ⟨Blk.new w2 30 [.slice AL P.log.length cl, .slice AW P.wits.length cw, .int .i64 P.quorum], (Below.refl _ _).alloc (Nat.le_refl _) _⟩ ?_
 rintro w3 ⟨kp, h2⟩
 have hx3 := H2.out.2.2.2.2.1.below h2
 have x0 := hx3.cell 0 _ rfl
 have x1 := hx3.cell 1 _ rfl
 have x2 := hx3.cell 2 _ rfl
 have x3 := hx3.cell 3 _ rfl
 have x4 := hx3.cell 4 _ rfl
 have x5 := hx3.cell 5 _ rfl
 have H3 := Lib.hid (And.intro (H2.out.1.below h2) (And.intro (H2.out.2.1.below h2) (And.intro (H2.out.2.2.1.below h2) (And.intro (H2.out.2.2.2.1.trans (h2.mono H2.out.2.2.2.1.size)) (And.intro kp (Nat.le_trans H2.out.2.2.2.2.2 h2.size))))))
 clear kp h2 hx3 H2
 go_wp2_with fail
 refine (HM1.out _ _ _ H3.out.2.2.1 (fun g hg => Nat.lt_of_lt_of_le hg.2 H3.out.2.2.2.2.2)).mono ?_
 rintro e w4 ⟨v4, rfl, h1, h2⟩
 obtain ⟨m, p, r, q, s, c1, rfl, g1, g2, g3, g4, g5, g6⟩ := h1
 obtain ⟨M1, cm1, rfl⟩ := g1.form
 obtain ⟨P1, cp1, rfl⟩ := g2.form
 obtain ⟨R1, cr1, rfl⟩ := g3.form
 obtain ⟨Q1, cq1, rfl⟩ := g4.form
 obtain ⟨S1, cs1, rfl⟩ := g5.form
 obtain ⟨C1, cc1, rfl⟩ := g6.form
 have H4 : Hid (BunF (fun g => g < w4.heap.size) w4 (.slice M1 B1.man.length cm1) (.slice P1 B1.prf.path.length cp1) (.slice R1 B1.sg.ck.root.length cr1) (.slice Q1 B1.sg.sig.parts.length cq1) (.slice S1 B1.sg.sig.path.length cs1) (.slice C1 B1.cos.length cc1) B1 ∧ Bys w4 (.slice AL P.log.length cl) P.log ∧ Rws w4 (.slice AW P.wits.length cw) P.wits ∧ Below w.heap.size w w4 ∧ Blk w4 w2.heap.size 30 [.slice AL P.log.length cl, .slice AW P.wits.length cw, .int .i64 P.quorum]) := Lib.hid ⟨⟨g1.cut, g2.cut, g3.cut, g4.cut, g5.cut, CgsV.cut g6⟩, H3.out.1.below h2, H3.out.2.1.below h2, H3.out.2.2.2.1.trans (h2.mono H3.out.2.2.2.1.size), H3.out.2.2.2.2.1.below h2⟩
 clear g1 g2 g3 g4 g5 g6 h2 x0 x1 x2 x3 x4 x5 H3
 go_upto_region 5 with fail
 refine code_at (fun w5 => Blk w5 w4.heap.size 42 [.slice M1 B1.man.length cm1, .int .i64 B1.prf.index, .int .i64 B1.prf.size, .slice P1 B1.prf.path.length cp1, .int .i64 B1.sg.ck.num, .slice R1 B1.sg.ck.root.length cr1, .int .i64 B1.sg.sig.index, .slice Q1 B1.sg.sig.parts.length cq1, .slice S1 B1.sg.sig.path.length cs1, .slice C1 B1.cos.length cc1] ∧ Below w4.heap.size w4 w5) ⟨Blk.new w4 42 [.slice M1 B1.man.length cm1, .int .i64 B1.prf.index, .int .i64 B1.prf.size, .slice P1 B1.prf.path.length cp1, .int .i64 B1.sg.ck.num, .slice R1 B1.sg.ck.root.length cr1, .int .i64 B1.sg.sig.index, .slice Q1 B1.sg.sig.parts.length cq1, .slice S1 B1.sg.sig.path.length cs1, .slice C1 B1.cos.length cc1], (Below.refl _ _).alloc (Nat.le_refl _) _⟩ ?_
 rintro w5 ⟨kb, h2⟩
 have hbl := kb.lt
 have H5 := Lib.hid (And.intro (H4.out.2.1.below h2).cut (And.intro (H4.out.2.2.1.below h2).cut (And.intro (H4.out.2.2.2.1.trans (h2.mono H4.out.2.2.2.1.size)) (And.intro (H4.out.2.2.2.2.below h2) (HOV.out.below (H4.out.2.2.2.1.trans (h2.mono H4.out.2.2.2.1.size))).cut))))
 have HPB : Hid (BysF (fun g => g ≠ w4.heap.size) w5 (.slice AL P.log.length cl) P.log ∧ RwsF (fun g => g ≠ w4.heap.size) w5 (.slice AW P.wits.length cw) P.wits) := Lib.hid ⟨(H4.out.2.1.cut.below h2).mono (fun g hg e => by omega), (H4.out.2.2.1.cut.below h2).mono (fun g hg e => by omega)⟩
 have HOB : Hid (BysF (fun g => g ≠ w4.heap.size) w5 (.slice O other.length oc) other) := Lib.hid (((HOV.out.below H4.out.2.2.2.1).cut.below h2).mono (fun g hg e => by omega))
 have hpl : w2.heap.size < w4.heap.size := H4.out.2.2.2.2.lt
 have hw4 : w.heap.size ≤ w4.heap.size := H4.out.2.2.2.1.size
 have HI : Hid (LiT w5 w5 w4.heap.size) := Lib.hid ⟨Chg.refl _ _, B1, _, _, _, _, _, _, HSB.out, kb, (H4.out.1.below h2).mono (fun g hg e => by have h9 : g < w4.heap.size := hg; omega)⟩
 clear kb h2 H4 HSB
 generalize hbbe : w4.heap.size = bb at *
 generalize hpbe : w2.heap.size = pb at *
 clear hbbe hpbe
 go_upto_if 37 with fail
 go_cut [] (fun wc => Hid (LiT w5 wc bb))
 case first =>
  by_cases hm2 : a.tmod 2 = 0
  ·obtain ⟨h1, b, m, p, r, q, s, c1, hs, hk, g1, g2, g3, g4, g5, g6⟩ := HI.out
   obtain ⟨M2, cm2, rfl⟩ := g1.1.form
   obtain ⟨P2, cp2, rfl⟩ := g2.rws.form
   obtain ⟨R2, cr2, rfl⟩ := g3.1.form
   obtain ⟨Q2, cq2, rfl⟩ := g4.rws.form
   obtain ⟨S2, cs2, rfl⟩ := g5.rws.form
   obtain ⟨C2, cc2, rfl⟩ := g6.cgsv.form
   have HB := Lib.hid (And.intro h1 (And.intro hs (And.intro hk (show BunF (fun g => g ≠ bb) w5 (.slice M2 b.man.length cm2) (.slice P2 b.prf.path.length cp2) (.slice R2 b.sg.ck.root.length cr2) (.slice Q2 b.sg.sig.parts.length cq2) (.slice S2 b.sg.sig.path.length cs2) (.slice C2 b.cos.length cc2) b from ⟨g1, g2, g3, g4, g5, g6⟩))))
   clear h1 hs hk g1 g2 g3 g4 g5 g6
   go_wp2_with fail
   refine (HIT.out _).mono ?_
   rintro e w6 ⟨v6, rfl, h1, h2⟩
   obtain ⟨A6, c6, rfl⟩ := h1.form
   have hk6 := HB.out.2.2.1.below h2
   have y0 := hk6.free 0
   have z0 := hk6.cell 0 _ rfl
   have HN : Hid (LiT w5 (w6.setCell ⟨bb, 0, none⟩ (.slice A6 IT.length c6)) bb) := Lib.hid (LiT.man HB.out.1 HB.out.2.1 HB.out.2.2.1 HB.out.2.2.2 h2 (h1.foot.mono (fun g hg e => by have h9 := hg.1; omega)) (by have := HIL.out.1; omega))
   clear h1 h2 hk6
   go_wp2
   go_meet
   case rel => exact HN
  ·go_wp2
   go_meet
   case rel => exact HI
 case rest =>
  have HI2 := Lib.hid hcut.out
  clear hcut HI
  go_upto_if 44 with fail
  go_cut [] (fun wd => Hid (LiT w5 wd bb))
  case first =>
   by_cases hm5 : a.tmod 5 = 0
   ·obtain ⟨h1, b, m, p, r, q, s, c1, hs, hk, g1, g2, g3, g4, g5, g6⟩ := HI2.out
    obtain ⟨M3, cm3, rfl⟩ := g1.1.form
    obtain ⟨P3, cp3, rfl⟩ := g2.rws.form
    obtain ⟨R3, cr3, rfl⟩ := g3.1.form
    obtain ⟨Q3, cq3, rfl⟩ := g4.rws.form
    obtain ⟨S3, cs3, rfl⟩ := g5.rws.form
    obtain ⟨C3, cc3, rfl⟩ := g6.cgsv.form
    have HB := Lib.hid (And.intro h1 (And.intro hs (And.intro hk (And.intro (show BunF (fun g => g ≠ bb) wc (.slice M3 b.man.length cm3) (.slice P3 b.prf.path.length cp3) (.slice R3 b.sg.ck.root.length cr3) (.slice Q3 b.sg.sig.parts.length cq3) (.slice S3 b.sg.sig.path.length cs3) (.slice C3 b.cos.length cc3) b from ⟨g1, g2, g3, g4, g5, g6⟩) (HOB.out.chg h1 (fun g hg e => hg e))))))
    have HSZ := Lib.hid (sizL_length other 32)
    have HSI := Lib.hid (fun (wz : World) (z : Bys wz (.slice O other.length oc) other) => sized_any (.slice O other.length oc) other 32 (by decide) wz z)
    generalize sizL other 32 = SZ at *
    have HFE := Lib.hid (fun (wz : World) (vz : Value) (z : Rws wz vz [SZ]) => few_any vz [SZ] 1 32 (by simp) wz z)
    have HFL : Hid (fewL [SZ] 32 1 = [SZ]) := Lib.hid (by show [SZ.take 32] = [SZ]; rw [List.take_of_length_le (by rw [HSZ.out]; exact Nat.le_refl _)])
    rw [HFL.out] at HFE
    change Hid (∀ (wz : World) (vz : Value), Rws wz vz [SZ] → Calls Tryz.prog 14 #[vz, .int .i64 1, .int .i64 32] wz fun e w' => ∃ v', e = .returned v' ∧ OwnV w' wz.heap.size v' [SZ] ∧ Below wz.heap.size wz w') at HFE
    change Hid (∀ (wz : World), Bys wz (.slice O other.length oc) other → Calls Tryz.prog 15 #[.slice O other.length oc, .int .i64 32] wz fun e w' => ∃ v', e = .returned v' ∧ OwnB w' wz.heap.size v' SZ ∧ Below wz.heap.size wz w') at HSI
    clear h1 hs hk g1 g2 g3 g4 g5 g6
    go_wp2_with fail
    refine (HSI.out _ HB.out.2.2.2.2.1).mono ?_
    rintro e w6 ⟨v6, rfl, h1, h2⟩
    obtain ⟨A6, c6, rfl⟩ := h1.form
    have H6 := Lib.hid (And.intro h1 h2)
    clear h1 h2
    go_wp2_with fail
    refine calls_at (fun w7 => Rws w7 (.slice (some ⟨w6.heap.size, 0, none⟩) 1 1) [SZ] ∧ Below w6.heap.size w6 w7) ⟨new1 24 rfl H6.out.1.bys, (Below.refl _ _).alloc (Nat.le_refl _) _⟩ ?_
    rintro w7 ⟨kr, hb7⟩
    have hb67 : Below wc.heap.size wc w7 := H6.out.2.trans (hb7.mono H6.out.2.size)
    refine (HFE.out _ _ kr).mono ?_
    rintro e w8 ⟨v8, rfl, h1, h2⟩
    obtain ⟨A8, c8, rfl⟩ := h1.rws.form
    have hb8 : Below wc.heap.size wc w8 := hb67.trans (h2.mono hb67.size)
    have hk8 := HB.out.2.2.1.below hb8
    have y3 := hk8.free 3
    have z3 := hk8.cell 3 _ rfl
    have hbw := HB.out.2.2.1.lt
    have HN : Hid (LiT w5 (w8.setCell ⟨bb, 3, none⟩ (.slice A8 [SZ].length c8)) bb) := Lib.hid (LiT.path HB.out.1 HB.out.2.1 HB.out.2.2.1 HB.out.2.2.2.1 hb8 ((h1.apart hk8 (bun_cells (by intro z h; cases h) (by intro z h; cases h) (by intro z h; cases h) (by intro z h; cases h) (by intro z h; cases h) (by intro z h; cases h)) (by have := hb67.size; omega)).mono (fun g hg => hg.1)) (by simp) (fun y hy => by have e : y = SZ := List.mem_singleton.1 hy; rw [e, HSZ.out]; decide))
    clear h1 h2 hk8 kr hb7 hb67 hb8
    go_wp2
    go_meet
    case rel => exact HN
   ·go_wp2
    go_meet
    case rel => exact HI2
  case rest =>
   obtain ⟨h1, ⟨MN, ⟨IX, SZ, PS⟩, ⟨⟨NM, RT⟩, SG⟩, CO⟩, m, p, r, q, s, c1, hs, hk, g1, g2, g3, g4, g5, g6⟩ := hcut.out
   dsimp only at hk g1 g2 g3 g4 g5 g6
   obtain ⟨M4, cm4, rfl⟩ := g1.1.form
   obtain ⟨P4, cp4, rfl⟩ := g2.rws.form
   obtain ⟨R4, cr4, rfl⟩ := g3.1.form
   obtain ⟨Q4, cq4, rfl⟩ := g4.rws.form
   obtain ⟨S4, cs4, rfl⟩ := g5.rws.form
   obtain ⟨C4, cc4, rfl⟩ := g6.cgsv.form
   have hkp := H5.out.2.2.2.1.chg h1 (by omega)
   have HB : Hid (Chg w5 wc (fun k => k = bb) ∧ SmallBun ⟨MN, ⟨IX, SZ, PS⟩, ⟨⟨NM, RT⟩, SG⟩, CO⟩ ∧ Blk wc bb 42 [.slice M4 MN.length cm4, .int .i64 IX, .int .i64 SZ, .slice P4 PS.length cp4, .int .i64 NM, .slice R4 RT.length cr4, .int .i64 SG.index, .slice Q4 SG.parts.length cq4, .slice S4 SG.path.length cs4, .slice C4 CO.length cc4] ∧ Blk wc pb 30 [.slice AL P.log.length cl, .slice AW P.wits.length cw, .int .i64 P.quorum] ∧ (BunX wc (.slice M4 MN.length cm4) (.slice P4 PS.length cp4) (.slice R4 RT.length cr4) (.slice Q4 SG.parts.length cq4) (.slice S4 SG.path.length cs4) (.slice C4 CO.length cc4) ⟨MN, ⟨IX, SZ, PS⟩, ⟨⟨NM, RT⟩, SG⟩, CO⟩) ∧ Bys wc (.slice AL P.log.length cl) P.log ∧ Rws wc (.slice AW P.wits.length cw) P.wits ∧ Below w.heap.size w wc) := Lib.hid ⟨h1, hs, hk, hkp, ⟨g1.1, g2.rws, g3.1, g4.rws, g5.rws, g6.cgsv⟩, (HPB.out.1.chg h1 (fun g hg e => hg e)).1, (HPB.out.2.chg h1 (fun g hg e => hg e)).rws, H5.out.2.2.1.trans (h1.below H5.out.2.2.1.size (fun k hk => by have e : k = bb := hk; omega))⟩
   clear h1 hs hk g1 g2 g3 g4 g5 g6 hkp hcut HI2
   have HCB := Lib.hid (HC1.out ⟨MN, ⟨IX, SZ, PS⟩, ⟨⟨NM, RT⟩, SG⟩, CO⟩ HB.out.2.1 wc (.agg #[.slice AL P.log.length cl, .slice AW P.wits.length cw, .int .i64 P.quorum]) (.agg #[.slice M4 MN.length cm4, .int .i64 IX, .int .i64 SZ, .slice P4 PS.length cp4, .int .i64 NM, .slice R4 RT.length cr4, .int .i64 SG.index, .slice Q4 SG.parts.length cq4, .slice S4 SG.path.length cs4, .slice C4 CO.length cc4]) ⟨_, _, rfl, HB.out.2.2.2.2.2.1, HB.out.2.2.2.2.2.2.1⟩ ⟨_, _, _, _, _, _, rfl, HB.out.2.2.2.2.1⟩)
   have z0 := (HB.out.2.2.1.below (Below.refl _ _)).cell 0 _ rfl
   have z1 := (HB.out.2.2.1.below (Below.refl _ _)).cell 1 _ rfl
   have z2 := (HB.out.2.2.1.below (Below.refl _ _)).cell 2 _ rfl
   have z3 := (HB.out.2.2.1.below (Below.refl _ _)).cell 3 _ rfl
   have z4 := (HB.out.2.2.1.below (Below.refl _ _)).cell 4 _ rfl
   have z5 := (HB.out.2.2.1.below (Below.refl _ _)).cell 5 _ rfl
   have z6 := (HB.out.2.2.1.below (Below.refl _ _)).cell 6 _ rfl
   have z7 := (HB.out.2.2.1.below (Below.refl _ _)).cell 7 _ rfl
   have z8 := (HB.out.2.2.1.below (Below.refl _ _)).cell 8 _ rfl
   have z9 := (HB.out.2.2.1.below (Below.refl _ _)).cell 9 _ rfl
   have zp0 := (HB.out.2.2.2.1.below (Below.refl _ _)).cell 0 _ rfl
   have zp1 := (HB.out.2.2.2.1.below (Below.refl _ _)).cell 1 _ rfl
   have zp2 := (HB.out.2.2.2.1.below (Below.refl _ _)).cell 2 _ rfl
   by_cases hok : bchk P ⟨MN, ⟨IX, SZ, PS⟩, ⟨⟨NM, RT⟩, SG⟩, CO⟩ = 0
   ·obtain ⟨hD, hV, hsz, hLd, hLq, hqn⟩ := let_by hok
    dsimp only at hD hV hsz hLd hLq
    have HSZ := Lib.hid hsz
    have HBX := Lib.hid HB.out.2.2.2.2.1
    have HLF := Lib.hid (fun (wz : World) (z : Bys wz (.slice M4 MN.length cm4) MN) => rleaf_any (.slice M4 MN.length cm4) MN HB.out.2.1.man wz z)
    have HLD := Lib.hid (fun (wz : World) (lv : Value) (z1 : Rws wz (.slice P4 PS.length cp4) PS) (z2 : Bys wz lv (leafH MN)) => lead8v_any (.agg #[.int .i64 IX, .int .i64 SZ, .slice P4 PS.length cp4]) lv ⟨IX, SZ, PS⟩ (leafH MN) HB.out.2.1.path HB.out.2.1.index HB.out.2.1.size (by rw [leafH_length]; decide) wz ⟨_, rfl, z1⟩ z2)
    rw [hLd, hLq] at HLD
    have HDC := Lib.hid (fun (wz : World) (z : Bys wz (.slice M4 MN.length cm4) MN) => rdecode_any (.slice M4 MN.length cm4) MN HB.out.2.1.man wz z)
    rw [hD] at HDC
    have HVF := Lib.hid (fun (wz : World) (z1 : Bys wz (.slice AL P.log.length cl) P.log) (z2 : SgV wz (.agg #[.int .i64 NM, .slice R4 RT.length cr4, .int .i64 SG.index, .slice Q4 SG.parts.length cq4, .slice S4 SG.path.length cs4]) ⟨⟨NM, RT⟩, SG⟩) => rckverify_any (.slice AL P.log.length cl) (.agg #[.int .i64 NM, .slice R4 RT.length cr4, .int .i64 SG.index, .slice Q4 SG.parts.length cq4, .slice S4 SG.path.length cs4]) P.log ⟨⟨NM, RT⟩, SG⟩ HSP.out.1 HB.out.2.1.root HB.out.2.1.sig wz z1 z2)
    rw [hV] at HVF
    have HCN := Lib.hid (fun (wz : World) (z1 : PolV wz (.agg #[.slice AL P.log.length cl, .slice AW P.wits.length cw, .int .i64 P.quorum]) P) (z2 : CkV wz (.agg #[.int .i64 NM, .slice R4 RT.length cr4]) ⟨NM, RT⟩) (z3 : CgsV wz (.slice C4 CO.length cc4) CO) => rcount_any (.agg #[.slice AL P.log.length cl, .slice AW P.wits.length cw, .int .i64 P.quorum]) (.agg #[.int .i64 NM, .slice R4 RT.length cr4]) (.slice C4 CO.length cc4) P ⟨NM, RT⟩ CO HSP.out HB.out.2.1.root HB.out.2.1.sigs HB.out.2.1.cos wz z1 z2 z3)
    change P.quorum ≤ ((seenN P ⟨NM, RT⟩ CO CO.length).length : Int) at hqn
    generalize (seenN P ⟨NM, RT⟩ CO CO.length).length = CN at *
    generalize leafH MN = LH at *
    have hge : Q ≤ (CN : Int) := by rw [← HPQ.out]; exact hqn
    rw [hok] at HCB
    clear hD hV hsz hLd hLq hqn hok
    go_wp2_with fail
    refine HCB.out.mono ?_
    rintro e w9 ⟨rfl, h2⟩
    have HS9 := Lib.hid h2
    clear h2
    clear z0 z1 z2 z3 z4 z5 z6 z7 z8 z9 zp0 zp1 zp2
    go_upto_region 11 with fail
    have HS : Hid (Below wc.heap.size wc w9.drew) := Lib.hid HS9.out.drew
    have HCW : Hid (∀ W, Below wc.heap.size wc W → W.cell? ⟨bb, 0, none⟩ = some (.slice M4 MN.length cm4) ∧ W.cell? ⟨bb, 1, none⟩ = some (.int .i64 IX) ∧ W.cell? ⟨bb, 2, none⟩ = some (.int .i64 SZ) ∧ W.cell? ⟨bb, 3, none⟩ = some (.slice P4 PS.length cp4)) := Lib.hid (fun W hW => ⟨(HB.out.2.2.1.below hW).cell 0 _ rfl, (HB.out.2.2.1.below hW).cell 1 _ rfl, (HB.out.2.2.1.below hW).cell 2 _ rfl, (HB.out.2.2.1.below hW).cell 3 _ rfl⟩)
    refine wp_region_held_drew (S := fun w' => w'.cell? ⟨bb, 0, none⟩ = some (.slice M4 MN.length cm4) ∧ w'.cell? ⟨bb, 1, none⟩ = some (.int .i64 IX) ∧ w'.cell? ⟨bb, 2, none⟩ = some (.int .i64 SZ) ∧ w'.cell? ⟨bb, 3, none⟩ = some (.slice P4 PS.length cp4)) (by kernel_rfl) (HCW.out _ HS.out) (fun hHeld => ?_)
    generalize w9.drew = wr at *
    refine ty 0 57 rfl rfl ?_; simp only [sa, sb, sc]
    refine ty 1 58 rfl rfl ?_; simp only [sa, sb, sc]
    refine ty 2 59 rfl rfl ?_; simp only [sa, sb, sc]
    refine ty 3 60 rfl rfl ?_; simp only [sa, sb, sc]
    refine rd 4 (by kernel_rfl) rfl (fun K hK => ?_)
    go_simp
    go_at_call 19
    refine (HLF.out _ (HBX.out.1.below HS.out)).mono ?_
    rintro e W4 ⟨v9, rfl, h1, h2⟩
    obtain ⟨A9, c9, rfl⟩ := h1.form
    have H9 := Lib.hid h1.bys
    replace HS := Lib.hid (HS.out.trans (h2.mono HS.out.size))
    clear h1 h2
    try dsimp only
    refine hK.out _ _ (HCW.out _ HS.out) (fun hHeld4 => ?_)
    clear hK K; try simp only [Act.put, sa, sb, sc]
    refine rd 5 (by kernel_rfl) rfl (fun K hK => ?_)
    go_simp
    go_at_call 18
    refine (HLD.out _ _ (HBX.out.2.1.below HS.out) H9.out).mono ?_
    rintro e W5 ⟨v10, rfl, h1, h2⟩
    obtain ⟨A10, c10, rfl⟩ := h1.form
    have H10 := Lib.hid h1
    replace HS := Lib.hid (HS.out.trans (h2.mono HS.out.size))
    clear h1 h2
    try dsimp only
    refine hK.out _ _ (HCW.out _ HS.out) (fun hHeld5 => ?_)
    clear hK K; try simp only [Act.put, sa, sb, sc]
    refine ty 6 56 rfl rfl ?_; simp only [sa, sb, sc]
    refine ty 7 63 rfl rfl ?_; simp only [sa, sb, sc]
    refine ty 8 64 rfl rfl ?_; simp only [sa, sb, sc]
    refine ty 9 17 rfl rfl ?_; simp only [sa, sb, sc]
    refine ty 10 18 rfl rfl ?_; simp only [sa, sb, sc]
    refine wpAnyH_done (by kernel_rfl) ?_ _
    clear hHeld
    have z0 := (HB.out.2.2.1.below HS.out).cell 0 _ rfl
    go_wp2_with fail
    refine (HDC.out _ (HBX.out.1.below HS.out)).mono ?_
    rintro e w12 ⟨v12, rfl, ⟨s12, n12, A12, l12, c12, B12, k12, d12, rfl⟩, h2⟩
    clear z0
    have hbw : Below wc.heap.size wc w12 := HS.out.trans (h2.mono HS.out.size)
    have H12 := Lib.hid (And.intro hbw (H10.out.below h2))
    clear h2 hbw
    go_upto_region 13 with fail
    refine code_at (fun w13 => Below w12.heap.size w12 w13) ((Below.refl _ _).alloc (Nat.le_refl _) _) ?_
    rintro w13 h2
    have hb13 : Below wc.heap.size wc w13 := H12.out.1.trans (h2.mono H12.out.1.size)
    have conv1 := run_string_bys w13 (.slice A10 RT.length c10) RT (H12.out.2.below h2)
    have conv2 := run_string_bys w13 (.slice R4 RT.length cr4) RT (HBX.out.2.2.1.below hb13)
    have H13 := Lib.hid hb13
    clear h2 hb13
    have z0 := (HB.out.2.2.1.below H13.out).cell 0 _ rfl
    have z1 := (HB.out.2.2.1.below H13.out).cell 1 _ rfl
    have z2 := (HB.out.2.2.1.below H13.out).cell 2 _ rfl
    have z3 := (HB.out.2.2.1.below H13.out).cell 3 _ rfl
    have z4 := (HB.out.2.2.1.below H13.out).cell 4 _ rfl
    have z5 := (HB.out.2.2.1.below H13.out).cell 5 _ rfl
    have z6 := (HB.out.2.2.1.below H13.out).cell 6 _ rfl
    have z7 := (HB.out.2.2.1.below H13.out).cell 7 _ rfl
    have z8 := (HB.out.2.2.1.below H13.out).cell 8 _ rfl
    have z9 := (HB.out.2.2.1.below H13.out).cell 9 _ rfl
    have zp0 := (HB.out.2.2.2.1.below H13.out).cell 0 _ rfl
    have zp1 := (HB.out.2.2.2.1.below H13.out).cell 1 _ rfl
    have zp2 := (HB.out.2.2.2.1.below H13.out).cell 2 _ rfl
    have hsz := HSZ.out
    subst hsz
    go_wp2_with fail
    refine (HVF.out _ (HB.out.2.2.2.2.2.1.below H13.out) ⟨_, _, _, rfl, HBX.out.2.2.1.below H13.out, HBX.out.2.2.2.1.below H13.out, HBX.out.2.2.2.2.1.below H13.out⟩).mono ?_
    rintro e w14 ⟨rfl, h2⟩
    have H14 := Lib.hid (H13.out.trans (h2.mono H13.out.size))
    clear h2 conv1 conv2
    clear z0 z1 z2 z3 z4 z5 z6 z7 z8 z9 zp0 zp1 zp2
    have z0 := (HB.out.2.2.1.below H14.out).cell 0 _ rfl
    have z1 := (HB.out.2.2.1.below H14.out).cell 1 _ rfl
    have z2 := (HB.out.2.2.1.below H14.out).cell 2 _ rfl
    have z3 := (HB.out.2.2.1.below H14.out).cell 3 _ rfl
    have z4 := (HB.out.2.2.1.below H14.out).cell 4 _ rfl
    have z5 := (HB.out.2.2.1.below H14.out).cell 5 _ rfl
    have z6 := (HB.out.2.2.1.below H14.out).cell 6 _ rfl
    have z7 := (HB.out.2.2.1.below H14.out).cell 7 _ rfl
    have z8 := (HB.out.2.2.1.below H14.out).cell 8 _ rfl
    have z9 := (HB.out.2.2.1.below H14.out).cell 9 _ rfl
    have zp0 := (HB.out.2.2.2.1.below H14.out).cell 0 _ rfl
    have zp1 := (HB.out.2.2.2.1.below H14.out).cell 1 _ rfl
    have zp2 := (HB.out.2.2.2.1.below H14.out).cell 2 _ rfl
    go_wp2_with fail
    refine (HCN.out _ ⟨_, _, rfl, HB.out.2.2.2.2.2.1.below H14.out, HB.out.2.2.2.2.2.2.1.below H14.out⟩ ⟨_, rfl, HBX.out.2.2.1.below H14.out⟩ (HBX.out.2.2.2.2.2.below H14.out)).mono ?_
    rintro e w15 ⟨rfl, h2⟩
    have H15 := Lib.hid (H14.out.trans (h2.mono H14.out.size))
    clear h2
    clear z0 z1 z2 z3 z4 z5 z6 z7 z8 z9 zp0 zp1 zp2
    go_wp2_with fail
    refine (HKN.out _).mono ?_
    rintro e w16 ⟨rfl, h2⟩
    have H16 := Lib.hid (H15.out.trans (h2.mono H15.out.size))
    clear h2
    go_wp2
    go_ret
    exact ⟨rfl, HB.out.2.2.2.2.2.2.2.trans (H16.out.mono HB.out.2.2.2.2.2.2.2.size)⟩
   ·generalize bchk P ⟨MN, ⟨IX, SZ, PS⟩, ⟨⟨NM, RT⟩, SG⟩, CO⟩ = BV at *
    go_wp2_with fail
    refine HCB.out.mono ?_
    rintro e w9 ⟨rfl, h2⟩
    have HS9 := Lib.hid h2
    clear h2
    clear z0 z1 z2 z3 z4 z5 z6 z7 z8 z9 zp0 zp1 zp2
    go_wp2_with fail
    refine (HKN.out _).mono ?_
    rintro e w10 ⟨rfl, h2⟩
    have HS10 := Lib.hid (HS9.out.trans (h2.mono HS9.out.size))
    clear h2
    go_wp2
    go_ret
    exact ⟨rfl, HB.out.2.2.2.2.2.2.2.trans (HS10.out.mono HB.out.2.2.2.2.2.2.2.size)⟩
end Go.Proofs.YtgeplpdcnanmnaaGreat
