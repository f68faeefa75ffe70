/- BundleQuorums, walked. Conditions: as each theorem states them. -/
import Derived.Test.YtgeplpdcnanmnaaGreatZbz
namespace Go.Proofs.YtgeplpdcnanmnaaGreat
open Go.RowKit
set_option linter.unusedVariables false
set_option linter.unusedSimpArgs false

def lastB (k : Nat) (b : BunD) (j : Nat) : Bool := decide (j = 0) || decide (bchk (polS k (j : Int)) b = 0)
theorem last_of (k : Nat) (h1 : 1 ≤ k) (h3 : k ≤ 3) (b : BunD) (j : Nat) (hj : j < k) (h : bchk (polS k ((j : Int) + 1)) b = 0) : lastB k b j = true ∧ (j : Int) + 1 ≤ (b.cos.length : Int) := by
 obtain ⟨a1, a2⟩ := quorum_law k h1 h3 b ((j : Int) + 1) (by omega) (by omega) h
 refine ⟨?_, a1⟩
 unfold lastB
 rcases Nat.eq_zero_or_pos j with h0 | h0
 ·subst h0; rfl
 ·rw [a2 (j : Int) (by omega) (by omega)]
  simp
theorem last_succ (k : Nat) (b : BunD) (j : Nat) : lastB k b (j + 1) = decide (bchk (polS k ((j : Int) + 1)) b = 0) := by
 unfold lastB
 rw [show ((j + 1 : Nat) : Int) = (j : Int) + 1 by omega]
 simp
set_option maxRecDepth 100000 in
set_option maxHeartbeats 8000000 in
theorem quorums_any (x : DrD) (n : Int) (w : World) : Calls Tryz.prog 4 #[.agg #[.int .i64 x.leaves, .int .i64 x.leaf, .int .i64 x.cosigs, .int .i64 x.wrong, .int .i64 x.at', .int .u8 x.turn.toNat], .int .i64 n] w fun e w' => e = .returned (.bool true) ∧ Below w.heap.size w w' := by
 have HW := Lib.hid (fun wz : World => within_any n 1 3 (by omega) (by omega) (by omega) wz)
 have hK0 := withinZ_ge n 1 3 (by omega)
 generalize withinZ n 1 3 = KZ at *
 obtain ⟨k, rfl⟩ := Int.eq_ofNat_of_zero_le (show 0 ≤ KZ by omega)
 have hk1 : 1 ≤ k := by omega
 have hk3 : k ≤ 3 := by omega
 clear hK0
 have HO := Lib.hid (fun wz : World => owners_any k (by omega) wz)
 have HPO := Lib.hid (fun (wz : World) (S : Nat → Prop) (q : Int) (v : Value) (z1 : OwnersS S wz v (k + 1)) (z2 : ∀ g, S g → g < wz.heap.size) => lpolicy_any S k q v (by omega) wz z1 z2)
 have HM1 := Lib.hid (fun (wz : World) (S : Nat → Prop) (v : Value) (z1 : OwnersS S wz v (k + 1)) (z2 : ∀ g, S g → g < wz.heap.size) => made_any S k (by omega) x v wz z1 z2)
 have HC1 := Lib.hid (fun (wz : World) (vp vb : Value) (q : Int) (hq : 1 ≤ q) (hq2 : q ≤ 10) (z1 : PolV wz vp (polS k q)) (z2 : BunV wz vb (madeD x k)) => bcheck_any vp vb (polS k q) (madeD x k) (pol_small k q (by omega) hq hq2) (small_made x k (by omega)) wz z1 z2)
 generalize madeD x k = B1 at *
 have HLO := Lib.hid (fun (j : Nat) (hj : j < k) (h : bchk (polS k ((j : Int) + 1)) B1 = 0) => last_of k hk1 hk3 B1 j hj h)
 have HLS := Lib.hid (fun j : Nat => last_succ k B1 j)
 have HL0 : Hid (lastB k B1 0 = true) := Lib.hid rfl
 have HQP := Lib.hid (quorum_past k B1)
 go_enter Tryz.func4, Tryz.ntmps4
 go_wp2_with fail
 refine calls_at (fun w0 => Blk w0 w.heap.size 23 [.int .i64 x.leaves, .int .i64 x.leaf, .int .i64 x.cosigs, .int .i64 x.wrong, .int .i64 x.at', .int .u8 x.turn.toNat] ∧ Below w.heap.size w w0) ⟨Blk.new w 23 [.int .i64 x.leaves, .int .i64 x.leaf, .int .i64 x.cosigs, .int .i64 x.wrong, .int .i64 x.at', .int .u8 x.turn.toNat], (Below.refl _ _).alloc (Nat.le_refl _) _⟩ ?_
 rintro w0 ⟨kx, hb0⟩
 have H0 := Lib.hid (And.intro kx hb0)
 clear kx hb0
 refine (HW.out _).mono ?_
 rintro e w' ⟨rfl, rfl⟩
 go_wp2_with fail
 refine (HO.out _).mono ?_
 rintro e w1 ⟨v1, rfl, h1, h2⟩
 obtain ⟨A, c, rfl⟩ := h1.form
 have H1 := Lib.hid (And.intro h1 (And.intro (H0.out.2.trans (h2.mono H0.out.2.size)) (H0.out.1.below h2)))
 clear h1 h2
 have x0 := H1.out.2.2.cell 0 _ rfl
 have x1 := H1.out.2.2.cell 1 _ rfl
 have x2 := H1.out.2.2.cell 2 _ rfl
 have x3 := H1.out.2.2.cell 3 _ rfl
 have x4 := H1.out.2.2.cell 4 _ rfl
 have x5 := H1.out.2.2.cell 5 _ rfl
 go_wp2_with fail
 refine (HM1.out _ _ _ H1.out.1 (fun g hg => hg.2)).mono ?_
 rintro e w2 ⟨v2, rfl, h1, h2⟩
 obtain ⟨m, p, r, q, s, c1, rfl, g1, g2, g3, g4, g5, g6⟩ := h1
 obtain ⟨M1, cm1, rfl⟩ := g1.form
 obtain ⟨P1, cp1, rfl⟩ := g2.form
 obtain ⟨R1, cr1, rfl⟩ := g3.form
 obtain ⟨Q1, cq1, rfl⟩ := g4.form
 obtain ⟨S1, cs1, rfl⟩ := g5.form
 obtain ⟨C1, cc1, rfl⟩ := g6.form
 have H2 : Hid (BunX w2 (.slice M1 B1.man.length cm1) (.slice P1 B1.prf.path.length cp1) (.slice R1 B1.sg.ck.root.length cr1) (.slice Q1 B1.sg.sig.parts.length cq1) (.slice S1 B1.sg.sig.path.length cs1) (.slice C1 B1.cos.length cc1) B1 ∧ OwnersS (fun g => w0.heap.size ≤ g ∧ g < w1.heap.size) w2 (.slice A (k + 1) c) (k + 1) ∧ Below w.heap.size w w2 ∧ w1.heap.size ≤ w2.heap.size) := Lib.hid ⟨⟨g1, g2, g3, g4, g5, g6⟩, H1.out.1.below h2, H1.out.2.1.trans (h2.mono H1.out.2.1.size), h2.size⟩
 clear g1 g2 g3 g4 g5 g6 h2 x0 x1 x2 x3 x4 x5
 go_upto_region 4 with fail
 refine code_at (fun w3 => Blk w3 w2.heap.size 42 [.slice M1 B1.man.length cm1, .int .i64 B1.prf.index, .int .i64 B1.prf.size, .slice P1 B1.prf.path.length cp1, .int .i64 B1.sg.ck.num, .slice R1 B1.sg.ck.root.length cr1, .int .i64 B1.sg.sig.index, .slice Q1 B1.sg.sig.parts.length cq1, .slice S1 B1.sg.sig.path.length cs1, .slice C1 B1.cos.length cc1] ∧ Below w2.heap.size w2 w3) ⟨Blk.new w2 42 [.slice M1 B1.man.length cm1, .int .i64 B1.prf.index, .int .i64 B1.prf.size, .slice P1 B1.prf.path.length cp1, .int .i64 B1.sg.ck.num, .slice R1 B1.sg.ck.root.length cr1, .int .i64 B1.sg.sig.index, .slice Q1 B1.sg.sig.parts.length cq1, .slice S1 B1.sg.sig.path.length cs1, .slice C1 B1.cos.length cc1], (Below.refl _ _).alloc (Nat.le_refl _) _⟩ ?_
 rintro w5 ⟨kb, h2⟩
 have H5 : Hid (BunX w5 (.slice M1 B1.man.length cm1) (.slice P1 B1.prf.path.length cp1) (.slice R1 B1.sg.ck.root.length cr1) (.slice Q1 B1.sg.sig.parts.length cq1) (.slice S1 B1.sg.sig.path.length cs1) (.slice C1 B1.cos.length cc1) B1 ∧ OwnersS (fun g => w0.heap.size ≤ g ∧ g < w1.heap.size) w5 (.slice A (k + 1) c) (k + 1) ∧ Below w.heap.size w w5 ∧ w1.heap.size ≤ w5.heap.size ∧ Blk w5 w2.heap.size 42 [.slice M1 B1.man.length cm1, .int .i64 B1.prf.index, .int .i64 B1.prf.size, .slice P1 B1.prf.path.length cp1, .int .i64 B1.sg.ck.num, .slice R1 B1.sg.ck.root.length cr1, .int .i64 B1.sg.sig.index, .slice Q1 B1.sg.sig.parts.length cq1, .slice S1 B1.sg.sig.path.length cs1, .slice C1 B1.cos.length cc1]) := Lib.hid ⟨H2.out.1.below h2, H2.out.2.1.below h2, H2.out.2.2.1.trans (h2.mono H2.out.2.2.1.size), Nat.le_trans H2.out.2.2.2 h2.size, kb⟩
 have HCW : Hid (∀ W, Below w5.heap.size w5 W → W.cell? ⟨w2.heap.size, 0, none⟩ = some (.slice M1 B1.man.length cm1) ∧ W.cell? ⟨w2.heap.size, 1, none⟩ = some (.int .i64 B1.prf.index) ∧ W.cell? ⟨w2.heap.size, 2, none⟩ = some (.int .i64 B1.prf.size) ∧ W.cell? ⟨w2.heap.size, 3, none⟩ = some (.slice P1 B1.prf.path.length cp1) ∧ W.cell? ⟨w2.heap.size, 4, none⟩ = some (.int .i64 B1.sg.ck.num) ∧ W.cell? ⟨w2.heap.size, 5, none⟩ = some (.slice R1 B1.sg.ck.root.length cr1) ∧ W.cell? ⟨w2.heap.size, 6, none⟩ = some (.int .i64 B1.sg.sig.index) ∧ W.cell? ⟨w2.heap.size, 7, none⟩ = some (.slice Q1 B1.sg.sig.parts.length cq1) ∧ W.cell? ⟨w2.heap.size, 8, none⟩ = some (.slice S1 B1.sg.sig.path.length cs1) ∧ W.cell? ⟨w2.heap.size, 9, none⟩ = some (.slice C1 B1.cos.length cc1)) := Lib.hid (fun W hW => ⟨(H5.out.2.2.2.2.below hW).cell 0 _ rfl, (H5.out.2.2.2.2.below hW).cell 1 _ rfl, (H5.out.2.2.2.2.below hW).cell 2 _ rfl, (H5.out.2.2.2.2.below hW).cell 3 _ rfl, (H5.out.2.2.2.2.below hW).cell 4 _ rfl, (H5.out.2.2.2.2.below hW).cell 5 _ rfl, (H5.out.2.2.2.2.below hW).cell 6 _ rfl, (H5.out.2.2.2.2.below hW).cell 7 _ rfl, (H5.out.2.2.2.2.below hW).cell 8 _ rfl, (H5.out.2.2.2.2.below hW).cell 9 _ rfl⟩)
 clear kb h2 H2
 go_wp2
 go_loopw [8, 9] (fun v8 v9 wr => ∃ j : Nat, v9 = .int .i64 ((j : Int) + 1) ∧ v8 = .bool (lastB k B1 j) ∧ j ≤ k ∧ Hid (Below w5.heap.size w5 wr)) (fun _ v _ => k + 1 - (intOf v).toNat)
 case atStart => exact ⟨0, rfl, by rw [HL0.out], Nat.zero_le _, Lib.hid (Below.refl _ _)⟩
 case round =>
  obtain ⟨j, rfl, rfl, hj, HJ⟩ := hrel
  by_cases hlt : j < k
  ·have hle : (j : Int) + 1 ≤ (k : Int) := by omega
   have HLJ := Lib.hid (HLO.out j hlt)
   have HSJ := Lib.hid (HLS.out j)
   have HPJ := Lib.hid (fun (wz : World) (S : Nat → Prop) (v : Value) (z1 : OwnersS S wz v (k + 1)) (z2 : ∀ g, S g → g < wz.heap.size) => HPO.out wz S ((j : Int) + 1) v z1 z2)
   have HCJ := Lib.hid (fun (wz : World) (vp vb : Value) (z1 : PolV wz vp (polS k ((j : Int) + 1))) (z2 : BunV wz vb B1) => HC1.out wz vp vb ((j : Int) + 1) (by omega) (by omega) z1 z2)
   generalize bchk (polS k ((j : Int) + 1)) B1 = BV at *
   generalize polS k ((j : Int) + 1) = PJ at *
   go_upto_region 8 with fail
   have HS : Hid (Below w5.heap.size w5 wr.drew) := Lib.hid HJ.out.drew
   by_cases hok : BV = 0
   case' pos =>
    subst hok
    obtain ⟨hl1, hl2⟩ := HLJ.out rfl
    rw [hl1]
   case' neg =>
    generalize lastB k B1 j = LJ at *
   all_goals
    refine wp_region_held_drew (S := fun w' => w'.cell? ⟨w2.heap.size, 0, none⟩ = some (.slice M1 B1.man.length cm1) ∧ w'.cell? ⟨w2.heap.size, 1, none⟩ = some (.int .i64 B1.prf.index) ∧ w'.cell? ⟨w2.heap.size, 2, none⟩ = some (.int .i64 B1.prf.size) ∧ w'.cell? ⟨w2.heap.size, 3, none⟩ = some (.slice P1 B1.prf.path.length cp1) ∧ w'.cell? ⟨w2.heap.size, 4, none⟩ = some (.int .i64 B1.sg.ck.num) ∧ w'.cell? ⟨w2.heap.size, 5, none⟩ = some (.slice R1 B1.sg.ck.root.length cr1) ∧ w'.cell? ⟨w2.heap.size, 6, none⟩ = some (.int .i64 B1.sg.sig.index) ∧ w'.cell? ⟨w2.heap.size, 7, none⟩ = some (.slice Q1 B1.sg.sig.parts.length cq1) ∧ w'.cell? ⟨w2.heap.size, 8, none⟩ = some (.slice S1 B1.sg.sig.path.length cs1) ∧ w'.cell? ⟨w2.heap.size, 9, none⟩ = some (.slice C1 B1.cos.length cc1)) (by kernel_rfl) (HCW.out _ HS.out) (fun hHeld => ?_)
    generalize wr.drew = wd at *
    refine ty 0 23 rfl rfl ?_; simp only [sa, sb, sc]
    refine ty 1 24 rfl rfl ?_; simp only [sa, sb, sc]
    refine ty 3 26 rfl rfl ?_; simp only [sa, sb, sc]
    refine rd 2 (by kernel_rfl) rfl (fun K hK => ?_)
    go_simp
    go_at_call 11
    refine (HPJ.out _ _ _ (H5.out.2.1.below HS.out) (fun g hg => Nat.lt_of_lt_of_le hg.2 (Nat.le_trans H5.out.2.2.2.1 HS.out.size))).mono ?_
    rintro e W2 ⟨v9, rfl, h1, h2⟩
    obtain ⟨lp, wp, rfl, k1, k2⟩ := h1
    obtain ⟨AL, cl, rfl⟩ := k1.form
    obtain ⟨AW, cw, rfl⟩ := k2.form
    have HP := Lib.hid (And.intro k1 k2)
    replace HS := Lib.hid (HS.out.trans (h2.mono HS.out.size))
    clear h2 k1 k2
    try dsimp only
    refine hK.out _ _ (HCW.out _ HS.out) (fun hHeld2 => ?_)
    clear hK K; try simp only [Act.put, sa, sb, sc]
    refine rd 4 (by kernel_rfl) rfl (fun K hK => ?_)
    go_simp
    go_at_call 16
    refine (HCJ.out _ _ _ ⟨_, _, rfl, HP.out.1, HP.out.2⟩ ⟨_, _, _, _, _, _, rfl, H5.out.1.below HS.out⟩).mono ?_
    rintro e W2_4 ⟨rfl, h2⟩
    replace HS := Lib.hid (HS.out.trans (h2.mono HS.out.size))
    clear h2 HP
    try dsimp only
    refine hK.out _ _ (HCW.out _ HS.out) (fun hHeld4 => ?_)
    clear hK K; try simp only [Act.put, sa, sb, sc]
    refine ty 5 28 rfl rfl ?_; simp only [sa, sb, sc]
    refine ty 6 10 rfl rfl ?_; simp only [sa, sb, sc]
    refine wpAnyH_done (by kernel_rfl) ?_ _
    clear hHeld
   case pos =>
    have hl3 : ¬ ((B1.cos.length : Nat) : Int) < (j : Int) + 1 := by omega
    obtain ⟨d0, d1, d2, d3, d4, d5, d6, d7, d8, d9⟩ := HCW.out _ HS.out
    clear hl2
    go_wp2
    clear d0 d1 d2 d3 d4 d5 d6 d7 d8 d9
    go_roundw
    case rel => exact ⟨j + 1, by go_num, by rw [HSJ.out]; rfl, by omega, HS⟩
    case measure => simp [intOf]; omega
   case neg =>
    go_wp2
    go_roundw
    case rel => exact ⟨j + 1, by go_num, by rw [HSJ.out, decide_eq_false hok, beq_false_of_ne hok], by omega, HS⟩
    case measure => simp [intOf]; omega
  ·obtain rfl : j = k := by omega
   have hnle : ¬ (j : Int) + 1 ≤ (j : Int) := by omega
   have HKN := Lib.hid (fun wz : World => known20_any wz)
   have HPJ := Lib.hid (fun (wz : World) (S : Nat → Prop) (v : Value) (z1 : OwnersS S wz v (j + 1)) (z2 : ∀ g, S g → g < wz.heap.size) => HPO.out wz S ((j : Int) + 1) v z1 z2)
   have HCJ := Lib.hid (fun (wz : World) (vp vb : Value) (z1 : PolV wz vp (polS j ((j : Int) + 1))) (z2 : BunV wz vb B1) => HC1.out wz vp vb ((j : Int) + 1) (by omega) (by omega) z1 z2)
   rw [HQP.out] at HCJ
   generalize polS j ((j : Int) + 1) = PJ at *
   have HS : Hid (Below w5.heap.size w5 wr.drew) := Lib.hid HJ.out.drew
   have hwk : IntKind.i64.wrap ((j : Int) + 1) = (j : Int) + 1 := IntWalk.i64_in _ (by omega)
   generalize lastB j B1 j = LJ at *
   go_upto_region 12 with fail
   refine wp_region_held_drew (S := fun w' => w'.cell? ⟨w2.heap.size, 0, none⟩ = some (.slice M1 B1.man.length cm1) ∧ w'.cell? ⟨w2.heap.size, 1, none⟩ = some (.int .i64 B1.prf.index) ∧ w'.cell? ⟨w2.heap.size, 2, none⟩ = some (.int .i64 B1.prf.size) ∧ w'.cell? ⟨w2.heap.size, 3, none⟩ = some (.slice P1 B1.prf.path.length cp1) ∧ w'.cell? ⟨w2.heap.size, 4, none⟩ = some (.int .i64 B1.sg.ck.num) ∧ w'.cell? ⟨w2.heap.size, 5, none⟩ = some (.slice R1 B1.sg.ck.root.length cr1) ∧ w'.cell? ⟨w2.heap.size, 6, none⟩ = some (.int .i64 B1.sg.sig.index) ∧ w'.cell? ⟨w2.heap.size, 7, none⟩ = some (.slice Q1 B1.sg.sig.parts.length cq1) ∧ w'.cell? ⟨w2.heap.size, 8, none⟩ = some (.slice S1 B1.sg.sig.path.length cs1) ∧ w'.cell? ⟨w2.heap.size, 9, none⟩ = some (.slice C1 B1.cos.length cc1)) (by kernel_rfl) (HCW.out _ HS.out) (fun hHeld => ?_)
   generalize wr.drew = wd at *
   refine ty 0 45 rfl rfl ?_; simp only [sa, sb, sc]
   refine ty 1 46 rfl rfl ?_; simp only [sa, sb, sc]
   refine ty 2 47 rfl rfl ?_; simp only [sa, sb, sc]
   refine ty 4 49 rfl rfl ?_; simp only [sa, sb, sc]
   refine rd 3 (by kernel_rfl) rfl (fun K hK => ?_)
   go_simp
   go_at_call 11
   refine (HPJ.out _ _ _ (H5.out.2.1.below HS.out) (fun g hg => Nat.lt_of_lt_of_le hg.2 (Nat.le_trans H5.out.2.2.2.1 HS.out.size))).mono ?_
   rintro e W3 ⟨v9, rfl, h1, h2⟩
   obtain ⟨lp, wp, rfl, k1, k2⟩ := h1
   obtain ⟨AL, cl, rfl⟩ := k1.form
   obtain ⟨AW, cw, rfl⟩ := k2.form
   have HP := Lib.hid (And.intro k1 k2)
   replace HS := Lib.hid (HS.out.trans (h2.mono HS.out.size))
   clear h2 k1 k2
   try dsimp only
   refine hK.out _ _ (HCW.out _ HS.out) (fun hHeld3 => ?_)
   clear hK K; try simp only [Act.put, sa, sb, sc]
   refine rd 5 (by kernel_rfl) rfl (fun K hK => ?_)
   go_simp
   go_at_call 16
   refine (HCJ.out _ _ _ ⟨_, _, rfl, HP.out.1, HP.out.2⟩ ⟨_, _, _, _, _, _, rfl, H5.out.1.below HS.out⟩).mono ?_
   rintro e W3_5 ⟨rfl, h2⟩
   replace HS := Lib.hid (HS.out.trans (h2.mono HS.out.size))
   clear h2 HP
   try dsimp only
   refine hK.out _ _ (HCW.out _ HS.out) (fun hHeld5 => ?_)
   clear hK K; try simp only [Act.put, sa, sb, sc]
   refine ty 6 51 rfl rfl ?_; simp only [sa, sb, sc]
   refine ty 7 52 rfl rfl ?_; simp only [sa, sb, sc]
   refine rd 8 (by kernel_rfl) rfl (fun K hK => ?_)
   go_simp
   go_at_call 17
   refine (HKN.out _).mono ?_
   rintro e W3_5_8 ⟨rfl, h2⟩
   replace HS := Lib.hid (HS.out.trans (h2.mono HS.out.size))
   clear h2
   try dsimp only
   refine hK.out _ _ (HCW.out _ HS.out) (fun hHeld8 => ?_)
   clear hK K; try simp only [Act.put, sa, sb, sc]
   refine ty 9 54 rfl rfl ?_; simp only [sa, sb, sc]
   refine ty 10 4 rfl rfl ?_; simp only [sa, sb, sc]
   refine wpAnyH_done (by kernel_rfl) ?_ _
   clear hHeld
   go_wp2
   go_ret
   exact ⟨rfl, H5.out.2.2.1.trans (HS.out.mono H5.out.2.2.1.size)⟩
end Go.Proofs.YtgeplpdcnanmnaaGreat
