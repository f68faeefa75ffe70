/- cosign's witness, count, Count, Met. Conditions: as each theorem states them. -/
import Derived.Test.YtgeplpdcnanmnaaGreatZbd
import Derived.Test.YtgeplpdcnanmnaaGreatZbn
import Derived.Test.YtgeplpdcnanmnaaGreatZaa
import Derived.Deep.DeepCutAuto
namespace Go.Proofs.YtgeplpdcnanmnaaGreat
open Go.RowKit
set_option linter.unusedVariables false
set_option linter.unusedSimpArgs false

theorem witness_any (n : Int) (w : World) :
  Calls Tryz.prog 150 #[.int .i64 n] w fun e w' => e = .returned (.bool (decide (0 ≤ n) && decide (n < 4))) ∧ w = w' := by
 go_enter Tryz.func150, Tryz.ntmps150
 by_cases h0 : 0 ≤ n
 ·by_cases h1 : n < 4
  ·go_wp2
   go_ret
   exact ⟨by simp; omega, rfl⟩
  ·go_wp2
   go_ret
   exact ⟨by simp; omega, rfl⟩
 ·go_wp2
  go_ret
  exact ⟨by simp; omega, rfl⟩
set_option maxRecDepth 100000 in
set_option maxHeartbeats 8000000 in
theorem pcount_any (vp vc vl : Value) (p : PolD) (c : CkD) (gs : List CgD) (hp : SmallPol p) (hr : c.root.length ≤ 100000000) (hs : ∀ g ∈ gs, SmallSig g.sig) (hgl : gs.length ≤ 1000000) (w : World) (hvp : PolV w vp p) (hvc : CkV w vc c) (hvl : CgsV w vl gs) :
  Calls Tryz.prog 182 #[vp, vc, vl, .func (.func 183) #[] #[]] w fun e w' => e = .returned (.int .i64 ((seenN p c gs gs.length).length : Nat)) ∧ Below w.heap.size w w' := by
 have HCS := Lib.hid (fun (g : CgD) (hg : SmallSig g.sig) (wz : World) (vp vc vg : Value) (z1 : PolV wz vp p) (z2 : CkV wz vc c) (z3 : CgV wz vg g) => pcgverify_any vp vc vg p c g hp hr hg wz z1 z2 z3)
 have HSM := Lib.hid hs
 have HWN := Lib.hid (fun (n : Int) (wz : World) => witness_any n wz)
 obtain ⟨l, ws, rfl, h1, h2⟩ := hvp
 obtain ⟨L, cl, rfl⟩ := h1.form
 obtain ⟨R, cr, rfl⟩ := h2.form
 obtain ⟨rt, rfl, h3⟩ := hvc
 obtain ⟨T, ct, rfl⟩ := h3.form
 obtain ⟨A, ca, rfl⟩ := hvl.form
 have HX := Lib.hid (And.intro h1 (And.intro h2 (And.intro h3 hvl)))
 clear h1 h2 h3 hvl hp hr hs
 obtain ⟨b3, k1, k2, k3⟩ := blk3 w [.slice L p.log.length cl, .slice R p.wits.length cr, .int .i64 p.quorum] [.int .i64 c.num, .slice T c.root.length ct] (cellsS []) 30 35 237 _ rfl
 have HW := Lib.hid (And.intro k1 (And.intro k2 (And.intro k3 b3)))
 clear k1 k2 k3 b3
 have HS0 : Hid (seenN p c gs 0 = []) := Lib.hid rfl
 have HSS : Hid (∀ i, seenN p c gs (i + 1) = if cgVerB p c (gs.getD i ⟨0, ⟨0, [], []⟩⟩) = true ∧ (gs.getD i ⟨0, ⟨0, [], []⟩⟩).wit ∉ seenN p c gs i then (gs.getD i ⟨0, ⟨0, [], []⟩⟩).wit :: seenN p c gs i else seenN p c gs i) := Lib.hid (fun i => rfl)
 have HSL := Lib.hid (fun i : Nat => seenN_le p c gs i)
 have HSW := Lib.hid (fun (g : CgD) (h : cgVerB p c g = true) => cgVerB_wit h)
 generalize seenN p c gs = sn at *
 go_enter Tryz.func182, Tryz.ntmps182
 go_wp2
 go_loopw [9, 15] (fun v9 v15 wr => ∃ i : Nat, v9 = .int .i64 ((sn i).length : Nat) ∧ v15 = .int .i64 i ∧ i ≤ gs.length ∧ Hid (Blk wr w.heap.size 30 [.slice L p.log.length cl, .slice R p.wits.length cr, .int .i64 p.quorum] ∧ Blk wr (w.heap.size + 1) 35 [.int .i64 c.num, .slice T c.root.length ct] ∧ Blk wr (w.heap.size + 1 + 1) 237 (cellsS (sn i)) ∧ Below w.heap.size w wr)) (fun _ v _ => gs.length - (intOf v).toNat)
 case atStart => exact ⟨0, by rw [HS0.out]; rfl, rfl, Nat.zero_le _, Lib.hid ⟨HW.out.1, HW.out.2.1, by rw [HS0.out]; exact HW.out.2.2.1, HW.out.2.2.2⟩⟩
 case round =>
  clear HW
  obtain ⟨i, rfl, rfl, hi, HI⟩ := hrel
  have hsl := HSL.out i
  by_cases hlt : i < gs.length
  ·obtain ⟨lg, lo, rfl, hlg, -, hroom, hroom2, hall⟩ := HX.out.2.2.2.get (by omega)
   obtain ⟨P1, cp1, Q1, cq1, e0, e1, e2, e3, e4, e5⟩ := hall i hlt
   have HGS : Hid (SmallSig (gs.getD i ⟨0, ⟨0, [], []⟩⟩).sig) := Lib.hid (HSM.out _ (by rw [List.getD_eq_getElem?_getD, List.getElem?_eq_getElem hlt]; exact List.getElem_mem hlt))
   have hss := HSS.out i
   have HE := Lib.hid (And.intro e4 e5)
   unfold maxLen at hroom2
   have HWT := Lib.hid (HSW.out (gs.getD i ⟨0, ⟨0, [], []⟩⟩))
   have HCG := Lib.hid (HCS.out (gs.getD i ⟨0, ⟨0, [], []⟩⟩) HGS.out)
   have HSN := Lib.hid hss
   generalize hVB : cgVerB p c (gs.getD i ⟨0, ⟨0, [], []⟩⟩) = VB at *
   clear hss hVB
   generalize gs.getD i ⟨0, ⟨0, [], []⟩⟩ = G at *
   have z5 := (HI.out.2.2.2.cell (p := ⟨lg, lo + i * 4, none⟩) hlg).trans e0
   have z6 := (HI.out.2.2.2.cell (p := ⟨lg, lo + i * 4 + 1, none⟩) hlg).trans e1
   have z7 := (HI.out.2.2.2.cell (p := ⟨lg, lo + i * 4 + 2, none⟩) hlg).trans e2
   have z8 := (HI.out.2.2.2.cell (p := ⟨lg, lo + i * 4 + 3, none⟩) hlg).trans e3
   clear hall e0 e1 e2 e3 e4 e5
   go_upto_region 6 with fail
   refine code_at (fun w2 => Blk w2 wr.heap.size 89 [.int .i64 G.wit, .int .i64 G.sig.index, .slice P1 G.sig.parts.length cp1, .slice Q1 G.sig.path.length cq1] ∧ Below wr.heap.size wr w2) ⟨Blk.new wr 89 [.int .i64 G.wit, .int .i64 G.sig.index, .slice P1 G.sig.parts.length cp1, .slice Q1 G.sig.path.length cq1], (Below.refl _ _).alloc (Nat.le_refl _) _⟩ ?_
   rintro w2 ⟨kB, kb⟩
   have H2 := Lib.hid (And.intro (HI.out.1.below kb) (And.intro (HI.out.2.1.below kb) (And.intro (HI.out.2.2.1.below kb) (HI.out.2.2.2.trans (kb.mono HI.out.2.2.2.size)))))
   have HB := Lib.hid kB
   have x0 := kB.cell 0 _ rfl
   have x1 := kB.cell 1 _ rfl
   have x2 := kB.cell 2 _ rfl
   have x3 := kB.cell 3 _ rfl
   clear z5 z6 z7 z8 kB kb hlg hroom hroom2
   generalize wr.heap.size = gb at *
   go_wp2_with fail
   refine (HWN.out _ _).mono ?_
   rintro e w' ⟨rfl, rfl⟩
   by_cases hw : 0 ≤ G.wit ∧ G.wit < 4
   ·obtain ⟨k, hk⟩ := Int.eq_ofNat_of_zero_le hw.1
    have HK := Lib.hid hk
    rw [decide_eq_true hw.1, decide_eq_true hw.2]
    rw [hk] at x0 hw
    have hk4 : k < 4 := by omega
    have z9 := H2.out.2.2.1.cell k _ (cellsS_at (sn i) k hk4)
    by_cases hin : (k : Int) ∈ sn i
    ·rw [decide_eq_true hin] at z9
     have HT : Hid (sn (i + 1) = sn i) := Lib.hid (by rw [HSN.out, if_neg (by rw [hk]; simp [hin])])
     clear hk hin hw
     go_wp2
     go_roundw
     case rel => exact ⟨i + 1, by rw [HT.out], by go_num, by omega, by rw [HT.out]; exact H2⟩
     case measure => simp [intOf]; omega
    ·rw [decide_eq_false hin] at z9
     have HT : Hid (VB = true → sn (i + 1) = (k : Int) :: sn i) := Lib.hid (by intro e; rw [HSN.out, if_pos ⟨e, by rw [hk]; exact hin⟩, hk])
     have HT2 : Hid (VB = false → sn (i + 1) = sn i) := Lib.hid (by intro e; rw [HSN.out, if_neg (by rw [e]; simp)])
     have y0 := H2.out.1.cell 0 _ rfl
     have y1 := H2.out.1.cell 1 _ rfl
     have y2 := H2.out.1.cell 2 _ rfl
     have y3 := H2.out.2.1.cell 0 _ rfl
     have y4 := H2.out.2.1.cell 1 _ rfl
     have hk0 : (0 : Int) ≤ (k : Int) := by omega
     have hk9 : (k : Int) < 4 := by omega
     clear hk hin hw
     go_wp2_with fail
     refine (HCG.out _ _ _ _ ⟨_, _, rfl, HX.out.1.below H2.out.2.2.2, HX.out.2.1.below H2.out.2.2.2⟩ ⟨_, rfl, HX.out.2.2.1.below H2.out.2.2.2⟩ ⟨_, _, by rw [HK.out], HE.out.1.below H2.out.2.2.2, HE.out.2.below H2.out.2.2.2⟩).mono ?_
     rintro e w3 ⟨rfl, hh⟩
     have H3 := Lib.hid (And.intro (H2.out.1.below hh) (And.intro (H2.out.2.1.below hh) (And.intro (H2.out.2.2.1.below hh) (H2.out.2.2.2.trans (hh.mono H2.out.2.2.2.size)))))
     have KB := HB.out.below hh
     clear x0 x1 x2 x3 y0 y1 y2 y3 y4 z9 hh
     have x0 := KB.cell 0 _ rfl
     rw [HK.out] at x0
     clear KB
     cases VB with
     | false =>
      go_wp2
      go_roundw
      case rel => exact ⟨i + 1, by rw [HT2.out trivial], by go_num, by omega, by rw [HT2.out trivial]; exact H3⟩
      case measure => simp [intOf]; omega
     | true =>
      have hlen : ((sn (i + 1)).length : Int) = ((sn i).length : Int) + 1 := by rw [HT.out (by trivial)]; simp
      have HLEN := Lib.hid hlen
      clear hlen
      have z9 := H3.out.2.2.1.cell k _ (cellsS_at (sn i) k hk4)
      have y9 := H3.out.2.2.1.free k
      go_wp2
      have hset : Chg w3 (w3.setCell ⟨w.heap.size + 1 + 1, k, none⟩ (.bool true)) (fun g => g = w.heap.size + 1 + 1) := chg_cell (Chg.refl _ _) k _
      have hB := H3.out.2.2.1.set k (.bool true) (by simp [cellsS]; omega)
      rw [cellsS_set (sn i) k hk4, ← HT.out (by trivial)] at hB
      have H4 : Hid (Blk (w3.setCell ⟨w.heap.size + 1 + 1, k, none⟩ (.bool true)) w.heap.size 30 [.slice L p.log.length cl, .slice R p.wits.length cr, .int .i64 p.quorum] ∧ Blk (w3.setCell ⟨w.heap.size + 1 + 1, k, none⟩ (.bool true)) (w.heap.size + 1) 35 [.int .i64 c.num, .slice T c.root.length ct] ∧ Blk (w3.setCell ⟨w.heap.size + 1 + 1, k, none⟩ (.bool true)) (w.heap.size + 1 + 1) 237 (cellsS (sn (i + 1))) ∧ Below w.heap.size w (w3.setCell ⟨w.heap.size + 1 + 1, k, none⟩ (.bool true))) := Lib.hid ⟨H3.out.1.chg hset (by omega), H3.out.2.1.chg hset (by omega), hB, H3.out.2.2.2.trans (hset.below H3.out.2.2.2.size (fun g hg => by have h : g = w.heap.size + 1 + 1 := hg; omega))⟩
      clear hset hB
      go_roundw
      case rel => exact ⟨i + 1, by rw [HLEN.out], by go_num, by omega, H4⟩
      case measure => simp [intOf]; omega
   ·have HT : Hid (sn (i + 1) = sn i) := Lib.hid (by
     rw [HSN.out, if_neg]
     rintro ⟨h, -⟩
     have := HWT.out h
     omega)
    have hwb : (decide (0 ≤ G.wit) && decide (G.wit < 4)) = false := by
     by_cases h0 : 0 ≤ G.wit
     ·rw [decide_eq_false (show ¬ G.wit < 4 by omega), Bool.and_false]
     ·rw [decide_eq_false h0, Bool.false_and]
    rw [hwb]
    clear hw hwb
    go_wp2
    go_roundw
    case rel => exact ⟨i + 1, by rw [HT.out], by go_num, by omega, by rw [HT.out]; exact H2⟩
    case measure => simp [intOf]; omega
  ·obtain rfl : i = gs.length := by omega
   go_wp2
   go_ret
   exact ⟨rfl, HI.out.2.2.2⟩
set_option maxRecDepth 100000 in
set_option maxHeartbeats 2000000 in
theorem pcountv_any (vp vc vl : Value) (p : PolD) (c : CkD) (gs : List CgD) (hp : SmallPol p) (hr : c.root.length ≤ 100000000) (hs : ∀ g ∈ gs, SmallSig g.sig) (hgl : gs.length ≤ 1000000) (w : World) (hvp : PolV w vp p) (hvc : CkV w vc c) (hvl : CgsV w vl gs) :
  Calls Tryz.prog 137 #[vp, vc, vl] w fun e w' => e = .returned (.int .i64 ((seenN p c gs gs.length).length : Nat)) ∧ Below w.heap.size w w' := by
 have HC := Lib.hid (fun (wz : World) (vp vc vl : Value) (z1 : PolV wz vp p) (z2 : CkV wz vc c) (z3 : CgsV wz vl gs) => pcount_any vp vc vl p c gs hp hr hs hgl wz z1 z2 z3)
 obtain ⟨l, ws, rfl, h1, h2⟩ := hvp
 obtain ⟨L, cl, rfl⟩ := h1.form
 obtain ⟨R, cr, rfl⟩ := h2.form
 obtain ⟨rt, rfl, h3⟩ := hvc
 obtain ⟨T, ct, rfl⟩ := h3.form
 obtain ⟨A, ca, rfl⟩ := hvl.form
 obtain ⟨b2, k1, k2⟩ := blk2 w [.slice L p.log.length cl, .slice R p.wits.length cr, .int .i64 p.quorum] [.int .i64 c.num, .slice T c.root.length ct] 30 35 _ rfl
 have HX := Lib.hid (And.intro (h1.below b2) (And.intro (h2.below b2) (And.intro (h3.below b2) (And.intro (hvl.below b2) b2))))
 have z0 := k1.cell 0 _ rfl
 have z1 := k1.cell 1 _ rfl
 have z2 := k1.cell 2 _ rfl
 have z3 := k2.cell 0 _ rfl
 have z4 := k2.cell 1 _ rfl
 clear h1 h2 h3 hvl hp hr hs k1 k2 b2
 generalize (seenN p c gs gs.length).length = K at *
 go_enter Tryz.func137, Tryz.ntmps137
 go_wp2_with fail
 refine (HC.out _ _ _ _ ⟨_, _, rfl, HX.out.1, HX.out.2.1⟩ ⟨_, rfl, HX.out.2.2.1⟩ HX.out.2.2.2.1).mono ?_
 rintro e w1 ⟨rfl, hh⟩
 have HB := Lib.hid (HX.out.2.2.2.2.trans (hh.mono (by simp; omega)))
 clear hh
 go_wp2
 go_ret
 exact ⟨rfl, HB.out⟩
end Go.Proofs.YtgeplpdcnanmnaaGreat
