/- The program's signatures are read: sign.Decode. What is signed and cosigned is read: check.Get, cosign.Get. Conditions: as each theorem states them. -/
import Derived.Test.YtgeplpdcnanmnaaGreatZbo
import Derived.Test.YtgeplpdcnanmnaaGreatZaw
import Derived.Test.YtgeplpdcnanmnaaGreatZbp
namespace Go.Proofs.YtgeplpdcnanmnaaGreat
open Go.RowKit
set_option linter.unusedVariables false
set_option linter.unusedSimpArgs false

def sdE (l : List UInt8) : Int := if sdB l = true then 0 else 12
def sdO (l : List UInt8) : SigD := if sdB l = true then sdP l else ⟨0, [], []⟩
theorem sig_store {w : World} {zb : Nat} (hB : Blk w zb 37 [.int .i64 0, .slice none 0 0, .slice none 0 0]) (u0 u1 u2 : Value) (W : World) (hW : W = ((w.setCell ⟨zb, 0, none⟩ u0).setCell ⟨zb, 1, none⟩ u1).setCell ⟨zb, 2, none⟩ u2) :
  Blk W zb 37 [u0, u1, u2] ∧ Chg w W (fun k => k = zb) := by
 subst hW
 exact ⟨((hB.set 0 u0 (by simp)).set 1 u1 (by simp)).set 2 u2 (by simp), chg_cell (chg_cell (chg_cell (Chg.refl _ _) 0 _) 1 _) 2 _⟩
set_option maxRecDepth 100000 in
set_option maxHeartbeats 8000000 in
theorem sdec_any (v : Value) (l : List UInt8) (hsm : l.length ≤ 1000000000) (w : World) (hv : Bys w v l) :
  Calls Tryz.prog 153 #[v] w fun e w' => ∃ u, e = .returned (.tuple #[u, .int .i64 (sdE l)]) ∧ SigF (fun g => w.heap.size < g) w' u (sdO l) ∧ Below w.heap.size w w' := by
 obtain ⟨A, c, rfl⟩ := hv.form
 have hz := (Below.refl w.heap.size w).alloc (Nat.le_refl _) (.cells #[.int .i64 0, .slice none 0 0, .slice none 0 0] 37)
 have kz := Blk.new w 37 [.int .i64 0, .slice none 0 0, .slice none 0 0]
 have HZ0 := Lib.hid (And.intro kz (And.intro hz (hv.below hz)))
 clear hz kz hv
 go_enter Tryz.func153, Tryz.ntmps153
 go_wp2_with fail
 refine calls_at (fun w0 => Blk w0 w.heap.size 37 [.int .i64 0, .slice none 0 0, .slice none 0 0] ∧ Below w.heap.size w w0 ∧ Bys w0 (.slice A l.length c) l) HZ0.out ?_
 rintro w0 ⟨k0, kb, kv⟩
 have hzl := k0.lt
 clear HZ0
 generalize hzb : w.heap.size = zb at *
 have HZB := Lib.hid hzb
 clear hzb
 refine (read_any _ l (by omega) w0 kv).mono ?_
 rintro e w1 ⟨rb, rfl, h1, h2, h3⟩
 have hzr : zb < rb := by omega
 have HZ := Lib.hid (k0.below h3)
 have HB := Lib.hid (kb.trans (h3.mono (by have := kb.size; omega)))
 have HR := Lib.hid h1
 clear h1 h2 h3 k0 kb kv hzl
 have HD : Hid (∀ g, (fun g => w0.heap.size ≤ g ∧ g < rb) g → g < rb) := Lib.hid (fun g h => h.2)
 generalize (fun g => w0.heap.size ≤ g ∧ g < rb) = D at *
 have HE : Hid (sdE l = if sdB l = true then 0 else 12) := Lib.hid rfl
 have HO : Hid (sdO l = if sdB l = true then sdP l else ⟨0, [], []⟩) := Lib.hid rfl
 have HSB : Hid (sdB l = (rend (sdR l) && rightB (sdP l))) := Lib.hid rfl
 have HSP : Hid (sdP l = ⟨rnumV ⟨l, false⟩ 4, someV (rtakN ⟨l, false⟩ 4) 64, someV (someN (rtakN ⟨l, false⟩ 4) 64) 4⟩) := Lib.hid rfl
 have HSR : Hid (sdR l = someN (someN (rtakN ⟨l, false⟩ 4) 64) 4) := Lib.hid rfl
 have hnv := rnumV_lt ⟨l, false⟩ 4 (by decide)
 have hn0 : 0 ≤ rnumV ⟨l, false⟩ 4 := hnv.1
 have hn1 : rnumV ⟨l, false⟩ 4 < 4294967296 := hnv.2
 have HNM := Lib.hid (fun (wz : World) (z : RdW D wz rb ⟨l, false⟩) => num_any D rb ⟨l, false⟩ hsm wz z)
 have hs1 : (rtakN ⟨l, false⟩ 4).l.length ≤ 1000000000 := Nat.le_trans (rtakN_length ⟨l, false⟩ 4) hsm
 have HS1 := Lib.hid (fun (wz : World) (hz : ∀ g, D g → g < wz.heap.size) (z : RdW D wz rb (rtakN ⟨l, false⟩ 4)) => some_any D rb (rtakN ⟨l, false⟩ 4) 64 (by decide) hs1 wz hz z)
 have hs2 : (someN (rtakN ⟨l, false⟩ 4) 64).l.length ≤ 1000000000 := Nat.le_trans (someN_length _ 64) hs1
 have HS2 := Lib.hid (fun (wz : World) (hz : ∀ g, D g → g < wz.heap.size) (z : RdW D wz rb (someN (rtakN ⟨l, false⟩ 4) 64)) => some_any D rb (someN (rtakN ⟨l, false⟩ 4) 64) 4 (by decide) hs2 wz hz z)
 have hl1 := someV_length (rtakN ⟨l, false⟩ 4) 64
 have hl2 := someV_length (someN (rtakN ⟨l, false⟩ 4) 64) 4
 clear hnv hs1 hs2
 generalize sdB l = SB at *
 generalize sdP l = SP at *
 generalize sdR l = SR at *
 generalize rnumV ⟨l, false⟩ 4 = IX at *
 generalize rtakN ⟨l, false⟩ 4 = r1 at *
 generalize someV r1 64 = PS at *
 generalize someN r1 64 = r2 at *
 generalize someV r2 4 = QS at *
 generalize someN r2 4 = r3 at *
 have HLN := Lib.hid (And.intro hl1 hl2)
 clear hl1 hl2
 go_wp2_with fail
 refine (HNM.out _ HR.out).mono ?_
 rintro e w2 ⟨rfl, h1, h2⟩
 replace HR := Lib.hid h1
 replace HZ := Lib.hid (HZ.out.chg h2 (by omega))
 replace HB := Lib.hid (HB.out.trans (h2.below (by have := HB.out.size; have := HZB.out; omega) (fun k hk => by have h9 : k = rb := hk; omega)))
 have hrl := HR.out.lt
 clear h1 h2
 go_wp2_with fail
 refine (HS1.out _ (fun g hg => Nat.lt_trans (HD.out g hg) hrl) HR.out).mono ?_
 rintro e w3 ⟨vp, rfl, h1, h2, h3⟩
 obtain ⟨P, cp, rfl⟩ := h1.rws.form
 have HP := Lib.hid (h1.foot.mono (T := fun g => rb < g) (fun g hg => Nat.lt_of_lt_of_le hrl hg.1))
 replace HR := Lib.hid h2
 replace HZ := Lib.hid (HZ.out.chg h3 (by omega))
 replace HB := Lib.hid (HB.out.trans (h3.below (by have := HB.out.size; have := HZB.out; omega) (fun k hk => by have h9 : k = rb := hk; omega)))
 have hrl3 := HR.out.lt
 clear h1 h2 h3 hrl
 go_wp2_with fail
 refine (HS2.out _ (fun g hg => Nat.lt_trans (HD.out g hg) hrl3) HR.out).mono ?_
 rintro e w4 ⟨vq, rfl, h1, h2, h3⟩
 obtain ⟨Q, cq, rfl⟩ := h1.rws.form
 have HQ := Lib.hid (h1.foot.mono (T := fun g => rb < g) (fun g hg => Nat.lt_of_lt_of_le hrl3 hg.1))
 replace HP := Lib.hid (HP.out.chg h3 (fun g hg e => by have h9 : rb < g := hg; have h8 : g = rb := e; omega))
 replace HR := Lib.hid h2
 replace HZ := Lib.hid (HZ.out.chg h3 (by omega))
 replace HB := Lib.hid (HB.out.trans (h3.below (by have := HB.out.size; have := HZB.out; omega) (fun k hk => by have h9 : k = rb := hk; omega)))
 clear h1 h2 h3 hrl3
 go_upto_region 3 with fail
 refine code_at (fun w5 => Blk w5 w4.heap.size 37 [.int .i64 IX, .slice P PS.length cp, .slice Q QS.length cq] ∧ Below w4.heap.size w4 w5) ⟨Blk.new _ _ [.int .i64 IX, .slice P PS.length cp, .slice Q QS.length cq], (Below.refl _ _).alloc (Nat.le_refl _) _⟩ ?_
 rintro w5 ⟨kS, kb⟩
 have HS := Lib.hid kS
 replace HP := Lib.hid (HP.out.below kb)
 replace HQ := Lib.hid (HQ.out.below kb)
 replace HR := Lib.hid (HR.out.below kb)
 replace HZ := Lib.hid (HZ.out.below kb)
 replace HB := Lib.hid (HB.out.trans (kb.mono (by have := HB.out.size; have := HZB.out; omega)))
 generalize w4.heap.size = sb at *
 have HEN := Lib.hid (end_any D rb r3 w5 HR.out)
 clear kS kb HNM HS1 HS2
 go_wp2_with fail
 refine HEN.out.mono ?_
 rintro e w' ⟨rfl, rfl⟩
 have hend : ∀ (W : World) (hB : Blk W zb 37 [.int .i64 0, .slice none 0 0, .slice none 0 0]) (hb : Below zb w W), SB = false → ∃ W', W' = ((W.setCell ⟨zb, 0, none⟩ (.int .i64 0)).setCell ⟨zb, 1, none⟩ (.slice none 0 0)).setCell ⟨zb, 2, none⟩ (.slice none 0 0) ∧ Blk W' zb 37 [.int .i64 0, .slice none 0 0, .slice none 0 0] ∧ Below zb w W' := fun W hB hb _ =>
  ⟨_, rfl, (sig_store hB _ _ _ _ rfl).1, hb.trans ((sig_store hB (.int .i64 0) (.slice none 0 0) (.slice none 0 0) _ rfl).2.below (by have := hb.size; have := HZB.out; omega) (fun k hk => Nat.le_of_eq hk.symm))⟩
 have HEND := Lib.hid hend
 clear hend
 cases hre : rend r3 with
 | false =>
  have HSB2 : Hid (SB = false) := Lib.hid (by rw [HSB.out, HSR.out, hre]; rfl)
  have z0 := HZ.out.cell 0 _ rfl
  have z1 := HZ.out.cell 1 _ rfl
  have z2 := HZ.out.cell 2 _ rfl
  have y0 := HZ.out.free 0
  have y1 := HZ.out.free 1
  have y2 := HZ.out.free 2
  go_wp2
  obtain ⟨W', hW', hb1, hb2⟩ := HEND.out w5 HZ.out HB.out HSB2.out
  rw [HE.out, HO.out, if_neg (by rw [HSB2.out]; decide), if_neg (by rw [HSB2.out]; decide)]
  rw [← hW']
  refine bodyPost_ret (v := .tuple #[.agg [.int .i64 0, .slice none 0 0, .slice none 0 0].toArray, .int .i64 12]) ?_ ?_ ⟨_, rfl, ⟨_, _, rfl, ?_, ?_⟩, ?_⟩
  ·exact results_row_tmp Tryz.results153 _ _ zb 37 _ (0, 0) _ rfl hb1 under_sig rfl size_sig _ rfl
  ·rfl
  ·exact ⟨[], Sho.nil _ 1, fun h => absurd h (Nat.lt_irrefl _), fun i hi => absurd hi (Nat.not_lt_zero _)⟩
  ·exact ⟨[], Sho.nil _ 1, fun h => absurd h (Nat.lt_irrefl _), fun i hi => absurd hi (Nat.not_lt_zero _)⟩
  ·rw [HZB.out]
   exact hb2
 | true =>
  have s0 := HS.out.cell 0 _ rfl
  have s1 := HS.out.cell 1 _ rfl
  have s2 := HS.out.cell 2 _ rfl
  have HRT := Lib.hid (pright_any (.agg #[.int .i64 IX, .slice P PS.length cp, .slice Q QS.length cq]) ⟨IX, PS, QS⟩ (by show PS.length ≤ _; rw [HLN.out.1]; decide) (by show QS.length ≤ _; rw [HLN.out.2]; decide) w5 ⟨_, _, rfl, HP.out.rws, HQ.out.rws⟩)
  have HSB2 : Hid (SB = rightB ⟨IX, PS, QS⟩) := Lib.hid (by rw [HSB.out, HSR.out, hre, HSP.out]; rfl)
  generalize rightB ⟨IX, PS, QS⟩ = RB at *
  go_wp2_with fail
  refine HRT.out.mono ?_
  rintro e w6 ⟨rfl, h1⟩
  replace HP := Lib.hid (HP.out.below h1)
  replace HQ := Lib.hid (HQ.out.below h1)
  replace HZ := Lib.hid (HZ.out.below h1)
  replace HS := Lib.hid (HS.out.below h1)
  replace HB := Lib.hid (HB.out.trans (h1.mono (by have := HB.out.size; have := HZB.out; omega)))
  clear h1 s0 s1 s2
  have z0 := HZ.out.cell 0 _ rfl
  have z1 := HZ.out.cell 1 _ rfl
  have z2 := HZ.out.cell 2 _ rfl
  have y0 := HZ.out.free 0
  have y1 := HZ.out.free 1
  have y2 := HZ.out.free 2
  cases RB with
  | false =>
   go_wp2
   obtain ⟨W', hW', hb1, hb2⟩ := HEND.out w6 HZ.out HB.out HSB2.out
   rw [HE.out, HO.out, if_neg (by rw [HSB2.out]; decide), if_neg (by rw [HSB2.out]; decide)]
   rw [← hW']
   refine bodyPost_ret (v := .tuple #[.agg [.int .i64 0, .slice none 0 0, .slice none 0 0].toArray, .int .i64 12]) ?_ ?_ ⟨_, rfl, ⟨_, _, rfl, ?_, ?_⟩, ?_⟩
   ·exact results_row_tmp Tryz.results153 _ _ zb 37 _ (0, 0) _ rfl hb1 under_sig rfl size_sig _ rfl
   ·rfl
   ·exact ⟨[], Sho.nil _ 1, fun h => absurd h (Nat.lt_irrefl _), fun i hi => absurd hi (Nat.not_lt_zero _)⟩
   ·exact ⟨[], Sho.nil _ 1, fun h => absurd h (Nat.lt_irrefl _), fun i hi => absurd hi (Nat.not_lt_zero _)⟩
   ·rw [HZB.out]
    exact hb2
  | true =>
   have s0 := HS.out.cell 0 _ rfl
   have s1 := HS.out.cell 1 _ rfl
   have s2 := HS.out.cell 2 _ rfl
   go_wp2
   have hst := sig_store HZ.out (.int .i64 IX) (.slice P PS.length cp) (.slice Q QS.length cq) _ rfl
   rw [HE.out, HO.out, if_pos HSB2.out, if_pos HSB2.out, HSP.out]
   refine bodyPost_ret (v := .tuple #[.agg [.int .i64 IX, .slice P PS.length cp, .slice Q QS.length cq].toArray, .int .i64 0]) ?_ ?_ ⟨_, rfl, ⟨_, _, rfl, ?_, ?_⟩, ?_⟩
   ·exact results_row_tmp Tryz.results153 _ _ zb 37 _ (0, 0) _ rfl hst.1 under_sig rfl size_sig _ rfl
   ·rfl
   ·rw [HZB.out]
    exact (HP.out.chg hst.2 (fun g hg e => by have h9 : rb < g := hg; have h8 : g = zb := e; omega)).mono (fun g hg => Nat.lt_trans hzr hg)
   ·rw [HZB.out]
    exact (HQ.out.chg hst.2 (fun g hg e => by have h9 : rb < g := hg; have h8 : g = zb := e; omega)).mono (fun g hg => Nat.lt_trans hzr hg)
   ·rw [HZB.out]
    exact HB.out.trans (hst.2.below (by have := HB.out.size; have := HZB.out; omega) (fun k hk => Nat.le_of_eq hk.symm))
def sgO (r : RdD) : SgD := if sgGetB r = true then sgGetP r else ⟨⟨0, []⟩, ⟨0, [], []⟩⟩
theorem sg_store {w : World} {zb : Nat} (hB : Blk w zb 39 [.int .i64 0, .slice none 0 0, .int .i64 0, .slice none 0 0, .slice none 0 0]) (u0 : Value) (u1 : Value) (u2 : Value) (u3 : Value) (u4 : Value) (W : World) (hW : W = (((((w.setCell ⟨zb, 0, none⟩ u0).setCell ⟨zb, 1, none⟩ u1).setCell ⟨zb, 2, none⟩ u2).setCell ⟨zb, 3, none⟩ u3).setCell ⟨zb, 4, none⟩ u4)) : Blk W zb 39 [u0, u1, u2, u3, u4] ∧ Chg w W (fun k => k = zb) := by
 subst hW
 exact ⟨(((((hB.set 0 u0 (by simp)).set 1 u1 (by simp)).set 2 u2 (by simp)).set 3 u3 (by simp)).set 4 u4 (by simp)), (chg_cell (chg_cell (chg_cell (chg_cell (chg_cell (Chg.refl _ _) 0 _) 1 _) 2 _) 3 _) 4 _)⟩
set_option maxRecDepth 100000 in
set_option maxHeartbeats 8000000 in
theorem pckget_any (D : Nat → Prop) (b : Nat) (r : RdD) (hsm : r.l.length ≤ 1000000000) (w : World) (hD : ∀ g, D g → g < w.heap.size) (h : RdW D w b r) :
  Calls Tryz.prog 94 #[.pointer (some ⟨b, 0, none⟩)] w fun e w' => ∃ u, e = .returned (.tuple #[u, .bool (sgGetB r)]) ∧ SgF (fun g => w.heap.size < g) w' u (sgO r) ∧ RdW D w' b (sgGetR r) ∧ Chg w w' (fun k => k = b) := by
 have hbz := h.lt
 have hz := (Below.refl w.heap.size w).alloc (Nat.le_refl _) (.cells #[.int .i64 0, .slice none 0 0, .int .i64 0, .slice none 0 0, .slice none 0 0] 39)
 have HZ := Lib.hid (Blk.new w 39 [.int .i64 0, .slice none 0 0, .int .i64 0, .slice none 0 0, .slice none 0 0])
 have HR := Lib.hid (h.below hz)
 have HC : Hid (Chg w (w.alloc (.cells #[.int .i64 0, .slice none 0 0, .int .i64 0, .slice none 0 0, .slice none 0 0] 39)) (fun k => k = b)) := Lib.hid (Chg.of_below hz)
 have HDD := Lib.hid hD
 clear hz h hD
 have HE : Hid (sgGetB r = (sdB (rtakV (rtakN (rtakN r 4) 32) 2180) && ckB ⟨rnumV r 4, rtakV (rtakN r 4) 32⟩)) := Lib.hid rfl
 have HO : Hid (sgO r = if sgGetB r = true then (⟨⟨rnumV r 4, rtakV (rtakN r 4) 32⟩, sdP (rtakV (rtakN (rtakN r 4) 32) 2180)⟩ : SgD) else ⟨⟨0, []⟩, ⟨0, [], []⟩⟩) := Lib.hid rfl
 have HRR : Hid (sgGetR r = rtakN (rtakN (rtakN r 4) 32) 2180) := Lib.hid rfl
 have hs1 : (rtakN r 4).l.length ≤ 1000000000 := Nat.le_trans (rtakN_length r 4) hsm
 have hs2 : (rtakN (rtakN r 4) 32).l.length ≤ 1000000000 := Nat.le_trans (rtakN_length _ 32) hs1
 have hnv := rnumV_lt r 4 (by decide)
 have hn0 : 0 ≤ rnumV r 4 := hnv.1
 have hn1 : rnumV r 4 < 4294967296 := hnv.2
 have HNM := Lib.hid (fun (wz : World) (z : RdW D wz b r) => num_any D b r hsm wz z)
 have HRT := Lib.hid (fun (wz : World) (z : RdW D wz b (rtakN r 4)) => raw_any D b (rtakN r 4) 32 hs1 wz z)
 have hx1 : (rtakV (rtakN r 4) 32).length ≤ 1000000000 := Nat.le_trans (rtakV_length _ _) hs1
 have HRX := Lib.hid (fun (wz : World) (z : RdW D wz b (rtakN (rtakN r 4) 32)) => raw_any D b (rtakN (rtakN r 4) 32) 2180 hs2 wz z)
 have hx2 : (rtakV (rtakN (rtakN r 4) 32) 2180).length ≤ 1000000000 := Nat.le_trans (rtakV_length _ _) hs2
 have HSD := Lib.hid (fun (wz : World) (u : Value) (z : Bys wz u (rtakV (rtakN (rtakN r 4) 32) 2180)) => sdec_any u (rtakV (rtakN (rtakN r 4) 32) 2180) hx2 wz z)
 clear hnv hs2 hx2 hs1
 generalize rnumV r 4 = IX at *
 generalize rtakV (rtakN r 4) 32 = RT at *
 generalize rtakV (rtakN (rtakN r 4) 32) 2180 = X at *
 generalize rtakN (rtakN (rtakN r 4) 32) 2180 = r3 at *
 generalize rtakN (rtakN r 4) 32 = r2 at *
 generalize rtakN r 4 = r1 at *
 have HSE : Hid (sdE X = if sdB X = true then 0 else 12) := Lib.hid rfl
 have HSO : Hid (sdB X = true → sdO X = sdP X) := Lib.hid (fun e => by unfold sdO; rw [if_pos e])
 generalize sdE X = SE at *
 generalize sdO X = SO at *
 generalize sdP X = SP at *
 generalize sdB X = SB at *
 go_enter Tryz.func94, Tryz.ntmps94
 go_wp2_with fail
 refine calls_at (fun w0 => Hid (Blk w0 w.heap.size 39 [.int .i64 0, .slice none 0 0, .int .i64 0, .slice none 0 0, .slice none 0 0] ∧ RdW D w0 b r ∧ Chg w w0 (fun k => k = b))) (Lib.hid ⟨HZ.out, HR.out, HC.out⟩) ?_
 clear HZ HR HC
 rintro w0 H0
 have HZ := Lib.hid H0.out.1
 have HR := Lib.hid H0.out.2.1
 have HC := Lib.hid H0.out.2.2
 clear H0
 generalize hzb : w.heap.size = zb at *
 have HZB := Lib.hid hzb
 clear hzb
 refine (HNM.out _ HR.out).mono ?_
 rintro e w1 ⟨rfl, h1, h2⟩
 replace HR := Lib.hid h1
 replace HZ := Lib.hid (HZ.out.chg h2 (by omega))
 replace HC := Lib.hid (HC.out.trans h2 (fun _ _ h => h))
 clear h1 h2 HNM
 go_wp2_with fail
 refine (HRT.out _ HR.out).mono ?_
 rintro e w2 ⟨vr, rfl, h1, h2, h3⟩
 obtain ⟨R, cr, rfl⟩ := h1.form
 have hlz := HZ.out.lt
 have HRB := Lib.hid (h1.foot.mono (T := fun g => zb < g) (fun g hg => Nat.lt_of_lt_of_le hlz hg.1))
 replace HR := Lib.hid h2
 replace HZ := Lib.hid (HZ.out.chg h3 (by omega))
 replace HC := Lib.hid (HC.out.trans h3 (fun _ _ h => h))
 clear h1 h2 h3 hlz HRT
 go_wp2_with fail
 refine calls_at (fun w3 => Blk w3 w2.heap.size 35 [.int .i64 IX, .slice R RT.length cr] ∧ Below w2.heap.size w2 w3) ⟨Blk.new _ _ [.int .i64 IX, .slice R RT.length cr], (Below.refl _ _).alloc (Nat.le_refl _) _⟩ ?_
 rintro w3 ⟨kS, kb⟩
 have hlz := HZ.out.lt
 have hrl := HR.out.lt
 have HK := Lib.hid (And.intro kS (show zb < w2.heap.size from hlz))
 replace HR := Lib.hid (HR.out.below kb)
 replace HZ := Lib.hid (HZ.out.below kb)
 replace HRB := Lib.hid (HRB.out.below kb)
 replace HC := Lib.hid (HC.out.trans (Chg.of_below (S := fun _ => False) kb) (fun _ _ h => h.elim))
 generalize w2.heap.size = kbk at *
 have hbk : b ≠ kbk := by omega
 clear kS kb hlz hrl
 refine (HRX.out _ HR.out).mono ?_
 rintro e w4 ⟨vx, rfl, h1, h2, h3⟩
 obtain ⟨XA, xc, rfl⟩ := h1.form
 have HX := Lib.hid h1.bys
 replace HR := Lib.hid h2
 replace HZ := Lib.hid (HZ.out.chg h3 (by omega))
 replace HK := Lib.hid (And.intro (HK.out.1.chg h3 (fun e => hbk e.symm)) HK.out.2)
 replace HRB := Lib.hid (HRB.out.chg h3 (fun g hg e => by have h9 : zb < g := hg; have h8 : g = b := e; omega))
 replace HC := Lib.hid (HC.out.trans h3 (fun _ _ h => h))
 clear h1 h2 h3 HRX
 go_wp2_with fail
 refine (HSD.out _ _ HX.out).mono ?_
 rintro e w5 ⟨u5, rfl, h1, h2⟩
 obtain ⟨vp, vq, rfl, h3, h4⟩ := h1
 obtain ⟨P, cp, rfl⟩ := h3.rws.form
 obtain ⟨Q, cq, rfl⟩ := h4.rws.form
 have hlz := HZ.out.lt
 have HP := Lib.hid (h3.mono (T := fun g => zb < g) (fun g hg => Nat.lt_trans hlz hg))
 have HQ := Lib.hid (h4.mono (T := fun g => zb < g) (fun g hg => Nat.lt_trans hlz hg))
 replace HR := Lib.hid (HR.out.below h2)
 replace HZ := Lib.hid (HZ.out.below h2)
 replace HK := Lib.hid (And.intro (HK.out.1.below h2) HK.out.2)
 replace HRB := Lib.hid (HRB.out.below h2)
 replace HC := Lib.hid (HC.out.trans (Chg.of_below (S := fun _ => False) h2) (fun _ _ h => h.elim))
 clear h2 h3 h4 hlz HX HSD
 go_upto_region 5 with fail
 refine code_at (fun w6 => Blk w6 w5.heap.size 37 [.int .i64 SO.index, .slice P SO.parts.length cp, .slice Q SO.path.length cq] ∧ Below w5.heap.size w5 w6) ⟨Blk.new _ _ [.int .i64 SO.index, .slice P SO.parts.length cp, .slice Q SO.path.length cq], (Below.refl _ _).alloc (Nat.le_refl _) _⟩ ?_
 rintro w6 ⟨kS, kb⟩
 have HS := Lib.hid kS
 replace HP := Lib.hid (HP.out.below kb)
 replace HQ := Lib.hid (HQ.out.below kb)
 replace HR := Lib.hid (HR.out.below kb)
 replace HZ := Lib.hid (HZ.out.below kb)
 replace HK := Lib.hid (And.intro (HK.out.1.below kb) HK.out.2)
 replace HRB := Lib.hid (HRB.out.below kb)
 replace HC := Lib.hid (HC.out.trans (Chg.of_below (S := fun _ => False) kb) (fun _ _ h => h.elim))
 generalize w5.heap.size = sb at *
 clear kS kb
 cases SB with
 | false =>
  have he : SE = 12 := by rw [HSE.out]; rfl
  subst he
  have HB2 : Hid (sgGetB r = false) := Lib.hid (by rw [HE.out]; rfl)
  have z0 := HZ.out.cell 0 _ rfl
  have z1 := HZ.out.cell 1 _ rfl
  have z2 := HZ.out.cell 2 _ rfl
  have z3 := HZ.out.cell 3 _ rfl
  have z4 := HZ.out.cell 4 _ rfl
  have y0 := HZ.out.free 0
  have y1 := HZ.out.free 1
  have y2 := HZ.out.free 2
  have y3 := HZ.out.free 3
  have y4 := HZ.out.free 4
  go_wp2
  have hst := sg_store HZ.out (.int .i64 0) (.slice none 0 0) (.int .i64 0) (.slice none 0 0) (.slice none 0 0) _ rfl
  rw [HO.out, if_neg (by rw [HB2.out]; decide), HB2.out, HRR.out]
  refine bodyPost_ret (v := .tuple #[.agg [.int .i64 0, .slice none 0 0, .int .i64 0, .slice none 0 0, .slice none 0 0].toArray, .bool false]) ?_ ?_ ⟨_, rfl, ⟨_, _, _, rfl, ?_, ?_, ?_⟩, ?_, ?_⟩
  ·exact results_row_tmp Tryz.results94 _ _ zb 39 _ (0, 0) _ rfl hst.1 under_signed rfl size_signed _ rfl
  ·rfl
  ·exact ⟨Sho.nil _ 1, fun h => absurd h (Nat.lt_irrefl _)⟩
  ·exact ⟨[], Sho.nil _ 1, fun h => absurd h (Nat.lt_irrefl _), fun i hi => absurd hi (Nat.not_lt_zero _)⟩
  ·exact ⟨[], Sho.nil _ 1, fun h => absurd h (Nat.lt_irrefl _), fun i hi => absurd hi (Nat.not_lt_zero _)⟩
  ·exact HR.out.chg hst.2 (fun g hg e => by have h8 : g = zb := e; have := HDD.out g hg; have := HZB.out; omega) (by omega)
  ·exact HC.out.trans hst.2 (fun i hi e => by have h8 : i = zb := e; have := HZB.out; omega)
 | true =>
  have he : SE = 0 := by rw [HSE.out]; rfl
  subst he
  have s0 := HS.out.cell 0 _ rfl
  have s1 := HS.out.cell 1 _ rfl
  have s2 := HS.out.cell 2 _ rfl
  have k0 := HK.out.1.cell 0 _ rfl
  have k1 := HK.out.1.cell 1 _ rfl
  have HCK := Lib.hid (pckright_any (.agg #[.int .i64 IX, .slice R RT.length cr]) ⟨IX, RT⟩ hx1 w6 ⟨_, rfl, HRB.out.1⟩)
  have HB3 : Hid (sgGetB r = ckB ⟨IX, RT⟩) := Lib.hid (by rw [HE.out, Bool.true_and])
  generalize ckB ⟨IX, RT⟩ = KB at *
  go_wp2_with fail
  refine HCK.out.mono ?_
  rintro e w7 ⟨rfl, h1⟩
  replace HP := Lib.hid (HP.out.below h1)
  replace HQ := Lib.hid (HQ.out.below h1)
  replace HR := Lib.hid (HR.out.below h1)
  replace HZ := Lib.hid (HZ.out.below h1)
  replace HS := Lib.hid (HS.out.below h1)
  replace HK := Lib.hid (And.intro (HK.out.1.below h1) HK.out.2)
  replace HRB := Lib.hid (HRB.out.below h1)
  replace HC := Lib.hid (HC.out.trans (Chg.of_below (S := fun _ => False) h1) (fun _ _ h => h.elim))
  clear h1 s0 s1 s2 k0 k1 HCK
  have z0 := HZ.out.cell 0 _ rfl
  have z1 := HZ.out.cell 1 _ rfl
  have z2 := HZ.out.cell 2 _ rfl
  have z3 := HZ.out.cell 3 _ rfl
  have z4 := HZ.out.cell 4 _ rfl
  have y0 := HZ.out.free 0
  have y1 := HZ.out.free 1
  have y2 := HZ.out.free 2
  have y3 := HZ.out.free 3
  have y4 := HZ.out.free 4
  cases KB with
  | false =>
   have HB2 : Hid (sgGetB r = false) := Lib.hid HB3.out
   go_wp2
   have hst := sg_store HZ.out (.int .i64 0) (.slice none 0 0) (.int .i64 0) (.slice none 0 0) (.slice none 0 0) _ rfl
   rw [HO.out, if_neg (by rw [HB2.out]; decide), HB2.out, HRR.out]
   refine bodyPost_ret (v := .tuple #[.agg [.int .i64 0, .slice none 0 0, .int .i64 0, .slice none 0 0, .slice none 0 0].toArray, .bool false]) ?_ ?_ ⟨_, rfl, ⟨_, _, _, rfl, ?_, ?_, ?_⟩, ?_, ?_⟩
   ·exact results_row_tmp Tryz.results94 _ _ zb 39 _ (0, 0) _ rfl hst.1 under_signed rfl size_signed _ rfl
   ·rfl
   ·exact ⟨Sho.nil _ 1, fun h => absurd h (Nat.lt_irrefl _)⟩
   ·exact ⟨[], Sho.nil _ 1, fun h => absurd h (Nat.lt_irrefl _), fun i hi => absurd hi (Nat.not_lt_zero _)⟩
   ·exact ⟨[], Sho.nil _ 1, fun h => absurd h (Nat.lt_irrefl _), fun i hi => absurd hi (Nat.not_lt_zero _)⟩
   ·exact HR.out.chg hst.2 (fun g hg e => by have h8 : g = zb := e; have := HDD.out g hg; have := HZB.out; omega) (by omega)
   ·exact HC.out.trans hst.2 (fun i hi e => by have h8 : i = zb := e; have := HZB.out; omega)
  | true =>
   have HB2 : Hid (sgGetB r = true) := Lib.hid HB3.out
   have s0 := HS.out.cell 0 _ rfl
   have s1 := HS.out.cell 1 _ rfl
   have s2 := HS.out.cell 2 _ rfl
   have k0 := HK.out.1.cell 0 _ rfl
   have k1 := HK.out.1.cell 1 _ rfl
   go_wp2
   have hst := sg_store HZ.out (.int .i64 IX) (.slice R RT.length cr) (.int .i64 SO.index) (.slice P SO.parts.length cp) (.slice Q SO.path.length cq) _ rfl
   rw [HO.out, if_pos HB2.out, HB2.out, HRR.out, ← HSO.out (by trivial)]
   refine bodyPost_ret (v := .tuple #[.agg [.int .i64 IX, .slice R RT.length cr, .int .i64 SO.index, .slice P SO.parts.length cp, .slice Q SO.path.length cq].toArray, .bool true]) ?_ ?_ ⟨_, rfl, ⟨_, _, _, rfl, ?_, ?_, ?_⟩, ?_, ?_⟩
   ·exact results_row_tmp Tryz.results94 _ _ zb 39 _ (0, 0) _ rfl hst.1 under_signed rfl size_signed _ rfl
   ·rfl
   ·rw [HZB.out]
    exact HRB.out.chg hst.2 (fun g hg e => by have h9 : zb < g := hg; have h8 : g = zb := e; omega)
   ·rw [HZB.out]
    exact HP.out.chg hst.2 (fun g hg e => by have h9 : zb < g := hg; have h8 : g = zb := e; omega)
   ·rw [HZB.out]
    exact HQ.out.chg hst.2 (fun g hg e => by have h9 : zb < g := hg; have h8 : g = zb := e; omega)
   ·exact HR.out.chg hst.2 (fun g hg e => by have h8 : g = zb := e; have := HDD.out g hg; have := HZB.out; omega) (by omega)
   ·exact HC.out.trans hst.2 (fun i hi e => by have h8 : i = zb := e; have := HZB.out; omega)
def cgO (r : RdD) : CgD := if cgGetB r = true then cgGetP r else ⟨0, ⟨0, [], []⟩⟩
theorem cgs_store {w : World} {zb : Nat} (hB : Blk w zb 89 [.int .i64 0, .int .i64 0, .slice none 0 0, .slice none 0 0]) (u0 : Value) (u1 : Value) (u2 : Value) (u3 : Value) (W : World) (hW : W = ((((w.setCell ⟨zb, 0, none⟩ u0).setCell ⟨zb, 1, none⟩ u1).setCell ⟨zb, 2, none⟩ u2).setCell ⟨zb, 3, none⟩ u3)) : Blk W zb 89 [u0, u1, u2, u3] ∧ Chg w W (fun k => k = zb) := by
 subst hW
 exact ⟨((((hB.set 0 u0 (by simp)).set 1 u1 (by simp)).set 2 u2 (by simp)).set 3 u3 (by simp)), (chg_cell (chg_cell (chg_cell (chg_cell (Chg.refl _ _) 0 _) 1 _) 2 _) 3 _)⟩
set_option maxRecDepth 100000 in
set_option maxHeartbeats 8000000 in
theorem pcgget_any (D : Nat → Prop) (b : Nat) (r : RdD) (hsm : r.l.length ≤ 1000000000) (w : World) (hD : ∀ g, D g → g < w.heap.size) (h : RdW D w b r) :
  Calls Tryz.prog 95 #[.pointer (some ⟨b, 0, none⟩)] w fun e w' => ∃ u, e = .returned (.tuple #[u, .bool (cgGetB r)]) ∧ CgF (fun g => w.heap.size < g) w' u (cgO r) ∧ RdW D w' b (cgGetR r) ∧ Chg w w' (fun k => k = b) := by
 have hbz := h.lt
 have hz := (Below.refl w.heap.size w).alloc (Nat.le_refl _) (.cells #[.int .i64 0, .int .i64 0, .slice none 0 0, .slice none 0 0] 89)
 have HZ := Lib.hid (Blk.new w 89 [.int .i64 0, .int .i64 0, .slice none 0 0, .slice none 0 0])
 have HR := Lib.hid (h.below hz)
 have HC : Hid (Chg w (w.alloc (.cells #[.int .i64 0, .int .i64 0, .slice none 0 0, .slice none 0 0] 89)) (fun k => k = b)) := Lib.hid (Chg.of_below hz)
 have HDD := Lib.hid hD
 clear hz h hD
 have HE : Hid (cgGetB r = (sdB (rtakV (rtakN r 1) 2180) && (decide (0 ≤ rnumV r 1) && decide (rnumV r 1 < 4)))) := Lib.hid rfl
 have HO : Hid (cgO r = if cgGetB r = true then (⟨rnumV r 1, sdP (rtakV (rtakN r 1) 2180)⟩ : CgD) else ⟨0, ⟨0, [], []⟩⟩) := Lib.hid rfl
 have HRR : Hid (cgGetR r = rtakN (rtakN r 1) 2180) := Lib.hid rfl
 have hs2 : (rtakN r 1).l.length ≤ 1000000000 := Nat.le_trans (rtakN_length r 1) hsm
 have hnv := rnumV_lt r 1 (by decide)
 have hn0 : 0 ≤ rnumV r 1 := hnv.1
 have hn1 : rnumV r 1 < 256 := hnv.2
 have HNM := Lib.hid (fun (wz : World) (z : RdW D wz b r) => byte_any D b r hsm wz z)
 have HRX := Lib.hid (fun (wz : World) (z : RdW D wz b (rtakN r 1)) => raw_any D b (rtakN r 1) 2180 hs2 wz z)
 have hx2 : (rtakV (rtakN r 1) 2180).length ≤ 1000000000 := Nat.le_trans (rtakV_length _ _) hs2
 have HSD := Lib.hid (fun (wz : World) (u : Value) (z : Bys wz u (rtakV (rtakN r 1) 2180)) => sdec_any u (rtakV (rtakN r 1) 2180) hx2 wz z)
 clear hnv hs2 hx2
 generalize rnumV r 1 = IX at *
 generalize rtakV (rtakN r 1) 2180 = X at *
 generalize rtakN (rtakN r 1) 2180 = r3 at *
 generalize rtakN r 1 = r2 at *
 have HSE : Hid (sdE X = if sdB X = true then 0 else 12) := Lib.hid rfl
 have HSO : Hid (sdB X = true → sdO X = sdP X) := Lib.hid (fun e => by unfold sdO; rw [if_pos e])
 generalize sdE X = SE at *
 generalize sdO X = SO at *
 generalize sdP X = SP at *
 generalize sdB X = SB at *
 go_enter Tryz.func95, Tryz.ntmps95
 go_wp2_with fail
 refine calls_at (fun w0 => Hid (Blk w0 w.heap.size 89 [.int .i64 0, .int .i64 0, .slice none 0 0, .slice none 0 0] ∧ RdW D w0 b r ∧ Chg w w0 (fun k => k = b))) (Lib.hid ⟨HZ.out, HR.out, HC.out⟩) ?_
 clear HZ HR HC
 rintro w0 H0
 have HZ := Lib.hid H0.out.1
 have HR := Lib.hid H0.out.2.1
 have HC := Lib.hid H0.out.2.2
 clear H0
 generalize hzb : w.heap.size = zb at *
 have HZB := Lib.hid hzb
 clear hzb
 refine (HNM.out _ HR.out).mono ?_
 rintro e w1 ⟨rfl, h1, h2⟩
 replace HR := Lib.hid h1
 replace HZ := Lib.hid (HZ.out.chg h2 (by omega))
 replace HC := Lib.hid (HC.out.trans h2 (fun _ _ h => h))
 clear h1 h2 HNM
 go_wp2_with fail
 refine (HRX.out _ HR.out).mono ?_
 rintro e w4 ⟨vx, rfl, h1, h2, h3⟩
 obtain ⟨XA, xc, rfl⟩ := h1.form
 have HX := Lib.hid h1.bys
 replace HR := Lib.hid h2
 replace HZ := Lib.hid (HZ.out.chg h3 (by omega))
 replace HC := Lib.hid (HC.out.trans h3 (fun _ _ h => h))
 clear h1 h2 h3 HRX
 go_wp2_with fail
 refine (HSD.out _ _ HX.out).mono ?_
 rintro e w5 ⟨u5, rfl, h1, h2⟩
 obtain ⟨vp, vq, rfl, h3, h4⟩ := h1
 obtain ⟨P, cp, rfl⟩ := h3.rws.form
 obtain ⟨Q, cq, rfl⟩ := h4.rws.form
 have hlz := HZ.out.lt
 have HP := Lib.hid (h3.mono (T := fun g => zb < g) (fun g hg => Nat.lt_trans hlz hg))
 have HQ := Lib.hid (h4.mono (T := fun g => zb < g) (fun g hg => Nat.lt_trans hlz hg))
 replace HR := Lib.hid (HR.out.below h2)
 replace HZ := Lib.hid (HZ.out.below h2)
 replace HC := Lib.hid (HC.out.trans (Chg.of_below (S := fun _ => False) h2) (fun _ _ h => h.elim))
 clear h2 h3 h4 hlz HX HSD
 go_upto_region 5 with fail
 refine code_at (fun w6 => Blk w6 w5.heap.size 37 [.int .i64 SO.index, .slice P SO.parts.length cp, .slice Q SO.path.length cq] ∧ Below w5.heap.size w5 w6) ⟨Blk.new _ _ [.int .i64 SO.index, .slice P SO.parts.length cp, .slice Q SO.path.length cq], (Below.refl _ _).alloc (Nat.le_refl _) _⟩ ?_
 rintro w6 ⟨kS, kb⟩
 have HS := Lib.hid kS
 replace HP := Lib.hid (HP.out.below kb)
 replace HQ := Lib.hid (HQ.out.below kb)
 replace HR := Lib.hid (HR.out.below kb)
 replace HZ := Lib.hid (HZ.out.below kb)
 replace HC := Lib.hid (HC.out.trans (Chg.of_below (S := fun _ => False) kb) (fun _ _ h => h.elim))
 generalize w5.heap.size = sb at *
 clear kS kb
 cases SB with
 | false =>
  have he : SE = 12 := by rw [HSE.out]; rfl
  subst he
  have HB2 : Hid (cgGetB r = false) := Lib.hid (by rw [HE.out]; rfl)
  have z0 := HZ.out.cell 0 _ rfl
  have z1 := HZ.out.cell 1 _ rfl
  have z2 := HZ.out.cell 2 _ rfl
  have z3 := HZ.out.cell 3 _ rfl
  have y0 := HZ.out.free 0
  have y1 := HZ.out.free 1
  have y2 := HZ.out.free 2
  have y3 := HZ.out.free 3
  go_wp2
  have hst := cgs_store HZ.out (.int .i64 0) (.int .i64 0) (.slice none 0 0) (.slice none 0 0) _ rfl
  rw [HO.out, if_neg (by rw [HB2.out]; decide), HB2.out, HRR.out]
  refine bodyPost_ret (v := .tuple #[.agg [.int .i64 0, .int .i64 0, .slice none 0 0, .slice none 0 0].toArray, .bool false]) ?_ ?_ ⟨_, rfl, ⟨_, _, rfl, ?_, ?_⟩, ?_, ?_⟩
  ·exact results_row_tmp Tryz.results95 _ _ zb 89 _ (0, 0) _ rfl hst.1 under_cosig rfl size_cosig _ rfl
  ·rfl
  ·exact ⟨[], Sho.nil _ 1, fun h => absurd h (Nat.lt_irrefl _), fun i hi => absurd hi (Nat.not_lt_zero _)⟩
  ·exact ⟨[], Sho.nil _ 1, fun h => absurd h (Nat.lt_irrefl _), fun i hi => absurd hi (Nat.not_lt_zero _)⟩
  ·exact HR.out.chg hst.2 (fun g hg e => by have h8 : g = zb := e; have := HDD.out g hg; have := HZB.out; omega) (by omega)
  ·exact HC.out.trans hst.2 (fun i hi e => by have h8 : i = zb := e; have := HZB.out; omega)
 | true =>
  have he : SE = 0 := by rw [HSE.out]; rfl
  subst he
  have s0 := HS.out.cell 0 _ rfl
  have s1 := HS.out.cell 1 _ rfl
  have s2 := HS.out.cell 2 _ rfl
  have HWT := Lib.hid (witness_any IX w6)
  have hw0 : decide (0 ≤ IX) = true := decide_eq_true hn0
  rw [hw0, Bool.true_and] at HWT
  have HB3 : Hid (cgGetB r = decide (IX < 4)) := Lib.hid (by rw [HE.out, Bool.true_and, hw0, Bool.true_and])
  clear hw0
  generalize decide (IX < 4) = KB at *
  go_wp2_with fail
  refine HWT.out.mono ?_
  rintro e w' ⟨rfl, rfl⟩
  have z0 := HZ.out.cell 0 _ rfl
  have z1 := HZ.out.cell 1 _ rfl
  have z2 := HZ.out.cell 2 _ rfl
  have z3 := HZ.out.cell 3 _ rfl
  have y0 := HZ.out.free 0
  have y1 := HZ.out.free 1
  have y2 := HZ.out.free 2
  have y3 := HZ.out.free 3
  cases KB with
  | false =>
   have HB2 : Hid (cgGetB r = false) := Lib.hid HB3.out
   go_wp2
   have hst := cgs_store HZ.out (.int .i64 0) (.int .i64 0) (.slice none 0 0) (.slice none 0 0) _ rfl
   rw [HO.out, if_neg (by rw [HB2.out]; decide), HB2.out, HRR.out]
   refine bodyPost_ret (v := .tuple #[.agg [.int .i64 0, .int .i64 0, .slice none 0 0, .slice none 0 0].toArray, .bool false]) ?_ ?_ ⟨_, rfl, ⟨_, _, rfl, ?_, ?_⟩, ?_, ?_⟩
   ·exact results_row_tmp Tryz.results95 _ _ zb 89 _ (0, 0) _ rfl hst.1 under_cosig rfl size_cosig _ rfl
   ·rfl
   ·exact ⟨[], Sho.nil _ 1, fun h => absurd h (Nat.lt_irrefl _), fun i hi => absurd hi (Nat.not_lt_zero _)⟩
   ·exact ⟨[], Sho.nil _ 1, fun h => absurd h (Nat.lt_irrefl _), fun i hi => absurd hi (Nat.not_lt_zero _)⟩
   ·exact HR.out.chg hst.2 (fun g hg e => by have h8 : g = zb := e; have := HDD.out g hg; have := HZB.out; omega) (by omega)
   ·exact HC.out.trans hst.2 (fun i hi e => by have h8 : i = zb := e; have := HZB.out; omega)
  | true =>
   have HB2 : Hid (cgGetB r = true) := Lib.hid HB3.out
   go_wp2
   have hst := cgs_store HZ.out (.int .i64 IX) (.int .i64 SO.index) (.slice P SO.parts.length cp) (.slice Q SO.path.length cq) _ rfl
   rw [HO.out, if_pos HB2.out, HB2.out, HRR.out, ← HSO.out (by trivial)]
   refine bodyPost_ret (v := .tuple #[.agg [.int .i64 IX, .int .i64 SO.index, .slice P SO.parts.length cp, .slice Q SO.path.length cq].toArray, .bool true]) ?_ ?_ ⟨_, rfl, ⟨_, _, rfl, ?_, ?_⟩, ?_, ?_⟩
   ·exact results_row_tmp Tryz.results95 _ _ zb 89 _ (0, 0) _ rfl hst.1 under_cosig rfl size_cosig _ rfl
   ·rfl
   ·rw [HZB.out]
    exact HP.out.chg hst.2 (fun g hg e => by have h9 : zb < g := hg; have h8 : g = zb := e; omega)
   ·rw [HZB.out]
    exact HQ.out.chg hst.2 (fun g hg e => by have h9 : zb < g := hg; have h8 : g = zb := e; omega)
   ·exact HR.out.chg hst.2 (fun g hg e => by have h8 : g = zb := e; have := HDD.out g hg; have := HZB.out; omega) (by omega)
   ·exact HC.out.trans hst.2 (fun i hi e => by have h8 : i = zb := e; have := HZB.out; omega)
end Go.Proofs.YtgeplpdcnanmnaaGreat
