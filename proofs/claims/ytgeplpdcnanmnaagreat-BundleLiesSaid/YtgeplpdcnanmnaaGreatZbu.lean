/- bundle.Check. Conditions: as each theorem states them. -/
import Derived.Test.YtgeplpdcnanmnaaGreatZbo
import Derived.Test.YtgeplpdcnanmnaaGreatZbh
import Derived.Test.YtgeplpdcnanmnaaGreatZbr
import Derived.Test.YtgeplpdcnanmnaaGreatZax
import Derived.Test.YtgeplpdcnanmnaaGreatZbb
import Derived.Deep.DeepCutAuto
namespace Go.Proofs.YtgeplpdcnanmnaaGreat
open Go.RowKit
set_option linter.unusedVariables false
set_option linter.unusedSimpArgs false

theorem metB_of {p : PolD} (h : polB p = true) (b : BunD) : metB p b.sg.ck b.cos = decide (p.quorum ≤ (cntN p b : Int)) := by
 unfold metB cntN
 rw [h, Bool.true_and]
set_option maxRecDepth 100000 in
set_option maxHeartbeats 8000000 in
theorem bcheck_any (vp vb : Value) (p : PolD) (b : BunD) (hp : SmallPol p) (hb : SmallBun b) (w : World) (hvp : PolV w vp p) (hvb : BunV w vb b) :
  Calls Tryz.prog 16 #[vp, vb] w fun e w' => e = .returned (.int .i64 (bchk p b)) ∧ Below w.heap.size w w' := by
 have HPR := Lib.hid (fun (wz : World) (v : Value) (hz : PolV wz v p) => coright_any v p hp.1 hp.2.1 hp.2.2.2 wz hz)
 have HMD := Lib.hid (fun (wz : World) (v : Value) (hz : Bys wz v b.man) => mdecode_any v b.man hb.man wz hz)
 have HCV := Lib.hid (fun (wz : World) (vp v : Value) (hz : Bys wz vp p.log) (h2 : SgV wz v b.sg) => pckverify_any vp v p.log b.sg hp.1 hb.root hb.sig wz hz h2)
 have HID := Lib.hid (fun (wz : World) (v : Value) (hz : Bys wz v b.man) => id_any v b.man hb.man wz hz)
 have HPC := Lib.hid (fun (wz : World) (v lv rv : Value) (z1 : PrV wz v b.prf) (z2 : Bys wz lv (leafH b.man)) (z3 : Bys wz rv b.sg.ck.root) => pcheck_any v lv rv b.prf (leafH b.man) b.sg.ck.root hb.path hb.index hb.size (by rw [leafH_length]; decide) wz z1 z2 z3)
 have HMT := Lib.hid (fun (wz : World) (vp vc vl : Value) (z1 : PolV wz vp p) (z2 : CkV wz vc b.sg.ck) (z3 : CgsV wz vl b.cos) => pmet_any vp vc vl p b.sg.ck b.cos hp hb.root hb.sigs hb.cos wz z1 z2 z3)
 have HBC : Hid (bchk p b = if polB p = false then 1 else if decB b.man = false then 12 else if ckVerB p.log b.sg = false then 30 else if prfOk b = false then 31 else if (cntN p b : Int) < p.quorum then 33 else 0) := Lib.hid rfl
 have HMB := Lib.hid (fun (h : polB p = true) => metB_of h b)
 have HMB2 : Hid (polB p = false → metB p b.sg.ck b.cos = false) := Lib.hid (fun h => by unfold metB; rw [h]; rfl)
 have HPO : Hid (prfOk b = (decide (b.prf.size = b.sg.ck.num) && prfB b.prf (leafH b.man) b.sg.ck.root)) := Lib.hid rfl
 obtain ⟨l, ws, rfl, h1, h2⟩ := hvp
 obtain ⟨L, cl, rfl⟩ := h1.form
 obtain ⟨W, cw, rfl⟩ := h2.form
 obtain ⟨vm, vpp, vr, vq, vs, vc, rfl, h3, h4, h5, h6, h7, h8⟩ := hvb
 obtain ⟨M, cm, rfl⟩ := h3.form
 obtain ⟨P, cp, rfl⟩ := h4.form
 obtain ⟨R, cr, rfl⟩ := h5.form
 obtain ⟨Q, cq, rfl⟩ := h6.form
 obtain ⟨S, cs, rfl⟩ := h7.form
 obtain ⟨C, cc, rfl⟩ := h8.form
 have HX := Lib.hid (And.intro h1 (And.intro h2 (show BunX w _ _ _ _ _ _ b from ⟨h3, h4, h5, h6, h7, h8⟩)))
 have hz := hb.size
 have hn := hb.num
 clear h1 h2 h3 h4 h5 h6 h7 h8 hp hb
 generalize leafH b.man = LF at *
 generalize bchk p b = BC at *
 generalize metB p b.sg.ck b.cos = MB at *
 generalize prfOk b = PO at *
 generalize prfB b.prf LF b.sg.ck.root = PB at *
 generalize ckVerB p.log b.sg = CV at *
 generalize (cntN p b : Int) = CN at *
 generalize polB p = PP at *
 have HE : Hid (mdeE b.man = if decB b.man = true then 0 else 12) := Lib.hid rfl
 generalize mdeE b.man = ME at *
 generalize mdeM b.man = MM at *
 generalize decB b.man = DB at *
 obtain ⟨k0, k1, k2⟩ := blk2 w [.slice L p.log.length cl, .slice W p.wits.length cw, .int .i64 p.quorum] [.slice M b.man.length cm, .int .i64 b.prf.index, .int .i64 b.prf.size, .slice P b.prf.path.length cp, .int .i64 b.sg.ck.num, .slice R b.sg.ck.root.length cr, .int .i64 b.sg.sig.index, .slice Q b.sg.sig.parts.length cq, .slice S b.sg.sig.path.length cs, .slice C b.cos.length cc] 30 42 _ rfl
 have HW := Lib.hid (And.intro k0 (And.intro k1 k2))
 have z0 := k2.cell 0 _ rfl
 clear k0 k1 k2
 go_enter Tryz.func16, Tryz.ntmps16
 go_wp2_with fail
 refine (HMD.out _ _ (HX.out.2.2.below HW.out.1).1).mono ?_
 rintro e w1 ⟨u, rfl, h1, h2⟩
 obtain ⟨f1, n1, rfl, h3, h4⟩ := h1
 obtain ⟨F, cf, rfl⟩ := h3.form
 obtain ⟨N, cn, rfl⟩ := h4.form
 have H1 := Lib.hid (And.intro (HW.out.1.trans (h2.mono HW.out.1.size)) (And.intro (HW.out.2.1.below h2) (HW.out.2.2.below h2)))
 clear h2 h3 h4 z0 HW
 have z4 := H1.out.2.2.cell 4 _ rfl
 have z5 := H1.out.2.2.cell 5 _ rfl
 have hlt1 := H1.out.2.2.lt
 go_upto_region 3 with fail
 refine code_at (fun w2 => Below w1.heap.size w1 w2 ∧ Blk w2 w1.heap.size 55 [.string ⟨MM.name.toArray⟩, .int .u32 MM.ver, .slice F MM.fw.length cf, .slice N MM.notes.length cn] ∧ Blk w2 (w1.heap.size + 1) 35 [.int .i64 b.sg.ck.num, .slice R b.sg.ck.root.length cr]) (blk2 w1 _ _ _ _ _ rfl) ?_
 rintro w2 ⟨k2, -, k1⟩
 have H2 := Lib.hid (And.intro (H1.out.1.trans (k2.mono H1.out.1.size)) (And.intro (H1.out.2.1.below k2) (And.intro (H1.out.2.2.below k2) k1)))
 clear k1 k2 z4 z5 hlt1 H1
 generalize w1.heap.size = nb at *
 have p0 := H2.out.2.1.cell 0 _ rfl
 have p1 := H2.out.2.1.cell 1 _ rfl
 have p2 := H2.out.2.1.cell 2 _ rfl
 go_wp2_with fail
 refine (HPR.out _ _ ⟨_, _, rfl, HX.out.1.below H2.out.1, HX.out.2.1.below H2.out.1⟩).mono ?_
 rintro e w3 ⟨rfl, hh⟩
 have H3 := Lib.hid (And.intro (H2.out.1.trans (hh.mono H2.out.1.size)) (And.intro (H2.out.2.1.below hh) (And.intro (H2.out.2.2.1.below hh) (H2.out.2.2.2.below hh))))
 clear hh p0 p1 p2 H2
 cases PP with
 | false =>
  have HZ9 : Hid (BC = 1) := Lib.hid (by rw [HBC.out, if_pos rfl])
  go_wp2
  go_ret
  rw [HZ9.out]
  exact ⟨rfl, H3.out.1⟩
 | true =>
  cases DB with
  | false =>
   have he : ME = 12 := by rw [HE.out]; rfl
   subst he
   have HZ9 : Hid (BC = 12) := Lib.hid (by rw [HBC.out, if_neg (by decide), if_pos rfl])
   go_wp2
   go_ret
   rw [HZ9.out]
   exact ⟨rfl, H3.out.1⟩
  | true =>
   have he : ME = 0 := by rw [HE.out]; rfl
   subst he
   have p0 := H3.out.2.1.cell 0 _ rfl
   have z4 := H3.out.2.2.1.cell 4 _ rfl
   have z5 := H3.out.2.2.1.cell 5 _ rfl
   have z6 := H3.out.2.2.1.cell 6 _ rfl
   have z7 := H3.out.2.2.1.cell 7 _ rfl
   have z8 := H3.out.2.2.1.cell 8 _ rfl
   go_wp2_with fail
   refine (HCV.out _ _ _ (HX.out.1.below H3.out.1) ⟨_, _, _, rfl, (HX.out.2.2.below H3.out.1).2.2.1, (HX.out.2.2.below H3.out.1).2.2.2.1, (HX.out.2.2.below H3.out.1).2.2.2.2.1⟩).mono ?_
   rintro e w4 ⟨rfl, hh⟩
   have H4 := Lib.hid (And.intro (H3.out.1.trans (hh.mono H3.out.1.size)) (And.intro (H3.out.2.1.below hh) (And.intro (H3.out.2.2.1.below hh) (H3.out.2.2.2.below hh))))
   clear hh p0 z4 z5 z6 z7 z8 H3
   cases CV with
   | false =>
    have HZ9 : Hid (BC = 30) := Lib.hid (by rw [HBC.out, if_neg (by decide), if_neg (by decide), if_pos rfl])
    go_wp2
    go_ret
    rw [HZ9.out]
    exact ⟨rfl, H4.out.1⟩
   | true =>
    go_upto_region 9 with fail
    have H5 := Lib.hid (And.intro H4.out.1.drew (And.intro (H4.out.2.1.below (Below.refl _ _).drew) (And.intro (H4.out.2.2.1.below (Below.refl _ _).drew) (H4.out.2.2.2.below (Below.refl _ _).drew))))
    have z0 := H5.out.2.2.1.cell 0 _ rfl
    have z1 := H5.out.2.2.1.cell 1 _ rfl
    have z2 := H5.out.2.2.1.cell 2 _ rfl
    have z3 := H5.out.2.2.1.cell 3 _ rfl
    have y0 := H5.out.2.2.2.cell 0 _ rfl
    have y1 := H5.out.2.2.2.cell 1 _ rfl
    by_cases hsz : b.prf.size = b.sg.ck.num
    ·have HSZ := Lib.hid hsz
     have hne : (b.prf.size != b.sg.ck.num) = false := by simp [hsz]
     have HPO2 : Hid (PO = PB) := Lib.hid (by rw [HPO.out, decide_eq_true hsz, Bool.true_and])
     clear hsz
     refine wp_region_held_drew (S := fun w' => w'.cell? ⟨w.heap.size + 1, 0, none⟩ = some (.slice M b.man.length cm) ∧ w'.cell? ⟨w.heap.size + 1, 1, none⟩ = some (.int .i64 b.prf.index) ∧ w'.cell? ⟨w.heap.size + 1, 2, none⟩ = some (.int .i64 b.prf.size) ∧ w'.cell? ⟨w.heap.size + 1, 3, none⟩ = some (.slice P b.prf.path.length cp) ∧ w'.cell? ⟨nb + 1, 0, none⟩ = some (.int .i64 b.sg.ck.num) ∧ w'.cell? ⟨nb + 1, 1, none⟩ = some (.slice R b.sg.ck.root.length cr)) (by kernel_rfl) ⟨z0, z1, z2, z3, y0, y1⟩ (fun hHeld => ?_)
     generalize w4.drew = wr at *
     refine ty 0 32 rfl rfl ?_; simp only [sa, sb, sc]
     refine ty 1 33 rfl rfl ?_; simp only [sa, sb, sc]
     refine ty 2 34 rfl rfl ?_; simp only [sa, sb, sc]
     refine ty 3 35 rfl rfl ?_; simp only [sa, sb, sc]
     refine ty 4 36 rfl rfl ?_; simp only [sa, sb, sc]
     refine ty 5 37 rfl rfl ?_; simp only [sa, sb, sc]
     refine ty 6 38 rfl rfl ?_; simp only [sa, sb, sc]
     refine ty 7 39 rfl rfl ?_; simp only [sa, sb, sc]
     refine ty 8 40 rfl rfl ?_; simp only [sa, sb, sc]
     refine ty 9 41 rfl rfl ?_; simp only [sa, sb, sc]
     refine ty 10 42 rfl rfl ?_; simp only [sa, sb, sc]
     refine ty 12 44 rfl rfl ?_; simp only [sa, sb, sc]
     refine ty 13 45 rfl rfl ?_; simp only [sa, sb, sc]
     refine rd 11 (by kernel_rfl) rfl (fun K hK => ?_)
     go_simp
     go_at_call 54
     refine (HID.out _ _ (HX.out.2.2.below H5.out.1).1).mono ?_
     rintro e w5 ⟨vl, rfl, h1, hh⟩
     obtain ⟨A5, c5, rfl⟩ := h1.form
     have HLF := Lib.hid h1.bys
     have H6 := Lib.hid (And.intro (H5.out.1.trans (hh.mono H5.out.1.size)) (And.intro (H5.out.2.1.below hh) (And.intro (H5.out.2.2.1.below hh) (H5.out.2.2.2.below hh))))
     have x0 := H6.out.2.2.1.cell 0 _ rfl
     have x1 := H6.out.2.2.1.cell 1 _ rfl
     have x2 := H6.out.2.2.1.cell 2 _ rfl
     have x3 := H6.out.2.2.1.cell 3 _ rfl
     have x4 := H6.out.2.2.2.cell 0 _ rfl
     have x5 := H6.out.2.2.2.cell 1 _ rfl
     clear h1 hh
     try dsimp only
     refine hK.out _ _ ⟨x0, x1, x2, x3, x4, x5⟩ (fun hHeld11 => ?_)
     clear hK K; try simp only [Act.put, sa, sb, sc]
     refine rd 14 (by kernel_rfl) rfl (fun K hK => ?_)
     go_simp
     go_at_call 53
     refine (HPC.out _ _ _ _ ⟨_, rfl, (HX.out.2.2.below H6.out.1).2.1⟩ HLF.out (HX.out.2.2.below H6.out.1).2.2.1).mono ?_
     rintro e w6 ⟨rfl, hh⟩
     have H7 := Lib.hid (And.intro (H6.out.1.trans (hh.mono H6.out.1.size)) (And.intro (H6.out.2.1.below hh) (And.intro (H6.out.2.2.1.below hh) (H6.out.2.2.2.below hh))))
     have v0 := H7.out.2.2.1.cell 0 _ rfl
     have v1 := H7.out.2.2.1.cell 1 _ rfl
     have v2 := H7.out.2.2.1.cell 2 _ rfl
     have v3 := H7.out.2.2.1.cell 3 _ rfl
     have v4 := H7.out.2.2.2.cell 0 _ rfl
     have v5 := H7.out.2.2.2.cell 1 _ rfl
     clear hh
     try dsimp only
     refine hK.out _ _ ⟨v0, v1, v2, v3, v4, v5⟩ (fun hHeld14 => ?_)
     clear hK K; try simp only [Act.put, sa, sb, sc]
     refine ty 15 47 rfl rfl ?_; simp only [sa, sb, sc]
     refine ty 16 48 rfl rfl ?_; simp only [sa, sb, sc]
     refine ty 17 31 rfl rfl ?_; simp only [sa, sb, sc]
     refine wpAnyH_done (by kernel_rfl) ?_ _
     clear z0 z1 z2 z3 y0 y1 x0 x1 x2 x3 x4 x5 v0 v1 v2 v3 v4 v5 hHeld hne
     cases PB with
     | false =>
      have HZ9 : Hid (BC = 31) := Lib.hid (by rw [HBC.out, if_neg (by decide), if_neg (by decide), if_neg (by decide), if_pos HPO2.out])
      go_wp2
      go_ret
      rw [HZ9.out]
      exact ⟨rfl, H7.out.1⟩
     | true =>
      have HPO3 : Hid (¬ (PO = false)) := Lib.hid (by rw [HPO2.out]; decide)
      have p0 := H7.out.2.1.cell 0 _ rfl
      have p1 := H7.out.2.1.cell 1 _ rfl
      have p2 := H7.out.2.1.cell 2 _ rfl
      have z9 := H7.out.2.2.1.cell 9 _ rfl
      have y0 := H7.out.2.2.2.cell 0 _ rfl
      have y1 := H7.out.2.2.2.cell 1 _ rfl
      go_wp2_with fail
      refine (HMT.out _ _ _ _ ⟨_, _, rfl, HX.out.1.below H7.out.1, HX.out.2.1.below H7.out.1⟩ ⟨_, rfl, (HX.out.2.2.below H7.out.1).2.2.1⟩ (HX.out.2.2.below H7.out.1).2.2.2.2.2).mono ?_
      rintro e w8 ⟨rfl, hh⟩
      have H8 := Lib.hid (H7.out.1.trans (hh.mono H7.out.1.size))
      clear hh p0 p1 p2 z9 y0 y1
      have hmb := HMB.out (by trivial)
      by_cases hq : p.quorum ≤ CN
      ·have HZ : Hid (BC = 0) := Lib.hid (by rw [HBC.out, if_neg (by decide), if_neg (by decide), if_neg (by decide), if_neg HPO3.out, if_neg (by omega)])
       rw [decide_eq_true hq] at hmb
       subst hmb
       go_wp2
       go_ret
       rw [HZ.out]
       exact ⟨rfl, H8.out⟩
      ·have HZ : Hid (BC = 33) := Lib.hid (by rw [HBC.out, if_neg (by decide), if_neg (by decide), if_neg (by decide), if_neg HPO3.out, if_pos (by omega)])
       rw [decide_eq_false hq] at hmb
       subst hmb
       go_wp2
       go_ret
       rw [HZ.out]
       exact ⟨rfl, H8.out⟩
    ·have hne : (b.prf.size != b.sg.ck.num) = true := by simp [hsz]
     have HZ : Hid (PO = false) := Lib.hid (by rw [HPO.out, decide_eq_false hsz]; rfl)
     have HSZ := Lib.hid hsz
     clear hsz
     refine wp_region_held_drew (S := fun w' => w'.cell? ⟨w.heap.size + 1, 0, none⟩ = some (.slice M b.man.length cm) ∧ w'.cell? ⟨w.heap.size + 1, 1, none⟩ = some (.int .i64 b.prf.index) ∧ w'.cell? ⟨w.heap.size + 1, 2, none⟩ = some (.int .i64 b.prf.size) ∧ w'.cell? ⟨w.heap.size + 1, 3, none⟩ = some (.slice P b.prf.path.length cp) ∧ w'.cell? ⟨nb + 1, 0, none⟩ = some (.int .i64 b.sg.ck.num) ∧ w'.cell? ⟨nb + 1, 1, none⟩ = some (.slice R b.sg.ck.root.length cr)) (by kernel_rfl) ⟨z0, z1, z2, z3, y0, y1⟩ (fun hHeld => ?_)
     generalize w4.drew = wr at *
     refine ty 0 32 rfl rfl ?_; simp only [sa, sb, sc]
     refine ty 1 33 rfl rfl ?_; simp only [sa, sb, sc]
     refine ty 2 34 rfl rfl ?_; simp only [sa, sb, sc]
     refine ty 3 35 rfl rfl ?_; simp only [sa, sb, sc]
     refine ty 4 36 rfl rfl ?_; simp only [sa, sb, sc]
     refine ty 5 37 rfl rfl ?_; simp only [sa, sb, sc]
     refine ty 6 38 rfl rfl ?_; simp only [sa, sb, sc]
     refine tn 7 39 rfl rfl ?_; simp only [sa, sb, sc]
     refine tn 8 40 rfl rfl ?_; simp only [sa, sb, sc]
     refine tn 9 41 rfl rfl ?_; simp only [sa, sb, sc]
     refine tn 10 42 rfl rfl ?_; simp only [sa, sb, sc]
     refine tn 11 43 rfl rfl ?_; simp only [sa, sb, sc]
     refine tn 12 44 rfl rfl ?_; simp only [sa, sb, sc]
     refine tn 13 45 rfl rfl ?_; simp only [sa, sb, sc]
     refine tn 14 46 rfl rfl ?_; simp only [sa, sb, sc]
     refine tn 15 47 rfl rfl ?_; simp only [sa, sb, sc]
     refine ty 16 48 rfl rfl ?_; simp only [sa, sb, sc]
     refine ty 17 31 rfl rfl ?_; simp only [sa, sb, sc]
     refine wpAnyH_done (by kernel_rfl) ?_ _
     clear z0 z1 z2 z3 y0 y1 hHeld hne
     have HZ9 : Hid (BC = 31) := Lib.hid (by rw [HBC.out, if_neg (by decide), if_neg (by decide), if_neg (by decide), if_pos HZ.out])
     go_wp2
     go_ret
     rw [HZ9.out]
     exact ⟨rfl, H5.out.1⟩
end Go.Proofs.YtgeplpdcnanmnaaGreat
