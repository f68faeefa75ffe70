/- The reference's cosignatures: Cosigned. Conditions: as each theorem states them. -/
import Derived.Test.YtgeplpdcnanmnaaGreatZbd
import Derived.Test.YtgeplpdcnanmnaaGreatZav
namespace Go.Proofs.YtgeplpdcnanmnaaGreat
open Go.RowKit
set_option linter.unusedVariables false
set_option linter.unusedSimpArgs false

set_option maxRecDepth 100000 in
set_option maxHeartbeats 8000000 in
theorem rcosigned_any (vp vc vg : Value) (p : PolD) (c : CkD) (g : CgD) (hp : SmallPol p) (hr : c.root.length ≤ 100000000) (hs : SmallSig g.sig) (w : World) (hvp : PolV w vp p) (hvc : CkV w vc c) (hvg : CgV w vg g) :
  Calls Tryz.prog 67 #[vp, vc, vg] w fun e w' => e = .returned (.bool (cgVerB p c g)) ∧ Below w.heap.size w w' := by
 have HPR := Lib.hid (fun (wz : World) (v : Value) (hz : PolV wz v p) => rpolicy_any v p hp.1 hp.2.1 hp.2.2.2 wz hz)
 have HCR := Lib.hid (fun (wz : World) (v : Value) (hz : CkV wz v c) => rckright_any v c (by omega) wz hz)
 have HBD := Lib.hid (fun (wz : World) (v : Value) (hz : CkV wz v c) => rckcosign_any v c (by omega) wz hz)
 change Hid (∀ (wz : World) (v : Value), CkV wz v c → Calls Tryz.prog 36 #[v] wz fun e w' => ∃ v', e = .returned v' ∧ Bys w' v' (bodyS tagCo c) ∧ Below wz.heap.size wz w') at HBD
 have HBL : Hid ((bodyS tagCo c).length ≤ 1000000000) := Lib.hid (by have := bodyS_length tagCo c; have : tagCo.length = 17 := rfl; omega)
 have HVF := Lib.hid (fun (pub : List UInt8) (hpub : pub.length ≤ 1000000000) (wz : World) (vp vm v : Value) (z1 : Bys wz vp pub) (z2 : Bys wz vm (bodyS tagCo c)) (z3 : SigV wz v g.sig) => rverify_any vp vm v pub (bodyS tagCo c) g.sig hpub HBL.out (by have := hs.1; omega) (by have := hs.2.1; omega) hs.2.2.1 hs.2.2.2 wz z1 z2 z3)
 have HCV : Hid (cgVerB p c g = (polB p && (ckB c && (decide (0 ≤ g.wit) && (decide (g.wit < (p.wits.length : Int)) && verifyB (p.wits.getD g.wit.toNat []) (bodyS tagCo c) g.sig))))) := Lib.hid rfl
 have HPW : Hid (∀ i, i < p.wits.length → (p.wits.getD i []).length ≤ 1000000000) := Lib.hid (fun i hi => by have := hp.2.2.1 i hi; rw [List.getD_eq_getElem?_getD, List.getElem?_eq_getElem hi]; exact this)
 generalize cgVerB p c g = CV at *
 generalize bodyS tagCo c = BO at *
 generalize hPB : polB p = PB at *
 generalize hCB : ckB c = CB at *
 clear hp hr hs HBL hPB hCB
 obtain ⟨l, ws, rfl, h1, h2⟩ := hvp
 obtain ⟨L, cl, rfl⟩ := h1.form
 obtain ⟨R, cr, rfl⟩ := h2.form
 obtain ⟨rt, rfl, h3⟩ := hvc
 obtain ⟨T, ct, rfl⟩ := h3.form
 obtain ⟨q1, q2, rfl, h4, h5⟩ := hvg
 obtain ⟨P, cp, rfl⟩ := h4.form
 obtain ⟨Q, cq, rfl⟩ := h5.form
 have HX := Lib.hid (And.intro h1 (And.intro h2 (And.intro h3 (And.intro h4 h5))))
 clear h1 h2 h3 h4 h5
 have hb1 := (Below.refl w.heap.size w).alloc (Nat.le_refl _) (.cells #[.slice L p.log.length cl, .slice R p.wits.length cr, .int .i64 p.quorum] 30)
 have hb2 := hb1.alloc (by simp) (.cells #[.int .i64 c.num, .slice T c.root.length ct] 35)
 have hb3 := hb2.alloc (by simp; omega) (.cells #[.int .i64 g.wit, .int .i64 g.sig.index, .slice P g.sig.parts.length cp, .slice Q g.sig.path.length cq] 89)
 have k1 := ((Blk.new w 30 [.slice L p.log.length cl, .slice R p.wits.length cr, .int .i64 p.quorum]).below ((Below.refl _ _).alloc (Nat.le_refl _) (.cells #[.int .i64 c.num, .slice T c.root.length ct] 35))).below ((Below.refl _ _).alloc (Nat.le_refl _) (.cells #[.int .i64 g.wit, .int .i64 g.sig.index, .slice P g.sig.parts.length cp, .slice Q g.sig.path.length cq] 89))
 have k2 := (Blk.new (w.alloc (.cells #[.slice L p.log.length cl, .slice R p.wits.length cr, .int .i64 p.quorum] 30)) 35 [.int .i64 c.num, .slice T c.root.length ct]).below ((Below.refl _ _).alloc (Nat.le_refl _) (.cells #[.int .i64 g.wit, .int .i64 g.sig.index, .slice P g.sig.parts.length cp, .slice Q g.sig.path.length cq] 89))
 have k3 := Blk.new ((w.alloc (.cells #[.slice L p.log.length cl, .slice R p.wits.length cr, .int .i64 p.quorum] 30)).alloc (.cells #[.int .i64 c.num, .slice T c.root.length ct] 35)) 89 [.int .i64 g.wit, .int .i64 g.sig.index, .slice P g.sig.parts.length cp, .slice Q g.sig.path.length cq]
 rw [show (w.alloc (.cells #[.slice L p.log.length cl, .slice R p.wits.length cr, .int .i64 p.quorum] 30)).heap.size = w.heap.size + 1 by simp] at k2
 rw [show ((w.alloc (.cells #[.slice L p.log.length cl, .slice R p.wits.length cr, .int .i64 p.quorum] 30)).alloc (.cells #[.int .i64 c.num, .slice T c.root.length ct] 35)).heap.size = w.heap.size + 2 by simp] at k3
 have HW := Lib.hid (And.intro k1 (And.intro k2 (And.intro k3 hb3)))
 clear k1 k2 k3 hb1 hb2 hb3
 go_enter Tryz.func67, Tryz.ntmps67
 go_wp2
 refine code_at (fun w0 => Blk w0 w.heap.size 30 [.slice L p.log.length cl, .slice R p.wits.length cr, .int .i64 p.quorum] ∧ Blk w0 (w.heap.size + 1) 35 [.int .i64 c.num, .slice T c.root.length ct] ∧ Blk w0 (w.heap.size + 1 + 1) 89 [.int .i64 g.wit, .int .i64 g.sig.index, .slice P g.sig.parts.length cp, .slice Q g.sig.path.length cq] ∧ Below w.heap.size w w0) HW.out ?_
 intro w0 h0
 have H0 := Lib.hid h0
 have hl1 := h0.1.lt
 have hl2 := h0.2.1.lt
 have hl3 := h0.2.2.1.lt
 clear h0 HW
 have z0 := H0.out.1.cell 0 _ rfl
 have z1 := H0.out.1.cell 1 _ rfl
 have z2 := H0.out.1.cell 2 _ rfl
 have z3 := H0.out.2.1.cell 0 _ rfl
 have z4 := H0.out.2.1.cell 1 _ rfl
 have z5 := H0.out.2.2.1.cell 0 _ rfl
 have z6 := H0.out.2.2.1.cell 1 _ rfl
 have z7 := H0.out.2.2.1.cell 2 _ rfl
 have z8 := H0.out.2.2.1.cell 3 _ rfl
 cases PB with
 | false =>
  refine wp_region_held_drew (S := fun w' => w'.cell? ⟨w.heap.size, 0, none⟩ = some (.slice L p.log.length cl) ∧ w'.cell? ⟨w.heap.size, 1, none⟩ = some (.slice R p.wits.length cr) ∧ w'.cell? ⟨w.heap.size, 2, none⟩ = some (.int .i64 p.quorum) ∧ w'.cell? ⟨w.heap.size + 1, 0, none⟩ = some (.int .i64 c.num) ∧ w'.cell? ⟨w.heap.size + 1, 1, none⟩ = some (.slice T c.root.length ct) ∧ w'.cell? ⟨w.heap.size + 1 + 1, 0, none⟩ = some (.int .i64 g.wit) ∧ w'.cell? ⟨w.heap.size + 1 + 1, 1, none⟩ = some (.int .i64 g.sig.index) ∧ w'.cell? ⟨w.heap.size + 1 + 1, 2, none⟩ = some (.slice P g.sig.parts.length cp) ∧ w'.cell? ⟨w.heap.size + 1 + 1, 3, none⟩ = some (.slice Q g.sig.path.length cq)) (by kernel_rfl) ?_ (fun hHeld => ?_)
  ·exact ⟨z0, z1, z2, z3, z4, z5, z6, z7, z8⟩
  refine ty 0 7 rfl rfl ?_; simp only [sa, sb, sc]
  refine rd 1 (by kernel_rfl) rfl (fun K hK => ?_)
  go_simp
  go_at_call 68
  refine (HPR.out w0.drew _ ⟨_, _, rfl, (HX.out.1.below H0.out.2.2.2).below (Below.refl w0.heap.size w0).drew, (HX.out.2.1.below H0.out.2.2.2).below (Below.refl w0.heap.size w0).drew⟩).mono ?_
  rintro e w1 ⟨rfl, hb'⟩
  have hh : Below w0.heap.size w0 w1 := ⟨hb'.os, hb'.tape, hb'.output, hb'.size, hb'.block⟩
  have H1 := Lib.hid (And.intro (H0.out.1.below hh) (And.intro (H0.out.2.1.below hh) (And.intro (H0.out.2.2.1.below hh) (H0.out.2.2.2.trans (hh.mono H0.out.2.2.2.size)))))
  have x1_0 := H1.out.1.cell 0 _ rfl
  have x1_1 := H1.out.1.cell 1 _ rfl
  have x1_2 := H1.out.1.cell 2 _ rfl
  have x1_3 := H1.out.2.1.cell 0 _ rfl
  have x1_4 := H1.out.2.1.cell 1 _ rfl
  have x1_5 := H1.out.2.2.1.cell 0 _ rfl
  have x1_6 := H1.out.2.2.1.cell 1 _ rfl
  have x1_7 := H1.out.2.2.1.cell 2 _ rfl
  have x1_8 := H1.out.2.2.1.cell 3 _ rfl
  clear hh hb' z0 z1 z2 z3 z4 z5 z6 z7 z8
  try dsimp only
  refine hK.out _ _ ⟨x1_0, x1_1, x1_2, x1_3, x1_4, x1_5, x1_6, x1_7, x1_8⟩ (fun hHeld1 => ?_)
  clear hK K; try simp only [Act.put, sa, sb, sc]
  refine ty 2 9 rfl rfl ?_; simp only [sa, sb, sc]
  refine tn 3 10 rfl rfl ?_; simp only [sa, sb, sc]
  refine tn 4 11 rfl rfl ?_; simp only [sa, sb, sc]
  refine ty 5 12 rfl rfl ?_; simp only [sa, sb, sc]
  refine ty 6 13 rfl rfl ?_; simp only [sa, sb, sc]
  refine tn 7 14 rfl rfl ?_; simp only [sa, sb, sc]
  refine tn 8 15 rfl rfl ?_; simp only [sa, sb, sc]
  refine tn 9 16 rfl rfl ?_; simp only [sa, sb, sc]
  refine ty 10 17 rfl rfl ?_; simp only [sa, sb, sc]
  refine ty 11 18 rfl rfl ?_; simp only [sa, sb, sc]
  refine tn 12 19 rfl rfl ?_; simp only [sa, sb, sc]
  refine tn 13 20 rfl rfl ?_; simp only [sa, sb, sc]
  refine tn 14 21 rfl rfl ?_; simp only [sa, sb, sc]
  refine tn 15 22 rfl rfl ?_; simp only [sa, sb, sc]
  refine tn 16 23 rfl rfl ?_; simp only [sa, sb, sc]
  refine tn 17 24 rfl rfl ?_; simp only [sa, sb, sc]
  refine ty 18 25 rfl rfl ?_; simp only [sa, sb, sc]
  refine ty 19 26 rfl rfl ?_; simp only [sa, sb, sc]
  refine tn 20 27 rfl rfl ?_; simp only [sa, sb, sc]
  refine tn 21 28 rfl rfl ?_; simp only [sa, sb, sc]
  refine tn 22 29 rfl rfl ?_; simp only [sa, sb, sc]
  refine tn 23 30 rfl rfl ?_; simp only [sa, sb, sc]
  refine tn 24 31 rfl rfl ?_; simp only [sa, sb, sc]
  refine tn 25 32 rfl rfl ?_; simp only [sa, sb, sc]
  refine tn 26 33 rfl rfl ?_; simp only [sa, sb, sc]
  refine tn 27 34 rfl rfl ?_; simp only [sa, sb, sc]
  refine tn 28 35 rfl rfl ?_; simp only [sa, sb, sc]
  refine tn 29 36 rfl rfl ?_; simp only [sa, sb, sc]
  refine tn 30 37 rfl rfl ?_; simp only [sa, sb, sc]
  refine ty 31 38 rfl rfl ?_; simp only [sa, sb, sc]
  refine ty 32 6 rfl rfl ?_; simp only [sa, sb, sc]
  refine wpAnyH_done (by kernel_rfl) ?_ _
  have HF : Hid (CV = false) := Lib.hid (by rw [HCV.out]; rfl)
  go_wp2
  go_ret
  exact ⟨by rw [HF.out]; rfl, H1.out.2.2.2⟩
 | true =>
  rw [Bool.true_and] at HCV
  cases CB with
  | false =>
   refine wp_region_held_drew (S := fun w' => w'.cell? ⟨w.heap.size, 0, none⟩ = some (.slice L p.log.length cl) ∧ w'.cell? ⟨w.heap.size, 1, none⟩ = some (.slice R p.wits.length cr) ∧ w'.cell? ⟨w.heap.size, 2, none⟩ = some (.int .i64 p.quorum) ∧ w'.cell? ⟨w.heap.size + 1, 0, none⟩ = some (.int .i64 c.num) ∧ w'.cell? ⟨w.heap.size + 1, 1, none⟩ = some (.slice T c.root.length ct) ∧ w'.cell? ⟨w.heap.size + 1 + 1, 0, none⟩ = some (.int .i64 g.wit) ∧ w'.cell? ⟨w.heap.size + 1 + 1, 1, none⟩ = some (.int .i64 g.sig.index) ∧ w'.cell? ⟨w.heap.size + 1 + 1, 2, none⟩ = some (.slice P g.sig.parts.length cp) ∧ w'.cell? ⟨w.heap.size + 1 + 1, 3, none⟩ = some (.slice Q g.sig.path.length cq)) (by kernel_rfl) ?_ (fun hHeld => ?_)
   ·exact ⟨z0, z1, z2, z3, z4, z5, z6, z7, z8⟩
   refine ty 0 7 rfl rfl ?_; simp only [sa, sb, sc]
   refine rd 1 (by kernel_rfl) rfl (fun K hK => ?_)
   go_simp
   go_at_call 68
   refine (HPR.out w0.drew _ ⟨_, _, rfl, (HX.out.1.below H0.out.2.2.2).below (Below.refl w0.heap.size w0).drew, (HX.out.2.1.below H0.out.2.2.2).below (Below.refl w0.heap.size w0).drew⟩).mono ?_
   rintro e w1 ⟨rfl, hb'⟩
   have hh : Below w0.heap.size w0 w1 := ⟨hb'.os, hb'.tape, hb'.output, hb'.size, hb'.block⟩
   have H1 := Lib.hid (And.intro (H0.out.1.below hh) (And.intro (H0.out.2.1.below hh) (And.intro (H0.out.2.2.1.below hh) (H0.out.2.2.2.trans (hh.mono H0.out.2.2.2.size)))))
   have x1_0 := H1.out.1.cell 0 _ rfl
   have x1_1 := H1.out.1.cell 1 _ rfl
   have x1_2 := H1.out.1.cell 2 _ rfl
   have x1_3 := H1.out.2.1.cell 0 _ rfl
   have x1_4 := H1.out.2.1.cell 1 _ rfl
   have x1_5 := H1.out.2.2.1.cell 0 _ rfl
   have x1_6 := H1.out.2.2.1.cell 1 _ rfl
   have x1_7 := H1.out.2.2.1.cell 2 _ rfl
   have x1_8 := H1.out.2.2.1.cell 3 _ rfl
   clear hh hb' z0 z1 z2 z3 z4 z5 z6 z7 z8
   try dsimp only
   refine hK.out _ _ ⟨x1_0, x1_1, x1_2, x1_3, x1_4, x1_5, x1_6, x1_7, x1_8⟩ (fun hHeld1 => ?_)
   clear hK K; try simp only [Act.put, sa, sb, sc]
   refine ty 2 9 rfl rfl ?_; simp only [sa, sb, sc]
   refine ty 3 10 rfl rfl ?_; simp only [sa, sb, sc]
   refine rd 4 (by kernel_rfl) rfl (fun K hK => ?_)
   go_simp
   go_at_call 65
   refine (HCR.out w1 _ ⟨_, rfl, HX.out.2.2.1.below H1.out.2.2.2⟩).mono ?_
   rintro e w2 ⟨rfl, hb'⟩
   have hh : Below w1.heap.size w1 w2 := ⟨hb'.os, hb'.tape, hb'.output, hb'.size, hb'.block⟩
   have H2 := Lib.hid (And.intro (H1.out.1.below hh) (And.intro (H1.out.2.1.below hh) (And.intro (H1.out.2.2.1.below hh) (H1.out.2.2.2.trans (hh.mono H1.out.2.2.2.size)))))
   have x2_0 := H2.out.1.cell 0 _ rfl
   have x2_1 := H2.out.1.cell 1 _ rfl
   have x2_2 := H2.out.1.cell 2 _ rfl
   have x2_3 := H2.out.2.1.cell 0 _ rfl
   have x2_4 := H2.out.2.1.cell 1 _ rfl
   have x2_5 := H2.out.2.2.1.cell 0 _ rfl
   have x2_6 := H2.out.2.2.1.cell 1 _ rfl
   have x2_7 := H2.out.2.2.1.cell 2 _ rfl
   have x2_8 := H2.out.2.2.1.cell 3 _ rfl
   clear hh hb' x1_0 x1_1 x1_2 x1_3 x1_4 x1_5 x1_6 x1_7 x1_8
   try dsimp only
   refine hK.out _ _ ⟨x2_0, x2_1, x2_2, x2_3, x2_4, x2_5, x2_6, x2_7, x2_8⟩ (fun hHeld4 => ?_)
   clear hK K; try simp only [Act.put, sa, sb, sc]
   refine ty 5 12 rfl rfl ?_; simp only [sa, sb, sc]
   refine ty 6 13 rfl rfl ?_; simp only [sa, sb, sc]
   refine tn 7 14 rfl rfl ?_; simp only [sa, sb, sc]
   refine tn 8 15 rfl rfl ?_; simp only [sa, sb, sc]
   refine tn 9 16 rfl rfl ?_; simp only [sa, sb, sc]
   refine ty 10 17 rfl rfl ?_; simp only [sa, sb, sc]
   refine ty 11 18 rfl rfl ?_; simp only [sa, sb, sc]
   refine tn 12 19 rfl rfl ?_; simp only [sa, sb, sc]
   refine tn 13 20 rfl rfl ?_; simp only [sa, sb, sc]
   refine tn 14 21 rfl rfl ?_; simp only [sa, sb, sc]
   refine tn 15 22 rfl rfl ?_; simp only [sa, sb, sc]
   refine tn 16 23 rfl rfl ?_; simp only [sa, sb, sc]
   refine tn 17 24 rfl rfl ?_; simp only [sa, sb, sc]
   refine ty 18 25 rfl rfl ?_; simp only [sa, sb, sc]
   refine ty 19 26 rfl rfl ?_; simp only [sa, sb, sc]
   refine tn 20 27 rfl rfl ?_; simp only [sa, sb, sc]
   refine tn 21 28 rfl rfl ?_; simp only [sa, sb, sc]
   refine tn 22 29 rfl rfl ?_; simp only [sa, sb, sc]
   refine tn 23 30 rfl rfl ?_; simp only [sa, sb, sc]
   refine tn 24 31 rfl rfl ?_; simp only [sa, sb, sc]
   refine tn 25 32 rfl rfl ?_; simp only [sa, sb, sc]
   refine tn 26 33 rfl rfl ?_; simp only [sa, sb, sc]
   refine tn 27 34 rfl rfl ?_; simp only [sa, sb, sc]
   refine tn 28 35 rfl rfl ?_; simp only [sa, sb, sc]
   refine tn 29 36 rfl rfl ?_; simp only [sa, sb, sc]
   refine tn 30 37 rfl rfl ?_; simp only [sa, sb, sc]
   refine ty 31 38 rfl rfl ?_; simp only [sa, sb, sc]
   refine ty 32 6 rfl rfl ?_; simp only [sa, sb, sc]
   refine wpAnyH_done (by kernel_rfl) ?_ _
   have HF : Hid (CV = false) := Lib.hid (by rw [HCV.out]; rfl)
   go_wp2
   go_ret
   exact ⟨by rw [HF.out]; rfl, H2.out.2.2.2⟩
  | true =>
   rw [Bool.true_and] at HCV
   by_cases hw0 : 0 ≤ g.wit
   ·by_cases hw1 : g.wit < (p.wits.length : Int)
    ·rw [decide_eq_true hw0, decide_eq_true hw1, Bool.true_and, Bool.true_and] at HCV
     obtain ⟨k, hk⟩ := Int.eq_ofNat_of_zero_le hw0
     have hgw : g.wit = (k : Int) := hk
     rw [hgw, Int.toNat_natCast] at HCV
     rw [hgw] at hw0 hw1 z5
     have hkl : k < p.wits.length := by omega
     obtain ⟨wg, wo, rfl, hwg, -, hroom, hroom2, hall⟩ := HX.out.2.1.all (by omega)
     obtain ⟨A9, c9, hcu, hbu⟩ := hall k hkl
     have HVK := Lib.hid (HVF.out _ (HPW.out k hkl))
     have HWC := Lib.hid (And.intro hcu hbu)
     have zw := (H0.out.2.2.2.cell (p := ⟨wg, wo + k, none⟩) hwg).trans hcu
     unfold maxLen at hroom2
     clear hcu hbu hall hk
     generalize p.wits.getD k [] = PUB at *
     generalize verifyB PUB BO g.sig = VB at *
     refine wp_region_held_drew (S := fun w' => w'.cell? ⟨w.heap.size, 0, none⟩ = some (.slice L p.log.length cl) ∧ w'.cell? ⟨w.heap.size, 1, none⟩ = some (.slice (some ⟨wg, wo, none⟩) p.wits.length cr) ∧ w'.cell? ⟨w.heap.size, 2, none⟩ = some (.int .i64 p.quorum) ∧ w'.cell? ⟨w.heap.size + 1, 0, none⟩ = some (.int .i64 c.num) ∧ w'.cell? ⟨w.heap.size + 1, 1, none⟩ = some (.slice T c.root.length ct) ∧ w'.cell? ⟨w.heap.size + 1 + 1, 0, none⟩ = some (.int .i64 k) ∧ w'.cell? ⟨w.heap.size + 1 + 1, 1, none⟩ = some (.int .i64 g.sig.index) ∧ w'.cell? ⟨w.heap.size + 1 + 1, 2, none⟩ = some (.slice P g.sig.parts.length cp) ∧ w'.cell? ⟨w.heap.size + 1 + 1, 3, none⟩ = some (.slice Q g.sig.path.length cq) ∧ w'.cell? ⟨wg, wo + k, none⟩ = some (.slice A9 PUB.length c9)) (by kernel_rfl) ?_ (fun hHeld => ?_)
     ·exact ⟨z0, z1, z2, z3, z4, z5, z6, z7, z8, zw⟩
     refine ty 0 7 rfl rfl ?_; simp only [sa, sb, sc]
     refine rd 1 (by kernel_rfl) rfl (fun K hK => ?_)
     go_simp
     go_at_call 68
     refine (HPR.out w0.drew _ ⟨_, _, rfl, (HX.out.1.below H0.out.2.2.2).below (Below.refl w0.heap.size w0).drew, (HX.out.2.1.below H0.out.2.2.2).below (Below.refl w0.heap.size w0).drew⟩).mono ?_
     rintro e w1 ⟨rfl, hb'⟩
     have hh : Below w0.heap.size w0 w1 := ⟨hb'.os, hb'.tape, hb'.output, hb'.size, hb'.block⟩
     have H1 := Lib.hid (And.intro (H0.out.1.below hh) (And.intro (H0.out.2.1.below hh) (And.intro (H0.out.2.2.1.below hh) (H0.out.2.2.2.trans (hh.mono H0.out.2.2.2.size)))))
     have x1_0 := H1.out.1.cell 0 _ rfl
     have x1_1 := H1.out.1.cell 1 _ rfl
     have x1_2 := H1.out.1.cell 2 _ rfl
     have x1_3 := H1.out.2.1.cell 0 _ rfl
     have x1_4 := H1.out.2.1.cell 1 _ rfl
     have x1_5 := H1.out.2.2.1.cell 0 _ rfl
     have x1_6 := H1.out.2.2.1.cell 1 _ rfl
     have x1_7 := H1.out.2.2.1.cell 2 _ rfl
     have x1_8 := H1.out.2.2.1.cell 3 _ rfl
     rw [hgw] at x1_5
     have x1_w := (H1.out.2.2.2.cell (p := ⟨wg, wo + k, none⟩) hwg).trans HWC.out.1
     clear hh hb' z0 z1 z2 z3 z4 z5 z6 z7 z8 zw
     try dsimp only
     refine hK.out _ _ ⟨x1_0, x1_1, x1_2, x1_3, x1_4, x1_5, x1_6, x1_7, x1_8, x1_w⟩ (fun hHeld1 => ?_)
     clear hK K; try simp only [Act.put, sa, sb, sc]
     refine ty 2 9 rfl rfl ?_; simp only [sa, sb, sc]
     refine ty 3 10 rfl rfl ?_; simp only [sa, sb, sc]
     refine rd 4 (by kernel_rfl) rfl (fun K hK => ?_)
     go_simp
     go_at_call 65
     refine (HCR.out w1 _ ⟨_, rfl, HX.out.2.2.1.below H1.out.2.2.2⟩).mono ?_
     rintro e w2 ⟨rfl, hb'⟩
     have hh : Below w1.heap.size w1 w2 := ⟨hb'.os, hb'.tape, hb'.output, hb'.size, hb'.block⟩
     have H2 := Lib.hid (And.intro (H1.out.1.below hh) (And.intro (H1.out.2.1.below hh) (And.intro (H1.out.2.2.1.below hh) (H1.out.2.2.2.trans (hh.mono H1.out.2.2.2.size)))))
     have x2_0 := H2.out.1.cell 0 _ rfl
     have x2_1 := H2.out.1.cell 1 _ rfl
     have x2_2 := H2.out.1.cell 2 _ rfl
     have x2_3 := H2.out.2.1.cell 0 _ rfl
     have x2_4 := H2.out.2.1.cell 1 _ rfl
     have x2_5 := H2.out.2.2.1.cell 0 _ rfl
     have x2_6 := H2.out.2.2.1.cell 1 _ rfl
     have x2_7 := H2.out.2.2.1.cell 2 _ rfl
     have x2_8 := H2.out.2.2.1.cell 3 _ rfl
     rw [hgw] at x2_5
     have x2_w := (H2.out.2.2.2.cell (p := ⟨wg, wo + k, none⟩) hwg).trans HWC.out.1
     clear hh hb' x1_0 x1_1 x1_2 x1_3 x1_4 x1_5 x1_6 x1_7 x1_8 x1_w
     try dsimp only
     refine hK.out _ _ ⟨x2_0, x2_1, x2_2, x2_3, x2_4, x2_5, x2_6, x2_7, x2_8, x2_w⟩ (fun hHeld4 => ?_)
     clear hK K; try simp only [Act.put, sa, sb, sc]
     refine ty 5 12 rfl rfl ?_; simp only [sa, sb, sc]
     refine ty 6 13 rfl rfl ?_; simp only [sa, sb, sc]
     refine ty 7 14 rfl rfl ?_; simp only [sa, sb, sc]
     refine ty 8 15 rfl rfl ?_; simp only [sa, sb, sc]
     refine ty 9 16 rfl rfl ?_; simp only [sa, sb, sc]
     refine ty 10 17 rfl rfl ?_; simp only [sa, sb, sc]
     refine ty 11 18 rfl rfl ?_; simp only [sa, sb, sc]
     refine ty 12 19 rfl rfl ?_; simp only [sa, sb, sc]
     refine ty 13 20 rfl rfl ?_; simp only [sa, sb, sc]
     refine ty 14 21 rfl rfl ?_; simp only [sa, sb, sc]
     refine ty 15 22 rfl rfl ?_; simp only [sa, sb, sc]
     refine ty 16 23 rfl rfl ?_; simp only [sa, sb, sc]
     refine ty 17 24 rfl rfl ?_; simp only [sa, sb, sc]
     refine ty 18 25 rfl rfl ?_; simp only [sa, sb, sc]
     refine ty 19 26 rfl rfl ?_; simp only [sa, sb, sc]
     refine ty 20 27 rfl rfl ?_; simp only [sa, sb, sc]
     refine ty 21 28 rfl rfl ?_; simp only [sa, sb, sc]
     refine ty 22 29 rfl rfl ?_; simp only [sa, sb, sc]
     refine ty 23 30 rfl rfl ?_; simp only [sa, sb, sc]
     refine ty 24 31 rfl rfl ?_; simp only [sa, sb, sc]
     refine ty 25 32 rfl rfl ?_; simp only [sa, sb, sc]
     refine ty 26 33 rfl rfl ?_; simp only [sa, sb, sc]
     refine ty 28 35 rfl rfl ?_; simp only [sa, sb, sc]
     refine ty 29 36 rfl rfl ?_; simp only [sa, sb, sc]
     refine rd 27 (by kernel_rfl) rfl (fun K hK => ?_)
     go_simp
     go_at_call 36
     refine (HBD.out w2 _ ⟨_, rfl, HX.out.2.2.1.below H2.out.2.2.2⟩).mono ?_
     rintro e w3 ⟨v3, rfl, hbo, hb'⟩
     obtain ⟨A3, c3, rfl⟩ := hbo.form
     have HBO := Lib.hid hbo
     clear hbo
     have hh : Below w2.heap.size w2 w3 := ⟨hb'.os, hb'.tape, hb'.output, hb'.size, hb'.block⟩
     have H3 := Lib.hid (And.intro (H2.out.1.below hh) (And.intro (H2.out.2.1.below hh) (And.intro (H2.out.2.2.1.below hh) (H2.out.2.2.2.trans (hh.mono H2.out.2.2.2.size)))))
     have x3_0 := H3.out.1.cell 0 _ rfl
     have x3_1 := H3.out.1.cell 1 _ rfl
     have x3_2 := H3.out.1.cell 2 _ rfl
     have x3_3 := H3.out.2.1.cell 0 _ rfl
     have x3_4 := H3.out.2.1.cell 1 _ rfl
     have x3_5 := H3.out.2.2.1.cell 0 _ rfl
     have x3_6 := H3.out.2.2.1.cell 1 _ rfl
     have x3_7 := H3.out.2.2.1.cell 2 _ rfl
     have x3_8 := H3.out.2.2.1.cell 3 _ rfl
     rw [hgw] at x3_5
     have x3_w := (H3.out.2.2.2.cell (p := ⟨wg, wo + k, none⟩) hwg).trans HWC.out.1
     clear hh hb' x2_0 x2_1 x2_2 x2_3 x2_4 x2_5 x2_6 x2_7 x2_8 x2_w
     try dsimp only
     refine hK.out _ _ ⟨x3_0, x3_1, x3_2, x3_3, x3_4, x3_5, x3_6, x3_7, x3_8, x3_w⟩ (fun hHeld27 => ?_)
     clear hK K; try simp only [Act.put, sa, sb, sc]
     refine rd 30 (by kernel_rfl) rfl (fun K hK => ?_)
     go_simp
     go_at_call 66
     refine (HVK.out w3 _ _ _ (HWC.out.2.below H3.out.2.2.2) HBO.out ⟨_, _, rfl, HX.out.2.2.2.1.below H3.out.2.2.2, HX.out.2.2.2.2.below H3.out.2.2.2⟩).mono ?_
     rintro e w4 ⟨rfl, hb'⟩
     have hh : Below w3.heap.size w3 w4 := ⟨hb'.os, hb'.tape, hb'.output, hb'.size, hb'.block⟩
     have H4 := Lib.hid (And.intro (H3.out.1.below hh) (And.intro (H3.out.2.1.below hh) (And.intro (H3.out.2.2.1.below hh) (H3.out.2.2.2.trans (hh.mono H3.out.2.2.2.size)))))
     have x4_0 := H4.out.1.cell 0 _ rfl
     have x4_1 := H4.out.1.cell 1 _ rfl
     have x4_2 := H4.out.1.cell 2 _ rfl
     have x4_3 := H4.out.2.1.cell 0 _ rfl
     have x4_4 := H4.out.2.1.cell 1 _ rfl
     have x4_5 := H4.out.2.2.1.cell 0 _ rfl
     have x4_6 := H4.out.2.2.1.cell 1 _ rfl
     have x4_7 := H4.out.2.2.1.cell 2 _ rfl
     have x4_8 := H4.out.2.2.1.cell 3 _ rfl
     rw [hgw] at x4_5
     have x4_w := (H4.out.2.2.2.cell (p := ⟨wg, wo + k, none⟩) hwg).trans HWC.out.1
     clear hh hb' x3_0 x3_1 x3_2 x3_3 x3_4 x3_5 x3_6 x3_7 x3_8 x3_w
     try dsimp only
     refine hK.out _ _ ⟨x4_0, x4_1, x4_2, x4_3, x4_4, x4_5, x4_6, x4_7, x4_8, x4_w⟩ (fun hHeld30 => ?_)
     clear hK K; try simp only [Act.put, sa, sb, sc]
     refine ty 31 38 rfl rfl ?_; simp only [sa, sb, sc]
     refine ty 32 6 rfl rfl ?_; simp only [sa, sb, sc]
     refine wpAnyH_done (by kernel_rfl) ?_ _
     have HF : Hid (CV = VB) := Lib.hid (by rw [HCV.out])
     go_wp2
     go_ret
     exact ⟨by rw [HF.out]; rfl, H4.out.2.2.2⟩
    ·have hwn : ¬ g.wit < (p.wits.length : Int) := hw1
     refine wp_region_held_drew (S := fun w' => w'.cell? ⟨w.heap.size, 0, none⟩ = some (.slice L p.log.length cl) ∧ w'.cell? ⟨w.heap.size, 1, none⟩ = some (.slice R p.wits.length cr) ∧ w'.cell? ⟨w.heap.size, 2, none⟩ = some (.int .i64 p.quorum) ∧ w'.cell? ⟨w.heap.size + 1, 0, none⟩ = some (.int .i64 c.num) ∧ w'.cell? ⟨w.heap.size + 1, 1, none⟩ = some (.slice T c.root.length ct) ∧ w'.cell? ⟨w.heap.size + 1 + 1, 0, none⟩ = some (.int .i64 g.wit) ∧ w'.cell? ⟨w.heap.size + 1 + 1, 1, none⟩ = some (.int .i64 g.sig.index) ∧ w'.cell? ⟨w.heap.size + 1 + 1, 2, none⟩ = some (.slice P g.sig.parts.length cp) ∧ w'.cell? ⟨w.heap.size + 1 + 1, 3, none⟩ = some (.slice Q g.sig.path.length cq)) (by kernel_rfl) ?_ (fun hHeld => ?_)
     ·exact ⟨z0, z1, z2, z3, z4, z5, z6, z7, z8⟩
     refine ty 0 7 rfl rfl ?_; simp only [sa, sb, sc]
     refine rd 1 (by kernel_rfl) rfl (fun K hK => ?_)
     go_simp
     go_at_call 68
     refine (HPR.out w0.drew _ ⟨_, _, rfl, (HX.out.1.below H0.out.2.2.2).below (Below.refl w0.heap.size w0).drew, (HX.out.2.1.below H0.out.2.2.2).below (Below.refl w0.heap.size w0).drew⟩).mono ?_
     rintro e w1 ⟨rfl, hb'⟩
     have hh : Below w0.heap.size w0 w1 := ⟨hb'.os, hb'.tape, hb'.output, hb'.size, hb'.block⟩
     have H1 := Lib.hid (And.intro (H0.out.1.below hh) (And.intro (H0.out.2.1.below hh) (And.intro (H0.out.2.2.1.below hh) (H0.out.2.2.2.trans (hh.mono H0.out.2.2.2.size)))))
     have x1_0 := H1.out.1.cell 0 _ rfl
     have x1_1 := H1.out.1.cell 1 _ rfl
     have x1_2 := H1.out.1.cell 2 _ rfl
     have x1_3 := H1.out.2.1.cell 0 _ rfl
     have x1_4 := H1.out.2.1.cell 1 _ rfl
     have x1_5 := H1.out.2.2.1.cell 0 _ rfl
     have x1_6 := H1.out.2.2.1.cell 1 _ rfl
     have x1_7 := H1.out.2.2.1.cell 2 _ rfl
     have x1_8 := H1.out.2.2.1.cell 3 _ rfl
     clear hh hb' z0 z1 z2 z3 z4 z5 z6 z7 z8
     try dsimp only
     refine hK.out _ _ ⟨x1_0, x1_1, x1_2, x1_3, x1_4, x1_5, x1_6, x1_7, x1_8⟩ (fun hHeld1 => ?_)
     clear hK K; try simp only [Act.put, sa, sb, sc]
     refine ty 2 9 rfl rfl ?_; simp only [sa, sb, sc]
     refine ty 3 10 rfl rfl ?_; simp only [sa, sb, sc]
     refine rd 4 (by kernel_rfl) rfl (fun K hK => ?_)
     go_simp
     go_at_call 65
     refine (HCR.out w1 _ ⟨_, rfl, HX.out.2.2.1.below H1.out.2.2.2⟩).mono ?_
     rintro e w2 ⟨rfl, hb'⟩
     have hh : Below w1.heap.size w1 w2 := ⟨hb'.os, hb'.tape, hb'.output, hb'.size, hb'.block⟩
     have H2 := Lib.hid (And.intro (H1.out.1.below hh) (And.intro (H1.out.2.1.below hh) (And.intro (H1.out.2.2.1.below hh) (H1.out.2.2.2.trans (hh.mono H1.out.2.2.2.size)))))
     have x2_0 := H2.out.1.cell 0 _ rfl
     have x2_1 := H2.out.1.cell 1 _ rfl
     have x2_2 := H2.out.1.cell 2 _ rfl
     have x2_3 := H2.out.2.1.cell 0 _ rfl
     have x2_4 := H2.out.2.1.cell 1 _ rfl
     have x2_5 := H2.out.2.2.1.cell 0 _ rfl
     have x2_6 := H2.out.2.2.1.cell 1 _ rfl
     have x2_7 := H2.out.2.2.1.cell 2 _ rfl
     have x2_8 := H2.out.2.2.1.cell 3 _ rfl
     clear hh hb' x1_0 x1_1 x1_2 x1_3 x1_4 x1_5 x1_6 x1_7 x1_8
     try dsimp only
     refine hK.out _ _ ⟨x2_0, x2_1, x2_2, x2_3, x2_4, x2_5, x2_6, x2_7, x2_8⟩ (fun hHeld4 => ?_)
     clear hK K; try simp only [Act.put, sa, sb, sc]
     refine ty 5 12 rfl rfl ?_; simp only [sa, sb, sc]
     refine ty 6 13 rfl rfl ?_; simp only [sa, sb, sc]
     refine ty 7 14 rfl rfl ?_; simp only [sa, sb, sc]
     refine ty 8 15 rfl rfl ?_; simp only [sa, sb, sc]
     refine ty 9 16 rfl rfl ?_; simp only [sa, sb, sc]
     refine ty 10 17 rfl rfl ?_; simp only [sa, sb, sc]
     refine ty 11 18 rfl rfl ?_; simp only [sa, sb, sc]
     refine ty 12 19 rfl rfl ?_; simp only [sa, sb, sc]
     refine ty 13 20 rfl rfl ?_; simp only [sa, sb, sc]
     refine ty 14 21 rfl rfl ?_; simp only [sa, sb, sc]
     refine ty 15 22 rfl rfl ?_; simp only [sa, sb, sc]
     refine ty 16 23 rfl rfl ?_; simp only [sa, sb, sc]
     refine ty 17 24 rfl rfl ?_; simp only [sa, sb, sc]
     refine ty 18 25 rfl rfl ?_; simp only [sa, sb, sc]
     refine ty 19 26 rfl rfl ?_; simp only [sa, sb, sc]
     refine tn 20 27 rfl rfl ?_; simp only [sa, sb, sc]
     refine tn 21 28 rfl rfl ?_; simp only [sa, sb, sc]
     refine tn 22 29 rfl rfl ?_; simp only [sa, sb, sc]
     refine tn 23 30 rfl rfl ?_; simp only [sa, sb, sc]
     refine tn 24 31 rfl rfl ?_; simp only [sa, sb, sc]
     refine tn 25 32 rfl rfl ?_; simp only [sa, sb, sc]
     refine tn 26 33 rfl rfl ?_; simp only [sa, sb, sc]
     refine tn 27 34 rfl rfl ?_; simp only [sa, sb, sc]
     refine tn 28 35 rfl rfl ?_; simp only [sa, sb, sc]
     refine tn 29 36 rfl rfl ?_; simp only [sa, sb, sc]
     refine tn 30 37 rfl rfl ?_; simp only [sa, sb, sc]
     refine ty 31 38 rfl rfl ?_; simp only [sa, sb, sc]
     refine ty 32 6 rfl rfl ?_; simp only [sa, sb, sc]
     refine wpAnyH_done (by kernel_rfl) ?_ _
     have HF : Hid (CV = false) := Lib.hid (by rw [HCV.out, decide_eq_false hwn]; simp)
     go_wp2
     go_ret
     exact ⟨by rw [HF.out]; rfl, H2.out.2.2.2⟩
   ·have hwn : ¬ 0 ≤ g.wit := hw0
    refine wp_region_held_drew (S := fun w' => w'.cell? ⟨w.heap.size, 0, none⟩ = some (.slice L p.log.length cl) ∧ w'.cell? ⟨w.heap.size, 1, none⟩ = some (.slice R p.wits.length cr) ∧ w'.cell? ⟨w.heap.size, 2, none⟩ = some (.int .i64 p.quorum) ∧ w'.cell? ⟨w.heap.size + 1, 0, none⟩ = some (.int .i64 c.num) ∧ w'.cell? ⟨w.heap.size + 1, 1, none⟩ = some (.slice T c.root.length ct) ∧ w'.cell? ⟨w.heap.size + 1 + 1, 0, none⟩ = some (.int .i64 g.wit) ∧ w'.cell? ⟨w.heap.size + 1 + 1, 1, none⟩ = some (.int .i64 g.sig.index) ∧ w'.cell? ⟨w.heap.size + 1 + 1, 2, none⟩ = some (.slice P g.sig.parts.length cp) ∧ w'.cell? ⟨w.heap.size + 1 + 1, 3, none⟩ = some (.slice Q g.sig.path.length cq)) (by kernel_rfl) ?_ (fun hHeld => ?_)
    ·exact ⟨z0, z1, z2, z3, z4, z5, z6, z7, z8⟩
    refine ty 0 7 rfl rfl ?_; simp only [sa, sb, sc]
    refine rd 1 (by kernel_rfl) rfl (fun K hK => ?_)
    go_simp
    go_at_call 68
    refine (HPR.out w0.drew _ ⟨_, _, rfl, (HX.out.1.below H0.out.2.2.2).below (Below.refl w0.heap.size w0).drew, (HX.out.2.1.below H0.out.2.2.2).below (Below.refl w0.heap.size w0).drew⟩).mono ?_
    rintro e w1 ⟨rfl, hb'⟩
    have hh : Below w0.heap.size w0 w1 := ⟨hb'.os, hb'.tape, hb'.output, hb'.size, hb'.block⟩
    have H1 := Lib.hid (And.intro (H0.out.1.below hh) (And.intro (H0.out.2.1.below hh) (And.intro (H0.out.2.2.1.below hh) (H0.out.2.2.2.trans (hh.mono H0.out.2.2.2.size)))))
    have x1_0 := H1.out.1.cell 0 _ rfl
    have x1_1 := H1.out.1.cell 1 _ rfl
    have x1_2 := H1.out.1.cell 2 _ rfl
    have x1_3 := H1.out.2.1.cell 0 _ rfl
    have x1_4 := H1.out.2.1.cell 1 _ rfl
    have x1_5 := H1.out.2.2.1.cell 0 _ rfl
    have x1_6 := H1.out.2.2.1.cell 1 _ rfl
    have x1_7 := H1.out.2.2.1.cell 2 _ rfl
    have x1_8 := H1.out.2.2.1.cell 3 _ rfl
    clear hh hb' z0 z1 z2 z3 z4 z5 z6 z7 z8
    try dsimp only
    refine hK.out _ _ ⟨x1_0, x1_1, x1_2, x1_3, x1_4, x1_5, x1_6, x1_7, x1_8⟩ (fun hHeld1 => ?_)
    clear hK K; try simp only [Act.put, sa, sb, sc]
    refine ty 2 9 rfl rfl ?_; simp only [sa, sb, sc]
    refine ty 3 10 rfl rfl ?_; simp only [sa, sb, sc]
    refine rd 4 (by kernel_rfl) rfl (fun K hK => ?_)
    go_simp
    go_at_call 65
    refine (HCR.out w1 _ ⟨_, rfl, HX.out.2.2.1.below H1.out.2.2.2⟩).mono ?_
    rintro e w2 ⟨rfl, hb'⟩
    have hh : Below w1.heap.size w1 w2 := ⟨hb'.os, hb'.tape, hb'.output, hb'.size, hb'.block⟩
    have H2 := Lib.hid (And.intro (H1.out.1.below hh) (And.intro (H1.out.2.1.below hh) (And.intro (H1.out.2.2.1.below hh) (H1.out.2.2.2.trans (hh.mono H1.out.2.2.2.size)))))
    have x2_0 := H2.out.1.cell 0 _ rfl
    have x2_1 := H2.out.1.cell 1 _ rfl
    have x2_2 := H2.out.1.cell 2 _ rfl
    have x2_3 := H2.out.2.1.cell 0 _ rfl
    have x2_4 := H2.out.2.1.cell 1 _ rfl
    have x2_5 := H2.out.2.2.1.cell 0 _ rfl
    have x2_6 := H2.out.2.2.1.cell 1 _ rfl
    have x2_7 := H2.out.2.2.1.cell 2 _ rfl
    have x2_8 := H2.out.2.2.1.cell 3 _ rfl
    clear hh hb' x1_0 x1_1 x1_2 x1_3 x1_4 x1_5 x1_6 x1_7 x1_8
    try dsimp only
    refine hK.out _ _ ⟨x2_0, x2_1, x2_2, x2_3, x2_4, x2_5, x2_6, x2_7, x2_8⟩ (fun hHeld4 => ?_)
    clear hK K; try simp only [Act.put, sa, sb, sc]
    refine ty 5 12 rfl rfl ?_; simp only [sa, sb, sc]
    refine ty 6 13 rfl rfl ?_; simp only [sa, sb, sc]
    refine ty 7 14 rfl rfl ?_; simp only [sa, sb, sc]
    refine ty 8 15 rfl rfl ?_; simp only [sa, sb, sc]
    refine ty 9 16 rfl rfl ?_; simp only [sa, sb, sc]
    refine ty 10 17 rfl rfl ?_; simp only [sa, sb, sc]
    refine ty 11 18 rfl rfl ?_; simp only [sa, sb, sc]
    refine tn 12 19 rfl rfl ?_; simp only [sa, sb, sc]
    refine tn 13 20 rfl rfl ?_; simp only [sa, sb, sc]
    refine tn 14 21 rfl rfl ?_; simp only [sa, sb, sc]
    refine tn 15 22 rfl rfl ?_; simp only [sa, sb, sc]
    refine tn 16 23 rfl rfl ?_; simp only [sa, sb, sc]
    refine tn 17 24 rfl rfl ?_; simp only [sa, sb, sc]
    refine ty 18 25 rfl rfl ?_; simp only [sa, sb, sc]
    refine ty 19 26 rfl rfl ?_; simp only [sa, sb, sc]
    refine tn 20 27 rfl rfl ?_; simp only [sa, sb, sc]
    refine tn 21 28 rfl rfl ?_; simp only [sa, sb, sc]
    refine tn 22 29 rfl rfl ?_; simp only [sa, sb, sc]
    refine tn 23 30 rfl rfl ?_; simp only [sa, sb, sc]
    refine tn 24 31 rfl rfl ?_; simp only [sa, sb, sc]
    refine tn 25 32 rfl rfl ?_; simp only [sa, sb, sc]
    refine tn 26 33 rfl rfl ?_; simp only [sa, sb, sc]
    refine tn 27 34 rfl rfl ?_; simp only [sa, sb, sc]
    refine tn 28 35 rfl rfl ?_; simp only [sa, sb, sc]
    refine tn 29 36 rfl rfl ?_; simp only [sa, sb, sc]
    refine tn 30 37 rfl rfl ?_; simp only [sa, sb, sc]
    refine ty 31 38 rfl rfl ?_; simp only [sa, sb, sc]
    refine ty 32 6 rfl rfl ?_; simp only [sa, sb, sc]
    refine wpAnyH_done (by kernel_rfl) ?_ _
    have HF : Hid (CV = false) := Lib.hid (by rw [HCV.out, decide_eq_false hwn]; rfl)
    go_wp2
    go_ret
    exact ⟨by rw [HF.out]; rfl, H2.out.2.2.2⟩
end Go.Proofs.YtgeplpdcnanmnaaGreat
