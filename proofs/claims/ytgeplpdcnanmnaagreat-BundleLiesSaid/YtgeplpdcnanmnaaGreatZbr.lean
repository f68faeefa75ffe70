/- cosign's Met. Conditions: as each theorem states them. -/
import Derived.Test.YtgeplpdcnanmnaaGreatZbp
namespace Go.Proofs.YtgeplpdcnanmnaaGreat
open Go.RowKit
set_option linter.unusedVariables false
set_option linter.unusedSimpArgs false

def metB (p : PolD) (c : CkD) (gs : List CgD) : Bool := polB p && decide (p.quorum ≤ (((seenN p c gs gs.length).length : Nat) : Int))
set_option maxRecDepth 100000 in
set_option maxHeartbeats 4000000 in
theorem pmet_any (vp vc vl : Value) (p : PolD) (c : CkD) (gs : List CgD) (hp : SmallPol p) (hr : c.root.length ≤ 100000000) (hs : ∀ g ∈ gs, SmallSig g.sig) (hgl : gs.length ≤ 1000000) (w : World) (hvp : PolV w vp p) (hvc : CkV w vc c) (hvl : CgsV w vl gs) :
  Calls Tryz.prog 55 #[vp, vc, vl] w fun e w' => e = .returned (.bool (metB p c gs)) ∧ Below w.heap.size w w' := by
 have HC := Lib.hid (fun (wz : World) (vp vc vl : Value) (z1 : PolV wz vp p) (z2 : CkV wz vc c) (z3 : CgsV wz vl gs) => pcountv_any vp vc vl p c gs hp hr hs hgl wz z1 z2 z3)
 have HPR := Lib.hid (fun (wz : World) (v : Value) (hz : PolV wz v p) => coright_any v p hp.1 hp.2.1 hp.2.2.2 wz hz)
 have HM : Hid (metB p c gs = (polB p && decide (p.quorum ≤ (((seenN p c gs gs.length).length : Nat) : Int)))) := Lib.hid rfl
 have hq := hp.2.2.2
 have hk : (seenN p c gs gs.length).length ≤ 1000000 := Nat.le_trans (seenN_le p c gs _) hgl
 obtain ⟨l, ws, rfl, h1, h2⟩ := hvp
 obtain ⟨L, cl, rfl⟩ := h1.form
 obtain ⟨R, cr, rfl⟩ := h2.form
 obtain ⟨rt, rfl, h3⟩ := hvc
 obtain ⟨T, ct, rfl⟩ := h3.form
 obtain ⟨A, ca, rfl⟩ := hvl.form
 have HX := Lib.hid (And.intro h1 (And.intro h2 (And.intro h3 hvl)))
 clear h1 h2 h3 hvl hp hr hs
 generalize metB p c gs = M at *
 generalize (seenN p c gs gs.length).length = K at *
 generalize polB p = PB at *
 go_enter Tryz.func55, Tryz.ntmps55
 go_upto_region 1 with fail
 refine code_at (fun w2 => Below w.heap.size w w2 ∧ Blk w2 w.heap.size 30 [.slice L p.log.length cl, .slice R p.wits.length cr, .int .i64 p.quorum] ∧ Blk w2 (w.heap.size + 1) 35 [.int .i64 c.num, .slice T c.root.length ct]) (blk2 w _ _ _ _ _ rfl) ?_
 rintro w2 ⟨b2, k1, k2⟩
 have H2 := Lib.hid (And.intro b2.drew (And.intro (k1.below (Below.refl _ _).drew) (k2.below (Below.refl _ _).drew)))
 have z0 := H2.out.2.1.cell 0 _ rfl
 have z1 := H2.out.2.1.cell 1 _ rfl
 have z2 := H2.out.2.1.cell 2 _ rfl
 have z3 := H2.out.2.2.cell 0 _ rfl
 have z4 := H2.out.2.2.cell 1 _ rfl
 clear b2 k1 k2
 cases PB with
 | false =>
  have HZ : Hid (M = false) := Lib.hid (by rw [HM.out]; rfl)
  refine wp_region_held_drew (S := fun w' => w'.cell? ⟨w.heap.size, 0, none⟩ = some (.slice L p.log.length cl) ∧ w'.cell? ⟨w.heap.size, 1, none⟩ = some (.slice R p.wits.length cr) ∧ w'.cell? ⟨w.heap.size, 2, none⟩ = some (.int .i64 p.quorum) ∧ w'.cell? ⟨w.heap.size + 1, 0, none⟩ = some (.int .i64 c.num) ∧ w'.cell? ⟨w.heap.size + 1, 1, none⟩ = some (.slice T c.root.length ct)) (by kernel_rfl) ⟨z0, z1, z2, z3, z4⟩ (fun hHeld => ?_)
  generalize w2.drew = wr at *
  refine ty 0 7 rfl rfl ?_; simp only [sa, sb, sc]
  refine rd 1 (by kernel_rfl) rfl (fun K hK => ?_)
  go_simp
  go_at_call 51
  refine (HPR.out _ _ ⟨_, _, rfl, HX.out.1.below H2.out.1, HX.out.2.1.below H2.out.1⟩).mono ?_
  rintro e w1 ⟨rfl, hh⟩
  have H1 := Lib.hid (And.intro (H2.out.1.trans (hh.mono H2.out.1.size)) (And.intro (H2.out.2.1.below hh) (H2.out.2.2.below hh)))
  have x0 := H1.out.2.1.cell 0 _ rfl
  have x1 := H1.out.2.1.cell 1 _ rfl
  have x2 := H1.out.2.1.cell 2 _ rfl
  have x3 := H1.out.2.2.cell 0 _ rfl
  have x4 := H1.out.2.2.cell 1 _ rfl
  clear hh
  try dsimp only
  refine hK.out _ _ ⟨x0, x1, x2, x3, x4⟩ (fun hHeld1 => ?_)
  clear hK K; try simp only [Act.put, sa, sb, sc]
  refine ty 2 9 rfl rfl ?_; simp only [sa, sb, sc]
  refine tn 3 10 rfl rfl ?_; simp only [sa, sb, sc]
  refine tn 4 11 rfl rfl ?_; simp only [sa, sb, sc]
  refine tn 5 12 rfl rfl ?_; simp only [sa, sb, sc]
  refine tn 6 13 rfl rfl ?_; simp only [sa, sb, sc]
  refine tn 7 14 rfl rfl ?_; simp only [sa, sb, sc]
  refine tn 8 15 rfl rfl ?_; simp only [sa, sb, sc]
  refine tn 9 16 rfl rfl ?_; simp only [sa, sb, sc]
  refine ty 10 17 rfl rfl ?_; simp only [sa, sb, sc]
  refine ty 11 6 rfl rfl ?_; simp only [sa, sb, sc]
  refine wpAnyH_done (by kernel_rfl) ?_ _
  clear z0 z1 z2 z3 z4 x0 x1 x2 x3 x4 hHeld
  go_wp2
  go_ret
  rw [HZ.out]
  exact ⟨rfl, H1.out.1⟩
 | true =>
  refine wp_region_held_drew (S := fun w' => w'.cell? ⟨w.heap.size, 0, none⟩ = some (.slice L p.log.length cl) ∧ w'.cell? ⟨w.heap.size, 1, none⟩ = some (.slice R p.wits.length cr) ∧ w'.cell? ⟨w.heap.size, 2, none⟩ = some (.int .i64 p.quorum) ∧ w'.cell? ⟨w.heap.size + 1, 0, none⟩ = some (.int .i64 c.num) ∧ w'.cell? ⟨w.heap.size + 1, 1, none⟩ = some (.slice T c.root.length ct)) (by kernel_rfl) ⟨z0, z1, z2, z3, z4⟩ (fun hHeld => ?_)
  generalize w2.drew = wr at *
  refine ty 0 7 rfl rfl ?_; simp only [sa, sb, sc]
  refine rd 1 (by kernel_rfl) rfl (fun K hK => ?_)
  go_simp
  go_at_call 51
  refine (HPR.out _ _ ⟨_, _, rfl, HX.out.1.below H2.out.1, HX.out.2.1.below H2.out.1⟩).mono ?_
  rintro e w1 ⟨rfl, hh⟩
  have H1 := Lib.hid (And.intro (H2.out.1.trans (hh.mono H2.out.1.size)) (And.intro (H2.out.2.1.below hh) (H2.out.2.2.below hh)))
  have x0 := H1.out.2.1.cell 0 _ rfl
  have x1 := H1.out.2.1.cell 1 _ rfl
  have x2 := H1.out.2.1.cell 2 _ rfl
  have x3 := H1.out.2.2.cell 0 _ rfl
  have x4 := H1.out.2.2.cell 1 _ rfl
  clear hh
  try dsimp only
  refine hK.out _ _ ⟨x0, x1, x2, x3, x4⟩ (fun hHeld1 => ?_)
  clear hK K; try simp only [Act.put, sa, sb, sc]
  refine ty 2 9 rfl rfl ?_; simp only [sa, sb, sc]
  refine ty 3 10 rfl rfl ?_; simp only [sa, sb, sc]
  refine ty 4 11 rfl rfl ?_; simp only [sa, sb, sc]
  refine ty 5 12 rfl rfl ?_; simp only [sa, sb, sc]
  refine ty 7 14 rfl rfl ?_; simp only [sa, sb, sc]
  refine ty 8 15 rfl rfl ?_; simp only [sa, sb, sc]
  refine rd 6 (by kernel_rfl) rfl (fun K hK => ?_)
  go_simp
  go_at_call 137
  refine (HC.out _ _ _ _ ⟨_, _, rfl, HX.out.1.below H1.out.1, HX.out.2.1.below H1.out.1⟩ ⟨_, rfl, HX.out.2.2.1.below H1.out.1⟩ (HX.out.2.2.2.below H1.out.1)).mono ?_
  rintro e w5 ⟨rfl, hh⟩
  have H5 := Lib.hid (And.intro (H1.out.1.trans (hh.mono H1.out.1.size)) (And.intro (H1.out.2.1.below hh) (H1.out.2.2.below hh)))
  have y0 := H5.out.2.1.cell 0 _ rfl
  have y1 := H5.out.2.1.cell 1 _ rfl
  have y2 := H5.out.2.1.cell 2 _ rfl
  have y3 := H5.out.2.2.cell 0 _ rfl
  have y4 := H5.out.2.2.cell 1 _ rfl
  clear hh
  try dsimp only
  refine hK.out _ _ ⟨y0, y1, y2, y3, y4⟩ (fun hHeld6 => ?_)
  clear hK K; try simp only [Act.put, sa, sb, sc]
  refine ty 9 16 rfl rfl ?_; simp only [sa, sb, sc]
  refine ty 10 17 rfl rfl ?_; simp only [sa, sb, sc]
  refine ty 11 6 rfl rfl ?_; simp only [sa, sb, sc]
  refine wpAnyH_done (by kernel_rfl) ?_ _
  clear z0 z1 z2 z3 z4 x0 x1 x2 x3 x4 y0 y1 y2 y3 y4 hHeld
  go_wp2
  go_ret
  rw [HM.out]
  exact ⟨rfl, H5.out.1⟩
end Go.Proofs.YtgeplpdcnanmnaaGreat
