/- The reference's cosignatures: Cosigned. Heaps of entries, as lists: plain mathematics, no program. Conditions: as each theorem states them. -/
import Derived.Test.YtlkgeifmppadmaaGreatKg
import Derived.Test.YtlkgeifmppadmaaGreatKf
import Derived.Lib.Hide
namespace Go.Proofs.YtlkgeifmppadmaaGreat
open Go.RowKit
set_option linter.unusedVariables false
set_option linter.unusedSimpArgs false

set_option maxRecDepth 100000 in
set_option maxHeartbeats 8000000 in
theorem rcosigned_any (vp vc vg : Value) (p : PolD) (c : CkD) (g : CgD) (hp : SmallPol p) (hr : c.root.length ≤ 100000000) (hs : SmallSig g.sig) (w : World) (hvp : PolV w vp p) (hvc : CkV w vc c) (hvg : CgV w vg g) :
    Calls Tryz.prog 34 #[vp, vc, vg] w fun e w' => e = .returned (.bool (cgVerB p c g)) ∧ Below w.heap.size w w' := by
  have HPR := Lib.hid (fun (wz : World) (v : Value) (hz : PolV wz v p) => rpolicy_any v p hp.1 hp.2.1 hp.2.2.2 wz hz)
  have HCR := Lib.hid (fun (wz : World) (v : Value) (hz : CkV wz v c) => rckright_any v c (by omega) wz hz)
  have HBD := Lib.hid (fun (wz : World) (v : Value) (hz : CkV wz v c) => rckcosign_any v c (by omega) wz hz)
  change Hid (∀ (wz : World) (v : Value), CkV wz v c → Calls Tryz.prog 32 #[v] wz fun e w' => ∃ v', e = .returned v' ∧ Bys w' v' (bodyS tagCo c) ∧ Below wz.heap.size wz w') at HBD
  have HBL : Hid ((bodyS tagCo c).length ≤ 1000000000) := Lib.hid (by have := bodyS_length tagCo c; have : tagCo.length = 17 := rfl; omega)
  have HVF := Lib.hid (fun (pub : List UInt8) (hpub : pub.length ≤ 1000000000) (wz : World) (vp vm v : Value) (z1 : Bys wz vp pub) (z2 : Bys wz vm (bodyS tagCo c)) (z3 : SigV wz v g.sig) => rverify_any vp vm v pub (bodyS tagCo c) g.sig hpub HBL.out (by have := hs.1; omega) (by have := hs.2.1; omega) hs.2.2.1 hs.2.2.2 wz z1 z2 z3)
  have HCV : Hid (cgVerB p c g = (polB p && (ckB c && (decide (0 ≤ g.wit) && (decide (g.wit < (p.wits.length : Int)) && verifyB (p.wits.getD g.wit.toNat []) (bodyS tagCo c) g.sig))))) := Lib.hid rfl
  have HPW : Hid (∀ i, i < p.wits.length → (p.wits.getD i []).length ≤ 1000000000) := Lib.hid (fun i hi => by have := hp.2.2.1 i hi; rw [List.getD_eq_getElem?_getD, List.getElem?_eq_getElem hi]; exact this)
  generalize cgVerB p c g = CV at *
  generalize bodyS tagCo c = BO at *
  generalize hPB : polB p = PB at *
  generalize hCB : ckB c = CB at *
  clear hp hr hs HBL hPB hCB
  obtain ⟨l, ws, rfl, h1, h2⟩ := hvp
  obtain ⟨L, cl, rfl⟩ := h1.form
  obtain ⟨R, cr, rfl⟩ := h2.form
  obtain ⟨rt, rfl, h3⟩ := hvc
  obtain ⟨T, ct, rfl⟩ := h3.form
  obtain ⟨q1, q2, rfl, h4, h5⟩ := hvg
  obtain ⟨P, cp, rfl⟩ := h4.form
  obtain ⟨Q, cq, rfl⟩ := h5.form
  have HX := Lib.hid (And.intro h1 (And.intro h2 (And.intro h3 (And.intro h4 h5))))
  clear h1 h2 h3 h4 h5
  have hb1 := (Below.refl w.heap.size w).alloc (Nat.le_refl _) (.cells #[.slice L p.log.length cl, .slice R p.wits.length cr, .int .i64 p.quorum] 29)
  have hb2 := hb1.alloc (by simp) (.cells #[.int .i64 c.num, .slice T c.root.length ct] 36)
  have hb3 := hb2.alloc (by simp; omega) (.cells #[.int .i64 g.wit, .int .i64 g.sig.index, .slice P g.sig.parts.length cp, .slice Q g.sig.path.length cq] 47)
  have k1 := ((Blk.new w 29 [.slice L p.log.length cl, .slice R p.wits.length cr, .int .i64 p.quorum]).below ((Below.refl _ _).alloc (Nat.le_refl _) (.cells #[.int .i64 c.num, .slice T c.root.length ct] 36))).below ((Below.refl _ _).alloc (Nat.le_refl _) (.cells #[.int .i64 g.wit, .int .i64 g.sig.index, .slice P g.sig.parts.length cp, .slice Q g.sig.path.length cq] 47))
  have k2 := (Blk.new (w.alloc (.cells #[.slice L p.log.length cl, .slice R p.wits.length cr, .int .i64 p.quorum] 29)) 36 [.int .i64 c.num, .slice T c.root.length ct]).below ((Below.refl _ _).alloc (Nat.le_refl _) (.cells #[.int .i64 g.wit, .int .i64 g.sig.index, .slice P g.sig.parts.length cp, .slice Q g.sig.path.length cq] 47))
  have k3 := Blk.new ((w.alloc (.cells #[.slice L p.log.length cl, .slice R p.wits.length cr, .int .i64 p.quorum] 29)).alloc (.cells #[.int .i64 c.num, .slice T c.root.length ct] 36)) 47 [.int .i64 g.wit, .int .i64 g.sig.index, .slice P g.sig.parts.length cp, .slice Q g.sig.path.length cq]
  rw [show (w.alloc (.cells #[.slice L p.log.length cl, .slice R p.wits.length cr, .int .i64 p.quorum] 29)).heap.size = w.heap.size + 1 by simp] at k2
  rw [show ((w.alloc (.cells #[.slice L p.log.length cl, .slice R p.wits.length cr, .int .i64 p.quorum] 29)).alloc (.cells #[.int .i64 c.num, .slice T c.root.length ct] 36)).heap.size = w.heap.size + 2 by simp] at k3
  have HW := Lib.hid (And.intro k1 (And.intro k2 (And.intro k3 hb3)))
  clear k1 k2 k3 hb1 hb2 hb3
  go_enter Tryz.func34, Tryz.ntmps34
  go_wp2
  refine code_at (fun w0 => Blk w0 w.heap.size 29 [.slice L p.log.length cl, .slice R p.wits.length cr, .int .i64 p.quorum] ∧ Blk w0 (w.heap.size + 1) 36 [.int .i64 c.num, .slice T c.root.length ct] ∧ Blk w0 (w.heap.size + 1 + 1) 47 [.int .i64 g.wit, .int .i64 g.sig.index, .slice P g.sig.parts.length cp, .slice Q g.sig.path.length cq] ∧ Below w.heap.size w w0) HW.out ?_
  intro w0 h0
  have H0 := Lib.hid h0
  have hl1 := h0.1.lt
  have hl2 := h0.2.1.lt
  have hl3 := h0.2.2.1.lt
  clear h0 HW
  have z0 := H0.out.1.cell 0 _ rfl
  have z1 := H0.out.1.cell 1 _ rfl
  have z2 := H0.out.1.cell 2 _ rfl
  have z3 := H0.out.2.1.cell 0 _ rfl
  have z4 := H0.out.2.1.cell 1 _ rfl
  have z5 := H0.out.2.2.1.cell 0 _ rfl
  have z6 := H0.out.2.2.1.cell 1 _ rfl
  have z7 := H0.out.2.2.1.cell 2 _ rfl
  have z8 := H0.out.2.2.1.cell 3 _ rfl
  cases PB with
  | false =>
    refine wp_region_held_drew (S := fun w' => w'.cell? ⟨w.heap.size, 0, none⟩ = some (.slice L p.log.length cl) ∧ w'.cell? ⟨w.heap.size, 1, none⟩ = some (.slice R p.wits.length cr) ∧ w'.cell? ⟨w.heap.size, 2, none⟩ = some (.int .i64 p.quorum) ∧ w'.cell? ⟨w.heap.size + 1, 0, none⟩ = some (.int .i64 c.num) ∧ w'.cell? ⟨w.heap.size + 1, 1, none⟩ = some (.slice T c.root.length ct) ∧ w'.cell? ⟨w.heap.size + 1 + 1, 0, none⟩ = some (.int .i64 g.wit) ∧ w'.cell? ⟨w.heap.size + 1 + 1, 1, none⟩ = some (.int .i64 g.sig.index) ∧ w'.cell? ⟨w.heap.size + 1 + 1, 2, none⟩ = some (.slice P g.sig.parts.length cp) ∧ w'.cell? ⟨w.heap.size + 1 + 1, 3, none⟩ = some (.slice Q g.sig.path.length cq)) (by kernel_rfl) ?_ (fun hHeld => ?_)
    · exact ⟨z0, z1, z2, z3, z4, z5, z6, z7, z8⟩
    refine take_yes 0 7 rfl rfl (by kernel_rfl) (by kernel_rfl) (by kernel_rfl) (fun _ _ _ h => h) (by assumption) (by rfl) (v := ?_) ?_ ?_
    rotate_left 1
    · (intro w hSw; (try dsimp only at hSw); go_simp; try with_reducible rfl)
    simp only [List.setIfInBounds_toArray, List.set_cons_zero, List.set_cons_succ]
    refine wpAnyH_ready (rs := [1]) (by kernel_rfl) (by simp) ?_
    refine AllReadyH.cons rfl (fun K hK => ?_) AllReadyH.nil
    -- 1:  dst := some 8, op := Op.call  callee := Callee.value (Operand.func 60), args := #[Operand.tmp 7], argTypes := #[29] , type := 
    go_simp
    go_at_call 60
    refine (HPR.out w0.drew _ ⟨_, _, rfl, (HX.out.1.below H0.out.2.2.2).below (Below.refl w0.heap.size w0).drew, (HX.out.2.1.below H0.out.2.2.2).below (Below.refl w0.heap.size w0).drew⟩).mono ?_
    rintro e w1 ⟨rfl, hb'⟩
    have hh : Below w0.heap.size w0 w1 := ⟨hb'.os, hb'.tape, hb'.output, hb'.size, hb'.block⟩
    have H1 := Lib.hid (And.intro (H0.out.1.below hh) (And.intro (H0.out.2.1.below hh) (And.intro (H0.out.2.2.1.below hh) (H0.out.2.2.2.trans (hh.mono H0.out.2.2.2.size)))))
    have x1_0 := H1.out.1.cell 0 _ rfl
    have x1_1 := H1.out.1.cell 1 _ rfl
    have x1_2 := H1.out.1.cell 2 _ rfl
    have x1_3 := H1.out.2.1.cell 0 _ rfl
    have x1_4 := H1.out.2.1.cell 1 _ rfl
    have x1_5 := H1.out.2.2.1.cell 0 _ rfl
    have x1_6 := H1.out.2.2.1.cell 1 _ rfl
    have x1_7 := H1.out.2.2.1.cell 2 _ rfl
    have x1_8 := H1.out.2.2.1.cell 3 _ rfl
    clear hh hb' z0 z1 z2 z3 z4 z5 z6 z7 z8
    try dsimp only
    refine hK.out _ _ ⟨x1_0, x1_1, x1_2, x1_3, x1_4, x1_5, x1_6, x1_7, x1_8⟩ (fun hHeld1 => ?_)
    clear hK K
    try simp only [Act.put, List.setIfInBounds_toArray, List.set_cons_zero, List.set_cons_succ]
    refine take_yes 2 9 rfl rfl (by kernel_rfl) (by kernel_rfl) (by kernel_rfl) (fun _ _ _ h => h) (by assumption) (by rfl) (v := ?_) ?_ ?_
    rotate_left 1
    · (intro w hSw; (try dsimp only at hSw); go_simp; try with_reducible rfl)
    simp only [List.setIfInBounds_toArray, List.set_cons_zero, List.set_cons_succ]
    refine take_no 3 10 rfl rfl (by kernel_rfl) (by kernel_rfl) (by kernel_rfl) (fun _ _ _ h => h) (by assumption) (by rfl) ?_
    simp only [List.setIfInBounds_toArray, List.set_cons_zero, List.set_cons_succ]
    refine take_no 4 11 rfl rfl (by kernel_rfl) (by kernel_rfl) (by kernel_rfl) (fun _ _ _ h => h) (by assumption) (by rfl) ?_
    simp only [List.setIfInBounds_toArray, List.set_cons_zero, List.set_cons_succ]
    refine take_yes 5 12 rfl rfl (by kernel_rfl) (by kernel_rfl) (by kernel_rfl) (fun _ _ _ h => h) (by assumption) (by rfl) (v := ?_) ?_ ?_
    rotate_left 1
    · (intro w hSw; (try dsimp only at hSw); go_simp; try with_reducible rfl)
    simp only [List.setIfInBounds_toArray, List.set_cons_zero, List.set_cons_succ]
    refine take_yes 6 13 rfl rfl (by kernel_rfl) (by kernel_rfl) (by kernel_rfl) (fun _ _ _ h => h) (by assumption) (by rfl) (v := ?_) ?_ ?_
    rotate_left 1
    · (intro w hSw; (try dsimp only at hSw); go_simp; try with_reducible rfl)
    simp only [List.setIfInBounds_toArray, List.set_cons_zero, List.set_cons_succ]
    refine take_no 7 14 rfl rfl (by kernel_rfl) (by kernel_rfl) (by kernel_rfl) (fun _ _ _ h => h) (by assumption) (by rfl) ?_
    simp only [List.setIfInBounds_toArray, List.set_cons_zero, List.set_cons_succ]
    refine take_no 8 15 rfl rfl (by kernel_rfl) (by kernel_rfl) (by kernel_rfl) (fun _ _ _ h => h) (by assumption) (by rfl) ?_
    simp only [List.setIfInBounds_toArray, List.set_cons_zero, List.set_cons_succ]
    refine take_no 9 16 rfl rfl (by kernel_rfl) (by kernel_rfl) (by kernel_rfl) (fun _ _ _ h => h) (by assumption) (by rfl) ?_
    simp only [List.setIfInBounds_toArray, List.set_cons_zero, List.set_cons_succ]
    refine take_yes 10 17 rfl rfl (by kernel_rfl) (by kernel_rfl) (by kernel_rfl) (fun _ _ _ h => h) (by assumption) (by rfl) (v := ?_) ?_ ?_
    rotate_left 1
    · (intro w hSw; (try dsimp only at hSw); go_simp; try with_reducible rfl)
    simp only [List.setIfInBounds_toArray, List.set_cons_zero, List.set_cons_succ]
    refine take_yes 11 18 rfl rfl (by kernel_rfl) (by kernel_rfl) (by kernel_rfl) (fun _ _ _ h => h) (by assumption) (by rfl) (v := ?_) ?_ ?_
    rotate_left 1
    · (intro w hSw; (try dsimp only at hSw); go_simp; try with_reducible rfl)
    simp only [List.setIfInBounds_toArray, List.set_cons_zero, List.set_cons_succ]
    refine take_no 12 19 rfl rfl (by kernel_rfl) (by kernel_rfl) (by kernel_rfl) (fun _ _ _ h => h) (by assumption) (by rfl) ?_
    simp only [List.setIfInBounds_toArray, List.set_cons_zero, List.set_cons_succ]
    refine take_no 13 20 rfl rfl (by kernel_rfl) (by kernel_rfl) (by kernel_rfl) (fun _ _ _ h => h) (by assumption) (by rfl) ?_
    simp only [List.setIfInBounds_toArray, List.set_cons_zero, List.set_cons_succ]
    refine take_no 14 21 rfl rfl (by kernel_rfl) (by kernel_rfl) (by kernel_rfl) (fun _ _ _ h => h) (by assumption) (by rfl) ?_
    simp only [List.setIfInBounds_toArray, List.set_cons_zero, List.set_cons_succ]
    refine take_no 15 22 rfl rfl (by kernel_rfl) (by kernel_rfl) (by kernel_rfl) (fun _ _ _ h => h) (by assumption) (by rfl) ?_
    simp only [List.setIfInBounds_toArray, List.set_cons_zero, List.set_cons_succ]
    refine take_no 16 23 rfl rfl (by kernel_rfl) (by kernel_rfl) (by kernel_rfl) (fun _ _ _ h => h) (by assumption) (by rfl) ?_
    simp only [List.setIfInBounds_toArray, List.set_cons_zero, List.set_cons_succ]
    refine take_no 17 24 rfl rfl (by kernel_rfl) (by kernel_rfl) (by kernel_rfl) (fun _ _ _ h => h) (by assumption) (by rfl) ?_
    simp only [List.setIfInBounds_toArray, List.set_cons_zero, List.set_cons_succ]
    refine take_yes 18 25 rfl rfl (by kernel_rfl) (by kernel_rfl) (by kernel_rfl) (fun _ _ _ h => h) (by assumption) (by rfl) (v := ?_) ?_ ?_
    rotate_left 1
    · (intro w hSw; (try dsimp only at hSw); go_simp; try with_reducible rfl)
    simp only [List.setIfInBounds_toArray, List.set_cons_zero, List.set_cons_succ]
    refine take_yes 19 26 rfl rfl (by kernel_rfl) (by kernel_rfl) (by kernel_rfl) (fun _ _ _ h => h) (by assumption) (by rfl) (v := ?_) ?_ ?_
    rotate_left 1
    · (intro w hSw; (try dsimp only at hSw); go_simp; try with_reducible rfl)
    simp only [List.setIfInBounds_toArray, List.set_cons_zero, List.set_cons_succ]
    refine take_no 20 27 rfl rfl (by kernel_rfl) (by kernel_rfl) (by kernel_rfl) (fun _ _ _ h => h) (by assumption) (by rfl) ?_
    simp only [List.setIfInBounds_toArray, List.set_cons_zero, List.set_cons_succ]
    refine take_no 21 28 rfl rfl (by kernel_rfl) (by kernel_rfl) (by kernel_rfl) (fun _ _ _ h => h) (by assumption) (by rfl) ?_
    simp only [List.setIfInBounds_toArray, List.set_cons_zero, List.set_cons_succ]
    refine take_no 22 29 rfl rfl (by kernel_rfl) (by kernel_rfl) (by kernel_rfl) (fun _ _ _ h => h) (by assumption) (by rfl) ?_
    simp only [List.setIfInBounds_toArray, List.set_cons_zero, List.set_cons_succ]
    refine take_no 23 30 rfl rfl (by kernel_rfl) (by kernel_rfl) (by kernel_rfl) (fun _ _ _ h => h) (by assumption) (by rfl) ?_
    simp only [List.setIfInBounds_toArray, List.set_cons_zero, List.set_cons_succ]
    refine take_no 24 31 rfl rfl (by kernel_rfl) (by kernel_rfl) (by kernel_rfl) (fun _ _ _ h => h) (by assumption) (by rfl) ?_
    simp only [List.setIfInBounds_toArray, List.set_cons_zero, List.set_cons_succ]
    refine take_no 25 32 rfl rfl (by kernel_rfl) (by kernel_rfl) (by kernel_rfl) (fun _ _ _ h => h) (by assumption) (by rfl) ?_
    simp only [List.setIfInBounds_toArray, List.set_cons_zero, List.set_cons_succ]
    refine take_no 26 33 rfl rfl (by kernel_rfl) (by kernel_rfl) (by kernel_rfl) (fun _ _ _ h => h) (by assumption) (by rfl) ?_
    simp only [List.setIfInBounds_toArray, List.set_cons_zero, List.set_cons_succ]
    refine take_no 27 34 rfl rfl (by kernel_rfl) (by kernel_rfl) (by kernel_rfl) (fun _ _ _ h => h) (by assumption) (by rfl) ?_
    simp only [List.setIfInBounds_toArray, List.set_cons_zero, List.set_cons_succ]
    refine take_no 28 35 rfl rfl (by kernel_rfl) (by kernel_rfl) (by kernel_rfl) (fun _ _ _ h => h) (by assumption) (by rfl) ?_
    simp only [List.setIfInBounds_toArray, List.set_cons_zero, List.set_cons_succ]
    refine take_no 29 36 rfl rfl (by kernel_rfl) (by kernel_rfl) (by kernel_rfl) (fun _ _ _ h => h) (by assumption) (by rfl) ?_
    simp only [List.setIfInBounds_toArray, List.set_cons_zero, List.set_cons_succ]
    refine take_no 30 37 rfl rfl (by kernel_rfl) (by kernel_rfl) (by kernel_rfl) (fun _ _ _ h => h) (by assumption) (by rfl) ?_
    simp only [List.setIfInBounds_toArray, List.set_cons_zero, List.set_cons_succ]
    refine take_yes 31 38 rfl rfl (by kernel_rfl) (by kernel_rfl) (by kernel_rfl) (fun _ _ _ h => h) (by assumption) (by rfl) (v := ?_) ?_ ?_
    rotate_left 1
    · (intro w hSw; (try dsimp only at hSw); go_simp; try with_reducible rfl)
    simp only [List.setIfInBounds_toArray, List.set_cons_zero, List.set_cons_succ]
    refine take_yes 32 6 rfl rfl (by kernel_rfl) (by kernel_rfl) (by kernel_rfl) (fun _ _ _ h => h) (by assumption) (by rfl) (v := ?_) ?_ ?_
    rotate_left 1
    · (intro w hSw; (try dsimp only at hSw); go_simp; try with_reducible rfl)
    simp only [List.setIfInBounds_toArray, List.set_cons_zero, List.set_cons_succ]
    refine wpAnyH_done (by kernel_rfl) ?_ _
    have HF : Hid (CV = false) := Lib.hid (by rw [HCV.out]; rfl)
    go_wp2
    go_ret
    exact ⟨by rw [HF.out]; rfl, H1.out.2.2.2⟩
  | true =>
    rw [Bool.true_and] at HCV
    cases CB with
    | false =>
      refine wp_region_held_drew (S := fun w' => w'.cell? ⟨w.heap.size, 0, none⟩ = some (.slice L p.log.length cl) ∧ w'.cell? ⟨w.heap.size, 1, none⟩ = some (.slice R p.wits.length cr) ∧ w'.cell? ⟨w.heap.size, 2, none⟩ = some (.int .i64 p.quorum) ∧ w'.cell? ⟨w.heap.size + 1, 0, none⟩ = some (.int .i64 c.num) ∧ w'.cell? ⟨w.heap.size + 1, 1, none⟩ = some (.slice T c.root.length ct) ∧ w'.cell? ⟨w.heap.size + 1 + 1, 0, none⟩ = some (.int .i64 g.wit) ∧ w'.cell? ⟨w.heap.size + 1 + 1, 1, none⟩ = some (.int .i64 g.sig.index) ∧ w'.cell? ⟨w.heap.size + 1 + 1, 2, none⟩ = some (.slice P g.sig.parts.length cp) ∧ w'.cell? ⟨w.heap.size + 1 + 1, 3, none⟩ = some (.slice Q g.sig.path.length cq)) (by kernel_rfl) ?_ (fun hHeld => ?_)
      · exact ⟨z0, z1, z2, z3, z4, z5, z6, z7, z8⟩
      refine take_yes 0 7 rfl rfl (by kernel_rfl) (by kernel_rfl) (by kernel_rfl) (fun _ _ _ h => h) (by assumption) (by rfl) (v := ?_) ?_ ?_
      rotate_left 1
      · (intro w hSw; (try dsimp only at hSw); go_simp; try with_reducible rfl)
      simp only [List.setIfInBounds_toArray, List.set_cons_zero, List.set_cons_succ]
      refine wpAnyH_ready (rs := [1]) (by kernel_rfl) (by simp) ?_
      refine AllReadyH.cons rfl (fun K hK => ?_) AllReadyH.nil
      -- 1:  dst := some 8, op := Op.call  callee := Callee.value (Operand.func 60), args := #[Operand.tmp 7], argTypes := #[29] , type := 
      go_simp
      go_at_call 60
      refine (HPR.out w0.drew _ ⟨_, _, rfl, (HX.out.1.below H0.out.2.2.2).below (Below.refl w0.heap.size w0).drew, (HX.out.2.1.below H0.out.2.2.2).below (Below.refl w0.heap.size w0).drew⟩).mono ?_
      rintro e w1 ⟨rfl, hb'⟩
      have hh : Below w0.heap.size w0 w1 := ⟨hb'.os, hb'.tape, hb'.output, hb'.size, hb'.block⟩
      have H1 := Lib.hid (And.intro (H0.out.1.below hh) (And.intro (H0.out.2.1.below hh) (And.intro (H0.out.2.2.1.below hh) (H0.out.2.2.2.trans (hh.mono H0.out.2.2.2.size)))))
      have x1_0 := H1.out.1.cell 0 _ rfl
      have x1_1 := H1.out.1.cell 1 _ rfl
      have x1_2 := H1.out.1.cell 2 _ rfl
      have x1_3 := H1.out.2.1.cell 0 _ rfl
      have x1_4 := H1.out.2.1.cell 1 _ rfl
      have x1_5 := H1.out.2.2.1.cell 0 _ rfl
      have x1_6 := H1.out.2.2.1.cell 1 _ rfl
      have x1_7 := H1.out.2.2.1.cell 2 _ rfl
      have x1_8 := H1.out.2.2.1.cell 3 _ rfl
      clear hh hb' z0 z1 z2 z3 z4 z5 z6 z7 z8
      try dsimp only
      refine hK.out _ _ ⟨x1_0, x1_1, x1_2, x1_3, x1_4, x1_5, x1_6, x1_7, x1_8⟩ (fun hHeld1 => ?_)
      clear hK K
      try simp only [Act.put, List.setIfInBounds_toArray, List.set_cons_zero, List.set_cons_succ]
      refine take_yes 2 9 rfl rfl (by kernel_rfl) (by kernel_rfl) (by kernel_rfl) (fun _ _ _ h => h) (by assumption) (by rfl) (v := ?_) ?_ ?_
      rotate_left 1
      · (intro w hSw; (try dsimp only at hSw); go_simp; try with_reducible rfl)
      simp only [List.setIfInBounds_toArray, List.set_cons_zero, List.set_cons_succ]
      refine take_yes 3 10 rfl rfl (by kernel_rfl) (by kernel_rfl) (by kernel_rfl) (fun _ _ _ h => h) (by assumption) (by rfl) (v := ?_) ?_ ?_
      rotate_left 1
      · (intro w hSw; (try dsimp only at hSw); go_simp; try with_reducible rfl)
      simp only [List.setIfInBounds_toArray, List.set_cons_zero, List.set_cons_succ]
      refine wpAnyH_ready (rs := [4]) (by kernel_rfl) (by simp) ?_
      refine AllReadyH.cons rfl (fun K hK => ?_) AllReadyH.nil
      -- 4:  dst := some 11, op := Op.call  callee := Callee.value (Operand.func 61), args := #[Operand.tmp 10], argTypes := #[36] , type :
      go_simp
      go_at_call 61
      refine (HCR.out w1 _ ⟨_, rfl, HX.out.2.2.1.below H1.out.2.2.2⟩).mono ?_
      rintro e w2 ⟨rfl, hb'⟩
      have hh : Below w1.heap.size w1 w2 := ⟨hb'.os, hb'.tape, hb'.output, hb'.size, hb'.block⟩
      have H2 := Lib.hid (And.intro (H1.out.1.below hh) (And.intro (H1.out.2.1.below hh) (And.intro (H1.out.2.2.1.below hh) (H1.out.2.2.2.trans (hh.mono H1.out.2.2.2.size)))))
      have x2_0 := H2.out.1.cell 0 _ rfl
      have x2_1 := H2.out.1.cell 1 _ rfl
      have x2_2 := H2.out.1.cell 2 _ rfl
      have x2_3 := H2.out.2.1.cell 0 _ rfl
      have x2_4 := H2.out.2.1.cell 1 _ rfl
      have x2_5 := H2.out.2.2.1.cell 0 _ rfl
      have x2_6 := H2.out.2.2.1.cell 1 _ rfl
      have x2_7 := H2.out.2.2.1.cell 2 _ rfl
      have x2_8 := H2.out.2.2.1.cell 3 _ rfl
      clear hh hb' x1_0 x1_1 x1_2 x1_3 x1_4 x1_5 x1_6 x1_7 x1_8
      try dsimp only
      refine hK.out _ _ ⟨x2_0, x2_1, x2_2, x2_3, x2_4, x2_5, x2_6, x2_7, x2_8⟩ (fun hHeld4 => ?_)
      clear hK K
      try simp only [Act.put, List.setIfInBounds_toArray, List.set_cons_zero, List.set_cons_succ]
      refine take_yes 5 12 rfl rfl (by kernel_rfl) (by kernel_rfl) (by kernel_rfl) (fun _ _ _ h => h) (by assumption) (by rfl) (v := ?_) ?_ ?_
      rotate_left 1
      · (intro w hSw; (try dsimp only at hSw); go_simp; try with_reducible rfl)
      simp only [List.setIfInBounds_toArray, List.set_cons_zero, List.set_cons_succ]
      refine take_yes 6 13 rfl rfl (by kernel_rfl) (by kernel_rfl) (by kernel_rfl) (fun _ _ _ h => h) (by assumption) (by rfl) (v := ?_) ?_ ?_
      rotate_left 1
      · (intro w hSw; (try dsimp only at hSw); go_simp; try with_reducible rfl)
      simp only [List.setIfInBounds_toArray, List.set_cons_zero, List.set_cons_succ]
      refine take_no 7 14 rfl rfl (by kernel_rfl) (by kernel_rfl) (by kernel_rfl) (fun _ _ _ h => h) (by assumption) (by rfl) ?_
      simp only [List.setIfInBounds_toArray, List.set_cons_zero, List.set_cons_succ]
      refine take_no 8 15 rfl rfl (by kernel_rfl) (by kernel_rfl) (by kernel_rfl) (fun _ _ _ h => h) (by assumption) (by rfl) ?_
      simp only [List.setIfInBounds_toArray, List.set_cons_zero, List.set_cons_succ]
      refine take_no 9 16 rfl rfl (by kernel_rfl) (by kernel_rfl) (by kernel_rfl) (fun _ _ _ h => h) (by assumption) (by rfl) ?_
      simp only [List.setIfInBounds_toArray, List.set_cons_zero, List.set_cons_succ]
      refine take_yes 10 17 rfl rfl (by kernel_rfl) (by kernel_rfl) (by kernel_rfl) (fun _ _ _ h => h) (by assumption) (by rfl) (v := ?_) ?_ ?_
      rotate_left 1
      · (intro w hSw; (try dsimp only at hSw); go_simp; try with_reducible rfl)
      simp only [List.setIfInBounds_toArray, List.set_cons_zero, List.set_cons_succ]
      refine take_yes 11 18 rfl rfl (by kernel_rfl) (by kernel_rfl) (by kernel_rfl) (fun _ _ _ h => h) (by assumption) (by rfl) (v := ?_) ?_ ?_
      rotate_left 1
      · (intro w hSw; (try dsimp only at hSw); go_simp; try with_reducible rfl)
      simp only [List.setIfInBounds_toArray, List.set_cons_zero, List.set_cons_succ]
      refine take_no 12 19 rfl rfl (by kernel_rfl) (by kernel_rfl) (by kernel_rfl) (fun _ _ _ h => h) (by assumption) (by rfl) ?_
      simp only [List.setIfInBounds_toArray, List.set_cons_zero, List.set_cons_succ]
      refine take_no 13 20 rfl rfl (by kernel_rfl) (by kernel_rfl) (by kernel_rfl) (fun _ _ _ h => h) (by assumption) (by rfl) ?_
      simp only [List.setIfInBounds_toArray, List.set_cons_zero, List.set_cons_succ]
      refine take_no 14 21 rfl rfl (by kernel_rfl) (by kernel_rfl) (by kernel_rfl) (fun _ _ _ h => h) (by assumption) (by rfl) ?_
      simp only [List.setIfInBounds_toArray, List.set_cons_zero, List.set_cons_succ]
      refine take_no 15 22 rfl rfl (by kernel_rfl) (by kernel_rfl) (by kernel_rfl) (fun _ _ _ h => h) (by assumption) (by rfl) ?_
      simp only [List.setIfInBounds_toArray, List.set_cons_zero, List.set_cons_succ]
      refine take_no 16 23 rfl rfl (by kernel_rfl) (by kernel_rfl) (by kernel_rfl) (fun _ _ _ h => h) (by assumption) (by rfl) ?_
      simp only [List.setIfInBounds_toArray, List.set_cons_zero, List.set_cons_succ]
      refine take_no 17 24 rfl rfl (by kernel_rfl) (by kernel_rfl) (by kernel_rfl) (fun _ _ _ h => h) (by assumption) (by rfl) ?_
      simp only [List.setIfInBounds_toArray, List.set_cons_zero, List.set_cons_succ]
      refine take_yes 18 25 rfl rfl (by kernel_rfl) (by kernel_rfl) (by kernel_rfl) (fun _ _ _ h => h) (by assumption) (by rfl) (v := ?_) ?_ ?_
      rotate_left 1
      · (intro w hSw; (try dsimp only at hSw); go_simp; try with_reducible rfl)
      simp only [List.setIfInBounds_toArray, List.set_cons_zero, List.set_cons_succ]
      refine take_yes 19 26 rfl rfl (by kernel_rfl) (by kernel_rfl) (by kernel_rfl) (fun _ _ _ h => h) (by assumption) (by rfl) (v := ?_) ?_ ?_
      rotate_left 1
      · (intro w hSw; (try dsimp only at hSw); go_simp; try with_reducible rfl)
      simp only [List.setIfInBounds_toArray, List.set_cons_zero, List.set_cons_succ]
      refine take_no 20 27 rfl rfl (by kernel_rfl) (by kernel_rfl) (by kernel_rfl) (fun _ _ _ h => h) (by assumption) (by rfl) ?_
      simp only [List.setIfInBounds_toArray, List.set_cons_zero, List.set_cons_succ]
      refine take_no 21 28 rfl rfl (by kernel_rfl) (by kernel_rfl) (by kernel_rfl) (fun _ _ _ h => h) (by assumption) (by rfl) ?_
      simp only [List.setIfInBounds_toArray, List.set_cons_zero, List.set_cons_succ]
      refine take_no 22 29 rfl rfl (by kernel_rfl) (by kernel_rfl) (by kernel_rfl) (fun _ _ _ h => h) (by assumption) (by rfl) ?_
      simp only [List.setIfInBounds_toArray, List.set_cons_zero, List.set_cons_succ]
      refine take_no 23 30 rfl rfl (by kernel_rfl) (by kernel_rfl) (by kernel_rfl) (fun _ _ _ h => h) (by assumption) (by rfl) ?_
      simp only [List.setIfInBounds_toArray, List.set_cons_zero, List.set_cons_succ]
      refine take_no 24 31 rfl rfl (by kernel_rfl) (by kernel_rfl) (by kernel_rfl) (fun _ _ _ h => h) (by assumption) (by rfl) ?_
      simp only [List.setIfInBounds_toArray, List.set_cons_zero, List.set_cons_succ]
      refine take_no 25 32 rfl rfl (by kernel_rfl) (by kernel_rfl) (by kernel_rfl) (fun _ _ _ h => h) (by assumption) (by rfl) ?_
      simp only [List.setIfInBounds_toArray, List.set_cons_zero, List.set_cons_succ]
      refine take_no 26 33 rfl rfl (by kernel_rfl) (by kernel_rfl) (by kernel_rfl) (fun _ _ _ h => h) (by assumption) (by rfl) ?_
      simp only [List.setIfInBounds_toArray, List.set_cons_zero, List.set_cons_succ]
      refine take_no 27 34 rfl rfl (by kernel_rfl) (by kernel_rfl) (by kernel_rfl) (fun _ _ _ h => h) (by assumption) (by rfl) ?_
      simp only [List.setIfInBounds_toArray, List.set_cons_zero, List.set_cons_succ]
      refine take_no 28 35 rfl rfl (by kernel_rfl) (by kernel_rfl) (by kernel_rfl) (fun _ _ _ h => h) (by assumption) (by rfl) ?_
      simp only [List.setIfInBounds_toArray, List.set_cons_zero, List.set_cons_succ]
      refine take_no 29 36 rfl rfl (by kernel_rfl) (by kernel_rfl) (by kernel_rfl) (fun _ _ _ h => h) (by assumption) (by rfl) ?_
      simp only [List.setIfInBounds_toArray, List.set_cons_zero, List.set_cons_succ]
      refine take_no 30 37 rfl rfl (by kernel_rfl) (by kernel_rfl) (by kernel_rfl) (fun _ _ _ h => h) (by assumption) (by rfl) ?_
      simp only [List.setIfInBounds_toArray, List.set_cons_zero, List.set_cons_succ]
      refine take_yes 31 38 rfl rfl (by kernel_rfl) (by kernel_rfl) (by kernel_rfl) (fun _ _ _ h => h) (by assumption) (by rfl) (v := ?_) ?_ ?_
      rotate_left 1
      · (intro w hSw; (try dsimp only at hSw); go_simp; try with_reducible rfl)
      simp only [List.setIfInBounds_toArray, List.set_cons_zero, List.set_cons_succ]
      refine take_yes 32 6 rfl rfl (by kernel_rfl) (by kernel_rfl) (by kernel_rfl) (fun _ _ _ h => h) (by assumption) (by rfl) (v := ?_) ?_ ?_
      rotate_left 1
      · (intro w hSw; (try dsimp only at hSw); go_simp; try with_reducible rfl)
      simp only [List.setIfInBounds_toArray, List.set_cons_zero, List.set_cons_succ]
      refine wpAnyH_done (by kernel_rfl) ?_ _
      have HF : Hid (CV = false) := Lib.hid (by rw [HCV.out]; rfl)
      go_wp2
      go_ret
      exact ⟨by rw [HF.out]; rfl, H2.out.2.2.2⟩
    | true =>
      rw [Bool.true_and] at HCV
      by_cases hw0 : 0 ≤ g.wit
      · by_cases hw1 : g.wit < (p.wits.length : Int)
        · rw [decide_eq_true hw0, decide_eq_true hw1, Bool.true_and, Bool.true_and] at HCV
          obtain ⟨k, hk⟩ := Int.eq_ofNat_of_zero_le hw0
          have hgw : g.wit = (k : Int) := hk
          rw [hgw, Int.toNat_natCast] at HCV
          rw [hgw] at hw0 hw1 z5
          have hkl : k < p.wits.length := by omega
          obtain ⟨wg, wo, rfl, hwg, -, hroom, hroom2, hall⟩ := HX.out.2.1.all (by omega)
          obtain ⟨A9, c9, hcu, hbu⟩ := hall k hkl
          have HVK := Lib.hid (HVF.out _ (HPW.out k hkl))
          have HWC := Lib.hid (And.intro hcu hbu)
          have zw := (H0.out.2.2.2.cell (p := ⟨wg, wo + k, none⟩) hwg).trans hcu
          unfold maxLen at hroom2
          clear hcu hbu hall hk
          generalize p.wits.getD k [] = PUB at *
          generalize verifyB PUB BO g.sig = VB at *
          refine wp_region_held_drew (S := fun w' => w'.cell? ⟨w.heap.size, 0, none⟩ = some (.slice L p.log.length cl) ∧ w'.cell? ⟨w.heap.size, 1, none⟩ = some (.slice (some ⟨wg, wo, none⟩) p.wits.length cr) ∧ w'.cell? ⟨w.heap.size, 2, none⟩ = some (.int .i64 p.quorum) ∧ w'.cell? ⟨w.heap.size + 1, 0, none⟩ = some (.int .i64 c.num) ∧ w'.cell? ⟨w.heap.size + 1, 1, none⟩ = some (.slice T c.root.length ct) ∧ w'.cell? ⟨w.heap.size + 1 + 1, 0, none⟩ = some (.int .i64 k) ∧ w'.cell? ⟨w.heap.size + 1 + 1, 1, none⟩ = some (.int .i64 g.sig.index) ∧ w'.cell? ⟨w.heap.size + 1 + 1, 2, none⟩ = some (.slice P g.sig.parts.length cp) ∧ w'.cell? ⟨w.heap.size + 1 + 1, 3, none⟩ = some (.slice Q g.sig.path.length cq) ∧ w'.cell? ⟨wg, wo + k, none⟩ = some (.slice A9 PUB.length c9)) (by kernel_rfl) ?_ (fun hHeld => ?_)
          · exact ⟨z0, z1, z2, z3, z4, z5, z6, z7, z8, zw⟩
          refine take_yes 0 7 rfl rfl (by kernel_rfl) (by kernel_rfl) (by kernel_rfl) (fun _ _ _ h => h) (by assumption) (by rfl) (v := ?_) ?_ ?_
          rotate_left 1
          · (intro w hSw; (try dsimp only at hSw); go_simp; try with_reducible rfl)
          simp only [List.setIfInBounds_toArray, List.set_cons_zero, List.set_cons_succ]
          refine wpAnyH_ready (rs := [1]) (by kernel_rfl) (by simp) ?_
          refine AllReadyH.cons rfl (fun K hK => ?_) AllReadyH.nil
          -- 1:  dst := some 8, op := Op.call  callee := Callee.value (Operand.func 60), args := #[Operand.tmp 7], argTypes := #[29] , type := 
          go_simp
          go_at_call 60
          refine (HPR.out w0.drew _ ⟨_, _, rfl, (HX.out.1.below H0.out.2.2.2).below (Below.refl w0.heap.size w0).drew, (HX.out.2.1.below H0.out.2.2.2).below (Below.refl w0.heap.size w0).drew⟩).mono ?_
          rintro e w1 ⟨rfl, hb'⟩
          have hh : Below w0.heap.size w0 w1 := ⟨hb'.os, hb'.tape, hb'.output, hb'.size, hb'.block⟩
          have H1 := Lib.hid (And.intro (H0.out.1.below hh) (And.intro (H0.out.2.1.below hh) (And.intro (H0.out.2.2.1.below hh) (H0.out.2.2.2.trans (hh.mono H0.out.2.2.2.size)))))
          have x1_0 := H1.out.1.cell 0 _ rfl
          have x1_1 := H1.out.1.cell 1 _ rfl
          have x1_2 := H1.out.1.cell 2 _ rfl
          have x1_3 := H1.out.2.1.cell 0 _ rfl
          have x1_4 := H1.out.2.1.cell 1 _ rfl
          have x1_5 := H1.out.2.2.1.cell 0 _ rfl
          have x1_6 := H1.out.2.2.1.cell 1 _ rfl
          have x1_7 := H1.out.2.2.1.cell 2 _ rfl
          have x1_8 := H1.out.2.2.1.cell 3 _ rfl
          rw [hgw] at x1_5
          have x1_w := (H1.out.2.2.2.cell (p := ⟨wg, wo + k, none⟩) hwg).trans HWC.out.1
          clear hh hb' z0 z1 z2 z3 z4 z5 z6 z7 z8 zw
          try dsimp only
          refine hK.out _ _ ⟨x1_0, x1_1, x1_2, x1_3, x1_4, x1_5, x1_6, x1_7, x1_8, x1_w⟩ (fun hHeld1 => ?_)
          clear hK K
          try simp only [Act.put, List.setIfInBounds_toArray, List.set_cons_zero, List.set_cons_succ]
          refine take_yes 2 9 rfl rfl (by kernel_rfl) (by kernel_rfl) (by kernel_rfl) (fun _ _ _ h => h) (by assumption) (by rfl) (v := ?_) ?_ ?_
          rotate_left 1
          · (intro w hSw; (try dsimp only at hSw); go_simp; try with_reducible rfl)
          simp only [List.setIfInBounds_toArray, List.set_cons_zero, List.set_cons_succ]
          refine take_yes 3 10 rfl rfl (by kernel_rfl) (by kernel_rfl) (by kernel_rfl) (fun _ _ _ h => h) (by assumption) (by rfl) (v := ?_) ?_ ?_
          rotate_left 1
          · (intro w hSw; (try dsimp only at hSw); go_simp; try with_reducible rfl)
          simp only [List.setIfInBounds_toArray, List.set_cons_zero, List.set_cons_succ]
          refine wpAnyH_ready (rs := [4]) (by kernel_rfl) (by simp) ?_
          refine AllReadyH.cons rfl (fun K hK => ?_) AllReadyH.nil
          -- 4:  dst := some 11, op := Op.call  callee := Callee.value (Operand.func 61), args := #[Operand.tmp 10], argTypes := #[36] , type :
          go_simp
          go_at_call 61
          refine (HCR.out w1 _ ⟨_, rfl, HX.out.2.2.1.below H1.out.2.2.2⟩).mono ?_
          rintro e w2 ⟨rfl, hb'⟩
          have hh : Below w1.heap.size w1 w2 := ⟨hb'.os, hb'.tape, hb'.output, hb'.size, hb'.block⟩
          have H2 := Lib.hid (And.intro (H1.out.1.below hh) (And.intro (H1.out.2.1.below hh) (And.intro (H1.out.2.2.1.below hh) (H1.out.2.2.2.trans (hh.mono H1.out.2.2.2.size)))))
          have x2_0 := H2.out.1.cell 0 _ rfl
          have x2_1 := H2.out.1.cell 1 _ rfl
          have x2_2 := H2.out.1.cell 2 _ rfl
          have x2_3 := H2.out.2.1.cell 0 _ rfl
          have x2_4 := H2.out.2.1.cell 1 _ rfl
          have x2_5 := H2.out.2.2.1.cell 0 _ rfl
          have x2_6 := H2.out.2.2.1.cell 1 _ rfl
          have x2_7 := H2.out.2.2.1.cell 2 _ rfl
          have x2_8 := H2.out.2.2.1.cell 3 _ rfl
          rw [hgw] at x2_5
          have x2_w := (H2.out.2.2.2.cell (p := ⟨wg, wo + k, none⟩) hwg).trans HWC.out.1
          clear hh hb' x1_0 x1_1 x1_2 x1_3 x1_4 x1_5 x1_6 x1_7 x1_8 x1_w
          try dsimp only
          refine hK.out _ _ ⟨x2_0, x2_1, x2_2, x2_3, x2_4, x2_5, x2_6, x2_7, x2_8, x2_w⟩ (fun hHeld4 => ?_)
          clear hK K
          try simp only [Act.put, List.setIfInBounds_toArray, List.set_cons_zero, List.set_cons_succ]
          refine take_yes 5 12 rfl rfl (by kernel_rfl) (by kernel_rfl) (by kernel_rfl) (fun _ _ _ h => h) (by assumption) (by rfl) (v := ?_) ?_ ?_
          rotate_left 1
          · (intro w hSw; (try dsimp only at hSw); go_simp; try with_reducible rfl)
          simp only [List.setIfInBounds_toArray, List.set_cons_zero, List.set_cons_succ]
          refine take_yes 6 13 rfl rfl (by kernel_rfl) (by kernel_rfl) (by kernel_rfl) (fun _ _ _ h => h) (by assumption) (by rfl) (v := ?_) ?_ ?_
          rotate_left 1
          · (intro w hSw; (try dsimp only at hSw); go_simp; try with_reducible rfl)
          simp only [List.setIfInBounds_toArray, List.set_cons_zero, List.set_cons_succ]
          refine take_yes 7 14 rfl rfl (by kernel_rfl) (by kernel_rfl) (by kernel_rfl) (fun _ _ _ h => h) (by assumption) (by rfl) (v := ?_) ?_ ?_
          rotate_left 1
          · (intro w hSw; (try dsimp only at hSw); go_simp; try with_reducible rfl)
          simp only [List.setIfInBounds_toArray, List.set_cons_zero, List.set_cons_succ]
          refine take_yes 8 15 rfl rfl (by kernel_rfl) (by kernel_rfl) (by kernel_rfl) (fun _ _ _ h => h) (by assumption) (by rfl) (v := ?_) ?_ ?_
          rotate_left 1
          · (intro w hSw; (try dsimp only at hSw); go_simp; try with_reducible rfl)
          simp only [List.setIfInBounds_toArray, List.set_cons_zero, List.set_cons_succ]
          refine take_yes 9 16 rfl rfl (by kernel_rfl) (by kernel_rfl) (by kernel_rfl) (fun _ _ _ h => h) (by assumption) (by rfl) (v := ?_) ?_ ?_
          rotate_left 1
          · (intro w hSw; (try dsimp only at hSw); go_simp; try with_reducible rfl)
          simp only [List.setIfInBounds_toArray, List.set_cons_zero, List.set_cons_succ]
          refine take_yes 10 17 rfl rfl (by kernel_rfl) (by kernel_rfl) (by kernel_rfl) (fun _ _ _ h => h) (by assumption) (by rfl) (v := ?_) ?_ ?_
          rotate_left 1
          · (intro w hSw; (try dsimp only at hSw); go_simp; try with_reducible rfl)
          simp only [List.setIfInBounds_toArray, List.set_cons_zero, List.set_cons_succ]
          refine take_yes 11 18 rfl rfl (by kernel_rfl) (by kernel_rfl) (by kernel_rfl) (fun _ _ _ h => h) (by assumption) (by rfl) (v := ?_) ?_ ?_
          rotate_left 1
          · (intro w hSw; (try dsimp only at hSw); go_simp; try with_reducible rfl)
          simp only [List.setIfInBounds_toArray, List.set_cons_zero, List.set_cons_succ]
          refine take_yes 12 19 rfl rfl (by kernel_rfl) (by kernel_rfl) (by kernel_rfl) (fun _ _ _ h => h) (by assumption) (by rfl) (v := ?_) ?_ ?_
          rotate_left 1
          · (intro w hSw; (try dsimp only at hSw); go_simp; try with_reducible rfl)
          simp only [List.setIfInBounds_toArray, List.set_cons_zero, List.set_cons_succ]
          refine take_yes 13 20 rfl rfl (by kernel_rfl) (by kernel_rfl) (by kernel_rfl) (fun _ _ _ h => h) (by assumption) (by rfl) (v := ?_) ?_ ?_
          rotate_left 1
          · (intro w hSw; (try dsimp only at hSw); go_simp; try with_reducible rfl)
          simp only [List.setIfInBounds_toArray, List.set_cons_zero, List.set_cons_succ]
          refine take_yes 14 21 rfl rfl (by kernel_rfl) (by kernel_rfl) (by kernel_rfl) (fun _ _ _ h => h) (by assumption) (by rfl) (v := ?_) ?_ ?_
          rotate_left 1
          · (intro w hSw; (try dsimp only at hSw); go_simp; try with_reducible rfl)
          simp only [List.setIfInBounds_toArray, List.set_cons_zero, List.set_cons_succ]
          refine take_yes 15 22 rfl rfl (by kernel_rfl) (by kernel_rfl) (by kernel_rfl) (fun _ _ _ h => h) (by assumption) (by rfl) (v := ?_) ?_ ?_
          rotate_left 1
          · (intro w hSw; (try dsimp only at hSw); go_simp; try with_reducible rfl)
          simp only [List.setIfInBounds_toArray, List.set_cons_zero, List.set_cons_succ]
          refine take_yes 16 23 rfl rfl (by kernel_rfl) (by kernel_rfl) (by kernel_rfl) (fun _ _ _ h => h) (by assumption) (by rfl) (v := ?_) ?_ ?_
          rotate_left 1
          · (intro w hSw; (try dsimp only at hSw); go_simp; try with_reducible rfl)
          simp only [List.setIfInBounds_toArray, List.set_cons_zero, List.set_cons_succ]
          refine take_yes 17 24 rfl rfl (by kernel_rfl) (by kernel_rfl) (by kernel_rfl) (fun _ _ _ h => h) (by assumption) (by rfl) (v := ?_) ?_ ?_
          rotate_left 1
          · (intro w hSw; (try dsimp only at hSw); go_simp; try with_reducible rfl)
          simp only [List.setIfInBounds_toArray, List.set_cons_zero, List.set_cons_succ]
          refine take_yes 18 25 rfl rfl (by kernel_rfl) (by kernel_rfl) (by kernel_rfl) (fun _ _ _ h => h) (by assumption) (by rfl) (v := ?_) ?_ ?_
          rotate_left 1
          · (intro w hSw; (try dsimp only at hSw); go_simp; try with_reducible rfl)
          simp only [List.setIfInBounds_toArray, List.set_cons_zero, List.set_cons_succ]
          refine take_yes 19 26 rfl rfl (by kernel_rfl) (by kernel_rfl) (by kernel_rfl) (fun _ _ _ h => h) (by assumption) (by rfl) (v := ?_) ?_ ?_
          rotate_left 1
          · (intro w hSw; (try dsimp only at hSw); go_simp; try with_reducible rfl)
          simp only [List.setIfInBounds_toArray, List.set_cons_zero, List.set_cons_succ]
          refine take_yes 20 27 rfl rfl (by kernel_rfl) (by kernel_rfl) (by kernel_rfl) (fun _ _ _ h => h) (by assumption) (by rfl) (v := ?_) ?_ ?_
          rotate_left 1
          · (intro w hSw; (try dsimp only at hSw); go_simp; try with_reducible rfl)
          simp only [List.setIfInBounds_toArray, List.set_cons_zero, List.set_cons_succ]
          refine take_yes 21 28 rfl rfl (by kernel_rfl) (by kernel_rfl) (by kernel_rfl) (fun _ _ _ h => h) (by assumption) (by rfl) (v := ?_) ?_ ?_
          rotate_left 1
          · (intro w hSw; (try dsimp only at hSw); go_simp; try with_reducible rfl)
          simp only [List.setIfInBounds_toArray, List.set_cons_zero, List.set_cons_succ]
          refine take_yes 22 29 rfl rfl (by kernel_rfl) (by kernel_rfl) (by kernel_rfl) (fun _ _ _ h => h) (by assumption) (by rfl) (v := ?_) ?_ ?_
          rotate_left 1
          · (intro w hSw; (try dsimp only at hSw); go_simp; try with_reducible rfl)
          simp only [List.setIfInBounds_toArray, List.set_cons_zero, List.set_cons_succ]
          refine take_yes 23 30 rfl rfl (by kernel_rfl) (by kernel_rfl) (by kernel_rfl) (fun _ _ _ h => h) (by assumption) (by rfl) (v := ?_) ?_ ?_
          rotate_left 1
          · (intro w hSw; (try dsimp only at hSw); go_simp; try with_reducible rfl)
          simp only [List.setIfInBounds_toArray, List.set_cons_zero, List.set_cons_succ]
          refine take_yes 24 31 rfl rfl (by kernel_rfl) (by kernel_rfl) (by kernel_rfl) (fun _ _ _ h => h) (by assumption) (by rfl) (v := ?_) ?_ ?_
          rotate_left 1
          · (intro w hSw; (try dsimp only at hSw); go_simp; try with_reducible rfl)
          simp only [List.setIfInBounds_toArray, List.set_cons_zero, List.set_cons_succ]
          refine take_yes 25 32 rfl rfl (by kernel_rfl) (by kernel_rfl) (by kernel_rfl) (fun _ _ _ h => h) (by assumption) (by rfl) (v := ?_) ?_ ?_
          rotate_left 1
          · (intro w hSw; (try dsimp only at hSw); go_simp; try with_reducible rfl)
          simp only [List.setIfInBounds_toArray, List.set_cons_zero, List.set_cons_succ]
          refine take_yes 26 33 rfl rfl (by kernel_rfl) (by kernel_rfl) (by kernel_rfl) (fun _ _ _ h => h) (by assumption) (by rfl) (v := ?_) ?_ ?_
          rotate_left 1
          · (intro w hSw; (try dsimp only at hSw); go_simp; try with_reducible rfl)
          simp only [List.setIfInBounds_toArray, List.set_cons_zero, List.set_cons_succ]
          refine take_yes 28 35 rfl rfl (by kernel_rfl) (by kernel_rfl) (by kernel_rfl) (fun _ _ _ h => h) (by assumption) (by rfl) (v := ?_) ?_ ?_
          rotate_left 1
          · (intro w hSw; (try dsimp only at hSw); go_simp; try with_reducible rfl)
          simp only [List.setIfInBounds_toArray, List.set_cons_zero, List.set_cons_succ]
          refine take_yes 29 36 rfl rfl (by kernel_rfl) (by kernel_rfl) (by kernel_rfl) (fun _ _ _ h => h) (by assumption) (by rfl) (v := ?_) ?_ ?_
          rotate_left 1
          · (intro w hSw; (try dsimp only at hSw); go_simp; try with_reducible rfl)
          simp only [List.setIfInBounds_toArray, List.set_cons_zero, List.set_cons_succ]
          refine wpAnyH_ready (rs := [27]) (by kernel_rfl) (by simp) ?_
          refine AllReadyH.cons rfl (fun K hK => ?_) AllReadyH.nil
          -- 27:  dst := some 34, op := Op.call  callee := Callee.value (Operand.func 32), args := #[Operand.tmp 33], argTypes := #[36] , type :
          go_simp
          go_at_call 32
          refine (HBD.out w2 _ ⟨_, rfl, HX.out.2.2.1.below H2.out.2.2.2⟩).mono ?_
          rintro e w3 ⟨v3, rfl, hbo, hb'⟩
          obtain ⟨A3, c3, rfl⟩ := hbo.form
          have HBO := Lib.hid hbo
          clear hbo
          have hh : Below w2.heap.size w2 w3 := ⟨hb'.os, hb'.tape, hb'.output, hb'.size, hb'.block⟩
          have H3 := Lib.hid (And.intro (H2.out.1.below hh) (And.intro (H2.out.2.1.below hh) (And.intro (H2.out.2.2.1.below hh) (H2.out.2.2.2.trans (hh.mono H2.out.2.2.2.size)))))
          have x3_0 := H3.out.1.cell 0 _ rfl
          have x3_1 := H3.out.1.cell 1 _ rfl
          have x3_2 := H3.out.1.cell 2 _ rfl
          have x3_3 := H3.out.2.1.cell 0 _ rfl
          have x3_4 := H3.out.2.1.cell 1 _ rfl
          have x3_5 := H3.out.2.2.1.cell 0 _ rfl
          have x3_6 := H3.out.2.2.1.cell 1 _ rfl
          have x3_7 := H3.out.2.2.1.cell 2 _ rfl
          have x3_8 := H3.out.2.2.1.cell 3 _ rfl
          rw [hgw] at x3_5
          have x3_w := (H3.out.2.2.2.cell (p := ⟨wg, wo + k, none⟩) hwg).trans HWC.out.1
          clear hh hb' x2_0 x2_1 x2_2 x2_3 x2_4 x2_5 x2_6 x2_7 x2_8 x2_w
          try dsimp only
          refine hK.out _ _ ⟨x3_0, x3_1, x3_2, x3_3, x3_4, x3_5, x3_6, x3_7, x3_8, x3_w⟩ (fun hHeld27 => ?_)
          clear hK K
          try simp only [Act.put, List.setIfInBounds_toArray, List.set_cons_zero, List.set_cons_succ]
          refine wpAnyH_ready (rs := [30]) (by kernel_rfl) (by simp) ?_
          refine AllReadyH.cons rfl (fun K hK => ?_) AllReadyH.nil
          -- 30:  dst := some 37, op := Op.call  callee := Callee.value (Operand.func 62), args := #[Operand.tmp 32, Operand.tmp 34, Operand.tmp 
          go_simp
          go_at_call 62
          refine (HVK.out w3 _ _ _ (HWC.out.2.below H3.out.2.2.2) HBO.out ⟨_, _, rfl, HX.out.2.2.2.1.below H3.out.2.2.2, HX.out.2.2.2.2.below H3.out.2.2.2⟩).mono ?_
          rintro e w4 ⟨rfl, hb'⟩
          have hh : Below w3.heap.size w3 w4 := ⟨hb'.os, hb'.tape, hb'.output, hb'.size, hb'.block⟩
          have H4 := Lib.hid (And.intro (H3.out.1.below hh) (And.intro (H3.out.2.1.below hh) (And.intro (H3.out.2.2.1.below hh) (H3.out.2.2.2.trans (hh.mono H3.out.2.2.2.size)))))
          have x4_0 := H4.out.1.cell 0 _ rfl
          have x4_1 := H4.out.1.cell 1 _ rfl
          have x4_2 := H4.out.1.cell 2 _ rfl
          have x4_3 := H4.out.2.1.cell 0 _ rfl
          have x4_4 := H4.out.2.1.cell 1 _ rfl
          have x4_5 := H4.out.2.2.1.cell 0 _ rfl
          have x4_6 := H4.out.2.2.1.cell 1 _ rfl
          have x4_7 := H4.out.2.2.1.cell 2 _ rfl
          have x4_8 := H4.out.2.2.1.cell 3 _ rfl
          rw [hgw] at x4_5
          have x4_w := (H4.out.2.2.2.cell (p := ⟨wg, wo + k, none⟩) hwg).trans HWC.out.1
          clear hh hb' x3_0 x3_1 x3_2 x3_3 x3_4 x3_5 x3_6 x3_7 x3_8 x3_w
          try dsimp only
          refine hK.out _ _ ⟨x4_0, x4_1, x4_2, x4_3, x4_4, x4_5, x4_6, x4_7, x4_8, x4_w⟩ (fun hHeld30 => ?_)
          clear hK K
          try simp only [Act.put, List.setIfInBounds_toArray, List.set_cons_zero, List.set_cons_succ]
          refine take_yes 31 38 rfl rfl (by kernel_rfl) (by kernel_rfl) (by kernel_rfl) (fun _ _ _ h => h) (by assumption) (by rfl) (v := ?_) ?_ ?_
          rotate_left 1
          · (intro w hSw; (try dsimp only at hSw); go_simp; try with_reducible rfl)
          simp only [List.setIfInBounds_toArray, List.set_cons_zero, List.set_cons_succ]
          refine take_yes 32 6 rfl rfl (by kernel_rfl) (by kernel_rfl) (by kernel_rfl) (fun _ _ _ h => h) (by assumption) (by rfl) (v := ?_) ?_ ?_
          rotate_left 1
          · (intro w hSw; (try dsimp only at hSw); go_simp; try with_reducible rfl)
          simp only [List.setIfInBounds_toArray, List.set_cons_zero, List.set_cons_succ]
          refine wpAnyH_done (by kernel_rfl) ?_ _
          have HF : Hid (CV = VB) := Lib.hid (by rw [HCV.out])
          go_wp2
          go_ret
          exact ⟨by rw [HF.out]; rfl, H4.out.2.2.2⟩
        · have hwn : ¬ g.wit < (p.wits.length : Int) := hw1
          refine wp_region_held_drew (S := fun w' => w'.cell? ⟨w.heap.size, 0, none⟩ = some (.slice L p.log.length cl) ∧ w'.cell? ⟨w.heap.size, 1, none⟩ = some (.slice R p.wits.length cr) ∧ w'.cell? ⟨w.heap.size, 2, none⟩ = some (.int .i64 p.quorum) ∧ w'.cell? ⟨w.heap.size + 1, 0, none⟩ = some (.int .i64 c.num) ∧ w'.cell? ⟨w.heap.size + 1, 1, none⟩ = some (.slice T c.root.length ct) ∧ w'.cell? ⟨w.heap.size + 1 + 1, 0, none⟩ = some (.int .i64 g.wit) ∧ w'.cell? ⟨w.heap.size + 1 + 1, 1, none⟩ = some (.int .i64 g.sig.index) ∧ w'.cell? ⟨w.heap.size + 1 + 1, 2, none⟩ = some (.slice P g.sig.parts.length cp) ∧ w'.cell? ⟨w.heap.size + 1 + 1, 3, none⟩ = some (.slice Q g.sig.path.length cq)) (by kernel_rfl) ?_ (fun hHeld => ?_)
          · exact ⟨z0, z1, z2, z3, z4, z5, z6, z7, z8⟩
          refine take_yes 0 7 rfl rfl (by kernel_rfl) (by kernel_rfl) (by kernel_rfl) (fun _ _ _ h => h) (by assumption) (by rfl) (v := ?_) ?_ ?_
          rotate_left 1
          · (intro w hSw; (try dsimp only at hSw); go_simp; try with_reducible rfl)
          simp only [List.setIfInBounds_toArray, List.set_cons_zero, List.set_cons_succ]
          refine wpAnyH_ready (rs := [1]) (by kernel_rfl) (by simp) ?_
          refine AllReadyH.cons rfl (fun K hK => ?_) AllReadyH.nil
          -- 1:  dst := some 8, op := Op.call  callee := Callee.value (Operand.func 60), args := #[Operand.tmp 7], argTypes := #[29] , type := 
          go_simp
          go_at_call 60
          refine (HPR.out w0.drew _ ⟨_, _, rfl, (HX.out.1.below H0.out.2.2.2).below (Below.refl w0.heap.size w0).drew, (HX.out.2.1.below H0.out.2.2.2).below (Below.refl w0.heap.size w0).drew⟩).mono ?_
          rintro e w1 ⟨rfl, hb'⟩
          have hh : Below w0.heap.size w0 w1 := ⟨hb'.os, hb'.tape, hb'.output, hb'.size, hb'.block⟩
          have H1 := Lib.hid (And.intro (H0.out.1.below hh) (And.intro (H0.out.2.1.below hh) (And.intro (H0.out.2.2.1.below hh) (H0.out.2.2.2.trans (hh.mono H0.out.2.2.2.size)))))
          have x1_0 := H1.out.1.cell 0 _ rfl
          have x1_1 := H1.out.1.cell 1 _ rfl
          have x1_2 := H1.out.1.cell 2 _ rfl
          have x1_3 := H1.out.2.1.cell 0 _ rfl
          have x1_4 := H1.out.2.1.cell 1 _ rfl
          have x1_5 := H1.out.2.2.1.cell 0 _ rfl
          have x1_6 := H1.out.2.2.1.cell 1 _ rfl
          have x1_7 := H1.out.2.2.1.cell 2 _ rfl
          have x1_8 := H1.out.2.2.1.cell 3 _ rfl
          clear hh hb' z0 z1 z2 z3 z4 z5 z6 z7 z8
          try dsimp only
          refine hK.out _ _ ⟨x1_0, x1_1, x1_2, x1_3, x1_4, x1_5, x1_6, x1_7, x1_8⟩ (fun hHeld1 => ?_)
          clear hK K
          try simp only [Act.put, List.setIfInBounds_toArray, List.set_cons_zero, List.set_cons_succ]
          refine take_yes 2 9 rfl rfl (by kernel_rfl) (by kernel_rfl) (by kernel_rfl) (fun _ _ _ h => h) (by assumption) (by rfl) (v := ?_) ?_ ?_
          rotate_left 1
          · (intro w hSw; (try dsimp only at hSw); go_simp; try with_reducible rfl)
          simp only [List.setIfInBounds_toArray, List.set_cons_zero, List.set_cons_succ]
          refine take_yes 3 10 rfl rfl (by kernel_rfl) (by kernel_rfl) (by kernel_rfl) (fun _ _ _ h => h) (by assumption) (by rfl) (v := ?_) ?_ ?_
          rotate_left 1
          · (intro w hSw; (try dsimp only at hSw); go_simp; try with_reducible rfl)
          simp only [List.setIfInBounds_toArray, List.set_cons_zero, List.set_cons_succ]
          refine wpAnyH_ready (rs := [4]) (by kernel_rfl) (by simp) ?_
          refine AllReadyH.cons rfl (fun K hK => ?_) AllReadyH.nil
          -- 4:  dst := some 11, op := Op.call  callee := Callee.value (Operand.func 61), args := #[Operand.tmp 10], argTypes := #[36] , type :
          go_simp
          go_at_call 61
          refine (HCR.out w1 _ ⟨_, rfl, HX.out.2.2.1.below H1.out.2.2.2⟩).mono ?_
          rintro e w2 ⟨rfl, hb'⟩
          have hh : Below w1.heap.size w1 w2 := ⟨hb'.os, hb'.tape, hb'.output, hb'.size, hb'.block⟩
          have H2 := Lib.hid (And.intro (H1.out.1.below hh) (And.intro (H1.out.2.1.below hh) (And.intro (H1.out.2.2.1.below hh) (H1.out.2.2.2.trans (hh.mono H1.out.2.2.2.size)))))
          have x2_0 := H2.out.1.cell 0 _ rfl
          have x2_1 := H2.out.1.cell 1 _ rfl
          have x2_2 := H2.out.1.cell 2 _ rfl
          have x2_3 := H2.out.2.1.cell 0 _ rfl
          have x2_4 := H2.out.2.1.cell 1 _ rfl
          have x2_5 := H2.out.2.2.1.cell 0 _ rfl
          have x2_6 := H2.out.2.2.1.cell 1 _ rfl
          have x2_7 := H2.out.2.2.1.cell 2 _ rfl
          have x2_8 := H2.out.2.2.1.cell 3 _ rfl
          clear hh hb' x1_0 x1_1 x1_2 x1_3 x1_4 x1_5 x1_6 x1_7 x1_8
          try dsimp only
          refine hK.out _ _ ⟨x2_0, x2_1, x2_2, x2_3, x2_4, x2_5, x2_6, x2_7, x2_8⟩ (fun hHeld4 => ?_)
          clear hK K
          try simp only [Act.put, List.setIfInBounds_toArray, List.set_cons_zero, List.set_cons_succ]
          refine take_yes 5 12 rfl rfl (by kernel_rfl) (by kernel_rfl) (by kernel_rfl) (fun _ _ _ h => h) (by assumption) (by rfl) (v := ?_) ?_ ?_
          rotate_left 1
          · (intro w hSw; (try dsimp only at hSw); go_simp; try with_reducible rfl)
          simp only [List.setIfInBounds_toArray, List.set_cons_zero, List.set_cons_succ]
          refine take_yes 6 13 rfl rfl (by kernel_rfl) (by kernel_rfl) (by kernel_rfl) (fun _ _ _ h => h) (by assumption) (by rfl) (v := ?_) ?_ ?_
          rotate_left 1
          · (intro w hSw; (try dsimp only at hSw); go_simp; try with_reducible rfl)
          simp only [List.setIfInBounds_toArray, List.set_cons_zero, List.set_cons_succ]
          refine take_yes 7 14 rfl rfl (by kernel_rfl) (by kernel_rfl) (by kernel_rfl) (fun _ _ _ h => h) (by assumption) (by rfl) (v := ?_) ?_ ?_
          rotate_left 1
          · (intro w hSw; (try dsimp only at hSw); go_simp; try with_reducible rfl)
          simp only [List.setIfInBounds_toArray, List.set_cons_zero, List.set_cons_succ]
          refine take_yes 8 15 rfl rfl (by kernel_rfl) (by kernel_rfl) (by kernel_rfl) (fun _ _ _ h => h) (by assumption) (by rfl) (v := ?_) ?_ ?_
          rotate_left 1
          · (intro w hSw; (try dsimp only at hSw); go_simp; try with_reducible rfl)
          simp only [List.setIfInBounds_toArray, List.set_cons_zero, List.set_cons_succ]
          refine take_yes 9 16 rfl rfl (by kernel_rfl) (by kernel_rfl) (by kernel_rfl) (fun _ _ _ h => h) (by assumption) (by rfl) (v := ?_) ?_ ?_
          rotate_left 1
          · (intro w hSw; (try dsimp only at hSw); go_simp; try with_reducible rfl)
          simp only [List.setIfInBounds_toArray, List.set_cons_zero, List.set_cons_succ]
          refine take_yes 10 17 rfl rfl (by kernel_rfl) (by kernel_rfl) (by kernel_rfl) (fun _ _ _ h => h) (by assumption) (by rfl) (v := ?_) ?_ ?_
          rotate_left 1
          · (intro w hSw; (try dsimp only at hSw); go_simp; try with_reducible rfl)
          simp only [List.setIfInBounds_toArray, List.set_cons_zero, List.set_cons_succ]
          refine take_yes 11 18 rfl rfl (by kernel_rfl) (by kernel_rfl) (by kernel_rfl) (fun _ _ _ h => h) (by assumption) (by rfl) (v := ?_) ?_ ?_
          rotate_left 1
          · (intro w hSw; (try dsimp only at hSw); go_simp; try with_reducible rfl)
          simp only [List.setIfInBounds_toArray, List.set_cons_zero, List.set_cons_succ]
          refine take_yes 12 19 rfl rfl (by kernel_rfl) (by kernel_rfl) (by kernel_rfl) (fun _ _ _ h => h) (by assumption) (by rfl) (v := ?_) ?_ ?_
          rotate_left 1
          · (intro w hSw; (try dsimp only at hSw); go_simp; try with_reducible rfl)
          simp only [List.setIfInBounds_toArray, List.set_cons_zero, List.set_cons_succ]
          refine take_yes 13 20 rfl rfl (by kernel_rfl) (by kernel_rfl) (by kernel_rfl) (fun _ _ _ h => h) (by assumption) (by rfl) (v := ?_) ?_ ?_
          rotate_left 1
          · (intro w hSw; (try dsimp only at hSw); go_simp; try with_reducible rfl)
          simp only [List.setIfInBounds_toArray, List.set_cons_zero, List.set_cons_succ]
          refine take_yes 14 21 rfl rfl (by kernel_rfl) (by kernel_rfl) (by kernel_rfl) (fun _ _ _ h => h) (by assumption) (by rfl) (v := ?_) ?_ ?_
          rotate_left 1
          · (intro w hSw; (try dsimp only at hSw); go_simp; try with_reducible rfl)
          simp only [List.setIfInBounds_toArray, List.set_cons_zero, List.set_cons_succ]
          refine take_yes 15 22 rfl rfl (by kernel_rfl) (by kernel_rfl) (by kernel_rfl) (fun _ _ _ h => h) (by assumption) (by rfl) (v := ?_) ?_ ?_
          rotate_left 1
          · (intro w hSw; (try dsimp only at hSw); go_simp; try with_reducible rfl)
          simp only [List.setIfInBounds_toArray, List.set_cons_zero, List.set_cons_succ]
          refine take_yes 16 23 rfl rfl (by kernel_rfl) (by kernel_rfl) (by kernel_rfl) (fun _ _ _ h => h) (by assumption) (by rfl) (v := ?_) ?_ ?_
          rotate_left 1
          · (intro w hSw; (try dsimp only at hSw); go_simp; try with_reducible rfl)
          simp only [List.setIfInBounds_toArray, List.set_cons_zero, List.set_cons_succ]
          refine take_yes 17 24 rfl rfl (by kernel_rfl) (by kernel_rfl) (by kernel_rfl) (fun _ _ _ h => h) (by assumption) (by rfl) (v := ?_) ?_ ?_
          rotate_left 1
          · (intro w hSw; (try dsimp only at hSw); go_simp; try with_reducible rfl)
          simp only [List.setIfInBounds_toArray, List.set_cons_zero, List.set_cons_succ]
          refine take_yes 18 25 rfl rfl (by kernel_rfl) (by kernel_rfl) (by kernel_rfl) (fun _ _ _ h => h) (by assumption) (by rfl) (v := ?_) ?_ ?_
          rotate_left 1
          · (intro w hSw; (try dsimp only at hSw); go_simp; try with_reducible rfl)
          simp only [List.setIfInBounds_toArray, List.set_cons_zero, List.set_cons_succ]
          refine take_yes 19 26 rfl rfl (by kernel_rfl) (by kernel_rfl) (by kernel_rfl) (fun _ _ _ h => h) (by assumption) (by rfl) (v := ?_) ?_ ?_
          rotate_left 1
          · (intro w hSw; (try dsimp only at hSw); go_simp; try with_reducible rfl)
          simp only [List.setIfInBounds_toArray, List.set_cons_zero, List.set_cons_succ]
          refine take_no 20 27 rfl rfl (by kernel_rfl) (by kernel_rfl) (by kernel_rfl) (fun _ _ _ h => h) (by assumption) (by rfl) ?_
          simp only [List.setIfInBounds_toArray, List.set_cons_zero, List.set_cons_succ]
          refine take_no 21 28 rfl rfl (by kernel_rfl) (by kernel_rfl) (by kernel_rfl) (fun _ _ _ h => h) (by assumption) (by rfl) ?_
          simp only [List.setIfInBounds_toArray, List.set_cons_zero, List.set_cons_succ]
          refine take_no 22 29 rfl rfl (by kernel_rfl) (by kernel_rfl) (by kernel_rfl) (fun _ _ _ h => h) (by assumption) (by rfl) ?_
          simp only [List.setIfInBounds_toArray, List.set_cons_zero, List.set_cons_succ]
          refine take_no 23 30 rfl rfl (by kernel_rfl) (by kernel_rfl) (by kernel_rfl) (fun _ _ _ h => h) (by assumption) (by rfl) ?_
          simp only [List.setIfInBounds_toArray, List.set_cons_zero, List.set_cons_succ]
          refine take_no 24 31 rfl rfl (by kernel_rfl) (by kernel_rfl) (by kernel_rfl) (fun _ _ _ h => h) (by assumption) (by rfl) ?_
          simp only [List.setIfInBounds_toArray, List.set_cons_zero, List.set_cons_succ]
          refine take_no 25 32 rfl rfl (by kernel_rfl) (by kernel_rfl) (by kernel_rfl) (fun _ _ _ h => h) (by assumption) (by rfl) ?_
          simp only [List.setIfInBounds_toArray, List.set_cons_zero, List.set_cons_succ]
          refine take_no 26 33 rfl rfl (by kernel_rfl) (by kernel_rfl) (by kernel_rfl) (fun _ _ _ h => h) (by assumption) (by rfl) ?_
          simp only [List.setIfInBounds_toArray, List.set_cons_zero, List.set_cons_succ]
          refine take_no 27 34 rfl rfl (by kernel_rfl) (by kernel_rfl) (by kernel_rfl) (fun _ _ _ h => h) (by assumption) (by rfl) ?_
          simp only [List.setIfInBounds_toArray, List.set_cons_zero, List.set_cons_succ]
          refine take_no 28 35 rfl rfl (by kernel_rfl) (by kernel_rfl) (by kernel_rfl) (fun _ _ _ h => h) (by assumption) (by rfl) ?_
          simp only [List.setIfInBounds_toArray, List.set_cons_zero, List.set_cons_succ]
          refine take_no 29 36 rfl rfl (by kernel_rfl) (by kernel_rfl) (by kernel_rfl) (fun _ _ _ h => h) (by assumption) (by rfl) ?_
          simp only [List.setIfInBounds_toArray, List.set_cons_zero, List.set_cons_succ]
          refine take_no 30 37 rfl rfl (by kernel_rfl) (by kernel_rfl) (by kernel_rfl) (fun _ _ _ h => h) (by assumption) (by rfl) ?_
          simp only [List.setIfInBounds_toArray, List.set_cons_zero, List.set_cons_succ]
          refine take_yes 31 38 rfl rfl (by kernel_rfl) (by kernel_rfl) (by kernel_rfl) (fun _ _ _ h => h) (by assumption) (by rfl) (v := ?_) ?_ ?_
          rotate_left 1
          · (intro w hSw; (try dsimp only at hSw); go_simp; try with_reducible rfl)
          simp only [List.setIfInBounds_toArray, List.set_cons_zero, List.set_cons_succ]
          refine take_yes 32 6 rfl rfl (by kernel_rfl) (by kernel_rfl) (by kernel_rfl) (fun _ _ _ h => h) (by assumption) (by rfl) (v := ?_) ?_ ?_
          rotate_left 1
          · (intro w hSw; (try dsimp only at hSw); go_simp; try with_reducible rfl)
          simp only [List.setIfInBounds_toArray, List.set_cons_zero, List.set_cons_succ]
          refine wpAnyH_done (by kernel_rfl) ?_ _
          have HF : Hid (CV = false) := Lib.hid (by rw [HCV.out, decide_eq_false hwn]; simp)
          go_wp2
          go_ret
          exact ⟨by rw [HF.out]; rfl, H2.out.2.2.2⟩
      · have hwn : ¬ 0 ≤ g.wit := hw0
        refine wp_region_held_drew (S := fun w' => w'.cell? ⟨w.heap.size, 0, none⟩ = some (.slice L p.log.length cl) ∧ w'.cell? ⟨w.heap.size, 1, none⟩ = some (.slice R p.wits.length cr) ∧ w'.cell? ⟨w.heap.size, 2, none⟩ = some (.int .i64 p.quorum) ∧ w'.cell? ⟨w.heap.size + 1, 0, none⟩ = some (.int .i64 c.num) ∧ w'.cell? ⟨w.heap.size + 1, 1, none⟩ = some (.slice T c.root.length ct) ∧ w'.cell? ⟨w.heap.size + 1 + 1, 0, none⟩ = some (.int .i64 g.wit) ∧ w'.cell? ⟨w.heap.size + 1 + 1, 1, none⟩ = some (.int .i64 g.sig.index) ∧ w'.cell? ⟨w.heap.size + 1 + 1, 2, none⟩ = some (.slice P g.sig.parts.length cp) ∧ w'.cell? ⟨w.heap.size + 1 + 1, 3, none⟩ = some (.slice Q g.sig.path.length cq)) (by kernel_rfl) ?_ (fun hHeld => ?_)
        · exact ⟨z0, z1, z2, z3, z4, z5, z6, z7, z8⟩
        refine take_yes 0 7 rfl rfl (by kernel_rfl) (by kernel_rfl) (by kernel_rfl) (fun _ _ _ h => h) (by assumption) (by rfl) (v := ?_) ?_ ?_
        rotate_left 1
        · (intro w hSw; (try dsimp only at hSw); go_simp; try with_reducible rfl)
        simp only [List.setIfInBounds_toArray, List.set_cons_zero, List.set_cons_succ]
        refine wpAnyH_ready (rs := [1]) (by kernel_rfl) (by simp) ?_
        refine AllReadyH.cons rfl (fun K hK => ?_) AllReadyH.nil
        -- 1:  dst := some 8, op := Op.call  callee := Callee.value (Operand.func 60), args := #[Operand.tmp 7], argTypes := #[29] , type := 
        go_simp
        go_at_call 60
        refine (HPR.out w0.drew _ ⟨_, _, rfl, (HX.out.1.below H0.out.2.2.2).below (Below.refl w0.heap.size w0).drew, (HX.out.2.1.below H0.out.2.2.2).below (Below.refl w0.heap.size w0).drew⟩).mono ?_
        rintro e w1 ⟨rfl, hb'⟩
        have hh : Below w0.heap.size w0 w1 := ⟨hb'.os, hb'.tape, hb'.output, hb'.size, hb'.block⟩
        have H1 := Lib.hid (And.intro (H0.out.1.below hh) (And.intro (H0.out.2.1.below hh) (And.intro (H0.out.2.2.1.below hh) (H0.out.2.2.2.trans (hh.mono H0.out.2.2.2.size)))))
        have x1_0 := H1.out.1.cell 0 _ rfl
        have x1_1 := H1.out.1.cell 1 _ rfl
        have x1_2 := H1.out.1.cell 2 _ rfl
        have x1_3 := H1.out.2.1.cell 0 _ rfl
        have x1_4 := H1.out.2.1.cell 1 _ rfl
        have x1_5 := H1.out.2.2.1.cell 0 _ rfl
        have x1_6 := H1.out.2.2.1.cell 1 _ rfl
        have x1_7 := H1.out.2.2.1.cell 2 _ rfl
        have x1_8 := H1.out.2.2.1.cell 3 _ rfl
        clear hh hb' z0 z1 z2 z3 z4 z5 z6 z7 z8
        try dsimp only
        refine hK.out _ _ ⟨x1_0, x1_1, x1_2, x1_3, x1_4, x1_5, x1_6, x1_7, x1_8⟩ (fun hHeld1 => ?_)
        clear hK K
        try simp only [Act.put, List.setIfInBounds_toArray, List.set_cons_zero, List.set_cons_succ]
        refine take_yes 2 9 rfl rfl (by kernel_rfl) (by kernel_rfl) (by kernel_rfl) (fun _ _ _ h => h) (by assumption) (by rfl) (v := ?_) ?_ ?_
        rotate_left 1
        · (intro w hSw; (try dsimp only at hSw); go_simp; try with_reducible rfl)
        simp only [List.setIfInBounds_toArray, List.set_cons_zero, List.set_cons_succ]
        refine take_yes 3 10 rfl rfl (by kernel_rfl) (by kernel_rfl) (by kernel_rfl) (fun _ _ _ h => h) (by assumption) (by rfl) (v := ?_) ?_ ?_
        rotate_left 1
        · (intro w hSw; (try dsimp only at hSw); go_simp; try with_reducible rfl)
        simp only [List.setIfInBounds_toArray, List.set_cons_zero, List.set_cons_succ]
        refine wpAnyH_ready (rs := [4]) (by kernel_rfl) (by simp) ?_
        refine AllReadyH.cons rfl (fun K hK => ?_) AllReadyH.nil
        -- 4:  dst := some 11, op := Op.call  callee := Callee.value (Operand.func 61), args := #[Operand.tmp 10], argTypes := #[36] , type :
        go_simp
        go_at_call 61
        refine (HCR.out w1 _ ⟨_, rfl, HX.out.2.2.1.below H1.out.2.2.2⟩).mono ?_
        rintro e w2 ⟨rfl, hb'⟩
        have hh : Below w1.heap.size w1 w2 := ⟨hb'.os, hb'.tape, hb'.output, hb'.size, hb'.block⟩
        have H2 := Lib.hid (And.intro (H1.out.1.below hh) (And.intro (H1.out.2.1.below hh) (And.intro (H1.out.2.2.1.below hh) (H1.out.2.2.2.trans (hh.mono H1.out.2.2.2.size)))))
        have x2_0 := H2.out.1.cell 0 _ rfl
        have x2_1 := H2.out.1.cell 1 _ rfl
        have x2_2 := H2.out.1.cell 2 _ rfl
        have x2_3 := H2.out.2.1.cell 0 _ rfl
        have x2_4 := H2.out.2.1.cell 1 _ rfl
        have x2_5 := H2.out.2.2.1.cell 0 _ rfl
        have x2_6 := H2.out.2.2.1.cell 1 _ rfl
        have x2_7 := H2.out.2.2.1.cell 2 _ rfl
        have x2_8 := H2.out.2.2.1.cell 3 _ rfl
        clear hh hb' x1_0 x1_1 x1_2 x1_3 x1_4 x1_5 x1_6 x1_7 x1_8
        try dsimp only
        refine hK.out _ _ ⟨x2_0, x2_1, x2_2, x2_3, x2_4, x2_5, x2_6, x2_7, x2_8⟩ (fun hHeld4 => ?_)
        clear hK K
        try simp only [Act.put, List.setIfInBounds_toArray, List.set_cons_zero, List.set_cons_succ]
        refine take_yes 5 12 rfl rfl (by kernel_rfl) (by kernel_rfl) (by kernel_rfl) (fun _ _ _ h => h) (by assumption) (by rfl) (v := ?_) ?_ ?_
        rotate_left 1
        · (intro w hSw; (try dsimp only at hSw); go_simp; try with_reducible rfl)
        simp only [List.setIfInBounds_toArray, List.set_cons_zero, List.set_cons_succ]
        refine take_yes 6 13 rfl rfl (by kernel_rfl) (by kernel_rfl) (by kernel_rfl) (fun _ _ _ h => h) (by assumption) (by rfl) (v := ?_) ?_ ?_
        rotate_left 1
        · (intro w hSw; (try dsimp only at hSw); go_simp; try with_reducible rfl)
        simp only [List.setIfInBounds_toArray, List.set_cons_zero, List.set_cons_succ]
        refine take_yes 7 14 rfl rfl (by kernel_rfl) (by kernel_rfl) (by kernel_rfl) (fun _ _ _ h => h) (by assumption) (by rfl) (v := ?_) ?_ ?_
        rotate_left 1
        · (intro w hSw; (try dsimp only at hSw); go_simp; try with_reducible rfl)
        simp only [List.setIfInBounds_toArray, List.set_cons_zero, List.set_cons_succ]
        refine take_yes 8 15 rfl rfl (by kernel_rfl) (by kernel_rfl) (by kernel_rfl) (fun _ _ _ h => h) (by assumption) (by rfl) (v := ?_) ?_ ?_
        rotate_left 1
        · (intro w hSw; (try dsimp only at hSw); go_simp; try with_reducible rfl)
        simp only [List.setIfInBounds_toArray, List.set_cons_zero, List.set_cons_succ]
        refine take_yes 9 16 rfl rfl (by kernel_rfl) (by kernel_rfl) (by kernel_rfl) (fun _ _ _ h => h) (by assumption) (by rfl) (v := ?_) ?_ ?_
        rotate_left 1
        · (intro w hSw; (try dsimp only at hSw); go_simp; try with_reducible rfl)
        simp only [List.setIfInBounds_toArray, List.set_cons_zero, List.set_cons_succ]
        refine take_yes 10 17 rfl rfl (by kernel_rfl) (by kernel_rfl) (by kernel_rfl) (fun _ _ _ h => h) (by assumption) (by rfl) (v := ?_) ?_ ?_
        rotate_left 1
        · (intro w hSw; (try dsimp only at hSw); go_simp; try with_reducible rfl)
        simp only [List.setIfInBounds_toArray, List.set_cons_zero, List.set_cons_succ]
        refine take_yes 11 18 rfl rfl (by kernel_rfl) (by kernel_rfl) (by kernel_rfl) (fun _ _ _ h => h) (by assumption) (by rfl) (v := ?_) ?_ ?_
        rotate_left 1
        · (intro w hSw; (try dsimp only at hSw); go_simp; try with_reducible rfl)
        simp only [List.setIfInBounds_toArray, List.set_cons_zero, List.set_cons_succ]
        refine take_no 12 19 rfl rfl (by kernel_rfl) (by kernel_rfl) (by kernel_rfl) (fun _ _ _ h => h) (by assumption) (by rfl) ?_
        simp only [List.setIfInBounds_toArray, List.set_cons_zero, List.set_cons_succ]
        refine take_no 13 20 rfl rfl (by kernel_rfl) (by kernel_rfl) (by kernel_rfl) (fun _ _ _ h => h) (by assumption) (by rfl) ?_
        simp only [List.setIfInBounds_toArray, List.set_cons_zero, List.set_cons_succ]
        refine take_no 14 21 rfl rfl (by kernel_rfl) (by kernel_rfl) (by kernel_rfl) (fun _ _ _ h => h) (by assumption) (by rfl) ?_
        simp only [List.setIfInBounds_toArray, List.set_cons_zero, List.set_cons_succ]
        refine take_no 15 22 rfl rfl (by kernel_rfl) (by kernel_rfl) (by kernel_rfl) (fun _ _ _ h => h) (by assumption) (by rfl) ?_
        simp only [List.setIfInBounds_toArray, List.set_cons_zero, List.set_cons_succ]
        refine take_no 16 23 rfl rfl (by kernel_rfl) (by kernel_rfl) (by kernel_rfl) (fun _ _ _ h => h) (by assumption) (by rfl) ?_
        simp only [List.setIfInBounds_toArray, List.set_cons_zero, List.set_cons_succ]
        refine take_no 17 24 rfl rfl (by kernel_rfl) (by kernel_rfl) (by kernel_rfl) (fun _ _ _ h => h) (by assumption) (by rfl) ?_
        simp only [List.setIfInBounds_toArray, List.set_cons_zero, List.set_cons_succ]
        refine take_yes 18 25 rfl rfl (by kernel_rfl) (by kernel_rfl) (by kernel_rfl) (fun _ _ _ h => h) (by assumption) (by rfl) (v := ?_) ?_ ?_
        rotate_left 1
        · (intro w hSw; (try dsimp only at hSw); go_simp; try with_reducible rfl)
        simp only [List.setIfInBounds_toArray, List.set_cons_zero, List.set_cons_succ]
        refine take_yes 19 26 rfl rfl (by kernel_rfl) (by kernel_rfl) (by kernel_rfl) (fun _ _ _ h => h) (by assumption) (by rfl) (v := ?_) ?_ ?_
        rotate_left 1
        · (intro w hSw; (try dsimp only at hSw); go_simp; try with_reducible rfl)
        simp only [List.setIfInBounds_toArray, List.set_cons_zero, List.set_cons_succ]
        refine take_no 20 27 rfl rfl (by kernel_rfl) (by kernel_rfl) (by kernel_rfl) (fun _ _ _ h => h) (by assumption) (by rfl) ?_
        simp only [List.setIfInBounds_toArray, List.set_cons_zero, List.set_cons_succ]
        refine take_no 21 28 rfl rfl (by kernel_rfl) (by kernel_rfl) (by kernel_rfl) (fun _ _ _ h => h) (by assumption) (by rfl) ?_
        simp only [List.setIfInBounds_toArray, List.set_cons_zero, List.set_cons_succ]
        refine take_no 22 29 rfl rfl (by kernel_rfl) (by kernel_rfl) (by kernel_rfl) (fun _ _ _ h => h) (by assumption) (by rfl) ?_
        simp only [List.setIfInBounds_toArray, List.set_cons_zero, List.set_cons_succ]
        refine take_no 23 30 rfl rfl (by kernel_rfl) (by kernel_rfl) (by kernel_rfl) (fun _ _ _ h => h) (by assumption) (by rfl) ?_
        simp only [List.setIfInBounds_toArray, List.set_cons_zero, List.set_cons_succ]
        refine take_no 24 31 rfl rfl (by kernel_rfl) (by kernel_rfl) (by kernel_rfl) (fun _ _ _ h => h) (by assumption) (by rfl) ?_
        simp only [List.setIfInBounds_toArray, List.set_cons_zero, List.set_cons_succ]
        refine take_no 25 32 rfl rfl (by kernel_rfl) (by kernel_rfl) (by kernel_rfl) (fun _ _ _ h => h) (by assumption) (by rfl) ?_
        simp only [List.setIfInBounds_toArray, List.set_cons_zero, List.set_cons_succ]
        refine take_no 26 33 rfl rfl (by kernel_rfl) (by kernel_rfl) (by kernel_rfl) (fun _ _ _ h => h) (by assumption) (by rfl) ?_
        simp only [List.setIfInBounds_toArray, List.set_cons_zero, List.set_cons_succ]
        refine take_no 27 34 rfl rfl (by kernel_rfl) (by kernel_rfl) (by kernel_rfl) (fun _ _ _ h => h) (by assumption) (by rfl) ?_
        simp only [List.setIfInBounds_toArray, List.set_cons_zero, List.set_cons_succ]
        refine take_no 28 35 rfl rfl (by kernel_rfl) (by kernel_rfl) (by kernel_rfl) (fun _ _ _ h => h) (by assumption) (by rfl) ?_
        simp only [List.setIfInBounds_toArray, List.set_cons_zero, List.set_cons_succ]
        refine take_no 29 36 rfl rfl (by kernel_rfl) (by kernel_rfl) (by kernel_rfl) (fun _ _ _ h => h) (by assumption) (by rfl) ?_
        simp only [List.setIfInBounds_toArray, List.set_cons_zero, List.set_cons_succ]
        refine take_no 30 37 rfl rfl (by kernel_rfl) (by kernel_rfl) (by kernel_rfl) (fun _ _ _ h => h) (by assumption) (by rfl) ?_
        simp only [List.setIfInBounds_toArray, List.set_cons_zero, List.set_cons_succ]
        refine take_yes 31 38 rfl rfl (by kernel_rfl) (by kernel_rfl) (by kernel_rfl) (fun _ _ _ h => h) (by assumption) (by rfl) (v := ?_) ?_ ?_
        rotate_left 1
        · (intro w hSw; (try dsimp only at hSw); go_simp; try with_reducible rfl)
        simp only [List.setIfInBounds_toArray, List.set_cons_zero, List.set_cons_succ]
        refine take_yes 32 6 rfl rfl (by kernel_rfl) (by kernel_rfl) (by kernel_rfl) (fun _ _ _ h => h) (by assumption) (by rfl) (v := ?_) ?_ ?_
        rotate_left 1
        · (intro w hSw; (try dsimp only at hSw); go_simp; try with_reducible rfl)
        simp only [List.setIfInBounds_toArray, List.set_cons_zero, List.set_cons_succ]
        refine wpAnyH_done (by kernel_rfl) ?_ _
        have HF : Hid (CV = false) := Lib.hid (by rw [HCV.out, decide_eq_false hwn]; rfl)
        go_wp2
        go_ret
        exact ⟨by rw [HF.out]; rfl, H2.out.2.2.2⟩
end Go.Proofs.YtlkgeifmppadmaaGreat
namespace Go.Proofs.YtlkgeifmppadmaaGreat
set_option linter.unusedVariables false

structure Ent where
  tm : Int
  ord : Int
  wh : Int
  deriving DecidableEq
def zE : Ent := ⟨0, 0, 0⟩
def cmpE (a b : Ent) : Int := if a.tm < b.tm ∨ (a.tm = b.tm ∧ a.ord < b.ord) then -1 else if a = b then 0 else 1
def Ent.le (a b : Ent) : Prop := a.tm < b.tm ∨ (a.tm = b.tm ∧ a.ord ≤ b.ord)
theorem cmpE_neg (a b : Ent) : cmpE a b < 0 ↔ ¬ b.le a := by
  unfold cmpE Ent.le
  split
  · constructor <;> intro _ <;> omega
  · split <;> constructor <;> intro h <;> omega
theorem le_refl' (a : Ent) : a.le a := .inr ⟨rfl, Int.le_refl _⟩
theorem le_trans' {a b c : Ent} (h : a.le b) (k : b.le c) : a.le c := by unfold Ent.le at *; omega
theorem le_total' {a b : Ent} (h : ¬ a.le b) : b.le a := by unfold Ent.le at *; omega

def gE (l : List Ent) (i : Nat) : Ent := l.getD i zE
theorem gE_at {l : List Ent} {i : Nat} (h : i < l.length) : gE l i = l[i] := by simp [gE, List.getD_eq_getElem?_getD, List.getElem?_eq_getElem h]
theorem gE_set (l : List Ent) (i : Nat) (x : Ent) (k : Nat) (hi : i < l.length) : gE (l.set i x) k = if k = i then x else gE l k := by
  unfold gE
  rw [List.getD_eq_getElem?_getD, List.getD_eq_getElem?_getD, List.getElem?_set]
  by_cases h : i = k
  · subst h; simp [hi]
  · rw [if_neg h, if_neg (fun e => h e.symm)]
def sw (l : List Ent) (i j : Nat) : List Ent := (l.set i (gE l j)).set j (gE l i)
theorem sw_length (l : List Ent) (i j : Nat) : (sw l i j).length = l.length := by simp [sw]
theorem gE_sw (l : List Ent) (i j k : Nat) (hi : i < l.length) (hj : j < l.length) : gE (sw l i j) k = if k = j then gE l i else if k = i then gE l j else gE l k := by
  unfold sw
  rw [gE_set _ _ _ _ (by simpa using hj), gE_set _ _ _ _ hi]
theorem sw_perm (l : List Ent) (i j : Nat) (hi : i < l.length) (hj : j < l.length) : (sw l i j).Perm l := by
  unfold sw
  rw [gE_at hi, gE_at hj]
  exact List.set_set_perm hi hj

/-! ### Up -/
def HeapFrom (l : List Ent) (i0 n : Nat) : Prop := ∀ k, 0 < k → k < n → i0 ≤ (k - 1) / 2 → (gE l ((k - 1) / 2)).le (gE l k)
def UpInv (l : List Ent) (j : Nat) : Prop :=
  (∀ k, 0 < k → k < l.length → k ≠ j → (gE l ((k - 1) / 2)).le (gE l k)) ∧ (∀ k, 0 < k → k < l.length → (k - 1) / 2 = j → 0 < j → (gE l ((j - 1) / 2)).le (gE l k))
theorem up_start {l : List Ent} (x : Ent) (h : HeapFrom l 0 l.length) : UpInv (l ++ [x]) l.length := by
  have e : ∀ k, k < l.length → gE (l ++ [x]) k = gE l k := fun k hk => by simp [gE, List.getD_eq_getElem?_getD, List.getElem?_append_left hk]
  constructor
  · intro k h0 h1 hne
    rw [List.length_append, List.length_singleton] at h1
    rw [e k (by omega), e ((k - 1) / 2) (by omega)]
    exact h k h0 (by omega) (by omega)
  · intro k h0 h1 h2 h3
    rw [List.length_append, List.length_singleton] at h1
    omega
theorem up_step {l : List Ent} {j : Nat} (hj : j < l.length) (h0 : 0 < j) (h : UpInv l j) (hlt : ¬ (gE l ((j - 1) / 2)).le (gE l j)) : UpInv (sw l ((j - 1) / 2) j) ((j - 1) / 2) := by
  have hi : (j - 1) / 2 < l.length := by omega
  generalize hI : (j - 1) / 2 = i at *
  have hlt' := le_total' hlt
  constructor
  · intro k k0 k1 hne
    rw [sw_length] at k1
    rw [gE_sw l i j _ hi hj, gE_sw l i j _ hi hj]
    by_cases e1 : k = j
    · subst e1
      rw [if_pos rfl, if_neg (by omega), if_pos hI]
      exact hlt'
    · rw [if_neg e1, if_neg hne]
      by_cases e2 : (k - 1) / 2 = j
      · rw [if_pos e2]
        have := h.2 k k0 k1 e2 h0
        rw [hI] at this
        exact this
      · rw [if_neg e2]
        by_cases e3 : (k - 1) / 2 = i
        · rw [if_pos e3]
          have := h.1 k k0 k1 e1
          rw [e3] at this
          exact le_trans' hlt' this
        · rw [if_neg e3]
          exact h.1 k k0 k1 e1
  · intro k k0 k1 e hi0
    rw [sw_length] at k1
    have h3 := h.1 i hi0 hi (by omega)
    rw [gE_sw l i j _ hi hj, gE_sw l i j _ hi hj, if_neg (by omega), if_neg (by omega)]
    by_cases e1 : k = j
    · rw [if_pos e1]; exact h3
    · rw [if_neg e1, if_neg (by omega)]
      have := h.1 k k0 k1 e1
      rw [e] at this
      exact le_trans' h3 this
theorem up_end {l : List Ent} {j : Nat} (h : UpInv l j) (hd : j = 0 ∨ (gE l ((j - 1) / 2)).le (gE l j)) : HeapFrom l 0 l.length := by
  intro k k0 k1 _
  by_cases e : k = j
  · subst e
    rcases hd with hd | hd
    · omega
    · exact hd
  · exact h.1 k k0 k1 e

/-! ### Down -/
def DownInv (l : List Ent) (i0 i n : Nat) : Prop :=
  (∀ k, 0 < k → k < n → i0 ≤ (k - 1) / 2 → (k - 1) / 2 ≠ i → (gE l ((k - 1) / 2)).le (gE l k)) ∧ (∀ k, 0 < k → k < n → (k - 1) / 2 = i → i0 < i → (i - 1) / 2 ≥ i0 → (gE l ((i - 1) / 2)).le (gE l k))
theorem down_start {l : List Ent} {i0 n : Nat} (h : HeapFrom l (i0 + 1) n) : DownInv l i0 i0 n :=
  ⟨fun k k0 k1 h1 hne => h k k0 k1 (by omega), fun k k0 k1 e h1 => by omega⟩
/-- j: the least child of i. -/
theorem down_step {l : List Ent} {i0 i j n : Nat} (hn : n ≤ l.length) (hj : j < n) (hj0 : 0 < j) (hp : (j - 1) / 2 = i) (hi0 : i0 ≤ i) (h : DownInv l i0 i n)
    (hmin : ∀ k, 0 < k → k < n → (k - 1) / 2 = i → (gE l j).le (gE l k)) (hlt : ¬ (gE l i).le (gE l j)) : DownInv (sw l i j) i0 j n := by
  have hi : i < l.length := by omega
  have hjl : j < l.length := by omega
  have hlt' := le_total' hlt
  constructor
  · intro k k0 k1 h1 hne
    rw [gE_sw l i j _ hi hjl, gE_sw l i j _ hi hjl, if_neg hne]
    by_cases e1 : (k - 1) / 2 = i
    · rw [if_pos e1]
      by_cases e2 : k = j
      · rw [if_pos e2]; exact hlt'
      · rw [if_neg e2, if_neg (by omega)]
        exact hmin k k0 k1 e1
    · rw [if_neg e1]
      by_cases e2 : k = j
      · subst e2; exact absurd hp e1
      · rw [if_neg e2]
        by_cases e3 : k = i
        · rw [if_pos e3]
          subst e3
          exact h.2 j hj0 hj hp (by omega) h1
        · rw [if_neg e3]
          exact h.1 k k0 k1 h1 e1
  · intro k k0 k1 e h1 h2
    rw [gE_sw l i j _ hi hjl, gE_sw l i j _ hi hjl, hp, if_neg (by omega), if_pos rfl, if_neg (by omega), if_neg (by omega)]
    have := h.1 k k0 k1 (by omega) (by omega)
    rw [e] at this
    exact this
theorem down_end {l : List Ent} {i0 i n : Nat} (h : DownInv l i0 i n) (hd : ∀ k, 0 < k → k < n → (k - 1) / 2 = i → (gE l i).le (gE l k)) : HeapFrom l i0 n := by
  intro k k0 k1 h1
  by_cases e : (k - 1) / 2 = i
  · rw [e]; exact hd k k0 k1 e
  · exact h.1 k k0 k1 h1 e

theorem heap_min {l : List Ent} (h : HeapFrom l 0 l.length) : ∀ k, k < l.length → (gE l 0).le (gE l k) := by
  intro k
  induction k using Nat.strongRecOn with
  | _ k ih =>
    intro hk
    by_cases e : k = 0
    · subst e; exact le_refl' _
    · exact le_trans' (ih ((k - 1) / 2) (by omega) (by omega)) (h k (by omega) hk (by omega))
end Go.Proofs.YtlkgeifmppadmaaGreat
