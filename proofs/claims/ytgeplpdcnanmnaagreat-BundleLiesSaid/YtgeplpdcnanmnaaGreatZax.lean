/- The program's checkpoints: Verify. Conditions: as each theorem states them. -/
import Derived.Test.YtgeplpdcnanmnaaGreatZaw
import Derived.Test.YtgeplpdcnanmnaaGreatZaa
import Derived.Deep.RegionHeld3
namespace Go.Proofs.YtgeplpdcnanmnaaGreat
open Go.RowKit
set_option linter.unusedVariables false
set_option linter.unusedSimpArgs false

set_option maxRecDepth 100000 in
set_option maxHeartbeats 2000000 in
theorem pckverify_no (vp v : Value) (pub : List UInt8) (s : SgD) (hpub : pub.length ≤ 1000000000) (hr : s.ck.root.length ≤ 100000000) (hs : SmallSig s.sig) (w : World) (hvp : Bys w vp pub) (hv : SgV w v s) (hck0 : ckB s.ck = false) :
  Calls Tryz.prog 52 #[vp, v] w fun e w' => e = .returned (.bool (ckVerB pub s)) ∧ Below w.heap.size w w' := by
 obtain ⟨r, p, q, rfl, h1, h2, h3⟩ := hv
 obtain ⟨R, cr, rfl⟩ := h1.form
 obtain ⟨P, cp, rfl⟩ := h2.form
 obtain ⟨Q, cq, rfl⟩ := h3.form
 obtain ⟨U, cu, rfl⟩ := hvp.form
 have HX := Lib.hid (And.intro h1 (And.intro h2 (And.intro h3 hvp)))
 have HCV : Hid (ckVerB pub s = (ckB s.ck && verifyB pub (bodyS tagCk s.ck) s.sig)) := Lib.hid rfl
 have hbl := bodyS_length tagCk s.ck
 have HBL : Hid ((bodyS tagCk s.ck).length ≤ 1000000000) := Lib.hid (by have : tagCk.length = 16 := rfl; omega)
 clear h1 h2 h3 hvp hbl
 generalize ckVerB pub s = CV at *
 obtain ⟨⟨num, root⟩, sg⟩ := s
 have HCK0 := Lib.hid hck0
 clear hck0
 obtain ⟨hs1, hs2, hs3, hs4⟩ := hs
 have HS := Lib.hid (And.intro hs1 (And.intro hs2 (And.intro hs3 hs4)))
 clear hs1 hs2 hs3 hs4
 have hrl : root.length ≤ 1000000000 := by have : root.length ≤ 100000000 := hr; omega
 have HBD := Lib.hid (fun (wz : World) (v : Value) (hz : CkV wz v ⟨num, root⟩) => pckbody_any v ⟨num, root⟩ hr wz hz)
 have HRT := Lib.hid (fun (wz : World) (v : Value) (hz : CkV wz v ⟨num, root⟩) => pckright_any v ⟨num, root⟩ hrl wz hz)
 have HVF := Lib.hid (fun (wz : World) (vp vm v : Value) (z1 : Bys wz vp pub) (z2 : Bys wz vm (bodyS tagCk ⟨num, root⟩)) (z3 : SigV wz v sg) => pverify_any vp vm v pub (bodyS tagCk ⟨num, root⟩) sg hpub HBL.out HS.out.1 HS.out.2.1 wz z1 z2 z3)
 obtain ⟨ix, Ps, Qs⟩ := sg
 go_enter Tryz.func52, Tryz.ntmps52
 have hk0 := Blk.new w 39 [.int .i64 num, .slice R root.length cr, .int .i64 ix, .slice P Ps.length cp, .slice Q Qs.length cq]
 have hb0 : Below w.heap.size w (w.alloc (.cells #[.int .i64 num, .slice R root.length cr, .int .i64 ix, .slice P Ps.length cp, .slice Q Qs.length cq] 39)) := (Below.refl w.heap.size w).alloc (Nat.le_refl _) _
 have HW := Lib.hid (And.intro hk0 hb0)
 clear hk0 hb0
 have HCB : Hid (ckB ⟨num, root⟩ = ckB ⟨num, root⟩) := Lib.hid rfl
 generalize hvb : verifyB pub (bodyS tagCk ⟨num, root⟩) ⟨ix, Ps, Qs⟩ = VB at *
 generalize hbo : bodyS tagCk ⟨num, root⟩ = BO at *
 clear hvb hbo HCB
 have hck' : ckB ⟨num, root⟩ = false := HCK0.out
 rw [hck'] at HCV HRT
 go_wp2
 refine code_at (fun w1 => Blk w1 w.heap.size 39 [.int .i64 num, .slice R root.length cr, .int .i64 ix, .slice P Ps.length cp, .slice Q Qs.length cq] ∧ Below w.heap.size w w1) HW.out ?_
 intro w1 hw1
 have HW1 := Lib.hid hw1
 clear hw1 HW
 have hwlt := HW1.out.1.lt
 have hw1 := HW1.out.2.size
 have c0 := HW1.out.1.cell 0 _ rfl
 have c1 := HW1.out.1.cell 1 _ rfl
 refine wp_region_held_drew (S := (fun w' => w'.cell? ⟨w.heap.size, 0, none⟩ = some (.int .i64 num) ∧ w'.cell? ⟨w.heap.size, 1, none⟩ = some (.slice R root.length cr))) (by kernel_rfl) ?_ (fun hHeld => ?_)
 ·exact ⟨c0, c1⟩
 refine ty 0 5 rfl rfl ?_; simp only [sa, sb, sc]
 refine ty 1 6 rfl rfl ?_; simp only [sa, sb, sc]
 refine rd 2 (by kernel_rfl) rfl (fun K hK => ?_)
 (go_simp; go_at_call 132; refine (HRT.out w1.drew _ ⟨_, rfl, HX.out.1.below HW1.out.2.drew⟩).mono ?_; rintro e w2 ⟨rfl, h2⟩; have hb2 : Below w1.heap.size w1 w2 := ⟨h2.os, h2.tape, h2.output, h2.size, h2.block⟩; have d0 := (hb2.cell (p := ⟨w.heap.size, 0, none⟩) hwlt).trans c0; have d1 := (hb2.cell (p := ⟨w.heap.size, 1, none⟩) hwlt).trans c1; have H2 := Lib.hid hb2; clear h2 hb2)
 go_wp2_with fail
 refine hK.out _ _ ⟨d0, d1⟩ (fun hHeld2 => ?_)
 clear hK K; try simp only [Act.put, sa, sb, sc]
 refine ty 3 8 rfl rfl ?_; simp only [sa, sb, sc]
 refine tn 4 9 rfl rfl ?_; simp only [sa, sb, sc]
 refine tn 5 10 rfl rfl ?_; simp only [sa, sb, sc]
 refine tn 6 11 rfl rfl ?_; simp only [sa, sb, sc]
 refine tn 7 12 rfl rfl ?_; simp only [sa, sb, sc]
 refine tn 8 13 rfl rfl ?_; simp only [sa, sb, sc]
 refine tn 9 14 rfl rfl ?_; simp only [sa, sb, sc]
 refine tn 10 15 rfl rfl ?_; simp only [sa, sb, sc]
 refine ty 11 16 rfl rfl ?_; simp only [sa, sb, sc]
 refine ty 12 4 rfl rfl ?_; simp only [sa, sb, sc]
 refine wpAnyH_done (by kernel_rfl) ?_ _
 all_goals
  go_wp2
  go_ret
  exact ⟨by rw [HCV.out]; rfl, HW1.out.2.trans (H2.out.mono hw1)⟩

set_option maxRecDepth 100000 in
set_option maxHeartbeats 2000000 in
theorem pckverify_yes (vp v : Value) (pub : List UInt8) (s : SgD) (hpub : pub.length ≤ 1000000000) (hr : s.ck.root.length ≤ 100000000) (hs : SmallSig s.sig) (w : World) (hvp : Bys w vp pub) (hv : SgV w v s) (hck0 : ckB s.ck = true) :
  Calls Tryz.prog 52 #[vp, v] w fun e w' => e = .returned (.bool (ckVerB pub s)) ∧ Below w.heap.size w w' := by
 obtain ⟨r, p, q, rfl, h1, h2, h3⟩ := hv
 obtain ⟨R, cr, rfl⟩ := h1.form
 obtain ⟨P, cp, rfl⟩ := h2.form
 obtain ⟨Q, cq, rfl⟩ := h3.form
 obtain ⟨U, cu, rfl⟩ := hvp.form
 have HX := Lib.hid (And.intro h1 (And.intro h2 (And.intro h3 hvp)))
 have HCV : Hid (ckVerB pub s = (ckB s.ck && verifyB pub (bodyS tagCk s.ck) s.sig)) := Lib.hid rfl
 have hbl := bodyS_length tagCk s.ck
 have HBL : Hid ((bodyS tagCk s.ck).length ≤ 1000000000) := Lib.hid (by have : tagCk.length = 16 := rfl; omega)
 clear h1 h2 h3 hvp hbl
 generalize ckVerB pub s = CV at *
 obtain ⟨⟨num, root⟩, sg⟩ := s
 have HCK0 := Lib.hid hck0
 clear hck0
 obtain ⟨hs1, hs2, hs3, hs4⟩ := hs
 have HS := Lib.hid (And.intro hs1 (And.intro hs2 (And.intro hs3 hs4)))
 clear hs1 hs2 hs3 hs4
 have hrl : root.length ≤ 1000000000 := by have : root.length ≤ 100000000 := hr; omega
 have HBD := Lib.hid (fun (wz : World) (v : Value) (hz : CkV wz v ⟨num, root⟩) => pckbody_any v ⟨num, root⟩ hr wz hz)
 have HRT := Lib.hid (fun (wz : World) (v : Value) (hz : CkV wz v ⟨num, root⟩) => pckright_any v ⟨num, root⟩ hrl wz hz)
 have HVF := Lib.hid (fun (wz : World) (vp vm v : Value) (z1 : Bys wz vp pub) (z2 : Bys wz vm (bodyS tagCk ⟨num, root⟩)) (z3 : SigV wz v sg) => pverify_any vp vm v pub (bodyS tagCk ⟨num, root⟩) sg hpub HBL.out HS.out.1 HS.out.2.1 wz z1 z2 z3)
 obtain ⟨ix, Ps, Qs⟩ := sg
 go_enter Tryz.func52, Tryz.ntmps52
 have hk0 := Blk.new w 39 [.int .i64 num, .slice R root.length cr, .int .i64 ix, .slice P Ps.length cp, .slice Q Qs.length cq]
 have hb0 : Below w.heap.size w (w.alloc (.cells #[.int .i64 num, .slice R root.length cr, .int .i64 ix, .slice P Ps.length cp, .slice Q Qs.length cq] 39)) := (Below.refl w.heap.size w).alloc (Nat.le_refl _) _
 have HW := Lib.hid (And.intro hk0 hb0)
 clear hk0 hb0
 have HCB : Hid (ckB ⟨num, root⟩ = ckB ⟨num, root⟩) := Lib.hid rfl
 generalize hvb : verifyB pub (bodyS tagCk ⟨num, root⟩) ⟨ix, Ps, Qs⟩ = VB at *
 generalize hbo : bodyS tagCk ⟨num, root⟩ = BO at *
 clear hvb hbo HCB
 have hck : ckB ⟨num, root⟩ = true := HCK0.out
 rw [hck] at HCV HRT
 go_wp2
 refine code_at (fun w1 => Blk w1 w.heap.size 39 [.int .i64 num, .slice R root.length cr, .int .i64 ix, .slice P Ps.length cp, .slice Q Qs.length cq] ∧ Below w.heap.size w w1) HW.out ?_
 intro w1 hw1
 have HW1 := Lib.hid hw1
 clear hw1 HW
 have hwlt := HW1.out.1.lt
 have hw1 := HW1.out.2.size
 have c0 := HW1.out.1.cell 0 _ rfl
 have c1 := HW1.out.1.cell 1 _ rfl
 have c2 := HW1.out.1.cell 2 _ rfl
 have c3 := HW1.out.1.cell 3 _ rfl
 have c4 := HW1.out.1.cell 4 _ rfl
 go_region_held3 (fun w' => w'.cell? ⟨w.heap.size, 0, none⟩ = some (.int .i64 num) ∧ w'.cell? ⟨w.heap.size, 1, none⟩ = some (.slice R root.length cr) ∧ w'.cell? ⟨w.heap.size, 2, none⟩ = some (.int .i64 ix) ∧ w'.cell? ⟨w.heap.size, 3, none⟩ = some (.slice P Ps.length cp) ∧ w'.cell? ⟨w.heap.size, 4, none⟩ = some (.slice Q Qs.length cq))
  (first
   | go_keep
   | exact ⟨c0, c1, c2, c3, c4⟩
   | exact ⟨d0, d1, d2, d3, d4⟩
   | exact ⟨e0, e1, e2, e3, e4⟩
   | exact ⟨g0, g1, g2, g3, g4⟩)
  (first
   | (go_simp; go_at_call 132; refine (HRT.out w1.drew _ ⟨_, rfl, HX.out.1.below HW1.out.2.drew⟩).mono ?_; rintro e w2 ⟨rfl, h2⟩; have hb2 : Below w1.heap.size w1 w2 := ⟨h2.os, h2.tape, h2.output, h2.size, h2.block⟩; have d0 := (hb2.cell (p := ⟨w.heap.size, 0, none⟩) hwlt).trans c0; have d1 := (hb2.cell (p := ⟨w.heap.size, 1, none⟩) hwlt).trans c1; have d2 := (hb2.cell (p := ⟨w.heap.size, 2, none⟩) hwlt).trans c2; have d3 := (hb2.cell (p := ⟨w.heap.size, 3, none⟩) hwlt).trans c3; have d4 := (hb2.cell (p := ⟨w.heap.size, 4, none⟩) hwlt).trans c4; have H2 := Lib.hid hb2; clear h2 hb2)
   | (go_simp; go_at_call 134; refine (HBD.out w2 _ ⟨_, rfl, HX.out.1.below (HW1.out.2.trans (H2.out.mono hw1))⟩).mono ?_; rintro e w3 ⟨v3, rfl, h3, h4⟩; obtain ⟨A3, k3, rfl⟩ := h3.form; have hb3 := H2.out.trans (h4.mono H2.out.size); have e0 := (hb3.cell (p := ⟨w.heap.size, 0, none⟩) hwlt).trans c0; have e1 := (hb3.cell (p := ⟨w.heap.size, 1, none⟩) hwlt).trans c1; have e2 := (hb3.cell (p := ⟨w.heap.size, 2, none⟩) hwlt).trans c2; have e3 := (hb3.cell (p := ⟨w.heap.size, 3, none⟩) hwlt).trans c3; have e4 := (hb3.cell (p := ⟨w.heap.size, 4, none⟩) hwlt).trans c4; have H3 := Lib.hid (And.intro h3 hb3); clear h3 h4 hb3)
   | (go_simp; go_at_call 133; refine (HVF.out w3 _ _ _ (HX.out.2.2.2.below (HW1.out.2.trans (H3.out.2.mono hw1))) H3.out.1 ⟨_, _, rfl, HX.out.2.1.below (HW1.out.2.trans (H3.out.2.mono hw1)), HX.out.2.2.1.below (HW1.out.2.trans (H3.out.2.mono hw1))⟩).mono ?_; rintro e w4 ⟨rfl, h4⟩; have hb4 := H3.out.2.trans (h4.mono H3.out.2.size); have g0 := (hb4.cell (p := ⟨w.heap.size, 0, none⟩) hwlt).trans c0; have g1 := (hb4.cell (p := ⟨w.heap.size, 1, none⟩) hwlt).trans c1; have g2 := (hb4.cell (p := ⟨w.heap.size, 2, none⟩) hwlt).trans c2; have g3 := (hb4.cell (p := ⟨w.heap.size, 3, none⟩) hwlt).trans c3; have g4 := (hb4.cell (p := ⟨w.heap.size, 4, none⟩) hwlt).trans c4; have H4 := Lib.hid hb4; clear h4 hb4))
 go_wp2
 go_ret
 exact ⟨by rw [HCV.out]; rfl, HW1.out.2.trans (H4.out.mono hw1)⟩

theorem pckverify_any (vp v : Value) (pub : List UInt8) (s : SgD) (hpub : pub.length ≤ 1000000000) (hr : s.ck.root.length ≤ 100000000) (hs : SmallSig s.sig) (w : World) (hvp : Bys w vp pub) (hv : SgV w v s) :
  Calls Tryz.prog 52 #[vp, v] w fun e w' => e = .returned (.bool (ckVerB pub s)) ∧ Below w.heap.size w w' := by
 cases h : ckB s.ck with
 | true => exact pckverify_yes vp v pub s hpub hr hs w hvp hv h
 | false => exact pckverify_no vp v pub s hpub hr hs w hvp hv h
end Go.Proofs.YtgeplpdcnanmnaaGreat
