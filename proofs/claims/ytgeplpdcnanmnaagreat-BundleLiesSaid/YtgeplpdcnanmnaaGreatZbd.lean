/- The program's cosignatures: Verify. The reference's policies. The reference's trees: Split, Root, Leaves. Conditions: as each theorem states them. -/
import Derived.Test.YtgeplpdcnanmnaaGreatZax
import Derived.Test.YtgeplpdcnanmnaaGreatZbc
import Derived.Test.YtgeplpdcnanmnaaGreatZaj
import Derived.Test.YtgeplpdcnanmnaaGreatZam
import Derived.Test.YtgeplpdcnanmnaaGreatZbb
import Derived.Test.YtgeplpdcnanmnaaGreatZaa
import Derived.Test.YtgeplpdcnanmnaaGreatZao
import Derived.Test.YtgeplpdcnanmnaaGreatZag
import Derived.Test.YtgeplpdcnanmnaaGreatZba
import Derived.Test.YtgeplpdcnanmnaaGreatZay
import Derived.Deep.DeepCutAuto
namespace Go.Proofs.YtgeplpdcnanmnaaGreat
open Go.RowKit
set_option linter.unusedVariables false
set_option linter.unusedSimpArgs false

def cgVerB (p : PolD) (c : CkD) (g : CgD) : Bool := polB p && (ckB c && (decide (0 ≤ g.wit) && (decide (g.wit < (p.wits.length : Int)) && verifyB (p.wits.getD g.wit.toNat []) (bodyS tagCo c) g.sig)))
theorem Rws.get {w : World} {A : Option Addr} {n c : Nat} {ls : List (List UInt8)} (h : Rws w (.slice A n c) ls) (i : Nat) (hi : i < ls.length) : ∃ g o u, A = some ⟨g, o, none⟩ ∧ g < w.heap.size ∧ n = ls.length ∧ ls.length ≤ c ∧ w.cell? ⟨g, o + i, none⟩ = some u ∧ Bys w u (ls.getD i []) := by
 obtain ⟨us, h1, h2⟩ := h
 obtain ⟨u, e, hu⟩ := h2 i hi
 obtain ⟨g, o, e1, e2, h3, h4, _, h5⟩ := h1.place (by omega)
 exact ⟨g, o, u, e1, h3, e2, h4, h5 i _ e, by rw [List.getD_eq_getElem?_getD, List.getElem?_eq_getElem hi]; exact hu⟩
set_option maxRecDepth 100000 in
set_option maxHeartbeats 8000000 in
theorem pcgverify_any (vp vc vg : Value) (p : PolD) (c : CkD) (g : CgD) (hp : SmallPol p) (hr : c.root.length ≤ 100000000) (hs : SmallSig g.sig) (w : World) (hvp : PolV w vp p) (hvc : CkV w vc c) (hvg : CgV w vg g) :
  Calls Tryz.prog 183 #[vp, vc, vg] w fun e w' => e = .returned (.bool (cgVerB p c g)) ∧ Below w.heap.size w w' := by
 have HPR := Lib.hid (fun (wz : World) (v : Value) (hz : PolV wz v p) => coright_any v p hp.1 hp.2.1 hp.2.2.2 wz hz)
 have HCR := Lib.hid (fun (wz : World) (v : Value) (hz : CkV wz v c) => pckright_any v c (by omega) wz hz)
 have HBD := Lib.hid (fun (wz : World) (v : Value) (hz : CkV wz v c) => pckcosign_any v c hr wz hz)
 have HBL : Hid ((bodyS tagCo c).length ≤ 1000000000) := Lib.hid (by have := bodyS_length tagCo c; have : tagCo.length = 17 := rfl; omega)
 have HVF := Lib.hid (fun (pub : List UInt8) (hpub : pub.length ≤ 1000000000) (wz : World) (vp vm v : Value) (z1 : Bys wz vp pub) (z2 : Bys wz vm (bodyS tagCo c)) (z3 : SigV wz v g.sig) => pverify_any vp vm v pub (bodyS tagCo c) g.sig hpub HBL.out hs.1 hs.2.1 wz z1 z2 z3)
 have HCV : Hid (cgVerB p c g = (polB p && (ckB c && (decide (0 ≤ g.wit) && (decide (g.wit < (p.wits.length : Int)) && verifyB (p.wits.getD g.wit.toNat []) (bodyS tagCo c) g.sig))))) := Lib.hid rfl
 have HPW : Hid (∀ i, i < p.wits.length → (p.wits.getD i []).length ≤ 1000000000) := Lib.hid (fun i hi => by have := hp.2.2.1 i hi; rw [List.getD_eq_getElem?_getD, List.getElem?_eq_getElem hi]; exact this)
 generalize cgVerB p c g = CV at *
 generalize bodyS tagCo c = BO at *
 clear hp hr hs HBL
 obtain ⟨l, ws, rfl, h1, h2⟩ := hvp
 obtain ⟨L, cl, rfl⟩ := h1.form
 obtain ⟨R, cr, rfl⟩ := h2.form
 obtain ⟨rt, rfl, h3⟩ := hvc
 obtain ⟨T, ct, rfl⟩ := h3.form
 obtain ⟨q1, q2, rfl, h4, h5⟩ := hvg
 obtain ⟨P, cp, rfl⟩ := h4.form
 obtain ⟨Q, cq, rfl⟩ := h5.form
 have HX := Lib.hid (And.intro h1 (And.intro h2 (And.intro h3 (And.intro h4 h5))))
 clear h1 h2 h3 h4 h5
 have hb1 := (Below.refl w.heap.size w).alloc (Nat.le_refl _) (.cells #[.slice L p.log.length cl, .slice R p.wits.length cr, .int .i64 p.quorum] 30)
 have hb2 := hb1.alloc (by simp) (.cells #[.int .i64 c.num, .slice T c.root.length ct] 35)
 have hb3 := hb2.alloc (by simp; omega) (.cells #[.int .i64 g.wit, .int .i64 g.sig.index, .slice P g.sig.parts.length cp, .slice Q g.sig.path.length cq] 89)
 have k1 := ((Blk.new w 30 [.slice L p.log.length cl, .slice R p.wits.length cr, .int .i64 p.quorum]).below ((Below.refl _ _).alloc (Nat.le_refl _) (.cells #[.int .i64 c.num, .slice T c.root.length ct] 35))).below ((Below.refl _ _).alloc (Nat.le_refl _) (.cells #[.int .i64 g.wit, .int .i64 g.sig.index, .slice P g.sig.parts.length cp, .slice Q g.sig.path.length cq] 89))
 have k2 := (Blk.new (w.alloc (.cells #[.slice L p.log.length cl, .slice R p.wits.length cr, .int .i64 p.quorum] 30)) 35 [.int .i64 c.num, .slice T c.root.length ct]).below ((Below.refl _ _).alloc (Nat.le_refl _) (.cells #[.int .i64 g.wit, .int .i64 g.sig.index, .slice P g.sig.parts.length cp, .slice Q g.sig.path.length cq] 89))
 have k3 := Blk.new ((w.alloc (.cells #[.slice L p.log.length cl, .slice R p.wits.length cr, .int .i64 p.quorum] 30)).alloc (.cells #[.int .i64 c.num, .slice T c.root.length ct] 35)) 89 [.int .i64 g.wit, .int .i64 g.sig.index, .slice P g.sig.parts.length cp, .slice Q g.sig.path.length cq]
 rw [show (w.alloc (.cells #[.slice L p.log.length cl, .slice R p.wits.length cr, .int .i64 p.quorum] 30)).heap.size = w.heap.size + 1 by simp] at k2
 rw [show ((w.alloc (.cells #[.slice L p.log.length cl, .slice R p.wits.length cr, .int .i64 p.quorum] 30)).alloc (.cells #[.int .i64 c.num, .slice T c.root.length ct] 35)).heap.size = w.heap.size + 2 by simp] at k3
 have HW := Lib.hid (And.intro k1 (And.intro k2 (And.intro k3 hb3)))
 clear k1 k2 k3 hb1 hb2 hb3
 go_enter Tryz.func183, Tryz.ntmps183
 go_wp2_with fail
 refine (HPR.out _ _ ⟨_, _, rfl, HX.out.1.below HW.out.2.2.2, HX.out.2.1.below HW.out.2.2.2⟩).mono ?_
 rintro e w1 ⟨rfl, h⟩
 have H1 := Lib.hid (And.intro (HW.out.1.below h) (And.intro (HW.out.2.1.below h) (And.intro (HW.out.2.2.1.below h) (HW.out.2.2.2.trans (h.mono (by simp; omega))))))
 clear h
 cases hpb : polB p with
 | false =>
  have HF : Hid (CV = false) := Lib.hid (by rw [HCV.out, hpb]; rfl)
  go_wp2
  go_ret
  exact ⟨by rw [HF.out]; rfl, H1.out.2.2.2⟩
 | true =>
  have HCV1 : Hid (CV = (ckB c && (decide (0 ≤ g.wit) && (decide (g.wit < (p.wits.length : Int)) && verifyB (p.wits.getD g.wit.toNat []) BO g.sig)))) := Lib.hid (by rw [HCV.out, hpb]; rfl)
  clear HCV hpb
  have c10 := H1.out.2.1.cell 0 _ rfl
  have c11 := H1.out.2.1.cell 1 _ rfl
  have l1 := H1.out.2.1.lt
  go_wp2_with fail
  refine (HCR.out _ _ ⟨_, rfl, HX.out.2.2.1.below H1.out.2.2.2⟩).mono ?_
  rintro e w2 ⟨rfl, h⟩
  have H2 := Lib.hid (And.intro (H1.out.1.below h) (And.intro (H1.out.2.1.below h) (And.intro (H1.out.2.2.1.below h) (H1.out.2.2.2.trans (h.mono H1.out.2.2.2.size)))))
  clear h c10 c11 l1
  cases hcb : ckB c with
  | false =>
   have HF : Hid (CV = false) := Lib.hid (by rw [HCV1.out, hcb]; rfl)
   go_wp2
   go_ret
   exact ⟨by rw [HF.out]; rfl, H2.out.2.2.2⟩
  | true =>
   have HCV2 : Hid (CV = (decide (0 ≤ g.wit) && (decide (g.wit < (p.wits.length : Int)) && verifyB (p.wits.getD g.wit.toNat []) BO g.sig))) := Lib.hid (by rw [HCV1.out, hcb]; rfl)
   clear HCV1 hcb
   have e1 := H2.out.1.cell 1 _ rfl
   have e20 := H2.out.2.2.1.cell 0 _ rfl
   have l0 := H2.out.1.lt
   have l2 := H2.out.2.2.1.lt
   by_cases hw0 : 0 ≤ g.wit
   ·by_cases hw1 : g.wit < (p.wits.length : Int)
    ·obtain ⟨wn, hwn⟩ := Int.eq_ofNat_of_zero_le hw0
     have hwl : wn < p.wits.length := by omega
     have HCV3 : Hid (CV = verifyB (p.wits.getD wn []) BO g.sig) := Lib.hid (by rw [HCV2.out, decide_eq_true hw0, decide_eq_true hw1, Bool.true_and, Bool.true_and, hwn, Int.toNat_natCast])
     clear HCV2
     have HWF := Lib.hid (HVF.out (p.wits.getD wn []) (HPW.out wn hwl))
     rw [← HCV3.out] at HWF
     obtain ⟨gr, o, u, rfl, hgr, -, hcap, hcr, hbu⟩ := (HX.out.2.1.below H2.out.2.2.2).get wn hwl
     obtain ⟨U, cu, rfl⟩ := hbu.form
     have HU := Lib.hid hbu
     clear hbu HVF
     generalize (p.wits.getD wn []) = PU at *
     have hwnI : (wn : Int) < (p.wits.length : Int) := by omega
     rw [hwn] at e20 hw0 hw1
     have e11 := H2.out.2.1.cell 1 _ rfl
     have e10 := H2.out.2.1.cell 0 _ rfl
     have l1 := H2.out.2.1.lt
     have e21 := H2.out.2.2.1.cell 1 _ rfl
     have e22 := H2.out.2.2.1.cell 2 _ rfl
     have e23 := H2.out.2.2.1.cell 3 _ rfl
     go_wp2
     refine wp_region_held_drew (S := fun w' => w'.cell? ⟨w.heap.size, 1, none⟩ = some (.slice (some ⟨gr, o, none⟩) p.wits.length cr) ∧ w'.cell? ⟨w.heap.size + 1, 0, none⟩ = some (.int .i64 c.num) ∧ w'.cell? ⟨w.heap.size + 1, 1, none⟩ = some (.slice T c.root.length ct) ∧ w'.cell? ⟨w.heap.size + 2, 0, none⟩ = some (.int .i64 wn) ∧ w'.cell? ⟨w.heap.size + 2, 1, none⟩ = some (.int .i64 g.sig.index) ∧ w'.cell? ⟨w.heap.size + 2, 2, none⟩ = some (.slice P g.sig.parts.length cp) ∧ w'.cell? ⟨w.heap.size + 2, 3, none⟩ = some (.slice Q g.sig.path.length cq) ∧ w'.cell? ⟨gr, o + wn, none⟩ = some (.slice U PU.length cu)) (by kernel_rfl) ?_ (fun hHeld => ?_)
     ·exact ⟨e1, e10, e11, e20, e21, e22, e23, hcr⟩
     refine ty 0 28 rfl rfl ?_; simp only [sa, sb, sc]
     refine ty 1 29 rfl rfl ?_; simp only [sa, sb, sc]
     refine ty 2 30 rfl rfl ?_; simp only [sa, sb, sc]
     refine ty 3 31 rfl rfl ?_; simp only [sa, sb, sc]
     refine ty 4 32 rfl rfl ?_; simp only [sa, sb, sc]
     refine ty 5 33 rfl rfl ?_; simp only [sa, sb, sc]
     refine ty 6 34 rfl rfl ?_; simp only [sa, sb, sc]
     refine ty 8 36 rfl rfl ?_; simp only [sa, sb, sc]
     refine ty 9 37 rfl rfl ?_; simp only [sa, sb, sc]
     refine rd 7 (by kernel_rfl) rfl (fun K hK => ?_)
     go_simp
     go_at_call 203
     refine (HBD.out w2.drew _ ⟨_, rfl, HX.out.2.2.1.below H2.out.2.2.2.drew⟩).mono ?_
     rintro e w3 ⟨v3, rfl, h3, h4'⟩
     obtain ⟨A3, n3, rfl⟩ := h3.form
     have h4 : Below w2.heap.size w2 w3 := ⟨h4'.os, h4'.tape, h4'.output, h4'.size, h4'.block⟩
     have kA := H2.out.1.below h4
     have kB := H2.out.2.1.below h4
     have kC := H2.out.2.2.1.below h4
     have f1 := kA.cell 1 _ rfl
     have f10 := kB.cell 0 _ rfl
     have f11 := kB.cell 1 _ rfl
     have f20 := kC.cell 0 _ rfl
     rw [hwn] at f20
     have f21 := kC.cell 1 _ rfl
     have f22 := kC.cell 2 _ rfl
     have f23 := kC.cell 3 _ rfl
     have hcr3 := (h4.cell (p := ⟨gr, o + wn, none⟩) hgr).trans hcr
     have H3 := Lib.hid (And.intro h3 (And.intro (HU.out.below h4) (H2.out.2.2.2.trans (h4.mono H2.out.2.2.2.size))))
     have hz23 := h4.size
     clear h3 h4 h4' kA kB kC
     go_wp2_with fail
     refine hK.out _ _ ⟨f1, f10, f11, f20, f21, f22, f23, hcr3⟩ (fun hHeld7 => ?_)
     clear hK K; try simp only [Act.put, sa, sb, sc]
     refine rd 10 (by kernel_rfl) rfl (fun K hK => ?_)
     go_simp
     go_at_call 133
     refine (HWF.out w3 _ _ _ H3.out.2.1 H3.out.1 ⟨_, _, rfl, HX.out.2.2.2.1.below H3.out.2.2, HX.out.2.2.2.2.below H3.out.2.2⟩).mono ?_
     rintro e w4 ⟨rfl, h4⟩
     have j1 := (h4.cell (p := ⟨w.heap.size, 1, none⟩) (Nat.lt_of_lt_of_le l0 hz23)).trans f1
     have j10 := (h4.cell (p := ⟨w.heap.size + 1, 0, none⟩) (Nat.lt_of_lt_of_le l1 hz23)).trans f10
     have j11 := (h4.cell (p := ⟨w.heap.size + 1, 1, none⟩) (Nat.lt_of_lt_of_le l1 hz23)).trans f11
     have j20 := (h4.cell (p := ⟨w.heap.size + 2, 0, none⟩) (Nat.lt_of_lt_of_le l2 hz23)).trans f20
     have j21 := (h4.cell (p := ⟨w.heap.size + 2, 1, none⟩) (Nat.lt_of_lt_of_le l2 hz23)).trans f21
     have j22 := (h4.cell (p := ⟨w.heap.size + 2, 2, none⟩) (Nat.lt_of_lt_of_le l2 hz23)).trans f22
     have j23 := (h4.cell (p := ⟨w.heap.size + 2, 3, none⟩) (Nat.lt_of_lt_of_le l2 hz23)).trans f23
     have hcr4 := (h4.cell (p := ⟨gr, o + wn, none⟩) (Nat.lt_of_lt_of_le hgr hz23)).trans hcr3
     have H4 := Lib.hid (H3.out.2.2.trans (h4.mono H3.out.2.2.size))
     clear h4
     go_wp2_with fail
     refine hK.out _ _ ⟨j1, j10, j11, j20, j21, j22, j23, hcr4⟩ (fun hHeld10 => ?_)
     clear hK K; try simp only [Act.put, sa, sb, sc]
     refine ty 11 6 rfl rfl ?_; simp only [sa, sb, sc]
     refine wpAnyH_done (by kernel_rfl) ?_ _
     go_wp2
     go_ret
     exact ⟨rfl, H4.out⟩
    ·have HF : Hid (CV = false) := Lib.hid (by rw [HCV2.out, decide_eq_false hw1]; simp)
     go_wp2
     go_ret
     exact ⟨by rw [HF.out]; rfl, H2.out.2.2.2⟩
   ·have HF : Hid (CV = false) := Lib.hid (by rw [HCV2.out, decide_eq_false hw0]; rfl)
    go_wp2
    go_ret
    exact ⟨by rw [HF.out]; rfl, H2.out.2.2.2⟩
theorem Rws.all {w : World} {A : Option Addr} {n c : Nat} {ls : List (List UInt8)} (h : Rws w (.slice A n c) ls) (h0 : 0 < ls.length) : ∃ g o, A = some ⟨g, o, none⟩ ∧ g < w.heap.size ∧ n = ls.length ∧ ls.length ≤ c ∧ c ≤ maxLen ∧ ∀ i, i < ls.length → ∃ A' c', w.cell? ⟨g, o + i, none⟩ = some (.slice A' (ls.getD i []).length c') ∧ Bys w (.slice A' (ls.getD i []).length c') (ls.getD i []) := by
 obtain ⟨us, h1, h2⟩ := h
 obtain ⟨g, o, rfl, e1, hg, hc, hm, hcell⟩ := h1.place h0
 refine ⟨g, o, rfl, hg, e1, hc, hm, fun i hi => ?_⟩
 obtain ⟨u, hu, hb⟩ := h2 i hi
 have e : ls.getD i [] = ls[i] := by rw [List.getD_eq_getElem?_getD, List.getElem?_eq_getElem hi]; rfl
 rw [e]
 obtain ⟨A', c', rfl⟩ := hb.form
 exact ⟨A', c', hcell i _ hu, hb⟩
theorem anyB_snoc (ls : List (List UInt8)) (k : Nat) (hk : k < ls.length) (X : List UInt8) : anyB (ls.take (k + 1)) X = (anyB (ls.take k) X || (ls.getD k [] == X)) := by
 have e : ls.getD k [] = ls[k] := by rw [List.getD_eq_getElem?_getD, List.getElem?_eq_getElem hk]; rfl
 unfold anyB
 rw [e, List.take_succ_eq_append_getElem hk, List.any_append, List.any_cons, List.any_nil, Bool.or_false]
theorem anyB_mono (ls : List (List UInt8)) (X : List UInt8) (k : Nat) (h : anyB (ls.take k) X = true) : ∀ i, k ≤ i → anyB (ls.take i) X = true := by
 intro i hi
 unfold anyB at *
 rw [List.any_eq_true] at *
 obtain ⟨y, hy, e⟩ := h
 exact ⟨y, (List.take_subset_take_left ls hi) hy, e⟩
set_option maxRecDepth 100000 in
set_option maxHeartbeats 4000000 in
theorem rpolicy_any (v : Value) (p : PolD) (hl : p.log.length ≤ 1000000000) (hw : p.wits.length ≤ 1000000000) (hq : -1000000000 ≤ p.quorum ∧ p.quorum ≤ 1000000000) (w : World) (hv : PolV w v p) :
  Calls Tryz.prog 68 #[v] w fun e w' => e = .returned (.bool (polB p)) ∧ Below w.heap.size w w' := by
 obtain ⟨l, ws, rfl, h1, h2⟩ := hv
 obtain ⟨L, cl, rfl⟩ := h1.form
 obtain ⟨R, cr, rfl⟩ := h2.form
 have HPB : Hid (polB p = ((decide (p.log.length = 32) && decide (1 ≤ p.wits.length) && decide (p.wits.length ≤ 4) && decide (1 ≤ p.quorum) && decide (p.quorum ≤ (p.wits.length : Int))) && witsN p.wits p.wits.length)) := Lib.hid rfl
 have HX := Lib.hid (And.intro h1 h2)
 clear h1 h2
 generalize polB p = PB at *
 obtain ⟨log, wits, q⟩ := p
 obtain ⟨hq0, hq1⟩ := hq
 have hk0 := Blk.new w 30 [.slice L log.length cl, .slice R wits.length cr, .int .i64 q]
 have hb0 : Below w.heap.size w (w.alloc (.cells #[.slice L log.length cl, .slice R wits.length cr, .int .i64 q] 30)) := (Below.refl w.heap.size w).alloc (Nat.le_refl _) _
 have HW := Lib.hid (And.intro hk0 hb0)
 clear hk0 hb0
 go_enter Tryz.func68, Tryz.ntmps68
 by_cases k1 : log.length = 32
 ·have n1 : (((log.length : Nat) : Int) != 32) = false := by simp [k1]
  have K1 := Lib.hid k1
  clear k1
  by_cases k2 : 1 ≤ wits.length
  ·by_cases k3 : wits.length ≤ 4
   ·by_cases k4 : 1 ≤ q
    ·by_cases k5 : q ≤ (wits.length : Int)
     ·have HP2 : Hid (PB = witsN wits wits.length) := Lib.hid (by rw [HPB.out]; simp [K1.out, k2, k3, k4, k5])
      clear HPB
      obtain ⟨g, o, rfl, hg, -, hroom, hroom2, hall⟩ := HX.out.2.all (by show 0 < wits.length; omega)
      have HALL := Lib.hid hall
      unfold maxLen at hroom2
      clear hall
      go_wp2
      go_loopw [4] (fun v4 wr => ∃ i : Nat, v4 = .int .i64 i ∧ i ≤ wits.length ∧ Hid (Below w.heap.size w wr ∧ Blk wr w.heap.size 30 [.slice L log.length cl, .slice (some ⟨g, o, none⟩) wits.length cr, .int .i64 q] ∧ witsN wits i = true)) (fun v _ => wits.length - (intOf v).toNat)
      case atStart => exact ⟨0, rfl, Nat.zero_le _, Lib.hid ⟨HW.out.2, HW.out.1, rfl⟩⟩
      case round =>
       obtain ⟨i, rfl, hi, HI⟩ := hrel
       have q1 := HI.out.2.1.cell 1 _ rfl
       have hbl := HI.out.2.1.lt
       by_cases hlt : i < wits.length
       ·obtain ⟨A9, c9, hcu, hbu⟩ := HALL.out i hlt
        have p0 := (HI.out.1.cell (p := ⟨g, o + i, none⟩) hg).trans hcu
        have HB9 := Lib.hid (And.intro hcu hbu)
        have HWS : Hid (witsN wits (i + 1) = (witsN wits i && (len32 (wits.getD i []) && !(anyB (wits.take i) (wits.getD i []))))) := Lib.hid rfl
        have hgl : g < wr.heap.size := by have := HI.out.1.size; omega
        clear hcu hbu
        generalize wits.getD i [] = X at *
        by_cases h32 : X.length = 32
        ·have nk : (((X.length : Nat) : Int) != 32) = false := by simp [h32]
         have H32 : Hid (len32 X = true) := Lib.hid (by simp [len32, h32])
         clear h32
         go_wp2
         go_loopw [5] (fun v5 wr => ∃ k : Nat, v5 = .int .i64 k ∧ k ≤ i ∧ Hid (Below w.heap.size w wr ∧ Blk wr w.heap.size 30 [.slice L log.length cl, .slice (some ⟨g, o, none⟩) wits.length cr, .int .i64 q] ∧ anyB (wits.take k) X = false)) (fun v _ => i - (intOf v).toNat)
         case atStart => exact ⟨0, rfl, Nat.zero_le _, Lib.hid ⟨HI.out.1, HI.out.2.1, rfl⟩⟩
         case round =>
          clear q1 hbl p0 hgl
          have HI0 := Lib.hid HI.out.2.2
          clear HI
          obtain ⟨k, rfl, hk, HI⟩ := hrel
          by_cases hlk : k < i
          ·have q1 := HI.out.2.1.cell 1 _ rfl
           have hbl := HI.out.2.1.lt
           have hkw : k < wits.length := by omega
           obtain ⟨A8, c8, hcu, hbu⟩ := HALL.out k hkw
           have p0 := (HI.out.1.cell (p := ⟨g, o + i, none⟩) hg).trans HB9.out.1
           have p1 := (HI.out.1.cell (p := ⟨g, o + k, none⟩) hg).trans hcu
           have r1 := run_string_bys wr.drew _ _ ((HB9.out.2.below HI.out.1).below (Below.refl _ _).drew)
           have r2 := run_string_bys wr.drew _ _ ((hbu.below HI.out.1).below (Below.refl _ _).drew)
           have HAN := Lib.hid (anyB_snoc wits k (by omega) X)
           have hgl : g < wr.heap.size := by have := HI.out.1.size; omega
           clear hcu hbu
           generalize wits.getD k [] = Y at *
           go_wp2
           refine wp_region_held_drew (S := fun w' => w'.cell? ⟨w.heap.size, 1, none⟩ = some (.slice (some ⟨g, o, none⟩) wits.length cr) ∧ w'.cell? ⟨g, o + i, none⟩ = some (.slice A9 X.length c9) ∧ w'.cell? ⟨g, o + k, none⟩ = some (.slice A8 Y.length c8) ∧ (convert 24 9 (.slice A9 X.length c9)).run Tryz.prog w' = .ok (.string ⟨X.toArray⟩) w' ∧ (convert 24 9 (.slice A8 Y.length c8)).run Tryz.prog w' = .ok (.string ⟨Y.toArray⟩) w') (by kernel_rfl) ?_ (fun hHeld => ?_)
           ·exact ⟨q1, p0, p1, r1, r2⟩
           refine ty 0 49 rfl rfl ?_; simp only [sa, sb, sc]
           refine ty 1 50 rfl rfl ?_; simp only [sa, sb, sc]
           refine ty 2 51 rfl rfl ?_; simp only [sa, sb, sc]
           refine ty 3 52 rfl rfl ?_; simp only [sa, sb, sc]
           refine ty 4 53 rfl rfl ?_; simp only [sa, sb, sc]
           refine ty 5 54 rfl rfl ?_; simp only [sa, sb, sc]
           refine ty 6 55 rfl rfl ?_; simp only [sa, sb, sc]
           refine ty 7 56 rfl rfl ?_; simp only [sa, sb, sc]
           refine ty 8 57 rfl rfl ?_; simp only [sa, sb, sc]
           refine ty 9 58 rfl rfl ?_; simp only [sa, sb, sc]
           refine ty 10 59 rfl rfl ?_; simp only [sa, sb, sc]
           refine ty 11 60 rfl rfl ?_; simp only [sa, sb, sc]
           refine ty 12 61 rfl rfl ?_; simp only [sa, sb, sc]
           refine wpAnyH_done (by kernel_rfl) ?_ _
           have hd := (Below.refl wr.heap.size wr).drew
           have HN := Lib.hid (And.intro (HI.out.1.trans (hd.mono HI.out.1.size)) (HI.out.2.1.below hd))
           clear hd hHeld r1 r2 q1 p0 p1
           generalize hB : (X == Y) = BB at *
           generalize wr.drew = w2 at *
           cases BB with
           | true =>
            have hXY : X = Y := by simpa using hB
            have HF : Hid (PB = false) := Lib.hid (by
             rw [HP2.out]
             have ha : anyB (wits.take (k + 1)) X = true := by rw [HAN.out, hXY]; simp
             exact witsN_mono wits (i + 1) (by rw [HWS.out, anyB_mono wits X (k + 1) ha i (by omega)]; simp) _ (by omega))
            clear hXY hB
            go_wp2
            go_ret
            exact ⟨by rw [HF.out]; rfl, HN.out.1⟩
           | false =>
            have HT : Hid (anyB (wits.take (k + 1)) X = false) := Lib.hid (by
             have hXY : X ≠ Y := by rw [← beq_eq_false_iff_ne]; exact hB
             rw [HAN.out, HI.out.2.2, Bool.false_or, beq_eq_false_iff_ne]
             exact fun e => hXY e.symm)
            clear hB
            go_wp2
            go_roundw
            case rel => exact ⟨k + 1, by go_num, by omega, Lib.hid ⟨HN.out.1, HN.out.2, HT.out⟩⟩
            case measure => simp [intOf]; omega
          ·obtain rfl : k = i := by omega
           have HT : Hid (witsN wits (k + 1) = true) := Lib.hid (by rw [HWS.out, HI0.out, H32.out, HI.out.2.2]; rfl)
           go_wp2
           go_roundw
           case rel => exact ⟨k + 1, by go_num, by omega, Lib.hid ⟨HI.out.1, HI.out.2.1, HT.out⟩⟩
           case measure => simp [intOf]; omega
        ·have nk : (((X.length : Nat) : Int) != 32) = true := by rw [bne_iff_ne]; omega
         have HF : Hid (PB = false) := Lib.hid (by rw [HP2.out]; exact witsN_mono wits (i + 1) (by rw [HWS.out]; simp [len32, h32]) _ (by omega))
         clear h32
         go_wp2
         go_ret
         exact ⟨by rw [HF.out]; rfl, HI.out.1⟩
       ·obtain rfl : i = wits.length := by omega
        have HT : Hid (PB = true) := Lib.hid (by rw [HP2.out]; exact HI.out.2.2)
        clear q1 hbl
        go_wp2
        go_ret
        exact ⟨by rw [HT.out]; rfl, HI.out.1⟩
     ·have HT : Hid (PB = false) := Lib.hid (by rw [HPB.out]; simp [k5])
      go_wp2
      go_ret
      exact ⟨by rw [HT.out]; rfl, HW.out.2⟩
    ·have HT : Hid (PB = false) := Lib.hid (by rw [HPB.out]; simp [k4])
     go_wp2
     go_ret
     exact ⟨by rw [HT.out]; rfl, HW.out.2⟩
   ·have HT : Hid (PB = false) := Lib.hid (by rw [HPB.out]; simp [k3])
    go_wp2
    go_ret
    exact ⟨by rw [HT.out]; rfl, HW.out.2⟩
  ·have HT : Hid (PB = false) := Lib.hid (by rw [HPB.out]; simp [k2])
   go_wp2
   go_ret
   exact ⟨by rw [HT.out]; rfl, HW.out.2⟩
 ·have HT : Hid (PB = false) := Lib.hid (by rw [HPB.out]; simp [k1])
  have n1 : (((log.length : Nat) : Int) != 32) = true := by rw [bne_iff_ne]; omega
  go_wp2
  go_ret
  exact ⟨by rw [HT.out]; rfl, HW.out.2⟩
theorem split6_small (n : Int) (h : n < 2) (w : World) :
  Calls Tryz.prog 125 #[.int .i64 n] w fun e w' => e = .returned (.int .i64 0) ∧ w = w' := by
 go_enter Tryz.func125, Tryz.ntmps125
 go_wp2
 go_ret
 exact ⟨rfl, rfl⟩
theorem split6_any (n : Nat) (h1 : n ≤ 60000) (w : World) :
  Calls Tryz.prog 125 #[.int .i64 n] w fun e w' => e = .returned (.int .i64 (splitN n : Nat)) ∧ w = w' := by
 by_cases hn : n < 2
 ·rw [splitN_small hn]
  exact split6_small n (by omega) w
 ·have HS : Hid (∀ j, 2 ^ j < n → n ≤ 2 * 2 ^ j → 2 ^ j = splitN n) := Lib.hid (fun j h2 h3 => splitN_of (by omega) h2 h3)
  generalize splitN n = sn at *
  go_enter Tryz.func125, Tryz.ntmps125
  go_wp2
  go_loopw [3] (fun v3 wr => ∃ K : Nat, v3 = .int .i64 K ∧ 1 ≤ K ∧ K < n ∧ Hid (∃ j, K = 2 ^ j) ∧ wr = w) (fun v _ => n - (intOf v).toNat)
  case atStart => exact ⟨1, rfl, by omega, by omega, Lib.hid ⟨0, rfl⟩, rfl⟩
  case round =>
   obtain ⟨K, rfl, hK1, hK2, HJ, rfl⟩ := hrel
   by_cases hlt : K < n - K
   ·have hlt2 : (K : Int) < (n : Int) - (K : Int) := by omega
    have HN : Hid (∃ j, 2 * K = 2 ^ j) := Lib.hid (by obtain ⟨j, hj⟩ := HJ.out; exact ⟨j + 1, by rw [Nat.pow_succ]; omega⟩)
    go_wp2
    go_roundw
    case rel => exact ⟨2 * K, by go_num, by omega, by omega, HN, trivial⟩
    case measure => simp [intOf]; omega
   ·have hlt2 : ¬ (K : Int) < (n : Int) - (K : Int) := by omega
    have HZ : Hid (K = sn) := Lib.hid (by obtain ⟨j, hj⟩ := HJ.out; subst hj; exact HS.out j hK2 (by omega))
    go_wp2
    go_ret
    rw [← HZ.out]
    exact ⟨rfl, rfl⟩
theorem Rws.drop {w : World} {g o n c : Nat} {ls : List (List UInt8)} (h : Rws w (.slice (some ⟨g, o, none⟩) n c) ls) (h0 : 0 < ls.length) (k : Nat) (hk : k ≤ ls.length) : Rws w (.slice (some ⟨g, o + k, none⟩) (ls.length - k) (c - k)) (ls.drop k) := by
 obtain ⟨us, h1, h2⟩ := h
 obtain ⟨g', o', e, rfl, h3, h4, h5, h6⟩ := h1.place h0
 have hl := h1.1
 have hp := Sho.piece h1 h0 k (ls.length - k) (c - k) (by omega) (by omega) (by omega)
 have e2 : (us.drop (k * 1)).take ((ls.length - k) * 1) = us.drop k := by rw [Nat.mul_one, Nat.mul_one, List.take_of_length_le (by rw [List.length_drop]; omega)]
 rw [e2, Nat.mul_one] at hp
 refine ⟨us.drop k, ?_, fun i hi => ?_⟩
 ·rw [List.length_drop]; exact hp
 ·rw [List.length_drop] at hi
  obtain ⟨u, e3, hu⟩ := h2 (k + i) (by omega)
  exact ⟨u, by rw [List.getElem?_drop]; exact e3, by rw [List.getElem_drop]; exact hu⟩
theorem RwsF.take {S : Nat → Prop} {w : World} {A : Option Addr} {n c : Nat} {ls : List (List UInt8)} (h : RwsF S w (.slice A n c) ls) (k : Nat) (hk : k ≤ ls.length) : RwsF S w (.slice A k c) (ls.take k) := by
 obtain ⟨us, h1, hf, h2⟩ := h
 have hl := h1.1
 rcases Nat.eq_zero_or_pos ls.length with h0 | h0
 ·obtain rfl : k = 0 := by omega
  exact ⟨[], ⟨by simp, .inl ⟨by simp, A, c, rfl⟩⟩, fun h => absurd h (by simp), fun i hi => by simp at hi⟩
 ·have hf' := hf h0
  obtain ⟨g, o, rfl, rfl, h3, h4, h5, h6⟩ := h1.place h0
  have hp := Sho.piece h1 h0 0 k c (by omega) (by omega) h5
  simp only [Nat.zero_mul, Nat.add_zero, List.drop_zero, Nat.mul_one] at hp
  refine ⟨us.take k, ?_, fun _ g' hg => hf' g' hg, fun i hi => ?_⟩
  ·rw [List.length_take, Nat.min_eq_left hk]
   exact hp
  ·rw [List.length_take] at hi
   obtain ⟨u, e, hu, hn⟩ := h2 i (by omega)
   refine ⟨u, by rw [List.getElem?_take_of_lt (by omega)]; exact e, ?_⟩
   rw [List.getElem_take]
   exact ⟨hu, hn⟩
theorem RwsF.drop {S : Nat → Prop} {w : World} {g o n c : Nat} {ls : List (List UInt8)} (h : RwsF S w (.slice (some ⟨g, o, none⟩) n c) ls) (h0 : 0 < ls.length) (k : Nat) (hk : k ≤ ls.length) : RwsF S w (.slice (some ⟨g, o + k, none⟩) (ls.length - k) (c - k)) (ls.drop k) := by
 obtain ⟨us, h1, hf, h2⟩ := h
 have hf' := hf h0
 obtain ⟨g', o', e, rfl, h3, h4, h5, h6⟩ := h1.place h0
 have hl := h1.1
 have hp := Sho.piece h1 h0 k (ls.length - k) (c - k) (by omega) (by omega) (by omega)
 have e2 : (us.drop (k * 1)).take ((ls.length - k) * 1) = us.drop k := by rw [Nat.mul_one, Nat.mul_one, List.take_of_length_le (by rw [List.length_drop]; omega)]
 rw [e2, Nat.mul_one] at hp
 refine ⟨us.drop k, ?_, fun _ g' hg => hf' g' hg, fun i hi => ?_⟩
 ·rw [List.length_drop]; exact hp
 ·rw [List.length_drop] at hi
  obtain ⟨u, e3, hu, hn⟩ := h2 (k + i) (by omega)
  exact ⟨u, by rw [List.getElem?_drop]; exact e3, by rw [List.getElem_drop]; exact hu, by rw [List.getElem_drop]; exact hn⟩
theorem RwsF.get {S : Nat → Prop} {w : World} {A : Option Addr} {n c : Nat} {ls : List (List UInt8)} (h : RwsF S w (.slice A n c) ls) (i : Nat) (hi : i < ls.length) : ∃ g o u, A = some ⟨g, o, none⟩ ∧ g < w.heap.size ∧ n = ls.length ∧ ls.length ≤ c ∧ w.cell? ⟨g, o + i, none⟩ = some u ∧ BysF S w u (ls.getD i []) := by
 obtain ⟨g, o, u, e1, e2, e3, e4, e5, e6, e7⟩ := h.at' i hi
 have e : ls.getD i [] = ls[i] := by rw [List.getD_eq_getElem?_getD, List.getElem?_eq_getElem hi]; rfl
 exact ⟨g, o, u, e1, e2, e3, e4, e5, by rw [e]; exact ⟨e6, e7⟩⟩
theorem rootL_le (ls : List (List UInt8)) (h : ∀ x ∈ ls, x.length ≤ 1000) : (rootL ls).length ≤ 1000 := by
 by_cases h2 : 2 ≤ ls.length
 ·rw [rootL_more h2, nodeH_length]; decide
 ·cases ls with
  | nil => rw [rootL_zero, sha_length]; decide
  | cons x r =>
   have : (x :: r).length = 1 := by simp at h2 ⊢; omega
   rw [rootL_one this]
   exact h x List.mem_cons_self
theorem rroot6_zero (A : Option Addr) (c : Nat) (w : World) :
  Calls Tryz.prog 43 #[.slice A 0 c] w fun e w' => ∃ u, e = .returned u ∧ BysF (fun g => w.heap.size ≤ g) w' u (rootL []) ∧ Below w.heap.size w w' := by
 have HR := Lib.hid (rsum_any (.slice none 0 0) [] (by decide) w (Sho.nil w 1))
 have HZ := Lib.hid rootL_zero
 generalize rootL [] = R at *
 go_enter Tryz.func43, Tryz.ntmps43
 go_wp2_with fail
 refine HR.out.mono ?_
 rintro e w1 ⟨v1, rfl, k1, k2⟩
 obtain ⟨A1, c1, rfl⟩ := k1.form
 have H1 := Lib.hid (And.intro (k1.foot.mono (T := fun g => w.heap.size ≤ g) (fun g hg => hg.1)) k2)
 clear k1 k2
 go_wp2
 go_ret
 rw [HZ.out]
 exact ⟨_, rfl, H1.out.1, H1.out.2⟩
set_option maxRecDepth 100000 in
set_option maxHeartbeats 4000000 in
theorem rroot6_f (S : Nat → Prop) : ∀ (m : Nat) (ls : List (List UInt8)) (v : Value), ls.length ≤ m → m ≤ 60000 → (∀ x ∈ ls, x.length ≤ 1000) → ∀ (w : World), RwsF S w v ls →
  Calls Tryz.prog 43 #[v] w fun e w' => ∃ u, e = .returned u ∧ BysF (fun g => S g ∨ w.heap.size ≤ g) w' u (rootL ls) ∧ Below w.heap.size w w' := by
 intro m
 induction m with
 | zero =>
  intro ls v hm hm2 hx w hv
  obtain rfl : ls = [] := List.length_eq_zero_iff.1 (by omega)
  obtain ⟨A, c, rfl⟩ := hv.rws.form
  exact (rroot6_zero A c w).mono fun e w' ⟨u, e1, e2, e3⟩ => ⟨u, e1, e2.mono (fun g hg => .inr hg), e3⟩
 | succ m ih =>
  intro ls v hm hm2 hx w hv
  by_cases h0 : ls.length = 0
  ·obtain rfl : ls = [] := List.length_eq_zero_iff.1 h0
   obtain ⟨A, c, rfl⟩ := hv.rws.form
   exact (rroot6_zero A c w).mono fun e w' ⟨u, e1, e2, e3⟩ => ⟨u, e1, e2.mono (fun g hg => .inr hg), e3⟩
  obtain ⟨A, c, rfl⟩ := hv.rws.form
  have hroom := hv.rws.room (by omega)
  by_cases h1 : ls.length = 1
  ·obtain ⟨g, o, u, rfl, hg, -, -, hcu, hbu⟩ := hv.get 0 (by omega)
   obtain ⟨A9, c9, rfl⟩ := hbu.1.form
   have HZ : Hid (rootL ls = ls.getD 0 []) := Lib.hid (by rw [rootL_one h1]; cases ls <;> rfl)
   have HB := Lib.hid hbu
   rw [h1]
   rw [Nat.add_zero] at hcu
   clear ih hv hbu hx hm h1 h0 hroom
   generalize rootL ls = R at *
   generalize ls.getD 0 [] = X at *
   go_enter Tryz.func43, Tryz.ntmps43
   go_wp2
   go_ret
   rw [HZ.out]
   exact ⟨_, rfl, HB.out.mono (fun g hg => .inl hg), Below.refl _ _⟩
  ·have hs := splitN_lt (n := ls.length) (by omega)
   obtain ⟨g, o, u, rfl, hg, -, -, hcu, hbu⟩ := hv.get 0 (by omega)
   clear hcu hbu
   have HS := Lib.hid (split6_any ls.length (by omega) w)
   have e1 : (ls.take (splitN ls.length)).length = splitN ls.length := by rw [List.length_take]; omega
   have e2 : (ls.drop (splitN ls.length)).length = ls.length - splitN ls.length := List.length_drop
   have HI1 := Lib.hid (fun (wz : World) (vz : Value) (z : RwsF S wz vz (ls.take (splitN ls.length))) => ih (ls.take (splitN ls.length)) vz (by omega) (by omega) (fun x hx' => hx x (List.mem_of_mem_take hx')) wz z)
   have HI2 := Lib.hid (fun (wz : World) (vz : Value) (z : RwsF S wz vz (ls.drop (splitN ls.length))) => ih (ls.drop (splitN ls.length)) vz (by omega) (by omega) (fun x hx' => hx x (List.mem_of_mem_drop hx')) wz z)
   have r1 := hv.take (splitN ls.length) (by omega)
   have r2 := hv.drop (by omega) (splitN ls.length) (by omega)
   have l1 := rootL_le (ls.take (splitN ls.length)) (fun x hx' => hx x (List.mem_of_mem_take hx'))
   have l2 := rootL_le (ls.drop (splitN ls.length)) (fun x hx' => hx x (List.mem_of_mem_drop hx'))
   have l1' : (rootL (ls.take (splitN ls.length))).length ≤ 1000000000 := by omega
   have l2' : (rootL (ls.drop (splitN ls.length))).length ≤ 1000000000 := by omega
   have HN := Lib.hid (fun (wz : World) (u v : Value) (z1 : Bys wz u (rootL (ls.take (splitN ls.length)))) (z2 : Bys wz v (rootL (ls.drop (splitN ls.length)))) => rnode_any u v _ _ l1' l2' wz z1 z2)
   have HZ := Lib.hid (rootL_more (l := ls) (by omega))
   have HX := Lib.hid (And.intro r1 r2)
   have hroom1 := hroom.1
   have hck : ¬ c = splitN ls.length := by omega
   have hkc : splitN ls.length ≤ c := by omega
   have hn2 : ¬ ls.length < 2 := by omega
   have hroom2 := hroom.2
   unfold maxLen at hroom2
   clear ih hv hx e1 e2 r1 r2 l1 l2 l1' l2' hroom
   generalize rootL (ls.take (splitN ls.length)) = R1 at *
   generalize rootL (ls.drop (splitN ls.length)) = R2 at *
   generalize rootL ls = R at *
   generalize ls.take (splitN ls.length) = L1 at *
   generalize ls.drop (splitN ls.length) = L2 at *
   generalize splitN ls.length = k at *
   generalize ls.length = n at *
   have hk1 : k ≤ n := by omega
   have hkn : (k : Int) ≤ (n : Int) := by omega
   have hni : (n : Int) ≤ (c : Int) := by omega
   go_enter Tryz.func43, Tryz.ntmps43
   go_wp2_with fail
   refine HS.out.mono ?_
   rintro e w' ⟨rfl, rfl⟩
   go_upto_region 6 with fail
   have HD := Lib.hid (Below.refl w.heap.size w).drew
   refine wp_region_held_drew (S := fun _ => True) (by kernel_rfl) True.intro (fun hHeld => ?_)
   generalize w.drew = wr at *
   refine ty 0 17 rfl rfl ?_; simp only [sa, sb, sc]
   refine ty 1 18 rfl rfl ?_; simp only [sa, sb, sc]
   refine ty 2 19 rfl rfl ?_; simp only [sa, sb, sc]
   refine ty 4 21 rfl rfl ?_; simp only [sa, sb, sc]
   refine ty 5 22 rfl rfl ?_; simp only [sa, sb, sc]
   refine ty 6 23 rfl rfl ?_; simp only [sa, sb, sc]
   refine rd 3 (by kernel_rfl) rfl (fun K hK => ?_)
   go_simp
   go_at_call 43
   refine (HI1.out _ _ (HX.out.1.below HD.out)).mono ?_
   rintro e w1 ⟨u1, rfl, k1, k2⟩
   obtain ⟨A1, c1, rfl⟩ := k1.1.form
   have H1 := Lib.hid (And.intro k1.1 (HD.out.trans (k2.mono HD.out.size)))
   clear k1 k2
   try dsimp only
   refine hK.out _ _ True.intro (fun hHeld3 => ?_)
   clear hK K; try simp only [Act.put, sa, sb, sc]
   refine rd 7 (by kernel_rfl) rfl (fun K hK => ?_)
   go_simp
   go_at_call 43
   refine (HI2.out _ _ (HX.out.2.below H1.out.2)).mono ?_
   rintro e w2 ⟨u2, rfl, k1, k2⟩
   obtain ⟨A2, c2, rfl⟩ := k1.1.form
   have H2 := Lib.hid (And.intro (H1.out.1.below k2) (And.intro k1.1 (H1.out.2.trans (k2.mono H1.out.2.size))))
   clear k1 k2
   try dsimp only
   refine hK.out _ _ True.intro (fun hHeld7 => ?_)
   clear hK K; try simp only [Act.put, sa, sb, sc]
   refine rd 8 (by kernel_rfl) rfl (fun K hK => ?_)
   go_simp
   go_at_call 126
   refine (HN.out _ _ _ H2.out.1 H2.out.2.1).mono ?_
   rintro e w3 ⟨u3, rfl, k1, k2⟩
   obtain ⟨A3, c3, rfl⟩ := k1.form
   have H3 := Lib.hid (And.intro (k1.foot.mono (T := fun g => S g ∨ w.heap.size ≤ g) (fun g hg => .inr (Nat.le_trans H2.out.2.2.size hg.1))) (H2.out.2.2.trans (k2.mono H2.out.2.2.size)))
   clear k1 k2
   try dsimp only
   refine hK.out _ _ True.intro (fun hHeld8 => ?_)
   clear hK K; try simp only [Act.put, sa, sb, sc]
   refine ty 9 2 rfl rfl ?_; simp only [sa, sb, sc]
   refine wpAnyH_done (by kernel_rfl) ?_ _
   clear hHeld
   go_wp2
   go_ret
   rw [HZ.out]
   exact ⟨_, rfl, H3.out.1, H3.out.2⟩
theorem info_bytes6 : (Tryz.prog.info? 24).map (fun i => (i.zero, i.size, i.bytes)) = some (some (.slice none 0 0), 1, 24) := info_bytes
def LeI (w wr : World) (v : Value) (ls : List (List UInt8)) : Prop := Below w.heap.size w wr ∧ OwnR wr w.heap.size v ls
theorem take_leaf (ls : List (List UInt8)) (k : Nat) (h : k < ls.length) : (ls.map leafH).take (k + 1) = (ls.map leafH).take k ++ [leafH (ls.getD k [])] := by
 rw [List.take_succ_eq_append_getElem (by rw [List.length_map]; exact h), List.getElem_map, List.getD_eq_getElem?_getD, List.getElem?_eq_getElem h]
 rfl
set_option maxRecDepth 100000 in
set_option maxHeartbeats 4000000 in
theorem rleaves_any (v : Value) (ls : List (List UInt8)) (hsm : ls.length ≤ 60000) (hx : ∀ x ∈ ls, x.length ≤ 1000000) (w : World) (hv : Rws w v ls) :
  Calls Tryz.prog 42 #[v] w fun e w' => ∃ u, e = .returned u ∧ OwnR w' w.heap.size u (ls.map leafH) ∧ Below w.heap.size w w' := by
 obtain ⟨i0, hi0, hz0, hz1, hz2⟩ := info_parts info_bytes6
 obtain ⟨A, c, rfl⟩ := hv.form
 have HX := Lib.hid hv
 have HS := Lib.hid hx
 have HT := Lib.hid (take_leaf ls)
 have H0 : Hid ((ls.map leafH).take 0 = []) := Lib.hid rfl
 have HL : Hid (∀ k, k ≤ ls.length → ((ls.map leafH).take k).length = k) := Lib.hid (fun k hk => by rw [List.length_take, List.length_map]; omega)
 have HE : Hid ((ls.map leafH).take ls.length = ls.map leafH) := Lib.hid (List.take_of_length_le (by rw [List.length_map]; exact Nat.le_refl _))
 clear hv hx
 generalize ls.map leafH = M at *
 go_enter Tryz.func42, Tryz.ntmps42
 go_wp2
 go_loopw [3, 4] (fun v3 v4 wr => ∃ k : Nat, v4 = .int .i64 k ∧ k ≤ ls.length ∧ Hid (LeI w wr v3 (M.take k))) (fun _ v _ => ls.length - (intOf v).toNat)
 case atStart => exact ⟨0, rfl, Nat.zero_le _, Lib.hid ⟨Below.refl _ _, by rw [H0.out]; exact OwnR.nil _ _⟩⟩
 case round =>
  obtain ⟨k, rfl, hk, HJ⟩ := hrel
  by_cases hlt : k < ls.length
  ·obtain ⟨g, o, u, rfl, hg, -, hcap, hcu, hbu⟩ := HX.out.get k hlt
   obtain ⟨A9, c9, rfl⟩ := hbu.form
   have p0 := (HJ.out.1.cell (p := ⟨g, o + k, none⟩) hg).trans hcu
   have hxl : (ls.getD k []).length ≤ 1000000 := HS.out _ (by rw [List.getD_eq_getElem?_getD, List.getElem?_eq_getElem hlt]; exact List.getElem_mem hlt)
   have HLF := Lib.hid (rleaf_any _ (ls.getD k []) (by omega) wr (hbu.below HJ.out.1))
   have HTK := Lib.hid (HT.out k hlt)
   have HTL := Lib.hid (HL.out k hk)
   have hal : (M.take k).length ≤ 1000000000 := by rw [HTL.out]; omega
   have hsz := HJ.out.1.size
   clear hcu hbu hxl
   obtain ⟨A8, c8, rfl⟩ := HJ.out.2.rws.form
   generalize leafH (ls.getD k []) = LX at *
   generalize ls.getD k [] = X at *
   generalize M.take k = L at *
   go_wp2_with fail
   refine HLF.out.mono ?_
   rintro e w2 ⟨v2, rfl, h1, h2⟩
   obtain ⟨A2, c2, rfl⟩ := h1.form
   obtain ⟨us, hu1, hu2⟩ := HJ.out.2.keep h2
   have H2 := Lib.hid (And.intro h1 (And.intro h2 (And.intro hu1 hu2)))
   have hsz2 := h2.size
   clear h1 h2 hu1 hu2
   go_wp2_with (at_builtin; (refine wpList_append_lies _ rfl (.tmp 11) (.tmp 17) 28 rfl w.heap.size 24 i0 (.slice none 0 0) 1 24 Tryz.underlying28 hi0 hz0 hz1 hz2 rfl (by decide) _ L.length us rfl (World.ownsRow.alloc H2.out.2.2.1 _) ⟨w2.heap.size, 0, none⟩ 1 1 [.slice A2 LX.length c2] rfl rfl (World.news_of_block (blk_new _ _)) (by simp [Value.oneCell']) (by decide) (by unfold maxLen; omega) (by omega) (by simp; omega) (w2.heap.size + 1) (by simp) ?_); intro g3 c3 W3 hown3 hgrow3 hlie3 hlt3)
   have HR3 := Lib.hid (retr_push HJ.out.2 hsz H2.out.2.1 H2.out.1 H2.out.2.2.2 (by have := H2.out.2.2.1.1; omega) hown3 hgrow3 hlie3)
   go_roundw
   case rel => exact ⟨k + 1, by go_num, by omega, Lib.hid ⟨HJ.out.1.trans HR3.out.2, by rw [HTK.out]; exact HR3.out.1⟩⟩
   case measure => simp [intOf]; omega
  ·obtain rfl : k = ls.length := by omega
   have HO := HJ.out.2
   rw [HE.out] at HO
   have HB := Lib.hid (And.intro HO HJ.out.1)
   clear HO HJ
   go_wp2
   go_ret
   exact ⟨_, rfl, HB.out.1, HB.out.2⟩
end Go.Proofs.YtgeplpdcnanmnaaGreat
