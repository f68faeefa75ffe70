/- The program's signatures: what is right. The program's signatures: Right. The program's signatures: Verify. Conditions: as each theorem states them. -/
import Derived.Test.YtgeplpdcnanmnaaGreatZao
import Derived.Test.YtgeplpdcnanmnaaGreatZan
namespace Go.Proofs.YtgeplpdcnanmnaaGreat
open Go.RowKit
set_option linter.unusedVariables false
set_option linter.unusedSimpArgs false

theorem hashes1_any (A : Option Addr) (n c : Nat) (w : World) :
  Calls Tryz.prog 214 #[.slice A n c] w fun e w' => e = .returned (.bool (((n : Nat) : Int) != 32)) ∧ w = w' := by
 go_enter Tryz.func214, Tryz.ntmps214
 go_wp2
 go_ret
 exact ⟨rfl, rfl⟩
set_option maxRecDepth 100000 in
set_option maxHeartbeats 2000000 in
theorem indexf_any (v : Value) (ls : List (List UInt8)) (hsm : ls.length ≤ 1000000000) (w : World) (hx : Rws w v ls) :
  Calls Tryz.prog 177 #[v, .func (.func 214) #[] #[]] w fun e w' => ∃ r : Int, e = .returned (.int .i64 r) ∧ decide (0 ≤ r) = !(ls.all len32) ∧ Below w.heap.size w w' := by
 obtain ⟨A, c, rfl⟩ := hx.form
 have HX := Lib.hid hx
 clear hx
 go_enter Tryz.func177, Tryz.ntmps177
 go_wp2
 go_loopw [8] (fun v8 wr => ∃ k : Nat, v8 = .int .i64 k ∧ k ≤ ls.length ∧ Hid (Below w.heap.size w wr ∧ ∀ j (h : j < ls.length), j < k → ls[j].length = 32)) (fun v _ => ls.length - (intOf v).toNat)
 case atStart => exact ⟨0, rfl, Nat.zero_le _, Lib.hid ⟨Below.refl _ _, fun j h hj => by omega⟩⟩
 case round =>
  obtain ⟨k, rfl, hk, HI⟩ := hrel
  by_cases hlt : k < ls.length
  ·obtain ⟨g, o, u, rfl, hg, -, -, hcu, hbu⟩ := HX.out.at' k hlt
   have p0 := (HI.out.1.cell (p := ⟨g, o + k, none⟩) hg).trans hcu
   obtain ⟨A9, c9, rfl⟩ := hbu.form
   clear hcu hbu
   by_cases h32 : ls[k].length = 32
   ·have hnl : (((ls[k].length : Nat) : Int) != 32) = false := by simp [h32]
    have H32 := Lib.hid h32
    have HC := Lib.hid (hashes1_any A9 ls[k].length c9 wr)
    rw [hnl] at HC
    clear h32 hnl
    go_wp2_with (go_at_call 214; refine HC.out.mono ?_; rintro e w' ⟨rfl, rfl⟩)
    go_roundw
    case rel => exact ⟨k + 1, by go_num, by omega, Lib.hid ⟨HI.out.1, fun j h hj => by
     by_cases e : j = k
     ·subst e; exact H32.out
     ·exact HI.out.2 j h (by omega)⟩⟩
    case measure => simp [intOf]; omega
   ·have hnl : (((ls[k].length : Nat) : Int) != 32) = true := by simp; omega
    have HF : Hid (ls.all len32 = false) := Lib.hid (all32_not k hlt h32)
    have HC := Lib.hid (hashes1_any A9 ls[k].length c9 wr)
    rw [hnl] at HC
    clear h32 hnl
    go_wp2_with (go_at_call 214; refine HC.out.mono ?_; rintro e w' ⟨rfl, rfl⟩)
    go_ret
    exact ⟨_, rfl, by rw [HF.out]; simp, HI.out.1⟩
  ·have HA : Hid (ls.all len32 = true) := Lib.hid (all32_of (fun j h => HI.out.2 j h (by omega)))
   go_wp2
   go_ret
   exact ⟨_, rfl, by rw [HA.out]; rfl, HI.out.1⟩
theorem containsf_any (v : Value) (ls : List (List UInt8)) (hsm : ls.length ≤ 1000000000) (w : World) (hx : Rws w v ls) :
  Calls Tryz.prog 131 #[v, .func (.func 214) #[] #[]] w fun e w' => e = .returned (.bool (!(ls.all len32))) ∧ Below w.heap.size w w' := by
 have HI := Lib.hid (indexf_any v ls hsm w hx)
 obtain ⟨A, c, rfl⟩ := hx.form
 go_enter Tryz.func131, Tryz.ntmps131
 go_wp2_with fail
 refine HI.out.mono ?_
 rintro e w1 ⟨r, rfl, h1, h2⟩
 have H1 := Lib.hid (And.intro h1 h2)
 clear h1 h2
 go_wp2
 go_ret
 exact ⟨by rw [← H1.out.1]; rfl, H1.out.2⟩
theorem hashes_any (v : Value) (n : Nat) (ls : List (List UInt8)) (hsm : ls.length ≤ 1000000000) (w : World) (hx : Rws w v ls) :
  Calls Tryz.prog 199 #[v, .int .i64 n] w fun e w' => e = .returned (.bool (decide (ls.length = n) && ls.all len32)) ∧ Below w.heap.size w w' := by
 have HI := Lib.hid (containsf_any v ls hsm w hx)
 obtain ⟨A, c, rfl⟩ := hx.form
 go_enter Tryz.func199, Tryz.ntmps199
 by_cases h : ls.length = n
 ·have hb : (((ls.length : Nat) : Int) == (n : Int)) = true := by simp [h]
  have H := Lib.hid h
  clear h
  go_wp2_with fail
  refine HI.out.mono ?_
  rintro e w1 ⟨rfl, h2⟩
  have H2 := Lib.hid h2
  clear h2
  go_wp2
  go_ret
  exact ⟨by rw [H.out]; simp, H2.out⟩
 ·have hb : (((ls.length : Nat) : Int) == (n : Int)) = false := by simp; omega
  have H := Lib.hid h
  clear h
  go_wp2
  go_ret
  exact ⟨by simp [H.out], Below.refl _ _⟩
set_option maxRecDepth 100000 in
set_option maxHeartbeats 2000000 in
theorem pright_any (v : Value) (s : SigD) (hp : s.parts.length ≤ 1000000000) (hq : s.path.length ≤ 1000000000) (w : World) (hv : SigV w v s) :
  Calls Tryz.prog 178 #[v] w fun e w' => e = .returned (.bool (rightB s)) ∧ Below w.heap.size w w' := by
 obtain ⟨p, q, rfl, h1, h2⟩ := hv
 obtain ⟨P, cp, rfl⟩ := h1.form
 obtain ⟨Q, cq, rfl⟩ := h2.form
 have hk0 := Blk.new w 37 [.int .i64 s.index, .slice P s.parts.length cp, .slice Q s.path.length cq]
 have HB0 := Lib.hid ((Below.refl w.heap.size w).alloc (Nat.le_refl _) (.cells #[.int .i64 s.index, .slice P s.parts.length cp, .slice Q s.path.length cq] 37))
 have HR := Lib.hid (And.intro h1 (And.intro h2 hk0))
 have HH1 := Lib.hid (fun wz hz => hashes_any (.slice P s.parts.length cp) 64 s.parts hp wz hz)
 have HH2 := Lib.hid (fun wz hz => hashes_any (.slice Q s.path.length cq) 4 s.path hq wz hz)
 have HRB : Hid (rightB s = ((decide (0 ≤ s.index) && decide (s.index < 16)) && (decide (s.parts.length = 64) && s.parts.all len32) && (decide (s.path.length = 4) && s.path.all len32))) := Lib.hid (by
  unfold rightB
  cases decide (0 ≤ s.index) <;> cases decide (s.index < 16) <;> cases decide (s.parts.length = 64) <;> cases decide (s.path.length = 4) <;> cases s.parts.all len32 <;> cases s.path.all len32 <;> rfl)
 clear h1 h2 hk0
 generalize rightB s = RB at *
 generalize s.index = ix at *
 generalize hb1 : (decide (s.parts.length = 64) && s.parts.all len32) = B1 at *
 generalize hb2 : (decide (s.path.length = 4) && s.path.all len32) = B2 at *
 clear hb1 hb2
 generalize s.parts = Ps at *
 generalize s.path = Qs at *
 go_enter Tryz.func178, Tryz.ntmps178
 by_cases k1 : 0 ≤ ix
 ·by_cases k2 : ix < 16
  ·cases B1 with
   | false =>
    have HT : Hid (RB = false) := Lib.hid (by rw [HRB.out]; simp)
    go_wp2_with fail
    refine (HH1.out _ (HR.out.1.below HB0.out)).mono ?_
    rintro e w1 ⟨rfl, h1⟩
    have HW := Lib.hid (And.intro (HR.out.2.2.below h1) (HB0.out.trans (h1.mono (by simp))))
    have q0 := HW.out.1.cell 0 _ rfl
    have q1 := HW.out.1.cell 1 _ rfl
    have q2 := HW.out.1.cell 2 _ rfl
    clear h1
    go_wp2
    go_ret
    exact ⟨by rw [HT.out]; rfl, HW.out.2⟩
   | true =>
    have HT : Hid (RB = B2) := Lib.hid (by rw [HRB.out]; simp [k1, k2])
    go_wp2_with fail
    refine (HH1.out _ (HR.out.1.below HB0.out)).mono ?_
    rintro e w1 ⟨rfl, h1⟩
    have HW := Lib.hid (And.intro (HR.out.2.2.below h1) (HB0.out.trans (h1.mono (by simp))))
    have q0 := HW.out.1.cell 0 _ rfl
    have q1 := HW.out.1.cell 1 _ rfl
    have q2 := HW.out.1.cell 2 _ rfl
    clear h1
    go_wp2_with fail
    refine (HH2.out _ (HR.out.2.1.below HW.out.2)).mono ?_
    rintro e w2 ⟨rfl, h2⟩
    have HW2 := Lib.hid (HW.out.2.trans (h2.mono HW.out.2.size))
    clear h2
    go_wp2
    go_ret
    exact ⟨by rw [HT.out]; rfl, HW2.out⟩
  ·have HT : Hid (RB = false) := Lib.hid (by rw [HRB.out]; simp [k2])
   go_wp2
   go_ret
   exact ⟨by rw [HT.out]; rfl, HB0.out⟩
 ·have HT : Hid (RB = false) := Lib.hid (by rw [HRB.out]; simp [k1])
  go_wp2
  go_ret
  exact ⟨by rw [HT.out]; rfl, HB0.out⟩
def atS (ix : Int) : Nat → Int
 | 0 => ix
 | h + 1 => atS ix h / 2
theorem side_ok : ∀ i : Fin 16, ∀ h : Fin 4, 0 ≤ atS (i.val : Int) h.val ∧ atS (i.val : Int) h.val < 16 ∧ (sideS (i.val : Int) h.val == 0) = (atS (i.val : Int) h.val % 2 == 0) := by decide +kernel
theorem side_at (ix : Int) (h0 : 0 ≤ ix) (h1 : ix < 16) (h : Nat) (hh : h < 4) : 0 ≤ atS ix h ∧ atS ix h < 16 ∧ (sideS ix h == 0) = (atS ix h % 2 == 0) := by
 obtain ⟨n, rfl⟩ := Int.eq_ofNat_of_zero_le h0
 exact side_ok ⟨n, by omega⟩ ⟨h, hh⟩
set_option maxRecDepth 100000 in
set_option maxHeartbeats 4000000 in
theorem pverify_any (vp vm v : Value) (pub msg : List UInt8) (s : SigD) (hpub : pub.length ≤ 1000000000) (hmsg : msg.length ≤ 1000000000) (hp : s.parts.length ≤ 1000000000) (hq : s.path.length ≤ 1000000000) (w : World) (hvp : Bys w vp pub) (hvm : Bys w vm msg) (hv : SigV w v s) :
  Calls Tryz.prog 133 #[vp, vm, v] w fun e w' => e = .returned (.bool (verifyB pub msg s)) ∧ Below w.heap.size w w' := by
 have HRI := Lib.hid (fun (wz : World) (v : Value) (hz : SigV wz v s) => pright_any v s hp hq wz hz)
 obtain ⟨p, q, rfl, h1, h2⟩ := hv
 obtain ⟨P, cp, rfl⟩ := h1.form
 obtain ⟨Q, cq, rfl⟩ := h2.form
 obtain ⟨A, c, rfl⟩ := hvp.form
 obtain ⟨B, d, rfl⟩ := hvm.form
 have HR := Lib.hid (And.intro h1 (And.intro h2 (And.intro hvp hvm)))
 have HVB : Hid (verifyB pub msg s = (rightB s && (upS s.index s.path (rootS msg s.parts) 4 == pub))) := Lib.hid rfl
 clear h1 h2 hvp hvm
 generalize verifyB pub msg s = VB at *
 go_enter Tryz.func133, Tryz.ntmps133
 go_wp2_with fail
 refine calls_at (fun w1 => Below w.heap.size w w1 ∧ Blk w1 w.heap.size 37 [.int .i64 s.index, .slice P s.parts.length cp, .slice Q s.path.length cq]) ⟨(Below.refl w.heap.size w).alloc (Nat.le_refl _) _, Blk.new w 37 [.int .i64 s.index, .slice P s.parts.length cp, .slice Q s.path.length cq]⟩ ?_
 rintro w1 ⟨hb1, hk1⟩
 have H1 := Lib.hid (And.intro hb1 hk1)
 refine (HRI.out w1 _ ⟨_, _, rfl, HR.out.1.below hb1, HR.out.2.1.below hb1⟩).mono ?_
 clear hb1 hk1
 rintro e w2 ⟨rfl, h2⟩
 have H2 := Lib.hid (And.intro (H1.out.1.trans (h2.mono H1.out.1.size)) (H1.out.2.below h2))
 clear h2 H1
 cases hrb : rightB s with
 | false =>
  have HF : Hid (VB = false) := Lib.hid (by rw [HVB.out, hrb]; rfl)
  clear hrb
  go_wp2
  go_ret
  exact ⟨by rw [HF.out]; rfl, H2.out.1⟩
 | true =>
  obtain ⟨k1, k2, k3, k4, k5, k6⟩ := rightB_facts hrb
  have HK := Lib.hid (And.intro k3 (And.intro k4 (And.intro k5 k6)))
  have HVB2 : Hid (VB = (upS s.index s.path (rootS msg s.parts) 4 == pub)) := Lib.hid (by rw [HVB.out, hrb]; rfl)
  clear hrb k3 k4 k5 k6
  have q1 := H2.out.2.cell 1 _ rfl
  have q0 := H2.out.2.cell 0 _ rfl
  have q2 := H2.out.2.cell 2 _ rfl
  go_wp2_with fail
  refine (proot_any _ _ msg s.parts HK.out.1 HK.out.2.2.1 hmsg w2 (HR.out.2.2.2.below H2.out.1) (HR.out.1.below H2.out.1)).mono ?_
  rintro e w3 ⟨v3, rfl, h3, h4⟩
  have HRL := Lib.hid (tagH_length 12 [rootAcc (digS msg) s.parts 64])
  have HRE : Hid (rootS msg s.parts = tagH 12 [rootAcc (digS msg) s.parts 64]) := Lib.hid rfl
  have H3 := Lib.hid (And.intro (H2.out.1.trans (h4.mono H2.out.1.size)) (And.intro (H2.out.2.below h4) (h3.bys)))
  have q1 := H3.out.2.1.cell 1 _ rfl
  have q0 := H3.out.2.1.cell 0 _ rfl
  have q2 := H3.out.2.1.cell 2 _ rfl
  clear h3 h4
  go_wp2
  go_loopw [7, 9, 27] (fun v7 v9 v27 wr => ∃ h : Nat, v9 = .int .i64 (atS s.index h) ∧ v27 = .int .i64 h ∧ h ≤ s.path.length ∧ Hid (Below w.heap.size w wr ∧ Bys wr v7 (upS s.index s.path (rootS msg s.parts) h))) (fun _ _ v _ => s.path.length - (intOf v).toNat)
  case atStart => exact ⟨0, rfl, rfl, Nat.zero_le _, Lib.hid ⟨H3.out.1, H3.out.2.2⟩⟩
  case round =>
   obtain ⟨h, rfl, rfl, hh, HI⟩ := hrel
   clear q0 q1 q2
   by_cases hpl : h < s.path.length
   ·have hlt : h < 4 := by have := HK.out.2.1; omega
    obtain ⟨g, o, un, rfl, hg, -, -, hcu, hbu⟩ := HR.out.2.1.at' h hpl
    have p0 := (HI.out.1.cell (p := ⟨g, o + h, none⟩) hg).trans hcu
    have hbn := hbu.below HI.out.1
    obtain ⟨A9, c9, rfl⟩ := hbn.form
    obtain ⟨A7, c7, rfl⟩ := HI.out.2.form
    have hlN : s.path[h].length = 32 := HK.out.2.2.2 h hpl
    have hlU := upS_length s.index s.path (rootS msg s.parts) (by rw [HRE.out]; exact HRL.out) h
    have HUP : Hid (upS s.index s.path (rootS msg s.parts) (h + 1) = if (sideS s.index h == 0) = true then tagH 14 [upS s.index s.path (rootS msg s.parts) h, s.path[h]] else tagH 14 [s.path[h], upS s.index s.path (rootS msg s.parts) h]) := Lib.hid (by
     show (if (sideS s.index h == 0) = true then tagH 14 [upS s.index s.path (rootS msg s.parts) h, s.path.getD h []] else tagH 14 [s.path.getD h [], upS s.index s.path (rootS msg s.parts) h]) = _
     rw [List.getD_eq_getElem?_getD, List.getElem?_eq_getElem hpl]; rfl)
    obtain ⟨ha0, ha1, haS⟩ := side_at s.index k1 k2 h hlt
    rw [haS] at HUP
    have HAN : Hid (atS s.index (h + 1) = atS s.index h / 2) := Lib.hid rfl
    clear haS
    have H9 := Lib.hid (And.intro HI.out.2 hbn)
    have hU2E : ∃ U2, upS s.index s.path (rootS msg s.parts) (h + 1) = U2 := ⟨_, rfl⟩
    obtain ⟨U2, hU2E⟩ := hU2E
    rw [hU2E] at HUP
    have HU2E := Lib.hid hU2E
    clear hU2E hcu hbu hbn
    generalize upS s.index s.path (rootS msg s.parts) h = U at *
    generalize s.path[h] = N at *
    generalize atS s.index h = AT at *
    have HL9 := Lib.hid (And.intro hlN hlU)
    clear hlN hlU
    have hsz := HI.out.1.size
    by_cases hside : AT % 2 = 0
    ·
     have hsf : (AT % 2 == 0) = true := by simpa using hside
     have HU2 : Hid (U2 = tagH 14 [U, N]) := Lib.hid (by rw [HUP.out, if_pos hsf])
     clear hside
     have hal := (Below.refl wr.heap.size wr).alloc (Nat.le_refl _) (.cells #[.slice A7 U.length c7, .slice A9 N.length c9] 24)
     go_wp2_with fail
     refine (ptag_any 14 14 rfl _ [U, N] (by have := HL9.out; simp; omega) (by simp) _ (new2 24 (b := wr.heap.size) rfl H9.out.1 H9.out.2)).mono ?_
     rintro e w5 ⟨v5, rfl, h5, h6⟩
     have hb5 := hal.trans (h6.mono (by simp))
     have H5 := Lib.hid (And.intro (HI.out.1.trans (hb5.mono hsz)) h5.bys)
     clear h5 h6 hb5 hal
     go_wp2
     go_roundw
     case rel => exact ⟨h + 1, by rw [HAN.out], by go_num, by omega, Lib.hid ⟨H5.out.1, by rw [HU2E.out, HU2.out]; exact H5.out.2⟩⟩
     case measure => simp [intOf]; omega
    ·
     have hsf : (AT % 2 == 0) = false := by simpa using hside
     have HU2 : Hid (U2 = tagH 14 [N, U]) := Lib.hid (by rw [HUP.out, hsf]; rfl)
     clear hside
     have hal := (Below.refl wr.heap.size wr).alloc (Nat.le_refl _) (.cells #[.slice A9 N.length c9, .slice A7 U.length c7] 24)
     go_wp2_with fail
     refine (ptag_any 14 14 rfl _ [N, U] (by have := HL9.out; simp; omega) (by simp) _ (new2 24 (b := wr.heap.size) rfl H9.out.2 H9.out.1)).mono ?_
     rintro e w5 ⟨v5, rfl, h5, h6⟩
     have hb5 := hal.trans (h6.mono (by simp))
     have H5 := Lib.hid (And.intro (HI.out.1.trans (hb5.mono hsz)) h5.bys)
     clear h5 h6 hb5 hal
     go_wp2
     go_roundw
     case rel => exact ⟨h + 1, by rw [HAN.out], by go_num, by omega, Lib.hid ⟨H5.out.1, by rw [HU2E.out, HU2.out]; exact H5.out.2⟩⟩
     case measure => simp [intOf]; omega
   ·have h4 : Hid (h = 4) := Lib.hid (by have := HK.out.2.1; omega)
    have hbA := HR.out.2.2.1.below HI.out.1
    obtain ⟨A7, c7, rfl⟩ := HI.out.2.form
    have HSM := Lib.hid (same_bytes _ _ _ _ wr HI.out.2 hbA)
    have HUE : Hid (upS s.index s.path (rootS msg s.parts) 4 = upS s.index s.path (rootS msg s.parts) h) := Lib.hid (by rw [h4.out])
    rw [HUE.out] at HVB2
    have HB := Lib.hid HI.out.1
    have hnl : ¬ (h : Int) < (s.path.length : Int) := by omega
    clear hbA HI hpl HUE
    generalize upS s.index s.path (rootS msg s.parts) h = U at *
    go_wp2_with fail
    refine HSM.out.mono ?_
    rintro e w' ⟨rfl, rfl⟩
    go_wp2
    go_ret
    exact ⟨by rw [HVB2.out]; rfl, HB.out⟩
end Go.Proofs.YtgeplpdcnanmnaaGreat
