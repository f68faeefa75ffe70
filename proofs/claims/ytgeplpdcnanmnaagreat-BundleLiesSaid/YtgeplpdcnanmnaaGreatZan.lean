/- The reference's owners' signatures: what verifies. The reference's owners: their trees of keys. Conditions: as each theorem states them. -/
import Derived.Test.YtgeplpdcnanmnaaGreatZal
import Derived.Deep.RegionHeld3
namespace Go.Proofs.YtgeplpdcnanmnaaGreat
open Go.RowKit
set_option linter.unusedVariables false
set_option linter.unusedSimpArgs false

def sideS (ix : Int) (h : Nat) : Int := bits .and .i64 (ix / 2 ^ h) 1
def upS (ix : Int) (path : List (List UInt8)) (r : List UInt8) : Nat → List UInt8
 | 0 => r
 | h + 1 => if (sideS ix h == 0) = true then tagH 14 [upS ix path r h, path.getD h []] else tagH 14 [path.getD h [], upS ix path r h]
theorem upS_length (ix : Int) (path : List (List UInt8)) (r : List UInt8) (hr : r.length = 32) (h : Nat) : (upS ix path r h).length = 32 := by
 induction h with
 | zero => exact hr
 | succ h ih =>
  unfold upS
  split
  ·exact tagH_length _ _
  ·exact tagH_length _ _
def verifyB (pub msg : List UInt8) (s : SigD) : Bool := rightB s && (upS s.index s.path (rootS msg s.parts) 4 == pub)
set_option maxRecDepth 100000 in
set_option maxHeartbeats 2000000 in
theorem rverify_any (vp vm v : Value) (pub msg : List UInt8) (s : SigD) (hpub : pub.length ≤ 1000000000) (hmsg : msg.length ≤ 1000000000) (hp : s.parts.length ≤ 1000000000) (hq : s.path.length ≤ 1000000000) (hl : ∀ i (h : i < s.parts.length), s.parts[i].length ≤ 1000000000) (hl2 : ∀ i (h : i < s.path.length), s.path[i].length ≤ 1000000000) (w : World) (hvp : Bys w vp pub) (hvm : Bys w vm msg) (hv : SigV w v s) :
  Calls Tryz.prog 66 #[vp, vm, v] w fun e w' => e = .returned (.bool (verifyB pub msg s)) ∧ Below w.heap.size w w' := by
 have HRI := Lib.hid (fun (wz : World) (v : Value) (hz : SigV wz v s) => rright_any v s hp hq hl hl2 wz hz)
 obtain ⟨p, q, rfl, h1, h2⟩ := hv
 obtain ⟨P, cp, rfl⟩ := h1.form
 obtain ⟨Q, cq, rfl⟩ := h2.form
 obtain ⟨A, c, rfl⟩ := hvp.form
 obtain ⟨B, d, rfl⟩ := hvm.form
 have HR := Lib.hid (And.intro h1 (And.intro h2 (And.intro hvp hvm)))
 have HVB : Hid (verifyB pub msg s = (rightB s && (upS s.index s.path (rootS msg s.parts) 4 == pub))) := Lib.hid rfl
 clear h1 h2 hvp hvm hl hl2
 generalize verifyB pub msg s = VB at *
 go_enter Tryz.func66, Tryz.ntmps66
 go_wp2_with fail
 refine calls_at (fun w1 => Below w.heap.size w w1 ∧ Blk w1 w.heap.size 37 [.int .i64 s.index, .slice P s.parts.length cp, .slice Q s.path.length cq]) ⟨(Below.refl w.heap.size w).alloc (Nat.le_refl _) _, Blk.new w 37 [.int .i64 s.index, .slice P s.parts.length cp, .slice Q s.path.length cq]⟩ ?_
 rintro w1 ⟨hb1, hk1⟩
 have H1 := Lib.hid (And.intro hb1 hk1)
 refine (HRI.out w1 _ ⟨_, _, rfl, HR.out.1.below hb1, HR.out.2.1.below hb1⟩).mono ?_
 clear hb1 hk1
 rintro e w2 ⟨rfl, h2⟩
 have H2 := Lib.hid (And.intro (H1.out.1.trans (h2.mono H1.out.1.size)) (H1.out.2.below h2))
 clear h2 H1
 cases hrb : rightB s with
 | false =>
  have HF : Hid (VB = false) := Lib.hid (by rw [HVB.out, hrb]; rfl)
  clear hrb
  go_wp2
  go_ret
  exact ⟨by rw [HF.out]; rfl, H2.out.1⟩
 | true =>
  obtain ⟨k1, k2, k3, k4, k5, k6⟩ := rightB_facts hrb
  have HK := Lib.hid (And.intro k3 (And.intro k4 (And.intro k5 k6)))
  have HVB2 : Hid (VB = (upS s.index s.path (rootS msg s.parts) 4 == pub)) := Lib.hid (by rw [HVB.out, hrb]; rfl)
  clear hrb k3 k4 k5 k6
  have q1 := H2.out.2.cell 1 _ rfl
  have q0 := H2.out.2.cell 0 _ rfl
  have q2 := H2.out.2.cell 2 _ rfl
  go_wp2_with fail
  refine (rroot_any _ _ msg s.parts HK.out.1 HK.out.2.2.1 hmsg w2 (HR.out.2.2.2.below H2.out.1) (HR.out.1.below H2.out.1)).mono ?_
  rintro e w3 ⟨v3, rfl, h3, h4⟩
  have HRL := Lib.hid (tagH_length 12 [rootAcc (digS msg) s.parts 64])
  have HRE : Hid (rootS msg s.parts = tagH 12 [rootAcc (digS msg) s.parts 64]) := Lib.hid rfl
  have H3 := Lib.hid (And.intro (H2.out.1.trans (h4.mono H2.out.1.size)) (And.intro (H2.out.2.below h4) (h3.bys)))
  clear h3 h4 q0 q1 q2
  go_wp2
  go_loopw [7, 9] (fun v7 v9 wr => ∃ h : Nat, v9 = .int .i64 h ∧ h ≤ 4 ∧ Hid (Below w.heap.size w wr ∧ Blk wr w.heap.size 37 [.int .i64 s.index, .slice P s.parts.length cp, .slice Q s.path.length cq] ∧ Bys wr v7 (upS s.index s.path (rootS msg s.parts) h))) (fun _ v _ => 4 - (intOf v).toNat)
  case atStart => exact ⟨0, rfl, by decide, H3⟩
  case round =>
   obtain ⟨h, rfl, hh, HI⟩ := hrel
   by_cases hlt : h < 4
   ·have q0 := HI.out.2.1.cell 0 _ rfl
    have q2 := HI.out.2.1.cell 2 _ rfl
    have hpl : h < s.path.length := by have := HK.out.2.1; omega
    obtain ⟨g, o, un, rfl, hg, -, -, hcu, hbu⟩ := HR.out.2.1.at' h hpl
    have p0 := (HI.out.1.cell (p := ⟨g, o + h, none⟩) hg).trans hcu
    have hbn := hbu.below HI.out.1
    obtain ⟨A9, c9, rfl⟩ := hbn.form
    obtain ⟨A7, c7, rfl⟩ := HI.out.2.2.form
    have hlN : s.path[h].length = 32 := HK.out.2.2.2 h hpl
    have hlU := upS_length s.index s.path (rootS msg s.parts) (by rw [HRE.out]; exact HRL.out) h
    have HUP : Hid (upS s.index s.path (rootS msg s.parts) (h + 1) = if (sideS s.index h == 0) = true then tagH 14 [upS s.index s.path (rootS msg s.parts) h, s.path[h]] else tagH 14 [s.path[h], upS s.index s.path (rootS msg s.parts) h]) := Lib.hid (by
     show (if (sideS s.index h == 0) = true then tagH 14 [upS s.index s.path (rootS msg s.parts) h, s.path.getD h []] else tagH 14 [s.path.getD h [], upS s.index s.path (rootS msg s.parts) h]) = _
     rw [List.getD_eq_getElem?_getD, List.getElem?_eq_getElem hpl]; rfl)
    have eside : bits BinOp.and IntKind.i64 (s.index / 2 ^ h) 1 = sideS s.index h := rfl
    have hpc : ((h : Nat) : Int) < ((s.path.length : Nat) : Int) := by omega
    have H9 := Lib.hid (And.intro HI.out.2.2 hbn)
    have hU2E : ∃ U2, upS s.index s.path (rootS msg s.parts) (h + 1) = U2 := ⟨_, rfl⟩
    obtain ⟨U2, hU2E⟩ := hU2E
    rw [hU2E] at HUP
    have HU2E := Lib.hid hU2E
    clear hU2E hcu hbu hbn
    generalize upS s.index s.path (rootS msg s.parts) h = U at *
    generalize s.path[h] = N at *
    generalize sideS s.index h = SI at *
    have HL9 := Lib.hid (And.intro hlN hlU)
    clear hlN hlU
    have hsz := HI.out.1.size
    by_cases hside : (SI == 0) = true
    ·
     have HU2 : Hid (U2 = tagH 14 [U, N]) := Lib.hid (by rw [HUP.out, if_pos hside])
     have hal := (Below.refl wr.heap.size wr).alloc (Nat.le_refl _) (.cells #[.slice A7 U.length c7, .slice A9 N.length c9] 24)
     go_wp2_with fail
     refine (rtag_any 14 14 rfl _ [U, N] (by have := HL9.out; simp; omega) (by simp) _ (new2 24 (b := wr.heap.size) rfl H9.out.1 H9.out.2)).mono ?_
     rintro e w5 ⟨v5, rfl, h5, h6⟩
     have hb5 := hal.trans (h6.mono (by simp))
     have H5 := Lib.hid (And.intro (HI.out.1.trans (hb5.mono hsz)) (And.intro (HI.out.2.1.below hb5) h5.bys))
     clear h5 h6 hb5 hal
     go_wp2
     go_roundw
     case rel => exact ⟨h + 1, by go_num, by omega, Lib.hid ⟨H5.out.1, H5.out.2.1, by rw [HU2E.out, HU2.out]; exact H5.out.2.2⟩⟩
     case measure => simp [intOf]; omega
    ·
     have HU2 : Hid (U2 = tagH 14 [N, U]) := Lib.hid (by rw [HUP.out, if_neg hside])
     have hsf : (SI == 0) = false := by simpa using hside
     clear hside
     have hal := (Below.refl wr.heap.size wr).alloc (Nat.le_refl _) (.cells #[.slice A9 N.length c9, .slice A7 U.length c7] 24)
     go_wp2_with fail
     refine (rtag_any 14 14 rfl _ [N, U] (by have := HL9.out; simp; omega) (by simp) _ (new2 24 (b := wr.heap.size) rfl H9.out.2 H9.out.1)).mono ?_
     rintro e w5 ⟨v5, rfl, h5, h6⟩
     have hb5 := hal.trans (h6.mono (by simp))
     have H5 := Lib.hid (And.intro (HI.out.1.trans (hb5.mono hsz)) (And.intro (HI.out.2.1.below hb5) h5.bys))
     clear h5 h6 hb5 hal
     go_wp2
     go_roundw
     case rel => exact ⟨h + 1, by go_num, by omega, Lib.hid ⟨H5.out.1, H5.out.2.1, by rw [HU2E.out, HU2.out]; exact H5.out.2.2⟩⟩
     case measure => simp [intOf]; omega
   ·obtain rfl : h = 4 := by omega
    have hbA := HR.out.2.2.1.below HI.out.1
    obtain ⟨A7, c7, rfl⟩ := HI.out.2.2.form
    have c1 := run_string_bys wr _ _ HI.out.2.2
    have c2 := run_string_bys wr _ _ hbA
    clear hbA
    generalize upS s.index s.path (rootS msg s.parts) 4 = U at *
    go_wp2
    go_ret
    exact ⟨by rw [HVB2.out]; rfl, HI.out.1⟩
def pubs (seed : List UInt8) (n : Nat) : List (List UInt8) := (List.range n).map (fun k : Nat => publicS seed (k : Int))
theorem pubs_succ (seed : List UInt8) (n : Nat) : pubs seed (n + 1) = pubs seed n ++ [publicS seed n] := by simp [pubs, List.range_succ]
theorem pubs_length (seed : List UInt8) (n : Nat) : (pubs seed n).length = n := by simp [pubs]
def abN (l : List (List UInt8)) : Nat → List (List UInt8)
 | 0 => []
 | n + 1 => abN l n ++ [tagH 14 [l.getD (2 * n) [], l.getD (2 * n + 1) []]]
theorem abN_length (l : List (List UInt8)) (n : Nat) : (abN l n).length = n := by
 induction n with
 | zero => rfl
 | succ n ih => show (abN l n ++ [_]).length = _; rw [List.length_append, ih]; rfl
theorem abN_32 (l : List (List UInt8)) (n : Nat) : ∀ i (h : i < (abN l n).length), (abN l n)[i].length = 32 := by
 induction n with
 | zero => intro i h; exact absurd h (Nat.not_lt_zero _)
 | succ n ih =>
  intro i h
  have e : abN l (n + 1) = abN l n ++ [tagH 14 [l.getD (2 * n) [], l.getD (2 * n + 1) []]] := rfl
  by_cases hi : i < (abN l n).length
  ·simp only [e, List.getElem_append_left hi]; exact ih i hi
  ·have : i = (abN l n).length := by rw [e] at h; simp at h; omega
   subst this
   simp only [e, List.getElem_append_right (Nat.le_refl _), Nat.sub_self, List.getElem_cons_zero]
   exact tagH_length _ _
def levelS (seed : List UInt8) : Nat → List (List UInt8)
 | 0 => pubs seed 16
 | h + 1 => abN (levelS seed h) ((levelS seed h).length / 2)
theorem levelS_length (seed : List UInt8) : (levelS seed 0).length = 16 ∧ (levelS seed 1).length = 8 ∧ (levelS seed 2).length = 4 ∧ (levelS seed 3).length = 2 ∧ (levelS seed 4).length = 1 := by
 have h0 : (levelS seed 0).length = 16 := pubs_length seed 16
 have h1 : (levelS seed 1).length = 8 := by show (abN _ _).length = 8; rw [abN_length, h0]
 have h2 : (levelS seed 2).length = 4 := by show (abN _ _).length = 4; rw [abN_length, h1]
 have h3 : (levelS seed 3).length = 2 := by show (abN _ _).length = 2; rw [abN_length, h2]
 have h4 : (levelS seed 4).length = 1 := by show (abN _ _).length = 1; rw [abN_length, h3]
 exact ⟨h0, h1, h2, h3, h4⟩
theorem levelS_two (seed : List UInt8) (h : Nat) (hh : h < 4) : ∃ K, (levelS seed h).length = 2 * K ∧ 1 ≤ K ∧ K ≤ 8 := by
 obtain ⟨h0, h1, h2, h3, h4⟩ := levelS_length seed
 obtain rfl | rfl | rfl | rfl : h = 0 ∨ h = 1 ∨ h = 2 ∨ h = 3 := by omega
 ·exact ⟨8, h0, by decide, by decide⟩
 ·exact ⟨4, h1, by decide, by decide⟩
 ·exact ⟨2, h2, by decide, by decide⟩
 ·exact ⟨1, h3, by decide, by decide⟩
theorem levelS_32 (seed : List UInt8) (h : Nat) : ∀ i (hi : i < (levelS seed h).length), (levelS seed h)[i].length = 32 := by
 cases h with
 | zero => intro i hi; show ((pubs seed 16)[i]'hi).length = 32; simp [pubs, publicS_length]
 | succ h => exact abN_32 _ _

def OwnL (w : World) (base : Nat) (v : Value) (Ls : List (List (List UInt8))) : Prop :=
 ∃ us, w.ownsRow base 28 1 v Ls.length us ∧ ∀ i (h : i < Ls.length), ∃ u, us[i]? = some u ∧ RwsF (fun g => base ≤ g ∧ g < w.heap.size ∧ v.ownBlock ≠ some g) w u Ls[i]
theorem OwnL.chg {w w1 : World} {base : Nat} {v : Value} {Ls : List (List (List UInt8))} {T : Nat → Prop} (h : OwnL w base v Ls) (hc : Chg w w1 T) (hT : ∀ g, base ≤ g → g < w.heap.size → ¬ T g) : OwnL w1 base v Ls := by
 obtain ⟨us, h1, h2⟩ := h
 refine ⟨us, ownsRow_chg h1 hc (fun k hk => by have := World.ownsRow.lt h1 k hk; exact hT k this.1 this.2), fun i hi => ?_⟩
 obtain ⟨u, e, hu⟩ := h2 i hi
 exact ⟨u, e, (hu.chg hc (fun g hg => hT g hg.1 hg.2.1)).mono (fun g hg => ⟨hg.1, Nat.lt_of_lt_of_le hg.2.1 hc.size, hg.2.2⟩)⟩
theorem OwnL.push {w W : World} {base g cap : Nat} {v u : Value} {Ls : List (List (List UInt8))} {l : List (List UInt8)} {us : List Value} {t : TypeId} {cs : Array Value}
  (h1 : ∀ i (h : i < Ls.length), ∃ u, us[i]? = some u ∧ RwsF (fun g => base ≤ g ∧ g < w.heap.size ∧ v.ownBlock ≠ some g) w u Ls[i]) (hl : us.length = Ls.length)
  (hu : RwsF (fun g => base ≤ g ∧ g < w.heap.size ∧ v.ownBlock ≠ some g) w u l)
  (ho : W.ownsRow base 28 1 (.slice (some ⟨g, 0, none⟩) (Ls.length + 1) cap) (Ls.length + 1) (us ++ [u])) (hg : (w.alloc (.cells cs t)).grownBy W v.ownBlock) (hlie : v.ownBlock = some g ∨ g = w.heap.size + 1) :
  OwnL W base (.slice (some ⟨g, 0, none⟩) (Ls.length + 1) cap) (Ls ++ [l]) := by
 have hc : Chg w W (fun k => v.ownBlock = some k) := ((Chg.refl w _).alloc _).trans (Chg.of_grown hg) (fun i _ h => h.symm)
 have keep : ∀ (x : Value) (m : List (List UInt8)), RwsF (fun g => base ≤ g ∧ g < w.heap.size ∧ v.ownBlock ≠ some g) w x m → RwsF (fun k => base ≤ k ∧ k < W.heap.size ∧ (some g : Option Nat) ≠ some k) W x m := fun x m hx =>
  (hx.chg hc (fun k hk => hk.2.2)).mono (fun k hk => ⟨hk.1, Nat.lt_of_lt_of_le hk.2.1 hc.size, fun e => by
   injection e with e
   rcases hlie with hlie | hlie
   ·exact hk.2.2 (by rw [hlie, e])
   ·omega⟩)
 refine ⟨us ++ [u], by rw [List.length_append]; exact ho, fun i hi => ?_⟩
 by_cases hi' : i < Ls.length
 ·obtain ⟨x, e, hx⟩ := h1 i hi'
  refine ⟨x, by rw [List.getElem?_append_left (by omega)]; exact e, ?_⟩
  rw [List.getElem_append_left hi']
  exact keep x _ hx
 ·have : i = Ls.length := by simp at hi; omega
  subst this
  refine ⟨u, by rw [List.getElem?_append_right (by omega), hl]; simp, ?_⟩
  rw [List.getElem_append_right (Nat.le_refl _)]
  simp only [Nat.sub_self, List.getElem_cons_zero]
  exact keep u l hu
theorem chg_belowB {w w1 : World} {B : Nat} (h : Below B w w1) : Chg w w1 (fun k => B ≤ k) := ⟨h.os, h.tape, h.output, h.size, fun k hk hn => h.block k (by omega)⟩
theorem info_rows : (Tryz.prog.info? 28).map (fun i => (i.zero, i.size, i.bytes)) = some (some (.slice none 0 0), 1, 24) := by kernel_rfl

end Go.Proofs.YtgeplpdcnanmnaaGreat
