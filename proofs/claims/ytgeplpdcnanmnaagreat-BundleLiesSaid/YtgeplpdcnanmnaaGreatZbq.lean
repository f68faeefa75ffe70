/- The law's wrong: of a bundle one thing is turned. Conditions: as each theorem states them. -/
import Derived.Test.YtgeplpdcnanmnaaGreatZbo
import Derived.Test.YtgeplpdcnanmnaaGreatZaa
import Derived.Test.YtgeplpdcnanmnaaGreatZav
import Derived.Test.YtgeplpdcnanmnaaGreatZao
import Derived.Laws.BitsAllLaws
import Derived.StillTailTactics
import Derived.Deep.DeepCutAuto
import Derived.Deep.CutBlock
namespace Go.Proofs.YtgeplpdcnanmnaaGreat
open Go.RowKit
set_option linter.unusedVariables false
set_option linter.unusedSimpArgs false

def OutW (D : Nat → Prop) (w : World) (g : Nat) : Prop := D g ∧ g ≠ w.heap.size ∧ g ≠ w.heap.size + 1 + 1
theorem OutW.lo {D : Nat → Prop} {w : World} {g : Nat} (h : D g ∧ g < w.heap.size) : OutW D w g := ⟨h.1, by have := h.2; omega, by have := h.2; omega⟩
theorem OutW.hi {D : Nat → Prop} {w : World} {g base : Nat} (hb : base ≤ w.heap.size) (hD : ∀ g, base ≤ g → D g) (h : w.heap.size + 1 + 1 < g) : OutW D w g := ⟨hD g (by omega), by omega, by omega⟩
def WrS (D : Nat → Prop) (base : Nat) (w wc : World) (b : BunD) : Prop := Below base w wc ∧ ∃ m p r q s c, Blk wc w.heap.size 42 [m, .int .i64 b.prf.index, .int .i64 b.prf.size, p, .int .i64 b.sg.ck.num, r, .int .i64 b.sg.sig.index, q, s, c] ∧ BunF (OutW D w) wc m p r q s c b ∧ Blk wc (w.heap.size + 1 + 1) 42 [.slice none 0 0, .int .i64 0, .int .i64 0, .slice none 0 0, .int .i64 0, .slice none 0 0, .int .i64 0, .slice none 0 0, .slice none 0 0, .slice none 0 0]
theorem xor_u8 (a b : UInt8) : bits .xor .u8 ((a.toNat : Nat) : Int) ((b.toNat : Nat) : Int) = (((a ^^^ b).toNat : Nat) : Int) := by
 rw [u8_xor_nat _ _ (UInt8.toNat_lt a) (UInt8.toNat_lt b), UInt8.toNat_xor]
theorem bys_set (l : List UInt8) (k : Nat) (b : UInt8) : bys (l.set k b) = (bys l).set k (.int .u8 (b.toNat : Nat)) := by simp [bys, List.map_set]
theorem wrs_set {D : Nat → Prop} {base : Nat} {w wc : World} {b : BunD} {m p r q s c : Value} {cs : List Value} (i : Nat) (u : Value) (hb : base ≤ w.heap.size) (h1 : Below base w wc) (h2 : Blk wc w.heap.size 42 cs) (h4 : Blk wc (w.heap.size + 1 + 1) 42 [.slice none 0 0, .int .i64 0, .int .i64 0, .slice none 0 0, .int .i64 0, .slice none 0 0, .int .i64 0, .slice none 0 0, .slice none 0 0, .slice none 0 0]) (hi : i < cs.length) (hX : BunF (OutW D w) wc m p r q s c b)
  (hc : cs.set i u = [m, .int .i64 b.prf.index, .int .i64 b.prf.size, p, .int .i64 b.sg.ck.num, r, .int .i64 b.sg.sig.index, q, s, c]) : WrS D base w (wc.setCell ⟨w.heap.size, i, none⟩ u) b := by
 have hch : Chg wc (wc.setCell ⟨w.heap.size, i, none⟩ u) (fun k => k = w.heap.size) := chg_cell (Chg.refl _ _) i u
 have hk := h2.set i u hi
 rw [hc] at hk
 have hs := h1.size
 exact ⟨h1.trans (hch.below (by omega) (fun k hk => by have e : k = w.heap.size := hk; omega)), m, p, r, q, s, c, hk, hX.chg hch (fun g hg e => hg.2.1 e), h4.chg hch (by omega)⟩
set_option maxRecDepth 100000 in
set_option maxHeartbeats 8000000 in
theorem wrong_any (D : Nat → Prop) (base : Nat) (x : DrD) (b : BunD) (m p r q s c : Value) (w : World) (hb : base ≤ w.heap.size) (hD : ∀ g, base ≤ g → D g) (ho : BunO D w base m p r q s c b) (hI : 0 ≤ b.prf.index ∧ b.prf.index ≤ 1000) (hZ : 0 ≤ b.prf.size ∧ b.prf.size ≤ 1000) (hC : 0 ≤ b.sg.ck.num ∧ b.sg.ck.num ≤ 1000) (hm : 1 ≤ b.man.length ∧ b.man.length ≤ 1000) (hn : b.cos.length ≤ 1000) (hp : b.prf.path.length ≤ 1000) :
  Calls Tryz.prog 46 #[.agg #[m, .int .i64 b.prf.index, .int .i64 b.prf.size, p, .int .i64 b.sg.ck.num, r, .int .i64 b.sg.sig.index, q, s, c], .agg #[.int .i64 x.leaves, .int .i64 x.leaf, .int .i64 x.cosigs, .int .i64 x.wrong, .int .i64 x.at', .int .u8 x.turn.toNat]] w fun e w' => ∃ m p r q s c, e = .returned (.agg #[m, .int .i64 (wrongD b x).prf.index, .int .i64 (wrongD b x).prf.size, p, .int .i64 (wrongD b x).sg.ck.num, r, .int .i64 (wrongD b x).sg.sig.index, q, s, c]) ∧ BunF D w' m p r q s c (wrongD b x) ∧ Below base w w' := by
 obtain ⟨j0, hj0, hy0, hy1, hy2⟩ := info_parts info_u8
 obtain ⟨k0, hk0, hv0, hv1, hv2⟩ := info_parts info_bytes
 obtain ⟨i0, hi0, hz0, hz1, hz2⟩ := info_parts info_cosigB
 obtain ⟨M, cm, rfl⟩ := ho.1.1.form
 obtain ⟨P, cp, rfl⟩ := ho.2.1.rws.form
 obtain ⟨R, cr, rfl⟩ := ho.2.2.1.1.form
 obtain ⟨Q, cq, rfl⟩ := ho.2.2.2.1.rws.form
 obtain ⟨S, cs, rfl⟩ := ho.2.2.2.2.1.rws.form
 obtain ⟨C, cc, rfl⟩ := ho.2.2.2.2.2.form
 obtain ⟨MN, ⟨IX, SZ, PS⟩, ⟨⟨NM, RT⟩, ⟨SX, PT, SP⟩⟩, CO⟩ := b
 obtain ⟨xl, xf, xc, xw, xa, xt⟩ := x
 dsimp only at *
 have HO := Lib.hid ho
 have HF0 := Lib.hid (ho.foot hD)
 have HDD := Lib.hid hD
 obtain ⟨hI1, hI2⟩ := hI
 obtain ⟨hZ1, hZ2⟩ := hZ
 obtain ⟨hC1, hC2⟩ := hC
 obtain ⟨hm1, hm2⟩ := hm
 have HBB := Lib.hid hb
 clear ho hb hD
 go_enter Tryz.func46, Tryz.ntmps46
 go_upto_region 1 with fail
 refine code_at (fun w2 => Below w.heap.size w w2 ∧ Blk w2 w.heap.size 42 [.slice M MN.length cm, .int .i64 IX, .int .i64 SZ, .slice P PS.length cp, .int .i64 NM, .slice R RT.length cr, .int .i64 SX, .slice Q PT.length cq, .slice S SP.length cs, .slice C CO.length cc] ∧ Blk w2 (w.heap.size + 1) 23 [.int .i64 xl, .int .i64 xf, .int .i64 xc, .int .i64 xw, .int .i64 xa, .int .u8 xt.toNat] ∧ Blk w2 (w.heap.size + 1 + 1) 42 [.slice none 0 0, .int .i64 0, .int .i64 0, .slice none 0 0, .int .i64 0, .slice none 0 0, .int .i64 0, .slice none 0 0, .slice none 0 0, .slice none 0 0]) (blk3 w [.slice M MN.length cm, .int .i64 IX, .int .i64 SZ, .slice P PS.length cp, .int .i64 NM, .slice R RT.length cr, .int .i64 SX, .slice Q PT.length cq, .slice S SP.length cs, .slice C CO.length cc] [.int .i64 xl, .int .i64 xf, .int .i64 xc, .int .i64 xw, .int .i64 xa, .int .u8 xt.toNat] [.slice none 0 0, .int .i64 0, .int .i64 0, .slice none 0 0, .int .i64 0, .slice none 0 0, .int .i64 0, .slice none 0 0, .slice none 0 0, .slice none 0 0] 42 23 42 _ rfl) ?_
 rintro w2 ⟨hb2, kb, kx, kz⟩
 have HB2 := Lib.hid hb2
 have HKB := Lib.hid kb
 have HKX := Lib.hid kx
 have HKZ := Lib.hid kz
 have hzl := kz.lt
 have x3 := kx.cell 3 _ rfl
 clear hb2 kb kx kz
 go_upto_block 0 with fail
 go_cut [] (fun wc => Hid (WrS D base w wc (wrongD (⟨MN, ⟨IX, SZ, PS⟩, ⟨⟨NM, RT⟩, ⟨SX, PT, SP⟩⟩, CO⟩ : BunD) (⟨xl, xf, xc, xw, xa, xt⟩ : DrD))))
 case first =>
  clear x3
  by_cases h1 : xw = 1
  ·subst h1
   as_aux_lemma =>
    obtain ⟨Z1, hZ1⟩ : ∃ Z1 : Int, (MN.length : Int) - 1 = Z1 := ⟨_, rfl⟩
    have HW := Lib.hid (fun wz : World => within_any xa 0 Z1 (by omega) (by omega) (by omega) wz)
    have HK := Lib.hid (withinZ_ge xa 0 Z1 (by omega))
    have HD : Hid (wrongD (⟨MN, ⟨IX, SZ, PS⟩, ⟨⟨NM, RT⟩, ⟨SX, PT, SP⟩⟩, CO⟩ : BunD) (⟨xl, xf, xc, 1, xa, xt⟩ : DrD) = ⟨MN.set (withinZ xa 0 Z1).toNat (MN.getD (withinZ xa 0 Z1).toNat 0 ^^^ xt), ⟨IX, SZ, PS⟩, ⟨⟨NM, RT⟩, ⟨SX, PT, SP⟩⟩, CO⟩) := Lib.hid (by subst hZ1; rfl)
    generalize wrongD (⟨MN, ⟨IX, SZ, PS⟩, ⟨⟨NM, RT⟩, ⟨SX, PT, SP⟩⟩, CO⟩ : BunD) (⟨xl, xf, xc, 1, xa, xt⟩ : DrD) = DD at *
    generalize withinZ xa 0 Z1 = KZ at *
    obtain ⟨K, hK⟩ := Int.eq_ofNat_of_zero_le HK.out.1
    subst hK
    have hKl : K < MN.length := by have := HK.out.2; omega
    have hKi : ((K : Nat) : Int) < ((MN.length : Nat) : Int) := by omega
    have e9 : IntKind.i64.wrap ((MN.length : Int) - 1) = Z1 := by rw [hZ1]; exact IntWalk.i64_in _ (by omega)
    have HZ1 := Lib.hid hZ1
    clear hZ1
    rw [Int.toNat_natCast] at HD
    have HFX := Lib.hid (HF0.out.below HB2.out)
    have hal := (Below.refl w2.heap.size w2).alloc (Nat.le_refl _) (.cells #[] 5)
    have HMB := Lib.hid (HFX.out.1.1.below hal)
    have hka : Blk (w2.alloc (.cells #[] 5)) w.heap.size 42 [.slice M MN.length cm, .int .i64 IX, .int .i64 SZ, .slice P PS.length cp, .int .i64 NM, .slice R RT.length cr, .int .i64 SX, .slice Q PT.length cq, .slice S SP.length cs, .slice C CO.length cc] := HKB.out.below hal
    have HAL := Lib.hid hal
    have HNB := Lib.hid (Blk.new w2 5 [])
    have g0 := hka.cell 0 _ rfl
    clear hal hka HK
    go_upto_region 4 with (at_builtin; (refine wpList_append_lie rfl (.tmp 9) (.tmp 11) 24 rfl w2.heap.size 5 j0 (.int .u8 0) 1 1 Tryz.underlying24 hj0 hy0 hy1 hy2 rfl (by decide) _ 0 [] rfl (own_none HNB.out (Nat.le_refl _)) _ MN.length (bys MN) rfl HMB.out.news (by unfold maxLen; omega) (by omega) (by simp) ?_); intro v3 W3 hown3 hgrow3 hlie3; have HB3 : Hid (Below w2.heap.size w2 W3) := Lib.hid (HAL.out.grown hgrow3 (by simp) (fun k e => by have e' : some w2.heap.size = some k := e; injection e' with e'; omega)); have HO3 : Hid (OwnB W3 w2.heap.size v3 MN) := Lib.hid (by have h9 := hown3; rw [Nat.zero_add, List.nil_append] at h9; exact h9); obtain ⟨g3, c3, rest3, rfl, hg3, hbk3, hle3, hmx3, -⟩ := own_block HO3.out hm1; have HK3 := Lib.hid hbk3; have f0 := (HKB.out.below HB3.out).free 0; have q0 := (HKB.out.below HB3.out).cell 0 _ rfl; clear hown3 hgrow3 hlie3 hbk3 g0)
    refine code_at (fun w5 => Blk w5 w.heap.size 42 [.slice (some ⟨g3, 0, none⟩) MN.length c3, .int .i64 IX, .int .i64 SZ, .slice P PS.length cp, .int .i64 NM, .slice R RT.length cr, .int .i64 SX, .slice Q PT.length cq, .slice S SP.length cs, .slice C CO.length cc] ∧ Blk w5 (w.heap.size + 1) 23 [.int .i64 xl, .int .i64 xf, .int .i64 xc, .int .i64 1, .int .i64 xa, .int .u8 xt.toNat] ∧ Blk w5 (w.heap.size + 1 + 1) 42 [.slice none 0 0, .int .i64 0, .int .i64 0, .slice none 0 0, .int .i64 0, .slice none 0 0, .int .i64 0, .slice none 0 0, .slice none 0 0, .slice none 0 0] ∧ Blk w5 g3 5 (bys MN ++ rest3) ∧ Chg W3 w5 (fun k => k = w.heap.size)) ?_ ?_
    ·have hch : Chg W3 (W3.setCell ⟨w.heap.size, 0, none⟩ (.slice (some ⟨g3, 0, none⟩) MN.length c3)) (fun k => k = w.heap.size) := chg_cell (Chg.refl _ _) 0 _
     exact ⟨(HKB.out.below HB3.out).set 0 _ (by simp), (HKX.out.below HB3.out).chg hch (by omega), (HKZ.out.below HB3.out).chg hch (by omega), HK3.out.chg hch (by omega), hch⟩
    clear f0 q0
    rintro w5 ⟨kb5, kx5, kz5, kr5, hc5⟩
    have x4 := kx5.cell 4 _ rfl
    have x5 := kx5.cell 5 _ rfl
    have b0 := kb5.cell 0 _ rfl
    have hMK : (bys MN ++ rest3)[K]? = some (.int .u8 ((MN.getD K 0).toNat : Nat)) := by
     rw [List.getElem?_append_left (by rw [bys_length]; exact hKl), bys_at MN K hKl, List.getD_eq_getElem?_getD, List.getElem?_eq_getElem hKl]
     rfl
    have bK := kr5.cell K _ hMK
    have fK : w5.drew.frozen? ⟨g3, K, none⟩ = false := kr5.free K
    have bK2 : w5.drew.cell? ⟨g3, K, none⟩ = some (.int .u8 ((MN.getD K 0).toNat : Nat)) := kr5.cell K _ hMK
    have HX := Lib.hid (xor_u8 (MN.getD K 0) xt)
    have H5 := Lib.hid (And.intro kb5.drew (And.intro kz5.drew (And.intro kr5.drew hc5.drew)))
    generalize MN.getD K 0 = B0 at *
    clear kb5 kx5 kz5 kr5 hc5 hMK
    go_wp2
    refine wp_region_still_tail 14 (by kernel_rfl) (by kernel_rfl) ?_
    simp only [List.take_succ_cons, List.take_zero, List.drop_succ_cons, List.drop_zero]
    change wpStill _ _ w5.drew _ _ _
    iterate 8 still_step
    still_call ((HW.out w5.drew).mono (fun _ _ h => ⟨h.1, h.2.symm⟩))
    iterate 5 still_step
    refine wpStill_nil ?_
    change wpList _ _ _ _ _ w5.drew
    clear x4 x5 b0 bK
    go_wp2
    go_meet
    case rel =>
     rw [HD.out, HX.out]
     have hch : Chg w5.drew (w5.drew.setCell ⟨g3, K, none⟩ (.int .u8 ((B0 ^^^ xt).toNat : Nat))) (fun k => k = g3) := chg_cell (Chg.refl _ _) K _
     have hall : Chg w2 (w5.drew.setCell ⟨g3, K, none⟩ (.int .u8 ((B0 ^^^ xt).toNat : Nat))) (fun k => k = w.heap.size) := ((Chg.of_below (S := fun k => k = w.heap.size) HB3.out).trans H5.out.2.2.2 (fun _ _ h => h)).trans hch (fun i hi h => by have e : i = g3 := h; omega)
     have hfx := HFX.out.chg hall (fun g hg e => by have h1 : g < w.heap.size := hg.2; have h2 : g = w.heap.size := e; omega)
     have hkr := H5.out.2.2.1.set K (.int .u8 ((B0 ^^^ xt).toNat : Nat)) (by rw [List.length_append, bys_length]; omega)
     rw [List.set_append_left _ _ (by rw [bys_length]; exact hKl), ← bys_set] at hkr
     have hsz2 := HB2.out.size
     have hbb := HBB.out
     refine Lib.hid ⟨(HB2.out.mono HBB.out).trans (hall.below (by omega) (fun k hk => by have e : k = w.heap.size := hk; omega)), _, _, _, _, _, _, H5.out.1.chg hch (by omega), ⟨⟨?_, fun _ g hg => OutW.hi HBB.out HDD.out ?_⟩, (hfx.mono (fun g hg => OutW.lo hg)).2⟩, H5.out.2.1.chg hch (by omega)⟩
     ·show Sho _ (.slice (some ⟨g3, 0, none⟩) MN.length c3) (MN.set K (B0 ^^^ xt)).length 1 _
      rw [List.length_set]
      exact sho_blk (n := MN.length) (k := 1) hkr (by rw [bys_length, List.length_set, Nat.mul_one]) hle3 hmx3
     ·have e : some g3 = some g := hg
      injection e with e
      omega
  by_cases h2 : xw = 2
  ·subst h2
   as_aux_lemma =>
    have HD : Hid (wrongD (⟨MN, ⟨IX, SZ, PS⟩, ⟨⟨NM, RT⟩, ⟨SX, PT, SP⟩⟩, CO⟩ : BunD) (⟨xl, xf, xc, 2, xa, xt⟩ : DrD) = ⟨MN, ⟨IX + 1, SZ, PS⟩, ⟨⟨NM, RT⟩, ⟨SX, PT, SP⟩⟩, CO⟩) := Lib.hid rfl
    generalize wrongD (⟨MN, ⟨IX, SZ, PS⟩, ⟨⟨NM, RT⟩, ⟨SX, PT, SP⟩⟩, CO⟩ : BunD) (⟨xl, xf, xc, 2, xa, xt⟩ : DrD) = DD at *
    have g1 := HKB.out.cell 1 _ rfl
    have f1 := HKB.out.free 1
    have e2 : IntKind.i64.wrap (IX + 1) = IX + 1 := IntWalk.i64_in _ (by omega)
    go_wp2
    go_meet
    case rel =>
     rw [HD.out]
     exact Lib.hid (wrs_set (b := ⟨MN, ⟨IX + 1, SZ, PS⟩, ⟨⟨NM, RT⟩, ⟨SX, PT, SP⟩⟩, CO⟩) 1 _ HBB.out (HB2.out.mono HBB.out) HKB.out HKZ.out (by simp) (show BunF (OutW D w) _ (.slice M MN.length cm) (.slice P PS.length cp) (.slice R RT.length cr) (.slice Q PT.length cq) (.slice S SP.length cs) (.slice C CO.length cc) ⟨MN, ⟨IX + 1, SZ, PS⟩, ⟨⟨NM, RT⟩, ⟨SX, PT, SP⟩⟩, CO⟩ from (HF0.out.below HB2.out).mono (fun g hg => OutW.lo hg)) rfl)
  by_cases h3 : xw = 3
  ·subst h3
   as_aux_lemma =>
    have HH := Lib.hid (fun wz : World => hash_any 1 (by decide) (by decide) wz)
    have HHL := Lib.hid (hashS_length 1)
    have HD : Hid (wrongD (⟨MN, ⟨IX, SZ, PS⟩, ⟨⟨NM, RT⟩, ⟨SX, PT, SP⟩⟩, CO⟩ : BunD) (⟨xl, xf, xc, 3, xa, xt⟩ : DrD) = ⟨MN, ⟨IX, SZ, PS ++ [hashS 1]⟩, ⟨⟨NM, RT⟩, ⟨SX, PT, SP⟩⟩, CO⟩) := Lib.hid rfl
    generalize wrongD (⟨MN, ⟨IX, SZ, PS⟩, ⟨⟨NM, RT⟩, ⟨SX, PT, SP⟩⟩, CO⟩ : BunD) (⟨xl, xf, xc, 3, xa, xt⟩ : DrD) = DD at *
    generalize hashS 1 = H1 at *
    have hh1 : H1.length ≤ 1000 := by rw [HHL.out]; decide
    have HFX := Lib.hid (HF0.out.below HB2.out)
    obtain ⟨us, hu1, -, hu2⟩ := HFX.out.2.1
    have hul : us.length = PS.length := by have h9 : us.length = PS.length * 1 := hu1.1; omega
    have hal := (Below.refl w2.heap.size w2).alloc (Nat.le_refl _) (.cells #[] 24)
    have HUN := Lib.hid ((hu1.below hal).news (rows_one hul (fun i hi => by obtain ⟨u, e, h1, _⟩ := hu2 i hi; exact ⟨u, e, h1⟩)))
    have HUS := Lib.hid (And.intro hul hu2)
    have HAL := Lib.hid hal
    have HNB := Lib.hid (Blk.new w2 24 [])
    have hka : Blk (w2.alloc (.cells #[] 24)) w.heap.size 42 [.slice M MN.length cm, .int .i64 IX, .int .i64 SZ, .slice P PS.length cp, .int .i64 NM, .slice R RT.length cr, .int .i64 SX, .slice Q PT.length cq, .slice S SP.length cs, .slice C CO.length cc] := HKB.out.below hal
    have g3 := hka.cell 3 _ rfl
    clear hal hka hu1 hu2 hul
    go_wp2_with (at_builtin; (refine wpList_append_lie rfl (.tmp 39) (.tmp 42) 28 rfl w2.heap.size 24 k0 (.slice none 0 0) 1 24 Tryz.underlying28 hk0 hv0 hv1 hv2 rfl (by decide) _ 0 [] rfl (own_none HNB.out (Nat.le_refl _)) _ PS.length us rfl HUN.out (by unfold maxLen; omega) (by omega) (by simp) ?_); intro v3 W3 hown3 hgrow3 hlie3; have HB3 : Hid (Below w2.heap.size w2 W3) := Lib.hid (HAL.out.grown hgrow3 (by simp) (fun k e => by have e' : some w2.heap.size = some k := e; injection e' with e'; omega)); have HO3 : Hid (W3.ownsRow w2.heap.size 24 1 v3 PS.length us) := Lib.hid (by have h9 := hown3; rw [Nat.zero_add, List.nil_append] at h9; exact h9); obtain ⟨A3, c3, rfl⟩ := (Sho.own HO3.out).form; clear hown3 hgrow3 hlie3 g3)
    refine (HH.out _).mono ?_
    rintro e w4 ⟨v4, rfl, h1, h2⟩
    obtain ⟨A4, c4, rfl⟩ := h1.form
    have H4 : Hid (Bys w4 (.slice A4 H1.length c4) H1 ∧ w4.ownsRow w2.heap.size 24 1 (.slice A3 PS.length c3) PS.length us ∧ Below w2.heap.size w2 w4 ∧ (0 < H1.length → ∀ g, (Value.slice A4 H1.length c4).ownBlock = some g → (Value.slice A3 PS.length c3).ownBlock ≠ some g)) := Lib.hid ⟨h1.bys, ownsRow_chg HO3.out (Chg.of_below (S := fun _ => False) h2) (fun _ _ h => h), HB3.out.trans (h2.mono (by have := HB3.out.size; omega)), fun _ g hg e => by have := h1.ge hg; have := (World.ownsRow.lt HO3.out g e).2; omega⟩
    have hs4 := H4.out.2.2.1.size
    have HAG : Hid (∀ g, (Value.slice A4 H1.length c4).ownBlock = some g → w2.heap.size ≤ g) := Lib.hid (fun g hg => by have := h1.ge hg; have := HB3.out.size; omega)
    clear h1 h2
    have hal := (Below.refl w4.heap.size w4).alloc (Nat.le_refl _) (.cells #[.slice A4 H1.length c4] 24)
    have HAL4 := Lib.hid hal
    clear hal
    go_wp2_with (at_builtin; (refine wpList_append_lie rfl (.tmp 43) (.tmp 45) 28 rfl w2.heap.size 24 k0 (.slice none 0 0) 1 24 Tryz.underlying28 hk0 hv0 hv1 hv2 rfl (by decide) _ PS.length us rfl (World.ownsRow.alloc H4.out.2.1 _) _ 1 [.slice A4 H1.length c4] rfl (news1 w4 24 _ rfl) (by unfold maxLen; omega) (by omega) (by simp; omega) ?_); intro v5 W5 hown5 hgrow5 hlie5; have HC5 : Hid (Chg w4 W5 (fun k => (Value.slice A3 PS.length c3).ownBlock = some k)) := Lib.hid (((Chg.refl w4 _).alloc _).trans (Chg.of_grown hgrow5) (fun i _ h => h.symm)); have HG5 := Lib.hid (And.intro hown5 (And.intro hgrow5 hlie5)); obtain ⟨A5, c5, rfl⟩ := (Sho.own hown5).form; clear hown5 hgrow5 hlie5; have f3 := ((HKB.out.below H4.out.2.2.1).chg HC5.out (fun e => by have := (World.ownsRow.lt H4.out.2.1 _ e).1; have := HB2.out.size; omega)).free 3; have q3 := ((HKB.out.below H4.out.2.2.1).chg HC5.out (fun e => by have := (World.ownsRow.lt H4.out.2.1 _ e).1; have := HB2.out.size; omega)).cell 3 _ rfl)
    go_meet
    case rel =>
     rw [HD.out]
     have hge : ∀ g, (Value.slice A3 PS.length c3).ownBlock = some g → w2.heap.size ≤ g := fun g hg => (World.ownsRow.lt H4.out.2.1 g hg).1
     have hb5 : Below w2.heap.size w2 W5 := H4.out.2.2.1.trans (HC5.out.below hs4 (fun k hk => hge k hk))
     have hsz2 := HB2.out.size
     have hrw : RwsF (OutW D w) W5 (.slice A5 (PS.length + 1) c5) (PS ++ [H1]) := by
      refine rwsF_push (v := .slice A3 PS.length c3) (us := us) (u := .slice A4 H1.length c4) (w := w4) HUS.out.1 (fun i hi => ?_) H4.out.1 (fun h0 g hg => ⟨?_, H4.out.2.2.2 h0 g hg⟩) HG5.out.1 HC5.out (fun g hg => OutW.hi HBB.out HDD.out (by have := HKZ.out.lt; omega))
      ·obtain ⟨u, e, hu, hn⟩ := HUS.out.2 i hi
       exact ⟨u, e, hu.below H4.out.2.2.1, fun h0 g hg => ⟨OutW.lo (hn h0 g hg), fun e2 => by have h1 := (hn h0 g hg).2; have h2 := hge g e2; omega⟩⟩
      ·exact OutW.hi HBB.out HDD.out (by have := HAG.out g hg; have := HKZ.out.lt; omega)
     have hfx := (HFX.out.below hb5).mono (T := OutW D w) (fun g hg => OutW.lo hg)
     exact Lib.hid (wrs_set (b := ⟨MN, ⟨IX, SZ, PS ++ [H1]⟩, ⟨⟨NM, RT⟩, ⟨SX, PT, SP⟩⟩, CO⟩) 3 _ HBB.out ((HB2.out.mono HBB.out).trans (hb5.mono (by have := HBB.out; omega))) (HKB.out.below hb5) (HKZ.out.below hb5) (by simp) ⟨hfx.1, hrw, hfx.2.2⟩ rfl)
  by_cases h4 : xw = 4
  ·subst h4
   as_aux_lemma =>
    have HD : Hid (wrongD (⟨MN, ⟨IX, SZ, PS⟩, ⟨⟨NM, RT⟩, ⟨SX, PT, SP⟩⟩, CO⟩ : BunD) (⟨xl, xf, xc, 4, xa, xt⟩ : DrD) = ⟨MN, ⟨IX, SZ, PS⟩, ⟨⟨NM - 1, RT⟩, ⟨SX, PT, SP⟩⟩, CO⟩) := Lib.hid rfl
    generalize wrongD (⟨MN, ⟨IX, SZ, PS⟩, ⟨⟨NM, RT⟩, ⟨SX, PT, SP⟩⟩, CO⟩ : BunD) (⟨xl, xf, xc, 4, xa, xt⟩ : DrD) = DD at *
    have g4 := HKB.out.cell 4 _ rfl
    have f4 := HKB.out.free 4
    have e2 : IntKind.i64.wrap (NM - 1) = NM - 1 := IntWalk.i64_in _ (by omega)
    go_wp2
    go_meet
    case rel =>
     rw [HD.out]
     exact Lib.hid (wrs_set (b := ⟨MN, ⟨IX, SZ, PS⟩, ⟨⟨NM - 1, RT⟩, ⟨SX, PT, SP⟩⟩, CO⟩) 4 _ HBB.out (HB2.out.mono HBB.out) HKB.out HKZ.out (by simp) (show BunF (OutW D w) _ (.slice M MN.length cm) (.slice P PS.length cp) (.slice R RT.length cr) (.slice Q PT.length cq) (.slice S SP.length cs) (.slice C CO.length cc) ⟨MN, ⟨IX, SZ, PS⟩, ⟨⟨NM - 1, RT⟩, ⟨SX, PT, SP⟩⟩, CO⟩ from (HF0.out.below HB2.out).mono (fun g hg => OutW.lo hg)) rfl)
  by_cases h5 : xw = 5
  ·subst h5
   as_aux_lemma =>
    have HD : Hid (wrongD (⟨MN, ⟨IX, SZ, PS⟩, ⟨⟨NM, RT⟩, ⟨SX, PT, SP⟩⟩, CO⟩ : BunD) (⟨xl, xf, xc, 5, xa, xt⟩ : DrD) = ⟨MN, ⟨IX, SZ, PS⟩, ⟨⟨NM, RT⟩, ⟨bits .xor .i64 SX 1, PT, SP⟩⟩, CO⟩) := Lib.hid rfl
    generalize wrongD (⟨MN, ⟨IX, SZ, PS⟩, ⟨⟨NM, RT⟩, ⟨SX, PT, SP⟩⟩, CO⟩ : BunD) (⟨xl, xf, xc, 5, xa, xt⟩ : DrD) = DD at *
    have g6 := HKB.out.cell 6 _ rfl
    have f6 := HKB.out.free 6
    go_wp2
    go_meet
    case rel =>
     rw [HD.out]
     exact Lib.hid (wrs_set (b := ⟨MN, ⟨IX, SZ, PS⟩, ⟨⟨NM, RT⟩, ⟨bits .xor .i64 SX 1, PT, SP⟩⟩, CO⟩) 6 _ HBB.out (HB2.out.mono HBB.out) HKB.out HKZ.out (by simp) (show BunF (OutW D w) _ (.slice M MN.length cm) (.slice P PS.length cp) (.slice R RT.length cr) (.slice Q PT.length cq) (.slice S SP.length cs) (.slice C CO.length cc) ⟨MN, ⟨IX, SZ, PS⟩, ⟨⟨NM, RT⟩, ⟨bits .xor .i64 SX 1, PT, SP⟩⟩, CO⟩ from (HF0.out.below HB2.out).mono (fun g hg => OutW.lo hg)) rfl)
  by_cases h6 : xw = 6
  ·subst h6
   as_aux_lemma =>
    rcases Nat.eq_zero_or_pos CO.length with hn0 | hn0
    ·have HD : Hid (wrongD (⟨MN, ⟨IX, SZ, PS⟩, ⟨⟨NM, RT⟩, ⟨SX, PT, SP⟩⟩, CO⟩ : BunD) (⟨xl, xf, xc, 6, xa, xt⟩ : DrD) = ⟨MN, ⟨IX, SZ, PS⟩, ⟨⟨NM, RT⟩, ⟨SX, PT, SP⟩⟩, CO⟩) := Lib.hid (by show (if 0 < CO.length then _ else _) = _; rw [if_neg (by omega)])
     generalize wrongD (⟨MN, ⟨IX, SZ, PS⟩, ⟨⟨NM, RT⟩, ⟨SX, PT, SP⟩⟩, CO⟩ : BunD) (⟨xl, xf, xc, 6, xa, xt⟩ : DrD) = DD at *
     have g9 := HKB.out.cell 9 _ rfl
     rw [hn0] at g9
     go_wp2
     go_meet
     case rel =>
      rw [HD.out]
      exact Lib.hid ⟨HB2.out.mono HBB.out, _, _, _, _, _, _, HKB.out, (HF0.out.below HB2.out).mono (fun g hg => OutW.lo hg), HKZ.out⟩
    ·obtain ⟨n1, hn1⟩ : ∃ n1, CO.length - 1 = n1 := ⟨_, rfl⟩
     have HD : Hid (wrongD (⟨MN, ⟨IX, SZ, PS⟩, ⟨⟨NM, RT⟩, ⟨SX, PT, SP⟩⟩, CO⟩ : BunD) (⟨xl, xf, xc, 6, xa, xt⟩ : DrD) = ⟨MN, ⟨IX, SZ, PS⟩, ⟨⟨NM, RT⟩, ⟨SX, PT, SP⟩⟩, CO.getD n1 zCg :: CO.take n1 ++ [CO.getD n1 zCg]⟩) := Lib.hid (by show (if 0 < CO.length then _ else _) = _; rw [if_pos hn0]; dsimp only; rw [hn1])
     generalize wrongD (⟨MN, ⟨IX, SZ, PS⟩, ⟨⟨NM, RT⟩, ⟨SX, PT, SP⟩⟩, CO⟩ : BunD) (⟨xl, xf, xc, 6, xa, xt⟩ : DrD) = DD at *
     have hnl : CO.length = n1 + 1 := by omega
     clear hn1
     have hfoot := HF0.out
     obtain ⟨-, -, -, -, -, us, h6, h7⟩ := HO.out
     obtain ⟨gc, cap, rest, he, hbg, hbk, hle, hmx, hrl⟩ := own_block h6 hn0
     injection he with he1 _ he2
     subst he1
     obtain rfl := he2
     have hgl := hbk.lt
     obtain ⟨LP, cp9, LQ, cq9, hu0, hu1, hu2, hu3, -, -, hrow1⟩ := h7.cut.at1 n1 (by omega)
     have hrow2 := h7.cut.take n1 (by omega)
     have hul := h6.1
     have HCB := Lib.hid (hbk.below HB2.out)
     have HR0 := Lib.hid (And.intro hrow1 hrow2)
     have hge : ∀ (j : Nat) (u : Value), us[j]? = some u → (us ++ rest)[j]? = some u := fun j u hj => by rw [List.getElem?_append_left (List.getElem?_eq_some_iff.1 hj).1]; exact hj
     have HCW : Hid (∀ W, Below w2.heap.size w2 W → W.cell? ⟨w.heap.size, 9, none⟩ = some (.slice (some ⟨gc, 0, none⟩) CO.length cc) ∧ W.cell? ⟨gc, n1 * 4, none⟩ = some (.int .i64 (CO.getD n1 zCg).wit) ∧ W.cell? ⟨gc, n1 * 4 + 1, none⟩ = some (.int .i64 (CO.getD n1 zCg).sig.index) ∧ W.cell? ⟨gc, n1 * 4 + 2, none⟩ = some (.slice LP (CO.getD n1 zCg).sig.parts.length cp9) ∧ W.cell? ⟨gc, n1 * 4 + 3, none⟩ = some (.slice LQ (CO.getD n1 zCg).sig.path.length cq9)) := Lib.hid (fun W hW => ⟨(HKB.out.below hW).cell 9 _ rfl, (HCB.out.below hW).cell _ _ (hge _ _ hu0), (HCB.out.below hW).cell _ _ (hge _ _ hu1), (HCB.out.below hW).cell _ _ (hge _ _ hu2), (HCB.out.below hW).cell _ _ (hge _ _ hu3)⟩)
     have HNW : Hid (∀ W, Below w2.heap.size w2 W → NewsOf W (.slice (some ⟨gc, 0, none⟩) n1 cc) n1 4 (us.take (n1 * 4))) := Lib.hid (fun W hW => by
      have hb := HCB.out.below hW
      rw [← List.take_append_drop (n1 * 4) us, List.append_assoc] at hb
      refine Sho.news (sho_blk hb (by rw [List.length_take]; omega) (by omega) hmx) (fun u hu => hrow2.ones u hu))
     have e9 : IntKind.i64.wrap ((CO.length : Int) - 1) = (n1 : Int) := by rw [hnl]; rw [IntWalk.i64_in _ (by omega)]; omega
     have b9 : (0 : Int) < (CO.length : Int) := by omega
     have b8 : (n1 : Int) < (CO.length : Int) := by omega
     have b7 : (n1 : Int) ≤ (cc : Int) := by omega
     have b6 : n1 ≤ cc := by omega
     have g9 := HKB.out.cell 9 _ rfl
     have HTL : Hid ((CO.take n1).length = n1) := Lib.hid (by rw [List.length_take]; omega)
     have HCO := Lib.hid (And.intro hul (And.intro hnl (And.intro hbg hmx)))
     have HS0 : Hid (Below w2.heap.size w2 w2.drew) := Lib.hid (Below.refl _ _).drew
     have hsz2 := HB2.out.size
     have n6 : n1 ≤ 1000 := by omega
     clear h6 h7 hbk hu0 hu1 hu2 hu3 hrow1 hrow2 hul hge hfoot hle hrl hnl hmx
     generalize CO.take n1 = CT at *
     generalize CO.getD n1 zCg = LG at *
     go_upto_region 15 with fail
     clear g9
     refine wp_region_drewT 17 (S := fun w' => w'.cell? ⟨w.heap.size, 9, none⟩ = some (.slice (some ⟨gc, 0, none⟩) CO.length cc) ∧ w'.cell? ⟨gc, n1 * 4, none⟩ = some (.int .i64 LG.wit) ∧ w'.cell? ⟨gc, n1 * 4 + 1, none⟩ = some (.int .i64 LG.sig.index) ∧ w'.cell? ⟨gc, n1 * 4 + 2, none⟩ = some (.slice LP LG.sig.parts.length cp9) ∧ w'.cell? ⟨gc, n1 * 4 + 3, none⟩ = some (.slice LQ LG.sig.path.length cq9)) (by kernel_rfl) (HCW.out _ HS0.out) (fun hHeld => ?_)
     generalize w2.drew = w3 at *
     refine tt 0 75 rfl rfl ?_; simp only [sa, sb, sc]
     refine tt 1 76 rfl rfl ?_; simp only [sa, sb, sc]
     refine tt 2 77 rfl rfl ?_; simp only [sa, sb, sc]
     refine tt 3 78 rfl rfl ?_; simp only [sa, sb, sc]
     refine tt 4 79 rfl rfl ?_; simp only [sa, sb, sc]
     refine tt 5 80 rfl rfl ?_; simp only [sa, sb, sc]
     refine tt 6 81 rfl rfl ?_; simp only [sa, sb, sc]
     refine tt 7 82 rfl rfl ?_; simp only [sa, sb, sc]
     refine tt 9 84 rfl rfl ?_; simp only [sa, sb, sc]
     refine tt 10 85 rfl rfl ?_; simp only [sa, sb, sc]
     refine tt 11 86 rfl rfl ?_; simp only [sa, sb, sc]
     refine tt 12 87 rfl rfl ?_; simp only [sa, sb, sc]
     refine tt 13 88 rfl rfl ?_; simp only [sa, sb, sc]
     refine tt 14 89 rfl rfl ?_; simp only [sa, sb, sc]
     refine tt 15 90 rfl rfl ?_; simp only [sa, sb, sc]
     refine wpAnyT_ready (rs := [8]) (by kernel_rfl) (by simp) (.cons rfl (fun K hK => ?_) .nil)
     go_simp
     obtain ⟨b8', hb80⟩ : ∃ b : Nat, b = w3.heap.size := ⟨_, rfl⟩
     obtain ⟨w4, hV⟩ : ∃ V : World, V = w3.alloc (.cells #[.int .i64 LG.wit, .int .i64 LG.sig.index, .slice LP LG.sig.parts.length cp9, .slice LQ LG.sig.path.length cq9] 89) := ⟨_, rfl⟩
     have k3 : Below w3.heap.size w3 w4 := by rw [hV]; exact (Below.refl _ _).alloc (Nat.le_refl _) _
     have HO4 : Hid (w4.ownsRow b8' 89 4 (.slice (some ⟨b8', 0, none⟩) 1 1) 1 [.int .i64 LG.wit, .int .i64 LG.sig.index, .slice LP LG.sig.parts.length cp9, .slice LQ LG.sig.path.length cq9]) := Lib.hid (by rw [hV, hb80]; exact own_new 89 [.int .i64 LG.wit, .int .i64 LG.sig.index, .slice LP LG.sig.parts.length cp9, .slice LQ LG.sig.path.length cq9] rfl (by decide) (Nat.le_refl _))
     have HS4 : Hid (Below w2.heap.size w2 w4) := Lib.hid (HS0.out.trans (k3.mono HS0.out.size))
     have hb8g : w2.heap.size ≤ b8' := by rw [hb80]; exact HS0.out.size
     have hb8l : b8' ≤ w4.heap.size := by rw [hb80]; exact k3.size
     rw [← hV, ← hb80]
     clear hV k3 hb80
     refine hK.out _ _ (fun _ => HCW.out _ HS4.out) (fun hHeld8' => ?_)
     have hHeld8 := hHeld8' (by decide)
     clear hHeld8'
     clear hK K; try simp only [Act.put, sa, sb, sc]
     refine wpAnyT_ready (rs := [16]) (by kernel_rfl) (by simp) (.cons rfl (fun K hK => ?_) .nil)
     skip
     refine step_append_lie (by rfl) (.tmp 83) (.tmp 90) 40 (by rfl) b8' 89 i0 (.agg #[.int .i64 0, .int .i64 0, .slice none 0 0, .slice none 0 0]) 4 64 Tryz.underlying40 hi0 hz0 hz1 hz2 rfl (by omega) _ 1 [.int .i64 LG.wit, .int .i64 LG.sig.index, .slice LP LG.sig.parts.length cp9, .slice LQ LG.sig.path.length cq9] (by rfl) HO4.out _ n1 (us.take (n1 * 4)) (by rfl) (HNW.out _ HS4.out) (by unfold maxLen; omega) (by omega) hb8l ?_
     intro v5 W5 hown5 hgrow5 hlie5
     have hb5 : Below w2.heap.size w2 W5 := HS4.out.grown hgrow5 HS4.out.size (fun k e => by have e' : some b8' = some k := e; injection e' with e'; omega)
     have HS5 := Lib.hid hb5
     have hrw5 : CgRow (fun g => D g ∧ g < w.heap.size) W5 ([.int .i64 LG.wit, .int .i64 LG.sig.index, .slice LP LG.sig.parts.length cp9, .slice LQ LG.sig.path.length cq9] ++ us.take (n1 * 4)) ([LG] ++ CT) := by
      have hall := HB2.out.trans (hb5.mono HB2.out.size)
      exact ((HR0.out.1.app HR0.out.2).chg (Chg.of_below (S := fun _ => False) hall) (fun _ _ h => h)).mono (fun g hg => ⟨hg.1.1, hg.2⟩)
     obtain ⟨g5, cap5, rest5, rfl, hg5, hbk5, hle5, hmx5, hrl5⟩ := own_block hown5 (by omega)
     have H5 := Lib.hid (And.intro hrw5 (And.intro hown5 hbk5))
     have q9 := (HKB.out.below hb5).cell 9 _ rfl
     have f9 := (HKB.out.below hb5).free 9
     clear hown5 hgrow5 hlie5 hb5 hrw5 hbk5 hrl5
     simp only [Act.put, List.getElem_toArray, List.getElem_cons_succ, List.getElem_cons_zero, List.setIfInBounds_toArray, List.set_cons_zero, List.set_cons_succ]
     refine hK.out _ _ (fun _ => HCW.out _ HS5.out) (fun hHeld16' => ?_)
     have hHeld16 := hHeld16' (by decide)
     clear hHeld16'
     clear hK K; try simp only [Act.put, sa, sb, sc]
     refine tl 17 92 rfl rfl ?_; simp only [sa, sb, sc]
     refine wpAnyT_ready (rs := [18]) (by kernel_rfl) (by simp) (.cons rfl (fun K hK => ?_) .nil)
     go_simp
     refine hK.out _ _ (fun h => absurd h (by decide)) (fun _ => ?_)
     clear hK K; try simp only [Act.put, sa, sb, sc]
     refine wpAnyT_done (by kernel_rfl) ?_ _
     clear hHeld q9 f9
     have hst : Chg W5 (W5.setCell ⟨w.heap.size, 9, none⟩ (.slice (some ⟨g5, 0, none⟩) (1 + n1) cap5)) (fun k => k = w.heap.size) := chg_cell (Chg.refl _ _) 9 _
     have H6 : Hid (Blk (W5.setCell ⟨w.heap.size, 9, none⟩ (.slice (some ⟨g5, 0, none⟩) (1 + n1) cap5)) w.heap.size 42 [.slice M MN.length cm, .int .i64 IX, .int .i64 SZ, .slice P PS.length cp, .int .i64 NM, .slice R RT.length cr, .int .i64 SX, .slice Q PT.length cq, .slice S SP.length cs, .slice (some ⟨g5, 0, none⟩) (1 + n1) cap5] ∧ Blk (W5.setCell ⟨w.heap.size, 9, none⟩ (.slice (some ⟨g5, 0, none⟩) (1 + n1) cap5)) (w.heap.size + 1 + 1) 42 [.slice none 0 0, .int .i64 0, .int .i64 0, .slice none 0 0, .int .i64 0, .slice none 0 0, .int .i64 0, .slice none 0 0, .slice none 0 0, .slice none 0 0] ∧ Chg w2 (W5.setCell ⟨w.heap.size, 9, none⟩ (.slice (some ⟨g5, 0, none⟩) (1 + n1) cap5)) (fun k => k = w.heap.size) ∧ Blk (W5.setCell ⟨w.heap.size, 9, none⟩ (.slice (some ⟨g5, 0, none⟩) (1 + n1) cap5)) g5 89 (([.int .i64 LG.wit, .int .i64 LG.sig.index, .slice LP LG.sig.parts.length cp9, .slice LQ LG.sig.path.length cq9] ++ us.take (n1 * 4)) ++ rest5) ∧ (W5.setCell ⟨w.heap.size, 9, none⟩ (.slice (some ⟨g5, 0, none⟩) (1 + n1) cap5)).ownsRow b8' 89 4 (.slice (some ⟨g5, 0, none⟩) (1 + n1) cap5) (1 + n1) ([.int .i64 LG.wit, .int .i64 LG.sig.index, .slice LP LG.sig.parts.length cp9, .slice LQ LG.sig.path.length cq9] ++ us.take (n1 * 4)) ∧ CgRow (fun g => D g ∧ g < w.heap.size) (W5.setCell ⟨w.heap.size, 9, none⟩ (.slice (some ⟨g5, 0, none⟩) (1 + n1) cap5)) ([.int .i64 LG.wit, .int .i64 LG.sig.index, .slice LP LG.sig.parts.length cp9, .slice LQ LG.sig.path.length cq9] ++ us.take (n1 * 4)) ([LG] ++ CT)) := Lib.hid
      ⟨(HKB.out.below HS5.out).set 9 _ (by simp), (HKZ.out.below HS5.out).chg hst (by omega), (Chg.of_below (S := fun k => k = w.heap.size) HS5.out).trans hst (fun _ _ h => h), H5.out.2.2.chg hst (by omega), ownsRow_chg H5.out.2.1 hst (fun k hk e => by have e' : some g5 = some k := hk; injection e' with e'; omega), H5.out.1.chg hst (fun g hg e => by have := hg.2; omega)⟩
     clear hst HS5 H5 HCW HNW HS4 HO4 HS0
     generalize W5.setCell ⟨w.heap.size, 9, none⟩ (.slice (some ⟨g5, 0, none⟩) (1 + n1) cap5) = w6 at *
     have hs6 := H6.out.2.2.1.size
     have HCW : Hid (∀ W, Chg w6 W (fun _ => False) → W.cell? ⟨w.heap.size, 9, none⟩ = some (.slice (some ⟨g5, 0, none⟩) (1 + n1) cap5) ∧ W.cell? ⟨g5, 0, none⟩ = some (.int .i64 LG.wit) ∧ W.cell? ⟨g5, 1, none⟩ = some (.int .i64 LG.sig.index) ∧ W.cell? ⟨g5, 2, none⟩ = some (.slice LP LG.sig.parts.length cp9) ∧ W.cell? ⟨g5, 3, none⟩ = some (.slice LQ LG.sig.path.length cq9)) := Lib.hid (fun W hW => ⟨(H6.out.1.chg hW (fun h => h)).cell 9 _ rfl, (H6.out.2.2.2.1.chg hW (fun h => h)).cell 0 _ rfl, (H6.out.2.2.2.1.chg hW (fun h => h)).cell 1 _ rfl, (H6.out.2.2.2.1.chg hW (fun h => h)).cell 2 _ rfl, (H6.out.2.2.2.1.chg hW (fun h => h)).cell 3 _ rfl⟩)
     have HS7 : Hid (Chg w6 w6.drew (fun _ => False)) := Lib.hid ((Chg.refl _ _).drew)
     have b5 : (0 : Int) < ((1 + n1 : Nat) : Int) := by omega
     have b4 : (0 : Int) < 1 + (n1 : Int) := by omega
     go_upto_region 16 with fail
     refine wp_region_drewT 8 (S := fun w' => w'.cell? ⟨w.heap.size, 9, none⟩ = some (.slice (some ⟨g5, 0, none⟩) (1 + n1) cap5)) (by kernel_rfl) (HCW.out _ HS7.out).1 (fun hHeld => ?_)
     generalize w6.drew = w7 at *
     obtain ⟨-, r0, r1, r2, r3⟩ := HCW.out _ HS7.out
     refine tt 0 93 rfl rfl ?_; simp only [sa, sb, sc]
     refine tt 1 94 rfl rfl ?_; simp only [sa, sb, sc]
     refine tt 2 95 rfl rfl ?_; simp only [sa, sb, sc]
     refine tt 3 96 rfl rfl ?_; simp only [sa, sb, sc]
     refine tt 4 97 rfl rfl ?_; simp only [sa, sb, sc]
     refine wpAnyT_ready (rs := [5]) (by kernel_rfl) (by simp) (.cons rfl (fun K hK => ?_) .nil)
     go_simp
     refine hK.out _ _ (fun _ => (HCW.out _ HS7.out).1) (fun hHeld5' => ?_)
     have hHeld5 := hHeld5' (by decide)
     clear hHeld5'
     clear hK K; try simp only [Act.put, sa, sb, sc]
     refine wpAnyT_ready (rs := [6]) (by kernel_rfl) (by simp) (.cons rfl (fun K hK => ?_) .nil)
     go_simp
     obtain ⟨b9', hb90⟩ : ∃ b : Nat, b = w7.heap.size := ⟨_, rfl⟩
     obtain ⟨w8, hV⟩ : ∃ V : World, V = w7.alloc (.cells #[.int .i64 LG.wit, .int .i64 LG.sig.index, .slice LP LG.sig.parts.length cp9, .slice LQ LG.sig.path.length cq9] 89) := ⟨_, rfl⟩
     have HS8 : Hid (Chg w6 w8 (fun _ => False)) := Lib.hid (by rw [hV]; exact HS7.out.alloc _)
     have hR8 : CgRow (fun g => D g ∧ g < w.heap.size) w8 [.int .i64 LG.wit, .int .i64 LG.sig.index, .slice LP LG.sig.parts.length cp9, .slice LQ LG.sig.path.length cq9] [LG] := ((HR0.out.1.chg (Chg.of_below (S := fun _ => False) HB2.out) (fun _ _ h => h)).chg (H6.out.2.2.1.trans HS8.out (fun _ _ h => h.elim)) (fun g hg e => by have h1 : g < w.heap.size := hg.2; have h2 : g = w.heap.size := e; omega)).mono (fun g hg => ⟨hg.1.1, hg.2⟩)
     have HN8 : Hid (NewsOf w8 (.slice (some ⟨b9', 0, none⟩) 1 1) 1 4 [.int .i64 LG.wit, .int .i64 LG.sig.index, .slice LP LG.sig.parts.length cp9, .slice LQ LG.sig.path.length cq9]) := Lib.hid (by
      have h := hR8.ones
      rw [hb90, hV]
      exact Sho.news (Sho.new w7 89 [.int .i64 LG.wit, .int .i64 LG.sig.index, .slice LP LG.sig.parts.length cp9, .slice LQ LG.sig.path.length cq9] 1 4 1 rfl (Nat.le_refl _) (by decide)) h)
     have HR8 := Lib.hid hR8
     rw [← hV, ← hb90]
     clear hV hb90 hR8
     refine hK.out _ _ (fun _ => (HCW.out _ HS8.out).1) (fun hHeld6' => ?_)
     have hHeld6 := hHeld6' (by decide)
     clear hHeld6'
     clear hK K; try simp only [Act.put, sa, sb, sc]
     refine wpAnyT_ready (rs := [7]) (by kernel_rfl) (by simp) (.cons rfl (fun K hK => ?_) .nil)
     skip
     refine step_append_lie (by rfl) (.tmp 94) (.tmp 99) 40 (by rfl) b8' 89 i0 (.agg #[.int .i64 0, .int .i64 0, .slice none 0 0, .slice none 0 0]) 4 64 Tryz.underlying40 hi0 hz0 hz1 hz2 rfl (by omega) _ (1 + n1) ([.int .i64 LG.wit, .int .i64 LG.sig.index, .slice LP LG.sig.parts.length cp9, .slice LQ LG.sig.path.length cq9] ++ us.take (n1 * 4)) (by rfl) (ownsRow_chg H6.out.2.2.2.2.1 HS8.out (fun _ _ h => h)) _ 1 [.int .i64 LG.wit, .int .i64 LG.sig.index, .slice LP LG.sig.parts.length cp9, .slice LQ LG.sig.path.length cq9] (by rfl) HN8.out (by unfold maxLen; omega) (by omega) (by have := HS8.out.size; have := H6.out.2.2.2.1.lt; omega) ?_
     intro v9 W9 hown9 hgrow9 hlie9
     have hch9 : Chg w6 W9 (fun k => k = g5) := (HS8.out.mono (T := fun k => k = g5) (fun _ _ h => h.elim)).trans (Chg.of_grown hgrow9) (fun i _ h => by have e : some i = some g5 := h; injection e)
     obtain ⟨A9, c9, rfl⟩ := (Sho.own hown9).form
     have hrw9 : CgRow (fun g => D g ∧ g < w.heap.size) W9 (([.int .i64 LG.wit, .int .i64 LG.sig.index, .slice LP LG.sig.parts.length cp9, .slice LQ LG.sig.path.length cq9] ++ us.take (n1 * 4)) ++ [.int .i64 LG.wit, .int .i64 LG.sig.index, .slice LP LG.sig.parts.length cp9, .slice LQ LG.sig.path.length cq9]) (([LG] ++ CT) ++ [LG]) := (((H6.out.2.2.2.2.2).chg (HS8.out) (fun _ _ h => h)).app HR8.out).chg (Chg.of_grown hgrow9) (fun g hg e => by have e' : some g = some g5 := e; injection e' with e'; have := hg.2; omega)
     have H9 := Lib.hid (And.intro hrw9 (And.intro hown9 hch9))
     have q9 := (H6.out.1.chg hch9 (by omega)).cell 9 _ rfl
     have f9 := (H6.out.1.chg hch9 (by omega)).free 9
     clear hown9 hgrow9 hlie9 hrw9 hch9
     simp only [Act.put, List.getElem_toArray, List.getElem_cons_succ, List.getElem_cons_zero, List.setIfInBounds_toArray, List.set_cons_zero, List.set_cons_succ]
     refine hK.out _ _ (fun _ => q9) (fun hHeld7' => ?_)
     have hHeld7 := hHeld7' (by decide)
     clear hHeld7'
     clear hK K; try simp only [Act.put, sa, sb, sc]
     refine tl 8 101 rfl rfl ?_; simp only [sa, sb, sc]
     refine wpAnyT_ready (rs := [9]) (by kernel_rfl) (by simp) (.cons rfl (fun K hK => ?_) .nil)
     go_simp
     refine hK.out _ _ (fun h => absurd h (by decide)) (fun _ => ?_)
     clear hK K; try simp only [Act.put, sa, sb, sc]
     refine wpAnyT_done (by kernel_rfl) ?_ _
     clear hHeld q9 f9 r0 r1 r2 r3
     go_wp2
     go_meet
     case rel =>
      rw [HD.out]
      have hz6 := hs6
      have hall : Chg w2 W9 (fun k => k = w.heap.size ∨ k = g5) := (H6.out.2.2.1.mono (T := fun k => k = w.heap.size ∨ k = g5) (fun _ _ h => .inl h)).trans H9.out.2.2 (fun _ _ h => .inr h)
      have hfx := ((HF0.out.below HB2.out).chg hall (fun g hg e => by have := hg.2; rcases e with e | e <;> omega)).mono (T := OutW D w) (fun g hg => OutW.lo hg)
      have hl9 := H9.out.2.1.1
      exact Lib.hid (wrs_set (b := ⟨MN, ⟨IX, SZ, PS⟩, ⟨⟨NM, RT⟩, ⟨SX, PT, SP⟩⟩, LG :: CT ++ [LG]⟩) (c := .slice A9 (1 + n1 + 1) c9) 9 _ HBB.out ((HB2.out.mono HBB.out).trans (hall.below (by have := HBB.out; omega) (fun k hk => by have := HBB.out; rcases hk with e | e <;> omega))) (H6.out.1.chg H9.out.2.2 (by omega)) (H6.out.2.1.chg H9.out.2.2 (by omega)) (by simp) ⟨hfx.1, hfx.2.1, hfx.2.2.1, hfx.2.2.2.1, hfx.2.2.2.2.1, _, by have h := Sho.own H9.out.2.1; have e : (LG :: CT ++ [LG]).length = 1 + n1 + 1 := (by simp [HTL.out]; omega); rw [e]; exact h, fun _ g hg => OutW.hi HBB.out HDD.out (by have := (World.ownsRow.lt H9.out.2.1 g hg).1; have := HKZ.out.lt; omega), H9.out.1.mono (fun g hg => OutW.lo hg)⟩ rfl)
  by_cases h7 : xw = 7
  ·subst h7
   as_aux_lemma =>
    rcases Nat.eq_zero_or_pos CO.length with hn0 | hn0
    ·have HD : Hid (wrongD (⟨MN, ⟨IX, SZ, PS⟩, ⟨⟨NM, RT⟩, ⟨SX, PT, SP⟩⟩, CO⟩ : BunD) (⟨xl, xf, xc, 7, xa, xt⟩ : DrD) = ⟨MN, ⟨IX, SZ, PS⟩, ⟨⟨NM, RT⟩, ⟨SX, PT, SP⟩⟩, CO⟩) := Lib.hid (by show (if 0 < CO.length then _ else _) = _; rw [if_neg (by omega)])
     generalize wrongD (⟨MN, ⟨IX, SZ, PS⟩, ⟨⟨NM, RT⟩, ⟨SX, PT, SP⟩⟩, CO⟩ : BunD) (⟨xl, xf, xc, 7, xa, xt⟩ : DrD) = DD at *
     have g9 := HKB.out.cell 9 _ rfl
     rw [hn0] at g9
     go_wp2
     go_meet
     case rel =>
      rw [HD.out]
      exact Lib.hid ⟨HB2.out.mono HBB.out, _, _, _, _, _, _, HKB.out, (HF0.out.below HB2.out).mono (fun g hg => OutW.lo hg), HKZ.out⟩
    ·have HD : Hid (wrongD (⟨MN, ⟨IX, SZ, PS⟩, ⟨⟨NM, RT⟩, ⟨SX, PT, SP⟩⟩, CO⟩ : BunD) (⟨xl, xf, xc, 7, xa, xt⟩ : DrD) = ⟨MN, ⟨IX, SZ, PS⟩, ⟨⟨NM, RT⟩, ⟨SX, PT, SP⟩⟩, CO.set 0 { CO.getD 0 zCg with wit := 3 }⟩) := Lib.hid (by show (if 0 < CO.length then _ else _) = _; rw [if_pos hn0])
     generalize wrongD (⟨MN, ⟨IX, SZ, PS⟩, ⟨⟨NM, RT⟩, ⟨SX, PT, SP⟩⟩, CO⟩ : BunD) (⟨xl, xf, xc, 7, xa, xt⟩ : DrD) = DD at *
     obtain ⟨h1, h2, h3, h4, h5, us, h6, h7⟩ := HO.out
     obtain ⟨gc, cap, rest, he, hbg, hbk, hle, hmx, hrl⟩ := own_block h6 hn0
     injection he with he1 _ he2
     subst he1
     obtain rfl := he2
     have hgl := hbk.lt
     have HCB := Lib.hid (hbk.below HB2.out)
     have HT := Lib.hid (And.intro h1 (And.intro h2 (And.intro h3 (And.intro h4 (And.intro h5 h7)))))
     have HRL := Lib.hid (And.intro hbg (And.intro hle hmx))
     have HUL := Lib.hid h6.1
     have hn9 : (0 : Int) < (CO.length : Int) := by omega
     have g9 := HKB.out.cell 9 _ rfl
     have p0 := HCB.out.free 0
     obtain ⟨u0, hu0⟩ : ∃ u0, (us ++ rest)[0]? = some u0 := ⟨_, List.getElem?_eq_getElem (by rw [List.length_append]; have := h6.1; omega)⟩
     have r0 := HCB.out.cell 0 u0 hu0
     clear h1 h2 h3 h4 h5 h6 h7 hbk hu0
     go_wp2
     go_meet
     case rel =>
      rw [HD.out]
      have hch : Chg w2 (w2.setCell ⟨gc, 0, none⟩ (.int .i64 3)) (fun k => k = gc) := chg_cell (Chg.refl _ _) 0 _
      have hsz2 := HB2.out.size
      have hbb := HBB.out
      have hall : Chg w (w2.setCell ⟨gc, 0, none⟩ (.int .i64 3)) (fun k => k = gc) := (Chg.of_below (S := fun k => k = gc) HB2.out).trans hch (fun _ _ h => h)
      have hT : ∀ g, (D g ∧ (Value.slice (some ⟨gc, 0, none⟩) CO.length cc).ownBlock ≠ some g) ∧ g < w.heap.size → ¬ (g = gc) := fun g hg e => hg.1.2 (by rw [e]; rfl)
      obtain ⟨h1, h2, h3, h4, h5, h7⟩ := HT.out
      have hk := HCB.out.set 0 (.int .i64 3) (by rw [List.length_append]; have := HUL.out; omega)
      rw [List.set_append_left _ _ (by have := HUL.out; omega)] at hk
      have hrow := (h7.cut.chg hall hT).wit0 hn0 3
      refine Lib.hid ⟨(HB2.out.mono HBB.out).trans (hch.below (by omega) (fun k hk => by have e : k = gc := hk; have := HRL.out.1; omega)), _, _, _, _, _, _, HKB.out.chg hch (by omega), ⟨(h1.cut.chg hall hT).mono (fun g hg => OutW.lo ⟨hg.1.1, hg.2⟩), (h2.cut.chg hall hT).mono (fun g hg => OutW.lo ⟨hg.1.1, hg.2⟩), (h3.cut.chg hall hT).mono (fun g hg => OutW.lo ⟨hg.1.1, hg.2⟩), (h4.cut.chg hall hT).mono (fun g hg => OutW.lo ⟨hg.1.1, hg.2⟩), (h5.cut.chg hall hT).mono (fun g hg => OutW.lo ⟨hg.1.1, hg.2⟩), us.set 0 (.int .i64 3), ?_, fun _ g hg => ?_, hrow.mono (fun g hg => OutW.lo ⟨hg.1.1, hg.2⟩)⟩, HKZ.out.chg hch (by omega)⟩
      ·show Sho _ (.slice _ CO.length cc) (CO.set 0 _).length 4 _
       rw [List.length_set]
       exact sho_blk hk (by rw [List.length_set]; exact HUL.out) HRL.out.2.1 HRL.out.2.2
      ·have e : some gc = some g := hg
       injection e with e
       exact OutW.lo ⟨HDD.out g (by have := HRL.out.1; omega), by omega⟩
  by_cases h8 : xw = 8
  ·subst h8
   as_aux_lemma =>
    have HD : Hid (wrongD (⟨MN, ⟨IX, SZ, PS⟩, ⟨⟨NM, RT⟩, ⟨SX, PT, SP⟩⟩, CO⟩ : BunD) (⟨xl, xf, xc, 8, xa, xt⟩ : DrD) = ⟨MN, ⟨IX, SZ + 1, PS⟩, ⟨⟨NM, RT⟩, ⟨SX, PT, SP⟩⟩, CO⟩) := Lib.hid rfl
    generalize wrongD (⟨MN, ⟨IX, SZ, PS⟩, ⟨⟨NM, RT⟩, ⟨SX, PT, SP⟩⟩, CO⟩ : BunD) (⟨xl, xf, xc, 8, xa, xt⟩ : DrD) = DD at *
    have g2 := HKB.out.cell 2 _ rfl
    have f2 := HKB.out.free 2
    have e2 : IntKind.i64.wrap (SZ + 1) = SZ + 1 := IntWalk.i64_in _ (by omega)
    go_wp2
    go_meet
    case rel =>
     rw [HD.out]
     exact Lib.hid (wrs_set (b := ⟨MN, ⟨IX, SZ + 1, PS⟩, ⟨⟨NM, RT⟩, ⟨SX, PT, SP⟩⟩, CO⟩) 2 _ HBB.out (HB2.out.mono HBB.out) HKB.out HKZ.out (by simp) (show BunF (OutW D w) _ (.slice M MN.length cm) (.slice P PS.length cp) (.slice R RT.length cr) (.slice Q PT.length cq) (.slice S SP.length cs) (.slice C CO.length cc) ⟨MN, ⟨IX, SZ + 1, PS⟩, ⟨⟨NM, RT⟩, ⟨SX, PT, SP⟩⟩, CO⟩ from (HF0.out.below HB2.out).mono (fun g hg => OutW.lo hg)) rfl)
  have HD : Hid (wrongD (⟨MN, ⟨IX, SZ, PS⟩, ⟨⟨NM, RT⟩, ⟨SX, PT, SP⟩⟩, CO⟩ : BunD) (⟨xl, xf, xc, xw, xa, xt⟩ : DrD) = ⟨MN, ⟨IX, SZ, PS⟩, ⟨⟨NM, RT⟩, ⟨SX, PT, SP⟩⟩, CO⟩) := Lib.hid (by unfold wrongD; rw [if_neg h1, if_neg h2, if_neg h3, if_neg h4, if_neg h5, if_neg h6, if_neg h7, if_neg h8])
  generalize wrongD (⟨MN, ⟨IX, SZ, PS⟩, ⟨⟨NM, RT⟩, ⟨SX, PT, SP⟩⟩, CO⟩ : BunD) (⟨xl, xf, xc, xw, xa, xt⟩ : DrD) = DD at *
  go_wp2
  go_meet
  case rel =>
   rw [HD.out]
   exact Lib.hid ⟨HB2.out.mono HBB.out, _, _, _, _, _, _, HKB.out, (HF0.out.below HB2.out).mono (fun g hg => OutW.lo hg), HKZ.out⟩
 case rest =>
  obtain ⟨hB, m', p', r', q', s', c', k1, k2, k3⟩ := hcut.out
  have HC := Lib.hid (And.intro hB (And.intro k2 k3))
  obtain ⟨M', cm', rfl⟩ := k2.1.1.form
  obtain ⟨P', cp', rfl⟩ := k2.2.1.rws.form
  obtain ⟨R', cr', rfl⟩ := k2.2.2.1.1.form
  obtain ⟨Q', cq', rfl⟩ := k2.2.2.2.1.rws.form
  obtain ⟨S', cs', rfl⟩ := k2.2.2.2.2.1.rws.form
  obtain ⟨C', cc', rfl⟩ := k2.2.2.2.2.2.cgsv.form
  clear k2 hcut hB
  generalize hDD : wrongD (⟨MN, ⟨IX, SZ, PS⟩, ⟨⟨NM, RT⟩, ⟨SX, PT, SP⟩⟩, CO⟩ : BunD) (⟨xl, xf, xc, xw, xa, xt⟩ : DrD) = DD at *
  have HDE := Lib.hid hDD
  clear hDD
  have b0 := k1.cell 0 _ rfl
  have y0 := k3.free 0
  have z0 := k3.cell 0 _ rfl
  have b1 := k1.cell 1 _ rfl
  have y1 := k3.free 1
  have z1 := k3.cell 1 _ rfl
  have b2 := k1.cell 2 _ rfl
  have y2 := k3.free 2
  have z2 := k3.cell 2 _ rfl
  have b3 := k1.cell 3 _ rfl
  have y3 := k3.free 3
  have z3 := k3.cell 3 _ rfl
  have b4 := k1.cell 4 _ rfl
  have y4 := k3.free 4
  have z4 := k3.cell 4 _ rfl
  have b5 := k1.cell 5 _ rfl
  have y5 := k3.free 5
  have z5 := k3.cell 5 _ rfl
  have b6 := k1.cell 6 _ rfl
  have y6 := k3.free 6
  have z6 := k3.cell 6 _ rfl
  have b7 := k1.cell 7 _ rfl
  have y7 := k3.free 7
  have z7 := k3.cell 7 _ rfl
  have b8 := k1.cell 8 _ rfl
  have y8 := k3.free 8
  have z8 := k3.cell 8 _ rfl
  have b9 := k1.cell 9 _ rfl
  have y9 := k3.free 9
  have z9 := k3.cell 9 _ rfl
  clear k1 k3
  go_wp2
  clear b0 y0 z0 b1 y1 z1 b2 y2 z2 b3 y3 z3 b4 y4 z4 b5 y5 z5 b6 y6 z6 b7 y7 z7 b8 y8 z8 b9 y9 z9
  have hst := bunC_store HC.out.2.2 (.slice M' DD.man.length cm') (.int .i64 DD.prf.index) (.int .i64 DD.prf.size) (.slice P' DD.prf.path.length cp') (.int .i64 DD.sg.ck.num) (.slice R' DD.sg.ck.root.length cr') (.int .i64 DD.sg.sig.index) (.slice Q' DD.sg.sig.parts.length cq') (.slice S' DD.sg.sig.path.length cs') (.slice C' DD.cos.length cc') _ rfl
  have HS := Lib.hid hst
  clear hst
  refine bodyPost_ret (v := .agg [.slice M' DD.man.length cm', .int .i64 DD.prf.index, .int .i64 DD.prf.size, .slice P' DD.prf.path.length cp', .int .i64 DD.sg.ck.num, .slice R' DD.sg.ck.root.length cr', .int .i64 DD.sg.sig.index, .slice Q' DD.sg.sig.parts.length cq', .slice S' DD.sg.sig.path.length cs', .slice C' DD.cos.length cc'].toArray) ?_ ?_ ⟨.slice M' DD.man.length cm', .slice P' DD.prf.path.length cp', .slice R' DD.sg.ck.root.length cr', .slice Q' DD.sg.sig.parts.length cq', .slice S' DD.sg.sig.path.length cs', .slice C' DD.cos.length cc', ?_, ?_, ?_⟩
  ·exact results_cell_row Tryz.results46 _ _ (w.heap.size + 1 + 1) 42 _ (0, 0) _ rfl HS.out.1 under_bun rfl size_bun
  ·rfl
  ·rw [HDE.out]
  ·rw [HDE.out]
   exact (HC.out.2.1.chg HS.out.2 (fun g hg e => hg.2.2 e)).mono (fun g hg => hg.1)
  ·exact HC.out.1.trans (HS.out.2.below (by have := HC.out.1.size; have := HBB.out; have := HC.out.2.2.lt; omega) (fun k hk => by have e : k = w.heap.size + 1 + 1 := hk; have := HBB.out; omega))
end Go.Proofs.YtgeplpdcnanmnaaGreat
