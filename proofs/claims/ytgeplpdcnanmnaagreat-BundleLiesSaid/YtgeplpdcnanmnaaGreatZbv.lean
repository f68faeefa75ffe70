/- Manifests that are asked most, and their bytes. Conditions: as each theorem states them. -/
import Derived.Test.YtgeplpdcnanmnaaGreatZbo
import Derived.Test.YtgeplpdcnanmnaaGreatZbe
import Derived.Test.YtgeplpdcnanmnaaGreatZbh
import Derived.Test.YtgeplpdcnanmnaaGreatZaa
import Derived.Test.YtgeplpdcnanmnaaGreatZav
import Derived.Test.YtgeplpdcnanmnaaGreatZaj
import Derived.Deep.DeepCutAuto
namespace Go.Proofs.YtgeplpdcnanmnaaGreat
open Go.RowKit
set_option linter.unusedVariables false
set_option linter.unusedSimpArgs false

def strN : List Value := [.string ⟨#[112, 117, 109, 112]⟩, .string ⟨#[118, 97, 108, 118, 101]⟩, .string ⟨#[97]⟩, .string ⟨#[103, 97, 117, 103, 101, 111, 102, 116, 104, 101, 108, 111, 110, 103, 101, 115, 116, 110, 97, 109]⟩]
theorem strN_at (n : Int) (k : Nat) (hk : withinZ n 0 1000 % 4 = (k : Int)) (h4 : k < 4) : strN[k]? = some (.string ⟨(nameL n).toArray⟩) := by
 unfold nameL
 rw [hk]
 obtain rfl | rfl | rfl | rfl : k = 0 ∨ k = 1 ∨ k = 2 ∨ k = 3 := by omega
 all_goals rfl
theorem man_store {w : World} {zb : Nat} (hB : Blk w zb 55 [.string ⟨#[]⟩, .int .u32 0, .slice none 0 0, .slice none 0 0]) (u0 u1 u2 u3 : Value) (W : World) (hW : W = (((w.setCell ⟨zb, 0, none⟩ u0).setCell ⟨zb, 1, none⟩ u1).setCell ⟨zb, 2, none⟩ u2).setCell ⟨zb, 3, none⟩ u3) :
  Blk W zb 55 [u0, u1, u2, u3] ∧ Chg w W (fun k => k = zb) := by
 subst hW
 exact ⟨(((hB.set 0 u0 (by simp)).set 1 u1 (by simp)).set 2 u2 (by simp)).set 3 u3 (by simp), chg_cell (chg_cell (chg_cell (chg_cell (Chg.refl _ _) 0 _) 1 _) 2 _) 3 _⟩
set_option maxRecDepth 100000 in
set_option maxHeartbeats 8000000 in
theorem manifest_any (n v f : Int) (h0 : 0 ≤ f) (h3 : f ≤ 3) (w : World) :
  Calls Tryz.prog 48 #[.int .i64 n, .int .i64 v, .int .i64 f] w fun e w' => ∃ u, e = .returned u ∧ MaV w' u (manI n v f) ∧ Below w.heap.size w w' := by
 obtain ⟨k, hk⟩ := Int.eq_ofNat_of_zero_le (show 0 ≤ withinZ n 0 1000 % 4 by omega)
 have hk4 : k < 4 := by omega
 have hk5 : (k : Int) < 4 := by omega
 have HS := Lib.hid (strN_at n k hk hk4)
 have HM : Hid (manI n v f = ⟨nameL n, 1 + withinZ v 0 100000 % 9, hashS f, [ub f]⟩) := Lib.hid rfl
 have hW1 := withinZ_ge n 0 1000 (by decide)
 have hW2 := withinZ_ge v 0 100000 (by decide)
 have HQ1 := Lib.hid (fun wz : World => within_any n 0 1000 (by decide) (by decide) (by decide) wz)
 have HQ2 := Lib.hid (fun wz : World => within_any v 0 100000 (by decide) (by decide) (by decide) wz)
 have HH := Lib.hid (fun wz : World => hash_any f h0 (by omega) wz)
 have HHL := Lib.hid (hashS_length f)
 have hub : f % 256 = (((ub f).toNat : Nat) : Int) := (ub_val f).symm
 generalize manI n v f = MI at *
 generalize nameL n = NM at *
 generalize hashS f = FW at *
 generalize ub f = UB at *
 generalize withinZ n 0 1000 = W1 at *
 generalize withinZ v 0 100000 = W2 at *
 have ht1 : W1.tmod 4 = (k : Int) := by rw [Int.tmod_eq_emod_of_nonneg (by omega)]; exact hk
 obtain ⟨m, hm⟩ := Int.eq_ofNat_of_zero_le (show 0 ≤ W2 % 9 by omega)
 have ht2 : W2.tmod 9 = (m : Int) := by rw [Int.tmod_eq_emod_of_nonneg (by omega)]; exact hm
 have hm9 : m < 9 := by omega
 have hv1 : IntKind.wrap .i64 (1 + (m : Int)) = 1 + (m : Int) := IntWalk.i64_in _ (by omega)
 have hv2 : IntKind.wrap .u32 (1 + (m : Int)) = 1 + (m : Int) := by rw [IntKind.wrap_u32]; omega
 have hv3 : (1 + (m : Int)) % 4294967296 = 1 + (m : Int) := by omega
 have ht3 : f.tmod 4 = f := by rw [Int.tmod_eq_emod_of_nonneg (by omega)]; omega
 have ht4 : IntKind.wrap .u8 f = (((UB).toNat : Nat) : Int) := by rw [IntKind.wrap_u8]; exact hub
 have HME : Hid (MI = ⟨NM, 1 + (m : Int), FW, [UB]⟩) := Lib.hid (by rw [HM.out, hm])
 clear hk hm HM hW1 hW2
 have hex : (ByteArray.mk #[103, 97, 117, 103, 101, 111, 102, 116, 104, 101, 108, 111, 110, 103, 101, 115, 116, 110, 97, 109, 101]).extract 0 20 = ⟨#[103, 97, 117, 103, 101, 111, 102, 116, 104, 101, 108, 111, 110, 103, 101, 115, 116, 110, 97, 109]⟩ := by kernel_rfl
 have hz := (Below.refl w.heap.size w).alloc (Nat.le_refl _) (.cells #[.string ⟨#[]⟩, .int .u32 0, .slice none 0 0, .slice none 0 0] 55)
 have kz := Blk.new w 55 [.string ⟨#[]⟩, .int .u32 0, .slice none 0 0, .slice none 0 0]
 have HZ0 := Lib.hid (And.intro kz.drew hz.drew)
 clear hz kz
 go_enter Tryz.func48, Tryz.ntmps48
 go_upto_region 1 with fail
 refine code_at (fun w2 => Blk w2.drew w.heap.size 55 [.string ⟨#[]⟩, .int .u32 0, .slice none 0 0, .slice none 0 0] ∧ Below w.heap.size w w2.drew) HZ0.out ?_
 rintro w2 ⟨kz, kb⟩
 have HZ := Lib.hid kz
 have HB := Lib.hid kb
 clear kz kb HZ0
 generalize hzb : w.heap.size = zb at *
 have HZB := Lib.hid hzb
 clear hzb
 refine wp_region_held_drew (S := fun _ => True) (by kernel_rfl) True.intro (fun hHeld => ?_)
 generalize w2.drew = wr at *
 refine ty 0 7 rfl rfl ?_; simp only [sa, sb, sc]
 refine ty 2 9 rfl rfl ?_; simp only [sa, sb, sc]
 refine take_ask 3 10 10 #[.int .i64 n, .int .i64 0, .int .i64 1000] rfl rfl (by kernel_rfl) (by kernel_rfl) (by kernel_rfl) (fun _ _ _ h => h) (by assumption) (by rfl) (by (intro w hSw; (try dsimp only at hSw); go_simp; try with_reducible rfl)) (fun w hSw => HQ1.out w) ?_
 simp only [sa, sb, sc]
 refine ty 4 11 rfl rfl ?_; simp only [sa, sb, sc]
 refine ty 7 14 rfl rfl ?_; simp only [sa, sb, sc]
 refine take_ask 8 15 10 #[.int .i64 v, .int .i64 0, .int .i64 100000] rfl rfl (by kernel_rfl) (by kernel_rfl) (by kernel_rfl) (fun _ _ _ h => h) (by assumption) (by rfl) (by (intro w hSw; (try dsimp only at hSw); go_simp; try with_reducible rfl)) (fun w hSw => HQ2.out w) ?_
 simp only [sa, sb, sc]
 refine ty 9 16 rfl rfl ?_; simp only [sa, sb, sc]
 refine ty 10 17 rfl rfl ?_; simp only [sa, sb, sc]
 refine ty 11 18 rfl rfl ?_; simp only [sa, sb, sc]
 refine ty 12 19 rfl rfl ?_; simp only [sa, sb, sc]
 refine ty 13 20 rfl rfl ?_; simp only [sa, sb, sc]
 refine ty 15 22 rfl rfl ?_; simp only [sa, sb, sc]
 refine ty 16 23 rfl rfl ?_; simp only [sa, sb, sc]
 refine wpAnyH_ready (rs := [1, 14, 17]) (by kernel_rfl) (by simp) ?_
 refine AllReadyH.cons rfl (fun K hK => ?w1_1) (AllReadyH.cons rfl (fun K hK => ?w1_14) (AllReadyH.cons rfl (fun K hK => ?w1_17) AllReadyH.nil))
 case' w1_17 =>
  go_simp
  obtain ⟨tb, htb0⟩ : ∃ tb : Nat, tb = (wr).heap.size := ⟨_, rfl⟩
  obtain ⟨W17, hV⟩ : ∃ V : World, V = (wr).alloc (.cells #[.int .u8 ((UB.toNat : Nat) : Int)] 5) := ⟨_, rfl⟩
  have k3 : Below (wr).heap.size (wr) W17 := by rw [hV]; exact (Below.refl _ _).alloc (Nat.le_refl _) _
  have HN : Hid (BysF (fun g => zb < g) W17 (.slice (some ⟨tb, 0, none⟩) 1 1) [UB]) := Lib.hid ⟨by rw [hV, htb0]; exact Sho.new _ 5 (bys [UB]) 1 1 1 rfl (Nat.le_refl _) (by decide), fun _ g hg => by have h8 := HZ.out.lt; have h7 : some tb = some g := hg; injection h7 with h7; omega⟩
  rw [← hV, ← htb0]
  replace HB := Lib.hid (HB.out.trans (k3.mono (Nat.le_trans (Nat.le_of_eq HZB.out.symm) HB.out.size)))
  replace HZ := Lib.hid (HZ.out.below k3)
  clear hV k3 htb0
  refine hK.out _ _ True.intro (fun hHeld17 => ?_)
  clear hK K; try simp only [Act.put, sa, sb, sc]
  refine wpAnyH_ready (rs := [1, 14]) (by kernel_rfl) (by simp) ?_
  refine AllReadyH.cons rfl (fun K hK => ?w1_17_1) (AllReadyH.cons rfl (fun K hK => ?w1_17_14) AllReadyH.nil)
  case' w1_17_14 =>
   go_simp
   go_at_call 127
   refine (HH.out _).mono ?_
   rintro e W17_14 ⟨v14, rfl, h1, h2⟩
   obtain ⟨A14, c14, rfl⟩ := h1.form
   have HF : Hid (BysF (fun g => zb < g) W17_14 (.slice A14 FW.length c14) FW) := Lib.hid (h1.foot.mono (fun g hg => by have h8 := HZ.out.lt; have h7 : (W17).heap.size ≤ g := hg.1; omega))
   replace HB := Lib.hid (HB.out.trans (h2.mono (Nat.le_trans (Nat.le_of_eq HZB.out.symm) HB.out.size)))
   replace HZ := Lib.hid (HZ.out.below h2)
   replace HN := Lib.hid (HN.out.below h2)
   clear h1 h2
   try dsimp only
   refine hK.out _ _ True.intro (fun hHeld14 => ?_)
   clear hK K; try simp only [Act.put, sa, sb, sc]
   refine rd 1 (by kernel_rfl) rfl (fun K hK => ?_)
   go_simp
   obtain ⟨nb, hnb0⟩ : ∃ nb : Nat, nb = (W17_14).heap.size := ⟨_, rfl⟩
   obtain ⟨W17_14_1, hV⟩ : ∃ V : World, V = (W17_14).alloc (.cells #[.string ⟨#[112, 117, 109, 112]⟩, .string ⟨#[118, 97, 108, 118, 101]⟩, .string ⟨#[97]⟩, .string ⟨#[103, 97, 117, 103, 101, 111, 102, 116, 104, 101, 108, 111, 110, 103, 101, 115, 116, 110, 97, 109]⟩] 9) := ⟨_, rfl⟩
   have k3 : Below (W17_14).heap.size (W17_14) W17_14_1 := by rw [hV]; exact (Below.refl _ _).alloc (Nat.le_refl _) _
   have kN : Blk W17_14_1 nb 9 strN := by rw [hV, hnb0]; exact Blk.new _ _ _
   have x1 := kN.cell k _ HS.out
   have hnb := kN.lt
   have hnz : zb < nb := by have h9 := HZ.out.lt; omega
   rw [← hV, ← hnb0]
   replace HB := Lib.hid (HB.out.trans (k3.mono (Nat.le_trans (Nat.le_of_eq HZB.out.symm) HB.out.size)))
   replace HZ := Lib.hid (HZ.out.below k3)
   replace HF := Lib.hid (HF.out.below k3)
   replace HN := Lib.hid (HN.out.below k3)
   clear hV k3 kN hnb0
   refine hK.out _ _ True.intro (fun hHeld1 => ?_)
   clear hK K; try simp only [Act.put, sa, sb, sc]
   refine held_more (T := fun w' => w'.cell? ⟨nb, k, none⟩ = some (.string ⟨NM.toArray⟩)) (fun _ _ => True.intro) _ _ _ _ ?_
   refine ty 5 12 rfl rfl ?_; simp only [sa, sb, sc]
   refine ty 6 13 rfl rfl ?_; simp only [sa, sb, sc]
   refine ty 18 25 rfl rfl ?_; simp only [sa, sb, sc]
   refine rd 19 (by kernel_rfl) rfl (fun K hK => ?_)
   have y0 := HZ.out.free 0
   have y1 := HZ.out.free 1
   have y2 := HZ.out.free 2
   have y3 := HZ.out.free 3
   have z0 := HZ.out.cell 0 _ rfl
   have z1 := HZ.out.cell 1 _ rfl
   have z2 := HZ.out.cell 2 _ rfl
   have z3 := HZ.out.cell 3 _ rfl
   go_simp
   have hst := man_store HZ.out (.string ⟨NM.toArray⟩) (.int .u32 (1 + (m : Int))) (.slice A14 FW.length c14) (.slice (some ⟨tb, 0, none⟩) 1 1) _ rfl
   have H9 := Lib.hid (And.intro hst (And.intro (HF.out.chg hst.2 (fun g hg e => by have h1 : zb < g := hg; have h2 : g = zb := e; omega)) (And.intro (HN.out.chg hst.2 (fun g hg e => by have h1 : zb < g := hg; have h2 : g = zb := e; omega)) (HB.out.trans (hst.2.below (Nat.le_trans (Nat.le_of_eq HZB.out.symm) HB.out.size) (fun g hg => Nat.le_of_eq hg.symm))))))
   have x9 := (hst.2.cell (a := ⟨nb, k, none⟩) hnb (fun e => by have h2 : nb = zb := e; omega)).trans x1
   clear hst
   refine hK.out _ _ x9 (fun hHeld19 => ?_)
   clear hK K; try simp only [Act.put, sa, sb, sc]
   refine wpAnyH_done (by kernel_rfl) ?_ _
   clear y0 y1 y2 y3 z0 z1 z2 z3 x9 x1 hHeld hex
   go_wp2
   refine bodyPost_ret (v := .agg [.string ⟨NM.toArray⟩, .int .u32 (1 + (m : Int)), .slice A14 FW.length c14, .slice (some ⟨tb, 0, none⟩) 1 1].toArray) ?_ ?_ ⟨_, rfl, ?_, ?_⟩
   ·exact results_cell_row Tryz.results48 _ _ zb 55 _ (0, 0) _ rfl H9.out.1.1 under_manifest rfl size_manifest
   ·rfl
   ·rw [HME.out]
    exact ⟨_, _, rfl, H9.out.2.1.1, H9.out.2.2.1.1⟩
   ·rw [HZB.out]
    exact H9.out.2.2.2
  case' w1_17_1 =>
   go_simp
   obtain ⟨nb, hnb0⟩ : ∃ nb : Nat, nb = (W17).heap.size := ⟨_, rfl⟩
   obtain ⟨W17_1, hV⟩ : ∃ V : World, V = (W17).alloc (.cells #[.string ⟨#[112, 117, 109, 112]⟩, .string ⟨#[118, 97, 108, 118, 101]⟩, .string ⟨#[97]⟩, .string ⟨#[103, 97, 117, 103, 101, 111, 102, 116, 104, 101, 108, 111, 110, 103, 101, 115, 116, 110, 97, 109]⟩] 9) := ⟨_, rfl⟩
   have k3 : Below (W17).heap.size (W17) W17_1 := by rw [hV]; exact (Below.refl _ _).alloc (Nat.le_refl _) _
   have kN : Blk W17_1 nb 9 strN := by rw [hV, hnb0]; exact Blk.new _ _ _
   have x1 := kN.cell k _ HS.out
   have hnb := kN.lt
   have hnz : zb < nb := by have h9 := HZ.out.lt; omega
   rw [← hV, ← hnb0]
   replace HB := Lib.hid (HB.out.trans (k3.mono (Nat.le_trans (Nat.le_of_eq HZB.out.symm) HB.out.size)))
   replace HZ := Lib.hid (HZ.out.below k3)
   replace HN := Lib.hid (HN.out.below k3)
   clear hV k3 kN hnb0
   refine hK.out _ _ True.intro (fun hHeld1 => ?_)
   clear hK K; try simp only [Act.put, sa, sb, sc]
   refine held_more (T := fun w' => w'.cell? ⟨nb, k, none⟩ = some (.string ⟨NM.toArray⟩)) (fun _ _ => True.intro) _ _ _ _ ?_
   refine ty 5 12 rfl rfl ?_; simp only [sa, sb, sc]
   refine ty 6 13 rfl rfl ?_; simp only [sa, sb, sc]
   refine rd 14 (by kernel_rfl) rfl (fun K hK => ?_)
   go_simp
   go_at_call 127
   refine (HH.out _).mono ?_
   rintro e W17_1_14 ⟨v14, rfl, h1, h2⟩
   obtain ⟨A14, c14, rfl⟩ := h1.form
   have HF : Hid (BysF (fun g => zb < g) W17_1_14 (.slice A14 FW.length c14) FW) := Lib.hid (h1.foot.mono (fun g hg => by have h8 := HZ.out.lt; have h7 : (W17_1).heap.size ≤ g := hg.1; omega))
   replace HB := Lib.hid (HB.out.trans (h2.mono (Nat.le_trans (Nat.le_of_eq HZB.out.symm) HB.out.size)))
   replace HZ := Lib.hid (HZ.out.below h2)
   replace HN := Lib.hid (HN.out.below h2)
   replace x1 := (h2.cell (p := ⟨nb, k, none⟩) hnb).trans x1
   replace hnb := Nat.lt_of_lt_of_le hnb h2.size
   clear h1 h2
   try dsimp only
   refine hK.out _ _ x1 (fun hHeld14 => ?_)
   clear hK K; try simp only [Act.put, sa, sb, sc]
   refine ty 18 25 rfl rfl ?_; simp only [sa, sb, sc]
   refine rd 19 (by kernel_rfl) rfl (fun K hK => ?_)
   have y0 := HZ.out.free 0
   have y1 := HZ.out.free 1
   have y2 := HZ.out.free 2
   have y3 := HZ.out.free 3
   have z0 := HZ.out.cell 0 _ rfl
   have z1 := HZ.out.cell 1 _ rfl
   have z2 := HZ.out.cell 2 _ rfl
   have z3 := HZ.out.cell 3 _ rfl
   go_simp
   have hst := man_store HZ.out (.string ⟨NM.toArray⟩) (.int .u32 (1 + (m : Int))) (.slice A14 FW.length c14) (.slice (some ⟨tb, 0, none⟩) 1 1) _ rfl
   have H9 := Lib.hid (And.intro hst (And.intro (HF.out.chg hst.2 (fun g hg e => by have h1 : zb < g := hg; have h2 : g = zb := e; omega)) (And.intro (HN.out.chg hst.2 (fun g hg e => by have h1 : zb < g := hg; have h2 : g = zb := e; omega)) (HB.out.trans (hst.2.below (Nat.le_trans (Nat.le_of_eq HZB.out.symm) HB.out.size) (fun g hg => Nat.le_of_eq hg.symm))))))
   have x9 := (hst.2.cell (a := ⟨nb, k, none⟩) hnb (fun e => by have h2 : nb = zb := e; omega)).trans x1
   clear hst
   refine hK.out _ _ x9 (fun hHeld19 => ?_)
   clear hK K; try simp only [Act.put, sa, sb, sc]
   refine wpAnyH_done (by kernel_rfl) ?_ _
   clear y0 y1 y2 y3 z0 z1 z2 z3 x9 x1 hHeld hex
   go_wp2
   refine bodyPost_ret (v := .agg [.string ⟨NM.toArray⟩, .int .u32 (1 + (m : Int)), .slice A14 FW.length c14, .slice (some ⟨tb, 0, none⟩) 1 1].toArray) ?_ ?_ ⟨_, rfl, ?_, ?_⟩
   ·exact results_cell_row Tryz.results48 _ _ zb 55 _ (0, 0) _ rfl H9.out.1.1 under_manifest rfl size_manifest
   ·rfl
   ·rw [HME.out]
    exact ⟨_, _, rfl, H9.out.2.1.1, H9.out.2.2.1.1⟩
   ·rw [HZB.out]
    exact H9.out.2.2.2
 case' w1_14 =>
  go_simp
  go_at_call 127
  refine (HH.out _).mono ?_
  rintro e W14 ⟨v14, rfl, h1, h2⟩
  obtain ⟨A14, c14, rfl⟩ := h1.form
  have HF : Hid (BysF (fun g => zb < g) W14 (.slice A14 FW.length c14) FW) := Lib.hid (h1.foot.mono (fun g hg => by have h8 := HZ.out.lt; have h7 : (wr).heap.size ≤ g := hg.1; omega))
  replace HB := Lib.hid (HB.out.trans (h2.mono (Nat.le_trans (Nat.le_of_eq HZB.out.symm) HB.out.size)))
  replace HZ := Lib.hid (HZ.out.below h2)
  clear h1 h2
  try dsimp only
  refine hK.out _ _ True.intro (fun hHeld14 => ?_)
  clear hK K; try simp only [Act.put, sa, sb, sc]
  refine wpAnyH_ready (rs := [1, 17]) (by kernel_rfl) (by simp) ?_
  refine AllReadyH.cons rfl (fun K hK => ?w1_14_1) (AllReadyH.cons rfl (fun K hK => ?w1_14_17) AllReadyH.nil)
  case' w1_14_17 =>
   go_simp
   obtain ⟨tb, htb0⟩ : ∃ tb : Nat, tb = (W14).heap.size := ⟨_, rfl⟩
   obtain ⟨W14_17, hV⟩ : ∃ V : World, V = (W14).alloc (.cells #[.int .u8 ((UB.toNat : Nat) : Int)] 5) := ⟨_, rfl⟩
   have k3 : Below (W14).heap.size (W14) W14_17 := by rw [hV]; exact (Below.refl _ _).alloc (Nat.le_refl _) _
   have HN : Hid (BysF (fun g => zb < g) W14_17 (.slice (some ⟨tb, 0, none⟩) 1 1) [UB]) := Lib.hid ⟨by rw [hV, htb0]; exact Sho.new _ 5 (bys [UB]) 1 1 1 rfl (Nat.le_refl _) (by decide), fun _ g hg => by have h8 := HZ.out.lt; have h7 : some tb = some g := hg; injection h7 with h7; omega⟩
   rw [← hV, ← htb0]
   replace HB := Lib.hid (HB.out.trans (k3.mono (Nat.le_trans (Nat.le_of_eq HZB.out.symm) HB.out.size)))
   replace HZ := Lib.hid (HZ.out.below k3)
   replace HF := Lib.hid (HF.out.below k3)
   clear hV k3 htb0
   refine hK.out _ _ True.intro (fun hHeld17 => ?_)
   clear hK K; try simp only [Act.put, sa, sb, sc]
   refine rd 1 (by kernel_rfl) rfl (fun K hK => ?_)
   go_simp
   obtain ⟨nb, hnb0⟩ : ∃ nb : Nat, nb = (W14_17).heap.size := ⟨_, rfl⟩
   obtain ⟨W14_17_1, hV⟩ : ∃ V : World, V = (W14_17).alloc (.cells #[.string ⟨#[112, 117, 109, 112]⟩, .string ⟨#[118, 97, 108, 118, 101]⟩, .string ⟨#[97]⟩, .string ⟨#[103, 97, 117, 103, 101, 111, 102, 116, 104, 101, 108, 111, 110, 103, 101, 115, 116, 110, 97, 109]⟩] 9) := ⟨_, rfl⟩
   have k3 : Below (W14_17).heap.size (W14_17) W14_17_1 := by rw [hV]; exact (Below.refl _ _).alloc (Nat.le_refl _) _
   have kN : Blk W14_17_1 nb 9 strN := by rw [hV, hnb0]; exact Blk.new _ _ _
   have x1 := kN.cell k _ HS.out
   have hnb := kN.lt
   have hnz : zb < nb := by have h9 := HZ.out.lt; omega
   rw [← hV, ← hnb0]
   replace HB := Lib.hid (HB.out.trans (k3.mono (Nat.le_trans (Nat.le_of_eq HZB.out.symm) HB.out.size)))
   replace HZ := Lib.hid (HZ.out.below k3)
   replace HF := Lib.hid (HF.out.below k3)
   replace HN := Lib.hid (HN.out.below k3)
   clear hV k3 kN hnb0
   refine hK.out _ _ True.intro (fun hHeld1 => ?_)
   clear hK K; try simp only [Act.put, sa, sb, sc]
   refine held_more (T := fun w' => w'.cell? ⟨nb, k, none⟩ = some (.string ⟨NM.toArray⟩)) (fun _ _ => True.intro) _ _ _ _ ?_
   refine ty 5 12 rfl rfl ?_; simp only [sa, sb, sc]
   refine ty 6 13 rfl rfl ?_; simp only [sa, sb, sc]
   refine ty 18 25 rfl rfl ?_; simp only [sa, sb, sc]
   refine rd 19 (by kernel_rfl) rfl (fun K hK => ?_)
   have y0 := HZ.out.free 0
   have y1 := HZ.out.free 1
   have y2 := HZ.out.free 2
   have y3 := HZ.out.free 3
   have z0 := HZ.out.cell 0 _ rfl
   have z1 := HZ.out.cell 1 _ rfl
   have z2 := HZ.out.cell 2 _ rfl
   have z3 := HZ.out.cell 3 _ rfl
   go_simp
   have hst := man_store HZ.out (.string ⟨NM.toArray⟩) (.int .u32 (1 + (m : Int))) (.slice A14 FW.length c14) (.slice (some ⟨tb, 0, none⟩) 1 1) _ rfl
   have H9 := Lib.hid (And.intro hst (And.intro (HF.out.chg hst.2 (fun g hg e => by have h1 : zb < g := hg; have h2 : g = zb := e; omega)) (And.intro (HN.out.chg hst.2 (fun g hg e => by have h1 : zb < g := hg; have h2 : g = zb := e; omega)) (HB.out.trans (hst.2.below (Nat.le_trans (Nat.le_of_eq HZB.out.symm) HB.out.size) (fun g hg => Nat.le_of_eq hg.symm))))))
   have x9 := (hst.2.cell (a := ⟨nb, k, none⟩) hnb (fun e => by have h2 : nb = zb := e; omega)).trans x1
   clear hst
   refine hK.out _ _ x9 (fun hHeld19 => ?_)
   clear hK K; try simp only [Act.put, sa, sb, sc]
   refine wpAnyH_done (by kernel_rfl) ?_ _
   clear y0 y1 y2 y3 z0 z1 z2 z3 x9 x1 hHeld hex
   go_wp2
   refine bodyPost_ret (v := .agg [.string ⟨NM.toArray⟩, .int .u32 (1 + (m : Int)), .slice A14 FW.length c14, .slice (some ⟨tb, 0, none⟩) 1 1].toArray) ?_ ?_ ⟨_, rfl, ?_, ?_⟩
   ·exact results_cell_row Tryz.results48 _ _ zb 55 _ (0, 0) _ rfl H9.out.1.1 under_manifest rfl size_manifest
   ·rfl
   ·rw [HME.out]
    exact ⟨_, _, rfl, H9.out.2.1.1, H9.out.2.2.1.1⟩
   ·rw [HZB.out]
    exact H9.out.2.2.2
  case' w1_14_1 =>
   go_simp
   obtain ⟨nb, hnb0⟩ : ∃ nb : Nat, nb = (W14).heap.size := ⟨_, rfl⟩
   obtain ⟨W14_1, hV⟩ : ∃ V : World, V = (W14).alloc (.cells #[.string ⟨#[112, 117, 109, 112]⟩, .string ⟨#[118, 97, 108, 118, 101]⟩, .string ⟨#[97]⟩, .string ⟨#[103, 97, 117, 103, 101, 111, 102, 116, 104, 101, 108, 111, 110, 103, 101, 115, 116, 110, 97, 109]⟩] 9) := ⟨_, rfl⟩
   have k3 : Below (W14).heap.size (W14) W14_1 := by rw [hV]; exact (Below.refl _ _).alloc (Nat.le_refl _) _
   have kN : Blk W14_1 nb 9 strN := by rw [hV, hnb0]; exact Blk.new _ _ _
   have x1 := kN.cell k _ HS.out
   have hnb := kN.lt
   have hnz : zb < nb := by have h9 := HZ.out.lt; omega
   rw [← hV, ← hnb0]
   replace HB := Lib.hid (HB.out.trans (k3.mono (Nat.le_trans (Nat.le_of_eq HZB.out.symm) HB.out.size)))
   replace HZ := Lib.hid (HZ.out.below k3)
   replace HF := Lib.hid (HF.out.below k3)
   clear hV k3 kN hnb0
   refine hK.out _ _ True.intro (fun hHeld1 => ?_)
   clear hK K; try simp only [Act.put, sa, sb, sc]
   refine held_more (T := fun w' => w'.cell? ⟨nb, k, none⟩ = some (.string ⟨NM.toArray⟩)) (fun _ _ => True.intro) _ _ _ _ ?_
   refine ty 5 12 rfl rfl ?_; simp only [sa, sb, sc]
   refine ty 6 13 rfl rfl ?_; simp only [sa, sb, sc]
   refine rd 17 (by kernel_rfl) rfl (fun K hK => ?_)
   go_simp
   obtain ⟨tb, htb0⟩ : ∃ tb : Nat, tb = (W14_1).heap.size := ⟨_, rfl⟩
   obtain ⟨W14_1_17, hV⟩ : ∃ V : World, V = (W14_1).alloc (.cells #[.int .u8 ((UB.toNat : Nat) : Int)] 5) := ⟨_, rfl⟩
   have k3 : Below (W14_1).heap.size (W14_1) W14_1_17 := by rw [hV]; exact (Below.refl _ _).alloc (Nat.le_refl _) _
   have HN : Hid (BysF (fun g => zb < g) W14_1_17 (.slice (some ⟨tb, 0, none⟩) 1 1) [UB]) := Lib.hid ⟨by rw [hV, htb0]; exact Sho.new _ 5 (bys [UB]) 1 1 1 rfl (Nat.le_refl _) (by decide), fun _ g hg => by have h8 := HZ.out.lt; have h7 : some tb = some g := hg; injection h7 with h7; omega⟩
   rw [← hV, ← htb0]
   replace HB := Lib.hid (HB.out.trans (k3.mono (Nat.le_trans (Nat.le_of_eq HZB.out.symm) HB.out.size)))
   replace HZ := Lib.hid (HZ.out.below k3)
   replace HF := Lib.hid (HF.out.below k3)
   replace x1 := (k3.cell (p := ⟨nb, k, none⟩) hnb).trans x1
   replace hnb := Nat.lt_of_lt_of_le hnb k3.size
   clear hV k3 htb0
   refine hK.out _ _ x1 (fun hHeld17 => ?_)
   clear hK K; try simp only [Act.put, sa, sb, sc]
   refine ty 18 25 rfl rfl ?_; simp only [sa, sb, sc]
   refine rd 19 (by kernel_rfl) rfl (fun K hK => ?_)
   have y0 := HZ.out.free 0
   have y1 := HZ.out.free 1
   have y2 := HZ.out.free 2
   have y3 := HZ.out.free 3
   have z0 := HZ.out.cell 0 _ rfl
   have z1 := HZ.out.cell 1 _ rfl
   have z2 := HZ.out.cell 2 _ rfl
   have z3 := HZ.out.cell 3 _ rfl
   go_simp
   have hst := man_store HZ.out (.string ⟨NM.toArray⟩) (.int .u32 (1 + (m : Int))) (.slice A14 FW.length c14) (.slice (some ⟨tb, 0, none⟩) 1 1) _ rfl
   have H9 := Lib.hid (And.intro hst (And.intro (HF.out.chg hst.2 (fun g hg e => by have h1 : zb < g := hg; have h2 : g = zb := e; omega)) (And.intro (HN.out.chg hst.2 (fun g hg e => by have h1 : zb < g := hg; have h2 : g = zb := e; omega)) (HB.out.trans (hst.2.below (Nat.le_trans (Nat.le_of_eq HZB.out.symm) HB.out.size) (fun g hg => Nat.le_of_eq hg.symm))))))
   have x9 := (hst.2.cell (a := ⟨nb, k, none⟩) hnb (fun e => by have h2 : nb = zb := e; omega)).trans x1
   clear hst
   refine hK.out _ _ x9 (fun hHeld19 => ?_)
   clear hK K; try simp only [Act.put, sa, sb, sc]
   refine wpAnyH_done (by kernel_rfl) ?_ _
   clear y0 y1 y2 y3 z0 z1 z2 z3 x9 x1 hHeld hex
   go_wp2
   refine bodyPost_ret (v := .agg [.string ⟨NM.toArray⟩, .int .u32 (1 + (m : Int)), .slice A14 FW.length c14, .slice (some ⟨tb, 0, none⟩) 1 1].toArray) ?_ ?_ ⟨_, rfl, ?_, ?_⟩
   ·exact results_cell_row Tryz.results48 _ _ zb 55 _ (0, 0) _ rfl H9.out.1.1 under_manifest rfl size_manifest
   ·rfl
   ·rw [HME.out]
    exact ⟨_, _, rfl, H9.out.2.1.1, H9.out.2.2.1.1⟩
   ·rw [HZB.out]
    exact H9.out.2.2.2
 case' w1_1 =>
  go_simp
  obtain ⟨nb, hnb0⟩ : ∃ nb : Nat, nb = (wr).heap.size := ⟨_, rfl⟩
  obtain ⟨W1, hV⟩ : ∃ V : World, V = (wr).alloc (.cells #[.string ⟨#[112, 117, 109, 112]⟩, .string ⟨#[118, 97, 108, 118, 101]⟩, .string ⟨#[97]⟩, .string ⟨#[103, 97, 117, 103, 101, 111, 102, 116, 104, 101, 108, 111, 110, 103, 101, 115, 116, 110, 97, 109]⟩] 9) := ⟨_, rfl⟩
  have k3 : Below (wr).heap.size (wr) W1 := by rw [hV]; exact (Below.refl _ _).alloc (Nat.le_refl _) _
  have kN : Blk W1 nb 9 strN := by rw [hV, hnb0]; exact Blk.new _ _ _
  have x1 := kN.cell k _ HS.out
  have hnb := kN.lt
  have hnz : zb < nb := by have h9 := HZ.out.lt; omega
  rw [← hV, ← hnb0]
  replace HB := Lib.hid (HB.out.trans (k3.mono (Nat.le_trans (Nat.le_of_eq HZB.out.symm) HB.out.size)))
  replace HZ := Lib.hid (HZ.out.below k3)
  clear hV k3 kN hnb0
  refine hK.out _ _ True.intro (fun hHeld1 => ?_)
  clear hK K; try simp only [Act.put, sa, sb, sc]
  refine held_more (T := fun w' => w'.cell? ⟨nb, k, none⟩ = some (.string ⟨NM.toArray⟩)) (fun _ _ => True.intro) _ _ _ _ ?_
  refine ty 5 12 rfl rfl ?_; simp only [sa, sb, sc]
  refine ty 6 13 rfl rfl ?_; simp only [sa, sb, sc]
  refine wpAnyH_ready (rs := [14, 17]) (by kernel_rfl) (by simp) ?_
  refine AllReadyH.cons rfl (fun K hK => ?w1_1_14) (AllReadyH.cons rfl (fun K hK => ?w1_1_17) AllReadyH.nil)
  case' w1_1_17 =>
   go_simp
   obtain ⟨tb, htb0⟩ : ∃ tb : Nat, tb = (W1).heap.size := ⟨_, rfl⟩
   obtain ⟨W1_17, hV⟩ : ∃ V : World, V = (W1).alloc (.cells #[.int .u8 ((UB.toNat : Nat) : Int)] 5) := ⟨_, rfl⟩
   have k3 : Below (W1).heap.size (W1) W1_17 := by rw [hV]; exact (Below.refl _ _).alloc (Nat.le_refl _) _
   have HN : Hid (BysF (fun g => zb < g) W1_17 (.slice (some ⟨tb, 0, none⟩) 1 1) [UB]) := Lib.hid ⟨by rw [hV, htb0]; exact Sho.new _ 5 (bys [UB]) 1 1 1 rfl (Nat.le_refl _) (by decide), fun _ g hg => by have h8 := HZ.out.lt; have h7 : some tb = some g := hg; injection h7 with h7; omega⟩
   rw [← hV, ← htb0]
   replace HB := Lib.hid (HB.out.trans (k3.mono (Nat.le_trans (Nat.le_of_eq HZB.out.symm) HB.out.size)))
   replace HZ := Lib.hid (HZ.out.below k3)
   replace x1 := (k3.cell (p := ⟨nb, k, none⟩) hnb).trans x1
   replace hnb := Nat.lt_of_lt_of_le hnb k3.size
   clear hV k3 htb0
   refine hK.out _ _ x1 (fun hHeld17 => ?_)
   clear hK K; try simp only [Act.put, sa, sb, sc]
   refine rd 14 (by kernel_rfl) rfl (fun K hK => ?_)
   go_simp
   go_at_call 127
   refine (HH.out _).mono ?_
   rintro e W1_17_14 ⟨v14, rfl, h1, h2⟩
   obtain ⟨A14, c14, rfl⟩ := h1.form
   have HF : Hid (BysF (fun g => zb < g) W1_17_14 (.slice A14 FW.length c14) FW) := Lib.hid (h1.foot.mono (fun g hg => by have h8 := HZ.out.lt; have h7 : (W1_17).heap.size ≤ g := hg.1; omega))
   replace HB := Lib.hid (HB.out.trans (h2.mono (Nat.le_trans (Nat.le_of_eq HZB.out.symm) HB.out.size)))
   replace HZ := Lib.hid (HZ.out.below h2)
   replace HN := Lib.hid (HN.out.below h2)
   replace x1 := (h2.cell (p := ⟨nb, k, none⟩) hnb).trans x1
   replace hnb := Nat.lt_of_lt_of_le hnb h2.size
   clear h1 h2
   try dsimp only
   refine hK.out _ _ x1 (fun hHeld14 => ?_)
   clear hK K; try simp only [Act.put, sa, sb, sc]
   refine ty 18 25 rfl rfl ?_; simp only [sa, sb, sc]
   refine rd 19 (by kernel_rfl) rfl (fun K hK => ?_)
   have y0 := HZ.out.free 0
   have y1 := HZ.out.free 1
   have y2 := HZ.out.free 2
   have y3 := HZ.out.free 3
   have z0 := HZ.out.cell 0 _ rfl
   have z1 := HZ.out.cell 1 _ rfl
   have z2 := HZ.out.cell 2 _ rfl
   have z3 := HZ.out.cell 3 _ rfl
   go_simp
   have hst := man_store HZ.out (.string ⟨NM.toArray⟩) (.int .u32 (1 + (m : Int))) (.slice A14 FW.length c14) (.slice (some ⟨tb, 0, none⟩) 1 1) _ rfl
   have H9 := Lib.hid (And.intro hst (And.intro (HF.out.chg hst.2 (fun g hg e => by have h1 : zb < g := hg; have h2 : g = zb := e; omega)) (And.intro (HN.out.chg hst.2 (fun g hg e => by have h1 : zb < g := hg; have h2 : g = zb := e; omega)) (HB.out.trans (hst.2.below (Nat.le_trans (Nat.le_of_eq HZB.out.symm) HB.out.size) (fun g hg => Nat.le_of_eq hg.symm))))))
   have x9 := (hst.2.cell (a := ⟨nb, k, none⟩) hnb (fun e => by have h2 : nb = zb := e; omega)).trans x1
   clear hst
   refine hK.out _ _ x9 (fun hHeld19 => ?_)
   clear hK K; try simp only [Act.put, sa, sb, sc]
   refine wpAnyH_done (by kernel_rfl) ?_ _
   clear y0 y1 y2 y3 z0 z1 z2 z3 x9 x1 hHeld hex
   go_wp2
   refine bodyPost_ret (v := .agg [.string ⟨NM.toArray⟩, .int .u32 (1 + (m : Int)), .slice A14 FW.length c14, .slice (some ⟨tb, 0, none⟩) 1 1].toArray) ?_ ?_ ⟨_, rfl, ?_, ?_⟩
   ·exact results_cell_row Tryz.results48 _ _ zb 55 _ (0, 0) _ rfl H9.out.1.1 under_manifest rfl size_manifest
   ·rfl
   ·rw [HME.out]
    exact ⟨_, _, rfl, H9.out.2.1.1, H9.out.2.2.1.1⟩
   ·rw [HZB.out]
    exact H9.out.2.2.2
  case' w1_1_14 =>
   go_simp
   go_at_call 127
   refine (HH.out _).mono ?_
   rintro e W1_14 ⟨v14, rfl, h1, h2⟩
   obtain ⟨A14, c14, rfl⟩ := h1.form
   have HF : Hid (BysF (fun g => zb < g) W1_14 (.slice A14 FW.length c14) FW) := Lib.hid (h1.foot.mono (fun g hg => by have h8 := HZ.out.lt; have h7 : (W1).heap.size ≤ g := hg.1; omega))
   replace HB := Lib.hid (HB.out.trans (h2.mono (Nat.le_trans (Nat.le_of_eq HZB.out.symm) HB.out.size)))
   replace HZ := Lib.hid (HZ.out.below h2)
   replace x1 := (h2.cell (p := ⟨nb, k, none⟩) hnb).trans x1
   replace hnb := Nat.lt_of_lt_of_le hnb h2.size
   clear h1 h2
   try dsimp only
   refine hK.out _ _ x1 (fun hHeld14 => ?_)
   clear hK K; try simp only [Act.put, sa, sb, sc]
   refine rd 17 (by kernel_rfl) rfl (fun K hK => ?_)
   go_simp
   obtain ⟨tb, htb0⟩ : ∃ tb : Nat, tb = (W1_14).heap.size := ⟨_, rfl⟩
   obtain ⟨W1_14_17, hV⟩ : ∃ V : World, V = (W1_14).alloc (.cells #[.int .u8 ((UB.toNat : Nat) : Int)] 5) := ⟨_, rfl⟩
   have k3 : Below (W1_14).heap.size (W1_14) W1_14_17 := by rw [hV]; exact (Below.refl _ _).alloc (Nat.le_refl _) _
   have HN : Hid (BysF (fun g => zb < g) W1_14_17 (.slice (some ⟨tb, 0, none⟩) 1 1) [UB]) := Lib.hid ⟨by rw [hV, htb0]; exact Sho.new _ 5 (bys [UB]) 1 1 1 rfl (Nat.le_refl _) (by decide), fun _ g hg => by have h8 := HZ.out.lt; have h7 : some tb = some g := hg; injection h7 with h7; omega⟩
   rw [← hV, ← htb0]
   replace HB := Lib.hid (HB.out.trans (k3.mono (Nat.le_trans (Nat.le_of_eq HZB.out.symm) HB.out.size)))
   replace HZ := Lib.hid (HZ.out.below k3)
   replace HF := Lib.hid (HF.out.below k3)
   replace x1 := (k3.cell (p := ⟨nb, k, none⟩) hnb).trans x1
   replace hnb := Nat.lt_of_lt_of_le hnb k3.size
   clear hV k3 htb0
   refine hK.out _ _ x1 (fun hHeld17 => ?_)
   clear hK K; try simp only [Act.put, sa, sb, sc]
   refine ty 18 25 rfl rfl ?_; simp only [sa, sb, sc]
   refine rd 19 (by kernel_rfl) rfl (fun K hK => ?_)
   have y0 := HZ.out.free 0
   have y1 := HZ.out.free 1
   have y2 := HZ.out.free 2
   have y3 := HZ.out.free 3
   have z0 := HZ.out.cell 0 _ rfl
   have z1 := HZ.out.cell 1 _ rfl
   have z2 := HZ.out.cell 2 _ rfl
   have z3 := HZ.out.cell 3 _ rfl
   go_simp
   have hst := man_store HZ.out (.string ⟨NM.toArray⟩) (.int .u32 (1 + (m : Int))) (.slice A14 FW.length c14) (.slice (some ⟨tb, 0, none⟩) 1 1) _ rfl
   have H9 := Lib.hid (And.intro hst (And.intro (HF.out.chg hst.2 (fun g hg e => by have h1 : zb < g := hg; have h2 : g = zb := e; omega)) (And.intro (HN.out.chg hst.2 (fun g hg e => by have h1 : zb < g := hg; have h2 : g = zb := e; omega)) (HB.out.trans (hst.2.below (Nat.le_trans (Nat.le_of_eq HZB.out.symm) HB.out.size) (fun g hg => Nat.le_of_eq hg.symm))))))
   have x9 := (hst.2.cell (a := ⟨nb, k, none⟩) hnb (fun e => by have h2 : nb = zb := e; omega)).trans x1
   clear hst
   refine hK.out _ _ x9 (fun hHeld19 => ?_)
   clear hK K; try simp only [Act.put, sa, sb, sc]
   refine wpAnyH_done (by kernel_rfl) ?_ _
   clear y0 y1 y2 y3 z0 z1 z2 z3 x9 x1 hHeld hex
   go_wp2
   refine bodyPost_ret (v := .agg [.string ⟨NM.toArray⟩, .int .u32 (1 + (m : Int)), .slice A14 FW.length c14, .slice (some ⟨tb, 0, none⟩) 1 1].toArray) ?_ ?_ ⟨_, rfl, ?_, ?_⟩
   ·exact results_cell_row Tryz.results48 _ _ zb 55 _ (0, 0) _ rfl H9.out.1.1 under_manifest rfl size_manifest
   ·rfl
   ·rw [HME.out]
    exact ⟨_, _, rfl, H9.out.2.1.1, H9.out.2.2.1.1⟩
   ·rw [HZB.out]
    exact H9.out.2.2.2
end Go.Proofs.YtgeplpdcnanmnaaGreat
