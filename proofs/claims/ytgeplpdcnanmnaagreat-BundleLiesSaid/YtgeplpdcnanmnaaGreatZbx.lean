/- Manifests' bytes: the reference's Bytes, Encode; keep.Item. Conditions: as each theorem states them. -/
import Derived.Test.YtgeplpdcnanmnaaGreatZbv
namespace Go.Proofs.YtgeplpdcnanmnaaGreat
open Go.RowKit
set_option linter.unusedVariables false
set_option linter.unusedSimpArgs false

set_option maxRecDepth 100000 in
set_option maxHeartbeats 2000000 in
theorem rbytesw_any (base : Nat) (v u : Value) (l x : List UInt8) (hsm : l.length ≤ 1000000000) (hx : x.length ≤ 1000000000) (w : World) (hb : base ≤ w.heap.size) (ho : OwnB w base v l) (hu : Bys w u x) (hne : 0 < x.length → ∀ k, u.ownBlock = some k → v.ownBlock ≠ some k) :
    Calls Tryz.prog 71 #[v, u] w fun e w' => ∃ v', e = .returned v' ∧ OwnB w' base v' (l ++ (be2 (x.length : Int) ++ x)) ∧ Below base w w' := by
  obtain ⟨i0, hi0, hz0, hz1, hz2⟩ := info_parts info_u8
  obtain ⟨A, c, rfl⟩ := ho.form
  obtain ⟨U, cu, rfl⟩ := hu.form
  have HO := Lib.hid (And.intro ho (And.intro hu hne))
  have HBE : Hid (be2 (x.length : Int) = [ub ((x.length : Int) / 256), ub (x.length : Int)]) := Lib.hid rfl
  have e1 : (x.length : Int) / 256 % 256 = (((ub ((x.length : Int) / 256)).toNat : Nat) : Int) := (ub_val _).symm
  have e2 : (x.length : Int) % 256 = (((ub (x.length : Int)).toNat : Nat) : Int) := (ub_val _).symm
  clear ho hu hne
  generalize be2 (x.length : Int) = BE at *
  generalize ub ((x.length : Int) / 256) = b1 at *
  generalize ub (x.length : Int) = b2 at *
  go_enter Tryz.func71, Tryz.ntmps71
  go_wp2_with (at_builtin; (first
    | (refine wpList_append_any rfl (.tmp 5) (.tmp 13) 24 rfl base 5 i0 (.int .u8 0) 1 1 Tryz.underlying24 hi0 hz0 hz1 hz2 rfl (by decide) _ l.length (bys l) rfl (World.ownsRow.alloc HO.out.1 _) _ 2 (bys [b1, b2]) rfl (Bys.new w [b1, b2] 2 rfl (by decide)) (by unfold maxLen; omega) (by omega) (by simp; omega) ?_
       intro v2 W2 hown2 hgrow2
       have hc2 : Chg w W2 (fun k => (Value.slice A l.length c).ownBlock = some k) := ((Chg.refl w _).alloc _).trans (Chg.of_grown hgrow2) (fun i _ h => h.symm)
       have H2 : Hid (OwnB W2 base v2 (l ++ [b1, b2]) ∧ Bys W2 (.slice U x.length cu) x ∧ Below base w W2) := Lib.hid ⟨OwnB.append rfl hown2, Sho.chgF HO.out.2.1 (S := fun g => (Value.slice A l.length c).ownBlock ≠ some g) HO.out.2.2 hc2 (fun g hg e => hg e), ((Below.refl base w).alloc hb _).grown hgrow2 (by simp; omega) (fun k e => OwnB.ge HO.out.1 e)⟩
       obtain ⟨D2, hD2⟩ : ∃ D2, D2 = l ++ [b1, b2] := ⟨_, rfl⟩
       rw [← hD2] at H2
       have hl2 : D2.length ≤ 1000000002 := by rw [hD2]; simp; omega
       have HD2 := Lib.hid hD2
       obtain ⟨A2, c2, rfl⟩ := H2.out.1.form
       clear hown2 hgrow2 hc2 hD2)
    | (refine wpList_append_any rfl (.tmp 14) (.tmp 15) 24 rfl base 5 i0 (.int .u8 0) 1 1 Tryz.underlying24 hi0 hz0 hz1 hz2 rfl (by decide) _ D2.length (bys D2) rfl H2.out.1 _ x.length (bys x) rfl H2.out.2.1.news (by unfold maxLen; omega) (by omega) (by have := H2.out.2.2.size; omega) ?_
       intro v3 W3 hown3 hgrow3
       have H3 : Hid (OwnB W3 base v3 (D2 ++ x) ∧ Below base w W3) := Lib.hid ⟨OwnB.append rfl hown3, H2.out.2.2.grown hgrow3 (by have := H2.out.2.2.size; omega) (fun k e => OwnB.ge H2.out.1 e)⟩
       clear hown3 hgrow3)))
  go_ret
  rw [HBE.out, ← List.append_assoc, ← HD2.out]
  exact ⟨_, rfl, H3.out.1, H3.out.2⟩
theorem encM_eq (m : ManD) : encM m = ((([77] ++ (be2 (m.name.length : Int) ++ m.name)) ++ be4 m.ver) ++ m.fw) ++ (be2 (m.notes.length : Int) ++ m.notes) := by
 unfold encM
 show [ub 77] ++ _ = _
 rw [show ub 77 = 77 from rfl]
 simp only [List.append_assoc]
set_option maxRecDepth 100000 in
set_option maxHeartbeats 8000000 in
theorem encode9_any (v : Value) (m : ManD) (hn : m.name.length ≤ 1000) (hf : m.fw.length ≤ 1000) (ht : m.notes.length ≤ 1000) (w : World) (hv : MaV w v m) :
  Calls Tryz.prog 47 #[v] w fun e w' => ∃ u, e = .returned u ∧ OwnB w' w.heap.size u (encM m) ∧ Below w.heap.size w w' := by
 obtain ⟨i0, hi0, hz0, hz1, hz2⟩ := info_parts info_u8
 obtain ⟨f, t, rfl, h1, h2⟩ := hv
 obtain ⟨F, cf, rfl⟩ := h1.form
 obtain ⟨T, ct, rfl⟩ := h2.form
 obtain ⟨nm, ver, fw, nt⟩ := m
 dsimp only at *
 have HE := Lib.hid (encM_eq ⟨nm, ver, fw, nt⟩)
 generalize encM ⟨nm, ver, fw, nt⟩ = E at *
 dsimp only at HE
 have hal := ((Below.refl w.heap.size w).alloc (Nat.le_refl _) (.cells #[.string ⟨nm.toArray⟩, .int .u32 ver, .slice F fw.length cf, .slice T nt.length ct] 55)).drew
 have HX := Lib.hid (And.intro (h1.below hal) (And.intro (h2.below hal) (And.intro (Blk.new w 55 [.string ⟨nm.toArray⟩, .int .u32 ver, .slice F fw.length cf, .slice T nt.length ct]).drew hal)))
 obtain ⟨SN, hSN⟩ : ∃ SN : ByteArray, SN = ⟨nm.toArray⟩ := ⟨_, rfl⟩
 have HSL : Hid (SN.data.toList = nm) := Lib.hid (by rw [hSN])
 have hss : SN.size = nm.length := by rw [hSN]; rfl
 have HSS := Lib.hid hss
 rw [← hSN] at HX ⊢
 clear hSN hal
 have HFB : Hid ((0 < fw.length → ∀ g, (Value.slice F fw.length cf).ownBlock = some g → g < w.heap.size) ∧ (0 < nt.length → ∀ g, (Value.slice T nt.length ct).ownBlock = some g → g < w.heap.size)) := Lib.hid ⟨fun h0 g hg => Sho.lt h1 h0 g hg, fun h0 g hg => Sho.lt h2 h0 g hg⟩
 clear h1 h2
 go_enter Tryz.func47, Tryz.ntmps47
 go_upto_region 1 with fail
 refine code_at (fun w2 => Bys w2.drew (.slice F fw.length cf) fw ∧ Bys w2.drew (.slice T nt.length ct) nt ∧ Blk w2.drew w.heap.size 55 [.string SN, .int .u32 ver, .slice F fw.length cf, .slice T nt.length ct] ∧ Below w.heap.size w w2.drew) HX.out ?_
 clear HX
 rintro w2 ⟨hF, hT, hM, hb⟩
 have HF := Lib.hid (show BysF (fun g => g < w.heap.size) w2.drew (.slice F fw.length cf) fw from ⟨hF, HFB.out.1⟩)
 have HT := Lib.hid (show BysF (fun g => g < w.heap.size) w2.drew (.slice T nt.length ct) nt from ⟨hT, HFB.out.2⟩)
 have HM := Lib.hid hM
 have HB := Lib.hid hb
 have s0 := hM.cell 0 _ rfl
 have s1 := hM.cell 1 _ rfl
 clear hF hT hM hb HFB
 generalize hzb : w.heap.size = zb at *
 have HZB := Lib.hid hzb
 clear hzb
 have HQ1 : Hid (((([77] ++ (be2 (nm.length : Int) ++ nm)) ++ be4 ver)).length ≤ 2000) := Lib.hid (by simp [be4_length, be2]; omega)
 have HQ0 : Hid (([77] ++ (be2 (nm.length : Int) ++ nm)).length ≤ 2000) := Lib.hid (by simp [be2]; omega)
 have HQ2 : Hid (((([77] ++ (be2 (nm.length : Int) ++ nm)) ++ be4 ver) ++ fw).length ≤ 4000) := Lib.hid (by simp [be4_length, be2]; omega)
 obtain ⟨D5, hD5⟩ : ∃ D5, D5 = [77] ++ (be2 (nm.length : Int) ++ nm) := ⟨_, rfl⟩
 rw [← hD5] at HQ1 HQ0 HQ2 HE
 obtain ⟨D7, hD7⟩ : ∃ D7, D7 = D5 ++ be4 ver := ⟨_, rfl⟩
 rw [← hD7] at HQ1 HQ2 HE
 obtain ⟨D9, hD9⟩ : ∃ D9, D9 = D7 ++ fw := ⟨_, rfl⟩
 rw [← hD9] at HQ2 HE
 have HD := Lib.hid (And.intro hD5 (And.intro hD7 hD9))
 have hl5 := HQ0.out
 have hl7 := HQ1.out
 have hl9 := HQ2.out
 clear hD5 hD7 hD9 HQ0 HQ1 HQ2
 have HBY1 : Hid (∀ (wz : World) (u1 u2 : Value), zb + 1 ≤ wz.heap.size → OwnB wz (zb + 1) u1 [77] → Bys wz u2 nm → (∀ k, u2.ownBlock = some k → u1.ownBlock ≠ some k) → Calls Tryz.prog 71 #[u1, u2] wz fun e w' => ∃ v', e = .returned v' ∧ OwnB w' (zb + 1) v' D5 ∧ Below (zb + 1) wz w') := Lib.hid (fun wz u1 u2 hb z1 z2 z3 => by
  rw [HD.out.1]
  exact rbytesw_any (zb + 1) u1 u2 [77] nm (by simp) (by omega) wz hb z1 z2 (fun _ => z3))
 have HNU : Hid (∀ (wz : World) (u1 : Value), zb + 1 ≤ wz.heap.size → OwnB wz (zb + 1) u1 D5 → Calls Tryz.prog 70 #[u1, .int .u32 ver] wz fun e w' => ∃ v', e = .returned v' ∧ OwnB w' (zb + 1) v' D7 ∧ Below (zb + 1) wz w') := Lib.hid (fun wz u1 hb z1 => by
  rw [HD.out.2.1]
  exact (rnum_any (zb + 1) u1 D5 ver (by omega) wz hb z1).mono (fun e w' h => by obtain ⟨v', e1, e2, e3, -⟩ := h; exact ⟨v', e1, e2, e3⟩))
 have HBY2 : Hid (∀ (wz : World) (u1 u2 : Value), zb + 1 ≤ wz.heap.size → OwnB wz (zb + 1) u1 D9 → Bys wz u2 nt → (0 < nt.length → ∀ k, u2.ownBlock = some k → u1.ownBlock ≠ some k) → Calls Tryz.prog 71 #[u1, u2] wz fun e w' => ∃ v', e = .returned v' ∧ OwnB w' (zb + 1) v' E ∧ Below (zb + 1) wz w') := Lib.hid (fun wz u1 u2 hb z1 z2 z3 => by
  rw [HE.out]
  exact rbytesw_any (zb + 1) u1 u2 D9 nt (by omega) (by omega) wz hb z1 z2 z3)
 refine wp_region_held_drew (S := fun w' => w'.cell? ⟨zb, 0, none⟩ = some (.string SN) ∧ w'.cell? ⟨zb, 1, none⟩ = some (.int .u32 ver)) (by kernel_rfl) ⟨s0, s1⟩ (fun hHeld => ?_)
 generalize w2.drew = wr at *
 refine ty 1 5 rfl rfl ?_; simp only [sa, sb, sc]
 refine ty 2 6 rfl rfl ?_; simp only [sa, sb, sc]
 refine ty 5 9 rfl rfl ?_; simp only [sa, sb, sc]
 refine ty 6 10 rfl rfl ?_; simp only [sa, sb, sc]
 refine wpAnyH_ready (rs := [0, 3]) (by kernel_rfl) (by simp) ?_
 refine AllReadyH.cons rfl (fun K hK => ?w1_0) (AllReadyH.cons rfl (fun K hK => ?w1_3) AllReadyH.nil)
 case' w1_3 =>
  obtain ⟨c9, W3, hcv, h2, h3⟩ := conv_bytes wr SN (by unfold maxLen; rw [HSS.out]; omega)
  obtain ⟨cb, hcb0⟩ : ∃ cb : Nat, cb = (wr).heap.size := ⟨_, rfl⟩
  rw [← hcb0] at hcv h2
  have HC : Hid (Bys W3 (.slice (some ⟨cb, 0, none⟩) nm.length c9) nm ∧ cb < W3.heap.size) := Lib.hid ⟨by have := h2.bys; rw [HSL.out, HSS.out] at this; exact this, (OwnG.lt h2 cb rfl).2⟩
  have HC0 : Hid (cb < W3.heap.size) := Lib.hid HC.out.2
  rw [HSS.out] at hcv
  have HCB := Lib.hid hcb0
  clear hcb0
  go_simp
  have k4 : Below (zb + 1) (wr) W3 := h3.mono HM.out.lt
  have st : Chg _ _ (fun k => zb + 1 ≤ k) := chg_belowB k4
  replace HF := Lib.hid (HF.out.chg st (fun g hg h => by have h1 : g < zb := hg; have h2 : zb + 1 ≤ g := h; omega))
  replace HT := Lib.hid (HT.out.chg st (fun g hg h => by have h1 : g < zb := hg; have h2 : zb + 1 ≤ g := h; omega))
  replace HM := Lib.hid (HM.out.chg st (fun h => by have h2 : zb + 1 ≤ zb := h; omega))
  replace HB := Lib.hid (HB.out.trans (Below.mono k4 (Nat.le_succ _)))
  clear st
  have t0 := HM.out.cell 0 _ rfl
  have t1 := HM.out.cell 1 _ rfl
  clear h2 h3 k4 hcv
  refine hK.out _ _ ⟨t0, t1⟩ (fun hHeld3 => ?_)
  clear hK K; try simp only [Act.put, sa, sb, sc]
  refine rd 0 (by kernel_rfl) rfl (fun K hK => ?_)
  go_simp
  obtain ⟨ab, hab0⟩ : ∃ ab : Nat, ab = (W3).heap.size := ⟨_, rfl⟩
  obtain ⟨W3_0, hV⟩ : ∃ V : World, V = (W3).alloc (.cells #[.int .u8 77] 5) := ⟨_, rfl⟩
  have k3 : Below (W3).heap.size (W3) W3_0 := by rw [hV]; exact (Below.refl _ _).alloc (Nat.le_refl _) _
  have k4 : Below (zb + 1) (W3) W3_0 := k3.mono HM.out.lt
  have HA : Hid (OwnB W3_0 (zb + 1) (.slice (some ⟨ab, 0, none⟩) 1 1) [77] ∧ ab < W3_0.heap.size) := Lib.hid ⟨by rw [hV, hab0]; exact own_new 5 (bys [77]) rfl (by decide) HM.out.lt, by rw [hV, hab0]; simp⟩
  rw [← hV, ← hab0]
  replace HC := Lib.hid (And.intro (HC.out.1.below k3) (Nat.lt_of_lt_of_le HC.out.2 k3.size))
  have HNE : Hid (ab ≠ cb) := Lib.hid (by have := HC0.out; omega)
  have st : Chg _ _ (fun k => zb + 1 ≤ k) := chg_belowB k4
  replace HF := Lib.hid (HF.out.chg st (fun g hg h => by have h1 : g < zb := hg; have h2 : zb + 1 ≤ g := h; omega))
  replace HT := Lib.hid (HT.out.chg st (fun g hg h => by have h1 : g < zb := hg; have h2 : zb + 1 ≤ g := h; omega))
  replace HM := Lib.hid (HM.out.chg st (fun h => by have h2 : zb + 1 ≤ zb := h; omega))
  replace HB := Lib.hid (HB.out.trans (Below.mono k4 (Nat.le_succ _)))
  clear st
  have t0 := HM.out.cell 0 _ rfl
  have t1 := HM.out.cell 1 _ rfl
  clear hV k3 k4 hab0
  refine hK.out _ _ ⟨t0, t1⟩ (fun hHeld0 => ?_)
  clear hK K; try simp only [Act.put, sa, sb, sc]
  refine rd 4 (by kernel_rfl) rfl (fun K hK => ?_)
  go_simp
  go_at_call 71
  refine (HBY1.out _ _ _ HM.out.lt HA.out.1 HC.out.1 (fun k e e2 => by have e3 : some cb = some k := e; have e4 : some ab = some k := e2; injection e3 with e3; injection e4 with e4; exact HNE.out (e4.trans e3.symm))).mono ?_
  rintro e W3_0_4 ⟨v5, rfl, h1, h2⟩
  have H5 := Lib.hid h1
  obtain ⟨A5, c5, rfl⟩ := h1.form
  have st : Chg _ _ (fun k => zb + 1 ≤ k) := chg_belowB h2
  replace HF := Lib.hid (HF.out.chg st (fun g hg h => by have h1 : g < zb := hg; have h2 : zb + 1 ≤ g := h; omega))
  replace HT := Lib.hid (HT.out.chg st (fun g hg h => by have h1 : g < zb := hg; have h2 : zb + 1 ≤ g := h; omega))
  replace HM := Lib.hid (HM.out.chg st (fun h => by have h2 : zb + 1 ≤ zb := h; omega))
  replace HB := Lib.hid (HB.out.trans (Below.mono h2 (Nat.le_succ _)))
  clear st
  replace t0 := HM.out.cell 0 _ rfl
  replace t1 := HM.out.cell 1 _ rfl
  clear h1 h2
  try dsimp only
  refine hK.out _ _ ⟨t0, t1⟩ (fun hHeld4 => ?_)
  clear hK K; try simp only [Act.put, sa, sb, sc]
  refine rd 7 (by kernel_rfl) rfl (fun K hK => ?_)
  go_simp
  go_at_call 70
  refine (HNU.out _ _ HM.out.lt H5.out).mono ?_
  rintro e W3_0_4_7 ⟨v7, rfl, h1, h2⟩
  have H7 := Lib.hid h1
  obtain ⟨A7, c7, rfl⟩ := h1.form
  have st : Chg _ _ (fun k => zb + 1 ≤ k) := chg_belowB h2
  replace HF := Lib.hid (HF.out.chg st (fun g hg h => by have h1 : g < zb := hg; have h2 : zb + 1 ≤ g := h; omega))
  replace HT := Lib.hid (HT.out.chg st (fun g hg h => by have h1 : g < zb := hg; have h2 : zb + 1 ≤ g := h; omega))
  replace HM := Lib.hid (HM.out.chg st (fun h => by have h2 : zb + 1 ≤ zb := h; omega))
  replace HB := Lib.hid (HB.out.trans (Below.mono h2 (Nat.le_succ _)))
  clear st
  replace t0 := HM.out.cell 0 _ rfl
  replace t1 := HM.out.cell 1 _ rfl
  clear h1 h2
  try dsimp only
  refine hK.out _ _ ⟨t0, t1⟩ (fun hHeld7 => ?_)
  clear hK K; try simp only [Act.put, sa, sb, sc]
  refine ty 8 3 rfl rfl ?_; simp only [sa, sb, sc]
  refine wpAnyH_done (by kernel_rfl) ?_ _
  clear hHeld s0 s1 t0 t1
  go_upto_region 2 with fail
  replace H7 := Lib.hid (OwnB.keep H7.out (Below.refl (W3_0_4_7).heap.size (W3_0_4_7)).drew)
  replace HF := Lib.hid (HF.out.below (Below.refl _ _).drew)
  replace HT := Lib.hid (HT.out.below (Below.refl _ _).drew)
  replace HM := Lib.hid (HM.out.below (Below.refl _ _).drew)
  replace HB := Lib.hid HB.out.drew
  have q2 := HM.out.cell 2 _ rfl
  have q3 := HM.out.cell 3 _ rfl
  refine wp_region_held_drew (S := fun w' => w'.cell? ⟨zb, 2, none⟩ = some (.slice F fw.length cf) ∧ w'.cell? ⟨zb, 3, none⟩ = some (.slice T nt.length ct)) (by kernel_rfl) ⟨q2, q3⟩ (fun hHeld => ?_)
  generalize (W3_0_4_7).drew = w8 at *
  clear q2 q3
  refine ty 0 12 rfl rfl ?_; simp only [sa, sb, sc]
  refine ty 1 13 rfl rfl ?_; simp only [sa, sb, sc]
  refine ty 2 14 rfl rfl ?_; simp only [sa, sb, sc]
  refine ty 4 16 rfl rfl ?_; simp only [sa, sb, sc]
  refine ty 5 17 rfl rfl ?_; simp only [sa, sb, sc]
  refine rd 3 (by kernel_rfl) rfl (fun K hK => ?_)
  skip
  refine step_append_any rfl (.tmp 12) (.tmp 14) 24 rfl (zb + 1) 5 i0 (.int .u8 0) 1 1 Tryz.underlying24 hi0 hz0 hz1 hz2 rfl (by decide) _ D7.length (bys D7) rfl H7.out _ fw.length (bys fw) rfl HF.out.1.news (by unfold maxLen; omega) (by omega) HM.out.lt ?_
  intro v9 W9 hown9 hgrow9
  have h1 : OwnB W9 (zb + 1) v9 D9 := by rw [HD.out.2.2]; exact OwnB.append rfl hown9
  have h2 : Below (zb + 1) w8 W9 := (Below.refl (zb + 1) w8).grown hgrow9 HM.out.lt (fun k e => OwnB.ge H7.out e)
  have H9 := Lib.hid h1
  obtain ⟨A9, c9', rfl⟩ := h1.form
  have st : Chg _ _ (fun k => zb + 1 ≤ k) := chg_belowB h2
  replace HF := Lib.hid (HF.out.chg st (fun g hg h => by have h1 : g < zb := hg; have h2 : zb + 1 ≤ g := h; omega))
  replace HT := Lib.hid (HT.out.chg st (fun g hg h => by have h1 : g < zb := hg; have h2 : zb + 1 ≤ g := h; omega))
  replace HM := Lib.hid (HM.out.chg st (fun h => by have h2 : zb + 1 ≤ zb := h; omega))
  replace HB := Lib.hid (HB.out.trans (Below.mono h2 (Nat.le_succ _)))
  clear st
  have r2 := HM.out.cell 2 _ rfl
  have r3 := HM.out.cell 3 _ rfl
  clear h1 h2 hown9 hgrow9
  simp only [Act.put, List.getElem_toArray, List.getElem_cons_succ, List.getElem_cons_zero, List.setIfInBounds_toArray, List.set_cons_zero, List.set_cons_succ]
  refine hK.out _ _ ⟨r2, r3⟩ (fun hHeld3 => ?_)
  clear hK K; try simp only [Act.put, sa, sb, sc]
  refine rd 6 (by kernel_rfl) rfl (fun K hK => ?_)
  go_simp
  go_at_call 71
  refine (HBY2.out _ _ _ HM.out.lt H9.out HT.out.1 (fun h0 k e e2 => by have h1 : k < zb := HT.out.2 h0 k e; have h2 := OwnB.ge H9.out e2; omega)).mono ?_
  rintro e W10 ⟨v10, rfl, h1, h2⟩
  have H10 := Lib.hid h1
  obtain ⟨A10, c10, rfl⟩ := h1.form
  have st : Chg _ _ (fun k => zb + 1 ≤ k) := chg_belowB h2
  replace HF := Lib.hid (HF.out.chg st (fun g hg h => by have h1 : g < zb := hg; have h2 : zb + 1 ≤ g := h; omega))
  replace HT := Lib.hid (HT.out.chg st (fun g hg h => by have h1 : g < zb := hg; have h2 : zb + 1 ≤ g := h; omega))
  replace HM := Lib.hid (HM.out.chg st (fun h => by have h2 : zb + 1 ≤ zb := h; omega))
  replace HB := Lib.hid (HB.out.trans (Below.mono h2 (Nat.le_succ _)))
  clear st
  replace r2 := HM.out.cell 2 _ rfl
  replace r3 := HM.out.cell 3 _ rfl
  clear h1 h2
  try dsimp only
  refine hK.out _ _ ⟨r2, r3⟩ (fun hHeld6 => ?_)
  clear hK K; try simp only [Act.put, sa, sb, sc]
  refine ty 7 2 rfl rfl ?_; simp only [sa, sb, sc]
  refine wpAnyH_done (by kernel_rfl) ?_ _
  clear hHeld r2 r3
  go_wp2
  go_ret
  exact ⟨_, rfl, by rw [HZB.out]; exact own_mono' H10.out (Nat.le_succ _), by rw [HZB.out]; exact HB.out⟩
 case' w1_0 =>
  go_simp
  obtain ⟨ab, hab0⟩ : ∃ ab : Nat, ab = (wr).heap.size := ⟨_, rfl⟩
  obtain ⟨W0, hV⟩ : ∃ V : World, V = (wr).alloc (.cells #[.int .u8 77] 5) := ⟨_, rfl⟩
  have k3 : Below (wr).heap.size (wr) W0 := by rw [hV]; exact (Below.refl _ _).alloc (Nat.le_refl _) _
  have k4 : Below (zb + 1) (wr) W0 := k3.mono HM.out.lt
  have HA : Hid (OwnB W0 (zb + 1) (.slice (some ⟨ab, 0, none⟩) 1 1) [77] ∧ ab < W0.heap.size) := Lib.hid ⟨by rw [hV, hab0]; exact own_new 5 (bys [77]) rfl (by decide) HM.out.lt, by rw [hV, hab0]; simp⟩
  rw [← hV, ← hab0]
  have st : Chg _ _ (fun k => zb + 1 ≤ k) := chg_belowB k4
  replace HF := Lib.hid (HF.out.chg st (fun g hg h => by have h1 : g < zb := hg; have h2 : zb + 1 ≤ g := h; omega))
  replace HT := Lib.hid (HT.out.chg st (fun g hg h => by have h1 : g < zb := hg; have h2 : zb + 1 ≤ g := h; omega))
  replace HM := Lib.hid (HM.out.chg st (fun h => by have h2 : zb + 1 ≤ zb := h; omega))
  replace HB := Lib.hid (HB.out.trans (Below.mono k4 (Nat.le_succ _)))
  clear st
  have t0 := HM.out.cell 0 _ rfl
  have t1 := HM.out.cell 1 _ rfl
  clear hV k3 k4 hab0
  refine hK.out _ _ ⟨t0, t1⟩ (fun hHeld0 => ?_)
  clear hK K; try simp only [Act.put, sa, sb, sc]
  refine rd 3 (by kernel_rfl) rfl (fun K hK => ?_)
  obtain ⟨c9, W0_3, hcv, h2, h3⟩ := conv_bytes W0 SN (by unfold maxLen; rw [HSS.out]; omega)
  obtain ⟨cb, hcb0⟩ : ∃ cb : Nat, cb = (W0).heap.size := ⟨_, rfl⟩
  rw [← hcb0] at hcv h2
  have HC : Hid (Bys W0_3 (.slice (some ⟨cb, 0, none⟩) nm.length c9) nm ∧ cb < W0_3.heap.size) := Lib.hid ⟨by have := h2.bys; rw [HSL.out, HSS.out] at this; exact this, (OwnG.lt h2 cb rfl).2⟩
  have HC0 : Hid (cb < W0_3.heap.size) := Lib.hid HC.out.2
  rw [HSS.out] at hcv
  have HCB := Lib.hid hcb0
  clear hcb0
  go_simp
  have k4 : Below (zb + 1) (W0) W0_3 := h3.mono HM.out.lt
  have HNE : Hid (ab ≠ cb) := Lib.hid (by have h1 := HA.out.2; have h2 := HCB.out; omega)
  replace HA := Lib.hid (And.intro (OwnB.keep HA.out.1 h3) (Nat.lt_of_lt_of_le HA.out.2 h3.size))
  have st : Chg _ _ (fun k => zb + 1 ≤ k) := chg_belowB k4
  replace HF := Lib.hid (HF.out.chg st (fun g hg h => by have h1 : g < zb := hg; have h2 : zb + 1 ≤ g := h; omega))
  replace HT := Lib.hid (HT.out.chg st (fun g hg h => by have h1 : g < zb := hg; have h2 : zb + 1 ≤ g := h; omega))
  replace HM := Lib.hid (HM.out.chg st (fun h => by have h2 : zb + 1 ≤ zb := h; omega))
  replace HB := Lib.hid (HB.out.trans (Below.mono k4 (Nat.le_succ _)))
  clear st
  have t0 := HM.out.cell 0 _ rfl
  have t1 := HM.out.cell 1 _ rfl
  clear h2 h3 k4 hcv
  refine hK.out _ _ ⟨t0, t1⟩ (fun hHeld3 => ?_)
  clear hK K; try simp only [Act.put, sa, sb, sc]
  refine rd 4 (by kernel_rfl) rfl (fun K hK => ?_)
  go_simp
  go_at_call 71
  refine (HBY1.out _ _ _ HM.out.lt HA.out.1 HC.out.1 (fun k e e2 => by have e3 : some cb = some k := e; have e4 : some ab = some k := e2; injection e3 with e3; injection e4 with e4; exact HNE.out (e4.trans e3.symm))).mono ?_
  rintro e W0_3_4 ⟨v5, rfl, h1, h2⟩
  have H5 := Lib.hid h1
  obtain ⟨A5, c5, rfl⟩ := h1.form
  have st : Chg _ _ (fun k => zb + 1 ≤ k) := chg_belowB h2
  replace HF := Lib.hid (HF.out.chg st (fun g hg h => by have h1 : g < zb := hg; have h2 : zb + 1 ≤ g := h; omega))
  replace HT := Lib.hid (HT.out.chg st (fun g hg h => by have h1 : g < zb := hg; have h2 : zb + 1 ≤ g := h; omega))
  replace HM := Lib.hid (HM.out.chg st (fun h => by have h2 : zb + 1 ≤ zb := h; omega))
  replace HB := Lib.hid (HB.out.trans (Below.mono h2 (Nat.le_succ _)))
  clear st
  replace t0 := HM.out.cell 0 _ rfl
  replace t1 := HM.out.cell 1 _ rfl
  clear h1 h2
  try dsimp only
  refine hK.out _ _ ⟨t0, t1⟩ (fun hHeld4 => ?_)
  clear hK K; try simp only [Act.put, sa, sb, sc]
  refine rd 7 (by kernel_rfl) rfl (fun K hK => ?_)
  go_simp
  go_at_call 70
  refine (HNU.out _ _ HM.out.lt H5.out).mono ?_
  rintro e W0_3_4_7 ⟨v7, rfl, h1, h2⟩
  have H7 := Lib.hid h1
  obtain ⟨A7, c7, rfl⟩ := h1.form
  have st : Chg _ _ (fun k => zb + 1 ≤ k) := chg_belowB h2
  replace HF := Lib.hid (HF.out.chg st (fun g hg h => by have h1 : g < zb := hg; have h2 : zb + 1 ≤ g := h; omega))
  replace HT := Lib.hid (HT.out.chg st (fun g hg h => by have h1 : g < zb := hg; have h2 : zb + 1 ≤ g := h; omega))
  replace HM := Lib.hid (HM.out.chg st (fun h => by have h2 : zb + 1 ≤ zb := h; omega))
  replace HB := Lib.hid (HB.out.trans (Below.mono h2 (Nat.le_succ _)))
  clear st
  replace t0 := HM.out.cell 0 _ rfl
  replace t1 := HM.out.cell 1 _ rfl
  clear h1 h2
  try dsimp only
  refine hK.out _ _ ⟨t0, t1⟩ (fun hHeld7 => ?_)
  clear hK K; try simp only [Act.put, sa, sb, sc]
  refine ty 8 3 rfl rfl ?_; simp only [sa, sb, sc]
  refine wpAnyH_done (by kernel_rfl) ?_ _
  clear hHeld s0 s1 t0 t1
  go_upto_region 2 with fail
  replace H7 := Lib.hid (OwnB.keep H7.out (Below.refl (W0_3_4_7).heap.size (W0_3_4_7)).drew)
  replace HF := Lib.hid (HF.out.below (Below.refl _ _).drew)
  replace HT := Lib.hid (HT.out.below (Below.refl _ _).drew)
  replace HM := Lib.hid (HM.out.below (Below.refl _ _).drew)
  replace HB := Lib.hid HB.out.drew
  have q2 := HM.out.cell 2 _ rfl
  have q3 := HM.out.cell 3 _ rfl
  refine wp_region_held_drew (S := fun w' => w'.cell? ⟨zb, 2, none⟩ = some (.slice F fw.length cf) ∧ w'.cell? ⟨zb, 3, none⟩ = some (.slice T nt.length ct)) (by kernel_rfl) ⟨q2, q3⟩ (fun hHeld => ?_)
  generalize (W0_3_4_7).drew = w8 at *
  clear q2 q3
  refine ty 0 12 rfl rfl ?_; simp only [sa, sb, sc]
  refine ty 1 13 rfl rfl ?_; simp only [sa, sb, sc]
  refine ty 2 14 rfl rfl ?_; simp only [sa, sb, sc]
  refine ty 4 16 rfl rfl ?_; simp only [sa, sb, sc]
  refine ty 5 17 rfl rfl ?_; simp only [sa, sb, sc]
  refine rd 3 (by kernel_rfl) rfl (fun K hK => ?_)
  skip
  refine step_append_any rfl (.tmp 12) (.tmp 14) 24 rfl (zb + 1) 5 i0 (.int .u8 0) 1 1 Tryz.underlying24 hi0 hz0 hz1 hz2 rfl (by decide) _ D7.length (bys D7) rfl H7.out _ fw.length (bys fw) rfl HF.out.1.news (by unfold maxLen; omega) (by omega) HM.out.lt ?_
  intro v9 W9 hown9 hgrow9
  have h1 : OwnB W9 (zb + 1) v9 D9 := by rw [HD.out.2.2]; exact OwnB.append rfl hown9
  have h2 : Below (zb + 1) w8 W9 := (Below.refl (zb + 1) w8).grown hgrow9 HM.out.lt (fun k e => OwnB.ge H7.out e)
  have H9 := Lib.hid h1
  obtain ⟨A9, c9', rfl⟩ := h1.form
  have st : Chg _ _ (fun k => zb + 1 ≤ k) := chg_belowB h2
  replace HF := Lib.hid (HF.out.chg st (fun g hg h => by have h1 : g < zb := hg; have h2 : zb + 1 ≤ g := h; omega))
  replace HT := Lib.hid (HT.out.chg st (fun g hg h => by have h1 : g < zb := hg; have h2 : zb + 1 ≤ g := h; omega))
  replace HM := Lib.hid (HM.out.chg st (fun h => by have h2 : zb + 1 ≤ zb := h; omega))
  replace HB := Lib.hid (HB.out.trans (Below.mono h2 (Nat.le_succ _)))
  clear st
  have r2 := HM.out.cell 2 _ rfl
  have r3 := HM.out.cell 3 _ rfl
  clear h1 h2 hown9 hgrow9
  simp only [Act.put, List.getElem_toArray, List.getElem_cons_succ, List.getElem_cons_zero, List.setIfInBounds_toArray, List.set_cons_zero, List.set_cons_succ]
  refine hK.out _ _ ⟨r2, r3⟩ (fun hHeld3 => ?_)
  clear hK K; try simp only [Act.put, sa, sb, sc]
  refine rd 6 (by kernel_rfl) rfl (fun K hK => ?_)
  go_simp
  go_at_call 71
  refine (HBY2.out _ _ _ HM.out.lt H9.out HT.out.1 (fun h0 k e e2 => by have h1 : k < zb := HT.out.2 h0 k e; have h2 := OwnB.ge H9.out e2; omega)).mono ?_
  rintro e W10 ⟨v10, rfl, h1, h2⟩
  have H10 := Lib.hid h1
  obtain ⟨A10, c10, rfl⟩ := h1.form
  have st : Chg _ _ (fun k => zb + 1 ≤ k) := chg_belowB h2
  replace HF := Lib.hid (HF.out.chg st (fun g hg h => by have h1 : g < zb := hg; have h2 : zb + 1 ≤ g := h; omega))
  replace HT := Lib.hid (HT.out.chg st (fun g hg h => by have h1 : g < zb := hg; have h2 : zb + 1 ≤ g := h; omega))
  replace HM := Lib.hid (HM.out.chg st (fun h => by have h2 : zb + 1 ≤ zb := h; omega))
  replace HB := Lib.hid (HB.out.trans (Below.mono h2 (Nat.le_succ _)))
  clear st
  replace r2 := HM.out.cell 2 _ rfl
  replace r3 := HM.out.cell 3 _ rfl
  clear h1 h2
  try dsimp only
  refine hK.out _ _ ⟨r2, r3⟩ (fun hHeld6 => ?_)
  clear hK K; try simp only [Act.put, sa, sb, sc]
  refine ty 7 2 rfl rfl ?_; simp only [sa, sb, sc]
  refine wpAnyH_done (by kernel_rfl) ?_ _
  clear hHeld r2 r3
  go_wp2
  go_ret
  exact ⟨_, rfl, by rw [HZB.out]; exact own_mono' H10.out (Nat.le_succ _), by rw [HZB.out]; exact HB.out⟩
set_option maxRecDepth 100000 in
theorem item_any (n v f : Int) (h0 : 0 ≤ f) (h3 : f ≤ 3) (w : World) :
  Calls Tryz.prog 13 #[.int .i64 n, .int .i64 v, .int .i64 f] w fun e w' => ∃ u, e = .returned u ∧ OwnB w' w.heap.size u (itemI n v f) ∧ Below w.heap.size w w' := by
 have HM := Lib.hid (manifest_any n v f h0 h3 w)
 have HE := Lib.hid (fun (wz : World) (u : Value) (z : MaV wz u (manI n v f)) => encode9_any u (manI n v f) (by have := nameL_length n; show (nameL n).length ≤ _; omega) (by show (hashS f).length ≤ _; rw [hashS_length]; decide) (by show ([ub f] : List UInt8).length ≤ _; simp) wz z)
 change Hid (∀ (wz : World) (u : Value), MaV wz u (manI n v f) → Calls Tryz.prog 47 #[u] wz fun e w' => ∃ u, e = .returned u ∧ OwnB w' wz.heap.size u (itemI n v f) ∧ Below wz.heap.size wz w') at HE
 generalize itemI n v f = I at *
 generalize manI n v f = M at *
 go_enter Tryz.func13, Tryz.ntmps13
 go_wp2_with fail
 refine HM.out.mono ?_
 rintro e w1 ⟨u1, rfl, k1, k2⟩
 have H1 := Lib.hid (And.intro k1 k2)
 obtain ⟨f1, n1, rfl, k3, k4⟩ := k1
 obtain ⟨A3, c3, rfl⟩ := k3.form
 obtain ⟨A4, c4, rfl⟩ := k4.form
 clear k2 k3 k4
 go_wp2_with fail
 refine (HE.out _ _ H1.out.1).mono ?_
 rintro e w2 ⟨u2, rfl, k1, k2⟩
 obtain ⟨A2, c2, rfl⟩ := k1.form
 have H2 := Lib.hid (And.intro (own_mono' k1 H1.out.2.size) (H1.out.2.trans (k2.mono H1.out.2.size)))
 clear k1 k2
 go_wp2
 go_ret
 exact ⟨_, rfl, H2.out.1, H2.out.2⟩
end Go.Proofs.YtgeplpdcnanmnaaGreat
