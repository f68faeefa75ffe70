/- The law's made. Conditions: as each theorem states them. -/
import Derived.Test.YtgeplpdcnanmnaaGreatZbx
import Derived.Test.YtgeplpdcnanmnaaGreatZbd
import Derived.Test.YtgeplpdcnanmnaaGreatZbm
import Derived.Test.YtgeplpdcnanmnaaGreatZbo
import Derived.Test.YtgeplpdcnanmnaaGreatZaa
import Derived.Test.YtgeplpdcnanmnaaGreatZbq
import Derived.Test.YtgeplpdcnanmnaaGreatZba
import Derived.Deep.DeepCutAuto
namespace Go.Proofs.YtgeplpdcnanmnaaGreat
open Go.RowKit
set_option linter.unusedVariables false
set_option linter.unusedSimpArgs false

theorem itemsL_62 (n : Nat) : ∀ x ∈ itemsL n, x.length ≤ 62 := by
 intro x hx
 unfold itemsL at hx
 rw [List.mem_map] at hx
 obtain ⟨i, _, rfl⟩ := hx
 exact (itemI_length _ _ _).1
def ItsI (B : Nat) (w1 wr : World) (v : Value) (k : Nat) : Prop := Below B w1 wr ∧ OwnR wr B v (itemsL k)
def MdS (D : Nat → Prop) (w6 wc : World) (bb : Nat) (b : BunD) : Prop := Below w6.heap.size w6 wc ∧ w6.heap.size ≤ bb ∧ ∃ m p r q s, Blk wc bb 42 [m, .int .i64 b.prf.index, .int .i64 b.prf.size, p, .int .i64 b.sg.ck.num, r, .int .i64 b.sg.sig.index, q, s, .slice none 0 0] ∧ BunF (fun g => g ≠ bb ∧ D g) wc m p r q s (.slice none 0 0) b
def Ml2 (D : Nat → Prop) (w11 wr : World) (bb : Nat) (b : BunD) : Prop := Chg w11 wr (fun k => k = bb) ∧ ∃ m p r q s c, Blk wr bb 42 [m, .int .i64 b.prf.index, .int .i64 b.prf.size, p, .int .i64 b.sg.ck.num, r, .int .i64 b.sg.sig.index, q, s, c] ∧ BunO (fun g => g ≠ bb ∧ D g) wr w11.heap.size m p r q s c b
set_option maxRecDepth 100000 in
set_option maxHeartbeats 8000000 in
theorem made_any (S : Nat → Prop) (kk : Nat) (hk1 : kk ≤ 10) (x : DrD) (ov : Value) (w : World) (ho : OwnersS S w ov (kk + 1)) (hS : ∀ g, S g → g < w.heap.size) :
  Calls Tryz.prog 12 #[.agg #[.int .i64 x.leaves, .int .i64 x.leaf, .int .i64 x.cosigs, .int .i64 x.wrong, .int .i64 x.at', .int .u8 x.turn.toNat], ov] w fun e w' => ∃ v, e = .returned v ∧ BunV w' v (madeD x kk) ∧ Below w.heap.size w w' := by
 obtain ⟨i0, hi0, hz0, hz1, hz2⟩ := info_parts info_bytes
 obtain ⟨j0, hj0, hy0, hy1, hy2⟩ := info_parts info_cosigB
 obtain ⟨Ao, co, rfl⟩ := ho.form
 have HOW := Lib.hid (And.intro ho hS)
 clear ho hS
 have HW := Lib.hid (fun (wz : World) => within_any x.leaves 1 20 (by omega) (by omega) (by omega) wz)
 have hN0 : 1 ≤ withinZ x.leaves 1 20 ∧ withinZ x.leaves 1 20 ≤ 20 := withinZ_ge _ _ _ (by omega)
 have HMD : Hid (∀ n m ki : Nat, withinZ x.leaves 1 20 = (n : Int) → withinZ x.leaf 0 ((n : Int) - 1) = (ki : Int) → withinZ x.cosigs 0 (kk : Int) = (m : Int) → madeD x kk = wrongD (rightT n ki m) x) := Lib.hid (fun n m ki h1 h2 h3 => by
  have e1 : drN x = n := by unfold drN; rw [h1, Int.toNat_natCast]
  have e2 : drK x = ki := by unfold drK; rw [e1, h2, Int.toNat_natCast]
  have e3 : drM x kk = m := by unfold drM; rw [h3, Int.toNat_natCast]
  unfold madeD
  rw [e1, e2, e3])
 generalize madeD x kk = MDD at *
 generalize hNI : withinZ x.leaves 1 20 = NI at *
 have HNI := Lib.hid hNI
 clear hNI
 obtain ⟨N, rfl⟩ := Int.eq_ofNat_of_zero_le (show 0 ≤ NI by omega)
 have hN1 : 1 ≤ N := by omega
 have hN20 : N ≤ 20 := by omega
 clear hN0
 go_enter Tryz.func12, Tryz.ntmps12
 go_wp2_with fail
 refine (HW.out _).mono ?_
 rintro e w1 ⟨rfl, rfl⟩
 go_wp2
 refine code_at (fun w2 => Below w.heap.size w w2 ∧ Blk w2 w.heap.size 23 [.int .i64 x.leaves, .int .i64 x.leaf, .int .i64 x.cosigs, .int .i64 x.wrong, .int .i64 x.at', .int .u8 x.turn.toNat] ∧ Blk w2 (w.heap.size + 1) 42 [.slice none 0 0, .int .i64 0, .int .i64 0, .slice none 0 0, .int .i64 0, .slice none 0 0, .int .i64 0, .slice none 0 0, .slice none 0 0, .slice none 0 0]) (blk2 w [.int .i64 x.leaves, .int .i64 x.leaf, .int .i64 x.cosigs, .int .i64 x.wrong, .int .i64 x.at', .int .u8 x.turn.toNat] [.slice none 0 0, .int .i64 0, .int .i64 0, .slice none 0 0, .int .i64 0, .slice none 0 0, .int .i64 0, .slice none 0 0, .slice none 0 0, .slice none 0 0] 23 42 _ rfl) ?_
 rintro w2 ⟨hb2, kx, kz⟩
 have hxz := kz.lt
 have HB2 := Lib.hid hb2
 have HDX := Lib.hid kx
 have HDZ := Lib.hid kz
 clear hb2 kx kz
 obtain ⟨B, hB⟩ : ∃ B, w2.heap.size = B := ⟨_, rfl⟩
 have HBE := Lib.hid hB
 have hwB : w.heap.size + 1 < B := by omega
 clear hB hxz
 go_loopw [6, 7] (fun v6 v7 wr => ∃ k : Nat, v7 = .int .i64 k ∧ k ≤ N ∧ Hid (ItsI B w2 wr v6 k)) (fun _ v _ => N - (intOf v).toNat)
 case atStart => exact ⟨0, rfl, Nat.zero_le _, Lib.hid ⟨Below.refl _ _, OwnR.nil _ _⟩⟩
 case round =>
  obtain ⟨k, rfl, hk, HJ⟩ := hrel
  by_cases hlt : k < N
  ·have hltI : ((k : Nat) : Int) < ((N : Nat) : Int) := by omega
   have hq4 : ((k : Nat) : Int).tdiv 4 = ((k : Nat) : Int) / 4 := Int.tdiv_eq_ediv_of_nonneg (by omega)
   have hq36 : ((k : Nat) : Int).tdiv 36 = ((k : Nat) : Int) / 36 := Int.tdiv_eq_ediv_of_nonneg (by omega)
   have HIT := Lib.hid (item_any ((k : Nat) : Int) (((k : Nat) : Int) / 4) (((k : Nat) : Int) / 36) (by omega) (by omega) wr)
   have HSU := Lib.hid (itemsL_succ k)
   have HIL := Lib.hid (itemsL_length k)
   have hal : (itemsL k).length ≤ 1000000000 := by rw [HIL.out]; omega
   have hsz : B ≤ wr.heap.size := by have := HJ.out.1.size; have := HBE.out; omega
   obtain ⟨qa, qb⟩ := HJ.out
   replace HJ := Lib.hid (And.intro qa qb)
   obtain ⟨A8, c8, rfl⟩ := qb.rws.form
   clear qa qb HOW HMD HNI
   generalize itemI ((k : Nat) : Int) (((k : Nat) : Int) / 4) (((k : Nat) : Int) / 36) = IT at *
   generalize itemsL k = L at *
   go_wp2_with fail
   refine HIT.out.mono ?_
   rintro e w3 ⟨v3, rfl, h1, h2⟩
   obtain ⟨A2, c2, rfl⟩ := h1.form
   obtain ⟨us, hu1, hu2⟩ := HJ.out.2.keep h2
   have H2 := Lib.hid (And.intro h1 (And.intro h2 (And.intro hu1 hu2)))
   have hsz2 := h2.size
   clear h1 h2 hu1 hu2
   go_wp2_with (at_builtin; (refine wpList_append_lies _ rfl (.tmp 21) (.tmp 28) 28 rfl B 24 i0 (.slice none 0 0) 1 24 Tryz.underlying28 hi0 hz0 hz1 hz2 rfl (by decide) _ L.length us rfl (World.ownsRow.alloc H2.out.2.2.1 _) ⟨w3.heap.size, 0, none⟩ 1 1 [.slice A2 IT.length c2] rfl rfl (World.news_of_block (blk_new _ _)) (by simp [Value.oneCell']) (by decide) (by unfold maxLen; omega) (by omega) (by simp; omega) (w3.heap.size + 1) (by simp) ?_); intro g3 c3 W3 hown3 hgrow3 hlie3 hlt3)
   have HR3 := Lib.hid (retr_push HJ.out.2 hsz H2.out.2.1 H2.out.1 H2.out.2.2.2 (by have := H2.out.2.2.1.1; omega) hown3 hgrow3 hlie3)
   go_roundw
   case rel => exact ⟨k + 1, by go_num, by omega, Lib.hid ⟨HJ.out.1.trans HR3.out.2, by rw [HSU.out]; exact HR3.out.1⟩⟩
   case measure => simp [intOf]; omega
  ·obtain rfl : k = N := by omega
   obtain ⟨qa, qb⟩ := HJ.out
   replace HJ := Lib.hid (And.intro qa qb)
   obtain ⟨A8, c8, rfl⟩ := qb.rws.form
   have HI62 := Lib.hid (itemsL_62 k)
   have hil := itemsL_length k
   have HLV := Lib.hid (rleaves_any _ (itemsL k) (by omega) (fun x hx => by have := HI62.out x hx; omega) wr qb.rws)
   change Hid (Calls Tryz.prog _ _ wr fun e w' => ∃ u, e = .returned u ∧ OwnR w' wr.heap.size u (leavesL (itemsL k)) ∧ Below wr.heap.size wr w') at HLV
   have HLL := Lib.hid (And.intro (leavesL_length (itemsL k)) (leavesL_32 (itemsL k)))
   have HIL := Lib.hid hil
   have HK := Lib.hid (withinZ_ge x.leaf 0 (((k : Nat) : Int) - 1) (by omega))
   have HW2 := Lib.hid (fun (wz : World) => within_any x.leaf 0 (((k : Nat) : Int) - 1) (by omega) (by omega) (by omega) wz)
   have HRT : Hid (∀ ki m : Nat, rightT k ki m = ⟨(itemsL k).getD ki [], ⟨(ki : Int), (k : Int), inclL (leavesL (itemsL k)) ki⟩, ⟨⟨(k : Int), rootL (leavesL (itemsL k))⟩, signS (seedS 0) ((k : Int) % 16) (bodyS tagCk ⟨(k : Int), rootL (leavesL (itemsL k))⟩)⟩, cosL ⟨(k : Int), rootL (leavesL (itemsL k))⟩ ((k : Int) % 16) m⟩) := Lib.hid (fun _ _ => rfl)
   have hit1 : ∀ i, i < k → 1 ≤ ((itemsL k).getD i []).length ∧ ((itemsL k).getD i []).length ≤ 62 := fun i hi => by rw [itemsL_get k i hi]; exact ⟨(itemI_length _ _ _).2, (itemI_length _ _ _).1⟩
   have HIT1 := Lib.hid hit1
   have HPL := Lib.hid (fun (i : Nat) (hi : i < (leavesL (itemsL k)).length) => incl_length (leavesL (itemsL k)) i hi)
   have HR32 := Lib.hid (rootL_32 (leavesL (itemsL k)) (leavesL_32 (itemsL k)))
   clear hil qa qb hit1
   generalize itemsL k = IL at *
   generalize leavesL IL = LL at *
   generalize hKI : withinZ x.leaf 0 (((k : Nat) : Int) - 1) = KI at *
   have HKI := Lib.hid hKI
   clear hKI
   obtain ⟨ki, hK⟩ := Int.eq_ofNat_of_zero_le HK.out.1
   subst hK
   have hKk : ki < k := by have := HK.out.2; omega
   have hnlt : ¬ ((k : Nat) : Int) < ((k : Nat) : Int) := by omega
   have hJb : Below w2.heap.size w2 wr := by rw [HBE.out]; exact HJ.out.1
   have HX := Lib.hid (HDX.out.below hJb)
   have HZ := Lib.hid (HDZ.out.below hJb)
   have HBW := Lib.hid (HB2.out.trans (hJb.mono (by have := HBE.out; omega)))
   have z1 := HX.out.cell 1 _ rfl
   clear hJb
   go_wp2_with fail
   refine (HW2.out _).mono ?_
   rintro e w' ⟨rfl, rfl⟩
   go_wp2_with fail
   refine HLV.out.mono ?_
   rintro e w4 ⟨u4, rfl, h1, h2⟩
   obtain ⟨A4, c4, rfl⟩ := h1.rws.form
   have H4 := Lib.hid (And.intro h1 h2)
   clear h1 h2 z1
   go_wp2_with fail
   refine (rroot6_f (fun g => w.heap.size + 1 < g) LL.length LL _ (Nat.le_refl _) (by rw [HLL.out.1, HIL.out]; omega) (fun x hx => by have := HLL.out.2 x hx; omega) _ (H4.out.1.foot.mono (fun g hg => by have h1 := hg.1; have h2 := HJ.out.1.size; have h3 := HBE.out; omega))).mono ?_
   rintro e w5 ⟨u5, rfl, h1, h2⟩
   obtain ⟨A5, c5, rfl⟩ := h1.1.form
   have H5 := Lib.hid (And.intro h1 h2)
   clear h1 h2
   go_upto_region 10 with fail
   generalize hRTe : rootL LL = RT at *
   have HRTE := Lib.hid hRTe
   clear hRTe
   have HRT2 := Lib.hid (fun m : Nat => HRT.out ki m)
   refine code_at (fun w6 => Blk w6 w5.heap.size 35 [.int .i64 (k : Int), .slice A5 RT.length c5] ∧ Below w5.heap.size w5 w6) ⟨Blk.new w5 35 [.int .i64 (k : Int), .slice A5 RT.length c5], (Below.refl _ _).alloc (Nat.le_refl _) _⟩ ?_
   rintro w6 ⟨kC, hb6⟩
   have hcb := kC.lt
   have hsr : w.heap.size + 1 < wr.heap.size := by have := HJ.out.1.size; have := HBE.out; omega
   have hs4 := H4.out.2.size
   have hs5 := H5.out.2.size
   have hs6 := hb6.size
   have hbr6 : Below wr.heap.size wr w6 := (H4.out.2.trans (H5.out.2.mono hs4)).trans (hb6.mono (by omega))
   have hb06 : Below w.heap.size w w6 := HBW.out.trans (hbr6.mono (by omega))
   have hIT : ki < IL.length := by rw [HIL.out]; exact hKk
   have hLK : ki < LL.length := by rw [HLL.out.1, HIL.out]; exact hKk
   obtain ⟨gi, oi, ui, hA8, hgi, -, -, hci, hbi⟩ := ((HJ.out.2.foot.mono (T := fun g => w.heap.size + 1 < g) (fun g hg => by have := hg.1; omega)).below hbr6).get ki hIT
   subst hA8
   obtain ⟨A9, c9, rfl⟩ := hbi.1.form
   obtain ⟨go, oo, b0, hAo, hgo, -, hco, hc0, ho0⟩ := HOW.out.1.at' 0 (by omega)
   subst hAo
   rw [Nat.add_zero] at hc0
   have hSS := HOW.out.2
   have H6 := Lib.hid (And.intro hb06 (And.intro hbi (And.intro (H4.out.1.rws.below ((H5.out.2).trans (hb6.mono hs5))) (And.intro (H5.out.1.below hb6) (And.intro kC (And.intro (HX.out.below hbr6) (And.intro (HZ.out.below hbr6) (ho0.chg (Chg.of_below (S := fun _ => False) hb06) (fun _ _ h => h)))))))))
   have HCK : Hid (∀ W, Below w6.heap.size w6 W → W.cell? ⟨gi, oi + ki, none⟩ = some (.slice A9 (IL.getD ki []).length c9) ∧ W.cell? ⟨go, oo, none⟩ = some (.pointer (some ⟨b0, 0, none⟩)) ∧ W.cell? ⟨w5.heap.size, 0, none⟩ = some (.int .i64 (k : Int)) ∧ W.cell? ⟨w5.heap.size, 1, none⟩ = some (.slice A5 RT.length c5)) := Lib.hid (fun W hW => ⟨(hW.cell (p := ⟨gi, oi + ki, none⟩) hgi).trans hci, (hW.cell (p := ⟨go, oo, none⟩) (Nat.lt_of_lt_of_le hgo hb06.size)).trans ((hb06.cell (p := ⟨go, oo, none⟩) hgo).trans hc0), (hW.cell (p := ⟨w5.heap.size, 0, none⟩) hcb).trans (kC.cell 0 _ rfl), (hW.cell (p := ⟨w5.heap.size, 1, none⟩) hcb).trans (kC.cell 1 _ rfl)⟩)
   have HS0 : Hid (Below w6.heap.size w6 w6.drew) := Lib.hid (Below.refl _ _).drew
   have HOW6 := Lib.hid (And.intro (HOW.out.1.below hb06) hSS)
   have HGG := Lib.hid (And.intro hgi (And.intro hgo (And.intro hco hc0)))
   have hLL2 : LL.length = k := by rw [HLL.out.1, HIL.out]
   have HINC := Lib.hid (fun (wz : World) (hz : Rws wz (.slice A4 LL.length c4) LL) => include8_any (fun g => g < wz.heap.size) LL.length LL (.slice A4 LL.length c4) ki (Nat.le_refl _) (by rw [hLL2]; omega) hLK (fun x hx => by have := HLL.out.2 x hx; omega) wz (fun g h => h) hz.cut)
   have hPLl : (inclL LL ki).length ≤ 1000 := by rw [HPL.out ki hLK, hLL2]; exact Nat.le_trans (longN_le k ki) (by omega)
   have hRTl : RT.length ≤ 1000 := by rw [HR32.out]; omega
   have HBD := Lib.hid (fun (wz : World) (hz : Bys wz (.slice A5 RT.length c5) RT) => rckbody_any (.agg #[.int .i64 (k : Int), .slice A5 RT.length c5]) ⟨(k : Int), RT⟩ (show RT.length ≤ 1000000000 by omega) wz ⟨_, rfl, hz⟩)
   have hMBl : (bodyS tagCk ⟨(k : Int), RT⟩).length ≤ 1000000000 := by
    have := bodyS_length tagCk ⟨(k : Int), RT⟩
    have h2 : (CkD.mk (k : Int) RT).root.length = RT.length := rfl
    have h3 : tagCk.length = 16 := rfl
    omega
   change Hid (∀ (wz : World), _ → Calls Tryz.prog _ _ wz fun e w' => ∃ v', e = .returned v' ∧ Bys w' v' (bodyS tagCk ⟨(k : Int), RT⟩) ∧ Below wz.heap.size wz w') at HBD
   have HSGN := Lib.hid (fun (wz : World) (vm : Value) (hz : OwnerS S wz b0 (seedS 0)) (hm : Bys wz vm (bodyS tagCk ⟨(k : Int), RT⟩)) => rosign_s S b0 vm (seedS 0) (bodyS tagCk ⟨(k : Int), RT⟩) ((k : Int) % 16) (by omega) (by omega) (by rw [seedS_length]; decide) hMBl wz hz hm)
   have HITL := Lib.hid (HIT1.out ki hKk)
   have ht1 : (k : Int).tmod 16 = (k : Int) % 16 := Int.tmod_eq_emod_of_nonneg (by omega)
   have HIX : Hid (0 ≤ (k : Int) % 16 ∧ (k : Int) % 16 < 16) := Lib.hid ⟨by omega, by omega⟩
   have hoo : (0 : Int) < ((kk + 1 : Nat) : Int) := by omega
   have hKI : ((ki : Nat) : Int) < ((IL.length : Nat) : Int) := by omega
   have hzz : w.heap.size + 1 < w5.heap.size := by omega
   clear hLL2 kC hb6 hbr6 hb06 hbi ho0 hci hc0 hSS hMBl HLV HJ H4 H5 HX HZ HBW HOW HDX HDZ HB2 HLL HPL HR32 HIT1 HI62 HW2 hs5
   generalize inclL LL ki = PL at *
   generalize hSGe : signS (seedS 0) ((k : Int) % 16) (bodyS tagCk ⟨(k : Int), RT⟩) = SG at *
   generalize bodyS tagCk ⟨(k : Int), RT⟩ = MB at *
   generalize seedS 0 = SE at *
   have HSGE := Lib.hid hSGe
   clear hSGe
   generalize hixe : (k : Int) % 16 = ix at *
   have HIXE := Lib.hid hixe
   clear hixe
   generalize IL.getD ki [] = IT at *
   go_cut [11] (fun v11 wc => ∃ bb, v11 = .pointer (some ⟨bb, 0, none⟩) ∧ Hid (MdS (fun g => g ≠ w.heap.size + 1) w6 wc bb ⟨IT, ⟨(ki : Int), (k : Int), PL⟩, ⟨⟨(k : Int), RT⟩, SG⟩, []⟩))
   case first =>
    refine wp_region_held_drew (S := fun w' => w'.cell? ⟨gi, oi + ki, none⟩ = some (.slice A9 IT.length c9) ∧ w'.cell? ⟨go, oo, none⟩ = some (.pointer (some ⟨b0, 0, none⟩)) ∧ w'.cell? ⟨w5.heap.size, 0, none⟩ = some (.int .i64 (k : Int)) ∧ w'.cell? ⟨w5.heap.size, 1, none⟩ = some (.slice A5 RT.length c5)) (by kernel_rfl) (HCK.out _ HS0.out) (fun hHeld => ?_)
    generalize w6.drew = wr6 at *
    refine ty 0 41 rfl rfl ?_; simp only [sa, sb, sc]
    refine ty 1 42 rfl rfl ?_; simp only [sa, sb, sc]
    refine ty 2 43 rfl rfl ?_; simp only [sa, sb, sc]
    refine ty 3 44 rfl rfl ?_; simp only [sa, sb, sc]
    refine ty 4 45 rfl rfl ?_; simp only [sa, sb, sc]
    refine ty 5 46 rfl rfl ?_; simp only [sa, sb, sc]
    refine ty 6 47 rfl rfl ?_; simp only [sa, sb, sc]
    refine ty 7 48 rfl rfl ?_; simp only [sa, sb, sc]
    refine ty 10 51 rfl rfl ?_; simp only [sa, sb, sc]
    refine ty 11 52 rfl rfl ?_; simp only [sa, sb, sc]
    refine ty 12 53 rfl rfl ?_; simp only [sa, sb, sc]
    refine ty 13 54 rfl rfl ?_; simp only [sa, sb, sc]
    refine ty 14 55 rfl rfl ?_; simp only [sa, sb, sc]
    refine ty 15 56 rfl rfl ?_; simp only [sa, sb, sc]
    refine ty 16 57 rfl rfl ?_; simp only [sa, sb, sc]
    refine wpAnyH_ready (rs := [8, 21]) (by kernel_rfl) (by simp) ?_
    refine AllReadyH.cons rfl (fun K hK => ?w10_8) (AllReadyH.cons rfl (fun K hK => ?w10_21) AllReadyH.nil)
    case' w10_21 =>
     go_simp
     obtain ⟨bb, hbb0⟩ : ∃ bb : Nat, bb = (wr6).heap.size := ⟨_, rfl⟩
     obtain ⟨W21, hV⟩ : ∃ V : World, V = (wr6).alloc (.cells #[.slice none 0 0, .int .i64 0, .int .i64 0, .slice none 0 0, .int .i64 0, .slice none 0 0, .int .i64 0, .slice none 0 0, .slice none 0 0, .slice none 0 0] 42) := ⟨_, rfl⟩
     have k3 : Below (wr6).heap.size (wr6) W21 := by rw [hV]; exact (Below.refl _ _).alloc (Nat.le_refl _) _
     have HBG : Hid (w6.heap.size ≤ bb) := Lib.hid (by have := HS0.out.size; omega)
     have HB21 : Hid (Blk W21 bb 42 [.slice none 0 0, .int .i64 0, .int .i64 0, .slice none 0 0, .int .i64 0, .slice none 0 0, .int .i64 0, .slice none 0 0, .slice none 0 0, .slice none 0 0]) := Lib.hid (by rw [hV, hbb0]; exact Blk.new _ _ [.slice none 0 0, .int .i64 0, .int .i64 0, .slice none 0 0, .int .i64 0, .slice none 0 0, .int .i64 0, .slice none 0 0, .slice none 0 0, .slice none 0 0])
     rw [← hV, ← hbb0]
     replace HS0 := Lib.hid (HS0.out.trans (k3.mono HS0.out.size))
     clear hV k3 hbb0
     refine hK.out _ _ (HCK.out _ HS0.out) (fun hHeld21 => ?_)
     clear hK K; try simp only [Act.put, sa, sb, sc]
     refine rd 8 (by kernel_rfl) rfl (fun K hK => ?_)
     go_simp
     go_at_call 44
     refine (HINC.out _ (H6.out.2.2.1.below HS0.out)).mono ?_
     rintro e W21_8 ⟨v8, rfl, h1, h2⟩
     obtain ⟨A6, c6, rfl⟩ := h1.rws.form
     have hz8 := (H6.out.2.2.2.2.2.2.1.below HS0.out).below h2
     have hs8 := HS0.out.size
     have H8 : Hid (RwsF (fun g => g ≠ bb ∧ g ≠ w.heap.size + 1) W21_8 (.slice A6 PL.length c6) PL) := Lib.hid (h1.apart2 (HB21.out.below h2) (bun_cells (by intro z h; cases h) (by intro z h; cases h) (by intro z h; cases h) (by intro z h; cases h) (by intro z h; cases h) (by intro z h; cases h)) HB21.out.lt hz8 (bun_cells (by intro z h; cases h) (by intro z h; cases h) (by intro z h; cases h) (by intro z h; cases h) (by intro z h; cases h) (by intro z h; cases h)) (by omega))
     replace HS0 := Lib.hid (HS0.out.trans (h2.mono HS0.out.size))
     replace HB21 := Lib.hid (HB21.out.below h2)
     clear h1 h2 hz8 hs8
     try dsimp only
     refine hK.out _ _ (HCK.out _ HS0.out) (fun hHeld8 => ?_)
     clear hK K; try simp only [Act.put, sa, sb, sc]
     refine ty 9 50 rfl rfl ?_; simp only [sa, sb, sc]
     refine rd 17 (by kernel_rfl) rfl (fun K hK => ?_)
     go_simp
     go_at_call 45
     refine (HBD.out _ (H6.out.2.2.2.1.1.below HS0.out)).mono ?_
     rintro e W21_8_17 ⟨v17, rfl, h1, h2⟩
     have H17 := Lib.hid h1
     replace HS0 := Lib.hid (HS0.out.trans (h2.mono HS0.out.size))
     replace H8 := Lib.hid ((H8.out.below h2))
     replace HB21 := Lib.hid (HB21.out.below h2)
     clear h1 h2
     try dsimp only
     refine hK.out _ _ (HCK.out _ HS0.out) (fun hHeld17 => ?_)
     clear hK K; try simp only [Act.put, sa, sb, sc]
     refine rd 18 (by kernel_rfl) rfl (fun K hK => ?_)
     go_simp
     go_at_call 35
     refine (HSGN.out _ _ (H6.out.2.2.2.2.2.2.2.chg (Chg.of_below (S := fun _ => False) HS0.out) (fun _ _ h => h)) H17.out).mono ?_
     rintro e W21_8_17_18 ⟨v18, rfl, h1, h2⟩
     obtain ⟨vp, vq, rfl, k1, k2⟩ := h1
     obtain ⟨P7, cp7, rfl⟩ := k1.rws.form
     obtain ⟨Q7, cq7, rfl⟩ := k2.rws.form
     have hs8 := HS0.out.size
     have H18 : Hid (RwsF (fun g => g ≠ bb ∧ g ≠ w.heap.size + 1) W21_8_17_18 (.slice P7 SG.parts.length cp7) SG.parts ∧ RwsF (fun g => g ≠ bb ∧ g ≠ w.heap.size + 1) W21_8_17_18 (.slice Q7 SG.path.length cq7) SG.path) := Lib.hid ⟨k1.mono (fun g hg => by have h8 := HB21.out.lt; have h9 := HBG.out; exact hg.elim (fun h => by have := HOW6.out.2 g h; exact ⟨by omega, by omega⟩) (fun h => ⟨by omega, by omega⟩)), k2.mono (fun g hg => by have h8 := HB21.out.lt; have h9 := HBG.out; exact hg.elim (fun h => by have := HOW6.out.2 g h; exact ⟨by omega, by omega⟩) (fun h => ⟨by omega, by omega⟩))⟩
     replace HS0 := Lib.hid (HS0.out.trans (h2.mono HS0.out.size))
     replace H8 := Lib.hid ((H8.out.below h2))
     have H17b := Lib.hid (H17.out.below h2)
     replace HB21 := Lib.hid (HB21.out.below h2)
     clear h2 k1 k2 hs8
     try dsimp only
     refine hK.out _ _ (HCK.out _ HS0.out) (fun hHeld18 => ?_)
     clear hK K; try simp only [Act.put, sa, sb, sc]
     refine ty 19 60 rfl rfl ?_; simp only [sa, sb, sc]
     refine ty 20 61 rfl rfl ?_; simp only [sa, sb, sc]
     refine rd 22 (by kernel_rfl) rfl (fun K hK => ?_)
     have y0 := HB21.out.free 0
     have z0 := HB21.out.cell 0 _ rfl
     have y1 := HB21.out.free 1
     have z1 := HB21.out.cell 1 _ rfl
     have y2 := HB21.out.free 2
     have z2 := HB21.out.cell 2 _ rfl
     have y3 := HB21.out.free 3
     have z3 := HB21.out.cell 3 _ rfl
     have y4 := HB21.out.free 4
     have z4 := HB21.out.cell 4 _ rfl
     have y5 := HB21.out.free 5
     have z5 := HB21.out.cell 5 _ rfl
     have y6 := HB21.out.free 6
     have z6 := HB21.out.cell 6 _ rfl
     have y7 := HB21.out.free 7
     have z7 := HB21.out.cell 7 _ rfl
     have y8 := HB21.out.free 8
     have z8 := HB21.out.cell 8 _ rfl
     have y9 := HB21.out.free 9
     have z9 := HB21.out.cell 9 _ rfl
     go_simp
     clear y0 y1 y2 y3 y4 y5 y6 y7 y8 y9 z0 z1 z2 z3 z4 z5 z6 z7 z8 z9
     have hst := bunC_store HB21.out (.slice A9 IT.length c9) (.int .i64 (ki : Int)) (.int .i64 (k : Int)) (.slice A6 PL.length c6) (.int .i64 (k : Int)) (.slice A5 RT.length c5) (.int .i64 SG.index) (.slice P7 SG.parts.length cp7) (.slice Q7 SG.path.length cq7) (.slice none 0 0) _ rfl
     replace HS0 := Lib.hid (HS0.out.trans (hst.2.below HS0.out.size (fun k hk => by have e : k = bb := hk; have := HBG.out; omega)))
     have HST := Lib.hid hst
     clear hst
     refine hK.out _ _ (HCK.out _ HS0.out) (fun hHeld22 => ?_)
     clear hK K; try simp only [Act.put, sa, sb, sc]
     refine wpAnyH_done (by kernel_rfl) ?_ _
     clear hHeld
     go_wp2
     go_meet
     case rel =>
      refine ⟨bb, rfl, ?_⟩
      refine Lib.hid ?_
      refine ⟨HS0.out, HBG.out, _, _, _, _, _, HST.out.1, (H6.out.2.1.cut.below HS0.out).mono (fun g hg => ?_), H8.out.chg HST.out.2 (fun g hg e => hg.1 e), (H6.out.2.2.2.1.cut.below HS0.out).mono (fun g hg => ?_), H18.out.1.chg HST.out.2 (fun g hg e => hg.1 e), H18.out.2.chg HST.out.2 (fun g hg e => hg.1 e), CgsF.nil _ _⟩
      ·have h1 : w.heap.size + 1 < g := hg.1
       have h2 : g < w6.heap.size := hg.2
       have h3 := HBG.out
       exact ⟨by omega, by omega⟩
      ·have h1 : w.heap.size + 1 < g ∨ w4.heap.size ≤ g := hg.1
       have h2 : g < w6.heap.size := hg.2
       have h3 := HBG.out
       exact ⟨by omega, by omega⟩
    case' w10_8 =>
     go_simp
     go_at_call 44
     refine (HINC.out _ (H6.out.2.2.1.below HS0.out)).mono ?_
     rintro e W8 ⟨v8, rfl, h1, h2⟩
     obtain ⟨A6, c6, rfl⟩ := h1.rws.form
     have hz8 := (H6.out.2.2.2.2.2.2.1.below HS0.out).below h2
     have hs8 := HS0.out.size
     have H8 : Hid (RwsF (fun g => g ≠ w.heap.size + 1 ∧ g < (W8).heap.size) W8 (.slice A6 PL.length c6) PL) := Lib.hid (h1.apart hz8 (bun_cells (by intro z h; cases h) (by intro z h; cases h) (by intro z h; cases h) (by intro z h; cases h) (by intro z h; cases h) (by intro z h; cases h)) (by omega))
     replace HS0 := Lib.hid (HS0.out.trans (h2.mono HS0.out.size))
     clear h1 h2 hz8 hs8
     try dsimp only
     refine hK.out _ _ (HCK.out _ HS0.out) (fun hHeld8 => ?_)
     clear hK K; try simp only [Act.put, sa, sb, sc]
     refine ty 9 50 rfl rfl ?_; simp only [sa, sb, sc]
     refine wpAnyH_ready (rs := [17, 21]) (by kernel_rfl) (by simp) ?_
     refine AllReadyH.cons rfl (fun K hK => ?w10_8_17) (AllReadyH.cons rfl (fun K hK => ?w10_8_21) AllReadyH.nil)
     case' w10_8_21 =>
      go_simp
      obtain ⟨bb, hbb0⟩ : ∃ bb : Nat, bb = (W8).heap.size := ⟨_, rfl⟩
      obtain ⟨W8_21, hV⟩ : ∃ V : World, V = (W8).alloc (.cells #[.slice none 0 0, .int .i64 0, .int .i64 0, .slice none 0 0, .int .i64 0, .slice none 0 0, .int .i64 0, .slice none 0 0, .slice none 0 0, .slice none 0 0] 42) := ⟨_, rfl⟩
      have k3 : Below (W8).heap.size (W8) W8_21 := by rw [hV]; exact (Below.refl _ _).alloc (Nat.le_refl _) _
      have HBG : Hid (w6.heap.size ≤ bb) := Lib.hid (by have := HS0.out.size; omega)
      have HB21 : Hid (Blk W8_21 bb 42 [.slice none 0 0, .int .i64 0, .int .i64 0, .slice none 0 0, .int .i64 0, .slice none 0 0, .int .i64 0, .slice none 0 0, .slice none 0 0, .slice none 0 0]) := Lib.hid (by rw [hV, hbb0]; exact Blk.new _ _ [.slice none 0 0, .int .i64 0, .int .i64 0, .slice none 0 0, .int .i64 0, .slice none 0 0, .int .i64 0, .slice none 0 0, .slice none 0 0, .slice none 0 0])
      rw [← hV, ← hbb0]
      replace H8 := Lib.hid ((H8.out.mono (T := fun g => g ≠ bb ∧ g ≠ w.heap.size + 1) (fun g hg => ⟨by have := hg.2; omega, hg.1⟩)).below k3)
      replace HS0 := Lib.hid (HS0.out.trans (k3.mono HS0.out.size))
      clear hV k3 hbb0
      refine hK.out _ _ (HCK.out _ HS0.out) (fun hHeld21 => ?_)
      clear hK K; try simp only [Act.put, sa, sb, sc]
      refine rd 17 (by kernel_rfl) rfl (fun K hK => ?_)
      go_simp
      go_at_call 45
      refine (HBD.out _ (H6.out.2.2.2.1.1.below HS0.out)).mono ?_
      rintro e W8_21_17 ⟨v17, rfl, h1, h2⟩
      have H17 := Lib.hid h1
      replace HS0 := Lib.hid (HS0.out.trans (h2.mono HS0.out.size))
      replace H8 := Lib.hid ((H8.out.below h2))
      replace HB21 := Lib.hid (HB21.out.below h2)
      clear h1 h2
      try dsimp only
      refine hK.out _ _ (HCK.out _ HS0.out) (fun hHeld17 => ?_)
      clear hK K; try simp only [Act.put, sa, sb, sc]
      refine rd 18 (by kernel_rfl) rfl (fun K hK => ?_)
      go_simp
      go_at_call 35
      refine (HSGN.out _ _ (H6.out.2.2.2.2.2.2.2.chg (Chg.of_below (S := fun _ => False) HS0.out) (fun _ _ h => h)) H17.out).mono ?_
      rintro e W8_21_17_18 ⟨v18, rfl, h1, h2⟩
      obtain ⟨vp, vq, rfl, k1, k2⟩ := h1
      obtain ⟨P7, cp7, rfl⟩ := k1.rws.form
      obtain ⟨Q7, cq7, rfl⟩ := k2.rws.form
      have hs8 := HS0.out.size
      have H18 : Hid (RwsF (fun g => g ≠ bb ∧ g ≠ w.heap.size + 1) W8_21_17_18 (.slice P7 SG.parts.length cp7) SG.parts ∧ RwsF (fun g => g ≠ bb ∧ g ≠ w.heap.size + 1) W8_21_17_18 (.slice Q7 SG.path.length cq7) SG.path) := Lib.hid ⟨k1.mono (fun g hg => by have h8 := HB21.out.lt; have h9 := HBG.out; exact hg.elim (fun h => by have := HOW6.out.2 g h; exact ⟨by omega, by omega⟩) (fun h => ⟨by omega, by omega⟩)), k2.mono (fun g hg => by have h8 := HB21.out.lt; have h9 := HBG.out; exact hg.elim (fun h => by have := HOW6.out.2 g h; exact ⟨by omega, by omega⟩) (fun h => ⟨by omega, by omega⟩))⟩
      replace HS0 := Lib.hid (HS0.out.trans (h2.mono HS0.out.size))
      replace H8 := Lib.hid ((H8.out.below h2))
      have H17b := Lib.hid (H17.out.below h2)
      replace HB21 := Lib.hid (HB21.out.below h2)
      clear h2 k1 k2 hs8
      try dsimp only
      refine hK.out _ _ (HCK.out _ HS0.out) (fun hHeld18 => ?_)
      clear hK K; try simp only [Act.put, sa, sb, sc]
      refine ty 19 60 rfl rfl ?_; simp only [sa, sb, sc]
      refine ty 20 61 rfl rfl ?_; simp only [sa, sb, sc]
      refine rd 22 (by kernel_rfl) rfl (fun K hK => ?_)
      have y0 := HB21.out.free 0
      have z0 := HB21.out.cell 0 _ rfl
      have y1 := HB21.out.free 1
      have z1 := HB21.out.cell 1 _ rfl
      have y2 := HB21.out.free 2
      have z2 := HB21.out.cell 2 _ rfl
      have y3 := HB21.out.free 3
      have z3 := HB21.out.cell 3 _ rfl
      have y4 := HB21.out.free 4
      have z4 := HB21.out.cell 4 _ rfl
      have y5 := HB21.out.free 5
      have z5 := HB21.out.cell 5 _ rfl
      have y6 := HB21.out.free 6
      have z6 := HB21.out.cell 6 _ rfl
      have y7 := HB21.out.free 7
      have z7 := HB21.out.cell 7 _ rfl
      have y8 := HB21.out.free 8
      have z8 := HB21.out.cell 8 _ rfl
      have y9 := HB21.out.free 9
      have z9 := HB21.out.cell 9 _ rfl
      go_simp
      clear y0 y1 y2 y3 y4 y5 y6 y7 y8 y9 z0 z1 z2 z3 z4 z5 z6 z7 z8 z9
      have hst := bunC_store HB21.out (.slice A9 IT.length c9) (.int .i64 (ki : Int)) (.int .i64 (k : Int)) (.slice A6 PL.length c6) (.int .i64 (k : Int)) (.slice A5 RT.length c5) (.int .i64 SG.index) (.slice P7 SG.parts.length cp7) (.slice Q7 SG.path.length cq7) (.slice none 0 0) _ rfl
      replace HS0 := Lib.hid (HS0.out.trans (hst.2.below HS0.out.size (fun k hk => by have e : k = bb := hk; have := HBG.out; omega)))
      have HST := Lib.hid hst
      clear hst
      refine hK.out _ _ (HCK.out _ HS0.out) (fun hHeld22 => ?_)
      clear hK K; try simp only [Act.put, sa, sb, sc]
      refine wpAnyH_done (by kernel_rfl) ?_ _
      clear hHeld
      go_wp2
      go_meet
      case rel =>
       refine ⟨bb, rfl, ?_⟩
       refine Lib.hid ?_
       refine ⟨HS0.out, HBG.out, _, _, _, _, _, HST.out.1, (H6.out.2.1.cut.below HS0.out).mono (fun g hg => ?_), H8.out.chg HST.out.2 (fun g hg e => hg.1 e), (H6.out.2.2.2.1.cut.below HS0.out).mono (fun g hg => ?_), H18.out.1.chg HST.out.2 (fun g hg e => hg.1 e), H18.out.2.chg HST.out.2 (fun g hg e => hg.1 e), CgsF.nil _ _⟩
       ·have h1 : w.heap.size + 1 < g := hg.1
        have h2 : g < w6.heap.size := hg.2
        have h3 := HBG.out
        exact ⟨by omega, by omega⟩
       ·have h1 : w.heap.size + 1 < g ∨ w4.heap.size ≤ g := hg.1
        have h2 : g < w6.heap.size := hg.2
        have h3 := HBG.out
        exact ⟨by omega, by omega⟩
     case' w10_8_17 =>
      go_simp
      go_at_call 45
      refine (HBD.out _ (H6.out.2.2.2.1.1.below HS0.out)).mono ?_
      rintro e W8_17 ⟨v17, rfl, h1, h2⟩
      have H17 := Lib.hid h1
      replace HS0 := Lib.hid (HS0.out.trans (h2.mono HS0.out.size))
      replace H8 := Lib.hid ((H8.out.below h2).mono (T := fun g => g ≠ w.heap.size + 1 ∧ g < (W8_17).heap.size) (fun g hg => ⟨hg.1, Nat.lt_of_lt_of_le hg.2 h2.size⟩))
      clear h1 h2
      try dsimp only
      refine hK.out _ _ (HCK.out _ HS0.out) (fun hHeld17 => ?_)
      clear hK K; try simp only [Act.put, sa, sb, sc]
      refine wpAnyH_ready (rs := [18, 21]) (by kernel_rfl) (by simp) ?_
      refine AllReadyH.cons rfl (fun K hK => ?w10_8_17_18) (AllReadyH.cons rfl (fun K hK => ?w10_8_17_21) AllReadyH.nil)
      case' w10_8_17_21 =>
       go_simp
       obtain ⟨bb, hbb0⟩ : ∃ bb : Nat, bb = (W8_17).heap.size := ⟨_, rfl⟩
       obtain ⟨W8_17_21, hV⟩ : ∃ V : World, V = (W8_17).alloc (.cells #[.slice none 0 0, .int .i64 0, .int .i64 0, .slice none 0 0, .int .i64 0, .slice none 0 0, .int .i64 0, .slice none 0 0, .slice none 0 0, .slice none 0 0] 42) := ⟨_, rfl⟩
       have k3 : Below (W8_17).heap.size (W8_17) W8_17_21 := by rw [hV]; exact (Below.refl _ _).alloc (Nat.le_refl _) _
       have HBG : Hid (w6.heap.size ≤ bb) := Lib.hid (by have := HS0.out.size; omega)
       have HB21 : Hid (Blk W8_17_21 bb 42 [.slice none 0 0, .int .i64 0, .int .i64 0, .slice none 0 0, .int .i64 0, .slice none 0 0, .int .i64 0, .slice none 0 0, .slice none 0 0, .slice none 0 0]) := Lib.hid (by rw [hV, hbb0]; exact Blk.new _ _ [.slice none 0 0, .int .i64 0, .int .i64 0, .slice none 0 0, .int .i64 0, .slice none 0 0, .int .i64 0, .slice none 0 0, .slice none 0 0, .slice none 0 0])
       rw [← hV, ← hbb0]
       replace H8 := Lib.hid ((H8.out.mono (T := fun g => g ≠ bb ∧ g ≠ w.heap.size + 1) (fun g hg => ⟨by have := hg.2; omega, hg.1⟩)).below k3)
       replace HS0 := Lib.hid (HS0.out.trans (k3.mono HS0.out.size))
       replace H17 := Lib.hid (H17.out.below k3)
       clear hV k3 hbb0
       refine hK.out _ _ (HCK.out _ HS0.out) (fun hHeld21 => ?_)
       clear hK K; try simp only [Act.put, sa, sb, sc]
       refine rd 18 (by kernel_rfl) rfl (fun K hK => ?_)
       go_simp
       go_at_call 35
       refine (HSGN.out _ _ (H6.out.2.2.2.2.2.2.2.chg (Chg.of_below (S := fun _ => False) HS0.out) (fun _ _ h => h)) H17.out).mono ?_
       rintro e W8_17_21_18 ⟨v18, rfl, h1, h2⟩
       obtain ⟨vp, vq, rfl, k1, k2⟩ := h1
       obtain ⟨P7, cp7, rfl⟩ := k1.rws.form
       obtain ⟨Q7, cq7, rfl⟩ := k2.rws.form
       have hs8 := HS0.out.size
       have H18 : Hid (RwsF (fun g => g ≠ bb ∧ g ≠ w.heap.size + 1) W8_17_21_18 (.slice P7 SG.parts.length cp7) SG.parts ∧ RwsF (fun g => g ≠ bb ∧ g ≠ w.heap.size + 1) W8_17_21_18 (.slice Q7 SG.path.length cq7) SG.path) := Lib.hid ⟨k1.mono (fun g hg => by have h8 := HB21.out.lt; have h9 := HBG.out; exact hg.elim (fun h => by have := HOW6.out.2 g h; exact ⟨by omega, by omega⟩) (fun h => ⟨by omega, by omega⟩)), k2.mono (fun g hg => by have h8 := HB21.out.lt; have h9 := HBG.out; exact hg.elim (fun h => by have := HOW6.out.2 g h; exact ⟨by omega, by omega⟩) (fun h => ⟨by omega, by omega⟩))⟩
       replace HS0 := Lib.hid (HS0.out.trans (h2.mono HS0.out.size))
       replace H8 := Lib.hid ((H8.out.below h2))
       have H17b := Lib.hid (H17.out.below h2)
       replace HB21 := Lib.hid (HB21.out.below h2)
       clear h2 k1 k2 hs8
       try dsimp only
       refine hK.out _ _ (HCK.out _ HS0.out) (fun hHeld18 => ?_)
       clear hK K; try simp only [Act.put, sa, sb, sc]
       refine ty 19 60 rfl rfl ?_; simp only [sa, sb, sc]
       refine ty 20 61 rfl rfl ?_; simp only [sa, sb, sc]
       refine rd 22 (by kernel_rfl) rfl (fun K hK => ?_)
       have y0 := HB21.out.free 0
       have z0 := HB21.out.cell 0 _ rfl
       have y1 := HB21.out.free 1
       have z1 := HB21.out.cell 1 _ rfl
       have y2 := HB21.out.free 2
       have z2 := HB21.out.cell 2 _ rfl
       have y3 := HB21.out.free 3
       have z3 := HB21.out.cell 3 _ rfl
       have y4 := HB21.out.free 4
       have z4 := HB21.out.cell 4 _ rfl
       have y5 := HB21.out.free 5
       have z5 := HB21.out.cell 5 _ rfl
       have y6 := HB21.out.free 6
       have z6 := HB21.out.cell 6 _ rfl
       have y7 := HB21.out.free 7
       have z7 := HB21.out.cell 7 _ rfl
       have y8 := HB21.out.free 8
       have z8 := HB21.out.cell 8 _ rfl
       have y9 := HB21.out.free 9
       have z9 := HB21.out.cell 9 _ rfl
       go_simp
       clear y0 y1 y2 y3 y4 y5 y6 y7 y8 y9 z0 z1 z2 z3 z4 z5 z6 z7 z8 z9
       have hst := bunC_store HB21.out (.slice A9 IT.length c9) (.int .i64 (ki : Int)) (.int .i64 (k : Int)) (.slice A6 PL.length c6) (.int .i64 (k : Int)) (.slice A5 RT.length c5) (.int .i64 SG.index) (.slice P7 SG.parts.length cp7) (.slice Q7 SG.path.length cq7) (.slice none 0 0) _ rfl
       replace HS0 := Lib.hid (HS0.out.trans (hst.2.below HS0.out.size (fun k hk => by have e : k = bb := hk; have := HBG.out; omega)))
       have HST := Lib.hid hst
       clear hst
       refine hK.out _ _ (HCK.out _ HS0.out) (fun hHeld22 => ?_)
       clear hK K; try simp only [Act.put, sa, sb, sc]
       refine wpAnyH_done (by kernel_rfl) ?_ _
       clear hHeld
       go_wp2
       go_meet
       case rel =>
        refine ⟨bb, rfl, ?_⟩
        refine Lib.hid ?_
        refine ⟨HS0.out, HBG.out, _, _, _, _, _, HST.out.1, (H6.out.2.1.cut.below HS0.out).mono (fun g hg => ?_), H8.out.chg HST.out.2 (fun g hg e => hg.1 e), (H6.out.2.2.2.1.cut.below HS0.out).mono (fun g hg => ?_), H18.out.1.chg HST.out.2 (fun g hg e => hg.1 e), H18.out.2.chg HST.out.2 (fun g hg e => hg.1 e), CgsF.nil _ _⟩
        ·have h1 : w.heap.size + 1 < g := hg.1
         have h2 : g < w6.heap.size := hg.2
         have h3 := HBG.out
         exact ⟨by omega, by omega⟩
        ·have h1 : w.heap.size + 1 < g ∨ w4.heap.size ≤ g := hg.1
         have h2 : g < w6.heap.size := hg.2
         have h3 := HBG.out
         exact ⟨by omega, by omega⟩
      case' w10_8_17_18 =>
       go_simp
       go_at_call 35
       refine (HSGN.out _ _ (H6.out.2.2.2.2.2.2.2.chg (Chg.of_below (S := fun _ => False) HS0.out) (fun _ _ h => h)) H17.out).mono ?_
       rintro e W8_17_18 ⟨v18, rfl, h1, h2⟩
       obtain ⟨vp, vq, rfl, k1, k2⟩ := h1
       obtain ⟨P7, cp7, rfl⟩ := k1.rws.form
       obtain ⟨Q7, cq7, rfl⟩ := k2.rws.form
       have hs8 := HS0.out.size
       have H18 : Hid (RwsF (fun g => g ≠ w.heap.size + 1 ∧ g < (W8_17_18).heap.size) W8_17_18 (.slice P7 SG.parts.length cp7) SG.parts ∧ RwsF (fun g => g ≠ w.heap.size + 1 ∧ g < (W8_17_18).heap.size) W8_17_18 (.slice Q7 SG.path.length cq7) SG.path) := Lib.hid ⟨k1.cut.mono (fun g hg => ⟨hg.1.elim (fun h => by have := HOW6.out.2 g h; omega) (fun h => by omega), hg.2⟩), k2.cut.mono (fun g hg => ⟨hg.1.elim (fun h => by have := HOW6.out.2 g h; omega) (fun h => by omega), hg.2⟩)⟩
       replace HS0 := Lib.hid (HS0.out.trans (h2.mono HS0.out.size))
       replace H8 := Lib.hid ((H8.out.below h2).mono (T := fun g => g ≠ w.heap.size + 1 ∧ g < (W8_17_18).heap.size) (fun g hg => ⟨hg.1, Nat.lt_of_lt_of_le hg.2 h2.size⟩))
       have H17b := Lib.hid (H17.out.below h2)
       clear h2 k1 k2 hs8
       try dsimp only
       refine hK.out _ _ (HCK.out _ HS0.out) (fun hHeld18 => ?_)
       clear hK K; try simp only [Act.put, sa, sb, sc]
       refine ty 19 60 rfl rfl ?_; simp only [sa, sb, sc]
       refine ty 20 61 rfl rfl ?_; simp only [sa, sb, sc]
       refine rd 21 (by kernel_rfl) rfl (fun K hK => ?_)
       go_simp
       obtain ⟨bb, hbb0⟩ : ∃ bb : Nat, bb = (W8_17_18).heap.size := ⟨_, rfl⟩
       obtain ⟨W8_17_18_21, hV⟩ : ∃ V : World, V = (W8_17_18).alloc (.cells #[.slice none 0 0, .int .i64 0, .int .i64 0, .slice none 0 0, .int .i64 0, .slice none 0 0, .int .i64 0, .slice none 0 0, .slice none 0 0, .slice none 0 0] 42) := ⟨_, rfl⟩
       have k3 : Below (W8_17_18).heap.size (W8_17_18) W8_17_18_21 := by rw [hV]; exact (Below.refl _ _).alloc (Nat.le_refl _) _
       have HBG : Hid (w6.heap.size ≤ bb) := Lib.hid (by have := HS0.out.size; omega)
       have HB21 : Hid (Blk W8_17_18_21 bb 42 [.slice none 0 0, .int .i64 0, .int .i64 0, .slice none 0 0, .int .i64 0, .slice none 0 0, .int .i64 0, .slice none 0 0, .slice none 0 0, .slice none 0 0]) := Lib.hid (by rw [hV, hbb0]; exact Blk.new _ _ [.slice none 0 0, .int .i64 0, .int .i64 0, .slice none 0 0, .int .i64 0, .slice none 0 0, .int .i64 0, .slice none 0 0, .slice none 0 0, .slice none 0 0])
       rw [← hV, ← hbb0]
       replace H8 := Lib.hid ((H8.out.mono (T := fun g => g ≠ bb ∧ g ≠ w.heap.size + 1) (fun g hg => ⟨by have := hg.2; omega, hg.1⟩)).below k3)
       replace H18 := Lib.hid (And.intro ((H18.out.1.mono (T := fun g => g ≠ bb ∧ g ≠ w.heap.size + 1) (fun g hg => ⟨by have := hg.2; omega, hg.1⟩)).below k3) ((H18.out.2.mono (T := fun g => g ≠ bb ∧ g ≠ w.heap.size + 1) (fun g hg => ⟨by have := hg.2; omega, hg.1⟩)).below k3))
       replace HS0 := Lib.hid (HS0.out.trans (k3.mono HS0.out.size))
       clear hV k3 hbb0
       refine hK.out _ _ (HCK.out _ HS0.out) (fun hHeld21 => ?_)
       clear hK K; try simp only [Act.put, sa, sb, sc]
       refine rd 22 (by kernel_rfl) rfl (fun K hK => ?_)
       have y0 := HB21.out.free 0
       have z0 := HB21.out.cell 0 _ rfl
       have y1 := HB21.out.free 1
       have z1 := HB21.out.cell 1 _ rfl
       have y2 := HB21.out.free 2
       have z2 := HB21.out.cell 2 _ rfl
       have y3 := HB21.out.free 3
       have z3 := HB21.out.cell 3 _ rfl
       have y4 := HB21.out.free 4
       have z4 := HB21.out.cell 4 _ rfl
       have y5 := HB21.out.free 5
       have z5 := HB21.out.cell 5 _ rfl
       have y6 := HB21.out.free 6
       have z6 := HB21.out.cell 6 _ rfl
       have y7 := HB21.out.free 7
       have z7 := HB21.out.cell 7 _ rfl
       have y8 := HB21.out.free 8
       have z8 := HB21.out.cell 8 _ rfl
       have y9 := HB21.out.free 9
       have z9 := HB21.out.cell 9 _ rfl
       go_simp
       clear y0 y1 y2 y3 y4 y5 y6 y7 y8 y9 z0 z1 z2 z3 z4 z5 z6 z7 z8 z9
       have hst := bunC_store HB21.out (.slice A9 IT.length c9) (.int .i64 (ki : Int)) (.int .i64 (k : Int)) (.slice A6 PL.length c6) (.int .i64 (k : Int)) (.slice A5 RT.length c5) (.int .i64 SG.index) (.slice P7 SG.parts.length cp7) (.slice Q7 SG.path.length cq7) (.slice none 0 0) _ rfl
       replace HS0 := Lib.hid (HS0.out.trans (hst.2.below HS0.out.size (fun k hk => by have e : k = bb := hk; have := HBG.out; omega)))
       have HST := Lib.hid hst
       clear hst
       refine hK.out _ _ (HCK.out _ HS0.out) (fun hHeld22 => ?_)
       clear hK K; try simp only [Act.put, sa, sb, sc]
       refine wpAnyH_done (by kernel_rfl) ?_ _
       clear hHeld
       go_wp2
       go_meet
       case rel =>
        refine ⟨bb, rfl, ?_⟩
        refine Lib.hid ?_
        refine ⟨HS0.out, HBG.out, _, _, _, _, _, HST.out.1, (H6.out.2.1.cut.below HS0.out).mono (fun g hg => ?_), H8.out.chg HST.out.2 (fun g hg e => hg.1 e), (H6.out.2.2.2.1.cut.below HS0.out).mono (fun g hg => ?_), H18.out.1.chg HST.out.2 (fun g hg e => hg.1 e), H18.out.2.chg HST.out.2 (fun g hg e => hg.1 e), CgsF.nil _ _⟩
        ·have h1 : w.heap.size + 1 < g := hg.1
         have h2 : g < w6.heap.size := hg.2
         have h3 := HBG.out
         exact ⟨by omega, by omega⟩
        ·have h1 : w.heap.size + 1 < g ∨ w4.heap.size ≤ g := hg.1
         have h2 : g < w6.heap.size := hg.2
         have h3 := HBG.out
         exact ⟨by omega, by omega⟩
   case rest =>
    obtain ⟨bb, rfl, H11⟩ := hcut
    obtain ⟨q1, q2, m, p, r, q, s, q3, q4⟩ := H11.out
    have hbl := q3.lt
    have hb6 : w6.heap.size ≤ bb := q2
    have HWC := Lib.hid (And.intro q1 (And.intro (H6.out.1.trans (q1.mono H6.out.1.size)) (And.intro (H6.out.2.2.2.2.1.below q1) (And.intro (H6.out.2.2.2.2.2.1.below q1) (And.intro (H6.out.2.2.2.2.2.2.1.below q1) (And.intro (HOW6.out.1.below q1) (H6.out.2.2.2.1.1.below q1)))))))
    have hs6c := q1.size
    have HR5 : Hid (0 < RT.length → ∀ g, (Value.slice A5 RT.length c5).ownBlock = some g → g < w6.heap.size) := Lib.hid (fun h0 g hg => (H6.out.2.2.2.1.cut.2 h0 g hg).2)
    have hcz : (w6.heap.size : Nat) ≤ wc.heap.size := hs6c
    have HMZ := withinZ_ge x.cosigs 0 ((kk : Nat) : Int) (by omega)
    have HWM := Lib.hid (fun wz : World => within_any x.cosigs 0 ((kk : Nat) : Int) (by omega) (by omega) (by omega) wz)
    generalize hMe : withinZ x.cosigs 0 ((kk : Nat) : Int) = MZ at *
    obtain ⟨M, hM⟩ := Int.eq_ofNat_of_zero_le HMZ.1
    subst hM
    have hMk : M ≤ kk := by have := HMZ.2; omega
    have HMD2 : Hid (MDD = wrongD (⟨IT, ⟨(ki : Int), (k : Int), PL⟩, ⟨⟨(k : Int), RT⟩, SG⟩, cosL ⟨(k : Int), RT⟩ ix M⟩) x) := Lib.hid (by rw [HMD.out k M ki (by first | rfl | exact HNI.out) (by first | rfl | exact HKI.out) (by first | rfl | exact hMe), HRT2.out M])
    clear hMe HMZ
    obtain ⟨CO, hCO⟩ : ∃ CO : Nat → List CgD, CO = cosL ⟨(k : Int), RT⟩ ix := ⟨_, rfl⟩
    rw [← hCO] at HMD2
    have HCS : Hid (∀ i : Nat, CO (i + 1) = CO i ++ [⟨(i : Int), signS (seedS ((i : Int) + 1)) ix (bodyS tagCo ⟨(k : Int), RT⟩)⟩]) := Lib.hid (fun i => by rw [hCO]; exact cosL_succ _ _ i)
    have HCL : Hid (∀ i : Nat, (CO i).length = i) := Lib.hid (fun i => by rw [hCO]; exact cosL_length _ _ i)
    have HCB := Lib.hid (fun (wz : World) (hz : Bys wz (.slice A5 RT.length c5) RT) => rckcosign_any (.agg #[.int .i64 (k : Int), .slice A5 RT.length c5]) ⟨(k : Int), RT⟩ (show RT.length ≤ 1000000000 by omega) wz ⟨_, rfl, hz⟩)
    change Hid (∀ (wz : World), _ → Calls Tryz.prog _ _ wz fun e w' => ∃ v', e = .returned v' ∧ Bys w' v' (bodyS tagCo ⟨(k : Int), RT⟩) ∧ Below wz.heap.size wz w') at HCB
    have hMCl : (bodyS tagCo ⟨(k : Int), RT⟩).length ≤ 1000000000 := by
     have := bodyS_length tagCo ⟨(k : Int), RT⟩
     have h2 : (CkD.mk (k : Int) RT).root.length = RT.length := rfl
     have h3 : tagCo.length = 17 := rfl
     omega
    generalize bodyS tagCo ⟨(k : Int), RT⟩ = MC at *
    have HSI := Lib.hid (fun (i b9 : Nat) (wz : World) (vm : Value) (hz : OwnerS S wz b9 (seedS ((i : Int) + 1))) (hm : Bys wz vm MC) => rosign_s S b9 vm (seedS ((i : Int) + 1)) MC ix HIX.out.1 HIX.out.2 (by rw [seedS_length]; decide) hMCl wz hz hm)
    have HM0 : Hid (Ml2 (fun g => g ≠ w.heap.size + 1) wc wc bb ⟨IT, ⟨(ki : Int), (k : Int), PL⟩, ⟨⟨(k : Int), RT⟩, SG⟩, CO 0⟩) := Lib.hid (by
     have e : CO 0 = [] := by rw [hCO]; rfl
     rw [e]
     exact ⟨Chg.refl _ _, _, _, _, _, _, _, q3, q4.own rfl⟩)
    clear q1 q2 q3 q4 hMCl hCO H11 HMD HRT HRT2 HINC HBD HSGN HCK H6 HS0 HNI HKI HSGE HIXE HRTE
    clear m p r q s
    go_wp2
    go_loopw [12] (fun v12 wr2 => ∃ i : Nat, v12 = .int .i64 (i : Int) ∧ i ≤ M ∧ Hid (Ml2 (fun g => g ≠ w.heap.size + 1) wc wr2 bb ⟨IT, ⟨(ki : Int), (k : Int), PL⟩, ⟨⟨(k : Int), RT⟩, SG⟩, CO i⟩)) (fun v _ => M - (intOf v).toNat)
    case atStart => exact ⟨0, rfl, Nat.zero_le _, HM0⟩
    case round =>
     clear HM0
     obtain ⟨i, rfl, hi, HJ2⟩ := hrel
     obtain ⟨q1, m, p, r, q, s, c, q3, q4⟩ := HJ2.out
     obtain ⟨Am, cm, rfl⟩ := q4.1.1.form
     obtain ⟨Ap, cp, rfl⟩ := q4.2.1.rws.form
     obtain ⟨Ar, cr, rfl⟩ := q4.2.2.1.1.form
     obtain ⟨Aq, cq, rfl⟩ := q4.2.2.2.1.rws.form
     obtain ⟨As, cs, rfl⟩ := q4.2.2.2.2.1.rws.form
     obtain ⟨C, cc, hc⟩ := q4.2.2.2.2.2.form
     rw [show (⟨IT, ⟨(ki : Int), (k : Int), PL⟩, ⟨⟨(k : Int), RT⟩, SG⟩, CO i⟩ : BunD).cos.length = i from HCL.out i] at hc
     subst hc
     have HX2 := HWC.out.2.2.2.1.chg q1 (by have := HWC.out.2.2.2.1.lt; have := hsr; omega)
     have x2 := HX2.cell 2 _ rfl
     have HQ := Lib.hid (And.intro q1 (And.intro q3 (And.intro q4 HX2)))
     have hszr := q1.size
     clear q1 q3 q4 HX2 HJ2
     have hkk : ((kk + 1 : Nat) : Int) - 1 = (kk : Int) := by omega
     by_cases hlt : i < M
     ·have hltI : ((i : Nat) : Int) < ((M : Nat) : Int) := by omega
      go_wp2_with fail
      refine (HWM.out _).mono ?_
      rintro e w' ⟨rfl, rfl⟩
      clear x2
      obtain ⟨g9, o9, b9, e9, hg9, -, -, hc9, ho9⟩ := HWC.out.2.2.2.2.2.1.at' (i + 1) (by omega)
      injection e9 with e9
      injection e9 with e9a e9b
      subst e9a e9b
      rw [show ((i + 1 : Nat) : Int) = (i : Int) + 1 by omega] at ho9
      have hgo1 := HGG.out.2.1
      have hsw := HOW6.out.2
      have hne9 : go ≠ bb := by have := hsr; omega
      have hwcr : Chg wc wr (fun k => k = bb) := HQ.out.1
      have p9 := (hwcr.cell (a := ⟨go, oo + (i + 1), none⟩) hg9 hne9).trans hc9
      have ho9r := ho9.chg hwcr (fun g hg e => by have h1 := hsw g hg; have h2 : g = bb := e; have := hsr; omega)
      have hckr := HWC.out.2.2.1.chg hwcr (by omega)
      have hrtr : Bys wr (.slice A5 RT.length c5) RT := (show BysF (fun g => g < w6.heap.size) wc (.slice A5 RT.length c5) RT from ⟨HWC.out.2.2.2.2.2.2, HR5.out⟩).chg hwcr (fun g hg e => by have h1 : g < w6.heap.size := hg; have h2 : g = bb := e; omega) |>.1
      have hcbw := HQ.out.2.1
      have HCK2 : Hid (∀ W, Below wr.heap.size wr W → W.cell? ⟨bb, 9, none⟩ = some (.slice C i cc) ∧ W.cell? ⟨go, oo + (i + 1), none⟩ = some (.pointer (some ⟨b9, 0, none⟩)) ∧ W.cell? ⟨w5.heap.size, 0, none⟩ = some (.int .i64 (k : Int)) ∧ W.cell? ⟨w5.heap.size, 1, none⟩ = some (.slice A5 RT.length c5)) := Lib.hid (fun W hW => ⟨(hcbw.below hW).cell 9 _ rfl, (hW.cell (p := ⟨go, oo + (i + 1), none⟩) (show go < wr.heap.size by omega)).trans p9, (hckr.below hW).cell 0 _ rfl, (hckr.below hW).cell 1 _ rfl⟩)
      have HQ2 := Lib.hid (And.intro ho9r hrtr)
      have HS14 : Hid (Below wr.heap.size wr wr.drew) := Lib.hid (Below.refl _ _).drew
      obtain ⟨us, o1, o2⟩ := HQ.out.2.2.1.2.2.2.2.2
      rw [show (⟨IT, ⟨(ki : Int), (k : Int), PL⟩, ⟨⟨(k : Int), RT⟩, SG⟩, CO i⟩ : BunD).cos.length = i from HCL.out i] at o1
      have HO1 := Lib.hid (And.intro o1 o2)
      have HC1 := Lib.hid (HCS.out i)
      have HCI := Lib.hid (HCL.out i)
      have HSI1 := Lib.hid (HSI.out i b9)
      have hbw2 := hcbw.lt
      have hi1 : IntKind.i64.wrap ((i : Int) + 1) = (i : Int) + 1 := IntWalk.i64_in _ (by omega)
      have hi2 : ((i : Int) + 1).toNat = i + 1 := by omega
      have hi3 : (i : Int) + 1 < ((kk + 1 : Nat) : Int) := by omega
      have hi3' : (i : Int) + 1 < (kk : Int) + 1 := by omega
      have hi4 : (0 : Int) ≤ (i : Int) + 1 := by omega
      clear p9 ho9r hckr hrtr hcbw o1 o2 hc9 ho9 hwcr
      generalize seedS ((i : Int) + 1) = SEi at *
      generalize signS SEi ix MC = SI at *
      go_upto_region 14 with fail
      refine wp_region_drewT 16 (S := fun w' => w'.cell? ⟨bb, 9, none⟩ = some (.slice C i cc) ∧ w'.cell? ⟨go, oo + (i + 1), none⟩ = some (.pointer (some ⟨b9, 0, none⟩)) ∧ w'.cell? ⟨w5.heap.size, 0, none⟩ = some (.int .i64 (k : Int)) ∧ w'.cell? ⟨w5.heap.size, 1, none⟩ = some (.slice A5 RT.length c5)) (by kernel_rfl) (HCK2.out _ HS14.out) (fun hHeld => ?_)
      generalize wr.drew = wd at *
      refine tt 0 72 rfl rfl ?_; simp only [sa, sb, sc]
      refine tt 1 73 rfl rfl ?_; simp only [sa, sb, sc]
      refine tt 2 74 rfl rfl ?_; simp only [sa, sb, sc]
      refine tt 3 75 rfl rfl ?_; simp only [sa, sb, sc]
      refine tt 4 76 rfl rfl ?_; simp only [sa, sb, sc]
      refine tt 5 77 rfl rfl ?_; simp only [sa, sb, sc]
      refine tt 6 78 rfl rfl ?_; simp only [sa, sb, sc]
      refine tt 7 79 rfl rfl ?_; simp only [sa, sb, sc]
      refine tt 8 80 rfl rfl ?_; simp only [sa, sb, sc]
      refine tt 9 81 rfl rfl ?_; simp only [sa, sb, sc]
      refine tt 10 82 rfl rfl ?_; simp only [sa, sb, sc]
      refine wpAnyT_ready (rs := [11]) (by kernel_rfl) (by simp) (.cons rfl (fun K hK => ?_) .nil)
      go_simp
      go_at_call 36
      refine (HCB.out _ (HQ2.out.2.below HS14.out)).mono ?_
      rintro e w2' ⟨v11, rfl, h1, h2⟩
      have H11 := Lib.hid h1
      have HS2 := Lib.hid (HS14.out.trans (h2.mono HS14.out.size))
      clear h1 h2
      try dsimp only
      refine hK.out _ _ (fun _ => (HCK2.out _ HS2.out)) (fun hHeld11' => ?_)
      have hHeld11 := hHeld11' (by decide)
      clear hHeld11'
      clear hK K; try simp only [Act.put, sa, sb, sc]
      refine wpAnyT_ready (rs := [12]) (by kernel_rfl) (by simp) (.cons rfl (fun K hK => ?_) .nil)
      go_simp
      go_at_call 35
      refine (HSI1.out _ _ (HQ2.out.1.chg (Chg.of_below (S := fun _ => False) HS2.out) (fun _ _ h => h)) H11.out).mono ?_
      rintro e w3 ⟨v12, rfl, h1, h2⟩
      obtain ⟨vp, vq, rfl, k1, k2⟩ := h1
      obtain ⟨P7, cp7, rfl⟩ := k1.rws.form
      obtain ⟨Q7, cq7, rfl⟩ := k2.rws.form
      have hs22 := HS2.out.size
      have HS3 := Lib.hid (HS2.out.trans (h2.mono HS2.out.size))
      have hCb : ∀ g, (Value.slice C i cc).ownBlock = some g → wc.heap.size ≤ g ∧ g < wr.heap.size := fun g hg => World.ownsRow.lt HO1.out.1 g hg
      have HN3 : Hid (CgRow (fun g => (g ≠ bb ∧ g ≠ w.heap.size + 1) ∧ (Value.slice C i cc).ownBlock ≠ some g) w3 [.int .i64 (i : Int), .int .i64 SI.index, .slice P7 SI.parts.length cp7, .slice Q7 SI.path.length cq7] [⟨(i : Int), SI⟩]) := Lib.hid (by
       have hf : ∀ g, (S g ∨ (w2'.heap.size ≤ g ∧ g < w3.heap.size)) → (g ≠ bb ∧ g ≠ w.heap.size + 1) ∧ (Value.slice C i cc).ownBlock ≠ some g := fun g hg => by
        have h8 := hsr
        have h9 := hs4
        refine hg.elim (fun h => ?_) (fun h => ?_)
        ·have := hsw g h
         exact ⟨⟨by omega, by omega⟩, fun e => by have := hCb g e; omega⟩
        ·exact ⟨⟨by omega, by omega⟩, fun e => by have := hCb g e; omega⟩
       refine ⟨rfl, fun j hj => ?_⟩
       obtain rfl : j = 0 := by simpa using hj
       exact ⟨_, _, rfl, rfl, rfl, rfl, k1.mono hf, k2.mono hf⟩)
      clear h2 k1 k2
      try dsimp only
      refine hK.out _ _ (fun _ => (HCK2.out _ HS3.out)) (fun hHeld12' => ?_)
      have hHeld12 := hHeld12' (by decide)
      clear hHeld12'
      clear hK K; try simp only [Act.put, sa, sb, sc]
      refine tt 13 85 rfl rfl ?_; simp only [sa, sb, sc]
      refine wpAnyT_ready (rs := [14]) (by kernel_rfl) (by simp) (.cons rfl (fun K hK => ?_) .nil)
      go_simp
      obtain ⟨b14, hb14⟩ : ∃ b : Nat, b = w3.heap.size := ⟨_, rfl⟩
      obtain ⟨w4', hV⟩ : ∃ V : World, V = w3.alloc (.cells #[.int .i64 (i : Int), .int .i64 SI.index, .slice P7 SI.parts.length cp7, .slice Q7 SI.path.length cq7] 89) := ⟨_, rfl⟩
      have k3 : Below w3.heap.size w3 w4' := by rw [hV]; exact (Below.refl _ _).alloc (Nat.le_refl _) _
      have HN4 : Hid (CgRow (fun g => (g ≠ bb ∧ g ≠ w.heap.size + 1) ∧ (Value.slice C i cc).ownBlock ≠ some g) w4' [.int .i64 (i : Int), .int .i64 SI.index, .slice P7 SI.parts.length cp7, .slice Q7 SI.path.length cq7] [⟨(i : Int), SI⟩] ∧ NewsOf w4' (.slice (some ⟨b14, 0, none⟩) 1 1) 1 4 [.int .i64 (i : Int), .int .i64 SI.index, .slice P7 SI.parts.length cp7, .slice Q7 SI.path.length cq7]) := Lib.hid (by
       refine ⟨HN3.out.chg (Chg.of_below (S := fun _ => False) k3) (fun _ _ h => h), ?_⟩
       rw [hb14, hV]
       exact Sho.news (Sho.new w3 89 [.int .i64 (i : Int), .int .i64 SI.index, .slice P7 SI.parts.length cp7, .slice Q7 SI.path.length cq7] 1 4 1 rfl (Nat.le_refl _) (by decide)) HN3.out.ones)
      have HS4 := Lib.hid (HS3.out.trans (k3.mono HS3.out.size))
      have HB14 : Hid (wr.heap.size ≤ b14) := Lib.hid (by rw [hb14]; exact HS3.out.size)
      rw [← hV, ← hb14]
      clear hV k3 hb14
      refine hK.out _ _ (fun _ => (HCK2.out _ HS4.out)) (fun hHeld14' => ?_)
      have hHeld14 := hHeld14' (by decide)
      clear hHeld14'
      clear hK K; try simp only [Act.put, sa, sb, sc]
      refine wpAnyT_ready (rs := [15]) (by kernel_rfl) (by simp) (.cons rfl (fun K hK => ?_) .nil)
      skip
      refine step_append_lie (by rfl) (.tmp 73) (.tmp 86) 40 (by rfl) wc.heap.size 89 j0 (.agg #[.int .i64 0, .int .i64 0, .slice none 0 0, .slice none 0 0]) 4 64 Tryz.underlying40 hj0 hy0 hy1 hy2 rfl (by omega) _ i us (by rfl) (ownsRow_chg HO1.out.1 (Chg.of_below (S := fun _ => False) HS4.out) (fun _ _ h => h)) _ 1 [.int .i64 (i : Int), .int .i64 SI.index, .slice P7 SI.parts.length cp7, .slice Q7 SI.path.length cq7] (by rfl) HN4.out.2 (by unfold maxLen; omega) (by omega) (by have := HS4.out.size; omega) ?_
      intro v5 W5 hown5 hgrow5 hlie5
      have hc5 : Chg w4' W5 (fun k => (Value.slice C i cc).ownBlock = some k) := (Chg.of_grown hgrow5).mono (fun _ _ h => h.symm)
      have hC4 : CgRow (fun g => (g ≠ bb ∧ g ≠ w.heap.size + 1) ∧ (Value.slice C i cc).ownBlock ≠ some g) w4' us (CO i) := HO1.out.2.chg (Chg.of_below (S := fun _ => False) HS4.out) (fun _ _ h => h)
      have hpush : CosO (fun g => g ≠ bb ∧ g ≠ w.heap.size + 1) W5 wc.heap.size v5 (CO i ++ [⟨(i : Int), SI⟩]) := CosO.push hC4 HN4.out.1 (by rw [HCI.out]; exact hown5) hc5 hlie5
      have hrow := (HQ.out.2.2.1.below HS4.out).row hc5 hlie5 hpush
      rw [← HC1.out] at hrow hpush
      obtain ⟨A9', c9', hv5⟩ := (Sho.own hown5).form
      subst hv5
      have hbk5 : Blk W5 bb 42 [.slice Am IT.length cm, .int .i64 (ki : Int), .int .i64 (k : Int), .slice Ap PL.length cp, .int .i64 (k : Int), .slice Ar RT.length cr, .int .i64 SG.index, .slice Aq SG.parts.length cq, .slice As SG.path.length cs, .slice C i cc] := (HQ.out.2.1.below HS4.out).chg hc5 (fun e => by have := hCb bb e; omega)
      have H5 := Lib.hid (And.intro hrow (And.intro hbk5 (And.intro hc5 (World.ownsRow.lt hown5))))
      have q9 := hbk5.cell 9 _ rfl
      have f9 := hbk5.free 9
      have hck5 : W5.cell? ⟨go, oo + (i + 1), none⟩ = some (.pointer (some ⟨b9, 0, none⟩)) ∧ W5.cell? ⟨w5.heap.size, 0, none⟩ = some (.int .i64 (k : Int)) ∧ W5.cell? ⟨w5.heap.size, 1, none⟩ = some (.slice A5 RT.length c5) := by
       obtain ⟨-, e1, e2, e3⟩ := HCK2.out _ HS4.out
       have hz4 := HS4.out.size
       refine ⟨(hc5.cell (a := ⟨go, oo + (i + 1), none⟩) (show go < w4'.heap.size by omega) (fun e => ?_)).trans e1, (hc5.cell (a := ⟨w5.heap.size, 0, none⟩) (show w5.heap.size < w4'.heap.size by omega) (fun e => ?_)).trans e2, (hc5.cell (a := ⟨w5.heap.size, 1, none⟩) (show w5.heap.size < w4'.heap.size by omega) (fun e => ?_)).trans e3⟩
       ·have := (hCb go e).1; omega
       ·have := (hCb w5.heap.size e).1; omega
       ·have := (hCb w5.heap.size e).1; omega
      clear hown5 hgrow5 hlie5 hc5 hC4 hpush hrow hbk5
      simp only [Act.put, List.getElem_toArray, List.getElem_cons_succ, List.getElem_cons_zero, List.setIfInBounds_toArray, List.set_cons_zero, List.set_cons_succ]
      refine hK.out _ _ (fun _ => ⟨q9, hck5⟩) (fun hHeld15' => ?_)
      have hHeld15 := hHeld15' (by decide)
      clear hHeld15'
      clear hK K; try simp only [Act.put, sa, sb, sc]
      refine tl 16 88 rfl rfl ?_; simp only [sa, sb, sc]
      refine wpAnyT_ready (rs := [17]) (by kernel_rfl) (by simp) (.cons rfl (fun K hK => ?_) .nil)
      go_simp
      refine hK.out _ _ (fun h => absurd h (by decide)) (fun _ => ?_)
      clear hK K; try simp only [Act.put, sa, sb, sc]
      refine wpAnyT_done (by kernel_rfl) ?_ _
      clear hHeld q9 f9 hck5
      go_wp2
      have hst : Chg W5 (W5.setCell ⟨bb, 9, none⟩ (.slice A9' (i + 1) c9')) (fun k => k = bb) := chg_cell (Chg.refl _ _) 9 _
      have HN : Hid (Ml2 (fun g => g ≠ w.heap.size + 1) wc (W5.setCell ⟨bb, 9, none⟩ (.slice A9' (i + 1) c9')) bb ⟨IT, ⟨(ki : Int), (k : Int), PL⟩, ⟨⟨(k : Int), RT⟩, SG⟩, CO (i + 1)⟩) := Lib.hid ⟨((HQ.out.1.trans (Chg.of_below (S := fun k => k = bb) HS4.out) (fun _ _ h => h)).trans H5.out.2.2.1 (fun j hj h => by have h9 := (hCb j h).1; omega)).trans hst (fun _ _ h => h), _, _, _, _, _, _, H5.out.2.1.set 9 _ (by simp), H5.out.1.chg hst (fun g _ hg _ e => hg.1 e) (fun g hg e => by have h9 := (H5.out.2.2.2 g hg).1; have h8 : g = bb := e; omega)⟩
      clear hst
      go_roundw
      case rel => exact ⟨i + 1, by go_num, by omega, HN⟩
      case measure => simp [intOf]; omega
     ·obtain rfl : i = M := by omega
      have hnl : ¬ ((i : Nat) : Int) < ((i : Nat) : Int) := by omega
      have hcb9 := HQ.out.2.1
      have hwcr : Chg wc wr (fun k => k = bb) := HQ.out.1
      have hzbr := HWC.out.2.2.2.2.1.chg hwcr (by have := hsr; omega)
      have HZR := Lib.hid (And.intro hzbr (HWC.out.2.1.trans (hwcr.below (by have := HWC.out.2.1.size; omega) (fun j hj => by have h1 : j = bb := hj; have := hsr; omega))))
      have c0' := hcb9.cell 0 _ rfl
      have c1' := hcb9.cell 1 _ rfl
      have c2' := hcb9.cell 2 _ rfl
      have c3' := hcb9.cell 3 _ rfl
      have c4' := hcb9.cell 4 _ rfl
      have c5' := hcb9.cell 5 _ rfl
      have c6' := hcb9.cell 6 _ rfl
      have c7' := hcb9.cell 7 _ rfl
      have c8' := hcb9.cell 8 _ rfl
      have c9' := hcb9.cell 9 _ rfl
      have HX3 := HQ.out.2.2.2
      have x0 := HX3.cell 0 _ rfl
      have x1 := HX3.cell 1 _ rfl
      have x3 := HX3.cell 3 _ rfl
      have x4 := HX3.cell 4 _ rfl
      have x5 := HX3.cell 5 _ rfl
      have HWR := Lib.hid (wrong_any (fun g => g ≠ bb ∧ g ≠ w.heap.size + 1) wc.heap.size x ⟨IT, ⟨(ki : Int), (k : Int), PL⟩, ⟨⟨(k : Int), RT⟩, SG⟩, CO i⟩ (.slice Am IT.length cm) (.slice Ap PL.length cp) (.slice Ar RT.length cr) (.slice Aq SG.parts.length cq) (.slice As SG.path.length cs) (.slice C i cc) wr (by omega) (fun g hg => ⟨by omega, by have := hsr; omega⟩) HQ.out.2.2.1 ⟨by show (0 : Int) ≤ (ki : Int); omega, by show (ki : Int) ≤ 1000; omega⟩ ⟨by show (0 : Int) ≤ (k : Int); omega, by show (k : Int) ≤ 1000; omega⟩ ⟨by show (0 : Int) ≤ (k : Int); omega, by show (k : Int) ≤ 1000; omega⟩ ⟨HITL.out.1, Nat.le_trans HITL.out.2 (by decide)⟩ (by rw [show (⟨IT, ⟨(ki : Int), (k : Int), PL⟩, ⟨⟨(k : Int), RT⟩, SG⟩, CO i⟩ : BunD).cos.length = i from HCL.out i]; omega) hPLl)
      rw [← HMD2.out] at HWR
      have hzlt := HWC.out.2.2.2.2.1.lt
      clear hzbr hcb9 HX3 hwcr HCS HSI HCB HCL HWC
      dsimp only at HWR
      go_wp2_with fail
      refine (HWM.out _).mono ?_
      rintro e w' ⟨rfl, rfl⟩
      go_wp2_with fail
      refine HWR.out.mono ?_
      rintro e w9 ⟨m', p', r', q', s', c', rfl, h1, h2⟩
      obtain ⟨Am', cm', rfl⟩ := h1.1.1.form
      obtain ⟨Ap', cp', rfl⟩ := h1.2.1.rws.form
      obtain ⟨Ar', cr', rfl⟩ := h1.2.2.1.1.form
      obtain ⟨Aq', cq', rfl⟩ := h1.2.2.2.1.rws.form
      obtain ⟨As', cs', rfl⟩ := h1.2.2.2.2.1.rws.form
      obtain ⟨C', cc', rfl⟩ := h1.2.2.2.2.2.cgsv.form
      have hzb9 : Blk w9 (w.heap.size + 1) 42 [.slice none 0 0, .int .i64 0, .int .i64 0, .slice none 0 0, .int .i64 0, .slice none 0 0, .int .i64 0, .slice none 0 0, .slice none 0 0, .slice none 0 0] := (h2.block _ hzlt).trans HZR.out.1
      have y0 := hzb9.free 0
      have z0 := hzb9.cell 0 _ rfl
      have y1 := hzb9.free 1
      have z1 := hzb9.cell 1 _ rfl
      have y2 := hzb9.free 2
      have z2 := hzb9.cell 2 _ rfl
      have y3 := hzb9.free 3
      have z3 := hzb9.cell 3 _ rfl
      have y4 := hzb9.free 4
      have z4 := hzb9.cell 4 _ rfl
      have y5 := hzb9.free 5
      have z5 := hzb9.cell 5 _ rfl
      have y6 := hzb9.free 6
      have z6 := hzb9.cell 6 _ rfl
      have y7 := hzb9.free 7
      have z7 := hzb9.cell 7 _ rfl
      have y8 := hzb9.free 8
      have z8 := hzb9.cell 8 _ rfl
      have y9 := hzb9.free 9
      have z9 := hzb9.cell 9 _ rfl
      have H9 := Lib.hid (And.intro h1 (And.intro h2 hzb9))
      clear h1 h2 hzb9
      go_wp2
      clear y0 z0 y1 z1 y2 z2 y3 z3 y4 z4 y5 z5 y6 z6 y7 z7 y8 z8 y9 z9
      have hst := bunC_store H9.out.2.2 (.slice Am' MDD.man.length cm') (.int .i64 MDD.prf.index) (.int .i64 MDD.prf.size) (.slice Ap' MDD.prf.path.length cp') (.int .i64 MDD.sg.ck.num) (.slice Ar' MDD.sg.ck.root.length cr') (.int .i64 MDD.sg.sig.index) (.slice Aq' MDD.sg.sig.parts.length cq') (.slice As' MDD.sg.sig.path.length cs') (.slice C' MDD.cos.length cc') _ rfl
      have HS := Lib.hid hst
      clear hst
      refine bodyPost_ret (v := .agg [.slice Am' MDD.man.length cm', .int .i64 MDD.prf.index, .int .i64 MDD.prf.size, .slice Ap' MDD.prf.path.length cp', .int .i64 MDD.sg.ck.num, .slice Ar' MDD.sg.ck.root.length cr', .int .i64 MDD.sg.sig.index, .slice Aq' MDD.sg.sig.parts.length cq', .slice As' MDD.sg.sig.path.length cs', .slice C' MDD.cos.length cc'].toArray) ?_ ?_ ⟨_, rfl, ?_, ?_⟩
      ·exact results_cell_row Tryz.results12 _ _ (w.heap.size + 1) 42 _ (0, 0) _ rfl HS.out.1 under_bun rfl size_bun
      ·rfl
      ·exact ⟨_, _, _, _, _, _, rfl, (H9.out.1.chg HS.out.2 (fun g hg e => hg.2 e)).bunx⟩
      ·have hw9 := H9.out.2.1.size
       exact (HZR.out.2.trans (H9.out.2.1.mono (by have := HZR.out.2.size; omega))).trans (HS.out.2.below (by have := HZR.out.2.size; omega) (fun j hj => by have e : j = w.heap.size + 1 := hj; omega))
end Go.Proofs.YtgeplpdcnanmnaaGreat
