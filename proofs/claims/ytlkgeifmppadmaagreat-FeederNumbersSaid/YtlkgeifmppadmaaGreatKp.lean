/- FeederPlays: the walk of play. Conditions: as each theorem states them. -/
import Derived.Test.YtlkgeifmppadmaaGreatKo
import Derived.Deep.DeepCutAuto
import Derived.Deep.CutBlock
namespace Go.Proofs.YtlkgeifmppadmaaGreat
open Go.RowKit
set_option linter.unusedVariables false
set_option linter.unusedSimpArgs false

set_option maxRecDepth 100000 in
set_option maxHeartbeats 16000000 in
theorem fplay_any (kn : Nat) (q retry : Int) (hk1 : 1 ≤ kn) (hk3 : kn ≤ 3) (hq1 : 1 ≤ q) (hqk : q ≤ (kn : Int)) (hr1 : 1 ≤ retry) (hr2 : retry ≤ 100) (A : Option Addr) (c : Nat) (l : List AskE) (w : World) (hx : ArgAskE w A l) :
  Calls Tryz.prog 17 #[.int .i64 kn, .int .i64 q, .int .i64 retry, .slice A l.length c] w fun e w' => e = .returned (.bool true) ∧ Below w.heap.size w w' := by
 have HX := Lib.hid hx
 clear hx
 have HO := Lib.hid (fun wz : World => owners_any kn (by omega) wz)
 have HPO := Lib.hid (fun (wz : World) (S : Nat → Prop) (v : Value) (z1 : OwnersS S wz v (kn + 1)) (z2 : ∀ g, S g → g < wz.heap.size) => lpolicy_f S kn q v (by omega) wz z1 z2)
 have HNW : Hid (∀ (wz : World) (v : Value), PolV wz v (polS kn q) → Calls Tryz.prog 9 #[v, .int .i64 retry] wz fun e w' => ∃ f Z, e = .returned (.tuple #[.pointer (some ⟨f, 0, none⟩), .int .i64 0]) ∧ FdAt Z w' f (fdNew (polS kn q) retry) ∧ (∀ g, Z g → wz.heap.size ≤ g ∧ g < w'.heap.size) ∧ Below wz.heap.size wz w') := Lib.hid (fun wz v z => fnew_yes v (polS kn q) retry (pol_small kn _ (by omega) (by omega) (by omega)) (pol_right kn _ hk1 hk3 (by omega) (by omega)) hr1 hr2 wz z)
 have HSP := Lib.hid (pol_small kn q (by omega) (by omega) (by omega))
 have HPP : Hid ((polS kn q).wits.length = kn) := Lib.hid (witS_length kn)
 have hj0 := PlJ.start (polS kn q) retry
 rw [HPP.out] at hj0
 have HJ0 := Lib.hid hj0
 have HMK := Lib.hid (fun (D : Nat → Prop) (wz : World) (pl pw : Value) (tb rb : Nat) (h1 : BysF D wz pl (polS kn q).log) (h2 : RwsF D wz pw (polS kn q).wits) (h3 : Blk wz tb 3 (intsV (List.replicate kn 0))) (h4 : Blk wz rb 3 (intsV (List.replicate kn 0))) (hne : tb ≠ rb) (hD : ∀ g, D g → g ≠ tb ∧ g ≠ rb ∧ g < wz.heap.size) => mk_model (re := retry) h1 h2 h3 h4 hne hD)
 have HMI := Lib.hid (fun wz : World => make_ints kn (by omega) wz)
 have HPQ : Hid ((polS kn q).quorum = q) := Lib.hid rfl
 clear hj0
 generalize fdNew (polS kn q) retry = d0 at *
 generalize hP : polS kn q = P at *
 clear hP
 go_enter Tryz.func17, Tryz.ntmps17
 go_wp2_with fail
 refine (HO.out _).mono ?_
 rintro e w1 ⟨v1, rfl, h1, h2⟩
 obtain ⟨A1, c1, rfl⟩ := h1.form
 have H1 := Lib.hid (And.intro h1 h2)
 clear h1 h2
 go_wp2_with fail
 refine (HPO.out _ _ _ H1.out.1 (fun g hg => hg.2)).mono ?_
 rintro e w2 ⟨v2, rfl, h1, h3⟩
 go_wp2_with fail
 refine (HNW.out _ _ h1.polv).mono ?_
 rintro e w3 ⟨f, Z, rfl, k1, k2, k3⟩
 have H2 := Lib.hid h3
 have H3 := Lib.hid (And.intro k1 (And.intro k2 (And.intro True.intro k3)))
 have hs12 := h3.size
 have hs23 := k3.size
 clear h1 h3 k1 k2 k3 HNW
 go_wp2_with fail
 go_upto_region 5 with fail
 go_cut [12] (fun v12 wc => ∃ mb tb rb, v12 = .pointer (some ⟨mb, 0, none⟩) ∧ Hid (∃ D, PlW (fun g => w.heap.size ≤ g ∧ g < w1.heap.size) Z D w wc (.slice A1 (kn + 1) c1) (kn + 1) f mb tb rb d0 ⟨P, retry, zSg, false, List.replicate kn 0, List.replicate kn 0, [], [], zSg, false, []⟩))
 case first =>
  refine wp_region_held_drew (S := fun _ => True) (by kernel_rfl) True.intro (fun hHeld => ?_)
  refine ty 0 41 rfl rfl ?_; simp only [sa, sb, sc]
  refine ty 1 42 rfl rfl ?_; simp only [sa, sb, sc]
  refine ty 3 44 rfl rfl ?_; simp only [sa, sb, sc]
  refine ty 4 45 rfl rfl ?_; simp only [sa, sb, sc]
  refine ty 6 47 rfl rfl ?_; simp only [sa, sb, sc]
  refine wpAnyH_ready (rs := [2, 5, 7]) (by kernel_rfl) (by simp) ?_
  refine AllReadyH.cons rfl (fun K hK => ?w5_2) (AllReadyH.cons rfl (fun K hK => ?w5_5) (AllReadyH.cons rfl (fun K hK => ?w5_7) AllReadyH.nil))
  case' w5_7 =>
   go_simp
   rw [HMI.out (w3.drew)]
   try dsimp only
   obtain ⟨W7, hW7⟩ : ∃ W7 : World, W7 = (w3.drew).alloc (.cells (intsV (List.replicate kn 0)).toArray 3) := ⟨_, rfl⟩
   have k3 : Below (w3.drew).heap.size (w3.drew) W7 := by rw [hW7]; exact (Below.refl _ _).alloc (Nat.le_refl _) _
   have HT7 : Hid (Blk W7 (w3.drew).heap.size 3 (intsV (List.replicate kn 0))) := Lib.hid (by rw [hW7]; exact Blk.new _ _ _)
   rw [← hW7]
   clear hW7
   have HB1 := Lib.hid (((Below.refl w3.heap.size w3).drew).trans (k3.mono ((Below.refl w3.heap.size w3).drew).size))
   have sz1 : (w3.drew).heap.size < W7.heap.size := HT7.out.lt
   have sl7 : w3.heap.size ≤ (w3.drew).heap.size := ((Below.refl w3.heap.size w3).drew).size
   clear k3
   refine hK.out _ _ True.intro (fun hHeld7 => ?_)
   clear hK K; try simp only [Act.put, sa, sb, sc]
   refine wpAnyH_ready (rs := [2, 5]) (by kernel_rfl) (by simp) ?_
   refine AllReadyH.cons rfl (fun K hK => ?w5_7_2) (AllReadyH.cons rfl (fun K hK => ?w5_7_5) AllReadyH.nil)
   case' w5_7_5 =>
    go_simp
    rw [HMI.out (W7)]
    try dsimp only
    obtain ⟨W7_5, hW7_5⟩ : ∃ W7_5 : World, W7_5 = (W7).alloc (.cells (intsV (List.replicate kn 0)).toArray 3) := ⟨_, rfl⟩
    have k3 : Below (W7).heap.size (W7) W7_5 := by rw [hW7_5]; exact (Below.refl _ _).alloc (Nat.le_refl _) _
    have HT5 : Hid (Blk W7_5 (W7).heap.size 3 (intsV (List.replicate kn 0))) := Lib.hid (by rw [hW7_5]; exact Blk.new _ _ _)
    rw [← hW7_5]
    clear hW7_5
    have HB2 := Lib.hid ((HB1.out).trans (k3.mono (HB1.out).size))
    have sz2 : (W7).heap.size < W7_5.heap.size := HT5.out.lt
    have sl5 : w3.heap.size ≤ (W7).heap.size := (HB1.out).size
    have HT7' := Lib.hid (HT7.out.below k3)
    clear HT7
    have HT7 := HT7'
    clear HT7'
    clear k3
    refine hK.out _ _ True.intro (fun hHeld5 => ?_)
    clear hK K; try simp only [Act.put, sa, sb, sc]
    refine rd 2 (by kernel_rfl) rfl (fun K hK => ?_)
    go_simp
    go_at_call 8
    refine (HPO.out W7_5 _ _ (((H1.out.1.below H2.out).below H3.out.2.2.2).below HB2.out) (fun g hg => by have h9 := hg.2; have h8 : w3.heap.size ≤ (W7_5).heap.size := (HB2.out).size; omega)).mono ?_
    rintro e W7_5_2 ⟨v4, rfl, ⟨pl, pw, rfl, k1, k2⟩, k3⟩
    obtain ⟨PL, plc, rfl⟩ := k1.1.form
    obtain ⟨PW, pwc, rfl⟩ := k2.rws.form
    have HB3 := Lib.hid ((HB2.out).trans (k3.mono (HB2.out).size))
    have HPV := Lib.hid (And.intro k1 k2)
    have sz3 := k3.size
    have szl : w3.heap.size ≤ (W7_5).heap.size := (HB2.out).size
    have HT7' := Lib.hid (HT7.out.below k3)
    clear HT7
    have HT7 := HT7'
    clear HT7'
    have HT5' := Lib.hid (HT5.out.below k3)
    clear HT5
    have HT5 := HT5'
    clear HT5'
    clear k1 k2 k3
    go_wp2_with fail
    refine hK.out _ _ True.intro (fun hHeld2 => ?_)
    clear hK K; try simp only [Act.put, sa, sb, sc]
    refine ty 8 49 rfl rfl ?_; simp only [sa, sb, sc]
    refine rd 9 (by kernel_rfl) rfl (fun K hK => ?_)
    go_simp
    refine hK.out _ _ True.intro (fun hHeld9 => ?_)
    clear hK K; try simp only [Act.put, sa, sb, sc]
    refine ty 10 12 rfl rfl ?_; simp only [sa, sb, sc]
    refine wpAnyH_done (by kernel_rfl) ?_ _
    clear hHeld hHeld2 hHeld5 hHeld7 hHeld9
    have hM := HMK.out _ W7_5_2 _ _ (W7).heap.size (w3.drew).heap.size HPV.out.1 HPV.out.2 HT5.out HT7.out (by omega) (fun g hg => by
     have h3 := H3.out.2.2.2.size
     rcases hg with hg | hg
     ·have := hg.2; exact ⟨by omega, by omega, by omega⟩
     ·have := hg.1; have := hg.2; exact ⟨by omega, by omega, by omega⟩)
    have hbx := (Below.refl (W7_5_2).heap.size W7_5_2).alloc (Nat.le_refl _) (.cells (mCells0 (.slice PL P.log.length plc) (.slice PW P.wits.length pwc) P.quorum retry ((W7).heap.size) ((w3.drew).heap.size) kn).toArray 85)
    have hst := plw_start H1.out.1 H1.out.2 H2.out H3.out.2.2.2 H3.out.1 H3.out.2.1 (HB3.out.trans (hbx.mono HB3.out.size)) hM (fun g hg => by
     have := HB3.out.size
     rcases hg with hg | hg | hg
     ·omega
     ·omega
     ·omega) (fun g hg => by
     rcases hg with hg | hg
     ·exact .inl hg
     ·exact .inr (by have := hg.1; omega))
    go_wp2_with fail
    go_meet
    case rel => exact ⟨_, _, _, rfl, Lib.hid ⟨_, hst⟩⟩
   case' w5_7_2 =>
    go_simp
    go_at_call 8
    refine (HPO.out W7 _ _ (((H1.out.1.below H2.out).below H3.out.2.2.2).below HB1.out) (fun g hg => by have h9 := hg.2; have h8 : w3.heap.size ≤ (W7).heap.size := (HB1.out).size; omega)).mono ?_
    rintro e W7_2 ⟨v4, rfl, ⟨pl, pw, rfl, k1, k2⟩, k3⟩
    obtain ⟨PL, plc, rfl⟩ := k1.1.form
    obtain ⟨PW, pwc, rfl⟩ := k2.rws.form
    have HB2 := Lib.hid ((HB1.out).trans (k3.mono (HB1.out).size))
    have HPV := Lib.hid (And.intro k1 k2)
    have sz2 := k3.size
    have szl : w3.heap.size ≤ (W7).heap.size := (HB1.out).size
    have HT7' := Lib.hid (HT7.out.below k3)
    clear HT7
    have HT7 := HT7'
    clear HT7'
    clear k1 k2 k3
    go_wp2_with fail
    refine hK.out _ _ True.intro (fun hHeld2 => ?_)
    clear hK K; try simp only [Act.put, sa, sb, sc]
    refine rd 5 (by kernel_rfl) rfl (fun K hK => ?_)
    go_simp
    rw [HMI.out (W7_2)]
    try dsimp only
    obtain ⟨W7_2_5, hW7_2_5⟩ : ∃ W7_2_5 : World, W7_2_5 = (W7_2).alloc (.cells (intsV (List.replicate kn 0)).toArray 3) := ⟨_, rfl⟩
    have k3 : Below (W7_2).heap.size (W7_2) W7_2_5 := by rw [hW7_2_5]; exact (Below.refl _ _).alloc (Nat.le_refl _) _
    have HT5 : Hid (Blk W7_2_5 (W7_2).heap.size 3 (intsV (List.replicate kn 0))) := Lib.hid (by rw [hW7_2_5]; exact Blk.new _ _ _)
    rw [← hW7_2_5]
    clear hW7_2_5
    have HB3 := Lib.hid ((HB2.out).trans (k3.mono (HB2.out).size))
    have sz3 : (W7_2).heap.size < W7_2_5.heap.size := HT5.out.lt
    have sl5 : w3.heap.size ≤ (W7_2).heap.size := (HB2.out).size
    have HT7' := Lib.hid (HT7.out.below k3)
    clear HT7
    have HT7 := HT7'
    clear HT7'
    have HPV' := Lib.hid (And.intro (HPV.out.1.below k3) (HPV.out.2.below k3))
    clear HPV
    have HPV := HPV'
    clear HPV'
    clear k3
    refine hK.out _ _ True.intro (fun hHeld5 => ?_)
    clear hK K; try simp only [Act.put, sa, sb, sc]
    refine ty 8 49 rfl rfl ?_; simp only [sa, sb, sc]
    refine rd 9 (by kernel_rfl) rfl (fun K hK => ?_)
    go_simp
    refine hK.out _ _ True.intro (fun hHeld9 => ?_)
    clear hK K; try simp only [Act.put, sa, sb, sc]
    refine ty 10 12 rfl rfl ?_; simp only [sa, sb, sc]
    refine wpAnyH_done (by kernel_rfl) ?_ _
    clear hHeld hHeld2 hHeld5 hHeld7 hHeld9
    have hM := HMK.out _ W7_2_5 _ _ (W7_2).heap.size (w3.drew).heap.size HPV.out.1 HPV.out.2 HT5.out HT7.out (by omega) (fun g hg => by
     have h3 := H3.out.2.2.2.size
     rcases hg with hg | hg
     ·have := hg.2; exact ⟨by omega, by omega, by omega⟩
     ·have := hg.1; have := hg.2; exact ⟨by omega, by omega, by omega⟩)
    have hbx := (Below.refl (W7_2_5).heap.size W7_2_5).alloc (Nat.le_refl _) (.cells (mCells0 (.slice PL P.log.length plc) (.slice PW P.wits.length pwc) P.quorum retry ((W7_2).heap.size) ((w3.drew).heap.size) kn).toArray 85)
    have hst := plw_start H1.out.1 H1.out.2 H2.out H3.out.2.2.2 H3.out.1 H3.out.2.1 (HB3.out.trans (hbx.mono HB3.out.size)) hM (fun g hg => by
     have := HB3.out.size
     rcases hg with hg | hg | hg
     ·omega
     ·omega
     ·omega) (fun g hg => by
     rcases hg with hg | hg
     ·exact .inl hg
     ·exact .inr (by have := hg.1; omega))
    go_wp2_with fail
    go_meet
    case rel => exact ⟨_, _, _, rfl, Lib.hid ⟨_, hst⟩⟩
  case' w5_5 =>
   go_simp
   rw [HMI.out (w3.drew)]
   try dsimp only
   obtain ⟨W5, hW5⟩ : ∃ W5 : World, W5 = (w3.drew).alloc (.cells (intsV (List.replicate kn 0)).toArray 3) := ⟨_, rfl⟩
   have k3 : Below (w3.drew).heap.size (w3.drew) W5 := by rw [hW5]; exact (Below.refl _ _).alloc (Nat.le_refl _) _
   have HT5 : Hid (Blk W5 (w3.drew).heap.size 3 (intsV (List.replicate kn 0))) := Lib.hid (by rw [hW5]; exact Blk.new _ _ _)
   rw [← hW5]
   clear hW5
   have HB1 := Lib.hid (((Below.refl w3.heap.size w3).drew).trans (k3.mono ((Below.refl w3.heap.size w3).drew).size))
   have sz1 : (w3.drew).heap.size < W5.heap.size := HT5.out.lt
   have sl5 : w3.heap.size ≤ (w3.drew).heap.size := ((Below.refl w3.heap.size w3).drew).size
   clear k3
   refine hK.out _ _ True.intro (fun hHeld5 => ?_)
   clear hK K; try simp only [Act.put, sa, sb, sc]
   refine wpAnyH_ready (rs := [2, 7]) (by kernel_rfl) (by simp) ?_
   refine AllReadyH.cons rfl (fun K hK => ?w5_5_2) (AllReadyH.cons rfl (fun K hK => ?w5_5_7) AllReadyH.nil)
   case' w5_5_7 =>
    go_simp
    rw [HMI.out (W5)]
    try dsimp only
    obtain ⟨W5_7, hW5_7⟩ : ∃ W5_7 : World, W5_7 = (W5).alloc (.cells (intsV (List.replicate kn 0)).toArray 3) := ⟨_, rfl⟩
    have k3 : Below (W5).heap.size (W5) W5_7 := by rw [hW5_7]; exact (Below.refl _ _).alloc (Nat.le_refl _) _
    have HT7 : Hid (Blk W5_7 (W5).heap.size 3 (intsV (List.replicate kn 0))) := Lib.hid (by rw [hW5_7]; exact Blk.new _ _ _)
    rw [← hW5_7]
    clear hW5_7
    have HB2 := Lib.hid ((HB1.out).trans (k3.mono (HB1.out).size))
    have sz2 : (W5).heap.size < W5_7.heap.size := HT7.out.lt
    have sl7 : w3.heap.size ≤ (W5).heap.size := (HB1.out).size
    have HT5' := Lib.hid (HT5.out.below k3)
    clear HT5
    have HT5 := HT5'
    clear HT5'
    clear k3
    refine hK.out _ _ True.intro (fun hHeld7 => ?_)
    clear hK K; try simp only [Act.put, sa, sb, sc]
    refine rd 2 (by kernel_rfl) rfl (fun K hK => ?_)
    go_simp
    go_at_call 8
    refine (HPO.out W5_7 _ _ (((H1.out.1.below H2.out).below H3.out.2.2.2).below HB2.out) (fun g hg => by have h9 := hg.2; have h8 : w3.heap.size ≤ (W5_7).heap.size := (HB2.out).size; omega)).mono ?_
    rintro e W5_7_2 ⟨v4, rfl, ⟨pl, pw, rfl, k1, k2⟩, k3⟩
    obtain ⟨PL, plc, rfl⟩ := k1.1.form
    obtain ⟨PW, pwc, rfl⟩ := k2.rws.form
    have HB3 := Lib.hid ((HB2.out).trans (k3.mono (HB2.out).size))
    have HPV := Lib.hid (And.intro k1 k2)
    have sz3 := k3.size
    have szl : w3.heap.size ≤ (W5_7).heap.size := (HB2.out).size
    have HT5' := Lib.hid (HT5.out.below k3)
    clear HT5
    have HT5 := HT5'
    clear HT5'
    have HT7' := Lib.hid (HT7.out.below k3)
    clear HT7
    have HT7 := HT7'
    clear HT7'
    clear k1 k2 k3
    go_wp2_with fail
    refine hK.out _ _ True.intro (fun hHeld2 => ?_)
    clear hK K; try simp only [Act.put, sa, sb, sc]
    refine ty 8 49 rfl rfl ?_; simp only [sa, sb, sc]
    refine rd 9 (by kernel_rfl) rfl (fun K hK => ?_)
    go_simp
    refine hK.out _ _ True.intro (fun hHeld9 => ?_)
    clear hK K; try simp only [Act.put, sa, sb, sc]
    refine ty 10 12 rfl rfl ?_; simp only [sa, sb, sc]
    refine wpAnyH_done (by kernel_rfl) ?_ _
    clear hHeld hHeld2 hHeld5 hHeld7 hHeld9
    have hM := HMK.out _ W5_7_2 _ _ (w3.drew).heap.size (W5).heap.size HPV.out.1 HPV.out.2 HT5.out HT7.out (by omega) (fun g hg => by
     have h3 := H3.out.2.2.2.size
     rcases hg with hg | hg
     ·have := hg.2; exact ⟨by omega, by omega, by omega⟩
     ·have := hg.1; have := hg.2; exact ⟨by omega, by omega, by omega⟩)
    have hbx := (Below.refl (W5_7_2).heap.size W5_7_2).alloc (Nat.le_refl _) (.cells (mCells0 (.slice PL P.log.length plc) (.slice PW P.wits.length pwc) P.quorum retry ((w3.drew).heap.size) ((W5).heap.size) kn).toArray 85)
    have hst := plw_start H1.out.1 H1.out.2 H2.out H3.out.2.2.2 H3.out.1 H3.out.2.1 (HB3.out.trans (hbx.mono HB3.out.size)) hM (fun g hg => by
     have := HB3.out.size
     rcases hg with hg | hg | hg
     ·omega
     ·omega
     ·omega) (fun g hg => by
     rcases hg with hg | hg
     ·exact .inl hg
     ·exact .inr (by have := hg.1; omega))
    go_wp2_with fail
    go_meet
    case rel => exact ⟨_, _, _, rfl, Lib.hid ⟨_, hst⟩⟩
   case' w5_5_2 =>
    go_simp
    go_at_call 8
    refine (HPO.out W5 _ _ (((H1.out.1.below H2.out).below H3.out.2.2.2).below HB1.out) (fun g hg => by have h9 := hg.2; have h8 : w3.heap.size ≤ (W5).heap.size := (HB1.out).size; omega)).mono ?_
    rintro e W5_2 ⟨v4, rfl, ⟨pl, pw, rfl, k1, k2⟩, k3⟩
    obtain ⟨PL, plc, rfl⟩ := k1.1.form
    obtain ⟨PW, pwc, rfl⟩ := k2.rws.form
    have HB2 := Lib.hid ((HB1.out).trans (k3.mono (HB1.out).size))
    have HPV := Lib.hid (And.intro k1 k2)
    have sz2 := k3.size
    have szl : w3.heap.size ≤ (W5).heap.size := (HB1.out).size
    have HT5' := Lib.hid (HT5.out.below k3)
    clear HT5
    have HT5 := HT5'
    clear HT5'
    clear k1 k2 k3
    go_wp2_with fail
    refine hK.out _ _ True.intro (fun hHeld2 => ?_)
    clear hK K; try simp only [Act.put, sa, sb, sc]
    refine rd 7 (by kernel_rfl) rfl (fun K hK => ?_)
    go_simp
    rw [HMI.out (W5_2)]
    try dsimp only
    obtain ⟨W5_2_7, hW5_2_7⟩ : ∃ W5_2_7 : World, W5_2_7 = (W5_2).alloc (.cells (intsV (List.replicate kn 0)).toArray 3) := ⟨_, rfl⟩
    have k3 : Below (W5_2).heap.size (W5_2) W5_2_7 := by rw [hW5_2_7]; exact (Below.refl _ _).alloc (Nat.le_refl _) _
    have HT7 : Hid (Blk W5_2_7 (W5_2).heap.size 3 (intsV (List.replicate kn 0))) := Lib.hid (by rw [hW5_2_7]; exact Blk.new _ _ _)
    rw [← hW5_2_7]
    clear hW5_2_7
    have HB3 := Lib.hid ((HB2.out).trans (k3.mono (HB2.out).size))
    have sz3 : (W5_2).heap.size < W5_2_7.heap.size := HT7.out.lt
    have sl7 : w3.heap.size ≤ (W5_2).heap.size := (HB2.out).size
    have HT5' := Lib.hid (HT5.out.below k3)
    clear HT5
    have HT5 := HT5'
    clear HT5'
    have HPV' := Lib.hid (And.intro (HPV.out.1.below k3) (HPV.out.2.below k3))
    clear HPV
    have HPV := HPV'
    clear HPV'
    clear k3
    refine hK.out _ _ True.intro (fun hHeld7 => ?_)
    clear hK K; try simp only [Act.put, sa, sb, sc]
    refine ty 8 49 rfl rfl ?_; simp only [sa, sb, sc]
    refine rd 9 (by kernel_rfl) rfl (fun K hK => ?_)
    go_simp
    refine hK.out _ _ True.intro (fun hHeld9 => ?_)
    clear hK K; try simp only [Act.put, sa, sb, sc]
    refine ty 10 12 rfl rfl ?_; simp only [sa, sb, sc]
    refine wpAnyH_done (by kernel_rfl) ?_ _
    clear hHeld hHeld2 hHeld5 hHeld7 hHeld9
    have hM := HMK.out _ W5_2_7 _ _ (w3.drew).heap.size (W5_2).heap.size HPV.out.1 HPV.out.2 HT5.out HT7.out (by omega) (fun g hg => by
     have h3 := H3.out.2.2.2.size
     rcases hg with hg | hg
     ·have := hg.2; exact ⟨by omega, by omega, by omega⟩
     ·have := hg.1; have := hg.2; exact ⟨by omega, by omega, by omega⟩)
    have hbx := (Below.refl (W5_2_7).heap.size W5_2_7).alloc (Nat.le_refl _) (.cells (mCells0 (.slice PL P.log.length plc) (.slice PW P.wits.length pwc) P.quorum retry ((w3.drew).heap.size) ((W5_2).heap.size) kn).toArray 85)
    have hst := plw_start H1.out.1 H1.out.2 H2.out H3.out.2.2.2 H3.out.1 H3.out.2.1 (HB3.out.trans (hbx.mono HB3.out.size)) hM (fun g hg => by
     have := HB3.out.size
     rcases hg with hg | hg | hg
     ·omega
     ·omega
     ·omega) (fun g hg => by
     rcases hg with hg | hg
     ·exact .inl hg
     ·exact .inr (by have := hg.1; omega))
    go_wp2_with fail
    go_meet
    case rel => exact ⟨_, _, _, rfl, Lib.hid ⟨_, hst⟩⟩
  case' w5_2 =>
   go_simp
   go_at_call 8
   refine (HPO.out w3.drew _ _ (((H1.out.1.below H2.out).below H3.out.2.2.2).below (Below.refl w3.heap.size w3).drew) (fun g hg => by have h9 := hg.2; have h8 : w3.heap.size ≤ (w3.drew).heap.size := ((Below.refl w3.heap.size w3).drew).size; omega)).mono ?_
   rintro e W2 ⟨v4, rfl, ⟨pl, pw, rfl, k1, k2⟩, k3⟩
   obtain ⟨PL, plc, rfl⟩ := k1.1.form
   obtain ⟨PW, pwc, rfl⟩ := k2.rws.form
   have HB1 := Lib.hid (((Below.refl w3.heap.size w3).drew).trans (k3.mono ((Below.refl w3.heap.size w3).drew).size))
   have HPV := Lib.hid (And.intro k1 k2)
   have sz1 := k3.size
   have szl : w3.heap.size ≤ (w3.drew).heap.size := ((Below.refl w3.heap.size w3).drew).size
   clear k1 k2 k3
   go_wp2_with fail
   refine hK.out _ _ True.intro (fun hHeld2 => ?_)
   clear hK K; try simp only [Act.put, sa, sb, sc]
   refine wpAnyH_ready (rs := [5, 7]) (by kernel_rfl) (by simp) ?_
   refine AllReadyH.cons rfl (fun K hK => ?w5_2_5) (AllReadyH.cons rfl (fun K hK => ?w5_2_7) AllReadyH.nil)
   case' w5_2_7 =>
    go_simp
    rw [HMI.out (W2)]
    try dsimp only
    obtain ⟨W2_7, hW2_7⟩ : ∃ W2_7 : World, W2_7 = (W2).alloc (.cells (intsV (List.replicate kn 0)).toArray 3) := ⟨_, rfl⟩
    have k3 : Below (W2).heap.size (W2) W2_7 := by rw [hW2_7]; exact (Below.refl _ _).alloc (Nat.le_refl _) _
    have HT7 : Hid (Blk W2_7 (W2).heap.size 3 (intsV (List.replicate kn 0))) := Lib.hid (by rw [hW2_7]; exact Blk.new _ _ _)
    rw [← hW2_7]
    clear hW2_7
    have HB2 := Lib.hid ((HB1.out).trans (k3.mono (HB1.out).size))
    have sz2 : (W2).heap.size < W2_7.heap.size := HT7.out.lt
    have sl7 : w3.heap.size ≤ (W2).heap.size := (HB1.out).size
    have HPV' := Lib.hid (And.intro (HPV.out.1.below k3) (HPV.out.2.below k3))
    clear HPV
    have HPV := HPV'
    clear HPV'
    clear k3
    refine hK.out _ _ True.intro (fun hHeld7 => ?_)
    clear hK K; try simp only [Act.put, sa, sb, sc]
    refine rd 5 (by kernel_rfl) rfl (fun K hK => ?_)
    go_simp
    rw [HMI.out (W2_7)]
    try dsimp only
    obtain ⟨W2_7_5, hW2_7_5⟩ : ∃ W2_7_5 : World, W2_7_5 = (W2_7).alloc (.cells (intsV (List.replicate kn 0)).toArray 3) := ⟨_, rfl⟩
    have k3 : Below (W2_7).heap.size (W2_7) W2_7_5 := by rw [hW2_7_5]; exact (Below.refl _ _).alloc (Nat.le_refl _) _
    have HT5 : Hid (Blk W2_7_5 (W2_7).heap.size 3 (intsV (List.replicate kn 0))) := Lib.hid (by rw [hW2_7_5]; exact Blk.new _ _ _)
    rw [← hW2_7_5]
    clear hW2_7_5
    have HB3 := Lib.hid ((HB2.out).trans (k3.mono (HB2.out).size))
    have sz3 : (W2_7).heap.size < W2_7_5.heap.size := HT5.out.lt
    have sl5 : w3.heap.size ≤ (W2_7).heap.size := (HB2.out).size
    have HPV' := Lib.hid (And.intro (HPV.out.1.below k3) (HPV.out.2.below k3))
    clear HPV
    have HPV := HPV'
    clear HPV'
    have HT7' := Lib.hid (HT7.out.below k3)
    clear HT7
    have HT7 := HT7'
    clear HT7'
    clear k3
    refine hK.out _ _ True.intro (fun hHeld5 => ?_)
    clear hK K; try simp only [Act.put, sa, sb, sc]
    refine ty 8 49 rfl rfl ?_; simp only [sa, sb, sc]
    refine rd 9 (by kernel_rfl) rfl (fun K hK => ?_)
    go_simp
    refine hK.out _ _ True.intro (fun hHeld9 => ?_)
    clear hK K; try simp only [Act.put, sa, sb, sc]
    refine ty 10 12 rfl rfl ?_; simp only [sa, sb, sc]
    refine wpAnyH_done (by kernel_rfl) ?_ _
    clear hHeld hHeld2 hHeld5 hHeld7 hHeld9
    have hM := HMK.out _ W2_7_5 _ _ (W2_7).heap.size (W2).heap.size HPV.out.1 HPV.out.2 HT5.out HT7.out (by omega) (fun g hg => by
     have h3 := H3.out.2.2.2.size
     rcases hg with hg | hg
     ·have := hg.2; exact ⟨by omega, by omega, by omega⟩
     ·have := hg.1; have := hg.2; exact ⟨by omega, by omega, by omega⟩)
    have hbx := (Below.refl (W2_7_5).heap.size W2_7_5).alloc (Nat.le_refl _) (.cells (mCells0 (.slice PL P.log.length plc) (.slice PW P.wits.length pwc) P.quorum retry ((W2_7).heap.size) ((W2).heap.size) kn).toArray 85)
    have hst := plw_start H1.out.1 H1.out.2 H2.out H3.out.2.2.2 H3.out.1 H3.out.2.1 (HB3.out.trans (hbx.mono HB3.out.size)) hM (fun g hg => by
     have := HB3.out.size
     rcases hg with hg | hg | hg
     ·omega
     ·omega
     ·omega) (fun g hg => by
     rcases hg with hg | hg
     ·exact .inl hg
     ·exact .inr (by have := hg.1; omega))
    go_wp2_with fail
    go_meet
    case rel => exact ⟨_, _, _, rfl, Lib.hid ⟨_, hst⟩⟩
   case' w5_2_5 =>
    go_simp
    rw [HMI.out (W2)]
    try dsimp only
    obtain ⟨W2_5, hW2_5⟩ : ∃ W2_5 : World, W2_5 = (W2).alloc (.cells (intsV (List.replicate kn 0)).toArray 3) := ⟨_, rfl⟩
    have k3 : Below (W2).heap.size (W2) W2_5 := by rw [hW2_5]; exact (Below.refl _ _).alloc (Nat.le_refl _) _
    have HT5 : Hid (Blk W2_5 (W2).heap.size 3 (intsV (List.replicate kn 0))) := Lib.hid (by rw [hW2_5]; exact Blk.new _ _ _)
    rw [← hW2_5]
    clear hW2_5
    have HB2 := Lib.hid ((HB1.out).trans (k3.mono (HB1.out).size))
    have sz2 : (W2).heap.size < W2_5.heap.size := HT5.out.lt
    have sl5 : w3.heap.size ≤ (W2).heap.size := (HB1.out).size
    have HPV' := Lib.hid (And.intro (HPV.out.1.below k3) (HPV.out.2.below k3))
    clear HPV
    have HPV := HPV'
    clear HPV'
    clear k3
    refine hK.out _ _ True.intro (fun hHeld5 => ?_)
    clear hK K; try simp only [Act.put, sa, sb, sc]
    refine rd 7 (by kernel_rfl) rfl (fun K hK => ?_)
    go_simp
    rw [HMI.out (W2_5)]
    try dsimp only
    obtain ⟨W2_5_7, hW2_5_7⟩ : ∃ W2_5_7 : World, W2_5_7 = (W2_5).alloc (.cells (intsV (List.replicate kn 0)).toArray 3) := ⟨_, rfl⟩
    have k3 : Below (W2_5).heap.size (W2_5) W2_5_7 := by rw [hW2_5_7]; exact (Below.refl _ _).alloc (Nat.le_refl _) _
    have HT7 : Hid (Blk W2_5_7 (W2_5).heap.size 3 (intsV (List.replicate kn 0))) := Lib.hid (by rw [hW2_5_7]; exact Blk.new _ _ _)
    rw [← hW2_5_7]
    clear hW2_5_7
    have HB3 := Lib.hid ((HB2.out).trans (k3.mono (HB2.out).size))
    have sz3 : (W2_5).heap.size < W2_5_7.heap.size := HT7.out.lt
    have sl7 : w3.heap.size ≤ (W2_5).heap.size := (HB2.out).size
    have HPV' := Lib.hid (And.intro (HPV.out.1.below k3) (HPV.out.2.below k3))
    clear HPV
    have HPV := HPV'
    clear HPV'
    have HT5' := Lib.hid (HT5.out.below k3)
    clear HT5
    have HT5 := HT5'
    clear HT5'
    clear k3
    refine hK.out _ _ True.intro (fun hHeld7 => ?_)
    clear hK K; try simp only [Act.put, sa, sb, sc]
    refine ty 8 49 rfl rfl ?_; simp only [sa, sb, sc]
    refine rd 9 (by kernel_rfl) rfl (fun K hK => ?_)
    go_simp
    refine hK.out _ _ True.intro (fun hHeld9 => ?_)
    clear hK K; try simp only [Act.put, sa, sb, sc]
    refine ty 10 12 rfl rfl ?_; simp only [sa, sb, sc]
    refine wpAnyH_done (by kernel_rfl) ?_ _
    clear hHeld hHeld2 hHeld5 hHeld7 hHeld9
    have hM := HMK.out _ W2_5_7 _ _ (W2).heap.size (W2_5).heap.size HPV.out.1 HPV.out.2 HT5.out HT7.out (by omega) (fun g hg => by
     have h3 := H3.out.2.2.2.size
     rcases hg with hg | hg
     ·have := hg.2; exact ⟨by omega, by omega, by omega⟩
     ·have := hg.1; have := hg.2; exact ⟨by omega, by omega, by omega⟩)
    have hbx := (Below.refl (W2_5_7).heap.size W2_5_7).alloc (Nat.le_refl _) (.cells (mCells0 (.slice PL P.log.length plc) (.slice PW P.wits.length pwc) P.quorum retry ((W2).heap.size) ((W2_5).heap.size) kn).toArray 85)
    have hst := plw_start H1.out.1 H1.out.2 H2.out H3.out.2.2.2 H3.out.1 H3.out.2.1 (HB3.out.trans (hbx.mono HB3.out.size)) hM (fun g hg => by
     have := HB3.out.size
     rcases hg with hg | hg | hg
     ·omega
     ·omega
     ·omega) (fun g hg => by
     rcases hg with hg | hg
     ·exact .inl hg
     ·exact .inr (by have := hg.1; omega))
    go_wp2_with fail
    go_meet
    case rel => exact ⟨_, _, _, rfl, Lib.hid ⟨_, hst⟩⟩
 case rest =>
  obtain ⟨mb, tb, rb, rfl, H5⟩ := hcut
  obtain ⟨D5, h5⟩ := H5.out
  obtain ⟨g, o, b0, rfl, -, -, hcap, -, -⟩ := h5.own.at' 0 (by omega)
  have H6 := Lib.hid h5
  clear h5 H5 H1 H2 H3 HPO HO HMK HMI hs12 hs23
  generalize (fun g => w.heap.size ≤ g ∧ g < w1.heap.size) = S at *
  generalize hmd : (⟨P, retry, zSg, false, List.replicate kn 0, List.replicate kn 0, [], [], zSg, false, []⟩ : MdD) = md0 at *
  clear hmd
  have HSN := Lib.hid (fun (z : Int) (h0 : 0 ≤ z) (h1 : z ≤ 256) (wz : World) (S : Nat → Prop) (b : Nat) (z1 : OwnerS S wz b (seedS ((0 : Nat) : Int))) (z2 : ∀ g, S g → g < wz.heap.size) => signed_any S b (seedS ((0 : Nat) : Int)) z h0 h1 (by rw [seedS_length]; decide) wz z1 z2)
  have HCK := Lib.hid (fun (z : Int) (h0 : 0 ≤ z) (h1 : z ≤ 30) => SgOk.of z h0 h1)
  have HSZ : Hid (∀ z : Int, (signedS (seedS ((0 : Nat) : Int)) z).ck.num = z) := Lib.hid (fun z => rfl)
  obtain ⟨cg, hcg⟩ : ∃ cg : Nat → CkD → CgD, ∀ k c, cg k c = cosigS (seedS ((k + 1 : Nat) : Int)) (k : Int) c := ⟨_, fun _ _ => rfl⟩
  have HCS : Hid (∀ (k : Nat) (c : CkD), SmallSig (cg k c).sig ∧ (cg k c).sig.parts.length ≤ 1000000 ∧ (cg k c).sig.path.length ≤ 1000000) := Lib.hid (fun k c => by
   rw [hcg]
   exact sign_ok _ _ (by omega) (by omega) _)
  have HCO := Lib.hid (fun (k : Nat) (hk : k < kn) (c : CkD) (h0 : 0 ≤ c.num) (h1 : c.num ≤ 256) (hr : c.root.length ≤ 1000000) (vc : Value) (wz : World) (z1 : OwnersS S wz (.slice (some ⟨g, o, none⟩) (kn + 1) c1) (kn + 1)) (z2 : ∀ g, S g → g < wz.heap.size) (z3 : CkV wz vc c) => cosig_any S g o c1 (kn + 1) k vc c (by omega) (by omega) h0 h1 hr wz z1 z2 z3)
  simp only [← hcg] at HCO
  clear hcg
  generalize hSG : signedS (seedS ((0 : Nat) : Int)) = sgn at *
  clear hSG
  generalize hsd : seedS ((0 : Nat) : Int) = sd at *
  have HSD := Lib.hid hsd
  clear hsd
  go_wp2_with fail
  go_loopg [13, 14] 30 (fun gk vn vi wr => ∃ (T : Int) (i : Nat) (d : FdD) (md : MdD), vn = .int .i64 T ∧ vi = .int .i64 i ∧ i ≤ l.length ∧ i + gk = 30 ∧ 0 ≤ T ∧ T ≤ 40 * (i : Int) ∧ Hid (PlJ P retry kn i d md ∧ ∃ Z D, PlW S Z D w wr (.slice (some ⟨g, o, none⟩) (kn + 1) c1) (kn + 1) f mb tb rb d md))
  case atStart => exact ⟨0, 0, d0, md0, rfl, rfl, Nat.zero_le _, rfl, by decide, by decide, Lib.hid ⟨HJ0.out, _, _, H6.out⟩⟩
  case round =>
   clear H6 HJ0
   obtain ⟨T, i, d, md, rfl, rfl, hi, hi30, hT0, hT1, HI⟩ := hrel
   by_cases hlt : i < l.length ∧ i < 30
   ·obtain ⟨hlt, hlt30⟩ := hlt
    have HJ := Lib.hid HI.out.1
    obtain ⟨Z, D, hI⟩ := HI.out.2
    have HI2 := Lib.hid hI
    clear hI HI
    obtain ⟨gx, ox, rfl, hg, x0, x1, x2, x3, x4⟩ := HX.out i hlt
    have p3 := (HI2.out.below.cell (p := ⟨gx, ox + i * 5 + 3, none⟩) hg).trans x3
    have hgr : gx < wr.heap.size := by have := HI2.out.below.size; omega
    have HXC := Lib.hid (And.intro x0 (And.intro x1 (And.intro x2 x4)))
    clear x0 x1 x2 x3 x4
    generalize l[i].now = X3 at *
    generalize l[i].size = X2 at *
    generalize l[i].who = X1 at *
    generalize l[i].kind = KI at *
    generalize l[i].bad = X4 at *
    have hq := withinZ_ge X3 0 40 (by decide)
    have hz := withinZ_ge X2 0 20 (by decide)
    go_wp2_with fail
    refine (within_any X3 0 40 (by decide) (by decide) (by decide) _).mono ?_
    rintro e w' ⟨rfl, rfl⟩
    generalize withinZ X3 0 40 = DT at *
    obtain ⟨hD0, hD1⟩ := hq
    clear p3
    have p2 := (HI2.out.below.cell (p := ⟨gx, ox + i * 5 + 2, none⟩) hg).trans HXC.out.2.2.1
    go_wp2_with fail
    refine (within_any X2 0 20 (by decide) (by decide) (by decide) _).mono ?_
    rintro e w' ⟨rfl, rfl⟩
    generalize withinZ X2 0 20 = z at *
    obtain ⟨hz0, hz1⟩ := hz
    clear p2
    have p0 := (HI2.out.below.cell (p := ⟨gx, ox + i * 5, none⟩) hg).trans HXC.out.1
    go_upto_block 2 with fail
    go_cut [16] (fun v16 wc => v16 = .bool true ∧ ∃ (d' : FdD) (md' : MdD), Hid (PlJ P retry kn (i + 1) d' md' ∧ ∃ Z D, PlW S Z D w wc (.slice (some ⟨g, o, none⟩) (kn + 1) c1) (kn + 1) f mb tb rb d' md'))
    case first =>
     clear p0
     as_aux_lemma =>
      by_cases hK1 : KI = 1
      ·as_aux_lemma =>
        subst hK1
        obtain ⟨b1, hgo, hc0, ho0⟩ := HI2.out.own.get 0 (by omega)
        rw [Nat.add_zero] at hc0
        rw [HSD.out] at ho0
        have hsz := HSZ.out z
        have hok := HCK.out z hz0 (by omega)
        have HSG := Lib.hid (HSN.out z hz0 (by omega))
        generalize sgn z = s at *
        go_wp2_with fail
        refine (HSG.out _ _ _ ho0 (fun g hg => (HI2.out.sz g hg).2.2)).mono ?_
        rintro e w8 ⟨v8, rfl, h1, h2⟩
        obtain ⟨⟨zz, root⟩, ⟨ix, Ps, Qs⟩⟩ := s
        obtain rfl : zz = z := hsz
        obtain ⟨r4, p4, q4, rfl, k1, k2, k3⟩ := h1
        obtain ⟨R, cr, rfl⟩ := k1.1.form
        obtain ⟨P4, cp, rfl⟩ := k2.rws.form
        obtain ⟨Q4, cq, rfl⟩ := k3.rws.form
        have H8 := Lib.hid (And.intro k1 (And.intro k2 (And.intro k3 (And.intro (HI2.out.quiet h2) (And.intro h2.size hok)))))
        have pb := (h2.cell (p := ⟨gx, ox + i * 5 + 4, none⟩) hgr).trans ((HI2.out.below.cell (p := ⟨gx, ox + i * 5 + 4, none⟩) hg).trans HXC.out.2.2.2)
        have hg8 : gx < w8.heap.size := by have := h2.size; omega
        clear k1 k2 k3 h2 hc0 ho0 hgo HSG hok
        cases X4 with
        | false =>
         as_aux_lemma =>
          have HOK : Hid (SgOk ⟨⟨zz, root⟩, ⟨ix, Ps, Qs⟩⟩) := Lib.hid (by
           obtain ⟨a1, a2, a3, a4, a5, a6⟩ := H8.out.2.2.2.2.2
           exact ⟨a1, a2, by show 0 ≤ zz; omega, by show zz ≤ 100; omega, a5, a6⟩)
          have HJN := Lib.hid (HJ.out.offer (by omega) ⟨⟨zz, root⟩, ⟨ix, Ps, Qs⟩⟩ HOK.out (T + DT))
          go_wp2_with fail
          refine code_at (fun w9 => Blk w9 w8.heap.size 40 [.int .i64 (zz), .slice R root.length cr, .int .i64 ix, .slice P4 Ps.length cp, .slice Q4 Qs.length cq] ∧ Below w8.heap.size w8 w9) ?_ ?_
          ·exact ⟨Blk.new w8 40 [.int .i64 zz, .slice R root.length cr, .int .i64 ix, .slice P4 Ps.length cp, .slice Q4 Qs.length cq], (Below.refl _ _).alloc (Nat.le_refl _) _⟩
          rintro w9 ⟨k0, kb⟩
          have c0 := k0.cell 0 _ rfl
          have c1 := k0.cell 1 _ rfl
          have c2 := k0.cell 2 _ rfl
          have c3 := k0.cell 3 _ rfl
          have c4 := k0.cell 4 _ rfl
          have hb16 := k0.lt
          have hs9 := H8.out.2.2.2.2.1
          have H9 := Lib.hid (And.intro (H8.out.2.2.2.1.quiet kb) (And.intro (H8.out.1.below kb) (And.intro (H8.out.2.1.below kb) (And.intro (H8.out.2.2.1.below kb) (And.intro k0 kb)))))
          clear k0 kb pb
          refine wp_region_held_drew (S := fun w' => w'.cell? ⟨w8.heap.size, 0, none⟩ = some (.int .i64 (zz)) ∧ w'.cell? ⟨w8.heap.size, 1, none⟩ = some (.slice R root.length cr) ∧ w'.cell? ⟨w8.heap.size, 2, none⟩ = some (.int .i64 ix) ∧ w'.cell? ⟨w8.heap.size, 3, none⟩ = some (.slice P4 Ps.length cp) ∧ w'.cell? ⟨w8.heap.size, 4, none⟩ = some (.slice Q4 Qs.length cq)) (by kernel_rfl) ?_ (fun hHeld => ?_)
          ·exact ⟨c0, c1, c2, c3, c4⟩
          refine ty 0 98 rfl rfl ?_; simp only [sa, sb, sc]
          refine ty 1 99 rfl rfl ?_; simp only [sa, sb, sc]
          refine ty 2 100 rfl rfl ?_; simp only [sa, sb, sc]
          refine ty 4 102 rfl rfl ?_; simp only [sa, sb, sc]
          refine ty 5 103 rfl rfl ?_; simp only [sa, sb, sc]
          refine ty 6 104 rfl rfl ?_; simp only [sa, sb, sc]
          refine rd 3 (by kernel_rfl) rfl (fun K hK => ?_)
          go_simp
          go_at_call 11
          refine (play_offer HJ.out (by omega) (by omega) HSP.out ⟨⟨zz, root⟩, ⟨ix, Ps, Qs⟩⟩ HOK.out (T + DT) _ (H9.out.1.quiet (Below.refl _ _).drew) ⟨_, _, _, rfl, (H9.out.2.1.below (Below.refl _ _).drew).1, (H9.out.2.2.1.below (Below.refl _ _).drew).rws, (H9.out.2.2.2.1.below (Below.refl _ _).drew).rws⟩).mono ?_
          rintro e w10 ⟨rfl, h1, h2⟩
          have hyz : ∀ x, (S x ∨ (wr.heap.size ≤ x ∧ x < w8.heap.size)) → ¬ Z x := fun x hx e => by
           have h5 := HI2.out.pi.zl x e
           rcases hx with hx | hx
           ·exact (HI2.out.sz x hx).1 e
           ·omega
          have kA := (H9.out.2.2.2.2.1.below (Below.refl _ _).drew).chg h2 (fun e => by have := HI2.out.pi.zl _ e; omega)
          have c0' := kA.cell 0 _ rfl
          have c1' := kA.cell 1 _ rfl
          have c2' := kA.cell 2 _ rfl
          have c3' := kA.cell 3 _ rfl
          have c4' := kA.cell 4 _ rfl
          have H10 := Lib.hid (And.intro h1 (And.intro ((H9.out.2.1.below (Below.refl _ _).drew).chg h2 hyz) (And.intro ((H9.out.2.2.1.below (Below.refl _ _).drew).chg h2 hyz) (And.intro ((H9.out.2.2.2.1.below (Below.refl _ _).drew).chg h2 hyz) (And.intro kA (And.intro h2.size hyz))))))
          clear h1 h2 hyz kA
          go_wp2_with fail
          refine hK.out _ _ ⟨c0', c1', c2', c3', c4'⟩ (fun hHeld3 => ?_)
          clear hK K; try simp only [Act.put, sa, sb, sc]
          refine rd 7 (by kernel_rfl) rfl (fun K hK => ?_)
          go_simp
          go_at_call 36
          refine (play_moffer (Y := fun x => S x ∨ (wr.heap.size ≤ x ∧ x < w8.heap.size)) HJ.out (by omega) HSP.out ⟨⟨zz, root⟩, ⟨ix, Ps, Qs⟩⟩ HOK.out (T + DT) _ H10.out.1 ⟨_, _, _, rfl, H10.out.2.1, H10.out.2.2.1, H10.out.2.2.2.1⟩ (fun x hx => ?_)).mono ?_
          ·have h5 : w9.drew.heap.size ≤ w10.heap.size := H10.out.2.2.2.2.2.1
           have h6 : w8.heap.size ≤ w9.heap.size := H9.out.2.2.2.2.2.size
           have h7 : w9.drew.heap.size = w9.heap.size := rfl
           refine ⟨fun hz => ?_, ?_, ?_⟩
           ·rcases hz with hz | hz
            ·exact H10.out.2.2.2.2.2.2 x hx hz
            ·have h8 : w9.drew.heap.size ≤ x := hz.1
             rcases hx with hx | hx
             ·have := (HI2.out.sz x hx).2.2; omega
             ·omega
           ·intro hm
            rcases hx with hx | hx
            ·exact (HI2.out.sz x hx).2.1 hm
            ·have := HI2.out.pi.md.lt x hm; omega
           ·rcases hx with hx | hx
            ·have := (HI2.out.sz x hx).2.2; omega
            ·omega
          rintro e w11 ⟨rfl, ⟨D', h1⟩, h2⟩
          have kB := H10.out.2.2.2.2.1.chg h2 (fun e => by have := HI2.out.pi.md.lt _ e; omega)
          have c0'' := kB.cell 0 _ rfl
          have c1'' := kB.cell 1 _ rfl
          have c2'' := kB.cell 2 _ rfl
          have c3'' := kB.cell 3 _ rfl
          have c4'' := kB.cell 4 _ rfl
          have H11 := Lib.hid h1
          clear h1 h2 kB
          go_wp2_with fail
          refine hK.out _ _ ⟨c0'', c1'', c2'', c3'', c4''⟩ (fun hHeld7 => ?_)
          clear hK K; try simp only [Act.put, sa, sb, sc]
          refine ty 8 106 rfl rfl ?_; simp only [sa, sb, sc]
          refine ty 9 16 rfl rfl ?_; simp only [sa, sb, sc]
          refine wpAnyH_done (by kernel_rfl) ?_ _
          clear hHeld hHeld3 hHeld7 c0 c1 c2 c3 c4 c0' c1' c2' c3' c4' c0'' c1'' c2'' c3'' c4''
          go_wp2_with fail
          go_meet
          case rel => exact ⟨by simp, _, _, Lib.hid ⟨HJN.out, _, _, H11.out⟩⟩
        | true =>
         as_aux_lemma =>
          have HOK : Hid (SgOk ⟨⟨zz + 1, root⟩, ⟨ix, Ps, Qs⟩⟩) := Lib.hid (by
           obtain ⟨a1, a2, a3, a4, a5, a6⟩ := H8.out.2.2.2.2.2
           exact ⟨a1, a2, by show 0 ≤ zz + 1; omega, by show zz + 1 ≤ 100; omega, a5, a6⟩)
          have HJN := Lib.hid (HJ.out.offer (by omega) ⟨⟨zz + 1, root⟩, ⟨ix, Ps, Qs⟩⟩ HOK.out (T + DT))
          go_wp2_with fail
          refine code_at (fun w9 => Blk w9 w8.heap.size 40 [.int .i64 (zz + 1), .slice R root.length cr, .int .i64 ix, .slice P4 Ps.length cp, .slice Q4 Qs.length cq] ∧ Below w8.heap.size w8 w9) ?_ ?_
          ·exact ⟨Blk.new w8 40 [.int .i64 (zz + 1), .slice R root.length cr, .int .i64 ix, .slice P4 Ps.length cp, .slice Q4 Qs.length cq], (Below.refl _ _).alloc (Nat.le_refl _) _⟩
          rintro w9 ⟨k0, kb⟩
          have c0 := k0.cell 0 _ rfl
          have c1 := k0.cell 1 _ rfl
          have c2 := k0.cell 2 _ rfl
          have c3 := k0.cell 3 _ rfl
          have c4 := k0.cell 4 _ rfl
          have hb16 := k0.lt
          have hs9 := H8.out.2.2.2.2.1
          have H9 := Lib.hid (And.intro (H8.out.2.2.2.1.quiet kb) (And.intro (H8.out.1.below kb) (And.intro (H8.out.2.1.below kb) (And.intro (H8.out.2.2.1.below kb) (And.intro k0 kb)))))
          clear k0 kb pb
          refine wp_region_held_drew (S := fun w' => w'.cell? ⟨w8.heap.size, 0, none⟩ = some (.int .i64 (zz + 1)) ∧ w'.cell? ⟨w8.heap.size, 1, none⟩ = some (.slice R root.length cr) ∧ w'.cell? ⟨w8.heap.size, 2, none⟩ = some (.int .i64 ix) ∧ w'.cell? ⟨w8.heap.size, 3, none⟩ = some (.slice P4 Ps.length cp) ∧ w'.cell? ⟨w8.heap.size, 4, none⟩ = some (.slice Q4 Qs.length cq)) (by kernel_rfl) ?_ (fun hHeld => ?_)
          ·exact ⟨c0, c1, c2, c3, c4⟩
          refine ty 0 98 rfl rfl ?_; simp only [sa, sb, sc]
          refine ty 1 99 rfl rfl ?_; simp only [sa, sb, sc]
          refine ty 2 100 rfl rfl ?_; simp only [sa, sb, sc]
          refine ty 4 102 rfl rfl ?_; simp only [sa, sb, sc]
          refine ty 5 103 rfl rfl ?_; simp only [sa, sb, sc]
          refine ty 6 104 rfl rfl ?_; simp only [sa, sb, sc]
          refine rd 3 (by kernel_rfl) rfl (fun K hK => ?_)
          go_simp
          go_at_call 11
          refine (play_offer HJ.out (by omega) (by omega) HSP.out ⟨⟨zz + 1, root⟩, ⟨ix, Ps, Qs⟩⟩ HOK.out (T + DT) _ (H9.out.1.quiet (Below.refl _ _).drew) ⟨_, _, _, rfl, (H9.out.2.1.below (Below.refl _ _).drew).1, (H9.out.2.2.1.below (Below.refl _ _).drew).rws, (H9.out.2.2.2.1.below (Below.refl _ _).drew).rws⟩).mono ?_
          rintro e w10 ⟨rfl, h1, h2⟩
          have hyz : ∀ x, (S x ∨ (wr.heap.size ≤ x ∧ x < w8.heap.size)) → ¬ Z x := fun x hx e => by
           have h5 := HI2.out.pi.zl x e
           rcases hx with hx | hx
           ·exact (HI2.out.sz x hx).1 e
           ·omega
          have kA := (H9.out.2.2.2.2.1.below (Below.refl _ _).drew).chg h2 (fun e => by have := HI2.out.pi.zl _ e; omega)
          have c0' := kA.cell 0 _ rfl
          have c1' := kA.cell 1 _ rfl
          have c2' := kA.cell 2 _ rfl
          have c3' := kA.cell 3 _ rfl
          have c4' := kA.cell 4 _ rfl
          have H10 := Lib.hid (And.intro h1 (And.intro ((H9.out.2.1.below (Below.refl _ _).drew).chg h2 hyz) (And.intro ((H9.out.2.2.1.below (Below.refl _ _).drew).chg h2 hyz) (And.intro ((H9.out.2.2.2.1.below (Below.refl _ _).drew).chg h2 hyz) (And.intro kA (And.intro h2.size hyz))))))
          clear h1 h2 hyz kA
          go_wp2_with fail
          refine hK.out _ _ ⟨c0', c1', c2', c3', c4'⟩ (fun hHeld3 => ?_)
          clear hK K; try simp only [Act.put, sa, sb, sc]
          refine rd 7 (by kernel_rfl) rfl (fun K hK => ?_)
          go_simp
          go_at_call 36
          refine (play_moffer (Y := fun x => S x ∨ (wr.heap.size ≤ x ∧ x < w8.heap.size)) HJ.out (by omega) HSP.out ⟨⟨zz + 1, root⟩, ⟨ix, Ps, Qs⟩⟩ HOK.out (T + DT) _ H10.out.1 ⟨_, _, _, rfl, H10.out.2.1, H10.out.2.2.1, H10.out.2.2.2.1⟩ (fun x hx => ?_)).mono ?_
          ·have h5 : w9.drew.heap.size ≤ w10.heap.size := H10.out.2.2.2.2.2.1
           have h6 : w8.heap.size ≤ w9.heap.size := H9.out.2.2.2.2.2.size
           have h7 : w9.drew.heap.size = w9.heap.size := rfl
           refine ⟨fun hz => ?_, ?_, ?_⟩
           ·rcases hz with hz | hz
            ·exact H10.out.2.2.2.2.2.2 x hx hz
            ·have h8 : w9.drew.heap.size ≤ x := hz.1
             rcases hx with hx | hx
             ·have := (HI2.out.sz x hx).2.2; omega
             ·omega
           ·intro hm
            rcases hx with hx | hx
            ·exact (HI2.out.sz x hx).2.1 hm
            ·have := HI2.out.pi.md.lt x hm; omega
           ·rcases hx with hx | hx
            ·have := (HI2.out.sz x hx).2.2; omega
            ·omega
          rintro e w11 ⟨rfl, ⟨D', h1⟩, h2⟩
          have kB := H10.out.2.2.2.2.1.chg h2 (fun e => by have := HI2.out.pi.md.lt _ e; omega)
          have c0'' := kB.cell 0 _ rfl
          have c1'' := kB.cell 1 _ rfl
          have c2'' := kB.cell 2 _ rfl
          have c3'' := kB.cell 3 _ rfl
          have c4'' := kB.cell 4 _ rfl
          have H11 := Lib.hid h1
          clear h1 h2 kB
          go_wp2_with fail
          refine hK.out _ _ ⟨c0'', c1'', c2'', c3'', c4''⟩ (fun hHeld7 => ?_)
          clear hK K; try simp only [Act.put, sa, sb, sc]
          refine ty 8 106 rfl rfl ?_; simp only [sa, sb, sc]
          refine ty 9 16 rfl rfl ?_; simp only [sa, sb, sc]
          refine wpAnyH_done (by kernel_rfl) ?_ _
          clear hHeld hHeld3 hHeld7 c0 c1 c2 c3 c4 c0' c1' c2' c3' c4' c0'' c1'' c2'' c3'' c4''
          go_wp2_with fail
          go_meet
          case rel => exact ⟨by simp, _, _, Lib.hid ⟨HJN.out, _, _, H11.out⟩⟩
      by_cases hK2 : KI = 2
      ·have n1 : ((KI == 1) : Bool) = false := by simpa using hK1
       subst hK2
       clear n1 hK1
       have HRL : Hid ((reqL d (T + DT)).length ≤ 1000000) := Lib.hid (by rw [← reqL_dueN]; have := dueN_le d.m (T + DT); have := HJ.out.ml; omega)
       have HJN := Lib.hid (HJ.out.step (by omega) (T + DT))
       go_wp2_with fail
       refine (play_step HJ.out (by omega) (by omega) (by omega) (T + DT) (by omega) HI2.out).mono ?_
       rintro e w8 ⟨A8, c8, rfl, h0, h1, h2⟩
       have H8 := Lib.hid (And.intro h0 (And.intro h1 h2.size))
       clear h0 h1 h2
       go_wp2_with fail
       refine (play_mstep HJ.out (by omega) (by omega) (by omega) (T + DT) (by omega) H8.out.2.1).mono ?_
       rintro e w9 ⟨A9, c9, rfl, h0, ⟨D', h1⟩, h2⟩
       have hr8 := ownsRow_chg H8.out.1 h2 (fun k hk e => by have h5 := (World.ownsRow.lt H8.out.1 k hk).1; have h6 := HI2.out.pi.md.lt k e; omega)
       have HRQ := Lib.hid (requests_same _ _ _ HRL.out w9 (Sho.own hr8) (Sho.own h0))
       have H9 := Lib.hid h1
       clear h0 h1 h2 hr8
       go_wp2_with fail
       refine HRQ.out.mono ?_
       rintro e w10 ⟨rfl, h⟩
       have H10 := Lib.hid (H9.out.quiet h)
       clear h
       go_wp2_with fail
       go_meet
       case rel => exact ⟨rfl, _, _, Lib.hid ⟨HJN.out, _, _, H10.out⟩⟩
      have n1 : ((KI == 1) : Bool) = false := by simpa using hK1
      have n2 : ((KI == 2) : Bool) = false := by simpa using hK2
      by_cases hK3 : KI = 3
      ·clear n1 n2 hK1 hK2
       subst hK3
       have p1 := (HI2.out.below.cell (p := ⟨gx, ox + i * 5 + 1, none⟩) hg).trans HXC.out.2.1
       go_wp2_with fail
       refine (within_any X1 0 ((kn : Int) - 1) (by decide) (by omega) (by omega) _).mono ?_
       rintro e w' ⟨rfl, rfl⟩
       have hwn := withinZ_ge X1 0 ((kn : Int) - 1) (by omega)
       generalize withinZ X1 0 ((kn : Int) - 1) = WN at *
       obtain ⟨wn, rfl⟩ := Int.eq_ofNat_of_zero_le hwn.1
       have hwk : wn < kn := by omega
       clear hwn p1
       obtain ⟨r, hm⟩ := HI2.out.pi.md
       have q4 := hm.blk.cell 4 _ rfl
       have q5 := hm.blk.cell 5 _ rfl
       have q9 := hm.blk.cell 9 _ rfl
       have hmb := hm.blk.lt
       have hcv := hm.tx.cr.1
       have hcu := HJ.out.cu
       have HRL := HJ.out.rl.cur
       rw [HRL] at q4 hcv
       clear HRL
       obtain ⟨R, cr, er⟩ := hcv.form
       rw [er] at q5 hcv
       clear er
       have HCV := Lib.hid (And.intro (show CkV wr (.agg #[.int .i64 d.cur.ck.num, .slice R d.cur.ck.root.length cr]) d.cur.ck from ⟨_, rfl, hcv⟩) (And.intro hcu.2.2.1 (And.intro hcu.2.2.2.1 hcu.2.1)))
       clear hm hcv hcu
       have HCC := Lib.hid (HCO.out wn hwk d.cur.ck HCV.out.2.1 (by have := HCV.out.2.2.1; omega) HCV.out.2.2.2)
       have HGS := Lib.hid (HCS.out wn d.cur.ck)
       generalize cg wn d.cur.ck = G at *
       generalize d.cur.ck = CK at *
       generalize CK.num = CN at *
       generalize CK.root.length = CL at *
       go_wp2_with fail
       refine (HCC.out _ _ HI2.out.own (fun g hg => (HI2.out.sz g hg).2.2) HCV.out.1).mono ?_
       rintro e w8 ⟨v8, rfl, ⟨p4, q4', rfl, k1, k2⟩, h2⟩
       obtain ⟨P4, cp, rfl⟩ := k1.rws.form
       obtain ⟨Q4, cq, rfl⟩ := k2.rws.form
       obtain ⟨gw, ⟨ix, Ps, Qs⟩⟩ := G
       have H8 := Lib.hid (And.intro k1 (And.intro k2 (And.intro (HI2.out.quiet h2) (And.intro h2.size HGS.out))))
       have pb := (h2.cell (p := ⟨gx, ox + i * 5 + 4, none⟩) hgr).trans ((HI2.out.below.cell (p := ⟨gx, ox + i * 5 + 4, none⟩) hg).trans HXC.out.2.2.2)
       have pm := (h2.cell (p := ⟨mb, 9, none⟩) hmb).trans q9
       have hg8 : gx < w8.heap.size := by have := h2.size; omega
       have hmb8 : mb < w8.heap.size := by have := h2.size; omega
       clear k1 k2 h2 HCC HGS HCV q4 q5 q9
       obtain ⟨hb, hhb⟩ : ∃ b : Bool, md.has = b := ⟨_, rfl⟩
       rw [hhb] at pm
       clear hhb
       cases X4 with
       | false =>
        cases hb with
        | false =>
         as_aux_lemma =>
          have HGD : Hid (SmallSig (CgD.sig zCg) ∧ (CgD.sig zCg).parts.length ≤ 1000000 ∧ (CgD.sig zCg).path.length ≤ 1000000) := Lib.hid ⟨zCg_small, Nat.zero_le _, Nat.zero_le _⟩
          have HJN := Lib.hid (HJ.out.reply (wn : Int) 0 (T + DT) zCg HGD.out)
          go_wp2_with fail
          refine code_at (fun w9 => Blk w9 w8.heap.size 47 [.int .i64 (0), .int .i64 (0), .slice none 0 0, .slice none 0 0] ∧ Below w8.heap.size w8 w9) ?_ ?_
          ·exact ⟨Blk.new w8 47 [.int .i64 0, .int .i64 0, .slice none 0 0, .slice none 0 0], (Below.refl _ _).alloc (Nat.le_refl _) _⟩
          rintro w9 ⟨k0, kb⟩
          have c0 := k0.cell 0 _ rfl
          have c1 := k0.cell 1 _ rfl
          have c2 := k0.cell 2 _ rfl
          have c3 := k0.cell 3 _ rfl
          have hb16 := k0.lt
          have hs9 := H8.out.2.2.2.1
          have H9 := Lib.hid (And.intro (H8.out.2.2.1.quiet kb) (And.intro (show RwsF (fun x => S x ∨ (wr.heap.size ≤ x ∧ x < w8.heap.size)) w9 (.slice none 0 0) ([] : List (List UInt8)) from ⟨[], Sho.nil _ 1, fun h => absurd h (Nat.not_lt_zero _), fun i h => absurd h (Nat.not_lt_zero _)⟩) (And.intro (show RwsF (fun x => S x ∨ (wr.heap.size ≤ x ∧ x < w8.heap.size)) w9 (.slice none 0 0) ([] : List (List UInt8)) from ⟨[], Sho.nil _ 1, fun h => absurd h (Nat.not_lt_zero _), fun i h => absurd h (Nat.not_lt_zero _)⟩) (And.intro k0 kb))))
          clear k0 kb pb pm
          refine wp_region_held_drew (S := fun w' => w'.cell? ⟨w8.heap.size, 0, none⟩ = some (.int .i64 (0)) ∧ w'.cell? ⟨w8.heap.size, 1, none⟩ = some (.int .i64 (0)) ∧ w'.cell? ⟨w8.heap.size, 2, none⟩ = some (.slice none 0 0) ∧ w'.cell? ⟨w8.heap.size, 3, none⟩ = some (.slice none 0 0)) (by kernel_rfl) ?_ (fun hHeld => ?_)
          ·exact ⟨c0, c1, c2, c3⟩
          refine ty 0 147 rfl rfl ?_; simp only [sa, sb, sc]
          refine ty 1 148 rfl rfl ?_; simp only [sa, sb, sc]
          refine ty 2 149 rfl rfl ?_; simp only [sa, sb, sc]
          refine ty 3 150 rfl rfl ?_; simp only [sa, sb, sc]
          refine ty 5 152 rfl rfl ?_; simp only [sa, sb, sc]
          refine ty 6 153 rfl rfl ?_; simp only [sa, sb, sc]
          refine ty 7 154 rfl rfl ?_; simp only [sa, sb, sc]
          refine ty 8 155 rfl rfl ?_; simp only [sa, sb, sc]
          refine rd 4 (by kernel_rfl) rfl (fun K hK => ?_)
          go_simp
          go_at_call 12
          refine (play_reply HJ.out (by omega) (by omega) HSP.out zCg HGD.out.1 (wn : Int) 0 (T + DT) _ (H9.out.1.quiet (Below.refl _ _).drew) (CgF.cgv (S := fun x => S x ∨ (wr.heap.size ≤ x ∧ x < w8.heap.size)) ⟨_, _, rfl, H9.out.2.1.below (Below.refl _ _).drew, H9.out.2.2.1.below (Below.refl _ _).drew⟩)).mono ?_
          rintro e w10 ⟨rfl, h1, h2⟩
          have hyz : ∀ x, (S x ∨ (wr.heap.size ≤ x ∧ x < w8.heap.size)) → ¬ Z x := fun x hx e => by
           have h5 := HI2.out.pi.zl x e
           rcases hx with hx | hx
           ·exact (HI2.out.sz x hx).1 e
           ·omega
          have kA := (H9.out.2.2.2.1.below (Below.refl _ _).drew).chg h2 (fun e => by have := HI2.out.pi.zl _ e; omega)
          have c0' := kA.cell 0 _ rfl
          have c1' := kA.cell 1 _ rfl
          have c2' := kA.cell 2 _ rfl
          have c3' := kA.cell 3 _ rfl
          have H10 := Lib.hid (And.intro h1 (And.intro ((H9.out.2.1.below (Below.refl _ _).drew).chg h2 hyz) (And.intro ((H9.out.2.2.1.below (Below.refl _ _).drew).chg h2 hyz) (And.intro kA (And.intro h2.size hyz)))))
          clear h1 h2 hyz kA
          go_wp2_with fail
          refine hK.out _ _ ⟨c0', c1', c2', c3'⟩ (fun hHeld4 => ?_)
          clear hK K; try simp only [Act.put, sa, sb, sc]
          refine rd 9 (by kernel_rfl) rfl (fun K hK => ?_)
          go_simp
          go_at_call 39
          refine (play_mreply (Y := fun x => S x ∨ (wr.heap.size ≤ x ∧ x < w8.heap.size)) HJ.out (by omega) (by omega) HSP.out zCg HGD.out.1 (wn : Int) 0 (T + DT) _ H10.out.1 ⟨_, _, rfl, H10.out.2.1, H10.out.2.2.1⟩ (fun x hx => ?_)).mono ?_
          ·have h5 : w9.drew.heap.size ≤ w10.heap.size := H10.out.2.2.2.2.1
           have h6 : w8.heap.size ≤ w9.heap.size := H9.out.2.2.2.2.size
           have h7 : w9.drew.heap.size = w9.heap.size := rfl
           refine ⟨fun hz => ?_, ?_, ?_⟩
           ·rcases hz with hz | hz
            ·exact H10.out.2.2.2.2.2 x hx hz
            ·have h8 : w9.drew.heap.size ≤ x := hz.1
             rcases hx with hx | hx
             ·have := (HI2.out.sz x hx).2.2; omega
             ·omega
           ·intro hm
            rcases hx with hx | hx
            ·exact (HI2.out.sz x hx).2.1 hm
            ·have := HI2.out.pi.md.lt x hm; omega
           ·rcases hx with hx | hx
            ·have := (HI2.out.sz x hx).2.2; omega
            ·omega
          rintro e w11 ⟨rfl, ⟨D', h1⟩, h2⟩
          have kB := H10.out.2.2.2.1.chg h2 (fun e => by have := HI2.out.pi.md.lt _ e; omega)
          have c0'' := kB.cell 0 _ rfl
          have c1'' := kB.cell 1 _ rfl
          have c2'' := kB.cell 2 _ rfl
          have c3'' := kB.cell 3 _ rfl
          have H11 := Lib.hid h1
          clear h1 h2 kB
          go_wp2_with fail
          refine hK.out _ _ ⟨c0'', c1'', c2'', c3''⟩ (fun hHeld9 => ?_)
          clear hK K; try simp only [Act.put, sa, sb, sc]
          refine ty 10 157 rfl rfl ?_; simp only [sa, sb, sc]
          refine ty 11 16 rfl rfl ?_; simp only [sa, sb, sc]
          refine wpAnyH_done (by kernel_rfl) ?_ _
          clear hHeld hHeld4 hHeld9 c0 c1 c2 c3 c0' c1' c2' c3' c0'' c1'' c2'' c3''
          go_wp2_with fail
          go_meet
          case rel => exact ⟨by simp, _, _, Lib.hid ⟨HJN.out, _, _, H11.out⟩⟩
        | true =>
         as_aux_lemma =>
          have HGD : Hid (SmallSig (CgD.sig ⟨gw, ⟨ix, Ps, Qs⟩⟩) ∧ (CgD.sig ⟨gw, ⟨ix, Ps, Qs⟩⟩).parts.length ≤ 1000000 ∧ (CgD.sig ⟨gw, ⟨ix, Ps, Qs⟩⟩).path.length ≤ 1000000) := Lib.hid H8.out.2.2.2.2
          have HJN := Lib.hid (HJ.out.reply (wn : Int) 0 (T + DT) ⟨gw, ⟨ix, Ps, Qs⟩⟩ HGD.out)
          go_wp2_with fail
          refine code_at (fun w9 => Blk w9 w8.heap.size 47 [.int .i64 (gw), .int .i64 (ix), .slice P4 Ps.length cp, .slice Q4 Qs.length cq] ∧ Below w8.heap.size w8 w9) ?_ ?_
          ·exact ⟨Blk.new w8 47 [.int .i64 gw, .int .i64 ix, .slice P4 Ps.length cp, .slice Q4 Qs.length cq], (Below.refl _ _).alloc (Nat.le_refl _) _⟩
          rintro w9 ⟨k0, kb⟩
          have c0 := k0.cell 0 _ rfl
          have c1 := k0.cell 1 _ rfl
          have c2 := k0.cell 2 _ rfl
          have c3 := k0.cell 3 _ rfl
          have hb16 := k0.lt
          have hs9 := H8.out.2.2.2.1
          have H9 := Lib.hid (And.intro (H8.out.2.2.1.quiet kb) (And.intro (H8.out.1.below kb) (And.intro (H8.out.2.1.below kb) (And.intro k0 kb))))
          clear k0 kb pb pm
          refine wp_region_held_drew (S := fun w' => w'.cell? ⟨w8.heap.size, 0, none⟩ = some (.int .i64 (gw)) ∧ w'.cell? ⟨w8.heap.size, 1, none⟩ = some (.int .i64 (ix)) ∧ w'.cell? ⟨w8.heap.size, 2, none⟩ = some (.slice P4 Ps.length cp) ∧ w'.cell? ⟨w8.heap.size, 3, none⟩ = some (.slice Q4 Qs.length cq)) (by kernel_rfl) ?_ (fun hHeld => ?_)
          ·exact ⟨c0, c1, c2, c3⟩
          refine ty 0 147 rfl rfl ?_; simp only [sa, sb, sc]
          refine ty 1 148 rfl rfl ?_; simp only [sa, sb, sc]
          refine ty 2 149 rfl rfl ?_; simp only [sa, sb, sc]
          refine ty 3 150 rfl rfl ?_; simp only [sa, sb, sc]
          refine ty 5 152 rfl rfl ?_; simp only [sa, sb, sc]
          refine ty 6 153 rfl rfl ?_; simp only [sa, sb, sc]
          refine ty 7 154 rfl rfl ?_; simp only [sa, sb, sc]
          refine ty 8 155 rfl rfl ?_; simp only [sa, sb, sc]
          refine rd 4 (by kernel_rfl) rfl (fun K hK => ?_)
          go_simp
          go_at_call 12
          refine (play_reply HJ.out (by omega) (by omega) HSP.out ⟨gw, ⟨ix, Ps, Qs⟩⟩ HGD.out.1 (wn : Int) 0 (T + DT) _ (H9.out.1.quiet (Below.refl _ _).drew) (CgF.cgv (S := fun x => S x ∨ (wr.heap.size ≤ x ∧ x < w8.heap.size)) ⟨_, _, rfl, H9.out.2.1.below (Below.refl _ _).drew, H9.out.2.2.1.below (Below.refl _ _).drew⟩)).mono ?_
          rintro e w10 ⟨rfl, h1, h2⟩
          have hyz : ∀ x, (S x ∨ (wr.heap.size ≤ x ∧ x < w8.heap.size)) → ¬ Z x := fun x hx e => by
           have h5 := HI2.out.pi.zl x e
           rcases hx with hx | hx
           ·exact (HI2.out.sz x hx).1 e
           ·omega
          have kA := (H9.out.2.2.2.1.below (Below.refl _ _).drew).chg h2 (fun e => by have := HI2.out.pi.zl _ e; omega)
          have c0' := kA.cell 0 _ rfl
          have c1' := kA.cell 1 _ rfl
          have c2' := kA.cell 2 _ rfl
          have c3' := kA.cell 3 _ rfl
          have H10 := Lib.hid (And.intro h1 (And.intro ((H9.out.2.1.below (Below.refl _ _).drew).chg h2 hyz) (And.intro ((H9.out.2.2.1.below (Below.refl _ _).drew).chg h2 hyz) (And.intro kA (And.intro h2.size hyz)))))
          clear h1 h2 hyz kA
          go_wp2_with fail
          refine hK.out _ _ ⟨c0', c1', c2', c3'⟩ (fun hHeld4 => ?_)
          clear hK K; try simp only [Act.put, sa, sb, sc]
          refine rd 9 (by kernel_rfl) rfl (fun K hK => ?_)
          go_simp
          go_at_call 39
          refine (play_mreply (Y := fun x => S x ∨ (wr.heap.size ≤ x ∧ x < w8.heap.size)) HJ.out (by omega) (by omega) HSP.out ⟨gw, ⟨ix, Ps, Qs⟩⟩ HGD.out.1 (wn : Int) 0 (T + DT) _ H10.out.1 ⟨_, _, rfl, H10.out.2.1, H10.out.2.2.1⟩ (fun x hx => ?_)).mono ?_
          ·have h5 : w9.drew.heap.size ≤ w10.heap.size := H10.out.2.2.2.2.1
           have h6 : w8.heap.size ≤ w9.heap.size := H9.out.2.2.2.2.size
           have h7 : w9.drew.heap.size = w9.heap.size := rfl
           refine ⟨fun hz => ?_, ?_, ?_⟩
           ·rcases hz with hz | hz
            ·exact H10.out.2.2.2.2.2 x hx hz
            ·have h8 : w9.drew.heap.size ≤ x := hz.1
             rcases hx with hx | hx
             ·have := (HI2.out.sz x hx).2.2; omega
             ·omega
           ·intro hm
            rcases hx with hx | hx
            ·exact (HI2.out.sz x hx).2.1 hm
            ·have := HI2.out.pi.md.lt x hm; omega
           ·rcases hx with hx | hx
            ·have := (HI2.out.sz x hx).2.2; omega
            ·omega
          rintro e w11 ⟨rfl, ⟨D', h1⟩, h2⟩
          have kB := H10.out.2.2.2.1.chg h2 (fun e => by have := HI2.out.pi.md.lt _ e; omega)
          have c0'' := kB.cell 0 _ rfl
          have c1'' := kB.cell 1 _ rfl
          have c2'' := kB.cell 2 _ rfl
          have c3'' := kB.cell 3 _ rfl
          have H11 := Lib.hid h1
          clear h1 h2 kB
          go_wp2_with fail
          refine hK.out _ _ ⟨c0'', c1'', c2'', c3''⟩ (fun hHeld9 => ?_)
          clear hK K; try simp only [Act.put, sa, sb, sc]
          refine ty 10 157 rfl rfl ?_; simp only [sa, sb, sc]
          refine ty 11 16 rfl rfl ?_; simp only [sa, sb, sc]
          refine wpAnyH_done (by kernel_rfl) ?_ _
          clear hHeld hHeld4 hHeld9 c0 c1 c2 c3 c0' c1' c2' c3' c0'' c1'' c2'' c3''
          go_wp2_with fail
          go_meet
          case rel => exact ⟨by simp, _, _, Lib.hid ⟨HJN.out, _, _, H11.out⟩⟩
       | true =>
        cases hb with
        | false =>
         as_aux_lemma =>
          have HGD : Hid (SmallSig (CgD.sig zCg) ∧ (CgD.sig zCg).parts.length ≤ 1000000 ∧ (CgD.sig zCg).path.length ≤ 1000000) := Lib.hid ⟨zCg_small, Nat.zero_le _, Nat.zero_le _⟩
          have HJN := Lib.hid (HJ.out.reply (wn : Int) 0 (T + DT) zCg HGD.out)
          go_wp2_with fail
          refine code_at (fun w9 => Blk w9 w8.heap.size 47 [.int .i64 (0), .int .i64 (0), .slice none 0 0, .slice none 0 0] ∧ Below w8.heap.size w8 w9) ?_ ?_
          ·exact ⟨Blk.new w8 47 [.int .i64 0, .int .i64 0, .slice none 0 0, .slice none 0 0], (Below.refl _ _).alloc (Nat.le_refl _) _⟩
          rintro w9 ⟨k0, kb⟩
          have c0 := k0.cell 0 _ rfl
          have c1 := k0.cell 1 _ rfl
          have c2 := k0.cell 2 _ rfl
          have c3 := k0.cell 3 _ rfl
          have hb16 := k0.lt
          have hs9 := H8.out.2.2.2.1
          have H9 := Lib.hid (And.intro (H8.out.2.2.1.quiet kb) (And.intro (show RwsF (fun x => S x ∨ (wr.heap.size ≤ x ∧ x < w8.heap.size)) w9 (.slice none 0 0) ([] : List (List UInt8)) from ⟨[], Sho.nil _ 1, fun h => absurd h (Nat.not_lt_zero _), fun i h => absurd h (Nat.not_lt_zero _)⟩) (And.intro (show RwsF (fun x => S x ∨ (wr.heap.size ≤ x ∧ x < w8.heap.size)) w9 (.slice none 0 0) ([] : List (List UInt8)) from ⟨[], Sho.nil _ 1, fun h => absurd h (Nat.not_lt_zero _), fun i h => absurd h (Nat.not_lt_zero _)⟩) (And.intro k0 kb))))
          clear k0 kb pb pm
          refine wp_region_held_drew (S := fun w' => w'.cell? ⟨w8.heap.size, 0, none⟩ = some (.int .i64 (0)) ∧ w'.cell? ⟨w8.heap.size, 1, none⟩ = some (.int .i64 (0)) ∧ w'.cell? ⟨w8.heap.size, 2, none⟩ = some (.slice none 0 0) ∧ w'.cell? ⟨w8.heap.size, 3, none⟩ = some (.slice none 0 0)) (by kernel_rfl) ?_ (fun hHeld => ?_)
          ·exact ⟨c0, c1, c2, c3⟩
          refine ty 0 147 rfl rfl ?_; simp only [sa, sb, sc]
          refine ty 1 148 rfl rfl ?_; simp only [sa, sb, sc]
          refine ty 2 149 rfl rfl ?_; simp only [sa, sb, sc]
          refine ty 3 150 rfl rfl ?_; simp only [sa, sb, sc]
          refine ty 5 152 rfl rfl ?_; simp only [sa, sb, sc]
          refine ty 6 153 rfl rfl ?_; simp only [sa, sb, sc]
          refine ty 7 154 rfl rfl ?_; simp only [sa, sb, sc]
          refine ty 8 155 rfl rfl ?_; simp only [sa, sb, sc]
          refine rd 4 (by kernel_rfl) rfl (fun K hK => ?_)
          go_simp
          go_at_call 12
          refine (play_reply HJ.out (by omega) (by omega) HSP.out zCg HGD.out.1 (wn : Int) 0 (T + DT) _ (H9.out.1.quiet (Below.refl _ _).drew) (CgF.cgv (S := fun x => S x ∨ (wr.heap.size ≤ x ∧ x < w8.heap.size)) ⟨_, _, rfl, H9.out.2.1.below (Below.refl _ _).drew, H9.out.2.2.1.below (Below.refl _ _).drew⟩)).mono ?_
          rintro e w10 ⟨rfl, h1, h2⟩
          have hyz : ∀ x, (S x ∨ (wr.heap.size ≤ x ∧ x < w8.heap.size)) → ¬ Z x := fun x hx e => by
           have h5 := HI2.out.pi.zl x e
           rcases hx with hx | hx
           ·exact (HI2.out.sz x hx).1 e
           ·omega
          have kA := (H9.out.2.2.2.1.below (Below.refl _ _).drew).chg h2 (fun e => by have := HI2.out.pi.zl _ e; omega)
          have c0' := kA.cell 0 _ rfl
          have c1' := kA.cell 1 _ rfl
          have c2' := kA.cell 2 _ rfl
          have c3' := kA.cell 3 _ rfl
          have H10 := Lib.hid (And.intro h1 (And.intro ((H9.out.2.1.below (Below.refl _ _).drew).chg h2 hyz) (And.intro ((H9.out.2.2.1.below (Below.refl _ _).drew).chg h2 hyz) (And.intro kA (And.intro h2.size hyz)))))
          clear h1 h2 hyz kA
          go_wp2_with fail
          refine hK.out _ _ ⟨c0', c1', c2', c3'⟩ (fun hHeld4 => ?_)
          clear hK K; try simp only [Act.put, sa, sb, sc]
          refine rd 9 (by kernel_rfl) rfl (fun K hK => ?_)
          go_simp
          go_at_call 39
          refine (play_mreply (Y := fun x => S x ∨ (wr.heap.size ≤ x ∧ x < w8.heap.size)) HJ.out (by omega) (by omega) HSP.out zCg HGD.out.1 (wn : Int) 0 (T + DT) _ H10.out.1 ⟨_, _, rfl, H10.out.2.1, H10.out.2.2.1⟩ (fun x hx => ?_)).mono ?_
          ·have h5 : w9.drew.heap.size ≤ w10.heap.size := H10.out.2.2.2.2.1
           have h6 : w8.heap.size ≤ w9.heap.size := H9.out.2.2.2.2.size
           have h7 : w9.drew.heap.size = w9.heap.size := rfl
           refine ⟨fun hz => ?_, ?_, ?_⟩
           ·rcases hz with hz | hz
            ·exact H10.out.2.2.2.2.2 x hx hz
            ·have h8 : w9.drew.heap.size ≤ x := hz.1
             rcases hx with hx | hx
             ·have := (HI2.out.sz x hx).2.2; omega
             ·omega
           ·intro hm
            rcases hx with hx | hx
            ·exact (HI2.out.sz x hx).2.1 hm
            ·have := HI2.out.pi.md.lt x hm; omega
           ·rcases hx with hx | hx
            ·have := (HI2.out.sz x hx).2.2; omega
            ·omega
          rintro e w11 ⟨rfl, ⟨D', h1⟩, h2⟩
          have kB := H10.out.2.2.2.1.chg h2 (fun e => by have := HI2.out.pi.md.lt _ e; omega)
          have c0'' := kB.cell 0 _ rfl
          have c1'' := kB.cell 1 _ rfl
          have c2'' := kB.cell 2 _ rfl
          have c3'' := kB.cell 3 _ rfl
          have H11 := Lib.hid h1
          clear h1 h2 kB
          go_wp2_with fail
          refine hK.out _ _ ⟨c0'', c1'', c2'', c3''⟩ (fun hHeld9 => ?_)
          clear hK K; try simp only [Act.put, sa, sb, sc]
          refine ty 10 157 rfl rfl ?_; simp only [sa, sb, sc]
          refine ty 11 16 rfl rfl ?_; simp only [sa, sb, sc]
          refine wpAnyH_done (by kernel_rfl) ?_ _
          clear hHeld hHeld4 hHeld9 c0 c1 c2 c3 c0' c1' c2' c3' c0'' c1'' c2'' c3''
          go_wp2_with fail
          go_meet
          case rel => exact ⟨by simp, _, _, Lib.hid ⟨HJN.out, _, _, H11.out⟩⟩
        | true =>
         as_aux_lemma =>
          have HGD : Hid (SmallSig (CgD.sig ⟨z, ⟨ix, Ps, Qs⟩⟩) ∧ (CgD.sig ⟨z, ⟨ix, Ps, Qs⟩⟩).parts.length ≤ 1000000 ∧ (CgD.sig ⟨z, ⟨ix, Ps, Qs⟩⟩).path.length ≤ 1000000) := Lib.hid H8.out.2.2.2.2
          have HJN := Lib.hid (HJ.out.reply (wn : Int) 0 (T + DT) ⟨z, ⟨ix, Ps, Qs⟩⟩ HGD.out)
          go_wp2_with fail
          refine code_at (fun w9 => Blk w9 w8.heap.size 47 [.int .i64 (z), .int .i64 (ix), .slice P4 Ps.length cp, .slice Q4 Qs.length cq] ∧ Below w8.heap.size w8 w9) ?_ ?_
          ·exact ⟨Blk.new w8 47 [.int .i64 z, .int .i64 ix, .slice P4 Ps.length cp, .slice Q4 Qs.length cq], (Below.refl _ _).alloc (Nat.le_refl _) _⟩
          rintro w9 ⟨k0, kb⟩
          have c0 := k0.cell 0 _ rfl
          have c1 := k0.cell 1 _ rfl
          have c2 := k0.cell 2 _ rfl
          have c3 := k0.cell 3 _ rfl
          have hb16 := k0.lt
          have hs9 := H8.out.2.2.2.1
          have H9 := Lib.hid (And.intro (H8.out.2.2.1.quiet kb) (And.intro (H8.out.1.below kb) (And.intro (H8.out.2.1.below kb) (And.intro k0 kb))))
          clear k0 kb pb pm
          refine wp_region_held_drew (S := fun w' => w'.cell? ⟨w8.heap.size, 0, none⟩ = some (.int .i64 (z)) ∧ w'.cell? ⟨w8.heap.size, 1, none⟩ = some (.int .i64 (ix)) ∧ w'.cell? ⟨w8.heap.size, 2, none⟩ = some (.slice P4 Ps.length cp) ∧ w'.cell? ⟨w8.heap.size, 3, none⟩ = some (.slice Q4 Qs.length cq)) (by kernel_rfl) ?_ (fun hHeld => ?_)
          ·exact ⟨c0, c1, c2, c3⟩
          refine ty 0 147 rfl rfl ?_; simp only [sa, sb, sc]
          refine ty 1 148 rfl rfl ?_; simp only [sa, sb, sc]
          refine ty 2 149 rfl rfl ?_; simp only [sa, sb, sc]
          refine ty 3 150 rfl rfl ?_; simp only [sa, sb, sc]
          refine ty 5 152 rfl rfl ?_; simp only [sa, sb, sc]
          refine ty 6 153 rfl rfl ?_; simp only [sa, sb, sc]
          refine ty 7 154 rfl rfl ?_; simp only [sa, sb, sc]
          refine ty 8 155 rfl rfl ?_; simp only [sa, sb, sc]
          refine rd 4 (by kernel_rfl) rfl (fun K hK => ?_)
          go_simp
          go_at_call 12
          refine (play_reply HJ.out (by omega) (by omega) HSP.out ⟨z, ⟨ix, Ps, Qs⟩⟩ HGD.out.1 (wn : Int) 0 (T + DT) _ (H9.out.1.quiet (Below.refl _ _).drew) (CgF.cgv (S := fun x => S x ∨ (wr.heap.size ≤ x ∧ x < w8.heap.size)) ⟨_, _, rfl, H9.out.2.1.below (Below.refl _ _).drew, H9.out.2.2.1.below (Below.refl _ _).drew⟩)).mono ?_
          rintro e w10 ⟨rfl, h1, h2⟩
          have hyz : ∀ x, (S x ∨ (wr.heap.size ≤ x ∧ x < w8.heap.size)) → ¬ Z x := fun x hx e => by
           have h5 := HI2.out.pi.zl x e
           rcases hx with hx | hx
           ·exact (HI2.out.sz x hx).1 e
           ·omega
          have kA := (H9.out.2.2.2.1.below (Below.refl _ _).drew).chg h2 (fun e => by have := HI2.out.pi.zl _ e; omega)
          have c0' := kA.cell 0 _ rfl
          have c1' := kA.cell 1 _ rfl
          have c2' := kA.cell 2 _ rfl
          have c3' := kA.cell 3 _ rfl
          have H10 := Lib.hid (And.intro h1 (And.intro ((H9.out.2.1.below (Below.refl _ _).drew).chg h2 hyz) (And.intro ((H9.out.2.2.1.below (Below.refl _ _).drew).chg h2 hyz) (And.intro kA (And.intro h2.size hyz)))))
          clear h1 h2 hyz kA
          go_wp2_with fail
          refine hK.out _ _ ⟨c0', c1', c2', c3'⟩ (fun hHeld4 => ?_)
          clear hK K; try simp only [Act.put, sa, sb, sc]
          refine rd 9 (by kernel_rfl) rfl (fun K hK => ?_)
          go_simp
          go_at_call 39
          refine (play_mreply (Y := fun x => S x ∨ (wr.heap.size ≤ x ∧ x < w8.heap.size)) HJ.out (by omega) (by omega) HSP.out ⟨z, ⟨ix, Ps, Qs⟩⟩ HGD.out.1 (wn : Int) 0 (T + DT) _ H10.out.1 ⟨_, _, rfl, H10.out.2.1, H10.out.2.2.1⟩ (fun x hx => ?_)).mono ?_
          ·have h5 : w9.drew.heap.size ≤ w10.heap.size := H10.out.2.2.2.2.1
           have h6 : w8.heap.size ≤ w9.heap.size := H9.out.2.2.2.2.size
           have h7 : w9.drew.heap.size = w9.heap.size := rfl
           refine ⟨fun hz => ?_, ?_, ?_⟩
           ·rcases hz with hz | hz
            ·exact H10.out.2.2.2.2.2 x hx hz
            ·have h8 : w9.drew.heap.size ≤ x := hz.1
             rcases hx with hx | hx
             ·have := (HI2.out.sz x hx).2.2; omega
             ·omega
           ·intro hm
            rcases hx with hx | hx
            ·exact (HI2.out.sz x hx).2.1 hm
            ·have := HI2.out.pi.md.lt x hm; omega
           ·rcases hx with hx | hx
            ·have := (HI2.out.sz x hx).2.2; omega
            ·omega
          rintro e w11 ⟨rfl, ⟨D', h1⟩, h2⟩
          have kB := H10.out.2.2.2.1.chg h2 (fun e => by have := HI2.out.pi.md.lt _ e; omega)
          have c0'' := kB.cell 0 _ rfl
          have c1'' := kB.cell 1 _ rfl
          have c2'' := kB.cell 2 _ rfl
          have c3'' := kB.cell 3 _ rfl
          have H11 := Lib.hid h1
          clear h1 h2 kB
          go_wp2_with fail
          refine hK.out _ _ ⟨c0'', c1'', c2'', c3''⟩ (fun hHeld9 => ?_)
          clear hK K; try simp only [Act.put, sa, sb, sc]
          refine ty 10 157 rfl rfl ?_; simp only [sa, sb, sc]
          refine ty 11 16 rfl rfl ?_; simp only [sa, sb, sc]
          refine wpAnyH_done (by kernel_rfl) ?_ _
          clear hHeld hHeld4 hHeld9 c0 c1 c2 c3 c0' c1' c2' c3' c0'' c1'' c2'' c3''
          go_wp2_with fail
          go_meet
          case rel => exact ⟨by simp, _, _, Lib.hid ⟨HJN.out, _, _, H11.out⟩⟩
      by_cases hK4 : KI = 4
      ·clear n1 n2 hK1 hK2 hK3
       subst hK4
       have HJN := Lib.hid (HJ.out.reply X1 X2 (T + DT) zCg ⟨zCg_small, Nat.zero_le _, Nat.zero_le _⟩)
       have p1 := (HI2.out.below.cell (p := ⟨gx, ox + i * 5 + 1, none⟩) hg).trans HXC.out.2.1
       have p2 := (HI2.out.below.cell (p := ⟨gx, ox + i * 5 + 2, none⟩) hg).trans HXC.out.2.2.1
       go_wp2_with fail
       refine wp_region_held_drew (S := fun w' => w'.cell? ⟨gx, ox + i * 5 + 1, none⟩ = some (.int .i64 X1) ∧ w'.cell? ⟨gx, ox + i * 5 + 2, none⟩ = some (.int .i64 X2)) (by kernel_rfl) ?_ (fun hHeld => ?_)
       ·exact ⟨p1, p2⟩
       refine ty 0 160 rfl rfl ?_; simp only [sa, sb, sc]
       refine ty 1 161 rfl rfl ?_; simp only [sa, sb, sc]
       refine ty 2 162 rfl rfl ?_; simp only [sa, sb, sc]
       refine ty 3 163 rfl rfl ?_; simp only [sa, sb, sc]
       refine ty 4 164 rfl rfl ?_; simp only [sa, sb, sc]
       refine ty 5 165 rfl rfl ?_; simp only [sa, sb, sc]
       refine ty 6 166 rfl rfl ?_; simp only [sa, sb, sc]
       refine ty 7 167 rfl rfl ?_; simp only [sa, sb, sc]
       refine ty 8 168 rfl rfl ?_; simp only [sa, sb, sc]
       refine ty 9 169 rfl rfl ?_; simp only [sa, sb, sc]
       refine ty 10 170 rfl rfl ?_; simp only [sa, sb, sc]
       refine ty 11 171 rfl rfl ?_; simp only [sa, sb, sc]
       refine ty 12 172 rfl rfl ?_; simp only [sa, sb, sc]
       refine ty 14 174 rfl rfl ?_; simp only [sa, sb, sc]
       refine ty 15 175 rfl rfl ?_; simp only [sa, sb, sc]
       refine ty 16 176 rfl rfl ?_; simp only [sa, sb, sc]
       refine ty 17 177 rfl rfl ?_; simp only [sa, sb, sc]
       refine ty 18 178 rfl rfl ?_; simp only [sa, sb, sc]
       refine ty 19 179 rfl rfl ?_; simp only [sa, sb, sc]
       refine ty 20 180 rfl rfl ?_; simp only [sa, sb, sc]
       refine ty 21 181 rfl rfl ?_; simp only [sa, sb, sc]
       refine ty 22 182 rfl rfl ?_; simp only [sa, sb, sc]
       refine ty 23 183 rfl rfl ?_; simp only [sa, sb, sc]
       refine ty 24 184 rfl rfl ?_; simp only [sa, sb, sc]
       refine ty 25 185 rfl rfl ?_; simp only [sa, sb, sc]
       refine ty 26 186 rfl rfl ?_; simp only [sa, sb, sc]
       refine rd 13 (by kernel_rfl) rfl (fun K hK => ?_)
       go_simp
       go_at_call 12
       refine (play_reply HJ.out (by omega) (by omega) HSP.out zCg zCg_small X1 X2 (T + DT) _ (HI2.out.quiet (Below.refl _ _).drew) (zCg_v _)).mono ?_
       rintro e w10 ⟨rfl, h1, h2⟩
       have c1' := (h1.below.cell (p := ⟨gx, ox + i * 5 + 1, none⟩) hg).trans HXC.out.2.1
       have c2' := (h1.below.cell (p := ⟨gx, ox + i * 5 + 2, none⟩) hg).trans HXC.out.2.2.1
       have H10 := Lib.hid h1
       clear h1 h2
       go_wp2_with fail
       refine hK.out _ _ ⟨c1', c2'⟩ (fun hHeld13 => ?_)
       clear hK K; try simp only [Act.put, sa, sb, sc]
       refine rd 27 (by kernel_rfl) rfl (fun K hK => ?_)
       go_simp
       go_at_call 39
       refine (play_mreply (Y := fun _ => False) HJ.out (by omega) (by omega) HSP.out zCg zCg_small X1 X2 (T + DT) _ H10.out ⟨_, _, rfl, ⟨[], Sho.nil _ 1, fun h => absurd h (Nat.not_lt_zero _), fun i h => absurd h (Nat.not_lt_zero _)⟩, ⟨[], Sho.nil _ 1, fun h => absurd h (Nat.not_lt_zero _), fun i h => absurd h (Nat.not_lt_zero _)⟩⟩ (fun x hx => hx.elim)).mono ?_
       rintro e w11 ⟨rfl, ⟨D', h1⟩, h2⟩
       have c1'' := (h1.below.cell (p := ⟨gx, ox + i * 5 + 1, none⟩) hg).trans HXC.out.2.1
       have c2'' := (h1.below.cell (p := ⟨gx, ox + i * 5 + 2, none⟩) hg).trans HXC.out.2.2.1
       have H11 := Lib.hid h1
       clear h1 h2
       go_wp2_with fail
       refine hK.out _ _ ⟨c1'', c2''⟩ (fun hHeld27 => ?_)
       clear hK K; try simp only [Act.put, sa, sb, sc]
       refine ty 28 188 rfl rfl ?_; simp only [sa, sb, sc]
       refine ty 29 16 rfl rfl ?_; simp only [sa, sb, sc]
       refine wpAnyH_done (by kernel_rfl) ?_ _
       clear hHeld hHeld13 hHeld27 p1 p2 c1' c2' c1'' c2''
       go_wp2_with fail
       go_meet
       case rel => exact ⟨by simp, _, _, Lib.hid ⟨HJN.out, _, _, H11.out⟩⟩
      have n3 : ((KI == 3) : Bool) = false := by simpa using hK3
      have n4 : ((KI == 4) : Bool) = false := by simpa using hK4
      go_wp2_with fail
      go_meet
      case rel => exact ⟨rfl, _, _, Lib.hid ⟨HJ.out.more (by omega), _, _, HI2.out⟩⟩
    case rest =>
     as_aux_lemma =>
      obtain ⟨rfl, d', md', HN⟩ := hcut
      have HJ2 := Lib.hid HN.out.1
      obtain ⟨Z2, D2, hI2⟩ := HN.out.2
      have HI3 := Lib.hid hI2
      clear hI2 HN HI2 HJ HXC
      go_wp2_with fail
      refine (play_cur Z2 f d' md' P retry kn (i + 1) HJ2.out _ HI3.out.pi.fd).mono ?_
      rintro e w20 ⟨R20, rc20, P20, pc20, Q20, qc20, rfl, ⟨k1, k2, k3⟩, k4⟩
      have H20 := Lib.hid (And.intro k1 (And.intro k2 (And.intro k3 (HI3.out.quiet k4))))
      clear k1 k2 k3 k4
      go_wp2_with fail
      refine calls_at (fun w21 => Blk w21 w20.heap.size 40 [.int .i64 d'.cur.ck.num, .slice R20 d'.cur.ck.root.length rc20, .int .i64 d'.cur.sig.index, .slice P20 d'.cur.sig.parts.length pc20, .slice Q20 d'.cur.sig.path.length qc20] ∧ Below w20.heap.size w20 w21) ?_ ?_
      ·exact ⟨Blk.new w20 40 [.int .i64 d'.cur.ck.num, .slice R20 d'.cur.ck.root.length rc20, .int .i64 d'.cur.sig.index, .slice P20 d'.cur.sig.parts.length pc20, .slice Q20 d'.cur.sig.path.length qc20], (Below.refl _ _).alloc (Nat.le_refl _) _⟩
      rintro w21 ⟨kc, kd⟩
      have H21 := Lib.hid (And.intro kc (And.intro kd (H20.out.2.2.2.quiet kd)))
      clear kc kd
      refine (play_done Z2 f d' md' P retry kn (i + 1) HJ2.out (by omega) _ H21.out.2.2.pi.fd).mono ?_
      rintro e w22 ⟨R21, rc21, P21, pc21, Q21, qc21, E21, ec21, rfl, ⟨k1, k2, k3⟩, k4, k5⟩
      have H22 := Lib.hid (And.intro k1 (And.intro k2 (And.intro k3 (And.intro k4 (And.intro k5 (H21.out.2.2.quiet k5))))))
      clear k1 k2 k3 k4 k5
      go_wp2_with fail
      refine code_at (fun w23 => Blk w23 w22.heap.size 40 [.int .i64 d'.done.ck.num, .slice R21 d'.done.ck.root.length rc21, .int .i64 d'.done.sig.index, .slice P21 d'.done.sig.parts.length pc21, .slice Q21 d'.done.sig.path.length qc21] ∧ Below w22.heap.size w22 w23) ?_ ?_
      ·exact ⟨Blk.new w22 40 [.int .i64 d'.done.ck.num, .slice R21 d'.done.ck.root.length rc21, .int .i64 d'.done.sig.index, .slice P21 d'.done.sig.parts.length pc21, .slice Q21 d'.done.sig.path.length qc21], (Below.refl _ _).alloc (Nat.le_refl _) _⟩
      rintro w23 ⟨kd0, kd⟩
      have hw23 := H22.out.2.2.2.2.2.quiet kd
      have kc0 := (H21.out.1.below H22.out.2.2.2.2.1).below kd
      have hb20 : Below w20.heap.size w20 w23 := (H21.out.2.1.trans (H22.out.2.2.2.2.1.mono H21.out.2.1.size)).trans (kd.mono (Nat.le_trans H21.out.2.1.size H22.out.2.2.2.2.1.size))
      obtain ⟨r, hm⟩ := hw23.pi.md
      have hmc := HJ2.out.rl.cur
      have hmd := HJ2.out.rl.done
      have hmk := HJ2.out.rl.dk
      have t1 := hm.tx.cr.1
      have t2 := hm.tx.cp.rws
      have t3 := hm.tx.cq.rws
      have t4 := hm.tx.dr.1
      have t5 := hm.tx.dp.rws
      have t6 := hm.tx.dq.rws
      have t7 := hm.tx.ev.cgsv
      rw [hmc] at t1 t2 t3
      rw [hmd] at t4 t5 t6
      rw [hmk] at t7
      have hbk := hm.blk
      unfold mdCells at hbk
      rw [hmc, hmd] at hbk
      obtain ⟨RM, rcm, e1⟩ := t1.form
      obtain ⟨PM, pcm, e2⟩ := t2.form
      obtain ⟨QM, qcm, e3⟩ := t3.form
      obtain ⟨RN, rcn, e4⟩ := t4.form
      obtain ⟨PN, pcn, e5⟩ := t5.form
      obtain ⟨QN, qcn, e6⟩ := t6.form
      obtain ⟨EM, ecm, e7⟩ := t7.form
      rw [e1] at hbk t1
      rw [e2] at hbk t2
      rw [e3] at hbk t3
      rw [e4] at hbk t4
      rw [e5] at hbk t5
      rw [e6] at hbk t6
      rw [e7] at hbk t7
      have HE1 : Hid (∀ wz, Below w23.heap.size w23 wz → Calls Tryz.prog 41 #[.agg #[.int .i64 d'.cur.ck.num, .slice R20 d'.cur.ck.root.length rc20, .int .i64 d'.cur.sig.index, .slice P20 d'.cur.sig.parts.length pc20, .slice Q20 d'.cur.sig.path.length qc20], .agg #[.int .i64 d'.cur.ck.num, .slice RM d'.cur.ck.root.length rcm, .int .i64 d'.cur.sig.index, .slice PM d'.cur.sig.parts.length pcm, .slice QM d'.cur.sig.path.length qcm]] wz fun e w' => e = .returned (.bool true) ∧ Below wz.heap.size wz w') := Lib.hid (fun wz hz => by
       have hb := hb20.trans (hz.mono hb20.size)
       exact equal_same _ _ d'.cur HJ2.out.cu.1 HJ2.out.cu.2.2.2.2.1 HJ2.out.cu.2.2.2.2.2 wz ⟨_, _, _, rfl, H20.out.1.below hb, H20.out.2.1.below hb, H20.out.2.2.1.below hb⟩ ⟨_, _, _, rfl, t1.below hz, t2.below hz, t3.below hz⟩)
      have HE2 : Hid (∀ wz, Below w23.heap.size w23 wz → Calls Tryz.prog 41 #[.agg #[.int .i64 d'.done.ck.num, .slice R21 d'.done.ck.root.length rc21, .int .i64 d'.done.sig.index, .slice P21 d'.done.sig.parts.length pc21, .slice Q21 d'.done.sig.path.length qc21], .agg #[.int .i64 d'.done.ck.num, .slice RN d'.done.ck.root.length rcn, .int .i64 d'.done.sig.index, .slice PN d'.done.sig.parts.length pcn, .slice QN d'.done.sig.path.length qcn]] wz fun e w' => e = .returned (.bool true) ∧ Below wz.heap.size wz w') := Lib.hid (fun wz hz => by
       have hb := kd.trans (hz.mono kd.size)
       exact equal_same _ _ d'.done HJ2.out.dn.1 HJ2.out.dn.2.2.1 HJ2.out.dn.2.2.2 wz ⟨_, _, _, rfl, H22.out.1.below hb, H22.out.2.1.below hb, H22.out.2.2.1.below hb⟩ ⟨_, _, _, rfl, t4.below hz, t5.below hz, t6.below hz⟩)
      have HE3 : Hid (∀ wz, Below w23.heap.size w23 wz → Calls Tryz.prog 42 #[.slice E21 d'.enough.length ec21, .slice EM d'.enough.length ecm] wz fun e w' => e = .returned (.bool true) ∧ Below wz.heap.size wz w') := Lib.hid (fun wz hz => by
       have hb := kd.trans (hz.mono kd.size)
       exact cosigs_same _ _ d'.enough (fun x hx => (HJ2.out.es x hx).2) (by have := HJ2.out.el; omega) wz (H22.out.2.2.2.1.below hb) (t7.below hz))
      have H23 := Lib.hid hw23
      have hlc := kc0.lt
      have hld := kd0.lt
      have hlm := hbk.lt
      generalize w20.heap.size = bc at *
      generalize w22.heap.size = bd at *
      have s0 := kc0.cell 0 _ rfl
      have s1 := kc0.cell 1 _ rfl
      have s2 := kc0.cell 2 _ rfl
      have s3 := kc0.cell 3 _ rfl
      have s4 := kc0.cell 4 _ rfl
      have s5 := kd0.cell 0 _ rfl
      have s6 := kd0.cell 1 _ rfl
      have s7 := kd0.cell 2 _ rfl
      have s8 := kd0.cell 3 _ rfl
      have s9 := kd0.cell 4 _ rfl
      have s10 := hbk.cell 4 _ rfl
      have s11 := hbk.cell 5 _ rfl
      have s12 := hbk.cell 6 _ rfl
      have s13 := hbk.cell 7 _ rfl
      have s14 := hbk.cell 8 _ rfl
      have s15 := hbk.cell 9 _ rfl
      have s16 := hbk.cell 14 _ rfl
      have s17 := hbk.cell 15 _ rfl
      have s18 := hbk.cell 16 _ rfl
      have s19 := hbk.cell 17 _ rfl
      have s20 := hbk.cell 18 _ rfl
      have s21 := hbk.cell 19 _ rfl
      have s22 := hbk.cell 20 _ rfl
      clear kc0 kd0 hbk t1 t2 t3 t4 t5 t6 t7 hm hw23 e1 e2 e3 e4 e5 e6 e7 hmc hmd hmk hb20 kd H20 H21 H22
      generalize d'.cur.ck.num = dcn at *
      generalize d'.cur.ck.root.length = dcl at *
      generalize d'.cur.sig.index = dci at *
      generalize d'.cur.sig.parts.length = dcp at *
      generalize d'.cur.sig.path.length = dcq at *
      generalize d'.done.ck.num = ddn at *
      generalize d'.done.ck.root.length = ddl at *
      generalize d'.done.sig.index = ddi at *
      generalize d'.done.sig.parts.length = ddp at *
      generalize d'.done.sig.path.length = ddq at *
      generalize d'.enough.length = el at *
      generalize md'.has = mhas at *
      generalize md'.dh = mdh at *
      have HKEEP : Hid (∀ wa w' : World, Below wa.heap.size wa w' → (wa.cell? ⟨bc, 0, none⟩ = some (.int .i64 dcn) ∧ wa.cell? ⟨bc, 1, none⟩ = some (.slice R20 dcl rc20) ∧ wa.cell? ⟨bc, 2, none⟩ = some (.int .i64 dci) ∧ wa.cell? ⟨bc, 3, none⟩ = some (.slice P20 dcp pc20) ∧ wa.cell? ⟨bc, 4, none⟩ = some (.slice Q20 dcq qc20) ∧ wa.cell? ⟨bd, 0, none⟩ = some (.int .i64 ddn) ∧ wa.cell? ⟨bd, 1, none⟩ = some (.slice R21 ddl rc21) ∧ wa.cell? ⟨bd, 2, none⟩ = some (.int .i64 ddi) ∧ wa.cell? ⟨bd, 3, none⟩ = some (.slice P21 ddp pc21) ∧ wa.cell? ⟨bd, 4, none⟩ = some (.slice Q21 ddq qc21) ∧ wa.cell? ⟨mb, 4, none⟩ = some (.int .i64 dcn) ∧ wa.cell? ⟨mb, 5, none⟩ = some (.slice RM dcl rcm) ∧ wa.cell? ⟨mb, 6, none⟩ = some (.int .i64 dci) ∧ wa.cell? ⟨mb, 7, none⟩ = some (.slice PM dcp pcm) ∧ wa.cell? ⟨mb, 8, none⟩ = some (.slice QM dcq qcm) ∧ wa.cell? ⟨mb, 9, none⟩ = some (.bool mhas) ∧ wa.cell? ⟨mb, 14, none⟩ = some (.int .i64 ddn) ∧ wa.cell? ⟨mb, 15, none⟩ = some (.slice RN ddl rcn) ∧ wa.cell? ⟨mb, 16, none⟩ = some (.int .i64 ddi) ∧ wa.cell? ⟨mb, 17, none⟩ = some (.slice PN ddp pcn) ∧ wa.cell? ⟨mb, 18, none⟩ = some (.slice QN ddq qcn) ∧ wa.cell? ⟨mb, 19, none⟩ = some (.bool mdh) ∧ wa.cell? ⟨mb, 20, none⟩ = some (.slice EM el ecm)) → w'.cell? ⟨bc, 0, none⟩ = some (.int .i64 dcn) ∧ w'.cell? ⟨bc, 1, none⟩ = some (.slice R20 dcl rc20) ∧ w'.cell? ⟨bc, 2, none⟩ = some (.int .i64 dci) ∧ w'.cell? ⟨bc, 3, none⟩ = some (.slice P20 dcp pc20) ∧ w'.cell? ⟨bc, 4, none⟩ = some (.slice Q20 dcq qc20) ∧ w'.cell? ⟨bd, 0, none⟩ = some (.int .i64 ddn) ∧ w'.cell? ⟨bd, 1, none⟩ = some (.slice R21 ddl rc21) ∧ w'.cell? ⟨bd, 2, none⟩ = some (.int .i64 ddi) ∧ w'.cell? ⟨bd, 3, none⟩ = some (.slice P21 ddp pc21) ∧ w'.cell? ⟨bd, 4, none⟩ = some (.slice Q21 ddq qc21) ∧ w'.cell? ⟨mb, 4, none⟩ = some (.int .i64 dcn) ∧ w'.cell? ⟨mb, 5, none⟩ = some (.slice RM dcl rcm) ∧ w'.cell? ⟨mb, 6, none⟩ = some (.int .i64 dci) ∧ w'.cell? ⟨mb, 7, none⟩ = some (.slice PM dcp pcm) ∧ w'.cell? ⟨mb, 8, none⟩ = some (.slice QM dcq qcm) ∧ w'.cell? ⟨mb, 9, none⟩ = some (.bool mhas) ∧ w'.cell? ⟨mb, 14, none⟩ = some (.int .i64 ddn) ∧ w'.cell? ⟨mb, 15, none⟩ = some (.slice RN ddl rcn) ∧ w'.cell? ⟨mb, 16, none⟩ = some (.int .i64 ddi) ∧ w'.cell? ⟨mb, 17, none⟩ = some (.slice PN ddp pcn) ∧ w'.cell? ⟨mb, 18, none⟩ = some (.slice QN ddq qcn) ∧ w'.cell? ⟨mb, 19, none⟩ = some (.bool mdh) ∧ w'.cell? ⟨mb, 20, none⟩ = some (.slice EM el ecm)) := Lib.hid (fun wa w' hb h => by
       obtain ⟨g0, g1, g2, g3, g4, g5, g6, g7, g8, g9, g10, g11, g12, g13, g14, g15, g16, g17, g18, g19, g20, g21, g22⟩ := h
       exact ⟨keep_cell hb g0, keep_cell hb g1, keep_cell hb g2, keep_cell hb g3, keep_cell hb g4, keep_cell hb g5, keep_cell hb g6, keep_cell hb g7, keep_cell hb g8, keep_cell hb g9, keep_cell hb g10, keep_cell hb g11, keep_cell hb g12, keep_cell hb g13, keep_cell hb g14, keep_cell hb g15, keep_cell hb g16, keep_cell hb g17, keep_cell hb g18, keep_cell hb g19, keep_cell hb g20, keep_cell hb g21, keep_cell hb g22⟩)
      refine wp_region_held_drew (S := fun w' => w'.cell? ⟨bc, 0, none⟩ = some (.int .i64 dcn) ∧ w'.cell? ⟨bc, 1, none⟩ = some (.slice R20 dcl rc20) ∧ w'.cell? ⟨bc, 2, none⟩ = some (.int .i64 dci) ∧ w'.cell? ⟨bc, 3, none⟩ = some (.slice P20 dcp pc20) ∧ w'.cell? ⟨bc, 4, none⟩ = some (.slice Q20 dcq qc20) ∧ w'.cell? ⟨bd, 0, none⟩ = some (.int .i64 ddn) ∧ w'.cell? ⟨bd, 1, none⟩ = some (.slice R21 ddl rc21) ∧ w'.cell? ⟨bd, 2, none⟩ = some (.int .i64 ddi) ∧ w'.cell? ⟨bd, 3, none⟩ = some (.slice P21 ddp pc21) ∧ w'.cell? ⟨bd, 4, none⟩ = some (.slice Q21 ddq qc21) ∧ w'.cell? ⟨mb, 4, none⟩ = some (.int .i64 dcn) ∧ w'.cell? ⟨mb, 5, none⟩ = some (.slice RM dcl rcm) ∧ w'.cell? ⟨mb, 6, none⟩ = some (.int .i64 dci) ∧ w'.cell? ⟨mb, 7, none⟩ = some (.slice PM dcp pcm) ∧ w'.cell? ⟨mb, 8, none⟩ = some (.slice QM dcq qcm) ∧ w'.cell? ⟨mb, 9, none⟩ = some (.bool mhas) ∧ w'.cell? ⟨mb, 14, none⟩ = some (.int .i64 ddn) ∧ w'.cell? ⟨mb, 15, none⟩ = some (.slice RN ddl rcn) ∧ w'.cell? ⟨mb, 16, none⟩ = some (.int .i64 ddi) ∧ w'.cell? ⟨mb, 17, none⟩ = some (.slice PN ddp pcn) ∧ w'.cell? ⟨mb, 18, none⟩ = some (.slice QN ddq qcn) ∧ w'.cell? ⟨mb, 19, none⟩ = some (.bool mdh) ∧ w'.cell? ⟨mb, 20, none⟩ = some (.slice EM el ecm)) (by kernel_rfl) ?_ (fun hHeld => ?_)
      ·exact ⟨s0, s1, s2, s3, s4, s5, s6, s7, s8, s9, s10, s11, s12, s13, s14, s15, s16, s17, s18, s19, s20, s21, s22⟩
      refine ty 0 200 rfl rfl ?_; simp only [sa, sb, sc]
      refine ty 1 201 rfl rfl ?_; simp only [sa, sb, sc]
      refine ty 2 202 rfl rfl ?_; simp only [sa, sb, sc]
      refine ty 3 203 rfl rfl ?_; simp only [sa, sb, sc]
      refine ty 4 204 rfl rfl ?_; simp only [sa, sb, sc]
      refine ty 5 205 rfl rfl ?_; simp only [sa, sb, sc]
      refine ty 6 206 rfl rfl ?_; simp only [sa, sb, sc]
      refine ty 7 207 rfl rfl ?_; simp only [sa, sb, sc]
      refine ty 8 208 rfl rfl ?_; simp only [sa, sb, sc]
      refine ty 9 209 rfl rfl ?_; simp only [sa, sb, sc]
      refine ty 10 210 rfl rfl ?_; simp only [sa, sb, sc]
      refine ty 11 211 rfl rfl ?_; simp only [sa, sb, sc]
      refine ty 12 212 rfl rfl ?_; simp only [sa, sb, sc]
      refine ty 13 213 rfl rfl ?_; simp only [sa, sb, sc]
      refine ty 14 214 rfl rfl ?_; simp only [sa, sb, sc]
      refine ty 15 215 rfl rfl ?_; simp only [sa, sb, sc]
      refine rd 16 (by kernel_rfl) rfl (fun K hK => ?_)
      go_simp
      go_at_call 41
      refine (HE1.out w23.drew (Below.refl _ _).drew).mono ?_
      rintro e w24 ⟨rfl, hb⟩
      have hh := HKEEP.out _ _ hb hHeld
      have HB24 := Lib.hid (((Below.refl w23.heap.size w23).drew).trans (hb.mono (Nat.le_refl _)))
      go_wp2_with fail
      refine hK.out _ _ hh (fun hHeld16 => ?_)
      clear hK K; try simp only [Act.put, sa, sb, sc]
      refine ty 17 217 rfl rfl ?_; simp only [sa, sb, sc]
      refine ty 18 218 rfl rfl ?_; simp only [sa, sb, sc]
      refine ty 19 219 rfl rfl ?_; simp only [sa, sb, sc]
      refine ty 20 220 rfl rfl ?_; simp only [sa, sb, sc]
      refine ty 21 221 rfl rfl ?_; simp only [sa, sb, sc]
      refine ty 22 222 rfl rfl ?_; simp only [sa, sb, sc]
      refine ty 23 223 rfl rfl ?_; simp only [sa, sb, sc]
      refine ty 24 224 rfl rfl ?_; simp only [sa, sb, sc]
      refine ty 25 225 rfl rfl ?_; simp only [sa, sb, sc]
      refine ty 26 226 rfl rfl ?_; simp only [sa, sb, sc]
      refine ty 27 227 rfl rfl ?_; simp only [sa, sb, sc]
      refine ty 28 228 rfl rfl ?_; simp only [sa, sb, sc]
      refine ty 29 229 rfl rfl ?_; simp only [sa, sb, sc]
      refine ty 30 230 rfl rfl ?_; simp only [sa, sb, sc]
      refine ty 31 231 rfl rfl ?_; simp only [sa, sb, sc]
      refine ty 32 232 rfl rfl ?_; simp only [sa, sb, sc]
      refine rd 33 (by kernel_rfl) rfl (fun K hK => ?_)
      go_simp
      go_at_call 41
      refine (HE2.out w24 HB24.out).mono ?_
      rintro e w25 ⟨rfl, hb2⟩
      have hh2 := HKEEP.out _ _ hb2 hHeld16
      have HB25 := Lib.hid (HB24.out.trans (hb2.mono HB24.out.size))
      go_wp2_with fail
      refine hK.out _ _ hh2 (fun hHeld33 => ?_)
      clear hK K; try simp only [Act.put, sa, sb, sc]
      refine ty 34 234 rfl rfl ?_; simp only [sa, sb, sc]
      refine ty 35 235 rfl rfl ?_; simp only [sa, sb, sc]
      refine ty 36 236 rfl rfl ?_; simp only [sa, sb, sc]
      refine ty 37 237 rfl rfl ?_; simp only [sa, sb, sc]
      refine ty 38 238 rfl rfl ?_; simp only [sa, sb, sc]
      refine ty 39 239 rfl rfl ?_; simp only [sa, sb, sc]
      refine ty 40 240 rfl rfl ?_; simp only [sa, sb, sc]
      refine ty 41 241 rfl rfl ?_; simp only [sa, sb, sc]
      refine rd 42 (by kernel_rfl) rfl (fun K hK => ?_)
      go_simp
      go_at_call 42
      refine (HE3.out w25 HB25.out).mono ?_
      rintro e w26 ⟨rfl, hb3⟩
      have hh3 := HKEEP.out _ _ hb3 hHeld33
      have HB26 := Lib.hid (HB25.out.trans (hb3.mono HB25.out.size))
      go_wp2_with fail
      refine hK.out _ _ hh3 (fun hHeld42 => ?_)
      clear hK K; try simp only [Act.put, sa, sb, sc]
      refine ty 43 243 rfl rfl ?_; simp only [sa, sb, sc]
      refine ty 44 244 rfl rfl ?_; simp only [sa, sb, sc]
      refine wpAnyH_done (by kernel_rfl) ?_ _
      clear hHeld hHeld16 hHeld33 hHeld42 hh hh2 hh3 s0 s1 s2 s3 s4 s5 s6 s7 s8 s9 s10 s11 s12 s13 s14 s15 s16 s17 s18 s19 s20 s21 s22
      go_wp2_with fail
      go_roundg (gk - 1)
      case measure => omega
      case rel => exact ⟨T + DT, i + 1, d', md', rfl, by go_num, by omega, by omega, by omega, by omega, Lib.hid ⟨HJ2.out, _, _, H23.out.quiet HB26.out⟩⟩
   ·have hlt2 : ¬ i < l.length ∨ (i < l.length ∧ ¬ i < 30) := by omega
    obtain ⟨Z, D, hI⟩ := HI.out.2
    have HI2 := Lib.hid hI.below
    clear hlt hI HI
    rcases hlt2 with hlt | ⟨hlt, hlt2⟩
    all_goals
     go_wp2
     go_ret
     exact ⟨rfl, HI2.out⟩

end Go.Proofs.YtlkgeifmppadmaaGreat
