/- The model's add. The model's cancel, has0. Conditions: as each theorem states them. -/
import Derived.Test.YtlkgeifmppadmaaGreatKh
namespace Go.Proofs.YtlkgeifmppadmaaGreat
open Go.RowKit
set_option linter.unusedVariables false
set_option linter.unusedSimpArgs false

theorem info_plan : (Tryz.prog.info? 117).map (fun i => (i.zero, i.size, i.bytes)) = some (some (.agg #[.int .i64 0, .int .i64 0]), 2, 16) := by kernel_rfl
set_option maxRecDepth 100000 in
set_option maxHeartbeats 8000000 in
theorem madd_any (D : Nat → Prop) (mb tb rb : Nat) (d : MdD) (at' who : Int) (hn : d.plans.length ≤ 1000000) (w : World) (hok : MdAt D w mb tb rb d) :
  Calls Tryz.prog 65 #[.pointer (some ⟨mb, 0, none⟩), .int .i64 at', .int .i64 who] w fun e w' => e = .returned (.tuple #[]) ∧ MdAt (fun g => D g ∨ Fresh w w' g) w' mb tb rb { d with plans := insP at' who d.plans } ∧ Chg w w' (fun k => k = mb) := by
 obtain ⟨r, hok⟩ := hok
 obtain ⟨i0, hi0, hz0, hz1, hz2⟩ := info_parts info_plan
 have HMD := Lib.hid hok
 have hpv := hok.tx.pv
 have hcell := hok.blk.cell 13 _ rfl
 have hmbl := hok.blk.lt
 clear hok
 obtain ⟨l, hl⟩ : ∃ l, d.plans = l := ⟨_, rfl⟩
 rw [hl] at hpv hn
 have HL := Lib.hid hl
 rw [hl]
 clear hl
 have HPV := Lib.hid hpv
 rcases hpv.form with ⟨e1, e2⟩ | ⟨g, o, c, e1, hnc, hcm, hg⟩
 ·rw [e1] at hcell
  have HE1 := Lib.hid e1
  obtain rfl : l = [] := List.length_eq_zero_iff.1 e2
  clear e1 e2 hpv
  have HVT : Hid (Sho w.drew (.slice none 0 0) 0 2 []) := Lib.hid (Sho.nil _ 2)
  have HVD : Hid (Sho w.drew (.slice none 0 0) 0 2 []) := Lib.hid (Sho.nil _ 2)
  have HB0 := Lib.hid ((Below.refl w.heap.size w).drew)
  have H0 : Hid (Below w.drew.heap.size w.drew w.drew ∧ Blk w.drew mb 85 (mdCells tb rb d r)) := Lib.hid ⟨Below.refl _ _, HMD.out.blk⟩
  have hcd : w.drew.cell? ⟨mb, 13, none⟩ = some (.slice none 0 0) := hcell
  have hmb0 : mb < w.drew.heap.size := hmbl
  go_enter Tryz.func65, Tryz.ntmps65
  go_wp2
  go_loopw [6] (fun v6 wr => v6 = .int .i64 0 ∧ Hid (wr = w)) (fun v _ => (intOf v).toNat)
  case atStart => exact ⟨rfl, Lib.hid rfl⟩
  case round =>
   obtain ⟨rfl, HI⟩ := hrel
   obtain rfl : wr = w := HI.out
   go_wp2
   refine wp_region_drewT 21 (S := fun w' => w'.cell? ⟨mb, 13, none⟩ = some (.slice none 0 0)) (by kernel_rfl) ?_ (fun hHeld => ?_)
   ·exact hcd
   generalize wr.drew = w0 at *
   refine tt 0 29 rfl rfl ?_; simp only [sa, sb, sc]
   refine tt 2 31 rfl rfl ?_; simp only [sa, sb, sc]
   refine tt 3 32 rfl rfl ?_; simp only [sa, sb, sc]
   refine tt 4 33 rfl rfl ?_; simp only [sa, sb, sc]
   refine tt 5 34 rfl rfl ?_; simp only [sa, sb, sc]
   refine tt 6 35 rfl rfl ?_; simp only [sa, sb, sc]
   refine tt 7 36 rfl rfl ?_; simp only [sa, sb, sc]
   refine tt 9 38 rfl rfl ?_; simp only [sa, sb, sc]
   refine tt 10 39 rfl rfl ?_; simp only [sa, sb, sc]
   refine tt 11 40 rfl rfl ?_; simp only [sa, sb, sc]
   refine tt 14 43 rfl rfl ?_; simp only [sa, sb, sc]
   refine tt 15 44 rfl rfl ?_; simp only [sa, sb, sc]
   refine tt 16 45 rfl rfl ?_; simp only [sa, sb, sc]
   refine tt 17 46 rfl rfl ?_; simp only [sa, sb, sc]
   refine tt 18 47 rfl rfl ?_; simp only [sa, sb, sc]
   refine tt 19 48 rfl rfl ?_; simp only [sa, sb, sc]
   refine wpAnyT_ready (rs := [1, 12]) (by kernel_rfl) (by simp) ?_
   refine AllReadyT.cons rfl (fun K hK => ?wn3_1) (AllReadyT.cons rfl (fun K hK => ?wn3_12) AllReadyT.nil)
   case' wn3_12 =>
    go_simp
    have hb12 := H0.out.1.alloc H0.out.1.size (.cells #[.int .i64 at', .int .i64 who] 117)
    have hm12 := H0.out.2.alloc (.cells #[.int .i64 at', .int .i64 who] 117)
    have hB1 := Blk.new w0 117 [.int .i64 at', .int .i64 who]
    generalize w0.alloc (.cells #[.int .i64 at', .int .i64 who] 117) = w12 at *
    have HB := Lib.hid hB1
    clear hB1
    have H12 := Lib.hid (And.intro hb12 hm12)
    have c13_12 : w12.cell? ⟨mb, 13, none⟩ = some (.slice none 0 0) := by rw [← HE1.out]; exact hm12.cell 13 _ rfl
    have hmb12 := hm12.lt
    clear hb12 hm12
    try dsimp only
    refine hK.out _ _ (fun _ => c13_12) (fun hHeld12' => ?_)
    have hHeld12 := hHeld12' (by decide)
    clear hHeld12'
    clear hK K; try simp only [Act.put, sa, sb, sc]
    refine wpAnyT_ready (rs := [1]) (by kernel_rfl) (by simp) (.cons rfl (fun K hK => ?_) .nil)
    go_simp
    have hb1 := H12.out.1.alloc H12.out.1.size (.cells #[] 117)
    have hm1 := H12.out.2.alloc (.cells #[] 117)
    have hE1 : (w12.alloc (.cells #[] 117)).ownsRow w0.heap.size 117 2 (.slice (some ⟨w12.heap.size, 0, none⟩) 0 0) 0 [] := own_none (Blk.new w12 117 []) H12.out.1.size
    have hB1 := HB.out.alloc (.cells #[] 117)
    have hne := HB.out.lt
    generalize w12.alloc (.cells #[] 117) = w1 at *
    have HE := Lib.hid hE1
    have HB := Lib.hid hB1
    clear hE1
    clear hB1
    have H1 := Lib.hid (And.intro hb1 hm1)
    have c13_1 : w1.cell? ⟨mb, 13, none⟩ = some (.slice none 0 0) := by rw [← HE1.out]; exact hm1.cell 13 _ rfl
    have hmb1 := hm1.lt
    clear hb1 hm1
    try dsimp only
    refine hK.out _ _ (fun _ => c13_1) (fun hHeld1' => ?_)
    have hHeld1 := hHeld1' (by decide)
    clear hHeld1'
    clear hK K; try simp only [Act.put, sa, sb, sc]
    refine wpAnyT_ready (rs := [8]) (by kernel_rfl) (by simp) (.cons rfl (fun K hK => ?_) .nil)
    skip
    have HNE : Hid (∀ x : Nat, (Value.slice (some ⟨w12.heap.size, 0, none⟩) 0 0).ownBlock = some x → x ≠ w0.heap.size) := Lib.hid (fun x hx => by have hx' : some w12.heap.size = some x := hx; injection hx' with hx'; omega)
    refine step_append_lie rfl (.tmp 30) (.tmp 36) 83 rfl w0.heap.size 117 i0 (.agg #[.int .i64 0, .int .i64 0]) 2 16 Tryz.underlying83 hi0 hz0 hz1 hz2 rfl (by decide) _ 0 [] rfl HE.out _ 0 [] rfl ((HVT.out.below H1.out.1).news (fun u hu => absurd hu (by simp))) (by unfold maxLen; omega) (by omega) H1.out.1.size ?_
    intro v8 w8 hown8 hgrow8 hlie8
    have hc8 : Chg w1 w8 _ := Chg.of_grown hgrow8
    have hlo8 := fun x hx => (World.ownsRow.lt HE.out x hx).1
    have hb8 := H1.out.1.trans (hc8.below H1.out.1.size (fun x hx => hlo8 x hx.symm))
    have hm8 := H1.out.2.chg hc8 (fun e => by have := hlo8 _ e.symm; omega)
    have hR8 : w8.ownsRow w0.heap.size 117 2 v8 0 [] := by simpa only [Nat.zero_add, List.nil_append] using hown8
    have hB8 := HB.out.chg hc8 (fun e => HNE.out _ e.symm rfl)
    have hvB : v8.ownBlock ≠ some w0.heap.size := LieOf.ne hlie8 (fun e => HNE.out _ e rfl) HB.out.lt
    have HB := Lib.hid hB8
    clear hB8
    obtain ⟨A8, c8, rfl⟩ := (Sho.own hR8).form
    have HR := Lib.hid hR8
    clear hR8 hown8 hgrow8 hlie8 hc8 hlo8
    simp only [Act.put, List.getElem_toArray, List.getElem_cons_succ, List.getElem_cons_zero, List.setIfInBounds_toArray, List.set_cons_zero, List.set_cons_succ]
    have H8 := Lib.hid (And.intro hb8 hm8)
    have c13_8 : w8.cell? ⟨mb, 13, none⟩ = some (.slice none 0 0) := by rw [← HE1.out]; exact hm8.cell 13 _ rfl
    have hmb8 := hm8.lt
    clear hb8 hm8
    try dsimp only
    refine hK.out _ _ (fun _ => c13_8) (fun hHeld8' => ?_)
    have hHeld8 := hHeld8' (by decide)
    clear hHeld8'
    clear hK K; try simp only [Act.put, sa, sb, sc]
    refine wpAnyT_ready (rs := [13]) (by kernel_rfl) (by simp) (.cons rfl (fun K hK => ?_) .nil)
    skip
    have hnw : NewsOf w8 (.slice (some ⟨w0.heap.size, 0, none⟩) 1 1) 1 2 [.int .i64 at', .int .i64 who] := Sho.news ⟨rfl, .inr ⟨w0.heap.size, 0, 1, rfl, Nat.le_refl _, by decide, HB.out.lt, fun j u hj => by rw [Nat.zero_add]; exact HB.out.cell j u hj⟩⟩ (fun u hu => by simp at hu; rcases hu with rfl | rfl <;> rfl)
    refine step_append_lie rfl (.tmp 37) (.tmp 41) 83 rfl w0.heap.size 117 i0 (.agg #[.int .i64 0, .int .i64 0]) 2 16 Tryz.underlying83 hi0 hz0 hz1 hz2 rfl (by decide) _ 0 _ rfl HR.out _ 1 [.int .i64 at', .int .i64 who] rfl hnw (by unfold maxLen; omega) (by omega) H8.out.1.size ?_
    intro v13 w13 hown13 hgrow13 hlie13
    have hc13 : Chg w8 w13 _ := Chg.of_grown hgrow13
    have hlo13 := fun x hx => (World.ownsRow.lt HR.out x hx).1
    have hb13 := H8.out.1.trans (hc13.below H8.out.1.size (fun x hx => hlo13 x hx.symm))
    have hm13 := H8.out.2.chg hc13 (fun e => by have := hlo13 _ e.symm; omega)
    have hR13 : w13.ownsRow w0.heap.size 117 2 v13 1 [.int .i64 at', .int .i64 who] := hown13
    obtain ⟨A13, c13, rfl⟩ := (Sho.own hR13).form
    have HR := Lib.hid hR13
    clear hR13 hown13 hgrow13 hlie13 hc13 hlo13 hnw
    simp only [Act.put, List.getElem_toArray, List.getElem_cons_succ, List.getElem_cons_zero, List.setIfInBounds_toArray, List.set_cons_zero, List.set_cons_succ]
    have H13 := Lib.hid (And.intro hb13 hm13)
    have c13_13 : w13.cell? ⟨mb, 13, none⟩ = some (.slice none 0 0) := by rw [← HE1.out]; exact hm13.cell 13 _ rfl
    have hmb13 := hm13.lt
    clear hb13 hm13
    try dsimp only
    refine hK.out _ _ (fun _ => c13_13) (fun hHeld13' => ?_)
    have hHeld13 := hHeld13' (by decide)
    clear hHeld13'
    clear hK K; try simp only [Act.put, sa, sb, sc]
    refine wpAnyT_ready (rs := [20]) (by kernel_rfl) (by simp) (.cons rfl (fun K hK => ?_) .nil)
    skip
    refine step_append_lie rfl (.tmp 42) (.tmp 48) 83 rfl w0.heap.size 117 i0 (.agg #[.int .i64 0, .int .i64 0]) 2 16 Tryz.underlying83 hi0 hz0 hz1 hz2 rfl (by decide) _ 1 _ rfl HR.out _ 0 [] rfl ((HVD.out.below H13.out.1).news (fun u hu => absurd hu (by simp))) (by unfold maxLen; omega) (by omega) H13.out.1.size ?_
    intro v20 w20 hown20 hgrow20 hlie20
    have hc20 : Chg w13 w20 _ := Chg.of_grown hgrow20
    have hlo20 := fun x hx => (World.ownsRow.lt HR.out x hx).1
    have hb20 := H13.out.1.trans (hc20.below H13.out.1.size (fun x hx => hlo20 x hx.symm))
    have hm20 := H13.out.2.chg hc20 (fun e => by have := hlo20 _ e.symm; omega)
    have hR20 : w20.ownsRow w0.heap.size 117 2 v20 1 [.int .i64 at', .int .i64 who] := by simpa using hown20
    obtain ⟨A20, c20, rfl⟩ := (Sho.own hR20).form
    have HR := Lib.hid hR20
    have y13 := hm20.free 13
    clear hR20 hown20 hgrow20 hlie20 hc20 hlo20
    simp only [Act.put, List.getElem_toArray, List.getElem_cons_succ, List.getElem_cons_zero, List.setIfInBounds_toArray, List.set_cons_zero, List.set_cons_succ]
    have H20 := Lib.hid (And.intro hb20 hm20)
    have c13_20 : w20.cell? ⟨mb, 13, none⟩ = some (.slice none 0 0) := by rw [← HE1.out]; exact hm20.cell 13 _ rfl
    have hmb20 := hm20.lt
    clear hb20 hm20
    try dsimp only
    refine hK.out _ _ (fun _ => c13_20) (fun hHeld20' => ?_)
    have hHeld20 := hHeld20' (by decide)
    clear hHeld20'
    clear hK K; try simp only [Act.put, sa, sb, sc]
    refine tl 21 50 rfl rfl ?_; simp only [sa, sb, sc]
    refine tl 22 51 rfl rfl ?_; simp only [sa, sb, sc]
    refine wpAnyT_ready (rs := [23]) (by kernel_rfl) (by simp) (.cons rfl (fun K hK => ?_) .nil)
    go_simp
    refine hK.out _ _ (fun h => absurd h (by decide)) (fun _ => ?_)
    clear hK K; try simp only [Act.put, sa, sb, sc]
    refine wpAnyT_done (by kernel_rfl) ?_ _
    have hsh : ShoP (fun x => w0.heap.size ≤ x ∧ x < w20.heap.size) w20 (.slice A20 1 c20) (insP at' who []).length 2 (reqCells (insP at' who [])) := ShoP.own HR.out
    have hfin := HMD.out.plans (pv := .slice A20 1 c20) (l := insP at' who []) (W := w20) (W2 := w20.setCell ⟨mb, 13, none⟩ (.slice A20 1 c20)) (HB0.out.trans (H20.out.1.mono HB0.out.size)) (hsh.mono (fun x hx => .inr ⟨by have := HB0.out.size; have := hx.1; omega, hx.2⟩)) rfl
    have HF := Lib.hid hfin
    clear hfin hsh
    go_wp2
    all_goals
     go_end0
     exact ⟨rfl, ⟨_, HF.out.1⟩, HF.out.2⟩
   case' wn3_1 =>
    go_simp
    have hb1 := H0.out.1.alloc H0.out.1.size (.cells #[] 117)
    have hm1 := H0.out.2.alloc (.cells #[] 117)
    have hE1 : (w0.alloc (.cells #[] 117)).ownsRow w0.heap.size 117 2 (.slice (some ⟨w0.heap.size, 0, none⟩) 0 0) 0 [] := own_none (Blk.new w0 117 []) H0.out.1.size
    generalize w0.alloc (.cells #[] 117) = w1 at *
    have HE := Lib.hid hE1
    clear hE1
    have H1 := Lib.hid (And.intro hb1 hm1)
    have c13_1 : w1.cell? ⟨mb, 13, none⟩ = some (.slice none 0 0) := by rw [← HE1.out]; exact hm1.cell 13 _ rfl
    have hmb1 := hm1.lt
    clear hb1 hm1
    try dsimp only
    refine hK.out _ _ (fun _ => c13_1) (fun hHeld1' => ?_)
    have hHeld1 := hHeld1' (by decide)
    clear hHeld1'
    clear hK K; try simp only [Act.put, sa, sb, sc]
    refine wpAnyT_ready (rs := [8, 12]) (by kernel_rfl) (by simp) ?_
    refine AllReadyT.cons rfl (fun K hK => ?wn3_1_8) (AllReadyT.cons rfl (fun K hK => ?wn3_1_12) AllReadyT.nil)
    case' wn3_1_12 =>
     go_simp
     have hb12 := H1.out.1.alloc H1.out.1.size (.cells #[.int .i64 at', .int .i64 who] 117)
     have hm12 := H1.out.2.alloc (.cells #[.int .i64 at', .int .i64 who] 117)
     have hB1 := Blk.new w1 117 [.int .i64 at', .int .i64 who]
     have hE1 := World.ownsRow.alloc HE.out (.cells #[.int .i64 at', .int .i64 who] 117)
     have hne := fun x hx => (World.ownsRow.lt HE.out x hx).2
     generalize w1.alloc (.cells #[.int .i64 at', .int .i64 who] 117) = w12 at *
     have HB := Lib.hid hB1
     clear hB1
     have HE := Lib.hid hE1
     clear hE1
     have H12 := Lib.hid (And.intro hb12 hm12)
     have c13_12 : w12.cell? ⟨mb, 13, none⟩ = some (.slice none 0 0) := by rw [← HE1.out]; exact hm12.cell 13 _ rfl
     have hmb12 := hm12.lt
     clear hb12 hm12
     try dsimp only
     refine hK.out _ _ (fun _ => c13_12) (fun hHeld12' => ?_)
     have hHeld12 := hHeld12' (by decide)
     clear hHeld12'
     clear hK K; try simp only [Act.put, sa, sb, sc]
     refine wpAnyT_ready (rs := [8]) (by kernel_rfl) (by simp) (.cons rfl (fun K hK => ?_) .nil)
     skip
     have HNE : Hid (∀ x : Nat, (Value.slice (some ⟨w0.heap.size, 0, none⟩) 0 0).ownBlock = some x → x ≠ w1.heap.size) := Lib.hid (fun x hx => by have hx' : some w0.heap.size = some x := hx; injection hx' with hx'; have h9 : w0.heap.size < w1.heap.size := hne _ rfl; omega)
     refine step_append_lie rfl (.tmp 30) (.tmp 36) 83 rfl w0.heap.size 117 i0 (.agg #[.int .i64 0, .int .i64 0]) 2 16 Tryz.underlying83 hi0 hz0 hz1 hz2 rfl (by decide) _ 0 [] rfl HE.out _ 0 [] rfl ((HVT.out.below H12.out.1).news (fun u hu => absurd hu (by simp))) (by unfold maxLen; omega) (by omega) H12.out.1.size ?_
     intro v8 w8 hown8 hgrow8 hlie8
     have hc8 : Chg w12 w8 _ := Chg.of_grown hgrow8
     have hlo8 := fun x hx => (World.ownsRow.lt HE.out x hx).1
     have hb8 := H12.out.1.trans (hc8.below H12.out.1.size (fun x hx => hlo8 x hx.symm))
     have hm8 := H12.out.2.chg hc8 (fun e => by have := hlo8 _ e.symm; omega)
     have hR8 : w8.ownsRow w0.heap.size 117 2 v8 0 [] := by simpa only [Nat.zero_add, List.nil_append] using hown8
     have hB8 := HB.out.chg hc8 (fun e => HNE.out _ e.symm rfl)
     have hvB : v8.ownBlock ≠ some w1.heap.size := LieOf.ne hlie8 (fun e => HNE.out _ e rfl) HB.out.lt
     have HB := Lib.hid hB8
     clear hB8
     obtain ⟨A8, c8, rfl⟩ := (Sho.own hR8).form
     have HR := Lib.hid hR8
     clear hR8 hown8 hgrow8 hlie8 hc8 hlo8
     simp only [Act.put, List.getElem_toArray, List.getElem_cons_succ, List.getElem_cons_zero, List.setIfInBounds_toArray, List.set_cons_zero, List.set_cons_succ]
     have H8 := Lib.hid (And.intro hb8 hm8)
     have c13_8 : w8.cell? ⟨mb, 13, none⟩ = some (.slice none 0 0) := by rw [← HE1.out]; exact hm8.cell 13 _ rfl
     have hmb8 := hm8.lt
     clear hb8 hm8
     try dsimp only
     refine hK.out _ _ (fun _ => c13_8) (fun hHeld8' => ?_)
     have hHeld8 := hHeld8' (by decide)
     clear hHeld8'
     clear hK K; try simp only [Act.put, sa, sb, sc]
     refine wpAnyT_ready (rs := [13]) (by kernel_rfl) (by simp) (.cons rfl (fun K hK => ?_) .nil)
     skip
     have hnw : NewsOf w8 (.slice (some ⟨w1.heap.size, 0, none⟩) 1 1) 1 2 [.int .i64 at', .int .i64 who] := Sho.news ⟨rfl, .inr ⟨w1.heap.size, 0, 1, rfl, Nat.le_refl _, by decide, HB.out.lt, fun j u hj => by rw [Nat.zero_add]; exact HB.out.cell j u hj⟩⟩ (fun u hu => by simp at hu; rcases hu with rfl | rfl <;> rfl)
     refine step_append_lie rfl (.tmp 37) (.tmp 41) 83 rfl w0.heap.size 117 i0 (.agg #[.int .i64 0, .int .i64 0]) 2 16 Tryz.underlying83 hi0 hz0 hz1 hz2 rfl (by decide) _ 0 _ rfl HR.out _ 1 [.int .i64 at', .int .i64 who] rfl hnw (by unfold maxLen; omega) (by omega) H8.out.1.size ?_
     intro v13 w13 hown13 hgrow13 hlie13
     have hc13 : Chg w8 w13 _ := Chg.of_grown hgrow13
     have hlo13 := fun x hx => (World.ownsRow.lt HR.out x hx).1
     have hb13 := H8.out.1.trans (hc13.below H8.out.1.size (fun x hx => hlo13 x hx.symm))
     have hm13 := H8.out.2.chg hc13 (fun e => by have := hlo13 _ e.symm; omega)
     have hR13 : w13.ownsRow w0.heap.size 117 2 v13 1 [.int .i64 at', .int .i64 who] := hown13
     obtain ⟨A13, c13, rfl⟩ := (Sho.own hR13).form
     have HR := Lib.hid hR13
     clear hR13 hown13 hgrow13 hlie13 hc13 hlo13 hnw
     simp only [Act.put, List.getElem_toArray, List.getElem_cons_succ, List.getElem_cons_zero, List.setIfInBounds_toArray, List.set_cons_zero, List.set_cons_succ]
     have H13 := Lib.hid (And.intro hb13 hm13)
     have c13_13 : w13.cell? ⟨mb, 13, none⟩ = some (.slice none 0 0) := by rw [← HE1.out]; exact hm13.cell 13 _ rfl
     have hmb13 := hm13.lt
     clear hb13 hm13
     try dsimp only
     refine hK.out _ _ (fun _ => c13_13) (fun hHeld13' => ?_)
     have hHeld13 := hHeld13' (by decide)
     clear hHeld13'
     clear hK K; try simp only [Act.put, sa, sb, sc]
     refine wpAnyT_ready (rs := [20]) (by kernel_rfl) (by simp) (.cons rfl (fun K hK => ?_) .nil)
     skip
     refine step_append_lie rfl (.tmp 42) (.tmp 48) 83 rfl w0.heap.size 117 i0 (.agg #[.int .i64 0, .int .i64 0]) 2 16 Tryz.underlying83 hi0 hz0 hz1 hz2 rfl (by decide) _ 1 _ rfl HR.out _ 0 [] rfl ((HVD.out.below H13.out.1).news (fun u hu => absurd hu (by simp))) (by unfold maxLen; omega) (by omega) H13.out.1.size ?_
     intro v20 w20 hown20 hgrow20 hlie20
     have hc20 : Chg w13 w20 _ := Chg.of_grown hgrow20
     have hlo20 := fun x hx => (World.ownsRow.lt HR.out x hx).1
     have hb20 := H13.out.1.trans (hc20.below H13.out.1.size (fun x hx => hlo20 x hx.symm))
     have hm20 := H13.out.2.chg hc20 (fun e => by have := hlo20 _ e.symm; omega)
     have hR20 : w20.ownsRow w0.heap.size 117 2 v20 1 [.int .i64 at', .int .i64 who] := by simpa using hown20
     obtain ⟨A20, c20, rfl⟩ := (Sho.own hR20).form
     have HR := Lib.hid hR20
     have y13 := hm20.free 13
     clear hR20 hown20 hgrow20 hlie20 hc20 hlo20
     simp only [Act.put, List.getElem_toArray, List.getElem_cons_succ, List.getElem_cons_zero, List.setIfInBounds_toArray, List.set_cons_zero, List.set_cons_succ]
     have H20 := Lib.hid (And.intro hb20 hm20)
     have c13_20 : w20.cell? ⟨mb, 13, none⟩ = some (.slice none 0 0) := by rw [← HE1.out]; exact hm20.cell 13 _ rfl
     have hmb20 := hm20.lt
     clear hb20 hm20
     try dsimp only
     refine hK.out _ _ (fun _ => c13_20) (fun hHeld20' => ?_)
     have hHeld20 := hHeld20' (by decide)
     clear hHeld20'
     clear hK K; try simp only [Act.put, sa, sb, sc]
     refine tl 21 50 rfl rfl ?_; simp only [sa, sb, sc]
     refine tl 22 51 rfl rfl ?_; simp only [sa, sb, sc]
     refine wpAnyT_ready (rs := [23]) (by kernel_rfl) (by simp) (.cons rfl (fun K hK => ?_) .nil)
     go_simp
     refine hK.out _ _ (fun h => absurd h (by decide)) (fun _ => ?_)
     clear hK K; try simp only [Act.put, sa, sb, sc]
     refine wpAnyT_done (by kernel_rfl) ?_ _
     have hsh : ShoP (fun x => w0.heap.size ≤ x ∧ x < w20.heap.size) w20 (.slice A20 1 c20) (insP at' who []).length 2 (reqCells (insP at' who [])) := ShoP.own HR.out
     have hfin := HMD.out.plans (pv := .slice A20 1 c20) (l := insP at' who []) (W := w20) (W2 := w20.setCell ⟨mb, 13, none⟩ (.slice A20 1 c20)) (HB0.out.trans (H20.out.1.mono HB0.out.size)) (hsh.mono (fun x hx => .inr ⟨by have := HB0.out.size; have := hx.1; omega, hx.2⟩)) rfl
     have HF := Lib.hid hfin
     clear hfin hsh
     go_wp2
     all_goals
      go_end0
      exact ⟨rfl, ⟨_, HF.out.1⟩, HF.out.2⟩
    case' wn3_1_8 =>
     skip
     refine step_append_lie rfl (.tmp 30) (.tmp 36) 83 rfl w0.heap.size 117 i0 (.agg #[.int .i64 0, .int .i64 0]) 2 16 Tryz.underlying83 hi0 hz0 hz1 hz2 rfl (by decide) _ 0 [] rfl HE.out _ 0 [] rfl ((HVT.out.below H1.out.1).news (fun u hu => absurd hu (by simp))) (by unfold maxLen; omega) (by omega) H1.out.1.size ?_
     intro v8 w8 hown8 hgrow8 hlie8
     have hc8 : Chg w1 w8 _ := Chg.of_grown hgrow8
     have hlo8 := fun x hx => (World.ownsRow.lt HE.out x hx).1
     have hb8 := H1.out.1.trans (hc8.below H1.out.1.size (fun x hx => hlo8 x hx.symm))
     have hm8 := H1.out.2.chg hc8 (fun e => by have := hlo8 _ e.symm; omega)
     have hR8 : w8.ownsRow w0.heap.size 117 2 v8 0 [] := by simpa only [Nat.zero_add, List.nil_append] using hown8
     obtain ⟨A8, c8, rfl⟩ := (Sho.own hR8).form
     have HR := Lib.hid hR8
     clear hR8 hown8 hgrow8 hlie8 hc8 hlo8
     simp only [Act.put, List.getElem_toArray, List.getElem_cons_succ, List.getElem_cons_zero, List.setIfInBounds_toArray, List.set_cons_zero, List.set_cons_succ]
     have H8 := Lib.hid (And.intro hb8 hm8)
     have c13_8 : w8.cell? ⟨mb, 13, none⟩ = some (.slice none 0 0) := by rw [← HE1.out]; exact hm8.cell 13 _ rfl
     have hmb8 := hm8.lt
     clear hb8 hm8
     try dsimp only
     refine hK.out _ _ (fun _ => c13_8) (fun hHeld8' => ?_)
     have hHeld8 := hHeld8' (by decide)
     clear hHeld8'
     clear hK K; try simp only [Act.put, sa, sb, sc]
     refine wpAnyT_ready (rs := [12]) (by kernel_rfl) (by simp) (.cons rfl (fun K hK => ?_) .nil)
     go_simp
     have hb12 := H8.out.1.alloc H8.out.1.size (.cells #[.int .i64 at', .int .i64 who] 117)
     have hm12 := H8.out.2.alloc (.cells #[.int .i64 at', .int .i64 who] 117)
     have hB1 := Blk.new w8 117 [.int .i64 at', .int .i64 who]
     have hR1 := World.ownsRow.alloc HR.out (.cells #[.int .i64 at', .int .i64 who] 117)
     have hne := fun x hx => (World.ownsRow.lt HR.out x hx).2
     generalize w8.alloc (.cells #[.int .i64 at', .int .i64 who] 117) = w12 at *
     have HB := Lib.hid hB1
     clear hB1
     have HR := Lib.hid hR1
     clear hR1
     have H12 := Lib.hid (And.intro hb12 hm12)
     have c13_12 : w12.cell? ⟨mb, 13, none⟩ = some (.slice none 0 0) := by rw [← HE1.out]; exact hm12.cell 13 _ rfl
     have hmb12 := hm12.lt
     clear hb12 hm12
     try dsimp only
     refine hK.out _ _ (fun _ => c13_12) (fun hHeld12' => ?_)
     have hHeld12 := hHeld12' (by decide)
     clear hHeld12'
     clear hK K; try simp only [Act.put, sa, sb, sc]
     refine wpAnyT_ready (rs := [13]) (by kernel_rfl) (by simp) (.cons rfl (fun K hK => ?_) .nil)
     skip
     have hnw : NewsOf w12 (.slice (some ⟨w8.heap.size, 0, none⟩) 1 1) 1 2 [.int .i64 at', .int .i64 who] := Sho.news ⟨rfl, .inr ⟨w8.heap.size, 0, 1, rfl, Nat.le_refl _, by decide, HB.out.lt, fun j u hj => by rw [Nat.zero_add]; exact HB.out.cell j u hj⟩⟩ (fun u hu => by simp at hu; rcases hu with rfl | rfl <;> rfl)
     refine step_append_lie rfl (.tmp 37) (.tmp 41) 83 rfl w0.heap.size 117 i0 (.agg #[.int .i64 0, .int .i64 0]) 2 16 Tryz.underlying83 hi0 hz0 hz1 hz2 rfl (by decide) _ 0 _ rfl HR.out _ 1 [.int .i64 at', .int .i64 who] rfl hnw (by unfold maxLen; omega) (by omega) H12.out.1.size ?_
     intro v13 w13 hown13 hgrow13 hlie13
     have hc13 : Chg w12 w13 _ := Chg.of_grown hgrow13
     have hlo13 := fun x hx => (World.ownsRow.lt HR.out x hx).1
     have hb13 := H12.out.1.trans (hc13.below H12.out.1.size (fun x hx => hlo13 x hx.symm))
     have hm13 := H12.out.2.chg hc13 (fun e => by have := hlo13 _ e.symm; omega)
     have hR13 : w13.ownsRow w0.heap.size 117 2 v13 1 [.int .i64 at', .int .i64 who] := hown13
     obtain ⟨A13, c13, rfl⟩ := (Sho.own hR13).form
     have HR := Lib.hid hR13
     clear hR13 hown13 hgrow13 hlie13 hc13 hlo13 hnw
     simp only [Act.put, List.getElem_toArray, List.getElem_cons_succ, List.getElem_cons_zero, List.setIfInBounds_toArray, List.set_cons_zero, List.set_cons_succ]
     have H13 := Lib.hid (And.intro hb13 hm13)
     have c13_13 : w13.cell? ⟨mb, 13, none⟩ = some (.slice none 0 0) := by rw [← HE1.out]; exact hm13.cell 13 _ rfl
     have hmb13 := hm13.lt
     clear hb13 hm13
     try dsimp only
     refine hK.out _ _ (fun _ => c13_13) (fun hHeld13' => ?_)
     have hHeld13 := hHeld13' (by decide)
     clear hHeld13'
     clear hK K; try simp only [Act.put, sa, sb, sc]
     refine wpAnyT_ready (rs := [20]) (by kernel_rfl) (by simp) (.cons rfl (fun K hK => ?_) .nil)
     skip
     refine step_append_lie rfl (.tmp 42) (.tmp 48) 83 rfl w0.heap.size 117 i0 (.agg #[.int .i64 0, .int .i64 0]) 2 16 Tryz.underlying83 hi0 hz0 hz1 hz2 rfl (by decide) _ 1 _ rfl HR.out _ 0 [] rfl ((HVD.out.below H13.out.1).news (fun u hu => absurd hu (by simp))) (by unfold maxLen; omega) (by omega) H13.out.1.size ?_
     intro v20 w20 hown20 hgrow20 hlie20
     have hc20 : Chg w13 w20 _ := Chg.of_grown hgrow20
     have hlo20 := fun x hx => (World.ownsRow.lt HR.out x hx).1
     have hb20 := H13.out.1.trans (hc20.below H13.out.1.size (fun x hx => hlo20 x hx.symm))
     have hm20 := H13.out.2.chg hc20 (fun e => by have := hlo20 _ e.symm; omega)
     have hR20 : w20.ownsRow w0.heap.size 117 2 v20 1 [.int .i64 at', .int .i64 who] := by simpa using hown20
     obtain ⟨A20, c20, rfl⟩ := (Sho.own hR20).form
     have HR := Lib.hid hR20
     have y13 := hm20.free 13
     clear hR20 hown20 hgrow20 hlie20 hc20 hlo20
     simp only [Act.put, List.getElem_toArray, List.getElem_cons_succ, List.getElem_cons_zero, List.setIfInBounds_toArray, List.set_cons_zero, List.set_cons_succ]
     have H20 := Lib.hid (And.intro hb20 hm20)
     have c13_20 : w20.cell? ⟨mb, 13, none⟩ = some (.slice none 0 0) := by rw [← HE1.out]; exact hm20.cell 13 _ rfl
     have hmb20 := hm20.lt
     clear hb20 hm20
     try dsimp only
     refine hK.out _ _ (fun _ => c13_20) (fun hHeld20' => ?_)
     have hHeld20 := hHeld20' (by decide)
     clear hHeld20'
     clear hK K; try simp only [Act.put, sa, sb, sc]
     refine tl 21 50 rfl rfl ?_; simp only [sa, sb, sc]
     refine tl 22 51 rfl rfl ?_; simp only [sa, sb, sc]
     refine wpAnyT_ready (rs := [23]) (by kernel_rfl) (by simp) (.cons rfl (fun K hK => ?_) .nil)
     go_simp
     refine hK.out _ _ (fun h => absurd h (by decide)) (fun _ => ?_)
     clear hK K; try simp only [Act.put, sa, sb, sc]
     refine wpAnyT_done (by kernel_rfl) ?_ _
     have hsh : ShoP (fun x => w0.heap.size ≤ x ∧ x < w20.heap.size) w20 (.slice A20 1 c20) (insP at' who []).length 2 (reqCells (insP at' who [])) := ShoP.own HR.out
     have hfin := HMD.out.plans (pv := .slice A20 1 c20) (l := insP at' who []) (W := w20) (W2 := w20.setCell ⟨mb, 13, none⟩ (.slice A20 1 c20)) (HB0.out.trans (H20.out.1.mono HB0.out.size)) (hsh.mono (fun x hx => .inr ⟨by have := HB0.out.size; have := hx.1; omega, hx.2⟩)) rfl
     have HF := Lib.hid hfin
     clear hfin hsh
     go_wp2
     all_goals
      go_end0
      exact ⟨rfl, ⟨_, HF.out.1⟩, HF.out.2⟩
 ·rw [e1] at hpv hcell
  have HE1 := Lib.hid e1
  clear e1
  have hcells : ∀ j, j < l.length → w.cell? ⟨g, o + j * 2, none⟩ = some (.int .i64 (l.getD j (0, 0)).1) := fun j hj => by
   obtain ⟨hl', h | ⟨g', o', c', h1, _, _, _, _, hc⟩⟩ := hpv
   ·exact absurd h.1 (by simp)
   ·injection h1 with h1 _ h2
    injection h1 with h1
    injection h1 with h1 h3
    subst h1 h2 h3
    have e : l.getD j (0, 0) = l[j] := by rw [List.getD_eq_getElem?_getD, List.getElem?_eq_getElem hj]; rfl
    rw [e]
    exact hc _ _ (reqCells_at l j hj).1
  have HCE := Lib.hid hcells
  have HPH : Hid (∀ k, k ≤ l.length → Sho w (.slice (some ⟨g, o, none⟩) k c) k 2 ((reqCells l).take (k * 2)) ∧ Sho w (.slice (if c = k then some ⟨g, o, none⟩ else some ⟨g, o + k * 2, none⟩) (l.length - k) (c - k)) (l.length - k) 2 ((reqCells l).drop (k * 2))) := Lib.hid (fun k hk => ⟨(hpv.head k hk).sho, by
   have h2 := (hpv.tail k hk).sho
   by_cases hck : c = k
   ·rw [if_pos hck]
    have h0 : l.length - k = 0 := by omega
    exact ⟨h2.1, .inl ⟨h0, _, _, by rw [h0]⟩⟩
   ·rw [if_neg hck]
    exact h2⟩)
  clear hcells hpv
  unfold maxLen at hcm
  have HPL : Hid (∀ k, posP l at' (k + 1) = if at' < (l.getD k (0, 0)).1 then posP l at' k else k + 1) := Lib.hid (fun k => rfl)
  have HP0 : Hid (posP l at' 0 = 0) := Lib.hid rfl
  have HPI : Hid (insP at' who l = l.take (posP l at' l.length) ++ (at', who) :: l.drop (posP l at' l.length)) := Lib.hid rfl
  go_enter Tryz.func65, Tryz.ntmps65
  go_wp2
  go_loopw [6] (fun v6 wr => ∃ k : Nat, v6 = .int .i64 k ∧ k ≤ l.length ∧ Hid (posP l at' l.length = posP l at' k ∧ wr = w)) (fun v _ => (intOf v).toNat)
  case atStart => exact ⟨l.length, rfl, Nat.le_refl _, Lib.hid ⟨rfl, rfl⟩⟩
  case round =>
   obtain ⟨k, rfl, hk, HI⟩ := hrel
   obtain rfl : wr = w := HI.out.2
   have hgo : (k = 0 ∨ (0 < k ∧ ¬ at' < (l.getD (k - 1) (0, 0)).1)) ∨ (0 < k ∧ at' < (l.getD (k - 1) (0, 0)).1) := by omega
   rcases hgo with hex | ⟨hk0, hat⟩
   ·have HPOS : Hid (posP l at' l.length = k) := Lib.hid (by
     rw [HI.out.1]
     rcases hex with rfl | ⟨h0, h1⟩
     ·rfl
     ·obtain ⟨j, rfl⟩ : ∃ j, k = j + 1 := ⟨k - 1, by omega⟩
      rw [HPL.out]; exact if_neg h1)
    have hkc : k ≤ c := by omega
    have HVT := Lib.hid ((HPH.out k hk).1.below (Below.refl wr.heap.size wr).drew)
    have HVD := Lib.hid ((HPH.out k hk).2.below (Below.refl wr.heap.size wr).drew)
    have HB0 := Lib.hid ((Below.refl wr.heap.size wr).drew)
    have H0 : Hid (Below wr.drew.heap.size wr.drew wr.drew ∧ Blk wr.drew mb 85 (mdCells tb rb d r)) := Lib.hid ⟨Below.refl _ _, HMD.out.blk⟩
    have hcd : wr.drew.cell? ⟨mb, 13, none⟩ = some (.slice (some ⟨g, o, none⟩) l.length c) := hcell
    have hmb0 : mb < wr.drew.heap.size := hmbl
    rcases hex with hk0 | ⟨hk0, hat⟩
    ·have hk1 : ¬ (0 : Int) < (k : Int) := by omega
     clear hk0
     go_wp2
     refine wp_region_drewT 21 (S := fun w' => w'.cell? ⟨mb, 13, none⟩ = some (.slice (some ⟨g, o, none⟩) l.length c)) (by kernel_rfl) ?_ (fun hHeld => ?_)
     ·exact hcd
     generalize wr.drew = w0 at *
     refine tt 0 29 rfl rfl ?_; simp only [sa, sb, sc]
     refine tt 2 31 rfl rfl ?_; simp only [sa, sb, sc]
     refine tt 3 32 rfl rfl ?_; simp only [sa, sb, sc]
     refine tt 4 33 rfl rfl ?_; simp only [sa, sb, sc]
     refine tt 5 34 rfl rfl ?_; simp only [sa, sb, sc]
     refine tt 6 35 rfl rfl ?_; simp only [sa, sb, sc]
     refine tt 7 36 rfl rfl ?_; simp only [sa, sb, sc]
     refine tt 9 38 rfl rfl ?_; simp only [sa, sb, sc]
     refine tt 10 39 rfl rfl ?_; simp only [sa, sb, sc]
     refine tt 11 40 rfl rfl ?_; simp only [sa, sb, sc]
     refine tt 14 43 rfl rfl ?_; simp only [sa, sb, sc]
     refine tt 15 44 rfl rfl ?_; simp only [sa, sb, sc]
     refine tt 16 45 rfl rfl ?_; simp only [sa, sb, sc]
     refine tt 17 46 rfl rfl ?_; simp only [sa, sb, sc]
     refine tt 18 47 rfl rfl ?_; simp only [sa, sb, sc]
     refine tt 19 48 rfl rfl ?_; simp only [sa, sb, sc]
     refine wpAnyT_ready (rs := [1, 12]) (by kernel_rfl) (by simp) ?_
     refine AllReadyT.cons rfl (fun K hK => ?wa3_1) (AllReadyT.cons rfl (fun K hK => ?wa3_12) AllReadyT.nil)
     case' wa3_12 =>
      go_simp
      have hb12 := H0.out.1.alloc H0.out.1.size (.cells #[.int .i64 at', .int .i64 who] 117)
      have hm12 := H0.out.2.alloc (.cells #[.int .i64 at', .int .i64 who] 117)
      have hB1 := Blk.new w0 117 [.int .i64 at', .int .i64 who]
      generalize w0.alloc (.cells #[.int .i64 at', .int .i64 who] 117) = w12 at *
      have HB := Lib.hid hB1
      clear hB1
      have H12 := Lib.hid (And.intro hb12 hm12)
      have c13_12 : w12.cell? ⟨mb, 13, none⟩ = some (.slice (some ⟨g, o, none⟩) l.length c) := by rw [← HE1.out]; exact hm12.cell 13 _ rfl
      have hmb12 := hm12.lt
      clear hb12 hm12
      try dsimp only
      refine hK.out _ _ (fun _ => c13_12) (fun hHeld12' => ?_)
      have hHeld12 := hHeld12' (by decide)
      clear hHeld12'
      clear hK K; try simp only [Act.put, sa, sb, sc]
      refine wpAnyT_ready (rs := [1]) (by kernel_rfl) (by simp) (.cons rfl (fun K hK => ?_) .nil)
      go_simp
      have hb1 := H12.out.1.alloc H12.out.1.size (.cells #[] 117)
      have hm1 := H12.out.2.alloc (.cells #[] 117)
      have hE1 : (w12.alloc (.cells #[] 117)).ownsRow w0.heap.size 117 2 (.slice (some ⟨w12.heap.size, 0, none⟩) 0 0) 0 [] := own_none (Blk.new w12 117 []) H12.out.1.size
      have hB1 := HB.out.alloc (.cells #[] 117)
      have hne := HB.out.lt
      generalize w12.alloc (.cells #[] 117) = w1 at *
      have HE := Lib.hid hE1
      have HB := Lib.hid hB1
      clear hE1
      clear hB1
      have H1 := Lib.hid (And.intro hb1 hm1)
      have c13_1 : w1.cell? ⟨mb, 13, none⟩ = some (.slice (some ⟨g, o, none⟩) l.length c) := by rw [← HE1.out]; exact hm1.cell 13 _ rfl
      have hmb1 := hm1.lt
      clear hb1 hm1
      try dsimp only
      refine hK.out _ _ (fun _ => c13_1) (fun hHeld1' => ?_)
      have hHeld1 := hHeld1' (by decide)
      clear hHeld1'
      clear hK K; try simp only [Act.put, sa, sb, sc]
      refine wpAnyT_ready (rs := [8]) (by kernel_rfl) (by simp) (.cons rfl (fun K hK => ?_) .nil)
      skip
      have HNE : Hid (∀ x : Nat, (Value.slice (some ⟨w12.heap.size, 0, none⟩) 0 0).ownBlock = some x → x ≠ w0.heap.size) := Lib.hid (fun x hx => by have hx' : some w12.heap.size = some x := hx; injection hx' with hx'; omega)
      refine step_append_lie rfl (.tmp 30) (.tmp 36) 83 rfl w0.heap.size 117 i0 (.agg #[.int .i64 0, .int .i64 0]) 2 16 Tryz.underlying83 hi0 hz0 hz1 hz2 rfl (by decide) _ 0 [] rfl HE.out _ k ((reqCells l).take (k * 2)) rfl ((HVT.out.below H1.out.1).news (fun u hu => reqCells_one l u (List.mem_of_mem_take hu))) (by unfold maxLen; omega) (by omega) H1.out.1.size ?_
      intro v8 w8 hown8 hgrow8 hlie8
      have hc8 : Chg w1 w8 _ := Chg.of_grown hgrow8
      have hlo8 := fun x hx => (World.ownsRow.lt HE.out x hx).1
      have hb8 := H1.out.1.trans (hc8.below H1.out.1.size (fun x hx => hlo8 x hx.symm))
      have hm8 := H1.out.2.chg hc8 (fun e => by have := hlo8 _ e.symm; omega)
      have hR8 : w8.ownsRow w0.heap.size 117 2 v8 k ((reqCells l).take (k * 2)) := by simpa only [Nat.zero_add, List.nil_append] using hown8
      have hB8 := HB.out.chg hc8 (fun e => HNE.out _ e.symm rfl)
      have hvB : v8.ownBlock ≠ some w0.heap.size := LieOf.ne hlie8 (fun e => HNE.out _ e rfl) HB.out.lt
      have HB := Lib.hid hB8
      clear hB8
      obtain ⟨A8, c8, rfl⟩ := (Sho.own hR8).form
      have HR := Lib.hid hR8
      clear hR8 hown8 hgrow8 hlie8 hc8 hlo8
      simp only [Act.put, List.getElem_toArray, List.getElem_cons_succ, List.getElem_cons_zero, List.setIfInBounds_toArray, List.set_cons_zero, List.set_cons_succ]
      have H8 := Lib.hid (And.intro hb8 hm8)
      have c13_8 : w8.cell? ⟨mb, 13, none⟩ = some (.slice (some ⟨g, o, none⟩) l.length c) := by rw [← HE1.out]; exact hm8.cell 13 _ rfl
      have hmb8 := hm8.lt
      clear hb8 hm8
      try dsimp only
      refine hK.out _ _ (fun _ => c13_8) (fun hHeld8' => ?_)
      have hHeld8 := hHeld8' (by decide)
      clear hHeld8'
      clear hK K; try simp only [Act.put, sa, sb, sc]
      refine wpAnyT_ready (rs := [13]) (by kernel_rfl) (by simp) (.cons rfl (fun K hK => ?_) .nil)
      skip
      have hnw : NewsOf w8 (.slice (some ⟨w0.heap.size, 0, none⟩) 1 1) 1 2 [.int .i64 at', .int .i64 who] := Sho.news ⟨rfl, .inr ⟨w0.heap.size, 0, 1, rfl, Nat.le_refl _, by decide, HB.out.lt, fun j u hj => by rw [Nat.zero_add]; exact HB.out.cell j u hj⟩⟩ (fun u hu => by simp at hu; rcases hu with rfl | rfl <;> rfl)
      refine step_append_lie rfl (.tmp 37) (.tmp 41) 83 rfl w0.heap.size 117 i0 (.agg #[.int .i64 0, .int .i64 0]) 2 16 Tryz.underlying83 hi0 hz0 hz1 hz2 rfl (by decide) _ k _ rfl HR.out _ 1 [.int .i64 at', .int .i64 who] rfl hnw (by unfold maxLen; omega) (by omega) H8.out.1.size ?_
      intro v13 w13 hown13 hgrow13 hlie13
      have hc13 : Chg w8 w13 _ := Chg.of_grown hgrow13
      have hlo13 := fun x hx => (World.ownsRow.lt HR.out x hx).1
      have hb13 := H8.out.1.trans (hc13.below H8.out.1.size (fun x hx => hlo13 x hx.symm))
      have hm13 := H8.out.2.chg hc13 (fun e => by have := hlo13 _ e.symm; omega)
      have hR13 := hown13
      obtain ⟨A13, c13, rfl⟩ := (Sho.own hR13).form
      have HR := Lib.hid hR13
      clear hR13 hown13 hgrow13 hlie13 hc13 hlo13 hnw
      simp only [Act.put, List.getElem_toArray, List.getElem_cons_succ, List.getElem_cons_zero, List.setIfInBounds_toArray, List.set_cons_zero, List.set_cons_succ]
      have H13 := Lib.hid (And.intro hb13 hm13)
      have c13_13 : w13.cell? ⟨mb, 13, none⟩ = some (.slice (some ⟨g, o, none⟩) l.length c) := by rw [← HE1.out]; exact hm13.cell 13 _ rfl
      have hmb13 := hm13.lt
      clear hb13 hm13
      try dsimp only
      refine hK.out _ _ (fun _ => c13_13) (fun hHeld13' => ?_)
      have hHeld13 := hHeld13' (by decide)
      clear hHeld13'
      clear hK K; try simp only [Act.put, sa, sb, sc]
      refine wpAnyT_ready (rs := [20]) (by kernel_rfl) (by simp) (.cons rfl (fun K hK => ?_) .nil)
      skip
      refine step_append_lie rfl (.tmp 42) (.tmp 48) 83 rfl w0.heap.size 117 i0 (.agg #[.int .i64 0, .int .i64 0]) 2 16 Tryz.underlying83 hi0 hz0 hz1 hz2 rfl (by decide) _ (k + 1) _ rfl HR.out _ (l.length - k) ((reqCells l).drop (k * 2)) rfl ((HVD.out.below H13.out.1).news (fun u hu => reqCells_one l u (List.mem_of_mem_drop hu))) (by unfold maxLen; omega) (by omega) H13.out.1.size ?_
      intro v20 w20 hown20 hgrow20 hlie20
      have hc20 : Chg w13 w20 _ := Chg.of_grown hgrow20
      have hlo20 := fun x hx => (World.ownsRow.lt HR.out x hx).1
      have hb20 := H13.out.1.trans (hc20.below H13.out.1.size (fun x hx => hlo20 x hx.symm))
      have hm20 := H13.out.2.chg hc20 (fun e => by have := hlo20 _ e.symm; omega)
      have hR20 := hown20
      obtain ⟨A20, c20, rfl⟩ := (Sho.own hR20).form
      have HR := Lib.hid hR20
      have y13 := hm20.free 13
      clear hR20 hown20 hgrow20 hlie20 hc20 hlo20
      simp only [Act.put, List.getElem_toArray, List.getElem_cons_succ, List.getElem_cons_zero, List.setIfInBounds_toArray, List.set_cons_zero, List.set_cons_succ]
      have H20 := Lib.hid (And.intro hb20 hm20)
      have c13_20 : w20.cell? ⟨mb, 13, none⟩ = some (.slice (some ⟨g, o, none⟩) l.length c) := by rw [← HE1.out]; exact hm20.cell 13 _ rfl
      have hmb20 := hm20.lt
      clear hb20 hm20
      try dsimp only
      refine hK.out _ _ (fun _ => c13_20) (fun hHeld20' => ?_)
      have hHeld20 := hHeld20' (by decide)
      clear hHeld20'
      clear hK K; try simp only [Act.put, sa, sb, sc]
      refine tl 21 50 rfl rfl ?_; simp only [sa, sb, sc]
      refine tl 22 51 rfl rfl ?_; simp only [sa, sb, sc]
      refine wpAnyT_ready (rs := [23]) (by kernel_rfl) (by simp) (.cons rfl (fun K hK => ?_) .nil)
      go_simp
      refine hK.out _ _ (fun h => absurd h (by decide)) (fun _ => ?_)
      clear hK K; try simp only [Act.put, sa, sb, sc]
      refine wpAnyT_done (by kernel_rfl) ?_ _
      have hsh : ShoP (fun x => w0.heap.size ≤ x ∧ x < w20.heap.size) w20 (.slice A20 (k + 1 + (l.length - k)) c20) (k + 1 + (l.length - k)) 2 _ := ShoP.own HR.out
      have hcells : ((reqCells l).take (k * 2) ++ [.int .i64 at', .int .i64 who]) ++ (reqCells l).drop (k * 2) = reqCells (insP at' who l) := by
       unfold insP
       rw [HPOS.out, reqCells_append, reqCells_take]
       show _ = (reqCells l).take (k * 2) ++ ([Value.int .i64 at', .int .i64 who] ++ reqCells (l.drop k))
       rw [reqCells_drop, List.append_assoc]
      have hlen : k + 1 + (l.length - k) = (insP at' who l).length := by rw [insP_length]; omega
      rw [hcells] at hsh
      have hsh2 : ShoP (fun x => w0.heap.size ≤ x ∧ x < w20.heap.size) w20 (.slice A20 (k + 1 + (l.length - k)) c20) (insP at' who l).length 2 (reqCells (insP at' who l)) := by rw [← hlen]; exact hsh
      have hfin := HMD.out.plans (pv := .slice A20 (k + 1 + (l.length - k)) c20) (l := insP at' who l) (W := w20) (W2 := w20.setCell ⟨mb, 13, none⟩ (.slice A20 (k + 1 + (l.length - k)) c20)) (HB0.out.trans (H20.out.1.mono HB0.out.size)) (hsh2.mono (fun x hx => .inr ⟨by have := HB0.out.size; have := hx.1; omega, hx.2⟩)) rfl
      have HF := Lib.hid hfin
      clear hfin hsh hsh2 hcells hlen
      go_wp2
      all_goals
       go_end0
       exact ⟨rfl, ⟨_, HF.out.1⟩, HF.out.2⟩
     case' wa3_1 =>
      go_simp
      have hb1 := H0.out.1.alloc H0.out.1.size (.cells #[] 117)
      have hm1 := H0.out.2.alloc (.cells #[] 117)
      have hE1 : (w0.alloc (.cells #[] 117)).ownsRow w0.heap.size 117 2 (.slice (some ⟨w0.heap.size, 0, none⟩) 0 0) 0 [] := own_none (Blk.new w0 117 []) H0.out.1.size
      generalize w0.alloc (.cells #[] 117) = w1 at *
      have HE := Lib.hid hE1
      clear hE1
      have H1 := Lib.hid (And.intro hb1 hm1)
      have c13_1 : w1.cell? ⟨mb, 13, none⟩ = some (.slice (some ⟨g, o, none⟩) l.length c) := by rw [← HE1.out]; exact hm1.cell 13 _ rfl
      have hmb1 := hm1.lt
      clear hb1 hm1
      try dsimp only
      refine hK.out _ _ (fun _ => c13_1) (fun hHeld1' => ?_)
      have hHeld1 := hHeld1' (by decide)
      clear hHeld1'
      clear hK K; try simp only [Act.put, sa, sb, sc]
      refine wpAnyT_ready (rs := [8, 12]) (by kernel_rfl) (by simp) ?_
      refine AllReadyT.cons rfl (fun K hK => ?wa3_1_8) (AllReadyT.cons rfl (fun K hK => ?wa3_1_12) AllReadyT.nil)
      case' wa3_1_12 =>
       go_simp
       have hb12 := H1.out.1.alloc H1.out.1.size (.cells #[.int .i64 at', .int .i64 who] 117)
       have hm12 := H1.out.2.alloc (.cells #[.int .i64 at', .int .i64 who] 117)
       have hB1 := Blk.new w1 117 [.int .i64 at', .int .i64 who]
       have hE1 := World.ownsRow.alloc HE.out (.cells #[.int .i64 at', .int .i64 who] 117)
       have hne := fun x hx => (World.ownsRow.lt HE.out x hx).2
       generalize w1.alloc (.cells #[.int .i64 at', .int .i64 who] 117) = w12 at *
       have HB := Lib.hid hB1
       clear hB1
       have HE := Lib.hid hE1
       clear hE1
       have H12 := Lib.hid (And.intro hb12 hm12)
       have c13_12 : w12.cell? ⟨mb, 13, none⟩ = some (.slice (some ⟨g, o, none⟩) l.length c) := by rw [← HE1.out]; exact hm12.cell 13 _ rfl
       have hmb12 := hm12.lt
       clear hb12 hm12
       try dsimp only
       refine hK.out _ _ (fun _ => c13_12) (fun hHeld12' => ?_)
       have hHeld12 := hHeld12' (by decide)
       clear hHeld12'
       clear hK K; try simp only [Act.put, sa, sb, sc]
       refine wpAnyT_ready (rs := [8]) (by kernel_rfl) (by simp) (.cons rfl (fun K hK => ?_) .nil)
       skip
       have HNE : Hid (∀ x : Nat, (Value.slice (some ⟨w0.heap.size, 0, none⟩) 0 0).ownBlock = some x → x ≠ w1.heap.size) := Lib.hid (fun x hx => by have hx' : some w0.heap.size = some x := hx; injection hx' with hx'; have h9 : w0.heap.size < w1.heap.size := hne _ rfl; omega)
       refine step_append_lie rfl (.tmp 30) (.tmp 36) 83 rfl w0.heap.size 117 i0 (.agg #[.int .i64 0, .int .i64 0]) 2 16 Tryz.underlying83 hi0 hz0 hz1 hz2 rfl (by decide) _ 0 [] rfl HE.out _ k ((reqCells l).take (k * 2)) rfl ((HVT.out.below H12.out.1).news (fun u hu => reqCells_one l u (List.mem_of_mem_take hu))) (by unfold maxLen; omega) (by omega) H12.out.1.size ?_
       intro v8 w8 hown8 hgrow8 hlie8
       have hc8 : Chg w12 w8 _ := Chg.of_grown hgrow8
       have hlo8 := fun x hx => (World.ownsRow.lt HE.out x hx).1
       have hb8 := H12.out.1.trans (hc8.below H12.out.1.size (fun x hx => hlo8 x hx.symm))
       have hm8 := H12.out.2.chg hc8 (fun e => by have := hlo8 _ e.symm; omega)
       have hR8 : w8.ownsRow w0.heap.size 117 2 v8 k ((reqCells l).take (k * 2)) := by simpa only [Nat.zero_add, List.nil_append] using hown8
       have hB8 := HB.out.chg hc8 (fun e => HNE.out _ e.symm rfl)
       have hvB : v8.ownBlock ≠ some w1.heap.size := LieOf.ne hlie8 (fun e => HNE.out _ e rfl) HB.out.lt
       have HB := Lib.hid hB8
       clear hB8
       obtain ⟨A8, c8, rfl⟩ := (Sho.own hR8).form
       have HR := Lib.hid hR8
       clear hR8 hown8 hgrow8 hlie8 hc8 hlo8
       simp only [Act.put, List.getElem_toArray, List.getElem_cons_succ, List.getElem_cons_zero, List.setIfInBounds_toArray, List.set_cons_zero, List.set_cons_succ]
       have H8 := Lib.hid (And.intro hb8 hm8)
       have c13_8 : w8.cell? ⟨mb, 13, none⟩ = some (.slice (some ⟨g, o, none⟩) l.length c) := by rw [← HE1.out]; exact hm8.cell 13 _ rfl
       have hmb8 := hm8.lt
       clear hb8 hm8
       try dsimp only
       refine hK.out _ _ (fun _ => c13_8) (fun hHeld8' => ?_)
       have hHeld8 := hHeld8' (by decide)
       clear hHeld8'
       clear hK K; try simp only [Act.put, sa, sb, sc]
       refine wpAnyT_ready (rs := [13]) (by kernel_rfl) (by simp) (.cons rfl (fun K hK => ?_) .nil)
       skip
       have hnw : NewsOf w8 (.slice (some ⟨w1.heap.size, 0, none⟩) 1 1) 1 2 [.int .i64 at', .int .i64 who] := Sho.news ⟨rfl, .inr ⟨w1.heap.size, 0, 1, rfl, Nat.le_refl _, by decide, HB.out.lt, fun j u hj => by rw [Nat.zero_add]; exact HB.out.cell j u hj⟩⟩ (fun u hu => by simp at hu; rcases hu with rfl | rfl <;> rfl)
       refine step_append_lie rfl (.tmp 37) (.tmp 41) 83 rfl w0.heap.size 117 i0 (.agg #[.int .i64 0, .int .i64 0]) 2 16 Tryz.underlying83 hi0 hz0 hz1 hz2 rfl (by decide) _ k _ rfl HR.out _ 1 [.int .i64 at', .int .i64 who] rfl hnw (by unfold maxLen; omega) (by omega) H8.out.1.size ?_
       intro v13 w13 hown13 hgrow13 hlie13
       have hc13 : Chg w8 w13 _ := Chg.of_grown hgrow13
       have hlo13 := fun x hx => (World.ownsRow.lt HR.out x hx).1
       have hb13 := H8.out.1.trans (hc13.below H8.out.1.size (fun x hx => hlo13 x hx.symm))
       have hm13 := H8.out.2.chg hc13 (fun e => by have := hlo13 _ e.symm; omega)
       have hR13 := hown13
       obtain ⟨A13, c13, rfl⟩ := (Sho.own hR13).form
       have HR := Lib.hid hR13
       clear hR13 hown13 hgrow13 hlie13 hc13 hlo13 hnw
       simp only [Act.put, List.getElem_toArray, List.getElem_cons_succ, List.getElem_cons_zero, List.setIfInBounds_toArray, List.set_cons_zero, List.set_cons_succ]
       have H13 := Lib.hid (And.intro hb13 hm13)
       have c13_13 : w13.cell? ⟨mb, 13, none⟩ = some (.slice (some ⟨g, o, none⟩) l.length c) := by rw [← HE1.out]; exact hm13.cell 13 _ rfl
       have hmb13 := hm13.lt
       clear hb13 hm13
       try dsimp only
       refine hK.out _ _ (fun _ => c13_13) (fun hHeld13' => ?_)
       have hHeld13 := hHeld13' (by decide)
       clear hHeld13'
       clear hK K; try simp only [Act.put, sa, sb, sc]
       refine wpAnyT_ready (rs := [20]) (by kernel_rfl) (by simp) (.cons rfl (fun K hK => ?_) .nil)
       skip
       refine step_append_lie rfl (.tmp 42) (.tmp 48) 83 rfl w0.heap.size 117 i0 (.agg #[.int .i64 0, .int .i64 0]) 2 16 Tryz.underlying83 hi0 hz0 hz1 hz2 rfl (by decide) _ (k + 1) _ rfl HR.out _ (l.length - k) ((reqCells l).drop (k * 2)) rfl ((HVD.out.below H13.out.1).news (fun u hu => reqCells_one l u (List.mem_of_mem_drop hu))) (by unfold maxLen; omega) (by omega) H13.out.1.size ?_
       intro v20 w20 hown20 hgrow20 hlie20
       have hc20 : Chg w13 w20 _ := Chg.of_grown hgrow20
       have hlo20 := fun x hx => (World.ownsRow.lt HR.out x hx).1
       have hb20 := H13.out.1.trans (hc20.below H13.out.1.size (fun x hx => hlo20 x hx.symm))
       have hm20 := H13.out.2.chg hc20 (fun e => by have := hlo20 _ e.symm; omega)
       have hR20 := hown20
       obtain ⟨A20, c20, rfl⟩ := (Sho.own hR20).form
       have HR := Lib.hid hR20
       have y13 := hm20.free 13
       clear hR20 hown20 hgrow20 hlie20 hc20 hlo20
       simp only [Act.put, List.getElem_toArray, List.getElem_cons_succ, List.getElem_cons_zero, List.setIfInBounds_toArray, List.set_cons_zero, List.set_cons_succ]
       have H20 := Lib.hid (And.intro hb20 hm20)
       have c13_20 : w20.cell? ⟨mb, 13, none⟩ = some (.slice (some ⟨g, o, none⟩) l.length c) := by rw [← HE1.out]; exact hm20.cell 13 _ rfl
       have hmb20 := hm20.lt
       clear hb20 hm20
       try dsimp only
       refine hK.out _ _ (fun _ => c13_20) (fun hHeld20' => ?_)
       have hHeld20 := hHeld20' (by decide)
       clear hHeld20'
       clear hK K; try simp only [Act.put, sa, sb, sc]
       refine tl 21 50 rfl rfl ?_; simp only [sa, sb, sc]
       refine tl 22 51 rfl rfl ?_; simp only [sa, sb, sc]
       refine wpAnyT_ready (rs := [23]) (by kernel_rfl) (by simp) (.cons rfl (fun K hK => ?_) .nil)
       go_simp
       refine hK.out _ _ (fun h => absurd h (by decide)) (fun _ => ?_)
       clear hK K; try simp only [Act.put, sa, sb, sc]
       refine wpAnyT_done (by kernel_rfl) ?_ _
       have hsh : ShoP (fun x => w0.heap.size ≤ x ∧ x < w20.heap.size) w20 (.slice A20 (k + 1 + (l.length - k)) c20) (k + 1 + (l.length - k)) 2 _ := ShoP.own HR.out
       have hcells : ((reqCells l).take (k * 2) ++ [.int .i64 at', .int .i64 who]) ++ (reqCells l).drop (k * 2) = reqCells (insP at' who l) := by
        unfold insP
        rw [HPOS.out, reqCells_append, reqCells_take]
        show _ = (reqCells l).take (k * 2) ++ ([Value.int .i64 at', .int .i64 who] ++ reqCells (l.drop k))
        rw [reqCells_drop, List.append_assoc]
       have hlen : k + 1 + (l.length - k) = (insP at' who l).length := by rw [insP_length]; omega
       rw [hcells] at hsh
       have hsh2 : ShoP (fun x => w0.heap.size ≤ x ∧ x < w20.heap.size) w20 (.slice A20 (k + 1 + (l.length - k)) c20) (insP at' who l).length 2 (reqCells (insP at' who l)) := by rw [← hlen]; exact hsh
       have hfin := HMD.out.plans (pv := .slice A20 (k + 1 + (l.length - k)) c20) (l := insP at' who l) (W := w20) (W2 := w20.setCell ⟨mb, 13, none⟩ (.slice A20 (k + 1 + (l.length - k)) c20)) (HB0.out.trans (H20.out.1.mono HB0.out.size)) (hsh2.mono (fun x hx => .inr ⟨by have := HB0.out.size; have := hx.1; omega, hx.2⟩)) rfl
       have HF := Lib.hid hfin
       clear hfin hsh hsh2 hcells hlen
       go_wp2
       all_goals
        go_end0
        exact ⟨rfl, ⟨_, HF.out.1⟩, HF.out.2⟩
      case' wa3_1_8 =>
       skip
       refine step_append_lie rfl (.tmp 30) (.tmp 36) 83 rfl w0.heap.size 117 i0 (.agg #[.int .i64 0, .int .i64 0]) 2 16 Tryz.underlying83 hi0 hz0 hz1 hz2 rfl (by decide) _ 0 [] rfl HE.out _ k ((reqCells l).take (k * 2)) rfl ((HVT.out.below H1.out.1).news (fun u hu => reqCells_one l u (List.mem_of_mem_take hu))) (by unfold maxLen; omega) (by omega) H1.out.1.size ?_
       intro v8 w8 hown8 hgrow8 hlie8
       have hc8 : Chg w1 w8 _ := Chg.of_grown hgrow8
       have hlo8 := fun x hx => (World.ownsRow.lt HE.out x hx).1
       have hb8 := H1.out.1.trans (hc8.below H1.out.1.size (fun x hx => hlo8 x hx.symm))
       have hm8 := H1.out.2.chg hc8 (fun e => by have := hlo8 _ e.symm; omega)
       have hR8 : w8.ownsRow w0.heap.size 117 2 v8 k ((reqCells l).take (k * 2)) := by simpa only [Nat.zero_add, List.nil_append] using hown8
       obtain ⟨A8, c8, rfl⟩ := (Sho.own hR8).form
       have HR := Lib.hid hR8
       clear hR8 hown8 hgrow8 hlie8 hc8 hlo8
       simp only [Act.put, List.getElem_toArray, List.getElem_cons_succ, List.getElem_cons_zero, List.setIfInBounds_toArray, List.set_cons_zero, List.set_cons_succ]
       have H8 := Lib.hid (And.intro hb8 hm8)
       have c13_8 : w8.cell? ⟨mb, 13, none⟩ = some (.slice (some ⟨g, o, none⟩) l.length c) := by rw [← HE1.out]; exact hm8.cell 13 _ rfl
       have hmb8 := hm8.lt
       clear hb8 hm8
       try dsimp only
       refine hK.out _ _ (fun _ => c13_8) (fun hHeld8' => ?_)
       have hHeld8 := hHeld8' (by decide)
       clear hHeld8'
       clear hK K; try simp only [Act.put, sa, sb, sc]
       refine wpAnyT_ready (rs := [12]) (by kernel_rfl) (by simp) (.cons rfl (fun K hK => ?_) .nil)
       go_simp
       have hb12 := H8.out.1.alloc H8.out.1.size (.cells #[.int .i64 at', .int .i64 who] 117)
       have hm12 := H8.out.2.alloc (.cells #[.int .i64 at', .int .i64 who] 117)
       have hB1 := Blk.new w8 117 [.int .i64 at', .int .i64 who]
       have hR1 := World.ownsRow.alloc HR.out (.cells #[.int .i64 at', .int .i64 who] 117)
       have hne := fun x hx => (World.ownsRow.lt HR.out x hx).2
       generalize w8.alloc (.cells #[.int .i64 at', .int .i64 who] 117) = w12 at *
       have HB := Lib.hid hB1
       clear hB1
       have HR := Lib.hid hR1
       clear hR1
       have H12 := Lib.hid (And.intro hb12 hm12)
       have c13_12 : w12.cell? ⟨mb, 13, none⟩ = some (.slice (some ⟨g, o, none⟩) l.length c) := by rw [← HE1.out]; exact hm12.cell 13 _ rfl
       have hmb12 := hm12.lt
       clear hb12 hm12
       try dsimp only
       refine hK.out _ _ (fun _ => c13_12) (fun hHeld12' => ?_)
       have hHeld12 := hHeld12' (by decide)
       clear hHeld12'
       clear hK K; try simp only [Act.put, sa, sb, sc]
       refine wpAnyT_ready (rs := [13]) (by kernel_rfl) (by simp) (.cons rfl (fun K hK => ?_) .nil)
       skip
       have hnw : NewsOf w12 (.slice (some ⟨w8.heap.size, 0, none⟩) 1 1) 1 2 [.int .i64 at', .int .i64 who] := Sho.news ⟨rfl, .inr ⟨w8.heap.size, 0, 1, rfl, Nat.le_refl _, by decide, HB.out.lt, fun j u hj => by rw [Nat.zero_add]; exact HB.out.cell j u hj⟩⟩ (fun u hu => by simp at hu; rcases hu with rfl | rfl <;> rfl)
       refine step_append_lie rfl (.tmp 37) (.tmp 41) 83 rfl w0.heap.size 117 i0 (.agg #[.int .i64 0, .int .i64 0]) 2 16 Tryz.underlying83 hi0 hz0 hz1 hz2 rfl (by decide) _ k _ rfl HR.out _ 1 [.int .i64 at', .int .i64 who] rfl hnw (by unfold maxLen; omega) (by omega) H12.out.1.size ?_
       intro v13 w13 hown13 hgrow13 hlie13
       have hc13 : Chg w12 w13 _ := Chg.of_grown hgrow13
       have hlo13 := fun x hx => (World.ownsRow.lt HR.out x hx).1
       have hb13 := H12.out.1.trans (hc13.below H12.out.1.size (fun x hx => hlo13 x hx.symm))
       have hm13 := H12.out.2.chg hc13 (fun e => by have := hlo13 _ e.symm; omega)
       have hR13 := hown13
       obtain ⟨A13, c13, rfl⟩ := (Sho.own hR13).form
       have HR := Lib.hid hR13
       clear hR13 hown13 hgrow13 hlie13 hc13 hlo13 hnw
       simp only [Act.put, List.getElem_toArray, List.getElem_cons_succ, List.getElem_cons_zero, List.setIfInBounds_toArray, List.set_cons_zero, List.set_cons_succ]
       have H13 := Lib.hid (And.intro hb13 hm13)
       have c13_13 : w13.cell? ⟨mb, 13, none⟩ = some (.slice (some ⟨g, o, none⟩) l.length c) := by rw [← HE1.out]; exact hm13.cell 13 _ rfl
       have hmb13 := hm13.lt
       clear hb13 hm13
       try dsimp only
       refine hK.out _ _ (fun _ => c13_13) (fun hHeld13' => ?_)
       have hHeld13 := hHeld13' (by decide)
       clear hHeld13'
       clear hK K; try simp only [Act.put, sa, sb, sc]
       refine wpAnyT_ready (rs := [20]) (by kernel_rfl) (by simp) (.cons rfl (fun K hK => ?_) .nil)
       skip
       refine step_append_lie rfl (.tmp 42) (.tmp 48) 83 rfl w0.heap.size 117 i0 (.agg #[.int .i64 0, .int .i64 0]) 2 16 Tryz.underlying83 hi0 hz0 hz1 hz2 rfl (by decide) _ (k + 1) _ rfl HR.out _ (l.length - k) ((reqCells l).drop (k * 2)) rfl ((HVD.out.below H13.out.1).news (fun u hu => reqCells_one l u (List.mem_of_mem_drop hu))) (by unfold maxLen; omega) (by omega) H13.out.1.size ?_
       intro v20 w20 hown20 hgrow20 hlie20
       have hc20 : Chg w13 w20 _ := Chg.of_grown hgrow20
       have hlo20 := fun x hx => (World.ownsRow.lt HR.out x hx).1
       have hb20 := H13.out.1.trans (hc20.below H13.out.1.size (fun x hx => hlo20 x hx.symm))
       have hm20 := H13.out.2.chg hc20 (fun e => by have := hlo20 _ e.symm; omega)
       have hR20 := hown20
       obtain ⟨A20, c20, rfl⟩ := (Sho.own hR20).form
       have HR := Lib.hid hR20
       have y13 := hm20.free 13
       clear hR20 hown20 hgrow20 hlie20 hc20 hlo20
       simp only [Act.put, List.getElem_toArray, List.getElem_cons_succ, List.getElem_cons_zero, List.setIfInBounds_toArray, List.set_cons_zero, List.set_cons_succ]
       have H20 := Lib.hid (And.intro hb20 hm20)
       have c13_20 : w20.cell? ⟨mb, 13, none⟩ = some (.slice (some ⟨g, o, none⟩) l.length c) := by rw [← HE1.out]; exact hm20.cell 13 _ rfl
       have hmb20 := hm20.lt
       clear hb20 hm20
       try dsimp only
       refine hK.out _ _ (fun _ => c13_20) (fun hHeld20' => ?_)
       have hHeld20 := hHeld20' (by decide)
       clear hHeld20'
       clear hK K; try simp only [Act.put, sa, sb, sc]
       refine tl 21 50 rfl rfl ?_; simp only [sa, sb, sc]
       refine tl 22 51 rfl rfl ?_; simp only [sa, sb, sc]
       refine wpAnyT_ready (rs := [23]) (by kernel_rfl) (by simp) (.cons rfl (fun K hK => ?_) .nil)
       go_simp
       refine hK.out _ _ (fun h => absurd h (by decide)) (fun _ => ?_)
       clear hK K; try simp only [Act.put, sa, sb, sc]
       refine wpAnyT_done (by kernel_rfl) ?_ _
       have hsh : ShoP (fun x => w0.heap.size ≤ x ∧ x < w20.heap.size) w20 (.slice A20 (k + 1 + (l.length - k)) c20) (k + 1 + (l.length - k)) 2 _ := ShoP.own HR.out
       have hcells : ((reqCells l).take (k * 2) ++ [.int .i64 at', .int .i64 who]) ++ (reqCells l).drop (k * 2) = reqCells (insP at' who l) := by
        unfold insP
        rw [HPOS.out, reqCells_append, reqCells_take]
        show _ = (reqCells l).take (k * 2) ++ ([Value.int .i64 at', .int .i64 who] ++ reqCells (l.drop k))
        rw [reqCells_drop, List.append_assoc]
       have hlen : k + 1 + (l.length - k) = (insP at' who l).length := by rw [insP_length]; omega
       rw [hcells] at hsh
       have hsh2 : ShoP (fun x => w0.heap.size ≤ x ∧ x < w20.heap.size) w20 (.slice A20 (k + 1 + (l.length - k)) c20) (insP at' who l).length 2 (reqCells (insP at' who l)) := by rw [← hlen]; exact hsh
       have hfin := HMD.out.plans (pv := .slice A20 (k + 1 + (l.length - k)) c20) (l := insP at' who l) (W := w20) (W2 := w20.setCell ⟨mb, 13, none⟩ (.slice A20 (k + 1 + (l.length - k)) c20)) (HB0.out.trans (H20.out.1.mono HB0.out.size)) (hsh2.mono (fun x hx => .inr ⟨by have := HB0.out.size; have := hx.1; omega, hx.2⟩)) rfl
       have HF := Lib.hid hfin
       clear hfin hsh hsh2 hcells hlen
       go_wp2
       all_goals
        go_end0
        exact ⟨rfl, ⟨_, HF.out.1⟩, HF.out.2⟩
    ·have hc1 := HCE.out (k - 1) (by omega)
     have hk1 : (0 : Int) < (k : Int) := by omega
     have hkl : k - 1 < l.length := by omega
     have hki : (k : Int) - 1 = ((k - 1 : Nat) : Int) := by omega
     generalize (l.getD (k - 1) (0, 0)).1 = X at *
     go_wp2
     refine wp_region_drewT 21 (S := fun w' => w'.cell? ⟨mb, 13, none⟩ = some (.slice (some ⟨g, o, none⟩) l.length c)) (by kernel_rfl) ?_ (fun hHeld => ?_)
     ·exact hcd
     generalize wr.drew = w0 at *
     refine tt 0 29 rfl rfl ?_; simp only [sa, sb, sc]
     refine tt 2 31 rfl rfl ?_; simp only [sa, sb, sc]
     refine tt 3 32 rfl rfl ?_; simp only [sa, sb, sc]
     refine tt 4 33 rfl rfl ?_; simp only [sa, sb, sc]
     refine tt 5 34 rfl rfl ?_; simp only [sa, sb, sc]
     refine tt 6 35 rfl rfl ?_; simp only [sa, sb, sc]
     refine tt 7 36 rfl rfl ?_; simp only [sa, sb, sc]
     refine tt 9 38 rfl rfl ?_; simp only [sa, sb, sc]
     refine tt 10 39 rfl rfl ?_; simp only [sa, sb, sc]
     refine tt 11 40 rfl rfl ?_; simp only [sa, sb, sc]
     refine tt 14 43 rfl rfl ?_; simp only [sa, sb, sc]
     refine tt 15 44 rfl rfl ?_; simp only [sa, sb, sc]
     refine tt 16 45 rfl rfl ?_; simp only [sa, sb, sc]
     refine tt 17 46 rfl rfl ?_; simp only [sa, sb, sc]
     refine tt 18 47 rfl rfl ?_; simp only [sa, sb, sc]
     refine tt 19 48 rfl rfl ?_; simp only [sa, sb, sc]
     refine wpAnyT_ready (rs := [1, 12]) (by kernel_rfl) (by simp) ?_
     refine AllReadyT.cons rfl (fun K hK => ?wb3_1) (AllReadyT.cons rfl (fun K hK => ?wb3_12) AllReadyT.nil)
     case' wb3_12 =>
      go_simp
      have hb12 := H0.out.1.alloc H0.out.1.size (.cells #[.int .i64 at', .int .i64 who] 117)
      have hm12 := H0.out.2.alloc (.cells #[.int .i64 at', .int .i64 who] 117)
      have hB1 := Blk.new w0 117 [.int .i64 at', .int .i64 who]
      generalize w0.alloc (.cells #[.int .i64 at', .int .i64 who] 117) = w12 at *
      have HB := Lib.hid hB1
      clear hB1
      have H12 := Lib.hid (And.intro hb12 hm12)
      have c13_12 : w12.cell? ⟨mb, 13, none⟩ = some (.slice (some ⟨g, o, none⟩) l.length c) := by rw [← HE1.out]; exact hm12.cell 13 _ rfl
      have hmb12 := hm12.lt
      clear hb12 hm12
      try dsimp only
      refine hK.out _ _ (fun _ => c13_12) (fun hHeld12' => ?_)
      have hHeld12 := hHeld12' (by decide)
      clear hHeld12'
      clear hK K; try simp only [Act.put, sa, sb, sc]
      refine wpAnyT_ready (rs := [1]) (by kernel_rfl) (by simp) (.cons rfl (fun K hK => ?_) .nil)
      go_simp
      have hb1 := H12.out.1.alloc H12.out.1.size (.cells #[] 117)
      have hm1 := H12.out.2.alloc (.cells #[] 117)
      have hE1 : (w12.alloc (.cells #[] 117)).ownsRow w0.heap.size 117 2 (.slice (some ⟨w12.heap.size, 0, none⟩) 0 0) 0 [] := own_none (Blk.new w12 117 []) H12.out.1.size
      have hB1 := HB.out.alloc (.cells #[] 117)
      have hne := HB.out.lt
      generalize w12.alloc (.cells #[] 117) = w1 at *
      have HE := Lib.hid hE1
      have HB := Lib.hid hB1
      clear hE1
      clear hB1
      have H1 := Lib.hid (And.intro hb1 hm1)
      have c13_1 : w1.cell? ⟨mb, 13, none⟩ = some (.slice (some ⟨g, o, none⟩) l.length c) := by rw [← HE1.out]; exact hm1.cell 13 _ rfl
      have hmb1 := hm1.lt
      clear hb1 hm1
      try dsimp only
      refine hK.out _ _ (fun _ => c13_1) (fun hHeld1' => ?_)
      have hHeld1 := hHeld1' (by decide)
      clear hHeld1'
      clear hK K; try simp only [Act.put, sa, sb, sc]
      refine wpAnyT_ready (rs := [8]) (by kernel_rfl) (by simp) (.cons rfl (fun K hK => ?_) .nil)
      skip
      have HNE : Hid (∀ x : Nat, (Value.slice (some ⟨w12.heap.size, 0, none⟩) 0 0).ownBlock = some x → x ≠ w0.heap.size) := Lib.hid (fun x hx => by have hx' : some w12.heap.size = some x := hx; injection hx' with hx'; omega)
      refine step_append_lie rfl (.tmp 30) (.tmp 36) 83 rfl w0.heap.size 117 i0 (.agg #[.int .i64 0, .int .i64 0]) 2 16 Tryz.underlying83 hi0 hz0 hz1 hz2 rfl (by decide) _ 0 [] rfl HE.out _ k ((reqCells l).take (k * 2)) rfl ((HVT.out.below H1.out.1).news (fun u hu => reqCells_one l u (List.mem_of_mem_take hu))) (by unfold maxLen; omega) (by omega) H1.out.1.size ?_
      intro v8 w8 hown8 hgrow8 hlie8
      have hc8 : Chg w1 w8 _ := Chg.of_grown hgrow8
      have hlo8 := fun x hx => (World.ownsRow.lt HE.out x hx).1
      have hb8 := H1.out.1.trans (hc8.below H1.out.1.size (fun x hx => hlo8 x hx.symm))
      have hm8 := H1.out.2.chg hc8 (fun e => by have := hlo8 _ e.symm; omega)
      have hR8 : w8.ownsRow w0.heap.size 117 2 v8 k ((reqCells l).take (k * 2)) := by simpa only [Nat.zero_add, List.nil_append] using hown8
      have hB8 := HB.out.chg hc8 (fun e => HNE.out _ e.symm rfl)
      have hvB : v8.ownBlock ≠ some w0.heap.size := LieOf.ne hlie8 (fun e => HNE.out _ e rfl) HB.out.lt
      have HB := Lib.hid hB8
      clear hB8
      obtain ⟨A8, c8, rfl⟩ := (Sho.own hR8).form
      have HR := Lib.hid hR8
      clear hR8 hown8 hgrow8 hlie8 hc8 hlo8
      simp only [Act.put, List.getElem_toArray, List.getElem_cons_succ, List.getElem_cons_zero, List.setIfInBounds_toArray, List.set_cons_zero, List.set_cons_succ]
      have H8 := Lib.hid (And.intro hb8 hm8)
      have c13_8 : w8.cell? ⟨mb, 13, none⟩ = some (.slice (some ⟨g, o, none⟩) l.length c) := by rw [← HE1.out]; exact hm8.cell 13 _ rfl
      have hmb8 := hm8.lt
      clear hb8 hm8
      try dsimp only
      refine hK.out _ _ (fun _ => c13_8) (fun hHeld8' => ?_)
      have hHeld8 := hHeld8' (by decide)
      clear hHeld8'
      clear hK K; try simp only [Act.put, sa, sb, sc]
      refine wpAnyT_ready (rs := [13]) (by kernel_rfl) (by simp) (.cons rfl (fun K hK => ?_) .nil)
      skip
      have hnw : NewsOf w8 (.slice (some ⟨w0.heap.size, 0, none⟩) 1 1) 1 2 [.int .i64 at', .int .i64 who] := Sho.news ⟨rfl, .inr ⟨w0.heap.size, 0, 1, rfl, Nat.le_refl _, by decide, HB.out.lt, fun j u hj => by rw [Nat.zero_add]; exact HB.out.cell j u hj⟩⟩ (fun u hu => by simp at hu; rcases hu with rfl | rfl <;> rfl)
      refine step_append_lie rfl (.tmp 37) (.tmp 41) 83 rfl w0.heap.size 117 i0 (.agg #[.int .i64 0, .int .i64 0]) 2 16 Tryz.underlying83 hi0 hz0 hz1 hz2 rfl (by decide) _ k _ rfl HR.out _ 1 [.int .i64 at', .int .i64 who] rfl hnw (by unfold maxLen; omega) (by omega) H8.out.1.size ?_
      intro v13 w13 hown13 hgrow13 hlie13
      have hc13 : Chg w8 w13 _ := Chg.of_grown hgrow13
      have hlo13 := fun x hx => (World.ownsRow.lt HR.out x hx).1
      have hb13 := H8.out.1.trans (hc13.below H8.out.1.size (fun x hx => hlo13 x hx.symm))
      have hm13 := H8.out.2.chg hc13 (fun e => by have := hlo13 _ e.symm; omega)
      have hR13 := hown13
      obtain ⟨A13, c13, rfl⟩ := (Sho.own hR13).form
      have HR := Lib.hid hR13
      clear hR13 hown13 hgrow13 hlie13 hc13 hlo13 hnw
      simp only [Act.put, List.getElem_toArray, List.getElem_cons_succ, List.getElem_cons_zero, List.setIfInBounds_toArray, List.set_cons_zero, List.set_cons_succ]
      have H13 := Lib.hid (And.intro hb13 hm13)
      have c13_13 : w13.cell? ⟨mb, 13, none⟩ = some (.slice (some ⟨g, o, none⟩) l.length c) := by rw [← HE1.out]; exact hm13.cell 13 _ rfl
      have hmb13 := hm13.lt
      clear hb13 hm13
      try dsimp only
      refine hK.out _ _ (fun _ => c13_13) (fun hHeld13' => ?_)
      have hHeld13 := hHeld13' (by decide)
      clear hHeld13'
      clear hK K; try simp only [Act.put, sa, sb, sc]
      refine wpAnyT_ready (rs := [20]) (by kernel_rfl) (by simp) (.cons rfl (fun K hK => ?_) .nil)
      skip
      refine step_append_lie rfl (.tmp 42) (.tmp 48) 83 rfl w0.heap.size 117 i0 (.agg #[.int .i64 0, .int .i64 0]) 2 16 Tryz.underlying83 hi0 hz0 hz1 hz2 rfl (by decide) _ (k + 1) _ rfl HR.out _ (l.length - k) ((reqCells l).drop (k * 2)) rfl ((HVD.out.below H13.out.1).news (fun u hu => reqCells_one l u (List.mem_of_mem_drop hu))) (by unfold maxLen; omega) (by omega) H13.out.1.size ?_
      intro v20 w20 hown20 hgrow20 hlie20
      have hc20 : Chg w13 w20 _ := Chg.of_grown hgrow20
      have hlo20 := fun x hx => (World.ownsRow.lt HR.out x hx).1
      have hb20 := H13.out.1.trans (hc20.below H13.out.1.size (fun x hx => hlo20 x hx.symm))
      have hm20 := H13.out.2.chg hc20 (fun e => by have := hlo20 _ e.symm; omega)
      have hR20 := hown20
      obtain ⟨A20, c20, rfl⟩ := (Sho.own hR20).form
      have HR := Lib.hid hR20
      have y13 := hm20.free 13
      clear hR20 hown20 hgrow20 hlie20 hc20 hlo20
      simp only [Act.put, List.getElem_toArray, List.getElem_cons_succ, List.getElem_cons_zero, List.setIfInBounds_toArray, List.set_cons_zero, List.set_cons_succ]
      have H20 := Lib.hid (And.intro hb20 hm20)
      have c13_20 : w20.cell? ⟨mb, 13, none⟩ = some (.slice (some ⟨g, o, none⟩) l.length c) := by rw [← HE1.out]; exact hm20.cell 13 _ rfl
      have hmb20 := hm20.lt
      clear hb20 hm20
      try dsimp only
      refine hK.out _ _ (fun _ => c13_20) (fun hHeld20' => ?_)
      have hHeld20 := hHeld20' (by decide)
      clear hHeld20'
      clear hK K; try simp only [Act.put, sa, sb, sc]
      refine tl 21 50 rfl rfl ?_; simp only [sa, sb, sc]
      refine tl 22 51 rfl rfl ?_; simp only [sa, sb, sc]
      refine wpAnyT_ready (rs := [23]) (by kernel_rfl) (by simp) (.cons rfl (fun K hK => ?_) .nil)
      go_simp
      refine hK.out _ _ (fun h => absurd h (by decide)) (fun _ => ?_)
      clear hK K; try simp only [Act.put, sa, sb, sc]
      refine wpAnyT_done (by kernel_rfl) ?_ _
      have hsh : ShoP (fun x => w0.heap.size ≤ x ∧ x < w20.heap.size) w20 (.slice A20 (k + 1 + (l.length - k)) c20) (k + 1 + (l.length - k)) 2 _ := ShoP.own HR.out
      have hcells : ((reqCells l).take (k * 2) ++ [.int .i64 at', .int .i64 who]) ++ (reqCells l).drop (k * 2) = reqCells (insP at' who l) := by
       unfold insP
       rw [HPOS.out, reqCells_append, reqCells_take]
       show _ = (reqCells l).take (k * 2) ++ ([Value.int .i64 at', .int .i64 who] ++ reqCells (l.drop k))
       rw [reqCells_drop, List.append_assoc]
      have hlen : k + 1 + (l.length - k) = (insP at' who l).length := by rw [insP_length]; omega
      rw [hcells] at hsh
      have hsh2 : ShoP (fun x => w0.heap.size ≤ x ∧ x < w20.heap.size) w20 (.slice A20 (k + 1 + (l.length - k)) c20) (insP at' who l).length 2 (reqCells (insP at' who l)) := by rw [← hlen]; exact hsh
      have hfin := HMD.out.plans (pv := .slice A20 (k + 1 + (l.length - k)) c20) (l := insP at' who l) (W := w20) (W2 := w20.setCell ⟨mb, 13, none⟩ (.slice A20 (k + 1 + (l.length - k)) c20)) (HB0.out.trans (H20.out.1.mono HB0.out.size)) (hsh2.mono (fun x hx => .inr ⟨by have := HB0.out.size; have := hx.1; omega, hx.2⟩)) rfl
      have HF := Lib.hid hfin
      clear hfin hsh hsh2 hcells hlen
      go_wp2
      all_goals
       go_end0
       exact ⟨rfl, ⟨_, HF.out.1⟩, HF.out.2⟩
     case' wb3_1 =>
      go_simp
      have hb1 := H0.out.1.alloc H0.out.1.size (.cells #[] 117)
      have hm1 := H0.out.2.alloc (.cells #[] 117)
      have hE1 : (w0.alloc (.cells #[] 117)).ownsRow w0.heap.size 117 2 (.slice (some ⟨w0.heap.size, 0, none⟩) 0 0) 0 [] := own_none (Blk.new w0 117 []) H0.out.1.size
      generalize w0.alloc (.cells #[] 117) = w1 at *
      have HE := Lib.hid hE1
      clear hE1
      have H1 := Lib.hid (And.intro hb1 hm1)
      have c13_1 : w1.cell? ⟨mb, 13, none⟩ = some (.slice (some ⟨g, o, none⟩) l.length c) := by rw [← HE1.out]; exact hm1.cell 13 _ rfl
      have hmb1 := hm1.lt
      clear hb1 hm1
      try dsimp only
      refine hK.out _ _ (fun _ => c13_1) (fun hHeld1' => ?_)
      have hHeld1 := hHeld1' (by decide)
      clear hHeld1'
      clear hK K; try simp only [Act.put, sa, sb, sc]
      refine wpAnyT_ready (rs := [8, 12]) (by kernel_rfl) (by simp) ?_
      refine AllReadyT.cons rfl (fun K hK => ?wb3_1_8) (AllReadyT.cons rfl (fun K hK => ?wb3_1_12) AllReadyT.nil)
      case' wb3_1_12 =>
       go_simp
       have hb12 := H1.out.1.alloc H1.out.1.size (.cells #[.int .i64 at', .int .i64 who] 117)
       have hm12 := H1.out.2.alloc (.cells #[.int .i64 at', .int .i64 who] 117)
       have hB1 := Blk.new w1 117 [.int .i64 at', .int .i64 who]
       have hE1 := World.ownsRow.alloc HE.out (.cells #[.int .i64 at', .int .i64 who] 117)
       have hne := fun x hx => (World.ownsRow.lt HE.out x hx).2
       generalize w1.alloc (.cells #[.int .i64 at', .int .i64 who] 117) = w12 at *
       have HB := Lib.hid hB1
       clear hB1
       have HE := Lib.hid hE1
       clear hE1
       have H12 := Lib.hid (And.intro hb12 hm12)
       have c13_12 : w12.cell? ⟨mb, 13, none⟩ = some (.slice (some ⟨g, o, none⟩) l.length c) := by rw [← HE1.out]; exact hm12.cell 13 _ rfl
       have hmb12 := hm12.lt
       clear hb12 hm12
       try dsimp only
       refine hK.out _ _ (fun _ => c13_12) (fun hHeld12' => ?_)
       have hHeld12 := hHeld12' (by decide)
       clear hHeld12'
       clear hK K; try simp only [Act.put, sa, sb, sc]
       refine wpAnyT_ready (rs := [8]) (by kernel_rfl) (by simp) (.cons rfl (fun K hK => ?_) .nil)
       skip
       have HNE : Hid (∀ x : Nat, (Value.slice (some ⟨w0.heap.size, 0, none⟩) 0 0).ownBlock = some x → x ≠ w1.heap.size) := Lib.hid (fun x hx => by have hx' : some w0.heap.size = some x := hx; injection hx' with hx'; have h9 : w0.heap.size < w1.heap.size := hne _ rfl; omega)
       refine step_append_lie rfl (.tmp 30) (.tmp 36) 83 rfl w0.heap.size 117 i0 (.agg #[.int .i64 0, .int .i64 0]) 2 16 Tryz.underlying83 hi0 hz0 hz1 hz2 rfl (by decide) _ 0 [] rfl HE.out _ k ((reqCells l).take (k * 2)) rfl ((HVT.out.below H12.out.1).news (fun u hu => reqCells_one l u (List.mem_of_mem_take hu))) (by unfold maxLen; omega) (by omega) H12.out.1.size ?_
       intro v8 w8 hown8 hgrow8 hlie8
       have hc8 : Chg w12 w8 _ := Chg.of_grown hgrow8
       have hlo8 := fun x hx => (World.ownsRow.lt HE.out x hx).1
       have hb8 := H12.out.1.trans (hc8.below H12.out.1.size (fun x hx => hlo8 x hx.symm))
       have hm8 := H12.out.2.chg hc8 (fun e => by have := hlo8 _ e.symm; omega)
       have hR8 : w8.ownsRow w0.heap.size 117 2 v8 k ((reqCells l).take (k * 2)) := by simpa only [Nat.zero_add, List.nil_append] using hown8
       have hB8 := HB.out.chg hc8 (fun e => HNE.out _ e.symm rfl)
       have hvB : v8.ownBlock ≠ some w1.heap.size := LieOf.ne hlie8 (fun e => HNE.out _ e rfl) HB.out.lt
       have HB := Lib.hid hB8
       clear hB8
       obtain ⟨A8, c8, rfl⟩ := (Sho.own hR8).form
       have HR := Lib.hid hR8
       clear hR8 hown8 hgrow8 hlie8 hc8 hlo8
       simp only [Act.put, List.getElem_toArray, List.getElem_cons_succ, List.getElem_cons_zero, List.setIfInBounds_toArray, List.set_cons_zero, List.set_cons_succ]
       have H8 := Lib.hid (And.intro hb8 hm8)
       have c13_8 : w8.cell? ⟨mb, 13, none⟩ = some (.slice (some ⟨g, o, none⟩) l.length c) := by rw [← HE1.out]; exact hm8.cell 13 _ rfl
       have hmb8 := hm8.lt
       clear hb8 hm8
       try dsimp only
       refine hK.out _ _ (fun _ => c13_8) (fun hHeld8' => ?_)
       have hHeld8 := hHeld8' (by decide)
       clear hHeld8'
       clear hK K; try simp only [Act.put, sa, sb, sc]
       refine wpAnyT_ready (rs := [13]) (by kernel_rfl) (by simp) (.cons rfl (fun K hK => ?_) .nil)
       skip
       have hnw : NewsOf w8 (.slice (some ⟨w1.heap.size, 0, none⟩) 1 1) 1 2 [.int .i64 at', .int .i64 who] := Sho.news ⟨rfl, .inr ⟨w1.heap.size, 0, 1, rfl, Nat.le_refl _, by decide, HB.out.lt, fun j u hj => by rw [Nat.zero_add]; exact HB.out.cell j u hj⟩⟩ (fun u hu => by simp at hu; rcases hu with rfl | rfl <;> rfl)
       refine step_append_lie rfl (.tmp 37) (.tmp 41) 83 rfl w0.heap.size 117 i0 (.agg #[.int .i64 0, .int .i64 0]) 2 16 Tryz.underlying83 hi0 hz0 hz1 hz2 rfl (by decide) _ k _ rfl HR.out _ 1 [.int .i64 at', .int .i64 who] rfl hnw (by unfold maxLen; omega) (by omega) H8.out.1.size ?_
       intro v13 w13 hown13 hgrow13 hlie13
       have hc13 : Chg w8 w13 _ := Chg.of_grown hgrow13
       have hlo13 := fun x hx => (World.ownsRow.lt HR.out x hx).1
       have hb13 := H8.out.1.trans (hc13.below H8.out.1.size (fun x hx => hlo13 x hx.symm))
       have hm13 := H8.out.2.chg hc13 (fun e => by have := hlo13 _ e.symm; omega)
       have hR13 := hown13
       obtain ⟨A13, c13, rfl⟩ := (Sho.own hR13).form
       have HR := Lib.hid hR13
       clear hR13 hown13 hgrow13 hlie13 hc13 hlo13 hnw
       simp only [Act.put, List.getElem_toArray, List.getElem_cons_succ, List.getElem_cons_zero, List.setIfInBounds_toArray, List.set_cons_zero, List.set_cons_succ]
       have H13 := Lib.hid (And.intro hb13 hm13)
       have c13_13 : w13.cell? ⟨mb, 13, none⟩ = some (.slice (some ⟨g, o, none⟩) l.length c) := by rw [← HE1.out]; exact hm13.cell 13 _ rfl
       have hmb13 := hm13.lt
       clear hb13 hm13
       try dsimp only
       refine hK.out _ _ (fun _ => c13_13) (fun hHeld13' => ?_)
       have hHeld13 := hHeld13' (by decide)
       clear hHeld13'
       clear hK K; try simp only [Act.put, sa, sb, sc]
       refine wpAnyT_ready (rs := [20]) (by kernel_rfl) (by simp) (.cons rfl (fun K hK => ?_) .nil)
       skip
       refine step_append_lie rfl (.tmp 42) (.tmp 48) 83 rfl w0.heap.size 117 i0 (.agg #[.int .i64 0, .int .i64 0]) 2 16 Tryz.underlying83 hi0 hz0 hz1 hz2 rfl (by decide) _ (k + 1) _ rfl HR.out _ (l.length - k) ((reqCells l).drop (k * 2)) rfl ((HVD.out.below H13.out.1).news (fun u hu => reqCells_one l u (List.mem_of_mem_drop hu))) (by unfold maxLen; omega) (by omega) H13.out.1.size ?_
       intro v20 w20 hown20 hgrow20 hlie20
       have hc20 : Chg w13 w20 _ := Chg.of_grown hgrow20
       have hlo20 := fun x hx => (World.ownsRow.lt HR.out x hx).1
       have hb20 := H13.out.1.trans (hc20.below H13.out.1.size (fun x hx => hlo20 x hx.symm))
       have hm20 := H13.out.2.chg hc20 (fun e => by have := hlo20 _ e.symm; omega)
       have hR20 := hown20
       obtain ⟨A20, c20, rfl⟩ := (Sho.own hR20).form
       have HR := Lib.hid hR20
       have y13 := hm20.free 13
       clear hR20 hown20 hgrow20 hlie20 hc20 hlo20
       simp only [Act.put, List.getElem_toArray, List.getElem_cons_succ, List.getElem_cons_zero, List.setIfInBounds_toArray, List.set_cons_zero, List.set_cons_succ]
       have H20 := Lib.hid (And.intro hb20 hm20)
       have c13_20 : w20.cell? ⟨mb, 13, none⟩ = some (.slice (some ⟨g, o, none⟩) l.length c) := by rw [← HE1.out]; exact hm20.cell 13 _ rfl
       have hmb20 := hm20.lt
       clear hb20 hm20
       try dsimp only
       refine hK.out _ _ (fun _ => c13_20) (fun hHeld20' => ?_)
       have hHeld20 := hHeld20' (by decide)
       clear hHeld20'
       clear hK K; try simp only [Act.put, sa, sb, sc]
       refine tl 21 50 rfl rfl ?_; simp only [sa, sb, sc]
       refine tl 22 51 rfl rfl ?_; simp only [sa, sb, sc]
       refine wpAnyT_ready (rs := [23]) (by kernel_rfl) (by simp) (.cons rfl (fun K hK => ?_) .nil)
       go_simp
       refine hK.out _ _ (fun h => absurd h (by decide)) (fun _ => ?_)
       clear hK K; try simp only [Act.put, sa, sb, sc]
       refine wpAnyT_done (by kernel_rfl) ?_ _
       have hsh : ShoP (fun x => w0.heap.size ≤ x ∧ x < w20.heap.size) w20 (.slice A20 (k + 1 + (l.length - k)) c20) (k + 1 + (l.length - k)) 2 _ := ShoP.own HR.out
       have hcells : ((reqCells l).take (k * 2) ++ [.int .i64 at', .int .i64 who]) ++ (reqCells l).drop (k * 2) = reqCells (insP at' who l) := by
        unfold insP
        rw [HPOS.out, reqCells_append, reqCells_take]
        show _ = (reqCells l).take (k * 2) ++ ([Value.int .i64 at', .int .i64 who] ++ reqCells (l.drop k))
        rw [reqCells_drop, List.append_assoc]
       have hlen : k + 1 + (l.length - k) = (insP at' who l).length := by rw [insP_length]; omega
       rw [hcells] at hsh
       have hsh2 : ShoP (fun x => w0.heap.size ≤ x ∧ x < w20.heap.size) w20 (.slice A20 (k + 1 + (l.length - k)) c20) (insP at' who l).length 2 (reqCells (insP at' who l)) := by rw [← hlen]; exact hsh
       have hfin := HMD.out.plans (pv := .slice A20 (k + 1 + (l.length - k)) c20) (l := insP at' who l) (W := w20) (W2 := w20.setCell ⟨mb, 13, none⟩ (.slice A20 (k + 1 + (l.length - k)) c20)) (HB0.out.trans (H20.out.1.mono HB0.out.size)) (hsh2.mono (fun x hx => .inr ⟨by have := HB0.out.size; have := hx.1; omega, hx.2⟩)) rfl
       have HF := Lib.hid hfin
       clear hfin hsh hsh2 hcells hlen
       go_wp2
       all_goals
        go_end0
        exact ⟨rfl, ⟨_, HF.out.1⟩, HF.out.2⟩
      case' wb3_1_8 =>
       skip
       refine step_append_lie rfl (.tmp 30) (.tmp 36) 83 rfl w0.heap.size 117 i0 (.agg #[.int .i64 0, .int .i64 0]) 2 16 Tryz.underlying83 hi0 hz0 hz1 hz2 rfl (by decide) _ 0 [] rfl HE.out _ k ((reqCells l).take (k * 2)) rfl ((HVT.out.below H1.out.1).news (fun u hu => reqCells_one l u (List.mem_of_mem_take hu))) (by unfold maxLen; omega) (by omega) H1.out.1.size ?_
       intro v8 w8 hown8 hgrow8 hlie8
       have hc8 : Chg w1 w8 _ := Chg.of_grown hgrow8
       have hlo8 := fun x hx => (World.ownsRow.lt HE.out x hx).1
       have hb8 := H1.out.1.trans (hc8.below H1.out.1.size (fun x hx => hlo8 x hx.symm))
       have hm8 := H1.out.2.chg hc8 (fun e => by have := hlo8 _ e.symm; omega)
       have hR8 : w8.ownsRow w0.heap.size 117 2 v8 k ((reqCells l).take (k * 2)) := by simpa only [Nat.zero_add, List.nil_append] using hown8
       obtain ⟨A8, c8, rfl⟩ := (Sho.own hR8).form
       have HR := Lib.hid hR8
       clear hR8 hown8 hgrow8 hlie8 hc8 hlo8
       simp only [Act.put, List.getElem_toArray, List.getElem_cons_succ, List.getElem_cons_zero, List.setIfInBounds_toArray, List.set_cons_zero, List.set_cons_succ]
       have H8 := Lib.hid (And.intro hb8 hm8)
       have c13_8 : w8.cell? ⟨mb, 13, none⟩ = some (.slice (some ⟨g, o, none⟩) l.length c) := by rw [← HE1.out]; exact hm8.cell 13 _ rfl
       have hmb8 := hm8.lt
       clear hb8 hm8
       try dsimp only
       refine hK.out _ _ (fun _ => c13_8) (fun hHeld8' => ?_)
       have hHeld8 := hHeld8' (by decide)
       clear hHeld8'
       clear hK K; try simp only [Act.put, sa, sb, sc]
       refine wpAnyT_ready (rs := [12]) (by kernel_rfl) (by simp) (.cons rfl (fun K hK => ?_) .nil)
       go_simp
       have hb12 := H8.out.1.alloc H8.out.1.size (.cells #[.int .i64 at', .int .i64 who] 117)
       have hm12 := H8.out.2.alloc (.cells #[.int .i64 at', .int .i64 who] 117)
       have hB1 := Blk.new w8 117 [.int .i64 at', .int .i64 who]
       have hR1 := World.ownsRow.alloc HR.out (.cells #[.int .i64 at', .int .i64 who] 117)
       have hne := fun x hx => (World.ownsRow.lt HR.out x hx).2
       generalize w8.alloc (.cells #[.int .i64 at', .int .i64 who] 117) = w12 at *
       have HB := Lib.hid hB1
       clear hB1
       have HR := Lib.hid hR1
       clear hR1
       have H12 := Lib.hid (And.intro hb12 hm12)
       have c13_12 : w12.cell? ⟨mb, 13, none⟩ = some (.slice (some ⟨g, o, none⟩) l.length c) := by rw [← HE1.out]; exact hm12.cell 13 _ rfl
       have hmb12 := hm12.lt
       clear hb12 hm12
       try dsimp only
       refine hK.out _ _ (fun _ => c13_12) (fun hHeld12' => ?_)
       have hHeld12 := hHeld12' (by decide)
       clear hHeld12'
       clear hK K; try simp only [Act.put, sa, sb, sc]
       refine wpAnyT_ready (rs := [13]) (by kernel_rfl) (by simp) (.cons rfl (fun K hK => ?_) .nil)
       skip
       have hnw : NewsOf w12 (.slice (some ⟨w8.heap.size, 0, none⟩) 1 1) 1 2 [.int .i64 at', .int .i64 who] := Sho.news ⟨rfl, .inr ⟨w8.heap.size, 0, 1, rfl, Nat.le_refl _, by decide, HB.out.lt, fun j u hj => by rw [Nat.zero_add]; exact HB.out.cell j u hj⟩⟩ (fun u hu => by simp at hu; rcases hu with rfl | rfl <;> rfl)
       refine step_append_lie rfl (.tmp 37) (.tmp 41) 83 rfl w0.heap.size 117 i0 (.agg #[.int .i64 0, .int .i64 0]) 2 16 Tryz.underlying83 hi0 hz0 hz1 hz2 rfl (by decide) _ k _ rfl HR.out _ 1 [.int .i64 at', .int .i64 who] rfl hnw (by unfold maxLen; omega) (by omega) H12.out.1.size ?_
       intro v13 w13 hown13 hgrow13 hlie13
       have hc13 : Chg w12 w13 _ := Chg.of_grown hgrow13
       have hlo13 := fun x hx => (World.ownsRow.lt HR.out x hx).1
       have hb13 := H12.out.1.trans (hc13.below H12.out.1.size (fun x hx => hlo13 x hx.symm))
       have hm13 := H12.out.2.chg hc13 (fun e => by have := hlo13 _ e.symm; omega)
       have hR13 := hown13
       obtain ⟨A13, c13, rfl⟩ := (Sho.own hR13).form
       have HR := Lib.hid hR13
       clear hR13 hown13 hgrow13 hlie13 hc13 hlo13 hnw
       simp only [Act.put, List.getElem_toArray, List.getElem_cons_succ, List.getElem_cons_zero, List.setIfInBounds_toArray, List.set_cons_zero, List.set_cons_succ]
       have H13 := Lib.hid (And.intro hb13 hm13)
       have c13_13 : w13.cell? ⟨mb, 13, none⟩ = some (.slice (some ⟨g, o, none⟩) l.length c) := by rw [← HE1.out]; exact hm13.cell 13 _ rfl
       have hmb13 := hm13.lt
       clear hb13 hm13
       try dsimp only
       refine hK.out _ _ (fun _ => c13_13) (fun hHeld13' => ?_)
       have hHeld13 := hHeld13' (by decide)
       clear hHeld13'
       clear hK K; try simp only [Act.put, sa, sb, sc]
       refine wpAnyT_ready (rs := [20]) (by kernel_rfl) (by simp) (.cons rfl (fun K hK => ?_) .nil)
       skip
       refine step_append_lie rfl (.tmp 42) (.tmp 48) 83 rfl w0.heap.size 117 i0 (.agg #[.int .i64 0, .int .i64 0]) 2 16 Tryz.underlying83 hi0 hz0 hz1 hz2 rfl (by decide) _ (k + 1) _ rfl HR.out _ (l.length - k) ((reqCells l).drop (k * 2)) rfl ((HVD.out.below H13.out.1).news (fun u hu => reqCells_one l u (List.mem_of_mem_drop hu))) (by unfold maxLen; omega) (by omega) H13.out.1.size ?_
       intro v20 w20 hown20 hgrow20 hlie20
       have hc20 : Chg w13 w20 _ := Chg.of_grown hgrow20
       have hlo20 := fun x hx => (World.ownsRow.lt HR.out x hx).1
       have hb20 := H13.out.1.trans (hc20.below H13.out.1.size (fun x hx => hlo20 x hx.symm))
       have hm20 := H13.out.2.chg hc20 (fun e => by have := hlo20 _ e.symm; omega)
       have hR20 := hown20
       obtain ⟨A20, c20, rfl⟩ := (Sho.own hR20).form
       have HR := Lib.hid hR20
       have y13 := hm20.free 13
       clear hR20 hown20 hgrow20 hlie20 hc20 hlo20
       simp only [Act.put, List.getElem_toArray, List.getElem_cons_succ, List.getElem_cons_zero, List.setIfInBounds_toArray, List.set_cons_zero, List.set_cons_succ]
       have H20 := Lib.hid (And.intro hb20 hm20)
       have c13_20 : w20.cell? ⟨mb, 13, none⟩ = some (.slice (some ⟨g, o, none⟩) l.length c) := by rw [← HE1.out]; exact hm20.cell 13 _ rfl
       have hmb20 := hm20.lt
       clear hb20 hm20
       try dsimp only
       refine hK.out _ _ (fun _ => c13_20) (fun hHeld20' => ?_)
       have hHeld20 := hHeld20' (by decide)
       clear hHeld20'
       clear hK K; try simp only [Act.put, sa, sb, sc]
       refine tl 21 50 rfl rfl ?_; simp only [sa, sb, sc]
       refine tl 22 51 rfl rfl ?_; simp only [sa, sb, sc]
       refine wpAnyT_ready (rs := [23]) (by kernel_rfl) (by simp) (.cons rfl (fun K hK => ?_) .nil)
       go_simp
       refine hK.out _ _ (fun h => absurd h (by decide)) (fun _ => ?_)
       clear hK K; try simp only [Act.put, sa, sb, sc]
       refine wpAnyT_done (by kernel_rfl) ?_ _
       have hsh : ShoP (fun x => w0.heap.size ≤ x ∧ x < w20.heap.size) w20 (.slice A20 (k + 1 + (l.length - k)) c20) (k + 1 + (l.length - k)) 2 _ := ShoP.own HR.out
       have hcells : ((reqCells l).take (k * 2) ++ [.int .i64 at', .int .i64 who]) ++ (reqCells l).drop (k * 2) = reqCells (insP at' who l) := by
        unfold insP
        rw [HPOS.out, reqCells_append, reqCells_take]
        show _ = (reqCells l).take (k * 2) ++ ([Value.int .i64 at', .int .i64 who] ++ reqCells (l.drop k))
        rw [reqCells_drop, List.append_assoc]
       have hlen : k + 1 + (l.length - k) = (insP at' who l).length := by rw [insP_length]; omega
       rw [hcells] at hsh
       have hsh2 : ShoP (fun x => w0.heap.size ≤ x ∧ x < w20.heap.size) w20 (.slice A20 (k + 1 + (l.length - k)) c20) (insP at' who l).length 2 (reqCells (insP at' who l)) := by rw [← hlen]; exact hsh
       have hfin := HMD.out.plans (pv := .slice A20 (k + 1 + (l.length - k)) c20) (l := insP at' who l) (W := w20) (W2 := w20.setCell ⟨mb, 13, none⟩ (.slice A20 (k + 1 + (l.length - k)) c20)) (HB0.out.trans (H20.out.1.mono HB0.out.size)) (hsh2.mono (fun x hx => .inr ⟨by have := HB0.out.size; have := hx.1; omega, hx.2⟩)) rfl
       have HF := Lib.hid hfin
       clear hfin hsh hsh2 hcells hlen
       go_wp2
       all_goals
        go_end0
        exact ⟨rfl, ⟨_, HF.out.1⟩, HF.out.2⟩
   ·have hc1 := HCE.out (k - 1) (by omega)
    have hk1 : (0 : Int) < (k : Int) := by omega
    have hkl : k - 1 < l.length := by omega
    have HN : Hid (posP l at' l.length = posP l at' (k - 1)) := Lib.hid (by
     rw [HI.out.1]
     obtain ⟨j, rfl⟩ : ∃ j, k = j + 1 := ⟨k - 1, by omega⟩
     rw [HPL.out]; exact if_pos hat)
    generalize (l.getD (k - 1) (0, 0)).1 = X at *
    go_wp2
    go_roundw
    case rel => exact ⟨k - 1, by rw [show ((k - 1 : Nat) : Int) = (k : Int) - 1 by omega], by omega, Lib.hid ⟨HN.out, by first | rfl | trivial⟩⟩
    case measure => simp [intOf]; omega
def canP (who : Int) (l : List (Int × Int)) : List (Int × Int) := l.filter (fun x => x.2 != who)
theorem canP_snoc (who : Int) (l : List (Int × Int)) (i : Nat) (h : i < l.length) : canP who (l.take (i + 1)) = canP who (l.take i) ++ (if l[i].2 = who then [] else [l[i]]) := by
 unfold canP
 rw [List.take_succ_eq_append_getElem h, List.filter_append]
 congr 1
 by_cases e : l[i].2 = who
 ·simp [e]
 ·simp [e]
set_option maxRecDepth 100000 in
set_option maxHeartbeats 8000000 in
theorem mcancel_any (D : Nat → Prop) (mb tb rb : Nat) (d : MdD) (who : Int) (hn : d.plans.length ≤ 1000000) (w : World) (hok : MdAt D w mb tb rb d) :
  Calls Tryz.prog 67 #[.pointer (some ⟨mb, 0, none⟩), .int .i64 who] w fun e w' => e = .returned (.tuple #[]) ∧ MdAt (fun g => D g ∨ Fresh w w' g) w' mb tb rb { d with plans := canP who d.plans } ∧ Chg w w' (fun k => k = mb) := by
 obtain ⟨r, hok⟩ := hok
 obtain ⟨i0, hi0, hz0, hz1, hz2⟩ := info_parts info_plan
 have HMD := Lib.hid hok
 have hpv := hok.tx.pv
 have hcell := hok.blk.cell 13 _ rfl
 have hmbl := hok.blk.lt
 clear hok
 obtain ⟨l, hl⟩ : ∃ l, d.plans = l := ⟨_, rfl⟩
 rw [hl] at hpv hn
 have HL := Lib.hid hl
 rw [hl]
 clear hl
 obtain ⟨PA, pc, hpf⟩ := hpv.sho.form
 have HPF := Lib.hid hpf
 rw [hpf] at hcell hpv
 clear hpf
 have hpl := hpv.sho
 have HPL := Lib.hid hpl
 clear hpv hpl
 go_enter Tryz.func67, Tryz.ntmps67
 go_wp2
 go_loopw [4, 5] (fun v4 v5 wr => ∃ (i : Nat) (A : Option Addr) (n c : Nat), v4 = .slice A n c ∧ v5 = .int .i64 i ∧ i ≤ l.length ∧ n ≤ i ∧ Hid ((canP who (l.take i)).length = n ∧ wr.ownsRow w.heap.size 117 2 (.slice A n c) n (reqCells (canP who (l.take i))) ∧ Below w.heap.size w wr)) (fun _ v _ => l.length - (intOf v).toNat)
 case atStart => exact ⟨0, none, 0, 0, rfl, rfl, Nat.zero_le _, Nat.zero_le _, Lib.hid ⟨rfl, World.ownsRow_nil _ _ _ _, Below.refl _ _⟩⟩
 case round =>
  obtain ⟨i, A, n, c, rfl, rfl, hi, hni, HI⟩ := hrel
  have c13 := (HI.out.2.2.cell (p := ⟨mb, 13, none⟩) hmbl).trans hcell
  have hml := Nat.lt_of_lt_of_le hmbl HI.out.2.2.size
  by_cases hlt : i < l.length
  ·obtain ⟨g, o, rfl, -, hg, hroom, hroom2, hce⟩ := HPL.out.place (by omega)
   have hc := reqCells_at l i hlt
   have p0 := (HI.out.2.2.cell (p := ⟨g, o + i * 2, none⟩) hg).trans (hce _ _ hc.1)
   have p1 := (HI.out.2.2.cell (p := ⟨g, o + i * 2 + 1, none⟩) hg).trans (hce _ _ hc.2)
   have hgl := Nat.lt_of_lt_of_le hg HI.out.2.2.size
   have HT := Lib.hid (canP_snoc who l i hlt)
   clear hc hce
   generalize l[i] = x at *
   obtain ⟨xa, xw⟩ := x
   unfold maxLen at hroom2
   by_cases hw : xw = who
   ·subst hw
    have HN : Hid ((canP xw (l.take (i + 1))).length = n ∧ wr.ownsRow w.heap.size 117 2 (.slice A n c) n (reqCells (canP xw (l.take (i + 1)))) ∧ Below w.heap.size w wr) := Lib.hid (by
     rw [HT.out, if_pos rfl, List.append_nil]
     exact HI.out)
    go_wp2
    go_roundw
    case rel => exact ⟨i + 1, A, n, c, rfl, by go_num, by omega, by omega, HN⟩
    case measure => simp [intOf]; omega
   ·have hne : ((xw != who) : Bool) = true := by rw [bne_iff_ne]; exact hw
    go_wp2_with (at_builtin; (refine wpList_append_lie rfl (.tmp 25) (.tmp 33) 83 rfl w.heap.size 117 i0 (.agg #[.int .i64 0, .int .i64 0]) 2 16 Tryz.underlying83 hi0 hz0 hz1 hz2 rfl (by decide) _ n _ rfl (World.ownsRow.alloc HI.out.2.1 _) _ 1 [.int .i64 xa, .int .i64 xw] rfl ((Sho.new wr 117 [.int .i64 xa, .int .i64 xw] 1 2 1 rfl (Nat.le_refl _) (by decide)).news (fun u hu => by simp at hu; rcases hu with rfl | rfl <;> rfl)) (by unfold maxLen; omega) (by omega) (by have := HI.out.2.2.size; simp; omega) ?_); intro v3 W3 hown3 hgrow3 hlie3)
    obtain ⟨A3, c3, rfl⟩ := (Sho.own hown3).form
    have HN : Hid ((canP who (l.take (i + 1))).length = n + 1 ∧ W3.ownsRow w.heap.size 117 2 (.slice A3 (n + 1) c3) (n + 1) (reqCells (canP who (l.take (i + 1)))) ∧ Below w.heap.size w W3) := Lib.hid (by
     rw [HT.out, if_neg (by exact hw), reqCells_append]
     refine ⟨by rw [List.length_append, HI.out.1]; rfl, hown3, ?_⟩
     have hs := HI.out.2.2.size
     have hc : Chg wr W3 _ := ((Chg.refl wr _).alloc _).trans (Chg.of_grown hgrow3) (fun i _ h => h)
     exact HI.out.2.2.trans (hc.below hs (fun x hx => (World.ownsRow.lt HI.out.2.1 x hx.symm).1)))
    clear hown3 hgrow3 hlie3
    go_roundw
    case rel => exact ⟨i + 1, A3, n + 1, c3, rfl, by go_num, by omega, by omega, HN⟩
    case measure => simp [intOf]; omega
  ·obtain rfl : i = l.length := by omega
   have hO := HI.out
   rw [List.take_length] at hO
   have HO := Lib.hid hO
   have y13 := (HMD.out.below HO.out.2.2).blk.free 13
   clear hO HI
   go_wp2
   have hsh := ShoP.own HO.out.2.1
   have hsh2 : ShoP (fun g => D g ∨ Fresh w wr g) wr (.slice A n c) (canP who l).length 2 (reqCells (canP who l)) := by
    rw [HO.out.1]
    exact hsh.mono (fun x hx => .inr hx)
   have hfin := HMD.out.plans (pv := .slice A n c) (l := canP who l) (W := wr) (W2 := wr.setCell ⟨mb, 13, none⟩ (.slice A n c)) HO.out.2.2 hsh2 rfl
   have HF := Lib.hid hfin
   clear hfin hsh hsh2
   go_end0
   exact ⟨rfl, ⟨_, HF.out.1⟩, HF.out.2⟩
def hasW (gs : List CgD) (who : Int) : Bool := gs.any (fun g => g.wit == who)
set_option maxRecDepth 100000 in
set_option maxHeartbeats 8000000 in
theorem mhas_any (D : Nat → Prop) (mb tb rb : Nat) (d : MdD) (who : Int) (hn : d.kept.length ≤ 1000000) (w : World) (hok : MdAt D w mb tb rb d) :
  Calls Tryz.prog 66 #[.pointer (some ⟨mb, 0, none⟩), .int .i64 who] w fun e w' => e = .returned (.bool (hasW d.kept who)) ∧ w' = w := by
 obtain ⟨r, hok⟩ := hok
 have hkv := hok.tx.kv.cgsv
 have hcell := hok.blk.cell 12 _ rfl
 have hmbl := hok.blk.lt
 clear hok
 obtain ⟨KA, kc, hkf⟩ := hkv.form
 rw [hkf] at hcell hkv
 clear hkf
 have HKV := Lib.hid hkv
 clear hkv
 have HHS : Hid (∀ i (h : i < d.kept.length), hasW (d.kept.take (i + 1)) who = (hasW (d.kept.take i) who || (d.kept.getD i ⟨0, ⟨0, [], []⟩⟩).wit == who)) := Lib.hid (fun i h => by
  have e : d.kept.getD i ⟨0, ⟨0, [], []⟩⟩ = d.kept[i] := by rw [List.getD_eq_getElem?_getD, List.getElem?_eq_getElem h]; rfl
  unfold hasW
  rw [e, List.take_succ_eq_append_getElem h, List.any_append, List.any_cons, List.any_nil, Bool.or_false])
 have HHM : Hid (∀ i, hasW (d.kept.take i) who = true → hasW d.kept who = true) := Lib.hid (fun i h => by
  unfold hasW at *
  rw [List.any_eq_true] at *
  obtain ⟨x, hx, e⟩ := h
  exact ⟨x, List.mem_of_mem_take hx, e⟩)
 have HHL : Hid (hasW (d.kept.take d.kept.length) who = hasW d.kept who) := Lib.hid (by rw [List.take_length])
 have HH0 : Hid (hasW (d.kept.take 0) who = false) := Lib.hid rfl
 generalize hasW d.kept who = HA at *
 go_enter Tryz.func66, Tryz.ntmps66
 go_wp2
 go_loopw [5] (fun v5 wr => ∃ i : Nat, v5 = .int .i64 i ∧ i ≤ d.kept.length ∧ Hid (hasW (d.kept.take i) who = false ∧ wr = w)) (fun v _ => d.kept.length - (intOf v).toNat)
 case atStart => exact ⟨0, rfl, Nat.zero_le _, Lib.hid ⟨HH0.out, rfl⟩⟩
 case round =>
  obtain ⟨i, rfl, hi, HI⟩ := hrel
  obtain rfl : wr = w := HI.out.2
  by_cases hlt : i < d.kept.length
  ·obtain ⟨g, o, rfl, hg, -, hroom, hroom2, hall⟩ := HKV.out.get (by omega)
   obtain ⟨_, _, _, _, p0, -⟩ := hall i hlt
   have HN := Lib.hid (HHS.out i hlt)
   unfold maxLen at hroom2
   clear hall
   generalize (d.kept.getD i ⟨0, ⟨0, [], []⟩⟩).wit = X at *
   generalize hXB : (X == who) = XB at *
   cases XB with
   | true =>
    have hXW : X = who := by simpa using hXB
    subst hXW
    have HF : Hid (HA = true) := Lib.hid (HHM.out (i + 1) (by rw [HN.out]; simp))
    go_wp2
    go_ret
    exact ⟨by rw [HF.out]; rfl, rfl⟩
   | false =>
    have HT : Hid (hasW (d.kept.take (i + 1)) who = false) := Lib.hid (by rw [HN.out, HI.out.1]; rfl)
    go_wp2
    go_roundw
    case rel => exact ⟨i + 1, by go_num, by omega, Lib.hid ⟨HT.out, by first | rfl | trivial⟩⟩
    case measure => simp [intOf]; omega
  ·obtain rfl : i = d.kept.length := by omega
   have HF : Hid (HA = false) := Lib.hid (by rw [← HHL.out]; exact HI.out.1)
   go_wp2
   go_ret
   exact ⟨by rw [HF.out]; rfl, rfl⟩
end Go.Proofs.YtlkgeifmppadmaaGreat
