/- A feeder's own copy of its policy. A feeder in memory. A new feeder. The program's checkpoints: Verify. Conditions: as each theorem states them. -/
import Derived.Test.YtlkgeifmppadmaaJg
import Derived.Test.YtlkgeifmppadmaaJf
import Derived.Deep.RegionLaw
import Derived.Deep.RegionHeld
import Derived.Test.YtlkgeifmppadmaaJc
import Derived.Laws.MakeOwn
import Derived.Deep.RegionHeld3
namespace Go.Proofs.Ytlkgeifmppadmaa
open Go.RowKit
set_option linter.unusedVariables false
set_option linter.unusedSimpArgs false

theorem far3 (w : World) (b : Nat) (u0 u1 u2 : Value) (a : Addr) (h : b ≠ a.block) : (((w.setCell ⟨b, 0, none⟩ u0).setCell ⟨b, 1, none⟩ u1).setCell ⟨b, 2, none⟩ u2).cell? a = w.cell? a := by
  rw [World.cell?_setCell_far _ _ _ _ h, World.cell?_setCell_far _ _ _ _ h, World.cell?_setCell_far _ _ _ _ h]
theorem under_policy : Try.prog.underlying 33 = some (.struct (Try.prog.fieldsOf 33)) := by kernel_rfl
theorem size_policy : (Try.prog.info? 33).map (·.size) = some 3 := by kernel_rfl
def RetPol (w : World) (p : PolD) (e : Ending) (w' : World) : Prop := ∃ v, e = .returned v ∧ PolF (Fresh w w') w' v p ∧ Below w.heap.size w w'
def SmallPol (p : PolD) : Prop := p.log.length ≤ 1000000000 ∧ p.wits.length ≤ 1000000000 ∧ (∀ i (h : i < p.wits.length), p.wits[i].length ≤ 1000000000) ∧ -1000000000 ≤ p.quorum ∧ p.quorum ≤ 1000000000
theorem OwnR.chgT {w w1 : World} {base : Nat} {v : Value} {ls : List (List UInt8)} {T : Nat → Prop} (h : OwnR w base v ls) (hc : Chg w w1 T) (hT : ∀ g, base ≤ g → g < w.heap.size → ¬ T g) : OwnR w1 base v ls := by
  have hf := h.foot
  obtain ⟨us, h1, h2⟩ := h
  refine ⟨us, ownsRow_chg h1 hc (fun k hk => hT k (World.ownsRow.lt h1 k hk).1 (World.ownsRow.lt h1 k hk).2), fun i hi => ?_⟩
  obtain ⟨u, e, hu, hn⟩ := h2 i hi
  exact ⟨u, e, Sho.chgF hu (S := fun g => base ≤ g ∧ g < w.heap.size) (fun h0 g hg => ⟨(hn h0).2 g hg, Sho.lt hu h0 g hg⟩) hc (fun g hg => hT g hg.1 hg.2), hn⟩
/-- The state of the copy: its block C, its row. -/
def PolSt (w0 W wr : World) (C : Nat) (lv : Value) (q : Int) (ls : List (List UInt8)) : Prop :=
  Chg W wr (fun k => k = C ∨ W.heap.size ≤ k) ∧ ∃ rv, Blk wr C 33 [lv, rv, .int .i64 q] ∧ OwnR wr W.heap.size rv ls
set_option maxRecDepth 100000 in
set_option maxHeartbeats 8000000 in
theorem fpolicy_any (v : Value) (p : PolD) (hs : SmallPol p) (w : World) (hv : PolV w v p) :
    Calls Try.prog 26 #[v] w (RetPol w p) := by
  obtain ⟨i0, hi0, hz0, hz1, hz2⟩ := info_parts info_bytes
  obtain ⟨l, ws, rfl, h1, h2⟩ := hv
  obtain ⟨L, cl, rfl⟩ := h1.form
  obtain ⟨R, cr, rfl⟩ := h2.form
  have HX := Lib.hid (And.intro h1 h2)
  clear h1 h2
  obtain ⟨log, wits, q⟩ := p
  obtain ⟨hs1, hs2, hs3, hs4, hs5⟩ := hs
  change log.length ≤ 1000000000 at hs1
  change wits.length ≤ 1000000000 at hs2
  change ∀ i (h : i < wits.length), wits[i].length ≤ 1000000000 at hs3
  change -1000000000 ≤ q at hs4
  change q ≤ 1000000000 at hs5
  have HC1 := Lib.hid (fun wz hz => clone_any (.slice L log.length cl) log (show log.length ≤ 1000000000000 by omega) wz hz)
  have HC2 := Lib.hid (fun (i : Nat) (hi : i < wits.length) (u : Value) (wz : World) (hz : Bys wz u wits[i]) => clone_any u wits[i] (show wits[i].length ≤ 1000000000000 by have := hs3 i hi; omega) wz hz)
  have HS3 := Lib.hid hs3
  clear hs3
  obtain ⟨k0, k1, kb⟩ := two_of (w := w) [.slice L log.length cl, .slice R wits.length cr, .int .i64 q] [.slice none 0 0, .slice none 0 0, .int .i64 0] 33 33
  have HW := Lib.hid (And.intro k0 (And.intro k1 kb))
  clear k0 k1 kb
  go_enter Try.func26, Try.ntmps26
  go_wp2
  refine code_at (fun w1 => Blk w1 w.heap.size 33 [.slice L log.length cl, .slice R wits.length cr, .int .i64 q] ∧ Blk w1 (w.heap.size + 1) 33 [.slice none 0 0, .slice none 0 0, .int .i64 0] ∧ Below w.heap.size w w1) HW.out ?_
  rintro w1 ⟨k0, k1, kb⟩
  have H1 := Lib.hid (And.intro k0 (And.intro k1 kb))
  have c0 := k0.cell 0 _ rfl
  have c1 := k0.cell 1 _ rfl
  have c2 := k0.cell 2 _ rfl
  have hsz1 := k1.lt
  clear k0 k1 kb HW
  refine wp_region_held_drew (S := fun w' => w'.cell? ⟨w.heap.size, 0, none⟩ = some (.slice L log.length cl) ∧ w'.cell? ⟨w.heap.size, 2, none⟩ = some (.int .i64 q)) (by kernel_rfl) ?_ (fun hHeld => ?_)
  · exact ⟨c0, c2⟩
  refine take_yes 0 6 rfl rfl (by kernel_rfl) (by kernel_rfl) (by kernel_rfl) (fun _ _ _ h => h) (by assumption) (by rfl) (v := ?_) ?_ ?_
  rotate_left 1
  · (intro w hSw; (try dsimp only at hSw); go_simp; try with_reducible rfl)
  simp only [List.setIfInBounds_toArray, List.set_cons_zero, List.set_cons_succ]
  refine take_yes 1 7 rfl rfl (by kernel_rfl) (by kernel_rfl) (by kernel_rfl) (fun _ _ _ h => h) (by assumption) (by rfl) (v := ?_) ?_ ?_
  rotate_left 1
  · (intro w hSw; (try dsimp only at hSw); go_simp; try with_reducible rfl)
  simp only [List.setIfInBounds_toArray, List.set_cons_zero, List.set_cons_succ]
  refine take_yes 3 9 rfl rfl (by kernel_rfl) (by kernel_rfl) (by kernel_rfl) (fun _ _ _ h => h) (by assumption) (by rfl) (v := ?_) ?_ ?_
  rotate_left 1
  · (intro w hSw; (try dsimp only at hSw); go_simp; try with_reducible rfl)
  simp only [List.setIfInBounds_toArray, List.set_cons_zero, List.set_cons_succ]
  refine take_yes 4 10 rfl rfl (by kernel_rfl) (by kernel_rfl) (by kernel_rfl) (fun _ _ _ h => h) (by assumption) (by rfl) (v := ?_) ?_ ?_
  rotate_left 1
  · (intro w hSw; (try dsimp only at hSw); go_simp; try with_reducible rfl)
  simp only [List.setIfInBounds_toArray, List.set_cons_zero, List.set_cons_succ]
  refine wpAnyH_ready (rs := [2, 6]) (by kernel_rfl) (by simp) ?_
  refine AllReadyH.cons rfl (fun K hK => ?w1_2) (AllReadyH.cons rfl (fun K hK => ?w1_6) AllReadyH.nil)
  case' w1_6 =>
    -- 6:  dst := some 3, op := Op.alloc 33, type := 0
    go_simp
    have hba := ((Below.refl w1.heap.size w1).alloc (Nat.le_refl _) (.cells #[.slice none 0 0, .slice none 0 0, .int .i64 0] 33)).drew
    have hkc : Blk (w1.alloc (.cells #[.slice none 0 0, .slice none 0 0, .int .i64 0] 33)).drew w1.heap.size 33 [.slice none 0 0, .slice none 0 0, .int .i64 0] := (Blk.new w1 33 [.slice none 0 0, .slice none 0 0, .int .i64 0]).drew
    have HBA := Lib.hid (And.intro hba hkc)
    clear hba hkc
    refine hK.out _ _ ⟨by go_keep, by go_keep⟩ (fun hHeld6 => ?_)
    clear hK K
    try simp only [Act.put, List.setIfInBounds_toArray, List.set_cons_zero, List.set_cons_succ]
    refine wpAnyH_ready (rs := [2]) (by kernel_rfl) (by simp) ?_
    refine AllReadyH.cons rfl (fun K hK => ?_) AllReadyH.nil
    -- 2:  dst := some 8, op := Op.call  callee := Callee.value (Operand.func 48), args := #[Operand.tmp 7], argTypes := #[30] , type := 
    go_simp
    go_at_call 48
    refine (HC1.out _ (HX.out.1.below ((H1.out.2.2.trans (HBA.out.1.mono H1.out.2.2.size))))).mono ?_
    rintro e w2 ⟨v2, rfl, h2, h3⟩
    obtain ⟨A2, n2, rfl⟩ := h2.form
    have hz3 : w1.heap.size + 1 ≤ w2.heap.size := by have := h3.size; simpa using this
    have hf2 : BysF (fun g => w1.heap.size + 1 ≤ g ∧ g < w2.heap.size) w2 (.slice A2 log.length n2) log := h2.foot.mono (fun g hg => ⟨by have := hg.1; simpa using this, hg.2⟩)
    have hb2 : Below w1.heap.size w1 w2 := HBA.out.1.trans (h3.mono HBA.out.1.size)
    have hkc := HBA.out.2.below h3
    have k0 := H1.out.1.below hb2
    have e0 := k0.cell 0 _ rfl
    have e2 := k0.cell 2 _ rfl
    have j0 := hkc.cell 0 _ rfl
    have j1 := hkc.cell 1 _ rfl
    have j2 := hkc.cell 2 _ rfl
    have g0 := hkc.free 0
    have g1 := hkc.free 1
    have g2 := hkc.free 2
    have H2 := Lib.hid (And.intro hf2 (And.intro hb2 (And.intro k0 hkc)))
    clear h2 h3 hb2 k0 hkc hf2
    go_wp2_with fail
    refine hK.out _ _ ⟨e0, e2⟩ (fun hHeld2 => ?_)
    clear hK K
    try simp only [Act.put, List.setIfInBounds_toArray, List.set_cons_zero, List.set_cons_succ]
    refine take_yes 5 11 rfl rfl (by kernel_rfl) (by kernel_rfl) (by kernel_rfl) (fun _ _ _ h => h) (by assumption) (by rfl) (v := ?_) ?_ ?_
    rotate_left 1
    · (intro w hSw; (try dsimp only at hSw); go_simp; try with_reducible rfl)
    simp only [List.setIfInBounds_toArray, List.set_cons_zero, List.set_cons_succ]
    refine wpAnyH_ready (rs := [7]) (by kernel_rfl) (by simp) ?_
    refine AllReadyH.cons rfl (fun K hK => ?_) AllReadyH.nil
    -- 7:  dst := none, op := Op.store 33 (Operand.tmp 3) (Operand.tmp 11), type := 0
    go_simp
    refine hK.out _ _ ⟨(far3 w2 w1.heap.size _ _ _ ⟨w.heap.size, 0, none⟩ (by show w1.heap.size ≠ w.heap.size; omega)).trans e0, (far3 w2 w1.heap.size _ _ _ ⟨w.heap.size, 2, none⟩ (by show w1.heap.size ≠ w.heap.size; omega)).trans e2⟩ (fun hHeld7 => ?_)
    clear hK K
    try simp only [Act.put, List.setIfInBounds_toArray, List.set_cons_zero, List.set_cons_succ]
    refine wpAnyH_done (by kernel_rfl) ?_ _
    have HR : Hid (Below w.heap.size w (((w2.setCell ⟨w1.heap.size, 0, none⟩ (.slice A2 log.length n2)).setCell ⟨w1.heap.size, 1, none⟩ (.slice none 0 0)).setCell ⟨w1.heap.size, 2, none⟩ (.int .i64 q)) ∧ Blk (((w2.setCell ⟨w1.heap.size, 0, none⟩ (.slice A2 log.length n2)).setCell ⟨w1.heap.size, 1, none⟩ (.slice none 0 0)).setCell ⟨w1.heap.size, 2, none⟩ (.int .i64 q)) (w.heap.size + 1) 33 [.slice none 0 0, .slice none 0 0, .int .i64 0] ∧ Blk (((w2.setCell ⟨w1.heap.size, 0, none⟩ (.slice A2 log.length n2)).setCell ⟨w1.heap.size, 1, none⟩ (.slice none 0 0)).setCell ⟨w1.heap.size, 2, none⟩ (.int .i64 q)) w.heap.size 33 [.slice L log.length cl, .slice R wits.length cr, .int .i64 q] ∧ Blk (((w2.setCell ⟨w1.heap.size, 0, none⟩ (.slice A2 log.length n2)).setCell ⟨w1.heap.size, 1, none⟩ (.slice none 0 0)).setCell ⟨w1.heap.size, 2, none⟩ (.int .i64 q)) w1.heap.size 33 [.slice A2 log.length n2, .slice none 0 0, .int .i64 q] ∧ BysF (fun g => w.heap.size + 1 < g ∧ g ≠ w1.heap.size ∧ g < (((w2.setCell ⟨w1.heap.size, 0, none⟩ (.slice A2 log.length n2)).setCell ⟨w1.heap.size, 1, none⟩ (.slice none 0 0)).setCell ⟨w1.heap.size, 2, none⟩ (.int .i64 q)).heap.size) (((w2.setCell ⟨w1.heap.size, 0, none⟩ (.slice A2 log.length n2)).setCell ⟨w1.heap.size, 1, none⟩ (.slice none 0 0)).setCell ⟨w1.heap.size, 2, none⟩ (.int .i64 q)) (.slice A2 log.length n2) log ∧ w.heap.size + 1 < w1.heap.size) :=
      have hz := H2.out.2.1.size
      have hc : Chg w2 (((w2.setCell ⟨w1.heap.size, 0, none⟩ (.slice A2 log.length n2)).setCell ⟨w1.heap.size, 1, none⟩ (.slice none 0 0)).setCell ⟨w1.heap.size, 2, none⟩ (.int .i64 q)) (fun k => k = w1.heap.size) := chg_cell (chg_cell (chg_cell (Chg.refl w2 _) 0 _) 1 _) 2 _
      Lib.hid ⟨(H1.out.2.2.trans (H2.out.2.1.mono H1.out.2.2.size)).trans (hc.below (by have := H1.out.2.2.size; omega) (fun k hk => by omega)), (H1.out.2.1.below H2.out.2.1).chg hc (by omega), H2.out.2.2.1.chg hc (by omega), ((H2.out.2.2.2.set 0 _ (by simp)).set 1 _ (by simp)).set 2 _ (by simp), (H2.out.1.chg hc (fun g hg e => by have := hg.1; omega)).mono (fun g hg => ⟨by have := hg.1; omega, by have := hg.1; omega, by have := hg.2; have := hc.size; omega⟩), hsz1⟩
    generalize ((w2.setCell ⟨w1.heap.size, 0, none⟩ (.slice A2 log.length n2)).setCell ⟨w1.heap.size, 1, none⟩ (.slice none 0 0)).setCell ⟨w1.heap.size, 2, none⟩ (.int .i64 q) = W at *
    generalize w1.heap.size = C at *
    clear H1 H2 HBA hHeld hHeld2 hHeld6 hHeld7 e0 e2 c0 c1 c2 j0 j1 j2 g0 g1 g2 hz3
  case' w1_2 =>
    -- 2:  dst := some 8, op := Op.call  callee := Callee.value (Operand.func 48), args := #[Operand.tmp 7], argTypes := #[30] , type := 
    go_simp
    go_at_call 48
    refine (HC1.out w1.drew (HX.out.1.below H1.out.2.2.drew)).mono ?_
    rintro e w2 ⟨v2, rfl, h2, h3⟩
    obtain ⟨A2, n2, rfl⟩ := h2.form
    have hb2 : Below w1.heap.size w1 w2 := ⟨h3.os, h3.tape, h3.output, h3.size, h3.block⟩
    have k0 := H1.out.1.below hb2
    have e0 := k0.cell 0 _ rfl
    have e2 := k0.cell 2 _ rfl
    have hbw2 : w.heap.size < w2.heap.size := k0.lt
    have H2 := Lib.hid (And.intro (show BysF (fun g => w1.heap.size ≤ g ∧ g < w2.heap.size) w2 _ log from h2.foot) (And.intro hb2 k0))
    clear h2 h3 hb2 k0
    go_wp2_with fail
    refine hK.out _ _ ⟨e0, e2⟩ (fun hHeld2 => ?_)
    clear hK K
    try simp only [Act.put, List.setIfInBounds_toArray, List.set_cons_zero, List.set_cons_succ]
    refine take_yes 5 11 rfl rfl (by kernel_rfl) (by kernel_rfl) (by kernel_rfl) (fun _ _ _ h => h) (by assumption) (by rfl) (v := ?_) ?_ ?_
    rotate_left 1
    · (intro w hSw; (try dsimp only at hSw); go_simp; try with_reducible rfl)
    simp only [List.setIfInBounds_toArray, List.set_cons_zero, List.set_cons_succ]
    refine wpAnyH_ready (rs := [6]) (by kernel_rfl) (by simp) ?_
    refine AllReadyH.cons rfl (fun K hK => ?_) AllReadyH.nil
    -- 6:  dst := some 3, op := Op.alloc 33, type := 0
    go_simp
    refine hK.out _ _ ⟨by go_keep, by go_keep⟩ (fun hHeld6 => ?_)
    clear hK K
    try simp only [Act.put, List.setIfInBounds_toArray, List.set_cons_zero, List.set_cons_succ]
    refine wpAnyH_ready (rs := [7]) (by kernel_rfl) (by simp) ?_
    refine AllReadyH.cons rfl (fun K hK => ?_) AllReadyH.nil
    -- 7:  dst := none, op := Op.store 33 (Operand.tmp 3) (Operand.tmp 11), type := 0
    go_simp
    refine hK.out _ _ ⟨by go_keep, by go_keep⟩ (fun hHeld7 => ?_)
    clear hK K
    try simp only [Act.put, List.setIfInBounds_toArray, List.set_cons_zero, List.set_cons_succ]
    refine wpAnyH_done (by kernel_rfl) ?_ _
    have HR : Hid (Below w.heap.size w (w2.alloc (.cells #[.slice A2 log.length n2, .slice none 0 0, .int .i64 q] 33)) ∧ Blk (w2.alloc (.cells #[.slice A2 log.length n2, .slice none 0 0, .int .i64 q] 33)) (w.heap.size + 1) 33 [.slice none 0 0, .slice none 0 0, .int .i64 0] ∧ Blk (w2.alloc (.cells #[.slice A2 log.length n2, .slice none 0 0, .int .i64 q] 33)) w.heap.size 33 [.slice L log.length cl, .slice R wits.length cr, .int .i64 q] ∧ Blk (w2.alloc (.cells #[.slice A2 log.length n2, .slice none 0 0, .int .i64 q] 33)) w2.heap.size 33 [.slice A2 log.length n2, .slice none 0 0, .int .i64 q] ∧ BysF (fun g => w.heap.size + 1 < g ∧ g ≠ w2.heap.size ∧ g < (w2.alloc (.cells #[.slice A2 log.length n2, .slice none 0 0, .int .i64 q] 33)).heap.size) (w2.alloc (.cells #[.slice A2 log.length n2, .slice none 0 0, .int .i64 q] 33)) (.slice A2 log.length n2) log ∧ w.heap.size + 1 < w2.heap.size) :=
      have hz := H2.out.2.1.size
      have ha := (Below.refl w2.heap.size w2).alloc (Nat.le_refl _) (.cells #[.slice A2 log.length n2, .slice none 0 0, .int .i64 q] 33)
      Lib.hid ⟨(H1.out.2.2.trans (H2.out.2.1.mono H1.out.2.2.size)).trans (ha.mono (by have := H1.out.2.2.size; omega)), (H1.out.2.1.below H2.out.2.1).below ha, H2.out.2.2.below ha, Blk.new w2 33 [.slice A2 log.length n2, .slice none 0 0, .int .i64 q], (H2.out.1.below ha).mono (fun g hg => ⟨by omega, by omega, by have := ha.size; omega⟩), by omega⟩
    generalize w2.alloc (.cells #[.slice A2 log.length n2, .slice none 0 0, .int .i64 q] 33) = W at *
    generalize w2.heap.size = C at *
    clear H1 H2 hHeld hHeld2 hHeld6 hHeld7 e0 e2 hbw2 c0 c1 c2
  all_goals
    have hCl := HR.out.2.2.2.1.lt
    have hBl := HR.out.2.2.1.lt
    have q1 := HR.out.2.2.1.cell 1 _ rfl
    go_wp2
    go_loopw [15] (fun v15 wr => ∃ k : Nat, v15 = .int .i64 k ∧ k ≤ wits.length ∧ Hid (PolSt w W wr C (.slice A2 log.length n2) q (wits.take k))) (fun v _ => wits.length - (intOf v).toNat)
    case atStart => exact ⟨0, rfl, Nat.zero_le _, Lib.hid ⟨Chg.refl _ _, _, HR.out.2.2.2.1, OwnR.nil _ _⟩⟩
    case round =>
      obtain ⟨k, rfl, hk, HJ⟩ := hrel
      clear q1
      by_cases hlt : k < wits.length
      · obtain ⟨g, o, u, rfl, hg, -, -, hcu, hbu⟩ := HX.out.2.at' k hlt
        have HBel := Lib.hid (HR.out.1.trans (HJ.out.1.below (B := w.heap.size) HR.out.1.size (fun k hk => by have := HR.out.1.size; have := HR.out.2.2.2.2.2; omega)))
        have p0 := (HBel.out.cell (p := ⟨g, o + k, none⟩) hg).trans hcu
        obtain ⟨A9, c9, rfl⟩ := hbu.form
        have HCL := Lib.hid (fun (wz : World) (hz : Below w.heap.size w wz) => HC2.out k hlt _ wz (hbu.below hz))
        have HT : Hid (wits.take (k + 1) = wits.take k ++ [wits[k]]) := Lib.hid (List.take_succ_eq_append_getElem hlt)
        have hal : (wits.take k).length ≤ 1000000000 := by rw [List.length_take]; omega
        have hXl := HS3.out k hlt
        obtain ⟨hch, rv, hkC, hor⟩ := HJ.out
        obtain ⟨A8, c8, rfl⟩ := hor.rws.form
        have r1 := hkC.cell 1 _ rfl
        have hCr := hkC.lt
        have hWr := hch.size
        have HK := Lib.hid (And.intro hch (And.intro hkC hor))
        clear hcu hbu hch hkC hor HJ
        generalize wits[k] = X at *
        generalize wits.take k = Ls at *
        go_wp2
        go_region_law (first
          | (go_simp; go_at_call 48; refine (HCL.out wr.drew HBel.out.drew).mono ?_
             rintro e w2 ⟨v2, rfl, h2, h3⟩
             obtain ⟨A5, c5, rfl⟩ := h2.form
             have hb2 : Below wr.heap.size wr w2 := ⟨h3.os, h3.tape, h3.output, h3.size, h3.block⟩
             have hk2 := HK.out.2.1.below hb2
             have s1 := hk2.cell 1 _ rfl
             have hlt2 := hk2.lt
             obtain ⟨us, hu1, hu2⟩ := HK.out.2.2.keep hb2
             have H2 := Lib.hid (And.intro (show OwnB w2 wr.heap.size (.slice A5 X.length c5) X from h2) (And.intro hb2 (And.intro hk2 (And.intro hu1 hu2))))
             have hsz2 := hb2.size
             clear h2 h3 hb2 hk2 hu1 hu2)
          | (refine step_append_lies _ rfl (.tmp 20) (.tmp 23) 31 rfl W.heap.size 30 i0 (.slice none 0 0) 1 24 Try.underlying31 hi0 hz0 hz1 hz2 rfl (by decide) _ Ls.length us rfl (World.ownsRow.alloc H2.out.2.2.2.1 _) ⟨w2.heap.size, 0, none⟩ 1 1 [.slice A5 X.length c5] rfl rfl (World.news_of_block (blk_new _ _)) (by simp [Value.oneCell']) (by decide) (by unfold maxLen; omega) (by omega) (by simp; omega) (w2.heap.size + 1) (by simp) ?_
             intro g3 c3 W3 hown3 hgrow3 hlie3 hlt3
             have HR3 := retr_push HK.out.2.2 hWr H2.out.2.1 H2.out.1 H2.out.2.2.2.2 (by have := H2.out.2.2.2.1.1; omega) hown3 hgrow3 hlie3
             have hgr : Chg wr W3 (fun k => W.heap.size ≤ k) := chg_belowB HR3.2
             have H3 : Hid (OwnR W3 W.heap.size (.slice (some ⟨g3, 0, none⟩) (Ls.length + 1) c3) (Ls ++ [X]) ∧ Blk W3 C 33 [.slice A2 log.length n2, .slice A8 Ls.length c8, .int .i64 q] ∧ Chg wr W3 (fun k => W.heap.size ≤ k)) := Lib.hid ⟨HR3.1, HK.out.2.1.chg hgr (by omega), hgr⟩
             have t1 := H3.out.2.1.cell 1 _ rfl
             have f1 := H3.out.2.1.free 1
             clear hown3 hgrow3 hlie3 HR3 hgr))
        all_goals
          have hset : Chg W3 (W3.setCell ⟨C, 1, none⟩ (.slice (some ⟨g3, 0, none⟩) (Ls.length + 1) c3)) (fun k => k = C) := chg_cell (Chg.refl W3 _) 1 _
          have HN : Hid (PolSt w W (W3.setCell ⟨C, 1, none⟩ (.slice (some ⟨g3, 0, none⟩) (Ls.length + 1) c3)) C (.slice A2 log.length n2) q (Ls ++ [X])) := Lib.hid ⟨(HK.out.1.trans (H3.out.2.2) (fun i _ h => .inr h)).trans hset (fun i _ h => .inl h), _, H3.out.2.1.set 1 _ (by simp), H3.out.1.chgT hset (fun g hg _ e => by omega)⟩
          clear hset t1 f1
          go_wp2
          go_roundw
          case rel => exact ⟨k + 1, by go_num, by omega, by rw [HT.out]; exact HN⟩
          case measure => simp [intOf]; omega
      · obtain rfl : k = wits.length := by omega
        have HP : Hid (PolSt w W wr C (.slice A2 log.length n2) q wits) := Lib.hid (by have h := HJ.out; rwa [List.take_length] at h)
        obtain ⟨hch, rv, hkC, hor⟩ := HP.out
        obtain ⟨A8, c8, rfl⟩ := hor.rws.form
        have r0 := hkC.cell 0 _ rfl
        have r1 := hkC.cell 1 _ rfl
        have r2 := hkC.cell 2 _ rfl
        have hkZ := HR.out.2.1.chg hch (by have := HR.out.2.1.lt; have := HR.out.2.2.2.2.2; omega)
        have z0 := hkZ.cell 0 _ rfl
        have z1 := hkZ.cell 1 _ rfl
        have z2 := hkZ.cell 2 _ rfl
        have y0 := hkZ.free 0
        have y1 := hkZ.free 1
        have y2 := hkZ.free 2
        have HK := Lib.hid (And.intro hch (And.intro hkZ (And.intro hor (HR.out.2.2.2.2.1.chg hch (fun g hg e => by
          rcases e with e | e
          · exact hg.2.1 e
          · exact absurd hg.2.2 (by omega))))))
        have hWr := hch.size
        have hWw := HR.out.1.size
        have hCr := hkC.lt
        clear hch hkC hor hkZ HJ HP
        go_wp2
        have hfc : Chg wr (((wr.setCell ⟨w.heap.size + 1, 0, none⟩ (.slice A2 log.length n2)).setCell ⟨w.heap.size + 1, 1, none⟩ (.slice A8 wits.length c8)).setCell ⟨w.heap.size + 1, 2, none⟩ (.int .i64 q)) (fun k => k = w.heap.size + 1) := chg_cell (chg_cell (chg_cell (Chg.refl wr _) 0 _) 1 _) 2 _
        have hfin : Blk (((wr.setCell ⟨w.heap.size + 1, 0, none⟩ (.slice A2 log.length n2)).setCell ⟨w.heap.size + 1, 1, none⟩ (.slice A8 wits.length c8)).setCell ⟨w.heap.size + 1, 2, none⟩ (.int .i64 q)) (w.heap.size + 1) 33 [.slice A2 log.length n2, .slice A8 wits.length c8, .int .i64 q] := ((HK.out.2.1.set 0 _ (by simp)).set 1 _ (by simp)).set 2 _ (by simp)
        refine bodyPost_ret (v := .agg [.slice A2 log.length n2, .slice A8 wits.length c8, .int .i64 q].toArray) ?_ ?_ ⟨_, rfl, ⟨_, _, rfl, ?_, ?_⟩, ?_⟩
        · exact results_cell_row Try.results26 _ _ (w.heap.size + 1) 33 _ (0, 0) _ rfl hfin under_policy rfl size_policy
        · rfl
        · exact (HK.out.2.2.2.chg hfc (fun g hg e => by have h1 : w.heap.size + 1 < g := hg.1; have h2 : g = w.heap.size + 1 := e; omega)).mono (fun g hg => ⟨by have h1 : w.heap.size + 1 < g := hg.1; omega, by have h1 : g < W.heap.size := hg.2.2; have := hfc.size; omega⟩)
        · exact (HK.out.2.2.1.foot.chg hfc (fun g hg e => by have h1 : W.heap.size ≤ g := hg.1; have h2 : g = w.heap.size + 1 := e; have h3 := HR.out.2.1.lt; omega)).mono (fun g hg => ⟨by have h1 : W.heap.size ≤ g := hg.1; omega, by have h1 : g < wr.heap.size := hg.2; have := hfc.size; omega⟩)
        · exact (HR.out.1.trans (HK.out.1.below hWw (fun k hk => by have h9 := HR.out.2.2.2.2.2; rcases hk with e | e <;> omega))).trans (hfc.below (by omega) (fun k hk => by omega))
end Go.Proofs.Ytlkgeifmppadmaa
namespace Go.Proofs.Ytlkgeifmppadmaa
open Go.RowKit
set_option linter.unusedVariables false
set_option linter.unusedSimpArgs false

/-- What is thought of a witness. -/
structure WtD where
  size : Int
  tries : Int
  kept : Bool
def WtD.cells (x : WtD) : List Value := [.int .i64 x.size, .int .i64 x.tries, .bool x.kept]
def cellsW (l : List WtD) : List Value := l.flatMap WtD.cells
theorem cellsW_length (l : List WtD) : (cellsW l).length = l.length * 3 := by
  induction l with
  | nil => rfl
  | cons x l ih => simp only [cellsW, List.flatMap_cons, List.length_append] at ih ⊢; rw [ih]; simp [WtD.cells]; omega
theorem cellsW_cons (x : WtD) (l : List WtD) : cellsW (x :: l) = x.cells ++ cellsW l := rfl
theorem cellsW_at (l : List WtD) : ∀ (i : Nat) (hi : i < l.length), (cellsW l)[i * 3]? = some (.int .i64 l[i].size) ∧ (cellsW l)[i * 3 + 1]? = some (.int .i64 l[i].tries) ∧ (cellsW l)[i * 3 + 2]? = some (.bool l[i].kept) := by
  induction l with
  | nil => intro i hi; exact absurd hi (Nat.not_lt_zero _)
  | cons x l ih =>
    intro i hi
    cases i with
    | zero => exact ⟨rfl, rfl, rfl⟩
    | succ i =>
      have h := ih i (by simpa using hi)
      rw [cellsW_cons]
      have e : ∀ j, (x.cells ++ cellsW l)[(i + 1) * 3 + j]? = (cellsW l)[i * 3 + j]? := by
        intro j
        rw [List.getElem?_append_right (by simp [WtD.cells]; omega)]
        congr 1
        simp [WtD.cells]; omega
      exact ⟨(e 0).trans h.1, (e 1).trans h.2.1, (e 2).trans h.2.2⟩
theorem cellsW_set (l : List WtD) : ∀ (i : Nat) (x : WtD), i < l.length → cellsW (l.set i x) = (((cellsW l).set (i * 3) (.int .i64 x.size)).set (i * 3 + 1) (.int .i64 x.tries)).set (i * 3 + 2) (.bool x.kept) := by
  induction l with
  | nil => intro i x hi; exact absurd hi (Nat.not_lt_zero _)
  | cons y l ih =>
    intro i x hi
    cases i with
    | zero => rfl
    | succ i =>
      have h := ih i x (by simpa using hi)
      rw [List.set_cons_succ, cellsW_cons, cellsW_cons, h]
      have e : ∀ (m : List Value) (j : Nat) (v : Value), (y.cells ++ m).set ((i + 1) * 3 + j) v = y.cells ++ m.set (i * 3 + j) v := by
        intro m j v
        rw [List.set_append_right _ _ (by simp [WtD.cells]; omega)]
        congr 2
        simp [WtD.cells]; omega
      have e0 : ∀ (m : List Value) (v : Value), (y.cells ++ m).set ((i + 1) * 3) v = y.cells ++ m.set (i * 3) v := fun m v => e m 0 v
      rw [e0, e, e]
/-- The cells of cosignatures, their texts in blocks of D. -/
def CgRow (D : Nat → Prop) (w : World) (us : List Value) (ls : List CgD) : Prop :=
  us.length = ls.length * 4 ∧ ∀ i (h : i < ls.length), ∃ p q, us[i * 4]? = some (.int .i64 ls[i].wit) ∧ us[i * 4 + 1]? = some (.int .i64 ls[i].sig.index) ∧ us[i * 4 + 2]? = some p ∧ us[i * 4 + 3]? = some q ∧ RwsF D w p ls[i].sig.parts ∧ RwsF D w q ls[i].sig.path
theorem CgRow.nil (D : Nat → Prop) (w : World) : CgRow D w [] [] := ⟨rfl, fun i h => absurd h (Nat.not_lt_zero _)⟩
theorem CgRow.chg {S T : Nat → Prop} {w w1 : World} {us : List Value} {ls : List CgD} (h : CgRow S w us ls) (hc : Chg w w1 T) (hS : ∀ g, S g → ¬ T g) : CgRow S w1 us ls :=
  ⟨h.1, fun i hi => by obtain ⟨p, q, h1, h2, h3, h4, h5, h6⟩ := h.2 i hi; exact ⟨p, q, h1, h2, h3, h4, h5.chg hc hS, h6.chg hc hS⟩⟩
theorem CgRow.mono {S T : Nat → Prop} {w : World} {us : List Value} {ls : List CgD} (h : CgRow S w us ls) (hS : ∀ g, S g → T g) : CgRow T w us ls :=
  ⟨h.1, fun i hi => by obtain ⟨p, q, h1, h2, h3, h4, h5, h6⟩ := h.2 i hi; exact ⟨p, q, h1, h2, h3, h4, h5.mono hS, h6.mono hS⟩⟩
theorem Sho.cut {D : Nat → Prop} {w : World} {v : Value} {n k : Nat} {cs : List Value} (h : Sho w v n k cs) (hf : 0 < n → ∀ g, v.ownBlock = some g → D g) : 0 < n → ∀ g, v.ownBlock = some g → D g ∧ g < w.heap.size := fun h0 g hg => ⟨hf h0 g hg, h.lt h0 g hg⟩
theorem BysF.cut {D : Nat → Prop} {w : World} {v : Value} {l : List UInt8} (h : BysF D w v l) : BysF (fun g => D g ∧ g < w.heap.size) w v l := ⟨h.1, Sho.cut h.1 h.2⟩
theorem RwsF.cut {D : Nat → Prop} {w : World} {v : Value} {ls : List (List UInt8)} (h : RwsF D w v ls) : RwsF (fun g => D g ∧ g < w.heap.size) w v ls := by
  obtain ⟨us, h1, hf, h2⟩ := h
  exact ⟨us, h1, Sho.cut h1 hf, fun i hi => by obtain ⟨u, e, hu, hn⟩ := h2 i hi; exact ⟨u, e, hu, Sho.cut hu hn⟩⟩
theorem CgRow.cut {D : Nat → Prop} {w : World} {us : List Value} {ls : List CgD} (h : CgRow D w us ls) : CgRow (fun g => D g ∧ g < w.heap.size) w us ls :=
  ⟨h.1, fun i hi => by obtain ⟨p, q, h1, h2, h3, h4, h5, h6⟩ := h.2 i hi; exact ⟨p, q, h1, h2, h3, h4, h5.cut, h6.cut⟩⟩

/-- A feeder. -/
structure FdD where
  p : PolD
  retry : Int
  m : List Ent
  ord : Int
  l : List WtD
  cur : SgD
  has : Bool
  kept : List CgD
  done : SgD
  enough : List CgD
/-- Where its parts lie. -/
structure FdR where
  base : Nat
  kb : Nat
  lb : Nat
  ab : Nat
  av : Value
  kv : Value
  ev : Value
  pl : Value
  pw : Value
  cr : Value
  cp : Value
  cq : Value
  dr : Value
  dp : Value
  dq : Value
/-- The blocks that a feeder turns. -/
def FdM (f : Nat) (r : FdR) (k : Nat) : Prop := k = f ∨ k = r.lb ∨ r.kv.ownBlock = some k ∨ Foot r.ab r.av k
def fdCells (d : FdD) (r : FdR) : List Value := [r.pl, r.pw, .int .i64 d.p.quorum, .int .i64 d.retry, .pointer (some ⟨r.ab, 0, none⟩), .slice (some ⟨r.lb, 0, none⟩) d.l.length d.l.length, .int .i64 d.cur.ck.num, r.cr, .int .i64 d.cur.sig.index, r.cp, r.cq, .bool d.has, r.kv, .int .i64 d.done.ck.num, r.dr, .int .i64 d.done.sig.index, r.dp, r.dq, r.ev]
def FdDat (Z : Nat → Prop) (f : Nat) (r : FdR) (g : Nat) : Prop := Z g ∧ ¬ FdM f r g
/-- The texts of a feeder, in blocks of D. -/
structure FdT (D : Nat → Prop) (w : World) (d : FdD) (r : FdR) (us es : List Value) : Prop where
  pl : BysF D w r.pl d.p.log
  pw : RwsF D w r.pw d.p.wits
  cr : BysF D w r.cr d.cur.ck.root
  cp : RwsF D w r.cp d.cur.sig.parts
  cq : RwsF D w r.cq d.cur.sig.path
  dr : BysF D w r.dr d.done.ck.root
  dp : RwsF D w r.dp d.done.sig.parts
  dq : RwsF D w r.dq d.done.sig.path
  kd : CgRow D w us d.kept
  en : Sho w r.ev d.enough.length 4 es
  ef : 0 < d.enough.length → ∀ g, r.ev.ownBlock = some g → D g
  ed : CgRow D w es d.enough
theorem FdT.chg {S T : Nat → Prop} {w w1 : World} {d : FdD} {r : FdR} {us es : List Value} (h : FdT S w d r us es) (hc : Chg w w1 T) (hS : ∀ g, S g → ¬ T g) : FdT S w1 d r us es :=
  ⟨h.pl.chg hc hS, h.pw.chg hc hS, h.cr.chg hc hS, h.cp.chg hc hS, h.cq.chg hc hS, h.dr.chg hc hS, h.dp.chg hc hS, h.dq.chg hc hS, h.kd.chg hc hS, h.en.chgF h.ef hc hS, h.ef, h.ed.chg hc hS⟩
theorem FdT.mono {S T : Nat → Prop} {w : World} {d : FdD} {r : FdR} {us es : List Value} (h : FdT S w d r us es) (hS : ∀ g, S g → T g) : FdT T w d r us es :=
  ⟨h.pl.mono hS, h.pw.mono hS, h.cr.mono hS, h.cp.mono hS, h.cq.mono hS, h.dr.mono hS, h.dp.mono hS, h.dq.mono hS, h.kd.mono hS, h.en, fun h0 g hg => hS g (h.ef h0 g hg), h.ed.mono hS⟩
theorem FdT.cut {D : Nat → Prop} {w : World} {d : FdD} {r : FdR} {us es : List Value} (h : FdT D w d r us es) : FdT (fun g => D g ∧ g < w.heap.size) w d r us es :=
  ⟨h.pl.cut, h.pw.cut, h.cr.cut, h.cp.cut, h.cq.cut, h.dr.cut, h.dp.cut, h.dq.cut, h.kd.cut, h.en, Sho.cut h.en h.ef, h.ed.cut⟩
/-- A feeder at block f, all in blocks of Z. -/
structure FdOk (Z : Nat → Prop) (w : World) (f : Nat) (d : FdD) (r : FdR) (us es : List Value) : Prop where
  blk : Blk w f 76 (fdCells d r)
  wt : Blk w r.lb 87 (cellsW d.l)
  ag : AgS w r.base r.ab r.av d.m d.ord
  kp : w.ownsRow r.kb 58 4 r.kv d.kept.length us
  kbl : r.kb ≤ w.heap.size
  bal : r.base ≤ w.heap.size
  tx : FdT (FdDat Z f r) w d r us es
  n1 : f ≠ r.lb
  n2 : r.kv.ownBlock ≠ some f
  n3 : r.kv.ownBlock ≠ some r.lb
  n4 : ¬ Foot r.ab r.av f
  n5 : ¬ Foot r.ab r.av r.lb
  n6 : ∀ k, r.kv.ownBlock = some k → ¬ Foot r.ab r.av k
  mz : ∀ k, FdM f r k → Z k
def FdAt (Z : Nat → Prop) (w : World) (f : Nat) (d : FdD) : Prop := ∃ r us es, FdOk Z w f d r us es
theorem FdOk.chg {Z T : Nat → Prop} {w w1 : World} {f : Nat} {d : FdD} {r : FdR} {us es : List Value} (h : FdOk Z w f d r us es) (hc : Chg w w1 T) (hT : ∀ g, Z g → ¬ T g) : FdOk Z w1 f d r us es :=
  ⟨h.blk.chg hc (hT _ (h.mz _ (.inl rfl))), h.wt.chg hc (hT _ (h.mz _ (.inr (.inl rfl)))), h.ag.chg hc (fun k hk => hT _ (h.mz _ (.inr (.inr (.inr hk))))), ownsRow_chg h.kp hc (fun k hk => hT _ (h.mz _ (.inr (.inr (.inl hk))))), Nat.le_trans h.kbl hc.size, Nat.le_trans h.bal hc.size, h.tx.chg hc (fun g hg => hT g hg.1), h.n1, h.n2, h.n3, h.n4, h.n5, h.n6, h.mz⟩
theorem FdAt.chg {Z T : Nat → Prop} {w w1 : World} {f : Nat} {d : FdD} (h : FdAt Z w f d) (hc : Chg w w1 T) (hT : ∀ g, Z g → ¬ T g) : FdAt Z w1 f d := by
  obtain ⟨r, us, es, h⟩ := h
  exact ⟨r, us, es, h.chg hc hT⟩
theorem FdOk.below {Z : Nat → Prop} {w w1 : World} {f : Nat} {d : FdD} {r : FdR} {us es : List Value} (h : FdOk Z w f d r us es) (hb : Below w.heap.size w w1) : FdOk Z w1 f d r us es := h.chg (Chg.of_below (S := fun _ => False) hb) (fun _ _ h => h)
theorem FdAt.below {Z : Nat → Prop} {w w1 : World} {f : Nat} {d : FdD} (h : FdAt Z w f d) (hb : Below w.heap.size w w1) : FdAt Z w1 f d := h.chg (Chg.of_below (S := fun _ => False) hb) (fun _ _ h => h)
theorem FdOk.lt {Z : Nat → Prop} {w : World} {f : Nat} {d : FdD} {r : FdR} {us es : List Value} (h : FdOk Z w f d r us es) (k : Nat) (hk : FdM f r k) : k < w.heap.size := by
  rcases hk with rfl | rfl | hk | hk
  · exact h.blk.lt
  · exact h.wt.lt
  · exact (World.ownsRow.lt h.kp k hk).2
  · exact h.ag.foot_lt k hk
/-- Blocks of Z, and new ones. -/
def Wide (Z : Nat → Prop) (w w' : World) (g : Nat) : Prop := Z g ∨ Fresh w w' g
theorem Wide.step {Z : Nat → Prop} {w w1 w2 : World} {g : Nat} (h : Wide (Wide Z w w1) w1 w2 g) (h1 : w.heap.size ≤ w1.heap.size) (h2 : w1.heap.size ≤ w2.heap.size) : Wide Z w w2 g := by
  rcases h with (h | h) | h
  · exact .inl h
  · exact .inr ⟨h.1, Nat.lt_of_lt_of_le h.2 h2⟩
  · exact .inr ⟨Nat.le_trans h1 h.1, h.2⟩
/-- The agenda turns: its row may lie anew. -/
theorem FdOk.agenda {Z : Nat → Prop} {w w1 : World} {f : Nat} {d : FdD} {r : FdR} {us es : List Value} (h : FdOk Z w f d r us es) {v' : Value} {m' : List Ent} {ord' : Int} (ha : AgS w1 r.base r.ab v' m' ord') (hv : v'.ownBlock = r.av.ownBlock ∨ ∃ k, v'.ownBlock = some k ∧ w.heap.size ≤ k) (hc : Chg w w1 (Foot r.ab r.av)) :
    FdOk (Wide Z w w1) w1 f { d with m := m', ord := ord' } { r with av := v' } us es := by
  have hfoot : ∀ k, Foot r.ab v' k → Foot r.ab r.av k ∨ w.heap.size ≤ k := by
    intro k hk
    rcases hk with hk | hk
    · exact .inl (.inl hk)
    · rcases hv with e | ⟨q, e, hq⟩
      · exact .inl (.inr (by rw [← e]; exact hk))
      · rw [e] at hk
        injection hk with hk
        exact .inr (by omega)
  have hM : ∀ k, FdM f { r with av := v' } k → FdM f r k ∨ w.heap.size ≤ k := by
    intro k hk
    rcases hk with hk | hk | hk | hk
    · exact .inl (.inl hk)
    · exact .inl (.inr (.inl hk))
    · exact .inl (.inr (.inr (.inl hk)))
    · rcases hfoot k hk with h1 | h1
      · exact .inl (.inr (.inr (.inr h1)))
      · exact .inr h1
  have hnf : ∀ k, ¬ Foot r.ab r.av k → k < w.heap.size → ¬ Foot r.ab v' k := fun k hn hk hf => by
    rcases hfoot k hf with h1 | h1
    · exact hn h1
    · omega
  refine ⟨h.blk.chg hc h.n4, h.wt.chg hc h.n5, ha, ownsRow_chg h.kp hc h.n6, Nat.le_trans h.kbl hc.size, Nat.le_trans h.bal hc.size, ?_, h.n1, h.n2, h.n3, hnf f h.n4 h.blk.lt, hnf _ h.n5 h.wt.lt, fun k hk => hnf k (h.n6 k hk) (World.ownsRow.lt h.kp k hk).2, fun k hk => ?_⟩
  · have h1 := (h.tx.cut).chg hc (fun g hg e => hg.1.2 (.inr (.inr (.inr e))))
    exact FdT.mono ⟨h1.pl, h1.pw, h1.cr, h1.cp, h1.cq, h1.dr, h1.dp, h1.dq, h1.kd, h1.en, h1.ef, h1.ed⟩ (fun g hg => ⟨.inl hg.1.1, fun e => by
      rcases hM g e with e | e
      · exact hg.1.2 e
      · have := hg.2; omega⟩)
  · rcases hM k hk with e | e
    · exact .inl (h.mz k e)
    · refine .inr ⟨e, ?_⟩
      rcases hk with hk | hk | hk | hk
      · have := h.blk.lt; have := hc.size; omega
      · have := h.wt.lt; have := hc.size; have hk' : k = r.lb := hk; omega
      · have := (World.ownsRow.lt h.kp k hk).2; omega
      · exact ha.foot_lt k hk

set_option maxHeartbeats 1000000 in
/-- A witness is planned anew. -/
def PlanPost (Z : Nat → Prop) (w : World) (f : Nat) (d : FdD) (r : FdR) (us es : List Value) (tm wh : Int) (e : Ending) (w' : World) : Prop :=
  ∃ v', e = .returned (.tuple #[]) ∧ FdOk (Wide Z w w') w' f { d with m := insE ⟨tm, d.ord, wh⟩ (keepW wh d.m), ord := d.ord + 1 } { r with av := v' } us es ∧ Chg w w' (Foot r.ab r.av) ∧ (v'.ownBlock = r.av.ownBlock ∨ ∃ k, v'.ownBlock = some k ∧ w.heap.size ≤ k)
theorem keepW_le (what : Int) (l : List Ent) : (keepW what l).length ≤ l.length := List.length_filter_le _ _
set_option maxRecDepth 100000 in
set_option maxHeartbeats 1000000 in
theorem plan_any (Z : Nat → Prop) (f : Nat) (d : FdD) (r : FdR) (us es : List Value) (tm wh : Int) (hm : d.m.length ≤ 10000000) (ho : d.ord ≤ 1000000000) (w : World) (h : FdOk Z w f d r us es) :
    Calls Try.prog 35 #[.pointer (some ⟨f, 0, none⟩), .int .i64 tm, .int .i64 wh] w (PlanPost Z w f d r us es tm wh) := by
  have q2 := h.blk.cell 4 _ rfl
  have HC := Lib.hid (cancel_any r.base r.ab r.av d.m d.ord wh (by omega) w h.ag)
  have H := Lib.hid h
  clear h
  go_enter Try.func35, Try.ntmps35
  go_wp2_with fail
  refine HC.out.mono ?_
  rintro e w1 ⟨v1, rfl, h1, h2, h3⟩
  have H1 := Lib.hid (H.out.agenda h1 (.inl h2) h3)
  have q3 : w1.cell? ⟨f, 4, none⟩ = some (.pointer (some ⟨r.ab, 0, none⟩)) := H1.out.blk.cell 4 _ rfl
  have HA := Lib.hid (add_any r.base r.ab v1 (keepW wh d.m) d.ord tm wh (by have := keepW_le wh d.m; omega) (by omega) w1 h1)
  have HV := Lib.hid (And.intro h2 h3)
  clear h1 h2 h3 q2
  go_wp2_with fail
  refine HA.out.mono ?_
  rintro e w2 ⟨v2, rfl, h1, h2, h3⟩
  have H2 := Lib.hid (And.intro (H1.out.agenda h1 h2 h3) h3)
  have HLI := Lib.hid h2
  clear h1 h2 h3 q3
  go_wp2
  go_end0
  have hch : Chg w w2 (Foot r.ab r.av) := HV.out.2.trans H2.out.2 (fun i _ hi => by
    rcases hi with hi | hi
    · exact .inl hi
    · exact .inr (by rw [← HV.out.1]; exact hi))
  refine ⟨v2, rfl, ?_, hch, ?_⟩
  rotate_left 1
  · rcases HLI.out with e | ⟨k, e, hk⟩
    · exact .inl (e.trans HV.out.1)
    · exact .inr ⟨k, e, Nat.le_trans HV.out.2.size hk⟩
  have h9 := H2.out.1
  refine ⟨h9.blk, h9.wt, h9.ag, h9.kp, h9.kbl, h9.bal, ?_, h9.n1, h9.n2, h9.n3, h9.n4, h9.n5, h9.n6, fun k hk => (h9.mz k hk).step HV.out.2.size H2.out.2.size⟩
  exact h9.tx.mono (fun g hg => ⟨hg.1.step HV.out.2.size H2.out.2.size, hg.2⟩)
end Go.Proofs.Ytlkgeifmppadmaa
namespace Go.Proofs.Ytlkgeifmppadmaa
open Go.RowKit
set_option linter.unusedVariables false
set_option linter.unusedSimpArgs false

def zSg : SgD := ⟨⟨0, []⟩, ⟨0, [], []⟩⟩
/-- A feeder that was told nothing. -/
def fdNew (p : PolD) (retry : Int) : FdD := ⟨p, retry, [], 0, List.replicate p.wits.length ⟨0, 0, false⟩, zSg, false, [], zSg, []⟩
theorem info_state : (Try.prog.info? 87).map (fun i => (i.zero, i.size, i.bytes)) = some (some (.agg #[.int .i64 0, .int .i64 0, .bool false]), 3, 24) := by kernel_rfl
theorem made_state (n : Nat) (h : n ≤ 4) : madeCells (Value.agg #[.int .i64 0, .int .i64 0, .bool false]).cells (n * 3) = (cellsW (List.replicate n ⟨0, 0, false⟩)).toArray := by
  obtain rfl | rfl | rfl | rfl | rfl : n = 0 ∨ n = 1 ∨ n = 2 ∨ n = 3 ∨ n = 4 := by omega
  all_goals kernel_rfl
theorem make_state (n : Nat) (h : n ≤ 4) (w : World) : (Instr.makeSlice 74 (.int .i64 n) (.int .i64 n)).run Try.prog w = .ok (.slice (some ⟨w.heap.size, 0, none⟩) n n) (w.alloc (.cells (cellsW (List.replicate n ⟨0, 0, false⟩)).toArray 87)) := by
  obtain ⟨i0, hi0, hz0, hz1, hz2⟩ := info_parts info_state
  have hr := run_make (P := Try.prog) w 74 87 i0 _ Try.underlying74 hi0 hz0 .i64 .i64 n n (by omega) (Int.le_refl _) (by rw [hz2]; omega) (by omega)
  rw [hz1] at hr
  simp only [Int.toNat_natCast] at hr
  rw [made_state n h] at hr
  exact hr
/-- What stands when a feeder is built. -/
def NewSt (w W : World) (LB A : Nat) (lv wv : Value) (p : PolD) : Prop :=
  Below w.heap.size w W ∧ BysF (fun g => w.heap.size ≤ g ∧ g < W.heap.size ∧ g ≠ LB ∧ g ≠ A) W lv p.log ∧ RwsF (fun g => w.heap.size ≤ g ∧ g < W.heap.size ∧ g ≠ LB ∧ g ≠ A) W wv p.wits ∧ AgS W A A (.slice none 0 0) [] 0 ∧ Blk W LB 87 (cellsW (List.replicate p.wits.length ⟨0, 0, false⟩)) ∧ LB ≠ A ∧ w.heap.size ≤ LB ∧ w.heap.size ≤ A
def zeroR (base kb lb ab : Nat) (lv wv : Value) : FdR := ⟨base, kb, lb, ab, .slice none 0 0, .slice none 0 0, .slice none 0 0, lv, wv, .slice none 0 0, .slice none 0 0, .slice none 0 0, .slice none 0 0, .slice none 0 0, .slice none 0 0⟩
theorem bysF_nil (S : Nat → Prop) (w : World) : BysF S w (.slice none 0 0) [] := ⟨Sho.nil w 1, fun h => absurd h (Nat.lt_irrefl _)⟩
theorem rwsF_nil (S : Nat → Prop) (w : World) : RwsF S w (.slice none 0 0) [] := ⟨[], Sho.nil w 1, fun h => absurd h (Nat.lt_irrefl _), fun i h => absurd h (Nat.not_lt_zero _)⟩
theorem new_ok {w W : World} {LB A : Nat} {lv wv : Value} {p : PolD} {retry : Int} (h : NewSt w W LB A lv wv p) (W2 : World) (hW2 : W2 = W.alloc (.cells (fdCells (fdNew p retry) (zeroR A W.heap.size LB A lv wv)).toArray 76)) :
    FdAt (Fresh w W2) W2 W.heap.size (fdNew p retry) ∧ Below w.heap.size w W2 := by
  obtain ⟨h1, h2, h3, h4, h5, h6, h7, h8⟩ := h
  have hb : Below W.heap.size W W2 := by rw [hW2]; exact (Below.refl _ _).alloc (Nat.le_refl _) _
  have hblk : Blk W2 W.heap.size 76 (fdCells (fdNew p retry) (zeroR A W.heap.size LB A lv wv)) := by rw [hW2]; exact Blk.new W _ _
  have hsz : W2.heap.size = W.heap.size + 1 := by rw [hW2]; simp
  have hA := h4.blk.lt
  have hL := h5.lt
  have hw := h1.size
  refine ⟨⟨zeroR A W.heap.size LB A lv wv, [], [], ?_⟩, h1.trans (hb.mono hw)⟩
  have hft : ∀ k, Foot A (.slice none 0 0) k → k = A := fun k hk => by
    rcases hk with hk | hk
    · exact hk
    · exact absurd hk (by simp [Value.ownBlock])
  have hM : ∀ k, FdM W.heap.size (zeroR A W.heap.size LB A lv wv) k → k = W.heap.size ∨ k = LB ∨ k = A := fun k hk => by
    rcases hk with hk | hk | hk | hk
    · exact .inl hk
    · exact .inr (.inl hk)
    · exact absurd hk (by simp [zeroR, Value.ownBlock])
    · exact .inr (.inr (hft k hk))
  have hD : ∀ g, w.heap.size ≤ g ∧ g < W.heap.size ∧ g ≠ LB ∧ g ≠ A → FdDat (Fresh w W2) W.heap.size (zeroR A W.heap.size LB A lv wv) g := fun g hg => ⟨⟨hg.1, by omega⟩, fun e => by
    rcases hM g e with e | e | e
    · have := hg.2.1; omega
    · exact hg.2.2.1 e
    · exact hg.2.2.2 e⟩
  refine ⟨hblk, h5.below hb, h4.below hb, World.ownsRow_nil _ _ _ _, by show W.heap.size ≤ _; omega, by show A ≤ _; omega, ⟨(h2.below hb).mono hD, (h3.below hb).mono hD, bysF_nil _ _, rwsF_nil _ _, rwsF_nil _ _, bysF_nil _ _, rwsF_nil _ _, rwsF_nil _ _, CgRow.nil _ _, Sho.nil _ _, fun h => absurd h (Nat.lt_irrefl _), CgRow.nil _ _⟩, by show W.heap.size ≠ LB; omega, by simp [zeroR, Value.ownBlock], by simp [zeroR, Value.ownBlock], fun e => by have := hft _ e; omega, fun e => h6 (hft _ e), fun k hk => absurd hk (by simp [zeroR, Value.ownBlock]), fun k hk => ?_⟩
  rcases hM k hk with e | e | e
  · exact ⟨by omega, by omega⟩
  · exact ⟨by omega, by omega⟩
  · exact ⟨by omega, by omega⟩
theorem polB_facts {p : PolD} (h : polB p = true) : p.log.length = 32 ∧ 1 ≤ p.wits.length ∧ p.wits.length ≤ 4 ∧ 1 ≤ p.quorum ∧ p.quorum ≤ (p.wits.length : Int) ∧ witsN p.wits p.wits.length = true := by
  simp only [polB, Bool.and_eq_true, decide_eq_true_eq] at h
  obtain ⟨⟨⟨⟨⟨h1, h2⟩, h3⟩, h4⟩, h5⟩, h6⟩ := h
  exact ⟨h1, h2, h3, h4, h5, h6⟩
def NewPost (w : World) (p : PolD) (retry : Int) (e : Ending) (w' : World) : Prop :=
  ∃ f Z, e = .returned (.tuple #[.pointer (some ⟨f, 0, none⟩), .int .i64 0]) ∧ FdAt Z w' f (fdNew p retry) ∧ (∀ g, Z g → w.heap.size ≤ g ∧ g < w'.heap.size) ∧ Below w.heap.size w w'
set_option maxRecDepth 100000 in
set_option maxHeartbeats 4000000 in
theorem fnew_no (v : Value) (p : PolD) (retry : Int) (hs : SmallPol p) (hbad : polB p = false ∨ retry < 1 ∨ 100 < retry) (w : World) (hv : PolV w v p) :
    Calls Try.prog 8 #[v, .int .i64 retry] w fun e w' => e = .returned (.tuple #[.pointer none, .int .i64 1]) ∧ Below w.heap.size w w' := by
  have HR := Lib.hid (fun (wz : World) (v : Value) (hz : PolV wz v p) => coright_any v p hs.1 hs.2.1 hs.2.2.2 wz hz)
  obtain ⟨l, ws, rfl, h1, h2⟩ := hv
  obtain ⟨L, cl, rfl⟩ := h1.form
  obtain ⟨R, cr, rfl⟩ := h2.form
  have HX := Lib.hid (And.intro h1 h2)
  have HW := Lib.hid ((Below.refl w.heap.size w).alloc (Nat.le_refl _) (.cells #[.slice L p.log.length cl, .slice R p.wits.length cr, .int .i64 p.quorum] 33))
  have HB := Lib.hid hbad
  clear h1 h2 hs hbad
  go_enter Try.func8, Try.ntmps8
  go_wp2_with fail
  refine (HR.out _ _ ⟨_, _, rfl, HX.out.1.below HW.out, HX.out.2.below HW.out⟩).mono ?_
  rintro e w1 ⟨rfl, h1⟩
  have H1 := Lib.hid (HW.out.trans (h1.mono (by simp)))
  clear h1
  cases hpb : polB p with
  | false =>
    go_wp2
    go_ret2
    exact ⟨rfl, H1.out⟩
  | true =>
    by_cases c1 : retry < 1
    · go_wp2
      go_ret2
      exact ⟨rfl, H1.out⟩
    · have c2 : 100 < retry := by
        rcases HB.out with h | h | h
        · rw [hpb] at h; cases h
        · exact absurd h c1
        · exact h
      go_wp2
      go_ret2
      exact ⟨rfl, H1.out⟩
set_option maxRecDepth 100000 in
set_option maxHeartbeats 8000000 in
theorem fnew_yes (v : Value) (p : PolD) (retry : Int) (hs : SmallPol p) (hpb : polB p = true) (hr1 : 1 ≤ retry) (hr2 : retry ≤ 100) (w : World) (hv : PolV w v p) :
    Calls Try.prog 8 #[v, .int .i64 retry] w (NewPost w p retry) := by
  have HR := Lib.hid (fun (wz : World) (v : Value) (hz : PolV wz v p) => coright_any v p hs.1 hs.2.1 hs.2.2.2 wz hz)
  rw [hpb] at HR
  have HP := Lib.hid (fun (wz : World) (v : Value) (hz : PolV wz v p) => fpolicy_any v p hs wz hz)
  obtain ⟨g1, g2, g3, -⟩ := polB_facts hpb
  obtain ⟨l, ws, rfl, h1, h2⟩ := hv
  obtain ⟨L, cl, rfl⟩ := h1.form
  obtain ⟨R, cr, rfl⟩ := h2.form
  have HX := Lib.hid (And.intro h1 h2)
  have hk0 := Blk.new w 33 [.slice L p.log.length cl, .slice R p.wits.length cr, .int .i64 p.quorum]
  have hb0 := (Below.refl w.heap.size w).alloc (Nat.le_refl _) (.cells #[.slice L p.log.length cl, .slice R p.wits.length cr, .int .i64 p.quorum] 33)
  have HW := Lib.hid (And.intro hk0 hb0)
  clear h1 h2 hs hpb hk0 hb0 g1
  go_enter Try.func8, Try.ntmps8
  go_wp2_with fail
  refine (HR.out _ _ ⟨_, _, rfl, HX.out.1.below HW.out.2, HX.out.2.below HW.out.2⟩).mono ?_
  rintro e w1 ⟨rfl, h1⟩
  have H1 := Lib.hid (And.intro (HW.out.1.below h1) (HW.out.2.trans (h1.mono (by simp))))
  have hsz1 : w.heap.size < w1.heap.size := H1.out.1.lt
  have c0 := H1.out.1.cell 0 _ rfl
  have c1 := H1.out.1.cell 1 _ rfl
  have c2 := H1.out.1.cell 2 _ rfl
  clear h1
  go_wp2
  have hmk := fun v : World => make_state p.wits.length g3 v
  refine wp_region_held_drew (S := fun w' => w'.cell? ⟨w.heap.size, 0, none⟩ = some (.slice L p.log.length cl) ∧ w'.cell? ⟨w.heap.size, 1, none⟩ = some (.slice R p.wits.length cr) ∧ w'.cell? ⟨w.heap.size, 2, none⟩ = some (.int .i64 p.quorum)) (by kernel_rfl) ?_ (fun hHeld => ?_)
  · exact ⟨c0, c1, c2⟩
  refine take_yes 0 17 rfl rfl (by kernel_rfl) (by kernel_rfl) (by kernel_rfl) (fun _ _ _ h => h) (by assumption) (by rfl) (v := ?_) ?_ ?_
  rotate_left 1
  · (intro w hSw; (try dsimp only at hSw); go_simp; try with_reducible rfl)
  simp only [List.setIfInBounds_toArray, List.set_cons_zero, List.set_cons_succ]
  refine take_yes 2 19 rfl rfl (by kernel_rfl) (by kernel_rfl) (by kernel_rfl) (fun _ _ _ h => h) (by assumption) (by rfl) (v := ?_) ?_ ?_
  rotate_left 1
  · (intro w hSw; (try dsimp only at hSw); go_simp; try with_reducible rfl)
  simp only [List.setIfInBounds_toArray, List.set_cons_zero, List.set_cons_succ]
  refine take_yes 4 21 rfl rfl (by kernel_rfl) (by kernel_rfl) (by kernel_rfl) (fun _ _ _ h => h) (by assumption) (by rfl) (v := ?_) ?_ ?_
  rotate_left 1
  · (intro w hSw; (try dsimp only at hSw); go_simp; try with_reducible rfl)
  simp only [List.setIfInBounds_toArray, List.set_cons_zero, List.set_cons_succ]
  refine take_yes 5 22 rfl rfl (by kernel_rfl) (by kernel_rfl) (by kernel_rfl) (fun _ _ _ h => h) (by assumption) (by rfl) (v := ?_) ?_ ?_
  rotate_left 1
  · (intro w hSw; (try dsimp only at hSw); go_simp; try with_reducible rfl)
  simp only [List.setIfInBounds_toArray, List.set_cons_zero, List.set_cons_succ]
  refine take_yes 6 23 rfl rfl (by kernel_rfl) (by kernel_rfl) (by kernel_rfl) (fun _ _ _ h => h) (by assumption) (by rfl) (v := ?_) ?_ ?_
  rotate_left 1
  · (intro w hSw; (try dsimp only at hSw); go_simp; try with_reducible rfl)
  simp only [List.setIfInBounds_toArray, List.set_cons_zero, List.set_cons_succ]
  refine wpAnyH_ready (rs := [1, 7]) (by kernel_rfl) (by simp) ?_
  refine AllReadyH.cons rfl (fun K hK => ?w3_1) (AllReadyH.cons rfl (fun K hK => ?w3_7) AllReadyH.nil)
  case' w3_7 =>
    -- 7:  dst := some 24, op := Op.makeSlice 74 (Operand.tmp 23) (Operand.tmp 23), type := 74
    go_simp
    have hbl := ((Below.refl w1.heap.size w1).alloc (Nat.le_refl _) (.cells (cellsW (List.replicate p.wits.length ⟨0, 0, false⟩)).toArray 87)).drew
    have hkl : Blk (w1.alloc (.cells (cellsW (List.replicate p.wits.length ⟨0, 0, false⟩)).toArray 87)).drew w1.heap.size 87 (cellsW (List.replicate p.wits.length ⟨0, 0, false⟩)) := (Blk.new w1 87 (cellsW (List.replicate p.wits.length ⟨0, 0, false⟩))).drew
    have HBL := Lib.hid (And.intro hbl hkl)
    clear hbl hkl
    refine hK.out _ _ ⟨by go_keep, by go_keep, by go_keep⟩ (fun hHeld7 => ?_)
    clear hK K
    try simp only [Act.put, List.setIfInBounds_toArray, List.set_cons_zero, List.set_cons_succ]
    refine wpAnyH_ready (rs := [1]) (by kernel_rfl) (by simp) ?_
    refine AllReadyH.cons rfl (fun K hK => ?_) AllReadyH.nil
    -- 1:  dst := some 18, op := Op.call  callee := Callee.value (Operand.func 26), args := #[Operand.tmp 17], argTypes := #[33] , type :
    go_simp
    go_at_call 26
    have hbb : Below w1.heap.size w1 ((w1.alloc (.cells (cellsW (List.replicate p.wits.length ⟨0, 0, false⟩)).toArray 87)).drew) := HBL.out.1
    refine (HP.out _ _ ⟨_, _, rfl, HX.out.1.below (H1.out.2.trans (hbb.mono H1.out.2.size)), HX.out.2.below (H1.out.2.trans (hbb.mono H1.out.2.size))⟩).mono ?_
    rintro e w2 ⟨v2, rfl, ⟨lv, wv, rfl, h2, h3⟩, h4⟩
    obtain ⟨A2, n2, rfl⟩ := h2.1.form
    obtain ⟨A3, n3, rfl⟩ := h3.rws.form
    have hb2 : Below w1.heap.size w1 w2 := hbb.trans (h4.mono hbb.size)
    have k0 := H1.out.1.below hb2
    have e0 := k0.cell 0 _ rfl
    have e1 := k0.cell 1 _ rfl
    have e2 := k0.cell 2 _ rfl
    have hbw2 : w.heap.size < w2.heap.size := k0.lt
    have hgz : ((w1.alloc (.cells (cellsW (List.replicate p.wits.length ⟨0, 0, false⟩)).toArray 87)).drew).heap.size ≤ w2.heap.size := h4.size
    have hfs : (w1.alloc (.cells (cellsW (List.replicate p.wits.length ⟨0, 0, false⟩)).toArray 87)).drew.heap.size = w1.heap.size + 1 := by show (w1.alloc _).heap.size = _; simp
    have H2 := Lib.hid (And.intro (h2.mono (T := fun g => w1.heap.size + 1 ≤ g ∧ g < w2.heap.size) (fun g hg => ⟨by have := hg.1; rw [hfs] at this; exact this, hg.2⟩)) (And.intro (h3.mono (T := fun g => w1.heap.size + 1 ≤ g ∧ g < w2.heap.size) (fun g hg => ⟨by have := hg.1; rw [hfs] at this; exact this, hg.2⟩)) (And.intro hb2 (And.intro k0 (HBL.out.2.below h4)))))
    have hl2 : w1.heap.size + 1 ≤ w2.heap.size := by rw [← hfs]; exact hgz
    clear h2 h3 h4 hb2 k0 hbb hfs hgz
    go_wp2_with fail
    refine hK.out _ _ ⟨e0, e1, e2⟩ (fun hHeld1 => ?_)
    clear hK K
    try simp only [Act.put, List.setIfInBounds_toArray, List.set_cons_zero, List.set_cons_succ]
    refine wpAnyH_ready (rs := [3]) (by kernel_rfl) (by simp) ?_
    refine AllReadyH.cons rfl (fun K hK => ?_) AllReadyH.nil
    -- 3:  dst := some 20, op := Op.call  callee := Callee.value (Operand.func 27), args := #[], argTypes := #[] , type := 72
    go_simp
    go_at_call 27
    refine (new_any w2).mono ?_
    rintro e w3 ⟨rfl, h5, h6⟩
    have k0 := H2.out.2.2.2.1.below h6
    have i0 := k0.cell 0 _ rfl
    have i1 := k0.cell 1 _ rfl
    have i2 := k0.cell 2 _ rfl
    have H3 := Lib.hid (And.intro h5 h6)
    clear h5 h6 k0
    go_wp2_with fail
    refine hK.out _ _ ⟨i0, i1, i2⟩ (fun hHeld3 => ?_)
    clear hK K
    try simp only [Act.put, List.setIfInBounds_toArray, List.set_cons_zero, List.set_cons_succ]
    refine take_yes 8 25 rfl rfl (by kernel_rfl) (by kernel_rfl) (by kernel_rfl) (fun _ _ _ h => h) (by assumption) (by rfl) (v := ?_) ?_ ?_
    rotate_left 1
    · (intro w hSw; (try dsimp only at hSw); go_simp; try with_reducible rfl)
    simp only [List.setIfInBounds_toArray, List.set_cons_zero, List.set_cons_succ]
    refine wpAnyH_ready (rs := [9]) (by kernel_rfl) (by simp) ?_
    refine AllReadyH.cons rfl (fun K hK => ?_) AllReadyH.nil
    -- 9:  dst := some 26, op := Op.box 76 (Operand.tmp 25), type := 26
    go_simp
    have hz := H2.out.2.2.1.size
    have hz3 := H3.out.2.size
    have hA3 := H3.out.1.blk.lt
    have HS : Hid (NewSt w w3 w1.heap.size w2.heap.size (.slice A2 p.log.length n2) (.slice A3 p.wits.length n3) p) := Lib.hid ⟨(H1.out.2.trans (H2.out.2.2.1.mono H1.out.2.size)).trans (H3.out.2.mono (by omega)), (H2.out.1.below H3.out.2).mono (fun g hg => ⟨by have := hg.1; omega, by have := hg.2; omega, by have := hg.1; have := hg.2; omega, by have := hg.1; have := hg.2; omega⟩), (H2.out.2.1.below H3.out.2).mono (fun g hg => ⟨by have := hg.1; omega, by have := hg.2; omega, by have := hg.1; have := hg.2; omega, by have := hg.1; have := hg.2; omega⟩), H3.out.1, H2.out.2.2.2.2.below H3.out.2, by omega, by omega, by omega⟩
    refine hK.out _ _ ⟨by go_keep, by go_keep, by go_keep⟩ (fun hHeld9 => ?_)
    clear hK K
    try simp only [Act.put, List.setIfInBounds_toArray, List.set_cons_zero, List.set_cons_succ]
    refine take_yes 10 4 rfl rfl (by kernel_rfl) (by kernel_rfl) (by kernel_rfl) (fun _ _ _ h => h) (by assumption) (by rfl) (v := ?_) ?_ ?_
    rotate_left 1
    · (intro w hSw; (try dsimp only at hSw); go_simp; try with_reducible rfl)
    simp only [List.setIfInBounds_toArray, List.set_cons_zero, List.set_cons_succ]
    refine take_yes 11 5 rfl rfl (by kernel_rfl) (by kernel_rfl) (by kernel_rfl) (fun _ _ _ h => h) (by assumption) (by rfl) (v := ?_) ?_ ?_
    rotate_left 1
    · (intro w hSw; (try dsimp only at hSw); go_simp; try with_reducible rfl)
    simp only [List.setIfInBounds_toArray, List.set_cons_zero, List.set_cons_succ]
    refine wpAnyH_done (by kernel_rfl) ?_ _
    have HN := Lib.hid (new_ok (retry := retry) HS.out ((w3).alloc (.cells #[.slice A2 p.log.length n2, .slice A3 p.wits.length n3, .int .i64 p.quorum, .int .i64 retry, .pointer (some ⟨w2.heap.size, 0, none⟩), .slice (some ⟨w1.heap.size, 0, none⟩) p.wits.length p.wits.length, .int .i64 0, .slice none 0 0, .int .i64 0, .slice none 0 0, .slice none 0 0, .bool false, .slice none 0 0, .int .i64 0, .slice none 0 0, .int .i64 0, .slice none 0 0, .slice none 0 0, .slice none 0 0] 76)) (by simp [fdCells, fdNew, zeroR, zSg]))
    go_wp2
    go_ret2
    exact ⟨_, _, rfl, HN.out.1, fun g hg => hg, HN.out.2⟩
  case' w3_1 =>
    -- 1:  dst := some 18, op := Op.call  callee := Callee.value (Operand.func 26), args := #[Operand.tmp 17], argTypes := #[33] , type :
    go_simp
    go_at_call 26
    have hbb : Below w1.heap.size w1 (w1.drew) := (Below.refl w1.heap.size w1).drew
    refine (HP.out _ _ ⟨_, _, rfl, HX.out.1.below (H1.out.2.trans (hbb.mono H1.out.2.size)), HX.out.2.below (H1.out.2.trans (hbb.mono H1.out.2.size))⟩).mono ?_
    rintro e w2 ⟨v2, rfl, ⟨lv, wv, rfl, h2, h3⟩, h4⟩
    obtain ⟨A2, n2, rfl⟩ := h2.1.form
    obtain ⟨A3, n3, rfl⟩ := h3.rws.form
    have hb2 : Below w1.heap.size w1 w2 := hbb.trans (h4.mono hbb.size)
    have k0 := H1.out.1.below hb2
    have e0 := k0.cell 0 _ rfl
    have e1 := k0.cell 1 _ rfl
    have e2 := k0.cell 2 _ rfl
    have hbw2 : w.heap.size < w2.heap.size := k0.lt
    have hgz : (w1.drew).heap.size ≤ w2.heap.size := h4.size
    have H2 := Lib.hid (And.intro (show BysF (fun g => w1.heap.size ≤ g ∧ g < w2.heap.size) w2 _ p.log from h2) (And.intro (show RwsF (fun g => w1.heap.size ≤ g ∧ g < w2.heap.size) w2 _ p.wits from h3) (And.intro hb2 k0)))
    clear h2 h3 h4 hb2 k0 hbb
    go_wp2_with fail
    refine hK.out _ _ ⟨e0, e1, e2⟩ (fun hHeld1 => ?_)
    clear hK K
    try simp only [Act.put, List.setIfInBounds_toArray, List.set_cons_zero, List.set_cons_succ]
    refine wpAnyH_ready (rs := [3, 7]) (by kernel_rfl) (by simp) ?_
    refine AllReadyH.cons rfl (fun K hK => ?w3_1_3) (AllReadyH.cons rfl (fun K hK => ?w3_1_7) AllReadyH.nil)
    case' w3_1_7 =>
      -- 7:  dst := some 24, op := Op.makeSlice 74 (Operand.tmp 23) (Operand.tmp 23), type := 74
      go_simp
      have hbl := ((Below.refl w2.heap.size w2).alloc (Nat.le_refl _) (.cells (cellsW (List.replicate p.wits.length ⟨0, 0, false⟩)).toArray 87))
      have hkl := Blk.new w2 87 (cellsW (List.replicate p.wits.length ⟨0, 0, false⟩))
      have HBL := Lib.hid (And.intro hbl hkl)
      clear hbl hkl
      refine hK.out _ _ ⟨by go_keep, by go_keep, by go_keep⟩ (fun hHeld7 => ?_)
      clear hK K
      try simp only [Act.put, List.setIfInBounds_toArray, List.set_cons_zero, List.set_cons_succ]
      refine wpAnyH_ready (rs := [3]) (by kernel_rfl) (by simp) ?_
      refine AllReadyH.cons rfl (fun K hK => ?_) AllReadyH.nil
      -- 3:  dst := some 20, op := Op.call  callee := Callee.value (Operand.func 27), args := #[], argTypes := #[] , type := 72
      go_simp
      go_at_call 27
      refine (new_any _).mono ?_
      rintro e w3 ⟨rfl, h5, h6⟩
      have k0 := (H2.out.2.2.2.below HBL.out.1).below h6
      have i0 := k0.cell 0 _ rfl
      have i1 := k0.cell 1 _ rfl
      have i2 := k0.cell 2 _ rfl
      have hl3 : (w2.alloc (.cells (cellsW (List.replicate p.wits.length ⟨0, 0, false⟩)).toArray 87)).heap.size = w2.heap.size + 1 := by simp
      rw [hl3] at h5
      have H3 := Lib.hid (And.intro h5 (And.intro (HBL.out.1.trans (h6.mono HBL.out.1.size)) (HBL.out.2.below h6)))
      clear h5 h6 k0 hl3
      go_wp2_with fail
      refine hK.out _ _ ⟨i0, i1, i2⟩ (fun hHeld3 => ?_)
      clear hK K
      try simp only [Act.put, List.setIfInBounds_toArray, List.set_cons_zero, List.set_cons_succ]
      refine take_yes 8 25 rfl rfl (by kernel_rfl) (by kernel_rfl) (by kernel_rfl) (fun _ _ _ h => h) (by assumption) (by rfl) (v := ?_) ?_ ?_
      rotate_left 1
      · (intro w hSw; (try dsimp only at hSw); go_simp; try with_reducible rfl)
      simp only [List.setIfInBounds_toArray, List.set_cons_zero, List.set_cons_succ]
      refine wpAnyH_ready (rs := [9]) (by kernel_rfl) (by simp) ?_
      refine AllReadyH.cons rfl (fun K hK => ?_) AllReadyH.nil
      -- 9:  dst := some 26, op := Op.box 76 (Operand.tmp 25), type := 26
      go_simp
      have hz := H2.out.2.2.1.size
      have hz3 := H3.out.2.1.size
      have hA3 := H3.out.1.blk.lt
      have HS : Hid (NewSt w w3 w2.heap.size (w2.heap.size + 1) (.slice A2 p.log.length n2) (.slice A3 p.wits.length n3) p) := Lib.hid ⟨(H1.out.2.trans (H2.out.2.2.1.mono H1.out.2.size)).trans (H3.out.2.1.mono (by omega)), (H2.out.1.below H3.out.2.1).mono (fun g hg => ⟨by have := hg.1; omega, by have := hg.2; omega, by have := hg.1; have := hg.2; omega, by have := hg.1; have := hg.2; omega⟩), (H2.out.2.1.below H3.out.2.1).mono (fun g hg => ⟨by have := hg.1; omega, by have := hg.2; omega, by have := hg.1; have := hg.2; omega, by have := hg.1; have := hg.2; omega⟩), H3.out.1, H3.out.2.2, by omega, by omega, by omega⟩
      refine hK.out _ _ ⟨by go_keep, by go_keep, by go_keep⟩ (fun hHeld9 => ?_)
      clear hK K
      try simp only [Act.put, List.setIfInBounds_toArray, List.set_cons_zero, List.set_cons_succ]
      refine take_yes 10 4 rfl rfl (by kernel_rfl) (by kernel_rfl) (by kernel_rfl) (fun _ _ _ h => h) (by assumption) (by rfl) (v := ?_) ?_ ?_
      rotate_left 1
      · (intro w hSw; (try dsimp only at hSw); go_simp; try with_reducible rfl)
      simp only [List.setIfInBounds_toArray, List.set_cons_zero, List.set_cons_succ]
      refine take_yes 11 5 rfl rfl (by kernel_rfl) (by kernel_rfl) (by kernel_rfl) (fun _ _ _ h => h) (by assumption) (by rfl) (v := ?_) ?_ ?_
      rotate_left 1
      · (intro w hSw; (try dsimp only at hSw); go_simp; try with_reducible rfl)
      simp only [List.setIfInBounds_toArray, List.set_cons_zero, List.set_cons_succ]
      refine wpAnyH_done (by kernel_rfl) ?_ _
      have HN := Lib.hid (new_ok (retry := retry) HS.out ((w3).alloc (.cells #[.slice A2 p.log.length n2, .slice A3 p.wits.length n3, .int .i64 p.quorum, .int .i64 retry, .pointer (some ⟨w2.heap.size + 1, 0, none⟩), .slice (some ⟨w2.heap.size, 0, none⟩) p.wits.length p.wits.length, .int .i64 0, .slice none 0 0, .int .i64 0, .slice none 0 0, .slice none 0 0, .bool false, .slice none 0 0, .int .i64 0, .slice none 0 0, .int .i64 0, .slice none 0 0, .slice none 0 0, .slice none 0 0] 76)) (by simp [fdCells, fdNew, zeroR, zSg]))
      go_wp2
      go_ret2
      exact ⟨_, _, rfl, HN.out.1, fun g hg => hg, HN.out.2⟩
    case' w3_1_3 =>
      -- 3:  dst := some 20, op := Op.call  callee := Callee.value (Operand.func 27), args := #[], argTypes := #[] , type := 72
      go_simp
      go_at_call 27
      refine (new_any w2).mono ?_
      rintro e w3 ⟨rfl, h5, h6⟩
      have k0 := H2.out.2.2.2.below h6
      have i0 := k0.cell 0 _ rfl
      have i1 := k0.cell 1 _ rfl
      have i2 := k0.cell 2 _ rfl
      have H3 := Lib.hid (And.intro h5 h6)
      have hbw3 : w.heap.size < w3.heap.size := k0.lt
      clear h5 h6 k0
      go_wp2_with fail
      refine hK.out _ _ ⟨i0, i1, i2⟩ (fun hHeld3 => ?_)
      clear hK K
      try simp only [Act.put, List.setIfInBounds_toArray, List.set_cons_zero, List.set_cons_succ]
      refine wpAnyH_ready (rs := [7]) (by kernel_rfl) (by simp) ?_
      refine AllReadyH.cons rfl (fun K hK => ?_) AllReadyH.nil
      -- 7:  dst := some 24, op := Op.makeSlice 74 (Operand.tmp 23) (Operand.tmp 23), type := 74
      go_simp
      refine hK.out _ _ ⟨by go_keep, by go_keep, by go_keep⟩ (fun hHeld7 => ?_)
      clear hK K
      try simp only [Act.put, List.setIfInBounds_toArray, List.set_cons_zero, List.set_cons_succ]
      refine take_yes 8 25 rfl rfl (by kernel_rfl) (by kernel_rfl) (by kernel_rfl) (fun _ _ _ h => h) (by assumption) (by rfl) (v := ?_) ?_ ?_
      rotate_left 1
      · (intro w hSw; (try dsimp only at hSw); go_simp; try with_reducible rfl)
      simp only [List.setIfInBounds_toArray, List.set_cons_zero, List.set_cons_succ]
      refine wpAnyH_ready (rs := [9]) (by kernel_rfl) (by simp) ?_
      refine AllReadyH.cons rfl (fun K hK => ?_) AllReadyH.nil
      -- 9:  dst := some 26, op := Op.box 76 (Operand.tmp 25), type := 26
      go_simp
      have hz := H2.out.2.2.1.size
      have hz3 := H3.out.2.size
      have hA3 := H3.out.1.blk.lt
      have ha := (Below.refl w3.heap.size w3).alloc (Nat.le_refl _) (.cells (cellsW (List.replicate p.wits.length ⟨0, 0, false⟩)).toArray 87)
      have haz := ha.size
      have HS : Hid (NewSt w (w3.alloc (.cells (cellsW (List.replicate p.wits.length ⟨0, 0, false⟩)).toArray 87)) w3.heap.size w2.heap.size (.slice A2 p.log.length n2) (.slice A3 p.wits.length n3) p) := Lib.hid ⟨((H1.out.2.trans (H2.out.2.2.1.mono H1.out.2.size)).trans (H3.out.2.mono (by omega))).trans (ha.mono (by omega)), ((H2.out.1.below H3.out.2).below ha).mono (fun g hg => ⟨by have := hg.1; omega, by have := hg.2; omega, by have := hg.1; have := hg.2; omega, by have := hg.1; have := hg.2; omega⟩), ((H2.out.2.1.below H3.out.2).below ha).mono (fun g hg => ⟨by have := hg.1; omega, by have := hg.2; omega, by have := hg.1; have := hg.2; omega, by have := hg.1; have := hg.2; omega⟩), H3.out.1.below ha, Blk.new w3 87 (cellsW (List.replicate p.wits.length ⟨0, 0, false⟩)), by omega, by omega, by omega⟩
      refine hK.out _ _ ⟨by go_keep, by go_keep, by go_keep⟩ (fun hHeld9 => ?_)
      clear hK K
      try simp only [Act.put, List.setIfInBounds_toArray, List.set_cons_zero, List.set_cons_succ]
      refine take_yes 10 4 rfl rfl (by kernel_rfl) (by kernel_rfl) (by kernel_rfl) (fun _ _ _ h => h) (by assumption) (by rfl) (v := ?_) ?_ ?_
      rotate_left 1
      · (intro w hSw; (try dsimp only at hSw); go_simp; try with_reducible rfl)
      simp only [List.setIfInBounds_toArray, List.set_cons_zero, List.set_cons_succ]
      refine take_yes 11 5 rfl rfl (by kernel_rfl) (by kernel_rfl) (by kernel_rfl) (fun _ _ _ h => h) (by assumption) (by rfl) (v := ?_) ?_ ?_
      rotate_left 1
      · (intro w hSw; (try dsimp only at hSw); go_simp; try with_reducible rfl)
      simp only [List.setIfInBounds_toArray, List.set_cons_zero, List.set_cons_succ]
      refine wpAnyH_done (by kernel_rfl) ?_ _
      have hn := new_ok (retry := retry) HS.out ((w3.alloc (.cells (cellsW (List.replicate p.wits.length ⟨0, 0, false⟩)).toArray 87)).alloc (.cells #[.slice A2 p.log.length n2, .slice A3 p.wits.length n3, .int .i64 p.quorum, .int .i64 retry, .pointer (some ⟨w2.heap.size, 0, none⟩), .slice (some ⟨w3.heap.size, 0, none⟩) p.wits.length p.wits.length, .int .i64 0, .slice none 0 0, .int .i64 0, .slice none 0 0, .slice none 0 0, .bool false, .slice none 0 0, .int .i64 0, .slice none 0 0, .int .i64 0, .slice none 0 0, .slice none 0 0, .slice none 0 0] 76)) (by simp [fdCells, fdNew, zeroR, zSg])
      have hsz : (w3.alloc (.cells (cellsW (List.replicate p.wits.length ⟨0, 0, false⟩)).toArray 87)).heap.size = w3.heap.size + 1 := by simp
      rw [hsz] at hn
      have HN := Lib.hid hn
      clear hn hsz
      go_wp2
      go_ret2
      exact ⟨_, _, rfl, HN.out.1, fun g hg => hg, HN.out.2⟩
end Go.Proofs.Ytlkgeifmppadmaa
namespace Go.Proofs.Ytlkgeifmppadmaa
open Go.RowKit
set_option linter.unusedVariables false
set_option linter.unusedSimpArgs false

set_option maxRecDepth 100000 in
set_option maxHeartbeats 2000000 in
theorem pckverify_no (vp v : Value) (pub : List UInt8) (s : SgD) (hpub : pub.length ≤ 1000000000) (hr : s.ck.root.length ≤ 100000000) (hs : SmallSig s.sig) (w : World) (hvp : Bys w vp pub) (hv : SgV w v s) (hck0 : ckB s.ck = false) :
    Calls Try.prog 33 #[vp, v] w fun e w' => e = .returned (.bool (ckVerB pub s)) ∧ Below w.heap.size w w' := by
  obtain ⟨r, p, q, rfl, h1, h2, h3⟩ := hv
  obtain ⟨R, cr, rfl⟩ := h1.form
  obtain ⟨P, cp, rfl⟩ := h2.form
  obtain ⟨Q, cq, rfl⟩ := h3.form
  obtain ⟨U, cu, rfl⟩ := hvp.form
  have HX := Lib.hid (And.intro h1 (And.intro h2 (And.intro h3 hvp)))
  have HCV : Hid (ckVerB pub s = (ckB s.ck && verifyB pub (bodyS tagCk s.ck) s.sig)) := Lib.hid rfl
  have hbl := bodyS_length tagCk s.ck
  have HBL : Hid ((bodyS tagCk s.ck).length ≤ 1000000000) := Lib.hid (by have : tagCk.length = 16 := rfl; omega)
  clear h1 h2 h3 hvp hbl
  generalize ckVerB pub s = CV at *
  obtain ⟨⟨num, root⟩, sg⟩ := s
  have HCK0 := Lib.hid hck0
  clear hck0
  obtain ⟨hs1, hs2, hs3, hs4⟩ := hs
  have HS := Lib.hid (And.intro hs1 (And.intro hs2 (And.intro hs3 hs4)))
  clear hs1 hs2 hs3 hs4
  have hrl : root.length ≤ 1000000000 := by have : root.length ≤ 100000000 := hr; omega
  have HBD := Lib.hid (fun (wz : World) (v : Value) (hz : CkV wz v ⟨num, root⟩) => pckbody_any v ⟨num, root⟩ hr wz hz)
  have HRT := Lib.hid (fun (wz : World) (v : Value) (hz : CkV wz v ⟨num, root⟩) => pckright_any v ⟨num, root⟩ hrl wz hz)
  have HVF := Lib.hid (fun (wz : World) (vp vm v : Value) (z1 : Bys wz vp pub) (z2 : Bys wz vm (bodyS tagCk ⟨num, root⟩)) (z3 : SigV wz v sg) => pverify_any vp vm v pub (bodyS tagCk ⟨num, root⟩) sg hpub HBL.out HS.out.1 HS.out.2.1 wz z1 z2 z3)
  obtain ⟨ix, Ps, Qs⟩ := sg
  go_enter Try.func33, Try.ntmps33
  have hk0 := Blk.new w 40 [.int .i64 num, .slice R root.length cr, .int .i64 ix, .slice P Ps.length cp, .slice Q Qs.length cq]
  have hb0 : Below w.heap.size w (w.alloc (.cells #[.int .i64 num, .slice R root.length cr, .int .i64 ix, .slice P Ps.length cp, .slice Q Qs.length cq] 40)) := (Below.refl w.heap.size w).alloc (Nat.le_refl _) _
  have HW := Lib.hid (And.intro hk0 hb0)
  clear hk0 hb0
  have HCB : Hid (ckB ⟨num, root⟩ = ckB ⟨num, root⟩) := Lib.hid rfl
  generalize hvb : verifyB pub (bodyS tagCk ⟨num, root⟩) ⟨ix, Ps, Qs⟩ = VB at *
  generalize hbo : bodyS tagCk ⟨num, root⟩ = BO at *
  clear hvb hbo HCB
  have hck' : ckB ⟨num, root⟩ = false := HCK0.out
  rw [hck'] at HCV HRT
  go_wp2
  refine code_at (fun w1 => Blk w1 w.heap.size 40 [.int .i64 num, .slice R root.length cr, .int .i64 ix, .slice P Ps.length cp, .slice Q Qs.length cq] ∧ Below w.heap.size w w1) HW.out ?_
  intro w1 hw1
  have HW1 := Lib.hid hw1
  clear hw1 HW
  have hwlt := HW1.out.1.lt
  have hw1 := HW1.out.2.size
  have c0 := HW1.out.1.cell 0 _ rfl
  have c1 := HW1.out.1.cell 1 _ rfl
  refine wp_region_held_drew (S := (fun w' => w'.cell? ⟨w.heap.size, 0, none⟩ = some (.int .i64 num) ∧ w'.cell? ⟨w.heap.size, 1, none⟩ = some (.slice R root.length cr))) (by kernel_rfl) ?_ (fun hHeld => ?_)
  · exact ⟨c0, c1⟩
  refine take_yes 0 5 rfl rfl (by kernel_rfl) (by kernel_rfl) (by kernel_rfl) (fun _ _ _ h => h) (by assumption) (by rfl) (v := ?_) ?_ ?_
  rotate_left 1
  · (intro w hSw; (try dsimp only at hSw); go_simp; try with_reducible rfl)
  simp only [List.setIfInBounds_toArray, List.set_cons_zero, List.set_cons_succ]
  refine take_yes 1 6 rfl rfl (by kernel_rfl) (by kernel_rfl) (by kernel_rfl) (fun _ _ _ h => h) (by assumption) (by rfl) (v := ?_) ?_ ?_
  rotate_left 1
  · (intro w hSw; (try dsimp only at hSw); go_simp; try with_reducible rfl)
  simp only [List.setIfInBounds_toArray, List.set_cons_zero, List.set_cons_succ]
  refine wpAnyH_ready (rs := [2]) (by kernel_rfl) (by simp) ?_
  refine AllReadyH.cons rfl (fun K hK => ?_) AllReadyH.nil
  (go_simp; go_at_call 54; refine (HRT.out w1.drew _ ⟨_, rfl, HX.out.1.below HW1.out.2.drew⟩).mono ?_; rintro e w2 ⟨rfl, h2⟩; have hb2 : Below w1.heap.size w1 w2 := ⟨h2.os, h2.tape, h2.output, h2.size, h2.block⟩; have d0 := (hb2.cell (p := ⟨w.heap.size, 0, none⟩) hwlt).trans c0; have d1 := (hb2.cell (p := ⟨w.heap.size, 1, none⟩) hwlt).trans c1; have H2 := Lib.hid hb2; clear h2 hb2)
  go_wp2_with fail
  refine hK.out _ _ ⟨d0, d1⟩ (fun hHeld2 => ?_)
  clear hK K
  try simp only [Act.put, List.setIfInBounds_toArray, List.set_cons_zero, List.set_cons_succ]
  refine take_yes 3 8 rfl rfl (by kernel_rfl) (by kernel_rfl) (by kernel_rfl) (fun _ _ _ h => h) (by assumption) (by rfl) (v := ?_) ?_ ?_
  rotate_left 1
  · (intro w hSw; (try dsimp only at hSw); go_simp; try with_reducible rfl)
  simp only [List.setIfInBounds_toArray, List.set_cons_zero, List.set_cons_succ]
  refine take_no 4 9 rfl rfl (by kernel_rfl) (by kernel_rfl) (by kernel_rfl) (fun _ _ _ h => h) (by assumption) (by rfl) ?_
  simp only [List.setIfInBounds_toArray, List.set_cons_zero, List.set_cons_succ]
  refine take_no 5 10 rfl rfl (by kernel_rfl) (by kernel_rfl) (by kernel_rfl) (fun _ _ _ h => h) (by assumption) (by rfl) ?_
  simp only [List.setIfInBounds_toArray, List.set_cons_zero, List.set_cons_succ]
  refine take_no 6 11 rfl rfl (by kernel_rfl) (by kernel_rfl) (by kernel_rfl) (fun _ _ _ h => h) (by assumption) (by rfl) ?_
  simp only [List.setIfInBounds_toArray, List.set_cons_zero, List.set_cons_succ]
  refine take_no 7 12 rfl rfl (by kernel_rfl) (by kernel_rfl) (by kernel_rfl) (fun _ _ _ h => h) (by assumption) (by rfl) ?_
  simp only [List.setIfInBounds_toArray, List.set_cons_zero, List.set_cons_succ]
  refine take_no 8 13 rfl rfl (by kernel_rfl) (by kernel_rfl) (by kernel_rfl) (fun _ _ _ h => h) (by assumption) (by rfl) ?_
  simp only [List.setIfInBounds_toArray, List.set_cons_zero, List.set_cons_succ]
  refine take_no 9 14 rfl rfl (by kernel_rfl) (by kernel_rfl) (by kernel_rfl) (fun _ _ _ h => h) (by assumption) (by rfl) ?_
  simp only [List.setIfInBounds_toArray, List.set_cons_zero, List.set_cons_succ]
  refine take_no 10 15 rfl rfl (by kernel_rfl) (by kernel_rfl) (by kernel_rfl) (fun _ _ _ h => h) (by assumption) (by rfl) ?_
  simp only [List.setIfInBounds_toArray, List.set_cons_zero, List.set_cons_succ]
  refine take_yes 11 16 rfl rfl (by kernel_rfl) (by kernel_rfl) (by kernel_rfl) (fun _ _ _ h => h) (by assumption) (by rfl) (v := ?_) ?_ ?_
  rotate_left 1
  · (intro w hSw; (try dsimp only at hSw); go_simp; try with_reducible rfl)
  simp only [List.setIfInBounds_toArray, List.set_cons_zero, List.set_cons_succ]
  refine take_yes 12 4 rfl rfl (by kernel_rfl) (by kernel_rfl) (by kernel_rfl) (fun _ _ _ h => h) (by assumption) (by rfl) (v := ?_) ?_ ?_
  rotate_left 1
  · (intro w hSw; (try dsimp only at hSw); go_simp; try with_reducible rfl)
  simp only [List.setIfInBounds_toArray, List.set_cons_zero, List.set_cons_succ]
  refine wpAnyH_done (by kernel_rfl) ?_ _
  all_goals
    go_wp2
    go_ret
    exact ⟨by rw [HCV.out]; rfl, HW1.out.2.trans (H2.out.mono hw1)⟩

set_option maxRecDepth 100000 in
set_option maxHeartbeats 2000000 in
theorem pckverify_yes (vp v : Value) (pub : List UInt8) (s : SgD) (hpub : pub.length ≤ 1000000000) (hr : s.ck.root.length ≤ 100000000) (hs : SmallSig s.sig) (w : World) (hvp : Bys w vp pub) (hv : SgV w v s) (hck0 : ckB s.ck = true) :
    Calls Try.prog 33 #[vp, v] w fun e w' => e = .returned (.bool (ckVerB pub s)) ∧ Below w.heap.size w w' := by
  obtain ⟨r, p, q, rfl, h1, h2, h3⟩ := hv
  obtain ⟨R, cr, rfl⟩ := h1.form
  obtain ⟨P, cp, rfl⟩ := h2.form
  obtain ⟨Q, cq, rfl⟩ := h3.form
  obtain ⟨U, cu, rfl⟩ := hvp.form
  have HX := Lib.hid (And.intro h1 (And.intro h2 (And.intro h3 hvp)))
  have HCV : Hid (ckVerB pub s = (ckB s.ck && verifyB pub (bodyS tagCk s.ck) s.sig)) := Lib.hid rfl
  have hbl := bodyS_length tagCk s.ck
  have HBL : Hid ((bodyS tagCk s.ck).length ≤ 1000000000) := Lib.hid (by have : tagCk.length = 16 := rfl; omega)
  clear h1 h2 h3 hvp hbl
  generalize ckVerB pub s = CV at *
  obtain ⟨⟨num, root⟩, sg⟩ := s
  have HCK0 := Lib.hid hck0
  clear hck0
  obtain ⟨hs1, hs2, hs3, hs4⟩ := hs
  have HS := Lib.hid (And.intro hs1 (And.intro hs2 (And.intro hs3 hs4)))
  clear hs1 hs2 hs3 hs4
  have hrl : root.length ≤ 1000000000 := by have : root.length ≤ 100000000 := hr; omega
  have HBD := Lib.hid (fun (wz : World) (v : Value) (hz : CkV wz v ⟨num, root⟩) => pckbody_any v ⟨num, root⟩ hr wz hz)
  have HRT := Lib.hid (fun (wz : World) (v : Value) (hz : CkV wz v ⟨num, root⟩) => pckright_any v ⟨num, root⟩ hrl wz hz)
  have HVF := Lib.hid (fun (wz : World) (vp vm v : Value) (z1 : Bys wz vp pub) (z2 : Bys wz vm (bodyS tagCk ⟨num, root⟩)) (z3 : SigV wz v sg) => pverify_any vp vm v pub (bodyS tagCk ⟨num, root⟩) sg hpub HBL.out HS.out.1 HS.out.2.1 wz z1 z2 z3)
  obtain ⟨ix, Ps, Qs⟩ := sg
  go_enter Try.func33, Try.ntmps33
  have hk0 := Blk.new w 40 [.int .i64 num, .slice R root.length cr, .int .i64 ix, .slice P Ps.length cp, .slice Q Qs.length cq]
  have hb0 : Below w.heap.size w (w.alloc (.cells #[.int .i64 num, .slice R root.length cr, .int .i64 ix, .slice P Ps.length cp, .slice Q Qs.length cq] 40)) := (Below.refl w.heap.size w).alloc (Nat.le_refl _) _
  have HW := Lib.hid (And.intro hk0 hb0)
  clear hk0 hb0
  have HCB : Hid (ckB ⟨num, root⟩ = ckB ⟨num, root⟩) := Lib.hid rfl
  generalize hvb : verifyB pub (bodyS tagCk ⟨num, root⟩) ⟨ix, Ps, Qs⟩ = VB at *
  generalize hbo : bodyS tagCk ⟨num, root⟩ = BO at *
  clear hvb hbo HCB
  have hck : ckB ⟨num, root⟩ = true := HCK0.out
  rw [hck] at HCV HRT
  go_wp2
  refine code_at (fun w1 => Blk w1 w.heap.size 40 [.int .i64 num, .slice R root.length cr, .int .i64 ix, .slice P Ps.length cp, .slice Q Qs.length cq] ∧ Below w.heap.size w w1) HW.out ?_
  intro w1 hw1
  have HW1 := Lib.hid hw1
  clear hw1 HW
  have hwlt := HW1.out.1.lt
  have hw1 := HW1.out.2.size
  have c0 := HW1.out.1.cell 0 _ rfl
  have c1 := HW1.out.1.cell 1 _ rfl
  have c2 := HW1.out.1.cell 2 _ rfl
  have c3 := HW1.out.1.cell 3 _ rfl
  have c4 := HW1.out.1.cell 4 _ rfl
  go_region_held3 (fun w' => w'.cell? ⟨w.heap.size, 0, none⟩ = some (.int .i64 num) ∧ w'.cell? ⟨w.heap.size, 1, none⟩ = some (.slice R root.length cr) ∧ w'.cell? ⟨w.heap.size, 2, none⟩ = some (.int .i64 ix) ∧ w'.cell? ⟨w.heap.size, 3, none⟩ = some (.slice P Ps.length cp) ∧ w'.cell? ⟨w.heap.size, 4, none⟩ = some (.slice Q Qs.length cq))
    (first
      | go_keep
      | exact ⟨c0, c1, c2, c3, c4⟩
      | exact ⟨d0, d1, d2, d3, d4⟩
      | exact ⟨e0, e1, e2, e3, e4⟩
      | exact ⟨g0, g1, g2, g3, g4⟩)
    (first
      | (go_simp; go_at_call 54; refine (HRT.out w1.drew _ ⟨_, rfl, HX.out.1.below HW1.out.2.drew⟩).mono ?_; rintro e w2 ⟨rfl, h2⟩; have hb2 : Below w1.heap.size w1 w2 := ⟨h2.os, h2.tape, h2.output, h2.size, h2.block⟩; have d0 := (hb2.cell (p := ⟨w.heap.size, 0, none⟩) hwlt).trans c0; have d1 := (hb2.cell (p := ⟨w.heap.size, 1, none⟩) hwlt).trans c1; have d2 := (hb2.cell (p := ⟨w.heap.size, 2, none⟩) hwlt).trans c2; have d3 := (hb2.cell (p := ⟨w.heap.size, 3, none⟩) hwlt).trans c3; have d4 := (hb2.cell (p := ⟨w.heap.size, 4, none⟩) hwlt).trans c4; have H2 := Lib.hid hb2; clear h2 hb2)
      | (go_simp; go_at_call 56; refine (HBD.out w2 _ ⟨_, rfl, HX.out.1.below (HW1.out.2.trans (H2.out.mono hw1))⟩).mono ?_; rintro e w3 ⟨v3, rfl, h3, h4⟩; obtain ⟨A3, k3, rfl⟩ := h3.form; have hb3 := H2.out.trans (h4.mono H2.out.size); have e0 := (hb3.cell (p := ⟨w.heap.size, 0, none⟩) hwlt).trans c0; have e1 := (hb3.cell (p := ⟨w.heap.size, 1, none⟩) hwlt).trans c1; have e2 := (hb3.cell (p := ⟨w.heap.size, 2, none⟩) hwlt).trans c2; have e3 := (hb3.cell (p := ⟨w.heap.size, 3, none⟩) hwlt).trans c3; have e4 := (hb3.cell (p := ⟨w.heap.size, 4, none⟩) hwlt).trans c4; have H3 := Lib.hid (And.intro h3 hb3); clear h3 h4 hb3)
      | (go_simp; go_at_call 55; refine (HVF.out w3 _ _ _ (HX.out.2.2.2.below (HW1.out.2.trans (H3.out.2.mono hw1))) H3.out.1 ⟨_, _, rfl, HX.out.2.1.below (HW1.out.2.trans (H3.out.2.mono hw1)), HX.out.2.2.1.below (HW1.out.2.trans (H3.out.2.mono hw1))⟩).mono ?_; rintro e w4 ⟨rfl, h4⟩; have hb4 := H3.out.2.trans (h4.mono H3.out.2.size); have g0 := (hb4.cell (p := ⟨w.heap.size, 0, none⟩) hwlt).trans c0; have g1 := (hb4.cell (p := ⟨w.heap.size, 1, none⟩) hwlt).trans c1; have g2 := (hb4.cell (p := ⟨w.heap.size, 2, none⟩) hwlt).trans c2; have g3 := (hb4.cell (p := ⟨w.heap.size, 3, none⟩) hwlt).trans c3; have g4 := (hb4.cell (p := ⟨w.heap.size, 4, none⟩) hwlt).trans c4; have H4 := Lib.hid hb4; clear h4 hb4))
  go_wp2
  go_ret
  exact ⟨by rw [HCV.out]; rfl, HW1.out.2.trans (H4.out.mono hw1)⟩

theorem pckverify_any (vp v : Value) (pub : List UInt8) (s : SgD) (hpub : pub.length ≤ 1000000000) (hr : s.ck.root.length ≤ 100000000) (hs : SmallSig s.sig) (w : World) (hvp : Bys w vp pub) (hv : SgV w v s) :
    Calls Try.prog 33 #[vp, v] w fun e w' => e = .returned (.bool (ckVerB pub s)) ∧ Below w.heap.size w w' := by
  cases h : ckB s.ck with
  | true => exact pckverify_yes vp v pub s hpub hr hs w hvp hv h
  | false => exact pckverify_no vp v pub s hpub hr hs w hvp hv h
end Go.Proofs.Ytlkgeifmppadmaa
