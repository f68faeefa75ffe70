/- A feeder's own copy of its policy. The program's cosignatures: Verify. The reference's policies. The reference's cosignatures: Cosigned. Heaps of entries, as lists: plain mathematics, no program. The agenda's inner functions: before, and the heap's five methods over a pile. Conditions: as each theorem states them. -/
import Derived.Test.YtlkgeifmppadmaaGreatKd
import Derived.Test.YtlkgeifmppadmaaGreatKc
import Derived.Deep.RegionLaw
import Derived.Deep.RegionHeld
import Derived.Lib.Hide
import Derived.Test.YtlkgeifmppadmaaGreatKa
import Derived.Test.YtlkgeifmppadmaaGreatProg
import Derived.KernelRfl
import Derived.Deep.QuietTactic
import Derived.BigQuiet
import Derived.BigRegion
import Derived.RegionTactic
import Derived.StillTailTactics
import Derived.Laws.StructEq
import Derived.Deep.AppendLies
import Derived.WalkSpells
import Derived.WalkLawsBesides
namespace Go.Proofs.YtlkgeifmppadmaaGreat
open Go.RowKit
set_option linter.unusedVariables false
set_option linter.unusedSimpArgs false

theorem far3 (w : World) (b : Nat) (u0 u1 u2 : Value) (a : Addr) (h : b ≠ a.block) : (((w.setCell ⟨b, 0, none⟩ u0).setCell ⟨b, 1, none⟩ u1).setCell ⟨b, 2, none⟩ u2).cell? a = w.cell? a := by
 rw [World.cell?_setCell_far _ _ _ _ h, World.cell?_setCell_far _ _ _ _ h, World.cell?_setCell_far _ _ _ _ h]
theorem under_policy : Tryz.prog.underlying 29 = some (.struct (Tryz.prog.fieldsOf 29)) := by kernel_rfl
theorem size_policy : (Tryz.prog.info? 29).map (·.size) = some 3 := by kernel_rfl
def RetPol (w : World) (p : PolD) (e : Ending) (w' : World) : Prop := ∃ v, e = .returned v ∧ PolF (Fresh w w') w' v p ∧ Below w.heap.size w w'
def SmallPol (p : PolD) : Prop := p.log.length ≤ 1000000000 ∧ p.wits.length ≤ 1000000000 ∧ (∀ i (h : i < p.wits.length), p.wits[i].length ≤ 1000000000) ∧ -1000000000 ≤ p.quorum ∧ p.quorum ≤ 1000000000
theorem OwnR.chgT {w w1 : World} {base : Nat} {v : Value} {ls : List (List UInt8)} {T : Nat → Prop} (h : OwnR w base v ls) (hc : Chg w w1 T) (hT : ∀ g, base ≤ g → g < w.heap.size → ¬ T g) : OwnR w1 base v ls := by
 have hf := h.foot
 obtain ⟨us, h1, h2⟩ := h
 refine ⟨us, ownsRow_chg h1 hc (fun k hk => hT k (World.ownsRow.lt h1 k hk).1 (World.ownsRow.lt h1 k hk).2), fun i hi => ?_⟩
 obtain ⟨u, e, hu, hn⟩ := h2 i hi
 exact ⟨u, e, Sho.chgF hu (S := fun g => base ≤ g ∧ g < w.heap.size) (fun h0 g hg => ⟨(hn h0).2 g hg, Sho.lt hu h0 g hg⟩) hc (fun g hg => hT g hg.1 hg.2), hn⟩
def PolSt (w0 W wr : World) (C : Nat) (lv : Value) (q : Int) (ls : List (List UInt8)) : Prop :=
 Chg W wr (fun k => k = C ∨ W.heap.size ≤ k) ∧ ∃ rv, Blk wr C 29 [lv, rv, .int .i64 q] ∧ OwnR wr W.heap.size rv ls
set_option maxRecDepth 100000 in
set_option maxHeartbeats 8000000 in
theorem fpolicy_any (v : Value) (p : PolD) (hs : SmallPol p) (w : World) (hv : PolV w v p) :
    Calls Tryz.prog 22 #[v] w (RetPol w p) := by
  obtain ⟨i0, hi0, hz0, hz1, hz2⟩ := info_parts info_bytes
  obtain ⟨l, ws, rfl, h1, h2⟩ := hv
  obtain ⟨L, cl, rfl⟩ := h1.form
  obtain ⟨R, cr, rfl⟩ := h2.form
  have HX := Lib.hid (And.intro h1 h2)
  clear h1 h2
  obtain ⟨log, wits, q⟩ := p
  obtain ⟨hs1, hs2, hs3, hs4, hs5⟩ := hs
  change log.length ≤ 1000000000 at hs1
  change wits.length ≤ 1000000000 at hs2
  change ∀ i (h : i < wits.length), wits[i].length ≤ 1000000000 at hs3
  change -1000000000 ≤ q at hs4
  change q ≤ 1000000000 at hs5
  have HC1 := Lib.hid (fun wz hz => clone_any (.slice L log.length cl) log (show log.length ≤ 1000000000000 by omega) wz hz)
  have HC2 := Lib.hid (fun (i : Nat) (hi : i < wits.length) (u : Value) (wz : World) (hz : Bys wz u wits[i]) => clone_any u wits[i] (show wits[i].length ≤ 1000000000000 by have := hs3 i hi; omega) wz hz)
  have HS3 := Lib.hid hs3
  clear hs3
  obtain ⟨k0, k1, kb⟩ := two_of (w := w) [.slice L log.length cl, .slice R wits.length cr, .int .i64 q] [.slice none 0 0, .slice none 0 0, .int .i64 0] 29 29
  have HW := Lib.hid (And.intro k0 (And.intro k1 kb))
  clear k0 k1 kb
  go_enter Tryz.func22, Tryz.ntmps22
  go_wp2
  refine code_at (fun w1 => Blk w1 w.heap.size 29 [.slice L log.length cl, .slice R wits.length cr, .int .i64 q] ∧ Blk w1 (w.heap.size + 1) 29 [.slice none 0 0, .slice none 0 0, .int .i64 0] ∧ Below w.heap.size w w1) HW.out ?_
  rintro w1 ⟨k0, k1, kb⟩
  have H1 := Lib.hid (And.intro k0 (And.intro k1 kb))
  have c0 := k0.cell 0 _ rfl
  have c1 := k0.cell 1 _ rfl
  have c2 := k0.cell 2 _ rfl
  have hsz1 := k1.lt
  clear k0 k1 kb HW
  refine wp_region_held_drew (S := fun w' => w'.cell? ⟨w.heap.size, 0, none⟩ = some (.slice L log.length cl) ∧ w'.cell? ⟨w.heap.size, 2, none⟩ = some (.int .i64 q)) (by kernel_rfl) ?_ (fun hHeld => ?_)
  · exact ⟨c0, c2⟩
  refine ty 0 6 rfl rfl ?_; simp only [sa, sb, sc]
  refine ty 1 7 rfl rfl ?_; simp only [sa, sb, sc]
  refine ty 3 9 rfl rfl ?_; simp only [sa, sb, sc]
  refine ty 4 10 rfl rfl ?_; simp only [sa, sb, sc]
  refine wpAnyH_ready (rs := [2, 6]) (by kernel_rfl) (by simp) ?_
  refine AllReadyH.cons rfl (fun K hK => ?w1_2) (AllReadyH.cons rfl (fun K hK => ?w1_6) AllReadyH.nil)
  case' w1_6 =>
    go_simp
    have hba := ((Below.refl w1.heap.size w1).alloc (Nat.le_refl _) (.cells #[.slice none 0 0, .slice none 0 0, .int .i64 0] 29)).drew
    have hkc : Blk (w1.alloc (.cells #[.slice none 0 0, .slice none 0 0, .int .i64 0] 29)).drew w1.heap.size 29 [.slice none 0 0, .slice none 0 0, .int .i64 0] := (Blk.new w1 29 [.slice none 0 0, .slice none 0 0, .int .i64 0]).drew
    have HBA := Lib.hid (And.intro hba hkc)
    clear hba hkc
    refine hK.out _ _ ⟨by go_keep, by go_keep⟩ (fun hHeld6 => ?_)
    clear hK K; try simp only [Act.put, sa, sb, sc]
    refine rd 2 (by kernel_rfl) rfl (fun K hK => ?_)
    go_simp
    go_at_call 49
    refine (HC1.out _ (HX.out.1.below ((H1.out.2.2.trans (HBA.out.1.mono H1.out.2.2.size))))).mono ?_
    rintro e w2 ⟨v2, rfl, h2, h3⟩
    obtain ⟨A2, n2, rfl⟩ := h2.form
    have hz3 : w1.heap.size + 1 ≤ w2.heap.size := by have := h3.size; simpa using this
    have hf2 : BysF (fun g => w1.heap.size + 1 ≤ g ∧ g < w2.heap.size) w2 (.slice A2 log.length n2) log := h2.foot.mono (fun g hg => ⟨by have := hg.1; simpa using this, hg.2⟩)
    have hb2 : Below w1.heap.size w1 w2 := HBA.out.1.trans (h3.mono HBA.out.1.size)
    have hkc := HBA.out.2.below h3
    have k0 := H1.out.1.below hb2
    have e0 := k0.cell 0 _ rfl
    have e2 := k0.cell 2 _ rfl
    have j0 := hkc.cell 0 _ rfl
    have j1 := hkc.cell 1 _ rfl
    have j2 := hkc.cell 2 _ rfl
    have g0 := hkc.free 0
    have g1 := hkc.free 1
    have g2 := hkc.free 2
    have H2 := Lib.hid (And.intro hf2 (And.intro hb2 (And.intro k0 hkc)))
    clear h2 h3 hb2 k0 hkc hf2
    go_wp2_with fail
    refine hK.out _ _ ⟨e0, e2⟩ (fun hHeld2 => ?_)
    clear hK K; try simp only [Act.put, sa, sb, sc]
    refine ty 5 11 rfl rfl ?_; simp only [sa, sb, sc]
    refine rd 7 (by kernel_rfl) rfl (fun K hK => ?_)
    go_simp
    refine hK.out _ _ ⟨(far3 w2 w1.heap.size _ _ _ ⟨w.heap.size, 0, none⟩ (by show w1.heap.size ≠ w.heap.size; omega)).trans e0, (far3 w2 w1.heap.size _ _ _ ⟨w.heap.size, 2, none⟩ (by show w1.heap.size ≠ w.heap.size; omega)).trans e2⟩ (fun hHeld7 => ?_)
    clear hK K; try simp only [Act.put, sa, sb, sc]
    refine wpAnyH_done (by kernel_rfl) ?_ _
    have HR : Hid (Below w.heap.size w (((w2.setCell ⟨w1.heap.size, 0, none⟩ (.slice A2 log.length n2)).setCell ⟨w1.heap.size, 1, none⟩ (.slice none 0 0)).setCell ⟨w1.heap.size, 2, none⟩ (.int .i64 q)) ∧ Blk (((w2.setCell ⟨w1.heap.size, 0, none⟩ (.slice A2 log.length n2)).setCell ⟨w1.heap.size, 1, none⟩ (.slice none 0 0)).setCell ⟨w1.heap.size, 2, none⟩ (.int .i64 q)) (w.heap.size + 1) 29 [.slice none 0 0, .slice none 0 0, .int .i64 0] ∧ Blk (((w2.setCell ⟨w1.heap.size, 0, none⟩ (.slice A2 log.length n2)).setCell ⟨w1.heap.size, 1, none⟩ (.slice none 0 0)).setCell ⟨w1.heap.size, 2, none⟩ (.int .i64 q)) w.heap.size 29 [.slice L log.length cl, .slice R wits.length cr, .int .i64 q] ∧ Blk (((w2.setCell ⟨w1.heap.size, 0, none⟩ (.slice A2 log.length n2)).setCell ⟨w1.heap.size, 1, none⟩ (.slice none 0 0)).setCell ⟨w1.heap.size, 2, none⟩ (.int .i64 q)) w1.heap.size 29 [.slice A2 log.length n2, .slice none 0 0, .int .i64 q] ∧ BysF (fun g => w.heap.size + 1 < g ∧ g ≠ w1.heap.size ∧ g < (((w2.setCell ⟨w1.heap.size, 0, none⟩ (.slice A2 log.length n2)).setCell ⟨w1.heap.size, 1, none⟩ (.slice none 0 0)).setCell ⟨w1.heap.size, 2, none⟩ (.int .i64 q)).heap.size) (((w2.setCell ⟨w1.heap.size, 0, none⟩ (.slice A2 log.length n2)).setCell ⟨w1.heap.size, 1, none⟩ (.slice none 0 0)).setCell ⟨w1.heap.size, 2, none⟩ (.int .i64 q)) (.slice A2 log.length n2) log ∧ w.heap.size + 1 < w1.heap.size) :=
      have hz := H2.out.2.1.size
      have hc : Chg w2 (((w2.setCell ⟨w1.heap.size, 0, none⟩ (.slice A2 log.length n2)).setCell ⟨w1.heap.size, 1, none⟩ (.slice none 0 0)).setCell ⟨w1.heap.size, 2, none⟩ (.int .i64 q)) (fun k => k = w1.heap.size) := chg_cell (chg_cell (chg_cell (Chg.refl w2 _) 0 _) 1 _) 2 _
      Lib.hid ⟨(H1.out.2.2.trans (H2.out.2.1.mono H1.out.2.2.size)).trans (hc.below (by have := H1.out.2.2.size; omega) (fun k hk => by omega)), (H1.out.2.1.below H2.out.2.1).chg hc (by omega), H2.out.2.2.1.chg hc (by omega), ((H2.out.2.2.2.set 0 _ (by simp)).set 1 _ (by simp)).set 2 _ (by simp), (H2.out.1.chg hc (fun g hg e => by have := hg.1; omega)).mono (fun g hg => ⟨by have := hg.1; omega, by have := hg.1; omega, by have := hg.2; have := hc.size; omega⟩), hsz1⟩
    generalize ((w2.setCell ⟨w1.heap.size, 0, none⟩ (.slice A2 log.length n2)).setCell ⟨w1.heap.size, 1, none⟩ (.slice none 0 0)).setCell ⟨w1.heap.size, 2, none⟩ (.int .i64 q) = W at *
    generalize w1.heap.size = C at *
    clear H1 H2 HBA hHeld hHeld2 hHeld6 hHeld7 e0 e2 c0 c1 c2 j0 j1 j2 g0 g1 g2 hz3
  case' w1_2 =>
    go_simp
    go_at_call 49
    refine (HC1.out w1.drew (HX.out.1.below H1.out.2.2.drew)).mono ?_
    rintro e w2 ⟨v2, rfl, h2, h3⟩
    obtain ⟨A2, n2, rfl⟩ := h2.form
    have hb2 : Below w1.heap.size w1 w2 := ⟨h3.os, h3.tape, h3.output, h3.size, h3.block⟩
    have k0 := H1.out.1.below hb2
    have e0 := k0.cell 0 _ rfl
    have e2 := k0.cell 2 _ rfl
    have hbw2 : w.heap.size < w2.heap.size := k0.lt
    have H2 := Lib.hid (And.intro (show BysF (fun g => w1.heap.size ≤ g ∧ g < w2.heap.size) w2 _ log from h2.foot) (And.intro hb2 k0))
    clear h2 h3 hb2 k0
    go_wp2_with fail
    refine hK.out _ _ ⟨e0, e2⟩ (fun hHeld2 => ?_)
    clear hK K; try simp only [Act.put, sa, sb, sc]
    refine ty 5 11 rfl rfl ?_; simp only [sa, sb, sc]
    refine rd 6 (by kernel_rfl) rfl (fun K hK => ?_)
    go_simp
    refine hK.out _ _ ⟨by go_keep, by go_keep⟩ (fun hHeld6 => ?_)
    clear hK K; try simp only [Act.put, sa, sb, sc]
    refine rd 7 (by kernel_rfl) rfl (fun K hK => ?_)
    go_simp
    refine hK.out _ _ ⟨by go_keep, by go_keep⟩ (fun hHeld7 => ?_)
    clear hK K; try simp only [Act.put, sa, sb, sc]
    refine wpAnyH_done (by kernel_rfl) ?_ _
    have HR : Hid (Below w.heap.size w (w2.alloc (.cells #[.slice A2 log.length n2, .slice none 0 0, .int .i64 q] 29)) ∧ Blk (w2.alloc (.cells #[.slice A2 log.length n2, .slice none 0 0, .int .i64 q] 29)) (w.heap.size + 1) 29 [.slice none 0 0, .slice none 0 0, .int .i64 0] ∧ Blk (w2.alloc (.cells #[.slice A2 log.length n2, .slice none 0 0, .int .i64 q] 29)) w.heap.size 29 [.slice L log.length cl, .slice R wits.length cr, .int .i64 q] ∧ Blk (w2.alloc (.cells #[.slice A2 log.length n2, .slice none 0 0, .int .i64 q] 29)) w2.heap.size 29 [.slice A2 log.length n2, .slice none 0 0, .int .i64 q] ∧ BysF (fun g => w.heap.size + 1 < g ∧ g ≠ w2.heap.size ∧ g < (w2.alloc (.cells #[.slice A2 log.length n2, .slice none 0 0, .int .i64 q] 29)).heap.size) (w2.alloc (.cells #[.slice A2 log.length n2, .slice none 0 0, .int .i64 q] 29)) (.slice A2 log.length n2) log ∧ w.heap.size + 1 < w2.heap.size) :=
      have hz := H2.out.2.1.size
      have ha := (Below.refl w2.heap.size w2).alloc (Nat.le_refl _) (.cells #[.slice A2 log.length n2, .slice none 0 0, .int .i64 q] 29)
      Lib.hid ⟨(H1.out.2.2.trans (H2.out.2.1.mono H1.out.2.2.size)).trans (ha.mono (by have := H1.out.2.2.size; omega)), (H1.out.2.1.below H2.out.2.1).below ha, H2.out.2.2.below ha, Blk.new w2 29 [.slice A2 log.length n2, .slice none 0 0, .int .i64 q], (H2.out.1.below ha).mono (fun g hg => ⟨by omega, by omega, by have := ha.size; omega⟩), by omega⟩
    generalize w2.alloc (.cells #[.slice A2 log.length n2, .slice none 0 0, .int .i64 q] 29) = W at *
    generalize w2.heap.size = C at *
    clear H1 H2 hHeld hHeld2 hHeld6 hHeld7 e0 e2 hbw2 c0 c1 c2
  all_goals
    have hCl := HR.out.2.2.2.1.lt
    have hBl := HR.out.2.2.1.lt
    have q1 := HR.out.2.2.1.cell 1 _ rfl
    go_wp2
    go_loopw [15] (fun v15 wr => ∃ k : Nat, v15 = .int .i64 k ∧ k ≤ wits.length ∧ Hid (PolSt w W wr C (.slice A2 log.length n2) q (wits.take k))) (fun v _ => wits.length - (intOf v).toNat)
    case atStart => exact ⟨0, rfl, Nat.zero_le _, Lib.hid ⟨Chg.refl _ _, _, HR.out.2.2.2.1, OwnR.nil _ _⟩⟩
    case round =>
      obtain ⟨k, rfl, hk, HJ⟩ := hrel
      clear q1
      by_cases hlt : k < wits.length
      · obtain ⟨g, o, u, rfl, hg, -, -, hcu, hbu⟩ := HX.out.2.at' k hlt
        have HBel := Lib.hid (HR.out.1.trans (HJ.out.1.below (B := w.heap.size) HR.out.1.size (fun k hk => by have := HR.out.1.size; have := HR.out.2.2.2.2.2; omega)))
        have p0 := (HBel.out.cell (p := ⟨g, o + k, none⟩) hg).trans hcu
        obtain ⟨A9, c9, rfl⟩ := hbu.form
        have HCL := Lib.hid (fun (wz : World) (hz : Below w.heap.size w wz) => HC2.out k hlt _ wz (hbu.below hz))
        have HT : Hid (wits.take (k + 1) = wits.take k ++ [wits[k]]) := Lib.hid (List.take_succ_eq_append_getElem hlt)
        have hal : (wits.take k).length ≤ 1000000000 := by rw [List.length_take]; omega
        have hXl := HS3.out k hlt
        obtain ⟨hch, rv, hkC, hor⟩ := HJ.out
        obtain ⟨A8, c8, rfl⟩ := hor.rws.form
        have r1 := hkC.cell 1 _ rfl
        have hCr := hkC.lt
        have hWr := hch.size
        have HK := Lib.hid (And.intro hch (And.intro hkC hor))
        clear hcu hbu hch hkC hor HJ
        generalize wits[k] = X at *
        generalize wits.take k = Ls at *
        go_wp2
        go_region_law (first
          | (go_simp; go_at_call 49; refine (HCL.out wr.drew HBel.out.drew).mono ?_
             rintro e w2 ⟨v2, rfl, h2, h3⟩
             obtain ⟨A5, c5, rfl⟩ := h2.form
             have hb2 : Below wr.heap.size wr w2 := ⟨h3.os, h3.tape, h3.output, h3.size, h3.block⟩
             have hk2 := HK.out.2.1.below hb2
             have s1 := hk2.cell 1 _ rfl
             have hlt2 := hk2.lt
             obtain ⟨us, hu1, hu2⟩ := HK.out.2.2.keep hb2
             have H2 := Lib.hid (And.intro (show OwnB w2 wr.heap.size (.slice A5 X.length c5) X from h2) (And.intro hb2 (And.intro hk2 (And.intro hu1 hu2))))
             have hsz2 := hb2.size
             clear h2 h3 hb2 hk2 hu1 hu2)
          | (refine step_append_lies _ rfl (.tmp 20) (.tmp 23) 27 rfl W.heap.size 26 i0 (.slice none 0 0) 1 24 Tryz.underlying27 hi0 hz0 hz1 hz2 rfl (by decide) _ Ls.length us rfl (World.ownsRow.alloc H2.out.2.2.2.1 _) ⟨w2.heap.size, 0, none⟩ 1 1 [.slice A5 X.length c5] rfl rfl (World.news_of_block (blk_new _ _)) (by simp [Value.oneCell']) (by decide) (by unfold maxLen; omega) (by omega) (by simp; omega) (w2.heap.size + 1) (by simp) ?_
             intro g3 c3 W3 hown3 hgrow3 hlie3 hlt3
             have HR3 := retr_push HK.out.2.2 hWr H2.out.2.1 H2.out.1 H2.out.2.2.2.2 (by have := H2.out.2.2.2.1.1; omega) hown3 hgrow3 hlie3
             have hgr : Chg wr W3 (fun k => W.heap.size ≤ k) := chg_belowB HR3.2
             have H3 : Hid (OwnR W3 W.heap.size (.slice (some ⟨g3, 0, none⟩) (Ls.length + 1) c3) (Ls ++ [X]) ∧ Blk W3 C 29 [.slice A2 log.length n2, .slice A8 Ls.length c8, .int .i64 q] ∧ Chg wr W3 (fun k => W.heap.size ≤ k)) := Lib.hid ⟨HR3.1, HK.out.2.1.chg hgr (by omega), hgr⟩
             have t1 := H3.out.2.1.cell 1 _ rfl
             have f1 := H3.out.2.1.free 1
             clear hown3 hgrow3 hlie3 HR3 hgr))
        all_goals
          have hset : Chg W3 (W3.setCell ⟨C, 1, none⟩ (.slice (some ⟨g3, 0, none⟩) (Ls.length + 1) c3)) (fun k => k = C) := chg_cell (Chg.refl W3 _) 1 _
          have HN : Hid (PolSt w W (W3.setCell ⟨C, 1, none⟩ (.slice (some ⟨g3, 0, none⟩) (Ls.length + 1) c3)) C (.slice A2 log.length n2) q (Ls ++ [X])) := Lib.hid ⟨(HK.out.1.trans (H3.out.2.2) (fun i _ h => .inr h)).trans hset (fun i _ h => .inl h), _, H3.out.2.1.set 1 _ (by simp), H3.out.1.chgT hset (fun g hg _ e => by omega)⟩
          clear hset t1 f1
          go_wp2
          go_roundw
          case rel => exact ⟨k + 1, by go_num, by omega, by rw [HT.out]; exact HN⟩
          case measure => simp [intOf]; omega
      · obtain rfl : k = wits.length := by omega
        have HP : Hid (PolSt w W wr C (.slice A2 log.length n2) q wits) := Lib.hid (by have h := HJ.out; rwa [List.take_length] at h)
        obtain ⟨hch, rv, hkC, hor⟩ := HP.out
        obtain ⟨A8, c8, rfl⟩ := hor.rws.form
        have r0 := hkC.cell 0 _ rfl
        have r1 := hkC.cell 1 _ rfl
        have r2 := hkC.cell 2 _ rfl
        have hkZ := HR.out.2.1.chg hch (by have := HR.out.2.1.lt; have := HR.out.2.2.2.2.2; omega)
        have z0 := hkZ.cell 0 _ rfl
        have z1 := hkZ.cell 1 _ rfl
        have z2 := hkZ.cell 2 _ rfl
        have y0 := hkZ.free 0
        have y1 := hkZ.free 1
        have y2 := hkZ.free 2
        have HK := Lib.hid (And.intro hch (And.intro hkZ (And.intro hor (HR.out.2.2.2.2.1.chg hch (fun g hg e => by
          rcases e with e | e
          · exact hg.2.1 e
          · exact absurd hg.2.2 (by omega))))))
        have hWr := hch.size
        have hWw := HR.out.1.size
        have hCr := hkC.lt
        clear hch hkC hor hkZ HJ HP
        go_wp2
        have hfc : Chg wr (((wr.setCell ⟨w.heap.size + 1, 0, none⟩ (.slice A2 log.length n2)).setCell ⟨w.heap.size + 1, 1, none⟩ (.slice A8 wits.length c8)).setCell ⟨w.heap.size + 1, 2, none⟩ (.int .i64 q)) (fun k => k = w.heap.size + 1) := chg_cell (chg_cell (chg_cell (Chg.refl wr _) 0 _) 1 _) 2 _
        have hfin : Blk (((wr.setCell ⟨w.heap.size + 1, 0, none⟩ (.slice A2 log.length n2)).setCell ⟨w.heap.size + 1, 1, none⟩ (.slice A8 wits.length c8)).setCell ⟨w.heap.size + 1, 2, none⟩ (.int .i64 q)) (w.heap.size + 1) 29 [.slice A2 log.length n2, .slice A8 wits.length c8, .int .i64 q] := ((HK.out.2.1.set 0 _ (by simp)).set 1 _ (by simp)).set 2 _ (by simp)
        refine bodyPost_ret (v := .agg [.slice A2 log.length n2, .slice A8 wits.length c8, .int .i64 q].toArray) ?_ ?_ ⟨_, rfl, ⟨_, _, rfl, ?_, ?_⟩, ?_⟩
        · exact results_cell_row Tryz.results22 _ _ (w.heap.size + 1) 29 _ (0, 0) _ rfl hfin under_policy rfl size_policy
        · rfl
        · exact (HK.out.2.2.2.chg hfc (fun g hg e => by have h1 : w.heap.size + 1 < g := hg.1; have h2 : g = w.heap.size + 1 := e; omega)).mono (fun g hg => ⟨by have h1 : w.heap.size + 1 < g := hg.1; omega, by have h1 : g < W.heap.size := hg.2.2; have := hfc.size; omega⟩)
        · exact (HK.out.2.2.1.foot.chg hfc (fun g hg e => by have h1 : W.heap.size ≤ g := hg.1; have h2 : g = w.heap.size + 1 := e; have h3 := HR.out.2.1.lt; omega)).mono (fun g hg => ⟨by have h1 : W.heap.size ≤ g := hg.1; omega, by have h1 : g < wr.heap.size := hg.2; have := hfc.size; omega⟩)
        · exact (HR.out.1.trans (HK.out.1.below hWw (fun k hk => by have h9 := HR.out.2.2.2.2.2; rcases hk with e | e <;> omega))).trans (hfc.below (by omega) (fun k hk => by omega))
def cgVerB (p : PolD) (c : CkD) (g : CgD) : Bool := polB p && (ckB c && (decide (0 ≤ g.wit) && (decide (g.wit < (p.wits.length : Int)) && verifyB (p.wits.getD g.wit.toNat []) (bodyS tagCo c) g.sig)))
theorem Rws.get {w : World} {A : Option Addr} {n c : Nat} {ls : List (List UInt8)} (h : Rws w (.slice A n c) ls) (i : Nat) (hi : i < ls.length) : ∃ g o u, A = some ⟨g, o, none⟩ ∧ g < w.heap.size ∧ n = ls.length ∧ ls.length ≤ c ∧ w.cell? ⟨g, o + i, none⟩ = some u ∧ Bys w u (ls.getD i []) := by
 obtain ⟨us, h1, h2⟩ := h
 obtain ⟨u, e, hu⟩ := h2 i hi
 obtain ⟨g, o, e1, e2, h3, h4, _, h5⟩ := h1.place (by omega)
 exact ⟨g, o, u, e1, h3, e2, h4, h5 i _ e, by rw [List.getD_eq_getElem?_getD, List.getElem?_eq_getElem hi]; exact hu⟩
set_option maxRecDepth 100000 in
set_option maxHeartbeats 8000000 in
theorem pcgverify_any (vp vc vg : Value) (p : PolD) (c : CkD) (g : CgD) (hp : SmallPol p) (hr : c.root.length ≤ 100000000) (hs : SmallSig g.sig) (w : World) (hvp : PolV w vp p) (hvc : CkV w vc c) (hvg : CgV w vg g) :
  Calls Tryz.prog 30 #[vp, vc, vg] w fun e w' => e = .returned (.bool (cgVerB p c g)) ∧ Below w.heap.size w w' := by
 have HPR := Lib.hid (fun (wz : World) (v : Value) (hz : PolV wz v p) => coright_any v p hp.1 hp.2.1 hp.2.2.2 wz hz)
 have HCR := Lib.hid (fun (wz : World) (v : Value) (hz : CkV wz v c) => pckright_any v c (by omega) wz hz)
 have HBD := Lib.hid (fun (wz : World) (v : Value) (hz : CkV wz v c) => pckcosign_any v c hr wz hz)
 have HBL : Hid ((bodyS tagCo c).length ≤ 1000000000) := Lib.hid (by have := bodyS_length tagCo c; have : tagCo.length = 17 := rfl; omega)
 have HVF := Lib.hid (fun (pub : List UInt8) (hpub : pub.length ≤ 1000000000) (wz : World) (vp vm v : Value) (z1 : Bys wz vp pub) (z2 : Bys wz vm (bodyS tagCo c)) (z3 : SigV wz v g.sig) => pverify_any vp vm v pub (bodyS tagCo c) g.sig hpub HBL.out hs.1 hs.2.1 wz z1 z2 z3)
 have HCV : Hid (cgVerB p c g = (polB p && (ckB c && (decide (0 ≤ g.wit) && (decide (g.wit < (p.wits.length : Int)) && verifyB (p.wits.getD g.wit.toNat []) (bodyS tagCo c) g.sig))))) := Lib.hid rfl
 have HPW : Hid (∀ i, i < p.wits.length → (p.wits.getD i []).length ≤ 1000000000) := Lib.hid (fun i hi => by have := hp.2.2.1 i hi; rw [List.getD_eq_getElem?_getD, List.getElem?_eq_getElem hi]; exact this)
 generalize cgVerB p c g = CV at *
 generalize bodyS tagCo c = BO at *
 clear hp hr hs HBL
 obtain ⟨l, ws, rfl, h1, h2⟩ := hvp
 obtain ⟨L, cl, rfl⟩ := h1.form
 obtain ⟨R, cr, rfl⟩ := h2.form
 obtain ⟨rt, rfl, h3⟩ := hvc
 obtain ⟨T, ct, rfl⟩ := h3.form
 obtain ⟨q1, q2, rfl, h4, h5⟩ := hvg
 obtain ⟨P, cp, rfl⟩ := h4.form
 obtain ⟨Q, cq, rfl⟩ := h5.form
 have HX := Lib.hid (And.intro h1 (And.intro h2 (And.intro h3 (And.intro h4 h5))))
 clear h1 h2 h3 h4 h5
 have hb1 := (Below.refl w.heap.size w).alloc (Nat.le_refl _) (.cells #[.slice L p.log.length cl, .slice R p.wits.length cr, .int .i64 p.quorum] 29)
 have hb2 := hb1.alloc (by simp) (.cells #[.int .i64 c.num, .slice T c.root.length ct] 36)
 have hb3 := hb2.alloc (by simp; omega) (.cells #[.int .i64 g.wit, .int .i64 g.sig.index, .slice P g.sig.parts.length cp, .slice Q g.sig.path.length cq] 47)
 have k1 := ((Blk.new w 29 [.slice L p.log.length cl, .slice R p.wits.length cr, .int .i64 p.quorum]).below ((Below.refl _ _).alloc (Nat.le_refl _) (.cells #[.int .i64 c.num, .slice T c.root.length ct] 36))).below ((Below.refl _ _).alloc (Nat.le_refl _) (.cells #[.int .i64 g.wit, .int .i64 g.sig.index, .slice P g.sig.parts.length cp, .slice Q g.sig.path.length cq] 47))
 have k2 := (Blk.new (w.alloc (.cells #[.slice L p.log.length cl, .slice R p.wits.length cr, .int .i64 p.quorum] 29)) 36 [.int .i64 c.num, .slice T c.root.length ct]).below ((Below.refl _ _).alloc (Nat.le_refl _) (.cells #[.int .i64 g.wit, .int .i64 g.sig.index, .slice P g.sig.parts.length cp, .slice Q g.sig.path.length cq] 47))
 have k3 := Blk.new ((w.alloc (.cells #[.slice L p.log.length cl, .slice R p.wits.length cr, .int .i64 p.quorum] 29)).alloc (.cells #[.int .i64 c.num, .slice T c.root.length ct] 36)) 47 [.int .i64 g.wit, .int .i64 g.sig.index, .slice P g.sig.parts.length cp, .slice Q g.sig.path.length cq]
 rw [show (w.alloc (.cells #[.slice L p.log.length cl, .slice R p.wits.length cr, .int .i64 p.quorum] 29)).heap.size = w.heap.size + 1 by simp] at k2
 rw [show ((w.alloc (.cells #[.slice L p.log.length cl, .slice R p.wits.length cr, .int .i64 p.quorum] 29)).alloc (.cells #[.int .i64 c.num, .slice T c.root.length ct] 36)).heap.size = w.heap.size + 2 by simp] at k3
 have HW := Lib.hid (And.intro k1 (And.intro k2 (And.intro k3 hb3)))
 clear k1 k2 k3 hb1 hb2 hb3
 go_enter Tryz.func30, Tryz.ntmps30
 go_wp2_with fail
 refine (HPR.out _ _ ⟨_, _, rfl, HX.out.1.below HW.out.2.2.2, HX.out.2.1.below HW.out.2.2.2⟩).mono ?_
 rintro e w1 ⟨rfl, h⟩
 have H1 := Lib.hid (And.intro (HW.out.1.below h) (And.intro (HW.out.2.1.below h) (And.intro (HW.out.2.2.1.below h) (HW.out.2.2.2.trans (h.mono (by simp; omega))))))
 clear h
 cases hpb : polB p with
 | false =>
  have HF : Hid (CV = false) := Lib.hid (by rw [HCV.out, hpb]; rfl)
  go_wp2
  go_ret
  exact ⟨by rw [HF.out]; rfl, H1.out.2.2.2⟩
 | true =>
  have HCV1 : Hid (CV = (ckB c && (decide (0 ≤ g.wit) && (decide (g.wit < (p.wits.length : Int)) && verifyB (p.wits.getD g.wit.toNat []) BO g.sig)))) := Lib.hid (by rw [HCV.out, hpb]; rfl)
  clear HCV hpb
  have c10 := H1.out.2.1.cell 0 _ rfl
  have c11 := H1.out.2.1.cell 1 _ rfl
  have l1 := H1.out.2.1.lt
  go_wp2_with fail
  refine (HCR.out _ _ ⟨_, rfl, HX.out.2.2.1.below H1.out.2.2.2⟩).mono ?_
  rintro e w2 ⟨rfl, h⟩
  have H2 := Lib.hid (And.intro (H1.out.1.below h) (And.intro (H1.out.2.1.below h) (And.intro (H1.out.2.2.1.below h) (H1.out.2.2.2.trans (h.mono H1.out.2.2.2.size)))))
  clear h c10 c11 l1
  cases hcb : ckB c with
  | false =>
   have HF : Hid (CV = false) := Lib.hid (by rw [HCV1.out, hcb]; rfl)
   go_wp2
   go_ret
   exact ⟨by rw [HF.out]; rfl, H2.out.2.2.2⟩
  | true =>
   have HCV2 : Hid (CV = (decide (0 ≤ g.wit) && (decide (g.wit < (p.wits.length : Int)) && verifyB (p.wits.getD g.wit.toNat []) BO g.sig))) := Lib.hid (by rw [HCV1.out, hcb]; rfl)
   clear HCV1 hcb
   have e1 := H2.out.1.cell 1 _ rfl
   have e20 := H2.out.2.2.1.cell 0 _ rfl
   have l0 := H2.out.1.lt
   have l2 := H2.out.2.2.1.lt
   by_cases hw0 : 0 ≤ g.wit
   ·by_cases hw1 : g.wit < (p.wits.length : Int)
    ·obtain ⟨wn, hwn⟩ := Int.eq_ofNat_of_zero_le hw0
     have hwl : wn < p.wits.length := by omega
     have HCV3 : Hid (CV = verifyB (p.wits.getD wn []) BO g.sig) := Lib.hid (by rw [HCV2.out, decide_eq_true hw0, decide_eq_true hw1, Bool.true_and, Bool.true_and, hwn, Int.toNat_natCast])
     clear HCV2
     have HWF := Lib.hid (HVF.out (p.wits.getD wn []) (HPW.out wn hwl))
     rw [← HCV3.out] at HWF
     obtain ⟨gr, o, u, rfl, hgr, -, hcap, hcr, hbu⟩ := (HX.out.2.1.below H2.out.2.2.2).get wn hwl
     obtain ⟨U, cu, rfl⟩ := hbu.form
     have HU := Lib.hid hbu
     clear hbu HVF
     generalize (p.wits.getD wn []) = PU at *
     have hwnI : (wn : Int) < (p.wits.length : Int) := by omega
     rw [hwn] at e20 hw0 hw1
     have e11 := H2.out.2.1.cell 1 _ rfl
     have e10 := H2.out.2.1.cell 0 _ rfl
     have l1 := H2.out.2.1.lt
     have e21 := H2.out.2.2.1.cell 1 _ rfl
     have e22 := H2.out.2.2.1.cell 2 _ rfl
     have e23 := H2.out.2.2.1.cell 3 _ rfl
     go_wp2
     refine wp_region_held_drew (S := fun w' => w'.cell? ⟨w.heap.size, 1, none⟩ = some (.slice (some ⟨gr, o, none⟩) p.wits.length cr) ∧ w'.cell? ⟨w.heap.size + 1, 0, none⟩ = some (.int .i64 c.num) ∧ w'.cell? ⟨w.heap.size + 1, 1, none⟩ = some (.slice T c.root.length ct) ∧ w'.cell? ⟨w.heap.size + 2, 0, none⟩ = some (.int .i64 wn) ∧ w'.cell? ⟨w.heap.size + 2, 1, none⟩ = some (.int .i64 g.sig.index) ∧ w'.cell? ⟨w.heap.size + 2, 2, none⟩ = some (.slice P g.sig.parts.length cp) ∧ w'.cell? ⟨w.heap.size + 2, 3, none⟩ = some (.slice Q g.sig.path.length cq) ∧ w'.cell? ⟨gr, o + wn, none⟩ = some (.slice U PU.length cu)) (by kernel_rfl) ?_ (fun hHeld => ?_)
     ·exact ⟨e1, e10, e11, e20, e21, e22, e23, hcr⟩
     refine ty 0 28 rfl rfl ?_; simp only [sa, sb, sc]
     refine ty 1 29 rfl rfl ?_; simp only [sa, sb, sc]
     refine ty 2 30 rfl rfl ?_; simp only [sa, sb, sc]
     refine ty 3 31 rfl rfl ?_; simp only [sa, sb, sc]
     refine ty 4 32 rfl rfl ?_; simp only [sa, sb, sc]
     refine ty 5 33 rfl rfl ?_; simp only [sa, sb, sc]
     refine ty 6 34 rfl rfl ?_; simp only [sa, sb, sc]
     refine ty 8 36 rfl rfl ?_; simp only [sa, sb, sc]
     refine ty 9 37 rfl rfl ?_; simp only [sa, sb, sc]
     refine rd 7 (by kernel_rfl) rfl (fun K hK => ?_)
     go_simp
     go_at_call 58
     refine (HBD.out w2.drew _ ⟨_, rfl, HX.out.2.2.1.below H2.out.2.2.2.drew⟩).mono ?_
     rintro e w3 ⟨v3, rfl, h3, h4'⟩
     obtain ⟨A3, n3, rfl⟩ := h3.form
     have h4 : Below w2.heap.size w2 w3 := ⟨h4'.os, h4'.tape, h4'.output, h4'.size, h4'.block⟩
     have kA := H2.out.1.below h4
     have kB := H2.out.2.1.below h4
     have kC := H2.out.2.2.1.below h4
     have f1 := kA.cell 1 _ rfl
     have f10 := kB.cell 0 _ rfl
     have f11 := kB.cell 1 _ rfl
     have f20 := kC.cell 0 _ rfl
     rw [hwn] at f20
     have f21 := kC.cell 1 _ rfl
     have f22 := kC.cell 2 _ rfl
     have f23 := kC.cell 3 _ rfl
     have hcr3 := (h4.cell (p := ⟨gr, o + wn, none⟩) hgr).trans hcr
     have H3 := Lib.hid (And.intro h3 (And.intro (HU.out.below h4) (H2.out.2.2.2.trans (h4.mono H2.out.2.2.2.size))))
     have hz23 := h4.size
     clear h3 h4 h4' kA kB kC
     go_wp2_with fail
     refine hK.out _ _ ⟨f1, f10, f11, f20, f21, f22, f23, hcr3⟩ (fun hHeld7 => ?_)
     clear hK K; try simp only [Act.put, sa, sb, sc]
     refine rd 10 (by kernel_rfl) rfl (fun K hK => ?_)
     go_simp
     go_at_call 53
     refine (HWF.out w3 _ _ _ H3.out.2.1 H3.out.1 ⟨_, _, rfl, HX.out.2.2.2.1.below H3.out.2.2, HX.out.2.2.2.2.below H3.out.2.2⟩).mono ?_
     rintro e w4 ⟨rfl, h4⟩
     have j1 := (h4.cell (p := ⟨w.heap.size, 1, none⟩) (Nat.lt_of_lt_of_le l0 hz23)).trans f1
     have j10 := (h4.cell (p := ⟨w.heap.size + 1, 0, none⟩) (Nat.lt_of_lt_of_le l1 hz23)).trans f10
     have j11 := (h4.cell (p := ⟨w.heap.size + 1, 1, none⟩) (Nat.lt_of_lt_of_le l1 hz23)).trans f11
     have j20 := (h4.cell (p := ⟨w.heap.size + 2, 0, none⟩) (Nat.lt_of_lt_of_le l2 hz23)).trans f20
     have j21 := (h4.cell (p := ⟨w.heap.size + 2, 1, none⟩) (Nat.lt_of_lt_of_le l2 hz23)).trans f21
     have j22 := (h4.cell (p := ⟨w.heap.size + 2, 2, none⟩) (Nat.lt_of_lt_of_le l2 hz23)).trans f22
     have j23 := (h4.cell (p := ⟨w.heap.size + 2, 3, none⟩) (Nat.lt_of_lt_of_le l2 hz23)).trans f23
     have hcr4 := (h4.cell (p := ⟨gr, o + wn, none⟩) (Nat.lt_of_lt_of_le hgr hz23)).trans hcr3
     have H4 := Lib.hid (H3.out.2.2.trans (h4.mono H3.out.2.2.size))
     clear h4
     go_wp2_with fail
     refine hK.out _ _ ⟨j1, j10, j11, j20, j21, j22, j23, hcr4⟩ (fun hHeld10 => ?_)
     clear hK K; try simp only [Act.put, sa, sb, sc]
     refine ty 11 6 rfl rfl ?_; simp only [sa, sb, sc]
     refine wpAnyH_done (by kernel_rfl) ?_ _
     go_wp2
     go_ret
     exact ⟨rfl, H4.out⟩
    ·have HF : Hid (CV = false) := Lib.hid (by rw [HCV2.out, decide_eq_false hw1]; simp)
     go_wp2
     go_ret
     exact ⟨by rw [HF.out]; rfl, H2.out.2.2.2⟩
   ·have HF : Hid (CV = false) := Lib.hid (by rw [HCV2.out, decide_eq_false hw0]; rfl)
    go_wp2
    go_ret
    exact ⟨by rw [HF.out]; rfl, H2.out.2.2.2⟩
theorem Rws.all {w : World} {A : Option Addr} {n c : Nat} {ls : List (List UInt8)} (h : Rws w (.slice A n c) ls) (h0 : 0 < ls.length) : ∃ g o, A = some ⟨g, o, none⟩ ∧ g < w.heap.size ∧ n = ls.length ∧ ls.length ≤ c ∧ c ≤ maxLen ∧ ∀ i, i < ls.length → ∃ A' c', w.cell? ⟨g, o + i, none⟩ = some (.slice A' (ls.getD i []).length c') ∧ Bys w (.slice A' (ls.getD i []).length c') (ls.getD i []) := by
 obtain ⟨us, h1, h2⟩ := h
 obtain ⟨g, o, rfl, e1, hg, hc, hm, hcell⟩ := h1.place h0
 refine ⟨g, o, rfl, hg, e1, hc, hm, fun i hi => ?_⟩
 obtain ⟨u, hu, hb⟩ := h2 i hi
 have e : ls.getD i [] = ls[i] := by rw [List.getD_eq_getElem?_getD, List.getElem?_eq_getElem hi]; rfl
 rw [e]
 obtain ⟨A', c', rfl⟩ := hb.form
 exact ⟨A', c', hcell i _ hu, hb⟩
theorem anyB_snoc (ls : List (List UInt8)) (k : Nat) (hk : k < ls.length) (X : List UInt8) : anyB (ls.take (k + 1)) X = (anyB (ls.take k) X || (ls.getD k [] == X)) := by
 have e : ls.getD k [] = ls[k] := by rw [List.getD_eq_getElem?_getD, List.getElem?_eq_getElem hk]; rfl
 unfold anyB
 rw [e, List.take_succ_eq_append_getElem hk, List.any_append, List.any_cons, List.any_nil, Bool.or_false]
theorem anyB_mono (ls : List (List UInt8)) (X : List UInt8) (k : Nat) (h : anyB (ls.take k) X = true) : ∀ i, k ≤ i → anyB (ls.take i) X = true := by
 intro i hi
 unfold anyB at *
 rw [List.any_eq_true] at *
 obtain ⟨y, hy, e⟩ := h
 exact ⟨y, (List.take_subset_take_left ls hi) hy, e⟩
set_option maxRecDepth 100000 in
set_option maxHeartbeats 4000000 in
theorem rpolicy_any (v : Value) (p : PolD) (hl : p.log.length ≤ 1000000000) (hw : p.wits.length ≤ 1000000000) (hq : -1000000000 ≤ p.quorum ∧ p.quorum ≤ 1000000000) (w : World) (hv : PolV w v p) :
  Calls Tryz.prog 60 #[v] w fun e w' => e = .returned (.bool (polB p)) ∧ Below w.heap.size w w' := by
 obtain ⟨l, ws, rfl, h1, h2⟩ := hv
 obtain ⟨L, cl, rfl⟩ := h1.form
 obtain ⟨R, cr, rfl⟩ := h2.form
 have HPB : Hid (polB p = ((decide (p.log.length = 32) && decide (1 ≤ p.wits.length) && decide (p.wits.length ≤ 4) && decide (1 ≤ p.quorum) && decide (p.quorum ≤ (p.wits.length : Int))) && witsN p.wits p.wits.length)) := Lib.hid rfl
 have HX := Lib.hid (And.intro h1 h2)
 clear h1 h2
 generalize polB p = PB at *
 obtain ⟨log, wits, q⟩ := p
 obtain ⟨hq0, hq1⟩ := hq
 have hk0 := Blk.new w 29 [.slice L log.length cl, .slice R wits.length cr, .int .i64 q]
 have hb0 : Below w.heap.size w (w.alloc (.cells #[.slice L log.length cl, .slice R wits.length cr, .int .i64 q] 29)) := (Below.refl w.heap.size w).alloc (Nat.le_refl _) _
 have HW := Lib.hid (And.intro hk0 hb0)
 clear hk0 hb0
 go_enter Tryz.func60, Tryz.ntmps60
 by_cases k1 : log.length = 32
 ·have n1 : (((log.length : Nat) : Int) != 32) = false := by simp [k1]
  have K1 := Lib.hid k1
  clear k1
  by_cases k2 : 1 ≤ wits.length
  ·by_cases k3 : wits.length ≤ 4
   ·by_cases k4 : 1 ≤ q
    ·by_cases k5 : q ≤ (wits.length : Int)
     ·have HP2 : Hid (PB = witsN wits wits.length) := Lib.hid (by rw [HPB.out]; simp [K1.out, k2, k3, k4, k5])
      clear HPB
      obtain ⟨g, o, rfl, hg, -, hroom, hroom2, hall⟩ := HX.out.2.all (by show 0 < wits.length; omega)
      have HALL := Lib.hid hall
      unfold maxLen at hroom2
      clear hall
      go_wp2
      go_loopw [4] (fun v4 wr => ∃ i : Nat, v4 = .int .i64 i ∧ i ≤ wits.length ∧ Hid (Below w.heap.size w wr ∧ Blk wr w.heap.size 29 [.slice L log.length cl, .slice (some ⟨g, o, none⟩) wits.length cr, .int .i64 q] ∧ witsN wits i = true)) (fun v _ => wits.length - (intOf v).toNat)
      case atStart => exact ⟨0, rfl, Nat.zero_le _, Lib.hid ⟨HW.out.2, HW.out.1, rfl⟩⟩
      case round =>
       obtain ⟨i, rfl, hi, HI⟩ := hrel
       have q1 := HI.out.2.1.cell 1 _ rfl
       have hbl := HI.out.2.1.lt
       by_cases hlt : i < wits.length
       ·obtain ⟨A9, c9, hcu, hbu⟩ := HALL.out i hlt
        have p0 := (HI.out.1.cell (p := ⟨g, o + i, none⟩) hg).trans hcu
        have HB9 := Lib.hid (And.intro hcu hbu)
        have HWS : Hid (witsN wits (i + 1) = (witsN wits i && (len32 (wits.getD i []) && !(anyB (wits.take i) (wits.getD i []))))) := Lib.hid rfl
        have hgl : g < wr.heap.size := by have := HI.out.1.size; omega
        clear hcu hbu
        generalize wits.getD i [] = X at *
        by_cases h32 : X.length = 32
        ·have nk : (((X.length : Nat) : Int) != 32) = false := by simp [h32]
         have H32 : Hid (len32 X = true) := Lib.hid (by simp [len32, h32])
         clear h32
         go_wp2
         go_loopw [5] (fun v5 wr => ∃ k : Nat, v5 = .int .i64 k ∧ k ≤ i ∧ Hid (Below w.heap.size w wr ∧ Blk wr w.heap.size 29 [.slice L log.length cl, .slice (some ⟨g, o, none⟩) wits.length cr, .int .i64 q] ∧ anyB (wits.take k) X = false)) (fun v _ => i - (intOf v).toNat)
         case atStart => exact ⟨0, rfl, Nat.zero_le _, Lib.hid ⟨HI.out.1, HI.out.2.1, rfl⟩⟩
         case round =>
          clear q1 hbl p0 hgl
          have HI0 := Lib.hid HI.out.2.2
          clear HI
          obtain ⟨k, rfl, hk, HI⟩ := hrel
          by_cases hlk : k < i
          ·have q1 := HI.out.2.1.cell 1 _ rfl
           have hbl := HI.out.2.1.lt
           have hkw : k < wits.length := by omega
           obtain ⟨A8, c8, hcu, hbu⟩ := HALL.out k hkw
           have p0 := (HI.out.1.cell (p := ⟨g, o + i, none⟩) hg).trans HB9.out.1
           have p1 := (HI.out.1.cell (p := ⟨g, o + k, none⟩) hg).trans hcu
           have r1 := run_string_bys wr.drew _ _ ((HB9.out.2.below HI.out.1).below (Below.refl _ _).drew)
           have r2 := run_string_bys wr.drew _ _ ((hbu.below HI.out.1).below (Below.refl _ _).drew)
           have HAN := Lib.hid (anyB_snoc wits k (by omega) X)
           have hgl : g < wr.heap.size := by have := HI.out.1.size; omega
           clear hcu hbu
           generalize wits.getD k [] = Y at *
           go_wp2
           refine wp_region_held_drew (S := fun w' => w'.cell? ⟨w.heap.size, 1, none⟩ = some (.slice (some ⟨g, o, none⟩) wits.length cr) ∧ w'.cell? ⟨g, o + i, none⟩ = some (.slice A9 X.length c9) ∧ w'.cell? ⟨g, o + k, none⟩ = some (.slice A8 Y.length c8) ∧ (convert 26 9 (.slice A9 X.length c9)).run Tryz.prog w' = .ok (.string ⟨X.toArray⟩) w' ∧ (convert 26 9 (.slice A8 Y.length c8)).run Tryz.prog w' = .ok (.string ⟨Y.toArray⟩) w') (by kernel_rfl) ?_ (fun hHeld => ?_)
           ·exact ⟨q1, p0, p1, r1, r2⟩
           refine ty 0 49 rfl rfl ?_; simp only [sa, sb, sc]
           refine ty 1 50 rfl rfl ?_; simp only [sa, sb, sc]
           refine ty 2 51 rfl rfl ?_; simp only [sa, sb, sc]
           refine ty 3 52 rfl rfl ?_; simp only [sa, sb, sc]
           refine ty 4 53 rfl rfl ?_; simp only [sa, sb, sc]
           refine ty 5 54 rfl rfl ?_; simp only [sa, sb, sc]
           refine ty 6 55 rfl rfl ?_; simp only [sa, sb, sc]
           refine ty 7 56 rfl rfl ?_; simp only [sa, sb, sc]
           refine ty 8 57 rfl rfl ?_; simp only [sa, sb, sc]
           refine ty 9 58 rfl rfl ?_; simp only [sa, sb, sc]
           refine ty 10 59 rfl rfl ?_; simp only [sa, sb, sc]
           refine ty 11 60 rfl rfl ?_; simp only [sa, sb, sc]
           refine ty 12 61 rfl rfl ?_; simp only [sa, sb, sc]
           refine wpAnyH_done (by kernel_rfl) ?_ _
           have hd := (Below.refl wr.heap.size wr).drew
           have HN := Lib.hid (And.intro (HI.out.1.trans (hd.mono HI.out.1.size)) (HI.out.2.1.below hd))
           clear hd hHeld r1 r2 q1 p0 p1
           generalize hB : (X == Y) = BB at *
           generalize wr.drew = w2 at *
           cases BB with
           | true =>
            have hXY : X = Y := by simpa using hB
            have HF : Hid (PB = false) := Lib.hid (by
             rw [HP2.out]
             have ha : anyB (wits.take (k + 1)) X = true := by rw [HAN.out, hXY]; simp
             exact witsN_mono wits (i + 1) (by rw [HWS.out, anyB_mono wits X (k + 1) ha i (by omega)]; simp) _ (by omega))
            clear hXY hB
            go_wp2
            go_ret
            exact ⟨by rw [HF.out]; rfl, HN.out.1⟩
           | false =>
            have HT : Hid (anyB (wits.take (k + 1)) X = false) := Lib.hid (by
             have hXY : X ≠ Y := by rw [← beq_eq_false_iff_ne]; exact hB
             rw [HAN.out, HI.out.2.2, Bool.false_or, beq_eq_false_iff_ne]
             exact fun e => hXY e.symm)
            clear hB
            go_wp2
            go_roundw
            case rel => exact ⟨k + 1, by go_num, by omega, Lib.hid ⟨HN.out.1, HN.out.2, HT.out⟩⟩
            case measure => simp [intOf]; omega
          ·obtain rfl : k = i := by omega
           have HT : Hid (witsN wits (k + 1) = true) := Lib.hid (by rw [HWS.out, HI0.out, H32.out, HI.out.2.2]; rfl)
           go_wp2
           go_roundw
           case rel => exact ⟨k + 1, by go_num, by omega, Lib.hid ⟨HI.out.1, HI.out.2.1, HT.out⟩⟩
           case measure => simp [intOf]; omega
        ·have nk : (((X.length : Nat) : Int) != 32) = true := by rw [bne_iff_ne]; omega
         have HF : Hid (PB = false) := Lib.hid (by rw [HP2.out]; exact witsN_mono wits (i + 1) (by rw [HWS.out]; simp [len32, h32]) _ (by omega))
         clear h32
         go_wp2
         go_ret
         exact ⟨by rw [HF.out]; rfl, HI.out.1⟩
       ·obtain rfl : i = wits.length := by omega
        have HT : Hid (PB = true) := Lib.hid (by rw [HP2.out]; exact HI.out.2.2)
        clear q1 hbl
        go_wp2
        go_ret
        exact ⟨by rw [HT.out]; rfl, HI.out.1⟩
     ·have HT : Hid (PB = false) := Lib.hid (by rw [HPB.out]; simp [k5])
      go_wp2
      go_ret
      exact ⟨by rw [HT.out]; rfl, HW.out.2⟩
    ·have HT : Hid (PB = false) := Lib.hid (by rw [HPB.out]; simp [k4])
     go_wp2
     go_ret
     exact ⟨by rw [HT.out]; rfl, HW.out.2⟩
   ·have HT : Hid (PB = false) := Lib.hid (by rw [HPB.out]; simp [k3])
    go_wp2
    go_ret
    exact ⟨by rw [HT.out]; rfl, HW.out.2⟩
  ·have HT : Hid (PB = false) := Lib.hid (by rw [HPB.out]; simp [k2])
   go_wp2
   go_ret
   exact ⟨by rw [HT.out]; rfl, HW.out.2⟩
 ·have HT : Hid (PB = false) := Lib.hid (by rw [HPB.out]; simp [k1])
  have n1 : (((log.length : Nat) : Int) != 32) = true := by rw [bne_iff_ne]; omega
  go_wp2
  go_ret
  exact ⟨by rw [HT.out]; rfl, HW.out.2⟩
set_option maxRecDepth 100000 in
set_option maxHeartbeats 8000000 in
theorem rcosigned_any (vp vc vg : Value) (p : PolD) (c : CkD) (g : CgD) (hp : SmallPol p) (hr : c.root.length ≤ 100000000) (hs : SmallSig g.sig) (w : World) (hvp : PolV w vp p) (hvc : CkV w vc c) (hvg : CgV w vg g) :
  Calls Tryz.prog 34 #[vp, vc, vg] w fun e w' => e = .returned (.bool (cgVerB p c g)) ∧ Below w.heap.size w w' := by
 have HPR := Lib.hid (fun (wz : World) (v : Value) (hz : PolV wz v p) => rpolicy_any v p hp.1 hp.2.1 hp.2.2.2 wz hz)
 have HCR := Lib.hid (fun (wz : World) (v : Value) (hz : CkV wz v c) => rckright_any v c (by omega) wz hz)
 have HBD := Lib.hid (fun (wz : World) (v : Value) (hz : CkV wz v c) => rckcosign_any v c (by omega) wz hz)
 change Hid (∀ (wz : World) (v : Value), CkV wz v c → Calls Tryz.prog 32 #[v] wz fun e w' => ∃ v', e = .returned v' ∧ Bys w' v' (bodyS tagCo c) ∧ Below wz.heap.size wz w') at HBD
 have HBL : Hid ((bodyS tagCo c).length ≤ 1000000000) := Lib.hid (by have := bodyS_length tagCo c; have : tagCo.length = 17 := rfl; omega)
 have HVF := Lib.hid (fun (pub : List UInt8) (hpub : pub.length ≤ 1000000000) (wz : World) (vp vm v : Value) (z1 : Bys wz vp pub) (z2 : Bys wz vm (bodyS tagCo c)) (z3 : SigV wz v g.sig) => rverify_any vp vm v pub (bodyS tagCo c) g.sig hpub HBL.out (by have := hs.1; omega) (by have := hs.2.1; omega) hs.2.2.1 hs.2.2.2 wz z1 z2 z3)
 have HCV : Hid (cgVerB p c g = (polB p && (ckB c && (decide (0 ≤ g.wit) && (decide (g.wit < (p.wits.length : Int)) && verifyB (p.wits.getD g.wit.toNat []) (bodyS tagCo c) g.sig))))) := Lib.hid rfl
 have HPW : Hid (∀ i, i < p.wits.length → (p.wits.getD i []).length ≤ 1000000000) := Lib.hid (fun i hi => by have := hp.2.2.1 i hi; rw [List.getD_eq_getElem?_getD, List.getElem?_eq_getElem hi]; exact this)
 generalize cgVerB p c g = CV at *
 generalize bodyS tagCo c = BO at *
 generalize hPB : polB p = PB at *
 generalize hCB : ckB c = CB at *
 clear hp hr hs HBL hPB hCB
 obtain ⟨l, ws, rfl, h1, h2⟩ := hvp
 obtain ⟨L, cl, rfl⟩ := h1.form
 obtain ⟨R, cr, rfl⟩ := h2.form
 obtain ⟨rt, rfl, h3⟩ := hvc
 obtain ⟨T, ct, rfl⟩ := h3.form
 obtain ⟨q1, q2, rfl, h4, h5⟩ := hvg
 obtain ⟨P, cp, rfl⟩ := h4.form
 obtain ⟨Q, cq, rfl⟩ := h5.form
 have HX := Lib.hid (And.intro h1 (And.intro h2 (And.intro h3 (And.intro h4 h5))))
 clear h1 h2 h3 h4 h5
 have hb1 := (Below.refl w.heap.size w).alloc (Nat.le_refl _) (.cells #[.slice L p.log.length cl, .slice R p.wits.length cr, .int .i64 p.quorum] 29)
 have hb2 := hb1.alloc (by simp) (.cells #[.int .i64 c.num, .slice T c.root.length ct] 36)
 have hb3 := hb2.alloc (by simp; omega) (.cells #[.int .i64 g.wit, .int .i64 g.sig.index, .slice P g.sig.parts.length cp, .slice Q g.sig.path.length cq] 47)
 have k1 := ((Blk.new w 29 [.slice L p.log.length cl, .slice R p.wits.length cr, .int .i64 p.quorum]).below ((Below.refl _ _).alloc (Nat.le_refl _) (.cells #[.int .i64 c.num, .slice T c.root.length ct] 36))).below ((Below.refl _ _).alloc (Nat.le_refl _) (.cells #[.int .i64 g.wit, .int .i64 g.sig.index, .slice P g.sig.parts.length cp, .slice Q g.sig.path.length cq] 47))
 have k2 := (Blk.new (w.alloc (.cells #[.slice L p.log.length cl, .slice R p.wits.length cr, .int .i64 p.quorum] 29)) 36 [.int .i64 c.num, .slice T c.root.length ct]).below ((Below.refl _ _).alloc (Nat.le_refl _) (.cells #[.int .i64 g.wit, .int .i64 g.sig.index, .slice P g.sig.parts.length cp, .slice Q g.sig.path.length cq] 47))
 have k3 := Blk.new ((w.alloc (.cells #[.slice L p.log.length cl, .slice R p.wits.length cr, .int .i64 p.quorum] 29)).alloc (.cells #[.int .i64 c.num, .slice T c.root.length ct] 36)) 47 [.int .i64 g.wit, .int .i64 g.sig.index, .slice P g.sig.parts.length cp, .slice Q g.sig.path.length cq]
 rw [show (w.alloc (.cells #[.slice L p.log.length cl, .slice R p.wits.length cr, .int .i64 p.quorum] 29)).heap.size = w.heap.size + 1 by simp] at k2
 rw [show ((w.alloc (.cells #[.slice L p.log.length cl, .slice R p.wits.length cr, .int .i64 p.quorum] 29)).alloc (.cells #[.int .i64 c.num, .slice T c.root.length ct] 36)).heap.size = w.heap.size + 2 by simp] at k3
 have HW := Lib.hid (And.intro k1 (And.intro k2 (And.intro k3 hb3)))
 clear k1 k2 k3 hb1 hb2 hb3
 go_enter Tryz.func34, Tryz.ntmps34
 go_wp2
 refine code_at (fun w0 => Blk w0 w.heap.size 29 [.slice L p.log.length cl, .slice R p.wits.length cr, .int .i64 p.quorum] ∧ Blk w0 (w.heap.size + 1) 36 [.int .i64 c.num, .slice T c.root.length ct] ∧ Blk w0 (w.heap.size + 1 + 1) 47 [.int .i64 g.wit, .int .i64 g.sig.index, .slice P g.sig.parts.length cp, .slice Q g.sig.path.length cq] ∧ Below w.heap.size w w0) HW.out ?_
 intro w0 h0
 have H0 := Lib.hid h0
 have hl1 := h0.1.lt
 have hl2 := h0.2.1.lt
 have hl3 := h0.2.2.1.lt
 clear h0 HW
 have z0 := H0.out.1.cell 0 _ rfl
 have z1 := H0.out.1.cell 1 _ rfl
 have z2 := H0.out.1.cell 2 _ rfl
 have z3 := H0.out.2.1.cell 0 _ rfl
 have z4 := H0.out.2.1.cell 1 _ rfl
 have z5 := H0.out.2.2.1.cell 0 _ rfl
 have z6 := H0.out.2.2.1.cell 1 _ rfl
 have z7 := H0.out.2.2.1.cell 2 _ rfl
 have z8 := H0.out.2.2.1.cell 3 _ rfl
 cases PB with
 | false =>
  refine wp_region_held_drew (S := fun w' => w'.cell? ⟨w.heap.size, 0, none⟩ = some (.slice L p.log.length cl) ∧ w'.cell? ⟨w.heap.size, 1, none⟩ = some (.slice R p.wits.length cr) ∧ w'.cell? ⟨w.heap.size, 2, none⟩ = some (.int .i64 p.quorum) ∧ w'.cell? ⟨w.heap.size + 1, 0, none⟩ = some (.int .i64 c.num) ∧ w'.cell? ⟨w.heap.size + 1, 1, none⟩ = some (.slice T c.root.length ct) ∧ w'.cell? ⟨w.heap.size + 1 + 1, 0, none⟩ = some (.int .i64 g.wit) ∧ w'.cell? ⟨w.heap.size + 1 + 1, 1, none⟩ = some (.int .i64 g.sig.index) ∧ w'.cell? ⟨w.heap.size + 1 + 1, 2, none⟩ = some (.slice P g.sig.parts.length cp) ∧ w'.cell? ⟨w.heap.size + 1 + 1, 3, none⟩ = some (.slice Q g.sig.path.length cq)) (by kernel_rfl) ?_ (fun hHeld => ?_)
  ·exact ⟨z0, z1, z2, z3, z4, z5, z6, z7, z8⟩
  refine ty 0 7 rfl rfl ?_; simp only [sa, sb, sc]
  refine rd 1 (by kernel_rfl) rfl (fun K hK => ?_)
  go_simp
  go_at_call 60
  refine (HPR.out w0.drew _ ⟨_, _, rfl, (HX.out.1.below H0.out.2.2.2).below (Below.refl w0.heap.size w0).drew, (HX.out.2.1.below H0.out.2.2.2).below (Below.refl w0.heap.size w0).drew⟩).mono ?_
  rintro e w1 ⟨rfl, hb'⟩
  have hh : Below w0.heap.size w0 w1 := ⟨hb'.os, hb'.tape, hb'.output, hb'.size, hb'.block⟩
  have H1 := Lib.hid (And.intro (H0.out.1.below hh) (And.intro (H0.out.2.1.below hh) (And.intro (H0.out.2.2.1.below hh) (H0.out.2.2.2.trans (hh.mono H0.out.2.2.2.size)))))
  have x1_0 := H1.out.1.cell 0 _ rfl
  have x1_1 := H1.out.1.cell 1 _ rfl
  have x1_2 := H1.out.1.cell 2 _ rfl
  have x1_3 := H1.out.2.1.cell 0 _ rfl
  have x1_4 := H1.out.2.1.cell 1 _ rfl
  have x1_5 := H1.out.2.2.1.cell 0 _ rfl
  have x1_6 := H1.out.2.2.1.cell 1 _ rfl
  have x1_7 := H1.out.2.2.1.cell 2 _ rfl
  have x1_8 := H1.out.2.2.1.cell 3 _ rfl
  clear hh hb' z0 z1 z2 z3 z4 z5 z6 z7 z8
  try dsimp only
  refine hK.out _ _ ⟨x1_0, x1_1, x1_2, x1_3, x1_4, x1_5, x1_6, x1_7, x1_8⟩ (fun hHeld1 => ?_)
  clear hK K; try simp only [Act.put, sa, sb, sc]
  refine ty 2 9 rfl rfl ?_; simp only [sa, sb, sc]
  refine tn 3 10 rfl rfl ?_; simp only [sa, sb, sc]
  refine tn 4 11 rfl rfl ?_; simp only [sa, sb, sc]
  refine ty 5 12 rfl rfl ?_; simp only [sa, sb, sc]
  refine ty 6 13 rfl rfl ?_; simp only [sa, sb, sc]
  refine tn 7 14 rfl rfl ?_; simp only [sa, sb, sc]
  refine tn 8 15 rfl rfl ?_; simp only [sa, sb, sc]
  refine tn 9 16 rfl rfl ?_; simp only [sa, sb, sc]
  refine ty 10 17 rfl rfl ?_; simp only [sa, sb, sc]
  refine ty 11 18 rfl rfl ?_; simp only [sa, sb, sc]
  refine tn 12 19 rfl rfl ?_; simp only [sa, sb, sc]
  refine tn 13 20 rfl rfl ?_; simp only [sa, sb, sc]
  refine tn 14 21 rfl rfl ?_; simp only [sa, sb, sc]
  refine tn 15 22 rfl rfl ?_; simp only [sa, sb, sc]
  refine tn 16 23 rfl rfl ?_; simp only [sa, sb, sc]
  refine tn 17 24 rfl rfl ?_; simp only [sa, sb, sc]
  refine ty 18 25 rfl rfl ?_; simp only [sa, sb, sc]
  refine ty 19 26 rfl rfl ?_; simp only [sa, sb, sc]
  refine tn 20 27 rfl rfl ?_; simp only [sa, sb, sc]
  refine tn 21 28 rfl rfl ?_; simp only [sa, sb, sc]
  refine tn 22 29 rfl rfl ?_; simp only [sa, sb, sc]
  refine tn 23 30 rfl rfl ?_; simp only [sa, sb, sc]
  refine tn 24 31 rfl rfl ?_; simp only [sa, sb, sc]
  refine tn 25 32 rfl rfl ?_; simp only [sa, sb, sc]
  refine tn 26 33 rfl rfl ?_; simp only [sa, sb, sc]
  refine tn 27 34 rfl rfl ?_; simp only [sa, sb, sc]
  refine tn 28 35 rfl rfl ?_; simp only [sa, sb, sc]
  refine tn 29 36 rfl rfl ?_; simp only [sa, sb, sc]
  refine tn 30 37 rfl rfl ?_; simp only [sa, sb, sc]
  refine ty 31 38 rfl rfl ?_; simp only [sa, sb, sc]
  refine ty 32 6 rfl rfl ?_; simp only [sa, sb, sc]
  refine wpAnyH_done (by kernel_rfl) ?_ _
  have HF : Hid (CV = false) := Lib.hid (by rw [HCV.out]; rfl)
  go_wp2
  go_ret
  exact ⟨by rw [HF.out]; rfl, H1.out.2.2.2⟩
 | true =>
  rw [Bool.true_and] at HCV
  cases CB with
  | false =>
   refine wp_region_held_drew (S := fun w' => w'.cell? ⟨w.heap.size, 0, none⟩ = some (.slice L p.log.length cl) ∧ w'.cell? ⟨w.heap.size, 1, none⟩ = some (.slice R p.wits.length cr) ∧ w'.cell? ⟨w.heap.size, 2, none⟩ = some (.int .i64 p.quorum) ∧ w'.cell? ⟨w.heap.size + 1, 0, none⟩ = some (.int .i64 c.num) ∧ w'.cell? ⟨w.heap.size + 1, 1, none⟩ = some (.slice T c.root.length ct) ∧ w'.cell? ⟨w.heap.size + 1 + 1, 0, none⟩ = some (.int .i64 g.wit) ∧ w'.cell? ⟨w.heap.size + 1 + 1, 1, none⟩ = some (.int .i64 g.sig.index) ∧ w'.cell? ⟨w.heap.size + 1 + 1, 2, none⟩ = some (.slice P g.sig.parts.length cp) ∧ w'.cell? ⟨w.heap.size + 1 + 1, 3, none⟩ = some (.slice Q g.sig.path.length cq)) (by kernel_rfl) ?_ (fun hHeld => ?_)
   ·exact ⟨z0, z1, z2, z3, z4, z5, z6, z7, z8⟩
   refine ty 0 7 rfl rfl ?_; simp only [sa, sb, sc]
   refine rd 1 (by kernel_rfl) rfl (fun K hK => ?_)
   go_simp
   go_at_call 60
   refine (HPR.out w0.drew _ ⟨_, _, rfl, (HX.out.1.below H0.out.2.2.2).below (Below.refl w0.heap.size w0).drew, (HX.out.2.1.below H0.out.2.2.2).below (Below.refl w0.heap.size w0).drew⟩).mono ?_
   rintro e w1 ⟨rfl, hb'⟩
   have hh : Below w0.heap.size w0 w1 := ⟨hb'.os, hb'.tape, hb'.output, hb'.size, hb'.block⟩
   have H1 := Lib.hid (And.intro (H0.out.1.below hh) (And.intro (H0.out.2.1.below hh) (And.intro (H0.out.2.2.1.below hh) (H0.out.2.2.2.trans (hh.mono H0.out.2.2.2.size)))))
   have x1_0 := H1.out.1.cell 0 _ rfl
   have x1_1 := H1.out.1.cell 1 _ rfl
   have x1_2 := H1.out.1.cell 2 _ rfl
   have x1_3 := H1.out.2.1.cell 0 _ rfl
   have x1_4 := H1.out.2.1.cell 1 _ rfl
   have x1_5 := H1.out.2.2.1.cell 0 _ rfl
   have x1_6 := H1.out.2.2.1.cell 1 _ rfl
   have x1_7 := H1.out.2.2.1.cell 2 _ rfl
   have x1_8 := H1.out.2.2.1.cell 3 _ rfl
   clear hh hb' z0 z1 z2 z3 z4 z5 z6 z7 z8
   try dsimp only
   refine hK.out _ _ ⟨x1_0, x1_1, x1_2, x1_3, x1_4, x1_5, x1_6, x1_7, x1_8⟩ (fun hHeld1 => ?_)
   clear hK K; try simp only [Act.put, sa, sb, sc]
   refine ty 2 9 rfl rfl ?_; simp only [sa, sb, sc]
   refine ty 3 10 rfl rfl ?_; simp only [sa, sb, sc]
   refine rd 4 (by kernel_rfl) rfl (fun K hK => ?_)
   go_simp
   go_at_call 61
   refine (HCR.out w1 _ ⟨_, rfl, HX.out.2.2.1.below H1.out.2.2.2⟩).mono ?_
   rintro e w2 ⟨rfl, hb'⟩
   have hh : Below w1.heap.size w1 w2 := ⟨hb'.os, hb'.tape, hb'.output, hb'.size, hb'.block⟩
   have H2 := Lib.hid (And.intro (H1.out.1.below hh) (And.intro (H1.out.2.1.below hh) (And.intro (H1.out.2.2.1.below hh) (H1.out.2.2.2.trans (hh.mono H1.out.2.2.2.size)))))
   have x2_0 := H2.out.1.cell 0 _ rfl
   have x2_1 := H2.out.1.cell 1 _ rfl
   have x2_2 := H2.out.1.cell 2 _ rfl
   have x2_3 := H2.out.2.1.cell 0 _ rfl
   have x2_4 := H2.out.2.1.cell 1 _ rfl
   have x2_5 := H2.out.2.2.1.cell 0 _ rfl
   have x2_6 := H2.out.2.2.1.cell 1 _ rfl
   have x2_7 := H2.out.2.2.1.cell 2 _ rfl
   have x2_8 := H2.out.2.2.1.cell 3 _ rfl
   clear hh hb' x1_0 x1_1 x1_2 x1_3 x1_4 x1_5 x1_6 x1_7 x1_8
   try dsimp only
   refine hK.out _ _ ⟨x2_0, x2_1, x2_2, x2_3, x2_4, x2_5, x2_6, x2_7, x2_8⟩ (fun hHeld4 => ?_)
   clear hK K; try simp only [Act.put, sa, sb, sc]
   refine ty 5 12 rfl rfl ?_; simp only [sa, sb, sc]
   refine ty 6 13 rfl rfl ?_; simp only [sa, sb, sc]
   refine tn 7 14 rfl rfl ?_; simp only [sa, sb, sc]
   refine tn 8 15 rfl rfl ?_; simp only [sa, sb, sc]
   refine tn 9 16 rfl rfl ?_; simp only [sa, sb, sc]
   refine ty 10 17 rfl rfl ?_; simp only [sa, sb, sc]
   refine ty 11 18 rfl rfl ?_; simp only [sa, sb, sc]
   refine tn 12 19 rfl rfl ?_; simp only [sa, sb, sc]
   refine tn 13 20 rfl rfl ?_; simp only [sa, sb, sc]
   refine tn 14 21 rfl rfl ?_; simp only [sa, sb, sc]
   refine tn 15 22 rfl rfl ?_; simp only [sa, sb, sc]
   refine tn 16 23 rfl rfl ?_; simp only [sa, sb, sc]
   refine tn 17 24 rfl rfl ?_; simp only [sa, sb, sc]
   refine ty 18 25 rfl rfl ?_; simp only [sa, sb, sc]
   refine ty 19 26 rfl rfl ?_; simp only [sa, sb, sc]
   refine tn 20 27 rfl rfl ?_; simp only [sa, sb, sc]
   refine tn 21 28 rfl rfl ?_; simp only [sa, sb, sc]
   refine tn 22 29 rfl rfl ?_; simp only [sa, sb, sc]
   refine tn 23 30 rfl rfl ?_; simp only [sa, sb, sc]
   refine tn 24 31 rfl rfl ?_; simp only [sa, sb, sc]
   refine tn 25 32 rfl rfl ?_; simp only [sa, sb, sc]
   refine tn 26 33 rfl rfl ?_; simp only [sa, sb, sc]
   refine tn 27 34 rfl rfl ?_; simp only [sa, sb, sc]
   refine tn 28 35 rfl rfl ?_; simp only [sa, sb, sc]
   refine tn 29 36 rfl rfl ?_; simp only [sa, sb, sc]
   refine tn 30 37 rfl rfl ?_; simp only [sa, sb, sc]
   refine ty 31 38 rfl rfl ?_; simp only [sa, sb, sc]
   refine ty 32 6 rfl rfl ?_; simp only [sa, sb, sc]
   refine wpAnyH_done (by kernel_rfl) ?_ _
   have HF : Hid (CV = false) := Lib.hid (by rw [HCV.out]; rfl)
   go_wp2
   go_ret
   exact ⟨by rw [HF.out]; rfl, H2.out.2.2.2⟩
  | true =>
   rw [Bool.true_and] at HCV
   by_cases hw0 : 0 ≤ g.wit
   ·by_cases hw1 : g.wit < (p.wits.length : Int)
    ·rw [decide_eq_true hw0, decide_eq_true hw1, Bool.true_and, Bool.true_and] at HCV
     obtain ⟨k, hk⟩ := Int.eq_ofNat_of_zero_le hw0
     have hgw : g.wit = (k : Int) := hk
     rw [hgw, Int.toNat_natCast] at HCV
     rw [hgw] at hw0 hw1 z5
     have hkl : k < p.wits.length := by omega
     obtain ⟨wg, wo, rfl, hwg, -, hroom, hroom2, hall⟩ := HX.out.2.1.all (by omega)
     obtain ⟨A9, c9, hcu, hbu⟩ := hall k hkl
     have HVK := Lib.hid (HVF.out _ (HPW.out k hkl))
     have HWC := Lib.hid (And.intro hcu hbu)
     have zw := (H0.out.2.2.2.cell (p := ⟨wg, wo + k, none⟩) hwg).trans hcu
     unfold maxLen at hroom2
     clear hcu hbu hall hk
     generalize p.wits.getD k [] = PUB at *
     generalize verifyB PUB BO g.sig = VB at *
     refine wp_region_held_drew (S := fun w' => w'.cell? ⟨w.heap.size, 0, none⟩ = some (.slice L p.log.length cl) ∧ w'.cell? ⟨w.heap.size, 1, none⟩ = some (.slice (some ⟨wg, wo, none⟩) p.wits.length cr) ∧ w'.cell? ⟨w.heap.size, 2, none⟩ = some (.int .i64 p.quorum) ∧ w'.cell? ⟨w.heap.size + 1, 0, none⟩ = some (.int .i64 c.num) ∧ w'.cell? ⟨w.heap.size + 1, 1, none⟩ = some (.slice T c.root.length ct) ∧ w'.cell? ⟨w.heap.size + 1 + 1, 0, none⟩ = some (.int .i64 k) ∧ w'.cell? ⟨w.heap.size + 1 + 1, 1, none⟩ = some (.int .i64 g.sig.index) ∧ w'.cell? ⟨w.heap.size + 1 + 1, 2, none⟩ = some (.slice P g.sig.parts.length cp) ∧ w'.cell? ⟨w.heap.size + 1 + 1, 3, none⟩ = some (.slice Q g.sig.path.length cq) ∧ w'.cell? ⟨wg, wo + k, none⟩ = some (.slice A9 PUB.length c9)) (by kernel_rfl) ?_ (fun hHeld => ?_)
     ·exact ⟨z0, z1, z2, z3, z4, z5, z6, z7, z8, zw⟩
     refine ty 0 7 rfl rfl ?_; simp only [sa, sb, sc]
     refine rd 1 (by kernel_rfl) rfl (fun K hK => ?_)
     go_simp
     go_at_call 60
     refine (HPR.out w0.drew _ ⟨_, _, rfl, (HX.out.1.below H0.out.2.2.2).below (Below.refl w0.heap.size w0).drew, (HX.out.2.1.below H0.out.2.2.2).below (Below.refl w0.heap.size w0).drew⟩).mono ?_
     rintro e w1 ⟨rfl, hb'⟩
     have hh : Below w0.heap.size w0 w1 := ⟨hb'.os, hb'.tape, hb'.output, hb'.size, hb'.block⟩
     have H1 := Lib.hid (And.intro (H0.out.1.below hh) (And.intro (H0.out.2.1.below hh) (And.intro (H0.out.2.2.1.below hh) (H0.out.2.2.2.trans (hh.mono H0.out.2.2.2.size)))))
     have x1_0 := H1.out.1.cell 0 _ rfl
     have x1_1 := H1.out.1.cell 1 _ rfl
     have x1_2 := H1.out.1.cell 2 _ rfl
     have x1_3 := H1.out.2.1.cell 0 _ rfl
     have x1_4 := H1.out.2.1.cell 1 _ rfl
     have x1_5 := H1.out.2.2.1.cell 0 _ rfl
     have x1_6 := H1.out.2.2.1.cell 1 _ rfl
     have x1_7 := H1.out.2.2.1.cell 2 _ rfl
     have x1_8 := H1.out.2.2.1.cell 3 _ rfl
     rw [hgw] at x1_5
     have x1_w := (H1.out.2.2.2.cell (p := ⟨wg, wo + k, none⟩) hwg).trans HWC.out.1
     clear hh hb' z0 z1 z2 z3 z4 z5 z6 z7 z8 zw
     try dsimp only
     refine hK.out _ _ ⟨x1_0, x1_1, x1_2, x1_3, x1_4, x1_5, x1_6, x1_7, x1_8, x1_w⟩ (fun hHeld1 => ?_)
     clear hK K; try simp only [Act.put, sa, sb, sc]
     refine ty 2 9 rfl rfl ?_; simp only [sa, sb, sc]
     refine ty 3 10 rfl rfl ?_; simp only [sa, sb, sc]
     refine rd 4 (by kernel_rfl) rfl (fun K hK => ?_)
     go_simp
     go_at_call 61
     refine (HCR.out w1 _ ⟨_, rfl, HX.out.2.2.1.below H1.out.2.2.2⟩).mono ?_
     rintro e w2 ⟨rfl, hb'⟩
     have hh : Below w1.heap.size w1 w2 := ⟨hb'.os, hb'.tape, hb'.output, hb'.size, hb'.block⟩
     have H2 := Lib.hid (And.intro (H1.out.1.below hh) (And.intro (H1.out.2.1.below hh) (And.intro (H1.out.2.2.1.below hh) (H1.out.2.2.2.trans (hh.mono H1.out.2.2.2.size)))))
     have x2_0 := H2.out.1.cell 0 _ rfl
     have x2_1 := H2.out.1.cell 1 _ rfl
     have x2_2 := H2.out.1.cell 2 _ rfl
     have x2_3 := H2.out.2.1.cell 0 _ rfl
     have x2_4 := H2.out.2.1.cell 1 _ rfl
     have x2_5 := H2.out.2.2.1.cell 0 _ rfl
     have x2_6 := H2.out.2.2.1.cell 1 _ rfl
     have x2_7 := H2.out.2.2.1.cell 2 _ rfl
     have x2_8 := H2.out.2.2.1.cell 3 _ rfl
     rw [hgw] at x2_5
     have x2_w := (H2.out.2.2.2.cell (p := ⟨wg, wo + k, none⟩) hwg).trans HWC.out.1
     clear hh hb' x1_0 x1_1 x1_2 x1_3 x1_4 x1_5 x1_6 x1_7 x1_8 x1_w
     try dsimp only
     refine hK.out _ _ ⟨x2_0, x2_1, x2_2, x2_3, x2_4, x2_5, x2_6, x2_7, x2_8, x2_w⟩ (fun hHeld4 => ?_)
     clear hK K; try simp only [Act.put, sa, sb, sc]
     refine ty 5 12 rfl rfl ?_; simp only [sa, sb, sc]
     refine ty 6 13 rfl rfl ?_; simp only [sa, sb, sc]
     refine ty 7 14 rfl rfl ?_; simp only [sa, sb, sc]
     refine ty 8 15 rfl rfl ?_; simp only [sa, sb, sc]
     refine ty 9 16 rfl rfl ?_; simp only [sa, sb, sc]
     refine ty 10 17 rfl rfl ?_; simp only [sa, sb, sc]
     refine ty 11 18 rfl rfl ?_; simp only [sa, sb, sc]
     refine ty 12 19 rfl rfl ?_; simp only [sa, sb, sc]
     refine ty 13 20 rfl rfl ?_; simp only [sa, sb, sc]
     refine ty 14 21 rfl rfl ?_; simp only [sa, sb, sc]
     refine ty 15 22 rfl rfl ?_; simp only [sa, sb, sc]
     refine ty 16 23 rfl rfl ?_; simp only [sa, sb, sc]
     refine ty 17 24 rfl rfl ?_; simp only [sa, sb, sc]
     refine ty 18 25 rfl rfl ?_; simp only [sa, sb, sc]
     refine ty 19 26 rfl rfl ?_; simp only [sa, sb, sc]
     refine ty 20 27 rfl rfl ?_; simp only [sa, sb, sc]
     refine ty 21 28 rfl rfl ?_; simp only [sa, sb, sc]
     refine ty 22 29 rfl rfl ?_; simp only [sa, sb, sc]
     refine ty 23 30 rfl rfl ?_; simp only [sa, sb, sc]
     refine ty 24 31 rfl rfl ?_; simp only [sa, sb, sc]
     refine ty 25 32 rfl rfl ?_; simp only [sa, sb, sc]
     refine ty 26 33 rfl rfl ?_; simp only [sa, sb, sc]
     refine ty 28 35 rfl rfl ?_; simp only [sa, sb, sc]
     refine ty 29 36 rfl rfl ?_; simp only [sa, sb, sc]
     refine rd 27 (by kernel_rfl) rfl (fun K hK => ?_)
     go_simp
     go_at_call 32
     refine (HBD.out w2 _ ⟨_, rfl, HX.out.2.2.1.below H2.out.2.2.2⟩).mono ?_
     rintro e w3 ⟨v3, rfl, hbo, hb'⟩
     obtain ⟨A3, c3, rfl⟩ := hbo.form
     have HBO := Lib.hid hbo
     clear hbo
     have hh : Below w2.heap.size w2 w3 := ⟨hb'.os, hb'.tape, hb'.output, hb'.size, hb'.block⟩
     have H3 := Lib.hid (And.intro (H2.out.1.below hh) (And.intro (H2.out.2.1.below hh) (And.intro (H2.out.2.2.1.below hh) (H2.out.2.2.2.trans (hh.mono H2.out.2.2.2.size)))))
     have x3_0 := H3.out.1.cell 0 _ rfl
     have x3_1 := H3.out.1.cell 1 _ rfl
     have x3_2 := H3.out.1.cell 2 _ rfl
     have x3_3 := H3.out.2.1.cell 0 _ rfl
     have x3_4 := H3.out.2.1.cell 1 _ rfl
     have x3_5 := H3.out.2.2.1.cell 0 _ rfl
     have x3_6 := H3.out.2.2.1.cell 1 _ rfl
     have x3_7 := H3.out.2.2.1.cell 2 _ rfl
     have x3_8 := H3.out.2.2.1.cell 3 _ rfl
     rw [hgw] at x3_5
     have x3_w := (H3.out.2.2.2.cell (p := ⟨wg, wo + k, none⟩) hwg).trans HWC.out.1
     clear hh hb' x2_0 x2_1 x2_2 x2_3 x2_4 x2_5 x2_6 x2_7 x2_8 x2_w
     try dsimp only
     refine hK.out _ _ ⟨x3_0, x3_1, x3_2, x3_3, x3_4, x3_5, x3_6, x3_7, x3_8, x3_w⟩ (fun hHeld27 => ?_)
     clear hK K; try simp only [Act.put, sa, sb, sc]
     refine rd 30 (by kernel_rfl) rfl (fun K hK => ?_)
     go_simp
     go_at_call 62
     refine (HVK.out w3 _ _ _ (HWC.out.2.below H3.out.2.2.2) HBO.out ⟨_, _, rfl, HX.out.2.2.2.1.below H3.out.2.2.2, HX.out.2.2.2.2.below H3.out.2.2.2⟩).mono ?_
     rintro e w4 ⟨rfl, hb'⟩
     have hh : Below w3.heap.size w3 w4 := ⟨hb'.os, hb'.tape, hb'.output, hb'.size, hb'.block⟩
     have H4 := Lib.hid (And.intro (H3.out.1.below hh) (And.intro (H3.out.2.1.below hh) (And.intro (H3.out.2.2.1.below hh) (H3.out.2.2.2.trans (hh.mono H3.out.2.2.2.size)))))
     have x4_0 := H4.out.1.cell 0 _ rfl
     have x4_1 := H4.out.1.cell 1 _ rfl
     have x4_2 := H4.out.1.cell 2 _ rfl
     have x4_3 := H4.out.2.1.cell 0 _ rfl
     have x4_4 := H4.out.2.1.cell 1 _ rfl
     have x4_5 := H4.out.2.2.1.cell 0 _ rfl
     have x4_6 := H4.out.2.2.1.cell 1 _ rfl
     have x4_7 := H4.out.2.2.1.cell 2 _ rfl
     have x4_8 := H4.out.2.2.1.cell 3 _ rfl
     rw [hgw] at x4_5
     have x4_w := (H4.out.2.2.2.cell (p := ⟨wg, wo + k, none⟩) hwg).trans HWC.out.1
     clear hh hb' x3_0 x3_1 x3_2 x3_3 x3_4 x3_5 x3_6 x3_7 x3_8 x3_w
     try dsimp only
     refine hK.out _ _ ⟨x4_0, x4_1, x4_2, x4_3, x4_4, x4_5, x4_6, x4_7, x4_8, x4_w⟩ (fun hHeld30 => ?_)
     clear hK K; try simp only [Act.put, sa, sb, sc]
     refine ty 31 38 rfl rfl ?_; simp only [sa, sb, sc]
     refine ty 32 6 rfl rfl ?_; simp only [sa, sb, sc]
     refine wpAnyH_done (by kernel_rfl) ?_ _
     have HF : Hid (CV = VB) := Lib.hid (by rw [HCV.out])
     go_wp2
     go_ret
     exact ⟨by rw [HF.out]; rfl, H4.out.2.2.2⟩
    ·have hwn : ¬ g.wit < (p.wits.length : Int) := hw1
     refine wp_region_held_drew (S := fun w' => w'.cell? ⟨w.heap.size, 0, none⟩ = some (.slice L p.log.length cl) ∧ w'.cell? ⟨w.heap.size, 1, none⟩ = some (.slice R p.wits.length cr) ∧ w'.cell? ⟨w.heap.size, 2, none⟩ = some (.int .i64 p.quorum) ∧ w'.cell? ⟨w.heap.size + 1, 0, none⟩ = some (.int .i64 c.num) ∧ w'.cell? ⟨w.heap.size + 1, 1, none⟩ = some (.slice T c.root.length ct) ∧ w'.cell? ⟨w.heap.size + 1 + 1, 0, none⟩ = some (.int .i64 g.wit) ∧ w'.cell? ⟨w.heap.size + 1 + 1, 1, none⟩ = some (.int .i64 g.sig.index) ∧ w'.cell? ⟨w.heap.size + 1 + 1, 2, none⟩ = some (.slice P g.sig.parts.length cp) ∧ w'.cell? ⟨w.heap.size + 1 + 1, 3, none⟩ = some (.slice Q g.sig.path.length cq)) (by kernel_rfl) ?_ (fun hHeld => ?_)
     ·exact ⟨z0, z1, z2, z3, z4, z5, z6, z7, z8⟩
     refine ty 0 7 rfl rfl ?_; simp only [sa, sb, sc]
     refine rd 1 (by kernel_rfl) rfl (fun K hK => ?_)
     go_simp
     go_at_call 60
     refine (HPR.out w0.drew _ ⟨_, _, rfl, (HX.out.1.below H0.out.2.2.2).below (Below.refl w0.heap.size w0).drew, (HX.out.2.1.below H0.out.2.2.2).below (Below.refl w0.heap.size w0).drew⟩).mono ?_
     rintro e w1 ⟨rfl, hb'⟩
     have hh : Below w0.heap.size w0 w1 := ⟨hb'.os, hb'.tape, hb'.output, hb'.size, hb'.block⟩
     have H1 := Lib.hid (And.intro (H0.out.1.below hh) (And.intro (H0.out.2.1.below hh) (And.intro (H0.out.2.2.1.below hh) (H0.out.2.2.2.trans (hh.mono H0.out.2.2.2.size)))))
     have x1_0 := H1.out.1.cell 0 _ rfl
     have x1_1 := H1.out.1.cell 1 _ rfl
     have x1_2 := H1.out.1.cell 2 _ rfl
     have x1_3 := H1.out.2.1.cell 0 _ rfl
     have x1_4 := H1.out.2.1.cell 1 _ rfl
     have x1_5 := H1.out.2.2.1.cell 0 _ rfl
     have x1_6 := H1.out.2.2.1.cell 1 _ rfl
     have x1_7 := H1.out.2.2.1.cell 2 _ rfl
     have x1_8 := H1.out.2.2.1.cell 3 _ rfl
     clear hh hb' z0 z1 z2 z3 z4 z5 z6 z7 z8
     try dsimp only
     refine hK.out _ _ ⟨x1_0, x1_1, x1_2, x1_3, x1_4, x1_5, x1_6, x1_7, x1_8⟩ (fun hHeld1 => ?_)
     clear hK K; try simp only [Act.put, sa, sb, sc]
     refine ty 2 9 rfl rfl ?_; simp only [sa, sb, sc]
     refine ty 3 10 rfl rfl ?_; simp only [sa, sb, sc]
     refine rd 4 (by kernel_rfl) rfl (fun K hK => ?_)
     go_simp
     go_at_call 61
     refine (HCR.out w1 _ ⟨_, rfl, HX.out.2.2.1.below H1.out.2.2.2⟩).mono ?_
     rintro e w2 ⟨rfl, hb'⟩
     have hh : Below w1.heap.size w1 w2 := ⟨hb'.os, hb'.tape, hb'.output, hb'.size, hb'.block⟩
     have H2 := Lib.hid (And.intro (H1.out.1.below hh) (And.intro (H1.out.2.1.below hh) (And.intro (H1.out.2.2.1.below hh) (H1.out.2.2.2.trans (hh.mono H1.out.2.2.2.size)))))
     have x2_0 := H2.out.1.cell 0 _ rfl
     have x2_1 := H2.out.1.cell 1 _ rfl
     have x2_2 := H2.out.1.cell 2 _ rfl
     have x2_3 := H2.out.2.1.cell 0 _ rfl
     have x2_4 := H2.out.2.1.cell 1 _ rfl
     have x2_5 := H2.out.2.2.1.cell 0 _ rfl
     have x2_6 := H2.out.2.2.1.cell 1 _ rfl
     have x2_7 := H2.out.2.2.1.cell 2 _ rfl
     have x2_8 := H2.out.2.2.1.cell 3 _ rfl
     clear hh hb' x1_0 x1_1 x1_2 x1_3 x1_4 x1_5 x1_6 x1_7 x1_8
     try dsimp only
     refine hK.out _ _ ⟨x2_0, x2_1, x2_2, x2_3, x2_4, x2_5, x2_6, x2_7, x2_8⟩ (fun hHeld4 => ?_)
     clear hK K; try simp only [Act.put, sa, sb, sc]
     refine ty 5 12 rfl rfl ?_; simp only [sa, sb, sc]
     refine ty 6 13 rfl rfl ?_; simp only [sa, sb, sc]
     refine ty 7 14 rfl rfl ?_; simp only [sa, sb, sc]
     refine ty 8 15 rfl rfl ?_; simp only [sa, sb, sc]
     refine ty 9 16 rfl rfl ?_; simp only [sa, sb, sc]
     refine ty 10 17 rfl rfl ?_; simp only [sa, sb, sc]
     refine ty 11 18 rfl rfl ?_; simp only [sa, sb, sc]
     refine ty 12 19 rfl rfl ?_; simp only [sa, sb, sc]
     refine ty 13 20 rfl rfl ?_; simp only [sa, sb, sc]
     refine ty 14 21 rfl rfl ?_; simp only [sa, sb, sc]
     refine ty 15 22 rfl rfl ?_; simp only [sa, sb, sc]
     refine ty 16 23 rfl rfl ?_; simp only [sa, sb, sc]
     refine ty 17 24 rfl rfl ?_; simp only [sa, sb, sc]
     refine ty 18 25 rfl rfl ?_; simp only [sa, sb, sc]
     refine ty 19 26 rfl rfl ?_; simp only [sa, sb, sc]
     refine tn 20 27 rfl rfl ?_; simp only [sa, sb, sc]
     refine tn 21 28 rfl rfl ?_; simp only [sa, sb, sc]
     refine tn 22 29 rfl rfl ?_; simp only [sa, sb, sc]
     refine tn 23 30 rfl rfl ?_; simp only [sa, sb, sc]
     refine tn 24 31 rfl rfl ?_; simp only [sa, sb, sc]
     refine tn 25 32 rfl rfl ?_; simp only [sa, sb, sc]
     refine tn 26 33 rfl rfl ?_; simp only [sa, sb, sc]
     refine tn 27 34 rfl rfl ?_; simp only [sa, sb, sc]
     refine tn 28 35 rfl rfl ?_; simp only [sa, sb, sc]
     refine tn 29 36 rfl rfl ?_; simp only [sa, sb, sc]
     refine tn 30 37 rfl rfl ?_; simp only [sa, sb, sc]
     refine ty 31 38 rfl rfl ?_; simp only [sa, sb, sc]
     refine ty 32 6 rfl rfl ?_; simp only [sa, sb, sc]
     refine wpAnyH_done (by kernel_rfl) ?_ _
     have HF : Hid (CV = false) := Lib.hid (by rw [HCV.out, decide_eq_false hwn]; simp)
     go_wp2
     go_ret
     exact ⟨by rw [HF.out]; rfl, H2.out.2.2.2⟩
   ·have hwn : ¬ 0 ≤ g.wit := hw0
    refine wp_region_held_drew (S := fun w' => w'.cell? ⟨w.heap.size, 0, none⟩ = some (.slice L p.log.length cl) ∧ w'.cell? ⟨w.heap.size, 1, none⟩ = some (.slice R p.wits.length cr) ∧ w'.cell? ⟨w.heap.size, 2, none⟩ = some (.int .i64 p.quorum) ∧ w'.cell? ⟨w.heap.size + 1, 0, none⟩ = some (.int .i64 c.num) ∧ w'.cell? ⟨w.heap.size + 1, 1, none⟩ = some (.slice T c.root.length ct) ∧ w'.cell? ⟨w.heap.size + 1 + 1, 0, none⟩ = some (.int .i64 g.wit) ∧ w'.cell? ⟨w.heap.size + 1 + 1, 1, none⟩ = some (.int .i64 g.sig.index) ∧ w'.cell? ⟨w.heap.size + 1 + 1, 2, none⟩ = some (.slice P g.sig.parts.length cp) ∧ w'.cell? ⟨w.heap.size + 1 + 1, 3, none⟩ = some (.slice Q g.sig.path.length cq)) (by kernel_rfl) ?_ (fun hHeld => ?_)
    ·exact ⟨z0, z1, z2, z3, z4, z5, z6, z7, z8⟩
    refine ty 0 7 rfl rfl ?_; simp only [sa, sb, sc]
    refine rd 1 (by kernel_rfl) rfl (fun K hK => ?_)
    go_simp
    go_at_call 60
    refine (HPR.out w0.drew _ ⟨_, _, rfl, (HX.out.1.below H0.out.2.2.2).below (Below.refl w0.heap.size w0).drew, (HX.out.2.1.below H0.out.2.2.2).below (Below.refl w0.heap.size w0).drew⟩).mono ?_
    rintro e w1 ⟨rfl, hb'⟩
    have hh : Below w0.heap.size w0 w1 := ⟨hb'.os, hb'.tape, hb'.output, hb'.size, hb'.block⟩
    have H1 := Lib.hid (And.intro (H0.out.1.below hh) (And.intro (H0.out.2.1.below hh) (And.intro (H0.out.2.2.1.below hh) (H0.out.2.2.2.trans (hh.mono H0.out.2.2.2.size)))))
    have x1_0 := H1.out.1.cell 0 _ rfl
    have x1_1 := H1.out.1.cell 1 _ rfl
    have x1_2 := H1.out.1.cell 2 _ rfl
    have x1_3 := H1.out.2.1.cell 0 _ rfl
    have x1_4 := H1.out.2.1.cell 1 _ rfl
    have x1_5 := H1.out.2.2.1.cell 0 _ rfl
    have x1_6 := H1.out.2.2.1.cell 1 _ rfl
    have x1_7 := H1.out.2.2.1.cell 2 _ rfl
    have x1_8 := H1.out.2.2.1.cell 3 _ rfl
    clear hh hb' z0 z1 z2 z3 z4 z5 z6 z7 z8
    try dsimp only
    refine hK.out _ _ ⟨x1_0, x1_1, x1_2, x1_3, x1_4, x1_5, x1_6, x1_7, x1_8⟩ (fun hHeld1 => ?_)
    clear hK K; try simp only [Act.put, sa, sb, sc]
    refine ty 2 9 rfl rfl ?_; simp only [sa, sb, sc]
    refine ty 3 10 rfl rfl ?_; simp only [sa, sb, sc]
    refine rd 4 (by kernel_rfl) rfl (fun K hK => ?_)
    go_simp
    go_at_call 61
    refine (HCR.out w1 _ ⟨_, rfl, HX.out.2.2.1.below H1.out.2.2.2⟩).mono ?_
    rintro e w2 ⟨rfl, hb'⟩
    have hh : Below w1.heap.size w1 w2 := ⟨hb'.os, hb'.tape, hb'.output, hb'.size, hb'.block⟩
    have H2 := Lib.hid (And.intro (H1.out.1.below hh) (And.intro (H1.out.2.1.below hh) (And.intro (H1.out.2.2.1.below hh) (H1.out.2.2.2.trans (hh.mono H1.out.2.2.2.size)))))
    have x2_0 := H2.out.1.cell 0 _ rfl
    have x2_1 := H2.out.1.cell 1 _ rfl
    have x2_2 := H2.out.1.cell 2 _ rfl
    have x2_3 := H2.out.2.1.cell 0 _ rfl
    have x2_4 := H2.out.2.1.cell 1 _ rfl
    have x2_5 := H2.out.2.2.1.cell 0 _ rfl
    have x2_6 := H2.out.2.2.1.cell 1 _ rfl
    have x2_7 := H2.out.2.2.1.cell 2 _ rfl
    have x2_8 := H2.out.2.2.1.cell 3 _ rfl
    clear hh hb' x1_0 x1_1 x1_2 x1_3 x1_4 x1_5 x1_6 x1_7 x1_8
    try dsimp only
    refine hK.out _ _ ⟨x2_0, x2_1, x2_2, x2_3, x2_4, x2_5, x2_6, x2_7, x2_8⟩ (fun hHeld4 => ?_)
    clear hK K; try simp only [Act.put, sa, sb, sc]
    refine ty 5 12 rfl rfl ?_; simp only [sa, sb, sc]
    refine ty 6 13 rfl rfl ?_; simp only [sa, sb, sc]
    refine ty 7 14 rfl rfl ?_; simp only [sa, sb, sc]
    refine ty 8 15 rfl rfl ?_; simp only [sa, sb, sc]
    refine ty 9 16 rfl rfl ?_; simp only [sa, sb, sc]
    refine ty 10 17 rfl rfl ?_; simp only [sa, sb, sc]
    refine ty 11 18 rfl rfl ?_; simp only [sa, sb, sc]
    refine tn 12 19 rfl rfl ?_; simp only [sa, sb, sc]
    refine tn 13 20 rfl rfl ?_; simp only [sa, sb, sc]
    refine tn 14 21 rfl rfl ?_; simp only [sa, sb, sc]
    refine tn 15 22 rfl rfl ?_; simp only [sa, sb, sc]
    refine tn 16 23 rfl rfl ?_; simp only [sa, sb, sc]
    refine tn 17 24 rfl rfl ?_; simp only [sa, sb, sc]
    refine ty 18 25 rfl rfl ?_; simp only [sa, sb, sc]
    refine ty 19 26 rfl rfl ?_; simp only [sa, sb, sc]
    refine tn 20 27 rfl rfl ?_; simp only [sa, sb, sc]
    refine tn 21 28 rfl rfl ?_; simp only [sa, sb, sc]
    refine tn 22 29 rfl rfl ?_; simp only [sa, sb, sc]
    refine tn 23 30 rfl rfl ?_; simp only [sa, sb, sc]
    refine tn 24 31 rfl rfl ?_; simp only [sa, sb, sc]
    refine tn 25 32 rfl rfl ?_; simp only [sa, sb, sc]
    refine tn 26 33 rfl rfl ?_; simp only [sa, sb, sc]
    refine tn 27 34 rfl rfl ?_; simp only [sa, sb, sc]
    refine tn 28 35 rfl rfl ?_; simp only [sa, sb, sc]
    refine tn 29 36 rfl rfl ?_; simp only [sa, sb, sc]
    refine tn 30 37 rfl rfl ?_; simp only [sa, sb, sc]
    refine ty 31 38 rfl rfl ?_; simp only [sa, sb, sc]
    refine ty 32 6 rfl rfl ?_; simp only [sa, sb, sc]
    refine wpAnyH_done (by kernel_rfl) ?_ _
    have HF : Hid (CV = false) := Lib.hid (by rw [HCV.out, decide_eq_false hwn]; rfl)
    go_wp2
    go_ret
    exact ⟨by rw [HF.out]; rfl, H2.out.2.2.2⟩
end Go.Proofs.YtlkgeifmppadmaaGreat
namespace Go.Proofs.YtlkgeifmppadmaaGreat
set_option linter.unusedVariables false

structure Ent where
 tm : Int
 ord : Int
 wh : Int
 deriving DecidableEq
def zE : Ent := ⟨0, 0, 0⟩
def cmpE (a b : Ent) : Int := if a.tm < b.tm ∨ (a.tm = b.tm ∧ a.ord < b.ord) then -1 else if a = b then 0 else 1
def Ent.le (a b : Ent) : Prop := a.tm < b.tm ∨ (a.tm = b.tm ∧ a.ord ≤ b.ord)
theorem cmpE_neg (a b : Ent) : cmpE a b < 0 ↔ ¬ b.le a := by
 unfold cmpE Ent.le
 split
 ·constructor <;> intro _ <;> omega
 ·split <;> constructor <;> intro h <;> omega
theorem le_refl' (a : Ent) : a.le a := .inr ⟨rfl, Int.le_refl _⟩
theorem le_trans' {a b c : Ent} (h : a.le b) (k : b.le c) : a.le c := by unfold Ent.le at *; omega
theorem le_total' {a b : Ent} (h : ¬ a.le b) : b.le a := by unfold Ent.le at *; omega

def gE (l : List Ent) (i : Nat) : Ent := l.getD i zE
theorem gE_at {l : List Ent} {i : Nat} (h : i < l.length) : gE l i = l[i] := by simp [gE, List.getD_eq_getElem?_getD, List.getElem?_eq_getElem h]
theorem gE_set (l : List Ent) (i : Nat) (x : Ent) (k : Nat) (hi : i < l.length) : gE (l.set i x) k = if k = i then x else gE l k := by
 unfold gE
 rw [List.getD_eq_getElem?_getD, List.getD_eq_getElem?_getD, List.getElem?_set]
 by_cases h : i = k
 ·subst h; simp [hi]
 ·rw [if_neg h, if_neg (fun e => h e.symm)]
def sw (l : List Ent) (i j : Nat) : List Ent := (l.set i (gE l j)).set j (gE l i)
theorem sw_length (l : List Ent) (i j : Nat) : (sw l i j).length = l.length := by simp [sw]
theorem gE_sw (l : List Ent) (i j k : Nat) (hi : i < l.length) (hj : j < l.length) : gE (sw l i j) k = if k = j then gE l i else if k = i then gE l j else gE l k := by
 unfold sw
 rw [gE_set _ _ _ _ (by simpa using hj), gE_set _ _ _ _ hi]
theorem sw_perm (l : List Ent) (i j : Nat) (hi : i < l.length) (hj : j < l.length) : (sw l i j).Perm l := by
 unfold sw
 rw [gE_at hi, gE_at hj]
 exact List.set_set_perm hi hj

def HeapFrom (l : List Ent) (i0 n : Nat) : Prop := ∀ k, 0 < k → k < n → i0 ≤ (k - 1) / 2 → (gE l ((k - 1) / 2)).le (gE l k)
def UpInv (l : List Ent) (j : Nat) : Prop :=
 (∀ k, 0 < k → k < l.length → k ≠ j → (gE l ((k - 1) / 2)).le (gE l k)) ∧ (∀ k, 0 < k → k < l.length → (k - 1) / 2 = j → 0 < j → (gE l ((j - 1) / 2)).le (gE l k))
theorem up_start {l : List Ent} (x : Ent) (h : HeapFrom l 0 l.length) : UpInv (l ++ [x]) l.length := by
 have e : ∀ k, k < l.length → gE (l ++ [x]) k = gE l k := fun k hk => by simp [gE, List.getD_eq_getElem?_getD, List.getElem?_append_left hk]
 constructor
 ·intro k h0 h1 hne
  rw [List.length_append, List.length_singleton] at h1
  rw [e k (by omega), e ((k - 1) / 2) (by omega)]
  exact h k h0 (by omega) (by omega)
 ·intro k h0 h1 h2 h3
  rw [List.length_append, List.length_singleton] at h1
  omega
theorem up_step {l : List Ent} {j : Nat} (hj : j < l.length) (h0 : 0 < j) (h : UpInv l j) (hlt : ¬ (gE l ((j - 1) / 2)).le (gE l j)) : UpInv (sw l ((j - 1) / 2) j) ((j - 1) / 2) := by
 have hi : (j - 1) / 2 < l.length := by omega
 generalize hI : (j - 1) / 2 = i at *
 have hlt' := le_total' hlt
 constructor
 ·intro k k0 k1 hne
  rw [sw_length] at k1
  rw [gE_sw l i j _ hi hj, gE_sw l i j _ hi hj]
  by_cases e1 : k = j
  ·subst e1
   rw [if_pos rfl, if_neg (by omega), if_pos hI]
   exact hlt'
  ·rw [if_neg e1, if_neg hne]
   by_cases e2 : (k - 1) / 2 = j
   ·rw [if_pos e2]
    have := h.2 k k0 k1 e2 h0
    rw [hI] at this
    exact this
   ·rw [if_neg e2]
    by_cases e3 : (k - 1) / 2 = i
    ·rw [if_pos e3]
     have := h.1 k k0 k1 e1
     rw [e3] at this
     exact le_trans' hlt' this
    ·rw [if_neg e3]
     exact h.1 k k0 k1 e1
 ·intro k k0 k1 e hi0
  rw [sw_length] at k1
  have h3 := h.1 i hi0 hi (by omega)
  rw [gE_sw l i j _ hi hj, gE_sw l i j _ hi hj, if_neg (by omega), if_neg (by omega)]
  by_cases e1 : k = j
  ·rw [if_pos e1]; exact h3
  ·rw [if_neg e1, if_neg (by omega)]
   have := h.1 k k0 k1 e1
   rw [e] at this
   exact le_trans' h3 this
theorem up_end {l : List Ent} {j : Nat} (h : UpInv l j) (hd : j = 0 ∨ (gE l ((j - 1) / 2)).le (gE l j)) : HeapFrom l 0 l.length := by
 intro k k0 k1 _
 by_cases e : k = j
 ·subst e
  rcases hd with hd | hd
  ·omega
  ·exact hd
 ·exact h.1 k k0 k1 e

def DownInv (l : List Ent) (i0 i n : Nat) : Prop :=
 (∀ k, 0 < k → k < n → i0 ≤ (k - 1) / 2 → (k - 1) / 2 ≠ i → (gE l ((k - 1) / 2)).le (gE l k)) ∧ (∀ k, 0 < k → k < n → (k - 1) / 2 = i → i0 < i → (i - 1) / 2 ≥ i0 → (gE l ((i - 1) / 2)).le (gE l k))
theorem down_start {l : List Ent} {i0 n : Nat} (h : HeapFrom l (i0 + 1) n) : DownInv l i0 i0 n :=
 ⟨fun k k0 k1 h1 hne => h k k0 k1 (by omega), fun k k0 k1 e h1 => by omega⟩
theorem down_step {l : List Ent} {i0 i j n : Nat} (hn : n ≤ l.length) (hj : j < n) (hj0 : 0 < j) (hp : (j - 1) / 2 = i) (hi0 : i0 ≤ i) (h : DownInv l i0 i n)
  (hmin : ∀ k, 0 < k → k < n → (k - 1) / 2 = i → (gE l j).le (gE l k)) (hlt : ¬ (gE l i).le (gE l j)) : DownInv (sw l i j) i0 j n := by
 have hi : i < l.length := by omega
 have hjl : j < l.length := by omega
 have hlt' := le_total' hlt
 constructor
 ·intro k k0 k1 h1 hne
  rw [gE_sw l i j _ hi hjl, gE_sw l i j _ hi hjl, if_neg hne]
  by_cases e1 : (k - 1) / 2 = i
  ·rw [if_pos e1]
   by_cases e2 : k = j
   ·rw [if_pos e2]; exact hlt'
   ·rw [if_neg e2, if_neg (by omega)]
    exact hmin k k0 k1 e1
  ·rw [if_neg e1]
   by_cases e2 : k = j
   ·subst e2; exact absurd hp e1
   ·rw [if_neg e2]
    by_cases e3 : k = i
    ·rw [if_pos e3]
     subst e3
     exact h.2 j hj0 hj hp (by omega) h1
    ·rw [if_neg e3]
     exact h.1 k k0 k1 h1 e1
 ·intro k k0 k1 e h1 h2
  rw [gE_sw l i j _ hi hjl, gE_sw l i j _ hi hjl, hp, if_neg (by omega), if_pos rfl, if_neg (by omega), if_neg (by omega)]
  have := h.1 k k0 k1 (by omega) (by omega)
  rw [e] at this
  exact this
theorem down_end {l : List Ent} {i0 i n : Nat} (h : DownInv l i0 i n) (hd : ∀ k, 0 < k → k < n → (k - 1) / 2 = i → (gE l i).le (gE l k)) : HeapFrom l i0 n := by
 intro k k0 k1 h1
 by_cases e : (k - 1) / 2 = i
 ·rw [e]; exact hd k k0 k1 e
 ·exact h.1 k k0 k1 h1 e

theorem heap_min {l : List Ent} (h : HeapFrom l 0 l.length) : ∀ k, k < l.length → (gE l 0).le (gE l k) := by
 intro k
 induction k using Nat.strongRecOn with
 | _ k ih =>
  intro hk
  by_cases e : k = 0
  ·subst e; exact le_refl' _
  ·exact le_trans' (ih ((k - 1) / 2) (by omega) (by omega)) (h k (by omega) hk (by omega))
end Go.Proofs.YtlkgeifmppadmaaGreat
namespace Go.Proofs.YtlkgeifmppadmaaGreat
open Go.RowKit
set_option linter.unusedVariables false
set_option linter.unusedSimpArgs false
set_option maxRecDepth 100000

def Ent.cells (e : Ent) : List Value := [.int .i64 e.tm, .int .i64 e.ord, .int .i64 e.wh]
theorem ent_eql (a b : Ent) (w : World) : (binOp .eql 137 (.agg #[.int .i64 a.tm, .int .i64 a.ord, .int .i64 a.wh]) (.agg #[.int .i64 b.tm, .int .i64 b.ord, .int .i64 b.wh])).run Tryz.prog w = .ok (.bool (decide (a = b))) w := by
 have u3 := Tryz.underlying3
 have a3 := Tryz.isAgg3
 have z3 := Tryz.sizeOf3
 have hS : Tryz.prog.underlying 137 = some (.struct (Tryz.prog.fieldsOf 137)) := by kernel_rfl
 have hp : Tryz.prog.stoodInHeld 137 = false := by kernel_rfl
 rw [run_eql_struct, show (10000 : Nat) = 9999 + 1 from rfl, run_equalIn_agg w 9999 137 _ _ hS hp]
 simp only [Program.fieldsOf, Tryz.underlying137]
 go_simp
 obtain ⟨a1, a2, a3⟩ := a
 obtain ⟨b1, b2, b3⟩ := b
 by_cases h1 : a1 = b1 <;> by_cases h2 : a2 = b2 <;> by_cases h3 : a3 = b3 <;> simp [h1, h2, h3]

theorem before_any (a b : Ent) (w : World) :
  Calls Tryz.prog 133 #[.agg #[.int .i64 a.tm, .int .i64 a.ord, .int .i64 a.wh], .agg #[.int .i64 b.tm, .int .i64 b.ord, .int .i64 b.wh]] w
   fun e w' => e = .returned (.int .i64 (cmpE a b)) ∧ ∃ n, w' = ((w.alloc (.cells a.cells.toArray 137)).alloc (.cells b.cells.toArray 137)).drewN n := by
 have heq := fun w => ent_eql a b w
 unfold cmpE
 by_cases h1 : a.tm < b.tm
 ·rw [if_pos (.inl h1)]
  go_enter Tryz.func133, Tryz.ntmps133
  go_wp2
  go_ret
  exact ⟨rfl, 0, rfl⟩
 ·by_cases h2 : a.tm = b.tm ∧ a.ord < b.ord
  ·have h2a : (a.tm == b.tm) = true := beq_iff_eq.2 h2.1
   have h2b := h2.2
   rw [if_pos (.inr h2)]
   clear h2
   go_enter Tryz.func133, Tryz.ntmps133
   go_wp2
   go_ret
   exact ⟨rfl, 0, rfl⟩
  ·rw [if_neg (fun h => h.elim h1 h2)]
   have hcase : ((a.tm == b.tm) = true ∧ ¬ a.ord < b.ord) ∨ (a.tm == b.tm) = false := by
    by_cases e : a.tm = b.tm
    ·exact .inl ⟨beq_iff_eq.2 e, fun h => h2 ⟨e, h⟩⟩
    ·exact .inr (beq_eq_false_iff_ne.2 e)
   clear h2
   rcases hcase with ⟨g1, g2⟩ | g1
   all_goals
    by_cases e : a = b
    ·rw [if_pos e]
     have ed : decide (a = b) = true := decide_eq_true e
     clear e
     go_enter Tryz.func133, Tryz.ntmps133
     go_wp2
     go_ret
     exact ⟨rfl, 0, rfl⟩
    ·rw [if_neg e]
     have ed : decide (a = b) = false := decide_eq_false e
     clear e
     go_enter Tryz.func133, Tryz.ntmps133
     go_wp2
     go_ret
     exact ⟨rfl, 0, rfl⟩

def cellsOf (l : List Ent) : List Value := l.flatMap Ent.cells
theorem cellsOf_length (l : List Ent) : (cellsOf l).length = l.length * 3 := by
 induction l with
 | nil => rfl
 | cons x l ih => simp only [cellsOf, List.flatMap_cons, List.length_append] at ih ⊢; rw [ih]; simp [Ent.cells]; omega
theorem cellsOf_cons (x : Ent) (l : List Ent) : cellsOf (x :: l) = x.cells ++ cellsOf l := rfl
theorem cellsOf_append (l m : List Ent) : cellsOf (l ++ m) = cellsOf l ++ cellsOf m := by simp [cellsOf]
theorem cellsOf_at (l : List Ent) : ∀ (i : Nat) (hi : i < l.length), (cellsOf l)[i * 3]? = some (.int .i64 l[i].tm) ∧ (cellsOf l)[i * 3 + 1]? = some (.int .i64 l[i].ord) ∧ (cellsOf l)[i * 3 + 2]? = some (.int .i64 l[i].wh) := by
 induction l with
 | nil => intro i hi; exact absurd hi (Nat.not_lt_zero _)
 | cons x l ih =>
  intro i hi
  cases i with
  | zero => exact ⟨rfl, rfl, rfl⟩
  | succ i =>
   have h := ih i (by simpa using hi)
   rw [cellsOf_cons]
   have e : ∀ j, (x.cells ++ cellsOf l)[(i + 1) * 3 + j]? = (cellsOf l)[i * 3 + j]? := by
    intro j
    rw [List.getElem?_append_right (by simp [Ent.cells]; omega)]
    congr 1
    simp [Ent.cells]; omega
   exact ⟨(e 0).trans h.1, (e 1).trans h.2.1, (e 2).trans h.2.2⟩
theorem cellsOf_set (l : List Ent) : ∀ (i : Nat) (x : Ent), i < l.length → cellsOf (l.set i x) = (((cellsOf l).set (i * 3) (.int .i64 x.tm)).set (i * 3 + 1) (.int .i64 x.ord)).set (i * 3 + 2) (.int .i64 x.wh) := by
 induction l with
 | nil => intro i x hi; exact absurd hi (Nat.not_lt_zero _)
 | cons y l ih =>
  intro i x hi
  cases i with
  | zero => rfl
  | succ i =>
   have h := ih i x (by simpa using hi)
   rw [List.set_cons_succ, cellsOf_cons, cellsOf_cons, h]
   have e : ∀ (m : List Value) (j : Nat) (v : Value), (y.cells ++ m).set ((i + 1) * 3 + j) v = y.cells ++ m.set (i * 3 + j) v := by
    intro m j v
    rw [List.set_append_right _ _ (by simp [Ent.cells]; omega)]
    congr 2
    simp [Ent.cells]; omega
   have e0 := fun m v => e m 0 v
   simp only [Nat.add_zero] at e0
   rw [e0, e, e]

structure PileAt (w : World) (g cap : Nat) (l : List Ent) (rest : List Value) : Prop where
 blk : Blk w g 137 (cellsOf l ++ rest)
 le : l.length ≤ cap
 max : cap ≤ maxLen
 len : l.length * 3 + rest.length = cap * 3
namespace PileAt
variable {w w1 : World} {g cap : Nat} {l : List Ent} {rest : List Value} {S : Nat → Prop}
theorem chg (h : PileAt w g cap l rest) (hc : Chg w w1 S) (hn : ¬ S g) : PileAt w1 g cap l rest := ⟨h.blk.chg hc hn, h.le, h.max, h.len⟩
theorem below (h : PileAt w g cap l rest) (hc : Below w.heap.size w w1) : PileAt w1 g cap l rest := ⟨h.blk.below hc, h.le, h.max, h.len⟩
theorem alloc (h : PileAt w g cap l rest) (o : Obj) : PileAt (w.alloc o) g cap l rest := ⟨h.blk.alloc o, h.le, h.max, h.len⟩
theorem setOther (h : PileAt w g cap l rest) (p : Addr) (v : Value) (hp : g ≠ p.block) : PileAt (w.setCell p v) g cap l rest := ⟨h.blk.setOther p v hp, h.le, h.max, h.len⟩
theorem drop {x : Ent} (h : PileAt w g cap (l ++ [x]) rest) : PileAt w g cap l (x.cells ++ rest) := by
 obtain ⟨hb, h1, h2, h3⟩ := h
 rw [List.length_append, List.length_singleton] at h1 h3
 refine ⟨?_, by omega, h2, by simp [Ent.cells]; omega⟩
 rw [cellsOf_append] at hb
 simpa [cellsOf] using hb
theorem drew (h : PileAt w g cap l rest) : PileAt w.drew g cap l rest := ⟨h.blk, h.le, h.max, h.len⟩
theorem drewN (h : PileAt w g cap l rest) (n : Nat) : PileAt (w.drewN n) g cap l rest := ⟨h.blk, h.le, h.max, h.len⟩
theorem cells (h : PileAt w g cap l rest) (i : Nat) (hi : i < l.length) : w.cell? ⟨g, i * 3, none⟩ = some (.int .i64 l[i].tm) ∧ w.cell? ⟨g, i * 3 + 1, none⟩ = some (.int .i64 l[i].ord) ∧ w.cell? ⟨g, i * 3 + 2, none⟩ = some (.int .i64 l[i].wh) := by
 obtain ⟨h0, h1, h2⟩ := cellsOf_at l i hi
 have hl := cellsOf_length l
 refine ⟨h.blk.cell _ _ ?_, h.blk.cell _ _ ?_, h.blk.cell _ _ ?_⟩ <;> rw [List.getElem?_append_left (by omega)] <;> assumption
theorem free (h : PileAt w g cap l rest) (j : Nat) : w.frozen? ⟨g, j, none⟩ = false := h.blk.free j
theorem set (h : PileAt w g cap l rest) (i : Nat) (x : Ent) (hi : i < l.length) :
  PileAt (((w.setCell ⟨g, i * 3, none⟩ (.int .i64 x.tm)).setCell ⟨g, i * 3 + 1, none⟩ (.int .i64 x.ord)).setCell ⟨g, i * 3 + 2, none⟩ (.int .i64 x.wh)) g cap (l.set i x) rest := by
 have hl := cellsOf_length l
 refine ⟨?_, by rw [List.length_set]; exact h.le, h.max, by rw [List.length_set]; exact h.len⟩
 have b := ((h.blk.set (i * 3) (.int .i64 x.tm) (by rw [List.length_append]; omega)).set (i * 3 + 1) (.int .i64 x.ord) (by rw [List.length_set, List.length_append]; omega)).set (i * 3 + 2) (.int .i64 x.wh) (by rw [List.length_set, List.length_set, List.length_append]; omega)
 rw [cellsOf_set l i x hi]
 rw [List.set_append_left _ _ (by omega), List.set_append_left _ _ (by rw [List.length_set]; omega), List.set_append_left _ _ (by rw [List.length_set, List.length_set]; omega)] at b
 exact b
end PileAt

theorem len_any (A : Option Addr) (n c : Nat) (w : World) : Calls Tryz.prog 130 #[.slice A n c] w fun e w' => e = .returned (.int .i64 n) ∧ w = w' := by
 go_enter Tryz.func130, Tryz.ntmps130
 go_wp2
 go_ret
 exact ⟨rfl, rfl⟩

theorem less_any (g cap : Nat) (l : List Ent) (rest : List Value) (i j : Nat) (hi : i < l.length) (hj : j < l.length) (w : World) (h : PileAt w g cap l rest) :
  Calls Tryz.prog 131 #[.slice (some ⟨g, 0, none⟩) l.length cap, .int .i64 i, .int .i64 j] w fun e w' => e = .returned (.bool (decide (cmpE l[i] l[j] < 0))) ∧ Below w.heap.size w w' := by
 obtain ⟨p0, p1, p2⟩ := h.cells i hi
 obtain ⟨q0, q1, q2⟩ := h.cells j hj
 have HI := Lib.hid h
 clear h
 have hi' : (i : Int) < (l.length : Int) := by omega
 have hj' : (j : Int) < (l.length : Int) := by omega
 generalize hx : l[i] = x at *
 generalize hy : l[j] = y at *
 go_enter Tryz.func131, Tryz.ntmps131
 go_wp2
 go_still_tail 8, (by kernel_rfl)
 go_wp2_with (go_at_call 133; refine (before_any x y _).mono ?_; rintro e w' ⟨rfl, n, rfl⟩)
 go_ret
 refine ⟨rfl, ?_⟩
 exact below_drewN (((Below.refl w.heap.size w).alloc (Nat.le_refl _) _).alloc (by simp) _) _

def swapL (l : List Ent) (i j : Nat) (hi : i < l.length) (hj : j < l.length) : List Ent := (l.set i l[j]).set j l[i]

theorem swap_ne (g cap : Nat) (l : List Ent) (rest : List Value) (i j : Nat) (hi : i < l.length) (hj : j < l.length) (hne : i ≠ j) (w : World) (h : PileAt w g cap l rest) :
  Calls Tryz.prog 132 #[.slice (some ⟨g, 0, none⟩) l.length cap, .int .i64 i, .int .i64 j] w fun e w' => e = .returned (.tuple #[]) ∧ PileAt w' g cap (swapL l i j hi hj) rest ∧ Chg w w' (fun k => k = g) := by
 obtain ⟨p0, p1, p2⟩ := h.cells i hi
 obtain ⟨q0, q1, q2⟩ := h.cells j hj
 have hf := h.free
 have HI := Lib.hid h
 clear h
 have hi' : (i : Int) < (l.length : Int) := by omega
 have hj' : (j : Int) < (l.length : Int) := by omega
 generalize hx : l[i] = x at *
 generalize hy : l[j] = y at *
 go_enter Tryz.func132, Tryz.ntmps132
 go_wp2
 go_region
 go_wp2
 go_end0
 refine ⟨rfl, ?_, by repeat (first | (with_reducible exact Chg.refl _ _) | (with_reducible refine Chg.drew ?_) | (with_reducible refine Chg.setCell ?_ _ _ ?_) | exact fun _ => rfl)⟩
 have h2 := ((HI.out.set i y hi).set j x (by rw [List.length_set]; exact hj))
 unfold swapL
 rw [hx, hy]
 with_reducible exact h2.drew

theorem swap_eq (g cap : Nat) (l : List Ent) (rest : List Value) (i : Nat) (hi : i < l.length) (w : World) (h : PileAt w g cap l rest) :
  Calls Tryz.prog 132 #[.slice (some ⟨g, 0, none⟩) l.length cap, .int .i64 i, .int .i64 i] w fun e w' => e = .returned (.tuple #[]) ∧ PileAt w' g cap (swapL l i i hi hi) rest ∧ Chg w w' (fun k => k = g) := by
 obtain ⟨p0, p1, p2⟩ := h.cells i hi
 have hf := h.free
 have HI := Lib.hid h
 clear h
 have hi' : (i : Int) < (l.length : Int) := by omega
 generalize hx : l[i] = x at *
 go_enter Tryz.func132, Tryz.ntmps132
 go_wp2
 go_region
 go_wp2
 go_end0
 refine ⟨rfl, ?_, by repeat (first | (with_reducible exact Chg.refl _ _) | (with_reducible refine Chg.drew ?_) | (with_reducible refine Chg.setCell ?_ _ _ ?_) | exact fun _ => rfl)⟩
 have h2 := ((HI.out.set i x hi).set i x (by rw [List.length_set]; exact hi))
 unfold swapL
 rw [hx]
 with_reducible exact h2.drew

theorem swap_any (g cap : Nat) (l : List Ent) (rest : List Value) (i j : Nat) (hi : i < l.length) (hj : j < l.length) (w : World) (h : PileAt w g cap l rest) :
  Calls Tryz.prog 132 #[.slice (some ⟨g, 0, none⟩) l.length cap, .int .i64 i, .int .i64 j] w fun e w' => e = .returned (.tuple #[]) ∧ PileAt w' g cap (swapL l i j hi hj) rest ∧ Chg w w' (fun k => k = g) := by
 by_cases e : i = j
 ·subst e; exact swap_eq g cap l rest i hi w h
 ·exact swap_ne g cap l rest i j hi hj e w h

theorem pop_any (b g cap : Nat) (l : List Ent) (x : Ent) (rest : List Value) (o : Value) (w : World) (hb : Blk w b 103 [.slice (some ⟨g, 0, none⟩) (l.length + 1) cap, o]) (h : PileAt w g cap (l ++ [x]) rest) (hbg : b ≠ g) :
  Calls Tryz.prog 135 #[.pointer (some ⟨b, 0, none⟩)] w fun e w' => e = .returned (.iface 137 (.agg #[.int .i64 x.tm, .int .i64 x.ord, .int .i64 x.wh])) ∧ Blk w' b 103 [.slice (some ⟨g, 0, none⟩) l.length cap, o] ∧ PileAt w' g cap l (x.cells ++ rest) ∧ Chg w w' (fun k => k = b) := by
 obtain ⟨p0, p1, p2⟩ := h.cells l.length (by simp)
 have hc := hb.cell 0 _ rfl
 have hf := hb.free
 have HI := Lib.hid h
 have HB := Lib.hid hb
 clear h hb
 have e : (l ++ [x])[l.length] = x := by simp
 rw [e] at p0 p1 p2
 clear e
 have hl1 := HI.out.le
 have hbl := HB.out.lt
 have hl2 := HI.out.max
 rw [List.length_append, List.length_singleton] at hl1
 unfold maxLen at hl2
 go_enter Tryz.func135, Tryz.ntmps135
 go_wp2
 go_ret
 refine ⟨rfl, (HB.out.set 0 _ (by simp)).alloc _, ?_, ?_⟩
 ·exact (HI.out.drop.setOther ⟨b, 0, none⟩ _ (fun e => hbg e.symm)).alloc _
 ·exact (((Chg.refl w (fun k => k = b)).setCell ⟨b, 0, none⟩ _ (fun _ => rfl)).alloc _)

theorem info_entry : (Tryz.prog.info? 137).map (fun i => (i.zero, i.size, i.bytes)) = some (some (.agg #[.int .i64 0, .int .i64 0, .int .i64 0]), 3, 24) := by kernel_rfl

theorem run_assert (x y z : Value) (w : World) : (Instr.typeAssert (.iface 137 (.agg #[x, y, z])) 20 137 false).run Tryz.prog w = .ok (.agg #[x, y, z]) w := by kernel_rfl
theorem push_any (b : Nat) (v : Value) (l : List Ent) (x : Ent) (o : Value) (base : Nat) (w0 w : World) (hb : Blk w b 103 [v, o]) (hv : w.ownsRow base 137 3 v l.length (cellsOf l)) (hbb : base ≤ b) (hvb : v.ownBlock ≠ some b) (hl : l.length < 1000000000000) :
  Calls Tryz.prog 136 #[.pointer (some ⟨b, 0, none⟩), .iface 137 (.agg #[.int .i64 x.tm, .int .i64 x.ord, .int .i64 x.wh])] w fun e w' => e = .returned (.tuple #[]) ∧ ∃ v', Blk w' b 103 [v', o] ∧ w'.ownsRow base 137 3 v' (l.length + 1) (cellsOf (l ++ [x])) ∧ (v'.ownBlock = v.ownBlock ∨ ∃ k, v'.ownBlock = some k ∧ w.heap.size ≤ k) ∧ Chg w w' (fun k => k = b ∨ some k = v.ownBlock) := by
 have hc := hb.cell 0 _ rfl
 have hf := hb.free
 have hbl := hb.lt
 have HV := Lib.hid hv
 have HB := Lib.hid hb
 clear hv hb
 go_enter Tryz.func136, Tryz.ntmps136
 go_wp2
 obtain ⟨i0, hi, hz0, hz1, hz2⟩ := info_parts info_entry
 have hta := run_assert
 go_region_law (refine step_append_lies _ rfl _ _ 101 rfl base 137 i0 (.agg #[.int .i64 0, .int .i64 0, .int .i64 0]) 3 24 Tryz.underlying101 hi hz0 hz1 hz2 rfl (by decide) v l.length (cellsOf l) rfl (World.ownsRow.alloc (w := w.drew) HV.out _) ⟨w.heap.size, 0, none⟩ 1 1 x.cells rfl rfl (World.news_of_block (blk_new w.drew _)) (by simp [Ent.cells, Value.oneCell']) (by decide) (by unfold maxLen; omega) (by omega) (by simp; omega) _ rfl ?_; intro g cap w1 hown hgrow hat hlt; have HB1 := Lib.hid (Blk.grown (Blk.alloc (w := w.drew) HB.out _) hgrow (fun e => hvb e.symm)); have hc1 := HB1.out.cell 0 _ rfl; have hf1 := HB1.out.free)
 all_goals go_wp2
 all_goals go_end0
 all_goals
  have hgb : some g ≠ some b := by
   rcases hat with hat | hat
   ·rw [← hat]; exact hvb
   ·intro e; injection e with e; rw [hat] at e; simp at e; omega
  refine ⟨rfl, _, HB1.out.set 0 _ (by simp), ?_, ?_, ?_⟩
  ·rw [show cellsOf (l ++ [x]) = cellsOf l ++ x.cells from by simp [cellsOf]]
   exact ownsRow_set hown ⟨b, 0, none⟩ _ hgb
  ·rcases hat with hat | hat
   ·exact .inl hat.symm
   ·exact .inr ⟨g, rfl, by rw [hat]; simp⟩
  ·have h1 : Chg w (w.alloc (.cells #[.int .i64 x.tm, .int .i64 x.ord, .int .i64 x.wh] 137)).drew (fun k => k = b ∨ some k = v.ownBlock) := ((Chg.refl w _).alloc _).drew
   exact (h1.trans (Chg.of_grown hgrow) (fun i _ h => .inr h)).setCell ⟨b, 0, none⟩ _ (fun _ => .inl rfl)
end Go.Proofs.YtlkgeifmppadmaaGreat
