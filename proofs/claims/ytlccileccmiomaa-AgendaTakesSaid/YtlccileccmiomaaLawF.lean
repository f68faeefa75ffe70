/- The law AgendaTakes. Conditions: as each theorem states them. -/
import Derived.Test.YtlccileccmiomaaLawE
import Derived.OwnWalk
namespace Go.Proofs.Ytlccileccmiomaa
open Go.RowKit
set_option linter.unusedVariables false
set_option linter.unusedSimpArgs false

set_option maxRecDepth 100000 in
set_option maxHeartbeats 8000000 in
theorem takes_any (A : Option Addr) (c : Nat) (xs : List Int) (cut : Int) (w : World) (hx : ArgInts w A xs) :
    Calls Try.prog 4 #[.slice A xs.length c, .int .i64 cut] w fun e w' => e = .returned (.bool true) ∧ Below w.heap.size w w' := by
  have HX := Lib.hid hx
  clear hx
  obtain ⟨i0, hi0, hz0, hz1, hz2⟩ := info_parts info_int
  go_enter Try.func4, Try.ntmps4
  go_wp2_with fail
  refine (new_x w).mono ?_
  rintro e w1 ⟨rfl, h1, h2⟩
  have H1 := Lib.hid (And.intro h1 h2)
  clear h1 h2
  go_wp2_with fail
  refine (new_2 w w1 w.heap.size H1.out.2.size H1.out.1).mono ?_
  rintro e w2 ⟨rfl, h1, h2⟩
  have H2 := Lib.hid (And.intro h1 (H1.out.2.trans (h2.mono H1.out.2.size)))
  clear h1 h2 H1
  generalize w1.heap.size = b at *
  go_wp2_with fail
  go_loopw [7] (fun v wr => ∃ k : Nat, v = .int .i64 k ∧ k ≤ xs.length ∧ k ≤ 60 ∧ Hid (Below w.heap.size w wr ∧ ∃ m, Ag2 wr w.heap.size w.heap.size b m m k k ∧ m.length = k ∧ ∀ e ∈ m, 0 ≤ e.tm ∧ e.tm ≤ 50)) (fun v _ => 60 - (intOf v).toNat)
  case atStart => exact ⟨0, rfl, Nat.zero_le _, Nat.zero_le _, Lib.hid ⟨H2.out.2, [], H2.out.1, rfl, fun e he => by cases he⟩⟩
  case round =>
    obtain ⟨k, rfl, hk, hk2, HI⟩ := hrel
    by_cases hlt : k < xs.length ∧ k < 60
    · obtain ⟨hlt, hlt2⟩ := hlt
      obtain ⟨g, o, rfl, hg, hcx⟩ := HX.out k hlt
      have p0 := (HI.out.1.cell (p := ⟨g, o + k, none⟩) hg).trans hcx
      clear hcx
      generalize xs[k] = x at *
      obtain ⟨m, hm⟩ := HI.out.2
      have HM := Lib.hid hm
      clear hm
      have HT := Lib.hid (withinZ_ge x 0 50 (by decide))
      go_wp2_with fail
      refine (within_any x 0 50 (by decide) (by decide) (by decide) _).mono ?_
      rintro e w' ⟨rfl, rfl⟩
      generalize withinZ x 0 50 = T at *
      go_wp2_with fail
      refine (add_2 w.heap.size w.heap.size b m m k k T k (by have := HM.out.2.1; omega) (by omega) _ HI.out.1.size HM.out.1).mono ?_
      rintro e w3 ⟨rfl, h1, h2⟩
      have HR := Lib.hid (And.intro h1.swap (HI.out.1.trans h2))
      clear h1 h2 p0
      go_wp2_with fail
      refine (add_2 w.heap.size b w.heap.size m _ k _ T k (by have := HM.out.2.1; omega) (by omega) _ HR.out.2.size HR.out.1).mono ?_
      rintro e w4 ⟨rfl, h1, h2⟩
      have HR2 := Lib.hid (And.intro h1.swap (HR.out.2.trans h2))
      clear h1 h2 HR
      go_wp2
      go_roundw
      case rel => exact ⟨k + 1, by go_num, by omega, by omega, Lib.hid ⟨HR2.out.2, _, HR2.out.1, by rw [insE_length, HM.out.2.1], insE_all HT.out HM.out.2.2⟩⟩
      case measure => simp [intOf]; omega
    · have HK : Hid ((k = xs.length ∨ k = 60) ∧ (k = 0 → xs.length = 0)) := Lib.hid (by omega)
      obtain ⟨hb0, M, hM, hML, hMB⟩ := HI.out
      have HM := Lib.hid (And.intro hML hMB)
      have HD := Lib.hid (And.intro hb0 hM.dry)
      clear hb0 hM hML hMB H2 HI
      generalize hhi : wr.heap.size = hi at *
      have HHI : Hid (w.heap.size ≤ hi ∧ hi = wr.heap.size) := Lib.hid ⟨by have := HD.out.1.size; omega, hhi.symm⟩
      clear hhi
      obtain hlt | hlt : ¬ k < xs.length ∨ (k < xs.length ∧ ¬ k < 60) := by omega
      all_goals
        go_wp2_with fail
        refine (within_any cut (-1) 51 (by decide) (by decide) (by decide) _).mono ?_
        rintro e w' ⟨rfl, rfl⟩
        generalize withinZ cut (-1) 51 = C at *
        go_wp2_with fail
        have HC : Hid (∀ wz : World, wz.heap.size = hi → (wz.alloc (.cells #[.int .i64 C, .int .i64 60] 3)).cell? ⟨hi, 0, none⟩ = some (.int .i64 C) ∧ (wz.alloc (.cells #[.int .i64 C, .int .i64 60] 3)).cell? ⟨hi, 1, none⟩ = some (.int .i64 60)) := Lib.hid (by
          rintro wz rfl
          exact ⟨(Blk.new wz 3 [.int .i64 C, .int .i64 60]).cell 0 _ rfl, (Blk.new wz 3 [.int .i64 C, .int .i64 60]).cell 1 _ rfl⟩)
        rw [← HHI.out.2]
        go_loopw [9, 54] (fun v9 v54 wq => ∃ (X : List Int) (r : Nat) (m : List Ent), v54 = .int .i64 r ∧ r ≤ 2 ∧ m.length ≤ 60 ∧ Hid (Below w.heap.size w wq ∧ Dry wq w.heap.size hi w.heap.size b m M k k ∧ Own1 wq (hi + 1) v9 X ∧ X ++ m.map Ent.wh = M.map Ent.wh ∧ (r = 2 → m = []) ∧ (∀ e ∈ m, e.tm ≤ 50) ∧ hi < wq.heap.size ∧ wq.cell? ⟨hi, 0, none⟩ = some (.int .i64 C) ∧ wq.cell? ⟨hi, 1, none⟩ = some (.int .i64 60))) (fun _ v _ => 2 - (intOf v).toNat)
        case atStart =>
          have hal : Below hi wr (wr.alloc (.cells #[.int .i64 C, .int .i64 60] 3)) := (Below.refl _ _).alloc (Nat.le_of_eq HHI.out.2) _
          refine ⟨[], 0, M, rfl, by decide, by rw [HM.out.1]; exact hk2, Lib.hid ⟨HD.out.1.trans (hal.mono HHI.out.1), HD.out.2.above hal, World.ownsRow_nil _ _ _ _, rfl, fun h => by omega, fun e he => (HM.out.2 e he).2, by simp; have := HHI.out.2; omega, HC.out wr HHI.out.2.symm⟩⟩
        case round =>
          obtain ⟨X, r, m, rfl, hr, hm60, HJ⟩ := hrel
          by_cases hr2 : r < 2
          · have hrz : (r : Int) < 2 := by omega
            obtain ⟨Cn, hcn, HCN⟩ : ∃ Cn : Int, wr.cell? ⟨hi, r, none⟩ = some (.int .i64 Cn) ∧ Hid (r = 1 → Cn = 60) := by
              obtain rfl | rfl : r = 0 ∨ r = 1 := by omega
              · exact ⟨C, HJ.out.2.2.2.2.2.2.2.1, Lib.hid (fun h => by omega)⟩
              · exact ⟨60, HJ.out.2.2.2.2.2.2.2.2, Lib.hid (fun _ => rfl)⟩
            go_wp2_with fail
            go_loopw [9, 13] (fun v9 v13 wq => ∃ (X : List Int) (j : Nat) (m : List Ent), v13 = .int .i64 j ∧ j + m.length ≤ 60 ∧ X.length ≤ j + 60 ∧ Hid (Below w.heap.size w wq ∧ Dry wq w.heap.size hi w.heap.size b m M k k ∧ Own1 wq (hi + 1) v9 X ∧ X ++ m.map Ent.wh = M.map Ent.wh ∧ (∀ e ∈ m, e.tm ≤ 50) ∧ hi < wq.heap.size ∧ wq.cell? ⟨hi, 0, none⟩ = some (.int .i64 C) ∧ wq.cell? ⟨hi, 1, none⟩ = some (.int .i64 60))) (fun _ v _ => 70 - (intOf v).toNat)
            case atStart =>
              obtain ⟨h1, h2, h3, h4, h5, h6, h7, h8, h9⟩ := HJ.out
              have := congrArg List.length h4
              simp [HM.out.1] at this
              exact ⟨X, 0, m, rfl, by omega, by omega, Lib.hid ⟨h1, h2, h3, h4, h6, h7, h8, h9⟩⟩
            case round =>
              obtain ⟨X, j, m, rfl, hjm, hXj, HJ⟩ := hrel
              have hj70 : j < 70 := by omega
              obtain ⟨h1, h2, h3, h4, h6, h7, h8, h9⟩ := HJ.out
              cases m with
              | nil =>
                have HG := Lib.hid (due_0 w.heap.size w.heap.size k Cn _ h2.fst)
                clear h1 h2 h3 h4 h6 h7 h8 h9
                go_wp2_with fail
                refine HG.out.mono ?_
                rintro e w4 ⟨rfl, h5⟩
                obtain ⟨h1, h2, h3, h4, h6, h7, h8, h9⟩ := HJ.out
                have HJ2 := Lib.hid (And.intro (h1.trans (h5.mono h1.size)) (And.intro (h2.above (h5.mono (Nat.le_of_lt h7))) (And.intro (h3.cut h5) (And.intro h4 (And.intro (Nat.lt_of_lt_of_le h7 h5.size) (And.intro ((h5.cell (p := ⟨hi, 0, none⟩) h7).trans h8) ((h5.cell (p := ⟨hi, 1, none⟩) h7).trans h9)))))))
                clear h1 h2 h3 h4 h5 h6 h7 h8 h9
                go_wp2
                go_roundw
                case rel =>
                  obtain ⟨h1, h2, h3, h4, h7, h8, h9⟩ := HJ2.out
                  exact ⟨X, r + 1, [], by go_num, by omega, by simp, Lib.hid ⟨h1, h2, h3, h4, fun _ => rfl, (fun e he => by cases he), h7, h8, h9⟩⟩
                case measure => simp [intOf]; omega
              | cons x m =>
                by_cases hxt : x.tm ≤ Cn
                · have HG := Lib.hid (due_d w.heap.size hi w.heap.size b x m M k k Cn (by simp at hjm; omega) hxt _ h1.size h2)
                  clear h1 h2 h3 h4 h6 h7 h8 h9
                  go_wp2_with fail
                  refine HG.out.mono ?_
                  rintro e w4 ⟨rfl, k1, k2, k3⟩
                  obtain ⟨h1, h2, h3, h4, h6, h7, h8, h9⟩ := HJ.out
                  have HJ2 := Lib.hid (And.intro (h1.trans k2) (And.intro k1 (And.intro (h3.under k3 (Nat.le_succ _)) (And.intro h4 (And.intro (Nat.lt_of_lt_of_le h7 k3.size) (And.intro ((k3.cell (a := ⟨hi, 0, none⟩) h7 (Nat.lt_irrefl _)).trans h8) ((k3.cell (a := ⟨hi, 1, none⟩) h7 (Nat.lt_irrefl _)).trans h9)))))))
                  have HX6 := Lib.hid h6
                  clear h1 h2 h3 h4 h6 h7 h8 h9 k1 k2 k3 HG
                  generalize hxw : x.wh = xw at *
                  have HXW := Lib.hid hxw
                  clear hxw
                  go_wp2_with (at_builtin; (refine wpList_append_lies _ rfl _ _ 22 rfl (hi + 1) 3 i0 (.int .i64 0) 1 8 Try.underlying22 hi0 hz0 hz1 hz2 rfl (by decide) _ _ _ rfl (World.ownsRow.alloc HJ2.out.2.2.1 _) ⟨w4.heap.size, 0, none⟩ 1 1 [.int .i64 xw] rfl rfl (World.news_of_block (blk_new _ _)) (ints_one _) (by decide) (by rw [show X.length = X.length from rfl]; unfold maxLen; omega) (by rw [show X.length = X.length from rfl]; omega) (by have := HJ2.out.2.2.2.2.1; simp; omega) _ rfl ?_); intro gg cc w5 hown hgrow hat hlt5)
                  go_roundw
                  case rel =>
                    have hg2 : World.grownBy _ w5 u9.ownBlock := hgrow
                    obtain ⟨h1, h2, h3, h4, h7, h8, h9⟩ := HJ2.out
                    have hbl : Below (hi + 1) w4 w5 := ((Below.refl (hi + 1) w4).alloc h7 _).grown hg2 (by simp; omega) (fun j e => h3.ge e)
                    have hbl2 : Below hi w4 w5 := hbl.mono (Nat.le_succ _)
                    refine ⟨X ++ [xw], j + 1, m, by go_num, by simp at hjm; omega, by simp; omega, Lib.hid ⟨h1.trans (hbl.mono (Nat.le_succ_of_le HHI.out.1)), h2.above hbl2, ?_, ?_, fun e he => HX6.out e (List.mem_cons_of_mem _ he), Nat.lt_of_lt_of_le h7 hbl.size, (hbl.cell (p := ⟨hi, 0, none⟩) (Nat.lt_succ_self _)).trans h8, (hbl.cell (p := ⟨hi, 1, none⟩) (Nat.lt_succ_self _)).trans h9⟩⟩
                    · unfold Own1
                      rw [List.length_append, List.map_append]
                      exact hown
                    · rw [← h4, ← HXW.out]; simp
                  case measure => simp [intOf]; omega
                · have HG := Lib.hid (due_e w.heap.size w.heap.size x m k Cn (by omega) _ h2.fst)
                  clear h1 h2 h3 h4 h6 h7 h8 h9
                  go_wp2_with fail
                  refine HG.out.mono ?_
                  rintro e w4 ⟨rfl, h5⟩
                  obtain ⟨h1, h2, h3, h4, h6, h7, h8, h9⟩ := HJ.out
                  have HJ2 := Lib.hid (And.intro (h1.trans (h5.mono h1.size)) (And.intro (h2.above (h5.mono (Nat.le_of_lt h7))) (And.intro (h3.cut h5) (And.intro h4 (And.intro (Nat.lt_of_lt_of_le h7 h5.size) (And.intro ((h5.cell (p := ⟨hi, 0, none⟩) h7).trans h8) (And.intro ((h5.cell (p := ⟨hi, 1, none⟩) h7).trans h9) h6)))))))
                  clear h1 h2 h3 h4 h5 h6 h7 h8 h9
                  go_wp2
                  go_roundw
                  case rel =>
                    obtain ⟨h1, h2, h3, h4, h7, h8, h9, h6⟩ := HJ2.out
                    exact ⟨X, r + 1, x :: m, by go_num, by omega, by simp at hjm ⊢; omega, Lib.hid ⟨h1, h2, h3, h4, fun hq => absurd (HCN.out (by omega)) (by have := h6 x (List.mem_cons_self ..); omega), h6, h7, h8, h9⟩⟩
                  case measure => simp [intOf]; omega
          · have hrz : (2 : Int) ≤ (r : Int) := by omega
            have hrq : r = 2 := by omega
            obtain ⟨h1, h2, h3, h4, h5, h6, h7, h8, h9⟩ := HJ.out
            obtain rfl : m = [] := h5 hrq
            clear hrq hr2 hr
            have hX4 : X = M.map Ent.wh := by simpa using h4
            have hXl : X.length = k := by rw [hX4, List.length_map, HM.out.1]
            have HXL := Lib.hid (And.intro hX4 hXl)
            obtain ⟨A9, c9, rfl⟩ := h3.form
            have HP := Lib.hid (And.intro h1 (And.intro h2 (And.intro h3 (And.intro h3.lt (Nat.le_of_lt h7)))))
            clear h1 h2 h3 h4 h5 h6 h7 h8 h9 hX4 hXl HJ HC HD
            have HS2 : Hid (w.heap.size ≤ wr.heap.size ∧ hi ≤ wr.heap.size) := Lib.hid ⟨HP.out.1.size, HP.out.2.2.2.2⟩
            generalize hh2 : wr.heap.size = h2 at *
            have HH2 := Lib.hid hh2
            clear hh2
            go_wp2_with fail
            go_loopw [10, 16] (fun v10 v16 wq => ∃ (Y : List Int) (j : Nat) (m : List Ent), v16 = .int .i64 j ∧ j + m.length ≤ 60 ∧ Y.length ≤ j + 60 ∧ Hid (Below w.heap.size w wq ∧ Dry wq w.heap.size hi b w.heap.size m [] k k ∧ Own1 wq (hi + 1) (.slice A9 X.length c9) X ∧ Own1 wq h2 v10 Y ∧ Y ++ m.map Ent.wh = M.map Ent.wh ∧ (∀ e ∈ m, e.tm ≤ 50) ∧ h2 ≤ wq.heap.size)) (fun _ v _ => 70 - (intOf v).toNat)
            case atStart => exact ⟨[], 0, M, rfl, by have := HM.out.1; omega, by simp, Lib.hid ⟨HP.out.1, HP.out.2.1.swap, HP.out.2.2.1, World.ownsRow_nil _ _ _ _, rfl, fun e he => (HM.out.2 e he).2, Nat.le_of_eq HH2.out.symm⟩⟩
            case round =>
              obtain ⟨Y, j, m, rfl, hjm, hYj, HJ⟩ := hrel
              have hj70 : j < 70 := by omega
              obtain ⟨h1, h2', h3, h4, h6, h7, h8⟩ := HJ.out
              cases m with
              | nil =>
                have hY6 : Y = M.map Ent.wh := by simpa using h6
                have HG := Lib.hid (due_0 w.heap.size b k 60 _ h2'.fst)
                have HYX := Lib.hid (show X = Y by rw [hY6]; exact HXL.out.1)
                clear h1 h2' h3 h4 h6 h7 h8 hY6
                go_wp2_with fail
                refine HG.out.mono ?_
                rintro e w4 ⟨rfl, h5⟩
                obtain ⟨h1, h2', h3, h4, h6, h7, h8⟩ := HJ.out
                have h2'' := h2'.above (h5.mono (Nat.le_trans HS2.out.2 h8))
                have HJ2 := Lib.hid (And.intro (h1.trans (h5.mono h1.size)) (And.intro h2''.swap.fst (And.intro h2''.fst (And.intro (h3.cut h5).ints (h4.cut h5).ints))))
                clear h1 h2' h3 h4 h5 h6 h7 h8 h2'' HG HJ
                go_wp2_with fail
                refine (same_any _ _ X Y (by have := HXL.out.2; omega) _ HJ2.out.2.2.2.1 HJ2.out.2.2.2.2).mono ?_
                rintro e w5 ⟨rfl, h5⟩
                have HJ3 := Lib.hid (And.intro (HJ2.out.1.trans (h5.mono HJ2.out.1.size)) (And.intro (HJ2.out.2.1.cut h5) (HJ2.out.2.2.1.cut h5)))
                have hdt : decide (X = Y) = true := decide_eq_true HYX.out
                clear h5
                rw [hdt]
                go_wp2_with fail
                refine (len_x w.heap.size w.heap.size [] k _ HJ3.out.2.1).mono ?_
                rintro e w6 ⟨rfl, rfl⟩
                rw [show (([] : List Ent).length : Int) = 0 from rfl]
                go_wp2_with fail
                refine (len_x w.heap.size b [] k _ HJ3.out.2.2).mono ?_
                rintro e w6 ⟨rfl, rfl⟩
                rw [show (([] : List Ent).length : Int) = 0 from rfl]
                by_cases hx0 : xs.length = 0
                · have hx1 : ((xs.length : Int) == 0) = true := by simp [hx0]
                  have HX0 := Lib.hid hx0
                  clear hx0
                  go_wp2_with fail
                  refine (known_any _).mono ?_
                  rintro e w7 ⟨rfl, h5⟩
                  have HJ4 := Lib.hid (HJ3.out.1.trans (h5.mono HJ3.out.1.size))
                  clear h5
                  go_wp2
                  go_ret
                  exact ⟨rfl, HJ4.out⟩
                · have hx1 : ((xs.length : Int) == 0) = false := by simp [hx0]
                  have hx2 : (0 : Int) < (X.length : Int) := by
                    have h8 := HXL.out.2
                    have h9 : k ≠ 0 := fun h => hx0 (HK.out.2 h)
                    omega
                  have HX0 := Lib.hid hx0
                  clear hx0
                  go_wp2_with fail
                  refine (known_any _).mono ?_
                  rintro e w7 ⟨rfl, h5⟩
                  have HJ4 := Lib.hid (HJ3.out.1.trans (h5.mono HJ3.out.1.size))
                  clear h5
                  go_wp2
                  go_ret
                  exact ⟨rfl, HJ4.out⟩
              | cons x m =>
                have hxt := h7 x (List.mem_cons_self ..)
                have HG := Lib.hid (due_d w.heap.size hi b w.heap.size x m [] k k 60 (by simp at hjm; omega) (by omega) _ h1.size h2')
                have HX6 := Lib.hid h7
                clear h1 h2' h3 h4 h6 h7 h8
                go_wp2_with fail
                refine HG.out.mono ?_
                rintro e w4 ⟨rfl, k1, k2, k3⟩
                obtain ⟨h1, h2', h3, h4, h6, h7, h8⟩ := HJ.out
                have HJ2 := Lib.hid (And.intro (h1.trans k2) (And.intro k1 (And.intro (h3.under k3 (Nat.le_succ _)) (And.intro (h4.under k3 HS2.out.2) (And.intro h6 (Nat.le_trans h8 k3.size))))))
                clear h1 h2' h3 h4 h6 h7 h8 k1 k2 k3 HG HJ
                generalize hxw : x.wh = xw at *
                have HXW := Lib.hid hxw
                clear hxw
                go_wp2_with (at_builtin; (refine wpList_append_lies _ rfl _ _ 22 rfl h2 3 i0 (.int .i64 0) 1 8 Try.underlying22 hi0 hz0 hz1 hz2 rfl (by decide) _ _ _ rfl (World.ownsRow.alloc HJ2.out.2.2.2.1 _) ⟨w4.heap.size, 0, none⟩ 1 1 [.int .i64 xw] rfl rfl (World.news_of_block (blk_new _ _)) (ints_one _) (by decide) (by rw [show Y.length = Y.length from rfl]; unfold maxLen; omega) (by rw [show Y.length = Y.length from rfl]; omega) (by have := HJ2.out.2.2.2.2.2; simp; omega) _ rfl ?_); intro gg cc w5 hown hgrow hat hlt5)
                go_roundw
                case rel =>
                  have hg2 : World.grownBy _ w5 u10.ownBlock := hgrow
                  obtain ⟨h1, h2', h3, h4, h6, h8⟩ := HJ2.out
                  have hbl : Below h2 w4 w5 := ((Below.refl h2 w4).alloc h8 _).grown hg2 (by simp; omega) (fun j e => h4.ge e)
                  refine ⟨Y ++ [xw], j + 1, m, by go_num, by simp at hjm; omega, by simp; omega, Lib.hid ⟨h1.trans (hbl.mono HS2.out.1), h2'.above (hbl.mono HS2.out.2), h3.keep (fun k hk => HP.out.2.2.2.1 k hk) hbl, ?_, ?_, fun e he => HX6.out e (List.mem_cons_of_mem _ he), Nat.le_trans h8 hbl.size⟩⟩
                  · unfold Own1
                    rw [List.length_append, List.map_append]
                    exact hown
                  · rw [← h6, ← HXW.out]; simp
                case measure => simp [intOf]; omega
end Go.Proofs.Ytlccileccmiomaa
